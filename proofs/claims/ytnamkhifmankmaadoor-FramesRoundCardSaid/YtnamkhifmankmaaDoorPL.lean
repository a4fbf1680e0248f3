/- Streams of frames: what is read of a beginning, and of what follows (no program in sight). -/
import Derived.Test.YtnamkhifmankmaaDoorC
set_option linter.unusedSimpArgs false
set_option linter.unusedVariables false
namespace Go.Proofs.YtnamkhifmankmaaDoor

theorem hd_app {b c : List UInt8} {i : Nat} (h : i < b.length) : hd (b ++ c) i = hd b i := by simp [hd, List.getElem?_append_left h]
theorem long_app {b c : List UInt8} (h : 4 ≤ b.length) : longB (b ++ c) = longB b := by unfold longB; rw [hd_app (by omega), hd_app (by omega)]
theorem whole_app {b c : List UInt8} (h : wholeB b = true) : wholeB (b ++ c) = true := by
  have := whole_len h
  unfold wholeB
  rw [long_app this.1]
  simp; omega
theorem pay_app {b c : List UInt8} (h : wholeB b = true) : payB (b ++ c) = payB b := by
  have := whole_len h
  unfold payB
  rw [long_app this.1, List.take_append_of_le_length this.2]
theorem rest_app {b c : List UInt8} (h : wholeB b = true) : restB (b ++ c) = restB b ++ c := by
  have := whole_len h
  unfold restB
  rw [long_app this.1, List.drop_append_of_le_length this.2]
theorem fits_pre {b c : List UInt8} (h : fitsB (b ++ c) = true) : fitsB b = true := by
  have h0 : 0 < b.length → hd (b ++ c) 0 = hd b 0 := fun h => hd_app h
  have h1 : 1 < b.length → hd (b ++ c) 1 = hd b 1 := fun h => hd_app h
  have h2 : 2 < b.length → hd (b ++ c) 2 = hd b 2 := fun h => hd_app h
  have h3 : 4 ≤ b.length → longB (b ++ c) = longB b := fun h => long_app h
  have hl : (b ++ c).length = b.length + c.length := List.length_append
  unfold fitsB at h ⊢
  rw [hl] at h
  by_cases c4 : 4 ≤ b.length
  · rw [if_pos (by omega)] at h
    rw [if_pos c4]
    simp only [decide_eq_true_eq] at h ⊢
    rw [h3 c4, h0 (by omega), h1 (by omega), h2 (by omega)] at h
    exact h
  · rw [if_neg c4]
    by_cases c3 : b.length = 3
    · rw [if_pos c3]
      rw [h0 (by omega), h1 (by omega), h2 (by omega)] at h
      simp only [decide_eq_true_eq]
      split at h
      · simp only [decide_eq_true_eq] at h; exact h.2.2
      · rw [if_pos (by omega)] at h; simpa using h
    · rw [if_neg c3]
      by_cases c2 : b.length = 2
      · rw [if_pos c2]
        rw [h0 (by omega), h1 (by omega)] at h
        simp only [decide_eq_true_eq]
        split at h
        · simp only [decide_eq_true_eq] at h; exact h.2.2.2
        · split at h
          · simp only [decide_eq_true_eq] at h; exact h.2
          · rw [if_pos (by omega)] at h; simpa using h
      · rw [if_neg c2]
        by_cases c1 : b.length = 1
        · rw [if_pos c1]
          rw [h0 (by omega)] at h
          simp only [decide_eq_true_eq]
          split at h
          · simp only [decide_eq_true_eq] at h; exact h.2.2.2.2
          · split at h
            · simp only [decide_eq_true_eq] at h; exact h.2.2
            · split at h
              · simp only [decide_eq_true_eq] at h; exact h.2
              · rw [if_pos (by omega)] at h; simpa using h
        · rw [if_neg c1]
theorem fits_whole {b c : List UInt8} (h : wholeB b = true) (hf : fitsB b = true) : fitsB (b ++ c) = true := by
  have hw := whole_len h
  unfold fitsB at hf ⊢
  rw [if_pos hw.1] at hf
  rw [if_pos (by rw [List.length_append]; omega), long_app hw.1, hd_app (by omega), hd_app (by omega), hd_app (by omega)]
  exact hf

theorem strm_fuel : ∀ (n m : Nat) (b : List UInt8), b.length < n → b.length < m → strm n b = strm m b
  | 0, _, b, h, _ => by omega
  | _, 0, b, _, h => by omega
  | n + 1, m + 1, b, h, h' => by
    simp only [strm]
    by_cases hf : fitsB b = true
    · by_cases hw : wholeB b = true
      · have := restB_lt hw
        rw [if_pos hf, if_pos hf, if_pos hw, if_pos hw, strm_fuel n m (restB b) (by omega) (by omega)]
      · rw [if_pos hf, if_pos hf, if_neg hw, if_neg hw]
    · rw [if_neg hf, if_neg hf]
theorem split_bad {b : List UInt8} (hf : fitsB b = false) : split b = ([], ([], true)) := by simp [split, strm, hf]
theorem split_left {b : List UInt8} (hf : fitsB b = true) (hw : wholeB b = false) : split b = ([], (b, false)) := by simp [split, strm, hf, hw]
theorem split_go {b : List UInt8} (hf : fitsB b = true) (hw : wholeB b = true) : split b = (payB b :: (split (restB b)).1, (split (restB b)).2) := by
  have := restB_lt hw
  have e : split b = (payB b :: (strm b.length (restB b)).1, (strm b.length (restB b)).2) := by simp [split, strm, hf, hw]
  rw [e, strm_fuel b.length ((restB b).length + 1) (restB b) this (by omega)]
  rfl

/-- what follows a beginning -/
theorem split_app : ∀ (n : Nat) (b c : List UInt8), b.length < n → split (b ++ c) = if (split b).2.2 = true then ((split b).1, ([], true)) else ((split b).1 ++ (split ((split b).2.1 ++ c)).1, (split ((split b).2.1 ++ c)).2)
  | 0, b, c, h => by omega
  | n + 1, b, c, h => by
    by_cases hf : fitsB b = true
    · by_cases hw : wholeB b = true
      · have hlt := restB_lt hw
        have ih := split_app n (restB b) c (by omega)
        rw [split_go (fits_whole hw hf) (whole_app hw), pay_app hw, rest_app hw, split_go hf hw, ih]
        dsimp only
        split <;> rfl
      · rw [split_left hf (by simpa using hw)]
        simp
    · have hf' : fitsB b = false := by simpa using hf
      have : fitsB (b ++ c) = false := by
        cases he : fitsB (b ++ c) with
        | false => rfl
        | true => exact absurd (fits_pre he) hf
      rw [split_bad hf', split_bad this]
      rfl
theorem split_state : ∀ (n : Nat) (b : List UInt8), b.length < n → ((split b).2.2 = true ∧ (split b).2.1 = []) ∨ ((split b).2.2 = false ∧ fitsB (split b).2.1 = true ∧ wholeB (split b).2.1 = false)
  | 0, b, h => by omega
  | n + 1, b, h => by
    by_cases hf : fitsB b = true
    · by_cases hw : wholeB b = true
      · have hlt := restB_lt hw
        rw [split_go hf hw]
        exact split_state n (restB b) (by omega)
      · rw [split_left hf (by simpa using hw)]
        exact .inr ⟨rfl, hf, by simpa using hw⟩
    · rw [split_bad (by simpa using hf)]
      exact .inl ⟨rfl, rfl⟩
theorem chk_state (b : List UInt8) : chk (split b).2 = 0 := by
  unfold chk
  rcases split_state (b.length + 1) b (by omega) with ⟨h1, h2⟩ | ⟨h1, h2, h3⟩
  · rw [h1, h2, split_left (b := []) rfl rfl]; rfl
  · rw [h1, split_left h2 h3]; rfl
/-- one piece more -/
theorem feed_piece (pre c : List UInt8) : (feed (split pre).2 c).2.2 = 0 ∧ (split (pre ++ c)).1 = (split pre).1 ++ (feed (split pre).2 c).2.1 ∧ (split (pre ++ c)).2 = (feed (split pre).2 c).1 := by
  unfold feed
  rw [if_pos (chk_state pre)]
  rw [split_app (pre.length + 1) pre c (by omega)]
  rcases split_state (pre.length + 1) pre (by omega) with ⟨h1, h2⟩ | ⟨h1, h2, h3⟩
  · rw [if_pos h1, if_pos h1]
    refine ⟨rfl, by simp, ?_⟩
    rw [Prod.ext_iff]
    exact ⟨h2.symm, h1.symm⟩
  · rw [if_neg (by rw [h1]; simp), if_neg (by rw [h1]; simp)]
    exact ⟨rfl, rfl, rfl⟩
/-- a stream that is broken stays so -/
theorem broken_law (b more : List UInt8) (h : (split b).2.2 = true) : (split (b ++ more)).2.2 = true ∧ (split (b ++ more)).1 = (split b).1 := by
  rw [split_app (b.length + 1) b more (by omega), if_pos h]
  exact ⟨rfl, rfl⟩
/-- with fewer bytes than are needed no payload is read -/
theorem need_law (b part : List UInt8) (h : (split b).2.2 = false) : (need (split b).2).2 = 0 ∧ 1 ≤ (need (split b).2).1 ∧ (feed (split b).2 part).2.2 = 0 ∧ ((part.length : Int) < (need (split b).2).1 → (feed (split b).2 part).2.1 = []) := by
  have hc := chk_state b
  obtain ⟨_, hf, hw⟩ : (split b).2.2 = false ∧ fitsB (split b).2.1 = true ∧ wholeB (split b).2.1 = false := by
    rcases split_state (b.length + 1) b (by omega) with ⟨h1, _⟩ | h2
    · rw [h] at h1; cases h1
    · exact h2
  have hfd : feed (split b).2 part = ((split ((split b).2.1 ++ part)).2, (split ((split b).2.1 ++ part)).1, 0) := by
    unfold feed; rw [if_pos hc, if_neg (by rw [h]; simp)]
  have hnd : need (split b).2 = if ((split b).2.1.length : Int) < 4 then ((5 : Int) - (split b).2.1.length, (0 : Int)) else ((4 : Int) + longB (split b).2.1 - (split b).2.1.length, (0 : Int)) := by
    unfold need; rw [if_neg (by rw [hc, h]; simp)]
  rw [hfd, hnd]
  generalize (split b).2.1 = u at hf hw
  simp only [wholeB, Bool.and_eq_false_iff, decide_eq_false_iff_not] at hw
  have key : ∀ v : List UInt8, (4 ≤ v.length → (wholeB v = true → fitsB v = false)) → (split v).1 = [] := by
    intro v hv
    by_cases hfv : fitsB v = true
    · by_cases hwv : wholeB v = true
      · have := hv (whole_len hwv).1 hwv; rw [hfv] at this; cases this
      · rw [split_left hfv (by simpa using hwv)]
    · rw [split_bad (by simpa using hfv)]
  split
  · rename_i h4
    refine ⟨rfl, by dsimp only; omega, rfl, fun hp => key _ fun hv4 hwv => ?_⟩
    dsimp only at hp
    have hvl : (u ++ part).length = u.length + part.length := List.length_append
    have hw2 := whole_len hwv
    cases hfv : fitsB (u ++ part) with
    | false => rfl
    | true => have := fits_long hfv hw2.1; omega
  · rename_i h4
    refine ⟨rfl, by dsimp only; omega, rfl, fun hp => key _ fun hv4 hwv => ?_⟩
    dsimp only at hp
    have hvl : (u ++ part).length = u.length + part.length := List.length_append
    have hw2 := whole_len hwv
    rw [long_app (by omega)] at hw2
    omega

end Go.Proofs.YtnamkhifmankmaaDoor
