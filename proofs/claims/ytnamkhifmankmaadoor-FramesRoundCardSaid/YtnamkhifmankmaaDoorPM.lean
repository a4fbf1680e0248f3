/- Frames of payloads, one behind the other, and what is read of them (no program in sight). -/
import Derived.Test.YtnamkhifmankmaaDoorPL
set_option linter.unusedSimpArgs false
set_option linter.unusedVariables false
namespace Go.Proofs.YtnamkhifmankmaaDoor
def frm (p : List UInt8) : List UInt8 := hdB p.length ++ p
def joinGo : List (List UInt8) → List UInt8 → List UInt8 × Int
  | [], acc => (acc, 0)
  | p :: l, acc => if (frame p).2 ≠ 0 then ([], (frame p).2) else joinGo l (acc ++ (frame p).1)
def joinF (l : List (List UInt8)) : List UInt8 × Int := if 1000 < (l.length : Int) then ([], 3) else joinGo l []
theorem frame_0 {p : List UInt8} (h : (frame p).2 = 0) : (frame p).1 = frm p ∧ 1 ≤ p.length ∧ p.length ≤ 1024 := by
  unfold frame at h ⊢
  split at h
  · cases h
  · rename_i h1
    rw [if_neg h1]
    split at h
    · cases h
    · rename_i h2
      rw [if_neg h2]
      exact ⟨rfl, by omega, by omega⟩
theorem frame_ok {p : List UInt8} (h1 : 1 ≤ p.length) (h2 : p.length ≤ 1024) : frame p = (frm p, 0) := by
  unfold frame
  rw [if_neg (by omega), if_neg (by omega)]
  rfl
theorem joinGo_0 : ∀ (l : List (List UInt8)) (acc : List UInt8), (joinGo l acc).2 = 0 → (joinGo l acc).1 = acc ++ (l.map frm).flatten ∧ ∀ p ∈ l, 1 ≤ p.length ∧ p.length ≤ 1024
  | [], acc, _ => by simp [joinGo]
  | p :: l, acc, h => by
    rw [joinGo] at h ⊢
    split at h
    · rename_i hp; exact absurd h hp
    · rename_i hp
      rw [if_neg hp]
      have hp' : (frame p).2 = 0 := by simpa using hp
      obtain ⟨h1, h2, h3⟩ := frame_0 hp'
      obtain ⟨h4, h5⟩ := joinGo_0 l _ h
      refine ⟨by rw [h4, h1]; simp, fun q hq => ?_⟩
      rcases List.mem_cons.1 hq with rfl | hq
      · exact ⟨h2, h3⟩
      · exact h5 q hq
theorem hd_frm (p r : List UInt8) : hd (frm p ++ r) 0 = 71 ∧ hd (frm p ++ r) 1 = 1 ∧ hd (frm p ++ r) 2 = UInt8.ofNat (p.length / 256) ∧ hd (frm p ++ r) 3 = UInt8.ofNat (p.length % 256) := by
  refine ⟨rfl, rfl, rfl, rfl⟩
theorem long_frm {p : List UInt8} (r : List UInt8) (h : p.length ≤ 1024) : longB (frm p ++ r) = p.length := by
  obtain ⟨_, _, h2, h3⟩ := hd_frm p r
  unfold longB
  rw [h2, h3, UInt8.toNat_ofNat', UInt8.toNat_ofNat']
  omega
theorem frm_len (p : List UInt8) : (frm p).length = 4 + p.length := by unfold frm hdB; simp; omega
theorem split_frm {p : List UInt8} (r : List UInt8) (h1 : 1 ≤ p.length) (h2 : p.length ≤ 1024) : split (frm p ++ r) = (p :: (split r).1, (split r).2) := by
  have hl := long_frm r h2
  have hn : (frm p ++ r).length = 4 + p.length + r.length := by rw [List.length_append, frm_len]
  obtain ⟨a0, a1, a2, _⟩ := hd_frm p r
  have hf : fitsB (frm p ++ r) = true := by
    unfold fitsB
    rw [if_pos (by omega), hl, a0, a1, a2]
    simp only [decide_eq_true_eq]
    refine ⟨h1, h2, ?_, rfl, rfl⟩
    rw [UInt8.toNat_ofNat']; omega
  have hw : wholeB (frm p ++ r) = true := by
    unfold wholeB
    rw [hl, hn]
    simp; omega
  rw [split_go hf hw]
  have e1 : (frm p ++ r).take (4 + p.length) = frm p := by rw [← frm_len, List.take_left']; rfl
  have e2 : (frm p ++ r).drop (4 + p.length) = r := by rw [← frm_len, List.drop_left']; rfl
  unfold payB restB
  rw [hl, e1, e2]
  rfl
theorem split_nil : split [] = ([], ([], false)) := by decide +kernel
theorem split_join : ∀ (l : List (List UInt8)), (∀ p ∈ l, 1 ≤ p.length ∧ p.length ≤ 1024) → split (l.map frm).flatten = (l, ([], false))
  | [], _ => split_nil
  | p :: l, h => by
    have h0 := h p (by simp)
    rw [List.map_cons, List.flatten_cons, split_frm _ h0.1 h0.2, split_join l (fun q hq => h q (by simp [hq]))]
theorem round_1 {l : List (List UInt8)} (h : (joinF l).2 = 0) : split (joinF l).1 = (l, ([], false)) := by
  unfold joinF at h ⊢
  split at h
  · cases h
  · rename_i h1
    rw [if_neg h1]
    obtain ⟨h2, h3⟩ := joinGo_0 l [] h
    rw [h2, List.nil_append]
    exact split_join l h3
theorem u8_back (x : UInt8) : UInt8.ofNat x.toNat = x := UInt8.ofNat_toNat
theorem frm_pay {b : List UInt8} (hf : fitsB b = true) (hw : wholeB b = true) : frm (payB b) ++ restB b = b ∧ (payB b).length = longB b := by
  obtain ⟨h4, hn⟩ := whole_len hw
  have hl : (payB b).length = longB b := by unfold payB; rw [List.length_drop, List.length_take]; omega
  refine ⟨?_, hl⟩
  have hx : hd b 0 = 71 ∧ hd b 1 = 1 := by
    unfold fitsB at hf
    rw [if_pos h4] at hf
    simp only [decide_eq_true_eq] at hf
    exact ⟨UInt8.toNat_inj.1 hf.2.2.2.2, UInt8.toNat_inj.1 hf.2.2.2.1⟩
  have hh : hdB (longB b) = b.take 4 := by
    match b, h4 with
    | a :: c :: e :: f :: r, _ =>
      have e0 : a = 71 := hx.1
      have e1 : c = 1 := hx.2
      have e2 : hd (a :: c :: e :: f :: r) 2 = e := rfl
      have e3 : hd (a :: c :: e :: f :: r) 3 = f := rfl
      unfold hdB longB
      rw [e2, e3]
      have lt := f.toNat_lt
      rw [show (256 * e.toNat + f.toNat) / 256 = e.toNat from by omega, show (256 * e.toNat + f.toNat) % 256 = f.toNat from by omega, u8_back, u8_back, e0, e1]
      rfl
  unfold frm
  rw [hl, hh]
  unfold payB restB
  have e4 : b.take 4 = (b.take (4 + longB b)).take 4 := by rw [List.take_take]; congr 1; omega
  rw [e4, List.take_append_drop, List.take_append_drop]
theorem round_2 : ∀ (n : Nat) (b : List UInt8), b.length < n → (split b).2.2 = false → ((split b).1.map frm).flatten ++ (split b).2.1 = b ∧ ∀ p ∈ (split b).1, 1 ≤ p.length ∧ p.length ≤ 1024
  | 0, b, h, _ => absurd h (Nat.not_lt_zero _)
  | n + 1, b, h, hs => by
    by_cases hf : fitsB b = true
    · by_cases hw : wholeB b = true
      · rw [split_go hf hw] at hs ⊢
        dsimp only at hs ⊢
        obtain ⟨h1, h2⟩ := frm_pay hf hw
        obtain ⟨h4, _⟩ := whole_len hw
        have hl := fits_long hf h4
        obtain ⟨h5, h6⟩ := round_2 n (restB b) (by have := restB_lt hw; omega) hs
        refine ⟨by rw [List.map_cons, List.flatten_cons, List.append_assoc, h5, h1], fun p hp => ?_⟩
        rcases List.mem_cons.1 hp with rfl | hp
        · rw [h2]; exact hl
        · exact h6 p hp
      · rw [split_left hf (by simpa using hw)]
        simp
    · rw [split_bad (by simpa using hf)] at hs
      cases hs
end Go.Proofs.YtnamkhifmankmaaDoor
