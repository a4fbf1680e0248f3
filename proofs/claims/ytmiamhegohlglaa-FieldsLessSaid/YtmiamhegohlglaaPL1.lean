/- The plain law of layer 8, first part: digits, encoding and decoding by the program and by the reference are the same. -/
import Derived.Test.YtmiamhegohlglaaU
set_option linter.unusedSimpArgs false
set_option linter.unusedVariables false
namespace Go.Proofs.Ytmiamhegohlglaa

theorem low_succ (x : Int) : ∀ n, low x (n + 1) = low (x / 256) n ++ [x % 256]
  | 0 => by simp [low]
  | n + 1 => by
    have ih := low_succ x n
    show x / 2 ^ (8 * (n + 1)) % 256 :: low x (n + 1) = (x / 256 / 2 ^ (8 * n) % 256 :: low (x / 256) n) ++ [x % 256]
    rw [ih, List.cons_append]
    have e : x / 2 ^ (8 * (n + 1)) = x / 256 / 2 ^ (8 * n) := by
      rw [Int.ediv_ediv_of_nonneg (by omega), show 8 * (n + 1) = 8 + 8 * n from by omega, Int.pow_add]
      rfl
    rw [e]
theorem digs_step (x : Int) (h : 0 < x) : digs x = digs (x / 256) ++ [x % 256] := by
  have e : (bits x.toNat + 7) / 8 = (bits (x / 256).toNat + 7) / 8 + 1 := by
    by_cases hx : 256 ≤ x
    · have := bitsI_shift x 8 (by omega) hx
      have e2 : (x / 2 ^ 8) = x / 256 := rfl
      rw [e2] at this
      omega
    · have e0 : x / 256 = 0 := by omega
      have h1 := bits_le x.toNat 8 (by omega)
      have h2 : 1 ≤ bits x.toNat := by unfold bits; rw [if_neg (by omega)]; omega
      have h3 : bits (x / 256).toNat = 0 := by rw [e0]; rfl
      omega
  rw [digs, e, low_succ]
  rfl
theorem digs_zero : digs 0 = [] := rfl
theorem numB_digs : ∀ (k : Nat) (x : Int), 0 ≤ x → x < 256 ^ k → numB k x = digs x
  | 0, x, h0, h1 => by
    have : x = 0 := by simp at h1; omega
    subst this; rfl
  | k + 1, x, h0, h1 => by
    simp only [numB]
    split
    · rename_i h; subst h; rfl
    · rw [numB_digs k (x / 256) (by omega) (by rw [Int.pow_succ] at h1; omega), ← digs_step x (by omega)]
theorem outB_eq (r : Rule) (x : Fld) (h : FldOk x) : outB r x = fldB r x := by
  unfold outB fldB
  rw [numB_digs 9 x.num h.1 (Int.lt_of_lt_of_le h.2.1 (by decide))]
theorem one_eq (r : Rule) (x : Fld) (hk : r.kind = 1 ∨ r.kind = 2) : one r x = fldE r x := by
  unfold one fldE odd val
  rcases hk with h | h <;> simp [h]
theorem encR_eq (rs : List Rule) (hrs : ∀ r ∈ rs, 0 < r.tag ∧ (r.kind = 1 ∨ r.kind = 2)) : ∀ (fs : List Fld) (k : Nat) (prev last : Int), (k = 0 → last = 0) → (0 < k → prev = last) → (∀ x ∈ fs, FldOk x) →
    encR rs k prev fs = encF rs last fs
  | [], _, _, _, _, _, _ => rfl
  | x :: fs, k, prev, last, h0, h1, hok => by
    have ih := encR_eq rs hrs fs (k + 1) x.tag x.tag (by omega) (fun _ => rfl) (fun y hy => hok y (by simp [hy]))
    have hc : (!ruleHas x.tag rs || (decide (0 < (k : Int)) && decide (x.tag ≤ prev))) = (!ruleHas x.tag rs || decide (x.tag ≤ last)) := by
      cases hr : ruleHas x.tag rs with
      | false => rfl
      | true =>
        obtain ⟨hm, ht⟩ := ruleAt_mem hr
        have hp := (hrs _ hm).1
        rw [ht] at hp
        by_cases hk : k = 0
        · have := h0 hk
          subst this; subst hk
          simp; omega
        · have := h1 (by omega)
          subst this
          simp; omega
    simp only [encR, encF]
    rw [hc]
    by_cases h2 : (!ruleHas x.tag rs || decide (x.tag ≤ last)) = true
    · rw [if_pos h2, if_pos h2]
    · rw [if_neg h2, if_neg h2]
      have hr : ruleHas x.tag rs = true := by
        cases hh : ruleHas x.tag rs with
        | true => rfl
        | false => rw [hh] at h2; simp at h2
      rw [one_eq _ x (hrs _ (ruleAt_mem hr).1).2, outB_eq _ x (hok x (by simp)), ih]
theorem missing_all (rs : List Rule) (fs : List Fld) : missing rs rs.length fs = lackF rs fs := by
  unfold missing lackF needs
  rw [List.take_length, List.any_map, List.any_filter]
  rfl
theorem encode_eq (rs : List Rule) (fs : List Fld) (hok : ∀ x ∈ fs, FldOk x) : encodeR rs fs = encode rs fs := by
  unfold encode encodeR
  rw [refCheck_eq, missing_all]
  by_cases hc : check rs = 0
  · have hk := (check_ok hc).2
    rw [if_pos hc, if_pos hc, encR_eq rs (fun r hr => ⟨(hk r hr).1, by rcases (hk r hr).2.2.2 with h | h; exact .inl h; exact .inr h.1⟩) fs 0 0 0 (fun _ => rfl) (fun h => rfl) hok]
  · rw [if_neg hc, if_neg hc]

/-! reading -/
theorem be_one (c : UInt8) : be [c] = c.toNat := by simp [be]
theorem be_two (c d : UInt8) : be [c, d] = c.toNat * 256 + d.toNat := by simp [be]
theorem get_read (r : Rule) (b : List UInt8) (hk : r.kind = 1 ∨ r.kind = 2) : (getV r b).2.2 = (readV r b).2.2 ∧ ((readV r b).2.2 = true → (getV r b).1 = (readV r b).1 ∧ (getV r b).2.1 = b.drop (readV r b).2.1.toNat) := by
  rcases hk with hk | hk
  · match b with
    | [] => unfold getV readV; simp [hk]
    | c :: tl =>
      have e1 : r.kind.toNat = 1 := by rw [hk]; rfl
      unfold getV readV
      rw [e1, if_pos hk, if_neg (by simp), show (c :: tl).take 1 = [c] from rfl, show (c :: tl).drop 1 = tl from rfl, be_one, show b0 (c :: tl) = c from rfl, show b1 (c :: tl) = (tl[0]?).getD 0 from rfl, if_neg (show ¬ r.kind = 2 from by omega)]
      simp only [List.length_cons]
      have g := u8_ge c
      by_cases h1 : (tl.length : Int) < c.toNat
      · rw [if_pos h1, if_pos (by omega)]; simp
      · rw [if_neg h1]
        by_cases h2 : (8 : Int) < c.toNat ∨ (0 < (c.toNat : Int) ∧ ((tl[0]?).getD 0).toNat = 0)
        · rw [if_pos h2, if_pos (by omega)]; simp
        · rw [if_neg h2, if_neg (by omega)]
          refine ⟨rfl, fun _ => ⟨rfl, ?_⟩⟩
          simp only [Int.toNat_natCast]
          rw [show ((1 : Int) + (c.toNat : Int)).toNat = c.toNat + 1 from by omega, List.drop_succ_cons]
  · have e1 : r.kind.toNat = 2 := by rw [hk]; rfl
    match b with
    | [] => unfold getV readV; simp [hk]
    | [c] => unfold getV readV; simp [hk]
    | c :: d :: tl =>
      unfold getV readV
      have g := u8_ge c
      have g2 := u8_ge d
      rw [e1, if_neg (show ¬ r.kind = 1 from by omega), if_pos hk, if_neg (show ¬ (c :: d :: tl).length < 2 from by simp), if_neg (show ¬ ((c :: d :: tl).length : Int) < 2 from by simp only [List.length_cons]; omega), show (c :: d :: tl).take 2 = [c, d] from rfl, show (c :: d :: tl).drop 2 = tl from rfl, be_two, show b0 (c :: d :: tl) = c from rfl, show b1 (c :: d :: tl) = d from rfl]
      simp only [List.length_cons]
      have ec : (256 : Int) * c.toNat + d.toNat = c.toNat * 256 + d.toNat := by omega
      have en : (2 + (256 * c.toNat + d.toNat) : Nat) = (c.toNat * 256 + d.toNat) + 2 := by omega
      rw [ec]
      by_cases h1 : (tl.length : Int) < c.toNat * 256 + d.toNat
      · rw [if_pos h1, if_pos (by omega)]; simp
      · rw [if_neg h1]
        by_cases h2 : within r (c.toNat * 256 + d.toNat) = false
        · rw [if_pos (.inl h2)]; simp [h2]
        · have h3 : within r (c.toNat * 256 + d.toNat) = true := by simpa using h2
          rw [if_neg (by simp only [h3]; simp; omega)]
          refine ⟨h3, fun _ => ⟨?_, ?_⟩⟩
          · simp only [Fld.mk.injEq, true_and]
            rw [show ((c.toNat : Int) * 256 + d.toNat).toNat = c.toNat * 256 + d.toNat from by omega, en, show (c.toNat * 256 + d.toNat) + 2 = (c.toNat * 256 + d.toNat + 1) + 1 from rfl, List.take_succ_cons, List.take_succ_cons]
            rfl
          · rw [show ((2 : Int) + ((c.toNat : Int) * 256 + d.toNat)).toNat = (c.toNat * 256 + d.toNat + 1) + 1 from by omega, show ((c.toNat : Int) * 256 + d.toNat).toNat = c.toNat * 256 + d.toNat from by omega, List.drop_succ_cons, List.drop_succ_cons]

/-! what is missing -/
theorem checkGo_asc : ∀ (rs : List Rule) (last : Int), 0 ≤ last → checkGo last rs = 0 → rs.Pairwise (fun a b => a.tag < b.tag)
  | [], _, _, _ => List.Pairwise.nil
  | r :: rs, last, h0, h => by
    have h1 := checkGo_ok (r :: rs) last h0 h
    have hr := h1 r (by simp)
    have h2 : checkGo r.tag rs = 0 := by
      simp only [checkGo] at h
      split at h
      · cases h
      · split at h
        · exact h
        · split at h
          · cases h
          · exact h
    exact List.Pairwise.cons (fun q hq => (checkGo_ok rs r.tag (by omega) h2 q hq).1) (checkGo_asc rs r.tag (by omega) h2)
theorem check_asc {rs : List Rule} (h : check rs = 0) : rs.Pairwise (fun a b => a.tag < b.tag) := by
  unfold check at h
  split at h
  · cases h
  · exact checkGo_asc rs 0 (by omega) h
def rem (rs : List Rule) (acc : List Fld) : List Int := (needs rs).filter (fun t => !fldHas t acc)
theorem rem_asc {rs : List Rule} (h : check rs = 0) (acc : List Fld) : (rem rs acc).Pairwise (· < ·) := by
  unfold rem needs
  exact List.Pairwise.filter _ (List.pairwise_map.2 (List.Pairwise.filter _ (check_asc h)))
theorem mem_rem (rs : List Rule) (acc : List Fld) (t : Int) : t ∈ rem rs acc ↔ ∃ r ∈ rs, r.must = true ∧ r.tag = t ∧ fldHas t acc = false := by
  unfold rem needs
  simp only [List.mem_filter, List.mem_map, Bool.not_eq_true']
  constructor
  · rintro ⟨⟨r, ⟨h1, h2⟩, h3⟩, h4⟩; exact ⟨r, h1, h2, h3, h4⟩
  · rintro ⟨r, h1, h2, h3, h4⟩; exact ⟨⟨r, ⟨h1, h2⟩, h3⟩, h4⟩
theorem rem_nil (rs : List Rule) : rem rs [] = needs rs := by
  unfold rem
  rw [List.filter_eq_self.2]
  intro t _
  rfl
theorem rem_lack (rs : List Rule) (acc : List Fld) : lackF rs acc = decide (0 < ((rem rs acc).length : Int)) := by
  unfold lackF rem
  rw [Bool.eq_iff_iff, List.any_eq_true, decide_eq_true_iff]
  constructor
  · rintro ⟨t, h1, h2⟩
    have : t ∈ (needs rs).filter (fun t => !fldHas t acc) := List.mem_filter.2 ⟨h1, h2⟩
    have := List.length_pos_of_mem this
    omega
  · intro h
    obtain ⟨t, ht⟩ := List.exists_mem_of_length_pos (by omega : 0 < ((needs rs).filter (fun t => !fldHas t acc)).length)
    obtain ⟨h1, h2⟩ := List.mem_filter.1 ht
    exact ⟨t, h1, h2⟩
theorem head_lt {l : List Int} (h : l.Pairwise (· < ·)) (c : Int) : (decide (0 < (l.length : Int)) && decide (l.headD 0 < c)) = true ↔ ∃ t ∈ l, t < c := by
  cases l with
  | nil => simp
  | cons t l =>
    simp only [List.length_cons, List.headD_cons, Bool.and_eq_true, decide_eq_true_eq]
    constructor
    · rintro ⟨_, h1⟩; exact ⟨t, by simp, of_decide_eq_true h1⟩
    · rintro ⟨s, hs, h1⟩
      refine ⟨by omega, ?_⟩
      rcases List.mem_cons.1 hs with rfl | hs
      · exact decide_eq_true h1
      · have := (List.pairwise_cons.1 h).1 s hs
        exact decide_eq_true (show t < c by omega)
theorem missing_at {rs : List Rule} (hc : check rs = 0) {c : Int} (hr : ruleHas c rs = true) (acc : List Fld) :
    missing rs (idxN c rs) acc = (decide (0 < ((rem rs acc).length : Int)) && decide ((rem rs acc).headD 0 < c)) := by
  obtain ⟨j, hj, h1, h2⟩ := idx_at hr
  have hn : idxN c rs = j := by unfold idxN; rw [h1]; rfl
  have ht : rs[j].tag = c := by rw [h2]; exact (ruleAt_mem hr).2
  have hasc := List.pairwise_iff_getElem.1 (check_asc hc)
  rw [Bool.eq_iff_iff, head_lt (rem_asc hc acc), hn]
  unfold missing
  rw [List.any_eq_true]
  constructor
  · rintro ⟨r, hm, hl⟩
    obtain ⟨i, hi, rfl⟩ := List.mem_iff_getElem.1 hm
    rw [List.length_take] at hi
    rw [List.getElem_take] at hl
    simp only [lacks, Bool.and_eq_true, Bool.not_eq_true'] at hl
    exact ⟨rs[i].tag, (mem_rem rs acc _).2 ⟨rs[i], List.getElem_mem _, hl.1, rfl, hl.2⟩, by have := hasc i j (by omega) hj (by omega); omega⟩
  · rintro ⟨t, hm, hlt⟩
    obtain ⟨r, h3, h4, rfl, h5⟩ := (mem_rem rs acc t).1 hm
    obtain ⟨i, hi, rfl⟩ := List.mem_iff_getElem.1 h3
    have hij : i < j := by
      rcases Nat.lt_trichotomy i j with h | h | h
      · exact h
      · subst h; omega
      · have := hasc j i hj hi h; omega
    exact ⟨rs[i], List.mem_iff_getElem.2 ⟨i, by rw [List.length_take]; omega, by rw [List.getElem_take]⟩, by simp [lacks, h4, h5]⟩
theorem fldHas_snoc (t : Int) (acc : List Fld) (x : Fld) : fldHas t (acc ++ [x]) = (fldHas t acc || decide (x.tag = t)) := by
  unfold fldHas
  rw [List.find?_append]
  cases h : acc.find? (fun x => decide (x.tag = t)) with
  | some y => simp
  | none =>
    by_cases hx : x.tag = t <;> simp [hx]
theorem rem_snoc {rs : List Rule} (hc : check rs = 0) (acc : List Fld) (x : Fld) (h : ¬ ∃ t ∈ rem rs acc, t < x.tag) :
    rem rs (acc ++ [x]) = if (decide (0 < ((rem rs acc).length : Int)) && decide ((rem rs acc).headD 0 = x.tag)) = true then (rem rs acc).tail else rem rs acc := by
  have e : rem rs (acc ++ [x]) = (rem rs acc).filter (fun t => !decide (x.tag = t)) := by
    unfold rem
    rw [List.filter_filter]
    congr 1
    funext t
    rw [fldHas_snoc]
    cases fldHas t acc <;> simp
  rw [e]
  have hasc := rem_asc hc acc
  generalize rem rs acc = ms at h hasc
  cases ms with
  | nil => rfl
  | cons t ts =>
    have h1 := (List.pairwise_cons.1 hasc).1
    have h2 : ¬ t < x.tag := fun hh => h ⟨t, by simp, hh⟩
    have h3 : ts.filter (fun s => !decide (x.tag = s)) = ts := by
      rw [List.filter_eq_self]
      intro s hs
      have := h1 s hs
      simp; omega
    by_cases ht : t = x.tag
    · rw [if_pos (by simp [ht]), List.filter_cons_of_neg (by simp [ht]), h3]
      rfl
    · rw [if_neg (by simp [ht]), List.filter_cons_of_pos (by simp; omega), h3]

/-! the two decodings -/
def fin (b : List UInt8) (acc : List Fld) (d : List Fld × List UInt8 × List Int) : List Fld × Int × Int :=
  if (decide ((0 : Int) < d.2.1.length) || decide ((0 : Int) < d.2.2.length)) = true then ([], (b.length : Int) - d.2.1.length, 11) else (acc ++ d.1, 0, 0)
theorem fin_nil (rs : List Rule) (b : List UInt8) (acc : List Fld) : finR rs b acc = fin b acc ([], [], rem rs acc) := by
  unfold finR fin
  rw [missing_all, rem_lack]
  simp
theorem fin_stop (b : List UInt8) (acc : List Fld) (k : Nat) (c : UInt8) (tl : List UInt8) (ms : List Int) (h : b.drop k = c :: tl) : fin b acc ([], c :: tl, ms) = ([], (k : Int), 11) := by
  have hl : (b.drop k).length = tl.length + 1 := by rw [h]; rfl
  rw [List.length_drop] at hl
  unfold fin
  rw [if_pos (by simp)]
  simp only [List.length_cons, Prod.mk.injEq, true_and, and_true]
  omega
theorem dec_eq {rs : List Rule} (hc : check rs = 0) (b : List UInt8) : ∀ (n k : Nat) (last : Int) (acc : List Fld), b.length ≤ n + k → decR rs b n last acc k = fin b acc (decF rs n (rem rs acc) last (b.drop k))
  | 0, k, last, acc, h => by
    rw [List.drop_eq_nil_of_le (by omega), decF_nil, ← fin_nil]
    rfl
  | n + 1, k, last, acc, h => by
    by_cases hk : b.length ≤ k
    · rw [List.drop_eq_nil_of_le hk, decF_nil, ← fin_nil, decR_end _ _ _ _ _ _ hk]
    · have hlt : k < b.length := by omega
      have hd := List.drop_eq_getElem_cons hlt
      have hb : b[k]? = some b[k] := List.getElem?_eq_getElem hlt
      generalize b[k] = c at hd hb
      rw [decR_step rs b n last acc k c hb, hd]
      simp only [decF]
      by_cases hr : ruleHas c.toNat rs = true
      · have ht := (ruleAt_mem hr).2
        have hkd := (check_ok hc).2 _ (ruleAt_mem hr).1
        rw [ht, missing_at hc hr acc]
        by_cases h1 : ((!ruleHas (c.toNat : Int) rs || decide ((c.toNat : Int) ≤ last)) || (decide (0 < ((rem rs acc).length : Int)) && decide ((rem rs acc).headD 0 < (c.toNat : Int)))) = true
        · rw [if_pos h1, if_pos h1, fin_stop b acc k c _ _ hd]
        · rw [if_neg h1, if_neg h1]
          obtain ⟨g1, g2⟩ := get_read (ruleAt c.toNat rs) (b.drop (k + 1)) (by rcases hkd.2.2.2 with h | h; exact .inl h; exact .inr h.1)
          rw [g1]
          by_cases h2 : (readV (ruleAt c.toNat rs) (b.drop (k + 1))).2.2 = true
          · obtain ⟨g3, g4⟩ := g2 h2
            have hnn := (readV_len _ _ h2).1
            rw [if_neg (by simp [h2]), if_neg (by simp [h2]), readV_tag, ht, g3, g4, List.drop_drop]
            have hle : ¬ ∃ t ∈ rem rs acc, t < (c.toNat : Int) := fun hh => by
              have := (head_lt (rem_asc hc acc) (c.toNat : Int)).2 hh
              rw [this] at h1
              simp at h1
            have hs := rem_snoc hc acc (readV (ruleAt c.toNat rs) (b.drop (k + 1))).1 (by rw [readV_tag, ht]; exact hle)
            rw [readV_tag, ht] at hs
            rw [dec_eq hc b n _ _ _ (by omega), ← hs]
            unfold fin
            simp only [List.append_assoc, List.singleton_append]
          · rw [if_pos (by simpa using h2), if_pos (by simpa using h2), fin_stop b acc k c _ _ hd]
      · have hr' : ruleHas (c.toNat : Int) rs = false := by simpa using hr
        rw [if_pos (by simp [hr']), if_pos (by simp [hr']), fin_stop b acc k c _ _ hd]
theorem decode_eq (rs : List Rule) (b : List UInt8) : decodeR rs b = decode rs b := by
  unfold decode decodeR
  rw [refCheck_eq]
  by_cases hc : check rs = 0
  · rw [if_pos hc, if_pos hc, dec_eq hc b b.length 0 0 [] (by omega), rem_nil]
    rfl
  · rw [if_neg hc, if_neg hc]
end Go.Proofs.Ytmiamhegohlglaa
