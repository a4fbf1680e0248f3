/- The plain law of layer 8, third part: messages. -/
import Derived.Test.YtmiamhegohlglaaPL2
set_option linter.unusedSimpArgs false
set_option linter.unusedVariables false
namespace Go.Proofs.Ytmiamhegohlglaa

theorem ruleHas_kind {rs : List Rule} (hc : check rs = 0) {t : Int} (h : ruleHas t rs = true) :
    (ruleAt t rs).tag = t ∧ 0 < t ∧ t ≤ 63 ∧ ((ruleAt t rs).kind = 1 ∨ ((ruleAt t rs).kind = 2 ∧ (ruleAt t rs).high ≤ 400)) := by
  obtain ⟨hm, ht⟩ := ruleAt_mem h
  have := (check_ok hc).2 _ hm
  rw [ht] at this
  exact ⟨ht, this.1, this.2.1, this.2.2.2⟩
theorem ruleHas_kind' {rs : List Rule} (hc : check rs = 0) {t : Int} (h : ruleHas t rs = true) : (ruleAt t rs).kind = 1 ∨ (ruleAt t rs).kind = 2 := by
  rcases (ruleHas_kind hc h).2.2.2 with h | h
  · exact .inl h
  · exact .inr h.1

/-- one round of the decoding -/
theorem decF_cons (rs : List Rule) (n : Nat) (ms : List Int) (last : Int) (c : UInt8) (tl : List UInt8) :
    (decF rs (n + 1) ms last (c :: tl) = ([], c :: tl, ms)) ∨
    (ruleHas c.toNat rs = true ∧ last < (c.toNat : Int) ∧ ¬ ((decide ((0 : Int) < ms.length) && decide (ms.headD 0 < (c.toNat : Int))) = true) ∧ (getV (ruleAt c.toNat rs) tl).2.2 = true ∧
      decF rs (n + 1) ms last (c :: tl) = ((getV (ruleAt c.toNat rs) tl).1 :: (decF rs n (if (decide ((0 : Int) < ms.length) && decide (ms.headD 0 = (c.toNat : Int))) = true then ms.tail else ms) c.toNat (getV (ruleAt c.toNat rs) tl).2.1).1,
        (decF rs n (if (decide ((0 : Int) < ms.length) && decide (ms.headD 0 = (c.toNat : Int))) = true then ms.tail else ms) c.toNat (getV (ruleAt c.toNat rs) tl).2.1).2)) := by
  have e : decF rs (n + 1) ms last (c :: tl) = if ((!ruleHas c.toNat rs || decide ((c.toNat : Int) ≤ last)) || (decide ((0 : Int) < ms.length) && decide (ms.headD 0 < (c.toNat : Int)))) = true then ([], c :: tl, ms)
    else if (!(getV (ruleAt c.toNat rs) tl).2.2) = true then ([], c :: tl, ms)
    else ((getV (ruleAt c.toNat rs) tl).1 :: (decF rs n (if (decide ((0 : Int) < ms.length) && decide (ms.headD 0 = (c.toNat : Int))) = true then ms.tail else ms) c.toNat (getV (ruleAt c.toNat rs) tl).2.1).1, (decF rs n (if (decide ((0 : Int) < ms.length) && decide (ms.headD 0 = (c.toNat : Int))) = true then ms.tail else ms) c.toNat (getV (ruleAt c.toNat rs) tl).2.1).2) := by
    rw [decF]
  rw [e]
  by_cases h1 : ((!ruleHas c.toNat rs || decide ((c.toNat : Int) ≤ last)) || (decide ((0 : Int) < ms.length) && decide (ms.headD 0 < (c.toNat : Int)))) = true
  · rw [if_pos h1]; exact .inl rfl
  · rw [if_neg h1]
    by_cases h2 : (!(getV (ruleAt c.toNat rs) tl).2.2) = true
    · rw [if_pos h2]; exact .inl rfl
    · rw [if_neg h2]
      rw [Bool.not_eq_true, Bool.or_eq_false_iff, Bool.or_eq_false_iff] at h1
      refine .inr ⟨by simpa using h1.1.1, by simpa using h1.1.2, by rw [h1.2]; simp, by simpa using h2, rfl⟩

/-- what is read is written to the same bytes -/
theorem decF_C {rs : List Rule} (hc : check rs = 0) : ∀ (n : Nat) (last : Int) (acc : List Fld) (b : List UInt8),
    (encF rs last (decF rs n (rem rs acc) last b).1).1 = 0 ∧ textI b = (encF rs last (decF rs n (rem rs acc) last b).1).2 ++ textI (decF rs n (rem rs acc) last b).2.1 ∧
    (∀ x ∈ (decF rs n (rem rs acc) last b).1, FldOk x) ∧ (decF rs n (rem rs acc) last b).2.2 = rem rs (acc ++ (decF rs n (rem rs acc) last b).1)
  | n, last, acc, [] => by
    rw [decF_nil]
    exact ⟨rfl, rfl, by simp, by simp⟩
  | 0, last, acc, c :: tl => by
    have e : decF rs 0 (rem rs acc) last (c :: tl) = ([], c :: tl, rem rs acc) := rfl
    rw [e]
    exact ⟨rfl, rfl, by simp, by simp⟩
  | n + 1, last, acc, c :: tl => by
    rcases decF_cons rs n (rem rs acc) last c tl with e | ⟨h1, h2, h3, h4, e⟩
    · rw [e]
      exact ⟨rfl, rfl, by simp, by simp⟩
    · obtain ⟨ht, _, _, hk⟩ := ruleHas_kind hc h1
      obtain ⟨g1, g2, g3⟩ := getV_A (ruleAt c.toNat rs) tl hk h4
      have gt := getV_tag (ruleAt c.toNat rs) tl
      rw [ht] at gt
      have hle : ¬ ∃ t ∈ rem rs acc, t < (getV (ruleAt c.toNat rs) tl).1.tag := fun hh => h3 (by rw [gt] at hh; exact (head_lt (rem_asc hc acc) (c.toNat : Int)).2 hh)
      have hs := rem_snoc hc acc (getV (ruleAt c.toNat rs) tl).1 hle
      rw [gt] at hs
      rw [← hs] at e
      obtain ⟨i1, i2, i3, i4⟩ := decF_C hc n c.toNat (acc ++ [(getV (ruleAt c.toNat rs) tl).1]) (getV (ruleAt c.toNat rs) tl).2.1
      rw [e]
      generalize decF rs n (rem rs (acc ++ [(getV (ruleAt c.toNat rs) tl).1])) c.toNat (getV (ruleAt c.toNat rs) tl).2.1 = d at i1 i2 i3 i4
      generalize (getV (ruleAt c.toNat rs) tl).2.1 = rest at g3 i2
      generalize (getV (ruleAt c.toNat rs) tl).1 = x at *
      have e1 : encF rs last (x :: d.1) = ((encF rs c.toNat d.1).1, fldB (ruleAt c.toNat rs) x ++ (encF rs c.toNat d.1).2) := by
        simp only [encF]
        rw [gt, if_neg (by simp [h1]; omega), if_pos g2]
      rw [e1]
      refine ⟨i1, ?_, ?_, ?_⟩
      · rw [fldB_G, gt, textI_cons, g3, i2]
        simp
      · intro y hy
        rcases List.mem_cons.1 hy with rfl | hy
        · exact g1
        · exact i3 y hy
      · rw [i4]; simp

/-- the fields of a message ascend -/
theorem encF_asc {rs : List Rule} : ∀ (fs : List Fld) (last : Int), (encF rs last fs).1 = 0 → (fs.map Fld.tag).Pairwise (· < ·) ∧ ∀ x ∈ fs, last < x.tag ∧ ruleHas x.tag rs = true
  | [], _, _ => ⟨List.Pairwise.nil, by simp⟩
  | x :: fs, last, h => by
    simp only [encF] at h
    split at h
    · cases h
    · rename_i h1
      rw [Bool.not_eq_true, Bool.or_eq_false_iff] at h1
      have h2 : ruleHas x.tag rs = true := by simpa using h1.1
      have h3 : last < x.tag := by simpa using h1.2
      split at h
      · obtain ⟨i1, i2⟩ := encF_asc fs x.tag h
        refine ⟨?_, fun y hy => ?_⟩
        · simp only [List.map_cons, List.pairwise_cons]
          refine ⟨fun t ht => ?_, i1⟩
          obtain ⟨y, hy, rfl⟩ := List.mem_map.1 ht
          exact (i2 y hy).1
        · rcases List.mem_cons.1 hy with rfl | hy
          · exact ⟨h3, h2⟩
          · have := i2 y hy
            exact ⟨by omega, this.2⟩
      · rename_i h4; exact absurd h h4
theorem asc_len : ∀ (m l : List Int), m.Pairwise (· < ·) → l.Pairwise (· < ·) → (∀ t ∈ l, t ∈ m) → l.length ≤ m.length
  | [], l, _, _, h => by
    cases l with
    | nil => simp
    | cons a l => exact absurd (h a (by simp)) (by simp)
  | t :: m, [], _, _, _ => by simp
  | t :: m, s :: l, hm, hl, h => by
    have hm' := List.pairwise_cons.1 hm
    have hl' := List.pairwise_cons.1 hl
    have hs : t ≤ s := by
      rcases List.mem_cons.1 (h s (by simp)) with h1 | h1
      · omega
      · have := hm'.1 s h1; omega
    have hsub : ∀ u ∈ l, u ∈ m := fun u hu => by
      have h1 := hl'.1 u hu
      rcases List.mem_cons.1 (h u (by simp [hu])) with h2 | h2
      · omega
      · exact h2
    have := asc_len m l hm'.2 hl'.2 hsub
    simp only [List.length_cons]
    omega
theorem encF_len {rs : List Rule} (hc : check rs = 0) (fs : List Fld) (last : Int) (h : (encF rs last fs).1 = 0) : fs.length ≤ 16 := by
  obtain ⟨h1, h2⟩ := encF_asc fs last h
  have h3 := asc_len (rs.map Rule.tag) (fs.map Fld.tag) (List.pairwise_map.2 (check_asc hc)) h1 (fun t ht => by
    obtain ⟨x, hx, rfl⟩ := List.mem_map.1 ht
    obtain ⟨hm, ht'⟩ := ruleAt_mem (h2 x hx).2
    exact List.mem_map.2 ⟨_, hm, ht'⟩)
  rw [List.length_map, List.length_map] at h3
  have := (check_ok hc).1
  omega

/-- the answers of Decode -/
theorem decode_cases (rs : List Rule) (b : List UInt8) : (check rs ≠ 0 ∧ decode rs b = ([], 0, check rs)) ∨ (check rs = 0 ∧ ∃ at' : Int, 0 ≤ at' ∧ at' ≤ b.length ∧ decode rs b = ([], at', 11)) ∨
    (check rs = 0 ∧ ∃ l, decode rs b = (l, 0, 0) ∧ decF rs b.length (needs rs) 0 b = (l, [], [])) := by
  by_cases hc : check rs = 0
  · right
    unfold decode
    rw [if_pos hc]
    obtain ⟨_, h2, _, _⟩ := decF_C hc b.length 0 [] b
    rw [rem_nil] at h2
    have hl := congrArg List.length h2
    rw [List.length_append, textI_len, textI_len] at hl
    split
    · exact .inl ⟨hc, _, by omega, by omega, rfl⟩
    · rename_i h
      refine .inr ⟨hc, _, rfl, ?_⟩
      rw [Bool.not_eq_true, Bool.or_eq_false_iff] at h
      have h3 : (decF rs b.length (needs rs) 0 b).2.1 = [] := List.eq_nil_of_length_eq_zero (by have := of_decide_eq_false h.1; omega)
      have h4 : (decF rs b.length (needs rs) 0 b).2.2 = [] := List.eq_nil_of_length_eq_zero (by have := of_decide_eq_false h.2; omega)
      generalize decF rs b.length (needs rs) 0 b = d at h3 h4 ⊢
      obtain ⟨d1, d2, d3⟩ := d
      simp only at h3 h4
      subst h3; subst h4
      rfl
  · left
    exact ⟨hc, by unfold decode; rw [if_neg hc]⟩
theorem one_law {rs : List Rule} {b : List UInt8} {l : List Fld} (hc : check rs = 0) (h : decF rs b.length (needs rs) 0 b = (l, [], [])) :
    (∀ x ∈ l, FldOk x) ∧ l.length ≤ 16 ∧ encode rs l = (textI b, 0) := by
  obtain ⟨h1, h2, h3, h4⟩ := decF_C hc b.length 0 [] b
  rw [rem_nil, h] at h1 h2 h3 h4
  simp only [List.nil_append] at h1 h2 h3 h4
  have hl := encF_len hc l 0 h1
  refine ⟨h3, hl, ?_⟩
  have hlack : lackF rs l = false := by rw [rem_lack, ← h4]; rfl
  unfold encode
  rw [if_pos hc, if_neg (by omega), if_pos h1, if_neg (by rw [hlack]; simp), h2]
  simp [textI]
/-- the answers of Encode -/
theorem encode_ok {rs : List Rule} {fs : List Fld} (h : (encode rs fs).2 = 0) : check rs = 0 ∧ (encF rs 0 fs).1 = 0 ∧ rem rs fs = [] ∧ (encode rs fs).1 = (encF rs 0 fs).2 := by
  unfold encode at h ⊢
  split at h
  · rename_i hc
    rw [if_pos hc]
    split at h
    · cases h
    · rename_i h1
      rw [if_neg h1]
      split at h
      · rename_i h2
        rw [if_pos h2]
        split at h
        · cases h
        · rename_i h3
          rw [if_neg h3]
          refine ⟨hc, h2, ?_, rfl⟩
          rw [rem_lack] at h3
          exact List.eq_nil_of_length_eq_zero (by have := of_decide_eq_false (Bool.not_eq_true _ ▸ h3); omega)
      · rename_i h2; exact absurd h h2
  · rename_i hc; exact absurd h hc
theorem encode_err {rs : List Rule} {fs : List Fld} (h : (encode rs fs).2 ≠ 0) : (encode rs fs).1 = [] := by
  unfold encode at h ⊢
  split
  · split
    · rfl
    · split
      · split
        · rfl
        · rename_i hc h1 h2 h3
          rw [if_pos hc, if_neg h1, if_pos h2, if_neg h3] at h
          exact absurd rfl h
      · rfl
  · rfl
theorem byt_back (t : Int) (h0 : 0 ≤ t) (h1 : t < 256) : ((byt t).toNat : Int) = t := byt_toNat t h0 h1
theorem fldHas_of {t : Int} {fs : List Fld} (h : fldHas t fs = true) : ∃ x ∈ fs, x.tag = t := by
  unfold fldHas at h
  obtain ⟨x, hx⟩ := Option.isSome_iff_exists.1 h
  exact ⟨x, List.mem_of_find?_eq_some hx, by simpa using List.find?_some hx⟩
theorem fldHas_app (t : Int) (a b : List Fld) : fldHas t (a ++ b) = (fldHas t a || fldHas t b) := by
  unfold fldHas
  rw [List.find?_append]
  cases a.find? (fun x => decide (x.tag = t)) <;> simp
/-- nothing is missing ahead of the next field -/
theorem rem_ahead {rs : List Rule} {acc : List Fld} {x : Fld} {fs : List Fld} (hr : rem rs (acc ++ x :: fs) = []) (hx : ∀ y ∈ fs, x.tag < y.tag) : ¬ ∃ t ∈ rem rs acc, t < x.tag := by
  rintro ⟨t, ht, hlt⟩
  obtain ⟨r, h1, h2, h3, h4⟩ := (mem_rem rs acc t).1 ht
  have : t ∈ rem rs (acc ++ x :: fs) := (mem_rem rs _ t).2 ⟨r, h1, h2, h3, by
    rw [fldHas_app, h4, Bool.false_or]
    cases hh : fldHas t (x :: fs) with
    | false => rfl
    | true =>
      obtain ⟨y, hy, he⟩ := fldHas_of hh
      rcases List.mem_cons.1 hy with rfl | hy
      · omega
      · have := hx y hy; omega⟩
  rw [hr] at this
  simp at this
/-- what is written is read -/
theorem decF_D {rs : List Rule} (hc : check rs = 0) : ∀ (fs : List Fld) (n : Nat) (last : Int) (acc : List Fld), fs.length ≤ n → (encF rs last fs).1 = 0 → (∀ x ∈ fs, FldOk x) → rem rs (acc ++ fs) = [] →
    decF rs n (rem rs acc) last ((encF rs last fs).2.map byt) = (fs, [], [])
  | [], n, last, acc, _, _, _, hr => by
    rw [List.append_nil] at hr
    rw [hr]
    exact decF_nil rs n [] last
  | x :: fs, 0, _, _, h, _, _, _ => by simp at h
  | x :: fs, n + 1, last, acc, hn, he, hok, hr => by
    have hasc := encF_asc (x :: fs) last he
    have hx := hasc.2 x (by simp)
    have hk := ruleHas_kind hc hx.2
    have hxx := List.pairwise_cons.1 (show (x.tag :: fs.map Fld.tag).Pairwise (· < ·) from hasc.1)
    have e0 : encF rs last (x :: fs) = if fldE (ruleAt x.tag rs) x = 0 then ((encF rs x.tag fs).1, fldB (ruleAt x.tag rs) x ++ (encF rs x.tag fs).2) else (fldE (ruleAt x.tag rs) x, []) := by
      rw [encF, if_neg (by simp [hx.2]; omega)]
    rw [e0] at he ⊢
    by_cases hf : fldE (ruleAt x.tag rs) x = 0
    · rw [if_pos hf] at he ⊢
      simp only at he ⊢
      rw [fldB_G, List.cons_append, List.map_cons, List.map_append]
      have hb := byt_back x.tag (by omega) (by omega)
      have hB := getV_B (ruleAt x.tag rs) x ((encF rs x.tag fs).2.map byt) (ruleHas_kind' hc hx.2) (hok x (by simp)) hk.1.symm hf
      have hahead := rem_ahead hr (fun y hy => hxx.1 y.tag (List.mem_map.2 ⟨y, hy, rfl⟩))
      have hs := rem_snoc hc acc x hahead
      have hlt : ¬ ((decide ((0 : Int) < (rem rs acc).length) && decide ((rem rs acc).headD 0 < x.tag)) = true) := fun hh => hahead ((head_lt (rem_asc hc acc) x.tag).1 hh)
      rw [decF, hb, hB, if_neg (by rw [hx.2]; simp only [Bool.not_true, Bool.false_or, Bool.or_eq_true]; rintro (h | h); · simp at h; omega
                                   · exact hlt h)]
      simp only [Bool.not_true, Bool.false_eq_true, if_false]
      rw [← hs, decF_D hc fs n x.tag (acc ++ [x]) (by simp at hn; omega) he (fun y hy => hok y (by simp [hy])) (by simpa using hr)]
    · rw [if_neg hf] at he; exact absurd he hf
theorem encF_count {rs : List Rule} : ∀ (fs : List Fld) (last : Int), (encF rs last fs).1 = 0 → fs.length ≤ (encF rs last fs).2.length
  | [], _, _ => by simp
  | x :: fs, last, h => by
    simp only [encF] at h ⊢
    split at h
    · cases h
    · rename_i h1
      rw [if_neg h1]
      split at h
      · rename_i h2
        rw [if_pos h2]
        have := encF_count fs x.tag h
        rw [fldB_G]
        simp only [List.length_cons, List.length_append]
        omega
      · rename_i h2; exact absurd h h2
theorem round_law {rs : List Rule} {fs : List Fld} (hok : ∀ x ∈ fs, FldOk x) (h : (encode rs fs).2 = 0) : decode rs (encBy rs fs) = (fs, 0, 0) := by
  obtain ⟨hc, h1, h2, h3⟩ := encode_ok h
  have hb : encBy rs fs = (encF rs 0 fs).2.map byt := by unfold encBy; rw [h3]
  have hd := decF_D hc fs (encBy rs fs).length 0 [] (by rw [hb, List.length_map]; exact encF_count fs 0 h1) h1 hok (by simpa using h2)
  rw [rem_nil, ← hb] at hd
  unfold decode
  rw [if_pos hc, hd]
  rfl
/-! beginnings of messages; rules that allow less -/
theorem fldG_free {r : Rule} {x y : Fld} {w : List Int} (h : fldG r x = fldG r y ++ w) : w = [] := by
  unfold fldG at h
  split at h
  · rw [List.cons_append, List.cons.injEq] at h
    have := congrArg List.length h.2
    rw [List.length_append] at this
    exact List.eq_nil_of_length_eq_zero (by omega)
  · rw [List.cons_append, List.cons_append, List.cons.injEq, List.cons.injEq] at h
    have := congrArg List.length h.2.2
    rw [List.length_append, textI_len, textI_len] at this
    exact List.eq_nil_of_length_eq_zero (by omega)
/-- what is read from a beginning -/
theorem decF_E {rs : List Rule} (hc : check rs = 0) : ∀ (fs : List Fld) (n : Nat) (last : Int) (ms : List Int) (m : Nat), (encF rs last fs).1 = 0 → (∀ x ∈ fs, FldOk x) →
    ∀ l ms', decF rs n ms last (((encF rs last fs).2.map byt).take m) = (l, [], ms') → ∃ fs', fs = l ++ fs'
  | [], n, last, ms, m, _, _, l, ms', h => by
    have e : ((encF rs last []).2.map byt).take m = [] := by simp [encF]
    rw [e, decF_nil] at h
    injection h with h1 _
    exact ⟨[], by rw [← h1]; rfl⟩
  | x :: fs, n, last, ms, m, he, hok, l, ms', h => by
    have hasc := encF_asc (x :: fs) last he
    have hx := hasc.2 x (by simp)
    have hk := ruleHas_kind hc hx.2
    have e0 : encF rs last (x :: fs) = if fldE (ruleAt x.tag rs) x = 0 then ((encF rs x.tag fs).1, fldB (ruleAt x.tag rs) x ++ (encF rs x.tag fs).2) else (fldE (ruleAt x.tag rs) x, []) := by
      rw [encF, if_neg (by simp [hx.2]; omega)]
    rw [e0] at he h
    by_cases hf : fldE (ruleAt x.tag rs) x = 0
    · rw [if_pos hf] at he h
      simp only at he h
      rw [fldB_G, List.cons_append, List.map_cons, List.map_append] at h
      cases m with
      | zero =>
        rw [List.take_zero, decF_nil] at h
        injection h with h1 _
        exact ⟨x :: fs, by rw [← h1]; rfl⟩
      | succ m =>
        rw [List.take_succ_cons] at h
        cases n with
        | zero =>
          have e : ∀ c tl, decF rs 0 ms last (c :: tl) = ([], c :: tl, ms) := fun _ _ => rfl
          rw [e] at h
          injection h with _ h2
          injection h2 with h3 _
          cases h3
        | succ n =>
          have hb := byt_back x.tag (by omega) (by omega)
          rcases decF_cons rs n ms last (byt x.tag) ((((fldG (ruleAt x.tag rs) x).map byt) ++ ((encF rs x.tag fs).2.map byt)).take m) with e | ⟨h1, h2, h3, h4, e⟩
          · rw [e] at h
            injection h with _ h2
            injection h2 with h3 _
            cases h3
          · rw [e, hb] at h
            rw [hb] at h4
            have hkk := ruleHas_kind' hc hx.2
            by_cases hm : ((fldG (ruleAt x.tag rs) x).map byt).length ≤ m
            · rw [List.take_append, List.take_of_length_le hm, getV_B (ruleAt x.tag rs) x _ hkk (hok x (by simp)) hk.1.symm hf] at h
              simp only at h
              generalize hd : decF rs n _ x.tag (((encF rs x.tag fs).2.map byt).take (m - ((fldG (ruleAt x.tag rs) x).map byt).length)) = d at h
              obtain ⟨d1, d2, d3⟩ := d
              simp only [Prod.mk.injEq] at h
              obtain ⟨rfl, rfl, rfl⟩ := h
              obtain ⟨fs', rfl⟩ := decF_E hc fs n x.tag _ _ he (fun y hy => hok y (by simp [hy])) _ _ hd
              exact ⟨fs', rfl⟩
            · exfalso
              have hz : ((fldG (ruleAt x.tag rs) x).map byt ++ (encF rs x.tag fs).2.map byt).take m = ((fldG (ruleAt x.tag rs) x).map byt).take m := by
                rw [List.take_append, show m - ((fldG (ruleAt x.tag rs) x).map byt).length = 0 from by omega, List.take_zero, List.append_nil]
              rw [hz] at h4
              obtain ⟨_, _, g3⟩ := getV_A (ruleAt x.tag rs) _ hk.2.2.2 h4
              have ht : textI (((fldG (ruleAt x.tag rs) x).map byt).take m) = (fldG (ruleAt x.tag rs) x).take m := by
                rw [← List.map_take]
                exact text_byt (fun y hy => fldG_byt _ x (hok x (by simp)) y (List.mem_of_mem_take hy))
              rw [ht] at g3
              have hfree := List.take_append_drop m (fldG (ruleAt x.tag rs) x)
              rw [g3, List.append_assoc] at hfree
              have := fldG_free hfree.symm
              rw [List.append_eq_nil_iff] at this
              have hl := congrArg List.length this.2
              rw [List.length_drop] at hl
              rw [List.length_map] at hm
              simp at hl
              omega
    · rw [if_neg hf] at he; exact absurd he hf
/-- Decode of a beginning of a message -/
theorem parts_law {rs : List Rule} {fs : List Fld} (hok : ∀ x ∈ fs, FldOk x) (h : (encode rs fs).2 = 0) (m : Nat) :
    ((decode rs ((encBy rs fs).take m)).2.2 = 0 ∧ ∃ fs', fs = (decode rs ((encBy rs fs).take m)).1 ++ fs') ∨
    ((decode rs ((encBy rs fs).take m)).2.2 = 11 ∧ 0 ≤ (decode rs ((encBy rs fs).take m)).2.1 ∧ (decode rs ((encBy rs fs).take m)).2.1 ≤ ((encBy rs fs).take m).length) := by
  obtain ⟨hc, h1, h2, h3⟩ := encode_ok h
  have hb : encBy rs fs = (encF rs 0 fs).2.map byt := by unfold encBy; rw [h3]
  rcases decode_cases rs ((encBy rs fs).take m) with ⟨h4, _⟩ | ⟨_, a, h5, h6, e⟩ | ⟨_, l, e, hd⟩
  · exact absurd hc h4
  · rw [e]; exact .inr ⟨rfl, h5, h6⟩
  · rw [e]
    refine .inl ⟨rfl, ?_⟩
    rw [hb] at hd
    exact decF_E hc fs _ 0 _ m h1 hok l _ hd

/-! rules that allow less -/
theorem getV_sim {r q : Rule} (ht : q.tag = r.tag) (hk : q.kind = r.kind) (b : List UInt8) : (getV q b).1 = (getV r b).1 ∧ (getV q b).2.1 = (getV r b).2.1 := by
  unfold getV
  rw [ht, hk]
  split
  · exact ⟨rfl, rfl⟩
  · split
    · exact ⟨rfl, rfl⟩
    · split
      · exact ⟨rfl, rfl⟩
      · split <;> exact ⟨rfl, rfl⟩
theorem decF_G {rs qs : List Rule} (hs : ∀ t, ruleHas t rs = true → ruleHas t qs = true → (ruleAt t qs).tag = (ruleAt t rs).tag ∧ (ruleAt t qs).kind = (ruleAt t rs).kind) :
    ∀ (n : Nat) (ms ms' : List Int) (last : Int) (b : List UInt8) (l l' : List Fld) (m m' : List Int), decF rs n ms last b = (l, [], m) → decF qs n ms' last b = (l', [], m') → l = l'
  | n, ms, ms', last, [], l, l', m, m', h, h' => by
    rw [decF_nil] at h h'
    injection h with h1 _
    injection h' with h2 _
    rw [← h1, ← h2]
  | 0, ms, ms', last, c :: tl, l, l', m, m', h, _ => by
    have e : decF rs 0 ms last (c :: tl) = ([], c :: tl, ms) := rfl
    rw [e] at h
    injection h with _ h2
    injection h2 with h3 _
    cases h3
  | n + 1, ms, ms', last, c :: tl, l, l', m, m', h, h' => by
    rcases decF_cons rs n ms last c tl with e | ⟨h1, _, _, _, e⟩
    · rw [e] at h
      injection h with _ h2
      injection h2 with h3 _
      cases h3
    · rcases decF_cons qs n ms' last c tl with e' | ⟨h1', _, _, _, e'⟩
      · rw [e'] at h'
        injection h' with _ h2
        injection h2 with h3 _
        cases h3
      · obtain ⟨k1, k2⟩ := hs c.toNat h1 h1'
        obtain ⟨g1, g2⟩ := getV_sim k1 k2 tl
        rw [g1, g2] at e'
        rw [e] at h
        rw [e'] at h'
        generalize hd : decF rs n _ c.toNat (getV (ruleAt c.toNat rs) tl).2.1 = d at h
        generalize hd' : decF qs n _ c.toNat (getV (ruleAt c.toNat rs) tl).2.1 = d' at h'
        obtain ⟨d1, d2, d3⟩ := d
        obtain ⟨d4, d5, d6⟩ := d'
        simp only [Prod.mk.injEq] at h h'
        obtain ⟨rfl, rfl, rfl⟩ := h
        obtain ⟨rfl, rfl, rfl⟩ := h'
        rw [decF_G hs n _ _ _ _ _ _ _ _ hd hd']

/-! what the laws take -/
theorem decode_len (rs : List Rule) (b : List UInt8) : (decode rs b).1.length ≤ 16 := by
  rcases decode_cases rs b with ⟨_, h⟩ | ⟨_, _, _, _, h⟩ | ⟨hc, l, h, hd⟩
  · rw [h]; simp
  · rw [h]; simp
  · rw [h]; exact (one_law hc hd).2.1
theorem decodeR_P' (rs : List Rule) (b : List UInt8) (hrs : rs.length ≤ 100) (hb : b.length ≤ 10000) : PC Try.prog 14 [.sv (.sl 5 (rs.map Rule.c)), .sv (.sl 1 (bytesC b))] (.tup [.sv (.sl 3 ((decode rs b).1.map Fld.c)), .i (decode rs b).2.1, .i (decode rs b).2.2]) := by
  rw [← decode_eq]; exact decodeR_P rs b hrs hb
theorem far_rs {rs : List Rule} {n : Int} (h : (far rs [] || decide (8000 < n)) = false) : rs.length ≤ 20 ∧ n ≤ 8000 := by
  rw [Bool.or_eq_false_iff] at h
  have := (far_false h.1).1
  have h2 := of_decide_eq_false h.2
  omega
theorem encode_PB (rs : List Rule) (fs : List Fld) (hrs : rs.length ≤ 100) (hfs : fs.length ≤ 100) (hok : ∀ x ∈ fs, FldOk x) : PC Try.prog 18 [.sv (.sl 5 (rs.map Rule.c)), .sv (.sl 3 (fs.map Fld.c))] (.tup [.sv (.sl 1 (bytesC (encBy rs fs))), .i (encode rs fs).2]) := by
  have h := encode_P rs fs hrs hfs hok
  rw [ic_byt _ (encode_byt rs fs hok)] at h
  exact h
theorem encodeR_PB (rs : List Rule) (fs : List Fld) (hrs : rs.length ≤ 100) (hfs : fs.length ≤ 100) (hok : ∀ x ∈ fs, FldOk x) : PC Try.prog 20 [.sv (.sl 5 (rs.map Rule.c)), .sv (.sl 3 (fs.map Fld.c))] (.tup [.sv (.sl 1 (bytesC (encBy rs fs))), .i (encode rs fs).2]) := by
  have h := encodeR_P rs fs hrs hfs hok
  rw [encode_eq rs fs hok, ic_byt _ (encode_byt rs fs hok)] at h
  exact h
theorem size22_P' (rs : List Rule) (fs : List Fld) (hrs : rs.length ≤ 100) (hfs : fs.length ≤ 100) (hok : ∀ x ∈ fs, FldOk x) : PC Try.prog 22 [.sv (.sl 5 (rs.map Rule.c)), .sv (.sl 3 (fs.map Fld.c))] (.tup [.i (encode rs fs).1.length, .i (encode rs fs).2]) := by
  have h := size22_P rs fs hrs hfs hok
  rw [encode_eq rs fs hok] at h
  exact h
theorem far_flds {rs : List Rule} {l : List Fld} (hw : ∀ x ∈ l, 0 ≤ x.num ∧ x.num < 18446744073709551616) (h : far rs l = false) : rs.length ≤ 20 ∧ l.length ≤ 20 ∧ ∀ x ∈ l, FldOk x := by
  obtain ⟨h1, h2, h3⟩ := far_false h
  exact ⟨h1, h2, fun x hx => ⟨(hw x hx).1, (hw x hx).2, by have := h3 x hx; omega⟩⟩
theorem fldB_len500 (r : Rule) (x : Fld) (hx : FldOk x) (h : x.txt.length ≤ 500) : (fldB r x).length ≤ 503 := by
  have h1 := digs_len x.num hx.1 hx.2.1
  unfold fldB
  split <;> simp [textI_len] <;> omega
theorem encF_len500 {rs : List Rule} : ∀ (fs : List Fld) (last : Int), (∀ x ∈ fs, FldOk x ∧ x.txt.length ≤ 500) → (encF rs last fs).2.length ≤ 503 * fs.length
  | [], _, _ => by simp [encF]
  | x :: fs, last, h => by
    simp only [encF]
    split
    · simp
    · split
      · have h1 := fldB_len500 (ruleAt x.tag rs) x (h x (by simp)).1 (h x (by simp)).2
        have h2 := encF_len500 (rs := rs) fs x.tag (fun y hy => h y (by simp [hy]))
        simp only [List.length_append, List.length_cons]
        omega
      · simp
theorem encBy_len {rs : List Rule} {l : List Fld} (h : ∀ x ∈ l, FldOk x ∧ x.txt.length ≤ 500) : (encBy rs l).length ≤ 8048 := by
  unfold encBy
  rw [List.length_map]
  by_cases he : (encode rs l).2 = 0
  · obtain ⟨hc, h1, _, h3⟩ := encode_ok he
    rw [h3]
    have := encF_len500 (rs := rs) l 0 h
    have := encF_len hc l 0 h1
    omega
  · rw [encode_err he]; simp
theorem far_fldsB {rs : List Rule} {l : List Fld} (hw : ∀ x ∈ l, 0 ≤ x.num ∧ x.num < 18446744073709551616) (h : far rs l = false) : rs.length ≤ 20 ∧ l.length ≤ 20 ∧ (∀ x ∈ l, FldOk x) ∧ (encBy rs l).length ≤ 8048 := by
  obtain ⟨h1, h2, h3⟩ := far_flds hw h
  exact ⟨h1, h2, h3, encBy_len (fun x hx => ⟨h3 x hx, (far_false h).2.2 x hx⟩)⟩
theorem same_PS (l : List Fld) (h : l.length ≤ 20) : PC Try.prog 15 [.sv (.sl 3 (l.map Fld.c)), .sv (.sl 3 (l.map Fld.c))] (.b true) := by
  have := same_P l l (by omega) (by omega)
  rwa [same_self] at this
theorem round_P {rs : List Rule} {l : List Fld} (hr : rs.length ≤ 20) (hok : ∀ x ∈ l, FldOk x) (hbl : (encBy rs l).length ≤ 10000) (he : (encode rs l).2 = 0) : PC Try.prog 13 [.sv (.sl 5 (rs.map Rule.c)), .sv (.sl 1 (bytesC (encBy rs l)))] (.tup [.sv (.sl 3 (l.map Fld.c)), .i 0, .i 0]) := by
  have h := decode_P rs (encBy rs l) (by omega) hbl
  rw [round_law hok he] at h
  exact h
theorem one_enc {rs : List Rule} {b : List UInt8} {l : List Fld} (h : encode rs l = (textI b, 0)) : encBy rs l = b := by
  unfold encBy; rw [h]; exact byt_text b
theorem one_E {rs : List Rule} {b : List UInt8} {l : List Fld} (hr : rs.length ≤ 20) (hok : ∀ x ∈ l, FldOk x) (hl : l.length ≤ 16) (h : encode rs l = (textI b, 0)) : PC Try.prog 18 [.sv (.sl 5 (rs.map Rule.c)), .sv (.sl 3 (l.map Fld.c))] (.tup [.sv (.sl 1 (bytesC b)), .i 0]) := by
  have := encode_PB rs l (by omega) (by omega) hok
  rw [one_enc h, h] at this
  exact this
theorem one_S {rs : List Rule} {b : List UInt8} {l : List Fld} (hr : rs.length ≤ 20) (hok : ∀ x ∈ l, FldOk x) (hl : l.length ≤ 16) (h : encode rs l = (textI b, 0)) : PC Try.prog 21 [.sv (.sl 5 (rs.map Rule.c)), .sv (.sl 3 (l.map Fld.c))] (.tup [.i b.length, .i 0]) := by
  have := size21_P rs l (by omega) (by omega) hok
  rw [h, textI_len] at this
  exact this
theorem one_fact {rs : List Rule} {b : List UInt8} (h : (decode rs b).2.2 = 0) : ∃ l, decode rs b = (l, 0, 0) ∧ (∀ x ∈ l, FldOk x) ∧ l.length ≤ 16 ∧ encode rs l = (textI b, 0) := by
  rcases decode_cases rs b with ⟨h1, h2⟩ | ⟨_, _, _, _, h2⟩ | ⟨hc, l, h2, hd⟩
  · rw [h2] at h; exact absurd h h1
  · rw [h2] at h; cases h
  · exact ⟨l, h2, one_law hc hd⟩
theorem err_fact {rs : List Rule} {b : List UInt8} (h : (decode rs b).2.2 ≠ 0) : (decode rs b).1 = [] ∧ 0 ≤ (decode rs b).2.1 ∧ (decode rs b).2.1 ≤ b.length := by
  rcases decode_cases rs b with ⟨h1, h2⟩ | ⟨_, a, h3, h4, h2⟩ | ⟨hc, l, h2, hd⟩
  · rw [h2]; exact ⟨rfl, by simp, by simp⟩
  · rw [h2]; exact ⟨rfl, h3, h4⟩
  · rw [h2] at h; exact absurd rfl h
end Go.Proofs.Ytmiamhegohlglaa
