/- responses: what answers a request, and what makes no difference to it. -/
import Derived.Test.YtcobkjognpjikaaDoorRSH
import Derived.Test.YtcobkjognpjikaaDoorPC
set_option linter.unusedSimpArgs false
set_option linter.unusedVariables false
namespace Go.Proofs.YtcobkjognpjikaaDoor


theorem req_ok {q : Rq} (h : checkQ q = 0) : maskOf q.kind ≠ 0 ∧ 1 ≤ q.id ∧ q.id ≤ 9223372036854775807 := by
  unfold checkQ fieldsOf at h
  by_cases hk : maskOf q.kind = 0
  · rw [if_pos hk] at h; cases h
  · rw [if_neg hk, foGo_snd _ q 9 1 [] 0 (.inl rfl)] at h
    have hN : (Nb (maskOf q.kind) q 9 1 || decide ((0 : Int) = 7)) = false := by
      cases hh : (Nb (maskOf q.kind) q 9 1 || decide ((0 : Int) = 7)) with
      | false => rfl
      | true =>
        rw [hh] at h
        split at h <;> simp at h
    have hb : bitQ (maskOf q.kind) 1 ≠ 0 := by
      have h0 : ¬ (q.kind < 0 ∨ 14 ≤ q.kind) := fun h => hk (mask_out h)
      obtain ⟨j, hj⟩ : ∃ j : Nat, q.kind = j := ⟨q.kind.toNat, by omega⟩
      have key : ((List.range 14).all fun j => decide (maskOf (j : Int) = 0) || !decide (bitQ (maskOf (j : Int)) 1 = 0)) = true := by decide +kernel
      have k1 := List.all_eq_true.1 key j (List.mem_range.2 (by omega))
      rw [← hj] at k1
      simpa [hk] using k1
    rw [Nb] at hN
    simp [hb, nbF, ruleQ, fieldQ] at hN
    exact ⟨hk, by omega, by omega⟩
theorem mask_known {k : Int} (h : maskOf k ≠ 0) : knownS k = true ∧ k ≠ 0 := by
  refine ⟨?_, fun h0 => h (by rw [h0]; decide +kernel)⟩
  unfold knownS rulesQ
  rw [if_neg h]
  simp
theorem refused_ok {q : Rq} (h : checkQ q = 0) {e : Int} (h1 : 1 ≤ e) (h2 : e ≤ 255) : checkS { zeroS with kind := q.kind, id := q.id, err := e } = 0 := by
  obtain ⟨hk, i1, i2⟩ := req_ok h
  obtain ⟨k1, k2⟩ := mask_known hk
  have he : ¬ e = 0 := by omega
  have hu : uw e = e := by unfold uw; omega
  unfold checkS
  rw [if_neg (by simp [k1, k2]), if_neg (by simp [tagsT, he, restJ, putS, neZ, zeroS, sw, IntKind.wrap_i64])]
  simp [tagsT, he, errJ, errS, limitS, fieldS, valS, VV.f, k2, hu, i1, i2, h2]
  omega
theorem o8_congr {q : Rq} {x x' : Mr} {s t s' t' : List UInt8} (h3 : usesS q.kind false 3 = true → s' = s) (h4 : usesS q.kind false 4 = true → t' = t)
    (h5 : usesS q.kind false 5 = true → x'.seat = x.seat) (h6 : usesS q.kind false 6 = true → x'.n = x.n) (h7 : usesS q.kind false 7 = true → x'.place = x.place) (h8 : usesS q.kind false 8 = true → x'.dl = x.dl) : o8 q x' s' t' = o8 q x s t := by
  have e3 : o3 q s' = o3 q s := by unfold o3; split <;> first | rw [h3 (by assumption)] | rfl
  have e4 : o4 q s' t' = o4 q s t := by unfold o4; rw [e3]; split <;> first | rw [h4 (by assumption)] | rfl
  have e5 : o5 q x' s' t' = o5 q x s t := by unfold o5; rw [e4]; split <;> first | rw [h5 (by assumption)] | rfl
  have e6 : o6 q x' s' t' = o6 q x s t := by unfold o6; rw [e5]; split <;> first | rw [h6 (by assumption)] | rfl
  have e7 : o7 q x' s' t' = o7 q x s t := by unfold o7; rw [e6]; split <;> first | rw [h7 (by assumption)] | rfl
  unfold o8; rw [e7]; split <;> first | rw [h8 (by assumption)] | rfl
theorem o8_head (q : Rq) (x : Mr) (s t : List UInt8) : (o8 q x s t).kind = q.kind ∧ (o8 q x s t).id = q.id ∧ (o8 q x s t).err = 0 := by
  unfold o8 o7 o6 o5 o4 o3 o2
  refine ⟨?_, ?_, ?_⟩ <;> (repeat' split) <;> rfl
/-- what answers a request -/
theorem of_facts {q : Rq} {x : Mr} (hx : MrOk x) {s t : List UInt8} {r : Rs} (h : ofS q x s t = (r, 0)) : checkQ q = 0 ∧ r.kind = q.kind ∧ r.id = q.id ∧ r.err = x.err ∧ checkS r = 0 := by
  unfold ofS at h
  by_cases h1 : x.err = 0
  · rw [if_neg (by simp [h1])] at h
    split at h
    · rename_i h2; have := congrArg Prod.snd h; simp only at this; simp [this] at h2
    · rename_i h2
      split at h
      · rename_i h3; have := congrArg Prod.snd h; simp only at this; simp [this] at h3
      · rename_i h3
        have h4 : ofR q x s t = r := congrArg Prod.fst h
        have h5 := o8_head q x s t
        rw [← ofR_eq q hx, h4] at h5
        rw [h4] at h3
        exact ⟨by simpa using h2, h5.1, h5.2.1, by rw [h5.2.2, h1], by simpa using h3⟩
  · rw [if_pos (by simp [h1])] at h
    unfold refusedS at h
    split at h
    · rename_i h2; have := congrArg Prod.snd h; simp only at this; simp [this] at h2
    · rename_i h2
      split at h
      · have := congrArg Prod.snd h; cases this
      · rename_i h3
        have h4 : _ = r := congrArg Prod.fst h
        subst h4
        have h6 : checkQ q = 0 := by simpa using h2
        simp at h3
        exact ⟨h6, rfl, rfl, rfl, refused_ok h6 (by omega) (by omega)⟩
theorem of_bad {q : Rq} {x : Mr} {s t : List UInt8} {r : Rs} {e : Int} (h : ofS q x s t = (r, e)) (he : e ≠ 0) : r = zeroS := by
  unfold ofS refusedS at h
  repeat' split at h
  all_goals first | exact (congrArg Prod.fst h).symm | exact absurd (congrArg Prod.snd h).symm he
theorem str_len {r : Rs} (h : checkS r = 0) (he : r.err = 0) : (3 ∈ moreT r.kind → r.ses ≠ []) ∧ (4 ∈ moreT r.kind → r.tic ≠ []) := by
  have hp := (check_parts h).2
  have ht : tagsT r.kind r.err = 1 :: 2 :: moreT r.kind := if_pos he
  constructor
  · intro hm h0
    have := (hp 3 (by rw [ht]; simp [hm])).2
    simp [lbF, limitS, fieldS, valS, VV.f, h0] at this
  · intro hm h0
    have := (hp 4 (by rw [ht]; simp [hm])).2
    simp [lbF, limitS, fieldS, valS, VV.f, h0] at this
theorem uses_kind (k : Int) : (usesS k false 3 = true → 3 ∈ moreT k) ∧ (usesS k false 4 = true → 4 ∈ moreT k) ∧ (usesS k false 5 = true → k = 3) ∧ (usesS k false 6 = true → k = 3) ∧ (usesS k false 7 = true → k = 10) ∧ (usesS k false 8 = true → k = 1 ∨ k = 2 ∨ k = 3) := by
  by_cases k1 : k = 1
  · subst k1; decide +kernel
  by_cases k2 : k = 2
  · subst k2; decide +kernel
  by_cases k3 : k = 3
  · subst k3; decide +kernel
  by_cases k5 : k = 5
  · subst k5; decide +kernel
  by_cases k6 : k = 6
  · subst k6; decide +kernel
  by_cases k10 : k = 10
  · subst k10; decide +kernel
  simp [usesS, k1, k2, k3, k5, k6, k10]
/-- what its kind does not have makes no difference -/
theorem same_of {q : Rq} {x x' : Mr} (hx : MrOk x) (hx' : MrOk x') {s t s' t' : List UInt8} {r : Rs} (h : ofS q x s t = (r, 0)) (he : x'.err = x.err) (hs : r.ses ≠ [] → s' = s) (ht : r.tic ≠ [] → t' = t)
    (hd : q.kind = 1 ∨ q.kind = 2 ∨ q.kind = 3 → x'.dl = x.dl) (h3 : q.kind = 3 → x'.seat = x.seat ∧ x'.n = x.n) (h10 : q.kind = 10 → x'.place = x.place) : ofS q x' s' t' = (r, 0) := by
  obtain ⟨f1, f2, f3, f4, f5⟩ := of_facts hx h
  by_cases h1 : x.err = 0
  · have hl := str_len f5 (by rw [f4, h1])
    rw [f2] at hl
    have : ofR q x' s' t' = ofR q x s t := by
      rw [ofR_eq q hx, ofR_eq q hx']
      obtain ⟨u3, u4, u5, u6, u7, u8⟩ := uses_kind q.kind
      exact o8_congr (fun hu => hs (hl.1 (u3 hu))) (fun hu => ht (hl.2 (u4 hu))) (fun hu => (h3 (u5 hu)).1) (fun hu => (h3 (u6 hu)).2) (fun hu => h10 (u7 hu)) (fun hu => hd (u8 hu))
    unfold ofS at h ⊢
    rw [he, this]
    exact h
  · unfold ofS at h ⊢
    rw [he]
    rw [if_pos (by simp [h1])] at h ⊢
    exact h

end Go.Proofs.YtcobkjognpjikaaDoor
