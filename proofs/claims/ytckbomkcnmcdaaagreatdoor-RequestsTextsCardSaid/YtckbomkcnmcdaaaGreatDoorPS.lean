/- requests: what a request that is one has for fields; Encode and Print are the reference's. -/
import Derived.Test.YtckbomkcnmcdaaaGreatDoorRI
set_option linter.unusedSimpArgs false
set_option linter.unusedVariables false
namespace Go.Proofs.YtckbomkcnmcdaaaGreatDoor


/-- the tags of a kind -/
def tagL (k : Int) : List Int := if wordQ k = [] then [] else 1 :: tagsQ k
theorem rulesQ_tags (k : Int) : (rulesQ k).1 = (tagL k).map ruleQ := by
  by_cases h : k < 0 ∨ 14 ≤ k
  · simp [rulesQ, tagL, mask_out h, word_out h]
  · rcases kinds14 (k := k) (by omega) (by omega) with rfl | rfl | rfl | rfl | rfl | rfl | rfl | rfl | rfl | rfl | rfl | rfl | rfl | rfl <;> kernel_rfl
theorem tagL_asc (k : Int) : (tagL k).Pairwise (· < ·) ∧ ∀ t ∈ tagL k, 1 ≤ t ∧ t ≤ 9 := by
  unfold tagL
  split
  · simp
  · generalize hT : tagsQ k = T
    unfold tagsQ at hT
    (repeat' split at hT) <;> subst hT <;> simp
theorem tagL_filter {k : Int} (hk : maskOf k ≠ 0) : ((List.range' 1 9).filter fun t => !decide (bitQ (maskOf k) t = 0)).map (fun t : Nat => (t : Int)) = tagL k := by
  have h : ¬ (k < 0 ∨ 14 ≤ k) := fun h => hk (mask_out h)
  rcases kinds14 (k := k) (by omega) (by omega) with rfl | rfl | rfl | rfl | rfl | rfl | rfl | rfl | rfl | rfl | rfl | rfl | rfl | rfl <;> first | exact absurd rfl hk | (exfalso; revert hk; decide +kernel) | decide +kernel
theorem mem_tagL {k : Int} (hk : maskOf k ≠ 0) {t : Nat} (h1 : 1 ≤ t) (h2 : t ≤ 9) : (t : Int) ∈ tagL k ↔ bitQ (maskOf k) t ≠ 0 := by
  rw [← tagL_filter hk, List.mem_map]
  constructor
  · rintro ⟨u, hu, he⟩
    obtain rfl : u = t := by omega
    have := (List.mem_filter.1 hu).2
    simpa using this
  · intro h
    exact ⟨t, List.mem_filter.2 ⟨List.mem_range'_1.2 ⟨h1, by omega⟩, by simpa using h⟩, rfl⟩
theorem Ub_iff (m : Int) (r : Rq) : ∀ n k : Nat, Ub m r n k = false ↔ ∀ j, k ≤ j → j < k + n → bitQ m j = 0 → nzF (fieldQ r j).1 = false
  | 0, k => by simp [Ub]; omega
  | n + 1, k => by
    rw [Ub, Bool.or_eq_false_iff, Ub_iff m r n (k + 1)]
    constructor
    · rintro ⟨h1, h2⟩ j hj hj2 hb
      by_cases he : j = k
      · subst he; simpa [hb] using h1
      · exact h2 j (by omega) (by omega) hb
    · intro h
      refine ⟨?_, fun j h1 h2 hb => h j (by omega) (by omega) hb⟩
      by_cases hb : bitQ m k = 0
      · rw [h k (Nat.le_refl _) (by omega) hb]; simp
      · simp [hb]
theorem Nb_iff (m : Int) (r : Rq) : ∀ n k : Nat, Nb m r n k = false ↔ ∀ j, k ≤ j → j < k + n → bitQ m j ≠ 0 → nbF (ruleQ j) (fieldQ r j).1 (fieldQ r j).2 = false
  | 0, k => by simp [Nb]; omega
  | n + 1, k => by
    rw [Nb, Bool.or_eq_false_iff, Nb_iff m r n (k + 1)]
    constructor
    · rintro ⟨h1, h2⟩ j hj hj2 hb
      by_cases he : j = k
      · subst he; simpa [hb] using h1
      · exact h2 j (by omega) (by omega) hb
    · intro h
      refine ⟨?_, fun j h1 h2 hb => h j (by omega) (by omega) hb⟩
      by_cases hb : bitQ m k = 0
      · simp [hb]
      · rw [h k (Nat.le_refl _) (by omega) hb]; simp
theorem Lb_iff (m : Int) (r : Rq) : ∀ n k : Nat, Lb m r n k = false ↔ ∀ j, k ≤ j → j < k + n → bitQ m j ≠ 0 → lbF (ruleQ j) (fieldQ r j).1 = false
  | 0, k => by simp [Lb]; omega
  | n + 1, k => by
    rw [Lb, Bool.or_eq_false_iff, Lb_iff m r n (k + 1)]
    constructor
    · rintro ⟨h1, h2⟩ j hj hj2 hb
      by_cases he : j = k
      · subst he; simpa [hb] using h1
      · exact h2 j (by omega) (by omega) hb
    · intro h
      refine ⟨?_, fun j h1 h2 hb => h j (by omega) (by omega) hb⟩
      by_cases hb : bitQ m k = 0
      · simp [hb]
      · rw [h k (Nat.le_refl _) (by omega) hb]; simp
theorem foGo_ok (m : Int) (r : Rq) : ∀ (n k : Nat) (l : List Fld) (e : Int), Ub m r n k = false → (foGo m r n k l e).2 = 0 → (foGo m r n k l e).1 = l ++ ((List.range' k n).filter fun t => !decide (bitQ m t = 0)).map fun t : Nat => (fieldQ r t).1
  | 0, k, l, e, _, h => by
    rw [foGo] at h ⊢
    split
    · rename_i h0; rw [if_pos h0] at h; simp_all
    · simp
  | n + 1, k, l, e, hu, h => by
    have hu2 : Ub m r n (k + 1) = false := by rw [Ub, Bool.or_eq_false_iff] at hu; exact hu.2
    have hu1 : bitQ m k = 0 → nzF (fieldQ r k).1 = false := fun hb => by rw [Ub, Bool.or_eq_false_iff] at hu; simpa [hb] using hu.1
    rw [foGo] at h ⊢
    rw [List.range'_succ, List.filter_cons]
    by_cases hb : bitQ m k = 0
    · rw [if_pos hb, if_neg (by have := hu1 hb; unfold nzF at this; rw [this]; simp)] at h ⊢
      rw [foGo_ok m r n (k + 1) l e hu2 h]
      simp [hb]
    · rw [if_neg hb] at h ⊢
      rw [foGo_ok m r n (k + 1) _ _ hu2 h]
      simp [hb]
/-- when a request is one -/
theorem check_iff (r : Rq) : checkQ r = 0 ↔ maskOf r.kind ≠ 0 ∧ ∀ t : Int, 1 ≤ t → t ≤ 9 → (t ∉ tagL r.kind → nzF (fieldQ r t).1 = false) ∧ (t ∈ tagL r.kind → nbF (ruleQ t) (fieldQ r t).1 (fieldQ r t).2 = false ∧ lbF (ruleQ t) (fieldQ r t).1 = false) := by
  unfold checkQ fieldsOf
  by_cases hk : maskOf r.kind = 0
  · rw [if_pos hk]; simp [hk]
  · rw [if_neg hk, foGo_snd _ r 9 1 [] 0 (.inl rfl)]
    have hU := Ub_iff (maskOf r.kind) r 9 1
    have hN := Nb_iff (maskOf r.kind) r 9 1
    have hL := Lb_iff (maskOf r.kind) r 9 1
    have nat : ∀ {t : Int}, 1 ≤ t → t ≤ 9 → ∃ j : Nat, t = j ∧ 1 ≤ j ∧ j ≤ 9 := fun {t} h1 h2 => ⟨t.toNat, by omega, by omega, by omega⟩
    constructor
    · intro h
      have h1 : Ub (maskOf r.kind) r 9 1 = false := by cases hh : Ub (maskOf r.kind) r 9 1 with | false => rfl | true => rw [hh] at h; simp at h
      rw [h1] at h
      have h2 : Nb (maskOf r.kind) r 9 1 = false := by cases hh : Nb (maskOf r.kind) r 9 1 with | false => rfl | true => rw [hh] at h; simp at h
      rw [h2] at h
      have h3 : Lb (maskOf r.kind) r 9 1 = false := by cases hh : Lb (maskOf r.kind) r 9 1 with | false => rfl | true => rw [hh] at h; simp at h
      refine ⟨hk, fun t t1 t2 => ?_⟩
      obtain ⟨j, rfl, j1, j2⟩ := nat t1 t2
      have hm := mem_tagL hk j1 j2
      exact ⟨fun hn => hU.1 h1 j j1 (by omega) (by by_cases hb : bitQ (maskOf r.kind) j = 0; exact hb; exact absurd (hm.2 hb) hn), fun hn => ⟨hN.1 h2 j j1 (by omega) (hm.1 hn), hL.1 h3 j j1 (by omega) (hm.1 hn)⟩⟩
    · rintro ⟨_, h⟩
      have h1 : Ub (maskOf r.kind) r 9 1 = false := hU.2 fun j j1 j2 hb => (h j (by omega) (by omega)).1 (fun hm => (mem_tagL hk (by omega) (by omega)).1 hm hb)
      have h2 : Nb (maskOf r.kind) r 9 1 = false := hN.2 fun j j1 j2 hb => ((h j (by omega) (by omega)).2 ((mem_tagL hk (by omega) (by omega)).2 hb)).1
      have h3 : Lb (maskOf r.kind) r 9 1 = false := hL.2 fun j j1 j2 hb => ((h j (by omega) (by omega)).2 ((mem_tagL hk (by omega) (by omega)).2 hb)).2
      rw [h1, h2, h3]; simp
/-- the fields of a request that is one -/
theorem fields_list {r : Rq} (h : checkQ r = 0) : (fieldsOf r).1 = (tagL r.kind).map fun t => (fieldQ r t).1 := by
  have hk := ((check_iff r).1 h).1
  unfold checkQ fieldsOf at h
  rw [if_neg hk] at h
  have hu : Ub (maskOf r.kind) r 9 1 = false := by
    rw [foGo_snd _ r 9 1 [] 0 (.inl rfl)] at h
    cases hh : Ub (maskOf r.kind) r 9 1 with | false => rfl | true => rw [hh] at h; simp at h
  unfold fieldsOf
  rw [if_neg hk, foGo_ok _ r 9 1 [] 0 hu h, ← tagL_filter hk, List.map_map]
  rfl
theorem fieldQ_tag (r : Rq) (t : Int) : (fieldQ r t).1.tag = t := by unfold fieldQ; (repeat' split) <;> rfl
theorem ruleQ_tag (t : Int) : (ruleQ t).tag = t := by unfold ruleQ; (repeat' split) <;> rfl
theorem itags9 {t : Int} (h1 : 1 ≤ t) (h2 : t ≤ 9) : t = 1 ∨ t = 2 ∨ t = 3 ∨ t = 4 ∨ t = 5 ∨ t = 6 ∨ t = 7 ∨ t = 8 ∨ t = 9 := by omega
theorem ruleQ_kind {t : Int} (h1 : 1 ≤ t) (h2 : t ≤ 9) : (ruleQ t).kind = 2 ↔ (t = 3 ∨ t = 4) := by
  rcases itags9 h1 h2 with rfl | rfl | rfl | rfl | rfl | rfl | rfl | rfl | rfl <;> simp [ruleQ]
theorem ruleQ_kinds (t : Int) : (ruleQ t).kind = 1 ∨ (ruleQ t).kind = 2 := by unfold ruleQ; (repeat' split) <;> simp
theorem msgQ_eq {r : Rq} (hr : RqOk r) (h : checkQ r = 0) : messageR r = (fieldsOf r).1 := by
  rw [fields_list h]
  unfold messageR
  rw [← rules_eq, rulesQ_tags, List.map_map]
  apply List.map_congr_left
  intro t ht
  have hb := (tagL_asc r.kind).2 t ht
  have hn := (((check_iff r).1 h).2 t hb.1 hb.2).2 ht
  have b1 := hr.id; have b2 := hr.owner; have b3 := hr.to
  have h1 := hn.1
  show msgOne r (ruleQ t) = (fieldQ r t).1
  rcases itags9 hb.1 hb.2 with rfl | rfl | rfl | rfl | rfl | rfl | rfl | rfl | rfl
  all_goals simp [msgOne, ruleQ, fieldQ, numQ, txtQ, nbF, uw] at h1 ⊢
  all_goals (try split) <;> omega
theorem tagL_len (k : Int) : (tagL k).length ≤ 4 := by unfold tagL; have := tagsQ_len k; split <;> simp; omega
theorem qfldE {r : Rq} {t : Int} (h1 : 1 ≤ t) (h2 : t ≤ 9) (hn : nbF (ruleQ t) (fieldQ r t).1 (fieldQ r t).2 = false) (hl : lbF (ruleQ t) (fieldQ r t).1 = false) : fldE (ruleQ t) (fieldQ r t).1 = 0 := by
  rcases itags9 h1 h2 with rfl | rfl | rfl | rfl | rfl | rfl | rfl | rfl | rfl
  all_goals simp [fldE, nbF, lbF, ruleQ, fieldQ, within] at hn hl ⊢
  all_goals omega
theorem rqName_word {k : Int} (h : maskOf k ≠ 0) : rqName k = wordQ k := by
  have h0 : ¬ (k < 0 ∨ 14 ≤ k) := fun h' => h (mask_out h')
  rcases kinds14 (k := k) (by omega) (by omega) with rfl | rfl | rfl | rfl | rfl | rfl | rfl | rfl | rfl | rfl | rfl | rfl | rfl | rfl <;> first | exact absurd rfl h | (exfalso; revert h; decide +kernel) | decide +kernel
theorem textR_join (w : List UInt8) : ∀ l : List Fld, textR w l = w ++ Lib.joinTail [32] (l.map partR) := by
  intro l
  induction l generalizing w with
  | nil => simp [textR, Lib.joinTail]
  | cons f l ih =>
    rw [show textR w (f :: l) = textR (w ++ [32] ++ partR f) l from rfl, ih]
    simp [Lib.joinTail]
theorem part_eq {r : Rq} (hr : RqOk r) {t : Int} (h1 : 1 ≤ t) (h2 : t ≤ 9) (hn : nbF (ruleQ t) (fieldQ r t).1 (fieldQ r t).2 = false) : partR (fieldQ r t).1 = partQ (fieldQ r t).1 := by
  have b1 := hr.id; have b2 := hr.owner; have b3 := hr.to
  have hi : ∀ n : Int, 0 ≤ n → n ≤ 9223372036854775807 → Lib.itoa (IntKind.i64.wrap n) = Lib.decDigits n.toNat := fun n h0 h9 => by
    rw [show IntKind.i64.wrap n = n from by rw [IntKind.wrap_i64]; omega]
    unfold Lib.itoa; rw [if_neg (by omega)]
  have hk := ruleQ_kind h1 h2
  unfold partR partQ
  rw [fieldQ_tag]
  by_cases h34 : t = 3 ∨ t = 4
  · rw [if_pos (by simpa using h34), if_pos (hk.2 h34)]
  · rw [if_neg (by simpa using h34), if_neg (fun h => h34 (hk.1 h))]
    have hu := uw_lt
    refine hi _ ?_ ?_
    · rcases itags9 h1 h2 with rfl | rfl | rfl | rfl | rfl | rfl | rfl | rfl | rfl <;> simp [fieldQ] <;> first | omega | exact (uw_lt _).1
    · rcases itags9 h1 h2 with rfl | rfl | rfl | rfl | rfl | rfl | rfl | rfl | rfl <;> simp [nbF, ruleQ, fieldQ] at hn ⊢ <;> omega
theorem printQ_eq {r : Rq} (hr : RqOk r) : printQ r = printR9 r := by
  unfold printQ printR9
  rw [← checkQ_eq r hr]
  by_cases h : checkQ r = 0
  · have hc := (check_iff r).1 h
    rw [if_neg (by rw [show (fieldsOf r).2 = 0 from h]; simp), if_neg (by rw [h]; simp), msgQ_eq hr h, rqName_word hc.1, textR_join, Lib.join_cons, fields_list h]
    congr 3
    rw [List.map_map, List.map_map]
    apply List.map_congr_left
    intro t ht
    have hb := (tagL_asc r.kind).2 t ht
    exact (part_eq hr hb.1 hb.2 ((hc.2 t hb.1 hb.2).2 ht).1).symm
  · rw [if_pos (by simp [show (fieldsOf r).2 ≠ 0 from h]), if_pos (by simp [h])]; rfl

end Go.Proofs.YtckbomkcnmcdaaaGreatDoor
