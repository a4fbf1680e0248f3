/- requests: what is decoded is what was encoded, and the other way round. -/
import Derived.Test.YtckbomkcnmcdaaaGreatDoorPS
set_option linter.unusedSimpArgs false
set_option linter.unusedVariables false
namespace Go.Proofs.YtckbomkcnmcdaaaGreatDoor


theorem putQ_kind (r : Rq) (f : Fld) : (putQ r f).kind = r.kind := by unfold putQ; (repeat' split) <;> rfl
theorem foldQ_kind : ∀ (l : List Fld) (r : Rq), (foldQ r l).kind = r.kind
  | [], _ => rfl
  | f :: l, r => by
    have : foldQ r (f :: l) = foldQ (putQ r f) l := rfl
    rw [this, foldQ_kind l, putQ_kind]
/-- a field as its rule wants it -/
def FldR (f : Fld) : Prop := 1 ≤ f.tag ∧ f.tag ≤ 9 ∧ fldE (ruleQ f.tag) f = 0
theorem put_getQ (r : Rq) (f : Fld) (hf : FldR f) : fieldQ (putQ r f) f.tag = (f, true) := by
  obtain ⟨t, n, l⟩ := f
  obtain ⟨h1, h2, h3⟩ := hf
  simp only at h1 h2 h3
  rcases itags9 h1 h2 with rfl | rfl | rfl | rfl | rfl | rfl | rfl | rfl | rfl
  all_goals simp [fldE, ruleQ, within] at h3
  all_goals (repeat' (split at h3)) <;> try (simp at h3; done)
  all_goals simp [putQ, fieldQ, uw, IntKind.wrap_i64, IntKind.wrap_u32]
  all_goals simp_all
  all_goals omega
theorem put_otherQ (r : Rq) (f : Fld) {t : Int} (h1 : 1 ≤ t) (h2 : t ≤ 9) (hf : 1 ≤ f.tag ∧ f.tag ≤ 9) (hne : f.tag ≠ t) : fieldQ (putQ r f) t = fieldQ r t := by
  obtain ⟨u, n, l⟩ := f
  simp only at hf hne
  rcases itags9 h1 h2 with rfl | rfl | rfl | rfl | rfl | rfl | rfl | rfl | rfl <;> rcases itags9 hf.1 hf.2 with rfl | rfl | rfl | rfl | rfl | rfl | rfl | rfl | rfl <;> first | exact absurd rfl hne | rfl
theorem fold_otherQ : ∀ (l : List Fld) (r : Rq) {t : Int}, 1 ≤ t → t ≤ 9 → (∀ f ∈ l, (1 ≤ f.tag ∧ f.tag ≤ 9) ∧ f.tag ≠ t) → fieldQ (foldQ r l) t = fieldQ r t
  | [], _, _, _, _, _ => rfl
  | f :: l, r, t, h1, h2, h => by
    have e : foldQ r (f :: l) = foldQ (putQ r f) l := rfl
    rw [e, fold_otherQ l _ h1 h2 (fun g hg => h g (by simp [hg])), put_otherQ r f h1 h2 (h f (by simp)).1 (h f (by simp)).2]
theorem fold_getQ : ∀ (l : List Fld) (r : Rq), (l.map Fld.tag).Pairwise (· < ·) → (∀ f ∈ l, FldR f) → ∀ f ∈ l, fieldQ (foldQ r l) f.tag = (f, true)
  | [], _, _, _, f, hf => by simp at hf
  | g :: l, r, hp, hv, f, hf => by
    rw [List.map_cons] at hp
    have hp1 := (List.pairwise_cons.1 hp).1
    have hp2 := (List.pairwise_cons.1 hp).2
    have e : foldQ r (g :: l) = foldQ (putQ r g) l := rfl
    rw [e]
    rcases List.mem_cons.1 hf with rfl | hf
    · have hg := hv f (by simp)
      rw [fold_otherQ l _ hg.1 hg.2.1 (fun x hx => ⟨⟨(hv x (by simp [hx])).1, (hv x (by simp [hx])).2.1⟩, by have := hp1 x.tag (List.mem_map.2 ⟨x, hx, rfl⟩); omega⟩)]
      exact put_getQ r f hg
    · exact fold_getQ l _ hp2 (fun x hx => hv x (by simp [hx])) f hf
theorem rules_mask {k : Int} (h : maskOf k ≠ 0) : (rulesQ k).2 = 0 := by unfold rulesQ; rw [if_neg h]
theorem dec_fldOk {f : Fld} (h : FldOk f) : 0 ≤ f.num ∧ f.num < 18446744073709551616 ∧ f.txt.length ≤ 2000 := ⟨h.1, h.2.1, by have := h.2.2; omega⟩
theorem Rq_ext {a b : Rq} (ha : RqOk a) (hb : RqOk b) (hk : a.kind = b.kind) (h : ∀ t : Int, 1 ≤ t → t ≤ 9 → (fieldQ a t).1 = (fieldQ b t).1) : a = b := by
  have inj : ∀ {x y : Int}, R64 x → R64 y → uw x = uw y → x = y := by intro x y hx hy he; unfold R64 at hx hy; unfold uw at he; omega
  have h1 := h 1 (by omega) (by omega); have h2 := h 2 (by omega) (by omega); have h3 := h 3 (by omega) (by omega); have h4 := h 4 (by omega) (by omega)
  have h5 := h 5 (by omega) (by omega); have h6 := h 6 (by omega) (by omega); have h7 := h 7 (by omega) (by omega); have h8 := h 8 (by omega) (by omega); have h9 := h 9 (by omega) (by omega)
  have a1 := ha.seat; have a2 := ha.sec; have a3 := ha.n; have a4 := ha.gate
  have b1 := hb.seat; have b2 := hb.sec; have b3 := hb.n; have b4 := hb.gate
  obtain ⟨k, i, o, w, s, t, x, y, z, v⟩ := a
  obtain ⟨k', i', o', w', s', t', x', y', z', v'⟩ := b
  simp [fieldQ] at h1 h2 h3 h4 h5 h6 h7 h8 h9 hk
  subst hk h1 h2 h3 h4 h8
  obtain rfl : x = x' := inj a1 b1 h5
  obtain rfl : y = y' := inj a2 b2 h6
  obtain rfl : z = z' := inj a3 b3 h7
  obtain rfl : v = v' := inj a4 b4 h9
  rfl
theorem nz_none {r : Rq} {t : Int} (h : nzF (fieldQ r t).1 = false) : (fieldQ r t).1 = ⟨t, 0, []⟩ := by
  have ht := fieldQ_tag r t
  generalize (fieldQ r t).1 = f at h ht
  obtain ⟨a, b, c⟩ := f
  simp [nzF] at h ht
  rw [h.1, h.2, ht]
theorem strs_Q {r : Rq} (h : checkQ r = 0) : r.ses.length ≤ 56 ∧ r.tic.length ≤ 56 := by
  have hp := ((check_iff r).1 h).2
  constructor
  · by_cases hm : (3 : Int) ∈ tagL r.kind
    · have := ((hp 3 (by omega) (by omega)).2 hm).2; simp [lbF, ruleQ, fieldQ] at this; omega
    · have := (hp 3 (by omega) (by omega)).1 hm; simp [nzF, fieldQ] at this; rw [this]; simp
  · by_cases hm : (4 : Int) ∈ tagL r.kind
    · have := ((hp 4 (by omega) (by omega)).2 hm).2; simp [lbF, ruleQ, fieldQ] at this; omega
    · have := (hp 4 (by omega) (by omega)).1 hm; simp [nzF, fieldQ] at this; rw [this]; simp
theorem strs_Q500 {r : Rq} (h : checkQ r = 0) : r.ses.length ≤ 500 ∧ r.tic.length ≤ 500 := by have := strs_Q h; omega
theorem tags_of_fields {r : Rq} (h : checkQ r = 0) : (fieldsOf r).1.map Fld.tag = tagL r.kind := by
  rw [fields_list h, List.map_map]
  conv => rhs; rw [← List.map_id (tagL r.kind)]
  apply List.map_congr_left
  intro t _
  exact fieldQ_tag r t
theorem fields_R {r : Rq} (h : checkQ r = 0) : ∀ f ∈ (fieldsOf r).1, FldR f := by
  intro f hf
  rw [fields_list h] at hf
  obtain ⟨t, ht, rfl⟩ := List.mem_map.1 hf
  have hb := (tagL_asc r.kind).2 t ht
  have hn := (((check_iff r).1 h).2 t hb.1 hb.2).2 ht
  unfold FldR
  rw [fieldQ_tag]
  exact ⟨hb.1, hb.2, qfldE hb.1 hb.2 hn.1 hn.2⟩
/-- a request is made of its fields -/
theorem fold_backQ {r : Rq} (hr : RqOk r) (h : checkQ r = 0) : foldQ { zeroQ with kind := r.kind } (fieldsOf r).1 = r := by
  have hk := fieldsOf_kind (r := r) h
  have h5 := fieldsOf_500 hr (strs_Q500 h)
  have ht := tags_of_fields h
  have hR := fields_R h
  refine Rq_ext (foldQ_ok (by have := kindQ_ok r.kind.toNat (by omega); rwa [show ((r.kind.toNat : Nat) : Int) = r.kind from by omega] at this) (fun f hf => dec_fldOk (h5.1 f hf).1)) hr (foldQ_kind _ _) (fun t t1 t2 => ?_)
  by_cases hm : t ∈ tagL r.kind
  · have := fold_getQ (fieldsOf r).1 { zeroQ with kind := r.kind } (by rw [ht]; exact (tagL_asc _).1) hR (fieldQ r t).1 (by rw [fields_list h]; exact List.mem_map.2 ⟨t, hm, rfl⟩)
    rw [fieldQ_tag] at this
    rw [this]
  · rw [nz_none ((((check_iff r).1 h).2 t t1 t2).1 hm)]
    rw [fold_otherQ _ _ t1 t2 (fun f hf => ⟨⟨(hR f hf).1, (hR f hf).2.1⟩, fun e => hm (by rw [← ht, ← e]; exact List.mem_map.2 ⟨f, hf, rfl⟩)⟩)]
    rcases itags9 t1 t2 with rfl | rfl | rfl | rfl | rfl | rfl | rfl | rfl | rfl <;> rfl
end Go.Proofs.YtckbomkcnmcdaaaGreatDoor
