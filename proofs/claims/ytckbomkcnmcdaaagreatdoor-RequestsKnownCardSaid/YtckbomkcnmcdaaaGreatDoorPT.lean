/- requests: what is decoded is what was encoded, and the other way round. -/
import Derived.Test.YtckbomkcnmcdaaaGreatDoorPS
set_option linter.unusedSimpArgs false
set_option linter.unusedVariables false
namespace Go.Proofs.YtckbomkcnmcdaaaGreatDoor


theorem putQ_kind (r : Rq) (f : Fld) : (putQ r f).kind = r.kind := by unfold putQ; (repeat' split) <;> rfl
theorem foldQ_kind : ∀ (l : List Fld) (r : Rq), (foldQ r l).kind = r.kind
  | [], _ => rfl
  | f :: l, r => by
    have : foldQ r (f :: l) = foldQ (putQ r f) l := rfl
    rw [this, foldQ_kind l, putQ_kind]
/-- a field as its rule wants it -/
def FldR (f : Fld) : Prop := 1 ≤ f.tag ∧ f.tag ≤ 9 ∧ fldE (ruleQ f.tag) f = 0
theorem put_getQ (r : Rq) (f : Fld) (hf : FldR f) : fieldQ (putQ r f) f.tag = (f, true) := by
  obtain ⟨t, n, l⟩ := f
  obtain ⟨h1, h2, h3⟩ := hf
  simp only at h1 h2 h3
  rcases itags9 h1 h2 with rfl | rfl | rfl | rfl | rfl | rfl | rfl | rfl | rfl
  all_goals simp [fldE, ruleQ, within] at h3
  all_goals (repeat' (split at h3)) <;> try (simp at h3; done)
  all_goals simp [putQ, fieldQ, uw, IntKind.wrap_i64, IntKind.wrap_u32]
  all_goals simp_all
  all_goals omega
theorem put_otherQ (r : Rq) (f : Fld) {t : Int} (h1 : 1 ≤ t) (h2 : t ≤ 9) (hf : 1 ≤ f.tag ∧ f.tag ≤ 9) (hne : f.tag ≠ t) : fieldQ (putQ r f) t = fieldQ r t := by
  obtain ⟨u, n, l⟩ := f
  simp only at hf hne
  rcases itags9 h1 h2 with rfl | rfl | rfl | rfl | rfl | rfl | rfl | rfl | rfl <;> rcases itags9 hf.1 hf.2 with rfl | rfl | rfl | rfl | rfl | rfl | rfl | rfl | rfl <;> first | exact absurd rfl hne | rfl
theorem fold_otherQ : ∀ (l : List Fld) (r : Rq) {t : Int}, 1 ≤ t → t ≤ 9 → (∀ f ∈ l, (1 ≤ f.tag ∧ f.tag ≤ 9) ∧ f.tag ≠ t) → fieldQ (foldQ r l) t = fieldQ r t
  | [], _, _, _, _, _ => rfl
  | f :: l, r, t, h1, h2, h => by
    have e : foldQ r (f :: l) = foldQ (putQ r f) l := rfl
    rw [e, fold_otherQ l _ h1 h2 (fun g hg => h g (by simp [hg])), put_otherQ r f h1 h2 (h f (by simp)).1 (h f (by simp)).2]
theorem fold_getQ : ∀ (l : List Fld) (r : Rq), (l.map Fld.tag).Pairwise (· < ·) → (∀ f ∈ l, FldR f) → ∀ f ∈ l, fieldQ (foldQ r l) f.tag = (f, true)
  | [], _, _, _, f, hf => by simp at hf
  | g :: l, r, hp, hv, f, hf => by
    rw [List.map_cons] at hp
    have hp1 := (List.pairwise_cons.1 hp).1
    have hp2 := (List.pairwise_cons.1 hp).2
    have e : foldQ r (g :: l) = foldQ (putQ r g) l := rfl
    rw [e]
    rcases List.mem_cons.1 hf with rfl | hf
    · have hg := hv f (by simp)
      rw [fold_otherQ l _ hg.1 hg.2.1 (fun x hx => ⟨⟨(hv x (by simp [hx])).1, (hv x (by simp [hx])).2.1⟩, by have := hp1 x.tag (List.mem_map.2 ⟨x, hx, rfl⟩); omega⟩)]
      exact put_getQ r f hg
    · exact fold_getQ l _ hp2 (fun x hx => hv x (by simp [hx])) f hf
theorem qasc_eq : ∀ (a b : List Int), a.Pairwise (· < ·) → b.Pairwise (· < ·) → (∀ x, x ∈ a ↔ x ∈ b) → a = b
  | [], [], _, _, _ => rfl
  | [], y :: b, _, _, h => by have := (h y).2 (by simp); simp at this
  | x :: a, [], _, _, h => by have := (h x).1 (by simp); simp at this
  | x :: a, y :: b, ha, hb, h => by
    have a1 := (List.pairwise_cons.1 ha).1; have b1 := (List.pairwise_cons.1 hb).1
    have hxy : x = y := by
      have h1 := (h x).1 (by simp)
      have h2 := (h y).2 (by simp)
      rcases List.mem_cons.1 h1 with h1 | h1
      · exact h1
      · rcases List.mem_cons.1 h2 with h2 | h2
        · exact h2.symm
        · have := a1 y h2; have := b1 x h1; omega
    subst hxy
    rw [qasc_eq a b (List.pairwise_cons.1 ha).2 (List.pairwise_cons.1 hb).2 (fun z => ⟨fun hz => by
      rcases List.mem_cons.1 ((h z).1 (by simp [hz])) with h1 | h1
      · subst h1; have := a1 z hz; omega
      · exact h1, fun hz => by
      rcases List.mem_cons.1 ((h z).2 (by simp [hz])) with h1 | h1
      · subst h1; have := b1 z hz; omega
      · exact h1⟩)]
theorem qencF_each {rs : List Rule} : ∀ (l : List Fld) (last : Int), (encF rs last l).1 = 0 → ∀ x ∈ l, fldE (ruleAt x.tag rs) x = 0
  | [], _, _, x, hx => by simp at hx
  | f :: l, last, h, x, hx => by
    rw [encF] at h
    split at h
    · cases h
    · split at h
      · rename_i h2
        rcases List.mem_cons.1 hx with rfl | hx
        · exact h2
        · exact qencF_each l _ h x hx
      · rename_i h2
        exact absurd h h2
theorem msg_factsQ {k : Int} {l : List Fld} (h : (encode (rulesQ k).1 l).2 = 0) : l.map Fld.tag = tagL k ∧ ∀ f ∈ l, FldR f := by
  obtain ⟨_, h1, h2, _⟩ := encode_ok h
  obtain ⟨h3, h4⟩ := encF_asc l 0 h1
  have ha := tagL_asc k
  have hmem : ∀ f ∈ l, f.tag ∈ tagL k := fun f hf => qruleHas (h4 f hf).2
  refine ⟨qasc_eq _ _ h3 ha.1 (fun t => ⟨fun ht => ?_, fun ht => ?_⟩), fun f hf => ?_⟩
  · obtain ⟨f, hf, rfl⟩ := List.mem_map.1 ht
    exact hmem f hf
  · have hn : fldHas t l = true := by
      cases hh : fldHas t l with
      | true => rfl
      | false =>
        have : t ∈ rem (rulesQ k).1 l := (mem_rem _ _ t).2 ⟨ruleQ t, by rw [rulesQ_tags]; exact List.mem_map.2 ⟨t, ht, rfl⟩, by unfold ruleQ; (repeat' split) <;> rfl, ruleQ_tag t, hh⟩
        rw [h2] at this; simp at this
    obtain ⟨f, hf, h5⟩ := fldHas_of hn
    exact List.mem_map.2 ⟨f, hf, h5⟩
  · have ht := hmem f hf
    have h5 := qencF_each l 0 h1 f hf
    rw [(qruleAt k ht).2] at h5
    have hb := ha.2 f.tag ht
    exact ⟨hb.1, hb.2, h5⟩
theorem fldR_bits {f : Fld} (h : FldR f) : nbF (ruleQ f.tag) f true = false ∧ lbF (ruleQ f.tag) f = false := by
  obtain ⟨t, n, l⟩ := f
  obtain ⟨h1, h2, h3⟩ := h
  simp only at h1 h2 h3 ⊢
  rcases itags9 h1 h2 with rfl | rfl | rfl | rfl | rfl | rfl | rfl | rfl | rfl
  all_goals simp [fldE, ruleQ, within] at h3
  all_goals (repeat' (split at h3)) <;> try (simp at h3; done)
  all_goals simp [nbF, lbF, ruleQ]
  all_goals (try simp_all)
  all_goals omega
/-- the request that is made of the fields of its kind is one, and these are its fields -/
theorem cand_of {k : Int} (hk : maskOf k ≠ 0) {l : List Fld} (h1 : l.map Fld.tag = tagL k) (h2 : ∀ f ∈ l, FldR f) : checkQ (foldQ { zeroQ with kind := k } l) = 0 ∧ (fieldsOf (foldQ { zeroQ with kind := k } l)).1 = l := by
  have hkd : (foldQ { zeroQ with kind := k } l).kind = k := foldQ_kind l _
  have hasc : (l.map Fld.tag).Pairwise (· < ·) := by rw [h1]; exact (tagL_asc k).1
  have hc : checkQ (foldQ { zeroQ with kind := k } l) = 0 := by
    rw [check_iff, hkd]
    refine ⟨hk, fun t t1 t2 => ⟨fun hn => ?_, fun hm => ?_⟩⟩
    · rw [fold_otherQ l _ t1 t2 (fun f hf => ⟨⟨(h2 f hf).1, (h2 f hf).2.1⟩, fun e => hn (by rw [← h1, ← e]; exact List.mem_map.2 ⟨f, hf, rfl⟩)⟩)]
      rcases itags9 t1 t2 with rfl | rfl | rfl | rfl | rfl | rfl | rfl | rfl | rfl <;> rfl
    · rw [← h1] at hm
      obtain ⟨f, hf, rfl⟩ := List.mem_map.1 hm
      rw [fold_getQ l _ hasc h2 f hf]
      exact fldR_bits (h2 f hf)
  refine ⟨hc, ?_⟩
  rw [fields_list hc, hkd, ← h1, List.map_map]
  conv => rhs; rw [← List.map_id l]
  apply List.map_congr_left
  intro f hf
  show (fieldQ _ f.tag).1 = f
  rw [fold_getQ l _ hasc h2 f hf]
theorem mask_rules {k : Int} (h : (rulesQ k).2 = 0) : maskOf k ≠ 0 := by
  intro h0; unfold rulesQ at h; rw [if_pos h0] at h; cases h
theorem rules_mask {k : Int} (h : maskOf k ≠ 0) : (rulesQ k).2 = 0 := by unfold rulesQ; rw [if_neg h]
theorem dec_fldOk {f : Fld} (h : FldOk f) : 0 ≤ f.num ∧ f.num < 18446744073709551616 ∧ f.txt.length ≤ 2000 := ⟨h.1, h.2.1, by have := h.2.2; omega⟩
theorem byteQ_of (c : UInt8) : byt (c.toNat : Int) = c := by
  have h := c.toNat_lt
  exact UInt8.toNat.inj (by have := byt_toNat (c.toNat : Int) (by omega) (by omega); omega)
/-- what is decoded is a request, and these bytes are its payload -/
theorem one_Q {b : List UInt8} (h : (decQ b).2.2 = 0) : RqOk (decQ b).1 ∧ checkQ (decQ b).1 = 0 ∧ encQ (decQ b).1 = (b, 0) ∧ (decQ b).2.1 = 0 := by
  cases b with
  | nil => cases h
  | cons c b =>
    have hcl := c.toNat_lt
    rw [decQ] at h ⊢
    by_cases hk : (!decide ((rulesQ c.toNat).2 = 0)) = true
    · rw [if_pos hk] at h; cases h
    · rw [if_neg hk] at h ⊢
      have hm := mask_rules (k := c.toNat) (by simpa using hk)
      by_cases hd : (!decide ((decode (rulesQ c.toNat).1 b).2.2 = 0)) = true
      · rw [if_pos hd] at h; cases h
      · rw [if_neg hd]
        obtain ⟨l, h1, h2, h3, h4⟩ := one_fact (rs := (rulesQ c.toNat).1) (b := b) (by simpa using hd)
        rw [h1]
        dsimp only
        have hf := msg_factsQ (k := c.toNat) (l := l) (by rw [h4])
        obtain ⟨c1, c2⟩ := cand_of hm hf.1 hf.2
        refine ⟨foldQ_ok (kindQ_ok c.toNat (by omega)) (fun f hf => dec_fldOk (h2 f hf)), c1, ?_, rfl⟩
        unfold encQ
        rw [c2, foldQ_kind, if_neg (by rw [show (fieldsOf (foldQ { zeroQ with kind := (c.toNat : Int) } l)).2 = 0 from c1]; simp), if_neg (by rw [show (encode (rulesQ ({ zeroQ with kind := (c.toNat : Int) } : Rq).kind).1 l) = (textI b, 0) from h4]; simp)]
        show (byt (c.toNat : Int) :: encBy (rulesQ c.toNat).1 l, (0 : Int)) = _
        rw [one_enc h4, byteQ_of]
theorem err_Q {b : List UInt8} (h : (decQ b).2.2 ≠ 0) : (decQ b).1 = zeroQ ∧ (decQ b).2.2 = 11 ∧ 0 ≤ (decQ b).2.1 ∧ (decQ b).2.1 ≤ b.length := by
  cases b with
  | nil => exact ⟨rfl, rfl, Int.le_refl _, Int.le_refl _⟩
  | cons c b =>
    have ha := decode_at (rulesQ c.toNat).1 b
    rw [decQ] at h ⊢
    split
    · refine ⟨rfl, rfl, Int.le_refl _, ?_⟩; dsimp only; omega
    · rename_i hk
      rw [if_neg hk] at h
      split
      · refine ⟨rfl, rfl, ?_, ?_⟩
        · dsimp only; omega
        · dsimp only; rw [List.length_cons]; omega
      · rename_i hd
        rw [if_neg hd] at h
        exact absurd rfl h
theorem Rq_ext {a b : Rq} (ha : RqOk a) (hb : RqOk b) (hk : a.kind = b.kind) (h : ∀ t : Int, 1 ≤ t → t ≤ 9 → (fieldQ a t).1 = (fieldQ b t).1) : a = b := by
  have inj : ∀ {x y : Int}, R64 x → R64 y → uw x = uw y → x = y := by intro x y hx hy he; unfold R64 at hx hy; unfold uw at he; omega
  have h1 := h 1 (by omega) (by omega); have h2 := h 2 (by omega) (by omega); have h3 := h 3 (by omega) (by omega); have h4 := h 4 (by omega) (by omega)
  have h5 := h 5 (by omega) (by omega); have h6 := h 6 (by omega) (by omega); have h7 := h 7 (by omega) (by omega); have h8 := h 8 (by omega) (by omega); have h9 := h 9 (by omega) (by omega)
  have a1 := ha.seat; have a2 := ha.sec; have a3 := ha.n; have a4 := ha.gate
  have b1 := hb.seat; have b2 := hb.sec; have b3 := hb.n; have b4 := hb.gate
  obtain ⟨k, i, o, w, s, t, x, y, z, v⟩ := a
  obtain ⟨k', i', o', w', s', t', x', y', z', v'⟩ := b
  simp [fieldQ] at h1 h2 h3 h4 h5 h6 h7 h8 h9 hk
  subst hk h1 h2 h3 h4 h8
  obtain rfl : x = x' := inj a1 b1 h5
  obtain rfl : y = y' := inj a2 b2 h6
  obtain rfl : z = z' := inj a3 b3 h7
  obtain rfl : v = v' := inj a4 b4 h9
  rfl
theorem nz_none {r : Rq} {t : Int} (h : nzF (fieldQ r t).1 = false) : (fieldQ r t).1 = ⟨t, 0, []⟩ := by
  have ht := fieldQ_tag r t
  generalize (fieldQ r t).1 = f at h ht
  obtain ⟨a, b, c⟩ := f
  simp [nzF] at h ht
  rw [h.1, h.2, ht]
theorem strs_Q {r : Rq} (h : checkQ r = 0) : r.ses.length ≤ 56 ∧ r.tic.length ≤ 56 := by
  have hp := ((check_iff r).1 h).2
  constructor
  · by_cases hm : (3 : Int) ∈ tagL r.kind
    · have := ((hp 3 (by omega) (by omega)).2 hm).2; simp [lbF, ruleQ, fieldQ] at this; omega
    · have := (hp 3 (by omega) (by omega)).1 hm; simp [nzF, fieldQ] at this; rw [this]; simp
  · by_cases hm : (4 : Int) ∈ tagL r.kind
    · have := ((hp 4 (by omega) (by omega)).2 hm).2; simp [lbF, ruleQ, fieldQ] at this; omega
    · have := (hp 4 (by omega) (by omega)).1 hm; simp [nzF, fieldQ] at this; rw [this]; simp
theorem strs_Q500 {r : Rq} (h : checkQ r = 0) : r.ses.length ≤ 500 ∧ r.tic.length ≤ 500 := by have := strs_Q h; omega
theorem tags_of_fields {r : Rq} (h : checkQ r = 0) : (fieldsOf r).1.map Fld.tag = tagL r.kind := by
  rw [fields_list h, List.map_map]
  conv => rhs; rw [← List.map_id (tagL r.kind)]
  apply List.map_congr_left
  intro t _
  exact fieldQ_tag r t
theorem fields_R {r : Rq} (h : checkQ r = 0) : ∀ f ∈ (fieldsOf r).1, FldR f := by
  intro f hf
  rw [fields_list h] at hf
  obtain ⟨t, ht, rfl⟩ := List.mem_map.1 hf
  have hb := (tagL_asc r.kind).2 t ht
  have hn := (((check_iff r).1 h).2 t hb.1 hb.2).2 ht
  unfold FldR
  rw [fieldQ_tag]
  exact ⟨hb.1, hb.2, qfldE hb.1 hb.2 hn.1 hn.2⟩
/-- a request is made of its fields -/
theorem fold_backQ {r : Rq} (hr : RqOk r) (h : checkQ r = 0) : foldQ { zeroQ with kind := r.kind } (fieldsOf r).1 = r := by
  have hk := fieldsOf_kind (r := r) h
  have h5 := fieldsOf_500 hr (strs_Q500 h)
  have ht := tags_of_fields h
  have hR := fields_R h
  refine Rq_ext (foldQ_ok (by have := kindQ_ok r.kind.toNat (by omega); rwa [show ((r.kind.toNat : Nat) : Int) = r.kind from by omega] at this) (fun f hf => dec_fldOk (h5.1 f hf).1)) hr (foldQ_kind _ _) (fun t t1 t2 => ?_)
  by_cases hm : t ∈ tagL r.kind
  · have := fold_getQ (fieldsOf r).1 { zeroQ with kind := r.kind } (by rw [ht]; exact (tagL_asc _).1) hR (fieldQ r t).1 (by rw [fields_list h]; exact List.mem_map.2 ⟨t, hm, rfl⟩)
    rw [fieldQ_tag] at this
    rw [this]
  · rw [nz_none ((((check_iff r).1 h).2 t t1 t2).1 hm)]
    rw [fold_otherQ _ _ t1 t2 (fun f hf => ⟨⟨(hR f hf).1, (hR f hf).2.1⟩, fun e => hm (by rw [← ht, ← e]; exact List.mem_map.2 ⟨f, hf, rfl⟩)⟩)]
    rcases itags9 t1 t2 with rfl | rfl | rfl | rfl | rfl | rfl | rfl | rfl | rfl <;> rfl
/-- what is encoded is decoded -/
theorem round_Q {r : Rq} (hr : RqOk r) (h : checkQ r = 0) : ∃ b, encQ r = (b, 0) ∧ decQ b = (r, 0, 0) ∧ b ≠ [] ∧ b.length ≤ 1024 := by
  have hk := fieldsOf_kind (r := r) h
  have hm := ((check_iff r).1 h).1
  have h5 := fieldsOf_500 hr (strs_Q500 h)
  have hs := strs_Q h
  refine ⟨byt r.kind :: encBy (rulesQ r.kind).1 (fieldsOf r).1, ?_, ?_, by simp, ?_⟩
  · unfold encQ; rw [if_neg (by rw [show (fieldsOf r).2 = 0 from h]; simp), if_neg (by rw [qenc_ok h]; simp)]
  · have hc : ((byt r.kind).toNat : Int) = r.kind := byt_toNat _ hk.1 (by omega)
    rw [decQ, hc, if_neg (by rw [rules_mask hm]; simp), round_law (fun x hx => (h5.1 x hx).1) (qenc_ok h), if_neg (by simp), fold_backQ hr h]
  · have hl : ∀ x ∈ (fieldsOf r).1, FldOk x ∧ x.txt.length ≤ 56 := by
      intro x hx
      refine ⟨(h5.1 x hx).1, ?_⟩
      rw [fields_list h] at hx
      obtain ⟨t, _, rfl⟩ := List.mem_map.1 hx
      unfold fieldQ
      (repeat' split) <;> simp only [List.length_nil] <;> omega
    have key : ∀ (fs : List Fld) (last : Int), (∀ x ∈ fs, FldOk x ∧ x.txt.length ≤ 56) → (encF (rulesQ r.kind).1 last fs).2.length ≤ 59 * fs.length := by
      intro fs
      induction fs with
      | nil => intro last _; simp [encF]
      | cons x fs ih =>
        intro last hx
        have i1 := ih x.tag (fun y hy => hx y (by simp [hy]))
        have i2 := digs_len x.num (hx x (by simp)).1.1 (hx x (by simp)).1.2.1
        have i3 := (hx x (by simp)).2
        have i4 : ∀ q : Rule, (fldB q x).length ≤ 59 := by intro q; unfold fldB; split <;> simp [textI_len] <;> omega
        rw [encF]
        split
        · simp
        · split
          · have := i4 (ruleAt x.tag (rulesQ r.kind).1); simp only [List.length_append, List.length_cons]; omega
          · simp
    obtain ⟨_, _, _, h3⟩ := encode_ok (qenc_ok h)
    have k1 := key (fieldsOf r).1 0 hl
    have k2 := h5.2
    unfold encBy
    rw [List.length_cons, List.length_map, h3]
    omega

end Go.Proofs.YtckbomkcnmcdaaaGreatDoor
