/- responses: what is decoded is what was encoded, and the other way round. -/
import Derived.Test.YtcobkjognpjikaaGreatDoorX1
set_option linter.unusedSimpArgs false
set_option linter.unusedVariables false
namespace Go.Proofs.YtcobkjognpjikaaGreatDoor


theorem tagsT_form {k e f : Int} (h : decide (e = 0) = decide (f = 0)) : tagsT k e = tagsT k f := by
  unfold tagsT
  by_cases he : e = 0
  · have hf : f = 0 := by simpa [he] using h
    rw [if_pos he, if_pos hf]
  · have hf : ¬ f = 0 := by simpa [he] using h
    rw [if_neg he, if_neg hf]
theorem limits_form {k e f : Int} (h : decide (e = 0) = decide (f = 0)) : limitsS k e = limitsS k f := by unfold limitsS; rw [tagsT_form h]
theorem putS_kind (r : Rs) (f : Fld) : (putS r f).kind = r.kind := by unfold putS; (repeat' split) <;> rfl
theorem fold_kind : ∀ (l : List Fld) (r : Rs), (l.foldl putS r).kind = r.kind
  | [], _ => rfl
  | f :: l, r => by rw [List.foldl_cons, fold_kind l, putS_kind]
theorem foldS_kind (k : Int) (l : List Fld) : (foldS k l).kind = k := fold_kind l _
/-- what a field of a response holds -/
def FldV (f : Fld) : Prop := 1 ≤ f.tag ∧ f.tag ≤ 8 ∧ (f.tag = 3 ∨ f.tag = 4 → f.num = 0) ∧ (f.tag ≠ 3 → f.tag ≠ 4 → f.txt = [] ∧ 0 ≤ f.num ∧ f.num ≤ 9223372036854775807)
theorem uw_sw {n : Int} (h0 : 0 ≤ n) (h1 : n ≤ 9223372036854775807) : uw (sw n) = n := by unfold sw uw; rw [IntKind.wrap_i64]; omega
theorem put_get (r : Rs) (f : Fld) (hf : FldV f) : fieldS (putS r f) f.tag = f := by
  obtain ⟨t, n, l⟩ := f
  obtain ⟨h1, h2, h3, h4⟩ := hf
  simp only at h1 h2 h3 h4
  rcases tags8 h1 h2 with rfl | rfl | rfl | rfl | rfl | rfl | rfl | rfl
  all_goals simp [putS, fieldS, valS, VV.f] at h3 h4 ⊢
  all_goals first | (obtain ⟨h5, h6, h7⟩ := h4; simp [h5, uw_sw h6 h7]; done) | (simp [h3]; done) | (simp [h4]; done)
theorem put_other (r : Rs) (f : Fld) {t : Int} (h1 : 1 ≤ t) (h2 : t ≤ 8) (hf : 1 ≤ f.tag ∧ f.tag ≤ 8) (hne : f.tag ≠ t) : fieldS (putS r f) t = fieldS r t := by
  obtain ⟨u, n, l⟩ := f
  simp only at hf hne
  rcases tags8 h1 h2 with rfl | rfl | rfl | rfl | rfl | rfl | rfl | rfl <;> rcases tags8 hf.1 hf.2 with rfl | rfl | rfl | rfl | rfl | rfl | rfl | rfl <;> first | exact absurd rfl hne | rfl
theorem fold_other : ∀ (l : List Fld) (r : Rs) {t : Int}, 1 ≤ t → t ≤ 8 → (∀ f ∈ l, (1 ≤ f.tag ∧ f.tag ≤ 8) ∧ f.tag ≠ t) → fieldS (l.foldl putS r) t = fieldS r t
  | [], _, _, _, _, _ => rfl
  | f :: l, r, t, h1, h2, h => by
    rw [List.foldl_cons, fold_other l _ h1 h2 (fun g hg => h g (by simp [hg])), put_other r f h1 h2 (h f (by simp)).1 (h f (by simp)).2]
theorem fold_get : ∀ (l : List Fld) (r : Rs), (l.map Fld.tag).Pairwise (· < ·) → (∀ f ∈ l, FldV f) → ∀ f ∈ l, fieldS (l.foldl putS r) f.tag = f
  | [], _, _, _, f, hf => by simp at hf
  | g :: l, r, hp, hv, f, hf => by
    rw [List.map_cons] at hp
    have hp1 := (List.pairwise_cons.1 hp).1
    have hp2 := (List.pairwise_cons.1 hp).2
    rw [List.foldl_cons]
    rcases List.mem_cons.1 hf with rfl | hf
    · have hg := hv f (by simp)
      rw [fold_other l _ hg.1 hg.2.1 (fun x hx => ⟨⟨(hv x (by simp [hx])).1, (hv x (by simp [hx])).2.1⟩, by have := hp1 x.tag (List.mem_map.2 ⟨x, hx, rfl⟩); omega⟩)]
      exact put_get r f hg
    · exact fold_get l _ hp2 (fun x hx => hv x (by simp [hx])) f hf
theorem asc_eq : ∀ (a b : List Int), a.Pairwise (· < ·) → b.Pairwise (· < ·) → (∀ x, x ∈ a ↔ x ∈ b) → a = b
  | [], [], _, _, _ => rfl
  | [], y :: b, _, _, h => by have := (h y).2 (by simp); simp at this
  | x :: a, [], _, _, h => by have := (h x).1 (by simp); simp at this
  | x :: a, y :: b, ha, hb, h => by
    have a1 := (List.pairwise_cons.1 ha).1; have b1 := (List.pairwise_cons.1 hb).1
    have hxy : x = y := by
      have h1 := (h x).1 (by simp)
      have h2 := (h y).2 (by simp)
      rcases List.mem_cons.1 h1 with h1 | h1
      · exact h1
      · rcases List.mem_cons.1 h2 with h2 | h2
        · exact h2.symm
        · have := a1 y h2; have := b1 x h1; omega
    subst hxy
    rw [asc_eq a b (List.pairwise_cons.1 ha).2 (List.pairwise_cons.1 hb).2 (fun z => ⟨fun hz => by
      rcases List.mem_cons.1 ((h z).1 (by simp [hz])) with h1 | h1
      · subst h1; have := a1 z hz; omega
      · exact h1, fun hz => by
      rcases List.mem_cons.1 ((h z).2 (by simp [hz])) with h1 | h1
      · subst h1; have := b1 z hz; omega
      · exact h1⟩)]
theorem encF_each {rs : List Rule} : ∀ (l : List Fld) (last : Int), (encF rs last l).1 = 0 → ∀ x ∈ l, fldE (ruleAt x.tag rs) x = 0
  | [], _, _, x, hx => by simp at hx
  | f :: l, last, h, x, hx => by
    rw [encF] at h
    split at h
    · cases h
    · split at h
      · rename_i h2
        rcases List.mem_cons.1 hx with rfl | hx
        · exact h2
        · exact encF_each l _ h x hx
      · rename_i h2
        exact absurd h h2
/-- the fields of a message of a response: their tags, and what each of them holds -/
theorem msg_facts {k e : Int} {l : List Fld} (h : (encode (limitsS k e) l).2 = 0) : l.map Fld.tag = tagsT k e ∧ ∀ f ∈ l, FldV f := by
  obtain ⟨_, h1, h2, _⟩ := encode_ok h
  obtain ⟨h3, h4⟩ := encF_asc l 0 h1
  have ha := tagsT_asc k e
  have hmem : ∀ f ∈ l, f.tag ∈ tagsT k e := fun f hf => ruleHas_lim (h4 f hf).2
  refine ⟨asc_eq _ _ h3 ha.1 (fun t => ⟨fun ht => ?_, fun ht => ?_⟩), fun f hf => ?_⟩
  · obtain ⟨f, hf, rfl⟩ := List.mem_map.1 ht
    exact hmem f hf
  · have hn : fldHas t l = true := by
      cases hh : fldHas t l with
      | true => rfl
      | false =>
        have : t ∈ rem (limitsS k e) l := (mem_rem _ _ t).2 ⟨limitS k t, List.mem_map.2 ⟨t, ht, rfl⟩, by unfold limitS; (repeat' split) <;> rfl, limitS_tag k t, hh⟩
        rw [h2] at this; simp at this
    obtain ⟨f, hf, h5⟩ := fldHas_of hn
    exact List.mem_map.2 ⟨f, hf, h5⟩
  · have ht := hmem f hf
    have h5 := encF_each l 0 h1 f hf
    rw [(ruleAt_lim k e ht).2] at h5
    have hb := ha.2 f.tag ht
    refine ⟨hb.1, hb.2, ?_⟩
    obtain ⟨t, n, tx⟩ := f
    simp only at hb h5 ⊢
    rcases tags8 hb.1 hb.2 with rfl | rfl | rfl | rfl | rfl | rfl | rfl | rfl
    all_goals by_cases hk : k = 0 <;> simp [fldE, limitS, within, hk] at h5 ⊢
    all_goals (repeat' (split at h5)) <;> simp_all
    all_goals omega
theorem strs_56 {r : Rs} (h : checkS r = 0) : r.ses.length ≤ 56 ∧ r.tic.length ≤ 56 := by
  have hp := check_parts h
  have ha := tagsT_asc r.kind r.err
  have key : ∀ t, t = 3 ∨ t = 4 → t ∈ tagsT r.kind r.err → (fieldS r t).txt.length ≤ 56 := by
    intro t ht hm
    have := (hp.2 t hm).2
    rcases ht with rfl | rfl <;> simp [lbF, limitS, fieldS, valS, VV.f] at this ⊢ <;> omega
  have zero : ∀ t, t = 3 ∨ t = 4 → t ∉ tagsT r.kind r.err → (fieldS r t).txt = [] := by
    intro t ht hm
    have hz := hp.1
    have hk : ∀ (l : List Int) (q : Rs), (∀ u ∈ l, 1 ≤ u ∧ u ≤ 8) → t ∉ l → (fieldS (l.foldl (fun a t => putS a ⟨t, 0, []⟩) q) t).txt = (fieldS q t).txt := by
      intro l
      induction l with
      | nil => intro q _ _; rfl
      | cons u l ih =>
        intro q hu hn
        simp only [List.mem_cons, not_or] at hn
        rw [List.foldl_cons, ih _ (fun v hv => hu v (by simp [hv])) hn.2, put_other q ⟨u, 0, []⟩ (by omega) (by omega) (hu u (by simp)) (fun e => hn.1 e.symm)]
    have h1 := hk (tagsT r.kind r.err) { r with kind := 0, id := 0, err := 0 } ha.2 hm
    unfold restJ at hz
    generalize (tagsT r.kind r.err).foldl (fun a t => putS a ⟨t, 0, []⟩) { r with kind := 0, id := 0, err := 0 } = q at h1 hz
    simp [neZ] at hz
    rcases ht with rfl | rfl <;> simp [fieldS, valS, VV.f, hz] at h1 ⊢ <;> exact h1
  constructor
  · by_cases hm : (3 : Int) ∈ tagsT r.kind r.err
    · have := key 3 (.inl rfl) hm; simpa [fieldS, valS, VV.f] using this
    · have := zero 3 (.inl rfl) hm
      have h3 : r.ses = [] := by simpa [fieldS, valS, VV.f] using this
      rw [h3]; simp
  · by_cases hm : (4 : Int) ∈ tagsT r.kind r.err
    · have := key 4 (.inr rfl) hm; simpa [fieldS, valS, VV.f] using this
    · have := zero 4 (.inr rfl) hm
      have h3 : r.tic = [] := by simpa [fieldS, valS, VV.f] using this
      rw [h3]; simp
theorem strs_of_check {r : Rs} (h : checkS r = 0) : r.ses.length ≤ 500 ∧ r.tic.length ≤ 500 := by have := strs_56 h; omega
end Go.Proofs.YtcobkjognpjikaaGreatDoor
