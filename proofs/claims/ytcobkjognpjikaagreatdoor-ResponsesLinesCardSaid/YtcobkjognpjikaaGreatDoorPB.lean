/- responses: what is encoded is well formed; Encode and Decode are the reference's; each is the other's inverse. -/
import Derived.Test.YtcobkjognpjikaaGreatDoorPA
set_option linter.unusedSimpArgs false
set_option linter.unusedVariables false
namespace Go.Proofs.YtcobkjognpjikaaGreatDoor


theorem limitS_tag (k t : Int) : (limitS k t).tag = t := by unfold limitS; (repeat' split) <;> rfl
theorem fieldS_tag (r : Rs) (t : Int) : (fieldS r t).tag = t := by unfold fieldS valS; (repeat' split) <;> rfl
theorem tagsT_asc (k e : Int) : (tagsT k e).Pairwise (· < ·) ∧ ∀ t ∈ tagsT k e, 1 ≤ t ∧ t ≤ 8 := by
  unfold tagsT moreT
  (repeat' split) <;> simp
theorem rule_map {R : Int → Rule} (hR : ∀ t, (R t).tag = t) : ∀ (T : List Int) {t : Int}, t ∈ T → (T.map R).find? (fun x => decide (x.tag = t)) = some (R t)
  | [], t, h => by simp at h
  | u :: T, t, h => by
    rw [List.map_cons, List.find?_cons]
    by_cases hu : u = t
    · subst hu; simp [hR]
    · have : decide ((R u).tag = t) = false := by simp [hR, hu]
      rw [this]
      exact rule_map hR T (by rcases List.mem_cons.1 h with h | h; exact absurd h.symm hu; exact h)
theorem fld_map {F : Int → Fld} (hF : ∀ t, (F t).tag = t) : ∀ (T : List Int) {t : Int}, t ∈ T → fldHas t (T.map F) = true
  | [], t, h => by simp at h
  | u :: T, t, h => by
    unfold fldHas
    rw [List.map_cons, List.find?_cons]
    by_cases hu : u = t
    · subst hu; simp [hF]
    · have : decide ((F u).tag = t) = false := by simp [hF, hu]
      rw [this]
      exact fld_map hF T (by rcases List.mem_cons.1 h with h | h; exact absurd h.symm hu; exact h)
theorem ruleAt_lim (k e : Int) {t : Int} (h : t ∈ tagsT k e) : ruleHas t (limitsS k e) = true ∧ ruleAt t (limitsS k e) = limitS k t := by
  have := rule_map (limitS_tag k) (tagsT k e) h
  unfold ruleHas ruleAt limitsS
  rw [this]
  exact ⟨rfl, rfl⟩
theorem ruleHas_lim {k e t : Int} (h : ruleHas t (limitsS k e) = true) : t ∈ tagsT k e := by
  unfold ruleHas limitsS at h
  obtain ⟨x, hx⟩ := Option.isSome_iff_exists.1 h
  have h1 := List.mem_of_find?_eq_some hx
  have h2 := List.find?_some hx
  obtain ⟨u, hu, rfl⟩ := List.mem_map.1 h1
  simp only [decide_eq_true_eq, limitS_tag] at h2
  subst h2; exact hu
theorem check_lim (k e : Int) : check (limitsS k e) = 0 := by
  have hk : ∀ t : Int, 1 ≤ t → t ≤ 8 → ((limitS k t).low ≤ (limitS k t).high) ∧ ((limitS k t).kind = 1 ∨ (limitS k t).kind = 2 ∧ (limitS k t).high ≤ 400) := by
    intro t h1 h2
    unfold limitS
    (repeat' split) <;> simp
  have key : ∀ (T : List Int) (last : Int), T.Pairwise (· < ·) → (∀ t ∈ T, last < t ∧ 1 ≤ t ∧ t ≤ 8) → checkGo last (T.map (limitS k)) = 0 := by
    intro T
    induction T with
    | nil => intro last _ _; rfl
    | cons t T ih =>
      intro last hp hm
      obtain ⟨h1, h2, h3⟩ := hm t (by simp)
      obtain ⟨h4, h5⟩ := hk t h2 h3
      rw [List.map_cons, checkGo, limitS_tag, if_neg (by simp; omega)]
      have ih' := ih t (List.pairwise_cons.1 hp).2 (fun u hu => ⟨(List.pairwise_cons.1 hp).1 u hu, (hm u (by simp [hu])).2⟩)
      rcases h5 with h5 | ⟨h5, h6⟩
      · rw [if_pos h5]; exact ih'
      · rw [if_neg (by omega), if_neg (by simp [h5]; omega)]; exact ih'
  unfold check
  rw [if_neg (by have := limitsS_len k e; omega)]
  have h := tagsT_asc k e
  exact key (tagsT k e) 0 h.1 (fun t ht => ⟨by have := (h.2 t ht).1; omega, h.2 t ht⟩)
theorem encF_map {rs : List Rule} {F : Int → Fld} (hF : ∀ t, (F t).tag = t) : ∀ (T : List Int) (last : Int), T.Pairwise (· < ·) → (∀ t ∈ T, last < t ∧ ruleHas t rs = true ∧ fldE (ruleAt t rs) (F t) = 0) → (encF rs last (T.map F)).1 = 0
  | [], last, _, _ => rfl
  | t :: T, last, hp, h => by
    obtain ⟨h1, h2, h3⟩ := h t (by simp)
    rw [List.map_cons, encF, hF, if_neg (by simp [h2]; omega), if_pos h3]
    exact encF_map hF T t (List.pairwise_cons.1 hp).2 (fun u hu => ⟨(List.pairwise_cons.1 hp).1 u hu, (h u (by simp [hu])).2⟩)
/-- a field whose number and length are right is one of its rule -/
theorem fldE_fld (r : Rs) {k t : Int} (h1 : 1 ≤ t) (h2 : t ≤ 8) (hn : nbS (limitS k t) (fieldS r t) = false) (hl : lbF (limitS k t) (fieldS r t) = false) : fldE (limitS k t) (fieldS r t) = 0 := by
  rcases tags8 h1 h2 with rfl | rfl | rfl | rfl | rfl | rfl | rfl | rfl
  all_goals
    by_cases hk : k = 0 <;> simp [fldE, nbS, lbF, limitS, fieldS, valS, VV.f, within, hk] at hn hl ⊢
  all_goals omega
theorem check_parts {r : Rs} (h : checkS r = 0) : neZ (restJ r (tagsT r.kind r.err)) = false ∧ ∀ t ∈ tagsT r.kind r.err, nbS (limitS r.kind t) (fieldS r t) = false ∧ lbF (limitS r.kind t) (fieldS r t) = false := by
  unfold checkS at h
  split at h
  · cases h
  · split at h
    · cases h
    · rename_i h2
      refine ⟨by simpa using h2, ?_⟩
      unfold errJ at h
      rw [errJ_any r _ 0 (.inl rfl)] at h
      split at h
      · cases h
      · rename_i h3
        split at h
        · cases h
        · rename_i h4
          simp only [Bool.or_eq_true, List.any_eq_true, not_or, not_exists, not_and, Bool.not_eq_true] at h3 h4
          exact fun t ht => ⟨h3.1 t ht, h4.1 t ht⟩
theorem enc_ok {r : Rs} (h : checkS r = 0) : (encode (limitsS r.kind r.err) (msgS r)).2 = 0 := by
  have hp := check_parts h
  have ha := tagsT_asc r.kind r.err
  have hE : (encF (limitsS r.kind r.err) 0 (msgS r)).1 = 0 := by
    unfold msgS
    refine encF_map (fieldS_tag r) _ 0 ha.1 (fun t ht => ?_)
    obtain ⟨h1, h2⟩ := ruleAt_lim r.kind r.err ht
    have h3 := ha.2 t ht
    refine ⟨by omega, h1, ?_⟩
    rw [h2]
    exact fldE_fld r h3.1 h3.2 (hp.2 t ht).1 (hp.2 t ht).2
  have hL : lackF (limitsS r.kind r.err) (msgS r) = false := by
    unfold lackF
    rw [List.any_eq_false]
    intro t ht
    unfold needs limitsS at ht
    obtain ⟨x, hx, rfl⟩ := List.mem_map.1 ht
    obtain ⟨u, hu, rfl⟩ := List.mem_map.1 (List.mem_filter.1 hx).1
    rw [limitS_tag]
    simp [msgS, fld_map (fieldS_tag r) _ hu]
  unfold encode
  rw [if_pos (check_lim _ _), if_neg (by have := msgS_len r; omega), if_pos hE, if_neg (by rw [hL]; simp)]
end Go.Proofs.YtcobkjognpjikaaGreatDoor
