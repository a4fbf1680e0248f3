/- responses: what is encoded is well formed; Encode and Decode are the reference's; each is the other's inverse. -/
import Derived.Test.YtcobkjognpjikaaGreatDoorPA
set_option linter.unusedSimpArgs false
set_option linter.unusedVariables false
namespace Go.Proofs.YtcobkjognpjikaaGreatDoor


theorem limitS_tag (k t : Int) : (limitS k t).tag = t := by unfold limitS; (repeat' split) <;> rfl
theorem fieldS_tag (r : Rs) (t : Int) : (fieldS r t).tag = t := by unfold fieldS valS; (repeat' split) <;> rfl
theorem tagsT_asc (k e : Int) : (tagsT k e).Pairwise (· < ·) ∧ ∀ t ∈ tagsT k e, 1 ≤ t ∧ t ≤ 8 := by
  unfold tagsT moreT
  (repeat' split) <;> simp
theorem check_parts {r : Rs} (h : checkS r = 0) : neZ (restJ r (tagsT r.kind r.err)) = false ∧ ∀ t ∈ tagsT r.kind r.err, nbS (limitS r.kind t) (fieldS r t) = false ∧ lbF (limitS r.kind t) (fieldS r t) = false := by
  unfold checkS at h
  split at h
  · cases h
  · split at h
    · cases h
    · rename_i h2
      refine ⟨by simpa using h2, ?_⟩
      unfold errJ at h
      rw [errJ_any r _ 0 (.inl rfl)] at h
      split at h
      · cases h
      · rename_i h3
        split at h
        · cases h
        · rename_i h4
          simp only [Bool.or_eq_true, List.any_eq_true, not_or, not_exists, not_and, Bool.not_eq_true] at h3 h4
          exact fun t ht => ⟨h3.1 t ht, h4.1 t ht⟩
end Go.Proofs.YtcobkjognpjikaaGreatDoor
