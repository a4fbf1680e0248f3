/- words: the law WordsBoth. -/
import Derived.Test.YtmjpkfjgknbfeaaGreatDoorQT
set_option linter.unusedSimpArgs false
set_option linter.unusedVariables false
namespace Go.Proofs.YtmjpkfjgknbfeaaGreatDoor

def okJ (l : List Fd) : Prop := ¬ 64 < (l.length : Int) ∧ longA l = false ∧ badA l = false ∧ ¬ 8192 < ((lineF l).length : Int)
theorem joinW_okJ {l : List Fd} (h : okJ l) : joinW l = (lineF l, 0) := by
  obtain ⟨h1, h2, h3, h4⟩ := h
  unfold joinW
  rw [if_neg h1, if_neg (by rw [h2]; simp), if_neg (by rw [h3]; simp), if_neg h4]
theorem joinW_z {l : List Fd} (h : (joinW l).2 = 0) : okJ l := by
  unfold joinW at h
  split at h
  · cases h
  · split at h
    · cases h
    · split at h
      · cases h
      · split at h
        · cases h
        · rename_i h1 h2 h3 h4
          exact ⟨h1, by simpa using h2, by simpa using h3, h4⟩
end Go.Proofs.YtmjpkfjgknbfeaaGreatDoor
