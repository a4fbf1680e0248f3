/- words, the reference: Split. -/
import Derived.Test.YtmjpkfjgknbfeaaGreatDoorQK
set_option linter.unusedSimpArgs false
set_option linter.unusedVariables false
namespace Go.Proofs.YtmjpkfjgknbfeaaGreatDoor

theorem cut1_cases (r : List UInt8) (c : UInt8) : (cut1 r c = r ∧ c ∉ r) ∨ ∃ a b, r = a ++ c :: b ∧ c ∉ a ∧ cut1 r c = a := by
  unfold cut1
  rcases index_cases c r with ⟨h1, h2⟩ | ⟨a, b, h1, h2, h3⟩
  · left; rw [if_neg (by omega)]; exact ⟨rfl, h2⟩
  · right; rw [if_pos (by omega), h3, Int.toNat_natCast]
    refine ⟨a, b, h1, h2, ?_⟩
    rw [h1, List.take_left]
end Go.Proofs.YtmjpkfjgknbfeaaGreatDoor
