/- words, the reference: Quote, and what is read as a quoted form. -/
import Derived.Test.YtmjpkfjgknbfeaaGreatDoorQJ
set_option linter.unusedSimpArgs false
set_option linter.unusedVariables false
namespace Go.Proofs.YtmjpkfjgknbfeaaGreatDoor

theorem escaped_pos (c : UInt8) : 1 ≤ (escaped c).length ∧ (escaped c).length ≤ 4 := by unfold escaped; repeat' split <;> simp
end Go.Proofs.YtmjpkfjgknbfeaaGreatDoor
