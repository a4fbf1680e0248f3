/- words, the reference: Split. -/
import Derived.Test.YtckbomkcnmcdaaaGreatDoorQK
set_option linter.unusedSimpArgs false
set_option linter.unusedVariables false
namespace Go.Proofs.YtckbomkcnmcdaaaGreatDoor

end Go.Proofs.YtckbomkcnmcdaaaGreatDoor
