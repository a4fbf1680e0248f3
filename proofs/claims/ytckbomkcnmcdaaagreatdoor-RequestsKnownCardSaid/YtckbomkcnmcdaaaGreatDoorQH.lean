/- words, the reference: the form of a byte between quotes; bare fields. -/
import Derived.Test.YtckbomkcnmcdaaaGreatDoorQG
set_option linter.unusedSimpArgs false
set_option linter.unusedVariables false
namespace Go.Proofs.YtckbomkcnmcdaaaGreatDoor

end Go.Proofs.YtckbomkcnmcdaaaGreatDoor
