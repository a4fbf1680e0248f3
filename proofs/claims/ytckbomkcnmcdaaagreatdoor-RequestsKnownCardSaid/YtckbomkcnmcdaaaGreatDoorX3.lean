/- requests: the laws RequestsTexts, RequestsLines (walks). -/
import Derived.Test.YtckbomkcnmcdaaaGreatDoorX2
import Derived.Test.YtckbomkcnmcdaaaGreatDoorPU
set_option linter.unusedSimpArgs false
set_option linter.unusedVariables false
namespace Go.Proofs.YtckbomkcnmcdaaaGreatDoor

end Go.Proofs.YtckbomkcnmcdaaaGreatDoor
