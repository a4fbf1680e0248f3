/- requests: the laws RequestsRules, RequestsEncodes, RequestsDecodes, RequestsOne (walks). -/
import Derived.Test.YtckbomkcnmcdaaaGreatDoorPT
set_option linter.unusedSimpArgs false
set_option linter.unusedVariables false
namespace Go.Proofs.YtckbomkcnmcdaaaGreatDoor

end Go.Proofs.YtckbomkcnmcdaaaGreatDoor
