/- words, the reference: List; two lists compared. -/
import Derived.Test.YtmjpkfjgknbfeaaGreatDoorSE
set_option linter.unusedSimpArgs false
set_option linter.unusedVariables false
namespace Go.Proofs.YtmjpkfjgknbfeaaGreatDoor

end Go.Proofs.YtmjpkfjgknbfeaaGreatDoor
