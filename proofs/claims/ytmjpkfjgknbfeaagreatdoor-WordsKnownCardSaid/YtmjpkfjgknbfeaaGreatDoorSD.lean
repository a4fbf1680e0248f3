/- words, the reference: next. -/
import Derived.Test.YtmjpkfjgknbfeaaGreatDoorSC
set_option linter.unusedSimpArgs false
set_option linter.unusedVariables false
namespace Go.Proofs.YtmjpkfjgknbfeaaGreatDoor

end Go.Proofs.YtmjpkfjgknbfeaaGreatDoor
