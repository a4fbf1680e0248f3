/- words, the reference: the form of a byte between quotes; bare fields. -/
import Derived.Test.YtmjpkfjgknbfeaaGreatDoorQG
set_option linter.unusedSimpArgs false
set_option linter.unusedVariables false
namespace Go.Proofs.YtmjpkfjgknbfeaaGreatDoor

end Go.Proofs.YtmjpkfjgknbfeaaGreatDoor
