/- words, the reference: the form of a byte between quotes; bare fields. -/
import Derived.Test.YtcobkjognpjikaaGreatDoorQG
set_option linter.unusedSimpArgs false
set_option linter.unusedVariables false
namespace Go.Proofs.YtcobkjognpjikaaGreatDoor

end Go.Proofs.YtcobkjognpjikaaGreatDoor
