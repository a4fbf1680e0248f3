/- words, the reference: Quote, and what is read as a quoted form. -/
import Derived.Test.YtcobkjognpjikaaGreatDoorQJ
set_option linter.unusedSimpArgs false
set_option linter.unusedVariables false
namespace Go.Proofs.YtcobkjognpjikaaGreatDoor

end Go.Proofs.YtcobkjognpjikaaGreatDoor
