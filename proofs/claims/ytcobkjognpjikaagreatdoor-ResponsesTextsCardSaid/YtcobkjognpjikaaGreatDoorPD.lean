/- responses: Decode of Encode is the response. -/
import Derived.Test.YtcobkjognpjikaaGreatDoorPC
set_option linter.unusedSimpArgs false
set_option linter.unusedVariables false
namespace Go.Proofs.YtcobkjognpjikaaGreatDoor


def pre2 (R1 R2 : Rule) (b : List UInt8) : Fld := (getV R2 ((getV R1 (b.drop 1)).2.1.drop 1)).1
end Go.Proofs.YtcobkjognpjikaaGreatDoor
