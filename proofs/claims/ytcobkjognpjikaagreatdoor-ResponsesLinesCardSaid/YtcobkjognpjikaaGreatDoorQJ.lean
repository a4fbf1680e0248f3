/- words: Digits, and the reference's. -/
import Derived.Test.YtcobkjognpjikaaGreatDoorQI
set_option linter.unusedSimpArgs false
set_option linter.unusedVariables false
namespace Go.Proofs.YtcobkjognpjikaaGreatDoor

def mz (n : Int) : Nat := 2 * n.natAbs + (if n < 0 then 1 else 0)
end Go.Proofs.YtcobkjognpjikaaGreatDoor
