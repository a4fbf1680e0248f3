/- The ground of the walks: a program logic over told states (no condition). -/
import GoSem.Core.World
import Derived.Lib.ItoaNum
set_option linter.unusedSimpArgs false
set_option linter.unusedVariables false
/- The package-level tables that this seat speaks of: the powers of ten, escapes; the errors of numbers. -/
namespace Go.Proofs.YtmjpkfjgknbfeaaGreatDoor
/-- the bytes with an escape of their own, and its letters -/
def escTab : List Int := [34, 34, 92, 92, 10, 110, 13, 114, 9, 116]
def tabs : List (Nat × List Value) := [(4, Lib.pow10Tab.map (Value.int .u64)), (0, escTab.map (Value.int .u8))]
def sents : List Nat := [2, 3]
end Go.Proofs.YtmjpkfjgknbfeaaGreatDoor
