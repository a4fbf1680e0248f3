/- The ground of the walks: a program logic over told states (no condition). -/
import GoSem.Core.World
import Derived.Lib.ItoaNum
set_option linter.unusedSimpArgs false
set_option linter.unusedVariables false
/- The package-level tables that this seat speaks of: the powers of ten, the words of kinds, escapes, the fields of requests. -/
namespace Go.Proofs.YtcobkjognpjikaaGreatDoor
/-- the words of the kinds of responses -/
def rsNames : List (List UInt8) := [[110, 111, 110, 101], [111, 112, 101, 110], [104, 111, 108, 100], [98, 108, 111, 99, 107], [114, 101, 108, 101, 97, 115, 101], [98, 117, 121], [116, 114, 97, 110, 115, 102, 101, 114], [114, 101, 102, 117, 110, 100], [114, 101, 118, 111, 107, 101], [118, 97, 108, 105, 100, 97, 116, 101], [106, 111, 105, 110], [108, 101, 97, 118, 101], [], [101, 110, 116, 101, 114]]
/-- the bytes with an escape of their own, and its letters -/
def escTab : List Int := [34, 34, 92, 92, 10, 110, 13, 114, 9, 116]
/-- the tags of the fields of requests, as bits -/
def maskTab : List Int := [0, 6, 42, 202, 42, 42, 282, 26, 42, 18, 74, 74, 0, 530]
def tabs : List (Nat × List Value) := [(2, Lib.pow10Tab.map (Value.int .u64)), (0, rsNames.map fun l => Value.string ⟨l.toArray⟩), (1, escTab.map (Value.int .u8)), (3, maskTab.map (Value.int .u16))]
def sents : List Nat := [7, 8]
end Go.Proofs.YtcobkjognpjikaaGreatDoor
