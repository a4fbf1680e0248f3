/- The ground of the walks: a program logic over told states (no condition). -/
import GoSem.Core.World
import Derived.Lib.ItoaNum
set_option linter.unusedSimpArgs false
set_option linter.unusedVariables false
/- The package-level tables that this seat speaks of: the powers of ten. -/
namespace Go.Proofs.YtgcjjndhohellaaDoor
def tabs : List (Nat × List Value) := [(0, Lib.pow10Tab.map (Value.int .u64))]
def sents : List Nat := []
end Go.Proofs.YtgcjjndhohellaaDoor
