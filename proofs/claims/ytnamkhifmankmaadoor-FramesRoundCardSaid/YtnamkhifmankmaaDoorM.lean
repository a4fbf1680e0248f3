/- The ground of the walks: a program logic over told states (no condition). -/
import GoSem.Core.World
set_option linter.unusedSimpArgs false
set_option linter.unusedVariables false
/- The package-level tables that this seat speaks of. -/
namespace Go.Proofs.YtnamkhifmankmaaDoor
def tabs : List (Nat × List Value) := []
def sents : List Nat := []
end Go.Proofs.YtnamkhifmankmaaDoor
