/- words: the law WordsBoth. -/
import Derived.Test.YtmjpkfjgknbfeaaDoorQT
set_option linter.unusedSimpArgs false
set_option linter.unusedVariables false
namespace Go.Proofs.YtmjpkfjgknbfeaaDoor

def okJ (l : List Fd) : Prop := ¬ 64 < (l.length : Int) ∧ longA l = false ∧ badA l = false ∧ ¬ 8192 < ((lineF l).length : Int)
end Go.Proofs.YtmjpkfjgknbfeaaDoor
