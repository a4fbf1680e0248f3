/- How arguments are read: fields. -/
import Derived.Test.YtmjpkfjgknbfeaaDoorQT
set_option linter.unusedSimpArgs false
set_option linter.unusedVariables false
namespace Go.Proofs.YtmjpkfjgknbfeaaDoor

section
open Go.ChangeShapes Go.WideShapes Go.Deep Go.RowKit Go.ChangeAt
variable {H : Type} {enc : TypeId × Value → H} {w : World}
end
end Go.Proofs.YtmjpkfjgknbfeaaDoor
