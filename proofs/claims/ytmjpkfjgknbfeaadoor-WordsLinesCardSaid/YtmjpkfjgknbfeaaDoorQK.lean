/- words, the reference: Quote, and what is read as a quoted form. -/
import Derived.Test.YtmjpkfjgknbfeaaDoorQJ
set_option linter.unusedSimpArgs false
set_option linter.unusedVariables false
namespace Go.Proofs.YtmjpkfjgknbfeaaDoor

end Go.Proofs.YtmjpkfjgknbfeaaDoor
