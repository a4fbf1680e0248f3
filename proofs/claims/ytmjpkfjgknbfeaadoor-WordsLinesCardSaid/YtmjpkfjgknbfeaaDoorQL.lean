/- words, the reference: Split. -/
import Derived.Test.YtmjpkfjgknbfeaaDoorQK
set_option linter.unusedSimpArgs false
set_option linter.unusedVariables false
namespace Go.Proofs.YtmjpkfjgknbfeaaDoor

end Go.Proofs.YtmjpkfjgknbfeaaDoor
