/- requests: the laws RequestsRound, RequestsKnown (walks). -/
import Derived.Test.YtckbomkcnmcdaaaGreatDoorX1
set_option linter.unusedSimpArgs false
set_option linter.unusedVariables false
namespace Go.Proofs.YtckbomkcnmcdaaaGreatDoor

def badQ : Rq := { openQ with id := 0 }
def moreQ : Rq := { openQ with seat := 1 }
end Go.Proofs.YtckbomkcnmcdaaaGreatDoor
