/- requests: the rules and the check are the reference's. -/
import Derived.Test.YtcobkjognpjikaaGreatDoorRR
set_option linter.unusedSimpArgs false
set_option linter.unusedVariables false
namespace Go.Proofs.YtcobkjognpjikaaGreatDoor


def nzF (f : Fld) : Bool := (!decide (f.num = 0)) || !decide (f.txt = [])
def nbF (x : Rule) (f : Fld) (is : Bool) : Bool := decide (x.kind = 1) && (((!is) || decide (f.num < x.low)) || decide (x.high < f.num))
def lbF (x : Rule) (f : Fld) : Bool := decide (x.kind = 2) && !decide ((f.txt.length : Int) = x.low)
def Ub (m : Int) (r : Rq) : Nat → Nat → Bool
  | 0, _ => false
  | n + 1, k => (decide (bitQ m k = 0) && nzF (fieldQ r k).1) || Ub m r n (k + 1)
def Nb (m : Int) (r : Rq) : Nat → Nat → Bool
  | 0, _ => false
  | n + 1, k => ((!decide (bitQ m k = 0)) && nbF (ruleQ k) (fieldQ r k).1 (fieldQ r k).2) || Nb m r n (k + 1)
def Lb (m : Int) (r : Rq) : Nat → Nat → Bool
  | 0, _ => false
  | n + 1, k => ((!decide (bitQ m k = 0)) && lbF (ruleQ k) (fieldQ r k).1) || Lb m r n (k + 1)
end Go.Proofs.YtcobkjognpjikaaGreatDoor
