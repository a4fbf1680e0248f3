/- requests, the reference: Parse. -/
import Derived.Test.YtckbomkcnmcdaaaGreatDoorRF
set_option linter.unusedSimpArgs false
set_option linter.unusedVariables false
namespace Go.Proofs.YtckbomkcnmcdaaaGreatDoor

def kindGo (nm : List UInt8) : Nat → Nat → Int → Int
  | 0, _, kd => kd
  | n + 1, k, kd => kindGo nm n (k + 1) (if nm = wordQ (k : Int) then (k : Int) else kd)
def kindOf (nm : List UInt8) : Int := kindGo nm 13 1 0
def readR : List Rule → List Fd → Rq → Option Rq
  | [], _, r => some r
  | _ :: _, [], _ => none
  | x :: rs, f :: fs, r => if x.kind = 2 then (if (!f.q) = true then none else readR rs fs (putQ r ⟨x.tag, 0, f.s⟩)) else
      if ((!decide ((intW f.s 0 9223372036854775807).2 = 0) || f.q) || decide (x.high < (intW f.s 0 9223372036854775807).1)) = true then none else readR rs fs (putQ r ⟨x.tag, (intW f.s 0 9223372036854775807).1, []⟩)
def parseR2 (kd : Int) (fs : List Fd) : Rq × Int := if (!decide ((rulesQ kd).2 = 0) || !decide ((fs.length : Int) = ((rulesQ kd).1.length : Int) + 1)) = true then (zeroQ, 6) else
  match readR (rulesQ kd).1 (fs.drop 1) { zeroQ with kind := kd } with
  | none => (zeroQ, 6)
  | some r => if (!decide (refCheckQ r = 0)) = true then (zeroQ, 6) else (r, 0)
def parseR9 (line : List UInt8) : Rq × Int := if ((!decide ((split1 line).2 = 0) || decide (((split1 line).1.length : Int) = 0)) || (fd0 (split1 line).1).q) = true then (zeroQ, 6) else parseR2 (kindOf (fd0 (split1 line).1).s) (split1 line).1
end Go.Proofs.YtckbomkcnmcdaaaGreatDoor
