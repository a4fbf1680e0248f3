/- responses, the reference: Print, what is read from the fields of a line, Parse. -/
import Derived.Test.YtcobkjognpjikaaGreatDoorTA
import Derived.Test.YtcobkjognpjikaaGreatDoorPB
set_option linter.unusedSimpArgs false
set_option linter.unusedVariables false
namespace Go.Proofs.YtcobkjognpjikaaGreatDoor

/-! the reference -/
def readL : List Rule → List Fd → Option (List Fld)
  | [], _ => some []
  | _ :: _, [] => none
  | x :: rs, f :: fs => if (!decide (f.q = decide (x.kind = 2))) = true then none else if f.q = true then (readL rs fs).map (⟨x.tag, 0, f.s⟩ :: ·) else
      if (!decide ((intW f.s 0 9223372036854775807).2 = 0) || decide (x.high < (intW f.s 0 9223372036854775807).1)) = true then none else (readL rs fs).map (⟨x.tag, (intW f.s 0 9223372036854775807).1, []⟩ :: ·)
def fitsT (rs : List Rule) (fs : List Fd) : Option (List Fld) := if (!decide ((fs.length : Int) = rs.length)) = true then none else readL rs fs
def tryR (k : Int) (bad : Bool) (fs : List Fd) : Rs × Bool := match fitsT (rulesT k bad) fs with
  | none => (zeroS, false)
  | some l => if (decide ((!decide ((foldS k l).err = 0)) = bad) && decide (refCheckT (foldS k l) = 0)) = true then (foldS k l, true) else (zeroS, false)
def wordT (k : Int) : List UInt8 := if k = 0 then [110, 111, 110, 101] else rsNames2.getD k.toNat []
def parseGoT (nm : List UInt8) (fs : List Fd) : Nat → Nat → Rs × Int
  | 0, _ => (zeroS, 6)
  | n + 1, k => if nm = wordT (k : Int) then (if (tryR k false fs).2 = true then ((tryR k false fs).1, 0) else if (tryR k true fs).2 = true then ((tryR k true fs).1, 0) else parseGoT nm fs n (k + 1)) else parseGoT nm fs n (k + 1)
def parseT (line : List UInt8) : Rs × Int := if ((!decide ((split1 line).2 = 0) || decide (((split1 line).1.length : Int) = 0)) || (fd0 (split1 line).1).q) = true then (zeroS, 6) else parseGoT (fd0 (split1 line).1).s ((split1 line).1.drop 1) 14 0

def partR (f : Fld) : List UInt8 := if (decide (f.tag = 3) || decide (f.tag = 4)) = true then quote f.txt else Lib.itoa (IntKind.i64.wrap f.num)
def textR (w : List UInt8) (l : List Fld) : List UInt8 := l.foldl (fun s f => s ++ [32] ++ partR f) w
def printT (r : Rs) : List UInt8 × Int := if (!decide (refCheckT r = 0)) = true then ([], refCheckT r) else (textR (wordT r.kind) (messageT r), 0)
def optF : Option (List Fld) → List Fld × Bool
  | none => ([], false)
  | some l => (l, true)
end Go.Proofs.YtcobkjognpjikaaGreatDoor
