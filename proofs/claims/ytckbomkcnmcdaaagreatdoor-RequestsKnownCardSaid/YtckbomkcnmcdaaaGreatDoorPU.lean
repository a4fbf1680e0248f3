/- requests: Parse is the reference's; Parse and Print are inverse to each other. -/
import Derived.Test.YtckbomkcnmcdaaaGreatDoorRH
import Derived.Test.YtckbomkcnmcdaaaGreatDoorQM
set_option linter.unusedSimpArgs false
set_option linter.unusedVariables false
namespace Go.Proofs.YtckbomkcnmcdaaaGreatDoor


/-- the fields that a line's fields say, as the reference reads them -/
def readL : List Rule → List Fd → Option (List Fld)
  | [], _ => some []
  | _ :: _, [] => none
  | x :: rs, f :: fs => if x.kind = 2 then (if (!f.q) = true then none else (readL rs fs).map (⟨x.tag, 0, f.s⟩ :: ·)) else
      if ((!decide ((intW f.s 0 9223372036854775807).2 = 0) || f.q) || decide (x.high < (intW f.s 0 9223372036854775807).1)) = true then none else (readL rs fs).map (⟨x.tag, (intW f.s 0 9223372036854775807).1, []⟩ :: ·)
def lowAll : List Rule → List Fld → Bool
  | x :: rs, f :: l => (decide (x.kind = 2) || decide (x.low ≤ f.num)) && lowAll rs l
  | _, _ => true
/-- a field whose number is not above its rule's -/
def FldW (f : Fld) : Prop := 1 ≤ f.tag ∧ f.tag ≤ 9 ∧ ((ruleQ f.tag).kind = 2 → f.num = 0) ∧ ((ruleQ f.tag).kind ≠ 2 → f.txt = [] ∧ 0 ≤ f.num ∧ f.num ≤ (ruleQ f.tag).high)
/-! ### lines -/
def fdOf (f : Fld) : Fd := if (ruleQ f.tag).kind = 2 then ⟨f.txt, true⟩ else ⟨Lib.decDigits f.num.toNat, false⟩
end Go.Proofs.YtckbomkcnmcdaaaGreatDoor
