/- requests, the reference: Decode; what the two return is the same. -/
import Derived.Test.YtckbomkcnmcdaaaGreatDoorRB
set_option linter.unusedSimpArgs false
set_option linter.unusedVariables false
namespace Go.Proofs.YtckbomkcnmcdaaaGreatDoor

/-- groundlingref09.Decode -/
def decR9 : List UInt8 → Rq × Int × Int
  | [] => (zeroQ, 0, 11)
  | c :: b => if wordQ c.toNat = [] then (zeroQ, 0, 11) else if (!decide ((decode (rulesR c.toNat).1 b).2.2 = 0)) = true then (zeroQ, (decode (rulesR c.toNat).1 b).2.1 + 1, 11) else (foldQ { zeroQ with kind := c.toNat } (decode (rulesR c.toNat).1 b).1, 0, 0)

end Go.Proofs.YtckbomkcnmcdaaaGreatDoor
