/- words: Digits, and the reference's. -/
import Derived.Test.YtmjpkfjgknbfeaaGreatDoorQI
set_option linter.unusedSimpArgs false
set_option linter.unusedVariables false
namespace Go.Proofs.YtmjpkfjgknbfeaaGreatDoor

section
open Go.RowKit
end
theorem decD_le : ∀ (k u : Nat), u < 10 ^ k → (Lib.decDigits u).length ≤ k + 1
  | 0, u, h => by rw [Lib.decDigits, dif_pos (by omega)]; simp
  | k + 1, u, h => by
    rw [Lib.decDigits]
    split
    · simp
    · have := decD_le k (u / 10) (by rw [Nat.pow_succ] at h; omega)
      simp; omega
def mz (n : Int) : Nat := 2 * n.natAbs + (if n < 0 then 1 else 0)
end Go.Proofs.YtmjpkfjgknbfeaaGreatDoor
