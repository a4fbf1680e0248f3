/- requests: the rules and the check are the reference's. -/
import Derived.Test.YtcobkjognpjikaaGreatDoorRR
set_option linter.unusedSimpArgs false
set_option linter.unusedVariables false
namespace Go.Proofs.YtcobkjognpjikaaGreatDoor


theorem kinds14 {k : Int} (h0 : 0 ≤ k) (h1 : k < 14) : k = 0 ∨ k = 1 ∨ k = 2 ∨ k = 3 ∨ k = 4 ∨ k = 5 ∨ k = 6 ∨ k = 7 ∨ k = 8 ∨ k = 9 ∨ k = 10 ∨ k = 11 ∨ k = 12 ∨ k = 13 := by omega
theorem mask_out {k : Int} (h : k < 0 ∨ 14 ≤ k) : maskOf k = 0 := if_pos h
theorem word_out {k : Int} (h : k < 0 ∨ 14 ≤ k) : wordQ k = [] := if_pos (by omega)
theorem rules_eq (k : Int) : rulesQ k = rulesR k := by
  by_cases h : k < 0 ∨ 14 ≤ k
  · simp [rulesQ, rulesR, mask_out h, word_out h]
  · rcases kinds14 (k := k) (by omega) (by omega) with rfl | rfl | rfl | rfl | rfl | rfl | rfl | rfl | rfl | rfl | rfl | rfl | rfl | rfl <;> kernel_rfl
def nzF (f : Fld) : Bool := (!decide (f.num = 0)) || !decide (f.txt = [])
def nbF (x : Rule) (f : Fld) (is : Bool) : Bool := decide (x.kind = 1) && (((!is) || decide (f.num < x.low)) || decide (x.high < f.num))
def lbF (x : Rule) (f : Fld) : Bool := decide (x.kind = 2) && !decide ((f.txt.length : Int) = x.low)
def Ub (m : Int) (r : Rq) : Nat → Nat → Bool
  | 0, _ => false
  | n + 1, k => (decide (bitQ m k = 0) && nzF (fieldQ r k).1) || Ub m r n (k + 1)
def Nb (m : Int) (r : Rq) : Nat → Nat → Bool
  | 0, _ => false
  | n + 1, k => ((!decide (bitQ m k = 0)) && nbF (ruleQ k) (fieldQ r k).1 (fieldQ r k).2) || Nb m r n (k + 1)
def Lb (m : Int) (r : Rq) : Nat → Nat → Bool
  | 0, _ => false
  | n + 1, k => ((!decide (bitQ m k = 0)) && lbF (ruleQ k) (fieldQ r k).1) || Lb m r n (k + 1)
theorem tags9 {k : Nat} (h1 : 1 ≤ k) (h2 : k ≤ 9) : k = 1 ∨ k = 2 ∨ k = 3 ∨ k = 4 ∨ k = 5 ∨ k = 6 ∨ k = 7 ∨ k = 8 ∨ k = 9 := by omega
theorem uw_zero {n : Int} (h : R64 n) : uw n = 0 ↔ n = 0 := by unfold R64 at h; unfold uw; omega
end Go.Proofs.YtcobkjognpjikaaGreatDoor
