/- words: what Split reads is what Join writes; digits are what Int reads. -/
import Derived.Test.YtmjpkfjgknbfeaaDoorQL
set_option linter.unusedSimpArgs false
set_option linter.unusedVariables false
namespace Go.Proofs.YtmjpkfjgknbfeaaDoor


/-- the form of a field -/
def formF (f : Fd) : List UInt8 := if f.q = true then quote f.s else f.s
def lineF (fs : List Fd) : List UInt8 := Lib.join (fs.map formF) [32]
def FdOk (f : Fd) : Prop := f.q = false → bareC f.s = true
theorem lineF_one (f : Fd) : lineF [f] = formF f := by unfold lineF; rw [List.map_cons, List.map_nil, Lib.join_one]
theorem lineF_cons (f g : Fd) (fs : List Fd) : lineF (f :: g :: fs) = formF f ++ 32 :: lineF (g :: fs) := by
  unfold lineF
  rw [List.map_cons, Lib.join_cons, List.map_cons, Lib.join_cons]
  simp [Lib.joinTail]
/-! digits -/
theorem digs_ne (n : Nat) : Lib.decDigits n ≠ [] := by rw [Lib.decDigits]; split <;> simp
end Go.Proofs.YtmjpkfjgknbfeaaDoor
