/- What holds of the whole program, a fact each. -/
import Derived.Test.YteccglgbkehdeaaGreatDoorRows
import Derived.JoinedOf
import Derived.SevenTiedAt
import Derived.ProofKit
import Derived.Stop.Joined
import Derived.OpenShut
set_option linter.unusedSimpArgs false
set_option linter.unusedVariables false
namespace Go.Proofs.YteccglgbkehdeaaGreatDoor
open Go.ChangeShapes Go.WideShapes Go.RowKit Go.ChangeAt
theorem jf_and {a b : Bool} (h : a = true) (k : b = true) : (a && b) = true := by rw [h, k]; rfl
theorem jf_laidOut : laidOutB Tryz.pinned.checked.prog = true := by kernel_rfl
theorem jf_mapsRowed : mapsRowed Tryz.pinned.checked.prog = true := by kernel_rfl
theorem jf_plainKeys : (Rows.scriptChecksRow.plainKeys == Tryz.pinned.checked.prog.plainKeys) = true := by kernel_rfl
theorem jf_stopsHeard : Tryz.pinned.checked.prog.stopsHeard = true := by kernel_rfl
theorem jf_mayEnter : Tryz.pinned.checked.prog.mayEnter = true := by kernel_rfl
theorem jf_lifts : (Rows.scriptChecksRow.lifted == Tryz.pinned.checked.prog.liftsFinal) = true := by kernel_rfl
theorem jf_make : (Tryz.pinned.checked.prog.make == some Rows.scriptChecksRow.make) = true := by kernel_rfl
theorem jf_looks : true = Tryz.pinned.checked.prog.looks [] := by kernel_rfl
theorem jf_mainIs : Tryz.pinned.checked.prog.mainIs = some (true, ("0632f77764ee94ad568f7d291d473313d5979d30a168639bc501ae405b60197b" : String).toList) := by kernel_rfl
end Go.Proofs.YteccglgbkehdeaaGreatDoor
