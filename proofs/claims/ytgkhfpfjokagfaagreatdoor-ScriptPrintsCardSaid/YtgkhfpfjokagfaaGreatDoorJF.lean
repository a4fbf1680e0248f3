/- What holds of the whole program, a fact each. -/
import Derived.Test.YtgkhfpfjokagfaaGreatDoorRows
import Derived.JoinedOf
import Derived.SevenTiedAt
import Derived.ProofKit
import Derived.Stop.Joined
import Derived.OpenShut
set_option linter.unusedSimpArgs false
set_option linter.unusedVariables false
namespace Go.Proofs.YtgkhfpfjokagfaaGreatDoor
open Go.ChangeShapes Go.WideShapes Go.RowKit Go.ChangeAt
theorem jf_and {a b : Bool} (h : a = true) (k : b = true) : (a && b) = true := by rw [h, k]; rfl
theorem jf_laidOut : laidOutB Tryz.pinned.checked.prog = true := by kernel_rfl
theorem jf_mapsRowed : mapsRowed Tryz.pinned.checked.prog = true := by kernel_rfl
theorem jf_plainKeys : (Rows.scriptPrintsRow.plainKeys == Tryz.pinned.checked.prog.plainKeys) = true := by kernel_rfl
theorem jf_stopsHeard : Tryz.pinned.checked.prog.stopsHeard = true := by kernel_rfl
theorem jf_mayEnter : Tryz.pinned.checked.prog.mayEnter = true := by kernel_rfl
theorem jf_lifts : (Rows.scriptPrintsRow.lifted == Tryz.pinned.checked.prog.liftsFinal) = true := by kernel_rfl
theorem jf_make : (Tryz.pinned.checked.prog.make == some Rows.scriptPrintsRow.make) = true := by kernel_rfl
theorem jf_looks : true = Tryz.pinned.checked.prog.looks [] := by kernel_rfl
theorem jf_mainIs : Tryz.pinned.checked.prog.mainIs = some (true, ("7f634bed08a68c6085ac54b0f634d7ef95632231e00c37ef29647e13f517b0bc" : String).toList) := by kernel_rfl
end Go.Proofs.YtgkhfpfjokagfaaGreatDoor
