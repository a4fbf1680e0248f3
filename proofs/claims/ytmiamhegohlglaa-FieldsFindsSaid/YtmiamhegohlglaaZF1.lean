/- FieldsFinds returns true, whatever its arguments are, and they read afterwards as they read before. Conditions: none. -/
import Derived.Test.YtmiamhegohlglaaX1
import Derived.Test.YtmiamhegohlglaaY1
import Derived.Test.YtmiamhegohlglaaRows
set_option linter.unusedSimpArgs false
set_option linter.unusedVariables false
namespace Go.Proofs.Ytmiamhegohlglaa
open Go.ChangeShapes Go.WideShapes Go.Deep Go.RowKit Go.ChangeAt

set_option maxRecDepth 100000 in
theorem finds_lifted (os : Os) (started : os.Started) (H : Type) (enc : TypeId × Value → H) :
    ReturnsInHanded {} Try.checked os 4 .any (Rows.fieldsFindsSpec.pre6 enc Try.prog Try.f4 Rows.fieldsFindsRow.domain false) (Rows.fieldsFindsSpec.post enc Try.prog Try.f4 false true false false) := by
  refine returnsInHanded_of_change (C := Try.checked) (by kernel_rfl) started (by kernel_rfl) Try.func4
    (ChangeSpec.witness6 (enc := enc) (C := Try.checked) false ⟨#[], #[.slice none 0 0, .int .i64 0], []⟩ 8 (by kernel_rfl) (by kernel_rfl) (by kernel_rfl) (by kernel_rfl)) ?_
  intro W base args ds gs before hval hW _ _
  have hW' := hW
  obtain ⟨p, q, hA0, _⟩ := hW
  have hA : DataW.TrodAll enc Try.prog W 0 (fun _ => true) true Try.f4.params.toList args.toList ds p := hA0
  rw [Try.params4] at hA
  obtain ⟨v0, vs0, d0, ds0, p0, q0, hargs, rfl, rfl, h0, r0⟩ := trodAll_cons hA
  obtain ⟨v1, vs1, d1, ds1, p1, q1, rfl, rfl, rfl, h1, r1⟩ := trodAll_cons r0
  obtain ⟨rfl, rfl, rfl⟩ := trodAll_nil r1
  obtain rfl : args = #[v0, v1] := by cases args; simp_all
  obtain ⟨s0, ⟨l, rfl, hl, hw⟩, a0⟩ := rd_flds.argSl Try.underlying26 (hval 0 26 v0 (by rw [Try.params4]; rfl) rfl) h0
  obtain ⟨n, _, _, a1⟩ := Rd.argInt Try.underlying3 (hval 1 3 v1 (by rw [Try.params4]; rfl) rfl) h1
  exact row_true (by kernel_rfl) (by kernel_rfl) rfl (by kernel_rfl) Try.underlying4 ⟨rfl, rfl, rfl⟩ hW' ((finds_P l n).runT (vs := [v0, v1]) (Vs_cons a0 (Vs_cons a1 Vs_nil)))

theorem finds_over : Rows.fieldsFindsRow.holds Try.pinned (OpenSpec.ofChange Rows.fieldsFindsSpec) :=
  OpenClaim.holds_of_wide 4 Try.f4 rfl rfl rfl rfl rfl rfl rfl ⟨rfl, rfl, rfl, rfl, rfl⟩ rfl rfl rfl rfl rfl (by kernel_rfl) Try.func4 (by kernel_rfl)
    (of_decide_eq_true (by kernel_rfl)) (by unfold Func.isWrapper; first | (rw [if_pos (by decide +kernel)]; kernel_rfl) | (rw [if_neg (by decide +kernel)]; exact ⟨rfl, rfl⟩))
    (fun os started H enc _ => finds_lifted os started H enc)

/-- the statement -/
theorem finds_proved : Rows.FieldsFindsSaid := finds_over
#print axioms finds_proved
end Go.Proofs.Ytmiamhegohlglaa
