/- FieldsLess returns true, whatever its arguments are, and they read afterwards as they read before. Conditions: none. -/
import Derived.Test.YtmiamhegohlglaaX7
import Derived.Test.YtmiamhegohlglaaY1
import Derived.Test.YtmiamhegohlglaaRows
set_option linter.unusedSimpArgs false
set_option linter.unusedVariables false
namespace Go.Proofs.Ytmiamhegohlglaa
open Go.ChangeShapes Go.WideShapes Go.Deep Go.RowKit Go.ChangeAt

set_option maxRecDepth 100000 in
theorem fieldsLess_lifted (os : Os) (started : os.Started) (H : Type) (enc : TypeId × Value → H) :
    ReturnsInHanded {} Try.checked os 7 .any (Rows.fieldsLessSpec.pre6 enc Try.prog Try.f7 Rows.fieldsLessRow.domain false) (Rows.fieldsLessSpec.post enc Try.prog Try.f7 false true false false) := by
  refine returnsInHanded_of_change (C := Try.checked) (by kernel_rfl) started (by kernel_rfl) Try.func7
    (ChangeSpec.witness6 (enc := enc) (C := Try.checked) false ⟨#[], #[.slice none 0 0, .slice none 0 0, .agg #[.int .u8 0, .int .u8 0, .int .u8 0, .bool false]], []⟩ 8 (by kernel_rfl) (by kernel_rfl) (by kernel_rfl) (by kernel_rfl)) ?_
  intro W base args ds gs before hval hW _ _
  have hW' := hW
  obtain ⟨p, q, hA0, _⟩ := hW
  have hA : DataW.TrodAll enc Try.prog W 0 (fun _ => true) true Try.f7.params.toList args.toList ds p := hA0
  rw [Try.params7] at hA
  obtain ⟨v1, vs1, d1, ds1, p1, q1, hargs, rfl, rfl, h1, r1⟩ := trodAll_cons hA
  obtain ⟨v2, vs2, d2, ds2, p2, q2, rfl, rfl, rfl, h2, r2⟩ := trodAll_cons r1
  obtain ⟨v3, vs3, d3, ds3, p3, q3, rfl, rfl, rfl, h3, r3⟩ := trodAll_cons r2
  obtain ⟨rfl, rfl, rfl⟩ := trodAll_nil r3
  obtain rfl : args = #[v1, v2, v3] := by cases args; simp_all
  obtain ⟨s1, ⟨l1, rfl, m1, w1⟩, a1⟩ := rd_rules.argSl Try.underlying22 (hval 0 22 v1 (by rw [Try.params7]; rfl) rfl) h1
  obtain ⟨s2, ⟨l2, rfl, m2⟩, a2⟩ := rd_bytes.argSl Try.underlying23 (hval 1 23 v2 (by rw [Try.params7]; rfl) rfl) h2
  obtain ⟨s3, ⟨x3, y3, z3, m3, rfl, w3, u3, t3⟩, a3⟩ := rd_less.argAgg Try.underlying43 (hval 2 43 v3 (by rw [Try.params7]; rfl) rfl) h3
  exact row_true (by kernel_rfl) (by kernel_rfl) rfl (by kernel_rfl) Try.underlying4 ⟨rfl, rfl, rfl⟩ hW' ((fless_P l1 l2 x3 y3 z3 m3 w1 w3 u3 t3).runT (vs := [v1, v2, v3]) (Vs_cons a1 (Vs_cons a2 (Vs_cons a3 Vs_nil))))

theorem fieldsLess_over : Rows.fieldsLessRow.holds Try.pinned (OpenSpec.ofChange Rows.fieldsLessSpec) :=
  OpenClaim.holds_of_wide 7 Try.f7 rfl rfl rfl rfl rfl rfl rfl ⟨rfl, rfl, rfl, rfl, rfl⟩ rfl rfl rfl rfl rfl (by kernel_rfl) Try.func7 (by kernel_rfl)
    (of_decide_eq_true (by kernel_rfl)) (by unfold Func.isWrapper; first | (rw [if_pos (by decide +kernel)]; kernel_rfl) | (rw [if_neg (by decide +kernel)]; exact ⟨rfl, rfl⟩))
    (fun os started H enc _ => fieldsLess_lifted os started H enc)

/-- the statement -/
theorem fieldsLess_proved : Rows.FieldsLessSaid := fieldsLess_over
#print axioms fieldsLess_proved
end Go.Proofs.Ytmiamhegohlglaa

