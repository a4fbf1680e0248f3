/- FramesBroken returns true, whatever its arguments are, and they read afterwards as they read before. Conditions: none. -/
import Derived.Test.YtbbkgfkghpflnaaX2
import Derived.Test.YtbbkgfkghpflnaaY
import Derived.Test.YtbbkgfkghpflnaaRows
set_option linter.unusedSimpArgs false
set_option linter.unusedVariables false
namespace Go.Proofs.Ytbbkgfkghpflnaa
open Go.ChangeShapes Go.WideShapes Go.Deep Go.RowKit Go.ChangeAt

set_option maxRecDepth 100000 in
theorem framesBroken_lifted (os : Os) (started : os.Started) (H : Type) (enc : TypeId × Value → H) :
    ReturnsInHanded {} Try.checked os 4 .any (Rows.framesBrokenSpec.pre6 enc Try.prog Try.f4 Rows.framesBrokenRow.domain false) (Rows.framesBrokenSpec.post enc Try.prog Try.f4 false true false false) := by
  refine returnsInHanded_of_change (C := Try.checked) (by kernel_rfl) started (by kernel_rfl) Try.func4
    (ChangeSpec.witness6 (enc := enc) (C := Try.checked) false ⟨#[], #[.slice none 0 0, .slice none 0 0, .int .u16 0], []⟩ 8 (by kernel_rfl) (by kernel_rfl) (by kernel_rfl) (by kernel_rfl)) ?_
  intro W base args ds gs before hval hW _ _
  have hW' := hW
  obtain ⟨p, q, hA0, _⟩ := hW
  have hA : DataW.TrodAll enc Try.prog W 0 (fun _ => true) true Try.f4.params.toList args.toList ds p := hA0
  rw [Try.params4] at hA
  obtain ⟨v1, vs1, d1, ds1, p1, q1, hargs, rfl, rfl, h1, r1⟩ := trodAll_cons hA
  obtain ⟨v2, vs2, d2, ds2, p2, q2, rfl, rfl, rfl, h2, r2⟩ := trodAll_cons r1
  obtain ⟨v3, vs3, d3, ds3, p3, q3, rfl, rfl, rfl, h3, r3⟩ := trodAll_cons r2
  obtain ⟨rfl, rfl, rfl⟩ := trodAll_nil r3
  obtain rfl : args = #[v1, v2, v3] := by cases args; simp_all
  obtain ⟨s1, ⟨l1, rfl, m1⟩, a1⟩ := rd_bytes.argSl Try.underlying22 (hval 0 22 v1 (by rw [Try.params4]; rfl) rfl) h1
  obtain ⟨s2, ⟨l2, rfl, m2⟩, a2⟩ := rd_bytes.argSl Try.underlying22 (hval 1 22 v2 (by rw [Try.params4]; rfl) rfl) h2
  obtain ⟨n3, b3, c3, a3⟩ := Rd.argInt Try.underlying34 (hval 2 34 v3 (by rw [Try.params4]; rfl) rfl) h3
  exact row_true (by kernel_rfl) (by kernel_rfl) rfl (by kernel_rfl) Try.underlying4 ⟨rfl, rfl, rfl⟩ hW' ((broken_P l1 l2 n3 b3 (Int.lt_of_le_of_lt  c3  (by  decide))).runT (vs := [v1, v2, v3]) (Vs_cons a1 (Vs_cons a2 (Vs_cons a3 Vs_nil))))

theorem framesBroken_over : Rows.framesBrokenRow.holds Try.pinned (OpenSpec.ofChange Rows.framesBrokenSpec) :=
  OpenClaim.holds_of_wide 4 Try.f4 rfl rfl rfl rfl rfl rfl rfl ⟨rfl, rfl, rfl, rfl, rfl⟩ rfl rfl rfl rfl rfl (by kernel_rfl) Try.func4 (by kernel_rfl)
    (of_decide_eq_true (by kernel_rfl)) (by unfold Func.isWrapper; first | (rw [if_pos (by decide +kernel)]; kernel_rfl) | (rw [if_neg (by decide +kernel)]; exact ⟨rfl, rfl⟩))
    (fun os started H enc _ => framesBroken_lifted os started H enc)

/-- the statement -/
theorem framesBroken_proved : Rows.FramesBrokenSaid := framesBroken_over
#print axioms framesBroken_proved
end Go.Proofs.Ytbbkgfkghpflnaa
