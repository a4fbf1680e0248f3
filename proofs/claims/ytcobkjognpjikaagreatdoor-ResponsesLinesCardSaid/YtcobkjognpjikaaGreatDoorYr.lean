/- How arguments are read: responses. -/
import Derived.Test.YtcobkjognpjikaaGreatDoorX6
set_option linter.unusedSimpArgs false
set_option linter.unusedVariables false
namespace Go.Proofs.YtcobkjognpjikaaGreatDoor

section
open Go.ChangeShapes Go.WideShapes Go.Deep Go.RowKit Go.ChangeAt
variable {H : Type} {enc : TypeId × Value → H} {w : World}
theorem rd_Rs : Rd enc Tryz.prog w 25 (fun ss => ∃ x : Rs, ss = x.c ∧ RsOk x) := by
  refine (Rd.struct (S := fun j s => match j with
    | 0 => ∃ n, s = .val (.int .i64 n) ∧ (-9223372036854775808 ≤ n ∧ n ≤ 9223372036854775807)
    | 1 => ∃ n, s = .val (.int .u64 n) ∧ (0 ≤ n ∧ n < 18446744073709551616)
    | 2 => ∃ n, s = .val (.int .i64 n) ∧ (-9223372036854775808 ≤ n ∧ n ≤ 9223372036854775807)
    | 3 => ∃ l : List UInt8, s = .val (.string ⟨l.toArray⟩) ∧ l.length ≤ maxLen
    | 4 => ∃ l : List UInt8, s = .val (.string ⟨l.toArray⟩) ∧ l.length ≤ maxLen
    | 5 => ∃ n, s = .val (.int .i64 n) ∧ (-9223372036854775808 ≤ n ∧ n ≤ 9223372036854775807)
    | 6 => ∃ n, s = .val (.int .i64 n) ∧ (-9223372036854775808 ≤ n ∧ n ≤ 9223372036854775807)
    | 7 => ∃ n, s = .val (.int .i64 n) ∧ (-9223372036854775808 ≤ n ∧ n ≤ 9223372036854775807)
    | _ => ∃ n, s = .val (.int .i64 n) ∧ (-9223372036854775808 ≤ n ∧ n ≤ 9223372036854775807)) Tryz.underlying25 (by kernel_rfl) (by kernel_rfl) (fun j f hj => ?_)).mono ?_
  · match j, hj with
    | 0, hj => cases hj; exact (Rd.int Tryz.underlying3).mono (fun ss ⟨s, h, n, h1, h2, h3⟩ => ⟨s, h, n, h1, Int.le_trans (by decide) h2, Int.le_trans h3 (by decide)⟩)
    | 1, hj => cases hj; exact (Rd.int Tryz.underlying22).mono (fun ss ⟨s, h, n, h1, h2, h3⟩ => ⟨s, h, n, h1, Int.le_trans (by decide) h2, Int.lt_of_le_of_lt h3 (by decide)⟩)
    | 2, hj => cases hj; exact (Rd.int Tryz.underlying23).mono (fun ss ⟨s, h, n, h1, h2, h3⟩ => ⟨s, h, n, h1, Int.le_trans (by decide) h2, Int.le_trans h3 (by decide)⟩)
    | 3, hj => cases hj; exact Rd.string Tryz.underlying9
    | 4, hj => cases hj; exact Rd.string Tryz.underlying9
    | 5, hj => cases hj; exact (Rd.int Tryz.underlying3).mono (fun ss ⟨s, h, n, h1, h2, h3⟩ => ⟨s, h, n, h1, Int.le_trans (by decide) h2, Int.le_trans h3 (by decide)⟩)
    | 6, hj => cases hj; exact (Rd.int Tryz.underlying3).mono (fun ss ⟨s, h, n, h1, h2, h3⟩ => ⟨s, h, n, h1, Int.le_trans (by decide) h2, Int.le_trans h3 (by decide)⟩)
    | 7, hj => cases hj; exact (Rd.int Tryz.underlying3).mono (fun ss ⟨s, h, n, h1, h2, h3⟩ => ⟨s, h, n, h1, Int.le_trans (by decide) h2, Int.le_trans h3 (by decide)⟩)
    | 8, hj => cases hj; exact (Rd.int Tryz.underlying2).mono (fun ss ⟨s, h, n, h1, h2, h3⟩ => ⟨s, h, n, h1, Int.le_trans (by decide) h2, Int.le_trans h3 (by decide)⟩)
    | j + 9, hj => simp at hj
  · rintro ss ⟨hl, h⟩
    match ss, hl with
    | [a0, a1, a2, a3, a4, a5, a6, a7, a8], _ =>
      obtain ⟨n0, rfl, h0⟩ := h 0 a0 rfl
      obtain ⟨n1, rfl, h1⟩ := h 1 a1 rfl
      obtain ⟨n2, rfl, h2⟩ := h 2 a2 rfl
      obtain ⟨n3, rfl, h3⟩ := h 3 a3 rfl
      obtain ⟨n4, rfl, h4⟩ := h 4 a4 rfl
      obtain ⟨n5, rfl, h5⟩ := h 5 a5 rfl
      obtain ⟨n6, rfl, h6⟩ := h 6 a6 rfl
      obtain ⟨n7, rfl, h7⟩ := h 7 a7 rfl
      obtain ⟨n8, rfl, h8⟩ := h 8 a8 rfl
      exact ⟨⟨n0, n1, n2, n3, n4, n5, n6, n7, n8⟩, rfl, ⟨h0, h1, h2, h3, h4, h5, h6, h7, h8⟩⟩
end
end Go.Proofs.YtcobkjognpjikaaGreatDoor
