/- How arguments are read: requests, tokens, tickets. -/
import Derived.Test.YtckbomkcnmcdaaaGreatDoorX3
set_option linter.unusedSimpArgs false
set_option linter.unusedVariables false
namespace Go.Proofs.YtckbomkcnmcdaaaGreatDoor

section
open Go.ChangeShapes Go.WideShapes Go.Deep Go.RowKit Go.ChangeAt
variable {H : Type} {enc : TypeId × Value → H} {w : World}
theorem rd_Rq : Rd enc Tryz.prog w 35 (fun ss => ∃ x : Rq, ss = x.c ∧ RqOk x) := by
  refine (Rd.struct (S := fun j s => match j with
    | 0 => ∃ n, s = .val (.int .i64 n) ∧ (-9223372036854775808 ≤ n ∧ n ≤ 9223372036854775807)
    | 1 => ∃ n, s = .val (.int .u64 n) ∧ (0 ≤ n ∧ n < 18446744073709551616)
    | 2 => ∃ n, s = .val (.int .u32 n) ∧ (0 ≤ n ∧ n < 4294967296)
    | 3 => ∃ n, s = .val (.int .u32 n) ∧ (0 ≤ n ∧ n < 4294967296)
    | 4 => ∃ l : List UInt8, s = .val (.string ⟨l.toArray⟩) ∧ l.length ≤ maxLen
    | 5 => ∃ l : List UInt8, s = .val (.string ⟨l.toArray⟩) ∧ l.length ≤ maxLen
    | 6 => ∃ n, s = .val (.int .i64 n) ∧ (-9223372036854775808 ≤ n ∧ n ≤ 9223372036854775807)
    | 7 => ∃ n, s = .val (.int .i64 n) ∧ (-9223372036854775808 ≤ n ∧ n ≤ 9223372036854775807)
    | 8 => ∃ n, s = .val (.int .i64 n) ∧ (-9223372036854775808 ≤ n ∧ n ≤ 9223372036854775807)
    | _ => ∃ n, s = .val (.int .i64 n) ∧ (-9223372036854775808 ≤ n ∧ n ≤ 9223372036854775807)) Tryz.underlying35 (by kernel_rfl) (by kernel_rfl) (fun j f hj => ?_)).mono ?_
  · match j, hj with
    | 0, hj => cases hj; exact (Rd.int Tryz.underlying3).mono (fun ss ⟨s, h, n, h1, h2, h3⟩ => ⟨s, h, n, h1, Int.le_trans (by decide) h2, Int.le_trans h3 (by decide)⟩)
    | 1, hj => cases hj; exact (Rd.int Tryz.underlying28).mono (fun ss ⟨s, h, n, h1, h2, h3⟩ => ⟨s, h, n, h1, Int.le_trans (by decide) h2, Int.lt_of_le_of_lt h3 (by decide)⟩)
    | 2, hj => cases hj; exact (Rd.int Tryz.underlying33).mono (fun ss ⟨s, h, n, h1, h2, h3⟩ => ⟨s, h, n, h1, Int.le_trans (by decide) h2, Int.lt_of_le_of_lt h3 (by decide)⟩)
    | 3, hj => cases hj; exact (Rd.int Tryz.underlying33).mono (fun ss ⟨s, h, n, h1, h2, h3⟩ => ⟨s, h, n, h1, Int.le_trans (by decide) h2, Int.lt_of_le_of_lt h3 (by decide)⟩)
    | 4, hj => cases hj; exact Rd.string Tryz.underlying9
    | 5, hj => cases hj; exact Rd.string Tryz.underlying9
    | 6, hj => cases hj; exact (Rd.int Tryz.underlying3).mono (fun ss ⟨s, h, n, h1, h2, h3⟩ => ⟨s, h, n, h1, Int.le_trans (by decide) h2, Int.le_trans h3 (by decide)⟩)
    | 7, hj => cases hj; exact (Rd.int Tryz.underlying3).mono (fun ss ⟨s, h, n, h1, h2, h3⟩ => ⟨s, h, n, h1, Int.le_trans (by decide) h2, Int.le_trans h3 (by decide)⟩)
    | 8, hj => cases hj; exact (Rd.int Tryz.underlying3).mono (fun ss ⟨s, h, n, h1, h2, h3⟩ => ⟨s, h, n, h1, Int.le_trans (by decide) h2, Int.le_trans h3 (by decide)⟩)
    | 9, hj => cases hj; exact (Rd.int Tryz.underlying3).mono (fun ss ⟨s, h, n, h1, h2, h3⟩ => ⟨s, h, n, h1, Int.le_trans (by decide) h2, Int.le_trans h3 (by decide)⟩)
    | j + 10, hj => simp at hj
  · rintro ss ⟨hl, h⟩
    match ss, hl with
    | [a0, a1, a2, a3, a4, a5, a6, a7, a8, a9], _ =>
      obtain ⟨n0, rfl, h0⟩ := h 0 a0 rfl
      obtain ⟨n1, rfl, h1⟩ := h 1 a1 rfl
      obtain ⟨n2, rfl, h2⟩ := h 2 a2 rfl
      obtain ⟨n3, rfl, h3⟩ := h 3 a3 rfl
      obtain ⟨n4, rfl, h4⟩ := h 4 a4 rfl
      obtain ⟨n5, rfl, h5⟩ := h 5 a5 rfl
      obtain ⟨n6, rfl, h6⟩ := h 6 a6 rfl
      obtain ⟨n7, rfl, h7⟩ := h 7 a7 rfl
      obtain ⟨n8, rfl, h8⟩ := h 8 a8 rfl
      obtain ⟨n9, rfl, h9⟩ := h 9 a9 rfl
      exact ⟨⟨n0, n1, n2, n3, n4, n5, n6, n7, n8, n9⟩, rfl, ⟨h0, h1, h2, h3, h4, h5, h6, h7, h8, h9⟩⟩
end
end Go.Proofs.YtckbomkcnmcdaaaGreatDoor
