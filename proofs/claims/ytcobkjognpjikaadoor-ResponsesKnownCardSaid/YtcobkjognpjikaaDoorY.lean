/- How arguments are read: requests, responses, what a response is made of. -/
import Derived.Test.YtcobkjognpjikaaDoorX1
set_option linter.unusedSimpArgs false
set_option linter.unusedVariables false
namespace Go.Proofs.YtcobkjognpjikaaDoor

section
open Go.ChangeShapes Go.WideShapes Go.Deep Go.RowKit Go.ChangeAt
variable {H : Type} {enc : TypeId × Value → H} {w : World}
theorem map_of_all {α β : Type} {c : α → β} {Q : α → Prop} : ∀ {xs : List β}, (∀ x ∈ xs, ∃ a, x = c a ∧ Q a) → ∃ l : List α, xs = l.map c ∧ ∀ a ∈ l, Q a
  | [], _ => ⟨[], rfl, by simp⟩
  | x :: xs, h => by
    obtain ⟨a, rfl, ha⟩ := h x (by simp)
    obtain ⟨l, rfl, hl⟩ := map_of_all (xs := xs) (fun y hy => h y (by simp [hy]))
    exact ⟨a :: l, rfl, by simpa using ⟨ha, hl⟩⟩
theorem rd_bytes : Rd enc Tryd.prog w 28 (fun ss => ∃ s, ss = [s] ∧ ∃ l : List UInt8, s = .sl 1 (bytesC l) ∧ l.length ≤ maxLen) :=
  (Rd.slice Tryd.underlying28 (sz := 1) (by kernel_rfl) (by decide) (Rd.int Tryd.underlying5)).mono fun ss ⟨s, h1, xs, h2, h3, h4⟩ => by
    obtain ⟨l, rfl, hl⟩ := map_of_all (c := fun b : UInt8 => [SV.val (.int .u8 (b.toNat : Int))]) (Q := fun _ => True) (fun x hx => by
      obtain ⟨⟨s, rfl, n, rfl, h5, h6⟩, _⟩ := h4 x hx
      exact ⟨byt n, by rw [byt_toNat n h5 (Int.lt_of_le_of_lt h6 (by decide))], trivial⟩)
    exact ⟨s, h1, l, h2, by simpa using h3⟩

theorem rd_Rs : Rd enc Tryd.prog w 25 (fun ss => ∃ x : Rs, ss = x.c ∧ RsOk x) := by
  refine (Rd.struct (S := fun j s => match j with
    | 0 => ∃ n, s = .val (.int .i64 n) ∧ (-9223372036854775808 ≤ n ∧ n ≤ 9223372036854775807)
    | 1 => ∃ n, s = .val (.int .u64 n) ∧ (0 ≤ n ∧ n < 18446744073709551616)
    | 2 => ∃ n, s = .val (.int .i64 n) ∧ (-9223372036854775808 ≤ n ∧ n ≤ 9223372036854775807)
    | 3 => ∃ l : List UInt8, s = .val (.string ⟨l.toArray⟩) ∧ l.length ≤ maxLen
    | 4 => ∃ l : List UInt8, s = .val (.string ⟨l.toArray⟩) ∧ l.length ≤ maxLen
    | 5 => ∃ n, s = .val (.int .i64 n) ∧ (-9223372036854775808 ≤ n ∧ n ≤ 9223372036854775807)
    | 6 => ∃ n, s = .val (.int .i64 n) ∧ (-9223372036854775808 ≤ n ∧ n ≤ 9223372036854775807)
    | 7 => ∃ n, s = .val (.int .i64 n) ∧ (-9223372036854775808 ≤ n ∧ n ≤ 9223372036854775807)
    | _ => ∃ n, s = .val (.int .i64 n) ∧ (-9223372036854775808 ≤ n ∧ n ≤ 9223372036854775807)) Tryd.underlying25 (by kernel_rfl) (by kernel_rfl) (fun j f hj => ?_)).mono ?_
  · match j, hj with
    | 0, hj => cases hj; exact (Rd.int Tryd.underlying3).mono (fun ss ⟨s, h, n, h1, h2, h3⟩ => ⟨s, h, n, h1, Int.le_trans (by decide) h2, Int.le_trans h3 (by decide)⟩)
    | 1, hj => cases hj; exact (Rd.int Tryd.underlying22).mono (fun ss ⟨s, h, n, h1, h2, h3⟩ => ⟨s, h, n, h1, Int.le_trans (by decide) h2, Int.lt_of_le_of_lt h3 (by decide)⟩)
    | 2, hj => cases hj; exact (Rd.int Tryd.underlying23).mono (fun ss ⟨s, h, n, h1, h2, h3⟩ => ⟨s, h, n, h1, Int.le_trans (by decide) h2, Int.le_trans h3 (by decide)⟩)
    | 3, hj => cases hj; exact Rd.string Tryd.underlying9
    | 4, hj => cases hj; exact Rd.string Tryd.underlying9
    | 5, hj => cases hj; exact (Rd.int Tryd.underlying3).mono (fun ss ⟨s, h, n, h1, h2, h3⟩ => ⟨s, h, n, h1, Int.le_trans (by decide) h2, Int.le_trans h3 (by decide)⟩)
    | 6, hj => cases hj; exact (Rd.int Tryd.underlying3).mono (fun ss ⟨s, h, n, h1, h2, h3⟩ => ⟨s, h, n, h1, Int.le_trans (by decide) h2, Int.le_trans h3 (by decide)⟩)
    | 7, hj => cases hj; exact (Rd.int Tryd.underlying3).mono (fun ss ⟨s, h, n, h1, h2, h3⟩ => ⟨s, h, n, h1, Int.le_trans (by decide) h2, Int.le_trans h3 (by decide)⟩)
    | 8, hj => cases hj; exact (Rd.int Tryd.underlying2).mono (fun ss ⟨s, h, n, h1, h2, h3⟩ => ⟨s, h, n, h1, Int.le_trans (by decide) h2, Int.le_trans h3 (by decide)⟩)
    | j + 9, hj => simp at hj
  · rintro ss ⟨hl, h⟩
    match ss, hl with
    | [a0, a1, a2, a3, a4, a5, a6, a7, a8], _ =>
      obtain ⟨n0, rfl, h0⟩ := h 0 a0 rfl
      obtain ⟨n1, rfl, h1⟩ := h 1 a1 rfl
      obtain ⟨n2, rfl, h2⟩ := h 2 a2 rfl
      obtain ⟨n3, rfl, h3⟩ := h 3 a3 rfl
      obtain ⟨n4, rfl, h4⟩ := h 4 a4 rfl
      obtain ⟨n5, rfl, h5⟩ := h 5 a5 rfl
      obtain ⟨n6, rfl, h6⟩ := h 6 a6 rfl
      obtain ⟨n7, rfl, h7⟩ := h 7 a7 rfl
      obtain ⟨n8, rfl, h8⟩ := h 8 a8 rfl
      exact ⟨⟨n0, n1, n2, n3, n4, n5, n6, n7, n8⟩, rfl, ⟨h0, h1, h2, h3, h4, h5, h6, h7, h8⟩⟩
theorem rd_Rq : Rd enc Tryd.prog w 37 (fun ss => ∃ x : Rq, ss = x.c ∧ RqOk x) := by
  refine (Rd.struct (S := fun j s => match j with
    | 0 => ∃ n, s = .val (.int .i64 n) ∧ (-9223372036854775808 ≤ n ∧ n ≤ 9223372036854775807)
    | 1 => ∃ n, s = .val (.int .u64 n) ∧ (0 ≤ n ∧ n < 18446744073709551616)
    | 2 => ∃ n, s = .val (.int .u32 n) ∧ (0 ≤ n ∧ n < 4294967296)
    | 3 => ∃ n, s = .val (.int .u32 n) ∧ (0 ≤ n ∧ n < 4294967296)
    | 4 => ∃ l : List UInt8, s = .val (.string ⟨l.toArray⟩) ∧ l.length ≤ maxLen
    | 5 => ∃ l : List UInt8, s = .val (.string ⟨l.toArray⟩) ∧ l.length ≤ maxLen
    | 6 => ∃ n, s = .val (.int .i64 n) ∧ (-9223372036854775808 ≤ n ∧ n ≤ 9223372036854775807)
    | 7 => ∃ n, s = .val (.int .i64 n) ∧ (-9223372036854775808 ≤ n ∧ n ≤ 9223372036854775807)
    | 8 => ∃ n, s = .val (.int .i64 n) ∧ (-9223372036854775808 ≤ n ∧ n ≤ 9223372036854775807)
    | _ => ∃ n, s = .val (.int .i64 n) ∧ (-9223372036854775808 ≤ n ∧ n ≤ 9223372036854775807)) Tryd.underlying37 (by kernel_rfl) (by kernel_rfl) (fun j f hj => ?_)).mono ?_
  · match j, hj with
    | 0, hj => cases hj; exact (Rd.int Tryd.underlying3).mono (fun ss ⟨s, h, n, h1, h2, h3⟩ => ⟨s, h, n, h1, Int.le_trans (by decide) h2, Int.le_trans h3 (by decide)⟩)
    | 1, hj => cases hj; exact (Rd.int Tryd.underlying22).mono (fun ss ⟨s, h, n, h1, h2, h3⟩ => ⟨s, h, n, h1, Int.le_trans (by decide) h2, Int.lt_of_le_of_lt h3 (by decide)⟩)
    | 2, hj => cases hj; exact (Rd.int Tryd.underlying35).mono (fun ss ⟨s, h, n, h1, h2, h3⟩ => ⟨s, h, n, h1, Int.le_trans (by decide) h2, Int.lt_of_le_of_lt h3 (by decide)⟩)
    | 3, hj => cases hj; exact (Rd.int Tryd.underlying35).mono (fun ss ⟨s, h, n, h1, h2, h3⟩ => ⟨s, h, n, h1, Int.le_trans (by decide) h2, Int.lt_of_le_of_lt h3 (by decide)⟩)
    | 4, hj => cases hj; exact Rd.string Tryd.underlying9
    | 5, hj => cases hj; exact Rd.string Tryd.underlying9
    | 6, hj => cases hj; exact (Rd.int Tryd.underlying3).mono (fun ss ⟨s, h, n, h1, h2, h3⟩ => ⟨s, h, n, h1, Int.le_trans (by decide) h2, Int.le_trans h3 (by decide)⟩)
    | 7, hj => cases hj; exact (Rd.int Tryd.underlying3).mono (fun ss ⟨s, h, n, h1, h2, h3⟩ => ⟨s, h, n, h1, Int.le_trans (by decide) h2, Int.le_trans h3 (by decide)⟩)
    | 8, hj => cases hj; exact (Rd.int Tryd.underlying3).mono (fun ss ⟨s, h, n, h1, h2, h3⟩ => ⟨s, h, n, h1, Int.le_trans (by decide) h2, Int.le_trans h3 (by decide)⟩)
    | 9, hj => cases hj; exact (Rd.int Tryd.underlying3).mono (fun ss ⟨s, h, n, h1, h2, h3⟩ => ⟨s, h, n, h1, Int.le_trans (by decide) h2, Int.le_trans h3 (by decide)⟩)
    | j + 10, hj => simp at hj
  · rintro ss ⟨hl, h⟩
    match ss, hl with
    | [a0, a1, a2, a3, a4, a5, a6, a7, a8, a9], _ =>
      obtain ⟨n0, rfl, h0⟩ := h 0 a0 rfl
      obtain ⟨n1, rfl, h1⟩ := h 1 a1 rfl
      obtain ⟨n2, rfl, h2⟩ := h 2 a2 rfl
      obtain ⟨n3, rfl, h3⟩ := h 3 a3 rfl
      obtain ⟨n4, rfl, h4⟩ := h 4 a4 rfl
      obtain ⟨n5, rfl, h5⟩ := h 5 a5 rfl
      obtain ⟨n6, rfl, h6⟩ := h 6 a6 rfl
      obtain ⟨n7, rfl, h7⟩ := h 7 a7 rfl
      obtain ⟨n8, rfl, h8⟩ := h 8 a8 rfl
      obtain ⟨n9, rfl, h9⟩ := h 9 a9 rfl
      exact ⟨⟨n0, n1, n2, n3, n4, n5, n6, n7, n8, n9⟩, rfl, ⟨h0, h1, h2, h3, h4, h5, h6, h7, h8, h9⟩⟩
theorem rd_Tk : Rd enc Tryd.prog w 39 (fun ss => ∃ a b c d : Int, ss = [SV.val (.int .u32 a), SV.val (.int .u32 b), SV.val (.int .u64 c), SV.val (.int .u64 d)]) := by
  refine (Rd.struct (S := fun j s => match j with
    | 0 => ∃ n, s = .val (.int .u32 n) ∧ (0 ≤ n ∧ n < 4294967296)
    | 1 => ∃ n, s = .val (.int .u32 n) ∧ (0 ≤ n ∧ n < 4294967296)
    | 2 => ∃ n, s = .val (.int .u64 n) ∧ (0 ≤ n ∧ n < 18446744073709551616)
    | _ => ∃ n, s = .val (.int .u64 n) ∧ (0 ≤ n ∧ n < 18446744073709551616)) Tryd.underlying39 (by kernel_rfl) (by kernel_rfl) (fun j f hj => ?_)).mono ?_
  · match j, hj with
    | 0, hj => cases hj; exact (Rd.int Tryd.underlying35).mono (fun ss ⟨s, h, n, h1, h2, h3⟩ => ⟨s, h, n, h1, Int.le_trans (by decide) h2, Int.lt_of_le_of_lt h3 (by decide)⟩)
    | 1, hj => cases hj; exact (Rd.int Tryd.underlying35).mono (fun ss ⟨s, h, n, h1, h2, h3⟩ => ⟨s, h, n, h1, Int.le_trans (by decide) h2, Int.lt_of_le_of_lt h3 (by decide)⟩)
    | 2, hj => cases hj; exact (Rd.int Tryd.underlying22).mono (fun ss ⟨s, h, n, h1, h2, h3⟩ => ⟨s, h, n, h1, Int.le_trans (by decide) h2, Int.lt_of_le_of_lt h3 (by decide)⟩)
    | 3, hj => cases hj; exact (Rd.int Tryd.underlying22).mono (fun ss ⟨s, h, n, h1, h2, h3⟩ => ⟨s, h, n, h1, Int.le_trans (by decide) h2, Int.lt_of_le_of_lt h3 (by decide)⟩)
    | j + 4, hj => simp at hj
  · rintro ss ⟨hl, h⟩
    match ss, hl with
    | [a0, a1, a2, a3], _ =>
      obtain ⟨n0, rfl, h0⟩ := h 0 a0 rfl
      obtain ⟨n1, rfl, h1⟩ := h 1 a1 rfl
      obtain ⟨n2, rfl, h2⟩ := h 2 a2 rfl
      obtain ⟨n3, rfl, h3⟩ := h 3 a3 rfl
      exact ⟨n0, n1, n2, n3, rfl⟩
theorem rd_Mr : Rd enc Tryd.prog w 41 (fun ss => ∃ x : Mr, ss = x.c ∧ MrOk x) := by
  refine (Rd.struct2 (S := fun j ss => match j with
    | 4 => ∃ a b c d : Int, ss = [SV.val (.int .u32 a), SV.val (.int .u32 b), SV.val (.int .u64 c), SV.val (.int .u64 d)]
    | _ => ∃ n, ss = [SV.val (.int .i64 n)] ∧ (-9223372036854775808 ≤ n ∧ n ≤ 9223372036854775807)) Tryd.underlying41 (by kernel_rfl) (fun j f hj => ?_)).mono ?_
  · match j, hj with
    | 0, hj => cases hj; exact (Rd.int Tryd.underlying23).mono (fun ss ⟨s, h, n, h1, h2, h3⟩ => ⟨n, by rw [h, h1], Int.le_trans (by decide) h2, Int.le_trans h3 (by decide)⟩)
    | 1, hj => cases hj; exact (Rd.int Tryd.underlying3).mono (fun ss ⟨s, h, n, h1, h2, h3⟩ => ⟨n, by rw [h, h1], Int.le_trans (by decide) h2, Int.le_trans h3 (by decide)⟩)
    | 2, hj => cases hj; exact (Rd.int Tryd.underlying3).mono (fun ss ⟨s, h, n, h1, h2, h3⟩ => ⟨n, by rw [h, h1], Int.le_trans (by decide) h2, Int.le_trans h3 (by decide)⟩)
    | 3, hj => cases hj; exact (Rd.int Tryd.underlying2).mono (fun ss ⟨s, h, n, h1, h2, h3⟩ => ⟨n, by rw [h, h1], Int.le_trans (by decide) h2, Int.le_trans h3 (by decide)⟩)
    | 4, hj => cases hj; exact rd_Tk
    | 5, hj => cases hj; exact (Rd.int Tryd.underlying3).mono (fun ss ⟨s, h, n, h1, h2, h3⟩ => ⟨n, by rw [h, h1], Int.le_trans (by decide) h2, Int.le_trans h3 (by decide)⟩)
    | j + 6, hj => simp at hj
  · rintro ss ⟨parts, hl, rfl, h⟩
    match parts, hl with
    | [a, b, c, d, e, f], _ =>
      obtain ⟨n0, rfl, h0⟩ := h 0 a rfl
      obtain ⟨n1, rfl, h1⟩ := h 1 b rfl
      obtain ⟨n2, rfl, h2⟩ := h 2 c rfl
      obtain ⟨n3, rfl, h3⟩ := h 3 d rfl
      obtain ⟨p, q, u, v, rfl⟩ := h 4 e rfl
      obtain ⟨n5, rfl, h5⟩ := h 5 f rfl
      exact ⟨⟨n0, n1, n2, n3, p, q, u, v, n5⟩, rfl, ⟨h0, h1, h2, h3, h5⟩⟩
theorem rd_Md : Rd enc Tryd.prog w 43 (fun ss => ∃ x : Md, ss = x.c ∧ MrOk x.rp) := by
  refine (Rd.struct2 (S := fun j ss => match j with
    | 0 => ∃ x : Mr, ss = x.c ∧ MrOk x
    | _ => ∃ s, ss = [s] ∧ ∃ l : List UInt8, s = SV.val (.string ⟨l.toArray⟩) ∧ l.length ≤ maxLen) Tryd.underlying43 (by kernel_rfl) (fun j f hj => ?_)).mono ?_
  · match j, hj with
    | 0, hj => cases hj; exact rd_Mr
    | 1, hj => cases hj; exact Rd.string Tryd.underlying9
    | 2, hj => cases hj; exact Rd.string Tryd.underlying9
    | j + 3, hj => simp at hj
  · rintro ss ⟨parts, hl, rfl, h⟩
    match parts, hl with
    | [a, b, c], _ =>
      obtain ⟨x, rfl, h0⟩ := h 0 a rfl
      obtain ⟨_, rfl, l, rfl, _⟩ := h 1 b rfl
      obtain ⟨_, rfl, m, rfl, _⟩ := h 2 c rfl
      exact ⟨⟨x, l, m⟩, by simp [Md.c], h0⟩
end
end Go.Proofs.YtcobkjognpjikaaDoor
