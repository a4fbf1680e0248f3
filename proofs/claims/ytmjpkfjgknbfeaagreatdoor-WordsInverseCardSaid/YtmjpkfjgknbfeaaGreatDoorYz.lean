/- How arguments are read: fields, numbers. -/
import Derived.Test.YtmjpkfjgknbfeaaGreatDoorSN
set_option linter.unusedSimpArgs false
set_option linter.unusedVariables false
namespace Go.Proofs.YtmjpkfjgknbfeaaGreatDoor

section
open Go.ChangeShapes Go.WideShapes Go.Deep Go.RowKit Go.ChangeAt
variable {H : Type} {enc : TypeId × Value → H} {w : World}
theorem map_of_all {α β : Type} {c : α → β} {Q : α → Prop} : ∀ {xs : List β}, (∀ x ∈ xs, ∃ a, x = c a ∧ Q a) → ∃ l : List α, xs = l.map c ∧ ∀ a ∈ l, Q a
  | [], _ => ⟨[], rfl, by simp⟩
  | x :: xs, h => by
    obtain ⟨a, rfl, ha⟩ := h x (by simp)
    obtain ⟨l, rfl, hl⟩ := map_of_all (xs := xs) (fun y hy => h y (by simp [hy]))
    exact ⟨a :: l, rfl, by simpa using ⟨ha, hl⟩⟩
theorem rd_Fd : Rd enc Tryz.prog w 47 (fun ss => ∃ x : Fd, ss = x.c ∧ True) := by
  refine (Rd.struct (S := fun j s => match j with
    | 0 => ∃ l : List UInt8, s = .val (.string ⟨l.toArray⟩) ∧ l.length ≤ maxLen
    | _ => ∃ b, s = .val (.bool b)) Tryz.underlying47 (by kernel_rfl) (by kernel_rfl) (fun j f hj => ?_)).mono ?_
  · match j, hj with
    | 0, hj => cases hj; exact Rd.string Tryz.underlying9
    | 1, hj => cases hj; exact Rd.bool Tryz.underlying4
    | j + 2, hj => simp at hj
  · rintro ss ⟨hl, h⟩
    match ss, hl with
    | [a0, a1], _ =>
      obtain ⟨n0, rfl, h0⟩ := h 0 a0 rfl
      obtain ⟨n1, rfl⟩ := h 1 a1 rfl
      exact ⟨⟨n0, n1⟩, rfl, trivial⟩
theorem rd_Fds : Rd enc Tryz.prog w 34 (fun ss => ∃ s, ss = [s] ∧ ∃ l : List Fd, s = .sl 2 (l.map Fd.c) ∧ l.length ≤ maxLen) :=
  (Rd.slice Tryz.underlying34 (sz := 2) (by kernel_rfl) (by decide) rd_Fd).mono fun ss ⟨s, h1, xs, h2, h3, h4⟩ => by
    obtain ⟨l, rfl, hl⟩ := map_of_all (c := Fd.c) (Q := fun _ => True) (fun x hx => by
      obtain ⟨⟨a, rfl, _⟩, _⟩ := h4 x hx
      exact ⟨a, rfl, trivial⟩)
    exact ⟨s, h1, l, h2, by simpa using h3⟩
theorem rd_i64 : Rd enc Tryz.prog w 3 (fun ss => ∃ s, ss = [s] ∧ ∃ n, s = .val (.int .i64 n) ∧ (-9223372036854775808 ≤ n ∧ n ≤ 9223372036854775807)) := (Rd.int Tryz.underlying3).mono (fun ss ⟨s, h, n, h1, h2, h3⟩ => ⟨s, h, n, h1, Int.le_trans (by decide) h2, Int.le_trans h3 (by decide)⟩)
theorem rd_ints : Rd enc Tryz.prog w 22 (fun ss => ∃ s, ss = [s] ∧ ∃ l : List Int, s = .sl 1 (ic .i64 l) ∧ l.length ≤ maxLen ∧ ∀ n ∈ l, -9223372036854775808 ≤ n ∧ n ≤ 9223372036854775807) :=
  (Rd.slice Tryz.underlying22 (sz := 1) (by kernel_rfl) (by decide) rd_i64).mono fun ss ⟨s, h1, xs, h2, h3, h4⟩ => by
    obtain ⟨l, rfl, hl⟩ := map_of_all (c := fun n : Int => [SV.val (.int .i64 n)]) (Q := fun n => -9223372036854775808 ≤ n ∧ n ≤ 9223372036854775807) (fun x hx => by
      obtain ⟨⟨y, hy, n, hn, g0, g1⟩, _⟩ := h4 x hx
      exact ⟨n, by rw [hy, hn], g0, g1⟩)
    exact ⟨s, h1, l, h2, by simpa using h3, hl⟩
theorem rd_Nums : Rd enc Tryz.prog w 39 (fun ss => ∃ (l : List Int) (n : Int), ss = [.sl 1 (ic .i64 l), .val (.int .i64 n)] ∧ l.length ≤ maxLen ∧ (∀ x ∈ l, -9223372036854775808 ≤ x ∧ x ≤ 9223372036854775807) ∧ -9223372036854775808 ≤ n ∧ n ≤ 9223372036854775807) := by
  refine (Rd.struct (S := fun j s => match j with
    | 0 => ∃ l : List Int, s = .sl 1 (ic .i64 l) ∧ l.length ≤ maxLen ∧ ∀ n ∈ l, -9223372036854775808 ≤ n ∧ n ≤ 9223372036854775807
    | _ => ∃ n, s = .val (.int .i64 n) ∧ (-9223372036854775808 ≤ n ∧ n ≤ 9223372036854775807)) Tryz.underlying39 (by kernel_rfl) (by kernel_rfl) (fun j f hj => ?_)).mono ?_
  · match j, hj with
    | 0, hj => cases hj; exact (rd_ints (w := w) (enc := enc)) -- []int
    | 1, hj => cases hj; exact (Rd.int Tryz.underlying2).mono (fun ss ⟨s, h, n, h1, h2, h3⟩ => ⟨s, h, n, h1, Int.le_trans (by decide) h2, Int.le_trans h3 (by decide)⟩)
    | j + 2, hj => simp at hj
  · rintro ss ⟨hl, h⟩
    match ss, hl with
    | [a0, a1], _ =>
      obtain ⟨n0, rfl, h0⟩ := h 0 a0 rfl
      obtain ⟨n1, rfl, h1⟩ := h 1 a1 rfl
      exact ⟨n0, n1, rfl, h0.1, h0.2, h1.1, h1.2⟩
end
end Go.Proofs.YtmjpkfjgknbfeaaGreatDoor
