/- How arguments are read: fields. -/
import Derived.Test.YtmjpkfjgknbfeaaDoorQT
set_option linter.unusedSimpArgs false
set_option linter.unusedVariables false
namespace Go.Proofs.YtmjpkfjgknbfeaaDoor

section
open Go.ChangeShapes Go.WideShapes Go.Deep Go.RowKit Go.ChangeAt
variable {H : Type} {enc : TypeId × Value → H} {w : World}
theorem map_of_all {α β : Type} {c : α → β} {Q : α → Prop} : ∀ {xs : List β}, (∀ x ∈ xs, ∃ a, x = c a ∧ Q a) → ∃ l : List α, xs = l.map c ∧ ∀ a ∈ l, Q a
  | [], _ => ⟨[], rfl, by simp⟩
  | x :: xs, h => by
    obtain ⟨a, rfl, ha⟩ := h x (by simp)
    obtain ⟨l, rfl, hl⟩ := map_of_all (xs := xs) (fun y hy => h y (by simp [hy]))
    exact ⟨a :: l, rfl, by simpa using ⟨ha, hl⟩⟩
theorem rd_Fd : Rd enc Tryd.prog w 43 (fun ss => ∃ x : Fd, ss = x.c ∧ True) := by
  refine (Rd.struct (S := fun j s => match j with
    | 0 => ∃ l : List UInt8, s = .val (.string ⟨l.toArray⟩) ∧ l.length ≤ maxLen
    | _ => ∃ b, s = .val (.bool b)) Tryd.underlying43 (by kernel_rfl) (by kernel_rfl) (fun j f hj => ?_)).mono ?_
  · match j, hj with
    | 0, hj => cases hj; exact Rd.string Tryd.underlying9
    | 1, hj => cases hj; exact Rd.bool Tryd.underlying4
    | j + 2, hj => simp at hj
  · rintro ss ⟨hl, h⟩
    match ss, hl with
    | [a0, a1], _ =>
      obtain ⟨n0, rfl, h0⟩ := h 0 a0 rfl
      obtain ⟨n1, rfl⟩ := h 1 a1 rfl
      exact ⟨⟨n0, n1⟩, rfl, trivial⟩
theorem rd_Fds : Rd enc Tryd.prog w 23 (fun ss => ∃ s, ss = [s] ∧ ∃ l : List Fd, s = .sl 2 (l.map Fd.c) ∧ l.length ≤ maxLen) :=
  (Rd.slice Tryd.underlying23 (sz := 2) (by kernel_rfl) (by decide) rd_Fd).mono fun ss ⟨s, h1, xs, h2, h3, h4⟩ => by
    obtain ⟨l, rfl, hl⟩ := map_of_all (c := Fd.c) (Q := fun _ => True) (fun x hx => by
      obtain ⟨⟨a, rfl, _⟩, _⟩ := h4 x hx
      exact ⟨a, rfl, trivial⟩)
    exact ⟨s, h1, l, h2, by simpa using h3⟩
end
end Go.Proofs.YtmjpkfjgknbfeaaDoor
