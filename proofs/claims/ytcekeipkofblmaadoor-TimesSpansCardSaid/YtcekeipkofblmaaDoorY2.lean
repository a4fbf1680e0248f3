/- How arguments are read: spans. -/
import Derived.Test.YtcekeipkofblmaaDoorY
set_option linter.unusedSimpArgs false
set_option linter.unusedVariables false
namespace Go.Proofs.YtcekeipkofblmaaDoor

section
variable {H : Type} {enc : TypeId × Value → H} {w : World}
theorem rd_span : Rd enc Tryd.prog w 43 (fun ss => ∃ x : Sp, ss = spC x) := by
  refine (Rd.struct (S := fun _ s => ∃ n, s = .val (.int .i64 n)) Tryd.underlying43 (by kernel_rfl) (by kernel_rfl) (fun j f hj => ?_)).mono ?_
  · match j, hj with
    | 0, hj => cases hj; exact (Rd.int Tryd.underlying2).mono (fun ss ⟨s, h, n, h1, _, _⟩ => ⟨s, h, n, h1⟩)
    | 1, hj => cases hj; exact (Rd.int Tryd.underlying2).mono (fun ss ⟨s, h, n, h1, _, _⟩ => ⟨s, h, n, h1⟩)
    | j + 2, hj => simp at hj
  · rintro ss ⟨hl, h⟩
    match ss, hl with
    | [a, b], _ =>
      obtain ⟨n, rfl⟩ := h 0 a rfl
      obtain ⟨m, rfl⟩ := h 1 b rfl
      exact ⟨(n, m), rfl⟩
theorem rd_spans : Rd enc Tryd.prog w 36 (fun ss => ∃ s, ss = [s] ∧ ∃ l : List Sp, s = .sl 2 (spsC l) ∧ l.length ≤ maxLen) :=
  (Rd.slice Tryd.underlying36 (sz := 2) (by kernel_rfl) (by decide) rd_span).mono fun ss ⟨s, h1, xs, h2, h3, h4⟩ => by
    obtain ⟨l, rfl, hl⟩ := map_of_all (c := spC) (Q := fun _ => True) (fun x hx => by
      obtain ⟨⟨a, h⟩, _⟩ := h4 x hx
      exact ⟨a, h, trivial⟩)
    exact ⟨s, h1, l, h2, by simpa using h3⟩
end
end Go.Proofs.YtcekeipkofblmaaDoor
