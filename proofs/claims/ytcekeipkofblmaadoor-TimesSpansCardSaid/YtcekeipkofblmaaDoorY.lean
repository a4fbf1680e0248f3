/- How arguments are read: numbers, spans. -/
import Derived.Test.YtcekeipkofblmaaDoorX1
set_option linter.unusedSimpArgs false
set_option linter.unusedVariables false
namespace Go.Proofs.YtcekeipkofblmaaDoor

section
variable {H : Type} {enc : TypeId × Value → H} {w : World}
theorem map_of_all {α β : Type} {c : α → β} {Q : α → Prop} : ∀ {xs : List β}, (∀ x ∈ xs, ∃ a, x = c a ∧ Q a) → ∃ l : List α, xs = l.map c ∧ ∀ a ∈ l, Q a
  | [], _ => ⟨[], rfl, by simp⟩
  | x :: xs, h => by
    obtain ⟨a, rfl, ha⟩ := h x (by simp)
    obtain ⟨l, rfl, hl⟩ := map_of_all (xs := xs) (fun y hy => h y (by simp [hy]))
    exact ⟨a :: l, rfl, by simpa using ⟨ha, hl⟩⟩
theorem rd_i64s : Rd enc Tryd.prog w 34 (fun ss => ∃ s, ss = [s] ∧ ∃ l : List Int, s = .sl 1 (ic .i64 l) ∧ l.length ≤ maxLen ∧ ∀ x ∈ l, R64 x) :=
  (Rd.slice Tryd.underlying34 (sz := 1) (by kernel_rfl) (by decide) (Rd.int Tryd.underlying2)).mono fun ss ⟨s, h1, xs, h2, h3, h4⟩ => by
    obtain ⟨l, rfl, hl⟩ := map_of_all (c := fun n : Int => [SV.val (.int .i64 n)]) (Q := R64) (fun x hx => by
      obtain ⟨⟨s, rfl, n, rfl, h5, h6⟩, _⟩ := h4 x hx
      exact ⟨n, rfl, r64 h5 h6⟩)
    exact ⟨s, h1, l, h2, by simpa using h3, hl⟩
end
end Go.Proofs.YtcekeipkofblmaaDoor
