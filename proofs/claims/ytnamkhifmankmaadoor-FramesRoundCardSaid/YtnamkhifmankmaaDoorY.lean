/- How arguments are read: bytes, rows of bytes. -/
import Derived.Test.YtnamkhifmankmaaDoorV
set_option linter.unusedSimpArgs false
set_option linter.unusedVariables false
namespace Go.Proofs.YtnamkhifmankmaaDoor

section
variable {H : Type} {enc : TypeId × Value → H} {w : World}
theorem map_of_all {α β : Type} {c : α → β} {Q : α → Prop} : ∀ {xs : List β}, (∀ x ∈ xs, ∃ a, x = c a ∧ Q a) → ∃ l : List α, xs = l.map c ∧ ∀ a ∈ l, Q a
  | [], _ => ⟨[], rfl, by simp⟩
  | x :: xs, h => by
    obtain ⟨a, rfl, ha⟩ := h x (by simp)
    obtain ⟨l, rfl, hl⟩ := map_of_all (xs := xs) (fun y hy => h y (by simp [hy]))
    exact ⟨a :: l, rfl, by simpa using ⟨ha, hl⟩⟩
theorem rd_bytes : Rd enc Tryd.prog w 22 (fun ss => ∃ s, ss = [s] ∧ ∃ l : List UInt8, s = .sl 1 (bytesC l) ∧ l.length ≤ maxLen) :=
  (Rd.slice Tryd.underlying22 (sz := 1) (by kernel_rfl) (by decide) (Rd.int Tryd.underlying5)).mono fun ss ⟨s, h1, xs, h2, h3, h4⟩ => by
    obtain ⟨l, rfl, hl⟩ := map_of_all (c := fun b : UInt8 => [SV.val (.int .u8 (b.toNat : Int))]) (Q := fun _ => True) (fun x hx => by
      obtain ⟨⟨s, rfl, n, rfl, h5, h6⟩, _⟩ := h4 x hx
      exact ⟨byt n, by rw [byt_toNat n h5 (Int.lt_of_le_of_lt h6 (by decide))], trivial⟩)
    exact ⟨s, h1, l, h2, by simpa using h3⟩
theorem rd_rows : Rd enc Tryd.prog w 23 (fun ss => ∃ s, ss = [s] ∧ ∃ l : List (List UInt8), s = .sl 1 (rowsC l) ∧ l.length ≤ maxLen ∧ ∀ x ∈ l, x.length ≤ maxLen) :=
  (Rd.slice Tryd.underlying23 (sz := 1) (by kernel_rfl) (by decide) rd_bytes).mono fun ss ⟨s, h1, xs, h2, h3, h4⟩ => by
    obtain ⟨l, rfl, hl⟩ := map_of_all (c := fun b : List UInt8 => [SV.sl 1 (bytesC b)]) (Q := fun b => b.length ≤ maxLen) (fun x hx => by
      obtain ⟨⟨s, rfl, l, rfl, h5⟩, _⟩ := h4 x hx
      exact ⟨l, rfl, h5⟩)
    exact ⟨s, h1, l, h2, by simpa using h3, hl⟩
end
end Go.Proofs.YtnamkhifmankmaaDoor
