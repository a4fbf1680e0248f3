/- How the arguments of the laws of layer 8 are read. -/
import Derived.Test.YtmiamhegohlglaaV
import Derived.Test.YtmiamhegohlglaaC32
set_option linter.unusedSimpArgs false
set_option linter.unusedVariables false
namespace Go.Proofs.Ytmiamhegohlglaa
open Go.ChangeShapes Go.WideShapes Go.Deep Go.RowKit Go.ChangeAt

/-- what a field holds -/
def FldW (x : Fld) : Prop := 0 ≤ x.num ∧ x.num < 18446744073709551616 ∧ x.txt.length ≤ maxLen
/-- what a rule holds -/
def RuleW (r : Rule) : Prop := 0 ≤ r.low ∧ r.low < 18446744073709551616 ∧ 0 ≤ r.high ∧ r.high < 18446744073709551616
section
variable {H : Type} {enc : TypeId × Value → H} {w : World}
theorem rd_fld : Rd enc Try.prog w 34 (fun ss => ∃ x : Fld, ss = x.c ∧ FldW x) := by
  refine (Rd.struct (S := fun j s => match j with
    | 0 => ∃ n, s = .val (.int .i64 n)
    | 1 => ∃ n, s = .val (.int .u64 n) ∧ 0 ≤ n ∧ n < 18446744073709551616
    | _ => ∃ l : List UInt8, s = .val (.string ⟨l.toArray⟩) ∧ l.length ≤ maxLen) Try.underlying34 (by kernel_rfl) (by kernel_rfl) (fun j f hj => ?_)).mono ?_
  · match j, hj with
    | 0, hj => cases hj; exact (Rd.int Try.underlying3).mono (fun ss ⟨s, h, n, h1, _, _⟩ => ⟨s, h, n, h1⟩)
    | 1, hj => cases hj; exact (Rd.int Try.underlying32).mono (fun ss ⟨s, h, n, h1, h2, h3⟩ => ⟨s, h, n, h1, h2, Int.lt_of_le_of_lt h3 (by decide)⟩)
    | 2, hj => cases hj; exact (Rd.string Try.underlying9)
    | j + 3, hj => simp at hj
  · rintro ss ⟨hl, h⟩
    match ss, hl with
    | [a, b, c], _ =>
      obtain ⟨n, rfl⟩ := h 0 a rfl
      obtain ⟨m, rfl, h1, h2⟩ := h 1 b rfl
      obtain ⟨l, rfl, h3⟩ := h 2 c rfl
      exact ⟨⟨n, m, l⟩, rfl, h1, h2, h3⟩
theorem rd_rule : Rd enc Try.prog w 45 (fun ss => ∃ x : Rule, ss = x.c ∧ RuleW x) := by
  refine (Rd.struct (S := fun j s => match j with
    | 0 => ∃ n, s = .val (.int .i64 n)
    | 1 => ∃ n, s = .val (.int .i64 n)
    | 2 => ∃ n, s = .val (.int .u64 n) ∧ 0 ≤ n ∧ n < 18446744073709551616
    | 3 => ∃ n, s = .val (.int .u64 n) ∧ 0 ≤ n ∧ n < 18446744073709551616
    | _ => ∃ b, s = .val (.bool b)) Try.underlying45 (by kernel_rfl) (by kernel_rfl) (fun j f hj => ?_)).mono ?_
  · match j, hj with
    | 0, hj => cases hj; exact (Rd.int Try.underlying3).mono (fun ss ⟨s, h, n, h1, _, _⟩ => ⟨s, h, n, h1⟩)
    | 1, hj => cases hj; exact (Rd.int Try.underlying3).mono (fun ss ⟨s, h, n, h1, _, _⟩ => ⟨s, h, n, h1⟩)
    | 2, hj => cases hj; exact (Rd.int Try.underlying32).mono (fun ss ⟨s, h, n, h1, h2, h3⟩ => ⟨s, h, n, h1, h2, Int.lt_of_le_of_lt h3 (by decide)⟩)
    | 3, hj => cases hj; exact (Rd.int Try.underlying32).mono (fun ss ⟨s, h, n, h1, h2, h3⟩ => ⟨s, h, n, h1, h2, Int.lt_of_le_of_lt h3 (by decide)⟩)
    | 4, hj => cases hj; exact (Rd.bool Try.underlying4)
    | j + 5, hj => simp at hj
  · rintro ss ⟨hl, h⟩
    match ss, hl with
    | [a, b, c, d, e], _ =>
      obtain ⟨n, rfl⟩ := h 0 a rfl
      obtain ⟨k, rfl⟩ := h 1 b rfl
      obtain ⟨m, rfl, h1, h2⟩ := h 2 c rfl
      obtain ⟨p, rfl, h3, h4⟩ := h 3 d rfl
      obtain ⟨q, rfl⟩ := h 4 e rfl
      exact ⟨⟨n, k, m, p, q⟩, rfl, h1, h2, h3, h4⟩
theorem map_of_all {α : Type} {c : α → List SV} {Q : α → Prop} : ∀ {xs : List (List SV)}, (∀ x ∈ xs, ∃ a, x = c a ∧ Q a) → ∃ l : List α, xs = l.map c ∧ ∀ a ∈ l, Q a
  | [], _ => ⟨[], rfl, by simp⟩
  | x :: xs, h => by
    obtain ⟨a, rfl, ha⟩ := h x (by simp)
    obtain ⟨l, rfl, hl⟩ := map_of_all (xs := xs) (fun y hy => h y (by simp [hy]))
    exact ⟨a :: l, rfl, by simpa using ⟨ha, hl⟩⟩
theorem rd_flds : Rd enc Try.prog w 26 (fun ss => ∃ s, ss = [s] ∧ ∃ l : List Fld, s = .sl 3 (l.map Fld.c) ∧ l.length ≤ maxLen ∧ ∀ x ∈ l, FldW x) :=
  (Rd.slice Try.underlying26 (sz := 3) (by kernel_rfl) (by decide) rd_fld).mono fun ss ⟨s, h1, xs, h2, h3, h4⟩ => by
    obtain ⟨l, rfl, hl⟩ := map_of_all (fun x hx => (h4 x hx).1)
    exact ⟨s, h1, l, h2, by simpa using h3, hl⟩
theorem rd_rules : Rd enc Try.prog w 22 (fun ss => ∃ s, ss = [s] ∧ ∃ l : List Rule, s = .sl 5 (l.map Rule.c) ∧ l.length ≤ maxLen ∧ ∀ x ∈ l, RuleW x) :=
  (Rd.slice Try.underlying22 (sz := 5) (by kernel_rfl) (by decide) rd_rule).mono fun ss ⟨s, h1, xs, h2, h3, h4⟩ => by
    obtain ⟨l, rfl, hl⟩ := map_of_all (fun x hx => (h4 x hx).1)
    exact ⟨s, h1, l, h2, by simpa using h3, hl⟩
theorem rd_bytes : Rd enc Try.prog w 23 (fun ss => ∃ s, ss = [s] ∧ ∃ l : List UInt8, s = .sl 1 (bytesC l) ∧ l.length ≤ maxLen) :=
  (Rd.slice Try.underlying23 (sz := 1) (by kernel_rfl) (by decide) (Rd.int Try.underlying5)).mono fun ss ⟨s, h1, xs, h2, h3, h4⟩ => by
    obtain ⟨l, rfl, hl⟩ := map_of_all (c := fun b : UInt8 => [.val (.int .u8 (b.toNat : Int))]) (Q := fun _ => True) (fun x hx => by
      obtain ⟨⟨s, rfl, n, rfl, h5, h6⟩, _⟩ := h4 x hx
      exact ⟨byt n, by rw [byt_toNat n h5 (Int.lt_of_le_of_lt h6 (by decide))], trivial⟩)
    exact ⟨s, h1, l, h2, by simpa using h3⟩
theorem rd_less : Rd enc Try.prog w 43 (fun ss => ∃ (a b c : Int) (m : Bool), ss = [.val (.int .u8 a), .val (.int .u8 b), .val (.int .u8 c), .val (.bool m)] ∧ (0 ≤ a ∧ a < 256) ∧ (0 ≤ b ∧ b < 256) ∧ 0 ≤ c ∧ c < 256) := by
  refine (Rd.struct (S := fun j s => match j with
    | 0 => ∃ n, s = .val (.int .u8 n) ∧ 0 ≤ n ∧ n < 256
    | 1 => ∃ n, s = .val (.int .u8 n) ∧ 0 ≤ n ∧ n < 256
    | 2 => ∃ n, s = .val (.int .u8 n) ∧ 0 ≤ n ∧ n < 256
    | _ => ∃ b, s = .val (.bool b)) Try.underlying43 (by kernel_rfl) (by kernel_rfl) (fun j f hj => ?_)).mono ?_
  · match j, hj with
    | 0, hj => cases hj; exact (Rd.int Try.underlying5).mono (fun ss ⟨s, h, n, h1, h2, h3⟩ => ⟨s, h, n, h1, h2, Int.lt_of_le_of_lt h3 (by decide)⟩)
    | 1, hj => cases hj; exact (Rd.int Try.underlying5).mono (fun ss ⟨s, h, n, h1, h2, h3⟩ => ⟨s, h, n, h1, h2, Int.lt_of_le_of_lt h3 (by decide)⟩)
    | 2, hj => cases hj; exact (Rd.int Try.underlying5).mono (fun ss ⟨s, h, n, h1, h2, h3⟩ => ⟨s, h, n, h1, h2, Int.lt_of_le_of_lt h3 (by decide)⟩)
    | 3, hj => cases hj; exact (Rd.bool Try.underlying4)
    | j + 4, hj => simp at hj
  · rintro ss ⟨hl, h⟩
    match ss, hl with
    | [a, b, c, d], _ =>
      obtain ⟨n, rfl, h1, h2⟩ := h 0 a rfl
      obtain ⟨m, rfl, h3, h4⟩ := h 1 b rfl
      obtain ⟨p, rfl, h5, h6⟩ := h 2 c rfl
      obtain ⟨q, rfl⟩ := h 3 d rfl
      exact ⟨n, m, p, q, rfl, ⟨h1, h2⟩, ⟨h3, h4⟩, h5, h6⟩
end
end Go.Proofs.Ytmiamhegohlglaa
