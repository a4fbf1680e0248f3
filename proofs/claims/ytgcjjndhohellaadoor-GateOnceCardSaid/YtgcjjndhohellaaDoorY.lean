/- How arguments are read: gates, entries, states, calls. -/
import Derived.Test.YtgcjjndhohellaaDoorGU
set_option linter.unusedSimpArgs false
set_option linter.unusedVariables false
namespace Go.Proofs.YtgcjjndhohellaaDoor

section
open Go.ChangeShapes Go.WideShapes Go.Deep Go.RowKit Go.ChangeAt
variable {H : Type} {enc : TypeId × Value → H} {w : World}
theorem map_of_all {α β : Type} {c : α → β} {Q : α → Prop} : ∀ {xs : List β}, (∀ x ∈ xs, ∃ a, x = c a ∧ Q a) → ∃ l : List α, xs = l.map c ∧ ∀ a ∈ l, Q a
  | [], _ => ⟨[], rfl, by simp⟩
  | x :: xs, h => by
    obtain ⟨a, rfl, ha⟩ := h x (by simp)
    obtain ⟨l, rfl, hl⟩ := map_of_all (xs := xs) (fun y hy => h y (by simp [hy]))
    exact ⟨a :: l, rfl, by simpa using ⟨ha, hl⟩⟩
theorem rd_ints : Rd enc Tryd.prog w 57 (fun ss => ∃ l : List Int, ss = [.sl 1 (ic .i64 l)] ∧ l.length ≤ maxLen ∧ ∀ n ∈ l, S64 n) :=
  (Rd.slice Tryd.underlying57 (sz := 1) (by kernel_rfl) (by decide) (Rd.int Tryd.underlying3)).mono fun ss ⟨s, h1, xs, h2, h3, h4⟩ => by
    obtain ⟨l, rfl, hl⟩ := map_of_all (c := fun n : Int => [SV.val (.int .i64 n)]) (Q := S64) (fun x hx => by
      obtain ⟨⟨s, rfl, n, rfl, h5, h6⟩, _⟩ := h4 x hx
      exact ⟨n, rfl, Int.le_trans (by decide) h5, Int.le_trans h6 (by decide)⟩)
    exact ⟨l, by rw [h1, h2]; rfl, by simpa using h3, hl⟩

theorem rd_En : Rd enc Tryd.prog w 40 (fun ss => ∃ x : GtE, ss = x.c ∧ x.ok) := by
  refine (Rd.struct (S := fun j s => match j with
    | 0 => ∃ n, s = .val (.int .u32 n) ∧ (0 ≤ n ∧ n < 4294967296)
    | 1 => ∃ n, s = .val (.int .u64 n) ∧ (0 ≤ n ∧ n < 18446744073709551616)
    | 2 => ∃ n, s = .val (.int .u64 n) ∧ (0 ≤ n ∧ n < 18446744073709551616)
    | 3 => ∃ n, s = .val (.int .i64 n) ∧ (-9223372036854775808 ≤ n ∧ n ≤ 9223372036854775807)
    | _ => ∃ n, s = .val (.int .i64 n) ∧ (-9223372036854775808 ≤ n ∧ n ≤ 9223372036854775807)) Tryd.underlying40 (by kernel_rfl) (by kernel_rfl) (fun j f hj => ?_)).mono ?_
  · match j, hj with
    | 0, hj => cases hj; exact (Rd.int Tryd.underlying26).mono (fun ss ⟨s, h, n, h1, h2, h3⟩ => ⟨s, h, n, h1, Int.le_trans (by decide) h2, Int.lt_of_le_of_lt h3 (by decide)⟩)
    | 1, hj => cases hj; exact (Rd.int Tryd.underlying27).mono (fun ss ⟨s, h, n, h1, h2, h3⟩ => ⟨s, h, n, h1, Int.le_trans (by decide) h2, Int.lt_of_le_of_lt h3 (by decide)⟩)
    | 2, hj => cases hj; exact (Rd.int Tryd.underlying27).mono (fun ss ⟨s, h, n, h1, h2, h3⟩ => ⟨s, h, n, h1, Int.le_trans (by decide) h2, Int.lt_of_le_of_lt h3 (by decide)⟩)
    | 3, hj => cases hj; exact (Rd.int Tryd.underlying3).mono (fun ss ⟨s, h, n, h1, h2, h3⟩ => ⟨s, h, n, h1, Int.le_trans (by decide) h2, Int.le_trans h3 (by decide)⟩)
    | 4, hj => cases hj; exact (Rd.int Tryd.underlying2).mono (fun ss ⟨s, h, n, h1, h2, h3⟩ => ⟨s, h, n, h1, Int.le_trans (by decide) h2, Int.le_trans h3 (by decide)⟩)
    | j + 5, hj => simp at hj
  · rintro ss ⟨hl, h⟩
    match ss, hl with
    | [a0, a1, a2, a3, a4], _ =>
      obtain ⟨n0, rfl, h0⟩ := h 0 a0 rfl
      obtain ⟨n1, rfl, h1⟩ := h 1 a1 rfl
      obtain ⟨n2, rfl, h2⟩ := h 2 a2 rfl
      obtain ⟨n3, rfl, h3⟩ := h 3 a3 rfl
      obtain ⟨n4, rfl, h4⟩ := h 4 a4 rfl
      exact ⟨⟨n0, n1, n2, n3, n4⟩, rfl, h0, h1, h2, h3, h4⟩
theorem rd_Tt : Rd enc Tryd.prog w 29 (fun ss => ∃ a b c d : Int, ss = [SV.val (.int .u32 a), SV.val (.int .u32 b), SV.val (.int .u64 c), SV.val (.int .u64 d)] ∧ U32 a ∧ U32 b ∧ U64 c ∧ U64 d) := by
  refine (Rd.struct (S := fun j s => match j with
    | 0 => ∃ n, s = .val (.int .u32 n) ∧ (0 ≤ n ∧ n < 4294967296)
    | 1 => ∃ n, s = .val (.int .u32 n) ∧ (0 ≤ n ∧ n < 4294967296)
    | 2 => ∃ n, s = .val (.int .u64 n) ∧ (0 ≤ n ∧ n < 18446744073709551616)
    | _ => ∃ n, s = .val (.int .u64 n) ∧ (0 ≤ n ∧ n < 18446744073709551616)) Tryd.underlying29 (by kernel_rfl) (by kernel_rfl) (fun j f hj => ?_)).mono ?_
  · match j, hj with
    | 0, hj => cases hj; exact (Rd.int Tryd.underlying26).mono (fun ss ⟨s, h, n, h1, h2, h3⟩ => ⟨s, h, n, h1, Int.le_trans (by decide) h2, Int.lt_of_le_of_lt h3 (by decide)⟩)
    | 1, hj => cases hj; exact (Rd.int Tryd.underlying26).mono (fun ss ⟨s, h, n, h1, h2, h3⟩ => ⟨s, h, n, h1, Int.le_trans (by decide) h2, Int.lt_of_le_of_lt h3 (by decide)⟩)
    | 2, hj => cases hj; exact (Rd.int Tryd.underlying27).mono (fun ss ⟨s, h, n, h1, h2, h3⟩ => ⟨s, h, n, h1, Int.le_trans (by decide) h2, Int.lt_of_le_of_lt h3 (by decide)⟩)
    | 3, hj => cases hj; exact (Rd.int Tryd.underlying27).mono (fun ss ⟨s, h, n, h1, h2, h3⟩ => ⟨s, h, n, h1, Int.le_trans (by decide) h2, Int.lt_of_le_of_lt h3 (by decide)⟩)
    | j + 4, hj => simp at hj
  · rintro ss ⟨hl, h⟩
    match ss, hl with
    | [a0, a1, a2, a3], _ =>
      obtain ⟨n0, rfl, h0⟩ := h 0 a0 rfl
      obtain ⟨n1, rfl, h1⟩ := h 1 a1 rfl
      obtain ⟨n2, rfl, h2⟩ := h 2 a2 rfl
      obtain ⟨n3, rfl, h3⟩ := h 3 a3 rfl
      exact ⟨n0, n1, n2, n3, rfl, h0, h1, h2, h3⟩
theorem rd_Ga : Rd enc Tryd.prog w 59 (fun ss => ∃ x : GtG, ss = x.c ∧ x.ok) := by
  refine (Rd.struct2 (S := fun j ss => match j with
    | 0 => ∃ l : List Int, ss = [.sl 1 (ic .i64 l)] ∧ l.length ≤ maxLen ∧ ∀ n ∈ l, S64 n
    | _ => ∃ n, ss = [SV.val (.int .i64 n)] ∧ S64 n) Tryd.underlying59 (by kernel_rfl) (fun j f hj => ?_)).mono ?_
  · match j, hj with
    | 0, hj => cases hj; exact rd_ints
    | 1, hj => cases hj; exact (Rd.int Tryd.underlying2).mono (fun ss ⟨s, h, n, h1, h2, h3⟩ => ⟨n, by rw [h, h1], Int.le_trans (by decide) h2, Int.le_trans h3 (by decide)⟩)
    | 2, hj => cases hj; exact (Rd.int Tryd.underlying2).mono (fun ss ⟨s, h, n, h1, h2, h3⟩ => ⟨n, by rw [h, h1], Int.le_trans (by decide) h2, Int.le_trans h3 (by decide)⟩)
    | j + 3, hj => simp at hj
  · rintro ss ⟨parts, hl, rfl, h⟩
    match parts, hl with
    | [a, b, c], _ =>
      obtain ⟨l, rfl, h0, h1⟩ := h 0 a rfl
      obtain ⟨n1, rfl, h2⟩ := h 1 b rfl
      obtain ⟨n2, rfl, h3⟩ := h 2 c rfl
      exact ⟨⟨l, n1, n2⟩, rfl, h0, h1, h2, h3⟩
theorem rd_Gas : Rd enc Tryd.prog w 22 (fun ss => ∃ l : List GtG, ss = [.sl 3 (l.map GtG.c)] ∧ l.length ≤ maxLen ∧ ∀ x ∈ l, x.ok) :=
  (Rd.slice Tryd.underlying22 (sz := 3) (by kernel_rfl) (by decide) rd_Ga).mono fun ss ⟨s, h1, xs, h2, h3, h4⟩ => by
    obtain ⟨l, rfl, hl⟩ := map_of_all (c := GtG.c) (Q := GtG.ok) (fun x hx => (h4 x hx).1)
    exact ⟨l, by rw [h1, h2], by simpa using h3, hl⟩
theorem rd_Ens : Rd enc Tryd.prog w 23 (fun ss => ∃ l : List GtE, ss = [.sl 5 (l.map GtE.c)] ∧ l.length ≤ maxLen ∧ ∀ x ∈ l, x.ok) :=
  (Rd.slice Tryd.underlying23 (sz := 5) (by kernel_rfl) (by decide) rd_En).mono fun ss ⟨s, h1, xs, h2, h3, h4⟩ => by
    obtain ⟨l, rfl, hl⟩ := map_of_all (c := GtE.c) (Q := GtE.ok) (fun x hx => (h4 x hx).1)
    exact ⟨l, by rw [h1, h2], by simpa using h3, hl⟩
theorem rd_St : Rd enc Tryd.prog w 25 (fun ss => ∃ x : GtS, ss = x.c ∧ x.ok) := by
  refine (Rd.struct2 (S := fun j ss => match j with
    | 0 => ∃ l : List GtG, ss = [.sl 3 (l.map GtG.c)] ∧ l.length ≤ maxLen ∧ ∀ x ∈ l, x.ok
    | _ => ∃ l : List GtE, ss = [.sl 5 (l.map GtE.c)] ∧ l.length ≤ maxLen ∧ ∀ x ∈ l, x.ok) Tryd.underlying25 (by kernel_rfl) (fun j f hj => ?_)).mono ?_
  · match j, hj with
    | 0, hj => cases hj; exact rd_Gas
    | 1, hj => cases hj; exact rd_Ens
    | j + 2, hj => simp at hj
  · rintro ss ⟨parts, hl, rfl, h⟩
    match parts, hl with
    | [a, b], _ =>
      obtain ⟨l, rfl, h0, h1⟩ := h 0 a rfl
      obtain ⟨m, rfl, h2, h3⟩ := h 1 b rfl
      exact ⟨⟨l, m⟩, rfl, h0, h1, h2, h3⟩
theorem rd_Ca : Rd enc Tryd.prog w 31 (fun ss => ∃ x : GtC, ss = x.c ∧ x.ok) := by
  refine (Rd.struct2 (S := fun j ss => match j with
    | 1 => ∃ a b c d : Int, ss = [SV.val (.int .u32 a), SV.val (.int .u32 b), SV.val (.int .u64 c), SV.val (.int .u64 d)] ∧ U32 a ∧ U32 b ∧ U64 c ∧ U64 d
    | _ => ∃ n, ss = [SV.val (.int .i64 n)] ∧ S64 n) Tryd.underlying31 (by kernel_rfl) (fun j f hj => ?_)).mono ?_
  · match j, hj with
    | 0, hj => cases hj; exact (Rd.int Tryd.underlying3).mono (fun ss ⟨s, h, n, h1, h2, h3⟩ => ⟨n, by rw [h, h1], Int.le_trans (by decide) h2, Int.le_trans h3 (by decide)⟩)
    | 1, hj => cases hj; exact rd_Tt
    | 2, hj => cases hj; exact (Rd.int Tryd.underlying3).mono (fun ss ⟨s, h, n, h1, h2, h3⟩ => ⟨n, by rw [h, h1], Int.le_trans (by decide) h2, Int.le_trans h3 (by decide)⟩)
    | 3, hj => cases hj; exact (Rd.int Tryd.underlying2).mono (fun ss ⟨s, h, n, h1, h2, h3⟩ => ⟨n, by rw [h, h1], Int.le_trans (by decide) h2, Int.le_trans h3 (by decide)⟩)
    | j + 4, hj => simp at hj
  · rintro ss ⟨parts, hl, rfl, h⟩
    match parts, hl with
    | [a, b, c, d], _ =>
      obtain ⟨n0, rfl, h0⟩ := h 0 a rfl
      obtain ⟨p, q, u, v, rfl, h1, h2, h3, h4⟩ := h 1 b rfl
      obtain ⟨n2, rfl, h5⟩ := h 2 c rfl
      obtain ⟨n3, rfl, h6⟩ := h 3 d rfl
      exact ⟨⟨n0, p, q, u, v, n2, n3⟩, rfl, h0, h1, h2, h3, h4, h5, h6⟩
theorem rd_Cas : Rd enc Tryd.prog w 50 (fun ss => ∃ s, ss = [s] ∧ ∃ l : List GtC, s = .sl 7 (l.map GtC.c) ∧ l.length ≤ maxLen ∧ ∀ x ∈ l, x.ok) :=
  (Rd.slice Tryd.underlying50 (sz := 7) (by kernel_rfl) (by decide) rd_Ca).mono fun ss ⟨s, h1, xs, h2, h3, h4⟩ => by
    obtain ⟨l, rfl, hl⟩ := map_of_all (c := GtC.c) (Q := GtC.ok) (fun x hx => (h4 x hx).1)
    exact ⟨s, h1, l, h2, by simpa using h3, hl⟩
theorem calls_U {l : List GtC} (h : ∀ x ∈ l, x.ok) : ∀ c ∈ l, U32 c.seat := fun c hc => (h c hc).2.1
end
end Go.Proofs.YtgcjjndhohellaaDoor
