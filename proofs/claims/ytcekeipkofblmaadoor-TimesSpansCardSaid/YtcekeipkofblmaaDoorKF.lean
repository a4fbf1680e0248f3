/- The ground of the walks: a program logic over told states (no condition). -/
import Derived.Test.YtcekeipkofblmaaDoorKE
set_option linter.unusedSimpArgs false
set_option linter.unusedVariables false
/- A cell of an element of a slice of one's own is written. -/
namespace Go.Proofs.YtcekeipkofblmaaDoor

theorem flat_set1 {sz : Nat} : ∀ (xs : List (List SV)) (j f : Nat) (c : SV) (ev : List SV), (∀ e ∈ xs, e.length = sz) → xs[j]? = some ev → f < sz → (xs.set j (ev.set f c)).flatten = xs.flatten.set (j * sz + f) c
  | [], j, f, c, ev, _, h, _ => by simp at h
  | x :: xs, 0, f, c, ev, hs, h, hf => by
    simp at h
    subst h
    have hx := hs x (by simp)
    rw [List.set_cons_zero, List.flatten_cons, List.flatten_cons, Nat.zero_mul, Nat.zero_add, List.set_append_left _ _ (by omega)]
  | x :: xs, j + 1, f, c, ev, hs, h, hf => by
    have hx := hs x (by simp)
    have ih := flat_set1 xs j f c ev (fun e h' => hs e (by simp [h'])) (by simpa using h) hf
    rw [List.set_cons_succ, List.flatten_cons, List.flatten_cons, ih, List.set_append_right _ _ (by rw [hx, Nat.succ_mul]; omega)]
    congr 2
    rw [hx, Nat.succ_mul]; omega
theorem flat_len {sz : Nat} : ∀ (xs : List (List SV)), (∀ e ∈ xs, e.length = sz) → xs.flatten.length = xs.length * sz
  | [], _ => by simp
  | x :: xs, h => by
    rw [List.flatten_cons, List.length_append, flat_len xs (fun e h' => h e (by simp [h'])), h x (by simp), List.length_cons, Nat.succ_mul]; omega

section
variable {P : Program} {r : Option Nat} {N : Nat} {D : List Nat} {B : Base} {all : Array Oper} {K : List (Nat × Ct) → St → Prop}
variable {i : Nat} {ops : List Oper} {tr : List (Nat × Ct)} {E : List (Nat × Ent)} {L : List (Nat × LO)} {n : Nat}
variable {ty : Nat} {pos : String} {aft : Array Edge}
theorem R.storeRs1 {T e sz : Nat} (hF : OneF P T) {x y : Operand} {o off : Nat} {xs : List (List SV)} {c : SV} (j f : Nat) (ev : List SV)
    (ho : all[i]? = some ⟨none, .store T x y, ty, pos, aft, none⟩ := by rfl)
    (hx : lvOf (en E) x = some (true, .ptr o off) := by rfl) (hy : lvOf (en E) y = some (true, .sv c) := by rfl) (h1 : (LV.sv c).one = true := by rfl) (hb : hp L o = some (.rs e sz xs) := by rfl)
    (hj : xs[j]? = some ev) (hoff : off = j * sz + f := by omega) (h0 : f < sz := by decide)
    (h : Reg P r N D B all (i + 1) ops ((i, ⟨needOf [x, y] [(true, .ptr o off), (true, .sv c)], none, (true, .v undef), [], [(o, .rs e sz xs)], [(o, .rs e sz (xs.set j (ev.set f c)))], []⟩) :: tr) (st E ((o, .rs e sz (xs.set j (ev.set f c))) :: L) n) K) :
    Reg P r N D B all i (⟨none, .store T x y, ty, pos, aft, none⟩ :: ops) tr (st E L n) K :=
  Reg.set (es := [(true, .ptr o off), (true, .sv c)]) (rd := []) ho gN ⟨_, _, rfl, hx, _, _, rfl, hy, rfl⟩ (by simp) hb (OpC.of_run (by simp) (by simp) fun md n0 cx H ρ w hok _ hHi _ hv => by
    obtain ⟨v1, v2⟩ := Vs.two hv
    simp only [entLV] at v1 v2
    have hob := hHi o (.rs e sz xs) (by simp)
    obtain ⟨hA, hsz, vs, hown, hvs, hone⟩ := hok.ok o _ hob
    simp only [V] at v1
    obtain ⟨_, b, hbk, hp1⟩ := v1
    have hjl : j < xs.length := (List.getElem?_eq_some_iff.1 hj).1
    rcases hown.2 with ⟨e1, e2⟩ | ⟨gb, cap, cur, e1, eb, e2, e3, e4, e5, e6⟩
    · omega
    · have hbk' := hbk
      rw [e1] at hbk
      simp only [bk, Option.some.injEq] at hbk
      subst hbk
      have hjs : j * sz + sz ≤ xs.length * sz := by rw [← Nat.succ_mul]; exact Nat.mul_le_mul_right _ hjl
      have hcs : xs.length * sz ≤ cur.size := by rw [e5]; exact Nat.mul_le_mul_right _ e3
      have hlt : off < cur.size := by omega
      have hon := LV.one_spec h1 v2
      have hcell : w.cell? ⟨gb, off, none⟩ = some cur[off] := by simp [World.cell?, e2, hlt]
      have hfr : w.frozen? ⟨gb, off, none⟩ = false := by simp [World.frozen?, e2]
      have hw' : (w.setCell ⟨gb, off, none⟩ (ρ y)).heap[gb]? = some (.cells (cur.setIfInBounds off (ρ y)) e (0, 0)) := by
        simp only [World.setCell, Array.getElem?_modify, if_true, e2, Option.map_some]
        simp
      have hoth : ∀ k, k ≠ gb → (w.setCell ⟨gb, off, none⟩ (ρ y)).heap[k]? = w.heap[k]? := by
        intro k hk
        simp only [World.setCell, Array.getElem?_modify, if_neg (Ne.symm hk)]
      have hlen : (xs.set j (ev.set f c)).length = xs.length := List.length_set
      have hel : ev.length = sz := hsz ev (List.mem_of_getElem? hj)
      refine ⟨.skip, undef, w.setCell ⟨gb, off, none⟩ (ρ y), cx, ?_, .inr ⟨rfl, rfl⟩, Tr.set hok hob hbk' ⟨rfl, rfl, rfl⟩ (by simp [World.setCell]) hoth (fun hext => ?_), V.mkval⟩
      · have hst := run_store P w ⟨gb, off, none⟩ (ρ y) .plain hon
        rw [hcell] at hst
        simp only [hfr, Bool.false_eq_true, if_false] at hst
        have hadd : (⟨gb, off, none⟩ : Addr).add 0 = ⟨gb, off, none⟩ := rfl
        simp [execOp, hp1, Instr.storeAt, Instr.sureAddr, storeVar, cells_one hon, hF.2 w, storeCells, hadd, hst]
      · refine ⟨set_lens hsz (by rw [List.length_set]; exact hel) j, vs.set off (ρ y), ⟨?_, .inr ⟨gb, cap, _, ?_, eb, hw', ?_, e4, ?_, ?_⟩⟩, ?_, ?_⟩
        · rw [hlen, List.length_set]; exact hown.1
        · rw [hlen]; exact e1
        · rw [hlen]; exact e3
        · rw [← e5]; simp
        · rw [hlen, ← e6, Array.toList_setIfInBounds, List.take_set]
        · rw [flat_set1 xs j f c ev hsz hj h0, List.map_set, ← hoff]
          exact Vs.set (Vs.mono (CxLe.refl _) hext _ _ hvs) (V.mono (CxLe.refl _) hext _ _ v2)
        · intro u hu'
          rcases List.mem_or_eq_of_mem_set hu' with hu' | rfl
          · exact hone u hu'
          · exact hon) h
end

end Go.Proofs.YtcekeipkofblmaaDoor
