/- The ground of the walks: a program logic over told states (no condition). -/
import Derived.Test.YtnamkhifmankmaaDoorKE
import Derived.Lib.Builder
import Derived.Lib.UnsafeStr
import GoSem.Instr.MapUpdate
set_option linter.unusedSimpArgs false
set_option linter.unusedVariables false
/- A cell of an element of a slice of one's own is written. -/
namespace Go.Proofs.YtnamkhifmankmaaDoor

theorem flat_set1 {sz : Nat} : ∀ (xs : List (List SV)) (j f : Nat) (c : SV) (ev : List SV), (∀ e ∈ xs, e.length = sz) → xs[j]? = some ev → f < sz → (xs.set j (ev.set f c)).flatten = xs.flatten.set (j * sz + f) c
  | [], j, f, c, ev, _, h, _ => by simp at h
  | x :: xs, 0, f, c, ev, hs, h, hf => by
    simp at h
    subst h
    have hx := hs x (by simp)
    rw [List.set_cons_zero, List.flatten_cons, List.flatten_cons, Nat.zero_mul, Nat.zero_add, List.set_append_left _ _ (by omega)]
  | x :: xs, j + 1, f, c, ev, hs, h, hf => by
    have hx := hs x (by simp)
    have ih := flat_set1 xs j f c ev (fun e h' => hs e (by simp [h'])) (by simpa using h) hf
    rw [List.set_cons_succ, List.flatten_cons, List.flatten_cons, ih, List.set_append_right _ _ (by rw [hx, Nat.succ_mul]; omega)]
    congr 2
    rw [hx, Nat.succ_mul]; omega
theorem flat_len {sz : Nat} : ∀ (xs : List (List SV)), (∀ e ∈ xs, e.length = sz) → xs.flatten.length = xs.length * sz
  | [], _ => by simp
  | x :: xs, h => by
    rw [List.flatten_cons, List.length_append, flat_len xs (fun e h' => h e (by simp [h'])), h x (by simp), List.length_cons, Nat.succ_mul]; omega

section
variable {P : Program} {r : Option Nat} {N : Nat} {D : List Nat} {B : Base} {all : Array Oper} {K : List (Nat × Ct) → St → Prop}
variable {i : Nat} {ops : List Oper} {tr : List (Nat × Ct)} {E : List (Nat × Ent)} {L : List (Nat × LO)} {n : Nat}
variable {ty : Nat} {pos : String} {aft : Array Edge}
theorem R.storeRs1 {T e sz : Nat} (hF : OneF P T) {x y : Operand} {o off : Nat} {xs : List (List SV)} {c : SV} (j f : Nat) (ev : List SV)
    (ho : all[i]? = some ⟨none, .store T x y, ty, pos, aft, none⟩ := by rfl)
    (hx : lvOf (en E) x = some (true, .ptr o off) := by rfl) (hy : lvOf (en E) y = some (true, .sv c) := by rfl) (h1 : (LV.sv c).one = true := by rfl) (hb : hp L o = some (.rs e sz xs) := by rfl)
    (hj : xs[j]? = some ev) (hoff : off = j * sz + f := by omega) (h0 : f < sz := by decide)
    (h : Reg P r N D B all (i + 1) ops ((i, ⟨needOf [x, y] [(true, .ptr o off), (true, .sv c)], none, (true, .v undef), [], [(o, .rs e sz xs)], [(o, .rs e sz (xs.set j (ev.set f c)))], []⟩) :: tr) (st E ((o, .rs e sz (xs.set j (ev.set f c))) :: L) n) K) :
    Reg P r N D B all i (⟨none, .store T x y, ty, pos, aft, none⟩ :: ops) tr (st E L n) K :=
  Reg.set (es := [(true, .ptr o off), (true, .sv c)]) (rd := []) ho gN ⟨_, _, rfl, hx, _, _, rfl, hy, rfl⟩ (by simp) hb (OpC.of_run (by simp) (by simp) fun md n0 cx H ρ w hok _ hHi _ hv => by
    obtain ⟨v1, v2⟩ := Vs.two hv
    simp only [entLV] at v1 v2
    have hob := hHi o (.rs e sz xs) (by simp)
    obtain ⟨hA, hsz, vs, hown, hvs, hone⟩ := hok.ok o _ hob
    simp only [V] at v1
    obtain ⟨_, b, hbk, hp1⟩ := v1
    have hjl : j < xs.length := (List.getElem?_eq_some_iff.1 hj).1
    rcases hown.2 with ⟨e1, e2⟩ | ⟨gb, cap, cur, e1, eb, e2, e3, e4, e5, e6⟩
    · omega
    · have hbk' := hbk
      rw [e1] at hbk
      simp only [bk, Option.some.injEq] at hbk
      subst hbk
      have hjs : j * sz + sz ≤ xs.length * sz := by rw [← Nat.succ_mul]; exact Nat.mul_le_mul_right _ hjl
      have hcs : xs.length * sz ≤ cur.size := by rw [e5]; exact Nat.mul_le_mul_right _ e3
      have hlt : off < cur.size := by omega
      have hon := LV.one_spec h1 v2
      have hcell : w.cell? ⟨gb, off, none⟩ = some cur[off] := by simp [World.cell?, e2, hlt]
      have hfr : w.frozen? ⟨gb, off, none⟩ = false := by simp [World.frozen?, e2]
      have hw' : (w.setCell ⟨gb, off, none⟩ (ρ y)).heap[gb]? = some (.cells (cur.setIfInBounds off (ρ y)) e (0, 0)) := by
        simp only [World.setCell, Array.getElem?_modify, if_true, e2, Option.map_some]
        simp
      have hoth : ∀ k, k ≠ gb → (w.setCell ⟨gb, off, none⟩ (ρ y)).heap[k]? = w.heap[k]? := by
        intro k hk
        simp only [World.setCell, Array.getElem?_modify, if_neg (Ne.symm hk)]
      have hlen : (xs.set j (ev.set f c)).length = xs.length := List.length_set
      have hel : ev.length = sz := hsz ev (List.mem_of_getElem? hj)
      refine ⟨.skip, undef, w.setCell ⟨gb, off, none⟩ (ρ y), cx, ?_, .inr ⟨rfl, rfl⟩, Tr.set hok hob hbk' ⟨rfl, rfl, rfl⟩ (by simp [World.setCell]) hoth (fun hext => ?_), V.mkval⟩
      · have hst := run_store P w ⟨gb, off, none⟩ (ρ y) .plain hon
        rw [hcell] at hst
        simp only [hfr, Bool.false_eq_true, if_false] at hst
        have hadd : (⟨gb, off, none⟩ : Addr).add 0 = ⟨gb, off, none⟩ := rfl
        simp [execOp, hp1, Instr.storeAt, Instr.sureAddr, storeVar, cells_one hon, hF.2 w, storeCells, hadd, hst]
      · refine ⟨set_lens hsz (by rw [List.length_set]; exact hel) j, vs.set off (ρ y), ⟨?_, .inr ⟨gb, cap, _, ?_, eb, hw', ?_, e4, ?_, ?_⟩⟩, ?_, ?_⟩
        · rw [hlen, List.length_set]; exact hown.1
        · rw [hlen]; exact e1
        · rw [hlen]; exact e3
        · rw [← e5]; simp
        · rw [hlen, ← e6, Array.toList_setIfInBounds, List.take_set]
        · rw [flat_set1 xs j f c ev hsz hj h0, List.map_set, ← hoff]
          exact Vs.set (Vs.mono (CxLe.refl _) hext _ _ hvs) (V.mono (CxLe.refl _) hext _ _ v2)
        · intro u hu'
          rcases List.mem_or_eq_of_mem_set hu' with hu' | rfl
          · exact hone u hu'
          · exact hon) h
end

end Go.Proofs.YtnamkhifmankmaaDoor

/- max of three numbers. -/
namespace Go.Proofs.YtnamkhifmankmaaDoor
theorem run_max3 (P : Program) (k : IntKind) (a b c : Int) (w : World) (tys : Array TypeId) (t : TypeId) : (Builtin.max_ tys t #[.int k a, .int k b, .int k c]).run P w = .ok (.int k (max (max a b) c)) w := by
  simp only [Builtin.max_, List.foldlM, Builtin.max2]
  by_cases h : b > a
  · by_cases h2 : c > b
    · simp [h, h2, show max (max a b) c = c by omega]
    · simp [h, h2, show max (max a b) c = b by omega]
  · by_cases h2 : c > a
    · simp [h, h2, show max (max a b) c = c by omega]
    · simp [h, h2, show max (max a b) c = a by omega]
section
variable {P : Program} {r : Option Nat} {N : Nat} {D : List Nat} {B : Base} {all : Array Oper} {K : List (Nat × Ct) → St → Prop}
variable {i : Nat} {ops : List Oper} {tr : List (Nat × Ct)} {E : List (Nat × Ent)} {L : List (Nat × LO)} {n : Nat} {g : Bool} {gn : List (Nat × Ent)}
variable {d ty : Nat} {pos : String} {aft : Array Edge} {gd : Option (Nat × Bool)}
theorem R.maxI3 {x y z : Operand} {gx gy gz : Bool} {k : IntKind} {a b c : Int} {tys : Array TypeId}
    (ho : all[i]? = some ⟨some d, .call { callee := .builtin .max, args := #[x, y, z], argTypes := tys }, ty, pos, aft, gd⟩ := by rfl) (hg : GuardOk (en E) all gd g gn := by first | exact gN | exact gS rfl rfl)
    (hx : lvOf (en E) x = some (gx, .v (.int k a)) := by rfl) (hy : lvOf (en E) y = some (gy, .v (.int k b)) := by rfl) (hz : lvOf (en E) z = some (gz, .v (.int k c)) := by rfl)
    (hgx : g = true → gx = true := by first | exact fun _ => rfl | exact id) (hgy : g = true → gy = true := by first | exact fun _ => rfl | exact id) (hgz : g = true → gz = true := by first | exact fun _ => rfl | exact id)
    (h : Reg P r N D B all (i + 1) ops ((i, Ct.p gn [x, y, z] [(gx, .v (.int k a)), (gy, .v (.int k b)), (gz, .v (.int k c))] (some d) (g, .v (.int k (Max.max (Max.max a b) c))) []) :: tr) (st ((d, (g, .v (.int k (Max.max (Max.max a b) c)))) :: E) L n) K) :
    Reg P r N D B all i (⟨some d, .call { callee := .builtin .max, args := #[x, y, z], argTypes := tys }, ty, pos, aft, gd⟩ :: ops) tr (st E L n) K :=
  Reg.three rfl (fun h => by
    rw [entLV_true h hgx, entLV_true h hgy, entLV_true h hgz]
    refine OpC.of_pure3 (x := x) (y := y) (z := z) rfl (by simp) fun md n0 cx H ρ w _ _ v1 v2 v3 => ?_
    refine ⟨.int k (Max.max (Max.max a b) c), ?_, V.mkval⟩
    simp [execOp, resolve, invoke, builtin, v1.val, v2.val, v3.val, run_max3]) ho hg hx hy hz (by simp) h
end
end Go.Proofs.YtnamkhifmankmaaDoor

/- A text as an argument. -/
namespace Go.Proofs.YtnamkhifmankmaaDoor
section
open Go.ChangeShapes Go.WideShapes Go.Deep Go.RowKit Go.ChangeAt
theorem Rd.argStr {H : Type} {enc : TypeId × Value → H} {P : Program} {w : World} {t : TypeId} {base : Nat} (ht : P.underlying t = some .string) {v : Value} {d : DataW H} {p : List MemPlace}
    (hok : Value.okWide P w .any base t v) (hv : DataW.Trod enc P w 0 (fun _ => true) true t v d p) : ∃ l : List UInt8, l.length ≤ maxLen ∧ V (cx0 w) w (.t l) v := by
  obtain ⟨m, rfl⟩ := okWide_string ht hok
  obtain ⟨s, ⟨l, rfl, h1⟩, h2⟩ := (Rd.string (enc := enc) (w := w) ht).arg1 hv rfl
  have : (⟨l.toArray⟩ : ByteArray) = m := by simpa [VS, eq_comm] using h2
  subst this
  exact ⟨l, h1, by simp [V, VS]⟩
end
end Go.Proofs.YtnamkhifmankmaaDoor

/- Tables of a package, interface values of plain values, arrays as values. -/
namespace Go.Proofs.YtnamkhifmankmaaDoor

theorem OpC.of_amb {P : Program} {r : Option Nat} {o : Oper} {lvs : List LV} {rd : List (Nat × LO)} {out : LV} (hnd : ∀ c, o.op ≠ .defer c)
    (h : ∀ (md : Nat → Prop) (n0 : Nat) (cx : Cx) (H : Hp) (ρ : Operand → Value) (w : World), HOk md n0 cx H w → Amb cx.pr w → (∀ o x, hp rd o = some x → H o = some x) → Vs cx w lvs (o.op.operands.toList.map ρ) →
      ∃ v, (execOp ρ o).run P w = .ok (.value v) w ∧ V cx w out v) : OpC P r o lvs rd [] out [] [] := by
  refine ⟨by simp, fun md n0 cx H a w K Q hok ham hrd hHi hnew hv hK => ?_⟩
  obtain ⟨v, h1, h4⟩ := h md n0 cx H a.eval w hok ham hrd hv
  refine ⟨fun _ _ => trivial, ?_⟩
  rw [Oper.semAt_eq _ _ _ hnd, h1]
  exact hK _ _ _ (Tr.idle hok) h4

theorem vs_v (cx : Cx) (w : World) : ∀ l : List Value, Vs cx w (l.map LV.v) l
  | [] => by simp [Vs]
  | v :: l => by simp only [List.map_cons, Vs]; exact ⟨v, l, rfl, V.mkval, vs_v cx w l⟩

section
variable {P : Program} {r : Option Nat} {N : Nat} {D : List Nat} {B : Base} {all : Array Oper} {K : List (Nat × Ct) → St → Prop}
variable {i : Nat} {ops : List Oper} {tr : List (Nat × Ct)} {E : List (Nat × Ent)} {L : List (Nat × LO)} {n : Nat} {g : Bool} {gn : List (Nat × Ent)}
variable {d ty : Nat} {pos : String} {aft : Array Edge} {gd : Option (Nat × Bool)}

/-- the place of an element of an array at a plain place -/
theorem R.gIndex {T len sz : Nat} (hF : IndexAF P T len sz) {x y : Operand} {gx gy : Bool} {b off : Nat} {k : IntKind} {j : Int}
    (ho : all[i]? = some ⟨some d, .indexAddr T x y, ty, pos, aft, gd⟩ := by rfl) (hg : GuardOk (en E) all gd g gn := by first | exact gN | exact gS rfl rfl)
    (hx : lvOf (en E) x = some (gx, .v (.pointer (some ⟨b, off, none⟩))) := by rfl) (hy : lvOf (en E) y = some (gy, .v (.int k j)) := by rfl)
    (hgx : g = true → gx = true := by first | exact fun _ => rfl | exact id) (hgy : g = true → gy = true := by first | exact fun _ => rfl | exact id)
    (hj : g = true → 0 ≤ j ∧ j < len)
    (h : Reg P r N D B all (i + 1) ops ((i, Ct.p gn [x, y] [(gx, .v (.pointer (some ⟨b, off, none⟩))), (gy, .v (.int k j))] (some d) (g, .v (.pointer (some ⟨b, off + j.toNat * sz, none⟩))) []) :: tr) (st ((d, (g, .v (.pointer (some ⟨b, off + j.toNat * sz, none⟩)))) :: E) L n) K) :
    Reg P r N D B all i (⟨some d, .indexAddr T x y, ty, pos, aft, gd⟩ :: ops) tr (st E L n) K :=
  Reg.two rfl (fun h => by
    rw [entLV_true h hgx, entLV_true h hgy]
    refine OpC.of_pure2 (x := x) (y := y) rfl (by simp) fun md n0 cx H ρ w hok hrd v1 v2 => ?_
    obtain ⟨h0, hlt⟩ := hj h
    exact ⟨.pointer (some ⟨b, off + j.toNat * sz, none⟩), by simp only [execOp, v1.val, v2.val]; simp [hF b off k j w h0 hlt], V.mkval⟩) ho hg hx hy (by simp) h

/-- one cell of a package's table -/
theorem R.gLoad1 {T : Nat} (hF : OneF P T) {x : Operand} {gx : Bool} {b off : Nat} {cs : List Value} {v : Value} (hm : (b, cs) ∈ tabs)
    (ho : all[i]? = some ⟨some d, .load T x, ty, pos, aft, gd⟩ := by rfl) (hg : GuardOk (en E) all gd g gn := by first | exact gN | exact gS rfl rfl)
    (hx : lvOf (en E) x = some (gx, .v (.pointer (some ⟨b, off, none⟩))) := by rfl) (hgx : g = true → gx = true := by first | exact fun _ => rfl | exact id) (hc : g = true → cs[off]? = some v)
    (h : Reg P r N D B all (i + 1) ops ((i, Ct.p gn [x] [(gx, .v (.pointer (some ⟨b, off, none⟩)))] (some d) (g, .v v) []) :: tr) (st ((d, (g, .v v)) :: E) L n) K) :
    Reg P r N D B all i (⟨some d, .load T x, ty, pos, aft, gd⟩ :: ops) tr (st E L n) K :=
  Reg.one rfl (fun h => by
    rw [entLV_true h hgx]
    refine OpC.of_amb (by simp) fun md n0 cx H ρ w hok ham _ hv => ?_
    have hop : (Oper.mk (some d) (.load T x) ty pos aft gd).op.operands.toList = [x] := rfl
    rw [hop] at hv
    have e := (Vs.one hv).val
    obtain ⟨_, T', fr, hb⟩ := ham.1 _ hm
    have hcell : w.cell? ⟨b, off, none⟩ = some v := by simp [World.cell?, hb, hc h]
    exact ⟨v, by simp [execOp, e, Instr.loadAt, Instr.sureAddr, loadVar, hF.1 w, hcell], V.mkval⟩) ho hg hx (by simp) h

/-- the whole of a package's table -/
theorem R.gLoadN {T sz : Nat} (hF : AggF P T sz) {x : Operand} {gx : Bool} {b : Nat} {cs : List Value} (hm : (b, cs) ∈ tabs)
    (ho : all[i]? = some ⟨some d, .load T x, ty, pos, aft, gd⟩ := by rfl) (hg : GuardOk (en E) all gd g gn := by first | exact gN | exact gS rfl rfl)
    (hx : lvOf (en E) x = some (gx, .v (.pointer (some ⟨b, 0, none⟩))) := by rfl) (hgx : g = true → gx = true := by first | exact fun _ => rfl | exact id) (hc : cs.length = sz := by rfl)
    (h : Reg P r N D B all (i + 1) ops ((i, Ct.p gn [x] [(gx, .v (.pointer (some ⟨b, 0, none⟩)))] (some d) (g, .agg (cs.map LV.v)) []) :: tr) (st ((d, (g, .agg (cs.map LV.v))) :: E) L n) K) :
    Reg P r N D B all i (⟨some d, .load T x, ty, pos, aft, gd⟩ :: ops) tr (st E L n) K :=
  Reg.one rfl (fun h => by
    rw [entLV_true h hgx]
    refine OpC.of_amb (by simp) fun md n0 cx H ρ w hok ham _ hv => ?_
    have hop : (Oper.mk (some d) (.load T x) ty pos aft gd).op.operands.toList = [x] := rfl
    rw [hop] at hv
    have e := (Vs.one hv).val
    obtain ⟨_, T', fr, hb⟩ := ham.1 _ hm
    refine ⟨.agg cs.toArray, ?_, by simp only [V]; exact ⟨cs, rfl, vs_v cx w cs⟩⟩
    have hl : (loadCells ⟨b, 0, none⟩ cs.length).run P w = .ok cs.toArray w := run_loadCells_list (P := P) w ⟨b, 0, none⟩ cs (fun j v hv => by
      rw [add_off, Nat.zero_add]; simp [World.cell?, hb, hv])
    rw [hc] at hl
    simp [execOp, e, Instr.loadAt, Instr.sureAddr, loadVar, hF.1 w, hF.2 w, hl]) ho hg hx (by simp) h

/-- an element, of several cells, of an array's value of plain cells -/
def IndexVF (P : Program) (T len sz : Nat) : Prop := ∃ e, (∀ w, (underlying T).run P w = .ok (.array len e) w) ∧ (∀ w, (isAgg e).run P w = .ok true w) ∧ (∀ w, (sizeOf e).run P w = .ok sz w)
theorem R.indexVN {T len sz : Nat} (hF : IndexVF P T len sz) {x y : Operand} {gx gy : Bool} {cs : List Value} {k : IntKind} {j : Int}
    (ho : all[i]? = some ⟨some d, .index T x y, ty, pos, aft, gd⟩ := by rfl) (hg : GuardOk (en E) all gd g gn := by first | exact gN | exact gS rfl rfl)
    (hx : lvOf (en E) x = some (gx, .agg (cs.map LV.v)) := by rfl) (hy : lvOf (en E) y = some (gy, .v (.int k j)) := by rfl)
    (hgx : g = true → gx = true := by first | exact fun _ => rfl | exact id) (hgy : g = true → gy = true := by first | exact fun _ => rfl | exact id)
    (hj : g = true → 0 ≤ j ∧ j < len)
    (h : Reg P r N D B all (i + 1) ops ((i, Ct.p gn [x, y] [(gx, .agg (cs.map LV.v)), (gy, .v (.int k j))] (some d) (g, .agg (((cs.drop (j.toNat * sz)).take sz).map LV.v)) []) :: tr) (st ((d, (g, .agg (((cs.drop (j.toNat * sz)).take sz).map LV.v))) :: E) L n) K) :
    Reg P r N D B all i (⟨some d, .index T x y, ty, pos, aft, gd⟩ :: ops) tr (st E L n) K :=
  Reg.two rfl (fun h => by
    rw [entLV_true h hgx, entLV_true h hgy]
    refine OpC.of_pure2 (x := x) (y := y) rfl (by simp) fun md n0 cx H ρ w hok hrd v1 v2 => ?_
    obtain ⟨h0, hlt⟩ := hj h
    obtain ⟨e, hT, he, hs⟩ := hF
    have e1 := V.aggV (cs := cs) rfl v1
    refine ⟨.agg ((cs.drop (j.toNat * sz)).take sz).toArray, ?_, by simp only [V]; exact ⟨_, rfl, vs_v cx w _⟩⟩
    have hx : cs.toArray.extract (j.toNat * sz) (j.toNat * sz + sz) = ((cs.drop (j.toNat * sz)).take sz).toArray := by
      rw [List.extract_toArray, List.extract_eq_take_drop]; congr 2; omega
    simp only [execOp, e1, v2.val]
    simp [Instr.index, asIntOf, hT w, hs w, h0, hlt, part, he w, hx]) ho hg hx hy (by simp) h

/-- a plain value in an interface -/
theorem R.mkI {T : Nat} {x : Operand} {gx : Bool} {a : Value} (hT : ∀ w, (Instr.makeInterface T a).run P w = .ok (.iface T a) w) (ho : all[i]? = some ⟨some d, .makeInterface T x, ty, pos, aft, gd⟩ := by rfl)
    (hg : GuardOk (en E) all gd g gn := by first | exact gN | exact gS rfl rfl)
    (hx : lvOf (en E) x = some (gx, .v a) := by rfl) (hgx : g = true → gx = true := by first | exact fun _ => rfl | exact id)
    (h : Reg P r N D B all (i + 1) ops ((i, Ct.p gn [x] [(gx, .v a)] (some d) (g, .v (.iface T a)) []) :: tr) (st ((d, (g, .v (.iface T a))) :: E) L n) K) :
    Reg P r N D B all i (⟨some d, .makeInterface T x, ty, pos, aft, gd⟩ :: ops) tr (st E L n) K :=
  Reg.one rfl (fun h => by
    rw [entLV_true h hgx]
    refine OpC.of_pure1 (x := x) rfl (by simp) fun md n0 cx H ρ w _ _ hvv => ?_
    have e := hvv.val
    exact ⟨_, by simp [execOp, e, hT w], V.mkval⟩) ho hg hx (by simp) h
/-- is an interface's value of a type, and which one -/
theorem R.tassert {xT T : Nat} {x : Operand} {gx : Bool} {a v : Value} {b : Bool} (hT : ∀ w, (Instr.typeAssert a xT T true).run P w = .ok (.tuple #[v, .bool b]) w) (ho : all[i]? = some ⟨some d, .typeAssert x xT T true, ty, pos, aft, gd⟩ := by rfl)
    (hg : GuardOk (en E) all gd g gn := by first | exact gN | exact gS rfl rfl)
    (hx : lvOf (en E) x = some (gx, .v a) := by rfl) (hgx : g = true → gx = true := by first | exact fun _ => rfl | exact id)
    (h : Reg P r N D B all (i + 1) ops ((i, Ct.p gn [x] [(gx, .v a)] (some d) (g, .tup [.v v, .b b]) []) :: tr) (st ((d, (g, .tup [.v v, .b b])) :: E) L n) K) :
    Reg P r N D B all i (⟨some d, .typeAssert x xT T true, ty, pos, aft, gd⟩ :: ops) tr (st E L n) K :=
  Reg.one rfl (fun h => by
    rw [entLV_true h hgx]
    refine OpC.of_pure1 (x := x) rfl (by simp) fun md n0 cx H ρ w _ _ hvv => ?_
    have e := hvv.val
    exact ⟨.tuple #[v, .bool b], by simp [execOp, e, hT w], by simp only [V, Vs]; exact ⟨[v, .bool b], rfl, _, _, rfl, by simp [VS], _, _, rfl, by simp [VS], rfl⟩⟩) ho hg hx (by simp) h
end
theorem run_tyes {P : Program} {t xT T : Nat} {v : Value} {de : TypeDesc} (hu : ∀ w, (underlying T).run P w = .ok de w) (hn : ∀ ms, de ≠ .interface ms) (ht : t = T) : ∀ w, (Instr.typeAssert (.iface t v) xT T true).run P w = .ok (.tuple #[v, .bool true]) w := fun w => by
  subst ht
  cases de <;> first | exact absurd rfl (hn _) | simp [Instr.typeAssert, hu w]
theorem run_tno {P : Program} {t xT T : Nat} {v z : Value} {de : TypeDesc} (hu : ∀ w, (underlying T).run P w = .ok de w) (hn : ∀ ms, de ≠ .interface ms) (hz : ∀ w, (zeroValue T).run P w = .ok z w) (ht : (t == T) = false) : ∀ w, (Instr.typeAssert (.iface t v) xT T true).run P w = .ok (.tuple #[z, .bool false]) w := fun w => by
  have hne : t ≠ T := by simpa using ht
  cases de <;> first | exact absurd rfl (hn _) | simp [Instr.typeAssert, hu w, hne, hz w]
theorem run_mkI {P : Program} {T : Nat} {v : Value} {de : TypeDesc} (hu : ∀ w, (underlying T).run P w = .ok de w) (hn : ∀ ms, de ≠ .interface ms) : ∀ w, (Instr.makeInterface T v).run P w = .ok (.iface T v) w := fun w => by
  cases de <;> first | exact absurd rfl (hn _) | simp [Instr.makeInterface, hu w]

end Go.Proofs.YtnamkhifmankmaaDoor

/- make: a slice of one's own. -/
namespace Go.Proofs.YtnamkhifmankmaaDoor

section
variable {P : Program} {r : Option Nat} {N : Nat} {D : List Nat} {B : Base} {all : Array Oper} {K : List (Nat × Ct) → St → Prop}
variable {i : Nat} {ops : List Oper} {tr : List (Nat × Ct)} {E : List (Nat × Ent)} {L : List (Nat × LO)} {n : Nat} {g : Bool} {gn : List (Nat × Ent)}
variable {d ty : Nat} {pos : String} {aft : Array Edge} {gd : Option (Nat × Bool)}

theorem makeCells_rep (v : Value) (h : v.cells = #[v]) (m : Nat) : madeCells v.cells m = (List.replicate m v).toArray := by
  rw [h]
  apply Array.ext
  · simp [size_madeCells]
  · intro j h1 h2
    simp [madeCells, Nat.mod_one]

/-- a slice of zeroes, of one's own, with room for more -/
theorem R.makeOwn {t e : Nat} {k : IntKind} (hF : AppF P t e 1) (hz : ((P.info? e).bind fun i => i.zero) = some (.int k 0)) {x y : Operand} {k1 k2 : IntKind} {l c : Int}
    (ho : all[i]? = some ⟨some d, .makeSlice t x y, ty, pos, aft, none⟩ := by rfl)
    (hx : lvOf (en E) x = some (true, .v (.int k1 l)) := by rfl) (hy : lvOf (en E) y = some (true, .v (.int k2 c)) := by rfl) (h0 : 0 ≤ l) (hlc : l ≤ c) (hm : c ≤ 16777216)
    (h : Reg P r N D B all (i + 1) ops ((i, ⟨needOf [x, y] [(true, .v (.int k1 l)), (true, .v (.int k2 c))], some d, (true, .ref n), [], [], [(n, .rs e 1 (ic k (List.replicate l.toNat 0)))], [n]⟩) :: tr) (st ((d, (true, .ref n)) :: E) ((n, .rs e 1 (ic k (List.replicate l.toNat 0))) :: L) (n + 1)) K) :
    Reg P r N D B all i (⟨some d, .makeSlice t x y, ty, pos, aft, none⟩ :: ops) tr (st E L n) K := by
  have hop : (Oper.mk (some d) (.makeSlice t x y) ty pos aft none).op.operands.toList = [x, y] := rfl
  refine Reg.new (es := [(true, .v (.int k1 l)), (true, .v (.int k2 c))]) (rd := []) ho gN ?_ (by simp) (OpC.tellNew (x := .row e 1 ((ic k (List.replicate l.toNat 0)).map (List.map LV.sv))) ?_ (fun cx w hx => ObjOk.row_rs hx)) (by rw [hop]; exact h)
  · rw [hop]; exact ⟨_, _, rfl, hx, _, _, rfl, hy, rfl⟩
  · refine OpC.of_run (by simp) (by simp) fun md n0 cx H ρ w hok _ _ hnew hv => ?_
    rw [hop] at hv
    obtain ⟨v1, v2⟩ := Vs.two hv
    simp only [entLV] at v1 v2
    obtain ⟨hu, inf, z, hi, hzz, hs, hbb, _⟩ := hF.get
    have hz0 : inf.zero = some (.int k 0) := by rw [hi] at hz; simpa using hz
    have hb2 : (inf.bytes : Int) * c ≤ 281474976710656 := by
      have h1 : (inf.bytes : Int) * c ≤ 16777216 * 16777216 := Int.mul_le_mul (by omega) hm (by omega) (by omega)
      omega
    have hrun := run_make w t e inf z hu hi hzz k1 k2 l c h0 hlc hb2 (by omega)
    rw [hz0] at hzz
    cases hzz
    rw [hs, Nat.mul_one, makeCells_rep _ rfl] at hrun
    have hfl : ((ic k (List.replicate l.toNat 0)).map (List.map LV.sv)).flatten = (List.replicate l.toNat (Value.int k 0)).map LV.v := by
      rw [closed_flat, ic_flat]; simp
    have hln : ((ic k (List.replicate l.toNat 0)).map (List.map LV.sv)).length = l.toNat := by simp [ic]
    obtain ⟨cx', t1, hv'⟩ := row_new (T := e) (sz := 1) (w0 := w) (xs := (ic k (List.replicate l.toNat 0)).map (List.map LV.sv)) (vs := List.replicate l.toNat (Value.int k 0)) (cells := (List.replicate c.toNat (Value.int k 0)).toArray) (cap := c.toNat) hok (hnew n (by simp)) ⟨rfl, rfl, rfl, rfl⟩
      (by simp [ic]) (by rw [hfl]; exact vs_v cx w _) (fun u hu => by rw [(List.mem_replicate.1 hu).2]; rfl) (by rw [hln]; omega) (by unfold maxLen; omega) (by simp) (by rw [hln]; simp; omega)
    rw [hln] at hv'
    refine ⟨_, _, _, cx', ?_, .inl rfl, t1, hv'⟩
    simp only [execOp, v1.val, v2.val, Sem.run_bind, hrun]
    simp

end

end Go.Proofs.YtnamkhifmankmaaDoor

/- A call of 'yield' that hangs on a sign; rounds in a row by their states. -/
namespace Go.Proofs.YtnamkhifmankmaaDoor

section
variable {P : Program} {r : Option Nat} {N : Nat} {D : List Nat} {B : Base} {all : Array Oper} {K : List (Nat × Ct) → St → Prop}
variable {i : Nat} {ops : List Oper} {tr : List (Nat × Ct)} {E : List (Nat × Ent)} {L : List (Nat × LO)} {n : Nat} {g : Bool} {gn : List (Nat × Ent)}
variable {d ty : Nat} {pos : String} {aft : Array Edge} {gd : Option (Nat × Bool)}

theorem R.callYldG {y : Nat} {fo : Operand} {args : Array Operand} {ats : Array TypeId} {es : List Ent} {lvs : List LV} {Lc Lc1 : List (Nat × LO)} {b : Bool} (hc : Yld P y lvs Lc b Lc1)
    (ho : all[i]? = some ⟨some d, .call { callee := .value fo, args := args, argTypes := ats }, ty, pos, aft, gd⟩ := by rfl) (hg : GuardOk (en E) all gd g gn := by first | exact gN | exact gS rfl rfl) (hgt : g = true := by rfl)
    (hf : lvOf (en E) fo = some (true, .yld y) := by rfl)
    (hx : args.toList.map (lvOf (en E)) = es.map some := by rfl) (hes : es.map entLV = lvs := by rfl) (hL : ∀ k x, hp Lc k = some x → hp L k = some x)
    (h : Reg P r N D B all (i + 1) ops ((i, ⟨gn ++ needOf (fo :: args.toList) ((true, .yld y) :: es), some d, (true, .b b), [], Lc, Lc1, []⟩) :: tr) (st ((d, (true, .b b)) :: E) (Lc1 ++ L) n) K) :
    Reg P r N D B all i (⟨some d, .call { callee := .value fo, args := args, argTypes := ats }, ty, pos, aft, gd⟩ :: ops) tr (st E L n) K := by
  have hl : (Oper.mk (some d) (.call { callee := .value fo, args := args, argTypes := ats }) ty pos aft gd).op.operands.toList = fo :: args.toList := by simp [Op.operands, Go.Call.operands]
  have hop : Opnds (en E) (fo :: args.toList) ((true, .yld y) :: es) := ⟨_, _, rfl, hf, Opnds.of_map hx⟩
  subst hgt
  refine Reg.cons (c := ⟨gn ++ needOf (fo :: args.toList) ((true, .yld y) :: es), some d, (true, .b b), [], Lc, Lc1, []⟩) (fun hN => ?_) ⟨fun p hp' => by
    rcases List.mem_append.1 hp' with h1 | h1
    · exact hg.need p h1
    · exact hop.need p h1, by simp, hL, by simp⟩ ?_
  · have := CtOk.of_op (r := r) (D := D) (B := B) (o := ⟨some d, .call { callee := .value fo, args := args, argTypes := ats }, ty, pos, aft, gd⟩) (es := (true, .yld y) :: es) (E := en E) (out := .b b) ho hN.dst hg
      (fun _ => by have := OpC.yld (r := r) hc (o := ⟨some d, .call { callee := .value fo, args := args, argTypes := ats }, ty, pos, aft, gd⟩) rfl rfl; rw [← hes] at this; exact this) (by rw [hl]; exact hop) (.inl rfl)
    rw [hl] at this
    simpa using this
  · have : (Ct.app ⟨gn ++ needOf (fo :: args.toList) ((true, .yld y) :: es), some d, (true, .b b), [], Lc, Lc1, []⟩ (st E L n)) = st ((d, (true, .b b)) :: E) (Lc1 ++ L) n := by
      simp only [Ct.app, putE_putL, putL]
      congr 1
      · funext k
        simp only [Hp.upd, hp, lookup_append']
        cases hk : Lc1.lookup k with
        | some x => rfl
        | none =>
          simp only []
          cases hk2 : Lc.lookup k with
          | some x =>
            exfalso
            have h1 : k ∈ Lc1.map (·.1) := by rw [hc.1]; exact List.mem_map.2 ⟨_, lookup_mem' hk2, rfl⟩
            obtain ⟨p, hp', rfl⟩ := List.mem_map.1 h1
            have := lookup_of_nodup (l := Lc1) (by rw [hc.1, hc.2.rng]; exact List.nodup_range) (k := p.1) (v := p.2) hp'
            rw [this] at hk; cases hk
          | none => rfl
      · funext k; simp
    rw [this]; exact h

end

/-- what stands in the head of two lists of objects stands in both -/
theorem hp_app {A B : List (Nat × LO)} {o : Nat} {x : LO} (h : hp A o = some x) : hp (A ++ B) o = some x := by
  simp only [hp, lookup_append'] at h ⊢
  rw [h]
/-- rounds in a row: S j are the objects before round j; C says what all of them hold -/
structure YGo (P : Program) (y m : Nat) (xs : List LV) (C : List (Nat × LO) → Prop) (S : Nat → List (Nat × LO)) : Prop where
  keys : ∀ j, j ≤ xs.length → (S j).map (·.1) = List.range m
  lt : ∀ j, j ≤ xs.length → ∀ p ∈ S j, p.2.lt m = true
  hold : ∀ j, j ≤ xs.length → C (S j)
  step : ∀ j (h : j < xs.length), Yld P y [xs[j]] (S j) true (S (j + 1))
theorem YGo.keep {P : Program} {y m : Nat} {xs : List LV} {C : List (Nat × LO) → Prop} {S : Nat → List (Nat × LO)} (h : YGo P y m xs C S) {j : Nat} (hj : j ≤ xs.length) (L : List (Nat × LO)) : KeepL (hp (S j ++ L)) (S j) :=
  KeepL.app (by rw [h.keys j hj]; exact List.nodup_range)
theorem YGo.self {P : Program} {y m : Nat} {xs : List LV} {C : List (Nat × LO) → Prop} {S : Nat → List (Nat × LO)} (h : YGo P y m xs C S) {j : Nat} (hj : j ≤ xs.length) : KeepL (hp (S j)) (S j) :=
  KeepL.of fun p hp' => lookup_of_nodup (by rw [h.keys j hj]; exact List.nodup_range) hp'
theorem YGo.at_ {P : Program} {y m : Nat} {xs : List LV} {C : List (Nat × LO) → Prop} {S : Nat → List (Nat × LO)} (h : YGo P y m xs C S) {j : Nat} {x : LV} (hx : xs[j]? = some x) : Yld P y [x] (S j) true (S (j + 1)) := by
  have hj := (List.getElem?_eq_some_iff.1 hx)
  have := h.step j hj.1
  rw [hj.2] at this
  exact this
theorem YGo.all {P : Program} {y m : Nat} {xs : List LV} {C : List (Nat × LO) → Prop} {S : Nat → List (Nat × LO)} (h : YGo P y m xs C S) {j : Nat} (hj : j ≤ xs.length) : ((S j).all fun p => decide (p.1 < m) && p.2.lt m) = true := by
  rw [List.all_eq_true]
  intro p hp'
  have h1 : p.1 ∈ (S j).map (·.1) := List.mem_map.2 ⟨p, hp', rfl⟩
  rw [h.keys j hj, List.mem_range] at h1
  simp [h1, h.lt j hj p hp']
end Go.Proofs.YtnamkhifmankmaaDoor

/- A struct out of some of its fields, of one cell each; other fields may be larger. -/
namespace Go.Proofs.YtnamkhifmankmaaDoor

def BuildG (P : Program) (t : Nat) (zs : List Value) (offs : List (Nat × Nat)) : Prop := (∀ w, (zeroValue t).run P w = .ok (.agg zs.toArray) w) ∧ ∃ fields, (∀ w, (underlying t).run P w = .ok (.struct fields) w) ∧
  ∀ w, (fields.mapM fun (f : Field) => (do pure (f.offset, ← sizeOf f.type) : Sem (Nat × Nat))).run P w = .ok offs.toArray w

theorem fill_offs {offs : List (Nat × Nat)} {m : Nat} : ∀ (ps : List (Nat × Value)) (ks : List Nat) (C : Array Value), C.size = m → ps.map (fun p => offs[p.1]?) = ks.map (fun k => some (k, 1)) → (∀ p ∈ ps, p.2.oneCell' = true) → (∀ k ∈ ks, k < m) →
    Instr.fill (offs.toArray[·]?) C ps = some ((ks.zip (ps.map (·.2))).foldl (fun (C : List Value) p => C.set p.1 p.2) C.toList).toArray
  | [], ks, C, _, h, _, _ => by cases ks with
    | nil => simp [Instr.fill]
    | cons k ks => simp at h
  | (j, v) :: ps, [], C, _, h, _, _ => by simp at h
  | (j, v) :: ps, k :: ks, C, hC, h, h1, h2 => by
    simp only [List.map_cons, List.cons.injEq] at h
    have hv := cells_one (h1 (j, v) (by simp))
    have hk := h2 k (by simp)
    have ih := fill_offs ps ks (C.setIfInBounds k v) (by simpa using hC) h.2 (fun p hp' => h1 p (List.mem_cons_of_mem _ hp')) (fun p hp' => h2 p (List.mem_cons_of_mem _ hp'))
    simp only [Instr.fill]
    have e1 : offs.toArray[j]? = some (k, 1) := by simpa using h.1
    rw [e1]
    simp only [hv]
    have e2 : ¬ (k + 1 > C.size) := by omega
    rw [if_neg (by simpa using e2)]
    have e3 : Array.foldl (fun (cs : Array Value) (x : Value × Nat) => cs.setIfInBounds (k + x.2) x.1) C (#[v].zipIdx) = C.setIfInBounds k v := by
      rw [← Array.foldl_toList, Array.toList_zipIdx]; rfl
    have ih2 := ih.trans (show _ = some (List.foldl (fun (C : List Value) p => C.set p.1 p.2) C.toList ((k :: ks).zip (((j, v) :: ps).map (·.2)))).toArray by simp)
    rw [← ih2, ← e3]

section
variable {P : Program} {r : Option Nat} {N : Nat} {D : List Nat} {B : Base} {all : Array Oper} {K : List (Nat × Ct) → St → Prop}
variable {i : Nat} {ops : List Oper} {tr : List (Nat × Ct)} {E : List (Nat × Ent)} {L : List (Nat × LO)} {n : Nat} {g : Bool} {gn : List (Nat × Ent)}
variable {d ty : Nat} {pos : String} {aft : Array Edge} {gd : Option (Nat × Bool)}

theorem R.buildG {t : Nat} {zs : List Value} {offs : List (Nat × Nat)} (hF : BuildG P t zs offs) {parts : Array (Nat × Operand)} {is ks : List Nat} {xs : List Operand} {es : List Ent} {ls cs : List LV}
    (ho : all[i]? = some ⟨some d, .build t parts, ty, pos, aft, gd⟩ := by rfl) (hg : GuardOk (en E) all gd g gn := by first | exact gN | exact gS rfl rfl) (hp' : parts.toList = is.zip xs := by rfl) (hil : is.length = xs.length := by rfl) (hk : is.map (fun i => offs[i]?) = ks.map (fun k => some (k, 1)) := by rfl) (hlt : (ks.all fun k => decide (k < zs.length)) = true := by rfl)
    (hx : xs.map (lvOf (en E)) = es.map some := by rfl) (hes : g = true → es.map entLV = ls := by first | exact fun _ => rfl | (intro h; simp [entLV, h]; done) | (intro h; simp only [List.map_cons, List.map_nil, entLV_eq h]; first | done | rfl)) (h1 : ls.all LV.one = true := by rfl) (hcs : bcells zs ks ls = cs := by rfl)
    (h : Reg P r N D B all (i + 1) ops ((i, Ct.p gn xs es (some d) (g, .agg cs) []) :: tr) (st ((d, (g, .agg cs)) :: E) L n) K) :
    Reg P r N D B all i (⟨some d, .build t parts, ty, pos, aft, gd⟩ :: ops) tr (st E L n) K := by
  have hop : (Oper.mk (some d) (.build t parts) ty pos aft gd).op.operands.toList = xs := by
    show (parts.toList.map (·.2)).toArray.toList = xs
    rw [hp']
    simp only [List.toList_toArray]
    exact List.map_snd_zip (by omega)
  refine Reg.pure (es := es) (rd := []) (out := .agg cs) ho hg ?_ (by simp) (fun hgt => ?_) ?_
  · rw [hop]; exact Opnds.of_map hx
  · rw [hes hgt]
    refine OpC.of_pure (by simp) fun md n0 cx H ρ w _ _ hv => ?_
    rw [hop] at hv
    obtain ⟨hz, fields, hu, hm⟩ := hF
    have hones := Vs.ones h1 hv
    have hpl : (parts.map fun (x : Nat × Operand) => (x.1, ρ x.2)).toList = is.zip (xs.map ρ) := by
      rw [Array.toList_map, hp', List.zip_map_right]
      rfl
    have hsn : (is.zip (xs.map ρ)).map (·.2) = xs.map ρ := List.map_snd_zip (by rw [List.length_map]; omega)
    have hfs : (is.zip (xs.map ρ)).map (·.1) = is := List.map_fst_zip (by rw [List.length_map]; omega)
    have hmp : (is.zip (xs.map ρ)).map (fun p => offs[p.1]?) = ks.map (fun k => some (k, 1)) := by
      rw [← hk, show (fun p : Nat × Value => offs[p.1]?) = (fun i => offs[i]?) ∘ Prod.fst from rfl, ← List.map_map, show (is.zip (xs.map ρ)).map Prod.fst = is from hfs]
    have hfill := fill_offs (offs := offs) (m := zs.length) (is.zip (xs.map ρ)) ks zs.toArray (by simp) hmp (fun p hpm => hones _ (List.of_mem_zip hpm).2) (fun k hk' => by simpa using List.all_eq_true.1 hlt k hk')
    rw [hsn] at hfill
    refine ⟨.agg ((ks.zip (xs.map ρ)).foldl (fun (C : List Value) p => C.set p.1 p.2) zs).toArray, ?_, ?_⟩
    · simp only [execOp, Instr.build, Sem.run_bind, hz w, hu w, Result.andThen_ok, hm w, Value.cells]
      have : (parts.map fun (i, x) => (i, ρ x)).toList = is.zip (xs.map ρ) := hpl
      rw [this]
      simp only [List.toList_toArray] at hfill
      rw [hfill]
      simp
    · rw [← hcs]
      simp only [V]
      refine ⟨_, rfl, bcells_ok ks ls _ _ _ ?_ hv⟩
      exact vs_map_val cx w zs
  · rw [hop]; exact h
end

end Go.Proofs.YtnamkhifmankmaaDoor

/- Structs within structs: parts of boxes, what is read of them. -/
namespace Go.Proofs.YtnamkhifmankmaaDoor

section
variable {P : Program} {r : Option Nat} {N : Nat} {D : List Nat} {B : Base} {all : Array Oper} {K : List (Nat × Ct) → St → Prop}
variable {i : Nat} {ops : List Oper} {tr : List (Nat × Ct)} {E : List (Nat × Ent)} {L : List (Nat × LO)} {n : Nat} {g : Bool} {gn : List (Nat × Ent)}
variable {d ty : Nat} {pos : String} {aft : Array Edge} {gd : Option (Nat × Bool)}

/-- a part of a box -/
theorem R.loadP {T TB sz : Nat} (hF : AggF P T sz) {x : Operand} {gx : Bool} {o off : Nat} {cs ds : List LV}
    (ho : all[i]? = some ⟨some d, .load T x, ty, pos, aft, gd⟩ := by rfl) (hg : GuardOk (en E) all gd g gn := by first | exact gN | exact gS rfl rfl)
    (hx : lvOf (en E) x = some (gx, .ptr o off) := by rfl) (hgx : g = true → gx = true := by first | exact fun _ => rfl | exact id) (hb : hp L o = some (.box TB cs) := by rfl) (hc : (cs.drop off).take sz = ds := by rfl) (hl : ds.length = sz := by rfl)
    (h : Reg P r N D B all (i + 1) ops ((i, Ct.p gn [x] [(gx, .ptr o off)] (some d) (g, .agg ds) [(o, .box TB cs)]) :: tr) (st ((d, (g, .agg ds)) :: E) L n) K) :
    Reg P r N D B all i (⟨some d, .load T x, ty, pos, aft, gd⟩ :: ops) tr (st E L n) K :=
  Reg.one rfl (fun h => by
    rw [entLV_true h hgx]
    refine OpC.of_pure1 (x := x) rfl (by simp) fun md n0 cx H ρ w hok hrd hvv => ?_
    simp only [V] at hvv
    obtain ⟨hA, b, hbk, he⟩ := hvv
    obtain ⟨b', vs, k1, k2, k3⟩ := (hok.ok o _ (hrd o (.box TB cs) (by simp))).2
    rw [k1] at hbk
    simp only [bk, Option.some.injEq] at hbk
    subst hbk
    have k4 := (Vs.splits sz _ _ (Vs.splits off _ _ k3).2).1
    rw [hc] at k4
    refine ⟨.agg ((vs.drop off).take sz).toArray, ?_, by simp only [V]; exact ⟨_, rfl, k4⟩⟩
    have hlen := k4.length
    rw [hl] at hlen
    have hl2 : (loadCells ⟨b', off, none⟩ ((vs.drop off).take sz).length).run P w = .ok ((vs.drop off).take sz).toArray w := run_loadCells_list (P := P) w ⟨b', off, none⟩ _ (fun j v hv => by
      rw [add_off]
      have : vs[off + j]? = some v := by
        rw [List.getElem?_take] at hv
        split at hv
        · rw [List.getElem?_drop] at hv; exact hv
        · cases hv
      simp [World.cell?, k2, this])
    rw [hlen] at hl2
    simp [execOp, he, Instr.loadAt, Instr.sureAddr, loadVar, hF.1 w, hF.2 w, hl2]) ho hg hx (fun k y hy => by
      simp only [hp, List.lookup_cons] at hy
      split at hy
      · rename_i hh; simp at hh; cases hy; subst hh; exact hb
      · simp at hy) h
end

section
open Go.ChangeShapes Go.WideShapes Go.Deep Go.RowKit Go.ChangeAt
variable {H : Type} {enc : TypeId × Value → H} {P : Program} {w : World}

def offsB (P : Program) : List Field → Nat → Option Nat
  | [], k => some k
  | f :: fs, k => if f.offset = k then offsB P fs (k + P.cellsOf f.type) else none
/-- closed cells, and what they hold, one by one -/
def Rl (w : World) (ss : List SV) (cs : List Value) : Prop := ss.length = cs.length ∧ ∀ (j : Nat) (s : SV) (v : Value), ss[j]? = some s → cs[j]? = some v → VS (cellsAt w) w s v ∧ v.oneCell' = true
theorem Rl.app {a a' : List SV} {b b' : List Value} (h : Rl w a b) (h' : Rl w a' b') : Rl w (a ++ a') (b ++ b') := by
  refine ⟨by simp [h.1, h'.1], fun j s v hs hv => ?_⟩
  rcases Nat.lt_or_ge j a.length with hj | hj
  · rw [List.getElem?_append_left hj] at hs
    rw [List.getElem?_append_left (by rw [← h.1]; exact hj)] at hv
    exact h.2 j s v hs hv
  · rw [List.getElem?_append_right hj] at hs
    rw [List.getElem?_append_right (by rw [← h.1]; exact hj), ← h.1] at hv
    exact h'.2 _ s v hs hv
theorem parts_of {S : Nat → List SV → Prop} {cs : List Value} : ∀ (l : List Field) (j k e : Nat), offsB P l k = some e → (∀ i f, l[i]? = some f → ∃ ss, S (j + i) ss ∧ Rl w ss ((cs.drop f.offset).take (P.cellsOf f.type))) →
    k ≤ e ∧ ∃ parts : List (List SV), parts.length = l.length ∧ (∀ i p, parts[i]? = some p → S (j + i) p) ∧ Rl w parts.flatten ((cs.drop k).take (e - k))
  | [], j, k, e, h, _ => by
    simp only [offsB, Option.some.injEq] at h
    subst h
    exact ⟨Nat.le_refl _, [], rfl, by simp, by simp [Rl]⟩
  | f :: l, j, k, e, h, hf => by
    simp only [offsB] at h
    split at h
    · rename_i hk
      obtain ⟨h1, parts, h2, h3, h4⟩ := parts_of l (j + 1) _ e h (fun i f hi => by
        obtain ⟨ss, hs, hr⟩ := hf (i + 1) f (by simpa using hi)
        exact ⟨ss, by rw [show j + 1 + i = j + (i + 1) from by omega]; exact hs, hr⟩)
      obtain ⟨ss, hs, hr⟩ := hf 0 f rfl
      refine ⟨by omega, ss :: parts, by simp [h2], fun i p hp' => ?_, ?_⟩
      · cases i with
        | zero => simp at hp'; subst hp'; exact hs
        | succ i => have := h3 i p (by simpa using hp'); rwa [show j + 1 + i = j + (i + 1) from by omega] at this
      · rw [hk] at hr
        have := hr.app h4
        rw [List.flatten_cons]
        have e1 : (cs.drop k).take (e - k) = (cs.drop k).take (P.cellsOf f.type) ++ (cs.drop (k + P.cellsOf f.type)).take (e - (k + P.cellsOf f.type)) := by
          rw [← List.drop_drop, show e - k = P.cellsOf f.type + (e - (k + P.cellsOf f.type)) from by omega, List.take_add]
        rw [e1]
        exact this
    · cases h
theorem Rd.struct2 {t : TypeId} {fs : Array Field} {S : Nat → List SV → Prop} (ht : P.underlying t = some (.struct fs)) (hoff : offsB P fs.toList 0 = some (P.cellsOf t))
    (hF : ∀ j f, fs[j]? = some f → Rd enc P w f.type (S j)) : Rd enc P w t (fun ss => ∃ parts : List (List SV), parts.length = fs.size ∧ ss = parts.flatten ∧ ∀ j p, parts[j]? = some p → S j p) := fun n cs x hx => by
  obtain ⟨ys, m, _, _, hlen, hyl, hf⟩ := DataW.trod_struct ht hx
  obtain ⟨_, parts, h1, h2, h3⟩ := parts_of (w := w) (S := S) (cs := cs) fs.toList 0 0 _ hoff (fun i f hi => by
    have hfi : fs[i]? = some f := by simpa using hi
    have hil : i < fs.size := (Array.getElem?_eq_some_iff.1 hfi).1
    have h1 := hf i f hfi
    rw [List.getElem?_eq_getElem (by omega)] at h1
    obtain ⟨ss, hs, hl, hv⟩ := hF i f hfi m _ _ h1
    exact ⟨ss, by rw [Nat.zero_add]; exact hs, hl, hv⟩)
  rw [List.drop_zero, Nat.sub_zero, ← hlen, List.take_length] at h3
  exact ⟨parts.flatten, ⟨parts, by simpa using h1, rfl, fun j p hp' => by have := h2 j p hp'; rwa [Nat.zero_add] at this⟩, h3.1, h3.2⟩
end

end Go.Proofs.YtnamkhifmankmaaDoor

/- Rounds in a row by their states, any number of values a round. -/
namespace Go.Proofs.YtnamkhifmankmaaDoor

structure YG (P : Program) (y m : Nat) (xs : List (List LV)) (S : Nat → List (Nat × LO)) : Prop where
  keys : ∀ j, j ≤ xs.length → (S j).map (·.1) = List.range m
  lt : ∀ j, j ≤ xs.length → ∀ p ∈ S j, p.2.lt m = true
  step : ∀ j (h : j < xs.length), Yld P y xs[j] (S j) true (S (j + 1))
theorem YG.keep {P : Program} {y m : Nat} {xs : List (List LV)} {S : Nat → List (Nat × LO)} (h : YG P y m xs S) {j : Nat} (hj : j ≤ xs.length) (L : List (Nat × LO)) : KeepL (hp (S j ++ L)) (S j) :=
  KeepL.app (by rw [h.keys j hj]; exact List.nodup_range)
theorem YG.at_ {P : Program} {y m : Nat} {xs : List (List LV)} {S : Nat → List (Nat × LO)} (h : YG P y m xs S) {j : Nat} {x : List LV} (hx : xs[j]? = some x) : Yld P y x (S j) true (S (j + 1)) := by
  have hj := (List.getElem?_eq_some_iff.1 hx)
  have := h.step j hj.1
  rw [hj.2] at this
  exact this
end Go.Proofs.YtnamkhifmankmaaDoor

/- Values of which only a part is told. -/
namespace Go.Proofs.YtnamkhifmankmaaDoor
section
variable {P : Program} {r : Option Nat} {N : Nat} {D : List Nat} {B : Base} {all : Array Oper} {K : List (Nat × Ct) → St → Prop}
variable {i : Nat} {ops : List Oper} {tr : List (Nat × Ct)} {E : List (Nat × Ent)} {L : List (Nat × LO)} {n : Nat} {g : Bool} {gn : List (Nat × Ent)}
variable {d ty : Nat} {pos : String} {aft : Array Edge} {gd : Option (Nat × Bool)}
theorem R.binPv {op : BinOp} {t yt : Nat} {x y : Operand} {gx gy : Bool} {p : Value → Prop} {b v : Value} (hv : ∀ a, p a → ∀ w, (do eqGuard op t x y a b; binOp op t a b : Sem Value).run P w = .ok v w)
    (ho : all[i]? = some ⟨some d, .binOp op t x y yt, ty, pos, aft, gd⟩ := by rfl) (hg : GuardOk (en E) all gd g gn := by first | exact gN | exact gS rfl rfl)
    (hx : lvOf (en E) x = some (gx, .pv p) := by rfl) (hy : lvOf (en E) y = some (gy, .v b) := by rfl)
    (hgx : g = true → gx = true := by first | exact fun _ => rfl | exact id) (hgy : g = true → gy = true := by first | exact fun _ => rfl | exact id)
    (h : Reg P r N D B all (i + 1) ops ((i, Ct.p gn [x, y] [(gx, .pv p), (gy, .v b)] (some d) (g, .v v) []) :: tr) (st ((d, (g, .v v)) :: E) L n) K) :
    Reg P r N D B all i (⟨some d, .binOp op t x y yt, ty, pos, aft, gd⟩ :: ops) tr (st E L n) K :=
  Reg.two rfl (fun h => by
    rw [entLV_true h hgx, entLV_true h hgy]
    refine OpC.of_pure2 (x := x) (y := y) rfl (by simp) fun md n0 cx H ρ w _ _ v1 v2 => ?_
    have e1 : p (ρ x) := (by simpa only [V] using v1 : p (ρ x) ∧ _).1
    refine ⟨v, ?_, V.mkval⟩
    have := hv _ e1 w
    rw [← v2.val] at this
    simp only [execOp]
    rw [Sem.run_bind, this]
    rfl) ho hg hx hy (by simp) h
/-- minus -/
theorem R.neg {t : Nat} {x : Operand} {gx : Bool} {k : IntKind} {a : Int} (ho : all[i]? = some ⟨some d, .unOp .neg t x, ty, pos, aft, gd⟩ := by rfl)
    (hg : GuardOk (en E) all gd g gn := by first | exact gN | exact gS rfl rfl)
    (hx : lvOf (en E) x = some (gx, .v (.int k a)) := by rfl) (hgx : g = true → gx = true := by first | exact fun _ => rfl | exact id)
    (h : Reg P r N D B all (i + 1) ops ((i, Ct.p gn [x] [(gx, .v (.int k a))] (some d) (g, .v (.int k (k.wrap (-a)))) []) :: tr) (st ((d, (g, .v (.int k (k.wrap (-a))))) :: E) L n) K) :
    Reg P r N D B all i (⟨some d, .unOp .neg t x, ty, pos, aft, gd⟩ :: ops) tr (st E L n) K :=
  Reg.one rfl (fun h => by
    rw [entLV_true h hgx]
    refine OpC.of_pure1 (x := x) rfl (by simp) fun md n0 cx H ρ w _ _ hv => ?_
    have e := hv.val
    exact ⟨.int k (k.wrap (-a)), by simp [execOp, Op.unary, Op.intArith, e], V.mkval⟩) ho hg hx (by simp) h
theorem run_quoT (t : Nat) (x y : Operand) (k : IntKind) (a b : Int) (hb : b ≠ 0) (hw : k.wrap (Int.tdiv a b) = Int.tdiv a b) : ∀ w, (do eqGuard .quo t x y (.int k a) (.int k b); binOp .quo t (.int k a) (.int k b) : Sem Value).run P w = .ok (.int k (Int.tdiv a b)) w :=
  binI .quo rfl t x y k a b fun w => by simp [binOp, Op.intDiv, hb, hw]
theorem run_remT (t : Nat) (x y : Operand) (k : IntKind) (a b : Int) (hb : b ≠ 0) : ∀ w, (do eqGuard .rem t x y (.int k a) (.int k b); binOp .rem t (.int k a) (.int k b) : Sem Value).run P w = .ok (.int k (Int.tmod a b)) w :=
  binI .rem rfl t x y k a b fun w => by simp [binOp, Op.intDiv, hb]
end
theorem VPv {cx : Cx} {w : World} {p : Value → Prop} {v : Value} (h : p v) (h1 : v.oneCell' = true) : V cx w (.pv p) v := by simp only [V]; exact ⟨h, h1⟩
/-- a value of an interface that is not nil -/
def ifc (x : Value) : Prop := ∃ t p, x = .iface t p
theorem run_eqII {P : Program} (d : Nat) {t : Nat} {ms : Array (String × TypeId)} (ht : P.underlying t = some (.interface ms)) (w : World) : (Op.equalIn (d + 1) t .nilIface .nilIface).run P w = .ok true w := by
  simp [Op.equalIn, run_underlying ht]
theorem run_eqIJ {P : Program} (d : Nat) {t u : Nat} {p : Value} {ms : Array (String × TypeId)} (ht : P.underlying t = some (.interface ms)) (w : World) : (Op.equalIn (d + 1) t (.iface u p) .nilIface).run P w = .ok false w := by
  simp [Op.equalIn, run_underlying ht]
theorem run_neNil {P : Program} {t : Nat} {ms : Array (String × TypeId)} (ht : P.underlying t = some (.interface ms)) (x : Operand) : ∀ w, (do eqGuard .neq t x (.const .nilIface) .nilIface .nilIface; binOp .neq t .nilIface .nilIface : Sem Value).run P w = .ok (.bool false) w := fun w => by
  have h : (Op.equal t .nilIface .nilIface).run P w = .ok true w := run_eqII 9999 ht w
  simp [binOp, eqGuard, h]
theorem run_neIfc {P : Program} {t : Nat} {ms : Array (String × TypeId)} (ht : P.underlying t = some (.interface ms)) (x : Operand) : ∀ a, ifc a → ∀ w, (do eqGuard .neq t x (.const .nilIface) a .nilIface; binOp .neq t a .nilIface : Sem Value).run P w = .ok (.bool true) w := fun a ⟨u, p, h⟩ w => by
  subst h
  have h : (Op.equal t (.iface u p) .nilIface).run P w = .ok false w := run_eqIJ 9999 ht w
  simp [binOp, eqGuard, h]
end Go.Proofs.YtnamkhifmankmaaDoor

/- An element of one cell of an array's value. -/
namespace Go.Proofs.YtnamkhifmankmaaDoor
def IndexV1F (P : Program) (T len : Nat) : Prop := ∃ e, (∀ w, (underlying T).run P w = .ok (.array len e) w) ∧ (∀ w, (isAgg e).run P w = .ok false w) ∧ (∀ w, (sizeOf e).run P w = .ok 1 w)
section
variable {P : Program} {r : Option Nat} {N : Nat} {D : List Nat} {B : Base} {all : Array Oper} {K : List (Nat × Ct) → St → Prop}
variable {i : Nat} {ops : List Oper} {tr : List (Nat × Ct)} {E : List (Nat × Ent)} {L : List (Nat × LO)} {n : Nat} {g : Bool} {gn : List (Nat × Ent)}
variable {d ty : Nat} {pos : String} {aft : Array Edge} {gd : Option (Nat × Bool)}
theorem R.indexV1 {T len : Nat} (hF : IndexV1F P T len) {x y : Operand} {gx gy : Bool} {cs : List Value} {k : IntKind} {j : Int} {v : Value}
    (ho : all[i]? = some ⟨some d, .index T x y, ty, pos, aft, gd⟩ := by rfl) (hg : GuardOk (en E) all gd g gn := by first | exact gN | exact gS rfl rfl)
    (hx : lvOf (en E) x = some (gx, .agg (cs.map LV.v)) := by rfl) (hy : lvOf (en E) y = some (gy, .v (.int k j)) := by rfl)
    (hgx : g = true → gx = true := by first | exact fun _ => rfl | exact id) (hgy : g = true → gy = true := by first | exact fun _ => rfl | exact id)
    (hj : g = true → 0 ≤ j ∧ j < len ∧ cs[j.toNat]? = some v)
    (h : Reg P r N D B all (i + 1) ops ((i, Ct.p gn [x, y] [(gx, .agg (cs.map LV.v)), (gy, .v (.int k j))] (some d) (g, .v v) []) :: tr) (st ((d, (g, .v v)) :: E) L n) K) :
    Reg P r N D B all i (⟨some d, .index T x y, ty, pos, aft, gd⟩ :: ops) tr (st E L n) K :=
  Reg.two rfl (fun h => by
    rw [entLV_true h hgx, entLV_true h hgy]
    refine OpC.of_pure2 (x := x) (y := y) rfl (by simp) fun md n0 cx H ρ w hok hrd v1 v2 => ?_
    obtain ⟨h0, hlt, hv⟩ := hj h
    obtain ⟨e, hT, he, hs⟩ := hF
    have e1 := V.aggV (cs := cs) rfl v1
    refine ⟨v, ?_, V.mkval⟩
    have hx : cs.toArray[j.toNat]? = some v := by simpa using hv
    simp only [execOp, e1, v2.val]
    simp [Instr.index, asIntOf, hT w, hs w, h0, hlt, part, he w, hv]) ho hg hx hy (by simp) h
end
end Go.Proofs.YtnamkhifmankmaaDoor

/- An aggregate is stored into a part of a box. -/
namespace Go.Proofs.YtnamkhifmankmaaDoor
theorem run_storeAtP (P : Program) (g off : Nat) (t : TypeId) : ∀ (vs : List Value) (i : Nat) (pre mid post : List Value) (w : World), w.heap[g]? = some (.cells (pre ++ (mid ++ post)).toArray t (0, 0)) → pre.length = off + i → mid.length = vs.length → (∀ v ∈ vs, v.oneCell' = true) →
    ∃ w', (storeCells ⟨g, off, none⟩ vs i).run P w = .ok () w' ∧ w'.heap[g]? = some (.cells (pre ++ (vs ++ post)).toArray t (0, 0)) ∧ (∀ k, k ≠ g → w'.heap[k]? = w.heap[k]?) ∧ w'.heap.size = w.heap.size ∧ w'.os = w.os ∧ w'.tape = w.tape ∧ w'.output = w.output
  | [], i, pre, mid, post, w, hg, _, hm, _ => by
    have : mid = [] := List.eq_nil_of_length_eq_zero (by simpa using hm)
    subst this
    exact ⟨w, by simp [storeCells], by simpa using hg, fun _ _ => rfl, rfl, rfl, rfl, rfl⟩
  | v :: vs, i, pre, mid, post, w, hg, hp, hm, h1 => by
    obtain ⟨m, mid', rfl⟩ : ∃ m mid', mid = m :: mid' := by
      cases mid with
      | nil => simp at hm
      | cons m mid' => exact ⟨m, mid', rfl⟩
    have hone := h1 v (by simp)
    have hcell : w.cell? ⟨g, off + i, none⟩ = some m := by
      rw [← hp]
      simp [World.cell?, hg]
    have hfr : w.frozen? ⟨g, off + i, none⟩ = false := by simp [World.frozen?, hg]
    have hst := run_store P w ⟨g, off + i, none⟩ v .plain hone
    rw [hcell] at hst
    simp only [hfr, Bool.false_eq_true, if_false] at hst
    have hw' : (w.setCell ⟨g, off + i, none⟩ v).heap[g]? = some (.cells ((pre ++ [v]) ++ (mid' ++ post)).toArray t (0, 0)) := by
      simp only [World.setCell, Array.getElem?_modify, if_true, hg, Option.map_some]
      rw [← hp]
      simp
    obtain ⟨w2, k1, k2, k3, k4, k5⟩ := run_storeAtP P g off t vs (i + 1) (pre ++ [v]) mid' post (w.setCell ⟨g, off + i, none⟩ v) hw' (by simp [hp]; omega) (by simpa using hm) (fun u hu => h1 u (by simp [hu]))
    refine ⟨w2, ?_, by rw [k2]; simp, fun k hk => ?_, ?_, ?_⟩
    · simp only [storeCells, Sem.run_bind, add_off, hst, Result.andThen_ok, k1]
    · rw [k3 k hk]; simp only [World.setCell, Array.getElem?_modify, if_neg (Ne.symm hk)]
    · rw [k4]; simp [World.setCell]
    · obtain ⟨a, b, c⟩ := k5; exact ⟨by rw [a]; rfl, by rw [b]; rfl, by rw [c]; rfl⟩
section
variable {P : Program} {r : Option Nat} {N : Nat} {D : List Nat} {B : Base} {all : Array Oper} {K : List (Nat × Ct) → St → Prop}
variable {i : Nat} {ops : List Oper} {tr : List (Nat × Ct)} {E : List (Nat × Ent)} {L : List (Nat × LO)} {n : Nat} {g : Bool} {gn : List (Nat × Ent)}
variable {d ty : Nat} {pos : String} {aft : Array Edge} {gd : Option (Nat × Bool)}
theorem R.storeP {T TB sz : Nat} (hF : AggF P T sz) {x y : Operand} {o off : Nat} {cs ds es : List LV}
    (ho : all[i]? = some ⟨none, .store T x y, ty, pos, aft, none⟩ := by rfl)
    (hx : lvOf (en E) x = some (true, .ptr o off) := by rfl) (hy : lvOf (en E) y = some (true, .agg ds) := by rfl) (h1 : ds.all LV.one = true := by rfl) (hb : hp L o = some (.box TB cs) := by rfl) (hlt : off + sz ≤ cs.length := by exact Nat.le_of_ble_eq_true rfl) (hlt' : ds.length = sz := by rfl)
    (hes : cs.take off ++ (ds ++ cs.drop (off + sz)) = es := by rfl)
    (h : Reg P r N D B all (i + 1) ops ((i, ⟨needOf [x, y] [(true, .ptr o off), (true, .agg ds)], none, (true, .v undef), [], [(o, .box TB cs)], [(o, .box TB es)], []⟩) :: tr) (st E ((o, .box TB es) :: L) n) K) :
    Reg P r N D B all i (⟨none, .store T x y, ty, pos, aft, none⟩ :: ops) tr (st E L n) K :=
  Reg.set (es := [(true, .ptr o off), (true, .agg ds)]) (rd := []) ho gN ⟨_, _, rfl, hx, _, _, rfl, hy, rfl⟩ (by simp) hb (OpC.of_run (by simp) (by simp) fun md n0 cx H ρ w hok _ hHi _ hv => by
    obtain ⟨v1, v2⟩ := Vs.two hv
    simp only [entLV] at v1 v2
    have hob := hHi o (.box TB cs) (by simp)
    obtain ⟨hA, b', vs, k1, k2, k3⟩ := hok.ok o _ hob
    simp only [V] at v1 v2
    obtain ⟨_, b, hbk, he⟩ := v1
    obtain ⟨us, hu, hus⟩ := v2
    have hbk' := hbk
    rw [k1] at hbk
    simp only [bk, Option.some.injEq] at hbk
    subst hbk
    have hul : us.length = sz := hus.length.trans hlt'
    have hvl : vs.length = cs.length := k3.length
    have hsplit : vs = vs.take off ++ ((vs.drop off).take sz ++ vs.drop (off + sz)) := by
      rw [← List.drop_drop, List.take_append_drop, List.take_append_drop]
    rw [hsplit] at k2
    obtain ⟨w', q1, q2, q3, q4, q5, q6, q7⟩ := run_storeAtP P b' off TB us 0 (vs.take off) ((vs.drop off).take sz) (vs.drop (off + sz)) w k2 (by rw [List.length_take]; omega) (by rw [List.length_take, List.length_drop]; omega) (Vs.ones h1 hus)
    refine ⟨.skip, undef, w', cx, ?_, .inr ⟨rfl, rfl⟩, Tr.set hok hob hbk' ⟨q5, q6, q7⟩ q4 q3 (fun hext => ?_), V.mkval⟩
    · simp [execOp, he, hu, Instr.storeAt, Instr.sureAddr, storeVar, Value.cells, hF.2 w, hul, q1]
    · refine ⟨b', _, k1, q2, ?_⟩
      rw [← hes]
      have hsp := Vs.splits off _ _ k3
      have hsp2 := Vs.splits (off + sz) _ _ k3
      exact Vs.append (Vs.mono (CxLe.refl _) hext _ _ hsp.1) (Vs.append (Vs.mono (CxLe.refl _) hext _ _ hus) (Vs.mono (CxLe.refl _) hext _ _ hsp2.2))) h
end
end Go.Proofs.YtnamkhifmankmaaDoor

/- Short names of frequent steps. -/
namespace Go.Proofs.YtnamkhifmankmaaDoor
theorem Reg.n0 {P : Program} {r : Option Nat} {N : Nat} {D : List Nat} {B : Base} {Ψ : Exit → Act → World → Prop} {all : Array Oper} {ops : List Oper} {todo : List Item} {i : Nat} {tr : List (Nat × Ct)} {S : St} (h : LGo P r N D B Ψ todo S) :
    Reg P r N D B all i [] tr S (fun tr S' => (false = true → P.follows .mixedOrders = true ∧ edgesOk ops.toArray = true ∧ pairsOk ops.toArray tr = true) ∧ LGo P r N D B Ψ todo S') := Reg.nil ⟨fun h => (by cases h), h⟩
end Go.Proofs.YtnamkhifmankmaaDoor

/- Pointers as values: checks for nil, raw pointers; a string out of a slice of bytes of one's own. -/
namespace Go.Proofs.YtnamkhifmankmaaDoor
section
variable {P : Program} {r : Option Nat} {N : Nat} {D : List Nat} {B : Base} {all : Array Oper} {K : List (Nat × Ct) → St → Prop}
variable {i : Nat} {ops : List Oper} {tr : List (Nat × Ct)} {E : List (Nat × Ent)} {L : List (Nat × LO)} {n : Nat} {g : Bool} {gn : List (Nat × Ent)}
variable {d ty : Nat} {pos : String} {aft : Array Edge} {gd : Option (Nat × Bool)}
theorem V.ptrV {cx : Cx} {w : World} {o off : Nat} {x : Value} (h : V cx w (.ptr o off) x) : ∃ b, x = .pointer (some ⟨b, off, none⟩) := by
  simp only [V] at h
  obtain ⟨_, b, _, h⟩ := h
  exact ⟨b, h⟩
theorem R.nilCheck {x : Operand} {gx : Bool} {o off : Nat} (ho : all[i]? = some ⟨some d, .nilCheck x, ty, pos, aft, gd⟩ := by rfl)
    (hg : GuardOk (en E) all gd g gn := by first | exact gN | exact gS rfl rfl)
    (hx : lvOf (en E) x = some (gx, .ptr o off) := by rfl) (hgx : g = true → gx = true := by first | exact fun _ => rfl | exact id)
    (h : Reg P r N D B all (i + 1) ops ((i, Ct.p gn [x] [(gx, .ptr o off)] (some d) (g, .ptr o off) []) :: tr) (st ((d, (g, .ptr o off)) :: E) L n) K) :
    Reg P r N D B all i (⟨some d, .nilCheck x, ty, pos, aft, gd⟩ :: ops) tr (st E L n) K :=
  Reg.one rfl (fun h => by
    rw [entLV_true h hgx]
    refine OpC.of_pure1 (x := x) rfl (by simp) fun md n0 cx H ρ w _ _ hv => ?_
    obtain ⟨b, e⟩ := hv.ptrV
    exact ⟨ρ x, by simp [execOp, e], hv⟩) ho hg hx (by simp) h
theorem R.eqPtrNil {t yt : Nat} {x : Operand} {gx : Bool} {o off : Nat} (ho : all[i]? = some ⟨some d, .binOp .eql t x (.const (.pointer none)) yt, ty, pos, aft, gd⟩ := by rfl)
    (hT : ∀ a w, (do eqGuard .eql t x (.const (.pointer none)) (.pointer (some a)) (.pointer none); binOp .eql t (.pointer (some a)) (.pointer none) : Sem Value).run P w = .ok (.bool false) w)
    (hg : GuardOk (en E) all gd g gn := by first | exact gN | exact gS rfl rfl)
    (hx : lvOf (en E) x = some (gx, .ptr o off) := by rfl) (hgx : g = true → gx = true := by first | exact fun _ => rfl | exact id)
    (h : Reg P r N D B all (i + 1) ops ((i, Ct.p gn [x, .const (.pointer none)] [(gx, .ptr o off), (true, cLV (.pointer none))] (some d) (g, .b false) []) :: tr) (st ((d, (g, .b false)) :: E) L n) K) :
    Reg P r N D B all i (⟨some d, .binOp .eql t x (.const (.pointer none)) yt, ty, pos, aft, gd⟩ :: ops) tr (st E L n) K :=
  Reg.two rfl (fun h => by
    rw [entLV_true h hgx]
    refine OpC.of_pure2 (x := x) (y := .const (.pointer none)) rfl (by simp) fun md n0 cx H ρ w _ _ v1 v2 => ?_
    obtain ⟨b, e⟩ := v1.ptrV
    have e2 : ρ (.const (.pointer none)) = .pointer none := by
      have v2' : V cx w (.v (.pointer none)) (ρ (.const (.pointer none))) := by simpa [entLV, cLV] using v2
      exact v2'.val
    refine ⟨.bool false, ?_, V.mkval⟩
    have := hT ⟨b, off, none⟩ w
    rw [← e, ← e2] at this
    simp only [execOp]
    rw [Sem.run_bind]
    rw [e2] at this ⊢
    rw [this]
    rfl) ho hg hx (by rfl) (by simp) h
theorem R.nePtrSame {t yt : Nat} {x y : Operand} {gx gy : Bool} {o off : Nat} (ho : all[i]? = some ⟨some d, .binOp .neq t x y yt, ty, pos, aft, gd⟩ := by rfl)
    (hT : ∀ a : Addr, a.off = off → ∀ w, (do eqGuard .neq t x y (.pointer (some a)) (.pointer (some a)); binOp .neq t (.pointer (some a)) (.pointer (some a)) : Sem Value).run P w = .ok (.bool false) w)
    (hg : GuardOk (en E) all gd g gn := by first | exact gN | exact gS rfl rfl)
    (hx : lvOf (en E) x = some (gx, .ptr o off) := by rfl) (hy : lvOf (en E) y = some (gy, .ptr o off) := by rfl)
    (hgx : g = true → gx = true := by first | exact fun _ => rfl | exact id) (hgy : g = true → gy = true := by first | exact fun _ => rfl | exact id)
    (h : Reg P r N D B all (i + 1) ops ((i, Ct.p gn [x, y] [(gx, .ptr o off), (gy, .ptr o off)] (some d) (g, .b false) []) :: tr) (st ((d, (g, .b false)) :: E) L n) K) :
    Reg P r N D B all i (⟨some d, .binOp .neq t x y yt, ty, pos, aft, gd⟩ :: ops) tr (st E L n) K :=
  Reg.two rfl (fun h => by
    rw [entLV_true h hgx, entLV_true h hgy]
    refine OpC.of_pure2 (x := x) (y := y) rfl (by simp) fun md n0 cx H ρ w _ _ v1 v2 => ?_
    simp only [V] at v1 v2
    obtain ⟨_, b, hb, e1⟩ := v1
    obtain ⟨_, b', hb', e2⟩ := v2
    rw [hb] at hb'
    cases hb'
    refine ⟨.bool false, ?_, V.mkval⟩
    have := hT ⟨b, off, none⟩ rfl w
    simp only [execOp, e1, e2]
    rw [Sem.run_bind, this]
    rfl) ho hg hx hy (by simp) h
/-- a conversion of a pointer to a box that leaves it as it is -/
theorem R.convPtr {s t T : Nat} {x : Operand} {gx : Bool} {o off : Nat} {cs : List LV} (ho : all[i]? = some ⟨some d, .convert s t x, ty, pos, aft, gd⟩ := by rfl)
    (hT : ∀ b w, w.shape? b = some (T, cs.length) → (convert s t (.pointer (some ⟨b, off, none⟩))).run P w = .ok (.pointer (some ⟨b, off, none⟩)) w)
    (hg : GuardOk (en E) all gd g gn := by first | exact gN | exact gS rfl rfl)
    (hx : lvOf (en E) x = some (gx, .ptr o off) := by rfl) (hgx : g = true → gx = true := by first | exact fun _ => rfl | exact id) (hb : hp L o = some (.box T cs) := by rfl)
    (h : Reg P r N D B all (i + 1) ops ((i, Ct.p gn [x] [(gx, .ptr o off)] (some d) (g, .ptr o off) [(o, .box T cs)]) :: tr) (st ((d, (g, .ptr o off)) :: E) L n) K) :
    Reg P r N D B all i (⟨some d, .convert s t x, ty, pos, aft, gd⟩ :: ops) tr (st E L n) K :=
  Reg.one rfl (fun h => by
    rw [entLV_true h hgx]
    refine OpC.of_pure1 (x := x) rfl (by simp) fun md n0 cx H ρ w hok hrd hv => ?_
    obtain ⟨_, b, vs, k1, k2, k3⟩ := hok.ok o _ (hrd o (.box T cs) (by simp))
    have hv' := hv
    simp only [V] at hv'
    obtain ⟨_, b', hb', e⟩ := hv'
    rw [k1] at hb'
    simp only [bk, Option.some.injEq] at hb'
    subst hb'
    refine ⟨ρ x, ?_, hv⟩
    have := hT b w (by simp [World.shape?, k2, k3.length])
    simp only [execOp, e]
    rw [Sem.run_bind, this]
    rfl) ho hg hx (oneL hb) h
/-- a call that hands its pointer back -/
theorem R.callSame {f : FuncId} {x : Operand} {ats : Array TypeId} {gx : Bool} {o off : Nat} (hf : ∀ a w, (callFunc f #[.pointer (some a)]).run P w = .ok (.value (.pointer (some a))) w)
    (ho : all[i]? = some ⟨some d, .call { callee := .value (.func f), args := #[x], argTypes := ats }, ty, pos, aft, gd⟩ := by rfl)
    (hg : GuardOk (en E) all gd g gn := by first | exact gN | exact gS rfl rfl)
    (hx : lvOf (en E) x = some (gx, .ptr o off) := by rfl) (hgx : g = true → gx = true := by first | exact fun _ => rfl | exact id)
    (h : Reg P r N D B all (i + 1) ops ((i, Ct.p gn [.func f, x] [(true, .fn (.func f) [] []), (gx, .ptr o off)] (some d) (g, .ptr o off) []) :: tr) (st ((d, (g, .ptr o off)) :: E) L n) K) :
    Reg P r N D B all i (⟨some d, .call { callee := .value (.func f), args := #[x], argTypes := ats }, ty, pos, aft, gd⟩ :: ops) tr (st E L n) K :=
  Reg.two (x := .func f) (y := x) (by simp [Op.operands, Go.Call.operands]) (fun h => by
    rw [entLV_true h hgx]
    refine OpC.of_pure2 (x := .func f) (y := x) (by simp [Op.operands, Go.Call.operands]) (by simp) fun md n0 cx H ρ w _ _ v1 v2 => ?_
    obtain ⟨b, e⟩ := v2.ptrV
    have e1 : ρ (.func f) = .func (.func f) #[] #[] := by
      have v1' : V cx w (.fn (.func f) [] []) (ρ (.func f)) := by simpa [entLV] using v1
      simp only [V, Vs] at v1'
      obtain ⟨us, vs, h1, rfl, rfl⟩ := v1'
      exact h1
    refine ⟨ρ x, ?_, v2⟩
    have := hf ⟨b, off, none⟩ w
    simp only [execOp, resolve, e1, Deferred.ofValue, Sem.run_bind, Sem.run_pure, Result.andThen_ok, invoke]
    simp [e, this]) ho hg (by rfl) hx (by simp) h
/-- the place of the first byte of a slice of one's own -/
theorem R.sliceData {T : Nat} {x : Operand} {gx : Bool} {o e : Nat} {ys : List (List SV)} (hne : ys ≠ [])
    (ho : all[i]? = some ⟨some d, .call { callee := .builtin .unsafeSliceData, args := #[x], argTypes := #[T] }, ty, pos, aft, gd⟩ := by rfl) (hg : GuardOk (en E) all gd g gn := by first | exact gN | exact gS rfl rfl)
    (hx : lvOf (en E) x = some (gx, .ref o) := by rfl) (hgx : g = true → gx = true := by first | exact fun _ => rfl | exact id) (hb : hp L o = some (.rs e 1 ys) := by rfl)
    (h : Reg P r N D B all (i + 1) ops ((i, Ct.p gn [x] [(gx, .ref o)] (some d) (g, .ptr o 0) [(o, .rs e 1 ys)]) :: tr) (st ((d, (g, .ptr o 0)) :: E) L n) K) :
    Reg P r N D B all i (⟨some d, .call { callee := .builtin .unsafeSliceData, args := #[x], argTypes := #[T] }, ty, pos, aft, gd⟩ :: ops) tr (st E L n) K :=
  Reg.one rfl (fun h => by
    rw [entLV_true h hgx]
    refine OpC.of_pure1 (x := x) rfl (by simp) fun md n0 cx H ρ w hok hrd hvv => ?_
    have hv := hvv
    simp only [V] at hv
    obtain ⟨hA, hv1, _⟩ := hv
    obtain ⟨_, _, vs, hown, _⟩ := hok.ok o _ (hrd o (.rs e 1 ys) (by simp))
    have hl : ys.length ≠ 0 := by simpa using hne
    rcases hown.2 with ⟨e1, e2⟩ | ⟨gb, cap, cur, e1, _, _, hle, _⟩
    · omega
    · have hc0 : cap ≠ 0 := by omega
      refine ⟨.pointer (some ⟨gb, 0, none⟩), ?_, by simp only [V]; exact ⟨hA, gb, by rw [e1]; rfl, rfl⟩⟩
      rw [e1] at hv1
      have hr := Lib.run_unsafeSliceData_row (P := P) (w := w) #[T] ty ⟨gb, 0, none⟩ ys.length cap hc0
      simp only [execOp, resolve, invoke, builtin, Sem.run_bind, Sem.run_pure, Result.andThen_ok, List.map_toArray, List.map_cons, List.map_nil, hv1]
      simp [hr]) ho hg hx (oneL hb) h
/-- .. and the string of its bytes: the slice is given away -/
theorem R.unsafeStr {pt it e : Nat} {x y : Operand} {o : Nat} {l : List UInt8} (hp' : P.underlying pt = some (.pointer e)) (hc : P.cellsOf e = 1) (hne : l ≠ []) (hmax : l.length ≤ 100000000)
    (ho : all[i]? = some ⟨some d, .call { callee := .builtin .unsafeString, args := #[x, y], argTypes := #[pt, it] }, ty, pos, aft, none⟩ := by rfl)
    (hx : lvOf (en E) x = some (true, .ptr o 0) := by rfl) (hy : lvOf (en E) y = some (true, .i l.length) := by rfl) (hb : hp L o = some (.rs e 1 (bytesC l)) := by rfl)
    (h : Reg P r N D B all (i + 1) ops ((i, ⟨needOf [x, y] [(true, .ptr o 0), (true, .i l.length)], some d, (true, .t l), [], [(o, .rs e 1 (bytesC l))], [], []⟩) :: tr) (st ((d, (true, .t l)) :: E) (updL L [(o, .rs e 1 (bytesC l))] []) n) K) :
    Reg P r N D B all i (⟨some d, .call { callee := .builtin .unsafeString, args := #[x, y], argTypes := #[pt, it] }, ty, pos, aft, none⟩ :: ops) tr (st E L n) K := by
  refine Reg.gen (m := 0) (es := [(true, .ptr o 0), (true, .i l.length)]) (rd := []) (Hi := [(o, .rs e 1 (bytesC l))]) (Ho := []) (out := .t l) ho gN ⟨_, _, rfl, hx, _, _, rfl, hy, rfl⟩ (by simp) (fun k z hz => ?_) (OpC.of_run (by simp) (by simp) fun md n0 cx H ρ w hok _ hHi _ hv => ?_) h
  · simp only [hp, List.lookup_cons] at hz
    split at hz
    · rename_i hh; simp at hh; cases hz; subst hh; exact hb
    · simp at hz
  · have hop : (Oper.mk (some d) (.call { callee := .builtin .unsafeString, args := #[x, y], argTypes := #[pt, it] }) ty pos aft none).op.operands.toList = [x, y] := rfl
    rw [hop] at hv
    obtain ⟨v1, v2⟩ := Vs.two hv
    simp only [entLV] at v1 v2
    have hob := hHi o (.rs e 1 (bytesC l)) (by simp)
    obtain ⟨hA, _, vs, hown, hvs, _⟩ := hok.ok o _ hob
    have hll : (bytesC l).length = l.length := bytesC_length l
    have hl0 : l.length ≠ 0 := by simpa using hne
    rcases hown.2 with ⟨e1, e2⟩ | ⟨gb, cap, cur, e1, _, hg, hle, hmx, hsz, htk⟩
    · omega
    · have hbk : bk (cx.loc o) = some gb := by rw [e1]; rfl
      simp only [V] at v1
      obtain ⟨_, b', hb', ex⟩ := v1
      rw [hbk] at hb'
      cases hb'
      have ey := v2.val
      have hcells : ∀ (j : Nat) (c : UInt8), l[j]? = some c → w.cell? ((⟨gb, 0, none⟩ : Addr).add j) = some (.int .u8 c.toNat) := by
        intro j c hj
        rw [add_off, Nat.zero_add]
        have hlt := (List.getElem?_eq_some_iff.1 hj).1
        have hfl : ((bytesC l).flatten.map LV.sv)[j]? = some (.v (.int .u8 c.toNat)) := by
          rw [bytesC_flat, List.map_map, List.getElem?_map, hj]; rfl
        obtain ⟨v, k1, k2⟩ := Vs.get hvs hfl
        have k3 := k2.val
        subst k3
        have : cur.toList[j]? = some (.int .u8 c.toNat) := by
          rw [← htk, List.getElem?_take] at k1
          split at k1
          · exact k1
          · cases k1
        simp only [World.cell?, hg]
        simpa using this
      have hrun := Lib.run_unsafeString_row (P := P) (w := w) pt it ty e hp' hc gb cur.size (by simp [World.shape?, hg]) l hne (by rw [hsz]; omega) (by omega) hcells
      have hold : ∀ k, k ≠ gb → (w.freeze ⟨gb, 0, none⟩ l.length).heap[k]? = w.heap[k]? := fun k hk => by
        unfold World.freeze
        rw [if_neg hl0]
        simp only [Array.getElem?_modify, if_neg (Ne.symm hk)]
      have hsize : (w.freeze ⟨gb, 0, none⟩ l.length).heap.size = w.heap.size := by
        unfold World.freeze
        rw [if_neg hl0]
        simp
      obtain ⟨hpr, hlt, hmd⟩ := hok.own o _ gb hob (.inl hbk)
      have hblk : blks cx (hp [(o, LO.rs e 1 (bytesC l))]) gb := ⟨o, LO.rs e 1 (bytesC l), by simp, .inl hbk⟩
      have hext : Ext cx.pr w cx.pr (w.freeze ⟨gb, 0, none⟩ l.length) := fun k off hk => ⟨hk, by
        have hkb : k ≠ gb := by rintro rfl; omega
        simp only [World.cell?, hold k hkb]⟩
      refine ⟨.value (.string ⟨l.toArray⟩), .string ⟨l.toArray⟩, w.freeze ⟨gb, 0, none⟩ l.length, cx, ?_, .inl rfl, ?_, V.mkval⟩
      · simp only [execOp, resolve, invoke, builtin, Sem.run_bind, Sem.run_pure, Result.andThen_ok, List.map_toArray, List.map_cons, List.map_nil, ex, ey]
        rw [hrun]
        rfl
      · refine ⟨CxLe.refl _, fun k => by simp, ⟨?_, ?_, ?_, by omega, fun k _ hk => hold k (by rintro rfl; exact hk hblk), fun _ _ _ => rfl, hext⟩, ⟨fun k z hz => by simp at hz, fun k z b hz => by simp at hz, fun k k' z z' b _ hz => by simp at hz, fun b hb => by have := hok.lim b hb; omega⟩, fun _ _ _ => rfl⟩
        all_goals (unfold World.freeze; rw [if_neg hl0])
end
end Go.Proofs.YtnamkhifmankmaaDoor

/- Maps, as objects of one's own: an empty map, a look, a write. -/
namespace Go.Proofs.YtnamkhifmankmaaDoor
/-- the entries of a map of one's own, in the order in which they came -/
def entsOf : Nat → List (Value × Value) → List MapEntry
  | _, [] => []
  | k, (a, v) :: l => { key := a, val := v, born := k } :: entsOf (k + 1) l
section
variable {α : Type} [DecidableEq α]
def encs (enc : α → Value) (l : List (α × Value)) : List (Value × Value) := l.map fun p => (enc p.1, p.2)
def mapOb (enc : α → Value) (l : List (α × Value)) : Obj := .map (entsOf 0 (encs enc l)).toArray l.length
def posM (a : α) : List (α × Value) → Nat → Option (Nat × Value)
  | [], _ => none
  | (b, u) :: l, k => if a = b then some (k, u) else posM a l (k + 1)
def getM (a : α) : List (α × Value) → Option Value
  | [] => none
  | (b, u) :: l => if a = b then some u else getM a l
def putM (a : α) (v : Value) : List (α × Value) → List (α × Value)
  | [] => [(a, v)]
  | (b, u) :: l => if a = b then (b, v) :: l else (b, u) :: putM a v l
theorem posM_get (a : α) : ∀ (l : List (α × Value)) (k : Nat), (posM a l k).map (·.2) = getM a l
  | [], _ => rfl
  | (b, u) :: l, k => by
    rw [posM, getM]
    split
    · rfl
    · exact posM_get a l (k + 1)
theorem posM_at (enc : α → Value) (a : α) (v : Value) : ∀ (l : List (α × Value)) (k i : Nat) (u : Value), posM a l k = some (i, u) →
    k ≤ i ∧ ((entsOf k (encs enc l))[i - k]?).map (·.key) = some (enc a) ∧ (entsOf k (encs enc l)).modify (i - k) (fun e => { e with key := enc a, val := v }) = entsOf k (encs enc (putM a v l)) ∧ (putM a v l).length = l.length
  | [], _, _, _, h => by cases h
  | (b, u0) :: l, k, i, u, h => by
    rw [posM] at h
    split at h
    · rename_i hab
      subst hab
      simp only [Option.some.injEq, Prod.mk.injEq] at h
      obtain ⟨rfl, rfl⟩ := h
      rw [putM, if_pos rfl, Nat.sub_self]
      exact ⟨Nat.le_refl _, rfl, rfl, rfl⟩
    · rename_i hab
      obtain ⟨h1, h2, h3, h4⟩ := posM_at enc a v l (k + 1) i u h
      rw [putM, if_neg hab, show i - k = (i - (k + 1)) + 1 from by omega]
      refine ⟨by omega, ?_, ?_, by rw [List.length_cons, List.length_cons, h4]⟩
      · simpa [encs, entsOf] using h2
      · simp only [encs, List.map_cons, entsOf, List.modify_succ_cons]
        exact congrArg _ h3
theorem posM_none (enc : α → Value) (a : α) (v : Value) : ∀ (l : List (α × Value)) (k : Nat), posM a l k = none →
    entsOf k (encs enc (putM a v l)) = entsOf k (encs enc l) ++ [{ key := enc a, val := v, born := k + l.length }] ∧ (putM a v l).length = l.length + 1
  | [], _, _ => ⟨rfl, rfl⟩
  | (b, u0) :: l, k, h => by
    rw [posM] at h
    split at h
    · cases h
    · rename_i hab
      obtain ⟨h1, h2⟩ := posM_none enc a v l (k + 1) h
      rw [putM, if_neg hab]
      refine ⟨?_, by rw [List.length_cons, List.length_cons, h2]⟩
      simp only [encs, List.map_cons, entsOf, List.cons_append, List.length_cons] at h1 ⊢
      rw [h1, show k + 1 + l.length = k + (l.length + 1) from by omega]

/-- what a type of keys says -/
structure KeyF (P : Program) (kt : TypeId) (enc : α → Value) : Prop where
  chk : ∀ b a w, (Instr.checkKey b 10000 kt (enc a)).run P w = .ok () w
  find : ∀ a l w, (Instr.findKey kt (enc a) (entsOf 0 (encs enc l))).run P w = .ok (posM a l 0) w
  same : ∀ a, Instr.sameBits 10000 (enc a) (enc a) = true

theorem findNow_yes {enc : α → Value} {td : TypeDesc} (h : ∀ a b, Instr.sameNow td (enc a) (enc b) = some (decide (a = b))) (a : α) : ∀ (l : List (α × Value)) (k : Nat), Instr.findNow td (enc a) (entsOf k (encs enc l)) k = some (posM a l k)
  | [], _ => rfl
  | (b, u) :: l, k => by
    simp only [encs, List.map_cons, entsOf, Instr.findNow, h, posM]
    by_cases hab : a = b
    · simp [hab]
    · simp only [hab, decide_false, if_false]
      exact findNow_yes h a l (k + 1)
theorem findAsk {P : Program} {kt : TypeId} {enc : α → Value} (h : ∀ a b w, (Op.equal kt (enc a) (enc b)).run P w = .ok (decide (a = b)) w) (a : α) : ∀ (l : List (α × Value)) (k : Nat) (w : World), (Instr.findAsking kt (enc a) (entsOf k (encs enc l)) k).run P w = .ok (posM a l k) w
  | [], _, w => by simp [encs, entsOf, Instr.findAsking, posM]
  | (b, u) :: l, k, w => by
    have ih := findAsk h a l (k + 1) w
    simp only [encs, List.map_cons, entsOf, Instr.findAsking, posM, Sem.run_bind, h, Result.andThen_ok] at ih ⊢
    by_cases hab : a = b
    · simp [hab]
    · simp only [hab, decide_false, if_false]
      exact ih
theorem KeyF.plain {P : Program} {kt : TypeId} {td : TypeDesc} {enc : α → Value} (hu : P.underlying kt = some td) (h : ∀ a b, Instr.sameNow td (enc a) (enc b) = some (decide (a = b)))
    (hc : ∀ b a w, (Instr.checkKey b 10000 kt (enc a)).run P w = .ok () w) (hs : ∀ a, Instr.sameBits 10000 (enc a) (enc a) = true) : KeyF P kt enc :=
  ⟨hc, fun a l w => by simp [Instr.findKey, run_underlying hu, findNow_yes h], hs⟩
theorem KeyF.deep {P : Program} {kt : TypeId} {td : TypeDesc} {enc : α → Value} (hu : P.underlying kt = some td) (h : ∀ a b, Instr.sameNow td (enc a) (enc b) = none) (he : ∀ a b w, (Op.equal kt (enc a) (enc b)).run P w = .ok (decide (a = b)) w)
    (hc : ∀ b a w, (Instr.checkKey b 10000 kt (enc a)).run P w = .ok () w) (hs : ∀ a, Instr.sameBits 10000 (enc a) (enc a) = true) : KeyF P kt enc :=
  ⟨hc, fun a l w => by
    have h2 := findAsk he a l 0 w
    cases l with
    | nil => simp [Instr.findKey, run_underlying hu, encs, entsOf, Instr.findNow, posM]
    | cons p l =>
      simp only [Instr.findKey, Sem.run_bind, run_underlying hu, Result.andThen_ok]
      rw [show Instr.findNow td (enc a) (entsOf 0 (encs enc (p :: l))) 0 = none from by simp [encs, entsOf, Instr.findNow, h]]
      exact h2, hs⟩
/-- a value that is told whole -/
def Told (lv : LV) (x : Value) : Prop := ∀ (cx : Cx) (w : World) (v : Value), V cx w lv v → v = x
theorem Told.v {x : Value} : Told (.v x) x := fun _ _ _ h => h.val
theorem Told.agg {xs : List Value} : Told (.agg (xs.map LV.v)) (.agg xs.toArray) := fun cx w v h => by
  simp only [V] at h
  obtain ⟨vs, rfl, h⟩ := h
  rw [Vs.vals xs vs h]
end

section
variable {P : Program} {r : Option Nat} {N : Nat} {D : List Nat} {B : Base} {all : Array Oper} {K : List (Nat × Ct) → St → Prop}
variable {i : Nat} {ops : List Oper} {tr : List (Nat × Ct)} {E : List (Nat × Ent)} {L : List (Nat × LO)} {n : Nat} {g : Bool} {gn : List (Nat × Ent)}
variable {d ty : Nat} {pos : String} {aft : Array Edge} {gd : Option (Nat × Bool)}
variable {α : Type} [DecidableEq α]

omit [DecidableEq α] in
theorem R.makeMap {t : Nat} (enc : α → Value)
    (ho : all[i]? = some ⟨some d, .makeMap t none, ty, pos, aft, none⟩ := by rfl)
    (h : Reg P r N D B all (i + 1) ops ((i, ⟨[], some d, (true, .ref n), [], [], [(n, .raw (mapOb enc []))], [n]⟩) :: tr) (st ((d, (true, .ref n)) :: E) ((n, .raw (mapOb enc [])) :: L) (n + 1)) K) :
    Reg P r N D B all i (⟨some d, .makeMap t none, ty, pos, aft, none⟩ :: ops) tr (st E L n) K := by
  refine Reg.new (es := []) (rd := []) ho gN rfl (by simp) (OpC.of_run (by simp) (by simp) fun md n0 cx H ρ w hok _ _ hnew _ => ?_) h
  obtain ⟨cx', t1, hA, hl, hp⟩ := Tr.new (w0 := w) hok (ob := mapOb enc []) (o := n) (hnew n (by simp)) (lv := .map (some w.heap.size)) (x := .raw (mapOb enc [])) ⟨rfl, rfl, rfl, rfl⟩ rfl (fun cx' e1 _ _ _ => ⟨w.heap.size, e1, heap_alloc_new w _⟩)
  refine ⟨.value (.map (some w.heap.size)), _, _, cx', ?_, .inl rfl, t1, by simp only [V]; exact ⟨hA, hl.symm, rfl⟩⟩
  simp [execOp, Instr.makeMap, mapOb, encs, entsOf]

theorem V.mapV {cx : Cx} {w : World} {o : Nat} {v : Value} {es : Array MapEntry} {c : Nat} {md : Nat → Prop} {n0 : Nat} {H : Hp} (hok : HOk md n0 cx H w) (hH : H o = some (.raw (.map es c))) (hv : V cx w (.ref o) v) :
    ∃ b, v = .map (some b) ∧ bk (cx.loc o) = some b ∧ w.heap[b]? = some (.map es c) := by
  simp only [V] at hv
  obtain ⟨_, h1, _⟩ := hv
  obtain ⟨_, b, hb, hw⟩ := hok.ok o _ hH
  exact ⟨b, h1.trans hb, by rw [hb]; rfl, hw⟩
theorem run_getMap {b : Nat} {es : Array MapEntry} {c : Nat} {w : World} (h : w.heap[b]? = some (.map es c)) : (getObj b).run P w = .ok (.map es c) w := by simp [getObj, Sem.run, h]
theorem run_setMap {b : Nat} {es : Array MapEntry} {c : Nat} {w : World} (o : Obj) (h : w.heap[b]? = some (.map es c)) : (setObj b o).run P w = .ok () (w.putObj b o) := by simp [setObj, Sem.run, h, World.putObj]
theorem run_lookup {t kt et b : Nat} {enc : α → Value} {z : Value} (hT : P.underlying t = some (.map kt et)) (hk : KeyF P kt enc) (hz : ZeroF P et z) (a : α) (l : List (α × Value)) (c : Bool) (w : World) (hw : w.heap[b]? = some (mapOb enc l)) :
    (Instr.lookup t (.map (some b)) (enc a) c).run P w = .ok (if c then .tuple #[(getM a l).getD z, .bool (getM a l).isSome] else (getM a l).getD z) w := by
  have hf := hk.find a l w
  have hg := posM_get a l 0
  unfold mapOb at hw
  simp only [Instr.lookup, Sem.run_bind, run_underlying hT, Result.andThen_ok, run_getMap hw, Sem.run_pure, hk.chk, hf]
  cases hp : posM a l 0 with
  | none =>
    rw [hp] at hg
    simp only [Sem.run_bind, hz w, Result.andThen_ok, Sem.run_pure, ← hg]
    cases c <;> rfl
  | some q =>
    rw [hp] at hg
    simp only [Sem.run_pure, Result.andThen_ok, ← hg]
    cases c <;> rfl
theorem R.lookupOk {t kt et : Nat} {enc : α → Value} {z : Value} (hT : P.underlying t = some (.map kt et)) (hk : KeyF P kt enc) (hz : ZeroF P et z) {a : α} {l : List (α × Value)} {x y : Operand} {gx gy : Bool} {o : Nat} {lk : LV} (hlk : Told lk (enc a))
    (ho : all[i]? = some ⟨some d, .lookup t x y true, ty, pos, aft, gd⟩ := by rfl)
    (hg : GuardOk (en E) all gd g gn := by first | exact gN | exact gS rfl rfl)
    (hx : lvOf (en E) x = some (gx, .ref o) := by rfl) (hy : lvOf (en E) y = some (gy, lk) := by rfl)
    (hgx : g = true → gx = true := by first | exact fun _ => rfl | exact id) (hgy : g = true → gy = true := by first | exact fun _ => rfl | exact id) (hb : hp L o = some (.raw (mapOb enc l)) := by rfl)
    (h : Reg P r N D B all (i + 1) ops ((i, Ct.p gn [x, y] [(gx, .ref o), (gy, lk)] (some d) (g, .tup [.v ((getM a l).getD z), .b (getM a l).isSome]) [(o, .raw (mapOb enc l))]) :: tr) (st ((d, (g, .tup [.v ((getM a l).getD z), .b (getM a l).isSome])) :: E) L n) K) :
    Reg P r N D B all i (⟨some d, .lookup t x y true, ty, pos, aft, gd⟩ :: ops) tr (st E L n) K :=
  Reg.two rfl (fun h => by
    rw [entLV_true h hgx, entLV_true h hgy]
    refine OpC.of_pure2 (x := x) (y := y) rfl (by simp) fun md n0 cx H ρ w hok hrd v1 v2 => ?_
    obtain ⟨b, e1, _, hw⟩ := V.mapV hok (hrd o (.raw (mapOb enc l)) (by simp)) v1
    have e2 := hlk cx w _ v2
    refine ⟨.tuple #[(getM a l).getD z, .bool (getM a l).isSome], ?_, by simp [V, Vs, VS]⟩
    simp only [execOp, e1, e2, Sem.run_bind, run_lookup hT hk hz a l true w hw]
    rfl) ho hg hx hy (oneL hb) h
theorem R.lookup1 {t kt et : Nat} {enc : α → Value} {z : Value} (hT : P.underlying t = some (.map kt et)) (hk : KeyF P kt enc) (hz : ZeroF P et z) {a : α} {l : List (α × Value)} {x y : Operand} {gx gy : Bool} {o : Nat} {lk : LV} (hlk : Told lk (enc a))
    (ho : all[i]? = some ⟨some d, .lookup t x y false, ty, pos, aft, gd⟩ := by rfl)
    (hg : GuardOk (en E) all gd g gn := by first | exact gN | exact gS rfl rfl)
    (hx : lvOf (en E) x = some (gx, .ref o) := by rfl) (hy : lvOf (en E) y = some (gy, lk) := by rfl)
    (hgx : g = true → gx = true := by first | exact fun _ => rfl | exact id) (hgy : g = true → gy = true := by first | exact fun _ => rfl | exact id) (hb : hp L o = some (.raw (mapOb enc l)) := by rfl)
    (h : Reg P r N D B all (i + 1) ops ((i, Ct.p gn [x, y] [(gx, .ref o), (gy, lk)] (some d) (g, .v ((getM a l).getD z)) [(o, .raw (mapOb enc l))]) :: tr) (st ((d, (g, .v ((getM a l).getD z))) :: E) L n) K) :
    Reg P r N D B all i (⟨some d, .lookup t x y false, ty, pos, aft, gd⟩ :: ops) tr (st E L n) K :=
  Reg.two rfl (fun h => by
    rw [entLV_true h hgx, entLV_true h hgy]
    refine OpC.of_pure2 (x := x) (y := y) rfl (by simp) fun md n0 cx H ρ w hok hrd v1 v2 => ?_
    obtain ⟨b, e1, _, hw⟩ := V.mapV hok (hrd o (.raw (mapOb enc l)) (by simp)) v1
    have e2 := hlk cx w _ v2
    refine ⟨(getM a l).getD z, ?_, V.mkval⟩
    simp only [execOp, e1, e2, Sem.run_bind, run_lookup hT hk hz a l false w hw]
    rfl) ho hg hx hy (oneL hb) h
theorem run_mapUpd {t kt et b : Nat} {enc : α → Value} (hT : P.underlying t = some (.map kt et)) (hk : KeyF P kt enc) (a : α) (v : Value) (l : List (α × Value)) (w : World) (hw : w.heap[b]? = some (mapOb enc l)) :
    (Instr.mapUpdate t (.map (some b)) (enc a) v).run P w = .ok () (w.putObj b (mapOb enc (putM a v l))) := by
  have hf := hk.find a l w
  have hw' := hw
  unfold mapOb at hw
  simp only [Instr.mapUpdate, Sem.run_bind, run_underlying hT, Result.andThen_ok, run_getMap hw, Sem.run_pure, hk.chk, hf]
  cases hp : posM a l 0 with
  | none =>
    obtain ⟨h1, h2⟩ := posM_none enc a v l 0 hp
    simp only []
    rw [run_setMap _ hw]
    unfold mapOb
    rw [h1, h2]
    simp
  | some q =>
    obtain ⟨i, u⟩ := q
    obtain ⟨_, h1, h2, h3⟩ := posM_at enc a v l 0 i u hp
    simp only [Nat.sub_zero] at h1 h2
    have e : (((entsOf 0 (encs enc l)).toArray[i]?).map (·.key)).getD (enc a) = enc a := by
      rw [List.getElem?_toArray, h1]; rfl
    simp only [Instr.keyThatStays, e, hk.same, if_true, Sem.run_bind, Sem.run_pure, Result.andThen_ok]
    rw [run_setMap _ hw]
    unfold mapOb
    rw [← h2, h3]
    simp
theorem R.mapUpd {t kt et : Nat} {enc : α → Value} (hT : P.underlying t = some (.map kt et)) (hk : KeyF P kt enc) {a : α} {l : List (α × Value)} {v : Value} {x y z : Operand} {o : Nat} {lk : LV} (hlk : Told lk (enc a))
    (ho : all[i]? = some ⟨none, .mapUpdate t x y z, ty, pos, aft, none⟩ := by rfl)
    (hx : lvOf (en E) x = some (true, .ref o) := by rfl) (hy : lvOf (en E) y = some (true, lk) := by rfl) (hz : lvOf (en E) z = some (true, .v v) := by rfl) (hb : hp L o = some (.raw (mapOb enc l)) := by rfl)
    (h : Reg P r N D B all (i + 1) ops ((i, ⟨needOf [x, y, z] [(true, .ref o), (true, lk), (true, .v v)], none, (true, .v undef), [], [(o, .raw (mapOb enc l))], [(o, .raw (mapOb enc (putM a v l)))], []⟩) :: tr) (st E ((o, .raw (mapOb enc (putM a v l))) :: L) n) K) :
    Reg P r N D B all i (⟨none, .mapUpdate t x y z, ty, pos, aft, none⟩ :: ops) tr (st E L n) K :=
  Reg.set (es := [(true, .ref o), (true, lk), (true, .v v)]) (rd := []) ho gN ⟨_, _, rfl, hx, _, _, rfl, hy, _, _, rfl, hz, rfl⟩ (by simp) hb (OpC.of_run (by simp) (by simp) fun md n0 cx H ρ w hok _ hHi _ hv => by
    obtain ⟨v1, v2, v3⟩ := Vs.three hv
    simp only [entLV] at v1 v2 v3
    have hob := hHi o (.raw (mapOb enc l)) (by simp)
    obtain ⟨b, e1, hbk, hw⟩ := V.mapV hok hob v1
    have e2 := hlk cx w _ v2
    have e3 := v3.val
    refine ⟨.skip, undef, _, cx, ?_, .inr ⟨rfl, rfl⟩, Tr.put hok hob hbk (mapOb enc (putM a v l)) (fun _ hh => ⟨b, ?_, hh⟩), V.mkval⟩
    · simp only [execOp, e1, e2, e3, Sem.run_bind, run_mapUpd hT hk a v l w hw]
      rfl
    · obtain ⟨_, b', hb', _⟩ := hok.ok o _ hob
      rw [hb'] at hbk
      simp only [bk, Option.some.injEq] at hbk
      rw [hb', hbk]) h
end
end Go.Proofs.YtnamkhifmankmaaDoor

/- Whether a slice is nil, where nothing tells it: both ways. -/
namespace Go.Proofs.YtnamkhifmankmaaDoor
def isBo (x : Value) : Prop := ∃ b, x = .bool b
section
variable {P : Program} {r : Option Nat} {N : Nat} {D : List Nat} {B : Base} {all : Array Oper} {K : List (Nat × Ct) → St → Prop}
variable {i : Nat} {ops : List Oper} {tr : List (Nat × Ct)} {E : List (Nat × Ent)} {L : List (Nat × LO)} {n : Nat} {g : Bool} {gn : List (Nat × Ent)}
variable {d ty : Nat} {pos : String} {aft : Array Edge} {gd : Option (Nat × Bool)}
theorem R.nilU {op : BinOp} (hop : op = .eql ∨ op = .neq := by first | exact .inl rfl | exact .inr rfl) {t e yt : Nat} (hT : P.underlying t = some (.slice e)) {x : Operand} {gx : Bool} {sz : Nat} {xs : List (List SV)}
    (ho : all[i]? = some ⟨some d, .binOp op t x (.const (.slice none 0 0)) yt, ty, pos, aft, gd⟩ := by rfl) (hg : GuardOk (en E) all gd g gn := by first | exact gN | exact gS rfl rfl)
    (hx : lvOf (en E) x = some (gx, .sv (.sl sz xs)) := by rfl) (hgx : g = true → gx = true := by first | exact fun _ => rfl | exact id)
    (h : Reg P r N D B all (i + 1) ops ((i, Ct.p gn [x, .const (.slice none 0 0)] [(gx, .sv (.sl sz xs)), (true, .v (.slice none 0 0))] (some d) (g, .pv isBo) []) :: tr) (st ((d, (g, .pv isBo)) :: E) L n) K) :
    Reg P r N D B all i (⟨some d, .binOp op t x (.const (.slice none 0 0)) yt, ty, pos, aft, gd⟩ :: ops) tr (st E L n) K :=
  Reg.two rfl (fun h => by
    rw [entLV_true h hgx]
    refine OpC.of_pure2 (x := x) (y := .const (.slice none 0 0)) rfl (by simp) fun md n0 cx H ρ w hok hrd v1 v2 => ?_
    have v2' := v2.val
    simp only [V, VS] at v1
    have key : ∃ a l c, ρ x = .slice a l c := by
      rcases v1 with ⟨h1 | ⟨a, c, h1, _⟩, _⟩ | ⟨b, off, cap, h1, _⟩
      · exact ⟨_, _, _, h1⟩
      · exact ⟨_, _, _, h1⟩
      · exact ⟨_, _, _, h1⟩
    obtain ⟨a, l, c, he⟩ := key
    rcases hop with rfl | rfl
    · exact ⟨.bool a.isNone, by cases a <;> simp [execOp, he, v2', eqGuard, binOp, run_eqNilS w t e _ _ _ hT, Sem.run_bind], by simp only [V]; exact ⟨⟨_, rfl⟩, rfl⟩⟩
    · exact ⟨.bool (!a.isNone), by cases a <;> simp [execOp, he, v2', eqGuard, binOp, run_eqNilS w t e _ _ _ hT, Sem.run_bind], by simp only [V]; exact ⟨⟨_, rfl⟩, rfl⟩⟩) ho hg hx rfl (by simp) h
end
section
variable {P : Program} {r : Option Nat} {N : Nat} {D : List Nat} {B : Base} {Ψ : Exit → Act → World → Prop} {todo : List Item}
variable {E : List (Nat × Ent)} {L : List (Nat × LO)} {n : Nat}
theorem LGo.ifU {c : Operand} {x y : Code} (hc : lvOf (en E) c = some (true, .pv isBo) := by rfl) (ht : LGo P r N D B Ψ (.code x :: todo) (st E L n)) (hf : LGo P r N D B Ψ (.code y :: todo) (st E L n)) :
    LGo P r N D B Ψ (.code (.cond c x y) :: todo) (st E L n) := by
  refine ⟨fun cx a w hr b k cs hb => ?_⟩
  have hv := eval_of_lvOf hr hc rfl
  simp only [V] at hv
  obtain ⟨⟨t, he⟩, _⟩ := hv
  cases t with
  | true =>
    obtain ⟨e, a', w', hq, harr⟩ := ht.go cx a w hr b k cs hb
    exact ⟨e, a', w', hq, .of_steps (.one (fenced_FW P r _) (stepR_cond he)) harr⟩
  | false =>
    obtain ⟨e, a', w', hq, harr⟩ := hf.go cx a w hr b k cs hb
    exact ⟨e, a', w', hq, .of_steps (.one (fenced_FW P r _) (stepR_cond he)) harr⟩
end
end Go.Proofs.YtnamkhifmankmaaDoor

/- A slice written out, as a box of one's own: its elements may be of any kind; its length, the place of an element. -/
namespace Go.Proofs.YtnamkhifmankmaaDoor
section
variable {P : Program} {r : Option Nat} {N : Nat} {D : List Nat} {B : Base} {all : Array Oper} {K : List (Nat × Ct) → St → Prop}
variable {i : Nat} {ops : List Oper} {tr : List (Nat × Ct)} {E : List (Nat × Ent)} {L : List (Nat × LO)} {n : Nat} {g : Bool} {gn : List (Nat × Ent)}
variable {d ty : Nat} {pos : String} {aft : Array Edge} {gd : Option (Nat × Bool)}
theorem OpC.buildSliceSub {t e sz : Nat} (hF : AppF P t e sz) {o : Oper} {len : Nat} {parts : Array (Nat × Operand)} {xs : List Operand} {ls : List LV} {cs : List (List LV)}
    (ho : o.op = .buildSlice t len parts) (hdd : ∀ c, o.op ≠ .defer c) (hp' : parts.toList = xs.zipIdx.map (fun p => (p.2, p.1)))
    (hcs : CellsOfs ls cs) (hsz : (cs.all fun c => c.length == sz) = true) (hlen : cs.length = len) (hsm : len * sz ≤ 16777216) (hlm : len ≤ 16777216) (n : Nat) :
    OpC P r o ls [] [] (.sub n 0 len len) [(n, .box e cs.flatten)] [n] := by
  have hl : o.op.operands.toList = xs := by
    rw [ho]
    show (parts.toList.map (·.2)).toArray.toList = xs
    rw [hp']
    simp only [List.map_map, List.toList_toArray]
    have : ((fun (x : Nat × Operand) => x.2) ∘ fun (p : Operand × Nat) => (p.2, p.1)) = Prod.fst := rfl
    rw [this]; simp
  refine OpC.of_run hdd (by simp) fun md n0 cx H ρ w hok _ _ hnew hv => ?_
  obtain ⟨ht, i0, z, hi, hz, hisz, _, hzs⟩ := hF.get
  rw [hl] at hv
  obtain ⟨us, g1, g2, g3, g4, g5⟩ := hcs.get hv
  have hcl : ∀ c ∈ cs, c.length = sz := fun c hc => by simpa using List.all_eq_true.1 hsz c hc
  have hul : ∀ u ∈ us, u.length = sz := by
    intro u hu
    obtain ⟨j, hj⟩ := List.getElem?_of_mem hu
    have hjl : j < cs.length := by rw [← g2]; exact (List.getElem?_eq_some_iff.1 hj).1
    rw [g3 j u cs[j] hj (List.getElem?_eq_getElem hjl)]
    exact hcl _ (List.getElem_mem hjl)
  have hxl : xs.length = len := by
    have h1 := congrArg List.length g1
    simp only [List.length_map] at h1
    omega
  have hus : us.flatten.length = len * sz := by
    rw [List.length_flatten]
    have : us.map List.length = List.replicate us.length sz := by
      rw [List.eq_replicate_iff]
      refine ⟨by simp, fun b hb => ?_⟩
      obtain ⟨e, he, rfl⟩ := List.mem_map.1 hb
      exact hul e he
    rw [this]; simp only [List.sum_replicate_nat]; rw [show us.length = len from by omega]
  let C0 : Array Value := (Array.range (len * sz)).map (fun k => (if len * sz = 0 then #[] else z.cells)[k % (if len * sz = 0 then #[] else z.cells).size]!)
  have hC0 : C0.size = len * sz := by simp [C0]
  obtain ⟨C', f1, f2⟩ := fill_seq sz (xs.map ρ) us 0 C0 g1 hul (by rw [List.length_map, hC0, hxl]; simp)
  have hC' : C'.toList = us.flatten := by
    rw [f2]
    simp only [Nat.zero_mul, List.take_zero, List.nil_append, Nat.zero_add, List.length_map, hxl]
    rw [List.drop_of_length_le (by simp [hC0])]; simp
  have hCs : C'.size = len * sz := by rw [← Array.length_toList, hC', hus]
  have hCe : C' = us.flatten.toArray := by rw [← hC']
  obtain ⟨cx', t1, hp1⟩ := alloc_box (T := e) (w0 := w) hok (hnew n (by simp)) ⟨rfl, rfl, rfl, rfl⟩ g4
  have hv' : V cx' (w.alloc (.cells us.flatten.toArray e)) (.sub n 0 len len) (.slice (some ⟨w.heap.size, 0, none⟩) len len) := by
    simp only [V] at hp1 ⊢
    obtain ⟨hA, b, hb, he⟩ := hp1
    simp only [Value.pointer.injEq, Option.some.injEq, Addr.mk.injEq] at he
    exact ⟨hA, b, hb, by rw [he.1]⟩
  rw [← hCe] at t1 hv'
  refine ⟨_, _, _, cx', ?_, .inl rfl, t1, hv'⟩
  have hp2 : (parts.map fun x => (x.1, ρ x.2)).toList = ((xs.map ρ).zipIdx 0).map fun p => (p.2, p.1) := by
    rw [Array.toList_map, hp']
    simp only [List.map_map, List.zipIdx_map]
    rfl
  have hop : (parts.map fun x => (x.1, ρ x.2)) = (((xs.map ρ).zipIdx 0).map fun p => (p.2, p.1)).toArray := by rw [← hp2]
  have hbig : ¬ len * sz > 16777216 := by omega
  have hfill : Instr.fill (fun i => some (i * sz, sz)) ((Array.range (len * sz)).map (fun k => (if len * sz = 0 then #[] else z.cells)[k % (if len * sz = 0 then #[] else z.cells).size]!)) (((xs.map ρ).zipIdx 0).map fun p => (p.2, p.1)) = some C' := f1
  by_cases h0 : len * sz = 0
  · simp only [h0, if_true] at hfill
    simp [execOp, ho, Instr.buildSlice, run_underlying ht, sizeOf, typeInfo, hi, hisz, hop, h0, newRow]
    simp at hfill
    rw [hfill]
    simp
  · simp only [h0, if_false] at hfill
    simp only [execOp, ho, Instr.buildSlice, hop]
    simp [run_underlying ht, sizeOf, typeInfo, zeroValue, hi, hz, hisz, h0, newRow]
    rw [if_neg hbig]
    rw [hfill]
    simp
theorem R.buildSliceSub {t e sz : Nat} (hF : AppF P t e sz) {len : Nat} {parts : Array (Nat × Operand)} {xs : List Operand} {es : List Ent} {ls : List LV} {cs : List (List LV)} {ds : List LV}
    (ho : all[i]? = some ⟨some d, .buildSlice t len parts, ty, pos, aft, none⟩ := by rfl) (hp' : parts.toList = xs.zipIdx.map (fun p => (p.2, p.1)) := by rfl)
    (hx : xs.map (lvOf (en E)) = es.map some := by rfl) (hes : es.map entLV = ls := by rfl) (hcs : CellsOfs ls cs := by repeat (first | exact CellsOfs.nil | refine CellsOfs.cons (CellsOf.one rfl) ?_ | refine CellsOfs.cons (CellsOf.agg rfl) ?_)) (hsz : (cs.all fun c => c.length == sz) = true := by rfl) (hlen : cs.length = len := by rfl)
    (hsm : len * sz ≤ 16777216 := by first | decide | omega) (hlm : len ≤ 16777216 := by first | decide | omega) (hds : cs.flatten = ds := by rfl)
    (h : Reg P r N D B all (i + 1) ops ((i, ⟨needOf xs es, some d, (true, .sub n 0 len len), [], [], [(n, .box e ds)], [n]⟩) :: tr) (st ((d, (true, .sub n 0 len len)) :: E) ((n, .box e ds) :: L) (n + 1)) K) :
    Reg P r N D B all i (⟨some d, .buildSlice t len parts, ty, pos, aft, none⟩ :: ops) tr (st E L n) K := by
  subst hds
  subst hes
  have hl : (Oper.mk (some d) (.buildSlice t len parts) ty pos aft none).op.operands.toList = xs := by
    show (parts.toList.map (·.2)).toArray.toList = xs
    rw [hp']
    simp only [List.map_map, List.toList_toArray]
    have : ((fun (x : Nat × Operand) => x.2) ∘ fun (p : Operand × Nat) => (p.2, p.1)) = Prod.fst := rfl
    rw [this]; simp
  exact Reg.new (es := es) (rd := []) ho gN (by rw [hl]; exact Opnds.of_map hx) (by simp) (OpC.buildSliceSub hF rfl (by simp) hp' hcs hsz hlen hsm hlm n) (by rw [hl]; exact h)
theorem R.lenSub {T : Nat} (hF : SliceT P T) {x : Operand} {gx : Bool} {o off len cap : Nat}
    (ho : all[i]? = some ⟨some d, .call { callee := .builtin .len, args := #[x], argTypes := #[T] }, ty, pos, aft, gd⟩ := by rfl) (hg : GuardOk (en E) all gd g gn := by first | exact gN | exact gS rfl rfl)
    (hx : lvOf (en E) x = some (gx, .sub o off len cap) := by rfl) (hgx : g = true → gx = true := by first | exact fun _ => rfl | exact id)
    (h : Reg P r N D B all (i + 1) ops ((i, Ct.p gn [x] [(gx, .sub o off len cap)] (some d) (g, .i len) []) :: tr) (st ((d, (g, .i len)) :: E) L n) K) :
    Reg P r N D B all i (⟨some d, .call { callee := .builtin .len, args := #[x], argTypes := #[T] }, ty, pos, aft, gd⟩ :: ops) tr (st E L n) K :=
  Reg.one rfl (fun h => by
    rw [entLV_true h hgx]
    refine OpC.of_pure1 (x := x) rfl (by simp) fun md n0 cx H ρ w hok hrd hvv => ?_
    obtain ⟨el, hT⟩ := hF
    simp only [V] at hvv
    obtain ⟨_, b, _, he⟩ := hvv
    refine ⟨.int .i64 len, ?_, V.mkval⟩
    simp [execOp, resolve, invoke, builtin, Builtin.len_, he, hT w, goInt]) ho hg hx (by simp) h
theorem R.indexSub {T sz : Nat} (hF : IndexF P T sz) {x y : Operand} {gx gy : Bool} {o off len cap : Nat} {k : IntKind} {j : Int}
    (ho : all[i]? = some ⟨some d, .indexAddr T x y, ty, pos, aft, gd⟩ := by rfl) (hg : GuardOk (en E) all gd g gn := by first | exact gN | exact gS rfl rfl)
    (hx : lvOf (en E) x = some (gx, .sub o off len cap) := by rfl) (hy : lvOf (en E) y = some (gy, .v (.int k j)) := by rfl)
    (hgx : g = true → gx = true := by first | exact fun _ => rfl | exact id) (hgy : g = true → gy = true := by first | exact fun _ => rfl | exact id)
    (hj : g = true → 0 ≤ j ∧ j < len)
    (h : Reg P r N D B all (i + 1) ops ((i, Ct.p gn [x, y] [(gx, .sub o off len cap), (gy, .v (.int k j))] (some d) (g, .ptr o (off + j.toNat * sz)) []) :: tr) (st ((d, (g, .ptr o (off + j.toNat * sz))) :: E) L n) K) :
    Reg P r N D B all i (⟨some d, .indexAddr T x y, ty, pos, aft, gd⟩ :: ops) tr (st E L n) K :=
  Reg.two rfl (fun h => by
    rw [entLV_true h hgx, entLV_true h hgy]
    refine OpC.of_pure2 (x := x) (y := y) rfl (by simp) fun md n0 cx H ρ w hok hrd v1 v2 => ?_
    obtain ⟨h0, hlt⟩ := hj h
    simp only [V] at v1
    obtain ⟨hA, b, hb, hv1⟩ := v1
    refine ⟨.pointer (some ⟨b, off + j.toNat * sz, none⟩), by simp only [execOp, hv1, v2.val]; simp [hF b off len cap k j w h0 hlt], ?_⟩
    simp only [V]
    exact ⟨hA, b, hb, rfl⟩) ho hg hx hy (by simp) h
end
end Go.Proofs.YtnamkhifmankmaaDoor

/- A struct out of some of its fields, of any size. -/
namespace Go.Proofs.YtnamkhifmankmaaDoor
def putC {α : Type} (C : List α) (q : Nat × List α) : List α := C.take q.1 ++ q.2 ++ C.drop (q.1 + q.2.length)
theorem putC_len {α : Type} (C : List α) (q : Nat × List α) (h : q.1 + q.2.length ≤ C.length) : (putC C q).length = C.length := by
  unfold putC
  simp only [List.length_append, List.length_take, List.length_drop]
  omega
theorem fill_gen {offs : List (Nat × Nat)} {m : Nat} : ∀ (ps : List (Nat × Value)) (qs : List (Nat × List Value)) (C : Array Value), C.size = m → ps.map (fun p => offs[p.1]?) = qs.map (fun q => some (q.1, q.2.length)) → ps.map (fun p => p.2.cells) = qs.map (fun q => q.2.toArray) → (∀ q ∈ qs, q.1 + q.2.length ≤ m) →
    Instr.fill (offs.toArray[·]?) C ps = some (qs.foldl putC C.toList).toArray
  | [], qs, C, _, h, _, _ => by cases qs with
    | nil => simp [Instr.fill]
    | cons q qs => simp at h
  | (j, v) :: ps, [], C, _, h, _, _ => by simp at h
  | (j, v) :: ps, q :: qs, C, hC, h, h1, h2 => by
    simp only [List.map_cons, List.cons.injEq] at h h1
    have hk := h2 q (by simp)
    have hf : (q.2.toArray.zipIdx.foldl (fun (cs : Array Value) (x : Value × Nat) => cs.setIfInBounds (q.1 + x.2) x.1) C).toList = putC C.toList q := by
      have := foldl_set q.2 0 q.1 C (by omega)
      simp only [Nat.add_zero] at this
      unfold putC
      rw [← this, ← Array.foldl_toList]
      simp
    have hsz : (q.2.toArray.zipIdx.foldl (fun (cs : Array Value) (x : Value × Nat) => cs.setIfInBounds (q.1 + x.2) x.1) C).size = m := by
      rw [← Array.length_toList, hf, putC_len _ _ (by simp; omega)]
      simpa using hC
    have ih := fill_gen (offs := offs) ps qs _ hsz h.2 h1.2 (fun q hq => h2 q (List.mem_cons_of_mem _ hq))
    simp only [Instr.fill]
    have e1 : offs.toArray[j]? = some (q.1, q.2.length) := by simpa using h.1
    rw [e1]
    simp only [h1.1]
    rw [if_neg (by simp; omega)]
    rw [hf] at ih
    exact ih
theorem vs_putC {cx : Cx} {w : World} {C : List LV} {D : List Value} {q : Nat × List LV} {u : List Value} (h : Vs cx w C D) (k : Vs cx w q.2 u) : Vs cx w (putC C q) (putC D (q.1, u)) := by
  unfold putC
  have h1 := Vs.splits q.1 C D h
  have h2 := Vs.splits (q.1 + q.2.length) C D h
  rw [← k.length] at h2 ⊢
  exact Vs.append (Vs.append h1.1 k) h2.2
theorem vs_putCs {cx : Cx} {w : World} : ∀ (ks : List Nat) (cs : List (List LV)) (us : List (List Value)) (C : List LV) (D : List Value), Vs cx w C D → us.length = cs.length → (∀ (j : Nat) (u : List Value) (c : List LV), us[j]? = some u → cs[j]? = some c → Vs cx w c u) →
    Vs cx w ((ks.zip cs).foldl putC C) ((ks.zip us).foldl putC D)
  | [], cs, us, C, D, h, _, _ => by simpa using h
  | k :: ks, [], us, C, D, h, hl, _ => by
    have : us = [] := List.eq_nil_of_length_eq_zero (by simpa using hl)
    subst this
    simpa using h
  | k :: ks, c :: cs, [], C, D, h, hl, _ => by simp at hl
  | k :: ks, c :: cs, u :: us, C, D, h, hl, hv => by
    simp only [List.zip_cons_cons, List.foldl_cons]
    exact vs_putCs ks cs us _ _ (vs_putC (q := (k, c)) h (hv 0 u c rfl rfl)) (by simpa using hl) (fun j u' c' h1 h2 => hv (j + 1) u' c' (by simpa using h1) (by simpa using h2))
/-- the cells of several values, each with its own -/
theorem CellsOfs.each : ∀ {ls : List LV} {cs : List (List LV)}, CellsOfs ls cs → ∀ {cx : Cx} {w : World} {vs : List Value}, Vs cx w ls vs →
    ∃ us : List (List Value), vs.map Value.cells = us.map List.toArray ∧ us.length = cs.length ∧ (∀ (j : Nat) (u : List Value) (c : List LV), us[j]? = some u → cs[j]? = some c → Vs cx w c u)
  | [], cs, h, cx, w, vs, hv => by
    simp only [CellsOfs] at h; subst h
    simp only [Vs] at hv; subst hv
    exact ⟨[], by simp, by simp, by simp⟩
  | l :: ls, cs, h, cx, w, vs, hv => by
    obtain ⟨c, r', rfl, h1, h2⟩ := h
    simp only [Vs] at hv
    obtain ⟨y, ys, rfl, hy, hys⟩ := hv
    obtain ⟨u, k1, k2, _⟩ := h1 cx w y hy
    obtain ⟨us, g1, g2, g3⟩ := CellsOfs.each h2 hys
    refine ⟨u :: us, by simp [k1, g1], by simp [g2], fun j u' c' hu hc => ?_⟩
    cases j with
    | zero => simp at hu hc; subst hu; subst hc; exact k2
    | succ j => exact g3 j u' c' (by simpa using hu) (by simpa using hc)
section
variable {P : Program} {r : Option Nat} {N : Nat} {D : List Nat} {B : Base} {all : Array Oper} {K : List (Nat × Ct) → St → Prop}
variable {i : Nat} {ops : List Oper} {tr : List (Nat × Ct)} {E : List (Nat × Ent)} {L : List (Nat × LO)} {n : Nat} {g : Bool} {gn : List (Nat × Ent)}
variable {d ty : Nat} {pos : String} {aft : Array Edge} {gd : Option (Nat × Bool)}
theorem R.buildA {t : Nat} {zs : List Value} {offs : List (Nat × Nat)} (hF : BuildG P t zs offs) {parts : Array (Nat × Operand)} {is ks : List Nat} {xs : List Operand} {es : List Ent} {ls : List LV} {cs : List (List LV)} {ds : List LV}
    (ho : all[i]? = some ⟨some d, .build t parts, ty, pos, aft, gd⟩ := by rfl) (hg : GuardOk (en E) all gd g gn := by first | exact gN | exact gS rfl rfl) (hp' : parts.toList = is.zip xs := by rfl) (hil : is.length = xs.length := by rfl)
    (hx : xs.map (lvOf (en E)) = es.map some := by rfl) (hes : g = true → es.map entLV = ls := by first | exact fun _ => rfl | (intro h; simp [entLV, h]; done) | (intro h; simp only [List.map_cons, List.map_nil, entLV_eq h]; first | done | rfl))
    (hcs : CellsOfs ls cs := by repeat (first | exact CellsOfs.nil | refine CellsOfs.cons (CellsOf.one rfl) ?_ | refine CellsOfs.cons (CellsOf.agg rfl) ?_))
    (hkl : ks.length = cs.length := by rfl) (hk : is.map (fun i => offs[i]?) = (ks.zip cs).map (fun q => some (q.1, q.2.length)) := by rfl) (hlt : ((ks.zip cs).all fun q => decide (q.1 + q.2.length ≤ zs.length)) = true := by rfl)
    (hds : (ks.zip cs).foldl putC (zs.map fun c => .sv (.val c)) = ds := by rfl)
    (h : Reg P r N D B all (i + 1) ops ((i, Ct.p gn xs es (some d) (g, .agg ds) []) :: tr) (st ((d, (g, .agg ds)) :: E) L n) K) :
    Reg P r N D B all i (⟨some d, .build t parts, ty, pos, aft, gd⟩ :: ops) tr (st E L n) K := by
  have hop : (Oper.mk (some d) (.build t parts) ty pos aft gd).op.operands.toList = xs := by
    show (parts.toList.map (·.2)).toArray.toList = xs
    rw [hp']
    simp only [List.toList_toArray]
    exact List.map_snd_zip (by omega)
  refine Reg.pure (es := es) (rd := []) (out := .agg ds) ho hg ?_ (by simp) (fun hgt => ?_) ?_
  · rw [hop]; exact Opnds.of_map hx
  · rw [hes hgt]
    refine OpC.of_pure (by simp) fun md n0 cx H ρ w _ _ hv => ?_
    rw [hop] at hv
    obtain ⟨hz, fields, hu, hm⟩ := hF
    obtain ⟨us, g1, g2, g3⟩ := hcs.each hv
    have hxl : xs.length = cs.length := by
      have h1 := congrArg List.length g1
      simp only [List.length_map] at h1
      omega
    have hpl : (parts.map fun (x : Nat × Operand) => (x.1, ρ x.2)).toList = is.zip (xs.map ρ) := by
      rw [Array.toList_map, hp', List.zip_map_right]
      rfl
    have hfs : (is.zip (xs.map ρ)).map Prod.fst = is := List.map_fst_zip (by rw [List.length_map]; omega)
    have hsn : (is.zip (xs.map ρ)).map Prod.snd = xs.map ρ := List.map_snd_zip (by rw [List.length_map]; omega)
    have hlen : ∀ (j : Nat) (u : List Value) (c : List LV), us[j]? = some u → cs[j]? = some c → u.length = c.length := fun j u c h1 h2 => (g3 j u c h1 h2).length
    have hzz : (ks.zip us).map (fun q => (q.1, q.2.length)) = (ks.zip cs).map (fun q => (q.1, q.2.length)) := by
      apply List.ext_getElem?
      intro j
      rw [List.getElem?_map, List.getElem?_map]
      by_cases hj : j < cs.length
      · have e1 : us[j]? = some us[j] := List.getElem?_eq_getElem (by omega)
        have e2 : cs[j]? = some cs[j] := List.getElem?_eq_getElem hj
        have e3 : ks[j]? = some ks[j] := List.getElem?_eq_getElem (by omega)
        have := hlen j _ _ e1 e2
        have z1 : (ks.zip us)[j]? = some (ks[j], us[j]) := List.getElem?_zip_eq_some.2 ⟨e3, e1⟩
        have z2 : (ks.zip cs)[j]? = some (ks[j], cs[j]) := List.getElem?_zip_eq_some.2 ⟨e3, e2⟩
        rw [z1, z2]; simp [this]
      · rw [List.getElem?_eq_none (by simp; omega), List.getElem?_eq_none (by simp; omega)]
        rfl
    have hmp : (is.zip (xs.map ρ)).map (fun p => offs[p.1]?) = (ks.zip us).map (fun q => some (q.1, q.2.length)) := by
      rw [show (fun p : Nat × Value => offs[p.1]?) = (fun i => offs[i]?) ∘ Prod.fst from rfl, ← List.map_map, hfs, hk]
      have := congrArg (List.map some) hzz
      simp only [List.map_map] at this
      exact this.symm
    have hcl : (is.zip (xs.map ρ)).map (fun p => p.2.cells) = (ks.zip us).map (fun q => q.2.toArray) := by
      rw [show (fun p : Nat × Value => p.2.cells) = Value.cells ∘ Prod.snd from rfl, ← List.map_map, hsn, g1, show (fun q : Nat × List Value => q.2.toArray) = List.toArray ∘ Prod.snd from rfl, ← List.map_map, List.map_snd_zip (by omega)]
    have hle : ∀ q ∈ ks.zip us, q.1 + q.2.length ≤ zs.length := by
      intro q hq
      have : (q.1, q.2.length) ∈ (ks.zip cs).map (fun q => (q.1, q.2.length)) := by rw [← hzz]; exact List.mem_map.2 ⟨q, hq, rfl⟩
      obtain ⟨q2, h2, e2⟩ := List.mem_map.1 this
      have h3 := List.all_eq_true.1 hlt q2 h2
      simp only [decide_eq_true_eq] at h3
      simp only [Prod.mk.injEq] at e2
      omega
    have hfill := fill_gen (offs := offs) (m := zs.length) (is.zip (xs.map ρ)) (ks.zip us) zs.toArray (by simp) hmp hcl hle
    refine ⟨.agg ((ks.zip us).foldl putC zs).toArray, ?_, ?_⟩
    · simp only [execOp, Instr.build, Sem.run_bind, hz w, hu w, Result.andThen_ok, hm w, Value.cells]
      have : (parts.map fun (i, x) => (i, ρ x)).toList = is.zip (xs.map ρ) := hpl
      rw [this]
      simp only [List.toList_toArray] at hfill
      rw [hfill]
      simp
    · rw [← hds]
      simp only [V]
      exact ⟨_, rfl, vs_putCs ks cs us _ _ (vs_map_val cx w zs) g2 g3⟩
  · rw [hop]; exact h
end
end Go.Proofs.YtnamkhifmankmaaDoor
