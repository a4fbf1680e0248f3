/- The ground of the walks: a program logic over told states (no condition). -/
import Derived.Test.YtcobkjognpjikaaGreatDoorKE
import Derived.Lib.Builder
import Derived.Lib.UnsafeStr
import GoSem.Instr.MapUpdate
set_option linter.unusedSimpArgs false
set_option linter.unusedVariables false
/- A cell of an element of a slice of one's own is written. -/
namespace Go.Proofs.YtcobkjognpjikaaGreatDoor

section
variable {P : Program} {r : Option Nat} {N : Nat} {D : List Nat} {B : Base} {all : Array Oper} {K : List (Nat × Ct) → St → Prop}
variable {i : Nat} {ops : List Oper} {tr : List (Nat × Ct)} {E : List (Nat × Ent)} {L : List (Nat × LO)} {n : Nat}
variable {ty : Nat} {pos : String} {aft : Array Edge}
end

end Go.Proofs.YtcobkjognpjikaaGreatDoor

/- max of three numbers. -/
namespace Go.Proofs.YtcobkjognpjikaaGreatDoor
section
variable {P : Program} {r : Option Nat} {N : Nat} {D : List Nat} {B : Base} {all : Array Oper} {K : List (Nat × Ct) → St → Prop}
variable {i : Nat} {ops : List Oper} {tr : List (Nat × Ct)} {E : List (Nat × Ent)} {L : List (Nat × LO)} {n : Nat} {g : Bool} {gn : List (Nat × Ent)}
variable {d ty : Nat} {pos : String} {aft : Array Edge} {gd : Option (Nat × Bool)}
end
end Go.Proofs.YtcobkjognpjikaaGreatDoor

/- A text as an argument. -/
namespace Go.Proofs.YtcobkjognpjikaaGreatDoor
section
open Go.ChangeShapes Go.WideShapes Go.Deep Go.RowKit Go.ChangeAt
theorem Rd.argStr {H : Type} {enc : TypeId × Value → H} {P : Program} {w : World} {t : TypeId} {base : Nat} (ht : P.underlying t = some .string) {v : Value} {d : DataW H} {p : List MemPlace}
    (hok : Value.okWide P w .any base t v) (hv : DataW.Trod enc P w 0 (fun _ => true) true t v d p) : ∃ l : List UInt8, l.length ≤ maxLen ∧ V (cx0 w) w (.t l) v := by
  obtain ⟨m, rfl⟩ := okWide_string ht hok
  obtain ⟨s, ⟨l, rfl, h1⟩, h2⟩ := (Rd.string (enc := enc) (w := w) ht).arg1 hv rfl
  have : (⟨l.toArray⟩ : ByteArray) = m := by simpa [VS, eq_comm] using h2
  subst this
  exact ⟨l, h1, by simp [V, VS]⟩
end
end Go.Proofs.YtcobkjognpjikaaGreatDoor

/- Tables of a package, interface values of plain values, arrays as values. -/
namespace Go.Proofs.YtcobkjognpjikaaGreatDoor

theorem OpC.of_amb {P : Program} {r : Option Nat} {o : Oper} {lvs : List LV} {rd : List (Nat × LO)} {out : LV} (hnd : ∀ c, o.op ≠ .defer c)
    (h : ∀ (md : Nat → Prop) (n0 : Nat) (cx : Cx) (H : Hp) (ρ : Operand → Value) (w : World), HOk md n0 cx H w → Amb cx.pr w → (∀ o x, hp rd o = some x → H o = some x) → Vs cx w lvs (o.op.operands.toList.map ρ) →
      ∃ v, (execOp ρ o).run P w = .ok (.value v) w ∧ V cx w out v) : OpC P r o lvs rd [] out [] [] := by
  refine ⟨by simp, fun md n0 cx H a w K Q hok ham hrd hHi hnew hv hK => ?_⟩
  obtain ⟨v, h1, h4⟩ := h md n0 cx H a.eval w hok ham hrd hv
  refine ⟨fun _ _ => trivial, ?_⟩
  rw [Oper.semAt_eq _ _ _ hnd, h1]
  exact hK _ _ _ (Tr.idle hok) h4

theorem vs_v (cx : Cx) (w : World) : ∀ l : List Value, Vs cx w (l.map LV.v) l
  | [] => by simp [Vs]
  | v :: l => by simp only [List.map_cons, Vs]; exact ⟨v, l, rfl, V.mkval, vs_v cx w l⟩

section
variable {P : Program} {r : Option Nat} {N : Nat} {D : List Nat} {B : Base} {all : Array Oper} {K : List (Nat × Ct) → St → Prop}
variable {i : Nat} {ops : List Oper} {tr : List (Nat × Ct)} {E : List (Nat × Ent)} {L : List (Nat × LO)} {n : Nat} {g : Bool} {gn : List (Nat × Ent)}
variable {d ty : Nat} {pos : String} {aft : Array Edge} {gd : Option (Nat × Bool)}

/-- the place of an element of an array at a plain place -/
theorem R.gIndex {T len sz : Nat} (hF : IndexAF P T len sz) {x y : Operand} {gx gy : Bool} {b off : Nat} {k : IntKind} {j : Int}
    (ho : all[i]? = some ⟨some d, .indexAddr T x y, ty, pos, aft, gd⟩ := by rfl) (hg : GuardOk (en E) all gd g gn := by first | exact gN | exact gS rfl rfl)
    (hx : lvOf (en E) x = some (gx, .v (.pointer (some ⟨b, off, none⟩))) := by rfl) (hy : lvOf (en E) y = some (gy, .v (.int k j)) := by rfl)
    (hgx : g = true → gx = true := by first | exact fun _ => rfl | exact id) (hgy : g = true → gy = true := by first | exact fun _ => rfl | exact id)
    (hj : g = true → 0 ≤ j ∧ j < len)
    (h : Reg P r N D B all (i + 1) ops ((i, Ct.p gn [x, y] [(gx, .v (.pointer (some ⟨b, off, none⟩))), (gy, .v (.int k j))] (some d) (g, .v (.pointer (some ⟨b, off + j.toNat * sz, none⟩))) []) :: tr) (st ((d, (g, .v (.pointer (some ⟨b, off + j.toNat * sz, none⟩)))) :: E) L n) K) :
    Reg P r N D B all i (⟨some d, .indexAddr T x y, ty, pos, aft, gd⟩ :: ops) tr (st E L n) K :=
  Reg.two rfl (fun h => by
    rw [entLV_true h hgx, entLV_true h hgy]
    refine OpC.of_pure2 (x := x) (y := y) rfl (by simp) fun md n0 cx H ρ w hok hrd v1 v2 => ?_
    obtain ⟨h0, hlt⟩ := hj h
    exact ⟨.pointer (some ⟨b, off + j.toNat * sz, none⟩), by simp only [execOp, v1.val, v2.val]; simp [hF b off k j w h0 hlt], V.mkval⟩) ho hg hx hy (by simp) h

/-- one cell of a package's table -/
theorem R.gLoad1 {T : Nat} (hF : OneF P T) {x : Operand} {gx : Bool} {b off : Nat} {cs : List Value} {v : Value} (hm : (b, cs) ∈ tabs)
    (ho : all[i]? = some ⟨some d, .load T x, ty, pos, aft, gd⟩ := by rfl) (hg : GuardOk (en E) all gd g gn := by first | exact gN | exact gS rfl rfl)
    (hx : lvOf (en E) x = some (gx, .v (.pointer (some ⟨b, off, none⟩))) := by rfl) (hgx : g = true → gx = true := by first | exact fun _ => rfl | exact id) (hc : g = true → cs[off]? = some v)
    (h : Reg P r N D B all (i + 1) ops ((i, Ct.p gn [x] [(gx, .v (.pointer (some ⟨b, off, none⟩)))] (some d) (g, .v v) []) :: tr) (st ((d, (g, .v v)) :: E) L n) K) :
    Reg P r N D B all i (⟨some d, .load T x, ty, pos, aft, gd⟩ :: ops) tr (st E L n) K :=
  Reg.one rfl (fun h => by
    rw [entLV_true h hgx]
    refine OpC.of_amb (by simp) fun md n0 cx H ρ w hok ham _ hv => ?_
    have hop : (Oper.mk (some d) (.load T x) ty pos aft gd).op.operands.toList = [x] := rfl
    rw [hop] at hv
    have e := (Vs.one hv).val
    obtain ⟨_, T', fr, hb⟩ := ham.1 _ hm
    have hcell : w.cell? ⟨b, off, none⟩ = some v := by simp [World.cell?, hb, hc h]
    exact ⟨v, by simp [execOp, e, Instr.loadAt, Instr.sureAddr, loadVar, hF.1 w, hcell], V.mkval⟩) ho hg hx (by simp) h

/-- the whole of a package's table -/
theorem R.gLoadN {T sz : Nat} (hF : AggF P T sz) {x : Operand} {gx : Bool} {b : Nat} {cs : List Value} (hm : (b, cs) ∈ tabs)
    (ho : all[i]? = some ⟨some d, .load T x, ty, pos, aft, gd⟩ := by rfl) (hg : GuardOk (en E) all gd g gn := by first | exact gN | exact gS rfl rfl)
    (hx : lvOf (en E) x = some (gx, .v (.pointer (some ⟨b, 0, none⟩))) := by rfl) (hgx : g = true → gx = true := by first | exact fun _ => rfl | exact id) (hc : cs.length = sz := by rfl)
    (h : Reg P r N D B all (i + 1) ops ((i, Ct.p gn [x] [(gx, .v (.pointer (some ⟨b, 0, none⟩)))] (some d) (g, .agg (cs.map LV.v)) []) :: tr) (st ((d, (g, .agg (cs.map LV.v))) :: E) L n) K) :
    Reg P r N D B all i (⟨some d, .load T x, ty, pos, aft, gd⟩ :: ops) tr (st E L n) K :=
  Reg.one rfl (fun h => by
    rw [entLV_true h hgx]
    refine OpC.of_amb (by simp) fun md n0 cx H ρ w hok ham _ hv => ?_
    have hop : (Oper.mk (some d) (.load T x) ty pos aft gd).op.operands.toList = [x] := rfl
    rw [hop] at hv
    have e := (Vs.one hv).val
    obtain ⟨_, T', fr, hb⟩ := ham.1 _ hm
    refine ⟨.agg cs.toArray, ?_, by simp only [V]; exact ⟨cs, rfl, vs_v cx w cs⟩⟩
    have hl : (loadCells ⟨b, 0, none⟩ cs.length).run P w = .ok cs.toArray w := run_loadCells_list (P := P) w ⟨b, 0, none⟩ cs (fun j v hv => by
      rw [add_off, Nat.zero_add]; simp [World.cell?, hb, hv])
    rw [hc] at hl
    simp [execOp, e, Instr.loadAt, Instr.sureAddr, loadVar, hF.1 w, hF.2 w, hl]) ho hg hx (by simp) h

/-- an element, of several cells, of an array's value of plain cells -/
def IndexVF (P : Program) (T len sz : Nat) : Prop := ∃ e, (∀ w, (underlying T).run P w = .ok (.array len e) w) ∧ (∀ w, (isAgg e).run P w = .ok true w) ∧ (∀ w, (sizeOf e).run P w = .ok sz w)
theorem R.indexVN {T len sz : Nat} (hF : IndexVF P T len sz) {x y : Operand} {gx gy : Bool} {cs : List Value} {k : IntKind} {j : Int}
    (ho : all[i]? = some ⟨some d, .index T x y, ty, pos, aft, gd⟩ := by rfl) (hg : GuardOk (en E) all gd g gn := by first | exact gN | exact gS rfl rfl)
    (hx : lvOf (en E) x = some (gx, .agg (cs.map LV.v)) := by rfl) (hy : lvOf (en E) y = some (gy, .v (.int k j)) := by rfl)
    (hgx : g = true → gx = true := by first | exact fun _ => rfl | exact id) (hgy : g = true → gy = true := by first | exact fun _ => rfl | exact id)
    (hj : g = true → 0 ≤ j ∧ j < len)
    (h : Reg P r N D B all (i + 1) ops ((i, Ct.p gn [x, y] [(gx, .agg (cs.map LV.v)), (gy, .v (.int k j))] (some d) (g, .agg (((cs.drop (j.toNat * sz)).take sz).map LV.v)) []) :: tr) (st ((d, (g, .agg (((cs.drop (j.toNat * sz)).take sz).map LV.v))) :: E) L n) K) :
    Reg P r N D B all i (⟨some d, .index T x y, ty, pos, aft, gd⟩ :: ops) tr (st E L n) K :=
  Reg.two rfl (fun h => by
    rw [entLV_true h hgx, entLV_true h hgy]
    refine OpC.of_pure2 (x := x) (y := y) rfl (by simp) fun md n0 cx H ρ w hok hrd v1 v2 => ?_
    obtain ⟨h0, hlt⟩ := hj h
    obtain ⟨e, hT, he, hs⟩ := hF
    have e1 := V.aggV (cs := cs) rfl v1
    refine ⟨.agg ((cs.drop (j.toNat * sz)).take sz).toArray, ?_, by simp only [V]; exact ⟨_, rfl, vs_v cx w _⟩⟩
    have hx : cs.toArray.extract (j.toNat * sz) (j.toNat * sz + sz) = ((cs.drop (j.toNat * sz)).take sz).toArray := by
      rw [List.extract_toArray, List.extract_eq_take_drop]; congr 2; omega
    simp only [execOp, e1, v2.val]
    simp [Instr.index, asIntOf, hT w, hs w, h0, hlt, part, he w, hx]) ho hg hx hy (by simp) h

/-- a plain value in an interface -/
theorem R.mkI {T : Nat} {x : Operand} {gx : Bool} {a : Value} (hT : ∀ w, (Instr.makeInterface T a).run P w = .ok (.iface T a) w) (ho : all[i]? = some ⟨some d, .makeInterface T x, ty, pos, aft, gd⟩ := by rfl)
    (hg : GuardOk (en E) all gd g gn := by first | exact gN | exact gS rfl rfl)
    (hx : lvOf (en E) x = some (gx, .v a) := by rfl) (hgx : g = true → gx = true := by first | exact fun _ => rfl | exact id)
    (h : Reg P r N D B all (i + 1) ops ((i, Ct.p gn [x] [(gx, .v a)] (some d) (g, .v (.iface T a)) []) :: tr) (st ((d, (g, .v (.iface T a))) :: E) L n) K) :
    Reg P r N D B all i (⟨some d, .makeInterface T x, ty, pos, aft, gd⟩ :: ops) tr (st E L n) K :=
  Reg.one rfl (fun h => by
    rw [entLV_true h hgx]
    refine OpC.of_pure1 (x := x) rfl (by simp) fun md n0 cx H ρ w _ _ hvv => ?_
    have e := hvv.val
    exact ⟨_, by simp [execOp, e, hT w], V.mkval⟩) ho hg hx (by simp) h
/-- is an interface's value of a type, and which one -/
theorem R.tassert {xT T : Nat} {x : Operand} {gx : Bool} {a v : Value} {b : Bool} (hT : ∀ w, (Instr.typeAssert a xT T true).run P w = .ok (.tuple #[v, .bool b]) w) (ho : all[i]? = some ⟨some d, .typeAssert x xT T true, ty, pos, aft, gd⟩ := by rfl)
    (hg : GuardOk (en E) all gd g gn := by first | exact gN | exact gS rfl rfl)
    (hx : lvOf (en E) x = some (gx, .v a) := by rfl) (hgx : g = true → gx = true := by first | exact fun _ => rfl | exact id)
    (h : Reg P r N D B all (i + 1) ops ((i, Ct.p gn [x] [(gx, .v a)] (some d) (g, .tup [.v v, .b b]) []) :: tr) (st ((d, (g, .tup [.v v, .b b])) :: E) L n) K) :
    Reg P r N D B all i (⟨some d, .typeAssert x xT T true, ty, pos, aft, gd⟩ :: ops) tr (st E L n) K :=
  Reg.one rfl (fun h => by
    rw [entLV_true h hgx]
    refine OpC.of_pure1 (x := x) rfl (by simp) fun md n0 cx H ρ w _ _ hvv => ?_
    have e := hvv.val
    exact ⟨.tuple #[v, .bool b], by simp [execOp, e, hT w], by simp only [V, Vs]; exact ⟨[v, .bool b], rfl, _, _, rfl, by simp [VS], _, _, rfl, by simp [VS], rfl⟩⟩) ho hg hx (by simp) h
end
theorem run_tyes {P : Program} {t xT T : Nat} {v : Value} {de : TypeDesc} (hu : ∀ w, (underlying T).run P w = .ok de w) (hn : ∀ ms, de ≠ .interface ms) (ht : t = T) : ∀ w, (Instr.typeAssert (.iface t v) xT T true).run P w = .ok (.tuple #[v, .bool true]) w := fun w => by
  subst ht
  cases de <;> first | exact absurd rfl (hn _) | simp [Instr.typeAssert, hu w]
theorem run_tno {P : Program} {t xT T : Nat} {v z : Value} {de : TypeDesc} (hu : ∀ w, (underlying T).run P w = .ok de w) (hn : ∀ ms, de ≠ .interface ms) (hz : ∀ w, (zeroValue T).run P w = .ok z w) (ht : (t == T) = false) : ∀ w, (Instr.typeAssert (.iface t v) xT T true).run P w = .ok (.tuple #[z, .bool false]) w := fun w => by
  have hne : t ≠ T := by simpa using ht
  cases de <;> first | exact absurd rfl (hn _) | simp [Instr.typeAssert, hu w, hne, hz w]
theorem run_mkI {P : Program} {T : Nat} {v : Value} {de : TypeDesc} (hu : ∀ w, (underlying T).run P w = .ok de w) (hn : ∀ ms, de ≠ .interface ms) : ∀ w, (Instr.makeInterface T v).run P w = .ok (.iface T v) w := fun w => by
  cases de <;> first | exact absurd rfl (hn _) | simp [Instr.makeInterface, hu w]

end Go.Proofs.YtcobkjognpjikaaGreatDoor

/- make: a slice of one's own. -/
namespace Go.Proofs.YtcobkjognpjikaaGreatDoor

section
variable {P : Program} {r : Option Nat} {N : Nat} {D : List Nat} {B : Base} {all : Array Oper} {K : List (Nat × Ct) → St → Prop}
variable {i : Nat} {ops : List Oper} {tr : List (Nat × Ct)} {E : List (Nat × Ent)} {L : List (Nat × LO)} {n : Nat} {g : Bool} {gn : List (Nat × Ent)}
variable {d ty : Nat} {pos : String} {aft : Array Edge} {gd : Option (Nat × Bool)}

theorem makeCells_rep (v : Value) (h : v.cells = #[v]) (m : Nat) : madeCells v.cells m = (List.replicate m v).toArray := by
  rw [h]
  apply Array.ext
  · simp [size_madeCells]
  · intro j h1 h2
    simp [madeCells, Nat.mod_one]

/-- a slice of zeroes, of one's own, with room for more -/
theorem R.makeOwn {t e : Nat} {k : IntKind} (hF : AppF P t e 1) (hz : ((P.info? e).bind fun i => i.zero) = some (.int k 0)) {x y : Operand} {k1 k2 : IntKind} {l c : Int}
    (ho : all[i]? = some ⟨some d, .makeSlice t x y, ty, pos, aft, none⟩ := by rfl)
    (hx : lvOf (en E) x = some (true, .v (.int k1 l)) := by rfl) (hy : lvOf (en E) y = some (true, .v (.int k2 c)) := by rfl) (h0 : 0 ≤ l) (hlc : l ≤ c) (hm : c ≤ 16777216)
    (h : Reg P r N D B all (i + 1) ops ((i, ⟨needOf [x, y] [(true, .v (.int k1 l)), (true, .v (.int k2 c))], some d, (true, .ref n), [], [], [(n, .rs e 1 (ic k (List.replicate l.toNat 0)))], [n]⟩) :: tr) (st ((d, (true, .ref n)) :: E) ((n, .rs e 1 (ic k (List.replicate l.toNat 0))) :: L) (n + 1)) K) :
    Reg P r N D B all i (⟨some d, .makeSlice t x y, ty, pos, aft, none⟩ :: ops) tr (st E L n) K := by
  have hop : (Oper.mk (some d) (.makeSlice t x y) ty pos aft none).op.operands.toList = [x, y] := rfl
  refine Reg.new (es := [(true, .v (.int k1 l)), (true, .v (.int k2 c))]) (rd := []) ho gN ?_ (by simp) (OpC.tellNew (x := .row e 1 ((ic k (List.replicate l.toNat 0)).map (List.map LV.sv))) ?_ (fun cx w hx => ObjOk.row_rs hx)) (by rw [hop]; exact h)
  · rw [hop]; exact ⟨_, _, rfl, hx, _, _, rfl, hy, rfl⟩
  · refine OpC.of_run (by simp) (by simp) fun md n0 cx H ρ w hok _ _ hnew hv => ?_
    rw [hop] at hv
    obtain ⟨v1, v2⟩ := Vs.two hv
    simp only [entLV] at v1 v2
    obtain ⟨hu, inf, z, hi, hzz, hs, hbb, _⟩ := hF.get
    have hz0 : inf.zero = some (.int k 0) := by rw [hi] at hz; simpa using hz
    have hb2 : (inf.bytes : Int) * c ≤ 281474976710656 := by
      have h1 : (inf.bytes : Int) * c ≤ 16777216 * 16777216 := Int.mul_le_mul (by omega) hm (by omega) (by omega)
      omega
    have hrun := run_make w t e inf z hu hi hzz k1 k2 l c h0 hlc hb2 (by omega)
    rw [hz0] at hzz
    cases hzz
    rw [hs, Nat.mul_one, makeCells_rep _ rfl] at hrun
    have hfl : ((ic k (List.replicate l.toNat 0)).map (List.map LV.sv)).flatten = (List.replicate l.toNat (Value.int k 0)).map LV.v := by
      rw [closed_flat, ic_flat]; simp
    have hln : ((ic k (List.replicate l.toNat 0)).map (List.map LV.sv)).length = l.toNat := by simp [ic]
    obtain ⟨cx', t1, hv'⟩ := row_new (T := e) (sz := 1) (w0 := w) (xs := (ic k (List.replicate l.toNat 0)).map (List.map LV.sv)) (vs := List.replicate l.toNat (Value.int k 0)) (cells := (List.replicate c.toNat (Value.int k 0)).toArray) (cap := c.toNat) hok (hnew n (by simp)) ⟨rfl, rfl, rfl, rfl⟩
      (by simp [ic]) (by rw [hfl]; exact vs_v cx w _) (fun u hu => by rw [(List.mem_replicate.1 hu).2]; rfl) (by rw [hln]; omega) (by unfold maxLen; omega) (by simp) (by rw [hln]; simp; omega)
    rw [hln] at hv'
    refine ⟨_, _, _, cx', ?_, .inl rfl, t1, hv'⟩
    simp only [execOp, v1.val, v2.val, Sem.run_bind, hrun]
    simp

end

end Go.Proofs.YtcobkjognpjikaaGreatDoor

/- A call of 'yield' that hangs on a sign; rounds in a row by their states. -/
namespace Go.Proofs.YtcobkjognpjikaaGreatDoor

section
variable {P : Program} {r : Option Nat} {N : Nat} {D : List Nat} {B : Base} {all : Array Oper} {K : List (Nat × Ct) → St → Prop}
variable {i : Nat} {ops : List Oper} {tr : List (Nat × Ct)} {E : List (Nat × Ent)} {L : List (Nat × LO)} {n : Nat} {g : Bool} {gn : List (Nat × Ent)}
variable {d ty : Nat} {pos : String} {aft : Array Edge} {gd : Option (Nat × Bool)}

theorem R.callYldG {y : Nat} {fo : Operand} {args : Array Operand} {ats : Array TypeId} {es : List Ent} {lvs : List LV} {Lc Lc1 : List (Nat × LO)} {b : Bool} (hc : Yld P y lvs Lc b Lc1)
    (ho : all[i]? = some ⟨some d, .call { callee := .value fo, args := args, argTypes := ats }, ty, pos, aft, gd⟩ := by rfl) (hg : GuardOk (en E) all gd g gn := by first | exact gN | exact gS rfl rfl) (hgt : g = true := by rfl)
    (hf : lvOf (en E) fo = some (true, .yld y) := by rfl)
    (hx : args.toList.map (lvOf (en E)) = es.map some := by rfl) (hes : es.map entLV = lvs := by rfl) (hL : ∀ k x, hp Lc k = some x → hp L k = some x)
    (h : Reg P r N D B all (i + 1) ops ((i, ⟨gn ++ needOf (fo :: args.toList) ((true, .yld y) :: es), some d, (true, .b b), [], Lc, Lc1, []⟩) :: tr) (st ((d, (true, .b b)) :: E) (Lc1 ++ L) n) K) :
    Reg P r N D B all i (⟨some d, .call { callee := .value fo, args := args, argTypes := ats }, ty, pos, aft, gd⟩ :: ops) tr (st E L n) K := by
  have hl : (Oper.mk (some d) (.call { callee := .value fo, args := args, argTypes := ats }) ty pos aft gd).op.operands.toList = fo :: args.toList := by simp [Op.operands, Go.Call.operands]
  have hop : Opnds (en E) (fo :: args.toList) ((true, .yld y) :: es) := ⟨_, _, rfl, hf, Opnds.of_map hx⟩
  subst hgt
  refine Reg.cons (c := ⟨gn ++ needOf (fo :: args.toList) ((true, .yld y) :: es), some d, (true, .b b), [], Lc, Lc1, []⟩) (fun hN => ?_) ⟨fun p hp' => by
    rcases List.mem_append.1 hp' with h1 | h1
    · exact hg.need p h1
    · exact hop.need p h1, by simp, hL, by simp⟩ ?_
  · have := CtOk.of_op (r := r) (D := D) (B := B) (o := ⟨some d, .call { callee := .value fo, args := args, argTypes := ats }, ty, pos, aft, gd⟩) (es := (true, .yld y) :: es) (E := en E) (out := .b b) ho hN.dst hg
      (fun _ => by have := OpC.yld (r := r) hc (o := ⟨some d, .call { callee := .value fo, args := args, argTypes := ats }, ty, pos, aft, gd⟩) rfl rfl; rw [← hes] at this; exact this) (by rw [hl]; exact hop) (.inl rfl)
    rw [hl] at this
    simpa using this
  · have : (Ct.app ⟨gn ++ needOf (fo :: args.toList) ((true, .yld y) :: es), some d, (true, .b b), [], Lc, Lc1, []⟩ (st E L n)) = st ((d, (true, .b b)) :: E) (Lc1 ++ L) n := by
      simp only [Ct.app, putE_putL, putL]
      congr 1
      · funext k
        simp only [Hp.upd, hp, lookup_append']
        cases hk : Lc1.lookup k with
        | some x => rfl
        | none =>
          simp only []
          cases hk2 : Lc.lookup k with
          | some x =>
            exfalso
            have h1 : k ∈ Lc1.map (·.1) := by rw [hc.1]; exact List.mem_map.2 ⟨_, lookup_mem' hk2, rfl⟩
            obtain ⟨p, hp', rfl⟩ := List.mem_map.1 h1
            have := lookup_of_nodup (l := Lc1) (by rw [hc.1, hc.2.rng]; exact List.nodup_range) (k := p.1) (v := p.2) hp'
            rw [this] at hk; cases hk
          | none => rfl
      · funext k; simp
    rw [this]; exact h

end

/-- what stands in the head of two lists of objects stands in both -/
theorem hp_app {A B : List (Nat × LO)} {o : Nat} {x : LO} (h : hp A o = some x) : hp (A ++ B) o = some x := by
  simp only [hp, lookup_append'] at h ⊢
  rw [h]
/-- rounds in a row: S j are the objects before round j; C says what all of them hold -/
structure YGo (P : Program) (y m : Nat) (xs : List LV) (C : List (Nat × LO) → Prop) (S : Nat → List (Nat × LO)) : Prop where
  keys : ∀ j, j ≤ xs.length → (S j).map (·.1) = List.range m
  lt : ∀ j, j ≤ xs.length → ∀ p ∈ S j, p.2.lt m = true
  hold : ∀ j, j ≤ xs.length → C (S j)
  step : ∀ j (h : j < xs.length), Yld P y [xs[j]] (S j) true (S (j + 1))
theorem YGo.keep {P : Program} {y m : Nat} {xs : List LV} {C : List (Nat × LO) → Prop} {S : Nat → List (Nat × LO)} (h : YGo P y m xs C S) {j : Nat} (hj : j ≤ xs.length) (L : List (Nat × LO)) : KeepL (hp (S j ++ L)) (S j) :=
  KeepL.app (by rw [h.keys j hj]; exact List.nodup_range)
theorem YGo.self {P : Program} {y m : Nat} {xs : List LV} {C : List (Nat × LO) → Prop} {S : Nat → List (Nat × LO)} (h : YGo P y m xs C S) {j : Nat} (hj : j ≤ xs.length) : KeepL (hp (S j)) (S j) :=
  KeepL.of fun p hp' => lookup_of_nodup (by rw [h.keys j hj]; exact List.nodup_range) hp'
theorem YGo.at_ {P : Program} {y m : Nat} {xs : List LV} {C : List (Nat × LO) → Prop} {S : Nat → List (Nat × LO)} (h : YGo P y m xs C S) {j : Nat} {x : LV} (hx : xs[j]? = some x) : Yld P y [x] (S j) true (S (j + 1)) := by
  have hj := (List.getElem?_eq_some_iff.1 hx)
  have := h.step j hj.1
  rw [hj.2] at this
  exact this
theorem YGo.all {P : Program} {y m : Nat} {xs : List LV} {C : List (Nat × LO) → Prop} {S : Nat → List (Nat × LO)} (h : YGo P y m xs C S) {j : Nat} (hj : j ≤ xs.length) : ((S j).all fun p => decide (p.1 < m) && p.2.lt m) = true := by
  rw [List.all_eq_true]
  intro p hp'
  have h1 : p.1 ∈ (S j).map (·.1) := List.mem_map.2 ⟨p, hp', rfl⟩
  rw [h.keys j hj, List.mem_range] at h1
  simp [h1, h.lt j hj p hp']
end Go.Proofs.YtcobkjognpjikaaGreatDoor

/- A struct out of some of its fields, of one cell each; other fields may be larger. -/
namespace Go.Proofs.YtcobkjognpjikaaGreatDoor

def BuildG (P : Program) (t : Nat) (zs : List Value) (offs : List (Nat × Nat)) : Prop := (∀ w, (zeroValue t).run P w = .ok (.agg zs.toArray) w) ∧ ∃ fields, (∀ w, (underlying t).run P w = .ok (.struct fields) w) ∧
  ∀ w, (fields.mapM fun (f : Field) => (do pure (f.offset, ← sizeOf f.type) : Sem (Nat × Nat))).run P w = .ok offs.toArray w

theorem fill_offs {offs : List (Nat × Nat)} {m : Nat} : ∀ (ps : List (Nat × Value)) (ks : List Nat) (C : Array Value), C.size = m → ps.map (fun p => offs[p.1]?) = ks.map (fun k => some (k, 1)) → (∀ p ∈ ps, p.2.oneCell' = true) → (∀ k ∈ ks, k < m) →
    Instr.fill (offs.toArray[·]?) C ps = some ((ks.zip (ps.map (·.2))).foldl (fun (C : List Value) p => C.set p.1 p.2) C.toList).toArray
  | [], ks, C, _, h, _, _ => by cases ks with
    | nil => simp [Instr.fill]
    | cons k ks => simp at h
  | (j, v) :: ps, [], C, _, h, _, _ => by simp at h
  | (j, v) :: ps, k :: ks, C, hC, h, h1, h2 => by
    simp only [List.map_cons, List.cons.injEq] at h
    have hv := cells_one (h1 (j, v) (by simp))
    have hk := h2 k (by simp)
    have ih := fill_offs ps ks (C.setIfInBounds k v) (by simpa using hC) h.2 (fun p hp' => h1 p (List.mem_cons_of_mem _ hp')) (fun p hp' => h2 p (List.mem_cons_of_mem _ hp'))
    simp only [Instr.fill]
    have e1 : offs.toArray[j]? = some (k, 1) := by simpa using h.1
    rw [e1]
    simp only [hv]
    have e2 : ¬ (k + 1 > C.size) := by omega
    rw [if_neg (by simpa using e2)]
    have e3 : Array.foldl (fun (cs : Array Value) (x : Value × Nat) => cs.setIfInBounds (k + x.2) x.1) C (#[v].zipIdx) = C.setIfInBounds k v := by
      rw [← Array.foldl_toList, Array.toList_zipIdx]; rfl
    have ih2 := ih.trans (show _ = some (List.foldl (fun (C : List Value) p => C.set p.1 p.2) C.toList ((k :: ks).zip (((j, v) :: ps).map (·.2)))).toArray by simp)
    rw [← ih2, ← e3]

section
variable {P : Program} {r : Option Nat} {N : Nat} {D : List Nat} {B : Base} {all : Array Oper} {K : List (Nat × Ct) → St → Prop}
variable {i : Nat} {ops : List Oper} {tr : List (Nat × Ct)} {E : List (Nat × Ent)} {L : List (Nat × LO)} {n : Nat} {g : Bool} {gn : List (Nat × Ent)}
variable {d ty : Nat} {pos : String} {aft : Array Edge} {gd : Option (Nat × Bool)}

theorem R.buildG {t : Nat} {zs : List Value} {offs : List (Nat × Nat)} (hF : BuildG P t zs offs) {parts : Array (Nat × Operand)} {is ks : List Nat} {xs : List Operand} {es : List Ent} {ls cs : List LV}
    (ho : all[i]? = some ⟨some d, .build t parts, ty, pos, aft, gd⟩ := by rfl) (hg : GuardOk (en E) all gd g gn := by first | exact gN | exact gS rfl rfl) (hp' : parts.toList = is.zip xs := by rfl) (hil : is.length = xs.length := by rfl) (hk : is.map (fun i => offs[i]?) = ks.map (fun k => some (k, 1)) := by rfl) (hlt : (ks.all fun k => decide (k < zs.length)) = true := by rfl)
    (hx : xs.map (lvOf (en E)) = es.map some := by rfl) (hes : g = true → es.map entLV = ls := by first | exact fun _ => rfl | (intro h; simp [entLV, h]; done) | (intro h; simp only [List.map_cons, List.map_nil, entLV_eq h]; first | done | rfl)) (h1 : ls.all LV.one = true := by rfl) (hcs : bcells zs ks ls = cs := by rfl)
    (h : Reg P r N D B all (i + 1) ops ((i, Ct.p gn xs es (some d) (g, .agg cs) []) :: tr) (st ((d, (g, .agg cs)) :: E) L n) K) :
    Reg P r N D B all i (⟨some d, .build t parts, ty, pos, aft, gd⟩ :: ops) tr (st E L n) K := by
  have hop : (Oper.mk (some d) (.build t parts) ty pos aft gd).op.operands.toList = xs := by
    show (parts.toList.map (·.2)).toArray.toList = xs
    rw [hp']
    simp only [List.toList_toArray]
    exact List.map_snd_zip (by omega)
  refine Reg.pure (es := es) (rd := []) (out := .agg cs) ho hg ?_ (by simp) (fun hgt => ?_) ?_
  · rw [hop]; exact Opnds.of_map hx
  · rw [hes hgt]
    refine OpC.of_pure (by simp) fun md n0 cx H ρ w _ _ hv => ?_
    rw [hop] at hv
    obtain ⟨hz, fields, hu, hm⟩ := hF
    have hones := Vs.ones h1 hv
    have hpl : (parts.map fun (x : Nat × Operand) => (x.1, ρ x.2)).toList = is.zip (xs.map ρ) := by
      rw [Array.toList_map, hp', List.zip_map_right]
      rfl
    have hsn : (is.zip (xs.map ρ)).map (·.2) = xs.map ρ := List.map_snd_zip (by rw [List.length_map]; omega)
    have hfs : (is.zip (xs.map ρ)).map (·.1) = is := List.map_fst_zip (by rw [List.length_map]; omega)
    have hmp : (is.zip (xs.map ρ)).map (fun p => offs[p.1]?) = ks.map (fun k => some (k, 1)) := by
      rw [← hk, show (fun p : Nat × Value => offs[p.1]?) = (fun i => offs[i]?) ∘ Prod.fst from rfl, ← List.map_map, show (is.zip (xs.map ρ)).map Prod.fst = is from hfs]
    have hfill := fill_offs (offs := offs) (m := zs.length) (is.zip (xs.map ρ)) ks zs.toArray (by simp) hmp (fun p hpm => hones _ (List.of_mem_zip hpm).2) (fun k hk' => by simpa using List.all_eq_true.1 hlt k hk')
    rw [hsn] at hfill
    refine ⟨.agg ((ks.zip (xs.map ρ)).foldl (fun (C : List Value) p => C.set p.1 p.2) zs).toArray, ?_, ?_⟩
    · simp only [execOp, Instr.build, Sem.run_bind, hz w, hu w, Result.andThen_ok, hm w, Value.cells]
      have : (parts.map fun (i, x) => (i, ρ x)).toList = is.zip (xs.map ρ) := hpl
      rw [this]
      simp only [List.toList_toArray] at hfill
      rw [hfill]
      simp
    · rw [← hcs]
      simp only [V]
      refine ⟨_, rfl, bcells_ok ks ls _ _ _ ?_ hv⟩
      exact vs_map_val cx w zs
  · rw [hop]; exact h
end

end Go.Proofs.YtcobkjognpjikaaGreatDoor

/- Structs within structs: parts of boxes, what is read of them. -/
namespace Go.Proofs.YtcobkjognpjikaaGreatDoor

section
variable {P : Program} {r : Option Nat} {N : Nat} {D : List Nat} {B : Base} {all : Array Oper} {K : List (Nat × Ct) → St → Prop}
variable {i : Nat} {ops : List Oper} {tr : List (Nat × Ct)} {E : List (Nat × Ent)} {L : List (Nat × LO)} {n : Nat} {g : Bool} {gn : List (Nat × Ent)}
variable {d ty : Nat} {pos : String} {aft : Array Edge} {gd : Option (Nat × Bool)}

/-- a part of a box -/
theorem R.loadP {T TB sz : Nat} (hF : AggF P T sz) {x : Operand} {gx : Bool} {o off : Nat} {cs ds : List LV}
    (ho : all[i]? = some ⟨some d, .load T x, ty, pos, aft, gd⟩ := by rfl) (hg : GuardOk (en E) all gd g gn := by first | exact gN | exact gS rfl rfl)
    (hx : lvOf (en E) x = some (gx, .ptr o off) := by rfl) (hgx : g = true → gx = true := by first | exact fun _ => rfl | exact id) (hb : hp L o = some (.box TB cs) := by rfl) (hc : (cs.drop off).take sz = ds := by rfl) (hl : ds.length = sz := by rfl)
    (h : Reg P r N D B all (i + 1) ops ((i, Ct.p gn [x] [(gx, .ptr o off)] (some d) (g, .agg ds) [(o, .box TB cs)]) :: tr) (st ((d, (g, .agg ds)) :: E) L n) K) :
    Reg P r N D B all i (⟨some d, .load T x, ty, pos, aft, gd⟩ :: ops) tr (st E L n) K :=
  Reg.one rfl (fun h => by
    rw [entLV_true h hgx]
    refine OpC.of_pure1 (x := x) rfl (by simp) fun md n0 cx H ρ w hok hrd hvv => ?_
    simp only [V] at hvv
    obtain ⟨hA, b, hbk, he⟩ := hvv
    obtain ⟨b', vs, k1, k2, k3⟩ := (hok.ok o _ (hrd o (.box TB cs) (by simp))).2
    rw [k1] at hbk
    simp only [bk, Option.some.injEq] at hbk
    subst hbk
    have k4 := (Vs.splits sz _ _ (Vs.splits off _ _ k3).2).1
    rw [hc] at k4
    refine ⟨.agg ((vs.drop off).take sz).toArray, ?_, by simp only [V]; exact ⟨_, rfl, k4⟩⟩
    have hlen := k4.length
    rw [hl] at hlen
    have hl2 : (loadCells ⟨b', off, none⟩ ((vs.drop off).take sz).length).run P w = .ok ((vs.drop off).take sz).toArray w := run_loadCells_list (P := P) w ⟨b', off, none⟩ _ (fun j v hv => by
      rw [add_off]
      have : vs[off + j]? = some v := by
        rw [List.getElem?_take] at hv
        split at hv
        · rw [List.getElem?_drop] at hv; exact hv
        · cases hv
      simp [World.cell?, k2, this])
    rw [hlen] at hl2
    simp [execOp, he, Instr.loadAt, Instr.sureAddr, loadVar, hF.1 w, hF.2 w, hl2]) ho hg hx (fun k y hy => by
      simp only [hp, List.lookup_cons] at hy
      split at hy
      · rename_i hh; simp at hh; cases hy; subst hh; exact hb
      · simp at hy) h
end

section
open Go.ChangeShapes Go.WideShapes Go.Deep Go.RowKit Go.ChangeAt
variable {H : Type} {enc : TypeId × Value → H} {P : Program} {w : World}

def offsB (P : Program) : List Field → Nat → Option Nat
  | [], k => some k
  | f :: fs, k => if f.offset = k then offsB P fs (k + P.cellsOf f.type) else none
/-- closed cells, and what they hold, one by one -/
def Rl (w : World) (ss : List SV) (cs : List Value) : Prop := ss.length = cs.length ∧ ∀ (j : Nat) (s : SV) (v : Value), ss[j]? = some s → cs[j]? = some v → VS (cellsAt w) w s v ∧ v.oneCell' = true
theorem Rl.app {a a' : List SV} {b b' : List Value} (h : Rl w a b) (h' : Rl w a' b') : Rl w (a ++ a') (b ++ b') := by
  refine ⟨by simp [h.1, h'.1], fun j s v hs hv => ?_⟩
  rcases Nat.lt_or_ge j a.length with hj | hj
  · rw [List.getElem?_append_left hj] at hs
    rw [List.getElem?_append_left (by rw [← h.1]; exact hj)] at hv
    exact h.2 j s v hs hv
  · rw [List.getElem?_append_right hj] at hs
    rw [List.getElem?_append_right (by rw [← h.1]; exact hj), ← h.1] at hv
    exact h'.2 _ s v hs hv
end

end Go.Proofs.YtcobkjognpjikaaGreatDoor

/- Rounds in a row by their states, any number of values a round. -/
namespace Go.Proofs.YtcobkjognpjikaaGreatDoor

structure YG (P : Program) (y m : Nat) (xs : List (List LV)) (S : Nat → List (Nat × LO)) : Prop where
  keys : ∀ j, j ≤ xs.length → (S j).map (·.1) = List.range m
  lt : ∀ j, j ≤ xs.length → ∀ p ∈ S j, p.2.lt m = true
  step : ∀ j (h : j < xs.length), Yld P y xs[j] (S j) true (S (j + 1))
theorem YG.keep {P : Program} {y m : Nat} {xs : List (List LV)} {S : Nat → List (Nat × LO)} (h : YG P y m xs S) {j : Nat} (hj : j ≤ xs.length) (L : List (Nat × LO)) : KeepL (hp (S j ++ L)) (S j) :=
  KeepL.app (by rw [h.keys j hj]; exact List.nodup_range)
theorem YG.at_ {P : Program} {y m : Nat} {xs : List (List LV)} {S : Nat → List (Nat × LO)} (h : YG P y m xs S) {j : Nat} {x : List LV} (hx : xs[j]? = some x) : Yld P y x (S j) true (S (j + 1)) := by
  have hj := (List.getElem?_eq_some_iff.1 hx)
  have := h.step j hj.1
  rw [hj.2] at this
  exact this
end Go.Proofs.YtcobkjognpjikaaGreatDoor

/- Values of which only a part is told. -/
namespace Go.Proofs.YtcobkjognpjikaaGreatDoor
section
variable {P : Program} {r : Option Nat} {N : Nat} {D : List Nat} {B : Base} {all : Array Oper} {K : List (Nat × Ct) → St → Prop}
variable {i : Nat} {ops : List Oper} {tr : List (Nat × Ct)} {E : List (Nat × Ent)} {L : List (Nat × LO)} {n : Nat} {g : Bool} {gn : List (Nat × Ent)}
variable {d ty : Nat} {pos : String} {aft : Array Edge} {gd : Option (Nat × Bool)}
theorem R.binPv {op : BinOp} {t yt : Nat} {x y : Operand} {gx gy : Bool} {p : Value → Prop} {b v : Value} (hv : ∀ a, p a → ∀ w, (do eqGuard op t x y a b; binOp op t a b : Sem Value).run P w = .ok v w)
    (ho : all[i]? = some ⟨some d, .binOp op t x y yt, ty, pos, aft, gd⟩ := by rfl) (hg : GuardOk (en E) all gd g gn := by first | exact gN | exact gS rfl rfl)
    (hx : lvOf (en E) x = some (gx, .pv p) := by rfl) (hy : lvOf (en E) y = some (gy, .v b) := by rfl)
    (hgx : g = true → gx = true := by first | exact fun _ => rfl | exact id) (hgy : g = true → gy = true := by first | exact fun _ => rfl | exact id)
    (h : Reg P r N D B all (i + 1) ops ((i, Ct.p gn [x, y] [(gx, .pv p), (gy, .v b)] (some d) (g, .v v) []) :: tr) (st ((d, (g, .v v)) :: E) L n) K) :
    Reg P r N D B all i (⟨some d, .binOp op t x y yt, ty, pos, aft, gd⟩ :: ops) tr (st E L n) K :=
  Reg.two rfl (fun h => by
    rw [entLV_true h hgx, entLV_true h hgy]
    refine OpC.of_pure2 (x := x) (y := y) rfl (by simp) fun md n0 cx H ρ w _ _ v1 v2 => ?_
    have e1 : p (ρ x) := (by simpa only [V] using v1 : p (ρ x) ∧ _).1
    refine ⟨v, ?_, V.mkval⟩
    have := hv _ e1 w
    rw [← v2.val] at this
    simp only [execOp]
    rw [Sem.run_bind, this]
    rfl) ho hg hx hy (by simp) h
end
theorem VPv {cx : Cx} {w : World} {p : Value → Prop} {v : Value} (h : p v) (h1 : v.oneCell' = true) : V cx w (.pv p) v := by simp only [V]; exact ⟨h, h1⟩
/-- a value of an interface that is not nil -/
def ifc (x : Value) : Prop := ∃ t p, x = .iface t p
theorem run_eqII {P : Program} (d : Nat) {t : Nat} {ms : Array (String × TypeId)} (ht : P.underlying t = some (.interface ms)) (w : World) : (Op.equalIn (d + 1) t .nilIface .nilIface).run P w = .ok true w := by
  simp [Op.equalIn, run_underlying ht]
theorem run_eqIJ {P : Program} (d : Nat) {t u : Nat} {p : Value} {ms : Array (String × TypeId)} (ht : P.underlying t = some (.interface ms)) (w : World) : (Op.equalIn (d + 1) t (.iface u p) .nilIface).run P w = .ok false w := by
  simp [Op.equalIn, run_underlying ht]
theorem run_neNil {P : Program} {t : Nat} {ms : Array (String × TypeId)} (ht : P.underlying t = some (.interface ms)) (x : Operand) : ∀ w, (do eqGuard .neq t x (.const .nilIface) .nilIface .nilIface; binOp .neq t .nilIface .nilIface : Sem Value).run P w = .ok (.bool false) w := fun w => by
  have h : (Op.equal t .nilIface .nilIface).run P w = .ok true w := run_eqII 9999 ht w
  simp [binOp, eqGuard, h]
theorem run_neIfc {P : Program} {t : Nat} {ms : Array (String × TypeId)} (ht : P.underlying t = some (.interface ms)) (x : Operand) : ∀ a, ifc a → ∀ w, (do eqGuard .neq t x (.const .nilIface) a .nilIface; binOp .neq t a .nilIface : Sem Value).run P w = .ok (.bool true) w := fun a ⟨u, p, h⟩ w => by
  subst h
  have h : (Op.equal t (.iface u p) .nilIface).run P w = .ok false w := run_eqIJ 9999 ht w
  simp [binOp, eqGuard, h]
end Go.Proofs.YtcobkjognpjikaaGreatDoor

/- An element of one cell of an array's value. -/
namespace Go.Proofs.YtcobkjognpjikaaGreatDoor
def IndexV1F (P : Program) (T len : Nat) : Prop := ∃ e, (∀ w, (underlying T).run P w = .ok (.array len e) w) ∧ (∀ w, (isAgg e).run P w = .ok false w) ∧ (∀ w, (sizeOf e).run P w = .ok 1 w)
section
variable {P : Program} {r : Option Nat} {N : Nat} {D : List Nat} {B : Base} {all : Array Oper} {K : List (Nat × Ct) → St → Prop}
variable {i : Nat} {ops : List Oper} {tr : List (Nat × Ct)} {E : List (Nat × Ent)} {L : List (Nat × LO)} {n : Nat} {g : Bool} {gn : List (Nat × Ent)}
variable {d ty : Nat} {pos : String} {aft : Array Edge} {gd : Option (Nat × Bool)}
theorem R.indexV1 {T len : Nat} (hF : IndexV1F P T len) {x y : Operand} {gx gy : Bool} {cs : List Value} {k : IntKind} {j : Int} {v : Value}
    (ho : all[i]? = some ⟨some d, .index T x y, ty, pos, aft, gd⟩ := by rfl) (hg : GuardOk (en E) all gd g gn := by first | exact gN | exact gS rfl rfl)
    (hx : lvOf (en E) x = some (gx, .agg (cs.map LV.v)) := by rfl) (hy : lvOf (en E) y = some (gy, .v (.int k j)) := by rfl)
    (hgx : g = true → gx = true := by first | exact fun _ => rfl | exact id) (hgy : g = true → gy = true := by first | exact fun _ => rfl | exact id)
    (hj : g = true → 0 ≤ j ∧ j < len ∧ cs[j.toNat]? = some v)
    (h : Reg P r N D B all (i + 1) ops ((i, Ct.p gn [x, y] [(gx, .agg (cs.map LV.v)), (gy, .v (.int k j))] (some d) (g, .v v) []) :: tr) (st ((d, (g, .v v)) :: E) L n) K) :
    Reg P r N D B all i (⟨some d, .index T x y, ty, pos, aft, gd⟩ :: ops) tr (st E L n) K :=
  Reg.two rfl (fun h => by
    rw [entLV_true h hgx, entLV_true h hgy]
    refine OpC.of_pure2 (x := x) (y := y) rfl (by simp) fun md n0 cx H ρ w hok hrd v1 v2 => ?_
    obtain ⟨h0, hlt, hv⟩ := hj h
    obtain ⟨e, hT, he, hs⟩ := hF
    have e1 := V.aggV (cs := cs) rfl v1
    refine ⟨v, ?_, V.mkval⟩
    have hx : cs.toArray[j.toNat]? = some v := by simpa using hv
    simp only [execOp, e1, v2.val]
    simp [Instr.index, asIntOf, hT w, hs w, h0, hlt, part, he w, hv]) ho hg hx hy (by simp) h
end
end Go.Proofs.YtcobkjognpjikaaGreatDoor

/- An aggregate is stored into a part of a box. -/
namespace Go.Proofs.YtcobkjognpjikaaGreatDoor
section
variable {P : Program} {r : Option Nat} {N : Nat} {D : List Nat} {B : Base} {all : Array Oper} {K : List (Nat × Ct) → St → Prop}
variable {i : Nat} {ops : List Oper} {tr : List (Nat × Ct)} {E : List (Nat × Ent)} {L : List (Nat × LO)} {n : Nat} {g : Bool} {gn : List (Nat × Ent)}
variable {d ty : Nat} {pos : String} {aft : Array Edge} {gd : Option (Nat × Bool)}
end
end Go.Proofs.YtcobkjognpjikaaGreatDoor

/- Short names of frequent steps. -/
namespace Go.Proofs.YtcobkjognpjikaaGreatDoor
theorem Reg.n0 {P : Program} {r : Option Nat} {N : Nat} {D : List Nat} {B : Base} {Ψ : Exit → Act → World → Prop} {all : Array Oper} {ops : List Oper} {todo : List Item} {i : Nat} {tr : List (Nat × Ct)} {S : St} (h : LGo P r N D B Ψ todo S) :
    Reg P r N D B all i [] tr S (fun tr S' => (false = true → P.follows .mixedOrders = true ∧ edgesOk ops.toArray = true ∧ pairsOk ops.toArray tr = true) ∧ LGo P r N D B Ψ todo S') := Reg.nil ⟨fun h => (by cases h), h⟩
end Go.Proofs.YtcobkjognpjikaaGreatDoor

/- Pointers as values: checks for nil, raw pointers; a string out of a slice of bytes of one's own. -/
namespace Go.Proofs.YtcobkjognpjikaaGreatDoor
section
variable {P : Program} {r : Option Nat} {N : Nat} {D : List Nat} {B : Base} {all : Array Oper} {K : List (Nat × Ct) → St → Prop}
variable {i : Nat} {ops : List Oper} {tr : List (Nat × Ct)} {E : List (Nat × Ent)} {L : List (Nat × LO)} {n : Nat} {g : Bool} {gn : List (Nat × Ent)}
variable {d ty : Nat} {pos : String} {aft : Array Edge} {gd : Option (Nat × Bool)}
end
end Go.Proofs.YtcobkjognpjikaaGreatDoor

/- Maps, as objects of one's own: an empty map, a look, a write. -/
namespace Go.Proofs.YtcobkjognpjikaaGreatDoor
/-- the entries of a map of one's own, in the order in which they came -/
def entsOf : Nat → List (Value × Value) → List MapEntry
  | _, [] => []
  | k, (a, v) :: l => { key := a, val := v, born := k } :: entsOf (k + 1) l
section
variable {α : Type} [DecidableEq α]
def encs (enc : α → Value) (l : List (α × Value)) : List (Value × Value) := l.map fun p => (enc p.1, p.2)
def mapOb (enc : α → Value) (l : List (α × Value)) : Obj := .map (entsOf 0 (encs enc l)).toArray l.length
def posM (a : α) : List (α × Value) → Nat → Option (Nat × Value)
  | [], _ => none
  | (b, u) :: l, k => if a = b then some (k, u) else posM a l (k + 1)
def getM (a : α) : List (α × Value) → Option Value
  | [] => none
  | (b, u) :: l => if a = b then some u else getM a l
def putM (a : α) (v : Value) : List (α × Value) → List (α × Value)
  | [] => [(a, v)]
  | (b, u) :: l => if a = b then (b, v) :: l else (b, u) :: putM a v l
/-- what a type of keys says -/
structure KeyF (P : Program) (kt : TypeId) (enc : α → Value) : Prop where
  chk : ∀ b a w, (Instr.checkKey b 10000 kt (enc a)).run P w = .ok () w
  find : ∀ a l w, (Instr.findKey kt (enc a) (entsOf 0 (encs enc l))).run P w = .ok (posM a l 0) w
  same : ∀ a, Instr.sameBits 10000 (enc a) (enc a) = true

theorem findNow_yes {enc : α → Value} {td : TypeDesc} (h : ∀ a b, Instr.sameNow td (enc a) (enc b) = some (decide (a = b))) (a : α) : ∀ (l : List (α × Value)) (k : Nat), Instr.findNow td (enc a) (entsOf k (encs enc l)) k = some (posM a l k)
  | [], _ => rfl
  | (b, u) :: l, k => by
    simp only [encs, List.map_cons, entsOf, Instr.findNow, h, posM]
    by_cases hab : a = b
    · simp [hab]
    · simp only [hab, decide_false, if_false]
      exact findNow_yes h a l (k + 1)
theorem KeyF.plain {P : Program} {kt : TypeId} {td : TypeDesc} {enc : α → Value} (hu : P.underlying kt = some td) (h : ∀ a b, Instr.sameNow td (enc a) (enc b) = some (decide (a = b)))
    (hc : ∀ b a w, (Instr.checkKey b 10000 kt (enc a)).run P w = .ok () w) (hs : ∀ a, Instr.sameBits 10000 (enc a) (enc a) = true) : KeyF P kt enc :=
  ⟨hc, fun a l w => by simp [Instr.findKey, run_underlying hu, findNow_yes h], hs⟩
/-- a value that is told whole -/
def Told (lv : LV) (x : Value) : Prop := ∀ (cx : Cx) (w : World) (v : Value), V cx w lv v → v = x
theorem Told.v {x : Value} : Told (.v x) x := fun _ _ _ h => h.val
theorem Told.agg {xs : List Value} : Told (.agg (xs.map LV.v)) (.agg xs.toArray) := fun cx w v h => by
  simp only [V] at h
  obtain ⟨vs, rfl, h⟩ := h
  rw [Vs.vals xs vs h]
end

section
variable {P : Program} {r : Option Nat} {N : Nat} {D : List Nat} {B : Base} {all : Array Oper} {K : List (Nat × Ct) → St → Prop}
variable {i : Nat} {ops : List Oper} {tr : List (Nat × Ct)} {E : List (Nat × Ent)} {L : List (Nat × LO)} {n : Nat} {g : Bool} {gn : List (Nat × Ent)}
variable {d ty : Nat} {pos : String} {aft : Array Edge} {gd : Option (Nat × Bool)}
variable {α : Type} [DecidableEq α]

omit [DecidableEq α] in
end
end Go.Proofs.YtcobkjognpjikaaGreatDoor
