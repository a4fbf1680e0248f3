/- The operations that read, make or write objects of one's own; calls; the ends of a function. -/
import Derived.Test.YtmiamhegohlglaaC5
set_option linter.unusedSimpArgs false
set_option linter.unusedVariables false
namespace Go.Proofs.Ytmiamhegohlglaa

/-! ### what a step does to memory -/

/-- the cells of a value -/
def CellsOf (l : LV) (cs : List LV) : Prop := ∀ (cx : Cx) (w : World) (v : Value), V cx w l v → ∃ vs : List Value, v.cells = vs.toArray ∧ Vs cx w cs vs ∧ ∀ u ∈ vs, u.oneCell' = true

def LV.one : LV → Bool
  | .sv (.val v) => v.oneCell'
  | .sv _ => true
  | .agg _ => false
  | .tup _ => false
  | _ => true
theorem LV.one_spec {l : LV} (h : l.one = true) {cx : Cx} {w : World} {v : Value} (hv : V cx w l v) : v.oneCell' = true := by
  cases l with
  | sv s =>
    cases s with
    | val x => simp only [V, VS] at hv; subst hv; exact h
    | sl sz xs => simp only [V, VS] at hv; rcases hv with ⟨rfl | ⟨_, _, rfl, _⟩, _⟩ | ⟨_, _, _, rfl, _⟩ <;> rfl
    | at_ cs => simp only [V, VS] at hv; obtain ⟨_, _, rfl, _⟩ := hv; rfl
  | agg cs => cases h
  | tup cs => cases h
  | ptr o off => simp only [V] at hv; obtain ⟨_, _, _, rfl⟩ := hv; rfl
  | ref o => simp only [V] at hv; obtain ⟨_, rfl, h3⟩ := hv; cases hl : cx.loc o <;> simp_all [isRef, Value.oneCell']
  | fn f p q => simp only [V] at hv; obtain ⟨_, _, rfl, _⟩ := hv; rfl
  | yld o => simp only [V] at hv; obtain ⟨_, _, _, rfl⟩ := hv; rfl
theorem cells_one {v : Value} (h : v.oneCell' = true) : v.cells = #[v] := by cases v <;> first | rfl | cases h
theorem CellsOf.one {l : LV} (h : l.one = true) : CellsOf l [l] := fun cx w v hv =>
  ⟨[v], by rw [cells_one (LV.one_spec h hv)], by simp only [Vs]; exact ⟨v, [], rfl, hv, rfl⟩, by simpa using LV.one_spec h hv⟩
theorem Vs.ones {cx : Cx} {w : World} : ∀ {cs : List LV} {vs : List Value}, (cs.all LV.one) = true → Vs cx w cs vs → ∀ u ∈ vs, u.oneCell' = true
  | [], vs, _, h => by simp [Vs] at h; simp [h]
  | c :: cs, vs, hc, h => by
    simp only [Vs] at h
    obtain ⟨y, r, rfl, h1, h2⟩ := h
    simp only [List.all_cons, Bool.and_eq_true] at hc
    intro u hu
    rcases List.mem_cons.1 hu with rfl | hu
    · exact LV.one_spec hc.1 h1
    · exact Vs.ones hc.2 h2 u hu
theorem CellsOf.agg {cs : List LV} (h : cs.all LV.one = true) : CellsOf (.agg cs) cs := fun cx w v hv => by
  simp only [V] at hv
  obtain ⟨vs, rfl, h2⟩ := hv
  exact ⟨vs, rfl, h2, Vs.ones h h2⟩

/-- a new block, a new object -/
theorem Tr.new {md : Nat → Prop} {n0 : Nat} {H : Hp} {cx : Cx} {w w0 : World} (h : HOk md n0 cx H w) {ob : Obj} {o : Nat} (ho : ¬ cx.A o) {lv : Value} {x : LO} (hw : w0.heap = w.heap ∧ w0.os = w.os ∧ w0.tape = w.tape ∧ w0.output = w.output)
    (hb : bk lv = some w.heap.size)
    (hx : ∀ cx' : Cx, cx'.loc o = lv → cx'.A o → CxLe cx cx' → cx'.pr = cx.pr → ObjOk cx' (w0.alloc ob) o x) (hbx : x.isBx = false := by rfl) :
    ∃ cx', Tr cx w (hp []) cx' (w0.alloc ob) (hp [(o, x)]) (· ∈ [o]) ∧ cx'.A o ∧ cx'.loc o = lv ∧ cx'.pr = cx.pr := by
  let cx' : Cx := ⟨cx.pr, fun k => cx.A k ∨ k ∈ [o], fun k => if k = o then lv else cx.loc k, cx.inn⟩
  have hle : CxLe cx cx' := fun k hk => ⟨.inl hk, by
    show (if k = o then lv else cx.loc k) = _
    rw [if_neg (by rintro rfl; exact ho hk)]⟩
  have hlo : cx'.loc o = lv := by show (if o = o then lv else _) = _; simp
  have hAo : cx'.A o := .inr (by simp)
  have hsz : (w0.alloc ob).heap.size = w.heap.size + 1 := by simp [hw.1]
  have hold : ∀ b, b < w.heap.size → (w0.alloc ob).heap[b]? = w.heap[b]? := fun b hb' => by
    rw [heap_alloc_old w0 ob (by rw [hw.1]; exact hb'), hw.1]
  have hext : Ext cx.pr w cx'.pr (w0.alloc ob) := fun b off hb' => ⟨hb', by
    have := h.lim b (by omega)
    simp only [World.cell?, hold b this]⟩
  refine ⟨cx', ⟨hle, fun k => Iff.rfl, ⟨hw.2.1, hw.2.2.1, hw.2.2.2, by omega, fun b hb' _ => hold b hb', fun _ _ _ => rfl, hext⟩, ?_, fun _ _ _ => rfl⟩, hAo, hlo, rfl⟩
  have one : ∀ k y, hp [(o, x)] k = some y → k = o ∧ y = x := by
    intro k y hy
    simp only [hp, List.lookup_cons] at hy
    split at hy
    · rename_i hh; simp at hh; cases hy; exact ⟨hh, rfl⟩
    · simp at hy
  refine ⟨fun k y hy => ?_, fun k y b hy hb' => ?_, fun k k' y y' b hne hy hy' _ => ?_, fun b hb' => ?_⟩
  · obtain ⟨rfl, rfl⟩ := one k y hy
    exact ⟨hAo, hx cx' hlo hAo hle rfl⟩
  · obtain ⟨rfl, rfl⟩ := one k y hy
    rw [Cx.has_of hbx, hlo, hb] at hb'
    cases hb'
    refine ⟨?_, by omega, .inl (Nat.le_refl _)⟩
    rcases Nat.eq_zero_or_pos (cx.pr w.heap.size) with h0 | h0
    · exact h0
    · have := h.lim _ h0; omega
  · obtain ⟨rfl, rfl⟩ := one k y hy
    obtain ⟨rfl, rfl⟩ := one k' y' hy'
    exact absurd rfl hne
  · have := h.lim b hb'; omega

/-- an object's block is written -/
theorem Tr.set {md : Nat → Prop} {n0 : Nat} {H : Hp} {cx : Cx} {w w' : World} (h : HOk md n0 cx H w) {o : Nat} {x x' : LO} (ho : H o = some x) {b : Nat} (hb : bk (cx.loc o) = some b)
    (hw : w'.os = w.os ∧ w'.tape = w.tape ∧ w'.output = w.output) (hsz : w'.heap.size = w.heap.size) (hsame : ∀ k, k ≠ b → w'.heap[k]? = w.heap[k]?) (hx : Ext cx.pr w cx.pr w' → ObjOk cx w' o x') (hbx : x.isBx = false := by rfl) (hbx' : x'.isBx = false := by rfl) :
    Tr cx w (hp [(o, x)]) cx w' (hp [(o, x')]) (· ∈ ([] : List Nat)) := by
  obtain ⟨hpr, hlt, hmd⟩ := h.own o x b ho (.inl hb)
  have one : ∀ (z : LO) k y, hp [(o, z)] k = some y → k = o ∧ y = z := by
    intro z k y hy
    simp only [hp, List.lookup_cons] at hy
    split at hy
    · rename_i hh; simp at hh; cases hy; exact ⟨hh, rfl⟩
    · simp at hy
  have hblk : blks cx (hp [(o, x)]) b := ⟨o, x, by simp, .inl hb⟩
  have hext : Ext cx.pr w cx.pr w' := fun k off hk => ⟨hk, by
    have hkb : k ≠ b := by rintro rfl; omega
    simp only [World.cell?, hsame k hkb]⟩
  refine ⟨CxLe.refl _, fun k => by simp, ⟨hw.1, hw.2.1, hw.2.2, by omega, fun k _ hk => hsame k (by rintro rfl; exact hk hblk), fun _ _ _ => rfl, hext⟩, ?_, fun _ _ _ => rfl⟩
  refine ⟨fun k y hy => ?_, fun k y c hy hc => ?_, fun k k' y y' c hne hy hy' _ => ?_, fun c hc => ?_⟩
  · obtain ⟨rfl, rfl⟩ := one _ k y hy
    exact ⟨(h.ok _ _ ho).1, hx hext⟩
  · obtain ⟨rfl, rfl⟩ := one _ k y hy
    rw [Cx.has_of hbx', hb] at hc; cases hc
    exact ⟨hpr, by omega, .inr hblk⟩
  · obtain ⟨rfl, rfl⟩ := one _ k y hy
    obtain ⟨rfl, rfl⟩ := one _ k' y' hy'
    exact absurd rfl hne
  · have := h.lim c hc; omega

section
variable {P : Program} {r : Option Nat} {N : Nat} {D : List Nat} {B : Base} {all : Array Oper} {K : List (Nat × Ct) → St → Prop}
variable {i : Nat} {ops : List Oper} {tr : List (Nat × Ct)} {E : List (Nat × Ent)} {L : List (Nat × LO)} {n : Nat} {g : Bool} {gn : List (Nat × Ent)}
variable {d ty : Nat} {pos : String} {aft : Array Edge} {gd : Option (Nat × Bool)}

theorem upd_new (L : List (Nat × LO)) (o : Nat) (x : LO) : (hp L).upd (hp []) (hp [(o, x)]) = hp ((o, x) :: L) := by
  funext k
  simp only [Hp.upd, hp, List.lookup_cons, List.lookup_nil]
  cases h : (k == o) <;> simp
theorem upd_set (L : List (Nat × LO)) (o : Nat) (x x' : LO) : (hp L).upd (hp [(o, x)]) (hp [(o, x')]) = hp ((o, x') :: L) := by
  funext k
  simp only [Hp.upd, hp, List.lookup_cons, List.lookup_nil]
  cases h : (k == o) <;> simp

/-- a new object -/
theorem Reg.new {o : Oper} {es : List Ent} {out : LV} {rd : List (Nat × LO)} {x : LO}
    (ho : all[i]? = some o) (hg : GuardOk (en E) all o.guard true gn) (hargs : Opnds (en E) o.op.operands.toList es) (hrd : ∀ k x, hp rd k = some x → hp L k = some x)
    (hop : OpC P r o (es.map entLV) rd [] out [(n, x)] [n])
    (h : Reg P r N D B all (i + 1) ops ((i, ⟨gn ++ needOf o.op.operands.toList es, o.dst, (true, out), rd, [], [(n, x)], [n]⟩) :: tr) (st (putL o.dst (true, out) E) ((n, x) :: L) (n + 1)) K) :
    Reg P r N D B all i (o :: ops) tr (st E L n) K := by
  refine Reg.gen (m := 1) (Hi := []) (Ho := [(n, x)]) ho hg hargs hrd (by simp) (by simpa using hop) ?_
  have e : updL L [] [(n, x)] = (n, x) :: L := by simp [updL]
  rw [e]
  exact h

/-- an object is written -/
theorem Reg.set {o : Oper} {es : List Ent} {out : LV} {rd : List (Nat × LO)} {q : Nat} {x x' : LO}
    (ho : all[i]? = some o) (hg : GuardOk (en E) all o.guard true gn) (hargs : Opnds (en E) o.op.operands.toList es) (hrd : ∀ k x, hp rd k = some x → hp L k = some x) (hq : hp L q = some x)
    (hop : OpC P r o (es.map entLV) rd [(q, x)] out [(q, x')] [])
    (h : Reg P r N D B all (i + 1) ops ((i, ⟨gn ++ needOf o.op.operands.toList es, o.dst, (true, out), rd, [(q, x)], [(q, x')], []⟩) :: tr) (st (putL o.dst (true, out) E) ((q, x') :: L) n) K) :
    Reg P r N D B all i (o :: ops) tr (st E L n) K := by
  refine Reg.cons (fun hN => CtOk.of_op ho hN.dst hg (fun _ => hop) hargs (.inl rfl)) ⟨fun p hp' => ?_, hrd, fun k y hy => ?_, by simp⟩ ?_
  · rcases List.mem_append.1 hp' with hp' | hp'
    · exact hg.need p hp'
    · exact hargs.need p hp'
  · simp only [hp, List.lookup_cons] at hy
    split at hy
    · rename_i hh; simp at hh; cases hy; subst hh; exact hq
    · simp at hy
  · have : (Ct.app ⟨gn ++ needOf o.op.operands.toList es, o.dst, (true, out), rd, [(q, x)], [(q, x')], []⟩ (st E L n)) = st (putL o.dst (true, out) E) ((q, x') :: L) n := by
      simp only [Ct.app, putE_putL, upd_set]
      congr 1
      funext o; simp
    rw [this]; exact h

/-! ### boxes -/

def ZeroF (P : Program) (T : Nat) (z : Value) : Prop := ∀ w, (zeroValue T).run P w = .ok z w

theorem alloc_box {T : Nat} {md : Nat → Prop} {n0 : Nat} {H : Hp} {cx : Cx} {w w0 : World} (h : HOk md n0 cx H w) {o : Nat} (ho : ¬ cx.A o) (hw : w0.heap = w.heap ∧ w0.os = w.os ∧ w0.tape = w.tape ∧ w0.output = w.output)
    {cs : List LV} {vs : List Value} (hv : Vs cx w cs vs) :
    ∃ cx', Tr cx w (hp []) cx' (w0.alloc (.cells vs.toArray T)) (hp [(o, .box T cs)]) (· ∈ [o]) ∧ V cx' (w0.alloc (.cells vs.toArray T)) (.ptr o 0) (.pointer (some ⟨w.heap.size, 0, none⟩)) := by
  have hnew : (w0.alloc (.cells vs.toArray T)).heap[w.heap.size]? = some (.cells vs.toArray T) := by rw [← hw.1]; exact heap_alloc_new w0 _
  obtain ⟨cx', h1, h2, h3, h4⟩ := Tr.new (w0 := w0) h (ob := .cells vs.toArray T) (o := o) ho (lv := .pointer (some ⟨w.heap.size, 0, none⟩)) (x := .box T cs) hw rfl (fun cx' e1 e2 e3 e4 => by
    refine ⟨w.heap.size, vs, e1, hnew, Vs.mono e3 (fun b off hb => ?_) cs vs hv⟩
    rw [e4]
    refine ⟨hb, ?_⟩
    have := h.lim b (by omega)
    simp only [World.cell?, heap_alloc_old w0 (.cells vs.toArray T) (by rw [hw.1]; exact this), hw.1])
  refine ⟨cx', h1, ?_⟩
  simp only [V]
  exact ⟨h2, w.heap.size, by rw [h3]; rfl, rfl⟩

theorem R.box {T : Nat} {x : Operand} {lv : LV} {cs : List LV}
    (ho : all[i]? = some ⟨some d, .box T x, ty, pos, aft, none⟩ := by rfl)
    (hx : lvOf (en E) x = some (true, lv) := by rfl) (hcs : CellsOf lv cs := by first | exact CellsOf.one rfl | exact CellsOf.agg rfl)
    (h : Reg P r N D B all (i + 1) ops ((i, ⟨needOf [x] [(true, lv)], some d, (true, .ptr n 0), [], [], [(n, .box T cs)], [n]⟩) :: tr) (st ((d, (true, .ptr n 0)) :: E) ((n, .box T cs) :: L) (n + 1)) K) :
    Reg P r N D B all i (⟨some d, .box T x, ty, pos, aft, none⟩ :: ops) tr (st E L n) K :=
  Reg.new (es := [(true, lv)]) (rd := []) ho gN ⟨_, _, rfl, hx, rfl⟩ (by simp) (OpC.of_run (by simp) (by simp) fun md n0 cx H ρ w hok _ _ hnew hv => by
    have hv := Vs.one hv
    simp only [entLV] at hv
    obtain ⟨vs, e1, e2, _⟩ := hcs cx w _ hv
    obtain ⟨cx', t, hv'⟩ := alloc_box (T := T) (w0 := w) hok (hnew n (by simp)) ⟨rfl, rfl, rfl, rfl⟩ e2
    refine ⟨_, _, _, cx', ?_, .inl rfl, t, hv'⟩
    simp only [execOp, Instr.box, newVar, newRow, Sem.run_bind, Sem.run_pure, e1]
    rfl) h
theorem R.alloc {T : Nat} {z : Value} (hz : ZeroF P T z) {cs : List LV} (hcs : CellsOf (cLV z) cs := by first | exact CellsOf.one rfl | exact CellsOf.agg rfl)
    (ho : all[i]? = some ⟨some d, .alloc T, ty, pos, aft, none⟩ := by rfl)
    (h : Reg P r N D B all (i + 1) ops ((i, ⟨[], some d, (true, .ptr n 0), [], [], [(n, .box T cs)], [n]⟩) :: tr) (st ((d, (true, .ptr n 0)) :: E) ((n, .box T cs) :: L) (n + 1)) K) :
    Reg P r N D B all i (⟨some d, .alloc T, ty, pos, aft, none⟩ :: ops) tr (st E L n) K :=
  Reg.new (es := []) (rd := []) ho gN rfl (by simp) (OpC.of_run (by simp) (by simp) fun md n0 cx H ρ w hok _ _ hnew hv => by
    obtain ⟨vs, e1, e2, _⟩ := hcs cx w _ (V.cLV cx w z)
    obtain ⟨cx', t, hv'⟩ := alloc_box (T := T) (w0 := w) hok (hnew n (by simp)) ⟨rfl, rfl, rfl, rfl⟩ e2
    refine ⟨_, _, _, cx', ?_, .inl rfl, t, hv'⟩
    simp only [execOp, Instr.alloc, newVar, newRow, Sem.run_bind, Sem.run_pure, hz w, Result.andThen_ok, e1]
    rfl) h

/-- a cell of a box -/
theorem R.loadB {T TB : Nat} (hF : OneF P T) {x : Operand} {gx : Bool} {o off : Nat} {cs : List LV} {c : LV}
    (ho : all[i]? = some ⟨some d, .load T x, ty, pos, aft, gd⟩ := by rfl) (hg : GuardOk (en E) all gd g gn := by first | exact gN | exact gS rfl rfl)
    (hx : lvOf (en E) x = some (gx, .ptr o off) := by rfl) (hgx : g = true → gx = true := by first | exact fun _ => rfl | exact id) (hb : hp L o = some (.box TB cs) := by rfl) (hc : cs[off]? = some c := by rfl)
    (h : Reg P r N D B all (i + 1) ops ((i, Ct.p gn [x] [(gx, .ptr o off)] (some d) (g, c) [(o, .box TB cs)]) :: tr) (st ((d, (g, c)) :: E) L n) K) :
    Reg P r N D B all i (⟨some d, .load T x, ty, pos, aft, gd⟩ :: ops) tr (st E L n) K :=
  Reg.one rfl (fun h => by
    rw [entLV_true h hgx]
    refine OpC.of_pure1 (x := x) rfl (by simp) fun md n0 cx H ρ w hok hrd hvv => ?_
    simp only [V] at hvv
    obtain ⟨hA, b, hbk, he⟩ := hvv
    obtain ⟨b', vs, k1, k2, k3⟩ := (hok.ok o _ (hrd o (.box TB cs) (by simp))).2
    rw [k1] at hbk
    simp only [bk, Option.some.injEq] at hbk
    subst hbk
    obtain ⟨v, k4, k5⟩ := k3.get hc
    refine ⟨v, ?_, k5⟩
    have hcell : w.cell? ⟨b', off, none⟩ = some v := by simp [World.cell?, k2, k4]
    simp [execOp, he, Instr.loadAt, Instr.sureAddr, loadVar, hF.1 w, hcell]) ho hg hx (fun k y hy => by
      simp only [hp, List.lookup_cons] at hy
      split at hy
      · rename_i hh; simp at hh; cases hy; subst hh; exact hb
      · simp at hy) h

/-- the whole of a box -/
theorem R.loadA {T TB sz : Nat} (hF : AggF P T sz) {x : Operand} {gx : Bool} {o : Nat} {cs : List LV}
    (ho : all[i]? = some ⟨some d, .load T x, ty, pos, aft, gd⟩ := by rfl) (hg : GuardOk (en E) all gd g gn := by first | exact gN | exact gS rfl rfl)
    (hx : lvOf (en E) x = some (gx, .ptr o 0) := by rfl) (hgx : g = true → gx = true := by first | exact fun _ => rfl | exact id) (hb : hp L o = some (.box TB cs) := by rfl) (hc : cs.length = sz := by rfl)
    (h : Reg P r N D B all (i + 1) ops ((i, Ct.p gn [x] [(gx, .ptr o 0)] (some d) (g, .agg cs) [(o, .box TB cs)]) :: tr) (st ((d, (g, .agg cs)) :: E) L n) K) :
    Reg P r N D B all i (⟨some d, .load T x, ty, pos, aft, gd⟩ :: ops) tr (st E L n) K :=
  Reg.one rfl (fun h => by
    rw [entLV_true h hgx]
    refine OpC.of_pure1 (x := x) rfl (by simp) fun md n0 cx H ρ w hok hrd hvv => ?_
    simp only [V] at hvv
    obtain ⟨hA, b, hbk, he⟩ := hvv
    obtain ⟨b', vs, k1, k2, k3⟩ := (hok.ok o _ (hrd o (.box TB cs) (by simp))).2
    rw [k1] at hbk
    simp only [bk, Option.some.injEq] at hbk
    subst hbk
    refine ⟨.agg vs.toArray, ?_, by simp only [V]; exact ⟨vs, rfl, k3⟩⟩
    have hl : (loadCells ⟨b', 0, none⟩ vs.length).run P w = .ok vs.toArray w := run_loadCells_list (P := P) w ⟨b', 0, none⟩ vs (fun j v hv => by
      have hadd : (⟨b', 0, none⟩ : Addr).add j = ⟨b', j, none⟩ := by unfold Addr.add; split <;> simp_all
      rw [hadd]; simp [World.cell?, k2, hv])
    rw [k3.length, hc] at hl
    simp [execOp, he, Instr.loadAt, Instr.sureAddr, loadVar, hF.1 w, hF.2 w, hl]) ho hg hx (fun k y hy => by
      simp only [hp, List.lookup_cons] at hy
      split at hy
      · rename_i hh; simp at hh; cases hy; subst hh; exact hb
      · simp at hy) h

theorem Vs.set {cx : Cx} {w : World} : ∀ {cs : List LV} {vs : List Value} {k : Nat} {c : LV} {v : Value}, Vs cx w cs vs → V cx w c v → Vs cx w (cs.set k c) (vs.set k v)
  | [], vs, k, c, v, h, _ => by simp [Vs] at h; subst h; simp [Vs]
  | d :: cs, vs, k, c, v, h, hv => by
    simp only [Vs] at h
    obtain ⟨y, r, rfl, h1, h2⟩ := h
    cases k with
    | zero => simp only [List.set_cons_zero, Vs]; exact ⟨v, r, rfl, hv, h2⟩
    | succ k => simp only [List.set_cons_succ, Vs]; exact ⟨y, _, rfl, h1, Vs.set h2 hv⟩

/-- a cell of a box is written -/
theorem R.storeB {T TB : Nat} (hF : OneF P T) {x y : Operand} {o off : Nat} {cs cs' : List LV} {c : LV}
    (ho : all[i]? = some ⟨none, .store T x y, ty, pos, aft, none⟩ := by rfl)
    (hx : lvOf (en E) x = some (true, .ptr o off) := by rfl) (hy : lvOf (en E) y = some (true, c) := by rfl) (h1 : c.one = true := by rfl) (hb : hp L o = some (.box TB cs) := by rfl) (hlt : off < cs.length := by first | exact Nat.le_of_ble_eq_true rfl | decide | (simp; done) | (simp; omega))
    (hs : cs.set off c = cs' := by (try simp only [List.set_cons_succ, List.set_cons_zero]); rfl)
    (h : Reg P r N D B all (i + 1) ops ((i, ⟨needOf [x, y] [(true, .ptr o off), (true, c)], none, (true, .v undef), [], [(o, .box TB cs)], [(o, .box TB cs')], []⟩) :: tr) (st E ((o, .box TB cs') :: L) n) K) :
    Reg P r N D B all i (⟨none, .store T x y, ty, pos, aft, none⟩ :: ops) tr (st E L n) K :=
  Reg.set (es := [(true, .ptr o off), (true, c)]) (rd := []) ho gN ⟨_, _, rfl, hx, _, _, rfl, hy, rfl⟩ (by simp) hb (OpC.of_run (by simp) (by simp) fun md n0 cx H ρ w hok _ hHi _ hv => by
    obtain ⟨v1, v2⟩ := Vs.two hv
    simp only [entLV] at v1 v2
    have hob := hHi o (.box TB cs) (by simp)
    obtain ⟨hA, b', vs, k1, k2, k3⟩ := hok.ok o _ hob
    simp only [V] at v1
    obtain ⟨_, b, hbk, he⟩ := v1
    have hbk' := hbk
    rw [k1] at hbk
    simp only [bk, Option.some.injEq] at hbk
    subst hbk
    have hone := LV.one_spec h1 v2
    have hltv : off < vs.length := by rw [k3.length]; exact hlt
    have hcell : w.cell? ⟨b', off, none⟩ = some vs[off] := by simp [World.cell?, k2, hltv]
    have hfr : w.frozen? ⟨b', off, none⟩ = false := by simp [World.frozen?, k2]
    have hw' : (w.setCell ⟨b', off, none⟩ (ρ y)).heap[b']? = some (.cells (vs.set off (ρ y)).toArray TB (0, 0)) := by
      have hlt' := (Array.getElem?_eq_some_iff.1 k2).1
      have hget := (Array.getElem?_eq_some_iff.1 k2).2
      simp only [World.setCell, Array.getElem?_modify, if_true, k2, Option.map_some]
      simp
    have hoth : ∀ k, k ≠ b' → (w.setCell ⟨b', off, none⟩ (ρ y)).heap[k]? = w.heap[k]? := by
      intro k hk
      simp only [World.setCell, Array.getElem?_modify, if_neg (Ne.symm hk)]
    refine ⟨.skip, undef, w.setCell ⟨b', off, none⟩ (ρ y), cx, ?_, .inr ⟨rfl, rfl⟩, Tr.set hok hob hbk' ⟨rfl, rfl, rfl⟩ (by simp [World.setCell]) hoth (fun hext => ?_), V.mkval⟩
    · have hst := run_store P w ⟨b', off, none⟩ (ρ y) .plain hone
      rw [hcell] at hst
      simp only [hfr, Bool.false_eq_true, if_false] at hst
      have hadd : (⟨b', off, none⟩ : Addr).add 0 = ⟨b', off, none⟩ := rfl
      simp [execOp, he, Instr.storeAt, Instr.sureAddr, storeVar, cells_one hone, hF.2 w, storeCells, hadd, hst]
    · refine ⟨b', vs.set off (ρ y), k1, hw', ?_⟩
      rw [← hs]
      exact Vs.set (Vs.mono (CxLe.refl _) hext _ _ k3) (V.mono (CxLe.refl _) hext _ _ v2)) h

end

end Go.Proofs.Ytmiamhegohlglaa
