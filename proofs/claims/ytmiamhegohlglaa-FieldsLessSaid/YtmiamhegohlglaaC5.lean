/- The operations that leave memory alone: a rule for each. -/
import Derived.Test.YtmiamhegohlglaaC4
set_option linter.unusedSimpArgs false
set_option linter.unusedVariables false
namespace Go.Proofs.Ytmiamhegohlglaa

theorem OpC.of_run {P : Program} {r : Option Nat} {o : Oper} {lvs : List LV} {rd Hi Ho : List (Nat × LO)} {out : LV} {new : List Nat} (hnd : ∀ c, o.op ≠ .defer c)
    (hdom : ∀ p ∈ Ho, p.1 ∈ Hi.map (·.1) ∨ p.1 ∈ new)
    (h : ∀ (md : Nat → Prop) (n0 : Nat) (cx : Cx) (H : Hp) (ρ : Operand → Value) (w : World), HOk md n0 cx H w → (∀ o x, hp rd o = some x → H o = some x) → (∀ o x, hp Hi o = some x → H o = some x) →
      (∀ i ∈ new, ¬ cx.A i) → Vs cx w lvs (o.op.operands.toList.map ρ) →
      ∃ nx v w' cx', (execOp ρ o).run P w = .ok nx w' ∧ (nx = .value v ∨ (nx = .skip ∧ v = undef)) ∧ Tr cx w (hp Hi) cx' w' (hp Ho) (· ∈ new) ∧ V cx' w' out v) :
    OpC P r o lvs rd Hi out Ho new := by
  refine ⟨hdom, fun md n0 cx H a w K Q hok hrd hHi hnew hv hK => ?_⟩
  obtain ⟨nx, v, w', cx', h1, h2, h3, h4⟩ := h md n0 cx H a.eval w hok hrd hHi hnew hv
  refine ⟨fun _ _ => trivial, ?_⟩
  rw [Oper.semAt_eq _ _ _ hnd, h1]
  rcases h2 with rfl | ⟨rfl, rfl⟩
  · exact hK _ _ _ h3 h4
  · exact hK _ _ _ h3 h4

theorem OpC.of_pure {P : Program} {r : Option Nat} {o : Oper} {lvs : List LV} {rd : List (Nat × LO)} {out : LV} (hnd : ∀ c, o.op ≠ .defer c)
    (h : ∀ (md : Nat → Prop) (n0 : Nat) (cx : Cx) (H : Hp) (ρ : Operand → Value) (w : World), HOk md n0 cx H w → (∀ o x, hp rd o = some x → H o = some x) → Vs cx w lvs (o.op.operands.toList.map ρ) →
      ∃ v, (execOp ρ o).run P w = .ok (.value v) w ∧ V cx w out v) : OpC P r o lvs rd [] out [] [] :=
  OpC.of_run hnd (by simp) fun md n0 cx H ρ w hok hrd _ _ hv => by
    obtain ⟨v, h1, h2⟩ := h md n0 cx H ρ w hok hrd hv
    exact ⟨_, v, w, cx, h1, .inl rfl, Tr.idle hok, h2⟩

/-- one operand -/
theorem Vs.one {cx : Cx} {w : World} {l : LV} {x : Value} (h : Vs cx w [l] [x]) : V cx w l x := by
  simp only [Vs] at h
  obtain ⟨y, r, he, hv, rfl⟩ := h
  cases he; exact hv
theorem Vs.two {cx : Cx} {w : World} {l k : LV} {x y : Value} (h : Vs cx w [l, k] [x, y]) : V cx w l x ∧ V cx w k y := by
  simp only [Vs] at h
  obtain ⟨a, r, he, hv, b, r', rfl, hv', rfl⟩ := h
  cases he; exact ⟨hv, hv'⟩
theorem Vs.three {cx : Cx} {w : World} {l k j : LV} {x y z : Value} (h : Vs cx w [l, k, j] [x, y, z]) : V cx w l x ∧ V cx w k y ∧ V cx w j z := by
  simp only [Vs] at h
  obtain ⟨a, r, he, hv, b, r', rfl, hv', c, r'', rfl, hv'', rfl⟩ := h
  cases he; exact ⟨hv, hv', hv''⟩

abbrev LV.v (x : Value) : LV := .sv (.val x)
abbrev LV.i (n : Int) : LV := .sv (.val (.int .i64 n))
abbrev LV.u (n : Int) : LV := .sv (.val (.int .u64 n))
abbrev LV.b (b : Bool) : LV := .sv (.val (.bool b))
abbrev LV.s (s : ByteArray) : LV := .sv (.val (.string s))
abbrev LV.y (n : Int) : LV := .sv (.val (.int .u8 n))

theorem V.val {cx : Cx} {w : World} {x y : Value} (h : V cx w (.sv (.val x)) y) : y = x := by simpa [V, VS] using h
theorem V.mkval {cx : Cx} {w : World} {x : Value} : V cx w (.sv (.val x)) x := by simp [V, VS]

theorem OpC.of_pure1 {P : Program} {r : Option Nat} {o : Oper} {l : LV} {rd : List (Nat × LO)} {out : LV} {x : Operand} (hl : o.op.operands.toList = [x]) (hnd : ∀ c, o.op ≠ .defer c)
    (h : ∀ (md : Nat → Prop) (n0 : Nat) (cx : Cx) (H : Hp) (ρ : Operand → Value) (w : World), HOk md n0 cx H w → (∀ o x, hp rd o = some x → H o = some x) → V cx w l (ρ x) →
      ∃ v, (execOp ρ o).run P w = .ok (.value v) w ∧ V cx w out v) : OpC P r o [l] rd [] out [] [] :=
  OpC.of_pure hnd fun md n0 cx H ρ w h1 h2 h3 => h md n0 cx H ρ w h1 h2 (by rw [hl] at h3; exact Vs.one h3)
theorem OpC.of_pure2 {P : Program} {r : Option Nat} {o : Oper} {l k : LV} {rd : List (Nat × LO)} {out : LV} {x y : Operand} (hl : o.op.operands.toList = [x, y]) (hnd : ∀ c, o.op ≠ .defer c)
    (h : ∀ (md : Nat → Prop) (n0 : Nat) (cx : Cx) (H : Hp) (ρ : Operand → Value) (w : World), HOk md n0 cx H w → (∀ o x, hp rd o = some x → H o = some x) → V cx w l (ρ x) → V cx w k (ρ y) →
      ∃ v, (execOp ρ o).run P w = .ok (.value v) w ∧ V cx w out v) : OpC P r o [l, k] rd [] out [] [] :=
  OpC.of_pure hnd fun md n0 cx H ρ w h1 h2 h3 => by rw [hl] at h3; exact h md n0 cx H ρ w h1 h2 (Vs.two h3).1 (Vs.two h3).2
theorem OpC.of_pure3 {P : Program} {r : Option Nat} {o : Oper} {l k j : LV} {rd : List (Nat × LO)} {out : LV} {x y z : Operand} (hl : o.op.operands.toList = [x, y, z]) (hnd : ∀ c, o.op ≠ .defer c)
    (h : ∀ (md : Nat → Prop) (n0 : Nat) (cx : Cx) (H : Hp) (ρ : Operand → Value) (w : World), HOk md n0 cx H w → (∀ o x, hp rd o = some x → H o = some x) → V cx w l (ρ x) → V cx w k (ρ y) → V cx w j (ρ z) →
      ∃ v, (execOp ρ o).run P w = .ok (.value v) w ∧ V cx w out v) : OpC P r o [l, k, j] rd [] out [] [] :=
  OpC.of_pure hnd fun md n0 cx H ρ w h1 h2 h3 => by rw [hl] at h3; exact h md n0 cx H ρ w h1 h2 (Vs.three h3).1 (Vs.three h3).2.1 (Vs.three h3).2.2

section
variable {P : Program} {r : Option Nat} {N : Nat} {D : List Nat} {B : Base} {all : Array Oper} {K : List (Nat × Ct) → St → Prop}
variable {i : Nat} {ops : List Oper} {tr : List (Nat × Ct)} {E : List (Nat × Ent)} {L : List (Nat × LO)} {n : Nat} {g : Bool} {gn : List (Nat × Ent)}
variable {d ty : Nat} {pos : String} {aft : Array Edge} {gd : Option (Nat × Bool)}

/-- the trace's row for an operation that leaves the objects alone -/
abbrev Ct.p (gn : List (Nat × Ent)) (xs : List Operand) (es : List Ent) (d : Option Nat) (e : Ent) (rd : List (Nat × LO)) : Ct := ⟨gn ++ needOf xs es, d, e, rd, [], [], []⟩

/-- an operation of one operand that leaves the objects alone -/
theorem Reg.one {op : Op} {x : Operand} {e : Ent} {out : LV} {rd : List (Nat × LO)} (hop : op.operands = #[x]) (hO : g = true → OpC P r ⟨some d, op, ty, pos, aft, gd⟩ [entLV e] rd [] out [] [])
    (ho : all[i]? = some ⟨some d, op, ty, pos, aft, gd⟩) (hg : GuardOk (en E) all gd g gn) (hx : lvOf (en E) x = some e) (hrd : ∀ k y, hp rd k = some y → hp L k = some y)
    (h : Reg P r N D B all (i + 1) ops ((i, Ct.p gn [x] [e] (some d) (g, out) rd) :: tr) (st ((d, (g, out)) :: E) L n) K) :
    Reg P r N D B all i (⟨some d, op, ty, pos, aft, gd⟩ :: ops) tr (st E L n) K := by
  have hl : (Oper.mk (some d) op ty pos aft gd).op.operands.toList = [x] := by simp [hop]
  refine Reg.pure (es := [e]) ho hg ?_ hrd hO ?_
  · rw [hl]; exact ⟨_, _, rfl, hx, rfl⟩
  · rw [hl]; exact h
theorem Reg.two {op : Op} {x y : Operand} {e f : Ent} {out : LV} {rd : List (Nat × LO)} (hop : op.operands = #[x, y]) (hO : g = true → OpC P r ⟨some d, op, ty, pos, aft, gd⟩ [entLV e, entLV f] rd [] out [] [])
    (ho : all[i]? = some ⟨some d, op, ty, pos, aft, gd⟩) (hg : GuardOk (en E) all gd g gn) (hx : lvOf (en E) x = some e) (hy : lvOf (en E) y = some f) (hrd : ∀ k y, hp rd k = some y → hp L k = some y)
    (h : Reg P r N D B all (i + 1) ops ((i, Ct.p gn [x, y] [e, f] (some d) (g, out) rd) :: tr) (st ((d, (g, out)) :: E) L n) K) :
    Reg P r N D B all i (⟨some d, op, ty, pos, aft, gd⟩ :: ops) tr (st E L n) K := by
  have hl : (Oper.mk (some d) op ty pos aft gd).op.operands.toList = [x, y] := by simp [hop]
  refine Reg.pure (es := [e, f]) ho hg ?_ hrd hO ?_
  · rw [hl]; exact ⟨_, _, rfl, hx, _, _, rfl, hy, rfl⟩
  · rw [hl]; exact h
theorem Reg.three {op : Op} {x y z : Operand} {e f j : Ent} {out : LV} {rd : List (Nat × LO)} (hop : op.operands = #[x, y, z]) (hO : g = true → OpC P r ⟨some d, op, ty, pos, aft, gd⟩ [entLV e, entLV f, entLV j] rd [] out [] [])
    (ho : all[i]? = some ⟨some d, op, ty, pos, aft, gd⟩) (hg : GuardOk (en E) all gd g gn) (hx : lvOf (en E) x = some e) (hy : lvOf (en E) y = some f) (hz : lvOf (en E) z = some j) (hrd : ∀ k y, hp rd k = some y → hp L k = some y)
    (h : Reg P r N D B all (i + 1) ops ((i, Ct.p gn [x, y, z] [e, f, j] (some d) (g, out) rd) :: tr) (st ((d, (g, out)) :: E) L n) K) :
    Reg P r N D B all i (⟨some d, op, ty, pos, aft, gd⟩ :: ops) tr (st E L n) K := by
  have hl : (Oper.mk (some d) op ty pos aft gd).op.operands.toList = [x, y, z] := by simp [hop]
  refine Reg.pure (es := [e, f, j]) ho hg ?_ hrd hO ?_
  · rw [hl]; exact ⟨_, _, rfl, hx, _, _, rfl, hy, _, _, rfl, hz, rfl⟩
  · rw [hl]; exact h

theorem entLV_true {g gx : Bool} {l : LV} (hg : g = true) (h : g = true → gx = true) : entLV (gx, l) = l := by rw [h hg]; rfl

/-! moves -/

theorem R.move {x : Operand} {gx : Bool} {lv : LV} (ho : all[i]? = some ⟨some d, .move x, ty, pos, aft, gd⟩ := by rfl) (hg : GuardOk (en E) all gd g gn := by first | exact gN | exact gS rfl rfl)
    (hx : lvOf (en E) x = some (gx, lv) := by rfl) (hgx : g = true → gx = true := by first | exact fun _ => rfl | exact id)
    (h : Reg P r N D B all (i + 1) ops ((i, Ct.p gn [x] [(gx, lv)] (some d) (g, lv) []) :: tr) (st ((d, (g, lv)) :: E) L n) K) :
    Reg P r N D B all i (⟨some d, .move x, ty, pos, aft, gd⟩ :: ops) tr (st E L n) K :=
  Reg.one rfl (fun h => by
    rw [entLV_true h hgx]
    exact OpC.of_pure1 (x := x) rfl (by simp) fun md n0 cx H ρ w _ _ hv => ⟨ρ x, rfl, hv⟩) ho hg hx (by simp) h
theorem R.assign {x : Operand} {gx : Bool} {lv : LV} (ho : all[i]? = some ⟨some d, .assign x, ty, pos, aft, gd⟩ := by rfl) (hg : GuardOk (en E) all gd g gn := by first | exact gN | exact gS rfl rfl)
    (hx : lvOf (en E) x = some (gx, lv) := by rfl) (hgx : g = true → gx = true := by first | exact fun _ => rfl | exact id)
    (h : Reg P r N D B all (i + 1) ops ((i, Ct.p gn [x] [(gx, lv)] (some d) (g, lv) []) :: tr) (st ((d, (g, lv)) :: E) L n) K) :
    Reg P r N D B all i (⟨some d, .assign x, ty, pos, aft, gd⟩ :: ops) tr (st E L n) K :=
  Reg.one rfl (fun h => by
    rw [entLV_true h hgx]
    exact OpC.of_pure1 (x := x) rfl (by simp) fun md n0 cx H ρ w _ _ hv => ⟨ρ x, rfl, hv⟩) ho hg hx (by simp) h
theorem R.extract {x : Operand} {gx : Bool} {cs : List LV} {lv : LV} {ix : Nat} (ho : all[i]? = some ⟨some d, .extract x ix, ty, pos, aft, gd⟩ := by rfl) (hg : GuardOk (en E) all gd g gn := by first | exact gN | exact gS rfl rfl)
    (hx : lvOf (en E) x = some (gx, .tup cs) := by rfl) (hgx : g = true → gx = true := by first | exact fun _ => rfl | exact id) (hc : cs[ix]? = some lv := by rfl)
    (h : Reg P r N D B all (i + 1) ops ((i, Ct.p gn [x] [(gx, .tup cs)] (some d) (g, lv) []) :: tr) (st ((d, (g, lv)) :: E) L n) K) :
    Reg P r N D B all i (⟨some d, .extract x ix, ty, pos, aft, gd⟩ :: ops) tr (st E L n) K :=
  Reg.one rfl (fun h => by
    rw [entLV_true h hgx]
    refine OpC.of_pure1 (x := x) rfl (by simp) fun md n0 cx H ρ w _ _ hv => ?_
    simp only [V] at hv
    obtain ⟨vs, h1, h2⟩ := hv
    obtain ⟨v, h3, h4⟩ := h2.get hc
    exact ⟨v, by simp [execOp, Instr.extract, h1, h3], h4⟩) ho hg hx (by simp) h

/-! booleans -/

theorem R.or {c y : Operand} {gc gy : Bool} {p q : Bool} (ho : all[i]? = some ⟨some d, .pick c (.const (.bool true)) y, ty, pos, aft, gd⟩ := by rfl) (hg : GuardOk (en E) all gd g gn := by first | exact gN | exact gS rfl rfl)
    (hc : lvOf (en E) c = some (gc, .b p) := by rfl) (hy : lvOf (en E) y = some (gy, .b q) := by rfl) (hgc : g = true → gc = true := by first | exact fun _ => rfl | exact id)
    (hgy : g = true → p = false → gy = true := by first | exact fun _ _ => rfl | (intro _ h; simp [h]; done) | (intro h1 h2; simp [h1, h2]; done) | (intro h1 h2; simp_all))
    (h : Reg P r N D B all (i + 1) ops ((i, Ct.p gn [c, .const (.bool true), y] [(gc, .b p), (true, .b true), (gy, .b q)] (some d) (g, .b (p || q)) []) :: tr) (st ((d, (g, .b (p || q))) :: E) L n) K) :
    Reg P r N D B all i (⟨some d, .pick c (.const (.bool true)) y, ty, pos, aft, gd⟩ :: ops) tr (st E L n) K :=
  Reg.three rfl (fun hgt => by
    rw [entLV_true hgt hgc]
    refine OpC.of_pure3 rfl (by simp) fun md n0 cx H ρ w _ _ v1 v2 v3 => ?_
    have e1 := v1.val
    have e2 : ρ (.const (.bool true)) = .bool true := V.val v2
    cases p with
    | true => exact ⟨.bool true, by simp [execOp, e1, e2, asBool], V.mkval⟩
    | false =>
      have hgy' := hgy hgt rfl
      subst hgy'
      have e3 : ρ y = .bool q := V.val v3
      exact ⟨.bool q, by simp [execOp, e1, e3, asBool], V.mkval⟩) ho hg hc rfl hy (by simp) h
theorem R.and {c y : Operand} {gc gy : Bool} {p q : Bool} (ho : all[i]? = some ⟨some d, .pick c y (.const (.bool false)), ty, pos, aft, gd⟩ := by rfl) (hg : GuardOk (en E) all gd g gn := by first | exact gN | exact gS rfl rfl)
    (hc : lvOf (en E) c = some (gc, .b p) := by rfl) (hy : lvOf (en E) y = some (gy, .b q) := by rfl) (hgc : g = true → gc = true := by first | exact fun _ => rfl | exact id)
    (hgy : g = true → p = true → gy = true := by first | exact fun _ _ => rfl | (intro _ h; simp [h]; done) | (intro h1 h2; simp [h1, h2]; done) | (intro h1 h2; simp_all))
    (h : Reg P r N D B all (i + 1) ops ((i, Ct.p gn [c, y, .const (.bool false)] [(gc, .b p), (gy, .b q), (true, .b false)] (some d) (g, .b (p && q)) []) :: tr) (st ((d, (g, .b (p && q))) :: E) L n) K) :
    Reg P r N D B all i (⟨some d, .pick c y (.const (.bool false)), ty, pos, aft, gd⟩ :: ops) tr (st E L n) K :=
  Reg.three rfl (fun hgt => by
    rw [entLV_true hgt hgc]
    refine OpC.of_pure3 rfl (by simp) fun md n0 cx H ρ w _ _ v1 v2 v3 => ?_
    have e1 := v1.val
    have e2 : ρ (.const (.bool false)) = .bool false := V.val v3
    cases p with
    | false => exact ⟨.bool false, by simp [execOp, e1, e2, asBool], V.mkval⟩
    | true =>
      have hgy' := hgy hgt rfl
      subst hgy'
      have e3 : ρ y = .bool q := V.val v2
      exact ⟨.bool q, by simp [execOp, e1, e3, asBool], V.mkval⟩) ho hg hc hy rfl (by simp) h
theorem R.not {t : Nat} {x : Operand} {gx : Bool} {p : Bool} (ho : all[i]? = some ⟨some d, .unOp .not t x, ty, pos, aft, gd⟩ := by rfl) (hg : GuardOk (en E) all gd g gn := by first | exact gN | exact gS rfl rfl)
    (hx : lvOf (en E) x = some (gx, .b p) := by rfl) (hgx : g = true → gx = true := by first | exact fun _ => rfl | exact id)
    (h : Reg P r N D B all (i + 1) ops ((i, Ct.p gn [x] [(gx, .b p)] (some d) (g, .b (!p)) []) :: tr) (st ((d, (g, .b (!p))) :: E) L n) K) :
    Reg P r N D B all i (⟨some d, .unOp .not t x, ty, pos, aft, gd⟩ :: ops) tr (st E L n) K :=
  Reg.one rfl (fun h => by
    rw [entLV_true h hgx]
    refine OpC.of_pure1 (x := x) rfl (by simp) fun md n0 cx H ρ w _ _ hv => ?_
    have e := hv.val
    exact ⟨.bool (!p), by simp [execOp, Op.unary, e], V.mkval⟩) ho hg hx (by simp) h

/-! integers -/

/-- an operator on two plain values -/
theorem R.bin {op : BinOp} {t yt : Nat} {x y : Operand} {gx gy : Bool} {a b v : Value} (hv : ∀ w, (do eqGuard op t x y a b; binOp op t a b : Sem Value).run P w = .ok v w)
    (ho : all[i]? = some ⟨some d, .binOp op t x y yt, ty, pos, aft, gd⟩ := by rfl) (hg : GuardOk (en E) all gd g gn := by first | exact gN | exact gS rfl rfl)
    (hx : lvOf (en E) x = some (gx, .v a) := by rfl) (hy : lvOf (en E) y = some (gy, .v b) := by rfl)
    (hgx : g = true → gx = true := by first | exact fun _ => rfl | exact id) (hgy : g = true → gy = true := by first | exact fun _ => rfl | exact id)
    (h : Reg P r N D B all (i + 1) ops ((i, Ct.p gn [x, y] [(gx, .v a), (gy, .v b)] (some d) (g, .v v) []) :: tr) (st ((d, (g, .v v)) :: E) L n) K) :
    Reg P r N D B all i (⟨some d, .binOp op t x y yt, ty, pos, aft, gd⟩ :: ops) tr (st E L n) K :=
  Reg.two rfl (fun h => by
    rw [entLV_true h hgx, entLV_true h hgy]
    refine OpC.of_pure2 (x := x) (y := y) rfl (by simp) fun md n0 cx H ρ w _ _ v1 v2 => ?_
    refine ⟨v, ?_, V.mkval⟩
    have := hv w
    rw [← v1.val, ← v2.val] at this
    simp only [execOp]
    rw [Sem.run_bind, this]
    rfl) ho hg hx hy (by simp) h

theorem binI (op : BinOp) (hop : (op matches .eql | .neq) = false) (t : Nat) (x y : Operand) (k : IntKind) (a b : Int) {v : Value} (h : ∀ w, (binOp op t (.int k a) (.int k b)).run P w = .ok v w) :
    ∀ w, (do eqGuard op t x y (.int k a) (.int k b); binOp op t (.int k a) (.int k b) : Sem Value).run P w = .ok v w := by
  intro w
  have : (eqGuard op t x y (.int k a) (.int k b)).run P w = .ok () w := by cases op <;> simp_all [eqGuard]
  rw [Sem.run_bind, this]
  exact h w

theorem run_lss (t : Nat) (x y : Operand) (k : IntKind) (a b : Int) : ∀ w, (do eqGuard .lss t x y (.int k a) (.int k b); binOp .lss t (.int k a) (.int k b) : Sem Value).run P w = .ok (.bool (decide (a < b))) w :=
  binI .lss rfl t x y k a b fun w => by simp [binOp, Op.intCmp]
theorem run_leq (t : Nat) (x y : Operand) (k : IntKind) (a b : Int) : ∀ w, (do eqGuard .leq t x y (.int k a) (.int k b); binOp .leq t (.int k a) (.int k b) : Sem Value).run P w = .ok (.bool (decide (a ≤ b))) w :=
  binI .leq rfl t x y k a b fun w => by simp [binOp, Op.intCmp]
theorem run_gtr (t : Nat) (x y : Operand) (k : IntKind) (a b : Int) : ∀ w, (do eqGuard .gtr t x y (.int k a) (.int k b); binOp .gtr t (.int k a) (.int k b) : Sem Value).run P w = .ok (.bool (decide (b < a))) w :=
  binI .gtr rfl t x y k a b fun w => by simp [binOp, Op.intCmp]
theorem run_geq (t : Nat) (x y : Operand) (k : IntKind) (a b : Int) : ∀ w, (do eqGuard .geq t x y (.int k a) (.int k b); binOp .geq t (.int k a) (.int k b) : Sem Value).run P w = .ok (.bool (decide (b ≤ a))) w :=
  binI .geq rfl t x y k a b fun w => by simp [binOp, Op.intCmp]
theorem run_eql (t : Nat) (x y : Operand) (k : IntKind) (a b : Int) : ∀ w, (do eqGuard .eql t x y (.int k a) (.int k b); binOp .eql t (.int k a) (.int k b) : Sem Value).run P w = .ok (.bool (decide (a = b))) w := by
  intro w
  have : (a == b) = decide (a = b) := by by_cases h : a = b <;> simp [h]
  simp [eqGuard, binOp, Op.intCmp, this]
theorem run_neq (t : Nat) (x y : Operand) (k : IntKind) (a b : Int) : ∀ w, (do eqGuard .neq t x y (.int k a) (.int k b); binOp .neq t (.int k a) (.int k b) : Sem Value).run P w = .ok (.bool (!decide (a = b))) w := by
  intro w
  have : (a != b) = !decide (a = b) := by by_cases h : a = b <;> simp [h]
  simp [eqGuard, binOp, Op.intCmp, this]
theorem run_addW (t : Nat) (x y : Operand) (k : IntKind) (a b : Int) : ∀ w, (do eqGuard .add t x y (.int k a) (.int k b); binOp .add t (.int k a) (.int k b) : Sem Value).run P w = .ok (.int k (k.wrap (a + b))) w :=
  binI .add rfl t x y k a b fun w => by simp [binOp, Op.intArith]
theorem run_subW (t : Nat) (x y : Operand) (k : IntKind) (a b : Int) : ∀ w, (do eqGuard .sub t x y (.int k a) (.int k b); binOp .sub t (.int k a) (.int k b) : Sem Value).run P w = .ok (.int k (k.wrap (a - b))) w :=
  binI .sub rfl t x y k a b fun w => by simp [binOp, Op.intArith]
theorem run_mulW (t : Nat) (x y : Operand) (k : IntKind) (a b : Int) : ∀ w, (do eqGuard .mul t x y (.int k a) (.int k b); binOp .mul t (.int k a) (.int k b) : Sem Value).run P w = .ok (.int k (k.wrap (a * b))) w :=
  binI .mul rfl t x y k a b fun w => by simp [binOp, Op.intArith]
theorem run_add (t : Nat) (x y : Operand) (k : IntKind) (a b : Int) (h : k.wrap (a + b) = a + b) : ∀ w, (do eqGuard .add t x y (.int k a) (.int k b); binOp .add t (.int k a) (.int k b) : Sem Value).run P w = .ok (.int k (a + b)) w := by
  have := run_addW (P := P) t x y k a b; rwa [h] at this
theorem run_sub (t : Nat) (x y : Operand) (k : IntKind) (a b : Int) (h : k.wrap (a - b) = a - b) : ∀ w, (do eqGuard .sub t x y (.int k a) (.int k b); binOp .sub t (.int k a) (.int k b) : Sem Value).run P w = .ok (.int k (a - b)) w := by
  have := run_subW (P := P) t x y k a b; rwa [h] at this
theorem run_mul (t : Nat) (x y : Operand) (k : IntKind) (a b : Int) (h : k.wrap (a * b) = a * b) : ∀ w, (do eqGuard .mul t x y (.int k a) (.int k b); binOp .mul t (.int k a) (.int k b) : Sem Value).run P w = .ok (.int k (a * b)) w := by
  have := run_mulW (P := P) t x y k a b; rwa [h] at this

theorem toList_data (a : ByteArray) : a.toList = a.data.toList := ByteArray.toList_eq a
theorem run_eqlS (t : Nat) (x y : Operand) (a b : ByteArray) : ∀ w, (do eqGuard .eql t x y (.string a) (.string b); binOp .eql t (.string a) (.string b) : Sem Value).run P w = .ok (.bool (decide (a = b))) w := by
  intro w
  have : (a.toList == b.toList) = decide (a = b) := by
    by_cases h : a = b
    · subst h; simp
    · have : a.toList ≠ b.toList := by
        rw [toList_data, toList_data]
        intro he
        apply h
        cases a; cases b
        simp only [ByteArray.mk.injEq]
        exact Array.toList_inj.1 he
      simp [h, this]
  simp [eqGuard, binOp, Op.stringOp, this]
theorem run_neqS (t : Nat) (x y : Operand) (a b : ByteArray) : ∀ w, (do eqGuard .neq t x y (.string a) (.string b); binOp .neq t (.string a) (.string b) : Sem Value).run P w = .ok (.bool (!decide (a = b))) w := by
  intro w
  have h := run_eqlS (P := P) t x y a b w
  simp only [Sem.run_bind] at h ⊢
  have : (eqGuard .neq t x y (.string a) (.string b)).run P w = .ok () w := by simp [eqGuard]
  have h2 : (eqGuard .eql t x y (.string a) (.string b)).run P w = .ok () w := by simp [eqGuard]
  rw [h2] at h
  rw [this]
  simp [binOp, Op.stringOp] at h ⊢
  exact h

/-- a conversion of integers -/
theorem R.conv {s t : Nat} {x : Operand} {gx : Bool} {a v : Value} (hv : ∀ w, (convert s t a).run P w = .ok v w) (ho : all[i]? = some ⟨some d, .convert s t x, ty, pos, aft, gd⟩ := by rfl)
    (hg : GuardOk (en E) all gd g gn := by first | exact gN | exact gS rfl rfl)
    (hx : lvOf (en E) x = some (gx, .v a) := by rfl) (hgx : g = true → gx = true := by first | exact fun _ => rfl | exact id)
    (h : Reg P r N D B all (i + 1) ops ((i, Ct.p gn [x] [(gx, .v a)] (some d) (g, .v v) []) :: tr) (st ((d, (g, .v v)) :: E) L n) K) :
    Reg P r N D B all i (⟨some d, .convert s t x, ty, pos, aft, gd⟩ :: ops) tr (st E L n) K :=
  Reg.one rfl (fun h => by
    rw [entLV_true h hgx]
    refine OpC.of_pure1 (x := x) rfl (by simp) fun md n0 cx H ρ w _ _ hvv => ?_
    have e := hvv.val
    exact ⟨v, by simp [execOp, e, hv w], V.mkval⟩) ho hg hx (by simp) h
theorem run_convI {s t : Nat} {k k' : IntKind} {a : Int} {ds : TypeDesc} (hs : ∀ w, (underlying s).run P w = .ok ds w) (ht : ∀ w, (underlying t).run P w = .ok (.int k') w) : ∀ w, (convert s t (.int k a)).run P w = .ok (.int k' (k'.wrap a)) w :=
  fun w => by cases ds <;> simp [convert, hs w, ht w, Conv.intToInt]

/-! fields, indexes: what the types say is laid once for a program -/

def FieldF (P : Program) (T f fo : Nat) : Prop := ∀ (b off : Nat) (w : World), (Instr.fieldAt T (.pointer (some ⟨b, off, none⟩)) f).run P w = .ok (.pointer (some ⟨b, off + fo, none⟩)) w
def IndexF (P : Program) (T sz : Nat) : Prop := ∀ (b off len cap : Nat) (k : IntKind) (i : Int) (w : World), 0 ≤ i → i < len →
  (Instr.indexAt T (.slice (some ⟨b, off, none⟩) len cap) (.int k i)).run P w = .ok (.pointer (some ⟨b, off + i.toNat * sz, none⟩)) w
def IndexAF (P : Program) (T len sz : Nat) : Prop := ∀ (b off : Nat) (k : IntKind) (i : Int) (w : World), 0 ≤ i → i < len →
  (Instr.indexAt T (.pointer (some ⟨b, off, none⟩)) (.int k i)).run P w = .ok (.pointer (some ⟨b, off + i.toNat * sz, none⟩)) w
def AggF (P : Program) (T sz : Nat) : Prop := (∀ w, (isAgg T).run P w = .ok true w) ∧ (∀ w, (sizeOf T).run P w = .ok sz w)
def OneF (P : Program) (T : Nat) : Prop := (∀ w, (isAgg T).run P w = .ok false w) ∧ (∀ w, (sizeOf T).run P w = .ok 1 w)

theorem FieldF.of {T f fo m : Nat} {fs : Array Field} {fl : Field} (hT : ∀ w, (underlying T).run P w = .ok (.struct fs) w) (hf : fs[f]? = some fl) (ho : fl.offset = fo) (hz : ∀ w, (sizeOf fl.type).run P w = .ok (m + 1) w) : FieldF P T f fo := by
  intro b off w
  subst ho
  simp only [Instr.fieldAt, Sem.run_bind, hT w, Result.andThen_ok, hf, Instr.sureAddr, Sem.run_pure, fieldPlace, hz w]
  simp only [Nat.add_one_ne_zero, if_false, Sem.run_bind, Sem.run_pure, Result.andThen_ok, Addr.add]
  split <;> simp_all
theorem IndexF.of {T e sz : Nat} (hT : ∀ w, (underlying T).run P w = .ok (.slice e) w) (hz : ∀ w, (sizeOf e).run P w = .ok sz w) : IndexF P T sz := by
  intro b off len cap k i w h0 h1
  simp only [Instr.indexAt, asIntOf, Sem.run_bind, Sem.run_pure, hT w, Result.andThen_ok]
  simp only [h0, h1, and_self, if_true, Sem.run_bind, hz w, Result.andThen_ok, Sem.run_pure, Addr.add]
  split <;> simp_all
theorem IndexAF.of {T e sz len : Nat} (hT : ∀ w, (underlying T).run P w = .ok (.array len e) w) (hz : ∀ w, (sizeOf e).run P w = .ok sz w) : IndexAF P T len sz := by
  intro b off k i w h0 h1
  simp only [Instr.indexAt, asIntOf, Sem.run_bind, Sem.run_pure, hT w, Result.andThen_ok, Instr.sureAddr]
  simp only [h0, h1, and_self, if_true, Sem.run_bind, hz w, Result.andThen_ok, Sem.run_pure, Addr.add]
  split <;> simp_all

theorem R.field {T f fo : Nat} (hF : FieldF P T f fo) {x : Operand} {gx : Bool} {o off : Nat}
    (ho : all[i]? = some ⟨some d, .fieldAddr T x f, ty, pos, aft, gd⟩ := by rfl) (hg : GuardOk (en E) all gd g gn := by first | exact gN | exact gS rfl rfl)
    (hx : lvOf (en E) x = some (gx, .ptr o off) := by rfl) (hgx : g = true → gx = true := by first | exact fun _ => rfl | exact id)
    (h : Reg P r N D B all (i + 1) ops ((i, Ct.p gn [x] [(gx, .ptr o off)] (some d) (g, .ptr o (off + fo)) []) :: tr) (st ((d, (g, .ptr o (off + fo))) :: E) L n) K) :
    Reg P r N D B all i (⟨some d, .fieldAddr T x f, ty, pos, aft, gd⟩ :: ops) tr (st E L n) K :=
  Reg.one rfl (fun h => by
    rw [entLV_true h hgx]
    refine OpC.of_pure1 (x := x) rfl (by simp) fun md n0 cx H ρ w _ _ hvv => ?_
    have e := hvv
    simp only [V] at e
    obtain ⟨hA, b, hb, he⟩ := e
    refine ⟨.pointer (some ⟨b, off + fo, none⟩), ?_, by simp only [V]; exact ⟨hA, b, hb, rfl⟩⟩
    simp [execOp, he, hF b off w]) ho hg hx (by simp) h
theorem VSC.drop {pr : Nat → Nat} {w : World} {b : Nat} : ∀ (k : Nat) {cs : List SV} {off : Nat}, VSC pr w b off cs → VSC pr w b (off + k) (cs.drop k)
  | 0, cs, off, h => by simpa using h
  | k + 1, [], off, h => by simp [VSC]
  | k + 1, c :: cs, off, h => by
    simp only [VSC] at h
    simp only [List.drop_succ_cons]
    have := VSC.drop k h.2
    rwa [show off + 1 + k = off + (k + 1) from by omega] at this
theorem VSC.get {pr : Nat → Nat} {w : World} {b : Nat} : ∀ {cs : List SV} {off : Nat}, VSC pr w b off cs → ∀ {k : Nat} {c : SV}, cs[k]? = some c → ∃ v, w.cell? ⟨b, off + k, none⟩ = some v ∧ v.oneCell' = true ∧ VS pr w c v
  | [], off, h, k, c, hc => by simp at hc
  | c :: cs, off, h, 0, d, hc => by simp only [VSC] at h; simp at hc; subst hc; simpa using h.1
  | c :: cs, off, h, k + 1, d, hc => by
    simp only [VSC] at h
    obtain ⟨v, h1, ho, h2⟩ := VSC.get h.2 (k := k) (by simpa using hc)
    exact ⟨v, by rwa [show off + 1 + k = off + (k + 1) from by omega] at h1, ho, h2⟩
theorem VSR.get {pr : Nat → Nat} {w : World} {b : Nat} : ∀ {xs : List (List SV)} {off sz : Nat}, VSR pr w b off sz xs → ∀ {k : Nat} {e : List SV}, xs[k]? = some e → e.length = sz ∧ VSC pr w b (off + k * sz) e
  | [], off, sz, h, k, e, he => by simp at he
  | e :: es, off, sz, h, 0, d, hd => by simp only [VSR] at h; simp at hd; subst hd; simpa using ⟨h.1, h.2.1⟩
  | e :: es, off, sz, h, k + 1, d, hd => by
    simp only [VSR] at h
    obtain ⟨h1, h2⟩ := VSR.get h.2.2 (k := k) (by simpa using hd)
    refine ⟨h1, ?_⟩
    rwa [show off + sz + k * sz = off + (k + 1) * sz from by rw [Nat.add_mul]; omega] at h2

/-- a field of an element of a slice that is not written any more -/
theorem R.fieldAt {T f fo : Nat} (hF : FieldF P T f fo) {x : Operand} {gx : Bool} {cs : List SV}
    (ho : all[i]? = some ⟨some d, .fieldAddr T x f, ty, pos, aft, gd⟩ := by rfl) (hg : GuardOk (en E) all gd g gn := by first | exact gN | exact gS rfl rfl)
    (hx : lvOf (en E) x = some (gx, .sv (.at_ cs)) := by rfl) (hgx : g = true → gx = true := by first | exact fun _ => rfl | exact id) (hl : fo ≤ cs.length := by first | exact Nat.le_of_ble_eq_true rfl | decide | (simp; done) | skip)
    (h : Reg P r N D B all (i + 1) ops ((i, Ct.p gn [x] [(gx, .sv (.at_ cs))] (some d) (g, .sv (.at_ (cs.drop fo))) []) :: tr) (st ((d, (g, .sv (.at_ (cs.drop fo)))) :: E) L n) K) :
    Reg P r N D B all i (⟨some d, .fieldAddr T x f, ty, pos, aft, gd⟩ :: ops) tr (st E L n) K :=
  Reg.one rfl (fun h => by
    rw [entLV_true h hgx]
    refine OpC.of_pure1 (x := x) rfl (by simp) fun md n0 cx H ρ w _ _ hvv => ?_
    have e := hvv
    simp only [V, VS] at e
    obtain ⟨b, off, he, hp, hc⟩ := e
    refine ⟨.pointer (some ⟨b, off + fo, none⟩), by simp [execOp, he, hF b off w], ?_⟩
    simp only [V, VS]
    exact ⟨b, off + fo, rfl, by rw [List.length_drop]; omega, VSC.drop fo hc⟩) ho hg hx (by simp) h

/-- an element of a slice that is not written any more -/
theorem R.index {T sz : Nat} (hF : IndexF P T sz) {x y : Operand} {gx gy : Bool} {xs : List (List SV)} {k : IntKind} {j : Int} {e : List SV}
    (ho : all[i]? = some ⟨some d, .indexAddr T x y, ty, pos, aft, gd⟩ := by rfl) (hg : GuardOk (en E) all gd g gn := by first | exact gN | exact gS rfl rfl)
    (hx : lvOf (en E) x = some (gx, .sv (.sl sz xs)) := by rfl) (hy : lvOf (en E) y = some (gy, .v (.int k j)) := by rfl)
    (hgx : g = true → gx = true := by first | exact fun _ => rfl | exact id) (hgy : g = true → gy = true := by first | exact fun _ => rfl | exact id)
    (hj : g = true → 0 ≤ j ∧ xs[j.toNat]? = some e)
    (h : Reg P r N D B all (i + 1) ops ((i, Ct.p gn [x, y] [(gx, .sv (.sl sz xs)), (gy, .v (.int k j))] (some d) (g, .sv (.at_ e)) []) :: tr) (st ((d, (g, .sv (.at_ e))) :: E) L n) K) :
    Reg P r N D B all i (⟨some d, .indexAddr T x y, ty, pos, aft, gd⟩ :: ops) tr (st E L n) K :=
  Reg.two rfl (fun h => by
    rw [entLV_true h hgx, entLV_true h hgy]
    refine OpC.of_pure2 (x := x) (y := y) rfl (by simp) fun md n0 cx H ρ w _ _ v1 v2 => ?_
    obtain ⟨h0, he⟩ := hj h
    have hlt := (List.getElem?_eq_some_iff.1 he).1
    simp only [V, VS] at v1
    rcases v1 with ⟨_, rfl⟩ | ⟨b, off, cap, h1, _, _, h2, h3⟩
    · simp at he
    · obtain ⟨hlen, hc⟩ := h3.get he
      refine ⟨.pointer (some ⟨b, off + j.toNat * sz, none⟩), by simp [execOp, h1, v2.val, hF b off xs.length cap k j w h0 (by omega)], ?_⟩
      simp only [V, VS]
      refine ⟨b, _, rfl, ?_, hc⟩
      have : (j.toNat + 1) * sz ≤ xs.length * sz := Nat.mul_le_mul_right _ hlt
      rw [Nat.add_mul] at this
      omega) ho hg hx hy (by simp) h

/-- a cell that is not written any more -/
theorem R.load1 {T : Nat} (hF : OneF P T) {x : Operand} {gx : Bool} {cs : List SV} {c : SV}
    (ho : all[i]? = some ⟨some d, .load T x, ty, pos, aft, gd⟩ := by rfl) (hg : GuardOk (en E) all gd g gn := by first | exact gN | exact gS rfl rfl)
    (hx : lvOf (en E) x = some (gx, .sv (.at_ cs)) := by rfl) (hgx : g = true → gx = true := by first | exact fun _ => rfl | exact id) (hc : cs[0]? = some c := by rfl)
    (h : Reg P r N D B all (i + 1) ops ((i, Ct.p gn [x] [(gx, .sv (.at_ cs))] (some d) (g, .sv c) []) :: tr) (st ((d, (g, .sv c)) :: E) L n) K) :
    Reg P r N D B all i (⟨some d, .load T x, ty, pos, aft, gd⟩ :: ops) tr (st E L n) K :=
  Reg.one rfl (fun h => by
    rw [entLV_true h hgx]
    refine OpC.of_pure1 (x := x) rfl (by simp) fun md n0 cx H ρ w _ _ hvv => ?_
    have e := hvv
    simp only [V, VS] at e
    obtain ⟨b, off, he, hp, hcc⟩ := e
    obtain ⟨v, h1, _, h2⟩ := hcc.get hc
    refine ⟨v, ?_, by simp only [V]; exact h2⟩
    simp only [Nat.add_zero] at h1
    simp [execOp, he, Instr.loadAt, Instr.sureAddr, loadVar, hF.1 w, h1]) ho hg hx (by simp) h

theorem VSC.vals {pr : Nat → Nat} {w : World} {b : Nat} : ∀ {cs : List SV} {off : Nat}, VSC pr w b off cs →
    ∃ vs : List Value, vs.length = cs.length ∧ (∀ (j : Nat) (v : Value), vs[j]? = some v → w.cell? ⟨b, off + j, none⟩ = some v) ∧ ∀ (j : Nat) (c : SV) (v : Value), cs[j]? = some c → vs[j]? = some v → v.oneCell' = true ∧ VS pr w c v
  | [], off, _ => ⟨[], rfl, by simp, by simp⟩
  | c :: cs, off, h => by
    simp only [VSC] at h
    obtain ⟨⟨v, h1, ho, h2⟩, h3⟩ := h
    obtain ⟨vs, k1, k2, k3⟩ := VSC.vals h3
    refine ⟨v :: vs, by simp [k1], fun j u hj => ?_, fun j d u hd hu => ?_⟩
    · cases j with
      | zero => simp at hj; subst hj; simpa using h1
      | succ j => have := k2 j u (by simpa using hj); rwa [show off + 1 + j = off + (j + 1) from by omega] at this
    · cases j with
      | zero => simp at hd hu; subst hd; subst hu; exact ⟨ho, h2⟩
      | succ j => exact k3 j d u (by simpa using hd) (by simpa using hu)

theorem Vs.of_vs {cx : Cx} {w : World} : ∀ {cs : List SV} {vs : List Value}, vs.length = cs.length → (∀ (j : Nat) (c : SV) (v : Value), cs[j]? = some c → vs[j]? = some v → VS cx.pr w c v) → Vs cx w (cs.map LV.sv) vs
  | [], vs, hl, _ => by simp at hl; simp [Vs, hl]
  | c :: cs, [], hl, _ => by simp at hl
  | c :: cs, v :: vs, hl, h => by
    simp only [List.map_cons, Vs]
    exact ⟨v, vs, rfl, by simp only [V]; exact h 0 c v rfl rfl, Vs.of_vs (by simpa using hl) (fun j c v hc hv => h (j + 1) c v (by simpa using hc) (by simpa using hv))⟩

/-- several cells that are not written any more -/
theorem R.loadN {T sz : Nat} (hF : AggF P T sz) {x : Operand} {gx : Bool} {cs : List SV}
    (ho : all[i]? = some ⟨some d, .load T x, ty, pos, aft, gd⟩ := by rfl) (hg : GuardOk (en E) all gd g gn := by first | exact gN | exact gS rfl rfl)
    (hx : lvOf (en E) x = some (gx, .sv (.at_ cs)) := by rfl) (hgx : g = true → gx = true := by first | exact fun _ => rfl | exact id) (hc : cs.length = sz := by rfl)
    (h : Reg P r N D B all (i + 1) ops ((i, Ct.p gn [x] [(gx, .sv (.at_ cs))] (some d) (g, .agg (cs.map LV.sv)) []) :: tr) (st ((d, (g, .agg (cs.map LV.sv))) :: E) L n) K) :
    Reg P r N D B all i (⟨some d, .load T x, ty, pos, aft, gd⟩ :: ops) tr (st E L n) K :=
  Reg.one rfl (fun h => by
    rw [entLV_true h hgx]
    refine OpC.of_pure1 (x := x) rfl (by simp) fun md n0 cx H ρ w _ _ hvv => ?_
    have e := hvv
    simp only [V, VS] at e
    obtain ⟨b, off, he, hp, hcc⟩ := e
    obtain ⟨vs, k1, k2, k3⟩ := hcc.vals
    refine ⟨.agg vs.toArray, ?_, by simp only [V]; exact ⟨vs, rfl, Vs.of_vs k1 (fun j c v h1 h2 => (k3 j c v h1 h2).2)⟩⟩
    have hl : (loadCells ⟨b, off, none⟩ vs.length).run P w = .ok vs.toArray w := run_loadCells_list (P := P) w ⟨b, off, none⟩ vs (fun j v hv => by
      have hadd : (⟨b, off, none⟩ : Addr).add j = ⟨b, off + j, none⟩ := by unfold Addr.add; split <;> simp_all
      rw [hadd]; exact k2 j v hv)
    rw [k1, hc] at hl
    simp [execOp, he, Instr.loadAt, Instr.sureAddr, loadVar, hF.1 w, hF.2 w, hl]) ho hg hx (by simp) h

/-- a part of an aggregate -/
theorem R.fieldV {T f fo : Nat} {x : Operand} {gx : Bool} {cs : List LV} {c : LV} (hF : ∀ (vs : Array Value) (v : Value) (w : World), vs[fo]? = some v → (Instr.field T (.agg vs) f).run P w = .ok v w)
    (ho : all[i]? = some ⟨some d, .field T x f, ty, pos, aft, gd⟩ := by rfl) (hg : GuardOk (en E) all gd g gn := by first | exact gN | exact gS rfl rfl)
    (hx : lvOf (en E) x = some (gx, .agg cs) := by rfl) (hgx : g = true → gx = true := by first | exact fun _ => rfl | exact id) (hc : cs[fo]? = some c := by rfl)
    (h : Reg P r N D B all (i + 1) ops ((i, Ct.p gn [x] [(gx, .agg cs)] (some d) (g, c) []) :: tr) (st ((d, (g, c)) :: E) L n) K) :
    Reg P r N D B all i (⟨some d, .field T x f, ty, pos, aft, gd⟩ :: ops) tr (st E L n) K :=
  Reg.one rfl (fun h => by
    rw [entLV_true h hgx]
    refine OpC.of_pure1 (x := x) rfl (by simp) fun md n0 cx H ρ w _ _ hvv => ?_
    have e := hvv
    simp only [V] at e
    obtain ⟨vs, he, h2⟩ := e
    obtain ⟨v, h3, h4⟩ := h2.get hc
    exact ⟨v, by simp [execOp, he, hF vs.toArray v w (by simpa using h3)], h4⟩) ho hg hx (by simp) h

/-! lengths, slices -/

def SliceT (P : Program) (T : Nat) : Prop := ∃ e, ∀ w, (underlying T).run P w = .ok (.slice e) w

theorem R.len {T : Nat} (hF : SliceT P T) {x : Operand} {gx : Bool} {sz : Nat} {xs : List (List SV)}
    (ho : all[i]? = some ⟨some d, .call { callee := .builtin .len, args := #[x], argTypes := #[T] }, ty, pos, aft, gd⟩ := by rfl) (hg : GuardOk (en E) all gd g gn := by first | exact gN | exact gS rfl rfl)
    (hx : lvOf (en E) x = some (gx, .sv (.sl sz xs)) := by rfl) (hgx : g = true → gx = true := by first | exact fun _ => rfl | exact id)
    (h : Reg P r N D B all (i + 1) ops ((i, Ct.p gn [x] [(gx, .sv (.sl sz xs))] (some d) (g, .i xs.length) []) :: tr) (st ((d, (g, .i xs.length)) :: E) L n) K) :
    Reg P r N D B all i (⟨some d, .call { callee := .builtin .len, args := #[x], argTypes := #[T] }, ty, pos, aft, gd⟩ :: ops) tr (st E L n) K :=
  Reg.one rfl (fun h => by
    rw [entLV_true h hgx]
    refine OpC.of_pure1 (x := x) rfl (by simp) fun md n0 cx H ρ w _ _ hvv => ?_
    have e := hvv
    obtain ⟨el, hT⟩ := hF
    simp only [V, VS] at e
    refine ⟨.int .i64 xs.length, ?_, V.mkval⟩
    rcases e with ⟨e | ⟨a, cap, e, _⟩, rfl⟩ | ⟨b, off, cap, e, _⟩ <;>
      simp [execOp, resolve, invoke, builtin, Builtin.len_, e, hT w, goInt]) ho hg hx (by simp) h
theorem R.lenV {T : Nat} {a : Value} {m : Nat} (hF : ∀ w, (Builtin.len_ #[T] ty #[a]).run P w = .ok (.int .i64 m) w) {x : Operand} {gx : Bool}
    (ho : all[i]? = some ⟨some d, .call { callee := .builtin .len, args := #[x], argTypes := #[T] }, ty, pos, aft, gd⟩ := by rfl) (hg : GuardOk (en E) all gd g gn := by first | exact gN | exact gS rfl rfl)
    (hx : lvOf (en E) x = some (gx, .v a) := by rfl) (hgx : g = true → gx = true := by first | exact fun _ => rfl | exact id)
    (h : Reg P r N D B all (i + 1) ops ((i, Ct.p gn [x] [(gx, .v a)] (some d) (g, .i m) []) :: tr) (st ((d, (g, .i m)) :: E) L n) K) :
    Reg P r N D B all i (⟨some d, .call { callee := .builtin .len, args := #[x], argTypes := #[T] }, ty, pos, aft, gd⟩ :: ops) tr (st E L n) K :=
  Reg.one rfl (fun h => by
    rw [entLV_true h hgx]
    refine OpC.of_pure1 (x := x) rfl (by simp) fun md n0 cx H ρ w _ _ hvv => ?_
    refine ⟨.int .i64 m, ?_, V.mkval⟩
    simp [execOp, resolve, invoke, builtin, hvv.val, hF w]) ho hg hx (by simp) h
theorem run_lenS {T ty : Nat} {s : ByteArray} (hT : ∀ w, (underlying T).run P w = .ok .string w) : ∀ w, (Builtin.len_ #[T] ty #[.string s]).run P w = .ok (.int .i64 s.size) w := by
  intro w; simp [Builtin.len_, hT w, goInt]
theorem run_lenNil {T ty : Nat} (hT : SliceT P T) : ∀ w, (Builtin.len_ #[T] ty #[.slice none 0 0]).run P w = .ok (.int .i64 (0 : Nat)) w := by
  intro w; obtain ⟨e, h⟩ := hT; simp [Builtin.len_, h w, goInt]

theorem VSR.drop {pr : Nat → Nat} {w : World} {b sz : Nat} : ∀ (k : Nat) {xs : List (List SV)} {off : Nat}, VSR pr w b off sz xs → VSR pr w b (off + k * sz) sz (xs.drop k)
  | 0, xs, off, h => by simpa using h
  | k + 1, [], off, h => by simp [VSR]
  | k + 1, c :: cs, off, h => by
    simp only [VSR] at h
    simp only [List.drop_succ_cons]
    have := VSR.drop k h.2.2
    rwa [show off + sz + k * sz = off + (k + 1) * sz from by rw [Nat.add_mul]; omega] at this
theorem VSR.take {pr : Nat → Nat} {w : World} {b sz : Nat} : ∀ (k : Nat) {xs : List (List SV)} {off : Nat}, VSR pr w b off sz xs → VSR pr w b off sz (xs.take k)
  | 0, xs, off, h => by simp [VSR]
  | k + 1, [], off, h => by simp [VSR]
  | k + 1, c :: cs, off, h => by
    simp only [VSR] at h
    simp only [List.take_succ_cons, VSR]
    exact ⟨h.1, h.2.1, VSR.take k h.2.2⟩

/-- what slicing x from lo on, up to hi, comes to -/
def SliceF (P : Program) (T sz : Nat) : Prop := ∃ e, (∀ w, (underlying T).run P w = .ok (.slice e) w) ∧ ∀ w, (sizeOf e).run P w = .ok sz w

theorem run_sliceSl {T sz : Nat} (hF : SliceF P T sz) {pr : Nat → Nat} {w : World} {xs : List (List SV)} {x : Value} (hx : VS pr w (.sl sz xs) x) (lo hi : Option Value) (a b : Nat)
    (hlo : (lo = none ∧ a = 0) ∨ ∃ k, lo = some (.int k a)) (hhi : (hi = none ∧ b = xs.length) ∨ ∃ k, hi = some (.int k b)) (hab : a ≤ b) (hb : b ≤ xs.length) :
    ∃ v, (Instr.sliceAt T x lo hi none).run P w = .ok v w ∧ VS pr w (.sl sz ((xs.take b).drop a)) v := by
  obtain ⟨e, hT, hz⟩ := hF
  have hlen : ((xs.take b).drop a).length = b - a := by simp; omega
  have blo : ∀ (c : BoundsCode) w, (match lo with | some v => Instr.sliceBound v b c | none => pure 0 : Sem Nat).run P w = .ok a w := by
    intro c w
    rcases hlo with ⟨rfl, rfl⟩ | ⟨k, rfl⟩
    · rfl
    · simp [Instr.sliceBound, asIntOf]; omega
  simp only [VS] at hx
  rcases hx with ⟨rfl | ⟨ad, cap, rfl, hcm⟩, rfl⟩ | ⟨bl, off, cap, rfl, hle, hml, hpr, hr⟩
  · have hb0 : b = 0 := by simpa using hb
    subst hb0
    have ha0 : a = 0 := by omega
    subst ha0
    refine ⟨.slice none 0 0, ?_, by simp [VS, emptySl]⟩
    rcases hlo with ⟨rfl, _⟩ | ⟨k, rfl⟩ <;> rcases hhi with ⟨rfl, _⟩ | ⟨k', rfl⟩ <;>
      simp [Instr.sliceAt, Instr.slice, hT w, Instr.sliceBounds, Instr.sliceBound, asIntOf, hz w]
  · have hb0 : b = 0 := by simpa using hb
    subst hb0
    have ha0 : a = 0 := by omega
    subst ha0
    refine ⟨.slice (if cap = 0 then some ad else some (ad.add (0 * sz))) 0 cap, ?_, ?_⟩
    · rcases hlo with ⟨rfl, _⟩ | ⟨k, rfl⟩ <;> rcases hhi with ⟨rfl, _⟩ | ⟨k', rfl⟩ <;>
        simp [Instr.sliceAt, Instr.slice, hT w, Instr.sliceBounds, Instr.sliceBound, asIntOf, hz w]
    · simp only [VS]
      left
      refine ⟨.inr ?_, by simp⟩
      split
      · exact ⟨_, _, rfl, hcm⟩
      · exact ⟨_, _, rfl, hcm⟩
  · have hbc : b ≤ cap := by omega
    refine ⟨.slice (if cap = a then some ⟨bl, off, none⟩ else some ((⟨bl, off, none⟩ : Addr).add (a * sz))) (b - a) (cap - a), ?_, ?_⟩
    · rcases hlo with ⟨rfl, rfl⟩ | ⟨k, rfl⟩ <;> rcases hhi with ⟨rfl, rfl⟩ | ⟨k', rfl⟩ <;>
        simp [Instr.sliceAt, Instr.slice, hT w, Instr.sliceBounds, Instr.sliceBound, asIntOf, hz w, hbc, hab]
    · simp only [VS]
      by_cases he : (xs.take b).drop a = []
      · rw [he]
        have hba : b - a = 0 := by rw [← hlen, he]; rfl
        right
        by_cases hca : cap = a
        · rw [if_pos hca, hba]
          exact ⟨bl, off, cap - a, rfl, Nat.zero_le _, by omega, by simp; omega, by simp [VSR]⟩
        · rw [if_neg hca, hba]
          have hb1 : b ≤ xs.length := hb
          have : a * sz ≤ xs.length * sz := Nat.mul_le_mul_right _ (by omega)
          refine ⟨bl, off + a * sz, cap - a, ?_, Nat.zero_le _, by omega, by simp; omega, by simp [VSR]⟩
          simp [Addr.add]
      · right
        have hlt : a < b := by
          rcases Nat.lt_or_ge a b with h | h
          · exact h
          · exfalso; apply he; apply List.eq_nil_of_length_eq_zero; rw [hlen]; omega
        have hca : cap ≠ a := by omega
        rw [if_neg hca]
        have : (b - a) * sz + a * sz ≤ xs.length * sz := by rw [← Nat.add_mul]; exact Nat.mul_le_mul_right _ (by omega)
        refine ⟨bl, off + a * sz, cap - a, ?_, by rw [hlen]; omega, by omega, by rw [hlen]; omega, VSR.drop a (VSR.take b hr)⟩
        rw [hlen]
        have hadd : (⟨bl, off, none⟩ : Addr).add (a * sz) = ⟨bl, off + a * sz, none⟩ := by unfold Addr.add; split <;> simp_all
        rw [hadd]

theorem R.sliceLo {T sz : Nat} (hF : SliceF P T sz) {x y : Operand} {gx gy : Bool} {xs : List (List SV)} {k : IntKind} {a : Int}
    (ho : all[i]? = some ⟨some d, .slice T x (some y) none none, ty, pos, aft, gd⟩ := by rfl) (hg : GuardOk (en E) all gd g gn := by first | exact gN | exact gS rfl rfl)
    (hx : lvOf (en E) x = some (gx, .sv (.sl sz xs)) := by rfl) (hy : lvOf (en E) y = some (gy, .v (.int k a)) := by rfl)
    (hgx : g = true → gx = true := by first | exact fun _ => rfl | exact id) (hgy : g = true → gy = true := by first | exact fun _ => rfl | exact id)
    (ha : g = true → 0 ≤ a ∧ a ≤ xs.length)
    (h : Reg P r N D B all (i + 1) ops ((i, Ct.p gn [x, y] [(gx, .sv (.sl sz xs)), (gy, .v (.int k a))] (some d) (g, .sv (.sl sz (xs.drop a.toNat))) []) :: tr) (st ((d, (g, .sv (.sl sz (xs.drop a.toNat)))) :: E) L n) K) :
    Reg P r N D B all i (⟨some d, .slice T x (some y) none none, ty, pos, aft, gd⟩ :: ops) tr (st E L n) K :=
  Reg.two rfl (fun h => by
    rw [entLV_true h hgx, entLV_true h hgy]
    refine OpC.of_pure2 (x := x) (y := y) rfl (by simp) fun md n0 cx H ρ w _ _ v1 v2 => ?_
    obtain ⟨h0, h1⟩ := ha h
    obtain ⟨m, rfl⟩ := Int.eq_ofNat_of_zero_le h0
    simp only [V] at v1
    obtain ⟨v, hr, hv⟩ := run_sliceSl hF v1 (some (.int k m)) none m xs.length (.inr ⟨k, rfl⟩) (.inl ⟨rfl, rfl⟩) (by omega) (Nat.le_refl _)
    refine ⟨v, ?_, by simp only [V]; simpa using hv⟩
    simp [execOp, v2.val, hr]) ho hg hx hy (by simp) h
theorem R.sliceHi {T sz : Nat} (hF : SliceF P T sz) {x y : Operand} {gx gy : Bool} {xs : List (List SV)} {k : IntKind} {a : Int}
    (ho : all[i]? = some ⟨some d, .slice T x none (some y) none, ty, pos, aft, gd⟩ := by rfl) (hg : GuardOk (en E) all gd g gn := by first | exact gN | exact gS rfl rfl)
    (hx : lvOf (en E) x = some (gx, .sv (.sl sz xs)) := by rfl) (hy : lvOf (en E) y = some (gy, .v (.int k a)) := by rfl)
    (hgx : g = true → gx = true := by first | exact fun _ => rfl | exact id) (hgy : g = true → gy = true := by first | exact fun _ => rfl | exact id)
    (ha : g = true → 0 ≤ a ∧ a ≤ xs.length)
    (h : Reg P r N D B all (i + 1) ops ((i, Ct.p gn [x, y] [(gx, .sv (.sl sz xs)), (gy, .v (.int k a))] (some d) (g, .sv (.sl sz (xs.take a.toNat))) []) :: tr) (st ((d, (g, .sv (.sl sz (xs.take a.toNat)))) :: E) L n) K) :
    Reg P r N D B all i (⟨some d, .slice T x none (some y) none, ty, pos, aft, gd⟩ :: ops) tr (st E L n) K :=
  Reg.two rfl (fun h => by
    rw [entLV_true h hgx, entLV_true h hgy]
    refine OpC.of_pure2 (x := x) (y := y) rfl (by simp) fun md n0 cx H ρ w _ _ v1 v2 => ?_
    obtain ⟨h0, h1⟩ := ha h
    obtain ⟨m, rfl⟩ := Int.eq_ofNat_of_zero_le h0
    simp only [V] at v1
    obtain ⟨v, hr, hv⟩ := run_sliceSl hF v1 none (some (.int k m)) 0 m (.inl ⟨rfl, rfl⟩) (.inr ⟨k, rfl⟩) (by omega) (by omega)
    refine ⟨v, ?_, by simp only [V]; simpa using hv⟩
    simp [execOp, v2.val, hr]) ho hg hx hy (by simp) h
theorem R.sliceLoHi {T sz : Nat} (hF : SliceF P T sz) {x y z : Operand} {gx gy gz : Bool} {xs : List (List SV)} {k k' : IntKind} {a b : Int}
    (ho : all[i]? = some ⟨some d, .slice T x (some y) (some z) none, ty, pos, aft, gd⟩ := by rfl) (hg : GuardOk (en E) all gd g gn := by first | exact gN | exact gS rfl rfl)
    (hx : lvOf (en E) x = some (gx, .sv (.sl sz xs)) := by rfl) (hy : lvOf (en E) y = some (gy, .v (.int k a)) := by rfl) (hz : lvOf (en E) z = some (gz, .v (.int k' b)) := by rfl)
    (hgx : g = true → gx = true := by first | exact fun _ => rfl | exact id) (hgy : g = true → gy = true := by first | exact fun _ => rfl | exact id) (hgz : g = true → gz = true := by first | exact fun _ => rfl | exact id)
    (ha : g = true → 0 ≤ a ∧ a ≤ b ∧ b ≤ xs.length)
    (h : Reg P r N D B all (i + 1) ops ((i, Ct.p gn [x, y, z] [(gx, .sv (.sl sz xs)), (gy, .v (.int k a)), (gz, .v (.int k' b))] (some d) (g, .sv (.sl sz ((xs.take b.toNat).drop a.toNat))) []) :: tr) (st ((d, (g, .sv (.sl sz ((xs.take b.toNat).drop a.toNat)))) :: E) L n) K) :
    Reg P r N D B all i (⟨some d, .slice T x (some y) (some z) none, ty, pos, aft, gd⟩ :: ops) tr (st E L n) K :=
  Reg.three rfl (fun h => by
    rw [entLV_true h hgx, entLV_true h hgy, entLV_true h hgz]
    refine OpC.of_pure3 (x := x) (y := y) (z := z) rfl (by simp) fun md n0 cx H ρ w _ _ v1 v2 v3 => ?_
    obtain ⟨h0, h1, h2⟩ := ha h
    obtain ⟨m, rfl⟩ := Int.eq_ofNat_of_zero_le h0
    obtain ⟨m', rfl⟩ := Int.eq_ofNat_of_zero_le (show 0 ≤ b by omega)
    simp only [V] at v1
    obtain ⟨v, hr, hv⟩ := run_sliceSl hF v1 (some (.int k m)) (some (.int k' m')) m m' (.inr ⟨k, rfl⟩) (.inr ⟨k', rfl⟩) (by omega) (by omega)
    refine ⟨v, ?_, by simp only [V]; simpa using hv⟩
    simp [execOp, v2.val, v3.val, hr]) ho hg hx hy hz (by simp) h
end

end Go.Proofs.Ytmiamhegohlglaa
