/- Calls that look at slices of one's own; stores into them; equality of structs; calls with objects. -/
import Derived.Test.YtmiamhegohlglaaC18
set_option linter.unusedSimpArgs false
set_option linter.unusedVariables false
namespace Go.Proofs.Ytmiamhegohlglaa

mutual
def LV.plain : LV → Bool
  | .sv (.val _) => true
  | .agg cs => LV.plains cs
  | .tup cs => LV.plains cs
  | _ => false
def LV.plains : List LV → Bool
  | [] => true
  | c :: cs => c.plain && LV.plains cs
end
mutual
theorem V.plain {cx cx' : Cx} {w w' : World} : ∀ (l : LV) (x : Value), l.plain = true → V cx w l x → V cx' w' l x
  | .sv (.val v), x, _, h => by simpa only [V, VS] using h
  | .sv (.sl _ _), x, hp, _ => by simp [LV.plain] at hp
  | .sv (.at_ _), x, hp, _ => by simp [LV.plain] at hp
  | .agg cs, x, hp, h => by simp only [V] at h ⊢; obtain ⟨vs, h1, h2⟩ := h; exact ⟨vs, h1, Vs.plain cs vs (by simpa [LV.plain] using hp) h2⟩
  | .tup cs, x, hp, h => by simp only [V] at h ⊢; obtain ⟨vs, h1, h2⟩ := h; exact ⟨vs, h1, Vs.plain cs vs (by simpa [LV.plain] using hp) h2⟩
  | .ptr _ _, x, hp, _ => by simp [LV.plain] at hp
  | .ref _, x, hp, _ => by simp [LV.plain] at hp
  | .fn _ _ _, x, hp, _ => by simp [LV.plain] at hp
  | .yld _, x, hp, _ => by simp [LV.plain] at hp
theorem Vs.plain {cx cx' : Cx} {w w' : World} : ∀ (l : List LV) (x : List Value), LV.plains l = true → Vs cx w l x → Vs cx' w' l x
  | [], x, _, h => by simpa [Vs] using h
  | c :: cs, x, hp, h => by
    simp only [Vs] at h ⊢
    simp only [LV.plains, Bool.and_eq_true] at hp
    obtain ⟨y, r, h1, h2, h3⟩ := h
    exact ⟨y, r, h1, V.plain c y hp.1 h2, Vs.plain cs r hp.2 h3⟩
end

/-- a slice of one's own, seen as its elements -/
def seeL (rd : List (Nat × LO)) : LV → LV
  | .ref o => match rd.lookup o with
    | some (.rs _ sz ys) => .sv (.sl sz ys)
    | _ => .ref o
  | l => l

def cellsAt (w : World) (b : Nat) : Nat := match w.heap[b]? with
  | some (.cells cur _ _) => cur.size
  | _ => 0

open Classical in
/-- the cells of some objects' blocks are protected too -/
noncomputable def raise (cx : Cx) (w : World) (rd : List (Nat × LO)) (b : Nat) : Nat := if blks cx (hp rd) b then cellsAt w b else cx.pr b

theorem V.see {md : Nat → Prop} {n0 : Nat} {cx : Cx} {H : Hp} {w : World} {rd : List (Nat × LO)} (hok : HOk md n0 cx H w) (hrd : ∀ o x, hp rd o = some x → H o = some x) (hext : Ext cx.pr w (raise cx w rd) w) :
    ∀ (l : LV) (x : Value), V cx w l x → V ⟨raise cx w rd, cx.A, cx.loc, cx.inn⟩ w (seeL rd l) x := by
  intro l x h
  have hm : V ⟨raise cx w rd, cx.A, cx.loc, cx.inn⟩ w l x := V.mono (cx := cx) (cx' := ⟨raise cx w rd, cx.A, cx.loc, cx.inn⟩) (w := w) (w' := w) (fun o ho => ⟨ho, rfl⟩) hext l x h
  cases l with
  | ref o =>
    simp only [seeL]
    split
    · rename_i T sz ys hl
      have hH := hrd o _ hl
      obtain ⟨hAo, hob⟩ := hok.ok o _ hH
      obtain ⟨hsz, vs, hown, hvs, hones⟩ := hob.rs_row
      simp only [V] at h
      obtain ⟨_, rfl, _⟩ := h
      simp only [V]
      refine row_frozen hsz hown hvs hones rfl hext (fun b hb => ?_)
      have hbl : blks cx (hp rd) b := ⟨o, _, hl, .inl hb.symm⟩
      rw [raise, if_pos hbl]
      rcases hown.2 with ⟨e1, e2⟩ | ⟨gb, cap, cur, e1, _, e2, e3, e4, e5, e6⟩
      · rw [e1] at hb; cases hb
      · rw [e1] at hb
        simp only [bk, Option.some.injEq] at hb
        subst hb
        simp only [cellsAt, e2, e5]
        rw [List.length_map] at e3
        exact Nat.mul_le_mul_right _ e3
    · exact hm
  | _ => exact hm
theorem Vs.see {md : Nat → Prop} {n0 : Nat} {cx : Cx} {H : Hp} {w : World} {rd : List (Nat × LO)} (hok : HOk md n0 cx H w) (hrd : ∀ o x, hp rd o = some x → H o = some x) (hext : Ext cx.pr w (raise cx w rd) w) :
    ∀ (l : List LV) (x : List Value), Vs cx w l x → Vs ⟨raise cx w rd, cx.A, cx.loc, cx.inn⟩ w (l.map (seeL rd)) x
  | [], x, h => by simpa [Vs] using h
  | c :: cs, x, h => by
    simp only [Vs, List.map_cons] at h ⊢
    obtain ⟨y, r, h1, h2, h3⟩ := h
    exact ⟨y, r, h1, V.see hok hrd hext c y h2, Vs.see hok hrd hext cs r h3⟩

theorem Vs.vals {cx : Cx} {w : World} : ∀ (cs vs : List Value), Vs cx w (cs.map LV.v) vs → vs = cs
  | [], vs, h => by simpa [Vs] using h
  | c :: cs, vs, h => by
    simp only [List.map_cons, Vs] at h
    obtain ⟨y, rest, rfl, k1, k2⟩ := h
    rw [k1.val, Vs.vals cs rest k2]
theorem V.aggV {cx : Cx} {w : World} {cs : List Value} {l : List LV} {z : Value} (hl : l = cs.map LV.v) (h : V cx w (.agg l) z) : z = .agg cs.toArray := by
  subst hl
  simp only [V] at h
  obtain ⟨vs, rfl, h2⟩ := h
  rw [Vs.vals cs vs h2]

section
variable {P : Program} {r : Option Nat} {N : Nat} {D : List Nat} {B : Base} {all : Array Oper} {K : List (Nat × Ct) → St → Prop}
variable {i : Nat} {ops : List Oper} {tr : List (Nat × Ct)} {E : List (Nat × Ent)} {L : List (Nat × LO)} {n : Nat} {g : Bool} {gn : List (Nat × Ent)}
variable {d ty : Nat} {pos : String} {aft : Array Edge} {gd : Option (Nat × Bool)}

/-- a call of a function that touches no object, handed slices of one's own to look at -/
theorem R.callV {f : FuncId} {args : Array Operand} {ats : Array TypeId} {es : List Ent} {rd : List (Nat × LO)} {lvs : List LV} {out : LV} (hc : g = true → PC P f lvs out)
    (hrd : ∀ k x, hp rd k = some x → hp L k = some x) (hplain : out.plain = true := by rfl)
    (ho : all[i]? = some ⟨some d, .call { callee := .value (.func f), args := args, argTypes := ats }, ty, pos, aft, gd⟩ := by rfl) (hg : GuardOk (en E) all gd g gn := by first | exact gN | exact gS rfl rfl)
    (hx : args.toList.map (lvOf (en E)) = es.map some := by rfl) (hes : g = true → (es.map entLV).map (seeL rd) = lvs := by first | exact fun _ => rfl | (intro h; simp [entLV, seeL, h]))
    (h : Reg P r N D B all (i + 1) ops ((i, Ct.p gn (.func f :: args.toList) ((true, .fn (.func f) [] []) :: es) (some d) (g, out) rd) :: tr) (st ((d, (g, out)) :: E) L n) K) :
    Reg P r N D B all i (⟨some d, .call { callee := .value (.func f), args := args, argTypes := ats }, ty, pos, aft, gd⟩ :: ops) tr (st E L n) K := by
  have hl : (Oper.mk (some d) (.call { callee := .value (.func f), args := args, argTypes := ats }) ty pos aft gd).op.operands.toList = .func f :: args.toList := by simp [Op.operands, Go.Call.operands]
  refine Reg.pure (es := (true, .fn (.func f) [] []) :: es) (rd := rd) (out := out) ho hg ?_ hrd (fun hgt => ?_) ?_
  · rw [hl]; exact ⟨_, _, rfl, rfl, Opnds.of_map hx⟩
  · have h1 := (hc hgt).lc
    refine ⟨by simp, fun md n0 cx H a w K Q hok hrd hHi hnew hv hK => ?_⟩
    rw [hl] at hv
    simp only [List.map_cons, Vs] at hv
    obtain ⟨vf, rest, he, hvf, hva⟩ := hv
    simp only [List.cons.injEq] at he
    obtain ⟨rfl, rfl⟩ := he
    have hraise : ∀ b, blks cx (hp rd) b → cx.pr b = 0 ∧ b < w.heap.size := fun b ⟨o, x, hx, hb⟩ => by
      have := hok.own o x b (hrd o x hx) hb
      exact ⟨this.1, this.2.1⟩
    have hext : Ext cx.pr w (raise cx w rd) w := fun b off hbo => ⟨by
      unfold raise
      split
      · rename_i hh; have := (hraise b hh).1; omega
      · exact hbo, rfl⟩
    have hva0 := Vs.see hok hrd hext _ _ hva
    rw [hes hgt] at hva0
    let c1 : Cx := ⟨raise cx w rd, fun o => o < 0, cx.loc, cx.inn⟩
    have hva1 : Vs c1 w lvs (args.toList.map a.eval) := Vs.unren (cx1 := c1) (cx2 := ⟨raise cx w rd, cx.A, cx.loc, cx.inn⟩) (σ := id) (m := 0) rfl (fun o ho => absurd ho (Nat.not_lt_zero o)) _ _ h1.args (by rw [mapIs_of_lt0 _ _ h1.args]; exact hva0)
    have hlim1 : ∀ b, 0 < raise cx w rd b → b < w.heap.size := fun b hb => by
      unfold raise at hb
      split at hb
      · rename_i hh; exact (hraise b hh).2
      · exact hok.lim b hb
    have hok1 : HOk (fun _ => True) 0 c1 (hp []) w := ⟨fun o x hx => by simp at hx, fun o x b hx => by simp at hx, fun o o' x x' b _ hx => by simp at hx, hlim1⟩
    have hrun := run_call (P := P) h1.entr [] [] { callee := .value (.func f), args := args, argTypes := ats } (.func f) rfl a.eval rfl ty w
    refine ⟨fun _ _ => trivial, ?_⟩
    rw [Oper.semAt_eq _ _ _ (by simp)]
    have : (execOp a.eval ⟨some d, .call { callee := .value (.func f), args := args, argTypes := ats }, ty, pos, aft, gd⟩).run P w = .ok (.enter f (args.toList.map a.eval).toArray) w := by
      unfold execOp; simpa using hrun
    rw [this, Oper.uponIn_enter]
    refine ⟨fun h => by simp [FW, Fence.wide] at h, callsIn_FW ((h1.go c1 w _ (fun o => Iff.rfl) hok1 hva1).mono ?_)⟩
    rintro e w' ⟨v, c2, rfl, t, hvo⟩
    have hno : ∀ b, ¬ blks c1 (hp []) b := fun b ⟨o, x, hx, _⟩ => by simp at hx
    let pr3 : Nat → Nat := fun b => if b < w.heap.size then cx.pr b else c2.pr b
    let c3 : Cx := ⟨pr3, cx.A, cx.loc, cx.inn⟩
    have hp3 : ∀ b, b < w.heap.size → pr3 b = cx.pr b := fun b hb => by show (if b < w.heap.size then _ else _) = _; rw [if_pos hb]
    refine hK c3 w' v ⟨fun o ho => ⟨ho, rfl⟩, fun o => by simp [c3], ⟨t.grow.os, t.grow.tape, t.grow.output, t.grow.size, fun b hb hn => t.grow.same b hb (hno b), fun b hb hn => hp3 b hb, fun b off hbo => ?_⟩,
      ⟨fun o x hx => by simp at hx, fun o x b hx => by simp at hx, fun o o' x x' b _ hx => by simp at hx, fun b hb => ?_⟩, fun _ _ _ => rfl⟩ (V.plain _ _ hplain hvo)
    · have hbs := hok.lim b (by omega)
      refine ⟨by show off < pr3 b; rw [hp3 b hbs]; exact hbo, ?_⟩
      simp only [World.cell?, t.grow.same b hbs (hno b)]
    · rcases Nat.lt_or_ge b w.heap.size with hlt | hge
      · exact Nat.lt_of_lt_of_le hlt t.grow.size
      · have hb' : 0 < pr3 b := hb
        simp only [pr3] at hb'
        rw [if_neg (by omega)] at hb'
        exact t.heap.lim b hb'
  · rw [hl]; exact h

/-- equality of structs of plain fields -/
theorem R.binA {op : BinOp} {t yt : Nat} {x y : Operand} {gx gy : Bool} {as bs : List Value} {ls ms : List LV} {v : Value} (hv : ∀ w, (do eqGuard op t x y (.agg as.toArray) (.agg bs.toArray); binOp op t (.agg as.toArray) (.agg bs.toArray) : Sem Value).run P w = .ok v w)
    (ho : all[i]? = some ⟨some d, .binOp op t x y yt, ty, pos, aft, gd⟩ := by rfl) (hg : GuardOk (en E) all gd g gn := by first | exact gN | exact gS rfl rfl)
    (hx : lvOf (en E) x = some (gx, .agg ls) := by rfl) (hy : lvOf (en E) y = some (gy, .agg ms) := by rfl) (hl : ls = as.map LV.v := by rfl) (hm : ms = bs.map LV.v := by rfl)
    (hgx : g = true → gx = true := by first | exact fun _ => rfl | exact id) (hgy : g = true → gy = true := by first | exact fun _ => rfl | exact id)
    (h : Reg P r N D B all (i + 1) ops ((i, Ct.p gn [x, y] [(gx, .agg ls), (gy, .agg ms)] (some d) (g, .v v) []) :: tr) (st ((d, (g, .v v)) :: E) L n) K) :
    Reg P r N D B all i (⟨some d, .binOp op t x y yt, ty, pos, aft, gd⟩ :: ops) tr (st E L n) K :=
  Reg.two rfl (fun h => by
    rw [entLV_true h hgx, entLV_true h hgy]
    refine OpC.of_pure2 (x := x) (y := y) rfl (by simp) fun md n0 cx H ρ w _ _ v1 v2 => ?_
    have e1 := V.aggV hl v1
    have e2 := V.aggV hm v2
    refine ⟨v, ?_, V.mkval⟩
    have := hv w
    rw [← e1, ← e2] at this
    simp only [execOp]
    rw [Sem.run_bind, this]
    rfl) ho hg hx hy (by simp) h

end

end Go.Proofs.Ytmiamhegohlglaa
