/- Calls, the ends of a function, states that say no more; stores of aggregates; append. -/
import Derived.Test.YtmiamhegohlglaaC6
import Derived.Deep.AppendSrc
set_option linter.unusedSimpArgs false
set_option linter.unusedVariables false
namespace Go.Proofs.Ytmiamhegohlglaa

section
variable {P : Program} {r : Option Nat} {N : Nat} {D : List Nat} {B : Base} {all : Array Oper} {K : List (Nat × Ct) → St → Prop}
variable {i : Nat} {ops : List Oper} {tr : List (Nat × Ct)} {E : List (Nat × Ent)} {L : List (Nat × LO)} {n : Nat} {g : Bool} {gn : List (Nat × Ent)}
variable {d ty : Nat} {pos : String} {aft : Array Edge} {gd : Option (Nat × Bool)}

/-! ### calls -/

/-- a function that is called with closed values and touches no object of its caller's -/
structure PC (P : Program) (f : FuncId) (lvs : List LV) (out : LV) : Prop where
  lc : LC P f 0 lvs [] out [] 0

mutual
theorem mapI_of_lt0 (σ : Nat → Nat) : ∀ l : LV, l.lt 0 = true → l.mapI σ = l
  | .sv s, _ => by simp [LV.mapI]
  | .agg cs, h => by simp only [LV.mapI]; rw [mapIs_of_lt0 σ cs (by simpa [LV.lt] using h)]
  | .tup cs, h => by simp only [LV.mapI]; rw [mapIs_of_lt0 σ cs (by simpa [LV.lt] using h)]
  | .ptr o off, h => by simp [LV.lt] at h
  | .ref o, h => by simp [LV.lt] at h
  | .fn f p q, h => by
    simp only [LV.lt, Bool.and_eq_true] at h
    simp only [LV.mapI]; rw [mapIs_of_lt0 σ p h.1, mapIs_of_lt0 σ q h.2]
  | .yld o, h => by simp [LV.lt] at h
theorem mapIs_of_lt0 (σ : Nat → Nat) : ∀ l : List LV, LV.lts 0 l = true → LV.mapIs σ l = l
  | [], _ => by simp [LV.mapIs]
  | c :: cs, h => by
    simp only [LV.lts, Bool.and_eq_true] at h
    simp only [LV.mapIs]; rw [mapI_of_lt0 σ c h.1, mapIs_of_lt0 σ cs h.2]
end

theorem Opnds.of_map {E : En} : ∀ {xs : List Operand} {es : List Ent}, xs.map (lvOf E) = es.map some → Opnds E xs es
  | [], [], _ => rfl
  | [], e :: es, h => by simp at h
  | x :: xs, [], h => by simp at h
  | x :: xs, e :: es, h => by
    simp only [List.map_cons, List.cons.injEq] at h
    exact ⟨e, es, rfl, h.1, Opnds.of_map h.2⟩

theorem run_call {f : FuncId} (hf : Entr P f) (first cap : List Value) (c : Go.Call) (fo : Operand) (hc : c.callee = .value fo) (ρ : Operand → Value) (hfo : ρ fo = .func (.func f) first.toArray cap.toArray) (ty : TypeId) (w : World) :
    (do let d ← resolve ρ c ty; invoke d.target d.args : Sem Next).run P w = .ok (.enter f (first ++ c.args.toList.map ρ ++ cap).toArray) w := by
  have := hf (first ++ c.args.toList.map ρ ++ cap).toArray w
  simp only [resolve, hc, hfo, Deferred.ofValue, Sem.run_bind, Sem.run_pure, Result.andThen_ok, invoke]
  have e : first.toArray ++ Array.map ρ c.args ++ cap.toArray = (first ++ c.args.toList.map ρ ++ cap).toArray := by
    apply Array.ext'; simp
  rw [e]; exact this

/-- a call by its contract: the callee's own names for objects stand for ids; what it makes is named from n on -/
theorem OpC.call {f : FuncId} {ids : List Nat} {lvs first cap : List LV} {Hi Ho : List (Nat × LO)} {out : LV} {k : Nat} (hc : LC P f ids.length lvs Hi out Ho k) (hnd : ids.Nodup)
    {o : Oper} {c : Go.Call} {fo : Operand} (ho : o.op = .call c) (hcl : c.callee = .value fo) {avs : List LV} (hargs : first ++ avs ++ cap = LV.mapIs (sg ids n) lvs) :
    OpC P r o (.fn (.func f) first cap :: avs) [] (Hi.map fun p => (sg ids n p.1, p.2.mapI (sg ids n))) (out.mapI (sg ids n)) (Ho.map fun p => (sg ids n p.1, p.2.mapI (sg ids n))) (List.range' n k) := by
  have hsg : ∀ q, q < ids.length → sg ids n q = ids.getD q 0 := by
    intro q hq; simp [sg, List.getD_eq_getElem?_getD, List.getElem?_eq_getElem hq]
  have hkeys : (Hi.map fun p => (sg ids n p.1, p.2.mapI (sg ids n))).map (·.1) = ids := by
    rw [List.map_map]
    have : ((fun (x : Nat × LO) => x.1) ∘ fun (p : Nat × LO) => (sg ids n p.1, p.2.mapI (sg ids n))) = (sg ids n) ∘ (fun (p : Nat × LO) => p.1) := rfl
    rw [this, ← List.map_map, hc.rng]
    apply List.ext_getElem
    · simp
    · intro q h1 h2
      simp only [List.getElem_map, List.getElem_range]
      rw [hsg q h2]; simp [List.getD_eq_getElem?_getD, h2]
  refine ⟨fun p hp' => ?_, fun md n0 cx H a w K Q hok hrd hHi hnew hv hK => ?_⟩
  · obtain ⟨q, hq, rfl⟩ := List.mem_map.1 hp'
    rcases hc.hos q hq with hh | hh
    · obtain ⟨q', hq', he⟩ := List.mem_map.1 hh
      left
      exact List.mem_map.2 ⟨_, List.mem_map.2 ⟨q', hq', rfl⟩, by simp [he]⟩
    · right
      have : sg ids n q.1 = n + (q.1 - ids.length) := by simp [sg, List.getD_eq_getElem?_getD, List.getElem?_eq_none hh.1]
      simp only [this, List.mem_range'_1]; omega
  · have hop : o.op.operands.toList = fo :: c.args.toList := by simp [ho, Op.operands, Go.Call.operands, hcl]
    rw [hop] at hv
    simp only [List.map_cons, Vs] at hv
    obtain ⟨vf, rest, he, hvf, hva⟩ := hv
    simp only [List.cons.injEq] at he
    obtain ⟨rfl, rfl⟩ := he
    simp only [V] at hvf
    obtain ⟨us, vs, e1, e2, e3⟩ := hvf
    have hall : Vs cx w (LV.mapIs (sg ids n) lvs) (us ++ c.args.toList.map a.eval ++ vs) := by
      rw [← hargs]; exact Vs.append (Vs.append e2 hva) e3
    have hrun := run_call (P := P) hc.entr us vs c fo hcl a.eval e1 o.type w
    refine ⟨fun _ _ => trivial, ?_⟩
    rw [Oper.semAt_eq _ _ _ (by rw [ho]; simp)]
    have : (execOp a.eval o).run P w = .ok (.enter f (us ++ c.args.toList.map a.eval ++ vs).toArray) w := by
      unfold execOp; rw [ho]; exact hrun
    rw [this, Oper.uponIn_enter]
    refine ⟨fun h => by simp [FW, Fence.wide] at h, callsIn_FW ?_⟩
    have hH : ∀ p ∈ Hi, H (sg ids n p.1) = some (p.2.mapI (sg ids n)) := fun p hp' =>
      hHi _ _ (lookup_of_nodup (by rw [hkeys]; exact hnd) (List.mem_map.2 ⟨p, hp', rfl⟩))
    have hA : ∀ q ∈ ids, cx.A q := by
      intro q hq
      rw [← hkeys] at hq
      obtain ⟨p, hp', rfl⟩ := List.mem_map.1 hq
      obtain ⟨p', hp'', rfl⟩ := List.mem_map.1 hp'
      exact (hok.ok _ _ (hH p' hp'')).1
    refine (hc.use hnd hok hA hH hnew hall).mono ?_
    rintro e w' ⟨v, cx', rfl, t, hvo⟩
    exact hK cx' w' v t hvo

/-- a call of a function that touches no object -/
theorem R.callP {f : FuncId} {args : Array Operand} {ats : Array TypeId} {es : List Ent} {lvs : List LV} {out : LV} (hc : g = true → PC P f lvs out)
    (ho : all[i]? = some ⟨some d, .call { callee := .value (.func f), args := args, argTypes := ats }, ty, pos, aft, gd⟩ := by rfl) (hg : GuardOk (en E) all gd g gn := by first | exact gN | exact gS rfl rfl)
    (hx : args.toList.map (lvOf (en E)) = es.map some := by rfl) (hes : g = true → es.map entLV = lvs := by first | exact fun _ => rfl | (intro h; simp [entLV, h]))
    (h : Reg P r N D B all (i + 1) ops ((i, Ct.p gn (.func f :: args.toList) ((true, .fn (.func f) [] []) :: es) (some d) (g, out) []) :: tr) (st ((d, (g, out)) :: E) L n) K) :
    Reg P r N D B all i (⟨some d, .call { callee := .value (.func f), args := args, argTypes := ats }, ty, pos, aft, gd⟩ :: ops) tr (st E L n) K := by
  have hl : (Oper.mk (some d) (.call { callee := .value (.func f), args := args, argTypes := ats }) ty pos aft gd).op.operands.toList = .func f :: args.toList := by simp [Op.operands, Go.Call.operands]
  refine Reg.pure (es := (true, .fn (.func f) [] []) :: es) (rd := []) (out := out) ho hg ?_ (by simp) (fun hgt => ?_) ?_
  · rw [hl]; exact ⟨_, _, rfl, rfl, Opnds.of_map hx⟩
  · have h1 := (hc hgt).lc
    refine ⟨by simp, fun md n0 cx H a w K Q hok hrd hHi hnew hv hK => ?_⟩
    rw [hl] at hv
    simp only [List.map_cons, Vs] at hv
    obtain ⟨vf, rest, he, hvf, hva⟩ := hv
    simp only [List.cons.injEq] at he
    obtain ⟨rfl, rfl⟩ := he
    rw [hes hgt] at hva
    let c1 : Cx := ⟨cx.pr, fun o => o < 0, cx.loc, cx.inn⟩
    have hva1 : Vs c1 w lvs (args.toList.map a.eval) := Vs.unren (cx1 := c1) (cx2 := cx) (σ := id) (m := 0) rfl (fun o ho => absurd ho (Nat.not_lt_zero o)) _ _ h1.args (by rw [mapIs_of_lt0 _ _ h1.args]; exact hva)
    have hok1 : HOk (fun _ => True) 0 c1 (hp []) w := ⟨fun o x hx => by simp at hx, fun o x b hx => by simp at hx, fun o o' x x' b _ hx => by simp at hx, hok.lim⟩
    have hrun := run_call (P := P) h1.entr [] [] { callee := .value (.func f), args := args, argTypes := ats } (.func f) rfl a.eval rfl ty w
    refine ⟨fun _ _ => trivial, ?_⟩
    rw [Oper.semAt_eq _ _ _ (by simp)]
    have : (execOp a.eval ⟨some d, .call { callee := .value (.func f), args := args, argTypes := ats }, ty, pos, aft, gd⟩).run P w = .ok (.enter f (args.toList.map a.eval).toArray) w := by
      unfold execOp; simpa using hrun
    rw [this, Oper.uponIn_enter]
    refine ⟨fun h => by simp [FW, Fence.wide] at h, callsIn_FW ((h1.go c1 w _ (fun o => Iff.rfl) hok1 hva1).mono ?_)⟩
    rintro e w' ⟨v, c2, rfl, t, hvo⟩
    let c3 : Cx := ⟨c2.pr, cx.A, cx.loc, cx.inn⟩
    have hno : ∀ o, ¬ c2.A o := fun o ho => by
      rcases (t.A o).1 ho with h | h
      · exact Nat.not_lt_zero o h
      · omega
    refine hK c3 w' v ⟨fun o ho => ⟨ho, rfl⟩, fun o => by simp [c3], ⟨t.grow.os, t.grow.tape, t.grow.output, t.grow.size, fun b hb hn => t.grow.same b hb (fun ⟨o, x, hx, _⟩ => by simp at hx), fun b hb hn => t.grow.prs b hb (fun ⟨o, x, hx, _⟩ => by simp at hx), t.grow.ext⟩,
      ⟨fun o x hx => by simp at hx, fun o x b hx => by simp at hx, fun o o' x x' b _ hx => by simp at hx, t.heap.lim⟩, fun _ _ _ => rfl⟩ ?_
    exact V.mono (cx := c2) (cx' := c3) (fun o ho => absurd ho (hno o)) (Ext.refl _ _) _ _ hvo
  · rw [hl]; exact h

end

/-! ### the ends of a function, and states that say no more -/

section
variable {P : Program} {r : Option Nat} {N : Nat} {D : List Nat} {B : Base} {Ψ : Exit → Act → World → Prop} {todo : List Item} {S : St}
variable {E : List (Nat × Ent)} {L : List (Nat × LO)} {n : Nat}

theorem noHo {L : List (Nat × LO)} : ∀ (o : Nat) (x : LO), hp [] o = some x → hp L o = some x := by simp
theorem res1 {fn : Func} {t : Nat} {l : LV} (h : fn.results = #[.tmp t]) {m k : Nat} {Hi Ho : List (Nat × LO)} (hA : ∀ o, B.cx.A o ↔ o < m) (hmd : B.md = blks B.cx (hp Hi)) (hn : n = m + k)
    (hHo : ∀ o x, hp Ho o = some x → hp L o = some x) (ht : en E t = some (true, l)) {e : Exit} (he : e = .normal ∨ e = .ret) :
    ∀ cx a w, Rel B N [] (st E L n) cx a w → FnPost P fn B m l Hi Ho k e a w := by
  intro cx a w hr
  subst hn
  refine FnPost.of hA hmd hHo he hr (v := a.tmps.getD t undef) ?_ ((hr.env t _ ht).1 rfl)
  simp [results, h]
theorem res2 {fn : Func} {t u : Nat} {l k' : LV} (h : fn.results = #[.tmp t, .tmp u]) {m k : Nat} {Hi Ho : List (Nat × LO)} (hA : ∀ o, B.cx.A o ↔ o < m) (hmd : B.md = blks B.cx (hp Hi)) (hn : n = m + k)
    (hHo : ∀ o x, hp Ho o = some x → hp L o = some x) (ht : en E t = some (true, l)) (hu : en E u = some (true, k')) {e : Exit} (he : e = .normal ∨ e = .ret) :
    ∀ cx a w, Rel B N [] (st E L n) cx a w → FnPost P fn B m (.tup [l, k']) Hi Ho k e a w := by
  intro cx a w hr
  subst hn
  refine FnPost.of hA hmd hHo he hr (v := .tuple #[a.tmps.getD t undef, a.tmps.getD u undef]) ?_ ?_
  · simp [results, h]
  · simp only [V, Vs]
    exact ⟨[_, _], rfl, _, _, rfl, (hr.env t _ ht).1 rfl, _, _, rfl, (hr.env u _ hu).1 rfl, rfl⟩
theorem res3 {fn : Func} {t u v : Nat} {l k' j : LV} (h : fn.results = #[.tmp t, .tmp u, .tmp v]) {m k : Nat} {Hi Ho : List (Nat × LO)} (hA : ∀ o, B.cx.A o ↔ o < m) (hmd : B.md = blks B.cx (hp Hi)) (hn : n = m + k)
    (hHo : ∀ o x, hp Ho o = some x → hp L o = some x) (ht : en E t = some (true, l)) (hu : en E u = some (true, k')) (hv : en E v = some (true, j)) {e : Exit} (he : e = .normal ∨ e = .ret) :
    ∀ cx a w, Rel B N [] (st E L n) cx a w → FnPost P fn B m (.tup [l, k', j]) Hi Ho k e a w := by
  intro cx a w hr
  subst hn
  refine FnPost.of hA hmd hHo he hr (v := .tuple #[a.tmps.getD t undef, a.tmps.getD u undef, a.tmps.getD v undef]) ?_ ?_
  · simp [results, h]
  · simp only [V, Vs]
    exact ⟨[_, _, _], rfl, _, _, rfl, (hr.env t _ ht).1 rfl, _, _, rfl, (hr.env u _ hu).1 rfl, _, _, rfl, (hr.env v _ hv).1 rfl, rfl⟩

/-- fewer slots, fewer objects, other names (σ: from the new names to the old ones) -/
theorem LGo.conv' {E' : List (Nat × Ent)} {L' : List (Nat × LO)} {n' : Nat} (σ : Nat → Nat) (hE : ∀ p ∈ E', en E p.1 = some (p.2.1, p.2.2.mapI σ)) (hEl : ∀ p ∈ E', p.2.2.lt n' = true)
    (hL : ∀ p ∈ L', hp L (σ p.1) = some (p.2.mapI σ) ∧ p.2.lt n' = true ∧ p.1 < n') (hinj : ∀ p ∈ L', ∀ q ∈ L', σ p.1 = σ q.1 → p.1 = q.1) (hσ : ∀ o, o < n' → σ o < n) (hB : ∀ o, B.cx.A o → o < n' ∧ σ o = o) (hD : ∀ o ∈ D, o < n' ∧ σ o = o)
    (h : LGo P r N D B Ψ todo (st E' L' n')) : LGo P r N D B Ψ todo (st E L n) := by
  refine LGo.conv (fun cx a w hr => ?_) h
  let c2 : Cx := ⟨cx.pr, fun o => o < n', fun o => cx.loc (σ o), fun o => cx.inn (σ o)⟩
  have h1 : ∀ o, o < n' → c2.A o ∧ c2.loc o = cx.loc (σ o) := fun o ho => ⟨ho, rfl⟩
  have mem_of : ∀ {α : Type} (l : List (Nat × α)) (o : Nat) (x : α), l.lookup o = some x → (o, x) ∈ l := by
    intro α l o x hx
    induction l with
    | nil => simp at hx
    | cons p l ih =>
      obtain ⟨k', v'⟩ := p
      simp only [List.lookup_cons] at hx
      split at hx
      · rename_i hh; simp at hh; subst hh; cases hx; simp
      · exact List.mem_cons_of_mem _ (ih hx)
  refine ⟨c2, ⟨hr.grow, fun o ho => ?_, rfl, ⟨fun o x hx => ?_, fun o x b hx hb => ?_, fun o o' x x' b hne hx hx' hb hb' => ?_, hr.heap.lim⟩, hr.size, fun t e he => ?_, ?_, fun o ho => (hD o ho).1⟩⟩
  · obtain ⟨k1, k2⟩ := hB o ho
    refine ⟨k1, ?_⟩
    show cx.loc (σ o) = _
    rw [k2]; exact (hr.le o ho).2
  · have hm := mem_of _ _ _ hx
    obtain ⟨k1, k2, k3⟩ := hL _ hm
    exact ⟨k3, ObjOk.unren (cx1 := c2) (cx2 := cx) rfl h1 k3 k2 rfl (hr.heap.ok _ _ k1).2⟩
  · have hm := mem_of _ _ _ hx
    obtain ⟨k1, k2, k3⟩ := hL _ hm
    exact hr.heap.own _ _ b k1 (has_map rfl rfl hb)
  · have hm := mem_of _ _ _ hx
    have hm' := mem_of _ _ _ hx'
    have hne' : σ o ≠ σ o' := fun e => hne (hinj _ hm _ hm' e)
    exact hr.heap.inj _ _ _ _ b hne' (hL _ hm).1 (hL _ hm').1 (has_map rfl rfl hb) (has_map rfl rfl hb')
  · have hm := mem_of _ _ _ he
    have := hr.env t _ (hE _ hm)
    exact ⟨fun hg => V.unren (cx1 := c2) (cx2 := cx) rfl h1 _ _ (hEl _ hm) (this.1 hg), this.2⟩
  · rw [hr.df]
    exact List.map_congr_left (fun o ho => by simp only [mkd]; show _ = Deferred.mk (.collected ((bk (cx.loc (σ o))).getD 0)) _; rw [(hD o ho).2])

mutual
theorem mapI_id : ∀ l : LV, l.mapI id = l
  | .sv s => by simp [LV.mapI]
  | .agg cs => by simp only [LV.mapI]; rw [mapIs_id cs]
  | .tup cs => by simp only [LV.mapI]; rw [mapIs_id cs]
  | .ptr o off => by simp [LV.mapI]
  | .ref o => by simp [LV.mapI]
  | .fn f p q => by simp only [LV.mapI]; rw [mapIs_id p, mapIs_id q]
  | .yld o => by simp [LV.mapI]
theorem mapIs_id : ∀ l : List LV, LV.mapIs id l = l
  | [] => by simp [LV.mapIs]
  | c :: cs => by simp only [LV.mapIs]; rw [mapI_id c, mapIs_id cs]
end

def KeepE (E : En) : List (Nat × Ent) → Prop
  | [] => True
  | p :: l => E p.1 = some p.2 ∧ KeepE E l
def KeepL (H : Hp) : List (Nat × LO) → Prop
  | [] => True
  | p :: l => H p.1 = some p.2 ∧ KeepL H l
theorem KeepE.get {E : En} : ∀ {l : List (Nat × Ent)}, KeepE E l → ∀ {t : Nat} {e : Ent}, en l t = some e → E t = some e
  | [], _, t, e, h => by simp at h
  | (a, b) :: l, h, t, e, ht => by
    simp only [KeepE] at h
    simp only [en, List.lookup_cons] at ht
    split at ht
    · rename_i hh; simp at hh; cases ht; subst hh; exact h.1
    · exact KeepE.get h.2 ht
theorem KeepL.get {E : Hp} : ∀ {l : List (Nat × LO)}, KeepL E l → ∀ {t : Nat} {e : LO}, hp l t = some e → E t = some e
  | [], _, t, e, h => by simp at h
  | (a, b) :: l, h, t, e, ht => by
    simp only [KeepL] at h
    simp only [hp, List.lookup_cons] at ht
    split at ht
    · rename_i hh; simp at hh; cases ht; subst hh; exact h.1
    · exact KeepL.get h.2 ht

/-- fewer slots and objects -/
theorem LGo.keep (E' : List (Nat × Ent)) (L' : List (Nat × LO)) (hE : KeepE (en E) E') (hL : KeepL (hp L) L')
    (h : LGo P r N D B Ψ todo (st E' L' n)) : LGo P r N D B Ψ todo (st E L n) := by
  refine LGo.conv (fun cx a w hr => ?_) h
  refine ⟨cx, ⟨hr.grow, hr.le, hr.hA, ⟨fun o x hx => hr.heap.ok _ _ (hL.get hx), fun o x b hx hb => hr.heap.own _ _ b (hL.get hx) hb,
    fun o o' x x' b hne hx hx' hb => hr.heap.inj _ _ _ _ b hne (hL.get hx) (hL.get hx') hb, hr.heap.lim⟩, hr.size, fun t e he => hr.env t e (hE.get he), hr.df, hr.dA⟩⟩

/-- fewer objects, counted anew: none is left -/
theorem LGo.drop (m : Nat) (hB : ∀ o, B.cx.A o → o < m) (hm : m ≤ n) (E' : List (Nat × Ent)) (L' : List (Nat × LO)) (hE : KeepE (en E) E') (hL : KeepL (hp L) L') (hEl : ∀ p ∈ E', p.2.2.lt m = true) (hLl : ∀ p ∈ L', p.1 < m ∧ p.2.lt m = true)
    (hD : ∀ o ∈ D, o < m := by simp) (h : LGo P r N D B Ψ todo (st E' L' m)) : LGo P r N D B Ψ todo (st E L n) := by
  refine LGo.keep E' L' hE hL (LGo.conv (fun cx a w hr => ?_) h)
  let c2 : Cx := ⟨cx.pr, fun o => o < m, cx.loc, cx.inn⟩
  have h1 : ∀ o, o < m → c2.A o ∧ c2.loc o = cx.loc (id o) := fun o ho => ⟨ho, rfl⟩
  have mem_of : ∀ {α : Type} (l : List (Nat × α)) (o : Nat) (x : α), l.lookup o = some x → (o, x) ∈ l := by
    intro α l o x hx
    induction l with
    | nil => simp at hx
    | cons p l ih =>
      obtain ⟨k', v'⟩ := p
      simp only [List.lookup_cons] at hx
      split at hx
      · rename_i hh; simp at hh; subst hh; cases hx; simp
      · exact List.mem_cons_of_mem _ (ih hx)
  have idO : ∀ x : LO, x.mapI id = x := by
    intro x
    cases x with
    | box T cs => simp [LO.mapI, mapIs_id]
    | row T sz xs => simp only [LO.mapI]; congr 1; exact (List.map_congr_left (fun a _ => mapIs_id a)).trans (List.map_id _)
    | rs T sz ys => rfl
    | bx T cs k Te sz ys => simp [LO.mapI, mapIs_id]
    | raw x => rfl
    | loop fn N E ps a b st pd =>
      simp only [LO.mapI, mapE]
      congr 1
      exact (List.map_congr_left (fun p _ => by rw [mapI_id]; rfl)).trans (List.map_id _)
  refine ⟨c2, ⟨hr.grow, fun o ho => ⟨hB o ho, (hr.le o ho).2⟩, rfl, ⟨fun o x hx => ?_, fun o x b hx hb => hr.heap.own o x b hx hb, fun o o' x x' b hne hx hx' hb => hr.heap.inj o o' x x' b hne hx hx' hb, hr.heap.lim⟩, hr.size, fun t e he => ?_, hr.df, hD⟩⟩
  · obtain ⟨k1, k2⟩ := hLl _ (mem_of _ _ _ hx)
    exact ⟨k1, ObjOk.unren (cx1 := c2) (cx2 := cx) (σ := id) rfl h1 k1 k2 rfl (by rw [idO]; exact (hr.heap.ok _ _ hx).2)⟩
  · have := hr.env t _ he
    exact ⟨fun hg => V.unren (cx1 := c2) (cx2 := cx) (σ := id) rfl h1 _ _ (hEl _ (mem_of _ _ _ he)) (by rw [mapI_id]; exact this.1 hg), this.2⟩

/-- the next round, or a state told before -/
theorem LGo.next (m : Nat) (hB : ∀ o, B.cx.A o → o < m) (hm : m ≤ n) {E' : List (Nat × Ent)} {L' : List (Nat × LO)} (h : LGo P r N D B Ψ todo (st E' L' m)) (hE : KeepE (en E) E') (hL : KeepL (hp L) L')
    (hEl : (E'.all fun p => p.2.2.lt m) = true := by rfl) (hLl : (L'.all fun p => decide (p.1 < m) && p.2.lt m) = true := by rfl) (hD : ∀ o ∈ D, o < m := by simp) : LGo P r N D B Ψ todo (st E L n) :=
  LGo.drop m hB hm E' L' hE hL (fun p hp' => List.all_eq_true.1 hEl p hp') (fun p hp' => by have := List.all_eq_true.1 hLl p hp'; simpa using this) hD h

/-- a loop: states told by x of σ; a measure that each round lowers -/
theorem LGo.loopK {σ : Type} (Q : σ → Prop) (EE : σ → List (Nat × Ent)) (LL : σ → List (Nat × LO)) (nn : σ → Nat) (μ : σ → Nat) (x0 : σ) (h0 : Q x0)
    (round : ∀ x, Q x → (∀ y, Q y → μ y < μ x → LGo P r N D B Ψ todo (st (EE y) (LL y) (nn y))) → LGo P r N D B Ψ todo (st (EE x) (LL x) (nn x))) :
    LGo P r N D B Ψ todo (st (EE x0) (LL x0) (nn x0)) := by
  have key : ∀ m x, μ x = m → Q x → LGo P r N D B Ψ todo (st (EE x) (LL x) (nn x)) := by
    intro m
    induction m using Nat.strongRecOn with
    | _ m ih =>
      intro x hx hQ
      exact round x hQ (fun y hy hlt => ih (μ y) (hx ▸ hlt) y rfl hy)
  exact key _ x0 rfl h0

/-- a test of a proposition -/
theorem LGo.ifd {p : Prop} [Decidable p] {c : Operand} {x y : Code} (hc : lvOf (en E) c = some (true, .b (decide p)) := by rfl) (ht : p → LGo P r N D B Ψ (.code x :: todo) (st E L n))
    (hf : ¬ p → LGo P r N D B Ψ (.code y :: todo) (st E L n)) : LGo P r N D B Ψ (.code (.cond c x y) :: todo) (st E L n) :=
  LGo.cond hc (fun h => ht (of_decide_eq_true h)) (fun h => hf (of_decide_eq_false h))
theorem LGo.ifb {p : Bool} {c : Operand} {x y : Code} (hc : lvOf (en E) c = some (true, .b p) := by rfl) (ht : p = true → LGo P r N D B Ψ (.code x :: todo) (st E L n))
    (hf : p = false → LGo P r N D B Ψ (.code y :: todo) (st E L n)) : LGo P r N D B Ψ (.code (.cond c x y) :: todo) (st E L n) :=
  LGo.cond hc ht hf
end

end Go.Proofs.Ytmiamhegohlglaa
