/- One round of a range over a function, by a walk of the loop's body; a call of 'yield'; an iterator's contract. -/
import Derived.Test.YtmiamhegohlglaaC13
set_option linter.unusedSimpArgs false
set_option linter.unusedVariables false
namespace Go.Proofs.Ytmiamhegohlglaa

section
variable {P : Program} {N : Nat} {D : List Nat} {B : Base} {E : List (Nat × Ent)} {L : List (Nat × LO)} {n : Nat}

/-- the block of an object turns -/
theorem Rel.put {o b : Nat} {x x' : LO} {ob : Obj} {cx : Cx} {a : Act} {w : World} (hr : Rel B N D (st E L n) cx a w) (ho : hp L o = some x) (hb : bk (cx.loc o) = some b)
    (hx : Ext cx.pr w cx.pr (w.putObj b ob) → (w.putObj b ob).heap[b]? = some ob → ObjOk cx (w.putObj b ob) o x') (hbx : x.isBx = false := by rfl) (hbx' : x'.isBx = false := by rfl) :
    Rel B N D (st E ((o, x') :: L) n) cx a (w.putObj b ob) := by
  have t := Tr.put hr.heap ho hb ob hx hbx hbx'
  have h := Rel.step (c := ⟨[], none, (true, .v undef), [], [(o, x)], [(o, x')], []⟩) hr
    ⟨by simp, by simp, fun q y hq => by
      simp only [hp, List.lookup_cons] at hq
      split at hq
      · rename_i hh; simp at hh; cases hq; subst hh; exact ho
      · simp at hq, by simp⟩ (by simp) t (by simp) (v := undef) ⟨fun _ => V.mkval, fun h => by cases h⟩
  have hS : Ct.app ⟨[], none, (true, .v undef), [], [(o, x)], [(o, x')], []⟩ (st E L n) = st E ((o, x') :: L) n := by
    simp only [Ct.app, putE_putL, putL, upd_set]
    congr 1
    funext q; simp
  rw [hS] at h; exact h

/-- the slots at the start of a round -/
def psE (ps : List Tmp) (lvs : List LV) (E : List (Nat × Ent)) : List (Nat × Ent) := (ps.zip (lvs.map fun l => (true, l))).reverse ++ E

theorem psE_ok {cx : Cx} {w : World} : ∀ (ps : List Tmp) (lvs : List LV) (vs : List Value) (E : List (Nat × Ent)) (T : Array Value), (∀ p ∈ ps, p < T.size) → Vs cx w lvs vs →
    (∀ t e, E.lookup t = some e → EntOk cx w e (T.getD t undef)) →
    ∀ t e, (psE ps lvs E).lookup t = some e → EntOk cx w e (((ps.zip vs).foldl (fun T (p : Tmp × Value) => T.setIfInBounds p.1 p.2) T).getD t undef)
  | [], lvs, vs, E, T, hps, hv, hE, t, e, h => by simpa [psE] using hE t e (by simpa [psE] using h)
  | p :: ps, [], vs, E, T, hps, hv, hE, t, e, h => by
    simp only [Vs] at hv; subst hv
    simpa using hE t e (by simpa [psE] using h)
  | p :: ps, l :: lvs, vs, E, T, hps, hv, hE, t, e, h => by
    simp only [Vs] at hv
    obtain ⟨v, vs', rfl, hv1, hv2⟩ := hv
    have h' : (psE ps lvs ((p, (true, l)) :: E)).lookup t = some e := by
      have : psE (p :: ps) (l :: lvs) E = psE ps lvs ((p, (true, l)) :: E) := by simp [psE]
      rw [← this]; exact h
    simp only [List.zip_cons_cons, List.foldl_cons]
    refine psE_ok ps lvs vs' _ (T.setIfInBounds p v) (fun q hq => by simpa using hps q (List.mem_cons_of_mem _ hq)) hv2 (fun t' e' ht => ?_) t e h'
    simp only [List.lookup_cons] at ht
    split at ht
    · rename_i hh
      simp at hh; cases ht; subst hh
      have hlt := hps t' (by simp)
      refine ⟨fun _ => ?_, fun h => by cases h⟩
      simp [Array.getD_eq_getD_getElem?, hlt, hv1]
    · rename_i hh
      have hne : ¬ p = t' := fun h => by simp [h] at hh
      have := hE t' e' ht
      simpa [Array.getD_eq_getD_getElem?, Array.getElem?_setIfInBounds_ne hne] using this

/-- how a round may end -/
def RoundEnd (B : Base) (N : Nat) (L1 : List (Nat × LO)) (m y fn : Nat) (E : List (Nat × Ent)) (ps : Array Tmp) (assign body : Code) (b : Bool) : Exit → Act → World → Prop := fun e a w =>
  ∃ cx Le E2, Rel B N [] (st E2 Le m) cx a w ∧ hp Le y = some (.loop fn N E ps assign body .busy none) ∧ (∀ o x, hp L1 o = some x → o ≠ y → hp Le o = some x) ∧
    (match e with
     | .normal => b = true ∧ hp L1 y = some (.loop fn N E ps assign body .ready none)
     | .ret => b = false ∧ hp L1 y = some (.loop fn N E ps assign body .done (some .ret))
     | .exit id => b = false ∧ hp L1 y = some (.loop fn N E ps assign body .done (some (.exit id)))
     | _ => False)

def AssignEnd (B : Base) (N : Nat) (S : St) : Exit → Act → World → Prop := fun e a w => e = .normal ∧ ∃ cx, Rel B N [] S cx a w

theorem FW_inRound (r : Option Nat) (l : Nat) : (FW r).inRound l = FW (some l) := rfl

/-- one round: the assignment of yield's arguments, then the loop's body -/
theorem Yld.of_go {y fn : Nat} {lvs : List LV} {L1 : List (Nat × LO)} {b : Bool} {E1 : List (Nat × Ent)} {ps : Array Tmp} {assign body : Code}
    (hL : L.map (·.1) = List.range L.length) (hlt : ∀ p ∈ L, p.2.lt L.length = true) (hargs : LV.lts L.length lvs = true) (hy : hp L y = some (.loop fn N E ps assign body .ready none))
    (hps : ps.size = lvs.length) (hpN : ∀ p ∈ ps.toList, p < N) (hos : L1.map (·.1) = L.map (·.1))
    (hA : ∀ (l : Nat) (B : Base), (∀ o, B.cx.A o ↔ o < L.length) → B.md = blks B.cx (hp L) → LGo P (some l) N [] B (AssignEnd B N (st E1 L L.length)) [.code assign] (st (psE ps.toList lvs E) L L.length))
    (hB : ∀ (l : Nat) (B : Base), (∀ o, B.cx.A o ↔ o < L.length) → B.md = blks B.cx (hp L) →
      LGo P (some l) N [] B (RoundEnd B N L1 L.length y fn E ps assign body b) [.code body] (st E1 ((y, .loop fn N E ps assign body .busy none) :: L) L.length)) :
    Yld P y lvs L b L1 := by
  have hyL : y < L.length := by
    have : y ∈ L.map (·.1) := List.mem_map.2 ⟨_, lookup_mem' hy, rfl⟩
    rw [hL] at this; simpa using this
  refine ⟨hos, by simp [LV.lts, LV.lt, hargs, hyL], hL, hlt, fun p hp' => .inl (by rw [← hos]; exact List.mem_map.2 ⟨p, hp', rfl⟩), fun cx w vs hcA hh hv => ?_⟩
  simp only [Vs] at hv
  obtain ⟨fv, args, rfl, hfv, hva⟩ := hv
  simp only [V] at hfv
  obtain ⟨hAy, l, hbl, rfl⟩ := hfv
  obtain ⟨_, l', T, df, hbl', hg, hT, hE⟩ := hh.ok y _ hy
  have hll : l' = l := by rw [hbl] at hbl'; cases hbl'; rfl
  subst hll
  have hal : args.length = lvs.length := hva.length
  have hyd := run_yield (P := P) (args := args.toArray) hg (by simp [hps, hal])
  refine ⟨l', args, _, _, _, _, rfl, hyd, fun r => roundIn_of_wpIn trivial ?_⟩
  rw [FW_inRound]
  let B : Base := ⟨cx, w, blks cx (hp L)⟩
  have hfold : (ps.zip args.toArray).foldl (fun tmps (x : Tmp × Value) => tmps.setIfInBounds x.1 x.2) T = (ps.toList.zip args).foldl (fun T (p : Tmp × Value) => T.setIfInBounds p.1 p.2) T := by
    rw [← Array.foldl_toList, Array.toList_zip]
  have hsz : ∀ (q : List (Tmp × Value)) (T : Array Value), (q.foldl (fun T (p : Tmp × Value) => T.setIfInBounds p.1 p.2) T).size = T.size := by
    intro q
    induction q with
    | nil => intro T; rfl
    | cons p q ih => intro T; simp only [List.foldl_cons]; rw [ih]; simp
  have hrel : Rel B N [] (st (psE ps.toList lvs E) L L.length) cx { tmps := (ps.toList.zip args).foldl (fun T (p : Tmp × Value) => T.setIfInBounds p.1 p.2) T, defers := [] } w := by
    refine ⟨Grow.refl _ _ _, CxLe.refl _, funext fun o => propext (hcA o), ⟨hh.ok, fun o x b hx hb => ?_, hh.inj, hh.lim⟩, ?_, ?_, rfl, by simp⟩
    · obtain ⟨h1, h2, _⟩ := hh.own o x b hx hb
      exact ⟨h1, h2, .inr ⟨o, x, hx, hb⟩⟩
    · show Array.size _ = N
      rw [hsz]; exact hT
    · exact psE_ok ps.toList lvs args E T (fun p hp' => by rw [hT]; exact hpN p hp') hva hE
  intro fb k cs hro _ _
  obtain ⟨e, a1, w1, ⟨rfl, cx1, hr1⟩, harr⟩ := (hA l' B hcA rfl).go cx _ w hrel fb k cs hro
  have hfold' : ((ps.zip args.toArray).foldl (fun tmps x => match x with | (t, a) => tmps.setIfInBounds t a) T) = (ps.toList.zip args).foldl (fun T (p : Tmp × Value) => T.setIfInBounds p.1 p.2) T := hfold
  refine ⟨.normal, a1, w1, ?_, by rw [hfold']; exact harr⟩
  obtain ⟨_, l1, T1, df1, hb1, hg1, hT1, hE1⟩ := hr1.heap.ok y _ hy
  have hbl1 : bk (cx1.loc y) = some l' := by rw [(hr1.le y hAy).2]; exact hbl
  have hl1 : l1 = l' := by rw [hbl1] at hb1; cases hb1; rfl
  subst hl1
  refine ⟨_, run_beginRound hg1 rfl, ?_⟩
  have hr2 := hr1.put (x' := .loop fn N E ps assign body .busy none) hy hb1 (ob := .loop { state := .busy, pending := none, fn := fn, tmps := T1, params := ps, assign := assign, body := body, defers := df1 })
    (fun hext hh' => ⟨l1, T1, df1, hb1, hh', hT1, fun t e he => (hE1 t e he).mono (CxLe.refl _) hext⟩)
  intro fb2 k2 cs2 hro2 _ _
  obtain ⟨e2, a2, w2, ⟨cx2, Le, E2, hr3, hey, heL, hend⟩, harr2⟩ := (hB l1 B hcA rfl).go cx1 a1 _ hr2 fb2 k2 cs2 hro2
  refine ⟨e2, a2, w2, ?_, harr2⟩
  obtain ⟨_, l2, T2, df2, hb2, hg2, hT2, hE2⟩ := hr3.heap.ok y _ hey
  have hbl2 : bk (cx2.loc y) = some l1 := by rw [(hr3.le y hAy).2]; exact hbl
  have hl2 : l2 = l1 := by rw [hbl2] at hb2; cases hb2; rfl
  subst hl2
  -- the round's end, by the jump
  have fin : ∀ (jump : Option Code), b = jump.isNone → hp L1 y = some (.loop fn N E ps assign body (if jump.isNone then .ready else .done) jump) →
      ∃ v w4, (Instr.endRound l2 jump).run P w2 = .ok v w4 ∧ ∃ v' cx', Ending.returned v = .returned v' ∧ Tr cx w (hp L) cx' w4 (hp L1) (fun o => L.length ≤ o ∧ o < L.length + 0) ∧ V cx' w4 (.b b) v' := by
    intro jump hbj hyj
    have hr4 := hr3.put (x' := .loop fn N E ps assign body (if jump.isNone then .ready else .done) jump) hey hb2 (ob := .loop { state := if jump.isNone then .ready else .done, pending := jump, fn := fn, tmps := T2, params := ps, assign := assign, body := body, defers := df2 })
      (fun hext hh' => ⟨l2, T2, df2, hb2, hh', hT2, fun t e he => (hE2 t e he).mono (CxLe.refl _) hext⟩)
    have hsub : ∀ o x, hp L1 o = some x → hp ((y, .loop fn N E ps assign body (if jump.isNone then .ready else .done) jump) :: Le) o = some x := by
      intro o x hx
      simp only [hp, List.lookup_cons]
      by_cases hoy : o = y
      · subst hoy; simp only [beq_self_eq_true]; exact hyj.symm.trans hx
      · have : (o == y) = false := by simpa using hoy
        rw [this]; exact heL o x hx hoy
    refine ⟨_, _, run_endRound jump hg2, _, cx2, rfl, ⟨hr4.le, fun o => ?_, hr4.grow, ⟨fun o x hx => hr4.heap.ok o x (hsub o x hx), fun o x b hx hb => hr4.heap.own o x b (hsub o x hx) hb, fun o o' x x' b hne hx hx' hb => hr4.heap.inj o o' x x' b hne (hsub o x hx) (hsub o' x' hx') hb, hr4.heap.lim⟩, fun o ho hn => absurd hn (hp_range hL ((hcA o).1 ho))⟩, ?_⟩
    · rw [hr4.hA, hcA]
      show o < L.length ↔ _
      omega
    · subst hbj; exact V.mkval
  cases e2 with
  | normal => exact fin none hend.1 hend.2
  | ret => exact fin (some .ret) hend.1 hend.2
  | exit id => exact fin (some (.exit id)) hend.1 hend.2
  | goto t => exact hend.elim
  | panic c => exact hend.elim
  | outgrown => exact hend.elim

end

section
variable {P : Program} {r : Option Nat} {N : Nat} {D : List Nat} {B : Base} {all : Array Oper} {i : Nat} {ops : List Oper} {tr : List (Nat × Ct)} {E : List (Nat × Ent)} {L : List (Nat × LO)} {n : Nat} {K : List (Nat × Ct) → St → Prop}
variable {d ty : Nat} {pos : String} {aft : Array Edge}

theorem OpC.yld {y : Nat} {lvs : List LV} {Lc Lc1 : List (Nat × LO)} {b : Bool} (hc : Yld P y lvs Lc b Lc1) {o : Oper} {c : Go.Call} {fo : Operand} (ho : o.op = .call c) (hcl : c.callee = .value fo) :
    OpC P r o (.yld y :: lvs) [] Lc (.b b) Lc1 [] := by
  obtain ⟨hkeys, h⟩ := hc
  refine ⟨fun p hp' => .inl (by rw [← hkeys]; exact List.mem_map.2 ⟨p, hp', rfl⟩), fun md n0 cx H a w K Q hok hrd hHi hnew hv hK => ?_⟩
  have hop : o.op.operands.toList = fo :: c.args.toList := by simp [ho, Op.operands, Go.Call.operands, hcl]
  rw [hop] at hv
  have h' : LCG (YC P) (List.range Lc.length).length (.yld y :: lvs) Lc (.b b) Lc1 0 := by rw [List.length_range]; exact h
  have hσ : ∀ l : List (Nat × LO), (l.map fun p => (sg (List.range Lc.length) Lc.length p.1, p.2.mapI (sg (List.range Lc.length) Lc.length))) = l := by
    intro l
    rw [sg_id]
    exact (List.map_congr_left (fun p _ => by rw [LO.mapI_id]; rfl)).trans (List.map_id _)
  have hH : ∀ p ∈ Lc, H p.1 = some p.2 := fun p hp' => hHi _ _ (lookup_of_nodup (by rw [h.rng]; exact List.nodup_range) hp')
  have hu := h'.use (n := Lc.length) YC.mono List.nodup_range hok (fun o ho => by
      rw [← h.rng] at ho
      obtain ⟨p, hp', rfl⟩ := List.mem_map.1 ho
      exact (hok.ok _ _ (hH p hp')).1) (fun p hp' => by rw [sg_id, LO.mapI_id]; exact hH p hp') (fun i hi => by simp at hi) (by rw [sg_id, mapIs_id]; exact hv)
  rw [hσ, hσ, sg_id, mapI_id] at hu
  obtain ⟨l, args, f, tm, as, body, h1, h2, h3⟩ := hu
  simp only [List.map_cons, List.cons.injEq] at h1
  obtain ⟨e1, e2⟩ := h1
  have e3 : Array.map a.eval c.args = args.toArray := by apply Array.ext'; simp [e2]
  have hrun : (execOp a.eval o).run P w = .ok (.round l f tm as body) w := by
    unfold execOp
    simp only [ho, resolve, hcl, e1, Deferred.ofValue, Sem.run_bind, Sem.run_pure, Result.andThen_ok, invoke]
    simpa [e3] using h2
  refine ⟨fun _ _ => trivial, ?_⟩
  rw [Oper.semAt_eq _ _ _ (by rw [ho]; simp), hrun, Oper.uponIn_round]
  refine ⟨fun h => by simp [FW, Fence.wide] at h, (h3 r).mono ?_⟩
  rintro e w' ⟨v, cx', rfl, t, hvo⟩
  exact hK cx' w' v (by simpa using t) hvo

/-- a call of 'yield' -/
theorem R.callYld {y : Nat} {fo : Operand} {args : Array Operand} {ats : Array TypeId} {es : List Ent} {lvs : List LV} {Lc Lc1 : List (Nat × LO)} {b : Bool} (hc : Yld P y lvs Lc b Lc1)
    (ho : all[i]? = some ⟨some d, .call { callee := .value fo, args := args, argTypes := ats }, ty, pos, aft, none⟩ := by rfl)
    (hf : lvOf (en E) fo = some (true, .yld y) := by rfl)
    (hx : args.toList.map (lvOf (en E)) = es.map some := by rfl) (hes : es.map entLV = lvs := by rfl) (hL : ∀ k x, hp Lc k = some x → hp L k = some x)
    (h : Reg P r N D B all (i + 1) ops ((i, ⟨needOf (fo :: args.toList) ((true, .yld y) :: es), some d, (true, .b b), [], Lc, Lc1, []⟩) :: tr) (st ((d, (true, .b b)) :: E) (Lc1 ++ L) n) K) :
    Reg P r N D B all i (⟨some d, .call { callee := .value fo, args := args, argTypes := ats }, ty, pos, aft, none⟩ :: ops) tr (st E L n) K := by
  have hl : (Oper.mk (some d) (.call { callee := .value fo, args := args, argTypes := ats }) ty pos aft none).op.operands.toList = fo :: args.toList := by simp [Op.operands, Go.Call.operands]
  have hop : Opnds (en E) (fo :: args.toList) ((true, .yld y) :: es) := ⟨_, _, rfl, hf, Opnds.of_map hx⟩
  refine Reg.cons (c := ⟨needOf (fo :: args.toList) ((true, .yld y) :: es), some d, (true, .b b), [], Lc, Lc1, []⟩) (fun hN => ?_) ⟨fun p hp' => hop.need p hp', by simp, hL, by simp⟩ ?_
  · have := CtOk.of_op (r := r) (D := D) (B := B) (o := ⟨some d, .call { callee := .value fo, args := args, argTypes := ats }, ty, pos, aft, none⟩) (es := (true, .yld y) :: es) (E := en E) (out := .b b) ho hN.dst gN
      (fun _ => by have := OpC.yld (r := r) hc (o := ⟨some d, .call { callee := .value fo, args := args, argTypes := ats }, ty, pos, aft, none⟩) rfl rfl; rw [← hes] at this; exact this) (by rw [hl]; exact hop) (.inl rfl)
    rw [hl] at this
    simpa using this
  · have : (Ct.app ⟨needOf (fo :: args.toList) ((true, .yld y) :: es), some d, (true, .b b), [], Lc, Lc1, []⟩ (st E L n)) = st ((d, (true, .b b)) :: E) (Lc1 ++ L) n := by
      simp only [Ct.app, putE_putL, putL]
      congr 1
      · funext k
        simp only [Hp.upd, hp, lookup_append']
        cases hk : Lc1.lookup k with
        | some x => rfl
        | none =>
          simp only []
          cases hk2 : Lc.lookup k with
          | some x =>
            exfalso
            have h1 : k ∈ Lc1.map (·.1) := by rw [hc.1]; exact List.mem_map.2 ⟨_, lookup_mem' hk2, rfl⟩
            obtain ⟨p, hp', rfl⟩ := List.mem_map.1 h1
            have := lookup_of_nodup (l := Lc1) (by rw [hc.1, hc.2.rng]; exact List.nodup_range) (k := p.1) (v := p.2) hp'
            rw [this] at hk; cases hk
          | none => rfl
      · funext k; simp
    rw [this]; exact h

end

end Go.Proofs.Ytmiamhegohlglaa
