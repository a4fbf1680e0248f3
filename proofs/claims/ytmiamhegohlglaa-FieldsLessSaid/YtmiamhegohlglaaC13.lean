/- A range over a function: the caller's rule, the round, the iterator's contract; the marks at a function's end. -/
import Derived.Test.YtmiamhegohlglaaC12
set_option linter.unusedSimpArgs false
set_option linter.unusedVariables false
namespace Go.Proofs.Ytmiamhegohlglaa

section
variable {P : Program} {r : Option Nat} {N : Nat} {D : List Nat} {B : Base} {Ψ : Exit → Act → World → Prop} {todo : List Item} {S : St}
variable {E : List (Nat × Ent)} {L : List (Nat × LO)} {n : Nat}

theorem putObj_same (w : World) (b : Nat) (x : Obj) (h : b < w.heap.size) : (w.putObj b x).heap[b]? = some x := World.putObj_heap_same h

/-- the block of an object that is no row is laid anew -/
theorem Tr.put {md : Nat → Prop} {n0 : Nat} {H : Hp} {cx : Cx} {w : World} (h : HOk md n0 cx H w) {o : Nat} {x x' : LO} (ho : H o = some x) {b : Nat} (hb : bk (cx.loc o) = some b) (ob : Obj)
    (hx : Ext cx.pr w cx.pr (w.putObj b ob) → (w.putObj b ob).heap[b]? = some ob → ObjOk cx (w.putObj b ob) o x') (hbx : x.isBx = false := by rfl) (hbx' : x'.isBx = false := by rfl) :
    Tr cx w (hp [(o, x)]) cx (w.putObj b ob) (hp [(o, x')]) (· ∈ ([] : List Nat)) := by
  have hlt := (h.own o x b ho (.inl hb)).2.1
  exact Tr.set h ho hb ⟨rfl, rfl, rfl⟩ (by simp [World.putObj]) (fun k hk => World.putObj_heap_other hk) (fun hext => hx hext (putObj_same w b ob hlt)) hbx hbx'

/-- a mark at the function's end: the block of deferred calls is empty -/
theorem FnPost.mark {fn : Func} {m k od : Nat} {out : LV} {Hi Ho : List (Nat × LO)} (hod : hp L od = some (.raw (.deferred (some [])))) {e : Exit}
    (h : ∀ cx a w, Rel B N D (st E ((od, .raw (.deferred none)) :: L) n) cx a w → FnPost P fn B m out Hi Ho k e a w) :
    ∀ cx a w, Rel B N (od :: D) (st E L n) cx a w → FnPost P fn B m out Hi Ho k e a w := by
  intro cx a w hr
  obtain ⟨hA, b, hb, hg⟩ := hr.heap.ok od _ hod
  have t := Tr.put (x' := .raw (.deferred none)) hr.heap hod hb (.deferred none) (fun _ hh => ⟨b, hb, hh⟩)
  have hr' := Rel.step (c := ⟨[], none, (true, .v undef), [], [(od, .raw (.deferred (some [])))], [(od, .raw (.deferred none))], []⟩) hr
    ⟨by simp, by simp, fun o x hx => by
      simp only [hp, List.lookup_cons] at hx
      split at hx
      · rename_i hh; simp at hh; cases hx; subst hh; exact hod
      · simp at hx, by simp⟩ (by simp) t (by simp) (v := undef) ⟨fun _ => V.mkval, fun h => by cases h⟩
  have hS : Ct.app ⟨[], none, (true, .v undef), [], [(od, .raw (.deferred (some [])))], [(od, .raw (.deferred none))], []⟩ (st E L n) = st E ((od, .raw (.deferred none)) :: L) n := by
    simp only [Ct.app, putE_putL, putL, upd_set]
    congr 1
    funext q; simp
  rw [hS] at hr'
  have hr2 : Rel B N D (st E ((od, .raw (.deferred none)) :: L) n) cx { a with defers := D.map (mkd cx) } (w.putObj b (.deferred none)) :=
    ⟨hr'.grow, hr'.le, hr'.hA, hr'.heap, hr'.size, hr'.env, rfl, fun o ho => hr'.dA o (List.mem_cons_of_mem _ ho)⟩
  obtain ⟨h1, h2⟩ := h cx _ _ hr2
  refine ⟨h1, ?_⟩
  have hd : a.defers = { target := .collected b, args := #[] } :: D.map (mkd cx) := by
    rw [hr.df]; simp [mkd, hb]
  rw [hd]
  exact ⟨by simp, .inl ⟨b, _, rfl, run_takeDeferred hg, h2⟩⟩

theorem sg_id (M : Nat) : sg (List.range M) M = id := by
  funext o
  by_cases h : o < M
  · exact sg_range h
  · simp [sg, List.getD_eq_getElem?_getD, List.getElem?_eq_none (show (List.range M).length ≤ o by simp; omega)]
    omega
theorem LO.mapI_id : ∀ x : LO, x.mapI id = x
  | .box T cs => by simp [LO.mapI, mapIs_id]
  | .row T sz xs => by simp only [LO.mapI]; congr 1; exact (List.map_congr_left (fun a _ => mapIs_id a)).trans (List.map_id _)
  | .rs T sz ys => rfl
  | .bx T cs k Te sz ys => by simp [LO.mapI, mapIs_id]
  | .raw x => rfl
  | .loop fn N E ps a b st pd => by
    simp only [LO.mapI, mapE]
    congr 1
    exact (List.map_congr_left (fun p _ => by rw [Go.Proofs.Ytmiamhegohlglaa.mapI_id]; rfl)).trans (List.map_id _)

/-- a call by a contract that speaks of the caller's own names -/
theorem LC.useId {f M k : Nat} {lvs : List LV} {Hi Ho : List (Nat × LO)} {out : LV} (h : LC P f M lvs Hi out Ho k) {md : Nat → Prop} {n0 : Nat} {cx : Cx} {H : Hp} {w : World} {vs : List Value} (hok : HOk md n0 cx H w)
    (hA : ∀ o, cx.A o ↔ o < M) (hHi : ∀ p ∈ Hi, H p.1 = some p.2) (hv : Vs cx w lvs vs) :
    Calls P f vs.toArray w fun e w' => ∃ v cx', e = .returned v ∧ Tr cx w (hp Hi) cx' w' (hp Ho) (· ∈ List.range' M k) ∧ V cx' w' out v := by
  have h' : LC P f (List.range M).length lvs Hi out Ho k := by rw [List.length_range]; exact h
  have hid : ∀ l : List (Nat × LO), (l.map fun p => (sg (List.range M) M p.1, p.2.mapI (sg (List.range M) M))) = l := by
    intro l
    rw [sg_id]
    exact (List.map_congr_left (fun p _ => by rw [LO.mapI_id]; rfl)).trans (List.map_id _)
  have hvv : LV.mapIs (sg (List.range M) M) lvs = lvs := by rw [sg_id, mapIs_id]
  have := h'.use (n := M) List.nodup_range hok (fun o ho => (hA o).2 (by simpa using ho)) (fun p hp' => by rw [sg_id, LO.mapI_id]; exact hHi p hp') (fun i hi => by
    rw [hA]; simp only [List.mem_range'_1] at hi; omega) (by rw [hvv]; exact hv)
  rw [hid, hid, sg_id, mapI_id] at this
  exact this

end

/-- a call of 'yield' with vs, as the machine makes it: a round -/
def YC (P : Program) (vs : List Value) (w : World) (R : Ending → World → Prop) : Prop :=
  ∃ l args f tm assign body, vs = Value.func (.yield l) #[] #[] :: args ∧ (Instr.yield l args.toArray).run P w = .ok (.round l f tm assign body) w ∧
    ∀ r, RoundIn (FW r) 0 P l f tm assign body w R

theorem YC.mono {P : Program} (vs : List Value) (w : World) (R R' : Ending → World → Prop) (h : YC P vs w R) (hr : ∀ e w', R e w' → R' e w') : YC P vs w R' := by
  obtain ⟨l, args, f, tm, as, b, h1, h2, h3⟩ := h
  exact ⟨l, args, f, tm, as, b, h1, h2, fun r => (h3 r).mono hr⟩

/-- one call of the loop's body, by 'yield': from the objects L to L1; b: go on -/
def Yld (P : Program) (y : Nat) (lvs : List LV) (L : List (Nat × LO)) (b : Bool) (L1 : List (Nat × LO)) : Prop :=
  L1.map (·.1) = L.map (·.1) ∧ LCG (YC P) L.length (.yld y :: lvs) L (.b b) L1 0

/-- the calls of the loop's body with xs, one after the other, till it says no -/
inductive YRun (P : Program) (y : Nat) (C : List (Nat × LO) → Prop) : List (List LV) → List (Nat × LO) → List (Nat × LO) → Prop
  | nil {L : List (Nat × LO)} (h : C L) : YRun P y C [] L L
  | stop {x : List LV} {xs : List (List LV)} {L L1 : List (Nat × LO)} (h : C L) (hy : Yld P y x L false L1) (h1 : C L1) : YRun P y C (x :: xs) L L1
  | go {x : List LV} {xs : List (List LV)} {L L1 L2 : List (Nat × LO)} (h : C L) (hy : Yld P y x L true L1) (h1 : YRun P y C xs L1 L2) : YRun P y C (x :: xs) L L2

section
variable {P : Program} {N : Nat} {D : List Nat} {B : Base} {Ψ : Exit → Act → World → Prop} {todo : List Item} {S : St}
variable {E : List (Nat × Ent)} {L : List (Nat × LO)} {n : Nat}

/-- how a range over a function is left: at its end, or by the jump that a round has taken -/
def leftBy (P : Program) (N : Nat) (D : List Nat) (B : Base) (Ψ : Exit → Act → World → Prop) (todo : List Item) (S : St) : Option Code → Prop
  | none => LGo P none N D B Ψ todo S
  | some .ret => ∀ cx a w, Rel B N D S cx a w → Ψ .ret a w
  | some (.exit id) => ∃ k', exitTo id todo = some k' ∧ LGo P none N D B Ψ k' S
  | _ => False

theorem LGo.rangeFunc {f : Operand} {ps : Array Tmp} {assign body : Code} {gf : Nat} {cap : List LV} {L' : FuncId → List (Nat × LO)} {s' : LoopState} {pd : Option Code}
    (hf : lvOf (en E) f = some (true, .fn (.func gf) [] cap)) (hL : L.map (·.1) = List.range n) (hs' : s' ≠ .busy)
    (hit : ∀ fn, LC P gf (n + 2) (.yld (n + 1) :: cap) (L ++ [(n, .raw (.deferred (some []))), (n + 1, .loop fn N E ps assign body .ready none)]) (.tup []) (L' fn) 0)
    (hend : ∀ fn, hp (L' fn) (n + 1) = some (.loop fn N E ps assign body s' pd))
    (h : ∀ fn, leftBy P N (n :: D) B Ψ todo (st E ((n + 1, .loop fn N E ps assign body .exhausted pd) :: L' fn) (n + 2)) pd) :
    LGo P none N D B Ψ (.code (.rangeFunc f ps assign body) :: todo) (st E L n) := by
  refine ⟨fun cx a w hr b k cs hb => ?_⟩
  -- what follows the statement
  let Q : Exit → Act → World → Prop := fun e a' w' => ∃ fn cx', Rel B N (n :: D) (st E ((n + 1, .loop fn N E ps assign body .exhausted pd) :: L' fn) (n + 2)) cx' a' w' ∧
    (match pd with | none => e = .normal | some .ret => e = .ret | some (.exit id) => e = .exit id | _ => False)
  have key : (Code.rangeFunc f ps assign body).wpIn (FW none) 0 P Q a w := by
    refine wpIn_rangeFunc fun fn _ => ?_
    -- the two records
    have hfv := eval_of_lvOf hr hf rfl
    simp only [V, Vs] at hfv
    obtain ⟨us, vs, e1, rfl, e3⟩ := hfv
    have hnA : ¬ cx.A n := by rw [hr.hA]; show ¬ n < n; omega
    obtain ⟨c1, t1, hA1, hl1, hp1⟩ := Tr.new (w0 := w) hr.heap (ob := .deferred (some [])) (o := n) hnA (lv := .map (some w.heap.size)) (x := .raw (.deferred (some []))) ⟨rfl, rfl, rfl, rfl⟩ rfl
      (fun cx' h1 _ _ _ => ⟨w.heap.size, by rw [h1]; rfl, heap_alloc_new w _⟩)
    have r1 := Rel.step (c := ⟨[], none, (true, .v undef), [], [], [(n, .raw (.deferred (some [])))], [n]⟩) hr ⟨by simp, by simp, by simp, by simp⟩ (by simp) t1 (by simp) (v := undef) ⟨fun _ => V.mkval, fun h => by cases h⟩
    have hS1 : Ct.app ⟨[], none, (true, .v undef), [], [], [(n, .raw (.deferred (some [])))], [n]⟩ (st E L n) = st E ((n, .raw (.deferred (some []))) :: L) (n + 1) := by
      simp only [Ct.app, putE_putL, putL, upd_new]
      congr 1
      funext q; simp only [List.mem_singleton, eq_iff_iff]; omega
    rw [hS1] at r1
    have hnA1 : ¬ c1.A (n + 1) := by rw [r1.hA]; show ¬ n + 1 < n + 1; omega
    obtain ⟨c2, t2, hA2, hl2, hp2⟩ := Tr.new (w0 := w.alloc (.deferred (some []))) r1.heap (ob := .loop { state := .ready, pending := none, fn := fn, tmps := a.tmps, params := ps, assign := assign, body := body, defers := w.heap.size }) (o := n + 1) hnA1
      (lv := .map (some (w.alloc (.deferred (some []))).heap.size)) (x := .loop fn N E ps assign body .ready none) ⟨rfl, rfl, rfl, rfl⟩ rfl
      (fun cx' h1 h2 h3 h4 => ⟨_, a.tmps, w.heap.size, by rw [h1]; rfl, heap_alloc_new _ _, hr.size, fun t e he => by
        refine (r1.env t e he).mono h3 (fun bb off hbo => ?_)
        rw [h4]
        refine ⟨hbo, ?_⟩
        have := r1.heap.lim bb (by omega)
        simp only [World.cell?, heap_alloc_old _ _ this]⟩)
    have r2 := Rel.step (c := ⟨[], none, (true, .v undef), [], [], [(n + 1, .loop fn N E ps assign body .ready none)], [n + 1]⟩) r1 ⟨by simp, by simp, by simp, by simp⟩ (by simp) t2 (by simp) (v := undef) ⟨fun _ => V.mkval, fun h => by cases h⟩
    have hS2 : Ct.app ⟨[], none, (true, .v undef), [], [], [(n + 1, .loop fn N E ps assign body .ready none)], [n + 1]⟩ (st E ((n, .raw (.deferred (some []))) :: L) (n + 1)) = st E ((n + 1, .loop fn N E ps assign body .ready none) :: (n, .raw (.deferred (some []))) :: L) (n + 2) := by
      simp only [Ct.app, putE_putL, putL, upd_new]
      congr 1
      funext q; simp only [List.mem_singleton, eq_iff_iff]; omega
    rw [hS2] at r2
    have hsz2 : (w.alloc (.deferred (some []))).heap.size = w.heap.size + 1 := by simp
    generalize hw2 : (w.alloc (.deferred (some []))).alloc (.loop { state := .ready, pending := none, fn := fn, tmps := a.tmps, params := ps, assign := assign, body := body, defers := w.heap.size }) = w2 at r2 t2
    -- the iterator
    have hall := hit fn
    have hle2 : CxLe cx c2 := t1.le.trans t2.le
    have hkeyL : ∀ p ∈ L, p.1 < n := fun p hp' => by
      have : p.1 ∈ L.map (·.1) := List.mem_map.2 ⟨p, hp', rfl⟩
      rw [hL] at this; simpa using this
    have hLL : ∀ p ∈ L ++ [(n, LO.raw (.deferred (some []))), (n + 1, LO.loop fn N E ps assign body .ready none)], hp ((n + 1, .loop fn N E ps assign body .ready none) :: (n, .raw (.deferred (some []))) :: L) p.1 = some p.2 := by
      intro p hp'
      rcases List.mem_append.1 hp' with hp' | hp'
      · have hlt := hkeyL p hp'
        have e1 : (p.1 == n + 1) = false := by simp; omega
        have e2 : (p.1 == n) = false := by simp; omega
        simp only [hp, List.lookup_cons, e1, e2]
        exact lookup_of_nodup (by rw [hL]; exact List.nodup_range) hp'
      · simp only [List.mem_cons, List.not_mem_nil, or_false] at hp'
        rcases hp' with rfl | rfl
        · have e1 : (n == n + 1) = false := by simp
          simp [hp, List.lookup_cons, e1]
        · simp [hp, List.lookup_cons]
    have hext2 : Ext cx.pr w c2.pr w2 := t1.grow.ext.trans t2.grow.ext
    have hargs : Vs c2 w2 (.yld (n + 1) :: cap) ([Value.func (.yield (w.heap.size + 1)) #[] #[]] ++ vs) := by
      simp only [Vs, List.cons_append, List.nil_append]
      refine ⟨_, _, rfl, ?_, Vs.mono hle2 hext2 _ _ e3⟩
      simp only [V]
      exact ⟨hA2, w.heap.size + 1, by rw [hl2, hsz2]; rfl, rfl⟩
    have hcall := hall.useId r2.heap (fun o => by rw [r2.hA]) hLL hargs
    refine ⟨w.heap.size + 1, [{ target := .collected w.heap.size, args := #[] }], w2, { target := .fn (.func gf) vs.toArray, args := #[Value.func (.yield (w.heap.size + 1)) #[] #[]] }, w2, gf,
      ([Value.func (.yield (w.heap.size + 1)) #[] #[]] ++ vs).toArray, w2, ?_, ?_, fun _ _ => trivial, ?_, fun h => by simp [FW, Fence.wide] at h, ?_⟩
    · rw [← hw2]; exact run_enterLoop_outer fn a.tmps ps assign body
    · simp only [rangeCall, resolve, e1, Deferred.ofValue]
      simp [Act.eval]
    · have := hall.entr ([Value.func (.yield (w.heap.size + 1)) #[] #[]] ++ vs).toArray w2
      simp only [invoke]
      have he : (#[Value.func (.yield (w.heap.size + 1)) #[] #[]] : Array Value) ++ vs.toArray = ([Value.func (.yield (w.heap.size + 1)) #[] #[]] ++ vs).toArray := by apply Array.ext'; simp
      rw [he]; exact this
    · refine callsIn_FW (Calls.mono hcall ?_)
      rintro e w3 ⟨v, c3, rfl, t3, _⟩
      -- the record behind the call
      have r3 := Rel.step (c := ⟨[], none, (true, .v undef), [], L ++ [(n, .raw (.deferred (some []))), (n + 1, .loop fn N E ps assign body .ready none)], L' fn, []⟩) r2
        ⟨by simp, by simp, fun o x hx => hLL (o, x) (lookup_mem' hx), by simp⟩ (by simp) (by simpa using t3) (fun p hp' => by
          rcases hall.hos p hp' with h1 | h1
          · exact .inl h1
          · omega) (v := undef) ⟨fun _ => V.mkval, fun h => by cases h⟩
      have hS3 : Ct.app ⟨[], none, (true, .v undef), [], L ++ [(n, .raw (.deferred (some []))), (n + 1, .loop fn N E ps assign body .ready none)], L' fn, []⟩ (st E ((n + 1, .loop fn N E ps assign body .ready none) :: (n, .raw (.deferred (some []))) :: L) (n + 2)) = st E (L' fn) (n + 2) := by
        simp only [Ct.app, putE_putL, putL]
        congr 1
        · funext q
          simp only [Hp.upd]
          cases hq : hp (L' fn) q with
          | some x => rfl
          | none =>
            simp only []
            cases hq2 : hp (L ++ [(n, LO.raw (.deferred (some []))), (n + 1, LO.loop fn N E ps assign body .ready none)]) q with
            | some x => rfl
            | none =>
              simp only [hp, lookup_append'] at hq2
              cases hq3 : L.lookup q with
              | some x => rw [hq3] at hq2; cases hq2
              | none =>
                rw [hq3] at hq2
                simp only [List.lookup_cons, List.lookup_nil] at hq2
                cases h1 : (q == n) with
                | true => rw [h1] at hq2; cases hq2
                | false =>
                  rw [h1] at hq2
                  cases h2 : (q == n + 1) with
                  | true => rw [h2] at hq2; cases hq2
                  | false => simp [hp, List.lookup_cons, h1, h2, hq3]
        · funext q; simp
      rw [hS3] at r3
      obtain ⟨hA3, l3, T3, df3, hb3, hg3, hT3, hE3⟩ := r3.heap.ok (n + 1) _ (hend fn)
      have hl3 : l3 = w.heap.size + 1 := by
        have := (t3.le (n + 1) hA2).2
        rw [this, hl2, hsz2] at hb3
        simpa [bk] using hb3.symm
      have t4 := Tr.put (x' := .loop fn N E ps assign body .exhausted pd) r3.heap (hend fn) hb3 (.loop { state := .exhausted, pending := pd, fn := fn, tmps := T3, params := ps, assign := assign, body := body, defers := df3 })
        (fun hext hh => ⟨l3, T3, df3, hb3, hh, hT3, fun t e he => (hE3 t e he).mono (CxLe.refl _) hext⟩)
      have r4 := Rel.step (c := ⟨[], none, (true, .v undef), [], [(n + 1, .loop fn N E ps assign body s' pd)], [(n + 1, .loop fn N E ps assign body .exhausted pd)], []⟩) r3
        ⟨by simp, by simp, fun o x hx => by
          simp only [hp, List.lookup_cons] at hx
          split at hx
          · rename_i hh; simp at hh; cases hx; subst hh; exact hend fn
          · simp at hx, by simp⟩ (by simp) t4 (by simp) (v := undef) ⟨fun _ => V.mkval, fun h => by cases h⟩
      have hS4 : Ct.app ⟨[], none, (true, .v undef), [], [(n + 1, .loop fn N E ps assign body s' pd)], [(n + 1, .loop fn N E ps assign body .exhausted pd)], []⟩ (st E (L' fn) (n + 2)) = st E ((n + 1, .loop fn N E ps assign body .exhausted pd) :: L' fn) (n + 2) := by
        simp only [Ct.app, putE_putL, putL, upd_set]
        congr 1
        funext q; simp
      rw [hS4] at r4
      have hnb : bk (c3.loc n) = some w.heap.size := by
        rw [((t2.le.trans t3.le) n hA1).2, hl1]; rfl
      have r5 : Rel B N (n :: D) (st E ((n + 1, .loop fn N E ps assign body .exhausted pd) :: L' fn) (n + 2)) c3 { a with defers := [{ target := .collected w.heap.size, args := #[] }] ++ a.defers } (w3.putObj l3 (.loop { state := .exhausted, pending := pd, fn := fn, tmps := T3, params := ps, assign := assign, body := body, defers := df3 })) := by
        refine ⟨r4.grow, r4.le, r4.hA, r4.heap, r4.size, r4.env, ?_, fun o ho => ?_⟩
        · have hda : a.defers = D.map (mkd c3) := r4.df
          show [({ target := .collected w.heap.size, args := #[] } : Deferred)] ++ a.defers = _
          rw [hda]; simp [mkd, hnb]
        · rcases List.mem_cons.1 ho with rfl | ho
          · exact ((t2.le.trans t3.le) _ hA1).1
          · exact r4.dA o ho
      have hend' := run_endLoop (P := P) (w := w3) (l := l3) hg3 hs'
      rw [hl3] at hend'
      refine ⟨pd, _, hend', ?_⟩
      rw [← hl3]
      cases pd with
      | none => exact ⟨fn, c3, r5, rfl⟩
      | some c =>
        have hh := h fn
        cases c with
        | ret => exact wpIn_ret ⟨fn, c3, r5, rfl⟩
        | exit id => exact wpIn_exit ⟨fn, c3, r5, rfl⟩
        | _ => exact absurd hh (by simp [leftBy])
  obtain ⟨e, a', w', ⟨fn, cx', hr', he⟩, harr⟩ := key b (todo ++ k) cs hb trivial (by intro d hd; simp [FW, Fence.wide] at hd)
  have hh := h fn
  cases pd with
  | none =>
    simp only at he
    subst he
    obtain ⟨e2, a2, w2, hq2, harr2⟩ := LGo.go hh cx' a' w' hr' b k cs hb
    exact ⟨e2, a2, w2, hq2, .of_steps harr harr2⟩
  | some c =>
    cases c with
    | ret =>
      simp only at he
      subst he
      exact ⟨.ret, a', w', hh cx' a' w' hr', harr⟩
    | exit id =>
      simp only at he
      subst he
      obtain ⟨k', hk', hgo⟩ := hh
      obtain ⟨e2, a2, w2, hq2, harr2⟩ := LGo.go hgo cx' a' w' hr' b k cs hb
      exact ⟨e2, a2, w2, hq2, .of_steps (harr.1 _ (exitTo_append hk')) harr2⟩
    | _ => exact absurd hh (by simp [leftBy])

end

end Go.Proofs.Ytmiamhegohlglaa
