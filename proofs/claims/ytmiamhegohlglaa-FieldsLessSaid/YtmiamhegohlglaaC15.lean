/- A value of a struct type; a slice that is written no more, as it is made; a nil slice within a cell; a place where paths meet; bits of integers. -/
import Derived.Test.YtmiamhegohlglaaC14
set_option linter.unusedSimpArgs false
set_option linter.unusedVariables false
namespace Go.Proofs.Ytmiamhegohlglaa

section
variable {P : Program} {r : Option Nat} {N : Nat} {D : List Nat} {B : Base} {Ψ : Exit → Act → World → Prop} {todo : List Item} {S : St}

/-- a place where paths meet: what follows is shown once, for all states that the paths may leave -/
theorem LGo.split {x : Item} {α : Type} (S' : α → St) (J : α → Prop) (hr : ∀ a, J a → LGo P r N D B Ψ todo (S' a)) (h : (∀ a, J a → LGo P r N D B Ψ todo (S' a)) → LGo P r N D B Ψ (x :: todo) S) : LGo P r N D B Ψ (x :: todo) S := h hr
end

/-! ### a slice that is written no more -/

theorem row_frozen {cx : Cx} {pr' : Nat → Nat} {w : World} {v : Value} {T sz : Nat} {xs : List (List LV)} {ys : List (List SV)} {vs : List Value} (hsz : ∀ e ∈ xs, e.length = sz) (hown : w.ownsRow 0 T sz v xs.length vs)
    (hvs : Vs cx w xs.flatten vs) (hones : ∀ u ∈ vs, u.oneCell' = true) (hy : xs = ys.map (List.map LV.sv)) (hext : Ext cx.pr w pr' w) (hpr : ∀ b, some b = bk v → ys.length * sz ≤ pr' b) : VS pr' w (.sl sz ys) v := by
  have hyl : xs.length = ys.length := by rw [hy]; simp
  simp only [VS]
  rcases hown.2 with ⟨e1, e2⟩ | ⟨gb, cap, cur, e1, _, e2, e3, e4, e5, e6⟩
  · left
    refine ⟨.inl e1, ?_⟩
    apply List.eq_nil_of_length_eq_zero; omega
  · right
    have hbk : some gb = bk v := by rw [e1]; rfl
    refine ⟨gb, 0, cap, by rw [e1, hyl], by omega, e4, by have := hpr gb hbk; omega, ?_⟩
    have hvl : vs.length = ys.length * sz := by rw [hown.1, hyl]
    refine VSR.of_list e2 ys vs 0 (fun e he => ?_) hvl (fun j hj => ?_) hones (fun j c v hc hv => ?_)
    · have := hsz (e.map LV.sv) (by rw [hy]; exact List.mem_map.2 ⟨e, he, rfl⟩)
      simpa using this
    · rw [Nat.zero_add, ← e6, List.getElem?_take, if_pos (by rw [hyl, ← hvl]; exact hj)]
      simp
    · have hc' : xs.flatten[j]? = some (.sv c) := by
        rw [hy, ← List.map_flatten, List.getElem?_map, hc]
        rfl
      obtain ⟨v', hv', hV⟩ := hvs.get hc'
      rw [hv] at hv'; cases hv'
      simp only [V] at hV
      exact VS.mono hext c v hV

theorem Tr.frz {cx cx' : Cx} {w w' : World} {o T sz : Nat} {xs : List (List LV)} {ys : List (List SV)} {v : Value} (t : Tr cx w (hp []) cx' w' (hp [(o, .row T sz xs)]) (· ∈ [o])) (hv : V cx' w' (.ref o) v)
    (hy : xs = ys.map (List.map LV.sv)) : ∃ c2, Tr cx w (hp []) c2 w' (hp []) (· ∈ ([] : List Nat)) ∧ V c2 w' (.sv (.sl sz ys)) v := by
  have hb : hp [(o, LO.row T sz xs)] o = some (.row T sz xs) := by simp
  obtain ⟨hAo, hsz, vs, hown, hvs, hones⟩ := t.heap.ok o _ hb
  simp only [V] at hv
  obtain ⟨_, rfl, _⟩ := hv
  let pr' : Nat → Nat := fun b => if some b = bk (cx'.loc o) then ys.length * sz else cx'.pr b
  have hpr0 : ∀ b, some b = bk (cx'.loc o) → cx'.pr b = 0 ∧ b < w'.heap.size ∧ w.heap.size ≤ b := fun b hbb => by
    obtain ⟨h1, h2, h3⟩ := t.heap.own o _ b hb (.inl hbb.symm)
    refine ⟨h1, h2, ?_⟩
    rcases h3 with h3 | ⟨q, x, hq, _⟩
    · exact h3
    · simp at hq
  have hext : Ext cx'.pr w' pr' w' := fun b off hbo => by
    refine ⟨?_, rfl⟩
    show off < (if some b = bk (cx'.loc o) then _ else _)
    split
    · rename_i hh; have := (hpr0 b hh).1; omega
    · exact hbo
  refine ⟨⟨pr', cx.A, cx.loc, cx.inn⟩, ⟨fun q hq => ⟨hq, rfl⟩, fun q => by simp, ⟨t.grow.os, t.grow.tape, t.grow.output, t.grow.size, t.grow.same, fun b hbs hmd => ?_, t.grow.ext.trans hext⟩, ⟨fun q x hx => by simp at hx, fun q x b hx => by simp at hx, fun q q' x x' b _ hx => by simp at hx, fun b hbp => ?_⟩, fun _ _ _ => rfl⟩, ?_⟩
  · show (if some b = bk (cx'.loc o) then _ else cx'.pr b) = _
    split
    · rename_i hh; have := (hpr0 b hh).2.2; omega
    · exact t.grow.prs b hbs hmd
  · change 0 < (if some b = bk (cx'.loc o) then _ else cx'.pr b) at hbp
    split at hbp
    · rename_i hh; exact (hpr0 b hh).2.1
    · exact t.heap.lim b hbp
  · simp only [V]
    exact row_frozen hsz hown hvs hones hy hext (fun b hbb => by show _ ≤ (if some b = bk (cx'.loc o) then _ else _); rw [if_pos hbb]; exact Nat.le_refl _)

theorem OpC.frz {P : Program} {r : Option Nat} {o : Oper} {lvs : List LV} {T sz : Nat} {xs : List (List LV)} {ys : List (List SV)} (h : OpC P r o lvs [] [] (.ref 0) [(0, .row T sz xs)] [0]) (hl : LV.lts 0 lvs = true)
    (hy : xs = ys.map (List.map LV.sv)) : OpC P r o lvs [] [] (.sv (.sl sz ys)) [] [] := by
  refine ⟨by simp, fun md n0 cx H a w K Q hok hrd hHi hnew hv hK => ?_⟩
  let c1 : Cx := ⟨cx.pr, fun o => o < 0, cx.loc, cx.inn⟩
  have hva1 : Vs c1 w lvs (o.op.operands.toList.map a.eval) := Vs.unren (cx1 := c1) (cx2 := cx) (σ := id) (m := 0) rfl (fun o ho => absurd ho (Nat.not_lt_zero o)) _ _ hl (by rw [mapIs_of_lt0 _ _ hl]; exact hv)
  have hok1 : HOk (fun _ => True) 0 c1 (hp []) w := ⟨fun o x hx => by simp at hx, fun o x b hx => by simp at hx, fun o o' x x' b _ hx => by simp at hx, hok.lim⟩
  refine h.2 (fun _ => True) 0 c1 (hp []) a w K Q hok1 (by simp) (by simp) (fun i _ => Nat.not_lt_zero i) hva1 (fun cx' w' v t hv' => ?_)
  obtain ⟨c2, t2, hv2⟩ := t.frz hv' hy
  refine hK ⟨c2.pr, cx.A, cx.loc, cx.inn⟩ w' v ⟨fun q hq => ⟨hq, rfl⟩, fun q => by simp, t2.grow, ⟨fun q x hx => by simp at hx, fun q x b hx => by simp at hx, fun q q' x x' b _ hx => by simp at hx, t2.heap.lim⟩, fun _ _ _ => rfl⟩ ?_
  simp only [V] at hv2 ⊢
  exact hv2

section
variable {P : Program} {r : Option Nat} {N : Nat} {D : List Nat} {B : Base} {all : Array Oper} {K : List (Nat × Ct) → St → Prop}
variable {i : Nat} {ops : List Oper} {tr : List (Nat × Ct)} {E : List (Nat × Ent)} {L : List (Nat × LO)} {n : Nat} {g : Bool} {gn : List (Nat × Ent)}
variable {d ty : Nat} {pos : String} {aft : Array Edge} {gd : Option (Nat × Bool)}

/-- a slice out of its elements, never written again -/
theorem R.buildSliceF {t e sz : Nat} (hF : AppF P t e sz) {len : Nat} {parts : Array (Nat × Operand)} {xs : List Operand} {es : List Ent} {ls : List LV} {cs : List (List LV)} (ys : List (List SV))
    (ho : all[i]? = some ⟨some d, .buildSlice t len parts, ty, pos, aft, gd⟩ := by rfl) (hg : GuardOk (en E) all gd g gn := by first | exact gN | exact gS rfl rfl) (hp' : parts.toList = xs.zipIdx.map (fun p => (p.2, p.1)) := by rfl)
    (hx : xs.map (lvOf (en E)) = es.map some := by rfl) (hes : g = true → es.map entLV = ls := by first | exact fun _ => rfl | (intro h; simp [entLV, h]))
    (hcs : CellsOfs ls cs := by repeat (first | exact CellsOfs.nil | refine CellsOfs.cons (CellsOf.one rfl) ?_ | refine CellsOfs.cons (CellsOf.agg rfl) ?_)) (hsz : (cs.all fun c => c.length == sz) = true := by rfl) (hlen : cs.length = len := by rfl)
    (hl : LV.lts 0 ls = true := by rfl) (hy : cs = ys.map (List.map LV.sv) := by rfl)
    (hsm : len * sz ≤ 16777216 := by first | decide | omega) (hlm : len ≤ 16777216 := by first | decide | omega)
    (h : Reg P r N D B all (i + 1) ops ((i, Ct.p gn xs es (some d) (g, .sv (.sl sz ys)) []) :: tr) (st ((d, (g, .sv (.sl sz ys))) :: E) L n) K) :
    Reg P r N D B all i (⟨some d, .buildSlice t len parts, ty, pos, aft, gd⟩ :: ops) tr (st E L n) K := by
  have hop : (Oper.mk (some d) (.buildSlice t len parts) ty pos aft gd).op.operands.toList = xs := by
    show (parts.toList.map (·.2)).toArray.toList = xs
    rw [hp']
    simp only [List.map_map, List.toList_toArray]
    have : ((fun (x : Nat × Operand) => x.2) ∘ fun (p : Operand × Nat) => (p.2, p.1)) = Prod.fst := rfl
    rw [this]; simp
  refine Reg.pure (es := es) (rd := []) (out := .sv (.sl sz ys)) ho hg ?_ (by simp) (fun hgt => ?_) ?_
  · rw [hop]; exact Opnds.of_map hx
  · rw [hes hgt]
    exact OpC.frz (OpC.buildSlice hF (by rfl) (by simp) hp' hcs hsz hlen hsm hlm 0) hl hy
  · rw [hop]; exact h

/-! ### a value of a struct type, out of its fields -/

/-- all fields take one cell each -/
def BuildF (P : Program) (t : Nat) (zs : List Value) : Prop := (∀ w, (zeroValue t).run P w = .ok (.agg zs.toArray) w) ∧ (∀ z ∈ zs, z.oneCell' = true) ∧ ∃ fields, (∀ w, (underlying t).run P w = .ok (.struct fields) w) ∧
  ∀ w, (fields.mapM fun (f : Field) => (do pure (f.offset, ← sizeOf f.type) : Sem (Nat × Nat))).run P w = .ok ((List.range zs.length).map fun k => (k, 1)).toArray w

theorem fill_ones {m : Nat} : ∀ (ps : List (Nat × Value)) (C : Array Value), C.size = m → (∀ p ∈ ps, p.1 < m ∧ p.2.oneCell' = true) →
    Instr.fill (((List.range m).map fun k => (k, 1)).toArray[·]?) C ps = some (ps.foldl (fun (C : List Value) p => C.set p.1 p.2) C.toList).toArray
  | [], C, _, _ => by simp [Instr.fill]
  | (j, v) :: ps, C, hC, h => by
    obtain ⟨h1, h2⟩ := h (j, v) (by simp)
    have hc := cells_one h2
    have hj : j < m := h1
    have := fill_ones ps (C.setIfInBounds j v) (by simpa using hC) (fun p hp' => h p (List.mem_cons_of_mem _ hp'))
    simp only [Instr.fill]
    have e1 : ((List.range m).map fun k => (k, 1)).toArray[j]? = some (j, 1) := by simp [hj]
    rw [e1]
    simp only [hc]
    have e2 : ¬ (j + 1 > C.size) := by omega
    rw [if_neg (by simpa using e2)]
    have e3 : Array.foldl (fun (cs : Array Value) (x : Value × Nat) => cs.setIfInBounds (j + x.2) x.1) C (#[v].zipIdx) = C.setIfInBounds j v := by
      rw [← Array.foldl_toList, Array.toList_zipIdx]; rfl
    have := this.trans (show _ = some (List.foldl (fun (C : List Value) p => C.set p.1 p.2) C.toList ((j, v) :: ps)).toArray by simp)
    rw [← this, ← e3]

/-- the cells of a struct out of some of its fields -/
def bcells (zs : List Value) (is : List Nat) (lvs : List LV) : List LV := (is.zip lvs).foldl (fun (C : List LV) p => C.set p.1 p.2) (zs.map fun z => .v z)

theorem Vs.set' {cx : Cx} {w : World} : ∀ {cs : List LV} {vs : List Value} (k : Nat) {c : LV} {v : Value}, Vs cx w cs vs → V cx w c v → Vs cx w (cs.set k c) (vs.set k v)
  | [], vs, k, c, v, h, hv => by simp only [Vs] at h; subst h; simp [Vs]
  | c0 :: cs, vs, k, c, v, h, hv => by
    simp only [Vs] at h
    obtain ⟨y, rs, rfl, h1, h2⟩ := h
    cases k with
    | zero => simp only [List.set_cons_zero, Vs]; exact ⟨_, _, rfl, hv, h2⟩
    | succ k => simp only [List.set_cons_succ, Vs]; exact ⟨_, _, rfl, h1, Vs.set' k h2 hv⟩

theorem bcells_ok {cx : Cx} {w : World} : ∀ (is : List Nat) (lvs : List LV) (vs : List Value) (C : List LV) (D : List Value), Vs cx w C D → Vs cx w lvs vs →
    Vs cx w ((is.zip lvs).foldl (fun (C : List LV) p => C.set p.1 p.2) C) ((is.zip vs).foldl (fun (C : List Value) p => C.set p.1 p.2) D)
  | [], lvs, vs, C, D, hC, _ => by simpa using hC
  | k :: is, [], vs, C, D, hC, hv => by simp only [Vs] at hv; subst hv; simpa using hC
  | k :: is, l :: lvs, vs, C, D, hC, hv => by
    simp only [Vs] at hv
    obtain ⟨v, vs', rfl, h1, h2⟩ := hv
    simp only [List.zip_cons_cons, List.foldl_cons]
    exact bcells_ok is lvs vs' _ _ (Vs.set' k hC h1) h2

theorem R.build {t : Nat} {zs : List Value} (hF : BuildF P t zs) {parts : Array (Nat × Operand)} {is : List Nat} {xs : List Operand} {es : List Ent} {ls cs : List LV}
    (ho : all[i]? = some ⟨some d, .build t parts, ty, pos, aft, gd⟩ := by rfl) (hg : GuardOk (en E) all gd g gn := by first | exact gN | exact gS rfl rfl) (hp' : parts.toList = is.zip xs := by rfl) (hil : is.length = xs.length := by rfl) (hlt : (is.all fun k => decide (k < zs.length)) = true := by rfl)
    (hx : xs.map (lvOf (en E)) = es.map some := by rfl) (hes : g = true → es.map entLV = ls := by first | exact fun _ => rfl | (intro h; simp [entLV, h])) (h1 : ls.all LV.one = true := by rfl) (hcs : bcells zs is ls = cs := by rfl)
    (h : Reg P r N D B all (i + 1) ops ((i, Ct.p gn xs es (some d) (g, .agg cs) []) :: tr) (st ((d, (g, .agg cs)) :: E) L n) K) :
    Reg P r N D B all i (⟨some d, .build t parts, ty, pos, aft, gd⟩ :: ops) tr (st E L n) K := by
  have hop : (Oper.mk (some d) (.build t parts) ty pos aft gd).op.operands.toList = xs := by
    show (parts.toList.map (·.2)).toArray.toList = xs
    rw [hp']
    simp only [List.toList_toArray]
    exact List.map_snd_zip (by omega)
  refine Reg.pure (es := es) (rd := []) (out := .agg cs) ho hg ?_ (by simp) (fun hgt => ?_) ?_
  · rw [hop]; exact Opnds.of_map hx
  · rw [hes hgt]
    refine OpC.of_pure (by simp) fun md n0 cx H ρ w _ _ hv => ?_
    rw [hop] at hv
    obtain ⟨hz, hz1, fields, hu, hm⟩ := hF
    have hones := Vs.ones h1 hv
    have hpl : (parts.map fun (x : Nat × Operand) => (x.1, ρ x.2)).toList = is.zip (xs.map ρ) := by
      rw [Array.toList_map, hp', List.zip_map_right]
      rfl
    have hfill := fill_ones (m := zs.length) (is.zip (xs.map ρ)) zs.toArray (by simp) (fun p hpm => by
      obtain ⟨hp1, hp2⟩ := List.of_mem_zip hpm
      exact ⟨by simpa using List.all_eq_true.1 hlt _ hp1, hones _ hp2⟩)
    refine ⟨.agg ((is.zip (xs.map ρ)).foldl (fun (C : List Value) p => C.set p.1 p.2) zs).toArray, ?_, ?_⟩
    · simp only [execOp, Instr.build, Sem.run_bind, hz w, hu w, Result.andThen_ok, hm w, Value.cells]
      have : (parts.map fun (i, x) => (i, ρ x)).toList = is.zip (xs.map ρ) := hpl
      rw [this]
      simp only [List.toList_toArray] at hfill
      rw [hfill]
      simp
    · rw [← hcs]
      simp only [V]
      refine ⟨_, rfl, bcells_ok is ls _ _ _ ?_ hv⟩
      exact vs_map_val cx w zs
  · rw [hop]; exact h

/-! ### bits -/

theorem run_or (t : Nat) (x y : Operand) (k : IntKind) (a b : Int) : ∀ w, (do eqGuard .or t x y (.int k a) (.int k b); binOp .or t (.int k a) (.int k b) : Sem Value).run P w = .ok (.int k (k.wrap ((BitVec.ofInt k.bits a ||| BitVec.ofInt k.bits b).toNat))) w :=
  binI .or rfl t x y k a b fun w => by simp [binOp, Op.intBits]
theorem run_and (t : Nat) (x y : Operand) (k : IntKind) (a b : Int) : ∀ w, (do eqGuard .and t x y (.int k a) (.int k b); binOp .and t (.int k a) (.int k b) : Sem Value).run P w = .ok (.int k (k.wrap ((BitVec.ofInt k.bits a &&& BitVec.ofInt k.bits b).toNat))) w :=
  binI .and rfl t x y k a b fun w => by simp [binOp, Op.intBits]

end

section
variable {P : Program} {N : Nat} {B : Base} {E : List (Nat × Ent)} {L : List (Nat × LO)} {n : Nat}

theorem res0 {fn : Func} (h : fn.results = #[]) {m k : Nat} {Hi Ho : List (Nat × LO)} (hA : ∀ o, B.cx.A o ↔ o < m) (hmd : B.md = blks B.cx (hp Hi)) (hn : n = m + k)
    (hHo : ∀ o x, hp Ho o = some x → hp L o = some x) {e : Exit} (he : e = .normal ∨ e = .ret) :
    ∀ cx a w, Rel B N [] (st E L n) cx a w → FnPost P fn B m (.tup []) Hi Ho k e a w := by
  intro cx a w hr
  subst hn
  refine FnPost.of hA hmd hHo he hr (v := .tuple #[]) ?_ ?_
  · simp [results, h]
  · simp only [V, Vs]; exact ⟨[], rfl, rfl⟩

theorem KeepL.of {H : Hp} : ∀ {l : List (Nat × LO)}, (∀ p ∈ l, H p.1 = some p.2) → KeepL H l
  | [], _ => trivial
  | p :: l, h => ⟨h p (by simp), KeepL.of fun q hq => h q (List.mem_cons_of_mem _ hq)⟩

theorem KeepL.app {l l' : List (Nat × LO)} (hn : (l.map (·.1)).Nodup) : KeepL (hp (l ++ l')) l := KeepL.of fun p hp' => by
  simp only [hp, lookup_append', lookup_of_nodup hn hp']

end

section
variable {P : Program} {N : Nat} {B : Base} {E : List (Nat × Ent)} {L : List (Nat × LO)} {n : Nat}

/-- the end of a function; names that the caller does not get are let go -/
theorem FnPost.of2 {fn : Func} {m k : Nat} {out : LV} {Hi Ho : List (Nat × LO)}
    (hA : ∀ o, B.cx.A o ↔ o < m) (hmd : B.md = blks B.cx (hp Hi)) (hn : m + k ≤ n) (hHo : ∀ o x, hp Ho o = some x → hp L o = some x) (hol : (Ho.all fun p => decide (p.1 < m + k) && p.2.lt (m + k)) = true) (hout : out.lt (m + k) = true)
    {e : Exit} (he : e = .normal ∨ e = .ret) {cx : Cx} {a : Act} {w : World} (hr : Rel B N [] (st E L n) cx a w) {v : Value} (hv : (results fn a.tmps).run P w = .ok v w) (hvo : V cx w out v) :
    FnPost P fn B m out Hi Ho k e a w := by
  refine ⟨he, ?_⟩
  rw [show a.defers = [] from hr.df]
  let c1 : Cx := ⟨cx.pr, fun o => o < m + k, cx.loc, cx.inn⟩
  have h1 : ∀ o, o < m + k → c1.A o ∧ c1.loc o = cx.loc (id o) := fun o ho => ⟨ho, rfl⟩
  have hlt : ∀ o x, hp Ho o = some x → o < m + k ∧ x.lt (m + k) = true := fun o x hx => by
    have := List.all_eq_true.1 hol _ (lookup_mem' hx)
    simpa using this
  refine ⟨v, hv, v, c1, rfl, fun hne => ⟨fun o ho => ⟨?_, (hr.le o ho).2⟩, fun o => ?_, by rw [← hmd]; exact hr.grow, ⟨fun o x hx => ⟨(hlt o x hx).1, ?_⟩, fun o x b hx hb => by rw [← hmd]; exact hr.heap.own o x b (hHo o x hx) hb, fun o o' x x' b hne hx hx' hb => hr.heap.inj o o' x x' b hne (hHo o x hx) (hHo o' x' hx') hb, hr.heap.lim⟩, fun o ho hn => absurd hn (hne o ho)⟩, ?_⟩
  · have := (hA o).1 ho
    show o < m + k
    omega
  · rw [hA]
    show o < m + k ↔ _
    omega
  · have := (hr.heap.ok o x (hHo o x hx)).2
    exact ObjOk.unren (cx1 := c1) (cx2 := cx) (σ := id) rfl h1 (hlt o x hx).1 (hlt o x hx).2 rfl (by rw [LO.mapI_id]; exact this)
  · exact V.unren (cx1 := c1) (cx2 := cx) (σ := id) rfl h1 out v hout (by rw [mapI_id]; exact hvo)

theorem resD {fn : Func} {t T TB sz o : Nat} {cs : List LV} (h : fn.results = #[.cell t T]) (hF : AggF P T sz) {m k : Nat} {Hi Ho : List (Nat × LO)} (hA : ∀ o, B.cx.A o ↔ o < m) (hmd : B.md = blks B.cx (hp Hi)) (hn : m + k ≤ n)
    (hHo : ∀ o x, hp Ho o = some x → hp L o = some x) (ht : en E t = some (true, .ptr o 0)) (hb : hp L o = some (.box TB cs)) (hc : cs.length = sz) {e : Exit} (he : e = .normal ∨ e = .ret)
    (hol : (Ho.all fun p => decide (p.1 < m + k) && p.2.lt (m + k)) = true := by rfl) (hout : (LV.agg cs).lt (m + k) = true := by rfl) :
    ∀ cx a w, Rel B N [] (st E L n) cx a w → FnPost P fn B m (.agg cs) Hi Ho k e a w := by
  intro cx a w hr
  obtain ⟨v, ad, h1, h2, h3⟩ := boxLoadA hF hr ht hb hc
  refine FnPost.of2 hA hmd hn hHo hol hout he hr (v := v) ?_ h3
  simp only [Array.getD_eq_getD_getElem?] at h1
  simp [results, h, h1, asAddr, h2]
theorem resD1 {fn : Func} {t T TB sz o u : Nat} {cs : List LV} {l : LV} (h : fn.results = #[.cell t T, .tmp u]) (hF : AggF P T sz) {m k : Nat} {Hi Ho : List (Nat × LO)} (hA : ∀ o, B.cx.A o ↔ o < m) (hmd : B.md = blks B.cx (hp Hi)) (hn : m + k ≤ n)
    (hHo : ∀ o x, hp Ho o = some x → hp L o = some x) (ht : en E t = some (true, .ptr o 0)) (hb : hp L o = some (.box TB cs)) (hc : cs.length = sz) (hu : en E u = some (true, l)) {e : Exit} (he : e = .normal ∨ e = .ret)
    (hol : (Ho.all fun p => decide (p.1 < m + k) && p.2.lt (m + k)) = true := by rfl) (hout : (LV.tup [.agg cs, l]).lt (m + k) = true := by rfl) :
    ∀ cx a w, Rel B N [] (st E L n) cx a w → FnPost P fn B m (.tup [.agg cs, l]) Hi Ho k e a w := by
  intro cx a w hr
  obtain ⟨v, ad, h1, h2, h3⟩ := boxLoadA hF hr ht hb hc
  refine FnPost.of2 hA hmd hn hHo hol hout he hr (v := .tuple #[v, a.tmps.getD u undef]) ?_ ?_
  · simp only [Array.getD_eq_getD_getElem?] at h1
    simp [results, h, h1, asAddr, h2]
  · simp only [V] at h3 ⊢
    exact ⟨[_, _], rfl, by simp only [Vs]; exact ⟨_, _, rfl, by simp only [V]; exact h3, _, _, rfl, (hr.env u _ hu).1 rfl, rfl⟩⟩
theorem resD2 {fn : Func} {t T TB sz o u u' : Nat} {cs : List LV} {l l' : LV} (h : fn.results = #[.cell t T, .tmp u, .tmp u']) (hF : AggF P T sz) {m k : Nat} {Hi Ho : List (Nat × LO)} (hA : ∀ o, B.cx.A o ↔ o < m) (hmd : B.md = blks B.cx (hp Hi)) (hn : m + k ≤ n)
    (hHo : ∀ o x, hp Ho o = some x → hp L o = some x) (ht : en E t = some (true, .ptr o 0)) (hb : hp L o = some (.box TB cs)) (hc : cs.length = sz) (hu : en E u = some (true, l)) (hu' : en E u' = some (true, l')) {e : Exit} (he : e = .normal ∨ e = .ret)
    (hol : (Ho.all fun p => decide (p.1 < m + k) && p.2.lt (m + k)) = true := by rfl) (hout : (LV.tup [.agg cs, l, l']).lt (m + k) = true := by rfl) :
    ∀ cx a w, Rel B N [] (st E L n) cx a w → FnPost P fn B m (.tup [.agg cs, l, l']) Hi Ho k e a w := by
  intro cx a w hr
  obtain ⟨v, ad, h1, h2, h3⟩ := boxLoadA hF hr ht hb hc
  refine FnPost.of2 hA hmd hn hHo hol hout he hr (v := .tuple #[v, a.tmps.getD u undef, a.tmps.getD u' undef]) ?_ ?_
  · simp only [Array.getD_eq_getD_getElem?] at h1
    simp [results, h, h1, asAddr, h2]
  · simp only [V] at h3 ⊢
    exact ⟨[_, _, _], rfl, by simp only [Vs]; exact ⟨_, _, rfl, by simp only [V]; exact h3, _, _, rfl, (hr.env u _ hu).1 rfl, _, _, rfl, (hr.env u' _ hu').1 rfl, rfl⟩⟩

end

end Go.Proofs.Ytmiamhegohlglaa
