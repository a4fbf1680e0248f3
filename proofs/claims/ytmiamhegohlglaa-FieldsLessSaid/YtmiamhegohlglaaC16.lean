/- Names told anew; a nil slice within a cell of one's own. -/
import Derived.Test.YtmiamhegohlglaaC15
set_option linter.unusedSimpArgs false
set_option linter.unusedVariables false
namespace Go.Proofs.Ytmiamhegohlglaa

section
variable {P : Program} {r : Option Nat} {N : Nat} {D : List Nat} {B : Base} {Ψ : Exit → Act → World → Prop} {todo : List Item} {E : List (Nat × Ent)} {L : List (Nat × LO)} {n : Nat}

/-- the slots, told by new names: the new name j stands for the old one s j -/
def renE (s : Nat → Nat) (E : List (Nat × Ent)) : List (Nat × Ent) := E.map fun p => (p.1, p.2.1, p.2.2.mapI s)
def renL (s : Nat → Nat) (L : List (Nat × LO)) : List (Nat × LO) := L.map fun p => (s p.1, p.2.mapI s)

theorem LGo.ren (s : Nat → Nat) (m : Nat) (hB : ∀ o, B.cx.A o → o < m ∧ s o = o) (hs : ∀ j, j < m → s j < n) (hinj : ∀ i j, i < m → j < m → s i = s j → i = j) (E' : List (Nat × Ent)) (L' : List (Nat × LO))
    (hE : KeepE (en E) (renE s E')) (hL : KeepL (hp L) (renL s L')) (hEl : ∀ p ∈ E', p.2.2.lt m = true) (hLl : ∀ p ∈ L', p.1 < m ∧ p.2.lt m = true)
    (hD : ∀ o ∈ D, o < m ∧ s o = o) (h : LGo P r N D B Ψ todo (st E' L' m)) : LGo P r N D B Ψ todo (st E L n) := by
  refine LGo.conv (fun cx a w hr => ?_) h
  let c2 : Cx := ⟨cx.pr, fun o => o < m, fun o => cx.loc (s o), fun o => cx.inn (s o)⟩
  have h1 : ∀ o, o < m → c2.A o ∧ c2.loc o = cx.loc (s o) := fun o ho => ⟨ho, rfl⟩
  have getE : ∀ {l : List (Nat × Ent)} {t : Nat} {e : Ent}, en l t = some e → KeepE (en E) (renE s l) → (t, e) ∈ l ∧ en E t = some (e.1, e.2.mapI s) := by
    intro l
    induction l with
    | nil => intro t e h; simp at h
    | cons p l ih =>
      obtain ⟨pk, pv⟩ := p
      intro t e ht hk
      simp only [renE, List.map_cons, KeepE] at hk
      simp only [en, List.lookup_cons] at ht
      split at ht
      · rename_i hh; simp at hh; cases ht; subst hh; exact ⟨by simp, hk.1⟩
      · obtain ⟨k1, k2⟩ := ih ht hk.2; exact ⟨List.mem_cons_of_mem _ k1, k2⟩
  have getL : ∀ {l : List (Nat × LO)} {t : Nat} {e : LO}, hp l t = some e → KeepL (hp L) (renL s l) → (t, e) ∈ l ∧ hp L (s t) = some (e.mapI s) := by
    intro l
    induction l with
    | nil => intro t e h; simp at h
    | cons p l ih =>
      obtain ⟨pk, pv⟩ := p
      intro t e ht hk
      simp only [renL, List.map_cons, KeepL] at hk
      simp only [hp, List.lookup_cons] at ht
      split at ht
      · rename_i hh; simp at hh; cases ht; subst hh; exact ⟨by simp, hk.1⟩
      · obtain ⟨k1, k2⟩ := ih ht hk.2; exact ⟨List.mem_cons_of_mem _ k1, k2⟩
  refine ⟨c2, ⟨hr.grow, fun o ho => ⟨(hB o ho).1, ?_⟩, rfl, ⟨fun o x hx => ?_, fun o x b hx hb => ?_, fun o o' x x' b hne hx hx' hb => ?_, hr.heap.lim⟩, hr.size, fun t e he => ?_, ?_, fun o ho => (hD o ho).1⟩⟩
  · show cx.loc (s o) = _
    rw [(hB o ho).2]; exact (hr.le o ho).2
  · obtain ⟨k1, k2⟩ := getL hx hL
    obtain ⟨k3, k4⟩ := hLl _ k1
    exact ⟨k3, ObjOk.unren (cx1 := c2) (cx2 := cx) (σ := s) rfl h1 k3 k4 rfl (hr.heap.ok _ _ k2).2⟩
  · obtain ⟨k1, k2⟩ := getL hx hL
    exact hr.heap.own _ _ b k2 (has_map rfl rfl hb)
  · obtain ⟨k1, k2⟩ := getL hx hL
    obtain ⟨k1', k2'⟩ := getL hx' hL
    exact hr.heap.inj _ _ _ _ b (fun e => hne (hinj _ _ (hLl _ k1).1 (hLl _ k1').1 e)) k2 k2' (has_map rfl rfl hb) ∘ (has_map rfl rfl)
  · obtain ⟨k1, k2⟩ := getE he hE
    have := hr.env t _ k2
    exact ⟨fun hg => V.unren (cx1 := c2) (cx2 := cx) (σ := s) rfl h1 _ _ (hEl _ k1) (this.1 hg), this.2⟩
  · rw [hr.df]
    refine List.map_congr_left (fun o ho => ?_)
    simp only [mkd]
    show _ = Deferred.mk (.collected ((bk (cx.loc (s o))).getD 0)) #[]
    rw [(hD o ho).2]

/-- names told anew, in a walk: ids j is the old name of j -/
theorem LGo.turn (ids : List Nat) {b : Nat} (hB : ∀ o, B.cx.A o → o < b) {E' : List (Nat × Ent)} {L' : List (Nat × LO)} (h : LGo P r N D B Ψ todo (st E' L' ids.length))
    (hE : KeepE (en E) (renE (fun j => ids.getD j 0) E')) (hL : KeepL (hp L) (renL (fun j => ids.getD j 0) L'))
    (hb : ids.take b = List.range b := by rfl) (hlt : (ids.all fun i => decide (i < n)) = true := by rfl) (hnd : ids.Nodup := by decide)
    (hEl : (E'.all fun p => p.2.2.lt ids.length) = true := by rfl) (hLl : (L'.all fun p => decide (p.1 < ids.length) && p.2.lt ids.length) = true := by rfl) (hD : ∀ o ∈ D, o < b := by simp) : LGo P r N D B Ψ todo (st E L n) := by
  have hbl : ∀ o, o < b → o < ids.length ∧ ids.getD o 0 = o := by
    intro o ho
    have hl : (ids.take b).length = b := by rw [hb]; simp
    rw [List.length_take] at hl
    have h1 : o < ids.length := by omega
    refine ⟨h1, ?_⟩
    have h2 : (ids.take b)[o]? = some o := by rw [hb]; simp [ho]
    rw [List.getElem?_take, if_pos ho] at h2
    simp [List.getD_eq_getElem?_getD, h2]
  refine LGo.ren (fun j => ids.getD j 0) ids.length (fun o ho => hbl o (hB o ho)) (fun j hj => ?_) (fun i j hi hj he => ?_) E' L' hE hL (fun p hp' => List.all_eq_true.1 hEl p hp') (fun p hp' => by have := List.all_eq_true.1 hLl p hp'; simpa using this) (fun o ho => hbl o (hD o ho)) h
  · simp only [List.getD_eq_getElem?_getD, List.getElem?_eq_getElem hj, Option.getD_some]
    simpa using List.all_eq_true.1 hlt _ (List.getElem_mem hj)
  · simp only [List.getD_eq_getElem?_getD, List.getElem?_eq_getElem hi, List.getElem?_eq_getElem hj, Option.getD_some] at he
    rcases Nat.lt_trichotomy i j with hlt' | heq | hlt'
    · exact absurd he (List.pairwise_iff_getElem.1 hnd i j hi hj hlt')
    · exact heq
    · exact absurd he.symm (List.pairwise_iff_getElem.1 hnd j i hj hi hlt')

end

theorem oneL {o : Nat} {x : LO} {L : List (Nat × LO)} (h : hp L o = some x) : ∀ (q : Nat) (y : LO), hp [(o, x)] q = some y → hp L q = some y := by
  intro q y hy
  simp only [hp, List.lookup_cons, List.lookup_nil] at hy
  cases ho : (q == o) with
  | true => rw [ho] at hy; cases hy; have : q = o := by simpa using ho
            subst this; exact h
  | false => rw [ho] at hy; cases hy

section
variable {P : Program} {r : Option Nat} {N : Nat} {D : List Nat} {B : Base} {all : Array Oper} {K : List (Nat × Ct) → St → Prop}
variable {i : Nat} {ops : List Oper} {tr : List (Nat × Ct)} {E : List (Nat × Ent)} {L : List (Nat × LO)} {n : Nat}
variable {d ty : Nat} {pos : String} {aft : Array Edge}

/-- a call of a function that takes no object and leaves new ones -/
theorem R.callN {f k : Nat} {args : Array Operand} {ats : Array TypeId} {es : List Ent} {lvs : List LV} {out out' : LV} {Ho Ho' : List (Nat × LO)} (hc : LC P f 0 lvs [] out Ho k)
    (ho : all[i]? = some ⟨some d, .call { callee := .value (.func f), args := args, argTypes := ats }, ty, pos, aft, none⟩ := by rfl)
    (hx : args.toList.map (lvOf (en E)) = es.map some := by rfl) (hes : es.map entLV = lvs := by rfl) (hout : out.mapI (sg [] n) = out' := by rfl) (hHo : (Ho.map fun p => (sg [] n p.1, p.2.mapI (sg [] n))) = Ho' := by rfl)
    (h : Reg P r N D B all (i + 1) ops ((i, ⟨needOf (.func f :: args.toList) ((true, .fn (.func f) [] []) :: es), some d, (true, out'), [], [], Ho', List.range' n k⟩) :: tr) (st ((d, (true, out')) :: E) (Ho' ++ L) (n + k)) K) :
    Reg P r N D B all i (⟨some d, .call { callee := .value (.func f), args := args, argTypes := ats }, ty, pos, aft, none⟩ :: ops) tr (st E L n) K := by
  have hl : (Oper.mk (some d) (.call { callee := .value (.func f), args := args, argTypes := ats }) ty pos aft none).op.operands.toList = .func f :: args.toList := by simp [Op.operands, Go.Call.operands]
  have h0 : LV.lts 0 lvs = true := hc.args
  have h2 := OpC.call (r := r) (n := n) (ids := []) (k := k) (Ho := Ho) hc List.nodup_nil (o := ⟨some d, .call { callee := .value (.func f), args := args, argTypes := ats }, ty, pos, aft, none⟩) rfl rfl (first := []) (cap := []) (avs := lvs)
    (by rw [mapIs_of_lt0 _ _ h0]; simp)
  rw [hout, hHo] at h2
  refine Reg.gen (m := k) (es := (true, .fn (.func f) [] []) :: es) (rd := []) (Hi := []) (Ho := Ho') (out := out') ho gN (by rw [hl]; exact ⟨_, _, rfl, rfl, Opnds.of_map hx⟩) (by simp) (by simp) (by rw [← hes] at h2; exact h2) ?_
  have e : updL L [] Ho' = Ho' ++ L := by simp [updL]
  rw [e]
  rw [hl]
  exact h

end

section
variable {P : Program} {r : Option Nat} {N : Nat} {D : List Nat} {B : Base} {all : Array Oper} {K : List (Nat × Ct) → St → Prop}
variable {i : Nat} {ops : List Oper} {tr : List (Nat × Ct)} {E : List (Nat × Ent)} {L : List (Nat × LO)} {n : Nat} {g : Bool} {gn : List (Nat × Ent)}
variable {d ty : Nat} {pos : String} {aft : Array Edge} {gd : Option (Nat × Bool)}

/-- the length of a slice of one's own -/
theorem R.lenRow {T : Nat} (hF : SliceT P T) {x : Operand} {gx : Bool} {o e sz : Nat} {xs : List (List LV)}
    (ho : all[i]? = some ⟨some d, .call { callee := .builtin .len, args := #[x], argTypes := #[T] }, ty, pos, aft, gd⟩ := by rfl) (hg : GuardOk (en E) all gd g gn := by first | exact gN | exact gS rfl rfl)
    (hx : lvOf (en E) x = some (gx, .ref o) := by rfl) (hgx : g = true → gx = true := by first | exact fun _ => rfl | exact id) (hb : hp L o = some (.row e sz xs) := by rfl)
    (h : Reg P r N D B all (i + 1) ops ((i, Ct.p gn [x] [(gx, .ref o)] (some d) (g, .i xs.length) [(o, .row e sz xs)]) :: tr) (st ((d, (g, .i xs.length)) :: E) L n) K) :
    Reg P r N D B all i (⟨some d, .call { callee := .builtin .len, args := #[x], argTypes := #[T] }, ty, pos, aft, gd⟩ :: ops) tr (st E L n) K :=
  Reg.one rfl (fun h => by
    rw [entLV_true h hgx]
    refine OpC.of_pure1 (x := x) rfl (by simp) fun md n0 cx H ρ w hok hrd hvv => ?_
    have hv := hvv
    obtain ⟨el, hT⟩ := hF
    simp only [V] at hv
    obtain ⟨_, hv1, _⟩ := hv
    obtain ⟨_, _, vs, hown, _⟩ := hok.ok o _ (hrd o (.row e sz xs) (by simp))
    refine ⟨.int .i64 xs.length, ?_, V.mkval⟩
    rcases hown.2 with ⟨e1, e2⟩ | ⟨gb, cap, cur, e1, _⟩
    · rw [e1] at hv1
      simp [execOp, resolve, invoke, builtin, Builtin.len_, hv1, hT w, goInt, e2]
    · rw [e1] at hv1
      simp [execOp, resolve, invoke, builtin, Builtin.len_, hv1, hT w, goInt]) ho hg hx (oneL hb) h

end

end Go.Proofs.Ytmiamhegohlglaa
