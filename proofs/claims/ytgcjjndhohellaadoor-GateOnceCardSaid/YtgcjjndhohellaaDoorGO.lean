/- gates: Find, Count. -/
import Derived.Test.YtgcjjndhohellaaDoorGN
set_option linter.unusedSimpArgs false
set_option linter.unusedVariables false
namespace Go.Proofs.YtgcjjndhohellaaDoor

section
variable {P : Program} {r : Option Nat} {N : Nat} {D : List Nat} {B : Base} {all : Array Oper} {K : List (Nat × Ct) → St → Prop}
variable {i : Nat} {ops : List Oper} {tr : List (Nat × Ct)} {E : List (Nat × Ent)} {L : List (Nat × LO)} {n : Nat} {g : Bool} {gn : List (Nat × Ent)}
variable {d ty : Nat} {pos : String} {aft : Array Edge} {gd : Option (Nat × Bool)}

/-- a call of a value that is such a function, maybe under a guard -/
theorem R.callPF {f : FuncId} {fo : Operand} {gf : Bool} {args : Array Operand} {ats : Array TypeId} {es : List Ent} {lvs : List LV} {out : LV} (hc : g = true → PC P f lvs out)
    (ho : all[i]? = some ⟨some d, .call { callee := .value fo, args := args, argTypes := ats }, ty, pos, aft, gd⟩ := by rfl) (hg : GuardOk (en E) all gd g gn := by first | exact gN | exact gS rfl rfl)
    (hf : lvOf (en E) fo = some (gf, .fn (.func f) [] []) := by rfl) (hgf : g = true → gf = true := by first | exact fun _ => rfl | exact id)
    (hx : args.toList.map (lvOf (en E)) = es.map some := by rfl) (hes : g = true → es.map entLV = lvs := by first | exact fun _ => rfl | (intro h; simp [entLV, h]; done) | (intro h; simp only [List.map_cons, List.map_nil, entLV_eq h]; first | done | rfl))
    (h : Reg P r N D B all (i + 1) ops ((i, Ct.p gn (fo :: args.toList) ((gf, .fn (.func f) [] []) :: es) (some d) (g, out) []) :: tr) (st ((d, (g, out)) :: E) L n) K) :
    Reg P r N D B all i (⟨some d, .call { callee := .value fo, args := args, argTypes := ats }, ty, pos, aft, gd⟩ :: ops) tr (st E L n) K := by
  have hl : (Oper.mk (some d) (.call { callee := .value fo, args := args, argTypes := ats }) ty pos aft gd).op.operands.toList = fo :: args.toList := by simp [Op.operands, Go.Call.operands]
  refine Reg.pure (es := (gf, .fn (.func f) [] []) :: es) (rd := []) (out := out) ho hg ?_ (by simp) (fun hgt => ?_) ?_
  · rw [hl]; exact ⟨_, _, rfl, hf, Opnds.of_map hx⟩
  · have h1 := (hc hgt).lc
    refine ⟨by simp, fun md n0 cx H a w K Q hok ham hrd hHi hnew hv hK => ?_⟩
    rw [hl] at hv
    simp only [List.map_cons, Vs] at hv
    obtain ⟨vf, rest, he, hvf, hva⟩ := hv
    simp only [List.cons.injEq] at he
    obtain ⟨rfl, rfl⟩ := he
    rw [hes hgt] at hva
    rw [hgf hgt] at hvf
    simp only [entLV, V] at hvf
    obtain ⟨us, vs, e1, e2, e3⟩ := hvf
    simp only [Vs] at e2 e3
    subst e2
    subst e3
    let c1 : Cx := ⟨cx.pr, fun o => o < 0, cx.loc, cx.inn⟩
    have hva1 : Vs c1 w lvs (args.toList.map a.eval) := Vs.unren (cx1 := c1) (cx2 := cx) (σ := id) (m := 0) rfl (fun o ho => absurd ho (Nat.not_lt_zero o)) _ _ h1.args (by rw [mapIs_of_lt0 _ _ h1.args]; exact hva)
    have hok1 : HOk (fun _ => True) 0 c1 (hp []) w := ⟨fun o x hx => by simp at hx, fun o x b hx => by simp at hx, fun o o' x x' b _ hx => by simp at hx, hok.lim⟩
    have hrun := run_call (P := P) h1.entr [] [] { callee := .value fo, args := args, argTypes := ats } fo rfl a.eval e1 ty w
    refine ⟨fun _ _ => trivial, ?_⟩
    rw [Oper.semAt_eq _ _ _ (by simp)]
    have : (execOp a.eval ⟨some d, .call { callee := .value fo, args := args, argTypes := ats }, ty, pos, aft, gd⟩).run P w = .ok (.enter f (args.toList.map a.eval).toArray) w := by
      unfold execOp; simpa using hrun
    rw [this, Oper.uponIn_enter]
    refine ⟨fun h => by simp [FW, Fence.wide] at h, callsIn_FW ((h1.go c1 w _ (fun o => Iff.rfl) hok1 ham hva1).mono ?_)⟩
    rintro e w' ⟨v, c2, rfl, t, hvo⟩
    let c3 : Cx := ⟨c2.pr, cx.A, cx.loc, cx.inn⟩
    have hno : ∀ o, ¬ c2.A o := fun o ho => by
      rcases (t.A o).1 ho with h | h
      · exact Nat.not_lt_zero o h
      · omega
    refine hK c3 w' v ⟨fun o ho => ⟨ho, rfl⟩, fun o => by simp [c3], ⟨t.grow.os, t.grow.tape, t.grow.output, t.grow.size, fun b hb hn => t.grow.same b hb (fun ⟨o, x, hx, _⟩ => by simp at hx), fun b hb hn => t.grow.prs b hb (fun ⟨o, x, hx, _⟩ => by simp at hx), t.grow.ext⟩,
      ⟨fun o x hx => by simp at hx, fun o x b hx => by simp at hx, fun o o' x x' b _ hx => by simp at hx, t.heap.lim⟩, fun _ _ _ => rfl⟩ ?_
    exact V.mono (cx := c2) (cx' := c3) (fun o ho => absurd ho (hno o)) (Ext.refl _ _) _ _ hvo
  · rw [hl]; exact h

end

def posK (k : K3) : List GtE → Nat
  | [] => 0
  | y :: l => if cmpK y.key k < 0 then posK k l + 1 else 0
theorem posK_le (k : K3) : ∀ l : List GtE, posK k l ≤ l.length
  | [] => Nat.le_refl _
  | y :: l => by
    have := posK_le k l
    rw [posK, List.length_cons]
    split <;> omega
theorem posK_lt {k : K3} : ∀ {l : List GtE}, SortK l → ∀ {h : Nat} (hh : h < l.length), (cmpK l[h].key k < 0 ↔ h < posK k l)
  | [], _, h, hh => absurd hh (by simp)
  | y :: l, hs, 0, _ => by
    rw [posK, List.getElem_cons_zero]
    split <;> simp [*]
  | y :: l, hs, h + 1, hh => by
    have hs' := List.pairwise_cons.1 hs
    have hh' : h < l.length := by simpa using hh
    rw [posK, List.getElem_cons_succ]
    split
    · rw [posK_lt hs'.2 hh']; omega
    · rename_i hy
      constructor
      · intro hc
        exact absurd (cmpK_lt.2 (ltK_tr (hs'.1 l[h] (List.getElem_mem hh')) (cmpK_lt.1 hc))) hy
      · intro hc; omega
theorem posK_find {k : K3} {l : List GtE} (hs : SortK l) : l.find? (fun x => decide (x.key = k)) = if h : posK k l < l.length then (if l[posK k l].key = k then some l[posK k l] else none) else none := by
  have hno : ∀ (j : Nat) (hj : j < l.length), l[j].key = k → j = posK k l := fun j hj hk => by
    have h1 : ¬ j < posK k l := fun h => by
      have := (posK_lt hs hj).2 h
      rw [hk, cmpK_lt] at this
      exact ltK_irr _ this
    by_cases h2 : j = posK k l
    · exact h2
    · have hp : posK k l < j := by omega
      have hlt := List.pairwise_iff_getElem.1 hs (posK k l) j (by omega) hj hp
      rw [hk] at hlt
      have := (posK_lt hs (show posK k l < l.length by omega)).1 (cmpK_lt.2 hlt)
      omega
  split
  · rename_i h
    split
    · rename_i hk
      have := find_mem (sort_dist hs) (List.getElem_mem h)
      rw [hk] at this
      exact this
    · rename_i hk
      rw [List.find?_eq_none]
      intro x hx
      obtain ⟨j, hj, rfl⟩ := List.getElem_of_mem hx
      simp only [decide_eq_true_eq]
      intro hkk
      have hjj := hno j hj hkk
      subst hjj
      exact hk hkk
  · rename_i h
    rw [List.find?_eq_none]
    intro x hx
    obtain ⟨j, hj, rfl⟩ := List.getElem_of_mem hx
    simp only [decide_eq_true_eq]
    intro hkk
    have hjj := hno j hj hkk
    omega
def foundK (k : K3) (l : List GtE) : Bool := match l[posK k l]? with
  | none => false
  | some x => decide (cmpK x.key k = 0)
theorem found_eq {k : K3} {l : List GtE} {i : Nat} (h : posK k l = i) : (decide ((i : Int) < (l.length : Int)) && decide (cmpK (l.getD i default).key k = 0)) = foundK k l := by
  unfold foundK
  rw [h, List.getD_eq_getElem?_getD]
  by_cases hi : i < l.length
  · rw [List.getElem?_eq_getElem hi, decide_eq_true (show (i : Int) < (l.length : Int) by omega)]; simp
  · rw [List.getElem?_eq_none (by omega), decide_eq_false (show ¬ (i : Int) < (l.length : Int) by omega)]; simp

theorem find1_P (x : GtE) (hx0 : U32 x.seat) (k : K3) : PC Tryd.prog 37 [.agg (x.c.map LV.sv), .agg ((K3.v k).map LV.v)] (.i (cmpK x.key k)) := by
 refine ⟨LC.of_go Tryd.func37 (c := _) rfl (by kernel_rfl) (by rw [Tryd.ntmps37]; simp) rfl rfl (by simp [LO.lt, LV.lts, LV.lt, lts_sv]) (by simp) ?_⟩
 intro B hA hmd
 refine .seq ?_
 refine .region rfl ?_
 refine R.box (h := ?_)
 refine R.box (h := ?_)
 refine R.assign (h := ?_)
 refine .n0 ?_
 refine .seq ?_
 refine .region rfl ?_
 first | refine R.loadA A40 (h := ?_) | refine R.loadN A40 (h := ?_) | refine R.loadP A40 (h := ?_)
 refine R.callP (es := [_]) (fun _ => keyOf_P x hx0) (h := ?_)
 first | refine R.loadA A69 (h := ?_) | refine R.loadN A69 (h := ?_) | refine R.loadP A69 (h := ?_)
 refine R.callP (es := [_, _]) (fun _ => before_P x.key k) (h := ?_)
 refine R.assign (h := ?_)
 refine Reg.nil ⟨fun _ => ⟨mixedO, by rfl, by rfl⟩, ?_⟩
 exact LGo.ret (ret_T Tryd.results37 hA hmd)

theorem search_P (l : List GtE) (hl : l.length ≤ 100000) (hu : ∀ x ∈ l, U32 x.seat) (hs : SortK l) (k : K3) : PC Tryd.prog 36 [.sv (.sl 5 (l.map GtE.c)), .agg ((K3.v k).map LV.v), .fn (.func 37) [] []] (.tup [.i (posK k l), .b (foundK k l)]) := by
 refine ⟨LC.of_go Tryd.func36 (c := _) rfl (by kernel_rfl) (by rw [Tryd.ntmps36]; simp) rfl rfl (by simp [LO.lt, LV.lts, LV.lt, lts_sv]) (by simp) ?_⟩
 intro B hA hmd
 obtain ⟨p, hp⟩ : ∃ p, posK k l = p := ⟨_, rfl⟩
 rw [hp]
 have hpl : p ≤ l.length := by rw [← hp]; exact posK_le k l
 refine .seq ?_
 refine .region rfl ?_
 refine R.box (h := ?_)
 refine R.assign (h := ?_)
 refine R.assign (h := ?_)
 refine .n0 ?_
 refine .seq ?_
 refine .region rfl ?_
 refine R.move (h := ?_)
 first | refine R.len S23 (h := ?_) | refine R.lenRs S23 (h := ?_) | refine R.lenV (run_lenNil S23) (h := ?_)
 rw [List.length_map]
 refine R.assign (h := ?_)
 refine .n0 ?_
 refine .seq ?_
 refine .region rfl ?_
 refine R.move (h := ?_)
 refine R.assign (h := ?_)
 refine R.assign (h := ?_)
 refine .n0 ?_
 refine .seq ?_
 refine .block ?_
 refine .loop ?_
 refine LGo.loopG (σ := Nat × Nat) (fun x => x.1 ≤ p ∧ p ≤ x.2 ∧ x.2 ≤ l.length) (fun x => [(9, (true, .i (x.1 : Nat))), (10, (true, .i (x.2 : Nat)))]) (fun x => [(0, .box 69 ((K3.v k).map LV.v))]) (fun x => x.2 - x.1) (0, l.length) [(0, _), (2, _), (4, _), (8, _)] ⟨Nat.zero_le _, hpl, Nat.le_refl _⟩ (by repeat (first | exact trivial | refine ⟨rfl, ?_⟩)) (by repeat (first | exact trivial | refine ⟨rfl, ?_⟩)) (by repeat (first | exact trivial | refine ⟨rfl, ?_⟩)) ?_
 rintro ⟨i, j⟩ ⟨hi, hj, hjl⟩ ih
 dsimp only at * 
 refine .seq ?_
 refine .seq ?_
 refine .region rfl ?_
 refine R.move (h := ?_)
 refine R.move (h := ?_)
 refine R.bin (run_lss _ _ _ _ _ _) (h := ?_)
 refine .n0 ?_
 refine LGo.ifd (ht := fun hc => ?_) (hf := fun hc => ?_)
 ·
  refine .skip ?_
  refine .block ?_
  refine .seq ?_
  refine .region rfl ?_
  refine R.move (h := ?_)
  refine R.move (h := ?_)
  first | refine R.add (h := ?_) | refine R.addW (h := ?_)
  refine R.convI Tryd.runUnderlying3 Tryd.runUnderlying98 (h := ?_)
  refine R.shr (h := ?_)
  obtain ⟨h, hh⟩ : ∃ h : Nat, ((i : Int) + j) / 2 ^ (min (1 : Int).toNat IntKind.u64.bits) = h := ⟨(i + j) / 2, by rw [show min (1 : Int).toNat IntKind.u64.bits = 1 from rfl]; omega⟩
  rw [hh]
  have hh2 : i ≤ h ∧ h < j := by rw [show min (1 : Int).toNat IntKind.u64.bits = 1 from rfl] at hh; omega
  have hlt : h < l.length := by omega
  have hx : (l.map GtE.c)[((h : Nat) : Int).toNat]? = some l[h].c := by simp [hlt]
  have hc0 := posK_lt (k := k) hs hlt
  have hxu := hu l[h] (List.getElem_mem hlt)
  rw [hp] at hc0
  generalize l[h] = x at hx hc0 hxu
  refine R.convI Tryd.runUnderlying98 Tryd.runUnderlying3 (h := ?_)
  refine R.assign (h := ?_)
  refine .n0 ?_
  refine .seq ?_
  refine .region rfl ?_
  refine R.move (h := ?_)
  refine R.move (h := ?_)
  refine R.move (h := ?_)
  refine R.index I23 (hj := fun hg => ⟨by omega, hx⟩) (h := ?_)
  first | refine R.loadA A40 (h := ?_) | refine R.loadN A40 (h := ?_) | refine R.loadP A40 (h := ?_)
  first | refine R.loadA A69 (h := ?_) | refine R.loadN A69 (h := ?_) | refine R.loadP A69 (h := ?_)
  refine R.callPF (es := [_, _]) (fun _ => find1_P x hxu k) (h := ?_)
  refine R.bin (run_lss _ _ _ _ _ _) (h := ?_)
  refine Reg.nil ⟨fun _ => ⟨mixedO, by rfl, by rfl⟩, ?_⟩
  refine LGo.ifd (ht := fun hc2 => ?_) (hf := fun hc2 => ?_)
  ·
   have hhp := hc0.1 hc2
   refine .region rfl ?_
   refine R.move (h := ?_)
   first | refine R.add (h := ?_) | refine R.addW (h := ?_)
   refine R.assign (h := ?_)
   refine .n0 ?_
   refine .inBlock ?_
   refine .inLoop ?_
   exact LGo.next _ (fun o h => by have := (hA o).1 h; omega) (by omega) (ih (h + 1, j) ⟨by dsimp only; omega, by dsimp only; omega, hjl⟩ (by dsimp only; omega)) (by repeat (first | exact trivial | refine ⟨rfl, ?_⟩)) ⟨rfl, trivial⟩
  ·
   have hhp : ¬ h < p := fun e => hc2 (hc0.2 e)
   refine .region rfl ?_
   refine R.move (h := ?_)
   refine R.assign (h := ?_)
   refine .n0 ?_
   refine .inBlock ?_
   refine .inLoop ?_
   exact LGo.next _ (fun o h => by have := (hA o).1 h; omega) (by omega) (ih (i, h) ⟨hi, by dsimp only; omega, by dsimp only; omega⟩ (by dsimp only; omega)) (by repeat (first | exact trivial | refine ⟨rfl, ?_⟩)) ⟨rfl, trivial⟩
 ·
  obtain rfl : i = p := by omega
  refine .exit rfl ?_
  refine .seq ?_
  refine .region rfl ?_
  refine R.move (h := ?_)
  refine R.move (h := ?_)
  refine R.move (h := ?_)
  refine R.bin (run_lss _ _ _ _ _ _) (h := ?_)
  refine R.move (h := ?_)
  refine R.move (h := ?_)
  refine R.move (h := ?_)
  refine R.move (h := ?_)
  refine R.index I23 (hj := fun hg => ⟨by (simp at hg; omega), (by simp at hg; exact en_k (by omega))⟩) (h := ?_)
  first | refine R.loadA A40 (h := ?_) | refine R.loadN A40 (h := ?_) | refine R.loadP A40 (h := ?_)
  first | refine R.loadA A69 (h := ?_) | refine R.loadN A69 (h := ?_) | refine R.loadP A69 (h := ?_)
  refine R.callPF (es := [_, _]) (fun _ => find1_P (l.getD i default) (seat_at hu i) k) (h := ?_)
  refine R.bin (run_eql _ _ _ _ _ _) (h := ?_)
  refine R.and (h := ?_)
  rw [show (decide ((i : Int) < (l.length : Int)) && decide (cmpK (l.getD i default).key k = 0)) = foundK k l from found_eq hp]
  refine R.assign (h := ?_)
  refine R.assign (h := ?_)
  refine Reg.nil ⟨fun _ => ⟨mixedO, by rfl, by rfl⟩, ?_⟩
  exact LGo.ret (ret_TT Tryd.results36 hA hmd)

theorem found_cases {k : K3} {l : List GtE} (hs : SortK l) : (foundK k l = false ∧ l.find? (fun x => decide (x.key = k)) = none) ∨ (foundK k l = true ∧ ∃ h : posK k l < l.length, l.find? (fun x => decide (x.key = k)) = some l[posK k l]) := by
  rw [posK_find hs]
  unfold foundK
  by_cases h : posK k l < l.length
  · rw [List.getElem?_eq_getElem h, dif_pos h]
    by_cases hk : l[posK k l].key = k
    · exact .inr ⟨by simp [cmpK_0, hk], h, by rw [if_pos hk]⟩
    · exact .inl ⟨by simp [cmpK_0, hk], by rw [if_neg hk]⟩
  · rw [List.getElem?_eq_none (by omega), dif_neg h]
    exact .inl ⟨rfl, rfl⟩

theorem find_P (s : GtS) (hs : SmS s) (a o b e : Int) (ha : U32 a) : PC Tryd.prog 15 [.agg (s.c.map LV.sv), .agg (tkC a o b e)] (.tup [.agg ((findS s (a, e, b)).1.c.map LV.sv), .i (findS s (a, e, b)).2]) := by
 refine ⟨LC.of_go Tryd.func15 (c := _) rfl (by kernel_rfl) (by rw [Tryd.ntmps15]; simp) rfl rfl (by simp [LO.lt, LV.lts, LV.lt, lts_sv]) (by simp) ?_⟩
 intro B hA hmd
 obtain ⟨g, e0⟩ : ∃ g, findS s (a, e, b) = g := ⟨_, rfl⟩
 have e1 := e0
 unfold findS at e1
 rw [e0]
 obtain ⟨hg0, he1, he2⟩ := id hs
 unfold U32 at ha
 refine .seq ?_
 refine .region rfl ?_
 refine R.box (h := ?_)
 refine R.box (h := ?_)
 refine R.alloc Z40 (h := ?_)
 refine R.assign (h := ?_)
 refine .n0 ?_
 refine .seq ?_
 refine .seq ?_
 refine .region rfl ?_
 first | refine R.loadA A25 (h := ?_) | refine R.loadN A25 (h := ?_) | refine R.loadP A25 (h := ?_)
 refine R.callP (es := [_]) (fun _ => checkGS_P s hs) (h := ?_)
 refine R.assign (h := ?_)
 refine .n0 ?_
 refine .seq ?_
 refine .region rfl ?_
 refine R.move (h := ?_)
 refine R.bin (run_neq _ _ _ _ _ _) (h := ?_)
 refine .n0 ?_
 refine LGo.ifb (ht := fun hc => ?_) (hf := fun hc => ?_)
 ·
  rw [if_pos (by simpa using hc)] at e1
  rw [← e1]
  refine .seq ?_
  refine .region rfl ?_
  refine R.build BF40 (is := []) (xs := []) (es := []) (h := ?_)
  refine R.move (h := ?_)
  refine R.storeA A40 (h := ?_)
  refine R.assign (h := ?_)
  refine .n0 ?_
  exact LGo.ret (ret_AT Tryd.results15 A40 hA hmd)
 ·
  have hc0 : checkGS s = 0 := by simpa using hc
  rw [if_neg (by simp [hc0])] at e1
  obtain ⟨gs, es⟩ := s
  have hso := (check_0.1 hc0).2.2.1
  have hfc := found_cases (k := (a, e, b)) hso
  dsimp only at he1 he2 e1
  refine .skip ?_
  refine .seq ?_
  refine .region rfl ?_
  first | refine R.field F29_0 (h := ?_) | refine R.fieldAt F29_0 (h := ?_)
  first | refine R.loadB O26 (h := ?_) | refine R.load1 O26 (h := ?_)
  refine R.convI Tryd.runUnderlying26 Tryd.runUnderlying27 (h := ?_)
  first | refine R.field F29_3 (h := ?_) | refine R.fieldAt F29_3 (h := ?_)
  first | refine R.loadB O27 (h := ?_) | refine R.load1 O27 (h := ?_)
  first | refine R.field F29_2 (h := ?_) | refine R.fieldAt F29_2 (h := ?_)
  first | refine R.loadB O27 (h := ?_) | refine R.load1 O27 (h := ?_)
  refine R.buildX BX69 (is := [0, 1, 2]) (xs := [_, _, _]) (es := [_, _, _]) (h := ?_)
  refine R.alloc Z69 (h := ?_)
  refine R.storeA A69 (h := ?_)
  refine .n0 ?_
  refine .seq ?_
  refine .region rfl ?_
  first | refine R.field F25_1 (h := ?_) | refine R.fieldAt F25_1 (h := ?_)
  first | refine R.loadB O23 (h := ?_) | refine R.load1 O23 (h := ?_)
  first | refine R.loadA A69 (h := ?_) | refine R.loadN A69 (h := ?_) | refine R.loadP A69 (h := ?_)
  refine R.callP (es := [_, _, _]) (fun _ => search_P es he1 he2 hso (a, e, b)) (h := ?_)
  refine R.move (h := ?_)
  refine R.extract (h := ?_)
  refine R.extract (h := ?_)
  refine R.assign (h := ?_)
  refine R.assign (h := ?_)
  refine .n0 ?_
  refine .seq ?_
  refine .seq ?_
  refine .region rfl ?_
  refine R.move (h := ?_)
  refine R.not (h := ?_)
  refine .n0 ?_
  refine LGo.ifb (ht := fun hc2 => ?_) (hf := fun hc2 => ?_)
  ·
   rcases hfc with ⟨_, h2⟩ | ⟨h1, _⟩
   rotate_left
   · rw [h1] at hc2; cases hc2
   rw [h2] at e1
   rw [← e1]
   refine .seq ?_
   refine .region rfl ?_
   refine R.build BF40 (is := []) (xs := []) (es := []) (h := ?_)
   refine R.storeA A40 (h := ?_)
   refine R.assign (h := ?_)
   refine .n0 ?_
   exact LGo.ret (ret_AT Tryd.results15 A40 hA hmd)
  ·
   rcases hfc with ⟨h1, _⟩ | ⟨_, hlt, h2⟩
   · rw [h1] at hc2; cases hc2
   rw [h2] at e1
   rw [← e1]
   have hx : (es.map GtE.c)[((posK (a, e, b) es : Nat) : Int).toNat]? = some es[posK (a, e, b) es].c := by simp [hlt]
   refine .skip ?_
   refine .seq ?_
   refine .region rfl ?_
   first | refine R.field F25_1 (h := ?_) | refine R.fieldAt F25_1 (h := ?_)
   first | refine R.loadB O23 (h := ?_) | refine R.load1 O23 (h := ?_)
   refine R.move (h := ?_)
   refine R.index I23 (hj := fun hg => ⟨by omega, hx⟩) (h := ?_)
   first | refine R.loadA A40 (h := ?_) | refine R.loadN A40 (h := ?_) | refine R.loadP A40 (h := ?_)
   refine R.storeA A40 (h := ?_)
   refine R.assign (h := ?_)
   refine .n0 ?_
   exact LGo.ret (ret_AT Tryd.results15 A40 hA hmd)

theorem count_P (s : GtS) (hs : SmS s) (q : Int) : PC Tryd.prog 17 [.agg (s.c.map LV.sv), .i q] (.tup [.i (countS s q).1, .i (countS s q).2]) := by
 refine ⟨LC.of_go Tryd.func17 (c := _) rfl (by kernel_rfl) (by rw [Tryd.ntmps17]; simp) rfl rfl (by simp [LO.lt, LV.lts, LV.lt, lts_sv]) (by simp) ?_⟩
 intro B hA hmd
 obtain ⟨g, e0⟩ : ∃ g, countS s q = g := ⟨_, rfl⟩
 have e1 := e0
 unfold countS at e1
 rw [e0]
 obtain ⟨⟨hg1, hg2⟩, he1, he2⟩ := id hs
 refine .seq ?_
 refine .region rfl ?_
 refine R.box (h := ?_)
 refine R.assign (h := ?_)
 refine R.assign (h := ?_)
 refine .n0 ?_
 refine .seq ?_
 refine .seq ?_
 refine .region rfl ?_
 first | refine R.loadA A25 (h := ?_) | refine R.loadN A25 (h := ?_) | refine R.loadP A25 (h := ?_)
 refine R.callP (es := [_]) (fun _ => checkGS_P s hs) (h := ?_)
 refine R.assign (h := ?_)
 refine .n0 ?_
 refine .seq ?_
 refine .region rfl ?_
 refine R.move (h := ?_)
 refine R.bin (run_neq _ _ _ _ _ _) (h := ?_)
 refine .n0 ?_
 refine LGo.ifb (ht := fun hc => ?_) (hf := fun hc => ?_)
 ·
  rw [if_pos (by simpa using hc)] at e1
  rw [← e1]
  refine .seq ?_
  refine .region rfl ?_
  refine R.move (h := ?_)
  refine R.assign (h := ?_)
  refine R.assign (h := ?_)
  refine .n0 ?_
  exact LGo.ret (ret_TT Tryd.results17 hA hmd)
 ·
  have hc0 : checkGS s = 0 := by simpa using hc
  rw [if_neg (by simp [hc0])] at e1
  refine .skip ?_
  refine .seq ?_
  refine .seq ?_
  refine .region rfl ?_
  refine R.move (h := ?_)
  refine R.bin (run_lss _ _ _ _ _ _) (h := ?_)
  refine R.move (h := ?_)
  refine R.move (h := ?_)
  first | refine R.field F25_0 (h := ?_) | refine R.fieldAt F25_0 (h := ?_)
  first | refine R.loadB O22 (h := ?_) | refine R.load1 O22 (h := ?_)
  first | refine R.len S22 (h := ?_) | refine R.lenRs S22 (h := ?_) | refine R.lenV (run_lenNil S22) (h := ?_)
  rw [List.length_map]
  refine R.bin (run_geq _ _ _ _ _ _) (h := ?_)
  refine R.or (h := ?_)
  refine .n0 ?_
  refine LGo.ifb (ht := fun hc2 => ?_) (hf := fun hc2 => ?_)
  ·
   rw [if_pos hc2] at e1
   rw [← e1]
   refine .seq ?_
   refine .region rfl ?_
   refine R.assign (h := ?_)
   refine R.assign (h := ?_)
   refine .n0 ?_
   exact LGo.ret (ret_TT Tryd.results17 hA hmd)
  ·
   rw [if_neg (by rw [hc2]; simp)] at e1
   refine .skip ?_
   refine .seq ?_
   refine .region rfl ?_
   refine R.assign (h := ?_)
   refine .n0 ?_
   refine .seq ?_
   refine .seq ?_
   refine .region rfl ?_
   first | refine R.field F25_1 (h := ?_) | refine R.fieldAt F25_1 (h := ?_)
   first | refine R.loadB O23 (h := ?_) | refine R.load1 O23 (h := ?_)
   first | refine R.len S23 (h := ?_) | refine R.lenRs S23 (h := ?_) | refine R.lenV (run_lenNil S23) (h := ?_)
   rw [List.length_map]
   refine R.move (h := ?_)
   refine .n0 ?_
   refine .block ?_
   refine .loop ?_
   refine LGo.loopG (σ := Nat × Int) (fun x => x.1 ≤ s.ents.length ∧ 0 ≤ x.2 ∧ x.2 ≤ x.1 ∧ ((s.ents.drop x.1).foldl (fun m y => if y.gate = q then m + 1 else m) x.2, (0 : Int)) = g) (fun x => [(27, (true, .i (x.1 : Nat))), (7, (true, .i x.2))]) (fun x => [(0, .box 25 (s.c.map LV.sv))]) (fun x => s.ents.length - x.1) (0, 0) [(1, _), (25, _), (26, _)] ⟨Nat.zero_le _, Int.le_refl _, Int.le_refl _, e1⟩ (by repeat (first | exact trivial | refine ⟨rfl, ?_⟩)) (by repeat (first | exact trivial | refine ⟨rfl, ?_⟩)) (by repeat (first | exact trivial | refine ⟨rfl, ?_⟩)) ?_
   rintro ⟨k, n⟩ ⟨hk, hn0, hn1, hq⟩ ih
   dsimp only at * 
   refine .seq ?_
   refine .region rfl ?_
   refine R.bin (run_lss _ _ _ _ _ _) (h := ?_)
   refine .n0 ?_
   refine .seq ?_
   refine LGo.ifd (ht := fun hc3 => ?_) (hf := fun hc3 => ?_)
   ·
    have hlt : k < s.ents.length := by omega
    have hx : (s.ents.map GtE.c)[((k : Nat) : Int).toNat]? = some s.ents[k].c := by simp [hlt]
    have hd : s.ents.drop k = s.ents[k] :: s.ents.drop (k + 1) := List.drop_eq_getElem_cons hlt
    rw [hd, List.foldl_cons] at hq
    generalize s.ents[k] = z at hx hq
    clear hd
    refine .skip ?_
    refine .seq ?_
    refine .block ?_
    refine .seq ?_
    refine .region rfl ?_
    refine R.index I23 (hj := fun hg => ⟨by omega, hx⟩) (h := ?_)
    first | refine R.loadA A40 (h := ?_) | refine R.loadN A40 (h := ?_) | refine R.loadP A40 (h := ?_)
    refine R.alloc Z40 (h := ?_)
    refine R.storeA A40 (h := ?_)
    refine .n0 ?_
    refine .seq ?_
    refine .region rfl ?_
    first | refine R.field F40_3 (h := ?_) | refine R.fieldAt F40_3 (h := ?_)
    first | refine R.loadB O3 (h := ?_) | refine R.load1 O3 (h := ?_)
    refine R.move (h := ?_)
    refine R.bin (run_eql _ _ _ _ _ _) (h := ?_)
    refine .n0 ?_
    refine LGo.ifd (ht := fun hc4 => ?_) (hf := fun hc4 => ?_)
    ·
     rw [if_pos hc4] at hq
     refine .region rfl ?_
     refine R.move (h := ?_)
     first | refine R.add (h := ?_) | refine R.addW (h := ?_)
     refine R.assign (h := ?_)
     refine .n0 ?_
     refine .inBlock ?_
     refine .region rfl ?_
     first | refine R.add (h := ?_) | refine R.addW (h := ?_)
     refine R.move (h := ?_)
     refine .n0 ?_
     refine .inLoop ?_
     exact LGo.next _ (fun o h => by have := (hA o).1 h; omega) (by omega) (ih (k + 1, n + 1) ⟨by dsimp only; omega, by dsimp only; omega, by dsimp only; omega, hq⟩ (by dsimp only; omega)) (by repeat (first | exact trivial | refine ⟨rfl, ?_⟩)) ⟨rfl, trivial⟩
    ·
     rw [if_neg hc4] at hq
     refine .skip ?_
     refine .inBlock ?_
     refine .region rfl ?_
     first | refine R.add (h := ?_) | refine R.addW (h := ?_)
     refine R.move (h := ?_)
     refine .n0 ?_
     refine .inLoop ?_
     exact LGo.next _ (fun o h => by have := (hA o).1 h; omega) (by omega) (ih (k + 1, n) ⟨by dsimp only; omega, by dsimp only; omega, by dsimp only; omega, hq⟩ (by dsimp only; omega)) (by repeat (first | exact trivial | refine ⟨rfl, ?_⟩)) ⟨rfl, trivial⟩
   ·
    rw [List.drop_eq_nil_of_le (show s.ents.length ≤ k by omega), List.foldl_nil] at hq
    rw [← hq]
    refine .exit rfl ?_
    refine .seq ?_
    refine .region rfl ?_
    refine R.move (h := ?_)
    refine R.assign (h := ?_)
    refine R.assign (h := ?_)
    refine .n0 ?_
    exact LGo.ret (ret_TT Tryd.results17 hA hmd)

end Go.Proofs.YtgcjjndhohellaaDoor
