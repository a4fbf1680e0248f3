/- The ground of the walks: a program logic over told states (no condition). -/
import Derived.Test.YtnamkhifmankmaaDoorKD
import Derived.Lib.SlParts
import Derived.Lib.SlFresh
import Derived.Lib.Strings
import Derived.Laws.MakeOwn
set_option linter.unusedSimpArgs false
set_option linter.unusedVariables false
/- Arrays: a slice of one's own array, copy into it, a slice as an array, an array that is written no more. -/
namespace Go.Proofs.YtnamkhifmankmaaDoor

theorem add_off (b off j : Nat) : (⟨b, off, none⟩ : Addr).add j = ⟨b, off + j, none⟩ := by unfold Addr.add; split <;> simp_all
/-- an array type of n elements of one cell -/
def ArrF (P : Program) (T n : Nat) : Prop := ∃ e, (∀ w, (underlying T).run P w = .ok (.array n e) w) ∧ ∀ w, (sizeOf e).run P w = .ok 1 w

theorem run_storeAtN (P : Program) (g : Nat) (t : TypeId) : ∀ (vs : List Value) (i : Nat) (pre mid post : List Value) (w : World), w.heap[g]? = some (.cells (pre ++ (mid ++ post)).toArray t (0, 0)) → pre.length = i → mid.length = vs.length → (∀ v ∈ vs, v.oneCell' = true) →
    ∃ w', (storeCells ⟨g, 0, none⟩ vs i).run P w = .ok () w' ∧ w'.heap[g]? = some (.cells (pre ++ (vs ++ post)).toArray t (0, 0)) ∧ (∀ k, k ≠ g → w'.heap[k]? = w.heap[k]?) ∧ w'.heap.size = w.heap.size ∧ w'.os = w.os ∧ w'.tape = w.tape ∧ w'.output = w.output
  | [], i, pre, mid, post, w, hg, _, hm, _ => by
    have : mid = [] := List.eq_nil_of_length_eq_zero (by simpa using hm)
    subst this
    exact ⟨w, by simp [storeCells], by simpa using hg, fun _ _ => rfl, rfl, rfl, rfl, rfl⟩
  | v :: vs, i, pre, mid, post, w, hg, hp, hm, h1 => by
    obtain ⟨m, mid', rfl⟩ : ∃ m mid', mid = m :: mid' := by
      cases mid with
      | nil => simp at hm
      | cons m mid' => exact ⟨m, mid', rfl⟩
    have hone := h1 v (by simp)
    have hcell : w.cell? ⟨g, i, none⟩ = some m := by
      subst hp
      simp [World.cell?, hg]
    have hfr : w.frozen? ⟨g, i, none⟩ = false := by simp [World.frozen?, hg]
    have hst := run_store P w ⟨g, i, none⟩ v .plain hone
    rw [hcell] at hst
    simp only [hfr, Bool.false_eq_true, if_false] at hst
    have hw' : (w.setCell ⟨g, i, none⟩ v).heap[g]? = some (.cells ((pre ++ [v]) ++ (mid' ++ post)).toArray t (0, 0)) := by
      simp only [World.setCell, Array.getElem?_modify, if_true, hg, Option.map_some]
      subst hp
      simp
    obtain ⟨w2, k1, k2, k3, k4, k5⟩ := run_storeAtN P g t vs (i + 1) (pre ++ [v]) mid' post (w.setCell ⟨g, i, none⟩ v) hw' (by simp [hp]) (by simpa using hm) (fun u hu => h1 u (by simp [hu]))
    refine ⟨w2, ?_, by rw [k2]; simp, fun k hk => ?_, ?_, ?_⟩
    · have hadd : (⟨g, 0, none⟩ : Addr).add i = ⟨g, i, none⟩ := by unfold Addr.add; split <;> simp_all
      simp only [storeCells, Sem.run_bind, hadd, hst, Result.andThen_ok, k1]
    · rw [k3 k hk]; simp only [World.setCell, Array.getElem?_modify, if_neg (Ne.symm hk)]
    · rw [k4]; simp [World.setCell]
    · obtain ⟨a, b, c⟩ := k5; exact ⟨by rw [a]; rfl, by rw [b]; rfl, by rw [c]; rfl⟩

theorem VSR.ones {pr : Nat → Nat} {w : World} {b : Nat} : ∀ {cs : List SV} {off : Nat}, VSR pr w b off 1 (cs.map fun c => [c]) → VSC pr w b off cs
  | [], off, _ => by simp [VSC]
  | c :: cs, off, h => by
    simp only [List.map_cons, VSR, VSC] at h ⊢
    exact ⟨h.2.1.1, VSR.ones h.2.2⟩

section
variable {P : Program} {r : Option Nat} {N : Nat} {D : List Nat} {B : Base} {all : Array Oper} {K : List (Nat × Ct) → St → Prop}
variable {i : Nat} {ops : List Oper} {tr : List (Nat × Ct)} {E : List (Nat × Ent)} {L : List (Nat × LO)} {n : Nat} {g : Bool} {gn : List (Nat × Ent)}
variable {d ty : Nat} {pos : String} {aft : Array Edge} {gd : Option (Nat × Bool)}

/-- the whole of an array of one's own, as a slice -/
theorem R.sliceArr {T m : Nat} (hF : ArrF P T m) {x : Operand} {gx : Bool} {o : Nat}
    (ho : all[i]? = some ⟨some d, .slice T x none none none, ty, pos, aft, gd⟩ := by rfl) (hg : GuardOk (en E) all gd g gn := by first | exact gN | exact gS rfl rfl)
    (hx : lvOf (en E) x = some (gx, .ptr o 0) := by rfl) (hgx : g = true → gx = true := by first | exact fun _ => rfl | exact id)
    (h : Reg P r N D B all (i + 1) ops ((i, Ct.p gn [x] [(gx, .ptr o 0)] (some d) (g, .sub o 0 m m) []) :: tr) (st ((d, (g, .sub o 0 m m)) :: E) L n) K) :
    Reg P r N D B all i (⟨some d, .slice T x none none none, ty, pos, aft, gd⟩ :: ops) tr (st E L n) K :=
  Reg.one rfl (fun h => by
    rw [entLV_true h hgx]
    refine OpC.of_pure1 (x := x) rfl (by simp) fun md n0 cx H ρ w hok hrd v1 => ?_
    obtain ⟨e, hu, hz⟩ := hF
    simp only [V] at v1
    obtain ⟨hA, b, hbk, he⟩ := v1
    refine ⟨.slice (some ⟨b, 0, none⟩) m m, ?_, ?_⟩
    · have hadd : (⟨b, 0, none⟩ : Addr).add 0 = ⟨b, 0, none⟩ := rfl
      simp [execOp, he, Instr.sliceAt, hu w, Instr.sureAddr, Instr.sliceBounds, hz w, hadd]
    · simp only [V]
      exact ⟨hA, b, hbk, rfl⟩) ho hg hx (by simp) h

/-- copy into the head of an array of one's own -/
theorem R.copySub {t tx e' len cap TB : Nat} (ht : SliceF P t 1) (hk : P.underlying tx = some (.slice e')) {x y : Operand} {o : Nat} {cs : List LV} {ys : List (List SV)}
    (ho : all[i]? = some ⟨some d, .call { callee := .builtin .copy, args := #[x, y], argTypes := #[t, tx] }, ty, pos, aft, none⟩ := by rfl)
    (hx : lvOf (en E) x = some (true, .sub o 0 len cap) := by rfl) (hy : lvOf (en E) y = some (true, .sv (.sl 1 ys)) := by rfl) (hb : hp L o = some (.box TB cs) := by rfl)
    (hl : len ≤ cs.length := by first | decide | (simp; done) | (simp; omega)) (m : Nat) (hm : min ys.length len = m) (cs' : List LV) (hcs : ((ys.take m).map (List.map LV.sv)).flatten ++ cs.drop m = cs')
    (hys : ∀ e ∈ ys, e.length = 1)
    (h : Reg P r N D B all (i + 1) ops ((i, ⟨needOf [x, y] [(true, .sub o 0 len cap), (true, .sv (.sl 1 ys))], some d, (true, .i m), [], [(o, .box TB cs)], [(o, .box TB cs')], []⟩) :: tr) (st ((d, (true, .i m)) :: E) ((o, .box TB cs') :: L) n) K) :
    Reg P r N D B all i (⟨some d, .call { callee := .builtin .copy, args := #[x, y], argTypes := #[t, tx] }, ty, pos, aft, none⟩ :: ops) tr (st E L n) K :=
  Reg.set (es := [(true, .sub o 0 len cap), (true, .sv (.sl 1 ys))]) (rd := []) (out := .i m) (x' := .box TB cs') ho gN ⟨_, _, rfl, hx, _, _, rfl, hy, rfl⟩ (by simp) hb (OpC.of_run (by simp) (by simp) fun md n0 cx H ρ w hok _ hHi _ hv => by
    have hop : (Oper.mk (some d) (.call { callee := .builtin .copy, args := #[x, y], argTypes := #[t, tx] }) ty pos aft none).op.operands.toList = [x, y] := rfl
    rw [hop] at hv
    obtain ⟨v1, v2⟩ := Vs.two hv
    simp only [entLV] at v1 v2
    have hob := hHi o (.box TB cs) (by simp)
    obtain ⟨hA, b', vs, k1, k2, k3⟩ := hok.ok o _ hob
    simp only [V] at v1
    obtain ⟨_, b, hbk, he⟩ := v1
    have hbk' := hbk
    rw [k1] at hbk
    simp only [bk, Option.some.injEq] at hbk
    subst hbk
    obtain ⟨et, htu, htz⟩ := ht
    have hml : m ≤ len := by omega
    have hvl : vs.length = cs.length := k3.length
    -- the cells that are copied
    have hsrc : ∃ us : List Value, us.length = m ∧ (Builtin.lenOf (ρ y)).run P w = .ok ys.length w ∧ (Builtin.firstCells 1 m (ρ y)).run P w = .ok us.toArray w ∧ Vs cx w ((ys.take m).map (List.map LV.sv)).flatten us ∧ ∀ u ∈ us, u.oneCell' = true := by
      simp only [V, VS] at v2
      rcases v2 with ⟨e | ⟨ad, cap', e, _⟩, rfl⟩ | ⟨b2, off, cap', e, _, _, hp', hr⟩
      · have hm0 : m = 0 := by simp at hm; omega
        subst hm0
        rw [e]
        exact ⟨[], rfl, rfl, run_firstCells_none w 1 0 0 0, by simp [Vs], by simp⟩
      · have hm0 : m = 0 := by simp at hm; omega
        subst hm0
        rw [e]
        exact ⟨[], rfl, rfl, run_firstCells_some w 1 0 ad 0 cap' [] (by simp) (by simp), by simp [Vs], by simp⟩
      · rw [e]
        obtain ⟨us, g1, g2, g3, g4⟩ := (VSR.take m hr).vals
        have hul : us.length = m := by rw [g1, List.length_take]; omega
        refine ⟨us, hul, rfl, run_firstCells_some w 1 m ⟨b2, off, none⟩ ys.length cap' us (by omega) (fun j u hu => ?_), g4 cx rfl, g3⟩
        rw [add_off]; exact g2 j u hu
    obtain ⟨us, hul, s1, s2, s3, s4⟩ := hsrc
    obtain ⟨w', q1, q2, q3, q4, q5, q6, q7⟩ := run_storeAtN P b' TB us 0 [] (vs.take m) (vs.drop m) w (by rw [List.nil_append, List.take_append_drop]; exact k2) rfl (by rw [List.length_take]; omega) s4
    refine ⟨.value (.int .i64 m), .int .i64 m, w', cx, ?_, .inl rfl, Tr.set hok hob hbk' ⟨q5, q6, q7⟩ q4 q3 (fun hext => ?_), V.mkval⟩
    · have hmin : Nat.min ys.length len = m := hm
      simp only [execOp, resolve, invoke, builtin, Sem.run_bind, Sem.run_pure, Result.andThen_ok, List.map_toArray, List.map_cons, List.map_nil, he]
      simp [Builtin.copy_, htu w, htz w, s1, hmin, s2, q1, goInt]
    · refine ⟨b', us ++ vs.drop m, k1, by simpa using q2, ?_⟩
      rw [← hcs]
      exact Vs.append (Vs.mono (CxLe.refl _) hext _ _ s3) (Vs.mono (CxLe.refl _) hext _ _ (by
        have hsp : cs = cs.take m ++ cs.drop m := (List.take_append_drop m cs).symm
        rw [hsp] at k3
        obtain ⟨a, b, e, h1, h2⟩ := Vs.split k3
        have hal : a.length = m := by rw [h1.length, List.length_take]; omega
        have e3 : vs.drop m = b := by rw [e, ← hal, List.drop_left]
        rw [e3]; exact h2))) h

/-- a slice as an array -/
theorem R.s2a {T m : Nat} (hF : ArrF P T m) {x : Operand} {gx : Bool} {xs : List (List SV)} {cs : List SV}
    (ho : all[i]? = some ⟨some d, .sliceToArrayPointer T x, ty, pos, aft, gd⟩ := by rfl) (hg : GuardOk (en E) all gd g gn := by first | exact gN | exact gS rfl rfl)
    (hx : lvOf (en E) x = some (gx, .sv (.sl 1 xs)) := by rfl) (hgx : g = true → gx = true := by first | exact fun _ => rfl | exact id)
    (hm : g = true → 0 < m ∧ xs.length = m ∧ xs = cs.map fun c => [c])
    (h : Reg P r N D B all (i + 1) ops ((i, Ct.p gn [x] [(gx, .sv (.sl 1 xs))] (some d) (g, .sv (.at_ cs)) []) :: tr) (st ((d, (g, .sv (.at_ cs))) :: E) L n) K) :
    Reg P r N D B all i (⟨some d, .sliceToArrayPointer T x, ty, pos, aft, gd⟩ :: ops) tr (st E L n) K :=
  Reg.one rfl (fun h => by
    rw [entLV_true h hgx]
    refine OpC.of_pure1 (x := x) rfl (by simp) fun md n0 cx H ρ w hok hrd v1 => ?_
    obtain ⟨e, hu, hz⟩ := hF
    obtain ⟨h0, hxl, hxc⟩ := hm h
    simp only [V, VS] at v1
    rcases v1 with ⟨_, rfl⟩ | ⟨b2, off, cap', e, _, _, hp', hr⟩
    · simp at hxl; omega
    · refine ⟨.pointer (some ⟨b2, off, none⟩), ?_, ?_⟩
      · simp [execOp, e, Instr.arrayAt, hu w, hxl]
      · simp only [V, VS]
        subst hxc
        simp only [List.length_map, Nat.mul_one] at hp'
        refine ⟨b2, off, rfl, hp', ?_⟩
        exact VSR.ones hr) ho hg hx (by simp) h
end

end Go.Proofs.YtnamkhifmankmaaDoor

/- Nil or not; a box that is written no more; contracts of the library's. -/
namespace Go.Proofs.YtnamkhifmankmaaDoor

theorem VSC.drop0 {pr : Nat → Nat} {w : World} {b : Nat} : ∀ {cs : List SV} {off : Nat}, VSC pr w b off cs → ∀ k, k ≤ cs.length → VSC pr w b (off + k) (cs.drop k)
  | cs, off, h, 0, _ => by simpa using h
  | [], off, h, k + 1, hk => by simp at hk
  | c :: cs, off, h, k + 1, hk => by
    simp only [VSC] at h
    have := VSC.drop0 h.2 k (by simpa using hk)
    rw [List.drop_succ_cons, show off + (k + 1) = off + 1 + k from by omega]
    exact this
theorem VSC.take0 {pr : Nat → Nat} {w : World} {b : Nat} : ∀ {cs : List SV} {off : Nat}, VSC pr w b off cs → ∀ k, VSC pr w b off (cs.take k)
  | cs, off, h, 0 => by simp [VSC]
  | [], off, h, k + 1 => by simp [VSC]
  | c :: cs, off, h, k + 1 => by
    simp only [VSC, List.take_succ_cons] at h ⊢
    exact ⟨h.1, VSC.take0 h.2 k⟩
theorem VSC.rows {pr : Nat → Nat} {w : World} {b : Nat} : ∀ {cs : List SV} {off : Nat}, VSC pr w b off cs → VSR pr w b off 1 (cs.map fun c => [c])
  | [], off, _ => by simp [VSR]
  | c :: cs, off, h => by
    simp only [List.map_cons, VSR, VSC] at h ⊢
    exact ⟨rfl, ⟨h.1, trivial⟩, VSC.rows h.2⟩

theorem run_eqNilD {P : Program} (w : World) (d : Nat) (t e : TypeId) (a : Option Addr) (l c : Nat) (h : P.underlying t = some (.slice e)) : (Op.equalIn (d + 1) t (.slice a l c) (.slice none 0 0)).run P w = .ok a.isNone w := by
  cases a <;> simp [Op.equalIn, run_underlying h]
theorem run_eqNilS {P : Program} (w : World) (t e : TypeId) (a : Option Addr) (l c : Nat) (h : P.underlying t = some (.slice e)) : (Op.equal t (.slice a l c) (.slice none 0 0)).run P w = .ok a.isNone w := run_eqNilD w 9999 t e a l c h
/-- slots that point into the box o hold its cells from now on -/
def frzBV (o : Nat) (ys : List SV) : LV → LV
  | .ptr q off => if q = o ∧ off ≤ ys.length then .sv (.at_ (ys.drop off)) else .ptr q off
  | .sub q off len cap => if q = o ∧ off = 0 ∧ len ≤ ys.length ∧ len ≤ cap ∧ cap ≤ 4294967296 then .sv (.sl 1 ((ys.take len).map fun c => [c])) else .sub q off len cap
  | e => e
def frzBE (o : Nat) (ys : List SV) : List (Nat × Ent) → List (Nat × Ent)
  | [] => []
  | (t, (g, e)) :: l => (t, (g, frzBV o ys e)) :: frzBE o ys l
theorem frzBE_lookup {o : Nat} {ys : List SV} : ∀ {E : List (Nat × Ent)} {t : Nat}, en (frzBE o ys E) t = (en E t).map fun e => (e.1, frzBV o ys e.2)
  | [], t => rfl
  | (k, (g, lv)) :: E, t => by
    simp only [en, frzBE, List.lookup_cons]
    cases (t == k) with
    | true => rfl
    | false => exact frzBE_lookup
theorem frzBE_get {o : Nat} {ys : List SV} {E : List (Nat × Ent)} {t : Nat} {e : Ent} (h : en (frzBE o ys E) t = some e) : ∃ e0, en E t = some e0 ∧ e0.1 = e.1 ∧ (e0.2 = e.2 ∨ (∃ off, off ≤ ys.length ∧ e0.2 = .ptr o off ∧ e.2 = .sv (.at_ (ys.drop off))) ∨
    ∃ len cap, len ≤ ys.length ∧ len ≤ cap ∧ cap ≤ maxLen ∧ e0.2 = .sub o 0 len cap ∧ e.2 = .sv (.sl 1 ((ys.take len).map fun c => [c]))) := by
  rw [frzBE_lookup] at h
  cases h0 : en E t with
  | none => rw [h0] at h; cases h
  | some e0 =>
    rw [h0] at h
    cases h
    refine ⟨e0, rfl, rfl, ?_⟩
    obtain ⟨g, lv⟩ := e0
    dsimp only
    cases lv with
    | ptr q off =>
      simp only [frzBV]
      split
      · rename_i hq; obtain ⟨rfl, hq⟩ := hq; exact .inr (.inl ⟨off, hq, rfl, rfl⟩)
      · exact .inl rfl
    | sub q off len cap =>
      simp only [frzBV]
      split
      · rename_i hq; obtain ⟨rfl, rfl, h2, h3, h4⟩ := hq; exact .inr (.inr ⟨len, cap, h2, h3, by unfold maxLen; omega, rfl, rfl⟩)
      · exact .inl rfl
    | _ => exact .inl rfl

section
variable {P : Program} {r : Option Nat} {N : Nat} {D : List Nat} {B : Base} {Ψ : Exit → Act → World → Prop} {todo : List Item}
variable {E : List (Nat × Ent)} {L : List (Nat × LO)} {n : Nat}
/-- a box that is written no more: its object goes, its cells stay -/
theorem LGo.frzBox (o : Nat) {T : Nat} {cs : List LV} (ys : List SV) (hb : hp L o = some (.box T cs) := by rfl) (hy : cs = ys.map LV.sv := by rfl) (h1 : (cs.all LV.one) = true := by rfl)
    (h : LGo P r N D B Ψ todo (st (frzBE o ys E) (delL o L) n)) : LGo P r N D B Ψ todo (st E L n) := by
  refine LGo.conv (fun cx a w hr => ?_) h
  obtain ⟨hAo, gb, vs, hloc, hgb, hvs⟩ := hr.heap.ok o _ hb
  have hones := Vs.ones h1 hvs
  -- the cells of this block are protected from now on
  let blk? := bk (cx.loc o)
  let pr' : Nat → Nat := fun b => if some b = bk (cx.loc o) then ys.length else cx.pr b
  let c2 : Cx := ⟨pr', cx.A, cx.loc, cx.inn⟩
  have hpr0 : ∀ b, some b = bk (cx.loc o) → cx.pr b = 0 ∧ b < w.heap.size ∧ (B.w.heap.size ≤ b ∨ B.md b) := fun b hbb => hr.heap.own o _ b hb (.inl hbb.symm)
  have hext : Ext cx.pr w pr' w := fun b off hbo => by
    refine ⟨?_, rfl⟩
    show off < (if some b = bk (cx.loc o) then _ else _)
    split
    · rename_i hh; have := (hpr0 b hh).1; omega
    · exact hbo
  have hle : CxLe cx c2 := fun q hq => ⟨hq, rfl⟩
  have hyl : vs.length = ys.length := by rw [hvs.length, hy]; simp
  have hbk : some gb = bk (cx.loc o) := by rw [hloc]; rfl
  have hpg : pr' gb = ys.length := by show (if some gb = bk (cx.loc o) then ys.length else _) = _; rw [if_pos hbk]
  have hcells : VSC pr' w gb 0 ys := by
    refine VSC.of_list hgb ys vs 0 hyl (fun j hj => by simp) hones (fun j c v hc hv => ?_)
    obtain ⟨v', hv', hV⟩ := hvs.get (i := j) (c := .sv c) (by rw [hy, List.getElem?_map, hc]; rfl)
    rw [hv] at hv'; cases hv'
    simp only [V] at hV
    exact VS.mono hext c v hV
  have hat : ∀ off, off ≤ ys.length → VSC pr' w gb off (ys.drop off) := fun off ho => by have := VSC.drop0 hcells off ho; simpa using this
  have del : ∀ q x, hp (delL o L) q = some x → q ≠ o ∧ hp L q = some x := by
    intro q x hx
    simp only [delL, hp] at hx
    rw [lookup_filter (fun k => !(k == o))] at hx
    split at hx
    · rename_i hh
      exact ⟨by simpa using hh, hx⟩
    · cases hx
  refine ⟨c2, ⟨⟨hr.grow.os, hr.grow.tape, hr.grow.output, hr.grow.size, hr.grow.same, fun b hbs hmd => ?_, hr.grow.ext.trans hext⟩, hr.le.trans hle, hr.hA, ⟨fun q x hx => ?_, fun q x b hx hbq => ?_, fun q q' x x' b hne hx hx' hbq => ?_, fun b hbp => ?_⟩, hr.size, fun t e he => ?_, hr.df, hr.dA⟩⟩
  · show (if some b = bk (cx.loc o) then _ else cx.pr b) = _
    split
    · rename_i hh
      rcases (hpr0 b hh).2.2 with h1 | h1
      · omega
      · exact absurd h1 hmd
    · exact hr.grow.prs b hbs hmd
  · obtain ⟨_, hx'⟩ := del q x hx
    obtain ⟨k1, k2⟩ := hr.heap.ok q x hx'
    exact ⟨k1, ObjOk.mono hle hext k1 (fun _ _ _ => rfl) rfl k2⟩
  · obtain ⟨hne, hx'⟩ := del q x hx
    obtain ⟨k1, k2, k3⟩ := hr.heap.own q x b hx' hbq
    refine ⟨?_, k2, k3⟩
    show (if some b = bk (cx.loc o) then _ else cx.pr b) = 0
    rw [if_neg (fun hh => hr.heap.inj q o x _ b hne hx' hb hbq (.inl hh.symm))]
    exact k1
  · exact hr.heap.inj q q' x x' b hne (del q x hx).2 (del q' x' hx').2 hbq
  · change 0 < (if some b = bk (cx.loc o) then _ else cx.pr b) at hbp
    split at hbp
    · rename_i hh; exact (hpr0 b hh).2.1
    · exact hr.heap.lim b hbp
  · obtain ⟨e0, k1, k2, k3⟩ := frzBE_get he
    have h0 := hr.env t e0 k1
    refine ⟨fun hg => ?_, fun hg => h0.2 (by rw [k2]; exact hg)⟩
    have hv := h0.1 (by rw [k2]; exact hg)
    rcases k3 with k3 | ⟨off, hof, k3, k4⟩ | ⟨len, cap, l1, l2, l3, k3, k4⟩
    · rw [k3] at hv; exact V.mono hle hext _ _ hv
    · rw [k3] at hv
      rw [k4]
      simp only [V, VS] at hv ⊢
      obtain ⟨_, b, hb', he'⟩ := hv
      rw [← hbk] at hb'
      cases hb'
      exact ⟨gb, off, he', by show _ ≤ pr' gb; rw [hpg, List.length_drop]; omega, hat off hof⟩
    · rw [k3] at hv
      rw [k4]
      simp only [V, VS] at hv ⊢
      obtain ⟨_, b, hb', he'⟩ := hv
      rw [← hbk] at hb'
      cases hb'
      refine .inr ⟨gb, 0, cap, by rw [he']; simp; omega, by simp; omega, l3, by show _ ≤ pr' gb; rw [hpg]; simp; omega, ?_⟩
      exact VSC.rows (VSC.take0 hcells len)

end

section
variable {P : Program} {r : Option Nat} {N : Nat} {D : List Nat} {B : Base} {all : Array Oper} {K : List (Nat × Ct) → St → Prop}
variable {i : Nat} {ops : List Oper} {tr : List (Nat × Ct)} {E : List (Nat × Ent)} {L : List (Nat × LO)} {n : Nat} {g : Bool} {gn : List (Nat × Ent)}
variable {d ty : Nat} {pos : String} {aft : Array Edge} {gd : Option (Nat × Bool)}

/-- is a slice nil: of the nil slice -/
theorem R.nilT {op : BinOp} (v : Bool) (hop : (op = .eql ∧ v = true) ∨ (op = .neq ∧ v = false) := by first | exact .inl ⟨rfl, rfl⟩ | exact .inr ⟨rfl, rfl⟩) {t e yt : Nat} (hT : P.underlying t = some (.slice e)) {x : Operand} {gx : Bool}
    (ho : all[i]? = some ⟨some d, .binOp op t x (.const (.slice none 0 0)) yt, ty, pos, aft, gd⟩ := by rfl) (hg : GuardOk (en E) all gd g gn := by first | exact gN | exact gS rfl rfl)
    (hx : lvOf (en E) x = some (gx, .v (.slice none 0 0)) := by rfl) (hgx : g = true → gx = true := by first | exact fun _ => rfl | exact id)
    (h : Reg P r N D B all (i + 1) ops ((i, Ct.p gn [x, .const (.slice none 0 0)] [(gx, .v (.slice none 0 0)), (true, .v (.slice none 0 0))] (some d) (g, .b v) []) :: tr) (st ((d, (g, .b v)) :: E) L n) K) :
    Reg P r N D B all i (⟨some d, .binOp op t x (.const (.slice none 0 0)) yt, ty, pos, aft, gd⟩ :: ops) tr (st E L n) K :=
  Reg.two rfl (fun h => by
    rw [entLV_true h hgx]
    refine OpC.of_pure2 (x := x) (y := .const (.slice none 0 0)) rfl (by simp) fun md n0 cx H ρ w hok hrd v1 v2 => ?_
    have v1' := v1.val
    have v2' := v2.val
    refine ⟨.bool v, ?_, V.mkval⟩
    rcases hop with ⟨rfl, rfl⟩ | ⟨rfl, rfl⟩ <;>
      simp [execOp, v1', v2', eqGuard, binOp, run_eqNilS w t e _ _ _ hT, Sem.run_bind]) ho hg hx rfl (by simp) h
/-- is a slice nil: of one with elements -/
theorem R.nilF {op : BinOp} (v : Bool) (hop : (op = .eql ∧ v = false) ∨ (op = .neq ∧ v = true) := by first | exact .inl ⟨rfl, rfl⟩ | exact .inr ⟨rfl, rfl⟩) {t e yt : Nat} (hT : P.underlying t = some (.slice e)) {x : Operand} {gx : Bool} {sz : Nat} {xs : List (List SV)} (hne : g = true → xs ≠ [])
    (ho : all[i]? = some ⟨some d, .binOp op t x (.const (.slice none 0 0)) yt, ty, pos, aft, gd⟩ := by rfl) (hg : GuardOk (en E) all gd g gn := by first | exact gN | exact gS rfl rfl)
    (hx : lvOf (en E) x = some (gx, .sv (.sl sz xs)) := by rfl) (hgx : g = true → gx = true := by first | exact fun _ => rfl | exact id)
    (h : Reg P r N D B all (i + 1) ops ((i, Ct.p gn [x, .const (.slice none 0 0)] [(gx, .sv (.sl sz xs)), (true, .v (.slice none 0 0))] (some d) (g, .b v) []) :: tr) (st ((d, (g, .b v)) :: E) L n) K) :
    Reg P r N D B all i (⟨some d, .binOp op t x (.const (.slice none 0 0)) yt, ty, pos, aft, gd⟩ :: ops) tr (st E L n) K :=
  Reg.two rfl (fun h => by
    rw [entLV_true h hgx]
    refine OpC.of_pure2 (x := x) (y := .const (.slice none 0 0)) rfl (by simp) fun md n0 cx H ρ w hok hrd v1 v2 => ?_
    have v2' := v2.val
    simp only [V, VS] at v1
    refine ⟨.bool v, ?_, V.mkval⟩
    rcases v1 with ⟨_, he⟩ | ⟨b, off, cap, he, _⟩
    · exact absurd he (hne h)
    · rcases hop with ⟨rfl, rfl⟩ | ⟨rfl, rfl⟩ <;>
        simp [execOp, he, v2', eqGuard, binOp, run_eqNilS w t e _ _ _ hT, Sem.run_bind]) ho hg hx rfl (by simp) h
end

end Go.Proofs.YtnamkhifmankmaaDoor

/- Contracts of the library's, as contracts of this logic. -/
namespace Go.Proofs.YtnamkhifmankmaaDoor
open Go.RowKit

theorem bytesC_flat : ∀ l : List UInt8, (bytesC l).flatten = l.map fun c => .val (.int .u8 c.toNat)
  | [] => rfl
  | a :: l => by have := bytesC_flat l; simp only [bytesC, List.map_cons, List.flatten_cons] at this ⊢; rw [this]; rfl
/-- a call that leaves all old blocks as they are -/
theorem PC.of_calls {P : Program} {f : FuncId} {lvs : List LV} {out : LV} (hE : Entr P f) (ha : LV.lts 0 lvs = true)
    (h : ∀ (cx : Cx) (w : World) (vs : List Value), (∀ b, 0 < cx.pr b → b < w.heap.size) → Amb cx.pr w → Vs cx w lvs vs →
      Calls P f vs.toArray w fun e w' => ∃ v pr', e = .returned v ∧ Below w.heap.size w w' ∧ (∀ b, b < w.heap.size → pr' b = cx.pr b) ∧ (∀ b, 0 < pr' b → b < w'.heap.size) ∧ V ⟨pr', cx.A, cx.loc, cx.inn⟩ w' out v) : PC P f lvs out := by
  refine ⟨hE, ha, rfl, by simp, by simp, fun cx w vs hA hok ham hv => (h cx w vs hok.lim ham hv).mono ?_⟩
  rintro e w' ⟨v, pr', rfl, hb, h1, h2, h3⟩
  have hext : Ext cx.pr w pr' w' := fun b off ho => by
    have hlt := hok.lim b (by omega)
    exact ⟨by rw [h1 b hlt]; exact ho, by simp only [World.cell?, hb.block b hlt]⟩
  refine ⟨v, ⟨pr', cx.A, cx.loc, cx.inn⟩, rfl, ⟨fun o ho => ⟨ho, rfl⟩, fun o => ?_, ⟨hb.os, hb.tape, hb.output, hb.size, fun b hlt _ => hb.block b hlt, fun b hlt _ => h1 b hlt, hext⟩,
    ⟨fun o x hx => by simp at hx, fun o x b hx => by simp at hx, fun o o' x x' b _ hx => by simp at hx, h2⟩, fun _ _ _ => rfl⟩, h3⟩
  constructor
  · intro h; exact .inl h
  · rintro (h | h)
    · exact h
    · omega

/-- .. and returns a plain value -/
theorem PC.of_val {P : Program} {f : FuncId} {lvs : List LV} {x : Value} (hE : Entr P f) (ha : LV.lts 0 lvs = true)
    (h : ∀ (cx : Cx) (w : World) (vs : List Value), (∀ b, 0 < cx.pr b → b < w.heap.size) → Amb cx.pr w → Vs cx w lvs vs → Calls P f vs.toArray w fun e w' => e = .returned x ∧ Below w.heap.size w w') : PC P f lvs (.v x) := by
  refine PC.of_calls hE ha fun cx w vs hl ham hv => (h cx w vs hl ham hv).mono ?_
  rintro e w' ⟨rfl, hb⟩
  exact ⟨_, cx.pr, rfl, hb, fun _ _ => rfl, fun b hb' => Nat.lt_of_lt_of_le (hl b hb') hb.size, V.mkval⟩

theorem VSR.cells1 {α : Type} {pr : Nat → Nat} {w : World} {b : Nat} (k : α → SV) : ∀ {l : List α} {off : Nat}, VSR pr w b off 1 (l.map fun s => [k s]) → ∀ (j : Nat) (s : α), l[j]? = some s → ∃ v, w.cell? ⟨b, off + j, none⟩ = some v ∧ VS pr w (k s) v
  | [], off, _, j, s, hj => by simp at hj
  | a :: l, off, h, 0, s, hj => by
    simp only [List.map_cons, VSR, VSC] at h
    simp at hj
    subst hj
    obtain ⟨v, h1, _, h2⟩ := h.2.1.1
    exact ⟨v, h1, h2⟩
  | a :: l, off, h, j + 1, s, hj => by
    simp only [List.map_cons, VSR] at h
    have := VSR.cells1 k h.2.2 j s (by simpa using hj)
    rwa [show off + 1 + j = off + (j + 1) from by omega] at this

/-- a slice of strings -/
def strsC (l : List (List UInt8)) : List (List SV) := l.map fun s => [.val (.string ⟨s.toArray⟩)]
/-- a slice of slices of bytes -/
def rowsC (l : List (List UInt8)) : List (List SV) := l.map fun s => [.sl 1 (bytesC s)]
theorem strsC_length (l : List (List UInt8)) : (strsC l).length = l.length := by simp [strsC]
theorem rowsC_length (l : List (List UInt8)) : (rowsC l).length = l.length := by simp [rowsC]

theorem PC.strJoin {P : Program} {f : FuncId} (hE : Entr P f)
    (hj0 : ∀ (a : Option Addr) (c : Nat) (sep : ByteArray) (w : World), Calls P f #[.slice a 0 c, .string sep] w fun e w' => e = .returned (.string ⟨#[]⟩) ∧ w' = w)
    (hj : ∀ (bk o c : Nat) (xs : List ByteArray) (sep : ByteArray) (w : World), (∀ (j : Nat) x, xs[j]? = some x → w.cell? ⟨bk, o + j, none⟩ = some (.string x)) → bk < w.heap.size → xs.length ≤ 140737488355328 → xs.length ≤ c → (Lib.join (xs.map (·.data.toList)) sep.data.toList).length ≤ 140737488355328 →
      Calls P f #[.slice (some ⟨bk, o, none⟩) xs.length c, .string sep] w fun e w' => e = .returned (.string ⟨(Lib.join (xs.map (·.data.toList)) sep.data.toList).toArray⟩) ∧ Below w.heap.size w w')
    (l : List (List UInt8)) (sep : List UInt8) (hn : l.length ≤ 140737488355328) (hlen : (Lib.join l sep).length ≤ 140737488355328) :
    PC P f [.sv (.sl 1 (strsC l)), .t sep] (.t (Lib.join l sep)) := by
  refine PC.of_val hE (by simp [LV.lts, LV.lt]) fun cx w vs hl _ hv => ?_
  obtain ⟨v1, v2, rfl, h1, h2⟩ : ∃ v1 v2, vs = [v1, v2] ∧ V cx w (.sv (.sl 1 (strsC l))) v1 ∧ v2 = .string ⟨sep.toArray⟩ := by
    simp only [Vs] at hv
    obtain ⟨v1, _, rfl, h1, v2, _, rfl, h2, rfl⟩ := hv
    exact ⟨v1, v2, rfl, h1, h2.val⟩
  subst h2
  simp only [V, VS] at h1
  have none_ : ∀ (a : Option Addr) (c : Nat), l = [] → Calls P f #[.slice a 0 c, .string ⟨sep.toArray⟩] w fun e w' => e = .returned (.string ⟨(Lib.join l sep).toArray⟩) ∧ Below w.heap.size w w' := by
    rintro a c rfl
    refine (hj0 a c _ w).mono ?_
    rintro e w' ⟨rfl, rfl⟩
    exact ⟨rfl, Below.refl _ _⟩
  rcases h1 with ⟨rfl | ⟨ad, cap, rfl, _⟩, he⟩ | ⟨b, off, cap, rfl, hle, _, hp, hr⟩
  · exact none_ _ _ (by simpa [strsC] using he)
  · exact none_ _ _ (by simpa [strsC] using he)
  · rw [strsC_length] at hle hp ⊢
    by_cases h0 : l = []
    · have : l.length = 0 := by rw [h0]; rfl
      rw [this]; exact none_ _ _ h0
    · have hpos : 0 < l.length := List.length_pos_iff.2 h0
      have e : (l.map fun s => (⟨s.toArray⟩ : ByteArray)).map (·.data.toList) = l := by simp [List.map_map, Function.comp_def]
      have := hj b off cap (l.map fun s => (⟨s.toArray⟩ : ByteArray)) ⟨sep.toArray⟩ w (fun j x hx => by
        rw [List.getElem?_map] at hx
        cases hs : l[j]? with
        | none => rw [hs] at hx; cases hx
        | some s =>
          rw [hs] at hx; cases hx
          obtain ⟨v, k1, k2⟩ := VSR.cells1 (fun s : List UInt8 => .val (.string ⟨s.toArray⟩)) hr j s hs
          simp only [VS] at k2
          rw [k1, k2]) (hl b (by omega)) (by simpa using hn) (by simpa using hle) (by rw [e]; simpa using hlen)
      rw [e] at this
      simpa using this

/-- a fresh slice of bytes is a closed one -/
theorem fresh_closed {w w' : World} {v : Value} {l : List UInt8} {cx : Cx} (hl : ∀ b, 0 < cx.pr b → b < w.heap.size) (hb : Below w.heap.size w w') (hf : Lib.FreshBytes w.heap.size w' v l) :
    ∃ pr', (∀ b, b < w.heap.size → pr' b = cx.pr b) ∧ (∀ b, 0 < pr' b → b < w'.heap.size) ∧ V ⟨pr', cx.A, cx.loc, cx.inn⟩ w' (.sv (.sl 1 (bytesC l))) v := by
  obtain ⟨g, cap, zs, rfl, hg, hlc, hcm, hz, hr, hbz, hc, _⟩ := hf
  refine ⟨fun b => if b = g then l.length else cx.pr b, fun b hlt => by simp only; rw [if_neg (by omega)], fun b hp => ?_, ?_⟩
  · simp only at hp
    split at hp
    · rename_i e; subst e
      have := hc 0 (by omega)
      rcases Nat.lt_or_ge b w'.heap.size with h | h
      · exact h
      · simp [World.cell?, Array.getElem?_eq_none h] at this
    · exact Nat.lt_of_lt_of_le (hl b hp) hb.size
  · simp only [V, VS]
    refine .inr ⟨g, 0, cap, by rw [bytesC_length], by rw [bytesC_length]; exact hlc, hcm, by rw [bytesC_length]; simp, ?_⟩
    have hzl : ∀ i, i < l.length → (zs.getD i 0) = ((l.getD i 0).toNat : Int) := fun i hi => by
      have hi' : i < zs.length := by omega
      have h1 := hr zs[i] (List.getElem_mem hi')
      have h2 : (Lib.bytesOf (zs.take l.length))[i]? = l[i]? := by rw [hbz]
      simp only [Lib.bytesOf, List.getElem?_map, List.getElem?_take, if_pos hi, List.getElem?_eq_getElem hi', List.getElem?_eq_getElem hi, Option.map_some, Option.some.injEq] at h2
      simp only [List.getD_eq_getElem?_getD, List.getElem?_eq_getElem hi', List.getElem?_eq_getElem hi, Option.getD_some]
      rw [← h2]
      exact (byt_toNat _ h1.1 h1.2).symm
    have gen : ∀ (m : List UInt8) (k : Nat), (∀ i, i < m.length → w'.cell? ⟨g, k + i, none⟩ = some (.int .u8 ((m.getD i 0).toNat : Int))) → VSR (fun b => if b = g then l.length else cx.pr b) w' g k 1 (bytesC m) := by
      intro m
      induction m with
      | nil => intro k _; simp [bytesC, VSR]
      | cons a m ih =>
        intro k hk
        simp only [bytesC, List.map_cons, VSR, VSC]
        refine ⟨rfl, ⟨⟨_, hk 0 (by simp), rfl, by simp [VS]⟩, trivial⟩, ih (k + 1) fun i hi => ?_⟩
        have := hk (i + 1) (by simp; omega)
        rw [show k + (i + 1) = k + 1 + i from by omega] at this
        rw [this]; rfl
    refine gen l 0 fun i hi => ?_
    rw [Nat.zero_add, hc i (by omega), hzl i hi]

theorem holds_bytes {pr : Nat → Nat} {w : World} {l : List UInt8} {v : Value} (h : VS pr w (.sl 1 (bytesC l)) v) : Lib.HoldsBytes w v l := by
  simp only [VS] at h
  rcases h with ⟨rfl | ⟨ad, cap, rfl, _⟩, he⟩ | ⟨b, off, cap, rfl, hle, _, hp, hr⟩
  · have : l = [] := by simpa [bytesC] using he
    subst this
    exact ⟨none, 0, rfl, fun _ => rfl, by simp⟩
  · have : l = [] := by simpa [bytesC] using he
    subst this
    exact ⟨some ad, cap, rfl, fun h => by simp at h, by simp⟩
  · refine ⟨some ⟨b, off, none⟩, cap, by rw [bytesC_length], fun h => by simp at h, fun a ha i x hx => ?_⟩
    cases ha
    obtain ⟨v, k1, k2⟩ := VSR.cells1 (fun c : UInt8 => .val (.int .u8 c.toNat)) hr i x hx
    simp only [VS] at k2
    rw [add_off, k1, k2]

/-- bytes.Join of two or more parts, with nothing between -/
theorem PC.bytesJoin {P : Program} {f : FuncId} (hE : Entr P f)
    (hj : ∀ (b o n c : Nat) (vs : List Value) (ls : List (List UInt8)) (sv : Value) (sep : List UInt8) (w : World), ls.length = n → 2 ≤ n → Lib.PartsAt w ⟨b, o, none⟩ vs ls → n ≤ c → Lib.HoldsBytes w sv sep → n ≤ 140737488355328 → Lib.lens ls + sep.length * (n - 1) ≤ 140737488355328 →
      Calls P f #[.slice (some ⟨b, o, none⟩) n c, sv] w fun e w' => ∃ v', e = .returned v' ∧ Lib.FreshBytes w.heap.size w' v' (Lib.join ls sep) ∧ Below w.heap.size w w')
    (l : List (List UInt8)) (h2 : 2 ≤ l.length) (hn : l.length ≤ 140737488355328) (hlen : Lib.lens l ≤ 140737488355328) :
    PC P f [.sv (.sl 1 (rowsC l)), .v (.slice none 0 0)] (.sv (.sl 1 (bytesC (Lib.join l [])))) := by
  refine PC.of_calls hE (by simp [LV.lts, LV.lt]) fun cx w vs hl _ hv => ?_
  obtain ⟨v1, v2, rfl, h1, hv2⟩ : ∃ v1 v2, vs = [v1, v2] ∧ V cx w (.sv (.sl 1 (rowsC l))) v1 ∧ v2 = .slice none 0 0 := by
    simp only [Vs] at hv
    obtain ⟨v1, _, rfl, h1, v2, _, rfl, h2, rfl⟩ := hv
    exact ⟨v1, v2, rfl, h1, h2.val⟩
  subst hv2
  simp only [V, VS] at h1
  rcases h1 with ⟨_, he⟩ | ⟨b, off, cap, rfl, hle, _, hp, hr⟩
  · have : l = [] := by simpa [rowsC] using he
    subst this; simp at h2
  · rw [rowsC_length] at hle hp ⊢
    have hcell := VSR.cells1 (fun s : List UInt8 => .sl 1 (bytesC s)) hr
    have hch : ∃ us : List Value, us.length = l.length ∧ ∀ (i : Nat) v, us[i]? = some v → ∃ s, l[i]? = some s ∧ w.cell? ⟨b, off + i, none⟩ = some v ∧ VS cx.pr w (.sl 1 (bytesC s)) v := by
      clear hp hle hr h2 hn hlen hv
      revert off
      induction l with
      | nil => intro off _; exact ⟨[], rfl, by simp⟩
      | cons s l ih =>
        intro off hcell
        obtain ⟨u, k1, k2⟩ := hcell 0 s rfl
        obtain ⟨us, k3, k4⟩ := ih (off + 1) (fun j t hj => by
          have := hcell (j + 1) t (by simpa using hj)
          rwa [show off + (j + 1) = off + 1 + j from by omega] at this)
        refine ⟨u :: us, by simp [k3], fun i v hi => ?_⟩
        cases i with
        | zero => simp at hi; subst hi; exact ⟨s, rfl, k1, k2⟩
        | succ i =>
          obtain ⟨t, g1, g2, g3⟩ := k4 i v (by simpa using hi)
          exact ⟨t, by simpa using g1, by rw [show off + (i + 1) = off + 1 + i from by omega]; exact g2, g3⟩
    obtain ⟨us, hul, hus⟩ := hch
    refine (hj b off l.length cap us l (.slice none 0 0) [] w rfl h2 ⟨hul, fun i v hi => ?_, fun i v t hi ht => ?_⟩ hle ⟨none, 0, rfl, fun _ => rfl, by simp⟩ hn (by simpa using hlen)).mono ?_
    · obtain ⟨s, _, k, _⟩ := hus i v hi
      rw [add_off]; exact k
    · obtain ⟨s, k1, _, k3⟩ := hus i v hi
      rw [ht] at k1; cases k1
      exact holds_bytes k3
    · rintro e w' ⟨v', rfl, hf, hb⟩
      obtain ⟨pr', h1, h2, h3⟩ := fresh_closed hl hb hf
      exact ⟨v', pr', rfl, hb, h1, h2, h3⟩

/-- bytes.Clone -/
theorem PC.bytesClone {P : Program} {f T : FuncId} (hE : Entr P f)
    (h0 : ∀ (n c : Nat) (w : World), Calls P f #[.slice none n c] w fun e w' => e = .returned (.slice none 0 0) ∧ w' = w)
    (h1 : ∀ (a : Addr) (n c : Nat) (xs : List Int) (w : World), xs.length = n → n ≤ 140737488355328 → (∀ i, i < n → w.cell? (a.add i) = some (.int .u8 (xs.getD i 0))) →
      Calls P f #[.slice (some a) n c] w fun e w' => ∃ v', e = .returned v' ∧ w'.ownsRow w.heap.size T 1 v' n (xs.map (Value.int .u8)) ∧ v' ≠ .slice none 0 0 ∧ Below w.heap.size w w')
    (l : List UInt8) (hn : l.length ≤ 140737488355328) : PC P f [.sv (.sl 1 (bytesC l))] (.sv (.sl 1 (bytesC l))) := by
  refine PC.of_calls hE (by simp [LV.lts, LV.lt]) fun cx w vs hl _ hv => ?_
  obtain ⟨v1, rfl, hv1⟩ : ∃ v1, vs = [v1] ∧ V cx w (.sv (.sl 1 (bytesC l))) v1 := by
    simp only [Vs] at hv
    obtain ⟨v1, _, rfl, h1, rfl⟩ := hv
    exact ⟨v1, rfl, h1⟩
  simp only [V] at hv1
  obtain ⟨p, cap, rfl, hp0, hp1⟩ := holds_bytes hv1
  cases p with
  | none =>
    obtain rfl := hp0 rfl
    refine (h0 _ _ w).mono ?_
    rintro e w' ⟨rfl, rfl⟩
    exact ⟨_, cx.pr, rfl, Below.refl _ _, fun _ _ => rfl, hl, by simp only [V, VS]; exact .inl ⟨.inl rfl, rfl⟩⟩
  | some a =>
    refine (h1 a l.length cap (l.map fun c => (c.toNat : Int)) w (by simp) hn (fun i hi => by
      rw [hp1 a rfl i l[i] (List.getElem?_eq_getElem hi)]
      simp [hi])).mono ?_
    rintro e w' ⟨v', rfl, hown, hne, hb⟩
    rcases hown.2 with ⟨e1, _⟩ | ⟨gb, cap', cur, e1, eb, e2, e3, e4, e5, e6⟩
    · exact absurd e1 hne
    · refine ⟨v', fun b => if b = gb then l.length else cx.pr b, rfl, hb, fun b hlt => by simp only; rw [if_neg (by omega)], fun b hp => ?_, ?_⟩
      · simp only at hp
        split at hp
        · rename_i e; subst e; exact (Array.getElem?_eq_some_iff.1 e2).1
        · exact Nat.lt_of_lt_of_le (hl b hp) hb.size
      · simp only [V, VS]
        refine .inr ⟨gb, 0, cap', by rw [e1, bytesC_length], by rw [bytesC_length]; exact e3, e4, by rw [bytesC_length]; simp, ?_⟩
        refine VSR.of_list e2 (bytesC l) ((l.map fun c => (c.toNat : Int)).map (Value.int .u8)) 0 (fun e he => ?_) (by simp [bytesC]) (fun j hj => ?_) (fun u hu => ?_) (fun j c v hc hv => ?_)
        · obtain ⟨c, _, rfl⟩ := List.mem_map.1 he; rfl
        · rw [Nat.zero_add, ← e6, List.getElem?_take, if_pos (by simpa using hj)]
          simp
        · obtain ⟨x, _, rfl⟩ := List.mem_map.1 hu; rfl
        · have : (bytesC l).flatten = l.map fun c => .val (.int .u8 c.toNat) := bytesC_flat l
          rw [this, List.getElem?_map] at hc
          rw [List.map_map, List.getElem?_map] at hv
          cases hx : l[j]? with
          | none => rw [hx] at hc; cases hc
          | some x =>
            rw [hx] at hc hv; cases hc; cases hv
            simp [VS]

end Go.Proofs.YtnamkhifmankmaaDoor

/- Small rules: entries told anew; bits. -/
namespace Go.Proofs.YtnamkhifmankmaaDoor

theorem or_low_uk {k : IntKind} (hk : k.signed = false) (a c : Int) (s : Nat) (ha : 0 ≤ a) (hc : 0 ≤ c) (hc' : c < 2 ^ s) (h : a * 2 ^ s + c < 2 ^ k.bits) : k.wrap ((BitVec.ofInt k.bits (a * 2 ^ s) ||| BitVec.ofInt k.bits c).toNat) = a * 2 ^ s + c := by
  obtain ⟨a, rfl⟩ := Int.eq_ofNat_of_zero_le ha
  obtain ⟨c, rfl⟩ := Int.eq_ofNat_of_zero_le hc
  have hp : (0 : Int) ≤ (a : Int) * 2 ^ s := Int.mul_nonneg ha (Int.le_of_lt (Int.pow_pos (by omega)))
  have hw : k.wrap ((a : Int) * 2 ^ s + c) = (a : Int) * 2 ^ s + c := wrap_u hk (by omega) h
  have key : (((BitVec.ofInt k.bits ((a : Int) * 2 ^ s) ||| BitVec.ofInt k.bits (c : Int)).toNat : Nat) : Int) = (a : Int) * 2 ^ s + c := by
    clear hw
    generalize k.bits = m at h ⊢
    have h' : a * 2 ^ s + c < 2 ^ m := by
      have e : ((a * 2 ^ s + c : Nat) : Int) < ((2 ^ m : Nat) : Int) := by push_cast; exact h
      exact Int.ofNat_lt.1 e
    have hc1 : c < 2 ^ s := by
      have e : (c : Int) < ((2 ^ s : Nat) : Int) := by push_cast; exact hc'
      exact Int.ofNat_lt.1 e
    rw [or_low m a c s hc1 h']
    push_cast; rfl
  rw [key, hw]

theorem Entr.of {P : Program} {f : FuncId} {fn : Func} {c : Code} (hf : P.funcs[f]? = some fn) (hb : fn.body = some c) (hname : (fn.name == "runtime.NumGoroutine") = false) : Entr P f := fun us w => by
  simp only [callFunc, Sem.run_bind, Sem.run_pure, Result.andThen_ok]
  have hn' : ¬ fn.name = "runtime.NumGoroutine" := by simpa using hname
  simp [program, Sem.run, hf, hn', hb]
/-- an object is put in the place of another -/
def setL (c : Nat) (x : LO) (L : List (Nat × LO)) : List (Nat × LO) := L.map fun p => if p.1 = c then (c, x) else p
theorem setL_keys (c : Nat) (x : LO) : ∀ L : List (Nat × LO), (setL c x L).map (·.1) = L.map (·.1)
  | [] => rfl
  | p :: L => by
    have := setL_keys c x L
    simp only [setL, List.map_cons] at this ⊢
    rw [this]
    by_cases h : p.1 = c <;> simp [h]
theorem setL_hp (c : Nat) (x : LO) : ∀ (L : List (Nat × LO)) (k : Nat), hp (setL c x L) k = if k = c then (hp L k).map (fun _ => x) else hp L k
  | [], k => by simp [setL, hp]
  | p :: L, k => by
    have ih := setL_hp c x L k
    obtain ⟨a, b⟩ := p
    simp only [setL, List.map_cons, hp] at ih ⊢
    by_cases h : a = c
    · subst h
      simp only [if_true, List.lookup_cons]
      by_cases hk : k = a
      · subst hk; simp
      · have : (k == a) = false := by simp [hk]
        rw [this]; simp only [if_neg hk] at ih ⊢; exact ih
    · rw [if_neg h]
      simp only [List.lookup_cons]
      by_cases hk : k = a
      · subst hk; simp [h]
      · have : (k == a) = false := by simp [hk]
        rw [this]; exact ih
theorem setL_mem {c : Nat} {x : LO} {L : List (Nat × LO)} {p : Nat × LO} (h : p ∈ setL c x L) : p.2 = x ∨ p ∈ L := by
  obtain ⟨q, hq, rfl⟩ := List.mem_map.1 h
  split
  · exact .inl rfl
  · exact .inr hq
theorem KeepL.ofSet {c : Nat} {x : LO} {L : List (Nat × LO)} {m : Nat} (hL : L.map (·.1) = List.range m) : KeepL (hp ((c, x) :: L)) (setL c x L) := by
  refine KeepL.of fun p hp' => ?_
  have hnd : ((setL c x L).map (·.1)).Nodup := by rw [setL_keys, hL]; exact List.nodup_range
  have h1 := lookup_of_nodup hnd hp'
  have h2 : hp (Go.Proofs.YtnamkhifmankmaaDoor.setL c x L) p.1 = some p.2 := h1
  rw [setL_hp] at h2
  simp only [hp, List.lookup_cons]
  by_cases hk : p.1 = c
  · rw [if_pos hk] at h2
    obtain ⟨_, _, h3⟩ := Option.map_eq_some_iff.1 h2
    simp [hk, h3]
  · rw [if_neg hk] at h2
    have : (p.1 == c) = false := by simp [hk]
    rw [this]; exact h2

section
variable {P : Program} {r : Option Nat} {N : Nat} {D : List Nat} {B : Base} {Ψ : Exit → Act → World → Prop} {todo : List Item}
variable {E : List (Nat × Ent)} {L : List (Nat × LO)} {n : Nat}
/-- an entry told anew -/
theorem LGo.eqB (t : Nat) {g b : Bool} (b' : Bool) (ht : en E t = some (g, .b b) := by rfl) (hb : b = b') (h : LGo P r N D B Ψ todo (st ((t, (g, .b b')) :: E) L n)) : LGo P r N D B Ψ todo (st E L n) := by
  subst hb
  exact LGo.re t _ ht (fun _ _ _ hv => hv) h
theorem LGo.eqL (t : Nat) {g : Bool} {l : LV} (l' : LV) (ht : en E t = some (g, l) := by rfl) (hb : l = l') (h : LGo P r N D B Ψ todo (st ((t, (g, l')) :: E) L n)) : LGo P r N D B Ψ todo (st E L n) := by
  subst hb
  exact LGo.re t _ ht (fun _ _ _ hv => hv) h
end

end Go.Proofs.YtnamkhifmankmaaDoor

/- A box whose slice is written no more. -/
namespace Go.Proofs.YtnamkhifmankmaaDoor
section
variable {P : Program} {r : Option Nat} {N : Nat} {D : List Nat} {B : Base} {Ψ : Exit → Act → World → Prop} {todo : List Item}
variable {E : List (Nat × Ent)} {L : List (Nat × LO)} {n : Nat}

theorem Vs.setK {cx cx' : Cx} {w w' : World} (hl : CxLe cx cx') (hx : Ext cx.pr w cx'.pr w') {s : SV} {v : Value} : ∀ {cs : List LV} {k : Nat} {vs : List Value}, k < cs.length → Vs cx w (cs.set k (.sv (.val v))) vs → VS cx'.pr w' s v → Vs cx' w' (cs.set k (.sv s)) vs
  | [], k, vs, hk, _, _ => by simp at hk
  | c :: cs, 0, vs, _, h, hv => by
    simp only [List.set_cons_zero, Vs] at h ⊢
    obtain ⟨x, rest, e, h1, h2⟩ := h
    refine ⟨x, rest, e, ?_, Vs.mono hl hx _ _ h2⟩
    have := h1.val
    subst this
    simpa only [V] using hv
  | c :: cs, k + 1, vs, hk, h, hv => by
    simp only [List.set_cons_succ, Vs] at h ⊢
    obtain ⟨x, rest, e, h1, h2⟩ := h
    exact ⟨x, rest, e, V.mono hl hx _ _ h1, Vs.setK hl hx (by simpa using hk) h2 hv⟩

theorem Rel.frzBx (o : Nat) {T k Te sz : Nat} {cs cs' : List LV} {ys : List (List SV)} (hb : hp L o = some (.bx T cs k Te sz ys) := by rfl) (hcs : cs.set k (.sv (.sl sz ys)) = cs' := by rfl)
    {cx : Cx} {a : Act} {w : World} (hr : Rel B N D (st E L n) cx a w) : ∃ cx', Rel B N D (st E ((o, .box T cs') :: delL o L) n) cx' a w := by
  subst hcs
  obtain ⟨hAo, b, vs, v, h1, h2, h3, h4, h5, h5', h5'', h6, us, h7, h8, h9⟩ := hr.heap.ok o _ hb
  let pr' : Nat → Nat := fun c => if some c = bk v then ys.length * sz else cx.pr c
  let c2 : Cx := ⟨pr', cx.A, cx.loc, cx.inn⟩
  have hin : ∀ c, some c = bk v → cx.has o (.bx T cs k Te sz ys) c := fun c hc => .inr ⟨rfl, by rw [h5, ← hc]⟩
  have hpr0 : ∀ c, some c = bk v → cx.pr c = 0 ∧ c < w.heap.size ∧ (B.w.heap.size ≤ c ∨ B.md c) := fun c hbb => hr.heap.own o _ c hb (hin c hbb)
  have hext : Ext cx.pr w pr' w := fun c off hbo => by
    refine ⟨?_, rfl⟩
    show off < (if some c = bk v then _ else _)
    split
    · rename_i hh; have := (hpr0 c hh).1; omega
    · exact hbo
  have hle : CxLe cx c2 := fun q hq => ⟨hq, rfl⟩
  have hsl : VS pr' w (.sl sz ys) v := by
    simp only [VS]
    rcases h7.2 with ⟨e1, e2⟩ | ⟨gb, cap, cur, e1, _, e2, e3, e4, e5, e6⟩
    · left
      exact ⟨.inl e1, List.eq_nil_of_length_eq_zero (by omega)⟩
    · right
      have hbk : some gb = bk v := by rw [e1]; rfl
      refine ⟨gb, 0, cap, e1, by omega, e4, ?_, ?_⟩
      · show 0 + ys.length * sz ≤ (if some gb = bk v then ys.length * sz else _)
        rw [if_pos hbk]; omega
      · refine VSR.of_list e2 ys us 0 h6 h7.1 (fun j hj => ?_) h9 (fun j c u hc hv => ?_)
        · rw [Nat.zero_add, ← e6, List.getElem?_take, if_pos (by rw [← h7.1]; exact hj)]
          simp
        · obtain ⟨v', hv', hV⟩ := h8.get (i := j) (c := .sv c) (by rw [List.getElem?_map, hc]; rfl)
          rw [hv] at hv'; cases hv'
          simp only [V] at hV
          exact VS.mono hext c u hV
  have get : ∀ q x, hp ((o, LO.box T (cs.set k (.sv (.sl sz ys)))) :: delL o L) q = some x → (q = o ∧ x = .box T (cs.set k (.sv (.sl sz ys)))) ∨ (q ≠ o ∧ hp L q = some x) := by
    intro q x hx
    rw [hp_tell] at hx
    unfold tellH at hx
    split at hx
    · rename_i hh; cases hx; exact .inl ⟨hh, rfl⟩
    · rename_i hh; exact .inr ⟨hh, hx⟩
  have hhas : ∀ c, c2.has o (.box T (cs.set k (.sv (.sl sz ys)))) c → cx.has o (.bx T cs k Te sz ys) c ∧ some c ≠ bk v := by
    intro c hc
    rw [Cx.has_of rfl] at hc
    change bk (cx.loc o) = some c at hc
    refine ⟨.inl hc, fun e => ?_⟩
    rw [h1] at hc
    simp only [bk, Option.some.injEq] at hc
    subst hc
    exact h5' e.symm
  refine ⟨c2, ⟨⟨hr.grow.os, hr.grow.tape, hr.grow.output, hr.grow.size, hr.grow.same, fun c hbs hmd => ?_, hr.grow.ext.trans hext⟩, hr.le.trans hle, hr.hA, ⟨fun q x hx => ?_, fun q x c hx hbq => ?_, fun q q' x x' c hne hx hx' hbq => ?_, fun c hbp => ?_⟩, hr.size, fun t e he => ?_, hr.df, hr.dA⟩⟩
  · show (if some c = bk v then _ else cx.pr c) = _
    split
    · rename_i hh
      rcases (hpr0 c hh).2.2 with k1 | k1
      · omega
      · exact absurd k1 hmd
    · exact hr.grow.prs c hbs hmd
  · rcases get q x hx with ⟨rfl, rfl⟩ | ⟨_, hx'⟩
    · exact ⟨hAo, b, vs, h1, h2, Vs.setK hle hext h4 h3 hsl⟩
    · obtain ⟨k1, k2⟩ := hr.heap.ok q x hx'
      exact ⟨k1, ObjOk.mono hle hext k1 (fun _ _ _ => rfl) rfl k2⟩
  · show (if some c = bk v then _ else cx.pr c) = 0 ∧ _
    rcases get q x hx with ⟨rfl, rfl⟩ | ⟨hne, hx'⟩
    · obtain ⟨g1, g2⟩ := hhas c hbq
      rw [if_neg g2]
      exact hr.heap.own _ _ c hb g1
    · obtain ⟨k1, k2, k3⟩ := hr.heap.own q x c hx' hbq
      rw [if_neg (fun hh => hr.heap.inj q o x _ c hne hx' hb hbq (hin c hh))]
      exact ⟨k1, k2, k3⟩
  · rcases get q x hx with ⟨rfl, rfl⟩ | ⟨hne1, hx1⟩
    · rcases get q' x' hx' with ⟨rfl, rfl⟩ | ⟨hne2, hx2⟩
      · exact absurd rfl hne
      · exact hr.heap.inj _ q' _ x' c hne hb hx2 (hhas c hbq).1
    · rcases get q' x' hx' with ⟨rfl, rfl⟩ | ⟨hne2, hx2⟩
      · intro hh
        exact hr.heap.inj q _ x _ c hne hx1 hb hbq (hhas c hh).1
      · exact hr.heap.inj q q' x x' c hne hx1 hx2 hbq
  · change 0 < (if some c = bk v then _ else cx.pr c) at hbp
    split at hbp
    · rename_i hh; exact (hpr0 c hh).2.1
    · exact hr.heap.lim c hbp
  · exact (hr.env t e he).mono hle hext
theorem LGo.frzBx (o : Nat) {T k Te sz : Nat} {cs cs' : List LV} {ys : List (List SV)} (hb : hp L o = some (.bx T cs k Te sz ys) := by rfl) (hcs : cs.set k (.sv (.sl sz ys)) = cs' := by rfl)
    (h : LGo P r N D B Ψ todo (st E ((o, .box T cs') :: delL o L) n)) : LGo P r N D B Ψ todo (st E L n) :=
  LGo.conv (fun cx a w hr => Rel.frzBx o hb hcs hr) h
theorem RelTo.frzBx (o : Nat) {T k Te sz : Nat} {cs cs' : List LV} {ys : List (List SV)} {Q : Act → World → Prop} (hb : hp L o = some (.bx T cs k Te sz ys) := by rfl) (hcs : cs.set k (.sv (.sl sz ys)) = cs' := by rfl)
    (h : ∀ cx a w, Rel B N D (st E ((o, .box T cs') :: delL o L) n) cx a w → Q a w) : ∀ cx a w, Rel B N D (st E L n) cx a w → Q a w := fun cx a w hr => by
  obtain ⟨cx', hr'⟩ := Rel.frzBx o hb hcs hr
  exact h cx' a w hr'
end
theorem rowsC_snoc (l : List (List UInt8)) (s : List UInt8) : rowsC l ++ [[.sl 1 (bytesC s)]] = rowsC (l ++ [s]) := by simp [rowsC]
theorem strsC_snoc (l : List (List UInt8)) (s : List UInt8) : strsC l ++ [[.val (.string ⟨s.toArray⟩)]] = strsC (l ++ [s]) := by simp [strsC]
theorem rowsC_app (l m : List (List UInt8)) : rowsC (l ++ m) = rowsC l ++ rowsC m := by simp [rowsC]
theorem rowsC_one (l : List (List UInt8)) : ∀ e ∈ rowsC l, e.length = 1 := by simp [rowsC]
theorem strsC_one (l : List (List UInt8)) : ∀ e ∈ strsC l, e.length = 1 := by simp [strsC]

end Go.Proofs.YtnamkhifmankmaaDoor

/- Arrays as slices, min and max, slices made, constant bytes. -/
namespace Go.Proofs.YtnamkhifmankmaaDoor

section
variable {P : Program} {r : Option Nat} {N : Nat} {D : List Nat} {B : Base} {all : Array Oper} {K : List (Nat × Ct) → St → Prop}
variable {i : Nat} {ops : List Oper} {tr : List (Nat × Ct)} {E : List (Nat × Ent)} {L : List (Nat × LO)} {n : Nat} {g : Bool} {gn : List (Nat × Ent)}
variable {d ty : Nat} {pos : String} {aft : Array Edge} {gd : Option (Nat × Bool)}

/-- the whole of a closed array, as a slice -/
theorem R.sliceAt {T m : Nat} (hF : ArrF P T m) {x : Operand} {gx : Bool} {cs : List SV}
    (ho : all[i]? = some ⟨some d, .slice T x none none none, ty, pos, aft, gd⟩ := by rfl) (hg : GuardOk (en E) all gd g gn := by first | exact gN | exact gS rfl rfl)
    (hx : lvOf (en E) x = some (gx, .sv (.at_ cs)) := by rfl) (hgx : g = true → gx = true := by first | exact fun _ => rfl | exact id) (hm : cs.length = m := by rfl) (hml : m ≤ 4294967296 := by decide)
    (h : Reg P r N D B all (i + 1) ops ((i, Ct.p gn [x] [(gx, .sv (.at_ cs))] (some d) (g, .sv (.sl 1 (cs.map fun c => [c]))) []) :: tr) (st ((d, (g, .sv (.sl 1 (cs.map fun c => [c])))) :: E) L n) K) :
    Reg P r N D B all i (⟨some d, .slice T x none none none, ty, pos, aft, gd⟩ :: ops) tr (st E L n) K :=
  Reg.one rfl (fun h => by
    rw [entLV_true h hgx]
    refine OpC.of_pure1 (x := x) rfl (by simp) fun md n0 cx H ρ w hok hrd v1 => ?_
    obtain ⟨e, hu, hz⟩ := hF
    simp only [V, VS] at v1
    obtain ⟨b, off, he, hle, hc⟩ := v1
    refine ⟨.slice (some ⟨b, off, none⟩) m m, ?_, ?_⟩
    · have hadd : (⟨b, off, none⟩ : Addr).add 0 = ⟨b, off, none⟩ := rfl
      simp [execOp, he, Instr.sliceAt, hu w, Instr.sureAddr, Instr.sliceBounds, hz w, hadd]
    · simp only [V, VS]
      exact .inr ⟨b, off, m, by simp [hm], by simp [hm], by unfold maxLen; omega, by simp; omega, VSC.rows hc⟩) ho hg hx (by simp) h

theorem run_max2 (P : Program) (k : IntKind) (a b : Int) (w : World) (tys : Array TypeId) (t : TypeId) : (Builtin.max_ tys t #[.int k a, .int k b]).run P w = .ok (.int k (max a b)) w := by
  simp only [Builtin.max_, List.foldlM, Builtin.max2]
  by_cases h : b > a
  · simp [h, show max a b = b by omega]
  · simp [h, show max a b = a by omega]
theorem run_min2 (P : Program) (k : IntKind) (a b : Int) (w : World) (tys : Array TypeId) (t : TypeId) : (Builtin.min_ tys t #[.int k a, .int k b]).run P w = .ok (.int k (min a b)) w := by
  simp only [Builtin.min_, List.foldlM, Builtin.min2]
  by_cases h : b < a
  · simp [h, show min a b = b by omega]
  · simp [h, show min a b = a by omega]
theorem R.maxI {x y : Operand} {gx gy : Bool} {k : IntKind} {a b : Int} {tys : Array TypeId}
    (ho : all[i]? = some ⟨some d, .call { callee := .builtin .max, args := #[x, y], argTypes := tys }, ty, pos, aft, gd⟩ := by rfl) (hg : GuardOk (en E) all gd g gn := by first | exact gN | exact gS rfl rfl)
    (hx : lvOf (en E) x = some (gx, .v (.int k a)) := by rfl) (hy : lvOf (en E) y = some (gy, .v (.int k b)) := by rfl) (hgx : g = true → gx = true := by first | exact fun _ => rfl | exact id) (hgy : g = true → gy = true := by first | exact fun _ => rfl | exact id)
    (h : Reg P r N D B all (i + 1) ops ((i, Ct.p gn [x, y] [(gx, .v (.int k a)), (gy, .v (.int k b))] (some d) (g, .v (.int k (Max.max a b))) []) :: tr) (st ((d, (g, .v (.int k (Max.max a b)))) :: E) L n) K) :
    Reg P r N D B all i (⟨some d, .call { callee := .builtin .max, args := #[x, y], argTypes := tys }, ty, pos, aft, gd⟩ :: ops) tr (st E L n) K :=
  Reg.two rfl (fun h => by
    rw [entLV_true h hgx, entLV_true h hgy]
    refine OpC.of_pure2 (x := x) (y := y) rfl (by simp) fun md n0 cx H ρ w _ _ v1 v2 => ?_
    refine ⟨.int k (Max.max a b), ?_, V.mkval⟩
    simp [execOp, resolve, invoke, builtin, v1.val, v2.val, run_max2]) ho hg hx hy (by simp) h
theorem R.minI {x y : Operand} {gx gy : Bool} {k : IntKind} {a b : Int} {tys : Array TypeId}
    (ho : all[i]? = some ⟨some d, .call { callee := .builtin .min, args := #[x, y], argTypes := tys }, ty, pos, aft, gd⟩ := by rfl) (hg : GuardOk (en E) all gd g gn := by first | exact gN | exact gS rfl rfl)
    (hx : lvOf (en E) x = some (gx, .v (.int k a)) := by rfl) (hy : lvOf (en E) y = some (gy, .v (.int k b)) := by rfl) (hgx : g = true → gx = true := by first | exact fun _ => rfl | exact id) (hgy : g = true → gy = true := by first | exact fun _ => rfl | exact id)
    (h : Reg P r N D B all (i + 1) ops ((i, Ct.p gn [x, y] [(gx, .v (.int k a)), (gy, .v (.int k b))] (some d) (g, .v (.int k (Min.min a b))) []) :: tr) (st ((d, (g, .v (.int k (Min.min a b)))) :: E) L n) K) :
    Reg P r N D B all i (⟨some d, .call { callee := .builtin .min, args := #[x, y], argTypes := tys }, ty, pos, aft, gd⟩ :: ops) tr (st E L n) K :=
  Reg.two rfl (fun h => by
    rw [entLV_true h hgx, entLV_true h hgy]
    refine OpC.of_pure2 (x := x) (y := y) rfl (by simp) fun md n0 cx H ρ w _ _ v1 v2 => ?_
    refine ⟨.int k (Min.min a b), ?_, V.mkval⟩
    simp [execOp, resolve, invoke, builtin, v1.val, v2.val, run_min2]) ho hg hx hy (by simp) h

theorem Tr.newClosed {md : Nat → Prop} {n0 : Nat} {cx : Cx} {H : Hp} {w : World} (hok : HOk md n0 cx H w) (ob : Obj) (k : Nat) :
    Tr cx w (hp []) ⟨fun b => if b = w.heap.size then k else cx.pr b, cx.A, cx.loc, cx.inn⟩ (w.alloc ob) (hp []) (· ∈ ([] : List Nat)) := by
  have hold : ∀ b, b < w.heap.size → (w.alloc ob).heap[b]? = w.heap[b]? := fun b hb => heap_alloc_old w ob hb
  have hsz : (w.alloc ob).heap.size = w.heap.size + 1 := by simp
  have hprold : ∀ b, b < w.heap.size → (if b = w.heap.size then k else cx.pr b) = cx.pr b := fun b hb => by rw [if_neg (by omega)]
  refine ⟨fun o ho => ⟨ho, rfl⟩, fun o => by simp, ⟨rfl, rfl, rfl, by omega, fun b hb _ => hold b hb, fun b hb _ => hprold b hb, fun b off hb => ?_⟩,
      ⟨fun o x hx => by simp at hx, fun o x b hx => by simp at hx, fun o o' x x' b _ hx => by simp at hx, fun b hb => ?_⟩, fun _ _ _ => rfl⟩
  · have hbs := hok.lim b (by omega)
    refine ⟨by show off < (if b = w.heap.size then k else cx.pr b); rw [hprold b hbs]; exact hb, ?_⟩
    simp only [World.cell?, hold b hbs]
  · have hb' : 0 < (if b = w.heap.size then k else cx.pr b) := hb
    split at hb'
    · omega
    · have := hok.lim b hb'; omega
theorem ic_flat (k : IntKind) : ∀ l : List Int, (ic k l).flatten = l.map fun x => .val (.int k x)
  | [] => rfl
  | a :: l => by have := ic_flat k l; simp only [ic, List.map_cons, List.flatten_cons] at this ⊢; rw [this]; rfl
/-- a slice of zeroes, never written -/
theorem R.makeF {t e m : Nat} {k : IntKind} (hF : AppF P t e 1) (hz : ((P.info? e).bind fun i => i.zero) = some (.int k 0)) {x y : Operand} {k1 k2 : IntKind}
    (ho : all[i]? = some ⟨some d, .makeSlice t x y, ty, pos, aft, none⟩ := by rfl)
    (hx : lvOf (en E) x = some (true, .v (.int k1 (m : Nat))) := by rfl) (hy : lvOf (en E) y = some (true, .v (.int k2 (m : Nat))) := by rfl) (hm : m ≤ 16777216 := by decide)
    (h : Reg P r N D B all (i + 1) ops ((i, Ct.p [] [x, y] [(true, .v (.int k1 (m : Nat))), (true, .v (.int k2 (m : Nat)))] (some d) (true, .sv (.sl 1 (ic k (List.replicate m 0)))) []) :: tr) (st ((d, (true, .sv (.sl 1 (ic k (List.replicate m 0))))) :: E) L n) K) :
    Reg P r N D B all i (⟨some d, .makeSlice t x y, ty, pos, aft, none⟩ :: ops) tr (st E L n) K :=
  Reg.two (e := (true, .v (.int k1 (m : Nat)))) (f := (true, .v (.int k2 (m : Nat)))) rfl (fun _ => OpC.of_run (by simp) (by simp) fun md n0 cx H ρ w hok _ _ _ hv => by
    have hop : (Oper.mk (some d) (.makeSlice t x y) ty pos aft none).op.operands.toList = [x, y] := rfl
    rw [hop] at hv
    obtain ⟨v1, v2⟩ := Vs.two hv
    simp only [entLV] at v1 v2
    obtain ⟨hu, inf, z, hi, hzz, hs, hbb, _⟩ := hF.get
    have hz0 : inf.zero = some (.int k 0) := by rw [hi] at hz; simpa using hz
    have hrun := run_make w t e inf z hu hi hzz k1 k2 m m (by omega) (Int.le_refl _) (by have := Nat.mul_le_mul hbb hm; omega) (by omega)
    rw [hz0] at hzz
    cases hzz
    have hcells : madeCells (Value.int k 0).cells ((m : Int).toNat * inf.size) = (List.replicate m (Value.int k 0)).toArray := by
      rw [hs, Int.toNat_natCast, Nat.mul_one]
      apply Array.ext
      · simp [size_madeCells]
      · intro j h1 h2
        simp [madeCells, Value.cells, Nat.mod_one]
    rw [hcells] at hrun
    refine ⟨.value (.slice (some ⟨w.heap.size, 0, none⟩) m m), _, _, _, ?_, .inl rfl, Tr.newClosed hok (.cells (List.replicate m (Value.int k 0)).toArray e) m, ?_⟩
    · simp only [execOp, v1.val, v2.val, Sem.run_bind, hrun]
      simp
    · simp only [V, VS]
      refine .inr ⟨w.heap.size, 0, m, by simp [ic], by simp [ic], by unfold maxLen; omega, by simp [ic], ?_⟩
      refine VSR.of_list (heap_alloc_new w _) _ (List.replicate m (Value.int k 0)) 0 (fun e he => ?_) (by simp [ic]) (fun j hj => by simp [List.getElem?_replicate, Array.getElem?_replicate]) (fun u hu => ?_) (fun j c v hc hv => ?_)
      · obtain ⟨x, _, rfl⟩ := List.mem_map.1 he; rfl
      · obtain ⟨_, rfl⟩ := List.mem_replicate.1 hu; rfl
      · rw [ic_flat, List.getElem?_map] at hc
        have hj : j < m := by have := (List.getElem?_eq_some_iff.1 hv).1; simpa using this
        simp [hj] at hc hv
        subst hc hv
        simp [VS]) ho gN hx hy (by simp) h

/-- constant bytes: a slice of one's own, marked, is written no more -/
theorem R.markB {t e T o : Nat} (ht : P.underlying t = some (.slice e)) (he : P.underlying e = some (.int .u8)) {x : Operand} {ys : List (List SV)}
    (ho : all[i]? = some ⟨some d, .convert t t x, ty, pos, aft, none⟩ := by rfl)
    (hx : lvOf (en E) x = some (true, .ref o) := by rfl) (hb : hp L o = some (.rs T 1 ys) := by rfl) (hne : ys ≠ [] := by simp)
    (h : Reg P r N D B all (i + 1) ops ((i, ⟨needOf [x] [(true, .ref o)], some d, (true, .sv (.sl 1 ys)), [], [(o, .rs T 1 ys)], [], []⟩) :: tr) (st ((d, (true, .sv (.sl 1 ys))) :: E) (delL o L) n) K) :
    Reg P r N D B all i (⟨some d, .convert t t x, ty, pos, aft, none⟩ :: ops) tr (st E L n) K := by
  refine Reg.gen (m := 0) (es := [(true, .ref o)]) (rd := []) (Hi := [(o, .rs T 1 ys)]) (Ho := []) (out := .sv (.sl 1 ys)) ho gN ⟨_, _, rfl, hx, rfl⟩ (by simp) (oneL hb) ?_ ?_
  · refine OpC.of_run (by simp) (by simp) fun md n0 cx H ρ w hok hrd' hHi hnew hv => ?_
    have hop : (Oper.mk (some d) (.convert t t x) ty pos aft none).op.operands.toList = [x] := rfl
    rw [hop] at hv
    have v1 := Vs.one hv
    simp only [entLV, V] at v1
    obtain ⟨hA, hlo, _⟩ := v1
    have hob := hHi o (.rs T 1 ys) (by simp)
    obtain ⟨_, hsz, vs, hown, hvs, hones⟩ := hok.ok o _ hob
    rcases hown.2 with ⟨e1, e2⟩ | ⟨gb, cap, cur, e1, _, e2, e3, e4, e5, e6⟩
    · exact absurd (List.eq_nil_of_length_eq_zero e2) hne
    · have hbk : bk (cx.loc o) = some gb := by rw [e1]; rfl
      obtain ⟨hpr, hlt, hmd⟩ := hok.own o _ gb hob (.inl hbk)
      have hsh : w.shape? gb = some (T, cur.size) := by simp [World.shape?, e2]
      have hfz : (w.freeze ⟨gb, cur.size, none⟩ 1).heap = w.heap.modify gb fun
          | .cells c elem (lo, hi) => .cells c elem (if lo == hi then (cur.size, cur.size + 1) else (min lo cur.size, max hi (cur.size + 1)))
          | o => o := by unfold World.freeze; rw [if_neg (by decide)]; rfl
      have hget : ∀ k, k ≠ gb → (w.freeze ⟨gb, cur.size, none⟩ 1).heap[k]? = w.heap[k]? := fun k hk => by rw [hfz, Array.getElem?_modify, if_neg (Ne.symm hk)]
      have hgb : ∃ fr, (w.freeze ⟨gb, cur.size, none⟩ 1).heap[gb]? = some (.cells cur T fr) := by
        refine ⟨(cur.size, cur.size + 1), ?_⟩
        rw [hfz, Array.getElem?_modify, if_pos rfl, e2]; simp
      obtain ⟨fr, hgb⟩ := hgb
      have hcell : ∀ b off, (w.freeze ⟨gb, cur.size, none⟩ 1).cell? ⟨b, off, none⟩ = w.cell? ⟨b, off, none⟩ := fun b off => by
        by_cases hb : b = gb
        · subst hb; simp [World.cell?, hgb, e2]
        · simp only [World.cell?, hget b hb]
      have hzs : (w.freeze ⟨gb, cur.size, none⟩ 1).heap.size = w.heap.size := by rw [hfz]; simp
      let pr' : Nat → Nat := fun b => if b = gb then ys.length else cx.pr b
      have hext : Ext cx.pr w pr' (w.freeze ⟨gb, cur.size, none⟩ 1) := fun b off hbo => by
        refine ⟨?_, hcell b off⟩
        show off < (if b = gb then _ else _)
        split
        · rename_i hh; subst hh; omega
        · exact hbo
      refine ⟨.value (.slice (some ⟨gb, 0, none⟩) ys.length cap), _, w.freeze ⟨gb, cur.size, none⟩ 1, ⟨pr', cx.A, cx.loc, cx.inn⟩, ?_, .inl rfl,
        ⟨fun q hq => ⟨hq, rfl⟩, fun q => by simp, ⟨rfl, rfl, rfl, by omega, fun b _ hn => hget b (fun hh => hn ⟨o, .rs T 1 ys, by simp, .inl (by rw [hh]; exact hbk)⟩), fun b _ hn => ?_, hext⟩,
          ⟨fun q y hy => by simp at hy, fun q y b hy => by simp at hy, fun q q' y y' b _ hy => by simp at hy, fun b hb' => ?_⟩, fun _ _ _ => rfl⟩, ?_⟩
      · have hrun : (convert t t (.slice (some ⟨gb, 0, none⟩) ys.length cap)).run P w = .ok (.slice (some ⟨gb, 0, none⟩) ys.length cap) (w.freeze ⟨gb, cur.size, none⟩ 1) := by
          simp [convert, run_underlying ht, run_underlying he, markStringish, hsh]
        have hx' : ρ x = .slice (some ⟨gb, 0, none⟩) ys.length cap := by rw [hlo, e1]
        simp only [execOp, hx', Sem.run_bind, hrun]
        simp
      · show (if b = gb then _ else cx.pr b) = _
        rw [if_neg (fun hh => hn ⟨o, .rs T 1 ys, by simp, .inl (by rw [hh]; exact hbk)⟩)]
      · rw [hzs]
        have : 0 < (if b = gb then ys.length else cx.pr b) := hb'
        split at this
        · omega
        · exact hok.lim b this
      · simp only [V, VS]
        refine .inr ⟨gb, 0, cap, rfl, e3, e4, by show _ ≤ (if gb = gb then _ else _); simp, ?_⟩
        have hgen : VSR pr' w gb 0 1 ys := by
          refine VSR.of_list e2 ys vs 0 (fun e he => ?_) (by rw [hown.1]) (fun j hj => ?_) hones (fun j c u hc hu => ?_)
          · have := hsz e he; simpa using this
          · rw [Nat.zero_add, ← e6, List.getElem?_take, if_pos (by rw [← hown.1]; exact hj)]
            simp
          · obtain ⟨v', hv', hV⟩ := hvs.get (i := j) (c := .sv c) (by rw [List.getElem?_map, hc]; rfl)
            rw [hu] at hv'; cases hv'
            simp only [V] at hV
            exact VS.mono (fun b off hbo => ⟨(hext b off hbo).1, rfl⟩) c u hV
        exact VSR.mono (fun b off hbo => ⟨hbo, hcell b off⟩) gb ys 0 1 (by show _ ≤ (if gb = gb then _ else _); simp) hgen
  · have e1 : st (putL (some d) (true, .sv (.sl 1 ys)) E) (updL L [(o, .rs T 1 ys)] []) (n + 0) = st ((d, (true, .sv (.sl 1 ys))) :: E) (delL o L) n := by
      simp only [st, putL, updL, delL, Nat.add_zero]
      congr 2
      simp only [List.nil_append, List.map_cons, List.map_nil]
      congr 1
      funext p
      by_cases hpo : p.1 = o <;> simp [hpo]
    rw [e1]; exact h

end

end Go.Proofs.YtnamkhifmankmaaDoor

/- A slice that is made and never written again, at once. -/
namespace Go.Proofs.YtnamkhifmankmaaDoor

theorem ObjOk.rs_closed {cx : Cx} {w : World} {n T sz : Nat} {ys : List (List SV)} {pr' : Nat → Nat} (h : ObjOk cx w n (.rs T sz ys)) (hext : Ext cx.pr w pr' w) (hp : ∀ b, bk (cx.loc n) = some b → ys.length * sz ≤ pr' b) : VS pr' w (.sl sz ys) (cx.loc n) := by
  obtain ⟨hsz, vs, hown, hvs, hones⟩ := h
  simp only [VS]
  rcases hown.2 with ⟨e1, e2⟩ | ⟨gb, cap, cur, e1, _, e2, e3, e4, e5, e6⟩
  · exact .inl ⟨.inl e1, List.eq_nil_of_length_eq_zero e2⟩
  · refine .inr ⟨gb, 0, cap, e1, e3, e4, by have := hp gb (by rw [e1]; rfl); omega, ?_⟩
    refine VSR.of_list e2 ys vs 0 (fun e he => ?_) hown.1 (fun j hj => ?_) hones (fun j c u hc hu => ?_)
    · have := hsz e he; simpa using this
    · rw [Nat.zero_add, ← e6, List.getElem?_take, if_pos (by rw [← hown.1]; exact hj)]
      simp
    · obtain ⟨v', hv', hV⟩ := hvs.get (i := j) (c := .sv c) (by rw [List.getElem?_map, hc]; rfl)
      rw [hu] at hv'; cases hv'
      simp only [V] at hV
      exact VS.mono hext c u hV

theorem OpC.shut {P : Program} {r : Option Nat} {o : Oper} {lvs : List LV} {rd Hi : List (Nat × LO)} {n T sz : Nat} {ys : List (List SV)} (h : OpC P r o lvs rd Hi (.ref n) [(n, .rs T sz ys)] [n]) :
    OpC P r o lvs rd Hi (.sv (.sl sz ys)) [] [n] := by
  refine ⟨by simp, fun md n0 cx H a w K Q hok ham hrd hHi hnew hv hK => ?_⟩
  refine h.2 md n0 cx H a w K Q hok ham hrd hHi hnew hv (fun cx' w' v t hv' => ?_)
  simp only [V] at hv'
  obtain ⟨hA, rfl, _⟩ := hv'
  have hob : hp [(n, LO.rs T sz ys)] n = some (.rs T sz ys) := by simp
  have hnb : ∀ b, bk (cx'.loc n) = some b → cx'.pr b = 0 ∧ b < w'.heap.size ∧ (w.heap.size ≤ b ∨ blks cx (hp Hi) b) := fun b hb => t.heap.own n _ b hob (.inl hb)
  let pr' : Nat → Nat := fun b => if bk (cx'.loc n) = some b then ys.length * sz else cx'.pr b
  have hext : Ext cx'.pr w' pr' w' := fun b off hbo => by
    refine ⟨?_, rfl⟩
    show off < (if bk (cx'.loc n) = some b then _ else _)
    split
    · rename_i hh; have := (hnb b hh).1; omega
    · exact hbo
  refine hK ⟨pr', cx'.A, cx'.loc, cx'.inn⟩ w' _ ⟨t.le, t.A, ⟨t.grow.os, t.grow.tape, t.grow.output, t.grow.size, t.grow.same, fun b hlt hn => ?_, t.grow.ext.trans hext⟩,
    ⟨fun q y hy => by simp at hy, fun q y b hy => by simp at hy, fun q q' y y' b _ hy => by simp at hy, fun b hb => ?_⟩, t.inn⟩ ?_
  · show (if bk (cx'.loc n) = some b then _ else cx'.pr b) = _
    rw [if_neg (fun hh => ?_)]
    · exact t.grow.prs b hlt hn
    · rcases (hnb b hh).2.2 with h1 | h1
      · omega
      · exact hn h1
  · have hb' : 0 < (if bk (cx'.loc n) = some b then ys.length * sz else cx'.pr b) := hb
    split at hb'
    · rename_i hh; exact (hnb b hh).2.1
    · exact t.heap.lim b hb'
  · simp only [V]
    exact ObjOk.rs_closed (t.heap.ok n _ hob).2 hext (fun b hb => by show _ ≤ (if bk (cx'.loc n) = some b then _ else _); rw [if_pos hb]; exact Nat.le_refl _)

theorem PC.nilA {P : Program} {f : FuncId} {out : LV} {sz : Nat} (h : PC P f [.sv (.sl sz [])] out) : PC P f [.v (.slice none 0 0)] out :=
  h.args (by simp [LV.lts, LV.lt]) fun cx w vs hv => by
    simp only [Vs] at hv ⊢
    obtain ⟨v1, r1, rfl, h1, h3⟩ := hv
    exact ⟨v1, _, rfl, V_nilSl sz h1, h3⟩

section
variable {P : Program} {r : Option Nat} {N : Nat} {D : List Nat} {B : Base} {all : Array Oper} {K : List (Nat × Ct) → St → Prop}
variable {i : Nat} {ops : List Oper} {tr : List (Nat × Ct)} {E : List (Nat × Ent)} {L : List (Nat × LO)} {n : Nat} {g : Bool} {gn : List (Nat × Ent)}
variable {d ty : Nat} {pos : String} {aft : Array Edge} {gd : Option (Nat × Bool)}

theorem updL_del (L : List (Nat × LO)) (o : Nat) (x : LO) : updL L [(o, x)] [] = delL o L := by
  simp only [updL, delL, List.nil_append, List.map_cons, List.map_nil]
  congr 1
  funext p
  by_cases hpo : p.1 = o <;> simp [hpo]

/-- what is appended to is written no more -/
theorem R.appendF {t tx e sz : Nat} (hF : AppF P t e sz) {x y : Operand} {o : Nat} {xs ys : List (List SV)} {lv : LV} {rd : List (Nat × LO)}
    (ho : all[i]? = some ⟨some d, .call { callee := .builtin .append, args := #[x, y], argTypes := #[t, tx] }, ty, pos, aft, none⟩ := by rfl)
    (hx : lvOf (en E) x = some (true, .ref o) := by rfl) (hy : lvOf (en E) y = some (true, lv) := by rfl) (hb : hp L o = some (.rs e sz xs) := by rfl)
    (hs : SrcOk P tx sz lv rd (ys.map (List.map LV.sv))) (hrd : ∀ k x, hp rd k = some x → hp L k = some x := by first | exact noHo | exact oneL rfl) (h0 : 0 < sz := by decide) (hlen : (xs.length + ys.length) * sz ≤ 4398046511104)
    (h : Reg P r N D B all (i + 1) ops ((i, ⟨needOf [x, y] [(true, .ref o), (true, lv)], some d, (true, .sv (.sl sz (xs ++ ys))), rd, [(o, .rs e sz xs)], [], [n]⟩) :: tr) (st ((d, (true, .sv (.sl sz (xs ++ ys)))) :: E) (delL o L) (n + 1)) K) :
    Reg P r N D B all i (⟨some d, .call { callee := .builtin .append, args := #[x, y], argTypes := #[t, tx] }, ty, pos, aft, none⟩ :: ops) tr (st E L n) K := by
  refine Reg.gen (m := 1) (es := [(true, .ref o), (true, lv)]) (rd := rd) (Hi := [(o, .rs e sz xs)]) (Ho := []) (out := .sv (.sl sz (xs ++ ys))) ho gN ⟨_, _, rfl, hx, _, _, rfl, hy, rfl⟩ hrd (oneL hb) ?_ ?_
  · refine OpC.shut (T := e) ?_
    refine OpC.of_run (by simp) (by simp) fun md n0 cx H ρ w hok hrd' hHi hnew hv => ?_
    have hop : (Oper.mk (some d) (.call { callee := .builtin .append, args := #[x, y], argTypes := #[t, tx] }) ty pos aft none).op.operands.toList = [x, y] := rfl
    rw [hop] at hv
    obtain ⟨v1, v2⟩ := Vs.two hv
    simp only [entLV] at v1 v2
    obtain ⟨news, hsrc, hnv⟩ := hs.2 md n0 cx H w _ hok hrd' v2
    simp only [V] at v1
    have hob := hHi o (.rs e sz xs) (by simp)
    obtain ⟨v, w', cx', h1, h2, h3⟩ := run_append (o' := n) (xs := xs.map (List.map LV.sv)) (ys := ys.map (List.map LV.sv)) hF h0 (hok.tell hob ObjOk.rs_row) (o := o) (by simp [tellH]) (hnew n (by simp)) hsrc hs.1 hnv (by simpa using hlen) ty
    refine ⟨_, v, w', cx', ?_, .inl rfl, h2.tell (fun hx => ObjOk.row_rs (by simpa using hx)), h3⟩
    have hx' : ρ x = cx.loc o := v1.2.1
    simp [execOp, resolve, invoke, builtin, hx', h1]
  · have e1 : st (putL (some d) (true, .sv (.sl sz (xs ++ ys))) E) (updL L [(o, .rs e sz xs)] []) (n + 1) = st ((d, (true, .sv (.sl sz (xs ++ ys)))) :: E) (delL o L) (n + 1) := by
      simp only [st, updL_del, putL]
    rw [e1]; exact h
end

end Go.Proofs.YtnamkhifmankmaaDoor
