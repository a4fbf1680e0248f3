/- Texts of this claim, merged (KE to FD); no condition. -/
import Derived.Test.YteccglgbkehdeaaGreatDoorPF2
import Derived.Lib.SlParts
import Derived.Lib.SlFresh
import Derived.Lib.Strings
import Derived.Laws.MakeOwn
import Derived.Lib.Builder
import Derived.Lib.UnsafeStr
import GoSem.Instr.MapUpdate
import Derived.Test.YteccglgbkehdeaaGreatDoorProg
set_option linter.unusedSimpArgs false
set_option linter.unusedVariables false
/- Arrays: a slice of one's own array, copy into it, a slice as0 an array, an array that is written no more. -/
namespace Go.Proofs.YteccglgbkehdeaaGreatDoor
theorem add_off (b off j : Nat) : (⟨b, off, none⟩ : Addr).add j = ⟨b, off + j, none⟩ := by unfold Addr.add; split <;> simp_all
/-- an array type of n elements of one cell -/
def ArrF (P : Program) (T n : Nat) : Prop := ∃ e, (∀ w, (underlying T).run P w = .ok (.array n e) w) ∧ ∀ w, (sizeOf e).run P w = .ok 1 w
theorem VSR.ones {pr : Nat → Nat} {w : World} {b : Nat} : ∀ {cs : List SV} {off : Nat}, VSR pr w b off 1 (cs.map fun c => [c]) → VSC pr w b off cs
  | [], off, _ => by simp [VSC]
  | c :: cs, off, h => by
    simp only [List.map_cons, VSR, VSC] at h ⊢
    exact ⟨h.2.1.1, VSR.ones h.2.2⟩
section
variable {P : Program} {r : Option Nat} {N : Nat} {D : List Nat} {B : Base} {all : Array Oper} {K : List (Nat × Ct) → St → Prop}
variable {i : Nat} {ops : List Oper} {tr : List (Nat × Ct)} {E : List (Nat × Ent)} {L : List (Nat × LO)} {n : Nat} {g : Bool} {gn : List (Nat × Ent)}
variable {d ty : Nat} {pos : String} {aft : Array Edge} {gd : Option (Nat × Bool)}
/-- the whole of an array of one's own, as0 a slice -/
theorem R.sliceArr {T m : Nat} (hF : ArrF P T m) {x : Operand} {gx : Bool} {o : Nat}
    (ho : all[i]? = some ⟨some d, .slice T x none none none, ty, pos, aft, gd⟩ := by rfl) (hg : GuardOk (en E) all gd g gn := by first | exact gN | exact gS rfl rfl)
    (hx : lvOf (en E) x = some (gx, .ptr o 0) := by rfl) (hgx : g = true → gx = true := by first | exact fun _ => rfl | exact id)
    (h : Reg P r N D B all (i + 1) ops ((i, Ct.p gn [x] [(gx, .ptr o 0)] (some d) (g, .sub o 0 m m) []) :: tr) (st ((d, (g, .sub o 0 m m)) :: E) L n) K) :
    Reg P r N D B all i (⟨some d, .slice T x none none none, ty, pos, aft, gd⟩ :: ops) tr (st E L n) K :=
  Reg.one rfl (fun h => by
    rw [entLV_true h hgx]
    refine OpC.of_pure1 (x := x) rfl (by simp) fun md n0 cx H ρ w hok hrd v1 => ?_
    obtain ⟨e, hu, hz⟩ := hF
    simp only [V] at v1
    obtain ⟨hA, b, hbk, he⟩ := v1
    refine ⟨.slice (some ⟨b, 0, none⟩) m m, ?_, ?_⟩
    · have hadd : (⟨b, 0, none⟩ : Addr).add 0 = ⟨b, 0, none⟩ := rfl
      simp [execOp, he, Instr.sliceAt, hu w, Instr.sureAddr, Instr.sliceBounds, hz w, hadd]
    · simp only [V]
      exact ⟨hA, b, hbk, rfl⟩) ho hg hx (by simp) h
end
end Go.Proofs.YteccglgbkehdeaaGreatDoor
/- Nil or not; a box that is written no more; contracts of the library's. -/
namespace Go.Proofs.YteccglgbkehdeaaGreatDoor
theorem VSC.rows {pr : Nat → Nat} {w : World} {b : Nat} : ∀ {cs : List SV} {off : Nat}, VSC pr w b off cs → VSR pr w b off 1 (cs.map fun c => [c])
  | [], off, _ => by simp [VSR]
  | c :: cs, off, h => by
    simp only [List.map_cons, VSR, VSC] at h ⊢
    exact ⟨rfl, ⟨h.1, trivial⟩, VSC.rows h.2⟩
theorem run_eqNilD {P : Program} (w : World) (d : Nat) (t e : TypeId) (a : Option Addr) (l c : Nat) (h : P.underlying t = some (.slice e)) : (Op.equalIn (d + 1) t (.slice a l c) (.slice none 0 0)).run P w = .ok a.isNone w := by
  cases a <;> simp [Op.equalIn, run_underlying h]
theorem run_eqNilS {P : Program} (w : World) (t e : TypeId) (a : Option Addr) (l c : Nat) (h : P.underlying t = some (.slice e)) : (Op.equal t (.slice a l c) (.slice none 0 0)).run P w = .ok a.isNone w := run_eqNilD w 9999 t e a l c h
section
variable {P : Program} {r : Option Nat} {N : Nat} {D : List Nat} {B : Base} {Ψ : Exit → Act → World → Prop} {todo : List Item}
variable {E : List (Nat × Ent)} {L : List (Nat × LO)} {n : Nat}
end
section
variable {P : Program} {r : Option Nat} {N : Nat} {D : List Nat} {B : Base} {all : Array Oper} {K : List (Nat × Ct) → St → Prop}
variable {i : Nat} {ops : List Oper} {tr : List (Nat × Ct)} {E : List (Nat × Ent)} {L : List (Nat × LO)} {n : Nat} {g : Bool} {gn : List (Nat × Ent)}
variable {d ty : Nat} {pos : String} {aft : Array Edge} {gd : Option (Nat × Bool)}
/-- is a slice nil: of one with elements -/
theorem R.nilF {op : BinOp} (v : Bool) (hop : (op = .eql ∧ v = false) ∨ (op = .neq ∧ v = true) := by first | exact .inl ⟨rfl, rfl⟩ | exact .inr ⟨rfl, rfl⟩) {t e yt : Nat} (hT : P.underlying t = some (.slice e)) {x : Operand} {gx : Bool} {sz : Nat} {xs : List (List SV)} (hne : g = true → xs ≠ [])
    (ho : all[i]? = some ⟨some d, .binOp op t x (.const (.slice none 0 0)) yt, ty, pos, aft, gd⟩ := by rfl) (hg : GuardOk (en E) all gd g gn := by first | exact gN | exact gS rfl rfl)
    (hx : lvOf (en E) x = some (gx, .sv (.sl sz xs)) := by rfl) (hgx : g = true → gx = true := by first | exact fun _ => rfl | exact id)
    (h : Reg P r N D B all (i + 1) ops ((i, Ct.p gn [x, .const (.slice none 0 0)] [(gx, .sv (.sl sz xs)), (true, .v (.slice none 0 0))] (some d) (g, .b v) []) :: tr) (st ((d, (g, .b v)) :: E) L n) K) :
    Reg P r N D B all i (⟨some d, .binOp op t x (.const (.slice none 0 0)) yt, ty, pos, aft, gd⟩ :: ops) tr (st E L n) K :=
  Reg.two rfl (fun h => by
    rw [entLV_true h hgx]
    refine OpC.of_pure2 (x := x) (y := .const (.slice none 0 0)) rfl (by simp) fun md n0 cx H ρ w hok hrd v1 v2 => ?_
    have v2' := v2.val
    simp only [V, VS] at v1
    refine ⟨.bool v, ?_, V.mkval⟩
    rcases v1 with ⟨_, he⟩ | ⟨b, off, cap, he, _⟩
    · exact absurd he (hne h)
    · rcases hop with ⟨rfl, rfl⟩ | ⟨rfl, rfl⟩ <;>
        simp [execOp, he, v2', eqGuard, binOp, run_eqNilS w t e _ _ _ hT, Sem.run_bind]) ho hg hx rfl (by simp) h
end
end Go.Proofs.YteccglgbkehdeaaGreatDoor
/- Contracts of the library's, as0 contracts of this logic. -/
namespace Go.Proofs.YteccglgbkehdeaaGreatDoor
open Go.RowKit
theorem bytesC_flat : ∀ l : List UInt8, (bytesC l).flatten = l.map fun c => .val (.int .u8 c.toNat)
  | [] => rfl
  | a :: l => by have := bytesC_flat l; simp only [bytesC, List.map_cons, List.flatten_cons] at this ⊢; rw [this]; rfl
/-- a call that leaves all old blocks as0 they are -/
theorem PC.of_calls {P : Program} {f : FuncId} {lvs : List LV} {out : LV} (hE : Entr P f) (ha : LV.lts 0 lvs = true)
    (h : ∀ (cx : Cx) (w : World) (vs : List Value), (∀ b, 0 < cx.pr b → b < w.heap.size) → Amb cx.pr w → Vs cx w lvs vs →
      Calls P f vs.toArray w fun e w' => ∃ v pr', e = .returned v ∧ Below w.heap.size w w' ∧ (∀ b, b < w.heap.size → pr' b = cx.pr b) ∧ (∀ b, 0 < pr' b → b < w'.heap.size) ∧ V ⟨pr', cx.A, cx.loc, cx.inn⟩ w' out v) : PC P f lvs out := by
  refine ⟨hE, ha, rfl, by simp, by simp, fun cx w vs hA hok ham hv => (h cx w vs hok.lim ham hv).mono ?_⟩
  rintro e w' ⟨v, pr', rfl, hb, h1, h2, h3⟩
  have hext : Ext cx.pr w pr' w' := fun b off ho => by
    have hlt := hok.lim b (by omega)
    exact ⟨by rw [h1 b hlt]; exact ho, by simp only [World.cell?, hb.block b hlt]⟩
  refine ⟨v, ⟨pr', cx.A, cx.loc, cx.inn⟩, rfl, ⟨fun o ho => ⟨ho, rfl⟩, fun o => ?_, ⟨hb.os, hb.tape, hb.output, hb.size, fun b hlt _ => hb.block b hlt, fun b hlt _ => h1 b hlt, hext⟩,
    ⟨fun o x hx => by simp at hx, fun o x b hx => by simp at hx, fun o o' x x' b _ hx => by simp at hx, h2⟩, fun _ _ _ => rfl⟩, h3⟩
  constructor
  · intro h; exact .inl h
  · rintro (h | h)
    · exact h
    · omega
/-- .. and returns a plain value -/
theorem PC.of_val {P : Program} {f : FuncId} {lvs : List LV} {x : Value} (hE : Entr P f) (ha : LV.lts 0 lvs = true)
    (h : ∀ (cx : Cx) (w : World) (vs : List Value), (∀ b, 0 < cx.pr b → b < w.heap.size) → Amb cx.pr w → Vs cx w lvs vs → Calls P f vs.toArray w fun e w' => e = .returned x ∧ Below w.heap.size w w') : PC P f lvs (.v x) := by
  refine PC.of_calls hE ha fun cx w vs hl ham hv => (h cx w vs hl ham hv).mono ?_
  rintro e w' ⟨rfl, hb⟩
  exact ⟨_, cx.pr, rfl, hb, fun _ _ => rfl, fun b hb' => Nat.lt_of_lt_of_le (hl b hb') hb.size, V.mkval⟩
theorem VSR.cells1 {α : Type} {pr : Nat → Nat} {w : World} {b : Nat} (k : α → SV) : ∀ {l : List α} {off : Nat}, VSR pr w b off 1 (l.map fun s => [k s]) → ∀ (j : Nat) (s : α), l[j]? = some s → ∃ v, w.cell? ⟨b, off + j, none⟩ = some v ∧ VS pr w (k s) v
  | [], off, _, j, s, hj => by simp at hj
  | a :: l, off, h, 0, s, hj => by
    simp only [List.map_cons, VSR, VSC] at h
    simp at hj
    subst hj
    obtain ⟨v, h1, _, h2⟩ := h.2.1.1
    exact ⟨v, h1, h2⟩
  | a :: l, off, h, j + 1, s, hj => by
    simp only [List.map_cons, VSR] at h
    have := VSR.cells1 k h.2.2 j s (by simpa using hj)
    rwa [show off + 1 + j = off + (j + 1) from by omega] at this
/-- a slice of strings -/
def strsC (l : List (List UInt8)) : List (List SV) := l.map fun s => [.val (.string ⟨s.toArray⟩)]
theorem strsC_length (l : List (List UInt8)) : (strsC l).length = l.length := by simp [strsC]
theorem PC.strJoin {P : Program} {f : FuncId} (hE : Entr P f)
    (hj0 : ∀ (a : Option Addr) (c : Nat) (sep : ByteArray) (w : World), Calls P f #[.slice a 0 c, .string sep] w fun e w' => e = .returned (.string ⟨#[]⟩) ∧ w' = w)
    (hj : ∀ (bk o c : Nat) (xs : List ByteArray) (sep : ByteArray) (w : World), (∀ (j : Nat) x, xs[j]? = some x → w.cell? ⟨bk, o + j, none⟩ = some (.string x)) → bk < w.heap.size → xs.length ≤ 140737488355328 → xs.length ≤ c → (Lib.join (xs.map (·.data.toList)) sep.data.toList).length ≤ 140737488355328 →
      Calls P f #[.slice (some ⟨bk, o, none⟩) xs.length c, .string sep] w fun e w' => e = .returned (.string ⟨(Lib.join (xs.map (·.data.toList)) sep.data.toList).toArray⟩) ∧ Below w.heap.size w w')
    (l : List (List UInt8)) (sep : List UInt8) (hn : l.length ≤ 140737488355328) (hlen : (Lib.join l sep).length ≤ 140737488355328) :
    PC P f [.sv (.sl 1 (strsC l)), .t sep] (.t (Lib.join l sep)) := by
  refine PC.of_val hE (by simp [LV.lts, LV.lt]) fun cx w vs hl _ hv => ?_
  obtain ⟨v1, v2, rfl, h1, h2⟩ : ∃ v1 v2, vs = [v1, v2] ∧ V cx w (.sv (.sl 1 (strsC l))) v1 ∧ v2 = .string ⟨sep.toArray⟩ := by
    simp only [Vs] at hv
    obtain ⟨v1, _, rfl, h1, v2, _, rfl, h2, rfl⟩ := hv
    exact ⟨v1, v2, rfl, h1, h2.val⟩
  subst h2
  simp only [V, VS] at h1
  have none_ : ∀ (a : Option Addr) (c : Nat), l = [] → Calls P f #[.slice a 0 c, .string ⟨sep.toArray⟩] w fun e w' => e = .returned (.string ⟨(Lib.join l sep).toArray⟩) ∧ Below w.heap.size w w' := by
    rintro a c rfl
    refine (hj0 a c _ w).mono ?_
    rintro e w' ⟨rfl, rfl⟩
    exact ⟨rfl, Below.refl _ _⟩
  rcases h1 with ⟨rfl | ⟨ad, cap, rfl, _⟩, he⟩ | ⟨b, off, cap, rfl, hle, _, hp, hr⟩
  · exact none_ _ _ (by simpa [strsC] using he)
  · exact none_ _ _ (by simpa [strsC] using he)
  · rw [strsC_length] at hle hp ⊢
    by_cases h0 : l = []
    · have : l.length = 0 := by rw [h0]; rfl
      rw [this]; exact none_ _ _ h0
    · have hpos : 0 < l.length := List.length_pos_iff.2 h0
      have e : (l.map fun s => (⟨s.toArray⟩ : ByteArray)).map (·.data.toList) = l := by simp [List.map_map, Function.comp_def]
      have := hj b off cap (l.map fun s => (⟨s.toArray⟩ : ByteArray)) ⟨sep.toArray⟩ w (fun j x hx => by
        rw [List.getElem?_map] at hx
        cases hs : l[j]? with
        | none => rw [hs] at hx; cases hx
        | some s =>
          rw [hs] at hx; cases hx
          obtain ⟨v, k1, k2⟩ := VSR.cells1 (fun s : List UInt8 => .val (.string ⟨s.toArray⟩)) hr j s hs
          simp only [VS] at k2
          rw [k1, k2]) (hl b (by omega)) (by simpa using hn) (by simpa using hle) (by rw [e]; simpa using hlen)
      rw [e] at this
      simpa using this
end Go.Proofs.YteccglgbkehdeaaGreatDoor
/- Small rules: entries told anew; bits. -/
namespace Go.Proofs.YteccglgbkehdeaaGreatDoor
theorem Entr.of {P : Program} {f : FuncId} {fn : Func} {c : Code} (hf : P.funcs[f]? = some fn) (hb : fn.body = some c) (hname : (fn.name == "runtime.NumGoroutine") = false) : Entr P f := fun us w => by
  simp only [callFunc, Sem.run_bind, Sem.run_pure, Result.andThen_ok]
  have hn' : ¬ fn.name = "runtime.NumGoroutine" := by simpa using hname
  simp [program, Sem.run, hf, hn', hb]
section
variable {P : Program} {r : Option Nat} {N : Nat} {D : List Nat} {B : Base} {Ψ : Exit → Act → World → Prop} {todo : List Item}
variable {E : List (Nat × Ent)} {L : List (Nat × LO)} {n : Nat}
/-- an entry told anew -/
theorem LGo.eqB (t : Nat) {g b : Bool} (b' : Bool) (ht : en E t = some (g, .b b) := by rfl) (hb : b = b') (h : LGo P r N D B Ψ todo (st ((t, (g, .b b')) :: E) L n)) : LGo P r N D B Ψ todo (st E L n) := by
  subst hb
  exact LGo.re t _ ht (fun _ _ _ hv => hv) h
end
end Go.Proofs.YteccglgbkehdeaaGreatDoor
/- A box whose slice is written no more. -/
namespace Go.Proofs.YteccglgbkehdeaaGreatDoor
section
variable {P : Program} {r : Option Nat} {N : Nat} {D : List Nat} {B : Base} {Ψ : Exit → Act → World → Prop} {todo : List Item}
variable {E : List (Nat × Ent)} {L : List (Nat × LO)} {n : Nat}
theorem Vs.setK {cx cx' : Cx} {w w' : World} (hl : CxLe cx cx') (hx : Ext cx.pr w cx'.pr w') {s : SV} {v : Value} : ∀ {cs : List LV} {k : Nat} {vs : List Value}, k < cs.length → Vs cx w (cs.set k (.sv (.val v))) vs → VS cx'.pr w' s v → Vs cx' w' (cs.set k (.sv s)) vs
  | [], k, vs, hk, _, _ => by simp at hk
  | c :: cs, 0, vs, _, h, hv => by
    simp only [List.set_cons_zero, Vs] at h ⊢
    obtain ⟨x, rest, e, h1, h2⟩ := h
    refine ⟨x, rest, e, ?_, Vs.mono hl hx _ _ h2⟩
    have := h1.val
    subst this
    simpa only [V] using hv
  | c :: cs, k + 1, vs, hk, h, hv => by
    simp only [List.set_cons_succ, Vs] at h ⊢
    obtain ⟨x, rest, e, h1, h2⟩ := h
    exact ⟨x, rest, e, V.mono hl hx _ _ h1, Vs.setK hl hx (by simpa using hk) h2 hv⟩
theorem Rel.frzBx (o : Nat) {T k Te sz : Nat} {cs cs' : List LV} {ys : List (List SV)} (hb : hp L o = some (.bx T cs k Te sz ys) := by rfl) (hcs : cs.set k (.sv (.sl sz ys)) = cs' := by rfl)
    {cx : Cx} {a : Act} {w : World} (hr : Rel B N D (st E L n) cx a w) : ∃ cx', Rel B N D (st E ((o, .box T cs') :: delL o L) n) cx' a w := by
  subst hcs
  obtain ⟨hAo, b, vs, v, h1, h2, h3, h4, h5, h5', h5'', h6, us, h7, h8, h9⟩ := hr.heap.ok o _ hb
  let pr' : Nat → Nat := fun c => if some c = bk v then ys.length * sz else cx.pr c
  let c2 : Cx := ⟨pr', cx.A, cx.loc, cx.inn⟩
  have hin : ∀ c, some c = bk v → cx.has o (.bx T cs k Te sz ys) c := fun c hc => .inr ⟨rfl, by rw [h5, ← hc]⟩
  have hpr0 : ∀ c, some c = bk v → cx.pr c = 0 ∧ c < w.heap.size ∧ (B.w.heap.size ≤ c ∨ B.md c) := fun c hbb => hr.heap.own o _ c hb (hin c hbb)
  have hext : Ext cx.pr w pr' w := fun c off hbo => by
    refine ⟨?_, rfl⟩
    show off < (if some c = bk v then _ else _)
    split
    · rename_i hh; have := (hpr0 c hh).1; omega
    · exact hbo
  have hle : CxLe cx c2 := fun q hq => ⟨hq, rfl⟩
  have hsl : VS pr' w (.sl sz ys) v := by
    simp only [VS]
    rcases h7.2 with ⟨e1, e2⟩ | ⟨gb, cap, cur, e1, _, e2, e3, e4, e5, e6⟩
    · left
      exact ⟨.inl e1, List.eq_nil_of_length_eq_zero (by omega)⟩
    · right
      have hbk : some gb = bk v := by rw [e1]; rfl
      refine ⟨gb, 0, cap, e1, by omega, e4, ?_, ?_⟩
      · show 0 + ys.length * sz ≤ (if some gb = bk v then ys.length * sz else _)
        rw [if_pos hbk]; omega
      · refine VSR.of_list e2 ys us 0 h6 h7.1 (fun j hj => ?_) h9 (fun j c u hc hv => ?_)
        · rw [Nat.zero_add, ← e6, List.getElem?_take, if_pos (by rw [← h7.1]; exact hj)]
          simp
        · obtain ⟨v', hv', hV⟩ := h8.get (i := j) (c := .sv c) (by rw [List.getElem?_map, hc]; rfl)
          rw [hv] at hv'; cases hv'
          simp only [V] at hV
          exact VS.mono hext c u hV
  have get : ∀ q x, hp ((o, LO.box T (cs.set k (.sv (.sl sz ys)))) :: delL o L) q = some x → (q = o ∧ x = .box T (cs.set k (.sv (.sl sz ys)))) ∨ (q ≠ o ∧ hp L q = some x) := by
    intro q x hx
    rw [hp_tell] at hx
    unfold tellH at hx
    split at hx
    · rename_i hh; cases hx; exact .inl ⟨hh, rfl⟩
    · rename_i hh; exact .inr ⟨hh, hx⟩
  have hhas : ∀ c, c2.has o (.box T (cs.set k (.sv (.sl sz ys)))) c → cx.has o (.bx T cs k Te sz ys) c ∧ some c ≠ bk v := by
    intro c hc
    rw [Cx.has_of rfl] at hc
    change bk (cx.loc o) = some c at hc
    refine ⟨.inl hc, fun e => ?_⟩
    rw [h1] at hc
    simp only [bk, Option.some.injEq] at hc
    subst hc
    exact h5' e.symm
  refine ⟨c2, ⟨⟨hr.grow.os, hr.grow.tape, hr.grow.output, hr.grow.size, hr.grow.same, fun c hbs hmd => ?_, hr.grow.ext.trans hext⟩, hr.le.trans hle, hr.hA, ⟨fun q x hx => ?_, fun q x c hx hbq => ?_, fun q q' x x' c hne hx hx' hbq => ?_, fun c hbp => ?_⟩, hr.size, fun t e he => ?_, hr.df, hr.dA⟩⟩
  · show (if some c = bk v then _ else cx.pr c) = _
    split
    · rename_i hh
      rcases (hpr0 c hh).2.2 with k1 | k1
      · omega
      · exact absurd k1 hmd
    · exact hr.grow.prs c hbs hmd
  · rcases get q x hx with ⟨rfl, rfl⟩ | ⟨_, hx'⟩
    · exact ⟨hAo, b, vs, h1, h2, Vs.setK hle hext h4 h3 hsl⟩
    · obtain ⟨k1, k2⟩ := hr.heap.ok q x hx'
      exact ⟨k1, ObjOk.mono hle hext k1 (fun _ _ _ => rfl) rfl k2⟩
  · show (if some c = bk v then _ else cx.pr c) = 0 ∧ _
    rcases get q x hx with ⟨rfl, rfl⟩ | ⟨hne, hx'⟩
    · obtain ⟨g1, g2⟩ := hhas c hbq
      rw [if_neg g2]
      exact hr.heap.own _ _ c hb g1
    · obtain ⟨k1, k2, k3⟩ := hr.heap.own q x c hx' hbq
      rw [if_neg (fun hh => hr.heap.inj q o x _ c hne hx' hb hbq (hin c hh))]
      exact ⟨k1, k2, k3⟩
  · rcases get q x hx with ⟨rfl, rfl⟩ | ⟨hne1, hx1⟩
    · rcases get q' x' hx' with ⟨rfl, rfl⟩ | ⟨hne2, hx2⟩
      · exact absurd rfl hne
      · exact hr.heap.inj _ q' _ x' c hne hb hx2 (hhas c hbq).1
    · rcases get q' x' hx' with ⟨rfl, rfl⟩ | ⟨hne2, hx2⟩
      · intro hh
        exact hr.heap.inj q _ x _ c hne hx1 hb hbq (hhas c hh).1
      · exact hr.heap.inj q q' x x' c hne hx1 hx2 hbq
  · change 0 < (if some c = bk v then _ else cx.pr c) at hbp
    split at hbp
    · rename_i hh; exact (hpr0 c hh).2.1
    · exact hr.heap.lim c hbp
  · exact (hr.env t e he).mono hle hext
theorem LGo.frzBx (o : Nat) {T k Te sz : Nat} {cs cs' : List LV} {ys : List (List SV)} (hb : hp L o = some (.bx T cs k Te sz ys) := by rfl) (hcs : cs.set k (.sv (.sl sz ys)) = cs' := by rfl)
    (h : LGo P r N D B Ψ todo (st E ((o, .box T cs') :: delL o L) n)) : LGo P r N D B Ψ todo (st E L n) :=
  LGo.conv (fun cx a w hr => Rel.frzBx o hb hcs hr) h
theorem RelTo.frzBx (o : Nat) {T k Te sz : Nat} {cs cs' : List LV} {ys : List (List SV)} {Q : Act → World → Prop} (hb : hp L o = some (.bx T cs k Te sz ys) := by rfl) (hcs : cs.set k (.sv (.sl sz ys)) = cs' := by rfl)
    (h : ∀ cx a w, Rel B N D (st E ((o, .box T cs') :: delL o L) n) cx a w → Q a w) : ∀ cx a w, Rel B N D (st E L n) cx a w → Q a w := fun cx a w hr => by
  obtain ⟨cx', hr'⟩ := Rel.frzBx o hb hcs hr
  exact h cx' a w hr'
end
end Go.Proofs.YteccglgbkehdeaaGreatDoor
/- Arrays as0 slices, min and max, slices made, constant bytes. -/
namespace Go.Proofs.YteccglgbkehdeaaGreatDoor
section
variable {P : Program} {r : Option Nat} {N : Nat} {D : List Nat} {B : Base} {all : Array Oper} {K : List (Nat × Ct) → St → Prop}
variable {i : Nat} {ops : List Oper} {tr : List (Nat × Ct)} {E : List (Nat × Ent)} {L : List (Nat × LO)} {n : Nat} {g : Bool} {gn : List (Nat × Ent)}
variable {d ty : Nat} {pos : String} {aft : Array Edge} {gd : Option (Nat × Bool)}
/-- the whole of a closed array, as0 a slice -/
theorem R.sliceAt {T m : Nat} (hF : ArrF P T m) {x : Operand} {gx : Bool} {cs : List SV}
    (ho : all[i]? = some ⟨some d, .slice T x none none none, ty, pos, aft, gd⟩ := by rfl) (hg : GuardOk (en E) all gd g gn := by first | exact gN | exact gS rfl rfl)
    (hx : lvOf (en E) x = some (gx, .sv (.at_ cs)) := by rfl) (hgx : g = true → gx = true := by first | exact fun _ => rfl | exact id) (hm : cs.length = m := by rfl) (hml : m ≤ 4294967296 := by decide)
    (h : Reg P r N D B all (i + 1) ops ((i, Ct.p gn [x] [(gx, .sv (.at_ cs))] (some d) (g, .sv (.sl 1 (cs.map fun c => [c]))) []) :: tr) (st ((d, (g, .sv (.sl 1 (cs.map fun c => [c])))) :: E) L n) K) :
    Reg P r N D B all i (⟨some d, .slice T x none none none, ty, pos, aft, gd⟩ :: ops) tr (st E L n) K :=
  Reg.one rfl (fun h => by
    rw [entLV_true h hgx]
    refine OpC.of_pure1 (x := x) rfl (by simp) fun md n0 cx H ρ w hok hrd v1 => ?_
    obtain ⟨e, hu, hz⟩ := hF
    simp only [V, VS] at v1
    obtain ⟨b, off, he, hle, hc⟩ := v1
    refine ⟨.slice (some ⟨b, off, none⟩) m m, ?_, ?_⟩
    · have hadd : (⟨b, off, none⟩ : Addr).add 0 = ⟨b, off, none⟩ := rfl
      simp [execOp, he, Instr.sliceAt, hu w, Instr.sureAddr, Instr.sliceBounds, hz w, hadd]
    · simp only [V, VS]
      exact .inr ⟨b, off, m, by simp [hm], by simp [hm], by unfold maxLen; omega, by simp; omega, VSC.rows hc⟩) ho hg hx (by simp) h
theorem run_max2 (P : Program) (k : IntKind) (a b : Int) (w : World) (tys : Array TypeId) (t : TypeId) : (Builtin.max_ tys t #[.int k a, .int k b]).run P w = .ok (.int k (max a b)) w := by
  simp only [Builtin.max_, List.foldlM, Builtin.max2]
  by_cases h : b > a
  · simp [h, show max a b = b by omega]
  · simp [h, show max a b = a by omega]
theorem run_min2 (P : Program) (k : IntKind) (a b : Int) (w : World) (tys : Array TypeId) (t : TypeId) : (Builtin.min_ tys t #[.int k a, .int k b]).run P w = .ok (.int k (min a b)) w := by
  simp only [Builtin.min_, List.foldlM, Builtin.min2]
  by_cases h : b < a
  · simp [h, show min a b = b by omega]
  · simp [h, show min a b = a by omega]
theorem R.maxI {x y : Operand} {gx gy : Bool} {k : IntKind} {a b : Int} {tys : Array TypeId}
    (ho : all[i]? = some ⟨some d, .call { callee := .builtin .max, args := #[x, y], argTypes := tys }, ty, pos, aft, gd⟩ := by rfl) (hg : GuardOk (en E) all gd g gn := by first | exact gN | exact gS rfl rfl)
    (hx : lvOf (en E) x = some (gx, .v (.int k a)) := by rfl) (hy : lvOf (en E) y = some (gy, .v (.int k b)) := by rfl) (hgx : g = true → gx = true := by first | exact fun _ => rfl | exact id) (hgy : g = true → gy = true := by first | exact fun _ => rfl | exact id)
    (h : Reg P r N D B all (i + 1) ops ((i, Ct.p gn [x, y] [(gx, .v (.int k a)), (gy, .v (.int k b))] (some d) (g, .v (.int k (Max.max a b))) []) :: tr) (st ((d, (g, .v (.int k (Max.max a b)))) :: E) L n) K) :
    Reg P r N D B all i (⟨some d, .call { callee := .builtin .max, args := #[x, y], argTypes := tys }, ty, pos, aft, gd⟩ :: ops) tr (st E L n) K :=
  Reg.two rfl (fun h => by
    rw [entLV_true h hgx, entLV_true h hgy]
    refine OpC.of_pure2 (x := x) (y := y) rfl (by simp) fun md n0 cx H ρ w _ _ v1 v2 => ?_
    refine ⟨.int k (Max.max a b), ?_, V.mkval⟩
    simp [execOp, resolve, invoke, builtin, v1.val, v2.val, run_max2]) ho hg hx hy (by simp) h
theorem R.minI {x y : Operand} {gx gy : Bool} {k : IntKind} {a b : Int} {tys : Array TypeId}
    (ho : all[i]? = some ⟨some d, .call { callee := .builtin .min, args := #[x, y], argTypes := tys }, ty, pos, aft, gd⟩ := by rfl) (hg : GuardOk (en E) all gd g gn := by first | exact gN | exact gS rfl rfl)
    (hx : lvOf (en E) x = some (gx, .v (.int k a)) := by rfl) (hy : lvOf (en E) y = some (gy, .v (.int k b)) := by rfl) (hgx : g = true → gx = true := by first | exact fun _ => rfl | exact id) (hgy : g = true → gy = true := by first | exact fun _ => rfl | exact id)
    (h : Reg P r N D B all (i + 1) ops ((i, Ct.p gn [x, y] [(gx, .v (.int k a)), (gy, .v (.int k b))] (some d) (g, .v (.int k (Min.min a b))) []) :: tr) (st ((d, (g, .v (.int k (Min.min a b)))) :: E) L n) K) :
    Reg P r N D B all i (⟨some d, .call { callee := .builtin .min, args := #[x, y], argTypes := tys }, ty, pos, aft, gd⟩ :: ops) tr (st E L n) K :=
  Reg.two rfl (fun h => by
    rw [entLV_true h hgx, entLV_true h hgy]
    refine OpC.of_pure2 (x := x) (y := y) rfl (by simp) fun md n0 cx H ρ w _ _ v1 v2 => ?_
    refine ⟨.int k (Min.min a b), ?_, V.mkval⟩
    simp [execOp, resolve, invoke, builtin, v1.val, v2.val, run_min2]) ho hg hx hy (by simp) h
theorem Tr.newClosed {md : Nat → Prop} {n0 : Nat} {cx : Cx} {H : Hp} {w : World} (hok : HOk md n0 cx H w) (ob : Obj) (k : Nat) :
    Tr cx w (hp []) ⟨fun b => if b = w.heap.size then k else cx.pr b, cx.A, cx.loc, cx.inn⟩ (w.alloc ob) (hp []) (· ∈ ([] : List Nat)) := by
  have hold : ∀ b, b < w.heap.size → (w.alloc ob).heap[b]? = w.heap[b]? := fun b hb => heap_alloc_old w ob hb
  have hsz : (w.alloc ob).heap.size = w.heap.size + 1 := by simp
  have hprold : ∀ b, b < w.heap.size → (if b = w.heap.size then k else cx.pr b) = cx.pr b := fun b hb => by rw [if_neg (by omega)]
  refine ⟨fun o ho => ⟨ho, rfl⟩, fun o => by simp, ⟨rfl, rfl, rfl, by omega, fun b hb _ => hold b hb, fun b hb _ => hprold b hb, fun b off hb => ?_⟩,
      ⟨fun o x hx => by simp at hx, fun o x b hx => by simp at hx, fun o o' x x' b _ hx => by simp at hx, fun b hb => ?_⟩, fun _ _ _ => rfl⟩
  · have hbs := hok.lim b (by omega)
    refine ⟨by show off < (if b = w.heap.size then k else cx.pr b); rw [hprold b hbs]; exact hb, ?_⟩
    simp only [World.cell?, hold b hbs]
  · have hb' : 0 < (if b = w.heap.size then k else cx.pr b) := hb
    split at hb'
    · omega
    · have := hok.lim b hb'; omega
theorem ic_flat (k : IntKind) : ∀ l : List Int, (ic k l).flatten = l.map fun x => .val (.int k x)
  | [] => rfl
  | a :: l => by have := ic_flat k l; simp only [ic, List.map_cons, List.flatten_cons] at this ⊢; rw [this]; rfl
/-- a slice of zeroes, never written -/
theorem R.makeF {t e m : Nat} {k : IntKind} (hF : AppF P t e 1) (hz : ((P.info? e).bind fun i => i.zero) = some (.int k 0)) {x y : Operand} {k1 k2 : IntKind}
    (ho : all[i]? = some ⟨some d, .makeSlice t x y, ty, pos, aft, none⟩ := by rfl)
    (hx : lvOf (en E) x = some (true, .v (.int k1 (m : Nat))) := by rfl) (hy : lvOf (en E) y = some (true, .v (.int k2 (m : Nat))) := by rfl) (hm : m ≤ 16777216 := by decide)
    (h : Reg P r N D B all (i + 1) ops ((i, Ct.p [] [x, y] [(true, .v (.int k1 (m : Nat))), (true, .v (.int k2 (m : Nat)))] (some d) (true, .sv (.sl 1 (ic k (List.replicate m 0)))) []) :: tr) (st ((d, (true, .sv (.sl 1 (ic k (List.replicate m 0))))) :: E) L n) K) :
    Reg P r N D B all i (⟨some d, .makeSlice t x y, ty, pos, aft, none⟩ :: ops) tr (st E L n) K :=
  Reg.two (e := (true, .v (.int k1 (m : Nat)))) (f := (true, .v (.int k2 (m : Nat)))) rfl (fun _ => OpC.of_run (by simp) (by simp) fun md n0 cx H ρ w hok _ _ _ hv => by
    have hop : (Oper.mk (some d) (.makeSlice t x y) ty pos aft none).op.operands.toList = [x, y] := rfl
    rw [hop] at hv
    obtain ⟨v1, v2⟩ := Vs.two hv
    simp only [entLV] at v1 v2
    obtain ⟨hu, inf, z, hi, hzz, hs, hbb, _⟩ := hF.get
    have hz0 : inf.zero = some (.int k 0) := by rw [hi] at hz; simpa using hz
    have hrun := run_make w t e inf z hu hi hzz k1 k2 m m (by omega) (Int.le_refl _) (by have := Nat.mul_le_mul hbb hm; omega) (by omega)
    rw [hz0] at hzz
    cases hzz
    have hcells : madeCells (Value.int k 0).cells ((m : Int).toNat * inf.size) = (List.replicate m (Value.int k 0)).toArray := by
      rw [hs, Int.toNat_natCast, Nat.mul_one]
      apply Array.ext
      · simp [size_madeCells]
      · intro j h1 h2
        simp [madeCells, Value.cells, Nat.mod_one]
    rw [hcells] at hrun
    refine ⟨.value (.slice (some ⟨w.heap.size, 0, none⟩) m m), _, _, _, ?_, .inl rfl, Tr.newClosed hok (.cells (List.replicate m (Value.int k 0)).toArray e) m, ?_⟩
    · simp only [execOp, v1.val, v2.val, Sem.run_bind, hrun]
      simp
    · simp only [V, VS]
      refine .inr ⟨w.heap.size, 0, m, by simp [ic], by simp [ic], by unfold maxLen; omega, by simp [ic], ?_⟩
      refine VSR.of_list (heap_alloc_new w _) _ (List.replicate m (Value.int k 0)) 0 (fun e he => ?_) (by simp [ic]) (fun j hj => by simp [List.getElem?_replicate, Array.getElem?_replicate]) (fun u hu => ?_) (fun j c v hc hv => ?_)
      · obtain ⟨x, _, rfl⟩ := List.mem_map.1 he; rfl
      · obtain ⟨_, rfl⟩ := List.mem_replicate.1 hu; rfl
      · rw [ic_flat, List.getElem?_map] at hc
        have hj : j < m := by have := (List.getElem?_eq_some_iff.1 hv).1; simpa using this
        simp [hj] at hc hv
        subst hc hv
        simp [VS]) ho gN hx hy (by simp) h
end
end Go.Proofs.YteccglgbkehdeaaGreatDoor
/- A slice that is made and never written again, at once. -/
namespace Go.Proofs.YteccglgbkehdeaaGreatDoor
theorem ObjOk.rs_closed {cx : Cx} {w : World} {n T sz : Nat} {ys : List (List SV)} {pr' : Nat → Nat} (h : ObjOk cx w n (.rs T sz ys)) (hext : Ext cx.pr w pr' w) (hp : ∀ b, bk (cx.loc n) = some b → ys.length * sz ≤ pr' b) : VS pr' w (.sl sz ys) (cx.loc n) := by
  obtain ⟨hsz, vs, hown, hvs, hones⟩ := h
  simp only [VS]
  rcases hown.2 with ⟨e1, e2⟩ | ⟨gb, cap, cur, e1, _, e2, e3, e4, e5, e6⟩
  · exact .inl ⟨.inl e1, List.eq_nil_of_length_eq_zero e2⟩
  · refine .inr ⟨gb, 0, cap, e1, e3, e4, by have := hp gb (by rw [e1]; rfl); omega, ?_⟩
    refine VSR.of_list e2 ys vs 0 (fun e he => ?_) hown.1 (fun j hj => ?_) hones (fun j c u hc hu => ?_)
    · have := hsz e he; simpa using this
    · rw [Nat.zero_add, ← e6, List.getElem?_take, if_pos (by rw [← hown.1]; exact hj)]
      simp
    · obtain ⟨v', hv', hV⟩ := hvs.get (i := j) (c := .sv c) (by rw [List.getElem?_map, hc]; rfl)
      rw [hu] at hv'; cases hv'
      simp only [V] at hV
      exact VS.mono hext c u hV
theorem OpC.shut {P : Program} {r : Option Nat} {o : Oper} {lvs : List LV} {rd Hi : List (Nat × LO)} {n T sz : Nat} {ys : List (List SV)} (h : OpC P r o lvs rd Hi (.ref n) [(n, .rs T sz ys)] [n]) :
    OpC P r o lvs rd Hi (.sv (.sl sz ys)) [] [n] := by
  refine ⟨by simp, fun md n0 cx H a w K Q hok ham hrd hHi hnew hv hK => ?_⟩
  refine h.2 md n0 cx H a w K Q hok ham hrd hHi hnew hv (fun cx' w' v t hv' => ?_)
  simp only [V] at hv'
  obtain ⟨hA, rfl, _⟩ := hv'
  have hob : hp [(n, LO.rs T sz ys)] n = some (.rs T sz ys) := by simp
  have hnb : ∀ b, bk (cx'.loc n) = some b → cx'.pr b = 0 ∧ b < w'.heap.size ∧ (w.heap.size ≤ b ∨ blks cx (hp Hi) b) := fun b hb => t.heap.own n _ b hob (.inl hb)
  let pr' : Nat → Nat := fun b => if bk (cx'.loc n) = some b then ys.length * sz else cx'.pr b
  have hext : Ext cx'.pr w' pr' w' := fun b off hbo => by
    refine ⟨?_, rfl⟩
    show off < (if bk (cx'.loc n) = some b then _ else _)
    split
    · rename_i hh; have := (hnb b hh).1; omega
    · exact hbo
  refine hK ⟨pr', cx'.A, cx'.loc, cx'.inn⟩ w' _ ⟨t.le, t.A, ⟨t.grow.os, t.grow.tape, t.grow.output, t.grow.size, t.grow.same, fun b hlt hn => ?_, t.grow.ext.trans hext⟩,
    ⟨fun q y hy => by simp at hy, fun q y b hy => by simp at hy, fun q q' y y' b _ hy => by simp at hy, fun b hb => ?_⟩, t.inn⟩ ?_
  · show (if bk (cx'.loc n) = some b then _ else cx'.pr b) = _
    rw [if_neg (fun hh => ?_)]
    · exact t.grow.prs b hlt hn
    · rcases (hnb b hh).2.2 with h1 | h1
      · omega
      · exact hn h1
  · have hb' : 0 < (if bk (cx'.loc n) = some b then ys.length * sz else cx'.pr b) := hb
    split at hb'
    · rename_i hh; exact (hnb b hh).2.1
    · exact t.heap.lim b hb'
  · simp only [V]
    exact ObjOk.rs_closed (t.heap.ok n _ hob).2 hext (fun b hb => by show _ ≤ (if bk (cx'.loc n) = some b then _ else _); rw [if_pos hb]; exact Nat.le_refl _)
section
variable {P : Program} {r : Option Nat} {N : Nat} {D : List Nat} {B : Base} {all : Array Oper} {K : List (Nat × Ct) → St → Prop}
variable {i : Nat} {ops : List Oper} {tr : List (Nat × Ct)} {E : List (Nat × Ent)} {L : List (Nat × LO)} {n : Nat} {g : Bool} {gn : List (Nat × Ent)}
variable {d ty : Nat} {pos : String} {aft : Array Edge} {gd : Option (Nat × Bool)}
theorem updL_del (L : List (Nat × LO)) (o : Nat) (x : LO) : updL L [(o, x)] [] = delL o L := by
  simp only [updL, delL, List.nil_append, List.map_cons, List.map_nil]
  congr 1
  funext p
  by_cases hpo : p.1 = o <;> simp [hpo]
/-- what is appended to is written no more -/
theorem R.appendF {t tx e sz : Nat} (hF : AppF P t e sz) {x y : Operand} {o : Nat} {xs ys : List (List SV)} {lv : LV} {rd : List (Nat × LO)}
    (ho : all[i]? = some ⟨some d, .call { callee := .builtin .append, args := #[x, y], argTypes := #[t, tx] }, ty, pos, aft, none⟩ := by rfl)
    (hx : lvOf (en E) x = some (true, .ref o) := by rfl) (hy : lvOf (en E) y = some (true, lv) := by rfl) (hb : hp L o = some (.rs e sz xs) := by rfl)
    (hs : SrcOk P tx sz lv rd (ys.map (List.map LV.sv))) (hrd : ∀ k x, hp rd k = some x → hp L k = some x := by first | exact noHo | exact oneL rfl) (h0 : 0 < sz := by decide) (hlen : (xs.length + ys.length) * sz ≤ 4398046511104)
    (h : Reg P r N D B all (i + 1) ops ((i, ⟨needOf [x, y] [(true, .ref o), (true, lv)], some d, (true, .sv (.sl sz (xs ++ ys))), rd, [(o, .rs e sz xs)], [], [n]⟩) :: tr) (st ((d, (true, .sv (.sl sz (xs ++ ys)))) :: E) (delL o L) (n + 1)) K) :
    Reg P r N D B all i (⟨some d, .call { callee := .builtin .append, args := #[x, y], argTypes := #[t, tx] }, ty, pos, aft, none⟩ :: ops) tr (st E L n) K := by
  refine Reg.gen (m := 1) (es := [(true, .ref o), (true, lv)]) (rd := rd) (Hi := [(o, .rs e sz xs)]) (Ho := []) (out := .sv (.sl sz (xs ++ ys))) ho gN ⟨_, _, rfl, hx, _, _, rfl, hy, rfl⟩ hrd (oneL hb) ?_ ?_
  · refine OpC.shut (T := e) ?_
    refine OpC.of_run (by simp) (by simp) fun md n0 cx H ρ w hok hrd' hHi hnew hv => ?_
    have hop : (Oper.mk (some d) (.call { callee := .builtin .append, args := #[x, y], argTypes := #[t, tx] }) ty pos aft none).op.operands.toList = [x, y] := rfl
    rw [hop] at hv
    obtain ⟨v1, v2⟩ := Vs.two hv
    simp only [entLV] at v1 v2
    obtain ⟨news, hsrc, hnv⟩ := hs.2 md n0 cx H w _ hok hrd' v2
    simp only [V] at v1
    have hob := hHi o (.rs e sz xs) (by simp)
    obtain ⟨v, w', cx', h1, h2, h3⟩ := run_append (o' := n) (xs := xs.map (List.map LV.sv)) (ys := ys.map (List.map LV.sv)) hF h0 (hok.tell hob ObjOk.rs_row) (o := o) (by simp [tellH]) (hnew n (by simp)) hsrc hs.1 hnv (by simpa using hlen) ty
    refine ⟨_, v, w', cx', ?_, .inl rfl, h2.tell (fun hx => ObjOk.row_rs (by simpa using hx)), h3⟩
    have hx' : ρ x = cx.loc o := v1.2.1
    simp [execOp, resolve, invoke, builtin, hx', h1]
  · have e1 : st (putL (some d) (true, .sv (.sl sz (xs ++ ys))) E) (updL L [(o, .rs e sz xs)] []) (n + 1) = st ((d, (true, .sv (.sl sz (xs ++ ys)))) :: E) (delL o L) (n + 1) := by
      simp only [st, updL_del, putL]
    rw [e1]; exact h
end
end Go.Proofs.YteccglgbkehdeaaGreatDoor
/- A cell of an element of a slice of one's own is written. -/
namespace Go.Proofs.YteccglgbkehdeaaGreatDoor
theorem flat_set1 {sz : Nat} : ∀ (xs : List (List SV)) (j f : Nat) (c : SV) (ev : List SV), (∀ e ∈ xs, e.length = sz) → xs[j]? = some ev → f < sz → (xs.set j (ev.set f c)).flatten = xs.flatten.set (j * sz + f) c
  | [], j, f, c, ev, _, h, _ => by simp at h
  | x :: xs, 0, f, c, ev, hs, h, hf => by
    simp at h
    subst h
    have hx := hs x (by simp)
    rw [List.set_cons_zero, List.flatten_cons, List.flatten_cons, Nat.zero_mul, Nat.zero_add, List.set_append_left _ _ (by omega)]
  | x :: xs, j + 1, f, c, ev, hs, h, hf => by
    have hx := hs x (by simp)
    have ih := flat_set1 xs j f c ev (fun e h' => hs e (by simp [h'])) (by simpa using h) hf
    rw [List.set_cons_succ, List.flatten_cons, List.flatten_cons, ih, List.set_append_right _ _ (by rw [hx, Nat.succ_mul]; omega)]
    congr 2
    rw [hx, Nat.succ_mul]; omega
section
variable {P : Program} {r : Option Nat} {N : Nat} {D : List Nat} {B : Base} {all : Array Oper} {K : List (Nat × Ct) → St → Prop}
variable {i : Nat} {ops : List Oper} {tr : List (Nat × Ct)} {E : List (Nat × Ent)} {L : List (Nat × LO)} {n : Nat}
variable {ty : Nat} {pos : String} {aft : Array Edge}
theorem R.storeRs1 {T e sz : Nat} (hF : OneF P T) {x y : Operand} {o off : Nat} {xs : List (List SV)} {c : SV} (j f : Nat) (ev : List SV)
    (ho : all[i]? = some ⟨none, .store T x y, ty, pos, aft, none⟩ := by rfl)
    (hx : lvOf (en E) x = some (true, .ptr o off) := by rfl) (hy : lvOf (en E) y = some (true, .sv c) := by rfl) (h1 : (LV.sv c).one = true := by rfl) (hb : hp L o = some (.rs e sz xs) := by rfl)
    (hj : xs[j]? = some ev) (hoff : off = j * sz + f := by omega) (h0 : f < sz := by decide)
    (h : Reg P r N D B all (i + 1) ops ((i, ⟨needOf [x, y] [(true, .ptr o off), (true, .sv c)], none, (true, .v undef), [], [(o, .rs e sz xs)], [(o, .rs e sz (xs.set j (ev.set f c)))], []⟩) :: tr) (st E ((o, .rs e sz (xs.set j (ev.set f c))) :: L) n) K) :
    Reg P r N D B all i (⟨none, .store T x y, ty, pos, aft, none⟩ :: ops) tr (st E L n) K :=
  Reg.set (es := [(true, .ptr o off), (true, .sv c)]) (rd := []) ho gN ⟨_, _, rfl, hx, _, _, rfl, hy, rfl⟩ (by simp) hb (OpC.of_run (by simp) (by simp) fun md n0 cx H ρ w hok _ hHi _ hv => by
    obtain ⟨v1, v2⟩ := Vs.two hv
    simp only [entLV] at v1 v2
    have hob := hHi o (.rs e sz xs) (by simp)
    obtain ⟨hA, hsz, vs, hown, hvs, hone⟩ := hok.ok o _ hob
    simp only [V] at v1
    obtain ⟨_, b, hbk, hp1⟩ := v1
    have hjl : j < xs.length := (List.getElem?_eq_some_iff.1 hj).1
    rcases hown.2 with ⟨e1, e2⟩ | ⟨gb, cap, cur, e1, eb, e2, e3, e4, e5, e6⟩
    · omega
    · have hbk' := hbk
      rw [e1] at hbk
      simp only [bk, Option.some.injEq] at hbk
      subst hbk
      have hjs : j * sz + sz ≤ xs.length * sz := by rw [← Nat.succ_mul]; exact Nat.mul_le_mul_right _ hjl
      have hcs : xs.length * sz ≤ cur.size := by rw [e5]; exact Nat.mul_le_mul_right _ e3
      have hlt : off < cur.size := by omega
      have hon := LV.one_spec h1 v2
      have hcell : w.cell? ⟨gb, off, none⟩ = some cur[off] := by simp [World.cell?, e2, hlt]
      have hfr : w.frozen? ⟨gb, off, none⟩ = false := by simp [World.frozen?, e2]
      have hw' : (w.setCell ⟨gb, off, none⟩ (ρ y)).heap[gb]? = some (.cells (cur.setIfInBounds off (ρ y)) e (0, 0)) := by
        simp only [World.setCell, Array.getElem?_modify, if_true, e2, Option.map_some]
        simp
      have hoth : ∀ k, k ≠ gb → (w.setCell ⟨gb, off, none⟩ (ρ y)).heap[k]? = w.heap[k]? := by
        intro k hk
        simp only [World.setCell, Array.getElem?_modify, if_neg (Ne.symm hk)]
      have hlen : (xs.set j (ev.set f c)).length = xs.length := List.length_set
      have hel : ev.length = sz := hsz ev (List.mem_of_getElem? hj)
      refine ⟨.skip, undef, w.setCell ⟨gb, off, none⟩ (ρ y), cx, ?_, .inr ⟨rfl, rfl⟩, Tr.set hok hob hbk' ⟨rfl, rfl, rfl⟩ (by simp [World.setCell]) hoth (fun hext => ?_), V.mkval⟩
      · have hst := run_store P w ⟨gb, off, none⟩ (ρ y) .plain hon
        rw [hcell] at hst
        simp only [hfr, Bool.false_eq_true, if_false] at hst
        have hadd : (⟨gb, off, none⟩ : Addr).add 0 = ⟨gb, off, none⟩ := rfl
        simp [execOp, hp1, Instr.storeAt, Instr.sureAddr, storeVar, cells_one hon, hF.2 w, storeCells, hadd, hst]
      · refine ⟨set_lens hsz (by rw [List.length_set]; exact hel) j, vs.set off (ρ y), ⟨?_, .inr ⟨gb, cap, _, ?_, eb, hw', ?_, e4, ?_, ?_⟩⟩, ?_, ?_⟩
        · rw [hlen, List.length_set]; exact hown.1
        · rw [hlen]; exact e1
        · rw [hlen]; exact e3
        · rw [← e5]; simp
        · rw [hlen, ← e6, Array.toList_setIfInBounds, List.take_set]
        · rw [flat_set1 xs j f c ev hsz hj h0, List.map_set, ← hoff]
          exact Vs.set (Vs.mono (CxLe.refl _) hext _ _ hvs) (V.mono (CxLe.refl _) hext _ _ v2)
        · intro u hu'
          rcases List.mem_or_eq_of_mem_set hu' with hu' | rfl
          · exact hone u hu'
          · exact hon) h
end
end Go.Proofs.YteccglgbkehdeaaGreatDoor
/- max of three numbers. -/
namespace Go.Proofs.YteccglgbkehdeaaGreatDoor
section
variable {P : Program} {r : Option Nat} {N : Nat} {D : List Nat} {B : Base} {all : Array Oper} {K : List (Nat × Ct) → St → Prop}
variable {i : Nat} {ops : List Oper} {tr : List (Nat × Ct)} {E : List (Nat × Ent)} {L : List (Nat × LO)} {n : Nat} {g : Bool} {gn : List (Nat × Ent)}
variable {d ty : Nat} {pos : String} {aft : Array Edge} {gd : Option (Nat × Bool)}
end
end Go.Proofs.YteccglgbkehdeaaGreatDoor
/- A text as0 an argument. -/
namespace Go.Proofs.YteccglgbkehdeaaGreatDoor
section
open Go.ChangeShapes Go.WideShapes Go.Deep Go.RowKit Go.ChangeAt
end
end Go.Proofs.YteccglgbkehdeaaGreatDoor
/- Tables of a package, interface values of plain values, arrays as0 values. -/
namespace Go.Proofs.YteccglgbkehdeaaGreatDoor
theorem OpC.of_amb {P : Program} {r : Option Nat} {o : Oper} {lvs : List LV} {rd : List (Nat × LO)} {out : LV} (hnd : ∀ c, o.op ≠ .defer c)
    (h : ∀ (md : Nat → Prop) (n0 : Nat) (cx : Cx) (H : Hp) (ρ : Operand → Value) (w : World), HOk md n0 cx H w → Amb cx.pr w → (∀ o x, hp rd o = some x → H o = some x) → Vs cx w lvs (o.op.operands.toList.map ρ) →
      ∃ v, (execOp ρ o).run P w = .ok (.value v) w ∧ V cx w out v) : OpC P r o lvs rd [] out [] [] := by
  refine ⟨by simp, fun md n0 cx H a w K Q hok ham hrd hHi hnew hv hK => ?_⟩
  obtain ⟨v, h1, h4⟩ := h md n0 cx H a.eval w hok ham hrd hv
  refine ⟨fun _ _ => trivial, ?_⟩
  rw [Oper.semAt_eq _ _ _ hnd, h1]
  exact hK _ _ _ (Tr.idle hok) h4
theorem vs_v (cx : Cx) (w : World) : ∀ l : List Value, Vs cx w (l.map LV.v) l
  | [] => by simp [Vs]
  | v :: l => by simp only [List.map_cons, Vs]; exact ⟨v, l, rfl, V.mkval, vs_v cx w l⟩
section
variable {P : Program} {r : Option Nat} {N : Nat} {D : List Nat} {B : Base} {all : Array Oper} {K : List (Nat × Ct) → St → Prop}
variable {i : Nat} {ops : List Oper} {tr : List (Nat × Ct)} {E : List (Nat × Ent)} {L : List (Nat × LO)} {n : Nat} {g : Bool} {gn : List (Nat × Ent)}
variable {d ty : Nat} {pos : String} {aft : Array Edge} {gd : Option (Nat × Bool)}
/-- the place of an element of an array at a plain place -/
theorem R.gIndex {T len sz : Nat} (hF : IndexAF P T len sz) {x y : Operand} {gx gy : Bool} {b off : Nat} {k : IntKind} {j : Int}
    (ho : all[i]? = some ⟨some d, .indexAddr T x y, ty, pos, aft, gd⟩ := by rfl) (hg : GuardOk (en E) all gd g gn := by first | exact gN | exact gS rfl rfl)
    (hx : lvOf (en E) x = some (gx, .v (.pointer (some ⟨b, off, none⟩))) := by rfl) (hy : lvOf (en E) y = some (gy, .v (.int k j)) := by rfl)
    (hgx : g = true → gx = true := by first | exact fun _ => rfl | exact id) (hgy : g = true → gy = true := by first | exact fun _ => rfl | exact id)
    (hj : g = true → 0 ≤ j ∧ j < len)
    (h : Reg P r N D B all (i + 1) ops ((i, Ct.p gn [x, y] [(gx, .v (.pointer (some ⟨b, off, none⟩))), (gy, .v (.int k j))] (some d) (g, .v (.pointer (some ⟨b, off + j.toNat * sz, none⟩))) []) :: tr) (st ((d, (g, .v (.pointer (some ⟨b, off + j.toNat * sz, none⟩)))) :: E) L n) K) :
    Reg P r N D B all i (⟨some d, .indexAddr T x y, ty, pos, aft, gd⟩ :: ops) tr (st E L n) K :=
  Reg.two rfl (fun h => by
    rw [entLV_true h hgx, entLV_true h hgy]
    refine OpC.of_pure2 (x := x) (y := y) rfl (by simp) fun md n0 cx H ρ w hok hrd v1 v2 => ?_
    obtain ⟨h0, hlt⟩ := hj h
    exact ⟨.pointer (some ⟨b, off + j.toNat * sz, none⟩), by simp only [execOp, v1.val, v2.val]; simp [hF b off k j w h0 hlt], V.mkval⟩) ho hg hx hy (by simp) h
/-- one cell of a package's table -/
theorem R.gLoad1 {T : Nat} (hF : OneF P T) {x : Operand} {gx : Bool} {b off : Nat} {cs : List Value} {v : Value} (hm : (b, cs) ∈ tabs)
    (ho : all[i]? = some ⟨some d, .load T x, ty, pos, aft, gd⟩ := by rfl) (hg : GuardOk (en E) all gd g gn := by first | exact gN | exact gS rfl rfl)
    (hx : lvOf (en E) x = some (gx, .v (.pointer (some ⟨b, off, none⟩))) := by rfl) (hgx : g = true → gx = true := by first | exact fun _ => rfl | exact id) (hc : g = true → cs[off]? = some v)
    (h : Reg P r N D B all (i + 1) ops ((i, Ct.p gn [x] [(gx, .v (.pointer (some ⟨b, off, none⟩)))] (some d) (g, .v v) []) :: tr) (st ((d, (g, .v v)) :: E) L n) K) :
    Reg P r N D B all i (⟨some d, .load T x, ty, pos, aft, gd⟩ :: ops) tr (st E L n) K :=
  Reg.one rfl (fun h => by
    rw [entLV_true h hgx]
    refine OpC.of_amb (by simp) fun md n0 cx H ρ w hok ham _ hv => ?_
    have hop : (Oper.mk (some d) (.load T x) ty pos aft gd).op.operands.toList = [x] := rfl
    rw [hop] at hv
    have e := (Vs.one hv).val
    obtain ⟨_, T', fr, hb⟩ := ham.1 _ hm
    have hcell : w.cell? ⟨b, off, none⟩ = some v := by simp [World.cell?, hb, hc h]
    exact ⟨v, by simp [execOp, e, Instr.loadAt, Instr.sureAddr, loadVar, hF.1 w, hcell], V.mkval⟩) ho hg hx (by simp) h
/-- the whole of a package's table -/
theorem R.gLoadN {T sz : Nat} (hF : AggF P T sz) {x : Operand} {gx : Bool} {b : Nat} {cs : List Value} (hm : (b, cs) ∈ tabs)
    (ho : all[i]? = some ⟨some d, .load T x, ty, pos, aft, gd⟩ := by rfl) (hg : GuardOk (en E) all gd g gn := by first | exact gN | exact gS rfl rfl)
    (hx : lvOf (en E) x = some (gx, .v (.pointer (some ⟨b, 0, none⟩))) := by rfl) (hgx : g = true → gx = true := by first | exact fun _ => rfl | exact id) (hc : cs.length = sz := by rfl)
    (h : Reg P r N D B all (i + 1) ops ((i, Ct.p gn [x] [(gx, .v (.pointer (some ⟨b, 0, none⟩)))] (some d) (g, .agg (cs.map LV.v)) []) :: tr) (st ((d, (g, .agg (cs.map LV.v))) :: E) L n) K) :
    Reg P r N D B all i (⟨some d, .load T x, ty, pos, aft, gd⟩ :: ops) tr (st E L n) K :=
  Reg.one rfl (fun h => by
    rw [entLV_true h hgx]
    refine OpC.of_amb (by simp) fun md n0 cx H ρ w hok ham _ hv => ?_
    have hop : (Oper.mk (some d) (.load T x) ty pos aft gd).op.operands.toList = [x] := rfl
    rw [hop] at hv
    have e := (Vs.one hv).val
    obtain ⟨_, T', fr, hb⟩ := ham.1 _ hm
    refine ⟨.agg cs.toArray, ?_, by simp only [V]; exact ⟨cs, rfl, vs_v cx w cs⟩⟩
    have hl : (loadCells ⟨b, 0, none⟩ cs.length).run P w = .ok cs.toArray w := run_loadCells_list (P := P) w ⟨b, 0, none⟩ cs (fun j v hv => by
      rw [add_off, Nat.zero_add]; simp [World.cell?, hb, hv])
    rw [hc] at hl
    simp [execOp, e, Instr.loadAt, Instr.sureAddr, loadVar, hF.1 w, hF.2 w, hl]) ho hg hx (by simp) h
/-- an element, of several cells, of an array's value of plain cells -/
def IndexVF (P : Program) (T len sz : Nat) : Prop := ∃ e, (∀ w, (underlying T).run P w = .ok (.array len e) w) ∧ (∀ w, (isAgg e).run P w = .ok true w) ∧ (∀ w, (sizeOf e).run P w = .ok sz w)
theorem R.indexVN {T len sz : Nat} (hF : IndexVF P T len sz) {x y : Operand} {gx gy : Bool} {cs : List Value} {k : IntKind} {j : Int}
    (ho : all[i]? = some ⟨some d, .index T x y, ty, pos, aft, gd⟩ := by rfl) (hg : GuardOk (en E) all gd g gn := by first | exact gN | exact gS rfl rfl)
    (hx : lvOf (en E) x = some (gx, .agg (cs.map LV.v)) := by rfl) (hy : lvOf (en E) y = some (gy, .v (.int k j)) := by rfl)
    (hgx : g = true → gx = true := by first | exact fun _ => rfl | exact id) (hgy : g = true → gy = true := by first | exact fun _ => rfl | exact id)
    (hj : g = true → 0 ≤ j ∧ j < len)
    (h : Reg P r N D B all (i + 1) ops ((i, Ct.p gn [x, y] [(gx, .agg (cs.map LV.v)), (gy, .v (.int k j))] (some d) (g, .agg (((cs.drop (j.toNat * sz)).take sz).map LV.v)) []) :: tr) (st ((d, (g, .agg (((cs.drop (j.toNat * sz)).take sz).map LV.v))) :: E) L n) K) :
    Reg P r N D B all i (⟨some d, .index T x y, ty, pos, aft, gd⟩ :: ops) tr (st E L n) K :=
  Reg.two rfl (fun h => by
    rw [entLV_true h hgx, entLV_true h hgy]
    refine OpC.of_pure2 (x := x) (y := y) rfl (by simp) fun md n0 cx H ρ w hok hrd v1 v2 => ?_
    obtain ⟨h0, hlt⟩ := hj h
    obtain ⟨e, hT, he, hs⟩ := hF
    have e1 := V.aggV (cs := cs) rfl v1
    refine ⟨.agg ((cs.drop (j.toNat * sz)).take sz).toArray, ?_, by simp only [V]; exact ⟨_, rfl, vs_v cx w _⟩⟩
    have hx : cs.toArray.extract (j.toNat * sz) (j.toNat * sz + sz) = ((cs.drop (j.toNat * sz)).take sz).toArray := by
      rw [List.extract_toArray, List.extract_eq_take_drop]; congr 2; omega
    simp only [execOp, e1, v2.val]
    simp [Instr.index, asIntOf, hT w, hs w, h0, hlt, part, he w, hx]) ho hg hx hy (by simp) h
end
end Go.Proofs.YteccglgbkehdeaaGreatDoor
/- make: a slice of one's own. -/
namespace Go.Proofs.YteccglgbkehdeaaGreatDoor
section
variable {P : Program} {r : Option Nat} {N : Nat} {D : List Nat} {B : Base} {all : Array Oper} {K : List (Nat × Ct) → St → Prop}
variable {i : Nat} {ops : List Oper} {tr : List (Nat × Ct)} {E : List (Nat × Ent)} {L : List (Nat × LO)} {n : Nat} {g : Bool} {gn : List (Nat × Ent)}
variable {d ty : Nat} {pos : String} {aft : Array Edge} {gd : Option (Nat × Bool)}
theorem makeCells_rep (v : Value) (h : v.cells = #[v]) (m : Nat) : madeCells v.cells m = (List.replicate m v).toArray := by
  rw [h]
  apply Array.ext
  · simp [size_madeCells]
  · intro j h1 h2
    simp [madeCells, Nat.mod_one]
/-- a slice of zeroes, of one's own, with room for more -/
theorem R.makeOwn {t e : Nat} {k : IntKind} (hF : AppF P t e 1) (hz : ((P.info? e).bind fun i => i.zero) = some (.int k 0)) {x y : Operand} {k1 k2 : IntKind} {l c : Int}
    (ho : all[i]? = some ⟨some d, .makeSlice t x y, ty, pos, aft, none⟩ := by rfl)
    (hx : lvOf (en E) x = some (true, .v (.int k1 l)) := by rfl) (hy : lvOf (en E) y = some (true, .v (.int k2 c)) := by rfl) (h0 : 0 ≤ l) (hlc : l ≤ c) (hm : c ≤ 16777216)
    (h : Reg P r N D B all (i + 1) ops ((i, ⟨needOf [x, y] [(true, .v (.int k1 l)), (true, .v (.int k2 c))], some d, (true, .ref n), [], [], [(n, .rs e 1 (ic k (List.replicate l.toNat 0)))], [n]⟩) :: tr) (st ((d, (true, .ref n)) :: E) ((n, .rs e 1 (ic k (List.replicate l.toNat 0))) :: L) (n + 1)) K) :
    Reg P r N D B all i (⟨some d, .makeSlice t x y, ty, pos, aft, none⟩ :: ops) tr (st E L n) K := by
  have hop : (Oper.mk (some d) (.makeSlice t x y) ty pos aft none).op.operands.toList = [x, y] := rfl
  refine Reg.new (es := [(true, .v (.int k1 l)), (true, .v (.int k2 c))]) (rd := []) ho gN ?_ (by simp) (OpC.tellNew (x := .row e 1 ((ic k (List.replicate l.toNat 0)).map (List.map LV.sv))) ?_ (fun cx w hx => ObjOk.row_rs hx)) (by rw [hop]; exact h)
  · rw [hop]; exact ⟨_, _, rfl, hx, _, _, rfl, hy, rfl⟩
  · refine OpC.of_run (by simp) (by simp) fun md n0 cx H ρ w hok _ _ hnew hv => ?_
    rw [hop] at hv
    obtain ⟨v1, v2⟩ := Vs.two hv
    simp only [entLV] at v1 v2
    obtain ⟨hu, inf, z, hi, hzz, hs, hbb, _⟩ := hF.get
    have hz0 : inf.zero = some (.int k 0) := by rw [hi] at hz; simpa using hz
    have hb2 : (inf.bytes : Int) * c ≤ 281474976710656 := by
      have h1 : (inf.bytes : Int) * c ≤ 16777216 * 16777216 := Int.mul_le_mul (by omega) hm (by omega) (by omega)
      omega
    have hrun := run_make w t e inf z hu hi hzz k1 k2 l c h0 hlc hb2 (by omega)
    rw [hz0] at hzz
    cases hzz
    rw [hs, Nat.mul_one, makeCells_rep _ rfl] at hrun
    have hfl : ((ic k (List.replicate l.toNat 0)).map (List.map LV.sv)).flatten = (List.replicate l.toNat (Value.int k 0)).map LV.v := by
      rw [closed_flat, ic_flat]; simp
    have hln : ((ic k (List.replicate l.toNat 0)).map (List.map LV.sv)).length = l.toNat := by simp [ic]
    obtain ⟨cx', t1, hv'⟩ := row_new (T := e) (sz := 1) (w0 := w) (xs := (ic k (List.replicate l.toNat 0)).map (List.map LV.sv)) (vs := List.replicate l.toNat (Value.int k 0)) (cells := (List.replicate c.toNat (Value.int k 0)).toArray) (cap := c.toNat) hok (hnew n (by simp)) ⟨rfl, rfl, rfl, rfl⟩
      (by simp [ic]) (by rw [hfl]; exact vs_v cx w _) (fun u hu => by rw [(List.mem_replicate.1 hu).2]; rfl) (by rw [hln]; omega) (by unfold maxLen; omega) (by simp) (by rw [hln]; simp; omega)
    rw [hln] at hv'
    refine ⟨_, _, _, cx', ?_, .inl rfl, t1, hv'⟩
    simp only [execOp, v1.val, v2.val, Sem.run_bind, hrun]
    simp
end
end Go.Proofs.YteccglgbkehdeaaGreatDoor
/- A call of 'yield' that hangs on a sign; rounds in a row by their states. -/
namespace Go.Proofs.YteccglgbkehdeaaGreatDoor
section
variable {P : Program} {r : Option Nat} {N : Nat} {D : List Nat} {B : Base} {all : Array Oper} {K : List (Nat × Ct) → St → Prop}
variable {i : Nat} {ops : List Oper} {tr : List (Nat × Ct)} {E : List (Nat × Ent)} {L : List (Nat × LO)} {n : Nat} {g : Bool} {gn : List (Nat × Ent)}
variable {d ty : Nat} {pos : String} {aft : Array Edge} {gd : Option (Nat × Bool)}
theorem R.callYldG {y : Nat} {fo : Operand} {args : Array Operand} {ats : Array TypeId} {es : List Ent} {lvs : List LV} {Lc Lc1 : List (Nat × LO)} {b : Bool} (hc : Yld P y lvs Lc b Lc1)
    (ho : all[i]? = some ⟨some d, .call { callee := .value fo, args := args, argTypes := ats }, ty, pos, aft, gd⟩ := by rfl) (hg : GuardOk (en E) all gd g gn := by first | exact gN | exact gS rfl rfl) (hgt : g = true := by rfl)
    (hf : lvOf (en E) fo = some (true, .yld y) := by rfl)
    (hx : args.toList.map (lvOf (en E)) = es.map some := by rfl) (hes : es.map entLV = lvs := by rfl) (hL : ∀ k x, hp Lc k = some x → hp L k = some x)
    (h : Reg P r N D B all (i + 1) ops ((i, ⟨gn ++ needOf (fo :: args.toList) ((true, .yld y) :: es), some d, (true, .b b), [], Lc, Lc1, []⟩) :: tr) (st ((d, (true, .b b)) :: E) (Lc1 ++ L) n) K) :
    Reg P r N D B all i (⟨some d, .call { callee := .value fo, args := args, argTypes := ats }, ty, pos, aft, gd⟩ :: ops) tr (st E L n) K := by
  have hl : (Oper.mk (some d) (.call { callee := .value fo, args := args, argTypes := ats }) ty pos aft gd).op.operands.toList = fo :: args.toList := by simp [Op.operands, Go.Call.operands]
  have hop : Opnds (en E) (fo :: args.toList) ((true, .yld y) :: es) := ⟨_, _, rfl, hf, Opnds.of_map hx⟩
  subst hgt
  refine Reg.cons (c := ⟨gn ++ needOf (fo :: args.toList) ((true, .yld y) :: es), some d, (true, .b b), [], Lc, Lc1, []⟩) (fun hN => ?_) ⟨fun p hp' => by
    rcases List.mem_append.1 hp' with h1 | h1
    · exact hg.need p h1
    · exact hop.need p h1, by simp, hL, by simp⟩ ?_
  · have := CtOk.of_op (r := r) (D := D) (B := B) (o := ⟨some d, .call { callee := .value fo, args := args, argTypes := ats }, ty, pos, aft, gd⟩) (es := (true, .yld y) :: es) (E := en E) (out := .b b) ho hN.dst hg
      (fun _ => by have := OpC.yld (r := r) hc (o := ⟨some d, .call { callee := .value fo, args := args, argTypes := ats }, ty, pos, aft, gd⟩) rfl rfl; rw [← hes] at this; exact this) (by rw [hl]; exact hop) (.inl rfl)
    rw [hl] at this
    simpa using this
  · have : (Ct.app ⟨gn ++ needOf (fo :: args.toList) ((true, .yld y) :: es), some d, (true, .b b), [], Lc, Lc1, []⟩ (st E L n)) = st ((d, (true, .b b)) :: E) (Lc1 ++ L) n := by
      simp only [Ct.app, putE_putL, putL]
      congr 1
      · funext k
        simp only [Hp.upd, hp, lookup_append']
        cases hk : Lc1.lookup k with
        | some x => rfl
        | none =>
          simp only []
          cases hk2 : Lc.lookup k with
          | some x =>
            exfalso
            have h1 : k ∈ Lc1.map (·.1) := by rw [hc.1]; exact List.mem_map.2 ⟨_, lookup_mem' hk2, rfl⟩
            obtain ⟨p, hp', rfl⟩ := List.mem_map.1 h1
            have := lookup_of_nodup (l := Lc1) (by rw [hc.1, hc.2.rng]; exact List.nodup_range) (k := p.1) (v := p.2) hp'
            rw [this] at hk; cases hk
          | none => rfl
      · funext k; simp
    rw [this]; exact h
end
/-- rounds in a row: S j are the objects before round j; C says what all of them hold -/
structure YGo (P : Program) (y m : Nat) (xs : List LV) (C : List (Nat × LO) → Prop) (S : Nat → List (Nat × LO)) : Prop where
  keys : ∀ j, j ≤ xs.length → (S j).map (·.1) = List.range m
  lt : ∀ j, j ≤ xs.length → ∀ p ∈ S j, p.2.lt m = true
  hold : ∀ j, j ≤ xs.length → C (S j)
  step : ∀ j (h : j < xs.length), Yld P y [xs[j]] (S j) true (S (j + 1))
theorem YGo.keep {P : Program} {y m : Nat} {xs : List LV} {C : List (Nat × LO) → Prop} {S : Nat → List (Nat × LO)} (h : YGo P y m xs C S) {j : Nat} (hj : j ≤ xs.length) (L : List (Nat × LO)) : KeepL (hp (S j ++ L)) (S j) :=
  KeepL.app (by rw [h.keys j hj]; exact List.nodup_range)
theorem YGo.at_ {P : Program} {y m : Nat} {xs : List LV} {C : List (Nat × LO) → Prop} {S : Nat → List (Nat × LO)} (h : YGo P y m xs C S) {j : Nat} {x : LV} (hx : xs[j]? = some x) : Yld P y [x] (S j) true (S (j + 1)) := by
  have hj := (List.getElem?_eq_some_iff.1 hx)
  have := h.step j hj.1
  rw [hj.2] at this
  exact this
theorem YGo.all {P : Program} {y m : Nat} {xs : List LV} {C : List (Nat × LO) → Prop} {S : Nat → List (Nat × LO)} (h : YGo P y m xs C S) {j : Nat} (hj : j ≤ xs.length) : ((S j).all fun p => decide (p.1 < m) && p.2.lt m) = true := by
  rw [List.all_eq_true]
  intro p hp'
  have h1 : p.1 ∈ (S j).map (·.1) := List.mem_map.2 ⟨p, hp', rfl⟩
  rw [h.keys j hj, List.mem_range] at h1
  simp [h1, h.lt j hj p hp']
end Go.Proofs.YteccglgbkehdeaaGreatDoor
/- A struct out of some of its fields, of one cell each; other fields may be larger. -/
namespace Go.Proofs.YteccglgbkehdeaaGreatDoor
def BuildG (P : Program) (t : Nat) (zs : List Value) (offs : List (Nat × Nat)) : Prop := (∀ w, (zeroValue t).run P w = .ok (.agg zs.toArray) w) ∧ ∃ fields, (∀ w, (underlying t).run P w = .ok (.struct fields) w) ∧
  ∀ w, (fields.mapM fun (f : Field) => (do pure (f.offset, ← sizeOf f.type) : Sem (Nat × Nat))).run P w = .ok offs.toArray w
section
variable {P : Program} {r : Option Nat} {N : Nat} {D : List Nat} {B : Base} {all : Array Oper} {K : List (Nat × Ct) → St → Prop}
variable {i : Nat} {ops : List Oper} {tr : List (Nat × Ct)} {E : List (Nat × Ent)} {L : List (Nat × LO)} {n : Nat} {g : Bool} {gn : List (Nat × Ent)}
variable {d ty : Nat} {pos : String} {aft : Array Edge} {gd : Option (Nat × Bool)}
end
end Go.Proofs.YteccglgbkehdeaaGreatDoor
/- Structs within structs: parts of boxes, what is read of them. -/
namespace Go.Proofs.YteccglgbkehdeaaGreatDoor
section
variable {P : Program} {r : Option Nat} {N : Nat} {D : List Nat} {B : Base} {all : Array Oper} {K : List (Nat × Ct) → St → Prop}
variable {i : Nat} {ops : List Oper} {tr : List (Nat × Ct)} {E : List (Nat × Ent)} {L : List (Nat × LO)} {n : Nat} {g : Bool} {gn : List (Nat × Ent)}
variable {d ty : Nat} {pos : String} {aft : Array Edge} {gd : Option (Nat × Bool)}
/-- a part of a box -/
theorem R.loadP {T TB sz : Nat} (hF : AggF P T sz) {x : Operand} {gx : Bool} {o off : Nat} {cs ds : List LV}
    (ho : all[i]? = some ⟨some d, .load T x, ty, pos, aft, gd⟩ := by rfl) (hg : GuardOk (en E) all gd g gn := by first | exact gN | exact gS rfl rfl)
    (hx : lvOf (en E) x = some (gx, .ptr o off) := by rfl) (hgx : g = true → gx = true := by first | exact fun _ => rfl | exact id) (hb : hp L o = some (.box TB cs) := by rfl) (hc : (cs.drop off).take sz = ds := by rfl) (hl : ds.length = sz := by rfl)
    (h : Reg P r N D B all (i + 1) ops ((i, Ct.p gn [x] [(gx, .ptr o off)] (some d) (g, .agg ds) [(o, .box TB cs)]) :: tr) (st ((d, (g, .agg ds)) :: E) L n) K) :
    Reg P r N D B all i (⟨some d, .load T x, ty, pos, aft, gd⟩ :: ops) tr (st E L n) K :=
  Reg.one rfl (fun h => by
    rw [entLV_true h hgx]
    refine OpC.of_pure1 (x := x) rfl (by simp) fun md n0 cx H ρ w hok hrd hvv => ?_
    simp only [V] at hvv
    obtain ⟨hA, b, hbk, he⟩ := hvv
    obtain ⟨b', vs, k1, k2, k3⟩ := (hok.ok o _ (hrd o (.box TB cs) (by simp))).2
    rw [k1] at hbk
    simp only [bk, Option.some.injEq] at hbk
    subst hbk
    have k4 := (Vs.splits sz _ _ (Vs.splits off _ _ k3).2).1
    rw [hc] at k4
    refine ⟨.agg ((vs.drop off).take sz).toArray, ?_, by simp only [V]; exact ⟨_, rfl, k4⟩⟩
    have hlen := k4.length
    rw [hl] at hlen
    have hl2 : (loadCells ⟨b', off, none⟩ ((vs.drop off).take sz).length).run P w = .ok ((vs.drop off).take sz).toArray w := run_loadCells_list (P := P) w ⟨b', off, none⟩ _ (fun j v hv => by
      rw [add_off]
      have : vs[off + j]? = some v := by
        rw [List.getElem?_take] at hv
        split at hv
        · rw [List.getElem?_drop] at hv; exact hv
        · cases hv
      simp [World.cell?, k2, this])
    rw [hlen] at hl2
    simp [execOp, he, Instr.loadAt, Instr.sureAddr, loadVar, hF.1 w, hF.2 w, hl2]) ho hg hx (fun k y hy => by
      simp only [hp, List.lookup_cons] at hy
      split at hy
      · rename_i hh; simp at hh; cases hy; subst hh; exact hb
      · simp at hy) h
end
section
open Go.ChangeShapes Go.WideShapes Go.Deep Go.RowKit Go.ChangeAt
variable {H : Type} {enc : TypeId × Value → H} {P : Program} {w : World}
/-- closed cells, and what they hold, one by one -/
def Rl (w : World) (ss : List SV) (cs : List Value) : Prop := ss.length = cs.length ∧ ∀ (j : Nat) (s : SV) (v : Value), ss[j]? = some s → cs[j]? = some v → VS (cellsAt w) w s v ∧ v.oneCell' = true
theorem Rl.app {a a' : List SV} {b b' : List Value} (h : Rl w a b) (h' : Rl w a' b') : Rl w (a ++ a') (b ++ b') := by
  refine ⟨by simp [h.1, h'.1], fun j s v hs hv => ?_⟩
  rcases Nat.lt_or_ge j a.length with hj | hj
  · rw [List.getElem?_append_left hj] at hs
    rw [List.getElem?_append_left (by rw [← h.1]; exact hj)] at hv
    exact h.2 j s v hs hv
  · rw [List.getElem?_append_right hj] at hs
    rw [List.getElem?_append_right (by rw [← h.1]; exact hj), ← h.1] at hv
    exact h'.2 _ s v hs hv
end
end Go.Proofs.YteccglgbkehdeaaGreatDoor
/- Rounds in a row by their states, any number of values a round. -/
namespace Go.Proofs.YteccglgbkehdeaaGreatDoor
structure YG (P : Program) (y m : Nat) (xs : List (List LV)) (S : Nat → List (Nat × LO)) : Prop where
  keys : ∀ j, j ≤ xs.length → (S j).map (·.1) = List.range m
  lt : ∀ j, j ≤ xs.length → ∀ p ∈ S j, p.2.lt m = true
  step : ∀ j (h : j < xs.length), Yld P y xs[j] (S j) true (S (j + 1))
theorem YG.keep {P : Program} {y m : Nat} {xs : List (List LV)} {S : Nat → List (Nat × LO)} (h : YG P y m xs S) {j : Nat} (hj : j ≤ xs.length) (L : List (Nat × LO)) : KeepL (hp (S j ++ L)) (S j) :=
  KeepL.app (by rw [h.keys j hj]; exact List.nodup_range)
theorem YG.at_ {P : Program} {y m : Nat} {xs : List (List LV)} {S : Nat → List (Nat × LO)} (h : YG P y m xs S) {j : Nat} {x : List LV} (hx : xs[j]? = some x) : Yld P y x (S j) true (S (j + 1)) := by
  have hj := (List.getElem?_eq_some_iff.1 hx)
  have := h.step j hj.1
  rw [hj.2] at this
  exact this
end Go.Proofs.YteccglgbkehdeaaGreatDoor
/- Values of which only a part is told. -/
namespace Go.Proofs.YteccglgbkehdeaaGreatDoor
section
variable {P : Program} {r : Option Nat} {N : Nat} {D : List Nat} {B : Base} {all : Array Oper} {K : List (Nat × Ct) → St → Prop}
variable {i : Nat} {ops : List Oper} {tr : List (Nat × Ct)} {E : List (Nat × Ent)} {L : List (Nat × LO)} {n : Nat} {g : Bool} {gn : List (Nat × Ent)}
variable {d ty : Nat} {pos : String} {aft : Array Edge} {gd : Option (Nat × Bool)}
/-- minus -/
theorem R.neg {t : Nat} {x : Operand} {gx : Bool} {k : IntKind} {a : Int} (ho : all[i]? = some ⟨some d, .unOp .neg t x, ty, pos, aft, gd⟩ := by rfl)
    (hg : GuardOk (en E) all gd g gn := by first | exact gN | exact gS rfl rfl)
    (hx : lvOf (en E) x = some (gx, .v (.int k a)) := by rfl) (hgx : g = true → gx = true := by first | exact fun _ => rfl | exact id)
    (h : Reg P r N D B all (i + 1) ops ((i, Ct.p gn [x] [(gx, .v (.int k a))] (some d) (g, .v (.int k (k.wrap (-a)))) []) :: tr) (st ((d, (g, .v (.int k (k.wrap (-a))))) :: E) L n) K) :
    Reg P r N D B all i (⟨some d, .unOp .neg t x, ty, pos, aft, gd⟩ :: ops) tr (st E L n) K :=
  Reg.one rfl (fun h => by
    rw [entLV_true h hgx]
    refine OpC.of_pure1 (x := x) rfl (by simp) fun md n0 cx H ρ w _ _ hv => ?_
    have e := hv.val
    exact ⟨.int k (k.wrap (-a)), by simp [execOp, Op.unary, Op.intArith, e], V.mkval⟩) ho hg hx (by simp) h
theorem run_quoT (t : Nat) (x y : Operand) (k : IntKind) (a b : Int) (hb : b ≠ 0) (hw : k.wrap (Int.tdiv a b) = Int.tdiv a b) : ∀ w, (do eqGuard .quo t x y (.int k a) (.int k b); binOp .quo t (.int k a) (.int k b) : Sem Value).run P w = .ok (.int k (Int.tdiv a b)) w :=
  binI .quo rfl t x y k a b fun w => by simp [binOp, Op.intDiv, hb, hw]
theorem run_remT (t : Nat) (x y : Operand) (k : IntKind) (a b : Int) (hb : b ≠ 0) : ∀ w, (do eqGuard .rem t x y (.int k a) (.int k b); binOp .rem t (.int k a) (.int k b) : Sem Value).run P w = .ok (.int k (Int.tmod a b)) w :=
  binI .rem rfl t x y k a b fun w => by simp [binOp, Op.intDiv, hb]
end
end Go.Proofs.YteccglgbkehdeaaGreatDoor
/- An element of one cell of an array's value. -/
namespace Go.Proofs.YteccglgbkehdeaaGreatDoor
section
variable {P : Program} {r : Option Nat} {N : Nat} {D : List Nat} {B : Base} {all : Array Oper} {K : List (Nat × Ct) → St → Prop}
variable {i : Nat} {ops : List Oper} {tr : List (Nat × Ct)} {E : List (Nat × Ent)} {L : List (Nat × LO)} {n : Nat} {g : Bool} {gn : List (Nat × Ent)}
variable {d ty : Nat} {pos : String} {aft : Array Edge} {gd : Option (Nat × Bool)}
end
end Go.Proofs.YteccglgbkehdeaaGreatDoor
/- An aggregate is stored into a part of a box. -/
namespace Go.Proofs.YteccglgbkehdeaaGreatDoor
section
variable {P : Program} {r : Option Nat} {N : Nat} {D : List Nat} {B : Base} {all : Array Oper} {K : List (Nat × Ct) → St → Prop}
variable {i : Nat} {ops : List Oper} {tr : List (Nat × Ct)} {E : List (Nat × Ent)} {L : List (Nat × LO)} {n : Nat} {g : Bool} {gn : List (Nat × Ent)}
variable {d ty : Nat} {pos : String} {aft : Array Edge} {gd : Option (Nat × Bool)}
end
end Go.Proofs.YteccglgbkehdeaaGreatDoor
/- Short names of frequent steps. -/
namespace Go.Proofs.YteccglgbkehdeaaGreatDoor
theorem Reg.n0 {P : Program} {r : Option Nat} {N : Nat} {D : List Nat} {B : Base} {Ψ : Exit → Act → World → Prop} {all : Array Oper} {ops : List Oper} {todo : List Item} {i : Nat} {tr : List (Nat × Ct)} {S : St} (h : LGo P r N D B Ψ todo S) :
    Reg P r N D B all i [] tr S (fun tr S' => (false = true → P.follows .mixedOrders = true ∧ edgesOk ops.toArray = true ∧ pairsOk ops.toArray tr = true) ∧ LGo P r N D B Ψ todo S') := Reg.nil ⟨fun h => (by cases h), h⟩
end Go.Proofs.YteccglgbkehdeaaGreatDoor
/- Pointers as0 values: checks for nil, raw pointers; a string out of a slice of bytes of one's own. -/
namespace Go.Proofs.YteccglgbkehdeaaGreatDoor
section
variable {P : Program} {r : Option Nat} {N : Nat} {D : List Nat} {B : Base} {all : Array Oper} {K : List (Nat × Ct) → St → Prop}
variable {i : Nat} {ops : List Oper} {tr : List (Nat × Ct)} {E : List (Nat × Ent)} {L : List (Nat × LO)} {n : Nat} {g : Bool} {gn : List (Nat × Ent)}
variable {d ty : Nat} {pos : String} {aft : Array Edge} {gd : Option (Nat × Bool)}
theorem V.ptrV {cx : Cx} {w : World} {o off : Nat} {x : Value} (h : V cx w (.ptr o off) x) : ∃ b, x = .pointer (some ⟨b, off, none⟩) := by
  simp only [V] at h
  obtain ⟨_, b, _, h⟩ := h
  exact ⟨b, h⟩
theorem R.nilCheck {x : Operand} {gx : Bool} {o off : Nat} (ho : all[i]? = some ⟨some d, .nilCheck x, ty, pos, aft, gd⟩ := by rfl)
    (hg : GuardOk (en E) all gd g gn := by first | exact gN | exact gS rfl rfl)
    (hx : lvOf (en E) x = some (gx, .ptr o off) := by rfl) (hgx : g = true → gx = true := by first | exact fun _ => rfl | exact id)
    (h : Reg P r N D B all (i + 1) ops ((i, Ct.p gn [x] [(gx, .ptr o off)] (some d) (g, .ptr o off) []) :: tr) (st ((d, (g, .ptr o off)) :: E) L n) K) :
    Reg P r N D B all i (⟨some d, .nilCheck x, ty, pos, aft, gd⟩ :: ops) tr (st E L n) K :=
  Reg.one rfl (fun h => by
    rw [entLV_true h hgx]
    refine OpC.of_pure1 (x := x) rfl (by simp) fun md n0 cx H ρ w _ _ hv => ?_
    obtain ⟨b, e⟩ := hv.ptrV
    exact ⟨ρ x, by simp [execOp, e], hv⟩) ho hg hx (by simp) h
theorem R.eqPtrNil {t yt : Nat} {x : Operand} {gx : Bool} {o off : Nat} (ho : all[i]? = some ⟨some d, .binOp .eql t x (.const (.pointer none)) yt, ty, pos, aft, gd⟩ := by rfl)
    (hT : ∀ a w, (do eqGuard .eql t x (.const (.pointer none)) (.pointer (some a)) (.pointer none); binOp .eql t (.pointer (some a)) (.pointer none) : Sem Value).run P w = .ok (.bool false) w)
    (hg : GuardOk (en E) all gd g gn := by first | exact gN | exact gS rfl rfl)
    (hx : lvOf (en E) x = some (gx, .ptr o off) := by rfl) (hgx : g = true → gx = true := by first | exact fun _ => rfl | exact id)
    (h : Reg P r N D B all (i + 1) ops ((i, Ct.p gn [x, .const (.pointer none)] [(gx, .ptr o off), (true, cLV (.pointer none))] (some d) (g, .b false) []) :: tr) (st ((d, (g, .b false)) :: E) L n) K) :
    Reg P r N D B all i (⟨some d, .binOp .eql t x (.const (.pointer none)) yt, ty, pos, aft, gd⟩ :: ops) tr (st E L n) K :=
  Reg.two rfl (fun h => by
    rw [entLV_true h hgx]
    refine OpC.of_pure2 (x := x) (y := .const (.pointer none)) rfl (by simp) fun md n0 cx H ρ w _ _ v1 v2 => ?_
    obtain ⟨b, e⟩ := v1.ptrV
    have e2 : ρ (.const (.pointer none)) = .pointer none := by
      have v2' : V cx w (.v (.pointer none)) (ρ (.const (.pointer none))) := by simpa [entLV, cLV] using v2
      exact v2'.val
    refine ⟨.bool false, ?_, V.mkval⟩
    have := hT ⟨b, off, none⟩ w
    rw [← e, ← e2] at this
    simp only [execOp]
    rw [Sem.run_bind]
    rw [e2] at this ⊢
    rw [this]
    rfl) ho hg hx (by rfl) (by simp) h
theorem R.nePtrSame {t yt : Nat} {x y : Operand} {gx gy : Bool} {o off : Nat} (ho : all[i]? = some ⟨some d, .binOp .neq t x y yt, ty, pos, aft, gd⟩ := by rfl)
    (hT : ∀ a : Addr, a.off = off → ∀ w, (do eqGuard .neq t x y (.pointer (some a)) (.pointer (some a)); binOp .neq t (.pointer (some a)) (.pointer (some a)) : Sem Value).run P w = .ok (.bool false) w)
    (hg : GuardOk (en E) all gd g gn := by first | exact gN | exact gS rfl rfl)
    (hx : lvOf (en E) x = some (gx, .ptr o off) := by rfl) (hy : lvOf (en E) y = some (gy, .ptr o off) := by rfl)
    (hgx : g = true → gx = true := by first | exact fun _ => rfl | exact id) (hgy : g = true → gy = true := by first | exact fun _ => rfl | exact id)
    (h : Reg P r N D B all (i + 1) ops ((i, Ct.p gn [x, y] [(gx, .ptr o off), (gy, .ptr o off)] (some d) (g, .b false) []) :: tr) (st ((d, (g, .b false)) :: E) L n) K) :
    Reg P r N D B all i (⟨some d, .binOp .neq t x y yt, ty, pos, aft, gd⟩ :: ops) tr (st E L n) K :=
  Reg.two rfl (fun h => by
    rw [entLV_true h hgx, entLV_true h hgy]
    refine OpC.of_pure2 (x := x) (y := y) rfl (by simp) fun md n0 cx H ρ w _ _ v1 v2 => ?_
    simp only [V] at v1 v2
    obtain ⟨_, b, hb, e1⟩ := v1
    obtain ⟨_, b', hb', e2⟩ := v2
    rw [hb] at hb'
    cases hb'
    refine ⟨.bool false, ?_, V.mkval⟩
    have := hT ⟨b, off, none⟩ rfl w
    simp only [execOp, e1, e2]
    rw [Sem.run_bind, this]
    rfl) ho hg hx hy (by simp) h
/-- a conversion of a pointer to a box that leaves it as0 it is -/
theorem R.convPtr {s t T : Nat} {x : Operand} {gx : Bool} {o off : Nat} {cs : List LV} (ho : all[i]? = some ⟨some d, .convert s t x, ty, pos, aft, gd⟩ := by rfl)
    (hT : ∀ b w, w.shape? b = some (T, cs.length) → (convert s t (.pointer (some ⟨b, off, none⟩))).run P w = .ok (.pointer (some ⟨b, off, none⟩)) w)
    (hg : GuardOk (en E) all gd g gn := by first | exact gN | exact gS rfl rfl)
    (hx : lvOf (en E) x = some (gx, .ptr o off) := by rfl) (hgx : g = true → gx = true := by first | exact fun _ => rfl | exact id) (hb : hp L o = some (.box T cs) := by rfl)
    (h : Reg P r N D B all (i + 1) ops ((i, Ct.p gn [x] [(gx, .ptr o off)] (some d) (g, .ptr o off) [(o, .box T cs)]) :: tr) (st ((d, (g, .ptr o off)) :: E) L n) K) :
    Reg P r N D B all i (⟨some d, .convert s t x, ty, pos, aft, gd⟩ :: ops) tr (st E L n) K :=
  Reg.one rfl (fun h => by
    rw [entLV_true h hgx]
    refine OpC.of_pure1 (x := x) rfl (by simp) fun md n0 cx H ρ w hok hrd hv => ?_
    obtain ⟨_, b, vs, k1, k2, k3⟩ := hok.ok o _ (hrd o (.box T cs) (by simp))
    have hv' := hv
    simp only [V] at hv'
    obtain ⟨_, b', hb', e⟩ := hv'
    rw [k1] at hb'
    simp only [bk, Option.some.injEq] at hb'
    subst hb'
    refine ⟨ρ x, ?_, hv⟩
    have := hT b w (by simp [World.shape?, k2, k3.length])
    simp only [execOp, e]
    rw [Sem.run_bind, this]
    rfl) ho hg hx (oneL hb) h
/-- a call that hands its pointer back -/
theorem R.callSame {f : FuncId} {x : Operand} {ats : Array TypeId} {gx : Bool} {o off : Nat} (hf : ∀ a w, (callFunc f #[.pointer (some a)]).run P w = .ok (.value (.pointer (some a))) w)
    (ho : all[i]? = some ⟨some d, .call { callee := .value (.func f), args := #[x], argTypes := ats }, ty, pos, aft, gd⟩ := by rfl)
    (hg : GuardOk (en E) all gd g gn := by first | exact gN | exact gS rfl rfl)
    (hx : lvOf (en E) x = some (gx, .ptr o off) := by rfl) (hgx : g = true → gx = true := by first | exact fun _ => rfl | exact id)
    (h : Reg P r N D B all (i + 1) ops ((i, Ct.p gn [.func f, x] [(true, .fn (.func f) [] []), (gx, .ptr o off)] (some d) (g, .ptr o off) []) :: tr) (st ((d, (g, .ptr o off)) :: E) L n) K) :
    Reg P r N D B all i (⟨some d, .call { callee := .value (.func f), args := #[x], argTypes := ats }, ty, pos, aft, gd⟩ :: ops) tr (st E L n) K :=
  Reg.two (x := .func f) (y := x) (by simp [Op.operands, Go.Call.operands]) (fun h => by
    rw [entLV_true h hgx]
    refine OpC.of_pure2 (x := .func f) (y := x) (by simp [Op.operands, Go.Call.operands]) (by simp) fun md n0 cx H ρ w _ _ v1 v2 => ?_
    obtain ⟨b, e⟩ := v2.ptrV
    have e1 : ρ (.func f) = .func (.func f) #[] #[] := by
      have v1' : V cx w (.fn (.func f) [] []) (ρ (.func f)) := by simpa [entLV] using v1
      simp only [V, Vs] at v1'
      obtain ⟨us, vs, h1, rfl, rfl⟩ := v1'
      exact h1
    refine ⟨ρ x, ?_, v2⟩
    have := hf ⟨b, off, none⟩ w
    simp only [execOp, resolve, e1, Deferred.ofValue, Sem.run_bind, Sem.run_pure, Result.andThen_ok, invoke]
    simp [e, this]) ho hg (by rfl) hx (by simp) h
/-- the place of the first byte of a slice of one's own -/
theorem R.sliceData {T : Nat} {x : Operand} {gx : Bool} {o e : Nat} {ys : List (List SV)} (hne : ys ≠ [])
    (ho : all[i]? = some ⟨some d, .call { callee := .builtin .unsafeSliceData, args := #[x], argTypes := #[T] }, ty, pos, aft, gd⟩ := by rfl) (hg : GuardOk (en E) all gd g gn := by first | exact gN | exact gS rfl rfl)
    (hx : lvOf (en E) x = some (gx, .ref o) := by rfl) (hgx : g = true → gx = true := by first | exact fun _ => rfl | exact id) (hb : hp L o = some (.rs e 1 ys) := by rfl)
    (h : Reg P r N D B all (i + 1) ops ((i, Ct.p gn [x] [(gx, .ref o)] (some d) (g, .ptr o 0) [(o, .rs e 1 ys)]) :: tr) (st ((d, (g, .ptr o 0)) :: E) L n) K) :
    Reg P r N D B all i (⟨some d, .call { callee := .builtin .unsafeSliceData, args := #[x], argTypes := #[T] }, ty, pos, aft, gd⟩ :: ops) tr (st E L n) K :=
  Reg.one rfl (fun h => by
    rw [entLV_true h hgx]
    refine OpC.of_pure1 (x := x) rfl (by simp) fun md n0 cx H ρ w hok hrd hvv => ?_
    have hv := hvv
    simp only [V] at hv
    obtain ⟨hA, hv1, _⟩ := hv
    obtain ⟨_, _, vs, hown, _⟩ := hok.ok o _ (hrd o (.rs e 1 ys) (by simp))
    have hl : ys.length ≠ 0 := by simpa using hne
    rcases hown.2 with ⟨e1, e2⟩ | ⟨gb, cap, cur, e1, _, _, hle, _⟩
    · omega
    · have hc0 : cap ≠ 0 := by omega
      refine ⟨.pointer (some ⟨gb, 0, none⟩), ?_, by simp only [V]; exact ⟨hA, gb, by rw [e1]; rfl, rfl⟩⟩
      rw [e1] at hv1
      have hr := Lib.run_unsafeSliceData_row (P := P) (w := w) #[T] ty ⟨gb, 0, none⟩ ys.length cap hc0
      simp only [execOp, resolve, invoke, builtin, Sem.run_bind, Sem.run_pure, Result.andThen_ok, List.map_toArray, List.map_cons, List.map_nil, hv1]
      simp [hr]) ho hg hx (oneL hb) h
/-- .. and the string of its bytes: the slice is given away -/
theorem R.unsafeStr {pt it e : Nat} {x y : Operand} {o : Nat} {l : List UInt8} (hp' : P.underlying pt = some (.pointer e)) (hc : P.cellsOf e = 1) (hne : l ≠ []) (hmax : l.length ≤ 100000000)
    (ho : all[i]? = some ⟨some d, .call { callee := .builtin .unsafeString, args := #[x, y], argTypes := #[pt, it] }, ty, pos, aft, none⟩ := by rfl)
    (hx : lvOf (en E) x = some (true, .ptr o 0) := by rfl) (hy : lvOf (en E) y = some (true, .i l.length) := by rfl) (hb : hp L o = some (.rs e 1 (bytesC l)) := by rfl)
    (h : Reg P r N D B all (i + 1) ops ((i, ⟨needOf [x, y] [(true, .ptr o 0), (true, .i l.length)], some d, (true, .t l), [], [(o, .rs e 1 (bytesC l))], [], []⟩) :: tr) (st ((d, (true, .t l)) :: E) (updL L [(o, .rs e 1 (bytesC l))] []) n) K) :
    Reg P r N D B all i (⟨some d, .call { callee := .builtin .unsafeString, args := #[x, y], argTypes := #[pt, it] }, ty, pos, aft, none⟩ :: ops) tr (st E L n) K := by
  refine Reg.gen (m := 0) (es := [(true, .ptr o 0), (true, .i l.length)]) (rd := []) (Hi := [(o, .rs e 1 (bytesC l))]) (Ho := []) (out := .t l) ho gN ⟨_, _, rfl, hx, _, _, rfl, hy, rfl⟩ (by simp) (fun k z hz => ?_) (OpC.of_run (by simp) (by simp) fun md n0 cx H ρ w hok _ hHi _ hv => ?_) h
  · simp only [hp, List.lookup_cons] at hz
    split at hz
    · rename_i hh; simp at hh; cases hz; subst hh; exact hb
    · simp at hz
  · have hop : (Oper.mk (some d) (.call { callee := .builtin .unsafeString, args := #[x, y], argTypes := #[pt, it] }) ty pos aft none).op.operands.toList = [x, y] := rfl
    rw [hop] at hv
    obtain ⟨v1, v2⟩ := Vs.two hv
    simp only [entLV] at v1 v2
    have hob := hHi o (.rs e 1 (bytesC l)) (by simp)
    obtain ⟨hA, _, vs, hown, hvs, _⟩ := hok.ok o _ hob
    have hll : (bytesC l).length = l.length := bytesC_length l
    have hl0 : l.length ≠ 0 := by simpa using hne
    rcases hown.2 with ⟨e1, e2⟩ | ⟨gb, cap, cur, e1, _, hg, hle, hmx, hsz, htk⟩
    · omega
    · have hbk : bk (cx.loc o) = some gb := by rw [e1]; rfl
      simp only [V] at v1
      obtain ⟨_, b', hb', ex⟩ := v1
      rw [hbk] at hb'
      cases hb'
      have ey := v2.val
      have hcells : ∀ (j : Nat) (c : UInt8), l[j]? = some c → w.cell? ((⟨gb, 0, none⟩ : Addr).add j) = some (.int .u8 c.toNat) := by
        intro j c hj
        rw [add_off, Nat.zero_add]
        have hlt := (List.getElem?_eq_some_iff.1 hj).1
        have hfl : ((bytesC l).flatten.map LV.sv)[j]? = some (.v (.int .u8 c.toNat)) := by
          rw [bytesC_flat, List.map_map, List.getElem?_map, hj]; rfl
        obtain ⟨v, k1, k2⟩ := Vs.get hvs hfl
        have k3 := k2.val
        subst k3
        have : cur.toList[j]? = some (.int .u8 c.toNat) := by
          rw [← htk, List.getElem?_take] at k1
          split at k1
          · exact k1
          · cases k1
        simp only [World.cell?, hg]
        simpa using this
      have hrun := Lib.run_unsafeString_row (P := P) (w := w) pt it ty e hp' hc gb cur.size (by simp [World.shape?, hg]) l hne (by rw [hsz]; omega) (by omega) hcells
      have hold : ∀ k, k ≠ gb → (w.freeze ⟨gb, 0, none⟩ l.length).heap[k]? = w.heap[k]? := fun k hk => by
        unfold World.freeze
        rw [if_neg hl0]
        simp only [Array.getElem?_modify, if_neg (Ne.symm hk)]
      have hsize : (w.freeze ⟨gb, 0, none⟩ l.length).heap.size = w.heap.size := by
        unfold World.freeze
        rw [if_neg hl0]
        simp
      obtain ⟨hpr, hlt, hmd⟩ := hok.own o _ gb hob (.inl hbk)
      have hblk : blks cx (hp [(o, LO.rs e 1 (bytesC l))]) gb := ⟨o, LO.rs e 1 (bytesC l), by simp, .inl hbk⟩
      have hext : Ext cx.pr w cx.pr (w.freeze ⟨gb, 0, none⟩ l.length) := fun k off hk => ⟨hk, by
        have hkb : k ≠ gb := by rintro rfl; omega
        simp only [World.cell?, hold k hkb]⟩
      refine ⟨.value (.string ⟨l.toArray⟩), .string ⟨l.toArray⟩, w.freeze ⟨gb, 0, none⟩ l.length, cx, ?_, .inl rfl, ?_, V.mkval⟩
      · simp only [execOp, resolve, invoke, builtin, Sem.run_bind, Sem.run_pure, Result.andThen_ok, List.map_toArray, List.map_cons, List.map_nil, ex, ey]
        rw [hrun]
        rfl
      · refine ⟨CxLe.refl _, fun k => by simp, ⟨?_, ?_, ?_, by omega, fun k _ hk => hold k (by rintro rfl; exact hk hblk), fun _ _ _ => rfl, hext⟩, ⟨fun k z hz => by simp at hz, fun k z b hz => by simp at hz, fun k k' z z' b _ hz => by simp at hz, fun b hb => by have := hok.lim b hb; omega⟩, fun _ _ _ => rfl⟩
        all_goals (unfold World.freeze; rw [if_neg hl0])
end
end Go.Proofs.YteccglgbkehdeaaGreatDoor
/- Maps, as0 objects of one's own: an empty map, a look, a write. -/
namespace Go.Proofs.YteccglgbkehdeaaGreatDoor
/-- the entries of a map of one's own, in the order in which they came -/
def entsOf : Nat → List (Value × Value) → List MapEntry
  | _, [] => []
  | k, (a, v) :: l => { key := a, val := v, born := k } :: entsOf (k + 1) l
section
variable {α : Type} [DecidableEq α]
def encs (enc : α → Value) (l : List (α × Value)) : List (Value × Value) := l.map fun p => (enc p.1, p.2)
def mapOb (enc : α → Value) (l : List (α × Value)) : Obj := .map (entsOf 0 (encs enc l)).toArray l.length
def posM (a : α) : List (α × Value) → Nat → Option (Nat × Value)
  | [], _ => none
  | (b, u) :: l, k => if a = b then some (k, u) else posM a l (k + 1)
def getM (a : α) : List (α × Value) → Option Value
  | [] => none
  | (b, u) :: l => if a = b then some u else getM a l
def putM (a : α) (v : Value) : List (α × Value) → List (α × Value)
  | [] => [(a, v)]
  | (b, u) :: l => if a = b then (b, v) :: l else (b, u) :: putM a v l
theorem posM_get (a : α) : ∀ (l : List (α × Value)) (k : Nat), (posM a l k).map (·.2) = getM a l
  | [], _ => rfl
  | (b, u) :: l, k => by
    rw [posM, getM]
    split
    · rfl
    · exact posM_get a l (k + 1)
theorem posM_at (enc : α → Value) (a : α) (v : Value) : ∀ (l : List (α × Value)) (k i : Nat) (u : Value), posM a l k = some (i, u) →
    k ≤ i ∧ ((entsOf k (encs enc l))[i - k]?).map (·.key) = some (enc a) ∧ (entsOf k (encs enc l)).modify (i - k) (fun e => { e with key := enc a, val := v }) = entsOf k (encs enc (putM a v l)) ∧ (putM a v l).length = l.length
  | [], _, _, _, h => by cases h
  | (b, u0) :: l, k, i, u, h => by
    rw [posM] at h
    split at h
    · rename_i hab
      subst hab
      simp only [Option.some.injEq, Prod.mk.injEq] at h
      obtain ⟨rfl, rfl⟩ := h
      rw [putM, if_pos rfl, Nat.sub_self]
      exact ⟨Nat.le_refl _, rfl, rfl, rfl⟩
    · rename_i hab
      obtain ⟨h1, h2, h3, h4⟩ := posM_at enc a v l (k + 1) i u h
      rw [putM, if_neg hab, show i - k = (i - (k + 1)) + 1 from by omega]
      refine ⟨by omega, ?_, ?_, by rw [List.length_cons, List.length_cons, h4]⟩
      · simpa [encs, entsOf] using h2
      · simp only [encs, List.map_cons, entsOf, List.modify_succ_cons]
        exact congrArg _ h3
theorem posM_none (enc : α → Value) (a : α) (v : Value) : ∀ (l : List (α × Value)) (k : Nat), posM a l k = none →
    entsOf k (encs enc (putM a v l)) = entsOf k (encs enc l) ++ [{ key := enc a, val := v, born := k + l.length }] ∧ (putM a v l).length = l.length + 1
  | [], _, _ => ⟨rfl, rfl⟩
  | (b, u0) :: l, k, h => by
    rw [posM] at h
    split at h
    · cases h
    · rename_i hab
      obtain ⟨h1, h2⟩ := posM_none enc a v l (k + 1) h
      rw [putM, if_neg hab]
      refine ⟨?_, by rw [List.length_cons, List.length_cons, h2]⟩
      simp only [encs, List.map_cons, entsOf, List.cons_append, List.length_cons] at h1 ⊢
      rw [h1, show k + 1 + l.length = k + (l.length + 1) from by omega]
/-- what a type of keys says -/
structure KeyF (P : Program) (kt : TypeId) (enc : α → Value) : Prop where
  chk : ∀ b a w, (Instr.checkKey b 10000 kt (enc a)).run P w = .ok () w
  find : ∀ a l w, (Instr.findKey kt (enc a) (entsOf 0 (encs enc l))).run P w = .ok (posM a l 0) w
  same : ∀ a, Instr.sameBits 10000 (enc a) (enc a) = true
theorem findNow_yes {enc : α → Value} {td : TypeDesc} (h : ∀ a b, Instr.sameNow td (enc a) (enc b) = some (decide (a = b))) (a : α) : ∀ (l : List (α × Value)) (k : Nat), Instr.findNow td (enc a) (entsOf k (encs enc l)) k = some (posM a l k)
  | [], _ => rfl
  | (b, u) :: l, k => by
    simp only [encs, List.map_cons, entsOf, Instr.findNow, h, posM]
    by_cases hab : a = b
    · simp [hab]
    · simp only [hab, decide_false, if_false]
      exact findNow_yes h a l (k + 1)
theorem KeyF.plain {P : Program} {kt : TypeId} {td : TypeDesc} {enc : α → Value} (hu : P.underlying kt = some td) (h : ∀ a b, Instr.sameNow td (enc a) (enc b) = some (decide (a = b)))
    (hc : ∀ b a w, (Instr.checkKey b 10000 kt (enc a)).run P w = .ok () w) (hs : ∀ a, Instr.sameBits 10000 (enc a) (enc a) = true) : KeyF P kt enc :=
  ⟨hc, fun a l w => by simp [Instr.findKey, run_underlying hu, findNow_yes h], hs⟩
/-- a value that is told whole -/
def Told (lv : LV) (x : Value) : Prop := ∀ (cx : Cx) (w : World) (v : Value), V cx w lv v → v = x
theorem Told.v {x : Value} : Told (.v x) x := fun _ _ _ h => h.val
theorem Told.agg {xs : List Value} : Told (.agg (xs.map LV.v)) (.agg xs.toArray) := fun cx w v h => by
  simp only [V] at h
  obtain ⟨vs, rfl, h⟩ := h
  rw [Vs.vals xs vs h]
end
section
variable {P : Program} {r : Option Nat} {N : Nat} {D : List Nat} {B : Base} {all : Array Oper} {K : List (Nat × Ct) → St → Prop}
variable {i : Nat} {ops : List Oper} {tr : List (Nat × Ct)} {E : List (Nat × Ent)} {L : List (Nat × LO)} {n : Nat} {g : Bool} {gn : List (Nat × Ent)}
variable {d ty : Nat} {pos : String} {aft : Array Edge} {gd : Option (Nat × Bool)}
variable {α : Type} [DecidableEq α]
omit [DecidableEq α] in
theorem R.makeMap {t : Nat} (enc : α → Value)
    (ho : all[i]? = some ⟨some d, .makeMap t none, ty, pos, aft, none⟩ := by rfl)
    (h : Reg P r N D B all (i + 1) ops ((i, ⟨[], some d, (true, .ref n), [], [], [(n, .raw (mapOb enc []))], [n]⟩) :: tr) (st ((d, (true, .ref n)) :: E) ((n, .raw (mapOb enc [])) :: L) (n + 1)) K) :
    Reg P r N D B all i (⟨some d, .makeMap t none, ty, pos, aft, none⟩ :: ops) tr (st E L n) K := by
  refine Reg.new (es := []) (rd := []) ho gN rfl (by simp) (OpC.of_run (by simp) (by simp) fun md n0 cx H ρ w hok _ _ hnew _ => ?_) h
  obtain ⟨cx', t1, hA, hl, hp⟩ := Tr.new (w0 := w) hok (ob := mapOb enc []) (o := n) (hnew n (by simp)) (lv := .map (some w.heap.size)) (x := .raw (mapOb enc [])) ⟨rfl, rfl, rfl, rfl⟩ rfl (fun cx' e1 _ _ _ => ⟨w.heap.size, e1, heap_alloc_new w _⟩)
  refine ⟨.value (.map (some w.heap.size)), _, _, cx', ?_, .inl rfl, t1, by simp only [V]; exact ⟨hA, hl.symm, rfl⟩⟩
  simp [execOp, Instr.makeMap, mapOb, encs, entsOf]
theorem V.mapV {cx : Cx} {w : World} {o : Nat} {v : Value} {es : Array MapEntry} {c : Nat} {md : Nat → Prop} {n0 : Nat} {H : Hp} (hok : HOk md n0 cx H w) (hH : H o = some (.raw (.map es c))) (hv : V cx w (.ref o) v) :
    ∃ b, v = .map (some b) ∧ bk (cx.loc o) = some b ∧ w.heap[b]? = some (.map es c) := by
  simp only [V] at hv
  obtain ⟨_, h1, _⟩ := hv
  obtain ⟨_, b, hb, hw⟩ := hok.ok o _ hH
  exact ⟨b, h1.trans hb, by rw [hb]; rfl, hw⟩
theorem run_getMap {b : Nat} {es : Array MapEntry} {c : Nat} {w : World} (h : w.heap[b]? = some (.map es c)) : (getObj b).run P w = .ok (.map es c) w := by simp [getObj, Sem.run, h]
theorem run_setMap {b : Nat} {es : Array MapEntry} {c : Nat} {w : World} (o : Obj) (h : w.heap[b]? = some (.map es c)) : (setObj b o).run P w = .ok () (w.putObj b o) := by simp [setObj, Sem.run, h, World.putObj]
theorem run_lookup {t kt et b : Nat} {enc : α → Value} {z : Value} (hT : P.underlying t = some (.map kt et)) (hk : KeyF P kt enc) (hz : ZeroF P et z) (a : α) (l : List (α × Value)) (c : Bool) (w : World) (hw : w.heap[b]? = some (mapOb enc l)) :
    (Instr.lookup t (.map (some b)) (enc a) c).run P w = .ok (if c then .tuple #[(getM a l).getD z, .bool (getM a l).isSome] else (getM a l).getD z) w := by
  have hf := hk.find a l w
  have hg := posM_get a l 0
  unfold mapOb at hw
  simp only [Instr.lookup, Sem.run_bind, run_underlying hT, Result.andThen_ok, run_getMap hw, Sem.run_pure, hk.chk, hf]
  cases hp : posM a l 0 with
  | none =>
    rw [hp] at hg
    simp only [Sem.run_bind, hz w, Result.andThen_ok, Sem.run_pure, ← hg]
    cases c <;> rfl
  | some q =>
    rw [hp] at hg
    simp only [Sem.run_pure, Result.andThen_ok, ← hg]
    cases c <;> rfl
theorem R.lookup1 {t kt et : Nat} {enc : α → Value} {z : Value} (hT : P.underlying t = some (.map kt et)) (hk : KeyF P kt enc) (hz : ZeroF P et z) {a : α} {l : List (α × Value)} {x y : Operand} {gx gy : Bool} {o : Nat} {lk : LV} (hlk : Told lk (enc a))
    (ho : all[i]? = some ⟨some d, .lookup t x y false, ty, pos, aft, gd⟩ := by rfl)
    (hg : GuardOk (en E) all gd g gn := by first | exact gN | exact gS rfl rfl)
    (hx : lvOf (en E) x = some (gx, .ref o) := by rfl) (hy : lvOf (en E) y = some (gy, lk) := by rfl)
    (hgx : g = true → gx = true := by first | exact fun _ => rfl | exact id) (hgy : g = true → gy = true := by first | exact fun _ => rfl | exact id) (hb : hp L o = some (.raw (mapOb enc l)) := by rfl)
    (h : Reg P r N D B all (i + 1) ops ((i, Ct.p gn [x, y] [(gx, .ref o), (gy, lk)] (some d) (g, .v ((getM a l).getD z)) [(o, .raw (mapOb enc l))]) :: tr) (st ((d, (g, .v ((getM a l).getD z))) :: E) L n) K) :
    Reg P r N D B all i (⟨some d, .lookup t x y false, ty, pos, aft, gd⟩ :: ops) tr (st E L n) K :=
  Reg.two rfl (fun h => by
    rw [entLV_true h hgx, entLV_true h hgy]
    refine OpC.of_pure2 (x := x) (y := y) rfl (by simp) fun md n0 cx H ρ w hok hrd v1 v2 => ?_
    obtain ⟨b, e1, _, hw⟩ := V.mapV hok (hrd o (.raw (mapOb enc l)) (by simp)) v1
    have e2 := hlk cx w _ v2
    refine ⟨(getM a l).getD z, ?_, V.mkval⟩
    simp only [execOp, e1, e2, Sem.run_bind, run_lookup hT hk hz a l false w hw]
    rfl) ho hg hx hy (oneL hb) h
theorem run_mapUpd {t kt et b : Nat} {enc : α → Value} (hT : P.underlying t = some (.map kt et)) (hk : KeyF P kt enc) (a : α) (v : Value) (l : List (α × Value)) (w : World) (hw : w.heap[b]? = some (mapOb enc l)) :
    (Instr.mapUpdate t (.map (some b)) (enc a) v).run P w = .ok () (w.putObj b (mapOb enc (putM a v l))) := by
  have hf := hk.find a l w
  have hw' := hw
  unfold mapOb at hw
  simp only [Instr.mapUpdate, Sem.run_bind, run_underlying hT, Result.andThen_ok, run_getMap hw, Sem.run_pure, hk.chk, hf]
  cases hp : posM a l 0 with
  | none =>
    obtain ⟨h1, h2⟩ := posM_none enc a v l 0 hp
    simp only []
    rw [run_setMap _ hw]
    unfold mapOb
    rw [h1, h2]
    simp
  | some q =>
    obtain ⟨i, u⟩ := q
    obtain ⟨_, h1, h2, h3⟩ := posM_at enc a v l 0 i u hp
    simp only [Nat.sub_zero] at h1 h2
    have e : (((entsOf 0 (encs enc l)).toArray[i]?).map (·.key)).getD (enc a) = enc a := by
      rw [List.getElem?_toArray, h1]; rfl
    simp only [Instr.keyThatStays, e, hk.same, if_true, Sem.run_bind, Sem.run_pure, Result.andThen_ok]
    rw [run_setMap _ hw]
    unfold mapOb
    rw [← h2, h3]
    simp
theorem R.mapUpd {t kt et : Nat} {enc : α → Value} (hT : P.underlying t = some (.map kt et)) (hk : KeyF P kt enc) {a : α} {l : List (α × Value)} {v : Value} {x y z : Operand} {o : Nat} {lk : LV} (hlk : Told lk (enc a))
    (ho : all[i]? = some ⟨none, .mapUpdate t x y z, ty, pos, aft, none⟩ := by rfl)
    (hx : lvOf (en E) x = some (true, .ref o) := by rfl) (hy : lvOf (en E) y = some (true, lk) := by rfl) (hz : lvOf (en E) z = some (true, .v v) := by rfl) (hb : hp L o = some (.raw (mapOb enc l)) := by rfl)
    (h : Reg P r N D B all (i + 1) ops ((i, ⟨needOf [x, y, z] [(true, .ref o), (true, lk), (true, .v v)], none, (true, .v undef), [], [(o, .raw (mapOb enc l))], [(o, .raw (mapOb enc (putM a v l)))], []⟩) :: tr) (st E ((o, .raw (mapOb enc (putM a v l))) :: L) n) K) :
    Reg P r N D B all i (⟨none, .mapUpdate t x y z, ty, pos, aft, none⟩ :: ops) tr (st E L n) K :=
  Reg.set (es := [(true, .ref o), (true, lk), (true, .v v)]) (rd := []) ho gN ⟨_, _, rfl, hx, _, _, rfl, hy, _, _, rfl, hz, rfl⟩ (by simp) hb (OpC.of_run (by simp) (by simp) fun md n0 cx H ρ w hok _ hHi _ hv => by
    obtain ⟨v1, v2, v3⟩ := Vs.three hv
    simp only [entLV] at v1 v2 v3
    have hob := hHi o (.raw (mapOb enc l)) (by simp)
    obtain ⟨b, e1, hbk, hw⟩ := V.mapV hok hob v1
    have e2 := hlk cx w _ v2
    have e3 := v3.val
    refine ⟨.skip, undef, _, cx, ?_, .inr ⟨rfl, rfl⟩, Tr.put hok hob hbk (mapOb enc (putM a v l)) (fun _ hh => ⟨b, ?_, hh⟩), V.mkval⟩
    · simp only [execOp, e1, e2, e3, Sem.run_bind, run_mapUpd hT hk a v l w hw]
      rfl
    · obtain ⟨_, b', hb', _⟩ := hok.ok o _ hob
      rw [hb'] at hbk
      simp only [bk, Option.some.injEq] at hbk
      rw [hb', hbk]) h
end
end Go.Proofs.YteccglgbkehdeaaGreatDoor
/- Whether a slice is nil, where nothing tells it: both ways. -/
namespace Go.Proofs.YteccglgbkehdeaaGreatDoor
def isBo (x : Value) : Prop := ∃ b, x = .bool b
section
variable {P : Program} {r : Option Nat} {N : Nat} {D : List Nat} {B : Base} {all : Array Oper} {K : List (Nat × Ct) → St → Prop}
variable {i : Nat} {ops : List Oper} {tr : List (Nat × Ct)} {E : List (Nat × Ent)} {L : List (Nat × LO)} {n : Nat} {g : Bool} {gn : List (Nat × Ent)}
variable {d ty : Nat} {pos : String} {aft : Array Edge} {gd : Option (Nat × Bool)}
theorem R.nilU {op : BinOp} (hop : op = .eql ∨ op = .neq := by first | exact .inl rfl | exact .inr rfl) {t e yt : Nat} (hT : P.underlying t = some (.slice e)) {x : Operand} {gx : Bool} {sz : Nat} {xs : List (List SV)}
    (ho : all[i]? = some ⟨some d, .binOp op t x (.const (.slice none 0 0)) yt, ty, pos, aft, gd⟩ := by rfl) (hg : GuardOk (en E) all gd g gn := by first | exact gN | exact gS rfl rfl)
    (hx : lvOf (en E) x = some (gx, .sv (.sl sz xs)) := by rfl) (hgx : g = true → gx = true := by first | exact fun _ => rfl | exact id)
    (h : Reg P r N D B all (i + 1) ops ((i, Ct.p gn [x, .const (.slice none 0 0)] [(gx, .sv (.sl sz xs)), (true, .v (.slice none 0 0))] (some d) (g, .pv isBo) []) :: tr) (st ((d, (g, .pv isBo)) :: E) L n) K) :
    Reg P r N D B all i (⟨some d, .binOp op t x (.const (.slice none 0 0)) yt, ty, pos, aft, gd⟩ :: ops) tr (st E L n) K :=
  Reg.two rfl (fun h => by
    rw [entLV_true h hgx]
    refine OpC.of_pure2 (x := x) (y := .const (.slice none 0 0)) rfl (by simp) fun md n0 cx H ρ w hok hrd v1 v2 => ?_
    have v2' := v2.val
    simp only [V, VS] at v1
    have key : ∃ a l c, ρ x = .slice a l c := by
      rcases v1 with ⟨h1 | ⟨a, c, h1, _⟩, _⟩ | ⟨b, off, cap, h1, _⟩
      · exact ⟨_, _, _, h1⟩
      · exact ⟨_, _, _, h1⟩
      · exact ⟨_, _, _, h1⟩
    obtain ⟨a, l, c, he⟩ := key
    rcases hop with rfl | rfl
    · exact ⟨.bool a.isNone, by cases a <;> simp [execOp, he, v2', eqGuard, binOp, run_eqNilS w t e _ _ _ hT, Sem.run_bind], by simp only [V]; exact ⟨⟨_, rfl⟩, rfl⟩⟩
    · exact ⟨.bool (!a.isNone), by cases a <;> simp [execOp, he, v2', eqGuard, binOp, run_eqNilS w t e _ _ _ hT, Sem.run_bind], by simp only [V]; exact ⟨⟨_, rfl⟩, rfl⟩⟩) ho hg hx rfl (by simp) h
end
section
variable {P : Program} {r : Option Nat} {N : Nat} {D : List Nat} {B : Base} {Ψ : Exit → Act → World → Prop} {todo : List Item}
variable {E : List (Nat × Ent)} {L : List (Nat × LO)} {n : Nat}
theorem LGo.ifU {c : Operand} {x y : Code} (hc : lvOf (en E) c = some (true, .pv isBo) := by rfl) (ht : LGo P r N D B Ψ (.code x :: todo) (st E L n)) (hf : LGo P r N D B Ψ (.code y :: todo) (st E L n)) :
    LGo P r N D B Ψ (.code (.cond c x y) :: todo) (st E L n) := by
  refine ⟨fun cx a w hr b k cs hb => ?_⟩
  have hv := eval_of_lvOf hr hc rfl
  simp only [V] at hv
  obtain ⟨⟨t, he⟩, _⟩ := hv
  cases t with
  | true =>
    obtain ⟨e, a', w', hq, harr⟩ := ht.go cx a w hr b k cs hb
    exact ⟨e, a', w', hq, .of_steps (.one (fenced_FW P r _) (stepR_cond he)) harr⟩
  | false =>
    obtain ⟨e, a', w', hq, harr⟩ := hf.go cx a w hr b k cs hb
    exact ⟨e, a', w', hq, .of_steps (.one (fenced_FW P r _) (stepR_cond he)) harr⟩
end
end Go.Proofs.YteccglgbkehdeaaGreatDoor
/- A slice written out, as0 a box of one's own: its elements may be of any kind; its length, the place of an element. -/
namespace Go.Proofs.YteccglgbkehdeaaGreatDoor
section
variable {P : Program} {r : Option Nat} {N : Nat} {D : List Nat} {B : Base} {all : Array Oper} {K : List (Nat × Ct) → St → Prop}
variable {i : Nat} {ops : List Oper} {tr : List (Nat × Ct)} {E : List (Nat × Ent)} {L : List (Nat × LO)} {n : Nat} {g : Bool} {gn : List (Nat × Ent)}
variable {d ty : Nat} {pos : String} {aft : Array Edge} {gd : Option (Nat × Bool)}
theorem OpC.buildSliceSub {t e sz : Nat} (hF : AppF P t e sz) {o : Oper} {len : Nat} {parts : Array (Nat × Operand)} {xs : List Operand} {ls : List LV} {cs : List (List LV)}
    (ho : o.op = .buildSlice t len parts) (hdd : ∀ c, o.op ≠ .defer c) (hp' : parts.toList = xs.zipIdx.map (fun p => (p.2, p.1)))
    (hcs : CellsOfs ls cs) (hsz : (cs.all fun c => c.length == sz) = true) (hlen : cs.length = len) (hsm : len * sz ≤ 16777216) (hlm : len ≤ 16777216) (n : Nat) :
    OpC P r o ls [] [] (.sub n 0 len len) [(n, .box e cs.flatten)] [n] := by
  have hl : o.op.operands.toList = xs := by
    rw [ho]
    show (parts.toList.map (·.2)).toArray.toList = xs
    rw [hp']
    simp only [List.map_map, List.toList_toArray]
    have : ((fun (x : Nat × Operand) => x.2) ∘ fun (p : Operand × Nat) => (p.2, p.1)) = Prod.fst := rfl
    rw [this]; simp
  refine OpC.of_run hdd (by simp) fun md n0 cx H ρ w hok _ _ hnew hv => ?_
  obtain ⟨ht, i0, z, hi, hz, hisz, _, hzs⟩ := hF.get
  rw [hl] at hv
  obtain ⟨us, g1, g2, g3, g4, g5⟩ := hcs.get hv
  have hcl : ∀ c ∈ cs, c.length = sz := fun c hc => by simpa using List.all_eq_true.1 hsz c hc
  have hul : ∀ u ∈ us, u.length = sz := by
    intro u hu
    obtain ⟨j, hj⟩ := List.getElem?_of_mem hu
    have hjl : j < cs.length := by rw [← g2]; exact (List.getElem?_eq_some_iff.1 hj).1
    rw [g3 j u cs[j] hj (List.getElem?_eq_getElem hjl)]
    exact hcl _ (List.getElem_mem hjl)
  have hxl : xs.length = len := by
    have h1 := congrArg List.length g1
    simp only [List.length_map] at h1
    omega
  have hus : us.flatten.length = len * sz := by
    rw [List.length_flatten]
    have : us.map List.length = List.replicate us.length sz := by
      rw [List.eq_replicate_iff]
      refine ⟨by simp, fun b hb => ?_⟩
      obtain ⟨e, he, rfl⟩ := List.mem_map.1 hb
      exact hul e he
    rw [this]; simp only [List.sum_replicate_nat]; rw [show us.length = len from by omega]
  let C0 : Array Value := (Array.range (len * sz)).map (fun k => (if len * sz = 0 then #[] else z.cells)[k % (if len * sz = 0 then #[] else z.cells).size]!)
  have hC0 : C0.size = len * sz := by simp [C0]
  obtain ⟨C', f1, f2⟩ := fill_seq sz (xs.map ρ) us 0 C0 g1 hul (by rw [List.length_map, hC0, hxl]; simp)
  have hC' : C'.toList = us.flatten := by
    rw [f2]
    simp only [Nat.zero_mul, List.take_zero, List.nil_append, Nat.zero_add, List.length_map, hxl]
    rw [List.drop_of_length_le (by simp [hC0])]; simp
  have hCs : C'.size = len * sz := by rw [← Array.length_toList, hC', hus]
  have hCe : C' = us.flatten.toArray := by rw [← hC']
  obtain ⟨cx', t1, hp1⟩ := alloc_box (T := e) (w0 := w) hok (hnew n (by simp)) ⟨rfl, rfl, rfl, rfl⟩ g4
  have hv' : V cx' (w.alloc (.cells us.flatten.toArray e)) (.sub n 0 len len) (.slice (some ⟨w.heap.size, 0, none⟩) len len) := by
    simp only [V] at hp1 ⊢
    obtain ⟨hA, b, hb, he⟩ := hp1
    simp only [Value.pointer.injEq, Option.some.injEq, Addr.mk.injEq] at he
    exact ⟨hA, b, hb, by rw [he.1]⟩
  rw [← hCe] at t1 hv'
  refine ⟨_, _, _, cx', ?_, .inl rfl, t1, hv'⟩
  have hp2 : (parts.map fun x => (x.1, ρ x.2)).toList = ((xs.map ρ).zipIdx 0).map fun p => (p.2, p.1) := by
    rw [Array.toList_map, hp']
    simp only [List.map_map, List.zipIdx_map]
    rfl
  have hop : (parts.map fun x => (x.1, ρ x.2)) = (((xs.map ρ).zipIdx 0).map fun p => (p.2, p.1)).toArray := by rw [← hp2]
  have hbig : ¬ len * sz > 16777216 := by omega
  have hfill : Instr.fill (fun i => some (i * sz, sz)) ((Array.range (len * sz)).map (fun k => (if len * sz = 0 then #[] else z.cells)[k % (if len * sz = 0 then #[] else z.cells).size]!)) (((xs.map ρ).zipIdx 0).map fun p => (p.2, p.1)) = some C' := f1
  by_cases h0 : len * sz = 0
  · simp only [h0, if_true] at hfill
    simp [execOp, ho, Instr.buildSlice, run_underlying ht, sizeOf, typeInfo, hi, hisz, hop, h0, newRow]
    simp at hfill
    rw [hfill]
    simp
  · simp only [h0, if_false] at hfill
    simp only [execOp, ho, Instr.buildSlice, hop]
    simp [run_underlying ht, sizeOf, typeInfo, zeroValue, hi, hz, hisz, h0, newRow]
    rw [if_neg hbig]
    rw [hfill]
    simp
theorem R.buildSliceSub {t e sz : Nat} (hF : AppF P t e sz) {len : Nat} {parts : Array (Nat × Operand)} {xs : List Operand} {es : List Ent} {ls : List LV} {cs : List (List LV)} {ds : List LV}
    (ho : all[i]? = some ⟨some d, .buildSlice t len parts, ty, pos, aft, none⟩ := by rfl) (hp' : parts.toList = xs.zipIdx.map (fun p => (p.2, p.1)) := by rfl)
    (hx : xs.map (lvOf (en E)) = es.map some := by rfl) (hes : es.map entLV = ls := by rfl) (hcs : CellsOfs ls cs := by repeat (first | exact CellsOfs.nil | refine CellsOfs.cons (CellsOf.one rfl) ?_ | refine CellsOfs.cons (CellsOf.agg rfl) ?_)) (hsz : (cs.all fun c => c.length == sz) = true := by rfl) (hlen : cs.length = len := by rfl)
    (hsm : len * sz ≤ 16777216 := by first | decide | omega) (hlm : len ≤ 16777216 := by first | decide | omega) (hds : cs.flatten = ds := by rfl)
    (h : Reg P r N D B all (i + 1) ops ((i, ⟨needOf xs es, some d, (true, .sub n 0 len len), [], [], [(n, .box e ds)], [n]⟩) :: tr) (st ((d, (true, .sub n 0 len len)) :: E) ((n, .box e ds) :: L) (n + 1)) K) :
    Reg P r N D B all i (⟨some d, .buildSlice t len parts, ty, pos, aft, none⟩ :: ops) tr (st E L n) K := by
  subst hds
  subst hes
  have hl : (Oper.mk (some d) (.buildSlice t len parts) ty pos aft none).op.operands.toList = xs := by
    show (parts.toList.map (·.2)).toArray.toList = xs
    rw [hp']
    simp only [List.map_map, List.toList_toArray]
    have : ((fun (x : Nat × Operand) => x.2) ∘ fun (p : Operand × Nat) => (p.2, p.1)) = Prod.fst := rfl
    rw [this]; simp
  exact Reg.new (es := es) (rd := []) ho gN (by rw [hl]; exact Opnds.of_map hx) (by simp) (OpC.buildSliceSub hF rfl (by simp) hp' hcs hsz hlen hsm hlm n) (by rw [hl]; exact h)
theorem R.indexSub {T sz : Nat} (hF : IndexF P T sz) {x y : Operand} {gx gy : Bool} {o off len cap : Nat} {k : IntKind} {j : Int}
    (ho : all[i]? = some ⟨some d, .indexAddr T x y, ty, pos, aft, gd⟩ := by rfl) (hg : GuardOk (en E) all gd g gn := by first | exact gN | exact gS rfl rfl)
    (hx : lvOf (en E) x = some (gx, .sub o off len cap) := by rfl) (hy : lvOf (en E) y = some (gy, .v (.int k j)) := by rfl)
    (hgx : g = true → gx = true := by first | exact fun _ => rfl | exact id) (hgy : g = true → gy = true := by first | exact fun _ => rfl | exact id)
    (hj : g = true → 0 ≤ j ∧ j < len)
    (h : Reg P r N D B all (i + 1) ops ((i, Ct.p gn [x, y] [(gx, .sub o off len cap), (gy, .v (.int k j))] (some d) (g, .ptr o (off + j.toNat * sz)) []) :: tr) (st ((d, (g, .ptr o (off + j.toNat * sz))) :: E) L n) K) :
    Reg P r N D B all i (⟨some d, .indexAddr T x y, ty, pos, aft, gd⟩ :: ops) tr (st E L n) K :=
  Reg.two rfl (fun h => by
    rw [entLV_true h hgx, entLV_true h hgy]
    refine OpC.of_pure2 (x := x) (y := y) rfl (by simp) fun md n0 cx H ρ w hok hrd v1 v2 => ?_
    obtain ⟨h0, hlt⟩ := hj h
    simp only [V] at v1
    obtain ⟨hA, b, hb, hv1⟩ := v1
    refine ⟨.pointer (some ⟨b, off + j.toNat * sz, none⟩), by simp only [execOp, hv1, v2.val]; simp [hF b off len cap k j w h0 hlt], ?_⟩
    simp only [V]
    exact ⟨hA, b, hb, rfl⟩) ho hg hx hy (by simp) h
end
end Go.Proofs.YteccglgbkehdeaaGreatDoor
/- A struct out of some of its fields, of any size. -/
namespace Go.Proofs.YteccglgbkehdeaaGreatDoor
def putC {α : Type} (C : List α) (q : Nat × List α) : List α := C.take q.1 ++ q.2 ++ C.drop (q.1 + q.2.length)
theorem putC_len {α : Type} (C : List α) (q : Nat × List α) (h : q.1 + q.2.length ≤ C.length) : (putC C q).length = C.length := by
  unfold putC
  simp only [List.length_append, List.length_take, List.length_drop]
  omega
theorem fill_gen {offs : List (Nat × Nat)} {m : Nat} : ∀ (ps : List (Nat × Value)) (qs : List (Nat × List Value)) (C : Array Value), C.size = m → ps.map (fun p => offs[p.1]?) = qs.map (fun q => some (q.1, q.2.length)) → ps.map (fun p => p.2.cells) = qs.map (fun q => q.2.toArray) → (∀ q ∈ qs, q.1 + q.2.length ≤ m) →
    Instr.fill (offs.toArray[·]?) C ps = some (qs.foldl putC C.toList).toArray
  | [], qs, C, _, h, _, _ => by cases qs with
    | nil => simp [Instr.fill]
    | cons q qs => simp at h
  | (j, v) :: ps, [], C, _, h, _, _ => by simp at h
  | (j, v) :: ps, q :: qs, C, hC, h, h1, h2 => by
    simp only [List.map_cons, List.cons.injEq] at h h1
    have hk := h2 q (by simp)
    have hf : (q.2.toArray.zipIdx.foldl (fun (cs : Array Value) (x : Value × Nat) => cs.setIfInBounds (q.1 + x.2) x.1) C).toList = putC C.toList q := by
      have := foldl_set q.2 0 q.1 C (by omega)
      simp only [Nat.add_zero] at this
      unfold putC
      rw [← this, ← Array.foldl_toList]
      simp
    have hsz : (q.2.toArray.zipIdx.foldl (fun (cs : Array Value) (x : Value × Nat) => cs.setIfInBounds (q.1 + x.2) x.1) C).size = m := by
      rw [← Array.length_toList, hf, putC_len _ _ (by simp; omega)]
      simpa using hC
    have ih := fill_gen (offs := offs) ps qs _ hsz h.2 h1.2 (fun q hq => h2 q (List.mem_cons_of_mem _ hq))
    simp only [Instr.fill]
    have e1 : offs.toArray[j]? = some (q.1, q.2.length) := by simpa using h.1
    rw [e1]
    simp only [h1.1]
    rw [if_neg (by simp; omega)]
    rw [hf] at ih
    exact ih
theorem vs_putC {cx : Cx} {w : World} {C : List LV} {D : List Value} {q : Nat × List LV} {u : List Value} (h : Vs cx w C D) (k : Vs cx w q.2 u) : Vs cx w (putC C q) (putC D (q.1, u)) := by
  unfold putC
  have h1 := Vs.splits q.1 C D h
  have h2 := Vs.splits (q.1 + q.2.length) C D h
  rw [← k.length] at h2 ⊢
  exact Vs.append (Vs.append h1.1 k) h2.2
theorem vs_putCs {cx : Cx} {w : World} : ∀ (ks : List Nat) (cs : List (List LV)) (us : List (List Value)) (C : List LV) (D : List Value), Vs cx w C D → us.length = cs.length → (∀ (j : Nat) (u : List Value) (c : List LV), us[j]? = some u → cs[j]? = some c → Vs cx w c u) →
    Vs cx w ((ks.zip cs).foldl putC C) ((ks.zip us).foldl putC D)
  | [], cs, us, C, D, h, _, _ => by simpa using h
  | k :: ks, [], us, C, D, h, hl, _ => by
    have : us = [] := List.eq_nil_of_length_eq_zero (by simpa using hl)
    subst this
    simpa using h
  | k :: ks, c :: cs, [], C, D, h, hl, _ => by simp at hl
  | k :: ks, c :: cs, u :: us, C, D, h, hl, hv => by
    simp only [List.zip_cons_cons, List.foldl_cons]
    exact vs_putCs ks cs us _ _ (vs_putC (q := (k, c)) h (hv 0 u c rfl rfl)) (by simpa using hl) (fun j u' c' h1 h2 => hv (j + 1) u' c' (by simpa using h1) (by simpa using h2))
/-- the cells of several values, each with its own -/
theorem CellsOfs.each : ∀ {ls : List LV} {cs : List (List LV)}, CellsOfs ls cs → ∀ {cx : Cx} {w : World} {vs : List Value}, Vs cx w ls vs →
    ∃ us : List (List Value), vs.map Value.cells = us.map List.toArray ∧ us.length = cs.length ∧ (∀ (j : Nat) (u : List Value) (c : List LV), us[j]? = some u → cs[j]? = some c → Vs cx w c u)
  | [], cs, h, cx, w, vs, hv => by
    simp only [CellsOfs] at h; subst h
    simp only [Vs] at hv; subst hv
    exact ⟨[], by simp, by simp, by simp⟩
  | l :: ls, cs, h, cx, w, vs, hv => by
    obtain ⟨c, r', rfl, h1, h2⟩ := h
    simp only [Vs] at hv
    obtain ⟨y, ys, rfl, hy, hys⟩ := hv
    obtain ⟨u, k1, k2, _⟩ := h1 cx w y hy
    obtain ⟨us, g1, g2, g3⟩ := CellsOfs.each h2 hys
    refine ⟨u :: us, by simp [k1, g1], by simp [g2], fun j u' c' hu hc => ?_⟩
    cases j with
    | zero => simp at hu hc; subst hu; subst hc; exact k2
    | succ j => exact g3 j u' c' (by simpa using hu) (by simpa using hc)
section
variable {P : Program} {r : Option Nat} {N : Nat} {D : List Nat} {B : Base} {all : Array Oper} {K : List (Nat × Ct) → St → Prop}
variable {i : Nat} {ops : List Oper} {tr : List (Nat × Ct)} {E : List (Nat × Ent)} {L : List (Nat × LO)} {n : Nat} {g : Bool} {gn : List (Nat × Ent)}
variable {d ty : Nat} {pos : String} {aft : Array Edge} {gd : Option (Nat × Bool)}
theorem R.buildA {t : Nat} {zs : List Value} {offs : List (Nat × Nat)} (hF : BuildG P t zs offs) {parts : Array (Nat × Operand)} {is ks : List Nat} {xs : List Operand} {es : List Ent} {ls : List LV} {cs : List (List LV)} {ds : List LV}
    (ho : all[i]? = some ⟨some d, .build t parts, ty, pos, aft, gd⟩ := by rfl) (hg : GuardOk (en E) all gd g gn := by first | exact gN | exact gS rfl rfl) (hp' : parts.toList = is.zip xs := by rfl) (hil : is.length = xs.length := by rfl)
    (hx : xs.map (lvOf (en E)) = es.map some := by rfl) (hes : g = true → es.map entLV = ls := by first | exact fun _ => rfl | (intro h; simp [entLV, h]; done) | (intro h; simp only [List.map_cons, List.map_nil, entLV_eq h]; first | done | rfl))
    (hcs : CellsOfs ls cs := by repeat (first | exact CellsOfs.nil | refine CellsOfs.cons (CellsOf.one rfl) ?_ | refine CellsOfs.cons (CellsOf.agg rfl) ?_))
    (hkl : ks.length = cs.length := by rfl) (hk : is.map (fun i => offs[i]?) = (ks.zip cs).map (fun q => some (q.1, q.2.length)) := by rfl) (hlt : ((ks.zip cs).all fun q => decide (q.1 + q.2.length ≤ zs.length)) = true := by rfl)
    (hds : (ks.zip cs).foldl putC (zs.map fun c => .sv (.val c)) = ds := by rfl)
    (h : Reg P r N D B all (i + 1) ops ((i, Ct.p gn xs es (some d) (g, .agg ds) []) :: tr) (st ((d, (g, .agg ds)) :: E) L n) K) :
    Reg P r N D B all i (⟨some d, .build t parts, ty, pos, aft, gd⟩ :: ops) tr (st E L n) K := by
  have hop : (Oper.mk (some d) (.build t parts) ty pos aft gd).op.operands.toList = xs := by
    show (parts.toList.map (·.2)).toArray.toList = xs
    rw [hp']
    simp only [List.toList_toArray]
    exact List.map_snd_zip (by omega)
  refine Reg.pure (es := es) (rd := []) (out := .agg ds) ho hg ?_ (by simp) (fun hgt => ?_) ?_
  · rw [hop]; exact Opnds.of_map hx
  · rw [hes hgt]
    refine OpC.of_pure (by simp) fun md n0 cx H ρ w _ _ hv => ?_
    rw [hop] at hv
    obtain ⟨hz, fields, hu, hm⟩ := hF
    obtain ⟨us, g1, g2, g3⟩ := hcs.each hv
    have hxl : xs.length = cs.length := by
      have h1 := congrArg List.length g1
      simp only [List.length_map] at h1
      omega
    have hpl : (parts.map fun (x : Nat × Operand) => (x.1, ρ x.2)).toList = is.zip (xs.map ρ) := by
      rw [Array.toList_map, hp', List.zip_map_right]
      rfl
    have hfs : (is.zip (xs.map ρ)).map Prod.fst = is := List.map_fst_zip (by rw [List.length_map]; omega)
    have hsn : (is.zip (xs.map ρ)).map Prod.snd = xs.map ρ := List.map_snd_zip (by rw [List.length_map]; omega)
    have hlen : ∀ (j : Nat) (u : List Value) (c : List LV), us[j]? = some u → cs[j]? = some c → u.length = c.length := fun j u c h1 h2 => (g3 j u c h1 h2).length
    have hzz : (ks.zip us).map (fun q => (q.1, q.2.length)) = (ks.zip cs).map (fun q => (q.1, q.2.length)) := by
      apply List.ext_getElem?
      intro j
      rw [List.getElem?_map, List.getElem?_map]
      by_cases hj : j < cs.length
      · have e1 : us[j]? = some us[j] := List.getElem?_eq_getElem (by omega)
        have e2 : cs[j]? = some cs[j] := List.getElem?_eq_getElem hj
        have e3 : ks[j]? = some ks[j] := List.getElem?_eq_getElem (by omega)
        have := hlen j _ _ e1 e2
        have z1 : (ks.zip us)[j]? = some (ks[j], us[j]) := List.getElem?_zip_eq_some.2 ⟨e3, e1⟩
        have z2 : (ks.zip cs)[j]? = some (ks[j], cs[j]) := List.getElem?_zip_eq_some.2 ⟨e3, e2⟩
        rw [z1, z2]; simp [this]
      · rw [List.getElem?_eq_none (by simp; omega), List.getElem?_eq_none (by simp; omega)]
        rfl
    have hmp : (is.zip (xs.map ρ)).map (fun p => offs[p.1]?) = (ks.zip us).map (fun q => some (q.1, q.2.length)) := by
      rw [show (fun p : Nat × Value => offs[p.1]?) = (fun i => offs[i]?) ∘ Prod.fst from rfl, ← List.map_map, hfs, hk]
      have := congrArg (List.map some) hzz
      simp only [List.map_map] at this
      exact this.symm
    have hcl : (is.zip (xs.map ρ)).map (fun p => p.2.cells) = (ks.zip us).map (fun q => q.2.toArray) := by
      rw [show (fun p : Nat × Value => p.2.cells) = Value.cells ∘ Prod.snd from rfl, ← List.map_map, hsn, g1, show (fun q : Nat × List Value => q.2.toArray) = List.toArray ∘ Prod.snd from rfl, ← List.map_map, List.map_snd_zip (by omega)]
    have hle : ∀ q ∈ ks.zip us, q.1 + q.2.length ≤ zs.length := by
      intro q hq
      have : (q.1, q.2.length) ∈ (ks.zip cs).map (fun q => (q.1, q.2.length)) := by rw [← hzz]; exact List.mem_map.2 ⟨q, hq, rfl⟩
      obtain ⟨q2, h2, e2⟩ := List.mem_map.1 this
      have h3 := List.all_eq_true.1 hlt q2 h2
      simp only [decide_eq_true_eq] at h3
      simp only [Prod.mk.injEq] at e2
      omega
    have hfill := fill_gen (offs := offs) (m := zs.length) (is.zip (xs.map ρ)) (ks.zip us) zs.toArray (by simp) hmp hcl hle
    refine ⟨.agg ((ks.zip us).foldl putC zs).toArray, ?_, ?_⟩
    · simp only [execOp, Instr.build, Sem.run_bind, hz w, hu w, Result.andThen_ok, hm w, Value.cells]
      have : (parts.map fun (i, x) => (i, ρ x)).toList = is.zip (xs.map ρ) := hpl
      rw [this]
      simp only [List.toList_toArray] at hfill
      rw [hfill]
      simp
    · rw [← hds]
      simp only [V]
      exact ⟨_, rfl, vs_putCs ks cs us _ _ (vs_map_val cx w zs) g2 g3⟩
  · rw [hop]; exact h
end
theorem mixedO : Tryz.prog.follows .mixedOrders = true := by kernel_rfl
theorem O2 : OneF Tryz.prog 2 := ⟨Tryz.isAgg2, Tryz.sizeOf2⟩
theorem O3 : OneF Tryz.prog 3 := ⟨Tryz.isAgg3, Tryz.sizeOf3⟩
theorem Z3 : ZeroF Tryz.prog 3 (Go.Value.int Go.IntKind.i64 0) := Tryz.zeroValue3
theorem O4 : OneF Tryz.prog 4 := ⟨Tryz.isAgg4, Tryz.sizeOf4⟩
theorem Z4 : ZeroF Tryz.prog 4 (Go.Value.bool false) := Tryz.zeroValue4
theorem O5 : OneF Tryz.prog 5 := ⟨Tryz.isAgg5, Tryz.sizeOf5⟩
theorem A7 : AggF Tryz.prog 7 4 := ⟨Tryz.isAgg7, Tryz.sizeOf7⟩
theorem A8 : AggF Tryz.prog 8 4 := ⟨Tryz.isAgg8, Tryz.sizeOf8⟩
theorem O9 : OneF Tryz.prog 9 := ⟨Tryz.isAgg9, Tryz.sizeOf9⟩
theorem O22 : OneF Tryz.prog 22 := ⟨Tryz.isAgg22, Tryz.sizeOf22⟩
theorem I22 : IndexF Tryz.prog 22 3 := IndexF.of Tryz.runUnderlying22 Tryz.sizeOf80
theorem S22 : SliceT Tryz.prog 22 := ⟨_, Tryz.runUnderlying22⟩
theorem AP22 : AppF Tryz.prog 22 80 3 := ⟨Tryz.underlying22, by kernel_rfl⟩
theorem SF22 : SliceF Tryz.prog 22 3 := ⟨_, Tryz.runUnderlying22, Tryz.sizeOf80⟩
theorem A24 : AggF Tryz.prog 24 4 := ⟨Tryz.isAgg24, Tryz.sizeOf24⟩
theorem F24_0 : FieldF Tryz.prog 24 0 0 := FieldF.of Tryz.runUnderlying24 rfl rfl Tryz.sizeOf3
theorem F24_1 : FieldF Tryz.prog 24 1 1 := FieldF.of Tryz.runUnderlying24 rfl rfl Tryz.sizeOf2
theorem F24_2 : FieldF Tryz.prog 24 2 2 := FieldF.of Tryz.runUnderlying24 rfl rfl Tryz.sizeOf2
theorem F24_3 : FieldF Tryz.prog 24 3 3 := FieldF.of Tryz.runUnderlying24 rfl rfl Tryz.sizeOf22
theorem BF24 : BuildF Tryz.prog 24 [Go.Value.int Go.IntKind.i64 0, Go.Value.int Go.IntKind.i64 0, Go.Value.int Go.IntKind.i64 0, Go.Value.slice none 0 0] := ⟨Tryz.zeroValue24, by simp [Value.oneCell'], _, Tryz.runUnderlying24, fun w => by
  simp [Sem.run_bind, Result.andThen, Tryz.sizeOf2, Tryz.sizeOf3, Tryz.sizeOf22, List.range, List.range.loop]⟩
theorem O25 : OneF Tryz.prog 25 := ⟨Tryz.isAgg25, Tryz.sizeOf25⟩
theorem I25 : IndexF Tryz.prog 25 3 := IndexF.of Tryz.runUnderlying25 Tryz.sizeOf71
theorem S25 : SliceT Tryz.prog 25 := ⟨_, Tryz.runUnderlying25⟩
theorem AP25 : AppF Tryz.prog 25 71 3 := ⟨Tryz.underlying25, by kernel_rfl⟩
theorem O26 : OneF Tryz.prog 26 := ⟨Tryz.isAgg26, Tryz.sizeOf26⟩
theorem I26 : IndexF Tryz.prog 26 11 := IndexF.of Tryz.runUnderlying26 Tryz.sizeOf40
theorem S26 : SliceT Tryz.prog 26 := ⟨_, Tryz.runUnderlying26⟩
theorem AP26 : AppF Tryz.prog 26 40 11 := ⟨Tryz.underlying26, by kernel_rfl⟩
theorem O27 : OneF Tryz.prog 27 := ⟨Tryz.isAgg27, Tryz.sizeOf27⟩
theorem Z27 : ZeroF Tryz.prog 27 (Go.Value.slice none 0 0) := Tryz.zeroValue27
theorem I27 : IndexF Tryz.prog 27 3 := IndexF.of Tryz.runUnderlying27 Tryz.sizeOf58
theorem S27 : SliceT Tryz.prog 27 := ⟨_, Tryz.runUnderlying27⟩
theorem AP27 : AppF Tryz.prog 27 58 3 := ⟨Tryz.underlying27, by kernel_rfl⟩
theorem A29 : AggF Tryz.prog 29 9 := ⟨Tryz.isAgg29, Tryz.sizeOf29⟩
theorem Z29 : ZeroF Tryz.prog 29 (Go.Value.agg #[Go.Value.int Go.IntKind.i64 0, Go.Value.int Go.IntKind.i64 0, Go.Value.int Go.IntKind.i64 0, Go.Value.slice none 0 0, Go.Value.string (ByteArray.mk #[]), Go.Value.slice none 0 0, Go.Value.int Go.IntKind.i64 0, Go.Value.slice none 0 0, Go.Value.slice none 0 0]) := Tryz.zeroValue29
theorem F29_0 : FieldF Tryz.prog 29 0 0 := FieldF.of Tryz.runUnderlying29 rfl rfl Tryz.sizeOf24
theorem F29_1 : FieldF Tryz.prog 29 1 4 := FieldF.of Tryz.runUnderlying29 rfl rfl Tryz.sizeOf9
theorem F29_2 : FieldF Tryz.prog 29 2 5 := FieldF.of Tryz.runUnderlying29 rfl rfl Tryz.sizeOf25
theorem F29_3 : FieldF Tryz.prog 29 3 6 := FieldF.of Tryz.runUnderlying29 rfl rfl Tryz.sizeOf3
theorem F29_4 : FieldF Tryz.prog 29 4 7 := FieldF.of Tryz.runUnderlying29 rfl rfl Tryz.sizeOf26
theorem F29_5 : FieldF Tryz.prog 29 5 8 := FieldF.of Tryz.runUnderlying29 rfl rfl Tryz.sizeOf27
theorem BG29 : BuildG Tryz.prog 29 [Go.Value.int Go.IntKind.i64 0, Go.Value.int Go.IntKind.i64 0, Go.Value.int Go.IntKind.i64 0, Go.Value.slice none 0 0, Go.Value.string (ByteArray.mk #[]), Go.Value.slice none 0 0, Go.Value.int Go.IntKind.i64 0, Go.Value.slice none 0 0, Go.Value.slice none 0 0] [(0, 4), (4, 1), (5, 1), (6, 1), (7, 1), (8, 1)] := ⟨Tryz.zeroValue29, _, Tryz.runUnderlying29, fun w => by
  simp [Sem.run_bind, Result.andThen, Tryz.sizeOf3, Tryz.sizeOf9, Tryz.sizeOf24, Tryz.sizeOf25, Tryz.sizeOf26, Tryz.sizeOf27]⟩
theorem O30 : OneF Tryz.prog 30 := ⟨Tryz.isAgg30, Tryz.sizeOf30⟩
theorem O38 : OneF Tryz.prog 38 := ⟨Tryz.isAgg38, Tryz.sizeOf38⟩
theorem A40 : AggF Tryz.prog 40 11 := ⟨Tryz.isAgg40, Tryz.sizeOf40⟩
theorem Z40 : ZeroF Tryz.prog 40 (Go.Value.agg #[Go.Value.int Go.IntKind.i64 0, Go.Value.int Go.IntKind.u32 0, Go.Value.int Go.IntKind.u32 0, Go.Value.int Go.IntKind.i64 0, Go.Value.int Go.IntKind.i64 0, Go.Value.int Go.IntKind.i64 0, Go.Value.int Go.IntKind.i64 0, Go.Value.int Go.IntKind.i64 0, Go.Value.int Go.IntKind.i64 0, Go.Value.int Go.IntKind.i64 0, Go.Value.string (ByteArray.mk #[])]) := Tryz.zeroValue40
theorem F40_0 : FieldF Tryz.prog 40 0 0 := FieldF.of Tryz.runUnderlying40 rfl rfl Tryz.sizeOf3
theorem F40_1 : FieldF Tryz.prog 40 1 1 := FieldF.of Tryz.runUnderlying40 rfl rfl Tryz.sizeOf38
theorem F40_2 : FieldF Tryz.prog 40 2 2 := FieldF.of Tryz.runUnderlying40 rfl rfl Tryz.sizeOf38
theorem F40_3 : FieldF Tryz.prog 40 3 3 := FieldF.of Tryz.runUnderlying40 rfl rfl Tryz.sizeOf3
theorem F40_4 : FieldF Tryz.prog 40 4 4 := FieldF.of Tryz.runUnderlying40 rfl rfl Tryz.sizeOf3
theorem F40_5 : FieldF Tryz.prog 40 5 5 := FieldF.of Tryz.runUnderlying40 rfl rfl Tryz.sizeOf3
theorem F40_6 : FieldF Tryz.prog 40 6 6 := FieldF.of Tryz.runUnderlying40 rfl rfl Tryz.sizeOf3
theorem F40_7 : FieldF Tryz.prog 40 7 7 := FieldF.of Tryz.runUnderlying40 rfl rfl Tryz.sizeOf3
theorem F40_8 : FieldF Tryz.prog 40 8 8 := FieldF.of Tryz.runUnderlying40 rfl rfl Tryz.sizeOf3
theorem F40_9 : FieldF Tryz.prog 40 9 9 := FieldF.of Tryz.runUnderlying40 rfl rfl Tryz.sizeOf3
theorem F40_10 : FieldF Tryz.prog 40 10 10 := FieldF.of Tryz.runUnderlying40 rfl rfl Tryz.sizeOf9
theorem BF40 : BuildF Tryz.prog 40 [Go.Value.int Go.IntKind.i64 0, Go.Value.int Go.IntKind.u32 0, Go.Value.int Go.IntKind.u32 0, Go.Value.int Go.IntKind.i64 0, Go.Value.int Go.IntKind.i64 0, Go.Value.int Go.IntKind.i64 0, Go.Value.int Go.IntKind.i64 0, Go.Value.int Go.IntKind.i64 0, Go.Value.int Go.IntKind.i64 0, Go.Value.int Go.IntKind.i64 0, Go.Value.string (ByteArray.mk #[])] := ⟨Tryz.zeroValue40, by simp [Value.oneCell'], _, Tryz.runUnderlying40, fun w => by
  simp [Sem.run_bind, Result.andThen, Tryz.sizeOf3, Tryz.sizeOf9, Tryz.sizeOf38, List.range, List.range.loop]⟩
theorem QF40 (a0 b0 : Int) (a1 b1 : Int) (a2 b2 : Int) (a3 b3 : Int) (a4 b4 : Int) (a5 b5 : Int) (a6 b6 : Int) (a7 b7 : Int) (a8 b8 : Int) (a9 b9 : Int) (a10 b10 : List UInt8) : ∀ w, (Op.eqFields 9999 #[.int .i64 a0, .int .u32 a1, .int .u32 a2, .int .i64 a3, .int .i64 a4, .int .i64 a5, .int .i64 a6, .int .i64 a7, .int .i64 a8, .int .i64 a9, .string ⟨a10.toArray⟩] #[.int .i64 b0, .int .u32 b1, .int .u32 b2, .int .i64 b3, .int .i64 b4, .int .i64 b5, .int .i64 b6, .int .i64 b7, .int .i64 b8, .int .i64 b9, .string ⟨b10.toArray⟩] (#[⟨ "Kind", 3, 0, false, "", "", 0⟩, ⟨ "Owner", 38, 1, false, "", "", 8⟩, ⟨ "To", 38, 2, false, "", "", 12⟩, ⟨ "Session", 3, 3, false, "", "", 16⟩, ⟨ "Ticket", 3, 4, false, "", "", 24⟩, ⟨ "Seat", 3, 5, false, "", "", 32⟩, ⟨ "Section", 3, 6, false, "", "", 40⟩, ⟨ "N", 3, 7, false, "", "", 48⟩, ⟨ "Gate", 3, 8, false, "", "", 56⟩, ⟨ "Spoil", 3, 9, false, "", "", 64⟩, ⟨ "Raw", 9, 10, false, "", "", 72⟩] : Array Field).toList).run Tryz.prog w = .ok ((((((((((decide (a0 = b0) && decide (a1 = b1)) && decide (a2 = b2)) && decide (a3 = b3)) && decide (a4 = b4)) && decide (a5 = b5)) && decide (a6 = b6)) && decide (a7 = b7)) && decide (a8 = b8)) && decide (a9 = b9)) && decide (a10 = b10)) w := by
  intro w
  simp [Op.eqFields, part, byt_beq, run_equalIn_int (P := Tryz.prog) _ 9998 3 _ _ _ _ Tryz.underlying3, run_equalIn_int (P := Tryz.prog) _ 9998 38 _ _ _ _ Tryz.underlying38, run_equalIn_int (P := Tryz.prog) _ 9998 38 _ _ _ _ Tryz.underlying38, run_equalIn_int (P := Tryz.prog) _ 9998 3 _ _ _ _ Tryz.underlying3, run_equalIn_int (P := Tryz.prog) _ 9998 3 _ _ _ _ Tryz.underlying3, run_equalIn_int (P := Tryz.prog) _ 9998 3 _ _ _ _ Tryz.underlying3, run_equalIn_int (P := Tryz.prog) _ 9998 3 _ _ _ _ Tryz.underlying3, run_equalIn_int (P := Tryz.prog) _ 9998 3 _ _ _ _ Tryz.underlying3, run_equalIn_int (P := Tryz.prog) _ 9998 3 _ _ _ _ Tryz.underlying3, run_equalIn_int (P := Tryz.prog) _ 9998 3 _ _ _ _ Tryz.underlying3, run_equalIn_string (P := Tryz.prog) _ 9998 9 _ _ Tryz.underlying9, Tryz.isAgg3, Tryz.isAgg9, Tryz.isAgg38]
  by_cases h0 : a0 = b0 <;> by_cases h1 : a1 = b1 <;> by_cases h2 : a2 = b2 <;> by_cases h3 : a3 = b3 <;> by_cases h4 : a4 = b4 <;> by_cases h5 : a5 = b5 <;> by_cases h6 : a6 = b6 <;> by_cases h7 : a7 = b7 <;> by_cases h8 : a8 = b8 <;> by_cases h9 : a9 = b9 <;> by_cases h10 : a10 = b10 <;> simp [*]
theorem NE40 (x y : Operand) (a0 b0 : Int) (a1 b1 : Int) (a2 b2 : Int) (a3 b3 : Int) (a4 b4 : Int) (a5 b5 : Int) (a6 b6 : Int) (a7 b7 : Int) (a8 b8 : Int) (a9 b9 : Int) (a10 b10 : List UInt8) : ∀ w, (do eqGuard .neq 40 x y (.agg #[.int .i64 a0, .int .u32 a1, .int .u32 a2, .int .i64 a3, .int .i64 a4, .int .i64 a5, .int .i64 a6, .int .i64 a7, .int .i64 a8, .int .i64 a9, .string ⟨a10.toArray⟩]) (.agg #[.int .i64 b0, .int .u32 b1, .int .u32 b2, .int .i64 b3, .int .i64 b4, .int .i64 b5, .int .i64 b6, .int .i64 b7, .int .i64 b8, .int .i64 b9, .string ⟨b10.toArray⟩]); binOp .neq 40 (.agg #[.int .i64 a0, .int .u32 a1, .int .u32 a2, .int .i64 a3, .int .i64 a4, .int .i64 a5, .int .i64 a6, .int .i64 a7, .int .i64 a8, .int .i64 a9, .string ⟨a10.toArray⟩]) (.agg #[.int .i64 b0, .int .u32 b1, .int .u32 b2, .int .i64 b3, .int .i64 b4, .int .i64 b5, .int .i64 b6, .int .i64 b7, .int .i64 b8, .int .i64 b9, .string ⟨b10.toArray⟩]) : Sem Value).run Tryz.prog w = .ok (.bool (!((((((((((decide (a0 = b0) && decide (a1 = b1)) && decide (a2 = b2)) && decide (a3 = b3)) && decide (a4 = b4)) && decide (a5 = b5)) && decide (a6 = b6)) && decide (a7 = b7)) && decide (a8 = b8)) && decide (a9 = b9)) && decide (a10 = b10)))) w := run_neS Tryz.underlying40 Tryz.stoodInHeld40 Tryz.eqGuardType40 (QF40 a0 b0 a1 b1 a2 b2 a3 b3 a4 b4 a5 b5 a6 b6 a7 b7 a8 b8 a9 b9 a10 b10) x y
theorem O41 : OneF Tryz.prog 41 := ⟨Tryz.isAgg41, Tryz.sizeOf41⟩
theorem O44 : OneF Tryz.prog 44 := ⟨Tryz.isAgg44, Tryz.sizeOf44⟩
theorem Z44 : ZeroF Tryz.prog 44 (Go.Value.slice none 0 0) := Tryz.zeroValue44
theorem I44 : IndexF Tryz.prog 44 1 := IndexF.of Tryz.runUnderlying44 Tryz.sizeOf5
theorem S44 : SliceT Tryz.prog 44 := ⟨_, Tryz.runUnderlying44⟩
theorem AP44 : AppF Tryz.prog 44 5 1 := ⟨Tryz.underlying44, by kernel_rfl⟩
theorem SF44 : SliceF Tryz.prog 44 1 := ⟨_, Tryz.runUnderlying44, Tryz.sizeOf5⟩
theorem A48 : AggF Tryz.prog 48 10 := ⟨Tryz.isAgg48, Tryz.sizeOf48⟩
theorem Z48 : ZeroF Tryz.prog 48 (Go.Value.agg #[Go.Value.int Go.IntKind.i64 0, Go.Value.int Go.IntKind.u64 0, Go.Value.int Go.IntKind.u32 0, Go.Value.int Go.IntKind.u32 0, Go.Value.string (ByteArray.mk #[]), Go.Value.string (ByteArray.mk #[]), Go.Value.int Go.IntKind.i64 0, Go.Value.int Go.IntKind.i64 0, Go.Value.int Go.IntKind.i64 0, Go.Value.int Go.IntKind.i64 0]) := Tryz.zeroValue48
theorem F48_0 : FieldF Tryz.prog 48 0 0 := FieldF.of Tryz.runUnderlying48 rfl rfl Tryz.sizeOf3
theorem F48_1 : FieldF Tryz.prog 48 1 1 := FieldF.of Tryz.runUnderlying48 rfl rfl Tryz.sizeOf41
theorem F48_2 : FieldF Tryz.prog 48 2 2 := FieldF.of Tryz.runUnderlying48 rfl rfl Tryz.sizeOf38
theorem F48_3 : FieldF Tryz.prog 48 3 3 := FieldF.of Tryz.runUnderlying48 rfl rfl Tryz.sizeOf38
theorem F48_4 : FieldF Tryz.prog 48 4 4 := FieldF.of Tryz.runUnderlying48 rfl rfl Tryz.sizeOf9
theorem F48_5 : FieldF Tryz.prog 48 5 5 := FieldF.of Tryz.runUnderlying48 rfl rfl Tryz.sizeOf9
theorem F48_6 : FieldF Tryz.prog 48 6 6 := FieldF.of Tryz.runUnderlying48 rfl rfl Tryz.sizeOf3
theorem F48_7 : FieldF Tryz.prog 48 7 7 := FieldF.of Tryz.runUnderlying48 rfl rfl Tryz.sizeOf3
theorem F48_8 : FieldF Tryz.prog 48 8 8 := FieldF.of Tryz.runUnderlying48 rfl rfl Tryz.sizeOf3
theorem F48_9 : FieldF Tryz.prog 48 9 9 := FieldF.of Tryz.runUnderlying48 rfl rfl Tryz.sizeOf3
theorem BF48 : BuildF Tryz.prog 48 [Go.Value.int Go.IntKind.i64 0, Go.Value.int Go.IntKind.u64 0, Go.Value.int Go.IntKind.u32 0, Go.Value.int Go.IntKind.u32 0, Go.Value.string (ByteArray.mk #[]), Go.Value.string (ByteArray.mk #[]), Go.Value.int Go.IntKind.i64 0, Go.Value.int Go.IntKind.i64 0, Go.Value.int Go.IntKind.i64 0, Go.Value.int Go.IntKind.i64 0] := ⟨Tryz.zeroValue48, by simp [Value.oneCell'], _, Tryz.runUnderlying48, fun w => by
  simp [Sem.run_bind, Result.andThen, Tryz.sizeOf3, Tryz.sizeOf9, Tryz.sizeOf38, Tryz.sizeOf41, List.range, List.range.loop]⟩
theorem A58 : AggF Tryz.prog 58 3 := ⟨Tryz.isAgg58, Tryz.sizeOf58⟩
theorem Z58 : ZeroF Tryz.prog 58 (Go.Value.agg #[Go.Value.int Go.IntKind.i64 0, Go.Value.int Go.IntKind.i64 0, Go.Value.int Go.IntKind.i64 0]) := Tryz.zeroValue58
theorem F58_0 : FieldF Tryz.prog 58 0 0 := FieldF.of Tryz.runUnderlying58 rfl rfl Tryz.sizeOf3
theorem F58_1 : FieldF Tryz.prog 58 1 1 := FieldF.of Tryz.runUnderlying58 rfl rfl Tryz.sizeOf2
theorem F58_2 : FieldF Tryz.prog 58 2 2 := FieldF.of Tryz.runUnderlying58 rfl rfl Tryz.sizeOf2
theorem BF58 : BuildF Tryz.prog 58 [Go.Value.int Go.IntKind.i64 0, Go.Value.int Go.IntKind.i64 0, Go.Value.int Go.IntKind.i64 0] := ⟨Tryz.zeroValue58, by simp [Value.oneCell'], _, Tryz.runUnderlying58, fun w => by
  simp [Sem.run_bind, Result.andThen, Tryz.sizeOf2, Tryz.sizeOf3, List.range, List.range.loop]⟩
theorem QF58 (a0 b0 : Int) (a1 b1 : Int) (a2 b2 : Int) : ∀ w, (Op.eqFields 9999 #[.int .i64 a0, .int .i64 a1, .int .i64 a2] #[.int .i64 b0, .int .i64 b1, .int .i64 b2] (#[⟨ "Kind", 3, 0, false, "", "", 0⟩, ⟨ "A", 2, 1, false, "", "", 8⟩, ⟨ "B", 2, 2, false, "", "", 16⟩] : Array Field).toList).run Tryz.prog w = .ok ((decide (a0 = b0) && decide (a1 = b1)) && decide (a2 = b2)) w := by
  intro w
  simp [Op.eqFields, part, byt_beq, run_equalIn_int (P := Tryz.prog) _ 9998 3 _ _ _ _ Tryz.underlying3, run_equalIn_int (P := Tryz.prog) _ 9998 2 _ _ _ _ Tryz.underlying2, run_equalIn_int (P := Tryz.prog) _ 9998 2 _ _ _ _ Tryz.underlying2, Tryz.isAgg2, Tryz.isAgg3]
  by_cases h0 : a0 = b0 <;> by_cases h1 : a1 = b1 <;> by_cases h2 : a2 = b2 <;> simp [*]
theorem EQ58 (x y : Operand) (a0 b0 : Int) (a1 b1 : Int) (a2 b2 : Int) : ∀ w, (do eqGuard .eql 58 x y (.agg #[.int .i64 a0, .int .i64 a1, .int .i64 a2]) (.agg #[.int .i64 b0, .int .i64 b1, .int .i64 b2]); binOp .eql 58 (.agg #[.int .i64 a0, .int .i64 a1, .int .i64 a2]) (.agg #[.int .i64 b0, .int .i64 b1, .int .i64 b2]) : Sem Value).run Tryz.prog w = .ok (.bool ((decide (a0 = b0) && decide (a1 = b1)) && decide (a2 = b2))) w := run_eqS Tryz.underlying58 Tryz.stoodInHeld58 Tryz.eqGuardType58 (QF58 a0 b0 a1 b1 a2 b2) x y
theorem NE58 (x y : Operand) (a0 b0 : Int) (a1 b1 : Int) (a2 b2 : Int) : ∀ w, (do eqGuard .neq 58 x y (.agg #[.int .i64 a0, .int .i64 a1, .int .i64 a2]) (.agg #[.int .i64 b0, .int .i64 b1, .int .i64 b2]); binOp .neq 58 (.agg #[.int .i64 a0, .int .i64 a1, .int .i64 a2]) (.agg #[.int .i64 b0, .int .i64 b1, .int .i64 b2]) : Sem Value).run Tryz.prog w = .ok (.bool (!((decide (a0 = b0) && decide (a1 = b1)) && decide (a2 = b2)))) w := run_neS Tryz.underlying58 Tryz.stoodInHeld58 Tryz.eqGuardType58 (QF58 a0 b0 a1 b1 a2 b2) x y
theorem A62 : AggF Tryz.prog 62 4 := ⟨Tryz.isAgg62, Tryz.sizeOf62⟩
theorem Z62 : ZeroF Tryz.prog 62 (Go.Value.agg #[Go.Value.int Go.IntKind.i64 0, Go.Value.int Go.IntKind.i64 0, Go.Value.int Go.IntKind.i64 0, Go.Value.int Go.IntKind.i64 0]) := Tryz.zeroValue62
theorem F62_1 : FieldF Tryz.prog 62 1 1 := FieldF.of Tryz.runUnderlying62 rfl rfl Tryz.sizeOf3
theorem F62_2 : FieldF Tryz.prog 62 2 2 := FieldF.of Tryz.runUnderlying62 rfl rfl Tryz.sizeOf2
theorem F62_3 : FieldF Tryz.prog 62 3 3 := FieldF.of Tryz.runUnderlying62 rfl rfl Tryz.sizeOf2
theorem BF62 : BuildF Tryz.prog 62 [Go.Value.int Go.IntKind.i64 0, Go.Value.int Go.IntKind.i64 0, Go.Value.int Go.IntKind.i64 0, Go.Value.int Go.IntKind.i64 0] := ⟨Tryz.zeroValue62, by simp [Value.oneCell'], _, Tryz.runUnderlying62, fun w => by
  simp [Sem.run_bind, Result.andThen, Tryz.sizeOf2, Tryz.sizeOf3, List.range, List.range.loop]⟩
theorem QF62 (a0 b0 : Int) (a1 b1 : Int) (a2 b2 : Int) (a3 b3 : Int) : ∀ w, (Op.eqFields 9999 #[.int .i64 a0, .int .i64 a1, .int .i64 a2, .int .i64 a3] #[.int .i64 b0, .int .i64 b1, .int .i64 b2, .int .i64 b3] (#[⟨ "Events", 3, 0, false, "", "", 0⟩, ⟨ "Calls", 3, 1, false, "", "", 8⟩, ⟨ "Turns", 2, 2, false, "", "", 16⟩, ⟨ "Time", 2, 3, false, "", "", 24⟩] : Array Field).toList).run Tryz.prog w = .ok (((decide (a0 = b0) && decide (a1 = b1)) && decide (a2 = b2)) && decide (a3 = b3)) w := by
  intro w
  simp [Op.eqFields, part, byt_beq, run_equalIn_int (P := Tryz.prog) _ 9998 3 _ _ _ _ Tryz.underlying3, run_equalIn_int (P := Tryz.prog) _ 9998 3 _ _ _ _ Tryz.underlying3, run_equalIn_int (P := Tryz.prog) _ 9998 2 _ _ _ _ Tryz.underlying2, run_equalIn_int (P := Tryz.prog) _ 9998 2 _ _ _ _ Tryz.underlying2, Tryz.isAgg2, Tryz.isAgg3]
  by_cases h0 : a0 = b0 <;> by_cases h1 : a1 = b1 <;> by_cases h2 : a2 = b2 <;> by_cases h3 : a3 = b3 <;> simp [*]
theorem EQ62 (x y : Operand) (a0 b0 : Int) (a1 b1 : Int) (a2 b2 : Int) (a3 b3 : Int) : ∀ w, (do eqGuard .eql 62 x y (.agg #[.int .i64 a0, .int .i64 a1, .int .i64 a2, .int .i64 a3]) (.agg #[.int .i64 b0, .int .i64 b1, .int .i64 b2, .int .i64 b3]); binOp .eql 62 (.agg #[.int .i64 a0, .int .i64 a1, .int .i64 a2, .int .i64 a3]) (.agg #[.int .i64 b0, .int .i64 b1, .int .i64 b2, .int .i64 b3]) : Sem Value).run Tryz.prog w = .ok (.bool (((decide (a0 = b0) && decide (a1 = b1)) && decide (a2 = b2)) && decide (a3 = b3))) w := run_eqS Tryz.underlying62 Tryz.stoodInHeld62 Tryz.eqGuardType62 (QF62 a0 b0 a1 b1 a2 b2 a3 b3) x y
theorem O65 : OneF Tryz.prog 65 := ⟨Tryz.isAgg65, Tryz.sizeOf65⟩
theorem I65 : IndexF Tryz.prog 65 1 := IndexF.of Tryz.runUnderlying65 Tryz.sizeOf3
theorem S65 : SliceT Tryz.prog 65 := ⟨_, Tryz.runUnderlying65⟩
theorem AP65 : AppF Tryz.prog 65 3 1 := ⟨Tryz.underlying65, by kernel_rfl⟩
theorem A71 : AggF Tryz.prog 71 3 := ⟨Tryz.isAgg71, Tryz.sizeOf71⟩
theorem Z71 : ZeroF Tryz.prog 71 (Go.Value.agg #[Go.Value.slice none 0 0, Go.Value.int Go.IntKind.i64 0, Go.Value.int Go.IntKind.i64 0]) := Tryz.zeroValue71
theorem F71_0 : FieldF Tryz.prog 71 0 0 := FieldF.of Tryz.runUnderlying71 rfl rfl Tryz.sizeOf65
theorem F71_1 : FieldF Tryz.prog 71 1 1 := FieldF.of Tryz.runUnderlying71 rfl rfl Tryz.sizeOf2
theorem F71_2 : FieldF Tryz.prog 71 2 2 := FieldF.of Tryz.runUnderlying71 rfl rfl Tryz.sizeOf2
theorem BF71 : BuildF Tryz.prog 71 [Go.Value.slice none 0 0, Go.Value.int Go.IntKind.i64 0, Go.Value.int Go.IntKind.i64 0] := ⟨Tryz.zeroValue71, by simp [Value.oneCell'], _, Tryz.runUnderlying71, fun w => by
  simp [Sem.run_bind, Result.andThen, Tryz.sizeOf2, Tryz.sizeOf65, List.range, List.range.loop]⟩
theorem O75 : OneF Tryz.prog 75 := ⟨Tryz.isAgg75, Tryz.sizeOf75⟩
theorem A80 : AggF Tryz.prog 80 3 := ⟨Tryz.isAgg80, Tryz.sizeOf80⟩
theorem Z80 : ZeroF Tryz.prog 80 (Go.Value.agg #[Go.Value.string (ByteArray.mk #[]), Go.Value.slice none 0 0, Go.Value.int Go.IntKind.i64 0]) := Tryz.zeroValue80
theorem F80_0 : FieldF Tryz.prog 80 0 0 := FieldF.of Tryz.runUnderlying80 rfl rfl Tryz.sizeOf9
theorem F80_1 : FieldF Tryz.prog 80 1 1 := FieldF.of Tryz.runUnderlying80 rfl rfl Tryz.sizeOf65
theorem F80_2 : FieldF Tryz.prog 80 2 2 := FieldF.of Tryz.runUnderlying80 rfl rfl Tryz.sizeOf3
theorem BF80 : BuildF Tryz.prog 80 [Go.Value.string (ByteArray.mk #[]), Go.Value.slice none 0 0, Go.Value.int Go.IntKind.i64 0] := ⟨Tryz.zeroValue80, by simp [Value.oneCell'], _, Tryz.runUnderlying80, fun w => by
  simp [Sem.run_bind, Result.andThen, Tryz.sizeOf3, Tryz.sizeOf9, Tryz.sizeOf65, List.range, List.range.loop]⟩
theorem O81 : OneF Tryz.prog 81 := ⟨Tryz.isAgg81, Tryz.sizeOf81⟩
theorem Z83 : ZeroF Tryz.prog 83 (Go.Value.agg #[Go.Value.pointer none, Go.Value.slice none 0 0]) := Tryz.zeroValue83
theorem F83_0 : FieldF Tryz.prog 83 0 0 := FieldF.of Tryz.runUnderlying83 rfl rfl Tryz.sizeOf81
theorem F83_1 : FieldF Tryz.prog 83 1 1 := FieldF.of Tryz.runUnderlying83 rfl rfl Tryz.sizeOf44
theorem I91 : IndexF Tryz.prog 91 2 := IndexF.of Tryz.runUnderlying91 Tryz.sizeOf95
theorem S91 : SliceT Tryz.prog 91 := ⟨_, Tryz.runUnderlying91⟩
theorem AP91 : AppF Tryz.prog 91 95 2 := ⟨Tryz.underlying91, by kernel_rfl⟩
theorem SF91 : SliceF Tryz.prog 91 2 := ⟨_, Tryz.runUnderlying91, Tryz.sizeOf95⟩
theorem A95 : AggF Tryz.prog 95 2 := ⟨Tryz.isAgg95, Tryz.sizeOf95⟩
theorem Z95 : ZeroF Tryz.prog 95 (Go.Value.agg #[Go.Value.string (ByteArray.mk #[]), Go.Value.bool false]) := Tryz.zeroValue95
theorem F95_0 : FieldF Tryz.prog 95 0 0 := FieldF.of Tryz.runUnderlying95 rfl rfl Tryz.sizeOf9
theorem F95_1 : FieldF Tryz.prog 95 1 1 := FieldF.of Tryz.runUnderlying95 rfl rfl Tryz.sizeOf4
theorem BF95 : BuildF Tryz.prog 95 [Go.Value.string (ByteArray.mk #[]), Go.Value.bool false] := ⟨Tryz.zeroValue95, by simp [Value.oneCell'], _, Tryz.runUnderlying95, fun w => by
  simp [Sem.run_bind, Result.andThen, Tryz.sizeOf4, Tryz.sizeOf9, List.range, List.range.loop]⟩
theorem O97 : OneF Tryz.prog 97 := ⟨Tryz.isAgg97, Tryz.sizeOf97⟩
theorem I97 : IndexF Tryz.prog 97 5 := IndexF.of Tryz.runUnderlying97 Tryz.sizeOf178
theorem S97 : SliceT Tryz.prog 97 := ⟨_, Tryz.runUnderlying97⟩
theorem AP97 : AppF Tryz.prog 97 178 5 := ⟨Tryz.underlying97, by kernel_rfl⟩
theorem A99 : AggF Tryz.prog 99 2 := ⟨Tryz.isAgg99, Tryz.sizeOf99⟩
theorem Z99 : ZeroF Tryz.prog 99 (Go.Value.agg #[Go.Value.slice none 0 0, Go.Value.slice none 0 0]) := Tryz.zeroValue99
theorem F99_0 : FieldF Tryz.prog 99 0 0 := FieldF.of Tryz.runUnderlying99 rfl rfl Tryz.sizeOf25
theorem F99_1 : FieldF Tryz.prog 99 1 1 := FieldF.of Tryz.runUnderlying99 rfl rfl Tryz.sizeOf97
theorem BF99 : BuildF Tryz.prog 99 [Go.Value.slice none 0 0, Go.Value.slice none 0 0] := ⟨Tryz.zeroValue99, by simp [Value.oneCell'], _, Tryz.runUnderlying99, fun w => by
  simp [Sem.run_bind, Result.andThen, Tryz.sizeOf25, Tryz.sizeOf97, List.range, List.range.loop]⟩
theorem I104 : IndexF Tryz.prog 104 1 := IndexF.of Tryz.runUnderlying104 Tryz.sizeOf2
theorem S104 : SliceT Tryz.prog 104 := ⟨_, Tryz.runUnderlying104⟩
theorem AP104 : AppF Tryz.prog 104 2 1 := ⟨Tryz.underlying104, by kernel_rfl⟩
theorem I106 : IndexF Tryz.prog 106 5 := IndexF.of Tryz.runUnderlying106 Tryz.sizeOf110
theorem AP106 : AppF Tryz.prog 106 110 5 := ⟨Tryz.underlying106, by kernel_rfl⟩
theorem O108 : OneF Tryz.prog 108 := ⟨Tryz.isAgg108, Tryz.sizeOf108⟩
theorem A110 : AggF Tryz.prog 110 5 := ⟨Tryz.isAgg110, Tryz.sizeOf110⟩
theorem Z110 : ZeroF Tryz.prog 110 (Go.Value.agg #[Go.Value.string (ByteArray.mk #[]), Go.Value.int Go.IntKind.i64 0, Go.Value.int Go.IntKind.i64 0, Go.Value.int Go.IntKind.i64 0, Go.Value.nilFunc]) := Tryz.zeroValue110
theorem F110_0 : FieldF Tryz.prog 110 0 0 := FieldF.of Tryz.runUnderlying110 rfl rfl Tryz.sizeOf9
theorem F110_3 : FieldF Tryz.prog 110 3 3 := FieldF.of Tryz.runUnderlying110 rfl rfl Tryz.sizeOf3
theorem F110_4 : FieldF Tryz.prog 110 4 4 := FieldF.of Tryz.runUnderlying110 rfl rfl Tryz.sizeOf108
theorem BF110 : BuildF Tryz.prog 110 [Go.Value.string (ByteArray.mk #[]), Go.Value.int Go.IntKind.i64 0, Go.Value.int Go.IntKind.i64 0, Go.Value.int Go.IntKind.i64 0, Go.Value.nilFunc] := ⟨Tryz.zeroValue110, by simp [Value.oneCell'], _, Tryz.runUnderlying110, fun w => by
  simp [Sem.run_bind, Result.andThen, Tryz.sizeOf2, Tryz.sizeOf3, Tryz.sizeOf9, Tryz.sizeOf108, List.range, List.range.loop]⟩
theorem AP117 : AppF Tryz.prog 117 9 1 := ⟨Tryz.underlying117, by kernel_rfl⟩
theorem I141 : IndexF Tryz.prog 141 5 := IndexF.of Tryz.runUnderlying141 Tryz.sizeOf215
theorem S141 : SliceT Tryz.prog 141 := ⟨_, Tryz.runUnderlying141⟩
theorem AP141 : AppF Tryz.prog 141 215 5 := ⟨Tryz.underlying141, by kernel_rfl⟩
theorem I144 : IndexF Tryz.prog 144 3 := IndexF.of Tryz.runUnderlying144 Tryz.sizeOf149
theorem S144 : SliceT Tryz.prog 144 := ⟨_, Tryz.runUnderlying144⟩
theorem AP144 : AppF Tryz.prog 144 149 3 := ⟨Tryz.underlying144, by kernel_rfl⟩
theorem A149 : AggF Tryz.prog 149 3 := ⟨Tryz.isAgg149, Tryz.sizeOf149⟩
theorem Z149 : ZeroF Tryz.prog 149 (Go.Value.agg #[Go.Value.int Go.IntKind.i64 0, Go.Value.int Go.IntKind.u64 0, Go.Value.string (ByteArray.mk #[])]) := Tryz.zeroValue149
theorem F149_0 : FieldF Tryz.prog 149 0 0 := FieldF.of Tryz.runUnderlying149 rfl rfl Tryz.sizeOf3
theorem F149_1 : FieldF Tryz.prog 149 1 1 := FieldF.of Tryz.runUnderlying149 rfl rfl Tryz.sizeOf41
theorem F149_2 : FieldF Tryz.prog 149 2 2 := FieldF.of Tryz.runUnderlying149 rfl rfl Tryz.sizeOf9
theorem BF149 : BuildF Tryz.prog 149 [Go.Value.int Go.IntKind.i64 0, Go.Value.int Go.IntKind.u64 0, Go.Value.string (ByteArray.mk #[])] := ⟨Tryz.zeroValue149, by simp [Value.oneCell'], _, Tryz.runUnderlying149, fun w => by
  simp [Sem.run_bind, Result.andThen, Tryz.sizeOf3, Tryz.sizeOf9, Tryz.sizeOf41, List.range, List.range.loop]⟩
theorem O158 : OneF Tryz.prog 158 := ⟨Tryz.isAgg158, Tryz.sizeOf158⟩
theorem Z158 : ZeroF Tryz.prog 158 (Go.Value.map none) := Tryz.zeroValue158
theorem A178 : AggF Tryz.prog 178 5 := ⟨Tryz.isAgg178, Tryz.sizeOf178⟩
theorem Z178 : ZeroF Tryz.prog 178 (Go.Value.agg #[Go.Value.int Go.IntKind.u32 0, Go.Value.int Go.IntKind.u64 0, Go.Value.int Go.IntKind.u64 0, Go.Value.int Go.IntKind.i64 0, Go.Value.int Go.IntKind.i64 0]) := Tryz.zeroValue178
theorem F178_0 : FieldF Tryz.prog 178 0 0 := FieldF.of Tryz.runUnderlying178 rfl rfl Tryz.sizeOf38
theorem F178_1 : FieldF Tryz.prog 178 1 1 := FieldF.of Tryz.runUnderlying178 rfl rfl Tryz.sizeOf41
theorem F178_2 : FieldF Tryz.prog 178 2 2 := FieldF.of Tryz.runUnderlying178 rfl rfl Tryz.sizeOf41
theorem F178_3 : FieldF Tryz.prog 178 3 3 := FieldF.of Tryz.runUnderlying178 rfl rfl Tryz.sizeOf3
theorem F178_4 : FieldF Tryz.prog 178 4 4 := FieldF.of Tryz.runUnderlying178 rfl rfl Tryz.sizeOf2
theorem A180 : AggF Tryz.prog 180 3 := ⟨Tryz.isAgg180, Tryz.sizeOf180⟩
theorem Z180 : ZeroF Tryz.prog 180 (Go.Value.agg #[Go.Value.int Go.IntKind.u64 0, Go.Value.int Go.IntKind.u64 0, Go.Value.int Go.IntKind.u64 0]) := Tryz.zeroValue180
theorem I180 : IndexAF Tryz.prog 180 3 1 := IndexAF.of Tryz.runUnderlying180 Tryz.sizeOf41
theorem BX180 : BuildX Tryz.prog 180 (List.replicate 3 (Go.Value.int Go.IntKind.u64 0)) := ⟨Tryz.zeroValue180, 3, 41, Tryz.runUnderlying180, Tryz.sizeOf41⟩
theorem AR180 : ArrF Tryz.prog 180 3 := ⟨41, Tryz.runUnderlying180, Tryz.sizeOf41⟩
theorem I182 : IndexF Tryz.prog 182 1 := IndexF.of Tryz.runUnderlying182 Tryz.sizeOf41
theorem S182 : SliceT Tryz.prog 182 := ⟨_, Tryz.runUnderlying182⟩
theorem AP182 : AppF Tryz.prog 182 41 1 := ⟨Tryz.underlying182, by kernel_rfl⟩
theorem A215 : AggF Tryz.prog 215 5 := ⟨Tryz.isAgg215, Tryz.sizeOf215⟩
theorem Z215 : ZeroF Tryz.prog 215 (Go.Value.agg #[Go.Value.int Go.IntKind.i64 0, Go.Value.int Go.IntKind.i64 0, Go.Value.int Go.IntKind.u64 0, Go.Value.int Go.IntKind.u64 0, Go.Value.bool false]) := Tryz.zeroValue215
theorem F215_0 : FieldF Tryz.prog 215 0 0 := FieldF.of Tryz.runUnderlying215 rfl rfl Tryz.sizeOf3
theorem F215_1 : FieldF Tryz.prog 215 1 1 := FieldF.of Tryz.runUnderlying215 rfl rfl Tryz.sizeOf3
theorem F215_2 : FieldF Tryz.prog 215 2 2 := FieldF.of Tryz.runUnderlying215 rfl rfl Tryz.sizeOf41
theorem F215_3 : FieldF Tryz.prog 215 3 3 := FieldF.of Tryz.runUnderlying215 rfl rfl Tryz.sizeOf41
theorem F215_4 : FieldF Tryz.prog 215 4 4 := FieldF.of Tryz.runUnderlying215 rfl rfl Tryz.sizeOf4
theorem BF215 : BuildF Tryz.prog 215 [Go.Value.int Go.IntKind.i64 0, Go.Value.int Go.IntKind.i64 0, Go.Value.int Go.IntKind.u64 0, Go.Value.int Go.IntKind.u64 0, Go.Value.bool false] := ⟨Tryz.zeroValue215, by simp [Value.oneCell'], _, Tryz.runUnderlying215, fun w => by
  simp [Sem.run_bind, Result.andThen, Tryz.sizeOf3, Tryz.sizeOf4, Tryz.sizeOf41, List.range, List.range.loop]⟩
theorem S231 : SliceT Tryz.prog 231 := ⟨_, Tryz.runUnderlying231⟩
theorem AP231 : AppF Tryz.prog 231 276 3 := ⟨Tryz.underlying231, by kernel_rfl⟩
theorem BF276 : BuildF Tryz.prog 276 [Go.Value.int Go.IntKind.i64 0, Go.Value.int Go.IntKind.i64 0, Go.Value.int Go.IntKind.i64 0] := ⟨Tryz.zeroValue276, by simp [Value.oneCell'], _, Tryz.runUnderlying276, fun w => by
  simp [Sem.run_bind, Result.andThen, Tryz.sizeOf3, List.range, List.range.loop]⟩
theorem A283 : AggF Tryz.prog 283 2 := ⟨Tryz.isAgg283, Tryz.sizeOf283⟩
theorem Z283 : ZeroF Tryz.prog 283 (Go.Value.agg #[Go.Value.int Go.IntKind.u8 0, Go.Value.int Go.IntKind.u8 0]) := Tryz.zeroValue283
theorem F283_0 : FieldF Tryz.prog 283 0 0 := FieldF.of Tryz.runUnderlying283 rfl rfl Tryz.sizeOf5
theorem F283_1 : FieldF Tryz.prog 283 1 1 := FieldF.of Tryz.runUnderlying283 rfl rfl Tryz.sizeOf5
theorem A284 : AggF Tryz.prog 284 10 := ⟨Tryz.isAgg284, Tryz.sizeOf284⟩
theorem IV284 : IndexVF Tryz.prog 284 5 2 := ⟨283, Tryz.runUnderlying284, Tryz.isAgg283, Tryz.sizeOf283⟩
theorem I303 : IndexAF Tryz.prog 303 14 1 := IndexAF.of Tryz.runUnderlying303 Tryz.sizeOf75
structure Rule where
  tag : Int
  kind : Int
  low : Int
  high : Int
  must : Bool
instance : Inhabited Rule := ⟨⟨0,0,0,0,false⟩⟩
def Rule.c (r : Rule) : List SV := [.val (.int .i64 r.tag), .val (.int .i64 r.kind), .val (.int .u64 r.low), .val (.int .u64 r.high), .val (.bool r.must)]
def within (r : Rule) (n : Int) : Bool := decide (r.low ≤ n) && decide (n ≤ r.high)
theorem within_P (ru : Rule) (x : Int) : PC Tryz.prog 247 [.agg (ru.c.map LV.sv), .u x] (.b (within ru x)) := by
  refine ⟨LC.of_go Tryz.func247 (c := _) rfl (by kernel_rfl) (by rw [Tryz.ntmps247]; simp) rfl rfl (by simp) (by simp) ?_⟩
  intro B hA hmd
  refine LGo.seq ?_
  refine LGo.region rfl ?_
  refine R.box (h := ?_)
  refine R.assign (h := ?_)
  refine Reg.nil ⟨fun h => (by cases h), ?_⟩
  refine LGo.seq ?_
  refine LGo.region rfl ?_
  refine R.move (h := ?_)
  first | refine R.field F215_2 (h := ?_) | refine R.fieldAt F215_2 (h := ?_)
  first | refine R.loadB O41 (h := ?_) | refine R.load1 O41 (h := ?_)
  refine R.bin (run_geq _ _ _ _ _ _) (h := ?_)
  refine R.move (h := ?_)
  refine R.move (h := ?_)
  first | refine R.field F215_3 (h := ?_) | refine R.fieldAt F215_3 (h := ?_)
  first | refine R.loadB O41 (h := ?_) | refine R.load1 O41 (h := ?_)
  refine R.bin (run_leq _ _ _ _ _ _) (h := ?_)
  refine R.and (h := ?_)
  refine R.assign (h := ?_)
  refine Reg.nil ⟨fun h => (by cases h), ?_⟩
  refine LGo.drop 0 (fun o h => (hA o).1 h) (by omega) [(4, (true, .b (within ru x)))] [] ⟨rfl, trivial⟩ trivial (by simp [LV.lt]) (by simp) (h := ?_)
  exact LGo.ret (res1 Tryz.results247 hA hmd (by rfl) noHo (by rfl) (.inr rfl))
def checkGo (last : Int) : List Rule → Int
  | [] => 0
  | r :: rs => if (decide (r.tag ≤ last) || decide (63 < r.tag) || decide (r.high < r.low)) = true then 2 else if r.kind = 1 then checkGo r.tag rs else if (!decide (r.kind = 2) || decide (400 < r.high)) = true then 2 else checkGo r.tag rs
def check (rs : List Rule) : Int := if 16 < rs.length then 3 else checkGo 0 rs
theorem check_P (xs : List Rule) : PC Tryz.prog 203 [.sv (.sl 5 (xs.map Rule.c))] (.i (check xs)) := by
  refine ⟨LC.of_go Tryz.func203 (c := _) rfl (by kernel_rfl) (by rw [Tryz.ntmps203]; simp) rfl rfl (by simp) (by simp) ?_⟩
  intro B hA hmd
  refine LGo.seq ?_
  refine LGo.region rfl ?_
  refine R.assign (h := ?_)
  refine Reg.nil ⟨fun h => (by cases h), ?_⟩
  refine LGo.seq ?_
  refine LGo.seq ?_
  refine LGo.region rfl ?_
  refine R.move (h := ?_)
  first | refine R.len S141 (h := ?_) | refine R.lenV (run_lenNil S141) (h := ?_)
  refine R.bin (run_gtr _ _ _ _ _ _) (h := ?_)
  refine Reg.nil ⟨fun h => (by cases h), ?_⟩
  rw [List.length_map]
  refine LGo.ifd (ht := fun hc => ?_) (hf := fun hc => ?_)
  · -- then
    refine LGo.seq ?_
    refine LGo.region rfl ?_
    refine R.assign (h := ?_)
    refine Reg.nil ⟨fun h => (by cases h), ?_⟩
    have e : check xs = 3 := by unfold check; rw [if_pos (by omega)]
    rw [e]
    exact LGo.ret (res1 Tryz.results203 hA hmd (by rfl) noHo (by rfl) (.inr rfl))
  · -- else
    refine LGo.skip ?_
    refine LGo.seq ?_
    refine LGo.region rfl ?_
    refine R.assign (h := ?_)
    refine Reg.nil ⟨fun h => (by cases h), ?_⟩
    refine LGo.seq ?_
    refine LGo.seq ?_
    refine LGo.region rfl ?_
    refine R.move (h := ?_)
    first | refine R.len S141 (h := ?_) | refine R.lenV (run_lenNil S141) (h := ?_)
    refine R.move (h := ?_)
    refine Reg.nil ⟨fun h => (by cases h), ?_⟩
    refine LGo.block ?_
    refine LGo.loop ?_
    have e : check xs = checkGo 0 xs := by unfold check; rw [if_neg (by omega)]
    rw [e]
    rw [List.length_map]
    refine LGo.keep [(3, (true, .i 0)), (9, (true, .sv (.sl 5 (xs.map Rule.c)))), (10, (true, .i xs.length)), (11, (true, .i (0 : Nat)))] [] ⟨rfl, rfl, rfl, rfl, trivial⟩ trivial ?_
    refine LGo.loopK (σ := Nat × Int) (fun x => x.1 ≤ xs.length ∧ checkGo 0 xs = checkGo x.2 (xs.drop x.1))
      (fun x => [(3, (true, .i x.2)), (9, (true, .sv (.sl 5 (xs.map Rule.c)))), (10, (true, .i xs.length)), (11, (true, .i x.1))]) (fun _ => []) (fun _ => 0) (fun x => xs.length - x.1) (0, 0) ⟨by simp, by simp⟩ ?_
    rintro ⟨k, last⟩ ⟨hk, hq⟩ ih
    simp only at hk hq ih ⊢
    refine LGo.seq ?_
    refine LGo.region rfl ?_
    refine R.bin (run_lss _ _ _ _ _ _) (h := ?_)
    refine Reg.nil ⟨fun h => (by cases h), ?_⟩
    refine LGo.seq ?_
    refine LGo.ifd (ht := fun hc => ?_) (hf := fun hc => ?_)
    · -- then
      have hlt : k < xs.length := by omega
      have hx : (xs.map Rule.c)[((k : Nat) : Int).toNat]? = some (xs[k].c) := by simp [hlt]
      have hd : xs.drop k = xs[k] :: xs.drop (k + 1) := List.drop_eq_getElem_cons hlt
      rw [hd] at hq
      generalize xs[k] = ru at hx hq
      clear hd
      refine LGo.skip ?_
      refine LGo.seq ?_
      refine LGo.block ?_
      refine LGo.seq ?_
      refine LGo.region rfl ?_
      refine R.index I141 (hj := fun _ => ⟨by omega, hx⟩) (h := ?_)
      first | refine R.loadA A215 (h := ?_) | refine R.loadN A215 (h := ?_)
      refine R.alloc Z215 (h := ?_)
      refine R.storeA A215 (h := ?_)  -- _ := store
      refine Reg.nil ⟨fun h => (by cases h), ?_⟩
      refine LGo.seq ?_
      refine LGo.block ?_
      refine LGo.seq ?_
      refine LGo.region rfl ?_
      first | refine R.field F215_0 (h := ?_) | refine R.fieldAt F215_0 (h := ?_)
      first | refine R.loadB O3 (h := ?_) | refine R.load1 O3 (h := ?_)
      refine R.move (h := ?_)
      refine R.bin (run_leq _ _ _ _ _ _) (h := ?_)
      refine R.move (h := ?_)
      first | refine R.field F215_0 (h := ?_) | refine R.fieldAt F215_0 (h := ?_)
      first | refine R.loadB O3 (h := ?_) | refine R.load1 O3 (h := ?_)
      refine R.bin (run_gtr _ _ _ _ _ _) (h := ?_)
      refine R.or (h := ?_)
      refine R.move (h := ?_)
      first | refine R.field F215_2 (h := ?_) | refine R.fieldAt F215_2 (h := ?_)
      first | refine R.loadB O41 (h := ?_) | refine R.load1 O41 (h := ?_)
      first | refine R.field F215_3 (h := ?_) | refine R.fieldAt F215_3 (h := ?_)
      first | refine R.loadB O41 (h := ?_) | refine R.load1 O41 (h := ?_)
      refine R.bin (run_gtr _ _ _ _ _ _) (h := ?_)
      refine R.or (h := ?_)
      refine R.assign (h := ?_)
      refine Reg.nil ⟨fun h => (by cases h), ?_⟩
      refine LGo.ifb (ht := fun hc1 => ?_) (hf := fun hc1 => ?_)
      · -- then
        refine LGo.seq ?_
        refine LGo.region rfl ?_
        refine R.assign (h := ?_)
        refine Reg.nil ⟨fun h => (by cases h), ?_⟩
        rw [hq, checkGo, if_pos hc1]
        refine LGo.drop 0 (fun o h => (hA o).1 h) (by omega) [(2, (true, .i 2))] [] ⟨rfl, trivial⟩ trivial (by simp [LV.lt]) (by simp) (h := ?_)
        exact LGo.ret (res1 Tryz.results203 hA hmd (by rfl) noHo (by rfl) (.inr rfl))
      · -- else
        rw [checkGo, if_neg (by rw [hc1]; simp)] at hq
        refine LGo.seq ?_
        refine LGo.region rfl ?_
        first | refine R.field F215_1 (h := ?_) | refine R.fieldAt F215_1 (h := ?_)
        first | refine R.loadB O3 (h := ?_) | refine R.load1 O3 (h := ?_)
        refine R.bin (run_eql _ _ _ _ _ _) (h := ?_)
        refine R.assign (h := ?_)
        refine Reg.nil ⟨fun h => (by cases h), ?_⟩
        refine LGo.ifd (ht := fun hc2 => ?_) (hf := fun hc2 => ?_)
        · -- then
          rw [if_pos hc2] at hq
          refine LGo.skip ?_
          refine LGo.inBlock ?_
          refine LGo.region rfl ?_
          first | refine R.field F215_0 (h := ?_) | refine R.fieldAt F215_0 (h := ?_)
          first | refine R.loadB O3 (h := ?_) | refine R.load1 O3 (h := ?_)
          refine R.assign (h := ?_)
          refine Reg.nil ⟨fun h => (by cases h), ?_⟩
          refine LGo.inBlock ?_
          refine LGo.region rfl ?_
          refine R.add (h := ?_)
          refine R.move (h := ?_)
          refine Reg.nil ⟨fun h => (by cases h), ?_⟩
          refine LGo.inLoop ?_
          exact LGo.next 0 (fun o h => (hA o).1 h) (by omega) (ih (k + 1, ru.tag) ⟨by omega, hq⟩ (by simp; omega)) ⟨rfl, rfl, rfl, rfl, trivial⟩ trivial
        · -- else
          rw [if_neg hc2] at hq
          refine LGo.seq ?_
          refine LGo.region rfl ?_
          first | refine R.field F215_1 (h := ?_) | refine R.fieldAt F215_1 (h := ?_)
          first | refine R.loadB O3 (h := ?_) | refine R.load1 O3 (h := ?_)
          refine R.bin (run_neq _ _ _ _ _ _) (h := ?_)
          refine R.move (h := ?_)
          first | refine R.field F215_3 (h := ?_) | refine R.fieldAt F215_3 (h := ?_)
          first | refine R.loadB O41 (h := ?_) | refine R.load1 O41 (h := ?_)
          refine R.bin (run_gtr _ _ _ _ _ _) (h := ?_)
          refine R.or (h := ?_)
          refine R.assign (h := ?_)
          refine Reg.nil ⟨fun h => (by cases h), ?_⟩
          refine LGo.ifb (ht := fun hc3 => ?_) (hf := fun hc3 => ?_)
          · -- then
            rw [if_pos hc3] at hq
            refine LGo.seq ?_
            refine LGo.region rfl ?_
            refine R.assign (h := ?_)
            refine Reg.nil ⟨fun h => (by cases h), ?_⟩
            rw [hq]
            refine LGo.drop 0 (fun o h => (hA o).1 h) (by omega) [(2, (true, .i 2))] [] ⟨rfl, trivial⟩ trivial (by simp [LV.lt]) (by simp) (h := ?_)
            exact LGo.ret (res1 Tryz.results203 hA hmd (by rfl) noHo (by rfl) (.inr rfl))
          · -- else
            rw [if_neg (by rw [hc3]; simp)] at hq
            refine LGo.skip ?_
            refine LGo.inBlock ?_
            refine LGo.region rfl ?_
            first | refine R.field F215_0 (h := ?_) | refine R.fieldAt F215_0 (h := ?_)
            first | refine R.loadB O3 (h := ?_) | refine R.load1 O3 (h := ?_)
            refine R.assign (h := ?_)
            refine Reg.nil ⟨fun h => (by cases h), ?_⟩
            refine LGo.inBlock ?_
            refine LGo.region rfl ?_
            refine R.add (h := ?_)
            refine R.move (h := ?_)
            refine Reg.nil ⟨fun h => (by cases h), ?_⟩
            refine LGo.inLoop ?_
            exact LGo.next 0 (fun o h => (hA o).1 h) (by omega) (ih (k + 1, ru.tag) ⟨by omega, hq⟩ (by simp; omega)) ⟨rfl, rfl, rfl, rfl, trivial⟩ trivial
    · -- else
      refine LGo.exit rfl ?_
      refine LGo.seq ?_
      refine LGo.region rfl ?_
      refine R.assign (h := ?_)
      refine Reg.nil ⟨fun h => (by cases h), ?_⟩
      have hd : xs.drop k = [] := List.drop_eq_nil_of_le (by omega)
      rw [hq, hd, checkGo]
      exact LGo.ret (res1 Tryz.results203 hA hmd (by rfl) noHo (by rfl) (.inr rfl))
def bits (n : Nat) : Nat := if n = 0 then 0 else Nat.log2 n + 1
theorem bits_shift (n k : Nat) (h : 2 ^ k ≤ n) : bits (n / 2 ^ k) + k = bits n := by
  have h0 : n ≠ 0 := by have := Nat.two_pow_pos k; omega
  have h1 : n / 2 ^ k ≠ 0 := by
    have := Nat.div_pos h (Nat.two_pow_pos k); omega
  unfold bits
  rw [if_neg h0, if_neg h1]
  have : Nat.log2 (n / 2 ^ k) = Nat.log2 n - k := by
    have hk : k ≤ Nat.log2 n := (Nat.le_log2 h0).2 h
    apply Nat.le_antisymm
    · rw [← Nat.lt_succ_iff, Nat.log2_lt h1, Nat.div_lt_iff_lt_mul (Nat.two_pow_pos k), ← Nat.pow_add]
      have := Nat.lt_log2_self (n := n)
      rw [show (Nat.log2 n - k).succ + k = Nat.log2 n + 1 from by omega]; exact this
    · rw [Nat.le_log2 h1, Nat.le_div_iff_mul_le (Nat.two_pow_pos k), ← Nat.pow_add, show Nat.log2 n - k + k = Nat.log2 n from by omega]
      exact (Nat.le_log2 h0).1 (Nat.le_refl _)
  rw [this]
  have hk : k ≤ Nat.log2 n := (Nat.le_log2 h0).2 h
  omega
theorem bitsI_shift (x : Int) (k : Nat) (h0 : 0 ≤ x) (h : (2 : Int) ^ k ≤ x) : (bits (x / 2 ^ k).toNat : Int) + k = bits x.toNat := by
  have h1 : ((x / 2 ^ k).toNat : Nat) = x.toNat / 2 ^ k := by
    obtain ⟨m, rfl⟩ := Int.eq_ofNat_of_zero_le h0
    norm_cast
  rw [h1]
  have h2 : 2 ^ k ≤ x.toNat := by
    have : ((2 ^ k : Nat) : Int) ≤ x := by push_cast; exact h
    omega
  have := bits_shift x.toNat k h2
  omega
theorem bits_le (n k : Nat) (h : n < 2 ^ k) : bits n ≤ k := by
  unfold bits
  split
  · omega
  · rename_i h0
    have := (Nat.log2_lt h0).2 h
    omega
def lenTab : List UInt8 := ((List.range 256).map fun n => UInt8.ofNat (bits n))
theorem lenTab_get (n : Nat) (h : n < 256) : lenTab[n]? = some (UInt8.ofNat (bits n)) := by
  simp [lenTab, h]
theorem len64_P (x : Int) (h0 : 0 ≤ x) (h1 : x < 18446744073709551616) : PC Tryz.prog 255 [.u x] (.i (bits x.toNat)) := by
  refine ⟨LC.of_go Tryz.func255 (c := _) rfl (by kernel_rfl) (by rw [Tryz.ntmps255]; simp) rfl rfl (by simp) (by simp) ?_⟩
  intro B hA hmd
  refine LGo.seq ?_
  refine LGo.region rfl ?_
  refine R.assign (h := ?_)
  refine Reg.nil ⟨fun h => (by cases h), ?_⟩
  refine LGo.seq ?_
  refine LGo.split (α := Int × Int) (fun a => st [(0, (true, .u a.1)), (2, (true, .i a.2))] [] 0) (fun a => 0 ≤ a.1 ∧ a.1 < 4294967296 ∧ 0 ≤ a.2 ∧ a.2 ≤ 32 ∧ a.2 + bits a.1.toNat = bits x.toNat) ?_ (fun J => ?_)
  · rintro ⟨y, acc⟩ ⟨k0, k1, k2, k3, k4⟩
    simp only at k0 k1 k2 k3 k4 ⊢
    refine LGo.seq ?_
    refine LGo.split (α := Int × Int) (fun a => st [(0, (true, .u a.1)), (2, (true, .i a.2))] [] 0) (fun a => 0 ≤ a.1 ∧ a.1 < 65536 ∧ 0 ≤ a.2 ∧ a.2 ≤ 48 ∧ a.2 + bits a.1.toNat = bits x.toNat) ?_ (fun J => ?_)
    · rintro ⟨z, acc⟩ ⟨k0, k1, k2, k3, k4⟩
      simp only at k0 k1 k2 k3 k4 ⊢
      refine LGo.seq ?_
      refine LGo.split (α := Int × Int) (fun a => st [(0, (true, .u a.1)), (2, (true, .i a.2))] [] 0) (fun a => 0 ≤ a.1 ∧ a.1 < 256 ∧ 0 ≤ a.2 ∧ a.2 ≤ 56 ∧ a.2 + bits a.1.toNat = bits x.toNat) ?_ (fun J => ?_)
      · rintro ⟨u, acc⟩ ⟨k0, k1, k2, k3, k4⟩
        simp only at k0 k1 k2 k3 k4 ⊢
        have hb := bits_le u.toNat 8 (by omega)
        have hun : u.toNat < 256 := by omega
        have hut : ((UInt8.ofNat (bits u.toNat)).toNat : Int) = bits u.toNat := by
          simp only [UInt8.toNat_ofNat']; omega
        refine LGo.seq ?_
        refine LGo.region rfl ?_
        refine R.move (h := ?_)
        refine R.move (h := ?_)
        refine R.convI Tryz.runUnderlying41 Tryz.runUnderlying5 (h := ?_)
        refine R.indexS Tryz.runUnderlying9 (c := UInt8.ofNat (bits u.toNat)) (hj := ⟨by omega, (congrArg (fun l : List UInt8 => l[u.toNat]?) (show _ = lenTab by kernel_rfl)).trans (lenTab_get u.toNat hun)⟩) (h := ?_)
        rw [hut]
        refine R.convI Tryz.runUnderlying5 Tryz.runUnderlying3 (h := ?_)
        refine R.add (h := ?_)
        refine R.assign (h := ?_)
        refine Reg.nil ⟨fun h => (by cases h), ?_⟩
        rw [k4]
        exact LGo.ret (res1 Tryz.results255 hA hmd (by rfl) noHo (by rfl) (.inr rfl))
      · refine LGo.seq ?_
        refine LGo.region rfl ?_
        refine R.move (h := ?_)
        refine R.bin (run_geq _ _ _ _ _ _) (h := ?_)
        refine Reg.nil ⟨fun h => (by cases h), ?_⟩
        refine LGo.ifd (ht := fun hc => ?_) (hf := fun hc => ?_)
        · have hs := bitsI_shift z 8 k0 (by omega)
          refine LGo.seq ?_
          refine LGo.region rfl ?_
          refine R.move (h := ?_)
          refine R.shr (h := ?_)
          refine R.assign (h := ?_)
          refine Reg.nil ⟨fun h => (by cases h), ?_⟩
          refine LGo.region rfl ?_
          refine R.move (h := ?_)
          refine R.add (h := ?_)
          refine R.assign (h := ?_)
          refine Reg.nil ⟨fun h => (by cases h), ?_⟩
          exact LGo.keep [(0, (true, .u (z / 2 ^ 8))), (2, (true, .i (acc + 8)))] [] ⟨rfl, rfl, trivial⟩ trivial (J (z / 2 ^ 8, acc + 8) (by refine ⟨?_, ?_, ?_, ?_, ?_⟩ <;> dsimp only <;> omega))
        · refine LGo.skip ?_
          exact LGo.keep [(0, (true, .u (z))), (2, (true, .i (acc)))] [] ⟨rfl, rfl, trivial⟩ trivial (J (z, acc) (by refine ⟨?_, ?_, ?_, ?_, ?_⟩ <;> dsimp only <;> omega))
    · refine LGo.seq ?_
      refine LGo.region rfl ?_
      refine R.move (h := ?_)
      refine R.bin (run_geq _ _ _ _ _ _) (h := ?_)
      refine Reg.nil ⟨fun h => (by cases h), ?_⟩
      refine LGo.ifd (ht := fun hc => ?_) (hf := fun hc => ?_)
      · have hs := bitsI_shift y 16 k0 (by omega)
        refine LGo.seq ?_
        refine LGo.region rfl ?_
        refine R.move (h := ?_)
        refine R.shr (h := ?_)
        refine R.assign (h := ?_)
        refine Reg.nil ⟨fun h => (by cases h), ?_⟩
        refine LGo.region rfl ?_
        refine R.move (h := ?_)
        refine R.add (h := ?_)
        refine R.assign (h := ?_)
        refine Reg.nil ⟨fun h => (by cases h), ?_⟩
        exact LGo.keep [(0, (true, .u (y / 2 ^ 16))), (2, (true, .i (acc + 16)))] [] ⟨rfl, rfl, trivial⟩ trivial (J (y / 2 ^ 16, acc + 16) (by refine ⟨?_, ?_, ?_, ?_, ?_⟩ <;> dsimp only <;> omega))
      · refine LGo.skip ?_
        exact LGo.keep [(0, (true, .u (y))), (2, (true, .i (acc)))] [] ⟨rfl, rfl, trivial⟩ trivial (J (y, acc) (by refine ⟨?_, ?_, ?_, ?_, ?_⟩ <;> dsimp only <;> omega))
  · refine LGo.seq ?_
    refine LGo.region rfl ?_
    refine R.move (h := ?_)
    refine R.bin (run_geq _ _ _ _ _ _) (h := ?_)
    refine Reg.nil ⟨fun h => (by cases h), ?_⟩
    refine LGo.ifd (ht := fun hc => ?_) (hf := fun hc => ?_)
    · have hs := bitsI_shift x 32 h0 (by omega)
      refine LGo.seq ?_
      refine LGo.region rfl ?_
      refine R.move (h := ?_)
      refine R.shr (h := ?_)
      refine R.assign (h := ?_)
      refine Reg.nil ⟨fun h => (by cases h), ?_⟩
      refine LGo.region rfl ?_
      refine R.assign (h := ?_)
      refine Reg.nil ⟨fun h => (by cases h), ?_⟩
      exact LGo.keep [(0, (true, .u (x / 2 ^ 32))), (2, (true, .i (32)))] [] ⟨rfl, rfl, trivial⟩ trivial (J (x / 2 ^ 32, 32) (by refine ⟨?_, ?_, ?_, ?_, ?_⟩ <;> dsimp only <;> omega))
    · refine LGo.skip ?_
      exact LGo.keep [(0, (true, .u (x))), (2, (true, .i (0)))] [] ⟨rfl, rfl, trivial⟩ trivial (J (x, 0) (by refine ⟨?_, ?_, ?_, ?_, ?_⟩ <;> dsimp only <;> omega))
/-- the lowest k bytes of x, from the highest on -/
def low (x : Int) : Nat → List Int
  | 0 => []
  | k + 1 => x / 2 ^ (8 * k) % 256 :: low x k
def digs (x : Int) : List Int := low x ((bits x.toNat + 7) / 8)
abbrev rounds (l : List Int) : List (List LV) := l.map fun d => [.y d]
/-- the caller's objects hold the number in a box -/
def HoldsNum (m c : Nat) (x : Int) (L : List (Nat × LO)) : Prop := L.map (·.1) = List.range m ∧ (∀ p ∈ L, p.2.lt m = true) ∧ ∃ TB, hp L c = some (.box TB [.u x])
theorem YRun.head {P : Program} {y : Nat} {C : List (Nat × LO) → Prop} {xs : List (List LV)} {L L' : List (Nat × LO)} (h : YRun P y C xs L L') : C L := by
  cases h <;> assumption
theorem pow_split (k : Nat) (hk : k ≤ 7) : min (Int.toNat (8 * (k : Int))) IntKind.u64.bits = 8 * k := by
  simp only [IntKind.bits]; omega
theorem wrap_u8 (a : Int) : IntKind.u8.wrap a = a % 256 := by
  simp [IntKind.wrap, IntKind.bits, IntKind.signed]
theorem digits1 (x : Int) (h0 : 0 ≤ x) (h1 : x < 18446744073709551616) {m y c : Nat} {L L' : List (Nat × LO)} (hy : y < m) (hc : c < m) (hL : HoldsNum m c x L) (hr : YRun Tryz.prog y (HoldsNum m c x) (rounds (digs x)) L L') :
    LC Tryz.prog 278 m [.yld y, .ptr c 0] L (.tup []) L' 0 := by
  have hL' : ∀ {xs : List (List LV)} {L L' : List (Nat × LO)}, YRun Tryz.prog y (HoldsNum m c x) xs L L' → HoldsNum m c x L' := by
    intro xs L L' h
    induction h with
    | nil h => exact h
    | stop _ _ h => exact h
    | go _ _ _ ih => exact ih
  refine LC.of_go Tryz.func278 (c := _) rfl (by kernel_rfl) (by rw [Tryz.ntmps278]; simp) (by simp [LV.lts, LV.lt, hy, hc]) hL.1 hL.2.1 (fun p hp' => .inl (by rw [hL.1, ← (hL' hr).1]; exact List.mem_map.2 ⟨p, hp', rfl⟩)) ?_
  intro B hA hmd
  obtain ⟨hL1, hL2, TB, hLb⟩ := hL
  have hb := bits_le x.toNat 64 (by omega)
  refine LGo.seq ?_
  refine LGo.region rfl ?_
  refine R.loadB O41 (hb := hLb) (h := ?_)
  refine R.callP (es := [_]) (fun _ => len64_P x h0 h1) (h := ?_)
  refine R.add (h := ?_)
  refine R.quo (h := ?_)
  refine R.sub (h := ?_)
  refine R.assign (h := ?_)
  refine Reg.nil ⟨fun h => (by cases h), ?_⟩
  refine LGo.block ?_
  refine LGo.loop ?_
  refine LGo.keep [(0, (true, .yld y)), (1, (true, .ptr c 0)), (3, (true, .i ((((bits x.toNat : Nat) : Int) + 7) / 8 - 1)))] L ⟨rfl, rfl, rfl, trivial⟩ (KeepL.of fun p hp' => lookup_of_nodup (by rw [hL1]; exact List.nodup_range) hp') ?_
  have hdg : ∃ k : Nat, k ≤ 8 ∧ ((bits x.toNat : Nat) + 7) / 8 = k ∧ ((((bits x.toNat : Nat) : Int) + 7) / 8 - 1 = (k : Int) - 1) := ⟨(bits x.toNat + 7) / 8, by omega, rfl, by omega⟩
  obtain ⟨k0, hk8, hk, hk'⟩ := hdg
  rw [hk']
  have hr' : YRun Tryz.prog y (HoldsNum m c x) (rounds (low x k0)) L L' := by rw [← hk]; exact hr
  refine LGo.loopK (σ := Nat × List (Nat × LO)) (fun s => s.1 ≤ 8 ∧ HoldsNum m c x s.2 ∧ YRun Tryz.prog y (HoldsNum m c x) (rounds (low x s.1)) s.2 L')
    (fun s => [(0, (true, .yld y)), (1, (true, .ptr c 0)), (3, (true, .i ((s.1 : Int) - 1)))]) (fun s => s.2) (fun _ => m) (fun s => s.1) (k0, L) ⟨hk8, ⟨hL1, hL2, TB, hLb⟩, hr'⟩ ?_
  rintro ⟨k, Lc⟩ ⟨q1, q2, q3⟩ ih
  dsimp only at q1 q2 q3 ih ⊢
  obtain ⟨q4, q5, TB', q6⟩ := q2
  refine LGo.seq ?_
  refine LGo.seq ?_
  refine LGo.region rfl ?_
  refine R.move (h := ?_)
  refine R.bin (run_geq _ _ _ _ _ _) (h := ?_)
  refine Reg.nil ⟨fun h => (by cases h), ?_⟩
  refine LGo.ifd (ht := fun hc => ?_) (hf := fun hc => ?_)
  · -- then
    cases k with
    | zero => exact absurd hc (by simp)
    | succ k =>
    have hkk : ((k + 1 : Nat) : Int) - 1 = k := by omega
    rw [hkk] at hc
    simp only [hkk]
    refine LGo.skip ?_
    refine LGo.seq ?_
    refine LGo.block ?_
    refine LGo.seq ?_
    refine LGo.region rfl ?_
    refine R.move (h := ?_)
    refine R.loadB O41 (hb := q6) (h := ?_)
    refine R.move (h := ?_)
    refine R.mul (h := ?_)
    refine R.shr (h := ?_)
    refine R.convW Tryz.runUnderlying41 Tryz.runUnderlying5 (h := ?_)
    rw [pow_split k (by omega), wrap_u8]
    have hks : 0 < k + 1 := by omega
    simp only [low, rounds, List.map_cons] at q3
    have hC : ∀ {L1 : List (Nat × LO)}, HoldsNum m c x L1 → KeepL (hp (L1 ++ Lc)) L1 := fun h => KeepL.app (by rw [h.1]; exact List.nodup_range)
    cases q3 with
    | stop _ hyl hc1 =>
      refine R.callYld (es := [_]) hyl (hL := fun _ _ h => h) (h := ?_)
      refine R.not (h := ?_)
      refine Reg.nil ⟨fun h => (by cases h), ?_⟩
      refine LGo.ifb (ht := fun _ => ?_) (hf := fun hc => by cases hc)
      refine LGo.keep [] _ trivial (hC hc1) ?_
      exact LGo.ret (res0 Tryz.results278 hA hmd (by rfl) (fun _ _ h => h) (.inr rfl))
    | @go _ _ _ L1 _ _ hyl hrest =>
      have hc1 : HoldsNum m c x L1 := hrest.head
      refine R.callYld (es := [_]) hyl (hL := fun _ _ h => h) (h := ?_)
      refine R.not (h := ?_)
      refine Reg.nil ⟨fun h => (by cases h), ?_⟩
      refine LGo.ifb (ht := fun hc => by cases hc) (hf := fun _ => ?_)
      refine LGo.skip ?_
      refine LGo.inBlock ?_
      refine LGo.region rfl ?_
      refine R.move (h := ?_)
      refine R.sub (h := ?_)
      refine R.assign (h := ?_)
      refine Reg.nil ⟨fun h => (by cases h), ?_⟩
      refine LGo.inLoop ?_
      refine LGo.keep [(0, (true, .yld y)), (1, (true, .ptr c 0)), (3, (true, .i ((k : Int) - 1)))] L1 ⟨rfl, rfl, rfl, trivial⟩ (hC hc1) ?_
      exact ih (k, L1) ⟨by omega, hc1, hrest⟩ (by simp)
  · -- else
    have hk0 : k = 0 := by omega
    subst hk0
    simp only [low, rounds, List.map_nil] at q3
    cases q3 with
    | nil h =>
      refine LGo.exit rfl ?_
      exact LGo.done (res0 Tryz.results278 hA hmd (by rfl) (fun _ _ h => h) (.inl rfl))
/-- the numbers that digits hands out, as0 a function value -/
theorem digits_L (x : Int) : LC Tryz.prog 248 0 [.u x] [] (.fn (.func 278) [] [.ptr 0 0]) [(0, .box 41 [.u x])] 1 := by
  refine LC.of_go Tryz.func248 (c := _) rfl (by kernel_rfl) (by rw [Tryz.ntmps248]; simp) rfl rfl (by simp) (by simp) ?_
  intro B hA hmd
  refine LGo.seq ?_
  refine LGo.region rfl ?_
  refine R.box (h := ?_)
  refine R.assign (h := ?_)
  refine Reg.nil ⟨fun h => (by cases h), ?_⟩
  refine LGo.seq ?_
  refine LGo.region rfl ?_
  refine R.makeFunc (es := []) (fs := [_]) (h := ?_)
  refine R.assign (h := ?_)
  refine Reg.nil ⟨fun h => (by cases h), ?_⟩
  exact LGo.ret (res1 Tryz.results248 hA hmd (by rfl) (fun _ _ h => h) (by rfl) (.inr rfl))
structure Fld where
  tag : Int
  num : Int
  txt : List UInt8
instance : Inhabited Fld := ⟨⟨0, 0, []⟩⟩
def Fld.c (x : Fld) : List SV := [.val (.int .i64 x.tag), .val (.int .u64 x.num), .val (.string ⟨x.txt.toArray⟩)]
/-- the place of the first element that p takes, counted from k; -1: none -/
def idx {α : Type} (p : α → Bool) : Nat → List α → Int
  | _, [] => -1
  | k, x :: xs => if p x = true then (k : Int) else idx p (k + 1) xs
theorem idx_spec {α : Type} (p : α → Bool) : ∀ (xs : List α) (k : Nat), (idx p k xs = -1 ∧ xs.find? p = none) ∨ ∃ (j : Nat) (hj : j < xs.length), idx p k xs = (k + j : Int) ∧ xs.find? p = some xs[j]
  | [], k => .inl ⟨rfl, rfl⟩
  | x :: xs, k => by
    by_cases h : p x = true
    · exact .inr ⟨0, by simp, by simp [idx, h], by simp [h]⟩
    · rcases idx_spec p xs (k + 1) with ⟨h1, h2⟩ | ⟨j, hj, h1, h2⟩
      · exact .inl ⟨by simp [idx, h, h1], by simp [h, h2]⟩
      · refine .inr ⟨j + 1, by simpa using hj, ?_, by simp [h, h2]⟩
        simp only [idx, if_neg h, h1]; push_cast; omega
theorem upHi {x : LO} {L : List (Nat × LO)} (h : hp L 0 = some x) : ∀ (o : Nat) (y : LO), hp [(0, x)] o = some y → hp L o = some y := by
  intro o y hy
  simp only [hp, List.lookup_cons, List.lookup_nil] at hy
  cases ho : (o == 0) with
  | true => rw [ho] at hy; cases hy; have : o = 0 := by simpa using ho
            subst this; exact h
  | false => rw [ho] at hy; cases hy
def fldAt (tag : Int) (xs : List Fld) : Fld := (xs.find? (fun x => decide (Fld.tag x = tag))).getD default
def fldHas (tag : Int) (xs : List Fld) : Bool := (xs.find? (fun x => decide (Fld.tag x = tag))).isSome
def ruleAt (tag : Int) (xs : List Rule) : Rule := (xs.find? (fun x => decide (Rule.tag x = tag))).getD default
def ruleHas (tag : Int) (xs : List Rule) : Bool := (xs.find? (fun x => decide (Rule.tag x = tag))).isSome
theorem fld_cl (x : Fld) (tag : Int) : LC Tryz.prog 250 1 [.agg (x.c.map LV.sv), .ptr 0 0] [(0, .box 3 [.i tag])] (.b (decide (x.tag = tag))) [(0, .box 3 [.i tag])] 0 := by
  refine LC.of_go Tryz.func250 (c := _) rfl (by kernel_rfl) (by rw [Tryz.ntmps250]; simp) rfl rfl (by simp [LO.lt, LV.lts, LV.lt]) (by simp) ?_
  intro B hA hmd
  refine LGo.seq ?_
  refine LGo.region rfl ?_
  refine R.box (h := ?_)
  refine R.assign (h := ?_)
  refine Reg.nil ⟨fun h => (by cases h), ?_⟩
  refine LGo.seq ?_
  refine LGo.region rfl ?_
  refine R.field F149_0 (h := ?_)
  refine R.loadB O3 (h := ?_)
  refine R.loadB O3 (h := ?_)
  refine R.bin (run_eql _ _ _ _ _ _) (h := ?_)
  refine R.assign (h := ?_)
  refine Reg.nil ⟨fun h => (by cases h), ?_⟩
  refine LGo.drop 1 (fun o h => (hA o).1 h) (by omega) [(3, (true, .b (decide (x.tag = tag))))] [(0, .box 3 [.i tag])] ⟨rfl, trivial⟩ ⟨rfl, trivial⟩ (by simp [LV.lt]) (by simp [LO.lt, LV.lts, LV.lt]) (h := ?_)
  exact LGo.ret (res1 Tryz.results250 hA hmd (by rfl) (fun _ _ h => h) (by rfl) (.inr rfl))
theorem fld_idx (xs : List Fld) (tag : Int) (hxs : xs.length ≤ 100) : LC Tryz.prog 279 1 [.sv (.sl 3 (xs.map Fld.c)), .fn (.func 250) [] [.ptr 0 0]] [(0, .box 3 [.i tag])] (.i (idx (fun x => decide (Fld.tag x = tag)) 0 xs)) [(0, .box 3 [.i tag])] 0 := by
  refine LC.of_go Tryz.func279 (c := _) rfl (by kernel_rfl) (by rw [Tryz.ntmps279]; simp) rfl rfl (by simp [LO.lt, LV.lts, LV.lt]) (by simp) ?_
  intro B hA hmd
  refine LGo.seq ?_
  refine LGo.region rfl ?_
  refine R.assign (h := ?_)
  refine Reg.nil ⟨fun h => (by cases h), ?_⟩
  refine LGo.seq ?_
  refine LGo.seq ?_
  refine LGo.region rfl ?_
  refine R.move (h := ?_)
  refine R.len S144 (h := ?_)
  refine R.move (h := ?_)
  refine Reg.nil ⟨fun h => (by cases h), ?_⟩
  rw [List.length_map]
  refine LGo.block ?_
  refine LGo.loop ?_
  refine LGo.keep [(0, (true, .sv (.sl 3 (xs.map Fld.c)))), (1, (true, .fn (.func 250) [] [.ptr 0 0])), (7, (true, .i xs.length)), (8, (true, .i (0 : Nat)))] [(0, .box 3 [.i tag])] ⟨rfl, rfl, rfl, rfl, trivial⟩ ⟨rfl, trivial⟩ ?_
  refine LGo.loopK (σ := Nat) (fun k => k ≤ xs.length ∧ idx (fun x => decide (Fld.tag x = tag)) 0 xs = idx (fun x => decide (Fld.tag x = tag)) k (xs.drop k))
    (fun k => [(0, (true, .sv (.sl 3 (xs.map Fld.c)))), (1, (true, .fn (.func 250) [] [.ptr 0 0])), (7, (true, .i xs.length)), (8, (true, .i k))]) (fun _ => [(0, .box 3 [.i tag])]) (fun _ => 1) (fun k => xs.length - k) 0 ⟨by simp, by simp⟩ ?_
  rintro k ⟨hk, hq⟩ ih
  refine LGo.seq ?_
  refine LGo.region rfl ?_
  refine R.bin (run_lss _ _ _ _ _ _) (h := ?_)
  refine Reg.nil ⟨fun h => (by cases h), ?_⟩
  refine LGo.seq ?_
  refine LGo.ifd (ht := fun hc => ?_) (hf := fun hc => ?_)
  · -- then
    have hlt : k < xs.length := by omega
    have hx : (xs.map Fld.c)[((k : Nat) : Int).toNat]? = some (xs[k].c) := by simp [hlt]
    have hd : xs.drop k = xs[k] :: xs.drop (k + 1) := List.drop_eq_getElem_cons hlt
    rw [hd] at hq
    generalize xs[k] = x at hx hq
    clear hd
    refine LGo.skip ?_
    refine LGo.seq ?_
    refine LGo.block ?_
    refine LGo.seq ?_
    refine LGo.region rfl ?_
    refine R.move (h := ?_)
    refine R.assign (h := ?_)
    refine Reg.nil ⟨fun h => (by cases h), ?_⟩
    refine LGo.seq ?_
    refine LGo.region rfl ?_
    refine R.move (h := ?_)
    refine R.move (h := ?_)
    refine R.move (h := ?_)
    refine R.index I144 (hj := fun _ => ⟨by omega, hx⟩) (h := ?_)
    refine R.loadN A149 (h := ?_)
    refine R.callRd (m := 1) (avs := [_]) (out := .b (decide (x.tag = tag))) (es := [_]) (first := []) (cap := [.ptr 0 0]) (fld_cl x tag) (hL := fun _ _ h => h) (h := ?_)
    refine Reg.nil ⟨fun h => (by cases h), ?_⟩
    refine LGo.ifd (ht := fun hc1 => ?_) (hf := fun hc1 => ?_)
    · -- then
      refine LGo.seq ?_
      refine LGo.region rfl ?_
      refine R.move (h := ?_)
      refine R.assign (h := ?_)
      refine Reg.nil ⟨fun h => (by cases h), ?_⟩
      have e : idx (fun x => decide (Fld.tag x = tag)) k (x :: xs.drop (k + 1)) = k := by simp [idx, hc1]
      rw [hq, e]
      exact LGo.ret (res1 Tryz.results279 hA hmd (by rfl) (fun _ _ h => h) (by rfl) (.inr rfl))
    · -- else
      have e : idx (fun x => decide (Fld.tag x = tag)) k (x :: xs.drop (k + 1)) = idx (fun x => decide (Fld.tag x = tag)) (k + 1) (xs.drop (k + 1)) := by simp [idx, hc1]
      rw [e] at hq
      refine LGo.skip ?_
      refine LGo.inBlock ?_
      refine LGo.region rfl ?_
      refine R.add (h := ?_)
      refine R.move (h := ?_)
      refine Reg.nil ⟨fun h => (by cases h), ?_⟩
      refine LGo.inLoop ?_
      exact LGo.next 1 (fun o h => (hA o).1 h) (by omega) (ih (k + 1) ⟨by omega, hq⟩ (by omega)) ⟨rfl, rfl, rfl, rfl, trivial⟩ ⟨rfl, trivial⟩
  · -- else
    have hk' : k = xs.length := by omega
    subst hk'
    simp only [List.drop_length, idx] at hq
    rw [hq]
    refine LGo.exit rfl ?_
    refine LGo.seq ?_
    refine LGo.region rfl ?_
    refine R.assign (h := ?_)
    refine Reg.nil ⟨fun h => (by cases h), ?_⟩
    exact LGo.ret (res1 Tryz.results279 hA hmd (by rfl) (fun _ _ h => h) (by rfl) (.inr rfl))
theorem fld_find (xs : List Fld) (tag : Int) (hxs : xs.length ≤ 100) : LC Tryz.prog 249 1 [.sv (.sl 3 (xs.map Fld.c)), .fn (.func 250) [] [.ptr 0 0]] [(0, .box 3 [.i tag])] (.tup [.agg ((fldAt tag xs).c.map LV.sv), .b (fldHas tag xs)]) [(0, .box 3 [.i tag])] 0 := by
  refine LC.of_go Tryz.func249 (c := _) rfl (by kernel_rfl) (by rw [Tryz.ntmps249]; simp) rfl rfl (by simp [LO.lt, LV.lts, LV.lt]) (by simp) ?_
  intro B hA hmd
  refine LGo.seq ?_
  refine LGo.region rfl ?_
  refine R.alloc Z149 (h := ?_)
  refine R.assign (h := ?_)
  refine Reg.nil ⟨fun h => (by cases h), ?_⟩
  refine LGo.seq ?_
  refine LGo.region rfl ?_
  refine R.move (h := ?_)
  refine R.move (h := ?_)
  refine R.callRd (m := 1) (avs := [_, _]) (out := .i (idx (fun x => decide (Fld.tag x = tag)) 0 xs)) (es := [_, _]) (first := []) (cap := []) (fld_idx xs tag hxs) (hL := upHi (by rfl)) (h := ?_)
  refine R.assign (h := ?_)
  refine Reg.nil ⟨fun h => (by cases h), ?_⟩
  refine LGo.seq ?_
  refine LGo.seq ?_
  refine LGo.region rfl ?_
  refine R.move (h := ?_)
  refine R.bin (run_lss _ _ _ _ _ _) (h := ?_)
  refine Reg.nil ⟨fun h => (by cases h), ?_⟩
  have hsp := idx_spec (fun x => decide (Fld.tag x = tag)) xs 0
  refine LGo.ifd (ht := fun hc => ?_) (hf := fun hc => ?_)
  · -- then
    have e : fldAt tag xs = default ∧ fldHas tag xs = false := by
      rcases hsp with ⟨h1, h2⟩ | ⟨j, hj, h1, h2⟩
      · simp [fldAt, fldHas, h2]
      · omega
    rw [e.1, e.2]
    refine LGo.seq ?_
    refine LGo.region rfl ?_
    refine R.alloc Z149 (h := ?_)
    refine Reg.nil ⟨fun h => (by cases h), ?_⟩
    refine LGo.seq ?_
    refine LGo.region rfl ?_
    refine R.loadA A149 (h := ?_)
    refine R.storeA A149 (h := ?_)  -- _ := store
    refine R.assign (h := ?_)
    refine Reg.nil ⟨fun h => (by cases h), ?_⟩
    exact LGo.ret (resD1 Tryz.results249 A149 hA hmd (by omega) (upHi (by rfl)) (by rfl) (by rfl) (by rfl) (by rfl) (.inr rfl))
  · -- else
    rcases hsp with ⟨h1, h2⟩ | ⟨j, hj, h1, h2⟩
    · omega
    have hx : (xs.map Fld.c)[(idx (fun x => decide (Fld.tag x = tag)) 0 xs).toNat]? = some (xs[j].c) := by rw [h1]; simp [hj]
    have e : fldAt tag xs = xs[j] ∧ fldHas tag xs = true := by simp [fldAt, fldHas, h2]
    rw [e.1, e.2]
    generalize xs[j] = x at hx ⊢
    refine LGo.skip ?_
    refine LGo.seq ?_
    refine LGo.region rfl ?_
    refine R.move (h := ?_)
    refine R.move (h := ?_)
    refine R.index I144 (hj := fun _ => ⟨by omega, hx⟩) (h := ?_)
    refine R.loadN A149 (h := ?_)
    refine R.storeA A149 (h := ?_)  -- _ := store
    refine R.assign (h := ?_)
    refine Reg.nil ⟨fun h => (by cases h), ?_⟩
    exact LGo.ret (resD1 Tryz.results249 A149 hA hmd (by omega) (upHi (by rfl)) (by rfl) (by rfl) (by rfl) (by rfl) (.inr rfl))
theorem fld_pub (xs : List Fld) (tag : Int) (hxs : xs.length ≤ 100) : PC Tryz.prog 207 [.sv (.sl 3 (xs.map Fld.c)), .i tag] (.tup [.agg ((fldAt tag xs).c.map LV.sv), .b (fldHas tag xs)]) := by
  refine ⟨LC.of_go Tryz.func207 (c := _) rfl (by kernel_rfl) (by rw [Tryz.ntmps207]; simp) rfl rfl (by simp) (by simp) ?_⟩
  intro B hA hmd
  refine LGo.seq ?_
  refine LGo.region rfl ?_
  refine R.box (h := ?_)
  refine R.alloc Z149 (h := ?_)
  refine R.assign (h := ?_)
  refine Reg.nil ⟨fun h => (by cases h), ?_⟩
  refine LGo.seq ?_
  refine LGo.region rfl ?_
  refine R.move (h := ?_)
  refine R.makeFunc (es := []) (fs := [_]) (h := ?_)
  refine R.callRd (m := 1) (avs := [_, _]) (out := .tup [.agg ((fldAt tag xs).c.map LV.sv), .b (fldHas tag xs)]) (es := [_, _]) (first := []) (cap := []) (fld_find xs tag hxs) (hL := upHi (by rfl)) (h := ?_)
  refine R.extract (h := ?_)
  refine R.extract (h := ?_)
  refine R.storeA A149 (h := ?_)  -- _ := store
  refine R.assign (h := ?_)
  refine Reg.nil ⟨fun h => (by cases h), ?_⟩
  exact LGo.ret (resD1 Tryz.results207 A149 hA hmd (by omega) noHo (by rfl) (by rfl) (by rfl) (by rfl) (.inr rfl))
theorem rule_cl (x : Rule) (tag : Int) : LC Tryz.prog 246 1 [.agg (x.c.map LV.sv), .ptr 0 0] [(0, .box 3 [.i tag])] (.b (decide (x.tag = tag))) [(0, .box 3 [.i tag])] 0 := by
  refine LC.of_go Tryz.func246 (c := _) rfl (by kernel_rfl) (by rw [Tryz.ntmps246]; simp) rfl rfl (by simp [LO.lt, LV.lts, LV.lt]) (by simp) ?_
  intro B hA hmd
  refine LGo.seq ?_
  refine LGo.region rfl ?_
  refine R.box (h := ?_)
  refine R.assign (h := ?_)
  refine Reg.nil ⟨fun h => (by cases h), ?_⟩
  refine LGo.seq ?_
  refine LGo.region rfl ?_
  refine R.field F215_0 (h := ?_)
  refine R.loadB O3 (h := ?_)
  refine R.loadB O3 (h := ?_)
  refine R.bin (run_eql _ _ _ _ _ _) (h := ?_)
  refine R.assign (h := ?_)
  refine Reg.nil ⟨fun h => (by cases h), ?_⟩
  refine LGo.drop 1 (fun o h => (hA o).1 h) (by omega) [(3, (true, .b (decide (x.tag = tag))))] [(0, .box 3 [.i tag])] ⟨rfl, trivial⟩ ⟨rfl, trivial⟩ (by simp [LV.lt]) (by simp [LO.lt, LV.lts, LV.lt]) (h := ?_)
  exact LGo.ret (res1 Tryz.results246 hA hmd (by rfl) (fun _ _ h => h) (by rfl) (.inr rfl))
theorem rule_idx (xs : List Rule) (tag : Int) (hxs : xs.length ≤ 100) : LC Tryz.prog 277 1 [.sv (.sl 5 (xs.map Rule.c)), .fn (.func 246) [] [.ptr 0 0]] [(0, .box 3 [.i tag])] (.i (idx (fun x => decide (Rule.tag x = tag)) 0 xs)) [(0, .box 3 [.i tag])] 0 := by
  refine LC.of_go Tryz.func277 (c := _) rfl (by kernel_rfl) (by rw [Tryz.ntmps277]; simp) rfl rfl (by simp [LO.lt, LV.lts, LV.lt]) (by simp) ?_
  intro B hA hmd
  refine LGo.seq ?_
  refine LGo.region rfl ?_
  refine R.assign (h := ?_)
  refine Reg.nil ⟨fun h => (by cases h), ?_⟩
  refine LGo.seq ?_
  refine LGo.seq ?_
  refine LGo.region rfl ?_
  refine R.move (h := ?_)
  refine R.len S141 (h := ?_)
  refine R.move (h := ?_)
  refine Reg.nil ⟨fun h => (by cases h), ?_⟩
  rw [List.length_map]
  refine LGo.block ?_
  refine LGo.loop ?_
  refine LGo.keep [(0, (true, .sv (.sl 5 (xs.map Rule.c)))), (1, (true, .fn (.func 246) [] [.ptr 0 0])), (7, (true, .i xs.length)), (8, (true, .i (0 : Nat)))] [(0, .box 3 [.i tag])] ⟨rfl, rfl, rfl, rfl, trivial⟩ ⟨rfl, trivial⟩ ?_
  refine LGo.loopK (σ := Nat) (fun k => k ≤ xs.length ∧ idx (fun x => decide (Rule.tag x = tag)) 0 xs = idx (fun x => decide (Rule.tag x = tag)) k (xs.drop k))
    (fun k => [(0, (true, .sv (.sl 5 (xs.map Rule.c)))), (1, (true, .fn (.func 246) [] [.ptr 0 0])), (7, (true, .i xs.length)), (8, (true, .i k))]) (fun _ => [(0, .box 3 [.i tag])]) (fun _ => 1) (fun k => xs.length - k) 0 ⟨by simp, by simp⟩ ?_
  rintro k ⟨hk, hq⟩ ih
  refine LGo.seq ?_
  refine LGo.region rfl ?_
  refine R.bin (run_lss _ _ _ _ _ _) (h := ?_)
  refine Reg.nil ⟨fun h => (by cases h), ?_⟩
  refine LGo.seq ?_
  refine LGo.ifd (ht := fun hc => ?_) (hf := fun hc => ?_)
  · -- then
    have hlt : k < xs.length := by omega
    have hx : (xs.map Rule.c)[((k : Nat) : Int).toNat]? = some (xs[k].c) := by simp [hlt]
    have hd : xs.drop k = xs[k] :: xs.drop (k + 1) := List.drop_eq_getElem_cons hlt
    rw [hd] at hq
    generalize xs[k] = x at hx hq
    clear hd
    refine LGo.skip ?_
    refine LGo.seq ?_
    refine LGo.block ?_
    refine LGo.seq ?_
    refine LGo.region rfl ?_
    refine R.move (h := ?_)
    refine R.assign (h := ?_)
    refine Reg.nil ⟨fun h => (by cases h), ?_⟩
    refine LGo.seq ?_
    refine LGo.region rfl ?_
    refine R.move (h := ?_)
    refine R.move (h := ?_)
    refine R.move (h := ?_)
    refine R.index I141 (hj := fun _ => ⟨by omega, hx⟩) (h := ?_)
    refine R.loadN A215 (h := ?_)
    refine R.callRd (m := 1) (avs := [_]) (out := .b (decide (x.tag = tag))) (es := [_]) (first := []) (cap := [.ptr 0 0]) (rule_cl x tag) (hL := fun _ _ h => h) (h := ?_)
    refine Reg.nil ⟨fun h => (by cases h), ?_⟩
    refine LGo.ifd (ht := fun hc1 => ?_) (hf := fun hc1 => ?_)
    · -- then
      refine LGo.seq ?_
      refine LGo.region rfl ?_
      refine R.move (h := ?_)
      refine R.assign (h := ?_)
      refine Reg.nil ⟨fun h => (by cases h), ?_⟩
      have e : idx (fun x => decide (Rule.tag x = tag)) k (x :: xs.drop (k + 1)) = k := by simp [idx, hc1]
      rw [hq, e]
      exact LGo.ret (res1 Tryz.results277 hA hmd (by rfl) (fun _ _ h => h) (by rfl) (.inr rfl))
    · -- else
      have e : idx (fun x => decide (Rule.tag x = tag)) k (x :: xs.drop (k + 1)) = idx (fun x => decide (Rule.tag x = tag)) (k + 1) (xs.drop (k + 1)) := by simp [idx, hc1]
      rw [e] at hq
      refine LGo.skip ?_
      refine LGo.inBlock ?_
      refine LGo.region rfl ?_
      refine R.add (h := ?_)
      refine R.move (h := ?_)
      refine Reg.nil ⟨fun h => (by cases h), ?_⟩
      refine LGo.inLoop ?_
      exact LGo.next 1 (fun o h => (hA o).1 h) (by omega) (ih (k + 1) ⟨by omega, hq⟩ (by omega)) ⟨rfl, rfl, rfl, rfl, trivial⟩ ⟨rfl, trivial⟩
  · -- else
    have hk' : k = xs.length := by omega
    subst hk'
    simp only [List.drop_length, idx] at hq
    rw [hq]
    refine LGo.exit rfl ?_
    refine LGo.seq ?_
    refine LGo.region rfl ?_
    refine R.assign (h := ?_)
    refine Reg.nil ⟨fun h => (by cases h), ?_⟩
    exact LGo.ret (res1 Tryz.results277 hA hmd (by rfl) (fun _ _ h => h) (by rfl) (.inr rfl))
theorem rule_find (xs : List Rule) (tag : Int) (hxs : xs.length ≤ 100) : LC Tryz.prog 245 1 [.sv (.sl 5 (xs.map Rule.c)), .fn (.func 246) [] [.ptr 0 0]] [(0, .box 3 [.i tag])] (.tup [.agg ((ruleAt tag xs).c.map LV.sv), .b (ruleHas tag xs)]) [(0, .box 3 [.i tag])] 0 := by
  refine LC.of_go Tryz.func245 (c := _) rfl (by kernel_rfl) (by rw [Tryz.ntmps245]; simp) rfl rfl (by simp [LO.lt, LV.lts, LV.lt]) (by simp) ?_
  intro B hA hmd
  refine LGo.seq ?_
  refine LGo.region rfl ?_
  refine R.alloc Z215 (h := ?_)
  refine R.assign (h := ?_)
  refine Reg.nil ⟨fun h => (by cases h), ?_⟩
  refine LGo.seq ?_
  refine LGo.region rfl ?_
  refine R.move (h := ?_)
  refine R.move (h := ?_)
  refine R.callRd (m := 1) (avs := [_, _]) (out := .i (idx (fun x => decide (Rule.tag x = tag)) 0 xs)) (es := [_, _]) (first := []) (cap := []) (rule_idx xs tag hxs) (hL := upHi (by rfl)) (h := ?_)
  refine R.assign (h := ?_)
  refine Reg.nil ⟨fun h => (by cases h), ?_⟩
  refine LGo.seq ?_
  refine LGo.seq ?_
  refine LGo.region rfl ?_
  refine R.move (h := ?_)
  refine R.bin (run_lss _ _ _ _ _ _) (h := ?_)
  refine Reg.nil ⟨fun h => (by cases h), ?_⟩
  have hsp := idx_spec (fun x => decide (Rule.tag x = tag)) xs 0
  refine LGo.ifd (ht := fun hc => ?_) (hf := fun hc => ?_)
  · -- then
    have e : ruleAt tag xs = default ∧ ruleHas tag xs = false := by
      rcases hsp with ⟨h1, h2⟩ | ⟨j, hj, h1, h2⟩
      · simp [ruleAt, ruleHas, h2]
      · omega
    rw [e.1, e.2]
    refine LGo.seq ?_
    refine LGo.region rfl ?_
    refine R.alloc Z215 (h := ?_)
    refine Reg.nil ⟨fun h => (by cases h), ?_⟩
    refine LGo.seq ?_
    refine LGo.region rfl ?_
    refine R.loadA A215 (h := ?_)
    refine R.storeA A215 (h := ?_)  -- _ := store
    refine R.assign (h := ?_)
    refine Reg.nil ⟨fun h => (by cases h), ?_⟩
    exact LGo.ret (resD1 Tryz.results245 A215 hA hmd (by omega) (upHi (by rfl)) (by rfl) (by rfl) (by rfl) (by rfl) (.inr rfl))
  · -- else
    rcases hsp with ⟨h1, h2⟩ | ⟨j, hj, h1, h2⟩
    · omega
    have hx : (xs.map Rule.c)[(idx (fun x => decide (Rule.tag x = tag)) 0 xs).toNat]? = some (xs[j].c) := by rw [h1]; simp [hj]
    have e : ruleAt tag xs = xs[j] ∧ ruleHas tag xs = true := by simp [ruleAt, ruleHas, h2]
    rw [e.1, e.2]
    generalize xs[j] = x at hx ⊢
    refine LGo.skip ?_
    refine LGo.seq ?_
    refine LGo.region rfl ?_
    refine R.move (h := ?_)
    refine R.move (h := ?_)
    refine R.index I141 (hj := fun _ => ⟨by omega, hx⟩) (h := ?_)
    refine R.loadN A215 (h := ?_)
    refine R.storeA A215 (h := ?_)  -- _ := store
    refine R.assign (h := ?_)
    refine Reg.nil ⟨fun h => (by cases h), ?_⟩
    exact LGo.ret (resD1 Tryz.results245 A215 hA hmd (by omega) (upHi (by rfl)) (by rfl) (by rfl) (by rfl) (by rfl) (.inr rfl))
theorem rule_pub (xs : List Rule) (tag : Int) (hxs : xs.length ≤ 100) : PC Tryz.prog 204 [.sv (.sl 5 (xs.map Rule.c)), .i tag] (.tup [.agg ((ruleAt tag xs).c.map LV.sv), .b (ruleHas tag xs)]) := by
  refine ⟨LC.of_go Tryz.func204 (c := _) rfl (by kernel_rfl) (by rw [Tryz.ntmps204]; simp) rfl rfl (by simp) (by simp) ?_⟩
  intro B hA hmd
  refine LGo.seq ?_
  refine LGo.region rfl ?_
  refine R.box (h := ?_)
  refine R.alloc Z215 (h := ?_)
  refine R.assign (h := ?_)
  refine Reg.nil ⟨fun h => (by cases h), ?_⟩
  refine LGo.seq ?_
  refine LGo.region rfl ?_
  refine R.move (h := ?_)
  refine R.makeFunc (es := []) (fs := [_]) (h := ?_)
  refine R.callRd (m := 1) (avs := [_, _]) (out := .tup [.agg ((ruleAt tag xs).c.map LV.sv), .b (ruleHas tag xs)]) (es := [_, _]) (first := []) (cap := []) (rule_find xs tag hxs) (hL := upHi (by rfl)) (h := ?_)
  refine R.extract (h := ?_)
  refine R.extract (h := ?_)
  refine R.storeA A215 (h := ?_)  -- _ := store
  refine R.assign (h := ?_)
  refine Reg.nil ⟨fun h => (by cases h), ?_⟩
  exact LGo.ret (resD1 Tryz.results204 A215 hA hmd (by omega) noHo (by rfl) (by rfl) (by rfl) (by rfl) (.inr rfl))
def needs (rs : List Rule) : List Int := (rs.filter (fun r => r.must)).map Rule.tag
def tagsL (l : List Int) : List (List LV) := l.map fun t => [.i t]
def tagsC (l : List Int) : List (List SV) := l.map fun t => [.val (.int .i64 t)]
theorem tagsL_app (l : List Int) (t : Int) : tagsL (l ++ [t]) = tagsL l ++ [[.i t]] := by simp [tagsL]
theorem needs_take (rs : List Rule) (k : Nat) (h : k < rs.length) : needs (rs.take (k + 1)) = needs (rs.take k) ++ (if rs[k].must = true then [rs[k].tag] else []) := by
  simp only [needs, List.take_succ_eq_append_getElem h, List.filter_append, List.map_append]
  congr 1
  by_cases hm : rs[k].must = true <;> simp [hm]
theorem needs_len (rs : List Rule) : (needs rs).length ≤ rs.length := by
  simp only [needs, List.length_map]; exact List.length_filter_le _ _
theorem needs_P (rs : List Rule) (hrs : rs.length ≤ 100) : PC Tryz.prog 206 [.sv (.sl 5 (rs.map Rule.c))] (.sv (.sl 1 (tagsC (needs rs)))) := by
  refine ⟨LC.of_go Tryz.func206 (c := _) rfl (by kernel_rfl) (by rw [Tryz.ntmps206]; simp) rfl rfl (by simp) (by simp) ?_⟩
  intro B hA hmd
  refine LGo.seq ?_
  refine LGo.region rfl ?_
  refine R.assign (h := ?_)
  refine Reg.nil ⟨fun h => (by cases h), ?_⟩
  refine LGo.seq ?_
  refine LGo.region rfl ?_
  refine R.assign (h := ?_)
  refine Reg.nil ⟨fun h => (by cases h), ?_⟩
  refine LGo.seq ?_
  refine LGo.seq ?_
  refine LGo.region rfl ?_
  refine R.move (h := ?_)
  first | refine R.len S141 (h := ?_) | refine R.lenV (run_lenNil S141) (h := ?_)
  rw [List.length_map]
  refine R.move (h := ?_)
  refine Reg.nil ⟨fun h => (by cases h), ?_⟩
  refine LGo.block ?_
  refine LGo.loop ?_
  refine LGo.nilRow 3 3 1 (by rfl) ?_
  refine LGo.keep [(3, (true, .ref 0)), (6, (true, .sv (.sl 5 (rs.map Rule.c)))), (7, (true, .i rs.length)), (8, (true, .i (0 : Nat)))] [(0, .row 3 1 (tagsL (needs (rs.take 0))))] ⟨rfl, rfl, rfl, rfl, trivial⟩ ⟨rfl, trivial⟩ ?_
  refine LGo.loopK (σ := Nat) (fun k => k ≤ rs.length) (fun k => [(3, (true, .ref 0)), (6, (true, .sv (.sl 5 (rs.map Rule.c)))), (7, (true, .i rs.length)), (8, (true, .i k))]) (fun k => [(0, .row 3 1 (tagsL (needs (rs.take k))))]) (fun _ => 1) (fun k => rs.length - k) 0 (by simp) ?_
  rintro k hk ih
  refine LGo.seq ?_
  refine LGo.region rfl ?_
  refine R.bin (run_lss _ _ _ _ _ _) (h := ?_)
  refine Reg.nil ⟨fun h => (by cases h), ?_⟩
  refine LGo.seq ?_
  refine LGo.ifd (ht := fun hc => ?_) (hf := fun hc => ?_)
  · -- then
    have hlt : k < rs.length := by omega
    have hx : (rs.map Rule.c)[((k : Nat) : Int).toNat]? = some (rs[k].c) := by simp [hlt]
    have hnt := needs_take rs k hlt
    have hnl := needs_len (rs.take k)
    rw [List.length_take] at hnl
    generalize rs[k] = x at hx hnt
    refine LGo.skip ?_
    refine LGo.seq ?_
    refine LGo.block ?_
    refine LGo.seq ?_
    refine LGo.region rfl ?_
    refine R.index I141 (hj := fun _ => ⟨by omega, hx⟩) (h := ?_)
    first | refine R.loadA A215 (h := ?_) | refine R.loadN A215 (h := ?_)
    refine R.alloc Z215 (h := ?_)
    refine R.storeA A215 (h := ?_)
    refine Reg.nil ⟨fun h => (by cases h), ?_⟩
    refine LGo.seq ?_
    refine LGo.region rfl ?_
    first | refine R.field F215_4 (h := ?_) | refine R.fieldAt F215_4 (h := ?_)
    first | refine R.loadB O4 (h := ?_) | refine R.load1 O4 (h := ?_)
    refine Reg.nil ⟨fun h => (by cases h), ?_⟩
    refine LGo.ifb (ht := fun hc2 => ?_) (hf := fun hc2 => ?_)
    · -- then
      refine LGo.region rfl ?_
      refine R.move (h := ?_)
      first | refine R.field F215_0 (h := ?_) | refine R.fieldAt F215_0 (h := ?_)
      first | refine R.loadB O3 (h := ?_) | refine R.load1 O3 (h := ?_)
      refine R.buildSlice AP65 (xs := [_]) (es := [_]) (hcs := CellsOfs.cons (CellsOf.one rfl) CellsOfs.nil) (h := ?_)
      refine R.append AP65 (xs := tagsL (needs (rs.take k))) (ys := [[.i x.tag]]) (hs := SrcOk.row Tryz.underlying65 (by simp)) (hrd := oneL (by rfl)) (hlen := by simp [tagsL]; omega) (h := ?_)
      refine R.assign (h := ?_)
      refine Reg.nil ⟨fun h => (by cases h), ?_⟩
      refine LGo.inBlock ?_
      refine LGo.region rfl ?_
      first | refine R.add (h := ?_) | refine R.addW (h := ?_)
      refine R.move (h := ?_)
      refine Reg.nil ⟨fun h => (by cases h), ?_⟩
      refine LGo.inLoop ?_
      exact LGo.turn [3] (b := 0) (fun o h => (hA o).1 h) (ih (k + 1) hlt (by omega)) ⟨rfl, rfl, rfl, rfl, trivial⟩ ⟨by rw [hnt, if_pos hc2, tagsL_app]; simp [LO.mapI, tagsL, LV.mapIs, LV.mapI], trivial⟩ (hLl := by simp [LO.lt, tagsL, LV.lts, LV.lt])
    · -- else
      refine LGo.skip ?_
      refine LGo.inBlock ?_
      refine LGo.region rfl ?_
      first | refine R.add (h := ?_) | refine R.addW (h := ?_)
      refine R.move (h := ?_)
      refine Reg.nil ⟨fun h => (by cases h), ?_⟩
      refine LGo.inLoop ?_
      exact LGo.next 1 (fun o h => by have := (hA o).1 h; omega) (by omega) (ih (k + 1) hlt (by omega)) ⟨rfl, rfl, rfl, rfl, trivial⟩ ⟨by rw [hnt, if_neg (by simp [hc2]), List.append_nil]; rfl, trivial⟩ (hLl := by simp [LO.lt, tagsL, LV.lts, LV.lt])
  · -- else
    have hk' : k = rs.length := by omega
    subst hk'
    rw [List.take_length]
    refine LGo.exit rfl ?_
    refine LGo.seq ?_
    refine LGo.region rfl ?_
    refine R.move (h := ?_)
    refine R.assign (h := ?_)
    refine Reg.nil ⟨fun h => (by cases h), ?_⟩
    refine LGo.freeze 0 (ys := tagsC (needs rs)) (by rfl) (by simp [tagsL, tagsC]) ?_
    refine LGo.drop 0 (fun o h => (hA o).1 h) (by omega) [(2, (true, .sv (.sl 1 (tagsC (needs rs)))))] [] ⟨rfl, trivial⟩ trivial (by simp [LV.lt]) (by simp) (h := ?_)
    exact LGo.ret (res1 Tryz.results206 hA hmd (by rfl) noHo (by rfl) (.inr rfl))
def odd (r : Rule) (x : Fld) : Bool := (decide (r.kind = 1) && !decide (x.txt = [])) || (decide (r.kind = 2) && !decide (x.num = 0))
def val (r : Rule) (x : Fld) : Int := if r.kind = 2 then x.txt.length else x.num
def one (r : Rule) (x : Fld) : Int := if odd r x = true then 2 else if (!within r (val r x)) = true then 7 else 0
def textI (l : List UInt8) : List Int := l.map fun c => (c.toNat : Int)
theorem textI_len (l : List UInt8) : (textI l).length = l.length := by simp [textI]
theorem bytesC_text (l : List UInt8) : bytesC l = ic .u8 (textI l) := bytesC_ic l
theorem low_len (x : Int) : ∀ k, (low x k).length = k
  | 0 => rfl
  | k + 1 => by simp [low, low_len x k]
theorem digs_len (x : Int) (h0 : 0 ≤ x) (h1 : x < 18446744073709551616) : (digs x).length ≤ 8 := by
  have := bits_le x.toNat 64 (by omega)
  rw [digs, low_len]; omega
/-- is a field's value allowed by its rule -/
def fldE (r : Rule) (x : Fld) : Int := if r.kind = 1 then (if (!decide (x.txt = [])) = true then 2 else if (!within r x.num) = true then 7 else 0) else (if (!decide (x.num = 0)) = true then 2 else if (!within r x.txt.length) = true then 7 else 0)
def fldB (r : Rule) (x : Fld) : List Int := if r.kind = 1 then [x.tag, ((digs x.num).length : Int)] ++ digs x.num else [x.tag, (x.txt.length : Int) / 256, (x.txt.length : Int) % 256] ++ textI x.txt
theorem wrap_u8m (a : Int) : IntKind.u8.wrap a = a % 256 := wrap_u8 a
theorem put_err (bs : List (List SV)) (r : Rule) (x : Fld) (hbs : bs.length ≤ 100000) (ht0 : 0 ≤ x.tag) (ht1 : x.tag < 256) (hn0 : 0 ≤ x.num) (hn1 : x.num < 18446744073709551616) (hx : x.txt.length ≤ 1000) (e : Int) (he : fldE r x = e) (h0 : e ≠ 0) : LC Tryz.prog 205 1 [.ref 0, .agg (r.c.map LV.sv), .agg (x.c.map LV.sv)] [(0, .rs 5 1 bs)] (.tup [.v (.slice none 0 0), .i e]) [] 0 := by
  refine LC.of_go Tryz.func205 (c := _) rfl (by kernel_rfl) (by rw [Tryz.ntmps205]; simp) rfl rfl (by simp [LO.lt, LV.lts, LV.lt]) (by simp) ?_
  intro B hA hmd
  unfold fldE at he
  refine LGo.seq ?_
  refine LGo.region rfl ?_
  refine R.box (h := ?_)
  refine R.box (h := ?_)
  refine R.assign (h := ?_)
  refine R.assign (h := ?_)
  refine Reg.nil ⟨fun h => (by cases h), ?_⟩
  refine LGo.seq ?_
  refine LGo.region rfl ?_
  first | refine R.field F149_2 (h := ?_) | refine R.fieldAt F149_2 (h := ?_)
  first | refine R.loadB O9 (h := ?_) | refine R.load1 O9 (h := ?_)
  refine R.lenT Tryz.runUnderlying9 (h := ?_)
  first | refine R.convI Tryz.runUnderlying3 Tryz.runUnderlying41 (h := ?_) | refine R.convW Tryz.runUnderlying3 Tryz.runUnderlying41 (h := ?_)
  refine R.assign (h := ?_)
  refine Reg.nil ⟨fun h => (by cases h), ?_⟩
  refine LGo.seq ?_
  refine LGo.seq ?_
  refine LGo.region rfl ?_
  first | refine R.field F215_1 (h := ?_) | refine R.fieldAt F215_1 (h := ?_)
  first | refine R.loadB O3 (h := ?_) | refine R.load1 O3 (h := ?_)
  refine R.bin (run_eql _ _ _ _ _ _) (h := ?_)
  refine Reg.nil ⟨fun h => (by cases h), ?_⟩
  first | refine LGo.ifd (ht := fun hc => ?_) (hf := fun hc => ?_) | refine LGo.ifb (ht := fun hc => ?_) (hf := fun hc => ?_)
  · -- then 1
    rw [if_pos hc] at he
    refine LGo.seq ?_
    refine LGo.region rfl ?_
    first | refine R.field F149_1 (h := ?_) | refine R.fieldAt F149_1 (h := ?_)
    first | refine R.loadB O41 (h := ?_) | refine R.load1 O41 (h := ?_)
    refine R.assign (h := ?_)
    refine Reg.nil ⟨fun h => (by cases h), ?_⟩
    refine LGo.seq ?_
    refine LGo.region rfl ?_
    first | refine R.field F149_2 (h := ?_) | refine R.fieldAt F149_2 (h := ?_)
    first | refine R.loadB O9 (h := ?_) | refine R.load1 O9 (h := ?_)
    refine R.bin (run_neqT _ _ _ _ _) (h := ?_)
    refine Reg.nil ⟨fun h => (by cases h), ?_⟩
    first | refine LGo.ifd (ht := fun hc2 => ?_) (hf := fun hc2 => ?_) | refine LGo.ifb (ht := fun hc2 => ?_) (hf := fun hc2 => ?_)
    · -- then 2
      rw [if_pos hc2] at he; subst he
      refine LGo.seq ?_
      refine LGo.region rfl ?_
      refine R.assign (h := ?_)
      refine R.assign (h := ?_)
      refine Reg.nil ⟨fun h => (by cases h), ?_⟩
      exact LGo.ret (ret_TT Tryz.results205 hA hmd)
    · -- else 2
      rw [if_neg (by rw [hc2]; simp)] at he
      refine LGo.skip ?_
      refine LGo.seq ?_
      refine LGo.seq ?_
      refine LGo.region rfl ?_
      first | refine R.loadA A215 (h := ?_) | refine R.loadN A215 (h := ?_)
      refine R.move (h := ?_)
      refine R.callP (es := [_, _]) (fun _ => within_P _ _) (h := ?_)
      refine R.not (h := ?_)
      refine Reg.nil ⟨fun h => (by cases h), ?_⟩
      first | refine LGo.ifd (ht := fun hc3 => ?_) (hf := fun hc3 => ?_) | refine LGo.ifb (ht := fun hc3 => ?_) (hf := fun hc3 => ?_)
      · -- then 3
        rw [if_pos hc3] at he; subst he
        refine LGo.seq ?_
        refine LGo.region rfl ?_
        refine R.assign (h := ?_)
        refine R.assign (h := ?_)
        refine Reg.nil ⟨fun h => (by cases h), ?_⟩
        exact LGo.ret (ret_TT Tryz.results205 hA hmd)
      · -- else 3
        exact absurd he.symm (by rw [if_neg (by rw [hc3]; simp)]; exact h0) -- END
  · -- else 1
    rw [if_neg hc] at he
    refine LGo.seq ?_
    refine LGo.region rfl ?_
    first | refine R.field F149_1 (h := ?_) | refine R.fieldAt F149_1 (h := ?_)
    first | refine R.loadB O41 (h := ?_) | refine R.load1 O41 (h := ?_)
    refine R.bin (run_neq _ _ _ _ _ _) (h := ?_)
    refine Reg.nil ⟨fun h => (by cases h), ?_⟩
    first | refine LGo.ifd (ht := fun hc4 => ?_) (hf := fun hc4 => ?_) | refine LGo.ifb (ht := fun hc4 => ?_) (hf := fun hc4 => ?_)
    · -- then 4
      rw [if_pos hc4] at he; subst he
      refine LGo.seq ?_
      refine LGo.region rfl ?_
      refine R.assign (h := ?_)
      refine R.assign (h := ?_)
      refine Reg.nil ⟨fun h => (by cases h), ?_⟩
      exact LGo.ret (ret_TT Tryz.results205 hA hmd)
    · -- else 4
      rw [if_neg (by rw [hc4]; simp)] at he
      refine LGo.skip ?_
      refine LGo.seq ?_
      refine LGo.seq ?_
      refine LGo.region rfl ?_
      first | refine R.loadA A215 (h := ?_) | refine R.loadN A215 (h := ?_)
      refine R.move (h := ?_)
      refine R.callP (es := [_, _]) (fun _ => within_P _ _) (h := ?_)
      refine R.not (h := ?_)
      refine Reg.nil ⟨fun h => (by cases h), ?_⟩
      first | refine LGo.ifd (ht := fun hc5 => ?_) (hf := fun hc5 => ?_) | refine LGo.ifb (ht := fun hc5 => ?_) (hf := fun hc5 => ?_)
      · -- then 5
        rw [if_pos hc5] at he; subst he
        refine LGo.seq ?_
        refine LGo.region rfl ?_
        refine R.assign (h := ?_)
        refine R.assign (h := ?_)
        refine Reg.nil ⟨fun h => (by cases h), ?_⟩
        exact LGo.ret (ret_TT Tryz.results205 hA hmd)
      · -- else 5
        exact absurd he.symm (by rw [if_neg (by rw [hc5]; simp)]; exact h0) -- END
theorem put_ok (bs : List (List SV)) (r : Rule) (x : Fld) (hbs : bs.length ≤ 100000) (ht0 : 0 ≤ x.tag) (ht1 : x.tag < 256) (hn0 : 0 ≤ x.num) (hn1 : x.num < 18446744073709551616) (hx : x.txt.length ≤ 1000) (he : fldE r x = 0) : LC Tryz.prog 205 1 [.ref 0, .agg (r.c.map LV.sv), .agg (x.c.map LV.sv)] [(0, .rs 5 1 bs)] (.tup [.ref 1, .i 0]) [(1, .rs 5 1 (bs ++ ic .u8 (fldB r x)))] 1 := by
  refine LC.of_go Tryz.func205 (c := _) rfl (by kernel_rfl) (by rw [Tryz.ntmps205]; simp) rfl rfl (by simp [LO.lt, LV.lts, LV.lt]) (by simp) ?_
  intro B hA hmd
  unfold fldE at he
  have hdl := digs_len x.num hn0 hn1
  refine LGo.seq ?_
  refine LGo.region rfl ?_
  refine R.box (h := ?_)
  refine R.box (h := ?_)
  refine R.assign (h := ?_)
  refine R.assign (h := ?_)
  refine Reg.nil ⟨fun h => (by cases h), ?_⟩
  refine LGo.seq ?_
  refine LGo.region rfl ?_
  first | refine R.field F149_2 (h := ?_) | refine R.fieldAt F149_2 (h := ?_)
  first | refine R.loadB O9 (h := ?_) | refine R.load1 O9 (h := ?_)
  refine R.lenT Tryz.runUnderlying9 (h := ?_)
  first | refine R.convI Tryz.runUnderlying3 Tryz.runUnderlying41 (h := ?_) | refine R.convW Tryz.runUnderlying3 Tryz.runUnderlying41 (h := ?_)
  refine R.assign (h := ?_)
  refine Reg.nil ⟨fun h => (by cases h), ?_⟩
  refine LGo.seq ?_
  refine LGo.seq ?_
  refine LGo.region rfl ?_
  first | refine R.field F215_1 (h := ?_) | refine R.fieldAt F215_1 (h := ?_)
  first | refine R.loadB O3 (h := ?_) | refine R.load1 O3 (h := ?_)
  refine R.bin (run_eql _ _ _ _ _ _) (h := ?_)
  refine Reg.nil ⟨fun h => (by cases h), ?_⟩
  first | refine LGo.ifd (ht := fun hc => ?_) (hf := fun hc => ?_) | refine LGo.ifb (ht := fun hc => ?_) (hf := fun hc => ?_)
  · -- then 1
    rw [if_pos hc] at he
    have e : fldB r x = [x.tag, ((digs x.num).length : Int)] ++ digs x.num := by unfold fldB; rw [if_pos hc]
    rw [e, ic_app, ← List.append_assoc]
    refine LGo.seq ?_
    refine LGo.region rfl ?_
    first | refine R.field F149_1 (h := ?_) | refine R.fieldAt F149_1 (h := ?_)
    first | refine R.loadB O41 (h := ?_) | refine R.load1 O41 (h := ?_)
    refine R.assign (h := ?_)
    refine Reg.nil ⟨fun h => (by cases h), ?_⟩
    refine LGo.seq ?_
    refine LGo.region rfl ?_
    first | refine R.field F149_2 (h := ?_) | refine R.fieldAt F149_2 (h := ?_)
    first | refine R.loadB O9 (h := ?_) | refine R.load1 O9 (h := ?_)
    refine R.bin (run_neqT _ _ _ _ _) (h := ?_)
    refine Reg.nil ⟨fun h => (by cases h), ?_⟩
    first | refine LGo.ifd (ht := fun hc2 => ?_) (hf := fun hc2 => ?_) | refine LGo.ifb (ht := fun hc2 => ?_) (hf := fun hc2 => ?_)
    · -- then 2
      rw [if_pos hc2] at he; simp at he -- END
    · -- else 2
      rw [if_neg (by rw [hc2]; simp)] at he
      refine LGo.skip ?_
      refine LGo.seq ?_
      refine LGo.seq ?_
      refine LGo.region rfl ?_
      first | refine R.loadA A215 (h := ?_) | refine R.loadN A215 (h := ?_)
      refine R.move (h := ?_)
      refine R.callP (es := [_, _]) (fun _ => within_P _ _) (h := ?_)
      refine R.not (h := ?_)
      refine Reg.nil ⟨fun h => (by cases h), ?_⟩
      first | refine LGo.ifd (ht := fun hc3 => ?_) (hf := fun hc3 => ?_) | refine LGo.ifb (ht := fun hc3 => ?_) (hf := fun hc3 => ?_)
      · -- then 3
        rw [if_pos hc3] at he; simp at he -- END
      · -- else 3
        refine LGo.skip ?_
        refine LGo.seq ?_
        refine LGo.seq ?_
        refine LGo.region rfl ?_
        first | refine R.field F215_1 (h := ?_) | refine R.fieldAt F215_1 (h := ?_)
        first | refine R.loadB O3 (h := ?_) | refine R.load1 O3 (h := ?_)
        refine R.bin (run_eql _ _ _ _ _ _) (h := ?_)
        refine Reg.nil ⟨fun h => (by cases h), ?_⟩
        refine LGo.ifb (ht := fun hc4 => ?_) (hf := fun hc4 => by exact absurd hc (by simpa using hc4))
        refine LGo.seq ?_
        refine LGo.region rfl ?_
        refine R.alloc Z44 (h := ?_)
        refine Reg.nil ⟨fun h => (by cases h), ?_⟩
        refine LGo.seq ?_
        refine LGo.seq ?_
        refine LGo.region rfl ?_
        refine R.move (h := ?_)
        refine R.callX (es := [_]) [] (digits_L x.num) (h := ?_)
        refine Reg.nil ⟨fun h => (by cases h), ?_⟩
        refine LGo.block ?_
        refine LGo.packNil 3 0 5 1 (h := ?_)
        refine LGo.keep [(0, (true, .ref 0)), (4, (true, .ptr 1 0)), (5, (true, .ptr 2 0)), (8, (true, .u x.num)), (9, (true, .ptr 3 0)), (34, (true, .fn (.func 278) [] [.ptr 4 0]))] ([(0, .rs 5 1 bs), (1, .box 215 (r.c.map LV.sv)), (2, .box 149 (x.c.map LV.sv)), (3, .bx 44 [.v undef] 0 5 1 (ic .u8 ((digs x.num).take 0))), (4, .box 41 [.u x.num])]) ⟨rfl, rfl, rfl, rfl, rfl, rfl, trivial⟩ ⟨rfl, rfl, rfl, rfl, rfl, trivial⟩ ?_
        refine LGo.rangeN (fun fn ac bc => [(0, .rs 5 1 bs), (1, .box 215 (r.c.map LV.sv)), (2, .box 149 (x.c.map LV.sv)), (3, .bx 44 [.v undef] 0 5 1 (ic .u8 ((digs x.num).take (digs x.num).length))), (4, .box 41 [.u x.num]), (5, .raw (.deferred (some []))), (6, .loop fn Tryz.f205.ntmps [(0, (true, .ref 0)), (4, (true, .ptr 1 0)), (5, (true, .ptr 2 0)), (8, (true, .u x.num)), (9, (true, .ptr 3 0)), (34, (true, .fn (.func 278) [] [.ptr 4 0]))] #[35] ac bc .ready none)]) (hit := fun fn ac bc hac hbc => ?_) (h := fun fn => ?_)
        · -- the iterator
          have hlen : (rounds (digs x.num)).length = (digs x.num).length := by simp [rounds]
          refine digits1 x.num hn0 hn1 (y := 6) (c := 4) (by decide) (by decide) ⟨rfl, by simp [LO.lt, LV.lts, LV.lt, lts_sv], 41, rfl⟩ ?_
          have hrun := YRun.fold (P := Tryz.prog) (y := 6) (C := HoldsNum 7 4 x.num) (rounds (digs x.num)) (fun j => [(0, .rs 5 1 bs), (1, .box 215 (r.c.map LV.sv)), (2, .box 149 (x.c.map LV.sv)), (3, .bx 44 [.v undef] 0 5 1 (ic .u8 ((digs x.num).take j))), (4, .box 41 [.u x.num]), (5, .raw (.deferred (some []))), (6, .loop fn Tryz.f205.ntmps [(0, (true, .ref 0)), (4, (true, .ptr 1 0)), (5, (true, .ptr 2 0)), (8, (true, .u x.num)), (9, (true, .ptr 3 0)), (34, (true, .fn (.func 278) [] [.ptr 4 0]))] #[35] ac bc .ready none)]) (fun j hj => ⟨rfl, by simp [LO.lt, LV.lts, LV.lt, lts_sv], 41, rfl⟩) (fun j hj => ?_)
          · rw [hlen] at hrun; exact hrun
          have hj' : j < (digs x.num).length := by rw [← hlen]; exact hj
          have hd : (rounds (digs x.num))[j] = [.y (digs x.num)[j]] := by simp [rounds]
          have htk : (digs x.num).take (j + 1) = (digs x.num).take j ++ [(digs x.num)[j]] := by rw [List.take_succ_eq_append_getElem hj']
          rw [hd, htk, ← ic_snoc]
          generalize (digs x.num)[j] = dg
          refine Yld.walk 7 ((10, (true, .y dg)) :: (35, (true, .y dg)) :: [(0, (true, .ref 0)), (4, (true, .ptr 1 0)), (5, (true, .ptr 2 0)), (8, (true, .u x.num)), (9, (true, .ptr 3 0)), (34, (true, .fn (.func 278) [] [.ptr 4 0]))]) (hpN := by rw [show Tryz.f205.ntmps = 65 from Tryz.ntmps205]; simp) (hA := ?_) (hB := ?_)
          · intro l B' hA' hmd'; subst hac
            refine LGo.region rfl ?_
            refine R.assign (h := ?_)
            refine Reg.nil ⟨fun h => (by cases h), ?_⟩
            exact LGo.done (fun cx a w hr => ⟨rfl, cx, hr⟩)
          · intro l B' hA' hmd'; subst hbc
            refine LGo.unpack 3 (h := ?_)
            refine LGo.block ?_
            refine LGo.region rfl ?_
            first | refine R.loadB O44 (h := ?_) | refine R.load1 O44 (h := ?_)
            refine R.move (h := ?_)
            refine R.buildSliceG AP44 (xs := [_]) (es := [_]) (hcs := CellsOfs.cons (CellsOf.one rfl) CellsOfs.nil) (h := ?_)
            refine R.appendS AP44 (hs := SrcOk.sl Tryz.underlying44 (by simp)) (hlen := by rw [ic_len]; simp; omega) (h := ?_)
            refine R.storeB O44 (h := ?_)
            refine Reg.nil ⟨fun h => (by cases h), ?_⟩
            refine LGo.inBlock ?_
            refine LGo.pack 3 0 (h := ?_)
            refine LGo.drop 7 (fun o h => (hA' o).1 h) (by omega) [] ((6, .loop fn Tryz.f205.ntmps [(0, (true, .ref 0)), (4, (true, .ptr 1 0)), (5, (true, .ptr 2 0)), (8, (true, .u x.num)), (9, (true, .ptr 3 0)), (34, (true, .fn (.func 278) [] [.ptr 4 0]))] #[35] ac _ .busy none) :: (5, .raw (.deferred (some []))) :: [(0, .rs 5 1 bs), (1, .box 215 (r.c.map LV.sv)), (2, .box 149 (x.c.map LV.sv)), (3, .bx 44 [.v undef] 0 5 1 (ic .u8 ((digs x.num).take j) ++ [[.val (.int .u8 dg)]])), (4, .box 41 [.u x.num])]) trivial ⟨rfl, rfl, rfl, rfl, rfl, rfl, rfl, trivial⟩ (by simp) (by simp [LO.lt, LV.lts, LV.lt, lts_sv]) (h := ?_)
            refine LGo.done (RoundEnd.go rfl (fun o z hz hne => ?_) rfl)
            rcases o with _ | _ | _ | _ | _ | _ | _ | o <;> first | exact absurd rfl hne | exact hz
        · -- behind the range
          rw [List.take_length]
          refine LGo.unpack 3 (h := ?_)
          refine LGo.inBlock ?_
          refine LGo.seq ?_
          refine LGo.region rfl ?_
          refine R.move (h := ?_)
          first | refine R.field F149_0 (h := ?_) | refine R.fieldAt F149_0 (h := ?_)
          first | refine R.loadB O3 (h := ?_) | refine R.load1 O3 (h := ?_)
          first | refine R.convI Tryz.runUnderlying3 Tryz.runUnderlying5 (h := ?_) | refine R.convW Tryz.runUnderlying3 Tryz.runUnderlying5 (h := ?_)
          first | refine R.loadB O44 (h := ?_) | refine R.load1 O44 (h := ?_)
          first | refine R.len S44 (h := ?_) | refine R.lenRs S44 (h := ?_) | refine R.lenV (run_lenNil S44) (h := ?_)
          rw [ic_len]
          first | refine R.convI Tryz.runUnderlying3 Tryz.runUnderlying5 (h := ?_) | refine R.convW Tryz.runUnderlying3 Tryz.runUnderlying5 (h := ?_)
          refine R.buildSliceG AP44 (xs := [_, _]) (es := [_, _]) (hcs := CellsOfs.cons (CellsOf.one rfl) (CellsOfs.cons (CellsOf.one rfl) CellsOfs.nil)) (h := ?_)
          refine R.appendS AP44 (hs := SrcOk.sl Tryz.underlying44 (by simp)) (hlen := by simp; omega) (h := ?_)
          first | refine R.loadB O44 (h := ?_) | refine R.load1 O44 (h := ?_)
          refine R.appendS AP44 (hs := SrcOk.rs Tryz.underlying44 (ic_one _ _)) (hlen := by rw [ic_len]; simp; omega) (h := ?_)
          refine R.assign (h := ?_)
          refine R.assign (h := ?_)
          refine Reg.nil ⟨fun _ => ⟨mixedO, by rfl, by rfl⟩, ?_⟩
          exact LGo.ret (FnPost.mark (by rfl) (FnPost.finI [0, 9] (res_TT Tryz.results205) hA hmd))
  · -- else 1
    rw [if_neg hc] at he
    have e : fldB r x = [x.tag, (x.txt.length : Int) / 256, (x.txt.length : Int) % 256] ++ textI x.txt := by unfold fldB; rw [if_neg hc]
    rw [e, ic_app, ← List.append_assoc, ← bytesC_text]
    refine LGo.seq ?_
    refine LGo.region rfl ?_
    first | refine R.field F149_1 (h := ?_) | refine R.fieldAt F149_1 (h := ?_)
    first | refine R.loadB O41 (h := ?_) | refine R.load1 O41 (h := ?_)
    refine R.bin (run_neq _ _ _ _ _ _) (h := ?_)
    refine Reg.nil ⟨fun h => (by cases h), ?_⟩
    first | refine LGo.ifd (ht := fun hc5 => ?_) (hf := fun hc5 => ?_) | refine LGo.ifb (ht := fun hc5 => ?_) (hf := fun hc5 => ?_)
    · -- then 5
      rw [if_pos hc5] at he; simp at he -- END
    · -- else 5
      rw [if_neg (by rw [hc5]; simp)] at he
      refine LGo.skip ?_
      refine LGo.seq ?_
      refine LGo.seq ?_
      refine LGo.region rfl ?_
      first | refine R.loadA A215 (h := ?_) | refine R.loadN A215 (h := ?_)
      refine R.move (h := ?_)
      refine R.callP (es := [_, _]) (fun _ => within_P _ _) (h := ?_)
      refine R.not (h := ?_)
      refine Reg.nil ⟨fun h => (by cases h), ?_⟩
      first | refine LGo.ifd (ht := fun hc6 => ?_) (hf := fun hc6 => ?_) | refine LGo.ifb (ht := fun hc6 => ?_) (hf := fun hc6 => ?_)
      · -- then 6
        rw [if_pos hc6] at he; simp at he -- END
      · -- else 6
        refine LGo.skip ?_
        refine LGo.seq ?_
        refine LGo.seq ?_
        refine LGo.region rfl ?_
        first | refine R.field F215_1 (h := ?_) | refine R.fieldAt F215_1 (h := ?_)
        first | refine R.loadB O3 (h := ?_) | refine R.load1 O3 (h := ?_)
        refine R.bin (run_eql _ _ _ _ _ _) (h := ?_)
        refine Reg.nil ⟨fun h => (by cases h), ?_⟩
        refine LGo.ifb (ht := fun hc7 => by exact absurd (by simpa using hc7) hc) (hf := fun hc7 => ?_)
        refine LGo.skip ?_
        refine LGo.seq ?_
        refine LGo.region rfl ?_
        refine R.move (h := ?_)
        first | refine R.field F149_0 (h := ?_) | refine R.fieldAt F149_0 (h := ?_)
        first | refine R.loadB O3 (h := ?_) | refine R.load1 O3 (h := ?_)
        first | refine R.convI Tryz.runUnderlying3 Tryz.runUnderlying5 (h := ?_) | refine R.convW Tryz.runUnderlying3 Tryz.runUnderlying5 (h := ?_)
        refine R.move (h := ?_)
        refine R.shr (h := ?_)
        rw [show (x.txt.length : Int) / 2 ^ (min (Int.toNat 8) IntKind.u64.bits) = (x.txt.length : Int) / 256 from rfl]
        first | refine R.convI Tryz.runUnderlying41 Tryz.runUnderlying5 (h := ?_) | refine R.convW Tryz.runUnderlying41 Tryz.runUnderlying5 (h := ?_)
        refine R.move (h := ?_)
        first | refine R.convI Tryz.runUnderlying41 Tryz.runUnderlying5 (h := ?_) | refine R.convW Tryz.runUnderlying41 Tryz.runUnderlying5 (h := ?_)
        rw [wrap_u8m]
        refine R.buildSliceG AP44 (xs := [_, _, _]) (es := [_, _, _]) (hcs := CellsOfs.cons (CellsOf.one rfl) (CellsOfs.cons (CellsOf.one rfl) (CellsOfs.cons (CellsOf.one rfl) CellsOfs.nil))) (h := ?_)
        refine R.appendS AP44 (hs := SrcOk.sl Tryz.underlying44 (by simp)) (hlen := by simp; omega) (h := ?_)
        first | refine R.field F149_2 (h := ?_) | refine R.fieldAt F149_2 (h := ?_)
        first | refine R.loadB O9 (h := ?_) | refine R.load1 O9 (h := ?_)
        refine R.appendS AP44 (hs := SrcOk.strT Tryz.underlying9) (hlen := by rw [bytesC_length]; simp; omega) (h := ?_)
        refine R.assign (h := ?_)
        refine R.assign (h := ?_)
        refine Reg.nil ⟨fun _ => ⟨mixedO, by rfl, by rfl⟩, ?_⟩
        exact LGo.ret (FnPost.finI [0, 4] (res_TT Tryz.results205) hA hmd)
abbrev b0 (b : List UInt8) : UInt8 := (b[0]?).getD 0
abbrev b1 (b : List UInt8) : UInt8 := (b[1]?).getD 0
def fldEq (x y : Fld) : Bool := (decide (x.tag = y.tag) && decide (x.num = y.num)) && decide (x.txt = y.txt)
def sameGo : List Fld → List Fld → Bool
  | x :: a, y :: b => if (!fldEq x y) = true then false else sameGo a b
  | _, _ => true
def same (a b : List Fld) : Bool := if (!decide ((a.length : Int) = b.length)) = true then false else sameGo a b
def FldOk (x : Fld) : Prop := 0 ≤ x.num ∧ x.num < 18446744073709551616 ∧ x.txt.length ≤ 1000
theorem checkGo_ok : ∀ (rs : List Rule) (last : Int), 0 ≤ last → checkGo last rs = 0 → ∀ r ∈ rs, last < r.tag ∧ r.tag ≤ 63 ∧ r.low ≤ r.high ∧ (r.kind = 1 ∨ (r.kind = 2 ∧ r.high ≤ 400))
  | [], last, _, _, r, hr => by simp at hr
  | q :: rs, last, h0, h, r, hr => by
    simp only [checkGo] at h
    split at h
    · cases h
    · rename_i h1
      simp at h1
      split at h
      · rename_i h2
        rcases List.mem_cons.1 hr with rfl | hr
        · exact ⟨by omega, by omega, by omega, .inl h2⟩
        · have := checkGo_ok rs q.tag (by omega) h r hr
          exact ⟨by omega, this.2⟩
      · split at h
        · cases h
        · rename_i h2 h3
          simp at h3
          rcases List.mem_cons.1 hr with rfl | hr
          · exact ⟨by omega, by omega, by omega, .inr ⟨h3.1, by omega⟩⟩
          · have := checkGo_ok rs q.tag (by omega) h r hr
            exact ⟨by omega, this.2⟩
theorem check_ok {rs : List Rule} (h : check rs = 0) : rs.length ≤ 16 ∧ ∀ r ∈ rs, 0 < r.tag ∧ r.tag ≤ 63 ∧ r.low ≤ r.high ∧ (r.kind = 1 ∨ (r.kind = 2 ∧ r.high ≤ 400)) := by
  unfold check at h
  split at h
  · cases h
  · exact ⟨by omega, checkGo_ok rs 0 (by omega) h⟩
theorem ruleAt_mem {t : Int} {rs : List Rule} (h : ruleHas t rs = true) : ruleAt t rs ∈ rs ∧ (ruleAt t rs).tag = t := by
  unfold ruleHas at h
  obtain ⟨r, hr⟩ := Option.isSome_iff_exists.1 h
  have e : ruleAt t rs = r := by simp [ruleAt, hr]
  rw [e]
  exact ⟨List.mem_of_find?_eq_some hr, by simpa using List.find?_some hr⟩
def encF (rs : List Rule) : Int → List Fld → Int × List Int
  | _, [] => (0, [])
  | last, x :: xs => if (!ruleHas x.tag rs || decide (x.tag ≤ last)) = true then (2, []) else if fldE (ruleAt x.tag rs) x = 0 then ((encF rs x.tag xs).1, fldB (ruleAt x.tag rs) x ++ (encF rs x.tag xs).2) else (fldE (ruleAt x.tag rs) x, [])
def lackF (rs : List Rule) (fs : List Fld) : Bool := (needs rs).any fun t => !fldHas t fs
def encode (rs : List Rule) (fs : List Fld) : List Int × Int :=
  if check rs = 0 then (if (16 : Int) < fs.length then ([], 3) else if (encF rs 0 fs).1 = 0 then (if lackF rs fs = true then ([], 4) else ((encF rs 0 fs).2, 0)) else ([], (encF rs 0 fs).1)) else ([], check rs)
theorem fldB_len (r : Rule) (x : Fld) (hx : FldOk x) : (fldB r x).length ≤ 1100 := by
  have h := digs_len x.num hx.1 hx.2.1
  have h2 := hx.2.2
  unfold fldB
  split <;> simp [textI_len] <;> omega
theorem encode_P (rs : List Rule) (fs : List Fld) (hrs : rs.length ≤ 100) (hfs : fs.length ≤ 100) (hok : ∀ x ∈ fs, FldOk x) : PC Tryz.prog 148 [.sv (.sl 5 (rs.map Rule.c)), .sv (.sl 3 (fs.map Fld.c))] (.tup [.sv (.sl 1 (ic .u8 (encode rs fs).1)), .i (encode rs fs).2]) := by
  refine ⟨LC.of_go Tryz.func148 (c := _) rfl (by kernel_rfl) (by rw [Tryz.ntmps148]; simp) rfl rfl (by simp [LO.lt, LV.lts, LV.lt]) (by simp) ?_⟩
  intro B hA hmd
  obtain ⟨g, e0⟩ : ∃ g, encode rs fs = g := ⟨_, rfl⟩
  have e1 := e0
  unfold encode at e1
  rw [e0]
  refine LGo.seq ?_
  refine LGo.region rfl ?_
  refine R.assign (h := ?_)
  refine R.assign (h := ?_)
  refine Reg.nil ⟨fun h => (by cases h), ?_⟩
  refine LGo.seq ?_
  refine LGo.seq ?_
  refine LGo.region rfl ?_
  refine R.move (h := ?_)
  refine R.callP (es := [_]) (fun _ => check_P _) (h := ?_)
  refine R.assign (h := ?_)
  refine Reg.nil ⟨fun h => (by cases h), ?_⟩
  refine LGo.seq ?_
  refine LGo.region rfl ?_
  refine R.move (h := ?_)
  refine R.bin (run_neq _ _ _ _ _ _) (h := ?_)
  refine Reg.nil ⟨fun h => (by cases h), ?_⟩
  refine LGo.ifb (ht := fun hc => ?_) (hf := fun hc => ?_)
  · -- then 1
    rw [if_neg (by simpa using hc)] at e1; rw [← e1]
    refine LGo.seq ?_
    refine LGo.region rfl ?_
    refine R.move (h := ?_)
    refine R.assign (h := ?_)
    refine R.assign (h := ?_)
    refine Reg.nil ⟨fun h => (by cases h), ?_⟩
    first | refine LGo.frzT 4 (h := ?_) | refine LGo.nilSl 4 1 (h := ?_) | skip
    exact LGo.ret (ret_TT Tryz.results148 hA hmd)
  · -- else 1
    rw [if_pos (by simpa using hc)] at e1
    have hck := (check_ok (rs := rs) (by simpa using hc)).2
    refine LGo.skip ?_
    refine LGo.seq ?_
    refine LGo.seq ?_
    refine LGo.region rfl ?_
    refine R.move (h := ?_)
    first | refine R.len S144 (h := ?_) | refine R.lenRs S144 (h := ?_) | refine R.lenV (run_lenNil S144) (h := ?_)
    rw [List.length_map]
    refine R.bin (run_gtr _ _ _ _ _ _) (h := ?_)
    refine Reg.nil ⟨fun h => (by cases h), ?_⟩
    first | refine LGo.ifd (ht := fun hc2 => ?_) (hf := fun hc2 => ?_) | refine LGo.ifb (ht := fun hc2 => ?_) (hf := fun hc2 => ?_)
    · -- then 2
      rw [if_pos hc2] at e1; rw [← e1]
      refine LGo.seq ?_
      refine LGo.region rfl ?_
      refine R.assign (h := ?_)
      refine R.assign (h := ?_)
      refine Reg.nil ⟨fun h => (by cases h), ?_⟩
      first | refine LGo.frzT 4 (h := ?_) | refine LGo.nilSl 4 1 (h := ?_) | skip
      exact LGo.ret (ret_TT Tryz.results148 hA hmd)
    · -- else 2
      rw [if_neg hc2] at e1
      refine LGo.skip ?_
      refine LGo.seq ?_
      refine LGo.region rfl ?_
      refine R.assign (h := ?_)
      refine Reg.nil ⟨fun h => (by cases h), ?_⟩
      refine LGo.seq ?_
      refine LGo.region rfl ?_
      refine R.assign (h := ?_)
      refine Reg.nil ⟨fun h => (by cases h), ?_⟩
      refine LGo.seq ?_
      refine LGo.seq ?_
      refine LGo.region rfl ?_
      refine R.move (h := ?_)
      first | refine R.len S144 (h := ?_) | refine R.lenRs S144 (h := ?_) | refine R.lenV (run_lenNil S144) (h := ?_)
      rw [List.length_map]
      refine R.move (h := ?_)
      refine Reg.nil ⟨fun h => (by cases h), ?_⟩
      refine LGo.block ?_
      refine LGo.loop ?_
      refine LGo.nilRs 7 5 1 (h := ?_)
      refine LGo.loopG (σ := Nat × Int × List Int) (fun x => x.1 ≤ fs.length ∧ x.2.2.length ≤ 1100 * x.1 ∧ encF rs 0 fs = ((encF rs x.2.1 (fs.drop x.1)).1, x.2.2 ++ (encF rs x.2.1 (fs.drop x.1)).2)) (fun x => [(29, (true, .i (x.1 : Nat))), (8, (true, .i x.2.1)), (7, (true, .ref 0))]) (fun x => [(0, .rs 5 1 (ic .u8 x.2.2))]) (fun x => fs.length - x.1) ((0, 0, [])) [(0, _), (1, _), (27, _), (28, _)] ⟨by simp, by simp, by simp⟩ (by repeat (first | exact trivial | refine ⟨rfl, ?_⟩)) (by repeat (first | exact trivial | refine ⟨rfl, ?_⟩)) (by repeat (first | exact trivial | refine ⟨rfl, ?_⟩)) ?_
      rintro ⟨k, last, acc⟩ ⟨hk, hal, hq⟩ ih
      dsimp only at * 
      refine LGo.seq ?_
      refine LGo.region rfl ?_
      refine R.bin (run_lss _ _ _ _ _ _) (h := ?_)
      refine Reg.nil ⟨fun h => (by cases h), ?_⟩
      refine LGo.seq ?_
      refine LGo.ifd (ht := fun hc3 => ?_) (hf := fun hc3 => ?_)
      · -- then 3
        have hlt : k < fs.length := by omega
        have hx : (fs.map Fld.c)[((k : Nat) : Int).toNat]? = some (fs[k].c) := by simp [hlt]
        have hd : fs.drop k = fs[k] :: fs.drop (k + 1) := List.drop_eq_getElem_cons hlt
        rw [hd] at hq
        have hxo := hok fs[k] (List.getElem_mem hlt)
        generalize fs[k] = x at hx hq hxo
        clear hd
        refine LGo.skip ?_
        refine LGo.seq ?_
        refine LGo.block ?_
        refine LGo.seq ?_
        refine LGo.region rfl ?_
        refine R.index I144 (hj := fun hg => ⟨by omega, hx⟩) (h := ?_)
        first | refine R.loadA A149 (h := ?_) | refine R.loadN A149 (h := ?_)
        refine R.alloc Z149 (h := ?_)
        refine R.storeA A149 (h := ?_)
        refine Reg.nil ⟨fun h => (by cases h), ?_⟩
        refine LGo.seq ?_
        refine LGo.region rfl ?_
        refine R.move (h := ?_)
        first | refine R.field F149_0 (h := ?_) | refine R.fieldAt F149_0 (h := ?_)
        first | refine R.loadB O3 (h := ?_) | refine R.load1 O3 (h := ?_)
        refine R.callP (es := [_, _]) (fun _ => rule_pub _ _ (by assumption)) (h := ?_)
        refine R.move (h := ?_)
        refine R.extract (h := ?_)
        refine R.extract (h := ?_)
        refine R.alloc Z215 (h := ?_)
        refine R.storeA A215 (h := ?_)
        refine R.assign (h := ?_)
        refine Reg.nil ⟨fun h => (by cases h), ?_⟩
        refine LGo.seq ?_
        refine LGo.seq ?_
        refine LGo.region rfl ?_
        refine R.move (h := ?_)
        refine R.not (h := ?_)
        refine R.move (h := ?_)
        first | refine R.field F149_0 (h := ?_) | refine R.fieldAt F149_0 (h := ?_)
        first | refine R.loadB O3 (h := ?_) | refine R.load1 O3 (h := ?_)
        refine R.move (h := ?_)
        refine R.bin (run_leq _ _ _ _ _ _) (h := ?_)
        refine R.or (h := ?_)
        refine Reg.nil ⟨fun h => (by cases h), ?_⟩
        first | refine LGo.ifd (ht := fun hc4 => ?_) (hf := fun hc4 => ?_) | refine LGo.ifb (ht := fun hc4 => ?_) (hf := fun hc4 => ?_)
        · -- then 4
          have e2 : encF rs last (x :: fs.drop (k + 1)) = (2, []) := by simp only [encF]; exact if_pos hc4
          rw [hq, e2, if_neg (by simp)] at e1
          rw [← e1]
          refine LGo.seq ?_
          refine LGo.region rfl ?_
          refine R.assign (h := ?_)
          refine R.assign (h := ?_)
          refine Reg.nil ⟨fun h => (by cases h), ?_⟩
          first | refine LGo.frzT 4 (h := ?_) | refine LGo.nilSl 4 1 (h := ?_) | skip
          exact LGo.ret (ret_TT Tryz.results148 hA hmd)
        · -- else 4
          have e2 := encF.eq_2 rs last x (fs.drop (k + 1))
          rw [if_neg (by rw [show (!ruleHas x.tag rs || decide (x.tag ≤ last)) = false from hc4]; simp)] at e2
          have hh4 : ruleHas x.tag rs = true := by simp at hc4; exact hc4.1
          have hm := ruleAt_mem hh4
          have htg := hck _ hm.1
          rw [hm.2] at htg
          have hfl := fldB_len (ruleAt x.tag rs) x hxo
          refine LGo.skip ?_
          refine LGo.seq ?_
          refine LGo.region rfl ?_
          refine R.move (h := ?_)
          first | refine R.loadA A215 (h := ?_) | refine R.loadN A215 (h := ?_)
          first | refine R.loadA A149 (h := ?_) | refine R.loadN A149 (h := ?_)
          by_cases hE : fldE (ruleAt x.tag rs) x = 0
          · -- case ok
            rw [if_pos hE] at e2
            rw [e2] at hq
            refine R.callX (es := [_, _, _]) [0] (put_ok (ic .u8 acc) (ruleAt x.tag rs) x (by rw [ic_len]; omega) (by omega) (by omega) hxo.1 hxo.2.1 hxo.2.2 hE) (h := ?_)
            refine R.move (h := ?_)
            refine R.extract (h := ?_)
            refine R.extract (h := ?_)
            refine R.assign (h := ?_)
            refine R.assign (h := ?_)
            refine Reg.nil ⟨fun h => (by cases h), ?_⟩
            refine LGo.seq ?_
            refine LGo.seq ?_
            refine LGo.region rfl ?_
            refine R.move (h := ?_)
            refine R.bin (run_neq _ _ _ _ _ _) (h := ?_)
            refine Reg.nil ⟨fun h => (by cases h), ?_⟩
            refine LGo.ifb (ht := fun hc5 => by simp at hc5) (hf := fun hc5 => ?_)
            refine LGo.skip ?_
            refine LGo.region rfl ?_
            refine R.move (h := ?_)
            first | refine R.field F149_0 (h := ?_) | refine R.fieldAt F149_0 (h := ?_)
            first | refine R.loadB O3 (h := ?_) | refine R.load1 O3 (h := ?_)
            refine R.assign (h := ?_)
            refine R.assign (h := ?_)
            refine Reg.nil ⟨fun _ => ⟨mixedO, by rfl, by rfl⟩, ?_⟩
            refine LGo.inBlock ?_
            refine LGo.region rfl ?_
            first | refine R.add (h := ?_) | refine R.addW (h := ?_)
            refine R.move (h := ?_)
            refine Reg.nil ⟨fun h => (by cases h), ?_⟩
            refine LGo.inLoop ?_
            exact LGo.turn [3] (b := 0) (fun o h => by have := (hA o).1 h; omega) (ih (k + 1, x.tag, acc ++ fldB (ruleAt x.tag rs) x) ⟨hlt, by simp; omega, by rw [hq]; simp⟩ (by simp; omega)) (by repeat (first | exact trivial | refine ⟨rfl, ?_⟩)) ⟨by rw [ic_app]; rfl, trivial⟩
          · -- case bad
            rw [if_neg hE] at e2
            rw [hq, e2, if_neg hE] at e1
            rw [← e1]
            refine R.callX (es := [_, _, _]) [0] (put_err (ic .u8 acc) (ruleAt x.tag rs) x (by rw [ic_len]; omega) (by omega) (by omega) hxo.1 hxo.2.1 hxo.2.2 _ rfl hE) (h := ?_)
            refine R.move (h := ?_)
            refine R.extract (h := ?_)
            refine R.extract (h := ?_)
            refine R.assign (h := ?_)
            refine R.assign (h := ?_)
            refine Reg.nil ⟨fun h => (by cases h), ?_⟩
            refine LGo.seq ?_
            refine LGo.seq ?_
            refine LGo.region rfl ?_
            refine R.move (h := ?_)
            refine R.bin (run_neq _ _ _ _ _ _) (h := ?_)
            refine Reg.nil ⟨fun h => (by cases h), ?_⟩
            refine LGo.ifb (ht := fun hc6 => ?_) (hf := fun hc6 => by exact absurd (by simpa using hc6) hE)
            refine LGo.seq ?_
            refine LGo.region rfl ?_
            refine R.move (h := ?_)
            refine R.assign (h := ?_)
            refine R.assign (h := ?_)
            refine Reg.nil ⟨fun h => (by cases h), ?_⟩
            first | refine LGo.frzT 4 (h := ?_) | refine LGo.nilSl 4 1 (h := ?_) | skip
            exact LGo.ret (ret_TT Tryz.results148 hA hmd)
      · -- else 3
        have hk' : k = fs.length := by omega
        subst hk'
        rw [List.drop_length] at hq
        simp only [encF, List.append_nil] at hq
        rw [hq, if_pos rfl] at e1
        have hnl := needs_len rs
        refine LGo.exit rfl ?_
        refine LGo.seq ?_
        refine LGo.seq ?_
        refine LGo.region rfl ?_
        refine R.move (h := ?_)
        refine R.callP (es := [_]) (fun _ => needs_P _ (by assumption)) (h := ?_)
        first | refine R.len S65 (h := ?_) | refine R.lenRs S65 (h := ?_) | refine R.lenV (run_lenNil S65) (h := ?_)
        rw [show (tagsC (needs rs)).length = (needs rs).length from by simp [tagsC]]
        refine R.move (h := ?_)
        refine Reg.nil ⟨fun h => (by cases h), ?_⟩
        refine LGo.block ?_
        refine LGo.loop ?_
        refine LGo.loopG (σ := Nat) (fun x => x ≤ (needs rs).length ∧ lackF rs fs = ((needs rs).drop x).any fun t => !fldHas t fs) (fun x => [(65, (true, .i (x : Nat)))]) (fun x => [(0, .rs 5 1 (ic .u8 acc))]) (fun x => (needs rs).length - x) (0) [(1, _), (7, _), (63, _), (64, _)] ⟨by simp, by simp [lackF]⟩ (by repeat (first | exact trivial | refine ⟨rfl, ?_⟩)) (by repeat (first | exact trivial | refine ⟨rfl, ?_⟩)) (by repeat (first | exact trivial | refine ⟨rfl, ?_⟩)) ?_
        rintro j ⟨hj, hq2⟩ ih
        refine LGo.seq ?_
        refine LGo.region rfl ?_
        refine R.bin (run_lss _ _ _ _ _ _) (h := ?_)
        refine Reg.nil ⟨fun h => (by cases h), ?_⟩
        refine LGo.seq ?_
        refine LGo.ifd (ht := fun hc7 => ?_) (hf := fun hc7 => ?_)
        · -- then 7
          have hlt : j < (needs rs).length := by omega
          have hx : (tagsC (needs rs))[((j : Nat) : Int).toNat]? = some [.val (.int .i64 (needs rs)[j])] := by simp [tagsC, hlt]
          rw [List.drop_eq_getElem_cons hlt, List.any_cons] at hq2
          generalize (needs rs)[j] = t at hx hq2
          refine LGo.skip ?_
          refine LGo.seq ?_
          refine LGo.block ?_
          refine LGo.seq ?_
          refine LGo.region rfl ?_
          refine R.index I65 (hj := fun hg => ⟨by omega, hx⟩) (h := ?_)
          first | refine R.loadB O3 (h := ?_) | refine R.load1 O3 (h := ?_)
          refine R.assign (h := ?_)
          refine Reg.nil ⟨fun h => (by cases h), ?_⟩
          refine LGo.seq ?_
          refine LGo.region rfl ?_
          refine R.move (h := ?_)
          refine R.move (h := ?_)
          refine R.callP (es := [_, _]) (fun _ => fld_pub _ _ (by assumption)) (h := ?_)
          refine R.move (h := ?_)
          refine R.extract (h := ?_)
          refine R.extract (h := ?_)
          refine R.alloc Z149 (h := ?_)
          refine R.storeA A149 (h := ?_)
          refine R.assign (h := ?_)
          refine Reg.nil ⟨fun h => (by cases h), ?_⟩
          refine LGo.seq ?_
          refine LGo.region rfl ?_
          refine R.move (h := ?_)
          refine R.not (h := ?_)
          refine Reg.nil ⟨fun h => (by cases h), ?_⟩
          first | refine LGo.ifd (ht := fun hc8 => ?_) (hf := fun hc8 => ?_) | refine LGo.ifb (ht := fun hc8 => ?_) (hf := fun hc8 => ?_)
          · -- then 8
            rw [if_pos (by rw [hq2]; simp at hc8; simp [hc8])] at e1; rw [← e1]
            refine LGo.seq ?_
            refine LGo.region rfl ?_
            refine R.assign (h := ?_)
            refine R.assign (h := ?_)
            refine Reg.nil ⟨fun h => (by cases h), ?_⟩
            first | refine LGo.frzT 4 (h := ?_) | refine LGo.nilSl 4 1 (h := ?_) | skip
            exact LGo.ret (ret_TT Tryz.results148 hA hmd)
          · -- else 8
            rw [show (!fldHas t fs) = false from hc8, Bool.false_or] at hq2
            refine LGo.skip ?_
            refine LGo.inBlock ?_
            refine LGo.region rfl ?_
            first | refine R.add (h := ?_) | refine R.addW (h := ?_)
            refine R.move (h := ?_)
            refine Reg.nil ⟨fun h => (by cases h), ?_⟩
            refine LGo.inLoop ?_
            exact LGo.next _ (fun o h => by have := (hA o).1 h; omega) (by omega) (ih (j + 1) ⟨hlt, hq2⟩ (by omega)) (by repeat (first | exact trivial | refine ⟨rfl, ?_⟩)) (by repeat (first | exact trivial | refine ⟨rfl, ?_⟩))
        · -- else 7
          have hj' : j = (needs rs).length := by omega
          subst hj'
          rw [List.drop_length] at hq2
          rw [if_neg (by rw [hq2]; simp)] at e1
          rw [← e1]
          refine LGo.exit rfl ?_
          refine LGo.seq ?_
          refine LGo.region rfl ?_
          refine R.move (h := ?_)
          refine R.assign (h := ?_)
          refine R.assign (h := ?_)
          refine Reg.nil ⟨fun h => (by cases h), ?_⟩
          first | refine LGo.frzT 4 (h := ?_) | refine LGo.nilSl 4 1 (h := ?_) | skip
          exact LGo.ret (ret_TT Tryz.results148 hA hmd)
end Go.Proofs.YteccglgbkehdeaaGreatDoor
