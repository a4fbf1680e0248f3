/- The ground of the walks: a program logic over told states (no condition). -/
import Derived.Test.YtcobkjognpjikaaGreatDoorKD
import Derived.Lib.SlParts
import Derived.Lib.SlFresh
import Derived.Lib.Strings
import Derived.Laws.MakeOwn
set_option linter.unusedSimpArgs false
set_option linter.unusedVariables false
/- Arrays: a slice of one's own array, copy into it, a slice as an array, an array that is written no more. -/
namespace Go.Proofs.YtcobkjognpjikaaGreatDoor

theorem add_off (b off j : Nat) : (⟨b, off, none⟩ : Addr).add j = ⟨b, off + j, none⟩ := by unfold Addr.add; split <;> simp_all
/-- an array type of n elements of one cell -/
def ArrF (P : Program) (T n : Nat) : Prop := ∃ e, (∀ w, (underlying T).run P w = .ok (.array n e) w) ∧ ∀ w, (sizeOf e).run P w = .ok 1 w

theorem VSR.ones {pr : Nat → Nat} {w : World} {b : Nat} : ∀ {cs : List SV} {off : Nat}, VSR pr w b off 1 (cs.map fun c => [c]) → VSC pr w b off cs
  | [], off, _ => by simp [VSC]
  | c :: cs, off, h => by
    simp only [List.map_cons, VSR, VSC] at h ⊢
    exact ⟨h.2.1.1, VSR.ones h.2.2⟩

section
variable {P : Program} {r : Option Nat} {N : Nat} {D : List Nat} {B : Base} {all : Array Oper} {K : List (Nat × Ct) → St → Prop}
variable {i : Nat} {ops : List Oper} {tr : List (Nat × Ct)} {E : List (Nat × Ent)} {L : List (Nat × LO)} {n : Nat} {g : Bool} {gn : List (Nat × Ent)}
variable {d ty : Nat} {pos : String} {aft : Array Edge} {gd : Option (Nat × Bool)}

end

end Go.Proofs.YtcobkjognpjikaaGreatDoor

/- Nil or not; a box that is written no more; contracts of the library's. -/
namespace Go.Proofs.YtcobkjognpjikaaGreatDoor

theorem VSC.rows {pr : Nat → Nat} {w : World} {b : Nat} : ∀ {cs : List SV} {off : Nat}, VSC pr w b off cs → VSR pr w b off 1 (cs.map fun c => [c])
  | [], off, _ => by simp [VSR]
  | c :: cs, off, h => by
    simp only [List.map_cons, VSR, VSC] at h ⊢
    exact ⟨rfl, ⟨h.1, trivial⟩, VSC.rows h.2⟩

/-- slots that point into the box o hold its cells from now on -/
def frzBV (o : Nat) (ys : List SV) : LV → LV
  | .ptr q off => if q = o ∧ off ≤ ys.length then .sv (.at_ (ys.drop off)) else .ptr q off
  | .sub q off len cap => if q = o ∧ off = 0 ∧ len ≤ ys.length ∧ len ≤ cap ∧ cap ≤ 4294967296 then .sv (.sl 1 ((ys.take len).map fun c => [c])) else .sub q off len cap
  | e => e
def frzBE (o : Nat) (ys : List SV) : List (Nat × Ent) → List (Nat × Ent)
  | [] => []
  | (t, (g, e)) :: l => (t, (g, frzBV o ys e)) :: frzBE o ys l
section
variable {P : Program} {r : Option Nat} {N : Nat} {D : List Nat} {B : Base} {Ψ : Exit → Act → World → Prop} {todo : List Item}
variable {E : List (Nat × Ent)} {L : List (Nat × LO)} {n : Nat}
end

section
variable {P : Program} {r : Option Nat} {N : Nat} {D : List Nat} {B : Base} {all : Array Oper} {K : List (Nat × Ct) → St → Prop}
variable {i : Nat} {ops : List Oper} {tr : List (Nat × Ct)} {E : List (Nat × Ent)} {L : List (Nat × LO)} {n : Nat} {g : Bool} {gn : List (Nat × Ent)}
variable {d ty : Nat} {pos : String} {aft : Array Edge} {gd : Option (Nat × Bool)}

end

end Go.Proofs.YtcobkjognpjikaaGreatDoor

/- Contracts of the library's, as contracts of this logic. -/
namespace Go.Proofs.YtcobkjognpjikaaGreatDoor
open Go.RowKit

/-- a call that leaves all old blocks as they are -/
theorem PC.of_calls {P : Program} {f : FuncId} {lvs : List LV} {out : LV} (hE : Entr P f) (ha : LV.lts 0 lvs = true)
    (h : ∀ (cx : Cx) (w : World) (vs : List Value), (∀ b, 0 < cx.pr b → b < w.heap.size) → Amb cx.pr w → Vs cx w lvs vs →
      Calls P f vs.toArray w fun e w' => ∃ v pr', e = .returned v ∧ Below w.heap.size w w' ∧ (∀ b, b < w.heap.size → pr' b = cx.pr b) ∧ (∀ b, 0 < pr' b → b < w'.heap.size) ∧ V ⟨pr', cx.A, cx.loc, cx.inn⟩ w' out v) : PC P f lvs out := by
  refine ⟨hE, ha, rfl, by simp, by simp, fun cx w vs hA hok ham hv => (h cx w vs hok.lim ham hv).mono ?_⟩
  rintro e w' ⟨v, pr', rfl, hb, h1, h2, h3⟩
  have hext : Ext cx.pr w pr' w' := fun b off ho => by
    have hlt := hok.lim b (by omega)
    exact ⟨by rw [h1 b hlt]; exact ho, by simp only [World.cell?, hb.block b hlt]⟩
  refine ⟨v, ⟨pr', cx.A, cx.loc, cx.inn⟩, rfl, ⟨fun o ho => ⟨ho, rfl⟩, fun o => ?_, ⟨hb.os, hb.tape, hb.output, hb.size, fun b hlt _ => hb.block b hlt, fun b hlt _ => h1 b hlt, hext⟩,
    ⟨fun o x hx => by simp at hx, fun o x b hx => by simp at hx, fun o o' x x' b _ hx => by simp at hx, h2⟩, fun _ _ _ => rfl⟩, h3⟩
  constructor
  · intro h; exact .inl h
  · rintro (h | h)
    · exact h
    · omega

/-- .. and returns a plain value -/
theorem PC.of_val {P : Program} {f : FuncId} {lvs : List LV} {x : Value} (hE : Entr P f) (ha : LV.lts 0 lvs = true)
    (h : ∀ (cx : Cx) (w : World) (vs : List Value), (∀ b, 0 < cx.pr b → b < w.heap.size) → Amb cx.pr w → Vs cx w lvs vs → Calls P f vs.toArray w fun e w' => e = .returned x ∧ Below w.heap.size w w') : PC P f lvs (.v x) := by
  refine PC.of_calls hE ha fun cx w vs hl ham hv => (h cx w vs hl ham hv).mono ?_
  rintro e w' ⟨rfl, hb⟩
  exact ⟨_, cx.pr, rfl, hb, fun _ _ => rfl, fun b hb' => Nat.lt_of_lt_of_le (hl b hb') hb.size, V.mkval⟩

theorem VSR.cells1 {α : Type} {pr : Nat → Nat} {w : World} {b : Nat} (k : α → SV) : ∀ {l : List α} {off : Nat}, VSR pr w b off 1 (l.map fun s => [k s]) → ∀ (j : Nat) (s : α), l[j]? = some s → ∃ v, w.cell? ⟨b, off + j, none⟩ = some v ∧ VS pr w (k s) v
  | [], off, _, j, s, hj => by simp at hj
  | a :: l, off, h, 0, s, hj => by
    simp only [List.map_cons, VSR, VSC] at h
    simp at hj
    subst hj
    obtain ⟨v, h1, _, h2⟩ := h.2.1.1
    exact ⟨v, h1, h2⟩
  | a :: l, off, h, j + 1, s, hj => by
    simp only [List.map_cons, VSR] at h
    have := VSR.cells1 k h.2.2 j s (by simpa using hj)
    rwa [show off + 1 + j = off + (j + 1) from by omega] at this

/-- a slice of strings -/
def strsC (l : List (List UInt8)) : List (List SV) := l.map fun s => [.val (.string ⟨s.toArray⟩)]
/-- a slice of slices of bytes -/
def rowsC (l : List (List UInt8)) : List (List SV) := l.map fun s => [.sl 1 (bytesC s)]
theorem strsC_length (l : List (List UInt8)) : (strsC l).length = l.length := by simp [strsC]
theorem PC.strJoin {P : Program} {f : FuncId} (hE : Entr P f)
    (hj0 : ∀ (a : Option Addr) (c : Nat) (sep : ByteArray) (w : World), Calls P f #[.slice a 0 c, .string sep] w fun e w' => e = .returned (.string ⟨#[]⟩) ∧ w' = w)
    (hj : ∀ (bk o c : Nat) (xs : List ByteArray) (sep : ByteArray) (w : World), (∀ (j : Nat) x, xs[j]? = some x → w.cell? ⟨bk, o + j, none⟩ = some (.string x)) → bk < w.heap.size → xs.length ≤ 140737488355328 → xs.length ≤ c → (Lib.join (xs.map (·.data.toList)) sep.data.toList).length ≤ 140737488355328 →
      Calls P f #[.slice (some ⟨bk, o, none⟩) xs.length c, .string sep] w fun e w' => e = .returned (.string ⟨(Lib.join (xs.map (·.data.toList)) sep.data.toList).toArray⟩) ∧ Below w.heap.size w w')
    (l : List (List UInt8)) (sep : List UInt8) (hn : l.length ≤ 140737488355328) (hlen : (Lib.join l sep).length ≤ 140737488355328) :
    PC P f [.sv (.sl 1 (strsC l)), .t sep] (.t (Lib.join l sep)) := by
  refine PC.of_val hE (by simp [LV.lts, LV.lt]) fun cx w vs hl _ hv => ?_
  obtain ⟨v1, v2, rfl, h1, h2⟩ : ∃ v1 v2, vs = [v1, v2] ∧ V cx w (.sv (.sl 1 (strsC l))) v1 ∧ v2 = .string ⟨sep.toArray⟩ := by
    simp only [Vs] at hv
    obtain ⟨v1, _, rfl, h1, v2, _, rfl, h2, rfl⟩ := hv
    exact ⟨v1, v2, rfl, h1, h2.val⟩
  subst h2
  simp only [V, VS] at h1
  have none_ : ∀ (a : Option Addr) (c : Nat), l = [] → Calls P f #[.slice a 0 c, .string ⟨sep.toArray⟩] w fun e w' => e = .returned (.string ⟨(Lib.join l sep).toArray⟩) ∧ Below w.heap.size w w' := by
    rintro a c rfl
    refine (hj0 a c _ w).mono ?_
    rintro e w' ⟨rfl, rfl⟩
    exact ⟨rfl, Below.refl _ _⟩
  rcases h1 with ⟨rfl | ⟨ad, cap, rfl, _⟩, he⟩ | ⟨b, off, cap, rfl, hle, _, hp, hr⟩
  · exact none_ _ _ (by simpa [strsC] using he)
  · exact none_ _ _ (by simpa [strsC] using he)
  · rw [strsC_length] at hle hp ⊢
    by_cases h0 : l = []
    · have : l.length = 0 := by rw [h0]; rfl
      rw [this]; exact none_ _ _ h0
    · have hpos : 0 < l.length := List.length_pos_iff.2 h0
      have e : (l.map fun s => (⟨s.toArray⟩ : ByteArray)).map (·.data.toList) = l := by simp [List.map_map, Function.comp_def]
      have := hj b off cap (l.map fun s => (⟨s.toArray⟩ : ByteArray)) ⟨sep.toArray⟩ w (fun j x hx => by
        rw [List.getElem?_map] at hx
        cases hs : l[j]? with
        | none => rw [hs] at hx; cases hx
        | some s =>
          rw [hs] at hx; cases hx
          obtain ⟨v, k1, k2⟩ := VSR.cells1 (fun s : List UInt8 => .val (.string ⟨s.toArray⟩)) hr j s hs
          simp only [VS] at k2
          rw [k1, k2]) (hl b (by omega)) (by simpa using hn) (by simpa using hle) (by rw [e]; simpa using hlen)
      rw [e] at this
      simpa using this

end Go.Proofs.YtcobkjognpjikaaGreatDoor

/- Small rules: entries told anew; bits. -/
namespace Go.Proofs.YtcobkjognpjikaaGreatDoor

theorem Entr.of {P : Program} {f : FuncId} {fn : Func} {c : Code} (hf : P.funcs[f]? = some fn) (hb : fn.body = some c) (hname : (fn.name == "runtime.NumGoroutine") = false) : Entr P f := fun us w => by
  simp only [callFunc, Sem.run_bind, Sem.run_pure, Result.andThen_ok]
  have hn' : ¬ fn.name = "runtime.NumGoroutine" := by simpa using hname
  simp [program, Sem.run, hf, hn', hb]
/-- an object is put in the place of another -/
def setL (c : Nat) (x : LO) (L : List (Nat × LO)) : List (Nat × LO) := L.map fun p => if p.1 = c then (c, x) else p
section
variable {P : Program} {r : Option Nat} {N : Nat} {D : List Nat} {B : Base} {Ψ : Exit → Act → World → Prop} {todo : List Item}
variable {E : List (Nat × Ent)} {L : List (Nat × LO)} {n : Nat}
end

end Go.Proofs.YtcobkjognpjikaaGreatDoor

/- A box whose slice is written no more. -/
namespace Go.Proofs.YtcobkjognpjikaaGreatDoor
section
variable {P : Program} {r : Option Nat} {N : Nat} {D : List Nat} {B : Base} {Ψ : Exit → Act → World → Prop} {todo : List Item}
variable {E : List (Nat × Ent)} {L : List (Nat × LO)} {n : Nat}

theorem Vs.setK {cx cx' : Cx} {w w' : World} (hl : CxLe cx cx') (hx : Ext cx.pr w cx'.pr w') {s : SV} {v : Value} : ∀ {cs : List LV} {k : Nat} {vs : List Value}, k < cs.length → Vs cx w (cs.set k (.sv (.val v))) vs → VS cx'.pr w' s v → Vs cx' w' (cs.set k (.sv s)) vs
  | [], k, vs, hk, _, _ => by simp at hk
  | c :: cs, 0, vs, _, h, hv => by
    simp only [List.set_cons_zero, Vs] at h ⊢
    obtain ⟨x, rest, e, h1, h2⟩ := h
    refine ⟨x, rest, e, ?_, Vs.mono hl hx _ _ h2⟩
    have := h1.val
    subst this
    simpa only [V] using hv
  | c :: cs, k + 1, vs, hk, h, hv => by
    simp only [List.set_cons_succ, Vs] at h ⊢
    obtain ⟨x, rest, e, h1, h2⟩ := h
    exact ⟨x, rest, e, V.mono hl hx _ _ h1, Vs.setK hl hx (by simpa using hk) h2 hv⟩

theorem Rel.frzBx (o : Nat) {T k Te sz : Nat} {cs cs' : List LV} {ys : List (List SV)} (hb : hp L o = some (.bx T cs k Te sz ys) := by rfl) (hcs : cs.set k (.sv (.sl sz ys)) = cs' := by rfl)
    {cx : Cx} {a : Act} {w : World} (hr : Rel B N D (st E L n) cx a w) : ∃ cx', Rel B N D (st E ((o, .box T cs') :: delL o L) n) cx' a w := by
  subst hcs
  obtain ⟨hAo, b, vs, v, h1, h2, h3, h4, h5, h5', h5'', h6, us, h7, h8, h9⟩ := hr.heap.ok o _ hb
  let pr' : Nat → Nat := fun c => if some c = bk v then ys.length * sz else cx.pr c
  let c2 : Cx := ⟨pr', cx.A, cx.loc, cx.inn⟩
  have hin : ∀ c, some c = bk v → cx.has o (.bx T cs k Te sz ys) c := fun c hc => .inr ⟨rfl, by rw [h5, ← hc]⟩
  have hpr0 : ∀ c, some c = bk v → cx.pr c = 0 ∧ c < w.heap.size ∧ (B.w.heap.size ≤ c ∨ B.md c) := fun c hbb => hr.heap.own o _ c hb (hin c hbb)
  have hext : Ext cx.pr w pr' w := fun c off hbo => by
    refine ⟨?_, rfl⟩
    show off < (if some c = bk v then _ else _)
    split
    · rename_i hh; have := (hpr0 c hh).1; omega
    · exact hbo
  have hle : CxLe cx c2 := fun q hq => ⟨hq, rfl⟩
  have hsl : VS pr' w (.sl sz ys) v := by
    simp only [VS]
    rcases h7.2 with ⟨e1, e2⟩ | ⟨gb, cap, cur, e1, _, e2, e3, e4, e5, e6⟩
    · left
      exact ⟨.inl e1, List.eq_nil_of_length_eq_zero (by omega)⟩
    · right
      have hbk : some gb = bk v := by rw [e1]; rfl
      refine ⟨gb, 0, cap, e1, by omega, e4, ?_, ?_⟩
      · show 0 + ys.length * sz ≤ (if some gb = bk v then ys.length * sz else _)
        rw [if_pos hbk]; omega
      · refine VSR.of_list e2 ys us 0 h6 h7.1 (fun j hj => ?_) h9 (fun j c u hc hv => ?_)
        · rw [Nat.zero_add, ← e6, List.getElem?_take, if_pos (by rw [← h7.1]; exact hj)]
          simp
        · obtain ⟨v', hv', hV⟩ := h8.get (i := j) (c := .sv c) (by rw [List.getElem?_map, hc]; rfl)
          rw [hv] at hv'; cases hv'
          simp only [V] at hV
          exact VS.mono hext c u hV
  have get : ∀ q x, hp ((o, LO.box T (cs.set k (.sv (.sl sz ys)))) :: delL o L) q = some x → (q = o ∧ x = .box T (cs.set k (.sv (.sl sz ys)))) ∨ (q ≠ o ∧ hp L q = some x) := by
    intro q x hx
    rw [hp_tell] at hx
    unfold tellH at hx
    split at hx
    · rename_i hh; cases hx; exact .inl ⟨hh, rfl⟩
    · rename_i hh; exact .inr ⟨hh, hx⟩
  have hhas : ∀ c, c2.has o (.box T (cs.set k (.sv (.sl sz ys)))) c → cx.has o (.bx T cs k Te sz ys) c ∧ some c ≠ bk v := by
    intro c hc
    rw [Cx.has_of rfl] at hc
    change bk (cx.loc o) = some c at hc
    refine ⟨.inl hc, fun e => ?_⟩
    rw [h1] at hc
    simp only [bk, Option.some.injEq] at hc
    subst hc
    exact h5' e.symm
  refine ⟨c2, ⟨⟨hr.grow.os, hr.grow.tape, hr.grow.output, hr.grow.size, hr.grow.same, fun c hbs hmd => ?_, hr.grow.ext.trans hext⟩, hr.le.trans hle, hr.hA, ⟨fun q x hx => ?_, fun q x c hx hbq => ?_, fun q q' x x' c hne hx hx' hbq => ?_, fun c hbp => ?_⟩, hr.size, fun t e he => ?_, hr.df, hr.dA⟩⟩
  · show (if some c = bk v then _ else cx.pr c) = _
    split
    · rename_i hh
      rcases (hpr0 c hh).2.2 with k1 | k1
      · omega
      · exact absurd k1 hmd
    · exact hr.grow.prs c hbs hmd
  · rcases get q x hx with ⟨rfl, rfl⟩ | ⟨_, hx'⟩
    · exact ⟨hAo, b, vs, h1, h2, Vs.setK hle hext h4 h3 hsl⟩
    · obtain ⟨k1, k2⟩ := hr.heap.ok q x hx'
      exact ⟨k1, ObjOk.mono hle hext k1 (fun _ _ _ => rfl) rfl k2⟩
  · show (if some c = bk v then _ else cx.pr c) = 0 ∧ _
    rcases get q x hx with ⟨rfl, rfl⟩ | ⟨hne, hx'⟩
    · obtain ⟨g1, g2⟩ := hhas c hbq
      rw [if_neg g2]
      exact hr.heap.own _ _ c hb g1
    · obtain ⟨k1, k2, k3⟩ := hr.heap.own q x c hx' hbq
      rw [if_neg (fun hh => hr.heap.inj q o x _ c hne hx' hb hbq (hin c hh))]
      exact ⟨k1, k2, k3⟩
  · rcases get q x hx with ⟨rfl, rfl⟩ | ⟨hne1, hx1⟩
    · rcases get q' x' hx' with ⟨rfl, rfl⟩ | ⟨hne2, hx2⟩
      · exact absurd rfl hne
      · exact hr.heap.inj _ q' _ x' c hne hb hx2 (hhas c hbq).1
    · rcases get q' x' hx' with ⟨rfl, rfl⟩ | ⟨hne2, hx2⟩
      · intro hh
        exact hr.heap.inj q _ x _ c hne hx1 hb hbq (hhas c hh).1
      · exact hr.heap.inj q q' x x' c hne hx1 hx2 hbq
  · change 0 < (if some c = bk v then _ else cx.pr c) at hbp
    split at hbp
    · rename_i hh; exact (hpr0 c hh).2.1
    · exact hr.heap.lim c hbp
  · exact (hr.env t e he).mono hle hext
theorem LGo.frzBx (o : Nat) {T k Te sz : Nat} {cs cs' : List LV} {ys : List (List SV)} (hb : hp L o = some (.bx T cs k Te sz ys) := by rfl) (hcs : cs.set k (.sv (.sl sz ys)) = cs' := by rfl)
    (h : LGo P r N D B Ψ todo (st E ((o, .box T cs') :: delL o L) n)) : LGo P r N D B Ψ todo (st E L n) :=
  LGo.conv (fun cx a w hr => Rel.frzBx o hb hcs hr) h
theorem RelTo.frzBx (o : Nat) {T k Te sz : Nat} {cs cs' : List LV} {ys : List (List SV)} {Q : Act → World → Prop} (hb : hp L o = some (.bx T cs k Te sz ys) := by rfl) (hcs : cs.set k (.sv (.sl sz ys)) = cs' := by rfl)
    (h : ∀ cx a w, Rel B N D (st E ((o, .box T cs') :: delL o L) n) cx a w → Q a w) : ∀ cx a w, Rel B N D (st E L n) cx a w → Q a w := fun cx a w hr => by
  obtain ⟨cx', hr'⟩ := Rel.frzBx o hb hcs hr
  exact h cx' a w hr'
end
theorem strsC_snoc (l : List (List UInt8)) (s : List UInt8) : strsC l ++ [[.val (.string ⟨s.toArray⟩)]] = strsC (l ++ [s]) := by simp [strsC]
end Go.Proofs.YtcobkjognpjikaaGreatDoor

/- Arrays as slices, min and max, slices made, constant bytes. -/
namespace Go.Proofs.YtcobkjognpjikaaGreatDoor

section
variable {P : Program} {r : Option Nat} {N : Nat} {D : List Nat} {B : Base} {all : Array Oper} {K : List (Nat × Ct) → St → Prop}
variable {i : Nat} {ops : List Oper} {tr : List (Nat × Ct)} {E : List (Nat × Ent)} {L : List (Nat × LO)} {n : Nat} {g : Bool} {gn : List (Nat × Ent)}
variable {d ty : Nat} {pos : String} {aft : Array Edge} {gd : Option (Nat × Bool)}

/-- the whole of a closed array, as a slice -/
theorem R.sliceAt {T m : Nat} (hF : ArrF P T m) {x : Operand} {gx : Bool} {cs : List SV}
    (ho : all[i]? = some ⟨some d, .slice T x none none none, ty, pos, aft, gd⟩ := by rfl) (hg : GuardOk (en E) all gd g gn := by first | exact gN | exact gS rfl rfl)
    (hx : lvOf (en E) x = some (gx, .sv (.at_ cs)) := by rfl) (hgx : g = true → gx = true := by first | exact fun _ => rfl | exact id) (hm : cs.length = m := by rfl) (hml : m ≤ 4294967296 := by decide)
    (h : Reg P r N D B all (i + 1) ops ((i, Ct.p gn [x] [(gx, .sv (.at_ cs))] (some d) (g, .sv (.sl 1 (cs.map fun c => [c]))) []) :: tr) (st ((d, (g, .sv (.sl 1 (cs.map fun c => [c])))) :: E) L n) K) :
    Reg P r N D B all i (⟨some d, .slice T x none none none, ty, pos, aft, gd⟩ :: ops) tr (st E L n) K :=
  Reg.one rfl (fun h => by
    rw [entLV_true h hgx]
    refine OpC.of_pure1 (x := x) rfl (by simp) fun md n0 cx H ρ w hok hrd v1 => ?_
    obtain ⟨e, hu, hz⟩ := hF
    simp only [V, VS] at v1
    obtain ⟨b, off, he, hle, hc⟩ := v1
    refine ⟨.slice (some ⟨b, off, none⟩) m m, ?_, ?_⟩
    · have hadd : (⟨b, off, none⟩ : Addr).add 0 = ⟨b, off, none⟩ := rfl
      simp [execOp, he, Instr.sliceAt, hu w, Instr.sureAddr, Instr.sliceBounds, hz w, hadd]
    · simp only [V, VS]
      exact .inr ⟨b, off, m, by simp [hm], by simp [hm], by unfold maxLen; omega, by simp; omega, VSC.rows hc⟩) ho hg hx (by simp) h

theorem Tr.newClosed {md : Nat → Prop} {n0 : Nat} {cx : Cx} {H : Hp} {w : World} (hok : HOk md n0 cx H w) (ob : Obj) (k : Nat) :
    Tr cx w (hp []) ⟨fun b => if b = w.heap.size then k else cx.pr b, cx.A, cx.loc, cx.inn⟩ (w.alloc ob) (hp []) (· ∈ ([] : List Nat)) := by
  have hold : ∀ b, b < w.heap.size → (w.alloc ob).heap[b]? = w.heap[b]? := fun b hb => heap_alloc_old w ob hb
  have hsz : (w.alloc ob).heap.size = w.heap.size + 1 := by simp
  have hprold : ∀ b, b < w.heap.size → (if b = w.heap.size then k else cx.pr b) = cx.pr b := fun b hb => by rw [if_neg (by omega)]
  refine ⟨fun o ho => ⟨ho, rfl⟩, fun o => by simp, ⟨rfl, rfl, rfl, by omega, fun b hb _ => hold b hb, fun b hb _ => hprold b hb, fun b off hb => ?_⟩,
      ⟨fun o x hx => by simp at hx, fun o x b hx => by simp at hx, fun o o' x x' b _ hx => by simp at hx, fun b hb => ?_⟩, fun _ _ _ => rfl⟩
  · have hbs := hok.lim b (by omega)
    refine ⟨by show off < (if b = w.heap.size then k else cx.pr b); rw [hprold b hbs]; exact hb, ?_⟩
    simp only [World.cell?, hold b hbs]
  · have hb' : 0 < (if b = w.heap.size then k else cx.pr b) := hb
    split at hb'
    · omega
    · have := hok.lim b hb'; omega
theorem ic_flat (k : IntKind) : ∀ l : List Int, (ic k l).flatten = l.map fun x => .val (.int k x)
  | [] => rfl
  | a :: l => by have := ic_flat k l; simp only [ic, List.map_cons, List.flatten_cons] at this ⊢; rw [this]; rfl
/-- a slice of zeroes, never written -/
theorem R.makeF {t e m : Nat} {k : IntKind} (hF : AppF P t e 1) (hz : ((P.info? e).bind fun i => i.zero) = some (.int k 0)) {x y : Operand} {k1 k2 : IntKind}
    (ho : all[i]? = some ⟨some d, .makeSlice t x y, ty, pos, aft, none⟩ := by rfl)
    (hx : lvOf (en E) x = some (true, .v (.int k1 (m : Nat))) := by rfl) (hy : lvOf (en E) y = some (true, .v (.int k2 (m : Nat))) := by rfl) (hm : m ≤ 16777216 := by decide)
    (h : Reg P r N D B all (i + 1) ops ((i, Ct.p [] [x, y] [(true, .v (.int k1 (m : Nat))), (true, .v (.int k2 (m : Nat)))] (some d) (true, .sv (.sl 1 (ic k (List.replicate m 0)))) []) :: tr) (st ((d, (true, .sv (.sl 1 (ic k (List.replicate m 0))))) :: E) L n) K) :
    Reg P r N D B all i (⟨some d, .makeSlice t x y, ty, pos, aft, none⟩ :: ops) tr (st E L n) K :=
  Reg.two (e := (true, .v (.int k1 (m : Nat)))) (f := (true, .v (.int k2 (m : Nat)))) rfl (fun _ => OpC.of_run (by simp) (by simp) fun md n0 cx H ρ w hok _ _ _ hv => by
    have hop : (Oper.mk (some d) (.makeSlice t x y) ty pos aft none).op.operands.toList = [x, y] := rfl
    rw [hop] at hv
    obtain ⟨v1, v2⟩ := Vs.two hv
    simp only [entLV] at v1 v2
    obtain ⟨hu, inf, z, hi, hzz, hs, hbb, _⟩ := hF.get
    have hz0 : inf.zero = some (.int k 0) := by rw [hi] at hz; simpa using hz
    have hrun := run_make w t e inf z hu hi hzz k1 k2 m m (by omega) (Int.le_refl _) (by have := Nat.mul_le_mul hbb hm; omega) (by omega)
    rw [hz0] at hzz
    cases hzz
    have hcells : madeCells (Value.int k 0).cells ((m : Int).toNat * inf.size) = (List.replicate m (Value.int k 0)).toArray := by
      rw [hs, Int.toNat_natCast, Nat.mul_one]
      apply Array.ext
      · simp [size_madeCells]
      · intro j h1 h2
        simp [madeCells, Value.cells, Nat.mod_one]
    rw [hcells] at hrun
    refine ⟨.value (.slice (some ⟨w.heap.size, 0, none⟩) m m), _, _, _, ?_, .inl rfl, Tr.newClosed hok (.cells (List.replicate m (Value.int k 0)).toArray e) m, ?_⟩
    · simp only [execOp, v1.val, v2.val, Sem.run_bind, hrun]
      simp
    · simp only [V, VS]
      refine .inr ⟨w.heap.size, 0, m, by simp [ic], by simp [ic], by unfold maxLen; omega, by simp [ic], ?_⟩
      refine VSR.of_list (heap_alloc_new w _) _ (List.replicate m (Value.int k 0)) 0 (fun e he => ?_) (by simp [ic]) (fun j hj => by simp [List.getElem?_replicate, Array.getElem?_replicate]) (fun u hu => ?_) (fun j c v hc hv => ?_)
      · obtain ⟨x, _, rfl⟩ := List.mem_map.1 he; rfl
      · obtain ⟨_, rfl⟩ := List.mem_replicate.1 hu; rfl
      · rw [ic_flat, List.getElem?_map] at hc
        have hj : j < m := by have := (List.getElem?_eq_some_iff.1 hv).1; simpa using this
        simp [hj] at hc hv
        subst hc hv
        simp [VS]) ho gN hx hy (by simp) h

end

end Go.Proofs.YtcobkjognpjikaaGreatDoor

/- A slice that is made and never written again, at once. -/
namespace Go.Proofs.YtcobkjognpjikaaGreatDoor

theorem ObjOk.rs_closed {cx : Cx} {w : World} {n T sz : Nat} {ys : List (List SV)} {pr' : Nat → Nat} (h : ObjOk cx w n (.rs T sz ys)) (hext : Ext cx.pr w pr' w) (hp : ∀ b, bk (cx.loc n) = some b → ys.length * sz ≤ pr' b) : VS pr' w (.sl sz ys) (cx.loc n) := by
  obtain ⟨hsz, vs, hown, hvs, hones⟩ := h
  simp only [VS]
  rcases hown.2 with ⟨e1, e2⟩ | ⟨gb, cap, cur, e1, _, e2, e3, e4, e5, e6⟩
  · exact .inl ⟨.inl e1, List.eq_nil_of_length_eq_zero e2⟩
  · refine .inr ⟨gb, 0, cap, e1, e3, e4, by have := hp gb (by rw [e1]; rfl); omega, ?_⟩
    refine VSR.of_list e2 ys vs 0 (fun e he => ?_) hown.1 (fun j hj => ?_) hones (fun j c u hc hu => ?_)
    · have := hsz e he; simpa using this
    · rw [Nat.zero_add, ← e6, List.getElem?_take, if_pos (by rw [← hown.1]; exact hj)]
      simp
    · obtain ⟨v', hv', hV⟩ := hvs.get (i := j) (c := .sv c) (by rw [List.getElem?_map, hc]; rfl)
      rw [hu] at hv'; cases hv'
      simp only [V] at hV
      exact VS.mono hext c u hV

theorem OpC.shut {P : Program} {r : Option Nat} {o : Oper} {lvs : List LV} {rd Hi : List (Nat × LO)} {n T sz : Nat} {ys : List (List SV)} (h : OpC P r o lvs rd Hi (.ref n) [(n, .rs T sz ys)] [n]) :
    OpC P r o lvs rd Hi (.sv (.sl sz ys)) [] [n] := by
  refine ⟨by simp, fun md n0 cx H a w K Q hok ham hrd hHi hnew hv hK => ?_⟩
  refine h.2 md n0 cx H a w K Q hok ham hrd hHi hnew hv (fun cx' w' v t hv' => ?_)
  simp only [V] at hv'
  obtain ⟨hA, rfl, _⟩ := hv'
  have hob : hp [(n, LO.rs T sz ys)] n = some (.rs T sz ys) := by simp
  have hnb : ∀ b, bk (cx'.loc n) = some b → cx'.pr b = 0 ∧ b < w'.heap.size ∧ (w.heap.size ≤ b ∨ blks cx (hp Hi) b) := fun b hb => t.heap.own n _ b hob (.inl hb)
  let pr' : Nat → Nat := fun b => if bk (cx'.loc n) = some b then ys.length * sz else cx'.pr b
  have hext : Ext cx'.pr w' pr' w' := fun b off hbo => by
    refine ⟨?_, rfl⟩
    show off < (if bk (cx'.loc n) = some b then _ else _)
    split
    · rename_i hh; have := (hnb b hh).1; omega
    · exact hbo
  refine hK ⟨pr', cx'.A, cx'.loc, cx'.inn⟩ w' _ ⟨t.le, t.A, ⟨t.grow.os, t.grow.tape, t.grow.output, t.grow.size, t.grow.same, fun b hlt hn => ?_, t.grow.ext.trans hext⟩,
    ⟨fun q y hy => by simp at hy, fun q y b hy => by simp at hy, fun q q' y y' b _ hy => by simp at hy, fun b hb => ?_⟩, t.inn⟩ ?_
  · show (if bk (cx'.loc n) = some b then _ else cx'.pr b) = _
    rw [if_neg (fun hh => ?_)]
    · exact t.grow.prs b hlt hn
    · rcases (hnb b hh).2.2 with h1 | h1
      · omega
      · exact hn h1
  · have hb' : 0 < (if bk (cx'.loc n) = some b then ys.length * sz else cx'.pr b) := hb
    split at hb'
    · rename_i hh; exact (hnb b hh).2.1
    · exact t.heap.lim b hb'
  · simp only [V]
    exact ObjOk.rs_closed (t.heap.ok n _ hob).2 hext (fun b hb => by show _ ≤ (if bk (cx'.loc n) = some b then _ else _); rw [if_pos hb]; exact Nat.le_refl _)

section
variable {P : Program} {r : Option Nat} {N : Nat} {D : List Nat} {B : Base} {all : Array Oper} {K : List (Nat × Ct) → St → Prop}
variable {i : Nat} {ops : List Oper} {tr : List (Nat × Ct)} {E : List (Nat × Ent)} {L : List (Nat × LO)} {n : Nat} {g : Bool} {gn : List (Nat × Ent)}
variable {d ty : Nat} {pos : String} {aft : Array Edge} {gd : Option (Nat × Bool)}

theorem updL_del (L : List (Nat × LO)) (o : Nat) (x : LO) : updL L [(o, x)] [] = delL o L := by
  simp only [updL, delL, List.nil_append, List.map_cons, List.map_nil]
  congr 1
  funext p
  by_cases hpo : p.1 = o <;> simp [hpo]

/-- what is appended to is written no more -/
theorem R.appendF {t tx e sz : Nat} (hF : AppF P t e sz) {x y : Operand} {o : Nat} {xs ys : List (List SV)} {lv : LV} {rd : List (Nat × LO)}
    (ho : all[i]? = some ⟨some d, .call { callee := .builtin .append, args := #[x, y], argTypes := #[t, tx] }, ty, pos, aft, none⟩ := by rfl)
    (hx : lvOf (en E) x = some (true, .ref o) := by rfl) (hy : lvOf (en E) y = some (true, lv) := by rfl) (hb : hp L o = some (.rs e sz xs) := by rfl)
    (hs : SrcOk P tx sz lv rd (ys.map (List.map LV.sv))) (hrd : ∀ k x, hp rd k = some x → hp L k = some x := by first | exact noHo | exact oneL rfl) (h0 : 0 < sz := by decide) (hlen : (xs.length + ys.length) * sz ≤ 4398046511104)
    (h : Reg P r N D B all (i + 1) ops ((i, ⟨needOf [x, y] [(true, .ref o), (true, lv)], some d, (true, .sv (.sl sz (xs ++ ys))), rd, [(o, .rs e sz xs)], [], [n]⟩) :: tr) (st ((d, (true, .sv (.sl sz (xs ++ ys)))) :: E) (delL o L) (n + 1)) K) :
    Reg P r N D B all i (⟨some d, .call { callee := .builtin .append, args := #[x, y], argTypes := #[t, tx] }, ty, pos, aft, none⟩ :: ops) tr (st E L n) K := by
  refine Reg.gen (m := 1) (es := [(true, .ref o), (true, lv)]) (rd := rd) (Hi := [(o, .rs e sz xs)]) (Ho := []) (out := .sv (.sl sz (xs ++ ys))) ho gN ⟨_, _, rfl, hx, _, _, rfl, hy, rfl⟩ hrd (oneL hb) ?_ ?_
  · refine OpC.shut (T := e) ?_
    refine OpC.of_run (by simp) (by simp) fun md n0 cx H ρ w hok hrd' hHi hnew hv => ?_
    have hop : (Oper.mk (some d) (.call { callee := .builtin .append, args := #[x, y], argTypes := #[t, tx] }) ty pos aft none).op.operands.toList = [x, y] := rfl
    rw [hop] at hv
    obtain ⟨v1, v2⟩ := Vs.two hv
    simp only [entLV] at v1 v2
    obtain ⟨news, hsrc, hnv⟩ := hs.2 md n0 cx H w _ hok hrd' v2
    simp only [V] at v1
    have hob := hHi o (.rs e sz xs) (by simp)
    obtain ⟨v, w', cx', h1, h2, h3⟩ := run_append (o' := n) (xs := xs.map (List.map LV.sv)) (ys := ys.map (List.map LV.sv)) hF h0 (hok.tell hob ObjOk.rs_row) (o := o) (by simp [tellH]) (hnew n (by simp)) hsrc hs.1 hnv (by simpa using hlen) ty
    refine ⟨_, v, w', cx', ?_, .inl rfl, h2.tell (fun hx => ObjOk.row_rs (by simpa using hx)), h3⟩
    have hx' : ρ x = cx.loc o := v1.2.1
    simp [execOp, resolve, invoke, builtin, hx', h1]
  · have e1 : st (putL (some d) (true, .sv (.sl sz (xs ++ ys))) E) (updL L [(o, .rs e sz xs)] []) (n + 1) = st ((d, (true, .sv (.sl sz (xs ++ ys)))) :: E) (delL o L) (n + 1) := by
      simp only [st, updL_del, putL]
    rw [e1]; exact h
end

end Go.Proofs.YtcobkjognpjikaaGreatDoor
