/- Slices of closed elements, as they are made. -/
import Derived.Test.YtmiamhegohlglaaC21
set_option linter.unusedSimpArgs false
set_option linter.unusedVariables false
namespace Go.Proofs.Ytmiamhegohlglaa

theorem OpC.tellNew {P : Program} {r : Option Nat} {o : Oper} {lvs : List LV} {rd : List (Nat × LO)} {out : LV} {n : Nat} {x y : LO} (h : OpC P r o lvs rd [] out [(n, x)] [n]) (hy : ∀ cx w, ObjOk cx w n x → ObjOk cx w n y) (hxy : y.isBx = x.isBx := by rfl) :
    OpC P r o lvs rd [] out [(n, y)] [n] := by
  refine ⟨fun p hp' => by simp at hp'; subst hp'; exact .inr (by simp), fun md n0 cx H a w K Q hok hrd hHi hnew hv hK => ?_⟩
  refine h.2 md n0 cx H a w K Q hok hrd hHi hnew hv (fun cx' w' v t hv' => hK cx' w' v ⟨t.le, t.A, t.grow, ?_, t.inn⟩ hv')
  have h2 := t.heap.tell (o := n) (by simp) (hy cx' w') hxy
  rw [tellH_hp] at h2
  exact h2

section
variable {P : Program} {r : Option Nat} {N : Nat} {D : List Nat} {B : Base} {Ψ : Exit → Act → World → Prop} {todo : List Item}
variable {E : List (Nat × Ent)} {L : List (Nat × LO)} {n : Nat}
/-- the slice in a slot is written no more -/
theorem LGo.frzT (t : Nat) {o T sz : Nat} {ys : List (List SV)} (ht : en E t = some (true, .ref o) := by rfl) (hb : hp L o = some (.rs T sz ys) := by rfl)
    (h : LGo P r N D B Ψ todo (st (frzE o (.sl sz ys) E) (delL o L) n)) : LGo P r N D B Ψ todo (st E L n) := LGo.frz o hb h
end

section
variable {P : Program} {r : Option Nat} {N : Nat} {D : List Nat} {B : Base} {all : Array Oper} {K : List (Nat × Ct) → St → Prop}
variable {i : Nat} {ops : List Oper} {tr : List (Nat × Ct)} {E : List (Nat × Ent)} {L : List (Nat × LO)} {n : Nat} {g : Bool} {gn : List (Nat × Ent)}
variable {d ty : Nat} {pos : String} {aft : Array Edge} {gd : Option (Nat × Bool)}

/-- a slice out of its elements, of one's own -/
theorem R.buildSliceR {t e sz : Nat} (hF : AppF P t e sz) {len : Nat} {parts : Array (Nat × Operand)} {xs : List Operand} {es : List Ent} {cs : List (List LV)} {ys : List (List SV)}
    (ho : all[i]? = some ⟨some d, .buildSlice t len parts, ty, pos, aft, none⟩ := by rfl) (hp' : parts.toList = xs.zipIdx.map (fun p => (p.2, p.1)) := by rfl)
    (hx : xs.map (lvOf (en E)) = es.map some := by rfl) (hcs : CellsOfs (es.map entLV) cs) (hys : cs.map (List.map unSv) = ys := by simp only [List.map_cons, List.map_nil, entLV, unSv]; rfl)
    (hsz : (cs.all fun c => c.length == sz) = true := by rfl) (hlen : cs.length = len := by rfl) (hy : cs = ys.map (List.map LV.sv) := by rfl)
    (hsm : len * sz ≤ 16777216 := by first | decide | omega) (hlm : len ≤ 16777216 := by first | decide | omega)
    (h : Reg P r N D B all (i + 1) ops ((i, ⟨needOf xs es, some d, (true, .ref n), [], [], [(n, .rs e sz ys)], [n]⟩) :: tr) (st ((d, (true, .ref n)) :: E) ((n, .rs e sz ys) :: L) (n + 1)) K) :
    Reg P r N D B all i (⟨some d, .buildSlice t len parts, ty, pos, aft, none⟩ :: ops) tr (st E L n) K := by
  have hl : (Oper.mk (some d) (.buildSlice t len parts) ty pos aft none).op.operands.toList = xs := by
    show (parts.toList.map (·.2)).toArray.toList = xs
    rw [hp']
    simp only [List.map_map, List.toList_toArray]
    have : ((fun (x : Nat × Operand) => x.2) ∘ fun (p : Operand × Nat) => (p.2, p.1)) = Prod.fst := rfl
    rw [this]; simp
  exact Reg.new (es := es) (rd := []) ho gN (by rw [hl]; exact Opnds.of_map hx) (by simp)
    (OpC.tellNew (OpC.buildSlice hF rfl (by simp) hp' hcs hsz hlen hsm hlm n) (fun cx w hx => ObjOk.row_rs (by rw [← hy]; exact hx))) (by rw [hl]; exact h)

end

end Go.Proofs.Ytmiamhegohlglaa
