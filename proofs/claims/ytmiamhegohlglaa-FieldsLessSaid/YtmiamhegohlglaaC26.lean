/- An operation that is not carried out. -/
import Derived.Test.YtmiamhegohlglaaC25
set_option linter.unusedSimpArgs false
set_option linter.unusedVariables false
namespace Go.Proofs.Ytmiamhegohlglaa
theorem entLV_eq {g : Bool} (h : g = true) (lv : LV) : entLV (g, lv) = lv := by rw [h]; rfl
section
variable {P : Program} {r : Option Nat} {N : Nat} {D : List Nat} {B : Base} {all : Array Oper} {K : List (Nat × Ct) → St → Prop}
variable {i : Nat} {ops : List Oper} {tr : List (Nat × Ct)} {E : List (Nat × Ent)} {L : List (Nat × LO)} {n : Nat} {g : Bool} {gn : List (Nat × Ent)}
variable {d ty : Nat} {pos : String} {aft : Array Edge} {gd : Option (Nat × Bool)}
theorem R.skip {op : Op} {xs : List Operand} {es : List Ent} (out : LV)
    (ho : all[i]? = some ⟨some d, op, ty, pos, aft, gd⟩ := by rfl) (hg : GuardOk (en E) all gd g gn := by first | exact gN | exact gS rfl rfl)
    (hops : op.operands.toList = xs := by rfl) (hx : xs.map (lvOf (en E)) = es.map some := by rfl) (hgf : g = false := by first | rfl | (simp; done) | simp_all)
    (h : Reg P r N D B all (i + 1) ops ((i, Ct.p gn xs es (some d) (g, out) []) :: tr) (st ((d, (g, out)) :: E) L n) K) :
    Reg P r N D B all i (⟨some d, op, ty, pos, aft, gd⟩ :: ops) tr (st E L n) K := by
  have hl : (Oper.mk (some d) op ty pos aft gd).op.operands.toList = xs := hops
  refine Reg.pure (es := es) (rd := []) (out := out) ho hg (by rw [hl]; exact Opnds.of_map hx) (by simp) (fun hgt => ?_) (by rw [hl]; exact h)
  rw [hgf] at hgt; cases hgt
end
end Go.Proofs.Ytmiamhegohlglaa
