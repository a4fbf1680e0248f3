/- A contract at other readings of its arguments; the nil slice as an argument. -/
import Derived.Test.YtmiamhegohlglaaC30
import Derived.Laws.Small
set_option linter.unusedSimpArgs false
set_option linter.unusedVariables false
namespace Go.Proofs.Ytmiamhegohlglaa

theorem PC.args {P : Program} {f : FuncId} {lvs lvs' : List LV} {out : LV} (h : PC P f lvs out) (hl : LV.lts 0 lvs' = true) (hv : ∀ cx w vs, Vs cx w lvs' vs → Vs cx w lvs vs) : PC P f lvs' out :=
  ⟨⟨h.lc.entr, hl, h.lc.rng, h.lc.hlt, h.lc.hos, fun cx w vs hA hH hvs => h.lc.go cx w vs hA hH (hv cx w vs hvs)⟩⟩
theorem V_nilSl {cx : Cx} {w : World} {v : Value} (sz : Nat) (h : V cx w (.v (.slice none 0 0)) v) : V cx w (.sv (.sl sz [])) v := by
  simp only [V, VS] at h ⊢
  exact .inl ⟨.inl h, trivial⟩
theorem PC.nil1 {P : Program} {f : FuncId} {a : LV} {out : LV} {sz : Nat} (h : PC P f [a, .sv (.sl sz [])] out) (ha : a.lt 0 = true := by rfl) : PC P f [a, .v (.slice none 0 0)] out :=
  h.args (by simp [LV.lts, ha, LV.lt]) fun cx w vs hv => by
    simp only [Vs] at hv ⊢
    obtain ⟨v1, r1, rfl, h1, v2, r2, rfl, h2, h3⟩ := hv
    exact ⟨v1, _, rfl, h1, v2, _, rfl, V_nilSl sz h2, h3⟩
theorem PC.nil0 {P : Program} {f : FuncId} {b : LV} {out : LV} {sz : Nat} (h : PC P f [.sv (.sl sz []), b] out) (hb : b.lt 0 = true := by rfl) : PC P f [.v (.slice none 0 0), b] out :=
  h.args (by simp [LV.lts, hb, LV.lt]) fun cx w vs hv => by
    simp only [Vs] at hv ⊢
    obtain ⟨v1, r1, rfl, h1, v2, r2, rfl, h2, h3⟩ := hv
    exact ⟨v1, _, rfl, V_nilSl sz h1, v2, _, rfl, h2, h3⟩

section
variable {P : Program} {r : Option Nat} {N : Nat} {D : List Nat} {B : Base} {Ψ : Exit → Act → World → Prop} {todo : List Item}
variable {E : List (Nat × Ent)} {L : List (Nat × LO)} {n : Nat}
/-- an entry that is true -/
theorem LGo.tru (t : Nat) {g b : Bool} (ht : en E t = some (g, .b b) := by rfl) (hb : b = true := by simp) (h : LGo P r N D B Ψ todo (st ((t, (g, .b true)) :: E) L n)) : LGo P r N D B Ψ todo (st E L n) := by
  subst hb
  exact LGo.re t _ ht (fun _ _ _ hv => hv) h
theorem run_eqlB {t : Nat} (ht : P.underlying t = some .bool) (x y : Operand) (a b : Bool) : ∀ w, (do eqGuard .eql t x y (.bool a) (.bool b); binOp .eql t (.bool a) (.bool b) : Sem Value).run P w = .ok (.bool (decide (a = b))) w := by
  intro w
  have := run_equal_bool (P := P) w t a b ht
  cases a <;> cases b <;> simp_all [eqGuard, binOp]
theorem run_neqB {t : Nat} (ht : P.underlying t = some .bool) (x y : Operand) (a b : Bool) : ∀ w, (do eqGuard .neq t x y (.bool a) (.bool b); binOp .neq t (.bool a) (.bool b) : Sem Value).run P w = .ok (.bool (!decide (a = b))) w := by
  intro w
  have := run_equal_bool (P := P) w t a b ht
  cases a <;> cases b <;> simp_all [eqGuard, binOp]
end

end Go.Proofs.Ytmiamhegohlglaa
