/- A place where ways meet, told by the slots that turn. -/
import Derived.Test.YtmiamhegohlglaaC24
set_option linter.unusedSimpArgs false
set_option linter.unusedVariables false
namespace Go.Proofs.Ytmiamhegohlglaa
section
variable {P : Program} {r : Option Nat} {N : Nat} {D : List Nat} {B : Base} {Ψ : Exit → Act → World → Prop} {todo : List Item}
variable {E : List (Nat × Ent)} {L : List (Nat × LO)} {n : Nat}
theorem LGo.cut {σ : Type} (Q : σ → Prop) (EE : σ → List (Nat × Ent)) (LL : σ → List (Nat × LO)) (m : Nat) (Er : List (Nat × Ent)) {x : Item} (hEr : KeepE (en E) Er)
    (hr : ∀ a, Q a → LGo P r N D B Ψ todo (st (EE a ++ Er) (LL a) m)) (h : (∀ a, Q a → LGo P r N D B Ψ todo (st (EE a ++ Er) (LL a) m)) → LGo P r N D B Ψ (x :: todo) (st E L n)) : LGo P r N D B Ψ (x :: todo) (st E L n) := h hr
end
end Go.Proofs.Ytmiamhegohlglaa
