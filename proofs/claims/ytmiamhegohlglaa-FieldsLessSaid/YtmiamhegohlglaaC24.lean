/- Ranges over functions: rounds in a row. -/
import Derived.Test.YtmiamhegohlglaaC23
set_option linter.unusedSimpArgs false
set_option linter.unusedVariables false
namespace Go.Proofs.Ytmiamhegohlglaa

/-- rounds in a row, none of which stops: S j: the objects before round j -/
theorem YRun.fold {P : Program} {y : Nat} {C : List (Nat × LO) → Prop} : ∀ (xs : List (List LV)) (S : Nat → List (Nat × LO)), (∀ j, j ≤ xs.length → C (S j)) →
    (∀ j (h : j < xs.length), Yld P y xs[j] (S j) true (S (j + 1))) → YRun P y C xs (S 0) (S xs.length)
  | [], S, hC, _ => .nil (hC 0 (by simp))
  | x :: xs, S, hC, hy => by
    refine .go (hC 0 (by simp)) (hy 0 (by simp)) ?_
    exact YRun.fold xs (fun j => S (j + 1)) (fun j hj => hC (j + 1) (by simpa using hj)) (fun j hj => hy (j + 1) (by simpa using hj))
/-- rounds in a row; round k stops -/
theorem YRun.foldTo {P : Program} {y : Nat} {C : List (Nat × LO) → Prop} : ∀ (xs : List (List LV)) (k : Nat) (S : Nat → List (Nat × LO)) (hk : k < xs.length), (∀ j, j ≤ k + 1 → C (S j)) →
    (∀ j (h : j < k), Yld P y (xs[j]'(by omega)) (S j) true (S (j + 1))) → Yld P y xs[k] (S k) false (S (k + 1)) → YRun P y C xs (S 0) (S (k + 1))
  | [], k, S, hk, _, _, _ => by simp at hk
  | x :: xs, 0, S, hk, hC, hy, hs => .stop (hC 0 (by omega)) hs (hC 1 (by omega))
  | x :: xs, k + 1, S, hk, hC, hy, hs => by
    refine .go (hC 0 (by omega)) (hy 0 (by omega)) ?_
    exact YRun.foldTo xs k (fun j => S (j + 1)) (by simpa using hk) (fun j hj => hC (j + 1) (by omega)) (fun j hj => hy (j + 1) (by omega)) hs

section
variable {P : Program} {N : Nat} {D : List Nat} {B : Base} {Ψ : Exit → Act → World → Prop} {todo : List Item}
variable {E : List (Nat × Ent)} {L : List (Nat × LO)} {n : Nat}

/-- a range over a function that comes to its end -/
theorem LGo.rangeN {f : Operand} {ps : Array Tmp} {assign body : Code} {gf : Nat} {cap : List LV} (L' : FuncId → Code → Code → List (Nat × LO))
    (hit : ∀ fn ac bc, assign = ac → body = bc → LC P gf (n + 2) (.yld (n + 1) :: cap) (L ++ [(n, .raw (.deferred (some []))), (n + 1, .loop fn N E ps ac bc .ready none)]) (.tup []) (L' fn ac bc) 0)
    (h : ∀ fn, LGo P none N (n :: D) B Ψ todo (st E ((n + 1, .loop fn N E ps assign body .exhausted none) :: L' fn assign body) (n + 2)))
    (hend : ∀ fn, hp (L' fn assign body) (n + 1) = some (.loop fn N E ps assign body .ready none) := by exact fun _ => rfl)
    (hf : lvOf (en E) f = some (true, .fn (.func gf) [] cap) := by rfl) (hL : L.map (·.1) = List.range n := by rfl) :
    LGo P none N D B Ψ (.code (.rangeFunc f ps assign body) :: todo) (st E L n) :=
  LGo.rangeFunc (L' := fun fn => L' fn assign body) (s' := .ready) (pd := none) hf hL (by simp) (fun fn => hit fn _ _ rfl rfl) hend (fun fn => h fn)
/-- a range over a function in which a round returns -/
theorem LGo.rangeR {f : Operand} {ps : Array Tmp} {assign body : Code} {gf : Nat} {cap : List LV} (L' : FuncId → Code → Code → List (Nat × LO))
    (hit : ∀ fn ac bc, assign = ac → body = bc → LC P gf (n + 2) (.yld (n + 1) :: cap) (L ++ [(n, .raw (.deferred (some []))), (n + 1, .loop fn N E ps ac bc .ready none)]) (.tup []) (L' fn ac bc) 0)
    (h : ∀ fn, ∀ cx a w, Rel B N (n :: D) (st E ((n + 1, .loop fn N E ps assign body .exhausted (some .ret)) :: L' fn assign body) (n + 2)) cx a w → Ψ .ret a w)
    (hend : ∀ fn, hp (L' fn assign body) (n + 1) = some (.loop fn N E ps assign body .done (some .ret)) := by exact fun _ => rfl)
    (hf : lvOf (en E) f = some (true, .fn (.func gf) [] cap) := by rfl) (hL : L.map (·.1) = List.range n := by rfl) :
    LGo P none N D B Ψ (.code (.rangeFunc f ps assign body) :: todo) (st E L n) :=
  LGo.rangeFunc (L' := fun fn => L' fn assign body) (s' := .done) (pd := some .ret) hf hL (by simp) (fun fn => hit fn _ _ rfl rfl) hend (fun fn => h fn)
/-- a range over a function that a round breaks off -/
theorem LGo.rangeX {f : Operand} {ps : Array Tmp} {assign body : Code} {gf : Nat} {cap : List LV} {id : Nat} {k' : List Item} (L' : FuncId → Code → Code → List (Nat × LO))
    (hit : ∀ fn ac bc, assign = ac → body = bc → LC P gf (n + 2) (.yld (n + 1) :: cap) (L ++ [(n, .raw (.deferred (some []))), (n + 1, .loop fn N E ps ac bc .ready none)]) (.tup []) (L' fn ac bc) 0)
    (hk : exitTo id todo = some k')
    (h : ∀ fn, LGo P none N (n :: D) B Ψ k' (st E ((n + 1, .loop fn N E ps assign body .exhausted (some (.exit id))) :: L' fn assign body) (n + 2)))
    (hend : ∀ fn, hp (L' fn assign body) (n + 1) = some (.loop fn N E ps assign body .done (some (.exit id))) := by exact fun _ => rfl)
    (hf : lvOf (en E) f = some (true, .fn (.func gf) [] cap) := by rfl) (hL : L.map (·.1) = List.range n := by rfl) :
    LGo P none N D B Ψ (.code (.rangeFunc f ps assign body) :: todo) (st E L n) :=
  LGo.rangeFunc (L' := fun fn => L' fn assign body) (s' := .done) (pd := some (.exit id)) hf hL (by simp) (fun fn => hit fn _ _ rfl rfl) hend (fun fn => ⟨k', hk, h fn⟩)

/-- one round, walked -/
theorem Yld.walk (m : Nat) (E1 : List (Nat × Ent)) {y fn : Nat} {lvs : List LV} {L1 : List (Nat × LO)} {b : Bool} {ps : Array Tmp} {assign body : Code}
    (hm : L.length = m := by rfl) (hL : L.map (·.1) = List.range m := by rfl) (hlt : (L.all fun p => p.2.lt m) = true := by first | rfl | simp [LO.lt, LV.lts, LV.lt, lts_sv]) (hargs : LV.lts m lvs = true := by rfl) (hy : hp L y = some (.loop fn N E ps assign body .ready none) := by rfl)
    (hps : ps.size = lvs.length := by rfl) (hpN : ∀ p ∈ ps.toList, p < N) (hos : L1.map (·.1) = L.map (·.1) := by rfl)
    (hA : ∀ (l : Nat) (B : Base), (∀ o, B.cx.A o ↔ o < m) → B.md = blks B.cx (hp L) → LGo P (some l) N [] B (AssignEnd B N (st E1 L m)) [.code assign] (st (psE ps.toList lvs E) L m))
    (hB : ∀ (l : Nat) (B : Base), (∀ o, B.cx.A o ↔ o < m) → B.md = blks B.cx (hp L) →
      LGo P (some l) N [] B (RoundEnd B N L1 m y fn E ps assign body b) [.code body] (st E1 ((y, .loop fn N E ps assign body .busy none) :: L) m)) :
    Yld P y lvs L b L1 := by
  subst hm
  exact Yld.of_go hL (fun p hp' => List.all_eq_true.1 hlt p hp') hargs hy hps hpN hos hA hB

/-- the end of a round that goes on -/
theorem RoundEnd.go {L1 : List (Nat × LO)} {m y fn : Nat} {E2 : List (Nat × Ent)} {Le : List (Nat × LO)} {ps : Array Tmp} {assign body : Code}
    (hy : hp Le y = some (.loop fn N E ps assign body .busy none) := by rfl) (hL : ∀ o x, hp L1 o = some x → o ≠ y → hp Le o = some x) (h1 : hp L1 y = some (.loop fn N E ps assign body .ready none) := by rfl) :
    ∀ cx a w, Rel B N [] (st E2 Le m) cx a w → RoundEnd B N L1 m y fn E ps assign body true .normal a w :=
  fun cx a w hr => ⟨cx, Le, E2, hr, hy, hL, rfl, h1⟩
theorem RoundEnd.ret {L1 : List (Nat × LO)} {m y fn : Nat} {E2 : List (Nat × Ent)} {Le : List (Nat × LO)} {ps : Array Tmp} {assign body : Code}
    (hy : hp Le y = some (.loop fn N E ps assign body .busy none) := by rfl) (hL : ∀ o x, hp L1 o = some x → o ≠ y → hp Le o = some x) (h1 : hp L1 y = some (.loop fn N E ps assign body .done (some .ret)) := by rfl) :
    ∀ cx a w, Rel B N [] (st E2 Le m) cx a w → RoundEnd B N L1 m y fn E ps assign body false .ret a w :=
  fun cx a w hr => ⟨cx, Le, E2, hr, hy, hL, rfl, h1⟩
theorem RoundEnd.exit {L1 : List (Nat × LO)} {m y fn id : Nat} {E2 : List (Nat × Ent)} {Le : List (Nat × LO)} {ps : Array Tmp} {assign body : Code}
    (hy : hp Le y = some (.loop fn N E ps assign body .busy none) := by rfl) (hL : ∀ o x, hp L1 o = some x → o ≠ y → hp Le o = some x) (h1 : hp L1 y = some (.loop fn N E ps assign body .done (some (.exit id))) := by rfl) :
    ∀ cx a w, Rel B N [] (st E2 Le m) cx a w → RoundEnd B N L1 m y fn E ps assign body false (.exit id) a w :=
  fun cx a w hr => ⟨cx, Le, E2, hr, hy, hL, rfl, h1⟩
end

end Go.Proofs.Ytmiamhegohlglaa
