/- gates: a door: what has entered, by keys; why a call is refused. -/
import Derived.Test.YtgcjjndhohellaaDoorGJ
set_option linter.unusedSimpArgs false
set_option linter.unusedVariables false
namespace Go.Proofs.YtgcjjndhohellaaDoor

def encK (k : K3) : Value := .agg (K3.v k).toArray
section
open Instr
theorem keyEq (a b : K3) (w : World) : (Op.equal 69 (encK a) (encK b)).run Tryd.prog w = .ok (decide (a = b)) w := by
  obtain ⟨a1, a2, a3⟩ := a
  obtain ⟨b1, b2, b3⟩ := b
  have h1 : ∀ d x y, (Op.equalIn (d + 1) 27 (.int .u64 x) (.int .u64 y)).run Tryd.prog w = .ok (x == y) w := fun d x y => by simp [Op.equalIn, run_underlying Tryd.underlying27]
  have h : ∀ d, (Op.equalIn (d + 2) 69 (encK (a1, a2, a3)) (encK (b1, b2, b3))).run Tryd.prog w = .ok (decide ((a1, a2, a3) = (b1, b2, b3))) w := fun d => by
    unfold encK K3.v
    rw [Op.equalIn]
    simp [run_underlying Tryd.underlying69, Tryd.sizeOf27, Sem.run_bind, part, Tryd.isAgg27, asAgg, h1, show List.range' 0 3 = [0, 1, 2] from rfl]
    by_cases e1 : a1 = b1 <;> by_cases e2 : a2 = b2 <;> by_cases e3 : a3 = b3 <;> simp [e1, e2, e3, Sem.run_bind, h1, part, Tryd.isAgg27, Result.andThen]
  exact h 9998
theorem keyChk (e : Bool) (a : K3) (w : World) : (checkKey e 10000 69 (encK a)).run Tryd.prog w = .ok () w := by
  have h1 : ∀ d x, (checkKey e (d + 1) 27 (.int .u64 x)).run Tryd.prog w = .ok () w := fun d x => by simp [checkKey, run_underlying Tryd.underlying27]
  have h : ∀ d, (checkKey e (d + 2) 69 (encK a)).run Tryd.prog w = .ok () w := fun d => by
    unfold encK K3.v
    rw [checkKey]
    simp [run_underlying Tryd.underlying69, Tryd.sizeOf27, Sem.run_bind, part, Tryd.isAgg27, asAgg, h1, show List.range' 0 3 = [0, 1, 2] from rfl, Result.andThen]
  exact h 9998
theorem keyF : KeyF Tryd.prog 69 encK := KeyF.deep Tryd.underlying69 (fun _ _ => rfl) keyEq keyChk (fun a => by
  have h : ∀ d, sameBits (d + 2) (encK a) (encK a) = true := fun d => by simp [encK, K3.v, sameBits]
  exact h 9998)
end
/-- what is kept of entries, by their keys -/
def seenGo : Nat → List GtE → List (K3 × Value) → List (K3 × Value)
  | _, [], m => m
  | i, x :: r, m => seenGo (i + 1) r (putM x.key (.int .i64 i) m)
theorem getM_put (a b : K3) (v : Value) : ∀ m : List (K3 × Value), (getM a (putM b v m)).isSome = (decide (b = a) || (getM a m).isSome)
  | [] => by
    by_cases h : a = b
    · subst h; simp [putM, getM]
    · have h' : ¬ b = a := fun e => h e.symm
      simp [putM, getM, h, h']
  | (k, u) :: m => by
    have ih := getM_put a b v m
    by_cases hb : b = k
    · subst hb
      by_cases h : a = b
      · subst h; simp [putM, getM]
      · have h' : ¬ b = a := fun e => h e.symm
        simp [putM, getM, h, h']
    · by_cases h : a = k
      · subst h; simp [putM, getM, hb]
      · simp [putM, getM, hb, h, ih]
theorem seen_has (k : K3) : ∀ (l : List GtE) (i : Nat) (m : List (K3 × Value)), (getM k (seenGo i l m)).isSome = (hasK k l || (getM k m).isSome)
  | [], i, m => by simp [seenGo, hasK]
  | x :: l, i, m => by
    rw [seenGo, seen_has k l, getM_put]
    unfold hasK
    rw [List.any_cons]
    cases decide (x.key = k) <;> simp

theorem opened_L (s : GtS) (hs : SmS s) : LC Tryd.prog 30 0 [.agg (s.c.map LV.sv)] [] (.ptr 0 0) [(0, .bx 93 [.sv (.sl 3 (s.gates.map GtG.c)), .v undef, .ref 1] 1 40 5 (s.ents.map GtE.c)), (1, .raw (mapOb encK (seenGo 0 s.ents [])))] 2 := by
 refine LC.of_go Tryd.func30 (c := _) rfl (by kernel_rfl) (by rw [Tryd.ntmps30]; simp) rfl rfl (by simp [LO.lt, LV.lts, LV.lt, lts_sv]) (by simp) ?_
 intro B hA hmd
 obtain ⟨⟨hg1, hg2⟩, he1, he2⟩ := id hs
 obtain ⟨mf, hmf⟩ : ∃ mf, seenGo 0 s.ents [] = mf := ⟨_, rfl⟩
 rw [hmf]
 refine .seq ?_
 refine .region rfl ?_
 refine R.box (h := ?_)
 refine R.assign (h := ?_)
 refine .n0 ?_
 refine .seq ?_
 refine .region rfl ?_
 first | refine R.loadA A25 (h := ?_) | refine R.loadN A25 (h := ?_) | refine R.loadP A25 (h := ?_)
 refine R.callX (es := [_]) [] (clone_L s hs) (h := ?_)
 refine R.makeMap encK (h := ?_)
 refine R.buildA BG93 (is := [0, 1]) (ks := [0, 2]) (xs := [_, _]) (es := [_, _]) (hcs := CellsOfs.cons (CellsOf.agg rfl) (CellsOfs.cons (CellsOf.one rfl) CellsOfs.nil)) (h := ?_)
 refine R.box (h := ?_)
 refine R.assign (h := ?_)
 refine .n0 ?_
 refine .seq ?_
 refine .seq ?_
 refine .region rfl ?_
 first | refine R.field F25_1 (h := ?_) | refine R.fieldAt F25_1 (h := ?_)
 first | refine R.loadB O23 (h := ?_) | refine R.load1 O23 (h := ?_)
 first | refine R.len S23 (h := ?_) | refine R.lenRs S23 (h := ?_) | refine R.lenV (run_lenNil S23) (h := ?_)
 rw [List.length_map]
 refine R.move (h := ?_)
 refine .n0 ?_
 refine .block ?_
 refine .loop ?_
 refine LGo.loopG (σ := Nat × List (K3 × Value)) (fun x => x.1 ≤ s.ents.length ∧ seenGo x.1 (s.ents.drop x.1) x.2 = mf) (fun x => [(14, (true, .i (x.1 : Nat)))]) (fun x => [(0, .box 25 (s.c.map LV.sv)), (1, .rs 40 5 (s.ents.map GtE.c)), (2, .raw (mapOb encK x.2)), (3, .box 93 [.sv (.sl 3 (s.gates.map GtG.c)), .ref 1, .ref 2])]) (fun x => s.ents.length - x.1) (0, []) [(3, _), (12, _), (13, _)] ⟨Nat.zero_le _, hmf⟩ (by repeat (first | exact trivial | refine ⟨rfl, ?_⟩)) (by repeat (first | exact trivial | refine ⟨rfl, ?_⟩)) (by repeat (first | exact trivial | refine ⟨rfl, ?_⟩)) ?_
 rintro ⟨k, mk⟩ ⟨hk, hq⟩ ih
 dsimp only at * 
 refine .seq ?_
 refine .region rfl ?_
 refine R.bin (run_lss _ _ _ _ _ _) (h := ?_)
 refine .n0 ?_
 refine .seq ?_
 refine LGo.ifd (ht := fun hc => ?_) (hf := fun hc => ?_)
 ·
  have hlt : k < s.ents.length := by omega
  have hx : (s.ents.map GtE.c)[((k : Nat) : Int).toNat]? = some s.ents[k].c := by simp [hlt]
  have hd : s.ents.drop k = s.ents[k] :: s.ents.drop (k + 1) := List.drop_eq_getElem_cons hlt
  have hzu := he2 s.ents[k] (List.getElem_mem hlt)
  rw [hd, seenGo] at hq
  generalize s.ents[k] = z at hx hq hzu
  clear hd
  refine .skip ?_
  refine .seq ?_
  refine .block ?_
  refine .seq ?_
  refine .region rfl ?_
  refine R.move (h := ?_)
  refine R.index I23 (hj := fun hg => ⟨by omega, hx⟩) (h := ?_)
  first | refine R.loadA A40 (h := ?_) | refine R.loadN A40 (h := ?_) | refine R.loadP A40 (h := ?_)
  refine R.alloc Z40 (h := ?_)
  refine R.assign (h := ?_)
  refine R.storeA A40 (h := ?_)
  refine .n0 ?_
  refine .region rfl ?_
  refine R.move (h := ?_)
  refine R.nilCheck (h := ?_)
  first | refine R.field F93_1 (h := ?_) | refine R.fieldAt F93_1 (h := ?_)
  first | refine R.loadB O91 (h := ?_) | refine R.load1 O91 (h := ?_)
  first | refine R.loadA A40 (h := ?_) | refine R.loadN A40 (h := ?_) | refine R.loadP A40 (h := ?_)
  refine R.callP (es := [_]) (fun _ => keyOf_P z hzu) (h := ?_)
  refine R.move (h := ?_)
  refine R.mapUpd (enc := encK) (a := z.key) Tryd.underlying91 keyF (Told.agg (xs := K3.v z.key)) (h := ?_)
  refine Reg.nil ⟨fun _ => ⟨mixedO, by rfl, by rfl⟩, ?_⟩
  refine .inBlock ?_
  refine .region rfl ?_
  first | refine R.add (h := ?_) | refine R.addW (h := ?_)
  refine R.move (h := ?_)
  refine .n0 ?_
  refine .inLoop ?_
  exact LGo.next _ (fun o h => by have := (hA o).1 h; omega) (by omega) (ih (k + 1, putM z.key (.int .i64 k) mk) ⟨by omega, hq⟩ (by dsimp only; omega)) (by repeat (first | exact trivial | refine ⟨rfl, ?_⟩)) ⟨rfl, rfl, rfl, rfl, trivial⟩
 ·
  rw [List.drop_eq_nil_of_le (show s.ents.length ≤ k by omega), seenGo] at hq
  subst hq
  refine .exit rfl ?_
  refine .seq ?_
  refine .region rfl ?_
  refine R.move (h := ?_)
  refine R.assign (h := ?_)
  refine .n0 ?_
  refine LGo.pack 3 1 (h := ?_)
  exact LGo.ret (FnPost.finI [3, 2] (res_T Tryd.results30) hA hmd)

end Go.Proofs.YtgcjjndhohellaaDoor
