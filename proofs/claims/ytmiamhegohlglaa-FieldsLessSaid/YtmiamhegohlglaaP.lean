/- The reference's Same; the law's far. -/
import Derived.Test.YtmiamhegohlglaaO
set_option linter.unusedSimpArgs false
set_option linter.unusedVariables false
namespace Go.Proofs.Ytmiamhegohlglaa

def fldEq (x y : Fld) : Bool := (decide (x.tag = y.tag) && decide (x.num = y.num)) && decide (x.txt = y.txt)
def sameGo : List Fld → List Fld → Bool
  | x :: a, y :: b => if (!fldEq x y) = true then false else sameGo a b
  | _, _ => true
def same (a b : List Fld) : Bool := if (!decide ((a.length : Int) = b.length)) = true then false else sameGo a b
theorem fldEq_iff (x y : Fld) : fldEq x y = true ↔ x = y := by
  obtain ⟨a, b, c⟩ := x
  obtain ⟨d, e, f⟩ := y
  simp [fldEq, and_assoc]
theorem sameGo_iff : ∀ (a b : List Fld), a.length = b.length → (sameGo a b = true ↔ a = b)
  | [], [], _ => by simp [sameGo]
  | [], _ :: _, h => by simp at h
  | _ :: _, [], h => by simp at h
  | x :: a, y :: b, h => by
    have ih := sameGo_iff a b (by simpa using h)
    by_cases hxy : fldEq x y = true
    · have := (fldEq_iff x y).1 hxy
      subst this
      simp [sameGo, hxy, ih]
    · have hn : x ≠ y := fun e => hxy ((fldEq_iff x y).2 e)
      simp [sameGo, hxy, hn]
theorem same_iff (a b : List Fld) : same a b = true ↔ a = b := by
  unfold same
  by_cases h : a.length = b.length
  · rw [if_neg (by simp [h])]; exact sameGo_iff a b h
  · rw [if_pos (by simp; omega)]
    simp only [Bool.false_eq_true, false_iff]
    intro e; exact h (by rw [e])
theorem same_self (a : List Fld) : same a a = true := (same_iff a a).2 rfl
def farGo : List Fld → Bool
  | [] => false
  | x :: l => if (500 : Int) < x.txt.length then true else farGo l
def far (rs : List Rule) (l : List Fld) : Bool := if (decide ((20 : Int) < rs.length) || decide ((20 : Int) < l.length)) = true then true else farGo l
theorem farGo_false : ∀ {l : List Fld}, farGo l = false → ∀ x ∈ l, x.txt.length ≤ 500
  | [], _, x, hx => by simp at hx
  | y :: l, h, x, hx => by
    simp only [farGo] at h
    split at h
    · cases h
    · rcases List.mem_cons.1 hx with rfl | hx
      · omega
      · exact farGo_false h x hx
theorem far_false {rs : List Rule} {l : List Fld} (h : far rs l = false) : rs.length ≤ 20 ∧ l.length ≤ 20 ∧ ∀ x ∈ l, x.txt.length ≤ 500 := by
  unfold far at h
  split at h
  · cases h
  · rename_i hh
    simp at hh
    exact ⟨by omega, by omega, farGo_false h⟩

theorem same_P (a b : List Fld) (ha : a.length ≤ 100000) (hb : b.length ≤ 100000) : PC Try.prog 15 [.sv (.sl 3 (a.map Fld.c)), .sv (.sl 3 (b.map Fld.c))] (.b (same a b)) := by
  refine ⟨LC.of_go Try.func15 (c := _) rfl (by kernel_rfl) (by rw [Try.ntmps15]; simp) rfl rfl (by simp [LO.lt, LV.lts, LV.lt]) (by simp) ?_⟩
  intro B hA hmd
  refine LGo.seq ?_
  refine LGo.region rfl ?_  -- region 0
  refine R.assign (h := ?_)
  refine Reg.nil ⟨fun h => (by cases h), ?_⟩
  refine LGo.seq ?_
  refine LGo.seq ?_
  refine LGo.region rfl ?_  -- region 1
  refine R.move (h := ?_)
  first | refine R.len S26 (h := ?_) | refine R.lenRs S26 (h := ?_) | refine R.lenV (run_lenNil S26) (h := ?_)
  rw [List.length_map]
  refine R.move (h := ?_)
  first | refine R.len S26 (h := ?_) | refine R.lenRs S26 (h := ?_) | refine R.lenV (run_lenNil S26) (h := ?_)
  rw [List.length_map]
  refine R.bin (run_neq _ _ _ _ _ _) (h := ?_)
  refine Reg.nil ⟨fun h => (by cases h), ?_⟩
  first | refine LGo.ifd (ht := fun hc => ?_) (hf := fun hc => ?_) | refine LGo.ifb (ht := fun hc => ?_) (hf := fun hc => ?_)
  · -- then 1
    have e : same a b = false := by unfold same; rw [if_pos hc]
    rw [e]
    refine LGo.seq ?_
    refine LGo.region rfl ?_  -- region 2
    refine R.assign (h := ?_)
    refine Reg.nil ⟨fun h => (by cases h), ?_⟩
    exact LGo.ret (ret_T Try.results15 hA hmd)
  · -- else 1
    have e : same a b = sameGo a b := by unfold same; rw [if_neg (by rw [hc]; simp)]
    rw [e]
    have hll : a.length = b.length := by simp at hc; omega
    refine LGo.skip ?_
    refine LGo.seq ?_
    refine LGo.seq ?_
    refine LGo.region rfl ?_  -- region 3
    refine R.assign (h := ?_)
    refine Reg.nil ⟨fun h => (by cases h), ?_⟩
    refine LGo.block ?_
    refine LGo.loop ?_
    refine LGo.loopG (σ := Nat) (fun x => x ≤ a.length ∧ sameGo a b = sameGo (a.drop x) (b.drop x)) (fun x => [(5, (true, .i (x : Nat)))]) (fun x => []) (fun x => a.length - x) (0) [(0, _), (1, _)] ⟨by simp, by simp⟩ (by repeat (first | exact trivial | refine ⟨rfl, ?_⟩)) (by repeat (first | exact trivial | refine ⟨rfl, ?_⟩)) (by repeat (first | exact trivial | refine ⟨rfl, ?_⟩)) ?_
    rintro k ⟨hk, hq⟩ ih
    refine LGo.seq ?_
    refine LGo.seq ?_
    refine LGo.region rfl ?_  -- region 4
    refine R.move (h := ?_)
    refine R.move (h := ?_)
    first | refine R.len S26 (h := ?_) | refine R.lenRs S26 (h := ?_) | refine R.lenV (run_lenNil S26) (h := ?_)
    rw [List.length_map]
    refine R.bin (run_lss _ _ _ _ _ _) (h := ?_)
    refine Reg.nil ⟨fun h => (by cases h), ?_⟩
    refine LGo.ifd (ht := fun hc2 => ?_) (hf := fun hc2 => ?_)
    · -- then 2
      have hlt : k < a.length := by omega
      have hltb : k < b.length := by omega
      have hx : (a.map Fld.c)[((k : Nat) : Int).toNat]? = some (a[k].c) := by simp [hlt]
      have hy : (b.map Fld.c)[((k : Nat) : Int).toNat]? = some (b[k].c) := by simp [hltb]
      rw [List.drop_eq_getElem_cons hlt, List.drop_eq_getElem_cons hltb] at hq
      generalize a[k] = x at hx hq
      generalize b[k] = y at hy hq
      refine LGo.skip ?_
      refine LGo.seq ?_
      refine LGo.block ?_
      refine LGo.seq ?_
      refine LGo.region rfl ?_  -- region 6 DRAWS
      refine R.move (h := ?_)
      refine R.move (h := ?_)
      refine R.index I26 (hj := fun hg => ⟨by omega, hx⟩) (h := ?_)
      first | refine R.loadA A34 (h := ?_) | refine R.loadN A34 (h := ?_)
      refine R.move (h := ?_)
      refine R.move (h := ?_)
      refine R.index I26 (hj := fun hg => ⟨by omega, hy⟩) (h := ?_)
      first | refine R.loadA A34 (h := ?_) | refine R.loadN A34 (h := ?_)
      refine R.binA (NE34 _ _ _ _ _ _ _ _) (h := ?_)
      refine Reg.nil ⟨fun _ => ⟨mixedO, by rfl, by rfl⟩, ?_⟩
      first | refine LGo.ifd (ht := fun hc3 => ?_) (hf := fun hc3 => ?_) | refine LGo.ifb (ht := fun hc3 => ?_) (hf := fun hc3 => ?_)
      · -- then 3
        have e2 : sameGo (x :: a.drop (k + 1)) (y :: b.drop (k + 1)) = false := by simp only [sameGo]; exact if_pos hc3
        rw [hq, e2]
        refine LGo.seq ?_
        refine LGo.region rfl ?_  -- region 7
        refine R.assign (h := ?_)
        refine Reg.nil ⟨fun h => (by cases h), ?_⟩
        exact LGo.ret (ret_T Try.results15 hA hmd)
      · -- else 3
        have e2 : sameGo (x :: a.drop (k + 1)) (y :: b.drop (k + 1)) = sameGo (a.drop (k + 1)) (b.drop (k + 1)) := by simp only [sameGo]; rw [if_neg (by rw [show fldEq x y = true from by simpa [fldEq, and_assoc] using hc3]; simp)]
        rw [e2] at hq
        refine LGo.skip ?_
        refine LGo.inBlock ?_
        refine LGo.region rfl ?_  -- region 5
        refine R.move (h := ?_)
        first | refine R.add (h := ?_) | refine R.addW (h := ?_)
        refine R.assign (h := ?_)
        refine Reg.nil ⟨fun h => (by cases h), ?_⟩
        refine LGo.inLoop ?_
        exact LGo.next _ (fun o h => by have := (hA o).1 h; omega) (by omega) (ih (k + 1) ⟨hlt, hq⟩ (by omega)) (by repeat (first | exact trivial | refine ⟨rfl, ?_⟩)) (by repeat (first | exact trivial | refine ⟨rfl, ?_⟩))
    · -- else 2
      have hk' : k = a.length := by omega
      subst hk'
      rw [List.drop_length] at hq
      simp only [sameGo] at hq
      rw [hq]
      refine LGo.exit rfl ?_
      refine LGo.seq ?_
      refine LGo.region rfl ?_  -- region 8
      refine R.assign (h := ?_)
      refine Reg.nil ⟨fun h => (by cases h), ?_⟩
      exact LGo.ret (ret_T Try.results15 hA hmd)

theorem far_P (rs : List Rule) (l : List Fld) : PC Try.prog 11 [.sv (.sl 5 (rs.map Rule.c)), .sv (.sl 3 (l.map Fld.c))] (.b (far rs l)) := by
  refine ⟨LC.of_go Try.func11 (c := _) rfl (by kernel_rfl) (by rw [Try.ntmps11]; simp) rfl rfl (by simp [LO.lt, LV.lts, LV.lt]) (by simp) ?_⟩
  intro B hA hmd
  refine LGo.seq ?_
  refine LGo.region rfl ?_  -- region 0
  refine R.assign (h := ?_)
  refine Reg.nil ⟨fun h => (by cases h), ?_⟩
  refine LGo.seq ?_
  refine LGo.seq ?_
  refine LGo.region rfl ?_  -- region 1
  refine R.move (h := ?_)
  first | refine R.len S22 (h := ?_) | refine R.lenRs S22 (h := ?_) | refine R.lenV (run_lenNil S22) (h := ?_)
  rw [List.length_map]
  refine R.bin (run_gtr _ _ _ _ _ _) (h := ?_)
  refine R.move (h := ?_)
  refine R.move (h := ?_)
  first | refine R.len S26 (h := ?_) | refine R.lenRs S26 (h := ?_) | refine R.lenV (run_lenNil S26) (h := ?_)
  rw [List.length_map]
  refine R.bin (run_gtr _ _ _ _ _ _) (h := ?_)
  refine R.or (h := ?_)
  refine Reg.nil ⟨fun h => (by cases h), ?_⟩
  first | refine LGo.ifd (ht := fun hc => ?_) (hf := fun hc => ?_) | refine LGo.ifb (ht := fun hc => ?_) (hf := fun hc => ?_)
  · -- then 1
    have e : far rs l = true := by unfold far; rw [if_pos hc]
    rw [e]
    refine LGo.seq ?_
    refine LGo.region rfl ?_  -- region 2
    refine R.assign (h := ?_)
    refine Reg.nil ⟨fun h => (by cases h), ?_⟩
    exact LGo.ret (ret_T Try.results11 hA hmd)
  · -- else 1
    have e : far rs l = farGo l := by unfold far; rw [if_neg (by rw [hc]; simp)]
    rw [e]
    have hl : l.length ≤ 20 := by simp at hc; omega
    refine LGo.skip ?_
    refine LGo.seq ?_
    refine LGo.seq ?_
    refine LGo.region rfl ?_  -- region 3
    refine R.assign (h := ?_)
    refine Reg.nil ⟨fun h => (by cases h), ?_⟩
    refine LGo.block ?_
    refine LGo.loop ?_
    refine LGo.loopG (σ := Nat) (fun x => x ≤ l.length ∧ farGo l = farGo (l.drop x)) (fun x => [(5, (true, .i (x : Nat)))]) (fun x => []) (fun x => l.length - x) (0) [(1, _)] ⟨by simp, by simp⟩ (by repeat (first | exact trivial | refine ⟨rfl, ?_⟩)) (by repeat (first | exact trivial | refine ⟨rfl, ?_⟩)) (by repeat (first | exact trivial | refine ⟨rfl, ?_⟩)) ?_
    rintro k ⟨hk, hq⟩ ih
    refine LGo.seq ?_
    refine LGo.seq ?_
    refine LGo.region rfl ?_  -- region 4
    refine R.move (h := ?_)
    refine R.move (h := ?_)
    first | refine R.len S26 (h := ?_) | refine R.lenRs S26 (h := ?_) | refine R.lenV (run_lenNil S26) (h := ?_)
    rw [List.length_map]
    refine R.bin (run_lss _ _ _ _ _ _) (h := ?_)
    refine Reg.nil ⟨fun h => (by cases h), ?_⟩
    refine LGo.ifd (ht := fun hc2 => ?_) (hf := fun hc2 => ?_)
    · -- then 2
      have hlt : k < l.length := by omega
      have hx : (l.map Fld.c)[((k : Nat) : Int).toNat]? = some (l[k].c) := by simp [hlt]
      have hd : l.drop k = l[k] :: l.drop (k + 1) := List.drop_eq_getElem_cons hlt
      rw [hd] at hq
      generalize l[k] = x at hx hq
      clear hd
      refine LGo.skip ?_
      refine LGo.seq ?_
      refine LGo.block ?_
      refine LGo.seq ?_
      refine LGo.region rfl ?_  -- region 6
      refine R.move (h := ?_)
      refine R.move (h := ?_)
      refine R.index I26 (hj := fun hg => ⟨by omega, hx⟩) (h := ?_)
      first | refine R.field F34_2 (h := ?_) | refine R.fieldAt F34_2 (h := ?_)
      first | refine R.loadB O9 (h := ?_) | refine R.load1 O9 (h := ?_)
      refine R.lenT Try.runUnderlying9 (h := ?_)
      refine R.bin (run_gtr _ _ _ _ _ _) (h := ?_)
      refine Reg.nil ⟨fun h => (by cases h), ?_⟩
      refine LGo.ifd (ht := fun hc3 => ?_) (hf := fun hc3 => ?_)
      · -- then 3
        have e2 : farGo (x :: l.drop (k + 1)) = true := by simp only [farGo]; rw [if_pos hc3]
        rw [hq, e2]
        refine LGo.seq ?_
        refine LGo.region rfl ?_  -- region 7
        refine R.assign (h := ?_)
        refine Reg.nil ⟨fun h => (by cases h), ?_⟩
        exact LGo.ret (ret_T Try.results11 hA hmd)
      · -- else 3
        have e2 : farGo (x :: l.drop (k + 1)) = farGo (l.drop (k + 1)) := by simp only [farGo]; rw [if_neg hc3]
        rw [e2] at hq
        refine LGo.skip ?_
        refine LGo.inBlock ?_
        refine LGo.region rfl ?_  -- region 5
        refine R.move (h := ?_)
        first | refine R.add (h := ?_) | refine R.addW (h := ?_)
        refine R.assign (h := ?_)
        refine Reg.nil ⟨fun h => (by cases h), ?_⟩
        refine LGo.inLoop ?_
        exact LGo.next _ (fun o h => by have := (hA o).1 h; omega) (by omega) (ih (k + 1) ⟨hlt, hq⟩ (by omega)) (by repeat (first | exact trivial | refine ⟨rfl, ?_⟩)) (by repeat (first | exact trivial | refine ⟨rfl, ?_⟩))
    · -- else 2
      have hk' : k = l.length := by omega
      subst hk'
      rw [List.drop_length] at hq
      simp only [farGo] at hq
      rw [hq]
      refine LGo.exit rfl ?_
      refine LGo.seq ?_
      refine LGo.region rfl ?_  -- region 8
      refine R.assign (h := ?_)
      refine Reg.nil ⟨fun h => (by cases h), ?_⟩
      exact LGo.ret (ret_T Try.results11 hA hmd)

end Go.Proofs.Ytmiamhegohlglaa
