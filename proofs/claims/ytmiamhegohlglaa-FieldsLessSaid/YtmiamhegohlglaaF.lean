/- The reference's small functions: within, Find, rule, missing. -/
import Derived.Test.YtmiamhegohlglaaE
set_option linter.unusedSimpArgs false
set_option linter.unusedVariables false
namespace Go.Proofs.Ytmiamhegohlglaa

theorem refWithin_P (ru : Rule) (x : Int) : PC Try.prog 39 [.agg (ru.c.map LV.sv), .u x] (.b (within ru x)) := by
  refine ⟨LC.of_go Try.func39 (c := _) rfl (by kernel_rfl) (by rw [Try.ntmps39]; simp) rfl rfl (by simp) (by simp) ?_⟩
  intro B hA hmd
  refine LGo.seq ?_
  refine LGo.region rfl ?_  -- region 0
  refine R.box (h := ?_)
  refine R.assign (h := ?_)
  refine Reg.nil ⟨fun h => (by cases h), ?_⟩
  refine LGo.seq ?_
  refine LGo.region rfl ?_  -- region 1
  refine R.move (h := ?_)
  first | refine R.field F45_2 (h := ?_) | refine R.fieldAt F45_2 (h := ?_)
  first | refine R.loadB O32 (h := ?_) | refine R.load1 O32 (h := ?_)
  refine R.bin (run_geq _ _ _ _ _ _) (h := ?_)
  refine R.move (h := ?_)
  refine R.move (h := ?_)
  first | refine R.field F45_3 (h := ?_) | refine R.fieldAt F45_3 (h := ?_)
  first | refine R.loadB O32 (h := ?_) | refine R.load1 O32 (h := ?_)
  refine R.bin (run_leq _ _ _ _ _ _) (h := ?_)
  refine R.and (h := ?_)
  refine R.assign (h := ?_)
  refine Reg.nil ⟨fun h => (by cases h), ?_⟩
  refine LGo.drop 0 (fun o h => (hA o).1 h) (by omega) [(4, (true, .b (within ru x)))] [] ⟨rfl, trivial⟩ trivial (by simp [LV.lt]) (by simp) (h := ?_)
  exact LGo.ret (res1 Try.results39 hA hmd (by rfl) noHo (by rfl) (.inr rfl))

theorem refFind_P (xs : List Fld) (tag : Int) (hxs : xs.length ≤ 100) : PC Try.prog 17 [.sv (.sl 3 (xs.map Fld.c)), .i tag] (.tup [.agg ((fldAt tag xs).c.map LV.sv), .b (fldHas tag xs)]) := by
  refine ⟨LC.of_go Try.func17 (c := _) rfl (by kernel_rfl) (by rw [Try.ntmps17]; simp) rfl rfl (by simp) (by simp) ?_⟩
  intro B hA hmd
  refine LGo.seq ?_
  refine LGo.region rfl ?_  -- region 0
  refine R.alloc Z34 (h := ?_)
  refine R.assign (h := ?_)
  refine Reg.nil ⟨fun h => (by cases h), ?_⟩
  refine LGo.seq ?_
  refine LGo.seq ?_
  refine LGo.region rfl ?_  -- region 1
  refine R.assign (h := ?_)
  refine Reg.nil ⟨fun h => (by cases h), ?_⟩
  refine LGo.block ?_
  refine LGo.loop ?_
  refine LGo.keep [(0, (true, .sv (.sl 3 (xs.map Fld.c)))), (1, (true, .i tag)), (4, (true, .ptr 0 0)), (6, (true, .i (0 : Nat)))] [(0, .box 34 ((default : Fld).c.map LV.sv))] ⟨rfl, rfl, rfl, rfl, trivial⟩ ⟨rfl, trivial⟩ ?_
  refine LGo.loopK (σ := Nat) (fun k => k ≤ xs.length ∧ xs.find? (fun x => decide (Fld.tag x = tag)) = (xs.drop k).find? (fun x => decide (Fld.tag x = tag)))
    (fun k => [(0, (true, .sv (.sl 3 (xs.map Fld.c)))), (1, (true, .i tag)), (4, (true, .ptr 0 0)), (6, (true, .i k))]) (fun _ => [(0, .box 34 ((default : Fld).c.map LV.sv))]) (fun _ => 1) (fun k => xs.length - k) 0 ⟨by simp, by simp⟩ ?_
  rintro k ⟨hk, hq⟩ ih
  refine LGo.seq ?_
  refine LGo.seq ?_
  refine LGo.region rfl ?_  -- region 2
  refine R.move (h := ?_)
  refine R.move (h := ?_)
  first | refine R.len S26 (h := ?_) | refine R.lenV (run_lenNil S26) (h := ?_)
  rw [List.length_map]
  refine R.bin (run_lss _ _ _ _ _ _) (h := ?_)
  refine Reg.nil ⟨fun h => (by cases h), ?_⟩
  refine LGo.ifd (ht := fun hc => ?_) (hf := fun hc => ?_)
  · -- then
    have hlt : k < xs.length := by omega
    have hx : (xs.map Fld.c)[((k : Nat) : Int).toNat]? = some (xs[k].c) := by simp [hlt]
    have hd : xs.drop k = xs[k] :: xs.drop (k + 1) := List.drop_eq_getElem_cons hlt
    rw [hd] at hq
    generalize xs[k] = x at hx hq
    clear hd
    refine LGo.skip ?_
    refine LGo.seq ?_
    refine LGo.block ?_
    refine LGo.seq ?_
    refine LGo.region rfl ?_  -- region 4
    refine R.move (h := ?_)
    refine R.move (h := ?_)
    refine R.index I26 (hj := fun _ => ⟨by omega, hx⟩) (h := ?_)
    first | refine R.field F34_0 (h := ?_) | refine R.fieldAt F34_0 (h := ?_)
    first | refine R.loadB O3 (h := ?_) | refine R.load1 O3 (h := ?_)
    refine R.move (h := ?_)
    refine R.bin (run_eql _ _ _ _ _ _) (h := ?_)
    refine Reg.nil ⟨fun h => (by cases h), ?_⟩
    refine LGo.ifd (ht := fun hc2 => ?_) (hf := fun hc2 => ?_)
    · -- then
      have e : fldAt tag xs = x ∧ fldHas tag xs = true := by simp [fldAt, fldHas, hq, hc2]
      rw [e.1, e.2]
      refine LGo.seq ?_
      refine LGo.region rfl ?_  -- region 5
      refine R.move (h := ?_)
      refine R.move (h := ?_)
      refine R.index I26 (hj := fun _ => ⟨by omega, hx⟩) (h := ?_)
      first | refine R.loadA A34 (h := ?_) | refine R.loadN A34 (h := ?_)
      refine R.storeA A34 (h := ?_)
      refine R.assign (h := ?_)
      refine Reg.nil ⟨fun h => (by cases h), ?_⟩
      exact LGo.ret (resD1 Try.results17 A34 hA hmd (by omega) noHo (by rfl) (by rfl) (by rfl) (by rfl) (.inr rfl))
    · -- else
      have e : (x :: xs.drop (k + 1)).find? (fun x => decide (Fld.tag x = tag)) = (xs.drop (k + 1)).find? (fun x => decide (Fld.tag x = tag)) := by
        rw [List.find?_cons_of_neg]; simpa using hc2
      rw [e] at hq
      refine LGo.skip ?_
      refine LGo.inBlock ?_
      refine LGo.region rfl ?_  -- region 3
      refine R.move (h := ?_)
      first | refine R.add (h := ?_) | refine R.addW (h := ?_)
      refine R.assign (h := ?_)
      refine Reg.nil ⟨fun h => (by cases h), ?_⟩
      refine LGo.inLoop ?_
      exact LGo.next 1 (fun o h => by have := (hA o).1 h; omega) (by omega) (ih (k + 1) ⟨by omega, hq⟩ (by omega)) ⟨rfl, rfl, rfl, rfl, trivial⟩ ⟨rfl, trivial⟩
  · -- else
    have hk' : k = xs.length := by omega
    subst hk'
    rw [List.drop_length] at hq
    have e : fldAt tag xs = default ∧ fldHas tag xs = false := by simp [fldAt, fldHas, hq]
    rw [e.1, e.2]
    refine LGo.exit rfl ?_
    refine LGo.seq ?_
    refine LGo.region rfl ?_  -- region 6
    refine R.build BF34 (is := []) (xs := []) (es := []) (h := ?_)
    refine R.storeA A34 (h := ?_)
    refine R.assign (h := ?_)
    refine Reg.nil ⟨fun h => (by cases h), ?_⟩
    exact LGo.ret (resD1 Try.results17 A34 hA hmd (by omega) noHo (by rfl) (by rfl) (by rfl) (by rfl) (.inr rfl))

theorem refRule_P (xs : List Rule) (tag : Int) (hxs : xs.length ≤ 100) : PC Try.prog 28 [.sv (.sl 5 (xs.map Rule.c)), .i tag] (.i (idx (fun x => decide (Rule.tag x = tag)) 0 xs)) := by
  refine ⟨LC.of_go Try.func28 (c := _) rfl (by kernel_rfl) (by rw [Try.ntmps28]; simp) rfl rfl (by simp) (by simp) ?_⟩
  intro B hA hmd
  refine LGo.seq ?_
  refine LGo.region rfl ?_  -- region 0
  refine R.assign (h := ?_)
  refine Reg.nil ⟨fun h => (by cases h), ?_⟩
  refine LGo.seq ?_
  refine LGo.seq ?_
  refine LGo.region rfl ?_  -- region 1
  refine R.assign (h := ?_)
  refine Reg.nil ⟨fun h => (by cases h), ?_⟩
  refine LGo.block ?_
  refine LGo.loop ?_
  refine LGo.keep [(0, (true, .sv (.sl 5 (xs.map Rule.c)))), (1, (true, .i tag)), (5, (true, .i (0 : Nat)))] [] ⟨rfl, rfl, rfl, trivial⟩ trivial ?_
  refine LGo.loopK (σ := Nat) (fun k => k ≤ xs.length ∧ idx (fun x => decide (Rule.tag x = tag)) 0 xs = idx (fun x => decide (Rule.tag x = tag)) k (xs.drop k))
    (fun k => [(0, (true, .sv (.sl 5 (xs.map Rule.c)))), (1, (true, .i tag)), (5, (true, .i k))]) (fun _ => []) (fun _ => 0) (fun k => xs.length - k) 0 ⟨by simp, by simp⟩ ?_
  rintro k ⟨hk, hq⟩ ih
  refine LGo.seq ?_
  refine LGo.seq ?_
  refine LGo.region rfl ?_  -- region 2
  refine R.move (h := ?_)
  refine R.move (h := ?_)
  first | refine R.len S22 (h := ?_) | refine R.lenV (run_lenNil S22) (h := ?_)
  rw [List.length_map]
  refine R.bin (run_lss _ _ _ _ _ _) (h := ?_)
  refine Reg.nil ⟨fun h => (by cases h), ?_⟩
  refine LGo.ifd (ht := fun hc => ?_) (hf := fun hc => ?_)
  · -- then
    have hlt : k < xs.length := by omega
    have hx : (xs.map Rule.c)[((k : Nat) : Int).toNat]? = some (xs[k].c) := by simp [hlt]
    have hd : xs.drop k = xs[k] :: xs.drop (k + 1) := List.drop_eq_getElem_cons hlt
    rw [hd] at hq
    generalize xs[k] = x at hx hq
    clear hd
    refine LGo.skip ?_
    refine LGo.seq ?_
    refine LGo.block ?_
    refine LGo.seq ?_
    refine LGo.region rfl ?_  -- region 4
    refine R.move (h := ?_)
    refine R.move (h := ?_)
    refine R.index I22 (hj := fun _ => ⟨by omega, hx⟩) (h := ?_)
    first | refine R.field F45_0 (h := ?_) | refine R.fieldAt F45_0 (h := ?_)
    first | refine R.loadB O3 (h := ?_) | refine R.load1 O3 (h := ?_)
    refine R.move (h := ?_)
    refine R.bin (run_eql _ _ _ _ _ _) (h := ?_)
    refine Reg.nil ⟨fun h => (by cases h), ?_⟩
    refine LGo.ifd (ht := fun hc2 => ?_) (hf := fun hc2 => ?_)
    · -- then
      have e : idx (fun x => decide (Rule.tag x = tag)) k (x :: xs.drop (k + 1)) = k := by simp [idx, hc2]
      rw [hq, e]
      refine LGo.seq ?_
      refine LGo.region rfl ?_  -- region 5
      refine R.move (h := ?_)
      refine R.assign (h := ?_)
      refine Reg.nil ⟨fun h => (by cases h), ?_⟩
      exact LGo.ret (res1 Try.results28 hA hmd (by rfl) noHo (by rfl) (.inr rfl))
    · -- else
      have e : idx (fun x => decide (Rule.tag x = tag)) k (x :: xs.drop (k + 1)) = idx (fun x => decide (Rule.tag x = tag)) (k + 1) (xs.drop (k + 1)) := by simp [idx, hc2]
      rw [e] at hq
      refine LGo.skip ?_
      refine LGo.inBlock ?_
      refine LGo.region rfl ?_  -- region 3
      refine R.move (h := ?_)
      first | refine R.add (h := ?_) | refine R.addW (h := ?_)
      refine R.assign (h := ?_)
      refine Reg.nil ⟨fun h => (by cases h), ?_⟩
      refine LGo.inLoop ?_
      exact LGo.next 0 (fun o h => (hA o).1 h) (by omega) (ih (k + 1) ⟨by omega, hq⟩ (by omega)) ⟨rfl, rfl, rfl, trivial⟩ trivial
  · -- else
    have hk' : k = xs.length := by omega
    subst hk'
    simp only [List.drop_length, idx] at hq
    rw [hq]
    refine LGo.exit rfl ?_
    refine LGo.seq ?_
    refine LGo.region rfl ?_  -- region 6
    refine R.assign (h := ?_)
    refine Reg.nil ⟨fun h => (by cases h), ?_⟩
    exact LGo.ret (res1 Try.results28 hA hmd (by rfl) noHo (by rfl) (.inr rfl))

end Go.Proofs.Ytmiamhegohlglaa
