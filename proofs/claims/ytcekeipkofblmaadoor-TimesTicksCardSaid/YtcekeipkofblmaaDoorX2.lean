/- TimesTicks. -/
import Derived.Test.YtcekeipkofblmaaDoorX1
set_option linter.unusedSimpArgs false
set_option linter.unusedVariables false
namespace Go.Proofs.YtcekeipkofblmaaDoor

theorem ticks_P (d : Int) (st : List Int) (hd : R64 d) (hst : ∀ x ∈ st, R64 x) : PC Tryd.prog 6 [.i d, .sv (.sl 1 (ic .i64 st))] (.b true) := by
  refine ⟨LC.of_go Tryd.func6 (c := _) rfl (by kernel_rfl) (by rw [Tryd.ntmps6]; simp) rfl rfl (by simp [LO.lt, LV.lts, LV.lt]) (by simp) ?_⟩
  intro B hA hmd
  unfold R64 at hd
  refine LGo.seq ?_
  refine LGo.region rfl ?_  -- region 0
  refine R.assign (h := ?_)
  refine Reg.nil ⟨fun h => (by cases h), ?_⟩
  refine LGo.seq ?_
  refine LGo.seq ?_
  refine LGo.region rfl ?_  -- region 1
  refine R.move (h := ?_)
  first | refine R.len S34 (h := ?_) | refine R.lenRs S34 (h := ?_) | refine R.lenV (run_lenNil S34) (h := ?_)
  rw [ic_len]
  refine R.bin (run_gtr _ _ _ _ _ _) (h := ?_)
  refine R.move (h := ?_)
  refine R.move (h := ?_)
  refine R.bin (run_lss _ _ _ _ _ _) (h := ?_)
  refine R.or (h := ?_)
  refine Reg.nil ⟨fun h => (by cases h), ?_⟩
  refine LGo.ifb (ht := fun hc => ?_) (hf := fun hc => ?_)
  · -- then 1
    refine LGo.seq ?_
    refine LGo.region rfl ?_  -- region 2
    refine R.callP (es := []) (fun _ => awake_P) (h := ?_)
    refine R.assign (h := ?_)
    refine Reg.nil ⟨fun h => (by cases h), ?_⟩
    exact LGo.ret (ret_T Tryd.results6 hA hmd)
  · -- else 1
    obtain ⟨hl, h0⟩ : st.length ≤ 50 ∧ 0 ≤ d := by simp only [Bool.or_eq_true, Bool.and_eq_true, decide_eq_true_eq, Bool.or_eq_false_iff, Bool.and_eq_false_iff, decide_eq_false_iff_not, Bool.not_eq_true', Bool.not_eq_false', Bool.not_eq_true, Bool.not_eq_false, Bool.false_eq_true, Bool.true_eq_false, iff_true, true_iff, iff_false, false_iff] at hc; omega
    refine LGo.skip ?_
    refine LGo.seq ?_
    refine LGo.region rfl ?_  -- region 3
    refine R.assign (h := ?_)
    refine R.assign (h := ?_)
    refine Reg.nil ⟨fun h => (by cases h), ?_⟩
    refine LGo.seq ?_
    refine LGo.seq ?_
    refine LGo.region rfl ?_  -- region 4
    refine R.assign (h := ?_)
    refine Reg.nil ⟨fun h => (by cases h), ?_⟩
    refine LGo.block ?_
    refine LGo.loop ?_
    refine LGo.loopG (σ := Nat × Int × Bool) (fun x => x.1 ≤ st.length ∧ (0 ≤ x.2.1 ∧ x.2.1 ≤ 9223372036854775807) ∧ (x.2.2 = true → d ≤ x.2.1)) (fun x => [(7, (true, .i (x.1 : Nat))), (5, (true, .i x.2.1)), (6, (true, .b x.2.2))]) (fun x => []) (fun x => st.length - x.1) ((0, 0, false)) [(0, _), (1, _)] ⟨by simp, by simp, by simp⟩ (by repeat (first | exact trivial | refine ⟨rfl, ?_⟩)) (by repeat (first | exact trivial | refine ⟨rfl, ?_⟩)) (by repeat (first | exact trivial | refine ⟨rfl, ?_⟩)) ?_
    rintro ⟨k, now, was⟩ ⟨hk, hn, hw⟩ ih
    dsimp only at * 
    refine LGo.seq ?_
    refine LGo.seq ?_
    refine LGo.region rfl ?_  -- region 5
    refine R.move (h := ?_)
    refine R.move (h := ?_)
    first | refine R.len S34 (h := ?_) | refine R.lenRs S34 (h := ?_) | refine R.lenV (run_lenNil S34) (h := ?_)
    rw [ic_len]
    refine R.bin (run_lss _ _ _ _ _ _) (h := ?_)
    refine Reg.nil ⟨fun h => (by cases h), ?_⟩
    refine LGo.ifd (ht := fun hc2 => ?_) (hf := fun hc2 => ?_)
    · -- then 2
      have hlt : k < st.length := by omega
      have hx : (ic .i64 st)[((k : Nat) : Int).toNat]? = some [.val (.int .i64 st[k])] := by simp [ic, hlt]
      have hxr := hst st[k] (List.getElem_mem hlt)
      generalize st[k] = x at hx hxr
      unfold R64 at hxr
      refine LGo.skip ?_
      refine LGo.seq ?_
      refine LGo.block ?_
      refine LGo.seq ?_
      refine LGo.region rfl ?_  -- region 7
      refine R.move (h := ?_)
      refine R.move (h := ?_)
      refine R.move (h := ?_)
      refine R.index I34 (hj := fun _ => ⟨by omega, hx⟩) (h := ?_)
      first | refine R.loadB O2 (h := ?_) | refine R.load1 O2 (h := ?_)
      refine R.callP (es := [_, _]) (fun _ => adv_P now x ⟨by omega, by omega⟩ ⟨by omega, by omega⟩) (h := ?_)
      refine R.move (h := ?_)
      refine R.extract (h := ?_)
      refine R.extract (h := ?_)
      refine R.assign (h := ?_)
      refine R.assign (h := ?_)
      refine Reg.nil ⟨fun h => (by cases h), ?_⟩
      refine LGo.seq ?_
      refine LGo.seq ?_
      refine LGo.region rfl ?_  -- region 8
      refine R.move (h := ?_)
      refine R.move (h := ?_)
      refine R.index I34 (hj := fun _ => ⟨by omega, hx⟩) (h := ?_)
      first | refine R.loadB O2 (h := ?_) | refine R.load1 O2 (h := ?_)
      refine R.bin (run_lss _ _ _ _ _ _) (h := ?_)
      refine R.move (h := ?_)
      refine R.move (h := ?_)
      refine R.move (h := ?_)
      refine R.index I34 (hj := fun _ => ⟨by omega, hx⟩) (h := ?_)
      first | refine R.loadB O2 (h := ?_) | refine R.load1 O2 (h := ?_)
      refine R.move (h := ?_)
      refine R.bin (run_lss _ _ _ _ _ _) (h := ?_)
      refine R.or (h := ?_)
      refine Reg.nil ⟨fun h => (by cases h), ?_⟩
      refine LGo.ifb (ht := fun hc3 => ?_) (hf := fun hc3 => ?_)
      · -- then 3
        have h9 : (advT now x).2 = 7 ∨ (advT now x).2 = 18 := by
          simp only [Bool.or_eq_true, Bool.and_eq_true, decide_eq_true_eq, Bool.or_eq_false_iff, Bool.and_eq_false_iff, decide_eq_false_iff_not, Bool.not_eq_true', Bool.not_eq_false', Bool.not_eq_true, Bool.not_eq_false, Bool.false_eq_true, Bool.true_eq_false, iff_true, true_iff, iff_false, false_iff] at hc3
          unfold advT
          split
          · exact .inl rfl
          · rw [if_pos (by omega)]; exact .inr rfl
        refine LGo.seq ?_
        refine LGo.seq ?_
        refine LGo.region rfl ?_  -- region 9
        refine R.move (h := ?_)
        refine R.bin (run_eql _ _ _ _ _ _) (h := ?_)
        refine Reg.nil ⟨fun h => (by cases h), ?_⟩
        refine LGo.ifb (ht := fun hc4 => by simp at hc4; omega) (hf := fun hc4 => ?_)
        refine LGo.skip ?_
        refine LGo.exit rfl ?_
        refine LGo.region rfl ?_  -- region 6
        refine R.move (h := ?_)
        first | refine R.add (h := ?_) | refine R.addW (h := ?_)
        refine R.assign (h := ?_)
        refine Reg.nil ⟨fun h => (by cases h), ?_⟩
        refine LGo.inLoop ?_
        exact LGo.next _ (fun o h => by have := (hA o).1 h; omega) (by omega) (ih (k + 1, now, was) ⟨hlt, hn, hw⟩ (by dsimp only; omega)) (by repeat (first | exact trivial | refine ⟨rfl, ?_⟩)) (by repeat (first | exact trivial | refine ⟨rfl, ?_⟩))
      · -- else 3
        have h9 : 0 ≤ x ∧ now ≤ x := by simp only [Bool.or_eq_true, Bool.and_eq_true, decide_eq_true_eq, Bool.or_eq_false_iff, Bool.and_eq_false_iff, decide_eq_false_iff_not, Bool.not_eq_true', Bool.not_eq_false', Bool.not_eq_true, Bool.not_eq_false, Bool.false_eq_true, Bool.true_eq_false, iff_true, true_iff, iff_false, false_iff] at hc3; omega
        have e8 : advT now x = (x, 0) := by unfold advT; rw [if_neg (by omega), if_neg (by omega)]
        rw [e8]
        dsimp only
        refine LGo.skip ?_
        refine LGo.seq ?_
        refine LGo.seq ?_
        refine LGo.region rfl ?_  -- region 11
        refine R.move (h := ?_)
        refine R.bin (run_neq _ _ _ _ _ _) (h := ?_)
        refine R.move (h := ?_)
        refine R.move (h := ?_)
        refine R.move (h := ?_)
        refine R.move (h := ?_)
        refine R.index I34 (hj := fun _ => ⟨by omega, hx⟩) (h := ?_)
        first | refine R.loadB O2 (h := ?_) | refine R.load1 O2 (h := ?_)
        refine R.bin (run_neq _ _ _ _ _ _) (h := ?_)
        refine R.or (h := ?_)
        refine Reg.nil ⟨fun h => (by cases h), ?_⟩
        refine LGo.ifb (ht := fun hc5 => by simp at hc5) (hf := fun hc5 => ?_)
        refine LGo.skip ?_
        refine LGo.seq ?_
        refine LGo.region rfl ?_  -- region 13
        refine R.move (h := ?_)
        refine R.assign (h := ?_)
        refine Reg.nil ⟨fun h => (by cases h), ?_⟩
        refine LGo.seq ?_
        refine LGo.region rfl ?_  -- region 14
        refine R.move (h := ?_)
        refine R.move (h := ?_)
        refine R.callP (es := [_, _]) (fun _ => passed_P d x ⟨by omega, by omega⟩ ⟨by omega, by omega⟩) (h := ?_)
        rw [passT_ok (t := d) (d := x) (by omega) (by omega)]
        refine R.move (h := ?_)
        refine R.extract (h := ?_)
        refine R.extract (h := ?_)
        refine R.assign (h := ?_)
        refine R.assign (h := ?_)
        refine Reg.nil ⟨fun h => (by cases h), ?_⟩
        refine LGo.seq ?_
        refine LGo.region rfl ?_  -- region 15
        refine R.move (h := ?_)
        refine R.move (h := ?_)
        refine R.callP (es := [_, _]) (fun _ => left_P d x ⟨by omega, by omega⟩ ⟨by omega, by omega⟩) (h := ?_)
        rw [leftT_ok (t := d) (d := x) (by omega) (by omega)]
        refine R.move (h := ?_)
        refine R.extract (h := ?_)
        refine R.extract (h := ?_)
        refine R.assign (h := ?_)
        refine R.assign (h := ?_)
        refine Reg.nil ⟨fun h => (by cases h), ?_⟩
        refine LGo.seq ?_
        refine LGo.seq ?_
        refine LGo.region rfl ?_  -- region 16
        refine R.move (h := ?_)
        refine R.bin (run_neq _ _ _ _ _ _) (h := ?_)
        refine R.move (h := ?_)
        refine R.move (h := ?_)
        refine R.bin (run_neq _ _ _ _ _ _) (h := ?_)
        refine R.or (h := ?_)
        refine R.move (h := ?_)
        refine R.move (h := ?_)
        refine R.move (h := ?_)
        refine R.move (h := ?_)
        refine R.index I34 (hj := fun _ => ⟨by omega, hx⟩) (h := ?_)
        first | refine R.loadB O2 (h := ?_) | refine R.load1 O2 (h := ?_)
        refine R.move (h := ?_)
        refine R.bin (run_geq _ _ _ _ _ _) (h := ?_)
        refine R.bin (run_neqB Tryd.underlying4 _ _ _ _) (h := ?_)
        refine R.or (h := ?_)
        refine R.move (h := ?_)
        refine R.move (h := ?_)
        refine R.move (h := ?_)
        refine R.move (h := ?_)
        refine R.not (h := ?_)
        refine R.and (h := ?_)
        refine R.or (h := ?_)
        refine R.move (h := ?_)
        refine R.move (h := ?_)
        refine R.move (h := ?_)
        refine R.bin (run_eql _ _ _ _ _ _) (h := ?_)
        refine R.bin (run_neqB Tryd.underlying4 _ _ _ _) (h := ?_)
        refine R.or (hgy := fun _ h => by rw [h]; rfl) (h := ?_)
        refine R.move (h := ?_)
        refine R.move (h := ?_)
        refine R.bin (run_lss _ _ _ _ _ _) (h := ?_)
        refine R.or (hgy := fun _ h => by rw [h]; rfl) (h := ?_)
        refine R.move (h := ?_)
        refine R.move (h := ?_)
        refine R.not (h := ?_)
        refine R.move (h := ?_)
        refine R.move (h := ?_)
        refine R.move (h := ?_)
        refine R.move (h := ?_)
        first | refine R.sub (h := ?_) | refine R.subW (h := ?_)
        refine R.bin (run_neq _ _ _ _ _ _) (h := ?_)
        refine R.and (h := ?_)
        refine R.or (hgy := fun _ h => by rw [h]; rfl) (h := ?_)
        refine Reg.nil ⟨fun h => (by cases h), ?_⟩
        refine LGo.ifb (ht := fun hc6 => by (cases was <;> by_cases hp : d ≤ x <;> simp [hp] at hc6 hw <;> omega)) (hf := fun hc6 => ?_)
        refine LGo.skip ?_
        refine LGo.region rfl ?_  -- region 18
        refine R.move (h := ?_)
        refine R.assign (h := ?_)
        refine Reg.nil ⟨fun h => (by cases h), ?_⟩
        refine LGo.inBlock ?_
        refine LGo.region rfl ?_  -- region 6
        refine R.move (h := ?_)
        first | refine R.add (h := ?_) | refine R.addW (h := ?_)
        refine R.assign (h := ?_)
        refine Reg.nil ⟨fun h => (by cases h), ?_⟩
        refine LGo.inLoop ?_
        exact LGo.next _ (fun o h => by have := (hA o).1 h; omega) (by omega) (ih (k + 1, x, decide (d ≤ x)) ⟨hlt, by dsimp only; omega, fun h => of_decide_eq_true h⟩ (by dsimp only; omega)) (by repeat (first | exact trivial | refine ⟨rfl, ?_⟩)) (by repeat (first | exact trivial | refine ⟨rfl, ?_⟩))
    · -- else 2
      refine LGo.exit rfl ?_
      refine LGo.seq ?_
      refine LGo.region rfl ?_  -- region 19
      refine R.callP (es := []) (fun _ => awake_P) (h := ?_)
      refine R.assign (h := ?_)
      refine Reg.nil ⟨fun h => (by cases h), ?_⟩
      exact LGo.ret (ret_T Tryd.results6 hA hmd)

end Go.Proofs.YtcekeipkofblmaaDoor
