/- times: Meet of the reference; check of lists. -/
import Derived.Test.YtcekeipkofblmaaDoorB
set_option linter.unusedSimpArgs false
set_option linter.unusedVariables false
namespace Go.Proofs.YtcekeipkofblmaaDoor

theorem rmeet_P (a b : Sp) : PC Tryd.prog 31 [spV a, spV b] (.tup [spV (meetS a b).1, .b (meetS a b).2.1, .i (meetS a b).2.2]) := by
  refine ⟨LC.of_go Tryd.func31 (c := _) rfl (by kernel_rfl) (by rw [Tryd.ntmps31]; simp) rfl rfl (by simp [LO.lt, LV.lts, LV.lt]) (by simp) ?_⟩
  intro B hA hmd
  rw [spV_c a, spV_c b]
  obtain ⟨g, e0⟩ : ∃ g, meetS a b = g := ⟨_, rfl⟩
  have e1 := e0
  unfold meetS at e1
  rw [e0]
  refine LGo.seq ?_
  refine LGo.region rfl ?_  -- region 0
  refine R.box (h := ?_)
  refine R.box (h := ?_)
  refine R.alloc Z43 (h := ?_)
  refine R.assign (h := ?_)
  refine R.assign (h := ?_)
  refine Reg.nil ⟨fun h => (by cases h), ?_⟩
  refine LGo.seq ?_
  refine LGo.region rfl ?_  -- region 1
  first | refine R.loadA A43 (h := ?_) | refine R.loadN A43 (h := ?_)
  refine R.callP (es := [_]) (fun _ => rcheck_P a) (h := ?_)
  refine R.assign (h := ?_)
  refine Reg.nil ⟨fun h => (by cases h), ?_⟩
  refine LGo.seq ?_
  refine LGo.seq ?_
  refine LGo.region rfl ?_  -- region 2
  refine R.move (h := ?_)
  refine R.bin (run_eql _ _ _ _ _ _) (h := ?_)
  refine Reg.nil ⟨fun h => (by cases h), ?_⟩
  refine LGo.ifd (ht := fun hc => ?_) (hf := fun hc => ?_)
  · -- then 1
    rw [if_pos hc] at e1
    refine LGo.region rfl ?_  -- region 3
    first | refine R.loadA A43 (h := ?_) | refine R.loadN A43 (h := ?_)
    refine R.callP (es := [_]) (fun _ => rcheck_P b) (h := ?_)
    refine R.assign (h := ?_)
    refine Reg.nil ⟨fun h => (by cases h), ?_⟩
    refine LGo.seq ?_
    refine LGo.region rfl ?_  -- region 4
    first | refine R.field F43_0 (h := ?_) | refine R.fieldAt F43_0 (h := ?_)
    first | refine R.loadB O2 (h := ?_) | refine R.load1 O2 (h := ?_)
    first | refine R.field F43_0 (h := ?_) | refine R.fieldAt F43_0 (h := ?_)
    first | refine R.loadB O2 (h := ?_) | refine R.load1 O2 (h := ?_)
    refine R.maxI (h := ?_)
    first | refine R.field F43_1 (h := ?_) | refine R.fieldAt F43_1 (h := ?_)
    first | refine R.loadB O2 (h := ?_) | refine R.load1 O2 (h := ?_)
    first | refine R.field F43_1 (h := ?_) | refine R.fieldAt F43_1 (h := ?_)
    first | refine R.loadB O2 (h := ?_) | refine R.load1 O2 (h := ?_)
    refine R.minI (h := ?_)
    refine R.build BF43 (is := [0, 1]) (xs := [_, _]) (es := [_, _]) (h := ?_)
    refine R.alloc Z43 (h := ?_)
    refine R.storeA A43 (h := ?_)
    refine Reg.nil ⟨fun h => (by cases h), ?_⟩
    refine LGo.seq ?_
    refine LGo.seq ?_
    refine LGo.region rfl ?_  -- region 5
    refine R.move (h := ?_)
    refine R.bin (run_neq _ _ _ _ _ _) (h := ?_)
    refine R.move (h := ?_)
    first | refine R.field F43_0 (h := ?_) | refine R.fieldAt F43_0 (h := ?_)
    first | refine R.loadB O2 (h := ?_) | refine R.load1 O2 (h := ?_)
    first | refine R.field F43_1 (h := ?_) | refine R.fieldAt F43_1 (h := ?_)
    first | refine R.loadB O2 (h := ?_) | refine R.load1 O2 (h := ?_)
    refine R.bin (run_geq _ _ _ _ _ _) (h := ?_)
    refine R.or (h := ?_)
    refine Reg.nil ⟨fun h => (by cases h), ?_⟩
    refine LGo.ifb (ht := fun hc2 => ?_) (hf := fun hc2 => ?_)
    · -- then 2
      obtain rfl : g = ((0, 0), false, chkS b) := by
        rw [← e1]
        simp only [Bool.or_eq_true, Bool.and_eq_true, decide_eq_true_eq, Bool.or_eq_false_iff, Bool.and_eq_false_iff, decide_eq_false_iff_not, Bool.not_eq_true', Bool.not_eq_false', Bool.not_eq_true, Bool.not_eq_false, Bool.false_eq_true, Bool.true_eq_false, iff_true, true_iff, iff_false, false_iff] at hc2
        split
        · rename_i h2; rw [if_pos (by omega), h2]
        · rfl
      refine LGo.seq ?_
      refine LGo.region rfl ?_  -- region 6
      refine R.build BF43 (is := []) (xs := []) (es := []) (h := ?_)
      refine R.move (h := ?_)
      refine R.storeA A43 (h := ?_)
      refine R.assign (h := ?_)
      refine R.assign (h := ?_)
      refine Reg.nil ⟨fun h => (by cases h), ?_⟩
      exact LGo.ret (ret_ATT Tryd.results31 A43 hA hmd)
    · -- else 2
      obtain rfl : g = ((max a.1 b.1, min a.2 b.2), true, 0) := by
        rw [← e1]
        simp only [Bool.or_eq_true, Bool.and_eq_true, decide_eq_true_eq, Bool.or_eq_false_iff, Bool.and_eq_false_iff, decide_eq_false_iff_not, Bool.not_eq_true', Bool.not_eq_false', Bool.not_eq_true, Bool.not_eq_false, Bool.false_eq_true, Bool.true_eq_false, iff_true, true_iff, iff_false, false_iff] at hc2
        rw [if_pos (by omega), if_neg (by omega)]
      refine LGo.skip ?_
      refine LGo.seq ?_
      refine LGo.region rfl ?_  -- region 7
      first | refine R.loadA A43 (h := ?_) | refine R.loadN A43 (h := ?_)
      refine R.storeA A43 (h := ?_)
      refine R.assign (h := ?_)
      refine R.assign (h := ?_)
      refine Reg.nil ⟨fun h => (by cases h), ?_⟩
      exact LGo.ret (ret_ATT Tryd.results31 A43 hA hmd)
  · -- else 1
    rw [if_neg hc] at e1; rw [← e1]
    refine LGo.skip ?_
    refine LGo.seq ?_
    refine LGo.region rfl ?_  -- region 4
    first | refine R.field F43_0 (h := ?_) | refine R.fieldAt F43_0 (h := ?_)
    first | refine R.loadB O2 (h := ?_) | refine R.load1 O2 (h := ?_)
    first | refine R.field F43_0 (h := ?_) | refine R.fieldAt F43_0 (h := ?_)
    first | refine R.loadB O2 (h := ?_) | refine R.load1 O2 (h := ?_)
    refine R.maxI (h := ?_)
    first | refine R.field F43_1 (h := ?_) | refine R.fieldAt F43_1 (h := ?_)
    first | refine R.loadB O2 (h := ?_) | refine R.load1 O2 (h := ?_)
    first | refine R.field F43_1 (h := ?_) | refine R.fieldAt F43_1 (h := ?_)
    first | refine R.loadB O2 (h := ?_) | refine R.load1 O2 (h := ?_)
    refine R.minI (h := ?_)
    refine R.build BF43 (is := [0, 1]) (xs := [_, _]) (es := [_, _]) (h := ?_)
    refine R.alloc Z43 (h := ?_)
    refine R.storeA A43 (h := ?_)
    refine Reg.nil ⟨fun h => (by cases h), ?_⟩
    refine LGo.seq ?_
    refine LGo.seq ?_
    refine LGo.region rfl ?_  -- region 5
    refine R.move (h := ?_)
    refine R.bin (run_neq _ _ _ _ _ _) (h := ?_)
    refine R.move (h := ?_)
    first | refine R.field F43_0 (h := ?_) | refine R.fieldAt F43_0 (h := ?_)
    first | refine R.loadB O2 (h := ?_) | refine R.load1 O2 (h := ?_)
    first | refine R.field F43_1 (h := ?_) | refine R.fieldAt F43_1 (h := ?_)
    first | refine R.loadB O2 (h := ?_) | refine R.load1 O2 (h := ?_)
    refine R.bin (run_geq _ _ _ _ _ _) (h := ?_)
    refine R.or (h := ?_)
    refine Reg.nil ⟨fun h => (by cases h), ?_⟩
    refine LGo.ifb (ht := fun hc3 => ?_) (hf := fun hc3 => by simp only [Bool.or_eq_true, Bool.and_eq_true, decide_eq_true_eq, Bool.or_eq_false_iff, Bool.and_eq_false_iff, decide_eq_false_iff_not, Bool.not_eq_true', Bool.not_eq_false', Bool.not_eq_true, Bool.not_eq_false, Bool.false_eq_true, Bool.true_eq_false, iff_true, true_iff, iff_false, false_iff] at hc3; omega)
    refine LGo.seq ?_
    refine LGo.region rfl ?_  -- region 6
    refine R.build BF43 (is := []) (xs := []) (es := []) (h := ?_)
    refine R.move (h := ?_)
    refine R.storeA A43 (h := ?_)
    refine R.assign (h := ?_)
    refine R.assign (h := ?_)
    refine Reg.nil ⟨fun h => (by cases h), ?_⟩
    exact LGo.ret (ret_ATT Tryd.results31 A43 hA hmd)

theorem checks_P (ls : List (List Sp)) (hl : ls.length ≤ 100000) (hls : ∀ l ∈ ls, l.length ≤ 100000) : PC Tryd.prog 43 [.sv (.sl 1 (rowsSp ls))] (.i (checkS ls)) := by
  refine ⟨LC.of_go Tryd.func43 (c := _) rfl (by kernel_rfl) (by rw [Tryd.ntmps43]; simp) rfl rfl (by simp [LO.lt, LV.lts, LV.lt]) (by simp) ?_⟩
  intro B hA hmd
  obtain ⟨g, e0⟩ : ∃ g, checkS ls = g := ⟨_, rfl⟩
  have e1 := e0
  unfold checkS at e1
  rw [e0]
  refine LGo.seq ?_
  refine LGo.region rfl ?_  -- region 0
  refine R.assign (h := ?_)
  refine Reg.nil ⟨fun h => (by cases h), ?_⟩
  refine LGo.seq ?_
  refine LGo.seq ?_
  refine LGo.region rfl ?_  -- region 1
  refine R.move (h := ?_)
  first | refine R.len S67 (h := ?_) | refine R.lenRs S67 (h := ?_) | refine R.lenV (run_lenNil S67) (h := ?_)
  rw [rowsSp_length]
  refine R.move (h := ?_)
  refine Reg.nil ⟨fun h => (by cases h), ?_⟩
  refine LGo.block ?_
  refine LGo.loop ?_
  refine LGo.loopG (σ := Nat) (fun x => x ≤ ls.length ∧ longS ls = longS (ls.drop x)) (fun x => [(12, (true, .i (x : Nat)))]) (fun x => []) (fun x => ls.length - x) (0) [(0, _), (10, _), (11, _)] ⟨by simp, by simp⟩ (by repeat (first | exact trivial | refine ⟨rfl, ?_⟩)) (by repeat (first | exact trivial | refine ⟨rfl, ?_⟩)) (by repeat (first | exact trivial | refine ⟨rfl, ?_⟩)) ?_
  rintro k ⟨hk, hq⟩ ih
  refine LGo.seq ?_
  refine LGo.region rfl ?_  -- region 2
  refine R.bin (run_lss _ _ _ _ _ _) (h := ?_)
  refine Reg.nil ⟨fun h => (by cases h), ?_⟩
  refine LGo.seq ?_
  refine LGo.ifd (ht := fun hc => ?_) (hf := fun hc => ?_)
  · -- then 1
    have hlt : k < ls.length := by omega
    have hx : (rowsSp ls)[((k : Nat) : Int).toNat]? = some [.sl 2 (spsC ls[k])] := by simp [rowsSp, hlt]
    rw [List.drop_eq_getElem_cons hlt] at hq
    generalize ls[k] = l at hx hq
    refine LGo.skip ?_
    refine LGo.seq ?_
    refine LGo.block ?_
    refine LGo.seq ?_
    refine LGo.region rfl ?_  -- region 3
    refine R.index I67 (hj := fun hg => ⟨by omega, hx⟩) (h := ?_)
    first | refine R.loadB O36 (h := ?_) | refine R.load1 O36 (h := ?_)
    refine R.assign (h := ?_)
    refine Reg.nil ⟨fun h => (by cases h), ?_⟩
    refine LGo.seq ?_
    refine LGo.region rfl ?_  -- region 4
    refine R.move (h := ?_)
    first | refine R.len S36 (h := ?_) | refine R.lenRs S36 (h := ?_) | refine R.lenV (run_lenNil S36) (h := ?_)
    rw [spsC_length]
    refine R.bin (run_gtr _ _ _ _ _ _) (h := ?_)
    refine Reg.nil ⟨fun h => (by cases h), ?_⟩
    refine LGo.ifd (ht := fun hc2 => ?_) (hf := fun hc2 => ?_)
    · -- then 2
      rw [show longS ls = true from by rw [hq]; simp only [longS]; simp only [decide_eq_true hc2, Bool.true_or], if_pos rfl] at e1; rw [← e1]
      refine LGo.seq ?_
      refine LGo.region rfl ?_  -- region 5
      refine R.assign (h := ?_)
      refine Reg.nil ⟨fun h => (by cases h), ?_⟩
      exact LGo.ret (ret_T Tryd.results43 hA hmd)
    · -- else 2
      rw [show longS (l :: ls.drop (k + 1)) = longS (ls.drop (k + 1)) from by simp only [longS]; rw [decide_eq_false hc2, Bool.false_or]] at hq
      refine LGo.skip ?_
      refine LGo.inBlock ?_
      refine LGo.region rfl ?_  -- region 6
      first | refine R.add (h := ?_) | refine R.addW (h := ?_)
      refine R.move (h := ?_)
      refine Reg.nil ⟨fun h => (by cases h), ?_⟩
      refine LGo.inLoop ?_
      exact LGo.next _ (fun o h => by have := (hA o).1 h; omega) (by omega) (ih (k + 1) ⟨hlt, hq⟩ (by omega)) (by repeat (first | exact trivial | refine ⟨rfl, ?_⟩)) (by repeat (first | exact trivial | refine ⟨rfl, ?_⟩))
  · -- else 1
    have hk' : k = ls.length := by omega
    subst hk'
    rw [List.drop_length] at hq
    have hq2 : longS ls = false := hq.trans rfl
    rw [if_neg (by rw [hq2]; simp)] at e1
    refine LGo.exit rfl ?_
    refine LGo.seq ?_
    refine LGo.seq ?_
    refine LGo.region rfl ?_  -- region 7
    refine R.move (h := ?_)
    first | refine R.len S67 (h := ?_) | refine R.lenRs S67 (h := ?_) | refine R.lenV (run_lenNil S67) (h := ?_)
    rw [rowsSp_length]
    refine R.move (h := ?_)
    refine Reg.nil ⟨fun h => (by cases h), ?_⟩
    refine LGo.block ?_
    refine LGo.loop ?_
    refine LGo.loopG (σ := Nat) (fun x => x ≤ ls.length ∧ listsS ls = listsS (ls.drop x)) (fun x => [(22, (true, .i (x : Nat)))]) (fun x => []) (fun x => ls.length - x) (0) [(20, _), (21, _)] ⟨by simp, by simp⟩ (by repeat (first | exact trivial | refine ⟨rfl, ?_⟩)) (by repeat (first | exact trivial | refine ⟨rfl, ?_⟩)) (by repeat (first | exact trivial | refine ⟨rfl, ?_⟩)) ?_
    rintro j ⟨hj, hr⟩ ih2
    refine LGo.seq ?_
    refine LGo.region rfl ?_  -- region 8
    refine R.bin (run_lss _ _ _ _ _ _) (h := ?_)
    refine Reg.nil ⟨fun h => (by cases h), ?_⟩
    refine LGo.seq ?_
    refine LGo.ifd (ht := fun hc3 => ?_) (hf := fun hc3 => ?_)
    · -- then 3
      have hlt : j < ls.length := by omega
      have hx : (rowsSp ls)[((j : Nat) : Int).toNat]? = some [.sl 2 (spsC ls[j])] := by simp [rowsSp, hlt]
      have hm := hls ls[j] (List.getElem_mem hlt)
      rw [List.drop_eq_getElem_cons hlt] at hr
      generalize ls[j] = l at hx hr hm
      refine LGo.skip ?_
      refine LGo.seq ?_
      refine LGo.block ?_
      refine LGo.seq ?_
      refine LGo.region rfl ?_  -- region 9
      refine R.index I67 (hj := fun hg => ⟨by omega, hx⟩) (h := ?_)
      first | refine R.loadB O36 (h := ?_) | refine R.load1 O36 (h := ?_)
      refine R.assign (h := ?_)
      refine Reg.nil ⟨fun h => (by cases h), ?_⟩
      refine LGo.seq ?_
      refine LGo.region rfl ?_  -- region 10
      refine R.move (h := ?_)
      first | refine R.len S36 (h := ?_) | refine R.lenRs S36 (h := ?_) | refine R.lenV (run_lenNil S36) (h := ?_)
      rw [spsC_length]
      refine R.move (h := ?_)
      refine Reg.nil ⟨fun h => (by cases h), ?_⟩
      refine LGo.block ?_
      refine LGo.loop ?_
      refine LGo.loopG (σ := Nat) (fun x => x ≤ l.length ∧ listS l = listS (l.drop x)) (fun x => [(28, (true, .i (x : Nat)))]) (fun x => []) (fun x => l.length - x) (0) [(20, _), (21, _), (22, _), (26, _), (27, _)] ⟨by simp, by simp⟩ (by repeat (first | exact trivial | refine ⟨rfl, ?_⟩)) (by repeat (first | exact trivial | refine ⟨rfl, ?_⟩)) (by repeat (first | exact trivial | refine ⟨rfl, ?_⟩)) ?_
      rintro i ⟨hi, hw⟩ ih3
      refine LGo.seq ?_
      refine LGo.region rfl ?_  -- region 11
      refine R.bin (run_lss _ _ _ _ _ _) (h := ?_)
      refine Reg.nil ⟨fun h => (by cases h), ?_⟩
      refine LGo.seq ?_
      refine LGo.ifd (ht := fun hc4 => ?_) (hf := fun hc4 => ?_)
      · -- then 4
        have hlti : i < l.length := by omega
        have hxi : (spsC l)[((i : Nat) : Int).toNat]? = some (spC l[i]) := by simp [spsC, hlti]
        rw [List.drop_eq_getElem_cons hlti] at hw
        generalize l[i] = s at hxi hw
        refine LGo.skip ?_
        refine LGo.seq ?_
        refine LGo.block ?_
        refine LGo.seq ?_
        refine LGo.region rfl ?_  -- region 12
        refine R.index I36 (hj := fun hg => ⟨by omega, hxi⟩) (h := ?_)
        first | refine R.loadA A43 (h := ?_) | refine R.loadN A43 (h := ?_)
        refine R.alloc Z43 (h := ?_)
        refine R.storeA A43 (h := ?_)
        refine Reg.nil ⟨fun h => (by cases h), ?_⟩
        refine LGo.seq ?_
        refine LGo.region rfl ?_  -- region 13
        first | refine R.loadA A43 (h := ?_) | refine R.loadN A43 (h := ?_)
        refine R.callP (es := [_]) (fun _ => check_P s) (h := ?_)
        refine R.assign (h := ?_)
        refine Reg.nil ⟨fun h => (by cases h), ?_⟩
        refine LGo.seq ?_
        refine LGo.region rfl ?_  -- region 14
        refine R.move (h := ?_)
        refine R.bin (run_neq _ _ _ _ _ _) (h := ?_)
        refine Reg.nil ⟨fun h => (by cases h), ?_⟩
        refine LGo.ifb (ht := fun hc5 => ?_) (hf := fun hc5 => ?_)
        · -- then 5
          have e2 : listS l = chkS s := by rw [hw]; simp only [listS]; rw [if_neg (by simpa using hc5)]
          have e3 : listsS ls = chkS s := by rw [hr]; simp only [listsS]; rw [if_neg (by rw [e2]; simpa using hc5), e2]
          rw [← e1, e3]
          refine LGo.seq ?_
          refine LGo.region rfl ?_  -- region 15
          refine R.move (h := ?_)
          refine R.assign (h := ?_)
          refine Reg.nil ⟨fun h => (by cases h), ?_⟩
          exact LGo.ret (ret_T Tryd.results43 hA hmd)
        · -- else 5
          have e2 : listS (s :: l.drop (i + 1)) = listS (l.drop (i + 1)) := by simp only [listS]; rw [if_pos (by simpa using hc5)]
          rw [e2] at hw
          refine LGo.skip ?_
          refine LGo.inBlock ?_
          refine LGo.region rfl ?_  -- region 16
          first | refine R.add (h := ?_) | refine R.addW (h := ?_)
          refine R.move (h := ?_)
          refine Reg.nil ⟨fun h => (by cases h), ?_⟩
          refine LGo.inLoop ?_
          exact LGo.next _ (fun o h => by have := (hA o).1 h; omega) (by omega) (ih3 (i + 1) ⟨hlti, hw⟩ (by omega)) (by repeat (first | exact trivial | refine ⟨rfl, ?_⟩)) (by repeat (first | exact trivial | refine ⟨rfl, ?_⟩))
      · -- else 4
        have hi' : i = l.length := by omega
        subst hi'
        rw [List.drop_length] at hw
        have hw2 : listS l = 0 := hw.trans rfl
        rw [show listsS (l :: ls.drop (j + 1)) = listsS (ls.drop (j + 1)) from by simp only [listsS]; rw [if_pos hw2]] at hr
        refine LGo.exit rfl ?_
        refine LGo.inBlock ?_
        refine LGo.region rfl ?_  -- region 17
        first | refine R.add (h := ?_) | refine R.addW (h := ?_)
        refine R.move (h := ?_)
        refine Reg.nil ⟨fun h => (by cases h), ?_⟩
        refine LGo.inLoop ?_
        exact LGo.next _ (fun o h => by have := (hA o).1 h; omega) (by omega) (ih2 (j + 1) ⟨hlt, hr⟩ (by omega)) (by repeat (first | exact trivial | refine ⟨rfl, ?_⟩)) (by repeat (first | exact trivial | refine ⟨rfl, ?_⟩))
    · -- else 3
      have hj' : j = ls.length := by omega
      subst hj'
      rw [List.drop_length] at hr
      have hr2 : listsS ls = 0 := hr.trans rfl
      rw [← e1, hr2]
      refine LGo.exit rfl ?_
      refine LGo.seq ?_
      refine LGo.region rfl ?_  -- region 18
      refine R.assign (h := ?_)
      refine Reg.nil ⟨fun h => (by cases h), ?_⟩
      exact LGo.ret (ret_T Tryd.results43 hA hmd)

end Go.Proofs.YtcekeipkofblmaaDoor
