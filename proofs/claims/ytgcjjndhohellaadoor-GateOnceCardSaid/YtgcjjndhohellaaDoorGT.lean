/- gates: the law's own check. -/
import Derived.Test.YtgcjjndhohellaaDoorGS
set_option linter.unusedSimpArgs false
set_option linter.unusedVariables false
namespace Go.Proofs.YtgcjjndhohellaaDoor

theorem dgs (n : Nat) (h : n < 10) : Lib.decDigits n = [UInt8.ofNat (48 + n)] := by rw [Lib.decDigits, dif_pos h]
theorem dgs2 (n : Nat) (h : 10 ≤ n) (h2 : n < 100) : Lib.decDigits n = [UInt8.ofNat (48 + n / 10), UInt8.ofNat (48 + n % 10)] := by rw [Lib.decDigits, dif_neg (by omega), dgs (n / 10) (by omega)]; rfl
theorem itd (n : Nat) (h : n < 10) : Lib.itoa (n : Int) = [UInt8.ofNat (48 + n)] := by unfold Lib.itoa; rw [if_neg (by omega), Int.toNat_natCast, dgs n h]
theorem itd2 (n : Nat) (h : 10 ≤ n) (h2 : n < 100) : Lib.itoa (n : Int) = [UInt8.ofNat (48 + n / 10), UInt8.ofNat (48 + n % 10)] := by unfold Lib.itoa; rw [if_neg (by omega), Int.toNat_natCast, dgs2 n h h2]
def exE : GtE := ⟨3, 1, 0, 0, 10⟩
def ex1 : GtS := ⟨exG, [exE]⟩
def exC2 : GtC := ⟨0, 3, 0, 1, 0, 2, 19⟩
def exC3 : GtC := ⟨0, 3, 0, 1, 0, 1, 10⟩
def exT : List UInt8 := [103, 97, 116, 101, 32, 49, 48, 32, 50, 48, 32, 48, 44, 50, 10, 103, 97, 116, 101, 32, 48, 32, 53, 32, 49, 10, 105, 110, 32, 51, 32, 48, 32, 49, 32, 48, 32, 49, 48, 10]
theorem exS_s : SmS exS := by unfold SmS SmG U32; decide
theorem ex1_s : SmS ex1 := by unfold SmS SmG U32; decide
theorem ex_enter : enterS exS exC = (ex1, 0) := by decide
theorem ex_enter2 : enterS ex1 exC2 = (GtS.zero, 8) := by decide
theorem ex_enter3 : enterS ex1 exC3 = (GtS.zero, 15) := by decide
theorem ex_count : countS ex1 0 = (1, 0) := by decide
theorem ex_find : findS ex1 (3, 0, 1) = (exE, 0) := by decide
theorem listE1 : listW [0, 2] = ([48, 44, 50], 0) := by
  unfold listW
  rw [if_neg (by decide), if_neg (by decide +kernel), if_neg (by decide +kernel), if_neg (by decide)]
  have h0 := itd 0 (by decide)
  have h2 := itd 2 (by decide)
  simp [listGo, runLen, sepL, runTxt] at h0 h2 ⊢
  simp [h0, h2]
theorem listE2 : listW [1] = ([49], 0) := by
  unfold listW
  rw [if_neg (by decide), if_neg (by decide +kernel), if_neg (by decide +kernel), if_neg (by decide)]
  have h0 := itd 1 (by decide)
  simp [listGo, runLen, sepL, runTxt] at h0 ⊢
  simp [h0]
theorem ex_print : printG ex1 = exT := by
  have h0 := itd 0 (by decide)
  have h5 := itd 5 (by decide)
  have h10 := itd2 10 (by decide) (by decide)
  have h20 := itd2 20 (by decide) (by decide)
  have d0 := dgs 0 (by decide)
  have d1 := dgs 1 (by decide)
  have d3 := dgs 3 (by decide)
  have d10 := dgs2 10 (by decide) (by decide)
  simp at h0 h5 h10 h20 d0 d1 d3 d10
  unfold printG ex1 exG
  simp [lineG, lineE, numsE, spN, GtE.key, exE, listE1, listE2, h0, h5, h10, h20, d0, d1, d3, d10, exT]
theorem print_ex : PC Tryd.prog 29 [.agg (ex1.c.map LV.sv)] (.tup [.t exT, .i 0]) := by
  have h := print_P ex1 ex1_s (by decide) (by
    intro g hg
    simp only [ex1, exG, List.mem_cons, List.not_mem_nil, or_false] at hg
    rcases hg with rfl | rfl
    · exact ⟨by unfold S64; decide, by unfold S64; decide, by unfold S64; decide, by rw [listE1]; decide⟩
    · exact ⟨by unfold S64; decide, by unfold S64; decide, by unfold S64; decide, by rw [listE2]; decide⟩) (by decide) (by decide) (by unfold U64 S64; decide) (by decide)
  rw [ex_print] at h
  exact h
theorem enter_ex : PC Tryd.prog 12 [.agg (exS.c.map LV.sv), .agg (exC.c.map LV.sv)] (.tup [.agg (ex1.c.map LV.sv), .i 0]) := by
  have h := enter_P exS exS_s exC (by unfold U32; decide)
  rw [ex_enter] at h
  exact h
theorem enter_ex2 : PC Tryd.prog 12 [.agg (ex1.c.map LV.sv), .agg (exC2.c.map LV.sv)] (.tup [.agg (GtS.zero.c.map LV.sv), .i 8]) := by
  have h := enter_P ex1 ex1_s exC2 (by unfold U32; decide)
  rw [ex_enter2] at h
  exact h
theorem enter_ex3 : PC Tryd.prog 12 [.agg (ex1.c.map LV.sv), .agg (exC3.c.map LV.sv)] (.tup [.agg (GtS.zero.c.map LV.sv), .i 15]) := by
  have h := enter_P ex1 ex1_s exC3 (by unfold U32; decide)
  rw [ex_enter3] at h
  exact h
theorem count_ex : PC Tryd.prog 17 [.agg (ex1.c.map LV.sv), .i 0] (.tup [.i 1, .i 0]) := by
  have h := count_P ex1 ex1_s 0
  rw [ex_count] at h
  exact h
theorem find_ex : PC Tryd.prog 15 [.agg (ex1.c.map LV.sv), .agg (tkC 3 9 1 0)] (.tup [.agg (exE.c.map LV.sv), .i 0]) := by
  have h := find_P ex1 ex1_s 3 9 1 0 (by unfold U32; decide)
  rw [ex_find] at h
  exact h

theorem shown_P : PC Tryd.prog 10 [] (.b true) := by
 refine ⟨LC.of_go Tryd.func10 (c := _) rfl (by kernel_rfl) (by rw [Tryd.ntmps10]; simp) rfl rfl (by simp [LO.lt, LV.lts, LV.lt, lts_sv]) (by simp) ?_⟩
 intro B hA hmd
 refine .seq ?_
 refine .region rfl ?_
 refine R.assign (h := ?_)
 refine .n0 ?_
 refine .seq ?_
 refine .region rfl ?_
 refine R.callP (es := []) (fun _ => example_P) (h := ?_)
 refine R.callP (es := []) (fun _ => call_P) (h := ?_)
 refine R.callP (es := [_, _]) (fun _ => enter_ex) (h := ?_)
 refine R.move (h := ?_)
 refine R.extract (h := ?_)
 refine R.extract (h := ?_)
 refine R.alloc Z25 (h := ?_)
 refine R.storeA A25 (h := ?_)
 refine R.assign (h := ?_)
 refine .n0 ?_
 refine .seq ?_
 refine .region rfl ?_
 refine R.callP (es := []) (fun _ => call_P) (h := ?_)
 refine R.alloc Z31 (h := ?_)
 refine R.storeA A31 (h := ?_)
 refine .n0 ?_
 refine .seq ?_
 refine .region rfl ?_
 first | refine R.field F31_3 (h := ?_) | refine R.fieldAt F31_3 (h := ?_)
 refine R.storeB O2 (h := ?_)
 refine .n0 ?_
 refine .seq ?_
 refine .region rfl ?_
 first | refine R.loadA A25 (h := ?_) | refine R.loadN A25 (h := ?_) | refine R.loadP A25 (h := ?_)
 first | refine R.loadA A31 (h := ?_) | refine R.loadN A31 (h := ?_) | refine R.loadP A31 (h := ?_)
 refine R.callP (es := [_, _]) (fun _ => enter_ex2) (h := ?_)
 refine R.move (h := ?_)
 refine R.extract (h := ?_)
 refine R.extract (h := ?_)
 refine R.alloc Z25 (h := ?_)
 refine R.storeA A25 (h := ?_)
 refine R.assign (h := ?_)
 refine .n0 ?_
 refine .seq ?_
 refine .region rfl ?_
 refine R.callP (es := []) (fun _ => call_P) (h := ?_)
 refine R.alloc Z31 (h := ?_)
 refine R.storeA A31 (h := ?_)
 refine .n0 ?_
 refine .seq ?_
 refine .region rfl ?_
 first | refine R.field F31_2 (h := ?_) | refine R.fieldAt F31_2 (h := ?_)
 refine R.storeB O3 (h := ?_)
 refine .n0 ?_
 refine .seq ?_
 refine .region rfl ?_
 first | refine R.loadA A25 (h := ?_) | refine R.loadN A25 (h := ?_) | refine R.loadP A25 (h := ?_)
 first | refine R.loadA A31 (h := ?_) | refine R.loadN A31 (h := ?_) | refine R.loadP A31 (h := ?_)
 refine R.callP (es := [_, _]) (fun _ => enter_ex3) (h := ?_)
 refine R.move (h := ?_)
 refine R.extract (h := ?_)
 refine R.extract (h := ?_)
 refine R.alloc Z25 (h := ?_)
 refine R.storeA A25 (h := ?_)
 refine R.assign (h := ?_)
 refine .n0 ?_
 refine .seq ?_
 refine .region rfl ?_
 first | refine R.loadA A25 (h := ?_) | refine R.loadN A25 (h := ?_) | refine R.loadP A25 (h := ?_)
 refine R.callP (es := [_]) (fun _ => print_ex) (h := ?_)
 refine R.move (h := ?_)
 refine R.extract (h := ?_)
 refine R.extract (h := ?_)
 refine R.assign (h := ?_)
 refine R.assign (h := ?_)
 refine .n0 ?_
 refine .seq ?_
 refine .region rfl ?_
 first | refine R.loadA A25 (h := ?_) | refine R.loadN A25 (h := ?_) | refine R.loadP A25 (h := ?_)
 refine R.callP (es := [_, _]) (fun _ => count_ex) (h := ?_)
 refine R.move (h := ?_)
 refine R.extract (h := ?_)
 refine R.extract (h := ?_)
 refine R.assign (h := ?_)
 refine R.assign (h := ?_)
 refine .n0 ?_
 refine .seq ?_
 refine .region rfl ?_
 first | refine R.loadA A25 (h := ?_) | refine R.loadN A25 (h := ?_) | refine R.loadP A25 (h := ?_)
 refine R.build BF29 (is := [0, 2, 1]) (xs := [_, _, _]) (es := [_, _, _]) (h := ?_)
 refine R.callP (es := [_, _]) (fun _ => find_ex) (h := ?_)
 refine R.move (h := ?_)
 refine R.extract (h := ?_)
 refine R.extract (h := ?_)
 refine R.alloc Z40 (h := ?_)
 refine R.storeA A40 (h := ?_)
 refine R.assign (h := ?_)
 refine .n0 ?_
 refine .seq ?_
 refine .region rfl ?_
 refine R.move (h := ?_)
 refine R.bin (run_eql _ _ _ _ _ _) (h := ?_)
 refine R.move (h := ?_)
 refine R.move (h := ?_)
 refine R.bin (run_eql _ _ _ _ _ _) (h := ?_)
 refine R.and (h := ?_)
 refine R.move (h := ?_)
 refine R.move (h := ?_)
 refine R.bin (run_eql _ _ _ _ _ _) (h := ?_)
 refine R.and (h := ?_)
 refine R.move (h := ?_)
 refine R.move (h := ?_)
 refine R.bin (run_eqlT _ _ _ _ _) (h := ?_)
 refine R.and (h := ?_)
 refine R.move (h := ?_)
 refine R.move (h := ?_)
 refine R.bin (run_eql _ _ _ _ _ _) (h := ?_)
 refine R.and (h := ?_)
 refine R.move (h := ?_)
 refine R.move (h := ?_)
 refine R.bin (run_eql _ _ _ _ _ _) (h := ?_)
 refine R.and (h := ?_)
 refine R.move (h := ?_)
 refine R.move (h := ?_)
 refine R.bin (run_eql _ _ _ _ _ _) (h := ?_)
 refine R.and (h := ?_)
 refine R.move (h := ?_)
 first | refine R.loadA A40 (h := ?_) | refine R.loadN A40 (h := ?_) | refine R.loadP A40 (h := ?_)
 refine R.build BF40 (is := [0, 1, 4]) (xs := [_, _, _]) (es := [_, _, _]) (h := ?_)
 refine R.binA (EQ40 _ _ _ _ _ _ _ _ _ _ _ _) (h := ?_)
 refine R.and (h := ?_)
 refine R.move (h := ?_)
 refine R.move (h := ?_)
 refine R.bin (run_eql _ _ _ _ _ _) (h := ?_)
 refine R.and (h := ?_)
 refine R.assign (h := ?_)
 refine .n0 ?_
 exact LGo.ret (ret_T Tryd.results10 hA hmd)

end Go.Proofs.YtgcjjndhohellaaDoor
