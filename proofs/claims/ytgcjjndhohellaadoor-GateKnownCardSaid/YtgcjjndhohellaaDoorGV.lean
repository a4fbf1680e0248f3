/- gates: the law GateKnown (walk). -/
import Derived.Test.YtgcjjndhohellaaDoorGU
set_option linter.unusedSimpArgs false
set_option linter.unusedVariables false
namespace Go.Proofs.YtgcjjndhohellaaDoor

def knA : GtC := ⟨0, 3, 0, 1, 0, 2, 9⟩
def knB : GtC := ⟨0, 3, 0, 1, 0, 2, 20⟩
def knCc : GtC := ⟨2, 3, 0, 1, 0, 2, 10⟩
def knD : GtC := ⟨0, 3, 0, 2, 0, 2, 10⟩
def knE : GtC := ⟨0, 3, 0, 1, 1, 2, 10⟩
def kn2 : GtS := (enterS ex1 knD).1
def kn3 : GtS := (enterS kn2 knE).1
theorem kn2_s : SmS kn2 := enter_sm ex1_s (by decide) (by unfold U32; decide)
theorem kn3_l : ((kn3.ents.length : Nat) : Int) = 3 := by decide
theorem knA_P : PC Tryd.prog 12 [.agg (ex1.c.map LV.sv), .agg (knA.c.map LV.sv)] (.tup [.agg ((enterS ex1 knA).1.c.map LV.sv), .i 18]) := by
  have h := enter_P ex1 ex1_s knA (by unfold U32; decide)
  rw [show (enterS ex1 knA).2 = 18 from by decide] at h
  exact h
theorem knB_P : PC Tryd.prog 12 [.agg (ex1.c.map LV.sv), .agg (knB.c.map LV.sv)] (.tup [.agg ((enterS ex1 knB).1.c.map LV.sv), .i 13]) := by
  have h := enter_P ex1 ex1_s knB (by unfold U32; decide)
  rw [show (enterS ex1 knB).2 = 13 from by decide] at h
  exact h
theorem knCc_P : PC Tryd.prog 12 [.agg (ex1.c.map LV.sv), .agg (knCc.c.map LV.sv)] (.tup [.agg ((enterS ex1 knCc).1.c.map LV.sv), .i 4]) := by
  have h := enter_P ex1 ex1_s knCc (by unfold U32; decide)
  rw [show (enterS ex1 knCc).2 = 4 from by decide] at h
  exact h
theorem knD_P : PC Tryd.prog 12 [.agg (ex1.c.map LV.sv), .agg (knD.c.map LV.sv)] (.tup [.agg ((enterS ex1 knD).1.c.map LV.sv), .i 0]) := by
  have h := enter_P ex1 ex1_s knD (by unfold U32; decide)
  rw [show (enterS ex1 knD).2 = 0 from by decide] at h
  exact h
theorem knE_P : PC Tryd.prog 12 [.agg (kn2.c.map LV.sv), .agg (knE.c.map LV.sv)] (.tup [.agg ((enterS kn2 knE).1.c.map LV.sv), .i 0]) := by
  have h := enter_P kn2 kn2_s knE (by unfold U32; decide)
  rw [show (enterS kn2 knE).2 = 0 from by decide] at h
  exact h
theorem knCo : PC Tryd.prog 17 [.agg (ex1.c.map LV.sv), .i 2] (.tup [.i 0, .i 4]) := by
  have h := count_P ex1 ex1_s 2
  rw [show countS ex1 2 = (0, 4) from by decide] at h
  exact h

theorem known_W : PC Tryd.prog 4 [] (.b true) := by
 refine ⟨LC.of_go Tryd.func4 (c := _) rfl (by kernel_rfl) (by rw [Tryd.ntmps4]; simp) rfl rfl (by simp [LO.lt, LV.lts, LV.lt, lts_sv]) (by simp) ?_⟩
 intro B hA hmd
 refine .seq ?_
 refine .region rfl ?_
 refine R.assign (h := ?_)
 refine .n0 ?_
 refine .seq ?_
 refine .region rfl ?_
 refine R.callP (es := []) (fun _ => example_P) (h := ?_)
 refine R.callP (es := []) (fun _ => call_P) (h := ?_)
 refine R.callP (es := [_, _]) (fun _ => enter_ex) (h := ?_)
 refine R.move (h := ?_)
 refine R.extract (h := ?_)
 refine R.extract (h := ?_)
 refine R.alloc Z25 (h := ?_)
 refine R.storeA A25 (h := ?_)
 refine R.assign (h := ?_)
 refine .n0 ?_
 refine .seq ?_
 refine .region rfl ?_
 refine R.callP (es := []) (fun _ => call_P) (h := ?_)
 refine R.callP (es := []) (fun _ => call_P) (h := ?_)
 refine R.callP (es := []) (fun _ => call_P) (h := ?_)
 refine R.alloc Z31 (h := ?_)
 refine R.alloc Z31 (h := ?_)
 refine R.alloc Z31 (h := ?_)
 refine R.storeA A31 (h := ?_)
 refine R.storeA A31 (h := ?_)
 refine R.storeA A31 (h := ?_)
 refine .n0 ?_
 refine .seq ?_
 refine .region rfl ?_
 first | refine R.field F31_3 (h := ?_) | refine R.fieldAt F31_3 (h := ?_)
 refine R.storeB O2 (h := ?_)
 first | refine R.field F31_3 (h := ?_) | refine R.fieldAt F31_3 (h := ?_)
 refine R.storeB O2 (h := ?_)
 first | refine R.field F31_0 (h := ?_) | refine R.fieldAt F31_0 (h := ?_)
 refine R.storeB O3 (h := ?_)
 refine .n0 ?_
 refine .seq ?_
 refine .region rfl ?_
 first | refine R.loadA A25 (h := ?_) | refine R.loadN A25 (h := ?_) | refine R.loadP A25 (h := ?_)
 first | refine R.loadA A31 (h := ?_) | refine R.loadN A31 (h := ?_) | refine R.loadP A31 (h := ?_)
 refine R.callP (es := [_, _]) (fun _ => knA_P) (h := ?_)
 refine R.move (h := ?_)
 refine R.extract (h := ?_)
 refine R.extract (h := ?_)
 refine R.alloc Z25 (h := ?_)
 refine R.storeA A25 (h := ?_)
 refine R.assign (h := ?_)
 refine .n0 ?_
 refine .seq ?_
 refine .region rfl ?_
 first | refine R.loadA A25 (h := ?_) | refine R.loadN A25 (h := ?_) | refine R.loadP A25 (h := ?_)
 first | refine R.loadA A31 (h := ?_) | refine R.loadN A31 (h := ?_) | refine R.loadP A31 (h := ?_)
 refine R.callP (es := [_, _]) (fun _ => knB_P) (h := ?_)
 refine R.move (h := ?_)
 refine R.extract (h := ?_)
 refine R.extract (h := ?_)
 refine R.alloc Z25 (h := ?_)
 refine R.storeA A25 (h := ?_)
 refine R.assign (h := ?_)
 refine .n0 ?_
 refine .seq ?_
 refine .region rfl ?_
 first | refine R.loadA A25 (h := ?_) | refine R.loadN A25 (h := ?_) | refine R.loadP A25 (h := ?_)
 first | refine R.loadA A31 (h := ?_) | refine R.loadN A31 (h := ?_) | refine R.loadP A31 (h := ?_)
 refine R.callP (es := [_, _]) (fun _ => knCc_P) (h := ?_)
 refine R.move (h := ?_)
 refine R.extract (h := ?_)
 refine R.extract (h := ?_)
 refine R.alloc Z25 (h := ?_)
 refine R.storeA A25 (h := ?_)
 refine R.assign (h := ?_)
 refine .n0 ?_
 refine .seq ?_
 refine .region rfl ?_
 refine R.callP (es := []) (fun _ => call_P) (h := ?_)
 refine R.callP (es := []) (fun _ => call_P) (h := ?_)
 refine R.alloc Z31 (h := ?_)
 refine R.alloc Z31 (h := ?_)
 refine R.storeA A31 (h := ?_)
 refine R.storeA A31 (h := ?_)
 refine .n0 ?_
 refine .seq ?_
 refine .region rfl ?_
 first | refine R.field F31_1 (h := ?_) | refine R.fieldAt F31_1 (h := ?_)
 first | refine R.field F29_2 (h := ?_) | refine R.fieldAt F29_2 (h := ?_)
 refine R.storeB O27 (h := ?_)
 first | refine R.field F31_1 (h := ?_) | refine R.fieldAt F31_1 (h := ?_)
 first | refine R.field F29_3 (h := ?_) | refine R.fieldAt F29_3 (h := ?_)
 refine R.storeB O27 (h := ?_)
 refine .n0 ?_
 refine .seq ?_
 refine .region rfl ?_
 first | refine R.loadA A25 (h := ?_) | refine R.loadN A25 (h := ?_) | refine R.loadP A25 (h := ?_)
 first | refine R.loadA A31 (h := ?_) | refine R.loadN A31 (h := ?_) | refine R.loadP A31 (h := ?_)
 refine R.callP (es := [_, _]) (fun _ => knD_P) (h := ?_)
 refine R.move (h := ?_)
 refine R.extract (h := ?_)
 refine R.extract (h := ?_)
 refine R.alloc Z25 (h := ?_)
 refine R.storeA A25 (h := ?_)
 refine R.assign (h := ?_)
 refine .n0 ?_
 refine .seq ?_
 refine .region rfl ?_
 first | refine R.loadA A25 (h := ?_) | refine R.loadN A25 (h := ?_) | refine R.loadP A25 (h := ?_)
 first | refine R.loadA A31 (h := ?_) | refine R.loadN A31 (h := ?_) | refine R.loadP A31 (h := ?_)
 refine R.callP (es := [_, _]) (fun _ => knE_P) (h := ?_)
 refine R.move (h := ?_)
 refine R.extract (h := ?_)
 refine R.extract (h := ?_)
 refine R.alloc Z25 (h := ?_)
 refine R.storeA A25 (h := ?_)
 refine R.assign (h := ?_)
 refine .n0 ?_
 refine .seq ?_
 refine .region rfl ?_
 first | refine R.loadA A25 (h := ?_) | refine R.loadN A25 (h := ?_) | refine R.loadP A25 (h := ?_)
 refine R.callP (es := [_, _]) (fun _ => knCo) (h := ?_)
 refine R.move (h := ?_)
 refine R.extract (h := ?_)
 refine R.extract (h := ?_)
 refine R.assign (h := ?_)
 refine R.assign (h := ?_)
 refine .n0 ?_
 refine .seq ?_
 refine .region rfl ?_
 refine R.move (h := ?_)
 refine R.bin (run_eql _ _ _ _ _ _) (h := ?_)
 refine R.move (h := ?_)
 refine R.move (h := ?_)
 refine R.bin (run_eql _ _ _ _ _ _) (h := ?_)
 refine R.and (h := ?_)
 refine R.move (h := ?_)
 refine R.move (h := ?_)
 refine R.bin (run_eql _ _ _ _ _ _) (h := ?_)
 refine R.and (h := ?_)
 refine R.move (h := ?_)
 refine R.move (h := ?_)
 refine R.bin (run_eql _ _ _ _ _ _) (h := ?_)
 refine R.and (h := ?_)
 refine R.move (h := ?_)
 refine R.move (h := ?_)
 refine R.bin (run_eql _ _ _ _ _ _) (h := ?_)
 refine R.and (h := ?_)
 refine R.move (h := ?_)
 first | refine R.field F25_1 (h := ?_) | refine R.fieldAt F25_1 (h := ?_)
 first | refine R.loadB O23 (h := ?_) | refine R.load1 O23 (h := ?_)
 first | refine R.len S23 (h := ?_) | refine R.lenRs S23 (h := ?_) | refine R.lenV (run_lenNil S23) (h := ?_)
 rw [List.length_map, show ((enterS kn2 knE).1.ents.length : Int) = 3 from kn3_l]
 refine R.bin (run_eql _ _ _ _ _ _) (h := ?_)
 refine R.and (h := ?_)
 refine R.move (h := ?_)
 refine R.move (h := ?_)
 refine R.bin (run_eql _ _ _ _ _ _) (h := ?_)
 refine R.and (h := ?_)
 refine R.move (h := ?_)
 refine R.callP (es := []) (fun _ => shown_P) (h := ?_)
 refine R.and (h := ?_)
 refine R.assign (h := ?_)
 refine .n0 ?_
 exact LGo.ret (ret_T Tryd.results4 hA hmd)

end Go.Proofs.YtgcjjndhohellaaDoor
