/- requests: the law's own checks. -/
import Derived.Test.YtckbomkcnmcdaaaGreatDoorRG
set_option linter.unusedSimpArgs false
set_option linter.unusedVariables false
namespace Go.Proofs.YtckbomkcnmcdaaaGreatDoor

def openQ : Rq := { zeroQ with kind := 1, id := 7, owner := 5 }
def open7 : Rq := { zeroQ with kind := 1, id := 7 }
theorem openQ_ok : RqOk openQ := ⟨by simp [openQ, R64], by simp [openQ], by simp [openQ], by simp [openQ], by simp [openQ, maxLen], by simp [openQ, maxLen], by simp [openQ, R64], by simp [openQ, R64], by simp [openQ, R64], by simp [openQ, R64]⟩
theorem encO : PC Tryz.prog 18 [.agg (openQ.c.map LV.sv)] (.tup [.sv (.sl 1 (bytesC [1, 1, 1, 7, 2, 1, 5])), .i 0]) := by
  have h := encQ_P openQ openQ_ok ⟨by simp [openQ], by simp [openQ]⟩
  rw [show encQ openQ = ([1, 1, 1, 7, 2, 1, 5], 0) from by decide +kernel] at h
  exact h
theorem decO : PC Tryz.prog 22 [.sv (.sl 1 (bytesC [1, 1, 1, 7, 2, 0]))] (.tup [.agg (open7.c.map LV.sv), .i 0, .i 0]) := by
  have h := decQ_P [1, 1, 1, 7, 2, 0] (by decide)
  rw [show decQ [1, 1, 1, 7, 2, 0] = (open7, 0, 0) from by kernel_rfl] at h
  exact h
theorem decO2 : PC Tryz.prog 22 [.sv (.sl 1 (bytesC [1, 1, 1, 7]))] (.tup [.agg (zeroQ.c.map LV.sv), .i 4, .i 11]) := by
  have h := decQ_P [1, 1, 1, 7] (by decide)
  rw [show decQ [1, 1, 1, 7] = (zeroQ, 4, 11) from by kernel_rfl] at h
  exact h
theorem needsO : PC Tryz.prog 14 [.i 6] (.tup [.b true, .b true, .i 0]) := by
  have h := needsQ_P 6
  rw [show needsQ 6 = (true, true, 0) from by decide +kernel] at h
  exact h
theorem parseO : PC Tryz.prog 26 [.t [111, 112, 101, 110, 32, 55, 32, 53]] (.tup [.agg (openQ.c.map LV.sv), .i 0]) := by
  have h := parseQ_P [111, 112, 101, 110, 32, 55, 32, 53]
  rw [show parseQ [111, 112, 101, 110, 32, 55, 32, 53] = (openQ, 0) from by kernel_rfl] at h
  exact h
theorem dq5 : Lib.decDigits 5 = [53] := by rw [Lib.decDigits]; rfl
theorem dq7 : Lib.decDigits 7 = [55] := by rw [Lib.decDigits]; rfl
theorem printO : PC Tryz.prog 24 [.agg (openQ.c.map LV.sv)] (.tup [.t [111, 112, 101, 110, 32, 55, 32, 53], .i 0]) := by
  have h := printQ_P openQ openQ_ok ⟨by simp [openQ], by simp [openQ]⟩
  have hc : fieldsOf openQ = ([⟨1, 7, []⟩, ⟨2, 5, []⟩], 0) := by kernel_rfl
  have hp : printQ openQ = ([111, 112, 101, 110, 32, 55, 32, 53], 0) := by
    unfold printQ
    rw [hc, if_neg (by decide)]
    simp only [List.map_cons, List.map_nil]
    rw [show partQ ⟨1, 7, []⟩ = Lib.decDigits 7 from rfl, show partQ ⟨2, 5, []⟩ = Lib.decDigits 5 from rfl, dq5, dq7, Lib.join_cons]
    decide +kernel
  rw [hp] at h
  exact h

theorem open_P : PC Tryz.prog 28 [] (.agg (openQ.c.map LV.sv)) := by
 refine ⟨LC.of_go Tryz.func28 (c := _) rfl (by kernel_rfl) (by rw [Tryz.ntmps28]; simp) rfl rfl (by simp [LO.lt, LV.lts, LV.lt]) (by simp) ?_⟩
 intro B hA hmd
 refine .seq ?_
 refine .region rfl ?_
 refine R.alloc Z35 (h := ?_)
 refine .n0 ?_
 refine .seq ?_
 refine .region rfl ?_
 refine R.build BF35 (is := [0, 1, 2]) (xs := [_, _, _]) (es := [_, _, _]) (h := ?_)
 refine R.storeA A35 (h := ?_)
 refine .n0 ?_
 exact LGo.ret (ret_A Tryz.results28 A35 hA hmd)

theorem shown_P : PC Tryz.prog 16 [] (.b true) := by
 refine ⟨LC.of_go Tryz.func16 (c := _) rfl (by kernel_rfl) (by rw [Tryz.ntmps16]; simp) rfl rfl (by simp [LO.lt, LV.lts, LV.lt]) (by simp) ?_⟩
 intro B hA hmd
 refine .seq ?_
 refine .region rfl ?_
 refine R.assign (h := ?_)
 refine .n0 ?_
 refine .seq ?_
 refine .region rfl ?_
 refine R.callP (es := []) (fun _ => open_P) (h := ?_)
 refine R.callP (es := [_]) (fun _ => encO) (h := ?_)
 refine R.move (h := ?_)
 refine R.extract (h := ?_)
 refine R.extract (h := ?_)
 refine R.assign (h := ?_)
 refine R.assign (h := ?_)
 refine .n0 ?_
 refine .seq ?_
 refine .region rfl ?_
 refine R.buildSliceF AP37 (bytesC [1, 1, 1, 7, 2, 0]) (xs := [_, _, _, _, _, _]) (es := [_, _, _, _, _, _]) (hcs := CellsOfs.cons (CellsOf.one rfl) (CellsOfs.cons (CellsOf.one rfl) (CellsOfs.cons (CellsOf.one rfl) (CellsOfs.cons (CellsOf.one rfl) (CellsOfs.cons (CellsOf.one rfl) (CellsOfs.cons (CellsOf.one rfl) (CellsOfs.nil))))))) (h := ?_)
 refine R.callP (es := [_]) (fun _ => decO) (h := ?_)
 refine R.move (h := ?_)
 refine R.extract (h := ?_)
 refine R.extract (h := ?_)
 refine R.extract (h := ?_)
 refine R.alloc Z35 (h := ?_)
 refine R.storeA A35 (h := ?_)
 refine R.assign (h := ?_)
 refine R.assign (h := ?_)
 refine .n0 ?_
 refine .seq ?_
 refine .region rfl ?_
 refine R.buildSliceF AP37 (bytesC [1, 1, 1, 7]) (xs := [_, _, _, _]) (es := [_, _, _, _]) (hcs := CellsOfs.cons (CellsOf.one rfl) (CellsOfs.cons (CellsOf.one rfl) (CellsOfs.cons (CellsOf.one rfl) (CellsOfs.cons (CellsOf.one rfl) (CellsOfs.nil))))) (h := ?_)
 refine R.callP (es := [_]) (fun _ => decO2) (h := ?_)
 refine R.move (h := ?_)
 refine R.extract (h := ?_)
 refine R.extract (h := ?_)
 refine R.extract (h := ?_)
 refine R.alloc Z35 (h := ?_)
 refine R.storeA A35 (h := ?_)
 refine R.assign (h := ?_)
 refine R.assign (h := ?_)
 refine .n0 ?_
 refine .seq ?_
 refine .region rfl ?_
 refine R.callP (es := [_]) (fun _ => needsO) (h := ?_)
 refine R.move (h := ?_)
 refine R.extract (h := ?_)
 refine R.extract (h := ?_)
 refine R.extract (h := ?_)
 refine R.assign (h := ?_)
 refine R.assign (h := ?_)
 refine R.assign (h := ?_)
 refine .n0 ?_
 refine .seq ?_
 refine .region rfl ?_
 refine R.callP (es := [_]) (fun _ => parseO) (h := ?_)
 refine R.move (h := ?_)
 refine R.extract (h := ?_)
 refine R.extract (h := ?_)
 refine R.alloc Z35 (h := ?_)
 refine R.storeA A35 (h := ?_)
 refine R.assign (h := ?_)
 refine .n0 ?_
 refine .seq ?_
 refine .region rfl ?_
 refine R.callP (es := []) (fun _ => open_P) (h := ?_)
 refine R.callP (es := [_]) (fun _ => printO) (h := ?_)
 refine R.move (h := ?_)
 refine R.extract (h := ?_)
 refine R.extract (h := ?_)
 refine R.assign (h := ?_)
 refine R.assign (h := ?_)
 refine .n0 ?_
 refine .seq ?_
 refine .region rfl ?_
 refine R.move (h := ?_)
 refine R.toString Tryz.underlying37 Tryz.underlying5 Tryz.underlying9 (h := ?_)
 refine R.bin (run_eqlT _ _ _ _ _) (h := ?_)
 refine R.move (h := ?_)
 refine R.move (h := ?_)
 refine R.bin (run_eql _ _ _ _ _ _) (h := ?_)
 refine R.and (h := ?_)
 refine R.move (h := ?_)
 first | refine R.loadA A35 (h := ?_) | refine R.loadN A35 (h := ?_) | refine R.loadP A35 (h := ?_)
 refine R.build BF35 (is := [0, 1]) (xs := [_, _]) (es := [_, _]) (h := ?_)
 refine R.binA (EQ35 _ _ _ _ _ _ _ _ _ _ _ _ _ _ _ _ _ _ _ _ _ _) (h := ?_)
 refine R.and (h := ?_)
 refine R.move (h := ?_)
 refine R.move (h := ?_)
 refine R.bin (run_eql _ _ _ _ _ _) (h := ?_)
 refine R.and (h := ?_)
 refine R.move (h := ?_)
 refine R.move (h := ?_)
 refine R.bin (run_eql _ _ _ _ _ _) (h := ?_)
 refine R.and (h := ?_)
 refine R.move (h := ?_)
 refine R.move (h := ?_)
 refine R.bin (run_eql _ _ _ _ _ _) (h := ?_)
 refine R.and (h := ?_)
 refine R.move (h := ?_)
 refine R.move (h := ?_)
 refine R.bin (run_eql _ _ _ _ _ _) (h := ?_)
 refine R.and (h := ?_)
 refine R.move (h := ?_)
 refine R.move (h := ?_)
 refine R.and (h := ?_)
 refine R.move (h := ?_)
 refine R.move (h := ?_)
 refine R.and (h := ?_)
 refine R.move (h := ?_)
 refine R.move (h := ?_)
 refine R.bin (run_eql _ _ _ _ _ _) (h := ?_)
 refine R.and (h := ?_)
 refine R.move (h := ?_)
 first | refine R.loadA A35 (h := ?_) | refine R.loadN A35 (h := ?_) | refine R.loadP A35 (h := ?_)
 refine R.callP (es := []) (fun _ => open_P) (h := ?_)
 refine R.binA (EQ35 _ _ _ _ _ _ _ _ _ _ _ _ _ _ _ _ _ _ _ _ _ _) (h := ?_)
 refine R.and (h := ?_)
 refine R.move (h := ?_)
 refine R.move (h := ?_)
 refine R.bin (run_eql _ _ _ _ _ _) (h := ?_)
 refine R.and (h := ?_)
 refine R.move (h := ?_)
 refine R.move (h := ?_)
 refine R.bin (run_eqlT _ _ _ _ _) (h := ?_)
 refine R.and (h := ?_)
 refine R.move (h := ?_)
 refine R.move (h := ?_)
 refine R.bin (run_eql _ _ _ _ _ _) (h := ?_)
 refine R.and (h := ?_)
 refine R.assign (h := ?_)
 refine Reg.nil ⟨fun _ => ⟨mixedO, by rfl, by rfl⟩, ?_⟩
 exact LGo.ret (ret_T Tryz.results16 hA hmd)

theorem farQ_P (r : Rq) : PC Tryz.prog 17 [.agg (r.c.map LV.sv)] (.b (decide (300 < (r.ses.length : Int)) || decide (300 < (r.tic.length : Int)))) := by
 refine ⟨LC.of_go Tryz.func17 (c := _) rfl (by kernel_rfl) (by rw [Tryz.ntmps17]; simp) rfl rfl (by simp [LO.lt, LV.lts, LV.lt]) (by simp) ?_⟩
 intro B hA hmd
 refine .seq ?_
 refine .region rfl ?_
 refine R.box (h := ?_)
 refine R.assign (h := ?_)
 refine .n0 ?_
 refine .seq ?_
 refine .region rfl ?_
 first | refine R.field F35_4 (h := ?_) | refine R.fieldAt F35_4 (h := ?_)
 first | refine R.loadB O9 (h := ?_) | refine R.load1 O9 (h := ?_)
 refine R.lenT Tryz.runUnderlying9 (h := ?_)
 refine R.bin (run_gtr _ _ _ _ _ _) (h := ?_)
 refine R.move (h := ?_)
 first | refine R.field F35_5 (h := ?_) | refine R.fieldAt F35_5 (h := ?_)
 first | refine R.loadB O9 (h := ?_) | refine R.load1 O9 (h := ?_)
 refine R.lenT Tryz.runUnderlying9 (h := ?_)
 refine R.bin (run_gtr _ _ _ _ _ _) (h := ?_)
 refine R.or (h := ?_)
 refine R.assign (h := ?_)
 refine .n0 ?_
 exact LGo.ret (ret_T Tryz.results17 hA hmd)

end Go.Proofs.YtckbomkcnmcdaaaGreatDoor
