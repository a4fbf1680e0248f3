/- responses: the law's own checks. -/
import Derived.Test.YtcobkjognpjikaaGreatDoorPB
import Derived.Test.YtcobkjognpjikaaGreatDoorRP
set_option linter.unusedSimpArgs false
set_option linter.unusedVariables false
namespace Go.Proofs.YtcobkjognpjikaaGreatDoor

def holdQ : Rq := ⟨2, 7, 0, 0, List.replicate 44 0, [], 0, 0, 0, 0⟩
def malS : Rs := { zeroS with err := 11 }
def refS : Rs := { zeroS with kind := 2, id := 7, err := 15 }
def heldS : Rs := { zeroS with kind := 2, id := 7, dl := 300 }
theorem holdQ_ok : RqOk holdQ := ⟨by simp [holdQ, R64], by simp [holdQ], by simp [holdQ], by simp [holdQ], by simp [holdQ, maxLen], by simp [holdQ], by simp [holdQ, R64], by simp [holdQ, R64], by simp [holdQ, R64], by simp [holdQ, R64]⟩
theorem malS_ok : RsOk malS := ⟨by simp [malS, R64], by simp [malS], by simp [malS, R64], by simp [malS], by simp [malS], by simp [malS, R64], by simp [malS, R64], by simp [malS, R64], by simp [malS, R64]⟩
theorem refS_ok : RsOk refS := ⟨by simp [refS, R64], by simp [refS], by simp [refS, R64], by simp [refS], by simp [refS], by simp [refS, R64], by simp [refS, R64], by simp [refS, R64], by simp [refS, R64]⟩
theorem heldS_ok : RsOk heldS := ⟨by simp [heldS, R64], by simp [heldS], by simp [heldS, R64], by simp [heldS], by simp [heldS], by simp [heldS, R64], by simp [heldS, R64], by simp [heldS, R64], by simp [heldS, R64]⟩
theorem encA : PC Tryz.prog 11 [.agg (malS.c.map LV.sv)] (.tup [.sv (.sl 1 (bytesC [0, 1, 0, 2, 1, 11])), .i 0]) := by
  have h := encS_P malS malS_ok ⟨by simp [malS], by simp [malS]⟩
  rw [show encS malS = ([0, 1, 0, 2, 1, 11], 0) from by decide +kernel] at h
  exact h
theorem encB : PC Tryz.prog 11 [.agg (refS.c.map LV.sv)] (.tup [.sv (.sl 1 (bytesC [2, 1, 1, 7, 2, 1, 15])), .i 0]) := by
  have h := encS_P refS refS_ok ⟨by simp [refS], by simp [refS]⟩
  rw [show encS refS = ([2, 1, 1, 7, 2, 1, 15], 0) from by decide +kernel] at h
  exact h
theorem encC : PC Tryz.prog 11 [.agg (heldS.c.map LV.sv)] (.tup [.sv (.sl 1 (bytesC [2, 1, 1, 7, 2, 0, 8, 2, 1, 44])), .i 0]) := by
  have h := encS_P heldS heldS_ok ⟨by simp [heldS], by simp [heldS]⟩
  rw [show encS heldS = ([2, 1, 1, 7, 2, 0, 8, 2, 1, 44], 0) from by decide +kernel] at h
  exact h
theorem refA : PC Tryz.prog 13 [.agg (holdQ.c.map LV.sv), .i 15] (.tup [.agg (refS.c.map LV.sv), .i 0]) := by
  have h := refusedS_P holdQ holdQ_ok 15
  rw [show refusedS holdQ 15 = (refS, 0) from by kernel_rfl] at h
  exact h
theorem ofA : PC Tryz.prog 15 [.agg (holdQ.c.map LV.sv), .agg (({ (default : Mr) with dl := 300 } : Mr).c.map LV.sv), .t [], .t []] (.tup [.agg (heldS.c.map LV.sv), .i 0]) := by
  have h := ofS_P holdQ holdQ_ok { (default : Mr) with dl := 300 } ⟨by simp [default, R64], by simp [default, R64], by simp [default, R64], by simp [R64], by simp [default, R64]⟩ [] [] (by simp)
  rw [show ofS holdQ { (default : Mr) with dl := 300 } [] [] = (heldS, 0) from by kernel_rfl] at h
  exact h
theorem dd0 : Lib.decDigits 0 = [48] := by rw [Lib.decDigits]; rfl
theorem dd7 : Lib.decDigits 7 = [55] := by rw [Lib.decDigits]; rfl
theorem dd300 : Lib.decDigits 300 = [51, 48, 48] := by rw [Lib.decDigits, dif_neg (by decide), Lib.decDigits, dif_neg (by decide), Lib.decDigits, dif_pos (by decide)]; rfl
theorem printA : PC Tryz.prog 7 [.agg (heldS.c.map LV.sv)] (.tup [.t [104, 111, 108, 100, 32, 55, 32, 48, 32, 51, 48, 48], .i 0]) := by
  have h := printS_P heldS heldS_ok ⟨by simp [heldS], by simp [heldS]⟩
  have hc : checkS heldS = 0 := by decide +kernel
  have hp : printS heldS = ([104, 111, 108, 100, 32, 55, 32, 48, 32, 51, 48, 48], 0) := by
    unfold printS
    rw [hc, if_neg (by decide), show tagsT heldS.kind heldS.err = [1, 2, 8] from by decide +kernel]
    simp only [List.map_cons, List.map_nil]
    rw [show pieceS heldS 1 = Lib.decDigits 7 from rfl, show pieceS heldS 2 = Lib.decDigits 0 from rfl, show pieceS heldS 8 = Lib.decDigits 300 from rfl, dd0, dd7, dd300, Lib.join_cons]
    decide +kernel
  rw [hp] at h
  exact h
theorem decA : PC Tryz.prog 16 [.sv (.sl 1 (bytesC [2, 1, 1, 7, 2, 0]))] (.tup [.agg (zeroS.c.map LV.sv), .i 11]) := by
  have h := decS_P [2, 1, 1, 7, 2, 0] (by decide)
  rw [show decS [2, 1, 1, 7, 2, 0] = (zeroS, 11) from by kernel_rfl] at h
  exact h

theorem session_P : PC Tryz.prog 39 [] (.t (List.replicate 44 0)) := by
 refine ⟨LC.of_go Tryz.func39 (c := _) rfl (by kernel_rfl) (by rw [Tryz.ntmps39]; simp) rfl rfl (by simp [LO.lt, LV.lts, LV.lt]) (by simp) ?_⟩
 intro B hA hmd
 refine .seq ?_
 refine .region rfl ?_
 refine R.assign (h := ?_)
 refine .n0 ?_
 refine .seq ?_
 refine .region rfl ?_
 refine R.makeF AP33 (k := .u8) (by kernel_rfl) (h := ?_)
 rw [show ic .u8 (List.replicate 44 0) = bytesC (List.replicate 44 0) from by simp [ic, bytesC]]
 refine R.toString Tryz.underlying33 Tryz.underlying5 Tryz.underlying9 (h := ?_)
 refine R.assign (h := ?_)
 refine .n0 ?_
 exact LGo.ret (ret_T Tryz.results39 hA hmd)

theorem hold_P : PC Tryz.prog 14 [] (.agg (holdQ.c.map LV.sv)) := by
 refine ⟨LC.of_go Tryz.func14 (c := _) rfl (by kernel_rfl) (by rw [Tryz.ntmps14]; simp) rfl rfl (by simp [LO.lt, LV.lts, LV.lt]) (by simp) ?_⟩
 intro B hA hmd
 refine .seq ?_
 refine .region rfl ?_
 refine R.alloc Z40 (h := ?_)
 refine .n0 ?_
 refine .seq ?_
 refine .region rfl ?_
 refine R.callP (es := []) (fun _ => session_P) (h := ?_)
 refine R.build BF40 (is := [0, 1, 4]) (xs := [_, _, _]) (es := [_, _, _]) (h := ?_)
 refine R.storeA A40 (h := ?_)
 refine .n0 ?_
 exact LGo.ret (ret_A Tryz.results14 A40 hA hmd)

theorem shown_P : PC Tryz.prog 6 [] (.b true) := by
 refine ⟨LC.of_go Tryz.func6 (c := _) rfl (by kernel_rfl) (by rw [Tryz.ntmps6]; simp) rfl rfl (by simp [LO.lt, LV.lts, LV.lt]) (by simp) ?_⟩
 intro B hA hmd
 refine .seq ?_
 refine .region rfl ?_
 refine R.assign (h := ?_)
 refine .n0 ?_
 refine .seq ?_
 refine .region rfl ?_
 refine R.callP (es := []) (fun _ => malformedS_P) (h := ?_)
 refine R.callP (es := [_]) (fun _ => encA) (h := ?_)
 refine R.move (h := ?_)
 refine R.extract (h := ?_)
 refine R.extract (h := ?_)
 refine R.assign (h := ?_)
 refine R.assign (h := ?_)
 refine .n0 ?_
 refine .seq ?_
 refine .region rfl ?_
 refine R.callP (es := []) (fun _ => hold_P) (h := ?_)
 refine R.callP (es := [_, _]) (fun _ => refA) (h := ?_)
 refine R.move (h := ?_)
 refine R.extract (h := ?_)
 refine R.extract (h := ?_)
 refine R.alloc Z25 (h := ?_)
 refine R.storeA A25 (h := ?_)
 refine R.assign (h := ?_)
 refine .n0 ?_
 refine .seq ?_
 refine .region rfl ?_
 first | refine R.loadA A25 (h := ?_) | refine R.loadN A25 (h := ?_) | refine R.loadP A25 (h := ?_)
 refine R.callP (es := [_]) (fun _ => encB) (h := ?_)
 refine R.move (h := ?_)
 refine R.extract (h := ?_)
 refine R.extract (h := ?_)
 refine R.assign (h := ?_)
 refine R.assign (h := ?_)
 refine .n0 ?_
 refine .seq ?_
 refine .region rfl ?_
 refine R.callP (es := []) (fun _ => hold_P) (h := ?_)
 refine R.buildG BG46 (is := [3]) (ks := [3]) (xs := [_]) (es := [_]) (h := ?_)
 refine R.callP (es := [_, _, _, _]) (fun _ => ofA) (h := ?_)
 refine R.move (h := ?_)
 refine R.extract (h := ?_)
 refine R.extract (h := ?_)
 refine R.alloc Z25 (h := ?_)
 refine R.storeA A25 (h := ?_)
 refine R.assign (h := ?_)
 refine .n0 ?_
 refine .seq ?_
 refine .region rfl ?_
 first | refine R.loadA A25 (h := ?_) | refine R.loadN A25 (h := ?_) | refine R.loadP A25 (h := ?_)
 refine R.callP (es := [_]) (fun _ => encC) (h := ?_)
 refine R.move (h := ?_)
 refine R.extract (h := ?_)
 refine R.extract (h := ?_)
 refine R.assign (h := ?_)
 refine R.assign (h := ?_)
 refine .n0 ?_
 refine .seq ?_
 refine .region rfl ?_
 first | refine R.loadA A25 (h := ?_) | refine R.loadN A25 (h := ?_) | refine R.loadP A25 (h := ?_)
 refine R.callP (es := [_]) (fun _ => printA) (h := ?_)
 refine R.move (h := ?_)
 refine R.extract (h := ?_)
 refine R.extract (h := ?_)
 refine R.assign (h := ?_)
 refine R.assign (h := ?_)
 refine .n0 ?_
 refine .seq ?_
 refine .region rfl ?_
 refine R.buildSliceF AP33 (bytesC [2, 1, 1, 7, 2, 0]) (xs := [_, _, _, _, _, _]) (es := [_, _, _, _, _, _]) (hcs := CellsOfs.cons (CellsOf.one rfl) (CellsOfs.cons (CellsOf.one rfl) (CellsOfs.cons (CellsOf.one rfl) (CellsOfs.cons (CellsOf.one rfl) (CellsOfs.cons (CellsOf.one rfl) (CellsOfs.cons (CellsOf.one rfl) (CellsOfs.nil))))))) (h := ?_)
 refine R.callP (es := [_]) (fun _ => decA) (h := ?_)
 refine R.move (h := ?_)
 refine R.extract (h := ?_)
 refine R.extract (h := ?_)
 refine R.alloc Z25 (h := ?_)
 refine R.storeA A25 (h := ?_)
 refine R.assign (h := ?_)
 refine .n0 ?_
 refine .seq ?_
 refine .region rfl ?_
 refine R.move (h := ?_)
 refine R.toString Tryz.underlying33 Tryz.underlying5 Tryz.underlying9 (h := ?_)
 refine R.bin (run_eqlT _ _ _ _ _) (h := ?_)
 refine R.move (h := ?_)
 refine R.move (h := ?_)
 refine R.bin (run_eql _ _ _ _ _ _) (h := ?_)
 refine R.and (h := ?_)
 refine R.move (h := ?_)
 refine R.move (h := ?_)
 refine R.bin (run_eql _ _ _ _ _ _) (h := ?_)
 refine R.and (h := ?_)
 refine R.move (h := ?_)
 refine R.move (h := ?_)
 refine R.toString Tryz.underlying33 Tryz.underlying5 Tryz.underlying9 (h := ?_)
 refine R.bin (run_eqlT _ _ _ _ _) (h := ?_)
 refine R.and (h := ?_)
 refine R.move (h := ?_)
 refine R.move (h := ?_)
 refine R.bin (run_eql _ _ _ _ _ _) (h := ?_)
 refine R.and (h := ?_)
 refine R.move (h := ?_)
 refine R.move (h := ?_)
 refine R.bin (run_eql _ _ _ _ _ _) (h := ?_)
 refine R.and (h := ?_)
 refine R.move (h := ?_)
 refine R.move (h := ?_)
 refine R.toString Tryz.underlying33 Tryz.underlying5 Tryz.underlying9 (h := ?_)
 refine R.bin (run_eqlT _ _ _ _ _) (h := ?_)
 refine R.and (h := ?_)
 refine R.move (h := ?_)
 refine R.move (h := ?_)
 refine R.bin (run_eql _ _ _ _ _ _) (h := ?_)
 refine R.and (h := ?_)
 refine R.move (h := ?_)
 refine R.move (h := ?_)
 refine R.bin (run_eqlT _ _ _ _ _) (h := ?_)
 refine R.and (h := ?_)
 refine R.move (h := ?_)
 refine R.move (h := ?_)
 refine R.bin (run_eql _ _ _ _ _ _) (h := ?_)
 refine R.and (h := ?_)
 refine R.move (h := ?_)
 refine R.move (h := ?_)
 refine R.bin (run_eql _ _ _ _ _ _) (h := ?_)
 refine R.and (h := ?_)
 refine R.assign (h := ?_)
 refine .n0 ?_
 exact LGo.ret (ret_T Tryz.results6 hA hmd)

theorem farS_P (r : Rs) : PC Tryz.prog 5 [.agg (r.c.map LV.sv)] (.b (decide (300 < (r.ses.length : Int)) || decide (300 < (r.tic.length : Int)))) := by
 refine ⟨LC.of_go Tryz.func5 (c := _) rfl (by kernel_rfl) (by rw [Tryz.ntmps5]; simp) rfl rfl (by simp [LO.lt, LV.lts, LV.lt]) (by simp) ?_⟩
 intro B hA hmd
 refine .seq ?_
 refine .region rfl ?_
 refine R.box (h := ?_)
 refine R.assign (h := ?_)
 refine .n0 ?_
 refine .seq ?_
 refine .region rfl ?_
 first | refine R.field F25_3 (h := ?_) | refine R.fieldAt F25_3 (h := ?_)
 first | refine R.loadB O9 (h := ?_) | refine R.load1 O9 (h := ?_)
 refine R.lenT Tryz.runUnderlying9 (h := ?_)
 refine R.bin (run_gtr _ _ _ _ _ _) (h := ?_)
 refine R.move (h := ?_)
 first | refine R.field F25_4 (h := ?_) | refine R.fieldAt F25_4 (h := ?_)
 first | refine R.loadB O9 (h := ?_) | refine R.load1 O9 (h := ?_)
 refine R.lenT Tryz.runUnderlying9 (h := ?_)
 refine R.bin (run_gtr _ _ _ _ _ _) (h := ?_)
 refine R.or (h := ?_)
 refine R.assign (h := ?_)
 refine .n0 ?_
 exact LGo.ret (ret_T Tryz.results5 hA hmd)

end Go.Proofs.YtcobkjognpjikaaGreatDoor
