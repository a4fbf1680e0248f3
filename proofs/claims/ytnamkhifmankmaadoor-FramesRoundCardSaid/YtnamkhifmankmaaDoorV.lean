/- frames: the law's own check: shown. -/
import Derived.Test.YtnamkhifmankmaaDoorC
set_option linter.unusedSimpArgs false
set_option linter.unusedVariables false
namespace Go.Proofs.YtnamkhifmankmaaDoor

theorem shA : PC Tryd.prog 7 [.sv (.sl 1 (bytesC [97, 98]))] (.tup [.sv (.sl 1 (bytesC [71, 1, 0, 2, 97, 98])), .i 0]) := by
  have h := frame_P [97, 98] (by decide)
  rw [show frame [97, 98] = ([71, 1, 0, 2, 97, 98], 0) from by decide +kernel] at h
  exact h
theorem shB : PC Tryd.prog 11 [.sv (.sl 1 (bytesC [71, 1, 0, 1, 97, 71, 1]))] (.tup [.sv (.sl 1 (rowsC [[97]])), stC ([71, 1], false)]) := by
  have h := split_P [71, 1, 0, 1, 97, 71, 1] (by decide)
  rw [show split [71, 1, 0, 1, 97, 71, 1] = ([[97]], ([71, 1], false)) from by decide +kernel] at h
  exact h
theorem shC : PC Tryd.prog 13 [stC ([71, 1], false), .sv (.sl 1 (bytesC [0, 1, 98, 99]))] (.tup [stC ([], true), .sv (.sl 1 (rowsC [[98]])), .i 0]) := by
  have h := feed_P ([71, 1], false) [0, 1, 98, 99] (by decide) (by decide)
  rw [show feed ([71, 1], false) [0, 1, 98, 99] = (([], true), [[98]], 0) from by decide +kernel] at h
  exact h
theorem shD : PC Tryd.prog 14 [stC ([71, 1], false)] (.tup [.i 3, .i 0]) := by
  have h := need_P ([71, 1], false) (by decide)
  rw [show need ([71, 1], false) = (3, 0) from by decide +kernel] at h
  exact h

theorem shown_P : PC Tryd.prog 6 [] (.b true) := by
 refine ⟨LC.of_go Tryd.func6 (c := _) rfl (by kernel_rfl) (by rw [Tryd.ntmps6]; simp) rfl rfl (by simp [LO.lt, LV.lts, LV.lt, lts_sv]) (by simp) ?_⟩
 intro B hA hmd
 refine .seq ?_
 refine .region rfl ?_
 refine R.assign (h := ?_)
 refine .n0 ?_
 refine .seq ?_
 refine .region rfl ?_
 refine R.buildSliceR AP22 (xs := [_, _]) (es := [_, _]) (ys := bytesC [97, 98]) (hcs := CellsOfs.cons (CellsOf.one rfl) (CellsOfs.cons (CellsOf.one rfl) (CellsOfs.nil))) (hys := rfl) (h := ?_)
 refine R.markB Tryd.underlying22 Tryd.underlying5 (ys := bytesC [97, 98]) (hne := by simp [bytesC]) (h := ?_)
 refine R.callP (es := [_]) (fun _ => shA) (h := ?_)
 refine R.move (h := ?_)
 refine R.extract (h := ?_)
 refine R.extract (h := ?_)
 refine R.assign (h := ?_)
 refine R.assign (h := ?_)
 refine .n0 ?_
 refine .seq ?_
 refine .region rfl ?_
 refine R.buildSliceF AP22 (bytesC [71, 1, 0, 1, 97, 71, 1]) (xs := [_, _, _, _, _, _, _]) (es := [_, _, _, _, _, _, _]) (hcs := CellsOfs.cons (CellsOf.one rfl) (CellsOfs.cons (CellsOf.one rfl) (CellsOfs.cons (CellsOf.one rfl) (CellsOfs.cons (CellsOf.one rfl) (CellsOfs.cons (CellsOf.one rfl) (CellsOfs.cons (CellsOf.one rfl) (CellsOfs.cons (CellsOf.one rfl) (CellsOfs.nil)))))))) (h := ?_)
 refine R.callP (es := [_]) (fun _ => shB) (h := ?_)
 refine R.move (h := ?_)
 refine R.extract (h := ?_)
 refine R.extract (h := ?_)
 refine R.alloc Z32 (h := ?_)
 refine R.assign (h := ?_)
 refine R.storeA A32 (h := ?_)
 refine .n0 ?_
 refine .seq ?_
 refine .region rfl ?_
 refine R.build BF32 (is := [0]) (xs := [_]) (es := [_]) (h := ?_)
 refine R.buildSliceF AP22 (bytesC [0, 1, 98, 99]) (xs := [_, _, _, _]) (es := [_, _, _, _]) (hcs := CellsOfs.cons (CellsOf.one rfl) (CellsOfs.cons (CellsOf.one rfl) (CellsOfs.cons (CellsOf.one rfl) (CellsOfs.cons (CellsOf.one rfl) (CellsOfs.nil))))) (h := ?_)
 refine R.callP (es := [_, _]) (fun _ => shC) (h := ?_)
 refine R.move (h := ?_)
 refine R.extract (h := ?_)
 refine R.extract (h := ?_)
 refine R.extract (h := ?_)
 refine R.alloc Z32 (h := ?_)
 refine R.storeA A32 (h := ?_)
 refine R.assign (h := ?_)
 refine R.assign (h := ?_)
 refine .n0 ?_
 refine .seq ?_
 refine .region rfl ?_
 refine R.build BF32 (is := [0]) (xs := [_]) (es := [_]) (h := ?_)
 refine R.callP (es := [_]) (fun _ => shD) (h := ?_)
 refine R.move (h := ?_)
 refine R.extract (h := ?_)
 refine R.extract (h := ?_)
 refine R.assign (h := ?_)
 refine R.assign (h := ?_)
 refine .n0 ?_
 refine .seq ?_
 refine .region rfl ?_
 refine R.move (h := ?_)
 refine R.toString Tryd.underlying22 Tryd.underlying5 Tryd.underlying9 (h := ?_)
 refine R.bin (run_eqlT _ _ _ _ _) (h := ?_)
 refine R.move (h := ?_)
 refine R.move (h := ?_)
 refine R.bin (run_eql _ _ _ _ _ _) (h := ?_)
 refine R.and (h := ?_)
 refine R.move (h := ?_)
 refine R.move (h := ?_)
 first | refine R.len S23 (h := ?_) | refine R.lenRs S23 (h := ?_) | refine R.lenV (run_lenNil S23) (h := ?_)
 refine R.bin (run_eql _ _ _ _ _ _) (h := ?_)
 refine R.and (h := ?_)
 refine R.move (h := ?_)
 refine R.move (h := ?_)
 refine R.index I23 (e := [.sl 1 (bytesC [97])]) (hj := fun _ => ⟨by decide, rfl⟩) (h := ?_)
 first | refine R.loadB O22 (h := ?_) | refine R.load1 O22 (h := ?_)
 refine R.toString Tryd.underlying22 Tryd.underlying5 Tryd.underlying9 (h := ?_)
 refine R.bin (run_eqlT _ _ _ _ _) (h := ?_)
 refine R.and (h := ?_)
 refine R.move (h := ?_)
 first | refine R.loadA A32 (h := ?_) | refine R.loadN A32 (h := ?_) | refine R.loadP A32 (h := ?_)
 refine R.build BF32 (is := [0]) (xs := [_]) (es := [_]) (h := ?_)
 refine R.binA (EQ32 _ _ _ _ _ _) (h := ?_)
 refine R.and (h := ?_)
 refine R.move (h := ?_)
 first | refine R.loadA A32 (h := ?_) | refine R.loadN A32 (h := ?_) | refine R.loadP A32 (h := ?_)
 refine R.build BF32 (is := [1]) (xs := [_]) (es := [_]) (h := ?_)
 refine R.binA (EQ32 _ _ _ _ _ _) (h := ?_)
 refine R.and (h := ?_)
 refine R.move (h := ?_)
 refine R.move (h := ?_)
 first | refine R.len S23 (h := ?_) | refine R.lenRs S23 (h := ?_) | refine R.lenV (run_lenNil S23) (h := ?_)
 refine R.bin (run_eql _ _ _ _ _ _) (h := ?_)
 refine R.and (h := ?_)
 refine R.move (h := ?_)
 refine R.move (h := ?_)
 refine R.index I23 (e := [.sl 1 (bytesC [98])]) (hj := fun _ => ⟨by decide, rfl⟩) (h := ?_)
 first | refine R.loadB O22 (h := ?_) | refine R.load1 O22 (h := ?_)
 refine R.toString Tryd.underlying22 Tryd.underlying5 Tryd.underlying9 (h := ?_)
 refine R.bin (run_eqlT _ _ _ _ _) (h := ?_)
 refine R.and (h := ?_)
 refine R.move (h := ?_)
 refine R.move (h := ?_)
 refine R.bin (run_eql _ _ _ _ _ _) (h := ?_)
 refine R.and (h := ?_)
 refine R.move (h := ?_)
 refine R.move (h := ?_)
 refine R.bin (run_eql _ _ _ _ _ _) (h := ?_)
 refine R.and (h := ?_)
 refine R.move (h := ?_)
 refine R.move (h := ?_)
 refine R.bin (run_eql _ _ _ _ _ _) (h := ?_)
 refine R.and (h := ?_)
 refine R.assign (h := ?_)
 refine .n0 ?_
 refine LGo.tru 0 (hb := by decide) (h := ?_)
 exact LGo.ret (ret_T Tryd.results6 hA hmd)

end Go.Proofs.YtnamkhifmankmaaDoor
