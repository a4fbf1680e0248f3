/- responses: the law ResponsesKnown (walk). -/
import Derived.Test.YtcobkjognpjikaaDoorX1
set_option linter.unusedSimpArgs false
set_option linter.unusedVariables false
namespace Go.Proofs.YtcobkjognpjikaaDoor

theorem dd11 : Lib.decDigits 11 = [49, 49] := by rw [Lib.decDigits, dif_neg (by decide), Lib.decDigits, dif_pos (by decide)]; rfl
theorem dd15 : Lib.decDigits 15 = [49, 53] := by rw [Lib.decDigits, dif_neg (by decide), Lib.decDigits, dif_pos (by decide)]; rfl
theorem printM : PC Tryd.prog 26 [.agg (malS.c.map LV.sv)] (.tup [.t [110, 111, 110, 101, 32, 48, 32, 49, 49], .i 0]) := by
  have h := printS_P malS malS_ok ⟨by simp [malS], by simp [malS]⟩
  have hc : checkS malS = 0 := by decide +kernel
  have hp : printS malS = ([110, 111, 110, 101, 32, 48, 32, 49, 49], 0) := by
    unfold printS
    rw [hc, if_neg (by decide), show tagsT malS.kind malS.err = [1, 2] from by decide +kernel]
    simp only [List.map_cons, List.map_nil]
    rw [show pieceS malS 1 = Lib.decDigits 0 from rfl, show pieceS malS 2 = Lib.decDigits 11 from rfl, dd0, dd11, Lib.join_cons]
    decide +kernel
  rw [hp] at h
  exact h
theorem printF : PC Tryd.prog 26 [.agg (refS.c.map LV.sv)] (.tup [.t [104, 111, 108, 100, 32, 55, 32, 49, 53], .i 0]) := by
  have h := printS_P refS refS_ok ⟨by simp [refS], by simp [refS]⟩
  have hc : checkS refS = 0 := by decide +kernel
  have hp : printS refS = ([104, 111, 108, 100, 32, 55, 32, 49, 53], 0) := by
    unfold printS
    rw [hc, if_neg (by decide), show tagsT refS.kind refS.err = [1, 2] from by decide +kernel]
    simp only [List.map_cons, List.map_nil]
    rw [show pieceS refS 1 = Lib.decDigits 7 from rfl, show pieceS refS 2 = Lib.decDigits 15 from rfl, dd7, dd15, Lib.join_cons]
    decide +kernel
  rw [hp] at h
  exact h
theorem decM : PC Tryd.prog 16 [.sv (.sl 1 (bytesC [0, 1, 0, 2, 1, 6]))] (.tup [.agg (zeroS.c.map LV.sv), .i 11]) := by
  have h := decS_P [0, 1, 0, 2, 1, 6] (by decide)
  rw [show decS [0, 1, 0, 2, 1, 6] = (zeroS, 11) from by kernel_rfl] at h
  exact h
theorem decN : PC Tryd.prog 16 [.sv (.sl 1 (bytesC [2, 1, 1, 7, 2, 1, 15, 8, 0]))] (.tup [.agg (zeroS.c.map LV.sv), .i 11]) := by
  have h := decS_P [2, 1, 1, 7, 2, 1, 15, 8, 0] (by decide)
  rw [show decS [2, 1, 1, 7, 2, 1, 15, 8, 0] = (zeroS, 11) from by kernel_rfl] at h
  exact h

theorem known_P : PC Tryd.prog 9 [] (.b true) := by
  refine ⟨LC.of_go Tryd.func9 (c := _) rfl (by kernel_rfl) (by rw [Tryd.ntmps9]; simp) rfl rfl (by simp [LO.lt, LV.lts, LV.lt]) (by simp) ?_⟩
  intro B hA hmd
  refine LGo.seq ?_
  refine LGo.region rfl ?_  -- region 0
  refine R.assign (h := ?_)
  refine Reg.nil ⟨fun h => (by cases h), ?_⟩
  refine LGo.seq ?_
  refine LGo.region rfl ?_  -- region 1
  refine R.callP (es := []) (fun _ => hold_P) (h := ?_)
  refine R.callP (es := [_, _]) (fun _ => refA) (h := ?_)
  refine R.move (h := ?_)
  refine R.extract (h := ?_)
  refine R.extract (h := ?_)
  refine R.alloc Z25 (h := ?_)
  refine R.storeA A25 (h := ?_)
  refine R.assign (h := ?_)
  refine Reg.nil ⟨fun h => (by cases h), ?_⟩
  refine LGo.seq ?_
  refine LGo.region rfl ?_  -- region 2
  refine R.callP (es := []) (fun _ => malformedS_P) (h := ?_)
  refine R.callP (es := [_]) (fun _ => printM) (h := ?_)
  refine R.move (h := ?_)
  refine R.extract (h := ?_)
  refine R.extract (h := ?_)
  refine R.assign (h := ?_)
  refine R.assign (h := ?_)
  refine Reg.nil ⟨fun h => (by cases h), ?_⟩
  refine LGo.seq ?_
  refine LGo.region rfl ?_  -- region 3
  first | refine R.loadA A25 (h := ?_) | refine R.loadN A25 (h := ?_) | refine R.loadP A25 (h := ?_)
  refine R.callP (es := [_]) (fun _ => printF) (h := ?_)
  refine R.move (h := ?_)
  refine R.extract (h := ?_)
  refine R.extract (h := ?_)
  refine R.assign (h := ?_)
  refine R.assign (h := ?_)
  refine Reg.nil ⟨fun h => (by cases h), ?_⟩
  refine LGo.seq ?_
  refine LGo.region rfl ?_  -- region 4
  refine R.buildSliceF AP28 (bytesC [0, 1, 0, 2, 1, 6]) (xs := [_, _, _, _, _, _]) (es := [_, _, _, _, _, _]) (hcs := CellsOfs.cons (CellsOf.one rfl) (CellsOfs.cons (CellsOf.one rfl) (CellsOfs.cons (CellsOf.one rfl) (CellsOfs.cons (CellsOf.one rfl) (CellsOfs.cons (CellsOf.one rfl) (CellsOfs.cons (CellsOf.one rfl) (CellsOfs.nil))))))) (h := ?_)
  refine R.callP (es := [_]) (fun _ => decM) (h := ?_)
  refine R.move (h := ?_)
  refine R.extract (h := ?_)
  refine R.extract (h := ?_)
  refine R.alloc Z25 (h := ?_)
  refine R.storeA A25 (h := ?_)
  refine R.assign (h := ?_)
  refine Reg.nil ⟨fun h => (by cases h), ?_⟩
  refine LGo.seq ?_
  refine LGo.region rfl ?_  -- region 5
  refine R.buildSliceF AP28 (bytesC [2, 1, 1, 7, 2, 1, 15, 8, 0]) (xs := [_, _, _, _, _, _, _, _, _]) (es := [_, _, _, _, _, _, _, _, _]) (hcs := CellsOfs.cons (CellsOf.one rfl) (CellsOfs.cons (CellsOf.one rfl) (CellsOfs.cons (CellsOf.one rfl) (CellsOfs.cons (CellsOf.one rfl) (CellsOfs.cons (CellsOf.one rfl) (CellsOfs.cons (CellsOf.one rfl) (CellsOfs.cons (CellsOf.one rfl) (CellsOfs.cons (CellsOf.one rfl) (CellsOfs.cons (CellsOf.one rfl) (CellsOfs.nil)))))))))) (h := ?_)
  refine R.callP (es := [_]) (fun _ => decN) (h := ?_)
  refine R.move (h := ?_)
  refine R.extract (h := ?_)
  refine R.extract (h := ?_)
  refine R.alloc Z25 (h := ?_)
  refine R.storeA A25 (h := ?_)
  refine R.assign (h := ?_)
  refine Reg.nil ⟨fun h => (by cases h), ?_⟩
  refine LGo.seq ?_
  refine LGo.region rfl ?_  -- region 6
  refine R.move (h := ?_)
  refine R.bin (run_eqlT _ _ _ _ _) (h := ?_)
  refine R.move (h := ?_)
  refine R.move (h := ?_)
  refine R.bin (run_eql _ _ _ _ _ _) (h := ?_)
  refine R.and (h := ?_)
  refine R.move (h := ?_)
  refine R.move (h := ?_)
  refine R.bin (run_eqlT _ _ _ _ _) (h := ?_)
  refine R.and (h := ?_)
  refine R.move (h := ?_)
  refine R.move (h := ?_)
  refine R.bin (run_eql _ _ _ _ _ _) (h := ?_)
  refine R.and (h := ?_)
  refine R.move (h := ?_)
  refine R.move (h := ?_)
  refine R.bin (run_eql _ _ _ _ _ _) (h := ?_)
  refine R.and (h := ?_)
  refine R.move (h := ?_)
  refine R.move (h := ?_)
  refine R.bin (run_eql _ _ _ _ _ _) (h := ?_)
  refine R.and (h := ?_)
  refine R.move (h := ?_)
  refine R.callP (es := []) (fun _ => shown_P) (h := ?_)
  refine R.and (h := ?_)
  refine R.assign (h := ?_)
  refine Reg.nil ⟨fun h => (by cases h), ?_⟩
  exact LGo.ret (ret_T Tryd.results9 hA hmd)

end Go.Proofs.YtcobkjognpjikaaDoor
