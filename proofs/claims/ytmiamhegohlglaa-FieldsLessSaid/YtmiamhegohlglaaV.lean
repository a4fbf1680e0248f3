/- The law's own check: shown. -/
import Derived.Test.YtmiamhegohlglaaU
import Derived.Test.YtmiamhegohlglaaS
set_option linter.unusedSimpArgs false
set_option linter.unusedVariables false
namespace Go.Proofs.Ytmiamhegohlglaa

theorem encA : PC Try.prog 18 [.sv (.sl 5 (lawRules.map Rule.c)), .sv (.sl 3 (([⟨1, 258, []⟩] : List Fld).map Fld.c))] (.tup [.sv (.sl 1 (bytesC [1, 2, 1, 2])), .i 0]) := by
  have h := encode_P lawRules [⟨1, 258, []⟩] (by decide) (by decide) (by simp [FldOk])
  rw [show encode lawRules [⟨1, 258, []⟩] = ([1, 2, 1, 2], 0) from by decide +kernel] at h
  exact h
theorem encB : PC Try.prog 18 [.sv (.sl 5 (lawRules.map Rule.c)), .sv (.sl 3 (([⟨1, 0, []⟩, ⟨4, 0, [97, 98]⟩] : List Fld).map Fld.c))] (.tup [.sv (.sl 1 (bytesC [1, 0, 4, 0, 2, 97, 98])), .i 0]) := by
  have h := encode_P lawRules [⟨1, 0, []⟩, ⟨4, 0, [97, 98]⟩] (by decide) (by decide) (by simp [FldOk])
  rw [show encode lawRules [⟨1, 0, []⟩, ⟨4, 0, [97, 98]⟩] = ([1, 0, 4, 0, 2, 97, 98], 0) from by decide +kernel] at h
  exact h
theorem decA : PC Try.prog 13 [.sv (.sl 5 (lawRules.map Rule.c)), .sv (.sl 1 (bytesC [1, 1, 7, 4, 0, 1, 97]))] (.tup [.sv (.sl 3 (([⟨1, 7, []⟩, ⟨4, 0, [97]⟩] : List Fld).map Fld.c)), .i 0, .i 0]) := by
  have h := decode_P lawRules [1, 1, 7, 4, 0, 1, 97] (by decide) (by decide)
  rw [show decode lawRules [1, 1, 7, 4, 0, 1, 97] = ([⟨1, 7, []⟩, ⟨4, 0, [97]⟩], 0, 0) from by kernel_rfl] at h
  exact h
theorem decB : PC Try.prog 13 [.sv (.sl 5 (lawRules.map Rule.c)), .sv (.sl 1 (bytesC [1, 1, 7, 1, 1, 7]))] (.tup [.sv (.sl 3 (([] : List Fld).map Fld.c)), .i 3, .i 11]) := by
  have h := decode_P lawRules [1, 1, 7, 1, 1, 7] (by decide) (by decide)
  rw [show decode lawRules [1, 1, 7, 1, 1, 7] = ([], 3, 11) from by kernel_rfl] at h
  exact h
theorem sameA : PC Try.prog 15 [.sv (.sl 3 (([⟨1, 7, []⟩, ⟨4, 0, [97]⟩] : List Fld).map Fld.c)), .sv (.sl 3 (([⟨1, 7, []⟩, ⟨4, 0, [97]⟩] : List Fld).map Fld.c))] (.b true) := by
  have h := same_P [⟨1, 7, []⟩, ⟨4, 0, [97]⟩] [⟨1, 7, []⟩, ⟨4, 0, [97]⟩] (by decide) (by decide)
  rw [same_self] at h
  exact h

theorem shown_P : PC Try.prog 12 [] (.b true) := by
  refine ⟨LC.of_go Try.func12 (c := _) rfl (by kernel_rfl) (by rw [Try.ntmps12]; simp) rfl rfl (by simp [LO.lt, LV.lts, LV.lt]) (by simp) ?_⟩
  intro B hA hmd
  refine LGo.seq ?_
  refine LGo.region rfl ?_  -- region 0
  refine R.assign (h := ?_)
  refine Reg.nil ⟨fun h => (by cases h), ?_⟩
  refine LGo.seq ?_
  refine LGo.region rfl ?_  -- region 1
  refine R.callP (es := []) (fun _ => lawRules_P) (h := ?_)
  refine R.build BF34 (is := [0, 1]) (xs := [_, _]) (es := [_, _]) (h := ?_)
  refine R.buildSliceF AP26 (([⟨1, 258, []⟩] : List Fld).map Fld.c) (xs := [_]) (es := [_]) (hcs := CellsOfs.cons (CellsOf.agg rfl) CellsOfs.nil) (h := ?_)
  refine R.callP (es := [_, _]) (fun _ => encA) (h := ?_)
  refine R.move (h := ?_)
  refine R.extract (h := ?_)
  refine R.extract (h := ?_)
  refine R.assign (h := ?_)
  refine R.assign (h := ?_)
  refine Reg.nil ⟨fun h => (by cases h), ?_⟩
  refine LGo.seq ?_
  refine LGo.region rfl ?_  -- region 2
  refine R.callP (es := []) (fun _ => lawRules_P) (h := ?_)
  refine R.build BF34 (is := [0]) (xs := [_]) (es := [_]) (h := ?_)
  refine R.build BF34 (is := [0, 2]) (xs := [_, _]) (es := [_, _]) (h := ?_)
  refine R.buildSliceF AP26 (([⟨1, 0, []⟩, ⟨4, 0, [97, 98]⟩] : List Fld).map Fld.c) (xs := [_, _]) (es := [_, _]) (hcs := CellsOfs.cons (CellsOf.agg rfl) (CellsOfs.cons (CellsOf.agg rfl) CellsOfs.nil)) (h := ?_)
  refine R.callP (es := [_, _]) (fun _ => encB) (h := ?_)
  refine R.move (h := ?_)
  refine R.extract (h := ?_)
  refine R.extract (h := ?_)
  refine R.assign (h := ?_)
  refine R.assign (h := ?_)
  refine Reg.nil ⟨fun h => (by cases h), ?_⟩
  refine LGo.seq ?_
  refine LGo.region rfl ?_  -- region 3
  refine R.callP (es := []) (fun _ => lawRules_P) (h := ?_)
  refine R.buildSliceF AP23 (bytesC [1, 1, 7, 4, 0, 1, 97]) (xs := [_, _, _, _, _, _, _]) (es := [_, _, _, _, _, _, _]) (hcs := CellsOfs.cons (CellsOf.one rfl) (CellsOfs.cons (CellsOf.one rfl) (CellsOfs.cons (CellsOf.one rfl) (CellsOfs.cons (CellsOf.one rfl) (CellsOfs.cons (CellsOf.one rfl) (CellsOfs.cons (CellsOf.one rfl) (CellsOfs.cons (CellsOf.one rfl) (CellsOfs.nil)))))))) (h := ?_)
  refine R.callP (es := [_, _]) (fun _ => decA) (h := ?_)
  refine R.move (h := ?_)
  refine R.extract (h := ?_)
  refine R.extract (h := ?_)
  refine R.extract (h := ?_)
  refine R.assign (h := ?_)
  refine R.assign (h := ?_)
  refine R.assign (h := ?_)
  refine Reg.nil ⟨fun h => (by cases h), ?_⟩
  refine LGo.seq ?_
  refine LGo.region rfl ?_  -- region 4
  refine R.callP (es := []) (fun _ => lawRules_P) (h := ?_)
  refine R.buildSliceF AP23 (bytesC [1, 1, 7, 1, 1, 7]) (xs := [_, _, _, _, _, _]) (es := [_, _, _, _, _, _]) (hcs := CellsOfs.cons (CellsOf.one rfl) (CellsOfs.cons (CellsOf.one rfl) (CellsOfs.cons (CellsOf.one rfl) (CellsOfs.cons (CellsOf.one rfl) (CellsOfs.cons (CellsOf.one rfl) (CellsOfs.cons (CellsOf.one rfl) (CellsOfs.nil))))))) (h := ?_)
  refine R.callP (es := [_, _]) (fun _ => decB) (h := ?_)
  refine R.move (h := ?_)
  refine R.extract (h := ?_)
  refine R.extract (h := ?_)
  refine R.extract (h := ?_)
  refine R.assign (h := ?_)
  refine R.assign (h := ?_)
  refine R.assign (h := ?_)
  refine Reg.nil ⟨fun h => (by cases h), ?_⟩
  refine LGo.seq ?_
  refine LGo.region rfl ?_  -- region 5
  refine R.move (h := ?_)
  refine R.toString Try.underlying23 Try.underlying5 Try.underlying9 (h := ?_)
  refine R.bin (run_eqlT _ _ _ _ _) (h := ?_)
  refine R.move (h := ?_)
  refine R.move (h := ?_)
  refine R.bin (run_eql _ _ _ _ _ _) (h := ?_)
  refine R.and (h := ?_)
  refine R.move (h := ?_)
  refine R.move (h := ?_)
  refine R.toString Try.underlying23 Try.underlying5 Try.underlying9 (h := ?_)
  refine R.bin (run_eqlT _ _ _ _ _) (h := ?_)
  refine R.and (h := ?_)
  refine R.move (h := ?_)
  refine R.move (h := ?_)
  refine R.bin (run_eql _ _ _ _ _ _) (h := ?_)
  refine R.and (h := ?_)
  refine R.move (h := ?_)
  refine R.move (h := ?_)
  refine R.build BF34 (is := [0, 1]) (xs := [_, _]) (es := [_, _]) (h := ?_)
  refine R.build BF34 (is := [0, 2]) (xs := [_, _]) (es := [_, _]) (h := ?_)
  refine R.buildSliceF AP26 (([⟨1, 7, []⟩, ⟨4, 0, [97]⟩] : List Fld).map Fld.c) (xs := [_, _]) (es := [_, _]) (hcs := CellsOfs.cons (CellsOf.agg rfl) (CellsOfs.cons (CellsOf.agg rfl) CellsOfs.nil)) (h := ?_)
  refine R.callP (es := [_, _]) (fun _ => sameA) (h := ?_)
  refine R.and (h := ?_)
  refine R.move (h := ?_)
  refine R.move (h := ?_)
  refine R.bin (run_eql _ _ _ _ _ _) (h := ?_)
  refine R.and (h := ?_)
  refine R.move (h := ?_)
  refine R.move (h := ?_)
  refine R.bin (run_eql _ _ _ _ _ _) (h := ?_)
  refine R.and (h := ?_)
  refine R.move (h := ?_)
  refine R.move (h := ?_)
  refine R.bin (run_eql _ _ _ _ _ _) (h := ?_)
  refine R.and (h := ?_)
  refine R.move (h := ?_)
  refine R.move (h := ?_)
  refine R.bin (run_eql _ _ _ _ _ _) (h := ?_)
  refine R.and (h := ?_)
  refine R.assign (h := ?_)
  refine Reg.nil ⟨fun h => (by cases h), ?_⟩
  exact LGo.ret (ret_T Try.results12 hA hmd)

end Go.Proofs.Ytmiamhegohlglaa
