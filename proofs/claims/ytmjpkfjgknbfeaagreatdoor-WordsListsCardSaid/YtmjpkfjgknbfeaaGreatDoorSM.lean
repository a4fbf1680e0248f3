/- words: the law WordsLists (walk). -/
import Derived.Test.YtmjpkfjgknbfeaaGreatDoorSN
set_option linter.unusedSimpArgs false
set_option linter.unusedVariables false
namespace Go.Proofs.YtmjpkfjgknbfeaaGreatDoor

theorem lawLists_P (l : List Int) (hl : l.length ≤ maxLen) (h64 : ∀ n ∈ l, -9223372036854775808 ≤ n ∧ n ≤ 9223372036854775807) (s : List UInt8) : PC Tryz.prog 3 [.sv (.sl 1 (ic .i64 l)), .t s] (.b true) := by
 refine ⟨LC.of_go Tryz.func3 (c := _) rfl (by kernel_rfl) (by rw [Tryz.ntmps3]; simp) rfl rfl (by simp [LO.lt, LV.lts, LV.lt]) (by simp) ?_⟩
 intro B hA hmd
 refine .seq ?_
 refine .region rfl ?_
 refine R.assign (h := ?_)
 refine .n0 ?_
 refine .seq ?_
 refine .seq ?_
 refine .region rfl ?_
 refine R.move (h := ?_)
 first | refine R.len S22 (h := ?_) | refine R.lenRs S22 (h := ?_) | refine R.lenV (run_lenNil S22) (h := ?_)
 rw [ic_len]
 refine R.bin (run_gtr _ _ _ _ _ _) (h := ?_)
 refine R.move (h := ?_)
 refine R.move (h := ?_)
 refine R.lenT Tryz.runUnderlying9 (h := ?_)
 refine R.bin (run_gtr _ _ _ _ _ _) (h := ?_)
 refine R.or (h := ?_)
 refine .n0 ?_
 refine LGo.ifb (ht := fun hc => ?_) (hf := fun hc => ?_)
 ·
  refine .seq ?_
  refine .region rfl ?_
  refine R.callP (es := []) (fun _ => shown_P) (h := ?_)
  refine R.assign (h := ?_)
  refine .n0 ?_
  exact LGo.ret (ret_T Tryz.results3 hA hmd)
 ·
  simp only [Bool.or_eq_false_iff, decide_eq_false_iff_not] at hc
  obtain ⟨hc1, hc2⟩ := hc
  refine .skip ?_
  refine .seq ?_
  refine .region rfl ?_
  refine R.move (h := ?_)
  refine R.callP (es := [_]) (fun _ => list_P l (by omega) h64) (h := ?_)
  refine R.move (h := ?_)
  refine R.extract (h := ?_)
  refine R.extract (h := ?_)
  refine R.assign (h := ?_)
  refine R.assign (h := ?_)
  refine .n0 ?_
  refine .seq ?_
  refine .region rfl ?_
  refine R.move (h := ?_)
  refine R.callP (es := [_]) (fun _ => listR_P l (by omega) h64) (h := ?_)
  refine R.move (h := ?_)
  refine R.extract (h := ?_)
  refine R.extract (h := ?_)
  refine R.assign (h := ?_)
  refine R.assign (h := ?_)
  refine .n0 ?_
  refine .seq ?_
  refine .region rfl ?_
  refine R.move (h := ?_)
  refine R.callP (es := [_]) (fun _ => plist_P s (by omega)) (h := ?_)
  refine R.move (h := ?_)
  refine R.extract (h := ?_)
  refine R.extract (h := ?_)
  refine R.assign (h := ?_)
  refine R.assign (h := ?_)
  refine .n0 ?_
  refine .seq ?_
  refine .region rfl ?_
  refine R.move (h := ?_)
  refine R.callP (es := [_]) (fun _ => plistR_P s (by omega)) (h := ?_)
  refine R.move (h := ?_)
  refine R.extract (h := ?_)
  refine R.extract (h := ?_)
  refine R.assign (h := ?_)
  refine R.assign (h := ?_)
  refine .n0 ?_
  refine .seq ?_
  refine .region rfl ?_
  refine R.move (h := ?_)
  refine R.move (h := ?_)
  refine R.bin (run_eqlT _ _ _ _ _) (h := ?_)
  refine R.move (h := ?_)
  refine R.move (h := ?_)
  refine R.move (h := ?_)
  refine R.bin (run_eql _ _ _ _ _ _) (h := ?_)
  refine R.and (h := ?_)
  refine R.move (h := ?_)
  refine R.move (h := ?_)
  refine R.move (h := ?_)
  refine R.callP (es := [_, _]) (fun _ => lists_P (plistW s).1 (by have := (plistW_facts s).1; omega)) (h := ?_)
  refine R.and (h := ?_)
  refine R.move (h := ?_)
  refine R.move (h := ?_)
  refine R.move (h := ?_)
  refine R.bin (run_eql _ _ _ _ _ _) (h := ?_)
  refine R.and (h := ?_)
  refine R.move (h := ?_)
  refine R.callP (es := []) (fun _ => shown_P) (h := ?_)
  refine R.and (h := ?_)
  refine R.assign (h := ?_)
  refine .n0 ?_
  refine LGo.tru 4 (h := ?_)
  exact LGo.ret (ret_T Tryz.results3 hA hmd)

end Go.Proofs.YtmjpkfjgknbfeaaGreatDoor
