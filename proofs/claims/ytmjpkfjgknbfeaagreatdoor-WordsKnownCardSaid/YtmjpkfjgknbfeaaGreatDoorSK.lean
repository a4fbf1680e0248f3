/- words: the law WordsKnown (walk). -/
import Derived.Test.YtmjpkfjgknbfeaaGreatDoorSH
set_option linter.unusedSimpArgs false
set_option linter.unusedVariables false
namespace Go.Proofs.YtmjpkfjgknbfeaaGreatDoor

theorem intK0 : PC Tryz.prog 12 [.t [48, 48, 55], .i 0, .i 10] (.tup [.i 0, .i 6]) := by
  have h := int_P [48, 48, 55] 0 10 (by decide)
  rw [show intW [48, 48, 55] 0 10 = (0, 6) from by kernel_rfl] at h
  exact h
theorem intK1 : PC Tryz.prog 12 [.t [45, 48], .i 0, .i 10] (.tup [.i 0, .i 6]) := by
  have h := int_P [45, 48] 0 10 (by decide)
  rw [show intW [45, 48] 0 10 = (0, 6) from by kernel_rfl] at h
  exact h
theorem intK2 : PC Tryz.prog 12 [.t [49, 50], .i 0, .i 10] (.tup [.i 0, .i 7]) := by
  have h := int_P [49, 50] 0 10 (by decide)
  rw [show intW [49, 50] 0 10 = (0, 7) from by kernel_rfl] at h
  exact h
theorem unqK0 : PC Tryz.prog 13 [.t [34, 92, 120, 52, 49, 34]] (.tup [.t [], .i 6]) := by
  have h := unquoteW_P [34, 92, 120, 52, 49, 34] (by decide)
  rw [show unqW [34, 92, 120, 52, 49, 34] = ([], 6) from by kernel_rfl] at h
  exact h
theorem unqK1 : PC Tryz.prog 13 [.t [34, 92, 120, 55, 70, 34]] (.tup [.t [], .i 6]) := by
  have h := unquoteW_P [34, 92, 120, 55, 70, 34] (by decide)
  rw [show unqW [34, 92, 120, 55, 70, 34] = ([], 6) from by kernel_rfl] at h
  exact h
theorem unqK2 : PC Tryz.prog 13 [.t [34, 97]] (.tup [.t [], .i 6]) := by
  have h := unquoteW_P [34, 97] (by decide)
  rw [show unqW [34, 97] = ([], 6) from by kernel_rfl] at h
  exact h
theorem splitK0 : PC Tryz.prog 14 [.t [97, 32, 32, 98]] (.tup [.sv (.sl 2 []), .i 6]) := by
  have h := split_P [97, 32, 32, 98]
  rw [show split1 [97, 32, 32, 98] = ([], 6) from by kernel_rfl] at h
  exact h
theorem splitK1 : PC Tryz.prog 14 [.t []] (.tup [.sv (.sl 2 []), .i 0]) := by
  have h := split_P []
  rw [show split1 [] = ([], 0) from by kernel_rfl] at h
  exact h
theorem listK : PC Tryz.prog 7 [.v (.slice none 0 0)] (.tup [.t [45], .i 0]) := by
  have h := list_P [] (by decide) (by decide)
  rw [show listW [] = ([45], 0) from by kernel_rfl] at h
  exact PC.nilA h
theorem plK0 : PC Tryz.prog 9 [.t [49, 45, 51, 44, 52]] (.tup [.sv (.sl 1 []), .i 6]) := by
  have h := plist_P [49, 45, 51, 44, 52] (by decide)
  rw [show plistW [49, 45, 51, 44, 52] = ([], 6) from by kernel_rfl] at h
  exact h
theorem plK1 : PC Tryz.prog 9 [.t [51, 45, 51]] (.tup [.sv (.sl 1 []), .i 6]) := by
  have h := plist_P [51, 45, 51] (by decide)
  rw [show plistW [51, 45, 51] = ([], 6) from by kernel_rfl] at h
  exact h
theorem plK2 : PC Tryz.prog 9 [.t [50, 44, 49]] (.tup [.sv (.sl 1 []), .i 6]) := by
  have h := plist_P [50, 44, 49] (by decide)
  rw [show plistW [50, 44, 49] = ([], 6) from by kernel_rfl] at h
  exact h
theorem plK3 : PC Tryz.prog 9 [.t [48, 45, 54, 48, 48]] (.tup [.sv (.sl 1 []), .i 3]) := by
  have h := plist_P [48, 45, 54, 48, 48] (by decide)
  have hg : goP none (Lib.split [48, 45, 54, 48, 48] [44]) = some [([48], [54, 48, 48])] := by kernel_rfl
  have hn : ¬ 0 < cmpT (lastP [([48], [54, 48, 48])]) (Lib.itoa 1000000000) := fun hh => by
    have := (cmp_val (a := [54, 48, 48]) (by decide) max_val.1).2.1 hh
    rw [max_val.2] at this
    exact absurd this (by decide)
  have e : plistW [48, 45, 54, 48, 48] = ([], 3) := by
    unfold plistW
    rw [if_neg (by decide), hg]
    dsimp only
    rw [if_neg hn]
    rfl
  rw [e] at h
  exact h
theorem nameK0 : PC Tryz.prog 15 [.t [87, 101, 98]] (.b false) := by
  have h := name_P [87, 101, 98] (by decide)
  rw [show nameC [87, 101, 98] = false from by kernel_rfl] at h
  exact h
theorem nameK1 : PC Tryz.prog 15 [.t [97, 97, 97, 97, 97, 97, 97, 97, 97, 97, 97, 97, 97, 97, 97, 97, 97]] (.b false) := by
  have h := name_P [97, 97, 97, 97, 97, 97, 97, 97, 97, 97, 97, 97, 97, 97, 97, 97, 97] (by decide)
  rw [show nameC [97, 97, 97, 97, 97, 97, 97, 97, 97, 97, 97, 97, 97, 97, 97, 97, 97] = false from by kernel_rfl] at h
  exact h
theorem lawKnown_P : PC Tryz.prog 4 [] (.b true) := by
 refine ⟨LC.of_go Tryz.func4 (c := _) rfl (by kernel_rfl) (by rw [Tryz.ntmps4]; simp) rfl rfl (by simp [LO.lt, LV.lts, LV.lt]) (by simp) ?_⟩
 intro B hA hmd
 refine .seq ?_
 refine .region rfl ?_
 refine R.assign (h := ?_)
 refine .n0 ?_
 refine .seq ?_
 refine .region rfl ?_
 refine R.callP (es := [_, _, _]) (fun _ => intK0) (h := ?_)
 refine R.move (h := ?_)
 refine R.extract (h := ?_)
 refine R.extract (h := ?_)
 refine R.assign (h := ?_)
 refine R.assign (h := ?_)
 refine .n0 ?_
 refine .seq ?_
 refine .region rfl ?_
 refine R.callP (es := [_, _, _]) (fun _ => intK1) (h := ?_)
 refine R.move (h := ?_)
 refine R.extract (h := ?_)
 refine R.extract (h := ?_)
 refine R.assign (h := ?_)
 refine R.assign (h := ?_)
 refine .n0 ?_
 refine .seq ?_
 refine .region rfl ?_
 refine R.callP (es := [_, _, _]) (fun _ => intK2) (h := ?_)
 refine R.move (h := ?_)
 refine R.extract (h := ?_)
 refine R.extract (h := ?_)
 refine R.assign (h := ?_)
 refine R.assign (h := ?_)
 refine .n0 ?_
 refine .seq ?_
 refine .region rfl ?_
 refine R.callP (es := [_]) (fun _ => unqK0) (h := ?_)
 refine R.move (h := ?_)
 refine R.extract (h := ?_)
 refine R.extract (h := ?_)
 refine R.assign (h := ?_)
 refine R.assign (h := ?_)
 refine .n0 ?_
 refine .seq ?_
 refine .region rfl ?_
 refine R.callP (es := [_]) (fun _ => unqK1) (h := ?_)
 refine R.move (h := ?_)
 refine R.extract (h := ?_)
 refine R.extract (h := ?_)
 refine R.assign (h := ?_)
 refine R.assign (h := ?_)
 refine .n0 ?_
 refine .seq ?_
 refine .region rfl ?_
 refine R.callP (es := [_]) (fun _ => unqK2) (h := ?_)
 refine R.move (h := ?_)
 refine R.extract (h := ?_)
 refine R.extract (h := ?_)
 refine R.assign (h := ?_)
 refine R.assign (h := ?_)
 refine .n0 ?_
 refine .seq ?_
 refine .region rfl ?_
 refine R.callP (es := [_]) (fun _ => splitK0) (h := ?_)
 refine R.move (h := ?_)
 refine R.extract (h := ?_)
 refine R.extract (h := ?_)
 refine R.assign (h := ?_)
 refine R.assign (h := ?_)
 refine .n0 ?_
 refine .seq ?_
 refine .region rfl ?_
 refine R.callP (es := [_]) (fun _ => splitK1) (h := ?_)
 refine R.move (h := ?_)
 refine R.extract (h := ?_)
 refine R.extract (h := ?_)
 refine R.assign (h := ?_)
 refine R.assign (h := ?_)
 refine .n0 ?_
 refine .seq ?_
 refine .region rfl ?_
 refine R.callP (es := [_]) (fun _ => listK) (h := ?_)
 refine R.move (h := ?_)
 refine R.extract (h := ?_)
 refine R.extract (h := ?_)
 refine R.assign (h := ?_)
 refine R.assign (h := ?_)
 refine .n0 ?_
 refine .seq ?_
 refine .region rfl ?_
 refine R.callP (es := [_]) (fun _ => plK0) (h := ?_)
 refine R.move (h := ?_)
 refine R.extract (h := ?_)
 refine R.extract (h := ?_)
 refine R.assign (h := ?_)
 refine R.assign (h := ?_)
 refine .n0 ?_
 refine .seq ?_
 refine .region rfl ?_
 refine R.callP (es := [_]) (fun _ => plK1) (h := ?_)
 refine R.move (h := ?_)
 refine R.extract (h := ?_)
 refine R.extract (h := ?_)
 refine R.assign (h := ?_)
 refine R.assign (h := ?_)
 refine .n0 ?_
 refine .seq ?_
 refine .region rfl ?_
 refine R.callP (es := [_]) (fun _ => plK2) (h := ?_)
 refine R.move (h := ?_)
 refine R.extract (h := ?_)
 refine R.extract (h := ?_)
 refine R.assign (h := ?_)
 refine R.assign (h := ?_)
 refine .n0 ?_
 refine .seq ?_
 refine .region rfl ?_
 refine R.callP (es := [_]) (fun _ => plK3) (h := ?_)
 refine R.move (h := ?_)
 refine R.extract (h := ?_)
 refine R.extract (h := ?_)
 refine R.assign (h := ?_)
 refine R.assign (h := ?_)
 refine .n0 ?_
 refine .seq ?_
 refine .seq ?_
 refine .region rfl ?_
 refine R.move (h := ?_)
 refine R.bin (run_neq _ _ _ _ _ _) (h := ?_)
 refine R.move (h := ?_)
 refine R.move (h := ?_)
 refine R.bin (run_neq _ _ _ _ _ _) (h := ?_)
 refine R.or (h := ?_)
 refine R.move (h := ?_)
 refine R.move (h := ?_)
 refine R.bin (run_neq _ _ _ _ _ _) (h := ?_)
 refine R.or (h := ?_)
 refine R.move (h := ?_)
 refine R.move (h := ?_)
 refine R.bin (run_neq _ _ _ _ _ _) (h := ?_)
 refine R.or (h := ?_)
 refine R.move (h := ?_)
 refine R.move (h := ?_)
 refine R.bin (run_neq _ _ _ _ _ _) (h := ?_)
 refine R.or (h := ?_)
 refine R.move (h := ?_)
 refine R.move (h := ?_)
 refine R.bin (run_neq _ _ _ _ _ _) (h := ?_)
 refine R.or (h := ?_)
 refine R.move (h := ?_)
 refine R.move (h := ?_)
 refine R.bin (run_neq _ _ _ _ _ _) (h := ?_)
 refine R.or (h := ?_)
 refine R.move (h := ?_)
 refine R.move (h := ?_)
 first | refine R.len S34 (h := ?_) | refine R.lenRs S34 (h := ?_) | refine R.lenV (run_lenNil S34) (h := ?_)
 refine R.bin (run_neq _ _ _ _ _ _) (h := ?_)
 refine R.or (h := ?_)
 refine R.move (h := ?_)
 refine R.move (h := ?_)
 refine R.bin (run_neq _ _ _ _ _ _) (h := ?_)
 refine R.or (h := ?_)
 refine R.move (h := ?_)
 refine R.move (h := ?_)
 refine R.bin (run_neqT _ _ _ _ _) (h := ?_)
 refine R.or (h := ?_)
 refine R.move (h := ?_)
 refine R.move (h := ?_)
 refine R.bin (run_neq _ _ _ _ _ _) (h := ?_)
 refine R.or (h := ?_)
 refine .n0 ?_
 refine LGo.ifb (ht := fun hc => ?_) (hf := fun hc => ?_)
 ·
  exfalso; revert hc; decide
 ·
  refine .skip ?_
  refine .seq ?_
  refine .region rfl ?_
  refine R.move (h := ?_)
  refine R.bin (run_eql _ _ _ _ _ _) (h := ?_)
  refine R.move (h := ?_)
  refine R.move (h := ?_)
  refine R.bin (run_eql _ _ _ _ _ _) (h := ?_)
  refine R.and (h := ?_)
  refine R.move (h := ?_)
  refine R.move (h := ?_)
  refine R.bin (run_eql _ _ _ _ _ _) (h := ?_)
  refine R.and (h := ?_)
  refine R.move (h := ?_)
  refine R.move (h := ?_)
  refine R.bin (run_eql _ _ _ _ _ _) (h := ?_)
  refine R.and (h := ?_)
  refine R.move (h := ?_)
  refine R.callP (es := [_]) (fun _ => nameK0) (h := ?_)
  refine R.not (h := ?_)
  refine R.and (h := ?_)
  refine R.move (h := ?_)
  refine R.callP (es := [_]) (fun _ => nameK1) (h := ?_)
  refine R.not (h := ?_)
  refine R.and (h := ?_)
  refine R.move (h := ?_)
  refine R.callP (es := []) (fun _ => shown_P) (h := ?_)
  refine R.and (h := ?_)
  refine R.assign (h := ?_)
  refine .n0 ?_
  exact LGo.ret (ret_T Tryz.results4 hA hmd)

end Go.Proofs.YtmjpkfjgknbfeaaGreatDoor
