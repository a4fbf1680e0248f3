/- gates: copies of slices; a copy of a state. -/
import Derived.Test.YtgcjjndhohellaaDoorGB
set_option linter.unusedSimpArgs false
set_option linter.unusedVariables false
namespace Go.Proofs.YtgcjjndhohellaaDoor

theorem cloneI (xs : List (List SV)) (hsz : ∀ e ∈ xs, e.length = 1) (hl : xs.length ≤ 100000) : LC Tryd.prog 64 0 [.sv (.sl 1 xs)] [] (.ref 0) [(0, .rs 3 1 xs)] 1 := by
 refine LC.of_go Tryd.func64 (c := _) rfl (by kernel_rfl) (by rw [Tryd.ntmps64]; simp) rfl rfl (by simp [LO.lt, LV.lts, LV.lt, lts_sv]) (by simp) ?_
 intro B hA hmd
 refine .seq ?_
 refine .region rfl ?_
 refine R.assign (h := ?_)
 refine .n0 ?_
 refine .seq ?_
 refine .seq ?_
 refine .region rfl ?_
 refine R.move (h := ?_)
 rcases Classical.em (xs = []) with h0 | h0
 ·
  refine R.nilU (hT := Tryd.underlying57) (h := ?_)
  refine .n0 ?_
  refine LGo.ifU (ht := ?_) (hf := ?_)
  ·
   refine .seq ?_
   refine .region rfl ?_
   refine R.assign (h := ?_)
   refine .n0 ?_
   subst h0
   refine LGo.nilRs 2 3 1 (h := ?_)
   exact LGo.ret (FnPost.finI [0] (res_T Tryd.results64) hA hmd)
  ·
   refine .skip ?_
   refine .seq ?_
   refine .region rfl ?_
   refine R.buildSliceR AP57 (xs := []) (es := []) (hcs := CellsOfs.nil) (h := ?_)
   refine R.move (h := ?_)
   refine R.appendS AP57 (hs := SrcOk.sl Tryd.underlying57 (hsz)) (hlen := by simp; omega) (h := ?_)
   refine R.assign (h := ?_)
   refine .n0 ?_
   exact LGo.ret (FnPost.finI [1] (res_T Tryd.results64) hA hmd)
 ·
  refine R.nilF false (hT := Tryd.underlying57) (hne := fun _ => h0) (h := ?_)
  refine .n0 ?_
  refine LGo.ifb (ht := fun hc2 => by simp at hc2) (hf := fun hc2 => ?_)
  refine .skip ?_
  refine .seq ?_
  refine .region rfl ?_
  refine R.buildSliceR AP57 (xs := []) (es := []) (hcs := CellsOfs.nil) (h := ?_)
  refine R.move (h := ?_)
  refine R.appendS AP57 (hs := SrcOk.sl Tryd.underlying57 (hsz)) (hlen := by simp; omega) (h := ?_)
  refine R.assign (h := ?_)
  refine .n0 ?_
  exact LGo.ret (FnPost.finI [1] (res_T Tryd.results64) hA hmd)

theorem cloneG (xs : List (List SV)) (hsz : ∀ e ∈ xs, e.length = 3) (hl : xs.length ≤ 100000) : LC Tryd.prog 62 0 [.sv (.sl 3 xs)] [] (.ref 0) [(0, .rs 59 3 xs)] 1 := by
 refine LC.of_go Tryd.func62 (c := _) rfl (by kernel_rfl) (by rw [Tryd.ntmps62]; simp) rfl rfl (by simp [LO.lt, LV.lts, LV.lt, lts_sv]) (by simp) ?_
 intro B hA hmd
 refine .seq ?_
 refine .region rfl ?_
 refine R.assign (h := ?_)
 refine .n0 ?_
 refine .seq ?_
 refine .seq ?_
 refine .region rfl ?_
 refine R.move (h := ?_)
 rcases Classical.em (xs = []) with h0 | h0
 ·
  refine R.nilU (hT := Tryd.underlying22) (h := ?_)
  refine .n0 ?_
  refine LGo.ifU (ht := ?_) (hf := ?_)
  ·
   refine .seq ?_
   refine .region rfl ?_
   refine R.assign (h := ?_)
   refine .n0 ?_
   subst h0
   refine LGo.nilRs 2 59 3 (h := ?_)
   exact LGo.ret (FnPost.finI [0] (res_T Tryd.results62) hA hmd)
  ·
   refine .skip ?_
   refine .seq ?_
   refine .region rfl ?_
   refine R.buildSliceR AP22 (xs := []) (es := []) (hcs := CellsOfs.nil) (h := ?_)
   refine R.move (h := ?_)
   refine R.appendS AP22 (hs := SrcOk.sl Tryd.underlying22 (hsz)) (hlen := by simp; omega) (h := ?_)
   refine R.assign (h := ?_)
   refine .n0 ?_
   exact LGo.ret (FnPost.finI [1] (res_T Tryd.results62) hA hmd)
 ·
  refine R.nilF false (hT := Tryd.underlying22) (hne := fun _ => h0) (h := ?_)
  refine .n0 ?_
  refine LGo.ifb (ht := fun hc2 => by simp at hc2) (hf := fun hc2 => ?_)
  refine .skip ?_
  refine .seq ?_
  refine .region rfl ?_
  refine R.buildSliceR AP22 (xs := []) (es := []) (hcs := CellsOfs.nil) (h := ?_)
  refine R.move (h := ?_)
  refine R.appendS AP22 (hs := SrcOk.sl Tryd.underlying22 (hsz)) (hlen := by simp; omega) (h := ?_)
  refine R.assign (h := ?_)
  refine .n0 ?_
  exact LGo.ret (FnPost.finI [1] (res_T Tryd.results62) hA hmd)

theorem cloneE (xs : List (List SV)) (hsz : ∀ e ∈ xs, e.length = 5) (hl : xs.length ≤ 100000) : LC Tryd.prog 63 0 [.sv (.sl 5 xs)] [] (.ref 0) [(0, .rs 40 5 xs)] 1 := by
 refine LC.of_go Tryd.func63 (c := _) rfl (by kernel_rfl) (by rw [Tryd.ntmps63]; simp) rfl rfl (by simp [LO.lt, LV.lts, LV.lt, lts_sv]) (by simp) ?_
 intro B hA hmd
 refine .seq ?_
 refine .region rfl ?_
 refine R.assign (h := ?_)
 refine .n0 ?_
 refine .seq ?_
 refine .seq ?_
 refine .region rfl ?_
 refine R.move (h := ?_)
 rcases Classical.em (xs = []) with h0 | h0
 ·
  refine R.nilU (hT := Tryd.underlying23) (h := ?_)
  refine .n0 ?_
  refine LGo.ifU (ht := ?_) (hf := ?_)
  ·
   refine .seq ?_
   refine .region rfl ?_
   refine R.assign (h := ?_)
   refine .n0 ?_
   subst h0
   refine LGo.nilRs 2 40 5 (h := ?_)
   exact LGo.ret (FnPost.finI [0] (res_T Tryd.results63) hA hmd)
  ·
   refine .skip ?_
   refine .seq ?_
   refine .region rfl ?_
   refine R.buildSliceR AP23 (xs := []) (es := []) (hcs := CellsOfs.nil) (h := ?_)
   refine R.move (h := ?_)
   refine R.appendS AP23 (hs := SrcOk.sl Tryd.underlying23 (hsz)) (hlen := by simp; omega) (h := ?_)
   refine R.assign (h := ?_)
   refine .n0 ?_
   exact LGo.ret (FnPost.finI [1] (res_T Tryd.results63) hA hmd)
 ·
  refine R.nilF false (hT := Tryd.underlying23) (hne := fun _ => h0) (h := ?_)
  refine .n0 ?_
  refine LGo.ifb (ht := fun hc2 => by simp at hc2) (hf := fun hc2 => ?_)
  refine .skip ?_
  refine .seq ?_
  refine .region rfl ?_
  refine R.buildSliceR AP23 (xs := []) (es := []) (hcs := CellsOfs.nil) (h := ?_)
  refine R.move (h := ?_)
  refine R.appendS AP23 (hs := SrcOk.sl Tryd.underlying23 (hsz)) (hlen := by simp; omega) (h := ?_)
  refine R.assign (h := ?_)
  refine .n0 ?_
  exact LGo.ret (FnPost.finI [1] (res_T Tryd.results63) hA hmd)

end Go.Proofs.YtgcjjndhohellaaDoor
