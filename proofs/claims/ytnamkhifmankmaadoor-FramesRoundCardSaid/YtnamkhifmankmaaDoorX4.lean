/- FramesMakes answers true. -/
import Derived.Test.YtnamkhifmankmaaDoorJB
set_option linter.unusedSimpArgs false
set_option linter.unusedVariables false
namespace Go.Proofs.YtnamkhifmankmaaDoor

theorem dec_rfl {α : Type} (a : α) [Decidable (a = a)] : decide (a = a) = true := decide_eq_true rfl

theorem makes_P (p : List UInt8) (l : List (List UInt8)) (hl : l.length ≤ maxLen) : PC Tryd.prog 3 [.sv (.sl 1 (bytesC p)), .sv (.sl 1 (rowsC l))] (.b true) := by
 refine ⟨LC.of_go Tryd.func3 (c := _) rfl (by kernel_rfl) (by rw [Tryd.ntmps3]; simp) rfl rfl (by simp [LO.lt, LV.lts, LV.lt, lts_sv]) (by simp) ?_⟩
 intro B hA hmd
 obtain ⟨bf, hbf⟩ := far_P l hl
 refine .seq ?_
 refine .region rfl ?_
 refine R.assign (h := ?_)
 refine .n0 ?_
 refine .seq ?_
 refine .seq ?_
 refine .region rfl ?_
 refine R.move (h := ?_)
 first | refine R.len S22 (h := ?_) | refine R.lenRs S22 (h := ?_) | refine R.lenV (run_lenNil S22) (h := ?_)
 rw [bytesC_length]
 refine R.bin (run_gtr _ _ _ _ _ _) (h := ?_)
 refine R.move (h := ?_)
 refine R.move (h := ?_)
 refine R.callP (es := [_]) (fun _ => hbf) (h := ?_)
 refine R.or (h := ?_)
 refine .n0 ?_
 first | refine LGo.ifd (ht := fun hc => ?_) (hf := fun hc => ?_) | refine LGo.ifb (ht := fun hc => ?_) (hf := fun hc => ?_)
 ·
  refine .seq ?_
  refine .region rfl ?_
  refine R.callP (es := []) (fun _ => shown_P) (h := ?_)
  refine R.assign (h := ?_)
  refine .n0 ?_
  exact LGo.ret (ret_T Tryd.results3 hA hmd)
 ·
  refine .skip ?_
  refine .seq ?_
  refine .region rfl ?_
  refine R.move (h := ?_)
  refine R.callP (es := [_]) (fun _ => frameA_P p) (h := ?_)
  refine R.move (h := ?_)
  refine R.extract (h := ?_)
  refine R.extract (h := ?_)
  refine R.assign (h := ?_)
  refine R.assign (h := ?_)
  refine .n0 ?_
  refine .seq ?_
  refine .region rfl ?_
  refine R.move (h := ?_)
  refine R.callP (es := [_]) (fun _ => frameR_P p) (h := ?_)
  refine R.move (h := ?_)
  refine R.extract (h := ?_)
  refine R.extract (h := ?_)
  refine R.assign (h := ?_)
  refine R.assign (h := ?_)
  refine .n0 ?_
  refine .seq ?_
  refine .region rfl ?_
  refine R.move (h := ?_)
  refine R.callP (es := [_]) (fun _ => join_P l hl) (h := ?_)
  refine R.move (h := ?_)
  refine R.extract (h := ?_)
  refine R.extract (h := ?_)
  refine R.assign (h := ?_)
  refine R.assign (h := ?_)
  refine .n0 ?_
  refine .seq ?_
  refine .region rfl ?_
  refine R.move (h := ?_)
  refine R.callP (es := [_]) (fun _ => joinR_P l hl) (h := ?_)
  refine R.move (h := ?_)
  refine R.extract (h := ?_)
  refine R.extract (h := ?_)
  refine R.assign (h := ?_)
  refine R.assign (h := ?_)
  refine .n0 ?_
  refine .seq ?_
  refine .region rfl ?_
  refine R.move (h := ?_)
  refine R.toString Tryd.underlying22 Tryd.underlying5 Tryd.underlying9 (h := ?_)
  refine R.move (h := ?_)
  refine R.toString Tryd.underlying22 Tryd.underlying5 Tryd.underlying9 (h := ?_)
  refine R.bin (run_eqlT _ _ _ _ _) (h := ?_)
  rw [dec_rfl]
  refine R.move (h := ?_)
  refine R.move (h := ?_)
  refine R.move (h := ?_)
  refine R.bin (run_eql _ _ _ _ _ _) (h := ?_)
  rw [dec_rfl (frame p).2]
  refine R.and (h := ?_)
  refine R.move (h := ?_)
  refine R.move (h := ?_)
  refine R.toString Tryd.underlying22 Tryd.underlying5 Tryd.underlying9 (h := ?_)
  refine R.move (h := ?_)
  refine R.toString Tryd.underlying22 Tryd.underlying5 Tryd.underlying9 (h := ?_)
  refine R.bin (run_eqlT _ _ _ _ _) (h := ?_)
  rw [dec_rfl]
  refine R.and (h := ?_)
  refine R.move (h := ?_)
  refine R.move (h := ?_)
  refine R.move (h := ?_)
  refine R.bin (run_eql _ _ _ _ _ _) (h := ?_)
  rw [dec_rfl (joinF l).2]
  refine R.and (h := ?_)
  refine R.move (h := ?_)
  refine R.callP (es := []) (fun _ => shown_P) (h := ?_)
  refine R.and (h := ?_)
  refine R.assign (h := ?_)
  refine .n0 ?_
  exact LGo.ret (ret_T Tryd.results3 hA hmd)

end Go.Proofs.YtnamkhifmankmaaDoor
