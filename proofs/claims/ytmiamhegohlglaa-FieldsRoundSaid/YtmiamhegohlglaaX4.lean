/- FieldsRound answers true. -/
import Derived.Test.YtmiamhegohlglaaV
import Derived.Test.YtmiamhegohlglaaC31
import Derived.Test.YtmiamhegohlglaaPL3
set_option linter.unusedSimpArgs false
set_option linter.unusedVariables false
namespace Go.Proofs.Ytmiamhegohlglaa

theorem fround_P (rs : List Rule) (l : List Fld) (hw : ∀ x ∈ l, 0 ≤ x.num ∧ x.num < 18446744073709551616) : PC Try.prog 5 [.sv (.sl 5 (rs.map Rule.c)), .sv (.sl 3 (l.map Fld.c))] (.b true) := by
  refine ⟨LC.of_go Try.func5 (c := _) rfl (by kernel_rfl) (by rw [Try.ntmps5]; simp) rfl rfl (by simp [LO.lt, LV.lts, LV.lt]) (by simp) ?_⟩
  intro B hA hmd
  refine LGo.seq ?_
  refine LGo.region rfl ?_  -- region 0
  refine R.assign (h := ?_)
  refine Reg.nil ⟨fun h => (by cases h), ?_⟩
  refine LGo.seq ?_
  refine LGo.seq ?_
  refine LGo.region rfl ?_  -- region 1
  refine R.move (h := ?_)
  refine R.move (h := ?_)
  refine R.callP (es := [_, _]) (fun _ => (far_P rs l)) (h := ?_)
  refine Reg.nil ⟨fun h => (by cases h), ?_⟩
  first | refine LGo.ifd (ht := fun hc => ?_) (hf := fun hc => ?_) | refine LGo.ifb (ht := fun hc => ?_) (hf := fun hc => ?_)
  · -- then 1
    refine LGo.seq ?_
    refine LGo.region rfl ?_  -- region 2
    refine R.callP (es := []) (fun _ => shown_P) (h := ?_)
    refine R.assign (h := ?_)
    refine Reg.nil ⟨fun h => (by cases h), ?_⟩
    exact LGo.ret (ret_T Try.results5 hA hmd)
  · -- else 1
    obtain ⟨hr, hl, hok, hbl⟩ := far_fldsB hw hc
    refine LGo.skip ?_
    refine LGo.seq ?_
    refine LGo.region rfl ?_  -- region 3
    refine R.move (h := ?_)
    refine R.move (h := ?_)
    refine R.callP (es := [_, _]) (fun _ => encode_PB rs l (by omega) (by omega) hok) (h := ?_)
    refine R.move (h := ?_)
    refine R.extract (h := ?_)
    refine R.extract (h := ?_)
    refine R.assign (h := ?_)
    refine R.assign (h := ?_)
    refine Reg.nil ⟨fun h => (by cases h), ?_⟩
    refine LGo.seq ?_
    refine LGo.seq ?_
    refine LGo.region rfl ?_  -- region 4
    refine R.move (h := ?_)
    refine R.bin (run_neq _ _ _ _ _ _) (h := ?_)
    refine Reg.nil ⟨fun h => (by cases h), ?_⟩
    first | refine LGo.ifd (ht := fun hc2 => ?_) (hf := fun hc2 => ?_) | refine LGo.ifb (ht := fun hc2 => ?_) (hf := fun hc2 => ?_)
    · -- then 2
      have hnil : encBy rs l = [] := by unfold encBy; rw [encode_err (by simpa using hc2)]; rfl
      rw [hnil]
      refine LGo.seq ?_
      refine LGo.region rfl ?_  -- region 5
      refine R.move (h := ?_)
      first | refine R.len S23 (h := ?_) | refine R.lenRs S23 (h := ?_) | refine R.lenV (run_lenNil S23) (h := ?_)
      rw [bytesC_length]
      refine R.bin (run_eql _ _ _ _ _ _) (h := ?_)
      refine R.move (h := ?_)
      refine R.callP (es := []) (fun _ => shown_P) (h := ?_)
      refine R.and (h := ?_)
      refine R.assign (h := ?_)
      refine Reg.nil ⟨fun h => (by cases h), ?_⟩
      refine LGo.tru 4 (h := ?_)
      exact LGo.ret (ret_T Try.results5 hA hmd)
    · -- else 2
      have he : (encode rs l).2 = 0 := by simpa using hc2
      refine LGo.skip ?_
      refine LGo.seq ?_
      refine LGo.region rfl ?_  -- region 6
      refine R.move (h := ?_)
      refine R.move (h := ?_)
      refine R.callP (es := [_, _]) (fun _ => round_P hr hok (by omega) he) (h := ?_)
      refine R.move (h := ?_)
      refine R.extract (h := ?_)
      refine R.extract (h := ?_)
      refine R.extract (h := ?_)
      refine R.assign (h := ?_)
      refine R.assign (h := ?_)
      refine R.assign (h := ?_)
      refine Reg.nil ⟨fun h => (by cases h), ?_⟩
      refine LGo.seq ?_
      refine LGo.region rfl ?_  -- region 7
      refine R.move (h := ?_)
      refine R.move (h := ?_)
      refine R.callP (es := [_, _]) (fun _ => same_PS l hl) (h := ?_)
      refine R.move (h := ?_)
      refine R.move (h := ?_)
      refine R.bin (run_eql _ _ _ _ _ _) (h := ?_)
      refine R.and (h := ?_)
      refine R.move (h := ?_)
      refine R.move (h := ?_)
      refine R.bin (run_eql _ _ _ _ _ _) (h := ?_)
      refine R.and (h := ?_)
      refine R.move (h := ?_)
      refine R.callP (es := []) (fun _ => shown_P) (h := ?_)
      refine R.and (h := ?_)
      refine R.assign (h := ?_)
      refine Reg.nil ⟨fun h => (by cases h), ?_⟩
      refine LGo.tru 4 (h := ?_)
      exact LGo.ret (ret_T Try.results5 hA hmd)

end Go.Proofs.Ytmiamhegohlglaa
