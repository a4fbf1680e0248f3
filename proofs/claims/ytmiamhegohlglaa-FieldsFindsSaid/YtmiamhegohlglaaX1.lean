/- FieldsFinds answers true. -/
import Derived.Test.YtmiamhegohlglaaV
import Derived.Test.YtmiamhegohlglaaC31
set_option linter.unusedSimpArgs false
set_option linter.unusedVariables false
namespace Go.Proofs.Ytmiamhegohlglaa

theorem finds_P (l : List Fld) (tag : Int) : PC Try.prog 4 [.sv (.sl 3 (l.map Fld.c)), .i tag] (.b true) := by
  refine ⟨LC.of_go Try.func4 (c := _) rfl (by kernel_rfl) (by rw [Try.ntmps4]; simp) rfl rfl (by simp [LO.lt, LV.lts, LV.lt]) (by simp) ?_⟩
  intro B hA hmd
  refine LGo.seq ?_
  refine LGo.region rfl ?_  -- region 0
  refine R.assign (h := ?_)
  refine Reg.nil ⟨fun h => (by cases h), ?_⟩
  refine LGo.seq ?_
  refine LGo.seq ?_
  refine LGo.region rfl ?_  -- region 1
  refine R.move (h := ?_)
  refine R.callP (es := [_, _]) (fun _ => (PC.nil0 (far_P [] l))) (h := ?_)
  refine Reg.nil ⟨fun h => (by cases h), ?_⟩
  first | refine LGo.ifd (ht := fun hc => ?_) (hf := fun hc => ?_) | refine LGo.ifb (ht := fun hc => ?_) (hf := fun hc => ?_)
  · -- then 1
    refine LGo.seq ?_
    refine LGo.region rfl ?_  -- region 2
    refine R.callP (es := []) (fun _ => shown_P) (h := ?_)
    refine R.assign (h := ?_)
    refine Reg.nil ⟨fun h => (by cases h), ?_⟩
    exact LGo.ret (ret_T Try.results4 hA hmd)
  · -- else 1
    have hl := far_false hc
    refine LGo.skip ?_
    refine LGo.seq ?_
    refine LGo.region rfl ?_  -- region 3
    refine R.move (h := ?_)
    refine R.move (h := ?_)
    refine R.callP (es := [_, _]) (fun _ => fld_pub l tag (by omega)) (h := ?_)
    refine R.move (h := ?_)
    refine R.extract (h := ?_)
    refine R.extract (h := ?_)
    refine R.alloc Z34 (h := ?_)
    refine R.storeA A34 (h := ?_)
    refine R.assign (h := ?_)
    refine Reg.nil ⟨fun h => (by cases h), ?_⟩
    refine LGo.seq ?_
    refine LGo.region rfl ?_  -- region 4
    refine R.move (h := ?_)
    refine R.move (h := ?_)
    refine R.callP (es := [_, _]) (fun _ => refFind_P l tag (by omega)) (h := ?_)
    refine R.move (h := ?_)
    refine R.extract (h := ?_)
    refine R.extract (h := ?_)
    refine R.alloc Z34 (h := ?_)
    refine R.storeA A34 (h := ?_)
    refine R.assign (h := ?_)
    refine Reg.nil ⟨fun h => (by cases h), ?_⟩
    refine LGo.seq ?_
    refine LGo.region rfl ?_  -- region 5
    first | refine R.loadA A34 (h := ?_) | refine R.loadN A34 (h := ?_)
    first | refine R.loadA A34 (h := ?_) | refine R.loadN A34 (h := ?_)
    refine R.binA (EQ34 _ _ _ _ _ _ _ _) (h := ?_)
    refine R.move (h := ?_)
    refine R.move (h := ?_)
    refine R.move (h := ?_)
    refine R.bin (run_eqlB Try.underlying4 _ _ _ _) (h := ?_)
    refine R.and (h := ?_)
    refine R.move (h := ?_)
    refine R.callP (es := []) (fun _ => shown_P) (h := ?_)
    refine R.and (h := ?_)
    refine R.assign (h := ?_)
    refine Reg.nil ⟨fun h => (by cases h), ?_⟩
    refine LGo.tru 4 (h := ?_)
    exact LGo.ret (ret_T Try.results4 hA hmd)

end Go.Proofs.Ytmiamhegohlglaa
