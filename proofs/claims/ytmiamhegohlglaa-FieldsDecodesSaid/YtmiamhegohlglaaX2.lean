/- FieldsDecodes answers true. -/
import Derived.Test.YtmiamhegohlglaaV
import Derived.Test.YtmiamhegohlglaaC31
import Derived.Test.YtmiamhegohlglaaPL3
set_option linter.unusedSimpArgs false
set_option linter.unusedVariables false
namespace Go.Proofs.Ytmiamhegohlglaa

theorem decode_len (rs : List Rule) (b : List UInt8) : (decode rs b).1.length ≤ 16 := by
  rcases decode_cases rs b with ⟨_, h⟩ | ⟨_, _, _, _, h⟩ | ⟨hc, l, h, hd⟩
  · rw [h]; simp
  · rw [h]; simp
  · rw [h]; exact (one_law hc hd).2.1
theorem decodeR_P' (rs : List Rule) (b : List UInt8) (hrs : rs.length ≤ 100) (hb : b.length ≤ 10000) : PC Try.prog 14 [.sv (.sl 5 (rs.map Rule.c)), .sv (.sl 1 (bytesC b))] (.tup [.sv (.sl 3 ((decode rs b).1.map Fld.c)), .i (decode rs b).2.1, .i (decode rs b).2.2]) := by
  rw [← decode_eq]; exact decodeR_P rs b hrs hb
theorem far_rs {rs : List Rule} {n : Int} (h : (far rs [] || decide (8000 < n)) = false) : rs.length ≤ 20 ∧ n ≤ 8000 := by
  rw [Bool.or_eq_false_iff] at h
  have := (far_false h.1).1
  have h2 := of_decide_eq_false h.2
  omega

theorem decodes_P (rs : List Rule) (b : List UInt8) : PC Try.prog 3 [.sv (.sl 5 (rs.map Rule.c)), .sv (.sl 1 (bytesC b))] (.b true) := by
  refine ⟨LC.of_go Try.func3 (c := _) rfl (by kernel_rfl) (by rw [Try.ntmps3]; simp) rfl rfl (by simp [LO.lt, LV.lts, LV.lt]) (by simp) ?_⟩
  intro B hA hmd
  refine LGo.seq ?_
  refine LGo.region rfl ?_  -- region 0
  refine R.assign (h := ?_)
  refine Reg.nil ⟨fun h => (by cases h), ?_⟩
  refine LGo.seq ?_
  refine LGo.seq ?_
  refine LGo.region rfl ?_  -- region 1
  refine R.move (h := ?_)
  refine R.callP (es := [_, _]) (fun _ => (PC.nil1 (far_P rs []))) (h := ?_)
  refine R.move (h := ?_)
  refine R.move (h := ?_)
  first | refine R.len S23 (h := ?_) | refine R.lenRs S23 (h := ?_) | refine R.lenV (run_lenNil S23) (h := ?_)
  rw [bytesC_length]
  refine R.bin (run_gtr _ _ _ _ _ _) (h := ?_)
  refine R.or (h := ?_)
  refine Reg.nil ⟨fun h => (by cases h), ?_⟩
  first | refine LGo.ifd (ht := fun hc => ?_) (hf := fun hc => ?_) | refine LGo.ifb (ht := fun hc => ?_) (hf := fun hc => ?_)
  · -- then 1
    refine LGo.seq ?_
    refine LGo.region rfl ?_  -- region 2
    refine R.callP (es := []) (fun _ => shown_P) (h := ?_)
    refine R.assign (h := ?_)
    refine Reg.nil ⟨fun h => (by cases h), ?_⟩
    exact LGo.ret (ret_T Try.results3 hA hmd)
  · -- else 1
    obtain ⟨hr, hb⟩ := far_rs hc
    have hdl := decode_len rs b
    refine LGo.skip ?_
    refine LGo.seq ?_
    refine LGo.region rfl ?_  -- region 3
    refine R.move (h := ?_)
    refine R.toString Try.underlying23 Try.underlying5 Try.underlying9 (h := ?_)
    refine R.assign (h := ?_)
    refine Reg.nil ⟨fun h => (by cases h), ?_⟩
    refine LGo.seq ?_
    refine LGo.region rfl ?_  -- region 4
    refine R.move (h := ?_)
    refine R.move (h := ?_)
    refine R.callP (es := [_, _]) (fun _ => decode_P rs b (by omega) (by omega)) (h := ?_)
    refine R.move (h := ?_)
    refine R.extract (h := ?_)
    refine R.extract (h := ?_)
    refine R.extract (h := ?_)
    refine R.assign (h := ?_)
    refine R.assign (h := ?_)
    refine R.assign (h := ?_)
    refine Reg.nil ⟨fun h => (by cases h), ?_⟩
    refine LGo.seq ?_
    refine LGo.region rfl ?_  -- region 5
    refine R.move (h := ?_)
    refine R.move (h := ?_)
    refine R.callP (es := [_, _]) (fun _ => decodeR_P' rs b (by omega) (by omega)) (h := ?_)
    refine R.move (h := ?_)
    refine R.extract (h := ?_)
    refine R.extract (h := ?_)
    refine R.extract (h := ?_)
    refine R.assign (h := ?_)
    refine R.assign (h := ?_)
    refine R.assign (h := ?_)
    refine Reg.nil ⟨fun h => (by cases h), ?_⟩
    refine LGo.seq ?_
    refine LGo.region rfl ?_  -- region 6
    refine R.move (h := ?_)
    refine R.move (h := ?_)
    refine R.callP (es := [_, _]) (fun _ => same_P (decode rs b).1 (decode rs b).1 (by omega) (by omega)) (h := ?_)
    refine R.move (h := ?_)
    refine R.move (h := ?_)
    refine R.move (h := ?_)
    refine R.bin (run_eql _ _ _ _ _ _) (h := ?_)
    refine R.and (h := ?_)
    refine R.move (h := ?_)
    refine R.move (h := ?_)
    refine R.move (h := ?_)
    refine R.bin (run_eql _ _ _ _ _ _) (h := ?_)
    refine R.and (h := ?_)
    refine R.move (h := ?_)
    refine R.move (h := ?_)
    refine R.toString Try.underlying23 Try.underlying5 Try.underlying9 (h := ?_)
    refine R.move (h := ?_)
    refine R.bin (run_eqlT _ _ _ _ _) (h := ?_)
    refine R.and (h := ?_)
    refine R.move (h := ?_)
    refine R.callP (es := []) (fun _ => shown_P) (h := ?_)
    refine R.and (h := ?_)
    refine R.assign (h := ?_)
    refine Reg.nil ⟨fun h => (by cases h), ?_⟩
    refine LGo.tru 4 (hb := by simp [same_self]) (h := ?_)
    exact LGo.ret (ret_T Try.results3 hA hmd)

end Go.Proofs.Ytmiamhegohlglaa
