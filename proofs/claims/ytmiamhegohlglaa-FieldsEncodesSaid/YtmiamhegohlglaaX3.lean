/- FieldsEncodes answers true. -/
import Derived.Test.YtmiamhegohlglaaV
import Derived.Test.YtmiamhegohlglaaC31
import Derived.Test.YtmiamhegohlglaaPL3
set_option linter.unusedSimpArgs false
set_option linter.unusedVariables false
namespace Go.Proofs.Ytmiamhegohlglaa

theorem encode_PB (rs : List Rule) (fs : List Fld) (hrs : rs.length ≤ 100) (hfs : fs.length ≤ 100) (hok : ∀ x ∈ fs, FldOk x) : PC Try.prog 18 [.sv (.sl 5 (rs.map Rule.c)), .sv (.sl 3 (fs.map Fld.c))] (.tup [.sv (.sl 1 (bytesC (encBy rs fs))), .i (encode rs fs).2]) := by
  have h := encode_P rs fs hrs hfs hok
  rw [ic_byt _ (encode_byt rs fs hok)] at h
  exact h
theorem encodeR_PB (rs : List Rule) (fs : List Fld) (hrs : rs.length ≤ 100) (hfs : fs.length ≤ 100) (hok : ∀ x ∈ fs, FldOk x) : PC Try.prog 20 [.sv (.sl 5 (rs.map Rule.c)), .sv (.sl 3 (fs.map Fld.c))] (.tup [.sv (.sl 1 (bytesC (encBy rs fs))), .i (encode rs fs).2]) := by
  have h := encodeR_P rs fs hrs hfs hok
  rw [encode_eq rs fs hok, ic_byt _ (encode_byt rs fs hok)] at h
  exact h
theorem size22_P' (rs : List Rule) (fs : List Fld) (hrs : rs.length ≤ 100) (hfs : fs.length ≤ 100) (hok : ∀ x ∈ fs, FldOk x) : PC Try.prog 22 [.sv (.sl 5 (rs.map Rule.c)), .sv (.sl 3 (fs.map Fld.c))] (.tup [.i (encode rs fs).1.length, .i (encode rs fs).2]) := by
  have h := size22_P rs fs hrs hfs hok
  rw [encode_eq rs fs hok] at h
  exact h
theorem far_flds {rs : List Rule} {l : List Fld} (hw : ∀ x ∈ l, 0 ≤ x.num ∧ x.num < 18446744073709551616) (h : far rs l = false) : rs.length ≤ 20 ∧ l.length ≤ 20 ∧ ∀ x ∈ l, FldOk x := by
  obtain ⟨h1, h2, h3⟩ := far_false h
  exact ⟨h1, h2, fun x hx => ⟨(hw x hx).1, (hw x hx).2, by have := h3 x hx; omega⟩⟩

theorem encodes_P (rs : List Rule) (l : List Fld) (hw : ∀ x ∈ l, 0 ≤ x.num ∧ x.num < 18446744073709551616) : PC Try.prog 9 [.sv (.sl 5 (rs.map Rule.c)), .sv (.sl 3 (l.map Fld.c))] (.b true) := by
  refine ⟨LC.of_go Try.func9 (c := _) rfl (by kernel_rfl) (by rw [Try.ntmps9]; simp) rfl rfl (by simp [LO.lt, LV.lts, LV.lt]) (by simp) ?_⟩
  intro B hA hmd
  refine LGo.seq ?_
  refine LGo.region rfl ?_  -- region 0
  refine R.assign (h := ?_)
  refine Reg.nil ⟨fun h => (by cases h), ?_⟩
  refine LGo.seq ?_
  refine LGo.seq ?_
  refine LGo.region rfl ?_  -- region 1
  refine R.move (h := ?_)
  refine R.move (h := ?_)
  refine R.callP (es := [_, _]) (fun _ => (far_P rs l)) (h := ?_)
  refine Reg.nil ⟨fun h => (by cases h), ?_⟩
  first | refine LGo.ifd (ht := fun hc => ?_) (hf := fun hc => ?_) | refine LGo.ifb (ht := fun hc => ?_) (hf := fun hc => ?_)
  · -- then 1
    refine LGo.seq ?_
    refine LGo.region rfl ?_  -- region 2
    refine R.callP (es := []) (fun _ => shown_P) (h := ?_)
    refine R.assign (h := ?_)
    refine Reg.nil ⟨fun h => (by cases h), ?_⟩
    exact LGo.ret (ret_T Try.results9 hA hmd)
  · -- else 1
    obtain ⟨hr, hl, hok⟩ := far_flds hw hc
    refine LGo.skip ?_
    refine LGo.seq ?_
    refine LGo.region rfl ?_  -- region 3
    refine R.move (h := ?_)
    refine R.move (h := ?_)
    refine R.callP (es := [_, _]) (fun _ => encode_PB rs l (by omega) (by omega) hok) (h := ?_)
    refine R.move (h := ?_)
    refine R.extract (h := ?_)
    refine R.extract (h := ?_)
    refine R.assign (h := ?_)
    refine R.assign (h := ?_)
    refine Reg.nil ⟨fun h => (by cases h), ?_⟩
    refine LGo.seq ?_
    refine LGo.region rfl ?_  -- region 4
    refine R.move (h := ?_)
    refine R.move (h := ?_)
    refine R.callP (es := [_, _]) (fun _ => encodeR_PB rs l (by omega) (by omega) hok) (h := ?_)
    refine R.move (h := ?_)
    refine R.extract (h := ?_)
    refine R.extract (h := ?_)
    refine R.assign (h := ?_)
    refine R.assign (h := ?_)
    refine Reg.nil ⟨fun h => (by cases h), ?_⟩
    refine LGo.seq ?_
    refine LGo.region rfl ?_  -- region 5
    refine R.move (h := ?_)
    refine R.move (h := ?_)
    refine R.callP (es := [_, _]) (fun _ => size21_P rs l (by omega) (by omega) hok) (h := ?_)
    refine R.move (h := ?_)
    refine R.extract (h := ?_)
    refine R.extract (h := ?_)
    refine R.assign (h := ?_)
    refine R.assign (h := ?_)
    refine Reg.nil ⟨fun h => (by cases h), ?_⟩
    refine LGo.seq ?_
    refine LGo.region rfl ?_  -- region 6
    refine R.move (h := ?_)
    refine R.move (h := ?_)
    refine R.callP (es := [_, _]) (fun _ => size22_P' rs l (by omega) (by omega) hok) (h := ?_)
    refine R.move (h := ?_)
    refine R.extract (h := ?_)
    refine R.extract (h := ?_)
    refine R.assign (h := ?_)
    refine R.assign (h := ?_)
    refine Reg.nil ⟨fun h => (by cases h), ?_⟩
    refine LGo.seq ?_
    refine LGo.region rfl ?_  -- region 7
    refine R.move (h := ?_)
    refine R.toString Try.underlying23 Try.underlying5 Try.underlying9 (h := ?_)
    refine R.move (h := ?_)
    refine R.toString Try.underlying23 Try.underlying5 Try.underlying9 (h := ?_)
    refine R.bin (run_eqlT _ _ _ _ _) (h := ?_)
    refine R.move (h := ?_)
    refine R.move (h := ?_)
    refine R.move (h := ?_)
    refine R.bin (run_eql _ _ _ _ _ _) (h := ?_)
    refine R.and (h := ?_)
    refine R.move (h := ?_)
    refine R.move (h := ?_)
    refine R.move (h := ?_)
    refine R.bin (run_eql _ _ _ _ _ _) (h := ?_)
    refine R.and (h := ?_)
    refine R.move (h := ?_)
    refine R.move (h := ?_)
    refine R.move (h := ?_)
    refine R.bin (run_eql _ _ _ _ _ _) (h := ?_)
    refine R.and (h := ?_)
    refine R.move (h := ?_)
    refine R.move (h := ?_)
    refine R.callP (es := [_]) (fun _ => check_P rs) (h := ?_)
    refine R.move (h := ?_)
    refine R.callP (es := [_]) (fun _ => refCheck_P rs) (h := ?_)
    refine R.bin (run_eql _ _ _ _ _ _) (h := ?_)
    refine R.and (h := ?_)
    refine R.move (h := ?_)
    refine R.callP (es := []) (fun _ => shown_P) (h := ?_)
    refine R.and (h := ?_)
    refine R.assign (h := ?_)
    refine Reg.nil ⟨fun h => (by cases h), ?_⟩
    refine LGo.tru 4 (hb := by simp [refCheck_eq]) (h := ?_)
    exact LGo.ret (ret_T Try.results9 hA hmd)

end Go.Proofs.Ytmiamhegohlglaa
