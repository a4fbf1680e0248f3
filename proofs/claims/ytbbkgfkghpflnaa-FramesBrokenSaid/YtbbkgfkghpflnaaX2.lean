/- FramesBroken answers true. -/
import Derived.Test.YtbbkgfkghpflnaaV
import Derived.Test.YtbbkgfkghpflnaaPL
set_option linter.unusedSimpArgs false
set_option linter.unusedVariables false
namespace Go.Proofs.Ytbbkgfkghpflnaa

theorem broken_P (b more : List UInt8) (n : Int) (hn0 : 0 ≤ n) (hn1 : n < 65536) : PC Try.prog 4 [.sv (.sl 1 (bytesC b)), .sv (.sl 1 (bytesC more)), .v (.int .u16 n)] (.b true) := by
  refine ⟨LC.of_go Try.func4 (c := _) rfl (by kernel_rfl) (by rw [Try.ntmps4]; simp) rfl rfl (by simp [LO.lt, LV.lts, LV.lt]) (by simp) ?_⟩
  intro B hA hmd
  refine LGo.seq ?_
  refine LGo.region rfl ?_  -- region 0
  refine R.assign (h := ?_)
  refine Reg.nil ⟨fun h => (by cases h), ?_⟩
  refine LGo.seq ?_
  refine LGo.seq ?_
  refine LGo.region rfl ?_  -- region 1
  refine R.move (h := ?_)
  first | refine R.len S22 (h := ?_) | refine R.lenRs S22 (h := ?_) | refine R.lenV (run_lenNil S22) (h := ?_)
  rw [bytesC_length]
  refine R.bin (run_gtr _ _ _ _ _ _) (h := ?_)
  refine R.move (h := ?_)
  refine R.move (h := ?_)
  first | refine R.len S22 (h := ?_) | refine R.lenRs S22 (h := ?_) | refine R.lenV (run_lenNil S22) (h := ?_)
  rw [bytesC_length]
  refine R.bin (run_gtr _ _ _ _ _ _) (h := ?_)
  refine R.or (h := ?_)
  refine Reg.nil ⟨fun h => (by cases h), ?_⟩
  first | refine LGo.ifd (ht := fun hc => ?_) (hf := fun hc => ?_) | refine LGo.ifb (ht := fun hc => ?_) (hf := fun hc => ?_)
  · -- then 1
    refine LGo.seq ?_
    refine LGo.region rfl ?_  -- region 2
    refine R.callP (es := []) (fun _ => shown_P) (h := ?_)
    refine R.assign (h := ?_)
    refine Reg.nil ⟨fun h => (by cases h), ?_⟩
    exact LGo.ret (ret_T Try.results4 hA hmd)
  · -- else 1
    simp only [Bool.or_eq_false_iff, decide_eq_false_iff_not] at hc
    have hbl : b.length ≤ 4000 := by omega
    have hml : more.length ≤ 4000 := by omega
    have hsl := split_len b
    have hsl2 := split_len (b ++ more)
    rw [List.length_append] at hsl2
    refine LGo.skip ?_
    refine LGo.seq ?_
    refine LGo.region rfl ?_  -- region 3
    refine R.move (h := ?_)
    refine R.callP (es := [_]) (fun _ => split_P b (by omega)) (h := ?_)
    refine R.move (h := ?_)
    refine R.extract (h := ?_)
    refine R.extract (h := ?_)
    refine R.alloc Z26 (h := ?_)
    refine R.assign (h := ?_)
    refine R.storeA A26 (h := ?_)
    refine Reg.nil ⟨fun h => (by cases h), ?_⟩
    refine LGo.seq ?_
    refine LGo.region rfl ?_  -- region 4
    refine R.buildSliceR AP22 (xs := []) (es := []) (cs := []) (ys := []) (hcs := CellsOfs.nil) (hys := rfl) (h := ?_)
    refine R.move (h := ?_)
    refine R.appendS AP22 (hs := SrcOk.sl Try.underlying22 (bytesC_one _)) (hlen := by rw [bytesC_length]; simp; omega) (h := ?_)
    rw [List.nil_append]
    refine R.move (h := ?_)
    refine R.appendF AP22 (hs := SrcOk.sl Try.underlying22 (bytesC_one _)) (hlen := by rw [bytesC_length, bytesC_length]; omega) (h := ?_)
    rw [← bytesC_app]
    refine R.callP (es := [_]) (fun _ => split_P (b ++ more) (by rw [List.length_append]; omega)) (h := ?_)
    refine R.move (h := ?_)
    refine R.extract (h := ?_)
    refine R.extract (h := ?_)
    refine R.alloc Z26 (h := ?_)
    refine R.assign (h := ?_)
    refine R.storeA A26 (h := ?_)
    refine Reg.nil ⟨fun h => (by cases h), ?_⟩
    refine LGo.seq ?_
    refine LGo.seq ?_
    refine LGo.region rfl ?_  -- region 5
    first | refine R.field F26_1 (h := ?_) | refine R.fieldAt F26_1 (h := ?_)
    first | refine R.loadB O4 (h := ?_) | refine R.load1 O4 (h := ?_)
    refine Reg.nil ⟨fun h => (by cases h), ?_⟩
    refine LGo.ifb (ht := fun hc2 => ?_) (hf := fun hc2 => ?_)
    · -- then 2
      obtain ⟨b1, b2⟩ := broken_law b more hc2
      refine LGo.seq ?_
      refine LGo.region rfl ?_  -- region 6
      first | refine R.field F26_1 (h := ?_) | refine R.fieldAt F26_1 (h := ?_)
      first | refine R.loadB O4 (h := ?_) | refine R.load1 O4 (h := ?_)
      refine R.move (h := ?_)
      refine R.move (h := ?_)
      refine R.move (h := ?_)
      refine R.callP (es := [_, _]) (fun _ => same_P (split b).1 (split (b ++ more)).1 (by omega) (by omega)) (h := ?_)
      refine R.and (h := ?_)
      refine R.move (h := ?_)
      refine R.callP (es := []) (fun _ => shown_P) (h := ?_)
      refine R.and (h := ?_)
      refine R.assign (h := ?_)
      refine Reg.nil ⟨fun h => (by cases h), ?_⟩
      refine LGo.tru 6 (hb := by rw [b1, b2]; simp [same_self]) (h := ?_)
      exact LGo.ret (ret_T Try.results4 hA hmd)
    · -- else 2
      obtain ⟨n1, n2, _, _⟩ := need_law b [] hc2
      refine LGo.skip ?_
      refine LGo.seq ?_
      refine LGo.region rfl ?_  -- region 7
      first | refine R.loadA A26 (h := ?_) | refine R.loadN A26 (h := ?_)
      refine R.callP (es := [_]) (fun _ => need_P (split b).2 (by omega)) (h := ?_)
      refine R.move (h := ?_)
      refine R.extract (h := ?_)
      refine R.extract (h := ?_)
      refine R.assign (h := ?_)
      refine R.assign (h := ?_)
      refine Reg.nil ⟨fun h => (by cases h), ?_⟩
      refine LGo.seq ?_
      refine LGo.seq ?_
      refine LGo.region rfl ?_  -- region 8
      refine R.move (h := ?_)
      refine R.bin (run_neq _ _ _ _ _ _) (h := ?_)
      refine R.move (h := ?_)
      refine R.move (h := ?_)
      refine R.bin (run_lss _ _ _ _ _ _) (h := ?_)
      refine R.or (h := ?_)
      refine Reg.nil ⟨fun h => (by cases h), ?_⟩
      refine LGo.ifb (ht := fun hc3 => ?_) (hf := fun hc3 => ?_)
      · -- then 3
        rw [n1] at hc3; simp at hc3; omega -- END
      · -- else 3
        refine LGo.skip ?_
        refine LGo.seq ?_
        refine LGo.region rfl ?_  -- region 10
        refine R.move (h := ?_)
        refine R.move (h := ?_)
        first | refine R.len S22 (h := ?_) | refine R.lenRs S22 (h := ?_) | refine R.lenV (run_lenNil S22) (h := ?_)
        rw [bytesC_length]
        refine R.move (h := ?_)
        first | refine R.convI Try.runUnderlying34 Try.runUnderlying3 (h := ?_) | refine R.convW Try.runUnderlying34 Try.runUnderlying3 (h := ?_)
        refine R.minI (h := ?_)
        obtain ⟨m, hm, hm2⟩ : ∃ m : Nat, min (more.length : Int) n = m ∧ m ≤ more.length := ⟨(min (more.length : Int) n).toNat, by omega, by omega⟩
        rw [hm]
        refine R.sliceHi SF22 (ha := fun _ => ⟨by omega, by rw [bytesC_length]; omega⟩) (h := ?_)
        rw [bytesC_take, Int.toNat_natCast]
        have hpl : (more.take m).length = m := by rw [List.length_take]; omega
        obtain ⟨_, _, n3, n4⟩ := need_law b (more.take m) hc2
        refine R.assign (h := ?_)
        refine Reg.nil ⟨fun h => (by cases h), ?_⟩
        refine LGo.seq ?_
        refine LGo.region rfl ?_  -- region 11
        first | refine R.loadA A26 (h := ?_) | refine R.loadN A26 (h := ?_)
        refine R.move (h := ?_)
        refine R.callP (es := [_, _]) (fun _ => feed_P (split b).2 (more.take m) (by omega) (by omega)) (h := ?_)
        refine R.move (h := ?_)
        refine R.extract (h := ?_)
        refine R.extract (h := ?_)
        refine R.extract (h := ?_)
        refine R.alloc Z26 (h := ?_)
        refine R.storeA A26 (h := ?_)
        refine R.assign (h := ?_)
        refine R.assign (h := ?_)
        refine Reg.nil ⟨fun h => (by cases h), ?_⟩
        refine LGo.seq ?_
        refine LGo.region rfl ?_  -- region 12
        refine R.move (h := ?_)
        refine R.bin (run_eql _ _ _ _ _ _) (h := ?_)
        refine R.move (h := ?_)
        refine R.move (h := ?_)
        first | refine R.len S22 (h := ?_) | refine R.lenRs S22 (h := ?_) | refine R.lenV (run_lenNil S22) (h := ?_)
        rw [bytesC_length]
        refine R.move (h := ?_)
        refine R.bin (run_geq _ _ _ _ _ _) (h := ?_)
        refine R.move (h := ?_)
        refine R.move (h := ?_)
        first | refine R.len S24 (h := ?_) | refine R.lenRs S24 (h := ?_) | refine R.lenV (run_lenNil S24) (h := ?_)
        rw [rowsC_length]
        refine R.bin (run_eql _ _ _ _ _ _) (h := ?_)
        refine R.or (h := ?_)
        refine R.and (h := ?_)
        refine R.move (h := ?_)
        refine R.callP (es := []) (fun _ => shown_P) (h := ?_)
        refine R.and (h := ?_)
        refine R.assign (h := ?_)
        refine Reg.nil ⟨fun h => (by cases h), ?_⟩
        refine LGo.tru 6 (hb := ?_) (h := ?_)
        · rw [n3, hpl]
          rw [hpl] at n4
          by_cases hh : (m : Int) < (need (split b).2).1
          · simp [n4 hh]
          · simp [show (need (split b).2).1 ≤ (m : Int) by omega]
        exact LGo.ret (ret_T Try.results4 hA hmd)

end Go.Proofs.Ytbbkgfkghpflnaa
