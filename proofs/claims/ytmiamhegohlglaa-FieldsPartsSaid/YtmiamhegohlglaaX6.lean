/- FieldsParts answers true. -/
import Derived.Test.YtmiamhegohlglaaV
import Derived.Test.YtmiamhegohlglaaC31
import Derived.Test.YtmiamhegohlglaaPL3
set_option linter.unusedSimpArgs false
set_option linter.unusedVariables false
namespace Go.Proofs.Ytmiamhegohlglaa

theorem take_pre {α : Type} {l a b : List α} (h : l = a ++ b) : a.length ≤ l.length ∧ l.take a.length = a := by
  subst h
  exact ⟨by simp, List.take_left⟩
theorem same_PT (a : List Fld) (h : a.length ≤ 16) : PC Try.prog 15 [.sv (.sl 3 (a.map Fld.c)), .sv (.sl 3 (a.map Fld.c))] (.b true) := by
  have := same_P a a (by omega) (by omega)
  rwa [same_self] at this

theorem fparts_P (rs : List Rule) (l : List Fld) (n : Int) (hw : ∀ x ∈ l, 0 ≤ x.num ∧ x.num < 18446744073709551616) (hn0 : 0 ≤ n) (hn1 : n < 65536) : PC Try.prog 6 [.sv (.sl 5 (rs.map Rule.c)), .sv (.sl 3 (l.map Fld.c)), .v (.int .u16 n)] (.b true) := by
  refine ⟨LC.of_go Try.func6 (c := _) rfl (by kernel_rfl) (by rw [Try.ntmps6]; simp) rfl rfl (by simp [LO.lt, LV.lts, LV.lt]) (by simp) ?_⟩
  intro B hA hmd
  refine LGo.seq ?_
  refine LGo.region rfl ?_  -- region 0
  refine R.assign (h := ?_)
  refine Reg.nil ⟨fun h => (by cases h), ?_⟩
  refine LGo.seq ?_
  refine LGo.seq ?_
  refine LGo.region rfl ?_  -- region 1
  refine R.move (h := ?_)
  refine R.move (h := ?_)
  refine R.callP (es := [_, _]) (fun _ => (far_P rs l)) (h := ?_)
  refine Reg.nil ⟨fun h => (by cases h), ?_⟩
  first | refine LGo.ifd (ht := fun hc => ?_) (hf := fun hc => ?_) | refine LGo.ifb (ht := fun hc => ?_) (hf := fun hc => ?_)
  · -- then 1
    refine LGo.seq ?_
    refine LGo.region rfl ?_  -- region 2
    refine R.callP (es := []) (fun _ => shown_P) (h := ?_)
    refine R.assign (h := ?_)
    refine Reg.nil ⟨fun h => (by cases h), ?_⟩
    exact LGo.ret (ret_T Try.results6 hA hmd)
  · -- else 1
    obtain ⟨hr, hl, hok, hbl⟩ := far_fldsB hw hc
    refine LGo.skip ?_
    refine LGo.seq ?_
    refine LGo.region rfl ?_  -- region 3
    refine R.move (h := ?_)
    refine R.move (h := ?_)
    refine R.callP (es := [_, _]) (fun _ => encode_PB rs l (by omega) (by omega) hok) (h := ?_)
    refine R.move (h := ?_)
    refine R.extract (h := ?_)
    refine R.extract (h := ?_)
    refine R.assign (h := ?_)
    refine R.assign (h := ?_)
    refine Reg.nil ⟨fun h => (by cases h), ?_⟩
    refine LGo.seq ?_
    refine LGo.seq ?_
    refine LGo.region rfl ?_  -- region 4
    refine R.move (h := ?_)
    refine R.bin (run_neq _ _ _ _ _ _) (h := ?_)
    refine Reg.nil ⟨fun h => (by cases h), ?_⟩
    first | refine LGo.ifd (ht := fun hc2 => ?_) (hf := fun hc2 => ?_) | refine LGo.ifb (ht := fun hc2 => ?_) (hf := fun hc2 => ?_)
    · -- then 2
      refine LGo.seq ?_
      refine LGo.region rfl ?_  -- region 5
      refine R.callP (es := []) (fun _ => shown_P) (h := ?_)
      refine R.assign (h := ?_)
      refine Reg.nil ⟨fun h => (by cases h), ?_⟩
      exact LGo.ret (ret_T Try.results6 hA hmd)
    · -- else 2
      have he : (encode rs l).2 = 0 := by simpa using hc2
      refine LGo.skip ?_
      refine LGo.seq ?_
      refine LGo.region rfl ?_  -- region 6
      refine R.move (h := ?_)
      refine R.move (h := ?_)
      first | refine R.convI Try.runUnderlying40 Try.runUnderlying3 (h := ?_) | refine R.convW Try.runUnderlying40 Try.runUnderlying3 (h := ?_)
      refine R.move (h := ?_)
      first | refine R.len S23 (h := ?_) | refine R.lenRs S23 (h := ?_) | refine R.lenV (run_lenNil S23) (h := ?_)
      rw [bytesC_length]
      first | refine R.add (h := ?_) | refine R.addW (h := ?_)
      refine R.rem (h := ?_)
      have hm0 : 0 ≤ n % (((encBy rs l).length : Int) + 1) := Int.emod_nonneg _ (by omega)
      have hm1 : n % (((encBy rs l).length : Int) + 1) < ((encBy rs l).length : Int) + 1 := Int.emod_lt_of_pos _ (by omega)
      generalize n % (((encBy rs l).length : Int) + 1) = m at hm0 hm1 ⊢
      refine R.sliceHi SF23 (ha := fun _ => ⟨by omega, by rw [bytesC_length]; omega⟩) (h := ?_)
      rw [bytesC_take]
      have hdl := decode_len rs ((encBy rs l).take m.toNat)
      have hpl := parts_law hok he m.toNat
      refine R.assign (h := ?_)
      refine Reg.nil ⟨fun h => (by cases h), ?_⟩
      refine LGo.seq ?_
      refine LGo.region rfl ?_  -- region 7
      refine R.move (h := ?_)
      refine R.move (h := ?_)
      refine R.callP (es := [_, _]) (fun _ => decode_P rs ((encBy rs l).take m.toNat) (by omega) (by rw [List.length_take]; omega)) (h := ?_)
      refine R.move (h := ?_)
      refine R.extract (h := ?_)
      refine R.extract (h := ?_)
      refine R.extract (h := ?_)
      refine R.assign (h := ?_)
      refine R.assign (h := ?_)
      refine R.assign (h := ?_)
      refine Reg.nil ⟨fun h => (by cases h), ?_⟩
      refine LGo.seq ?_
      refine LGo.seq ?_
      refine LGo.region rfl ?_  -- region 8
      refine R.move (h := ?_)
      refine R.bin (run_neq _ _ _ _ _ _) (h := ?_)
      refine Reg.nil ⟨fun h => (by cases h), ?_⟩
      first | refine LGo.ifd (ht := fun hc3 => ?_) (hf := fun hc3 => ?_) | refine LGo.ifb (ht := fun hc3 => ?_) (hf := fun hc3 => ?_)
      · -- then 3
        have hp : (decode rs ((encBy rs l).take m.toNat)).2.2 = 11 ∧ 0 ≤ (decode rs ((encBy rs l).take m.toNat)).2.1 ∧ (decode rs ((encBy rs l).take m.toNat)).2.1 ≤ ((encBy rs l).take m.toNat).length := by
          rcases hpl with ⟨h0, _⟩ | h
          · rw [h0] at hc3; simp at hc3
          · exact h
        refine LGo.seq ?_
        refine LGo.region rfl ?_  -- region 9
        refine R.move (h := ?_)
        refine R.bin (run_eql _ _ _ _ _ _) (h := ?_)
        refine R.move (h := ?_)
        refine R.move (h := ?_)
        refine R.bin (run_geq _ _ _ _ _ _) (h := ?_)
        refine R.and (h := ?_)
        refine R.move (h := ?_)
        refine R.move (h := ?_)
        refine R.move (h := ?_)
        first | refine R.len S23 (h := ?_) | refine R.lenRs S23 (h := ?_) | refine R.lenV (run_lenNil S23) (h := ?_)
        rw [bytesC_length]
        refine R.bin (run_leq _ _ _ _ _ _) (h := ?_)
        refine R.and (h := ?_)
        refine R.move (h := ?_)
        refine R.callP (es := []) (fun _ => shown_P) (h := ?_)
        refine R.and (h := ?_)
        refine R.assign (h := ?_)
        refine Reg.nil ⟨fun h => (by cases h), ?_⟩
        refine LGo.tru 6 (hb := by simp [hp.1, hp.2.1]; simpa using hp.2.2) (h := ?_)
        exact LGo.ret (ret_T Try.results6 hA hmd)
      · -- else 3
        have hp : ∃ fs', l = (decode rs ((encBy rs l).take m.toNat)).1 ++ fs' := by
          rcases hpl with ⟨_, h⟩ | ⟨h, _⟩
          · exact h
          · rw [h] at hc3; simp at hc3
        obtain ⟨fs', hfs⟩ := hp
        obtain ⟨p1, p2⟩ := take_pre hfs
        refine LGo.skip ?_
        refine LGo.seq ?_
        refine LGo.region rfl ?_  -- region 10
        refine R.move (h := ?_)
        first | refine R.len S26 (h := ?_) | refine R.lenRs S26 (h := ?_) | refine R.lenV (run_lenNil S26) (h := ?_)
        rw [List.length_map]
        refine R.move (h := ?_)
        first | refine R.len S26 (h := ?_) | refine R.lenRs S26 (h := ?_) | refine R.lenV (run_lenNil S26) (h := ?_)
        rw [List.length_map]
        refine R.bin (run_leq _ _ _ _ _ _) (h := ?_)
        rw [decide_eq_true (show ((decode rs ((encBy rs l).take m.toNat)).1.length : Int) ≤ l.length from by omega)]
        refine R.move (h := ?_)
        refine R.move (h := ?_)
        refine R.move (h := ?_)
        refine R.move (h := ?_)
        first | refine R.len S26 (h := ?_) | refine R.lenRs S26 (h := ?_) | refine R.lenV (run_lenNil S26) (h := ?_)
        rw [List.length_map]
        refine R.sliceHi SF26 (ha := fun _ => ⟨by omega, by rw [List.length_map]; omega⟩) (h := ?_)
        rw [Int.toNat_natCast, ← List.map_take, p2]
        refine R.callP (es := [_, _]) (fun _ => same_PT _ hdl) (h := ?_)
        refine R.and (h := ?_)
        refine R.move (h := ?_)
        refine R.callP (es := []) (fun _ => shown_P) (h := ?_)
        refine R.and (h := ?_)
        refine R.assign (h := ?_)
        refine Reg.nil ⟨fun h => (by cases h), ?_⟩
        refine LGo.tru 6 (hb := by simp) (h := ?_)
        exact LGo.ret (ret_T Try.results6 hA hmd)

end Go.Proofs.Ytmiamhegohlglaa
