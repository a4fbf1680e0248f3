/- TimesSpans. -/
import Derived.Test.YtcekeipkofblmaaDoorPS
import Derived.Test.YtcekeipkofblmaaDoorX1
set_option linter.unusedSimpArgs false
set_option linter.unusedVariables false
namespace Go.Proofs.YtcekeipkofblmaaDoor

theorem unionT_len (l : List Sp) : (unionT l).1.length ≤ l.length := by
  have := unionS_len l
  unfold unionT; split
  · simp
  · exact this
theorem minusT_len (a b : List Sp) : (minusT a b).1.length ≤ a.length + b.length := by
  rcases minusT_cases a b with ⟨_, ⟨h1, h2⟩, h3, h4⟩ | ⟨_, h, _⟩
  · rw [minusT_ok h1 h2 h3 h4]; exact (minus_can h2 h4).2.2
  · rw [h]; simp
theorem spsC_first {l : List Sp} (h : 0 < l.length) : (spsC l)[Int.toNat 0]? = some (spC (l.getD 0 (0, 0))) := by
  show (spsC l)[0]? = _
  simp [spsC, h]

theorem spans_P (a b : List Sp) : PC Tryd.prog 9 [.sv (.sl 2 (spsC a)), .sv (.sl 2 (spsC b))] (.b true) := by
  refine ⟨LC.of_go Tryd.func9 (c := _) rfl (by kernel_rfl) (by rw [Tryd.ntmps9]; simp) rfl rfl (by simp [LO.lt, LV.lts, LV.lt]) (by simp) ?_⟩
  intro B hA hmd
  refine LGo.seq ?_
  refine LGo.region rfl ?_  -- region 0
  refine R.assign (h := ?_)
  refine Reg.nil ⟨fun h => (by cases h), ?_⟩
  refine LGo.seq ?_
  refine LGo.seq ?_
  refine LGo.region rfl ?_  -- region 1
  refine R.move (h := ?_)
  refine R.callP (es := [_]) (fun _ => far_P a) (h := ?_)
  refine R.move (h := ?_)
  refine R.move (h := ?_)
  refine R.callP (es := [_]) (fun _ => far_P b) (h := ?_)
  refine R.or (h := ?_)
  refine Reg.nil ⟨fun h => (by cases h), ?_⟩
  refine LGo.ifb (ht := fun hc => ?_) (hf := fun hc => ?_)
  · -- then 1
    refine LGo.seq ?_
    refine LGo.region rfl ?_  -- region 2
    refine R.callP (es := []) (fun _ => awake_P) (h := ?_)
    refine R.assign (h := ?_)
    refine Reg.nil ⟨fun h => (by cases h), ?_⟩
    exact LGo.ret (ret_T Tryd.results9 hA hmd)
  · -- else 1
    obtain ⟨hfa, hfb⟩ : farS a = false ∧ farS b = false := by simpa using hc
    have hla := farS_f hfa
    have hlb := farS_f hfb
    have hul := unionT_len a
    have hml := minusT_len a b
    clear hc hfa hfb
    refine LGo.skip ?_
    refine LGo.seq ?_
    refine LGo.seq ?_
    refine LGo.region rfl ?_  -- region 3
    refine R.move (h := ?_)
    first | refine R.len S36 (h := ?_) | refine R.lenRs S36 (h := ?_) | refine R.lenV (run_lenNil S36) (h := ?_)
    rw [spsC_length]
    refine R.bin (run_gtr _ _ _ _ _ _) (h := ?_)
    refine R.move (h := ?_)
    refine R.move (h := ?_)
    first | refine R.len S36 (h := ?_) | refine R.lenRs S36 (h := ?_) | refine R.lenV (run_lenNil S36) (h := ?_)
    rw [spsC_length]
    refine R.bin (run_gtr _ _ _ _ _ _) (h := ?_)
    refine R.and (h := ?_)
    refine Reg.nil ⟨fun h => (by cases h), ?_⟩
    refine LGo.ifb (ht := fun hc2 => ?_) (hf := fun hc2 => ?_)
    · -- then 2
      have hxa := spsC_first (l := a) (by simp at hc2; omega)
      have hxb := spsC_first (l := b) (by simp at hc2; omega)
      generalize a.getD 0 (0, 0) = xa at hxa
      generalize b.getD 0 (0, 0) = xb at hxb
      refine LGo.seq ?_
      refine LGo.region rfl ?_  -- region 4 DRAWS
      refine R.move (h := ?_)
      refine R.index I36 (hj := fun _ => ⟨by decide, hxa⟩) (h := ?_)
      first | refine R.loadA A43 (h := ?_) | refine R.loadN A43 (h := ?_)
      refine R.move (h := ?_)
      refine R.index I36 (hj := fun _ => ⟨by decide, hxb⟩) (h := ?_)
      first | refine R.loadA A43 (h := ?_) | refine R.loadN A43 (h := ?_)
      refine R.callP (es := [_, _]) (fun _ => meet_P xa xb) (h := ?_)
      rw [spV_c (meetS xa xb).1]
      refine R.move (h := ?_)
      refine R.extract (h := ?_)
      refine R.extract (h := ?_)
      refine R.extract (h := ?_)
      refine R.alloc Z43 (h := ?_)
      refine R.storeA A43 (h := ?_)
      refine R.assign (h := ?_)
      refine R.assign (h := ?_)
      refine Reg.nil ⟨fun _ => ⟨mixedO, by rfl, by rfl⟩, ?_⟩
      refine LGo.seq ?_
      refine LGo.region rfl ?_  -- region 5 DRAWS
      refine R.move (h := ?_)
      refine R.index I36 (hj := fun _ => ⟨by decide, hxa⟩) (h := ?_)
      first | refine R.loadA A43 (h := ?_) | refine R.loadN A43 (h := ?_)
      refine R.move (h := ?_)
      refine R.index I36 (hj := fun _ => ⟨by decide, hxb⟩) (h := ?_)
      first | refine R.loadA A43 (h := ?_) | refine R.loadN A43 (h := ?_)
      refine R.callP (es := [_, _]) (fun _ => rmeet_P xa xb) (h := ?_)
      rw [spV_c (meetS xa xb).1]
      refine R.move (h := ?_)
      refine R.extract (h := ?_)
      refine R.extract (h := ?_)
      refine R.extract (h := ?_)
      refine R.alloc Z43 (h := ?_)
      refine R.storeA A43 (h := ?_)
      refine R.assign (h := ?_)
      refine R.assign (h := ?_)
      refine Reg.nil ⟨fun _ => ⟨mixedO, by rfl, by rfl⟩, ?_⟩
      refine LGo.seq ?_
      refine LGo.region rfl ?_  -- region 6 DRAWS
      first | refine R.loadA A43 (h := ?_) | refine R.loadN A43 (h := ?_)
      first | refine R.loadA A43 (h := ?_) | refine R.loadN A43 (h := ?_)
      refine R.binA (NE43 _ _ _ _ _ _) (h := ?_)
      refine R.move (h := ?_)
      refine R.move (h := ?_)
      refine R.move (h := ?_)
      refine R.bin (run_neqB Tryd.underlying4 _ _ _ _) (h := ?_)
      refine R.or (h := ?_)
      refine R.move (h := ?_)
      refine R.move (h := ?_)
      refine R.move (h := ?_)
      refine R.bin (run_neq _ _ _ _ _ _) (h := ?_)
      refine R.or (h := ?_)
      refine R.move (h := ?_)
      refine R.move (h := ?_)
      refine R.index I36 (hj := fun _ => ⟨by decide, hxa⟩) (h := ?_)
      first | refine R.loadA A43 (h := ?_) | refine R.loadN A43 (h := ?_)
      refine R.callP (es := [_]) (fun _ => check_P xa) (h := ?_)
      refine R.move (h := ?_)
      refine R.index I36 (hj := fun _ => ⟨by decide, hxa⟩) (h := ?_)
      first | refine R.loadA A43 (h := ?_) | refine R.loadN A43 (h := ?_)
      refine R.callP (es := [_]) (fun _ => rcheck_P xa) (h := ?_)
      refine R.bin (run_neq _ _ _ _ _ _) (h := ?_)
      refine R.or (h := ?_)
      refine Reg.nil ⟨fun _ => ⟨mixedO, by rfl, by rfl⟩, ?_⟩
      refine LGo.ifb (ht := fun hc3 => by simp at hc3) (hf := fun hc3 => ?_)
      refine LGo.skip ?_
      refine LGo.seq ?_
      refine LGo.region rfl ?_  -- region 8
      refine R.move (h := ?_)
      refine R.callP (es := [_]) (fun _ => Union_P a (by omega)) (h := ?_)
      refine R.move (h := ?_)
      refine R.extract (h := ?_)
      refine R.extract (h := ?_)
      refine R.assign (h := ?_)
      refine R.assign (h := ?_)
      refine Reg.nil ⟨fun h => (by cases h), ?_⟩
      refine LGo.seq ?_
      refine LGo.region rfl ?_  -- region 9
      refine R.move (h := ?_)
      refine R.callP (es := [_]) (fun _ => runion_P a (by omega)) (h := ?_)
      rw [rmin_eq, minus_nil]
      refine R.move (h := ?_)
      refine R.extract (h := ?_)
      refine R.extract (h := ?_)
      refine R.assign (h := ?_)
      refine R.assign (h := ?_)
      refine Reg.nil ⟨fun h => (by cases h), ?_⟩
      refine LGo.seq ?_
      refine LGo.region rfl ?_  -- region 10
      refine R.move (h := ?_)
      refine R.move (h := ?_)
      refine R.callP (es := [_, _]) (fun _ => Minus_P a b (by omega) (by omega)) (h := ?_)
      refine R.move (h := ?_)
      refine R.extract (h := ?_)
      refine R.extract (h := ?_)
      refine R.assign (h := ?_)
      refine R.assign (h := ?_)
      refine Reg.nil ⟨fun h => (by cases h), ?_⟩
      refine LGo.seq ?_
      refine LGo.region rfl ?_  -- region 11
      refine R.move (h := ?_)
      refine R.move (h := ?_)
      refine R.callP (es := [_, _]) (fun _ => rminus_P a b (by omega) (by omega)) (h := ?_)
      rw [rmin_eq]
      refine R.move (h := ?_)
      refine R.extract (h := ?_)
      refine R.extract (h := ?_)
      refine R.assign (h := ?_)
      refine R.assign (h := ?_)
      refine Reg.nil ⟨fun h => (by cases h), ?_⟩
      refine LGo.seq ?_
      refine LGo.region rfl ?_  -- region 12
      refine R.move (h := ?_)
      refine R.callP (es := [_]) (fun _ => Total_P a (by omega)) (h := ?_)
      refine R.move (h := ?_)
      refine R.extract (h := ?_)
      refine R.extract (h := ?_)
      refine R.assign (h := ?_)
      refine R.assign (h := ?_)
      refine Reg.nil ⟨fun h => (by cases h), ?_⟩
      refine LGo.seq ?_
      refine LGo.region rfl ?_  -- region 13
      refine R.move (h := ?_)
      refine R.callP (es := [_]) (fun _ => rtotal_P a (by omega)) (h := ?_)
      rw [rtot_eq]
      refine R.move (h := ?_)
      refine R.extract (h := ?_)
      refine R.extract (h := ?_)
      refine R.assign (h := ?_)
      refine R.assign (h := ?_)
      refine Reg.nil ⟨fun h => (by cases h), ?_⟩
      refine LGo.seq ?_
      refine LGo.region rfl ?_  -- region 14
      refine R.move (h := ?_)
      refine R.move (h := ?_)
      refine R.callP (es := [_, _]) (fun _ => same_self_P (unionT a).1 (by omega)) (h := ?_)
      refine R.move (h := ?_)
      refine R.move (h := ?_)
      refine R.move (h := ?_)
      refine R.bin (run_eql _ _ _ _ _ _) (h := ?_)
      refine R.and (h := ?_)
      refine R.move (h := ?_)
      refine R.move (h := ?_)
      refine R.move (h := ?_)
      refine R.callP (es := [_, _]) (fun _ => same_self_P (minusT a b).1 (by omega)) (h := ?_)
      refine R.and (h := ?_)
      refine R.move (h := ?_)
      refine R.move (h := ?_)
      refine R.move (h := ?_)
      refine R.bin (run_eql _ _ _ _ _ _) (h := ?_)
      refine R.and (h := ?_)
      refine R.move (h := ?_)
      refine R.move (h := ?_)
      refine R.move (h := ?_)
      refine R.bin (run_eql _ _ _ _ _ _) (h := ?_)
      refine R.and (h := ?_)
      refine R.move (h := ?_)
      refine R.move (h := ?_)
      refine R.move (h := ?_)
      refine R.bin (run_eql _ _ _ _ _ _) (h := ?_)
      refine R.and (h := ?_)
      refine R.move (h := ?_)
      refine R.callP (es := []) (fun _ => awake_P) (h := ?_)
      refine R.and (h := ?_)
      refine R.assign (h := ?_)
      refine Reg.nil ⟨fun h => (by cases h), ?_⟩
      refine LGo.eqB 4 true (hb := by simp) (h := ?_)
      exact LGo.ret (ret_T Tryd.results9 hA hmd)
    · -- else 2
      refine LGo.skip ?_
      refine LGo.seq ?_
      refine LGo.region rfl ?_  -- region 8
      refine R.move (h := ?_)
      refine R.callP (es := [_]) (fun _ => Union_P a (by omega)) (h := ?_)
      refine R.move (h := ?_)
      refine R.extract (h := ?_)
      refine R.extract (h := ?_)
      refine R.assign (h := ?_)
      refine R.assign (h := ?_)
      refine Reg.nil ⟨fun h => (by cases h), ?_⟩
      refine LGo.seq ?_
      refine LGo.region rfl ?_  -- region 9
      refine R.move (h := ?_)
      refine R.callP (es := [_]) (fun _ => runion_P a (by omega)) (h := ?_)
      rw [rmin_eq, minus_nil]
      refine R.move (h := ?_)
      refine R.extract (h := ?_)
      refine R.extract (h := ?_)
      refine R.assign (h := ?_)
      refine R.assign (h := ?_)
      refine Reg.nil ⟨fun h => (by cases h), ?_⟩
      refine LGo.seq ?_
      refine LGo.region rfl ?_  -- region 10
      refine R.move (h := ?_)
      refine R.move (h := ?_)
      refine R.callP (es := [_, _]) (fun _ => Minus_P a b (by omega) (by omega)) (h := ?_)
      refine R.move (h := ?_)
      refine R.extract (h := ?_)
      refine R.extract (h := ?_)
      refine R.assign (h := ?_)
      refine R.assign (h := ?_)
      refine Reg.nil ⟨fun h => (by cases h), ?_⟩
      refine LGo.seq ?_
      refine LGo.region rfl ?_  -- region 11
      refine R.move (h := ?_)
      refine R.move (h := ?_)
      refine R.callP (es := [_, _]) (fun _ => rminus_P a b (by omega) (by omega)) (h := ?_)
      rw [rmin_eq]
      refine R.move (h := ?_)
      refine R.extract (h := ?_)
      refine R.extract (h := ?_)
      refine R.assign (h := ?_)
      refine R.assign (h := ?_)
      refine Reg.nil ⟨fun h => (by cases h), ?_⟩
      refine LGo.seq ?_
      refine LGo.region rfl ?_  -- region 12
      refine R.move (h := ?_)
      refine R.callP (es := [_]) (fun _ => Total_P a (by omega)) (h := ?_)
      refine R.move (h := ?_)
      refine R.extract (h := ?_)
      refine R.extract (h := ?_)
      refine R.assign (h := ?_)
      refine R.assign (h := ?_)
      refine Reg.nil ⟨fun h => (by cases h), ?_⟩
      refine LGo.seq ?_
      refine LGo.region rfl ?_  -- region 13
      refine R.move (h := ?_)
      refine R.callP (es := [_]) (fun _ => rtotal_P a (by omega)) (h := ?_)
      rw [rtot_eq]
      refine R.move (h := ?_)
      refine R.extract (h := ?_)
      refine R.extract (h := ?_)
      refine R.assign (h := ?_)
      refine R.assign (h := ?_)
      refine Reg.nil ⟨fun h => (by cases h), ?_⟩
      refine LGo.seq ?_
      refine LGo.region rfl ?_  -- region 14
      refine R.move (h := ?_)
      refine R.move (h := ?_)
      refine R.callP (es := [_, _]) (fun _ => same_self_P (unionT a).1 (by omega)) (h := ?_)
      refine R.move (h := ?_)
      refine R.move (h := ?_)
      refine R.move (h := ?_)
      refine R.bin (run_eql _ _ _ _ _ _) (h := ?_)
      refine R.and (h := ?_)
      refine R.move (h := ?_)
      refine R.move (h := ?_)
      refine R.move (h := ?_)
      refine R.callP (es := [_, _]) (fun _ => same_self_P (minusT a b).1 (by omega)) (h := ?_)
      refine R.and (h := ?_)
      refine R.move (h := ?_)
      refine R.move (h := ?_)
      refine R.move (h := ?_)
      refine R.bin (run_eql _ _ _ _ _ _) (h := ?_)
      refine R.and (h := ?_)
      refine R.move (h := ?_)
      refine R.move (h := ?_)
      refine R.move (h := ?_)
      refine R.bin (run_eql _ _ _ _ _ _) (h := ?_)
      refine R.and (h := ?_)
      refine R.move (h := ?_)
      refine R.move (h := ?_)
      refine R.move (h := ?_)
      refine R.bin (run_eql _ _ _ _ _ _) (h := ?_)
      refine R.and (h := ?_)
      refine R.move (h := ?_)
      refine R.callP (es := []) (fun _ => awake_P) (h := ?_)
      refine R.and (h := ?_)
      refine R.assign (h := ?_)
      refine Reg.nil ⟨fun h => (by cases h), ?_⟩
      refine LGo.eqB 4 true (hb := by simp) (h := ?_)
      exact LGo.ret (ret_T Tryd.results9 hA hmd)

end Go.Proofs.YtcekeipkofblmaaDoor
