/- TimesSets. -/
import Derived.Test.YtcekeipkofblmaaDoorPL
import Derived.Test.YtcekeipkofblmaaDoorX1
set_option linter.unusedSimpArgs false
set_option linter.unusedVariables false
namespace Go.Proofs.YtcekeipkofblmaaDoor

theorem can_at {u : List Sp} (h : Can u) {k : Nat} (hk : k < u.length) : chkS u[k] = 0 ∧ (0 < k → (u.getD (k - 1) (0, 0)).2 < u[k].1) := by
  refine ⟨(chkS_ok _).2 (h.1 _ (List.getElem_mem hk)), fun h0 => ?_⟩
  have h1 : k - 1 < u.length := by omega
  rw [show u.getD (k - 1) (0, 0) = u[k - 1] from by simp [h1]]
  exact List.pairwise_iff_getElem.1 h.2 (k - 1) k h1 hk (by omega)
theorem spsC_at {u : List Sp} {k : Nat} (h : k < u.length) : (spsC u)[((k : Nat) : Int).toNat]? = some (spC u[k]) := by simp [spsC, h]
theorem spsC_prev {u : List Sp} {k : Nat} (h0 : 0 < k) (h : k < u.length) : (spsC u)[((k : Nat) - 1 : Int).toNat]? = some (spC (u.getD (k - 1) (0, 0))) := by
  rw [show ((k : Nat) - 1 : Int).toNat = k - 1 from by omega]
  have h1 : k - 1 < u.length := by omega
  simp [spsC, h1]

theorem sets_P (a b : List Sp) (t : Int) : PC Tryd.prog 7 [.sv (.sl 2 (spsC a)), .sv (.sl 2 (spsC b)), .i t] (.b true) := by
  refine ⟨LC.of_go Tryd.func7 (c := _) rfl (by kernel_rfl) (by rw [Tryd.ntmps7]; simp) rfl rfl (by simp [LO.lt, LV.lts, LV.lt]) (by simp) ?_⟩
  intro B hA hmd
  refine LGo.seq ?_
  refine LGo.region rfl ?_  -- region 0
  refine R.assign (h := ?_)
  refine Reg.nil ⟨fun h => (by cases h), ?_⟩
  refine LGo.seq ?_
  refine LGo.seq ?_
  refine LGo.region rfl ?_  -- region 1
  refine R.move (h := ?_)
  refine R.callP (es := [_]) (fun _ => far_P a) (h := ?_)
  refine R.move (h := ?_)
  refine R.move (h := ?_)
  refine R.callP (es := [_]) (fun _ => far_P b) (h := ?_)
  refine R.or (h := ?_)
  refine Reg.nil ⟨fun h => (by cases h), ?_⟩
  refine LGo.ifb (ht := fun hc => ?_) (hf := fun hc => ?_)
  · -- then 1
    refine LGo.seq ?_
    refine LGo.region rfl ?_  -- region 2
    refine R.callP (es := []) (fun _ => awake_P) (h := ?_)
    refine R.assign (h := ?_)
    refine Reg.nil ⟨fun h => (by cases h), ?_⟩
    exact LGo.ret (ret_T Tryd.results7 hA hmd)
  · -- else 1
    obtain ⟨hfa, hfb⟩ : farS a = false ∧ farS b = false := by simpa using hc
    have hla := farS_f hfa
    have hlb := farS_f hfb
    have hcu := unionT_cases a
    have hcm := minusT_cases a b
    refine LGo.skip ?_
    refine LGo.seq ?_
    refine LGo.region rfl ?_  -- region 3
    refine R.move (h := ?_)
    refine R.callP (es := [_]) (fun _ => Union_P a (by omega)) (h := ?_)
    refine R.move (h := ?_)
    refine R.extract (h := ?_)
    refine R.extract (h := ?_)
    refine R.assign (h := ?_)
    refine R.assign (h := ?_)
    refine Reg.nil ⟨fun h => (by cases h), ?_⟩
    refine LGo.seq ?_
    refine LGo.region rfl ?_  -- region 4
    refine R.move (h := ?_)
    refine R.move (h := ?_)
    refine R.callP (es := [_, _]) (fun _ => Minus_P a b (by omega) (by omega)) (h := ?_)
    refine R.move (h := ?_)
    refine R.extract (h := ?_)
    refine R.extract (h := ?_)
    refine R.assign (h := ?_)
    refine R.assign (h := ?_)
    refine Reg.nil ⟨fun h => (by cases h), ?_⟩
    refine LGo.seq ?_
    refine LGo.seq ?_
    refine LGo.region rfl ?_  -- region 5
    refine R.move (h := ?_)
    refine R.bin (run_neq _ _ _ _ _ _) (h := ?_)
    refine R.move (h := ?_)
    refine R.move (h := ?_)
    refine R.bin (run_neq _ _ _ _ _ _) (h := ?_)
    refine R.or (h := ?_)
    refine Reg.nil ⟨fun h => (by cases h), ?_⟩
    refine LGo.ifb (ht := fun hc2 => ?_) (hf := fun hc2 => ?_)
    · -- then 2
      obtain ⟨hm2, hm1⟩ : (minusT a b).2 ≠ 0 ∧ (minusT a b).1 = [] := by
        rcases hcm with ⟨h1, h2, h3⟩ | ⟨h1, h2, _⟩
        · rcases hcu with ⟨h4, _⟩ | ⟨_, _, h5⟩
          · simp [h4, h1] at hc2
          · exact absurd h2 h5
        · exact ⟨h1, h2⟩
      have hu1 : (unionT a).2 = 0 ∨ (unionT a).1 = [] := by
        rcases hcu with ⟨h1, _⟩ | ⟨_, h1, _⟩
        · exact .inl h1
        · exact .inr h1
      refine LGo.seq ?_
      refine LGo.region rfl ?_  -- region 6
      refine R.move (h := ?_)
      refine R.bin (run_eql _ _ _ _ _ _) (h := ?_)
      refine R.move (h := ?_)
      refine R.move (h := ?_)
      first | refine R.len S36 (h := ?_) | refine R.lenRs S36 (h := ?_) | refine R.lenV (run_lenNil S36) (h := ?_)
      rw [spsC_length]
      refine R.bin (run_eql _ _ _ _ _ _) (h := ?_)
      refine R.or (h := ?_)
      refine R.move (h := ?_)
      refine R.move (h := ?_)
      first | refine R.len S36 (h := ?_) | refine R.lenRs S36 (h := ?_) | refine R.lenV (run_lenNil S36) (h := ?_)
      rw [spsC_length]
      refine R.bin (run_eql _ _ _ _ _ _) (h := ?_)
      refine R.and (h := ?_)
      refine R.move (h := ?_)
      refine R.callP (es := []) (fun _ => awake_P) (h := ?_)
      refine R.and (h := ?_)
      refine R.assign (h := ?_)
      refine Reg.nil ⟨fun h => (by cases h), ?_⟩
      refine LGo.eqB 6 true (hb := by rcases hu1 with h | h <;> simp [h, hm1]) (h := ?_)
      exact LGo.ret (ret_T Tryd.results7 hA hmd)
    · -- else 2
      obtain ⟨⟨ha, hav⟩, hb, hbv⟩ : (a.length ≤ 200 ∧ ∀ s ∈ a, Val s) ∧ (b.length ≤ 200 ∧ ∀ s ∈ b, Val s) := by
        rcases hcm with ⟨_, h2⟩ | ⟨h1, _⟩
        · exact h2
        · simp [h1] at hc2
      rw [unionT_ok ha hav, minusT_ok ha hav hb hbv]
      dsimp only
      obtain ⟨uc, um⟩ := union_can hav
      obtain ⟨mc, mm, ml⟩ := minus_can hav hbv
      have ul := unionS_len a
      generalize unionS a = u at uc um ul ⊢
      generalize minusS a b = m at mc mm ml ⊢
      refine LGo.skip ?_
      refine LGo.seq ?_
      refine LGo.seq ?_
      refine LGo.region rfl ?_  -- region 7
      refine R.assign (h := ?_)
      refine Reg.nil ⟨fun h => (by cases h), ?_⟩
      refine LGo.block ?_
      refine LGo.loop ?_
      refine LGo.loopG (σ := Nat) (fun x => x ≤ u.length) (fun x => [(11, (true, .i (x : Nat)))]) (fun x => []) (fun x => u.length - x) (0) [(0, _), (1, _), (2, _), (7, _), (9, _)] (by simp) (by repeat (first | exact trivial | refine ⟨rfl, ?_⟩)) (by repeat (first | exact trivial | refine ⟨rfl, ?_⟩)) (by repeat (first | exact trivial | refine ⟨rfl, ?_⟩)) ?_
      rintro k hk ih
      refine LGo.seq ?_
      refine LGo.seq ?_
      refine LGo.region rfl ?_  -- region 8
      refine R.move (h := ?_)
      refine R.move (h := ?_)
      first | refine R.len S36 (h := ?_) | refine R.lenRs S36 (h := ?_) | refine R.lenV (run_lenNil S36) (h := ?_)
      rw [spsC_length]
      refine R.bin (run_lss _ _ _ _ _ _) (h := ?_)
      refine Reg.nil ⟨fun h => (by cases h), ?_⟩
      refine LGo.ifd (ht := fun hc3 => ?_) (hf := fun hc3 => ?_)
      · -- then 3
        have hlt : k < u.length := by omega
        have hx := spsC_at hlt
        obtain ⟨hx0, hxp⟩ := can_at uc hlt
        have hpv : 0 < k → (spsC u)[((k : Nat) - 1 : Int).toNat]? = some (spC (u.getD (k - 1) (0, 0))) := fun h => spsC_prev h hlt
        generalize u[k] = x at hx hx0 hxp
        generalize u.getD (k - 1) (0, 0) = y at hpv hxp
        refine LGo.skip ?_
        refine LGo.seq ?_
        refine LGo.block ?_
        refine LGo.seq ?_
        refine LGo.region rfl ?_  -- region 10 DRAWS
        refine R.move (h := ?_)
        refine R.move (h := ?_)
        refine R.index I36 (hj := fun hg => ⟨by omega, hx⟩) (h := ?_)
        first | refine R.loadA A43 (h := ?_) | refine R.loadN A43 (h := ?_)
        refine R.callP (es := [_]) (fun _ => check_P x) (h := ?_)
        refine R.bin (run_neq _ _ _ _ _ _) (h := ?_)
        refine R.move (h := ?_)
        refine R.move (h := ?_)
        refine R.bin (run_gtr _ _ _ _ _ _) (h := ?_)
        refine R.move (h := ?_)
        refine R.move (h := ?_)
        refine R.move (h := ?_)
        refine R.index I36 (hj := fun hg => ⟨by omega, hx⟩) (h := ?_)
        first | refine R.field F43_0 (h := ?_) | refine R.fieldAt F43_0 (h := ?_)
        first | refine R.loadB O2 (h := ?_) | refine R.load1 O2 (h := ?_)
        refine R.move (h := ?_)
        refine R.move (h := ?_)
        first | refine R.sub (h := ?_) | refine R.subW (h := ?_)
        refine R.index I36 (hj := fun hg => ⟨by (simp at hg; omega), hpv (by simp at hg; omega)⟩) (h := ?_)
        first | refine R.field F43_1 (h := ?_) | refine R.fieldAt F43_1 (h := ?_)
        first | refine R.loadB O2 (h := ?_) | refine R.load1 O2 (h := ?_)
        refine R.bin (run_leq _ _ _ _ _ _) (h := ?_)
        refine R.and (h := ?_)
        refine R.or (h := ?_)
        refine Reg.nil ⟨fun _ => ⟨mixedO, by rfl, by rfl⟩, ?_⟩
        refine LGo.ifb (ht := fun hc4 => by (simp [hx0] at hc4; omega)) (hf := fun hc4 => ?_)
        refine LGo.skip ?_
        refine LGo.inBlock ?_
        refine LGo.region rfl ?_  -- region 9
        refine R.move (h := ?_)
        first | refine R.add (h := ?_) | refine R.addW (h := ?_)
        refine R.assign (h := ?_)
        refine Reg.nil ⟨fun h => (by cases h), ?_⟩
        refine LGo.inLoop ?_
        exact LGo.next _ (fun o h => by have := (hA o).1 h; omega) (by omega) (ih (k + 1) hlt (by omega)) (by repeat (first | exact trivial | refine ⟨rfl, ?_⟩)) (by repeat (first | exact trivial | refine ⟨rfl, ?_⟩))
      · -- else 3
        refine LGo.exit rfl ?_
        refine LGo.seq ?_
        refine LGo.seq ?_
        refine LGo.region rfl ?_  -- region 12
        refine R.assign (h := ?_)
        refine Reg.nil ⟨fun h => (by cases h), ?_⟩
        refine LGo.block ?_
        refine LGo.loop ?_
        refine LGo.loopG (σ := Nat) (fun x => x ≤ m.length) (fun x => [(12, (true, .i (x : Nat)))]) (fun x => []) (fun x => m.length - x) (0) [(0, _), (1, _), (2, _), (7, _), (9, _)] (by simp) (by repeat (first | exact trivial | refine ⟨rfl, ?_⟩)) (by repeat (first | exact trivial | refine ⟨rfl, ?_⟩)) (by repeat (first | exact trivial | refine ⟨rfl, ?_⟩)) ?_
        rintro j hj ih2
        refine LGo.seq ?_
        refine LGo.seq ?_
        refine LGo.region rfl ?_  -- region 13
        refine R.move (h := ?_)
        refine R.move (h := ?_)
        first | refine R.len S36 (h := ?_) | refine R.lenRs S36 (h := ?_) | refine R.lenV (run_lenNil S36) (h := ?_)
        rw [spsC_length]
        refine R.bin (run_lss _ _ _ _ _ _) (h := ?_)
        refine Reg.nil ⟨fun h => (by cases h), ?_⟩
        refine LGo.ifd (ht := fun hc5 => ?_) (hf := fun hc5 => ?_)
        · -- then 5
          have hlt : j < m.length := by omega
          have hx := spsC_at hlt
          obtain ⟨hx0, hxp⟩ := can_at mc hlt
          have hpv : 0 < j → (spsC m)[((j : Nat) - 1 : Int).toNat]? = some (spC (m.getD (j - 1) (0, 0))) := fun h => spsC_prev h hlt
          generalize m[j] = x at hx hx0 hxp
          generalize m.getD (j - 1) (0, 0) = y at hpv hxp
          refine LGo.skip ?_
          refine LGo.seq ?_
          refine LGo.block ?_
          refine LGo.seq ?_
          refine LGo.region rfl ?_  -- region 15 DRAWS
          refine R.move (h := ?_)
          refine R.move (h := ?_)
          refine R.index I36 (hj := fun hg => ⟨by omega, hx⟩) (h := ?_)
          first | refine R.loadA A43 (h := ?_) | refine R.loadN A43 (h := ?_)
          refine R.callP (es := [_]) (fun _ => check_P x) (h := ?_)
          refine R.bin (run_neq _ _ _ _ _ _) (h := ?_)
          refine R.move (h := ?_)
          refine R.move (h := ?_)
          refine R.bin (run_gtr _ _ _ _ _ _) (h := ?_)
          refine R.move (h := ?_)
          refine R.move (h := ?_)
          refine R.move (h := ?_)
          refine R.index I36 (hj := fun hg => ⟨by omega, hx⟩) (h := ?_)
          first | refine R.field F43_0 (h := ?_) | refine R.fieldAt F43_0 (h := ?_)
          first | refine R.loadB O2 (h := ?_) | refine R.load1 O2 (h := ?_)
          refine R.move (h := ?_)
          refine R.move (h := ?_)
          first | refine R.sub (h := ?_) | refine R.subW (h := ?_)
          refine R.index I36 (hj := fun hg => ⟨by (simp at hg; omega), hpv (by simp at hg; omega)⟩) (h := ?_)
          first | refine R.field F43_1 (h := ?_) | refine R.fieldAt F43_1 (h := ?_)
          first | refine R.loadB O2 (h := ?_) | refine R.load1 O2 (h := ?_)
          refine R.bin (run_leq _ _ _ _ _ _) (h := ?_)
          refine R.and (h := ?_)
          refine R.or (h := ?_)
          refine Reg.nil ⟨fun _ => ⟨mixedO, by rfl, by rfl⟩, ?_⟩
          refine LGo.ifb (ht := fun hc6 => by (simp [hx0] at hc6; omega)) (hf := fun hc6 => ?_)
          refine LGo.skip ?_
          refine LGo.inBlock ?_
          refine LGo.region rfl ?_  -- region 14
          refine R.move (h := ?_)
          first | refine R.add (h := ?_) | refine R.addW (h := ?_)
          refine R.assign (h := ?_)
          refine Reg.nil ⟨fun h => (by cases h), ?_⟩
          refine LGo.inLoop ?_
          exact LGo.next _ (fun o h => by have := (hA o).1 h; omega) (by omega) (ih2 (j + 1) hlt (by omega)) (by repeat (first | exact trivial | refine ⟨rfl, ?_⟩)) (by repeat (first | exact trivial | refine ⟨rfl, ?_⟩))
        · -- else 5
          refine LGo.exit rfl ?_
          refine LGo.seq ?_
          refine LGo.seq ?_
          refine LGo.region rfl ?_  -- region 17
          refine R.move (h := ?_)
          refine R.bin (run_lss _ _ _ _ _ _) (h := ?_)
          refine Reg.nil ⟨fun h => (by cases h), ?_⟩
          first | refine LGo.ifd (ht := fun hc7 => ?_) (hf := fun hc7 => ?_) | refine LGo.ifb (ht := fun hc7 => ?_) (hf := fun hc7 => ?_)
          · -- then 7
            refine LGo.seq ?_
            refine LGo.region rfl ?_  -- region 18
            refine R.callP (es := []) (fun _ => awake_P) (h := ?_)
            refine R.assign (h := ?_)
            refine Reg.nil ⟨fun h => (by cases h), ?_⟩
            exact LGo.ret (ret_T Tryd.results7 hA hmd)
          · -- else 7
            refine LGo.skip ?_
            refine LGo.seq ?_
            refine LGo.region rfl ?_  -- region 19
            refine R.move (h := ?_)
            refine R.move (h := ?_)
            refine R.callP (es := [_, _]) (fun _ => in_P u t (by omega)) (h := ?_)
            refine R.move (h := ?_)
            refine R.move (h := ?_)
            refine R.callP (es := [_, _]) (fun _ => in_P a t (by omega)) (h := ?_)
            refine R.bin (run_eqlB Tryd.underlying4 _ _ _ _) (h := ?_)
            refine R.move (h := ?_)
            refine R.move (h := ?_)
            refine R.move (h := ?_)
            refine R.callP (es := [_, _]) (fun _ => in_P m t (by omega)) (h := ?_)
            refine R.move (h := ?_)
            refine R.move (h := ?_)
            refine R.callP (es := [_, _]) (fun _ => in_P a t (by omega)) (h := ?_)
            refine R.move (h := ?_)
            refine R.move (h := ?_)
            refine R.move (h := ?_)
            refine R.callP (es := [_, _]) (fun _ => in_P b t (by omega)) (h := ?_)
            refine R.not (h := ?_)
            refine R.and (h := ?_)
            refine R.bin (run_eqlB Tryd.underlying4 _ _ _ _) (h := ?_)
            refine R.and (h := ?_)
            refine R.move (h := ?_)
            refine R.callP (es := []) (fun _ => awake_P) (h := ?_)
            refine R.and (h := ?_)
            refine R.assign (h := ?_)
            refine Reg.nil ⟨fun h => (by cases h), ?_⟩
            refine LGo.eqB 6 true (hb := by rw [um, mm]; simp) (h := ?_)
            exact LGo.ret (ret_T Tryd.results7 hA hmd)

end Go.Proofs.YtcekeipkofblmaaDoor
