/- gates: the laws GateEnters, GateChecks, GatePlays (walks). -/
import Derived.Test.YtgcjjndhohellaaDoorGT
set_option linter.unusedSimpArgs false
set_option linter.unusedVariables false
namespace Go.Proofs.YtgcjjndhohellaaDoor

theorem dec_rfl {α : Type} (a : α) [Decidable (a = a)] : decide (a = a) = true := decide_eq_true rfl
theorem en_refl (x : GtE) : ((((decide (x.seat = x.seat) && decide (x.serial = x.serial)) && decide (x.epoch = x.epoch)) && decide (x.gate = x.gate)) && decide (x.time = x.time)) = true := by simp
theorem sameT {a : GtS} (h : SmS a) : PC Tryd.prog 14 [.agg (a.c.map LV.sv), .agg (a.c.map LV.sv)] (.b true) := by
  have := same_P a a h h
  rwa [decide_eq_true rfl] at this
theorem zero_sm : SmS GtS.zero := ⟨⟨Nat.zero_le _, fun _ h => by cases h⟩, Nat.zero_le _, fun _ h => by cases h⟩
theorem far_ok {s : GtS} (h : s.ok) : s.gates.length ≤ 9223372036854775807 ∧ s.ents.length ≤ 9223372036854775807 ∧ ∀ g ∈ s.gates, g.secs.length ≤ 9223372036854775807 := by
  obtain ⟨h1, h2, h3, _⟩ := h
  unfold maxLen at h1 h3
  refine ⟨by omega, by omega, fun g hg => ?_⟩
  have := (h2 g hg).1
  unfold maxLen at this
  omega
theorem far_sm {s : GtS} (h : s.ok) (hf : farS s = false) : SmS s ∧ s.gates.length ≤ 12 ∧ s.ents.length ≤ 505 := by
  obtain ⟨h1, h2, h3⟩ := far_no hf
  exact ⟨⟨⟨by omega, fun g hg => by have := h3 g hg; omega⟩, by omega, fun x hx => (h.2.2.2 x hx).1⟩, h1, h2⟩
theorem enter_sm {s : GtS} (h : SmS s) (h5 : s.ents.length ≤ 90000) {c : GtC} (hc : U32 c.seat) : SmS (enterS s c).1 := by
  unfold enterS
  split
  · exact zero_sm
  · split
    · exact zero_sm
    · refine ⟨h.1, by dsimp only; rw [ins_len]; omega, fun y hy => ?_⟩
      rcases ins_mem.1 hy with rfl | hy
      · exact hc
      · exact h.2.2 y hy

theorem enters_W (s : GtS) (hok : s.ok) (c : GtC) (hcu : U32 c.seat) : PC Tryd.prog 3 [.agg (s.c.map LV.sv), .agg (c.c.map LV.sv)] (.b true) := by
 refine ⟨LC.of_go Tryd.func3 (c := _) rfl (by kernel_rfl) (by rw [Tryd.ntmps3]; simp) rfl rfl (by simp [LO.lt, LV.lts, LV.lt, lts_sv]) (by simp) ?_⟩
 intro B hA hmd
 refine .seq ?_
 refine .region rfl ?_
 refine R.box (h := ?_)
 refine R.box (h := ?_)
 refine R.assign (h := ?_)
 refine .n0 ?_
 refine .seq ?_
 refine .seq ?_
 refine .region rfl ?_
 first | refine R.loadA A25 (h := ?_) | refine R.loadN A25 (h := ?_) | refine R.loadP A25 (h := ?_)
 refine R.callP (es := [_]) (fun _ => far_P s (far_ok hok).1 (far_ok hok).2.1 (far_ok hok).2.2) (h := ?_)
 refine .n0 ?_
 refine LGo.ifb (ht := fun hc => ?_) (hf := fun hc => ?_)
 ·
  refine .seq ?_
  refine .region rfl ?_
  refine R.callP (es := []) (fun _ => shown_P) (h := ?_)
  refine R.assign (h := ?_)
  refine .n0 ?_
  exact LGo.ret (ret_T Tryd.results3 hA hmd)
 ·
  obtain ⟨hs, hg12, h505⟩ := far_sm hok hc
  have hem := enter_sm hs (by omega) hcu (c := c)
  refine .skip ?_
  refine .seq ?_
  refine .region rfl ?_
  first | refine R.loadA A25 (h := ?_) | refine R.loadN A25 (h := ?_) | refine R.loadP A25 (h := ?_)
  refine R.callP (es := [_]) (fun _ => copyR_P s hs) (h := ?_)
  refine R.alloc Z25 (h := ?_)
  refine R.storeA A25 (h := ?_)
  refine .n0 ?_
  refine .seq ?_
  refine .region rfl ?_
  first | refine R.loadA A25 (h := ?_) | refine R.loadN A25 (h := ?_) | refine R.loadP A25 (h := ?_)
  first | refine R.loadA A31 (h := ?_) | refine R.loadN A31 (h := ?_) | refine R.loadP A31 (h := ?_)
  refine R.callP (es := [_, _]) (fun _ => enter_P s hs c hcu) (h := ?_)
  refine R.move (h := ?_)
  refine R.extract (h := ?_)
  refine R.extract (h := ?_)
  refine R.alloc Z25 (h := ?_)
  refine R.storeA A25 (h := ?_)
  refine R.assign (h := ?_)
  refine .n0 ?_
  refine .seq ?_
  refine .region rfl ?_
  first | refine R.loadA A25 (h := ?_) | refine R.loadN A25 (h := ?_) | refine R.loadP A25 (h := ?_)
  first | refine R.loadA A31 (h := ?_) | refine R.loadN A31 (h := ?_) | refine R.loadP A31 (h := ?_)
  refine R.callP (es := [_, _]) (fun _ => enterR_P s hs c) (h := ?_)
  refine R.move (h := ?_)
  refine R.extract (h := ?_)
  refine R.extract (h := ?_)
  refine R.alloc Z25 (h := ?_)
  refine R.storeA A25 (h := ?_)
  refine R.assign (h := ?_)
  refine .n0 ?_
  refine .seq ?_
  refine .seq ?_
  refine .region rfl ?_
  first | refine R.loadA A25 (h := ?_) | refine R.loadN A25 (h := ?_) | refine R.loadP A25 (h := ?_)
  first | refine R.loadA A25 (h := ?_) | refine R.loadN A25 (h := ?_) | refine R.loadP A25 (h := ?_)
  refine R.callP (es := [_, _]) (fun _ => sameT hem) (h := ?_)
  refine R.not (h := ?_)
  refine R.move (h := ?_)
  refine R.move (h := ?_)
  refine R.move (h := ?_)
  refine R.bin (run_neq _ _ _ _ _ _) (h := ?_)
  rw [dec_rfl (enterS s c).2]
  refine R.or (h := ?_)
  refine R.move (h := ?_)
  first | refine R.loadA A25 (h := ?_) | refine R.loadN A25 (h := ?_) | refine R.loadP A25 (h := ?_)
  first | refine R.loadA A25 (h := ?_) | refine R.loadN A25 (h := ?_) | refine R.loadP A25 (h := ?_)
  refine R.callP (es := [_, _]) (fun _ => sameT hs) (h := ?_)
  refine R.not (h := ?_)
  refine R.or (h := ?_)
  refine .n0 ?_
  refine LGo.ifb (ht := fun hc2 => by simp at hc2) (hf := fun hc2 => ?_)
  refine .skip ?_
  refine .seq ?_
  refine .region rfl ?_
  first | refine R.loadA A25 (h := ?_) | refine R.loadN A25 (h := ?_) | refine R.loadP A25 (h := ?_)
  first | refine R.field F31_1 (h := ?_) | refine R.fieldAt F31_1 (h := ?_)
  first | refine R.loadA A29 (h := ?_) | refine R.loadN A29 (h := ?_) | refine R.loadP A29 (h := ?_)
  refine R.callP (es := [_, _]) (fun _ => find_P s hs c.seat c.owner c.serial c.epoch hcu) (h := ?_)
  refine R.move (h := ?_)
  refine R.extract (h := ?_)
  refine R.extract (h := ?_)
  refine R.alloc Z40 (h := ?_)
  refine R.storeA A40 (h := ?_)
  refine R.assign (h := ?_)
  refine .n0 ?_
  refine .seq ?_
  refine .region rfl ?_
  first | refine R.loadA A25 (h := ?_) | refine R.loadN A25 (h := ?_) | refine R.loadP A25 (h := ?_)
  first | refine R.field F31_1 (h := ?_) | refine R.fieldAt F31_1 (h := ?_)
  first | refine R.loadA A29 (h := ?_) | refine R.loadN A29 (h := ?_) | refine R.loadP A29 (h := ?_)
  refine R.callP (es := [_, _]) (fun _ => findR_P s hs c.seat c.owner c.serial c.epoch) (h := ?_)
  refine R.move (h := ?_)
  refine R.extract (h := ?_)
  refine R.extract (h := ?_)
  refine R.alloc Z40 (h := ?_)
  refine R.storeA A40 (h := ?_)
  refine R.assign (h := ?_)
  refine .n0 ?_
  refine .seq ?_
  refine .region rfl ?_
  first | refine R.loadA A25 (h := ?_) | refine R.loadN A25 (h := ?_) | refine R.loadP A25 (h := ?_)
  first | refine R.field F31_0 (h := ?_) | refine R.fieldAt F31_0 (h := ?_)
  first | refine R.loadB O3 (h := ?_) | refine R.load1 O3 (h := ?_)
  refine R.callP (es := [_, _]) (fun _ => count_P s hs c.gate) (h := ?_)
  refine R.move (h := ?_)
  refine R.extract (h := ?_)
  refine R.extract (h := ?_)
  refine R.assign (h := ?_)
  refine R.assign (h := ?_)
  refine .n0 ?_
  refine .seq ?_
  refine .region rfl ?_
  first | refine R.loadA A25 (h := ?_) | refine R.loadN A25 (h := ?_) | refine R.loadP A25 (h := ?_)
  first | refine R.field F31_0 (h := ?_) | refine R.fieldAt F31_0 (h := ?_)
  first | refine R.loadB O3 (h := ?_) | refine R.load1 O3 (h := ?_)
  refine R.callP (es := [_, _]) (fun _ => countR_P s hs c.gate) (h := ?_)
  refine R.move (h := ?_)
  refine R.extract (h := ?_)
  refine R.extract (h := ?_)
  refine R.assign (h := ?_)
  refine R.assign (h := ?_)
  refine .n0 ?_
  refine .seq ?_
  refine .region rfl ?_
  first | refine R.loadA A40 (h := ?_) | refine R.loadN A40 (h := ?_) | refine R.loadP A40 (h := ?_)
  first | refine R.loadA A40 (h := ?_) | refine R.loadN A40 (h := ?_) | refine R.loadP A40 (h := ?_)
  refine R.binA (EQ40 _ _ _ _ _ _ _ _ _ _ _ _) (h := ?_)
  rw [en_refl]
  refine R.move (h := ?_)
  refine R.move (h := ?_)
  refine R.move (h := ?_)
  refine R.bin (run_eql _ _ _ _ _ _) (h := ?_)
  rw [dec_rfl (findS s (c.seat, c.epoch, c.serial)).2]
  refine R.and (h := ?_)
  refine R.move (h := ?_)
  refine R.move (h := ?_)
  refine R.move (h := ?_)
  refine R.bin (run_eql _ _ _ _ _ _) (h := ?_)
  rw [dec_rfl (countS s c.gate).1]
  refine R.and (h := ?_)
  refine R.move (h := ?_)
  refine R.move (h := ?_)
  refine R.move (h := ?_)
  refine R.bin (run_eql _ _ _ _ _ _) (h := ?_)
  rw [dec_rfl (countS s c.gate).2]
  refine R.and (h := ?_)
  refine R.move (h := ?_)
  refine R.callP (es := []) (fun _ => shown_P) (h := ?_)
  refine R.and (h := ?_)
  refine R.assign (h := ?_)
  refine .n0 ?_
  exact LGo.ret (ret_T Tryd.results3 hA hmd)

theorem new_sm {l : List GtG} (h : SmG l) : SmS (newS l).1 := by
  unfold newS
  split
  · exact zero_sm
  · exact ⟨h, Nat.zero_le _, fun _ h => by cases h⟩
theorem playD_U {gs : List GtG} : ∀ (l : List GtC) (es : List GtE), (∀ x ∈ es, U32 x.seat) → (∀ c ∈ l, U32 c.seat) → ∀ x ∈ (playD gs es l).1, U32 x.seat
  | [], es, h, _ => h
  | c :: l, es, h, hl => by
    rw [playD]
    exact playD_U l _ (step_U h (hl c (by simp))) (fun d hd => hl d (by simp [hd]))
theorem play_RS (s : GtS) (l : List GtC) : playRS s l = playS s l := by
  unfold playRS playS
  by_cases h : checkGS s = 0
  · obtain ⟨gs, es⟩ := s
    have hso := (check_0.1 h).2.2.1
    dsimp only at *
    rw [playR_eq l es es h (sort_dist hso) (sortE_id hso).symm]
  · rw [if_pos h, if_pos h]
theorem play_sm {s : GtS} (h : SmS s) (l : List GtC) (hl : l.length ≤ 30000) (hlu : ∀ c ∈ l, U32 c.seat) : SmS (playS s l).1 ∧ (playS s l).2.1.length ≤ 30000 ∧ (playS s l).1.ents.length ≤ 500 := by
  unfold playS
  by_cases hc : checkGS s = 0
  · rw [if_neg (by simp [hc])]
    split
    · exact ⟨zero_sm, Nat.zero_le _, Nat.zero_le _⟩
    · obtain ⟨gs, es⟩ := s
      obtain ⟨h1, h2, h3, h4⟩ := check_0.1 hc
      have hi := play_inv (gs := gs) l es (sort_dist h3) h2 h4
      have hp := sortE_perm (playD gs es l).1
      refine ⟨⟨h.1, by dsimp only; rw [hp.length_eq]; have := hi.2.1; omega, fun x hx => playD_U l es h.2.2 hlu x (hp.mem_iff.1 hx)⟩, by dsimp only; rw [hi.2.2.2]; exact hl, by dsimp only; rw [hp.length_eq]; exact hi.2.1⟩
  · rw [if_pos hc]
    exact ⟨zero_sm, Nat.zero_le _, Nat.zero_le _⟩
theorem errT {l : List Int} (h : l.length ≤ 100000) : PC Tryd.prog 27 [.sv (.sl 1 (ic .i64 l)), .sv (.sl 1 (ic .i64 l))] (.b true) := by
  have := errors_P l l h h
  rwa [decide_eq_true rfl] at this
theorem playRS_P (s : GtS) (hs : SmS s) (h5 : s.ents.length ≤ 50000) (l : List GtC) (hl : l.length ≤ 30000) (hlu : ∀ c ∈ l, U32 c.seat) : PC Tryd.prog 26 [.agg (s.c.map LV.sv), .sv (.sl 7 (l.map GtC.c))] (.tup [.agg ((playS s l).1.c.map LV.sv), .sv (.sl 1 (ic .i64 (playS s l).2.1)), .i (playS s l).2.2]) := by
  have := playR_P s hs h5 l hl hlu
  rwa [play_RS] at this

theorem checks_W (s : GtS) (hok : s.ok) : PC Tryd.prog 5 [.agg (s.c.map LV.sv)] (.b true) := by
 refine ⟨LC.of_go Tryd.func5 (c := _) rfl (by kernel_rfl) (by rw [Tryd.ntmps5]; simp) rfl rfl (by simp [LO.lt, LV.lts, LV.lt, lts_sv]) (by simp) ?_⟩
 intro B hA hmd
 refine .seq ?_
 refine .region rfl ?_
 refine R.box (h := ?_)
 refine R.assign (h := ?_)
 refine .n0 ?_
 refine .seq ?_
 refine .seq ?_
 refine .region rfl ?_
 first | refine R.loadA A25 (h := ?_) | refine R.loadN A25 (h := ?_) | refine R.loadP A25 (h := ?_)
 refine R.callP (es := [_]) (fun _ => far_P s (far_ok hok).1 (far_ok hok).2.1 (far_ok hok).2.2) (h := ?_)
 refine .n0 ?_
 refine LGo.ifb (ht := fun hc => ?_) (hf := fun hc => ?_)
 ·
  refine .seq ?_
  refine .region rfl ?_
  refine R.callP (es := []) (fun _ => shown_P) (h := ?_)
  refine R.assign (h := ?_)
  refine .n0 ?_
  exact LGo.ret (ret_T Tryd.results5 hA hmd)
 ·
  obtain ⟨hs, hg12, h505⟩ := far_sm hok hc
  have hnm := new_sm hs.1
  refine .skip ?_
  refine .seq ?_
  refine .region rfl ?_
  first | refine R.field F25_0 (h := ?_) | refine R.fieldAt F25_0 (h := ?_)
  first | refine R.loadB O22 (h := ?_) | refine R.load1 O22 (h := ?_)
  refine R.callP (es := [_]) (fun _ => newS_P s.gates hs.1.1 hs.1.2) (h := ?_)
  refine R.move (h := ?_)
  refine R.extract (h := ?_)
  refine R.extract (h := ?_)
  refine R.alloc Z25 (h := ?_)
  refine R.storeA A25 (h := ?_)
  refine R.assign (h := ?_)
  refine .n0 ?_
  refine .seq ?_
  refine .region rfl ?_
  first | refine R.field F25_0 (h := ?_) | refine R.fieldAt F25_0 (h := ?_)
  first | refine R.loadB O22 (h := ?_) | refine R.load1 O22 (h := ?_)
  refine R.callP (es := [_]) (fun _ => newR_P s.gates hs.1.1 hs.1.2) (h := ?_)
  refine R.move (h := ?_)
  refine R.extract (h := ?_)
  refine R.extract (h := ?_)
  refine R.alloc Z25 (h := ?_)
  refine R.storeA A25 (h := ?_)
  refine R.assign (h := ?_)
  refine .n0 ?_
  refine .seq ?_
  refine .region rfl ?_
  first | refine R.loadA A25 (h := ?_) | refine R.loadN A25 (h := ?_) | refine R.loadP A25 (h := ?_)
  first | refine R.loadA A25 (h := ?_) | refine R.loadN A25 (h := ?_) | refine R.loadP A25 (h := ?_)
  refine R.callP (es := [_, _]) (fun _ => sameT hnm) (h := ?_)
  refine R.move (h := ?_)
  refine R.move (h := ?_)
  refine R.move (h := ?_)
  refine R.bin (run_eql _ _ _ _ _ _) (h := ?_)
  rw [dec_rfl (newS s.gates).2]
  refine R.and (h := ?_)
  refine R.move (h := ?_)
  first | refine R.loadA A25 (h := ?_) | refine R.loadN A25 (h := ?_) | refine R.loadP A25 (h := ?_)
  refine R.callP (es := [_]) (fun _ => checkGS_P s hs) (h := ?_)
  first | refine R.loadA A25 (h := ?_) | refine R.loadN A25 (h := ?_) | refine R.loadP A25 (h := ?_)
  refine R.callP (es := [_]) (fun _ => checkGR_P s hs) (h := ?_)
  refine R.bin (run_eql _ _ _ _ _ _) (h := ?_)
  rw [dec_rfl (checkGS s)]
  refine R.and (h := ?_)
  refine R.move (h := ?_)
  refine R.callP (es := []) (fun _ => shown_P) (h := ?_)
  refine R.and (h := ?_)
  refine R.assign (h := ?_)
  refine Reg.nil ⟨fun _ => ⟨mixedO, by rfl, by rfl⟩, ?_⟩
  exact LGo.ret (ret_T Tryd.results5 hA hmd)

theorem plays_W (s : GtS) (hok : s.ok) (l : List GtC) (hl : l.length ≤ maxLen) (hlu : ∀ c ∈ l, U32 c.seat) : PC Tryd.prog 6 [.agg (s.c.map LV.sv), .sv (.sl 7 (l.map GtC.c))] (.b true) := by
 refine ⟨LC.of_go Tryd.func6 (c := _) rfl (by kernel_rfl) (by rw [Tryd.ntmps6]; simp) rfl rfl (by simp [LO.lt, LV.lts, LV.lt, lts_sv]) (by simp) ?_⟩
 intro B hA hmd
 unfold maxLen at hl
 refine .seq ?_
 refine .region rfl ?_
 refine R.box (h := ?_)
 refine R.assign (h := ?_)
 refine .n0 ?_
 refine .seq ?_
 refine .seq ?_
 refine .region rfl ?_
 first | refine R.loadA A25 (h := ?_) | refine R.loadN A25 (h := ?_) | refine R.loadP A25 (h := ?_)
 refine R.callP (es := [_]) (fun _ => far_P s (far_ok hok).1 (far_ok hok).2.1 (far_ok hok).2.2) (h := ?_)
 refine R.move (h := ?_)
 first | refine R.field F25_1 (h := ?_) | refine R.fieldAt F25_1 (h := ?_)
 first | refine R.loadB O23 (h := ?_) | refine R.load1 O23 (h := ?_)
 first | refine R.len S23 (h := ?_) | refine R.lenRs S23 (h := ?_) | refine R.lenV (run_lenNil S23) (h := ?_)
 rw [List.length_map]
 refine R.bin (run_gtr _ _ _ _ _ _) (h := ?_)
 refine R.or (h := ?_)
 refine R.move (h := ?_)
 refine R.move (h := ?_)
 first | refine R.len S50 (h := ?_) | refine R.lenRs S50 (h := ?_) | refine R.lenV (run_lenNil S50) (h := ?_)
 rw [List.length_map]
 refine R.bin (run_gtr _ _ _ _ _ _) (h := ?_)
 refine R.move (h := ?_)
 refine R.move (h := ?_)
 first | refine R.len S50 (h := ?_) | refine R.lenRs S50 (h := ?_) | refine R.lenV (run_lenNil S50) (h := ?_)
 rw [List.length_map]
 refine R.bin (run_leq _ _ _ _ _ _) (h := ?_)
 refine R.and (h := ?_)
 refine R.or (h := ?_)
 refine R.move (h := ?_)
 refine R.move (h := ?_)
 first | refine R.len S50 (h := ?_) | refine R.lenRs S50 (h := ?_) | refine R.lenV (run_lenNil S50) (h := ?_)
 rw [List.length_map]
 refine R.bin (run_gtr _ _ _ _ _ _) (h := ?_)
 refine R.or (h := ?_)
 refine .n0 ?_
 refine LGo.ifb (ht := fun hc => ?_) (hf := fun hc => ?_)
 ·
  refine .seq ?_
  refine .region rfl ?_
  refine R.callP (es := []) (fun _ => shown_P) (h := ?_)
  refine R.assign (h := ?_)
  refine .n0 ?_
  exact LGo.ret (ret_T Tryd.results6 hA hmd)
 ·
  simp only [Bool.or_eq_false_iff, decide_eq_false_iff_not] at hc
  obtain ⟨hs, hg12, h505⟩ := far_sm hok hc.1.1.1
  have hl5 : l.length ≤ 1005 := by have := hc.2; omega
  obtain ⟨hpm, hpe, _⟩ := play_sm hs l (by omega) hlu
  refine .skip ?_
  refine .seq ?_
  refine .region rfl ?_
  first | refine R.loadA A25 (h := ?_) | refine R.loadN A25 (h := ?_) | refine R.loadP A25 (h := ?_)
  refine R.move (h := ?_)
  refine R.callP (es := [_, _]) (fun _ => play_P s hs l (by omega) hlu) (h := ?_)
  refine R.move (h := ?_)
  refine R.extract (h := ?_)
  refine R.extract (h := ?_)
  refine R.extract (h := ?_)
  refine R.alloc Z25 (h := ?_)
  refine R.storeA A25 (h := ?_)
  refine R.assign (h := ?_)
  refine R.assign (h := ?_)
  refine .n0 ?_
  refine .seq ?_
  refine .region rfl ?_
  first | refine R.loadA A25 (h := ?_) | refine R.loadN A25 (h := ?_) | refine R.loadP A25 (h := ?_)
  refine R.move (h := ?_)
  refine R.callP (es := [_, _]) (fun _ => playRS_P s hs (by omega) l (by omega) hlu) (h := ?_)
  refine R.move (h := ?_)
  refine R.extract (h := ?_)
  refine R.extract (h := ?_)
  refine R.extract (h := ?_)
  refine R.alloc Z25 (h := ?_)
  refine R.storeA A25 (h := ?_)
  refine R.assign (h := ?_)
  refine R.assign (h := ?_)
  refine .n0 ?_
  refine .seq ?_
  refine .region rfl ?_
  first | refine R.loadA A25 (h := ?_) | refine R.loadN A25 (h := ?_) | refine R.loadP A25 (h := ?_)
  first | refine R.loadA A25 (h := ?_) | refine R.loadN A25 (h := ?_) | refine R.loadP A25 (h := ?_)
  refine R.callP (es := [_, _]) (fun _ => sameT hpm) (h := ?_)
  refine R.move (h := ?_)
  refine R.move (h := ?_)
  refine R.move (h := ?_)
  refine R.callP (es := [_, _]) (fun _ => errT (l := (playS s l).2.1) (by omega)) (h := ?_)
  refine R.and (h := ?_)
  refine R.move (h := ?_)
  refine R.move (h := ?_)
  refine R.move (h := ?_)
  refine R.bin (run_eql _ _ _ _ _ _) (h := ?_)
  rw [dec_rfl (playS s l).2.2]
  refine R.and (h := ?_)
  refine R.move (h := ?_)
  refine R.callP (es := []) (fun _ => shown_P) (h := ?_)
  refine R.and (h := ?_)
  refine R.assign (h := ?_)
  refine .n0 ?_
  exact LGo.ret (ret_T Tryd.results6 hA hmd)

end Go.Proofs.YtgcjjndhohellaaDoor
