/- Texts of this claim, merged (SS to TH); no condition. -/
import Derived.Test.YteccglgbkehdeaaGreatDoorPC5
/- scripts: Shrink. -/
set_option linter.unusedSimpArgs false
set_option linter.unusedVariables false
namespace Go.Proofs.YteccglgbkehdeaaGreatDoor

theorem shrink_P (s : Sc) (hs : s.sm) (hcp : s.cp) (ks : List UInt8) (least : Int) {ff : Nat} {pf : List SrE → Bool} (hff : (checkS s).2 = 0 → ∀ es : List SrE, es.Sublist s.evs → PC Tryz.prog ff ([.agg [.sv (.sl 1 (bytesC ks)), .i least]] ++ [.agg ((Sc.c { s with evs := es }).map LV.sv)]) (.b (pf es))) (most : Int) (hmr : R64 most) : PC Tryz.prog 22 [.agg (s.c.map LV.sv), .fn (.func ff) [.agg [.sv (.sl 1 (bytesC ks)), .i least]] [], .i most] (.tup [.agg ((shrinkS pf s most).1.c.map LV.sv), .i (shrinkS pf s most).2.1, .i (shrinkS pf s most).2.2]) := by
 refine ⟨LC.of_go Tryz.func22 (c := _) rfl (by kernel_rfl) (by rw [Tryz.ntmps22]; simp) rfl rfl (by simp [LO.lt, LV.lts, LV.lt, lts_sv]) (by simp) ?_⟩
 intro B hA hmd
 obtain ⟨g, e0⟩ : ∃ g, shrinkS pf s most = g := ⟨_, rfl⟩
 have e1 := e0
 unfold shrinkS at e1
 rw [e0]
 unfold R64 at hmr
 refine .seq ?_
 refine .region rfl ?_
 refine R.box (h := ?_)
 refine R.box (h := ?_)
 refine R.box (h := ?_)
 refine R.alloc Z29 (h := ?_)
 refine R.alloc Z3 (h := ?_)
 refine R.assign (h := ?_)
 refine .n0 ?_
 refine .seq ?_
 refine .region rfl ?_
 first | refine R.loadA A29 (h := ?_) | refine R.loadN A29 (h := ?_) | refine R.loadP A29 (h := ?_)
 refine R.callP (es := [_]) (fun _ => checkS_P s hs) (h := ?_)
 refine R.move (h := ?_)
 refine R.extract (h := ?_)
 refine R.extract (h := ?_)
 refine R.assign (h := ?_)
 refine .n0 ?_
 refine .seq ?_
 refine .block ?_
 refine .seq ?_
 refine .region rfl ?_
 refine R.move (h := ?_)
 refine R.bin (run_neq _ _ _ _ _ _) (h := ?_)
 refine R.assign (h := ?_)
 refine .n0 ?_
 refine LGo.ifb (ht := fun hc => ?_) (hf := fun hc => ?_)
 ·
  rw [if_pos (by simpa using hc)] at e1
  rw [← e1]
  refine .seq ?_
  refine .region rfl ?_
  first | refine R.loadA A29 (h := ?_) | refine R.loadN A29 (h := ?_) | refine R.loadP A29 (h := ?_)
  refine R.move (h := ?_)
  refine R.storeA A29 (h := ?_)
  refine R.storeB O3 (h := ?_)
  refine R.assign (h := ?_)
  refine .n0 ?_
  refine LGo.packNil 3 3 80 3 (h := ?_)
  refine LGo.frzBx 3 (h := ?_)
  refine LGo.packNil 3 5 71 3 (h := ?_)
  refine LGo.frzBx 3 (h := ?_)
  refine LGo.packNil 3 7 40 11 (h := ?_)
  refine LGo.frzBx 3 (h := ?_)
  refine LGo.packNil 3 8 58 3 (h := ?_)
  refine LGo.frzBx 3 (h := ?_)
  exact LGo.ret (ret_ABT Tryz.results22 A29 O3 hA hmd)
 ·
  have hc0 : (checkS s).2 = 0 := by simpa using hc
  rw [if_neg (by simp [hc0])] at e1
  have hff := hff hc0
  have hel : s.evs.length ≤ 1000 := ((check_iff_S s).1 hc0).2.1
  refine .seq ?_
  refine .region rfl ?_
  first | refine R.loadB O30 (h := ?_) | refine R.load1 O30 (h := ?_)
  refine R.fnF (hT := Tryz.underlying30) (h := ?_)
  refine R.assign (h := ?_)
  refine .n0 ?_
  refine LGo.ifb (ht := fun hc2 => by simp at hc2) (hf := fun hc2 => ?_)
  refine .seq ?_
  refine .region rfl ?_
  first | refine R.loadB O3 (h := ?_) | refine R.load1 O3 (h := ?_)
  refine R.bin (run_lss _ _ _ _ _ _) (h := ?_)
  refine R.move (h := ?_)
  first | refine R.loadB O3 (h := ?_) | refine R.load1 O3 (h := ?_)
  refine R.bin (run_gtr _ _ _ _ _ _) (h := ?_)
  refine R.or (h := ?_)
  refine R.assign (h := ?_)
  refine .n0 ?_
  refine LGo.ifb (ht := fun hc3 => ?_) (hf := fun hc3 => ?_)
  ·
   rw [if_pos hc3] at e1
   rw [← e1]
   refine .seq ?_
   refine .region rfl ?_
   first | refine R.loadA A29 (h := ?_) | refine R.loadN A29 (h := ?_) | refine R.loadP A29 (h := ?_)
   refine R.storeA A29 (h := ?_)
   refine R.storeB O3 (h := ?_)
   refine R.assign (h := ?_)
   refine .n0 ?_
   refine LGo.packNil 3 3 80 3 (h := ?_)
   refine LGo.frzBx 3 (h := ?_)
   refine LGo.packNil 3 5 71 3 (h := ?_)
   refine LGo.frzBx 3 (h := ?_)
   refine LGo.packNil 3 7 40 11 (h := ?_)
   refine LGo.frzBx 3 (h := ?_)
   refine LGo.packNil 3 8 58 3 (h := ?_)
   refine LGo.frzBx 3 (h := ?_)
   exact LGo.ret (ret_ABT Tryz.results22 A29 O3 hA hmd)
  ·
   rw [if_neg (by rw [hc3]; simp)] at e1
   simp only [Bool.or_eq_false_iff, decide_eq_false_iff_not] at hc3
   refine .seq ?_
   refine .region rfl ?_
   first | refine R.loadB O30 (h := ?_) | refine R.load1 O30 (h := ?_)
   first | refine R.loadA A29 (h := ?_) | refine R.loadN A29 (h := ?_) | refine R.loadP A29 (h := ?_)
   first | refine R.field F29_5 (h := ?_) | refine R.fieldAt F29_5 (h := ?_)
   first | refine R.loadB O27 (h := ?_) | refine R.load1 O27 (h := ?_)
   refine R.callP (es := [_]) (fun _ => cloneEv_P (s.evs.map SrE.c) (se_ones _) (by rw [List.length_map]; omega)) (h := ?_)
   refine R.callP (es := [_, _]) (fun _ => copied_P s hcp.v hcp.vr hcp.g hcp.gr hcp.c s.evs) (h := ?_)
   refine R.callRd (es := [_]) (first := [.agg [.sv (.sl 1 (bytesC ks)), .i least]]) (cap := []) (Hi := []) (m := 0) (out := .b (pf s.evs)) (avs := [.agg (s.c.map LV.sv)]) (by rw [List.append_nil]; exact (hff s.evs (List.Sublist.refl _)).lc) (hL := fun k z hz => by simp at hz) (h := ?_)
   refine R.not (h := ?_)
   refine R.assign (h := ?_)
   refine Reg.nil ⟨fun _ => ⟨mixedO, by rfl, by rfl⟩, ?_⟩
   refine LGo.ifb (ht := fun hc4 => ?_) (hf := fun hc4 => ?_)
   ·
    rw [if_pos hc4] at e1
    rw [← e1]
    refine .seq ?_
    refine .region rfl ?_
    first | refine R.loadA A29 (h := ?_) | refine R.loadN A29 (h := ?_) | refine R.loadP A29 (h := ?_)
    refine R.storeA A29 (h := ?_)
    refine R.storeB O3 (h := ?_)
    refine R.assign (h := ?_)
    refine .n0 ?_
    refine LGo.packNil 3 3 80 3 (h := ?_)
    refine LGo.frzBx 3 (h := ?_)
    refine LGo.packNil 3 5 71 3 (h := ?_)
    refine LGo.frzBx 3 (h := ?_)
    refine LGo.packNil 3 7 40 11 (h := ?_)
    refine LGo.frzBx 3 (h := ?_)
    refine LGo.packNil 3 8 58 3 (h := ?_)
    refine LGo.frzBx 3 (h := ?_)
    exact LGo.ret (ret_ABT Tryz.results22 A29 O3 hA hmd)
   ·
    rw [if_neg (by rw [hc4]; simp)] at e1
    obtain ⟨G, hG⟩ : ∃ G, shrGo pf most (shrM most (max (s.evs.length / 2) 1) 0 + 1) (max (s.evs.length / 2) 1) s.evs 0 = G := ⟨_, rfl⟩
    rw [hG] at e1
    refine .skip ?_
    refine .inBlock ?_
    refine .seq ?_
    refine .region rfl ?_
    first | refine R.field F29_5 (h := ?_) | refine R.fieldAt F29_5 (h := ?_)
    first | refine R.loadB O27 (h := ?_) | refine R.load1 O27 (h := ?_)
    refine R.callP (es := [_]) (fun _ => cloneEv_P (s.evs.map SrE.c) (se_ones _) (by rw [List.length_map]; omega)) (h := ?_)
    refine R.alloc Z27 (h := ?_)
    refine R.storeB O27 (h := ?_)
    refine .n0 ?_
    refine .seq ?_
    refine .region rfl ?_
    refine R.makeFunc (es := []) (fs := [_, _, _, _, _]) (h := ?_)
    refine R.assign (h := ?_)
    refine .n0 ?_
    refine .seq ?_
    refine .seq ?_
    refine .region rfl ?_
    first | refine R.loadB O27 (h := ?_) | refine R.load1 O27 (h := ?_)
    first | refine R.len S27 (h := ?_) | refine R.lenRs S27 (h := ?_) | refine R.lenV (run_lenNil S27) (h := ?_)
    rw [List.length_map]
    refine R.quo (h := ?_)
    refine R.maxI (h := ?_)
    rw [show max ((s.evs.length : Int) / 2) 1 = ((max (s.evs.length / 2) 1 : Nat) : Int) from by omega]
    refine R.assign (h := ?_)
    refine .n0 ?_
    refine .block ?_
    refine .loop ?_
    refine LGo.loopG (σ := Nat × Nat × List SrE × Int) (fun x => shrM most x.2.1 x.2.2.2 < x.1 ∧ 1 ≤ x.2.1 ∧ x.2.1 ≤ 1000 ∧ x.2.2.1.length ≤ 1000 ∧ x.2.2.1.Sublist s.evs ∧ 0 ≤ x.2.2.2 ∧ x.2.2.2 ≤ most ∧ shrGo pf most x.1 x.2.1 x.2.2.1 x.2.2.2 = G) (fun x => [(11, (true, .i (x.2.1 : Nat)))]) (fun x => [(0, .box 29 (s.c.map LV.sv)), (1, .box 30 [.fn (.func ff) [.agg [.sv (.sl 1 (bytesC ks)), .i least]] []]), (2, .box 3 [.i most]), (3, .box 29 [.i 0, .i 0, .i 0, .v (.slice none 0 0), .t [], .v (.slice none 0 0), .i 0, .v (.slice none 0 0), .v (.slice none 0 0)]), (4, .box 3 [.i x.2.2.2]), (5, .box 27 [.sv (.sl 3 (x.2.2.1.map SrE.c))])]) (fun x => x.1) (shrM most (max (s.evs.length / 2) 1) 0 + 1, max (s.evs.length / 2) 1, s.evs, 0) [(3, _), (5, _), (6, _), (7, _), (9, _), (10, _)] ⟨Nat.lt_succ_self _, by dsimp only; omega, by dsimp only; omega, hel, List.Sublist.refl _, Int.le_refl _, by dsimp only; omega, hG⟩ (by repeat (first | exact trivial | refine ⟨rfl, ?_⟩)) (by repeat (first | exact trivial | refine ⟨rfl, ?_⟩)) (by repeat (first | exact trivial | refine ⟨rfl, ?_⟩)) ?_
    rintro ⟨f, n, cu, tt⟩ ⟨hmf, hn1, hn2, hcl, hsub, ht0, htm, hq⟩ ih
    dsimp only at * 
    obtain ⟨f, rfl⟩ : ∃ f2, f = f2 + 1 := ⟨f - 1, by omega⟩
    rw [shrGo] at hq
    refine .seq ?_
    refine .seq ?_
    refine .region rfl ?_
    first | refine R.loadB O27 (h := ?_) | refine R.load1 O27 (h := ?_)
    first | refine R.len S27 (h := ?_) | refine R.lenRs S27 (h := ?_) | refine R.lenV (run_lenNil S27) (h := ?_)
    rw [List.length_map]
    refine R.bin (run_gtr _ _ _ _ _ _) (h := ?_)
    refine R.move (h := ?_)
    first | refine R.loadB O3 (h := ?_) | refine R.load1 O3 (h := ?_)
    first | refine R.loadB O3 (h := ?_) | refine R.load1 O3 (h := ?_)
    refine R.bin (run_lss _ _ _ _ _ _) (h := ?_)
    refine R.and (h := ?_)
    refine .n0 ?_
    refine LGo.ifb (ht := fun hc5 => ?_) (hf := fun hc5 => ?_)
    ·
     simp only [Bool.and_eq_true, decide_eq_true_eq] at hc5
     have hcc : 0 < cu.length ∧ tt < most := by omega
     rw [if_pos hcc] at hq
     have hr := rndGo_ok pf most n (cu.length + 1) cu.length cu tt false
     have hst := fun h => shr_step pf most hn1 hcc h
     have hL := roundC_L s hcp (ff := ff) (first := [.agg [.sv (.sl 1 (bytesC ks)), .i least]]) (pf := pf) s.evs rfl hff n hn1 hn2 most (by omega) cu hcl hsub tt (by omega)
     generalize rndGo pf most n (cu.length + 1) cu.length cu tt false = rr at hq hr hst hL
     obtain ⟨cu2, tt2, kp2⟩ := rr
     dsimp only at hq hr hst hL
     refine .skip ?_
     refine .seq ?_
     refine .block ?_
     refine .seq ?_
     refine .region rfl ?_
     refine R.move (h := ?_)
     refine R.move (h := ?_)
     refine R.callX (es := [_]) (first := []) (cap := [_, _, _, _, _]) [5, 4, 2, 1, 0] hL (h := ?_)
     refine R.assign (h := ?_)
     refine .n0 ?_
     refine .seq ?_
     refine .region rfl ?_
     refine R.move (h := ?_)
     refine R.not (h := ?_)
     refine R.move (h := ?_)
     refine R.move (h := ?_)
     refine R.bin (run_eql _ _ _ _ _ _) (h := ?_)
     rw [show decide ((n : Int) = 1) = decide (n = 1) from by rw [decide_eq_decide]; omega]
     refine R.and (h := ?_)
     refine .n0 ?_
     refine LGo.ifb (ht := fun hc6 => ?_) (hf := fun hc6 => ?_)
     ·
      rw [if_pos (by simpa using hc6)] at hq
      refine .exit rfl ?_
      refine .seq ?_
      refine .region rfl ?_
      first | refine R.loadA A29 (h := ?_) | refine R.loadN A29 (h := ?_) | refine R.loadP A29 (h := ?_)
      first | refine R.loadB O27 (h := ?_) | refine R.load1 O27 (h := ?_)
      refine R.callP (es := [_, _]) (fun _ => copied_P s hcp.v hcp.vr hcp.g hcp.gr hcp.c _) (h := ?_)
      first | refine R.loadB O3 (h := ?_) | refine R.load1 O3 (h := ?_)
      refine R.storeA A29 (h := ?_)
      refine R.storeB O3 (h := ?_)
      refine R.assign (h := ?_)
      refine Reg.nil ⟨fun _ => ⟨mixedO, by rfl, by rfl⟩, ?_⟩
      rw [← hq] at e1
      rw [← e1]
      exact LGo.ret (ret_ABT Tryz.results22 A29 O3 hA hmd)
     ·
      have hk6 : ¬ (kp2 = false ∧ n = 1) := fun h => by rw [h.1, h.2] at hc6; simp at hc6
      rw [if_neg hk6] at hq
      have hsf : shrM most (max (n / 2) 1) tt2 < f := by have := hst hk6; omega
      refine .skip ?_
      refine .inBlock ?_
      refine .region rfl ?_
      refine R.move (h := ?_)
      refine R.quo (h := ?_)
      refine R.maxI (h := ?_)
      rw [show max ((n : Int) / 2) 1 = ((max (n / 2) 1 : Nat) : Int) from by omega]
      refine R.assign (h := ?_)
      refine .n0 ?_
      refine .inLoop ?_
      exact LGo.next _ (fun o h => by have := (hA o).1 h; omega) (by omega) (ih (f, max (n / 2) 1, cu2, tt2) ⟨hsf, by dsimp only; omega, by dsimp only; omega, by have h := hr.sub.length_le; dsimp only at h ⊢; omega, hr.sub.trans hsub, by have h := hr.le; dsimp only at h ⊢; omega, hr.mx htm, hq⟩ (by dsimp only; omega)) (by repeat (first | exact trivial | refine ⟨rfl, ?_⟩)) ⟨rfl, rfl, rfl, rfl, rfl, rfl, trivial⟩
    ·
     rw [if_neg (fun h => by rw [decide_eq_true h.2, decide_eq_true (show (cu.length : Int) > 0 by omega)] at hc5; simp at hc5)] at hq
     refine .exit rfl ?_
     refine .seq ?_
     refine .region rfl ?_
     first | refine R.loadA A29 (h := ?_) | refine R.loadN A29 (h := ?_) | refine R.loadP A29 (h := ?_)
     first | refine R.loadB O27 (h := ?_) | refine R.load1 O27 (h := ?_)
     refine R.callP (es := [_, _]) (fun _ => copied_P s hcp.v hcp.vr hcp.g hcp.gr hcp.c _) (h := ?_)
     first | refine R.loadB O3 (h := ?_) | refine R.load1 O3 (h := ?_)
     refine R.storeA A29 (h := ?_)
     refine R.storeB O3 (h := ?_)
     refine R.assign (h := ?_)
     refine Reg.nil ⟨fun _ => ⟨mixedO, by rfl, by rfl⟩, ?_⟩
     rw [← hq] at e1
     rw [← e1]
     exact LGo.ret (ret_ABT Tryz.results22 A29 O3 hA hmd)

theorem shrinkO_L (s : Sc) (hs : s.sm) (hcp : s.cp) (hne : s.evs ≠ []) {ff : Nat} {pf : List SrE → Bool} (hff : (checkS s).2 = 0 → ∀ es : List SrE, es.Sublist s.evs → PC Tryz.prog ff ([] ++ [.agg ((Sc.c { s with evs := es }).map LV.sv)]) (.b (pf es))) (most : Int) (hmr : R64 most) : LC Tryz.prog 22 1 [.agg (s.cO 0), .fn (.func ff) [] [], .i most] [(0, .rs 58 3 (s.evs.map SrE.c))] (.tup [.agg ((shrinkS pf s most).1.c.map LV.sv), .i (shrinkS pf s most).2.1, .i (shrinkS pf s most).2.2]) [(0, .rs 58 3 (s.evs.map SrE.c))] 0 := by
 refine LC.of_go Tryz.func22 (c := _) rfl (by kernel_rfl) (by rw [Tryz.ntmps22]; simp) rfl rfl (by simp [LO.lt, LV.lts, LV.lt, lts_sv]) (by simp) ?_
 intro B hA hmd
 obtain ⟨g, e0⟩ : ∃ g, shrinkS pf s most = g := ⟨_, rfl⟩
 have e1 := e0
 unfold shrinkS at e1
 rw [e0]
 unfold R64 at hmr
 refine .seq ?_
 refine .region rfl ?_
 refine R.box (h := ?_)
 refine R.box (h := ?_)
 refine R.box (h := ?_)
 refine R.alloc Z29 (h := ?_)
 refine R.alloc Z3 (h := ?_)
 refine R.assign (h := ?_)
 refine .n0 ?_
 refine .seq ?_
 refine .region rfl ?_
 first | refine R.loadA A29 (h := ?_) | refine R.loadN A29 (h := ?_) | refine R.loadP A29 (h := ?_)
 refine R.callVA (es := [_]) (lvs := [.agg (s.c.map LV.sv)]) (rd := [(0, .rs 58 3 (s.evs.map SrE.c))]) (fun _ => checkS_P s hs) (hrd := oneL rfl) (h := ?_)
 refine R.move (h := ?_)
 refine R.extract (h := ?_)
 refine R.extract (h := ?_)
 refine R.assign (h := ?_)
 refine .n0 ?_
 refine .seq ?_
 refine .block ?_
 refine .seq ?_
 refine .region rfl ?_
 refine R.move (h := ?_)
 refine R.bin (run_neq _ _ _ _ _ _) (h := ?_)
 refine R.assign (h := ?_)
 refine .n0 ?_
 refine LGo.ifb (ht := fun hc => ?_) (hf := fun hc => ?_)
 ·
  rw [if_pos (by simpa using hc)] at e1
  rw [← e1]
  refine .seq ?_
  refine .region rfl ?_
  first | refine R.loadA A29 (h := ?_) | refine R.loadN A29 (h := ?_) | refine R.loadP A29 (h := ?_)
  refine R.move (h := ?_)
  refine R.storeA A29 (h := ?_)
  refine R.storeB O3 (h := ?_)
  refine R.assign (h := ?_)
  refine .n0 ?_
  refine LGo.packNil 4 3 80 3 (h := ?_)
  refine LGo.frzBx 4 (h := ?_)
  refine LGo.packNil 4 5 71 3 (h := ?_)
  refine LGo.frzBx 4 (h := ?_)
  refine LGo.packNil 4 7 40 11 (h := ?_)
  refine LGo.frzBx 4 (h := ?_)
  refine LGo.packNil 4 8 58 3 (h := ?_)
  refine LGo.frzBx 4 (h := ?_)
  exact LGo.ret (ret_ABT Tryz.results22 A29 O3 hA hmd)
 ·
  have hc0 : (checkS s).2 = 0 := by simpa using hc
  rw [if_neg (by simp [hc0])] at e1
  have hff := hff hc0
  have hel : s.evs.length ≤ 1000 := ((check_iff_S s).1 hc0).2.1
  refine .seq ?_
  refine .region rfl ?_
  first | refine R.loadB O30 (h := ?_) | refine R.load1 O30 (h := ?_)
  refine R.fnF (hT := Tryz.underlying30) (h := ?_)
  refine R.assign (h := ?_)
  refine .n0 ?_
  refine LGo.ifb (ht := fun hc2 => by simp at hc2) (hf := fun hc2 => ?_)
  refine .seq ?_
  refine .region rfl ?_
  first | refine R.loadB O3 (h := ?_) | refine R.load1 O3 (h := ?_)
  refine R.bin (run_lss _ _ _ _ _ _) (h := ?_)
  refine R.move (h := ?_)
  first | refine R.loadB O3 (h := ?_) | refine R.load1 O3 (h := ?_)
  refine R.bin (run_gtr _ _ _ _ _ _) (h := ?_)
  refine R.or (h := ?_)
  refine R.assign (h := ?_)
  refine .n0 ?_
  refine LGo.ifb (ht := fun hc3 => ?_) (hf := fun hc3 => ?_)
  ·
   rw [if_pos hc3] at e1
   rw [← e1]
   refine .seq ?_
   refine .region rfl ?_
   first | refine R.loadA A29 (h := ?_) | refine R.loadN A29 (h := ?_) | refine R.loadP A29 (h := ?_)
   refine R.storeA A29 (h := ?_)
   refine R.storeB O3 (h := ?_)
   refine R.assign (h := ?_)
   refine .n0 ?_
   refine LGo.packNil 4 3 80 3 (h := ?_)
   refine LGo.frzBx 4 (h := ?_)
   refine LGo.packNil 4 5 71 3 (h := ?_)
   refine LGo.frzBx 4 (h := ?_)
   refine LGo.packNil 4 7 40 11 (h := ?_)
   refine LGo.frzBx 4 (h := ?_)
   refine LGo.packNil 4 8 58 3 (h := ?_)
   refine LGo.frzBx 4 (h := ?_)
   exact LGo.ret (ret_ABT Tryz.results22 A29 O3 hA hmd)
  ·
   rw [if_neg (by rw [hc3]; simp)] at e1
   simp only [Bool.or_eq_false_iff, decide_eq_false_iff_not] at hc3
   refine .seq ?_
   refine .region rfl ?_
   first | refine R.loadB O30 (h := ?_) | refine R.load1 O30 (h := ?_)
   first | refine R.loadA A29 (h := ?_) | refine R.loadN A29 (h := ?_) | refine R.loadP A29 (h := ?_)
   first | refine R.field F29_5 (h := ?_) | refine R.fieldAt F29_5 (h := ?_)
   first | refine R.loadB O27 (h := ?_) | refine R.load1 O27 (h := ?_)
   refine R.callX (es := [_]) [0] (cloneEv_L (s.evs.map SrE.c) (se_ones _) (by rw [List.length_map]; omega) (by simpa using hne)) (h := ?_)
   refine R.callX (es := [_, _]) [0] (copied_L s hcp s.evs) (h := ?_)
   refine R.callRd (es := [_]) (first := []) (cap := []) (Hi := []) (m := 0) (out := .b (pf s.evs)) (avs := [.agg (s.c.map LV.sv)]) (by rw [List.append_nil]; exact (hff s.evs (List.Sublist.refl _)).lc) (hL := fun k z hz => by simp at hz) (h := ?_)
   refine R.not (h := ?_)
   refine R.assign (h := ?_)
   refine Reg.nil ⟨fun _ => ⟨mixedO, by rfl, by rfl⟩, ?_⟩
   refine LGo.ifb (ht := fun hc4 => ?_) (hf := fun hc4 => ?_)
   ·
    rw [if_pos hc4] at e1
    rw [← e1]
    refine .seq ?_
    refine .region rfl ?_
    first | refine R.loadA A29 (h := ?_) | refine R.loadN A29 (h := ?_) | refine R.loadP A29 (h := ?_)
    refine R.storeA A29 (h := ?_)
    refine R.storeB O3 (h := ?_)
    refine R.assign (h := ?_)
    refine .n0 ?_
    refine LGo.packNil 4 3 80 3 (h := ?_)
    refine LGo.frzBx 4 (h := ?_)
    refine LGo.packNil 4 5 71 3 (h := ?_)
    refine LGo.frzBx 4 (h := ?_)
    refine LGo.packNil 4 7 40 11 (h := ?_)
    refine LGo.frzBx 4 (h := ?_)
    refine LGo.packNil 4 8 58 3 (h := ?_)
    refine LGo.frzBx 4 (h := ?_)
    exact LGo.ret (ret_ABT Tryz.results22 A29 O3 hA hmd)
   ·
    rw [if_neg (by rw [hc4]; simp)] at e1
    obtain ⟨G, hG⟩ : ∃ G, shrGo pf most (shrM most (max (s.evs.length / 2) 1) 0 + 1) (max (s.evs.length / 2) 1) s.evs 0 = G := ⟨_, rfl⟩
    rw [hG] at e1
    refine .skip ?_
    refine .inBlock ?_
    refine .seq ?_
    refine .region rfl ?_
    first | refine R.field F29_5 (h := ?_) | refine R.fieldAt F29_5 (h := ?_)
    first | refine R.loadB O27 (h := ?_) | refine R.load1 O27 (h := ?_)
    refine R.callX (es := [_]) [0] (cloneEv_L (s.evs.map SrE.c) (se_ones _) (by rw [List.length_map]; omega) (by simpa using hne)) (h := ?_)
    refine R.alloc Z27 (h := ?_)
    refine R.storeB O27 (h := ?_)
    refine .n0 ?_
    refine .seq ?_
    refine .region rfl ?_
    refine R.makeFunc (es := []) (fs := [_, _, _, _, _]) (h := ?_)
    refine R.assign (h := ?_)
    refine .n0 ?_
    refine .seq ?_
    refine .seq ?_
    refine .region rfl ?_
    first | refine R.loadB O27 (h := ?_) | refine R.load1 O27 (h := ?_)
    first | refine R.len S27 (h := ?_) | refine R.lenRs S27 (h := ?_) | refine R.lenV (run_lenNil S27) (h := ?_)
    rw [List.length_map]
    refine R.quo (h := ?_)
    refine R.maxI (h := ?_)
    rw [show max ((s.evs.length : Int) / 2) 1 = ((max (s.evs.length / 2) 1 : Nat) : Int) from by omega]
    refine R.assign (h := ?_)
    refine .n0 ?_
    refine .block ?_
    refine .loop ?_
    refine LGo.loopG (σ := Nat × Nat × List SrE × Int) (fun x => shrM most x.2.1 x.2.2.2 < x.1 ∧ 1 ≤ x.2.1 ∧ x.2.1 ≤ 1000 ∧ x.2.2.1.length ≤ 1000 ∧ x.2.2.1.Sublist s.evs ∧ 0 ≤ x.2.2.2 ∧ x.2.2.2 ≤ most ∧ shrGo pf most x.1 x.2.1 x.2.2.1 x.2.2.2 = G) (fun x => [(11, (true, .i (x.2.1 : Nat)))]) (fun x => [(1, .box 29 (s.cO 0)), (2, .box 30 [.fn (.func ff) [] []]), (3, .box 3 [.i most]), (4, .box 29 [.i 0, .i 0, .i 0, .v (.slice none 0 0), .t [], .v (.slice none 0 0), .i 0, .v (.slice none 0 0), .v (.slice none 0 0)]), (5, .box 3 [.i x.2.2.2]), (6, .box 27 [.sv (.sl 3 (x.2.2.1.map SrE.c))]), (0, .rs 58 3 (s.evs.map SrE.c))]) (fun x => x.1) (shrM most (max (s.evs.length / 2) 1) 0 + 1, max (s.evs.length / 2) 1, s.evs, 0) [(3, _), (5, _), (6, _), (7, _), (9, _), (10, _)] ⟨Nat.lt_succ_self _, by dsimp only; omega, by dsimp only; omega, hel, List.Sublist.refl _, Int.le_refl _, by dsimp only; omega, hG⟩ (by repeat (first | exact trivial | refine ⟨rfl, ?_⟩)) (by repeat (first | exact trivial | refine ⟨rfl, ?_⟩)) (by repeat (first | exact trivial | refine ⟨rfl, ?_⟩)) ?_
    rintro ⟨f, n, cu, tt⟩ ⟨hmf, hn1, hn2, hcl, hsub, ht0, htm, hq⟩ ih
    dsimp only at * 
    obtain ⟨f, rfl⟩ : ∃ f2, f = f2 + 1 := ⟨f - 1, by omega⟩
    rw [shrGo] at hq
    refine .seq ?_
    refine .seq ?_
    refine .region rfl ?_
    first | refine R.loadB O27 (h := ?_) | refine R.load1 O27 (h := ?_)
    first | refine R.len S27 (h := ?_) | refine R.lenRs S27 (h := ?_) | refine R.lenV (run_lenNil S27) (h := ?_)
    rw [List.length_map]
    refine R.bin (run_gtr _ _ _ _ _ _) (h := ?_)
    refine R.move (h := ?_)
    first | refine R.loadB O3 (h := ?_) | refine R.load1 O3 (h := ?_)
    first | refine R.loadB O3 (h := ?_) | refine R.load1 O3 (h := ?_)
    refine R.bin (run_lss _ _ _ _ _ _) (h := ?_)
    refine R.and (h := ?_)
    refine .n0 ?_
    refine LGo.ifb (ht := fun hc5 => ?_) (hf := fun hc5 => ?_)
    ·
     simp only [Bool.and_eq_true, decide_eq_true_eq] at hc5
     have hcc : 0 < cu.length ∧ tt < most := by omega
     rw [if_pos hcc] at hq
     have hr := rndGo_ok pf most n (cu.length + 1) cu.length cu tt false
     have hst := fun h => shr_step pf most hn1 hcc h
     have hL := roundO_L s hcp (ff := ff) (first := []) (pf := pf) s.evs rfl hff n hn1 hn2 most (by omega) cu hcl hsub tt (by omega)
     generalize rndGo pf most n (cu.length + 1) cu.length cu tt false = rr at hq hr hst hL
     obtain ⟨cu2, tt2, kp2⟩ := rr
     dsimp only at hq hr hst hL
     refine .skip ?_
     refine .seq ?_
     refine .block ?_
     refine .seq ?_
     refine .region rfl ?_
     refine R.move (h := ?_)
     refine R.move (h := ?_)
     refine R.callX (es := [_]) (first := []) (cap := [_, _, _, _, _]) [6, 5, 3, 2, 1, 0] hL (h := ?_)
     refine R.assign (h := ?_)
     refine .n0 ?_
     refine .seq ?_
     refine .region rfl ?_
     refine R.move (h := ?_)
     refine R.not (h := ?_)
     refine R.move (h := ?_)
     refine R.move (h := ?_)
     refine R.bin (run_eql _ _ _ _ _ _) (h := ?_)
     rw [show decide ((n : Int) = 1) = decide (n = 1) from by rw [decide_eq_decide]; omega]
     refine R.and (h := ?_)
     refine .n0 ?_
     refine LGo.ifb (ht := fun hc6 => ?_) (hf := fun hc6 => ?_)
     ·
      rw [if_pos (by simpa using hc6)] at hq
      refine .exit rfl ?_
      refine .seq ?_
      refine .region rfl ?_
      first | refine R.loadA A29 (h := ?_) | refine R.loadN A29 (h := ?_) | refine R.loadP A29 (h := ?_)
      first | refine R.loadB O27 (h := ?_) | refine R.load1 O27 (h := ?_)
      refine R.callX (es := [_, _]) [0] (copied_L s hcp _) (h := ?_)
      first | refine R.loadB O3 (h := ?_) | refine R.load1 O3 (h := ?_)
      refine R.storeA A29 (h := ?_)
      refine R.storeB O3 (h := ?_)
      refine R.assign (h := ?_)
      refine Reg.nil ⟨fun _ => ⟨mixedO, by rfl, by rfl⟩, ?_⟩
      rw [← hq] at e1
      rw [← e1]
      exact LGo.ret (ret_ABT Tryz.results22 A29 O3 hA hmd)
     ·
      have hk6 : ¬ (kp2 = false ∧ n = 1) := fun h => by rw [h.1, h.2] at hc6; simp at hc6
      rw [if_neg hk6] at hq
      have hsf : shrM most (max (n / 2) 1) tt2 < f := by have := hst hk6; omega
      refine .skip ?_
      refine .inBlock ?_
      refine .region rfl ?_
      refine R.move (h := ?_)
      refine R.quo (h := ?_)
      refine R.maxI (h := ?_)
      rw [show max ((n : Int) / 2) 1 = ((max (n / 2) 1 : Nat) : Int) from by omega]
      refine R.assign (h := ?_)
      refine .n0 ?_
      refine .inLoop ?_
      exact LGo.next _ (fun o h => by have := (hA o).1 h; omega) (by omega) (ih (f, max (n / 2) 1, cu2, tt2) ⟨hsf, by dsimp only; omega, by dsimp only; omega, by have h := hr.sub.length_le; dsimp only at h ⊢; omega, hr.sub.trans hsub, by have h := hr.le; dsimp only at h ⊢; omega, hr.mx htm, hq⟩ (by dsimp only; omega)) (by repeat (first | exact trivial | refine ⟨rfl, ?_⟩)) ⟨rfl, rfl, rfl, rfl, rfl, rfl, rfl, trivial⟩
    ·
     rw [if_neg (fun h => by rw [decide_eq_true h.2, decide_eq_true (show (cu.length : Int) > 0 by omega)] at hc5; simp at hc5)] at hq
     refine .exit rfl ?_
     refine .seq ?_
     refine .region rfl ?_
     first | refine R.loadA A29 (h := ?_) | refine R.loadN A29 (h := ?_) | refine R.loadP A29 (h := ?_)
     first | refine R.loadB O27 (h := ?_) | refine R.load1 O27 (h := ?_)
     refine R.callX (es := [_, _]) [0] (copied_L s hcp _) (h := ?_)
     first | refine R.loadB O3 (h := ?_) | refine R.load1 O3 (h := ?_)
     refine R.storeA A29 (h := ?_)
     refine R.storeB O3 (h := ?_)
     refine R.assign (h := ?_)
     refine Reg.nil ⟨fun _ => ⟨mixedO, by rfl, by rfl⟩, ?_⟩
     rw [← hq] at e1
     rw [← e1]
     exact LGo.ret (ret_ABT Tryz.results22 A29 O3 hA hmd)

end Go.Proofs.YteccglgbkehdeaaGreatDoor
/- scripts: what is far; faults. -/
set_option linter.unusedSimpArgs false
set_option linter.unusedVariables false
namespace Go.Proofs.YteccglgbkehdeaaGreatDoor

def manyS (e c : Int) : Bool := (((decide (e > 100) && decide (e ≤ 1000)) || decide (e > 1100)) || (decide (c > 20) && decide (c ≤ 60))) || decide (c > 70)
def farS (s : Sc) : Bool :=
  if ((s.ven.secs.take 11).any fun x => decide ((x.name.length : Int) > 100) || decide ((x.rows.length : Int) > 20)) = true then true else
  if ((s.gates.take 11).any fun x => decide ((x.secs.length : Int) > 10)) = true then true else
  if ((s.calls.take 70).any fun x => decide ((x.raw.length : Int) > 700)) = true then true else
  ((manyS s.evs.length s.calls.length || decide ((s.ven.secs.length : Int) > 10)) || decide ((s.gates.length : Int) > 10)) || decide ((s.key.length : Int) > 200)
theorem drop_take {α : Type} {l : List α} {n k : Nat} (h : k < l.length) (hn : k < n) : (l.take n).drop k = l[k] :: (l.take n).drop (k + 1) := by
  rw [List.drop_eq_getElem_cons (by rw [List.length_take]; omega), List.getElem_take]
/-- scripts as0 they are read -/
structure Sc.ok (s : Sc) : Prop where
  n1 : R64 s.ven.shards
  n2 : R64 s.ven.ttl
  n3 : R64 s.ven.session
  vl : s.ven.secs.length ≤ maxLen
  vs : ∀ x ∈ s.ven.secs, x.name.length ≤ maxLen ∧ x.rows.length ≤ maxLen ∧ (∀ n ∈ x.rows, R64 n) ∧ R64 x.queue
  key : s.key.length ≤ maxLen
  gl : s.gates.length ≤ maxLen
  gs : ∀ x ∈ s.gates, x.ok
  w : R64 s.workers
  cl : s.calls.length ≤ maxLen
  cs : ∀ c ∈ s.calls, c.ok
  el : s.evs.length ≤ maxLen
  es : ∀ x ∈ s.evs, R64 x.kind ∧ R64 x.a ∧ R64 x.b

theorem far_P (s : Sc) (hs : s.ok) : PC Tryz.prog 12 [.agg (s.c.map LV.sv)] (.b (farS s)) := by
 refine ⟨LC.of_go Tryz.func12 (c := _) rfl (by kernel_rfl) (by rw [Tryz.ntmps12]; simp) rfl rfl (by simp [LO.lt, LV.lts, LV.lt, lts_sv]) (by simp) ?_⟩
 intro B hA hmd
 obtain ⟨g, e0⟩ : ∃ g, farS s = g := ⟨_, rfl⟩
 have e1 := e0
 unfold farS at e1
 rw [e0]
 have b1 := hs.vl
 have b2 := hs.gl
 have b3 := hs.cl
 have b4 := hs.el
 have b5 := hs.key
 unfold maxLen at b1 b2 b3 b4 b5
 refine .seq ?_
 refine .region rfl ?_
 refine R.box (h := ?_)
 refine R.assign (h := ?_)
 refine .n0 ?_
 refine .seq ?_
 refine .seq ?_
 refine .region rfl ?_
 refine R.assign (h := ?_)
 refine .n0 ?_
 refine .block ?_
 refine .loop ?_
 refine LGo.loopG (σ := Nat) (fun x => x ≤ s.ven.secs.length ∧ x ≤ 11 ∧ (if (((s.ven.secs.take 11).drop x).any fun x => decide ((x.name.length : Int) > 100) || decide ((x.rows.length : Int) > 20)) = true then true else if ((s.gates.take 11).any fun x => decide ((x.secs.length : Int) > 10)) = true then true else if ((s.calls.take 70).any fun x => decide ((x.raw.length : Int) > 700)) = true then true else ((manyS s.evs.length s.calls.length || decide ((s.ven.secs.length : Int) > 10)) || decide ((s.gates.length : Int) > 10)) || decide ((s.key.length : Int) > 200)) = g) (fun x => [(3, (true, .i (x : Nat)))]) (fun x => [(0, .box 29 (s.c.map LV.sv))]) (fun x => s.ven.secs.length - x) (0) [(1, _)] ⟨Nat.zero_le _, Nat.zero_le _, e1⟩ (by repeat (first | exact trivial | refine ⟨rfl, ?_⟩)) (by repeat (first | exact trivial | refine ⟨rfl, ?_⟩)) (by repeat (first | exact trivial | refine ⟨rfl, ?_⟩)) ?_
 rintro k ⟨hk, hk2, hq⟩ ih
 refine .seq ?_
 refine .seq ?_
 refine .region rfl ?_
 refine R.move (h := ?_)
 first | refine R.field F29_0 (h := ?_) | refine R.fieldAt F29_0 (h := ?_)
 first | refine R.field F24_3 (h := ?_) | refine R.fieldAt F24_3 (h := ?_)
 first | refine R.loadB O22 (h := ?_) | refine R.load1 O22 (h := ?_)
 first | refine R.len S22 (h := ?_) | refine R.lenRs S22 (h := ?_) | refine R.lenV (run_lenNil S22) (h := ?_)
 rw [List.length_map]
 refine R.bin (run_lss _ _ _ _ _ _) (h := ?_)
 refine R.move (h := ?_)
 refine R.move (h := ?_)
 refine R.bin (run_lss _ _ _ _ _ _) (h := ?_)
 refine R.and (h := ?_)
 refine .n0 ?_
 refine LGo.ifb (ht := fun hc => ?_) (hf := fun hc => ?_)
 ·
  have hcc := hc
  have hzs := hs.vs
  have hkn : k < s.ven.secs.length ∧ k < 11 := by simp only [Bool.and_eq_true, decide_eq_true_eq] at hcc; omega
  have hx : (s.ven.secs.map VnS.c)[((k : Nat) : Int).toNat]? = some s.ven.secs[k].c := by simp [hkn.1]
  rw [drop_take hkn.1 hkn.2, List.any_cons] at hq
  have hzok := hzs s.ven.secs[k] (List.getElem_mem hkn.1)
  generalize s.ven.secs[k] = z at hx hq hzok
  obtain ⟨z1, z2, z3, z4⟩ := hzok
  unfold maxLen at z1 z2
  refine .skip ?_
  refine .seq ?_
  refine .block ?_
  refine .seq ?_
  refine .region rfl ?_
  first | refine R.field F29_0 (h := ?_) | refine R.fieldAt F29_0 (h := ?_)
  first | refine R.field F24_3 (h := ?_) | refine R.fieldAt F24_3 (h := ?_)
  first | refine R.loadB O22 (h := ?_) | refine R.load1 O22 (h := ?_)
  refine R.move (h := ?_)
  refine R.index I22 (hj := fun hg => ⟨by omega, hx⟩) (h := ?_)
  first | refine R.field F80_0 (h := ?_) | refine R.fieldAt F80_0 (h := ?_)
  first | refine R.loadB O9 (h := ?_) | refine R.load1 O9 (h := ?_)
  refine R.lenT Tryz.runUnderlying9 (h := ?_)
  refine R.bin (run_gtr _ _ _ _ _ _) (h := ?_)
  refine R.move (h := ?_)
  first | refine R.field F29_0 (h := ?_) | refine R.fieldAt F29_0 (h := ?_)
  first | refine R.field F24_3 (h := ?_) | refine R.fieldAt F24_3 (h := ?_)
  first | refine R.loadB O22 (h := ?_) | refine R.load1 O22 (h := ?_)
  refine R.move (h := ?_)
  refine R.index I22 (hj := fun hg => ⟨by (simp at hg; omega), hx⟩) (h := ?_)
  first | refine R.field F80_1 (h := ?_) | refine R.fieldAt F80_1 (h := ?_)
  first | refine R.loadB O65 (h := ?_) | refine R.load1 O65 (h := ?_)
  first | refine R.len S65 (h := ?_) | refine R.lenRs S65 (h := ?_) | refine R.lenV (run_lenNil S65) (h := ?_)
  rw [ic_len]
  refine R.bin (run_gtr _ _ _ _ _ _) (h := ?_)
  refine R.or (h := ?_)
  refine .n0 ?_
  refine LGo.ifb (ht := fun hc2 => ?_) (hf := fun hc2 => ?_)
  ·
   rw [hc2, Bool.true_or, if_pos rfl] at hq
   rw [← hq]
   refine .seq ?_
   refine .region rfl ?_
   refine R.assign (h := ?_)
   refine .n0 ?_
   exact LGo.ret (ret_T Tryz.results12 hA hmd)
  ·
   rw [hc2, Bool.false_or] at hq
   refine .skip ?_
   refine .inBlock ?_
   refine .region rfl ?_
   refine R.move (h := ?_)
   first | refine R.add (h := ?_) | refine R.addW (h := ?_)
   refine R.assign (h := ?_)
   refine .n0 ?_
   refine .inLoop ?_
   exact LGo.next _ (fun o h => by have := (hA o).1 h; omega) (by omega) (ih (k + 1) ⟨by omega, by omega, hq⟩ (by omega)) (by repeat (first | exact trivial | refine ⟨rfl, ?_⟩)) ⟨rfl, trivial⟩
 ·
  rw [List.drop_eq_nil_of_le (show (s.ven.secs.take 11).length ≤ k by rw [List.length_take]; simp only [Bool.and_eq_false_iff, decide_eq_false_iff_not] at hc; omega), List.any_nil, if_neg (by simp)] at hq
  have e1 := hq
  clear hq
  refine .exit rfl ?_
  refine .seq ?_
  refine .seq ?_
  refine .region rfl ?_
  refine R.assign (h := ?_)
  refine .n0 ?_
  refine .block ?_
  refine .loop ?_
  refine LGo.loopG (σ := Nat) (fun x => x ≤ s.gates.length ∧ x ≤ 11 ∧ (if (((s.gates.take 11).drop x).any fun x => decide ((x.secs.length : Int) > 10)) = true then true else if ((s.calls.take 70).any fun x => decide ((x.raw.length : Int) > 700)) = true then true else ((manyS s.evs.length s.calls.length || decide ((s.ven.secs.length : Int) > 10)) || decide ((s.gates.length : Int) > 10)) || decide ((s.key.length : Int) > 200)) = g) (fun x => [(4, (true, .i (x : Nat)))]) (fun x => [(0, .box 29 (s.c.map LV.sv))]) (fun x => s.gates.length - x) (0) [(1, _)] ⟨Nat.zero_le _, Nat.zero_le _, e1⟩ (by repeat (first | exact trivial | refine ⟨rfl, ?_⟩)) (by repeat (first | exact trivial | refine ⟨rfl, ?_⟩)) (by repeat (first | exact trivial | refine ⟨rfl, ?_⟩)) ?_
  rintro k ⟨hk, hk2, hq⟩ ih2
  refine .seq ?_
  refine .seq ?_
  refine .region rfl ?_
  refine R.move (h := ?_)
  first | refine R.field F29_2 (h := ?_) | refine R.fieldAt F29_2 (h := ?_)
  first | refine R.loadB O25 (h := ?_) | refine R.load1 O25 (h := ?_)
  first | refine R.len S25 (h := ?_) | refine R.lenRs S25 (h := ?_) | refine R.lenV (run_lenNil S25) (h := ?_)
  rw [List.length_map]
  refine R.bin (run_lss _ _ _ _ _ _) (h := ?_)
  refine R.move (h := ?_)
  refine R.move (h := ?_)
  refine R.bin (run_lss _ _ _ _ _ _) (h := ?_)
  refine R.and (h := ?_)
  refine .n0 ?_
  refine LGo.ifb (ht := fun hc3 => ?_) (hf := fun hc3 => ?_)
  ·
   have hcc := hc3
   have hzs := hs.gs
   have hkn : k < s.gates.length ∧ k < 11 := by simp only [Bool.and_eq_true, decide_eq_true_eq] at hcc; omega
   have hx : (s.gates.map GtG.c)[((k : Nat) : Int).toNat]? = some s.gates[k].c := by simp [hkn.1]
   rw [drop_take hkn.1 hkn.2, List.any_cons] at hq
   have hzok := hzs s.gates[k] (List.getElem_mem hkn.1)
   generalize s.gates[k] = z at hx hq hzok
   obtain ⟨z1, _⟩ := hzok
   unfold maxLen at z1
   refine .skip ?_
   refine .seq ?_
   refine .block ?_
   refine .seq ?_
   refine .region rfl ?_
   first | refine R.field F29_2 (h := ?_) | refine R.fieldAt F29_2 (h := ?_)
   first | refine R.loadB O25 (h := ?_) | refine R.load1 O25 (h := ?_)
   refine R.move (h := ?_)
   refine R.index I25 (hj := fun hg => ⟨by omega, hx⟩) (h := ?_)
   first | refine R.field F71_0 (h := ?_) | refine R.fieldAt F71_0 (h := ?_)
   first | refine R.loadB O65 (h := ?_) | refine R.load1 O65 (h := ?_)
   first | refine R.len S65 (h := ?_) | refine R.lenRs S65 (h := ?_) | refine R.lenV (run_lenNil S65) (h := ?_)
   rw [ic_len]
   refine R.bin (run_gtr _ _ _ _ _ _) (h := ?_)
   refine .n0 ?_
   refine LGo.ifd (ht := fun hc4 => ?_) (hf := fun hc4 => ?_)
   ·
    rw [decide_eq_true hc4, Bool.true_or, if_pos rfl] at hq
    rw [← hq]
    refine .seq ?_
    refine .region rfl ?_
    refine R.assign (h := ?_)
    refine .n0 ?_
    exact LGo.ret (ret_T Tryz.results12 hA hmd)
   ·
    rw [decide_eq_false hc4, Bool.false_or] at hq
    refine .skip ?_
    refine .inBlock ?_
    refine .region rfl ?_
    refine R.move (h := ?_)
    first | refine R.add (h := ?_) | refine R.addW (h := ?_)
    refine R.assign (h := ?_)
    refine .n0 ?_
    refine .inLoop ?_
    exact LGo.next _ (fun o h => by have := (hA o).1 h; omega) (by omega) (ih2 (k + 1) ⟨by omega, by omega, hq⟩ (by omega)) (by repeat (first | exact trivial | refine ⟨rfl, ?_⟩)) ⟨rfl, trivial⟩
  ·
   rw [List.drop_eq_nil_of_le (show (s.gates.take 11).length ≤ k by rw [List.length_take]; simp only [Bool.and_eq_false_iff, decide_eq_false_iff_not] at hc3; omega), List.any_nil, if_neg (by simp)] at hq
   have e1 := hq
   clear hq
   refine .exit rfl ?_
   refine .seq ?_
   refine .seq ?_
   refine .region rfl ?_
   refine R.assign (h := ?_)
   refine .n0 ?_
   refine .block ?_
   refine .loop ?_
   refine LGo.loopG (σ := Nat) (fun x => x ≤ s.calls.length ∧ x ≤ 70 ∧ (if (((s.calls.take 70).drop x).any fun x => decide ((x.raw.length : Int) > 700)) = true then true else ((manyS s.evs.length s.calls.length || decide ((s.ven.secs.length : Int) > 10)) || decide ((s.gates.length : Int) > 10)) || decide ((s.key.length : Int) > 200)) = g) (fun x => [(5, (true, .i (x : Nat)))]) (fun x => [(0, .box 29 (s.c.map LV.sv))]) (fun x => s.calls.length - x) (0) [(1, _)] ⟨Nat.zero_le _, Nat.zero_le _, e1⟩ (by repeat (first | exact trivial | refine ⟨rfl, ?_⟩)) (by repeat (first | exact trivial | refine ⟨rfl, ?_⟩)) (by repeat (first | exact trivial | refine ⟨rfl, ?_⟩)) ?_
   rintro k ⟨hk, hk2, hq⟩ ih3
   refine .seq ?_
   refine .seq ?_
   refine .region rfl ?_
   refine R.move (h := ?_)
   first | refine R.field F29_4 (h := ?_) | refine R.fieldAt F29_4 (h := ?_)
   first | refine R.loadB O26 (h := ?_) | refine R.load1 O26 (h := ?_)
   first | refine R.len S26 (h := ?_) | refine R.lenRs S26 (h := ?_) | refine R.lenV (run_lenNil S26) (h := ?_)
   rw [List.length_map]
   refine R.bin (run_lss _ _ _ _ _ _) (h := ?_)
   refine R.move (h := ?_)
   refine R.move (h := ?_)
   refine R.bin (run_lss _ _ _ _ _ _) (h := ?_)
   refine R.and (h := ?_)
   refine .n0 ?_
   refine LGo.ifb (ht := fun hc5 => ?_) (hf := fun hc5 => ?_)
   ·
    have hcc := hc5
    have hzs := hs.cs
    have hkn : k < s.calls.length ∧ k < 70 := by simp only [Bool.and_eq_true, decide_eq_true_eq] at hcc; omega
    have hx : (s.calls.map SrC.c)[((k : Nat) : Int).toNat]? = some s.calls[k].c := by simp [hkn.1]
    rw [drop_take hkn.1 hkn.2, List.any_cons] at hq
    have hzok := hzs s.calls[k] (List.getElem_mem hkn.1)
    generalize s.calls[k] = z at hx hq hzok
    have z1 := hzok.raw
    unfold maxLen at z1
    refine .skip ?_
    refine .seq ?_
    refine .block ?_
    refine .seq ?_
    refine .region rfl ?_
    first | refine R.field F29_4 (h := ?_) | refine R.fieldAt F29_4 (h := ?_)
    first | refine R.loadB O26 (h := ?_) | refine R.load1 O26 (h := ?_)
    refine R.move (h := ?_)
    refine R.index I26 (hj := fun hg => ⟨by omega, hx⟩) (h := ?_)
    first | refine R.field F40_10 (h := ?_) | refine R.fieldAt F40_10 (h := ?_)
    first | refine R.loadB O9 (h := ?_) | refine R.load1 O9 (h := ?_)
    refine R.lenT Tryz.runUnderlying9 (h := ?_)
    refine R.bin (run_gtr _ _ _ _ _ _) (h := ?_)
    refine .n0 ?_
    refine LGo.ifd (ht := fun hc6 => ?_) (hf := fun hc6 => ?_)
    ·
     rw [decide_eq_true hc6, Bool.true_or, if_pos rfl] at hq
     rw [← hq]
     refine .seq ?_
     refine .region rfl ?_
     refine R.assign (h := ?_)
     refine .n0 ?_
     exact LGo.ret (ret_T Tryz.results12 hA hmd)
    ·
     rw [decide_eq_false hc6, Bool.false_or] at hq
     refine .skip ?_
     refine .inBlock ?_
     refine .region rfl ?_
     refine R.move (h := ?_)
     first | refine R.add (h := ?_) | refine R.addW (h := ?_)
     refine R.assign (h := ?_)
     refine .n0 ?_
     refine .inLoop ?_
     exact LGo.next _ (fun o h => by have := (hA o).1 h; omega) (by omega) (ih3 (k + 1) ⟨by omega, by omega, hq⟩ (by omega)) (by repeat (first | exact trivial | refine ⟨rfl, ?_⟩)) ⟨rfl, trivial⟩
   ·
    rw [List.drop_eq_nil_of_le (show (s.calls.take 70).length ≤ k by rw [List.length_take]; simp only [Bool.and_eq_false_iff, decide_eq_false_iff_not] at hc5; omega), List.any_nil, if_neg (by simp)] at hq
    have e1 := hq
    clear hq
    refine .exit rfl ?_
    refine .seq ?_
    refine .region rfl ?_
    first | refine R.field F29_5 (h := ?_) | refine R.fieldAt F29_5 (h := ?_)
    first | refine R.loadB O27 (h := ?_) | refine R.load1 O27 (h := ?_)
    first | refine R.len S27 (h := ?_) | refine R.lenRs S27 (h := ?_) | refine R.lenV (run_lenNil S27) (h := ?_)
    rw [List.length_map]
    refine R.bin (run_gtr _ _ _ _ _ _) (h := ?_)
    refine R.move (h := ?_)
    first | refine R.field F29_5 (h := ?_) | refine R.fieldAt F29_5 (h := ?_)
    first | refine R.loadB O27 (h := ?_) | refine R.load1 O27 (h := ?_)
    first | refine R.len S27 (h := ?_) | refine R.lenRs S27 (h := ?_) | refine R.lenV (run_lenNil S27) (h := ?_)
    rw [List.length_map]
    refine R.bin (run_leq _ _ _ _ _ _) (h := ?_)
    refine R.and (h := ?_)
    refine R.move (h := ?_)
    first | refine R.field F29_5 (h := ?_) | refine R.fieldAt F29_5 (h := ?_)
    first | refine R.loadB O27 (h := ?_) | refine R.load1 O27 (h := ?_)
    first | refine R.len S27 (h := ?_) | refine R.lenRs S27 (h := ?_) | refine R.lenV (run_lenNil S27) (h := ?_)
    rw [List.length_map]
    refine R.bin (run_gtr _ _ _ _ _ _) (h := ?_)
    refine R.or (h := ?_)
    refine R.move (h := ?_)
    first | refine R.field F29_4 (h := ?_) | refine R.fieldAt F29_4 (h := ?_)
    first | refine R.loadB O26 (h := ?_) | refine R.load1 O26 (h := ?_)
    first | refine R.len S26 (h := ?_) | refine R.lenRs S26 (h := ?_) | refine R.lenV (run_lenNil S26) (h := ?_)
    rw [List.length_map]
    refine R.bin (run_gtr _ _ _ _ _ _) (h := ?_)
    refine R.move (h := ?_)
    first | refine R.field F29_4 (h := ?_) | refine R.fieldAt F29_4 (h := ?_)
    first | refine R.loadB O26 (h := ?_) | refine R.load1 O26 (h := ?_)
    first | refine R.len S26 (h := ?_) | refine R.lenRs S26 (h := ?_) | refine R.lenV (run_lenNil S26) (h := ?_)
    rw [List.length_map]
    refine R.bin (run_leq _ _ _ _ _ _) (h := ?_)
    refine R.and (h := ?_)
    refine R.or (h := ?_)
    refine R.move (h := ?_)
    first | refine R.field F29_4 (h := ?_) | refine R.fieldAt F29_4 (h := ?_)
    first | refine R.loadB O26 (h := ?_) | refine R.load1 O26 (h := ?_)
    first | refine R.len S26 (h := ?_) | refine R.lenRs S26 (h := ?_) | refine R.lenV (run_lenNil S26) (h := ?_)
    rw [List.length_map]
    refine R.bin (run_gtr _ _ _ _ _ _) (h := ?_)
    refine R.or (h := ?_)
    refine R.assign (h := ?_)
    refine .n0 ?_
    refine .seq ?_
    refine .region rfl ?_
    refine R.move (h := ?_)
    refine R.move (h := ?_)
    first | refine R.field F29_0 (h := ?_) | refine R.fieldAt F29_0 (h := ?_)
    first | refine R.field F24_3 (h := ?_) | refine R.fieldAt F24_3 (h := ?_)
    first | refine R.loadB O22 (h := ?_) | refine R.load1 O22 (h := ?_)
    first | refine R.len S22 (h := ?_) | refine R.lenRs S22 (h := ?_) | refine R.lenV (run_lenNil S22) (h := ?_)
    rw [List.length_map]
    refine R.bin (run_gtr _ _ _ _ _ _) (h := ?_)
    refine R.or (h := ?_)
    refine R.move (h := ?_)
    first | refine R.field F29_2 (h := ?_) | refine R.fieldAt F29_2 (h := ?_)
    first | refine R.loadB O25 (h := ?_) | refine R.load1 O25 (h := ?_)
    first | refine R.len S25 (h := ?_) | refine R.lenRs S25 (h := ?_) | refine R.lenV (run_lenNil S25) (h := ?_)
    rw [List.length_map]
    refine R.bin (run_gtr _ _ _ _ _ _) (h := ?_)
    refine R.or (h := ?_)
    refine R.move (h := ?_)
    first | refine R.field F29_1 (h := ?_) | refine R.fieldAt F29_1 (h := ?_)
    first | refine R.loadB O9 (h := ?_) | refine R.load1 O9 (h := ?_)
    refine R.lenT Tryz.runUnderlying9 (h := ?_)
    refine R.bin (run_gtr _ _ _ _ _ _) (h := ?_)
    refine R.or (h := ?_)
    refine R.assign (h := ?_)
    refine .n0 ?_
    subst e1
    exact LGo.ret (ret_T Tryz.results12 hA hmd)

/-- scripts that are not far -/
structure Sc.near (s : Sc) : Prop where
  vl : s.ven.secs.length ≤ 10
  vs : ∀ x ∈ s.ven.secs, x.name.length ≤ 100 ∧ x.rows.length ≤ 20
  gl : s.gates.length ≤ 10
  gs : ∀ x ∈ s.gates, x.secs.length ≤ 10
  key : s.key.length ≤ 200
  cl : s.calls.length ≤ 20 ∨ 61 ≤ s.calls.length ∧ s.calls.length ≤ 70
  cs : ∀ c ∈ s.calls, c.raw.length ≤ 700
  el : s.evs.length ≤ 100 ∨ 1001 ≤ s.evs.length ∧ s.evs.length ≤ 1100
theorem far_near {s : Sc} (h : farS s = false) : s.near := by
  unfold farS at h
  split at h
  · cases h
  rename_i h1
  split at h
  · cases h
  rename_i h2
  split at h
  · cases h
  rename_i h3
  unfold manyS at h
  simp only [Bool.or_eq_false_iff, Bool.and_eq_false_iff, decide_eq_false_iff_not] at h
  obtain ⟨⟨⟨⟨⟨⟨h4, h5⟩, h6⟩, h7⟩, h8⟩, h9⟩, h10⟩ := h
  simp only [List.any_eq_true, not_exists, not_and, Bool.not_eq_true, Bool.or_eq_false_iff, decide_eq_false_iff_not] at h1 h2 h3
  rw [List.take_of_length_le (by omega)] at h1 h2 h3
  refine ⟨by omega, fun x hx => ?_, by omega, fun x hx => ?_, by omega, by omega, fun x hx => ?_, by omega⟩
  · have := h1 x hx; omega
  · have := h2 x hx; omega
  · have := h3 x hx; omega
theorem Sc.ok.sm {s : Sc} (h : s.ok) (hn : s.near) : s.sm := by
  have h1 := h.key
  have h2 := h.cl
  have h3 := h.el
  exact ⟨⟨by have := hn.vl; omega, fun x hx => by have := (hn.vs x hx).1; omega⟩, by have := hn.gl; omega, fun x hx => by have := hn.gs x hx; omega, h1, h2, h.cs, h3⟩
theorem Sc.near.cp {s : Sc} (hn : s.near) : s.cp :=
  ⟨by have := hn.vl; omega, fun x hx => by have := (hn.vs x hx).2; omega, by have := hn.gl; omega, fun x hx => by have := hn.gs x hx; omega, by have := hn.cl; omega⟩
theorem bytes_getD {l : List UInt8} {k : Nat} (h : k < l.length) : (bytesC l)[((k : Nat) : Int).toNat]? = some [.val (.int .u8 ((l.getD k 0).toNat : Int))] := by
  rw [Int.toNat_natCast, bytesC, List.getElem?_map, List.getElem?_eq_getElem h, List.getD_eq_getElem?_getD, List.getElem?_eq_getElem h]
  rfl
theorem fStep_eq (ks : List UInt8) (p : Nat) (sm : Int) (x : SrE) : fStep ks (p, sm) x = ((if p < ks.length ∧ x.kind = 1 + (((ks.getD p 0).toNat % 4 : Nat) : Int) then p + 1 else p), (if x.kind = 4 then sm + x.a else sm)) := rfl

theorem fails_P (s : Sc) (hl : s.evs.length ≤ 1000) (hev : ∀ x ∈ s.evs, x.kind = 4 → 0 ≤ x.a ∧ x.a ≤ 1000000000) (ks : List UInt8) (hks : ks.length ≤ 100000) (least : Int) : PC Tryz.prog 89 [.agg (s.c.map LV.sv), .sv (.sl 1 (bytesC ks)), .i least] (.b (failsP ks least s.evs)) := by
 refine ⟨LC.of_go Tryz.func89 (c := _) rfl (by kernel_rfl) (by rw [Tryz.ntmps89]; simp) rfl rfl (by simp [LO.lt, LV.lts, LV.lt, lts_sv]) (by simp) ?_⟩
 intro B hA hmd
 unfold failsP
 obtain ⟨G, hG⟩ : ∃ G, s.evs.foldl (fStep ks) (0, 0) = G := ⟨_, rfl⟩
 rw [hG]
 refine .seq ?_
 refine .region rfl ?_
 refine R.box (h := ?_)
 refine R.assign (h := ?_)
 refine .n0 ?_
 refine .seq ?_
 refine .region rfl ?_
 refine R.assign (h := ?_)
 refine R.assign (h := ?_)
 refine .n0 ?_
 refine .seq ?_
 refine .seq ?_
 refine .region rfl ?_
 refine R.assign (h := ?_)
 refine .n0 ?_
 refine .block ?_
 refine .loop ?_
 refine LGo.loopG (σ := Nat × Nat × Int) (fun x => x.1 ≤ s.evs.length ∧ x.2.1 ≤ ks.length ∧ 0 ≤ x.2.2 ∧ x.2.2 ≤ 1000000000 * x.1 ∧ (s.evs.drop x.1).foldl (fStep ks) (x.2.1, x.2.2) = G) (fun x => [(9, (true, .i (x.1 : Nat))), (7, (true, .i (x.2.1 : Nat))), (8, (true, .i x.2.2))]) (fun x => [(0, .box 29 (s.c.map LV.sv))]) (fun x => s.evs.length - x.1) (0, 0, 0) [(1, _), (2, _), (3, _)] ⟨Nat.zero_le _, Nat.zero_le _, Int.le_refl _, Int.le_refl _, hG⟩ (by repeat (first | exact trivial | refine ⟨rfl, ?_⟩)) (by repeat (first | exact trivial | refine ⟨rfl, ?_⟩)) (by repeat (first | exact trivial | refine ⟨rfl, ?_⟩)) ?_
 rintro ⟨k, p, sm⟩ ⟨hk, hp, hs0, hs1, hq⟩ ih
 dsimp only at * 
 refine .seq ?_
 refine .seq ?_
 refine .region rfl ?_
 refine R.move (h := ?_)
 first | refine R.field F29_5 (h := ?_) | refine R.fieldAt F29_5 (h := ?_)
 first | refine R.loadB O27 (h := ?_) | refine R.load1 O27 (h := ?_)
 first | refine R.len S27 (h := ?_) | refine R.lenRs S27 (h := ?_) | refine R.lenV (run_lenNil S27) (h := ?_)
 rw [List.length_map]
 refine R.bin (run_lss _ _ _ _ _ _) (h := ?_)
 refine .n0 ?_
 refine LGo.ifd (ht := fun hc => ?_) (hf := fun hc => ?_)
 ·
  have hlt : k < s.evs.length := by omega
  have hx : (s.evs.map SrE.c)[((k : Nat) : Int).toNat]? = some s.evs[k].c := by simp [hlt]
  have hd : s.evs.drop k = s.evs[k] :: s.evs.drop (k + 1) := List.drop_eq_getElem_cons hlt
  rw [hd, List.foldl_cons] at hq
  have hza := hev _ (List.getElem_mem hlt)
  generalize s.evs[k] = z at hx hq hza
  clear hd
  have hbl := (ks.getD p 0).toNat_lt
  refine .skip ?_
  refine .seq ?_
  refine .block ?_
  refine .seq ?_
  refine .region rfl ?_
  first | refine R.field F29_5 (h := ?_) | refine R.fieldAt F29_5 (h := ?_)
  first | refine R.loadB O27 (h := ?_) | refine R.load1 O27 (h := ?_)
  refine R.move (h := ?_)
  refine R.index I27 (hj := fun hg => ⟨by omega, hx⟩) (h := ?_)
  first | refine R.loadA A58 (h := ?_) | refine R.loadN A58 (h := ?_) | refine R.loadP A58 (h := ?_)
  refine R.alloc Z58 (h := ?_)
  refine R.storeA A58 (h := ?_)
  refine .n0 ?_
  refine .seq ?_
  refine .seq ?_
  refine .region rfl ?_
  first | refine R.field F58_0 (h := ?_) | refine R.fieldAt F58_0 (h := ?_)
  first | refine R.loadB O3 (h := ?_) | refine R.load1 O3 (h := ?_)
  refine R.bin (run_eql _ _ _ _ _ _) (h := ?_)
  refine .n0 ?_
  refine LGo.ifd (ht := fun hc2 => ?_) (hf := fun hc2 => ?_)
  ·
   have hza := hza hc2
   refine .region rfl ?_
   refine R.move (h := ?_)
   first | refine R.field F58_1 (h := ?_) | refine R.fieldAt F58_1 (h := ?_)
   first | refine R.loadB O2 (h := ?_) | refine R.load1 O2 (h := ?_)
   first | refine R.add (h := ?_) | refine R.addW (h := ?_)
   refine R.assign (h := ?_)
   refine .n0 ?_
   refine .seq ?_
   refine .region rfl ?_
   refine R.move (h := ?_)
   refine R.move (h := ?_)
   first | refine R.len S44 (h := ?_) | refine R.lenRs S44 (h := ?_) | refine R.lenV (run_lenNil S44) (h := ?_)
   rw [bytesC_length]
   refine R.bin (run_lss _ _ _ _ _ _) (h := ?_)
   refine R.move (h := ?_)
   first | refine R.field F58_0 (h := ?_) | refine R.fieldAt F58_0 (h := ?_)
   first | refine R.loadB O3 (h := ?_) | refine R.load1 O3 (h := ?_)
   refine R.move (h := ?_)
   refine R.move (h := ?_)
   refine R.index I44 (e := [.val (.int .u8 ((ks.getD p 0).toNat : Int))]) (hj := fun hg => ⟨by omega, bytes_getD (by simp at hg; omega)⟩) (h := ?_)
   first | refine R.loadB O5 (h := ?_) | refine R.load1 O5 (h := ?_)
   first | refine R.convI Tryz.runUnderlying5 Tryz.runUnderlying3 (h := ?_) | refine R.convW Tryz.runUnderlying5 Tryz.runUnderlying3 (h := ?_)
   refine R.rem (h := ?_)
   first | refine R.add (h := ?_) | refine R.addW (h := ?_)
   refine R.bin (run_eql _ _ _ _ _ _) (h := ?_)
   refine R.and (h := ?_)
   refine Reg.nil ⟨fun _ => ⟨mixedO, by rfl, by rfl⟩, ?_⟩
   refine LGo.ifb (ht := fun hc3 => ?_) (hf := fun hc3 => ?_)
   ·
    have h3 : p < ks.length ∧ z.kind = 1 + (((ks.getD p 0).toNat % 4 : Nat) : Int) := by
      simp only [Bool.and_eq_true, decide_eq_true_eq] at hc3
      omega
    refine .region rfl ?_
    refine R.move (h := ?_)
    first | refine R.add (h := ?_) | refine R.addW (h := ?_)
    refine R.assign (h := ?_)
    refine .n0 ?_
    refine .inBlock ?_
    refine .region rfl ?_
    refine R.move (h := ?_)
    first | refine R.add (h := ?_) | refine R.addW (h := ?_)
    refine R.assign (h := ?_)
    refine .n0 ?_
    refine .inLoop ?_
    exact LGo.next _ (fun o h => by have := (hA o).1 h; omega) (by omega) (ih (k + 1, p + 1, sm + z.a) ⟨by dsimp only; omega, by dsimp only; omega, by dsimp only; omega, by dsimp only; omega, by dsimp only; rw [← hq, fStep_eq, if_pos h3, if_pos hc2]⟩ (by dsimp only; omega)) (by repeat (first | exact trivial | refine ⟨rfl, ?_⟩)) ⟨rfl, trivial⟩
   ·
    have h3 : ¬ (p < ks.length ∧ z.kind = 1 + (((ks.getD p 0).toNat % 4 : Nat) : Int)) := by
      simp only [Bool.and_eq_false_iff, decide_eq_false_iff_not] at hc3
      omega
    refine .skip ?_
    refine .inBlock ?_
    refine .region rfl ?_
    refine R.move (h := ?_)
    first | refine R.add (h := ?_) | refine R.addW (h := ?_)
    refine R.assign (h := ?_)
    refine .n0 ?_
    refine .inLoop ?_
    exact LGo.next _ (fun o h => by have := (hA o).1 h; omega) (by omega) (ih (k + 1, p, sm + z.a) ⟨by dsimp only; omega, by dsimp only; omega, by dsimp only; omega, by dsimp only; omega, by dsimp only; rw [← hq, fStep_eq, if_neg h3, if_pos hc2]⟩ (by dsimp only; omega)) (by repeat (first | exact trivial | refine ⟨rfl, ?_⟩)) ⟨rfl, trivial⟩
  ·
   refine .skip ?_
   refine .seq ?_
   refine .region rfl ?_
   refine R.move (h := ?_)
   refine R.move (h := ?_)
   first | refine R.len S44 (h := ?_) | refine R.lenRs S44 (h := ?_) | refine R.lenV (run_lenNil S44) (h := ?_)
   rw [bytesC_length]
   refine R.bin (run_lss _ _ _ _ _ _) (h := ?_)
   refine R.move (h := ?_)
   first | refine R.field F58_0 (h := ?_) | refine R.fieldAt F58_0 (h := ?_)
   first | refine R.loadB O3 (h := ?_) | refine R.load1 O3 (h := ?_)
   refine R.move (h := ?_)
   refine R.move (h := ?_)
   refine R.index I44 (e := [.val (.int .u8 ((ks.getD p 0).toNat : Int))]) (hj := fun hg => ⟨by omega, bytes_getD (by simp at hg; omega)⟩) (h := ?_)
   first | refine R.loadB O5 (h := ?_) | refine R.load1 O5 (h := ?_)
   first | refine R.convI Tryz.runUnderlying5 Tryz.runUnderlying3 (h := ?_) | refine R.convW Tryz.runUnderlying5 Tryz.runUnderlying3 (h := ?_)
   refine R.rem (h := ?_)
   first | refine R.add (h := ?_) | refine R.addW (h := ?_)
   refine R.bin (run_eql _ _ _ _ _ _) (h := ?_)
   refine R.and (h := ?_)
   refine Reg.nil ⟨fun _ => ⟨mixedO, by rfl, by rfl⟩, ?_⟩
   refine LGo.ifb (ht := fun hc4 => ?_) (hf := fun hc4 => ?_)
   ·
    have h3 : p < ks.length ∧ z.kind = 1 + (((ks.getD p 0).toNat % 4 : Nat) : Int) := by
      simp only [Bool.and_eq_true, decide_eq_true_eq] at hc4
      omega
    refine .region rfl ?_
    refine R.move (h := ?_)
    first | refine R.add (h := ?_) | refine R.addW (h := ?_)
    refine R.assign (h := ?_)
    refine .n0 ?_
    refine .inBlock ?_
    refine .region rfl ?_
    refine R.move (h := ?_)
    first | refine R.add (h := ?_) | refine R.addW (h := ?_)
    refine R.assign (h := ?_)
    refine .n0 ?_
    refine .inLoop ?_
    exact LGo.next _ (fun o h => by have := (hA o).1 h; omega) (by omega) (ih (k + 1, p + 1, sm) ⟨by dsimp only; omega, by dsimp only; omega, by dsimp only; omega, by dsimp only; omega, by dsimp only; rw [← hq, fStep_eq, if_pos h3, if_neg hc2]⟩ (by dsimp only; omega)) (by repeat (first | exact trivial | refine ⟨rfl, ?_⟩)) ⟨rfl, trivial⟩
   ·
    have h3 : ¬ (p < ks.length ∧ z.kind = 1 + (((ks.getD p 0).toNat % 4 : Nat) : Int)) := by
      simp only [Bool.and_eq_false_iff, decide_eq_false_iff_not] at hc4
      omega
    refine .skip ?_
    refine .inBlock ?_
    refine .region rfl ?_
    refine R.move (h := ?_)
    first | refine R.add (h := ?_) | refine R.addW (h := ?_)
    refine R.assign (h := ?_)
    refine .n0 ?_
    refine .inLoop ?_
    exact LGo.next _ (fun o h => by have := (hA o).1 h; omega) (by omega) (ih (k + 1, p, sm) ⟨by dsimp only; omega, by dsimp only; omega, by dsimp only; omega, by dsimp only; omega, by dsimp only; rw [← hq, fStep_eq, if_neg h3, if_neg hc2]⟩ (by dsimp only; omega)) (by repeat (first | exact trivial | refine ⟨rfl, ?_⟩)) ⟨rfl, trivial⟩
 ·
  rw [List.drop_eq_nil_of_le (show s.evs.length ≤ k by omega), List.foldl_nil] at hq
  subst hq
  dsimp only
  refine .exit rfl ?_
  refine .seq ?_
  refine .region rfl ?_
  refine R.move (h := ?_)
  refine R.move (h := ?_)
  first | refine R.len S44 (h := ?_) | refine R.lenRs S44 (h := ?_) | refine R.lenV (run_lenNil S44) (h := ?_)
  rw [bytesC_length]
  refine R.bin (run_eql _ _ _ _ _ _) (h := ?_)
  rw [show decide ((p : Int) = (ks.length : Int)) = decide (p = ks.length) from by rw [decide_eq_decide]; omega]
  refine R.move (h := ?_)
  refine R.move (h := ?_)
  refine R.move (h := ?_)
  refine R.bin (run_geq _ _ _ _ _ _) (h := ?_)
  refine R.and (h := ?_)
  refine R.assign (h := ?_)
  refine .n0 ?_
  exact LGo.ret (ret_T Tryz.results89 hA hmd)

theorem fault_P (s : Sc) (hl : s.evs.length ≤ 1000) (hev : ∀ x ∈ s.evs, x.kind = 4 → 0 ≤ x.a ∧ x.a ≤ 1000000000) (ks : List UInt8) (hks : ks.length ≤ 100000) (least : Int) : PC Tryz.prog 23 [.agg [.sv (.sl 1 (bytesC ks)), .i least], .agg (s.c.map LV.sv)] (.b (failsP ks least s.evs)) := by
 refine ⟨LC.of_go Tryz.func23 (c := _) rfl (by kernel_rfl) (by rw [Tryz.ntmps23]; simp) rfl rfl (by simp [LO.lt, LV.lts, LV.lt, lts_sv]) (by simp) ?_⟩
 intro B hA hmd
 refine .seq ?_
 refine .region rfl ?_
 refine R.box (h := ?_)
 refine R.box (h := ?_)
 refine R.assign (h := ?_)
 refine .n0 ?_
 refine .seq ?_
 refine .region rfl ?_
 first | refine R.loadA A29 (h := ?_) | refine R.loadN A29 (h := ?_) | refine R.loadP A29 (h := ?_)
 first | refine R.field F53_0 (h := ?_) | refine R.fieldAt F53_0 (h := ?_)
 first | refine R.loadB O44 (h := ?_) | refine R.load1 O44 (h := ?_)
 first | refine R.field F53_1 (h := ?_) | refine R.fieldAt F53_1 (h := ?_)
 first | refine R.loadB O2 (h := ?_) | refine R.load1 O2 (h := ?_)
 refine R.callP (es := [_, _, _]) (fun _ => fails_P s hl hev ks hks least) (h := ?_)
 refine R.assign (h := ?_)
 refine .n0 ?_
 exact LGo.ret (ret_T Tryz.results23 hA hmd)

end Go.Proofs.YteccglgbkehdeaaGreatDoor
/- How arguments are read: scripts, what is asked, faults. -/
set_option linter.unusedSimpArgs false
set_option linter.unusedVariables false
namespace Go.Proofs.YteccglgbkehdeaaGreatDoor

section
open Go.ChangeShapes Go.WideShapes Go.Deep Go.RowKit Go.ChangeAt
variable {H : Type} {enc : TypeId × Value → H} {w : World}
theorem map_of_all {α β : Type} {c : α → β} {Q : α → Prop} : ∀ {xs : List β}, (∀ x ∈ xs, ∃ a, x = c a ∧ Q a) → ∃ l : List α, xs = l.map c ∧ ∀ a ∈ l, Q a
  | [], _ => ⟨[], rfl, by simp⟩
  | x :: xs, h => by
    obtain ⟨a, rfl, ha⟩ := h x (by simp)
    obtain ⟨l, rfl, hl⟩ := map_of_all (xs := xs) (fun y hy => h y (by simp [hy]))
    exact ⟨a :: l, rfl, by simpa using ⟨ha, hl⟩⟩
theorem rd_ints : Rd enc Tryz.prog w 65 (fun ss => ∃ l : List Int, ss = [.sl 1 (ic .i64 l)] ∧ l.length ≤ maxLen ∧ ∀ n ∈ l, R64 n) :=
  (Rd.slice Tryz.underlying65 (sz := 1) (by kernel_rfl) (by decide) (Rd.int Tryz.underlying3)).mono fun ss ⟨s, h1, xs, h2, h3, h4⟩ => by
    obtain ⟨l, rfl, hl⟩ := map_of_all (c := fun n : Int => [SV.val (.int .i64 n)]) (Q := R64) (fun x hx => by
      obtain ⟨⟨s, rfl, n, rfl, h5, h6⟩, _⟩ := h4 x hx
      exact ⟨n, rfl, Int.le_trans (by decide) h5, Int.le_trans h6 (by decide)⟩)
    exact ⟨l, by rw [h1, h2]; rfl, by simpa using h3, hl⟩
theorem rd_bytes0 : Rd enc Tryz.prog w 44 (fun ss => ∃ l : List UInt8, ss = [.sl 1 (bytesC l)] ∧ l.length ≤ maxLen) :=
  (Rd.slice Tryz.underlying44 (sz := 1) (by kernel_rfl) (by decide) (Rd.int Tryz.underlying5)).mono fun ss ⟨s, h1, xs, h2, h3, h4⟩ => by
    obtain ⟨l, rfl, hl⟩ := map_of_all (c := fun b : UInt8 => [SV.val (.int .u8 (b.toNat : Int))]) (Q := fun _ => True) (fun x hx => by
      obtain ⟨⟨s, rfl, n, rfl, h5, h6⟩, _⟩ := h4 x hx
      exact ⟨byt n, by rw [byt_toNat n h5 (Int.lt_of_le_of_lt h6 (by decide))], trivial⟩)
    exact ⟨l, by rw [h1, h2]; rfl, by simpa using h3⟩
theorem rd_Ca : Rd enc Tryz.prog w 40 (fun ss => ∃ x : SrC, ss = x.c ∧ x.ok) := by
  refine (Rd.struct (S := fun j s => match j with
    | 0 => ∃ n, s = .val (.int .i64 n) ∧ (-9223372036854775808 ≤ n ∧ n ≤ 9223372036854775807)
    | 1 => ∃ n, s = .val (.int .u32 n) ∧ (0 ≤ n ∧ n < 4294967296)
    | 2 => ∃ n, s = .val (.int .u32 n) ∧ (0 ≤ n ∧ n < 4294967296)
    | 3 => ∃ n, s = .val (.int .i64 n) ∧ (-9223372036854775808 ≤ n ∧ n ≤ 9223372036854775807)
    | 4 => ∃ n, s = .val (.int .i64 n) ∧ (-9223372036854775808 ≤ n ∧ n ≤ 9223372036854775807)
    | 5 => ∃ n, s = .val (.int .i64 n) ∧ (-9223372036854775808 ≤ n ∧ n ≤ 9223372036854775807)
    | 6 => ∃ n, s = .val (.int .i64 n) ∧ (-9223372036854775808 ≤ n ∧ n ≤ 9223372036854775807)
    | 7 => ∃ n, s = .val (.int .i64 n) ∧ (-9223372036854775808 ≤ n ∧ n ≤ 9223372036854775807)
    | 8 => ∃ n, s = .val (.int .i64 n) ∧ (-9223372036854775808 ≤ n ∧ n ≤ 9223372036854775807)
    | 9 => ∃ n, s = .val (.int .i64 n) ∧ (-9223372036854775808 ≤ n ∧ n ≤ 9223372036854775807)
    | _ => ∃ l : List UInt8, s = .val (.string ⟨l.toArray⟩) ∧ l.length ≤ maxLen) Tryz.underlying40 (by kernel_rfl) (by kernel_rfl) (fun j f hj => ?_)).mono ?_
  · match j, hj with
    | 0, hj => cases hj; exact (Rd.int Tryz.underlying3).mono (fun ss ⟨s, h, n, h1, h2, h3⟩ => ⟨s, h, n, h1, Int.le_trans (by decide) h2, Int.le_trans h3 (by decide)⟩)
    | 1, hj => cases hj; exact (Rd.int Tryz.underlying38).mono (fun ss ⟨s, h, n, h1, h2, h3⟩ => ⟨s, h, n, h1, Int.le_trans (by decide) h2, Int.lt_of_le_of_lt h3 (by decide)⟩)
    | 2, hj => cases hj; exact (Rd.int Tryz.underlying38).mono (fun ss ⟨s, h, n, h1, h2, h3⟩ => ⟨s, h, n, h1, Int.le_trans (by decide) h2, Int.lt_of_le_of_lt h3 (by decide)⟩)
    | 3, hj => cases hj; exact (Rd.int Tryz.underlying3).mono (fun ss ⟨s, h, n, h1, h2, h3⟩ => ⟨s, h, n, h1, Int.le_trans (by decide) h2, Int.le_trans h3 (by decide)⟩)
    | 4, hj => cases hj; exact (Rd.int Tryz.underlying3).mono (fun ss ⟨s, h, n, h1, h2, h3⟩ => ⟨s, h, n, h1, Int.le_trans (by decide) h2, Int.le_trans h3 (by decide)⟩)
    | 5, hj => cases hj; exact (Rd.int Tryz.underlying3).mono (fun ss ⟨s, h, n, h1, h2, h3⟩ => ⟨s, h, n, h1, Int.le_trans (by decide) h2, Int.le_trans h3 (by decide)⟩)
    | 6, hj => cases hj; exact (Rd.int Tryz.underlying3).mono (fun ss ⟨s, h, n, h1, h2, h3⟩ => ⟨s, h, n, h1, Int.le_trans (by decide) h2, Int.le_trans h3 (by decide)⟩)
    | 7, hj => cases hj; exact (Rd.int Tryz.underlying3).mono (fun ss ⟨s, h, n, h1, h2, h3⟩ => ⟨s, h, n, h1, Int.le_trans (by decide) h2, Int.le_trans h3 (by decide)⟩)
    | 8, hj => cases hj; exact (Rd.int Tryz.underlying3).mono (fun ss ⟨s, h, n, h1, h2, h3⟩ => ⟨s, h, n, h1, Int.le_trans (by decide) h2, Int.le_trans h3 (by decide)⟩)
    | 9, hj => cases hj; exact (Rd.int Tryz.underlying3).mono (fun ss ⟨s, h, n, h1, h2, h3⟩ => ⟨s, h, n, h1, Int.le_trans (by decide) h2, Int.le_trans h3 (by decide)⟩)
    | 10, hj => cases hj; exact Rd.string Tryz.underlying9
    | j + 11, hj => simp at hj
  · rintro ss ⟨hl, h⟩
    match ss, hl with
    | [a0, a1, a2, a3, a4, a5, a6, a7, a8, a9, a10], _ =>
      obtain ⟨n0, rfl, h0⟩ := h 0 a0 rfl
      obtain ⟨n1, rfl, h1⟩ := h 1 a1 rfl
      obtain ⟨n2, rfl, h2⟩ := h 2 a2 rfl
      obtain ⟨n3, rfl, h3⟩ := h 3 a3 rfl
      obtain ⟨n4, rfl, h4⟩ := h 4 a4 rfl
      obtain ⟨n5, rfl, h5⟩ := h 5 a5 rfl
      obtain ⟨n6, rfl, h6⟩ := h 6 a6 rfl
      obtain ⟨n7, rfl, h7⟩ := h 7 a7 rfl
      obtain ⟨n8, rfl, h8⟩ := h 8 a8 rfl
      obtain ⟨n9, rfl, h9⟩ := h 9 a9 rfl
      obtain ⟨n10, rfl, h10⟩ := h 10 a10 rfl
      exact ⟨⟨n0, n1, n2, n3, n4, n5, n6, n7, n8, n9, n10⟩, rfl, ⟨h0, h1, h2, h3, h4, h5, h6, h7, h8, h9, h10⟩⟩
theorem rd_Ev : Rd enc Tryz.prog w 58 (fun ss => ∃ x : SrE, ss = x.c ∧ (R64 x.kind ∧ R64 x.a ∧ R64 x.b)) := by
  refine (Rd.struct (S := fun j s => match j with
    | 0 => ∃ n, s = .val (.int .i64 n) ∧ (-9223372036854775808 ≤ n ∧ n ≤ 9223372036854775807)
    | 1 => ∃ n, s = .val (.int .i64 n) ∧ (-9223372036854775808 ≤ n ∧ n ≤ 9223372036854775807)
    | _ => ∃ n, s = .val (.int .i64 n) ∧ (-9223372036854775808 ≤ n ∧ n ≤ 9223372036854775807)) Tryz.underlying58 (by kernel_rfl) (by kernel_rfl) (fun j f hj => ?_)).mono ?_
  · match j, hj with
    | 0, hj => cases hj; exact (Rd.int Tryz.underlying3).mono (fun ss ⟨s, h, n, h1, h2, h3⟩ => ⟨s, h, n, h1, Int.le_trans (by decide) h2, Int.le_trans h3 (by decide)⟩)
    | 1, hj => cases hj; exact (Rd.int Tryz.underlying2).mono (fun ss ⟨s, h, n, h1, h2, h3⟩ => ⟨s, h, n, h1, Int.le_trans (by decide) h2, Int.le_trans h3 (by decide)⟩)
    | 2, hj => cases hj; exact (Rd.int Tryz.underlying2).mono (fun ss ⟨s, h, n, h1, h2, h3⟩ => ⟨s, h, n, h1, Int.le_trans (by decide) h2, Int.le_trans h3 (by decide)⟩)
    | j + 3, hj => simp at hj
  · rintro ss ⟨hl, h⟩
    match ss, hl with
    | [a0, a1, a2], _ =>
      obtain ⟨n0, rfl, h0⟩ := h 0 a0 rfl
      obtain ⟨n1, rfl, h1⟩ := h 1 a1 rfl
      obtain ⟨n2, rfl, h2⟩ := h 2 a2 rfl
      exact ⟨⟨n0, n1, n2⟩, rfl, h0, h1, h2⟩
theorem rd_Vs : Rd enc Tryz.prog w 80 (fun ss => ∃ x : VnS, ss = x.c ∧ (x.name.length ≤ maxLen ∧ x.rows.length ≤ maxLen ∧ (∀ n ∈ x.rows, R64 n) ∧ R64 x.queue)) := by
  refine (Rd.struct2 (S := fun j ss => match j with
    | 0 => ∃ l : List UInt8, ss = [SV.val (.string ⟨l.toArray⟩)] ∧ l.length ≤ maxLen
    | 1 => ∃ l : List Int, ss = [.sl 1 (ic .i64 l)] ∧ l.length ≤ maxLen ∧ ∀ n ∈ l, R64 n
    | _ => ∃ n, ss = [SV.val (.int .i64 n)] ∧ R64 n) Tryz.underlying80 (by kernel_rfl) (fun j f hj => ?_)).mono ?_
  · match j, hj with
    | 0, hj => cases hj; exact (Rd.string Tryz.underlying9).mono (fun ss ⟨s, h, l, h1, h2⟩ => ⟨l, by rw [h, h1], h2⟩)
    | 1, hj => cases hj; exact rd_ints
    | 2, hj => cases hj; exact (Rd.int Tryz.underlying3).mono (fun ss ⟨s, h, n, h1, h2, h3⟩ => ⟨n, by rw [h, h1], Int.le_trans (by decide) h2, Int.le_trans h3 (by decide)⟩)
    | j + 3, hj => simp at hj
  · rintro ss ⟨parts, hl, rfl, h⟩
    match parts, hl with
    | [a0, a1, a2], _ =>
      obtain ⟨l, rfl, h0⟩ := h 0 a0 rfl
      obtain ⟨m, rfl, h1, h2⟩ := h 1 a1 rfl
      obtain ⟨n, rfl, h3⟩ := h 2 a2 rfl
      exact ⟨⟨l, m, n⟩, rfl, h0, h1, h2, h3⟩
theorem rd_Vss : Rd enc Tryz.prog w 22 (fun ss => ∃ l : List VnS, ss = [.sl 3 (l.map VnS.c)] ∧ l.length ≤ maxLen ∧ ∀ x ∈ l, x.name.length ≤ maxLen ∧ x.rows.length ≤ maxLen ∧ (∀ n ∈ x.rows, R64 n) ∧ R64 x.queue) :=
  (Rd.slice Tryz.underlying22 (sz := 3) (by kernel_rfl) (by decide) rd_Vs).mono fun ss ⟨s, h1, xs, h2, h3, h4⟩ => by
    obtain ⟨l, rfl, hl⟩ := map_of_all (c := VnS.c) (Q := fun x => x.name.length ≤ maxLen ∧ x.rows.length ≤ maxLen ∧ (∀ n ∈ x.rows, R64 n) ∧ R64 x.queue) (fun x hx => (h4 x hx).1)
    exact ⟨l, by rw [h1, h2], by simpa using h3, hl⟩
theorem rd_Ga : Rd enc Tryz.prog w 71 (fun ss => ∃ x : GtG, ss = x.c ∧ x.ok) := by
  refine (Rd.struct2 (S := fun j ss => match j with
    | 0 => ∃ l : List Int, ss = [.sl 1 (ic .i64 l)] ∧ l.length ≤ maxLen ∧ ∀ n ∈ l, R64 n
    | 1 => ∃ n, ss = [SV.val (.int .i64 n)] ∧ R64 n
    | _ => ∃ n, ss = [SV.val (.int .i64 n)] ∧ R64 n) Tryz.underlying71 (by kernel_rfl) (fun j f hj => ?_)).mono ?_
  · match j, hj with
    | 0, hj => cases hj; exact rd_ints
    | 1, hj => cases hj; exact (Rd.int Tryz.underlying2).mono (fun ss ⟨s, h, n, h1, h2, h3⟩ => ⟨n, by rw [h, h1], Int.le_trans (by decide) h2, Int.le_trans h3 (by decide)⟩)
    | 2, hj => cases hj; exact (Rd.int Tryz.underlying2).mono (fun ss ⟨s, h, n, h1, h2, h3⟩ => ⟨n, by rw [h, h1], Int.le_trans (by decide) h2, Int.le_trans h3 (by decide)⟩)
    | j + 3, hj => simp at hj
  · rintro ss ⟨parts, hl, rfl, h⟩
    match parts, hl with
    | [a0, a1, a2], _ =>
      obtain ⟨l, rfl, h0, h1⟩ := h 0 a0 rfl
      obtain ⟨n, rfl, h2⟩ := h 1 a1 rfl
      obtain ⟨m, rfl, h3⟩ := h 2 a2 rfl
      exact ⟨⟨l, n, m⟩, rfl, h0, h1, h2, h3⟩
theorem rd_Gas : Rd enc Tryz.prog w 25 (fun ss => ∃ l : List GtG, ss = [.sl 3 (l.map GtG.c)] ∧ l.length ≤ maxLen ∧ ∀ x ∈ l, x.ok) :=
  (Rd.slice Tryz.underlying25 (sz := 3) (by kernel_rfl) (by decide) rd_Ga).mono fun ss ⟨s, h1, xs, h2, h3, h4⟩ => by
    obtain ⟨l, rfl, hl⟩ := map_of_all (c := GtG.c) (Q := fun x => x.ok) (fun x hx => (h4 x hx).1)
    exact ⟨l, by rw [h1, h2], by simpa using h3, hl⟩
theorem rd_Cas : Rd enc Tryz.prog w 26 (fun ss => ∃ l : List SrC, ss = [.sl 11 (l.map SrC.c)] ∧ l.length ≤ maxLen ∧ ∀ x ∈ l, x.ok) :=
  (Rd.slice Tryz.underlying26 (sz := 11) (by kernel_rfl) (by decide) rd_Ca).mono fun ss ⟨s, h1, xs, h2, h3, h4⟩ => by
    obtain ⟨l, rfl, hl⟩ := map_of_all (c := SrC.c) (Q := fun x => x.ok) (fun x hx => (h4 x hx).1)
    exact ⟨l, by rw [h1, h2], by simpa using h3, hl⟩
theorem rd_Evs : Rd enc Tryz.prog w 27 (fun ss => ∃ l : List SrE, ss = [.sl 3 (l.map SrE.c)] ∧ l.length ≤ maxLen ∧ ∀ x ∈ l, R64 x.kind ∧ R64 x.a ∧ R64 x.b) :=
  (Rd.slice Tryz.underlying27 (sz := 3) (by kernel_rfl) (by decide) rd_Ev).mono fun ss ⟨s, h1, xs, h2, h3, h4⟩ => by
    obtain ⟨l, rfl, hl⟩ := map_of_all (c := SrE.c) (Q := fun x => R64 x.kind ∧ R64 x.a ∧ R64 x.b) (fun x hx => (h4 x hx).1)
    exact ⟨l, by rw [h1, h2], by simpa using h3, hl⟩
theorem rd_Ve : Rd enc Tryz.prog w 24 (fun ss => ∃ v : Ven, ss = v.c ∧ (R64 v.shards ∧ R64 v.ttl ∧ R64 v.session ∧ v.secs.length ≤ maxLen ∧ ∀ x ∈ v.secs, x.name.length ≤ maxLen ∧ x.rows.length ≤ maxLen ∧ (∀ n ∈ x.rows, R64 n) ∧ R64 x.queue)) := by
  refine (Rd.struct2 (S := fun j ss => match j with
    | 0 => ∃ n, ss = [SV.val (.int .i64 n)] ∧ R64 n
    | 1 => ∃ n, ss = [SV.val (.int .i64 n)] ∧ R64 n
    | 2 => ∃ n, ss = [SV.val (.int .i64 n)] ∧ R64 n
    | _ => ∃ l : List VnS, ss = [.sl 3 (l.map VnS.c)] ∧ l.length ≤ maxLen ∧ ∀ x ∈ l, x.name.length ≤ maxLen ∧ x.rows.length ≤ maxLen ∧ (∀ n ∈ x.rows, R64 n) ∧ R64 x.queue) Tryz.underlying24 (by kernel_rfl) (fun j f hj => ?_)).mono ?_
  · match j, hj with
    | 0, hj => cases hj; exact (Rd.int Tryz.underlying3).mono (fun ss ⟨s, h, n, h1, h2, h3⟩ => ⟨n, by rw [h, h1], Int.le_trans (by decide) h2, Int.le_trans h3 (by decide)⟩)
    | 1, hj => cases hj; exact (Rd.int Tryz.underlying2).mono (fun ss ⟨s, h, n, h1, h2, h3⟩ => ⟨n, by rw [h, h1], Int.le_trans (by decide) h2, Int.le_trans h3 (by decide)⟩)
    | 2, hj => cases hj; exact (Rd.int Tryz.underlying2).mono (fun ss ⟨s, h, n, h1, h2, h3⟩ => ⟨n, by rw [h, h1], Int.le_trans (by decide) h2, Int.le_trans h3 (by decide)⟩)
    | 3, hj => cases hj; exact rd_Vss
    | j + 4, hj => simp at hj
  · rintro ss ⟨parts, hl, rfl, h⟩
    match parts, hl with
    | [a0, a1, a2, a3], _ =>
      obtain ⟨n, rfl, h0⟩ := h 0 a0 rfl
      obtain ⟨m, rfl, h1⟩ := h 1 a1 rfl
      obtain ⟨k, rfl, h2⟩ := h 2 a2 rfl
      obtain ⟨l, rfl, h3, h4⟩ := h 3 a3 rfl
      exact ⟨⟨n, m, k, l⟩, rfl, h0, h1, h2, h3, h4⟩
theorem rd_Sc : Rd enc Tryz.prog w 29 (fun ss => ∃ x : Sc, ss = x.c ∧ x.ok) := by
  refine (Rd.struct2 (S := fun j ss => match j with
    | 0 => ∃ v : Ven, ss = v.c ∧ (R64 v.shards ∧ R64 v.ttl ∧ R64 v.session ∧ v.secs.length ≤ maxLen ∧ ∀ x ∈ v.secs, x.name.length ≤ maxLen ∧ x.rows.length ≤ maxLen ∧ (∀ n ∈ x.rows, R64 n) ∧ R64 x.queue)
    | 1 => ∃ l : List UInt8, ss = [SV.val (.string ⟨l.toArray⟩)] ∧ l.length ≤ maxLen
    | 2 => ∃ l : List GtG, ss = [.sl 3 (l.map GtG.c)] ∧ l.length ≤ maxLen ∧ ∀ x ∈ l, x.ok
    | 3 => ∃ n, ss = [SV.val (.int .i64 n)] ∧ R64 n
    | 4 => ∃ l : List SrC, ss = [.sl 11 (l.map SrC.c)] ∧ l.length ≤ maxLen ∧ ∀ x ∈ l, x.ok
    | _ => ∃ l : List SrE, ss = [.sl 3 (l.map SrE.c)] ∧ l.length ≤ maxLen ∧ ∀ x ∈ l, R64 x.kind ∧ R64 x.a ∧ R64 x.b) Tryz.underlying29 (by kernel_rfl) (fun j f hj => ?_)).mono ?_
  · match j, hj with
    | 0, hj => cases hj; exact rd_Ve
    | 1, hj => cases hj; exact (Rd.string Tryz.underlying9).mono (fun ss ⟨s, h, l, h1, h2⟩ => ⟨l, by rw [h, h1], h2⟩)
    | 2, hj => cases hj; exact rd_Gas
    | 3, hj => cases hj; exact (Rd.int Tryz.underlying3).mono (fun ss ⟨s, h, n, h1, h2, h3⟩ => ⟨n, by rw [h, h1], Int.le_trans (by decide) h2, Int.le_trans h3 (by decide)⟩)
    | 4, hj => cases hj; exact rd_Cas
    | 5, hj => cases hj; exact rd_Evs
    | j + 6, hj => simp at hj
  · rintro ss ⟨parts, hl, rfl, h⟩
    match parts, hl with
    | [a0, a1, a2, a3, a4, a5], _ =>
      obtain ⟨v, rfl, h0, h1, h2, h3, h4⟩ := h 0 a0 rfl
      obtain ⟨k, rfl, h5⟩ := h 1 a1 rfl
      obtain ⟨g, rfl, h6, h7⟩ := h 2 a2 rfl
      obtain ⟨n, rfl, h8⟩ := h 3 a3 rfl
      obtain ⟨c, rfl, h9, h10⟩ := h 4 a4 rfl
      obtain ⟨e, rfl, h11, h12⟩ := h 5 a5 rfl
      exact ⟨⟨v, k, g, n, c, e⟩, rfl, ⟨h0, h1, h2, h3, h4, h5, h6, h7, h8, h9, h10, h11, h12⟩⟩
theorem rd_Fa : Rd enc Tryz.prog w 53 (fun ss => ∃ (ks : List UInt8) (n : Int), ss = [.sl 1 (bytesC ks), .val (.int .i64 n)] ∧ ks.length ≤ maxLen ∧ R64 n) := by
  refine (Rd.struct2 (S := fun j ss => match j with
    | 0 => ∃ l : List UInt8, ss = [.sl 1 (bytesC l)] ∧ l.length ≤ maxLen
    | _ => ∃ n, ss = [SV.val (.int .i64 n)] ∧ R64 n) Tryz.underlying53 (by kernel_rfl) (fun j f hj => ?_)).mono ?_
  · match j, hj with
    | 0, hj => cases hj; exact rd_bytes0
    | 1, hj => cases hj; exact (Rd.int Tryz.underlying2).mono (fun ss ⟨s, h, n, h1, h2, h3⟩ => ⟨n, by rw [h, h1], Int.le_trans (by decide) h2, Int.le_trans h3 (by decide)⟩)
    | j + 2, hj => simp at hj
  · rintro ss ⟨parts, hl, rfl, h⟩
    match parts, hl with
    | [a0, a1], _ =>
      obtain ⟨l, rfl, h0⟩ := h 0 a0 rfl
      obtain ⟨n, rfl, h1⟩ := h 1 a1 rfl
      exact ⟨l, n, rfl, h0, h1⟩
end
end Go.Proofs.YteccglgbkehdeaaGreatDoor
/- scripts: the law's own check. -/
set_option linter.unusedSimpArgs false
set_option linter.unusedVariables false
namespace Go.Proofs.YteccglgbkehdeaaGreatDoor

theorem exSc_sm : exSc.sm := by
  refine ⟨⟨by decide, by decide⟩, by decide, by decide, by decide, by decide, fun c hc => ?_, by decide⟩
  simp only [exSc, List.mem_cons, List.not_mem_nil, or_false] at hc
  rcases hc with rfl | rfl
  · refine ⟨?_, ?_, ?_, ?_, ?_, ?_, ?_, ?_, ?_, ?_, ?_⟩ <;> first | (unfold R64; decide) | decide
  · refine ⟨?_, ?_, ?_, ?_, ?_, ?_, ?_, ?_, ?_, ?_, ?_⟩ <;> first | (unfold R64; decide) | decide
def exEvs2 : List SrE := [⟨1, 0, 1⟩, ⟨1, 0, 2⟩, ⟨4, 5, 0⟩, ⟨2, 0, 0⟩]
def exSc2 : Sc := { exSc with evs := exEvs2 }
theorem exSc2_sm : exSc2.sm := ⟨exSc_sm.ven, exSc_sm.gl, exSc_sm.gs, exSc_sm.key, exSc_sm.cl, exSc_sm.cs, by decide⟩
theorem exSc_cp : exSc.cp := ⟨by decide, by decide, by decide, by decide, by decide⟩
def tickL (l : List SrE) : Bool := l.any fun x => decide (x.kind = 4)
def exC1 : SrC := ⟨1, 7, 0, 0, 0, 0, 0, 0, 0, 0, []⟩
theorem exC1_ok : exC1.ok := exSc_sm.cs _ (by simp [exSc, exC1])
theorem ex_size : sizeS exSc = ((4, 1, 2, 5), 0) := by decide +kernel
theorem ex_shrink : shrinkS tickL exSc 100 = ({ exSc with evs := [⟨4, 5, 0⟩] }, 5, 0) := by decide +kernel
theorem ex_pay : payS exC1 9 [] [] = ([1, 1, 1, 9, 2, 1, 7], 0) := by decide +kernel
theorem ex_check2 : checkS exSc2 = ([101, 118, 101, 110, 116, 32, 49], 8) := by
  have h : Lib.itoa 1 = [49] := by unfold Lib.itoa; rw [if_neg (by decide)]; rw [Lib.decDigits]; decide
  have h1 : ∀ k ks l, chkGo exSc2 k ks l = chkGo exSc2 k ks l := fun _ _ _ => rfl
  have h2 : (baseS exSc2).2 = 0 := by decide +kernel
  have e0 : evT exSc2 [] ⟨1, 0, 1⟩ = 0 := by decide +kernel
  have e1 : evT exSc2 [0] ⟨1, 0, 2⟩ = 8 := by decide +kernel
  unfold checkS
  rw [if_neg (by simp [h2]), if_neg (by decide)]
  show chkGo exSc2 0 [] exEvs2 = _
  unfold exEvs2
  rw [chkGo, if_neg (by simp [e0]), chkGo]
  show (if evT exSc2 [0] ⟨1, 0, 2⟩ ≠ 0 then (partT [101, 118, 101, 110, 116] ((0 + 1 : Nat) : Int), evT exSc2 [0] ⟨1, 0, 2⟩) else _) = _
  rw [e1, if_pos (by decide)]
  unfold partT
  rw [show (((0 + 1 : Nat)) : Int) = 1 from rfl, h]
  rfl

theorem awake_P : PC Tryz.prog 13 [] (.b true) := by
 refine ⟨LC.of_go Tryz.func13 (c := _) rfl (by kernel_rfl) (by rw [Tryz.ntmps13]; simp) rfl rfl (by simp [LO.lt, LV.lts, LV.lt, lts_sv]) (by simp) ?_⟩
 intro B hA hmd
 refine .seq ?_
 refine .region rfl ?_
 refine R.assign (h := ?_)
 refine .n0 ?_
 refine .seq ?_
 refine .region rfl ?_
 refine R.callX (es := []) [] exSc_L (h := ?_)
 refine R.alloc Z29 (h := ?_)
 refine R.storeA A29 (h := ?_)
 refine .n0 ?_
 refine .seq ?_
 refine .region rfl ?_
 first | refine R.loadA A29 (h := ?_) | refine R.loadN A29 (h := ?_) | refine R.loadP A29 (h := ?_)
 refine R.callVA (es := [_]) (lvs := [.agg (exSc.c.map LV.sv)]) (rd := [(0, .rs 58 3 (exEvs.map SrE.c))]) (fun _ => sizeS_P exSc exSc_sm) (hrd := oneL rfl) (h := ?_)
 rw [ex_size]
 refine R.move (h := ?_)
 refine R.extract (h := ?_)
 refine R.extract (h := ?_)
 refine R.alloc Z62 (h := ?_)
 refine R.storeA A62 (h := ?_)
 refine R.assign (h := ?_)
 refine .n0 ?_
 refine .seq ?_
 refine .region rfl ?_
 first | refine R.loadA A29 (h := ?_) | refine R.loadN A29 (h := ?_) | refine R.loadP A29 (h := ?_)
 refine R.callX (es := [_, _, _]) [0] (shrinkO_L exSc exSc_sm exSc_cp (ff := 38) (pf := tickL) (by decide) (fun _ es hes => ticks_P { exSc with evs := es } (by have := hes.length_le; have h4 : exSc.evs.length = 4 := rfl; unfold maxLen; dsimp only; omega)) 100 (by unfold R64; decide)) (h := ?_)
 rw [ex_shrink]
 refine R.move (h := ?_)
 refine R.extract (h := ?_)
 refine R.extract (h := ?_)
 refine R.extract (h := ?_)
 refine R.alloc Z29 (h := ?_)
 refine R.storeA A29 (h := ?_)
 refine R.assign (h := ?_)
 refine R.assign (h := ?_)
 refine .n0 ?_
 refine .seq ?_
 refine .region rfl ?_
 first | refine R.field F29_4 (h := ?_) | refine R.fieldAt F29_4 (h := ?_)
 first | refine R.loadB O26 (h := ?_) | refine R.load1 O26 (h := ?_)
 refine R.index I26 (hj := fun hg => ⟨by omega, rfl⟩) (h := ?_)
 first | refine R.loadA A40 (h := ?_) | refine R.loadN A40 (h := ?_) | refine R.loadP A40 (h := ?_)
 refine R.callP (es := [_, _, _, _]) (fun _ => payS_P exC1 exC1_ok 9 (by decide) [] [] (Nat.zero_le _) (Nat.zero_le _)) (h := ?_)
 rw [ex_pay]
 refine R.move (h := ?_)
 refine R.extract (h := ?_)
 refine R.extract (h := ?_)
 refine R.assign (h := ?_)
 refine R.assign (h := ?_)
 refine .n0 ?_
 refine .seq ?_
 refine .region rfl ?_
 first | refine R.field F29_5 (h := ?_) | refine R.fieldAt F29_5 (h := ?_)
 first | refine R.loadB O27 (h := ?_) | refine R.load1 O27 (h := ?_)
 refine R.build BF58 (is := [0, 2]) (xs := [_, _]) (es := [_, _]) (h := ?_)
 refine R.indexRs I27 (hj := fun _ => ⟨by decide, by decide⟩) (h := ?_)
 refine R.storeRsN A58 1 (SrE.c ⟨1, 0, 2⟩) (h1 := rfl) (hj := by decide) (h := ?_)
 refine .n0 ?_
 refine .seq ?_
 refine .region rfl ?_
 first | refine R.loadA A29 (h := ?_) | refine R.loadN A29 (h := ?_) | refine R.loadP A29 (h := ?_)
 refine R.callVA (es := [_]) (lvs := [.agg (exSc2.c.map LV.sv)]) (rd := [(0, .rs 58 3 (exEvs2.map SrE.c))]) (fun _ => checkS_P exSc2 exSc2_sm) (hrd := oneL rfl) (h := ?_)
 rw [ex_check2]
 refine R.move (h := ?_)
 refine R.extract (h := ?_)
 refine R.extract (h := ?_)
 refine R.assign (h := ?_)
 refine R.assign (h := ?_)
 refine .n0 ?_
 refine .seq ?_
 refine .region rfl ?_
 refine R.move (h := ?_)
 refine R.bin (run_eql _ _ _ _ _ _) (h := ?_)
 refine R.move (h := ?_)
 refine R.move (h := ?_)
 refine R.bin (run_eql _ _ _ _ _ _) (h := ?_)
 refine R.and (h := ?_)
 refine R.move (h := ?_)
 refine R.move (h := ?_)
 refine R.bin (run_eql _ _ _ _ _ _) (h := ?_)
 refine R.and (h := ?_)
 refine R.move (h := ?_)
 refine R.move (h := ?_)
 refine R.bin (run_eql _ _ _ _ _ _) (h := ?_)
 refine R.and (h := ?_)
 refine R.move (h := ?_)
 first | refine R.loadA A62 (h := ?_) | refine R.loadN A62 (h := ?_) | refine R.loadP A62 (h := ?_)
 refine R.build BF62 (is := [0, 1, 2, 3]) (xs := [_, _, _, _]) (es := [_, _, _, _]) (h := ?_)
 refine R.binA (EQ62 _ _ _ _ _ _ _ _ _ _) (h := ?_)
 refine R.and (h := ?_)
 refine R.move (h := ?_)
 refine R.move (h := ?_)
 refine R.bin (run_eql _ _ _ _ _ _) (h := ?_)
 refine R.and (h := ?_)
 refine R.move (h := ?_)
 first | refine R.field F29_5 (h := ?_) | refine R.fieldAt F29_5 (h := ?_)
 first | refine R.loadB O27 (h := ?_) | refine R.load1 O27 (h := ?_)
 first | refine R.len S27 (h := ?_) | refine R.lenRs S27 (h := ?_) | refine R.lenV (run_lenNil S27) (h := ?_)
 refine R.bin (run_eql _ _ _ _ _ _) (h := ?_)
 refine R.and (h := ?_)
 refine R.move (h := ?_)
 first | refine R.field F29_5 (h := ?_) | refine R.fieldAt F29_5 (h := ?_)
 first | refine R.loadB O27 (h := ?_) | refine R.load1 O27 (h := ?_)
 refine R.index I27 (hj := fun hg => ⟨by (simp at hg; omega), rfl⟩) (h := ?_)
 first | refine R.loadA A58 (h := ?_) | refine R.loadN A58 (h := ?_) | refine R.loadP A58 (h := ?_)
 refine R.build BF58 (is := [0, 1]) (xs := [_, _]) (es := [_, _]) (h := ?_)
 refine R.binA (EQ58 _ _ _ _ _ _ _ _) (h := ?_)
 refine R.and (h := ?_)
 refine R.move (h := ?_)
 refine R.move (h := ?_)
 refine R.toString Tryz.underlying44 Tryz.underlying5 Tryz.underlying9 (h := ?_)
 refine R.bin (run_eqlT _ _ _ _ _) (h := ?_)
 refine R.and (h := ?_)
 refine R.move (h := ?_)
 refine R.move (h := ?_)
 refine R.bin (run_eqlT _ _ _ _ _) (h := ?_)
 refine R.and (h := ?_)
 refine R.assign (h := ?_)
 refine .n0 ?_
 exact LGo.ret (ret_T Tryz.results13 hA hmd)

end Go.Proofs.YteccglgbkehdeaaGreatDoor
/- venues, the reference: the check. -/
set_option linter.unusedSimpArgs false
set_option linter.unusedVariables false
namespace Go.Proofs.YteccglgbkehdeaaGreatDoor

/-- the places of a row, of a section's rows, of sections -/
def plC (i k n : Int) : List SV := [.val (.int .i64 i), .val (.int .i64 k), .val (.int .i64 n)]
def plRow (i k : Int) (m : Nat) : List (List SV) := (List.range m).map fun (n : Nat) => plC i k n
def plRows (i : Int) : Nat → List Int → List (List SV)
  | _, [] => []
  | k, n :: r => plRow i k n.toNat ++ plRows i (k + 1) r
def plSecs : Nat → List VnS → List (List SV)
  | _, [] => []
  | i, x :: r => plRows i 0 x.rows ++ plSecs (i + 1) r
def goodV (x : VnS) : Prop := x.rows.length ≤ 16 ∧ ∀ n ∈ x.rows, 1 ≤ n ∧ n ≤ 64
def sumV (l : List VnS) : Int := l.foldl (fun a x => x.rows.foldl (fun a n => a + n) a) 0
/-- the check of a venue in two steps: its sections one by one, then all places -/
def secGo : Nat → List VnS → List VnS → Option (Int × Int)
  | _, _, [] => none
  | k, bf, x :: r => if checkV x bf ≠ 0 then some (k, checkV x bf) else secGo (k + 1) (bf ++ [x]) r
def finV (n : Nat) : Option (Int × Int) → Int × Int
  | some r => r
  | none => if 4096 < (n : Int) then (-1, 3) else (0, 0)
end Go.Proofs.YteccglgbkehdeaaGreatDoor
/- scripts, the reference: Check. -/
set_option linter.unusedSimpArgs false
set_option linter.unusedVariables false
namespace Go.Proofs.YteccglgbkehdeaaGreatDoor

def evQ (lo hi : Int) (z : SrE) (bf : List SrE) : Int :=
  if (decide (hi > 0) && (decide (z.a < lo) || decide (z.a > hi))) = true then 7 else if (decide (z.kind = 1) && bf.any fun y => decide (y.kind = 1) && decide (y.a = z.a)) = true then 8 else 0

end Go.Proofs.YteccglgbkehdeaaGreatDoor
/- scripts, the reference: equal numbers, venues, gates, scripts. -/
set_option linter.unusedSimpArgs false
set_option linter.unusedVariables false
namespace Go.Proofs.YteccglgbkehdeaaGreatDoor

theorem ints_P (a b : List Int) (ha : a.length ≤ 100000) (hb : b.length ≤ 100000) : PC Tryz.prog 33 [.sv (.sl 1 (ic .i64 a)), .sv (.sl 1 (ic .i64 b))] (.b (decide (a = b))) := by
 refine ⟨LC.of_go Tryz.func33 (c := _) rfl (by kernel_rfl) (by rw [Tryz.ntmps33]; simp) rfl rfl (by simp [LO.lt, LV.lts, LV.lt, lts_sv]) (by simp) ?_⟩
 intro B hA hmd
 obtain ⟨g, e0⟩ : ∃ g, decide (a = b) = g := ⟨_, rfl⟩
 rw [e0]
 refine .seq ?_
 refine .region rfl ?_
 refine R.assign (h := ?_)
 refine .n0 ?_
 refine .seq ?_
 refine .seq ?_
 refine .region rfl ?_
 refine R.move (h := ?_)
 first | refine R.len S65 (h := ?_) | refine R.lenRs S65 (h := ?_) | refine R.lenV (run_lenNil S65) (h := ?_)
 rw [ic_len]
 refine R.move (h := ?_)
 first | refine R.len S65 (h := ?_) | refine R.lenRs S65 (h := ?_) | refine R.lenV (run_lenNil S65) (h := ?_)
 rw [ic_len]
 refine R.bin (run_neq _ _ _ _ _ _) (h := ?_)
 refine .n0 ?_
 refine LGo.ifb (ht := fun hc => ?_) (hf := fun hc => ?_)
 ·
  obtain rfl : g = false := by rw [← e0]; exact decide_eq_false (fun h => by rw [h] at hc; simp at hc)
  refine .seq ?_
  refine .region rfl ?_
  refine R.assign (h := ?_)
  refine .n0 ?_
  exact LGo.ret (ret_T Tryz.results33 hA hmd)
 ·
  have hll : a.length = b.length := by simp at hc; omega
  refine .skip ?_
  refine .seq ?_
  refine .seq ?_
  refine .region rfl ?_
  refine R.assign (h := ?_)
  refine .n0 ?_
  refine .block ?_
  refine .loop ?_
  refine LGo.loopG (σ := Nat) (fun x => x ≤ a.length ∧ a.take x = b.take x) (fun x => [(5, (true, .i (x : Nat)))]) (fun x => []) (fun x => a.length - x) (0) [(0, _), (1, _)] ⟨Nat.zero_le _, by simp⟩ (by repeat (first | exact trivial | refine ⟨rfl, ?_⟩)) (by repeat (first | exact trivial | refine ⟨rfl, ?_⟩)) (by repeat (first | exact trivial | refine ⟨rfl, ?_⟩)) ?_
  rintro k ⟨hk, hq⟩ ih
  refine .seq ?_
  refine .seq ?_
  refine .region rfl ?_
  refine R.move (h := ?_)
  refine R.move (h := ?_)
  first | refine R.len S65 (h := ?_) | refine R.lenRs S65 (h := ?_) | refine R.lenV (run_lenNil S65) (h := ?_)
  rw [ic_len]
  refine R.bin (run_lss _ _ _ _ _ _) (h := ?_)
  refine .n0 ?_
  refine LGo.ifd (ht := fun hc2 => ?_) (hf := fun hc2 => ?_)
  ·
   have hlt : k < a.length := by omega
   have hlt2 : k < b.length := by omega
   have hx := icA hlt
   have hy := icA hlt2
   have hp : a[k] = b[k] → a.take (k + 1) = b.take (k + 1) := fun h => by rw [List.take_succ_eq_append_getElem hlt, List.take_succ_eq_append_getElem hlt2, hq, h]
   have hn : a = b → a[k] = b[k] := fun h => by subst h; rfl
   generalize a[k] = p at hx hp hn
   generalize b[k] = q at hy hp hn
   refine .skip ?_
   refine .seq ?_
   refine .block ?_
   refine .seq ?_
   refine .region rfl ?_
   refine R.move (h := ?_)
   refine R.move (h := ?_)
   refine R.index I65 (hj := fun hg => ⟨by omega, hx⟩) (h := ?_)
   first | refine R.loadB O3 (h := ?_) | refine R.load1 O3 (h := ?_)
   refine R.move (h := ?_)
   refine R.move (h := ?_)
   refine R.index I65 (hj := fun hg => ⟨by omega, hy⟩) (h := ?_)
   first | refine R.loadB O3 (h := ?_) | refine R.load1 O3 (h := ?_)
   refine R.bin (run_neq _ _ _ _ _ _) (h := ?_)
   refine Reg.nil ⟨fun _ => ⟨mixedO, by rfl, by rfl⟩, ?_⟩
   refine LGo.ifb (ht := fun hc3 => ?_) (hf := fun hc3 => ?_)
   ·
    obtain rfl : g = false := by rw [← e0]; exact decide_eq_false (fun h => by rw [hn h] at hc3; simp at hc3)
    refine .seq ?_
    refine .region rfl ?_
    refine R.assign (h := ?_)
    refine .n0 ?_
    exact LGo.ret (ret_T Tryz.results33 hA hmd)
   ·
    have hp2 := hp (by simpa using hc3)
    refine .skip ?_
    refine .inBlock ?_
    refine .region rfl ?_
    refine R.move (h := ?_)
    first | refine R.add (h := ?_) | refine R.addW (h := ?_)
    refine R.assign (h := ?_)
    refine .n0 ?_
    refine .inLoop ?_
    exact LGo.next _ (fun o h => by have := (hA o).1 h; omega) (by omega) (ih (k + 1) ⟨by omega, hp2⟩ (by omega)) (by repeat (first | exact trivial | refine ⟨rfl, ?_⟩)) (by repeat (first | exact trivial | refine ⟨rfl, ?_⟩))
  ·
   obtain rfl : g = true := by rw [← e0]; exact decide_eq_true (by rwa [List.take_of_length_le (by omega), List.take_of_length_le (by omega)] at hq)
   refine .exit rfl ?_
   refine .seq ?_
   refine .region rfl ?_
   refine R.assign (h := ?_)
   refine .n0 ?_
   exact LGo.ret (ret_T Tryz.results33 hA hmd)

theorem ven_ext {a b : Ven} (h1 : a.shards = b.shards) (h2 : a.ttl = b.ttl) (h3 : a.session = b.session) (h4 : a.secs = b.secs) : a = b := by cases a; cases b; simp_all
theorem vn_ext {a b : VnS} (h1 : a.name = b.name) (h2 : a.rows = b.rows) (h3 : a.queue = b.queue) : a = b := by cases a; cases b; simp_all
theorem sc_ext {a b : Sc} (h1 : a.ven = b.ven) (h2 : a.key = b.key) (h3 : a.gates = b.gates) (h4 : a.workers = b.workers) (h5 : a.calls = b.calls) (h6 : a.evs = b.evs) : a = b := by cases a; cases b; simp_all
theorem srE_ne (x y : SrE) : (!((decide (x.kind = y.kind) && decide (x.a = y.a)) && decide (x.b = y.b))) = decide (x ≠ y) := by
  obtain ⟨a, b, c⟩ := x
  obtain ⟨d, e, f⟩ := y
  rw [Bool.eq_iff_iff]
  simp [SrE.mk.injEq, and_assoc, or_assoc]
theorem srC_ne (x y : SrC) : (!((((((((((decide (x.kind = y.kind) && decide (x.owner = y.owner)) && decide (x.tgt = y.tgt)) && decide (x.session = y.session)) && decide (x.ticket = y.ticket)) && decide (x.seat = y.seat)) && decide (x.sec = y.sec)) && decide (x.n = y.n)) && decide (x.gate = y.gate)) && decide (x.spoil = y.spoil)) && decide (x.raw = y.raw))) = decide (x ≠ y) := by
  obtain ⟨a, b, c, d, e, f, g, h, i, j, k⟩ := x
  obtain ⟨a', b', c', d', e', f', g', h', i', j', k'⟩ := y
  rw [Bool.eq_iff_iff]
  simp [SrC.mk.injEq, and_assoc, or_assoc]
structure Sc.sm2 (s : Sc) : Prop where
  vl : s.ven.secs.length ≤ 100000
  vr : ∀ x ∈ s.ven.secs, x.rows.length ≤ 100000
  gl : s.gates.length ≤ 100000
  gs : ∀ x ∈ s.gates, x.secs.length ≤ 100000
  cl : s.calls.length ≤ 100000
  el : s.evs.length ≤ 100000

theorem sameV_P (a b : Ven) (ha : a.secs.length ≤ 100000 ∧ ∀ x ∈ a.secs, x.rows.length ≤ 100000) (hb : b.secs.length ≤ 100000 ∧ ∀ x ∈ b.secs, x.rows.length ≤ 100000) : PC Tryz.prog 66 [.agg (a.c.map LV.sv), .agg (b.c.map LV.sv)] (.b (decide (a = b))) := by
 refine ⟨LC.of_go Tryz.func66 (c := _) rfl (by kernel_rfl) (by rw [Tryz.ntmps66]; simp) rfl rfl (by simp [LO.lt, LV.lts, LV.lt, lts_sv]) (by simp) ?_⟩
 intro B hA hmd
 obtain ⟨g, e0⟩ : ∃ g, decide (a = b) = g := ⟨_, rfl⟩
 rw [e0]
 obtain ⟨ha1, ha2⟩ := ha
 obtain ⟨hb1, hb2⟩ := hb
 refine .seq ?_
 refine .region rfl ?_
 refine R.box (h := ?_)
 refine R.box (h := ?_)
 refine R.assign (h := ?_)
 refine .n0 ?_
 refine .seq ?_
 refine .seq ?_
 refine .region rfl ?_
 first | refine R.field F24_0 (h := ?_) | refine R.fieldAt F24_0 (h := ?_)
 first | refine R.loadB O3 (h := ?_) | refine R.load1 O3 (h := ?_)
 first | refine R.field F24_0 (h := ?_) | refine R.fieldAt F24_0 (h := ?_)
 first | refine R.loadB O3 (h := ?_) | refine R.load1 O3 (h := ?_)
 refine R.bin (run_neq _ _ _ _ _ _) (h := ?_)
 refine R.move (h := ?_)
 first | refine R.field F24_1 (h := ?_) | refine R.fieldAt F24_1 (h := ?_)
 first | refine R.loadB O2 (h := ?_) | refine R.load1 O2 (h := ?_)
 first | refine R.field F24_1 (h := ?_) | refine R.fieldAt F24_1 (h := ?_)
 first | refine R.loadB O2 (h := ?_) | refine R.load1 O2 (h := ?_)
 refine R.bin (run_neq _ _ _ _ _ _) (h := ?_)
 refine R.or (h := ?_)
 refine R.move (h := ?_)
 first | refine R.field F24_2 (h := ?_) | refine R.fieldAt F24_2 (h := ?_)
 first | refine R.loadB O2 (h := ?_) | refine R.load1 O2 (h := ?_)
 first | refine R.field F24_2 (h := ?_) | refine R.fieldAt F24_2 (h := ?_)
 first | refine R.loadB O2 (h := ?_) | refine R.load1 O2 (h := ?_)
 refine R.bin (run_neq _ _ _ _ _ _) (h := ?_)
 refine R.or (h := ?_)
 refine R.move (h := ?_)
 first | refine R.field F24_3 (h := ?_) | refine R.fieldAt F24_3 (h := ?_)
 first | refine R.loadB O22 (h := ?_) | refine R.load1 O22 (h := ?_)
 first | refine R.len S22 (h := ?_) | refine R.lenRs S22 (h := ?_) | refine R.lenV (run_lenNil S22) (h := ?_)
 rw [List.length_map]
 first | refine R.field F24_3 (h := ?_) | refine R.fieldAt F24_3 (h := ?_)
 first | refine R.loadB O22 (h := ?_) | refine R.load1 O22 (h := ?_)
 first | refine R.len S22 (h := ?_) | refine R.lenRs S22 (h := ?_) | refine R.lenV (run_lenNil S22) (h := ?_)
 rw [List.length_map]
 refine R.bin (run_neq _ _ _ _ _ _) (h := ?_)
 refine R.or (h := ?_)
 refine .n0 ?_
 refine LGo.ifb (ht := fun hc => ?_) (hf := fun hc => ?_)
 ·
  obtain rfl : g = false := by rw [← e0]; exact decide_eq_false (fun h => by rw [h] at hc; simp at hc)
  refine .seq ?_
  refine .region rfl ?_
  refine R.assign (h := ?_)
  refine .n0 ?_
  exact LGo.ret (ret_T Tryz.results66 hA hmd)
 ·
  simp only [Bool.or_eq_false_iff, Bool.not_eq_eq_eq_not, Bool.not_false, decide_eq_true_eq] at hc
  obtain ⟨⟨⟨h1, h2⟩, h3⟩, h4⟩ := hc
  refine .skip ?_
  refine .seq ?_
  refine .seq ?_
  refine .region rfl ?_
  refine R.assign (h := ?_)
  refine .n0 ?_
  refine .block ?_
  refine .loop ?_
  refine LGo.loopG (σ := Nat) (fun x => x ≤ a.secs.length ∧ a.secs.take x = b.secs.take x) (fun x => [(5, (true, .i (x : Nat)))]) (fun x => [(0, .box 24 (a.c.map LV.sv)), (1, .box 24 (b.c.map LV.sv))]) (fun x => a.secs.length - x) (0) [(2, _), (3, _)] ⟨Nat.zero_le _, by simp⟩ (by repeat (first | exact trivial | refine ⟨rfl, ?_⟩)) (by repeat (first | exact trivial | refine ⟨rfl, ?_⟩)) (by repeat (first | exact trivial | refine ⟨rfl, ?_⟩)) ?_
  rintro k ⟨hk, hq⟩ ih
  refine .seq ?_
  refine .seq ?_
  refine .region rfl ?_
  refine R.move (h := ?_)
  first | refine R.field F24_3 (h := ?_) | refine R.fieldAt F24_3 (h := ?_)
  first | refine R.loadB O22 (h := ?_) | refine R.load1 O22 (h := ?_)
  first | refine R.len S22 (h := ?_) | refine R.lenRs S22 (h := ?_) | refine R.lenV (run_lenNil S22) (h := ?_)
  rw [List.length_map]
  refine R.bin (run_lss _ _ _ _ _ _) (h := ?_)
  refine .n0 ?_
  refine LGo.ifd (ht := fun hc2 => ?_) (hf := fun hc2 => ?_)
  ·
   have hlt : k < a.secs.length := by omega
   have hlt2 : k < b.secs.length := by omega
   have hx : (a.secs.map VnS.c)[((k : Nat) : Int).toNat]? = some a.secs[k].c := by simp [hlt]
   have hy : (b.secs.map VnS.c)[((k : Nat) : Int).toNat]? = some b.secs[k].c := by simp [hlt2]
   have hp : a.secs[k] = b.secs[k] → a.secs.take (k + 1) = b.secs.take (k + 1) := fun h => by rw [List.take_succ_eq_append_getElem hlt, List.take_succ_eq_append_getElem hlt2, hq, h]
   have hn : a = b → a.secs[k] = b.secs[k] := fun h => by subst h; rfl
   have hxl := ha2 _ (List.getElem_mem hlt)
   have hyl := hb2 _ (List.getElem_mem hlt2)
   generalize a.secs[k] = ga at hx hp hn hxl
   generalize b.secs[k] = gb at hy hp hn hyl
   refine .skip ?_
   refine .seq ?_
   refine .block ?_
   refine .seq ?_
   refine .region rfl ?_
   first | refine R.field F24_3 (h := ?_) | refine R.fieldAt F24_3 (h := ?_)
   first | refine R.loadB O22 (h := ?_) | refine R.load1 O22 (h := ?_)
   refine R.move (h := ?_)
   refine R.index I22 (hj := fun hg => ⟨by omega, hx⟩) (h := ?_)
   first | refine R.loadA A80 (h := ?_) | refine R.loadN A80 (h := ?_) | refine R.loadP A80 (h := ?_)
   first | refine R.field F24_3 (h := ?_) | refine R.fieldAt F24_3 (h := ?_)
   first | refine R.loadB O22 (h := ?_) | refine R.load1 O22 (h := ?_)
   refine R.move (h := ?_)
   refine R.index I22 (hj := fun hg => ⟨by omega, hy⟩) (h := ?_)
   first | refine R.loadA A80 (h := ?_) | refine R.loadN A80 (h := ?_) | refine R.loadP A80 (h := ?_)
   refine R.alloc Z80 (h := ?_)
   refine R.alloc Z80 (h := ?_)
   refine R.storeA A80 (h := ?_)
   refine R.storeA A80 (h := ?_)
   refine Reg.nil ⟨fun _ => ⟨mixedO, by rfl, by rfl⟩, ?_⟩
   refine .seq ?_
   refine .region rfl ?_
   first | refine R.field F80_0 (h := ?_) | refine R.fieldAt F80_0 (h := ?_)
   first | refine R.loadB O9 (h := ?_) | refine R.load1 O9 (h := ?_)
   first | refine R.field F80_0 (h := ?_) | refine R.fieldAt F80_0 (h := ?_)
   first | refine R.loadB O9 (h := ?_) | refine R.load1 O9 (h := ?_)
   refine R.bin (run_neqT _ _ _ _ _) (h := ?_)
   refine R.move (h := ?_)
   first | refine R.field F80_2 (h := ?_) | refine R.fieldAt F80_2 (h := ?_)
   first | refine R.loadB O3 (h := ?_) | refine R.load1 O3 (h := ?_)
   first | refine R.field F80_2 (h := ?_) | refine R.fieldAt F80_2 (h := ?_)
   first | refine R.loadB O3 (h := ?_) | refine R.load1 O3 (h := ?_)
   refine R.bin (run_neq _ _ _ _ _ _) (h := ?_)
   refine R.or (h := ?_)
   refine R.move (h := ?_)
   first | refine R.field F80_1 (h := ?_) | refine R.fieldAt F80_1 (h := ?_)
   first | refine R.loadB O65 (h := ?_) | refine R.load1 O65 (h := ?_)
   first | refine R.field F80_1 (h := ?_) | refine R.fieldAt F80_1 (h := ?_)
   first | refine R.loadB O65 (h := ?_) | refine R.load1 O65 (h := ?_)
   refine R.callP (es := [_, _]) (fun _ => ints_P ga.rows gb.rows hxl hyl) (h := ?_)
   refine R.not (h := ?_)
   refine R.or (h := ?_)
   refine .n0 ?_
   refine LGo.ifb (ht := fun hc3 => ?_) (hf := fun hc3 => ?_)
   ·
    obtain rfl : g = false := by rw [← e0]; exact decide_eq_false (fun h => by rw [hn h] at hc3; simp at hc3)
    refine .seq ?_
    refine .region rfl ?_
    refine R.assign (h := ?_)
    refine .n0 ?_
    exact LGo.ret (ret_T Tryz.results66 hA hmd)
   ·
    simp only [Bool.or_eq_false_iff, Bool.not_eq_eq_eq_not, Bool.not_false, decide_eq_true_eq] at hc3
    obtain ⟨⟨hf1, hf2⟩, hf3⟩ := hc3
    refine .skip ?_
    refine .inBlock ?_
    refine .region rfl ?_
    refine R.move (h := ?_)
    first | refine R.add (h := ?_) | refine R.addW (h := ?_)
    refine R.assign (h := ?_)
    refine .n0 ?_
    refine .inLoop ?_
    exact LGo.next _ (fun o h => by have := (hA o).1 h; omega) (by omega) (ih (k + 1) ⟨by omega, hp (vn_ext hf1 hf3 hf2)⟩ (by omega)) (by repeat (first | exact trivial | refine ⟨rfl, ?_⟩)) ⟨rfl, rfl, trivial⟩
  ·
   obtain rfl : g = true := by rw [← e0]; exact decide_eq_true (ven_ext h1 h2 h3 (by rwa [List.take_of_length_le (by omega), List.take_of_length_le (by omega)] at hq))
   refine .exit rfl ?_
   refine .seq ?_
   refine .region rfl ?_
   refine R.assign (h := ?_)
   refine .n0 ?_
   exact LGo.ret (ret_T Tryz.results66 hA hmd)

theorem ext_g {a b : GtS} (h1 : a.gates = b.gates) (h2 : a.ents = b.ents) : a = b := by cases a; cases b; simp_all
theorem en_eq (x y : GtE) : (!((((decide (x.seat = y.seat) && decide (x.serial = y.serial)) && decide (x.epoch = y.epoch)) && decide (x.gate = y.gate)) && decide (x.time = y.time))) = decide (x ≠ y) := by
  obtain ⟨a, b, c, d, e⟩ := x
  obtain ⟨a', b', c', d', e'⟩ := y
  rw [Bool.eq_iff_iff]
  simp only [Bool.not_eq_true', Bool.and_eq_false_iff, decide_eq_false_iff_not, decide_eq_true_eq, ne_eq, GtE.mk.injEq]
  omega

theorem same_P (a b : GtS) (ha : SmS a) (hb : SmS b) : PC Tryz.prog 142 [.agg (a.c.map LV.sv), .agg (b.c.map LV.sv)] (.b (decide (a = b))) := by
 refine ⟨LC.of_go Tryz.func142 (c := _) rfl (by kernel_rfl) (by rw [Tryz.ntmps142]; simp) rfl rfl (by simp [LO.lt, LV.lts, LV.lt, lts_sv]) (by simp) ?_⟩
 intro B hA hmd
 obtain ⟨g, e0⟩ : ∃ g, decide (a = b) = g := ⟨_, rfl⟩
 rw [e0]
 obtain ⟨⟨ha1, ha2⟩, ha3, _⟩ := ha
 obtain ⟨⟨hb1, hb2⟩, hb3, _⟩ := hb
 refine .seq ?_
 refine .region rfl ?_
 refine R.box (h := ?_)
 refine R.box (h := ?_)
 refine R.assign (h := ?_)
 refine .n0 ?_
 refine .seq ?_
 refine .seq ?_
 refine .region rfl ?_
 first | refine R.field F99_0 (h := ?_) | refine R.fieldAt F99_0 (h := ?_)
 first | refine R.loadB O25 (h := ?_) | refine R.load1 O25 (h := ?_)
 first | refine R.len S25 (h := ?_) | refine R.lenRs S25 (h := ?_) | refine R.lenV (run_lenNil S25) (h := ?_)
 rw [List.length_map]
 first | refine R.field F99_0 (h := ?_) | refine R.fieldAt F99_0 (h := ?_)
 first | refine R.loadB O25 (h := ?_) | refine R.load1 O25 (h := ?_)
 first | refine R.len S25 (h := ?_) | refine R.lenRs S25 (h := ?_) | refine R.lenV (run_lenNil S25) (h := ?_)
 rw [List.length_map]
 refine R.bin (run_neq _ _ _ _ _ _) (h := ?_)
 refine R.move (h := ?_)
 first | refine R.field F99_1 (h := ?_) | refine R.fieldAt F99_1 (h := ?_)
 first | refine R.loadB O97 (h := ?_) | refine R.load1 O97 (h := ?_)
 first | refine R.len S97 (h := ?_) | refine R.lenRs S97 (h := ?_) | refine R.lenV (run_lenNil S97) (h := ?_)
 rw [List.length_map]
 first | refine R.field F99_1 (h := ?_) | refine R.fieldAt F99_1 (h := ?_)
 first | refine R.loadB O97 (h := ?_) | refine R.load1 O97 (h := ?_)
 first | refine R.len S97 (h := ?_) | refine R.lenRs S97 (h := ?_) | refine R.lenV (run_lenNil S97) (h := ?_)
 rw [List.length_map]
 refine R.bin (run_neq _ _ _ _ _ _) (h := ?_)
 refine R.or (h := ?_)
 refine .n0 ?_
 refine LGo.ifb (ht := fun hc => ?_) (hf := fun hc => ?_)
 ·
  obtain rfl : g = false := by rw [← e0]; exact decide_eq_false (fun h => by rw [h] at hc; simp at hc)
  refine .seq ?_
  refine .region rfl ?_
  refine R.assign (h := ?_)
  refine .n0 ?_
  exact LGo.ret (ret_T Tryz.results142 hA hmd)
 ·
  simp only [Bool.or_eq_false_iff, Bool.not_eq_eq_eq_not, Bool.not_false, decide_eq_true_eq] at hc
  obtain ⟨hgl, hel⟩ := hc
  refine .skip ?_
  refine .seq ?_
  refine .seq ?_
  refine .region rfl ?_
  refine R.assign (h := ?_)
  refine .n0 ?_
  refine .block ?_
  refine .loop ?_
  refine LGo.loopG (σ := Nat) (fun x => x ≤ a.gates.length ∧ a.gates.take x = b.gates.take x) (fun x => [(5, (true, .i (x : Nat)))]) (fun x => [(0, .box 99 (a.c.map LV.sv)), (1, .box 99 (b.c.map LV.sv))]) (fun x => a.gates.length - x) (0) [(2, _), (3, _)] ⟨Nat.zero_le _, by simp⟩ (by repeat (first | exact trivial | refine ⟨rfl, ?_⟩)) (by repeat (first | exact trivial | refine ⟨rfl, ?_⟩)) (by repeat (first | exact trivial | refine ⟨rfl, ?_⟩)) ?_
  rintro k ⟨hk, hq⟩ ih
  refine .seq ?_
  refine .seq ?_
  refine .region rfl ?_
  refine R.move (h := ?_)
  first | refine R.field F99_0 (h := ?_) | refine R.fieldAt F99_0 (h := ?_)
  first | refine R.loadB O25 (h := ?_) | refine R.load1 O25 (h := ?_)
  first | refine R.len S25 (h := ?_) | refine R.lenRs S25 (h := ?_) | refine R.lenV (run_lenNil S25) (h := ?_)
  rw [List.length_map]
  refine R.bin (run_lss _ _ _ _ _ _) (h := ?_)
  refine .n0 ?_
  refine LGo.ifd (ht := fun hc2 => ?_) (hf := fun hc2 => ?_)
  ·
   have hlt : k < a.gates.length := by omega
   have hlt2 : k < b.gates.length := by omega
   have hx : (a.gates.map GtG.c)[((k : Nat) : Int).toNat]? = some a.gates[k].c := by simp [hlt]
   have hy : (b.gates.map GtG.c)[((k : Nat) : Int).toNat]? = some b.gates[k].c := by simp [hlt2]
   have hp : a.gates[k] = b.gates[k] → a.gates.take (k + 1) = b.gates.take (k + 1) := fun h => by rw [List.take_succ_eq_append_getElem hlt, List.take_succ_eq_append_getElem hlt2, hq, h]
   have hn : a = b → a.gates[k] = b.gates[k] := fun h => by subst h; rfl
   have hxl := ha2 _ (List.getElem_mem hlt)
   have hyl := hb2 _ (List.getElem_mem hlt2)
   generalize a.gates[k] = ga at hx hp hn hxl
   generalize b.gates[k] = gb at hy hp hn hyl
   refine .skip ?_
   refine .seq ?_
   refine .block ?_
   refine .seq ?_
   refine .region rfl ?_
   first | refine R.field F99_0 (h := ?_) | refine R.fieldAt F99_0 (h := ?_)
   first | refine R.loadB O25 (h := ?_) | refine R.load1 O25 (h := ?_)
   refine R.move (h := ?_)
   refine R.index I25 (hj := fun hg => ⟨by omega, hx⟩) (h := ?_)
   first | refine R.loadA A71 (h := ?_) | refine R.loadN A71 (h := ?_) | refine R.loadP A71 (h := ?_)
   first | refine R.field F99_0 (h := ?_) | refine R.fieldAt F99_0 (h := ?_)
   first | refine R.loadB O25 (h := ?_) | refine R.load1 O25 (h := ?_)
   refine R.move (h := ?_)
   refine R.index I25 (hj := fun hg => ⟨by omega, hy⟩) (h := ?_)
   first | refine R.loadA A71 (h := ?_) | refine R.loadN A71 (h := ?_) | refine R.loadP A71 (h := ?_)
   refine R.alloc Z71 (h := ?_)
   refine R.alloc Z71 (h := ?_)
   refine R.storeA A71 (h := ?_)
   refine R.storeA A71 (h := ?_)
   refine Reg.nil ⟨fun _ => ⟨mixedO, by rfl, by rfl⟩, ?_⟩
   refine .seq ?_
   refine .seq ?_
   refine .region rfl ?_
   first | refine R.field F71_1 (h := ?_) | refine R.fieldAt F71_1 (h := ?_)
   first | refine R.loadB O2 (h := ?_) | refine R.load1 O2 (h := ?_)
   first | refine R.field F71_1 (h := ?_) | refine R.fieldAt F71_1 (h := ?_)
   first | refine R.loadB O2 (h := ?_) | refine R.load1 O2 (h := ?_)
   refine R.bin (run_neq _ _ _ _ _ _) (h := ?_)
   refine R.move (h := ?_)
   first | refine R.field F71_2 (h := ?_) | refine R.fieldAt F71_2 (h := ?_)
   first | refine R.loadB O2 (h := ?_) | refine R.load1 O2 (h := ?_)
   first | refine R.field F71_2 (h := ?_) | refine R.fieldAt F71_2 (h := ?_)
   first | refine R.loadB O2 (h := ?_) | refine R.load1 O2 (h := ?_)
   refine R.bin (run_neq _ _ _ _ _ _) (h := ?_)
   refine R.or (h := ?_)
   refine R.move (h := ?_)
   first | refine R.field F71_0 (h := ?_) | refine R.fieldAt F71_0 (h := ?_)
   first | refine R.loadB O65 (h := ?_) | refine R.load1 O65 (h := ?_)
   first | refine R.len S65 (h := ?_) | refine R.lenRs S65 (h := ?_) | refine R.lenV (run_lenNil S65) (h := ?_)
   rw [ic_len]
   first | refine R.field F71_0 (h := ?_) | refine R.fieldAt F71_0 (h := ?_)
   first | refine R.loadB O65 (h := ?_) | refine R.load1 O65 (h := ?_)
   first | refine R.len S65 (h := ?_) | refine R.lenRs S65 (h := ?_) | refine R.lenV (run_lenNil S65) (h := ?_)
   rw [ic_len]
   refine R.bin (run_neq _ _ _ _ _ _) (h := ?_)
   refine R.or (h := ?_)
   refine .n0 ?_
   refine LGo.ifb (ht := fun hc3 => ?_) (hf := fun hc3 => ?_)
   ·
    obtain rfl : g = false := by rw [← e0]; exact decide_eq_false (fun h => by rw [hn h] at hc3; simp at hc3)
    refine .seq ?_
    refine .region rfl ?_
    refine R.assign (h := ?_)
    refine .n0 ?_
    exact LGo.ret (ret_T Tryz.results142 hA hmd)
   ·
    simp only [Bool.or_eq_false_iff, Bool.not_eq_eq_eq_not, Bool.not_false, decide_eq_true_eq] at hc3
    obtain ⟨⟨hf1, hf2⟩, hf3⟩ := hc3
    refine .skip ?_
    refine .seq ?_
    refine .region rfl ?_
    refine R.assign (h := ?_)
    refine .n0 ?_
    refine .block ?_
    refine .loop ?_
    refine LGo.loopG (σ := Nat) (fun x => x ≤ ga.secs.length ∧ ga.secs.take x = gb.secs.take x) (fun x => [(8, (true, .i (x : Nat)))]) (fun x => [(0, .box 99 (a.c.map LV.sv)), (1, .box 99 (b.c.map LV.sv)), (2, .box 71 (ga.c.map LV.sv)), (3, .box 71 (gb.c.map LV.sv))]) (fun x => ga.secs.length - x) (0) [(2, _), (3, _), (5, _), (6, _), (7, _), (49, _), (50, _), (51, _), (52, _), (53, _), (56, _), (57, _), (58, _), (59, _), (60, _), (61, _), (62, _)] ⟨Nat.zero_le _, by simp⟩ (by repeat (first | exact trivial | refine ⟨rfl, ?_⟩)) (by repeat (first | exact trivial | refine ⟨rfl, ?_⟩)) (by repeat (first | exact trivial | refine ⟨rfl, ?_⟩)) ?_
    rintro j ⟨hj, hq2⟩ ih2
    refine .seq ?_
    refine .seq ?_
    refine .region rfl ?_
    refine R.move (h := ?_)
    first | refine R.field F71_0 (h := ?_) | refine R.fieldAt F71_0 (h := ?_)
    first | refine R.loadB O65 (h := ?_) | refine R.load1 O65 (h := ?_)
    first | refine R.len S65 (h := ?_) | refine R.lenRs S65 (h := ?_) | refine R.lenV (run_lenNil S65) (h := ?_)
    rw [ic_len]
    refine R.bin (run_lss _ _ _ _ _ _) (h := ?_)
    refine .n0 ?_
    refine LGo.ifd (ht := fun hc4 => ?_) (hf := fun hc4 => ?_)
    ·
     have hltj : j < ga.secs.length := by omega
     have hltj2 : j < gb.secs.length := by omega
     have hx2 := icA hltj
     have hy2 := icA hltj2
     have hp2 : ga.secs[j] = gb.secs[j] → ga.secs.take (j + 1) = gb.secs.take (j + 1) := fun h => by rw [List.take_succ_eq_append_getElem hltj, List.take_succ_eq_append_getElem hltj2, hq2, h]
     have hn2 : ga = gb → ga.secs[j] = gb.secs[j] := fun h => by subst h; rfl
     generalize ga.secs[j] = p at hx2 hp2 hn2
     generalize gb.secs[j] = q at hy2 hp2 hn2
     refine .skip ?_
     refine .seq ?_
     refine .block ?_
     refine .seq ?_
     refine .region rfl ?_
     first | refine R.field F71_0 (h := ?_) | refine R.fieldAt F71_0 (h := ?_)
     first | refine R.loadB O65 (h := ?_) | refine R.load1 O65 (h := ?_)
     refine R.move (h := ?_)
     refine R.index I65 (hj := fun hg => ⟨by omega, hx2⟩) (h := ?_)
     first | refine R.loadB O3 (h := ?_) | refine R.load1 O3 (h := ?_)
     first | refine R.field F71_0 (h := ?_) | refine R.fieldAt F71_0 (h := ?_)
     first | refine R.loadB O65 (h := ?_) | refine R.load1 O65 (h := ?_)
     refine R.move (h := ?_)
     refine R.index I65 (hj := fun hg => ⟨by omega, hy2⟩) (h := ?_)
     first | refine R.loadB O3 (h := ?_) | refine R.load1 O3 (h := ?_)
     refine R.bin (run_neq _ _ _ _ _ _) (h := ?_)
     refine Reg.nil ⟨fun _ => ⟨mixedO, by rfl, by rfl⟩, ?_⟩
     refine LGo.ifb (ht := fun hc5 => ?_) (hf := fun hc5 => ?_)
     ·
      obtain rfl : g = false := by rw [← e0]; exact decide_eq_false (fun h => by rw [hn2 (hn h)] at hc5; simp at hc5)
      refine .seq ?_
      refine .region rfl ?_
      refine R.assign (h := ?_)
      refine .n0 ?_
      exact LGo.ret (ret_T Tryz.results142 hA hmd)
     ·
      have hp3 := hp2 (by simpa using hc5)
      refine .skip ?_
      refine .inBlock ?_
      refine .region rfl ?_
      refine R.move (h := ?_)
      first | refine R.add (h := ?_) | refine R.addW (h := ?_)
      refine R.assign (h := ?_)
      refine .n0 ?_
      refine .inLoop ?_
      exact LGo.next _ (fun o h => by have := (hA o).1 h; omega) (by omega) (ih2 (j + 1) ⟨by omega, hp3⟩ (by omega)) (by repeat (first | exact trivial | refine ⟨rfl, ?_⟩)) ⟨rfl, rfl, rfl, rfl, trivial⟩
    ·
     have hxy : ga = gb := by
       obtain ⟨x1, x2, x3⟩ := ga
       obtain ⟨y1, y2, y3⟩ := gb
       dsimp only at hf1 hf2 hf3 hq2 hj hc4
       rw [List.take_of_length_le (by omega), List.take_of_length_le (by omega)] at hq2
       rw [hf1, hf2, hq2]
     refine .exit rfl ?_
     refine .inBlock ?_
     refine .region rfl ?_
     refine R.move (h := ?_)
     first | refine R.add (h := ?_) | refine R.addW (h := ?_)
     refine R.assign (h := ?_)
     refine .n0 ?_
     refine .inLoop ?_
     exact LGo.next _ (fun o h => by have := (hA o).1 h; omega) (by omega) (ih (k + 1) ⟨by omega, hp hxy⟩ (by omega)) (by repeat (first | exact trivial | refine ⟨rfl, ?_⟩)) ⟨rfl, rfl, trivial⟩
  ·
   have hgg : a.gates = b.gates := by rwa [List.take_of_length_le (by omega), List.take_of_length_le (by omega)] at hq
   refine .exit rfl ?_
   refine .seq ?_
   refine .seq ?_
   refine .region rfl ?_
   refine R.assign (h := ?_)
   refine .n0 ?_
   refine .block ?_
   refine .loop ?_
   refine LGo.loopG (σ := Nat) (fun x => x ≤ a.ents.length ∧ a.ents.take x = b.ents.take x) (fun x => [(9, (true, .i (x : Nat)))]) (fun x => [(0, .box 99 (a.c.map LV.sv)), (1, .box 99 (b.c.map LV.sv))]) (fun x => a.ents.length - x) (0) [(2, _), (3, _)] ⟨Nat.zero_le _, by simp⟩ (by repeat (first | exact trivial | refine ⟨rfl, ?_⟩)) (by repeat (first | exact trivial | refine ⟨rfl, ?_⟩)) (by repeat (first | exact trivial | refine ⟨rfl, ?_⟩)) ?_
   rintro m ⟨hm, hq3⟩ ih3
   refine .seq ?_
   refine .seq ?_
   refine .region rfl ?_
   refine R.move (h := ?_)
   first | refine R.field F99_1 (h := ?_) | refine R.fieldAt F99_1 (h := ?_)
   first | refine R.loadB O97 (h := ?_) | refine R.load1 O97 (h := ?_)
   first | refine R.len S97 (h := ?_) | refine R.lenRs S97 (h := ?_) | refine R.lenV (run_lenNil S97) (h := ?_)
   rw [List.length_map]
   refine R.bin (run_lss _ _ _ _ _ _) (h := ?_)
   refine .n0 ?_
   refine LGo.ifd (ht := fun hc6 => ?_) (hf := fun hc6 => ?_)
   ·
    have hlt : m < a.ents.length := by omega
    have hlt2 : m < b.ents.length := by omega
    have hx : (a.ents.map GtE.c)[((m : Nat) : Int).toNat]? = some a.ents[m].c := by simp [hlt]
    have hy : (b.ents.map GtE.c)[((m : Nat) : Int).toNat]? = some b.ents[m].c := by simp [hlt2]
    have hp : a.ents[m] = b.ents[m] → a.ents.take (m + 1) = b.ents.take (m + 1) := fun h => by rw [List.take_succ_eq_append_getElem hlt, List.take_succ_eq_append_getElem hlt2, hq3, h]
    have hn : a = b → a.ents[m] = b.ents[m] := fun h => by subst h; rfl
    generalize a.ents[m] = x at hx hp hn
    generalize b.ents[m] = y at hy hp hn
    refine .skip ?_
    refine .seq ?_
    refine .block ?_
    refine .seq ?_
    refine .region rfl ?_
    first | refine R.field F99_1 (h := ?_) | refine R.fieldAt F99_1 (h := ?_)
    first | refine R.loadB O97 (h := ?_) | refine R.load1 O97 (h := ?_)
    refine R.move (h := ?_)
    refine R.index I97 (hj := fun hg => ⟨by omega, hx⟩) (h := ?_)
    first | refine R.loadA A178 (h := ?_) | refine R.loadN A178 (h := ?_) | refine R.loadP A178 (h := ?_)
    first | refine R.field F99_1 (h := ?_) | refine R.fieldAt F99_1 (h := ?_)
    first | refine R.loadB O97 (h := ?_) | refine R.load1 O97 (h := ?_)
    refine R.move (h := ?_)
    refine R.index I97 (hj := fun hg => ⟨by omega, hy⟩) (h := ?_)
    first | refine R.loadA A178 (h := ?_) | refine R.loadN A178 (h := ?_) | refine R.loadP A178 (h := ?_)
    refine R.binA (NE178 _ _ _ _ _ _ _ _ _ _ _ _) (h := ?_)
    rw [en_eq]
    refine Reg.nil ⟨fun _ => ⟨mixedO, by rfl, by rfl⟩, ?_⟩
    refine LGo.ifb (ht := fun hc7 => ?_) (hf := fun hc7 => ?_)
    ·
     obtain rfl : g = false := by rw [← e0]; exact decide_eq_false (fun h => absurd (hn h) (of_decide_eq_true hc7))
     refine .seq ?_
     refine .region rfl ?_
     refine R.assign (h := ?_)
     refine .n0 ?_
     exact LGo.ret (ret_T Tryz.results142 hA hmd)
    ·
     have hp2 := hp (Decidable.of_not_not (of_decide_eq_false hc7))
     refine .skip ?_
     refine .inBlock ?_
     refine .region rfl ?_
     refine R.move (h := ?_)
     first | refine R.add (h := ?_) | refine R.addW (h := ?_)
     refine R.assign (h := ?_)
     refine .n0 ?_
     refine .inLoop ?_
     exact LGo.next _ (fun o h => by have := (hA o).1 h; omega) (by omega) (ih3 (m + 1) ⟨by omega, hp2⟩ (by omega)) (by repeat (first | exact trivial | refine ⟨rfl, ?_⟩)) ⟨rfl, rfl, trivial⟩
   ·
    obtain rfl : g = true := by rw [← e0]; refine decide_eq_true (ext_g hgg ?_); rwa [List.take_of_length_le (by omega), List.take_of_length_le (by omega)] at hq3
    refine .exit rfl ?_
    refine .seq ?_
    refine .region rfl ?_
    refine R.assign (h := ?_)
    refine .n0 ?_
    exact LGo.ret (ret_T Tryz.results142 hA hmd)

theorem sameG_P (a b : List GtG) (ha : SmG a) (hb : SmG b) : PC Tryz.prog 142 [.agg [.sv (.sl 3 (a.map GtG.c)), .v (.slice none 0 0)], .agg [.sv (.sl 3 (b.map GtG.c)), .v (.slice none 0 0)]] (.b (decide (a = b))) := by
  have h := same_P ⟨a, []⟩ ⟨b, []⟩ ⟨ha, Nat.zero_le _, fun _ h => by cases h⟩ ⟨hb, Nat.zero_le _, fun _ h => by cases h⟩
  have e : decide ((⟨a, []⟩ : GtS) = ⟨b, []⟩) = decide (a = b) := by rw [decide_eq_decide]; simp
  rw [e] at h
  refine PC.args h (by simp [LV.lts, LV.lt]) (fun cx w vs hv => ?_)
  have one : ∀ (l : List GtG) (x : Value), V cx w (.agg [.sv (.sl 3 (l.map GtG.c)), .v (.slice none 0 0)]) x → V cx w (.agg ((GtS.c ⟨l, []⟩).map LV.sv)) x := by
    intro l x hx
    simp only [V] at hx ⊢
    obtain ⟨us, rfl, hu⟩ := hx
    refine ⟨us, rfl, ?_⟩
    simp only [Vs] at hu
    obtain ⟨u1, r1, rfl, k1, u2, r2, rfl, k2, rfl⟩ := hu
    show Vs cx w [.sv (.sl 3 (l.map GtG.c)), .sv (.sl 5 [])] [u1, u2]
    simp only [Vs]
    refine ⟨u1, [u2], rfl, k1, u2, [], rfl, ?_, rfl⟩
    simp only [V, VS] at k2 ⊢
    exact .inl ⟨.inl k2, trivial⟩
  simp only [Vs] at hv ⊢
  obtain ⟨v1, r1, rfl, k1, v2, r2, rfl, k2, rfl⟩ := hv
  exact ⟨v1, [v2], rfl, one a v1 k1, v2, [], rfl, one b v2 k2, rfl⟩

theorem gates30_P (a b : List GtG) (ha : SmG a) (hb : SmG b) : PC Tryz.prog 67 [.sv (.sl 3 (a.map GtG.c)), .sv (.sl 3 (b.map GtG.c))] (.b (decide (a = b))) := by
 refine ⟨LC.of_go Tryz.func67 (c := _) rfl (by kernel_rfl) (by rw [Tryz.ntmps67]; simp) rfl rfl (by simp [LO.lt, LV.lts, LV.lt, lts_sv]) (by simp) ?_⟩
 intro B hA hmd
 refine .seq ?_
 refine .region rfl ?_
 refine R.assign (h := ?_)
 refine .n0 ?_
 refine .seq ?_
 refine .region rfl ?_
 refine R.move (h := ?_)
 refine R.build BF99 (is := [0]) (xs := [_]) (es := [_]) (h := ?_)
 refine R.move (h := ?_)
 refine R.build BF99 (is := [0]) (xs := [_]) (es := [_]) (h := ?_)
 refine R.callP (es := [_, _]) (fun _ => sameG_P a b ha hb) (h := ?_)
 refine R.assign (h := ?_)
 refine .n0 ?_
 exact LGo.ret (ret_T Tryz.results67 hA hmd)

theorem sameR_P (a b : Sc) (ha : a.sm2) (hb : b.sm2) : PC Tryz.prog 17 [.agg (a.c.map LV.sv), .agg (b.c.map LV.sv)] (.b (decide (a = b))) := by
 refine ⟨LC.of_go Tryz.func17 (c := _) rfl (by kernel_rfl) (by rw [Tryz.ntmps17]; simp) rfl rfl (by simp [LO.lt, LV.lts, LV.lt, lts_sv]) (by simp) ?_⟩
 intro B hA hmd
 obtain ⟨g, e0⟩ : ∃ g, decide (a = b) = g := ⟨_, rfl⟩
 rw [e0]
 have q1 := ha.cl
 have q2 := hb.cl
 have q3 := ha.el
 have q4 := hb.el
 refine .seq ?_
 refine .region rfl ?_
 refine R.box (h := ?_)
 refine R.box (h := ?_)
 refine R.assign (h := ?_)
 refine .n0 ?_
 refine .seq ?_
 refine .seq ?_
 refine .region rfl ?_
 first | refine R.field F29_0 (h := ?_) | refine R.fieldAt F29_0 (h := ?_)
 first | refine R.loadA A24 (h := ?_) | refine R.loadN A24 (h := ?_) | refine R.loadP A24 (h := ?_)
 first | refine R.field F29_0 (h := ?_) | refine R.fieldAt F29_0 (h := ?_)
 first | refine R.loadA A24 (h := ?_) | refine R.loadN A24 (h := ?_) | refine R.loadP A24 (h := ?_)
 refine R.callP (es := [_, _]) (fun _ => sameV_P a.ven b.ven ⟨ha.vl, ha.vr⟩ ⟨hb.vl, hb.vr⟩) (h := ?_)
 refine R.not (h := ?_)
 refine R.move (h := ?_)
 first | refine R.field F29_1 (h := ?_) | refine R.fieldAt F29_1 (h := ?_)
 first | refine R.loadB O9 (h := ?_) | refine R.load1 O9 (h := ?_)
 first | refine R.field F29_1 (h := ?_) | refine R.fieldAt F29_1 (h := ?_)
 first | refine R.loadB O9 (h := ?_) | refine R.load1 O9 (h := ?_)
 refine R.bin (run_neqT _ _ _ _ _) (h := ?_)
 refine R.or (h := ?_)
 refine R.move (h := ?_)
 first | refine R.field F29_3 (h := ?_) | refine R.fieldAt F29_3 (h := ?_)
 first | refine R.loadB O3 (h := ?_) | refine R.load1 O3 (h := ?_)
 first | refine R.field F29_3 (h := ?_) | refine R.fieldAt F29_3 (h := ?_)
 first | refine R.loadB O3 (h := ?_) | refine R.load1 O3 (h := ?_)
 refine R.bin (run_neq _ _ _ _ _ _) (h := ?_)
 refine R.or (h := ?_)
 refine R.move (h := ?_)
 first | refine R.field F29_2 (h := ?_) | refine R.fieldAt F29_2 (h := ?_)
 first | refine R.loadB O25 (h := ?_) | refine R.load1 O25 (h := ?_)
 first | refine R.field F29_2 (h := ?_) | refine R.fieldAt F29_2 (h := ?_)
 first | refine R.loadB O25 (h := ?_) | refine R.load1 O25 (h := ?_)
 refine R.callP (es := [_, _]) (fun _ => gates30_P a.gates b.gates ⟨ha.gl, ha.gs⟩ ⟨hb.gl, hb.gs⟩) (h := ?_)
 refine R.not (h := ?_)
 refine R.or (h := ?_)
 refine R.move (h := ?_)
 first | refine R.field F29_4 (h := ?_) | refine R.fieldAt F29_4 (h := ?_)
 first | refine R.loadB O26 (h := ?_) | refine R.load1 O26 (h := ?_)
 first | refine R.len S26 (h := ?_) | refine R.lenRs S26 (h := ?_) | refine R.lenV (run_lenNil S26) (h := ?_)
 rw [List.length_map]
 first | refine R.field F29_4 (h := ?_) | refine R.fieldAt F29_4 (h := ?_)
 first | refine R.loadB O26 (h := ?_) | refine R.load1 O26 (h := ?_)
 first | refine R.len S26 (h := ?_) | refine R.lenRs S26 (h := ?_) | refine R.lenV (run_lenNil S26) (h := ?_)
 rw [List.length_map]
 refine R.bin (run_neq _ _ _ _ _ _) (h := ?_)
 refine R.or (h := ?_)
 refine R.move (h := ?_)
 first | refine R.field F29_5 (h := ?_) | refine R.fieldAt F29_5 (h := ?_)
 first | refine R.loadB O27 (h := ?_) | refine R.load1 O27 (h := ?_)
 first | refine R.len S27 (h := ?_) | refine R.lenRs S27 (h := ?_) | refine R.lenV (run_lenNil S27) (h := ?_)
 rw [List.length_map]
 first | refine R.field F29_5 (h := ?_) | refine R.fieldAt F29_5 (h := ?_)
 first | refine R.loadB O27 (h := ?_) | refine R.load1 O27 (h := ?_)
 first | refine R.len S27 (h := ?_) | refine R.lenRs S27 (h := ?_) | refine R.lenV (run_lenNil S27) (h := ?_)
 rw [List.length_map]
 refine R.bin (run_neq _ _ _ _ _ _) (h := ?_)
 refine R.or (h := ?_)
 refine .n0 ?_
 refine LGo.ifb (ht := fun hc => ?_) (hf := fun hc => ?_)
 ·
  obtain rfl : g = false := by rw [← e0]; exact decide_eq_false (fun h => by rw [h] at hc; simp at hc)
  refine .seq ?_
  refine .region rfl ?_
  refine R.assign (h := ?_)
  refine .n0 ?_
  exact LGo.ret (ret_T Tryz.results17 hA hmd)
 ·
  simp only [Bool.or_eq_false_iff, Bool.not_eq_eq_eq_not, Bool.not_false, decide_eq_true_eq] at hc
  obtain ⟨⟨⟨⟨⟨h1, h2⟩, h3⟩, h4⟩, h5⟩, h6⟩ := hc
  refine .skip ?_
  refine .seq ?_
  refine .seq ?_
  refine .region rfl ?_
  refine R.assign (h := ?_)
  refine .n0 ?_
  refine .block ?_
  refine .loop ?_
  refine LGo.loopG (σ := Nat) (fun x => x ≤ a.calls.length ∧ a.calls.take x = b.calls.take x) (fun x => [(5, (true, .i (x : Nat)))]) (fun x => [(0, .box 29 (a.c.map LV.sv)), (1, .box 29 (b.c.map LV.sv))]) (fun x => a.calls.length - x) (0) [(2, _), (3, _)] ⟨Nat.zero_le _, by simp⟩ (by repeat (first | exact trivial | refine ⟨rfl, ?_⟩)) (by repeat (first | exact trivial | refine ⟨rfl, ?_⟩)) (by repeat (first | exact trivial | refine ⟨rfl, ?_⟩)) ?_
  rintro k ⟨hk, hq⟩ ih
  refine .seq ?_
  refine .seq ?_
  refine .region rfl ?_
  refine R.move (h := ?_)
  first | refine R.field F29_4 (h := ?_) | refine R.fieldAt F29_4 (h := ?_)
  first | refine R.loadB O26 (h := ?_) | refine R.load1 O26 (h := ?_)
  first | refine R.len S26 (h := ?_) | refine R.lenRs S26 (h := ?_) | refine R.lenV (run_lenNil S26) (h := ?_)
  rw [List.length_map]
  refine R.bin (run_lss _ _ _ _ _ _) (h := ?_)
  refine .n0 ?_
  refine LGo.ifd (ht := fun hc2 => ?_) (hf := fun hc2 => ?_)
  ·
   have hlt : k < a.calls.length := by omega
   have hlt2 : k < b.calls.length := by omega
   have hx : (a.calls.map SrC.c)[((k : Nat) : Int).toNat]? = some a.calls[k].c := by simp [hlt]
   have hy : (b.calls.map SrC.c)[((k : Nat) : Int).toNat]? = some b.calls[k].c := by simp [hlt2]
   have hp : a.calls[k] = b.calls[k] → a.calls.take (k + 1) = b.calls.take (k + 1) := fun h => by rw [List.take_succ_eq_append_getElem hlt, List.take_succ_eq_append_getElem hlt2, hq, h]
   have hn : a = b → a.calls[k] = b.calls[k] := fun h => by subst h; rfl
   generalize a.calls[k] = ga at hx hp hn
   generalize b.calls[k] = gb at hy hp hn
   refine .skip ?_
   refine .seq ?_
   refine .block ?_
   refine .seq ?_
   refine .region rfl ?_
   first | refine R.field F29_4 (h := ?_) | refine R.fieldAt F29_4 (h := ?_)
   first | refine R.loadB O26 (h := ?_) | refine R.load1 O26 (h := ?_)
   refine R.move (h := ?_)
   refine R.index I26 (hj := fun hg => ⟨by omega, hx⟩) (h := ?_)
   first | refine R.loadA A40 (h := ?_) | refine R.loadN A40 (h := ?_) | refine R.loadP A40 (h := ?_)
   first | refine R.field F29_4 (h := ?_) | refine R.fieldAt F29_4 (h := ?_)
   first | refine R.loadB O26 (h := ?_) | refine R.load1 O26 (h := ?_)
   refine R.move (h := ?_)
   refine R.index I26 (hj := fun hg => ⟨by omega, hy⟩) (h := ?_)
   first | refine R.loadA A40 (h := ?_) | refine R.loadN A40 (h := ?_) | refine R.loadP A40 (h := ?_)
   refine R.binA (NE40 _ _ _ _ _ _ _ _ _ _ _ _ _ _ _ _ _ _ _ _ _ _ _ _) (h := ?_)
   rw [srC_ne]
   refine Reg.nil ⟨fun _ => ⟨mixedO, by rfl, by rfl⟩, ?_⟩
   refine LGo.ifb (ht := fun hc3 => ?_) (hf := fun hc3 => ?_)
   ·
    obtain rfl : g = false := by rw [← e0]; exact decide_eq_false (fun h => absurd (hn h) (of_decide_eq_true hc3))
    refine .seq ?_
    refine .region rfl ?_
    refine R.assign (h := ?_)
    refine .n0 ?_
    exact LGo.ret (ret_T Tryz.results17 hA hmd)
   ·
    have hp2 := hp (Decidable.of_not_not (of_decide_eq_false hc3))
    refine .skip ?_
    refine .inBlock ?_
    refine .region rfl ?_
    refine R.move (h := ?_)
    first | refine R.add (h := ?_) | refine R.addW (h := ?_)
    refine R.assign (h := ?_)
    refine .n0 ?_
    refine .inLoop ?_
    exact LGo.next _ (fun o h => by have := (hA o).1 h; omega) (by omega) (ih (k + 1) ⟨by omega, hp2⟩ (by omega)) (by repeat (first | exact trivial | refine ⟨rfl, ?_⟩)) ⟨rfl, rfl, trivial⟩
  ·
   have hcc : a.calls = b.calls := by rwa [List.take_of_length_le (by omega), List.take_of_length_le (by omega)] at hq
   refine .exit rfl ?_
   refine .seq ?_
   refine .seq ?_
   refine .region rfl ?_
   refine R.assign (h := ?_)
   refine .n0 ?_
   refine .block ?_
   refine .loop ?_
   refine LGo.loopG (σ := Nat) (fun x => x ≤ a.evs.length ∧ a.evs.take x = b.evs.take x) (fun x => [(6, (true, .i (x : Nat)))]) (fun x => [(0, .box 29 (a.c.map LV.sv)), (1, .box 29 (b.c.map LV.sv))]) (fun x => a.evs.length - x) (0) [(2, _), (3, _)] ⟨Nat.zero_le _, by simp⟩ (by repeat (first | exact trivial | refine ⟨rfl, ?_⟩)) (by repeat (first | exact trivial | refine ⟨rfl, ?_⟩)) (by repeat (first | exact trivial | refine ⟨rfl, ?_⟩)) ?_
   rintro m ⟨hm, hq2⟩ ih2
   refine .seq ?_
   refine .seq ?_
   refine .region rfl ?_
   refine R.move (h := ?_)
   first | refine R.field F29_5 (h := ?_) | refine R.fieldAt F29_5 (h := ?_)
   first | refine R.loadB O27 (h := ?_) | refine R.load1 O27 (h := ?_)
   first | refine R.len S27 (h := ?_) | refine R.lenRs S27 (h := ?_) | refine R.lenV (run_lenNil S27) (h := ?_)
   rw [List.length_map]
   refine R.bin (run_lss _ _ _ _ _ _) (h := ?_)
   refine .n0 ?_
   refine LGo.ifd (ht := fun hc4 => ?_) (hf := fun hc4 => ?_)
   ·
    have hlt : m < a.evs.length := by omega
    have hlt2 : m < b.evs.length := by omega
    have hx : (a.evs.map SrE.c)[((m : Nat) : Int).toNat]? = some a.evs[m].c := by simp [hlt]
    have hy : (b.evs.map SrE.c)[((m : Nat) : Int).toNat]? = some b.evs[m].c := by simp [hlt2]
    have hp : a.evs[m] = b.evs[m] → a.evs.take (m + 1) = b.evs.take (m + 1) := fun h => by rw [List.take_succ_eq_append_getElem hlt, List.take_succ_eq_append_getElem hlt2, hq2, h]
    have hn : a = b → a.evs[m] = b.evs[m] := fun h => by subst h; rfl
    generalize a.evs[m] = ga at hx hp hn
    generalize b.evs[m] = gb at hy hp hn
    refine .skip ?_
    refine .seq ?_
    refine .block ?_
    refine .seq ?_
    refine .region rfl ?_
    first | refine R.field F29_5 (h := ?_) | refine R.fieldAt F29_5 (h := ?_)
    first | refine R.loadB O27 (h := ?_) | refine R.load1 O27 (h := ?_)
    refine R.move (h := ?_)
    refine R.index I27 (hj := fun hg => ⟨by omega, hx⟩) (h := ?_)
    first | refine R.loadA A58 (h := ?_) | refine R.loadN A58 (h := ?_) | refine R.loadP A58 (h := ?_)
    first | refine R.field F29_5 (h := ?_) | refine R.fieldAt F29_5 (h := ?_)
    first | refine R.loadB O27 (h := ?_) | refine R.load1 O27 (h := ?_)
    refine R.move (h := ?_)
    refine R.index I27 (hj := fun hg => ⟨by omega, hy⟩) (h := ?_)
    first | refine R.loadA A58 (h := ?_) | refine R.loadN A58 (h := ?_) | refine R.loadP A58 (h := ?_)
    refine R.binA (NE58 _ _ _ _ _ _ _ _) (h := ?_)
    rw [srE_ne]
    refine Reg.nil ⟨fun _ => ⟨mixedO, by rfl, by rfl⟩, ?_⟩
    refine LGo.ifb (ht := fun hc5 => ?_) (hf := fun hc5 => ?_)
    ·
     obtain rfl : g = false := by rw [← e0]; exact decide_eq_false (fun h => absurd (hn h) (of_decide_eq_true hc5))
     refine .seq ?_
     refine .region rfl ?_
     refine R.assign (h := ?_)
     refine .n0 ?_
     exact LGo.ret (ret_T Tryz.results17 hA hmd)
    ·
     have hp2 := hp (Decidable.of_not_not (of_decide_eq_false hc5))
     refine .skip ?_
     refine .inBlock ?_
     refine .region rfl ?_
     refine R.move (h := ?_)
     first | refine R.add (h := ?_) | refine R.addW (h := ?_)
     refine R.assign (h := ?_)
     refine .n0 ?_
     refine .inLoop ?_
     exact LGo.next _ (fun o h => by have := (hA o).1 h; omega) (by omega) (ih2 (m + 1) ⟨by omega, hp2⟩ (by omega)) (by repeat (first | exact trivial | refine ⟨rfl, ?_⟩)) ⟨rfl, rfl, trivial⟩
   ·
    obtain rfl : g = true := by rw [← e0]; exact decide_eq_true (sc_ext h1 h2 h4 h3 hcc (by rwa [List.take_of_length_le (by omega), List.take_of_length_le (by omega)] at hq2))
    refine .exit rfl ?_
    refine .seq ?_
    refine .region rfl ?_
    refine R.assign (h := ?_)
    refine .n0 ?_
    exact LGo.ret (ret_T Tryz.results17 hA hmd)

end Go.Proofs.YteccglgbkehdeaaGreatDoor
/- scripts, and the reference: Size, Calls, Cut, Shrink. -/
set_option linter.unusedSimpArgs false
set_option linter.unusedVariables false
namespace Go.Proofs.YteccglgbkehdeaaGreatDoor

def callsS (s : Sc) : List Int × Int := if (checkS s).2 ≠ 0 then ([], (checkS s).2) else (sendsOf s.evs, 0)
def badCut (s : Sc) (fr n : Int) : Bool := (((decide (fr < 0) || decide (n < 0)) || decide (fr > (s.evs.length : Int))) || decide (n > (s.evs.length : Int) - fr))
def cutS (s : Sc) (fr n : Int) : Sc × Int :=
  if (checkS s).2 ≠ 0 then (scZero, (checkS s).2) else if badCut s fr n = true then (scZero, 7) else ({ s with evs := leftS s.evs fr.toNat n.toNat }, 0)
theorem badCut_w (s : Sc) (fr n : Int) (hf : R64 fr) (hn : R64 n) (hl : s.evs.length ≤ 1000) : (((decide (fr < 0) || decide (n < 0)) || decide (fr > (s.evs.length : Int))) || decide (n > IntKind.i64.wrap ((s.evs.length : Int) - fr))) = badCut s fr n := by
  unfold badCut R64 at *
  rw [Bool.eq_iff_iff]
  simp only [Bool.or_eq_true, decide_eq_true_eq]
  rw [IntKind.wrap_i64]
  omega

theorem cutS_P (s : Sc) (hs : s.sm) (hcp : s.cp) (fr n : Int) (hf : R64 fr) (hn : R64 n) : PC Tryz.prog 26 [.agg (s.c.map LV.sv), .i fr, .i n] (.tup [.agg ((cutS s fr n).1.c.map LV.sv), .i (cutS s fr n).2]) := by
 refine ⟨LC.of_go Tryz.func26 (c := _) rfl (by kernel_rfl) (by rw [Tryz.ntmps26]; simp) rfl rfl (by simp [LO.lt, LV.lts, LV.lt, lts_sv]) (by simp) ?_⟩
 intro B hA hmd
 obtain ⟨g, e0⟩ : ∃ g, cutS s fr n = g := ⟨_, rfl⟩
 have e1 := e0
 unfold cutS at e1
 rw [e0]
 refine .seq ?_
 refine .region rfl ?_
 refine R.box (h := ?_)
 refine R.alloc Z29 (h := ?_)
 refine R.assign (h := ?_)
 refine .n0 ?_
 refine .seq ?_
 refine .seq ?_
 refine .region rfl ?_
 first | refine R.loadA A29 (h := ?_) | refine R.loadN A29 (h := ?_) | refine R.loadP A29 (h := ?_)
 refine R.callP (es := [_]) (fun _ => checkS_P s hs) (h := ?_)
 refine R.move (h := ?_)
 refine R.extract (h := ?_)
 refine R.extract (h := ?_)
 refine R.assign (h := ?_)
 refine R.assign (h := ?_)
 refine .n0 ?_
 refine .seq ?_
 refine .region rfl ?_
 refine R.move (h := ?_)
 refine R.bin (run_neq _ _ _ _ _ _) (h := ?_)
 refine .n0 ?_
 refine LGo.ifb (ht := fun hc => ?_) (hf := fun hc => ?_)
 ·
  rw [if_pos (by simpa using hc)] at e1
  rw [← e1]
  refine .seq ?_
  refine .region rfl ?_
  refine R.buildG BG29 (is := []) (ks := []) (xs := []) (es := []) (h := ?_)
  refine R.move (h := ?_)
  refine R.storeA A29 (h := ?_)
  refine R.assign (h := ?_)
  refine .n0 ?_
  refine LGo.packNil 1 3 80 3 (h := ?_)
  refine LGo.frzBx 1 (h := ?_)
  refine LGo.packNil 1 5 71 3 (h := ?_)
  refine LGo.frzBx 1 (h := ?_)
  refine LGo.packNil 1 7 40 11 (h := ?_)
  refine LGo.frzBx 1 (h := ?_)
  refine LGo.packNil 1 8 58 3 (h := ?_)
  refine LGo.frzBx 1 (h := ?_)
  exact LGo.ret (ret_AT Tryz.results26 A29 hA hmd)
 ·
  rw [if_neg (by simpa using hc)] at e1
  have hel := (check_facts (show (checkS s).2 = 0 by simpa using hc)).2.1
  refine .skip ?_
  refine .seq ?_
  refine .seq ?_
  refine .region rfl ?_
  refine R.move (h := ?_)
  refine R.bin (run_lss _ _ _ _ _ _) (h := ?_)
  refine R.move (h := ?_)
  refine R.move (h := ?_)
  refine R.bin (run_lss _ _ _ _ _ _) (h := ?_)
  refine R.or (h := ?_)
  refine R.move (h := ?_)
  refine R.move (h := ?_)
  first | refine R.field F29_5 (h := ?_) | refine R.fieldAt F29_5 (h := ?_)
  first | refine R.loadB O27 (h := ?_) | refine R.load1 O27 (h := ?_)
  first | refine R.len S27 (h := ?_) | refine R.lenRs S27 (h := ?_) | refine R.lenV (run_lenNil S27) (h := ?_)
  rw [List.length_map]
  refine R.bin (run_gtr _ _ _ _ _ _) (h := ?_)
  refine R.or (h := ?_)
  refine R.move (h := ?_)
  refine R.move (h := ?_)
  first | refine R.field F29_5 (h := ?_) | refine R.fieldAt F29_5 (h := ?_)
  first | refine R.loadB O27 (h := ?_) | refine R.load1 O27 (h := ?_)
  first | refine R.len S27 (h := ?_) | refine R.lenRs S27 (h := ?_) | refine R.lenV (run_lenNil S27) (h := ?_)
  rw [List.length_map]
  refine R.move (h := ?_)
  refine R.subW (h := ?_)
  refine R.bin (run_gtr _ _ _ _ _ _) (h := ?_)
  refine R.or (h := ?_)
  refine .n0 ?_
  refine LGo.eqB 40 (badCut s fr n) (hb := badCut_w s fr n hf hn hel) (h := ?_)
  refine LGo.ifb (ht := fun hc2 => ?_) (hf := fun hc2 => ?_)
  ·
   rw [if_pos hc2] at e1
   rw [← e1]
   refine .seq ?_
   refine .region rfl ?_
   refine R.buildG BG29 (is := []) (ks := []) (xs := []) (es := []) (h := ?_)
   refine R.storeA A29 (h := ?_)
   refine R.assign (h := ?_)
   refine .n0 ?_
   refine LGo.packNil 1 3 80 3 (h := ?_)
   refine LGo.frzBx 1 (h := ?_)
   refine LGo.packNil 1 5 71 3 (h := ?_)
   refine LGo.frzBx 1 (h := ?_)
   refine LGo.packNil 1 7 40 11 (h := ?_)
   refine LGo.frzBx 1 (h := ?_)
   refine LGo.packNil 1 8 58 3 (h := ?_)
   refine LGo.frzBx 1 (h := ?_)
   exact LGo.ret (ret_AT Tryz.results26 A29 hA hmd)
  ·
   have hb := hc2
   rw [if_neg (by rw [hc2]; simp)] at e1
   simp only [badCut, Bool.or_eq_false_iff, decide_eq_false_iff_not] at hb
   obtain ⟨f2, rfl⟩ : ∃ m : Nat, fr = m := ⟨fr.toNat, by omega⟩
   obtain ⟨n2, rfl⟩ : ∃ m : Nat, n = m := ⟨n.toNat, by omega⟩
   rw [Int.toNat_natCast, Int.toNat_natCast] at e1
   rw [← e1]
   refine .skip ?_
   refine .seq ?_
   refine .region rfl ?_
   first | refine R.loadA A29 (h := ?_) | refine R.loadN A29 (h := ?_) | refine R.loadP A29 (h := ?_)
   first | refine R.field F29_5 (h := ?_) | refine R.fieldAt F29_5 (h := ?_)
   first | refine R.loadB O27 (h := ?_) | refine R.load1 O27 (h := ?_)
   refine R.move (h := ?_)
   refine R.move (h := ?_)
   refine R.callP (es := [_, _, _]) (fun _ => left_P s.evs f2 n2 (by omega) (by omega)) (h := ?_)
   refine R.callP (es := [_, _]) (fun _ => copied_P s hcp.v hcp.vr hcp.g hcp.gr hcp.c (leftS s.evs f2 n2)) (h := ?_)
   refine R.storeA A29 (h := ?_)
   refine R.assign (h := ?_)
   refine Reg.nil ⟨fun _ => ⟨mixedO, by rfl, by rfl⟩, ?_⟩
   exact LGo.ret (ret_AT Tryz.results26 A29 hA hmd)

end Go.Proofs.YteccglgbkehdeaaGreatDoor
/- scripts: the laws ScriptChecks, ScriptShrinks (walks). -/
set_option linter.unusedSimpArgs false
set_option linter.unusedVariables false
namespace Go.Proofs.YteccglgbkehdeaaGreatDoor

theorem Sc.near.sm2 {s : Sc} (hn : s.near) : s.sm2 :=
  ⟨by have := hn.vl; omega, fun x hx => by have := (hn.vs x hx).2; omega, by have := hn.gl; omega, fun x hx => by have := hn.gs x hx; omega, by have := hn.cl; omega, by have := hn.el; omega⟩
theorem Sc.sm2.evs {s : Sc} (h : s.sm2) (l : List SrE) (hl : l.length ≤ 100000) : ({ s with evs := l } : Sc).sm2 := ⟨h.vl, h.vr, h.gl, h.gs, h.cl, hl⟩
theorem sameRT {a : Sc} (h : a.sm2) : PC Tryz.prog 17 [.agg (a.c.map LV.sv), .agg (a.c.map LV.sv)] (.b true) := by
  have := sameR_P a a h h
  rwa [decide_eq_true rfl] at this
theorem fault_hff {s : Sc} {ks : List UInt8} (hks : ks.length ≤ 100000) (least : Int) : (checkS s).2 = 0 → ∀ es : List SrE, es.Sublist s.evs → PC Tryz.prog 23 ([.agg [.sv (.sl 1 (bytesC ks)), .i least]] ++ [.agg ((Sc.c { s with evs := es }).map LV.sv)]) (.b (failsP ks least es)) := fun h es he => by
  obtain ⟨_, hel, hev⟩ := check_facts h
  exact fault_P { s with evs := es } (by have := he.length_le; dsimp only; omega) (fun y hy hk => by have := evE_0 (hev y (he.subset hy)); omega) ks hks least

end Go.Proofs.YteccglgbkehdeaaGreatDoor
/- scripts: the law ScriptShortest (walk). -/
set_option linter.unusedSimpArgs false
set_option linter.unusedVariables false
namespace Go.Proofs.YteccglgbkehdeaaGreatDoor

theorem ev_getD {l : List SrE} {k : Nat} (h : k < l.length) : (l.map SrE.c)[((k : Nat) : Int).toNat]? = some (l.getD k default).c := by
  rw [Int.toNat_natCast, List.getElem?_map, List.getElem?_eq_getElem h, List.getD_eq_getElem?_getD, List.getElem?_eq_getElem h]
  rfl
theorem drop_getD {l : List SrE} {k : Nat} (h : k < l.length) : l.drop k = l.getD k default :: l.drop (k + 1) := by
  rw [List.drop_eq_getElem_cons h, List.getD_eq_getElem?_getD, List.getElem?_eq_getElem h]
  rfl
theorem cut_one {s : Sc} (h : (checkS s).2 = 0) {i : Nat} (hi : i < s.evs.length) : cutS s i 1 = ({ s with evs := leftS s.evs i 1 }, 0) := by
  unfold cutS
  rw [if_neg (by simp [h]), if_neg (by
    unfold badCut
    simp only [Bool.not_eq_true, Bool.or_eq_false_iff, decide_eq_false_iff_not]
    omega)]
  rfl
theorem Sc.sm.evs {s : Sc} (h : s.sm) (l : List SrE) (hl : l.length ≤ maxLen) : ({ s with evs := l } : Sc).sm := ⟨h.ven, h.gl, h.gs, h.key, h.cl, h.cs, hl⟩
theorem Sc.cp.evs {s : Sc} (h : s.cp) (l : List SrE) : ({ s with evs := l } : Sc).cp := ⟨h.v, h.vr, h.g, h.gr, h.c⟩
/-- what is known of a script that was shortened -/
structure Short (pf : List SrE → Bool) (most : Int) (s t : Sc) (tries : Int) : Prop where
  same : ({ t with evs := s.evs } : Sc) = s
  sub : t.evs.Sublist s.evs
  le : tries ≤ most
  fails : pf t.evs = true
  short : tries < most → ∀ i, i < t.evs.length → pf (leftS t.evs i 1) = false
  check : (checkS t).2 = 0
  sm : t.sm
  cp : t.cp
theorem short_of {pf : List SrE → Bool} {most : Int} {s t : Sc} {tries : Int} (hs : s.sm) (hc : s.cp) (h : shrinkS pf s most = (t, tries, 0)) : Short pf most s t tries := by
  have h0 : (shrinkS pf s most).2.2 = 0 := by rw [h]
  obtain ⟨h1, h2, h3⟩ := shrink_ok h0
  rw [h] at h2 h3
  dsimp only at h2 h3
  have hse : ({ t with evs := s.evs } : Sc) = s := by rw [h2]
  have hl := h3.sub.length_le
  have hel := hs.el
  dsimp only at hl
  refine ⟨hse, h3.sub, h3.mx, h3.fails, h3.short, ?_, ?_, ?_⟩
  · rw [h2]; exact check_sub h1 h3.sub rfl
  · rw [h2]; exact hs.evs _ (by omega)
  · rw [h2]; exact hc.evs _

theorem shortest_W (s : Sc) (hok : s.ok) (ks : List UInt8) (hkl : ks.length ≤ maxLen) (least most : Int) (hm : R64 most) : PC Tryz.prog 6 [.agg (s.c.map LV.sv), .agg [.sv (.sl 1 (bytesC ks)), .i least], .i most] (.b true) := by
 refine ⟨LC.of_go Tryz.func6 (c := _) rfl (by kernel_rfl) (by rw [Tryz.ntmps6]; simp) rfl rfl (by simp [LO.lt, LV.lts, LV.lt, lts_sv]) (by simp) ?_⟩
 intro B hA hmd
 unfold maxLen at hkl
 obtain ⟨sh, hsh⟩ : ∃ sh, shrinkS (failsP ks least) s most = sh := ⟨_, rfl⟩
 obtain ⟨t, tries, e⟩ := sh
 refine .seq ?_
 refine .region rfl ?_
 refine R.box (h := ?_)
 refine R.box (h := ?_)
 refine R.assign (h := ?_)
 refine .n0 ?_
 refine .seq ?_
 refine .seq ?_
 refine .region rfl ?_
 first | refine R.loadA A29 (h := ?_) | refine R.loadN A29 (h := ?_) | refine R.loadP A29 (h := ?_)
 refine R.callP (es := [_]) (fun _ => far_P s hok) (h := ?_)
 refine R.move (h := ?_)
 first | refine R.field F53_0 (h := ?_) | refine R.fieldAt F53_0 (h := ?_)
 first | refine R.loadB O44 (h := ?_) | refine R.load1 O44 (h := ?_)
 first | refine R.len S44 (h := ?_) | refine R.lenRs S44 (h := ?_) | refine R.lenV (run_lenNil S44) (h := ?_)
 rw [bytesC_length]
 refine R.bin (run_gtr _ _ _ _ _ _) (h := ?_)
 refine R.or (h := ?_)
 refine .n0 ?_
 refine LGo.ifb (ht := fun hc => ?_) (hf := fun hc => ?_)
 ·
  refine .seq ?_
  refine .region rfl ?_
  refine R.callP (es := []) (fun _ => awake_P) (h := ?_)
  refine R.assign (h := ?_)
  refine .n0 ?_
  exact LGo.ret (ret_T Tryz.results6 hA hmd)
 ·
  simp only [Bool.or_eq_false_iff, decide_eq_false_iff_not] at hc
  obtain ⟨hc, hc20⟩ := hc
  have hks : ks.length ≤ 100000 := by omega
  have hn := far_near hc
  have hs := hok.sm hn
  have h2 := hn.sm2
  have hel : s.evs.length ≤ 1100 := by have := hn.el; omega
  have hL := shrink_P s hs hn.cp ks least (ff := 23) (pf := failsP ks least) (fault_hff hks least) most hm
  rw [hsh] at hL
  dsimp only at hL
  refine .skip ?_
  refine .seq ?_
  refine .region rfl ?_
  refine R.buildSliceR AP27 (xs := []) (es := []) (hcs := CellsOfs.nil) (h := ?_)
  first | refine R.field F29_5 (h := ?_) | refine R.fieldAt F29_5 (h := ?_)
  first | refine R.loadB O27 (h := ?_) | refine R.load1 O27 (h := ?_)
  refine R.appendS AP27 (hs := SrcOk.sl Tryz.underlying27 (se_ones _)) (hlen := by simp; omega) (h := ?_)
  refine R.assign (h := ?_)
  refine .n0 ?_
  refine LGo.frz 3 (h := ?_)
  rw [List.nil_append]
  refine .seq ?_
  refine .region rfl ?_
  first | refine R.loadA A29 (h := ?_) | refine R.loadN A29 (h := ?_) | refine R.loadP A29 (h := ?_)
  first | refine R.loadA A53 (h := ?_) | refine R.loadN A53 (h := ?_) | refine R.loadP A53 (h := ?_)
  refine R.makeFunc (es := [_]) (fs := []) (h := ?_)
  refine R.move (h := ?_)
  refine R.callP (es := [_, _, _]) (fun _ => hL) (h := ?_)
  refine R.move (h := ?_)
  refine R.extract (h := ?_)
  refine R.extract (h := ?_)
  refine R.extract (h := ?_)
  refine R.alloc Z29 (h := ?_)
  refine R.storeA A29 (h := ?_)
  refine R.assign (h := ?_)
  refine R.assign (h := ?_)
  refine .n0 ?_
  refine .seq ?_
  refine .seq ?_
  refine .region rfl ?_
  refine R.assign (h := ?_)
  refine .n0 ?_
  refine .block ?_
  refine .loop ?_
  refine LGo.loopG (σ := Nat) (fun x => x ≤ s.evs.length) (fun x => [(11, (true, .i (x : Nat)))]) (fun x => [(0, .box 29 (s.c.map LV.sv)), (1, .box 53 [.sv (.sl 1 (bytesC ks)), .i least]), (4, .box 29 (t.c.map LV.sv))]) (fun x => s.evs.length - x) (0) [(2, _), (3, _), (4, _), (7, _), (8, _), (9, _), (10, _)] (Nat.zero_le _) (by repeat (first | exact trivial | refine ⟨rfl, ?_⟩)) (by repeat (first | exact trivial | refine ⟨rfl, ?_⟩)) (by repeat (first | exact trivial | refine ⟨rfl, ?_⟩)) ?_
  rintro k hk ih
  refine .seq ?_
  refine .seq ?_
  refine .region rfl ?_
  refine R.move (h := ?_)
  refine R.move (h := ?_)
  first | refine R.len S27 (h := ?_) | refine R.lenRs S27 (h := ?_) | refine R.lenV (run_lenNil S27) (h := ?_)
  rw [List.length_map]
  refine R.bin (run_lss _ _ _ _ _ _) (h := ?_)
  refine .n0 ?_
  refine LGo.ifd (ht := fun hc2 => ?_) (hf := fun hc2 => ?_)
  ·
   have hlt : k < s.evs.length := by omega
   have hx : (s.evs.map SrE.c)[((k : Nat) : Int).toNat]? = some s.evs[k].c := by simp [hlt]
   generalize s.evs[k] = z at hx
   refine .skip ?_
   refine .seq ?_
   refine .block ?_
   refine .seq ?_
   refine .region rfl ?_
   first | refine R.field F29_5 (h := ?_) | refine R.fieldAt F29_5 (h := ?_)
   first | refine R.loadB O27 (h := ?_) | refine R.load1 O27 (h := ?_)
   refine R.move (h := ?_)
   refine R.index I27 (hj := fun hg => ⟨by omega, hx⟩) (h := ?_)
   first | refine R.loadA A58 (h := ?_) | refine R.loadN A58 (h := ?_) | refine R.loadP A58 (h := ?_)
   refine R.move (h := ?_)
   refine R.move (h := ?_)
   refine R.index I27 (hj := fun hg => ⟨by omega, hx⟩) (h := ?_)
   first | refine R.loadA A58 (h := ?_) | refine R.loadN A58 (h := ?_) | refine R.loadP A58 (h := ?_)
   refine R.binA (NE58 _ _ _ _ _ _ _ _) (h := ?_)
   rw [srE_ne, decide_eq_false (show ¬ z ≠ z from fun h => h rfl)]
   refine Reg.nil ⟨fun _ => ⟨mixedO, by rfl, by rfl⟩, ?_⟩
   refine LGo.ifb (ht := fun hc3 => by simp at hc3) (hf := fun hc3 => ?_)
   refine .skip ?_
   refine .inBlock ?_
   refine .region rfl ?_
   refine R.move (h := ?_)
   first | refine R.add (h := ?_) | refine R.addW (h := ?_)
   refine R.assign (h := ?_)
   refine .n0 ?_
   refine .inLoop ?_
   exact LGo.next _ (fun o h => by have := (hA o).1 h; omega) (by omega) (ih (k + 1) (by omega) (by omega)) (by repeat (first | exact trivial | refine ⟨rfl, ?_⟩)) ⟨rfl, rfl, rfl, trivial⟩
  ·
   refine .exit rfl ?_
   refine .seq ?_
   refine .seq ?_
   refine .region rfl ?_
   refine R.move (h := ?_)
   refine R.bin (run_neq _ _ _ _ _ _) (h := ?_)
   refine .n0 ?_
   refine LGo.ifb (ht := fun hc4 => ?_) (hf := fun hc4 => ?_)
   ·
    have he : e ≠ 0 := by simpa using hc4
    have htr : tries = 0 := by have := shrink_no (pf := failsP ks least) (s := s) (most := most) (by rw [hsh]; exact he); rw [hsh] at this; exact this
    refine .seq ?_
    refine .region rfl ?_
    refine R.move (h := ?_)
    refine R.bin (run_eql _ _ _ _ _ _) (h := ?_)
    refine R.move (h := ?_)
    refine R.callP (es := []) (fun _ => awake_P) (h := ?_)
    refine R.and (h := ?_)
    refine R.assign (h := ?_)
    refine .n0 ?_
    refine LGo.eqB 6 true (hb := by simp [htr]) (h := ?_)
    exact LGo.ret (ret_T Tryz.results6 hA hmd)
   ·
    obtain rfl : e = 0 := by simpa using hc4
    have hS := short_of hs hn.cp hsh
    have hte := hS.sub.length_le
    have hcT := check_facts hS.check
    have htl : t.evs.length ≤ 1000 := hcT.2.1
    have hev : ∀ y ∈ t.evs, y.kind = 4 → 0 ≤ y.a ∧ y.a ≤ 1000000000 := fun y hy hk => by have := evE_0 (hcT.2.2 y hy); omega
    refine .skip ?_
    refine .seq ?_
    refine .seq ?_
    refine .region rfl ?_
    first | refine R.loadA A53 (h := ?_) | refine R.loadN A53 (h := ?_) | refine R.loadP A53 (h := ?_)
    first | refine R.loadA A29 (h := ?_) | refine R.loadN A29 (h := ?_) | refine R.loadP A29 (h := ?_)
    refine R.callP (es := [_, _]) (fun _ => fault_P t htl hev ks hks least) (h := ?_)
    rw [hS.fails]
    refine R.not (h := ?_)
    refine R.move (h := ?_)
    refine R.move (h := ?_)
    refine R.move (h := ?_)
    refine R.bin (run_gtr _ _ _ _ _ _) (h := ?_)
    refine R.or (h := ?_)
    refine .n0 ?_
    refine LGo.eqB 71 false (hb := by have := hS.le; simp; omega) (h := ?_)
    refine LGo.ifb (ht := fun hc5 => by simp at hc5) (hf := fun hc5 => ?_)
    refine .skip ?_
    refine .seq ?_
    refine .region rfl ?_
    refine R.assign (h := ?_)
    refine .n0 ?_
    refine .seq ?_
    refine .seq ?_
    refine .region rfl ?_
    refine R.assign (h := ?_)
    refine .n0 ?_
    refine .block ?_
    refine .loop ?_
    refine LGo.loopG (σ := Nat × Nat) (fun x => x.1 ≤ t.evs.length ∧ x.2 ≤ s.evs.length ∧ (t.evs.drop x.1).Sublist (s.evs.drop x.2)) (fun x => [(13, (true, .i (x.1 : Nat))), (12, (true, .i (x.2 : Nat)))]) (fun x => [(0, .box 29 (s.c.map LV.sv)), (1, .box 53 [.sv (.sl 1 (bytesC ks)), .i least]), (4, .box 29 (t.c.map LV.sv))]) (fun x => t.evs.length - x.1) (0, 0) [(2, _), (3, _), (4, _), (8, _), (9, _)] ⟨Nat.zero_le _, Nat.zero_le _, hS.sub⟩ (by repeat (first | exact trivial | refine ⟨rfl, ?_⟩)) (by repeat (first | exact trivial | refine ⟨rfl, ?_⟩)) (by repeat (first | exact trivial | refine ⟨rfl, ?_⟩)) ?_
    rintro ⟨k, a⟩ ⟨hk, ha, hq⟩ ih2
    dsimp only at * 
    refine .seq ?_
    refine .seq ?_
    refine .region rfl ?_
    refine R.move (h := ?_)
    first | refine R.field F29_5 (h := ?_) | refine R.fieldAt F29_5 (h := ?_)
    first | refine R.loadB O27 (h := ?_) | refine R.load1 O27 (h := ?_)
    first | refine R.len S27 (h := ?_) | refine R.lenRs S27 (h := ?_) | refine R.lenV (run_lenNil S27) (h := ?_)
    rw [List.length_map]
    refine R.bin (run_lss _ _ _ _ _ _) (h := ?_)
    refine .n0 ?_
    refine LGo.ifd (ht := fun hc6 => ?_) (hf := fun hc6 => ?_)
    ·
     have hlt : k < t.evs.length := by omega
     have hx : (t.evs.map SrE.c)[((k : Nat) : Int).toNat]? = some t.evs[k].c := by simp [hlt]
     rw [List.drop_eq_getElem_cons hlt] at hq
     generalize t.evs[k] = z at hx hq
     refine .skip ?_
     refine .seq ?_
     refine .block ?_
     refine .seq ?_
     refine .block ?_
     refine .loop ?_
     refine LGo.loopG (σ := Nat) (fun x => x ≤ s.evs.length ∧ (z :: t.evs.drop (k + 1)).Sublist (s.evs.drop x)) (fun x => [(12, (true, .i (x : Nat)))]) (fun x => [(0, .box 29 (s.c.map LV.sv)), (1, .box 53 [.sv (.sl 1 (bytesC ks)), .i least]), (4, .box 29 (t.c.map LV.sv))]) (fun x => s.evs.length - x) (a) [(2, _), (3, _), (4, _), (8, _), (9, _), (13, _)] ⟨ha, hq⟩ (by repeat (first | exact trivial | refine ⟨rfl, ?_⟩)) (by repeat (first | exact trivial | refine ⟨rfl, ?_⟩)) (by repeat (first | exact trivial | refine ⟨rfl, ?_⟩)) ?_
     rintro b ⟨hb, hq2⟩ ih3
     refine .seq ?_
     refine .seq ?_
     refine .region rfl ?_
     refine R.move (h := ?_)
     first | refine R.field F29_5 (h := ?_) | refine R.fieldAt F29_5 (h := ?_)
     first | refine R.loadB O27 (h := ?_) | refine R.load1 O27 (h := ?_)
     first | refine R.len S27 (h := ?_) | refine R.lenRs S27 (h := ?_) | refine R.lenV (run_lenNil S27) (h := ?_)
     rw [List.length_map]
     refine R.bin (run_lss _ _ _ _ _ _) (h := ?_)
     refine R.move (h := ?_)
     first | refine R.field F29_5 (h := ?_) | refine R.fieldAt F29_5 (h := ?_)
     first | refine R.loadB O27 (h := ?_) | refine R.load1 O27 (h := ?_)
     refine R.move (h := ?_)
     refine R.index I27 (e := (s.evs.getD b default).c) (hj := fun hg => ⟨by omega, ev_getD (by simp at hg; omega)⟩) (h := ?_)
     first | refine R.loadA A58 (h := ?_) | refine R.loadN A58 (h := ?_) | refine R.loadP A58 (h := ?_)
     first | refine R.field F29_5 (h := ?_) | refine R.fieldAt F29_5 (h := ?_)
     first | refine R.loadB O27 (h := ?_) | refine R.load1 O27 (h := ?_)
     refine R.move (h := ?_)
     refine R.index I27 (hj := fun hg => ⟨by (simp at hg; omega), hx⟩) (h := ?_)
     first | refine R.loadA A58 (h := ?_) | refine R.loadN A58 (h := ?_) | refine R.loadP A58 (h := ?_)
     refine R.binA (NE58 _ _ _ _ _ _ _ _) (h := ?_)
     rw [srE_ne]
     refine R.and (h := ?_)
     refine Reg.nil ⟨fun _ => ⟨mixedO, by rfl, by rfl⟩, ?_⟩
     refine LGo.ifb (ht := fun hc7 => ?_) (hf := fun hc7 => ?_)
     ·
      simp only [Bool.and_eq_true, decide_eq_true_eq] at hc7
      have hbl : b < s.evs.length := by omega
      rw [drop_getD hbl] at hq2
      have hq3 := sub_skip hq2 hc7.2
      refine .skip ?_
      refine .block ?_
      refine .region rfl ?_
      refine R.move (h := ?_)
      first | refine R.add (h := ?_) | refine R.addW (h := ?_)
      refine R.assign (h := ?_)
      refine .n0 ?_
      refine .inBlock ?_
      refine .inLoop ?_
      exact LGo.next _ (fun o h => by have := (hA o).1 h; omega) (by omega) (ih3 (b + 1) ⟨by omega, hq3⟩ (by omega)) (by repeat (first | exact trivial | refine ⟨rfl, ?_⟩)) ⟨rfl, rfl, rfl, trivial⟩
     ·
      have hbl : b < s.evs.length := by
        rcases Nat.lt_or_ge b s.evs.length with h | h
        · exact h
        · rw [List.drop_eq_nil_of_le h] at hq2
          have := hq2.length_le
          simp at this
      rw [decide_eq_true (show (b : Int) < s.evs.length by omega), Bool.true_and, decide_eq_false_iff_not] at hc7
      rw [drop_getD hbl, Decidable.of_not_not hc7] at hq2
      have hq3 := sub_tail hq2
      refine .exit rfl ?_
      refine .seq ?_
      refine .seq ?_
      refine .region rfl ?_
      refine R.move (h := ?_)
      first | refine R.field F29_5 (h := ?_) | refine R.fieldAt F29_5 (h := ?_)
      first | refine R.loadB O27 (h := ?_) | refine R.load1 O27 (h := ?_)
      first | refine R.len S27 (h := ?_) | refine R.lenRs S27 (h := ?_) | refine R.lenV (run_lenNil S27) (h := ?_)
      rw [List.length_map]
      refine R.bin (run_eql _ _ _ _ _ _) (h := ?_)
      refine .n0 ?_
      refine LGo.ifb (ht := fun hc8 => by simp at hc8; omega) (hf := fun hc8 => ?_)
      refine .skip ?_
      refine .region rfl ?_
      refine R.move (h := ?_)
      first | refine R.add (h := ?_) | refine R.addW (h := ?_)
      refine R.assign (h := ?_)
      refine .n0 ?_
      refine .inBlock ?_
      refine .region rfl ?_
      refine R.move (h := ?_)
      first | refine R.add (h := ?_) | refine R.addW (h := ?_)
      refine R.assign (h := ?_)
      refine .n0 ?_
      refine .inLoop ?_
      exact LGo.next _ (fun o h => by have := (hA o).1 h; omega) (by omega) (ih2 (k + 1, b + 1) ⟨by dsimp only; omega, by dsimp only; omega, hq3⟩ (by dsimp only; omega)) (by repeat (first | exact trivial | refine ⟨rfl, ?_⟩)) ⟨rfl, rfl, rfl, trivial⟩
    ·
     refine .exit rfl ?_
     refine .seq ?_
     refine .region rfl ?_
     first | refine R.loadA A29 (h := ?_) | refine R.loadN A29 (h := ?_) | refine R.loadP A29 (h := ?_)
     refine R.alloc Z29 (h := ?_)
     refine R.storeA A29 (h := ?_)
     refine .n0 ?_
     refine .seq ?_
     refine .region rfl ?_
     first | refine R.field F29_5 (h := ?_) | refine R.fieldAt F29_5 (h := ?_)
     first | refine R.loadB O27 (h := ?_) | refine R.load1 O27 (h := ?_)
     first | refine R.field F29_5 (h := ?_) | refine R.fieldAt F29_5 (h := ?_)
     refine R.storeB O27 (h := ?_)
     refine .n0 ?_
     refine .seq ?_
     refine .seq ?_
     refine .region rfl ?_
     first | refine R.loadA A29 (h := ?_) | refine R.loadN A29 (h := ?_) | refine R.loadP A29 (h := ?_)
     first | refine R.loadA A29 (h := ?_) | refine R.loadN A29 (h := ?_) | refine R.loadP A29 (h := ?_)
     refine R.callP (es := [_, _]) (fun _ => sameR_P { t with evs := s.evs } s (by rw [hS.same]; exact h2) h2) (h := ?_)
     rw [decide_eq_true hS.same]
     refine R.not (h := ?_)
     refine .n0 ?_
     refine LGo.ifb (ht := fun hc9 => by simp at hc9) (hf := fun hc9 => ?_)
     refine .skip ?_
     refine .seq ?_
     refine .seq ?_
     refine .region rfl ?_
     refine R.assign (h := ?_)
     refine .n0 ?_
     refine .block ?_
     refine .loop ?_
     refine LGo.loopG (σ := Nat) (fun x => x ≤ t.evs.length) (fun x => [(15, (true, .i (x : Nat)))]) (fun x => [(0, .box 29 (s.c.map LV.sv)), (1, .box 53 [.sv (.sl 1 (bytesC ks)), .i least]), (4, .box 29 (t.c.map LV.sv))]) (fun x => t.evs.length - x) (0) [(2, _), (4, _), (8, _), (9, _)] (Nat.zero_le _) (by repeat (first | exact trivial | refine ⟨rfl, ?_⟩)) (by repeat (first | exact trivial | refine ⟨rfl, ?_⟩)) (by repeat (first | exact trivial | refine ⟨rfl, ?_⟩)) ?_
     rintro k hk ih4
     refine .seq ?_
     refine .seq ?_
     refine .region rfl ?_
     refine R.move (h := ?_)
     first | refine R.field F29_5 (h := ?_) | refine R.fieldAt F29_5 (h := ?_)
     first | refine R.loadB O27 (h := ?_) | refine R.load1 O27 (h := ?_)
     first | refine R.len S27 (h := ?_) | refine R.lenRs S27 (h := ?_) | refine R.lenV (run_lenNil S27) (h := ?_)
     rw [List.length_map]
     refine R.bin (run_lss _ _ _ _ _ _) (h := ?_)
     refine R.move (h := ?_)
     refine R.move (h := ?_)
     refine R.move (h := ?_)
     refine R.bin (run_lss _ _ _ _ _ _) (h := ?_)
     refine R.and (h := ?_)
     refine .n0 ?_
     refine LGo.ifb (ht := fun hc10 => ?_) (hf := fun hc10 => ?_)
     ·
      simp only [Bool.and_eq_true, decide_eq_true_eq] at hc10
      have hlt : k < t.evs.length := by omega
      have hC := cutS_P t hS.sm hS.cp k 1 (by unfold R64; omega) (by unfold R64; decide)
      rw [cut_one hS.check hlt] at hC
      dsimp only at hC
      have hsub := leftS_sub t.evs k 1
      have hno := hS.short hc10.2 k hlt
      refine .skip ?_
      refine .seq ?_
      refine .block ?_
      refine .seq ?_
      refine .region rfl ?_
      first | refine R.loadA A29 (h := ?_) | refine R.loadN A29 (h := ?_) | refine R.loadP A29 (h := ?_)
      refine R.move (h := ?_)
      refine R.callP (es := [_, _, _]) (fun _ => hC) (h := ?_)
      refine R.move (h := ?_)
      refine R.extract (h := ?_)
      refine R.extract (h := ?_)
      refine R.alloc Z29 (h := ?_)
      refine R.storeA A29 (h := ?_)
      refine R.assign (h := ?_)
      refine .n0 ?_
      refine .seq ?_
      refine .region rfl ?_
      refine R.move (h := ?_)
      refine R.bin (run_neq _ _ _ _ _ _) (h := ?_)
      refine R.move (h := ?_)
      first | refine R.loadA A53 (h := ?_) | refine R.loadN A53 (h := ?_) | refine R.loadP A53 (h := ?_)
      first | refine R.loadA A29 (h := ?_) | refine R.loadN A29 (h := ?_) | refine R.loadP A29 (h := ?_)
      refine R.callP (es := [_, _]) (fun _ => fault_P { t with evs := leftS t.evs k 1 } (by have h := hsub.length_le; (try dsimp only at *); omega) (fun y hy => hev y (hsub.subset hy)) ks hks least) (h := ?_)
      rw [hno]
      refine R.or (h := ?_)
      refine .n0 ?_
      refine LGo.eqB 138 false (hb := by simp) (h := ?_)
      refine LGo.ifb (ht := fun hc11 => by simp at hc11) (hf := fun hc11 => ?_)
      refine .skip ?_
      refine .inBlock ?_
      refine .region rfl ?_
      refine R.move (h := ?_)
      first | refine R.add (h := ?_) | refine R.addW (h := ?_)
      refine R.assign (h := ?_)
      refine .n0 ?_
      refine .inLoop ?_
      exact LGo.next _ (fun o h => by have := (hA o).1 h; omega) (by omega) (ih4 (k + 1) (by omega) (by omega)) (by repeat (first | exact trivial | refine ⟨rfl, ?_⟩)) ⟨rfl, rfl, rfl, trivial⟩
     ·
      refine .exit rfl ?_
      refine .seq ?_
      refine .region rfl ?_
      refine R.callP (es := []) (fun _ => awake_P) (h := ?_)
      refine R.assign (h := ?_)
      refine .n0 ?_
      exact LGo.ret (ret_T Tryz.results6 hA hmd)

end Go.Proofs.YteccglgbkehdeaaGreatDoor
/- scripts: equal scripts. -/
set_option linter.unusedSimpArgs false
set_option linter.unusedVariables false
namespace Go.Proofs.YteccglgbkehdeaaGreatDoor

section
variable {P : Program} {r : Option Nat} {N : Nat} {D : List Nat} {B : Base} {all : Array Oper} {K : List (Nat × Ct) → St → Prop}
variable {i : Nat} {ops : List Oper} {tr : List (Nat × Ct)} {E : List (Nat × Ent)} {L : List (Nat × LO)} {n : Nat} {g : Bool} {gn : List (Nat × Ent)}
variable {d ty : Nat} {pos : String} {aft : Array Edge} {gd : Option (Nat × Bool)}
/-- the struct of zeros, told as0 one likes -/
theorem R.buildZ {t : Nat} {zs : List Value} (hF : BuildF P t zs) (out : LV) (hw : ∀ cx w, V cx w out (.agg zs.toArray))
    (ho : all[i]? = some ⟨some d, .build t #[], ty, pos, aft, gd⟩ := by rfl) (hg : GuardOk (en E) all gd g gn := by first | exact gN | exact gS rfl rfl)
    (h : Reg P r N D B all (i + 1) ops ((i, Ct.p gn [] [] (some d) (g, out) []) :: tr) (st ((d, (g, out)) :: E) L n) K) :
    Reg P r N D B all i (⟨some d, .build t #[], ty, pos, aft, gd⟩ :: ops) tr (st E L n) K := by
  refine Reg.pure (es := []) (rd := []) (out := out) ho hg ?_ (by simp) (fun hgt => ?_) ?_
  · exact rfl
  · refine OpC.of_pure (by simp) fun md n0 cx H ρ w _ _ hv => ?_
    obtain ⟨hz, hz1, fields, hu, hm⟩ := hF
    refine ⟨.agg zs.toArray, ?_, hw cx w⟩
    simp only [execOp, Instr.build, Sem.run_bind, hz w, hu w, Result.andThen_ok, hm w, Value.cells]
    simp [Instr.fill]
  · exact h
end

theorem eqInts_P (a b : List Int) (ha : a.length ≤ 100000) (hb : b.length ≤ 100000) : PC Tryz.prog 69 [.sv (.sl 1 (ic .i64 a)), .sv (.sl 1 (ic .i64 b))] (.b (decide (a = b))) := by
 refine ⟨LC.of_go Tryz.func69 (c := _) rfl (by kernel_rfl) (by rw [Tryz.ntmps69]; simp) rfl rfl (by simp [LO.lt, LV.lts, LV.lt, lts_sv]) (by simp) ?_⟩
 intro B hA hmd
 obtain ⟨g, e0⟩ : ∃ g, decide (a = b) = g := ⟨_, rfl⟩
 rw [e0]
 refine .seq ?_
 refine .region rfl ?_
 refine R.assign (h := ?_)
 refine .n0 ?_
 refine .seq ?_
 refine .seq ?_
 refine .region rfl ?_
 refine R.move (h := ?_)
 first | refine R.len S65 (h := ?_) | refine R.lenRs S65 (h := ?_) | refine R.lenV (run_lenNil S65) (h := ?_)
 rw [ic_len]
 refine R.move (h := ?_)
 first | refine R.len S65 (h := ?_) | refine R.lenRs S65 (h := ?_) | refine R.lenV (run_lenNil S65) (h := ?_)
 rw [ic_len]
 refine R.bin (run_neq _ _ _ _ _ _) (h := ?_)
 refine .n0 ?_
 refine LGo.ifb (ht := fun hc => ?_) (hf := fun hc => ?_)
 ·
  obtain rfl : g = false := by rw [← e0]; exact decide_eq_false (fun h => by rw [h] at hc; simp at hc)
  refine .seq ?_
  refine .region rfl ?_
  refine R.assign (h := ?_)
  refine .n0 ?_
  exact LGo.ret (ret_T Tryz.results69 hA hmd)
 ·
  have hll : a.length = b.length := by simp at hc; omega
  refine .skip ?_
  refine .seq ?_
  refine .seq ?_
  refine .region rfl ?_
  refine R.move (h := ?_)
  first | refine R.len S65 (h := ?_) | refine R.lenRs S65 (h := ?_) | refine R.lenV (run_lenNil S65) (h := ?_)
  rw [ic_len]
  refine R.move (h := ?_)
  refine .n0 ?_
  refine .block ?_
  refine .loop ?_
  refine LGo.loopG (σ := Nat) (fun x => x ≤ a.length ∧ a.take x = b.take x) (fun x => [(13, (true, .i (x : Nat)))]) (fun x => []) (fun x => a.length - x) (0) [(0, _), (1, _), (12, _)] ⟨Nat.zero_le _, by simp⟩ (by repeat (first | exact trivial | refine ⟨rfl, ?_⟩)) (by repeat (first | exact trivial | refine ⟨rfl, ?_⟩)) (by repeat (first | exact trivial | refine ⟨rfl, ?_⟩)) ?_
  rintro k ⟨hk, hq⟩ ih
  refine .seq ?_
  refine .region rfl ?_
  refine R.bin (run_lss _ _ _ _ _ _) (h := ?_)
  refine .n0 ?_
  refine .seq ?_
  refine LGo.ifd (ht := fun hc2 => ?_) (hf := fun hc2 => ?_)
  ·
   have hlt : k < a.length := by omega
   have hlt2 : k < b.length := by omega
   have hx := icA hlt
   have hy := icA hlt2
   have hp : a[k] = b[k] → a.take (k + 1) = b.take (k + 1) := fun h => by rw [List.take_succ_eq_append_getElem hlt, List.take_succ_eq_append_getElem hlt2, hq, h]
   have hn : a = b → a[k] = b[k] := fun h => by subst h; rfl
   generalize a[k] = p at hx hp hn
   generalize b[k] = q at hy hp hn
   refine .skip ?_
   refine .seq ?_
   refine .block ?_
   refine .seq ?_
   refine .region rfl ?_
   refine R.move (h := ?_)
   refine R.assign (h := ?_)
   refine .n0 ?_
   refine .seq ?_
   refine .region rfl ?_
   refine R.move (h := ?_)
   refine R.move (h := ?_)
   refine R.index I65 (hj := fun hg => ⟨by omega, hx⟩) (h := ?_)
   first | refine R.loadB O3 (h := ?_) | refine R.load1 O3 (h := ?_)
   refine R.move (h := ?_)
   refine R.move (h := ?_)
   refine R.index I65 (hj := fun hg => ⟨by omega, hy⟩) (h := ?_)
   first | refine R.loadB O3 (h := ?_) | refine R.load1 O3 (h := ?_)
   refine R.bin (run_neq _ _ _ _ _ _) (h := ?_)
   refine Reg.nil ⟨fun _ => ⟨mixedO, by rfl, by rfl⟩, ?_⟩
   refine LGo.ifb (ht := fun hc3 => ?_) (hf := fun hc3 => ?_)
   ·
    obtain rfl : g = false := by rw [← e0]; exact decide_eq_false (fun h => by rw [hn h] at hc3; simp at hc3)
    refine .seq ?_
    refine .region rfl ?_
    refine R.assign (h := ?_)
    refine .n0 ?_
    exact LGo.ret (ret_T Tryz.results69 hA hmd)
   ·
    have hp2 := hp (by simpa using hc3)
    refine .skip ?_
    refine .inBlock ?_
    refine .region rfl ?_
    first | refine R.add (h := ?_) | refine R.addW (h := ?_)
    refine R.move (h := ?_)
    refine .n0 ?_
    refine .inLoop ?_
    exact LGo.next _ (fun o h => by have := (hA o).1 h; omega) (by omega) (ih (k + 1) ⟨by omega, hp2⟩ (by omega)) (by repeat (first | exact trivial | refine ⟨rfl, ?_⟩)) (by repeat (first | exact trivial | refine ⟨rfl, ?_⟩))
  ·
   obtain rfl : g = true := by rw [← e0]; exact decide_eq_true (by rwa [List.take_of_length_le (by omega), List.take_of_length_le (by omega)] at hq)
   refine .exit rfl ?_
   refine .seq ?_
   refine .region rfl ?_
   refine R.assign (h := ?_)
   refine .n0 ?_
   exact LGo.ret (ret_T Tryz.results69 hA hmd)

theorem eqCalls_P (a b : List SrC) (ha : a.length ≤ 100000) (hb : b.length ≤ 100000) : PC Tryz.prog 73 [.sv (.sl 11 (a.map SrC.c)), .sv (.sl 11 (b.map SrC.c))] (.b (decide (a = b))) := by
 refine ⟨LC.of_go Tryz.func73 (c := _) rfl (by kernel_rfl) (by rw [Tryz.ntmps73]; simp) rfl rfl (by simp [LO.lt, LV.lts, LV.lt, lts_sv]) (by simp) ?_⟩
 intro B hA hmd
 obtain ⟨g, e0⟩ : ∃ g, decide (a = b) = g := ⟨_, rfl⟩
 rw [e0]
 refine .seq ?_
 refine .region rfl ?_
 refine R.assign (h := ?_)
 refine .n0 ?_
 refine .seq ?_
 refine .seq ?_
 refine .region rfl ?_
 refine R.move (h := ?_)
 first | refine R.len S26 (h := ?_) | refine R.lenRs S26 (h := ?_) | refine R.lenV (run_lenNil S26) (h := ?_)
 rw [List.length_map]
 refine R.move (h := ?_)
 first | refine R.len S26 (h := ?_) | refine R.lenRs S26 (h := ?_) | refine R.lenV (run_lenNil S26) (h := ?_)
 rw [List.length_map]
 refine R.bin (run_neq _ _ _ _ _ _) (h := ?_)
 refine .n0 ?_
 refine LGo.ifb (ht := fun hc => ?_) (hf := fun hc => ?_)
 ·
  obtain rfl : g = false := by rw [← e0]; exact decide_eq_false (fun h => by rw [h] at hc; simp at hc)
  refine .seq ?_
  refine .region rfl ?_
  refine R.assign (h := ?_)
  refine .n0 ?_
  exact LGo.ret (ret_T Tryz.results73 hA hmd)
 ·
  have hll : a.length = b.length := by simp at hc; omega
  refine .skip ?_
  refine .seq ?_
  refine .seq ?_
  refine .region rfl ?_
  refine R.move (h := ?_)
  first | refine R.len S26 (h := ?_) | refine R.lenRs S26 (h := ?_) | refine R.lenV (run_lenNil S26) (h := ?_)
  rw [List.length_map]
  refine R.move (h := ?_)
  refine .n0 ?_
  refine .block ?_
  refine .loop ?_
  refine LGo.loopG (σ := Nat) (fun x => x ≤ a.length ∧ a.take x = b.take x) (fun x => [(13, (true, .i (x : Nat)))]) (fun x => []) (fun x => a.length - x) (0) [(0, _), (1, _), (12, _)] ⟨Nat.zero_le _, by simp⟩ (by repeat (first | exact trivial | refine ⟨rfl, ?_⟩)) (by repeat (first | exact trivial | refine ⟨rfl, ?_⟩)) (by repeat (first | exact trivial | refine ⟨rfl, ?_⟩)) ?_
  rintro k ⟨hk, hq⟩ ih
  refine .seq ?_
  refine .region rfl ?_
  refine R.bin (run_lss _ _ _ _ _ _) (h := ?_)
  refine .n0 ?_
  refine .seq ?_
  refine LGo.ifd (ht := fun hc2 => ?_) (hf := fun hc2 => ?_)
  ·
   have hlt : k < a.length := by omega
   have hlt2 : k < b.length := by omega
   have hx : (a.map SrC.c)[((k : Nat) : Int).toNat]? = some a[k].c := by simp [hlt]
   have hy : (b.map SrC.c)[((k : Nat) : Int).toNat]? = some b[k].c := by simp [hlt2]
   have hp : a[k] = b[k] → a.take (k + 1) = b.take (k + 1) := fun h => by rw [List.take_succ_eq_append_getElem hlt, List.take_succ_eq_append_getElem hlt2, hq, h]
   have hn : a = b → a[k] = b[k] := fun h => by subst h; rfl
   generalize a[k] = p at hx hp hn
   generalize b[k] = q at hy hp hn
   refine .skip ?_
   refine .seq ?_
   refine .block ?_
   refine .seq ?_
   refine .region rfl ?_
   refine R.move (h := ?_)
   refine R.assign (h := ?_)
   refine .n0 ?_
   refine .seq ?_
   refine .region rfl ?_
   refine R.move (h := ?_)
   refine R.move (h := ?_)
   refine R.index I26 (hj := fun hg => ⟨by omega, hx⟩) (h := ?_)
   first | refine R.loadA A40 (h := ?_) | refine R.loadN A40 (h := ?_) | refine R.loadP A40 (h := ?_)
   refine R.move (h := ?_)
   refine R.move (h := ?_)
   refine R.index I26 (hj := fun hg => ⟨by omega, hy⟩) (h := ?_)
   first | refine R.loadA A40 (h := ?_) | refine R.loadN A40 (h := ?_) | refine R.loadP A40 (h := ?_)
   refine R.binA (NE40 _ _ _ _ _ _ _ _ _ _ _ _ _ _ _ _ _ _ _ _ _ _ _ _) (h := ?_)
   rw [srC_ne]
   refine Reg.nil ⟨fun _ => ⟨mixedO, by rfl, by rfl⟩, ?_⟩
   refine LGo.ifb (ht := fun hc3 => ?_) (hf := fun hc3 => ?_)
   ·
    obtain rfl : g = false := by rw [← e0]; exact decide_eq_false (fun h => absurd (hn h) (of_decide_eq_true hc3))
    refine .seq ?_
    refine .region rfl ?_
    refine R.assign (h := ?_)
    refine .n0 ?_
    exact LGo.ret (ret_T Tryz.results73 hA hmd)
   ·
    have hp2 := hp (Decidable.of_not_not (of_decide_eq_false hc3))
    refine .skip ?_
    refine .inBlock ?_
    refine .region rfl ?_
    first | refine R.add (h := ?_) | refine R.addW (h := ?_)
    refine R.move (h := ?_)
    refine .n0 ?_
    refine .inLoop ?_
    exact LGo.next _ (fun o h => by have := (hA o).1 h; omega) (by omega) (ih (k + 1) ⟨by omega, hp2⟩ (by omega)) (by repeat (first | exact trivial | refine ⟨rfl, ?_⟩)) (by repeat (first | exact trivial | refine ⟨rfl, ?_⟩))
  ·
   obtain rfl : g = true := by rw [← e0]; exact decide_eq_true (by rwa [List.take_of_length_le (by omega), List.take_of_length_le (by omega)] at hq)
   refine .exit rfl ?_
   refine .seq ?_
   refine .region rfl ?_
   refine R.assign (h := ?_)
   refine .n0 ?_
   exact LGo.ret (ret_T Tryz.results73 hA hmd)

theorem eqEvs_P (a b : List SrE) (ha : a.length ≤ 100000) (hb : b.length ≤ 100000) : PC Tryz.prog 74 [.sv (.sl 3 (a.map SrE.c)), .sv (.sl 3 (b.map SrE.c))] (.b (decide (a = b))) := by
 refine ⟨LC.of_go Tryz.func74 (c := _) rfl (by kernel_rfl) (by rw [Tryz.ntmps74]; simp) rfl rfl (by simp [LO.lt, LV.lts, LV.lt, lts_sv]) (by simp) ?_⟩
 intro B hA hmd
 obtain ⟨g, e0⟩ : ∃ g, decide (a = b) = g := ⟨_, rfl⟩
 rw [e0]
 refine .seq ?_
 refine .region rfl ?_
 refine R.assign (h := ?_)
 refine .n0 ?_
 refine .seq ?_
 refine .seq ?_
 refine .region rfl ?_
 refine R.move (h := ?_)
 first | refine R.len S27 (h := ?_) | refine R.lenRs S27 (h := ?_) | refine R.lenV (run_lenNil S27) (h := ?_)
 rw [List.length_map]
 refine R.move (h := ?_)
 first | refine R.len S27 (h := ?_) | refine R.lenRs S27 (h := ?_) | refine R.lenV (run_lenNil S27) (h := ?_)
 rw [List.length_map]
 refine R.bin (run_neq _ _ _ _ _ _) (h := ?_)
 refine .n0 ?_
 refine LGo.ifb (ht := fun hc => ?_) (hf := fun hc => ?_)
 ·
  obtain rfl : g = false := by rw [← e0]; exact decide_eq_false (fun h => by rw [h] at hc; simp at hc)
  refine .seq ?_
  refine .region rfl ?_
  refine R.assign (h := ?_)
  refine .n0 ?_
  exact LGo.ret (ret_T Tryz.results74 hA hmd)
 ·
  have hll : a.length = b.length := by simp at hc; omega
  refine .skip ?_
  refine .seq ?_
  refine .seq ?_
  refine .region rfl ?_
  refine R.move (h := ?_)
  first | refine R.len S27 (h := ?_) | refine R.lenRs S27 (h := ?_) | refine R.lenV (run_lenNil S27) (h := ?_)
  rw [List.length_map]
  refine R.move (h := ?_)
  refine .n0 ?_
  refine .block ?_
  refine .loop ?_
  refine LGo.loopG (σ := Nat) (fun x => x ≤ a.length ∧ a.take x = b.take x) (fun x => [(13, (true, .i (x : Nat)))]) (fun x => []) (fun x => a.length - x) (0) [(0, _), (1, _), (12, _)] ⟨Nat.zero_le _, by simp⟩ (by repeat (first | exact trivial | refine ⟨rfl, ?_⟩)) (by repeat (first | exact trivial | refine ⟨rfl, ?_⟩)) (by repeat (first | exact trivial | refine ⟨rfl, ?_⟩)) ?_
  rintro k ⟨hk, hq⟩ ih
  refine .seq ?_
  refine .region rfl ?_
  refine R.bin (run_lss _ _ _ _ _ _) (h := ?_)
  refine .n0 ?_
  refine .seq ?_
  refine LGo.ifd (ht := fun hc2 => ?_) (hf := fun hc2 => ?_)
  ·
   have hlt : k < a.length := by omega
   have hlt2 : k < b.length := by omega
   have hx : (a.map SrE.c)[((k : Nat) : Int).toNat]? = some a[k].c := by simp [hlt]
   have hy : (b.map SrE.c)[((k : Nat) : Int).toNat]? = some b[k].c := by simp [hlt2]
   have hp : a[k] = b[k] → a.take (k + 1) = b.take (k + 1) := fun h => by rw [List.take_succ_eq_append_getElem hlt, List.take_succ_eq_append_getElem hlt2, hq, h]
   have hn : a = b → a[k] = b[k] := fun h => by subst h; rfl
   generalize a[k] = p at hx hp hn
   generalize b[k] = q at hy hp hn
   refine .skip ?_
   refine .seq ?_
   refine .block ?_
   refine .seq ?_
   refine .region rfl ?_
   refine R.move (h := ?_)
   refine R.assign (h := ?_)
   refine .n0 ?_
   refine .seq ?_
   refine .region rfl ?_
   refine R.move (h := ?_)
   refine R.move (h := ?_)
   refine R.index I27 (hj := fun hg => ⟨by omega, hx⟩) (h := ?_)
   first | refine R.loadA A58 (h := ?_) | refine R.loadN A58 (h := ?_) | refine R.loadP A58 (h := ?_)
   refine R.move (h := ?_)
   refine R.move (h := ?_)
   refine R.index I27 (hj := fun hg => ⟨by omega, hy⟩) (h := ?_)
   first | refine R.loadA A58 (h := ?_) | refine R.loadN A58 (h := ?_) | refine R.loadP A58 (h := ?_)
   refine R.binA (NE58 _ _ _ _ _ _ _ _) (h := ?_)
   rw [srE_ne]
   refine Reg.nil ⟨fun _ => ⟨mixedO, by rfl, by rfl⟩, ?_⟩
   refine LGo.ifb (ht := fun hc3 => ?_) (hf := fun hc3 => ?_)
   ·
    obtain rfl : g = false := by rw [← e0]; exact decide_eq_false (fun h => absurd (hn h) (of_decide_eq_true hc3))
    refine .seq ?_
    refine .region rfl ?_
    refine R.assign (h := ?_)
    refine .n0 ?_
    exact LGo.ret (ret_T Tryz.results74 hA hmd)
   ·
    have hp2 := hp (Decidable.of_not_not (of_decide_eq_false hc3))
    refine .skip ?_
    refine .inBlock ?_
    refine .region rfl ?_
    first | refine R.add (h := ?_) | refine R.addW (h := ?_)
    refine R.move (h := ?_)
    refine .n0 ?_
    refine .inLoop ?_
    exact LGo.next _ (fun o h => by have := (hA o).1 h; omega) (by omega) (ih (k + 1) ⟨by omega, hp2⟩ (by omega)) (by repeat (first | exact trivial | refine ⟨rfl, ?_⟩)) (by repeat (first | exact trivial | refine ⟨rfl, ?_⟩))
  ·
   obtain rfl : g = true := by rw [← e0]; exact decide_eq_true (by rwa [List.take_of_length_le (by omega), List.take_of_length_le (by omega)] at hq)
   refine .exit rfl ?_
   refine .seq ?_
   refine .region rfl ?_
   refine R.assign (h := ?_)
   refine .n0 ?_
   exact LGo.ret (ret_T Tryz.results74 hA hmd)

theorem gt_ext {a b : GtG} (h1 : a.secs = b.secs) (h2 : a.fr = b.fr) (h3 : a.to = b.to) : a = b := by cases a; cases b; simp_all

theorem same1_P (a b : VnS) (ha : a.rows.length ≤ 100000) (hb : b.rows.length ≤ 100000) : PC Tryz.prog 68 [.agg (a.c.map LV.sv), .agg (b.c.map LV.sv)] (.b (decide (a = b))) := by
 refine ⟨LC.of_go Tryz.func68 (c := _) rfl (by kernel_rfl) (by rw [Tryz.ntmps68]; simp) rfl rfl (by simp [LO.lt, LV.lts, LV.lt, lts_sv]) (by simp) ?_⟩
 intro B hA hmd
 refine .seq ?_
 refine .region rfl ?_
 refine R.box (h := ?_)
 refine R.box (h := ?_)
 refine R.assign (h := ?_)
 refine .n0 ?_
 refine .seq ?_
 refine .region rfl ?_
 first | refine R.field F80_0 (h := ?_) | refine R.fieldAt F80_0 (h := ?_)
 first | refine R.loadB O9 (h := ?_) | refine R.load1 O9 (h := ?_)
 first | refine R.field F80_0 (h := ?_) | refine R.fieldAt F80_0 (h := ?_)
 first | refine R.loadB O9 (h := ?_) | refine R.load1 O9 (h := ?_)
 refine R.bin (run_eqlT _ _ _ _ _) (h := ?_)
 refine R.move (h := ?_)
 first | refine R.field F80_2 (h := ?_) | refine R.fieldAt F80_2 (h := ?_)
 first | refine R.loadB O3 (h := ?_) | refine R.load1 O3 (h := ?_)
 first | refine R.field F80_2 (h := ?_) | refine R.fieldAt F80_2 (h := ?_)
 first | refine R.loadB O3 (h := ?_) | refine R.load1 O3 (h := ?_)
 refine R.bin (run_eql _ _ _ _ _ _) (h := ?_)
 refine R.and (h := ?_)
 refine R.move (h := ?_)
 first | refine R.field F80_1 (h := ?_) | refine R.fieldAt F80_1 (h := ?_)
 first | refine R.loadB O65 (h := ?_) | refine R.load1 O65 (h := ?_)
 first | refine R.field F80_1 (h := ?_) | refine R.fieldAt F80_1 (h := ?_)
 first | refine R.loadB O65 (h := ?_) | refine R.load1 O65 (h := ?_)
 refine R.callP (es := [_, _]) (fun _ => eqInts_P a.rows b.rows ha hb) (h := ?_)
 refine R.and (h := ?_)
 refine R.assign (h := ?_)
 refine .n0 ?_
 refine LGo.eqB 4 (decide (a = b)) (hb := by
   rw [Bool.eq_iff_iff]
   simp only [Bool.and_eq_true, decide_eq_true_eq]
   exact ⟨fun h => vn_ext h.1.1 h.2 h.1.2, fun h => by subst h; exact ⟨⟨rfl, rfl⟩, rfl⟩⟩) (h := ?_)
 exact LGo.ret (ret_T Tryz.results68 hA hmd)

theorem same2_P (a b : GtG) (ha : a.secs.length ≤ 100000) (hb : b.secs.length ≤ 100000) : PC Tryz.prog 70 [.agg (a.c.map LV.sv), .agg (b.c.map LV.sv)] (.b (decide (a = b))) := by
 refine ⟨LC.of_go Tryz.func70 (c := _) rfl (by kernel_rfl) (by rw [Tryz.ntmps70]; simp) rfl rfl (by simp [LO.lt, LV.lts, LV.lt, lts_sv]) (by simp) ?_⟩
 intro B hA hmd
 refine .seq ?_
 refine .region rfl ?_
 refine R.box (h := ?_)
 refine R.box (h := ?_)
 refine R.assign (h := ?_)
 refine .n0 ?_
 refine .seq ?_
 refine .region rfl ?_
 first | refine R.field F71_1 (h := ?_) | refine R.fieldAt F71_1 (h := ?_)
 first | refine R.loadB O2 (h := ?_) | refine R.load1 O2 (h := ?_)
 first | refine R.field F71_1 (h := ?_) | refine R.fieldAt F71_1 (h := ?_)
 first | refine R.loadB O2 (h := ?_) | refine R.load1 O2 (h := ?_)
 refine R.bin (run_eql _ _ _ _ _ _) (h := ?_)
 refine R.move (h := ?_)
 first | refine R.field F71_2 (h := ?_) | refine R.fieldAt F71_2 (h := ?_)
 first | refine R.loadB O2 (h := ?_) | refine R.load1 O2 (h := ?_)
 first | refine R.field F71_2 (h := ?_) | refine R.fieldAt F71_2 (h := ?_)
 first | refine R.loadB O2 (h := ?_) | refine R.load1 O2 (h := ?_)
 refine R.bin (run_eql _ _ _ _ _ _) (h := ?_)
 refine R.and (h := ?_)
 refine R.move (h := ?_)
 first | refine R.field F71_0 (h := ?_) | refine R.fieldAt F71_0 (h := ?_)
 first | refine R.loadB O65 (h := ?_) | refine R.load1 O65 (h := ?_)
 first | refine R.field F71_0 (h := ?_) | refine R.fieldAt F71_0 (h := ?_)
 first | refine R.loadB O65 (h := ?_) | refine R.load1 O65 (h := ?_)
 refine R.callP (es := [_, _]) (fun _ => eqInts_P a.secs b.secs ha hb) (h := ?_)
 refine R.and (h := ?_)
 refine R.assign (h := ?_)
 refine .n0 ?_
 refine LGo.eqB 4 (decide (a = b)) (hb := by
   rw [Bool.eq_iff_iff]
   simp only [Bool.and_eq_true, decide_eq_true_eq]
   exact ⟨fun h => gt_ext h.2 h.1.1 h.1.2, fun h => by subst h; exact ⟨⟨rfl, rfl⟩, rfl⟩⟩) (h := ?_)
 exact LGo.ret (ret_T Tryz.results70 hA hmd)

theorem eqSecs_P (a b : List VnS) (ha : a.length ≤ 100000 ∧ ∀ x ∈ a, x.rows.length ≤ 100000) (hb : b.length ≤ 100000 ∧ ∀ x ∈ b, x.rows.length ≤ 100000) : PC Tryz.prog 71 [.sv (.sl 3 (a.map VnS.c)), .sv (.sl 3 (b.map VnS.c)), .fn (.func 68) [] []] (.b (decide (a = b))) := by
 refine ⟨LC.of_go Tryz.func71 (c := _) rfl (by kernel_rfl) (by rw [Tryz.ntmps71]; simp) rfl rfl (by simp [LO.lt, LV.lts, LV.lt, lts_sv]) (by simp) ?_⟩
 intro B hA hmd
 obtain ⟨g, e0⟩ : ∃ g, decide (a = b) = g := ⟨_, rfl⟩
 rw [e0]
 obtain ⟨ha1, ha2⟩ := ha
 obtain ⟨hb1, hb2⟩ := hb
 refine .seq ?_
 refine .region rfl ?_
 refine R.assign (h := ?_)
 refine .n0 ?_
 refine .seq ?_
 refine .seq ?_
 refine .region rfl ?_
 refine R.move (h := ?_)
 first | refine R.len S22 (h := ?_) | refine R.lenRs S22 (h := ?_) | refine R.lenV (run_lenNil S22) (h := ?_)
 rw [List.length_map]
 refine R.move (h := ?_)
 first | refine R.len S22 (h := ?_) | refine R.lenRs S22 (h := ?_) | refine R.lenV (run_lenNil S22) (h := ?_)
 rw [List.length_map]
 refine R.bin (run_neq _ _ _ _ _ _) (h := ?_)
 refine .n0 ?_
 refine LGo.ifb (ht := fun hc => ?_) (hf := fun hc => ?_)
 ·
  obtain rfl : g = false := by rw [← e0]; exact decide_eq_false (fun h => by rw [h] at hc; simp at hc)
  refine .seq ?_
  refine .region rfl ?_
  refine R.assign (h := ?_)
  refine .n0 ?_
  exact LGo.ret (ret_T Tryz.results71 hA hmd)
 ·
  have hll : a.length = b.length := by simp at hc; omega
  refine .skip ?_
  refine .seq ?_
  refine .seq ?_
  refine .region rfl ?_
  refine R.move (h := ?_)
  first | refine R.len S22 (h := ?_) | refine R.lenRs S22 (h := ?_) | refine R.lenV (run_lenNil S22) (h := ?_)
  rw [List.length_map]
  refine R.move (h := ?_)
  refine .n0 ?_
  refine .block ?_
  refine .loop ?_
  refine LGo.loopG (σ := Nat) (fun x => x ≤ a.length ∧ a.take x = b.take x) (fun x => [(17, (true, .i (x : Nat)))]) (fun x => []) (fun x => a.length - x) (0) [(1, _), (2, _), (15, _), (16, _)] ⟨Nat.zero_le _, by simp⟩ (by repeat (first | exact trivial | refine ⟨rfl, ?_⟩)) (by repeat (first | exact trivial | refine ⟨rfl, ?_⟩)) (by repeat (first | exact trivial | refine ⟨rfl, ?_⟩)) ?_
  rintro k ⟨hk, hq⟩ ih
  refine .seq ?_
  refine .region rfl ?_
  refine R.bin (run_lss _ _ _ _ _ _) (h := ?_)
  refine .n0 ?_
  refine .seq ?_
  refine LGo.ifd (ht := fun hc2 => ?_) (hf := fun hc2 => ?_)
  ·
   have hlt : k < a.length := by omega
   have hlt2 : k < b.length := by omega
   have hx : (a.map VnS.c)[((k : Nat) : Int).toNat]? = some a[k].c := by simp [hlt]
   have hy : (b.map VnS.c)[((k : Nat) : Int).toNat]? = some b[k].c := by simp [hlt2]
   have hp : a[k] = b[k] → a.take (k + 1) = b.take (k + 1) := fun h => by rw [List.take_succ_eq_append_getElem hlt, List.take_succ_eq_append_getElem hlt2, hq, h]
   have hn : a = b → a[k] = b[k] := fun h => by subst h; rfl
   have hxl := ha2 _ (List.getElem_mem hlt)
   have hyl := hb2 _ (List.getElem_mem hlt2)
   generalize a[k] = p at hx hp hn hxl
   generalize b[k] = q at hy hp hn hyl
   refine .skip ?_
   refine .seq ?_
   refine .block ?_
   refine .seq ?_
   refine .region rfl ?_
   refine R.move (h := ?_)
   refine R.index I22 (hj := fun hg => ⟨by omega, hx⟩) (h := ?_)
   first | refine R.loadA A80 (h := ?_) | refine R.loadN A80 (h := ?_) | refine R.loadP A80 (h := ?_)
   refine R.alloc Z80 (h := ?_)
   refine R.assign (h := ?_)
   refine R.storeA A80 (h := ?_)
   refine .n0 ?_
   refine .seq ?_
   refine .region rfl ?_
   refine R.move (h := ?_)
   refine R.move (h := ?_)
   refine R.index I22 (hj := fun hg => ⟨by omega, hy⟩) (h := ?_)
   first | refine R.loadA A80 (h := ?_) | refine R.loadN A80 (h := ?_) | refine R.loadP A80 (h := ?_)
   refine R.alloc Z80 (h := ?_)
   refine R.storeA A80 (h := ?_)
   refine .n0 ?_
   refine .seq ?_
   refine .region rfl ?_
   refine R.move (h := ?_)
   first | refine R.loadA A80 (h := ?_) | refine R.loadN A80 (h := ?_) | refine R.loadP A80 (h := ?_)
   first | refine R.loadA A80 (h := ?_) | refine R.loadN A80 (h := ?_) | refine R.loadP A80 (h := ?_)
   refine R.callRd (m := 0) (avs := [_, _]) (es := [_, _]) (first := []) (cap := []) (same1_P p q hxl hyl).lc (hL := noHo) (h := ?_)
   refine R.not (h := ?_)
   refine .n0 ?_
   refine LGo.ifb (ht := fun hc3 => ?_) (hf := fun hc3 => ?_)
   ·
    obtain rfl : g = false := by rw [← e0]; exact decide_eq_false (fun h => by rw [hn h] at hc3; simp at hc3)
    refine .seq ?_
    refine .region rfl ?_
    refine R.assign (h := ?_)
    refine .n0 ?_
    exact LGo.ret (ret_T Tryz.results71 hA hmd)
   ·
    have hp2 := hp (by simpa using hc3)
    refine .skip ?_
    refine .inBlock ?_
    refine .region rfl ?_
    first | refine R.add (h := ?_) | refine R.addW (h := ?_)
    refine R.move (h := ?_)
    refine .n0 ?_
    refine .inLoop ?_
    exact LGo.next _ (fun o h => by have := (hA o).1 h; omega) (by omega) (ih (k + 1) ⟨by omega, hp2⟩ (by omega)) (by repeat (first | exact trivial | refine ⟨rfl, ?_⟩)) (by repeat (first | exact trivial | refine ⟨rfl, ?_⟩))
  ·
   obtain rfl : g = true := by rw [← e0]; exact decide_eq_true (by rwa [List.take_of_length_le (by omega), List.take_of_length_le (by omega)] at hq)
   refine .exit rfl ?_
   refine .seq ?_
   refine .region rfl ?_
   refine R.assign (h := ?_)
   refine .n0 ?_
   exact LGo.ret (ret_T Tryz.results71 hA hmd)

theorem eqGates_P (a b : List GtG) (ha : a.length ≤ 100000 ∧ ∀ x ∈ a, x.secs.length ≤ 100000) (hb : b.length ≤ 100000 ∧ ∀ x ∈ b, x.secs.length ≤ 100000) : PC Tryz.prog 72 [.sv (.sl 3 (a.map GtG.c)), .sv (.sl 3 (b.map GtG.c)), .fn (.func 70) [] []] (.b (decide (a = b))) := by
 refine ⟨LC.of_go Tryz.func72 (c := _) rfl (by kernel_rfl) (by rw [Tryz.ntmps72]; simp) rfl rfl (by simp [LO.lt, LV.lts, LV.lt, lts_sv]) (by simp) ?_⟩
 intro B hA hmd
 obtain ⟨g, e0⟩ : ∃ g, decide (a = b) = g := ⟨_, rfl⟩
 rw [e0]
 obtain ⟨ha1, ha2⟩ := ha
 obtain ⟨hb1, hb2⟩ := hb
 refine .seq ?_
 refine .region rfl ?_
 refine R.assign (h := ?_)
 refine .n0 ?_
 refine .seq ?_
 refine .seq ?_
 refine .region rfl ?_
 refine R.move (h := ?_)
 first | refine R.len S25 (h := ?_) | refine R.lenRs S25 (h := ?_) | refine R.lenV (run_lenNil S25) (h := ?_)
 rw [List.length_map]
 refine R.move (h := ?_)
 first | refine R.len S25 (h := ?_) | refine R.lenRs S25 (h := ?_) | refine R.lenV (run_lenNil S25) (h := ?_)
 rw [List.length_map]
 refine R.bin (run_neq _ _ _ _ _ _) (h := ?_)
 refine .n0 ?_
 refine LGo.ifb (ht := fun hc => ?_) (hf := fun hc => ?_)
 ·
  obtain rfl : g = false := by rw [← e0]; exact decide_eq_false (fun h => by rw [h] at hc; simp at hc)
  refine .seq ?_
  refine .region rfl ?_
  refine R.assign (h := ?_)
  refine .n0 ?_
  exact LGo.ret (ret_T Tryz.results72 hA hmd)
 ·
  have hll : a.length = b.length := by simp at hc; omega
  refine .skip ?_
  refine .seq ?_
  refine .seq ?_
  refine .region rfl ?_
  refine R.move (h := ?_)
  first | refine R.len S25 (h := ?_) | refine R.lenRs S25 (h := ?_) | refine R.lenV (run_lenNil S25) (h := ?_)
  rw [List.length_map]
  refine R.move (h := ?_)
  refine .n0 ?_
  refine .block ?_
  refine .loop ?_
  refine LGo.loopG (σ := Nat) (fun x => x ≤ a.length ∧ a.take x = b.take x) (fun x => [(17, (true, .i (x : Nat)))]) (fun x => []) (fun x => a.length - x) (0) [(1, _), (2, _), (15, _), (16, _)] ⟨Nat.zero_le _, by simp⟩ (by repeat (first | exact trivial | refine ⟨rfl, ?_⟩)) (by repeat (first | exact trivial | refine ⟨rfl, ?_⟩)) (by repeat (first | exact trivial | refine ⟨rfl, ?_⟩)) ?_
  rintro k ⟨hk, hq⟩ ih
  refine .seq ?_
  refine .region rfl ?_
  refine R.bin (run_lss _ _ _ _ _ _) (h := ?_)
  refine .n0 ?_
  refine .seq ?_
  refine LGo.ifd (ht := fun hc2 => ?_) (hf := fun hc2 => ?_)
  ·
   have hlt : k < a.length := by omega
   have hlt2 : k < b.length := by omega
   have hx : (a.map GtG.c)[((k : Nat) : Int).toNat]? = some a[k].c := by simp [hlt]
   have hy : (b.map GtG.c)[((k : Nat) : Int).toNat]? = some b[k].c := by simp [hlt2]
   have hp : a[k] = b[k] → a.take (k + 1) = b.take (k + 1) := fun h => by rw [List.take_succ_eq_append_getElem hlt, List.take_succ_eq_append_getElem hlt2, hq, h]
   have hn : a = b → a[k] = b[k] := fun h => by subst h; rfl
   have hxl := ha2 _ (List.getElem_mem hlt)
   have hyl := hb2 _ (List.getElem_mem hlt2)
   generalize a[k] = p at hx hp hn hxl
   generalize b[k] = q at hy hp hn hyl
   refine .skip ?_
   refine .seq ?_
   refine .block ?_
   refine .seq ?_
   refine .region rfl ?_
   refine R.move (h := ?_)
   refine R.index I25 (hj := fun hg => ⟨by omega, hx⟩) (h := ?_)
   first | refine R.loadA A71 (h := ?_) | refine R.loadN A71 (h := ?_) | refine R.loadP A71 (h := ?_)
   refine R.alloc Z71 (h := ?_)
   refine R.assign (h := ?_)
   refine R.storeA A71 (h := ?_)
   refine .n0 ?_
   refine .seq ?_
   refine .region rfl ?_
   refine R.move (h := ?_)
   refine R.move (h := ?_)
   refine R.index I25 (hj := fun hg => ⟨by omega, hy⟩) (h := ?_)
   first | refine R.loadA A71 (h := ?_) | refine R.loadN A71 (h := ?_) | refine R.loadP A71 (h := ?_)
   refine R.alloc Z71 (h := ?_)
   refine R.storeA A71 (h := ?_)
   refine .n0 ?_
   refine .seq ?_
   refine .region rfl ?_
   refine R.move (h := ?_)
   first | refine R.loadA A71 (h := ?_) | refine R.loadN A71 (h := ?_) | refine R.loadP A71 (h := ?_)
   first | refine R.loadA A71 (h := ?_) | refine R.loadN A71 (h := ?_) | refine R.loadP A71 (h := ?_)
   refine R.callRd (m := 0) (avs := [_, _]) (es := [_, _]) (first := []) (cap := []) (same2_P p q hxl hyl).lc (hL := noHo) (h := ?_)
   refine R.not (h := ?_)
   refine .n0 ?_
   refine LGo.ifb (ht := fun hc3 => ?_) (hf := fun hc3 => ?_)
   ·
    obtain rfl : g = false := by rw [← e0]; exact decide_eq_false (fun h => by rw [hn h] at hc3; simp at hc3)
    refine .seq ?_
    refine .region rfl ?_
    refine R.assign (h := ?_)
    refine .n0 ?_
    exact LGo.ret (ret_T Tryz.results72 hA hmd)
   ·
    have hp2 := hp (by simpa using hc3)
    refine .skip ?_
    refine .inBlock ?_
    refine .region rfl ?_
    first | refine R.add (h := ?_) | refine R.addW (h := ?_)
    refine R.move (h := ?_)
    refine .n0 ?_
    refine .inLoop ?_
    exact LGo.next _ (fun o h => by have := (hA o).1 h; omega) (by omega) (ih (k + 1) ⟨by omega, hp2⟩ (by omega)) (by repeat (first | exact trivial | refine ⟨rfl, ?_⟩)) (by repeat (first | exact trivial | refine ⟨rfl, ?_⟩))
  ·
   obtain rfl : g = true := by rw [← e0]; exact decide_eq_true (by rwa [List.take_of_length_le (by omega), List.take_of_length_le (by omega)] at hq)
   refine .exit rfl ?_
   refine .seq ?_
   refine .region rfl ?_
   refine R.assign (h := ?_)
   refine .n0 ?_
   exact LGo.ret (ret_T Tryz.results72 hA hmd)

theorem sameS_P (a b : Sc) (ha : a.sm2) (hb : b.sm2) : PC Tryz.prog 18 [.agg (a.c.map LV.sv), .agg (b.c.map LV.sv)] (.b (decide (a = b))) := by
 refine ⟨LC.of_go Tryz.func18 (c := _) rfl (by kernel_rfl) (by rw [Tryz.ntmps18]; simp) rfl rfl (by simp [LO.lt, LV.lts, LV.lt, lts_sv]) (by simp) ?_⟩
 intro B hA hmd
 refine .seq ?_
 refine .region rfl ?_
 refine R.box (h := ?_)
 refine R.box (h := ?_)
 refine R.assign (h := ?_)
 refine .n0 ?_
 refine .seq ?_
 refine .region rfl ?_
 refine R.assign (h := ?_)
 refine .n0 ?_
 refine .seq ?_
 refine .region rfl ?_
 refine R.assign (h := ?_)
 refine .n0 ?_
 refine .seq ?_
 refine .region rfl ?_
 first | refine R.field F29_0 (h := ?_) | refine R.fieldAt F29_0 (h := ?_)
 first | refine R.loadA A24 (h := ?_) | refine R.loadN A24 (h := ?_) | refine R.loadP A24 (h := ?_)
 first | refine R.field F29_0 (h := ?_) | refine R.fieldAt F29_0 (h := ?_)
 first | refine R.loadA A24 (h := ?_) | refine R.loadN A24 (h := ?_) | refine R.loadP A24 (h := ?_)
 refine R.alloc Z24 (h := ?_)
 refine R.alloc Z24 (h := ?_)
 refine R.storeA A24 (h := ?_)
 refine R.storeA A24 (h := ?_)
 refine Reg.nil ⟨fun _ => ⟨mixedO, by rfl, by rfl⟩, ?_⟩
 refine .seq ?_
 refine .region rfl ?_
 first | refine R.field F24_0 (h := ?_) | refine R.fieldAt F24_0 (h := ?_)
 first | refine R.loadB O3 (h := ?_) | refine R.load1 O3 (h := ?_)
 first | refine R.field F24_0 (h := ?_) | refine R.fieldAt F24_0 (h := ?_)
 first | refine R.loadB O3 (h := ?_) | refine R.load1 O3 (h := ?_)
 refine R.bin (run_eql _ _ _ _ _ _) (h := ?_)
 refine R.move (h := ?_)
 first | refine R.field F24_1 (h := ?_) | refine R.fieldAt F24_1 (h := ?_)
 first | refine R.loadB O2 (h := ?_) | refine R.load1 O2 (h := ?_)
 first | refine R.field F24_1 (h := ?_) | refine R.fieldAt F24_1 (h := ?_)
 first | refine R.loadB O2 (h := ?_) | refine R.load1 O2 (h := ?_)
 refine R.bin (run_eql _ _ _ _ _ _) (h := ?_)
 refine R.and (h := ?_)
 refine R.move (h := ?_)
 first | refine R.field F24_2 (h := ?_) | refine R.fieldAt F24_2 (h := ?_)
 first | refine R.loadB O2 (h := ?_) | refine R.load1 O2 (h := ?_)
 first | refine R.field F24_2 (h := ?_) | refine R.fieldAt F24_2 (h := ?_)
 first | refine R.loadB O2 (h := ?_) | refine R.load1 O2 (h := ?_)
 refine R.bin (run_eql _ _ _ _ _ _) (h := ?_)
 refine R.and (h := ?_)
 refine R.move (h := ?_)
 first | refine R.field F24_3 (h := ?_) | refine R.fieldAt F24_3 (h := ?_)
 first | refine R.loadB O22 (h := ?_) | refine R.load1 O22 (h := ?_)
 first | refine R.field F24_3 (h := ?_) | refine R.fieldAt F24_3 (h := ?_)
 first | refine R.loadB O22 (h := ?_) | refine R.load1 O22 (h := ?_)
 refine R.move (h := ?_)
 refine R.callP (es := [_, _, _]) (fun _ => eqSecs_P a.ven.secs b.ven.secs ⟨ha.vl, ha.vr⟩ ⟨hb.vl, hb.vr⟩) (h := ?_)
 refine R.and (h := ?_)
 refine R.move (h := ?_)
 first | refine R.field F29_1 (h := ?_) | refine R.fieldAt F29_1 (h := ?_)
 first | refine R.loadB O9 (h := ?_) | refine R.load1 O9 (h := ?_)
 first | refine R.field F29_1 (h := ?_) | refine R.fieldAt F29_1 (h := ?_)
 first | refine R.loadB O9 (h := ?_) | refine R.load1 O9 (h := ?_)
 refine R.bin (run_eqlT _ _ _ _ _) (h := ?_)
 refine R.and (h := ?_)
 refine R.move (h := ?_)
 first | refine R.field F29_2 (h := ?_) | refine R.fieldAt F29_2 (h := ?_)
 first | refine R.loadB O25 (h := ?_) | refine R.load1 O25 (h := ?_)
 first | refine R.field F29_2 (h := ?_) | refine R.fieldAt F29_2 (h := ?_)
 first | refine R.loadB O25 (h := ?_) | refine R.load1 O25 (h := ?_)
 refine R.move (h := ?_)
 refine R.callP (es := [_, _, _]) (fun _ => eqGates_P a.gates b.gates ⟨ha.gl, ha.gs⟩ ⟨hb.gl, hb.gs⟩) (h := ?_)
 refine R.and (h := ?_)
 refine R.move (h := ?_)
 first | refine R.field F29_3 (h := ?_) | refine R.fieldAt F29_3 (h := ?_)
 first | refine R.loadB O3 (h := ?_) | refine R.load1 O3 (h := ?_)
 first | refine R.field F29_3 (h := ?_) | refine R.fieldAt F29_3 (h := ?_)
 first | refine R.loadB O3 (h := ?_) | refine R.load1 O3 (h := ?_)
 refine R.bin (run_eql _ _ _ _ _ _) (h := ?_)
 refine R.and (h := ?_)
 refine R.move (h := ?_)
 first | refine R.field F29_4 (h := ?_) | refine R.fieldAt F29_4 (h := ?_)
 first | refine R.loadB O26 (h := ?_) | refine R.load1 O26 (h := ?_)
 first | refine R.field F29_4 (h := ?_) | refine R.fieldAt F29_4 (h := ?_)
 first | refine R.loadB O26 (h := ?_) | refine R.load1 O26 (h := ?_)
 refine R.callP (es := [_, _]) (fun _ => eqCalls_P a.calls b.calls ha.cl hb.cl) (h := ?_)
 refine R.and (h := ?_)
 refine R.move (h := ?_)
 first | refine R.field F29_5 (h := ?_) | refine R.fieldAt F29_5 (h := ?_)
 first | refine R.loadB O27 (h := ?_) | refine R.load1 O27 (h := ?_)
 first | refine R.field F29_5 (h := ?_) | refine R.fieldAt F29_5 (h := ?_)
 first | refine R.loadB O27 (h := ?_) | refine R.load1 O27 (h := ?_)
 refine R.callP (es := [_, _]) (fun _ => eqEvs_P a.evs b.evs ha.el hb.el) (h := ?_)
 refine R.and (h := ?_)
 refine R.assign (h := ?_)
 refine .n0 ?_
 refine LGo.eqB 4 (decide (a = b)) (hb := by
   rw [Bool.eq_iff_iff]
   simp only [Bool.and_eq_true, decide_eq_true_eq]
   constructor
   · rintro ⟨⟨⟨⟨⟨⟨⟨⟨h1, h2⟩, h3⟩, h4⟩, h5⟩, h6⟩, h7⟩, h8⟩, h9⟩
     exact sc_ext (ven_ext h1 h2 h3 h4) h5 h6 h7 h8 h9
   · intro h; subst h; exact ⟨⟨⟨⟨⟨⟨⟨⟨rfl, rfl⟩, rfl⟩, rfl⟩, rfl⟩, rfl⟩, rfl⟩, rfl⟩, rfl⟩) (h := ?_)
 exact LGo.ret (ret_T Tryz.results18 hA hmd)

end Go.Proofs.YteccglgbkehdeaaGreatDoor
/- scripts: the law ScriptSame (walk). -/
set_option linter.unusedSimpArgs false
set_option linter.unusedVariables false
namespace Go.Proofs.YteccglgbkehdeaaGreatDoor

theorem sameST {a : Sc} (h : a.sm2) : PC Tryz.prog 18 [.agg (a.c.map LV.sv), .agg (a.c.map LV.sv)] (.b true) := by
  have := sameS_P a a h h
  rwa [decide_eq_true rfl] at this
theorem wrap_ne {n : Int} (h : R64 n) : IntKind.i64.wrap (n + 1) ≠ n := by
  unfold R64 at h
  rw [IntKind.wrap_i64]
  omega
def bumpC (c : SrC) : SrC := { c with n := IntKind.i64.wrap (c.n + 1) }
def bumpE (x : SrE) : SrE := { x with a := IntKind.i64.wrap (x.a + 1) }
theorem set_ne {α : Type} {l : List α} {k : Nat} {x y : α} (hk : l[k]? = some x) (h : y ≠ x) : l.set k y ≠ l := by
  intro he
  have h1 : (l.set k y)[k]? = some y := by
    obtain ⟨hl, _⟩ := List.getElem?_eq_some_iff.1 hk
    rw [List.getElem?_set_self hl]
  rw [he, hk] at h1
  exact h (Option.some.inj h1).symm
theorem rowC_set (l : List SrC) (j : Nat) (c : SrC) : (l.map SrC.c).set j (c.c.set 7 (.val (.int .i64 (IntKind.i64.wrap (c.n + 1))))) = (l.set j (bumpC c)).map SrC.c := by rw [List.map_set]; rfl
theorem rowE_set (l : List SrE) (j : Nat) (c : SrE) : (l.map SrE.c).set j (c.c.set 1 (.val (.int .i64 (IntKind.i64.wrap (c.a + 1))))) = (l.set j (bumpE c)).map SrE.c := by rw [List.map_set]; rfl

theorem same_W (s : Sc) (hok : s.ok) (what : Int) (hw : 0 ≤ what ∧ what < 256) (wh : Int) (hwh : R64 wh) : PC Tryz.prog 8 [.agg (s.c.map LV.sv), .v (.int .u8 what), .i wh] (.b true) := by
 refine ⟨LC.of_go Tryz.func8 (c := _) rfl (by kernel_rfl) (by rw [Tryz.ntmps8]; simp) rfl rfl (by simp [LO.lt, LV.lts, LV.lt, lts_sv]) (by simp) ?_⟩
 intro B hA hmd
 refine .seq ?_
 refine .region rfl ?_
 refine R.box (h := ?_)
 refine R.assign (h := ?_)
 refine .n0 ?_
 refine .seq ?_
 refine .seq ?_
 refine .region rfl ?_
 first | refine R.loadA A29 (h := ?_) | refine R.loadN A29 (h := ?_) | refine R.loadP A29 (h := ?_)
 refine R.callP (es := [_]) (fun _ => far_P s hok) (h := ?_)
 refine .n0 ?_
 refine LGo.ifb (ht := fun hc => ?_) (hf := fun hc => ?_)
 ·
  refine .seq ?_
  refine .region rfl ?_
  refine R.callP (es := []) (fun _ => awake_P) (h := ?_)
  refine R.assign (h := ?_)
  refine .n0 ?_
  exact LGo.ret (ret_T Tryz.results8 hA hmd)
 ·
  have hn := far_near hc
  have hs := hok.sm hn
  have h2 := hn.sm2
  have hel : s.evs.length ≤ 1100 := by have := hn.el; omega
  have hcl : s.calls.length ≤ 70 := by have := hn.cl; omega
  have hkl := hn.key
  have hgl := hn.gl
  refine .skip ?_
  refine .seq ?_
  refine .seq ?_
  refine .region rfl ?_
  first | refine R.loadA A29 (h := ?_) | refine R.loadN A29 (h := ?_) | refine R.loadP A29 (h := ?_)
  first | refine R.loadA A29 (h := ?_) | refine R.loadN A29 (h := ?_) | refine R.loadP A29 (h := ?_)
  refine R.callP (es := [_, _]) (fun _ => sameST h2) (h := ?_)
  refine R.not (h := ?_)
  refine .n0 ?_
  refine LGo.ifb (ht := fun hc2 => by simp at hc2) (hf := fun hc2 => ?_)
  refine .skip ?_
  refine .seq ?_
  refine .region rfl ?_
  first | refine R.loadA A29 (h := ?_) | refine R.loadN A29 (h := ?_) | refine R.loadP A29 (h := ?_)
  refine R.alloc Z29 (h := ?_)
  refine R.storeA A29 (h := ?_)
  refine .n0 ?_
  refine .seq ?_
  refine .region rfl ?_
  refine R.move (h := ?_)
  refine R.move (h := ?_)
  refine R.addW (h := ?_)
  refine R.neg (h := ?_)
  refine R.maxI (h := ?_)
  refine R.assign (h := ?_)
  refine .n0 ?_
  obtain ⟨N, hN, hN0, hN1⟩ : ∃ N, max wh (IntKind.i64.wrap (-(IntKind.i64.wrap (wh + 1)))) = N ∧ 0 ≤ N ∧ N ≤ 9223372036854775807 := ⟨_, rfl, by unfold R64 at hwh; rw [IntKind.wrap_i64, IntKind.wrap_i64]; omega, by unfold R64 at hwh; rw [IntKind.wrap_i64, IntKind.wrap_i64]; omega⟩
  rw [hN]
  refine .seq ?_
  refine .seq ?_
  refine .region rfl ?_
  refine R.move (h := ?_)
  refine R.rem (h := ?_)
  refine .n0 ?_
  refine LGo.cut (σ := Sc) (fun x => x.sm2 ∧ s ≠ x) (fun x => []) (fun x => [(0, .box 29 (s.c.map LV.sv)), (1, .box 29 (x.c.map LV.sv))]) 2 [(3, _), (7, _)] (by repeat (first | exact trivial | refine ⟨rfl, ?_⟩)) ?_ (fun hcut => ?_)
  ·
   rintro u ⟨hu2, hne⟩
   refine .seq ?_
   refine .region rfl ?_
   first | refine R.loadA A29 (h := ?_) | refine R.loadN A29 (h := ?_) | refine R.loadP A29 (h := ?_)
   first | refine R.loadA A29 (h := ?_) | refine R.loadN A29 (h := ?_) | refine R.loadP A29 (h := ?_)
   refine R.callP (es := [_, _]) (fun _ => sameS_P s u h2 hu2) (h := ?_)
   refine R.not (h := ?_)
   refine R.move (h := ?_)
   first | refine R.loadA A29 (h := ?_) | refine R.loadN A29 (h := ?_) | refine R.loadP A29 (h := ?_)
   first | refine R.loadA A29 (h := ?_) | refine R.loadN A29 (h := ?_) | refine R.loadP A29 (h := ?_)
   refine R.callP (es := [_, _]) (fun _ => sameS_P u s hu2 h2) (h := ?_)
   refine R.not (h := ?_)
   refine R.and (h := ?_)
   refine R.move (h := ?_)
   first | refine R.loadA A29 (h := ?_) | refine R.loadN A29 (h := ?_) | refine R.loadP A29 (h := ?_)
   first | refine R.loadA A29 (h := ?_) | refine R.loadN A29 (h := ?_) | refine R.loadP A29 (h := ?_)
   refine R.callP (es := [_, _]) (fun _ => sameRT h2) (h := ?_)
   refine R.and (h := ?_)
   refine R.move (h := ?_)
   refine R.callP (es := []) (fun _ => awake_P) (h := ?_)
   refine R.and (h := ?_)
   refine R.assign (h := ?_)
   refine .n0 ?_
   refine LGo.eqB 6 true (hb := by simp [hne, Ne.symm hne]) (h := ?_)
   exact LGo.ret (ret_T Tryz.results8 hA hmd)
  ·
   refine .block ?_
   refine .seq ?_
   refine .region rfl ?_
   refine R.bin (run_eql _ _ _ _ _ _) (h := ?_)
   refine R.assign (h := ?_)
   refine .n0 ?_
   first | refine LGo.ifd (ht := fun hc3 => ?_) (hf := fun hc3 => ?_) | refine LGo.ifb (ht := fun hc3 => ?_) (hf := fun hc3 => ?_)
   ·
    refine .region rfl ?_
    first | refine R.field F29_0 (h := ?_) | refine R.fieldAt F29_0 (h := ?_)
    first | refine R.field F24_1 (h := ?_) | refine R.fieldAt F24_1 (h := ?_)
    first | refine R.loadB O2 (h := ?_) | refine R.load1 O2 (h := ?_)
    refine R.addW (h := ?_)
    first | refine R.field F29_0 (h := ?_) | refine R.fieldAt F29_0 (h := ?_)
    first | refine R.field F24_1 (h := ?_) | refine R.fieldAt F24_1 (h := ?_)
    refine R.storeB O2 (h := ?_)
    refine .n0 ?_
    refine .inBlock ?_
    exact LGo.next _ (fun o h => by have := (hA o).1 h; omega) (by omega) (hcut ({ s with ven := { s.ven with ttl := IntKind.i64.wrap (s.ven.ttl + 1) } }) ⟨⟨h2.vl, h2.vr, h2.gl, h2.gs, h2.cl, h2.el⟩, fun h => wrap_ne hok.n2 (congrArg (fun x : Sc => x.ven.ttl) h).symm⟩) (by repeat (first | exact trivial | refine ⟨rfl, ?_⟩)) ⟨rfl, rfl, trivial⟩
   ·
    refine .seq ?_
    refine .region rfl ?_
    refine R.bin (run_eql _ _ _ _ _ _) (h := ?_)
    refine R.assign (h := ?_)
    refine .n0 ?_
    first | refine LGo.ifd (ht := fun hc4 => ?_) (hf := fun hc4 => ?_) | refine LGo.ifb (ht := fun hc4 => ?_) (hf := fun hc4 => ?_)
    ·
     refine .region rfl ?_
     first | refine R.field F29_1 (h := ?_) | refine R.fieldAt F29_1 (h := ?_)
     first | refine R.loadB O9 (h := ?_) | refine R.load1 O9 (h := ?_)
     refine R.bin (run_addT _ _ _ [43] s.key (by simp; omega)) (h := ?_)
     first | refine R.field F29_1 (h := ?_) | refine R.fieldAt F29_1 (h := ?_)
     refine R.storeB O9 (h := ?_)
     refine .n0 ?_
     refine .inBlock ?_
     exact LGo.next _ (fun o h => by have := (hA o).1 h; omega) (by omega) (hcut ({ s with key := [43] ++ s.key }) ⟨⟨h2.vl, h2.vr, h2.gl, h2.gs, h2.cl, h2.el⟩, fun h => by have := congrArg (fun x : Sc => x.key.length) h; simp at this⟩) (by repeat (first | exact trivial | refine ⟨rfl, ?_⟩)) ⟨rfl, rfl, trivial⟩
    ·
     refine .seq ?_
     refine .region rfl ?_
     refine R.bin (run_eql _ _ _ _ _ _) (h := ?_)
     refine R.assign (h := ?_)
     refine .n0 ?_
     first | refine LGo.ifd (ht := fun hc5 => ?_) (hf := fun hc5 => ?_) | refine LGo.ifb (ht := fun hc5 => ?_) (hf := fun hc5 => ?_)
     ·
      refine .region rfl ?_
      refine R.buildSliceR AP25 (xs := []) (es := []) (hcs := CellsOfs.nil) (h := ?_)
      first | refine R.field F29_2 (h := ?_) | refine R.fieldAt F29_2 (h := ?_)
      first | refine R.loadB O25 (h := ?_) | refine R.load1 O25 (h := ?_)
      refine R.appendS AP25 (hs := SrcOk.sl Tryz.underlying25 (gt_ones _)) (hlen := by simp; omega) (h := ?_)
      refine R.buildZ BF71 (.agg ((GtG.c ⟨[], 0, 0⟩).map LV.sv)) (hw := fun cx w => by
        simp only [V]
        refine ⟨_, rfl, ?_⟩
        show Vs cx w [.sv (.sl 1 []), .i 0, .i 0] _
        simp only [Vs]
        refine ⟨_, _, rfl, by simp only [V, VS]; exact .inl ⟨.inl rfl, trivial⟩, _, _, rfl, by simp [V, VS], _, _, rfl, by simp [V, VS], rfl⟩) (h := ?_)
      refine R.buildSliceG AP25 (xs := [_]) (es := [_]) (hcs := CellsOfs.cons (CellsOf.agg rfl) CellsOfs.nil) (h := ?_)
      refine R.appendS AP25 (hs := SrcOk.sl Tryz.underlying25 (by simp; rfl)) (hlen := by simp; omega) (h := ?_)
      first | refine R.field F29_2 (h := ?_) | refine R.fieldAt F29_2 (h := ?_)
      refine R.storeB O25 (h := ?_)
      refine .n0 ?_
      refine .inBlock ?_
      refine LGo.pack 1 5 (h := ?_)
      refine LGo.frzBx 1 (h := ?_)
      rw [show ([] ++ s.gates.map GtG.c ++ [List.map unSv (List.map LV.sv (GtG.c ⟨[], 0, 0⟩))]) = (s.gates ++ [(⟨[], 0, 0⟩ : GtG)]).map GtG.c from by simp; rfl]
      exact LGo.next _ (fun o h => by have := (hA o).1 h; omega) (by omega) (hcut ({ s with gates := s.gates ++ [⟨[], 0, 0⟩] }) ⟨⟨h2.vl, h2.vr, by show (s.gates ++ [_]).length ≤ _; rw [List.length_append, List.length_cons, List.length_nil]; omega, fun y hy => by
          rcases List.mem_append.1 hy with hy | hy
          · exact h2.gs y hy
          · rw [List.mem_singleton.1 hy]; exact Nat.zero_le _, h2.cl, h2.el⟩, fun h => by have := congrArg (fun x : Sc => x.gates.length) h; simp at this⟩) (by repeat (first | exact trivial | refine ⟨rfl, ?_⟩)) ⟨rfl, rfl, trivial⟩
     ·
      refine .seq ?_
      refine .region rfl ?_
      refine R.bin (run_eql _ _ _ _ _ _) (h := ?_)
      refine R.assign (h := ?_)
      refine .n0 ?_
      first | refine LGo.ifd (ht := fun hc6 => ?_) (hf := fun hc6 => ?_) | refine LGo.ifb (ht := fun hc6 => ?_) (hf := fun hc6 => ?_)
      ·
       refine .region rfl ?_
       first | refine R.field F29_3 (h := ?_) | refine R.fieldAt F29_3 (h := ?_)
       first | refine R.loadB O3 (h := ?_) | refine R.load1 O3 (h := ?_)
       refine R.addW (h := ?_)
       first | refine R.field F29_3 (h := ?_) | refine R.fieldAt F29_3 (h := ?_)
       refine R.storeB O3 (h := ?_)
       refine .n0 ?_
       refine .inBlock ?_
       exact LGo.next _ (fun o h => by have := (hA o).1 h; omega) (by omega) (hcut ({ s with workers := IntKind.i64.wrap (s.workers + 1) }) ⟨⟨h2.vl, h2.vr, h2.gl, h2.gs, h2.cl, h2.el⟩, fun h => wrap_ne hok.w (congrArg (fun x : Sc => x.workers) h).symm⟩) (by repeat (first | exact trivial | refine ⟨rfl, ?_⟩)) ⟨rfl, rfl, trivial⟩
      ·
       refine .seq ?_
       refine .region rfl ?_
       refine R.bin (run_eql _ _ _ _ _ _) (h := ?_)
       refine R.assign (h := ?_)
       refine .n0 ?_
       first | refine LGo.ifd (ht := fun hc7 => ?_) (hf := fun hc7 => ?_) | refine LGo.ifb (ht := fun hc7 => ?_) (hf := fun hc7 => ?_)
       ·
        refine .seq ?_
        refine .seq ?_
        refine .region rfl ?_
        first | refine R.field F29_4 (h := ?_) | refine R.fieldAt F29_4 (h := ?_)
        first | refine R.loadB O26 (h := ?_) | refine R.load1 O26 (h := ?_)
        first | refine R.len S26 (h := ?_) | refine R.lenRs S26 (h := ?_) | refine R.lenV (run_lenNil S26) (h := ?_)
        rw [List.length_map]
        refine R.bin (run_eql _ _ _ _ _ _) (h := ?_)
        refine .n0 ?_
        refine LGo.ifd (ht := fun hc8 => ?_) (hf := fun hc8 => ?_)
        ·
         refine .seq ?_
         refine .region rfl ?_
         refine R.callP (es := []) (fun _ => awake_P) (h := ?_)
         refine R.assign (h := ?_)
         refine .n0 ?_
         exact LGo.ret (ret_T Tryz.results8 hA hmd)
        ·
         have hc0 : 0 < s.calls.length := by omega
         obtain ⟨J, hJ, hJl⟩ : ∃ J : Nat, N % (s.calls.length : Int) = J ∧ J < s.calls.length := ⟨(N % (s.calls.length : Int)).toNat, by have := Int.emod_nonneg N (show (s.calls.length : Int) ≠ 0 by omega); omega, by have := Int.emod_lt_of_pos N (show (0 : Int) < s.calls.length by omega); omega⟩
         have hz0 : s.calls[J]? = some s.calls[J] := List.getElem?_eq_getElem hJl
         have hzo := hok.cs _ (List.getElem_mem hJl)
         have hx : (s.calls.map SrC.c)[J]? = some s.calls[J].c := by simp [hJl]
         generalize s.calls[J] = z at hz0 hzo hx
         refine .skip ?_
         refine .seq ?_
         refine .region rfl ?_
         refine R.buildSliceR AP26 (xs := []) (es := []) (hcs := CellsOfs.nil) (h := ?_)
         first | refine R.field F29_4 (h := ?_) | refine R.fieldAt F29_4 (h := ?_)
         first | refine R.loadB O26 (h := ?_) | refine R.load1 O26 (h := ?_)
         refine R.appendS AP26 (hs := SrcOk.sl Tryz.underlying26 (sc_ones _)) (hlen := by simp; omega) (h := ?_)
         rw [List.nil_append]
         first | refine R.field F29_4 (h := ?_) | refine R.fieldAt F29_4 (h := ?_)
         refine R.storeB O26 (h := ?_)
         refine .n0 ?_
         refine .region rfl ?_
         first | refine R.field F29_4 (h := ?_) | refine R.fieldAt F29_4 (h := ?_)
         first | refine R.loadB O26 (h := ?_) | refine R.load1 O26 (h := ?_)
         refine R.move (h := ?_)
         first | refine R.field F29_4 (h := ?_) | refine R.fieldAt F29_4 (h := ?_)
         first | refine R.loadB O26 (h := ?_) | refine R.load1 O26 (h := ?_)
         first | refine R.len S26 (h := ?_) | refine R.lenRs S26 (h := ?_) | refine R.lenV (run_lenNil S26) (h := ?_)
         rw [List.length_map]
         refine R.rem (h := ?_)
         rw [hJ]
         refine R.indexRs I26 (hj := fun _ => ⟨by omega, by rw [List.length_map]; omega⟩) (h := ?_)
         rw [Int.toNat_natCast]
         first | refine R.field F40_7 (h := ?_) | refine R.fieldAt F40_7 (h := ?_)
         refine R.loadRs1 O3 J 7 (ev := z.c) (hj := fun _ => ⟨hx, rfl⟩) (h := ?_)
         refine R.addW (h := ?_)
         refine R.indexRs I26 (hj := fun _ => ⟨by omega, by rw [List.length_map]; omega⟩) (h := ?_)
         rw [Int.toNat_natCast]
         first | refine R.field F40_7 (h := ?_) | refine R.fieldAt F40_7 (h := ?_)
         refine R.storeRs1 O3 J 7 z.c (hj := hx) (h := ?_)
         rw [show (s.calls.map SrC.c).set J (List.set z.c 7 (.val (.int .i64 (IntKind.i64.wrap (z.n + 1))))) = (s.calls.set J (bumpC z)).map SrC.c from rowC_set s.calls J z]
         refine Reg.nil ⟨fun _ => ⟨mixedO, by rfl, by rfl⟩, ?_⟩
         refine .inBlock ?_
         refine LGo.pack 1 7 (h := ?_)
         refine LGo.frzBx 1 (h := ?_)
         exact LGo.next _ (fun o h => by have := (hA o).1 h; omega) (by omega) (hcut ({ s with calls := s.calls.set J (bumpC z) }) ⟨⟨h2.vl, h2.vr, h2.gl, h2.gs, by show (s.calls.set J (bumpC z)).length ≤ _; rw [List.length_set]; omega, h2.el⟩, fun h => set_ne hz0 (y := bumpC z) (fun hh => wrap_ne hzo.n (congrArg SrC.n hh)) (congrArg Sc.calls h).symm⟩) (by repeat (first | exact trivial | refine ⟨rfl, ?_⟩)) ⟨rfl, rfl, trivial⟩
       ·
        refine .seq ?_
        refine .seq ?_
        refine .region rfl ?_
        first | refine R.field F29_5 (h := ?_) | refine R.fieldAt F29_5 (h := ?_)
        first | refine R.loadB O27 (h := ?_) | refine R.load1 O27 (h := ?_)
        first | refine R.len S27 (h := ?_) | refine R.lenRs S27 (h := ?_) | refine R.lenV (run_lenNil S27) (h := ?_)
        rw [List.length_map]
        refine R.bin (run_eql _ _ _ _ _ _) (h := ?_)
        refine .n0 ?_
        refine LGo.ifd (ht := fun hc9 => ?_) (hf := fun hc9 => ?_)
        ·
         refine .seq ?_
         refine .region rfl ?_
         refine R.callP (es := []) (fun _ => awake_P) (h := ?_)
         refine R.assign (h := ?_)
         refine .n0 ?_
         exact LGo.ret (ret_T Tryz.results8 hA hmd)
        ·
         have hc0 : 0 < s.evs.length := by omega
         obtain ⟨J, hJ, hJl⟩ : ∃ J : Nat, N % (s.evs.length : Int) = J ∧ J < s.evs.length := ⟨(N % (s.evs.length : Int)).toNat, by have := Int.emod_nonneg N (show (s.evs.length : Int) ≠ 0 by omega); omega, by have := Int.emod_lt_of_pos N (show (0 : Int) < s.evs.length by omega); omega⟩
         have hz0 : s.evs[J]? = some s.evs[J] := List.getElem?_eq_getElem hJl
         have hzo := hok.es _ (List.getElem_mem hJl)
         have hx : (s.evs.map SrE.c)[J]? = some s.evs[J].c := by simp [hJl]
         generalize s.evs[J] = z at hz0 hzo hx
         refine .skip ?_
         refine .seq ?_
         refine .region rfl ?_
         refine R.buildSliceR AP27 (xs := []) (es := []) (hcs := CellsOfs.nil) (h := ?_)
         first | refine R.field F29_5 (h := ?_) | refine R.fieldAt F29_5 (h := ?_)
         first | refine R.loadB O27 (h := ?_) | refine R.load1 O27 (h := ?_)
         refine R.appendS AP27 (hs := SrcOk.sl Tryz.underlying27 (se_ones _)) (hlen := by simp; omega) (h := ?_)
         rw [List.nil_append]
         first | refine R.field F29_5 (h := ?_) | refine R.fieldAt F29_5 (h := ?_)
         refine R.storeB O27 (h := ?_)
         refine .n0 ?_
         refine .region rfl ?_
         first | refine R.field F29_5 (h := ?_) | refine R.fieldAt F29_5 (h := ?_)
         first | refine R.loadB O27 (h := ?_) | refine R.load1 O27 (h := ?_)
         refine R.move (h := ?_)
         first | refine R.field F29_5 (h := ?_) | refine R.fieldAt F29_5 (h := ?_)
         first | refine R.loadB O27 (h := ?_) | refine R.load1 O27 (h := ?_)
         first | refine R.len S27 (h := ?_) | refine R.lenRs S27 (h := ?_) | refine R.lenV (run_lenNil S27) (h := ?_)
         rw [List.length_map]
         refine R.rem (h := ?_)
         rw [hJ]
         refine R.indexRs I27 (hj := fun _ => ⟨by omega, by rw [List.length_map]; omega⟩) (h := ?_)
         rw [Int.toNat_natCast]
         first | refine R.field F58_1 (h := ?_) | refine R.fieldAt F58_1 (h := ?_)
         refine R.loadRs1 O2 J 1 (ev := z.c) (hj := fun _ => ⟨hx, rfl⟩) (h := ?_)
         refine R.addW (h := ?_)
         refine R.indexRs I27 (hj := fun _ => ⟨by omega, by rw [List.length_map]; omega⟩) (h := ?_)
         rw [Int.toNat_natCast]
         first | refine R.field F58_1 (h := ?_) | refine R.fieldAt F58_1 (h := ?_)
         refine R.storeRs1 O2 J 1 z.c (hj := hx) (h := ?_)
         rw [show (s.evs.map SrE.c).set J (List.set z.c 1 (.val (.int .i64 (IntKind.i64.wrap (z.a + 1))))) = (s.evs.set J (bumpE z)).map SrE.c from rowE_set s.evs J z]
         refine Reg.nil ⟨fun _ => ⟨mixedO, by rfl, by rfl⟩, ?_⟩
         refine .inBlock ?_
         refine LGo.pack 1 8 (h := ?_)
         refine LGo.frzBx 1 (h := ?_)
         exact LGo.next _ (fun o h => by have := (hA o).1 h; omega) (by omega) (hcut ({ s with evs := s.evs.set J (bumpE z) }) ⟨⟨h2.vl, h2.vr, h2.gl, h2.gs, h2.cl, by show (s.evs.set J (bumpE z)).length ≤ _; rw [List.length_set]; omega⟩, fun h => set_ne hz0 (y := bumpE z) (fun hh => wrap_ne hzo.2.1 (congrArg SrE.a hh)) (congrArg Sc.evs h).symm⟩) (by repeat (first | exact trivial | refine ⟨rfl, ?_⟩)) ⟨rfl, rfl, trivial⟩

end Go.Proofs.YteccglgbkehdeaaGreatDoor
