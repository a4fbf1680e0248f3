/- gates: the law GateOrder (walk). -/
import Derived.Test.YtgcjjndhohellaaDoorGU
set_option linter.unusedSimpArgs false
set_option linter.unusedVariables false
namespace Go.Proofs.YtgcjjndhohellaaDoor

theorem ca_ones (l : List GtC) : ∀ e ∈ l.map GtC.c, e.length = 7 := by
  intro e he; obtain ⟨x, _, rfl⟩ := List.mem_map.1 he; rfl
theorem goodC_len (gs : List GtG) : ∀ (l : List GtC) (es : List GtE), (goodC gs es l).length ≤ l.length
  | [], _ => Nat.le_refl _
  | c :: l, es => by
    have := goodC_len gs l (stepD gs es c)
    rw [goodC]
    split <;> simp <;> omega
theorem goodC_mem (gs : List GtG) : ∀ (l : List GtC) (es : List GtE), ∀ c ∈ goodC gs es l, c ∈ l
  | [], _, _, h => by cases h
  | d :: l, es, c, h => by
    rw [goodC] at h
    split at h
    · rcases List.mem_cons.1 h with rfl | h
      · simp
      · exact List.mem_cons_of_mem _ (goodC_mem gs l _ c h)
    · exact List.mem_cons_of_mem _ (goodC_mem gs l _ c h)
theorem playS_0 {s : GtS} {l : List GtC} (hc : checkGS s = 0) (hl : (l.length : Int) ≤ 1000) : playS s l = (⟨s.gates, sortE (playD s.gates s.ents l).1⟩, (playD s.gates s.ents l).2, 0) := by
  unfold playS
  rw [if_neg (by simp [hc]), if_neg (by omega)]
theorem playS_good {s : GtS} {l m : List GtC} (hc : checkGS s = 0) (hm : m.Perm (goodC s.gates s.ents l)) (hl : (m.length : Int) ≤ 1000) : playS s m = (⟨s.gates, sortE (playD s.gates s.ents l).1⟩, List.replicate m.length 0, 0) := by
  obtain ⟨h1, h2⟩ := play_order hc l m hm
  rw [playS_0 hc hl, h1]
  dsimp only
  rw [h2, List.map_const']
theorem rep_at {n k : Nat} (h : k < n) : (ic .i64 (List.replicate n 0))[((k : Nat) : Int).toNat]? = some [.val (.int .i64 0)] := by
  have hlt : k < (List.replicate n (0 : Int)).length := by simpa using h
  have := icA hlt
  rwa [List.getElem_replicate] at this
theorem frop {fr : List Int} {k : Nat} {r : Int} {t : List Int} (h : fr.drop k = r :: t) : (ic .i64 fr)[((k : Nat) : Int).toNat]? = some [.val (.int .i64 r)] ∧ fr.drop (k + 1) = t := by
  have hlt : k < fr.length := by
    by_cases hk : k < fr.length
    · exact hk
    · rw [List.drop_eq_nil_of_le (by omega)] at h; cases h
  rw [List.drop_eq_getElem_cons hlt] at h
  simp only [List.cons.injEq] at h
  have := icA hlt
  rw [h.1] at this
  exact ⟨this, h.2⟩

theorem playG {s : GtS} {l m : List GtC} {fe : List GtE} (hs : SmS s) (hc : checkGS s = 0) (hfe : (playD s.gates s.ents l).1 = fe) (hm : m.Perm (goodC s.gates s.ents l)) (hl : l.length ≤ 1000) (hlu : ∀ c ∈ l, U32 c.seat) {n : Nat} (hn : m.length = n) : PC Tryd.prog 25 [.agg (s.c.map LV.sv), .sv (.sl 7 (m.map GtC.c))] (.tup [.agg ((GtS.mk s.gates (sortE fe)).c.map LV.sv), .sv (.sl 1 (ic .i64 (List.replicate n 0))), .i 0]) := by
  have hml : m.length ≤ 1000 := by have := goodC_len s.gates l s.ents; have := hm.length_eq; omega
  have h := play_P s hs m (by omega) (fun c h => hlu c (goodC_mem s.gates l s.ents c (hm.mem_iff.1 h)))
  rw [playS_good hc hm (by omega), hfe, hn] at h
  exact h
theorem playL {s : GtS} {l : List GtC} {fe : List GtE} {fr : List Int} (hs : SmS s) (hc : checkGS s = 0) (hf : playD s.gates s.ents l = (fe, fr)) (hl : l.length ≤ 1000) (hlu : ∀ c ∈ l, U32 c.seat) : PC Tryd.prog 25 [.agg (s.c.map LV.sv), .sv (.sl 7 (l.map GtC.c))] (.tup [.agg ((GtS.mk s.gates (sortE fe)).c.map LV.sv), .sv (.sl 1 (ic .i64 fr)), .i 0]) := by
  have h := play_P s hs l (by omega) hlu
  rw [playS_0 hc (by omega), hf] at h
  exact h

theorem order_W (s : GtS) (hok : s.ok) (l : List GtC) (hl : l.length ≤ maxLen) (hlu : ∀ c ∈ l, U32 c.seat) : PC Tryd.prog 8 [.agg (s.c.map LV.sv), .sv (.sl 7 (l.map GtC.c))] (.b true) := by
 refine ⟨LC.of_go Tryd.func8 (c := _) rfl (by kernel_rfl) (by rw [Tryd.ntmps8]; simp) rfl rfl (by simp [LO.lt, LV.lts, LV.lt, lts_sv]) (by simp) ?_⟩
 intro B hA hmd
 unfold maxLen at hl
 refine .seq ?_
 refine .region rfl ?_
 refine R.box (h := ?_)
 refine R.assign (h := ?_)
 refine .n0 ?_
 refine .seq ?_
 refine .seq ?_
 refine .region rfl ?_
 first | refine R.loadA A25 (h := ?_) | refine R.loadN A25 (h := ?_) | refine R.loadP A25 (h := ?_)
 refine R.callP (es := [_]) (fun _ => far_P s (far_ok hok).1 (far_ok hok).2.1 (far_ok hok).2.2) (h := ?_)
 refine R.move (h := ?_)
 first | refine R.field F25_1 (h := ?_) | refine R.fieldAt F25_1 (h := ?_)
 first | refine R.loadB O23 (h := ?_) | refine R.load1 O23 (h := ?_)
 first | refine R.len S23 (h := ?_) | refine R.lenRs S23 (h := ?_) | refine R.lenV (run_lenNil S23) (h := ?_)
 rw [List.length_map]
 refine R.bin (run_gtr _ _ _ _ _ _) (h := ?_)
 refine R.or (h := ?_)
 refine R.move (h := ?_)
 refine R.move (h := ?_)
 first | refine R.len S50 (h := ?_) | refine R.lenRs S50 (h := ?_) | refine R.lenV (run_lenNil S50) (h := ?_)
 rw [List.length_map]
 refine R.bin (run_gtr _ _ _ _ _ _) (h := ?_)
 refine R.or (h := ?_)
 refine R.move (h := ?_)
 first | refine R.loadA A25 (h := ?_) | refine R.loadN A25 (h := ?_) | refine R.loadP A25 (h := ?_)
 refine R.callP (es := [_]) (lvs := [.agg (s.c.map LV.sv)]) (out := .i (checkGS s)) (fun hg => ?cc) (h := ?_)
 case cc => (cases hfar : farS s with | false => exact checkGS_P s (far_sm hok hfar).1 | true => simp [hfar] at hg)
 refine R.bin (run_neq _ _ _ _ _ _) (h := ?_)
 refine R.or (h := ?_)
 refine .n0 ?_
 refine LGo.ifb (ht := fun hc => ?_) (hf := fun hc => ?_)
 ·
  refine .seq ?_
  refine .region rfl ?_
  refine R.callP (es := []) (fun _ => shown_P) (h := ?_)
  refine R.assign (h := ?_)
  refine .n0 ?_
  exact LGo.ret (ret_T Tryd.results8 hA hmd)
 ·
  simp only [Bool.or_eq_false_iff, decide_eq_false_iff_not, Bool.not_eq_eq_eq_not, Bool.not_false, decide_eq_true_eq] at hc
  obtain ⟨⟨⟨hfar, he60⟩, hl40⟩, hc0⟩ := hc
  obtain ⟨hs, hg12, h505⟩ := far_sm hok hfar
  have hl4 : l.length ≤ 40 := by omega
  obtain ⟨hpm, hpe, hp5⟩ := play_sm hs l (by omega) hlu
  rw [playS_0 hc0 (by omega)] at hpm
  obtain ⟨fe, fr, hf⟩ : ∃ fe fr, playD s.gates s.ents l = (fe, fr) := ⟨_, _, rfl⟩
  rw [hf] at hpm
  dsimp only at hpm
  have hfr : fr.length = l.length := by
    obtain ⟨h1, h2, h3, h4⟩ := check_0.1 (show checkGS ⟨s.gates, s.ents⟩ = 0 from hc0)
    have := (play_inv (gs := s.gates) l s.ents (sort_dist h3) h2 h4).2.2.2
    rw [hf] at this
    exact this
  obtain ⟨gd, hgd⟩ : ∃ gd, goodC s.gates s.ents l = gd := ⟨_, rfl⟩
  have hgl := goodC_len s.gates l s.ents
  rw [hgd] at hgl
  refine .skip ?_
  refine .seq ?_
  refine .region rfl ?_
  first | refine R.loadA A25 (h := ?_) | refine R.loadN A25 (h := ?_) | refine R.loadP A25 (h := ?_)
  refine R.move (h := ?_)
  refine R.callP (es := [_, _]) (fun _ => playL hs hc0 hf (by omega) hlu) (h := ?_)
  refine R.move (h := ?_)
  refine R.extract (h := ?_)
  refine R.extract (h := ?_)
  refine R.extract (h := ?_)
  refine R.alloc Z25 (h := ?_)
  refine R.storeA A25 (h := ?_)
  refine R.assign (h := ?_)
  refine R.assign (h := ?_)
  refine .n0 ?_
  refine .seq ?_
  refine .seq ?_
  refine .region rfl ?_
  refine R.move (h := ?_)
  refine R.bin (run_neq _ _ _ _ _ _) (h := ?_)
  refine R.move (h := ?_)
  refine R.move (h := ?_)
  first | refine R.len S51 (h := ?_) | refine R.lenRs S51 (h := ?_) | refine R.lenV (run_lenNil S51) (h := ?_)
  rw [ic_len]
  refine R.move (h := ?_)
  first | refine R.len S50 (h := ?_) | refine R.lenRs S50 (h := ?_) | refine R.lenV (run_lenNil S50) (h := ?_)
  rw [List.length_map]
  refine R.bin (run_neq _ _ _ _ _ _) (h := ?_)
  refine R.or (h := ?_)
  refine .n0 ?_
  refine LGo.ifb (ht := fun hc2 => by simp [hfr] at hc2) (hf := fun hc2 => ?_)
  refine .skip ?_
  refine .seq ?_
  refine .region rfl ?_
  refine R.assign (h := ?_)
  refine R.assign (h := ?_)
  refine .n0 ?_
  refine .seq ?_
  refine .seq ?_
  refine .region rfl ?_
  refine R.assign (h := ?_)
  refine .n0 ?_
  refine .block ?_
  refine .loop ?_
  refine LGo.nilRs 8 31 7 (h := ?_)
  refine LGo.nilRs 9 31 7 (h := ?_)
  refine LGo.loopG (σ := Nat × List GtE × List GtC × List GtC) (fun x => x.1 ≤ l.length ∧ x.2.2.1.length ≤ x.1 ∧ fr.drop x.1 = (playD s.gates x.2.1 (l.drop x.1)).2 ∧ x.2.2.1 ++ goodC s.gates x.2.1 (l.drop x.1) = gd ∧ x.2.2.2 = x.2.2.1.reverse) (fun x => [(10, (true, .i (x.1 : Nat))), (8, (true, .ref 2)), (9, (true, .ref 3))]) (fun x => [(0, .box 25 (s.c.map LV.sv)), (1, .box 25 ((GtS.mk s.gates (sortE fe)).c.map LV.sv)), (2, .rs 31 7 (x.2.2.1.map GtC.c)), (3, .rs 31 7 (x.2.2.2.map GtC.c))]) (fun x => l.length - x.1) (0, s.ents, [], []) [(1, _), (2, _), (5, _), (6, _)] ⟨Nat.zero_le _, Nat.zero_le _, by dsimp only; rw [List.drop_zero, List.drop_zero, hf], by dsimp only; rw [List.drop_zero]; exact hgd, rfl⟩ (by repeat (first | exact trivial | refine ⟨rfl, ?_⟩)) (by repeat (first | exact trivial | refine ⟨rfl, ?_⟩)) (by repeat (first | exact trivial | refine ⟨rfl, ?_⟩)) ?_
  rintro ⟨k, es, a, b⟩ ⟨hk, hal, hdr, hq, hb⟩ ih
  dsimp only at * 
  refine .seq ?_
  refine .seq ?_
  refine .region rfl ?_
  refine R.move (h := ?_)
  refine R.move (h := ?_)
  first | refine R.len S50 (h := ?_) | refine R.lenRs S50 (h := ?_) | refine R.lenV (run_lenNil S50) (h := ?_)
  rw [List.length_map]
  refine R.bin (run_lss _ _ _ _ _ _) (h := ?_)
  refine .n0 ?_
  refine LGo.ifd (ht := fun hc3 => ?_) (hf := fun hc3 => ?_)
  ·
   have hlt : k < l.length := by omega
   have hx : (l.map GtC.c)[((k : Nat) : Int).toNat]? = some l[k].c := by simp [hlt]
   have hd : l.drop k = l[k] :: l.drop (k + 1) := List.drop_eq_getElem_cons hlt
   rw [hd, playD] at hdr
   rw [hd, goodC] at hq
   generalize l[k] = z at hx hdr hq
   clear hd
   obtain ⟨hx2, hdr2⟩ := frop hdr
   refine .skip ?_
   refine .seq ?_
   refine .block ?_
   refine .seq ?_
   refine .region rfl ?_
   refine R.move (h := ?_)
   refine R.move (h := ?_)
   refine R.index I51 (hj := fun hg => ⟨by omega, hx2⟩) (h := ?_)
   first | refine R.loadB O35 (h := ?_) | refine R.load1 O35 (h := ?_)
   refine R.bin (run_eql _ _ _ _ _ _) (h := ?_)
   refine .n0 ?_
   refine LGo.ifd (ht := fun hc4 => ?_) (hf := fun hc4 => ?_)
   ·
    rw [if_pos (by omega)] at hq
    refine .seq ?_
    refine .region rfl ?_
    refine R.move (h := ?_)
    refine R.move (h := ?_)
    refine R.move (h := ?_)
    refine R.index I50 (hj := fun hg => ⟨by omega, hx⟩) (h := ?_)
    first | refine R.loadA A31 (h := ?_) | refine R.loadN A31 (h := ?_) | refine R.loadP A31 (h := ?_)
    refine R.buildSliceG AP50 (xs := [_]) (es := [_]) (hcs := CellsOfs.cons (CellsOf.agg rfl) CellsOfs.nil) (h := ?_)
    refine R.appendS AP50 (hs := SrcOk.sl Tryd.underlying50 (by simp; rfl)) (hlen := by rw [List.length_map]; simp; omega) (h := ?_)
    rw [show (a.map GtC.c ++ [List.map unSv (List.map LV.sv z.c)]) = (a ++ [z]).map GtC.c from by simp; rfl]
    refine R.assign (h := ?_)
    refine .n0 ?_
    refine .region rfl ?_
    refine R.move (h := ?_)
    refine R.move (h := ?_)
    refine R.index I50 (hj := fun hg => ⟨by omega, hx⟩) (h := ?_)
    first | refine R.loadA A31 (h := ?_) | refine R.loadN A31 (h := ?_) | refine R.loadP A31 (h := ?_)
    refine R.buildSliceR AP50 (xs := [_]) (es := [(true, .agg (z.c.map LV.sv))]) (hcs := CellsOfs.cons (CellsOf.agg rfl) CellsOfs.nil) (h := ?_)
    refine R.move (h := ?_)
    refine R.appendS AP50 (hs := SrcOk.rs Tryd.underlying50 (ca_ones b)) (hlen := by rw [List.length_map, hb, List.length_reverse]; simp; omega) (h := ?_)
    rw [show ([List.map unSv (List.map LV.sv z.c)] ++ b.map GtC.c) = (z :: b).map GtC.c from rfl]
    refine R.assign (h := ?_)
    refine .n0 ?_
    refine .inBlock ?_
    refine .region rfl ?_
    refine R.move (h := ?_)
    first | refine R.add (h := ?_) | refine R.addW (h := ?_)
    refine R.assign (h := ?_)
    refine .n0 ?_
    refine .inLoop ?_
    exact LGo.turn [0, 1, 4, 6] (b := 0) (fun o h => by have := (hA o).1 h; omega) (ih (k + 1, stepD s.gates es z, a ++ [z], z :: b) ⟨by dsimp only; omega, by dsimp only; rw [List.length_append, List.length_cons, List.length_nil]; omega, hdr2, by dsimp only; rw [← hq]; simp, by dsimp only; rw [hb]; simp⟩ (by dsimp only; omega)) (by repeat (first | exact trivial | refine ⟨rfl, ?_⟩)) ⟨rfl, rfl, rfl, rfl, trivial⟩
   ·
    rw [if_neg (by omega)] at hq
    refine .skip ?_
    refine .inBlock ?_
    refine .region rfl ?_
    refine R.move (h := ?_)
    first | refine R.add (h := ?_) | refine R.addW (h := ?_)
    refine R.assign (h := ?_)
    refine .n0 ?_
    refine .inLoop ?_
    exact LGo.next _ (fun o h => by have := (hA o).1 h; omega) (by omega) (ih (k + 1, stepD s.gates es z, a, b) ⟨by dsimp only; omega, by dsimp only; omega, hdr2, hq, hb⟩ (by dsimp only; omega)) (by repeat (first | exact trivial | refine ⟨rfl, ?_⟩)) ⟨rfl, rfl, rfl, rfl, trivial⟩
  ·
   rw [List.drop_eq_nil_of_le (show l.length ≤ k by omega), goodC, List.append_nil] at hq
   subst hq
   subst hb
   have hpa : a.Perm (goodC s.gates s.ents l) := by rw [hgd]
   have hpb : a.reverse.Perm (goodC s.gates s.ents l) := by rw [hgd]; exact List.reverse_perm a
   refine LGo.frz 2 (h := ?_)
   refine LGo.frz 3 (h := ?_)
   refine .exit rfl ?_
   refine .seq ?_
   refine .region rfl ?_
   first | refine R.loadA A25 (h := ?_) | refine R.loadN A25 (h := ?_) | refine R.loadP A25 (h := ?_)
   refine R.move (h := ?_)
   refine R.callP (es := [_, _]) (fun _ => playG hs hc0 (by rw [hf]) (m := a) hpa (by omega) hlu rfl) (h := ?_)
   refine R.move (h := ?_)
   refine R.extract (h := ?_)
   refine R.extract (h := ?_)
   refine R.extract (h := ?_)
   refine R.alloc Z25 (h := ?_)
   refine R.storeA A25 (h := ?_)
   refine R.assign (h := ?_)
   refine R.assign (h := ?_)
   refine .n0 ?_
   refine .seq ?_
   refine .region rfl ?_
   first | refine R.loadA A25 (h := ?_) | refine R.loadN A25 (h := ?_) | refine R.loadP A25 (h := ?_)
   refine R.move (h := ?_)
   refine R.callP (es := [_, _]) (fun _ => playG hs hc0 (by rw [hf]) (m := a.reverse) hpb (by omega) hlu List.length_reverse) (h := ?_)
   refine R.move (h := ?_)
   refine R.extract (h := ?_)
   refine R.extract (h := ?_)
   refine R.extract (h := ?_)
   refine R.alloc Z25 (h := ?_)
   refine R.storeA A25 (h := ?_)
   refine R.assign (h := ?_)
   refine R.assign (h := ?_)
   refine .n0 ?_
   refine .seq ?_
   refine .seq ?_
   refine .region rfl ?_
   refine R.move (h := ?_)
   refine R.bin (run_neq _ _ _ _ _ _) (h := ?_)
   refine R.move (h := ?_)
   refine R.move (h := ?_)
   refine R.bin (run_neq _ _ _ _ _ _) (h := ?_)
   refine R.or (h := ?_)
   refine R.move (h := ?_)
   first | refine R.loadA A25 (h := ?_) | refine R.loadN A25 (h := ?_) | refine R.loadP A25 (h := ?_)
   first | refine R.loadA A25 (h := ?_) | refine R.loadN A25 (h := ?_) | refine R.loadP A25 (h := ?_)
   refine R.callP (es := [_, _]) (fun _ => sameT hpm) (h := ?_)
   refine R.not (h := ?_)
   refine R.or (h := ?_)
   refine R.move (h := ?_)
   first | refine R.loadA A25 (h := ?_) | refine R.loadN A25 (h := ?_) | refine R.loadP A25 (h := ?_)
   first | refine R.loadA A25 (h := ?_) | refine R.loadN A25 (h := ?_) | refine R.loadP A25 (h := ?_)
   refine R.callP (es := [_, _]) (fun _ => sameT hpm) (h := ?_)
   refine R.not (h := ?_)
   refine R.or (h := ?_)
   refine .n0 ?_
   refine LGo.ifb (ht := fun hc5 => by simp at hc5) (hf := fun hc5 => ?_)
   refine .skip ?_
   refine .seq ?_
   refine .seq ?_
   refine .region rfl ?_
   refine R.assign (h := ?_)
   refine .n0 ?_
   refine .block ?_
   refine .loop ?_
   refine LGo.loopG (σ := Nat) (fun x => x ≤ a.length) (fun x => [(17, (true, .i (x : Nat)))]) (fun x => []) (fun x => a.length - x) (0) [(8, _), (12, _), (15, _)] (Nat.zero_le _) (by repeat (first | exact trivial | refine ⟨rfl, ?_⟩)) (by repeat (first | exact trivial | refine ⟨rfl, ?_⟩)) (by repeat (first | exact trivial | refine ⟨rfl, ?_⟩)) ?_
   rintro i hi ih2
   refine .seq ?_
   refine .seq ?_
   refine .region rfl ?_
   refine R.move (h := ?_)
   refine R.move (h := ?_)
   first | refine R.len S51 (h := ?_) | refine R.lenRs S51 (h := ?_) | refine R.lenV (run_lenNil S51) (h := ?_)
   rw [ic_len, List.length_replicate]
   refine R.bin (run_lss _ _ _ _ _ _) (h := ?_)
   refine .n0 ?_
   refine LGo.ifd (ht := fun hc6 => ?_) (hf := fun hc6 => ?_)
   ·
    have hlt : i < a.length := by omega
    have hx3 := rep_at hlt
    refine .skip ?_
    refine .seq ?_
    refine .block ?_
    refine .seq ?_
    refine .region rfl ?_
    refine R.move (h := ?_)
    refine R.move (h := ?_)
    refine R.index I51 (hj := fun hg => ⟨by omega, hx3⟩) (h := ?_)
    first | refine R.loadB O35 (h := ?_) | refine R.load1 O35 (h := ?_)
    refine R.bin (run_neq _ _ _ _ _ _) (h := ?_)
    refine R.move (h := ?_)
    refine R.move (h := ?_)
    refine R.move (h := ?_)
    first | refine R.len S51 (h := ?_) | refine R.lenRs S51 (h := ?_) | refine R.lenV (run_lenNil S51) (h := ?_)
    rw [ic_len, List.length_replicate]
    refine R.bin (run_geq _ _ _ _ _ _) (h := ?_)
    refine R.or (h := ?_)
    refine R.move (h := ?_)
    refine R.move (h := ?_)
    refine R.move (h := ?_)
    refine R.index I51 (hj := fun hg => ⟨by (simp at hg; omega), hx3⟩) (h := ?_)
    first | refine R.loadB O35 (h := ?_) | refine R.load1 O35 (h := ?_)
    refine R.bin (run_neq _ _ _ _ _ _) (h := ?_)
    refine R.or (h := ?_)
    refine .n0 ?_
    refine LGo.ifb (ht := fun hc7 => by simp at hc7; omega) (hf := fun hc7 => ?_)
    refine .skip ?_
    refine .inBlock ?_
    refine .region rfl ?_
    refine R.move (h := ?_)
    first | refine R.add (h := ?_) | refine R.addW (h := ?_)
    refine R.assign (h := ?_)
    refine .n0 ?_
    refine .inLoop ?_
    exact LGo.next _ (fun o h => by have := (hA o).1 h; omega) (by omega) (ih2 (i + 1) (by omega) (by omega)) (by repeat (first | exact trivial | refine ⟨rfl, ?_⟩)) (by repeat (first | exact trivial | refine ⟨rfl, ?_⟩))
   ·
    refine .exit rfl ?_
    refine .seq ?_
    refine .region rfl ?_
    refine R.move (h := ?_)
    first | refine R.len S51 (h := ?_) | refine R.lenRs S51 (h := ?_) | refine R.lenV (run_lenNil S51) (h := ?_)
    rw [ic_len, List.length_replicate]
    refine R.move (h := ?_)
    first | refine R.len S50 (h := ?_) | refine R.lenRs S50 (h := ?_) | refine R.lenV (run_lenNil S50) (h := ?_)
    rw [List.length_map]
    refine R.bin (run_eql _ _ _ _ _ _) (h := ?_)
    rw [dec_rfl (a.length : Int)]
    refine R.move (h := ?_)
    refine R.move (h := ?_)
    first | refine R.len S51 (h := ?_) | refine R.lenRs S51 (h := ?_) | refine R.lenV (run_lenNil S51) (h := ?_)
    rw [ic_len, List.length_replicate]
    refine R.move (h := ?_)
    first | refine R.len S50 (h := ?_) | refine R.lenRs S50 (h := ?_) | refine R.lenV (run_lenNil S50) (h := ?_)
    rw [List.length_map]
    refine R.bin (run_eql _ _ _ _ _ _) (h := ?_)
    rw [dec_rfl (a.length : Int)]
    refine R.and (h := ?_)
    refine R.move (h := ?_)
    refine R.callP (es := []) (fun _ => shown_P) (h := ?_)
    refine R.and (h := ?_)
    refine R.assign (h := ?_)
    refine .n0 ?_
    exact LGo.ret (ret_T Tryd.results8 hA hmd)

end Go.Proofs.YtgcjjndhohellaaDoor
