/- gates: a door closed; Enter, Play. -/
import Derived.Test.YtgcjjndhohellaaDoorGL
import Derived.Test.YtgcjjndhohellaaDoorGM
set_option linter.unusedSimpArgs false
set_option linter.unusedVariables false
namespace Go.Proofs.YtgcjjndhohellaaDoor

theorem closed_L (gs : List GtG) (es : List GtE) (hes : es.length ≤ 60000) (m : List (K3 × Value)) : LC Tryd.prog 32 2 [.ptr 0 0] [(0, .bx 93 [.sv (.sl 3 (gs.map GtG.c)), .v undef, .ref 1] 1 40 5 (es.map GtE.c)), (1, .raw (mapOb encK m))] (.agg ((GtS.c ⟨gs, sortS es⟩).map LV.sv)) [] 0 := by
 refine LC.of_go Tryd.func32 (c := _) rfl (by kernel_rfl) (by rw [Tryd.ntmps32]; simp) rfl rfl (by simp [LO.lt, LV.lts, LV.lt, lts_sv]) (by simp) ?_
 intro B hA hmd
 refine LGo.unpack 0 (h := ?_)
 refine .seq ?_
 refine .region rfl ?_
 refine R.alloc Z25 (h := ?_)
 refine .n0 ?_
 refine .seq ?_
 refine .region rfl ?_
 refine R.move (h := ?_)
 refine R.nilCheck (h := ?_)
 first | refine R.field F93_0 (h := ?_) | refine R.fieldAt F93_0 (h := ?_)
 first | refine R.field F25_1 (h := ?_) | refine R.fieldAt F25_1 (h := ?_)
 first | refine R.loadB O23 (h := ?_) | refine R.load1 O23 (h := ?_)
 refine R.callX (es := [_, _]) [2] (sort_L 40 es (by omega)) (h := ?_)
 refine .n0 ?_
 refine .seq ?_
 refine .region rfl ?_
 refine R.move (h := ?_)
 refine R.nilCheck (h := ?_)
 first | refine R.field F93_0 (h := ?_) | refine R.fieldAt F93_0 (h := ?_)
 first | refine R.loadA A25 (h := ?_) | refine R.loadN A25 (h := ?_) | refine R.loadP A25 (h := ?_)
 refine R.storeA A25 (h := ?_)
 refine .n0 ?_
 refine LGo.pack 3 1 (h := ?_)
 refine LGo.frzBx 3 (h := ?_)
 exact LGo.ret (ret_A Tryd.results32 A25 hA hmd)

theorem seen_new (k : K3) (l : List GtE) : (getM k (seenGo 0 l [])).isSome = hasK k l := by
  rw [seen_has]; simp [getM]
theorem step_U {gs : List GtG} {es : List GtE} {c : GtC} (h : ∀ x ∈ es, U32 x.seat) (hc : U32 c.seat) : ∀ x ∈ stepD gs es c, U32 x.seat := by
  unfold stepD
  split
  · intro x hx
    rcases List.mem_append.1 hx with hx | hx
    · exact h x hx
    · simp only [List.mem_singleton] at hx
      rw [hx]; exact hc
  · exact h
theorem enter_sort {s : GtS} {c : GtC} (h : checkGS s = 0) (hr : refuse s.gates s.ents c = 0) (hu : ∀ x ∈ s.ents, U32 x.seat) (hc : U32 c.seat) : sortS (stepD s.gates s.ents c) = insE c.ent s.ents := by
  obtain ⟨gs, es⟩ := s
  obtain ⟨_, _, h3, _⟩ := check_0.1 h
  rw [sortS_E (step_dist (sort_dist h3) c) (step_U hu hc)]
  rw [show stepD gs es c = es ++ [c.ent] from if_pos hr, sortE_snoc, sortE_id h3]

theorem enter_P (s : GtS) (hs : SmS s) (c : GtC) (hcu : U32 c.seat) : PC Tryd.prog 12 [.agg (s.c.map LV.sv), .agg (c.c.map LV.sv)] (.tup [.agg ((enterS s c).1.c.map LV.sv), .i (enterS s c).2]) := by
 refine ⟨LC.of_go Tryd.func12 (c := _) rfl (by kernel_rfl) (by rw [Tryd.ntmps12]; simp) rfl rfl (by simp [LO.lt, LV.lts, LV.lt, lts_sv]) (by simp) ?_⟩
 intro B hA hmd
 obtain ⟨g, e1⟩ : ∃ g, enterS s c = g := ⟨_, rfl⟩
 rw [e1]
 rw [enterS_fin] at e1
 obtain ⟨⟨hg1, hg2⟩, he1, he2⟩ := id hs
 refine .seq ?_
 refine .region rfl ?_
 refine R.box (h := ?_)
 refine R.box (h := ?_)
 refine R.alloc Z25 (h := ?_)
 refine R.assign (h := ?_)
 refine .n0 ?_
 refine .seq ?_
 refine .seq ?_
 refine .region rfl ?_
 first | refine R.loadA A25 (h := ?_) | refine R.loadN A25 (h := ?_) | refine R.loadP A25 (h := ?_)
 refine R.callP (es := [_]) (fun _ => checkGS_P s hs) (h := ?_)
 refine R.assign (h := ?_)
 refine .n0 ?_
 refine .seq ?_
 refine .region rfl ?_
 refine R.move (h := ?_)
 refine R.bin (run_neq _ _ _ _ _ _) (h := ?_)
 refine .n0 ?_
 refine LGo.ifb (ht := fun hc => ?_) (hf := fun hc => ?_)
 ·
  rw [if_pos (by simpa using hc)] at e1
  rw [← e1]
  refine .seq ?_
  refine .region rfl ?_
  refine R.build BF25 (is := []) (xs := []) (es := []) (h := ?_)
  refine R.move (h := ?_)
  refine R.storeA A25 (h := ?_)
  refine R.assign (h := ?_)
  refine .n0 ?_
  refine LGo.packNil 2 0 59 3 (h := ?_)
  refine LGo.frzBx 2 (h := ?_)
  refine LGo.packNil 2 1 40 5 (h := ?_)
  refine LGo.frzBx 2 (h := ?_)
  exact LGo.ret (ret_AT Tryd.results12 A25 hA hmd)
 ·
  have hc0 : checkGS s = 0 := by simpa using hc
  rw [if_neg (by simp [hc0])] at e1
  have h5 : s.ents.length ≤ 500 := (check_0.1 hc0).2.1
  obtain ⟨r, hr⟩ : ∃ r, refuse s.gates s.ents c = r := ⟨_, rfl⟩
  rw [hr] at e1
  have hL := enter_L s.gates hg1 hg2 s.ents (by omega) (seenGo 0 s.ents []) c hcu (seen_new _ _)
  rw [hr] at hL
  refine .skip ?_
  refine .seq ?_
  refine .region rfl ?_
  first | refine R.loadA A25 (h := ?_) | refine R.loadN A25 (h := ?_) | refine R.loadP A25 (h := ?_)
  refine R.callX (es := [_]) [] (opened_L s hs) (h := ?_)
  refine R.assign (h := ?_)
  refine .n0 ?_
  refine .seq ?_
  refine .seq ?_
  refine .region rfl ?_
  refine R.move (h := ?_)
  first | refine R.loadA A31 (h := ?_) | refine R.loadN A31 (h := ?_) | refine R.loadP A31 (h := ?_)
  refine R.callX (es := [_, _]) [3, 4] hL (h := ?_)
  refine R.assign (h := ?_)
  refine .n0 ?_
  refine .seq ?_
  refine .region rfl ?_
  refine R.move (h := ?_)
  refine R.bin (run_neq _ _ _ _ _ _) (h := ?_)
  refine .n0 ?_
  refine LGo.ifb (ht := fun hc2 => ?_) (hf := fun hc2 => ?_)
  ·
   have hr0 : r ≠ 0 := by simpa using hc2
   rw [finE_no hr0] at e1
   rw [← e1]
   refine .seq ?_
   refine .region rfl ?_
   refine R.build BF25 (is := []) (xs := []) (es := []) (h := ?_)
   refine R.move (h := ?_)
   refine R.storeA A25 (h := ?_)
   refine R.assign (h := ?_)
   refine .n0 ?_
   refine LGo.packNil 2 0 59 3 (h := ?_)
   refine LGo.frzBx 2 (h := ?_)
   refine LGo.packNil 2 1 40 5 (h := ?_)
   refine LGo.frzBx 2 (h := ?_)
   exact LGo.ret (ret_AT Tryd.results12 A25 hA hmd)
  ·
   obtain rfl : r = 0 := by simpa using hc2
   have hsl : (stepD s.gates s.ents c).length ≤ 501 := by unfold stepD; split <;> simp <;> omega
   rw [finE_0] at e1
   rw [← e1]
   refine .skip ?_
   refine .seq ?_
   refine .region rfl ?_
   refine R.move (h := ?_)
   refine R.callX (es := [_]) [3, 4] (closed_L s.gates (stepD s.gates s.ents c) (by omega) (seenD s.gates s.ents c (seenGo 0 s.ents []))) (h := ?_)
   rw [enter_sort hc0 hr he2 hcu]
   refine R.storeA A25 (h := ?_)
   refine R.assign (h := ?_)
   refine .n0 ?_
   exact LGo.ret (ret_AT Tryd.results12 A25 hA hmd)

theorem seen_step {gs : List GtG} {es : List GtE} {c : GtC} {m : List (K3 × Value)} (h : ∀ k, (getM k m).isSome = hasK k es) (k : K3) : (getM k (seenD gs es c m)).isSome = hasK k (stepD gs es c) := by
  unfold seenD stepD
  split
  · rw [getM_put, h, hasK_app]
    unfold hasK
    simp [Bool.or_comm]
    rfl
  · exact h k
theorem step_len {gs : List GtG} {es : List GtE} {c : GtC} (h : es.length ≤ 500) : (stepD gs es c).length ≤ 500 := by
  unfold stepD
  split
  · rename_i hr
    have := (refuse_0.1 hr).2.2
    simp; omega
  · exact h

theorem play_P (s : GtS) (hs : SmS s) (l : List GtC) (hl : l.length ≤ 30000) (hlu : ∀ c ∈ l, U32 c.seat) : PC Tryd.prog 25 [.agg (s.c.map LV.sv), .sv (.sl 7 (l.map GtC.c))] (.tup [.agg ((playS s l).1.c.map LV.sv), .sv (.sl 1 (ic .i64 (playS s l).2.1)), .i (playS s l).2.2]) := by
 refine ⟨LC.of_go Tryd.func25 (c := _) rfl (by kernel_rfl) (by rw [Tryd.ntmps25]; simp) rfl rfl (by simp [LO.lt, LV.lts, LV.lt, lts_sv]) (by simp) ?_⟩
 intro B hA hmd
 obtain ⟨g, e1⟩ : ∃ g, playS s l = g := ⟨_, rfl⟩
 rw [e1]
 unfold playS at e1
 obtain ⟨⟨hg1, hg2⟩, he1, he2⟩ := id hs
 refine .seq ?_
 refine .region rfl ?_
 refine R.box (h := ?_)
 refine R.alloc Z25 (h := ?_)
 refine R.assign (h := ?_)
 refine R.assign (h := ?_)
 refine .n0 ?_
 refine .seq ?_
 refine .seq ?_
 refine .region rfl ?_
 first | refine R.loadA A25 (h := ?_) | refine R.loadN A25 (h := ?_) | refine R.loadP A25 (h := ?_)
 refine R.callP (es := [_]) (fun _ => checkGS_P s hs) (h := ?_)
 refine R.assign (h := ?_)
 refine .n0 ?_
 refine .seq ?_
 refine .region rfl ?_
 refine R.move (h := ?_)
 refine R.bin (run_neq _ _ _ _ _ _) (h := ?_)
 refine .n0 ?_
 refine LGo.ifb (ht := fun hc => ?_) (hf := fun hc => ?_)
 ·
  rw [if_pos (by simpa using hc)] at e1
  rw [← e1]
  refine .seq ?_
  refine .region rfl ?_
  refine R.build BF25 (is := []) (xs := []) (es := []) (h := ?_)
  refine R.move (h := ?_)
  refine R.storeA A25 (h := ?_)
  refine R.assign (h := ?_)
  refine R.assign (h := ?_)
  refine .n0 ?_
  refine LGo.packNil 1 0 59 3 (h := ?_)
  refine LGo.frzBx 1 (h := ?_)
  refine LGo.packNil 1 1 40 5 (h := ?_)
  refine LGo.frzBx 1 (h := ?_)
  refine LGo.nilSl 5 1 (h := ?_)
  exact LGo.ret (ret_ATT Tryd.results25 A25 hA hmd)
 ·
  have hc0 : checkGS s = 0 := by simpa using hc
  rw [if_neg (by simp [hc0])] at e1
  have h5 : s.ents.length ≤ 500 := (check_0.1 hc0).2.1
  have hsd : DistK s.ents := sort_dist (check_0.1 hc0).2.2.1
  refine .skip ?_
  refine .seq ?_
  refine .seq ?_
  refine .region rfl ?_
  refine R.move (h := ?_)
  first | refine R.len S50 (h := ?_) | refine R.lenRs S50 (h := ?_) | refine R.lenV (run_lenNil S50) (h := ?_)
  rw [List.length_map]
  refine R.bin (run_gtr _ _ _ _ _ _) (h := ?_)
  refine .n0 ?_
  refine LGo.ifd (ht := fun hc2 => ?_) (hf := fun hc2 => ?_)
  ·
   rw [if_pos (by omega)] at e1
   rw [← e1]
   refine .seq ?_
   refine .region rfl ?_
   refine R.build BF25 (is := []) (xs := []) (es := []) (h := ?_)
   refine R.storeA A25 (h := ?_)
   refine R.assign (h := ?_)
   refine R.assign (h := ?_)
   refine .n0 ?_
   refine LGo.packNil 1 0 59 3 (h := ?_)
   refine LGo.frzBx 1 (h := ?_)
   refine LGo.packNil 1 1 40 5 (h := ?_)
   refine LGo.frzBx 1 (h := ?_)
   refine LGo.nilSl 5 1 (h := ?_)
   exact LGo.ret (ret_ATT Tryd.results25 A25 hA hmd)
  ·
   rw [if_neg (by omega)] at e1
   obtain ⟨fe, fr, hpl⟩ : ∃ fe fr, playD s.gates s.ents l = (fe, fr) := ⟨_, _, rfl⟩
   rw [hpl] at e1
   dsimp only at e1
   refine .skip ?_
   refine .seq ?_
   refine .region rfl ?_
   first | refine R.loadA A25 (h := ?_) | refine R.loadN A25 (h := ?_) | refine R.loadP A25 (h := ?_)
   refine R.callX (es := [_]) [] (opened_L s hs) (h := ?_)
   refine R.assign (h := ?_)
   refine .n0 ?_
   refine .seq ?_
   refine .region rfl ?_
   refine R.assign (h := ?_)
   refine .n0 ?_
   refine .seq ?_
   refine .seq ?_
   refine .region rfl ?_
   refine R.move (h := ?_)
   first | refine R.len S50 (h := ?_) | refine R.lenRs S50 (h := ?_) | refine R.lenV (run_lenNil S50) (h := ?_)
   rw [List.length_map]
   refine R.move (h := ?_)
   refine .n0 ?_
   refine .block ?_
   refine .loop ?_
   refine LGo.nilRs 9 35 1 (h := ?_)
   refine LGo.loopG (σ := Nat × List GtE × List (K3 × Value) × List Int) (fun x => x.1 ≤ l.length ∧ x.2.2.2.length ≤ x.1 ∧ x.2.1.length ≤ 500 ∧ DistK x.2.1 ∧ (∀ y ∈ x.2.1, U32 y.seat) ∧ (∀ a, (getM a x.2.2.1).isSome = hasK a x.2.1) ∧ ((playD s.gates x.2.1 (l.drop x.1)).1, x.2.2.2 ++ (playD s.gates x.2.1 (l.drop x.1)).2) = (fe, fr)) (fun x => [(26, (true, .i (x.1 : Nat))), (9, (true, .ref 4))]) (fun x => [(0, .box 25 (s.c.map LV.sv)), (1, .box 25 [.v (.slice none 0 0), .v (.slice none 0 0)]), (2, .bx 93 [.sv (.sl 3 (s.gates.map GtG.c)), .v undef, .ref 3] 1 40 5 (x.2.1.map GtE.c)), (3, .raw (mapOb encK x.2.2.1)), (4, .rs 35 1 (ic .i64 x.2.2.2))]) (fun x => l.length - x.1) (0, s.ents, seenGo 0 s.ents [], []) [(4, _), (8, _), (24, _), (25, _)] ⟨Nat.zero_le _, Nat.zero_le _, h5, hsd, he2, fun a => seen_new a _, by dsimp only; rw [List.drop_zero, hpl]; rfl⟩ (by repeat (first | exact trivial | refine ⟨rfl, ?_⟩)) (by repeat (first | exact trivial | refine ⟨rfl, ?_⟩)) (by repeat (first | exact trivial | refine ⟨rfl, ?_⟩)) ?_
   rintro ⟨k, es, m, er⟩ ⟨hk, hel, hsl, hds, hes, hsm, hq⟩ ih
   dsimp only at * 
   refine .seq ?_
   refine .region rfl ?_
   refine R.bin (run_lss _ _ _ _ _ _) (h := ?_)
   refine .n0 ?_
   refine .seq ?_
   refine LGo.ifd (ht := fun hc3 => ?_) (hf := fun hc3 => ?_)
   ·
    have hlt : k < l.length := by omega
    have hx : (l.map GtC.c)[((k : Nat) : Int).toNat]? = some l[k].c := by simp [hlt]
    have hd : l.drop k = l[k] :: l.drop (k + 1) := List.drop_eq_getElem_cons hlt
    have hzu := hlu l[k] (List.getElem_mem hlt)
    rw [hd, playD] at hq
    generalize l[k] = z at hx hq hzu
    clear hd
    have hL := enter_L s.gates hg1 hg2 es (by omega) m z hzu (hsm _)
    refine .skip ?_
    refine .seq ?_
    refine .block ?_
    refine .seq ?_
    refine .region rfl ?_
    refine R.index I50 (hj := fun hg => ⟨by omega, hx⟩) (h := ?_)
    first | refine R.loadA A31 (h := ?_) | refine R.loadN A31 (h := ?_) | refine R.loadP A31 (h := ?_)
    refine R.alloc Z31 (h := ?_)
    refine R.storeA A31 (h := ?_)
    refine .n0 ?_
    refine .region rfl ?_
    refine R.move (h := ?_)
    refine R.move (h := ?_)
    first | refine R.loadA A31 (h := ?_) | refine R.loadN A31 (h := ?_) | refine R.loadP A31 (h := ?_)
    refine R.callX (es := [_, _]) [2, 3] hL (h := ?_)
    refine R.buildSliceG AP51 (xs := [_]) (es := [_]) (hcs := CellsOfs.cons (CellsOf.one rfl) CellsOfs.nil) (h := ?_)
    refine R.appendS AP51 (hs := SrcOk.sl Tryd.underlying51 (by simp)) (hlen := by rw [ic_len]; simp; omega) (h := ?_)
    refine R.assign (h := ?_)
    refine .n0 ?_
    refine .inBlock ?_
    refine .region rfl ?_
    first | refine R.add (h := ?_) | refine R.addW (h := ?_)
    refine R.move (h := ?_)
    refine .n0 ?_
    refine .inLoop ?_
    exact LGo.turn [0, 1, 2, 3, 6] (b := 0) (fun o h => by have := (hA o).1 h; omega) (ih (k + 1, stepD s.gates es z, seenD s.gates es z m, er ++ [refuse s.gates es z]) ⟨by dsimp only; omega, by dsimp only; rw [List.length_append, List.length_cons, List.length_nil]; omega, step_len hsl, step_dist hds z, step_U hes hzu, seen_step hsm, by dsimp only; rw [← hq]; simp⟩ (by dsimp only; omega)) (by repeat (first | exact trivial | refine ⟨rfl, ?_⟩)) ⟨rfl, rfl, rfl, rfl, by rw [← ic_snoc]; rfl, trivial⟩
   ·
    rw [List.drop_eq_nil_of_le (show l.length ≤ k by omega), playD, List.append_nil] at hq
    cases hq
    rw [← e1]
    refine .exit rfl ?_
    refine .seq ?_
    refine .region rfl ?_
    refine R.move (h := ?_)
    refine R.callX (es := [_]) [2, 3] (closed_L s.gates es (by omega) m) (h := ?_)
    rw [sortS_E hds hes]
    refine R.move (h := ?_)
    refine R.storeA A25 (h := ?_)
    refine R.assign (h := ?_)
    refine R.assign (h := ?_)
    refine .n0 ?_
    first | refine LGo.frzT 5 (h := ?_) | refine LGo.nilSl 5 1 (h := ?_) | skip
    exact LGo.ret (ret_ATT Tryd.results25 A25 hA hmd)

end Go.Proofs.YtgcjjndhohellaaDoor
