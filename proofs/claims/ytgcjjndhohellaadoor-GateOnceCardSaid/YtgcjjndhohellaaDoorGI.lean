/- gates, the reference: Play; equal states, equal errors. -/
import Derived.Test.YtgcjjndhohellaaDoorGH
set_option linter.unusedSimpArgs false
set_option linter.unusedVariables false
namespace Go.Proofs.YtgcjjndhohellaaDoor

theorem ins_mem {x y : GtE} {l : List GtE} : y ∈ insE x l ↔ y = x ∨ y ∈ l := by rw [(ins_perm x l).mem_iff, List.mem_cons]
theorem enter_facts {gs : List GtG} {es : List GtE} {c : GtC} (h : (enterS ⟨gs, es⟩ c).2 = 0) (hu : ∀ y ∈ es, U32 y.seat) (hc : U32 c.seat) :
    (enterS ⟨gs, es⟩ c).1 = ⟨gs, (enterS ⟨gs, es⟩ c).1.ents⟩ ∧ (enterS ⟨gs, es⟩ c).1.ents.length ≤ es.length + 1 ∧ ∀ y ∈ (enterS ⟨gs, es⟩ c).1.ents, U32 y.seat := by
  unfold enterS at h ⊢
  split at h
  · rename_i h1; exact absurd h h1
  · rename_i h1
    rw [if_neg h1]
    split at h
    · rename_i h2; exact absurd h h2
    · rename_i h2
      rw [if_neg h2]
      refine ⟨rfl, by rw [ins_len]; exact Nat.le_refl _, fun y hy => ?_⟩
      rcases ins_mem.1 hy with rfl | hy
      · exact hc
      · exact hu y hy
def playRS (s : GtS) (l : List GtC) : GtS × List Int × Int := if checkGS s ≠ 0 then (GtS.zero, [], checkGS s) else if 1000 < (l.length : Int) then (GtS.zero, [], 3) else (⟨s.gates, (playR s.gates s.ents l).1⟩, (playR s.gates s.ents l).2, 0)

theorem playR_P (s : GtS) (hs : SmS s) (h5 : s.ents.length ≤ 50000) (l : List GtC) (hl : l.length ≤ 30000) (hlu : ∀ c ∈ l, U32 c.seat) : PC Tryd.prog 26 [.agg (s.c.map LV.sv), .sv (.sl 7 (l.map GtC.c))] (.tup [.agg ((playRS s l).1.c.map LV.sv), .sv (.sl 1 (ic .i64 (playRS s l).2.1)), .i (playRS s l).2.2]) := by
 refine ⟨LC.of_go Tryd.func26 (c := _) rfl (by kernel_rfl) (by rw [Tryd.ntmps26]; simp) rfl rfl (by simp [LO.lt, LV.lts, LV.lt, lts_sv]) (by simp) ?_⟩
 intro B hA hmd
 obtain ⟨g, e0⟩ : ∃ g, playRS s l = g := ⟨_, rfl⟩
 have e1 := e0
 unfold playRS at e1
 rw [e0]
 obtain ⟨⟨hg1, hg2⟩, he1, he2⟩ := id hs
 refine .seq ?_
 refine .region rfl ?_
 refine R.box (h := ?_)
 refine R.alloc Z25 (h := ?_)
 refine R.assign (h := ?_)
 refine R.assign (h := ?_)
 refine .n0 ?_
 refine .seq ?_
 refine .region rfl ?_
 first | refine R.loadA A25 (h := ?_) | refine R.loadN A25 (h := ?_) | refine R.loadP A25 (h := ?_)
 refine R.callP (es := [_]) (fun _ => checkGR_P s hs) (h := ?_)
 refine R.assign (h := ?_)
 refine .n0 ?_
 refine .seq ?_
 refine .seq ?_
 refine .region rfl ?_
 refine R.move (h := ?_)
 refine R.bin (run_eql _ _ _ _ _ _) (h := ?_)
 refine R.move (h := ?_)
 refine R.move (h := ?_)
 first | refine R.len S50 (h := ?_) | refine R.lenRs S50 (h := ?_) | refine R.lenV (run_lenNil S50) (h := ?_)
 rw [List.length_map]
 refine R.bin (run_gtr _ _ _ _ _ _) (h := ?_)
 refine R.and (h := ?_)
 refine .n0 ?_
 refine LGo.ifb (ht := fun hc => ?_) (hf := fun hc => ?_)
 ·
  simp only [Bool.and_eq_true, decide_eq_true_eq] at hc
  rw [if_neg (by simp [hc.1]), if_pos (by omega)] at e1
  rw [← e1]
  refine .region rfl ?_
  refine R.assign (h := ?_)
  refine .n0 ?_
  refine .seq ?_
  refine .seq ?_
  refine .region rfl ?_
  refine R.move (h := ?_)
  refine R.bin (run_neq _ _ _ _ _ _) (h := ?_)
  refine .n0 ?_
  refine LGo.ifb (ht := fun hc2 => ?_) (hf := fun hc2 => by simp at hc2)
  refine .seq ?_
  refine .region rfl ?_
  refine R.build BF25 (is := []) (xs := []) (es := []) (h := ?_)
  refine R.move (h := ?_)
  refine R.storeA A25 (h := ?_)
  refine R.assign (h := ?_)
  refine R.assign (h := ?_)
  refine .n0 ?_
  refine LGo.packNil 1 0 59 3 (h := ?_)
  refine LGo.frzBx 1 (h := ?_)
  refine LGo.packNil 1 1 40 5 (h := ?_)
  refine LGo.frzBx 1 (h := ?_)
  refine LGo.nilSl 5 1 (h := ?_)
  exact LGo.ret (ret_ATT Tryd.results26 A25 hA hmd)
 ·
  refine .skip ?_
  refine .seq ?_
  refine .seq ?_
  refine .region rfl ?_
  refine R.move (h := ?_)
  refine R.bin (run_neq _ _ _ _ _ _) (h := ?_)
  refine .n0 ?_
  refine LGo.ifb (ht := fun hc3 => ?_) (hf := fun hc3 => ?_)
  ·
   rw [if_pos (by simpa using hc3)] at e1
   rw [← e1]
   refine .seq ?_
   refine .region rfl ?_
   refine R.build BF25 (is := []) (xs := []) (es := []) (h := ?_)
   refine R.move (h := ?_)
   refine R.storeA A25 (h := ?_)
   refine R.assign (h := ?_)
   refine R.assign (h := ?_)
   refine .n0 ?_
   refine LGo.packNil 1 0 59 3 (h := ?_)
   refine LGo.frzBx 1 (h := ?_)
   refine LGo.packNil 1 1 40 5 (h := ?_)
   refine LGo.frzBx 1 (h := ?_)
   refine LGo.nilSl 5 1 (h := ?_)
   exact LGo.ret (ret_ATT Tryd.results26 A25 hA hmd)
  ·
   have hc0 : checkGS s = 0 := by simpa using hc3
   rw [if_neg (by simp [hc0]), if_neg (by rw [hc0] at hc; simp at hc; omega)] at e1
   obtain ⟨fe, fr, hpl⟩ : ∃ fe fr, playR s.gates s.ents l = (fe, fr) := ⟨_, _, rfl⟩
   rw [hpl] at e1
   refine .skip ?_
   refine .seq ?_
   refine .region rfl ?_
   first | refine R.loadA A25 (h := ?_) | refine R.loadN A25 (h := ?_) | refine R.loadP A25 (h := ?_)
   refine R.callP (es := [_]) (fun _ => copyR_P s hs) (h := ?_)
   refine R.storeA A25 (h := ?_)
   refine .n0 ?_
   refine .seq ?_
   refine .region rfl ?_
   refine R.assign (h := ?_)
   refine .n0 ?_
   refine .seq ?_
   refine .seq ?_
   refine .region rfl ?_
   refine R.assign (h := ?_)
   refine .n0 ?_
   refine .block ?_
   refine .loop ?_
   refine LGo.nilRs 8 35 1 (h := ?_)
   refine LGo.loopG (σ := Nat × List GtE × List Int) (fun x => x.1 ≤ l.length ∧ x.2.2.length ≤ x.1 ∧ x.2.1.length ≤ 50000 + x.1 ∧ (∀ y ∈ x.2.1, U32 y.seat) ∧ ((playR s.gates x.2.1 (l.drop x.1)).1, x.2.2 ++ (playR s.gates x.2.1 (l.drop x.1)).2) = (fe, fr)) (fun x => [(9, (true, .i (x.1 : Nat))), (8, (true, .ref 2))]) (fun x => [(0, .box 25 ((GtS.mk s.gates x.2.1).c.map LV.sv)), (1, .box 25 [.v (.slice none 0 0), .v (.slice none 0 0)]), (2, .rs 35 1 (ic .i64 x.2.2))]) (fun x => l.length - x.1) (0, s.ents, []) [(1, _), (2, _), (4, _)] ⟨Nat.zero_le _, Nat.zero_le _, by dsimp only; omega, he2, by dsimp only; rw [List.drop_zero, hpl]; rfl⟩ (by repeat (first | exact trivial | refine ⟨rfl, ?_⟩)) (by repeat (first | exact trivial | refine ⟨rfl, ?_⟩)) (by repeat (first | exact trivial | refine ⟨rfl, ?_⟩)) ?_
   rintro ⟨k, es, er⟩ ⟨hk, hel, hsl, hes, hq⟩ ih
   dsimp only at * 
   refine .seq ?_
   refine .seq ?_
   refine .region rfl ?_
   refine R.move (h := ?_)
   refine R.move (h := ?_)
   first | refine R.len S50 (h := ?_) | refine R.lenRs S50 (h := ?_) | refine R.lenV (run_lenNil S50) (h := ?_)
   rw [List.length_map]
   refine R.bin (run_lss _ _ _ _ _ _) (h := ?_)
   refine .n0 ?_
   refine LGo.ifd (ht := fun hc4 => ?_) (hf := fun hc4 => ?_)
   ·
    have hlt : k < l.length := by omega
    have hx : (l.map GtC.c)[((k : Nat) : Int).toNat]? = some l[k].c := by simp [hlt]
    have hd : l.drop k = l[k] :: l.drop (k + 1) := List.drop_eq_getElem_cons hlt
    have hzu := hlu l[k] (List.getElem_mem hlt)
    rw [hd, playR] at hq
    generalize l[k] = z at hx hq hzu
    clear hd
    refine .skip ?_
    refine .seq ?_
    refine .block ?_
    refine .seq ?_
    refine .region rfl ?_
    first | refine R.loadA A25 (h := ?_) | refine R.loadN A25 (h := ?_) | refine R.loadP A25 (h := ?_)
    refine R.move (h := ?_)
    refine R.move (h := ?_)
    refine R.index I50 (hj := fun hg => ⟨by omega, hx⟩) (h := ?_)
    first | refine R.loadA A31 (h := ?_) | refine R.loadN A31 (h := ?_) | refine R.loadP A31 (h := ?_)
    refine R.callP (es := [_, _]) (fun _ => enterR_P ⟨s.gates, es⟩ ⟨⟨hg1, hg2⟩, by dsimp only; omega, hes⟩ z) (h := ?_)
    refine R.move (h := ?_)
    refine R.extract (h := ?_)
    refine R.extract (h := ?_)
    refine R.alloc Z25 (h := ?_)
    refine R.storeA A25 (h := ?_)
    refine R.assign (h := ?_)
    refine Reg.nil ⟨fun _ => ⟨mixedO, by rfl, by rfl⟩, ?_⟩
    refine .seq ?_
    refine .seq ?_
    refine .region rfl ?_
    refine R.move (h := ?_)
    refine R.bin (run_eql _ _ _ _ _ _) (h := ?_)
    refine .n0 ?_
    refine LGo.ifd (ht := fun hc5 => ?_) (hf := fun hc5 => ?_)
    ·
     rw [if_pos hc5] at hq
     obtain ⟨hst, hln, hsu⟩ := enter_facts hc5 hes hzu
     rw [hst]
     refine .region rfl ?_
     first | refine R.loadA A25 (h := ?_) | refine R.loadN A25 (h := ?_) | refine R.loadP A25 (h := ?_)
     refine R.storeA A25 (h := ?_)
     refine .n0 ?_
     refine .region rfl ?_
     refine R.move (h := ?_)
     refine R.move (h := ?_)
     refine R.buildSliceG AP51 (xs := [_]) (es := [_]) (hcs := CellsOfs.cons (CellsOf.one rfl) CellsOfs.nil) (h := ?_)
     refine R.appendS AP51 (hs := SrcOk.sl Tryd.underlying51 (by simp)) (hlen := by rw [ic_len]; simp; omega) (h := ?_)
     refine R.assign (h := ?_)
     refine .n0 ?_
     refine .inBlock ?_
     refine .region rfl ?_
     refine R.move (h := ?_)
     first | refine R.add (h := ?_) | refine R.addW (h := ?_)
     refine R.assign (h := ?_)
     refine .n0 ?_
     refine .inLoop ?_
     exact LGo.turn [0, 1, 4] (b := 0) (fun o h => by have := (hA o).1 h; omega) (ih (k + 1, (enterS ⟨s.gates, es⟩ z).1.ents, er ++ [(enterS ⟨s.gates, es⟩ z).2]) ⟨by dsimp only; omega, by dsimp only; rw [List.length_append, List.length_cons, List.length_nil]; omega, by dsimp only; omega, hsu, by dsimp only; rw [← hq]; simp⟩ (by dsimp only; omega)) (by repeat (first | exact trivial | refine ⟨rfl, ?_⟩)) ⟨rfl, rfl, by rw [← ic_snoc]; rfl, trivial⟩
    ·
     rw [if_neg hc5] at hq
     refine .skip ?_
     refine .region rfl ?_
     refine R.move (h := ?_)
     refine R.move (h := ?_)
     refine R.buildSliceG AP51 (xs := [_]) (es := [_]) (hcs := CellsOfs.cons (CellsOf.one rfl) CellsOfs.nil) (h := ?_)
     refine R.appendS AP51 (hs := SrcOk.sl Tryd.underlying51 (by simp)) (hlen := by rw [ic_len]; simp; omega) (h := ?_)
     refine R.assign (h := ?_)
     refine .n0 ?_
     refine .inBlock ?_
     refine .region rfl ?_
     refine R.move (h := ?_)
     first | refine R.add (h := ?_) | refine R.addW (h := ?_)
     refine R.assign (h := ?_)
     refine .n0 ?_
     refine .inLoop ?_
     exact LGo.turn [0, 1, 4] (b := 0) (fun o h => by have := (hA o).1 h; omega) (ih (k + 1, es, er ++ [(enterS ⟨s.gates, es⟩ z).2]) ⟨by dsimp only; omega, by dsimp only; rw [List.length_append, List.length_cons, List.length_nil]; omega, by dsimp only; omega, hes, by dsimp only; rw [← hq]; simp⟩ (by dsimp only; omega)) (by repeat (first | exact trivial | refine ⟨rfl, ?_⟩)) ⟨rfl, rfl, by rw [← ic_snoc]; rfl, trivial⟩
   ·
    rw [List.drop_eq_nil_of_le (show l.length ≤ k by omega), playR, List.append_nil] at hq
    cases hq
    rw [← e1]
    refine .exit rfl ?_
    refine .seq ?_
    refine .region rfl ?_
    first | refine R.loadA A25 (h := ?_) | refine R.loadN A25 (h := ?_) | refine R.loadP A25 (h := ?_)
    refine R.move (h := ?_)
    refine R.storeA A25 (h := ?_)
    refine R.assign (h := ?_)
    refine R.assign (h := ?_)
    refine .n0 ?_
    first | refine LGo.frzT 5 (h := ?_) | refine LGo.nilSl 5 1 (h := ?_) | skip
    exact LGo.ret (ret_ATT Tryd.results26 A25 hA hmd)

theorem errors_P (l m : List Int) (hl : l.length ≤ 100000) (hm : m.length ≤ 100000) : PC Tryd.prog 27 [.sv (.sl 1 (ic .i64 l)), .sv (.sl 1 (ic .i64 m))] (.b (decide (l = m))) := by
 refine ⟨LC.of_go Tryd.func27 (c := _) rfl (by kernel_rfl) (by rw [Tryd.ntmps27]; simp) rfl rfl (by simp [LO.lt, LV.lts, LV.lt, lts_sv]) (by simp) ?_⟩
 intro B hA hmd
 obtain ⟨g, e0⟩ : ∃ g, decide (l = m) = g := ⟨_, rfl⟩
 rw [e0]
 refine .seq ?_
 refine .region rfl ?_
 refine R.assign (h := ?_)
 refine .n0 ?_
 refine .seq ?_
 refine .seq ?_
 refine .region rfl ?_
 refine R.move (h := ?_)
 first | refine R.len S51 (h := ?_) | refine R.lenRs S51 (h := ?_) | refine R.lenV (run_lenNil S51) (h := ?_)
 rw [ic_len]
 refine R.move (h := ?_)
 first | refine R.len S51 (h := ?_) | refine R.lenRs S51 (h := ?_) | refine R.lenV (run_lenNil S51) (h := ?_)
 rw [ic_len]
 refine R.bin (run_neq _ _ _ _ _ _) (h := ?_)
 refine .n0 ?_
 refine LGo.ifb (ht := fun hc => ?_) (hf := fun hc => ?_)
 ·
  obtain rfl : g = false := by rw [← e0]; exact decide_eq_false (fun h => by rw [h] at hc; simp at hc)
  refine .seq ?_
  refine .region rfl ?_
  refine R.assign (h := ?_)
  refine .n0 ?_
  exact LGo.ret (ret_T Tryd.results27 hA hmd)
 ·
  have hlm : l.length = m.length := by simp at hc; omega
  refine .skip ?_
  refine .seq ?_
  refine .seq ?_
  refine .region rfl ?_
  refine R.assign (h := ?_)
  refine .n0 ?_
  refine .block ?_
  refine .loop ?_
  refine LGo.loopG (σ := Nat) (fun x => x ≤ l.length ∧ l.take x = m.take x) (fun x => [(5, (true, .i (x : Nat)))]) (fun x => []) (fun x => l.length - x) (0) [(0, _), (1, _)] ⟨Nat.zero_le _, by simp⟩ (by repeat (first | exact trivial | refine ⟨rfl, ?_⟩)) (by repeat (first | exact trivial | refine ⟨rfl, ?_⟩)) (by repeat (first | exact trivial | refine ⟨rfl, ?_⟩)) ?_
  rintro k ⟨hk, hq⟩ ih
  refine .seq ?_
  refine .seq ?_
  refine .region rfl ?_
  refine R.move (h := ?_)
  refine R.move (h := ?_)
  first | refine R.len S51 (h := ?_) | refine R.lenRs S51 (h := ?_) | refine R.lenV (run_lenNil S51) (h := ?_)
  rw [ic_len]
  refine R.bin (run_lss _ _ _ _ _ _) (h := ?_)
  refine .n0 ?_
  refine LGo.ifd (ht := fun hc2 => ?_) (hf := fun hc2 => ?_)
  ·
   have hlt : k < l.length := by omega
   have hlt2 : k < m.length := by omega
   have hx := icA hlt
   have hy := icA hlt2
   have hp : l[k] = m[k] → l.take (k + 1) = m.take (k + 1) := fun h => by rw [List.take_succ_eq_append_getElem hlt, List.take_succ_eq_append_getElem hlt2, hq, h]
   refine .skip ?_
   refine .seq ?_
   refine .block ?_
   refine .seq ?_
   refine .region rfl ?_
   refine R.move (h := ?_)
   refine R.move (h := ?_)
   refine R.index I51 (hj := fun hg => ⟨by omega, hx⟩) (h := ?_)
   first | refine R.loadB O35 (h := ?_) | refine R.load1 O35 (h := ?_)
   refine R.move (h := ?_)
   refine R.move (h := ?_)
   refine R.index I51 (hj := fun hg => ⟨by omega, hy⟩) (h := ?_)
   first | refine R.loadB O35 (h := ?_) | refine R.load1 O35 (h := ?_)
   refine R.bin (run_neq _ _ _ _ _ _) (h := ?_)
   refine Reg.nil ⟨fun _ => ⟨mixedO, by rfl, by rfl⟩, ?_⟩
   refine LGo.ifb (ht := fun hc3 => ?_) (hf := fun hc3 => ?_)
   ·
    obtain rfl : g = false := by rw [← e0]; exact decide_eq_false (fun h => by subst h; simp at hc3)
    refine .seq ?_
    refine .region rfl ?_
    refine R.assign (h := ?_)
    refine .n0 ?_
    exact LGo.ret (ret_T Tryd.results27 hA hmd)
   ·
    have hp2 := hp (by simpa using hc3)
    refine .skip ?_
    refine .inBlock ?_
    refine .region rfl ?_
    refine R.move (h := ?_)
    first | refine R.add (h := ?_) | refine R.addW (h := ?_)
    refine R.assign (h := ?_)
    refine .n0 ?_
    refine .inLoop ?_
    exact LGo.next _ (fun o h => by have := (hA o).1 h; omega) (by omega) (ih (k + 1) ⟨by omega, hp2⟩ (by omega)) (by repeat (first | exact trivial | refine ⟨rfl, ?_⟩)) (by repeat (first | exact trivial | refine ⟨rfl, ?_⟩))
  ·
   obtain rfl : g = true := by rw [← e0]; refine decide_eq_true ?_; rw [List.take_of_length_le (by omega), List.take_of_length_le (by omega)] at hq; exact hq
   refine .exit rfl ?_
   refine .seq ?_
   refine .region rfl ?_
   refine R.assign (h := ?_)
   refine .n0 ?_
   exact LGo.ret (ret_T Tryd.results27 hA hmd)

end Go.Proofs.YtgcjjndhohellaaDoor
