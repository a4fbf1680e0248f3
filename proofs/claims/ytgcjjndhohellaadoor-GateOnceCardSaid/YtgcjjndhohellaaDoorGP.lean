/- gates: equal states; what is far; the example. -/
import Derived.Test.YtgcjjndhohellaaDoorGO
set_option linter.unusedSimpArgs false
set_option linter.unusedVariables false
namespace Go.Proofs.YtgcjjndhohellaaDoor

theorem ext_g {a b : GtS} (h1 : a.gates = b.gates) (h2 : a.ents = b.ents) : a = b := by cases a; cases b; simp_all
theorem en_eq (x y : GtE) : (!((((decide (x.seat = y.seat) && decide (x.serial = y.serial)) && decide (x.epoch = y.epoch)) && decide (x.gate = y.gate)) && decide (x.time = y.time))) = decide (x ≠ y) := by
  obtain ⟨a, b, c, d, e⟩ := x
  obtain ⟨a', b', c', d', e'⟩ := y
  rw [Bool.eq_iff_iff]
  simp only [Bool.not_eq_true', Bool.and_eq_false_iff, decide_eq_false_iff_not, decide_eq_true_eq, ne_eq, GtE.mk.injEq]
  omega

theorem same_P (a b : GtS) (ha : SmS a) (hb : SmS b) : PC Tryd.prog 14 [.agg (a.c.map LV.sv), .agg (b.c.map LV.sv)] (.b (decide (a = b))) := by
 refine ⟨LC.of_go Tryd.func14 (c := _) rfl (by kernel_rfl) (by rw [Tryd.ntmps14]; simp) rfl rfl (by simp [LO.lt, LV.lts, LV.lt, lts_sv]) (by simp) ?_⟩
 intro B hA hmd
 obtain ⟨g, e0⟩ : ∃ g, decide (a = b) = g := ⟨_, rfl⟩
 rw [e0]
 obtain ⟨⟨ha1, ha2⟩, ha3, _⟩ := ha
 obtain ⟨⟨hb1, hb2⟩, hb3, _⟩ := hb
 refine .seq ?_
 refine .region rfl ?_
 refine R.box (h := ?_)
 refine R.box (h := ?_)
 refine R.assign (h := ?_)
 refine .n0 ?_
 refine .seq ?_
 refine .seq ?_
 refine .region rfl ?_
 first | refine R.field F25_0 (h := ?_) | refine R.fieldAt F25_0 (h := ?_)
 first | refine R.loadB O22 (h := ?_) | refine R.load1 O22 (h := ?_)
 first | refine R.len S22 (h := ?_) | refine R.lenRs S22 (h := ?_) | refine R.lenV (run_lenNil S22) (h := ?_)
 rw [List.length_map]
 first | refine R.field F25_0 (h := ?_) | refine R.fieldAt F25_0 (h := ?_)
 first | refine R.loadB O22 (h := ?_) | refine R.load1 O22 (h := ?_)
 first | refine R.len S22 (h := ?_) | refine R.lenRs S22 (h := ?_) | refine R.lenV (run_lenNil S22) (h := ?_)
 rw [List.length_map]
 refine R.bin (run_neq _ _ _ _ _ _) (h := ?_)
 refine R.move (h := ?_)
 first | refine R.field F25_1 (h := ?_) | refine R.fieldAt F25_1 (h := ?_)
 first | refine R.loadB O23 (h := ?_) | refine R.load1 O23 (h := ?_)
 first | refine R.len S23 (h := ?_) | refine R.lenRs S23 (h := ?_) | refine R.lenV (run_lenNil S23) (h := ?_)
 rw [List.length_map]
 first | refine R.field F25_1 (h := ?_) | refine R.fieldAt F25_1 (h := ?_)
 first | refine R.loadB O23 (h := ?_) | refine R.load1 O23 (h := ?_)
 first | refine R.len S23 (h := ?_) | refine R.lenRs S23 (h := ?_) | refine R.lenV (run_lenNil S23) (h := ?_)
 rw [List.length_map]
 refine R.bin (run_neq _ _ _ _ _ _) (h := ?_)
 refine R.or (h := ?_)
 refine .n0 ?_
 refine LGo.ifb (ht := fun hc => ?_) (hf := fun hc => ?_)
 ·
  obtain rfl : g = false := by rw [← e0]; exact decide_eq_false (fun h => by rw [h] at hc; simp at hc)
  refine .seq ?_
  refine .region rfl ?_
  refine R.assign (h := ?_)
  refine .n0 ?_
  exact LGo.ret (ret_T Tryd.results14 hA hmd)
 ·
  simp only [Bool.or_eq_false_iff, Bool.not_eq_eq_eq_not, Bool.not_false, decide_eq_true_eq] at hc
  obtain ⟨hgl, hel⟩ := hc
  refine .skip ?_
  refine .seq ?_
  refine .seq ?_
  refine .region rfl ?_
  refine R.assign (h := ?_)
  refine .n0 ?_
  refine .block ?_
  refine .loop ?_
  refine LGo.loopG (σ := Nat) (fun x => x ≤ a.gates.length ∧ a.gates.take x = b.gates.take x) (fun x => [(5, (true, .i (x : Nat)))]) (fun x => [(0, .box 25 (a.c.map LV.sv)), (1, .box 25 (b.c.map LV.sv))]) (fun x => a.gates.length - x) (0) [(2, _), (3, _)] ⟨Nat.zero_le _, by simp⟩ (by repeat (first | exact trivial | refine ⟨rfl, ?_⟩)) (by repeat (first | exact trivial | refine ⟨rfl, ?_⟩)) (by repeat (first | exact trivial | refine ⟨rfl, ?_⟩)) ?_
  rintro k ⟨hk, hq⟩ ih
  refine .seq ?_
  refine .seq ?_
  refine .region rfl ?_
  refine R.move (h := ?_)
  first | refine R.field F25_0 (h := ?_) | refine R.fieldAt F25_0 (h := ?_)
  first | refine R.loadB O22 (h := ?_) | refine R.load1 O22 (h := ?_)
  first | refine R.len S22 (h := ?_) | refine R.lenRs S22 (h := ?_) | refine R.lenV (run_lenNil S22) (h := ?_)
  rw [List.length_map]
  refine R.bin (run_lss _ _ _ _ _ _) (h := ?_)
  refine .n0 ?_
  refine LGo.ifd (ht := fun hc2 => ?_) (hf := fun hc2 => ?_)
  ·
   have hlt : k < a.gates.length := by omega
   have hlt2 : k < b.gates.length := by omega
   have hx : (a.gates.map GtG.c)[((k : Nat) : Int).toNat]? = some a.gates[k].c := by simp [hlt]
   have hy : (b.gates.map GtG.c)[((k : Nat) : Int).toNat]? = some b.gates[k].c := by simp [hlt2]
   have hp : a.gates[k] = b.gates[k] → a.gates.take (k + 1) = b.gates.take (k + 1) := fun h => by rw [List.take_succ_eq_append_getElem hlt, List.take_succ_eq_append_getElem hlt2, hq, h]
   have hn : a = b → a.gates[k] = b.gates[k] := fun h => by subst h; rfl
   have hxl := ha2 _ (List.getElem_mem hlt)
   have hyl := hb2 _ (List.getElem_mem hlt2)
   generalize a.gates[k] = ga at hx hp hn hxl
   generalize b.gates[k] = gb at hy hp hn hyl
   refine .skip ?_
   refine .seq ?_
   refine .block ?_
   refine .seq ?_
   refine .region rfl ?_
   first | refine R.field F25_0 (h := ?_) | refine R.fieldAt F25_0 (h := ?_)
   first | refine R.loadB O22 (h := ?_) | refine R.load1 O22 (h := ?_)
   refine R.move (h := ?_)
   refine R.index I22 (hj := fun hg => ⟨by omega, hx⟩) (h := ?_)
   first | refine R.loadA A59 (h := ?_) | refine R.loadN A59 (h := ?_) | refine R.loadP A59 (h := ?_)
   first | refine R.field F25_0 (h := ?_) | refine R.fieldAt F25_0 (h := ?_)
   first | refine R.loadB O22 (h := ?_) | refine R.load1 O22 (h := ?_)
   refine R.move (h := ?_)
   refine R.index I22 (hj := fun hg => ⟨by omega, hy⟩) (h := ?_)
   first | refine R.loadA A59 (h := ?_) | refine R.loadN A59 (h := ?_) | refine R.loadP A59 (h := ?_)
   refine R.alloc Z59 (h := ?_)
   refine R.alloc Z59 (h := ?_)
   refine R.storeA A59 (h := ?_)
   refine R.storeA A59 (h := ?_)
   refine Reg.nil ⟨fun _ => ⟨mixedO, by rfl, by rfl⟩, ?_⟩
   refine .seq ?_
   refine .seq ?_
   refine .region rfl ?_
   first | refine R.field F59_1 (h := ?_) | refine R.fieldAt F59_1 (h := ?_)
   first | refine R.loadB O2 (h := ?_) | refine R.load1 O2 (h := ?_)
   first | refine R.field F59_1 (h := ?_) | refine R.fieldAt F59_1 (h := ?_)
   first | refine R.loadB O2 (h := ?_) | refine R.load1 O2 (h := ?_)
   refine R.bin (run_neq _ _ _ _ _ _) (h := ?_)
   refine R.move (h := ?_)
   first | refine R.field F59_2 (h := ?_) | refine R.fieldAt F59_2 (h := ?_)
   first | refine R.loadB O2 (h := ?_) | refine R.load1 O2 (h := ?_)
   first | refine R.field F59_2 (h := ?_) | refine R.fieldAt F59_2 (h := ?_)
   first | refine R.loadB O2 (h := ?_) | refine R.load1 O2 (h := ?_)
   refine R.bin (run_neq _ _ _ _ _ _) (h := ?_)
   refine R.or (h := ?_)
   refine R.move (h := ?_)
   first | refine R.field F59_0 (h := ?_) | refine R.fieldAt F59_0 (h := ?_)
   first | refine R.loadB O57 (h := ?_) | refine R.load1 O57 (h := ?_)
   first | refine R.len S57 (h := ?_) | refine R.lenRs S57 (h := ?_) | refine R.lenV (run_lenNil S57) (h := ?_)
   rw [ic_len]
   first | refine R.field F59_0 (h := ?_) | refine R.fieldAt F59_0 (h := ?_)
   first | refine R.loadB O57 (h := ?_) | refine R.load1 O57 (h := ?_)
   first | refine R.len S57 (h := ?_) | refine R.lenRs S57 (h := ?_) | refine R.lenV (run_lenNil S57) (h := ?_)
   rw [ic_len]
   refine R.bin (run_neq _ _ _ _ _ _) (h := ?_)
   refine R.or (h := ?_)
   refine .n0 ?_
   refine LGo.ifb (ht := fun hc3 => ?_) (hf := fun hc3 => ?_)
   ·
    obtain rfl : g = false := by rw [← e0]; exact decide_eq_false (fun h => by rw [hn h] at hc3; simp at hc3)
    refine .seq ?_
    refine .region rfl ?_
    refine R.assign (h := ?_)
    refine .n0 ?_
    exact LGo.ret (ret_T Tryd.results14 hA hmd)
   ·
    simp only [Bool.or_eq_false_iff, Bool.not_eq_eq_eq_not, Bool.not_false, decide_eq_true_eq] at hc3
    obtain ⟨⟨hf1, hf2⟩, hf3⟩ := hc3
    refine .skip ?_
    refine .seq ?_
    refine .region rfl ?_
    refine R.assign (h := ?_)
    refine .n0 ?_
    refine .block ?_
    refine .loop ?_
    refine LGo.loopG (σ := Nat) (fun x => x ≤ ga.secs.length ∧ ga.secs.take x = gb.secs.take x) (fun x => [(8, (true, .i (x : Nat)))]) (fun x => [(0, .box 25 (a.c.map LV.sv)), (1, .box 25 (b.c.map LV.sv)), (2, .box 59 (ga.c.map LV.sv)), (3, .box 59 (gb.c.map LV.sv))]) (fun x => ga.secs.length - x) (0) [(2, _), (3, _), (5, _), (6, _), (7, _), (49, _), (50, _), (51, _), (52, _), (53, _), (56, _), (57, _), (58, _), (59, _), (60, _), (61, _), (62, _)] ⟨Nat.zero_le _, by simp⟩ (by repeat (first | exact trivial | refine ⟨rfl, ?_⟩)) (by repeat (first | exact trivial | refine ⟨rfl, ?_⟩)) (by repeat (first | exact trivial | refine ⟨rfl, ?_⟩)) ?_
    rintro j ⟨hj, hq2⟩ ih2
    refine .seq ?_
    refine .seq ?_
    refine .region rfl ?_
    refine R.move (h := ?_)
    first | refine R.field F59_0 (h := ?_) | refine R.fieldAt F59_0 (h := ?_)
    first | refine R.loadB O57 (h := ?_) | refine R.load1 O57 (h := ?_)
    first | refine R.len S57 (h := ?_) | refine R.lenRs S57 (h := ?_) | refine R.lenV (run_lenNil S57) (h := ?_)
    rw [ic_len]
    refine R.bin (run_lss _ _ _ _ _ _) (h := ?_)
    refine .n0 ?_
    refine LGo.ifd (ht := fun hc4 => ?_) (hf := fun hc4 => ?_)
    ·
     have hltj : j < ga.secs.length := by omega
     have hltj2 : j < gb.secs.length := by omega
     have hx2 := icA hltj
     have hy2 := icA hltj2
     have hp2 : ga.secs[j] = gb.secs[j] → ga.secs.take (j + 1) = gb.secs.take (j + 1) := fun h => by rw [List.take_succ_eq_append_getElem hltj, List.take_succ_eq_append_getElem hltj2, hq2, h]
     have hn2 : ga = gb → ga.secs[j] = gb.secs[j] := fun h => by subst h; rfl
     generalize ga.secs[j] = p at hx2 hp2 hn2
     generalize gb.secs[j] = q at hy2 hp2 hn2
     refine .skip ?_
     refine .seq ?_
     refine .block ?_
     refine .seq ?_
     refine .region rfl ?_
     first | refine R.field F59_0 (h := ?_) | refine R.fieldAt F59_0 (h := ?_)
     first | refine R.loadB O57 (h := ?_) | refine R.load1 O57 (h := ?_)
     refine R.move (h := ?_)
     refine R.index I57 (hj := fun hg => ⟨by omega, hx2⟩) (h := ?_)
     first | refine R.loadB O3 (h := ?_) | refine R.load1 O3 (h := ?_)
     first | refine R.field F59_0 (h := ?_) | refine R.fieldAt F59_0 (h := ?_)
     first | refine R.loadB O57 (h := ?_) | refine R.load1 O57 (h := ?_)
     refine R.move (h := ?_)
     refine R.index I57 (hj := fun hg => ⟨by omega, hy2⟩) (h := ?_)
     first | refine R.loadB O3 (h := ?_) | refine R.load1 O3 (h := ?_)
     refine R.bin (run_neq _ _ _ _ _ _) (h := ?_)
     refine Reg.nil ⟨fun _ => ⟨mixedO, by rfl, by rfl⟩, ?_⟩
     refine LGo.ifb (ht := fun hc5 => ?_) (hf := fun hc5 => ?_)
     ·
      obtain rfl : g = false := by rw [← e0]; exact decide_eq_false (fun h => by rw [hn2 (hn h)] at hc5; simp at hc5)
      refine .seq ?_
      refine .region rfl ?_
      refine R.assign (h := ?_)
      refine .n0 ?_
      exact LGo.ret (ret_T Tryd.results14 hA hmd)
     ·
      have hp3 := hp2 (by simpa using hc5)
      refine .skip ?_
      refine .inBlock ?_
      refine .region rfl ?_
      refine R.move (h := ?_)
      first | refine R.add (h := ?_) | refine R.addW (h := ?_)
      refine R.assign (h := ?_)
      refine .n0 ?_
      refine .inLoop ?_
      exact LGo.next _ (fun o h => by have := (hA o).1 h; omega) (by omega) (ih2 (j + 1) ⟨by omega, hp3⟩ (by omega)) (by repeat (first | exact trivial | refine ⟨rfl, ?_⟩)) ⟨rfl, rfl, rfl, rfl, trivial⟩
    ·
     have hxy : ga = gb := by
       obtain ⟨x1, x2, x3⟩ := ga
       obtain ⟨y1, y2, y3⟩ := gb
       dsimp only at hf1 hf2 hf3 hq2 hj hc4
       rw [List.take_of_length_le (by omega), List.take_of_length_le (by omega)] at hq2
       rw [hf1, hf2, hq2]
     refine .exit rfl ?_
     refine .inBlock ?_
     refine .region rfl ?_
     refine R.move (h := ?_)
     first | refine R.add (h := ?_) | refine R.addW (h := ?_)
     refine R.assign (h := ?_)
     refine .n0 ?_
     refine .inLoop ?_
     exact LGo.next _ (fun o h => by have := (hA o).1 h; omega) (by omega) (ih (k + 1) ⟨by omega, hp hxy⟩ (by omega)) (by repeat (first | exact trivial | refine ⟨rfl, ?_⟩)) ⟨rfl, rfl, trivial⟩
  ·
   have hgg : a.gates = b.gates := by rwa [List.take_of_length_le (by omega), List.take_of_length_le (by omega)] at hq
   refine .exit rfl ?_
   refine .seq ?_
   refine .seq ?_
   refine .region rfl ?_
   refine R.assign (h := ?_)
   refine .n0 ?_
   refine .block ?_
   refine .loop ?_
   refine LGo.loopG (σ := Nat) (fun x => x ≤ a.ents.length ∧ a.ents.take x = b.ents.take x) (fun x => [(9, (true, .i (x : Nat)))]) (fun x => [(0, .box 25 (a.c.map LV.sv)), (1, .box 25 (b.c.map LV.sv))]) (fun x => a.ents.length - x) (0) [(2, _), (3, _)] ⟨Nat.zero_le _, by simp⟩ (by repeat (first | exact trivial | refine ⟨rfl, ?_⟩)) (by repeat (first | exact trivial | refine ⟨rfl, ?_⟩)) (by repeat (first | exact trivial | refine ⟨rfl, ?_⟩)) ?_
   rintro m ⟨hm, hq3⟩ ih3
   refine .seq ?_
   refine .seq ?_
   refine .region rfl ?_
   refine R.move (h := ?_)
   first | refine R.field F25_1 (h := ?_) | refine R.fieldAt F25_1 (h := ?_)
   first | refine R.loadB O23 (h := ?_) | refine R.load1 O23 (h := ?_)
   first | refine R.len S23 (h := ?_) | refine R.lenRs S23 (h := ?_) | refine R.lenV (run_lenNil S23) (h := ?_)
   rw [List.length_map]
   refine R.bin (run_lss _ _ _ _ _ _) (h := ?_)
   refine .n0 ?_
   refine LGo.ifd (ht := fun hc6 => ?_) (hf := fun hc6 => ?_)
   ·
    have hlt : m < a.ents.length := by omega
    have hlt2 : m < b.ents.length := by omega
    have hx : (a.ents.map GtE.c)[((m : Nat) : Int).toNat]? = some a.ents[m].c := by simp [hlt]
    have hy : (b.ents.map GtE.c)[((m : Nat) : Int).toNat]? = some b.ents[m].c := by simp [hlt2]
    have hp : a.ents[m] = b.ents[m] → a.ents.take (m + 1) = b.ents.take (m + 1) := fun h => by rw [List.take_succ_eq_append_getElem hlt, List.take_succ_eq_append_getElem hlt2, hq3, h]
    have hn : a = b → a.ents[m] = b.ents[m] := fun h => by subst h; rfl
    generalize a.ents[m] = x at hx hp hn
    generalize b.ents[m] = y at hy hp hn
    refine .skip ?_
    refine .seq ?_
    refine .block ?_
    refine .seq ?_
    refine .region rfl ?_
    first | refine R.field F25_1 (h := ?_) | refine R.fieldAt F25_1 (h := ?_)
    first | refine R.loadB O23 (h := ?_) | refine R.load1 O23 (h := ?_)
    refine R.move (h := ?_)
    refine R.index I23 (hj := fun hg => ⟨by omega, hx⟩) (h := ?_)
    first | refine R.loadA A40 (h := ?_) | refine R.loadN A40 (h := ?_) | refine R.loadP A40 (h := ?_)
    first | refine R.field F25_1 (h := ?_) | refine R.fieldAt F25_1 (h := ?_)
    first | refine R.loadB O23 (h := ?_) | refine R.load1 O23 (h := ?_)
    refine R.move (h := ?_)
    refine R.index I23 (hj := fun hg => ⟨by omega, hy⟩) (h := ?_)
    first | refine R.loadA A40 (h := ?_) | refine R.loadN A40 (h := ?_) | refine R.loadP A40 (h := ?_)
    refine R.binA (NE40 _ _ _ _ _ _ _ _ _ _ _ _) (h := ?_)
    rw [en_eq]
    refine Reg.nil ⟨fun _ => ⟨mixedO, by rfl, by rfl⟩, ?_⟩
    refine LGo.ifb (ht := fun hc7 => ?_) (hf := fun hc7 => ?_)
    ·
     obtain rfl : g = false := by rw [← e0]; exact decide_eq_false (fun h => absurd (hn h) (of_decide_eq_true hc7))
     refine .seq ?_
     refine .region rfl ?_
     refine R.assign (h := ?_)
     refine .n0 ?_
     exact LGo.ret (ret_T Tryd.results14 hA hmd)
    ·
     have hp2 := hp (Decidable.of_not_not (of_decide_eq_false hc7))
     refine .skip ?_
     refine .inBlock ?_
     refine .region rfl ?_
     refine R.move (h := ?_)
     first | refine R.add (h := ?_) | refine R.addW (h := ?_)
     refine R.assign (h := ?_)
     refine .n0 ?_
     refine .inLoop ?_
     exact LGo.next _ (fun o h => by have := (hA o).1 h; omega) (by omega) (ih3 (m + 1) ⟨by omega, hp2⟩ (by omega)) (by repeat (first | exact trivial | refine ⟨rfl, ?_⟩)) ⟨rfl, rfl, trivial⟩
   ·
    obtain rfl : g = true := by rw [← e0]; refine decide_eq_true (ext_g hgg ?_); rwa [List.take_of_length_le (by omega), List.take_of_length_le (by omega)] at hq3
    refine .exit rfl ?_
    refine .seq ?_
    refine .region rfl ?_
    refine R.assign (h := ?_)
    refine .n0 ?_
    exact LGo.ret (ret_T Tryd.results14 hA hmd)

def farS (s : GtS) : Bool := (decide (12 < (s.gates.length : Int)) || (decide (60 < (s.ents.length : Int)) && decide ((s.ents.length : Int) < 499)) || decide (505 < (s.ents.length : Int))) || s.gates.any fun g => decide (12 < (g.secs.length : Int))
theorem far_no {s : GtS} (h : farS s = false) : s.gates.length ≤ 12 ∧ s.ents.length ≤ 505 ∧ ∀ g ∈ s.gates, g.secs.length ≤ 12 := by
  unfold farS at h
  simp only [Bool.or_eq_false_iff, decide_eq_false_iff_not, List.any_eq_false, decide_eq_true_eq] at h
  obtain ⟨⟨⟨h1, _⟩, h2⟩, h3⟩ := h
  exact ⟨by omega, by omega, fun g hg => by have := h3 g hg; omega⟩
def exG : List GtG := [⟨[0, 2], 10, 20⟩, ⟨[1], 0, 5⟩]
def exS : GtS := ⟨exG, []⟩
def exC : GtC := ⟨0, 3, 0, 1, 0, 2, 10⟩

theorem far_P (s : GtS) (hl : s.gates.length ≤ 9223372036854775807) (he : s.ents.length ≤ 9223372036854775807) (hs : ∀ g ∈ s.gates, g.secs.length ≤ 9223372036854775807) : PC Tryd.prog 9 [.agg (s.c.map LV.sv)] (.b (farS s)) := by
 refine ⟨LC.of_go Tryd.func9 (c := _) rfl (by kernel_rfl) (by rw [Tryd.ntmps9]; simp) rfl rfl (by simp [LO.lt, LV.lts, LV.lt, lts_sv]) (by simp) ?_⟩
 intro B hA hmd
 obtain ⟨g, e1⟩ : ∃ g, farS s = g := ⟨_, rfl⟩
 rw [e1]
 unfold farS at e1
 refine .seq ?_
 refine .region rfl ?_
 refine R.box (h := ?_)
 refine R.assign (h := ?_)
 refine .n0 ?_
 refine .seq ?_
 refine .seq ?_
 refine .region rfl ?_
 first | refine R.field F25_0 (h := ?_) | refine R.fieldAt F25_0 (h := ?_)
 first | refine R.loadB O22 (h := ?_) | refine R.load1 O22 (h := ?_)
 first | refine R.len S22 (h := ?_) | refine R.lenRs S22 (h := ?_) | refine R.lenV (run_lenNil S22) (h := ?_)
 rw [List.length_map]
 refine R.bin (run_gtr _ _ _ _ _ _) (h := ?_)
 refine R.move (h := ?_)
 first | refine R.field F25_1 (h := ?_) | refine R.fieldAt F25_1 (h := ?_)
 first | refine R.loadB O23 (h := ?_) | refine R.load1 O23 (h := ?_)
 first | refine R.len S23 (h := ?_) | refine R.lenRs S23 (h := ?_) | refine R.lenV (run_lenNil S23) (h := ?_)
 rw [List.length_map]
 refine R.bin (run_gtr _ _ _ _ _ _) (h := ?_)
 refine R.move (h := ?_)
 first | refine R.field F25_1 (h := ?_) | refine R.fieldAt F25_1 (h := ?_)
 first | refine R.loadB O23 (h := ?_) | refine R.load1 O23 (h := ?_)
 first | refine R.len S23 (h := ?_) | refine R.lenRs S23 (h := ?_) | refine R.lenV (run_lenNil S23) (h := ?_)
 rw [List.length_map]
 refine R.bin (run_lss _ _ _ _ _ _) (h := ?_)
 refine R.and (h := ?_)
 refine R.or (h := ?_)
 refine R.move (h := ?_)
 first | refine R.field F25_1 (h := ?_) | refine R.fieldAt F25_1 (h := ?_)
 first | refine R.loadB O23 (h := ?_) | refine R.load1 O23 (h := ?_)
 first | refine R.len S23 (h := ?_) | refine R.lenRs S23 (h := ?_) | refine R.lenV (run_lenNil S23) (h := ?_)
 rw [List.length_map]
 refine R.bin (run_gtr _ _ _ _ _ _) (h := ?_)
 refine R.or (h := ?_)
 refine .n0 ?_
 refine LGo.ifb (ht := fun hc => ?_) (hf := fun hc => ?_)
 ·
  rw [hc, Bool.true_or] at e1
  rw [← e1]
  refine .seq ?_
  refine .region rfl ?_
  refine R.assign (h := ?_)
  refine .n0 ?_
  exact LGo.ret (ret_T Tryd.results9 hA hmd)
 ·
  rw [hc, Bool.false_or] at e1
  simp only [Bool.or_eq_false_iff, decide_eq_false_iff_not] at hc
  have hgl : s.gates.length ≤ 12 := by omega
  refine .skip ?_
  refine .seq ?_
  refine .seq ?_
  refine .region rfl ?_
  refine R.assign (h := ?_)
  refine .n0 ?_
  refine .block ?_
  refine .loop ?_
  refine LGo.loopG (σ := Nat) (fun x => x ≤ s.gates.length ∧ ((s.gates.drop x).any fun z => decide (12 < (z.secs.length : Int))) = g) (fun x => [(3, (true, .i (x : Nat)))]) (fun x => [(0, .box 25 (s.c.map LV.sv))]) (fun x => s.gates.length - x) (0) [(1, _)] ⟨Nat.zero_le _, e1⟩ (by repeat (first | exact trivial | refine ⟨rfl, ?_⟩)) (by repeat (first | exact trivial | refine ⟨rfl, ?_⟩)) (by repeat (first | exact trivial | refine ⟨rfl, ?_⟩)) ?_
  rintro k ⟨hk, hq⟩ ih
  refine .seq ?_
  refine .seq ?_
  refine .region rfl ?_
  refine R.move (h := ?_)
  first | refine R.field F25_0 (h := ?_) | refine R.fieldAt F25_0 (h := ?_)
  first | refine R.loadB O22 (h := ?_) | refine R.load1 O22 (h := ?_)
  first | refine R.len S22 (h := ?_) | refine R.lenRs S22 (h := ?_) | refine R.lenV (run_lenNil S22) (h := ?_)
  rw [List.length_map]
  refine R.bin (run_lss _ _ _ _ _ _) (h := ?_)
  refine .n0 ?_
  refine LGo.ifd (ht := fun hc2 => ?_) (hf := fun hc2 => ?_)
  ·
   have hlt : k < s.gates.length := by omega
   have hx : (s.gates.map GtG.c)[((k : Nat) : Int).toNat]? = some s.gates[k].c := by simp [hlt]
   have hd : s.gates.drop k = s.gates[k] :: s.gates.drop (k + 1) := List.drop_eq_getElem_cons hlt
   rw [hd, List.any_cons] at hq
   have hzs := hs _ (List.getElem_mem hlt)
   generalize s.gates[k] = z at hx hq hzs
   clear hd
   refine .skip ?_
   refine .seq ?_
   refine .block ?_
   refine .seq ?_
   refine .region rfl ?_
   first | refine R.field F25_0 (h := ?_) | refine R.fieldAt F25_0 (h := ?_)
   first | refine R.loadB O22 (h := ?_) | refine R.load1 O22 (h := ?_)
   refine R.move (h := ?_)
   refine R.index I22 (hj := fun hg => ⟨by omega, hx⟩) (h := ?_)
   first | refine R.field F59_0 (h := ?_) | refine R.fieldAt F59_0 (h := ?_)
   first | refine R.loadB O57 (h := ?_) | refine R.load1 O57 (h := ?_)
   first | refine R.len S57 (h := ?_) | refine R.lenRs S57 (h := ?_) | refine R.lenV (run_lenNil S57) (h := ?_)
   rw [ic_len]
   refine R.bin (run_gtr _ _ _ _ _ _) (h := ?_)
   refine .n0 ?_
   refine LGo.ifd (ht := fun hc3 => ?_) (hf := fun hc3 => ?_)
   ·
    rw [decide_eq_true (show 12 < (z.secs.length : Int) by omega), Bool.true_or] at hq
    rw [← hq]
    refine .seq ?_
    refine .region rfl ?_
    refine R.assign (h := ?_)
    refine .n0 ?_
    exact LGo.ret (ret_T Tryd.results9 hA hmd)
   ·
    rw [decide_eq_false (show ¬ 12 < (z.secs.length : Int) by omega), Bool.false_or] at hq
    refine .skip ?_
    refine .inBlock ?_
    refine .region rfl ?_
    refine R.move (h := ?_)
    first | refine R.add (h := ?_) | refine R.addW (h := ?_)
    refine R.assign (h := ?_)
    refine .n0 ?_
    refine .inLoop ?_
    exact LGo.next _ (fun o h => by have := (hA o).1 h; omega) (by omega) (ih (k + 1) ⟨by omega, hq⟩ (by omega)) (by repeat (first | exact trivial | refine ⟨rfl, ?_⟩)) ⟨rfl, trivial⟩
  ·
   rw [List.drop_eq_nil_of_le (show s.gates.length ≤ k by omega), List.any_nil] at hq
   rw [← hq]
   refine .exit rfl ?_
   refine .seq ?_
   refine .region rfl ?_
   refine R.assign (h := ?_)
   refine .n0 ?_
   exact LGo.ret (ret_T Tryd.results9 hA hmd)

theorem example_P : PC Tryd.prog 19 [] (.agg (exS.c.map LV.sv)) := by
 refine ⟨LC.of_go Tryd.func19 (c := _) rfl (by kernel_rfl) (by rw [Tryd.ntmps19]; simp) rfl rfl (by simp [LO.lt, LV.lts, LV.lt, lts_sv]) (by simp) ?_⟩
 intro B hA hmd
 refine .seq ?_
 refine .region rfl ?_
 refine R.alloc Z25 (h := ?_)
 refine .n0 ?_
 refine .seq ?_
 refine .region rfl ?_
 refine R.buildSliceG AP57 (xs := [_, _]) (es := [_, _]) (hcs := CellsOfs.cons (CellsOf.one rfl) (CellsOfs.cons (CellsOf.one rfl) CellsOfs.nil)) (h := ?_)
 refine R.build BF59 (is := [0, 1, 2]) (xs := [_, _, _]) (es := [_, _, _]) (h := ?_)
 refine R.buildSliceG AP57 (xs := [_]) (es := [_]) (hcs := CellsOfs.cons (CellsOf.one rfl) CellsOfs.nil) (h := ?_)
 refine R.build BF59 (is := [0, 2]) (xs := [_, _]) (es := [_, _]) (h := ?_)
 refine R.buildSliceG AP22 (xs := [_, _]) (es := [_, _]) (hcs := CellsOfs.cons (CellsOf.agg rfl) (CellsOfs.cons (CellsOf.agg rfl) CellsOfs.nil)) (h := ?_)
 refine R.build BF25 (is := [0]) (xs := [_]) (es := [_]) (h := ?_)
 refine R.storeA A25 (h := ?_)
 refine .n0 ?_
 refine LGo.packNil 0 1 40 5 (h := ?_)
 refine LGo.frzBx 0 (h := ?_)
 exact LGo.ret (ret_A Tryd.results19 A25 hA hmd)

theorem call_P : PC Tryd.prog 20 [] (.agg (exC.c.map LV.sv)) := by
 refine ⟨LC.of_go Tryd.func20 (c := _) rfl (by kernel_rfl) (by rw [Tryd.ntmps20]; simp) rfl rfl (by simp [LO.lt, LV.lts, LV.lt, lts_sv]) (by simp) ?_⟩
 intro B hA hmd
 refine .seq ?_
 refine .region rfl ?_
 refine R.alloc Z31 (h := ?_)
 refine .n0 ?_
 refine .seq ?_
 refine .region rfl ?_
 refine R.build BF29 (is := [0, 2]) (xs := [_, _]) (es := [_, _]) (h := ?_)
 refine R.buildA BG31 (is := [1, 2, 3]) (ks := [1, 5, 6]) (xs := [_, _, _]) (es := [_, _, _]) (hcs := CellsOfs.cons (CellsOf.agg rfl) (CellsOfs.cons (CellsOf.one rfl) (CellsOfs.cons (CellsOf.one rfl) CellsOfs.nil))) (h := ?_)
 refine R.storeA A31 (h := ?_)
 refine .n0 ?_
 exact LGo.ret (ret_A Tryd.results20 A31 hA hmd)

end Go.Proofs.YtgcjjndhohellaaDoor
