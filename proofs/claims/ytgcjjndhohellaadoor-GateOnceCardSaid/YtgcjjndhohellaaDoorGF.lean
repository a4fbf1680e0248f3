/- gates, the reference: the checks, New. -/
import Derived.Test.YtgcjjndhohellaaDoorGE
set_option linter.unusedSimpArgs false
set_option linter.unusedVariables false
namespace Go.Proofs.YtgcjjndhohellaaDoor

def lastI (l : List Int) (k : Nat) : Int := if k = 0 then -1 else l.getD (k - 1) 0
theorem lastI_succ {l : List Int} {k : Nat} (h : k < l.length) : lastI l (k + 1) = l[k] := by unfold lastI; rw [if_neg (by omega)]; simp [h]
theorem goodG_not {z : GtG} (h : ((decide ((z.secs.length : Int) = 0) || decide (z.fr < 0)) || decide (z.fr ≥ z.to)) = true) : goodG z = false := by
  rw [goodG_fin]
  simp only [Bool.or_eq_true, decide_eq_true_eq] at h
  rcases h with (h | h) | h
  · have : z.secs = [] := List.length_eq_zero_iff.1 (by omega)
    rw [this]; rfl
  · cases goodGo z.secs (-1) with
    | none => rfl
    | some a => unfold finG; rw [decide_eq_false (show ¬ 0 ≤ z.fr by omega)]; simp
  · cases goodGo z.secs (-1) with
    | none => rfl
    | some a => unfold finG; rw [decide_eq_false (show ¬ z.fr < z.to by omega)]; simp
theorem good_ref {l : List Int} {k : Nat} {n : Int} (h : 0 < k → 0 ≤ lastI l k) : (decide (n ≤ lastI l k) || decide (8 ≤ n)) = ((decide (n < 0) || decide (n ≥ 8)) || (decide ((k : Int) > 0) && decide (n ≤ l.getD (k - 1) 0))) := by
  rw [Bool.eq_iff_iff]
  simp only [Bool.or_eq_true, Bool.and_eq_true, decide_eq_true_eq]
  unfold lastI at h ⊢
  by_cases h0 : k = 0
  · subst h0; simp; omega
  · rw [if_neg h0] at h ⊢
    have := h (by omega)
    omega
theorem ic_prev {l : List Int} {k : Nat} (h : 0 < k) (hk : k ≤ l.length) : (ic .i64 l)[((k : Int) - 1).toNat]? = some [.val (.int .i64 (l.getD (k - 1) 0))] := by
  have hlt : k - 1 < l.length := by omega
  rw [show ((k : Int) - 1).toNat = k - 1 from by omega, List.getD_eq_getElem?_getD, List.getElem?_eq_getElem hlt]
  exact ic_get (List.getElem?_eq_getElem hlt)
def ltR (a b : GtE) : Bool := if (!decide (a.seat = b.seat)) = true then decide (a.seat < b.seat) else if (!decide (a.epoch = b.epoch)) = true then decide (a.epoch < b.epoch) else decide (a.serial < b.serial)
theorem ltR_cmp (a b : GtE) : ltR a b = decide (cmpK a.key b.key < 0) := by
  rw [Bool.eq_iff_iff, decide_eq_true_eq, cmpK_lt]
  unfold ltR ltK GtE.key
  dsimp only
  split
  · rename_i h; simp only [Bool.not_eq_true', decide_eq_false_iff_not, decide_eq_true_eq] at h ⊢; omega
  · rename_i h
    split
    · rename_i h2; simp only [Bool.not_eq_true', decide_eq_false_iff_not, decide_eq_true_eq, Classical.not_not] at h h2 ⊢; omega
    · rename_i h2; simp only [Bool.not_eq_true', decide_eq_false_iff_not, decide_eq_true_eq, Classical.not_not] at h h2 ⊢; omega
theorem openR_I (g : GtG) (t : Int) : (decide (t ≥ g.fr) && decide (t < g.to)) = decide (openI g t = 0) := by
  rw [Bool.eq_iff_iff]
  simp only [Bool.and_eq_true, decide_eq_true_eq]
  unfold openI
  (repeat' split) <;> omega

theorem goodR_P (z : GtG) (hz : z.secs.length ≤ 100000) : PC Tryd.prog 65 [.agg (z.c.map LV.sv)] (.b (goodG z)) := by
 refine ⟨LC.of_go Tryd.func65 (c := _) rfl (by kernel_rfl) (by rw [Tryd.ntmps65]; simp) rfl rfl (by simp [LO.lt, LV.lts, LV.lt, lts_sv]) (by simp) ?_⟩
 intro B hA hmd
 obtain ⟨g, e0⟩ : ∃ g, goodG z = g := ⟨_, rfl⟩
 have e1 := e0
 rw [goodG_fin] at e1
 rw [e0]
 refine .seq ?_
 refine .region rfl ?_
 refine R.box (h := ?_)
 refine R.assign (h := ?_)
 refine .n0 ?_
 refine .seq ?_
 refine .seq ?_
 refine .region rfl ?_
 first | refine R.field F59_0 (h := ?_) | refine R.fieldAt F59_0 (h := ?_)
 first | refine R.loadB O57 (h := ?_) | refine R.load1 O57 (h := ?_)
 first | refine R.len S57 (h := ?_) | refine R.lenRs S57 (h := ?_) | refine R.lenV (run_lenNil S57) (h := ?_)
 rw [ic_len]
 refine R.bin (run_eql _ _ _ _ _ _) (h := ?_)
 refine R.move (h := ?_)
 first | refine R.field F59_1 (h := ?_) | refine R.fieldAt F59_1 (h := ?_)
 first | refine R.loadB O2 (h := ?_) | refine R.load1 O2 (h := ?_)
 refine R.bin (run_lss _ _ _ _ _ _) (h := ?_)
 refine R.or (h := ?_)
 refine R.move (h := ?_)
 first | refine R.field F59_1 (h := ?_) | refine R.fieldAt F59_1 (h := ?_)
 first | refine R.loadB O2 (h := ?_) | refine R.load1 O2 (h := ?_)
 first | refine R.field F59_2 (h := ?_) | refine R.fieldAt F59_2 (h := ?_)
 first | refine R.loadB O2 (h := ?_) | refine R.load1 O2 (h := ?_)
 refine R.bin (run_geq _ _ _ _ _ _) (h := ?_)
 refine R.or (h := ?_)
 refine .n0 ?_
 refine LGo.ifb (ht := fun hc => ?_) (hf := fun hc => ?_)
 ·
  rw [goodG_not hc] at e0
  rw [← e0]
  refine .seq ?_
  refine .region rfl ?_
  refine R.assign (h := ?_)
  refine .n0 ?_
  exact LGo.ret (ret_T Tryd.results65 hA hmd)
 ·
  simp only [Bool.or_eq_false_iff, decide_eq_false_iff_not] at hc
  refine .skip ?_
  refine .seq ?_
  refine .seq ?_
  refine .region rfl ?_
  refine R.assign (h := ?_)
  refine .n0 ?_
  refine .block ?_
  refine .loop ?_
  refine LGo.loopG (σ := Nat) (fun x => x ≤ z.secs.length ∧ (0 < x → 0 ≤ lastI z.secs x) ∧ finG z (goodGo (z.secs.drop x) (lastI z.secs x)) = g) (fun x => [(3, (true, .i (x : Nat)))]) (fun x => [(0, .box 59 (z.c.map LV.sv))]) (fun x => z.secs.length - x) (0) [(1, _)] ⟨Nat.zero_le _, fun h => absurd h (by omega), e1⟩ (by repeat (first | exact trivial | refine ⟨rfl, ?_⟩)) (by repeat (first | exact trivial | refine ⟨rfl, ?_⟩)) (by repeat (first | exact trivial | refine ⟨rfl, ?_⟩)) ?_
  rintro k ⟨hk, hl0, hq⟩ ih
  refine .seq ?_
  refine .seq ?_
  refine .region rfl ?_
  refine R.move (h := ?_)
  first | refine R.field F59_0 (h := ?_) | refine R.fieldAt F59_0 (h := ?_)
  first | refine R.loadB O57 (h := ?_) | refine R.load1 O57 (h := ?_)
  first | refine R.len S57 (h := ?_) | refine R.lenRs S57 (h := ?_) | refine R.lenV (run_lenNil S57) (h := ?_)
  rw [ic_len]
  refine R.bin (run_lss _ _ _ _ _ _) (h := ?_)
  refine .n0 ?_
  refine LGo.ifd (ht := fun hc2 => ?_) (hf := fun hc2 => ?_)
  ·
   have hlt : k < z.secs.length := by omega
   have hx := icA hlt
   have hls := lastI_succ hlt
   have hd : z.secs.drop k = z.secs[k] :: z.secs.drop (k + 1) := List.drop_eq_getElem_cons hlt
   rw [hd, goodGo, good_ref hl0] at hq
   generalize z.secs[k] = n at hx hq hls
   clear hd
   refine .skip ?_
   refine .seq ?_
   refine .block ?_
   refine .seq ?_
   refine .region rfl ?_
   first | refine R.field F59_0 (h := ?_) | refine R.fieldAt F59_0 (h := ?_)
   first | refine R.loadB O57 (h := ?_) | refine R.load1 O57 (h := ?_)
   refine R.move (h := ?_)
   refine R.index I57 (hj := fun hg => ⟨by omega, hx⟩) (h := ?_)
   first | refine R.loadB O3 (h := ?_) | refine R.load1 O3 (h := ?_)
   refine R.assign (h := ?_)
   refine .n0 ?_
   refine .seq ?_
   refine .region rfl ?_
   refine R.move (h := ?_)
   refine R.bin (run_lss _ _ _ _ _ _) (h := ?_)
   refine R.move (h := ?_)
   refine R.move (h := ?_)
   refine R.bin (run_geq _ _ _ _ _ _) (h := ?_)
   refine R.or (h := ?_)
   refine R.move (h := ?_)
   refine R.move (h := ?_)
   refine R.bin (run_gtr _ _ _ _ _ _) (h := ?_)
   refine R.move (h := ?_)
   refine R.move (h := ?_)
   first | refine R.field F59_0 (h := ?_) | refine R.fieldAt F59_0 (h := ?_)
   first | refine R.loadB O57 (h := ?_) | refine R.load1 O57 (h := ?_)
   refine R.move (h := ?_)
   first | refine R.sub (h := ?_) | refine R.subW (h := ?_)
   refine R.index I57 (hj := fun hg => ⟨by (simp at hg; omega), (by simp at hg; exact ic_prev (by omega) (by omega))⟩) (h := ?_)
   first | refine R.loadB O3 (h := ?_) | refine R.load1 O3 (h := ?_)
   refine R.bin (run_leq _ _ _ _ _ _) (h := ?_)
   refine R.and (hgy := fun hg h => by rw [h, hg]; rfl) (h := ?_)
   refine R.or (h := ?_)
   refine .n0 ?_
   refine LGo.ifb (ht := fun hc3 => ?_) (hf := fun hc3 => ?_)
   ·
    rw [hc3, if_pos rfl] at hq
    rw [← hq]
    rw [show finG z none = false from rfl]
    refine .seq ?_
    refine .region rfl ?_
    refine R.assign (h := ?_)
    refine .n0 ?_
    exact LGo.ret (ret_T Tryd.results65 hA hmd)
   ·
    rw [hc3, if_neg (by simp), ← hls] at hq
    simp only [Bool.or_eq_false_iff, decide_eq_false_iff_not] at hc3
    refine .skip ?_
    refine .inBlock ?_
    refine .region rfl ?_
    refine R.move (h := ?_)
    first | refine R.add (h := ?_) | refine R.addW (h := ?_)
    refine R.assign (h := ?_)
    refine .n0 ?_
    refine .inLoop ?_
    exact LGo.next _ (fun o h => by have := (hA o).1 h; omega) (by omega) (ih (k + 1) ⟨by omega, fun _ => by omega, hq⟩ (by omega)) (by repeat (first | exact trivial | refine ⟨rfl, ?_⟩)) ⟨rfl, trivial⟩
  ·
   rw [List.drop_eq_nil_of_le (show z.secs.length ≤ k by omega), goodGo] at hq
   have hl1 := hl0 (by omega)
   rw [finG, decide_eq_true hl1, decide_eq_true (show 0 ≤ z.fr by omega), decide_eq_true (show z.fr < z.to by omega)] at hq
   rw [← hq]
   rw [show ((true && true) && true) = true from rfl]
   refine .exit rfl ?_
   refine .seq ?_
   refine .region rfl ?_
   refine R.assign (h := ?_)
   refine .n0 ?_
   exact LGo.ret (ret_T Tryd.results65 hA hmd)

theorem gatesR_P (l : List GtG) (hl : l.length ≤ 100000) (hs : ∀ g ∈ l, g.secs.length ≤ 100000) : PC Tryd.prog 42 [.sv (.sl 3 (l.map GtG.c))] (.i (checkG l)) := by
 refine ⟨LC.of_go Tryd.func42 (c := _) rfl (by kernel_rfl) (by rw [Tryd.ntmps42]; simp) rfl rfl (by simp [LO.lt, LV.lts, LV.lt, lts_sv]) (by simp) ?_⟩
 intro B hA hmd
 obtain ⟨g, e0⟩ : ∃ g, checkG l = g := ⟨_, rfl⟩
 have e1 := e0
 unfold checkG at e1
 rw [e0]
 refine .seq ?_
 refine .region rfl ?_
 refine R.assign (h := ?_)
 refine .n0 ?_
 refine .seq ?_
 refine .seq ?_
 refine .region rfl ?_
 refine R.move (h := ?_)
 first | refine R.len S22 (h := ?_) | refine R.lenRs S22 (h := ?_) | refine R.lenV (run_lenNil S22) (h := ?_)
 rw [List.length_map]
 refine R.bin (run_gtr _ _ _ _ _ _) (h := ?_)
 refine .n0 ?_
 refine LGo.ifd (ht := fun hc => ?_) (hf := fun hc => ?_)
 ·
  rw [if_pos (by omega)] at e1
  rw [← e1]
  refine .seq ?_
  refine .region rfl ?_
  refine R.assign (h := ?_)
  refine .n0 ?_
  exact LGo.ret (ret_T Tryd.results42 hA hmd)
 ·
  rw [if_neg (by omega)] at e1
  refine .skip ?_
  refine .seq ?_
  refine .seq ?_
  refine .region rfl ?_
  refine R.move (h := ?_)
  first | refine R.len S22 (h := ?_) | refine R.lenRs S22 (h := ?_) | refine R.lenV (run_lenNil S22) (h := ?_)
  rw [List.length_map]
  refine R.bin (run_eql _ _ _ _ _ _) (h := ?_)
  refine .n0 ?_
  refine LGo.ifd (ht := fun hc2 => ?_) (hf := fun hc2 => ?_)
  ·
   rw [decide_eq_true hc2, Bool.true_or, if_pos rfl] at e1
   rw [← e1]
   refine .seq ?_
   refine .region rfl ?_
   refine R.assign (h := ?_)
   refine .n0 ?_
   exact LGo.ret (ret_T Tryd.results42 hA hmd)
  ·
   rw [decide_eq_false hc2, Bool.false_or] at e1
   refine .skip ?_
   refine .seq ?_
   refine .seq ?_
   refine .region rfl ?_
   refine R.assign (h := ?_)
   refine .n0 ?_
   refine .block ?_
   refine .loop ?_
   refine LGo.loopG (σ := Nat) (fun x => x ≤ l.length ∧ (if ((l.drop x).any fun g => !goodG g) = true then (6 : Int) else 0) = g) (fun x => [(3, (true, .i (x : Nat)))]) (fun x => []) (fun x => l.length - x) (0) [(0, _)] ⟨Nat.zero_le _, e1⟩ (by repeat (first | exact trivial | refine ⟨rfl, ?_⟩)) (by repeat (first | exact trivial | refine ⟨rfl, ?_⟩)) (by repeat (first | exact trivial | refine ⟨rfl, ?_⟩)) ?_
   rintro k ⟨hk, hq⟩ ih
   refine .seq ?_
   refine .seq ?_
   refine .region rfl ?_
   refine R.move (h := ?_)
   refine R.move (h := ?_)
   first | refine R.len S22 (h := ?_) | refine R.lenRs S22 (h := ?_) | refine R.lenV (run_lenNil S22) (h := ?_)
   rw [List.length_map]
   refine R.bin (run_lss _ _ _ _ _ _) (h := ?_)
   refine .n0 ?_
   refine LGo.ifd (ht := fun hc3 => ?_) (hf := fun hc3 => ?_)
   ·
    have hlt : k < l.length := by omega
    have hx : (l.map GtG.c)[((k : Nat) : Int).toNat]? = some l[k].c := by simp [hlt]
    have hd : l.drop k = l[k] :: l.drop (k + 1) := List.drop_eq_getElem_cons hlt
    rw [hd, List.any_cons] at hq
    have hx0 := hs l[k] (List.getElem_mem hlt)
    generalize l[k] = x at hx hq hx0
    clear hd
    refine .skip ?_
    refine .seq ?_
    refine .block ?_
    refine .seq ?_
    refine .region rfl ?_
    refine R.move (h := ?_)
    refine R.move (h := ?_)
    refine R.index I22 (hj := fun hg => ⟨by omega, hx⟩) (h := ?_)
    first | refine R.loadA A59 (h := ?_) | refine R.loadN A59 (h := ?_) | refine R.loadP A59 (h := ?_)
    refine R.callP (es := [_]) (fun _ => goodR_P x hx0) (h := ?_)
    refine R.not (h := ?_)
    refine .n0 ?_
    refine LGo.ifb (ht := fun hc4 => ?_) (hf := fun hc4 => ?_)
    ·
     rw [hc4, Bool.true_or, if_pos rfl] at hq
     rw [← hq]
     refine .seq ?_
     refine .region rfl ?_
     refine R.assign (h := ?_)
     refine .n0 ?_
     exact LGo.ret (ret_T Tryd.results42 hA hmd)
    ·
     rw [hc4, Bool.false_or] at hq
     refine .skip ?_
     refine .inBlock ?_
     refine .region rfl ?_
     refine R.move (h := ?_)
     first | refine R.add (h := ?_) | refine R.addW (h := ?_)
     refine R.assign (h := ?_)
     refine .n0 ?_
     refine .inLoop ?_
     exact LGo.next _ (fun o h => by have := (hA o).1 h; omega) (by omega) (ih (k + 1) ⟨by omega, hq⟩ (by omega)) (by repeat (first | exact trivial | refine ⟨rfl, ?_⟩)) (by repeat (first | exact trivial | refine ⟨rfl, ?_⟩))
   ·
    rw [List.drop_eq_nil_of_le (show l.length ≤ k by omega), List.any_nil] at hq
    rw [← hq]
    refine .exit rfl ?_
    refine .seq ?_
    refine .region rfl ?_
    refine R.assign (h := ?_)
    refine .n0 ?_
    exact LGo.ret (ret_T Tryd.results42 hA hmd)

theorem ltR_P (a b : GtE) : PC Tryd.prog 35 [.agg (a.c.map LV.sv), .agg (b.c.map LV.sv)] (.b (ltR a b)) := by
 refine ⟨LC.of_go Tryd.func35 (c := _) rfl (by kernel_rfl) (by rw [Tryd.ntmps35]; simp) rfl rfl (by simp [LO.lt, LV.lts, LV.lt, lts_sv]) (by simp) ?_⟩
 intro B hA hmd
 obtain ⟨g, e0⟩ : ∃ g, ltR a b = g := ⟨_, rfl⟩
 have e1 := e0
 unfold ltR at e1
 rw [e0]
 refine .seq ?_
 refine .region rfl ?_
 refine R.box (h := ?_)
 refine R.box (h := ?_)
 refine R.assign (h := ?_)
 refine .n0 ?_
 refine .seq ?_
 refine .seq ?_
 refine .region rfl ?_
 first | refine R.field F40_0 (h := ?_) | refine R.fieldAt F40_0 (h := ?_)
 first | refine R.loadB O26 (h := ?_) | refine R.load1 O26 (h := ?_)
 first | refine R.field F40_0 (h := ?_) | refine R.fieldAt F40_0 (h := ?_)
 first | refine R.loadB O26 (h := ?_) | refine R.load1 O26 (h := ?_)
 refine R.bin (run_neq _ _ _ _ _ _) (h := ?_)
 refine .n0 ?_
 refine LGo.ifb (ht := fun hc => ?_) (hf := fun hc => ?_)
 ·
  rw [if_pos hc] at e1
  refine .seq ?_
  refine .region rfl ?_
  first | refine R.field F40_0 (h := ?_) | refine R.fieldAt F40_0 (h := ?_)
  first | refine R.loadB O26 (h := ?_) | refine R.load1 O26 (h := ?_)
  first | refine R.field F40_0 (h := ?_) | refine R.fieldAt F40_0 (h := ?_)
  first | refine R.loadB O26 (h := ?_) | refine R.load1 O26 (h := ?_)
  refine R.bin (run_lss _ _ _ _ _ _) (h := ?_)
  refine R.assign (h := ?_)
  refine .n0 ?_
  rw [← e1]
  exact LGo.ret (ret_T Tryd.results35 hA hmd)
 ·
  rw [if_neg (by rw [hc]; simp)] at e1
  refine .skip ?_
  refine .seq ?_
  refine .seq ?_
  refine .region rfl ?_
  first | refine R.field F40_2 (h := ?_) | refine R.fieldAt F40_2 (h := ?_)
  first | refine R.loadB O27 (h := ?_) | refine R.load1 O27 (h := ?_)
  first | refine R.field F40_2 (h := ?_) | refine R.fieldAt F40_2 (h := ?_)
  first | refine R.loadB O27 (h := ?_) | refine R.load1 O27 (h := ?_)
  refine R.bin (run_neq _ _ _ _ _ _) (h := ?_)
  refine .n0 ?_
  refine LGo.ifb (ht := fun hc2 => ?_) (hf := fun hc2 => ?_)
  ·
   rw [if_pos hc2] at e1
   refine .seq ?_
   refine .region rfl ?_
   first | refine R.field F40_2 (h := ?_) | refine R.fieldAt F40_2 (h := ?_)
   first | refine R.loadB O27 (h := ?_) | refine R.load1 O27 (h := ?_)
   first | refine R.field F40_2 (h := ?_) | refine R.fieldAt F40_2 (h := ?_)
   first | refine R.loadB O27 (h := ?_) | refine R.load1 O27 (h := ?_)
   refine R.bin (run_lss _ _ _ _ _ _) (h := ?_)
   refine R.assign (h := ?_)
   refine .n0 ?_
   rw [← e1]
   exact LGo.ret (ret_T Tryd.results35 hA hmd)
  ·
   rw [if_neg (by rw [hc2]; simp)] at e1
   refine .skip ?_
   refine .seq ?_
   refine .region rfl ?_
   first | refine R.field F40_1 (h := ?_) | refine R.fieldAt F40_1 (h := ?_)
   first | refine R.loadB O27 (h := ?_) | refine R.load1 O27 (h := ?_)
   first | refine R.field F40_1 (h := ?_) | refine R.fieldAt F40_1 (h := ?_)
   first | refine R.loadB O27 (h := ?_) | refine R.load1 O27 (h := ?_)
   refine R.bin (run_lss _ _ _ _ _ _) (h := ?_)
   refine R.assign (h := ?_)
   refine .n0 ?_
   rw [← e1]
   exact LGo.ret (ret_T Tryd.results35 hA hmd)

theorem openR_P (x : GtG) (t : Int) : PC Tryd.prog 44 [.agg (x.c.map LV.sv), .i t] (.b (decide (openI x t = 0))) := by
 refine ⟨LC.of_go Tryd.func44 (c := _) rfl (by kernel_rfl) (by rw [Tryd.ntmps44]; simp) rfl rfl (by simp [LO.lt, LV.lts, LV.lt, lts_sv]) (by simp) ?_⟩
 intro B hA hmd
 rw [← openR_I]
 refine .seq ?_
 refine .region rfl ?_
 refine R.box (h := ?_)
 refine R.assign (h := ?_)
 refine .n0 ?_
 refine .seq ?_
 refine .region rfl ?_
 refine R.move (h := ?_)
 first | refine R.field F59_1 (h := ?_) | refine R.fieldAt F59_1 (h := ?_)
 first | refine R.loadB O2 (h := ?_) | refine R.load1 O2 (h := ?_)
 refine R.bin (run_geq _ _ _ _ _ _) (h := ?_)
 refine R.move (h := ?_)
 refine R.move (h := ?_)
 first | refine R.field F59_2 (h := ?_) | refine R.fieldAt F59_2 (h := ?_)
 first | refine R.loadB O2 (h := ?_) | refine R.load1 O2 (h := ?_)
 refine R.bin (run_lss _ _ _ _ _ _) (h := ?_)
 refine R.and (h := ?_)
 refine R.assign (h := ?_)
 refine .n0 ?_
 exact LGo.ret (ret_T Tryd.results44 hA hmd)

theorem bad_prevR (gs : List GtG) (l : List GtE) (k : Nat) (x : GtE) : badE gs (prevE l k) x = (((decide (x.gate < 0) || decide (x.gate ≥ gs.length)) || !decide (openI (gs.getD x.gate.toNat default) x.time = 0)) || (decide ((k : Int) > 0) && !ltR (l.getD (k - 1) default) x)) := by
  rw [bad_prev, ltR_cmp]
  congr 2
  rw [Bool.eq_iff_iff]
  simp only [decide_eq_true_eq, Bool.not_eq_true', decide_eq_false_iff_not]
  omega

theorem checkGR_P (s : GtS) (hs : SmS s) : PC Tryd.prog 24 [.agg (s.c.map LV.sv)] (.i (checkGS s)) := by
 refine ⟨LC.of_go Tryd.func24 (c := _) rfl (by kernel_rfl) (by rw [Tryd.ntmps24]; simp) rfl rfl (by simp [LO.lt, LV.lts, LV.lt, lts_sv]) (by simp) ?_⟩
 intro B hA hmd
 obtain ⟨⟨hg1, hg2⟩, he1, he2⟩ := hs
 obtain ⟨g, e0⟩ : ∃ g, checkGS s = g := ⟨_, rfl⟩
 have e1 := e0
 unfold checkGS at e1
 rw [e0]
 refine .seq ?_
 refine .region rfl ?_
 refine R.box (h := ?_)
 refine R.assign (h := ?_)
 refine .n0 ?_
 refine .seq ?_
 refine .region rfl ?_
 first | refine R.field F25_0 (h := ?_) | refine R.fieldAt F25_0 (h := ?_)
 first | refine R.loadB O22 (h := ?_) | refine R.load1 O22 (h := ?_)
 refine R.callP (es := [_]) (fun _ => gatesR_P s.gates hg1 hg2) (h := ?_)
 refine R.assign (h := ?_)
 refine .n0 ?_
 refine .seq ?_
 refine .seq ?_
 refine .region rfl ?_
 refine R.move (h := ?_)
 refine R.bin (run_eql _ _ _ _ _ _) (h := ?_)
 refine R.move (h := ?_)
 first | refine R.field F25_1 (h := ?_) | refine R.fieldAt F25_1 (h := ?_)
 first | refine R.loadB O23 (h := ?_) | refine R.load1 O23 (h := ?_)
 first | refine R.len S23 (h := ?_) | refine R.lenRs S23 (h := ?_) | refine R.lenV (run_lenNil S23) (h := ?_)
 rw [List.length_map]
 refine R.bin (run_gtr _ _ _ _ _ _) (h := ?_)
 refine R.and (h := ?_)
 refine .n0 ?_
 refine LGo.ifb (ht := fun hc => ?_) (hf := fun hc => ?_)
 ·
  simp only [Bool.and_eq_true, decide_eq_true_eq] at hc
  rw [if_neg (by simp [hc.1]), if_pos (by omega)] at e1
  rw [← e1]
  refine .region rfl ?_
  refine R.assign (h := ?_)
  refine .n0 ?_
  refine .seq ?_
  refine .seq ?_
  refine .region rfl ?_
  refine R.move (h := ?_)
  refine R.bin (run_neq _ _ _ _ _ _) (h := ?_)
  refine .n0 ?_
  refine LGo.ifb (ht := fun hc2 => ?_) (hf := fun hc2 => by simp at hc2)
  refine .seq ?_
  refine .region rfl ?_
  refine R.move (h := ?_)
  refine R.assign (h := ?_)
  refine .n0 ?_
  exact LGo.ret (ret_T Tryd.results24 hA hmd)
 ·
  refine .skip ?_
  refine .seq ?_
  refine .seq ?_
  refine .region rfl ?_
  refine R.move (h := ?_)
  refine R.bin (run_neq _ _ _ _ _ _) (h := ?_)
  refine .n0 ?_
  refine LGo.ifb (ht := fun hc3 => ?_) (hf := fun hc3 => ?_)
  ·
   rw [if_pos (by simpa using hc3)] at e1
   rw [← e1]
   refine .seq ?_
   refine .region rfl ?_
   refine R.move (h := ?_)
   refine R.assign (h := ?_)
   refine .n0 ?_
   exact LGo.ret (ret_T Tryd.results24 hA hmd)
  ·
   have hc0 : checkG s.gates = 0 := by simpa using hc3
   rw [if_neg (by simp [hc0]), if_neg (by rw [hc0] at hc; simp at hc; omega)] at e1
   refine .skip ?_
   refine .seq ?_
   refine .seq ?_
   refine .region rfl ?_
   refine R.assign (h := ?_)
   refine .n0 ?_
   refine .block ?_
   refine .loop ?_
   refine LGo.loopG (σ := Nat) (fun x => x ≤ s.ents.length ∧ (if badGo s.gates (prevE s.ents x) (s.ents.drop x) = true then (6 : Int) else 0) = g) (fun x => [(4, (true, .i (x : Nat)))]) (fun x => [(0, .box 25 (s.c.map LV.sv))]) (fun x => s.ents.length - x) (0) [(1, _)] ⟨Nat.zero_le _, e1⟩ (by repeat (first | exact trivial | refine ⟨rfl, ?_⟩)) (by repeat (first | exact trivial | refine ⟨rfl, ?_⟩)) (by repeat (first | exact trivial | refine ⟨rfl, ?_⟩)) ?_
   rintro k ⟨hk, hq⟩ ih
   refine .seq ?_
   refine .seq ?_
   refine .region rfl ?_
   refine R.move (h := ?_)
   first | refine R.field F25_1 (h := ?_) | refine R.fieldAt F25_1 (h := ?_)
   first | refine R.loadB O23 (h := ?_) | refine R.load1 O23 (h := ?_)
   first | refine R.len S23 (h := ?_) | refine R.lenRs S23 (h := ?_) | refine R.lenV (run_lenNil S23) (h := ?_)
   rw [List.length_map]
   refine R.bin (run_lss _ _ _ _ _ _) (h := ?_)
   refine .n0 ?_
   refine LGo.ifd (ht := fun hc4 => ?_) (hf := fun hc4 => ?_)
   ·
    have hlt : k < s.ents.length := by omega
    have hx : (s.ents.map GtE.c)[((k : Nat) : Int).toNat]? = some s.ents[k].c := by simp [hlt]
    have hd : s.ents.drop k = s.ents[k] :: s.ents.drop (k + 1) := List.drop_eq_getElem_cons hlt
    have hxs := he2 s.ents[k] (List.getElem_mem hlt)
    have hpv := prevE_succ hlt
    rw [hd, badGo, bad_prevR] at hq
    generalize s.ents[k] = x at hx hq hxs hpv
    clear hd
    refine .skip ?_
    refine .seq ?_
    refine .block ?_
    refine .seq ?_
    refine .region rfl ?_
    first | refine R.field F25_1 (h := ?_) | refine R.fieldAt F25_1 (h := ?_)
    first | refine R.loadB O23 (h := ?_) | refine R.load1 O23 (h := ?_)
    refine R.move (h := ?_)
    refine R.index I23 (hj := fun hg => ⟨by omega, hx⟩) (h := ?_)
    first | refine R.loadA A40 (h := ?_) | refine R.loadN A40 (h := ?_) | refine R.loadP A40 (h := ?_)
    refine R.alloc Z40 (h := ?_)
    refine R.storeA A40 (h := ?_)
    refine .n0 ?_
    refine .seq ?_
    refine .region rfl ?_
    first | refine R.field F40_3 (h := ?_) | refine R.fieldAt F40_3 (h := ?_)
    first | refine R.loadB O3 (h := ?_) | refine R.load1 O3 (h := ?_)
    refine R.bin (run_lss _ _ _ _ _ _) (h := ?_)
    refine R.move (h := ?_)
    first | refine R.field F40_3 (h := ?_) | refine R.fieldAt F40_3 (h := ?_)
    first | refine R.loadB O3 (h := ?_) | refine R.load1 O3 (h := ?_)
    first | refine R.field F25_0 (h := ?_) | refine R.fieldAt F25_0 (h := ?_)
    first | refine R.loadB O22 (h := ?_) | refine R.load1 O22 (h := ?_)
    first | refine R.len S22 (h := ?_) | refine R.lenRs S22 (h := ?_) | refine R.lenV (run_lenNil S22) (h := ?_)
    rw [List.length_map]
    refine R.bin (run_geq _ _ _ _ _ _) (h := ?_)
    refine R.or (h := ?_)
    refine R.move (h := ?_)
    first | refine R.field F25_0 (h := ?_) | refine R.fieldAt F25_0 (h := ?_)
    first | refine R.loadB O22 (h := ?_) | refine R.load1 O22 (h := ?_)
    first | refine R.field F40_3 (h := ?_) | refine R.fieldAt F40_3 (h := ?_)
    first | refine R.loadB O3 (h := ?_) | refine R.load1 O3 (h := ?_)
    refine R.index I22 (hj := fun hg => ⟨by (simp at hg; omega), (by simp at hg; exact gt_at (by omega) (by omega))⟩) (h := ?_)
    first | refine R.loadA A59 (h := ?_) | refine R.loadN A59 (h := ?_) | refine R.loadP A59 (h := ?_)
    first | refine R.field F40_4 (h := ?_) | refine R.fieldAt F40_4 (h := ?_)
    first | refine R.loadB O2 (h := ?_) | refine R.load1 O2 (h := ?_)
    refine R.callP (es := [_, _]) (fun _ => openR_P (s.gates.getD x.gate.toNat default) x.time) (h := ?_)
    refine R.not (h := ?_)
    refine R.or (h := ?_)
    refine R.move (h := ?_)
    refine R.move (h := ?_)
    refine R.bin (run_gtr _ _ _ _ _ _) (h := ?_)
    refine R.move (h := ?_)
    first | refine R.field F25_1 (h := ?_) | refine R.fieldAt F25_1 (h := ?_)
    first | refine R.loadB O23 (h := ?_) | refine R.load1 O23 (h := ?_)
    refine R.move (h := ?_)
    first | refine R.sub (h := ?_) | refine R.subW (h := ?_)
    refine R.index I23 (hj := fun hg => ⟨by (simp at hg; omega), (by simp at hg; exact en_at (by omega) (by omega))⟩) (h := ?_)
    first | refine R.loadA A40 (h := ?_) | refine R.loadN A40 (h := ?_) | refine R.loadP A40 (h := ?_)
    first | refine R.loadA A40 (h := ?_) | refine R.loadN A40 (h := ?_) | refine R.loadP A40 (h := ?_)
    refine R.callP (es := [_, _]) (fun _ => ltR_P (s.ents.getD (k - 1) default) x) (h := ?_)
    refine R.not (h := ?_)
    refine R.and (hgy := fun hg h => by rw [h, hg]; rfl) (h := ?_)
    refine R.or (h := ?_)
    refine Reg.nil ⟨fun _ => ⟨mixedO, by rfl, by rfl⟩, ?_⟩
    refine LGo.ifb (ht := fun hc5 => ?_) (hf := fun hc5 => ?_)
    ·
     rw [hc5, Bool.true_or, if_pos rfl] at hq
     rw [← hq]
     refine .seq ?_
     refine .region rfl ?_
     refine R.assign (h := ?_)
     refine .n0 ?_
     exact LGo.ret (ret_T Tryd.results24 hA hmd)
    ·
     rw [hc5, Bool.false_or, ← hpv] at hq
     refine .skip ?_
     refine .inBlock ?_
     refine .region rfl ?_
     refine R.move (h := ?_)
     first | refine R.add (h := ?_) | refine R.addW (h := ?_)
     refine R.assign (h := ?_)
     refine .n0 ?_
     refine .inLoop ?_
     exact LGo.next _ (fun o h => by have := (hA o).1 h; omega) (by omega) (ih (k + 1) ⟨by omega, hq⟩ (by omega)) (by repeat (first | exact trivial | refine ⟨rfl, ?_⟩)) ⟨rfl, trivial⟩
   ·
    rw [List.drop_eq_nil_of_le (show s.ents.length ≤ k by omega), badGo] at hq
    rw [← hq]
    refine .exit rfl ?_
    refine .seq ?_
    refine .region rfl ?_
    refine R.assign (h := ?_)
    refine .n0 ?_
    exact LGo.ret (ret_T Tryd.results24 hA hmd)

end Go.Proofs.YtgcjjndhohellaaDoor
