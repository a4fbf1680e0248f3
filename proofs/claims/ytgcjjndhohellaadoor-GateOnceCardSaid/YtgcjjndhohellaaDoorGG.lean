/- gates, the reference: what is in a list, Find, Count, Copy, New; equal states, equal errors. -/
import Derived.Test.YtgcjjndhohellaaDoorGF
set_option linter.unusedSimpArgs false
set_option linter.unusedVariables false
namespace Go.Proofs.YtgcjjndhohellaaDoor

theorem contains_cons' (x n : Int) (l : List Int) : (x :: l).contains n = (decide (x = n) || l.contains n) := by
  rw [List.contains_cons]
  congr 1
  rw [Bool.eq_iff_iff, beq_iff_eq, decide_eq_true_eq, eq_comm]
theorem key3 (x : GtE) (a b e : Int) : ((decide (x.seat = a) && decide (x.serial = b)) && decide (x.epoch = e)) = decide (x.key = (a, e, b)) := by
  rw [Bool.eq_iff_iff]
  simp only [Bool.and_eq_true, decide_eq_true_eq, GtE.key, Prod.mk.injEq]
  constructor
  · rintro ⟨⟨h1, h2⟩, h3⟩; exact ⟨h1, h3, h2⟩
  · rintro ⟨h1, h3, h2⟩; exact ⟨⟨h1, h2⟩, h3⟩
theorem idxP_find {α : Type} (p : α → Bool) : ∀ (xs : List α) (k : Nat), (idxP p k xs = -1 ∧ xs.find? p = none) ∨ ∃ (j : Nat) (hj : j < xs.length), idxP p k xs = (k + j : Int) ∧ xs.find? p = some xs[j]
  | [], k => .inl ⟨rfl, rfl⟩
  | x :: xs, k => by
    by_cases h : p x = true
    · exact .inr ⟨0, by simp, by simp [idxP, h], by simp [h]⟩
    · rcases idxP_find p xs (k + 1) with ⟨h1, h2⟩ | ⟨j, hj, h1, h2⟩
      · exact .inl ⟨by simp [idxP, h, h1], by simp [h, h2]⟩
      · refine .inr ⟨j + 1, by simpa using hj, ?_, by simp [h, h2]⟩
        simp only [idxP, if_neg h, h1]; push_cast; omega
def tkC (a o b e : Int) : List LV := [.v (.int .u32 a), .v (.int .u32 o), .v (.int .u64 b), .v (.int .u64 e)]

theorem inR_P (l : List Int) (n : Int) (hl : l.length ≤ 100000) : PC Tryd.prog 33 [.sv (.sl 1 (ic .i64 l)), .i n] (.b (l.contains n)) := by
 refine ⟨LC.of_go Tryd.func33 (c := _) rfl (by kernel_rfl) (by rw [Tryd.ntmps33]; simp) rfl rfl (by simp [LO.lt, LV.lts, LV.lt, lts_sv]) (by simp) ?_⟩
 intro B hA hmd
 obtain ⟨g, e1⟩ : ∃ g, l.contains n = g := ⟨_, rfl⟩
 rw [e1]
 refine .seq ?_
 refine .region rfl ?_
 refine R.assign (h := ?_)
 refine .n0 ?_
 refine .seq ?_
 refine .seq ?_
 refine .region rfl ?_
 refine R.assign (h := ?_)
 refine .n0 ?_
 refine .block ?_
 refine .loop ?_
 refine LGo.loopG (σ := Nat) (fun x => x ≤ l.length ∧ (l.drop x).contains n = g) (fun x => [(5, (true, .i (x : Nat)))]) (fun x => []) (fun x => l.length - x) (0) [(0, _), (1, _)] ⟨Nat.zero_le _, e1⟩ (by repeat (first | exact trivial | refine ⟨rfl, ?_⟩)) (by repeat (first | exact trivial | refine ⟨rfl, ?_⟩)) (by repeat (first | exact trivial | refine ⟨rfl, ?_⟩)) ?_
 rintro k ⟨hk, hq⟩ ih
 refine .seq ?_
 refine .seq ?_
 refine .region rfl ?_
 refine R.move (h := ?_)
 refine R.move (h := ?_)
 first | refine R.len S57 (h := ?_) | refine R.lenRs S57 (h := ?_) | refine R.lenV (run_lenNil S57) (h := ?_)
 rw [ic_len]
 refine R.bin (run_lss _ _ _ _ _ _) (h := ?_)
 refine .n0 ?_
 refine LGo.ifd (ht := fun hc => ?_) (hf := fun hc => ?_)
 ·
  have hlt : k < l.length := by omega
  have hx := icA hlt
  have hd : l.drop k = l[k] :: l.drop (k + 1) := List.drop_eq_getElem_cons hlt
  rw [hd, contains_cons'] at hq
  generalize l[k] = z at hx hq
  clear hd
  refine .skip ?_
  refine .seq ?_
  refine .block ?_
  refine .seq ?_
  refine .region rfl ?_
  refine R.move (h := ?_)
  refine R.move (h := ?_)
  refine R.index I57 (hj := fun hg => ⟨by omega, hx⟩) (h := ?_)
  first | refine R.loadB O3 (h := ?_) | refine R.load1 O3 (h := ?_)
  refine R.move (h := ?_)
  refine R.bin (run_eql _ _ _ _ _ _) (h := ?_)
  refine .n0 ?_
  refine LGo.ifd (ht := fun hc2 => ?_) (hf := fun hc2 => ?_)
  ·
   rw [decide_eq_true hc2, Bool.true_or] at hq
   rw [← hq]
   refine .seq ?_
   refine .region rfl ?_
   refine R.assign (h := ?_)
   refine .n0 ?_
   exact LGo.ret (ret_T Tryd.results33 hA hmd)
  ·
   rw [decide_eq_false hc2, Bool.false_or] at hq
   refine .skip ?_
   refine .inBlock ?_
   refine .region rfl ?_
   refine R.move (h := ?_)
   first | refine R.add (h := ?_) | refine R.addW (h := ?_)
   refine R.assign (h := ?_)
   refine .n0 ?_
   refine .inLoop ?_
   exact LGo.next _ (fun o h => by have := (hA o).1 h; omega) (by omega) (ih (k + 1) ⟨by omega, hq⟩ (by omega)) (by repeat (first | exact trivial | refine ⟨rfl, ?_⟩)) (by repeat (first | exact trivial | refine ⟨rfl, ?_⟩))
 ·
  rw [List.drop_eq_nil_of_le (show l.length ≤ k by omega), List.contains_nil] at hq
  rw [← hq]
  refine .exit rfl ?_
  refine .seq ?_
  refine .region rfl ?_
  refine R.assign (h := ?_)
  refine .n0 ?_
  exact LGo.ret (ret_T Tryd.results33 hA hmd)

theorem atR_P (s : GtS) (hs : SmS s) (a o b e : Int) : PC Tryd.prog 34 [.agg (s.c.map LV.sv), .agg (tkC a o b e)] (.i (idxP (fun x : GtE => decide (x.key = (a, e, b))) 0 s.ents)) := by
 refine ⟨LC.of_go Tryd.func34 (c := _) rfl (by kernel_rfl) (by rw [Tryd.ntmps34]; simp) rfl rfl (by simp [LO.lt, LV.lts, LV.lt, lts_sv]) (by simp) ?_⟩
 intro B hA hmd
 obtain ⟨⟨hg1, hg2⟩, he1, he2⟩ := hs
 obtain ⟨g, e1⟩ : ∃ g, idxP (fun x : GtE => decide (x.key = (a, e, b))) 0 s.ents = g := ⟨_, rfl⟩
 rw [e1]
 refine .seq ?_
 refine .region rfl ?_
 refine R.box (h := ?_)
 refine R.box (h := ?_)
 refine R.assign (h := ?_)
 refine .n0 ?_
 refine .seq ?_
 refine .seq ?_
 refine .region rfl ?_
 refine R.assign (h := ?_)
 refine .n0 ?_
 refine .block ?_
 refine .loop ?_
 refine LGo.loopG (σ := Nat) (fun x => x ≤ s.ents.length ∧ idxP (fun z : GtE => decide (z.key = (a, e, b))) x (s.ents.drop x) = g) (fun x => [(5, (true, .i (x : Nat)))]) (fun x => [(0, .box 25 (s.c.map LV.sv)), (1, .box 29 (tkC a o b e))]) (fun x => s.ents.length - x) (0) [(2, _), (3, _)] ⟨Nat.zero_le _, e1⟩ (by repeat (first | exact trivial | refine ⟨rfl, ?_⟩)) (by repeat (first | exact trivial | refine ⟨rfl, ?_⟩)) (by repeat (first | exact trivial | refine ⟨rfl, ?_⟩)) ?_
 rintro k ⟨hk, hq⟩ ih
 refine .seq ?_
 refine .seq ?_
 refine .region rfl ?_
 refine R.move (h := ?_)
 first | refine R.field F25_1 (h := ?_) | refine R.fieldAt F25_1 (h := ?_)
 first | refine R.loadB O23 (h := ?_) | refine R.load1 O23 (h := ?_)
 first | refine R.len S23 (h := ?_) | refine R.lenRs S23 (h := ?_) | refine R.lenV (run_lenNil S23) (h := ?_)
 rw [List.length_map]
 refine R.bin (run_lss _ _ _ _ _ _) (h := ?_)
 refine .n0 ?_
 refine LGo.ifd (ht := fun hc => ?_) (hf := fun hc => ?_)
 ·
  have hlt : k < s.ents.length := by omega
  have hx : (s.ents.map GtE.c)[((k : Nat) : Int).toNat]? = some s.ents[k].c := by simp [hlt]
  have hd : s.ents.drop k = s.ents[k] :: s.ents.drop (k + 1) := List.drop_eq_getElem_cons hlt
  rw [hd, idxP] at hq
  generalize s.ents[k] = z at hx hq
  clear hd
  refine .skip ?_
  refine .seq ?_
  refine .block ?_
  refine .seq ?_
  refine .region rfl ?_
  first | refine R.field F25_1 (h := ?_) | refine R.fieldAt F25_1 (h := ?_)
  first | refine R.loadB O23 (h := ?_) | refine R.load1 O23 (h := ?_)
  refine R.move (h := ?_)
  refine R.index I23 (hj := fun hg => ⟨by omega, hx⟩) (h := ?_)
  first | refine R.loadA A40 (h := ?_) | refine R.loadN A40 (h := ?_) | refine R.loadP A40 (h := ?_)
  refine R.alloc Z40 (h := ?_)
  refine R.storeA A40 (h := ?_)
  refine .n0 ?_
  refine .seq ?_
  refine .region rfl ?_
  first | refine R.field F40_0 (h := ?_) | refine R.fieldAt F40_0 (h := ?_)
  first | refine R.loadB O26 (h := ?_) | refine R.load1 O26 (h := ?_)
  first | refine R.field F29_0 (h := ?_) | refine R.fieldAt F29_0 (h := ?_)
  first | refine R.loadB O26 (h := ?_) | refine R.load1 O26 (h := ?_)
  refine R.bin (run_eql _ _ _ _ _ _) (h := ?_)
  refine R.move (h := ?_)
  first | refine R.field F40_1 (h := ?_) | refine R.fieldAt F40_1 (h := ?_)
  first | refine R.loadB O27 (h := ?_) | refine R.load1 O27 (h := ?_)
  first | refine R.field F29_2 (h := ?_) | refine R.fieldAt F29_2 (h := ?_)
  first | refine R.loadB O27 (h := ?_) | refine R.load1 O27 (h := ?_)
  refine R.bin (run_eql _ _ _ _ _ _) (h := ?_)
  refine R.and (h := ?_)
  refine R.move (h := ?_)
  first | refine R.field F40_2 (h := ?_) | refine R.fieldAt F40_2 (h := ?_)
  first | refine R.loadB O27 (h := ?_) | refine R.load1 O27 (h := ?_)
  first | refine R.field F29_3 (h := ?_) | refine R.fieldAt F29_3 (h := ?_)
  first | refine R.loadB O27 (h := ?_) | refine R.load1 O27 (h := ?_)
  refine R.bin (run_eql _ _ _ _ _ _) (h := ?_)
  refine R.and (h := ?_)
  rw [key3]
  refine .n0 ?_
  refine LGo.ifb (ht := fun hc2 => ?_) (hf := fun hc2 => ?_)
  ·
   rw [if_pos hc2] at hq
   rw [← hq]
   refine .seq ?_
   refine .region rfl ?_
   refine R.move (h := ?_)
   refine R.assign (h := ?_)
   refine .n0 ?_
   exact LGo.ret (ret_T Tryd.results34 hA hmd)
  ·
   rw [if_neg (by rw [hc2]; simp)] at hq
   refine .skip ?_
   refine .inBlock ?_
   refine .region rfl ?_
   refine R.move (h := ?_)
   first | refine R.add (h := ?_) | refine R.addW (h := ?_)
   refine R.assign (h := ?_)
   refine .n0 ?_
   refine .inLoop ?_
   exact LGo.next _ (fun o h => by have := (hA o).1 h; omega) (by omega) (ih (k + 1) ⟨by omega, hq⟩ (by omega)) (by repeat (first | exact trivial | refine ⟨rfl, ?_⟩)) ⟨rfl, rfl, trivial⟩
 ·
  rw [List.drop_eq_nil_of_le (show s.ents.length ≤ k by omega), idxP] at hq
  rw [← hq]
  refine .exit rfl ?_
  refine .seq ?_
  refine .region rfl ?_
  refine R.assign (h := ?_)
  refine .n0 ?_
  exact LGo.ret (ret_T Tryd.results34 hA hmd)

theorem findR_P (s : GtS) (hs : SmS s) (a o b e : Int) : PC Tryd.prog 16 [.agg (s.c.map LV.sv), .agg (tkC a o b e)] (.tup [.agg ((findS s (a, e, b)).1.c.map LV.sv), .i (findS s (a, e, b)).2]) := by
 refine ⟨LC.of_go Tryd.func16 (c := _) rfl (by kernel_rfl) (by rw [Tryd.ntmps16]; simp) rfl rfl (by simp [LO.lt, LV.lts, LV.lt, lts_sv]) (by simp) ?_⟩
 intro B hA hmd
 obtain ⟨g, e0⟩ : ∃ g, findS s (a, e, b) = g := ⟨_, rfl⟩
 have e1 := e0
 unfold findS at e1
 rw [e0]
 refine .seq ?_
 refine .region rfl ?_
 refine R.box (h := ?_)
 refine R.box (h := ?_)
 refine R.alloc Z40 (h := ?_)
 refine R.assign (h := ?_)
 refine .n0 ?_
 refine .seq ?_
 refine .region rfl ?_
 first | refine R.loadA A25 (h := ?_) | refine R.loadN A25 (h := ?_) | refine R.loadP A25 (h := ?_)
 refine R.callP (es := [_]) (fun _ => checkGR_P s hs) (h := ?_)
 refine R.assign (h := ?_)
 refine .n0 ?_
 refine .seq ?_
 refine .seq ?_
 refine .region rfl ?_
 refine R.move (h := ?_)
 refine R.bin (run_neq _ _ _ _ _ _) (h := ?_)
 refine .n0 ?_
 refine LGo.ifb (ht := fun hc => ?_) (hf := fun hc => ?_)
 ·
  rw [if_pos (by simpa using hc)] at e1
  rw [← e1]
  refine .seq ?_
  refine .region rfl ?_
  refine R.build BF40 (is := []) (xs := []) (es := []) (h := ?_)
  refine R.move (h := ?_)
  refine R.storeA A40 (h := ?_)
  refine R.assign (h := ?_)
  refine .n0 ?_
  exact LGo.ret (ret_AT Tryd.results16 A40 hA hmd)
 ·
  rw [if_neg (by simpa using hc)] at e1
  refine .skip ?_
  refine .seq ?_
  refine .region rfl ?_
  first | refine R.loadA A25 (h := ?_) | refine R.loadN A25 (h := ?_) | refine R.loadP A25 (h := ?_)
  first | refine R.loadA A29 (h := ?_) | refine R.loadN A29 (h := ?_) | refine R.loadP A29 (h := ?_)
  refine R.callP (es := [_, _]) (fun _ => atR_P s hs a o b e) (h := ?_)
  have hf := idxP_find (fun x : GtE => decide (x.key = (a, e, b))) s.ents 0
  refine R.assign (h := ?_)
  refine .n0 ?_
  refine .seq ?_
  refine .seq ?_
  refine .region rfl ?_
  refine R.move (h := ?_)
  refine R.bin (run_lss _ _ _ _ _ _) (h := ?_)
  refine .n0 ?_
  refine LGo.ifd (ht := fun hc2 => ?_) (hf := fun hc2 => ?_)
  ·
   have h2 : s.ents.find? (fun x : GtE => decide (x.key = (a, e, b))) = none := by
     rcases hf with ⟨_, h2⟩ | ⟨j, hj, h1, _⟩
     · exact h2
     · omega
   rw [h2] at e1
   rw [← e1]
   refine .seq ?_
   refine .region rfl ?_
   refine R.build BF40 (is := []) (xs := []) (es := []) (h := ?_)
   refine R.storeA A40 (h := ?_)
   refine R.assign (h := ?_)
   refine .n0 ?_
   exact LGo.ret (ret_AT Tryd.results16 A40 hA hmd)
  ·
   obtain ⟨j, hj, h1, h2⟩ : ∃ (j : Nat) (hj : j < s.ents.length), idxP (fun x : GtE => decide (x.key = (a, e, b))) 0 s.ents = ((0 : Nat) + j : Int) ∧ s.ents.find? (fun x : GtE => decide (x.key = (a, e, b))) = some s.ents[j] := by
     rcases hf with ⟨h1, _⟩ | h
     · omega
     · exact h
   rw [h2] at e1
   rw [← e1]
   have hx : (s.ents.map GtE.c)[(idxP (fun x : GtE => decide (x.key = (a, e, b))) 0 s.ents).toNat]? = some s.ents[j].c := by rw [h1, show ((0 : Nat) + (j : Int) : Int).toNat = j from by omega]; simp [hj]
   refine .skip ?_
   refine .seq ?_
   refine .region rfl ?_
   first | refine R.field F25_1 (h := ?_) | refine R.fieldAt F25_1 (h := ?_)
   first | refine R.loadB O23 (h := ?_) | refine R.load1 O23 (h := ?_)
   refine R.move (h := ?_)
   refine R.index I23 (hj := fun hg => ⟨by omega, hx⟩) (h := ?_)
   first | refine R.loadA A40 (h := ?_) | refine R.loadN A40 (h := ?_) | refine R.loadP A40 (h := ?_)
   refine R.storeA A40 (h := ?_)
   refine R.assign (h := ?_)
   refine .n0 ?_
   exact LGo.ret (ret_AT Tryd.results16 A40 hA hmd)

theorem countR_P (s : GtS) (hs : SmS s) (q : Int) : PC Tryd.prog 18 [.agg (s.c.map LV.sv), .i q] (.tup [.i (countS s q).1, .i (countS s q).2]) := by
 refine ⟨LC.of_go Tryd.func18 (c := _) rfl (by kernel_rfl) (by rw [Tryd.ntmps18]; simp) rfl rfl (by simp [LO.lt, LV.lts, LV.lt, lts_sv]) (by simp) ?_⟩
 intro B hA hmd
 obtain ⟨g, e0⟩ : ∃ g, countS s q = g := ⟨_, rfl⟩
 have e1 := e0
 unfold countS at e1
 rw [e0]
 obtain ⟨⟨hg1, hg2⟩, he1, he2⟩ := id hs
 refine .seq ?_
 refine .region rfl ?_
 refine R.box (h := ?_)
 refine R.assign (h := ?_)
 refine R.assign (h := ?_)
 refine .n0 ?_
 refine .seq ?_
 refine .region rfl ?_
 first | refine R.loadA A25 (h := ?_) | refine R.loadN A25 (h := ?_) | refine R.loadP A25 (h := ?_)
 refine R.callP (es := [_]) (fun _ => checkGR_P s hs) (h := ?_)
 refine R.assign (h := ?_)
 refine .n0 ?_
 refine .seq ?_
 refine .seq ?_
 refine .region rfl ?_
 refine R.move (h := ?_)
 refine R.bin (run_eql _ _ _ _ _ _) (h := ?_)
 refine R.move (h := ?_)
 refine R.move (h := ?_)
 refine R.bin (run_lss _ _ _ _ _ _) (h := ?_)
 refine R.move (h := ?_)
 refine R.move (h := ?_)
 first | refine R.field F25_0 (h := ?_) | refine R.fieldAt F25_0 (h := ?_)
 first | refine R.loadB O22 (h := ?_) | refine R.load1 O22 (h := ?_)
 first | refine R.len S22 (h := ?_) | refine R.lenRs S22 (h := ?_) | refine R.lenV (run_lenNil S22) (h := ?_)
 rw [List.length_map]
 refine R.bin (run_geq _ _ _ _ _ _) (h := ?_)
 refine R.or (hgy := fun hg h => by rw [h, hg]; rfl) (h := ?_)
 refine R.and (h := ?_)
 refine .n0 ?_
 refine LGo.ifb (ht := fun hc => ?_) (hf := fun hc => ?_)
 ·
  simp only [Bool.and_eq_true, decide_eq_true_eq] at hc
  rw [if_neg (by simp [hc.1]), if_pos hc.2] at e1
  rw [← e1]
  refine .region rfl ?_
  refine R.assign (h := ?_)
  refine .n0 ?_
  refine .seq ?_
  refine .seq ?_
  refine .region rfl ?_
  refine R.move (h := ?_)
  refine R.bin (run_neq _ _ _ _ _ _) (h := ?_)
  refine .n0 ?_
  refine LGo.ifb (ht := fun hc2 => ?_) (hf := fun hc2 => by simp at hc2)
  refine .seq ?_
  refine .region rfl ?_
  refine R.move (h := ?_)
  refine R.assign (h := ?_)
  refine R.assign (h := ?_)
  refine .n0 ?_
  exact LGo.ret (ret_TT Tryd.results18 hA hmd)
 ·
  refine .skip ?_
  refine .seq ?_
  refine .seq ?_
  refine .region rfl ?_
  refine R.move (h := ?_)
  refine R.bin (run_neq _ _ _ _ _ _) (h := ?_)
  refine .n0 ?_
  refine LGo.ifb (ht := fun hc3 => ?_) (hf := fun hc3 => ?_)
  ·
   rw [if_pos (by simpa using hc3)] at e1
   rw [← e1]
   refine .seq ?_
   refine .region rfl ?_
   refine R.move (h := ?_)
   refine R.assign (h := ?_)
   refine R.assign (h := ?_)
   refine .n0 ?_
   exact LGo.ret (ret_TT Tryd.results18 hA hmd)
  ·
   have hc0 : checkGS s = 0 := by simpa using hc3
   rw [if_neg (by simp [hc0]), if_neg (by rw [hc0] at hc; simpa using hc)] at e1
   refine .skip ?_
   refine .seq ?_
   refine .region rfl ?_
   refine R.assign (h := ?_)
   refine .n0 ?_
   refine .seq ?_
   refine .seq ?_
   refine .region rfl ?_
   refine R.assign (h := ?_)
   refine .n0 ?_
   refine .block ?_
   refine .loop ?_
   refine LGo.loopG (σ := Nat × Int) (fun x => x.1 ≤ s.ents.length ∧ 0 ≤ x.2 ∧ x.2 ≤ x.1 ∧ ((s.ents.drop x.1).foldl (fun m y => if y.gate = q then m + 1 else m) x.2, (0 : Int)) = g) (fun x => [(8, (true, .i (x.1 : Nat))), (7, (true, .i x.2))]) (fun x => [(0, .box 25 (s.c.map LV.sv))]) (fun x => s.ents.length - x.1) (0, 0) [(1, _), (2, _)] ⟨Nat.zero_le _, Int.le_refl _, Int.le_refl _, e1⟩ (by repeat (first | exact trivial | refine ⟨rfl, ?_⟩)) (by repeat (first | exact trivial | refine ⟨rfl, ?_⟩)) (by repeat (first | exact trivial | refine ⟨rfl, ?_⟩)) ?_
   rintro ⟨k, n⟩ ⟨hk, hn0, hn1, hq⟩ ih
   dsimp only at * 
   refine .seq ?_
   refine .seq ?_
   refine .region rfl ?_
   refine R.move (h := ?_)
   first | refine R.field F25_1 (h := ?_) | refine R.fieldAt F25_1 (h := ?_)
   first | refine R.loadB O23 (h := ?_) | refine R.load1 O23 (h := ?_)
   first | refine R.len S23 (h := ?_) | refine R.lenRs S23 (h := ?_) | refine R.lenV (run_lenNil S23) (h := ?_)
   rw [List.length_map]
   refine R.bin (run_lss _ _ _ _ _ _) (h := ?_)
   refine .n0 ?_
   refine LGo.ifd (ht := fun hc4 => ?_) (hf := fun hc4 => ?_)
   ·
    have hlt : k < s.ents.length := by omega
    have hx : (s.ents.map GtE.c)[((k : Nat) : Int).toNat]? = some s.ents[k].c := by simp [hlt]
    have hd : s.ents.drop k = s.ents[k] :: s.ents.drop (k + 1) := List.drop_eq_getElem_cons hlt
    rw [hd, List.foldl_cons] at hq
    generalize s.ents[k] = z at hx hq
    clear hd
    refine .skip ?_
    refine .seq ?_
    refine .block ?_
    refine .seq ?_
    refine .region rfl ?_
    first | refine R.field F25_1 (h := ?_) | refine R.fieldAt F25_1 (h := ?_)
    first | refine R.loadB O23 (h := ?_) | refine R.load1 O23 (h := ?_)
    refine R.move (h := ?_)
    refine R.index I23 (hj := fun hg => ⟨by omega, hx⟩) (h := ?_)
    first | refine R.field F40_3 (h := ?_) | refine R.fieldAt F40_3 (h := ?_)
    first | refine R.loadB O3 (h := ?_) | refine R.load1 O3 (h := ?_)
    refine R.move (h := ?_)
    refine R.bin (run_eql _ _ _ _ _ _) (h := ?_)
    refine .n0 ?_
    refine LGo.ifd (ht := fun hc5 => ?_) (hf := fun hc5 => ?_)
    ·
     rw [if_pos hc5] at hq
     refine .region rfl ?_
     refine R.move (h := ?_)
     first | refine R.add (h := ?_) | refine R.addW (h := ?_)
     refine R.assign (h := ?_)
     refine .n0 ?_
     refine .inBlock ?_
     refine .region rfl ?_
     refine R.move (h := ?_)
     first | refine R.add (h := ?_) | refine R.addW (h := ?_)
     refine R.assign (h := ?_)
     refine .n0 ?_
     refine .inLoop ?_
     exact LGo.next _ (fun o h => by have := (hA o).1 h; omega) (by omega) (ih (k + 1, n + 1) ⟨by dsimp only; omega, by dsimp only; omega, by dsimp only; omega, hq⟩ (by dsimp only; omega)) (by repeat (first | exact trivial | refine ⟨rfl, ?_⟩)) ⟨rfl, trivial⟩
    ·
     rw [if_neg hc5] at hq
     refine .skip ?_
     refine .inBlock ?_
     refine .region rfl ?_
     refine R.move (h := ?_)
     first | refine R.add (h := ?_) | refine R.addW (h := ?_)
     refine R.assign (h := ?_)
     refine .n0 ?_
     refine .inLoop ?_
     exact LGo.next _ (fun o h => by have := (hA o).1 h; omega) (by omega) (ih (k + 1, n) ⟨by dsimp only; omega, by dsimp only; omega, by dsimp only; omega, hq⟩ (by dsimp only; omega)) (by repeat (first | exact trivial | refine ⟨rfl, ?_⟩)) ⟨rfl, trivial⟩
   ·
    rw [List.drop_eq_nil_of_le (show s.ents.length ≤ k by omega), List.foldl_nil] at hq
    rw [← hq]
    refine .exit rfl ?_
    refine .seq ?_
    refine .region rfl ?_
    refine R.move (h := ?_)
    refine R.assign (h := ?_)
    refine R.assign (h := ?_)
    refine .n0 ?_
    exact LGo.ret (ret_TT Tryd.results18 hA hmd)

theorem copyR_P (s : GtS) (hs : SmS s) : PC Tryd.prog 11 [.agg (s.c.map LV.sv)] (.agg (s.c.map LV.sv)) := by
 refine ⟨LC.of_go Tryd.func11 (c := _) rfl (by kernel_rfl) (by rw [Tryd.ntmps11]; simp) rfl rfl (by simp [LO.lt, LV.lts, LV.lt, lts_sv]) (by simp) ?_⟩
 intro B hA hmd
 obtain ⟨⟨hg1, hg2⟩, he1, he2⟩ := id hs
 refine .seq ?_
 refine .region rfl ?_
 refine R.box (h := ?_)
 refine R.alloc Z25 (h := ?_)
 refine .n0 ?_
 refine .seq ?_
 refine .region rfl ?_
 refine R.alloc Z25 (h := ?_)
 refine .n0 ?_
 refine .seq ?_
 refine .seq ?_
 refine .region rfl ?_
 refine R.assign (h := ?_)
 refine .n0 ?_
 refine .block ?_
 refine .loop ?_
 refine LGo.packNil 2 0 59 3 (h := ?_)
 refine LGo.loopG (σ := Nat) (fun x => x ≤ s.gates.length) (fun x => [(4, (true, .i (x : Nat)))]) (fun x => [(0, .box 25 (s.c.map LV.sv)), (1, .box 25 [.v (.slice none 0 0), .v (.slice none 0 0)]), (2, .bx 25 [.v undef, .v (.slice none 0 0)] 0 59 3 ((s.gates.take x).map GtG.c))]) (fun x => s.gates.length - x) (0) [(1, _), (2, _), (3, _)] (Nat.zero_le _) (by repeat (first | exact trivial | refine ⟨rfl, ?_⟩)) (by repeat (first | exact trivial | refine ⟨rfl, ?_⟩)) (by repeat (first | exact trivial | refine ⟨rfl, ?_⟩)) ?_
 rintro k hk ih
 refine .seq ?_
 refine .seq ?_
 refine .region rfl ?_
 refine R.move (h := ?_)
 first | refine R.field F25_0 (h := ?_) | refine R.fieldAt F25_0 (h := ?_)
 first | refine R.loadB O22 (h := ?_) | refine R.load1 O22 (h := ?_)
 first | refine R.len S22 (h := ?_) | refine R.lenRs S22 (h := ?_) | refine R.lenV (run_lenNil S22) (h := ?_)
 rw [List.length_map]
 refine R.bin (run_lss _ _ _ _ _ _) (h := ?_)
 refine .n0 ?_
 refine LGo.ifd (ht := fun hc => ?_) (hf := fun hc => ?_)
 ·
  refine LGo.unpack 2 (h := ?_)
  have hlt : k < s.gates.length := by omega
  have hx : (s.gates.map GtG.c)[((k : Nat) : Int).toNat]? = some s.gates[k].c := by simp [hlt]
  have hd : s.gates.drop k = s.gates[k] :: s.gates.drop (k + 1) := List.drop_eq_getElem_cons hlt
  have hsl := hg2 s.gates[k] (List.getElem_mem hlt)
  have htk : s.gates.take (k + 1) = s.gates.take k ++ [s.gates[k]] := List.take_succ_eq_append_getElem hlt
  generalize s.gates[k] = z at hx hsl htk
  clear hd
  refine .skip ?_
  refine .seq ?_
  refine .block ?_
  refine .seq ?_
  refine .region rfl ?_
  first | refine R.field F25_0 (h := ?_) | refine R.fieldAt F25_0 (h := ?_)
  first | refine R.loadB O22 (h := ?_) | refine R.load1 O22 (h := ?_)
  refine R.move (h := ?_)
  refine R.index I22 (hj := fun hg => ⟨by omega, hx⟩) (h := ?_)
  first | refine R.loadA A59 (h := ?_) | refine R.loadN A59 (h := ?_) | refine R.loadP A59 (h := ?_)
  refine R.alloc Z59 (h := ?_)
  refine R.storeA A59 (h := ?_)
  refine .n0 ?_
  refine .seq ?_
  refine .region rfl ?_
  refine R.buildSliceR AP57 (xs := []) (es := []) (hcs := CellsOfs.nil) (h := ?_)
  first | refine R.field F59_0 (h := ?_) | refine R.fieldAt F59_0 (h := ?_)
  first | refine R.loadB O57 (h := ?_) | refine R.load1 O57 (h := ?_)
  refine R.appendS AP57 (hs := SrcOk.sl Tryd.underlying57 (ic_one _ _)) (hlen := by rw [ic_len]; simp; omega) (h := ?_)
  first | refine R.field F59_0 (h := ?_) | refine R.fieldAt F59_0 (h := ?_)
  refine R.storeB O57 (h := ?_)
  refine .n0 ?_
  refine LGo.pack 4 0 (h := ?_)
  refine LGo.frzBx 4 (h := ?_)
  refine .region rfl ?_
  first | refine R.field F25_0 (h := ?_) | refine R.fieldAt F25_0 (h := ?_)
  first | refine R.loadB O22 (h := ?_) | refine R.load1 O22 (h := ?_)
  first | refine R.loadA A59 (h := ?_) | refine R.loadN A59 (h := ?_) | refine R.loadP A59 (h := ?_)
  refine R.buildSliceG AP22 (xs := [_]) (es := [_]) (hcs := CellsOfs.cons (CellsOf.agg rfl) CellsOfs.nil) (h := ?_)
  refine R.appendS AP22 (hs := SrcOk.sl Tryd.underlying22 (by simp; rfl)) (hlen := by simp; omega) (h := ?_)
  first | refine R.field F25_0 (h := ?_) | refine R.fieldAt F25_0 (h := ?_)
  refine R.storeB O22 (h := ?_)
  refine .n0 ?_
  refine .inBlock ?_
  refine .region rfl ?_
  refine R.move (h := ?_)
  first | refine R.add (h := ?_) | refine R.addW (h := ?_)
  refine R.assign (h := ?_)
  refine .n0 ?_
  refine .inLoop ?_
  refine LGo.pack 2 0 (h := ?_)
  exact LGo.next _ (fun o h => by have := (hA o).1 h; omega) (by omega) (ih (k + 1) hlt (by omega)) (by repeat (first | exact trivial | refine ⟨rfl, ?_⟩)) ⟨rfl, rfl, by rw [htk, List.map_append]; rfl, trivial⟩
 ·
  obtain rfl : k = s.gates.length := by omega
  rw [List.take_length]
  refine LGo.frzBx 2 (h := ?_)
  refine .exit rfl ?_
  refine .seq ?_
  refine .region rfl ?_
  refine R.buildSliceR AP23 (xs := []) (es := []) (hcs := CellsOfs.nil) (h := ?_)
  first | refine R.field F25_1 (h := ?_) | refine R.fieldAt F25_1 (h := ?_)
  first | refine R.loadB O23 (h := ?_) | refine R.load1 O23 (h := ?_)
  refine R.appendS AP23 (hs := SrcOk.sl Tryd.underlying23 (ge_ones _)) (hlen := by rw [List.length_map]; simp; omega) (h := ?_)
  first | refine R.field F25_1 (h := ?_) | refine R.fieldAt F25_1 (h := ?_)
  refine R.storeB O23 (h := ?_)
  refine .n0 ?_
  refine LGo.pack 2 1 (h := ?_)
  refine LGo.frzBx 2 (h := ?_)
  refine .seq ?_
  refine .region rfl ?_
  first | refine R.loadA A25 (h := ?_) | refine R.loadN A25 (h := ?_) | refine R.loadP A25 (h := ?_)
  refine R.storeA A25 (h := ?_)
  refine .n0 ?_
  exact LGo.ret (ret_A Tryd.results11 A25 hA hmd)

end Go.Proofs.YtgcjjndhohellaaDoor
