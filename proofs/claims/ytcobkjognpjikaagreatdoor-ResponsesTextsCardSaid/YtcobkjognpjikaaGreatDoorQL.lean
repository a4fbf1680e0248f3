/- words, the reference: Split. -/
import Derived.Test.YtcobkjognpjikaaGreatDoorQK
set_option linter.unusedSimpArgs false
set_option linter.unusedVariables false
namespace Go.Proofs.YtcobkjognpjikaaGreatDoor

theorem fldsG_step {f : Nat} {rest r2 : List UInt8} {fd : Fd} (h : nextF rest = some (fd, r2)) : fldsG (f + 1) rest = if r2 = [] then ([fd], true) else if (r2.headD 0).toNat = 32 then (fd :: (fldsG f (r2.drop 1)).1, (fldsG f (r2.drop 1)).2) else ([], false) := by
  rw [fldsG, h]
  cases r2 with
  | nil => rfl
  | cons a r => rw [if_neg (List.cons_ne_nil a r)]; rfl
theorem fldsG_none {f : Nat} {rest : List UInt8} (h : nextF rest = none) : fldsG (f + 1) rest = ([], false) := by rw [fldsG, h]
theorem cut1_cases (r : List UInt8) (c : UInt8) : (cut1 r c = r ∧ c ∉ r) ∨ ∃ a b, r = a ++ c :: b ∧ c ∉ a ∧ cut1 r c = a := by
  unfold cut1
  rcases index_cases c r with ⟨h1, h2⟩ | ⟨a, b, h1, h2, h3⟩
  · left; rw [if_neg (by omega)]; exact ⟨rfl, h2⟩
  · right; rw [if_pos (by omega), h3, Int.toNat_natCast]
    refine ⟨a, b, h1, h2, ?_⟩
    rw [h1, List.take_left]
theorem cut1_take (r : List UInt8) (c : UInt8) : r.take (cut1 r c).length = cut1 r c := by
  rcases cut1_cases r c with ⟨h, _⟩ | ⟨a, b, h1, _, h⟩
  · rw [h, List.take_length]
  · rw [h, h1, List.take_left]
theorem cut1_step {r : List UInt8} {c : UInt8} {n : Nat} (h : n ≤ (cut1 r c).length) (hn : n < r.length) (hc : (r.drop n).headD 0 ≠ c) : n + 1 ≤ (cut1 r c).length := by
  rcases cut1_cases r c with ⟨h1, _⟩ | ⟨a, b, h1, _, h2⟩
  · rw [h1]; omega
  · rw [h2] at h ⊢
    by_cases he : n = a.length
    · exfalso; apply hc; rw [he, h1, List.drop_left]; rfl
    · omega
theorem cut1_stop {r : List UInt8} {c : UInt8} {n : Nat} (h : n ≤ (cut1 r c).length) (hs : r.length ≤ n ∨ (r.drop n).headD 0 = c) (hlt : n < r.length ∨ r.length ≤ n) : n = (cut1 r c).length := by
  have hle := cut1_len r c
  by_cases h0 : r.length ≤ n
  · omega
  · have h1 : (r.drop n).headD 0 = c := by rcases hs with h | h; omega; exact h
    by_cases he : n = (cut1 r c).length
    · exact he
    · exfalso
      have hd : (cut1 r c)[n]? = some ((r.drop n).headD 0) := by
        have h2 : (r.take (cut1 r c).length)[n]? = some ((r.drop n).headD 0) := by rw [List.getElem?_take_of_lt (by omega), idxk (by omega)]
        rw [cut1_take] at h2; exact h2
      rw [h1] at hd
      have hm : c ∈ cut1 r c := List.mem_of_getElem? hd
      rcases cut1_cases r c with ⟨e, h3⟩ | ⟨a, b, _, h3, e⟩
      · rw [e] at hm; exact h3 hm
      · rw [e] at hm; exact h3 hm
theorem split1_bad {s : List UInt8} (h1 : ¬ 8192 < (s.length : Int)) (h2 : s ≠ []) (h : (fldsG (s.length + 1) s).2 = false) : split1 s = ([], 6) := by unfold split1; rw [if_neg h1, if_neg h2, if_pos h]
theorem split1_ok {s : List UInt8} (h1 : ¬ 8192 < (s.length : Int)) (h2 : s ≠ []) {fs : List Fd} (h : fldsG (s.length + 1) s = (fs, true)) : split1 s = if (longF fs || decide (64 < (fs.length : Int))) = true then ([], 3) else (fs, 0) := by unfold split1; rw [if_neg h1, if_neg h2, h, if_neg (by simp)]

theorem splitR_P (s : List UInt8) : PC Tryz.prog 33 [.t s] (.tup [.sv (.sl 2 ((split1 s).1.map Fd.c)), .i (split1 s).2]) := by
 refine ⟨LC.of_go Tryz.func33 (c := _) rfl (by kernel_rfl) (by rw [Tryz.ntmps33]; simp) rfl rfl (by simp [LO.lt, LV.lts, LV.lt]) (by simp) ?_⟩
 intro B hA hmd
 obtain ⟨fs, ok, hfl⟩ : ∃ fs ok, fldsG (s.length + 1) s = (fs, ok) := ⟨_, _, rfl⟩
 refine .seq ?_
 refine .region rfl ?_
 refine R.assign (h := ?_)
 refine R.assign (h := ?_)
 refine .n0 ?_
 refine .seq ?_
 refine .seq ?_
 refine .region rfl ?_
 refine R.move (h := ?_)
 refine R.lenT Tryz.runUnderlying9 (h := ?_)
 refine R.bin (run_gtr _ _ _ _ _ _) (h := ?_)
 refine .n0 ?_
 refine LGo.ifd (ht := fun hc => ?_) (hf := fun hc => ?_)
 ·
  rw [show split1 s = ([], 3) from if_pos hc]
  refine .seq ?_
  refine .region rfl ?_
  refine R.assign (h := ?_)
  refine R.assign (h := ?_)
  refine .n0 ?_
  first | refine LGo.frzT 2 (h := ?_) | refine LGo.nilSl 2 2 (h := ?_) | skip
  exact LGo.ret (ret_TT Tryz.results33 hA hmd)
 ·
  have hlen : s.length ≤ 8192 := by omega
  refine .skip ?_
  refine .seq ?_
  refine .seq ?_
  refine .region rfl ?_
  refine R.move (h := ?_)
  refine R.bin (run_eqlT _ _ _ _ _) (h := ?_)
  refine .n0 ?_
  refine LGo.ifd (ht := fun hc2 => ?_) (hf := fun hc2 => ?_)
  ·
   rw [show split1 s = ([], 0) from by unfold split1; rw [if_neg hc, if_pos hc2]]
   refine .seq ?_
   refine .region rfl ?_
   refine R.assign (h := ?_)
   refine R.assign (h := ?_)
   refine .n0 ?_
   first | refine LGo.frzT 2 (h := ?_) | refine LGo.nilSl 2 2 (h := ?_) | skip
   exact LGo.ret (ret_TT Tryz.results33 hA hmd)
  ·
   refine .skip ?_
   refine .seq ?_
   refine .region rfl ?_
   refine R.assign (h := ?_)
   refine .n0 ?_
   refine .seq ?_
   refine .region rfl ?_
   refine R.assign (h := ?_)
   refine .n0 ?_
   refine .seq ?_
   refine .region rfl ?_
   refine R.assign (h := ?_)
   refine .n0 ?_
   refine .seq ?_
   refine .block ?_
   refine .loop ?_
   refine LGo.nilRs 4 68 2 (h := ?_)
   refine LGo.loopG (σ := Nat × List Fd × Bool × Nat) (fun x => x.1 ≤ s.length ∧ s.length - x.1 < x.2.2.2 ∧ x.2.2.1 = longF x.2.1 ∧ x.2.1.length ≤ x.1 ∧ x.2.1 ++ (fldsG x.2.2.2 (s.drop x.1)).1 = fs ∧ (fldsG x.2.2.2 (s.drop x.1)).2 = ok) (fun x => [(6, (true, .i (x.1 : Nat))), (4, (true, .ref 0)), (5, (true, .b x.2.2.1))]) (fun x => [(0, .rs 68 2 (x.2.1.map Fd.c))]) (fun x => s.length - x.1) (0, [], false, s.length + 1) [(0, _)] ⟨Nat.zero_le _, by dsimp only; omega, rfl, Nat.zero_le _, by dsimp only; rw [List.drop_zero, hfl]; rfl, by dsimp only; rw [List.drop_zero, hfl]⟩ (by repeat (first | exact trivial | refine ⟨rfl, ?_⟩)) (by repeat (first | exact trivial | refine ⟨rfl, ?_⟩)) (by repeat (first | exact trivial | refine ⟨rfl, ?_⟩)) ?_
   rintro ⟨k, out, lg, f⟩ ⟨hk, hf, hlg, hol, hq, hok⟩ ih
   dsimp only at * 
   obtain ⟨f, rfl⟩ : ∃ g, f = g + 1 := ⟨f - 1, by omega⟩
   have hdl : (s.drop k).length = s.length - k := List.length_drop ..
   have hul := unq_le (s.drop k)
   have hcl := cut1_len (s.drop k) 32
   refine .block ?_
   refine .seq ?_
   refine .region rfl ?_
   refine R.move (h := ?_)
   refine R.move (h := ?_)
   refine R.sliceTLo Tryz.runUnderlying9 (ha := fun _ => by omega) (h := ?_)
   rw [Int.toNat_natCast]
   refine R.callP (es := [_]) (fun _ => quotedR_P (s.drop k) (by rw [List.length_drop]; omega)) (h := ?_)
   refine R.move (h := ?_)
   refine R.extract (h := ?_)
   refine R.extract (h := ?_)
   refine R.assign (h := ?_)
   refine R.assign (h := ?_)
   refine .n0 ?_
   refine .seq ?_
   refine .region rfl ?_
   refine R.move (h := ?_)
   refine R.build BF68 (is := [0, 1]) (xs := [_, _]) (es := [_, _]) (h := ?_)
   refine R.alloc Z68 (h := ?_)
   refine R.storeA A68 (h := ?_)
   refine .n0 ?_
   refine .seq ?_
   refine .seq ?_
   refine .region rfl ?_
   refine R.move (h := ?_)
   refine R.bin (run_eql _ _ _ _ _ _) (h := ?_)
   refine .n0 ?_
-- MISSING cut slots [33, 34, 35, 36, 37, 38] of [8, 33, 34, 35, 36, 37, 38]
   refine LGo.cut (σ := Fd × Nat) (fun x => nextF (s.drop k) = some (x.1, (s.drop k).drop x.2) ∧ k + x.2 ≤ s.length) (fun x => [(8, (true, .i (x.2 : Nat)))]) (fun x => [(0, .rs 68 2 (out.map Fd.c)), (1, .box 68 (x.1.c.map LV.sv))]) 2 [(0, _), (4, _), (5, _), (6, _), (9, _)] (by repeat (first | exact trivial | refine ⟨rfl, ?_⟩)) ?_ (fun hcut => ?_)
   ·
    rintro ⟨fd, n⟩ ⟨hnx, hkn⟩
    dsimp only at *
    have hst := fldsG_step (f := f) hnx
    rw [List.drop_drop] at hst
    rw [hst] at hq hok
    have hlA := longF_app out fd
    refine .seq ?_
    refine .region rfl ?_
    refine R.move (h := ?_)
    first | refine R.loadA A68 (h := ?_) | refine R.loadN A68 (h := ?_) | refine R.loadP A68 (h := ?_)
    refine R.buildSliceG AP64 (xs := [_]) (es := [_]) (hcs := CellsOfs.cons (CellsOf.agg rfl) CellsOfs.nil) (h := ?_)
    refine R.appendS AP64 (hs := SrcOk.sl Tryz.underlying64 (by simp; rfl)) (hlen := by simp; omega) (h := ?_)
    refine R.assign (h := ?_)
    refine .n0 ?_
    refine .seq ?_
    refine .region rfl ?_
    refine R.move (h := ?_)
    refine R.move (h := ?_)
    first | refine R.field F68_0 (h := ?_) | refine R.fieldAt F68_0 (h := ?_)
    first | refine R.loadB O9 (h := ?_) | refine R.load1 O9 (h := ?_)
    refine R.lenT Tryz.runUnderlying9 (h := ?_)
    refine R.bin (run_gtr _ _ _ _ _ _) (h := ?_)
    refine R.or (h := ?_)
    refine R.assign (h := ?_)
    refine .n0 ?_
    refine .seq ?_
    refine .region rfl ?_
    refine R.move (h := ?_)
    refine R.move (h := ?_)
    first | refine R.add (h := ?_) | refine R.addW (h := ?_)
    refine R.assign (h := ?_)
    refine .n0 ?_
    refine .seq ?_
    refine .seq ?_
    refine .region rfl ?_
    refine R.move (h := ?_)
    refine R.move (h := ?_)
    refine R.lenT Tryz.runUnderlying9 (h := ?_)
    refine R.bin (run_eql _ _ _ _ _ _) (h := ?_)
    refine .n0 ?_
    refine LGo.ifd (ht := fun hc6 => ?_) (hf := fun hc6 => ?_)
    ·
     have hr : s.drop (k + n) = [] := List.drop_eq_nil_of_le (by omega)
     rw [if_pos hr] at hq hok
     dsimp only at hq hok
     subst hq
     subst hok
     have hsp := split1_ok hc hc2 hfl
     rw [hlA, ← hlg] at hsp
     refine .exit rfl ?_
     refine .seq ?_
     refine .seq ?_
     refine .region rfl ?_
     refine R.move (h := ?_)
     refine R.move (h := ?_)
     refine R.move (h := ?_)
     first | refine R.len S64 (h := ?_) | refine R.lenRs S64 (h := ?_) | refine R.lenV (run_lenNil S64) (h := ?_)
     refine R.bin (run_gtr _ _ _ _ _ _) (h := ?_)
     refine R.or (h := ?_)
     refine .n0 ?_
     refine LGo.ifb (ht := fun hc7 => ?_) (hf := fun hc7 => ?_)
     ·
      rw [if_pos (by simpa using hc7)] at hsp
      rw [hsp]
      refine .seq ?_
      refine .region rfl ?_
      refine R.assign (h := ?_)
      refine R.assign (h := ?_)
      refine .n0 ?_
      first | refine LGo.frzT 2 (h := ?_) | refine LGo.nilSl 2 2 (h := ?_) | skip
      exact LGo.ret (ret_TT Tryz.results33 hA hmd)
     ·
      rw [if_neg (by simpa using hc7)] at hsp
      rw [hsp, show (out ++ [fd], (0 : Int)).1.map Fd.c = out.map Fd.c ++ [fd.c] from by rw [List.map_append]; rfl]
      refine .skip ?_
      refine .seq ?_
      refine .region rfl ?_
      refine R.move (h := ?_)
      refine R.assign (h := ?_)
      refine R.assign (h := ?_)
      refine .n0 ?_
      first | refine LGo.frzT 2 (h := ?_) | refine LGo.nilSl 2 2 (h := ?_) | skip
      exact LGo.ret (ret_TT Tryz.results33 hA hmd)
    ·
     have hr : ¬ s.drop (k + n) = [] := by intro h; have := congrArg List.length h; rw [List.length_drop] at this; simp at this; omega
     rw [if_neg hr] at hq hok
     refine .skip ?_
     refine .seq ?_
     refine .seq ?_
     refine .region rfl ?_
     refine R.move (h := ?_)
     refine R.move (h := ?_)
     refine R.indexT Tryz.runUnderlying9 (c := (s.drop (k + n)).headD 0) (hj := fun hg => ⟨by omega, by rw [show Int.toNat ((k : Int) + (n : Int)) = k + n from by omega]; exact idxk (by omega)⟩) (h := ?_)
     refine R.bin (run_neq _ _ _ _ _ _) (h := ?_)
     refine .n0 ?_
     refine LGo.ifb (ht := fun hc8 => ?_) (hf := fun hc8 => ?_)
     ·
      rw [if_neg (by simp only [Bool.or_eq_true, Bool.and_eq_true, decide_eq_true_eq, Bool.or_eq_false_iff, Bool.and_eq_false_iff, decide_eq_false_iff_not, Bool.not_eq_true', Bool.not_eq_false', Bool.not_eq_true, Bool.not_eq_false, Bool.false_eq_true, Bool.true_eq_false, iff_true, true_iff, iff_false, false_iff] at hc8; omega)] at hok
      rw [split1_bad hc hc2 (by rw [hfl]; exact hok.symm)]
      refine .seq ?_
      refine .region rfl ?_
      refine R.assign (h := ?_)
      refine R.assign (h := ?_)
      refine .n0 ?_
      first | refine LGo.frzT 2 (h := ?_) | refine LGo.nilSl 2 2 (h := ?_) | skip
      exact LGo.ret (ret_TT Tryz.results33 hA hmd)
     ·
      rw [if_pos (by simp only [Bool.or_eq_true, Bool.and_eq_true, decide_eq_true_eq, Bool.or_eq_false_iff, Bool.and_eq_false_iff, decide_eq_false_iff_not, Bool.not_eq_true', Bool.not_eq_false', Bool.not_eq_true, Bool.not_eq_false, Bool.false_eq_true, Bool.true_eq_false, iff_true, true_iff, iff_false, false_iff] at hc8; omega)] at hq hok
      rw [List.drop_drop] at hq hok
      dsimp only at hq hok
      refine .skip ?_
      refine .region rfl ?_
      refine R.move (h := ?_)
      first | refine R.add (h := ?_) | refine R.addW (h := ?_)
      refine R.assign (h := ?_)
      refine .n0 ?_
      refine .inBlock ?_
      refine .inLoop ?_
      exact LGo.turn [2] (b := 0) (fun o h => by have := (hA o).1 h; omega) (ih (k + n + 1, out ++ [fd], lg || decide (2000 < (fd.s.length : Int)), f) ⟨by dsimp only; omega, by dsimp only; omega, by dsimp only; rw [hlA, hlg], by dsimp only; rw [List.length_append, List.length_cons, List.length_nil]; omega, by dsimp only; rw [List.append_assoc]; exact hq, hok⟩ (by dsimp only; omega)) (by repeat (first | exact trivial | refine ⟨rfl, ?_⟩)) ⟨by rw [List.map_append]; rfl, trivial⟩
   ·
    refine LGo.ifd (ht := fun hc3 => ?_) (hf := fun hc3 => ?_)
    ·
     refine .seq ?_
     refine .block ?_
     refine .loop ?_
     have h0 : (unq (s.drop k)).2 = 0 := by omega
     rw [h0]
     refine LGo.loopG (σ := Nat) (fun x => x ≤ (cut1 (s.drop k) 32).length) (fun x => [(8, (true, .i (x : Nat)))]) (fun x => [(0, .rs 68 2 (out.map Fd.c)), (1, .box 68 ((⟨(unq (s.drop k)).1, true⟩ : Fd).c.map LV.sv))]) (fun x => s.length - x) (0) [(0, _), (4, _), (5, _), (6, _), (9, _)] (Nat.zero_le _) (by repeat (first | exact trivial | refine ⟨rfl, ?_⟩)) (by repeat (first | exact trivial | refine ⟨rfl, ?_⟩)) (by repeat (first | exact trivial | refine ⟨rfl, ?_⟩)) ?_
     rintro n hn ih2
     refine .seq ?_
     refine .seq ?_
     refine .region rfl ?_
     refine R.move (h := ?_)
     refine R.move (h := ?_)
     first | refine R.add (h := ?_) | refine R.addW (h := ?_)
     refine R.move (h := ?_)
     refine R.lenT Tryz.runUnderlying9 (h := ?_)
     refine R.bin (run_lss _ _ _ _ _ _) (h := ?_)
     refine R.move (h := ?_)
     refine R.move (h := ?_)
     refine R.move (h := ?_)
     refine R.move (h := ?_)
     first | refine R.add (h := ?_) | refine R.addW (h := ?_)
     refine R.indexT Tryz.runUnderlying9 (c := ((s.drop k).drop n).headD 0) (hj := fun hg => ⟨by omega, by rw [show Int.toNat ((k : Int) + (n : Int)) = k + n from by omega, List.drop_drop]; exact idxk (by simp at hg; omega)⟩) (h := ?_)
     refine R.bin (run_neq _ _ _ _ _ _) (h := ?_)
     refine R.and (h := ?_)
     refine .n0 ?_
     refine LGo.ifb (ht := fun hc4 => ?_) (hf := fun hc4 => ?_)
     ·
      obtain ⟨hlt, h32⟩ : k + n < s.length ∧ ¬ (((s.drop k).drop n).headD 0).toNat = 32 := by simp only [Bool.or_eq_true, Bool.and_eq_true, decide_eq_true_eq, Bool.or_eq_false_iff, Bool.and_eq_false_iff, decide_eq_false_iff_not, Bool.not_eq_true', Bool.not_eq_false', Bool.not_eq_true, Bool.not_eq_false, Bool.false_eq_true, Bool.true_eq_false, iff_true, true_iff, iff_false, false_iff] at hc4; omega
      have hn1 := cut1_step hn (by omega) (fun e => h32 (by rw [e]; rfl))
      refine .skip ?_
      refine .block ?_
      refine .region rfl ?_
      refine R.move (h := ?_)
      first | refine R.add (h := ?_) | refine R.addW (h := ?_)
      refine R.assign (h := ?_)
      refine .n0 ?_
      refine .inBlock ?_
      refine .inLoop ?_
      exact LGo.next _ (fun o h => by have := (hA o).1 h; omega) (by omega) (ih2 (n + 1) hn1 (by omega)) (by repeat (first | exact trivial | refine ⟨rfl, ?_⟩)) ⟨rfl, rfl, trivial⟩
     ·
      have hstop : s.length ≤ k + n ∨ (((s.drop k).drop n).headD 0).toNat = 32 := by simp only [Bool.or_eq_true, Bool.and_eq_true, decide_eq_true_eq, Bool.or_eq_false_iff, Bool.and_eq_false_iff, decide_eq_false_iff_not, Bool.not_eq_true', Bool.not_eq_false', Bool.not_eq_true, Bool.not_eq_false, Bool.false_eq_true, Bool.true_eq_false, iff_true, true_iff, iff_false, false_iff] at hc4; omega
      have hne := cut1_stop hn (hstop.imp (fun h => by omega) (fun h => UInt8.toNat.inj h)) (by omega)
      refine .exit rfl ?_
      refine .seq ?_
      refine .region rfl ?_
      refine R.move (h := ?_)
      refine R.move (h := ?_)
      refine R.move (h := ?_)
      refine R.move (h := ?_)
      first | refine R.add (h := ?_) | refine R.addW (h := ?_)
      refine R.sliceTLoHi Tryz.runUnderlying9 (ha := fun _ => by omega) (h := ?_)
      rw [show Int.toNat ((k : Int) + (n : Int)) = k + n from by omega, Int.toNat_natCast, List.drop_take, Nat.add_sub_cancel_left, hne, cut1_take, ← hne]
      refine R.build BF68 (is := [0]) (xs := [_]) (es := [_]) (h := ?_)
      refine R.storeA A68 (h := ?_)
      refine .n0 ?_
      refine .seq ?_
      refine .region rfl ?_
      first | refine R.field F68_0 (h := ?_) | refine R.fieldAt F68_0 (h := ?_)
      first | refine R.loadB O9 (h := ?_) | refine R.load1 O9 (h := ?_)
      refine R.callP (es := [_]) (fun _ => bareR_P (cut1 (s.drop k) 32) (by have := cut1_len (s.drop k) 32; rw [List.length_drop] at this; omega)) (h := ?_)
      refine R.not (h := ?_)
      refine .n0 ?_
      refine LGo.ifb (ht := fun hc5 => ?_) (hf := fun hc5 => ?_)
      ·
       have hnx : nextF (s.drop k) = none := by unfold nextF; rw [if_neg (by omega), if_neg (by simpa using hc5)]
       rw [fldsG_none hnx] at hok
       rw [split1_bad hc hc2 (by rw [hfl]; exact hok.symm)]
       refine .seq ?_
       refine .region rfl ?_
       refine R.assign (h := ?_)
       refine R.assign (h := ?_)
       refine .n0 ?_
       first | refine LGo.frzT 2 (h := ?_) | refine LGo.nilSl 2 2 (h := ?_) | skip
       exact LGo.ret (ret_TT Tryz.results33 hA hmd)
      ·
       refine .skip ?_
       have hnx : nextF (s.drop k) = some (⟨cut1 (s.drop k) 32, false⟩, (s.drop k).drop n) := by unfold nextF; rw [if_neg (by omega), if_pos (by simpa using hc5), ← hne]
       exact LGo.next _ (fun o h => by have := (hA o).1 h; omega) (by omega) (hcut (⟨cut1 (s.drop k) 32, false⟩, n) ⟨hnx, by dsimp only; omega⟩) (by repeat (first | exact trivial | refine ⟨rfl, ?_⟩)) ⟨rfl, rfl, trivial⟩
    ·
     refine .skip ?_
     have hnx : nextF (s.drop k) = some (⟨(unq (s.drop k)).1, true⟩, (s.drop k).drop (unq (s.drop k)).2) := by unfold nextF; rw [if_pos (by omega)]
     exact LGo.next _ (fun o h => by have := (hA o).1 h; omega) (by omega) (hcut (⟨(unq (s.drop k)).1, true⟩, (unq (s.drop k)).2) ⟨hnx, by dsimp only; omega⟩) (by repeat (first | exact trivial | refine ⟨rfl, ?_⟩)) ⟨rfl, rfl, trivial⟩

end Go.Proofs.YtcobkjognpjikaaGreatDoor
