/- words: Digits, and the reference's. -/
import Derived.Test.YtcobkjognpjikaaGreatDoorQI
set_option linter.unusedSimpArgs false
set_option linter.unusedVariables false
namespace Go.Proofs.YtcobkjognpjikaaGreatDoor

theorem dig_lt {n : Nat} (h : n < 10) : ((UInt8.ofNat (48 + n)).toNat : Int) = 48 + n := by rw [UInt8.toNat_ofNat']; omega
theorem decD_le : ∀ (k u : Nat), u < 10 ^ k → (Lib.decDigits u).length ≤ k + 1
  | 0, u, h => by rw [Lib.decDigits, dif_pos (by omega)]; simp
  | k + 1, u, h => by
    rw [Lib.decDigits]
    split
    · simp
    · have := decD_le k (u / 10) (by rw [Nat.pow_succ] at h; omega)
      simp; omega
theorem itoa_le {n : Int} (h0 : -9223372036854775808 ≤ n) (h1 : n ≤ 9223372036854775807) : (Lib.itoa n).length ≤ 22 := by
  unfold Lib.itoa
  split
  · have := decD_le 19 n.natAbs (by omega)
    simp; omega
  · have := decD_le 19 n.toNat (by omega)
    omega
def mz (n : Int) : Nat := 2 * n.natAbs + (if n < 0 then 1 else 0)
theorem itoa_p {n : Int} (h : n > 9) : Lib.itoa n = Lib.itoa (n / 10) ++ [UInt8.ofNat (48 + (n % 10).toNat)] := by
  unfold Lib.itoa
  rw [if_neg (by omega), if_neg (by omega), Lib.decDigits, dif_neg (by omega)]
  congr 2 <;> first | omega | (congr 2; omega) | (congr 1; congr 1; omega)
theorem itoa_n {n : Int} (h : n < -9) : Lib.itoa n = Lib.itoa (-(-n / 10)) ++ [UInt8.ofNat (48 + (-n % 10).toNat)] := by
  unfold Lib.itoa
  rw [if_pos (by omega), if_pos (by omega), Lib.decDigits, dif_neg (by omega)]
  simp only [List.cons_append]
  congr 3 <;> first | omega | (congr 2; omega) | (congr 1; congr 1; omega)
theorem itoa_m {n : Int} (h : n < 0) : Lib.itoa n = [45] ++ Lib.itoa (-n) := by
  unfold Lib.itoa
  rw [if_pos h, if_neg (by omega), show n.natAbs = (-n).toNat from by omega]; rfl
theorem itoa_d {n : Int} (h : 0 ≤ n) (h9 : n ≤ 9) : Lib.itoa n = [UInt8.ofNat (48 + n.toNat)] := by
  unfold Lib.itoa
  rw [if_neg (by omega), Lib.decDigits, dif_pos (by omega)]

theorem digitsR_step (n : Int) (h0 : -9223372036854775808 ≤ n) (h1 : n ≤ 9223372036854775807) (ih : ∀ q : Int, mz q < mz n → -9223372036854775808 ≤ q → q ≤ 9223372036854775807 → PC Tryz.prog 27 [.i q] (.t (Lib.itoa q))) : PC Tryz.prog 27 [.i n] (.t (Lib.itoa n)) := by
 refine ⟨LC.of_go Tryz.func27 (c := _) rfl (by kernel_rfl) (by rw [Tryz.ntmps27]; simp) rfl rfl (by simp [LO.lt, LV.lts, LV.lt]) (by simp) ?_⟩
 intro B hA hmd
 refine .seq ?_
 refine .region rfl ?_
 refine R.assign (h := ?_)
 refine .n0 ?_
 refine .seq ?_
 refine .seq ?_
 refine .region rfl ?_
 refine R.move (h := ?_)
 refine R.bin (run_gtr _ _ _ _ _ _) (h := ?_)
 refine R.move (h := ?_)
 refine R.move (h := ?_)
 refine R.bin (run_lss _ _ _ _ _ _) (h := ?_)
 refine R.or (h := ?_)
 refine .n0 ?_
 refine LGo.ifb (ht := fun hc => ?_) (hf := fun hc => ?_)
 ·
  refine .seq ?_
  refine .region rfl ?_
  rcases (show n > 9 ∨ n < -9 by simpa using hc) with hp | hp
  ·
   rw [itoa_p hp]
   have hle := itoa_le (n := n / 10) (by omega) (by omega)
   refine R.move (h := ?_)
   refine R.rem (h := ?_)
   refine R.assign (h := ?_)
   refine .n0 ?_
   refine .seq ?_
   refine .seq ?_
   refine .region rfl ?_
   refine R.move (h := ?_)
   refine R.bin (run_lss _ _ _ _ _ _) (h := ?_)
   refine .n0 ?_
   refine LGo.ifb (ht := fun hc2 => by simp at hc2; omega) (hf := fun hc2 => ?_)
   refine .skip ?_
   refine .seq ?_
   refine .region rfl ?_
   refine R.move (h := ?_)
   refine R.quo (h := ?_)
   refine R.callP (es := [_]) (fun _ => ih (n / 10) (by unfold mz; (repeat' split) <;> omega) (by omega) (by omega)) (h := ?_)
   refine R.move (h := ?_)
   first | refine R.add (h := ?_) | refine R.addW (h := ?_)
   refine R.convW Tryz.runUnderlying2 Tryz.runUnderlying5 (h := ?_)
   rw [show IntKind.u8.wrap (48 + n % 10) = ((UInt8.ofNat (48 + (n % 10).toNat)).toNat : Int) from by rw [dig_lt (by omega), IntKind.wrap_u8]; omega]
   refine R.buildSliceF AP33 (bytesC [UInt8.ofNat (48 + (n % 10).toNat)]) (xs := [_]) (es := [_]) (hcs := CellsOfs.cons (CellsOf.one rfl) CellsOfs.nil) (h := ?_)
   refine R.toString Tryz.underlying33 Tryz.underlying5 Tryz.underlying9 (h := ?_)
   refine R.bin (run_addT _ _ _ (Lib.itoa (n / 10)) [UInt8.ofNat (48 + (n % 10).toNat)] (by simp; omega)) (h := ?_)
   refine R.assign (h := ?_)
   refine Reg.nil ⟨fun _ => ⟨mixedO, by rfl, by rfl⟩, ?_⟩
   exact LGo.ret (ret_T Tryz.results27 hA hmd)
  ·
   rw [itoa_n hp]
   have hle := itoa_le (n := -(-n / 10)) (by omega) (by omega)
   have htm : Int.tmod n 10 = -(-n % 10) := by rw [show n = -(-n) from by omega, Int.neg_tmod, Int.tmod_eq_emod_of_nonneg (by omega)]; omega
   have htq : Int.tdiv n 10 = -(-n / 10) := by rw [show n = -(-n) from by omega, Int.neg_tdiv, Int.tdiv_eq_ediv_of_nonneg (by omega)]; omega
   refine R.move (h := ?_)
   refine R.bin (run_remT _ _ _ .i64 n 10 (by decide)) (h := ?_)
   rw [htm]
   refine R.assign (h := ?_)
   refine .n0 ?_
   refine .seq ?_
   refine .seq ?_
   refine .region rfl ?_
   refine R.move (h := ?_)
   refine R.bin (run_lss _ _ _ _ _ _) (h := ?_)
   refine .n0 ?_
   refine LGo.ifb (ht := fun hc3 => ?_) (hf := fun hc3 => ?_)
   ·
    refine .region rfl ?_
    refine R.move (h := ?_)
    refine R.neg (h := ?_)
    rw [show IntKind.i64.wrap (-(-(-n % 10))) = -n % 10 from by rw [IntKind.wrap_i64]; omega]
    refine R.assign (h := ?_)
    refine .n0 ?_
    refine .seq ?_
    refine .region rfl ?_
    refine R.move (h := ?_)
    refine R.bin (run_quoT _ _ _ .i64 n 10 (by decide) (by rw [htq, IntKind.wrap_i64]; omega)) (h := ?_)
    rw [htq]
    refine R.callP (es := [_]) (fun _ => ih (-(-n / 10)) (by unfold mz; (repeat' split) <;> omega) (by omega) (by omega)) (h := ?_)
    refine R.move (h := ?_)
    first | refine R.add (h := ?_) | refine R.addW (h := ?_)
    refine R.convW Tryz.runUnderlying2 Tryz.runUnderlying5 (h := ?_)
    rw [show IntKind.u8.wrap (48 + -n % 10) = ((UInt8.ofNat (48 + (-n % 10).toNat)).toNat : Int) from by rw [dig_lt (by omega), IntKind.wrap_u8]; omega]
    refine R.buildSliceF AP33 (bytesC [UInt8.ofNat (48 + (-n % 10).toNat)]) (xs := [_]) (es := [_]) (hcs := CellsOfs.cons (CellsOf.one rfl) CellsOfs.nil) (h := ?_)
    refine R.toString Tryz.underlying33 Tryz.underlying5 Tryz.underlying9 (h := ?_)
    refine R.bin (run_addT _ _ _ (Lib.itoa (-(-n / 10))) [UInt8.ofNat (48 + (-n % 10).toNat)] (by simp; omega)) (h := ?_)
    refine R.assign (h := ?_)
    refine Reg.nil ⟨fun _ => ⟨mixedO, by rfl, by rfl⟩, ?_⟩
    exact LGo.ret (ret_T Tryz.results27 hA hmd)
   ·
    rw [show -(-n % 10) = -n % 10 from by simp only [Bool.or_eq_true, Bool.and_eq_true, decide_eq_true_eq, Bool.or_eq_false_iff, Bool.and_eq_false_iff, decide_eq_false_iff_not, Bool.not_eq_true', Bool.not_eq_false', Bool.not_eq_true, Bool.not_eq_false, Bool.false_eq_true, Bool.true_eq_false, iff_true, true_iff, iff_false, false_iff] at hc3; omega]
    refine .skip ?_
    refine .seq ?_
    refine .region rfl ?_
    refine R.move (h := ?_)
    refine R.bin (run_quoT _ _ _ .i64 n 10 (by decide) (by rw [htq, IntKind.wrap_i64]; omega)) (h := ?_)
    rw [htq]
    refine R.callP (es := [_]) (fun _ => ih (-(-n / 10)) (by unfold mz; (repeat' split) <;> omega) (by omega) (by omega)) (h := ?_)
    refine R.move (h := ?_)
    first | refine R.add (h := ?_) | refine R.addW (h := ?_)
    refine R.convW Tryz.runUnderlying2 Tryz.runUnderlying5 (h := ?_)
    rw [show IntKind.u8.wrap (48 + -n % 10) = ((UInt8.ofNat (48 + (-n % 10).toNat)).toNat : Int) from by rw [dig_lt (by omega), IntKind.wrap_u8]; omega]
    refine R.buildSliceF AP33 (bytesC [UInt8.ofNat (48 + (-n % 10).toNat)]) (xs := [_]) (es := [_]) (hcs := CellsOfs.cons (CellsOf.one rfl) CellsOfs.nil) (h := ?_)
    refine R.toString Tryz.underlying33 Tryz.underlying5 Tryz.underlying9 (h := ?_)
    refine R.bin (run_addT _ _ _ (Lib.itoa (-(-n / 10))) [UInt8.ofNat (48 + (-n % 10).toNat)] (by simp; omega)) (h := ?_)
    refine R.assign (h := ?_)
    refine Reg.nil ⟨fun _ => ⟨mixedO, by rfl, by rfl⟩, ?_⟩
    exact LGo.ret (ret_T Tryz.results27 hA hmd)
 ·
  have hs9 : n ≤ 9 ∧ -9 ≤ n := by simp only [Bool.or_eq_true, Bool.and_eq_true, decide_eq_true_eq, Bool.or_eq_false_iff, Bool.and_eq_false_iff, decide_eq_false_iff_not, Bool.not_eq_true', Bool.not_eq_false', Bool.not_eq_true, Bool.not_eq_false, Bool.false_eq_true, Bool.true_eq_false, iff_true, true_iff, iff_false, false_iff] at hc; omega
  refine .skip ?_
  refine .seq ?_
  refine .seq ?_
  refine .region rfl ?_
  refine R.move (h := ?_)
  refine R.bin (run_lss _ _ _ _ _ _) (h := ?_)
  refine .n0 ?_
  refine LGo.ifd (ht := fun hc4 => ?_) (hf := fun hc4 => ?_)
  ·
   rw [itoa_m hc4]
   have hle := itoa_le (n := -n) (by omega) (by omega)
   refine .seq ?_
   refine .region rfl ?_
   refine R.move (h := ?_)
   refine R.neg (h := ?_)
   rw [show IntKind.i64.wrap (-n) = -n from by rw [IntKind.wrap_i64]; omega]
   refine R.callP (es := [_]) (fun _ => ih (-n) (by unfold mz; (repeat' split) <;> omega) (by omega) (by omega)) (h := ?_)
   refine R.bin (run_addT _ _ _ [45] (Lib.itoa (-n)) (by simp; omega)) (h := ?_)
   refine R.assign (h := ?_)
   refine .n0 ?_
   exact LGo.ret (ret_T Tryz.results27 hA hmd)
  ·
   rw [itoa_d (by omega) hs9.1]
   refine .skip ?_
   refine .seq ?_
   refine .region rfl ?_
   refine R.move (h := ?_)
   first | refine R.add (h := ?_) | refine R.addW (h := ?_)
   refine R.convW Tryz.runUnderlying2 Tryz.runUnderlying5 (h := ?_)
   rw [show IntKind.u8.wrap (48 + n) = ((UInt8.ofNat (48 + (n).toNat)).toNat : Int) from by rw [dig_lt (by omega), IntKind.wrap_u8]; omega]
   refine R.buildSliceF AP33 (bytesC [UInt8.ofNat (48 + (n).toNat)]) (xs := [_]) (es := [_]) (hcs := CellsOfs.cons (CellsOf.one rfl) CellsOfs.nil) (h := ?_)
   refine R.toString Tryz.underlying33 Tryz.underlying5 Tryz.underlying9 (h := ?_)
   refine R.assign (h := ?_)
   refine .n0 ?_
   exact LGo.ret (ret_T Tryz.results27 hA hmd)

theorem digitsR_P (n : Int) (h0 : -9223372036854775808 ≤ n) (h1 : n ≤ 9223372036854775807) : PC Tryz.prog 27 [.i n] (.t (Lib.itoa n)) := by
  generalize hm : mz n = m
  induction m using Nat.strongRecOn generalizing n with
  | ind m ih =>
    subst hm
    exact digitsR_step n h0 h1 fun q hq g0 g1 => ih (mz q) hq q g0 g1 rfl

end Go.Proofs.YtcobkjognpjikaaGreatDoor
