/- frames: the length in a head, the beginning of a head. -/
import Derived.Test.YtnamkhifmankmaaDoorT
import Derived.Test.YtnamkhifmankmaaDoorL
set_option linter.unusedSimpArgs false
set_option linter.unusedVariables false
namespace Go.Proofs.YtnamkhifmankmaaDoor

theorem or8_u16 (a c : Int) (ha : 0 ≤ a) (ha' : a < 256) (hc : 0 ≤ c) (hc' : c < 256) : IntKind.u16.wrap ((BitVec.ofInt IntKind.u16.bits (a * 256) ||| BitVec.ofInt IntKind.u16.bits c).toNat) = a * 256 + c :=
  or_low_uk (k := .u16) rfl a c 8 ha hc hc' (by simp only [IntKind.bits]; omega)
theorem shl8_u16 (a : Int) (h0 : 0 ≤ a) (h1 : a < 256) : IntKind.u16.wrap (a * 2 ^ (min (Int.toNat 8) IntKind.u16.bits)) = a * 256 := by
  show IntKind.u16.wrap (a * 256) = _
  exact wrap_u rfl (by omega) (by simp only [IntKind.bits]; omega)
def hd (b : List UInt8) (i : Nat) : UInt8 := (b[i]?).getD 0
/-- the length that a head says -/
def longB (b : List UInt8) : Nat := 256 * (hd b 2).toNat + (hd b 3).toNat
def headC (b : List UInt8) : List LV := [.y (hd b 0).toNat, .y (hd b 1).toNat, .y (hd b 2).toNat, .y (hd b 3).toNat]
def fitsB (b : List UInt8) : Bool :=
  if 4 ≤ b.length then decide (1 ≤ longB b ∧ longB b ≤ 1024 ∧ (hd b 2).toNat ≤ 4 ∧ (hd b 1).toNat = 1 ∧ (hd b 0).toNat = 71)
  else if b.length = 3 then decide ((hd b 2).toNat ≤ 4 ∧ (hd b 1).toNat = 1 ∧ (hd b 0).toNat = 71)
  else if b.length = 2 then decide ((hd b 1).toNat = 1 ∧ (hd b 0).toNat = 71)
  else if b.length = 1 then decide ((hd b 0).toNat = 71) else true
theorem hd_get {b : List UInt8} {i : Nat} (h : i < b.length) : b[i]? = some (hd b i) := by simp [hd, h]
theorem copy_head (b : List UInt8) : ((((bytesC b).take (min b.length 4)).map (List.map LV.sv)).flatten ++ [LV.y 0, .y 0, .y 0, .y 0].drop (min b.length 4)) = headC b := by
  match b with
  | [] => rfl
  | [a] => rfl
  | [a, c] => rfl
  | [a, c, e] => rfl
  | a :: c :: e :: f :: l =>
    have : min (a :: c :: e :: f :: l).length 4 = 4 := by simp only [List.length_cons]; omega
    rw [this]; rfl

theorem long_P (b : List UInt8) : PC Tryd.prog 22 [.agg (headC b)] (.i (longB b)) := by
 refine ⟨LC.of_go Tryd.func22 (c := _) rfl (by kernel_rfl) (by rw [Tryd.ntmps22]; simp) rfl rfl (by simp [LO.lt, LV.lts, LV.lt, lts_sv]) (by simp) ?_⟩
 intro B hA hmd
 have a0 := u8_lt (hd b 2)
 have a1 := u8_ge (hd b 2)
 have a2 := u8_lt (hd b 3)
 have a3 := u8_ge (hd b 3)
 refine .seq ?_
 refine .region rfl ?_
 refine R.box (h := ?_)
 refine R.assign (h := ?_)
 refine .n0 ?_
 refine .seq ?_
 refine .region rfl ?_
 refine R.indexArr I42 (hj := fun _ => ⟨by omega, by omega⟩) (h := ?_)
 first | refine R.loadB O5 (h := ?_) | refine R.load1 O5 (h := ?_)
 first | refine R.convI Tryd.runUnderlying5 Tryd.runUnderlying61 (h := ?_) | refine R.convW Tryd.runUnderlying5 Tryd.runUnderlying61 (h := ?_)
 refine R.bin (run_shlE _ _ _ _ _ _ _ (by omega) (shl8_u16 _ a1 a0)) (h := ?_)
 refine R.indexArr I42 (hj := fun _ => ⟨by omega, by omega⟩) (h := ?_)
 first | refine R.loadB O5 (h := ?_) | refine R.load1 O5 (h := ?_)
 first | refine R.convI Tryd.runUnderlying5 Tryd.runUnderlying61 (h := ?_) | refine R.convW Tryd.runUnderlying5 Tryd.runUnderlying61 (h := ?_)
 refine R.bin (run_orE _ _ _ _ _ _ (or8_u16 _ _ a1 a0 a3 a2)) (h := ?_)
 first | refine R.convI Tryd.runUnderlying61 Tryd.runUnderlying3 (h := ?_) | refine R.convW Tryd.runUnderlying61 Tryd.runUnderlying3 (h := ?_)
 rw [show ((hd b 2).toNat : Int) * 256 + ((hd b 3).toNat : Int) = ((longB b : Nat) : Int) from by unfold longB; omega]
 refine R.assign (h := ?_)
 refine .n0 ?_
 exact LGo.ret (ret_T Tryd.results22 hA hmd)

theorem fits_P (b : List UInt8) : PC Tryd.prog 27 [.sv (.sl 1 (bytesC b))] (.b (fitsB b)) := by
 refine ⟨LC.of_go Tryd.func27 (c := _) rfl (by kernel_rfl) (by rw [Tryd.ntmps27]; simp) rfl rfl (by simp [LO.lt, LV.lts, LV.lt, lts_sv]) (by simp) ?_⟩
 intro B hA hmd
 obtain ⟨g, e0⟩ : ∃ g, fitsB b = g := ⟨_, rfl⟩
 have e1 := e0
 unfold fitsB at e1
 rw [e0]
 refine .seq ?_
 refine .region rfl ?_
 refine R.assign (h := ?_)
 refine .n0 ?_
 refine .seq ?_
 refine .region rfl ?_
 refine R.alloc Z42 (h := ?_)
 refine .n0 ?_
 refine .seq ?_
 refine .seq ?_
 refine .region rfl ?_
 refine R.sliceArr AR42 (h := ?_)
 refine R.move (h := ?_)
 refine R.copySub SF22 Tryd.underlying22 (m := min b.length 4) (hm := by rw [bytesC_length]) (cs' := headC b) (hcs := copy_head b) (hys := bytesC_one b) (h := ?_)
 refine R.assign (h := ?_)
 refine .n0 ?_
 refine .seq ?_
 refine .region rfl ?_
 refine R.move (h := ?_)
 refine .n0 ?_
 refine .block ?_
 refine .seq ?_
 refine .block ?_
 refine .seq ?_
 refine .block ?_
 refine .seq ?_
 refine .block ?_
 refine .seq ?_
 refine .block ?_
 refine .seq ?_
 refine .seq ?_
 refine .seq ?_
 refine .region rfl ?_
 refine R.bin (run_eql _ _ _ _ _ _) (h := ?_)
 refine R.assign (h := ?_)
 refine .n0 ?_
 first | refine LGo.ifd (ht := fun hc => ?_) (hf := fun hc => ?_) | refine LGo.ifb (ht := fun hc => ?_) (hf := fun hc => ?_)
 ·
  refine .exit rfl ?_
  refine .seq ?_
  refine .region rfl ?_
  first | refine R.loadA A42 (h := ?_) | refine R.loadN A42 (h := ?_) | refine R.loadP A42 (h := ?_)
  refine R.callP (es := [_]) (fun _ => long_P b) (h := ?_)
  refine R.bin (run_eql _ _ _ _ _ _) (h := ?_)
  refine R.move (h := ?_)
  first | refine R.loadA A42 (h := ?_) | refine R.loadN A42 (h := ?_) | refine R.loadP A42 (h := ?_)
  refine R.callP (es := [_]) (fun _ => long_P b) (h := ?_)
  refine R.bin (run_gtr _ _ _ _ _ _) (h := ?_)
  refine R.or (h := ?_)
  refine .n0 ?_
  first | refine LGo.ifd (ht := fun hc2 => ?_) (hf := fun hc2 => ?_) | refine LGo.ifb (ht := fun hc2 => ?_) (hf := fun hc2 => ?_)
  ·
   refine .seq ?_
   refine .region rfl ?_
   refine R.assign (h := ?_)
   refine .n0 ?_
   refine LGo.eqB 2 g (hb := by
     clear hA hmd
     try simp only [Bool.or_eq_true, Bool.and_eq_true, decide_eq_true_eq, Bool.or_eq_false_iff, Bool.and_eq_false_iff, decide_eq_false_iff_not, Bool.not_eq_true', Bool.not_eq_false', Bool.not_eq_true, Bool.not_eq_false, Bool.false_eq_true, Bool.true_eq_false, iff_true, true_iff, iff_false, false_iff] at *
     rw [← e1]
     (repeat' split) <;> (rw [Bool.eq_iff_iff]; try simp only [Bool.or_eq_true, Bool.and_eq_true, decide_eq_true_eq, Bool.or_eq_false_iff, Bool.and_eq_false_iff, decide_eq_false_iff_not, Bool.not_eq_true', Bool.not_eq_false', Bool.not_eq_true, Bool.not_eq_false, Bool.false_eq_true, Bool.true_eq_false, iff_true, true_iff, iff_false, false_iff]; omega)) (h := ?_)
   exact LGo.ret (ret_T Tryd.results27 hA hmd)
  ·
   refine .skip ?_
   refine .inBlock ?_
   refine .seq ?_
   refine .region rfl ?_
   refine R.indexArr I42 (hj := fun _ => ⟨by omega, by omega⟩) (h := ?_)
   first | refine R.loadB O5 (h := ?_) | refine R.load1 O5 (h := ?_)
   refine R.bin (run_gtr _ _ _ _ _ _) (h := ?_)
   refine .n0 ?_
   first | refine LGo.ifd (ht := fun hc3 => ?_) (hf := fun hc3 => ?_) | refine LGo.ifb (ht := fun hc3 => ?_) (hf := fun hc3 => ?_)
   ·
    refine .seq ?_
    refine .region rfl ?_
    refine R.assign (h := ?_)
    refine .n0 ?_
    refine LGo.eqB 2 g (hb := by
      clear hA hmd
      try simp only [Bool.or_eq_true, Bool.and_eq_true, decide_eq_true_eq, Bool.or_eq_false_iff, Bool.and_eq_false_iff, decide_eq_false_iff_not, Bool.not_eq_true', Bool.not_eq_false', Bool.not_eq_true, Bool.not_eq_false, Bool.false_eq_true, Bool.true_eq_false, iff_true, true_iff, iff_false, false_iff] at *
      rw [← e1]
      (repeat' split) <;> (rw [Bool.eq_iff_iff]; try simp only [Bool.or_eq_true, Bool.and_eq_true, decide_eq_true_eq, Bool.or_eq_false_iff, Bool.and_eq_false_iff, decide_eq_false_iff_not, Bool.not_eq_true', Bool.not_eq_false', Bool.not_eq_true, Bool.not_eq_false, Bool.false_eq_true, Bool.true_eq_false, iff_true, true_iff, iff_false, false_iff]; omega)) (h := ?_)
    exact LGo.ret (ret_T Tryd.results27 hA hmd)
   ·
    refine .skip ?_
    refine .inBlock ?_
    refine .seq ?_
    refine .region rfl ?_
    refine R.indexArr I42 (hj := fun _ => ⟨by omega, by omega⟩) (h := ?_)
    first | refine R.loadB O5 (h := ?_) | refine R.load1 O5 (h := ?_)
    refine R.bin (run_neq _ _ _ _ _ _) (h := ?_)
    refine .n0 ?_
    first | refine LGo.ifd (ht := fun hc4 => ?_) (hf := fun hc4 => ?_) | refine LGo.ifb (ht := fun hc4 => ?_) (hf := fun hc4 => ?_)
    ·
     refine .seq ?_
     refine .region rfl ?_
     refine R.assign (h := ?_)
     refine .n0 ?_
     refine LGo.eqB 2 g (hb := by
       clear hA hmd
       try simp only [Bool.or_eq_true, Bool.and_eq_true, decide_eq_true_eq, Bool.or_eq_false_iff, Bool.and_eq_false_iff, decide_eq_false_iff_not, Bool.not_eq_true', Bool.not_eq_false', Bool.not_eq_true, Bool.not_eq_false, Bool.false_eq_true, Bool.true_eq_false, iff_true, true_iff, iff_false, false_iff] at *
       rw [← e1]
       (repeat' split) <;> (rw [Bool.eq_iff_iff]; try simp only [Bool.or_eq_true, Bool.and_eq_true, decide_eq_true_eq, Bool.or_eq_false_iff, Bool.and_eq_false_iff, decide_eq_false_iff_not, Bool.not_eq_true', Bool.not_eq_false', Bool.not_eq_true, Bool.not_eq_false, Bool.false_eq_true, Bool.true_eq_false, iff_true, true_iff, iff_false, false_iff]; omega)) (h := ?_)
     exact LGo.ret (ret_T Tryd.results27 hA hmd)
    ·
     refine .skip ?_
     refine .inBlock ?_
     refine .seq ?_
     refine .seq ?_
     refine .region rfl ?_
     refine R.indexArr I42 (hj := fun _ => ⟨by omega, by omega⟩) (h := ?_)
     first | refine R.loadB O5 (h := ?_) | refine R.load1 O5 (h := ?_)
     refine R.bin (run_eql _ _ _ _ _ _) (h := ?_)
     refine R.assign (h := ?_)
     refine .n0 ?_
     refine LGo.eqB 2 g (hb := by
       clear hA hmd
       try simp only [Bool.or_eq_true, Bool.and_eq_true, decide_eq_true_eq, Bool.or_eq_false_iff, Bool.and_eq_false_iff, decide_eq_false_iff_not, Bool.not_eq_true', Bool.not_eq_false', Bool.not_eq_true, Bool.not_eq_false, Bool.false_eq_true, Bool.true_eq_false, iff_true, true_iff, iff_false, false_iff] at *
       rw [← e1]
       (repeat' split) <;> (rw [Bool.eq_iff_iff]; try simp only [Bool.or_eq_true, Bool.and_eq_true, decide_eq_true_eq, Bool.or_eq_false_iff, Bool.and_eq_false_iff, decide_eq_false_iff_not, Bool.not_eq_true', Bool.not_eq_false', Bool.not_eq_true, Bool.not_eq_false, Bool.false_eq_true, Bool.true_eq_false, iff_true, true_iff, iff_false, false_iff]; omega)) (h := ?_)
     exact LGo.ret (ret_T Tryd.results27 hA hmd)
 ·
  refine .skip ?_
  refine .seq ?_
  refine .seq ?_
  refine .region rfl ?_
  refine R.bin (run_eql _ _ _ _ _ _) (h := ?_)
  refine R.assign (h := ?_)
  refine .n0 ?_
  first | refine LGo.ifd (ht := fun hc5 => ?_) (hf := fun hc5 => ?_) | refine LGo.ifb (ht := fun hc5 => ?_) (hf := fun hc5 => ?_)
  ·
   refine .exit rfl ?_
   refine .seq ?_
   refine .region rfl ?_
   refine R.indexArr I42 (hj := fun _ => ⟨by omega, by omega⟩) (h := ?_)
   first | refine R.loadB O5 (h := ?_) | refine R.load1 O5 (h := ?_)
   refine R.bin (run_gtr _ _ _ _ _ _) (h := ?_)
   refine .n0 ?_
   first | refine LGo.ifd (ht := fun hc6 => ?_) (hf := fun hc6 => ?_) | refine LGo.ifb (ht := fun hc6 => ?_) (hf := fun hc6 => ?_)
   ·
    refine .seq ?_
    refine .region rfl ?_
    refine R.assign (h := ?_)
    refine .n0 ?_
    refine LGo.eqB 2 g (hb := by
      clear hA hmd
      try simp only [Bool.or_eq_true, Bool.and_eq_true, decide_eq_true_eq, Bool.or_eq_false_iff, Bool.and_eq_false_iff, decide_eq_false_iff_not, Bool.not_eq_true', Bool.not_eq_false', Bool.not_eq_true, Bool.not_eq_false, Bool.false_eq_true, Bool.true_eq_false, iff_true, true_iff, iff_false, false_iff] at *
      rw [← e1]
      (repeat' split) <;> (rw [Bool.eq_iff_iff]; try simp only [Bool.or_eq_true, Bool.and_eq_true, decide_eq_true_eq, Bool.or_eq_false_iff, Bool.and_eq_false_iff, decide_eq_false_iff_not, Bool.not_eq_true', Bool.not_eq_false', Bool.not_eq_true, Bool.not_eq_false, Bool.false_eq_true, Bool.true_eq_false, iff_true, true_iff, iff_false, false_iff]; omega)) (h := ?_)
    exact LGo.ret (ret_T Tryd.results27 hA hmd)
   ·
    refine .skip ?_
    refine .inBlock ?_
    refine .seq ?_
    refine .region rfl ?_
    refine R.indexArr I42 (hj := fun _ => ⟨by omega, by omega⟩) (h := ?_)
    first | refine R.loadB O5 (h := ?_) | refine R.load1 O5 (h := ?_)
    refine R.bin (run_neq _ _ _ _ _ _) (h := ?_)
    refine .n0 ?_
    first | refine LGo.ifd (ht := fun hc7 => ?_) (hf := fun hc7 => ?_) | refine LGo.ifb (ht := fun hc7 => ?_) (hf := fun hc7 => ?_)
    ·
     refine .seq ?_
     refine .region rfl ?_
     refine R.assign (h := ?_)
     refine .n0 ?_
     refine LGo.eqB 2 g (hb := by
       clear hA hmd
       try simp only [Bool.or_eq_true, Bool.and_eq_true, decide_eq_true_eq, Bool.or_eq_false_iff, Bool.and_eq_false_iff, decide_eq_false_iff_not, Bool.not_eq_true', Bool.not_eq_false', Bool.not_eq_true, Bool.not_eq_false, Bool.false_eq_true, Bool.true_eq_false, iff_true, true_iff, iff_false, false_iff] at *
       rw [← e1]
       (repeat' split) <;> (rw [Bool.eq_iff_iff]; try simp only [Bool.or_eq_true, Bool.and_eq_true, decide_eq_true_eq, Bool.or_eq_false_iff, Bool.and_eq_false_iff, decide_eq_false_iff_not, Bool.not_eq_true', Bool.not_eq_false', Bool.not_eq_true, Bool.not_eq_false, Bool.false_eq_true, Bool.true_eq_false, iff_true, true_iff, iff_false, false_iff]; omega)) (h := ?_)
     exact LGo.ret (ret_T Tryd.results27 hA hmd)
    ·
     refine .skip ?_
     refine .inBlock ?_
     refine .seq ?_
     refine .seq ?_
     refine .region rfl ?_
     refine R.indexArr I42 (hj := fun _ => ⟨by omega, by omega⟩) (h := ?_)
     first | refine R.loadB O5 (h := ?_) | refine R.load1 O5 (h := ?_)
     refine R.bin (run_eql _ _ _ _ _ _) (h := ?_)
     refine R.assign (h := ?_)
     refine .n0 ?_
     refine LGo.eqB 2 g (hb := by
       clear hA hmd
       try simp only [Bool.or_eq_true, Bool.and_eq_true, decide_eq_true_eq, Bool.or_eq_false_iff, Bool.and_eq_false_iff, decide_eq_false_iff_not, Bool.not_eq_true', Bool.not_eq_false', Bool.not_eq_true, Bool.not_eq_false, Bool.false_eq_true, Bool.true_eq_false, iff_true, true_iff, iff_false, false_iff] at *
       rw [← e1]
       (repeat' split) <;> (rw [Bool.eq_iff_iff]; try simp only [Bool.or_eq_true, Bool.and_eq_true, decide_eq_true_eq, Bool.or_eq_false_iff, Bool.and_eq_false_iff, decide_eq_false_iff_not, Bool.not_eq_true', Bool.not_eq_false', Bool.not_eq_true, Bool.not_eq_false, Bool.false_eq_true, Bool.true_eq_false, iff_true, true_iff, iff_false, false_iff]; omega)) (h := ?_)
     exact LGo.ret (ret_T Tryd.results27 hA hmd)
  ·
   refine .skip ?_
   refine .seq ?_
   refine .seq ?_
   refine .region rfl ?_
   refine R.bin (run_eql _ _ _ _ _ _) (h := ?_)
   refine R.assign (h := ?_)
   refine .n0 ?_
   first | refine LGo.ifd (ht := fun hc8 => ?_) (hf := fun hc8 => ?_) | refine LGo.ifb (ht := fun hc8 => ?_) (hf := fun hc8 => ?_)
   ·
    refine .exit rfl ?_
    refine .seq ?_
    refine .region rfl ?_
    refine R.indexArr I42 (hj := fun _ => ⟨by omega, by omega⟩) (h := ?_)
    first | refine R.loadB O5 (h := ?_) | refine R.load1 O5 (h := ?_)
    refine R.bin (run_neq _ _ _ _ _ _) (h := ?_)
    refine .n0 ?_
    first | refine LGo.ifd (ht := fun hc9 => ?_) (hf := fun hc9 => ?_) | refine LGo.ifb (ht := fun hc9 => ?_) (hf := fun hc9 => ?_)
    ·
     refine .seq ?_
     refine .region rfl ?_
     refine R.assign (h := ?_)
     refine .n0 ?_
     refine LGo.eqB 2 g (hb := by
       clear hA hmd
       try simp only [Bool.or_eq_true, Bool.and_eq_true, decide_eq_true_eq, Bool.or_eq_false_iff, Bool.and_eq_false_iff, decide_eq_false_iff_not, Bool.not_eq_true', Bool.not_eq_false', Bool.not_eq_true, Bool.not_eq_false, Bool.false_eq_true, Bool.true_eq_false, iff_true, true_iff, iff_false, false_iff] at *
       rw [← e1]
       (repeat' split) <;> (rw [Bool.eq_iff_iff]; try simp only [Bool.or_eq_true, Bool.and_eq_true, decide_eq_true_eq, Bool.or_eq_false_iff, Bool.and_eq_false_iff, decide_eq_false_iff_not, Bool.not_eq_true', Bool.not_eq_false', Bool.not_eq_true, Bool.not_eq_false, Bool.false_eq_true, Bool.true_eq_false, iff_true, true_iff, iff_false, false_iff]; omega)) (h := ?_)
     exact LGo.ret (ret_T Tryd.results27 hA hmd)
    ·
     refine .skip ?_
     refine .inBlock ?_
     refine .seq ?_
     refine .seq ?_
     refine .region rfl ?_
     refine R.indexArr I42 (hj := fun _ => ⟨by omega, by omega⟩) (h := ?_)
     first | refine R.loadB O5 (h := ?_) | refine R.load1 O5 (h := ?_)
     refine R.bin (run_eql _ _ _ _ _ _) (h := ?_)
     refine R.assign (h := ?_)
     refine .n0 ?_
     refine LGo.eqB 2 g (hb := by
       clear hA hmd
       try simp only [Bool.or_eq_true, Bool.and_eq_true, decide_eq_true_eq, Bool.or_eq_false_iff, Bool.and_eq_false_iff, decide_eq_false_iff_not, Bool.not_eq_true', Bool.not_eq_false', Bool.not_eq_true, Bool.not_eq_false, Bool.false_eq_true, Bool.true_eq_false, iff_true, true_iff, iff_false, false_iff] at *
       rw [← e1]
       (repeat' split) <;> (rw [Bool.eq_iff_iff]; try simp only [Bool.or_eq_true, Bool.and_eq_true, decide_eq_true_eq, Bool.or_eq_false_iff, Bool.and_eq_false_iff, decide_eq_false_iff_not, Bool.not_eq_true', Bool.not_eq_false', Bool.not_eq_true, Bool.not_eq_false, Bool.false_eq_true, Bool.true_eq_false, iff_true, true_iff, iff_false, false_iff]; omega)) (h := ?_)
     exact LGo.ret (ret_T Tryd.results27 hA hmd)
   ·
    refine .skip ?_
    refine .seq ?_
    refine .region rfl ?_
    refine R.bin (run_eql _ _ _ _ _ _) (h := ?_)
    refine R.assign (h := ?_)
    refine .n0 ?_
    first | refine LGo.ifd (ht := fun hc10 => ?_) (hf := fun hc10 => ?_) | refine LGo.ifb (ht := fun hc10 => ?_) (hf := fun hc10 => ?_)
    ·
     refine .exit rfl ?_
     refine .seq ?_
     refine .seq ?_
     refine .region rfl ?_
     refine R.indexArr I42 (hj := fun _ => ⟨by omega, by omega⟩) (h := ?_)
     first | refine R.loadB O5 (h := ?_) | refine R.load1 O5 (h := ?_)
     refine R.bin (run_eql _ _ _ _ _ _) (h := ?_)
     refine R.assign (h := ?_)
     refine .n0 ?_
     refine LGo.eqB 2 g (hb := by
       clear hA hmd
       try simp only [Bool.or_eq_true, Bool.and_eq_true, decide_eq_true_eq, Bool.or_eq_false_iff, Bool.and_eq_false_iff, decide_eq_false_iff_not, Bool.not_eq_true', Bool.not_eq_false', Bool.not_eq_true, Bool.not_eq_false, Bool.false_eq_true, Bool.true_eq_false, iff_true, true_iff, iff_false, false_iff] at *
       rw [← e1]
       (repeat' split) <;> (rw [Bool.eq_iff_iff]; try simp only [Bool.or_eq_true, Bool.and_eq_true, decide_eq_true_eq, Bool.or_eq_false_iff, Bool.and_eq_false_iff, decide_eq_false_iff_not, Bool.not_eq_true', Bool.not_eq_false', Bool.not_eq_true, Bool.not_eq_false, Bool.false_eq_true, Bool.true_eq_false, iff_true, true_iff, iff_false, false_iff]; omega)) (h := ?_)
     exact LGo.ret (ret_T Tryd.results27 hA hmd)
    ·
     refine .skip ?_
     refine .exit rfl ?_
     refine .seq ?_
     refine .region rfl ?_
     refine R.assign (h := ?_)
     refine .n0 ?_
     refine LGo.eqB 2 g (hb := by
       clear hA hmd
       try simp only [Bool.or_eq_true, Bool.and_eq_true, decide_eq_true_eq, Bool.or_eq_false_iff, Bool.and_eq_false_iff, decide_eq_false_iff_not, Bool.not_eq_true', Bool.not_eq_false', Bool.not_eq_true, Bool.not_eq_false, Bool.false_eq_true, Bool.true_eq_false, iff_true, true_iff, iff_false, false_iff] at *
       rw [← e1]
       (repeat' split) <;> (rw [Bool.eq_iff_iff]; try simp only [Bool.or_eq_true, Bool.and_eq_true, decide_eq_true_eq, Bool.or_eq_false_iff, Bool.and_eq_false_iff, decide_eq_false_iff_not, Bool.not_eq_true', Bool.not_eq_false', Bool.not_eq_true, Bool.not_eq_false, Bool.false_eq_true, Bool.true_eq_false, iff_true, true_iff, iff_false, false_iff]; omega)) (h := ?_)
     exact LGo.ret (ret_T Tryd.results27 hA hmd)

end Go.Proofs.YtnamkhifmankmaaDoor
