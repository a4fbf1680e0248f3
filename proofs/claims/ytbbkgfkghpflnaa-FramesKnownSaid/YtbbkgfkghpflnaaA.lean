/- frames: the length in a head, the beginning of a head. -/
import Derived.Test.YtbbkgfkghpflnaaT
import Derived.Test.YtbbkgfkghpflnaaL
set_option linter.unusedSimpArgs false
set_option linter.unusedVariables false
namespace Go.Proofs.Ytbbkgfkghpflnaa

theorem or8_u16 (a c : Int) (ha : 0 ≤ a) (ha' : a < 256) (hc : 0 ≤ c) (hc' : c < 256) : IntKind.u16.wrap ((BitVec.ofInt IntKind.u16.bits (a * 256) ||| BitVec.ofInt IntKind.u16.bits c).toNat) = a * 256 + c :=
  or_low_uk (k := .u16) rfl a c 8 ha hc hc' (by simp only [IntKind.bits]; omega)
theorem shl8_u16 (a : Int) (h0 : 0 ≤ a) (h1 : a < 256) : IntKind.u16.wrap (a * 2 ^ (min (Int.toNat 8) IntKind.u16.bits)) = a * 256 := by
  show IntKind.u16.wrap (a * 256) = _
  exact wrap_u rfl (by omega) (by simp only [IntKind.bits]; omega)
def hd (b : List UInt8) (i : Nat) : UInt8 := (b[i]?).getD 0
/-- the length that a head says -/
def longB (b : List UInt8) : Nat := 256 * (hd b 2).toNat + (hd b 3).toNat
def headC (b : List UInt8) : List LV := [.y (hd b 0).toNat, .y (hd b 1).toNat, .y (hd b 2).toNat, .y (hd b 3).toNat]
def fitsB (b : List UInt8) : Bool :=
  if 4 ≤ b.length then decide (1 ≤ longB b ∧ longB b ≤ 1024 ∧ (hd b 2).toNat ≤ 4 ∧ (hd b 1).toNat = 1 ∧ (hd b 0).toNat = 71)
  else if b.length = 3 then decide ((hd b 2).toNat ≤ 4 ∧ (hd b 1).toNat = 1 ∧ (hd b 0).toNat = 71)
  else if b.length = 2 then decide ((hd b 1).toNat = 1 ∧ (hd b 0).toNat = 71)
  else if b.length = 1 then decide ((hd b 0).toNat = 71) else true
theorem hd_get {b : List UInt8} {i : Nat} (h : i < b.length) : b[i]? = some (hd b i) := by simp [hd, h]
theorem copy_head (b : List UInt8) : ((((bytesC b).take (min b.length 4)).map (List.map LV.sv)).flatten ++ [LV.y 0, .y 0, .y 0, .y 0].drop (min b.length 4)) = headC b := by
  match b with
  | [] => rfl
  | [a] => rfl
  | [a, c] => rfl
  | [a, c, e] => rfl
  | a :: c :: e :: f :: l =>
    have : min (a :: c :: e :: f :: l).length 4 = 4 := by simp only [List.length_cons]; omega
    rw [this]; rfl

theorem long_P (b : List UInt8) : PC Try.prog 15 [.agg (headC b)] (.i (longB b)) := by
  refine ⟨LC.of_go Try.func15 (c := _) rfl (by kernel_rfl) (by rw [Try.ntmps15]; simp) rfl rfl (by simp [LO.lt, LV.lts, LV.lt]) (by simp) ?_⟩
  intro B hA hmd
  have a0 := u8_lt (hd b 2)
  have a1 := u8_ge (hd b 2)
  have a2 := u8_lt (hd b 3)
  have a3 := u8_ge (hd b 3)
  refine LGo.seq ?_
  refine LGo.region rfl ?_  -- region 0
  refine R.box (h := ?_)
  refine R.assign (h := ?_)
  refine Reg.nil ⟨fun h => (by cases h), ?_⟩
  refine LGo.seq ?_
  refine LGo.region rfl ?_  -- region 1
  refine R.indexArr I47 (hj := fun _ => ⟨by omega, by omega⟩) (h := ?_)
  first | refine R.loadB O5 (h := ?_) | refine R.load1 O5 (h := ?_)
  first | refine R.convI Try.runUnderlying5 Try.runUnderlying34 (h := ?_) | refine R.convW Try.runUnderlying5 Try.runUnderlying34 (h := ?_)
  refine R.bin (run_shlE _ _ _ _ _ _ _ (by omega) (shl8_u16 _ a1 a0)) (h := ?_)
  refine R.indexArr I47 (hj := fun _ => ⟨by omega, by omega⟩) (h := ?_)
  first | refine R.loadB O5 (h := ?_) | refine R.load1 O5 (h := ?_)
  first | refine R.convI Try.runUnderlying5 Try.runUnderlying34 (h := ?_) | refine R.convW Try.runUnderlying5 Try.runUnderlying34 (h := ?_)
  refine R.bin (run_orE _ _ _ _ _ _ (or8_u16 _ _ a1 a0 a3 a2)) (h := ?_)
  first | refine R.convI Try.runUnderlying34 Try.runUnderlying3 (h := ?_) | refine R.convW Try.runUnderlying34 Try.runUnderlying3 (h := ?_)
  rw [show ((hd b 2).toNat : Int) * 256 + ((hd b 3).toNat : Int) = ((longB b : Nat) : Int) from by unfold longB; omega]
  refine R.assign (h := ?_)
  refine Reg.nil ⟨fun h => (by cases h), ?_⟩
  exact LGo.ret (ret_T Try.results15 hA hmd)

theorem fits_P (b : List UInt8) : PC Try.prog 19 [.sv (.sl 1 (bytesC b))] (.b (fitsB b)) := by
  refine ⟨LC.of_go Try.func19 (c := _) rfl (by kernel_rfl) (by rw [Try.ntmps19]; simp) rfl rfl (by simp [LO.lt, LV.lts, LV.lt]) (by simp) ?_⟩
  intro B hA hmd
  obtain ⟨g, e0⟩ : ∃ g, fitsB b = g := ⟨_, rfl⟩
  have e1 := e0
  unfold fitsB at e1
  rw [e0]
  refine LGo.seq ?_
  refine LGo.region rfl ?_  -- region 0
  refine R.assign (h := ?_)
  refine Reg.nil ⟨fun h => (by cases h), ?_⟩
  refine LGo.seq ?_
  refine LGo.region rfl ?_  -- region 1
  refine R.alloc Z47 (h := ?_)
  refine Reg.nil ⟨fun h => (by cases h), ?_⟩
  refine LGo.seq ?_
  refine LGo.seq ?_
  refine LGo.region rfl ?_  -- region 2
  refine R.sliceArr AR47 (h := ?_)
  refine R.move (h := ?_)
  refine R.copySub SF22 Try.underlying22 (m := min b.length 4) (hm := by rw [bytesC_length]) (cs' := headC b) (hcs := copy_head b) (hys := bytesC_one b) (h := ?_)
  refine R.assign (h := ?_)
  refine Reg.nil ⟨fun h => (by cases h), ?_⟩
  refine LGo.seq ?_
  refine LGo.region rfl ?_  -- region 3
  refine R.move (h := ?_)
  refine Reg.nil ⟨fun h => (by cases h), ?_⟩
  refine LGo.block ?_
  refine LGo.seq ?_
  refine LGo.block ?_
  refine LGo.seq ?_
  refine LGo.block ?_
  refine LGo.seq ?_
  refine LGo.block ?_
  refine LGo.seq ?_
  refine LGo.block ?_
  refine LGo.seq ?_
  refine LGo.seq ?_
  refine LGo.seq ?_
  refine LGo.region rfl ?_  -- region 4
  refine R.bin (run_eql _ _ _ _ _ _) (h := ?_)
  refine R.assign (h := ?_)
  refine Reg.nil ⟨fun h => (by cases h), ?_⟩
  first | refine LGo.ifd (ht := fun hc => ?_) (hf := fun hc => ?_) | refine LGo.ifb (ht := fun hc => ?_) (hf := fun hc => ?_)
  · -- then 1
    refine LGo.exit rfl ?_
    refine LGo.seq ?_
    refine LGo.region rfl ?_  -- region 8
    first | refine R.loadA A47 (h := ?_) | refine R.loadN A47 (h := ?_)
    refine R.callP (es := [_]) (fun _ => long_P b) (h := ?_)
    refine R.bin (run_eql _ _ _ _ _ _) (h := ?_)
    refine R.move (h := ?_)
    first | refine R.loadA A47 (h := ?_) | refine R.loadN A47 (h := ?_)
    refine R.callP (es := [_]) (fun _ => long_P b) (h := ?_)
    refine R.bin (run_gtr _ _ _ _ _ _) (h := ?_)
    refine R.or (h := ?_)
    refine Reg.nil ⟨fun h => (by cases h), ?_⟩
    first | refine LGo.ifd (ht := fun hc2 => ?_) (hf := fun hc2 => ?_) | refine LGo.ifb (ht := fun hc2 => ?_) (hf := fun hc2 => ?_)
    · -- then 2
      refine LGo.seq ?_
      refine LGo.region rfl ?_  -- region 9
      refine R.assign (h := ?_)
      refine Reg.nil ⟨fun h => (by cases h), ?_⟩
      refine LGo.eqB 2 g (hb := by
        clear hA hmd
        try simp only [Bool.or_eq_true, Bool.and_eq_true, decide_eq_true_eq, Bool.or_eq_false_iff, Bool.and_eq_false_iff, decide_eq_false_iff_not, Bool.not_eq_true', Bool.not_eq_false', Bool.not_eq_true, Bool.not_eq_false, Bool.false_eq_true, Bool.true_eq_false, iff_true, true_iff, iff_false, false_iff] at *
        rw [← e1]
        (repeat' split) <;> (rw [Bool.eq_iff_iff]; try simp only [Bool.or_eq_true, Bool.and_eq_true, decide_eq_true_eq, Bool.or_eq_false_iff, Bool.and_eq_false_iff, decide_eq_false_iff_not, Bool.not_eq_true', Bool.not_eq_false', Bool.not_eq_true, Bool.not_eq_false, Bool.false_eq_true, Bool.true_eq_false, iff_true, true_iff, iff_false, false_iff]; omega)) (h := ?_)
      exact LGo.ret (ret_T Try.results19 hA hmd)
    · -- else 2
      refine LGo.skip ?_
      refine LGo.inBlock ?_
      refine LGo.seq ?_
      refine LGo.region rfl ?_  -- region 10
      refine R.indexArr I47 (hj := fun _ => ⟨by omega, by omega⟩) (h := ?_)
      first | refine R.loadB O5 (h := ?_) | refine R.load1 O5 (h := ?_)
      refine R.bin (run_gtr _ _ _ _ _ _) (h := ?_)
      refine Reg.nil ⟨fun h => (by cases h), ?_⟩
      first | refine LGo.ifd (ht := fun hc3 => ?_) (hf := fun hc3 => ?_) | refine LGo.ifb (ht := fun hc3 => ?_) (hf := fun hc3 => ?_)
      · -- then 3
        refine LGo.seq ?_
        refine LGo.region rfl ?_  -- region 11
        refine R.assign (h := ?_)
        refine Reg.nil ⟨fun h => (by cases h), ?_⟩
        refine LGo.eqB 2 g (hb := by
          clear hA hmd
          try simp only [Bool.or_eq_true, Bool.and_eq_true, decide_eq_true_eq, Bool.or_eq_false_iff, Bool.and_eq_false_iff, decide_eq_false_iff_not, Bool.not_eq_true', Bool.not_eq_false', Bool.not_eq_true, Bool.not_eq_false, Bool.false_eq_true, Bool.true_eq_false, iff_true, true_iff, iff_false, false_iff] at *
          rw [← e1]
          (repeat' split) <;> (rw [Bool.eq_iff_iff]; try simp only [Bool.or_eq_true, Bool.and_eq_true, decide_eq_true_eq, Bool.or_eq_false_iff, Bool.and_eq_false_iff, decide_eq_false_iff_not, Bool.not_eq_true', Bool.not_eq_false', Bool.not_eq_true, Bool.not_eq_false, Bool.false_eq_true, Bool.true_eq_false, iff_true, true_iff, iff_false, false_iff]; omega)) (h := ?_)
        exact LGo.ret (ret_T Try.results19 hA hmd)
      · -- else 3
        refine LGo.skip ?_
        refine LGo.inBlock ?_
        refine LGo.seq ?_
        refine LGo.region rfl ?_  -- region 12
        refine R.indexArr I47 (hj := fun _ => ⟨by omega, by omega⟩) (h := ?_)
        first | refine R.loadB O5 (h := ?_) | refine R.load1 O5 (h := ?_)
        refine R.bin (run_neq _ _ _ _ _ _) (h := ?_)
        refine Reg.nil ⟨fun h => (by cases h), ?_⟩
        first | refine LGo.ifd (ht := fun hc4 => ?_) (hf := fun hc4 => ?_) | refine LGo.ifb (ht := fun hc4 => ?_) (hf := fun hc4 => ?_)
        · -- then 4
          refine LGo.seq ?_
          refine LGo.region rfl ?_  -- region 13
          refine R.assign (h := ?_)
          refine Reg.nil ⟨fun h => (by cases h), ?_⟩
          refine LGo.eqB 2 g (hb := by
            clear hA hmd
            try simp only [Bool.or_eq_true, Bool.and_eq_true, decide_eq_true_eq, Bool.or_eq_false_iff, Bool.and_eq_false_iff, decide_eq_false_iff_not, Bool.not_eq_true', Bool.not_eq_false', Bool.not_eq_true, Bool.not_eq_false, Bool.false_eq_true, Bool.true_eq_false, iff_true, true_iff, iff_false, false_iff] at *
            rw [← e1]
            (repeat' split) <;> (rw [Bool.eq_iff_iff]; try simp only [Bool.or_eq_true, Bool.and_eq_true, decide_eq_true_eq, Bool.or_eq_false_iff, Bool.and_eq_false_iff, decide_eq_false_iff_not, Bool.not_eq_true', Bool.not_eq_false', Bool.not_eq_true, Bool.not_eq_false, Bool.false_eq_true, Bool.true_eq_false, iff_true, true_iff, iff_false, false_iff]; omega)) (h := ?_)
          exact LGo.ret (ret_T Try.results19 hA hmd)
        · -- else 4
          refine LGo.skip ?_
          refine LGo.inBlock ?_
          refine LGo.seq ?_
          refine LGo.seq ?_
          refine LGo.region rfl ?_  -- region 14
          refine R.indexArr I47 (hj := fun _ => ⟨by omega, by omega⟩) (h := ?_)
          first | refine R.loadB O5 (h := ?_) | refine R.load1 O5 (h := ?_)
          refine R.bin (run_eql _ _ _ _ _ _) (h := ?_)
          refine R.assign (h := ?_)
          refine Reg.nil ⟨fun h => (by cases h), ?_⟩
          refine LGo.eqB 2 g (hb := by
            clear hA hmd
            try simp only [Bool.or_eq_true, Bool.and_eq_true, decide_eq_true_eq, Bool.or_eq_false_iff, Bool.and_eq_false_iff, decide_eq_false_iff_not, Bool.not_eq_true', Bool.not_eq_false', Bool.not_eq_true, Bool.not_eq_false, Bool.false_eq_true, Bool.true_eq_false, iff_true, true_iff, iff_false, false_iff] at *
            rw [← e1]
            (repeat' split) <;> (rw [Bool.eq_iff_iff]; try simp only [Bool.or_eq_true, Bool.and_eq_true, decide_eq_true_eq, Bool.or_eq_false_iff, Bool.and_eq_false_iff, decide_eq_false_iff_not, Bool.not_eq_true', Bool.not_eq_false', Bool.not_eq_true, Bool.not_eq_false, Bool.false_eq_true, Bool.true_eq_false, iff_true, true_iff, iff_false, false_iff]; omega)) (h := ?_)
          exact LGo.ret (ret_T Try.results19 hA hmd)
  · -- else 1
    refine LGo.skip ?_
    refine LGo.seq ?_
    refine LGo.seq ?_
    refine LGo.region rfl ?_  -- region 5
    refine R.bin (run_eql _ _ _ _ _ _) (h := ?_)
    refine R.assign (h := ?_)
    refine Reg.nil ⟨fun h => (by cases h), ?_⟩
    first | refine LGo.ifd (ht := fun hc5 => ?_) (hf := fun hc5 => ?_) | refine LGo.ifb (ht := fun hc5 => ?_) (hf := fun hc5 => ?_)
    · -- then 5
      refine LGo.exit rfl ?_
      refine LGo.seq ?_
      refine LGo.region rfl ?_  -- region 10
      refine R.indexArr I47 (hj := fun _ => ⟨by omega, by omega⟩) (h := ?_)
      first | refine R.loadB O5 (h := ?_) | refine R.load1 O5 (h := ?_)
      refine R.bin (run_gtr _ _ _ _ _ _) (h := ?_)
      refine Reg.nil ⟨fun h => (by cases h), ?_⟩
      first | refine LGo.ifd (ht := fun hc6 => ?_) (hf := fun hc6 => ?_) | refine LGo.ifb (ht := fun hc6 => ?_) (hf := fun hc6 => ?_)
      · -- then 6
        refine LGo.seq ?_
        refine LGo.region rfl ?_  -- region 11
        refine R.assign (h := ?_)
        refine Reg.nil ⟨fun h => (by cases h), ?_⟩
        refine LGo.eqB 2 g (hb := by
          clear hA hmd
          try simp only [Bool.or_eq_true, Bool.and_eq_true, decide_eq_true_eq, Bool.or_eq_false_iff, Bool.and_eq_false_iff, decide_eq_false_iff_not, Bool.not_eq_true', Bool.not_eq_false', Bool.not_eq_true, Bool.not_eq_false, Bool.false_eq_true, Bool.true_eq_false, iff_true, true_iff, iff_false, false_iff] at *
          rw [← e1]
          (repeat' split) <;> (rw [Bool.eq_iff_iff]; try simp only [Bool.or_eq_true, Bool.and_eq_true, decide_eq_true_eq, Bool.or_eq_false_iff, Bool.and_eq_false_iff, decide_eq_false_iff_not, Bool.not_eq_true', Bool.not_eq_false', Bool.not_eq_true, Bool.not_eq_false, Bool.false_eq_true, Bool.true_eq_false, iff_true, true_iff, iff_false, false_iff]; omega)) (h := ?_)
        exact LGo.ret (ret_T Try.results19 hA hmd)
      · -- else 6
        refine LGo.skip ?_
        refine LGo.inBlock ?_
        refine LGo.seq ?_
        refine LGo.region rfl ?_  -- region 12
        refine R.indexArr I47 (hj := fun _ => ⟨by omega, by omega⟩) (h := ?_)
        first | refine R.loadB O5 (h := ?_) | refine R.load1 O5 (h := ?_)
        refine R.bin (run_neq _ _ _ _ _ _) (h := ?_)
        refine Reg.nil ⟨fun h => (by cases h), ?_⟩
        first | refine LGo.ifd (ht := fun hc7 => ?_) (hf := fun hc7 => ?_) | refine LGo.ifb (ht := fun hc7 => ?_) (hf := fun hc7 => ?_)
        · -- then 7
          refine LGo.seq ?_
          refine LGo.region rfl ?_  -- region 13
          refine R.assign (h := ?_)
          refine Reg.nil ⟨fun h => (by cases h), ?_⟩
          refine LGo.eqB 2 g (hb := by
            clear hA hmd
            try simp only [Bool.or_eq_true, Bool.and_eq_true, decide_eq_true_eq, Bool.or_eq_false_iff, Bool.and_eq_false_iff, decide_eq_false_iff_not, Bool.not_eq_true', Bool.not_eq_false', Bool.not_eq_true, Bool.not_eq_false, Bool.false_eq_true, Bool.true_eq_false, iff_true, true_iff, iff_false, false_iff] at *
            rw [← e1]
            (repeat' split) <;> (rw [Bool.eq_iff_iff]; try simp only [Bool.or_eq_true, Bool.and_eq_true, decide_eq_true_eq, Bool.or_eq_false_iff, Bool.and_eq_false_iff, decide_eq_false_iff_not, Bool.not_eq_true', Bool.not_eq_false', Bool.not_eq_true, Bool.not_eq_false, Bool.false_eq_true, Bool.true_eq_false, iff_true, true_iff, iff_false, false_iff]; omega)) (h := ?_)
          exact LGo.ret (ret_T Try.results19 hA hmd)
        · -- else 7
          refine LGo.skip ?_
          refine LGo.inBlock ?_
          refine LGo.seq ?_
          refine LGo.seq ?_
          refine LGo.region rfl ?_  -- region 14
          refine R.indexArr I47 (hj := fun _ => ⟨by omega, by omega⟩) (h := ?_)
          first | refine R.loadB O5 (h := ?_) | refine R.load1 O5 (h := ?_)
          refine R.bin (run_eql _ _ _ _ _ _) (h := ?_)
          refine R.assign (h := ?_)
          refine Reg.nil ⟨fun h => (by cases h), ?_⟩
          refine LGo.eqB 2 g (hb := by
            clear hA hmd
            try simp only [Bool.or_eq_true, Bool.and_eq_true, decide_eq_true_eq, Bool.or_eq_false_iff, Bool.and_eq_false_iff, decide_eq_false_iff_not, Bool.not_eq_true', Bool.not_eq_false', Bool.not_eq_true, Bool.not_eq_false, Bool.false_eq_true, Bool.true_eq_false, iff_true, true_iff, iff_false, false_iff] at *
            rw [← e1]
            (repeat' split) <;> (rw [Bool.eq_iff_iff]; try simp only [Bool.or_eq_true, Bool.and_eq_true, decide_eq_true_eq, Bool.or_eq_false_iff, Bool.and_eq_false_iff, decide_eq_false_iff_not, Bool.not_eq_true', Bool.not_eq_false', Bool.not_eq_true, Bool.not_eq_false, Bool.false_eq_true, Bool.true_eq_false, iff_true, true_iff, iff_false, false_iff]; omega)) (h := ?_)
          exact LGo.ret (ret_T Try.results19 hA hmd)
    · -- else 5
      refine LGo.skip ?_
      refine LGo.seq ?_
      refine LGo.seq ?_
      refine LGo.region rfl ?_  -- region 6
      refine R.bin (run_eql _ _ _ _ _ _) (h := ?_)
      refine R.assign (h := ?_)
      refine Reg.nil ⟨fun h => (by cases h), ?_⟩
      first | refine LGo.ifd (ht := fun hc8 => ?_) (hf := fun hc8 => ?_) | refine LGo.ifb (ht := fun hc8 => ?_) (hf := fun hc8 => ?_)
      · -- then 8
        refine LGo.exit rfl ?_
        refine LGo.seq ?_
        refine LGo.region rfl ?_  -- region 12
        refine R.indexArr I47 (hj := fun _ => ⟨by omega, by omega⟩) (h := ?_)
        first | refine R.loadB O5 (h := ?_) | refine R.load1 O5 (h := ?_)
        refine R.bin (run_neq _ _ _ _ _ _) (h := ?_)
        refine Reg.nil ⟨fun h => (by cases h), ?_⟩
        first | refine LGo.ifd (ht := fun hc9 => ?_) (hf := fun hc9 => ?_) | refine LGo.ifb (ht := fun hc9 => ?_) (hf := fun hc9 => ?_)
        · -- then 9
          refine LGo.seq ?_
          refine LGo.region rfl ?_  -- region 13
          refine R.assign (h := ?_)
          refine Reg.nil ⟨fun h => (by cases h), ?_⟩
          refine LGo.eqB 2 g (hb := by
            clear hA hmd
            try simp only [Bool.or_eq_true, Bool.and_eq_true, decide_eq_true_eq, Bool.or_eq_false_iff, Bool.and_eq_false_iff, decide_eq_false_iff_not, Bool.not_eq_true', Bool.not_eq_false', Bool.not_eq_true, Bool.not_eq_false, Bool.false_eq_true, Bool.true_eq_false, iff_true, true_iff, iff_false, false_iff] at *
            rw [← e1]
            (repeat' split) <;> (rw [Bool.eq_iff_iff]; try simp only [Bool.or_eq_true, Bool.and_eq_true, decide_eq_true_eq, Bool.or_eq_false_iff, Bool.and_eq_false_iff, decide_eq_false_iff_not, Bool.not_eq_true', Bool.not_eq_false', Bool.not_eq_true, Bool.not_eq_false, Bool.false_eq_true, Bool.true_eq_false, iff_true, true_iff, iff_false, false_iff]; omega)) (h := ?_)
          exact LGo.ret (ret_T Try.results19 hA hmd)
        · -- else 9
          refine LGo.skip ?_
          refine LGo.inBlock ?_
          refine LGo.seq ?_
          refine LGo.seq ?_
          refine LGo.region rfl ?_  -- region 14
          refine R.indexArr I47 (hj := fun _ => ⟨by omega, by omega⟩) (h := ?_)
          first | refine R.loadB O5 (h := ?_) | refine R.load1 O5 (h := ?_)
          refine R.bin (run_eql _ _ _ _ _ _) (h := ?_)
          refine R.assign (h := ?_)
          refine Reg.nil ⟨fun h => (by cases h), ?_⟩
          refine LGo.eqB 2 g (hb := by
            clear hA hmd
            try simp only [Bool.or_eq_true, Bool.and_eq_true, decide_eq_true_eq, Bool.or_eq_false_iff, Bool.and_eq_false_iff, decide_eq_false_iff_not, Bool.not_eq_true', Bool.not_eq_false', Bool.not_eq_true, Bool.not_eq_false, Bool.false_eq_true, Bool.true_eq_false, iff_true, true_iff, iff_false, false_iff] at *
            rw [← e1]
            (repeat' split) <;> (rw [Bool.eq_iff_iff]; try simp only [Bool.or_eq_true, Bool.and_eq_true, decide_eq_true_eq, Bool.or_eq_false_iff, Bool.and_eq_false_iff, decide_eq_false_iff_not, Bool.not_eq_true', Bool.not_eq_false', Bool.not_eq_true, Bool.not_eq_false, Bool.false_eq_true, Bool.true_eq_false, iff_true, true_iff, iff_false, false_iff]; omega)) (h := ?_)
          exact LGo.ret (ret_T Try.results19 hA hmd)
      · -- else 8
        refine LGo.skip ?_
        refine LGo.seq ?_
        refine LGo.region rfl ?_  -- region 7
        refine R.bin (run_eql _ _ _ _ _ _) (h := ?_)
        refine R.assign (h := ?_)
        refine Reg.nil ⟨fun h => (by cases h), ?_⟩
        first | refine LGo.ifd (ht := fun hc10 => ?_) (hf := fun hc10 => ?_) | refine LGo.ifb (ht := fun hc10 => ?_) (hf := fun hc10 => ?_)
        · -- then 10
          refine LGo.exit rfl ?_
          refine LGo.seq ?_
          refine LGo.seq ?_
          refine LGo.region rfl ?_  -- region 14
          refine R.indexArr I47 (hj := fun _ => ⟨by omega, by omega⟩) (h := ?_)
          first | refine R.loadB O5 (h := ?_) | refine R.load1 O5 (h := ?_)
          refine R.bin (run_eql _ _ _ _ _ _) (h := ?_)
          refine R.assign (h := ?_)
          refine Reg.nil ⟨fun h => (by cases h), ?_⟩
          refine LGo.eqB 2 g (hb := by
            clear hA hmd
            try simp only [Bool.or_eq_true, Bool.and_eq_true, decide_eq_true_eq, Bool.or_eq_false_iff, Bool.and_eq_false_iff, decide_eq_false_iff_not, Bool.not_eq_true', Bool.not_eq_false', Bool.not_eq_true, Bool.not_eq_false, Bool.false_eq_true, Bool.true_eq_false, iff_true, true_iff, iff_false, false_iff] at *
            rw [← e1]
            (repeat' split) <;> (rw [Bool.eq_iff_iff]; try simp only [Bool.or_eq_true, Bool.and_eq_true, decide_eq_true_eq, Bool.or_eq_false_iff, Bool.and_eq_false_iff, decide_eq_false_iff_not, Bool.not_eq_true', Bool.not_eq_false', Bool.not_eq_true, Bool.not_eq_false, Bool.false_eq_true, Bool.true_eq_false, iff_true, true_iff, iff_false, false_iff]; omega)) (h := ?_)
          exact LGo.ret (ret_T Try.results19 hA hmd)
        · -- else 10
          refine LGo.skip ?_
          refine LGo.exit rfl ?_
          refine LGo.seq ?_
          refine LGo.region rfl ?_  -- region 15
          refine R.assign (h := ?_)
          refine Reg.nil ⟨fun h => (by cases h), ?_⟩
          refine LGo.eqB 2 g (hb := by
            clear hA hmd
            try simp only [Bool.or_eq_true, Bool.and_eq_true, decide_eq_true_eq, Bool.or_eq_false_iff, Bool.and_eq_false_iff, decide_eq_false_iff_not, Bool.not_eq_true', Bool.not_eq_false', Bool.not_eq_true, Bool.not_eq_false, Bool.false_eq_true, Bool.true_eq_false, iff_true, true_iff, iff_false, false_iff] at *
            rw [← e1]
            (repeat' split) <;> (rw [Bool.eq_iff_iff]; try simp only [Bool.or_eq_true, Bool.and_eq_true, decide_eq_true_eq, Bool.or_eq_false_iff, Bool.and_eq_false_iff, decide_eq_false_iff_not, Bool.not_eq_true', Bool.not_eq_false', Bool.not_eq_true, Bool.not_eq_false, Bool.false_eq_true, Bool.true_eq_false, iff_true, true_iff, iff_false, false_iff]; omega)) (h := ?_)
          exact LGo.ret (ret_T Try.results19 hA hmd)

end Go.Proofs.Ytbbkgfkghpflnaa
