/- math/bits.Len64: how many bits a number takes. -/
import Derived.Test.YtmiamhegohlglaaT
set_option linter.unusedSimpArgs false
set_option linter.unusedVariables false
namespace Go.Proofs.Ytmiamhegohlglaa

def bits (n : Nat) : Nat := if n = 0 then 0 else Nat.log2 n + 1

theorem bits_shift (n k : Nat) (h : 2 ^ k ≤ n) : bits (n / 2 ^ k) + k = bits n := by
  have h0 : n ≠ 0 := by have := Nat.two_pow_pos k; omega
  have h1 : n / 2 ^ k ≠ 0 := by
    have := Nat.div_pos h (Nat.two_pow_pos k); omega
  unfold bits
  rw [if_neg h0, if_neg h1]
  have : Nat.log2 (n / 2 ^ k) = Nat.log2 n - k := by
    have hk : k ≤ Nat.log2 n := (Nat.le_log2 h0).2 h
    apply Nat.le_antisymm
    · rw [← Nat.lt_succ_iff, Nat.log2_lt h1, Nat.div_lt_iff_lt_mul (Nat.two_pow_pos k), ← Nat.pow_add]
      have := Nat.lt_log2_self (n := n)
      rw [show (Nat.log2 n - k).succ + k = Nat.log2 n + 1 from by omega]; exact this
    · rw [Nat.le_log2 h1, Nat.le_div_iff_mul_le (Nat.two_pow_pos k), ← Nat.pow_add, show Nat.log2 n - k + k = Nat.log2 n from by omega]
      exact (Nat.le_log2 h0).1 (Nat.le_refl _)
  rw [this]
  have hk : k ≤ Nat.log2 n := (Nat.le_log2 h0).2 h
  omega

theorem bitsI_shift (x : Int) (k : Nat) (h0 : 0 ≤ x) (h : (2 : Int) ^ k ≤ x) : (bits (x / 2 ^ k).toNat : Int) + k = bits x.toNat := by
  have h1 : ((x / 2 ^ k).toNat : Nat) = x.toNat / 2 ^ k := by
    obtain ⟨m, rfl⟩ := Int.eq_ofNat_of_zero_le h0
    norm_cast
  rw [h1]
  have h2 : 2 ^ k ≤ x.toNat := by
    have : ((2 ^ k : Nat) : Int) ≤ x := by push_cast; exact h
    omega
  have := bits_shift x.toNat k h2
  omega

theorem bits_le (n k : Nat) (h : n < 2 ^ k) : bits n ≤ k := by
  unfold bits
  split
  · omega
  · rename_i h0
    have := (Nat.log2_lt h0).2 h
    omega

def lenTab : List UInt8 := ((List.range 256).map fun n => UInt8.ofNat (bits n))

theorem lenTab_get (n : Nat) (h : n < 256) : lenTab[n]? = some (UInt8.ofNat (bits n)) := by
  simp [lenTab, h]

theorem len64_P (x : Int) (h0 : 0 ≤ x) (h1 : x < 18446744073709551616) : PC Try.prog 45 [.u x] (.i (bits x.toNat)) := by
  refine ⟨LC.of_go Try.func45 (c := _) rfl (by kernel_rfl) (by rw [Try.ntmps45]; simp) rfl rfl (by simp) (by simp) ?_⟩
  intro B hA hmd
  refine LGo.seq ?_
  refine LGo.region rfl ?_  -- region 0
  refine R.assign (h := ?_)  -- t2 := assign
  refine Reg.nil ⟨fun h => (by cases h), ?_⟩
  refine LGo.seq ?_
  refine LGo.split (α := Int × Int) (fun a => st [(0, (true, .u a.1)), (2, (true, .i a.2))] [] 0) (fun a => 0 ≤ a.1 ∧ a.1 < 4294967296 ∧ 0 ≤ a.2 ∧ a.2 ≤ 32 ∧ a.2 + bits a.1.toNat = bits x.toNat) ?_ (fun J => ?_)
  · rintro ⟨y, acc⟩ ⟨k0, k1, k2, k3, k4⟩
    simp only at k0 k1 k2 k3 k4 ⊢
    refine LGo.seq ?_
    refine LGo.split (α := Int × Int) (fun a => st [(0, (true, .u a.1)), (2, (true, .i a.2))] [] 0) (fun a => 0 ≤ a.1 ∧ a.1 < 65536 ∧ 0 ≤ a.2 ∧ a.2 ≤ 48 ∧ a.2 + bits a.1.toNat = bits x.toNat) ?_ (fun J => ?_)
    · rintro ⟨z, acc⟩ ⟨k0, k1, k2, k3, k4⟩
      simp only at k0 k1 k2 k3 k4 ⊢
      refine LGo.seq ?_
      refine LGo.split (α := Int × Int) (fun a => st [(0, (true, .u a.1)), (2, (true, .i a.2))] [] 0) (fun a => 0 ≤ a.1 ∧ a.1 < 256 ∧ 0 ≤ a.2 ∧ a.2 ≤ 56 ∧ a.2 + bits a.1.toNat = bits x.toNat) ?_ (fun J => ?_)
      · rintro ⟨u, acc⟩ ⟨k0, k1, k2, k3, k4⟩
        simp only at k0 k1 k2 k3 k4 ⊢
        have hb := bits_le u.toNat 8 (by omega)
        have hun : u.toNat < 256 := by omega
        have hut : ((UInt8.ofNat (bits u.toNat)).toNat : Int) = bits u.toNat := by
          simp only [UInt8.toNat_ofNat']; omega
        refine LGo.seq ?_
        refine LGo.region rfl ?_  -- region 10
        refine R.move (h := ?_)  -- t19 := move
        refine R.move (h := ?_)  -- t20 := move
        refine R.convI Try.runUnderlying32 Try.runUnderlying5 (h := ?_)  -- t21 := convert
        refine R.indexS Try.runUnderlying9 (c := UInt8.ofNat (bits u.toNat)) (hj := ⟨by omega, (congrArg (fun l : List UInt8 => l[u.toNat]?) (show _ = lenTab by kernel_rfl)).trans (lenTab_get u.toNat hun)⟩) (h := ?_)
        rw [hut]
        refine R.convI Try.runUnderlying5 Try.runUnderlying3 (h := ?_)
        refine R.add (h := ?_)
        refine R.assign (h := ?_)  -- t2 := assign
        refine Reg.nil ⟨fun h => (by cases h), ?_⟩
        rw [k4]
        exact LGo.ret (res1 Try.results45 hA hmd (by rfl) noHo (by rfl) (.inr rfl))
      · refine LGo.seq ?_
        refine LGo.region rfl ?_  -- region 7
        refine R.move (h := ?_)
        refine R.bin (run_geq _ _ _ _ _ _) (h := ?_)
        refine Reg.nil ⟨fun h => (by cases h), ?_⟩
        refine LGo.ifd (ht := fun hc => ?_) (hf := fun hc => ?_)
        · have hs := bitsI_shift z 8 k0 (by omega)
          refine LGo.seq ?_
          refine LGo.region rfl ?_
          refine R.move (h := ?_)
          refine R.shr (h := ?_)
          refine R.assign (h := ?_)
          refine Reg.nil ⟨fun h => (by cases h), ?_⟩
          refine LGo.region rfl ?_
          refine R.move (h := ?_)
          refine R.add (h := ?_)
          refine R.assign (h := ?_)
          refine Reg.nil ⟨fun h => (by cases h), ?_⟩
          exact LGo.keep [(0, (true, .u (z / 2 ^ 8))), (2, (true, .i (acc + 8)))] [] ⟨rfl, rfl, trivial⟩ trivial (J (z / 2 ^ 8, acc + 8) (by refine ⟨?_, ?_, ?_, ?_, ?_⟩ <;> dsimp only <;> omega))
        · refine LGo.skip ?_
          exact LGo.keep [(0, (true, .u (z))), (2, (true, .i (acc)))] [] ⟨rfl, rfl, trivial⟩ trivial (J (z, acc) (by refine ⟨?_, ?_, ?_, ?_, ?_⟩ <;> dsimp only <;> omega))
    · refine LGo.seq ?_
      refine LGo.region rfl ?_
      refine R.move (h := ?_)
      refine R.bin (run_geq _ _ _ _ _ _) (h := ?_)
      refine Reg.nil ⟨fun h => (by cases h), ?_⟩
      refine LGo.ifd (ht := fun hc => ?_) (hf := fun hc => ?_)
      · have hs := bitsI_shift y 16 k0 (by omega)
        refine LGo.seq ?_
        refine LGo.region rfl ?_
        refine R.move (h := ?_)
        refine R.shr (h := ?_)
        refine R.assign (h := ?_)
        refine Reg.nil ⟨fun h => (by cases h), ?_⟩
        refine LGo.region rfl ?_
        refine R.move (h := ?_)
        refine R.add (h := ?_)
        refine R.assign (h := ?_)
        refine Reg.nil ⟨fun h => (by cases h), ?_⟩
        exact LGo.keep [(0, (true, .u (y / 2 ^ 16))), (2, (true, .i (acc + 16)))] [] ⟨rfl, rfl, trivial⟩ trivial (J (y / 2 ^ 16, acc + 16) (by refine ⟨?_, ?_, ?_, ?_, ?_⟩ <;> dsimp only <;> omega))
      · refine LGo.skip ?_
        exact LGo.keep [(0, (true, .u (y))), (2, (true, .i (acc)))] [] ⟨rfl, rfl, trivial⟩ trivial (J (y, acc) (by refine ⟨?_, ?_, ?_, ?_, ?_⟩ <;> dsimp only <;> omega))
  · refine LGo.seq ?_
    refine LGo.region rfl ?_
    refine R.move (h := ?_)
    refine R.bin (run_geq _ _ _ _ _ _) (h := ?_)
    refine Reg.nil ⟨fun h => (by cases h), ?_⟩
    refine LGo.ifd (ht := fun hc => ?_) (hf := fun hc => ?_)
    · have hs := bitsI_shift x 32 h0 (by omega)
      refine LGo.seq ?_
      refine LGo.region rfl ?_
      refine R.move (h := ?_)
      refine R.shr (h := ?_)
      refine R.assign (h := ?_)
      refine Reg.nil ⟨fun h => (by cases h), ?_⟩
      refine LGo.region rfl ?_
      refine R.assign (h := ?_)
      refine Reg.nil ⟨fun h => (by cases h), ?_⟩
      exact LGo.keep [(0, (true, .u (x / 2 ^ 32))), (2, (true, .i (32)))] [] ⟨rfl, rfl, trivial⟩ trivial (J (x / 2 ^ 32, 32) (by refine ⟨?_, ?_, ?_, ?_, ?_⟩ <;> dsimp only <;> omega))
    · refine LGo.skip ?_
      exact LGo.keep [(0, (true, .u (x))), (2, (true, .i (0)))] [] ⟨rfl, rfl, trivial⟩ trivial (J (x, 0) (by refine ⟨?_, ?_, ?_, ?_, ?_⟩ <;> dsimp only <;> omega))

end Go.Proofs.Ytmiamhegohlglaa
