/- words: what Split reads is what Join writes; digits are what Int reads. -/
import Derived.Test.YtmjpkfjgknbfeaaGreatDoorQL
set_option linter.unusedSimpArgs false
set_option linter.unusedVariables false
namespace Go.Proofs.YtmjpkfjgknbfeaaGreatDoor


/-- the form of a field -/
def formF (f : Fd) : List UInt8 := if f.q = true then quote f.s else f.s
def lineF (fs : List Fd) : List UInt8 := Lib.join (fs.map formF) [32]
def FdOk (f : Fd) : Prop := f.q = false → bareC f.s = true
/-! digits -/
theorem val10_snoc (a : Nat) (l : List UInt8) (c : UInt8) : val10 a (l ++ [c]) = val10 a l * 10 + (c.toNat - 48) := by unfold val10; rw [List.foldl_append]; rfl
theorem digs_ne (n : Nat) : Lib.decDigits n ≠ [] := by rw [Lib.decDigits]; split <;> simp
theorem dig_toNat {n : Nat} (h : n < 10) : (UInt8.ofNat (48 + n)).toNat = 48 + n := by rw [UInt8.toNat_ofNat']; omega
theorem digC_of {n : Nat} (h : n < 10) : digC (UInt8.ofNat (48 + n)) = true := by unfold digC; rw [dig_toNat h]; simp; omega
theorem digs_facts (n : Nat) : (Lib.decDigits n).all digC = true ∧ val10 0 (Lib.decDigits n) = n ∧ (((Lib.decDigits n).headD 0).toNat = 48 → n = 0) := by
  induction n using Nat.strongRecOn with
  | ind n ih =>
    rw [Lib.decDigits]
    split
    · rename_i h
      refine ⟨by rw [List.all_cons, digC_of h]; rfl, ?_, ?_⟩
      · show 0 * 10 + ((UInt8.ofNat (48 + n)).toNat - 48) = n
        rw [dig_toNat h]; omega
      · rw [List.headD_cons, dig_toNat h]; omega
    · rename_i h
      obtain ⟨h1, h2, h3⟩ := ih (n / 10) (by omega)
      have hm : n % 10 < 10 := Nat.mod_lt _ (by decide)
      refine ⟨by rw [List.all_append, h1, List.all_cons, digC_of hm]; rfl, ?_, ?_⟩
      · rw [val10_snoc, h2, dig_toNat hm]; omega
      · intro h4
        have h5 : ((Lib.decDigits (n / 10) ++ [UInt8.ofNat (48 + n % 10)]).headD 0) = (Lib.decDigits (n / 10)).headD 0 := by
          cases hd : Lib.decDigits (n / 10) with
          | nil => exact absurd hd (digs_ne _)
          | cons a l => rfl
        rw [h5] at h4
        have := h3 h4
        omega
theorem digs_len1 {n : Nat} (h : n = 0) : (Lib.decDigits n).length = 1 := by subst h; rw [Lib.decDigits]; rfl
theorem decT_digs (n : Nat) : decT (Lib.decDigits n) = true := by
  obtain ⟨h1, h2, h3⟩ := digs_facts n
  unfold decT
  rw [if_neg (by
    rintro (h | ⟨h4, h5⟩)
    · exact digs_ne n h
    · have := digs_len1 (h3 h5); omega)]
  exact h1
end Go.Proofs.YtmjpkfjgknbfeaaGreatDoor
