/- words: both decimal forms are one. -/
import Derived.Test.YtcobkjognpjikaaGreatDoorQF
set_option linter.unusedSimpArgs false
set_option linter.unusedVariables false
namespace Go.Proofs.YtcobkjognpjikaaGreatDoor


theorem pre45 (s : List UInt8) : Lib.trimPrefix s [45] = if s.head? = some 45 then s.drop 1 else s := by
  cases s with
  | nil => rfl
  | cons a r =>
    by_cases h : a = 45
    · subst h; rfl
    · have h2 : ¬ (45 : UInt8) = a := fun e => h e.symm
      simp [Lib.trimPrefix, Lib.hasPrefix, h, h2, List.isPrefixOf]
theorem dec_both (s : List UInt8) : decD s = decC s := by
  have e45 : ∀ c : UInt8, c.toNat = 45 ↔ c = 45 := fun c => ⟨fun h => UInt8.toNat.inj h, fun h => by rw [h]; rfl⟩
  have e48 : ∀ c : UInt8, c.toNat = 48 ↔ c = 48 := fun c => ⟨fun h => UInt8.toNat.inj h, fun h => by rw [h]; rfl⟩
  unfold decD decC
  rw [pre45]
  simp only [ne_eq, trim_nil]
  match s with
  | [] => rfl
  | [a] =>
    by_cases h : a = 45
    · subst h; decide +kernel
    · have h2 : ¬ a.toNat = 45 := fun e => h ((e45 a).1 e)
      by_cases hd : digC a = true
      · simp [h, h2, hd]
        by_cases h3 : a = 48
        · subst h3; simp
        · have : ¬ ((a.toNat : Nat) : Int) = 48 := fun e => h3 ((e48 a).1 (by omega))
          simp [this]
      · simp [h, h2, hd]
  | a :: b :: r =>
    have hr : ∀ c : UInt8, ((c.toNat : Nat) : Int) = 48 ↔ c = 48 := fun c => by rw [← e48]; omega
    by_cases h : a = 45
    · subst h
      by_cases hb : b = 48
      · subst hb
        have : digC 45 = false := by decide +kernel
        simp [this]
      · have hb2 : ¬ b.toNat = 48 := fun e => hb ((e48 b).1 e)
        have hb3 : ¬ ((b.toNat : Nat) : Int) = 48 := by omega
        by_cases hd : (b :: r).all digC = true
        · simp at hd; simp [hb2, hb3, hd]
          have h9 : r.all digC = true := by simpa using hd.2
          rw [h9]; simp; exact hd.2
        · simp at hd; simp [hb2, hb3]; grind
    · have h2 : ¬ a.toNat = 45 := fun e => h ((e45 a).1 e)
      by_cases ha : a = 48
      · subst ha; simp
      · have ha2 : ¬ a.toNat = 48 := fun e => ha ((e48 a).1 e)
        have ha3 : ¬ ((a.toNat : Nat) : Int) = 48 := by omega
        by_cases hd : (a :: b :: r).all digC = true
        · simp at hd; simp [h, h2, ha2, ha3, hd]; grind
        · simp at hd; simp [h, h2, ha2, ha3]; grind

end Go.Proofs.YtcobkjognpjikaaGreatDoor
