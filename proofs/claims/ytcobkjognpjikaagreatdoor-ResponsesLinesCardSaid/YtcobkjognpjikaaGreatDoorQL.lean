/- words, the reference: Split. -/
import Derived.Test.YtcobkjognpjikaaGreatDoorQK
set_option linter.unusedSimpArgs false
set_option linter.unusedVariables false
namespace Go.Proofs.YtcobkjognpjikaaGreatDoor

theorem fldsG_step {f : Nat} {rest r2 : List UInt8} {fd : Fd} (h : nextF rest = some (fd, r2)) : fldsG (f + 1) rest = if r2 = [] then ([fd], true) else if (r2.headD 0).toNat = 32 then (fd :: (fldsG f (r2.drop 1)).1, (fldsG f (r2.drop 1)).2) else ([], false) := by
  rw [fldsG, h]
  cases r2 with
  | nil => rfl
  | cons a r => rw [if_neg (List.cons_ne_nil a r)]; rfl
theorem fldsG_none {f : Nat} {rest : List UInt8} (h : nextF rest = none) : fldsG (f + 1) rest = ([], false) := by rw [fldsG, h]
theorem cut1_cases (r : List UInt8) (c : UInt8) : (cut1 r c = r ∧ c ∉ r) ∨ ∃ a b, r = a ++ c :: b ∧ c ∉ a ∧ cut1 r c = a := by
  unfold cut1
  rcases index_cases c r with ⟨h1, h2⟩ | ⟨a, b, h1, h2, h3⟩
  · left; rw [if_neg (by omega)]; exact ⟨rfl, h2⟩
  · right; rw [if_pos (by omega), h3, Int.toNat_natCast]
    refine ⟨a, b, h1, h2, ?_⟩
    rw [h1, List.take_left]
theorem cut1_take (r : List UInt8) (c : UInt8) : r.take (cut1 r c).length = cut1 r c := by
  rcases cut1_cases r c with ⟨h, _⟩ | ⟨a, b, h1, _, h⟩
  · rw [h, List.take_length]
  · rw [h, h1, List.take_left]
theorem split1_ok {s : List UInt8} (h1 : ¬ 8192 < (s.length : Int)) (h2 : s ≠ []) {fs : List Fd} (h : fldsG (s.length + 1) s = (fs, true)) : split1 s = if (longF fs || decide (64 < (fs.length : Int))) = true then ([], 3) else (fs, 0) := by unfold split1; rw [if_neg h1, if_neg h2, h, if_neg (by simp)]

end Go.Proofs.YtcobkjognpjikaaGreatDoor
