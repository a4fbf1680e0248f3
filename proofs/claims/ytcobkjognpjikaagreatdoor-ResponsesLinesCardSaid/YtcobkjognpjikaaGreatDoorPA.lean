/- responses: the check, and what is encoded and decoded, are the reference's. -/
import Derived.Test.YtcobkjognpjikaaGreatDoorPQ
import Derived.Test.YtcobkjognpjikaaGreatDoorRX
import Derived.Test.YtcobkjognpjikaaGreatDoorRZ
set_option linter.unusedSimpArgs false
set_option linter.unusedVariables false
namespace Go.Proofs.YtcobkjognpjikaaGreatDoor


theorem tags8 {t : Int} (h1 : 1 ≤ t) (h2 : t ≤ 8) : t = 1 ∨ t = 2 ∨ t = 3 ∨ t = 4 ∨ t = 5 ∨ t = 6 ∨ t = 7 ∨ t = 8 := by omega
def nbS (x : Rule) (f : Fld) : Bool := decide (x.kind = 1) && (decide (f.num < x.low) || decide (x.high < f.num))
theorem errJ_any (r : Rs) : ∀ (l : List Int) (e : Int), e = 0 ∨ e = 3 ∨ e = 7 → l.foldl (fun e t => errS (limitS r.kind t) (fieldS r t) e) e =
    if (l.any (fun t => nbS (limitS r.kind t) (fieldS r t)) || decide (e = 7)) = true then 7 else if (l.any (fun t => lbF (limitS r.kind t) (fieldS r t)) || decide (e = 3)) = true then 3 else 0
  | [], e, he => by rcases he with rfl | rfl | rfl <;> simp
  | t :: l, e, he => by
    rw [List.foldl_cons]
    by_cases hn : nbS (limitS r.kind t) (fieldS r t) = true
    · rw [show errS (limitS r.kind t) (fieldS r t) e = 7 from if_pos hn, errJ_any r l 7 (.inr (.inr rfl))]
      simp [hn]
    · simp only [Bool.not_eq_true] at hn
      have hn' : ¬ (decide ((limitS r.kind t).kind = 1) && (decide ((fieldS r t).num < (limitS r.kind t).low) || decide ((limitS r.kind t).high < (fieldS r t).num))) = true := by rw [show (_ && _) = false from hn]; simp
      by_cases hl : lbF (limitS r.kind t) (fieldS r t) = true
      · rcases he with rfl | rfl | rfl
        · rw [show errS (limitS r.kind t) (fieldS r t) 0 = 3 from by unfold errS; rw [if_neg hn', if_pos (by rw [show (decide ((limitS r.kind t).kind = 2) && !decide (((fieldS r t).txt.length : Int) = (limitS r.kind t).low)) = true from hl]; rfl)], errJ_any r l 3 (.inr (.inl rfl))]
          simp [hn, hl]
        · rw [show errS (limitS r.kind t) (fieldS r t) 3 = 3 from by unfold errS; rw [if_neg hn', if_neg (by simp)], errJ_any r l 3 (.inr (.inl rfl))]
          simp [hn, hl]
        · rw [show errS (limitS r.kind t) (fieldS r t) 7 = 7 from by unfold errS; rw [if_neg hn', if_neg (by simp)], errJ_any r l 7 (.inr (.inr rfl))]
          simp
      · simp only [Bool.not_eq_true] at hl
        rw [show errS (limitS r.kind t) (fieldS r t) e = e from by unfold errS; rw [if_neg hn', if_neg (by rw [show (decide ((limitS r.kind t).kind = 2) && !decide (((fieldS r t).txt.length : Int) = (limitS r.kind t).low)) = false from hl]; simp)], errJ_any r l e he]
        simp [hn, hl]
end Go.Proofs.YtcobkjognpjikaaGreatDoor
