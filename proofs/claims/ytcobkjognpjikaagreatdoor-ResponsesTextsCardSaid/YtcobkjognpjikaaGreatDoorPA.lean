/- responses: the check, and what is encoded and decoded, are the reference's. -/
import Derived.Test.YtcobkjognpjikaaGreatDoorPQ
import Derived.Test.YtcobkjognpjikaaGreatDoorRX
import Derived.Test.YtcobkjognpjikaaGreatDoorRZ
set_option linter.unusedSimpArgs false
set_option linter.unusedVariables false
namespace Go.Proofs.YtcobkjognpjikaaGreatDoor


theorem tags_gGo {α : Type} (k e : Int) (F : Int → α) : gGo (fun t => usesS k (!decide (e = 0)) t) (fun t => F t) 8 1 [] = (tagsT k e).map F := by
  by_cases he : e = 0
  · by_cases h1 : k = 1
    · subst h1; simp [gGo, usesS, tagsT, moreT, he]
    by_cases h2 : k = 2
    · subst h2; simp [gGo, usesS, tagsT, moreT, he]
    by_cases h3 : k = 3
    · subst h3; simp [gGo, usesS, tagsT, moreT, he]
    by_cases h5 : k = 5
    · subst h5; simp [gGo, usesS, tagsT, moreT, he]
    by_cases h6 : k = 6
    · subst h6; simp [gGo, usesS, tagsT, moreT, he]
    by_cases h10 : k = 10
    · subst h10; simp [gGo, usesS, tagsT, moreT, he]
    simp [gGo, usesS, tagsT, moreT, he, h1, h2, h3, h5, h6, h10]
  · simp [gGo, usesS, tagsT, he]
theorem limit_eq (k t : Int) : limitS k t = ruleT k t := by
  unfold limitS ruleT
  by_cases h1 : t = 1
  · subst h1; by_cases hk : k = 0 <;> simp [hk]
  by_cases h2 : t = 2
  · subst h2; simp
  by_cases h3 : t = 3
  · subst h3; simp
  by_cases h4 : t = 4
  · subst h4; simp
  by_cases h8 : t = 8
  · subst h8; simp
  simp [h1, h2, h3, h4, h8]
theorem limits_eq (k e : Int) : limitsS k e = rulesT k (!decide (e = 0)) := by
  unfold limitsS rulesT
  rw [← tags_gGo]
  simp only [limit_eq]
theorem tags8 {t : Int} (h1 : 1 ≤ t) (h2 : t ≤ 8) : t = 1 ∨ t = 2 ∨ t = 3 ∨ t = 4 ∨ t = 5 ∨ t = 6 ∨ t = 7 ∨ t = 8 := by omega
theorem field_eq (r : Rs) {t : Int} (h1 : 1 ≤ t) (h2 : t ≤ 8) : fieldS r t = (fieldT r t).1 := by
  rcases tags8 h1 h2 with rfl | rfl | rfl | rfl | rfl | rfl | rfl | rfl <;> rfl
theorem gGo_congr {α : Type} {p : Nat → Bool} {f g : Nat → α} : ∀ (n k : Nat) (l : List α), (∀ t, k ≤ t → t < k + n → f t = g t) → gGo p f n k l = gGo p g n k l
  | 0, _, _, _ => rfl
  | n + 1, k, l, h => by
    rw [gGo, gGo, h k (by omega) (by omega), gGo_congr n (k + 1) _ (fun t h1 h2 => h t (by omega) (by omega)), gGo_congr n (k + 1) _ (fun t h1 h2 => h t (by omega) (by omega))]
theorem msg_eq (r : Rs) : msgS r = messageT r := by
  unfold msgS messageT badOf
  rw [← tags_gGo]
  exact gGo_congr 8 1 [] (fun t h1 h2 => field_eq r (by omega) (by omega))
theorem known_asked (k : Int) : knownS k = (decide (k = 0) || askedS k) := by unfold knownS askedS; rw [rules_eq]
theorem anyG_congr {p q : Nat → Bool} : ∀ (n k : Nat), (∀ t, k ≤ t → t < k + n → p t = q t) → anyG p n k = anyG q n k
  | 0, _, _ => rfl
  | n + 1, k, h => by rw [anyG, anyG, h k (by omega) (by omega), anyG_congr n (k + 1) (fun t h1 h2 => h t (by omega) (by omega))]
theorem gGo_any {α : Type} (p : Nat → Bool) (f : Nat → α) (q : α → Bool) : ∀ (n k : Nat) (l : List α), (gGo p f n k l).any q = (l.any q || anyG (fun t => p t && q (f t)) n k)
  | 0, _, l => by simp [gGo, anyG]
  | n + 1, k, l => by
    rw [gGo, anyG]
    by_cases h : p k = true
    · rw [if_pos h, gGo_any p f q n (k + 1)]
      cases hq : q (f k) <;> simp [h, hq]
    · rw [if_neg h, gGo_any p f q n (k + 1)]
      simp [h]
def nbS (x : Rule) (f : Fld) : Bool := decide (x.kind = 1) && (decide (f.num < x.low) || decide (x.high < f.num))
theorem errJ_any (r : Rs) : ∀ (l : List Int) (e : Int), e = 0 ∨ e = 3 ∨ e = 7 → l.foldl (fun e t => errS (limitS r.kind t) (fieldS r t) e) e =
    if (l.any (fun t => nbS (limitS r.kind t) (fieldS r t)) || decide (e = 7)) = true then 7 else if (l.any (fun t => lbF (limitS r.kind t) (fieldS r t)) || decide (e = 3)) = true then 3 else 0
  | [], e, he => by rcases he with rfl | rfl | rfl <;> simp
  | t :: l, e, he => by
    rw [List.foldl_cons]
    by_cases hn : nbS (limitS r.kind t) (fieldS r t) = true
    · rw [show errS (limitS r.kind t) (fieldS r t) e = 7 from if_pos hn, errJ_any r l 7 (.inr (.inr rfl))]
      simp [hn]
    · simp only [Bool.not_eq_true] at hn
      have hn' : ¬ (decide ((limitS r.kind t).kind = 1) && (decide ((fieldS r t).num < (limitS r.kind t).low) || decide ((limitS r.kind t).high < (fieldS r t).num))) = true := by rw [show (_ && _) = false from hn]; simp
      by_cases hl : lbF (limitS r.kind t) (fieldS r t) = true
      · rcases he with rfl | rfl | rfl
        · rw [show errS (limitS r.kind t) (fieldS r t) 0 = 3 from by unfold errS; rw [if_neg hn', if_pos (by rw [show (decide ((limitS r.kind t).kind = 2) && !decide (((fieldS r t).txt.length : Int) = (limitS r.kind t).low)) = true from hl]; rfl)], errJ_any r l 3 (.inr (.inl rfl))]
          simp [hn, hl]
        · rw [show errS (limitS r.kind t) (fieldS r t) 3 = 3 from by unfold errS; rw [if_neg hn', if_neg (by simp)], errJ_any r l 3 (.inr (.inl rfl))]
          simp [hn, hl]
        · rw [show errS (limitS r.kind t) (fieldS r t) 7 = 7 from by unfold errS; rw [if_neg hn', if_neg (by simp)], errJ_any r l 7 (.inr (.inr rfl))]
          simp
      · simp only [Bool.not_eq_true] at hl
        rw [show errS (limitS r.kind t) (fieldS r t) e = e from by unfold errS; rw [if_neg hn', if_neg (by rw [show (decide ((limitS r.kind t).kind = 2) && !decide (((fieldS r t).txt.length : Int) = (limitS r.kind t).low)) = false from hl]; simp)], errJ_any r l e he]
        simp [hn, hl]
theorem any_tags (k e : Int) (q : Int → Bool) : (tagsT k e).any q = anyG (fun t => usesS k (!decide (e = 0)) t && q t) 8 1 := by
  have h := gGo_any (fun t => usesS k (!decide (e = 0)) t) (fun t => (t : Int)) q 8 1 []
  rw [tags_gGo k e (fun t => t)] at h
  simpa using h
theorem badT2_eq (r : Rs) (hr : RsOk r) {t : Nat} (h1 : 1 ≤ t) (h2 : t ≤ 8) : (usesS r.kind (badOf r) t && nbS (limitS r.kind t) (fieldS r t)) = badT2 r t := by
  have b1 := hr.id; have b2 := hr.err; have b3 := hr.seat; have b4 := hr.n; have b5 := hr.place; have b6 := hr.dl
  unfold R64 at b2 b3 b4 b5 b6
  unfold badT2
  rw [Bool.and_assoc, field_eq r (by omega) (by omega), limit_eq]
  congr 1
  unfold nbS
  congr 1
  rcases tags9 (k := t) h1 (by omega) with rfl | rfl | rfl | rfl | rfl | rfl | rfl | rfl | rfl
  all_goals
    rw [Bool.eq_iff_iff]
    simp [fieldT, ruleT, uw]
  all_goals (try split) <;> omega
theorem badT3_eq (r : Rs) : anyG (fun t => usesS r.kind (badOf r) t && lbF (limitS r.kind t) (fieldS r t)) 8 1 = anyG (badT3 r) 2 3 := by
  have hz : ∀ t : Nat, t = 1 ∨ t = 2 ∨ t = 5 ∨ t = 6 ∨ t = 7 ∨ t = 8 → lbF (limitS r.kind t) (fieldS r t) = false := by
    intro t ht
    rw [limit_eq]
    rcases ht with rfl | rfl | rfl | rfl | rfl | rfl <;> simp [lbF, ruleT]
    split <;> simp
  have h3 : lbF (limitS r.kind (3 : Nat)) (fieldS r (3 : Nat)) = !decide (((fieldT r (3 : Nat)).1.txt.length : Int) = (ruleT r.kind (3 : Nat)).low) := by rw [limit_eq, field_eq r (by decide) (by decide)]; simp [lbF, ruleT]
  have h4 : lbF (limitS r.kind (4 : Nat)) (fieldS r (4 : Nat)) = !decide (((fieldT r (4 : Nat)).1.txt.length : Int) = (ruleT r.kind (4 : Nat)).low) := by rw [limit_eq, field_eq r (by decide) (by decide)]; simp [lbF, ruleT]
  simp only [anyG, hz 1 (by simp), hz 2 (by simp), hz 5 (by simp), hz 6 (by simp), hz 7 (by simp), hz 8 (by simp), h3, h4, Nat.reduceAdd, badT3]
  simp
theorem rest_eq (r : Rs) (hr : RsOk r) : neZ (restJ r (tagsT r.kind r.err)) = anyG (badT1 r) 6 3 := by
  have e1 := uw_zero hr.seat; have e2 := uw_zero hr.n; have e3 := uw_zero hr.place; have e4 := uw_zero hr.dl
  have e0 : uw 0 = 0 := rfl
  have e5 : sw 0 = 0 := rfl
  obtain ⟨k, i, e, s, t, a, b, c, d⟩ := r
  simp only at e1 e2 e3 e4
  by_cases he : e = 0
  · by_cases h1 : k = 1
    · subst h1; subst he; rw [Bool.eq_iff_iff]; simp [anyG, badT1, badOf, usesS, tagsT, moreT, restJ, putS, neZ, fieldT, e0, e1, e2, e3, e4, e5]; grind
    by_cases h2 : k = 2
    · subst h2; subst he; rw [Bool.eq_iff_iff]; simp [anyG, badT1, badOf, usesS, tagsT, moreT, restJ, putS, neZ, fieldT, e0, e1, e2, e3, e4, e5]; grind
    by_cases h3 : k = 3
    · subst h3; subst he; rw [Bool.eq_iff_iff]; simp [anyG, badT1, badOf, usesS, tagsT, moreT, restJ, putS, neZ, fieldT, e0, e1, e2, e3, e4, e5]; grind
    by_cases h5 : k = 5
    · subst h5; subst he; rw [Bool.eq_iff_iff]; simp [anyG, badT1, badOf, usesS, tagsT, moreT, restJ, putS, neZ, fieldT, e0, e1, e2, e3, e4, e5]; grind
    by_cases h6 : k = 6
    · subst h6; subst he; rw [Bool.eq_iff_iff]; simp [anyG, badT1, badOf, usesS, tagsT, moreT, restJ, putS, neZ, fieldT, e0, e1, e2, e3, e4, e5]; grind
    by_cases h10 : k = 10
    · subst h10; subst he; rw [Bool.eq_iff_iff]; simp [anyG, badT1, badOf, usesS, tagsT, moreT, restJ, putS, neZ, fieldT, e0, e1, e2, e3, e4, e5]; grind
    subst he; rw [Bool.eq_iff_iff]; simp [anyG, badT1, badOf, usesS, tagsT, moreT, restJ, putS, neZ, fieldT, e0, e1, e2, e3, e4, e5, h1, h2, h3, h5, h6, h10]; grind
  · rw [Bool.eq_iff_iff]; simp [anyG, badT1, badOf, usesS, tagsT, moreT, restJ, putS, neZ, fieldT, e0, e1, e2, e3, e4, e5, he]; grind
theorem checkS_eq (r : Rs) (hr : RsOk r) : checkS r = refCheckT r := by
  unfold checkS refCheckT
  have h1 : ((!knownS r.kind) || (decide (r.kind = 0) && ((!decide (r.id = 0)) || !decide (r.err = 11)))) = (((!decide (r.kind = 0)) && !askedS r.kind) || (decide (r.kind = 0) && ((!decide (r.id = 0)) || !decide (r.err = 11)))) := by
    rw [known_asked]; cases decide (r.kind = 0) <;> cases askedS r.kind <;> simp
  rw [h1, rest_eq r hr]
  unfold errJ
  rw [errJ_any r _ 0 (.inl rfl), any_tags, any_tags, show (!decide (r.err = 0)) = badOf r from rfl, badT3_eq, anyG_congr 8 1 (q := badT2 r) (fun t h1 h2 => badT2_eq r hr h1 (by omega))]
  simp

end Go.Proofs.YtcobkjognpjikaaGreatDoor
