/- requests: the rules and the check are the reference's. -/
import Derived.Test.YtckbomkcnmcdaaaGreatDoorRR
set_option linter.unusedSimpArgs false
set_option linter.unusedVariables false
namespace Go.Proofs.YtckbomkcnmcdaaaGreatDoor


theorem kinds14 {k : Int} (h0 : 0 ≤ k) (h1 : k < 14) : k = 0 ∨ k = 1 ∨ k = 2 ∨ k = 3 ∨ k = 4 ∨ k = 5 ∨ k = 6 ∨ k = 7 ∨ k = 8 ∨ k = 9 ∨ k = 10 ∨ k = 11 ∨ k = 12 ∨ k = 13 := by omega
theorem mask_out {k : Int} (h : k < 0 ∨ 14 ≤ k) : maskOf k = 0 := if_pos h
theorem word_out {k : Int} (h : k < 0 ∨ 14 ≤ k) : wordQ k = [] := if_pos (by omega)
theorem word_mask (k : Int) : wordQ k = [] ↔ maskOf k = 0 := by
  by_cases h : k < 0 ∨ 14 ≤ k
  · simp [mask_out h, word_out h]
  · rcases kinds14 (k := k) (by omega) (by omega) with rfl | rfl | rfl | rfl | rfl | rfl | rfl | rfl | rfl | rfl | rfl | rfl | rfl | rfl <;> decide +kernel
theorem rules_eq (k : Int) : rulesQ k = rulesR k := by
  by_cases h : k < 0 ∨ 14 ≤ k
  · simp [rulesQ, rulesR, mask_out h, word_out h]
  · rcases kinds14 (k := k) (by omega) (by omega) with rfl | rfl | rfl | rfl | rfl | rfl | rfl | rfl | rfl | rfl | rfl | rfl | rfl | rfl <;> kernel_rfl
/-- the bits of a kind's mask are its tags -/
theorem bit_has {kd : Int} (hk : maskOf kd ≠ 0) {k : Nat} (h1 : 1 ≤ k) (h2 : k ≤ 9) : hasQ kd k = !decide (bitQ (maskOf kd) k = 0) := by
  have h : ¬ (kd < 0 ∨ 14 ≤ kd) := fun h => hk (mask_out h)
  obtain ⟨j, rfl⟩ : ∃ j : Nat, kd = j := ⟨kd.toNat, by omega⟩
  have key : ((List.range 14).all fun j => (List.range 10).all fun k => decide (maskOf (j : Int) = 0) || decide (k = 0) || (hasQ j k == !decide (bitQ (maskOf (j : Int)) k = 0))) = true := by decide +kernel
  have k1 := List.all_eq_true.1 (List.all_eq_true.1 key j (List.mem_range.2 (by omega))) k (List.mem_range.2 (by omega))
  simp only [Bool.or_eq_true, decide_eq_true_eq, beq_iff_eq] at k1
  rcases k1 with (k1 | k1) | k1
  · exact absurd k1 hk
  · omega
  · exact k1
def nzF (f : Fld) : Bool := (!decide (f.num = 0)) || !decide (f.txt = [])
def nbF (x : Rule) (f : Fld) (is : Bool) : Bool := decide (x.kind = 1) && (((!is) || decide (f.num < x.low)) || decide (x.high < f.num))
def lbF (x : Rule) (f : Fld) : Bool := decide (x.kind = 2) && !decide ((f.txt.length : Int) = x.low)
def Ub (m : Int) (r : Rq) : Nat → Nat → Bool
  | 0, _ => false
  | n + 1, k => (decide (bitQ m k = 0) && nzF (fieldQ r k).1) || Ub m r n (k + 1)
def Nb (m : Int) (r : Rq) : Nat → Nat → Bool
  | 0, _ => false
  | n + 1, k => ((!decide (bitQ m k = 0)) && nbF (ruleQ k) (fieldQ r k).1 (fieldQ r k).2) || Nb m r n (k + 1)
def Lb (m : Int) (r : Rq) : Nat → Nat → Bool
  | 0, _ => false
  | n + 1, k => ((!decide (bitQ m k = 0)) && lbF (ruleQ k) (fieldQ r k).1) || Lb m r n (k + 1)
theorem foGo_snd (m : Int) (r : Rq) : ∀ (n k : Nat) (l : List Fld) (e : Int), e = 0 ∨ e = 3 ∨ e = 7 →
    (foGo m r n k l e).2 = if Ub m r n k = true then 2 else if (Nb m r n k || decide (e = 7)) = true then 7 else if (Lb m r n k || decide (e = 3)) = true then 3 else 0
  | 0, k, l, e, he => by
    rcases he with rfl | rfl | rfl <;> simp [foGo, Ub, Nb, Lb]
  | n + 1, k, l, e, he => by
    rw [foGo, Ub, Nb, Lb]
    by_cases hb : bitQ m k = 0
    · rw [if_pos hb]
      by_cases hz : nzF (fieldQ r k).1 = true
      · rw [if_pos (by exact hz)]
        simp [hb, hz]
      · rw [if_neg (by exact hz), foGo_snd m r n (k + 1) l e he]
        simp only [Bool.not_eq_true] at hz
        simp [hb, hz]
    · rw [if_neg hb, foGo_snd m r n (k + 1) _ _ ?_]
      · have hd : decide (bitQ m k = 0) = false := by simp [hb]
        rw [hd]
        simp only [Bool.false_and, Bool.false_or, Bool.not_false, Bool.true_and]
        by_cases hn : nbF (ruleQ k) (fieldQ r k).1 (fieldQ r k).2 = true
        · rw [show errQ (ruleQ k) (fieldQ r k).1 (fieldQ r k).2 e = 7 from if_pos hn, hn]
          simp
        · simp only [Bool.not_eq_true] at hn
          by_cases hl : lbF (ruleQ k) (fieldQ r k).1 = true
          · rw [hn, hl]
            rcases he with rfl | rfl | rfl
            · rw [show errQ (ruleQ k) (fieldQ r k).1 (fieldQ r k).2 0 = 3 from by unfold errQ; rw [if_neg (by rw [show (_ && _) = false from hn]; simp), if_pos (by rw [show (_ && _) = true from hl]; simp)]]
              simp
            · rw [show errQ (ruleQ k) (fieldQ r k).1 (fieldQ r k).2 3 = 3 from by unfold errQ; rw [if_neg (by rw [show (_ && _) = false from hn]; simp), if_neg (by simp)]]
              simp
            · rw [show errQ (ruleQ k) (fieldQ r k).1 (fieldQ r k).2 7 = 7 from by unfold errQ; rw [if_neg (by rw [show (_ && _) = false from hn]; simp), if_neg (by simp)]]
              simp
          · simp only [Bool.not_eq_true] at hl
            rw [hn, hl, show errQ (ruleQ k) (fieldQ r k).1 (fieldQ r k).2 e = e from by unfold errQ; rw [if_neg (by rw [show (_ && _) = false from hn]; simp), if_neg (by rw [show (decide ((ruleQ k).kind = 2) && !decide (((fieldQ r k).1.txt.length : Int) = (ruleQ k).low)) = false from hl]; simp)]]
            simp
      · unfold errQ
        split
        · exact .inr (.inr rfl)
        · split
          · exact .inr (.inl rfl)
          · exact he
theorem tags9 {k : Nat} (h1 : 1 ≤ k) (h2 : k ≤ 9) : k = 1 ∨ k = 2 ∨ k = 3 ∨ k = 4 ∨ k = 5 ∨ k = 6 ∨ k = 7 ∨ k = 8 ∨ k = 9 := by omega
theorem uw_zero {n : Int} (h : R64 n) : uw n = 0 ↔ n = 0 := by unfold R64 at h; unfold uw; omega
theorem bad1_eq (r : Rq) (hr : RqOk r) {k : Nat} (h1 : 2 ≤ k) (h2 : k ≤ 9) : bad1 r k = nzF (fieldQ r k).1 := by
  have e1 := uw_zero hr.seat; have e2 := uw_zero hr.sec; have e3 := uw_zero hr.n; have e4 := uw_zero hr.gate
  rcases tags9 (k := k) (by omega) h2 with rfl | rfl | rfl | rfl | rfl | rfl | rfl | rfl | rfl
  · omega
  all_goals simp [bad1, nzF, fieldQ, numQ, txtQ, e1, e2, e3, e4]
theorem bad2_eq (r : Rq) (hr : RqOk r) {k : Nat} (h1 : 1 ≤ k) (h2 : k ≤ 9) : ((!(decide ((k : Int) = 3) || decide ((k : Int) = 4))) && bad2 r k) = nbF (ruleQ k) (fieldQ r k).1 (fieldQ r k).2 := by
  have b1 := hr.id; have b2 := hr.owner; have b3 := hr.to
  have b4 := hr.seat; have b5 := hr.sec; have b6 := hr.n; have b7 := hr.gate
  unfold R64 at b4 b5 b6 b7
  rcases tags9 (k := k) (by omega) h2 with rfl | rfl | rfl | rfl | rfl | rfl | rfl | rfl | rfl
  all_goals
    rw [Bool.eq_iff_iff]
    simp [bad2, nbF, fieldQ, numQ, ruleQ, uw]
  all_goals (try split) <;> omega
theorem any1_eq (r : Rq) (hr : RqOk r) (hk : maskOf r.kind ≠ 0) : ∀ n k : Nat, 2 ≤ k → k + n = 10 → any1 r n k = Ub (maskOf r.kind) r n k
  | 0, k, _, _ => rfl
  | n + 1, k, h1, h2 => by
    rw [any1, Ub, any1_eq r hr hk n (k + 1) (by omega) (by omega), bad1_eq r hr h1 (by omega), bit_has hk (by omega) (by omega)]
    by_cases hb : bitQ (maskOf r.kind) k = 0
    · simp only [hb, decide_true, Bool.not_true, Bool.false_eq_true, if_false, Bool.true_and]
      cases nzF (fieldQ r k).1 <;> simp
    · simp [hb]
theorem any2_eq (r : Rq) (hr : RqOk r) (hk : maskOf r.kind ≠ 0) : ∀ n k : Nat, 1 ≤ k → k + n = 10 → any2 r n k = Nb (maskOf r.kind) r n k
  | 0, k, _, _ => rfl
  | n + 1, k, h1, h2 => by
    rw [any2, Nb, any2_eq r hr hk n (k + 1) (by omega) (by omega), ← bad2_eq r hr h1 (by omega), bit_has hk (by omega) (by omega)]
    cases (decide ((k : Int) = 3) || decide ((k : Int) = 4)) <;> cases decide (bitQ (maskOf r.kind) k = 0) <;> cases bad2 r k <;> simp
theorem Lb_high (m : Int) (r : Rq) : ∀ n k : Nat, 5 ≤ k → k + n = 10 → Lb m r n k = false
  | 0, _, _, _ => rfl
  | n + 1, k, h1, h2 => by
    rw [Lb, Lb_high m r n (k + 1) (by omega) (by omega)]
    have : lbF (ruleQ k) (fieldQ r k).1 = false := by
      rcases tags9 (k := k) (by omega) (by omega) with rfl | rfl | rfl | rfl | rfl | rfl | rfl | rfl | rfl <;> first | omega | simp [lbF, ruleQ]
    rw [this]; simp
theorem any3_eq (r : Rq) (hk : maskOf r.kind ≠ 0) : any3 r 2 3 = Lb (maskOf r.kind) r 9 1 := by
  have h3 := bit_has hk (k := 3) (by omega) (by omega)
  have h4 := bit_has hk (k := 4) (by omega) (by omega)
  have l1 : lbF (ruleQ ((1 : Nat) : Int)) (fieldQ r ((1 : Nat) : Int)).1 = false := by simp [lbF, ruleQ]
  have l2 : lbF (ruleQ ((2 : Nat) : Int)) (fieldQ r ((2 : Nat) : Int)).1 = false := by simp [lbF, ruleQ]
  have l3 : lbF (ruleQ ((3 : Nat) : Int)) (fieldQ r ((3 : Nat) : Int)).1 = !decide (((txtQ r 3).length : Int) = (ruleQ 3).low) := by simp [lbF, ruleQ, fieldQ, txtQ]
  have l4 : lbF (ruleQ ((4 : Nat) : Int)) (fieldQ r ((4 : Nat) : Int)).1 = !decide (((txtQ r 4).length : Int) = (ruleQ 4).low) := by simp [lbF, ruleQ, fieldQ, txtQ]
  rw [Lb, Lb, Lb, Lb, Lb_high _ r 5 5 (by omega) rfl, l1, l2, l3, l4, ← h3, ← h4]
  simp only [any3, bad3, Nat.reduceAdd, Bool.and_false, Bool.false_or, Bool.or_false]
  show (if (hasQ r.kind 3 && _) = true then true else if (hasQ r.kind 4 && _) = true then true else false) = _
  cases (hasQ r.kind 3 && !decide (((txtQ r 3).length : Int) = (ruleQ 3).low)) <;> cases (hasQ r.kind 4 && !decide (((txtQ r 4).length : Int) = (ruleQ 4).low)) <;> rfl
/-- Check is the reference's -/
theorem checkQ_eq (r : Rq) (hr : RqOk r) : checkQ r = refCheckQ r := by
  unfold checkQ fieldsOf refCheckQ
  by_cases hk : maskOf r.kind = 0
  · rw [if_pos hk, if_pos ((word_mask _).2 hk)]
  · rw [if_neg hk, if_neg (fun h => hk ((word_mask _).1 h)), foGo_snd _ r 9 1 [] 0 (.inl rfl), any1_eq r hr hk 8 2 (by omega) rfl, any2_eq r hr hk 9 1 (by omega) rfl, any3_eq r hk]
    have hb : decide (bitQ (maskOf r.kind) 1 = 0) = false := by
      have h := bit_has hk (k := 1) (by omega) (by omega)
      have h1 : hasQ r.kind ((1 : Nat) : Int) = true := by
        unfold hasQ
        have : ∀ l : List Int, hasGo ((1 : Nat) : Int) l = true := by
          intro l
          induction l with
          | nil => rfl
          | cons x l ih => rw [hasGo]; split <;> first | rfl | exact ih
        exact this _
      rw [h1] at h
      simpa using h.symm
    rw [Ub, hb]
    simp

end Go.Proofs.YtckbomkcnmcdaaaGreatDoor
