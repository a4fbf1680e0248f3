/- words: decimal texts compared; the next integer; a text cut at a byte. -/
import Derived.Test.YtmjpkfjgknbfeaaGreatDoorQS
set_option linter.unusedSimpArgs false
set_option linter.unusedVariables false
namespace Go.Proofs.YtmjpkfjgknbfeaaGreatDoor

theorem val10_base : ∀ (l : List UInt8) (a : Nat), val10 a l = a * 10 ^ l.length + val10 0 l
  | [], a => by simp [val10]
  | c :: l, a => by
    have h1 := val10_base l (a * 10 + (c.toNat - 48))
    have h2 := val10_base l (0 * 10 + (c.toNat - 48))
    show val10 (a * 10 + (c.toNat - 48)) l = a * 10 ^ (l.length + 1) + val10 (0 * 10 + (c.toNat - 48)) l
    rw [h1, h2, Nat.pow_succ, Nat.add_mul, Nat.zero_mul, Nat.zero_add, Nat.mul_assoc, Nat.mul_comm 10, Nat.add_assoc]
theorem val10_cons (c : UInt8) (l : List UInt8) : val10 0 (c :: l) = (c.toNat - 48) * 10 ^ l.length + val10 0 l := by
  have := val10_base l (0 * 10 + (c.toNat - 48))
  show val10 (0 * 10 + (c.toNat - 48)) l = _
  rw [this, Nat.zero_mul, Nat.zero_add]
theorem val10_lt : ∀ (l : List UInt8), l.all digC = true → val10 0 l < 10 ^ l.length
  | [], _ => by simp [val10]
  | c :: l, h => by
    rw [List.all_cons, Bool.and_eq_true] at h
    have h1 := val10_lt l h.2
    have h2 : c.toNat - 48 ≤ 9 := by have := h.1; unfold digC at this; simp at this; omega
    rw [val10_cons, List.length_cons, Nat.pow_succ]
    have h3 : (c.toNat - 48) * 10 ^ l.length ≤ 9 * 10 ^ l.length := Nat.mul_le_mul_right _ h2
    omega
theorem val10_ge {c : UInt8} {l : List UInt8} (h : digC c = true) (h0 : ¬ c.toNat = 48) : 10 ^ l.length ≤ val10 0 (c :: l) := by
  have h2 : 1 ≤ c.toNat - 48 := by unfold digC at h; simp at h; omega
  have h3 : 1 * 10 ^ l.length ≤ (c.toNat - 48) * 10 ^ l.length := Nat.mul_le_mul_right _ h2
  rw [val10_cons]; omega
/-- what words.compare returns -/
def cmpT (a b : List UInt8) : Int := if ¬ (a.length : Int) = b.length then (a.length : Int) - b.length else Lib.compareBytes a b
theorem cmpB_val : ∀ (a b : List UInt8), a.length = b.length → a.all digC = true → b.all digC = true → (Lib.compareBytes a b < 0 ↔ val10 0 a < val10 0 b) ∧ (0 < Lib.compareBytes a b ↔ val10 0 b < val10 0 a)
  | [], [], _, _, _ => by simp [Lib.compareBytes, val10]
  | [], _ :: _, h, _, _ => by simp at h
  | _ :: _, [], h, _, _ => by simp at h
  | x :: a, y :: b, hl, ha, hb => by
    rw [List.all_cons, Bool.and_eq_true] at ha hb
    have hl' : a.length = b.length := by simpa using hl
    obtain ⟨i1, i2⟩ := cmpB_val a b hl' ha.2 hb.2
    have la := val10_lt a ha.2
    have lb := val10_lt b hb.2
    have hx : 48 ≤ x.toNat := by have := ha.1; unfold digC at this; simp at this; omega
    have hy : 48 ≤ y.toNat := by have := hb.1; unfold digC at this; simp at this; omega
    rw [val10_cons, val10_cons, Lib.compareBytes, hl'] 
    rw [hl'] at la
    generalize hP : 10 ^ b.length = P at *
    by_cases h1 : x < y
    · rw [if_pos h1]
      have h1' : x.toNat < y.toNat := UInt8.lt_iff_toNat_lt.1 h1
      have : (x.toNat - 48 + 1) * P ≤ (y.toNat - 48) * P := Nat.mul_le_mul_right _ (by omega)
      rw [Nat.add_mul] at this
      omega
    · rw [if_neg h1]
      by_cases h2 : y < x
      · rw [if_pos h2]
        have h2' : y.toNat < x.toNat := UInt8.lt_iff_toNat_lt.1 h2
        have : (y.toNat - 48 + 1) * P ≤ (x.toNat - 48) * P := Nat.mul_le_mul_right _ (by omega)
        rw [Nat.add_mul] at this
        omega
      · rw [if_neg h2]
        have he : x.toNat = y.toNat := by
          have a1 : ¬ x.toNat < y.toNat := fun h => h1 (UInt8.lt_iff_toNat_lt.2 h)
          have a2 : ¬ y.toNat < x.toNat := fun h => h2 (UInt8.lt_iff_toNat_lt.2 h)
          omega
        rw [he]
        omega
theorem decT_split {t : List UInt8} (h : decT t = true) : ∃ c l, t = c :: l ∧ digC c = true ∧ l.all digC = true ∧ (l ≠ [] → ¬ c.toNat = 48) := by
  unfold decT at h
  split at h
  · cases h
  · rename_i hn
    cases t with
    | nil => exact absurd (.inl rfl) hn
    | cons c l =>
      rw [List.all_cons, Bool.and_eq_true] at h
      refine ⟨c, l, rfl, h.1, h.2, fun hl h48 => hn (.inr ⟨?_, h48⟩)⟩
      have := List.length_pos_iff.2 hl
      simp; omega
theorem decT_less_len {a b : List UInt8} (ha : decT a = true) (hb : decT b = true) (h : a.length < b.length) : val10 0 a < val10 0 b := by
  obtain ⟨c, l, rfl, h1, h2, _⟩ := decT_split ha
  obtain ⟨d, m, rfl, h4, h5, h6⟩ := decT_split hb
  have l1 := val10_lt (c :: l) (by rw [List.all_cons, h1, h2]; rfl)
  have hm : m ≠ [] := by intro e; subst e; simp at h
  have l2 := val10_ge (l := m) h4 (h6 hm)
  have : 10 ^ (c :: l).length ≤ 10 ^ m.length := Nat.pow_le_pow_right (by omega) (by simp at h ⊢; omega)
  omega
theorem decT_all2 {t : List UInt8} (h : decT t = true) : t.all digC = true := by
  obtain ⟨c, l, rfl, h1, h2, _⟩ := decT_split h
  rw [List.all_cons, h1, h2]; rfl
theorem cmp_val {a b : List UInt8} (ha : decT a = true) (hb : decT b = true) : (cmpT a b < 0 ↔ val10 0 a < val10 0 b) ∧ (0 < cmpT a b ↔ val10 0 b < val10 0 a) := by
  unfold cmpT
  by_cases h : (a.length : Int) = b.length
  · rw [if_neg (by simpa using h)]
    exact cmpB_val a b (by omega) (decT_all2 ha) (decT_all2 hb)
  · rw [if_pos h]
    rcases Nat.lt_or_gt_of_ne (show a.length ≠ b.length by omega) with h1 | h1
    · have := decT_less_len ha hb h1; omega
    · have := decT_less_len hb ha h1; omega
/-- the next integer: digits from the last on -/
def incR : List UInt8 → List UInt8
  | [] => [49]
  | c :: r => if c = 57 then 48 :: incR r else (c + 1) :: r
def nextT (s : List UInt8) : List UInt8 := (incR s.reverse).reverse
theorem val10_app1 (l : List UInt8) (c : UInt8) : val10 0 (l ++ [c]) = val10 0 l * 10 + (c.toNat - 48) := by unfold val10; rw [List.foldl_append]; rfl
theorem dig_succ {c : UInt8} (h : digC c = true) (h9 : ¬ c = 57) : (c + 1).toNat = c.toNat + 1 ∧ digC (c + 1) = true ∧ 48 ≤ c.toNat ∧ c.toNat ≤ 56 := by
  have h1 : ¬ c.toNat = 57 := fun e => h9 (UInt8.toNat.inj e)
  unfold digC at h ⊢
  simp at h
  have : (c + 1).toNat = c.toNat + 1 := by rw [UInt8.toNat_add]; simp; omega
  rw [this]
  simp
  omega
theorem incR_val : ∀ (r : List UInt8), r.all digC = true → val10 0 (incR r).reverse = val10 0 r.reverse + 1
  | [], _ => rfl
  | c :: r, h => by
    rw [List.all_cons, Bool.and_eq_true] at h
    rw [incR, List.reverse_cons, val10_app1]
    split
    · rename_i h9
      rw [List.reverse_cons, val10_app1, incR_val r h.2, h9]
      show (val10 0 r.reverse + 1) * 10 + (48 - 48) = val10 0 r.reverse * 10 + (57 - 48) + 1
      omega
    · rename_i h9
      obtain ⟨h1, _, h3, _⟩ := dig_succ h.1 h9
      rw [List.reverse_cons, val10_app1, h1]; omega
theorem incR_dig : ∀ (r : List UInt8), r.all digC = true → (incR r).all digC = true
  | [], _ => rfl
  | c :: r, h => by
    rw [List.all_cons, Bool.and_eq_true] at h
    rw [incR]
    split
    · rw [List.all_cons, incR_dig r h.2]; rfl
    · rename_i h9
      rw [List.all_cons, (dig_succ h.1 h9).2.1, h.2]; rfl
theorem incR_ne (r : List UInt8) : incR r ≠ [] := by cases r with | nil => simp [incR] | cons c r => rw [incR]; split <;> simp
theorem incR_last : ∀ (r : List UInt8), r.all digC = true → r ≠ [] → (r.getLast?.getD 0).toNat ≠ 48 → ((incR r).getLast?.getD 0).toNat ≠ 48
  | [], _, h, _ => absurd rfl h
  | [c], ha, _, h => by
    rw [incR]
    split
    · simp [incR]
    · rename_i h9
      obtain ⟨h1, _, h3, _⟩ := dig_succ (c := c) (by simpa using ha) h9
      simp [h1] at h ⊢
      omega
  | c :: d :: r, ha, _, h => by
    rw [List.all_cons, Bool.and_eq_true] at ha
    rw [incR]
    split
    · have ih := incR_last (d :: r) ha.2 (by simp) (by simpa using h)
      have hne := incR_ne (d :: r)
      match hi : incR (d :: r), hne with
      | x :: xs, _ =>
        rw [hi] at ih
        simpa using ih
    · simpa using h
theorem nextT_val {s : List UInt8} (h : decT s = true) : decT (nextT s) = true ∧ val10 0 (nextT s) = val10 0 s + 1 := by
  have hd := decT_all2 h
  have hr : s.reverse.all digC = true := by rw [List.all_reverse]; exact hd
  have hv := incR_val s.reverse hr
  rw [List.reverse_reverse] at hv
  refine ⟨?_, hv⟩
  obtain ⟨c, l, rfl, h1, h2, h3⟩ := decT_split h
  have ha : (nextT (c :: l)).all digC = true := by unfold nextT; rw [List.all_reverse]; exact incR_dig _ hr
  have hne : nextT (c :: l) ≠ [] := by unfold nextT; simp [incR_ne]
  unfold decT
  rw [if_neg, ha]
  rintro (h4 | ⟨h4, h5⟩)
  · exact hne h4
  · have e1 : ((nextT (c :: l)).headD 0) = ((incR (c :: l).reverse).getLast?.getD 0) := by
      unfold nextT
      rw [List.headD_eq_head?_getD, List.head?_reverse]
    rw [e1] at h5
    by_cases hl : l = []
    · subst hl
      by_cases h48 : c = 48
      · subst h48; unfold nextT at h4; simp [incR] at h4
      · exact incR_last [c] (by simpa using hd) (by simp) (by simp; intro e; exact h48 (UInt8.toNat.inj e)) h5
    · exact incR_last _ hr (by simp) (by rw [List.getLast?_reverse]; simpa using h3 hl) h5
theorem nextT_nines : ∀ (k : Nat) (p : List UInt8), nextT (p ++ List.replicate k 57) = (incR p.reverse).reverse ++ List.replicate k 48
  | 0, p => by simp [nextT]
  | k + 1, p => by
    have ih := nextT_nines k p
    unfold nextT at ih ⊢
    rw [List.reverse_append, List.reverse_replicate] at ih ⊢
    rw [List.replicate_succ, List.cons_append, incR, if_pos rfl, List.reverse_cons, ih, List.replicate_succ', List.append_assoc]
theorem nextT_all (k : Nat) : nextT (List.replicate k 57) = 49 :: List.replicate k 48 := by have := nextT_nines k []; simpa [incR] using this
theorem nextT_mid (q : List UInt8) (c : UInt8) (k : Nat) (h : ¬ c = 57) : nextT (q ++ [c] ++ List.replicate k 57) = q ++ [c + 1] ++ List.replicate k 48 := by
  rw [nextT_nines, List.reverse_append, List.reverse_singleton, List.singleton_append, incR, if_neg h, List.reverse_cons, List.reverse_reverse]

theorem bytesLess_cmp : ∀ (a b : List UInt8), Op.bytesLess a b = decide (Lib.compareBytes a b < 0)
  | [], [] => rfl
  | [], _ :: _ => rfl
  | _ :: _, [] => rfl
  | x :: a, y :: b => by
    have ih := bytesLess_cmp a b
    unfold Op.bytesLess Lib.compareBytes
    by_cases h1 : x < y
    · simp [h1]
    · by_cases h2 : y < x
      · have : ¬ x = y := fun e => by subst e; exact h1 h2
        simp [h1, h2, this]
      · have e : x = y := by
          have a1 : ¬ x.toNat < y.toNat := fun h => h1 (UInt8.lt_iff_toNat_lt.2 h)
          have a2 : ¬ y.toNat < x.toNat := fun h => h2 (UInt8.lt_iff_toNat_lt.2 h)
          exact UInt8.toNat.inj (by omega)
        subst e
        simp [h1, ih]
theorem run_lssT {P : Program} (t : Nat) (x y : Operand) (a b : List UInt8) : ∀ w, (do eqGuard .lss t x y (.string ⟨a.toArray⟩) (.string ⟨b.toArray⟩); binOp .lss t (.string ⟨a.toArray⟩) (.string ⟨b.toArray⟩) : Sem Value).run P w = .ok (.bool (decide (Lib.compareBytes a b < 0))) w := by
  intro w
  rw [← bytesLess_cmp]
  simp [eqGuard, binOp_string_lss]
theorem compare_P (a b : List UInt8) : PC Tryz.prog 52 [.t a, .t b] (.i (Lib.compareBytes a b)) :=
  PC.of_val (Entr.of Tryz.func52 rfl (by kernel_rfl)) (by simp [LV.lts, LV.lt]) fun cx w vs hl ham hv => by
    obtain ⟨v1, v2, rfl, h2, h3⟩ : ∃ v1 v2, vs = [v1, v2] ∧ V cx w (.t a) v1 ∧ V cx w (.t b) v2 := by
      simp only [Vs] at hv
      obtain ⟨v1, r1, rfl, h1, v2, r2, rfl, h2, rfl⟩ := hv
      exact ⟨_, _, rfl, h1, h2⟩
    rw [h2.val, h3.val]
    refine (Tryz.strings_Compare ⟨a.toArray⟩ ⟨b.toArray⟩ w).mono ?_
    rintro e w' ⟨rfl, rfl⟩
    exact ⟨rfl, rfl, rfl, rfl, Nat.le_refl _, fun _ _ => rfl⟩

theorem cmpT_P (a b : List UInt8) (ha : a.length ≤ 100000) (hb : b.length ≤ 100000) : PC Tryz.prog 30 [.t a, .t b] (.i (cmpT a b)) := by
 refine ⟨LC.of_go Tryz.func30 (c := _) rfl (by kernel_rfl) (by rw [Tryz.ntmps30]; simp) rfl rfl (by simp [LO.lt, LV.lts, LV.lt]) (by simp) ?_⟩
 intro B hA hmd
 obtain ⟨g, e0⟩ : ∃ g, cmpT a b = g := ⟨_, rfl⟩
 have e1 := e0
 unfold cmpT at e1
 rw [e0]
 refine .seq ?_
 refine .region rfl ?_
 refine R.assign (h := ?_)
 refine .n0 ?_
 refine .seq ?_
 refine .seq ?_
 refine .region rfl ?_
 refine R.move (h := ?_)
 refine R.lenT Tryz.runUnderlying9 (h := ?_)
 refine R.move (h := ?_)
 refine R.lenT Tryz.runUnderlying9 (h := ?_)
 refine R.bin (run_neq _ _ _ _ _ _) (h := ?_)
 refine .n0 ?_
 refine LGo.ifb (ht := fun hc => ?_) (hf := fun hc => ?_)
 ·
  rw [if_pos (by simpa using hc)] at e1; rw [← e1]
  refine .seq ?_
  refine .region rfl ?_
  refine R.move (h := ?_)
  refine R.lenT Tryz.runUnderlying9 (h := ?_)
  refine R.move (h := ?_)
  refine R.lenT Tryz.runUnderlying9 (h := ?_)
  first | refine R.sub (h := ?_) | refine R.subW (h := ?_)
  refine R.assign (h := ?_)
  refine .n0 ?_
  exact LGo.ret (ret_T Tryz.results30 hA hmd)
 ·
  rw [if_neg (by simpa using hc)] at e1; rw [← e1]
  refine .skip ?_
  refine .seq ?_
  refine .region rfl ?_
  refine R.move (h := ?_)
  refine R.move (h := ?_)
  refine R.callP (es := [_, _]) (fun _ => compare_P a b) (h := ?_)
  refine R.assign (h := ?_)
  refine .n0 ?_
  exact LGo.ret (ret_T Tryz.results30 hA hmd)

theorem lessR_P (a b : List UInt8) (ha : a.length ≤ 100000) (hb : b.length ≤ 100000) : PC Tryz.prog 35 [.t a, .t b] (.b (decide (cmpT a b < 0))) := by
 refine ⟨LC.of_go Tryz.func35 (c := _) rfl (by kernel_rfl) (by rw [Tryz.ntmps35]; simp) rfl rfl (by simp [LO.lt, LV.lts, LV.lt]) (by simp) ?_⟩
 intro B hA hmd
 obtain ⟨g, e0⟩ : ∃ g, cmpT a b = g := ⟨_, rfl⟩
 have e1 := e0
 unfold cmpT at e1
 rw [e0]
 refine .seq ?_
 refine .region rfl ?_
 refine R.assign (h := ?_)
 refine .n0 ?_
 refine .seq ?_
 refine .seq ?_
 refine .region rfl ?_
 refine R.move (h := ?_)
 refine R.lenT Tryz.runUnderlying9 (h := ?_)
 refine R.move (h := ?_)
 refine R.lenT Tryz.runUnderlying9 (h := ?_)
 refine R.bin (run_neq _ _ _ _ _ _) (h := ?_)
 refine .n0 ?_
 refine LGo.ifb (ht := fun hc => ?_) (hf := fun hc => ?_)
 ·
  rw [if_pos (by simpa using hc)] at e1; rw [← e1, show decide ((a.length : Int) - b.length < 0) = decide ((a.length : Int) < b.length) from by rw [Bool.eq_iff_iff]; simp; omega]
  refine .seq ?_
  refine .region rfl ?_
  refine R.move (h := ?_)
  refine R.lenT Tryz.runUnderlying9 (h := ?_)
  refine R.move (h := ?_)
  refine R.lenT Tryz.runUnderlying9 (h := ?_)
  refine R.bin (run_lss _ _ _ _ _ _) (h := ?_)
  refine R.assign (h := ?_)
  refine .n0 ?_
  exact LGo.ret (ret_T Tryz.results35 hA hmd)
 ·
  rw [if_neg (by simpa using hc)] at e1; rw [← e1]
  refine .skip ?_
  refine .seq ?_
  refine .region rfl ?_
  refine R.move (h := ?_)
  refine R.move (h := ?_)
  refine R.bin (run_lssT _ _ _ _ _) (h := ?_)
  refine R.assign (h := ?_)
  refine .n0 ?_
  exact LGo.ret (ret_T Tryz.results35 hA hmd)

end Go.Proofs.YtmjpkfjgknbfeaaGreatDoor
