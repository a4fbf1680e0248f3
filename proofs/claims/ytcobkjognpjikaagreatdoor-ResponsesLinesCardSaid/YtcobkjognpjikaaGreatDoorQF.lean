/- words, the reference: what is a decimal form. -/
import Derived.Test.YtcobkjognpjikaaGreatDoorQE
import Derived.Shelf.Strings.SlTrimAscii
set_option linter.unusedSimpArgs false
set_option linter.unusedVariables false
namespace Go.Proofs.YtcobkjognpjikaaGreatDoor

def digC (c : UInt8) : Bool := decide (48 ≤ c.toNat) && decide (c.toNat ≤ 57)
/-- the decimal form of an integer of any size -/
def decC (s : List UInt8) : Bool :=
  let t := if 1 < s.length ∧ (s.headD 0).toNat = 45 ∧ ((s.drop 1).headD 0).toNat ≠ 48 then s.drop 1 else s
  if t = [] ∨ (1 < t.length ∧ (t.headD 0).toNat = 48) then false else t.all digC

def decT (t : List UInt8) : Bool := if t = [] ∨ (1 < t.length ∧ (t.headD 0).toNat = 48) then false else t.all digC
theorem decC_cut {s : List UInt8} (h : 1 < s.length ∧ (s.headD 0).toNat = 45 ∧ ((s.drop 1).headD 0).toNat ≠ 48) : decC s = decT (s.drop 1) := by unfold decC decT; simp only [if_pos h]
theorem decC_all {s : List UInt8} (h : ¬ (1 < s.length ∧ (s.headD 0).toNat = 45 ∧ ((s.drop 1).headD 0).toNat ≠ 48)) : decC s = decT s := by unfold decC decT; simp only [if_neg h]
theorem idx0 {s : List UInt8} (h : 0 < s.length) : s[Int.toNat 0]? = some (s.headD 0) := by cases s with | nil => simp at h | cons a r => rfl
theorem trimPrefix_P (s p : List UInt8) : PC Tryz.prog 108 [.t s, .t p] (.t (Lib.trimPrefix s p)) :=
  PC.of_val (Entr.of Tryz.func108 rfl (by kernel_rfl)) (by simp [LV.lts, LV.lt]) fun cx w vs hl ham hv => by
    obtain ⟨v1, v2, rfl, h2, h3⟩ : ∃ v1 v2, vs = [v1, v2] ∧ V cx w (.t s) v1 ∧ V cx w (.t p) v2 := by
      simp only [Vs] at hv
      obtain ⟨v1, r1, rfl, h1, v2, r2, rfl, h2, rfl⟩ := hv
      exact ⟨_, _, rfl, h1, h2⟩
    rw [h2.val, h3.val]
    refine (Tryz.strings_TrimPrefix ⟨s.toArray⟩ ⟨p.toArray⟩ w).mono ?_
    rintro e w' ⟨rfl, rfl⟩
    exact ⟨rfl, rfl, rfl, rfl, Nat.le_refl _, fun _ _ => rfl⟩
def digs10 : List UInt8 := [48, 49, 50, 51, 52, 53, 54, 55, 56, 57]
theorem trim10_P (s : List UInt8) (hs : s.length ≤ 100000) : PC Tryz.prog 109 [.t s, .t digs10] (.t (Lib.trimS s digs10)) := by
  generalize hp : digs10 = p
  exact PC.of_val (Entr.of Tryz.func109 rfl (by kernel_rfl)) (by simp [LV.lts, LV.lt]) fun cx w vs hl ham hv => by
    obtain ⟨v1, v2, rfl, h2, h3⟩ : ∃ v1 v2, vs = [v1, v2] ∧ V cx w (.t s) v1 ∧ V cx w (.t p) v2 := by
      simp only [Vs] at hv
      obtain ⟨v1, r1, rfl, h1, v2, r2, rfl, h2, rfl⟩ := hv
      exact ⟨_, _, rfl, h1, h2⟩
    rw [h2.val, h3.val]
    refine (Any.strings_Trim_laid Tryz.lays160 (by kernel_rfl) ⟨s.toArray⟩ ⟨p.toArray⟩ w (by show s.toArray.size ≤ _; simp; omega) (by rw [← hp]; decide) (by rw [← hp]; exact ascii_of_all (by decide))).mono ?_
    rintro e w' ⟨rfl, hb⟩
    exact ⟨rfl, hb⟩
theorem digs_contains (c : UInt8) : digs10.contains c = digC c := u8_all (p := fun c => digs10.contains c = digC c) (by decide +kernel) c
theorem dw_head {p : UInt8 → Bool} : ∀ {l : List UInt8} {a : UInt8} {r : List UInt8}, l.dropWhile p = a :: r → p a = false
  | [], a, r, h => by simp at h
  | b :: l, a, r, h => by
    rw [List.dropWhile_cons] at h
    cases hb : p b with
    | true => rw [hb] at h; exact dw_head h
    | false => rw [hb] at h; simp at h; rw [← h.1]; exact hb
theorem trim_nil (t : List UInt8) : Lib.trimS t digs10 = [] ↔ t.all digC = true := by
  have h : ∀ l : List UInt8, l.dropWhile (digs10.contains ·) = [] ↔ l.all digC = true := by
    intro l
    induction l with
    | nil => simp
    | cons a l ih =>
      rw [List.dropWhile_cons, List.all_cons, digs_contains]
      cases digC a
      · simp
      · simpa using ih
  unfold Lib.trimS Lib.trimLeftS Lib.trimRightS
  rw [h]
  constructor
  · intro h1
    have h2 : (t.reverse.dropWhile (digs10.contains ·)) = [] := by
      cases h3 : t.reverse.dropWhile (digs10.contains ·) with
      | nil => rfl
      | cons a l =>
        exfalso
        have h4 : digs10.contains a = false := dw_head h3
        rw [digs_contains] at h4
        rw [h3] at h1
        simp [h4] at h1
    rw [h] at h2
    simpa using h2
  · intro h1
    have h2 : t.reverse.dropWhile (digs10.contains ·) = [] := by rw [h]; simpa using h1
    rw [h2]; rfl
def decD (s : List UInt8) : Bool := if Lib.trimPrefix s [45] = [] ∨ Lib.trimS (Lib.trimPrefix s [45]) digs10 ≠ [] then false else (!decide ((((Lib.trimPrefix s [45]).headD 0).toNat : Int) = 48)) || decide (s = [48])

theorem trimPrefix_len (s : List UInt8) : (Lib.trimPrefix s [45]).length ≤ s.length := by unfold Lib.trimPrefix; split <;> simp

theorem isDecimal_P (s : List UInt8) (hs : s.length ≤ 100000) : PC Tryz.prog 84 [.t s] (.b (decD s)) := by
 refine ⟨LC.of_go Tryz.func84 (c := _) rfl (by kernel_rfl) (by rw [Tryz.ntmps84]; simp) rfl rfl (by simp [LO.lt, LV.lts, LV.lt]) (by simp) ?_⟩
 intro B hA hmd
 refine .seq ?_
 refine .region rfl ?_
 refine R.assign (h := ?_)
 refine .n0 ?_
 refine .seq ?_
 refine .region rfl ?_
 refine R.move (h := ?_)
 refine R.callP (es := [_, _]) (fun _ => trimPrefix_P s [45]) (h := ?_)
 refine R.assign (h := ?_)
 refine .n0 ?_
 refine .seq ?_
 refine .seq ?_
 refine .region rfl ?_
 refine R.move (h := ?_)
 refine R.bin (run_eqlT _ _ _ _ _) (h := ?_)
 refine R.move (h := ?_)
 refine R.move (h := ?_)
 refine R.callP (es := [_, _]) (fun _ => trim10_P (Lib.trimPrefix s [45]) (by have := trimPrefix_len s; omega)) (h := ?_)
 refine R.bin (run_neqT _ _ _ _ _) (h := ?_)
 refine R.or (h := ?_)
 refine .n0 ?_
 refine LGo.ifb (ht := fun hc => ?_) (hf := fun hc => ?_)
 ·
  rw [show decD s = false from by unfold decD; exact if_pos (by simp only [Bool.or_eq_true, Bool.not_eq_true', decide_eq_true_eq, decide_eq_false_iff_not] at hc; exact hc)]
  refine .seq ?_
  refine .region rfl ?_
  refine R.assign (h := ?_)
  refine .n0 ?_
  exact LGo.ret (ret_T Tryz.results84 hA hmd)
 ·
  have hn : ¬ (Lib.trimPrefix s [45] = [] ∨ Lib.trimS (Lib.trimPrefix s [45]) digs10 ≠ []) := by simp only [Bool.or_eq_false_iff, Bool.not_eq_false', decide_eq_true_eq, decide_eq_false_iff_not] at hc; rintro (h | h); exact hc.1 h; exact h hc.2
  have hd : decD s = ((!decide ((((Lib.trimPrefix s [45]).headD 0).toNat : Int) = 48)) || decide (s = [48])) := if_neg hn
  have h0 : 0 < (Lib.trimPrefix s [45]).length := List.length_pos_iff.2 (fun h => hn (.inl h))
  rw [hd]
  refine .skip ?_
  refine .seq ?_
  refine .region rfl ?_
  refine R.move (h := ?_)
  refine R.indexT Tryz.runUnderlying9 (c := (Lib.trimPrefix s [45]).headD 0) (hj := fun hg => ⟨by omega, idx0 h0⟩) (h := ?_)
  refine R.bin (run_neq _ _ _ _ _ _) (h := ?_)
  refine R.move (h := ?_)
  refine R.move (h := ?_)
  refine R.bin (run_eqlT _ _ _ _ _) (h := ?_)
  refine R.or (h := ?_)
  refine R.assign (h := ?_)
  refine .n0 ?_
  exact LGo.ret (ret_T Tryz.results84 hA hmd)

end Go.Proofs.YtcobkjognpjikaaGreatDoor
