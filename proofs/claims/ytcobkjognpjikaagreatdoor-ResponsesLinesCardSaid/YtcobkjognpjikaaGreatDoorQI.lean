/- words: Int and Digits, and the reference's. -/
import Derived.Test.YtcobkjognpjikaaGreatDoorQH
import Derived.Test.YtcobkjognpjikaaGreatDoorQB
set_option linter.unusedSimpArgs false
set_option linter.unusedVariables false
namespace Go.Proofs.YtcobkjognpjikaaGreatDoor

set_option linter.unusedSimpArgs false
def val10 (a : Nat) (l : List UInt8) : Nat := l.foldl (fun a c => a * 10 + (c.toNat - 48)) a
theorem val10_le (l : List UInt8) : ∀ a, a ≤ val10 a l := by
  induction l with
  | nil => intro a; exact Nat.le_refl _
  | cons c l ih => intro a; have := ih (a * 10 + (c.toNat - 48)); unfold val10 at this ⊢; rw [List.foldl_cons]; omega
theorem parseM_dec : ∀ (l : List UInt8) (a : Nat), l.all digC = true → a < 18446744073709551616 → Lib.parseUintM 18446744073709551615 a l = if 18446744073709551616 ≤ val10 a l then .range else .ok (val10 a l)
  | [], a, _, ha => by rw [Lib.parseUintM, if_neg (by show ¬ _ ≤ a; omega)]; rfl
  | c :: l, a, h, ha => by
    rw [List.all_cons, Bool.and_eq_true] at h
    have hc : 48 ≤ c.toNat ∧ c.toNat ≤ 57 := by have := h.1; unfold digC at this; simpa using this
    rw [Lib.parseUintM, if_pos hc]
    have hv : val10 a (c :: l) = val10 (a * 10 + (c.toNat - 48)) l := rfl
    have hle := val10_le l (a * 10 + (c.toNat - 48))
    rw [hv]
    by_cases h1 : 1844674407370955162 ≤ a
    · rw [if_pos h1, if_pos (by omega)]
    · rw [if_neg h1]
      by_cases h2 : 18446744073709551615 < a * 10 + (c.toNat - 48)
      · rw [if_pos h2, if_pos (by omega)]
      · rw [if_neg h2]
        exact parseM_dec l _ h.2 (by omega)
/-- the value of a decimal form -/
def decV (s : List UInt8) : Int := if (s.headD 0).toNat = 45 then -(val10 0 (s.drop 1) : Nat) else (val10 0 s : Nat)
def inI (n : Int) : Bool := decide (-9223372036854775808 ≤ n ∧ n ≤ 9223372036854775807)
theorem decT_all {t : List UInt8} (h : decT t = true) : t ≠ [] ∧ t.all digC = true := by
  unfold decT at h
  split at h
  · cases h
  · rename_i h2; exact ⟨fun e => h2 (.inl e), h⟩
theorem dig_ne45 {c : UInt8} (h : digC c = true) : ¬ c.toNat = 45 ∧ ¬ c.toNat = 43 := by unfold digC at h; simp at h; omega
theorem parseInt_dec {s : List UInt8} (h : decC s = true) : Lib.parseIntB 64 s = if inI (decV s) = true then .ok (decV s) else .range := by
  by_cases hc : 1 < s.length ∧ (s.headD 0).toNat = 45 ∧ ((s.drop 1).headD 0).toNat ≠ 48
  · rw [decC_cut hc] at h
    obtain ⟨h1, h2⟩ := decT_all h
    match s, hc with
    | a :: r, hc =>
      have ha : a.toNat = 45 := hc.2.1
      rw [List.drop_succ_cons, List.drop_zero] at h1 h2
      have hv : decV (a :: r) = -(val10 0 r : Nat) := by unfold decV; rw [if_pos (by simpa using ha)]; rfl
      have hp : Lib.parseUintB 64 r = if 18446744073709551616 ≤ val10 0 r then .range else .ok (val10 0 r) := by
        unfold Lib.parseUintB; rw [if_neg h1]; exact parseM_dec r 0 h2 (by omega)
      unfold Lib.parseIntB
      simp only [ha, true_or, or_true, if_true, hp, hv, not_true, false_and, true_and, if_false]
      by_cases h5 : 18446744073709551616 ≤ val10 0 r
      · rw [if_pos h5, if_neg (by unfold inI; simp; omega)]
      · rw [if_neg h5]
        dsimp only
        by_cases h6 : 2 ^ (64 - 1) < val10 0 r
        · rw [if_pos h6, if_neg (by unfold inI; simp; omega)]
        · rw [if_neg h6, if_pos (by unfold inI; simp; omega)]
  · rw [decC_all hc] at h
    obtain ⟨h1, h2⟩ := decT_all h
    match s, h1, h2 with
    | a :: r, h1, h2 =>
      have ha := dig_ne45 (by simp at h2; exact h2.1 : digC a = true)
      have hv : decV (a :: r) = (val10 0 (a :: r) : Nat) := by unfold decV; rw [if_neg (by simpa using ha.1)]
      have hp : Lib.parseUintB 64 (a :: r) = if 18446744073709551616 ≤ val10 0 (a :: r) then .range else .ok (val10 0 (a :: r)) := by
        unfold Lib.parseUintB; rw [if_neg h1]; exact parseM_dec (a :: r) 0 h2 (by omega)
      unfold Lib.parseIntB
      simp only [ha.1, ha.2, or_self, if_false, hp, hv, not_false_iff, false_and, true_and]
      generalize val10 0 (a :: r) = n
      by_cases h5 : 18446744073709551616 ≤ n
      · rw [if_pos h5, if_neg (by unfold inI; simp; omega)]
      · rw [if_neg h5]
        dsimp only
        by_cases h6 : 2 ^ (64 - 1) ≤ n
        · rw [if_pos h6, if_neg (by unfold inI; simp; omega)]
        · rw [if_neg h6, if_pos (by unfold inI; simp; omega)]
/-- the reference's way: numbers are built up as negative ones -/
def irGo : List UInt8 → Int → Option Int
  | [], n => some n
  | c :: r, n => if c.toNat = 45 then irGo r n else if n < Int.tdiv (-9223372036854775808 + ((c.toNat : Int) - 48)) 10 then none else irGo r (10 * n - ((c.toNat : Int) - 48))
def intW (s : List UInt8) (lo hi : Int) : Int × Int := if decC s = false then (0, 6) else if inI (decV s) = false ∨ decV s < lo ∨ decV s > hi then (0, 7) else (decV s, 0)
def intR (s : List UInt8) (lo hi : Int) : Int × Int := if decC s = false then (0, 6) else match irGo s 0 with
  | none => (0, 7)
  | some n => if (s.headD 0).toNat ≠ 45 ∧ n = -9223372036854775808 then (0, 7) else
      (fun n => if n < lo ∨ n > hi then (0, 7) else (n, 0)) (if (s.headD 0).toNat = 45 then n else -n)
section
open Go.RowKit
theorem sent_range {pr : Nat → Nat} {w : World} (h : Amb pr w) : ∃ tp p, w.var? Tryz.prog "strconv.ErrRange" = some #[.iface tp p] := by
  obtain ⟨_, T, fr, tp, p, hb⟩ := h.2 8 (by simp [sents])
  refine ⟨tp, p, ?_⟩
  unfold World.var?
  rw [show Tryz.prog.globalNamed "strconv.ErrRange" = some 8 from by kernel_rfl]
  simp only [Option.bind_some, hb]

theorem parseInt_ok (s : List UInt8) (hs : s.length ≤ 100000) (h : decC s = true) (hi : inI (decV s) = true) : PC Tryz.prog 85 [.t s, .i 10, .i 64] (.tup [.i (decV s), .v .nilIface]) :=
  PC.of_calls (Entr.of Tryz.func85 rfl (by kernel_rfl)) (by simp [LV.lts, LV.lt]) fun cx w vs hl ham hv => by
    obtain ⟨v1, v2, v3, rfl, h1, h2, h3⟩ : ∃ v1 v2 v3, vs = [v1, v2, v3] ∧ V cx w (.t s) v1 ∧ V cx w (.i 10) v2 ∧ V cx w (.i 64) v3 := by
      simp only [Vs] at hv
      obtain ⟨v1, r1, rfl, h1, v2, r2, rfl, h2, v3, r3, rfl, h3, rfl⟩ := hv
      exact ⟨_, _, _, rfl, h1, h2, h3⟩
    rw [h1.val, h2.val, h3.val]
    have hp := parseInt_dec h
    rw [if_pos hi] at hp
    refine (Tryz.strconv_ParseInt_10_at64_ok ⟨s.toArray⟩ (by show s.toArray.size ≤ _; simp; omega) _ hp w).mono ?_
    rintro e w' ⟨rfl, hb⟩
    have hb : Below w.heap.size w w' := by
      rcases hb with rfl | ⟨t, rfl⟩
      · exact Below.refl _ _
      · exact ⟨rfl, rfl, rfl, by rw [Lib.bytesWorld_size]; omega, fun k hk => Lib.bytesWorld_at_old w _ _ k hk⟩
    exact ⟨_, cx.pr, rfl, hb, fun _ _ => rfl, fun b hb' => Nat.lt_of_lt_of_le (hl b hb') hb.size, by simp only [V]; exact ⟨[_, _], rfl, Vs_cons V.mkval (Vs_cons V.mkval Vs_nil)⟩⟩
theorem parseInt_rg (s : List UInt8) (hs : s.length ≤ 100000) (h : decC s = true) (hi : inI (decV s) = false) : PC Tryz.prog 85 [.t s, .i 10, .i 64] (.tup [.i (Lib.intSat 64 s), .pv ifc]) :=
  PC.of_calls (Entr.of Tryz.func85 rfl (by kernel_rfl)) (by simp [LV.lts, LV.lt]) fun cx w vs hl ham hv => by
    obtain ⟨v1, v2, v3, rfl, h1, h2, h3⟩ : ∃ v1 v2 v3, vs = [v1, v2, v3] ∧ V cx w (.t s) v1 ∧ V cx w (.i 10) v2 ∧ V cx w (.i 64) v3 := by
      simp only [Vs] at hv
      obtain ⟨v1, r1, rfl, h1, v2, r2, rfl, h2, v3, r3, rfl, h3, rfl⟩ := hv
      exact ⟨_, _, _, rfl, h1, h2, h3⟩
    rw [h1.val, h2.val, h3.val]
    have hp := parseInt_dec h
    rw [if_neg (by rw [hi]; simp)] at hp
    obtain ⟨tp, p, hvar⟩ := sent_range ham
    refine (Tryz.strconv_ParseInt_10_at64_range_var ⟨s.toArray⟩ (by show s.toArray.size ≤ _; simp; omega) hp tp p w hvar).mono ?_
    rintro e w' ⟨N, rfl, _, _, hb⟩
    exact ⟨_, cx.pr, rfl, hb, fun _ _ => rfl, fun b hb' => Nat.lt_of_lt_of_le (hl b hb') hb.size, by simp only [V]; exact ⟨[_, _], rfl, Vs_cons V.mkval (Vs_cons (VPv ⟨_, _, rfl⟩ rfl) Vs_nil)⟩⟩

end
theorem int_P (s : List UInt8) (lo hi : Int) (hs : s.length ≤ 100000) : PC Tryz.prog 59 [.t s, .i lo, .i hi] (.tup [.i (intW s lo hi).1, .i (intW s lo hi).2]) := by
 refine ⟨LC.of_go Tryz.func59 (c := _) rfl (by kernel_rfl) (by rw [Tryz.ntmps59]; simp) rfl rfl (by simp [LO.lt, LV.lts, LV.lt]) (by simp) ?_⟩
 intro B hA hmd
 have hd := dec_both s
 obtain ⟨g, e0⟩ : ∃ g, intW s lo hi = g := ⟨_, rfl⟩
 have e1 := e0
 unfold intW at e1
 rw [e0]
 refine .seq ?_
 refine .region rfl ?_
 refine R.assign (h := ?_)
 refine R.assign (h := ?_)
 refine .n0 ?_
 refine .seq ?_
 refine .seq ?_
 refine .region rfl ?_
 refine R.move (h := ?_)
 refine R.callP (es := [_]) (fun _ => isDecimal_P s hs) (h := ?_)
 rw [hd]
 refine R.not (h := ?_)
 refine .n0 ?_
 refine LGo.ifb (ht := fun hc => ?_) (hf := fun hc => ?_)
 ·
  rw [if_pos (by simpa using hc)] at e1; rw [← e1]
  refine .seq ?_
  refine .region rfl ?_
  refine R.assign (h := ?_)
  refine R.assign (h := ?_)
  refine .n0 ?_
  exact LGo.ret (ret_TT Tryz.results59 hA hmd)
 ·
  have hdc : decC s = true := by simpa using hc
  rw [if_neg (by rw [hdc]; simp)] at e1
  refine .skip ?_
  refine .seq ?_
  refine .region rfl ?_
  refine R.move (h := ?_)
  cases hin : inI (decV s)
  ·
   rw [if_pos (.inl hin)] at e1; rw [← e1]
   refine R.callP (es := [_, _, _]) (fun _ => parseInt_rg s hs hdc hin) (h := ?_)
   refine R.move (h := ?_)
   refine R.extract (h := ?_)
   refine R.extract (h := ?_)
   refine R.assign (h := ?_)
   refine R.assign (h := ?_)
   refine .n0 ?_
   refine .seq ?_
   refine .seq ?_
   refine .region rfl ?_
   refine R.move (h := ?_)
   refine R.binPv (run_neIfc Tryz.underlying99 _) (h := ?_)
   refine R.move (h := ?_)
   refine R.move (h := ?_)
   refine R.move (h := ?_)
   refine R.bin (run_lss _ _ _ _ _ _) (h := ?_)
   refine R.or (h := ?_)
   refine R.move (h := ?_)
   refine R.move (h := ?_)
   refine R.move (h := ?_)
   refine R.bin (run_gtr _ _ _ _ _ _) (h := ?_)
   refine R.or (h := ?_)
   refine .n0 ?_
   refine LGo.ifb (ht := fun hc2 => ?_) (hf := fun hc2 => by simp at hc2)
   refine .seq ?_
   refine .region rfl ?_
   refine R.assign (h := ?_)
   refine R.assign (h := ?_)
   refine .n0 ?_
   exact LGo.ret (ret_TT Tryz.results59 hA hmd)
  ·
   refine R.callP (es := [_, _, _]) (fun _ => parseInt_ok s hs hdc hin) (h := ?_)
   refine R.move (h := ?_)
   refine R.extract (h := ?_)
   refine R.extract (h := ?_)
   refine R.assign (h := ?_)
   refine R.assign (h := ?_)
   refine .n0 ?_
   refine .seq ?_
   refine .seq ?_
   refine .region rfl ?_
   refine R.move (h := ?_)
   refine R.bin (run_neNil Tryz.underlying99 _) (h := ?_)
   refine R.move (h := ?_)
   refine R.move (h := ?_)
   refine R.move (h := ?_)
   refine R.bin (run_lss _ _ _ _ _ _) (h := ?_)
   refine R.or (h := ?_)
   refine R.move (h := ?_)
   refine R.move (h := ?_)
   refine R.move (h := ?_)
   refine R.bin (run_gtr _ _ _ _ _ _) (h := ?_)
   refine R.or (h := ?_)
   refine .n0 ?_
   refine LGo.ifb (ht := fun hc3 => ?_) (hf := fun hc3 => ?_)
   ·
    rw [if_pos (.inr (by simpa using hc3))] at e1; rw [← e1]
    refine .seq ?_
    refine .region rfl ?_
    refine R.assign (h := ?_)
    refine R.assign (h := ?_)
    refine .n0 ?_
    exact LGo.ret (ret_TT Tryz.results59 hA hmd)
   ·
    rw [if_neg (by rw [hin]; simpa using hc3)] at e1; rw [← e1]
    refine .skip ?_
    refine .seq ?_
    refine .region rfl ?_
    refine R.move (h := ?_)
    refine R.assign (h := ?_)
    refine R.assign (h := ?_)
    refine .n0 ?_
    exact LGo.ret (ret_TT Tryz.results59 hA hmd)

end Go.Proofs.YtcobkjognpjikaaGreatDoor
