/- words: Int and Digits, and the reference's. -/
import Derived.Test.YtcobkjognpjikaaGreatDoorQH
import Derived.Test.YtcobkjognpjikaaGreatDoorQB
set_option linter.unusedSimpArgs false
set_option linter.unusedVariables false
namespace Go.Proofs.YtcobkjognpjikaaGreatDoor

set_option linter.unusedSimpArgs false
def val10 (a : Nat) (l : List UInt8) : Nat := l.foldl (fun a c => a * 10 + (c.toNat - 48)) a
theorem val10_le (l : List UInt8) : ∀ a, a ≤ val10 a l := by
  induction l with
  | nil => intro a; exact Nat.le_refl _
  | cons c l ih => intro a; have := ih (a * 10 + (c.toNat - 48)); unfold val10 at this ⊢; rw [List.foldl_cons]; omega
theorem parseM_dec : ∀ (l : List UInt8) (a : Nat), l.all digC = true → a < 18446744073709551616 → Lib.parseUintM 18446744073709551615 a l = if 18446744073709551616 ≤ val10 a l then .range else .ok (val10 a l)
  | [], a, _, ha => by rw [Lib.parseUintM, if_neg (by show ¬ _ ≤ a; omega)]; rfl
  | c :: l, a, h, ha => by
    rw [List.all_cons, Bool.and_eq_true] at h
    have hc : 48 ≤ c.toNat ∧ c.toNat ≤ 57 := by have := h.1; unfold digC at this; simpa using this
    rw [Lib.parseUintM, if_pos hc]
    have hv : val10 a (c :: l) = val10 (a * 10 + (c.toNat - 48)) l := rfl
    have hle := val10_le l (a * 10 + (c.toNat - 48))
    rw [hv]
    by_cases h1 : 1844674407370955162 ≤ a
    · rw [if_pos h1, if_pos (by omega)]
    · rw [if_neg h1]
      by_cases h2 : 18446744073709551615 < a * 10 + (c.toNat - 48)
      · rw [if_pos h2, if_pos (by omega)]
      · rw [if_neg h2]
        exact parseM_dec l _ h.2 (by omega)
/-- the value of a decimal form -/
def decV (s : List UInt8) : Int := if (s.headD 0).toNat = 45 then -(val10 0 (s.drop 1) : Nat) else (val10 0 s : Nat)
def inI (n : Int) : Bool := decide (-9223372036854775808 ≤ n ∧ n ≤ 9223372036854775807)
theorem decT_all {t : List UInt8} (h : decT t = true) : t ≠ [] ∧ t.all digC = true := by
  unfold decT at h
  split at h
  · cases h
  · rename_i h2; exact ⟨fun e => h2 (.inl e), h⟩
theorem dig_ne45 {c : UInt8} (h : digC c = true) : ¬ c.toNat = 45 ∧ ¬ c.toNat = 43 := by unfold digC at h; simp at h; omega
theorem parseInt_dec {s : List UInt8} (h : decC s = true) : Lib.parseIntB 64 s = if inI (decV s) = true then .ok (decV s) else .range := by
  by_cases hc : 1 < s.length ∧ (s.headD 0).toNat = 45 ∧ ((s.drop 1).headD 0).toNat ≠ 48
  · rw [decC_cut hc] at h
    obtain ⟨h1, h2⟩ := decT_all h
    match s, hc with
    | a :: r, hc =>
      have ha : a.toNat = 45 := hc.2.1
      rw [List.drop_succ_cons, List.drop_zero] at h1 h2
      have hv : decV (a :: r) = -(val10 0 r : Nat) := by unfold decV; rw [if_pos (by simpa using ha)]; rfl
      have hp : Lib.parseUintB 64 r = if 18446744073709551616 ≤ val10 0 r then .range else .ok (val10 0 r) := by
        unfold Lib.parseUintB; rw [if_neg h1]; exact parseM_dec r 0 h2 (by omega)
      unfold Lib.parseIntB
      simp only [ha, true_or, or_true, if_true, hp, hv, not_true, false_and, true_and, if_false]
      by_cases h5 : 18446744073709551616 ≤ val10 0 r
      · rw [if_pos h5, if_neg (by unfold inI; simp; omega)]
      · rw [if_neg h5]
        dsimp only
        by_cases h6 : 2 ^ (64 - 1) < val10 0 r
        · rw [if_pos h6, if_neg (by unfold inI; simp; omega)]
        · rw [if_neg h6, if_pos (by unfold inI; simp; omega)]
  · rw [decC_all hc] at h
    obtain ⟨h1, h2⟩ := decT_all h
    match s, h1, h2 with
    | a :: r, h1, h2 =>
      have ha := dig_ne45 (by simp at h2; exact h2.1 : digC a = true)
      have hv : decV (a :: r) = (val10 0 (a :: r) : Nat) := by unfold decV; rw [if_neg (by simpa using ha.1)]
      have hp : Lib.parseUintB 64 (a :: r) = if 18446744073709551616 ≤ val10 0 (a :: r) then .range else .ok (val10 0 (a :: r)) := by
        unfold Lib.parseUintB; rw [if_neg h1]; exact parseM_dec (a :: r) 0 h2 (by omega)
      unfold Lib.parseIntB
      simp only [ha.1, ha.2, or_self, if_false, hp, hv, not_false_iff, false_and, true_and]
      generalize val10 0 (a :: r) = n
      by_cases h5 : 18446744073709551616 ≤ n
      · rw [if_pos h5, if_neg (by unfold inI; simp; omega)]
      · rw [if_neg h5]
        dsimp only
        by_cases h6 : 2 ^ (64 - 1) ≤ n
        · rw [if_pos h6, if_neg (by unfold inI; simp; omega)]
        · rw [if_neg h6, if_pos (by unfold inI; simp; omega)]
/-- the reference's way: numbers are built up as negative ones -/
def irGo : List UInt8 → Int → Option Int
  | [], n => some n
  | c :: r, n => if c.toNat = 45 then irGo r n else if n < Int.tdiv (-9223372036854775808 + ((c.toNat : Int) - 48)) 10 then none else irGo r (10 * n - ((c.toNat : Int) - 48))
theorem irGo_dig : ∀ (l : List UInt8) (a : Nat), l.all digC = true → a ≤ 9223372036854775808 → irGo l (-(a : Int)) = if val10 a l ≤ 9223372036854775808 then some (-((val10 a l : Nat) : Int)) else none
  | [], a, _, ha => by rw [irGo, if_pos (by show a ≤ _; exact ha)]; rfl
  | c :: l, a, h, ha => by
    rw [List.all_cons, Bool.and_eq_true] at h
    have hc : 48 ≤ c.toNat ∧ c.toNat ≤ 57 := by have := h.1; unfold digC at this; simpa using this
    have hv : val10 a (c :: l) = val10 (a * 10 + (c.toNat - 48)) l := rfl
    have hle := val10_le l (a * 10 + (c.toNat - 48))
    have ht : Int.tdiv (-9223372036854775808 + ((c.toNat : Int) - 48)) 10 = -(((9223372036854775808 - (c.toNat - 48)) / 10 : Nat) : Int) := by
      rw [show (-9223372036854775808 + ((c.toNat : Int) - 48)) = -((9223372036854775808 - (c.toNat - 48) : Nat) : Int) from by omega, Int.neg_tdiv, Int.tdiv_eq_ediv_of_nonneg (by omega)]
      omega
    rw [irGo, if_neg (by omega), ht, hv]
    by_cases h1 : a * 10 + (c.toNat - 48) ≤ 9223372036854775808
    · rw [if_neg (by omega), show 10 * -(a : Int) - ((c.toNat : Int) - 48) = -((a * 10 + (c.toNat - 48) : Nat) : Int) from by omega]
      exact irGo_dig l _ h.2 h1
    · rw [if_pos (by omega), if_neg (by omega)]
def intW (s : List UInt8) (lo hi : Int) : Int × Int := if decC s = false then (0, 6) else if inI (decV s) = false ∨ decV s < lo ∨ decV s > hi then (0, 7) else (decV s, 0)
def intR (s : List UInt8) (lo hi : Int) : Int × Int := if decC s = false then (0, 6) else match irGo s 0 with
  | none => (0, 7)
  | some n => if (s.headD 0).toNat ≠ 45 ∧ n = -9223372036854775808 then (0, 7) else
      (fun n => if n < lo ∨ n > hi then (0, 7) else (n, 0)) (if (s.headD 0).toNat = 45 then n else -n)
theorem int_both (s : List UInt8) (lo hi : Int) : intR s lo hi = intW s lo hi := by
  unfold intR intW
  cases h : decC s with
  | false => rfl
  | true =>
    rw [if_neg (by simp), if_neg (by simp)]
    by_cases hc : 1 < s.length ∧ (s.headD 0).toNat = 45 ∧ ((s.drop 1).headD 0).toNat ≠ 48
    · rw [decC_cut hc] at h
      obtain ⟨h1, h2⟩ := decT_all h
      match s, hc with
      | a :: r, hc =>
        have ha : a.toNat = 45 := hc.2.1
        rw [List.drop_succ_cons, List.drop_zero] at h1 h2
        have hv : decV (a :: r) = -(val10 0 r : Nat) := by unfold decV; rw [if_pos (by simpa using ha)]; rfl
        have hg := irGo_dig r 0 h2 (by omega)
        rw [irGo, if_pos ha, hv, show (0 : Int) = -((0 : Nat) : Int) from rfl, hg]
        generalize val10 0 r = n
        by_cases hn : n ≤ 9223372036854775808
        · rw [if_pos hn]
          simp only [List.headD_cons, ha, ne_eq, not_true, false_and, if_false, if_true]
          have : inI (-(n : Int)) = true := by unfold inI; simp; omega
          rw [this]; simp
        · rw [if_neg hn]
          have : inI (-(n : Int)) = false := by unfold inI; simp; omega
          rw [this]; simp
    · rw [decC_all hc] at h
      obtain ⟨h1, h2⟩ := decT_all h
      match s, h1, h2 with
      | a :: r, h1, h2 =>
        have ha := dig_ne45 (by simp at h2; exact h2.1 : digC a = true)
        have hv : decV (a :: r) = (val10 0 (a :: r) : Nat) := by unfold decV; rw [if_neg (by simpa using ha.1)]
        have hg := irGo_dig (a :: r) 0 h2 (by omega)
        rw [hv, show (0 : Int) = -((0 : Nat) : Int) from rfl, hg]
        generalize val10 0 (a :: r) = n
        by_cases hn : n ≤ 9223372036854775808
        · rw [if_pos hn]
          simp only [List.headD_cons, ha.1, ne_eq, not_false_iff, true_and, if_false]
          by_cases h8 : n = 9223372036854775808
          · subst h8
            rw [if_pos (by decide), if_pos (.inl (by decide))]
          · rw [if_neg (by omega)]
            have : inI ((n : Int)) = true := by unfold inI; simp; omega
            rw [this]; simp
        · rw [if_neg hn]
          have : inI ((n : Int)) = false := by unfold inI; simp; omega
          rw [this]; simp

section
open Go.RowKit
theorem sent_range {pr : Nat → Nat} {w : World} (h : Amb pr w) : ∃ tp p, w.var? Tryz.prog "strconv.ErrRange" = some #[.iface tp p] := by
  obtain ⟨_, T, fr, tp, p, hb⟩ := h.2 8 (by simp [sents])
  refine ⟨tp, p, ?_⟩
  unfold World.var?
  rw [show Tryz.prog.globalNamed "strconv.ErrRange" = some 8 from by kernel_rfl]
  simp only [Option.bind_some, hb]

theorem parseInt_ok (s : List UInt8) (hs : s.length ≤ 100000) (h : decC s = true) (hi : inI (decV s) = true) : PC Tryz.prog 85 [.t s, .i 10, .i 64] (.tup [.i (decV s), .v .nilIface]) :=
  PC.of_calls (Entr.of Tryz.func85 rfl (by kernel_rfl)) (by simp [LV.lts, LV.lt]) fun cx w vs hl ham hv => by
    obtain ⟨v1, v2, v3, rfl, h1, h2, h3⟩ : ∃ v1 v2 v3, vs = [v1, v2, v3] ∧ V cx w (.t s) v1 ∧ V cx w (.i 10) v2 ∧ V cx w (.i 64) v3 := by
      simp only [Vs] at hv
      obtain ⟨v1, r1, rfl, h1, v2, r2, rfl, h2, v3, r3, rfl, h3, rfl⟩ := hv
      exact ⟨_, _, _, rfl, h1, h2, h3⟩
    rw [h1.val, h2.val, h3.val]
    have hp := parseInt_dec h
    rw [if_pos hi] at hp
    refine (Tryz.strconv_ParseInt_10_at64_ok ⟨s.toArray⟩ (by show s.toArray.size ≤ _; simp; omega) _ hp w).mono ?_
    rintro e w' ⟨rfl, hb⟩
    have hb : Below w.heap.size w w' := by
      rcases hb with rfl | ⟨t, rfl⟩
      · exact Below.refl _ _
      · exact ⟨rfl, rfl, rfl, by rw [Lib.bytesWorld_size]; omega, fun k hk => Lib.bytesWorld_at_old w _ _ k hk⟩
    exact ⟨_, cx.pr, rfl, hb, fun _ _ => rfl, fun b hb' => Nat.lt_of_lt_of_le (hl b hb') hb.size, by simp only [V]; exact ⟨[_, _], rfl, Vs_cons V.mkval (Vs_cons V.mkval Vs_nil)⟩⟩
theorem parseInt_rg (s : List UInt8) (hs : s.length ≤ 100000) (h : decC s = true) (hi : inI (decV s) = false) : PC Tryz.prog 85 [.t s, .i 10, .i 64] (.tup [.i (Lib.intSat 64 s), .pv ifc]) :=
  PC.of_calls (Entr.of Tryz.func85 rfl (by kernel_rfl)) (by simp [LV.lts, LV.lt]) fun cx w vs hl ham hv => by
    obtain ⟨v1, v2, v3, rfl, h1, h2, h3⟩ : ∃ v1 v2 v3, vs = [v1, v2, v3] ∧ V cx w (.t s) v1 ∧ V cx w (.i 10) v2 ∧ V cx w (.i 64) v3 := by
      simp only [Vs] at hv
      obtain ⟨v1, r1, rfl, h1, v2, r2, rfl, h2, v3, r3, rfl, h3, rfl⟩ := hv
      exact ⟨_, _, _, rfl, h1, h2, h3⟩
    rw [h1.val, h2.val, h3.val]
    have hp := parseInt_dec h
    rw [if_neg (by rw [hi]; simp)] at hp
    obtain ⟨tp, p, hvar⟩ := sent_range ham
    refine (Tryz.strconv_ParseInt_10_at64_range_var ⟨s.toArray⟩ (by show s.toArray.size ≤ _; simp; omega) hp tp p w hvar).mono ?_
    rintro e w' ⟨N, rfl, _, _, hb⟩
    exact ⟨_, cx.pr, rfl, hb, fun _ _ => rfl, fun b hb' => Nat.lt_of_lt_of_le (hl b hb') hb.size, by simp only [V]; exact ⟨[_, _], rfl, Vs_cons V.mkval (Vs_cons (VPv ⟨_, _, rfl⟩ rfl) Vs_nil)⟩⟩

end
theorem int_P (s : List UInt8) (lo hi : Int) (hs : s.length ≤ 100000) : PC Tryz.prog 59 [.t s, .i lo, .i hi] (.tup [.i (intW s lo hi).1, .i (intW s lo hi).2]) := by
 refine ⟨LC.of_go Tryz.func59 (c := _) rfl (by kernel_rfl) (by rw [Tryz.ntmps59]; simp) rfl rfl (by simp [LO.lt, LV.lts, LV.lt]) (by simp) ?_⟩
 intro B hA hmd
 have hd := dec_both s
 obtain ⟨g, e0⟩ : ∃ g, intW s lo hi = g := ⟨_, rfl⟩
 have e1 := e0
 unfold intW at e1
 rw [e0]
 refine .seq ?_
 refine .region rfl ?_
 refine R.assign (h := ?_)
 refine R.assign (h := ?_)
 refine .n0 ?_
 refine .seq ?_
 refine .seq ?_
 refine .region rfl ?_
 refine R.move (h := ?_)
 refine R.callP (es := [_]) (fun _ => isDecimal_P s hs) (h := ?_)
 rw [hd]
 refine R.not (h := ?_)
 refine .n0 ?_
 refine LGo.ifb (ht := fun hc => ?_) (hf := fun hc => ?_)
 ·
  rw [if_pos (by simpa using hc)] at e1; rw [← e1]
  refine .seq ?_
  refine .region rfl ?_
  refine R.assign (h := ?_)
  refine R.assign (h := ?_)
  refine .n0 ?_
  exact LGo.ret (ret_TT Tryz.results59 hA hmd)
 ·
  have hdc : decC s = true := by simpa using hc
  rw [if_neg (by rw [hdc]; simp)] at e1
  refine .skip ?_
  refine .seq ?_
  refine .region rfl ?_
  refine R.move (h := ?_)
  cases hin : inI (decV s)
  ·
   rw [if_pos (.inl hin)] at e1; rw [← e1]
   refine R.callP (es := [_, _, _]) (fun _ => parseInt_rg s hs hdc hin) (h := ?_)
   refine R.move (h := ?_)
   refine R.extract (h := ?_)
   refine R.extract (h := ?_)
   refine R.assign (h := ?_)
   refine R.assign (h := ?_)
   refine .n0 ?_
   refine .seq ?_
   refine .seq ?_
   refine .region rfl ?_
   refine R.move (h := ?_)
   refine R.binPv (run_neIfc Tryz.underlying99 _) (h := ?_)
   refine R.move (h := ?_)
   refine R.move (h := ?_)
   refine R.move (h := ?_)
   refine R.bin (run_lss _ _ _ _ _ _) (h := ?_)
   refine R.or (h := ?_)
   refine R.move (h := ?_)
   refine R.move (h := ?_)
   refine R.move (h := ?_)
   refine R.bin (run_gtr _ _ _ _ _ _) (h := ?_)
   refine R.or (h := ?_)
   refine .n0 ?_
   refine LGo.ifb (ht := fun hc2 => ?_) (hf := fun hc2 => by simp at hc2)
   refine .seq ?_
   refine .region rfl ?_
   refine R.assign (h := ?_)
   refine R.assign (h := ?_)
   refine .n0 ?_
   exact LGo.ret (ret_TT Tryz.results59 hA hmd)
  ·
   refine R.callP (es := [_, _, _]) (fun _ => parseInt_ok s hs hdc hin) (h := ?_)
   refine R.move (h := ?_)
   refine R.extract (h := ?_)
   refine R.extract (h := ?_)
   refine R.assign (h := ?_)
   refine R.assign (h := ?_)
   refine .n0 ?_
   refine .seq ?_
   refine .seq ?_
   refine .region rfl ?_
   refine R.move (h := ?_)
   refine R.bin (run_neNil Tryz.underlying99 _) (h := ?_)
   refine R.move (h := ?_)
   refine R.move (h := ?_)
   refine R.move (h := ?_)
   refine R.bin (run_lss _ _ _ _ _ _) (h := ?_)
   refine R.or (h := ?_)
   refine R.move (h := ?_)
   refine R.move (h := ?_)
   refine R.move (h := ?_)
   refine R.bin (run_gtr _ _ _ _ _ _) (h := ?_)
   refine R.or (h := ?_)
   refine .n0 ?_
   refine LGo.ifb (ht := fun hc3 => ?_) (hf := fun hc3 => ?_)
   ·
    rw [if_pos (.inr (by simpa using hc3))] at e1; rw [← e1]
    refine .seq ?_
    refine .region rfl ?_
    refine R.assign (h := ?_)
    refine R.assign (h := ?_)
    refine .n0 ?_
    exact LGo.ret (ret_TT Tryz.results59 hA hmd)
   ·
    rw [if_neg (by rw [hin]; simpa using hc3)] at e1; rw [← e1]
    refine .skip ?_
    refine .seq ?_
    refine .region rfl ?_
    refine R.move (h := ?_)
    refine R.assign (h := ?_)
    refine R.assign (h := ?_)
    refine .n0 ?_
    exact LGo.ret (ret_TT Tryz.results59 hA hmd)

theorem irGo_some {lo hi : Int} {s : List UInt8} {n : Int} (h : irGo s 0 = some n) (hd : decC s = true) : intR s lo hi = if (s.headD 0).toNat ≠ 45 ∧ n = -9223372036854775808 then (0, 7) else if (s.headD 0).toNat = 45 then (if n < lo ∨ n > hi then (0, 7) else (n, 0)) else (if -n < lo ∨ -n > hi then (0, 7) else (-n, 0)) := by
  unfold intR
  rw [if_neg (by rw [hd]; simp), h]
  dsimp only
  by_cases h0 : (s.headD 0).toNat = 45
  · simp only [h0, if_true]
  · simp only [h0, if_false]
theorem irGo_none {lo hi : Int} {s : List UInt8} (h : irGo s 0 = none) (hd : decC s = true) : intR s lo hi = (0, 7) := by
  unfold intR
  rw [if_neg (by rw [hd]; simp), h]
theorem decC_bytes {s : List UInt8} (h : decC s = true) : 0 < s.length ∧ ∀ c ∈ s, c.toNat = 45 ∨ (48 ≤ c.toNat ∧ c.toNat ≤ 57) := by
  have key : ∀ t : List UInt8, t.all digC = true → ∀ c ∈ t, (48 ≤ c.toNat ∧ c.toNat ≤ 57) := fun t ht c hc => by
    have := List.all_eq_true.1 ht c hc
    unfold digC at this; simpa using this
  by_cases hc : 1 < s.length ∧ (s.headD 0).toNat = 45 ∧ ((s.drop 1).headD 0).toNat ≠ 48
  · rw [decC_cut hc] at h
    obtain ⟨h1, h2⟩ := decT_all h
    refine ⟨by omega, fun c hcm => ?_⟩
    match s, hc, hcm with
    | a :: r, hc, hcm =>
      rcases List.mem_cons.1 hcm with rfl | hm
      · exact .inl hc.2.1
      · exact .inr (key r h2 c hm)
  · rw [decC_all hc] at h
    obtain ⟨h1, h2⟩ := decT_all h
    exact ⟨List.length_pos_iff.2 h1, fun c hcm => .inr (key s h2 c hcm)⟩

theorem intR_P (s : List UInt8) (lo hi : Int) (hs : s.length ≤ 100000) : PC Tryz.prog 62 [.t s, .i lo, .i hi] (.tup [.i (intR s lo hi).1, .i (intR s lo hi).2]) := by
 refine ⟨LC.of_go Tryz.func62 (c := _) rfl (by kernel_rfl) (by rw [Tryz.ntmps62]; simp) rfl rfl (by simp [LO.lt, LV.lts, LV.lt]) (by simp) ?_⟩
 intro B hA hmd
 obtain ⟨g, e0⟩ : ∃ g, intR s lo hi = g := ⟨_, rfl⟩
 have e1 := e0
 rw [e0]
 refine .seq ?_
 refine .region rfl ?_
 refine R.assign (h := ?_)
 refine R.assign (h := ?_)
 refine .n0 ?_
 refine .seq ?_
 refine .seq ?_
 refine .region rfl ?_
 refine R.move (h := ?_)
 refine R.callP (es := [_]) (fun _ => decimalR_P s hs) (h := ?_)
 refine R.not (h := ?_)
 refine .n0 ?_
 refine LGo.ifb (ht := fun hc => ?_) (hf := fun hc => ?_)
 ·
  rw [show intR s lo hi = (0, 6) from if_pos (by simpa using hc)] at e1; rw [← e1]
  refine .seq ?_
  refine .region rfl ?_
  refine R.assign (h := ?_)
  refine R.assign (h := ?_)
  refine .n0 ?_
  exact LGo.ret (ret_TT Tryz.results62 hA hmd)
 ·
  have hdc : decC s = true := by simpa using hc
  obtain ⟨hpos, hby⟩ := decC_bytes hdc
  refine .skip ?_
  refine .seq ?_
  refine .region rfl ?_
  refine R.move (h := ?_)
  refine R.indexT Tryz.runUnderlying9 (c := s.headD 0) (hj := fun _ => ⟨by omega, idx0 hpos⟩) (h := ?_)
  refine R.bin (run_eql _ _ _ _ _ _) (h := ?_)
  refine R.assign (h := ?_)
  refine .n0 ?_
  refine .seq ?_
  refine .region rfl ?_
  refine R.assign (h := ?_)
  refine .n0 ?_
  refine .seq ?_
  refine .seq ?_
  refine .region rfl ?_
  refine R.assign (h := ?_)
  refine .n0 ?_
  refine .block ?_
  refine .loop ?_
  refine LGo.loopG (σ := Nat × Int) (fun x => x.1 ≤ s.length ∧ irGo (s.drop x.1) x.2 = irGo s 0 ∧ -9223372036854775808 ≤ x.2 ∧ x.2 ≤ 0) (fun x => [(10, (true, .i (x.1 : Nat))), (9, (true, .i x.2))]) (fun x => []) (fun x => s.length - x.1) (0, 0) [(0, _), (1, _), (2, _), (8, _)] ⟨Nat.zero_le _, rfl, by decide, by decide⟩ (by repeat (first | exact trivial | refine ⟨rfl, ?_⟩)) (by repeat (first | exact trivial | refine ⟨rfl, ?_⟩)) (by repeat (first | exact trivial | refine ⟨rfl, ?_⟩)) ?_
  rintro ⟨k, n⟩ ⟨hk, hq, hn1, hn2⟩ ih
  dsimp only at * 
  refine .seq ?_
  refine .seq ?_
  refine .region rfl ?_
  refine R.move (h := ?_)
  refine R.move (h := ?_)
  refine R.lenT Tryz.runUnderlying9 (h := ?_)
  refine R.bin (run_lss _ _ _ _ _ _) (h := ?_)
  refine .n0 ?_
  refine LGo.ifd (ht := fun hc2 => ?_) (hf := fun hc2 => ?_)
  ·
   have hlt : k < s.length := by omega
   have hx : s[((k : Nat) : Int).toNat]? = some s[k] := by rw [Int.toNat_natCast]; exact List.getElem?_eq_getElem hlt
   have hd : s.drop k = s[k] :: s.drop (k + 1) := List.drop_eq_getElem_cons hlt
   rw [hd] at hq
   have hcd := hby s[k] (List.getElem_mem hlt)
   generalize s[k] = c at hx hq hcd
   clear hd
   rw [irGo] at hq
   refine .skip ?_
   refine .seq ?_
   refine .block ?_
   refine .seq ?_
   refine .seq ?_
   refine .region rfl ?_
   refine R.move (h := ?_)
   refine R.move (h := ?_)
   refine R.indexT Tryz.runUnderlying9 (hj := fun hg => ⟨by omega, hx⟩) (h := ?_)
   refine R.bin (run_eql _ _ _ _ _ _) (h := ?_)
   refine .n0 ?_
   refine LGo.ifd (ht := fun hc3 => ?_) (hf := fun hc3 => ?_)
   ·
    rw [if_pos (by omega)] at hq
    refine .exit rfl ?_
    refine .region rfl ?_
    refine R.move (h := ?_)
    first | refine R.add (h := ?_) | refine R.addW (h := ?_)
    refine R.assign (h := ?_)
    refine .n0 ?_
    refine .inLoop ?_
    exact LGo.next _ (fun o h => by have := (hA o).1 h; omega) (by omega) (ih (k + 1, n) ⟨by dsimp only; omega, hq, hn1, hn2⟩ (by dsimp only; omega)) (by repeat (first | exact trivial | refine ⟨rfl, ?_⟩)) (by repeat (first | exact trivial | refine ⟨rfl, ?_⟩))
   ·
    rw [if_neg (by omega)] at hq
    have htd : Int.tdiv (-9223372036854775808 + ((c.toNat : Int) - 48)) 10 = -(((9223372036854775808 - (c.toNat - 48)) / 10 : Nat) : Int) := by
      rw [show (-9223372036854775808 + ((c.toNat : Int) - 48)) = -((9223372036854775808 - (c.toNat - 48) : Nat) : Int) from by omega, Int.neg_tdiv, Int.tdiv_eq_ediv_of_nonneg (by omega)]
      omega
    refine .skip ?_
    refine .seq ?_
    refine .region rfl ?_
    refine R.move (h := ?_)
    refine R.move (h := ?_)
    refine R.indexT Tryz.runUnderlying9 (hj := fun hg => ⟨by omega, hx⟩) (h := ?_)
    refine R.bin (run_sub _ _ _ .u8 (c.toNat : Int) 48 (by rw [IntKind.wrap_u8]; omega)) (h := ?_)
    refine R.convI Tryz.runUnderlying5 Tryz.runUnderlying2 (h := ?_)
    refine R.assign (h := ?_)
    refine .n0 ?_
    refine .seq ?_
    refine .seq ?_
    refine .region rfl ?_
    refine R.move (h := ?_)
    refine R.move (h := ?_)
    first | refine R.add (h := ?_) | refine R.addW (h := ?_)
    refine R.bin (run_quoT _ _ _ .i64 (-9223372036854775808 + ((c.toNat : Int) - 48)) 10 (by decide) (by rw [IntKind.wrap_i64]; omega)) (h := ?_)
    refine R.bin (run_lss _ _ _ _ _ _) (h := ?_)
    refine .n0 ?_
    refine LGo.ifd (ht := fun hc4 => ?_) (hf := fun hc4 => ?_)
    ·
     rw [if_pos hc4] at hq
     rw [irGo_none hq.symm hdc] at e1; rw [← e1]
     refine .seq ?_
     refine .region rfl ?_
     refine R.assign (h := ?_)
     refine R.assign (h := ?_)
     refine .n0 ?_
     exact LGo.ret (ret_TT Tryz.results62 hA hmd)
    ·
     rw [if_neg hc4] at hq
     have hb1 : -9223372036854775808 ≤ 10 * n - ((c.toNat : Int) - 48) := by omega
     refine .skip ?_
     refine .region rfl ?_
     refine R.move (h := ?_)
     first | refine R.mul (h := ?_) | refine R.mulW (h := ?_)
     refine R.move (h := ?_)
     first | refine R.sub (h := ?_) | refine R.subW (h := ?_)
     refine R.assign (h := ?_)
     refine .n0 ?_
     refine .inBlock ?_
     refine .region rfl ?_
     refine R.move (h := ?_)
     first | refine R.add (h := ?_) | refine R.addW (h := ?_)
     refine R.assign (h := ?_)
     refine .n0 ?_
     refine .inLoop ?_
     exact LGo.next _ (fun o h => by have := (hA o).1 h; omega) (by omega) (ih (k + 1, 10 * n - ((c.toNat : Int) - 48)) ⟨by dsimp only; omega, hq, hb1, by dsimp only; omega⟩ (by dsimp only; omega)) (by repeat (first | exact trivial | refine ⟨rfl, ?_⟩)) (by repeat (first | exact trivial | refine ⟨rfl, ?_⟩))
  ·
   rw [List.drop_eq_nil_of_le (by omega), irGo] at hq
   rw [irGo_some hq.symm hdc] at e1
   refine .exit rfl ?_
   refine .seq ?_
   refine .seq ?_
   refine .region rfl ?_
   refine R.move (h := ?_)
   refine R.not (h := ?_)
   refine R.move (h := ?_)
   refine R.move (h := ?_)
   refine R.bin (run_eql _ _ _ _ _ _) (h := ?_)
   refine R.and (h := ?_)
   refine .n0 ?_
   refine LGo.ifb (ht := fun hc5 => ?_) (hf := fun hc5 => ?_)
   ·
    rw [if_pos (by simp only [Bool.or_eq_true, Bool.and_eq_true, decide_eq_true_eq, Bool.or_eq_false_iff, Bool.and_eq_false_iff, decide_eq_false_iff_not, Bool.not_eq_true', Bool.not_eq_false', Bool.not_eq_true, Bool.not_eq_false, Bool.false_eq_true, Bool.true_eq_false, iff_true, true_iff, iff_false, false_iff] at hc5; omega)] at e1; rw [← e1]
    refine .seq ?_
    refine .region rfl ?_
    refine R.assign (h := ?_)
    refine R.assign (h := ?_)
    refine .n0 ?_
    exact LGo.ret (ret_TT Tryz.results62 hA hmd)
   ·
    rw [if_neg (by simp only [Bool.or_eq_true, Bool.and_eq_true, decide_eq_true_eq, Bool.or_eq_false_iff, Bool.and_eq_false_iff, decide_eq_false_iff_not, Bool.not_eq_true', Bool.not_eq_false', Bool.not_eq_true, Bool.not_eq_false, Bool.false_eq_true, Bool.true_eq_false, iff_true, true_iff, iff_false, false_iff] at hc5; omega)] at e1
    refine .skip ?_
    refine .seq ?_
    refine .seq ?_
    refine .region rfl ?_
    refine R.move (h := ?_)
    refine R.not (h := ?_)
    refine .n0 ?_
    refine LGo.ifb (ht := fun hc6 => ?_) (hf := fun hc6 => ?_)
    ·
     rw [if_neg (by simp only [Bool.or_eq_true, Bool.and_eq_true, decide_eq_true_eq, Bool.or_eq_false_iff, Bool.and_eq_false_iff, decide_eq_false_iff_not, Bool.not_eq_true', Bool.not_eq_false', Bool.not_eq_true, Bool.not_eq_false, Bool.false_eq_true, Bool.true_eq_false, iff_true, true_iff, iff_false, false_iff] at hc6; omega)] at e1
     refine .region rfl ?_
     refine R.move (h := ?_)
     refine R.neg (h := ?_)
     rw [show IntKind.i64.wrap (-n) = -n from by rw [IntKind.wrap_i64]; simp only [Bool.or_eq_true, Bool.and_eq_true, decide_eq_true_eq, Bool.or_eq_false_iff, Bool.and_eq_false_iff, decide_eq_false_iff_not, Bool.not_eq_true', Bool.not_eq_false', Bool.not_eq_true, Bool.not_eq_false, Bool.false_eq_true, Bool.true_eq_false, iff_true, true_iff, iff_false, false_iff] at hc5 hc6; omega]
     refine R.assign (h := ?_)
     refine .n0 ?_
     refine .seq ?_
     refine .seq ?_
     refine .region rfl ?_
     refine R.move (h := ?_)
     refine R.move (h := ?_)
     refine R.bin (run_lss _ _ _ _ _ _) (h := ?_)
     refine R.move (h := ?_)
     refine R.move (h := ?_)
     refine R.move (h := ?_)
     refine R.bin (run_gtr _ _ _ _ _ _) (h := ?_)
     refine R.or (h := ?_)
     refine .n0 ?_
     refine LGo.ifb (ht := fun hc7 => ?_) (hf := fun hc7 => ?_)
     ·
      rw [if_pos (by simpa using hc7)] at e1; rw [← e1]
      refine .seq ?_
      refine .region rfl ?_
      refine R.assign (h := ?_)
      refine R.assign (h := ?_)
      refine .n0 ?_
      exact LGo.ret (ret_TT Tryz.results62 hA hmd)
     ·
      rw [if_neg (by simpa using hc7)] at e1; rw [← e1]
      refine .skip ?_
      refine .seq ?_
      refine .region rfl ?_
      refine R.move (h := ?_)
      refine R.assign (h := ?_)
      refine R.assign (h := ?_)
      refine .n0 ?_
      exact LGo.ret (ret_TT Tryz.results62 hA hmd)
    ·
     rw [if_pos (by simp only [Bool.or_eq_true, Bool.and_eq_true, decide_eq_true_eq, Bool.or_eq_false_iff, Bool.and_eq_false_iff, decide_eq_false_iff_not, Bool.not_eq_true', Bool.not_eq_false', Bool.not_eq_true, Bool.not_eq_false, Bool.false_eq_true, Bool.true_eq_false, iff_true, true_iff, iff_false, false_iff] at hc6; omega)] at e1
     refine .skip ?_
     refine .seq ?_
     refine .seq ?_
     refine .region rfl ?_
     refine R.move (h := ?_)
     refine R.move (h := ?_)
     refine R.bin (run_lss _ _ _ _ _ _) (h := ?_)
     refine R.move (h := ?_)
     refine R.move (h := ?_)
     refine R.move (h := ?_)
     refine R.bin (run_gtr _ _ _ _ _ _) (h := ?_)
     refine R.or (h := ?_)
     refine .n0 ?_
     refine LGo.ifb (ht := fun hc8 => ?_) (hf := fun hc8 => ?_)
     ·
      rw [if_pos (by simpa using hc8)] at e1; rw [← e1]
      refine .seq ?_
      refine .region rfl ?_
      refine R.assign (h := ?_)
      refine R.assign (h := ?_)
      refine .n0 ?_
      exact LGo.ret (ret_TT Tryz.results62 hA hmd)
     ·
      rw [if_neg (by simpa using hc8)] at e1; rw [← e1]
      refine .skip ?_
      refine .seq ?_
      refine .region rfl ?_
      refine R.move (h := ?_)
      refine R.assign (h := ?_)
      refine R.assign (h := ?_)
      refine .n0 ?_
      exact LGo.ret (ret_TT Tryz.results62 hA hmd)

end Go.Proofs.YtcobkjognpjikaaGreatDoor
