/- times: Parse. -/
import Derived.Test.YtcekeipkofblmaaDoorH
set_option linter.unusedSimpArgs false
set_option linter.unusedVariables false
namespace Go.Proofs.YtcekeipkofblmaaDoor

def digitT (n c : Int) : Int × Bool := if c < 48 ∨ 57 < c ∨ 288230376151711744 ≤ n then (0, false) else (10 * n + (c - 48), true)
theorem digitT_r {n c : Int} (h0 : 0 ≤ n) : 0 ≤ (digitT n c).1 ∧ (digitT n c).1 < 18446744073709551616 := by
  unfold digitT; split
  · simp
  · dsimp only; omega
def pStep (st : Nat × List Int) (c : UInt8) : Option (Nat × List Int) :=
  if (digitT (st.2.getD st.1 0) c.toNat).2 = true then some (st.1, st.2.set st.1 (digitT (st.2.getD st.1 0) c.toNat).1)
  else if (decide ((st.1 : Int) = 0) && decide ((c.toNat : Int) = 100)) = true then some (st.1 + 1, st.2)
  else if ((decide ((st.1 : Int) = 1) || decide ((st.1 : Int) = 2)) && decide ((c.toNat : Int) = 58)) = true then some (st.1 + 1, st.2) else none
def pRun : List UInt8 → Nat × List Int → Option (Nat × List Int)
  | [], st => some st
  | c :: l, st => (pStep st c).bind fun s => pRun l s
theorem pRun_cons (c : UInt8) (l : List UInt8) (st : Nat × List Int) : pRun (c :: l) st = (pStep st c).bind fun s => pRun l s := rfl
def parseT (s : List UInt8) : Int × Int := match pRun s (0, [0, 0, 0, 0]) with
  | some (p, [a, b, c, d]) => if ((decide ((p : Int) < 3) || decide (106751991167300 < a)) || decide (99 < max (max b c) d)) = true then (0, 6) else if 9223372036854775808 ≤ a * 86400 + b * 3600 + c * 60 + d then (0, 6) else if (!decide ((printT (a * 86400 + b * 3600 + c * 60 + d)).1 = s)) = true then (0, 6) else (a * 86400 + b * 3600 + c * 60 + d, 0)
  | _ => (0, 6)
theorem psB_lt (n : Nat) : ∀ ps : List Int, LV.lts n (ps.map LV.u) = true
  | [] => rfl
  | x :: l => by simp only [List.map_cons, LV.lts, psB_lt n l, Bool.and_true]; rfl
theorem pBox_get (ps : List Int) (p : Nat) (h : p < ps.length) : (ps.map LV.u)[0 + ((p : Nat) : Int).toNat * 1]? = some (.u (ps.getD p 0)) := by
  rw [Nat.zero_add, Nat.mul_one, Int.toNat_natCast]
  simp [h]
theorem pBox_set (ps : List Int) (p : Nat) (x : Int) : (ps.map LV.u).set (0 + ((p : Nat) : Int).toNat * 1) (.u x) = (ps.set p x).map LV.u := by
  rw [Nat.zero_add, Nat.mul_one, Int.toNat_natCast, List.map_set]

theorem digit_P (n c : Int) (h0 : 0 ≤ n) (h1 : n < 18446744073709551616) (g0 : 0 ≤ c) (g1 : c < 256) : PC Tryd.prog 42 [.u n, .y c] (.tup [.u (digitT n c).1, .b (digitT n c).2]) := by
  refine ⟨LC.of_go Tryd.func42 (c := _) rfl (by kernel_rfl) (by rw [Tryd.ntmps42]; simp) rfl rfl (by simp [LO.lt, LV.lts, LV.lt]) (by simp) ?_⟩
  intro B hA hmd
  obtain ⟨g, e0⟩ : ∃ g, digitT n c = g := ⟨_, rfl⟩
  have e1 := e0
  unfold digitT at e1
  rw [e0]
  refine LGo.seq ?_
  refine LGo.region rfl ?_  -- region 0
  refine R.assign (h := ?_)
  refine R.assign (h := ?_)
  refine Reg.nil ⟨fun h => (by cases h), ?_⟩
  refine LGo.seq ?_
  refine LGo.block ?_
  refine LGo.seq ?_
  refine LGo.region rfl ?_  -- region 1
  refine R.move (h := ?_)
  refine R.bin (run_lss _ _ _ _ _ _) (h := ?_)
  refine R.move (h := ?_)
  refine R.move (h := ?_)
  refine R.bin (run_gtr _ _ _ _ _ _) (h := ?_)
  refine R.or (h := ?_)
  refine R.move (h := ?_)
  refine R.move (h := ?_)
  refine R.shr (h := ?_)
  rw [show n / 2 ^ (min (Int.toNat 58) IntKind.u64.bits) = n / 288230376151711744 from rfl]
  refine R.bin (run_neq _ _ _ _ _ _) (h := ?_)
  refine R.or (h := ?_)
  refine R.assign (h := ?_)
  refine Reg.nil ⟨fun h => (by cases h), ?_⟩
  refine LGo.ifb (ht := fun hc => ?_) (hf := fun hc => ?_)
  · -- then 1
    refine LGo.seq ?_
    refine LGo.region rfl ?_  -- region 2
    refine R.assign (h := ?_)
    refine R.assign (h := ?_)
    refine Reg.nil ⟨fun h => (by cases h), ?_⟩
    obtain rfl : g = (0, false) := by
      clear hA hmd
      try simp only [Bool.or_eq_true, Bool.and_eq_true, decide_eq_true_eq, Bool.or_eq_false_iff, Bool.and_eq_false_iff, decide_eq_false_iff_not, Bool.not_eq_true', Bool.not_eq_false', Bool.not_eq_true, Bool.not_eq_false, Bool.false_eq_true, Bool.true_eq_false, iff_true, true_iff, iff_false, false_iff] at *
      rw [← e1]
      clear e0 e1
      (repeat' split) <;> first | (exfalso; omega) | rfl | (congr 1; omega) | (congr 2; omega) | (simp; omega)
    exact LGo.ret (ret_TT Tryd.results42 hA hmd)
  · -- else 1
    have hb : 48 ≤ c ∧ c ≤ 57 ∧ n < 288230376151711744 := by
      simp only [Bool.or_eq_true, Bool.and_eq_true, decide_eq_true_eq, Bool.or_eq_false_iff, Bool.and_eq_false_iff, decide_eq_false_iff_not, Bool.not_eq_true', Bool.not_eq_false', Bool.not_eq_true, Bool.not_eq_false, Bool.false_eq_true, Bool.true_eq_false, iff_true, true_iff, iff_false, false_iff] at hc
      omega
    refine LGo.skip ?_
    refine LGo.inBlock ?_
    refine LGo.seq ?_
    refine LGo.region rfl ?_  -- region 3
    refine R.move (h := ?_)
    refine R.bin (run_shl _ _ _ .u64 .u64 n 3 (by decide)) (h := ?_)
    rw [show IntKind.u64.wrap (n * 2 ^ (min (Int.toNat 3) IntKind.u64.bits)) = n * 8 from wrap_u rfl (by show 0 ≤ n * 8; omega) (by show n * 8 < 18446744073709551616; omega)]
    refine R.move (h := ?_)
    refine R.bin (run_shl _ _ _ .u64 .u64 n 1 (by decide)) (h := ?_)
    rw [show IntKind.u64.wrap (n * 2 ^ (min (Int.toNat 1) IntKind.u64.bits)) = n * 2 from wrap_u rfl (by show 0 ≤ n * 2; omega) (by show n * 2 < 18446744073709551616; omega)]
    first | refine R.add (h := ?_) | refine R.addW (h := ?_)
    refine R.move (h := ?_)
    first | refine R.sub (h := ?_) | refine R.subW (h := ?_)
    first | refine R.convI Tryd.runUnderlying5 Tryd.runUnderlying51 (h := ?_) | refine R.convW Tryd.runUnderlying5 Tryd.runUnderlying51 (h := ?_)
    first | refine R.add (h := ?_) | refine R.addW (h := ?_)
    refine R.assign (h := ?_)
    refine R.assign (h := ?_)
    refine Reg.nil ⟨fun h => (by cases h), ?_⟩
    obtain rfl : g = (n * 8 + n * 2 + (c - 48), true) := by
      clear hA hmd
      try simp only [Bool.or_eq_true, Bool.and_eq_true, decide_eq_true_eq, Bool.or_eq_false_iff, Bool.and_eq_false_iff, decide_eq_false_iff_not, Bool.not_eq_true', Bool.not_eq_false', Bool.not_eq_true, Bool.not_eq_false, Bool.false_eq_true, Bool.true_eq_false, iff_true, true_iff, iff_false, false_iff] at *
      rw [← e1]
      clear e0 e1
      (repeat' split) <;> first | (exfalso; omega) | rfl | (congr 1; omega) | (congr 2; omega) | (simp; omega)
    exact LGo.ret (ret_TT Tryd.results42 hA hmd)

theorem parse_P (s : List UInt8) (hs : s.length ≤ 100000) : PC Tryd.prog 21 [.t s] (.tup [.i (parseT s).1, .i (parseT s).2]) := by
  refine ⟨LC.of_go Tryd.func21 (c := _) rfl (by kernel_rfl) (by rw [Tryd.ntmps21]; simp) rfl rfl (by simp [LO.lt, LV.lts, LV.lt]) (by simp) ?_⟩
  intro B hA hmd
  obtain ⟨g, e0⟩ : ∃ g, parseT s = g := ⟨_, rfl⟩
  have e1 := e0
  unfold parseT at e1
  rw [e0]
  refine LGo.seq ?_
  refine LGo.region rfl ?_  -- region 0
  refine R.assign (h := ?_)
  refine R.assign (h := ?_)
  refine Reg.nil ⟨fun h => (by cases h), ?_⟩
  refine LGo.seq ?_
  refine LGo.region rfl ?_  -- region 1
  refine R.alloc Z56 (h := ?_)
  refine Reg.nil ⟨fun h => (by cases h), ?_⟩
  refine LGo.seq ?_
  refine LGo.region rfl ?_  -- region 2
  refine R.assign (h := ?_)
  refine Reg.nil ⟨fun h => (by cases h), ?_⟩
  refine LGo.seq ?_
  refine LGo.seq ?_
  refine LGo.region rfl ?_  -- region 3
  refine R.move (h := ?_)
  refine R.lenT Tryd.runUnderlying9 (h := ?_)
  refine R.move (h := ?_)
  refine Reg.nil ⟨fun h => (by cases h), ?_⟩
  refine LGo.block ?_
  refine LGo.loop ?_
  refine LGo.loopG (σ := Nat × Nat × List Int) (fun x => x.1 ≤ s.length ∧ x.2.1 ≤ 3 ∧ x.2.2.length = 4 ∧ (∀ y ∈ x.2.2, 0 ≤ y ∧ y < 18446744073709551616) ∧ pRun s (0, [0, 0, 0, 0]) = pRun (s.drop x.1) (x.2.1, x.2.2)) (fun x => [(14, (true, .i (x.1 : Nat))), (5, (true, .i (x.2.1 : Nat)))]) (fun x => [(0, .box 56 (x.2.2.map LV.u))]) (fun x => s.length - x.1) ((0, 0, [0, 0, 0, 0])) [(0, _), (4, _), (13, _)] ⟨by simp, by simp, rfl, by simp, by simp⟩ (by repeat (first | exact trivial | refine ⟨rfl, ?_⟩)) (by repeat (first | exact trivial | refine ⟨rfl, ?_⟩)) (by repeat (first | exact trivial | refine ⟨rfl, ?_⟩)) ?_
  rintro ⟨k, p, ps⟩ ⟨hk, hp3, hpl, hpb, hq⟩ ih
  dsimp only at * 
  refine LGo.seq ?_
  refine LGo.region rfl ?_  -- region 4
  refine R.bin (run_lss _ _ _ _ _ _) (h := ?_)
  refine Reg.nil ⟨fun h => (by cases h), ?_⟩
  refine LGo.seq ?_
  refine LGo.ifd (ht := fun hc => ?_) (hf := fun hc => ?_)
  · -- then 1
    have hlt : k < s.length := by omega
    have hx : s[((k : Nat) : Int).toNat]? = some s[k] := by simp [hlt]
    rw [List.drop_eq_getElem_cons hlt] at hq
    generalize s[k] = c at hx hq
    have lc := u8_lt c
    have gc := u8_ge c
    have hpb1 : 0 ≤ ps.getD p 0 ∧ ps.getD p 0 < 18446744073709551616 := by
      have h1 : p < ps.length := by omega
      have h2 : ps.getD p 0 = ps[p] := by simp [h1]
      rw [h2]; exact hpb _ (List.getElem_mem h1)
    have hdr := digitT_r (c := (c.toNat : Int)) hpb1.1
    have es : pStep (p, ps) c = if (digitT (ps.getD p 0) c.toNat).2 = true then some (p, ps.set p (digitT (ps.getD p 0) c.toNat).1)
      else if (decide ((p : Int) = 0) && decide ((c.toNat : Int) = 100)) = true then some (p + 1, ps)
      else if ((decide ((p : Int) = 1) || decide ((p : Int) = 2)) && decide ((c.toNat : Int) = 58)) = true then some (p + 1, ps) else none := rfl
    rw [pRun_cons] at hq
    refine LGo.skip ?_
    refine LGo.seq ?_
    refine LGo.block ?_
    refine LGo.seq ?_
    refine LGo.region rfl ?_  -- region 5
    refine R.move (h := ?_)
    refine R.assign (h := ?_)
    refine Reg.nil ⟨fun h => (by cases h), ?_⟩
    refine LGo.seq ?_
    refine LGo.region rfl ?_  -- region 6 DRAWS
    refine R.move (h := ?_)
    refine R.indexArr I56 (hj := fun _ => ⟨by omega, by omega⟩) (h := ?_)
    refine R.loadB O51 (hc := pBox_get ps p (by omega)) (h := ?_)
    refine R.move (h := ?_)
    refine R.move (h := ?_)
    refine R.indexT Tryd.runUnderlying9 (hj := fun hg => ⟨by omega, hx⟩) (h := ?_)
    refine R.callP (es := [_, _]) (fun _ => digit_P (ps.getD p 0) c.toNat hpb1.1 hpb1.2 (by omega) (by omega)) (h := ?_)
    refine R.move (h := ?_)
    refine R.extract (h := ?_)
    refine R.extract (h := ?_)
    refine R.assign (h := ?_)
    refine R.assign (h := ?_)
    refine Reg.nil ⟨fun _ => ⟨mixedO, by rfl, by rfl⟩, ?_⟩
    refine LGo.block ?_
    refine LGo.seq ?_
    refine LGo.block ?_
    refine LGo.seq ?_
    refine LGo.block ?_
    refine LGo.block ?_
    refine LGo.seq ?_
    refine LGo.block ?_
    refine LGo.seq ?_
    refine LGo.seq ?_
    refine LGo.seq ?_
    refine LGo.region rfl ?_  -- region 7
    refine R.move (h := ?_)
    refine R.assign (h := ?_)
    refine Reg.nil ⟨fun h => (by cases h), ?_⟩
    refine LGo.ifb (ht := fun hc2 => ?_) (hf := fun hc2 => ?_)
    · -- then 2
      rw [if_pos hc2] at es
      rw [es] at hq
      simp only [Option.bind_some, Option.bind_none] at hq
      refine LGo.exit rfl ?_
      refine LGo.seq ?_
      refine LGo.region rfl ?_  -- region 10
      refine R.move (h := ?_)
      refine R.move (h := ?_)
      refine R.indexArr I56 (hj := fun _ => ⟨by omega, by omega⟩) (h := ?_)
      refine R.storeB O51 (hlt := by simp; omega) (hs := pBox_set ps p _) (h := ?_)
      refine Reg.nil ⟨fun h => (by cases h), ?_⟩
      refine LGo.exit rfl ?_
      refine LGo.inBlock ?_
      refine LGo.region rfl ?_  -- region 13
      first | refine R.add (h := ?_) | refine R.addW (h := ?_)
      refine R.move (h := ?_)
      refine Reg.nil ⟨fun h => (by cases h), ?_⟩
      refine LGo.inLoop ?_
      exact LGo.next _ (fun o h => by have := (hA o).1 h; omega) (by omega) (ih (k + 1, p, ps.set p (digitT (ps.getD p 0) c.toNat).1) ⟨hlt, hp3, by simp [hpl], fun x hx => (by rcases List.mem_or_eq_of_mem_set hx with h | rfl; exact hpb x h; exact hdr), hq⟩ (by dsimp only; omega)) (by repeat (first | exact trivial | refine ⟨rfl, ?_⟩)) (by repeat (first | exact trivial | refine ⟨rfl, ?_⟩)) (hLl := by simp only [List.all_cons, List.all_nil, LO.lt, psB_lt]; rfl)
    · -- else 2
      rw [if_neg (by rw [hc2]; simp)] at es
      refine LGo.skip ?_
      refine LGo.seq ?_
      refine LGo.seq ?_
      refine LGo.region rfl ?_  -- region 8
      refine R.move (h := ?_)
      refine R.bin (run_eql _ _ _ _ _ _) (h := ?_)
      refine R.move (h := ?_)
      refine R.move (h := ?_)
      refine R.move (h := ?_)
      refine R.indexT Tryd.runUnderlying9 (hj := fun hg => ⟨by (simp at hg; omega), hx⟩) (h := ?_)
      refine R.bin (run_eql _ _ _ _ _ _) (h := ?_)
      refine R.and (h := ?_)
      refine R.assign (h := ?_)
      refine Reg.nil ⟨fun h => (by cases h), ?_⟩
      refine LGo.ifb (ht := fun hc3 => ?_) (hf := fun hc3 => ?_)
      · -- then 3
        rw [if_pos hc3] at es
        rw [es] at hq
        simp only [Option.bind_some, Option.bind_none] at hq
        have hp0 : p = 0 := by simp at hc3; omega
        refine LGo.exit rfl ?_
        refine LGo.inBlock ?_
        refine LGo.seq ?_
        refine LGo.region rfl ?_  -- region 11
        refine R.move (h := ?_)
        first | refine R.add (h := ?_) | refine R.addW (h := ?_)
        refine R.assign (h := ?_)
        refine Reg.nil ⟨fun h => (by cases h), ?_⟩
        refine LGo.exit rfl ?_
        refine LGo.inBlock ?_
        refine LGo.region rfl ?_  -- region 13
        first | refine R.add (h := ?_) | refine R.addW (h := ?_)
        refine R.move (h := ?_)
        refine Reg.nil ⟨fun h => (by cases h), ?_⟩
        refine LGo.inLoop ?_
        exact LGo.next _ (fun o h => by have := (hA o).1 h; omega) (by omega) (ih (k + 1, p + 1, ps) ⟨hlt, by dsimp only; omega, hpl, hpb, hq⟩ (by dsimp only; omega)) (by repeat (first | exact trivial | refine ⟨rfl, ?_⟩)) (by repeat (first | exact trivial | refine ⟨rfl, ?_⟩)) (hLl := by simp only [List.all_cons, List.all_nil, LO.lt, psB_lt]; rfl)
      · -- else 3
        rw [if_neg (by rw [hc3]; simp)] at es
        refine LGo.skip ?_
        refine LGo.seq ?_
        refine LGo.region rfl ?_  -- region 9
        refine R.move (h := ?_)
        refine R.bin (run_eql _ _ _ _ _ _) (h := ?_)
        refine R.move (h := ?_)
        refine R.move (h := ?_)
        refine R.bin (run_eql _ _ _ _ _ _) (h := ?_)
        refine R.or (h := ?_)
        refine R.move (h := ?_)
        refine R.move (h := ?_)
        refine R.move (h := ?_)
        refine R.indexT Tryd.runUnderlying9 (hj := fun hg => ⟨by (simp at hg; omega), hx⟩) (h := ?_)
        refine R.bin (run_eql _ _ _ _ _ _) (h := ?_)
        refine R.and (h := ?_)
        refine R.assign (h := ?_)
        refine Reg.nil ⟨fun h => (by cases h), ?_⟩
        refine LGo.ifb (ht := fun hc4 => ?_) (hf := fun hc4 => ?_)
        · -- then 4
          rw [if_pos hc4] at es
          rw [es] at hq
          simp only [Option.bind_some, Option.bind_none] at hq
          have hp1 : p ≤ 2 := by simp at hc4; omega
          refine LGo.exit rfl ?_
          refine LGo.seq ?_
          refine LGo.region rfl ?_  -- region 11
          refine R.move (h := ?_)
          first | refine R.add (h := ?_) | refine R.addW (h := ?_)
          refine R.assign (h := ?_)
          refine Reg.nil ⟨fun h => (by cases h), ?_⟩
          refine LGo.exit rfl ?_
          refine LGo.inBlock ?_
          refine LGo.region rfl ?_  -- region 13
          first | refine R.add (h := ?_) | refine R.addW (h := ?_)
          refine R.move (h := ?_)
          refine Reg.nil ⟨fun h => (by cases h), ?_⟩
          refine LGo.inLoop ?_
          exact LGo.next _ (fun o h => by have := (hA o).1 h; omega) (by omega) (ih (k + 1, p + 1, ps) ⟨hlt, by dsimp only; omega, hpl, hpb, hq⟩ (by dsimp only; omega)) (by repeat (first | exact trivial | refine ⟨rfl, ?_⟩)) (by repeat (first | exact trivial | refine ⟨rfl, ?_⟩)) (hLl := by simp only [List.all_cons, List.all_nil, LO.lt, psB_lt]; rfl)
        · -- else 4
          rw [if_neg (by rw [hc4]; simp)] at es
          rw [es] at hq
          simp only [Option.bind_none] at hq
          rw [hq] at e1
          dsimp only at e1
          rw [← e1]
          refine LGo.skip ?_
          refine LGo.exit rfl ?_
          refine LGo.seq ?_
          refine LGo.seq ?_
          refine LGo.region rfl ?_  -- region 12
          refine R.assign (h := ?_)
          refine R.assign (h := ?_)
          refine Reg.nil ⟨fun h => (by cases h), ?_⟩
          exact LGo.ret (ret_TT Tryd.results21 hA hmd)
  · -- else 1
    have hk' : k = s.length := by omega
    subst hk'
    rw [List.drop_length] at hq
    obtain ⟨a, b, c, d, rfl⟩ : ∃ a b c d, ps = [a, b, c, d] := by
      match ps, hpl with
      | [a, b, c, d], _ => exact ⟨a, b, c, d, rfl⟩
    have hq2 : pRun s (0, [0, 0, 0, 0]) = some (p, [a, b, c, d]) := hq
    rw [hq2] at e1
    dsimp only at e1
    have hba := hpb a (by simp)
    have hbb := hpb b (by simp)
    have hbc := hpb c (by simp)
    have hbd := hpb d (by simp)
    refine LGo.exit rfl ?_
    refine LGo.seq ?_
    refine LGo.seq ?_
    refine LGo.region rfl ?_  -- region 14
    refine R.move (h := ?_)
    refine R.bin (run_lss _ _ _ _ _ _) (h := ?_)
    refine R.move (h := ?_)
    refine R.indexArr I56 (hj := fun _ => ⟨by decide, by decide⟩) (h := ?_)
    first | refine R.loadB O51 (h := ?_) | refine R.load1 O51 (h := ?_)
    refine R.bin (run_gtr _ _ _ _ _ _) (h := ?_)
    refine R.or (h := ?_)
    refine R.move (h := ?_)
    refine R.indexArr I56 (hj := fun _ => ⟨by decide, by decide⟩) (h := ?_)
    first | refine R.loadB O51 (h := ?_) | refine R.load1 O51 (h := ?_)
    refine R.indexArr I56 (hj := fun _ => ⟨by decide, by decide⟩) (h := ?_)
    first | refine R.loadB O51 (h := ?_) | refine R.load1 O51 (h := ?_)
    refine R.indexArr I56 (hj := fun _ => ⟨by decide, by decide⟩) (h := ?_)
    first | refine R.loadB O51 (h := ?_) | refine R.load1 O51 (h := ?_)
    refine R.maxI3 (h := ?_)
    refine R.bin (run_gtr _ _ _ _ _ _) (h := ?_)
    refine R.or (h := ?_)
    refine Reg.nil ⟨fun h => (by cases h), ?_⟩
    refine LGo.ifb (ht := fun hc5 => ?_) (hf := fun hc5 => ?_)
    · -- then 5
      rw [if_pos hc5] at e1; rw [← e1]
      refine LGo.seq ?_
      refine LGo.region rfl ?_  -- region 15
      refine R.assign (h := ?_)
      refine R.assign (h := ?_)
      refine Reg.nil ⟨fun h => (by cases h), ?_⟩
      exact LGo.ret (ret_TT Tryd.results21 hA hmd)
    · -- else 5
      rw [if_neg (by rw [hc5]; simp)] at e1
      obtain ⟨h1, h2, h3, h4⟩ : a ≤ 106751991167300 ∧ b ≤ 99 ∧ c ≤ 99 ∧ d ≤ 99 := by
        simp only [Bool.or_eq_true, Bool.and_eq_true, decide_eq_true_eq, Bool.or_eq_false_iff, Bool.and_eq_false_iff, decide_eq_false_iff_not, Bool.not_eq_true', Bool.not_eq_false', Bool.not_eq_true, Bool.not_eq_false, Bool.false_eq_true, Bool.true_eq_false, iff_true, true_iff, iff_false, false_iff] at hc5
        omega
      refine LGo.skip ?_
      refine LGo.seq ?_
      refine LGo.region rfl ?_  -- region 16
      refine R.indexArr I56 (hj := fun _ => ⟨by decide, by decide⟩) (h := ?_)
      first | refine R.loadB O51 (h := ?_) | refine R.load1 O51 (h := ?_)
      first | refine R.mul (h := ?_) | refine R.mulW (h := ?_)
      refine R.indexArr I56 (hj := fun _ => ⟨by decide, by decide⟩) (h := ?_)
      first | refine R.loadB O51 (h := ?_) | refine R.load1 O51 (h := ?_)
      first | refine R.mul (h := ?_) | refine R.mulW (h := ?_)
      first | refine R.add (h := ?_) | refine R.addW (h := ?_)
      refine R.indexArr I56 (hj := fun _ => ⟨by decide, by decide⟩) (h := ?_)
      first | refine R.loadB O51 (h := ?_) | refine R.load1 O51 (h := ?_)
      first | refine R.mul (h := ?_) | refine R.mulW (h := ?_)
      first | refine R.add (h := ?_) | refine R.addW (h := ?_)
      refine R.indexArr I56 (hj := fun _ => ⟨by decide, by decide⟩) (h := ?_)
      first | refine R.loadB O51 (h := ?_) | refine R.load1 O51 (h := ?_)
      first | refine R.add (h := ?_) | refine R.addW (h := ?_)
      refine R.assign (h := ?_)
      refine Reg.nil ⟨fun h => (by cases h), ?_⟩
      refine LGo.seq ?_
      refine LGo.seq ?_
      refine LGo.region rfl ?_  -- region 17
      refine R.move (h := ?_)
      refine R.shr (h := ?_)
      rw [show (a * 86400 + b * 3600 + c * 60 + d) / 2 ^ (min (Int.toNat 63) IntKind.u64.bits) = (a * 86400 + b * 3600 + c * 60 + d) / 9223372036854775808 from rfl]
      refine R.bin (run_neq _ _ _ _ _ _) (h := ?_)
      refine Reg.nil ⟨fun h => (by cases h), ?_⟩
      refine LGo.ifb (ht := fun hc6 => ?_) (hf := fun hc6 => ?_)
      · -- then 6
        rw [if_pos (by simp only [Bool.or_eq_true, Bool.and_eq_true, decide_eq_true_eq, Bool.or_eq_false_iff, Bool.and_eq_false_iff, decide_eq_false_iff_not, Bool.not_eq_true', Bool.not_eq_false', Bool.not_eq_true, Bool.not_eq_false, Bool.false_eq_true, Bool.true_eq_false, iff_true, true_iff, iff_false, false_iff] at hc6; omega)] at e1; rw [← e1]
        refine LGo.seq ?_
        refine LGo.region rfl ?_  -- region 18
        refine R.assign (h := ?_)
        refine R.assign (h := ?_)
        refine Reg.nil ⟨fun h => (by cases h), ?_⟩
        exact LGo.ret (ret_TT Tryd.results21 hA hmd)
      · -- else 6
        have h63 : a * 86400 + b * 3600 + c * 60 + d < 9223372036854775808 := by simp only [Bool.or_eq_true, Bool.and_eq_true, decide_eq_true_eq, Bool.or_eq_false_iff, Bool.and_eq_false_iff, decide_eq_false_iff_not, Bool.not_eq_true', Bool.not_eq_false', Bool.not_eq_true, Bool.not_eq_false, Bool.false_eq_true, Bool.true_eq_false, iff_true, true_iff, iff_false, false_iff] at hc6; omega
        rw [if_neg (by omega)] at e1
        refine LGo.skip ?_
        refine LGo.seq ?_
        refine LGo.seq ?_
        refine LGo.region rfl ?_  -- region 19
        refine R.move (h := ?_)
        first | refine R.convI Tryd.runUnderlying51 Tryd.runUnderlying2 (h := ?_) | refine R.convW Tryd.runUnderlying51 Tryd.runUnderlying2 (h := ?_)
        refine R.callP (es := [_]) (fun _ => print_P (a * 86400 + b * 3600 + c * 60 + d) ⟨by omega, by omega⟩) (h := ?_)
        refine R.move (h := ?_)
        refine R.extract (h := ?_)
        refine R.extract (h := ?_)
        refine R.assign (h := ?_)
        refine R.assign (h := ?_)
        refine Reg.nil ⟨fun h => (by cases h), ?_⟩
        refine LGo.seq ?_
        refine LGo.region rfl ?_  -- region 20
        refine R.move (h := ?_)
        refine R.move (h := ?_)
        refine R.bin (run_neqT _ _ _ _ _) (h := ?_)
        refine Reg.nil ⟨fun h => (by cases h), ?_⟩
        refine LGo.ifb (ht := fun hc7 => ?_) (hf := fun hc7 => ?_)
        · -- then 7
          rw [if_pos hc7] at e1; rw [← e1]
          refine LGo.seq ?_
          refine LGo.region rfl ?_  -- region 21
          refine R.assign (h := ?_)
          refine R.assign (h := ?_)
          refine Reg.nil ⟨fun h => (by cases h), ?_⟩
          exact LGo.ret (ret_TT Tryd.results21 hA hmd)
        · -- else 7
          rw [if_neg (by rw [hc7]; simp)] at e1; rw [← e1]
          refine LGo.skip ?_
          refine LGo.seq ?_
          refine LGo.region rfl ?_  -- region 22
          refine R.move (h := ?_)
          first | refine R.convI Tryd.runUnderlying51 Tryd.runUnderlying2 (h := ?_) | refine R.convW Tryd.runUnderlying51 Tryd.runUnderlying2 (h := ?_)
          refine R.assign (h := ?_)
          refine R.assign (h := ?_)
          refine Reg.nil ⟨fun h => (by cases h), ?_⟩
          exact LGo.ret (ret_TT Tryd.results21 hA hmd)

end Go.Proofs.YtcekeipkofblmaaDoor
