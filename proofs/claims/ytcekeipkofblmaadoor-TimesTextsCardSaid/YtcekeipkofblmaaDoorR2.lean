/- times: Parse of the reference. -/
import Derived.Test.YtcekeipkofblmaaDoorR1
import Derived.Test.YtcekeipkofblmaaDoorPL
set_option linter.unusedSimpArgs false
set_option linter.unusedVariables false
namespace Go.Proofs.YtcekeipkofblmaaDoor

abbrev w6 (n : Int) : Int := IntKind.i64.wrap n
def condR (s : List UInt8) (N : Int) : Bool := ((((decide (N < 1) || decide (15 < N)) || !decide (((s.getD N.toNat 0).toNat : Int) = 100)) || !decide (((s.getD (N + 3).toNat 0).toNat : Int) = 58)) || !decide (((s.getD (N + 6).toNat 0).toNat : Int) = 58))
def skipR (n i : Nat) : Bool := (decide ((i : Int) = n) || decide ((i : Int) = (n : Int) + 3)) || decide ((i : Int) = (n : Int) + 6)
def rRun (n : Nat) : Nat → List UInt8 → Int × List Int → Option (Int × List Int)
  | _, [], st => some st
  | i, c :: l, st => if skipR n i = true then rRun n (i + 1) l st else if (decide ((c.toNat : Int) < 48) || decide (57 < (c.toNat : Int))) = true then none
    else if (i : Int) < n then rRun n (i + 1) l (w6 (w6 (10 * st.1) + ((c.toNat : Int) - 48)), st.2)
    else rRun n (i + 1) l (st.1, st.2.set ((i - n) / 3) (w6 (w6 (10 * st.2.getD ((i - n) / 3) 0) + ((c.toNat : Int) - 48))))
def rSum (d a b c : Int) : Int := w6 (w6 (w6 (w6 (d * 86400) + w6 (a * 3600)) + w6 (b * 60)) + c)
def rOver (d a b c : Int) : Bool := decide (106751991167300 < d) || decide (w6 (9223372036854775807 - w6 (w6 (w6 (a * 3600) + w6 (b * 60)) + c)) < w6 (d * 86400))
def rparseT (s : List UInt8) : Int × Int := if condR s ((s.length : Int) - 9) = true then (0, 6) else match rRun (s.length - 9) 0 s (0, [0, 0, 0, 0]) with
  | some (d, [a, b, c, _]) => if rOver d a b c = true then (0, 6) else if (!decide ((printT (rSum d a b c)).1 = s)) = true then (0, 6) else (rSum d a b c, 0)
  | _ => (0, 6)
theorem w6_R (n : Int) : R64 (w6 n) := by unfold R64 w6; rw [w64]; split <;> omega
theorem at_get (s : List UInt8) (j : Int) (h : j.toNat < s.length) : s[j.toNat]? = some (s.getD j.toNat 0) := by simp [h]
theorem iB_lt (n : Nat) : ∀ ps : List Int, LV.lts n (ps.map LV.i) = true
  | [] => rfl
  | x :: l => by simp only [List.map_cons, LV.lts, iB_lt n l, Bool.and_true]; rfl
theorem iBox_get (ps : List Int) (p : Nat) (h : p < ps.length) : (ps.map LV.i)[0 + ((p : Nat) : Int).toNat * 1]? = some (.i (ps.getD p 0)) := by
  rw [Nat.zero_add, Nat.mul_one, Int.toNat_natCast]
  simp [h]
theorem iBox_set (ps : List Int) (p : Nat) (x : Int) : (ps.map LV.i).set (0 + ((p : Nat) : Int).toNat * 1) (.i x) = (ps.set p x).map LV.i := by
  rw [Nat.zero_add, Nat.mul_one, Int.toNat_natCast, List.map_set]
theorem rRun_cons (n i : Nat) (c : UInt8) (l : List UInt8) (st : Int × List Int) : rRun n i (c :: l) st = if skipR n i = true then rRun n (i + 1) l st else if (decide ((c.toNat : Int) < 48) || decide (57 < (c.toNat : Int))) = true then none
    else if (i : Int) < n then rRun n (i + 1) l (w6 (w6 (10 * st.1) + ((c.toNat : Int) - 48)), st.2)
    else rRun n (i + 1) l (st.1, st.2.set ((i - n) / 3) (w6 (w6 (10 * st.2.getD ((i - n) / 3) 0) + ((c.toNat : Int) - 48)))) := rfl

theorem rparse_P (s : List UInt8) (hs : s.length ≤ 100000) : PC Tryd.prog 22 [.t s] (.tup [.i (rparseT s).1, .i (rparseT s).2]) := by
  refine ⟨LC.of_go Tryd.func22 (c := _) rfl (by kernel_rfl) (by rw [Tryd.ntmps22]; simp) rfl rfl (by simp [LO.lt, LV.lts, LV.lt]) (by simp) ?_⟩
  intro B hA hmd
  obtain ⟨g, e0⟩ : ∃ g, rparseT s = g := ⟨_, rfl⟩
  have e1 := e0
  unfold rparseT at e1
  rw [e0]
  refine LGo.seq ?_
  refine LGo.region rfl ?_  -- region 0
  refine R.assign (h := ?_)
  refine R.assign (h := ?_)
  refine Reg.nil ⟨fun h => (by cases h), ?_⟩
  refine LGo.seq ?_
  refine LGo.region rfl ?_  -- region 1
  refine R.move (h := ?_)
  refine R.lenT Tryd.runUnderlying9 (h := ?_)
  first | refine R.sub (h := ?_) | refine R.subW (h := ?_)
  refine R.assign (h := ?_)
  refine Reg.nil ⟨fun h => (by cases h), ?_⟩
  refine LGo.seq ?_
  refine LGo.seq ?_
  refine LGo.region rfl ?_  -- region 2
  refine R.move (h := ?_)
  refine R.bin (run_lss _ _ _ _ _ _) (h := ?_)
  refine R.move (h := ?_)
  refine R.move (h := ?_)
  refine R.bin (run_gtr _ _ _ _ _ _) (h := ?_)
  refine R.or (h := ?_)
  refine R.move (h := ?_)
  refine R.move (h := ?_)
  refine R.move (h := ?_)
  refine R.indexT Tryd.runUnderlying9 (hj := fun hg => ⟨by (simp at hg; omega), at_get s _ (by simp at hg; omega)⟩) (h := ?_)
  refine R.bin (run_neq _ _ _ _ _ _) (h := ?_)
  refine R.or (h := ?_)
  refine R.move (h := ?_)
  refine R.move (h := ?_)
  refine R.move (h := ?_)
  first | refine R.add (h := ?_) | refine R.addW (h := ?_)
  refine R.indexT Tryd.runUnderlying9 (hj := fun hg => ⟨by (simp at hg; omega), at_get s _ (by simp at hg; omega)⟩) (h := ?_)
  refine R.bin (run_neq _ _ _ _ _ _) (h := ?_)
  refine R.or (h := ?_)
  refine R.move (h := ?_)
  refine R.move (h := ?_)
  refine R.move (h := ?_)
  first | refine R.add (h := ?_) | refine R.addW (h := ?_)
  refine R.indexT Tryd.runUnderlying9 (hj := fun hg => ⟨by (simp at hg; omega), at_get s _ (by simp at hg; omega)⟩) (h := ?_)
  refine R.bin (run_neq _ _ _ _ _ _) (h := ?_)
  refine R.or (h := ?_)
  refine Reg.nil ⟨fun h => (by cases h), ?_⟩
  refine LGo.ifb (ht := fun hc => ?_) (hf := fun hc => ?_)
  · -- then 1
    rw [if_pos (show condR s ((s.length : Int) - 9) = true from hc)] at e1; rw [← e1]
    refine LGo.seq ?_
    refine LGo.region rfl ?_  -- region 3
    refine R.assign (h := ?_)
    refine R.assign (h := ?_)
    refine Reg.nil ⟨fun h => (by cases h), ?_⟩
    exact LGo.ret (ret_TT Tryd.results22 hA hmd)
  · -- else 1
    rw [if_neg (by rw [show condR s ((s.length : Int) - 9) = false from hc]; simp)] at e1
    obtain ⟨n, hn, hn1, hn15⟩ : ∃ n : Nat, s.length = n + 9 ∧ 1 ≤ n ∧ n ≤ 15 := by
      refine ⟨s.length - 9, ?_⟩
      simp only [Bool.or_eq_true, Bool.and_eq_true, decide_eq_true_eq, Bool.or_eq_false_iff, Bool.and_eq_false_iff, decide_eq_false_iff_not, Bool.not_eq_true', Bool.not_eq_false', Bool.not_eq_true, Bool.not_eq_false, Bool.false_eq_true, Bool.true_eq_false, iff_true, true_iff, iff_false, false_iff] at hc
      omega
    rw [show s.length - 9 = n from by omega] at e1
    rw [show (s.length : Int) - 9 = ((n : Nat) : Int) from by omega]
    refine LGo.skip ?_
    refine LGo.seq ?_
    refine LGo.region rfl ?_  -- region 4
    refine R.assign (h := ?_)
    refine Reg.nil ⟨fun h => (by cases h), ?_⟩
    refine LGo.seq ?_
    refine LGo.region rfl ?_  -- region 5
    refine R.buildX BX59 (is := []) (xs := []) (es := []) (h := ?_)
    refine R.alloc Z59 (h := ?_)
    refine R.storeA A59 (h := ?_)
    refine Reg.nil ⟨fun h => (by cases h), ?_⟩
    refine LGo.seq ?_
    refine LGo.seq ?_
    refine LGo.region rfl ?_  -- region 6
    refine R.assign (h := ?_)
    refine Reg.nil ⟨fun h => (by cases h), ?_⟩
    refine LGo.block ?_
    refine LGo.loop ?_
    refine LGo.loopG (σ := Nat × Int × List Int) (fun x => x.1 ≤ s.length ∧ x.2.2.length = 4 ∧ rRun n 0 s (0, [0, 0, 0, 0]) = rRun n x.1 (s.drop x.1) (x.2.1, x.2.2)) (fun x => [(7, (true, .i (x.1 : Nat))), (5, (true, .i x.2.1))]) (fun x => [(0, .box 59 (x.2.2.map LV.i))]) (fun x => s.length - x.1) ((0, 0, [0, 0, 0, 0])) [(0, _), (4, _), (6, _)] ⟨by simp, rfl, by simp⟩ (by repeat (first | exact trivial | refine ⟨rfl, ?_⟩)) (by repeat (first | exact trivial | refine ⟨rfl, ?_⟩)) (by repeat (first | exact trivial | refine ⟨rfl, ?_⟩)) ?_
    rintro ⟨i, days, ls⟩ ⟨hi, hl4, hq⟩ ih
    dsimp only at * 
    refine LGo.seq ?_
    refine LGo.seq ?_
    refine LGo.region rfl ?_  -- region 7
    refine R.move (h := ?_)
    refine R.move (h := ?_)
    refine R.lenT Tryd.runUnderlying9 (h := ?_)
    refine R.bin (run_lss _ _ _ _ _ _) (h := ?_)
    refine Reg.nil ⟨fun h => (by cases h), ?_⟩
    refine LGo.ifd (ht := fun hc2 => ?_) (hf := fun hc2 => ?_)
    · -- then 2
      have hlt : i < s.length := by omega
      have hx : s[((i : Nat) : Int).toNat]? = some s[i] := by simp [hlt]
      rw [List.drop_eq_getElem_cons hlt] at hq
      generalize s[i] = c at hx hq
      have lc := u8_lt c
      have gc := u8_ge c
      rw [rRun_cons] at hq
      refine LGo.skip ?_
      refine LGo.seq ?_
      refine LGo.block ?_
      refine LGo.seq ?_
      refine LGo.seq ?_
      refine LGo.region rfl ?_  -- region 9
      refine R.move (h := ?_)
      refine R.move (h := ?_)
      refine R.bin (run_eql _ _ _ _ _ _) (h := ?_)
      refine R.move (h := ?_)
      refine R.move (h := ?_)
      refine R.move (h := ?_)
      first | refine R.add (h := ?_) | refine R.addW (h := ?_)
      refine R.bin (run_eql _ _ _ _ _ _) (h := ?_)
      refine R.or (h := ?_)
      refine R.move (h := ?_)
      refine R.move (h := ?_)
      refine R.move (h := ?_)
      first | refine R.add (h := ?_) | refine R.addW (h := ?_)
      refine R.bin (run_eql _ _ _ _ _ _) (h := ?_)
      refine R.or (h := ?_)
      refine Reg.nil ⟨fun h => (by cases h), ?_⟩
      refine LGo.ifb (ht := fun hc3 => ?_) (hf := fun hc3 => ?_)
      · -- then 3
        rw [if_pos (show skipR n i = true from hc3)] at hq
        refine LGo.exit rfl ?_
        refine LGo.region rfl ?_  -- region 8
        refine R.move (h := ?_)
        first | refine R.add (h := ?_) | refine R.addW (h := ?_)
        refine R.assign (h := ?_)
        refine Reg.nil ⟨fun h => (by cases h), ?_⟩
        refine LGo.inLoop ?_
        exact LGo.next _ (fun o h => by have := (hA o).1 h; omega) (by omega) (ih (i + 1, days, ls) ⟨hlt, hl4, hq⟩ (by dsimp only; omega)) (by repeat (first | exact trivial | refine ⟨rfl, ?_⟩)) (by repeat (first | exact trivial | refine ⟨rfl, ?_⟩)) (hLl := by simp only [List.all_cons, List.all_nil, LO.lt, iB_lt]; rfl)
      · -- else 3
        rw [if_neg (by rw [show skipR n i = false from hc3]; simp)] at hq
        have h3 : (i : Int) ≠ n ∧ (i : Int) ≠ (n : Int) + 3 ∧ (i : Int) ≠ (n : Int) + 6 := by simp only [Bool.or_eq_true, Bool.and_eq_true, decide_eq_true_eq, Bool.or_eq_false_iff, Bool.and_eq_false_iff, decide_eq_false_iff_not, Bool.not_eq_true', Bool.not_eq_false', Bool.not_eq_true, Bool.not_eq_false, Bool.false_eq_true, Bool.true_eq_false, iff_true, true_iff, iff_false, false_iff] at hc3; omega
        refine LGo.skip ?_
        refine LGo.seq ?_
        refine LGo.seq ?_
        refine LGo.region rfl ?_  -- region 10
        refine R.move (h := ?_)
        refine R.move (h := ?_)
        refine R.indexT Tryd.runUnderlying9 (hj := fun hg => ⟨by omega, hx⟩) (h := ?_)
        refine R.bin (run_lss _ _ _ _ _ _) (h := ?_)
        refine R.move (h := ?_)
        refine R.move (h := ?_)
        refine R.move (h := ?_)
        refine R.indexT Tryd.runUnderlying9 (hj := fun hg => ⟨by (simp at hg; omega), hx⟩) (h := ?_)
        refine R.bin (run_gtr _ _ _ _ _ _) (h := ?_)
        refine R.or (h := ?_)
        refine Reg.nil ⟨fun h => (by cases h), ?_⟩
        refine LGo.ifb (ht := fun hc4 => ?_) (hf := fun hc4 => ?_)
        · -- then 4
          rw [if_pos hc4] at hq
          rw [hq] at e1
          dsimp only at e1
          rw [← e1]
          refine LGo.seq ?_
          refine LGo.region rfl ?_  -- region 11
          refine R.assign (h := ?_)
          refine R.assign (h := ?_)
          refine Reg.nil ⟨fun h => (by cases h), ?_⟩
          exact LGo.ret (ret_TT Tryd.results22 hA hmd)
        · -- else 4
          rw [if_neg (by rw [hc4]; simp)] at hq
          have hcd : 48 ≤ (c.toNat : Int) ∧ (c.toNat : Int) ≤ 57 := by simp only [Bool.or_eq_true, Bool.and_eq_true, decide_eq_true_eq, Bool.or_eq_false_iff, Bool.and_eq_false_iff, decide_eq_false_iff_not, Bool.not_eq_true', Bool.not_eq_false', Bool.not_eq_true, Bool.not_eq_false, Bool.false_eq_true, Bool.true_eq_false, iff_true, true_iff, iff_false, false_iff] at hc4; omega
          refine LGo.skip ?_
          refine LGo.seq ?_
          refine LGo.region rfl ?_  -- region 12
          refine R.move (h := ?_)
          refine R.move (h := ?_)
          refine R.indexT Tryd.runUnderlying9 (hj := fun hg => ⟨by omega, hx⟩) (h := ?_)
          first | refine R.sub (h := ?_) | refine R.subW (h := ?_)
          first | refine R.convI Tryd.runUnderlying5 Tryd.runUnderlying2 (h := ?_) | refine R.convW Tryd.runUnderlying5 Tryd.runUnderlying2 (h := ?_)
          refine R.assign (h := ?_)
          refine Reg.nil ⟨fun h => (by cases h), ?_⟩
          refine LGo.seq ?_
          refine LGo.region rfl ?_  -- region 13
          refine R.move (h := ?_)
          refine R.move (h := ?_)
          refine R.bin (run_lss _ _ _ _ _ _) (h := ?_)
          refine Reg.nil ⟨fun h => (by cases h), ?_⟩
          refine LGo.ifd (ht := fun hc5 => ?_) (hf := fun hc5 => ?_)
          · -- then 5
            rw [if_pos hc5] at hq
            refine LGo.region rfl ?_  -- region 14
            refine R.move (h := ?_)
            refine R.mulW (h := ?_)
            refine R.move (h := ?_)
            refine R.addW (h := ?_)
            refine R.assign (h := ?_)
            refine Reg.nil ⟨fun h => (by cases h), ?_⟩
            refine LGo.inBlock ?_
            refine LGo.region rfl ?_  -- region 8
            refine R.move (h := ?_)
            first | refine R.add (h := ?_) | refine R.addW (h := ?_)
            refine R.assign (h := ?_)
            refine Reg.nil ⟨fun h => (by cases h), ?_⟩
            refine LGo.inLoop ?_
            exact LGo.next _ (fun o h => by have := (hA o).1 h; omega) (by omega) (ih (i + 1, w6 (w6 (10 * days) + ((c.toNat : Int) - 48)), ls) ⟨hlt, hl4, hq⟩ (by dsimp only; omega)) (by repeat (first | exact trivial | refine ⟨rfl, ?_⟩)) (by repeat (first | exact trivial | refine ⟨rfl, ?_⟩)) (hLl := by simp only [List.all_cons, List.all_nil, LO.lt, iB_lt]; rfl)
          · -- else 5
            rw [if_neg hc5] at hq
            obtain ⟨p, hp⟩ : ∃ p, (i - n) / 3 = p := ⟨_, rfl⟩
            rw [hp] at hq
            have hp2 : p ≤ 2 := by omega
            have hpi : ((i : Nat) - (n : Nat) : Int) / 3 = ((p : Nat) : Int) := by omega
            refine LGo.region rfl ?_  -- region 15
            refine R.move (h := ?_)
            refine R.move (h := ?_)
            first | refine R.sub (h := ?_) | refine R.subW (h := ?_)
            refine R.quo (h := ?_)
            rw [hpi]
            refine R.move (h := ?_)
            refine R.move (h := ?_)
            first | refine R.sub (h := ?_) | refine R.subW (h := ?_)
            refine R.quo (h := ?_)
            rw [hpi]
            refine R.indexArr I59 (hj := fun _ => ⟨by omega, by omega⟩) (h := ?_)
            refine R.loadB O2 (hc := iBox_get ls p (by omega)) (h := ?_)
            refine R.mulW (h := ?_)
            refine R.move (h := ?_)
            refine R.addW (h := ?_)
            refine R.indexArr I59 (hj := fun _ => ⟨by omega, by omega⟩) (h := ?_)
            refine R.storeB O2 (hlt := by simp; omega) (hs := iBox_set ls p _) (h := ?_)
            refine Reg.nil ⟨fun h => (by cases h), ?_⟩
            refine LGo.inBlock ?_
            refine LGo.region rfl ?_  -- region 8
            refine R.move (h := ?_)
            first | refine R.add (h := ?_) | refine R.addW (h := ?_)
            refine R.assign (h := ?_)
            refine Reg.nil ⟨fun h => (by cases h), ?_⟩
            refine LGo.inLoop ?_
            exact LGo.next _ (fun o h => by have := (hA o).1 h; omega) (by omega) (ih (i + 1, days, ls.set p (w6 (w6 (10 * ls.getD p 0) + ((c.toNat : Int) - 48)))) ⟨hlt, by simp [hl4], hq⟩ (by dsimp only; omega)) (by repeat (first | exact trivial | refine ⟨rfl, ?_⟩)) (by repeat (first | exact trivial | refine ⟨rfl, ?_⟩)) (hLl := by simp only [List.all_cons, List.all_nil, LO.lt, iB_lt]; rfl)
    · -- else 2
      have hi' : i = s.length := by omega
      subst hi'
      rw [List.drop_length] at hq
      obtain ⟨a, b, c, d, rfl⟩ : ∃ a b c d, ls = [a, b, c, d] := by
        match ls, hl4 with
        | [a, b, c, d], _ => exact ⟨a, b, c, d, rfl⟩
      have hq2 : rRun n 0 s (0, [0, 0, 0, 0]) = some (days, [a, b, c, d]) := hq
      rw [hq2] at e1
      dsimp only at e1
      refine LGo.exit rfl ?_
      refine LGo.seq ?_
      refine LGo.seq ?_
      refine LGo.region rfl ?_  -- region 16
      refine R.move (h := ?_)
      refine R.bin (run_gtr _ _ _ _ _ _) (h := ?_)
      refine R.move (h := ?_)
      refine R.move (h := ?_)
      refine R.mulW (h := ?_)
      refine R.indexArr I59 (hj := fun _ => ⟨by decide, by decide⟩) (h := ?_)
      first | refine R.loadB O2 (h := ?_) | refine R.load1 O2 (h := ?_)
      refine R.mulW (h := ?_)
      refine R.indexArr I59 (hj := fun _ => ⟨by decide, by decide⟩) (h := ?_)
      first | refine R.loadB O2 (h := ?_) | refine R.load1 O2 (h := ?_)
      refine R.mulW (h := ?_)
      refine R.addW (h := ?_)
      refine R.indexArr I59 (hj := fun _ => ⟨by decide, by decide⟩) (h := ?_)
      first | refine R.loadB O2 (h := ?_) | refine R.load1 O2 (h := ?_)
      refine R.addW (h := ?_)
      refine R.subW (h := ?_)
      refine R.bin (run_gtr _ _ _ _ _ _) (h := ?_)
      refine R.or (h := ?_)
      refine Reg.nil ⟨fun h => (by cases h), ?_⟩
      refine LGo.ifb (ht := fun hc6 => ?_) (hf := fun hc6 => ?_)
      · -- then 6
        rw [if_pos (show rOver days a b c = true from hc6)] at e1; rw [← e1]
        refine LGo.seq ?_
        refine LGo.region rfl ?_  -- region 17
        refine R.assign (h := ?_)
        refine R.assign (h := ?_)
        refine Reg.nil ⟨fun h => (by cases h), ?_⟩
        exact LGo.ret (ret_TT Tryd.results22 hA hmd)
      · -- else 6
        rw [if_neg (by rw [show rOver days a b c = false from hc6]; simp)] at e1
        refine LGo.skip ?_
        refine LGo.seq ?_
        refine LGo.region rfl ?_  -- region 18
        refine R.move (h := ?_)
        refine R.mulW (h := ?_)
        refine R.indexArr I59 (hj := fun _ => ⟨by decide, by decide⟩) (h := ?_)
        first | refine R.loadB O2 (h := ?_) | refine R.load1 O2 (h := ?_)
        refine R.mulW (h := ?_)
        refine R.addW (h := ?_)
        refine R.indexArr I59 (hj := fun _ => ⟨by decide, by decide⟩) (h := ?_)
        first | refine R.loadB O2 (h := ?_) | refine R.load1 O2 (h := ?_)
        refine R.mulW (h := ?_)
        refine R.addW (h := ?_)
        refine R.indexArr I59 (hj := fun _ => ⟨by decide, by decide⟩) (h := ?_)
        first | refine R.loadB O2 (h := ?_) | refine R.load1 O2 (h := ?_)
        refine R.addW (h := ?_)
        rw [show IntKind.i64.wrap (IntKind.i64.wrap (IntKind.i64.wrap (IntKind.i64.wrap (days * 86400) + IntKind.i64.wrap (a * 3600)) + IntKind.i64.wrap (b * 60)) + c) = rSum days a b c from rfl]
        have hR : R64 (rSum days a b c) := w6_R _
        generalize rSum days a b c = t at e1 hR ⊢
        refine R.assign (h := ?_)
        refine Reg.nil ⟨fun h => (by cases h), ?_⟩
        refine LGo.seq ?_
        refine LGo.region rfl ?_  -- region 19
        refine R.move (h := ?_)
        refine R.callP (es := [_]) (fun _ => rprint_P t hR) (h := ?_)
        refine R.move (h := ?_)
        refine R.extract (h := ?_)
        refine R.extract (h := ?_)
        refine R.assign (h := ?_)
        refine R.assign (h := ?_)
        refine Reg.nil ⟨fun h => (by cases h), ?_⟩
        refine LGo.seq ?_
        refine LGo.seq ?_
        refine LGo.region rfl ?_  -- region 20
        refine R.move (h := ?_)
        refine R.move (h := ?_)
        refine R.bin (run_neqT _ _ _ _ _) (h := ?_)
        refine Reg.nil ⟨fun h => (by cases h), ?_⟩
        refine LGo.ifb (ht := fun hc7 => ?_) (hf := fun hc7 => ?_)
        · -- then 7
          rw [if_pos hc7] at e1; rw [← e1]
          refine LGo.seq ?_
          refine LGo.region rfl ?_  -- region 21
          refine R.assign (h := ?_)
          refine R.assign (h := ?_)
          refine Reg.nil ⟨fun h => (by cases h), ?_⟩
          exact LGo.ret (ret_TT Tryd.results22 hA hmd)
        · -- else 7
          rw [if_neg (by rw [hc7]; simp)] at e1; rw [← e1]
          refine LGo.skip ?_
          refine LGo.seq ?_
          refine LGo.region rfl ?_  -- region 22
          refine R.move (h := ?_)
          refine R.assign (h := ?_)
          refine R.assign (h := ?_)
          refine Reg.nil ⟨fun h => (by cases h), ?_⟩
          exact LGo.ret (ret_TT Tryd.results22 hA hmd)

end Go.Proofs.YtcekeipkofblmaaDoor
