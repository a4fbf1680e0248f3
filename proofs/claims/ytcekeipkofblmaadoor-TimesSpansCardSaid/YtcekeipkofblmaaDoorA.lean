/- times: the small functions, and the reference's. -/
import Derived.Test.YtcekeipkofblmaaDoorT
import Derived.Test.YtcekeipkofblmaaDoorL
set_option linter.unusedSimpArgs false
set_option linter.unusedVariables false
namespace Go.Proofs.YtcekeipkofblmaaDoor

def R64 (t : Int) : Prop := -9223372036854775808 ≤ t ∧ t ≤ 9223372036854775807
def addT (t d : Int) : Int × Int := if t < 0 ∨ d < 0 then (0, 7) else (min (t + d) 9223372036854775807, 0)
def passT (t d : Int) : Bool × Int := if t < 0 ∨ d < 0 then (false, 7) else (decide (t ≤ d), 0)
def leftT (t d : Int) : Int × Int := if t < 0 ∨ d < 0 then (0, 7) else (max (t - d) 0, 0)
def advT (t d : Int) : Int × Int := if t < 0 ∨ d < 0 then (0, 7) else if d < t then (0, 18) else (d, 0)
abbrev Sp := Int × Int
def spC (x : Sp) : List SV := [.val (.int .i64 x.1), .val (.int .i64 x.2)]
def spV (x : Sp) : LV := .agg [.i x.1, .i x.2]
def bothT (t d : Int) : Int := if t < 0 ∨ d < 0 then 7 else 0
def chkS (s : Sp) : Int := if s.1 < 0 ∨ s.2 < 0 then 7 else if s.2 ≤ s.1 then 6 else 0
def meetS (a b : Sp) : Sp × Bool × Int := if chkS a = 0 then (if chkS b = 0 then (if min a.2 b.2 ≤ max a.1 b.1 then ((0, 0), false, 0) else ((max a.1 b.1, min a.2 b.2), true, 0)) else ((0, 0), false, chkS b)) else ((0, 0), false, chkS a)
def minGo (m : Int) : List Int → Int
  | [] => m
  | x :: l => minGo (min m x) l
theorem spV_c (x : Sp) : spV x = .agg [.i x.1, .i x.2] := rfl

theorem min_P (x0 : Int) (l : List Int) (hl : l.length ≤ 1000000) : PC Tryd.prog 48 [.sv (.sl 1 (ic .i64 (x0 :: l)))] (.i (minGo x0 l)) := by
  refine ⟨LC.of_go Tryd.func48 (c := _) rfl (by kernel_rfl) (by rw [Tryd.ntmps48]; simp) rfl rfl (by simp [LO.lt, LV.lts, LV.lt]) (by simp) ?_⟩
  intro B hA hmd
  refine LGo.seq ?_
  refine LGo.region rfl ?_  -- region 0
  refine R.assign (h := ?_)
  refine Reg.nil ⟨fun h => (by cases h), ?_⟩
  refine LGo.seq ?_
  refine LGo.seq ?_
  refine LGo.region rfl ?_  -- region 1
  refine R.move (h := ?_)
  first | refine R.len S34 (h := ?_) | refine R.lenRs S34 (h := ?_) | refine R.lenV (run_lenNil S34) (h := ?_)
  rw [ic_len]
  refine R.bin (run_lss _ _ _ _ _ _) (h := ?_)
  refine Reg.nil ⟨fun h => (by cases h), ?_⟩
  refine LGo.ifd (ht := fun hc => ?_) (hf := fun hc => ?_)
  · -- then 1
    simp only [List.length_cons] at hc; omega -- END
  · -- else 1
    refine LGo.skip ?_
    refine LGo.seq ?_
    refine LGo.region rfl ?_  -- region 3
    refine R.move (h := ?_)
    refine R.index I34 (hj := fun _ => ⟨by decide, rfl⟩) (h := ?_)
    first | refine R.loadB O2 (h := ?_) | refine R.load1 O2 (h := ?_)
    refine R.assign (h := ?_)
    refine Reg.nil ⟨fun h => (by cases h), ?_⟩
    refine LGo.seq ?_
    refine LGo.seq ?_
    refine LGo.region rfl ?_  -- region 4
    refine R.assign (h := ?_)
    refine Reg.nil ⟨fun h => (by cases h), ?_⟩
    refine LGo.block ?_
    refine LGo.loop ?_
    refine LGo.loopG (σ := Nat × Int) (fun x => x.1 ≤ l.length ∧ minGo x0 l = minGo x.2 (l.drop x.1)) (fun x => [(3, (true, .i x.2)), (4, (true, .i ((x.1 : Int) + 1)))]) (fun x => []) (fun x => l.length - x.1) ((0, x0)) [(0, _)] ⟨by simp, by simp⟩ (by repeat (first | exact trivial | refine ⟨rfl, ?_⟩)) (by repeat (first | exact trivial | refine ⟨rfl, ?_⟩)) (by repeat (first | exact trivial | refine ⟨rfl, ?_⟩)) ?_
    rintro ⟨k, m⟩ ⟨hk, hq⟩ ih
    dsimp only at * 
    refine LGo.seq ?_
    refine LGo.seq ?_
    refine LGo.region rfl ?_  -- region 5
    refine R.move (h := ?_)
    refine R.move (h := ?_)
    first | refine R.len S34 (h := ?_) | refine R.lenRs S34 (h := ?_) | refine R.lenV (run_lenNil S34) (h := ?_)
    rw [ic_len, List.length_cons]
    refine R.bin (run_lss _ _ _ _ _ _) (h := ?_)
    refine Reg.nil ⟨fun h => (by cases h), ?_⟩
    refine LGo.ifd (ht := fun hc2 => ?_) (hf := fun hc2 => ?_)
    · -- then 2
      have hlt : k < l.length := by omega
      have hx : (ic .i64 (x0 :: l))[((k : Int) + 1).toNat]? = some [.val (.int .i64 l[k])] := by
        rw [show ((k : Int) + 1).toNat = k + 1 from by omega]
        simp [ic, hlt]
      rw [List.drop_eq_getElem_cons hlt] at hq
      generalize l[k] = y at hx hq
      simp only [minGo] at hq
      refine LGo.skip ?_
      refine LGo.seq ?_
      refine LGo.block ?_
      refine LGo.region rfl ?_  -- region 7
      refine R.move (h := ?_)
      refine R.move (h := ?_)
      refine R.move (h := ?_)
      refine R.index I34 (hj := fun hg => ⟨by omega, hx⟩) (h := ?_)
      first | refine R.loadB O2 (h := ?_) | refine R.load1 O2 (h := ?_)
      refine R.minI (h := ?_)
      refine R.assign (h := ?_)
      refine Reg.nil ⟨fun h => (by cases h), ?_⟩
      refine LGo.inBlock ?_
      refine LGo.region rfl ?_  -- region 6
      refine R.move (h := ?_)
      first | refine R.add (h := ?_) | refine R.addW (h := ?_)
      refine R.assign (h := ?_)
      refine Reg.nil ⟨fun h => (by cases h), ?_⟩
      refine LGo.inLoop ?_
      exact LGo.next _ (fun o h => by have := (hA o).1 h; omega) (by omega) (ih (k + 1, min m y) ⟨hlt, hq⟩ (by dsimp only; omega)) (by repeat (first | exact trivial | refine ⟨rfl, ?_⟩)) (by repeat (first | exact trivial | refine ⟨rfl, ?_⟩))
    · -- else 2
      have hk' : k = l.length := by omega
      subst hk'
      rw [List.drop_length] at hq
      simp only [minGo] at hq
      rw [hq]
      refine LGo.exit rfl ?_
      refine LGo.seq ?_
      refine LGo.region rfl ?_  -- region 8
      refine R.move (h := ?_)
      refine R.assign (h := ?_)
      refine Reg.nil ⟨fun h => (by cases h), ?_⟩
      exact LGo.ret (ret_T Tryd.results48 hA hmd)

theorem none_P (t d : Int) : PC Tryd.prog 36 [.sv (.sl 1 (ic .i64 [t, d]))] (.b (decide (min t d < 0))) := by
  refine ⟨LC.of_go Tryd.func36 (c := _) rfl (by kernel_rfl) (by rw [Tryd.ntmps36]; simp) rfl rfl (by simp [LO.lt, LV.lts, LV.lt]) (by simp) ?_⟩
  intro B hA hmd
  refine LGo.seq ?_
  refine LGo.region rfl ?_  -- region 0
  refine R.assign (h := ?_)
  refine Reg.nil ⟨fun h => (by cases h), ?_⟩
  refine LGo.seq ?_
  refine LGo.region rfl ?_  -- region 1
  refine R.move (h := ?_)
  refine R.callP (es := [_]) (fun _ => min_P t [d] (by simp)) (h := ?_)
  rw [show minGo t [d] = min t d from rfl]
  refine R.bin (run_lss _ _ _ _ _ _) (h := ?_)
  refine R.assign (h := ?_)
  refine Reg.nil ⟨fun h => (by cases h), ?_⟩
  exact LGo.ret (ret_T Tryd.results36 hA hmd)

theorem add_P (t d : Int) (ht : R64 t) (hd : R64 d) : PC Tryd.prog 10 [.i t, .i d] (.tup [.i (addT t d).1, .i (addT t d).2]) := by
  refine ⟨LC.of_go Tryd.func10 (c := _) rfl (by kernel_rfl) (by rw [Tryd.ntmps10]; simp) rfl rfl (by simp [LO.lt, LV.lts, LV.lt]) (by simp) ?_⟩
  intro B hA hmd
  unfold R64 at ht hd
  obtain ⟨g, e0⟩ : ∃ g, addT t d = g := ⟨_, rfl⟩
  have e1 := e0
  unfold addT at e1
  rw [e0]
  refine LGo.seq ?_
  refine LGo.region rfl ?_  -- region 0
  refine R.assign (h := ?_)
  refine R.assign (h := ?_)
  refine Reg.nil ⟨fun h => (by cases h), ?_⟩
  refine LGo.seq ?_
  refine LGo.seq ?_
  refine LGo.region rfl ?_  -- region 1
  refine R.move (h := ?_)
  refine R.move (h := ?_)
  refine R.buildSliceF AP34 (ic .i64 [t, d]) (xs := [_, _]) (es := [_, _]) (hcs := CellsOfs.cons (CellsOf.one rfl) (CellsOfs.cons (CellsOf.one rfl) CellsOfs.nil)) (h := ?_)
  refine R.callP (es := [_]) (fun _ => none_P t d) (h := ?_)
  refine Reg.nil ⟨fun h => (by cases h), ?_⟩
  first | refine LGo.ifd (ht := fun hc => ?_) (hf := fun hc => ?_) | refine LGo.ifb (ht := fun hc => ?_) (hf := fun hc => ?_)
  · -- then 1
    refine LGo.seq ?_
    refine LGo.region rfl ?_  -- region 2
    refine R.assign (h := ?_)
    refine R.assign (h := ?_)
    refine Reg.nil ⟨fun h => (by cases h), ?_⟩
    obtain rfl : g = (0, 7) := by
      clear hA hmd
      try simp only [Bool.or_eq_true, Bool.and_eq_true, decide_eq_true_eq, Bool.or_eq_false_iff, Bool.and_eq_false_iff, decide_eq_false_iff_not, Bool.not_eq_true', Bool.not_eq_false', Bool.not_eq_true, Bool.not_eq_false, Bool.false_eq_true, Bool.true_eq_false, iff_true, true_iff, iff_false, false_iff] at *
      rw [← e1]
      clear e0 e1
      (repeat' split) <;> first | (exfalso; omega) | rfl | (congr 1; omega) | (congr 2; omega) | (simp; omega)
    exact LGo.ret (ret_TT Tryd.results10 hA hmd)
  · -- else 1
    try simp only [Bool.or_eq_true, Bool.and_eq_true, decide_eq_true_eq, Bool.or_eq_false_iff, Bool.and_eq_false_iff, decide_eq_false_iff_not, Bool.not_eq_true', Bool.not_eq_false', Bool.not_eq_true, Bool.not_eq_false, Bool.false_eq_true, Bool.true_eq_false, iff_true, true_iff, iff_false, false_iff] at hc
    refine LGo.skip ?_
    refine LGo.seq ?_
    refine LGo.seq ?_
    refine LGo.region rfl ?_  -- region 3
    refine R.move (h := ?_)
    first | refine R.convI Tryd.runUnderlying2 Tryd.runUnderlying51 (h := ?_) | refine R.convW Tryd.runUnderlying2 Tryd.runUnderlying51 (h := ?_)
    refine R.move (h := ?_)
    first | refine R.convI Tryd.runUnderlying2 Tryd.runUnderlying51 (h := ?_) | refine R.convW Tryd.runUnderlying2 Tryd.runUnderlying51 (h := ?_)
    first | refine R.add (h := ?_) | refine R.addW (h := ?_)
    refine R.assign (h := ?_)
    refine Reg.nil ⟨fun h => (by cases h), ?_⟩
    refine LGo.seq ?_
    refine LGo.region rfl ?_  -- region 4
    refine R.move (h := ?_)
    refine R.shr (h := ?_)
    rw [show (t + d) / 2 ^ (min (Int.toNat 63) IntKind.u64.bits) = (t + d) / 9223372036854775808 from rfl]
    refine R.bin (run_eql _ _ _ _ _ _) (h := ?_)
    refine Reg.nil ⟨fun h => (by cases h), ?_⟩
    first | refine LGo.ifd (ht := fun hc2 => ?_) (hf := fun hc2 => ?_) | refine LGo.ifb (ht := fun hc2 => ?_) (hf := fun hc2 => ?_)
    · -- then 2
      refine LGo.seq ?_
      refine LGo.region rfl ?_  -- region 5
      refine R.move (h := ?_)
      first | refine R.convI Tryd.runUnderlying51 Tryd.runUnderlying2 (h := ?_) | refine R.convW Tryd.runUnderlying51 Tryd.runUnderlying2 (h := ?_)
      refine R.assign (h := ?_)
      refine R.assign (h := ?_)
      refine Reg.nil ⟨fun h => (by cases h), ?_⟩
      obtain rfl : g = (t + d, 0) := by
        clear hA hmd
        try simp only [Bool.or_eq_true, Bool.and_eq_true, decide_eq_true_eq, Bool.or_eq_false_iff, Bool.and_eq_false_iff, decide_eq_false_iff_not, Bool.not_eq_true', Bool.not_eq_false', Bool.not_eq_true, Bool.not_eq_false, Bool.false_eq_true, Bool.true_eq_false, iff_true, true_iff, iff_false, false_iff] at *
        rw [← e1]
        clear e0 e1
        (repeat' split) <;> first | (exfalso; omega) | rfl | (congr 1; omega) | (congr 2; omega) | (simp; omega)
      exact LGo.ret (ret_TT Tryd.results10 hA hmd)
    · -- else 2
      refine LGo.skip ?_
      refine LGo.seq ?_
      refine LGo.region rfl ?_  -- region 6
      refine R.assign (h := ?_)
      refine R.assign (h := ?_)
      refine Reg.nil ⟨fun h => (by cases h), ?_⟩
      obtain rfl : g = (9223372036854775807, 0) := by
        clear hA hmd
        try simp only [Bool.or_eq_true, Bool.and_eq_true, decide_eq_true_eq, Bool.or_eq_false_iff, Bool.and_eq_false_iff, decide_eq_false_iff_not, Bool.not_eq_true', Bool.not_eq_false', Bool.not_eq_true, Bool.not_eq_false, Bool.false_eq_true, Bool.true_eq_false, iff_true, true_iff, iff_false, false_iff] at *
        rw [← e1]
        clear e0 e1
        (repeat' split) <;> first | (exfalso; omega) | rfl | (congr 1; omega) | (congr 2; omega) | (simp; omega)
      exact LGo.ret (ret_TT Tryd.results10 hA hmd)

theorem passed_P (t d : Int) (ht : R64 t) (hd : R64 d) : PC Tryd.prog 12 [.i t, .i d] (.tup [.b (passT t d).1, .i (passT t d).2]) := by
  refine ⟨LC.of_go Tryd.func12 (c := _) rfl (by kernel_rfl) (by rw [Tryd.ntmps12]; simp) rfl rfl (by simp [LO.lt, LV.lts, LV.lt]) (by simp) ?_⟩
  intro B hA hmd
  unfold R64 at ht hd
  obtain ⟨g, e0⟩ : ∃ g, passT t d = g := ⟨_, rfl⟩
  have e1 := e0
  unfold passT at e1
  rw [e0]
  refine LGo.seq ?_
  refine LGo.region rfl ?_  -- region 0
  refine R.assign (h := ?_)
  refine R.assign (h := ?_)
  refine Reg.nil ⟨fun h => (by cases h), ?_⟩
  refine LGo.seq ?_
  refine LGo.seq ?_
  refine LGo.region rfl ?_  -- region 1
  refine R.move (h := ?_)
  refine R.move (h := ?_)
  refine R.buildSliceF AP34 (ic .i64 [t, d]) (xs := [_, _]) (es := [_, _]) (hcs := CellsOfs.cons (CellsOf.one rfl) (CellsOfs.cons (CellsOf.one rfl) CellsOfs.nil)) (h := ?_)
  refine R.callP (es := [_]) (fun _ => none_P t d) (h := ?_)
  refine Reg.nil ⟨fun h => (by cases h), ?_⟩
  first | refine LGo.ifd (ht := fun hc => ?_) (hf := fun hc => ?_) | refine LGo.ifb (ht := fun hc => ?_) (hf := fun hc => ?_)
  · -- then 1
    refine LGo.seq ?_
    refine LGo.region rfl ?_  -- region 2
    refine R.assign (h := ?_)
    refine R.assign (h := ?_)
    refine Reg.nil ⟨fun h => (by cases h), ?_⟩
    obtain rfl : g = (false, 7) := by
      clear hA hmd
      try simp only [Bool.or_eq_true, Bool.and_eq_true, decide_eq_true_eq, Bool.or_eq_false_iff, Bool.and_eq_false_iff, decide_eq_false_iff_not, Bool.not_eq_true', Bool.not_eq_false', Bool.not_eq_true, Bool.not_eq_false, Bool.false_eq_true, Bool.true_eq_false, iff_true, true_iff, iff_false, false_iff] at *
      rw [← e1]
      clear e0 e1
      (repeat' split) <;> first | (exfalso; omega) | rfl | (congr 1; omega) | (congr 2; omega) | (simp; omega)
    exact LGo.ret (ret_TT Tryd.results12 hA hmd)
  · -- else 1
    try simp only [Bool.or_eq_true, Bool.and_eq_true, decide_eq_true_eq, Bool.or_eq_false_iff, Bool.and_eq_false_iff, decide_eq_false_iff_not, Bool.not_eq_true', Bool.not_eq_false', Bool.not_eq_true, Bool.not_eq_false, Bool.false_eq_true, Bool.true_eq_false, iff_true, true_iff, iff_false, false_iff] at hc
    refine LGo.skip ?_
    refine LGo.seq ?_
    refine LGo.region rfl ?_  -- region 3
    refine R.move (h := ?_)
    refine R.move (h := ?_)
    refine R.bin (run_leq _ _ _ _ _ _) (h := ?_)
    refine R.assign (h := ?_)
    refine R.assign (h := ?_)
    refine Reg.nil ⟨fun h => (by cases h), ?_⟩
    obtain rfl : g = (decide (t ≤ d), 0) := by
      clear hA hmd
      try simp only [Bool.or_eq_true, Bool.and_eq_true, decide_eq_true_eq, Bool.or_eq_false_iff, Bool.and_eq_false_iff, decide_eq_false_iff_not, Bool.not_eq_true', Bool.not_eq_false', Bool.not_eq_true, Bool.not_eq_false, Bool.false_eq_true, Bool.true_eq_false, iff_true, true_iff, iff_false, false_iff] at *
      rw [← e1]
      clear e0 e1
      (repeat' split) <;> first | (exfalso; omega) | rfl | (congr 1; omega) | (congr 2; omega) | (simp; omega)
    exact LGo.ret (ret_TT Tryd.results12 hA hmd)

theorem left_P (t d : Int) (ht : R64 t) (hd : R64 d) : PC Tryd.prog 14 [.i t, .i d] (.tup [.i (leftT t d).1, .i (leftT t d).2]) := by
  refine ⟨LC.of_go Tryd.func14 (c := _) rfl (by kernel_rfl) (by rw [Tryd.ntmps14]; simp) rfl rfl (by simp [LO.lt, LV.lts, LV.lt]) (by simp) ?_⟩
  intro B hA hmd
  unfold R64 at ht hd
  obtain ⟨g, e0⟩ : ∃ g, leftT t d = g := ⟨_, rfl⟩
  have e1 := e0
  unfold leftT at e1
  rw [e0]
  refine LGo.seq ?_
  refine LGo.region rfl ?_  -- region 0
  refine R.assign (h := ?_)
  refine R.assign (h := ?_)
  refine Reg.nil ⟨fun h => (by cases h), ?_⟩
  refine LGo.seq ?_
  refine LGo.seq ?_
  refine LGo.region rfl ?_  -- region 1
  refine R.move (h := ?_)
  refine R.move (h := ?_)
  refine R.buildSliceF AP34 (ic .i64 [t, d]) (xs := [_, _]) (es := [_, _]) (hcs := CellsOfs.cons (CellsOf.one rfl) (CellsOfs.cons (CellsOf.one rfl) CellsOfs.nil)) (h := ?_)
  refine R.callP (es := [_]) (fun _ => none_P t d) (h := ?_)
  refine Reg.nil ⟨fun h => (by cases h), ?_⟩
  first | refine LGo.ifd (ht := fun hc => ?_) (hf := fun hc => ?_) | refine LGo.ifb (ht := fun hc => ?_) (hf := fun hc => ?_)
  · -- then 1
    refine LGo.seq ?_
    refine LGo.region rfl ?_  -- region 2
    refine R.assign (h := ?_)
    refine R.assign (h := ?_)
    refine Reg.nil ⟨fun h => (by cases h), ?_⟩
    obtain rfl : g = (0, 7) := by
      clear hA hmd
      try simp only [Bool.or_eq_true, Bool.and_eq_true, decide_eq_true_eq, Bool.or_eq_false_iff, Bool.and_eq_false_iff, decide_eq_false_iff_not, Bool.not_eq_true', Bool.not_eq_false', Bool.not_eq_true, Bool.not_eq_false, Bool.false_eq_true, Bool.true_eq_false, iff_true, true_iff, iff_false, false_iff] at *
      rw [← e1]
      clear e0 e1
      (repeat' split) <;> first | (exfalso; omega) | rfl | (congr 1; omega) | (congr 2; omega) | (simp; omega)
    exact LGo.ret (ret_TT Tryd.results14 hA hmd)
  · -- else 1
    try simp only [Bool.or_eq_true, Bool.and_eq_true, decide_eq_true_eq, Bool.or_eq_false_iff, Bool.and_eq_false_iff, decide_eq_false_iff_not, Bool.not_eq_true', Bool.not_eq_false', Bool.not_eq_true, Bool.not_eq_false, Bool.false_eq_true, Bool.true_eq_false, iff_true, true_iff, iff_false, false_iff] at hc
    refine LGo.skip ?_
    refine LGo.seq ?_
    refine LGo.region rfl ?_  -- region 3
    refine R.move (h := ?_)
    refine R.move (h := ?_)
    first | refine R.sub (h := ?_) | refine R.subW (h := ?_)
    refine R.maxI (h := ?_)
    refine R.assign (h := ?_)
    refine R.assign (h := ?_)
    refine Reg.nil ⟨fun h => (by cases h), ?_⟩
    obtain rfl : g = (max (t - d) 0, 0) := by
      clear hA hmd
      try simp only [Bool.or_eq_true, Bool.and_eq_true, decide_eq_true_eq, Bool.or_eq_false_iff, Bool.and_eq_false_iff, decide_eq_false_iff_not, Bool.not_eq_true', Bool.not_eq_false', Bool.not_eq_true, Bool.not_eq_false, Bool.false_eq_true, Bool.true_eq_false, iff_true, true_iff, iff_false, false_iff] at *
      rw [← e1]
      clear e0 e1
      (repeat' split) <;> first | (exfalso; omega) | rfl | (congr 1; omega) | (congr 2; omega) | (simp; omega)
    exact LGo.ret (ret_TT Tryd.results14 hA hmd)

theorem adv_P (t d : Int) (ht : R64 t) (hd : R64 d) : PC Tryd.prog 16 [.i t, .i d] (.tup [.i (advT t d).1, .i (advT t d).2]) := by
  refine ⟨LC.of_go Tryd.func16 (c := _) rfl (by kernel_rfl) (by rw [Tryd.ntmps16]; simp) rfl rfl (by simp [LO.lt, LV.lts, LV.lt]) (by simp) ?_⟩
  intro B hA hmd
  unfold R64 at ht hd
  obtain ⟨g, e0⟩ : ∃ g, advT t d = g := ⟨_, rfl⟩
  have e1 := e0
  unfold advT at e1
  rw [e0]
  refine LGo.seq ?_
  refine LGo.region rfl ?_  -- region 0
  refine R.assign (h := ?_)
  refine R.assign (h := ?_)
  refine Reg.nil ⟨fun h => (by cases h), ?_⟩
  refine LGo.seq ?_
  refine LGo.block ?_
  refine LGo.seq ?_
  refine LGo.region rfl ?_  -- region 1
  refine R.move (h := ?_)
  refine R.move (h := ?_)
  refine R.buildSliceF AP34 (ic .i64 [t, d]) (xs := [_, _]) (es := [_, _]) (hcs := CellsOfs.cons (CellsOf.one rfl) (CellsOfs.cons (CellsOf.one rfl) CellsOfs.nil)) (h := ?_)
  refine R.callP (es := [_]) (fun _ => none_P t d) (h := ?_)
  refine R.assign (h := ?_)
  refine Reg.nil ⟨fun h => (by cases h), ?_⟩
  first | refine LGo.ifd (ht := fun hc => ?_) (hf := fun hc => ?_) | refine LGo.ifb (ht := fun hc => ?_) (hf := fun hc => ?_)
  · -- then 1
    refine LGo.seq ?_
    refine LGo.region rfl ?_  -- region 2
    refine R.assign (h := ?_)
    refine R.assign (h := ?_)
    refine Reg.nil ⟨fun h => (by cases h), ?_⟩
    obtain rfl : g = (0, 7) := by
      clear hA hmd
      try simp only [Bool.or_eq_true, Bool.and_eq_true, decide_eq_true_eq, Bool.or_eq_false_iff, Bool.and_eq_false_iff, decide_eq_false_iff_not, Bool.not_eq_true', Bool.not_eq_false', Bool.not_eq_true, Bool.not_eq_false, Bool.false_eq_true, Bool.true_eq_false, iff_true, true_iff, iff_false, false_iff] at *
      rw [← e1]
      clear e0 e1
      (repeat' split) <;> first | (exfalso; omega) | rfl | (congr 1; omega) | (congr 2; omega) | (simp; omega)
    exact LGo.ret (ret_TT Tryd.results16 hA hmd)
  · -- else 1
    try simp only [Bool.or_eq_true, Bool.and_eq_true, decide_eq_true_eq, Bool.or_eq_false_iff, Bool.and_eq_false_iff, decide_eq_false_iff_not, Bool.not_eq_true', Bool.not_eq_false', Bool.not_eq_true, Bool.not_eq_false, Bool.false_eq_true, Bool.true_eq_false, iff_true, true_iff, iff_false, false_iff] at hc
    refine LGo.seq ?_
    refine LGo.region rfl ?_  -- region 3
    refine R.move (h := ?_)
    refine R.move (h := ?_)
    refine R.bin (run_lss _ _ _ _ _ _) (h := ?_)
    refine R.assign (h := ?_)
    refine Reg.nil ⟨fun h => (by cases h), ?_⟩
    first | refine LGo.ifd (ht := fun hc2 => ?_) (hf := fun hc2 => ?_) | refine LGo.ifb (ht := fun hc2 => ?_) (hf := fun hc2 => ?_)
    · -- then 2
      refine LGo.seq ?_
      refine LGo.region rfl ?_  -- region 4
      refine R.assign (h := ?_)
      refine R.assign (h := ?_)
      refine Reg.nil ⟨fun h => (by cases h), ?_⟩
      obtain rfl : g = (0, 18) := by
        clear hA hmd
        try simp only [Bool.or_eq_true, Bool.and_eq_true, decide_eq_true_eq, Bool.or_eq_false_iff, Bool.and_eq_false_iff, decide_eq_false_iff_not, Bool.not_eq_true', Bool.not_eq_false', Bool.not_eq_true, Bool.not_eq_false, Bool.false_eq_true, Bool.true_eq_false, iff_true, true_iff, iff_false, false_iff] at *
        rw [← e1]
        clear e0 e1
        (repeat' split) <;> first | (exfalso; omega) | rfl | (congr 1; omega) | (congr 2; omega) | (simp; omega)
      exact LGo.ret (ret_TT Tryd.results16 hA hmd)
    · -- else 2
      refine LGo.skip ?_
      refine LGo.inBlock ?_
      refine LGo.seq ?_
      refine LGo.region rfl ?_  -- region 5
      refine R.move (h := ?_)
      refine R.assign (h := ?_)
      refine R.assign (h := ?_)
      refine Reg.nil ⟨fun h => (by cases h), ?_⟩
      obtain rfl : g = (d, 0) := by
        clear hA hmd
        try simp only [Bool.or_eq_true, Bool.and_eq_true, decide_eq_true_eq, Bool.or_eq_false_iff, Bool.and_eq_false_iff, decide_eq_false_iff_not, Bool.not_eq_true', Bool.not_eq_false', Bool.not_eq_true, Bool.not_eq_false, Bool.false_eq_true, Bool.true_eq_false, iff_true, true_iff, iff_false, false_iff] at *
        rw [← e1]
        clear e0 e1
        (repeat' split) <;> first | (exfalso; omega) | rfl | (congr 1; omega) | (congr 2; omega) | (simp; omega)
      exact LGo.ret (ret_TT Tryd.results16 hA hmd)

theorem both_P (t d : Int) : PC Tryd.prog 37 [.i t, .i d] (.i (bothT t d)) := by
  refine ⟨LC.of_go Tryd.func37 (c := _) rfl (by kernel_rfl) (by rw [Tryd.ntmps37]; simp) rfl rfl (by simp [LO.lt, LV.lts, LV.lt]) (by simp) ?_⟩
  intro B hA hmd
  obtain ⟨g, e0⟩ : ∃ g, bothT t d = g := ⟨_, rfl⟩
  have e1 := e0
  unfold bothT at e1
  rw [e0]
  refine LGo.seq ?_
  refine LGo.region rfl ?_  -- region 0
  refine R.assign (h := ?_)
  refine Reg.nil ⟨fun h => (by cases h), ?_⟩
  refine LGo.seq ?_
  refine LGo.seq ?_
  refine LGo.region rfl ?_  -- region 1
  refine R.move (h := ?_)
  refine R.bin (run_lss _ _ _ _ _ _) (h := ?_)
  refine R.move (h := ?_)
  refine R.move (h := ?_)
  refine R.bin (run_lss _ _ _ _ _ _) (h := ?_)
  refine R.or (h := ?_)
  refine Reg.nil ⟨fun h => (by cases h), ?_⟩
  first | refine LGo.ifd (ht := fun hc => ?_) (hf := fun hc => ?_) | refine LGo.ifb (ht := fun hc => ?_) (hf := fun hc => ?_)
  · -- then 1
    refine LGo.seq ?_
    refine LGo.region rfl ?_  -- region 2
    refine R.assign (h := ?_)
    refine Reg.nil ⟨fun h => (by cases h), ?_⟩
    obtain rfl : g = 7 := by
      clear hA hmd
      try simp only [Bool.or_eq_true, Bool.and_eq_true, decide_eq_true_eq, Bool.or_eq_false_iff, Bool.and_eq_false_iff, decide_eq_false_iff_not, Bool.not_eq_true', Bool.not_eq_false', Bool.not_eq_true, Bool.not_eq_false, Bool.false_eq_true, Bool.true_eq_false, iff_true, true_iff, iff_false, false_iff] at *
      rw [← e1]
      clear e0 e1
      (repeat' split) <;> first | (exfalso; omega) | rfl | (congr 1; omega) | (congr 2; omega) | (simp; omega)
    exact LGo.ret (ret_T Tryd.results37 hA hmd)
  · -- else 1
    refine LGo.skip ?_
    refine LGo.seq ?_
    refine LGo.region rfl ?_  -- region 3
    refine R.assign (h := ?_)
    refine Reg.nil ⟨fun h => (by cases h), ?_⟩
    obtain rfl : g = 0 := by
      clear hA hmd
      try simp only [Bool.or_eq_true, Bool.and_eq_true, decide_eq_true_eq, Bool.or_eq_false_iff, Bool.and_eq_false_iff, decide_eq_false_iff_not, Bool.not_eq_true', Bool.not_eq_false', Bool.not_eq_true, Bool.not_eq_false, Bool.false_eq_true, Bool.true_eq_false, iff_true, true_iff, iff_false, false_iff] at *
      rw [← e1]
      clear e0 e1
      (repeat' split) <;> first | (exfalso; omega) | rfl | (congr 1; omega) | (congr 2; omega) | (simp; omega)
    exact LGo.ret (ret_T Tryd.results37 hA hmd)

theorem radd_P (t d : Int) (ht : R64 t) (hd : R64 d) : PC Tryd.prog 11 [.i t, .i d] (.tup [.i (addT t d).1, .i (addT t d).2]) := by
  refine ⟨LC.of_go Tryd.func11 (c := _) rfl (by kernel_rfl) (by rw [Tryd.ntmps11]; simp) rfl rfl (by simp [LO.lt, LV.lts, LV.lt]) (by simp) ?_⟩
  intro B hA hmd
  unfold R64 at ht hd
  have eb : bothT t d = if t < 0 ∨ d < 0 then 7 else 0 := rfl
  obtain ⟨g, e0⟩ : ∃ g, addT t d = g := ⟨_, rfl⟩
  have e1 := e0
  unfold addT at e1
  rw [e0]
  refine LGo.seq ?_
  refine LGo.region rfl ?_  -- region 0
  refine R.assign (h := ?_)
  refine R.assign (h := ?_)
  refine Reg.nil ⟨fun h => (by cases h), ?_⟩
  refine LGo.seq ?_
  refine LGo.region rfl ?_  -- region 1
  refine R.move (h := ?_)
  refine R.move (h := ?_)
  refine R.callP (es := [_, _]) (fun _ => both_P t d) (h := ?_)
  refine R.assign (h := ?_)
  refine Reg.nil ⟨fun h => (by cases h), ?_⟩
  refine LGo.seq ?_
  refine LGo.seq ?_
  refine LGo.region rfl ?_  -- region 2
  refine R.move (h := ?_)
  refine R.bin (run_neq _ _ _ _ _ _) (h := ?_)
  refine Reg.nil ⟨fun h => (by cases h), ?_⟩
  first | refine LGo.ifd (ht := fun hc => ?_) (hf := fun hc => ?_) | refine LGo.ifb (ht := fun hc => ?_) (hf := fun hc => ?_)
  · -- then 1
    try simp only [Bool.or_eq_true, Bool.and_eq_true, decide_eq_true_eq, Bool.or_eq_false_iff, Bool.and_eq_false_iff, decide_eq_false_iff_not, Bool.not_eq_true', Bool.not_eq_false', Bool.not_eq_true, Bool.not_eq_false, Bool.false_eq_true, Bool.true_eq_false, iff_true, true_iff, iff_false, false_iff] at hc
    have hnn : t < 0 ∨ d < 0 := by by_cases h : t < 0 ∨ d < 0; exact h; rw [if_neg h] at eb; omega
    rw [eb, if_pos hnn]
    refine LGo.seq ?_
    refine LGo.region rfl ?_  -- region 3
    refine R.move (h := ?_)
    refine R.assign (h := ?_)
    refine R.assign (h := ?_)
    refine Reg.nil ⟨fun h => (by cases h), ?_⟩
    obtain rfl : g = (0, 7) := by
      clear hA hmd
      try simp only [Bool.or_eq_true, Bool.and_eq_true, decide_eq_true_eq, Bool.or_eq_false_iff, Bool.and_eq_false_iff, decide_eq_false_iff_not, Bool.not_eq_true', Bool.not_eq_false', Bool.not_eq_true, Bool.not_eq_false, Bool.false_eq_true, Bool.true_eq_false, iff_true, true_iff, iff_false, false_iff] at *
      rw [← e1]
      clear e0 e1
      (repeat' split) <;> first | (exfalso; omega) | rfl | (congr 1; omega) | (congr 2; omega) | (simp; omega)
    exact LGo.ret (ret_TT Tryd.results11 hA hmd)
  · -- else 1
    try simp only [Bool.or_eq_true, Bool.and_eq_true, decide_eq_true_eq, Bool.or_eq_false_iff, Bool.and_eq_false_iff, decide_eq_false_iff_not, Bool.not_eq_true', Bool.not_eq_false', Bool.not_eq_true, Bool.not_eq_false, Bool.false_eq_true, Bool.true_eq_false, iff_true, true_iff, iff_false, false_iff] at hc
    have hnn : ¬(t < 0 ∨ d < 0) := by intro h; rw [if_pos h] at eb; omega
    refine LGo.skip ?_
    refine LGo.seq ?_
    refine LGo.seq ?_
    refine LGo.region rfl ?_  -- region 4
    refine R.move (h := ?_)
    refine R.move (h := ?_)
    first | refine R.sub (h := ?_) | refine R.subW (h := ?_)
    refine R.bin (run_gtr _ _ _ _ _ _) (h := ?_)
    refine Reg.nil ⟨fun h => (by cases h), ?_⟩
    first | refine LGo.ifd (ht := fun hc2 => ?_) (hf := fun hc2 => ?_) | refine LGo.ifb (ht := fun hc2 => ?_) (hf := fun hc2 => ?_)
    · -- then 2
      refine LGo.seq ?_
      refine LGo.region rfl ?_  -- region 5
      refine R.assign (h := ?_)
      refine R.assign (h := ?_)
      refine Reg.nil ⟨fun h => (by cases h), ?_⟩
      obtain rfl : g = (9223372036854775807, 0) := by
        clear hA hmd
        try simp only [Bool.or_eq_true, Bool.and_eq_true, decide_eq_true_eq, Bool.or_eq_false_iff, Bool.and_eq_false_iff, decide_eq_false_iff_not, Bool.not_eq_true', Bool.not_eq_false', Bool.not_eq_true, Bool.not_eq_false, Bool.false_eq_true, Bool.true_eq_false, iff_true, true_iff, iff_false, false_iff] at *
        rw [← e1]
        clear e0 e1
        (repeat' split) <;> first | (exfalso; omega) | rfl | (congr 1; omega) | (congr 2; omega) | (simp; omega)
      exact LGo.ret (ret_TT Tryd.results11 hA hmd)
    · -- else 2
      refine LGo.skip ?_
      refine LGo.seq ?_
      refine LGo.region rfl ?_  -- region 6
      refine R.move (h := ?_)
      refine R.move (h := ?_)
      first | refine R.add (h := ?_) | refine R.addW (h := ?_)
      refine R.assign (h := ?_)
      refine R.assign (h := ?_)
      refine Reg.nil ⟨fun h => (by cases h), ?_⟩
      obtain rfl : g = (t + d, 0) := by
        clear hA hmd
        try simp only [Bool.or_eq_true, Bool.and_eq_true, decide_eq_true_eq, Bool.or_eq_false_iff, Bool.and_eq_false_iff, decide_eq_false_iff_not, Bool.not_eq_true', Bool.not_eq_false', Bool.not_eq_true, Bool.not_eq_false, Bool.false_eq_true, Bool.true_eq_false, iff_true, true_iff, iff_false, false_iff] at *
        rw [← e1]
        clear e0 e1
        (repeat' split) <;> first | (exfalso; omega) | rfl | (congr 1; omega) | (congr 2; omega) | (simp; omega)
      exact LGo.ret (ret_TT Tryd.results11 hA hmd)

theorem radv_P (t d : Int) (ht : R64 t) (hd : R64 d) : PC Tryd.prog 17 [.i t, .i d] (.tup [.i (advT t d).1, .i (advT t d).2]) := by
  refine ⟨LC.of_go Tryd.func17 (c := _) rfl (by kernel_rfl) (by rw [Tryd.ntmps17]; simp) rfl rfl (by simp [LO.lt, LV.lts, LV.lt]) (by simp) ?_⟩
  intro B hA hmd
  unfold R64 at ht hd
  have eb : bothT t d = if t < 0 ∨ d < 0 then 7 else 0 := rfl
  obtain ⟨g, e0⟩ : ∃ g, advT t d = g := ⟨_, rfl⟩
  have e1 := e0
  unfold advT at e1
  rw [e0]
  refine LGo.seq ?_
  refine LGo.region rfl ?_  -- region 0
  refine R.assign (h := ?_)
  refine R.assign (h := ?_)
  refine Reg.nil ⟨fun h => (by cases h), ?_⟩
  refine LGo.seq ?_
  refine LGo.region rfl ?_  -- region 1
  refine R.move (h := ?_)
  refine R.move (h := ?_)
  by_cases hnn : t < 0 ∨ d < 0
  · -- case neg
    rw [if_pos hnn] at eb
    rw [if_pos hnn] at e1
    rw [← e1]
    refine R.callP (es := [_, _]) (fun _ => both_P t d) (h := ?_)
    rw [eb]
    refine R.assign (h := ?_)
    refine Reg.nil ⟨fun h => (by cases h), ?_⟩
    refine LGo.seq ?_
    refine LGo.seq ?_
    refine LGo.region rfl ?_  -- region 2
    refine R.move (h := ?_)
    refine R.bin (run_eql _ _ _ _ _ _) (h := ?_)
    refine R.move (h := ?_)
    refine R.move (h := ?_)
    refine R.move (h := ?_)
    refine R.bin (run_lss _ _ _ _ _ _) (h := ?_)
    refine R.and (h := ?_)
    refine Reg.nil ⟨fun h => (by cases h), ?_⟩
    refine LGo.ifb (ht := fun hc => by simp at hc) (hf := fun hc => ?_)
    refine LGo.skip ?_
    refine LGo.seq ?_
    refine LGo.seq ?_
    refine LGo.region rfl ?_  -- region 4
    refine R.move (h := ?_)
    refine R.bin (run_neq _ _ _ _ _ _) (h := ?_)
    refine Reg.nil ⟨fun h => (by cases h), ?_⟩
    refine LGo.ifb (ht := fun hc2 => ?_) (hf := fun hc2 => by simp at hc2)
    refine LGo.seq ?_
    refine LGo.region rfl ?_  -- region 5
    refine R.move (h := ?_)
    refine R.assign (h := ?_)
    refine R.assign (h := ?_)
    refine Reg.nil ⟨fun h => (by cases h), ?_⟩
    exact LGo.ret (ret_TT Tryd.results17 hA hmd)
  · -- case pos
    rw [if_neg hnn] at eb
    rw [if_neg hnn] at e1
    refine R.callP (es := [_, _]) (fun _ => both_P t d) (h := ?_)
    rw [eb]
    refine R.assign (h := ?_)
    refine Reg.nil ⟨fun h => (by cases h), ?_⟩
    refine LGo.seq ?_
    refine LGo.seq ?_
    refine LGo.region rfl ?_  -- region 2
    refine R.move (h := ?_)
    refine R.bin (run_eql _ _ _ _ _ _) (h := ?_)
    refine R.move (h := ?_)
    refine R.move (h := ?_)
    refine R.move (h := ?_)
    refine R.bin (run_lss _ _ _ _ _ _) (h := ?_)
    refine R.and (h := ?_)
    refine Reg.nil ⟨fun h => (by cases h), ?_⟩
    refine LGo.ifb (ht := fun hc3 => ?_) (hf := fun hc3 => ?_)
    · -- then 3
      rw [if_pos (by simpa using hc3)] at e1; rw [← e1]
      refine LGo.region rfl ?_  -- region 3
      refine R.assign (h := ?_)
      refine Reg.nil ⟨fun h => (by cases h), ?_⟩
      refine LGo.seq ?_
      refine LGo.seq ?_
      refine LGo.region rfl ?_  -- region 4
      refine R.move (h := ?_)
      refine R.bin (run_neq _ _ _ _ _ _) (h := ?_)
      refine Reg.nil ⟨fun h => (by cases h), ?_⟩
      refine LGo.ifb (ht := fun hc4 => ?_) (hf := fun hc4 => by simp at hc4)
      refine LGo.seq ?_
      refine LGo.region rfl ?_  -- region 5
      refine R.move (h := ?_)
      refine R.assign (h := ?_)
      refine R.assign (h := ?_)
      refine Reg.nil ⟨fun h => (by cases h), ?_⟩
      exact LGo.ret (ret_TT Tryd.results17 hA hmd)
    · -- else 3
      rw [if_neg (by simpa using hc3)] at e1; rw [← e1]
      refine LGo.skip ?_
      refine LGo.seq ?_
      refine LGo.seq ?_
      refine LGo.region rfl ?_  -- region 4
      refine R.move (h := ?_)
      refine R.bin (run_neq _ _ _ _ _ _) (h := ?_)
      refine Reg.nil ⟨fun h => (by cases h), ?_⟩
      refine LGo.ifb (ht := fun hc5 => by simp at hc5) (hf := fun hc5 => ?_)
      refine LGo.skip ?_
      refine LGo.seq ?_
      refine LGo.region rfl ?_  -- region 6
      refine R.move (h := ?_)
      refine R.assign (h := ?_)
      refine R.assign (h := ?_)
      refine Reg.nil ⟨fun h => (by cases h), ?_⟩
      exact LGo.ret (ret_TT Tryd.results17 hA hmd)

theorem rpassed_P (t d : Int) (ht : R64 t) (hd : R64 d) : PC Tryd.prog 13 [.i t, .i d] (.tup [.b (passT t d).1, .i (passT t d).2]) := by
  refine ⟨LC.of_go Tryd.func13 (c := _) rfl (by kernel_rfl) (by rw [Tryd.ntmps13]; simp) rfl rfl (by simp [LO.lt, LV.lts, LV.lt]) (by simp) ?_⟩
  intro B hA hmd
  have eb : bothT t d = (passT t d).2 ∧ (decide (bothT t d = 0) && decide (t ≤ d)) = (passT t d).1 := by unfold bothT passT; split <;> simp
  rw [← eb.1, ← eb.2]
  refine LGo.seq ?_
  refine LGo.region rfl ?_  -- region 0
  refine R.assign (h := ?_)
  refine R.assign (h := ?_)
  refine Reg.nil ⟨fun h => (by cases h), ?_⟩
  refine LGo.seq ?_
  refine LGo.region rfl ?_  -- region 1
  refine R.move (h := ?_)
  refine R.move (h := ?_)
  refine R.callP (es := [_, _]) (fun _ => both_P t d) (h := ?_)
  refine R.assign (h := ?_)
  refine Reg.nil ⟨fun h => (by cases h), ?_⟩
  refine LGo.seq ?_
  refine LGo.region rfl ?_  -- region 2
  refine R.move (h := ?_)
  refine R.bin (run_eql _ _ _ _ _ _) (h := ?_)
  refine R.move (h := ?_)
  refine R.move (h := ?_)
  refine R.move (h := ?_)
  refine R.bin (run_leq _ _ _ _ _ _) (h := ?_)
  refine R.and (h := ?_)
  refine R.move (h := ?_)
  refine R.assign (h := ?_)
  refine R.assign (h := ?_)
  refine Reg.nil ⟨fun h => (by cases h), ?_⟩
  exact LGo.ret (ret_TT Tryd.results13 hA hmd)

theorem rleft_P (t d : Int) (ht : R64 t) (hd : R64 d) : PC Tryd.prog 15 [.i t, .i d] (.tup [.i (leftT t d).1, .i (leftT t d).2]) := by
  refine ⟨LC.of_go Tryd.func15 (c := _) rfl (by kernel_rfl) (by rw [Tryd.ntmps15]; simp) rfl rfl (by simp [LO.lt, LV.lts, LV.lt]) (by simp) ?_⟩
  intro B hA hmd
  have hT := ht
  have hD := hd
  unfold R64 at hT hD
  have ep : passT t d = if t < 0 ∨ d < 0 then (false, 7) else (decide (t ≤ d), 0) := rfl
  obtain ⟨g, e0⟩ : ∃ g, leftT t d = g := ⟨_, rfl⟩
  have e1 := e0
  unfold leftT at e1
  rw [e0]
  refine LGo.seq ?_
  refine LGo.region rfl ?_  -- region 0
  refine R.assign (h := ?_)
  refine R.assign (h := ?_)
  refine Reg.nil ⟨fun h => (by cases h), ?_⟩
  refine LGo.seq ?_
  refine LGo.region rfl ?_  -- region 1
  refine R.move (h := ?_)
  refine R.move (h := ?_)
  refine R.callP (es := [_, _]) (fun _ => rpassed_P t d ht hd) (h := ?_)
  refine R.move (h := ?_)
  refine R.extract (h := ?_)
  refine R.extract (h := ?_)
  refine R.assign (h := ?_)
  refine R.assign (h := ?_)
  refine Reg.nil ⟨fun h => (by cases h), ?_⟩
  refine LGo.seq ?_
  refine LGo.seq ?_
  refine LGo.region rfl ?_  -- region 2
  refine R.move (h := ?_)
  refine R.bin (run_neq _ _ _ _ _ _) (h := ?_)
  refine R.move (h := ?_)
  refine R.move (h := ?_)
  refine R.or (h := ?_)
  refine Reg.nil ⟨fun h => (by cases h), ?_⟩
  first | refine LGo.ifd (ht := fun hc => ?_) (hf := fun hc => ?_) | refine LGo.ifb (ht := fun hc => ?_) (hf := fun hc => ?_)
  · -- then 1
    obtain rfl : g = (0, (passT t d).2) := by
      rw [← e1, ep]
      by_cases hnn : t < 0 ∨ d < 0
      · rw [if_pos hnn, if_pos hnn]
      · rw [if_neg hnn, if_neg hnn]
        rw [ep, if_neg hnn] at hc
        simp at hc
        simp
        omega
    refine LGo.seq ?_
    refine LGo.region rfl ?_  -- region 3
    refine R.move (h := ?_)
    refine R.assign (h := ?_)
    refine R.assign (h := ?_)
    refine Reg.nil ⟨fun h => (by cases h), ?_⟩
    exact LGo.ret (ret_TT Tryd.results15 hA hmd)
  · -- else 1
    by_cases hnn : t < 0 ∨ d < 0
    · rw [if_pos hnn] at ep
      rw [ep] at hc
      simp at hc
    rw [if_neg hnn] at ep e1
    rw [ep] at hc
    simp at hc
    rw [← e1, show max (t - d) 0 = t - d from by omega]
    refine LGo.skip ?_
    refine LGo.seq ?_
    refine LGo.region rfl ?_  -- region 4
    refine R.move (h := ?_)
    refine R.move (h := ?_)
    first | refine R.sub (h := ?_) | refine R.subW (h := ?_)
    refine R.assign (h := ?_)
    refine R.assign (h := ?_)
    refine Reg.nil ⟨fun h => (by cases h), ?_⟩
    exact LGo.ret (ret_TT Tryd.results15 hA hmd)

end Go.Proofs.YtcekeipkofblmaaDoor
