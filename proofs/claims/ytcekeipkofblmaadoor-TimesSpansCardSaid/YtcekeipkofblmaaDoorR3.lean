/- times: ends of the reference. -/
import Derived.Test.YtcekeipkofblmaaDoorPL
set_option linter.unusedSimpArgs false
set_option linter.unusedVariables false
namespace Go.Proofs.YtcekeipkofblmaaDoor

def endsL (l : List Sp) : List Int := l.flatMap fun s => [s.1, s.2]
def posI (x : Int) (out : List Int) : Nat → Nat
  | 0 => 0
  | n + 1 => if x < out.getD n 0 then posI x out n else n + 1
theorem posI_succ (x : Int) (out : List Int) (n : Nat) : posI x out (n + 1) = if x < out.getD n 0 then posI x out n else n + 1 := rfl
theorem posI_le (x : Int) (out : List Int) : ∀ n, posI x out n ≤ n
  | 0 => Nat.le_refl _
  | n + 1 => by unfold posI; split; exact Nat.le_succ_of_le (posI_le x out n); exact Nat.le_refl _
def insI (out : List Int) (x : Int) : List Int := if (decide (0 < ((posI x out out.length : Nat) : Int)) && decide (out.getD (posI x out out.length - 1) 0 = x)) = true then out else out.take (posI x out out.length) ++ x :: out.drop (posI x out out.length)
theorem insI_len (out : List Int) (x : Int) : (insI out x).length ≤ out.length + 1 := by
  have := posI_le x out out.length
  unfold insI; split
  · omega
  · simp; omega
def endsS (a b : List Sp) : List Int := (endsL a ++ endsL b).foldl insI []
theorem endsL_cons (s : Sp) (l : List Sp) : endsL (s :: l) = [s.1, s.2] ++ endsL l := rfl
theorem endsL_len : ∀ l : List Sp, (endsL l).length = 2 * l.length
  | [] => rfl
  | s :: l => by rw [endsL_cons, List.length_append, endsL_len l]; simp; omega
theorem insF_len : ∀ (l out : List Int), (l.foldl insI out).length ≤ out.length + l.length
  | [], out => by simp
  | x :: l, out => by
    have := insF_len l (insI out x)
    have := insI_len out x
    simp only [List.foldl_cons, List.length_cons]; omega
theorem endsS_len (a b : List Sp) : (endsS a b).length ≤ 2 * a.length + 2 * b.length := by
  have := insF_len (endsL a ++ endsL b) []
  simp only [List.length_append, endsL_len, List.length_nil, Nat.zero_add] at this
  exact this
theorem ic_at {k : IntKind} {l : List Int} {n : Nat} (h : n < l.length) : (ic k l)[n]? = some [.val (.int k (l.getD n 0))] := by
  simp [ic, h]

theorem ends_P (a b : List Sp) (ha : a.length ≤ 100000) (hb : b.length ≤ 100000) : PC Tryd.prog 54 [.sv (.sl 2 (spsC a)), .sv (.sl 2 (spsC b))] (.sv (.sl 1 (ic .i64 (endsS a b)))) := by
  refine ⟨LC.of_go Tryd.func54 (c := _) rfl (by kernel_rfl) (by rw [Tryd.ntmps54]; simp) rfl rfl (by simp [LO.lt, LV.lts, LV.lt]) (by simp) ?_⟩
  intro B hA hmd
  obtain ⟨g, e0⟩ : ∃ g, endsS a b = g := ⟨_, rfl⟩
  have e1 := e0
  unfold endsS at e1
  rw [e0]
  refine LGo.seq ?_
  refine LGo.region rfl ?_  -- region 0
  refine R.assign (h := ?_)
  refine Reg.nil ⟨fun h => (by cases h), ?_⟩
  refine LGo.seq ?_
  refine LGo.region rfl ?_  -- region 1
  refine R.assign (h := ?_)
  refine Reg.nil ⟨fun h => (by cases h), ?_⟩
  refine LGo.seq ?_
  refine LGo.seq ?_
  refine LGo.region rfl ?_  -- region 2
  refine R.assign (h := ?_)
  refine Reg.nil ⟨fun h => (by cases h), ?_⟩
  refine LGo.block ?_
  refine LGo.loop ?_
  refine LGo.nilRs 5 2 1 (h := ?_)
  refine LGo.loopG (σ := Nat × List Int) (fun x => x.1 ≤ a.length ∧ x.2.length = 2 * x.1 ∧ endsL a = x.2 ++ endsL (a.drop x.1)) (fun x => [(6, (true, .i (x.1 : Nat))), (5, (true, .ref 0))]) (fun x => [(0, .rs 2 1 (ic .i64 x.2))]) (fun x => a.length - x.1) ((0, [])) [(0, _), (1, _)] ⟨by simp, by simp, by simp⟩ (by repeat (first | exact trivial | refine ⟨rfl, ?_⟩)) (by repeat (first | exact trivial | refine ⟨rfl, ?_⟩)) (by repeat (first | exact trivial | refine ⟨rfl, ?_⟩)) ?_
  rintro ⟨k, acc⟩ ⟨hk, hal, hq⟩ ih
  dsimp only at * 
  refine LGo.seq ?_
  refine LGo.seq ?_
  refine LGo.region rfl ?_  -- region 3
  refine R.move (h := ?_)
  refine R.move (h := ?_)
  first | refine R.len S36 (h := ?_) | refine R.lenRs S36 (h := ?_) | refine R.lenV (run_lenNil S36) (h := ?_)
  rw [spsC_length]
  refine R.bin (run_lss _ _ _ _ _ _) (h := ?_)
  refine Reg.nil ⟨fun h => (by cases h), ?_⟩
  refine LGo.ifd (ht := fun hc => ?_) (hf := fun hc => ?_)
  · -- then 1
    have hlt : k < a.length := by omega
    have hx : (spsC a)[((k : Nat) : Int).toNat]? = some (spC a[k]) := by simp [spsC, hlt]
    rw [List.drop_eq_getElem_cons hlt] at hq
    generalize a[k] = s at hx hq
    rw [endsL_cons] at hq
    refine LGo.skip ?_
    refine LGo.seq ?_
    refine LGo.block ?_
    refine LGo.region rfl ?_  -- region 5 DRAWS
    refine R.move (h := ?_)
    refine R.move (h := ?_)
    refine R.move (h := ?_)
    refine R.index I36 (hj := fun hg => ⟨by omega, hx⟩) (h := ?_)
    first | refine R.field F43_0 (h := ?_) | refine R.fieldAt F43_0 (h := ?_)
    first | refine R.loadB O2 (h := ?_) | refine R.load1 O2 (h := ?_)
    refine R.buildSliceG AP34 (xs := [_]) (es := [_]) (ys := [[.val (.int .i64 s.1)]]) (hcs := CellsOfs.cons (CellsOf.one rfl) CellsOfs.nil) (hys := rfl) (h := ?_)
    refine R.appendS AP34 (hs := SrcOk.sl Tryd.underlying34 (by simp)) (hlen := by simp [ic_len]; omega) (h := ?_)
    rw [ic_snoc]
    refine R.move (h := ?_)
    refine R.move (h := ?_)
    refine R.index I36 (hj := fun hg => ⟨by omega, hx⟩) (h := ?_)
    first | refine R.field F43_1 (h := ?_) | refine R.fieldAt F43_1 (h := ?_)
    first | refine R.loadB O2 (h := ?_) | refine R.load1 O2 (h := ?_)
    refine R.buildSliceG AP34 (xs := [_]) (es := [_]) (ys := [[.val (.int .i64 s.2)]]) (hcs := CellsOfs.cons (CellsOf.one rfl) CellsOfs.nil) (hys := rfl) (h := ?_)
    refine R.appendS AP34 (hs := SrcOk.sl Tryd.underlying34 (by simp)) (hlen := by simp [ic_len]; omega) (h := ?_)
    rw [ic_snoc]
    refine R.assign (h := ?_)
    refine Reg.nil ⟨fun _ => ⟨mixedO, by rfl, by rfl⟩, ?_⟩
    refine LGo.inBlock ?_
    refine LGo.region rfl ?_  -- region 4
    refine R.move (h := ?_)
    first | refine R.add (h := ?_) | refine R.addW (h := ?_)
    refine R.assign (h := ?_)
    refine Reg.nil ⟨fun h => (by cases h), ?_⟩
    refine LGo.inLoop ?_
    exact LGo.turn [2] (b := 0) (fun o h => by have := (hA o).1 h; omega) (ih (k + 1, acc ++ [s.1] ++ [s.2]) ⟨hlt, by simp; omega, by rw [hq]; simp⟩ (by dsimp only; omega)) (by repeat (first | exact trivial | refine ⟨rfl, ?_⟩)) (by repeat (first | exact trivial | refine ⟨rfl, ?_⟩))
  · -- else 1
    obtain rfl : endsL a = acc := by
      have hk' : k = a.length := by omega
      subst hk'
      rw [List.drop_length] at hq
      rw [hq]; simp [endsL]
    refine LGo.exit rfl ?_
    refine LGo.seq ?_
    refine LGo.seq ?_
    refine LGo.region rfl ?_  -- region 6
    refine R.assign (h := ?_)
    refine Reg.nil ⟨fun h => (by cases h), ?_⟩
    refine LGo.block ?_
    refine LGo.loop ?_
    refine LGo.loopG (σ := Nat × List Int) (fun x => x.1 ≤ b.length ∧ x.2.length = 2 * a.length + 2 * x.1 ∧ endsL a ++ endsL b = x.2 ++ endsL (b.drop x.1)) (fun x => [(7, (true, .i (x.1 : Nat))), (5, (true, .ref 0))]) (fun x => [(0, .rs 2 1 (ic .i64 x.2))]) (fun x => b.length - x.1) ((0, endsL a)) [(1, _)] ⟨by simp, by simp [endsL_len], by simp⟩ (by repeat (first | exact trivial | refine ⟨rfl, ?_⟩)) (by repeat (first | exact trivial | refine ⟨rfl, ?_⟩)) (by repeat (first | exact trivial | refine ⟨rfl, ?_⟩)) ?_
    rintro ⟨j, acc⟩ ⟨hj, hbl, hr⟩ ih2
    dsimp only at * 
    refine LGo.seq ?_
    refine LGo.seq ?_
    refine LGo.region rfl ?_  -- region 7
    refine R.move (h := ?_)
    refine R.move (h := ?_)
    first | refine R.len S36 (h := ?_) | refine R.lenRs S36 (h := ?_) | refine R.lenV (run_lenNil S36) (h := ?_)
    rw [spsC_length]
    refine R.bin (run_lss _ _ _ _ _ _) (h := ?_)
    refine Reg.nil ⟨fun h => (by cases h), ?_⟩
    refine LGo.ifd (ht := fun hc2 => ?_) (hf := fun hc2 => ?_)
    · -- then 2
      have hlt : j < b.length := by omega
      have hx : (spsC b)[((j : Nat) : Int).toNat]? = some (spC b[j]) := by simp [spsC, hlt]
      rw [List.drop_eq_getElem_cons hlt] at hr
      generalize b[j] = s at hx hr
      rw [endsL_cons] at hr
      refine LGo.skip ?_
      refine LGo.seq ?_
      refine LGo.block ?_
      refine LGo.region rfl ?_  -- region 9 DRAWS
      refine R.move (h := ?_)
      refine R.move (h := ?_)
      refine R.move (h := ?_)
      refine R.index I36 (hj := fun hg => ⟨by omega, hx⟩) (h := ?_)
      first | refine R.field F43_0 (h := ?_) | refine R.fieldAt F43_0 (h := ?_)
      first | refine R.loadB O2 (h := ?_) | refine R.load1 O2 (h := ?_)
      refine R.buildSliceG AP34 (xs := [_]) (es := [_]) (ys := [[.val (.int .i64 s.1)]]) (hcs := CellsOfs.cons (CellsOf.one rfl) CellsOfs.nil) (hys := rfl) (h := ?_)
      refine R.appendS AP34 (hs := SrcOk.sl Tryd.underlying34 (by simp)) (hlen := by simp [ic_len]; omega) (h := ?_)
      rw [ic_snoc]
      refine R.move (h := ?_)
      refine R.move (h := ?_)
      refine R.index I36 (hj := fun hg => ⟨by omega, hx⟩) (h := ?_)
      first | refine R.field F43_1 (h := ?_) | refine R.fieldAt F43_1 (h := ?_)
      first | refine R.loadB O2 (h := ?_) | refine R.load1 O2 (h := ?_)
      refine R.buildSliceG AP34 (xs := [_]) (es := [_]) (ys := [[.val (.int .i64 s.2)]]) (hcs := CellsOfs.cons (CellsOf.one rfl) CellsOfs.nil) (hys := rfl) (h := ?_)
      refine R.appendS AP34 (hs := SrcOk.sl Tryd.underlying34 (by simp)) (hlen := by simp [ic_len]; omega) (h := ?_)
      rw [ic_snoc]
      refine R.assign (h := ?_)
      refine Reg.nil ⟨fun _ => ⟨mixedO, by rfl, by rfl⟩, ?_⟩
      refine LGo.inBlock ?_
      refine LGo.region rfl ?_  -- region 8
      refine R.move (h := ?_)
      first | refine R.add (h := ?_) | refine R.addW (h := ?_)
      refine R.assign (h := ?_)
      refine Reg.nil ⟨fun h => (by cases h), ?_⟩
      refine LGo.inLoop ?_
      exact LGo.turn [2] (b := 0) (fun o h => by have := (hA o).1 h; omega) (ih2 (j + 1, acc ++ [s.1] ++ [s.2]) ⟨hlt, by simp; omega, by rw [hr]; simp⟩ (by dsimp only; omega)) (by repeat (first | exact trivial | refine ⟨rfl, ?_⟩)) (by repeat (first | exact trivial | refine ⟨rfl, ?_⟩))
    · -- else 2
      obtain rfl : endsL a ++ endsL b = acc := by
        have hj' : j = b.length := by omega
        subst hj'
        rw [List.drop_length] at hr
        rw [hr]; simp [endsL]
      have hal2 : (endsL a ++ endsL b).length ≤ 400000 := by simp [endsL_len]; omega
      clear hq hal hr hbl hc hc2
      generalize endsL a ++ endsL b = al at e1 hal2 ⊢
      refine LGo.exit rfl ?_
      refine LGo.seq ?_
      refine LGo.region rfl ?_  -- region 10
      refine R.assign (h := ?_)
      refine Reg.nil ⟨fun h => (by cases h), ?_⟩
      refine LGo.seq ?_
      refine LGo.seq ?_
      refine LGo.region rfl ?_  -- region 11
      refine R.assign (h := ?_)
      refine Reg.nil ⟨fun h => (by cases h), ?_⟩
      refine LGo.block ?_
      refine LGo.loop ?_
      refine LGo.frz 0 (h := ?_)
      refine LGo.nilSl 8 1 (h := ?_)
      refine LGo.loopG (σ := Nat × List Int) (fun x => x.1 ≤ al.length ∧ x.2.length ≤ x.1 ∧ al.foldl insI [] = (al.drop x.1).foldl insI x.2) (fun x => [(9, (true, .i (x.1 : Nat))), (8, (true, .sv (.sl 1 (ic .i64 x.2))))]) (fun x => []) (fun x => al.length - x.1) ((0, [])) [(5, _)] ⟨by simp, by simp, by simp⟩ (by repeat (first | exact trivial | refine ⟨rfl, ?_⟩)) (by repeat (first | exact trivial | refine ⟨rfl, ?_⟩)) (by repeat (first | exact trivial | refine ⟨rfl, ?_⟩)) ?_
      rintro ⟨i, out⟩ ⟨hi, hol, hw⟩ ih3
      dsimp only at * 
      refine LGo.seq ?_
      refine LGo.seq ?_
      refine LGo.region rfl ?_  -- region 12
      refine R.move (h := ?_)
      refine R.move (h := ?_)
      first | refine R.len S34 (h := ?_) | refine R.lenRs S34 (h := ?_) | refine R.lenV (run_lenNil S34) (h := ?_)
      rw [ic_len]
      refine R.bin (run_lss _ _ _ _ _ _) (h := ?_)
      refine Reg.nil ⟨fun h => (by cases h), ?_⟩
      refine LGo.ifd (ht := fun hc3 => ?_) (hf := fun hc3 => ?_)
      · -- then 3
        have hlt : i < al.length := by omega
        have hx : (ic .i64 al)[((i : Nat) : Int).toNat]? = some [.val (.int .i64 al[i])] := by simp [ic, hlt]
        rw [List.drop_eq_getElem_cons hlt] at hw
        generalize al[i] = xe at hx hw
        simp only [List.foldl_cons] at hw
        refine LGo.skip ?_
        refine LGo.seq ?_
        refine LGo.block ?_
        refine LGo.seq ?_
        refine LGo.region rfl ?_  -- region 14
        refine R.move (h := ?_)
        first | refine R.len S34 (h := ?_) | refine R.lenRs S34 (h := ?_) | refine R.lenV (run_lenNil S34) (h := ?_)
        rw [ic_len]
        refine R.assign (h := ?_)
        refine Reg.nil ⟨fun h => (by cases h), ?_⟩
        refine LGo.seq ?_
        refine LGo.block ?_
        refine LGo.loop ?_
        refine LGo.loopG (σ := Nat) (fun x => x ≤ out.length ∧ posI xe out out.length = posI xe out x) (fun x => [(10, (true, .i (x : Nat)))]) (fun x => []) (fun x => x) (out.length) [(5, _), (8, _), (9, _)] ⟨Nat.le_refl _, rfl⟩ (by repeat (first | exact trivial | refine ⟨rfl, ?_⟩)) (by repeat (first | exact trivial | refine ⟨rfl, ?_⟩)) (by repeat (first | exact trivial | refine ⟨rfl, ?_⟩)) ?_
        rintro at_ ⟨ha4, hp4⟩ ih4
        have hpv : 0 < at_ → (ic .i64 out)[((at_ : Nat) - 1 : Int).toNat]? = some [.val (.int .i64 (out.getD (at_ - 1) 0))] := fun h => by
          rw [show ((at_ : Nat) - 1 : Int).toNat = at_ - 1 from by omega]
          exact ic_at (by omega)
        refine LGo.seq ?_
        refine LGo.seq ?_
        refine LGo.region rfl ?_  -- region 15 DRAWS
        refine R.move (h := ?_)
        refine R.bin (run_gtr _ _ _ _ _ _) (h := ?_)
        refine R.move (h := ?_)
        refine R.move (h := ?_)
        refine R.move (h := ?_)
        refine R.index I34 (hj := fun hg => ⟨by (simp at hg; omega), hx⟩) (h := ?_)
        first | refine R.loadB O2 (h := ?_) | refine R.load1 O2 (h := ?_)
        refine R.move (h := ?_)
        refine R.move (h := ?_)
        first | refine R.sub (h := ?_) | refine R.subW (h := ?_)
        refine R.index I34 (hj := fun hg => ⟨by (simp at hg; omega), hpv (by simp at hg; omega)⟩) (h := ?_)
        first | refine R.loadB O2 (h := ?_) | refine R.load1 O2 (h := ?_)
        refine R.bin (run_lss _ _ _ _ _ _) (h := ?_)
        refine R.and (hgy := fun _ h => by rw [h]; rfl) (h := ?_)
        refine Reg.nil ⟨fun _ => ⟨mixedO, by rfl, by rfl⟩, ?_⟩
        refine LGo.ifb (ht := fun hc4 => ?_) (hf := fun hc4 => ?_)
        · -- then 4
          obtain ⟨m, rfl⟩ : ∃ m, at_ = m + 1 := ⟨at_ - 1, by simp at hc4; omega⟩
          rw [show m + 1 - 1 = m from rfl] at hc4
          have hp5 : posI xe out (m + 1) = posI xe out m := by
            rw [posI_succ, if_pos (by simp at hc4; exact hc4)]
          refine LGo.skip ?_
          refine LGo.block ?_
          refine LGo.region rfl ?_  -- region 16
          refine R.move (h := ?_)
          first | refine R.sub (h := ?_) | refine R.subW (h := ?_)
          rw [show (((m + 1 : Nat) : Int)) - 1 = ((m : Nat) : Int) from by omega]
          refine R.assign (h := ?_)
          refine Reg.nil ⟨fun h => (by cases h), ?_⟩
          refine LGo.inBlock ?_
          refine LGo.inLoop ?_
          exact LGo.next _ (fun o h => by have := (hA o).1 h; omega) (by omega) (ih4 m ⟨by omega, by rw [hp4, hp5]⟩ (by omega)) (by repeat (first | exact trivial | refine ⟨rfl, ?_⟩)) (by repeat (first | exact trivial | refine ⟨rfl, ?_⟩))
        · -- else 4
          have hpe : posI xe out out.length = at_ := by
            rw [hp4]
            cases at_ with
            | zero => rfl
            | succ m =>
              rw [posI_succ, if_neg (fun hlt => by
                rw [show m + 1 - 1 = m from rfl, decide_eq_true hlt, Bool.and_true] at hc4
                exact absurd (of_decide_eq_false hc4) (by omega))]
          have ei : insI out xe = if (decide (0 < ((at_ : Nat) : Int)) && decide (out.getD (at_ - 1) 0 = xe)) = true then out else out.take at_ ++ xe :: out.drop at_ := by unfold insI; rw [hpe]
          refine LGo.exit rfl ?_
          refine LGo.seq ?_
          refine LGo.seq ?_
          refine LGo.region rfl ?_  -- region 17 DRAWS
          refine R.move (h := ?_)
          refine R.bin (run_gtr _ _ _ _ _ _) (h := ?_)
          refine R.move (h := ?_)
          refine R.move (h := ?_)
          refine R.move (h := ?_)
          first | refine R.sub (h := ?_) | refine R.subW (h := ?_)
          refine R.index I34 (hj := fun hg => ⟨by (simp at hg; omega), hpv (by simp at hg; omega)⟩) (h := ?_)
          first | refine R.loadB O2 (h := ?_) | refine R.load1 O2 (h := ?_)
          refine R.move (h := ?_)
          refine R.move (h := ?_)
          refine R.index I34 (hj := fun hg => ⟨by (simp at hg; omega), hx⟩) (h := ?_)
          first | refine R.loadB O2 (h := ?_) | refine R.load1 O2 (h := ?_)
          refine R.bin (run_eql _ _ _ _ _ _) (h := ?_)
          refine R.and (hgy := fun _ h => by rw [h]; rfl) (h := ?_)
          refine Reg.nil ⟨fun _ => ⟨mixedO, by rfl, by rfl⟩, ?_⟩
          refine LGo.ifb (ht := fun hc5 => ?_) (hf := fun hc5 => ?_)
          · -- then 5
            rw [if_pos hc5] at ei
            rw [ei] at hw
            refine LGo.exit rfl ?_
            refine LGo.region rfl ?_  -- region 13
            refine R.move (h := ?_)
            first | refine R.add (h := ?_) | refine R.addW (h := ?_)
            refine R.assign (h := ?_)
            refine Reg.nil ⟨fun h => (by cases h), ?_⟩
            refine LGo.inLoop ?_
            exact LGo.next _ (fun o h => by have := (hA o).1 h; omega) (by omega) (ih3 (i + 1, out) ⟨hlt, by dsimp only; omega, hw⟩ (by dsimp only; omega)) (by repeat (first | exact trivial | refine ⟨rfl, ?_⟩)) (by repeat (first | exact trivial | refine ⟨rfl, ?_⟩))
          · -- else 5
            rw [if_neg (by rw [hc5]; simp)] at ei
            rw [ei] at hw
            refine LGo.skip ?_
            refine LGo.seq ?_
            refine LGo.region rfl ?_  -- region 18 DRAWS
            refine R.move (h := ?_)
            refine R.move (h := ?_)
            refine R.index I34 (hj := fun hg => ⟨by omega, hx⟩) (h := ?_)
            first | refine R.loadB O2 (h := ?_) | refine R.load1 O2 (h := ?_)
            refine R.buildSliceR AP34 (xs := [_]) (es := [_]) (hcs := CellsOfs.cons (CellsOf.one rfl) CellsOfs.nil) (ys := [[.val (.int .i64 xe)]]) (hys := rfl) (h := ?_)
            refine R.move (h := ?_)
            refine R.move (h := ?_)
            refine R.sliceLo SF34 (ha := fun _ => ⟨by omega, by rw [ic_len]; omega⟩) (h := ?_)
            rw [Int.toNat_natCast, ic_drop]
            refine R.appendF AP34 (hs := SrcOk.sl Tryd.underlying34 (ic_one _ _)) (hlen := by simp [ic_len]; omega) (h := ?_)
            rw [show ([[.val (.int .i64 xe)]] : List (List SV)) ++ ic .i64 (out.drop at_) = ic .i64 (xe :: out.drop at_) from rfl]
            refine R.assign (h := ?_)
            refine Reg.nil ⟨fun _ => ⟨mixedO, by rfl, by rfl⟩, ?_⟩
            refine LGo.region rfl ?_  -- region 19
            refine R.buildSliceR AP34 (xs := []) (es := []) (cs := []) (ys := []) (hcs := CellsOfs.nil) (hys := rfl) (h := ?_)
            refine R.move (h := ?_)
            refine R.move (h := ?_)
            refine R.sliceHi SF34 (ha := fun _ => ⟨by omega, by rw [ic_len]; omega⟩) (h := ?_)
            rw [Int.toNat_natCast, ic_take]
            refine R.appendS AP34 (hs := SrcOk.sl Tryd.underlying34 (ic_one _ _)) (hlen := by simp [ic_len]; omega) (h := ?_)
            rw [List.nil_append]
            refine R.move (h := ?_)
            refine R.appendF AP34 (hs := SrcOk.sl Tryd.underlying34 (ic_one _ _)) (hlen := by simp [ic_len]; omega) (h := ?_)
            rw [← ic_app]
            refine R.assign (h := ?_)
            refine Reg.nil ⟨fun h => (by cases h), ?_⟩
            refine LGo.inBlock ?_
            refine LGo.region rfl ?_  -- region 13
            refine R.move (h := ?_)
            first | refine R.add (h := ?_) | refine R.addW (h := ?_)
            refine R.assign (h := ?_)
            refine Reg.nil ⟨fun h => (by cases h), ?_⟩
            refine LGo.inLoop ?_
            exact LGo.next _ (fun o h => by have := (hA o).1 h; omega) (by omega) (ih3 (i + 1, out.take at_ ++ xe :: out.drop at_) ⟨hlt, by simp; omega, hw⟩ (by dsimp only; omega)) (by repeat (first | exact trivial | refine ⟨rfl, ?_⟩)) (by repeat (first | exact trivial | refine ⟨rfl, ?_⟩))
      · -- else 3
        obtain rfl : g = out := by
          have hi' : i = al.length := by omega
          subst hi'
          rw [List.drop_length] at hw
          rw [← e1, hw]; rfl
        refine LGo.exit rfl ?_
        refine LGo.seq ?_
        refine LGo.region rfl ?_  -- region 20
        refine R.move (h := ?_)
        refine R.assign (h := ?_)
        refine Reg.nil ⟨fun h => (by cases h), ?_⟩
        first | refine LGo.frzT 4 (h := ?_) | refine LGo.nilSl 4 1 (h := ?_) | skip
        exact LGo.ret (ret_T Tryd.results54 hA hmd)

end Go.Proofs.YtcekeipkofblmaaDoor
