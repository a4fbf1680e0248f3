/- times: union, Union, Minus, Total. -/
import Derived.Test.YtcekeipkofblmaaDoorD
set_option linter.unusedSimpArgs false
set_option linter.unusedVariables false
namespace Go.Proofs.YtcekeipkofblmaaDoor

def lastS (l : List Sp) : Sp := l.getLastD (0, 0)
def uStep (acc : List Sp) (s : Sp) : List Sp := if (decide (0 < (acc.length : Int)) && decide (s.1 ≤ (lastS acc).2)) = true then acc.set (acc.length - 1) ((lastS acc).1, max (lastS acc).2 s.2) else acc ++ [s]
def unionS (l : List Sp) : List Sp := (sortS l).foldl uStep []
theorem lastS_at {acc : List Sp} (h : 0 < acc.length) : (spsC acc)[acc.length - 1]? = some (spC (lastS acc)) := by
  have h1 : acc.length - 1 < acc.length := by omega
  simp only [spsC, List.getElem?_map, List.getElem?_eq_getElem h1, Option.map_some]
  rw [lastS, List.getLastD_eq_getLast?, List.getLast?_eq_getElem?, List.getElem?_eq_getElem h1]; rfl
theorem spsC_set (acc : List Sp) (j : Nat) (s : Sp) : (spsC acc).set j (spC s) = spsC (acc.set j s) := by simp [spsC, List.map_set]
theorem uStep_len (acc : List Sp) (s : Sp) : (uStep acc s).length ≤ acc.length + 1 := by unfold uStep; split <;> simp
theorem uFold_len : ∀ (l acc : List Sp), (l.foldl uStep acc).length ≤ acc.length + l.length
  | [], acc => by simp
  | s :: l, acc => by
    have := uFold_len l (uStep acc s)
    have := uStep_len acc s
    simp only [List.foldl_cons, List.length_cons]; omega
theorem unionS_len (l : List Sp) : (unionS l).length ≤ l.length := by
  have := uFold_len (sortS l) []
  rw [sortS_len] at this
  simp only [List.length_nil, Nat.zero_add] at this
  exact this
def unionT (l : List Sp) : List Sp × Int := if (!decide (checkS [l] = 0)) = true then ([], checkS [l]) else (unionS l, 0)
def cutStep (st : Sp × List Sp) (h : Sp) : Sp × List Sp := if (decide (h.2 ≤ st.1.1) || decide (st.1.2 ≤ h.1)) = true then st else ((min h.2 st.1.2, st.1.2), if st.1.1 < h.1 then st.2 ++ [(st.1.1, h.1)] else st.2)
def spanStep (hs : List Sp) (acc : List Sp) (s : Sp) : List Sp := if (hs.foldl cutStep (s, acc)).1.1 < (hs.foldl cutStep (s, acc)).1.2 then (hs.foldl cutStep (s, acc)).2 ++ [(hs.foldl cutStep (s, acc)).1] else (hs.foldl cutStep (s, acc)).2
def minusS (a b : List Sp) : List Sp := (unionS a).foldl (spanStep (unionS b)) []
def minusT (a b : List Sp) : List Sp × Int := if (!decide (checkS [a, b] = 0)) = true then ([], checkS [a, b]) else (minusS a b, 0)
def totGo (n : Int) (l : List Sp) : Int := l.foldl (fun n s => IntKind.i64.wrap (n + IntKind.i64.wrap (s.2 - s.1))) n
def totT (l : List Sp) : Int × Int := if (!decide (checkS [l] = 0)) = true then (0, checkS [l]) else (totGo 0 (unionS l), 0)

theorem union_P (l : List Sp) (hl : l.length ≤ 100000) : PC Tryd.prog 44 [.sv (.sl 2 (spsC l))] (.sv (.sl 2 (spsC (unionS l)))) := by
  refine ⟨LC.of_go Tryd.func44 (c := _) rfl (by kernel_rfl) (by rw [Tryd.ntmps44]; simp) rfl rfl (by simp [LO.lt, LV.lts, LV.lt]) (by simp) ?_⟩
  intro B hA hmd
  obtain ⟨g, e0⟩ : ∃ g, unionS l = g := ⟨_, rfl⟩
  have e1 : (sortS l).foldl uStep [] = g := e0
  rw [e0]
  have hzl : (sortS l).length ≤ 100000 := by rw [sortS_len]; exact hl
  refine LGo.seq ?_
  refine LGo.region rfl ?_  -- region 0
  refine R.assign (h := ?_)
  refine Reg.nil ⟨fun h => (by cases h), ?_⟩
  refine LGo.seq ?_
  refine LGo.region rfl ?_  -- region 1
  refine R.move (h := ?_)
  refine R.callX (es := [_]) [] (values_L l) (h := ?_)
  refine R.callX (es := [_, _]) [0] (sorted_L l hl) (h := ?_)
  refine R.assign (h := ?_)
  refine Reg.nil ⟨fun h => (by cases h), ?_⟩
  refine LGo.seq ?_
  refine LGo.region rfl ?_  -- region 2
  refine R.assign (h := ?_)
  refine Reg.nil ⟨fun h => (by cases h), ?_⟩
  generalize sortS l = zs at *
  refine LGo.seq ?_
  refine LGo.seq ?_
  refine LGo.region rfl ?_  -- region 3
  refine R.move (h := ?_)
  first | refine R.len S36 (h := ?_) | refine R.lenRs S36 (h := ?_) | refine R.lenV (run_lenNil S36) (h := ?_)
  rw [spsC_length]
  refine R.move (h := ?_)
  refine Reg.nil ⟨fun h => (by cases h), ?_⟩
  refine LGo.block ?_
  refine LGo.loop ?_
  refine LGo.nilRs 3 43 2 (h := ?_)
  refine LGo.loopG (σ := Nat × List Sp) (fun x => x.1 ≤ zs.length ∧ x.2.length ≤ x.1 ∧ zs.foldl uStep [] = (zs.drop x.1).foldl uStep x.2) (fun x => [(12, (true, .i (x.1 : Nat))), (3, (true, .ref 1))]) (fun x => [(1, .rs 43 2 (spsC x.2))]) (fun x => zs.length - x.1) ((0, [])) [(10, _), (11, _)] ⟨by simp, by simp, by simp⟩ (by repeat (first | exact trivial | refine ⟨rfl, ?_⟩)) (by repeat (first | exact trivial | refine ⟨rfl, ?_⟩)) (by repeat (first | exact trivial | refine ⟨rfl, ?_⟩)) ?_
  rintro ⟨k, acc⟩ ⟨hk, hal, hq⟩ ih
  dsimp only at * 
  refine LGo.seq ?_
  refine LGo.region rfl ?_  -- region 4
  refine R.bin (run_lss _ _ _ _ _ _) (h := ?_)
  refine Reg.nil ⟨fun h => (by cases h), ?_⟩
  refine LGo.seq ?_
  refine LGo.ifd (ht := fun hc => ?_) (hf := fun hc => ?_)
  · -- then 1
    have hlt : k < zs.length := by omega
    have hx : (spsC zs)[((k : Nat) : Int).toNat]? = some (spC zs[k]) := by simp [spsC, hlt]
    rw [List.drop_eq_getElem_cons hlt] at hq
    generalize zs[k] = s at hx hq
    simp only [List.foldl_cons] at hq
    refine LGo.skip ?_
    refine LGo.seq ?_
    refine LGo.block ?_
    refine LGo.seq ?_
    refine LGo.region rfl ?_  -- region 5
    refine R.index I36 (hj := fun hg => ⟨by omega, hx⟩) (h := ?_)
    first | refine R.loadA A43 (h := ?_) | refine R.loadN A43 (h := ?_)
    refine R.alloc Z43 (h := ?_)
    refine R.storeA A43 (h := ?_)
    refine Reg.nil ⟨fun h => (by cases h), ?_⟩
    refine LGo.seq ?_
    refine LGo.seq ?_
    refine LGo.region rfl ?_  -- region 6
    refine R.move (h := ?_)
    first | refine R.len S36 (h := ?_) | refine R.lenRs S36 (h := ?_) | refine R.lenV (run_lenNil S36) (h := ?_)
    rw [spsC_length]
    refine R.assign (h := ?_)
    refine Reg.nil ⟨fun h => (by cases h), ?_⟩
    refine LGo.seq ?_
    refine LGo.region rfl ?_  -- region 7 DRAWS
    refine R.move (h := ?_)
    refine R.bin (run_gtr _ _ _ _ _ _) (h := ?_)
    refine R.move (h := ?_)
    first | refine R.field F43_0 (h := ?_) | refine R.fieldAt F43_0 (h := ?_)
    first | refine R.loadB O2 (h := ?_) | refine R.load1 O2 (h := ?_)
    refine R.move (h := ?_)
    refine R.move (h := ?_)
    first | refine R.sub (h := ?_) | refine R.subW (h := ?_)
    refine R.indexRs I36 (hj := fun hg => ⟨by simp at hg; omega, by rw [spsC_length]; omega⟩) (h := ?_)
    first | refine R.field F43_1 (h := ?_) | refine R.fieldAt F43_1 (h := ?_)
    refine R.loadRs1 O2 (acc.length - 1) 1 (ev := spC (lastS acc)) (hj := fun hg => ⟨lastS_at (by simp at hg; omega), rfl⟩) (hoff := by omega) (h := ?_)
    refine R.bin (run_leq _ _ _ _ _ _) (h := ?_)
    refine R.and (h := ?_)
    refine Reg.nil ⟨fun _ => ⟨mixedO, by rfl, by rfl⟩, ?_⟩
    refine LGo.ifb (ht := fun hc2 => ?_) (hf := fun hc2 => ?_)
    · -- then 2
      rw [show uStep acc s = acc.set (acc.length - 1) ((lastS acc).1, max (lastS acc).2 s.2) from if_pos hc2] at hq
      have ha0 : 0 < acc.length := by simp at hc2; omega
      refine LGo.seq ?_
      refine LGo.region rfl ?_  -- region 8 DRAWS
      refine R.move (h := ?_)
      refine R.move (h := ?_)
      first | refine R.sub (h := ?_) | refine R.subW (h := ?_)
      refine R.move (h := ?_)
      refine R.move (h := ?_)
      first | refine R.sub (h := ?_) | refine R.subW (h := ?_)
      refine R.indexRs I36 (hj := fun hg => ⟨by omega, by rw [spsC_length]; omega⟩) (h := ?_)
      first | refine R.field F43_1 (h := ?_) | refine R.fieldAt F43_1 (h := ?_)
      refine R.loadRs1 O2 (acc.length - 1) 1 (ev := spC (lastS acc)) (hj := fun hg => ⟨lastS_at ha0, rfl⟩) (hoff := by omega) (h := ?_)
      first | refine R.field F43_1 (h := ?_) | refine R.fieldAt F43_1 (h := ?_)
      first | refine R.loadB O2 (h := ?_) | refine R.load1 O2 (h := ?_)
      refine R.maxI (h := ?_)
      refine R.indexRs I36 (hj := fun hg => ⟨by omega, by rw [spsC_length]; omega⟩) (h := ?_)
      first | refine R.field F43_1 (h := ?_) | refine R.fieldAt F43_1 (h := ?_)
      refine R.storeRs1 O2 (acc.length - 1) 1 (spC (lastS acc)) (hj := lastS_at ha0) (hoff := by omega) (h := ?_)
      rw [show (spC (lastS acc)).set 1 (SV.val (.int .i64 (max (lastS acc).2 s.2))) = spC ((lastS acc).1, max (lastS acc).2 s.2) from rfl, spsC_set]
      refine Reg.nil ⟨fun _ => ⟨mixedO, by rfl, by rfl⟩, ?_⟩
      refine LGo.exit rfl ?_
      refine LGo.region rfl ?_  -- region 10
      first | refine R.add (h := ?_) | refine R.addW (h := ?_)
      refine R.move (h := ?_)
      refine Reg.nil ⟨fun h => (by cases h), ?_⟩
      refine LGo.inLoop ?_
      exact LGo.turn [0, 1] (b := 0) (fun o h => by have := (hA o).1 h; omega) (ih (k + 1, acc.set (acc.length - 1) ((lastS acc).1, max (lastS acc).2 s.2)) ⟨hlt, by simp; omega, hq⟩ (by dsimp only; omega)) (by repeat (first | exact trivial | refine ⟨rfl, ?_⟩)) (by repeat (first | exact trivial | refine ⟨rfl, ?_⟩))
    · -- else 2
      rw [show uStep acc s = acc ++ [s] from if_neg (by rw [hc2]; simp)] at hq
      refine LGo.skip ?_
      refine LGo.region rfl ?_  -- region 9
      refine R.move (h := ?_)
      first | refine R.loadA A43 (h := ?_) | refine R.loadN A43 (h := ?_)
      refine R.buildSliceG AP36 (xs := [_]) (es := [_]) (ys := [spC s]) (hcs := CellsOfs.cons (CellsOf.agg rfl) CellsOfs.nil) (hys := rfl) (h := ?_)
      refine R.appendS AP36 (hs := SrcOk.sl Tryd.underlying36 (by simp; rfl)) (hlen := by simp [spsC_length]; omega) (h := ?_)
      rw [spsC_snoc]
      refine R.assign (h := ?_)
      refine Reg.nil ⟨fun h => (by cases h), ?_⟩
      refine LGo.inBlock ?_
      refine LGo.region rfl ?_  -- region 10
      first | refine R.add (h := ?_) | refine R.addW (h := ?_)
      refine R.move (h := ?_)
      refine Reg.nil ⟨fun h => (by cases h), ?_⟩
      refine LGo.inLoop ?_
      exact LGo.turn [0, 3] (b := 0) (fun o h => by have := (hA o).1 h; omega) (ih (k + 1, acc ++ [s]) ⟨hlt, by simp; omega, hq⟩ (by dsimp only; omega)) (by repeat (first | exact trivial | refine ⟨rfl, ?_⟩)) (by repeat (first | exact trivial | refine ⟨rfl, ?_⟩))
  · -- else 1
    obtain rfl : g = acc := by
      have hk' : k = zs.length := by omega
      subst hk'
      rw [List.drop_length] at hq
      rw [← e1, hq]; rfl
    refine LGo.exit rfl ?_
    refine LGo.seq ?_
    refine LGo.region rfl ?_  -- region 11
    refine R.move (h := ?_)
    refine R.assign (h := ?_)
    refine Reg.nil ⟨fun h => (by cases h), ?_⟩
    first | refine LGo.frzT 2 (h := ?_) | refine LGo.nilSl 2 2 (h := ?_) | skip
    exact LGo.ret (ret_T Tryd.results44 hA hmd)

theorem Union_P (l : List Sp) (hl : l.length ≤ 100000) : PC Tryd.prog 24 [.sv (.sl 2 (spsC l))] (.tup [.sv (.sl 2 (spsC (unionT l).1)), .i (unionT l).2]) := by
  refine ⟨LC.of_go Tryd.func24 (c := _) rfl (by kernel_rfl) (by rw [Tryd.ntmps24]; simp) rfl rfl (by simp [LO.lt, LV.lts, LV.lt]) (by simp) ?_⟩
  intro B hA hmd
  obtain ⟨g, e0⟩ : ∃ g, unionT l = g := ⟨_, rfl⟩
  have e1 := e0
  unfold unionT at e1
  rw [e0]
  refine LGo.seq ?_
  refine LGo.region rfl ?_  -- region 0
  refine R.assign (h := ?_)
  refine R.assign (h := ?_)
  refine Reg.nil ⟨fun h => (by cases h), ?_⟩
  refine LGo.seq ?_
  refine LGo.seq ?_
  refine LGo.region rfl ?_  -- region 1
  refine R.move (h := ?_)
  refine R.buildSliceF AP67 (rowsSp [l]) (xs := [_]) (es := [_]) (hcs := CellsOfs.cons (CellsOf.one rfl) CellsOfs.nil) (h := ?_)
  refine R.callP (es := [_]) (fun _ => checks_P [l] (by simp) (by simpa using hl)) (h := ?_)
  refine R.assign (h := ?_)
  refine Reg.nil ⟨fun h => (by cases h), ?_⟩
  refine LGo.seq ?_
  refine LGo.region rfl ?_  -- region 2
  refine R.move (h := ?_)
  refine R.bin (run_neq _ _ _ _ _ _) (h := ?_)
  refine Reg.nil ⟨fun h => (by cases h), ?_⟩
  refine LGo.ifb (ht := fun hc => ?_) (hf := fun hc => ?_)
  · -- then 1
    rw [if_pos hc] at e1; rw [← e1]
    refine LGo.seq ?_
    refine LGo.region rfl ?_  -- region 3
    refine R.move (h := ?_)
    refine R.assign (h := ?_)
    refine R.assign (h := ?_)
    refine Reg.nil ⟨fun h => (by cases h), ?_⟩
    first | refine LGo.frzT 2 (h := ?_) | refine LGo.nilSl 2 2 (h := ?_) | skip
    exact LGo.ret (ret_TT Tryd.results24 hA hmd)
  · -- else 1
    rw [if_neg (by rw [hc]; simp)] at e1; rw [← e1]
    refine LGo.skip ?_
    refine LGo.seq ?_
    refine LGo.region rfl ?_  -- region 4
    refine R.move (h := ?_)
    refine R.callP (es := [_]) (fun _ => union_P l hl) (h := ?_)
    refine R.assign (h := ?_)
    refine R.assign (h := ?_)
    refine Reg.nil ⟨fun h => (by cases h), ?_⟩
    first | refine LGo.frzT 2 (h := ?_) | refine LGo.nilSl 2 2 (h := ?_) | skip
    exact LGo.ret (ret_TT Tryd.results24 hA hmd)

theorem Total_P (l : List Sp) (hl : l.length ≤ 100000) : PC Tryd.prog 29 [.sv (.sl 2 (spsC l))] (.tup [.i (totT l).1, .i (totT l).2]) := by
  refine ⟨LC.of_go Tryd.func29 (c := _) rfl (by kernel_rfl) (by rw [Tryd.ntmps29]; simp) rfl rfl (by simp [LO.lt, LV.lts, LV.lt]) (by simp) ?_⟩
  intro B hA hmd
  obtain ⟨g, e0⟩ : ∃ g, totT l = g := ⟨_, rfl⟩
  have e1 := e0
  unfold totT at e1
  rw [e0]
  have hul := unionS_len l
  refine LGo.seq ?_
  refine LGo.region rfl ?_  -- region 0
  refine R.assign (h := ?_)
  refine R.assign (h := ?_)
  refine Reg.nil ⟨fun h => (by cases h), ?_⟩
  refine LGo.seq ?_
  refine LGo.seq ?_
  refine LGo.region rfl ?_  -- region 1
  refine R.move (h := ?_)
  refine R.buildSliceF AP67 (rowsSp [l]) (xs := [_]) (es := [_]) (hcs := CellsOfs.cons (CellsOf.one rfl) CellsOfs.nil) (h := ?_)
  refine R.callP (es := [_]) (fun _ => checks_P [l] (by simp) (by simpa using hl)) (h := ?_)
  refine R.assign (h := ?_)
  refine Reg.nil ⟨fun h => (by cases h), ?_⟩
  refine LGo.seq ?_
  refine LGo.region rfl ?_  -- region 2
  refine R.move (h := ?_)
  refine R.bin (run_neq _ _ _ _ _ _) (h := ?_)
  refine Reg.nil ⟨fun h => (by cases h), ?_⟩
  refine LGo.ifb (ht := fun hc => ?_) (hf := fun hc => ?_)
  · -- then 1
    rw [if_pos hc] at e1; rw [← e1]
    refine LGo.seq ?_
    refine LGo.region rfl ?_  -- region 3
    refine R.move (h := ?_)
    refine R.assign (h := ?_)
    refine R.assign (h := ?_)
    refine Reg.nil ⟨fun h => (by cases h), ?_⟩
    exact LGo.ret (ret_TT Tryd.results29 hA hmd)
  · -- else 1
    rw [if_neg (by rw [hc]; simp)] at e1; rw [← e1]
    refine LGo.skip ?_
    refine LGo.seq ?_
    refine LGo.seq ?_
    refine LGo.region rfl ?_  -- region 4
    refine R.move (h := ?_)
    refine R.callP (es := [_]) (fun _ => union_P l hl) (h := ?_)
    generalize unionS l = zs at *
    first | refine R.len S36 (h := ?_) | refine R.lenRs S36 (h := ?_) | refine R.lenV (run_lenNil S36) (h := ?_)
    rw [spsC_length]
    refine R.move (h := ?_)
    refine Reg.nil ⟨fun h => (by cases h), ?_⟩
    refine LGo.block ?_
    refine LGo.loop ?_
    refine LGo.loopG (σ := Nat × Int) (fun x => x.1 ≤ zs.length ∧ totGo 0 zs = totGo x.2 (zs.drop x.1)) (fun x => [(16, (true, .i (x.1 : Nat))), (2, (true, .i x.2))]) (fun x => []) (fun x => zs.length - x.1) ((0, 0)) [(14, _), (15, _)] ⟨by simp, by simp⟩ (by repeat (first | exact trivial | refine ⟨rfl, ?_⟩)) (by repeat (first | exact trivial | refine ⟨rfl, ?_⟩)) (by repeat (first | exact trivial | refine ⟨rfl, ?_⟩)) ?_
    rintro ⟨k, n⟩ ⟨hk, hq⟩ ih
    dsimp only at * 
    refine LGo.seq ?_
    refine LGo.region rfl ?_  -- region 5
    refine R.bin (run_lss _ _ _ _ _ _) (h := ?_)
    refine Reg.nil ⟨fun h => (by cases h), ?_⟩
    refine LGo.seq ?_
    refine LGo.ifd (ht := fun hc2 => ?_) (hf := fun hc2 => ?_)
    · -- then 2
      have hlt : k < zs.length := by omega
      have hx : (spsC zs)[((k : Nat) : Int).toNat]? = some (spC zs[k]) := by simp [spsC, hlt]
      rw [List.drop_eq_getElem_cons hlt] at hq
      generalize zs[k] = s at hx hq
      simp only [totGo, List.foldl_cons] at hq
      refine LGo.skip ?_
      refine LGo.seq ?_
      refine LGo.block ?_
      refine LGo.seq ?_
      refine LGo.region rfl ?_  -- region 6
      refine R.index I36 (hj := fun hg => ⟨by omega, hx⟩) (h := ?_)
      first | refine R.loadA A43 (h := ?_) | refine R.loadN A43 (h := ?_)
      refine R.alloc Z43 (h := ?_)
      refine R.storeA A43 (h := ?_)
      refine Reg.nil ⟨fun h => (by cases h), ?_⟩
      refine LGo.region rfl ?_  -- region 7
      refine R.move (h := ?_)
      first | refine R.field F43_1 (h := ?_) | refine R.fieldAt F43_1 (h := ?_)
      first | refine R.loadB O2 (h := ?_) | refine R.load1 O2 (h := ?_)
      first | refine R.field F43_0 (h := ?_) | refine R.fieldAt F43_0 (h := ?_)
      first | refine R.loadB O2 (h := ?_) | refine R.load1 O2 (h := ?_)
      refine R.subW (h := ?_)
      refine R.addW (h := ?_)
      refine R.assign (h := ?_)
      refine Reg.nil ⟨fun h => (by cases h), ?_⟩
      refine LGo.inBlock ?_
      refine LGo.region rfl ?_  -- region 8
      first | refine R.add (h := ?_) | refine R.addW (h := ?_)
      refine R.move (h := ?_)
      refine Reg.nil ⟨fun h => (by cases h), ?_⟩
      refine LGo.inLoop ?_
      exact LGo.next _ (fun o h => by have := (hA o).1 h; omega) (by omega) (ih (k + 1, IntKind.i64.wrap (n + IntKind.i64.wrap (s.2 - s.1))) ⟨hlt, hq⟩ (by dsimp only; omega)) (by repeat (first | exact trivial | refine ⟨rfl, ?_⟩)) (by repeat (first | exact trivial | refine ⟨rfl, ?_⟩))
    · -- else 2
      obtain rfl : totGo 0 zs = n := by
        have hk' : k = zs.length := by omega
        subst hk'
        rw [List.drop_length] at hq
        exact hq
      refine LGo.exit rfl ?_
      refine LGo.seq ?_
      refine LGo.region rfl ?_  -- region 9
      refine R.move (h := ?_)
      refine R.assign (h := ?_)
      refine R.assign (h := ?_)
      refine Reg.nil ⟨fun h => (by cases h), ?_⟩
      exact LGo.ret (ret_TT Tryd.results29 hA hmd)

end Go.Proofs.YtcekeipkofblmaaDoor
