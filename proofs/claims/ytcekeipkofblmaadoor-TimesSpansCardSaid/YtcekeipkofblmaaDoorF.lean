/- times: Minus. -/
import Derived.Test.YtcekeipkofblmaaDoorE
set_option linter.unusedSimpArgs false
set_option linter.unusedVariables false
namespace Go.Proofs.YtcekeipkofblmaaDoor

theorem Minus_P (a b : List Sp) (ha : a.length ≤ 100000) (hb : b.length ≤ 100000) : PC Tryd.prog 25 [.sv (.sl 2 (spsC a)), .sv (.sl 2 (spsC b))] (.tup [.sv (.sl 2 (spsC (minusT a b).1)), .i (minusT a b).2]) := by
  refine ⟨LC.of_go Tryd.func25 (c := _) rfl (by kernel_rfl) (by rw [Tryd.ntmps25]; simp) rfl rfl (by simp [LO.lt, LV.lts, LV.lt]) (by simp) ?_⟩
  intro B hA hmd
  obtain ⟨g, e0⟩ : ∃ g, minusT a b = g := ⟨_, rfl⟩
  have e1 := e0
  unfold minusT at e1
  rw [e0]
  obtain ⟨F, hF0, hFs, hFb⟩ : ∃ F : Nat → Nat, F 0 = 0 ∧ (∀ k, F (k + 1) = F k + 100001) ∧ ∀ k, k ≤ 100000 → F k ≤ 10000100000 := ⟨fun k => k * 100001, by simp, fun k => by dsimp only; omega, fun k h => by dsimp only; omega⟩
  unfold minusS at e1
  have hua := unionS_len a
  have hub := unionS_len b
  refine LGo.seq ?_
  refine LGo.region rfl ?_  -- region 0
  refine R.assign (h := ?_)
  refine R.assign (h := ?_)
  refine Reg.nil ⟨fun h => (by cases h), ?_⟩
  refine LGo.seq ?_
  refine LGo.seq ?_
  refine LGo.region rfl ?_  -- region 1
  refine R.move (h := ?_)
  refine R.move (h := ?_)
  refine R.buildSliceF AP67 (rowsSp [a, b]) (xs := [_, _]) (es := [_, _]) (hcs := CellsOfs.cons (CellsOf.one rfl) (CellsOfs.cons (CellsOf.one rfl) CellsOfs.nil)) (h := ?_)
  refine R.callP (es := [_]) (fun _ => checks_P [a, b] (by simp) (by simpa using ⟨ha, hb⟩)) (h := ?_)
  refine R.assign (h := ?_)
  refine Reg.nil ⟨fun h => (by cases h), ?_⟩
  refine LGo.seq ?_
  refine LGo.region rfl ?_  -- region 2
  refine R.move (h := ?_)
  refine R.bin (run_neq _ _ _ _ _ _) (h := ?_)
  refine Reg.nil ⟨fun h => (by cases h), ?_⟩
  refine LGo.ifb (ht := fun hc => ?_) (hf := fun hc => ?_)
  · -- then 1
    rw [if_pos hc] at e1; rw [← e1]
    refine LGo.seq ?_
    refine LGo.region rfl ?_  -- region 3
    refine R.move (h := ?_)
    refine R.assign (h := ?_)
    refine R.assign (h := ?_)
    refine Reg.nil ⟨fun h => (by cases h), ?_⟩
    first | refine LGo.frzT 4 (h := ?_) | refine LGo.nilSl 4 2 (h := ?_) | skip
    exact LGo.ret (ret_TT Tryd.results25 hA hmd)
  · -- else 1
    rw [if_neg (by rw [hc]; simp)] at e1
    refine LGo.skip ?_
    refine LGo.seq ?_
    refine LGo.region rfl ?_  -- region 4
    refine R.assign (h := ?_)
    refine Reg.nil ⟨fun h => (by cases h), ?_⟩
    refine LGo.seq ?_
    refine LGo.region rfl ?_  -- region 5
    refine R.move (h := ?_)
    refine R.callP (es := [_]) (fun _ => union_P b hb) (h := ?_)
    refine R.assign (h := ?_)
    refine Reg.nil ⟨fun h => (by cases h), ?_⟩
    refine LGo.seq ?_
    refine LGo.seq ?_
    refine LGo.region rfl ?_  -- region 6
    refine R.move (h := ?_)
    refine R.callP (es := [_]) (fun _ => union_P a ha) (h := ?_)
    generalize unionS a = zs at *
    generalize unionS b = hs at *
    first | refine R.len S36 (h := ?_) | refine R.lenRs S36 (h := ?_) | refine R.lenV (run_lenNil S36) (h := ?_)
    rw [spsC_length]
    refine R.move (h := ?_)
    refine Reg.nil ⟨fun h => (by cases h), ?_⟩
    refine LGo.block ?_
    refine LGo.loop ?_
    refine LGo.nilRs 7 43 2 (h := ?_)
    refine LGo.loopG (σ := Nat × List Sp) (fun x => x.1 ≤ zs.length ∧ x.2.length ≤ F x.1 ∧ zs.foldl (spanStep hs) [] = (zs.drop x.1).foldl (spanStep hs) x.2) (fun x => [(25, (true, .i (x.1 : Nat))), (7, (true, .ref 0))]) (fun x => [(0, .rs 43 2 (spsC x.2))]) (fun x => zs.length - x.1) ((0, [])) [(8, _), (23, _), (24, _)] ⟨by simp, by simp, by simp⟩ (by repeat (first | exact trivial | refine ⟨rfl, ?_⟩)) (by repeat (first | exact trivial | refine ⟨rfl, ?_⟩)) (by repeat (first | exact trivial | refine ⟨rfl, ?_⟩)) ?_
    rintro ⟨k, acc⟩ ⟨hk, hal, hq⟩ ih
    dsimp only at * 
    refine LGo.seq ?_
    refine LGo.region rfl ?_  -- region 7
    refine R.bin (run_lss _ _ _ _ _ _) (h := ?_)
    refine Reg.nil ⟨fun h => (by cases h), ?_⟩
    refine LGo.seq ?_
    refine LGo.ifd (ht := fun hc2 => ?_) (hf := fun hc2 => ?_)
    · -- then 2
      have hfk := hFb k (by omega)
      have hfs := hFs k
      have hlts : k < zs.length := by omega
      have hx : (spsC zs)[((k : Nat) : Int).toNat]? = some (spC zs[k]) := by simp [spsC, hlts]
      rw [List.drop_eq_getElem_cons hlts] at hq
      generalize zs[k] = s at hx hq
      simp only [List.foldl_cons] at hq
      refine LGo.skip ?_
      refine LGo.seq ?_
      refine LGo.block ?_
      refine LGo.seq ?_
      refine LGo.region rfl ?_  -- region 8
      refine R.index I36 (hj := fun hg => ⟨by omega, hx⟩) (h := ?_)
      first | refine R.loadA A43 (h := ?_) | refine R.loadN A43 (h := ?_)
      refine R.alloc Z43 (h := ?_)
      refine R.storeA A43 (h := ?_)
      refine Reg.nil ⟨fun h => (by cases h), ?_⟩
      refine LGo.seq ?_
      refine LGo.seq ?_
      refine LGo.region rfl ?_  -- region 9
      refine R.move (h := ?_)
      first | refine R.len S36 (h := ?_) | refine R.lenRs S36 (h := ?_) | refine R.lenV (run_lenNil S36) (h := ?_)
      rw [spsC_length]
      refine R.move (h := ?_)
      refine Reg.nil ⟨fun h => (by cases h), ?_⟩
      refine LGo.block ?_
      refine LGo.loop ?_
      refine LGo.loopG (σ := Nat × Int × Int × List Sp) (fun x => x.1 ≤ hs.length ∧ x.2.2.2.length ≤ F k + x.1 ∧ hs.foldl cutStep (s, acc) = (hs.drop x.1).foldl cutStep ((x.2.1, x.2.2.1), x.2.2.2)) (fun x => [(31, (true, .i (x.1 : Nat))), (7, (true, .ref 0))]) (fun x => [(0, .rs 43 2 (spsC x.2.2.2)), (1, .box 43 [.i x.2.1, .i x.2.2.1])]) (fun x => hs.length - x.1) ((0, s.1, s.2, acc)) [(8, _), (10, _), (23, _), (24, _), (25, _), (29, _), (30, _)] ⟨by simp, by simp; omega, by simp⟩ (by repeat (first | exact trivial | refine ⟨rfl, ?_⟩)) (by repeat (first | exact trivial | refine ⟨rfl, ?_⟩)) (by repeat (first | exact trivial | refine ⟨rfl, ?_⟩)) ?_
      rintro ⟨j, s1, s2, bs⟩ ⟨hj, hbl, hr⟩ ih2
      dsimp only at * 
      refine LGo.seq ?_
      refine LGo.region rfl ?_  -- region 10
      refine R.bin (run_lss _ _ _ _ _ _) (h := ?_)
      refine Reg.nil ⟨fun h => (by cases h), ?_⟩
      refine LGo.seq ?_
      refine LGo.ifd (ht := fun hc3 => ?_) (hf := fun hc3 => ?_)
      · -- then 3
        have hltt : j < hs.length := by omega
        have hy : (spsC hs)[((j : Nat) : Int).toNat]? = some (spC hs[j]) := by simp [spsC, hltt]
        rw [List.drop_eq_getElem_cons hltt] at hr
        generalize hs[j] = t at hy hr
        simp only [List.foldl_cons] at hr
        refine LGo.skip ?_
        refine LGo.seq ?_
        refine LGo.block ?_
        refine LGo.seq ?_
        refine LGo.region rfl ?_  -- region 11
        refine R.index I36 (hj := fun hg => ⟨by omega, hy⟩) (h := ?_)
        first | refine R.loadA A43 (h := ?_) | refine R.loadN A43 (h := ?_)
        refine R.alloc Z43 (h := ?_)
        refine R.storeA A43 (h := ?_)
        refine Reg.nil ⟨fun h => (by cases h), ?_⟩
        refine LGo.seq ?_
        refine LGo.seq ?_
        refine LGo.region rfl ?_  -- region 12
        first | refine R.field F43_1 (h := ?_) | refine R.fieldAt F43_1 (h := ?_)
        first | refine R.loadB O2 (h := ?_) | refine R.load1 O2 (h := ?_)
        first | refine R.field F43_0 (h := ?_) | refine R.fieldAt F43_0 (h := ?_)
        first | refine R.loadB O2 (h := ?_) | refine R.load1 O2 (h := ?_)
        refine R.bin (run_leq _ _ _ _ _ _) (h := ?_)
        refine R.move (h := ?_)
        first | refine R.field F43_0 (h := ?_) | refine R.fieldAt F43_0 (h := ?_)
        first | refine R.loadB O2 (h := ?_) | refine R.load1 O2 (h := ?_)
        first | refine R.field F43_1 (h := ?_) | refine R.fieldAt F43_1 (h := ?_)
        first | refine R.loadB O2 (h := ?_) | refine R.load1 O2 (h := ?_)
        refine R.bin (run_geq _ _ _ _ _ _) (h := ?_)
        refine R.or (h := ?_)
        refine Reg.nil ⟨fun h => (by cases h), ?_⟩
        refine LGo.ifb (ht := fun hc4 => ?_) (hf := fun hc4 => ?_)
        · -- then 4
          rw [show cutStep ((s1, s2), bs) t = ((s1, s2), bs) from if_pos hc4] at hr
          refine LGo.exit rfl ?_
          refine LGo.region rfl ?_  -- region 16
          first | refine R.add (h := ?_) | refine R.addW (h := ?_)
          refine R.move (h := ?_)
          refine Reg.nil ⟨fun h => (by cases h), ?_⟩
          refine LGo.inLoop ?_
          exact LGo.turn [0, 1] (b := 0) (fun o h => by have := (hA o).1 h; omega) (ih2 (j + 1, s1, s2, bs) ⟨hltt, by dsimp only; omega, hr⟩ (by dsimp only; omega)) (by repeat (first | exact trivial | refine ⟨rfl, ?_⟩)) (by repeat (first | exact trivial | refine ⟨rfl, ?_⟩))
        · -- else 4
          have ec : cutStep ((s1, s2), bs) t = ((min t.2 s2, s2), if s1 < t.1 then bs ++ [(s1, t.1)] else bs) := if_neg (by rw [hc4]; simp)
          rw [ec] at hr
          refine LGo.skip ?_
          refine LGo.seq ?_
          refine LGo.seq ?_
          refine LGo.region rfl ?_  -- region 13
          first | refine R.field F43_0 (h := ?_) | refine R.fieldAt F43_0 (h := ?_)
          first | refine R.loadB O2 (h := ?_) | refine R.load1 O2 (h := ?_)
          first | refine R.field F43_0 (h := ?_) | refine R.fieldAt F43_0 (h := ?_)
          first | refine R.loadB O2 (h := ?_) | refine R.load1 O2 (h := ?_)
          refine R.bin (run_gtr _ _ _ _ _ _) (h := ?_)
          refine Reg.nil ⟨fun h => (by cases h), ?_⟩
          refine LGo.ifd (ht := fun hc5 => ?_) (hf := fun hc5 => ?_)
          · -- then 5
            rw [if_pos hc5] at hr
            refine LGo.region rfl ?_  -- region 14
            refine R.move (h := ?_)
            first | refine R.field F43_0 (h := ?_) | refine R.fieldAt F43_0 (h := ?_)
            first | refine R.loadB O2 (h := ?_) | refine R.load1 O2 (h := ?_)
            first | refine R.field F43_0 (h := ?_) | refine R.fieldAt F43_0 (h := ?_)
            first | refine R.loadB O2 (h := ?_) | refine R.load1 O2 (h := ?_)
            refine R.build BF43 (is := [0, 1]) (xs := [_, _]) (es := [_, _]) (h := ?_)
            refine R.buildSliceG AP36 (xs := [_]) (es := [_]) (ys := [spC (s1, t.1)]) (hcs := CellsOfs.cons (CellsOf.agg rfl) CellsOfs.nil) (hys := rfl) (h := ?_)
            refine R.appendS AP36 (hs := SrcOk.sl Tryd.underlying36 (by simp; rfl)) (hlen := by simp [spsC_length]; omega) (h := ?_)
            rw [spsC_snoc]
            refine R.assign (h := ?_)
            refine Reg.nil ⟨fun h => (by cases h), ?_⟩
            refine LGo.region rfl ?_  -- region 15
            first | refine R.field F43_1 (h := ?_) | refine R.fieldAt F43_1 (h := ?_)
            first | refine R.loadB O2 (h := ?_) | refine R.load1 O2 (h := ?_)
            first | refine R.field F43_1 (h := ?_) | refine R.fieldAt F43_1 (h := ?_)
            first | refine R.loadB O2 (h := ?_) | refine R.load1 O2 (h := ?_)
            refine R.minI (h := ?_)
            first | refine R.field F43_0 (h := ?_) | refine R.fieldAt F43_0 (h := ?_)
            refine R.storeB O2 (h := ?_)
            refine Reg.nil ⟨fun h => (by cases h), ?_⟩
            refine LGo.inBlock ?_
            refine LGo.region rfl ?_  -- region 16
            first | refine R.add (h := ?_) | refine R.addW (h := ?_)
            refine R.move (h := ?_)
            refine Reg.nil ⟨fun h => (by cases h), ?_⟩
            refine LGo.inLoop ?_
            exact LGo.turn [3, 1] (b := 0) (fun o h => by have := (hA o).1 h; omega) (ih2 (j + 1, min t.2 s2, s2, bs ++ [(s1, t.1)]) ⟨hltt, by simp; omega, hr⟩ (by dsimp only; omega)) (by repeat (first | exact trivial | refine ⟨rfl, ?_⟩)) (by repeat (first | exact trivial | refine ⟨rfl, ?_⟩))
          · -- else 5
            rw [if_neg hc5] at hr
            refine LGo.skip ?_
            refine LGo.region rfl ?_  -- region 15
            first | refine R.field F43_1 (h := ?_) | refine R.fieldAt F43_1 (h := ?_)
            first | refine R.loadB O2 (h := ?_) | refine R.load1 O2 (h := ?_)
            first | refine R.field F43_1 (h := ?_) | refine R.fieldAt F43_1 (h := ?_)
            first | refine R.loadB O2 (h := ?_) | refine R.load1 O2 (h := ?_)
            refine R.minI (h := ?_)
            first | refine R.field F43_0 (h := ?_) | refine R.fieldAt F43_0 (h := ?_)
            refine R.storeB O2 (h := ?_)
            refine Reg.nil ⟨fun h => (by cases h), ?_⟩
            refine LGo.inBlock ?_
            refine LGo.region rfl ?_  -- region 16
            first | refine R.add (h := ?_) | refine R.addW (h := ?_)
            refine R.move (h := ?_)
            refine Reg.nil ⟨fun h => (by cases h), ?_⟩
            refine LGo.inLoop ?_
            exact LGo.turn [0, 1] (b := 0) (fun o h => by have := (hA o).1 h; omega) (ih2 (j + 1, min t.2 s2, s2, bs) ⟨hltt, by dsimp only; omega, hr⟩ (by dsimp only; omega)) (by repeat (first | exact trivial | refine ⟨rfl, ?_⟩)) (by repeat (first | exact trivial | refine ⟨rfl, ?_⟩))
      · -- else 3
        have hj' : j = hs.length := by omega
        subst hj'
        rw [List.drop_length] at hr
        have hr2 : hs.foldl cutStep (s, acc) = ((s1, s2), bs) := hr
        have es : spanStep hs acc s = if s1 < s2 then bs ++ [(s1, s2)] else bs := by unfold spanStep; rw [hr2]
        rw [es] at hq
        refine LGo.exit rfl ?_
        refine LGo.seq ?_
        refine LGo.region rfl ?_  -- region 17
        first | refine R.field F43_0 (h := ?_) | refine R.fieldAt F43_0 (h := ?_)
        first | refine R.loadB O2 (h := ?_) | refine R.load1 O2 (h := ?_)
        first | refine R.field F43_1 (h := ?_) | refine R.fieldAt F43_1 (h := ?_)
        first | refine R.loadB O2 (h := ?_) | refine R.load1 O2 (h := ?_)
        refine R.bin (run_lss _ _ _ _ _ _) (h := ?_)
        refine Reg.nil ⟨fun h => (by cases h), ?_⟩
        refine LGo.ifd (ht := fun hc6 => ?_) (hf := fun hc6 => ?_)
        · -- then 6
          rw [if_pos hc6] at hq
          refine LGo.region rfl ?_  -- region 18
          refine R.move (h := ?_)
          first | refine R.loadA A43 (h := ?_) | refine R.loadN A43 (h := ?_)
          refine R.buildSliceG AP36 (xs := [_]) (es := [_]) (ys := [spC (s1, s2)]) (hcs := CellsOfs.cons (CellsOf.agg rfl) CellsOfs.nil) (hys := rfl) (h := ?_)
          refine R.appendS AP36 (hs := SrcOk.sl Tryd.underlying36 (by simp; rfl)) (hlen := by simp [spsC_length]; omega) (h := ?_)
          rw [spsC_snoc]
          refine R.assign (h := ?_)
          refine Reg.nil ⟨fun h => (by cases h), ?_⟩
          refine LGo.inBlock ?_
          refine LGo.region rfl ?_  -- region 19
          first | refine R.add (h := ?_) | refine R.addW (h := ?_)
          refine R.move (h := ?_)
          refine Reg.nil ⟨fun h => (by cases h), ?_⟩
          refine LGo.inLoop ?_
          exact LGo.turn [2] (b := 0) (fun o h => by have := (hA o).1 h; omega) (ih (k + 1, bs ++ [(s1, s2)]) ⟨hlts, by simp; omega, hq⟩ (by dsimp only; omega)) (by repeat (first | exact trivial | refine ⟨rfl, ?_⟩)) (by repeat (first | exact trivial | refine ⟨rfl, ?_⟩))
        · -- else 6
          rw [if_neg hc6] at hq
          refine LGo.skip ?_
          refine LGo.inBlock ?_
          refine LGo.region rfl ?_  -- region 19
          first | refine R.add (h := ?_) | refine R.addW (h := ?_)
          refine R.move (h := ?_)
          refine Reg.nil ⟨fun h => (by cases h), ?_⟩
          refine LGo.inLoop ?_
          exact LGo.turn [0] (b := 0) (fun o h => by have := (hA o).1 h; omega) (ih (k + 1, bs) ⟨hlts, by dsimp only; omega, hq⟩ (by dsimp only; omega)) (by repeat (first | exact trivial | refine ⟨rfl, ?_⟩)) (by repeat (first | exact trivial | refine ⟨rfl, ?_⟩))
    · -- else 2
      obtain rfl : g = (acc, 0) := by
        have hk' : k = zs.length := by omega
        subst hk'
        rw [List.drop_length] at hq
        rw [← e1, hq]; rfl
      refine LGo.exit rfl ?_
      refine LGo.seq ?_
      refine LGo.region rfl ?_  -- region 20
      refine R.move (h := ?_)
      refine R.assign (h := ?_)
      refine R.assign (h := ?_)
      refine Reg.nil ⟨fun h => (by cases h), ?_⟩
      first | refine LGo.frzT 4 (h := ?_) | refine LGo.nilSl 4 2 (h := ?_) | skip
      exact LGo.ret (ret_TT Tryd.results25 hA hmd)

end Go.Proofs.YtcekeipkofblmaaDoor
