/- responses: the law ResponsesAnswer (walk). -/
import Derived.Test.YtcobkjognpjikaaDoorX1
import Derived.Test.YtcobkjognpjikaaDoorPE
set_option linter.unusedSimpArgs false
set_option linter.unusedVariables false
namespace Go.Proofs.YtcobkjognpjikaaDoor

theorem ofS_ok {q : Rq} (hq : RqOk q) {x : Mr} (hx : MrOk x) {s t : List UInt8} (hs : s.length ≤ 1000 ∧ t.length ≤ 1000) : RsOk (ofS q x s t).1 := by
  have hz : RsOk zeroS := zeroS_ok (k := 0) (by simp [R64])
  have h1 : RsOk { zeroS with kind := q.kind, id := q.id, err := x.err } := { zeroS_ok hq.kind with id := hq.id, err := hx.err }
  unfold ofS refusedS
  repeat' split
  all_goals first | exact hz | exact h1 | exact ofR_ok hq hx hs
theorem answerO {q : Rq} (hq : RqOk q) {r : Rs} {a b c d e f g h i : Int} {s' t' : List UInt8} (hx' : MrOk ⟨a, b, c, d, e, f, g, h, i⟩) (hs' : s'.length ≤ 1000 ∧ t'.length ≤ 1000) (hu : ofS q ⟨a, b, c, d, e, f, g, h, i⟩ s' t' = (r, 0)) :
    PC Tryd.prog 18 [.agg (q.c.map LV.sv), .agg ((⟨a, b, c, d, e, f, g, h, i⟩ : Mr).c.map LV.sv), .t s', .t t'] (.tup [.agg (r.c.map LV.sv), .i 0]) := by
  have := ofS_P q hq ⟨a, b, c, d, e, f, g, h, i⟩ hx' s' t' hs'
  rw [hu] at this
  exact this

theorem lawAnswer_P (q : Rq) (hq : RqOk q) (u y : Md) (hx : MrOk u.rp) (hy : MrOk y.rp) : PC Tryd.prog 8 [.agg (q.c.map LV.sv), .agg (u.c.map LV.sv), .agg (y.c.map LV.sv)] (.b true) := by
  refine ⟨LC.of_go Tryd.func8 (c := _) rfl (by kernel_rfl) (by rw [Tryd.ntmps8]; simp) rfl rfl (by simp [LO.lt, LV.lts, LV.lt]) (by simp) ?_⟩
  intro B hA hmd
  refine LGo.seq ?_
  refine LGo.region rfl ?_  -- region 0
  refine R.box (h := ?_)
  refine R.box (h := ?_)
  refine R.box (h := ?_)
  refine R.assign (h := ?_)
  refine Reg.nil ⟨fun h => (by cases h), ?_⟩
  refine LGo.seq ?_
  refine LGo.seq ?_
  refine LGo.region rfl ?_  -- region 1
  first | refine R.field F37_4 (h := ?_) | refine R.fieldAt F37_4 (h := ?_)
  first | refine R.loadB O9 (h := ?_) | refine R.load1 O9 (h := ?_)
  refine R.lenT Tryd.runUnderlying9 (h := ?_)
  refine R.bin (run_gtr _ _ _ _ _ _) (h := ?_)
  refine R.move (h := ?_)
  first | refine R.field F37_5 (h := ?_) | refine R.fieldAt F37_5 (h := ?_)
  first | refine R.loadB O9 (h := ?_) | refine R.load1 O9 (h := ?_)
  refine R.lenT Tryd.runUnderlying9 (h := ?_)
  refine R.bin (run_gtr _ _ _ _ _ _) (h := ?_)
  refine R.or (h := ?_)
  refine R.move (h := ?_)
  first | refine R.field F43_1 (h := ?_) | refine R.fieldAt F43_1 (h := ?_)
  first | refine R.loadB O9 (h := ?_) | refine R.load1 O9 (h := ?_)
  refine R.lenT Tryd.runUnderlying9 (h := ?_)
  refine R.bin (run_gtr _ _ _ _ _ _) (h := ?_)
  refine R.or (h := ?_)
  refine R.move (h := ?_)
  first | refine R.field F43_2 (h := ?_) | refine R.fieldAt F43_2 (h := ?_)
  first | refine R.loadB O9 (h := ?_) | refine R.load1 O9 (h := ?_)
  refine R.lenT Tryd.runUnderlying9 (h := ?_)
  refine R.bin (run_gtr _ _ _ _ _ _) (h := ?_)
  refine R.or (h := ?_)
  refine R.move (h := ?_)
  first | refine R.field F43_1 (h := ?_) | refine R.fieldAt F43_1 (h := ?_)
  first | refine R.loadB O9 (h := ?_) | refine R.load1 O9 (h := ?_)
  refine R.lenT Tryd.runUnderlying9 (h := ?_)
  refine R.bin (run_gtr _ _ _ _ _ _) (h := ?_)
  refine R.or (h := ?_)
  refine R.move (h := ?_)
  first | refine R.field F43_2 (h := ?_) | refine R.fieldAt F43_2 (h := ?_)
  first | refine R.loadB O9 (h := ?_) | refine R.load1 O9 (h := ?_)
  refine R.lenT Tryd.runUnderlying9 (h := ?_)
  refine R.bin (run_gtr _ _ _ _ _ _) (h := ?_)
  refine R.or (h := ?_)
  refine Reg.nil ⟨fun h => (by cases h), ?_⟩
  refine LGo.ifb (ht := fun hc => ?_) (hf := fun hc => ?_)
  · -- then 1
    refine LGo.seq ?_
    refine LGo.region rfl ?_  -- region 2
    refine R.callP (es := []) (fun _ => shown_P) (h := ?_)
    refine R.assign (h := ?_)
    refine Reg.nil ⟨fun h => (by cases h), ?_⟩
    exact LGo.ret (ret_T Tryd.results8 hA hmd)
  · -- else 1
    have hs : (u.ses.length ≤ 1000 ∧ u.tic.length ≤ 1000) ∧ (y.ses.length ≤ 1000 ∧ y.tic.length ≤ 1000) := by simp at hc; omega
    obtain ⟨r, e, hre⟩ : ∃ r e, ofS q u.rp u.ses u.tic = (r, e) := ⟨_, _, rfl⟩
    have hO := ofS_P q hq u.rp hx u.ses u.tic hs.1
    have hr := ofS_ok hq hx hs.1
    rw [hre] at hO hr
    dsimp only at hO hr
    refine LGo.skip ?_
    refine LGo.seq ?_
    refine LGo.region rfl ?_  -- region 3
    first | refine R.loadA A37 (h := ?_) | refine R.loadN A37 (h := ?_) | refine R.loadP A37 (h := ?_)
    first | refine R.field F43_0 (h := ?_) | refine R.fieldAt F43_0 (h := ?_)
    first | refine R.loadA A41 (h := ?_) | refine R.loadN A41 (h := ?_) | refine R.loadP A41 (h := ?_)
    first | refine R.field F43_1 (h := ?_) | refine R.fieldAt F43_1 (h := ?_)
    first | refine R.loadB O9 (h := ?_) | refine R.load1 O9 (h := ?_)
    first | refine R.field F43_2 (h := ?_) | refine R.fieldAt F43_2 (h := ?_)
    first | refine R.loadB O9 (h := ?_) | refine R.load1 O9 (h := ?_)
    refine R.callP (es := [_, _, _, _]) (fun _ => hO) (h := ?_)
    refine R.move (h := ?_)
    refine R.extract (h := ?_)
    refine R.extract (h := ?_)
    refine R.alloc Z25 (h := ?_)
    refine R.storeA A25 (h := ?_)
    refine R.assign (h := ?_)
    refine Reg.nil ⟨fun h => (by cases h), ?_⟩
    refine LGo.seq ?_
    refine LGo.seq ?_
    refine LGo.region rfl ?_  -- region 4
    refine R.move (h := ?_)
    refine R.bin (run_neq _ _ _ _ _ _) (h := ?_)
    refine Reg.nil ⟨fun h => (by cases h), ?_⟩
    refine LGo.ifb (ht := fun hc2 => ?_) (hf := fun hc2 => ?_)
    · -- then 2
      obtain rfl := of_bad hre (by simpa using hc2)
      refine LGo.seq ?_
      refine LGo.region rfl ?_  -- region 5
      first | refine R.loadA A25 (h := ?_) | refine R.loadN A25 (h := ?_) | refine R.loadP A25 (h := ?_)
      refine R.build BF25 (is := []) (xs := []) (es := []) (h := ?_)
      refine R.binA (EQ25 _ _ _ _ _ _ _ _ _ _ _ _ _ _ _ _ _ _ _ _) (h := ?_)
      refine R.move (h := ?_)
      refine R.callP (es := []) (fun _ => shown_P) (h := ?_)
      refine R.and (h := ?_)
      refine R.assign (h := ?_)
      refine Reg.nil ⟨fun h => (by cases h), ?_⟩
      refine LGo.tru 6 (hb := by simp [zeroS]) (h := ?_)
      exact LGo.ret (ret_T Tryd.results8 hA hmd)
    · -- else 2
      obtain rfl : e = 0 := by simpa using hc2
      obtain ⟨f1, f2, f3, f4, f5⟩ := of_facts hx hre
      have hC := checkS_P r hr
      have hQ := refCheckQ_P q hq
      rw [f5] at hC
      rw [← checkQ_eq q hq, f1] at hQ
      refine LGo.skip ?_
      refine LGo.seq ?_
      refine LGo.seq ?_
      refine LGo.region rfl ?_  -- region 6
      first | refine R.loadA A37 (h := ?_) | refine R.loadN A37 (h := ?_) | refine R.loadP A37 (h := ?_)
      refine R.callP (es := [_]) (fun _ => hQ) (h := ?_)
      refine R.bin (run_neq _ _ _ _ _ _) (h := ?_)
      refine R.move (h := ?_)
      first | refine R.field F25_0 (h := ?_) | refine R.fieldAt F25_0 (h := ?_)
      first | refine R.loadB O3 (h := ?_) | refine R.load1 O3 (h := ?_)
      first | refine R.field F37_0 (h := ?_) | refine R.fieldAt F37_0 (h := ?_)
      first | refine R.loadB O3 (h := ?_) | refine R.load1 O3 (h := ?_)
      refine R.bin (run_neq _ _ _ _ _ _) (h := ?_)
      refine R.or (h := ?_)
      refine R.move (h := ?_)
      first | refine R.field F25_1 (h := ?_) | refine R.fieldAt F25_1 (h := ?_)
      first | refine R.loadB O22 (h := ?_) | refine R.load1 O22 (h := ?_)
      first | refine R.field F37_1 (h := ?_) | refine R.fieldAt F37_1 (h := ?_)
      first | refine R.loadB O22 (h := ?_) | refine R.load1 O22 (h := ?_)
      refine R.bin (run_neq _ _ _ _ _ _) (h := ?_)
      refine R.or (h := ?_)
      refine R.move (h := ?_)
      first | refine R.field F25_2 (h := ?_) | refine R.fieldAt F25_2 (h := ?_)
      first | refine R.loadB O23 (h := ?_) | refine R.load1 O23 (h := ?_)
      first | refine R.field F43_0 (h := ?_) | refine R.fieldAt F43_0 (h := ?_)
      first | refine R.field F41_0 (h := ?_) | refine R.fieldAt F41_0 (h := ?_)
      first | refine R.loadB O23 (h := ?_) | refine R.load1 O23 (h := ?_)
      refine R.bin (run_neq _ _ _ _ _ _) (h := ?_)
      refine R.or (h := ?_)
      refine R.move (h := ?_)
      first | refine R.loadA A25 (h := ?_) | refine R.loadN A25 (h := ?_) | refine R.loadP A25 (h := ?_)
      refine R.callP (es := [_]) (fun _ => hC) (hes := fun h => by rw [List.map_cons, List.map_nil, entLV_eq h]) (h := ?_)
      refine R.bin (run_neq _ _ _ _ _ _) (h := ?_)
      refine R.or (h := ?_)
      refine Reg.nil ⟨fun h => (by cases h), ?_⟩
      refine LGo.ifb (ht := fun hc3 => ?_) (hf := fun hc3 => ?_)
      · -- then 3
        exfalso; simp [f2, f3, f4] at hc3 -- END
      · -- else 3
        refine LGo.skip ?_
        refine LGo.seq ?_
        refine LGo.region rfl ?_  -- region 8
        first | refine R.loadA A43 (h := ?_) | refine R.loadN A43 (h := ?_) | refine R.loadP A43 (h := ?_)
        refine R.alloc Z43 (h := ?_)
        refine R.storeA A43 (h := ?_)
        refine Reg.nil ⟨fun h => (by cases h), ?_⟩
        refine LGo.seq ?_
        refine LGo.region rfl ?_  -- region 9
        first | refine R.field F43_0 (h := ?_) | refine R.fieldAt F43_0 (h := ?_)
        first | refine R.field F41_0 (h := ?_) | refine R.fieldAt F41_0 (h := ?_)
        first | refine R.loadB O23 (h := ?_) | refine R.load1 O23 (h := ?_)
        first | refine R.field F43_0 (h := ?_) | refine R.fieldAt F43_0 (h := ?_)
        first | refine R.field F41_0 (h := ?_) | refine R.fieldAt F41_0 (h := ?_)
        refine R.storeB O23 (h := ?_)
        refine Reg.nil ⟨fun h => (by cases h), ?_⟩
        refine LGo.seq ?_
        refine LGo.seq ?_
        refine LGo.region rfl ?_  -- region 10
        first | refine R.field F25_3 (h := ?_) | refine R.fieldAt F25_3 (h := ?_)
        first | refine R.loadB O9 (h := ?_) | refine R.load1 O9 (h := ?_)
        refine R.bin (run_neqT _ _ _ _ _) (h := ?_)
        refine Reg.nil ⟨fun h => (by cases h), ?_⟩
        refine LGo.cut (σ := List UInt8) (fun x => (r.ses ≠ [] → x = u.ses) ∧ x.length ≤ 1000) (fun x => []) (fun x => [(4, .box 43 ((⟨⟨u.rp.err, y.rp.seat, y.rp.n, y.rp.dl, y.rp.tseat, y.rp.town, y.rp.tser, y.rp.tep, y.rp.place⟩, x, y.tic⟩ : Md).c.map LV.sv)), (3, .box 25 (r.c.map LV.sv)), (2, .box 43 (y.c.map LV.sv)), (1, .box 43 (u.c.map LV.sv)), (0, .box 37 (q.c.map LV.sv))]) 5 [(3, _), (4, _), (7, _), (9, _)] (by repeat (first | exact trivial | refine ⟨rfl, ?_⟩)) ?_ (fun hcut => ?_)
        · -- the cond C4
          rintro s ⟨s1, s2⟩
          refine LGo.seq ?_
          refine LGo.seq ?_
          refine LGo.region rfl ?_  -- region 12
          first | refine R.field F25_4 (h := ?_) | refine R.fieldAt F25_4 (h := ?_)
          first | refine R.loadB O9 (h := ?_) | refine R.load1 O9 (h := ?_)
          refine R.bin (run_neqT _ _ _ _ _) (h := ?_)
          refine Reg.nil ⟨fun h => (by cases h), ?_⟩
          refine LGo.cut (σ := List UInt8) (fun x => (r.tic ≠ [] → x = u.tic) ∧ x.length ≤ 1000) (fun x => []) (fun x => [(4, .box 43 ((⟨⟨u.rp.err, y.rp.seat, y.rp.n, y.rp.dl, y.rp.tseat, y.rp.town, y.rp.tser, y.rp.tep, y.rp.place⟩, s, x⟩ : Md).c.map LV.sv)), (3, .box 25 (r.c.map LV.sv)), (2, .box 43 (y.c.map LV.sv)), (1, .box 43 (u.c.map LV.sv)), (0, .box 37 (q.c.map LV.sv))]) 5 [(3, _), (4, _), (7, _), (9, _)] (by repeat (first | exact trivial | refine ⟨rfl, ?_⟩)) ?_ (fun hcut => ?_)
          · -- the cond C5
            rintro t ⟨t1, t2⟩
            refine LGo.seq ?_
            refine LGo.seq ?_
            refine LGo.region rfl ?_  -- region 14
            first | refine R.field F37_0 (h := ?_) | refine R.fieldAt F37_0 (h := ?_)
            first | refine R.loadB O3 (h := ?_) | refine R.load1 O3 (h := ?_)
            refine Reg.nil ⟨fun h => (by cases h), ?_⟩
            refine LGo.cut (σ := Int × Int × Int × Int) (fun x => (q.kind = 1 ∨ q.kind = 2 ∨ q.kind = 3 → x.2.2.1 = u.rp.dl) ∧ (q.kind = 3 → x.1 = u.rp.seat ∧ x.2.1 = u.rp.n) ∧ (q.kind = 10 → x.2.2.2 = u.rp.place) ∧ R64 x.1 ∧ R64 x.2.1 ∧ R64 x.2.2.1 ∧ R64 x.2.2.2) (fun x => []) (fun x => [(4, .box 43 ((⟨⟨u.rp.err, x.1, x.2.1, x.2.2.1, y.rp.tseat, y.rp.town, y.rp.tser, y.rp.tep, x.2.2.2⟩, s, t⟩ : Md).c.map LV.sv)), (3, .box 25 (r.c.map LV.sv)), (2, .box 43 (y.c.map LV.sv)), (1, .box 43 (u.c.map LV.sv)), (0, .box 37 (q.c.map LV.sv))]) 5 [(3, _), (7, _), (9, _)] (by repeat (first | exact trivial | refine ⟨rfl, ?_⟩)) ?_ (fun hcut => ?_)
            · -- behind block 0
              rintro w ⟨w1, w2, w3, w4, w5, w6, w7⟩
              refine LGo.seq ?_
              refine LGo.region rfl ?_  -- region 22
              first | refine R.loadA A37 (h := ?_) | refine R.loadN A37 (h := ?_) | refine R.loadP A37 (h := ?_)
              first | refine R.field F43_0 (h := ?_) | refine R.fieldAt F43_0 (h := ?_)
              first | refine R.loadA A41 (h := ?_) | refine R.loadN A41 (h := ?_) | refine R.loadP A41 (h := ?_)
              first | refine R.field F43_1 (h := ?_) | refine R.fieldAt F43_1 (h := ?_)
              first | refine R.loadB O9 (h := ?_) | refine R.load1 O9 (h := ?_)
              first | refine R.field F43_2 (h := ?_) | refine R.fieldAt F43_2 (h := ?_)
              first | refine R.loadB O9 (h := ?_) | refine R.load1 O9 (h := ?_)
              refine R.callP (es := [_, _, _, _]) (lvs := [.agg (q.c.map LV.sv), .agg ((⟨u.rp.err, w.1, w.2.1, w.2.2.1, y.rp.tseat, y.rp.town, y.rp.tser, y.rp.tep, w.2.2.2⟩ : Mr).c.map LV.sv), .t s, .t t]) (out := .tup [.agg (r.c.map LV.sv), .i 0]) (fun _ => answerO hq (hx' := ⟨hx.err, w4, w5, w6, w7⟩) (hs' := ⟨s2, t2⟩) (hu := same_of (x' := ⟨u.rp.err, w.1, w.2.1, w.2.2.1, y.rp.tseat, y.rp.town, y.rp.tser, y.rp.tep, w.2.2.2⟩) hx ⟨hx.err, w4, w5, w6, w7⟩ hre rfl s1 t1 w1 w2 w3)) (h := ?_)
              refine R.move (h := ?_)
              refine R.extract (h := ?_)
              refine R.extract (h := ?_)
              refine R.alloc Z25 (h := ?_)
              refine R.storeA A25 (h := ?_)
              refine R.assign (h := ?_)
              refine Reg.nil ⟨fun h => (by cases h), ?_⟩
              refine LGo.seq ?_
              refine LGo.region rfl ?_  -- region 23
              first | refine R.loadA A25 (h := ?_) | refine R.loadN A25 (h := ?_) | refine R.loadP A25 (h := ?_)
              first | refine R.loadA A25 (h := ?_) | refine R.loadN A25 (h := ?_) | refine R.loadP A25 (h := ?_)
              refine R.binA (EQ25 _ _ _ _ _ _ _ _ _ _ _ _ _ _ _ _ _ _ _ _) (h := ?_)
              refine R.move (h := ?_)
              refine R.move (h := ?_)
              refine R.bin (run_eql _ _ _ _ _ _) (h := ?_)
              refine R.and (h := ?_)
              refine R.move (h := ?_)
              refine R.callP (es := []) (fun _ => shown_P) (h := ?_)
              refine R.and (h := ?_)
              refine R.assign (h := ?_)
              refine Reg.nil ⟨fun h => (by cases h), ?_⟩
              refine LGo.tru 6 (hb := by simp) (h := ?_)
              exact LGo.ret (ret_T Tryd.results8 hA hmd)
            · -- block 0
              refine LGo.block ?_
              refine LGo.seq ?_
              refine LGo.seq ?_
              refine LGo.region rfl ?_  -- region 15
              refine R.bin (run_eql _ _ _ _ _ _) (h := ?_)
              refine R.assign (h := ?_)
              refine Reg.nil ⟨fun h => (by cases h), ?_⟩
              first | refine LGo.ifd (ht := fun hc6 => ?_) (hf := fun hc6 => ?_) | refine LGo.ifb (ht := fun hc6 => ?_) (hf := fun hc6 => ?_)
              · -- then 6
                refine LGo.skip ?_
                first | refine LGo.ifd (ht := fun _ => ?_) (hf := fun h => absurd hc6 h) | refine LGo.ifb (ht := fun _ => ?_) (hf := fun h => by rw [hc6] at h; cases h)
                refine LGo.region rfl ?_  -- region 17
                first | refine R.field F43_0 (h := ?_) | refine R.fieldAt F43_0 (h := ?_)
                first | refine R.field F41_3 (h := ?_) | refine R.fieldAt F41_3 (h := ?_)
                first | refine R.loadB O2 (h := ?_) | refine R.load1 O2 (h := ?_)
                first | refine R.field F43_0 (h := ?_) | refine R.fieldAt F43_0 (h := ?_)
                first | refine R.field F41_3 (h := ?_) | refine R.fieldAt F41_3 (h := ?_)
                refine R.storeB O2 (h := ?_)
                refine Reg.nil ⟨fun h => (by cases h), ?_⟩
                refine LGo.inBlock ?_
                exact LGo.next _ (fun o h => by have := (hA o).1 h; omega) (by omega) (hcut (y.rp.seat, y.rp.n, u.rp.dl, y.rp.place) ⟨fun hh => by first | rfl | (exfalso; omega), fun hh => by first | exact ⟨rfl, rfl⟩ | (exfalso; omega), fun hh => by first | rfl | (exfalso; omega), hy.seat, hy.n, hx.dl, hy.place⟩) (by repeat (first | exact trivial | refine ⟨rfl, ?_⟩)) (by repeat (first | exact trivial | refine ⟨rfl, ?_⟩))
              · -- else 6
                refine LGo.region rfl ?_  -- region 16
                refine R.bin (run_eql _ _ _ _ _ _) (h := ?_)
                refine R.assign (h := ?_)
                refine Reg.nil ⟨fun h => (by cases h), ?_⟩
                first | refine LGo.ifd (ht := fun hc8 => ?_) (hf := fun hc8 => ?_) | refine LGo.ifb (ht := fun hc8 => ?_) (hf := fun hc8 => ?_)
                · -- then 8
                  refine LGo.region rfl ?_  -- region 17
                  first | refine R.field F43_0 (h := ?_) | refine R.fieldAt F43_0 (h := ?_)
                  first | refine R.field F41_3 (h := ?_) | refine R.fieldAt F41_3 (h := ?_)
                  first | refine R.loadB O2 (h := ?_) | refine R.load1 O2 (h := ?_)
                  first | refine R.field F43_0 (h := ?_) | refine R.fieldAt F43_0 (h := ?_)
                  first | refine R.field F41_3 (h := ?_) | refine R.fieldAt F41_3 (h := ?_)
                  refine R.storeB O2 (h := ?_)
                  refine Reg.nil ⟨fun h => (by cases h), ?_⟩
                  refine LGo.inBlock ?_
                  exact LGo.next _ (fun o h => by have := (hA o).1 h; omega) (by omega) (hcut (y.rp.seat, y.rp.n, u.rp.dl, y.rp.place) ⟨fun hh => by first | rfl | (exfalso; omega), fun hh => by first | exact ⟨rfl, rfl⟩ | (exfalso; omega), fun hh => by first | rfl | (exfalso; omega), hy.seat, hy.n, hx.dl, hy.place⟩) (by repeat (first | exact trivial | refine ⟨rfl, ?_⟩)) (by repeat (first | exact trivial | refine ⟨rfl, ?_⟩))
                · -- else 8
                  refine LGo.seq ?_
                  refine LGo.region rfl ?_  -- region 18
                  refine R.bin (run_eql _ _ _ _ _ _) (h := ?_)
                  refine R.assign (h := ?_)
                  refine Reg.nil ⟨fun h => (by cases h), ?_⟩
                  first | refine LGo.ifd (ht := fun hc9 => ?_) (hf := fun hc9 => ?_) | refine LGo.ifb (ht := fun hc9 => ?_) (hf := fun hc9 => ?_)
                  · -- then 9
                    refine LGo.region rfl ?_  -- region 19 DRAWS
                    first | refine R.field F43_0 (h := ?_) | refine R.fieldAt F43_0 (h := ?_)
                    first | refine R.field F41_1 (h := ?_) | refine R.fieldAt F41_1 (h := ?_)
                    first | refine R.loadB O3 (h := ?_) | refine R.load1 O3 (h := ?_)
                    first | refine R.field F43_0 (h := ?_) | refine R.fieldAt F43_0 (h := ?_)
                    first | refine R.field F41_2 (h := ?_) | refine R.fieldAt F41_2 (h := ?_)
                    first | refine R.loadB O3 (h := ?_) | refine R.load1 O3 (h := ?_)
                    first | refine R.field F43_0 (h := ?_) | refine R.fieldAt F43_0 (h := ?_)
                    first | refine R.field F41_3 (h := ?_) | refine R.fieldAt F41_3 (h := ?_)
                    first | refine R.loadB O2 (h := ?_) | refine R.load1 O2 (h := ?_)
                    first | refine R.field F43_0 (h := ?_) | refine R.fieldAt F43_0 (h := ?_)
                    first | refine R.field F41_1 (h := ?_) | refine R.fieldAt F41_1 (h := ?_)
                    refine R.storeB O3 (h := ?_)
                    first | refine R.field F43_0 (h := ?_) | refine R.fieldAt F43_0 (h := ?_)
                    first | refine R.field F41_2 (h := ?_) | refine R.fieldAt F41_2 (h := ?_)
                    refine R.storeB O3 (h := ?_)
                    first | refine R.field F43_0 (h := ?_) | refine R.fieldAt F43_0 (h := ?_)
                    first | refine R.field F41_3 (h := ?_) | refine R.fieldAt F41_3 (h := ?_)
                    refine R.storeB O2 (h := ?_)
                    refine Reg.nil ⟨fun _ => ⟨mixedO, by rfl, by rfl⟩, ?_⟩
                    refine LGo.inBlock ?_
                    exact LGo.next _ (fun o h => by have := (hA o).1 h; omega) (by omega) (hcut (u.rp.seat, u.rp.n, u.rp.dl, y.rp.place) ⟨fun hh => by first | rfl | (exfalso; omega), fun hh => by first | exact ⟨rfl, rfl⟩ | (exfalso; omega), fun hh => by first | rfl | (exfalso; omega), hx.seat, hx.n, hx.dl, hy.place⟩) (by repeat (first | exact trivial | refine ⟨rfl, ?_⟩)) (by repeat (first | exact trivial | refine ⟨rfl, ?_⟩))
                  · -- else 9
                    refine LGo.seq ?_
                    refine LGo.region rfl ?_  -- region 20
                    refine R.bin (run_eql _ _ _ _ _ _) (h := ?_)
                    refine R.assign (h := ?_)
                    refine Reg.nil ⟨fun h => (by cases h), ?_⟩
                    first | refine LGo.ifd (ht := fun hc10 => ?_) (hf := fun hc10 => ?_) | refine LGo.ifb (ht := fun hc10 => ?_) (hf := fun hc10 => ?_)
                    · -- then 10
                      refine LGo.region rfl ?_  -- region 21
                      first | refine R.field F43_0 (h := ?_) | refine R.fieldAt F43_0 (h := ?_)
                      first | refine R.field F41_5 (h := ?_) | refine R.fieldAt F41_5 (h := ?_)
                      first | refine R.loadB O3 (h := ?_) | refine R.load1 O3 (h := ?_)
                      first | refine R.field F43_0 (h := ?_) | refine R.fieldAt F43_0 (h := ?_)
                      first | refine R.field F41_5 (h := ?_) | refine R.fieldAt F41_5 (h := ?_)
                      refine R.storeB O3 (h := ?_)
                      refine Reg.nil ⟨fun h => (by cases h), ?_⟩
                      refine LGo.inBlock ?_
                      exact LGo.next _ (fun o h => by have := (hA o).1 h; omega) (by omega) (hcut (y.rp.seat, y.rp.n, y.rp.dl, u.rp.place) ⟨fun hh => by first | rfl | (exfalso; omega), fun hh => by first | exact ⟨rfl, rfl⟩ | (exfalso; omega), fun hh => by first | rfl | (exfalso; omega), hy.seat, hy.n, hy.dl, hx.place⟩) (by repeat (first | exact trivial | refine ⟨rfl, ?_⟩)) (by repeat (first | exact trivial | refine ⟨rfl, ?_⟩))
                    · -- else 10
                      refine LGo.skip ?_
                      refine LGo.inBlock ?_
                      exact LGo.next _ (fun o h => by have := (hA o).1 h; omega) (by omega) (hcut (y.rp.seat, y.rp.n, y.rp.dl, y.rp.place) ⟨fun hh => by first | rfl | (exfalso; omega), fun hh => by first | exact ⟨rfl, rfl⟩ | (exfalso; omega), fun hh => by first | rfl | (exfalso; omega), hy.seat, hy.n, hy.dl, hy.place⟩) (by repeat (first | exact trivial | refine ⟨rfl, ?_⟩)) (by repeat (first | exact trivial | refine ⟨rfl, ?_⟩))
          · -- the ways of C5
            refine LGo.ifb (ht := fun hc5 => ?_) (hf := fun hc5 => ?_)
            · -- then 5
              refine LGo.region rfl ?_  -- region 13
              first | refine R.field F43_2 (h := ?_) | refine R.fieldAt F43_2 (h := ?_)
              first | refine R.loadB O9 (h := ?_) | refine R.load1 O9 (h := ?_)
              first | refine R.field F43_2 (h := ?_) | refine R.fieldAt F43_2 (h := ?_)
              refine R.storeB O9 (h := ?_)
              refine Reg.nil ⟨fun h => (by cases h), ?_⟩
              exact LGo.next _ (fun o h => by have := (hA o).1 h; omega) (by omega) (hcut u.tic ⟨fun _ => rfl, hs.1.2⟩) (by repeat (first | exact trivial | refine ⟨rfl, ?_⟩)) (by repeat (first | exact trivial | refine ⟨rfl, ?_⟩))
            · -- else 5
              refine LGo.skip ?_
              exact LGo.next _ (fun o h => by have := (hA o).1 h; omega) (by omega) (hcut y.tic ⟨fun hh => absurd (by simpa using hc5) hh, hs.2.2⟩) (by repeat (first | exact trivial | refine ⟨rfl, ?_⟩)) (by repeat (first | exact trivial | refine ⟨rfl, ?_⟩))
        · -- the ways of C4
          refine LGo.ifb (ht := fun hc4 => ?_) (hf := fun hc4 => ?_)
          · -- then 4
            refine LGo.region rfl ?_  -- region 11
            first | refine R.field F43_1 (h := ?_) | refine R.fieldAt F43_1 (h := ?_)
            first | refine R.loadB O9 (h := ?_) | refine R.load1 O9 (h := ?_)
            first | refine R.field F43_1 (h := ?_) | refine R.fieldAt F43_1 (h := ?_)
            refine R.storeB O9 (h := ?_)
            refine Reg.nil ⟨fun h => (by cases h), ?_⟩
            exact LGo.next _ (fun o h => by have := (hA o).1 h; omega) (by omega) (hcut u.ses ⟨fun _ => rfl, hs.1.1⟩) (by repeat (first | exact trivial | refine ⟨rfl, ?_⟩)) (by repeat (first | exact trivial | refine ⟨rfl, ?_⟩))
          · -- else 4
            refine LGo.skip ?_
            exact LGo.next _ (fun o h => by have := (hA o).1 h; omega) (by omega) (hcut y.ses ⟨fun hh => absurd (by simpa using hc4) hh, hs.2.1⟩) (by repeat (first | exact trivial | refine ⟨rfl, ?_⟩)) (by repeat (first | exact trivial | refine ⟨rfl, ?_⟩))

end Go.Proofs.YtcobkjognpjikaaDoor
