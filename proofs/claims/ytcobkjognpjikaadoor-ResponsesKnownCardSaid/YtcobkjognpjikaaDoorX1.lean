/- responses: the laws ResponsesEncodes, ResponsesDecodes, ResponsesMakes (walks). -/
import Derived.Test.YtcobkjognpjikaaDoorRSH
set_option linter.unusedSimpArgs false
set_option linter.unusedVariables false
namespace Go.Proofs.YtcobkjognpjikaaDoor

theorem encT_P' (r : Rs) (hr : RsOk r) (hs : r.ses.length ≤ 500 ∧ r.tic.length ≤ 500) : PC Tryd.prog 13 [.agg (r.c.map LV.sv)] (.tup [.sv (.sl 1 (bytesC (encS r).1)), .i (encS r).2]) := by
  rw [encS_eq r hr]; exact encT_P r hr hs
theorem refCheckT_P' (r : Rs) (hr : RsOk r) : PC Tryd.prog 15 [.agg (r.c.map LV.sv)] (.i (checkS r)) := by
  rw [checkS_eq r hr]; exact refCheckT_P r hr
theorem decT_P' (b : List UInt8) (hb : b.length ≤ 9000) : PC Tryd.prog 17 [.sv (.sl 1 (bytesC b))] (.tup [.agg ((decS b).1.c.map LV.sv), .i (decS b).2]) := by
  rw [decS_eq]; exact decT_P b hb
theorem refused_eq (q : Rq) (hq : RqOk q) (e : Int) : refusedS q e = refusedT q e := by
  unfold refusedS refusedT
  rw [checkQ_eq q hq]
  by_cases h : refCheckQ q = 0 <;> simp [h]
theorem sw_uw {n : Int} (h : R64 n) : sw (uw n) = n := by unfold R64 at h; unfold sw uw; rw [IntKind.wrap_i64]; omega
theorem ofR_eq (q : Rq) {x : Mr} (hx : MrOk x) (s t : List UInt8) : ofR q x s t = o8 q x s t := by
  have h1 := sw_uw hx.seat; have h2 := sw_uw hx.n; have h3 := sw_uw hx.dl; have h4 := sw_uw hx.place
  unfold ofR moreT
  by_cases k1 : q.kind = 1
  · simp [k1, o8, o7, o6, o5, o4, o3, o2, usesS, fieldS, valS, VV.f, putS, allS, h1, h2, h3, h4]
  by_cases k2 : q.kind = 2
  · simp [k2, o8, o7, o6, o5, o4, o3, o2, usesS, fieldS, valS, VV.f, putS, allS, h1, h2, h3, h4]
  by_cases k3 : q.kind = 3
  · simp [k3, o8, o7, o6, o5, o4, o3, o2, usesS, fieldS, valS, VV.f, putS, allS, h1, h2, h3, h4]
  by_cases k5 : q.kind = 5
  · simp [k5, o8, o7, o6, o5, o4, o3, o2, usesS, fieldS, valS, VV.f, putS, allS, h1, h2, h3, h4]
  by_cases k6 : q.kind = 6
  · simp [k6, o8, o7, o6, o5, o4, o3, o2, usesS, fieldS, valS, VV.f, putS, allS, h1, h2, h3, h4]
  by_cases k10 : q.kind = 10
  · simp [k10, o8, o7, o6, o5, o4, o3, o2, usesS, fieldS, valS, VV.f, putS, allS, h1, h2, h3, h4]
  simp [k1, k2, k3, k5, k6, k10, o8, o7, o6, o5, o4, o3, o2, usesS]
theorem of_eq (q : Rq) (hq : RqOk q) {x : Mr} (hx : MrOk x) {s t : List UInt8} (hs : s.length ≤ 1000 ∧ t.length ≤ 1000) : ofS q x s t = ofT q x s t := by
  unfold ofS ofT
  rw [refused_eq q hq, checkQ_eq q hq, checkS_eq _ (ofR_ok hq hx hs), ofR_eq q hx]
  unfold refusedT
  by_cases h1 : x.err = 0 <;> by_cases h2 : refCheckQ q = 0 <;> simp [h1, h2]
theorem refusedT_P' (q : Rq) (hq : RqOk q) (e : Int) : PC Tryd.prog 21 [.agg (q.c.map LV.sv), .i e] (.tup [.agg ((refusedS q e).1.c.map LV.sv), .i (refusedS q e).2]) := by
  rw [refused_eq q hq]; exact refusedT_P q hq e
theorem ofT_P' (q : Rq) (hq : RqOk q) (rp : Mr) (hx : MrOk rp) (s t : List UInt8) (hs : s.length ≤ 1000 ∧ t.length ≤ 1000) : PC Tryd.prog 19 [.agg (q.c.map LV.sv), .agg (rp.c.map LV.sv), .t s, .t t] (.tup [.agg ((ofS q rp s t).1.c.map LV.sv), .i (ofS q rp s t).2]) := by
  rw [of_eq q hq hx hs]; exact ofT_P q hq rp hx s t hs

theorem encodes_P (r : Rs) (hr : RsOk r) : PC Tryd.prog 3 [.agg (r.c.map LV.sv)] (.b true) := by
  refine ⟨LC.of_go Tryd.func3 (c := _) rfl (by kernel_rfl) (by rw [Tryd.ntmps3]; simp) rfl rfl (by simp [LO.lt, LV.lts, LV.lt]) (by simp) ?_⟩
  intro B hA hmd
  refine LGo.seq ?_
  refine LGo.region rfl ?_  -- region 0
  refine R.box (h := ?_)
  refine R.assign (h := ?_)
  refine Reg.nil ⟨fun h => (by cases h), ?_⟩
  refine LGo.seq ?_
  refine LGo.seq ?_
  refine LGo.region rfl ?_  -- region 1
  first | refine R.loadA A25 (h := ?_) | refine R.loadN A25 (h := ?_) | refine R.loadP A25 (h := ?_)
  refine R.callP (es := [_]) (fun _ => farS_P r) (h := ?_)
  refine Reg.nil ⟨fun h => (by cases h), ?_⟩
  refine LGo.ifb (ht := fun hc => ?_) (hf := fun hc => ?_)
  · -- then 1
    refine LGo.seq ?_
    refine LGo.region rfl ?_  -- region 2
    refine R.callP (es := []) (fun _ => shown_P) (h := ?_)
    refine R.assign (h := ?_)
    refine Reg.nil ⟨fun h => (by cases h), ?_⟩
    exact LGo.ret (ret_T Tryd.results3 hA hmd)
  · -- else 1
    have hs : r.ses.length ≤ 500 ∧ r.tic.length ≤ 500 := by simp at hc; omega
    refine LGo.skip ?_
    refine LGo.seq ?_
    refine LGo.region rfl ?_  -- region 3
    first | refine R.loadA A25 (h := ?_) | refine R.loadN A25 (h := ?_) | refine R.loadP A25 (h := ?_)
    refine R.callP (es := [_]) (fun _ => encS_P r hr hs) (h := ?_)
    refine R.move (h := ?_)
    refine R.extract (h := ?_)
    refine R.extract (h := ?_)
    refine R.assign (h := ?_)
    refine R.assign (h := ?_)
    refine Reg.nil ⟨fun h => (by cases h), ?_⟩
    refine LGo.seq ?_
    refine LGo.region rfl ?_  -- region 4
    first | refine R.loadA A25 (h := ?_) | refine R.loadN A25 (h := ?_) | refine R.loadP A25 (h := ?_)
    refine R.callP (es := [_]) (fun _ => encT_P' r hr hs) (h := ?_)
    refine R.move (h := ?_)
    refine R.extract (h := ?_)
    refine R.extract (h := ?_)
    refine R.assign (h := ?_)
    refine R.assign (h := ?_)
    refine Reg.nil ⟨fun h => (by cases h), ?_⟩
    refine LGo.seq ?_
    refine LGo.region rfl ?_  -- region 5 DRAWS
    refine R.move (h := ?_)
    refine R.toString Tryd.underlying28 Tryd.underlying5 Tryd.underlying9 (h := ?_)
    refine R.move (h := ?_)
    refine R.toString Tryd.underlying28 Tryd.underlying5 Tryd.underlying9 (h := ?_)
    refine R.bin (run_eqlT _ _ _ _ _) (h := ?_)
    refine R.move (h := ?_)
    refine R.move (h := ?_)
    refine R.move (h := ?_)
    refine R.bin (run_eql _ _ _ _ _ _) (h := ?_)
    refine R.and (h := ?_)
    refine R.move (h := ?_)
    first | refine R.loadA A25 (h := ?_) | refine R.loadN A25 (h := ?_) | refine R.loadP A25 (h := ?_)
    refine R.callP (es := [_]) (fun _ => checkS_P r hr) (h := ?_)
    first | refine R.loadA A25 (h := ?_) | refine R.loadN A25 (h := ?_) | refine R.loadP A25 (h := ?_)
    refine R.callP (es := [_]) (fun _ => refCheckT_P' r hr) (h := ?_)
    refine R.bin (run_eql _ _ _ _ _ _) (h := ?_)
    refine R.and (h := ?_)
    refine R.move (h := ?_)
    refine R.callP (es := []) (fun _ => shown_P) (h := ?_)
    refine R.and (h := ?_)
    refine R.assign (h := ?_)
    refine Reg.nil ⟨fun _ => ⟨mixedO, by rfl, by rfl⟩, ?_⟩
    refine LGo.tru 2 (h := ?_)
    exact LGo.ret (ret_T Tryd.results3 hA hmd)

theorem decodes_P (b : List UInt8) : PC Tryd.prog 4 [.sv (.sl 1 (bytesC b))] (.b true) := by
  refine ⟨LC.of_go Tryd.func4 (c := _) rfl (by kernel_rfl) (by rw [Tryd.ntmps4]; simp) rfl rfl (by simp [LO.lt, LV.lts, LV.lt]) (by simp) ?_⟩
  intro B hA hmd
  refine LGo.seq ?_
  refine LGo.region rfl ?_  -- region 0
  refine R.assign (h := ?_)
  refine Reg.nil ⟨fun h => (by cases h), ?_⟩
  refine LGo.seq ?_
  refine LGo.seq ?_
  refine LGo.region rfl ?_  -- region 1
  refine R.move (h := ?_)
  first | refine R.len S28 (h := ?_) | refine R.lenRs S28 (h := ?_) | refine R.lenV (run_lenNil S28) (h := ?_)
  rw [bytesC_length]
  refine R.bin (run_gtr _ _ _ _ _ _) (h := ?_)
  refine Reg.nil ⟨fun h => (by cases h), ?_⟩
  refine LGo.ifd (ht := fun hc => ?_) (hf := fun hc => ?_)
  · -- then 1
    refine LGo.seq ?_
    refine LGo.region rfl ?_  -- region 2
    refine R.callP (es := []) (fun _ => shown_P) (h := ?_)
    refine R.assign (h := ?_)
    refine Reg.nil ⟨fun h => (by cases h), ?_⟩
    exact LGo.ret (ret_T Tryd.results4 hA hmd)
  · -- else 1
    refine LGo.skip ?_
    refine LGo.seq ?_
    refine LGo.region rfl ?_  -- region 3
    refine R.move (h := ?_)
    refine R.toString Tryd.underlying28 Tryd.underlying5 Tryd.underlying9 (h := ?_)
    refine R.assign (h := ?_)
    refine Reg.nil ⟨fun h => (by cases h), ?_⟩
    refine LGo.seq ?_
    refine LGo.region rfl ?_  -- region 4
    refine R.move (h := ?_)
    refine R.callP (es := [_]) (fun _ => decS_P b (by omega)) (h := ?_)
    refine R.move (h := ?_)
    refine R.extract (h := ?_)
    refine R.extract (h := ?_)
    refine R.alloc Z25 (h := ?_)
    refine R.storeA A25 (h := ?_)
    refine R.assign (h := ?_)
    refine Reg.nil ⟨fun h => (by cases h), ?_⟩
    refine LGo.seq ?_
    refine LGo.region rfl ?_  -- region 5
    refine R.move (h := ?_)
    refine R.callP (es := [_]) (fun _ => decT_P' b (by omega)) (h := ?_)
    refine R.move (h := ?_)
    refine R.extract (h := ?_)
    refine R.extract (h := ?_)
    refine R.alloc Z25 (h := ?_)
    refine R.storeA A25 (h := ?_)
    refine R.assign (h := ?_)
    refine Reg.nil ⟨fun h => (by cases h), ?_⟩
    refine LGo.seq ?_
    refine LGo.region rfl ?_  -- region 6
    first | refine R.loadA A25 (h := ?_) | refine R.loadN A25 (h := ?_) | refine R.loadP A25 (h := ?_)
    first | refine R.loadA A25 (h := ?_) | refine R.loadN A25 (h := ?_) | refine R.loadP A25 (h := ?_)
    refine R.binA (EQ25 _ _ _ _ _ _ _ _ _ _ _ _ _ _ _ _ _ _ _ _) (h := ?_)
    refine R.move (h := ?_)
    refine R.move (h := ?_)
    refine R.move (h := ?_)
    refine R.bin (run_eql _ _ _ _ _ _) (h := ?_)
    refine R.and (h := ?_)
    refine R.move (h := ?_)
    refine R.move (h := ?_)
    refine R.toString Tryd.underlying28 Tryd.underlying5 Tryd.underlying9 (h := ?_)
    refine R.move (h := ?_)
    refine R.bin (run_eqlT _ _ _ _ _) (h := ?_)
    refine R.and (h := ?_)
    refine R.move (h := ?_)
    refine R.callP (es := []) (fun _ => shown_P) (h := ?_)
    refine R.and (h := ?_)
    refine R.assign (h := ?_)
    refine Reg.nil ⟨fun h => (by cases h), ?_⟩
    refine LGo.tru 2 (h := ?_)
    exact LGo.ret (ret_T Tryd.results4 hA hmd)

/-- what a response is made of -/
structure Md where
  rp : Mr
  ses : List UInt8
  tic : List UInt8
def Md.c (x : Md) : List SV := x.rp.c ++ [.val (.string ⟨x.ses.toArray⟩), .val (.string ⟨x.tic.toArray⟩)]

theorem makes_P (q : Rq) (hq : RqOk q) (x : Md) (hx : MrOk x.rp) : PC Tryd.prog 5 [.agg (q.c.map LV.sv), .agg (x.c.map LV.sv)] (.b true) := by
  refine ⟨LC.of_go Tryd.func5 (c := _) rfl (by kernel_rfl) (by rw [Tryd.ntmps5]; simp) rfl rfl (by simp [LO.lt, LV.lts, LV.lt]) (by simp) ?_⟩
  intro B hA hmd
  refine LGo.seq ?_
  refine LGo.region rfl ?_  -- region 0
  refine R.box (h := ?_)
  refine R.box (h := ?_)
  refine R.assign (h := ?_)
  refine Reg.nil ⟨fun h => (by cases h), ?_⟩
  refine LGo.seq ?_
  refine LGo.seq ?_
  refine LGo.region rfl ?_  -- region 1
  first | refine R.field F37_4 (h := ?_) | refine R.fieldAt F37_4 (h := ?_)
  first | refine R.loadB O9 (h := ?_) | refine R.load1 O9 (h := ?_)
  refine R.lenT Tryd.runUnderlying9 (h := ?_)
  refine R.bin (run_gtr _ _ _ _ _ _) (h := ?_)
  refine R.move (h := ?_)
  first | refine R.field F37_5 (h := ?_) | refine R.fieldAt F37_5 (h := ?_)
  first | refine R.loadB O9 (h := ?_) | refine R.load1 O9 (h := ?_)
  refine R.lenT Tryd.runUnderlying9 (h := ?_)
  refine R.bin (run_gtr _ _ _ _ _ _) (h := ?_)
  refine R.or (h := ?_)
  refine R.move (h := ?_)
  first | refine R.field F43_1 (h := ?_) | refine R.fieldAt F43_1 (h := ?_)
  first | refine R.loadB O9 (h := ?_) | refine R.load1 O9 (h := ?_)
  refine R.lenT Tryd.runUnderlying9 (h := ?_)
  refine R.bin (run_gtr _ _ _ _ _ _) (h := ?_)
  refine R.or (h := ?_)
  refine R.move (h := ?_)
  first | refine R.field F43_2 (h := ?_) | refine R.fieldAt F43_2 (h := ?_)
  first | refine R.loadB O9 (h := ?_) | refine R.load1 O9 (h := ?_)
  refine R.lenT Tryd.runUnderlying9 (h := ?_)
  refine R.bin (run_gtr _ _ _ _ _ _) (h := ?_)
  refine R.or (h := ?_)
  refine Reg.nil ⟨fun h => (by cases h), ?_⟩
  refine LGo.ifb (ht := fun hc => ?_) (hf := fun hc => ?_)
  · -- then 1
    refine LGo.seq ?_
    refine LGo.region rfl ?_  -- region 2
    refine R.callP (es := []) (fun _ => shown_P) (h := ?_)
    refine R.assign (h := ?_)
    refine Reg.nil ⟨fun h => (by cases h), ?_⟩
    exact LGo.ret (ret_T Tryd.results5 hA hmd)
  · -- else 1
    have hs : x.ses.length ≤ 1000 ∧ x.tic.length ≤ 1000 := by simp at hc; omega
    refine LGo.skip ?_
    refine LGo.seq ?_
    refine LGo.region rfl ?_  -- region 3
    first | refine R.loadA A37 (h := ?_) | refine R.loadN A37 (h := ?_) | refine R.loadP A37 (h := ?_)
    first | refine R.field F43_0 (h := ?_) | refine R.fieldAt F43_0 (h := ?_)
    first | refine R.loadA A41 (h := ?_) | refine R.loadN A41 (h := ?_) | refine R.loadP A41 (h := ?_)
    first | refine R.field F43_1 (h := ?_) | refine R.fieldAt F43_1 (h := ?_)
    first | refine R.loadB O9 (h := ?_) | refine R.load1 O9 (h := ?_)
    first | refine R.field F43_2 (h := ?_) | refine R.fieldAt F43_2 (h := ?_)
    first | refine R.loadB O9 (h := ?_) | refine R.load1 O9 (h := ?_)
    refine R.callP (es := [_, _, _, _]) (fun _ => ofS_P q hq x.rp hx x.ses x.tic hs) (h := ?_)
    refine R.move (h := ?_)
    refine R.extract (h := ?_)
    refine R.extract (h := ?_)
    refine R.alloc Z25 (h := ?_)
    refine R.storeA A25 (h := ?_)
    refine R.assign (h := ?_)
    refine Reg.nil ⟨fun h => (by cases h), ?_⟩
    refine LGo.seq ?_
    refine LGo.region rfl ?_  -- region 4
    first | refine R.loadA A37 (h := ?_) | refine R.loadN A37 (h := ?_) | refine R.loadP A37 (h := ?_)
    first | refine R.field F43_0 (h := ?_) | refine R.fieldAt F43_0 (h := ?_)
    first | refine R.loadA A41 (h := ?_) | refine R.loadN A41 (h := ?_) | refine R.loadP A41 (h := ?_)
    first | refine R.field F43_1 (h := ?_) | refine R.fieldAt F43_1 (h := ?_)
    first | refine R.loadB O9 (h := ?_) | refine R.load1 O9 (h := ?_)
    first | refine R.field F43_2 (h := ?_) | refine R.fieldAt F43_2 (h := ?_)
    first | refine R.loadB O9 (h := ?_) | refine R.load1 O9 (h := ?_)
    refine R.callP (es := [_, _, _, _]) (fun _ => ofT_P' q hq x.rp hx x.ses x.tic hs) (h := ?_)
    refine R.move (h := ?_)
    refine R.extract (h := ?_)
    refine R.extract (h := ?_)
    refine R.alloc Z25 (h := ?_)
    refine R.storeA A25 (h := ?_)
    refine R.assign (h := ?_)
    refine Reg.nil ⟨fun h => (by cases h), ?_⟩
    refine LGo.seq ?_
    refine LGo.region rfl ?_  -- region 5
    first | refine R.loadA A37 (h := ?_) | refine R.loadN A37 (h := ?_) | refine R.loadP A37 (h := ?_)
    first | refine R.field F43_0 (h := ?_) | refine R.fieldAt F43_0 (h := ?_)
    first | refine R.field F41_0 (h := ?_) | refine R.fieldAt F41_0 (h := ?_)
    first | refine R.loadB O23 (h := ?_) | refine R.load1 O23 (h := ?_)
    refine R.callP (es := [_, _]) (fun _ => refusedS_P q hq x.rp.err) (h := ?_)
    refine R.move (h := ?_)
    refine R.extract (h := ?_)
    refine R.extract (h := ?_)
    refine R.alloc Z25 (h := ?_)
    refine R.storeA A25 (h := ?_)
    refine R.assign (h := ?_)
    refine Reg.nil ⟨fun h => (by cases h), ?_⟩
    refine LGo.seq ?_
    refine LGo.region rfl ?_  -- region 6
    first | refine R.loadA A37 (h := ?_) | refine R.loadN A37 (h := ?_) | refine R.loadP A37 (h := ?_)
    first | refine R.field F43_0 (h := ?_) | refine R.fieldAt F43_0 (h := ?_)
    first | refine R.field F41_0 (h := ?_) | refine R.fieldAt F41_0 (h := ?_)
    first | refine R.loadB O23 (h := ?_) | refine R.load1 O23 (h := ?_)
    refine R.callP (es := [_, _]) (fun _ => refusedT_P' q hq x.rp.err) (h := ?_)
    refine R.move (h := ?_)
    refine R.extract (h := ?_)
    refine R.extract (h := ?_)
    refine R.alloc Z25 (h := ?_)
    refine R.storeA A25 (h := ?_)
    refine R.assign (h := ?_)
    refine Reg.nil ⟨fun h => (by cases h), ?_⟩
    refine LGo.seq ?_
    refine LGo.region rfl ?_  -- region 7
    first | refine R.loadA A25 (h := ?_) | refine R.loadN A25 (h := ?_) | refine R.loadP A25 (h := ?_)
    first | refine R.loadA A25 (h := ?_) | refine R.loadN A25 (h := ?_) | refine R.loadP A25 (h := ?_)
    refine R.binA (EQ25 _ _ _ _ _ _ _ _ _ _ _ _ _ _ _ _ _ _ _ _) (h := ?_)
    refine R.move (h := ?_)
    refine R.move (h := ?_)
    refine R.move (h := ?_)
    refine R.bin (run_eql _ _ _ _ _ _) (h := ?_)
    refine R.and (h := ?_)
    refine R.move (h := ?_)
    first | refine R.loadA A25 (h := ?_) | refine R.loadN A25 (h := ?_) | refine R.loadP A25 (h := ?_)
    first | refine R.loadA A25 (h := ?_) | refine R.loadN A25 (h := ?_) | refine R.loadP A25 (h := ?_)
    refine R.binA (EQ25 _ _ _ _ _ _ _ _ _ _ _ _ _ _ _ _ _ _ _ _) (h := ?_)
    refine R.and (h := ?_)
    refine R.move (h := ?_)
    refine R.move (h := ?_)
    refine R.move (h := ?_)
    refine R.bin (run_eql _ _ _ _ _ _) (h := ?_)
    refine R.and (h := ?_)
    refine R.move (h := ?_)
    refine R.callP (es := []) (fun _ => malformedS_P) (h := ?_)
    refine R.callP (es := []) (fun _ => malformedT_P) (h := ?_)
    refine R.binA (EQ25 _ _ _ _ _ _ _ _ _ _ _ _ _ _ _ _ _ _ _ _) (h := ?_)
    refine R.and (h := ?_)
    refine R.move (h := ?_)
    refine R.callP (es := []) (fun _ => shown_P) (h := ?_)
    refine R.and (h := ?_)
    refine R.assign (h := ?_)
    refine Reg.nil ⟨fun h => (by cases h), ?_⟩
    refine LGo.tru 4 (h := ?_)
    exact LGo.ret (ret_T Tryd.results5 hA hmd)

end Go.Proofs.YtcobkjognpjikaaDoor
