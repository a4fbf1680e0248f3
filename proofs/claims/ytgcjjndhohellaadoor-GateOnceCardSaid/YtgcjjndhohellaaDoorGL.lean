/- gates: a call at a door. -/
import Derived.Test.YtgcjjndhohellaaDoorGK
set_option linter.unusedSimpArgs false
set_option linter.unusedVariables false
namespace Go.Proofs.YtgcjjndhohellaaDoor

def firstR : List (Int × Bool) → Int
  | [] => 0
  | (e, b) :: l => if b = true then e else firstR l
def refL (gs : List GtG) (es : List GtE) (c : GtC) : List (Int × Bool) := [(15, !(gs.getD c.gate.toNat default).secs.contains c.sec), (18, decide (openI (gs.getD c.gate.toNat default) c.now < 0)), (13, decide (openI (gs.getD c.gate.toNat default) c.now > 0)), (8, hasK c.key es), (5, decide ((es.length : Int) = 500))]
theorem refuse_L {gs : List GtG} {es : List GtE} {c : GtC} (h : (decide (c.gate < 0) || decide ((gs.length : Int) ≤ c.gate)) = false) : refuse gs es c = firstR (refL gs es c) := by
  unfold refuse
  rw [if_neg (by rw [h]; simp)]
  simp only [refL, firstR, decide_eq_true_eq, gt_iff_lt]
def seenD (gs : List GtG) (es : List GtE) (c : GtC) (m : List (K3 × Value)) : List (K3 × Value) := if refuse gs es c = 0 then putM c.key (.int .i64 es.length) m else m
theorem step_no {gs : List GtG} {es : List GtE} {c : GtC} {m : List (K3 × Value)} {r : Int} (h : refuse gs es c = r) (h0 : r ≠ 0) : stepD gs es c = es ∧ seenD gs es c m = m := ⟨if_neg (by rw [h]; exact h0), if_neg (by rw [h]; exact h0)⟩
theorem step_yes {gs : List GtG} {es : List GtE} {c : GtC} {m : List (K3 × Value)} (h : refuse gs es c = 0) : stepD gs es c = es ++ [c.ent] ∧ seenD gs es c m = putM c.key (.int .i64 es.length) m := ⟨if_pos h, if_pos h⟩

theorem cl1 (g : GtG) (hg : g.secs.length ≤ 100000) (c : GtC) : LC Tryd.prog 50 2 [.ptr 0 0, .ptr 1 0] [(0, .box 59 (g.c.map LV.sv)), (1, .box 31 (c.c.map LV.sv))] (.b (!g.secs.contains c.sec)) [(0, .box 59 (g.c.map LV.sv)), (1, .box 31 (c.c.map LV.sv))] 0 := by
 refine LC.of_go Tryd.func50 (c := _) rfl (by kernel_rfl) (by rw [Tryd.ntmps50]; simp) rfl rfl (by simp [LO.lt, LV.lts, LV.lt, lts_sv]) (by simp) ?_
 intro B hA hmd
 refine .seq ?_
 refine .region rfl ?_
 refine R.assign (h := ?_)
 refine .n0 ?_
 refine .seq ?_
 refine .region rfl ?_
 first | refine R.field F59_0 (h := ?_) | refine R.fieldAt F59_0 (h := ?_)
 first | refine R.loadB O57 (h := ?_) | refine R.load1 O57 (h := ?_)
 first | refine R.field F31_2 (h := ?_) | refine R.fieldAt F31_2 (h := ?_)
 first | refine R.loadB O3 (h := ?_) | refine R.load1 O3 (h := ?_)
 refine R.callP (es := [_, _]) (fun _ => contI_P g.secs c.sec hg) (h := ?_)
 refine R.not (h := ?_)
 refine R.assign (h := ?_)
 refine .n0 ?_
 exact LGo.ret (ret_T Tryd.results50 hA hmd)

theorem cl2 (g : GtG) (hg : g.secs.length ≤ 100000) (c : GtC) : LC Tryd.prog 52 2 [.ptr 0 0, .ptr 1 0] [(0, .box 59 (g.c.map LV.sv)), (1, .box 31 (c.c.map LV.sv))] (.b (decide (openI g c.now < 0))) [(0, .box 59 (g.c.map LV.sv)), (1, .box 31 (c.c.map LV.sv))] 0 := by
 refine LC.of_go Tryd.func52 (c := _) rfl (by kernel_rfl) (by rw [Tryd.ntmps52]; simp) rfl rfl (by simp [LO.lt, LV.lts, LV.lt, lts_sv]) (by simp) ?_
 intro B hA hmd
 refine .seq ?_
 refine .region rfl ?_
 refine R.assign (h := ?_)
 refine .n0 ?_
 refine .seq ?_
 refine .region rfl ?_
 first | refine R.loadA A59 (h := ?_) | refine R.loadN A59 (h := ?_) | refine R.loadP A59 (h := ?_)
 first | refine R.field F31_3 (h := ?_) | refine R.fieldAt F31_3 (h := ?_)
 first | refine R.loadB O2 (h := ?_) | refine R.load1 O2 (h := ?_)
 refine R.callP (es := [_, _]) (fun _ => open_P g c.now) (h := ?_)
 refine R.bin (run_lss _ _ _ _ _ _) (h := ?_)
 refine R.assign (h := ?_)
 refine .n0 ?_
 exact LGo.ret (ret_T Tryd.results52 hA hmd)

theorem cl3 (g : GtG) (hg : g.secs.length ≤ 100000) (c : GtC) : LC Tryd.prog 53 2 [.ptr 0 0, .ptr 1 0] [(0, .box 59 (g.c.map LV.sv)), (1, .box 31 (c.c.map LV.sv))] (.b (decide (openI g c.now > 0))) [(0, .box 59 (g.c.map LV.sv)), (1, .box 31 (c.c.map LV.sv))] 0 := by
 refine LC.of_go Tryd.func53 (c := _) rfl (by kernel_rfl) (by rw [Tryd.ntmps53]; simp) rfl rfl (by simp [LO.lt, LV.lts, LV.lt, lts_sv]) (by simp) ?_
 intro B hA hmd
 refine .seq ?_
 refine .region rfl ?_
 refine R.assign (h := ?_)
 refine .n0 ?_
 refine .seq ?_
 refine .region rfl ?_
 first | refine R.loadA A59 (h := ?_) | refine R.loadN A59 (h := ?_) | refine R.loadP A59 (h := ?_)
 first | refine R.field F31_3 (h := ?_) | refine R.fieldAt F31_3 (h := ?_)
 first | refine R.loadB O2 (h := ?_) | refine R.load1 O2 (h := ?_)
 refine R.callP (es := [_, _]) (fun _ => open_P g c.now) (h := ?_)
 refine R.bin (run_gtr _ _ _ _ _ _) (h := ?_)
 refine R.assign (h := ?_)
 refine .n0 ?_
 exact LGo.ret (ret_T Tryd.results53 hA hmd)

theorem cl4 (gsC : List (List SV)) (es : List GtE) (m : List (K3 × Value)) (k : K3) : LC Tryd.prog 54 5 [.ptr 0 0, .ptr 4 0] [(0, .box 62 [.ptr 1 0]), (1, .box 93 [.sv (.sl 3 gsC), .ref 2, .ref 3]), (2, .rs 40 5 (es.map GtE.c)), (3, .raw (mapOb encK m)), (4, .box 69 ((K3.v k).map LV.v))] (.b (getM k m).isSome) [(0, .box 62 [.ptr 1 0]), (1, .box 93 [.sv (.sl 3 gsC), .ref 2, .ref 3]), (2, .rs 40 5 (es.map GtE.c)), (3, .raw (mapOb encK m)), (4, .box 69 ((K3.v k).map LV.v))] 0 := by
 refine LC.of_go Tryd.func54 (c := _) rfl (by kernel_rfl) (by rw [Tryd.ntmps54]; simp) rfl rfl (by simp [LO.lt, LV.lts, LV.lt, lts_sv, K3.v]) (by simp) ?_
 intro B hA hmd
 refine .seq ?_
 refine .region rfl ?_
 refine R.assign (h := ?_)
 refine .n0 ?_
 refine .seq ?_
 refine .region rfl ?_
 first | refine R.loadB O62 (h := ?_) | refine R.load1 O62 (h := ?_)
 refine R.nilCheck (h := ?_)
 first | refine R.field F93_1 (h := ?_) | refine R.fieldAt F93_1 (h := ?_)
 first | refine R.loadB O91 (h := ?_) | refine R.load1 O91 (h := ?_)
 first | refine R.loadA A69 (h := ?_) | refine R.loadN A69 (h := ?_) | refine R.loadP A69 (h := ?_)
 refine R.lookupOk (enc := encK) (z := .int .i64 0) (a := k) (l := m) Tryd.underlying91 keyF Z3 (Told.agg (xs := K3.v k)) (h := ?_)
 refine R.move (h := ?_)
 refine R.extract (h := ?_)
 refine R.extract (h := ?_)
 refine R.assign (h := ?_)
 refine R.assign (h := ?_)
 refine Reg.nil ⟨fun _ => ⟨mixedO, by rfl, by rfl⟩, ?_⟩
 refine .seq ?_
 refine .region rfl ?_
 refine R.move (h := ?_)
 refine R.assign (h := ?_)
 refine .n0 ?_
 exact LGo.ret (ret_T Tryd.results54 hA hmd)

theorem cl5 (gsC : List (List SV)) (es : List GtE) (m : List (K3 × Value)) : LC Tryd.prog 55 4 [.ptr 0 0] [(0, .box 62 [.ptr 1 0]), (1, .box 93 [.sv (.sl 3 gsC), .ref 2, .ref 3]), (2, .rs 40 5 (es.map GtE.c)), (3, .raw (mapOb encK m))] (.b (decide ((es.length : Int) = 500))) [(0, .box 62 [.ptr 1 0]), (1, .box 93 [.sv (.sl 3 gsC), .ref 2, .ref 3]), (2, .rs 40 5 (es.map GtE.c)), (3, .raw (mapOb encK m))] 0 := by
 refine LC.of_go Tryd.func55 (c := _) rfl (by kernel_rfl) (by rw [Tryd.ntmps55]; simp) rfl rfl (by simp [LO.lt, LV.lts, LV.lt, lts_sv]) (by simp) ?_
 intro B hA hmd
 refine .seq ?_
 refine .region rfl ?_
 refine R.assign (h := ?_)
 refine .n0 ?_
 refine .seq ?_
 refine .region rfl ?_
 first | refine R.loadB O62 (h := ?_) | refine R.load1 O62 (h := ?_)
 refine R.nilCheck (h := ?_)
 first | refine R.field F93_0 (h := ?_) | refine R.fieldAt F93_0 (h := ?_)
 first | refine R.field F25_1 (h := ?_) | refine R.fieldAt F25_1 (h := ?_)
 first | refine R.loadB O23 (h := ?_) | refine R.load1 O23 (h := ?_)
 first | refine R.len S23 (h := ?_) | refine R.lenRs S23 (h := ?_) | refine R.lenV (run_lenNil S23) (h := ?_)
 rw [List.length_map]
 refine R.bin (run_eql _ _ _ _ _ _) (h := ?_)
 refine R.assign (h := ?_)
 refine .n0 ?_
 exact LGo.ret (ret_T Tryd.results55 hA hmd)

theorem enter_L (gs : List GtG) (hg1 : gs.length ≤ 100000) (hg2 : ∀ g ∈ gs, g.secs.length ≤ 100000) (es : List GtE) (hes : es.length ≤ 60000) (m : List (K3 × Value)) (c : GtC) (hcu : U32 c.seat) (hm : (getM c.key m).isSome = hasK c.key es) : LC Tryd.prog 31 2 [.ptr 0 0, .agg (c.c.map LV.sv)] [(0, .bx 93 [.sv (.sl 3 (gs.map GtG.c)), .v undef, .ref 1] 1 40 5 (es.map GtE.c)), (1, .raw (mapOb encK m))] (.i (refuse gs es c)) [(0, .bx 93 [.sv (.sl 3 (gs.map GtG.c)), .v undef, .ref 1] 1 40 5 ((stepD gs es c).map GtE.c)), (1, .raw (mapOb encK (seenD gs es c m)))] 0 := by
 refine LC.of_go Tryd.func31 (c := _) rfl (by kernel_rfl) (by rw [Tryd.ntmps31]; simp) rfl rfl (by simp [LO.lt, LV.lts, LV.lt, lts_sv]) (by simp) ?_
 intro B hA hmd
 obtain ⟨r, e1⟩ : ∃ r, refuse gs es c = r := ⟨_, rfl⟩
 obtain ⟨es2, hes2⟩ : ∃ e, stepD gs es c = e := ⟨_, rfl⟩
 obtain ⟨mm, hmm⟩ : ∃ e, seenD gs es c m = e := ⟨_, rfl⟩
 rw [e1, hes2, hmm]
 refine LGo.unpack 0 (h := ?_)
 refine .seq ?_
 refine .region rfl ?_
 refine R.box (h := ?_)
 refine R.box (h := ?_)
 refine R.assign (h := ?_)
 refine .n0 ?_
 refine .seq ?_
 refine .seq ?_
 refine .region rfl ?_
 first | refine R.field F31_0 (h := ?_) | refine R.fieldAt F31_0 (h := ?_)
 first | refine R.loadB O3 (h := ?_) | refine R.load1 O3 (h := ?_)
 refine R.bin (run_lss _ _ _ _ _ _) (h := ?_)
 refine R.move (h := ?_)
 first | refine R.field F31_0 (h := ?_) | refine R.fieldAt F31_0 (h := ?_)
 first | refine R.loadB O3 (h := ?_) | refine R.load1 O3 (h := ?_)
 first | refine R.loadB O62 (h := ?_) | refine R.load1 O62 (h := ?_)
 refine R.nilCheck (h := ?_)
 first | refine R.field F93_0 (h := ?_) | refine R.fieldAt F93_0 (h := ?_)
 first | refine R.field F25_0 (h := ?_) | refine R.fieldAt F25_0 (h := ?_)
 first | refine R.loadB O22 (h := ?_) | refine R.load1 O22 (h := ?_)
 first | refine R.len S22 (h := ?_) | refine R.lenRs S22 (h := ?_) | refine R.lenV (run_lenNil S22) (h := ?_)
 rw [List.length_map]
 refine R.bin (run_geq _ _ _ _ _ _) (h := ?_)
 refine R.or (h := ?_)
 refine Reg.nil ⟨fun _ => ⟨mixedO, by rfl, by rfl⟩, ?_⟩
 refine LGo.ifb (ht := fun hc => ?_) (hf := fun hc => ?_)
 ·
  have hr : refuse gs es c = 4 := if_pos hc
  obtain ⟨h1, h2⟩ := step_no (m := m) (hr) (by decide)
  rw [h1] at hes2
  rw [h2] at hmm
  subst hes2
  subst hmm
  obtain rfl : r = 4 := e1.symm.trans hr
  refine .seq ?_
  refine .region rfl ?_
  refine R.assign (h := ?_)
  refine .n0 ?_
  refine LGo.pack 0 1 (h := ?_)
  exact LGo.ret (ret_T Tryd.results31 hA hmd)
 ·
  have hR := refuse_L (es := es) hc
  rw [e1] at hR
  have hgt := hc
  simp only [Bool.or_eq_false_iff, decide_eq_false_iff_not] at hgt
  have hsl := sec_at hg2 c.gate.toNat
  refine .skip ?_
  refine .seq ?_
  refine .region rfl ?_
  first | refine R.loadB O62 (h := ?_) | refine R.load1 O62 (h := ?_)
  refine R.nilCheck (h := ?_)
  first | refine R.field F93_0 (h := ?_) | refine R.fieldAt F93_0 (h := ?_)
  first | refine R.field F25_0 (h := ?_) | refine R.fieldAt F25_0 (h := ?_)
  first | refine R.loadB O22 (h := ?_) | refine R.load1 O22 (h := ?_)
  first | refine R.field F31_0 (h := ?_) | refine R.fieldAt F31_0 (h := ?_)
  first | refine R.loadB O3 (h := ?_) | refine R.load1 O3 (h := ?_)
  refine R.index I22 (hj := fun hg => ⟨by omega, gt_at (by omega) (by omega)⟩) (h := ?_)
  first | refine R.loadA A59 (h := ?_) | refine R.loadN A59 (h := ?_) | refine R.loadP A59 (h := ?_)
  refine R.alloc Z59 (h := ?_)
  refine R.storeA A59 (h := ?_)
  refine Reg.nil ⟨fun _ => ⟨mixedO, by rfl, by rfl⟩, ?_⟩
  refine .seq ?_
  refine .region rfl ?_
  first | refine R.field F31_1 (h := ?_) | refine R.fieldAt F31_1 (h := ?_)
  first | refine R.field F29_0 (h := ?_) | refine R.fieldAt F29_0 (h := ?_)
  first | refine R.loadB O26 (h := ?_) | refine R.load1 O26 (h := ?_)
  first | refine R.field F31_1 (h := ?_) | refine R.fieldAt F31_1 (h := ?_)
  first | refine R.field F29_2 (h := ?_) | refine R.fieldAt F29_2 (h := ?_)
  first | refine R.loadB O27 (h := ?_) | refine R.load1 O27 (h := ?_)
  first | refine R.field F31_1 (h := ?_) | refine R.fieldAt F31_1 (h := ?_)
  first | refine R.field F29_3 (h := ?_) | refine R.fieldAt F29_3 (h := ?_)
  first | refine R.loadB O27 (h := ?_) | refine R.load1 O27 (h := ?_)
  first | refine R.field F31_0 (h := ?_) | refine R.fieldAt F31_0 (h := ?_)
  first | refine R.loadB O3 (h := ?_) | refine R.load1 O3 (h := ?_)
  first | refine R.field F31_3 (h := ?_) | refine R.fieldAt F31_3 (h := ?_)
  first | refine R.loadB O2 (h := ?_) | refine R.load1 O2 (h := ?_)
  refine R.build BF40 (is := [0, 1, 2, 3, 4]) (xs := [_, _, _, _, _]) (es := [_, _, _, _, _]) (h := ?_)
  refine R.alloc Z40 (h := ?_)
  refine R.storeA A40 (h := ?_)
  refine .n0 ?_
  refine .seq ?_
  refine .region rfl ?_
  first | refine R.loadA A40 (h := ?_) | refine R.loadN A40 (h := ?_) | refine R.loadP A40 (h := ?_)
  refine R.callP (es := [_]) (fun _ => keyOf_P c.ent hcu) (h := ?_)
  refine R.alloc Z69 (h := ?_)
  refine R.storeA A69 (h := ?_)
  refine .n0 ?_
  refine .seq ?_
  refine .region rfl ?_
  refine R.makeFunc (es := []) (fs := [_, _]) (h := ?_)
  refine R.build BF94 (is := [0, 1]) (xs := [_, _]) (es := [_, _]) (h := ?_)
  refine R.makeFunc (es := []) (fs := [_, _]) (h := ?_)
  refine R.build BF94 (is := [0, 1]) (xs := [_, _]) (es := [_, _]) (h := ?_)
  refine R.makeFunc (es := []) (fs := [_, _]) (h := ?_)
  refine R.build BF94 (is := [0, 1]) (xs := [_, _]) (es := [_, _]) (h := ?_)
  refine R.makeFunc (es := []) (fs := [_, _]) (h := ?_)
  refine R.build BF94 (is := [0, 1]) (xs := [_, _]) (es := [_, _]) (h := ?_)
  refine R.makeFunc (es := []) (fs := [_]) (h := ?_)
  refine R.build BF94 (is := [0, 1]) (xs := [_, _]) (es := [_, _]) (h := ?_)
  refine R.buildSliceSub AP95 (xs := [_, _, _, _, _]) (es := [_, _, _, _, _]) (hcs := CellsOfs.cons (CellsOf.agg rfl) (CellsOfs.cons (CellsOf.agg rfl) (CellsOfs.cons (CellsOf.agg rfl) (CellsOfs.cons (CellsOf.agg rfl) (CellsOfs.cons (CellsOf.agg rfl) CellsOfs.nil))))) (h := ?_)
  refine R.assign (h := ?_)
  refine .n0 ?_
  refine .seq ?_
  refine .seq ?_
  refine .region rfl ?_
  refine R.move (h := ?_)
  refine R.lenSub S95 (h := ?_)
  refine R.move (h := ?_)
  refine .n0 ?_
  refine .block ?_
  refine .loop ?_
  refine LGo.loopG (σ := Nat) (fun x => x ≤ 5 ∧ firstR ((refL gs es c).drop x) = r) (fun x => [(63, (true, .i (x : Nat)))]) (fun x => [(0, .box 93 [.sv (.sl 3 (gs.map GtG.c)), .ref 2, .ref 1]), (1, .raw (mapOb encK m)), (2, .rs 40 5 (es.map GtE.c)), (3, .box 62 [.ptr 0 0]), (4, .box 31 (c.c.map LV.sv)), (5, .box 59 ((gs.getD c.gate.toNat default).c.map LV.sv)), (6, .box 40 (c.ent.c.map LV.sv)), (7, .box 69 ((K3.v c.key).map LV.v)), (8, .box 94 [.i 15, .fn (.func 50) [] [.ptr 5 0, .ptr 4 0], .i 18, .fn (.func 52) [] [.ptr 5 0, .ptr 4 0], .i 13, .fn (.func 53) [] [.ptr 5 0, .ptr 4 0], .i 8, .fn (.func 54) [] [.ptr 3 0, .ptr 7 0], .i 5, .fn (.func 55) [] [.ptr 3 0]])]) (fun x => 5 - x) (0) [(2, _), (6, _), (7, _), (61, _), (62, _)] ⟨by omega, hR.symm⟩ (by repeat (first | exact trivial | refine ⟨rfl, ?_⟩)) (by repeat (first | exact trivial | refine ⟨rfl, ?_⟩)) (by repeat (first | exact trivial | refine ⟨rfl, ?_⟩)) ?_
  rintro k ⟨hk, hq⟩ ih
  refine .seq ?_
  refine .region rfl ?_
  refine R.bin (run_lss _ _ _ _ _ _) (h := ?_)
  refine .n0 ?_
  refine .seq ?_
  refine LGo.ifd (ht := fun hc2 => ?_) (hf := fun hc2 => ?_)
  ·
   refine .skip ?_
   refine .seq ?_
   refine .block ?_
   refine .seq ?_
   refine .region rfl ?_
   rcases (show k = 0 ∨ k = 1 ∨ k = 2 ∨ k = 3 ∨ k = 4 from by omega) with rfl | rfl | rfl | rfl | rfl
   ·
    refine R.indexSub I95 (hj := fun _ => ⟨by omega, by omega⟩) (h := ?_)
    refine R.loadP A94 (h := ?_)
    refine R.alloc Z94 (h := ?_)
    refine R.storeA A94 (h := ?_)
    refine .n0 ?_
    refine .seq ?_
    refine .region rfl ?_
    first | refine R.field F94_1 (h := ?_) | refine R.fieldAt F94_1 (h := ?_)
    first | refine R.loadB O33 (h := ?_) | refine R.load1 O33 (h := ?_)
    refine R.callX (es := []) (first := []) (cap := [_, _]) [5, 4] (cl1 (gs.getD c.gate.toNat default) hsl c) (h := ?_)
    refine .n0 ?_
    refine LGo.ifb (ht := fun hc3 => ?_) (hf := fun hc3 => ?_)
    ·
     have hq2 : (if (!(gs.getD c.gate.toNat default).secs.contains c.sec) = true then (15 : Int) else firstR ((refL gs es c).drop (0 + 1))) = r := hq
     rw [if_pos hc3] at hq2
     obtain ⟨h1, h2⟩ := step_no (m := m) (e1.trans hq2.symm) (by decide)
     rw [h1] at hes2
     rw [h2] at hmm
     subst hes2
     subst hmm
     subst hq2
     refine .seq ?_
     refine .region rfl ?_
     first | refine R.field F94_0 (h := ?_) | refine R.fieldAt F94_0 (h := ?_)
     first | refine R.loadB O35 (h := ?_) | refine R.load1 O35 (h := ?_)
     refine R.assign (h := ?_)
     refine .n0 ?_
     refine LGo.pack 0 1 (h := ?_)
     exact LGo.ret (ret_T Tryd.results31 hA hmd)
    ·
     have hq2 : (if (!(gs.getD c.gate.toNat default).secs.contains c.sec) = true then (15 : Int) else firstR ((refL gs es c).drop (0 + 1))) = r := hq
     rw [if_neg (by rw [hc3]; simp)] at hq2
     refine .skip ?_
     refine .inBlock ?_
     refine .region rfl ?_
     first | refine R.add (h := ?_) | refine R.addW (h := ?_)
     refine R.move (h := ?_)
     refine .n0 ?_
     refine .inLoop ?_
     exact LGo.next _ (fun o h => by have := (hA o).1 h; omega) (by omega) (ih (0 + 1) ⟨by omega, hq2⟩ (by omega)) (by repeat (first | exact trivial | refine ⟨rfl, ?_⟩)) ⟨rfl, rfl, rfl, rfl, rfl, rfl, rfl, rfl, rfl, trivial⟩
   ·
    refine R.indexSub I95 (hj := fun _ => ⟨by omega, by omega⟩) (h := ?_)
    refine R.loadP A94 (h := ?_)
    refine R.alloc Z94 (h := ?_)
    refine R.storeA A94 (h := ?_)
    refine .n0 ?_
    refine .seq ?_
    refine .region rfl ?_
    first | refine R.field F94_1 (h := ?_) | refine R.fieldAt F94_1 (h := ?_)
    first | refine R.loadB O33 (h := ?_) | refine R.load1 O33 (h := ?_)
    refine R.callX (es := []) (first := []) (cap := [_, _]) [5, 4] (cl2 (gs.getD c.gate.toNat default) hsl c) (h := ?_)
    refine .n0 ?_
    refine LGo.ifb (ht := fun hc4 => ?_) (hf := fun hc4 => ?_)
    ·
     have hq2 : (if (decide (openI (gs.getD c.gate.toNat default) c.now < 0)) = true then (18 : Int) else firstR ((refL gs es c).drop (1 + 1))) = r := hq
     rw [if_pos hc4] at hq2
     obtain ⟨h1, h2⟩ := step_no (m := m) (e1.trans hq2.symm) (by decide)
     rw [h1] at hes2
     rw [h2] at hmm
     subst hes2
     subst hmm
     subst hq2
     refine .seq ?_
     refine .region rfl ?_
     first | refine R.field F94_0 (h := ?_) | refine R.fieldAt F94_0 (h := ?_)
     first | refine R.loadB O35 (h := ?_) | refine R.load1 O35 (h := ?_)
     refine R.assign (h := ?_)
     refine .n0 ?_
     refine LGo.pack 0 1 (h := ?_)
     exact LGo.ret (ret_T Tryd.results31 hA hmd)
    ·
     have hq2 : (if (decide (openI (gs.getD c.gate.toNat default) c.now < 0)) = true then (18 : Int) else firstR ((refL gs es c).drop (1 + 1))) = r := hq
     rw [if_neg (by rw [hc4]; simp)] at hq2
     refine .skip ?_
     refine .inBlock ?_
     refine .region rfl ?_
     first | refine R.add (h := ?_) | refine R.addW (h := ?_)
     refine R.move (h := ?_)
     refine .n0 ?_
     refine .inLoop ?_
     exact LGo.next _ (fun o h => by have := (hA o).1 h; omega) (by omega) (ih (1 + 1) ⟨by omega, hq2⟩ (by omega)) (by repeat (first | exact trivial | refine ⟨rfl, ?_⟩)) ⟨rfl, rfl, rfl, rfl, rfl, rfl, rfl, rfl, rfl, trivial⟩
   ·
    refine R.indexSub I95 (hj := fun _ => ⟨by omega, by omega⟩) (h := ?_)
    refine R.loadP A94 (h := ?_)
    refine R.alloc Z94 (h := ?_)
    refine R.storeA A94 (h := ?_)
    refine .n0 ?_
    refine .seq ?_
    refine .region rfl ?_
    first | refine R.field F94_1 (h := ?_) | refine R.fieldAt F94_1 (h := ?_)
    first | refine R.loadB O33 (h := ?_) | refine R.load1 O33 (h := ?_)
    refine R.callX (es := []) (first := []) (cap := [_, _]) [5, 4] (cl3 (gs.getD c.gate.toNat default) hsl c) (h := ?_)
    refine .n0 ?_
    refine LGo.ifb (ht := fun hc5 => ?_) (hf := fun hc5 => ?_)
    ·
     have hq2 : (if (decide (openI (gs.getD c.gate.toNat default) c.now > 0)) = true then (13 : Int) else firstR ((refL gs es c).drop (2 + 1))) = r := hq
     rw [if_pos hc5] at hq2
     obtain ⟨h1, h2⟩ := step_no (m := m) (e1.trans hq2.symm) (by decide)
     rw [h1] at hes2
     rw [h2] at hmm
     subst hes2
     subst hmm
     subst hq2
     refine .seq ?_
     refine .region rfl ?_
     first | refine R.field F94_0 (h := ?_) | refine R.fieldAt F94_0 (h := ?_)
     first | refine R.loadB O35 (h := ?_) | refine R.load1 O35 (h := ?_)
     refine R.assign (h := ?_)
     refine .n0 ?_
     refine LGo.pack 0 1 (h := ?_)
     exact LGo.ret (ret_T Tryd.results31 hA hmd)
    ·
     have hq2 : (if (decide (openI (gs.getD c.gate.toNat default) c.now > 0)) = true then (13 : Int) else firstR ((refL gs es c).drop (2 + 1))) = r := hq
     rw [if_neg (by rw [hc5]; simp)] at hq2
     refine .skip ?_
     refine .inBlock ?_
     refine .region rfl ?_
     first | refine R.add (h := ?_) | refine R.addW (h := ?_)
     refine R.move (h := ?_)
     refine .n0 ?_
     refine .inLoop ?_
     exact LGo.next _ (fun o h => by have := (hA o).1 h; omega) (by omega) (ih (2 + 1) ⟨by omega, hq2⟩ (by omega)) (by repeat (first | exact trivial | refine ⟨rfl, ?_⟩)) ⟨rfl, rfl, rfl, rfl, rfl, rfl, rfl, rfl, rfl, trivial⟩
   ·
    refine R.indexSub I95 (hj := fun _ => ⟨by omega, by omega⟩) (h := ?_)
    refine R.loadP A94 (h := ?_)
    refine R.alloc Z94 (h := ?_)
    refine R.storeA A94 (h := ?_)
    refine .n0 ?_
    refine .seq ?_
    refine .region rfl ?_
    first | refine R.field F94_1 (h := ?_) | refine R.fieldAt F94_1 (h := ?_)
    first | refine R.loadB O33 (h := ?_) | refine R.load1 O33 (h := ?_)
    refine R.callX (es := []) (first := []) (cap := [_, _]) [3, 0, 2, 1, 7] (cl4 (gs.map GtG.c) es m c.key) (h := ?_)
    rw [hm]
    refine .n0 ?_
    refine LGo.ifb (ht := fun hc6 => ?_) (hf := fun hc6 => ?_)
    ·
     have hq2 : (if (hasK c.key es) = true then (8 : Int) else firstR ((refL gs es c).drop (3 + 1))) = r := hq
     rw [if_pos hc6] at hq2
     obtain ⟨h1, h2⟩ := step_no (m := m) (e1.trans hq2.symm) (by decide)
     rw [h1] at hes2
     rw [h2] at hmm
     subst hes2
     subst hmm
     subst hq2
     refine .seq ?_
     refine .region rfl ?_
     first | refine R.field F94_0 (h := ?_) | refine R.fieldAt F94_0 (h := ?_)
     first | refine R.loadB O35 (h := ?_) | refine R.load1 O35 (h := ?_)
     refine R.assign (h := ?_)
     refine .n0 ?_
     refine LGo.pack 0 1 (h := ?_)
     exact LGo.ret (ret_T Tryd.results31 hA hmd)
    ·
     have hq2 : (if (hasK c.key es) = true then (8 : Int) else firstR ((refL gs es c).drop (3 + 1))) = r := hq
     rw [if_neg (by rw [hc6]; simp)] at hq2
     refine .skip ?_
     refine .inBlock ?_
     refine .region rfl ?_
     first | refine R.add (h := ?_) | refine R.addW (h := ?_)
     refine R.move (h := ?_)
     refine .n0 ?_
     refine .inLoop ?_
     exact LGo.next _ (fun o h => by have := (hA o).1 h; omega) (by omega) (ih (3 + 1) ⟨by omega, hq2⟩ (by omega)) (by repeat (first | exact trivial | refine ⟨rfl, ?_⟩)) ⟨rfl, rfl, rfl, rfl, rfl, rfl, rfl, rfl, rfl, trivial⟩
   ·
    refine R.indexSub I95 (hj := fun _ => ⟨by omega, by omega⟩) (h := ?_)
    refine R.loadP A94 (h := ?_)
    refine R.alloc Z94 (h := ?_)
    refine R.storeA A94 (h := ?_)
    refine .n0 ?_
    refine .seq ?_
    refine .region rfl ?_
    first | refine R.field F94_1 (h := ?_) | refine R.fieldAt F94_1 (h := ?_)
    first | refine R.loadB O33 (h := ?_) | refine R.load1 O33 (h := ?_)
    refine R.callX (es := []) (first := []) (cap := [_]) [3, 0, 2, 1] (cl5 (gs.map GtG.c) es m) (h := ?_)
    refine .n0 ?_
    refine LGo.ifb (ht := fun hc7 => ?_) (hf := fun hc7 => ?_)
    ·
     have hq2 : (if (decide ((es.length : Int) = 500)) = true then (5 : Int) else firstR ((refL gs es c).drop (4 + 1))) = r := hq
     rw [if_pos hc7] at hq2
     obtain ⟨h1, h2⟩ := step_no (m := m) (e1.trans hq2.symm) (by decide)
     rw [h1] at hes2
     rw [h2] at hmm
     subst hes2
     subst hmm
     subst hq2
     refine .seq ?_
     refine .region rfl ?_
     first | refine R.field F94_0 (h := ?_) | refine R.fieldAt F94_0 (h := ?_)
     first | refine R.loadB O35 (h := ?_) | refine R.load1 O35 (h := ?_)
     refine R.assign (h := ?_)
     refine .n0 ?_
     refine LGo.pack 0 1 (h := ?_)
     exact LGo.ret (ret_T Tryd.results31 hA hmd)
    ·
     have hq2 : (if (decide ((es.length : Int) = 500)) = true then (5 : Int) else firstR ((refL gs es c).drop (4 + 1))) = r := hq
     rw [if_neg (by rw [hc7]; simp)] at hq2
     refine .skip ?_
     refine .inBlock ?_
     refine .region rfl ?_
     first | refine R.add (h := ?_) | refine R.addW (h := ?_)
     refine R.move (h := ?_)
     refine .n0 ?_
     refine .inLoop ?_
     exact LGo.next _ (fun o h => by have := (hA o).1 h; omega) (by omega) (ih (4 + 1) ⟨by omega, hq2⟩ (by omega)) (by repeat (first | exact trivial | refine ⟨rfl, ?_⟩)) ⟨rfl, rfl, rfl, rfl, rfl, rfl, rfl, rfl, rfl, trivial⟩
  ·
   obtain rfl : k = 5 := by omega
   have hq0 : (0 : Int) = r := hq
   obtain ⟨h1, h2⟩ := step_yes (m := m) (e1.trans hq0.symm)
   rw [h1] at hes2
   rw [h2] at hmm
   subst hes2
   subst hmm
   subst hq0
   refine .exit rfl ?_
   refine .seq ?_
   refine .region rfl ?_
   first | refine R.loadB O62 (h := ?_) | refine R.load1 O62 (h := ?_)
   refine R.nilCheck (h := ?_)
   first | refine R.field F93_1 (h := ?_) | refine R.fieldAt F93_1 (h := ?_)
   first | refine R.loadB O91 (h := ?_) | refine R.load1 O91 (h := ?_)
   first | refine R.loadA A69 (h := ?_) | refine R.loadN A69 (h := ?_) | refine R.loadP A69 (h := ?_)
   first | refine R.loadB O62 (h := ?_) | refine R.load1 O62 (h := ?_)
   refine R.nilCheck (h := ?_)
   first | refine R.field F93_0 (h := ?_) | refine R.fieldAt F93_0 (h := ?_)
   first | refine R.field F25_1 (h := ?_) | refine R.fieldAt F25_1 (h := ?_)
   first | refine R.loadB O23 (h := ?_) | refine R.load1 O23 (h := ?_)
   first | refine R.len S23 (h := ?_) | refine R.lenRs S23 (h := ?_) | refine R.lenV (run_lenNil S23) (h := ?_)
   rw [List.length_map]
   refine R.mapUpd (enc := encK) (a := c.key) Tryd.underlying91 keyF (Told.agg (xs := K3.v c.key)) (h := ?_)
   refine Reg.nil ⟨fun _ => ⟨mixedO, by rfl, by rfl⟩, ?_⟩
   refine .seq ?_
   refine .region rfl ?_
   first | refine R.loadB O62 (h := ?_) | refine R.load1 O62 (h := ?_)
   first | refine R.loadB O62 (h := ?_) | refine R.load1 O62 (h := ?_)
   refine R.nilCheck (h := ?_)
   first | refine R.field F93_0 (h := ?_) | refine R.fieldAt F93_0 (h := ?_)
   first | refine R.field F25_1 (h := ?_) | refine R.fieldAt F25_1 (h := ?_)
   first | refine R.loadB O23 (h := ?_) | refine R.load1 O23 (h := ?_)
   first | refine R.loadA A40 (h := ?_) | refine R.loadN A40 (h := ?_) | refine R.loadP A40 (h := ?_)
   refine R.buildSliceG AP23 (xs := [_]) (es := [_]) (hcs := CellsOfs.cons (CellsOf.agg rfl) CellsOfs.nil) (h := ?_)
   refine R.appendS AP23 (hs := SrcOk.sl Tryd.underlying23 (by simp; rfl)) (hlen := by rw [List.length_map]; simp; omega) (h := ?_)
   rw [show (es.map GtE.c ++ [List.map unSv (List.map LV.sv c.ent.c)]) = (es ++ [c.ent]).map GtE.c from by simp; rfl]
   refine R.nilCheck (h := ?_)
   first | refine R.field F93_0 (h := ?_) | refine R.fieldAt F93_0 (h := ?_)
   first | refine R.field F25_1 (h := ?_) | refine R.fieldAt F25_1 (h := ?_)
   refine R.storeB O23 (h := ?_)
   refine Reg.nil ⟨fun _ => ⟨mixedO, by rfl, by rfl⟩, ?_⟩
   refine .seq ?_
   refine .region rfl ?_
   refine R.assign (h := ?_)
   refine .n0 ?_
   refine LGo.pack 0 1 (h := ?_)
   exact LGo.ret (ret_T Tryd.results31 hA hmd)

end Go.Proofs.YtgcjjndhohellaaDoor
