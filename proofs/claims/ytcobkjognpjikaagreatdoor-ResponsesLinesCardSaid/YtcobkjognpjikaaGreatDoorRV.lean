/- responses: the check. -/
import Derived.Test.YtcobkjognpjikaaGreatDoorRU
set_option linter.unusedSimpArgs false
set_option linter.unusedVariables false
namespace Go.Proofs.YtcobkjognpjikaaGreatDoor

def errS (x : Rule) (f : Fld) (e : Int) : Int := if (decide (x.kind = 1) && (decide (f.num < x.low) || decide (x.high < f.num))) = true then 7 else if ((decide (x.kind = 2) && !decide ((f.txt.length : Int) = x.low)) && decide (e = 0)) = true then 3 else e
def restJ (r : Rs) (l : List Int) : Rs := l.foldl (fun a t => putS a ⟨t, 0, []⟩) { r with kind := 0, id := 0, err := 0 }
def errJ (r : Rs) (l : List Int) : Int := l.foldl (fun e t => errS (limitS r.kind t) (fieldS r t) e) 0
theorem restJ_snoc (r : Rs) (l : List Int) (t : Int) : restJ r (l ++ [t]) = putS (restJ r l) ⟨t, 0, []⟩ := by simp [restJ, List.foldl_append]
theorem errJ_snoc (r : Rs) (l : List Int) (t : Int) : errJ r (l ++ [t]) = errS (limitS r.kind t) (fieldS r t) (errJ r l) := by simp [errJ, List.foldl_append]
def neZ (r : Rs) : Bool := !((((((((decide (r.kind = 0) && decide (r.id = 0)) && decide (r.err = 0)) && decide (r.ses = [])) && decide (r.tic = [])) && decide (r.seat = 0)) && decide (r.n = 0)) && decide (r.place = 0)) && decide (r.dl = 0))
def checkS (r : Rs) : Int := if ((!knownS r.kind) || (decide (r.kind = 0) && ((!decide (r.id = 0)) || !decide (r.err = 11)))) = true then 2 else if neZ (restJ r (tagsT r.kind r.err)) = true then 2 else errJ r (tagsT r.kind r.err)
theorem fieldS_len (r : Rs) (hr : RsOk r) (t : Int) : (fieldS r t).txt.length ≤ maxLen := by
  have h1 := hr.ses
  have h2 := hr.tic
  unfold fieldS valS
  (repeat' split) <;> simp [VV.f, *]

theorem checkS_P (r : Rs) (hr : RsOk r) : PC Tryz.prog 17 [.agg (r.c.map LV.sv)] (.i (checkS r)) := by
 refine ⟨LC.of_go Tryz.func17 (c := _) rfl (by kernel_rfl) (by rw [Tryz.ntmps17]; simp) rfl rfl (by simp [LO.lt, LV.lts, LV.lt]) (by simp) ?_⟩
 intro B hA hmd
 obtain ⟨g, e0⟩ : ∃ g, checkS r = g := ⟨_, rfl⟩
 have e1 := e0
 unfold checkS at e1
 rw [e0]
 refine .seq ?_
 refine .region rfl ?_
 refine R.box (h := ?_)
 refine R.assign (h := ?_)
 refine .n0 ?_
 refine .seq ?_
 refine .seq ?_
 refine .region rfl ?_
 first | refine R.field F25_0 (h := ?_) | refine R.fieldAt F25_0 (h := ?_)
 first | refine R.loadB O3 (h := ?_) | refine R.load1 O3 (h := ?_)
 refine R.callP (es := [_]) (fun _ => knownS_P r.kind) (h := ?_)
 refine R.not (h := ?_)
 refine R.move (h := ?_)
 first | refine R.field F25_0 (h := ?_) | refine R.fieldAt F25_0 (h := ?_)
 first | refine R.loadB O3 (h := ?_) | refine R.load1 O3 (h := ?_)
 refine R.bin (run_eql _ _ _ _ _ _) (h := ?_)
 refine R.move (h := ?_)
 first | refine R.field F25_1 (h := ?_) | refine R.fieldAt F25_1 (h := ?_)
 first | refine R.loadB O22 (h := ?_) | refine R.load1 O22 (h := ?_)
 refine R.bin (run_neq _ _ _ _ _ _) (h := ?_)
 refine R.move (h := ?_)
 first | refine R.field F25_2 (h := ?_) | refine R.fieldAt F25_2 (h := ?_)
 first | refine R.loadB O23 (h := ?_) | refine R.load1 O23 (h := ?_)
 refine R.bin (run_neq _ _ _ _ _ _) (h := ?_)
 refine R.or (hgy := fun h1 h2 => by rw [h1, h2]; rfl) (h := ?_)
 refine R.and (h := ?_)
 refine R.or (h := ?_)
 refine .n0 ?_
 refine LGo.ifb (ht := fun hc => ?_) (hf := fun hc => ?_)
 ·
  rw [if_pos hc] at e1; rw [← e1]
  refine .seq ?_
  refine .region rfl ?_
  refine R.assign (h := ?_)
  refine .n0 ?_
  exact LGo.ret (ret_T Tryz.results17 hA hmd)
 ·
  rw [if_neg (by rw [hc]; simp)] at e1
  refine .skip ?_
  refine .seq ?_
  refine .region rfl ?_
  first | refine R.loadA A25 (h := ?_) | refine R.loadN A25 (h := ?_) | refine R.loadP A25 (h := ?_)
  refine R.alloc Z25 (h := ?_)
  refine R.storeA A25 (h := ?_)
  refine .n0 ?_
  refine .seq ?_
  refine .region rfl ?_
  first | refine R.field F25_0 (h := ?_) | refine R.fieldAt F25_0 (h := ?_)
  refine R.storeB O3 (h := ?_)
  first | refine R.field F25_1 (h := ?_) | refine R.fieldAt F25_1 (h := ?_)
  refine R.storeB O22 (h := ?_)
  first | refine R.field F25_2 (h := ?_) | refine R.fieldAt F25_2 (h := ?_)
  refine R.storeB O23 (h := ?_)
  refine .n0 ?_
  refine .seq ?_
  refine .region rfl ?_
  refine R.alloc Z23 (h := ?_)
  refine R.storeB O23 (h := ?_)
  refine .n0 ?_
  refine .seq ?_
  refine .seq ?_
  refine .region rfl ?_
  first | refine R.field F25_0 (h := ?_) | refine R.fieldAt F25_0 (h := ?_)
  first | refine R.loadB O3 (h := ?_) | refine R.load1 O3 (h := ?_)
  first | refine R.field F25_2 (h := ?_) | refine R.fieldAt F25_2 (h := ?_)
  first | refine R.loadB O23 (h := ?_) | refine R.load1 O23 (h := ?_)
  refine R.callN (es := [_, _]) (tags_L r.kind r.err) (h := ?_)
  refine .n0 ?_
  refine .block ?_
  refine LGo.keep [(1, (true, .ptr 0 0)), (3, (true, .ptr 1 0)), (4, (true, .ptr 2 0)), (35, (true, .fn (.func 45) [] [.ptr 4 0, .ptr 3 0]))] [(0, .box 25 (r.c.map LV.sv)), (1, .box 25 ((restJ r ((tagsT r.kind r.err).take 0)).c.map LV.sv)), (2, .box 23 [.i (errJ r ((tagsT r.kind r.err).take 0))]), (3, .box 3 [.i r.kind]), (4, .box 23 [.i r.err])] (by repeat (first | exact trivial | refine ⟨rfl, ?_⟩)) (by repeat (first | exact trivial | refine ⟨rfl, ?_⟩)) ?_
  refine LGo.rangeN (fun fn ac bc => [(0, .box 25 (r.c.map LV.sv)), (1, .box 25 ((restJ r ((tagsT r.kind r.err).take (tagsT r.kind r.err).length)).c.map LV.sv)), (2, .box 23 [.i (errJ r ((tagsT r.kind r.err).take (tagsT r.kind r.err).length))]), (3, .box 3 [.i r.kind]), (4, .box 23 [.i r.err]), (5, .raw (.deferred (some []))), (6, .loop fn Tryz.f17.ntmps [(1, (true, .ptr 0 0)), (3, (true, .ptr 1 0)), (4, (true, .ptr 2 0)), (35, (true, .fn (.func 45) [] [.ptr 4 0, .ptr 3 0]))] #[36] ac bc .ready none)]) (hit := fun fn ac bc hac hbc => ?_) (h := fun fn => ?_)
  ·
   suffices hgo : YGo Tryz.prog 6 7 ((tagsT r.kind r.err).map LV.i) (HoldsT 4 3 r.kind r.err) (fun j => [(0, .box 25 (r.c.map LV.sv)), (1, .box 25 ((restJ r ((tagsT r.kind r.err).take j)).c.map LV.sv)), (2, .box 23 [.i (errJ r ((tagsT r.kind r.err).take j))]), (3, .box 3 [.i r.kind]), (4, .box 23 [.i r.err]), (5, .raw (.deferred (some []))), (6, .loop fn Tryz.f17.ntmps [(1, (true, .ptr 0 0)), (3, (true, .ptr 1 0)), (4, (true, .ptr 2 0)), (35, (true, .fn (.func 45) [] [.ptr 4 0, .ptr 3 0]))] #[36] ac bc .ready none)]) from by
     have hr := tags1_L r.kind r.err (by decide) (by decide) (by decide) hgo
     exact hr
   refine ⟨fun j hj => rfl, fun j hj => by simp [LO.lt, LV.lts, LV.lt, lts_sv], fun j hj => ⟨rfl, rfl⟩, fun j hj => ?_⟩
   have hj' : j < (tagsT r.kind r.err).length := by simpa using hj
   rw [List.getElem_map]
   have htk : (tagsT r.kind r.err).take (j + 1) = (tagsT r.kind r.err).take j ++ [(tagsT r.kind r.err)[j]] := by rw [List.take_succ_eq_append_getElem hj']
   try dsimp only
   rw [htk, restJ_snoc, errJ_snoc]
   generalize errJ r ((tagsT r.kind r.err).take j) = ej at *
   generalize restJ r ((tagsT r.kind r.err).take j) = rj at *
   generalize (tagsT r.kind r.err)[j] = t at *
   refine Yld.walk 7 ((5, (true, .i t)) :: (36, (true, .i t)) :: [(1, (true, .ptr 0 0)), (3, (true, .ptr 1 0)), (4, (true, .ptr 2 0)), (35, (true, .fn (.func 45) [] [.ptr 4 0, .ptr 3 0]))]) (hpN := by rw [show Tryz.f17.ntmps = 87 from Tryz.ntmps17]; simp) (hA := ?_) (hB := ?_)
   · intro l B' hA' hmd'; subst hac
     refine .region rfl ?_
     refine R.assign (h := ?_)
     refine .n0 ?_
     exact LGo.done (fun cx a w hr => ⟨rfl, cx, hr⟩)
   · intro l B' hA' hmd'; subst hbc
     refine .block ?_
     refine .seq ?_
     refine .region rfl ?_
     have hfl := fieldS_len r hr t
     first | refine R.loadA A25 (h := ?_) | refine R.loadN A25 (h := ?_) | refine R.loadP A25 (h := ?_)
     refine R.move (h := ?_)
     refine R.callP (es := [_, _]) (fun _ => fieldS_P r t) (h := ?_)
     first | refine R.field F25_0 (h := ?_) | refine R.fieldAt F25_0 (h := ?_)
     first | refine R.loadB O3 (h := ?_) | refine R.load1 O3 (h := ?_)
     refine R.move (h := ?_)
     refine R.callP (es := [_, _]) (fun _ => limitS_P r.kind t) (h := ?_)
     refine R.alloc Z55 (h := ?_)
     refine R.alloc Z88 (h := ?_)
     refine R.storeA A55 (h := ?_)
     refine R.storeA A88 (h := ?_)
     refine Reg.nil ⟨fun _ => ⟨mixedO, by rfl, by rfl⟩, ?_⟩
     refine .seq ?_
     refine .region rfl ?_
     first | refine R.loadA A25 (h := ?_) | refine R.loadN A25 (h := ?_) | refine R.loadP A25 (h := ?_)
     refine R.move (h := ?_)
     refine R.build BF55 (is := [0]) (xs := [_]) (es := [_]) (h := ?_)
     refine R.callP (es := [_, _]) (fun _ => putS_P rj ⟨t, 0, []⟩) (h := ?_)
     refine R.storeA A25 (h := ?_)
     refine .n0 ?_
     refine .block ?_
     refine .seq ?_
     refine .region rfl ?_
     first | refine R.field F88_1 (h := ?_) | refine R.fieldAt F88_1 (h := ?_)
     first | refine R.loadB O3 (h := ?_) | refine R.load1 O3 (h := ?_)
     refine R.bin (run_eql _ _ _ _ _ _) (h := ?_)
     refine R.move (h := ?_)
     first | refine R.field F55_1 (h := ?_) | refine R.fieldAt F55_1 (h := ?_)
     first | refine R.loadB O22 (h := ?_) | refine R.load1 O22 (h := ?_)
     first | refine R.field F88_2 (h := ?_) | refine R.fieldAt F88_2 (h := ?_)
     first | refine R.loadB O22 (h := ?_) | refine R.load1 O22 (h := ?_)
     refine R.bin (run_lss _ _ _ _ _ _) (h := ?_)
     refine R.move (h := ?_)
     first | refine R.field F55_1 (h := ?_) | refine R.fieldAt F55_1 (h := ?_)
     first | refine R.loadB O22 (h := ?_) | refine R.load1 O22 (h := ?_)
     first | refine R.field F88_3 (h := ?_) | refine R.fieldAt F88_3 (h := ?_)
     first | refine R.loadB O22 (h := ?_) | refine R.load1 O22 (h := ?_)
     refine R.bin (run_gtr _ _ _ _ _ _) (h := ?_)
     refine R.or (h := ?_)
     refine R.and (h := ?_)
     refine R.assign (h := ?_)
     refine .n0 ?_
     refine LGo.ifb (ht := fun hc2 => ?_) (hf := fun hc2 => ?_)
     ·
      rw [show errS (limitS r.kind t) (fieldS r t) ej = 7 from if_pos hc2]
      refine .region rfl ?_
      refine R.storeB O23 (h := ?_)
      refine .n0 ?_
      refine .inBlock ?_
      refine .inBlock ?_
      refine LGo.drop 7 (fun o h => (hA' o).1 h) (by omega) [] ((6, .loop fn Tryz.f17.ntmps [(1, (true, .ptr 0 0)), (3, (true, .ptr 1 0)), (4, (true, .ptr 2 0)), (35, (true, .fn (.func 45) [] [.ptr 4 0, .ptr 3 0]))] #[36] ac _ .busy none) :: (5, .raw (.deferred (some []))) :: [(0, .box 25 (r.c.map LV.sv)), (1, .box 25 ((putS rj ⟨t, 0, []⟩).c.map LV.sv)), (2, .box 23 [.i 7]), (3, .box 3 [.i r.kind]), (4, .box 23 [.i r.err])]) trivial (by repeat (first | exact trivial | refine ⟨rfl, ?_⟩)) (by simp) (by simp [LO.lt, LV.lts, LV.lt, lts_sv]) (h := ?_)
      refine LGo.done (RoundEnd.go rfl (fun o z hz hne => ?_) rfl)
      rcases o with _ | _ | _ | _ | _ | _ | _ | o <;> first | exact absurd rfl hne | exact hz
     ·
      refine .seq ?_
      refine .region rfl ?_
      first | refine R.field F88_1 (h := ?_) | refine R.fieldAt F88_1 (h := ?_)
      first | refine R.loadB O3 (h := ?_) | refine R.load1 O3 (h := ?_)
      refine R.bin (run_eql _ _ _ _ _ _) (h := ?_)
      refine R.move (h := ?_)
      first | refine R.field F55_2 (h := ?_) | refine R.fieldAt F55_2 (h := ?_)
      first | refine R.loadB O9 (h := ?_) | refine R.load1 O9 (h := ?_)
      refine R.lenT Tryz.runUnderlying9 (h := ?_)
      refine R.convW Tryz.runUnderlying3 Tryz.runUnderlying22 (h := ?_)
      rw [show IntKind.u64.wrap ((fieldS r t).txt.length : Int) = ((fieldS r t).txt.length : Int) from by rw [IntKind.wrap_u64]; unfold maxLen at hfl; omega]
      first | refine R.field F88_2 (h := ?_) | refine R.fieldAt F88_2 (h := ?_)
      first | refine R.loadB O22 (h := ?_) | refine R.load1 O22 (h := ?_)
      refine R.bin (run_neq _ _ _ _ _ _) (h := ?_)
      refine R.and (h := ?_)
      refine R.move (h := ?_)
      first | refine R.loadB O23 (h := ?_) | refine R.load1 O23 (h := ?_)
      refine R.bin (run_eql _ _ _ _ _ _) (h := ?_)
      refine R.and (h := ?_)
      refine R.assign (h := ?_)
      refine .n0 ?_
      refine LGo.ifb (ht := fun hc3 => ?_) (hf := fun hc3 => ?_)
      ·
       rw [show errS (limitS r.kind t) (fieldS r t) ej = 3 from by unfold errS; rw [if_neg (by rw [hc2]; simp), if_pos hc3]]
       refine .region rfl ?_
       refine R.storeB O23 (h := ?_)
       refine .n0 ?_
       refine .inBlock ?_
       refine .inBlock ?_
       refine LGo.drop 7 (fun o h => (hA' o).1 h) (by omega) [] ((6, .loop fn Tryz.f17.ntmps [(1, (true, .ptr 0 0)), (3, (true, .ptr 1 0)), (4, (true, .ptr 2 0)), (35, (true, .fn (.func 45) [] [.ptr 4 0, .ptr 3 0]))] #[36] ac _ .busy none) :: (5, .raw (.deferred (some []))) :: [(0, .box 25 (r.c.map LV.sv)), (1, .box 25 ((putS rj ⟨t, 0, []⟩).c.map LV.sv)), (2, .box 23 [.i 3]), (3, .box 3 [.i r.kind]), (4, .box 23 [.i r.err])]) trivial (by repeat (first | exact trivial | refine ⟨rfl, ?_⟩)) (by simp) (by simp [LO.lt, LV.lts, LV.lt, lts_sv]) (h := ?_)
       refine LGo.done (RoundEnd.go rfl (fun o z hz hne => ?_) rfl)
       rcases o with _ | _ | _ | _ | _ | _ | _ | o <;> first | exact absurd rfl hne | exact hz
      ·
       rw [show errS (limitS r.kind t) (fieldS r t) ej = ej from by unfold errS; rw [if_neg (by rw [hc2]; simp), if_neg (by rw [hc3]; simp)]]
       refine .skip ?_
       refine .inBlock ?_
       refine .inBlock ?_
       refine LGo.drop 7 (fun o h => (hA' o).1 h) (by omega) [] ((6, .loop fn Tryz.f17.ntmps [(1, (true, .ptr 0 0)), (3, (true, .ptr 1 0)), (4, (true, .ptr 2 0)), (35, (true, .fn (.func 45) [] [.ptr 4 0, .ptr 3 0]))] #[36] ac _ .busy none) :: (5, .raw (.deferred (some []))) :: [(0, .box 25 (r.c.map LV.sv)), (1, .box 25 ((putS rj ⟨t, 0, []⟩).c.map LV.sv)), (2, .box 23 [.i ej]), (3, .box 3 [.i r.kind]), (4, .box 23 [.i r.err])]) trivial (by repeat (first | exact trivial | refine ⟨rfl, ?_⟩)) (by simp) (by simp [LO.lt, LV.lts, LV.lt, lts_sv]) (h := ?_)
       refine LGo.done (RoundEnd.go rfl (fun o z hz hne => ?_) rfl)
       rcases o with _ | _ | _ | _ | _ | _ | _ | o <;> first | exact absurd rfl hne | exact hz
  ·
   rw [List.take_length]
   refine .inBlock ?_
   refine .seq ?_
   refine .seq ?_
   refine .region rfl ?_
   first | refine R.loadA A25 (h := ?_) | refine R.loadN A25 (h := ?_) | refine R.loadP A25 (h := ?_)
   refine R.build BF25 (is := []) (xs := []) (es := []) (h := ?_)
   refine R.binA (NE25 _ _ _ _ _ _ _ _ _ _ _ _ _ _ _ _ _ _ _ _) (h := ?_)
   refine .n0 ?_
   refine LGo.ifb (ht := fun hc4 => ?_) (hf := fun hc4 => ?_)
   ·
    rw [if_pos (show neZ (restJ r (tagsT r.kind r.err)) = true from hc4)] at e1; rw [← e1]
    refine .seq ?_
    refine .region rfl ?_
    refine R.assign (h := ?_)
    refine .n0 ?_
    exact LGo.ret (FnPost.mark (by rfl) (ret_T Tryz.results17 hA hmd))
   ·
    rw [if_neg (show ¬ neZ (restJ r (tagsT r.kind r.err)) = true from by rw [show neZ (restJ r (tagsT r.kind r.err)) = false from hc4]; simp)] at e1; rw [← e1]
    refine .skip ?_
    refine .seq ?_
    refine .region rfl ?_
    first | refine R.loadB O23 (h := ?_) | refine R.load1 O23 (h := ?_)
    refine R.assign (h := ?_)
    refine .n0 ?_
    exact LGo.ret (FnPost.mark (by rfl) (ret_T Tryz.results17 hA hmd))

end Go.Proofs.YtcobkjognpjikaaGreatDoor
