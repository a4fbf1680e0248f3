/- responses: the rules of a response, its check. -/
import Derived.Test.YtcobkjognpjikaaGreatDoorRT
import Derived.Test.YtcobkjognpjikaaGreatDoorQA
import Derived.Test.YtcobkjognpjikaaGreatDoorQB
set_option linter.unusedSimpArgs false
set_option linter.unusedVariables false
namespace Go.Proofs.YtcobkjognpjikaaGreatDoor

def limitsS (k e : Int) : List Rule := (tagsT k e).map (limitS k)

theorem limitsS_P (kd er : Int) : PC Tryz.prog 31 [.i kd, .i er] (.sv (.sl 5 ((limitsS kd er).map Rule.c))) := by
 refine ⟨LC.of_go Tryz.func31 (c := _) rfl (by kernel_rfl) (by rw [Tryz.ntmps31]; simp) rfl rfl (by simp [LO.lt, LV.lts, LV.lt]) (by simp) ?_⟩
 intro B hA hmd
 have htl := tagsT_len kd er
 unfold limitsS
 refine .seq ?_
 refine .region rfl ?_
 refine R.box (h := ?_)
 refine R.assign (h := ?_)
 refine .n0 ?_
 refine .seq ?_
 refine .region rfl ?_
 refine R.alloc Z72 (h := ?_)
 refine .n0 ?_
 refine .seq ?_
 refine .seq ?_
 refine .region rfl ?_
 first | refine R.loadB O3 (h := ?_) | refine R.load1 O3 (h := ?_)
 refine R.move (h := ?_)
 refine R.callN (es := [_, _]) (tags_L kd er) (h := ?_)
 refine .n0 ?_
 refine .block ?_
 refine LGo.packNil 1 0 88 5 (h := ?_)
 refine LGo.keep [(1, (true, .i er)), (2, (true, .ptr 0 0)), (5, (true, .ptr 1 0)), (9, (true, .fn (.func 45) [] [.ptr 3 0, .ptr 2 0]))] [(0, .box 3 [.i kd]), (1, .bx 72 [.v undef] 0 88 5 ((((tagsT kd er).take 0).map (limitS kd)).map Rule.c)), (2, .box 3 [.i kd]), (3, .box 23 [.i er])] (by repeat (first | exact trivial | refine ⟨rfl, ?_⟩)) (by repeat (first | exact trivial | refine ⟨rfl, ?_⟩)) ?_
 refine LGo.rangeN (fun fn ac bc => [(0, .box 3 [.i kd]), (1, .bx 72 [.v undef] 0 88 5 ((((tagsT kd er).take (tagsT kd er).length).map (limitS kd)).map Rule.c)), (2, .box 3 [.i kd]), (3, .box 23 [.i er]), (4, .raw (.deferred (some []))), (5, .loop fn Tryz.f31.ntmps [(1, (true, .i er)), (2, (true, .ptr 0 0)), (5, (true, .ptr 1 0)), (9, (true, .fn (.func 45) [] [.ptr 3 0, .ptr 2 0]))] #[10] ac bc .ready none)]) (hit := fun fn ac bc hac hbc => ?_) (h := fun fn => ?_)
 ·
  suffices hgo : YGo Tryz.prog 5 6 ((tagsT kd er).map LV.i) (HoldsT 3 2 kd er) (fun j => [(0, .box 3 [.i kd]), (1, .bx 72 [.v undef] 0 88 5 ((((tagsT kd er).take j).map (limitS kd)).map Rule.c)), (2, .box 3 [.i kd]), (3, .box 23 [.i er]), (4, .raw (.deferred (some []))), (5, .loop fn Tryz.f31.ntmps [(1, (true, .i er)), (2, (true, .ptr 0 0)), (5, (true, .ptr 1 0)), (9, (true, .fn (.func 45) [] [.ptr 3 0, .ptr 2 0]))] #[10] ac bc .ready none)]) from by
    have hr := tags1_L kd er (by decide) (by decide) (by decide) hgo
    exact hr
  refine ⟨fun j hj => rfl, fun j hj => by simp [LO.lt, LV.lts, LV.lt, lts_sv], fun j hj => ⟨rfl, rfl⟩, fun j hj => ?_⟩
  have hj' : j < (tagsT kd er).length := by simpa using hj
  rw [List.getElem_map]
  have htk : (tagsT kd er).take (j + 1) = (tagsT kd er).take j ++ [(tagsT kd er)[j]] := by rw [List.take_succ_eq_append_getElem hj']
  try dsimp only
  rw [htk, List.map_append, List.map_append]
  generalize (tagsT kd er)[j] = t at *
  refine Yld.walk 6 ((6, (true, .i t)) :: (10, (true, .i t)) :: [(1, (true, .i er)), (2, (true, .ptr 0 0)), (5, (true, .ptr 1 0)), (9, (true, .fn (.func 45) [] [.ptr 3 0, .ptr 2 0]))]) (hpN := by rw [show Tryz.f31.ntmps = 18 from Tryz.ntmps31]; simp) (hA := ?_) (hB := ?_)
  · intro l B' hA' hmd'; subst hac
    refine .region rfl ?_
    refine R.assign (h := ?_)
    refine .n0 ?_
    exact LGo.done (fun cx a w hr => ⟨rfl, cx, hr⟩)
  · intro l B' hA' hmd'; subst hbc
    refine LGo.unpack 1 (h := ?_)
    refine .block ?_
    refine .region rfl ?_
    first | refine R.loadB O72 (h := ?_) | refine R.load1 O72 (h := ?_)
    first | refine R.loadB O3 (h := ?_) | refine R.load1 O3 (h := ?_)
    refine R.move (h := ?_)
    refine R.callP (es := [_, _]) (fun _ => limitS_P kd t) (h := ?_)
    refine R.buildSliceG AP72 (xs := [_]) (es := [_]) (hcs := CellsOfs.cons (CellsOf.agg rfl) CellsOfs.nil) (h := ?_)
    refine R.appendS AP72 (hs := SrcOk.sl Tryz.underlying72 (by simp; rfl)) (hlen := by simp; omega) (h := ?_)
    refine R.storeB O72 (h := ?_)
    refine Reg.nil ⟨fun _ => ⟨mixedO, by rfl, by rfl⟩, ?_⟩
    refine .inBlock ?_
    refine LGo.pack 1 0 (h := ?_)
    refine LGo.drop 6 (fun o h => (hA' o).1 h) (by omega) [] ((5, .loop fn Tryz.f31.ntmps [(1, (true, .i er)), (2, (true, .ptr 0 0)), (5, (true, .ptr 1 0)), (9, (true, .fn (.func 45) [] [.ptr 3 0, .ptr 2 0]))] #[10] ac _ .busy none) :: (4, .raw (.deferred (some []))) :: [(0, .box 3 [.i kd]), (1, .bx 72 [.v undef] 0 88 5 ((((tagsT kd er).take j).map (limitS kd)).map Rule.c ++ [(limitS kd t).c])), (2, .box 3 [.i kd]), (3, .box 23 [.i er])]) trivial (by repeat (first | exact trivial | refine ⟨rfl, ?_⟩)) (by simp) (by simp [LO.lt, LV.lts, LV.lt, lts_sv]) (h := ?_)
    refine LGo.done (RoundEnd.go rfl (fun o z hz hne => ?_) rfl)
    rcases o with _ | _ | _ | _ | _ | _ | o <;> first | exact absurd rfl hne | exact hz
 ·
  rw [List.take_length]
  refine LGo.unpack 1 (h := ?_)
  refine .inBlock ?_
  refine .seq ?_
  refine .region rfl ?_
  first | refine R.loadB O72 (h := ?_) | refine R.load1 O72 (h := ?_)
  refine R.assign (h := ?_)
  refine .n0 ?_
  first | refine LGo.frzT 4 (h := ?_) | refine LGo.nilSl 4 5 (h := ?_) | skip
  exact LGo.ret (FnPost.mark (by rfl) (ret_T Tryz.results31 hA hmd))

end Go.Proofs.YtcobkjognpjikaaGreatDoor
