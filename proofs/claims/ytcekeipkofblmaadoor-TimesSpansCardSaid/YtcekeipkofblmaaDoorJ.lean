/- times: some results. -/
import Derived.Test.YtcekeipkofblmaaDoorI
set_option linter.unusedSimpArgs false
set_option linter.unusedVariables false
namespace Go.Proofs.YtcekeipkofblmaaDoor

theorem sorted_uniq : ∀ {p q : List Sp}, p.Perm q → p.Pairwise (fun x y => x.1 ≤ y.1) → q.Pairwise (fun x y => x.1 < y.1) → p = q
  | p, [], hp, _, _ => List.Perm.eq_nil hp
  | [], x :: q, hp, _, _ => absurd hp.length_eq (by simp)
  | y :: p, x :: q, hp, h1, h2 => by
    have hyx : y = x := by
      have hx : x ∈ y :: p := hp.symm.subset (by simp)
      have hy : y ∈ x :: q := hp.subset (by simp)
      rcases List.mem_cons.1 hx with h | h
      · exact h.symm
      · rcases List.mem_cons.1 hy with h' | h'
        · exact h'
        · have := (List.pairwise_cons.1 h1).1 x h
          have := (List.pairwise_cons.1 h2).1 y h'
          omega
    subst hyx
    rw [sorted_uniq ((List.perm_cons y).1 hp) (List.pairwise_cons.1 h1).2 (List.pairwise_cons.1 h2).2]
theorem sortS_eq {l q : List Sp} (hp : l.Perm q) (hs : q.Pairwise (fun x y => x.1 < y.1)) : sortS l = q :=
  sorted_uniq ((sortS_facts l).1.trans hp) (sortS_facts l).2 hs
theorem aw_union : unionT [(5, 7), (0, 2), (2, 3)] = ([(0, 3), (5, 7)], 0) := by
  have h : sortS [(5, 7), (0, 2), (2, 3)] = [(0, 2), (2, 3), (5, 7)] := sortS_eq (by decide) (by decide)
  unfold unionT unionS
  rw [h]; rfl
theorem aw_minus : minusT [(0, 10)] [(3, 4), (9, 20)] = ([(0, 3), (4, 9)], 0) := by
  have h1 : sortS [(0, 10)] = [(0, 10)] := sortS_eq (by decide) (by decide)
  have h2 : sortS [(3, 4), (9, 20)] = [(3, 4), (9, 20)] := sortS_eq (by decide) (by decide)
  unfold minusT minusS unionS
  rw [h1, h2]; rfl
theorem aw_print : printT 93784 = ([49, 100, 48, 50, 58, 48, 51, 58, 48, 52], 0) := by
  have h : Lib.itoa (93784 / 86400) = [49] := by
    unfold Lib.itoa
    rw [if_neg (by decide), Lib.decDigits_one (by decide)]; rfl
  unfold printT
  rw [if_neg (by decide), h]; rfl
theorem aw_parse : parseT [49, 100, 48, 50, 58, 48, 51, 58, 48, 52] = (93784, 0) := by
  have h : pRun [49, 100, 48, 50, 58, 48, 51, 58, 48, 52] (0, [0, 0, 0, 0]) = some (3, [1, 2, 3, 4]) := by rfl
  unfold parseT
  rw [h]
  dsimp only
  rw [if_neg (by decide), if_neg (by decide), show (1 : Int) * 86400 + 2 * 3600 + 3 * 60 + 4 = 93784 from by decide, aw_print]; rfl
theorem same_self_P (a : List Sp) (h : a.length ≤ 100000) : PC Tryd.prog 28 [.sv (.sl 2 (spsC a)), .sv (.sl 2 (spsC a))] (.b true) := by
  have := same_P a a h h
  rwa [(same_iff a a).2 rfl] at this

theorem awake_P : PC Tryd.prog 18 [] (.b true) := by
  refine ⟨LC.of_go Tryd.func18 (c := _) rfl (by kernel_rfl) (by rw [Tryd.ntmps18]; simp) rfl rfl (by simp [LO.lt, LV.lts, LV.lt]) (by simp) ?_⟩
  intro B hA hmd
  refine LGo.seq ?_
  refine LGo.region rfl ?_  -- region 0
  refine R.assign (h := ?_)
  refine Reg.nil ⟨fun h => (by cases h), ?_⟩
  refine LGo.seq ?_
  refine LGo.region rfl ?_  -- region 1
  refine R.callP (es := [_, _]) (fun _ => add_P 5 7 ⟨by decide, by decide⟩ ⟨by decide, by decide⟩) (h := ?_)
  rw [show addT 5 7 = (12, 0) from by decide]
  refine R.move (h := ?_)
  refine R.extract (h := ?_)
  refine R.extract (h := ?_)
  refine R.assign (h := ?_)
  refine R.assign (h := ?_)
  refine Reg.nil ⟨fun h => (by cases h), ?_⟩
  refine LGo.seq ?_
  refine LGo.region rfl ?_  -- region 2
  refine R.callP (es := [_, _]) (fun _ => add_P 9223372036854775807 1 ⟨by decide, by decide⟩ ⟨by decide, by decide⟩) (h := ?_)
  rw [show addT 9223372036854775807 1 = (9223372036854775807, 0) from by decide]
  refine R.move (h := ?_)
  refine R.extract (h := ?_)
  refine R.extract (h := ?_)
  refine R.assign (h := ?_)
  refine R.assign (h := ?_)
  refine Reg.nil ⟨fun h => (by cases h), ?_⟩
  refine LGo.seq ?_
  refine LGo.region rfl ?_  -- region 3
  refine R.callP (es := [_, _]) (fun _ => passed_P 10 9 ⟨by decide, by decide⟩ ⟨by decide, by decide⟩) (h := ?_)
  rw [show passT 10 9 = (false, 0) from by decide]
  refine R.move (h := ?_)
  refine R.extract (h := ?_)
  refine R.extract (h := ?_)
  refine R.assign (h := ?_)
  refine R.assign (h := ?_)
  refine Reg.nil ⟨fun h => (by cases h), ?_⟩
  refine LGo.seq ?_
  refine LGo.region rfl ?_  -- region 4
  refine R.callP (es := [_, _]) (fun _ => left_P 10 7 ⟨by decide, by decide⟩ ⟨by decide, by decide⟩) (h := ?_)
  rw [show leftT 10 7 = (3, 0) from by decide]
  refine R.move (h := ?_)
  refine R.extract (h := ?_)
  refine R.extract (h := ?_)
  refine R.assign (h := ?_)
  refine R.assign (h := ?_)
  refine Reg.nil ⟨fun h => (by cases h), ?_⟩
  refine LGo.seq ?_
  refine LGo.region rfl ?_  -- region 5
  refine R.callP (es := [_, _]) (fun _ => adv_P 5 4 ⟨by decide, by decide⟩ ⟨by decide, by decide⟩) (h := ?_)
  rw [show advT 5 4 = (0, 18) from by decide]
  refine R.move (h := ?_)
  refine R.extract (h := ?_)
  refine R.extract (h := ?_)
  refine R.assign (h := ?_)
  refine R.assign (h := ?_)
  refine Reg.nil ⟨fun h => (by cases h), ?_⟩
  refine LGo.seq ?_
  refine LGo.region rfl ?_  -- region 6
  refine R.build BF43 (is := [0, 1]) (xs := [_, _]) (es := [_, _]) (h := ?_)
  refine R.build BF43 (is := [0, 1]) (xs := [_, _]) (es := [_, _]) (h := ?_)
  refine R.build BF43 (is := [0, 1]) (xs := [_, _]) (es := [_, _]) (h := ?_)
  refine R.buildSliceF AP36 (spsC [(5, 7), (0, 2), (2, 3)]) (xs := [_, _, _]) (es := [_, _, _]) (hcs := CellsOfs.cons (CellsOf.agg rfl) (CellsOfs.cons (CellsOf.agg rfl) (CellsOfs.cons (CellsOf.agg rfl) (CellsOfs.nil)))) (h := ?_)
  refine R.callP (es := [_]) (fun _ => Union_P [(5, 7), (0, 2), (2, 3)] (by simp)) (h := ?_)
  rw [aw_union]
  refine R.move (h := ?_)
  refine R.extract (h := ?_)
  refine R.extract (h := ?_)
  refine R.assign (h := ?_)
  refine R.assign (h := ?_)
  refine Reg.nil ⟨fun h => (by cases h), ?_⟩
  refine LGo.seq ?_
  refine LGo.region rfl ?_  -- region 7
  refine R.build BF43 (is := [0, 1]) (xs := [_, _]) (es := [_, _]) (h := ?_)
  refine R.buildSliceF AP36 (spsC [(0, 10)]) (xs := [_]) (es := [_]) (hcs := CellsOfs.cons (CellsOf.agg rfl) (CellsOfs.nil)) (h := ?_)
  refine R.build BF43 (is := [0, 1]) (xs := [_, _]) (es := [_, _]) (h := ?_)
  refine R.build BF43 (is := [0, 1]) (xs := [_, _]) (es := [_, _]) (h := ?_)
  refine R.buildSliceF AP36 (spsC [(3, 4), (9, 20)]) (xs := [_, _]) (es := [_, _]) (hcs := CellsOfs.cons (CellsOf.agg rfl) (CellsOfs.cons (CellsOf.agg rfl) (CellsOfs.nil))) (h := ?_)
  refine R.callP (es := [_, _]) (fun _ => Minus_P [(0, 10)] [(3, 4), (9, 20)] (by simp) (by simp)) (h := ?_)
  rw [aw_minus]
  refine R.move (h := ?_)
  refine R.extract (h := ?_)
  refine R.extract (h := ?_)
  refine R.assign (h := ?_)
  refine R.assign (h := ?_)
  refine Reg.nil ⟨fun h => (by cases h), ?_⟩
  refine LGo.seq ?_
  refine LGo.region rfl ?_  -- region 8
  refine R.callP (es := [_]) (fun _ => print_P 93784 ⟨by decide, by decide⟩) (h := ?_)
  rw [aw_print]
  refine R.move (h := ?_)
  refine R.extract (h := ?_)
  refine R.extract (h := ?_)
  refine R.assign (h := ?_)
  refine R.assign (h := ?_)
  refine Reg.nil ⟨fun h => (by cases h), ?_⟩
  refine LGo.seq ?_
  refine LGo.region rfl ?_  -- region 9
  refine R.callP (es := [_]) (fun _ => parse_P [49, 100, 48, 50, 58, 48, 51, 58, 48, 52] (by simp)) (h := ?_)
  rw [aw_parse]
  refine R.move (h := ?_)
  refine R.extract (h := ?_)
  refine R.extract (h := ?_)
  refine R.assign (h := ?_)
  refine R.assign (h := ?_)
  refine Reg.nil ⟨fun h => (by cases h), ?_⟩
  refine LGo.seq ?_
  refine LGo.region rfl ?_  -- region 10
  refine R.move (h := ?_)
  refine R.bin (run_eql _ _ _ _ _ _) (h := ?_)
  refine R.move (h := ?_)
  refine R.move (h := ?_)
  refine R.bin (run_eql _ _ _ _ _ _) (h := ?_)
  refine R.and (h := ?_)
  refine R.move (h := ?_)
  refine R.move (h := ?_)
  refine R.bin (run_eql _ _ _ _ _ _) (h := ?_)
  refine R.and (h := ?_)
  refine R.move (h := ?_)
  refine R.move (h := ?_)
  refine R.bin (run_eql _ _ _ _ _ _) (h := ?_)
  refine R.and (h := ?_)
  refine R.move (h := ?_)
  refine R.move (h := ?_)
  refine R.not (h := ?_)
  refine R.and (h := ?_)
  refine R.move (h := ?_)
  refine R.move (h := ?_)
  refine R.bin (run_eql _ _ _ _ _ _) (h := ?_)
  refine R.and (h := ?_)
  refine R.move (h := ?_)
  refine R.move (h := ?_)
  refine R.bin (run_eql _ _ _ _ _ _) (h := ?_)
  refine R.and (h := ?_)
  refine R.move (h := ?_)
  refine R.move (h := ?_)
  refine R.bin (run_eql _ _ _ _ _ _) (h := ?_)
  refine R.and (h := ?_)
  refine R.move (h := ?_)
  refine R.move (h := ?_)
  refine R.bin (run_eql _ _ _ _ _ _) (h := ?_)
  refine R.and (h := ?_)
  refine R.move (h := ?_)
  refine R.move (h := ?_)
  refine R.build BF43 (is := [0, 1]) (xs := [_, _]) (es := [_, _]) (h := ?_)
  refine R.build BF43 (is := [0, 1]) (xs := [_, _]) (es := [_, _]) (h := ?_)
  refine R.buildSliceF AP36 (spsC [(0, 3), (5, 7)]) (xs := [_, _]) (es := [_, _]) (hcs := CellsOfs.cons (CellsOf.agg rfl) (CellsOfs.cons (CellsOf.agg rfl) (CellsOfs.nil))) (h := ?_)
  refine R.callP (es := [_, _]) (fun _ => same_self_P [(0, 3), (5, 7)] (by simp)) (h := ?_)
  refine R.and (h := ?_)
  refine R.move (h := ?_)
  refine R.move (h := ?_)
  refine R.bin (run_eql _ _ _ _ _ _) (h := ?_)
  refine R.and (h := ?_)
  refine R.move (h := ?_)
  refine R.move (h := ?_)
  refine R.build BF43 (is := [0, 1]) (xs := [_, _]) (es := [_, _]) (h := ?_)
  refine R.build BF43 (is := [0, 1]) (xs := [_, _]) (es := [_, _]) (h := ?_)
  refine R.buildSliceF AP36 (spsC [(0, 3), (4, 9)]) (xs := [_, _]) (es := [_, _]) (hcs := CellsOfs.cons (CellsOf.agg rfl) (CellsOfs.cons (CellsOf.agg rfl) (CellsOfs.nil))) (h := ?_)
  refine R.callP (es := [_, _]) (fun _ => same_self_P [(0, 3), (4, 9)] (by simp)) (h := ?_)
  refine R.and (h := ?_)
  refine R.move (h := ?_)
  refine R.move (h := ?_)
  refine R.bin (run_eql _ _ _ _ _ _) (h := ?_)
  refine R.and (h := ?_)
  refine R.move (h := ?_)
  refine R.move (h := ?_)
  refine R.bin (run_eqlT _ _ _ _ _) (h := ?_)
  refine R.and (h := ?_)
  refine R.move (h := ?_)
  refine R.move (h := ?_)
  refine R.bin (run_eql _ _ _ _ _ _) (h := ?_)
  refine R.and (h := ?_)
  refine R.move (h := ?_)
  refine R.move (h := ?_)
  refine R.bin (run_eql _ _ _ _ _ _) (h := ?_)
  refine R.and (h := ?_)
  refine R.move (h := ?_)
  refine R.move (h := ?_)
  refine R.bin (run_eql _ _ _ _ _ _) (h := ?_)
  refine R.and (h := ?_)
  refine R.assign (h := ?_)
  refine Reg.nil ⟨fun h => (by cases h), ?_⟩
  refine LGo.eqB 0 true (hb := by rfl) (h := ?_)
  exact LGo.ret (ret_T Tryd.results18 hA hmd)

end Go.Proofs.YtcekeipkofblmaaDoor
