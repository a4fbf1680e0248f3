/- frames: Join; the reference's Frame and Join; what is far. -/
import Derived.Test.YtnamkhifmankmaaDoorJA
import Derived.Test.YtnamkhifmankmaaDoorV
set_option linter.unusedSimpArgs false
set_option linter.unusedVariables false
namespace Go.Proofs.YtnamkhifmankmaaDoor

theorem join_P (l : List (List UInt8)) (hln : l.length ≤ maxLen) : PC Tryd.prog 9 [.sv (.sl 1 (rowsC l))] (.tup [.sv (.sl 1 (bytesC (joinF l).1)), .i (joinF l).2]) := by
  refine PC.of_calls (Entr.of Tryd.func9 rfl (by kernel_rfl)) (by simp [LV.lts, LV.lt]) fun cx w vs hlim ham hv => ?_
  have fin : ∀ e w', JPost cx.pr w (joinF l) e w' → ∃ v pr', e = .returned v ∧ Go.RowKit.Below w.heap.size w w' ∧ (∀ b, b < w.heap.size → pr' b = cx.pr b) ∧ (∀ b, 0 < pr' b → b < w'.heap.size) ∧ V ⟨pr', cx.A, cx.loc, cx.inn⟩ w' (.tup [.sv (.sl 1 (bytesC (joinF l).1)), .i (joinF l).2]) v := by
    rintro e w' ⟨v, pr', A, lo, inn, h1, h2, h3, h4, h5⟩
    refine ⟨v, pr', h1, h2, h3, h4, ?_⟩
    simp only [V, Vs] at h5 ⊢
    exact h5
  simp only [Vs, V] at hv
  obtain ⟨v, _, rfl, hv, rfl⟩ := hv
  simp only [VS] at hv
  rcases hv with ⟨hem, he⟩ | ⟨b, off, cap, rfl, hle, hm, hp, hr⟩
  · have : l = [] := by simpa [rowsC] using he
    subst this
    obtain ⟨base, cap, rfl⟩ : ∃ base cap, v = .slice base 0 cap := by
      rcases hem with rfl | ⟨a, cap, rfl, _⟩
      · exact ⟨none, 0, rfl⟩
      · exact ⟨some a, cap, rfl⟩
    exact (join_C [] base cap w cx.pr hlim ham hln (fun k h => absurd h (Nat.not_lt_zero _))).mono fin
  · rw [rowsC_length] at hle hp ⊢
    have hcell := VSR.cells1 (fun s : List UInt8 => .sl 1 (bytesC s)) hr
    refine (join_C l (some ⟨b, off, none⟩) cap w cx.pr hlim ham hln (fun k h => ?_)).mono fin
    obtain ⟨u, k1, k2⟩ := hcell k l[k] (List.getElem?_eq_getElem h)
    exact ⟨b, off, u, rfl, k1, k2, hlim b (by omega)⟩

theorem frameR_P (p : List UInt8) : PC Tryd.prog 8 [.sv (.sl 1 (bytesC p))] (.tup [.sv (.sl 1 (bytesC (frame p).1)), .i (frame p).2]) := by
 refine ⟨LC.of_go Tryd.func8 (c := _) rfl (by kernel_rfl) (by rw [Tryd.ntmps8]; simp) rfl rfl (by simp [LO.lt, LV.lts, LV.lt, lts_sv]) (by simp) ?_⟩
 intro B hA hmd
 obtain ⟨g, e0⟩ : ∃ g, frame p = g := ⟨_, rfl⟩
 have e1 := e0
 unfold frame at e1
 rw [e0]
 refine .seq ?_
 refine .region rfl ?_
 refine R.assign (h := ?_)
 refine R.assign (h := ?_)
 refine .n0 ?_
 refine .seq ?_
 refine .region rfl ?_
 refine R.move (h := ?_)
 first | refine R.len S22 (h := ?_) | refine R.lenRs S22 (h := ?_) | refine R.lenV (run_lenNil S22) (h := ?_)
 rw [bytesC_length]
 refine R.assign (h := ?_)
 refine .n0 ?_
 refine .seq ?_
 refine .seq ?_
 refine .region rfl ?_
 refine R.move (h := ?_)
 refine R.bin (run_eql _ _ _ _ _ _) (h := ?_)
 refine .n0 ?_
 first | refine LGo.ifd (ht := fun hc => ?_) (hf := fun hc => ?_) | refine LGo.ifb (ht := fun hc => ?_) (hf := fun hc => ?_)
 ·
  rw [if_pos (by omega)] at e1; rw [← e1]
  refine .seq ?_
  refine .region rfl ?_
  refine R.assign (h := ?_)
  refine R.assign (h := ?_)
  refine .n0 ?_
  first | refine LGo.frzT 2 (h := ?_) | refine LGo.nilSl 2 1 (h := ?_) | skip
  exact LGo.ret (ret_TT Tryd.results8 hA hmd)
 ·
  rw [if_neg (by omega)] at e1
  refine .skip ?_
  refine .seq ?_
  refine .seq ?_
  refine .region rfl ?_
  refine R.move (h := ?_)
  refine R.bin (run_gtr _ _ _ _ _ _) (h := ?_)
  refine .n0 ?_
  first | refine LGo.ifd (ht := fun hc2 => ?_) (hf := fun hc2 => ?_) | refine LGo.ifb (ht := fun hc2 => ?_) (hf := fun hc2 => ?_)
  ·
   rw [if_pos (by omega)] at e1; rw [← e1]
   refine .seq ?_
   refine .region rfl ?_
   refine R.assign (h := ?_)
   refine R.assign (h := ?_)
   refine .n0 ?_
   first | refine LGo.frzT 2 (h := ?_) | refine LGo.nilSl 2 1 (h := ?_) | skip
   exact LGo.ret (ret_TT Tryd.results8 hA hmd)
  ·
   rw [if_neg (by omega)] at e1; rw [← e1]
   refine .skip ?_
   refine .seq ?_
   refine .region rfl ?_
   refine R.move (h := ?_)
   refine R.quo (h := ?_)
   first | refine R.convI Tryd.runUnderlying3 Tryd.runUnderlying5 (h := ?_) | refine R.convW Tryd.runUnderlying3 Tryd.runUnderlying5 (h := ?_)
   refine R.move (h := ?_)
   refine R.rem (h := ?_)
   first | refine R.convI Tryd.runUnderlying3 Tryd.runUnderlying5 (h := ?_) | refine R.convW Tryd.runUnderlying3 Tryd.runUnderlying5 (h := ?_)
   refine R.buildSliceR AP22 (xs := [_, _, _, _]) (es := [_, _, _, _]) (hcs := CellsOfs.cons (CellsOf.one rfl) (CellsOfs.cons (CellsOf.one rfl) (CellsOfs.cons (CellsOf.one rfl) (CellsOfs.cons (CellsOf.one rfl) CellsOfs.nil)))) (ys := bytesC (hdB p.length)) (hys := by rw [hdB_C p.length (by omega)]; rfl) (hy := by rw [hdB_C p.length (by omega)]; rfl) (h := ?_)
   refine R.move (h := ?_)
   refine R.appendS AP22 (hs := SrcOk.sl Tryd.underlying22 (bytesC_one _)) (hlen := by rw [bytesC_length, bytesC_length]; simp [hdB]; omega) (h := ?_)
   rw [← bytesC_app]
   refine R.assign (h := ?_)
   refine R.assign (h := ?_)
   refine .n0 ?_
   first | refine LGo.frzT 2 (h := ?_) | refine LGo.nilSl 2 1 (h := ?_) | skip
   exact LGo.ret (ret_TT Tryd.results8 hA hmd)

theorem joinR_P (l : List (List UInt8)) (hln : l.length ≤ maxLen) : PC Tryd.prog 10 [.sv (.sl 1 (rowsC l))] (.tup [.sv (.sl 1 (bytesC (joinF l).1)), .i (joinF l).2]) := by
 refine ⟨LC.of_go Tryd.func10 (c := _) rfl (by kernel_rfl) (by rw [Tryd.ntmps10]; simp) rfl rfl (by simp [LO.lt, LV.lts, LV.lt, lts_sv]) (by simp) ?_⟩
 intro B hA hmd
 unfold maxLen at hln
 obtain ⟨g, e1⟩ : ∃ g, joinF l = g := ⟨_, rfl⟩
 rw [e1]
 unfold joinF at e1
 refine .seq ?_
 refine .region rfl ?_
 refine R.assign (h := ?_)
 refine R.assign (h := ?_)
 refine .n0 ?_
 refine .seq ?_
 refine .seq ?_
 refine .region rfl ?_
 refine R.move (h := ?_)
 first | refine R.len S23 (h := ?_) | refine R.lenRs S23 (h := ?_) | refine R.lenV (run_lenNil S23) (h := ?_)
 refine R.bin (run_gtr _ _ _ _ _ _) (h := ?_)
 rw [rowsC_length]
 refine .n0 ?_
 refine LGo.ifd (ht := fun hc => ?_) (hf := fun hc => ?_)
 ·
  rw [if_pos (by omega)] at e1
  rw [← e1]
  refine .seq ?_
  refine .region rfl ?_
  refine R.assign (h := ?_)
  refine R.assign (h := ?_)
  refine .n0 ?_
  first | refine LGo.frzT 2 (h := ?_) | refine LGo.nilSl 2 1 (h := ?_) | skip
  exact LGo.ret (ret_TT Tryd.results10 hA hmd)
 ·
  rw [if_neg (by omega)] at e1
  refine .skip ?_
  refine .seq ?_
  refine .region rfl ?_
  refine R.assign (h := ?_)
  refine .n0 ?_
  refine .seq ?_
  refine .seq ?_
  refine .region rfl ?_
  refine R.assign (h := ?_)
  refine .n0 ?_
  refine .block ?_
  refine .loop ?_
  refine LGo.nilRs 4 5 1 (h := ?_)
  refine LGo.loopG (σ := Nat × List UInt8) (fun x => x.1 ≤ l.length ∧ x.2.length ≤ 2000 * x.1 ∧ joinGo (l.drop x.1) x.2 = g) (fun x => [(5, (true, .i (x.1 : Nat))), (4, (true, .ref 0))]) (fun x => [(0, .rs 5 1 (bytesC x.2))]) (fun x => l.length - x.1) (0, []) [(0, _)] ⟨Nat.zero_le _, Nat.zero_le _, e1⟩ (by repeat (first | exact trivial | refine ⟨rfl, ?_⟩)) (by repeat (first | exact trivial | refine ⟨rfl, ?_⟩)) (by repeat (first | exact trivial | refine ⟨rfl, ?_⟩)) ?_
  rintro ⟨k, acc⟩ ⟨hk, hal, hq⟩ ih
  dsimp only at * 
  refine .seq ?_
  refine .seq ?_
  refine .region rfl ?_
  refine R.move (h := ?_)
  refine R.move (h := ?_)
  first | refine R.len S23 (h := ?_) | refine R.lenRs S23 (h := ?_) | refine R.lenV (run_lenNil S23) (h := ?_)
  rw [rowsC_length]
  refine R.bin (run_lss _ _ _ _ _ _) (h := ?_)
  refine .n0 ?_
  refine LGo.ifd (ht := fun hc2 => ?_) (hf := fun hc2 => ?_)
  ·
   have hlt : k < l.length := by omega
   have hx : (rowsC l)[((k : Nat) : Int).toNat]? = some [.sl 1 (bytesC l[k])] := by simp [rowsC, hlt]
   rw [List.drop_eq_getElem_cons hlt, joinGo] at hq
   generalize l[k] = p at hx hq
   refine .skip ?_
   refine .seq ?_
   refine .block ?_
   refine .seq ?_
   refine .region rfl ?_
   refine R.move (h := ?_)
   refine R.move (h := ?_)
   refine R.index I23 (hj := fun hg => ⟨by omega, hx⟩) (h := ?_)
   first | refine R.loadB O22 (h := ?_) | refine R.load1 O22 (h := ?_)
   refine R.callP (es := [_]) (fun _ => frameR_P p) (h := ?_)
   refine R.move (h := ?_)
   refine R.extract (h := ?_)
   refine R.extract (h := ?_)
   refine R.assign (h := ?_)
   refine R.assign (h := ?_)
   refine .n0 ?_
   refine .seq ?_
   refine .seq ?_
   refine .region rfl ?_
   refine R.move (h := ?_)
   refine R.bin (run_neq _ _ _ _ _ _) (h := ?_)
   refine .n0 ?_
   refine LGo.ifb (ht := fun hc3 => ?_) (hf := fun hc3 => ?_)
   ·
    rw [if_pos (by simpa using hc3)] at hq
    rw [← hq]
    refine .seq ?_
    refine .region rfl ?_
    refine R.move (h := ?_)
    refine R.assign (h := ?_)
    refine R.assign (h := ?_)
    refine .n0 ?_
    first | refine LGo.frzT 2 (h := ?_) | refine LGo.nilSl 2 1 (h := ?_) | skip
    exact LGo.ret (ret_TT Tryd.results10 hA hmd)
   ·
    have hf0 : (frame p).2 = 0 := by simpa using hc3
    rw [if_neg (by simp [hf0])] at hq
    obtain ⟨hf1, hf2, hf3⟩ := frame_0 hf0
    have hfl : (frame p).1.length ≤ 1028 := by rw [hf1, frm_len]; omega
    refine .skip ?_
    refine .region rfl ?_
    refine R.move (h := ?_)
    refine R.move (h := ?_)
    refine R.appendS AP22 (hs := SrcOk.sl Tryd.underlying22 (bytesC_one _)) (hlen := by rw [bytesC_length, bytesC_length]; omega) (h := ?_)
    rw [← bytesC_app]
    refine R.assign (h := ?_)
    refine .n0 ?_
    refine .inBlock ?_
    refine .region rfl ?_
    refine R.move (h := ?_)
    first | refine R.add (h := ?_) | refine R.addW (h := ?_)
    refine R.assign (h := ?_)
    refine .n0 ?_
    refine .inLoop ?_
    exact LGo.turn [1] (b := 0) (fun o h => by have := (hA o).1 h; omega) (ih (k + 1, acc ++ (frame p).1) ⟨by dsimp only; omega, by dsimp only; rw [List.length_append]; omega, hq⟩ (by dsimp only; omega)) (by repeat (first | exact trivial | refine ⟨rfl, ?_⟩)) ⟨rfl, trivial⟩
  ·
   rw [List.drop_eq_nil_of_le (show l.length ≤ k by omega), joinGo] at hq
   rw [← hq]
   refine .exit rfl ?_
   refine .seq ?_
   refine .region rfl ?_
   refine R.move (h := ?_)
   refine R.assign (h := ?_)
   refine R.assign (h := ?_)
   refine .n0 ?_
   first | refine LGo.frzT 2 (h := ?_) | refine LGo.nilSl 2 1 (h := ?_) | skip
   exact LGo.ret (ret_TT Tryd.results10 hA hmd)

def sumW (n : Int) (l : List (List UInt8)) : Int := l.foldl (fun n p => IntKind.i64.wrap (n + (p.length : Int))) n
theorem take_drop_cons {l : List (List UInt8)} {k : Nat} (h : k < l.length) (h2 : k < 1100) : (l.take 1100).drop k = l[k] :: (l.take 1100).drop (k + 1) := by
  have hlt : k < (l.take 1100).length := by rw [List.length_take]; omega
  rw [List.drop_eq_getElem_cons hlt, List.getElem_take]

theorem farN_P (l : List (List UInt8)) (hln : l.length ≤ maxLen) (N : Int) (hN : sumW 0 (l.take 1100) = N) : PC Tryd.prog 5 [.sv (.sl 1 (rowsC l))] (.b ((decide (40 < (l.length : Int)) && ((decide (0 < N) || decide ((l.length : Int) ≤ 1000)) || decide (1010 < (l.length : Int)))) || decide (8000 < N))) := by
 refine ⟨LC.of_go Tryd.func5 (c := _) rfl (by kernel_rfl) (by rw [Tryd.ntmps5]; simp) rfl rfl (by simp [LO.lt, LV.lts, LV.lt, lts_sv]) (by simp) ?_⟩
 intro B hA hmd
 unfold maxLen at hln
 refine .seq ?_
 refine .region rfl ?_
 refine R.assign (h := ?_)
 refine .n0 ?_
 refine .seq ?_
 refine .region rfl ?_
 refine R.assign (h := ?_)
 refine .n0 ?_
 refine .seq ?_
 refine .seq ?_
 refine .region rfl ?_
 refine R.assign (h := ?_)
 refine .n0 ?_
 refine .block ?_
 refine .loop ?_
 refine LGo.loopG (σ := Nat × Int) (fun x => x.1 ≤ l.length ∧ x.1 ≤ 1100 ∧ sumW x.2 ((l.take 1100).drop x.1) = N) (fun x => [(4, (true, .i (x.1 : Nat))), (3, (true, .i x.2))]) (fun x => []) (fun x => 1100 - x.1) (0, 0) [(0, _)] ⟨Nat.zero_le _, Nat.zero_le _, by simpa using hN⟩ (by repeat (first | exact trivial | refine ⟨rfl, ?_⟩)) (by repeat (first | exact trivial | refine ⟨rfl, ?_⟩)) (by repeat (first | exact trivial | refine ⟨rfl, ?_⟩)) ?_
 rintro ⟨k, n⟩ ⟨hk, hk2, hq⟩ ih
 dsimp only at * 
 refine .seq ?_
 refine .seq ?_
 refine .region rfl ?_
 refine R.move (h := ?_)
 refine R.move (h := ?_)
 first | refine R.len S23 (h := ?_) | refine R.lenRs S23 (h := ?_) | refine R.lenV (run_lenNil S23) (h := ?_)
 rw [rowsC_length]
 refine R.bin (run_lss _ _ _ _ _ _) (h := ?_)
 refine R.move (h := ?_)
 refine R.move (h := ?_)
 refine R.bin (run_lss _ _ _ _ _ _) (h := ?_)
 refine R.and (h := ?_)
 refine .n0 ?_
 refine LGo.ifb (ht := fun hc => ?_) (hf := fun hc => ?_)
 ·
  obtain ⟨hlt, hlt2⟩ : k < l.length ∧ k < 1100 := by simp only [Bool.and_eq_true, decide_eq_true_eq] at hc; omega
  have hx : (rowsC l)[((k : Nat) : Int).toNat]? = some [.sl 1 (bytesC l[k])] := by simp [rowsC, hlt]
  rw [take_drop_cons hlt hlt2, sumW, List.foldl_cons] at hq
  generalize l[k] = p at hx hq
  refine .skip ?_
  refine .seq ?_
  refine .block ?_
  refine .region rfl ?_
  refine R.move (h := ?_)
  refine R.move (h := ?_)
  refine R.move (h := ?_)
  refine R.index I23 (hj := fun hg => ⟨by omega, hx⟩) (h := ?_)
  first | refine R.loadB O22 (h := ?_) | refine R.load1 O22 (h := ?_)
  first | refine R.len S22 (h := ?_) | refine R.lenRs S22 (h := ?_) | refine R.lenV (run_lenNil S22) (h := ?_)
  rw [bytesC_length]
  refine R.addW (h := ?_)
  refine R.assign (h := ?_)
  refine .n0 ?_
  refine .inBlock ?_
  refine .region rfl ?_
  refine R.move (h := ?_)
  first | refine R.add (h := ?_) | refine R.addW (h := ?_)
  refine R.assign (h := ?_)
  refine .n0 ?_
  refine .inLoop ?_
  exact LGo.next _ (fun o h => by have := (hA o).1 h; omega) (by omega) (ih (k + 1, IntKind.i64.wrap (n + (p.length : Int))) ⟨by dsimp only; omega, by dsimp only; omega, hq⟩ (by dsimp only; omega)) (by repeat (first | exact trivial | refine ⟨rfl, ?_⟩)) (by repeat (first | exact trivial | refine ⟨rfl, ?_⟩))
 ·
  have hn2 : n = N := by
    rw [List.drop_eq_nil_of_le (by rw [List.length_take]; simp only [Bool.and_eq_false_iff, decide_eq_false_iff_not] at hc; omega)] at hq
    exact hq
  subst hn2
  refine .exit rfl ?_
  refine .seq ?_
  refine .region rfl ?_
  refine R.move (h := ?_)
  first | refine R.len S23 (h := ?_) | refine R.lenRs S23 (h := ?_) | refine R.lenV (run_lenNil S23) (h := ?_)
  rw [rowsC_length]
  refine R.bin (run_gtr _ _ _ _ _ _) (h := ?_)
  refine R.move (h := ?_)
  refine R.move (h := ?_)
  refine R.bin (run_gtr _ _ _ _ _ _) (h := ?_)
  refine R.move (h := ?_)
  refine R.move (h := ?_)
  first | refine R.len S23 (h := ?_) | refine R.lenRs S23 (h := ?_) | refine R.lenV (run_lenNil S23) (h := ?_)
  rw [rowsC_length]
  refine R.bin (run_leq _ _ _ _ _ _) (h := ?_)
  refine R.or (h := ?_)
  refine R.move (h := ?_)
  refine R.move (h := ?_)
  first | refine R.len S23 (h := ?_) | refine R.lenRs S23 (h := ?_) | refine R.lenV (run_lenNil S23) (h := ?_)
  rw [rowsC_length]
  refine R.bin (run_gtr _ _ _ _ _ _) (h := ?_)
  refine R.or (h := ?_)
  refine R.and (h := ?_)
  refine R.move (h := ?_)
  refine R.move (h := ?_)
  refine R.bin (run_gtr _ _ _ _ _ _) (h := ?_)
  refine R.or (h := ?_)
  refine R.assign (h := ?_)
  refine .n0 ?_
  exact LGo.ret (ret_T Tryd.results5 hA hmd)

theorem far_P (l : List (List UInt8)) (hln : l.length ≤ maxLen) : ∃ b, PC Tryd.prog 5 [.sv (.sl 1 (rowsC l))] (.b b) := ⟨_, farN_P l hln _ rfl⟩

end Go.Proofs.YtnamkhifmankmaaDoor
