/- FramesRound answers true. -/
import Derived.Test.YtnamkhifmankmaaDoorX4
set_option linter.unusedSimpArgs false
set_option linter.unusedVariables false
namespace Go.Proofs.YtnamkhifmankmaaDoor

theorem joinGo_len : ∀ (l : List (List UInt8)) (acc : List UInt8), (joinGo l acc).1.length ≤ acc.length + 1028 * l.length
  | [], acc => by simp [joinGo]
  | p :: l, acc => by
    rw [joinGo]
    split
    · simp
    · rename_i hp
      have hp' : (frame p).2 = 0 := by simpa using hp
      obtain ⟨h1, h2, h3⟩ := frame_0 hp'
      have := joinGo_len l (acc ++ (frame p).1)
      rw [List.length_append, h1, frm_len] at this
      rw [h1] at *
      simp only [List.length_cons]
      omega
theorem joinF_len {l : List (List UInt8)} (h : (joinF l).2 = 0) : (joinF l).1.length ≤ 1100000 ∧ l.length ≤ 1000 := by
  unfold joinF at h ⊢
  split at h
  · cases h
  · rename_i h1
    rw [if_neg h1]
    have := joinGo_len l []
    simp only [List.length_nil] at this
    omega

theorem round_P (l : List (List UInt8)) (hl : l.length ≤ maxLen) (b : List UInt8) : PC Tryd.prog 4 [.sv (.sl 1 (rowsC l)), .sv (.sl 1 (bytesC b))] (.b true) := by
 refine ⟨LC.of_go Tryd.func4 (c := _) rfl (by kernel_rfl) (by rw [Tryd.ntmps4]; simp) rfl rfl (by simp [LO.lt, LV.lts, LV.lt, lts_sv]) (by simp) ?_⟩
 intro B hA hmd
 obtain ⟨bf, hbf⟩ := far_P l hl
 refine .seq ?_
 refine .region rfl ?_
 refine R.assign (h := ?_)
 refine .n0 ?_
 refine .seq ?_
 refine .seq ?_
 refine .region rfl ?_
 refine R.move (h := ?_)
 refine R.callP (es := [_]) (fun _ => hbf) (h := ?_)
 refine R.move (h := ?_)
 refine R.move (h := ?_)
 first | refine R.len S22 (h := ?_) | refine R.lenRs S22 (h := ?_) | refine R.lenV (run_lenNil S22) (h := ?_)
 rw [bytesC_length]
 refine R.bin (run_gtr _ _ _ _ _ _) (h := ?_)
 refine R.or (h := ?_)
 refine .n0 ?_
 refine LGo.ifb (ht := fun hc => ?_) (hf := fun hc => ?_)
 ·
  refine .seq ?_
  refine .region rfl ?_
  refine R.callP (es := []) (fun _ => shown_P) (h := ?_)
  refine R.assign (h := ?_)
  refine .n0 ?_
  exact LGo.ret (ret_T Tryd.results4 hA hmd)
 ·
  simp only [Bool.or_eq_false_iff, decide_eq_false_iff_not] at hc
  have hb4 : b.length ≤ 4000 := by omega
  have hsl := split_len b
  refine .skip ?_
  refine .seq ?_
  refine .region rfl ?_
  refine R.move (h := ?_)
  refine R.callP (es := [_]) (fun _ => join_P l hl) (h := ?_)
  refine R.move (h := ?_)
  refine R.extract (h := ?_)
  refine R.extract (h := ?_)
  refine R.assign (h := ?_)
  refine R.assign (h := ?_)
  refine .n0 ?_
  refine .seq ?_
  refine .seq ?_
  refine .region rfl ?_
  refine R.move (h := ?_)
  refine R.bin (run_eql _ _ _ _ _ _) (h := ?_)
  refine .n0 ?_
  refine LGo.cut (σ := Unit) (fun x => True) (fun x => []) (fun x => []) 0 [(1, _)] (by repeat (first | exact trivial | refine ⟨rfl, ?_⟩)) ?_ (fun hcut => ?_)
  ·
   rintro u _
   refine .seq ?_
   refine .region rfl ?_
   refine R.move (h := ?_)
   refine R.callP (es := [_]) (fun _ => split_P b (by omega)) (h := ?_)
   refine R.move (h := ?_)
   refine R.extract (h := ?_)
   refine R.extract (h := ?_)
   refine R.alloc Z32 (h := ?_)
   refine R.assign (h := ?_)
   refine R.storeA A32 (h := ?_)
   refine .n0 ?_
   refine .seq ?_
   refine .seq ?_
   refine .region rfl ?_
   first | refine R.field F32_1 (h := ?_) | refine R.fieldAt F32_1 (h := ?_)
   first | refine R.loadB O4 (h := ?_) | refine R.load1 O4 (h := ?_)
   refine .n0 ?_
   refine LGo.ifb (ht := fun hc4 => ?_) (hf := fun hc4 => ?_)
   ·
    have hbuf : (split b).2.1 = [] := by
      rcases split_state (b.length + 1) b (by omega) with ⟨_, h⟩ | ⟨h, _⟩
      · exact h
      · rw [h] at hc4; cases hc4
    refine .seq ?_
    refine .region rfl ?_
    first | refine R.field F32_0 (h := ?_) | refine R.fieldAt F32_0 (h := ?_)
    first | refine R.loadB O9 (h := ?_) | refine R.load1 O9 (h := ?_)
    rw [hbuf]
    refine R.bin (run_eqlT _ _ _ _ _) (h := ?_)
    rw [dec_rfl]
    refine R.move (h := ?_)
    refine R.callP (es := []) (fun _ => shown_P) (h := ?_)
    refine R.and (h := ?_)
    refine R.assign (h := ?_)
    refine .n0 ?_
    exact LGo.ret (ret_T Tryd.results4 hA hmd)
   ·
    obtain ⟨hr1, hr2⟩ := round_2 (b.length + 1) b (by omega) hc4
    obtain ⟨W, hW⟩ : ∃ W, ((split b).1.map frm).flatten = W := ⟨_, rfl⟩
    rw [hW] at hr1
    refine .skip ?_
    refine .seq ?_
    refine .region rfl ?_
    refine R.assign (h := ?_)
    refine .n0 ?_
    refine .seq ?_
    refine .seq ?_
    refine .region rfl ?_
    refine R.assign (h := ?_)
    refine .n0 ?_
    refine .block ?_
    refine .loop ?_
    refine LGo.loopG (σ := Nat × List UInt8) (fun x => x.1 ≤ (split b).1.length ∧ x.2.length ≤ 1028 * x.1 ∧ x.2 ++ (((split b).1.drop x.1).map frm).flatten = W) (fun x => [(12, (true, .i (x.1 : Nat))), (11, (true, .t x.2))]) (fun x => [(0, .box 32 [.t (split b).2.1, .b (split b).2.2])]) (fun x => (split b).1.length - x.1) (0, []) [(1, _), (9, _), (10, _)] ⟨Nat.zero_le _, Nat.zero_le _, hW⟩ (by repeat (first | exact trivial | refine ⟨rfl, ?_⟩)) (by repeat (first | exact trivial | refine ⟨rfl, ?_⟩)) (by repeat (first | exact trivial | refine ⟨rfl, ?_⟩)) ?_
    rintro ⟨k, acc⟩ ⟨hk, hal, hq⟩ ih
    dsimp only at * 
    refine .seq ?_
    refine .seq ?_
    refine .region rfl ?_
    refine R.move (h := ?_)
    refine R.move (h := ?_)
    first | refine R.len S23 (h := ?_) | refine R.lenRs S23 (h := ?_) | refine R.lenV (run_lenNil S23) (h := ?_)
    rw [rowsC_length]
    refine R.bin (run_lss _ _ _ _ _ _) (h := ?_)
    refine .n0 ?_
    refine LGo.ifd (ht := fun hc5 => ?_) (hf := fun hc5 => ?_)
    ·
     have hlt : k < (split b).1.length := by omega
     have hx : (rowsC (split b).1)[((k : Nat) : Int).toNat]? = some [.sl 1 (bytesC (split b).1[k])] := by simp [rowsC, hlt]
     have hxr := hr2 _ (List.getElem_mem hlt)
     rw [List.drop_eq_getElem_cons hlt, List.map_cons, List.flatten_cons] at hq
     generalize (split b).1[k] = x at hx hq hxr
     have hfl := frm_len x
     refine .skip ?_
     refine .seq ?_
     refine .block ?_
     refine .seq ?_
     refine .region rfl ?_
     refine R.move (h := ?_)
     refine R.move (h := ?_)
     refine R.index I23 (hj := fun hg => ⟨by omega, hx⟩) (h := ?_)
     first | refine R.loadB O22 (h := ?_) | refine R.load1 O22 (h := ?_)
     refine R.callP (es := [_]) (fun _ => frameA_P x) (h := ?_)
     rw [frame_ok hxr.1 hxr.2]
     refine R.move (h := ?_)
     refine R.extract (h := ?_)
     refine R.extract (h := ?_)
     refine R.assign (h := ?_)
     refine R.assign (h := ?_)
     refine .n0 ?_
     refine .seq ?_
     refine .seq ?_
     refine .region rfl ?_
     refine R.move (h := ?_)
     refine R.bin (run_neq _ _ _ _ _ _) (h := ?_)
     refine .n0 ?_
     refine LGo.ifb (ht := fun hc6 => by simp at hc6) (hf := fun hc6 => ?_)
     refine .skip ?_
     refine .region rfl ?_
     refine R.move (h := ?_)
     refine R.move (h := ?_)
     refine R.toString Tryd.underlying22 Tryd.underlying5 Tryd.underlying9 (h := ?_)
     refine R.bin (run_addT _ _ _ acc (frm x) (by omega)) (h := ?_)
     refine R.assign (h := ?_)
     refine .n0 ?_
     refine .inBlock ?_
     refine .region rfl ?_
     refine R.move (h := ?_)
     first | refine R.add (h := ?_) | refine R.addW (h := ?_)
     refine R.assign (h := ?_)
     refine .n0 ?_
     refine .inLoop ?_
     exact LGo.next _ (fun o h => by have := (hA o).1 h; omega) (by omega) (ih (k + 1, acc ++ frm x) ⟨by dsimp only; omega, by dsimp only; rw [List.length_append]; omega, by dsimp only; rw [← hq]; simp⟩ (by dsimp only; omega)) (by repeat (first | exact trivial | refine ⟨rfl, ?_⟩)) ⟨rfl, trivial⟩
    ·
     rw [List.drop_eq_nil_of_le (show (split b).1.length ≤ k by omega), List.map_nil, List.flatten_nil, List.append_nil] at hq
     subst hq
     refine .exit rfl ?_
     refine .seq ?_
     refine .region rfl ?_
     refine R.move (h := ?_)
     first | refine R.field F32_0 (h := ?_) | refine R.fieldAt F32_0 (h := ?_)
     first | refine R.loadB O9 (h := ?_) | refine R.load1 O9 (h := ?_)
     refine R.bin (run_addT _ _ _ acc (split b).2.1 (by omega)) (h := ?_)
     rw [hr1]
     refine R.move (h := ?_)
     refine R.toString Tryd.underlying22 Tryd.underlying5 Tryd.underlying9 (h := ?_)
     refine R.bin (run_eqlT _ _ _ _ _) (h := ?_)
     rw [dec_rfl]
     refine R.move (h := ?_)
     refine R.callP (es := []) (fun _ => shown_P) (h := ?_)
     refine R.and (h := ?_)
     refine R.assign (h := ?_)
     refine .n0 ?_
     exact LGo.ret (ret_T Tryd.results4 hA hmd)
  ·
   refine LGo.ifd (ht := fun hc2 => ?_) (hf := fun hc2 => ?_)
   ·
    obtain ⟨hjl, hll⟩ := joinF_len hc2
    refine .seq ?_
    refine .region rfl ?_
    refine R.move (h := ?_)
    refine R.callP (es := [_]) (fun _ => split_P (joinF l).1 (by omega)) (h := ?_)
    rw [round_1 hc2]
    refine R.move (h := ?_)
    refine R.extract (h := ?_)
    refine R.extract (h := ?_)
    refine R.alloc Z32 (h := ?_)
    refine R.assign (h := ?_)
    refine R.storeA A32 (h := ?_)
    refine .n0 ?_
    refine .seq ?_
    refine .region rfl ?_
    refine R.move (h := ?_)
    refine R.move (h := ?_)
    refine R.callP (es := [_, _]) (fun _ => same_P l l (by omega) (by omega)) (h := ?_)
    rw [same_self]
    refine R.not (h := ?_)
    refine R.move (h := ?_)
    first | refine R.loadA A32 (h := ?_) | refine R.loadN A32 (h := ?_) | refine R.loadP A32 (h := ?_)
    refine R.build BF32 (is := []) (xs := []) (es := []) (h := ?_)
    refine R.binA (NE32 _ _ _ _ _ _) (h := ?_)
    refine R.or (h := ?_)
    refine .n0 ?_
    refine LGo.ifb (ht := fun hc3 => by simp at hc3) (hf := fun hc3 => ?_)
    refine .skip ?_
    exact LGo.next _ (fun o h => by have := (hA o).1 h; omega) (by omega) (hcut () trivial) (by repeat (first | exact trivial | refine ⟨rfl, ?_⟩)) (by repeat (first | exact trivial | refine ⟨rfl, ?_⟩))
   ·
    refine .skip ?_
    exact LGo.next _ (fun o h => by have := (hA o).1 h; omega) (by omega) (hcut () trivial) (by repeat (first | exact trivial | refine ⟨rfl, ?_⟩)) (by repeat (first | exact trivial | refine ⟨rfl, ?_⟩))

end Go.Proofs.YtnamkhifmankmaaDoor
