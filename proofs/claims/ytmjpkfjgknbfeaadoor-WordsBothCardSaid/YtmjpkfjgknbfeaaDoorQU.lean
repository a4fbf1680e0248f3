/- words: the law WordsBoth. -/
import Derived.Test.YtmjpkfjgknbfeaaDoorQT
set_option linter.unusedSimpArgs false
set_option linter.unusedVariables false
namespace Go.Proofs.YtmjpkfjgknbfeaaDoor

def okJ (l : List Fd) : Prop := ¬ 64 < (l.length : Int) ∧ longA l = false ∧ badA l = false ∧ ¬ 8192 < ((lineF l).length : Int)
theorem joinW_okJ {l : List Fd} (h : okJ l) : joinW l = (lineF l, 0) := by
  obtain ⟨h1, h2, h3, h4⟩ := h
  unfold joinW
  rw [if_neg h1, if_neg (by rw [h2]; simp), if_neg (by rw [h3]; simp), if_neg h4]
theorem joinW_z {l : List Fd} (h : (joinW l).2 = 0) : okJ l := by
  unfold joinW at h
  split at h
  · cases h
  · split at h
    · cases h
    · split at h
      · cases h
      · split at h
        · cases h
        · rename_i h1 h2 h3 h4
          exact ⟨h1, by simpa using h2, by simpa using h3, h4⟩
theorem lineF_app : ∀ {l m : List Fd}, l ≠ [] → m ≠ [] → lineF (l ++ m) = lineF l ++ [32] ++ lineF m
  | [], _, h, _ => absurd rfl h
  | [f], [], _, h => absurd rfl h
  | [f], g :: m, _, _ => by
    rw [List.singleton_append, lineF_cons, lineF_one]; simp
  | f :: g :: l, m, _, h => by
    have ih := lineF_app (l := g :: l) (by simp) h
    rw [List.cons_append, List.cons_append, lineF_cons, ← List.cons_append, ih, lineF_cons]; simp
theorem both_ok {l m : List Fd} (h1 : l ≠ []) (h2 : m ≠ []) (h : okJ (l ++ m)) : okJ l ∧ okJ m := by
  obtain ⟨a, b, c, d⟩ := h
  rw [lineF_app h1 h2] at d
  unfold longA at b
  unfold badA at c
  rw [List.any_append, Bool.or_eq_false_iff] at b c
  simp only [List.length_append, List.length_cons, List.length_nil] at a d
  exact ⟨⟨by omega, b.1, c.1, by omega⟩, ⟨by omega, b.2, c.2, by omega⟩⟩
theorem both_bad {l m : List Fd} (h1 : l ≠ []) (h2 : m ≠ []) (h : ¬ (joinW l).2 = 0 ∨ ¬ (joinW m).2 = 0) : ¬ (joinW (l ++ m)).2 = 0 := fun h3 => by
  obtain ⟨a, b⟩ := both_ok h1 h2 (joinW_z h3)
  rw [joinW_okJ a, joinW_okJ b] at h
  simp at h
theorem both_long {l m : List Fd} (h1 : l ≠ []) (h2 : m ≠ []) (a : okJ l) (b : okJ m) (h : 64 < (l.length : Int) + (m.length : Int) ∨ 8192 < ((lineF l).length : Int) + 1 + ((lineF m).length : Int)) : joinW (l ++ m) = ([], 3) := by
  have b1 : longA (l ++ m) = false := by unfold longA; rw [List.any_append, Bool.or_eq_false_iff]; exact ⟨a.2.1, b.2.1⟩
  have b2 : badA (l ++ m) = false := by unfold badA; rw [List.any_append, Bool.or_eq_false_iff]; exact ⟨a.2.2.1, b.2.2.1⟩
  unfold joinW
  by_cases h64 : 64 < ((l ++ m).length : Int)
  · rw [if_pos h64]
  · rw [if_neg h64, if_neg (by rw [b1]; simp), if_neg (by rw [b2]; simp), if_pos]
    rw [lineF_app h1 h2]
    simp only [List.length_append, List.length_cons, List.length_nil] at h64 ⊢
    omega
theorem both_fit {l m : List Fd} (h1 : l ≠ []) (h2 : m ≠ []) (a : okJ l) (b : okJ m) (h : ¬ 64 < (l.length : Int) + (m.length : Int)) (h' : ¬ 8192 < ((lineF l).length : Int) + 1 + ((lineF m).length : Int)) : joinW (l ++ m) = (lineF l ++ [32] ++ lineF m, 0) := by
  have b1 : longA (l ++ m) = false := by unfold longA; rw [List.any_append, Bool.or_eq_false_iff]; exact ⟨a.2.1, b.2.1⟩
  have b2 : badA (l ++ m) = false := by unfold badA; rw [List.any_append, Bool.or_eq_false_iff]; exact ⟨a.2.2.1, b.2.2.1⟩
  rw [← lineF_app h1 h2]
  refine joinW_okJ ⟨by rw [List.length_append]; omega, b1, b2, ?_⟩
  rw [lineF_app h1 h2]
  simp only [List.length_append, List.length_cons, List.length_nil]
  omega

theorem lawBoth_P (l m : List Fd) (hl : l.length ≤ maxLen) (hm : m.length ≤ maxLen) : PC Tryd.prog 7 [.sv (.sl 2 (l.map Fd.c)), .sv (.sl 2 (m.map Fd.c))] (.b true) := by
 refine ⟨LC.of_go Tryd.func7 (c := _) rfl (by kernel_rfl) (by rw [Tryd.ntmps7]; simp) rfl rfl (by simp [LO.lt, LV.lts, LV.lt]) (by simp) ?_⟩
 intro B hA hmd
 refine .seq ?_
 refine .region rfl ?_
 refine R.assign (h := ?_)
 refine .n0 ?_
 refine .seq ?_
 refine .seq ?_
 refine .region rfl ?_
 refine R.move (h := ?_)
 refine R.callP (es := [_]) (fun _ => far_P l hl) (h := ?_)
 refine R.move (h := ?_)
 refine R.move (h := ?_)
 refine R.callP (es := [_]) (fun _ => far_P m hm) (h := ?_)
 refine R.or (h := ?_)
 refine R.move (h := ?_)
 refine R.move (h := ?_)
 first | refine R.len S23 (h := ?_) | refine R.lenRs S23 (h := ?_) | refine R.lenV (run_lenNil S23) (h := ?_)
 rw [List.length_map]
 refine R.bin (run_eql _ _ _ _ _ _) (h := ?_)
 refine R.or (h := ?_)
 refine R.move (h := ?_)
 refine R.move (h := ?_)
 first | refine R.len S23 (h := ?_) | refine R.lenRs S23 (h := ?_) | refine R.lenV (run_lenNil S23) (h := ?_)
 rw [List.length_map]
 refine R.bin (run_eql _ _ _ _ _ _) (h := ?_)
 refine R.or (h := ?_)
 refine .n0 ?_
 refine LGo.ifb (ht := fun hc => ?_) (hf := fun hc => ?_)
 ·
  refine .seq ?_
  refine .region rfl ?_
  refine R.callP (es := []) (fun _ => shown_P) (h := ?_)
  refine R.assign (h := ?_)
  refine .n0 ?_
  exact LGo.ret (ret_T Tryd.results7 hA hmd)
 ·
  simp only [Bool.or_eq_false_iff, decide_eq_false_iff_not] at hc
  obtain ⟨⟨⟨hf1, hf2⟩, hl0⟩, hm0⟩ := hc
  have hl7 := far_len hf1
  have hm7 := far_len hf2
  have hln : l ≠ [] := by intro h; subst h; exact hl0 rfl
  have hmn : m ≠ [] := by intro h; subst h; exact hm0 rfl
  refine .skip ?_
  refine .seq ?_
  refine .region rfl ?_
  refine R.move (h := ?_)
  refine R.callP (es := [_]) (fun _ => joinW_P l (by omega)) (h := ?_)
  refine R.move (h := ?_)
  refine R.extract (h := ?_)
  refine R.extract (h := ?_)
  refine R.assign (h := ?_)
  refine R.assign (h := ?_)
  refine .n0 ?_
  refine .seq ?_
  refine .region rfl ?_
  refine R.move (h := ?_)
  refine R.callP (es := [_]) (fun _ => joinW_P m (by omega)) (h := ?_)
  refine R.move (h := ?_)
  refine R.extract (h := ?_)
  refine R.extract (h := ?_)
  refine R.assign (h := ?_)
  refine R.assign (h := ?_)
  refine .n0 ?_
  refine .seq ?_
  refine .region rfl ?_
  refine R.buildSliceR AP23 (xs := []) (es := []) (hcs := CellsOfs.nil) (h := ?_)
  refine R.move (h := ?_)
  refine R.appendS AP23 (hs := SrcOk.sl Tryd.underlying23 (by simp [Fd.c])) (hlen := by simp; omega) (h := ?_)
  refine R.move (h := ?_)
  refine R.appendF AP23 (hs := SrcOk.sl Tryd.underlying23 (by simp [Fd.c])) (hlen := by simp; omega) (h := ?_)
  rw [show ([] : List (List SV)) ++ l.map Fd.c ++ m.map Fd.c = (l ++ m).map Fd.c from by simp]
  refine R.callP (es := [_]) (fun _ => joinW_P (l ++ m) (by rw [List.length_append]; omega)) (h := ?_)
  refine R.move (h := ?_)
  refine R.extract (h := ?_)
  refine R.extract (h := ?_)
  refine R.assign (h := ?_)
  refine R.assign (h := ?_)
  refine .n0 ?_
  refine .seq ?_
  refine .seq ?_
  refine .region rfl ?_
  refine R.move (h := ?_)
  refine R.bin (run_neq _ _ _ _ _ _) (h := ?_)
  refine R.move (h := ?_)
  refine R.move (h := ?_)
  refine R.bin (run_neq _ _ _ _ _ _) (h := ?_)
  refine R.or (h := ?_)
  refine .n0 ?_
  refine LGo.ifb (ht := fun hc2 => ?_) (hf := fun hc2 => ?_)
  ·
   have hg := both_bad hln hmn (by simpa using hc2)
   refine .seq ?_
   refine .region rfl ?_
   refine R.move (h := ?_)
   refine R.bin (run_neq _ _ _ _ _ _) (h := ?_)
   refine R.move (h := ?_)
   refine R.callP (es := []) (fun _ => shown_P) (h := ?_)
   refine R.and (h := ?_)
   refine R.assign (h := ?_)
   refine .n0 ?_
   refine LGo.tru 4 (hb := by simp [hg]) (h := ?_)
   exact LGo.ret (ret_T Tryd.results7 hA hmd)
  ·
   have ha := joinW_z (l := l) (by simp at hc2; exact hc2.1)
   have hb := joinW_z (l := m) (by simp at hc2; exact hc2.2)
   have hla := ha.2.2.2
   have hlb := hb.2.2.2
   rw [joinW_okJ ha, joinW_okJ hb]
   refine .skip ?_
   refine .seq ?_
   refine .seq ?_
   refine .region rfl ?_
   refine R.move (h := ?_)
   first | refine R.len S23 (h := ?_) | refine R.lenRs S23 (h := ?_) | refine R.lenV (run_lenNil S23) (h := ?_)
   rw [List.length_map]
   refine R.move (h := ?_)
   first | refine R.len S23 (h := ?_) | refine R.lenRs S23 (h := ?_) | refine R.lenV (run_lenNil S23) (h := ?_)
   rw [List.length_map]
   first | refine R.add (h := ?_) | refine R.addW (h := ?_)
   refine R.bin (run_gtr _ _ _ _ _ _) (h := ?_)
   refine R.move (h := ?_)
   refine R.move (h := ?_)
   refine R.lenT Tryd.runUnderlying9 (h := ?_)
   first | refine R.add (h := ?_) | refine R.addW (h := ?_)
   refine R.move (h := ?_)
   refine R.lenT Tryd.runUnderlying9 (h := ?_)
   first | refine R.add (h := ?_) | refine R.addW (h := ?_)
   refine R.bin (run_gtr _ _ _ _ _ _) (h := ?_)
   refine R.or (h := ?_)
   rw [show IntKind.i64.wrap (IntKind.i64.wrap (((lineF l).length : Int) + 1) + ((lineF m).length : Int)) = ((lineF l).length : Int) + 1 + ((lineF m).length : Int) from by rw [IntKind.wrap_i64, IntKind.wrap_i64]; omega]
   refine .n0 ?_
   refine LGo.ifb (ht := fun hc3 => ?_) (hf := fun hc3 => ?_)
   ·
    have hg := both_long hln hmn ha hb (by simpa using hc3)
    rw [hg]
    refine .seq ?_
    refine .region rfl ?_
    refine R.move (h := ?_)
    refine R.bin (run_eql _ _ _ _ _ _) (h := ?_)
    refine R.move (h := ?_)
    refine R.move (h := ?_)
    refine R.bin (run_eqlT _ _ _ _ _) (h := ?_)
    refine R.and (h := ?_)
    refine R.move (h := ?_)
    refine R.callP (es := []) (fun _ => shown_P) (h := ?_)
    refine R.and (h := ?_)
    refine R.assign (h := ?_)
    refine .n0 ?_
    refine LGo.tru 4 (hb := by simp) (h := ?_)
    exact LGo.ret (ret_T Tryd.results7 hA hmd)
   ·
    simp only [Bool.or_eq_false_iff, decide_eq_false_iff_not] at hc3
    have hg := both_fit hln hmn ha hb hc3.1 hc3.2
    rw [hg]
    refine .skip ?_
    refine .seq ?_
    refine .region rfl ?_
    refine R.move (h := ?_)
    refine R.bin (run_eql _ _ _ _ _ _) (h := ?_)
    refine R.move (h := ?_)
    refine R.move (h := ?_)
    refine R.move (h := ?_)
    refine R.bin (run_addT _ _ _ (lineF l) [32] (by simp; omega)) (h := ?_)
    refine R.move (h := ?_)
    refine R.bin (run_addT _ _ _ (lineF l ++ [32]) (lineF m) (by simp; omega)) (h := ?_)
    refine R.bin (run_eqlT _ _ _ _ _) (h := ?_)
    refine R.and (h := ?_)
    refine R.move (h := ?_)
    refine R.callP (es := []) (fun _ => shown_P) (h := ?_)
    refine R.and (h := ?_)
    refine R.assign (h := ?_)
    refine .n0 ?_
    refine LGo.tru 4 (hb := by simp) (h := ?_)
    exact LGo.ret (ret_T Tryd.results7 hA hmd)

end Go.Proofs.YtmjpkfjgknbfeaaDoor
