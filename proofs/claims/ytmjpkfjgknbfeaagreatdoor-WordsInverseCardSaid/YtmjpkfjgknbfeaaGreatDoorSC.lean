/- words: follows, and the reference's next. -/
import Derived.Test.YtmjpkfjgknbfeaaGreatDoorSB
set_option linter.unusedSimpArgs false
set_option linter.unusedVariables false
namespace Go.Proofs.YtmjpkfjgknbfeaaGreatDoor

theorem repeatL_48 : ∀ k : Nat, Lib.repeatL [48] k = List.replicate k 48
  | 0 => rfl
  | k + 1 => by rw [Lib.repeatL, repeatL_48 k]; rfl
theorem repeat_P (k : Nat) (hk : k ≤ 100000) : PC Tryz.prog 55 [.t [48], .i k] (.t (List.replicate k 48)) :=
  PC.of_val (Entr.of Tryz.func55 rfl (by kernel_rfl)) (by simp [LV.lts, LV.lt]) fun cx w vs hl ham hv => by
    obtain ⟨v1, v2, rfl, h2, h3⟩ : ∃ v1 v2, vs = [v1, v2] ∧ V cx w (.t [48]) v1 ∧ V cx w (.i k) v2 := by
      simp only [Vs] at hv
      obtain ⟨v1, r1, rfl, h1, v2, r2, rfl, h2, rfl⟩ := hv
      exact ⟨_, _, rfl, h1, h2⟩
    rw [h2.val, h3.val]
    refine (Tryz.strings_Repeat ⟨#[48]⟩ k w (by omega) (by show 1 * k ≤ _; omega)).mono ?_
    rintro e w' ⟨rfl, hb⟩
    exact ⟨by rw [← repeatL_48], hb⟩
theorem lastNK_mid (q : List UInt8) (c : UInt8) (h : ¬ c = 57) (m : Nat) : ∀ j : Nat, j ≤ m → lastNK (q ++ [c] ++ List.replicate m 57) (q.length + 1 + j) = (q.length : Nat)
  | 0, _ => by
    rw [Nat.add_zero, lastNK, if_neg]
    simpa [List.getD_eq_getElem?_getD] using h
  | j + 1, hj => by
    rw [← Nat.add_assoc, lastNK, if_pos, lastNK_mid q c h m j (by omega)]
    have e : (q ++ [c]).length = q.length + 1 := by simp
    rw [List.getD_eq_getElem?_getD, List.getElem?_append_right (by omega), e, show q.length + 1 + j - (q.length + 1) = j from by omega, List.getElem?_replicate, if_pos (by omega)]
    rfl
theorem lastNK_all (m : Nat) : ∀ j : Nat, j ≤ m → lastNK (List.replicate m 57) j = -1
  | 0, _ => rfl
  | j + 1, hj => by
    rw [lastNK, if_pos, lastNK_all m j (by omega)]
    simp [List.getD_eq_getElem?_getD, List.getElem?_replicate, show j < m from hj]
theorem nine_cases : ∀ s : List UInt8, (∃ m, s = List.replicate m 57) ∨ ∃ q c m, s = q ++ [c] ++ List.replicate m 57 ∧ ¬ c = 57 := by
  intro s
  have key : ∀ r : List UInt8, (∃ m, r = List.replicate m 57) ∨ ∃ q c m, r = List.replicate m 57 ++ c :: q ∧ ¬ c = 57 := by
    intro r
    induction r with
    | nil => exact .inl ⟨0, rfl⟩
    | cons x r ih =>
      by_cases hx : x = 57
      · subst hx
        rcases ih with ⟨m, rfl⟩ | ⟨q, c, m, rfl, h⟩
        · exact .inl ⟨m + 1, rfl⟩
        · exact .inr ⟨q, c, m + 1, rfl, h⟩
      · exact .inr ⟨r, x, 0, rfl, hx⟩
  rcases key s.reverse with ⟨m, h⟩ | ⟨q, c, m, h, h9⟩
  · refine .inl ⟨m, ?_⟩
    have := congrArg List.reverse h
    simpa using this
  · refine .inr ⟨q.reverse, c, m, ?_, h9⟩
    have := congrArg List.reverse h
    simpa using this
theorem dig_128 {c : UInt8} (h : digC c = true) : c.toNat < 128 := by unfold digC at h; simp at h; omega

theorem lastIdxF_P (s : List UInt8) (hs : s.length ≤ 100000) (h8 : ∀ c ∈ s, c.toNat < 128) : PC Tryz.prog 53 [.t s, .fn (.func 54) [] []] (.i (lastNK s s.length)) := by
 refine ⟨LC.of_go Tryz.func53 (c := _) rfl (by kernel_rfl) (by rw [Tryz.ntmps53]; simp) rfl rfl (by simp [LO.lt, LV.lts, LV.lt]) (by simp) ?_⟩
 intro B hA hmd
 refine .seq ?_
 refine .region rfl ?_
 refine R.assign (h := ?_)
 refine .n0 ?_
 refine .seq ?_
 refine .region rfl ?_
 refine R.move (h := ?_)
 refine R.move (h := ?_)
 refine R.callP (es := [_, _, _]) (fun _ => lastIdx_P s hs h8) (h := ?_)
 refine R.assign (h := ?_)
 refine .n0 ?_
 exact LGo.ret (ret_T Tryz.results53 hA hmd)

theorem follows_all (m : Nat) (b : List UInt8) (hm : m ≤ 50000) (hb : b.length ≤ 100000) : PC Tryz.prog 31 [.t (List.replicate m 57), .t b] (.b (decide (cmpT (nextT (List.replicate m 57)) b < 0))) := by
 refine ⟨LC.of_go Tryz.func31 (c := _) rfl (by kernel_rfl) (by rw [Tryz.ntmps31]; simp) rfl rfl (by simp [LO.lt, LV.lts, LV.lt]) (by simp) ?_⟩
 intro B hA hmd
 rw [nextT_all]
 refine .seq ?_
 refine .region rfl ?_
 refine R.assign (h := ?_)
 refine .n0 ?_
 refine .seq ?_
 refine .region rfl ?_
 refine R.move (h := ?_)
 refine R.callP (es := [_, _]) (fun _ => lastIdxF_P (List.replicate m 57) (by rw [List.length_replicate]; omega) (fun c hc => by rw [List.eq_of_mem_replicate hc]; decide)) (h := ?_)
 rw [List.length_replicate, lastNK_all m m (Nat.le_refl _)]
 refine R.assign (h := ?_)
 refine .n0 ?_
 refine .seq ?_
 refine .region rfl ?_
 refine R.move (h := ?_)
 refine R.lenT Tryz.runUnderlying9 (h := ?_)
 rw [List.length_replicate]
 first | refine R.sub (h := ?_) | refine R.subW (h := ?_)
 refine R.move (h := ?_)
 first | refine R.sub (h := ?_) | refine R.subW (h := ?_)
 rw [show (m : Int) - 1 - -1 = ((m : Nat) : Int) from by omega]
 refine R.callP (es := [_, _]) (fun _ => repeat_P m (by omega)) (h := ?_)
 refine R.assign (h := ?_)
 refine .n0 ?_
 refine .seq ?_
 refine .seq ?_
 refine .region rfl ?_
 refine R.move (h := ?_)
 refine R.bin (run_lss _ _ _ _ _ _) (h := ?_)
 refine .n0 ?_
 refine LGo.ifb (ht := fun hc => ?_) (hf := fun hc => by simp at hc)
 refine .seq ?_
 refine .region rfl ?_
 refine R.move (h := ?_)
 refine R.bin (run_addT _ _ _ [49] (List.replicate m 48) (by simp; omega)) (h := ?_)
 refine R.move (h := ?_)
 refine R.callP (es := [_, _]) (fun _ => cmpT_P (49 :: List.replicate m 48) b (by simp; omega) (by omega)) (h := ?_)
 refine R.bin (run_lss _ _ _ _ _ _) (h := ?_)
 refine R.assign (h := ?_)
 refine .n0 ?_
 exact LGo.ret (ret_T Tryz.results31 hA hmd)

theorem follows_mid (q : List UInt8) (c : UInt8) (m : Nat) (b : List UInt8) (hd : (q ++ [c] ++ List.replicate m 57).all digC = true) (h9 : ¬ c = 57) (hm : q.length + m ≤ 50000) (hb : b.length ≤ 100000) : PC Tryz.prog 31 [.t (q ++ [c] ++ List.replicate m 57), .t b] (.b (decide (cmpT (nextT (q ++ [c] ++ List.replicate m 57)) b < 0))) := by
 refine ⟨LC.of_go Tryz.func31 (c := _) rfl (by kernel_rfl) (by rw [Tryz.ntmps31]; simp) rfl rfl (by simp [LO.lt, LV.lts, LV.lt]) (by simp) ?_⟩
 intro B hA hmd
 rw [nextT_mid q c m h9]
 have hdc : digC c = true := by rw [List.all_eq_true] at hd; exact hd c (by simp)
 obtain ⟨hs1, _, hs3, hs4⟩ := dig_succ hdc h9
 have hll : (q ++ [c] ++ List.replicate m 57).length = q.length + 1 + m := by simp; omega
 refine .seq ?_
 refine .region rfl ?_
 refine R.assign (h := ?_)
 refine .n0 ?_
 refine .seq ?_
 refine .region rfl ?_
 refine R.move (h := ?_)
 refine R.callP (es := [_, _]) (fun _ => lastIdxF_P (q ++ [c] ++ List.replicate m 57) (by omega) (fun x hx => dig_128 (by rw [List.all_eq_true] at hd; exact hd x hx))) (h := ?_)
 rw [hll, lastNK_mid q c h9 m m (Nat.le_refl _)]
 refine R.assign (h := ?_)
 refine .n0 ?_
 refine .seq ?_
 refine .region rfl ?_
 refine R.move (h := ?_)
 refine R.lenT Tryz.runUnderlying9 (h := ?_)
 rw [hll]
 first | refine R.sub (h := ?_) | refine R.subW (h := ?_)
 refine R.move (h := ?_)
 first | refine R.sub (h := ?_) | refine R.subW (h := ?_)
 rw [show ((q.length + 1 + m : Nat) : Int) - 1 - (q.length : Nat) = ((m : Nat) : Int) from by omega]
 refine R.callP (es := [_, _]) (fun _ => repeat_P m (by omega)) (h := ?_)
 refine R.assign (h := ?_)
 refine .n0 ?_
 refine .seq ?_
 refine .seq ?_
 refine .region rfl ?_
 refine R.move (h := ?_)
 refine R.bin (run_lss _ _ _ _ _ _) (h := ?_)
 refine .n0 ?_
 refine LGo.ifb (ht := fun hc => by simp at hc; omega) (hf := fun hc => ?_)
 refine .skip ?_
 refine .seq ?_
 refine .region rfl ?_
 refine R.move (h := ?_)
 refine R.move (h := ?_)
 refine R.sliceTHi Tryz.runUnderlying9 (ha := fun _ => by simp; omega) (h := ?_)
 rw [Int.toNat_natCast, List.append_assoc, List.take_left]
 refine R.move (h := ?_)
 refine R.move (h := ?_)
 refine R.indexT Tryz.runUnderlying9 (c := c) (hj := fun hg => ⟨by omega, by rw [Int.toNat_natCast]; simp⟩) (h := ?_)
 first | refine R.add (h := ?_) | refine R.addW (h := ?_)
 rw [show (c.toNat : Int) + 1 = (((c + 1).toNat : Nat) : Int) from by rw [hs1]; omega]
 refine R.buildSliceF AP49 (bytesC [c + 1]) (xs := [_]) (es := [_]) (hcs := CellsOfs.cons (CellsOf.one rfl) CellsOfs.nil) (h := ?_)
 refine R.toString Tryz.underlying49 Tryz.underlying5 Tryz.underlying9 (h := ?_)
 refine R.bin (run_addT _ _ _ q [c + 1] (by simp; omega)) (h := ?_)
 refine R.move (h := ?_)
 refine R.bin (run_addT _ _ _ (q ++ [c + 1]) (List.replicate m 48) (by simp; omega)) (h := ?_)
 refine R.move (h := ?_)
 refine R.callP (es := [_, _]) (fun _ => cmpT_P (q ++ [c + 1] ++ List.replicate m 48) b (by simp; omega) (by omega)) (h := ?_)
 refine R.bin (run_lss _ _ _ _ _ _) (h := ?_)
 refine R.assign (h := ?_)
 refine Reg.nil ⟨fun _ => ⟨mixedO, by rfl, by rfl⟩, ?_⟩
 exact LGo.ret (ret_T Tryz.results31 hA hmd)

theorem follows_P (a b : List UInt8) (hd : a.all digC = true) (ha : a.length ≤ 50000) (hb : b.length ≤ 100000) : PC Tryz.prog 31 [.t a, .t b] (.b (decide (cmpT (nextT a) b < 0))) := by
  rcases nine_cases a with ⟨m, rfl⟩ | ⟨q, c, m, rfl, h9⟩
  · exact follows_all m b (by simpa using ha) hb
  · exact follows_mid q c m b hd h9 (by simp at ha; omega) hb

end Go.Proofs.YtmjpkfjgknbfeaaGreatDoor
