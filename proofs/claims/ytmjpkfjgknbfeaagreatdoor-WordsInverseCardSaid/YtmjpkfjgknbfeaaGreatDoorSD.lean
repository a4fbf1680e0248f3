/- words, the reference: next. -/
import Derived.Test.YtmjpkfjgknbfeaaGreatDoorSC
set_option linter.unusedSimpArgs false
set_option linter.unusedVariables false
namespace Go.Proofs.YtmjpkfjgknbfeaaGreatDoor

theorem nextR_P (s : List UInt8) (hs : s.length ≤ 50000) (hd : s.all digC = true) : PC Tryz.prog 36 [.t s] (.t (nextT s)) := by
 refine ⟨LC.of_go Tryz.func36 (c := _) rfl (by kernel_rfl) (by rw [Tryz.ntmps36]; simp) rfl rfl (by simp [LO.lt, LV.lts, LV.lt]) (by simp) ?_⟩
 intro B hA hmd
 obtain ⟨g, e0⟩ : ∃ g, nextT s = g := ⟨_, rfl⟩
 have e1 := e0
 rw [e0]
 refine .seq ?_
 refine .region rfl ?_
 refine R.assign (h := ?_)
 refine .n0 ?_
 refine .seq ?_
 refine .region rfl ?_
 refine R.move (h := ?_)
 refine R.lenT Tryz.runUnderlying9 (h := ?_)
 first | refine R.sub (h := ?_) | refine R.subW (h := ?_)
 refine R.assign (h := ?_)
 refine .n0 ?_
 refine .seq ?_
 refine .block ?_
 refine .loop ?_
 refine LGo.loopG (σ := Nat) (fun x => x ≤ s.length ∧ s.drop x = List.replicate (s.length - x) 57) (fun x => [(3, (true, .i ((x : Int) - 1)))]) (fun x => []) (fun x => x) (s.length) [(0, _)] ⟨Nat.le_refl _, by rw [List.drop_length, Nat.sub_self]; rfl⟩ (by repeat (first | exact trivial | refine ⟨rfl, ?_⟩)) (by repeat (first | exact trivial | refine ⟨rfl, ?_⟩)) (by repeat (first | exact trivial | refine ⟨rfl, ?_⟩)) ?_
 rintro k ⟨hk, hdk⟩ ih
 refine .seq ?_
 refine .seq ?_
 refine .region rfl ?_
 refine R.move (h := ?_)
 refine R.bin (run_geq _ _ _ _ _ _) (h := ?_)
 refine R.move (h := ?_)
 refine R.move (h := ?_)
 refine R.move (h := ?_)
 refine R.indexT Tryz.runUnderlying9 (c := s.getD (k - 1) 0) (hj := fun hg => ⟨by simp at hg; omega, by simp at hg; rw [show Int.toNat ((k : Int) - 1) = k - 1 from by omega, List.getD_eq_getElem?_getD, List.getElem?_eq_getElem (by omega)]; rfl⟩) (h := ?_)
 refine R.bin (run_eql _ _ _ _ _ _) (h := ?_)
 refine R.and (h := ?_)
 refine .n0 ?_
 refine LGo.ifb (ht := fun hc => ?_) (hf := fun hc => ?_)
 ·
  simp only [Bool.or_eq_true, Bool.and_eq_true, decide_eq_true_eq, Bool.or_eq_false_iff, Bool.and_eq_false_iff, decide_eq_false_iff_not, Bool.not_eq_true', Bool.not_eq_false', Bool.not_eq_true, Bool.not_eq_false, Bool.false_eq_true, Bool.true_eq_false, iff_true, true_iff, iff_false, false_iff] at hc
  obtain ⟨j, rfl⟩ : ∃ j, k = j + 1 := ⟨k - 1, by omega⟩
  have hj : j < s.length := by omega
  have hd1 : s.drop j = List.replicate (s.length - j) 57 := by
    rw [List.drop_eq_getElem_cons hj, hdk, show s.length - j = (s.length - (j + 1)) + 1 from by omega, List.replicate_succ]
    congr 1
    have h2 := hc.2
    rw [Nat.add_sub_cancel, List.getD_eq_getElem?_getD, List.getElem?_eq_getElem hj, Option.getD_some] at h2
    exact UInt8.toNat.inj (by show s[j].toNat = 57; omega)
  refine .skip ?_
  refine .block ?_
  refine .region rfl ?_
  refine R.move (h := ?_)
  first | refine R.sub (h := ?_) | refine R.subW (h := ?_)
  rw [show ((j + 1 : Nat) : Int) - 1 - 1 = (j : Int) - 1 from by omega]
  refine R.assign (h := ?_)
  refine .n0 ?_
  refine .inBlock ?_
  refine .inLoop ?_
  exact LGo.next _ (fun o h => by have := (hA o).1 h; omega) (by omega) (ih j ⟨by omega, hd1⟩ (by omega)) (by repeat (first | exact trivial | refine ⟨rfl, ?_⟩)) trivial
 ·
  refine .exit rfl ?_
  refine .seq ?_
  refine .region rfl ?_
  refine R.assign (h := ?_)
  refine .n0 ?_
  refine .seq ?_
  refine .seq ?_
  refine .region rfl ?_
  refine R.move (h := ?_)
  first | refine R.add (h := ?_) | refine R.addW (h := ?_)
  rw [show (k : Int) - 1 + 1 = ((k + 0 : Nat) : Int) from by omega]
  refine R.assign (h := ?_)
  refine .n0 ?_
  refine .block ?_
  refine .loop ?_
  refine LGo.loopG (σ := Nat) (fun x => k + x ≤ s.length) (fun x => [(5, (true, .i ((k + x : Nat) : Nat))), (4, (true, .t (List.replicate x 48)))]) (fun x => []) (fun x => s.length - (k + x)) (0) [(0, _), (3, _)] hk (by repeat (first | exact trivial | refine ⟨rfl, ?_⟩)) (by repeat (first | exact trivial | refine ⟨rfl, ?_⟩)) (by repeat (first | exact trivial | refine ⟨rfl, ?_⟩)) ?_
  rintro j hj ih2
  refine .seq ?_
  refine .seq ?_
  refine .region rfl ?_
  refine R.move (h := ?_)
  refine R.move (h := ?_)
  refine R.lenT Tryz.runUnderlying9 (h := ?_)
  refine R.bin (run_lss _ _ _ _ _ _) (h := ?_)
  refine .n0 ?_
  refine LGo.ifd (ht := fun hc2 => ?_) (hf := fun hc2 => ?_)
  ·
   refine .skip ?_
   refine .seq ?_
   refine .block ?_
   refine .region rfl ?_
   refine R.move (h := ?_)
   refine R.bin (run_addT _ _ _ (List.replicate j 48) ([48]) (by first | omega | (simp; omega))) (h := ?_)
   rw [show List.replicate j 48 ++ [48] = List.replicate (j + 1) (48 : UInt8) from by rw [List.replicate_succ']]
   refine R.assign (h := ?_)
   refine .n0 ?_
   refine .inBlock ?_
   refine .region rfl ?_
   refine R.move (h := ?_)
   first | refine R.add (h := ?_) | refine R.addW (h := ?_)
   refine R.assign (h := ?_)
   refine .n0 ?_
   refine .inLoop ?_
   rw [show ((k + j : Nat) : Int) + 1 = ((k + (j + 1) : Nat) : Int) from by omega]
   exact LGo.next _ (fun o h => by have := (hA o).1 h; omega) (by omega) (ih2 (j + 1) (by omega) (by omega)) (by repeat (first | exact trivial | refine ⟨rfl, ?_⟩)) trivial
  ·
   refine .exit rfl ?_
   refine .seq ?_
   refine .seq ?_
   refine .region rfl ?_
   refine R.move (h := ?_)
   refine R.bin (run_lss _ _ _ _ _ _) (h := ?_)
   refine .n0 ?_
   refine LGo.ifd (ht := fun hc3 => ?_) (hf := fun hc3 => ?_)
   ·
    obtain rfl : k = 0 := by omega
    obtain rfl : j = s.length := by omega
    have hs9 : s = List.replicate s.length 57 := by simpa using hdk
    have e2 : 49 :: List.replicate s.length 48 = g := by rw [← e1]; conv => rhs; rw [hs9, nextT_all]
    rw [← e2]
    refine .seq ?_
    refine .region rfl ?_
    refine R.move (h := ?_)
    refine R.bin (run_addT _ _ _ ([49]) (List.replicate s.length 48) (by first | omega | (simp; omega))) (h := ?_)
    refine R.assign (h := ?_)
    refine .n0 ?_
    exact LGo.ret (ret_T Tryz.results36 hA hmd)
   ·
    obtain ⟨i, rfl⟩ : ∃ i, k = i + 1 := ⟨k - 1, by omega⟩
    have hi : i < s.length := by omega
    have hsp : s = s.take i ++ [s[i]] ++ List.replicate j 57 := by
      conv => lhs; rw [← List.take_append_drop (i + 1) s, hdk, List.take_succ_eq_append_getElem hi, show s.length - (i + 1) = j from by omega]
    have h9 : ¬ s[i] = 57 := by
      intro h
      have h2 : (s.getD (i + 1 - 1) 0) = 57 := by rw [Nat.add_sub_cancel, List.getD_eq_getElem?_getD, List.getElem?_eq_getElem hi]; exact h
      rw [h2] at hc
      first
      | (simp at hc; done)
      | (simp at hc; omega)
    have hdc : digC s[i] = true := by rw [List.all_eq_true] at hd; exact hd _ (List.getElem_mem hi)
    obtain ⟨hs1, _, hs3, hs4⟩ := dig_succ hdc h9
    have hx : s[i]? = some s[i] := List.getElem?_eq_getElem hi
    have e2 : s.take i ++ [s[i] + 1] ++ List.replicate j 48 = g := by rw [← e1]; conv => rhs; rw [hsp]; rw [nextT_mid _ _ _ h9]
    rw [← e2]
    generalize s[i] = c at hx hs1 hs3 hs4
    have hti : (s.take i).length ≤ 50000 := by rw [List.length_take]; omega
    refine .skip ?_
    refine .seq ?_
    refine .region rfl ?_
    refine R.move (h := ?_)
    refine R.move (h := ?_)
    refine R.sliceTHi Tryz.runUnderlying9 (ha := fun _ => by simp; omega) (h := ?_)
    rw [show Int.toNat (((i + 1 : Nat) : Int) - 1) = i from by omega]
    refine R.move (h := ?_)
    refine R.move (h := ?_)
    refine R.indexT Tryz.runUnderlying9 (c := c) (hj := fun hg => ⟨by omega, by rw [show Int.toNat (((i + 1 : Nat) : Int) - 1) = i from by omega]; exact hx⟩) (h := ?_)
    first | refine R.add (h := ?_) | refine R.addW (h := ?_)
    rw [show (c.toNat : Int) + 1 = (((c + 1).toNat : Nat) : Int) from by rw [hs1]; omega]
    refine R.buildSliceF AP49 (bytesC [c + 1]) (xs := [_]) (es := [_]) (hcs := CellsOfs.cons (CellsOf.one rfl) CellsOfs.nil) (h := ?_)
    refine R.toString Tryz.underlying49 Tryz.underlying5 Tryz.underlying9 (h := ?_)
    refine R.bin (run_addT _ _ _ (s.take i) ([c + 1]) (by first | omega | (simp; omega))) (h := ?_)
    refine R.move (h := ?_)
    refine R.bin (run_addT _ _ _ (s.take i ++ [c + 1]) (List.replicate j 48) (by first | omega | (simp; omega))) (h := ?_)
    refine R.assign (h := ?_)
    refine Reg.nil ⟨fun _ => ⟨mixedO, by rfl, by rfl⟩, ?_⟩
    exact LGo.ret (ret_T Tryz.results36 hA hmd)

end Go.Proofs.YtmjpkfjgknbfeaaGreatDoor
