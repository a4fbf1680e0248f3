/- words, the reference: the form of a byte between quotes; bare fields. -/
import Derived.Test.YtcobkjognpjikaaGreatDoorQG
set_option linter.unusedSimpArgs false
set_option linter.unusedVariables false
namespace Go.Proofs.YtcobkjognpjikaaGreatDoor

theorem plainR_P (c : UInt8) : PC Tryz.prog 78 [.y c.toNat] (.b (plainC c)) := by
 refine ⟨LC.of_go Tryz.func78 (c := _) rfl (by kernel_rfl) (by rw [Tryz.ntmps78]; simp) rfl rfl (by simp [LO.lt, LV.lts, LV.lt]) (by simp) ?_⟩
 intro B hA hmd
 rw [plainC_int]
 refine .seq ?_
 refine .region rfl ?_
 refine R.assign (h := ?_)
 refine .n0 ?_
 refine .seq ?_
 refine .region rfl ?_
 refine R.move (h := ?_)
 refine R.bin (run_geq _ _ _ _ _ _) (h := ?_)
 refine R.move (h := ?_)
 refine R.move (h := ?_)
 refine R.bin (run_leq _ _ _ _ _ _) (h := ?_)
 refine R.and (h := ?_)
 refine R.move (h := ?_)
 refine R.move (h := ?_)
 refine R.bin (run_neq _ _ _ _ _ _) (h := ?_)
 refine R.and (h := ?_)
 refine R.move (h := ?_)
 refine R.move (h := ?_)
 refine R.bin (run_neq _ _ _ _ _ _) (h := ?_)
 refine R.and (h := ?_)
 refine R.assign (h := ?_)
 refine .n0 ?_
 exact LGo.ret (ret_T Tryz.results78 hA hmd)

theorem hexR_P (n : Nat) (hn : n < 16) : PC Tryz.prog 79 [.y n] (.y (hexD n).toNat) := by
 refine ⟨LC.of_go Tryz.func79 (c := _) rfl (by kernel_rfl) (by rw [Tryz.ntmps79]; simp) rfl rfl (by simp [LO.lt, LV.lts, LV.lt]) (by simp) ?_⟩
 intro B hA hmd
 refine .seq ?_
 refine .region rfl ?_
 refine R.assign (h := ?_)
 refine .n0 ?_
 refine .seq ?_
 refine .region rfl ?_
 refine R.move (h := ?_)
 refine R.indexT Tryz.runUnderlying9 (l := hexT) (c := hexD n) (hj := fun _ => ⟨by omega, by rw [Int.toNat_natCast]; have h1 : n < hexT.length := hn; simp [hexD, List.getD, List.getElem?_eq_getElem h1]⟩) (h := ?_)
 refine R.assign (h := ?_)
 refine .n0 ?_
 exact LGo.ret (ret_T Tryz.results79 hA hmd)

theorem escapedR_P (c : UInt8) : PC Tryz.prog 57 [.y c.toNat] (.t (escaped c)) := by
 refine ⟨LC.of_go Tryz.func57 (c := _) rfl (by kernel_rfl) (by rw [Tryz.ntmps57]; simp) rfl rfl (by simp [LO.lt, LV.lts, LV.lt]) (by simp) ?_⟩
 intro B hA hmd
 have hcl := c.toNat_lt
 refine .seq ?_
 refine .region rfl ?_
 refine R.assign (h := ?_)
 refine .n0 ?_
 refine .seq ?_
 refine .block ?_
 refine .seq ?_
 refine .region rfl ?_
 refine R.move (h := ?_)
 refine R.callP (es := [_]) (fun _ => plainR_P c) (h := ?_)
 refine R.assign (h := ?_)
 refine .n0 ?_
 refine LGo.ifb (ht := fun hc => ?_) (hf := fun hc => ?_)
 ·
  have he : escaped c = [c] := by unfold escaped; rw [if_pos hc]
  rw [he]
  refine .seq ?_
  refine .region rfl ?_
  refine R.move (h := ?_)
  refine R.buildSliceF AP33 (bytesC [c]) (xs := [_]) (es := [_]) (hcs := CellsOfs.cons (CellsOf.one rfl) CellsOfs.nil) (h := ?_)
  refine R.toString Tryz.underlying33 Tryz.underlying5 Tryz.underlying9 (h := ?_)
  refine R.assign (h := ?_)
  refine .n0 ?_
  exact LGo.ret (ret_T Tryz.results57 hA hmd)
 ·
  have hp : ¬ plainC c = true := by rw [hc]; simp
  refine .seq ?_
  refine .region rfl ?_
  refine R.move (h := ?_)
  refine R.bin (run_eql _ _ _ _ _ _) (h := ?_)
  refine R.assign (h := ?_)
  refine .n0 ?_
  refine LGo.ifd (ht := fun hc2 => ?_) (hf := fun hc2 => ?_)
  ·
   obtain rfl : c = 34 := UInt8.toNat.inj (show c.toNat = 34 by omega)
   rw [show escaped 34 = [92, 34] from by decide +kernel]
   refine .seq ?_
   refine .region rfl ?_
   refine R.assign (h := ?_)
   refine .n0 ?_
   exact LGo.ret (ret_T Tryz.results57 hA hmd)
  ·
   refine .seq ?_
   refine .region rfl ?_
   refine R.move (h := ?_)
   refine R.bin (run_eql _ _ _ _ _ _) (h := ?_)
   refine R.assign (h := ?_)
   refine .n0 ?_
   refine LGo.ifd (ht := fun hc3 => ?_) (hf := fun hc3 => ?_)
   ·
    obtain rfl : c = 92 := UInt8.toNat.inj (show c.toNat = 92 by omega)
    rw [show escaped 92 = [92, 92] from by decide +kernel]
    refine .seq ?_
    refine .region rfl ?_
    refine R.assign (h := ?_)
    refine .n0 ?_
    exact LGo.ret (ret_T Tryz.results57 hA hmd)
   ·
    refine .seq ?_
    refine .region rfl ?_
    refine R.move (h := ?_)
    refine R.bin (run_eql _ _ _ _ _ _) (h := ?_)
    refine R.assign (h := ?_)
    refine .n0 ?_
    refine LGo.ifd (ht := fun hc4 => ?_) (hf := fun hc4 => ?_)
    ·
     obtain rfl : c = 10 := UInt8.toNat.inj (show c.toNat = 10 by omega)
     rw [show escaped 10 = [92, 110] from by decide +kernel]
     refine .seq ?_
     refine .region rfl ?_
     refine R.assign (h := ?_)
     refine .n0 ?_
     exact LGo.ret (ret_T Tryz.results57 hA hmd)
    ·
     refine .seq ?_
     refine .region rfl ?_
     refine R.move (h := ?_)
     refine R.bin (run_eql _ _ _ _ _ _) (h := ?_)
     refine R.assign (h := ?_)
     refine .n0 ?_
     refine LGo.ifd (ht := fun hc5 => ?_) (hf := fun hc5 => ?_)
     ·
      obtain rfl : c = 13 := UInt8.toNat.inj (show c.toNat = 13 by omega)
      rw [show escaped 13 = [92, 114] from by decide +kernel]
      refine .seq ?_
      refine .region rfl ?_
      refine R.assign (h := ?_)
      refine .n0 ?_
      exact LGo.ret (ret_T Tryz.results57 hA hmd)
     ·
      refine .seq ?_
      refine .region rfl ?_
      refine R.move (h := ?_)
      refine R.bin (run_eql _ _ _ _ _ _) (h := ?_)
      refine R.assign (h := ?_)
      refine .n0 ?_
      refine LGo.ifd (ht := fun hc6 => ?_) (hf := fun hc6 => ?_)
      ·
       obtain rfl : c = 9 := UInt8.toNat.inj (show c.toNat = 9 by omega)
       rw [show escaped 9 = [92, 116] from by decide +kernel]
       refine .seq ?_
       refine .region rfl ?_
       refine R.assign (h := ?_)
       refine .n0 ?_
       exact LGo.ret (ret_T Tryz.results57 hA hmd)
      ·
       have hesc : escL c = 0 := by unfold escL; rw [if_neg (by omega), if_neg (by omega), if_neg (by omega), if_neg (by omega), if_neg (by omega)]
       have he : escaped c = [92, 120, hexD (c.toNat / 16), hexD (c.toNat % 16)] := by unfold escaped; rw [if_neg hp, if_neg (by rw [hesc]; simp)]
       rw [he]
       refine .skip ?_
       refine .inBlock ?_
       refine .seq ?_
       refine .region rfl ?_
       refine R.move (h := ?_)
       refine R.quo (h := ?_)
       refine R.callP (es := [_]) (fun _ => hexR_P (c.toNat / 16) (by omega)) (h := ?_)
       refine R.move (h := ?_)
       refine R.rem (h := ?_)
       refine R.callP (es := [_]) (fun _ => hexR_P (c.toNat % 16) (by omega)) (h := ?_)
       refine R.buildSliceF AP33 (bytesC [hexD (c.toNat / 16), hexD (c.toNat % 16)]) (xs := [_, _]) (es := [_, _]) (hcs := CellsOfs.cons (CellsOf.one rfl) (CellsOfs.cons (CellsOf.one rfl) CellsOfs.nil)) (h := ?_)
       refine R.toString Tryz.underlying33 Tryz.underlying5 Tryz.underlying9 (h := ?_)
       refine R.bin (run_addT _ _ _ [92, 120] [hexD (c.toNat / 16), hexD (c.toNat % 16)] (by simp)) (h := ?_)
       refine R.assign (h := ?_)
       refine .n0 ?_
       exact LGo.ret (ret_T Tryz.results57 hA hmd)

theorem bareR_P (s : List UInt8) (hs : s.length ≤ 100000) : PC Tryz.prog 61 [.t s] (.b (bareC s)) := by
 refine ⟨LC.of_go Tryz.func61 (c := _) rfl (by kernel_rfl) (by rw [Tryz.ntmps61]; simp) rfl rfl (by simp [LO.lt, LV.lts, LV.lt]) (by simp) ?_⟩
 intro B hA hmd
 refine .seq ?_
 refine .region rfl ?_
 refine R.assign (h := ?_)
 refine .n0 ?_
 refine .seq ?_
 refine .seq ?_
 refine .region rfl ?_
 refine R.assign (h := ?_)
 refine .n0 ?_
 refine .block ?_
 refine .loop ?_
 refine LGo.loopG (σ := Nat) (fun x => x ≤ s.length ∧ bareC s = ((s.drop x).all (fun c => plainC c && !decide (c.toNat = 32)) && !decide (s = []))) (fun x => [(3, (true, .i (x : Nat)))]) (fun x => []) (fun x => s.length - x) (0) [(0, _)] ⟨Nat.zero_le _, rfl⟩ (by repeat (first | exact trivial | refine ⟨rfl, ?_⟩)) (by repeat (first | exact trivial | refine ⟨rfl, ?_⟩)) (by repeat (first | exact trivial | refine ⟨rfl, ?_⟩)) ?_
 rintro k ⟨hk, hq⟩ ih
 refine .seq ?_
 refine .seq ?_
 refine .region rfl ?_
 refine R.move (h := ?_)
 refine R.move (h := ?_)
 refine R.lenT Tryz.runUnderlying9 (h := ?_)
 refine R.bin (run_lss _ _ _ _ _ _) (h := ?_)
 refine .n0 ?_
 refine LGo.ifd (ht := fun hc => ?_) (hf := fun hc => ?_)
 ·
  have hlt : k < s.length := by omega
  have hx : s[((k : Nat) : Int).toNat]? = some s[k] := by rw [Int.toNat_natCast]; exact List.getElem?_eq_getElem hlt
  have hd : s.drop k = s[k] :: s.drop (k + 1) := List.drop_eq_getElem_cons hlt
  rw [hd, List.all_cons] at hq
  generalize s[k] = c at hx hq
  clear hd
  refine .skip ?_
  refine .seq ?_
  refine .block ?_
  refine .seq ?_
  refine .region rfl ?_
  refine R.move (h := ?_)
  refine R.move (h := ?_)
  refine R.indexT Tryz.runUnderlying9 (hj := fun hg => ⟨by omega, hx⟩) (h := ?_)
  refine R.callP (es := [_]) (fun _ => plainR_P c) (h := ?_)
  refine R.not (h := ?_)
  refine R.move (h := ?_)
  refine R.move (h := ?_)
  refine R.move (h := ?_)
  refine R.indexT Tryz.runUnderlying9 (hj := fun hg => ⟨by (simp at hg; omega), hx⟩) (h := ?_)
  refine R.bin (run_eql _ _ _ _ _ _) (h := ?_)
  refine R.or (h := ?_)
  refine .n0 ?_
  refine LGo.ifb (ht := fun hc2 => ?_) (hf := fun hc2 => ?_)
  ·
   rw [show bareC s = false from by rw [hq]; cases hp : plainC c <;> simp [hp] at hc2 ⊢; omega]
   refine .seq ?_
   refine .region rfl ?_
   refine R.assign (h := ?_)
   refine .n0 ?_
   exact LGo.ret (ret_T Tryz.results61 hA hmd)
  ·
   have he : (plainC c && !decide (c.toNat = 32)) = true := by cases hp : plainC c <;> simp [hp] at hc2 ⊢; omega
   rw [he, Bool.true_and] at hq
   refine .skip ?_
   refine .inBlock ?_
   refine .region rfl ?_
   refine R.move (h := ?_)
   first | refine R.add (h := ?_) | refine R.addW (h := ?_)
   refine R.assign (h := ?_)
   refine .n0 ?_
   refine .inLoop ?_
   exact LGo.next _ (fun o h => by have := (hA o).1 h; omega) (by omega) (ih (k + 1) ⟨by omega, hq⟩ (by omega)) (by repeat (first | exact trivial | refine ⟨rfl, ?_⟩)) (by repeat (first | exact trivial | refine ⟨rfl, ?_⟩))
 ·
  rw [List.drop_eq_nil_of_le (by omega)] at hq
  rw [hq]
  refine .exit rfl ?_
  refine .seq ?_
  refine .region rfl ?_
  refine R.move (h := ?_)
  refine R.lenT Tryz.runUnderlying9 (h := ?_)
  refine R.bin (run_gtr _ _ _ _ _ _) (h := ?_)
  rw [show decide ((s.length : Int) > 0) = !decide (s = []) from by cases s with | nil => rfl | cons a r => exact (decide_eq_true (by rw [List.length_cons]; omega)).trans rfl]
  refine R.assign (h := ?_)
  refine .n0 ?_
  exact LGo.ret (ret_T Tryz.results61 hA hmd)

end Go.Proofs.YtcobkjognpjikaaGreatDoor
