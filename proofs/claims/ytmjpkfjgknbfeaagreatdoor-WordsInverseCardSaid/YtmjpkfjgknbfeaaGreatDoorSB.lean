/- words: the last byte that is no nine. -/
import Derived.Test.YtmjpkfjgknbfeaaGreatDoorSA
set_option linter.unusedSimpArgs false
set_option linter.unusedVariables false
namespace Go.Proofs.YtmjpkfjgknbfeaaGreatDoor

def lastNK (s : List UInt8) : Nat → Int
  | 0 => -1
  | k + 1 => if (s.getD k 0) = 57 then lastNK s k else (k : Int)

theorem lastRune_P (q : List UInt8) (c : UInt8) (hq : q.length ≤ 100000) (hc8 : c.toNat < 128) : PC Tryz.prog 90 [.t (q ++ [c])] (.tup [.v (.int .i32 c.toNat), .i 1]) := by
 refine ⟨LC.of_go Tryz.func90 (c := _) rfl (by kernel_rfl) (by rw [Tryz.ntmps90]; simp) rfl rfl (by simp [LO.lt, LV.lts, LV.lt]) (by simp) ?_⟩
 intro B hA hmd
 refine .seq ?_
 refine .region rfl ?_
 refine R.assign (h := ?_)
 refine R.assign (h := ?_)
 refine .n0 ?_
 refine .seq ?_
 refine .region rfl ?_
 refine R.move (h := ?_)
 refine R.lenT Tryz.runUnderlying9 (h := ?_)
 rw [show (((q ++ [c]).length : Nat) : Int) = (q.length : Int) + 1 from by simp]
 refine R.assign (h := ?_)
 refine .n0 ?_
 refine .seq ?_
 refine .seq ?_
 refine .region rfl ?_
 refine R.move (h := ?_)
 refine R.bin (run_eql _ _ _ _ _ _) (h := ?_)
 refine .n0 ?_
 refine LGo.ifb (ht := fun hc => by simp at hc; omega) (hf := fun hc => ?_)
 refine .skip ?_
 refine .seq ?_
 refine .region rfl ?_
 refine R.move (h := ?_)
 first | refine R.sub (h := ?_) | refine R.subW (h := ?_)
 refine R.assign (h := ?_)
 refine .n0 ?_
 refine .seq ?_
 refine .region rfl ?_
 refine R.move (h := ?_)
 refine R.move (h := ?_)
 refine R.indexT Tryz.runUnderlying9 (c := c) (hj := fun hg => ⟨by omega, by rw [show Int.toNat ((q.length : Int) + 1 - 1) = q.length from by omega]; simp⟩) (h := ?_)
 first | refine R.convI Tryz.runUnderlying5 Tryz.runUnderlying21 (h := ?_) | refine R.convW Tryz.runUnderlying5 Tryz.runUnderlying21 (h := ?_)
 rw [show IntKind.i32.wrap (c.toNat : Int) = (c.toNat : Int) from by rw [IntKind.wrap_i32]; omega]
 refine R.assign (h := ?_)
 refine .n0 ?_
 refine .seq ?_
 refine .seq ?_
 refine .region rfl ?_
 refine R.move (h := ?_)
 refine R.bin (run_lss _ _ _ _ _ _) (h := ?_)
 refine .n0 ?_
 refine LGo.ifb (ht := fun hc2 => ?_) (hf := fun hc2 => by simp at hc2; omega)
 refine .seq ?_
 refine .region rfl ?_
 refine R.move (h := ?_)
 refine R.assign (h := ?_)
 refine R.assign (h := ?_)
 refine .n0 ?_
 exact LGo.ret (ret_TT Tryz.results90 hA hmd)

theorem nine_P (x : Int) : PC Tryz.prog 54 [.v (.int .i32 x)] (.b (!decide (x = 57))) := by
 refine ⟨LC.of_go Tryz.func54 (c := _) rfl (by kernel_rfl) (by rw [Tryz.ntmps54]; simp) rfl rfl (by simp [LO.lt, LV.lts, LV.lt]) (by simp) ?_⟩
 intro B hA hmd
 refine .seq ?_
 refine .region rfl ?_
 refine R.assign (h := ?_)
 refine .n0 ?_
 refine .seq ?_
 refine .region rfl ?_
 refine R.move (h := ?_)
 refine R.bin (run_neq _ _ _ _ _ _) (h := ?_)
 refine R.assign (h := ?_)
 refine .n0 ?_
 exact LGo.ret (ret_T Tryz.results54 hA hmd)

theorem lastIdx_P (s : List UInt8) (hs : s.length ≤ 100000) (h8 : ∀ c ∈ s, c.toNat < 128) : PC Tryz.prog 78 [.t s, .fn (.func 54) [] [], .b true] (.i (lastNK s s.length)) := by
 refine ⟨LC.of_go Tryz.func78 (c := _) rfl (by kernel_rfl) (by rw [Tryz.ntmps78]; simp) rfl rfl (by simp [LO.lt, LV.lts, LV.lt]) (by simp) ?_⟩
 intro B hA hmd
 obtain ⟨g, e0⟩ : ∃ g, lastNK s s.length = g := ⟨_, rfl⟩
 rw [e0]
 refine .seq ?_
 refine .region rfl ?_
 refine R.assign (h := ?_)
 refine .n0 ?_
 refine .seq ?_
 refine .seq ?_
 refine .region rfl ?_
 refine R.move (h := ?_)
 refine R.lenT Tryz.runUnderlying9 (h := ?_)
 refine R.assign (h := ?_)
 refine .n0 ?_
 refine .block ?_
 refine .loop ?_
 refine LGo.loopG (σ := Nat) (fun x => x ≤ s.length ∧ lastNK s x = g) (fun x => [(7, (true, .i (x : Nat)))]) (fun x => []) (fun x => x) (s.length) [(0, _), (1, _), (2, _)] ⟨Nat.le_refl _, e0⟩ (by repeat (first | exact trivial | refine ⟨rfl, ?_⟩)) (by repeat (first | exact trivial | refine ⟨rfl, ?_⟩)) (by repeat (first | exact trivial | refine ⟨rfl, ?_⟩)) ?_
 rintro k ⟨hk, hg⟩ ih
 refine .seq ?_
 refine .seq ?_
 refine .region rfl ?_
 refine R.move (h := ?_)
 refine R.bin (run_gtr _ _ _ _ _ _) (h := ?_)
 refine .n0 ?_
 refine LGo.ifd (ht := fun hc => ?_) (hf := fun hc => ?_)
 ·
  obtain ⟨j, rfl⟩ : ∃ j, k = j + 1 := ⟨k - 1, by omega⟩
  have hj : j < s.length := by omega
  rw [lastNK, List.getD_eq_getElem?_getD, List.getElem?_eq_getElem hj, Option.getD_some] at hg
  have htk := List.take_succ_eq_append_getElem hj
  have hc8 := h8 s[j] (List.getElem_mem hj)
  generalize s[j] = c at hg htk hc8
  refine .skip ?_
  refine .block ?_
  refine .seq ?_
  refine .region rfl ?_
  refine R.move (h := ?_)
  refine R.move (h := ?_)
  refine R.sliceTLoHi Tryz.runUnderlying9 (ha := fun _ => by simp; omega) (h := ?_)
  rw [show Int.toNat ((j + 1 : Nat) : Int) = j + 1 from rfl, show Int.toNat 0 = 0 from rfl, List.drop_zero, htk]
  refine R.callP (es := [_]) (fun _ => lastRune_P (s.take j) c (by rw [List.length_take]; omega) hc8) (h := ?_)
  refine R.move (h := ?_)
  refine R.extract (h := ?_)
  refine R.extract (h := ?_)
  refine R.assign (h := ?_)
  refine R.assign (h := ?_)
  refine .n0 ?_
  refine .seq ?_
  refine .region rfl ?_
  refine R.move (h := ?_)
  refine R.move (h := ?_)
  first | refine R.sub (h := ?_) | refine R.subW (h := ?_)
  rw [show ((j + 1 : Nat) : Int) - 1 = (j : Int) from by omega]
  refine R.assign (h := ?_)
  refine .n0 ?_
  refine .seq ?_
  refine .region rfl ?_
  refine R.move (h := ?_)
  refine R.move (h := ?_)
  refine R.callRd (m := 0) (Hi := []) (es := [_]) (first := []) (cap := []) (avs := [.v (.int .i32 (c.toNat : Int))]) (out := .b (!decide ((c.toNat : Int) = 57))) (nine_P (c.toNat : Int)).lc (hL := fun k x h => by cases h) (h := ?_)
  refine R.move (h := ?_)
  refine R.bin (run_eqlB Tryz.underlying4 _ _ _ _) (h := ?_)
  refine .n0 ?_
  refine LGo.ifb (ht := fun hc2 => ?_) (hf := fun hc2 => ?_)
  ·
   have h9 : ¬ c = 57 := by intro e; subst e; simp at hc2
   rw [if_neg h9] at hg
   rw [← hg]
   refine .seq ?_
   refine .region rfl ?_
   refine R.move (h := ?_)
   refine R.assign (h := ?_)
   refine .n0 ?_
   exact LGo.ret (ret_T Tryz.results78 hA hmd)
  ·
   have h9 : c = 57 := UInt8.toNat.inj (by simp at hc2; show c.toNat = 57; omega)
   rw [if_pos h9] at hg
   refine .skip ?_
   refine .inBlock ?_
   refine .inLoop ?_
   exact LGo.next _ (fun o h => by have := (hA o).1 h; omega) (by omega) (ih j ⟨by omega, hg⟩ (by omega)) (by repeat (first | exact trivial | refine ⟨rfl, ?_⟩)) (by repeat (first | exact trivial | refine ⟨rfl, ?_⟩))
 ·
  obtain rfl : k = 0 := by omega
  rw [lastNK] at hg
  rw [← hg]
  refine .exit rfl ?_
  refine .seq ?_
  refine .region rfl ?_
  refine R.assign (h := ?_)
  refine .n0 ?_
  exact LGo.ret (ret_T Tryz.results78 hA hmd)

end Go.Proofs.YtmjpkfjgknbfeaaGreatDoor
