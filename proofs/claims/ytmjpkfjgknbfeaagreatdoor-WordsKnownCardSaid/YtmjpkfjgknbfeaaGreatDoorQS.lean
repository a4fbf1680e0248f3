/- words: the law's own checks. -/
import Derived.Test.YtmjpkfjgknbfeaaGreatDoorQR
set_option linter.unusedSimpArgs false
set_option linter.unusedVariables false
namespace Go.Proofs.YtmjpkfjgknbfeaaGreatDoor

section
open Go.RowKit
def shF : List Fd := [⟨[103, 101, 116], false⟩, ⟨[47], false⟩, ⟨[97, 32, 98], true⟩]
theorem dgs (n : Nat) (h : n < 10) : Lib.decDigits n = [UInt8.ofNat (48 + n)] := by rw [Lib.decDigits, dif_pos h]
theorem itd (n : Nat) (h : n < 10) : Lib.itoa (n : Int) = [UInt8.ofNat (48 + n)] := by unfold Lib.itoa; rw [if_neg (by omega), Int.toNat_natCast, dgs n h]
theorem splitS : PC Tryz.prog 14 [.t [103, 101, 116, 32, 47, 32, 34, 97, 32, 98, 34]] (.tup [.sv (.sl 2 (shF.map Fd.c)), .i 0]) := by
  have h := split_P [103, 101, 116, 32, 47, 32, 34, 97, 32, 98, 34]
  rw [show split1 [103, 101, 116, 32, 47, 32, 34, 97, 32, 98, 34] = (shF, 0) from by kernel_rfl] at h
  exact h
theorem intS : PC Tryz.prog 12 [.t [45, 49, 50], .i (-20), .i 20] (.tup [.i (-12), .i 0]) := by
  have h := int_P [45, 49, 50] (-20) 20 (by decide)
  rw [show intW [45, 49, 50] (-20) 20 = (-12, 0) from by kernel_rfl] at h
  exact h
theorem listS : PC Tryz.prog 7 [.sv (.sl 1 (ic .i64 [1, 2, 3, 5, 8, 9]))] (.tup [.t [49, 45, 51, 44, 53, 44, 56, 45, 57], .i 0]) := by
  have h := list_P [1, 2, 3, 5, 8, 9] (by decide) (by decide)
  have e : listW [1, 2, 3, 5, 8, 9] = ([49, 45, 51, 44, 53, 44, 56, 45, 57], 0) := by
    unfold listW
    rw [if_neg (by decide), if_neg (by decide +kernel), if_neg (by decide +kernel), if_neg (by decide)]
    have h1 := itd 1 (by decide)
    have h3 := itd 3 (by decide)
    have h5 := itd 5 (by decide)
    have h8 := itd 8 (by decide)
    have h9 := itd 9 (by decide)
    simp [listGo, runLen, sepL, runTxt] at h1 h3 h5 h8 h9 ⊢
    simp [h1, h3, h5, h8, h9]
  rw [e] at h
  exact h
theorem unqS : PC Tryz.prog 13 [.t [34, 97, 92, 110, 92, 120, 48, 48, 92, 34, 34]] (.tup [.t [97, 10, 0, 34], .i 0]) := by
  have h := unquoteW_P [34, 97, 92, 110, 92, 120, 48, 48, 92, 34, 34] (by decide)
  rw [show unqW [34, 97, 92, 110, 92, 120, 48, 48, 92, 34, 34] = ([97, 10, 0, 34], 0) from by kernel_rfl] at h
  exact h
theorem nameS : PC Tryz.prog 15 [.t [119, 101, 98, 45, 49]] (.b true) := by
  have h := name_P [119, 101, 98, 45, 49] (by decide)
  rw [show nameC [119, 101, 98, 45, 49] = true from by kernel_rfl] at h
  exact h
end
theorem shown_P : PC Tryz.prog 6 [] (.b true) := by
 refine ⟨LC.of_go Tryz.func6 (c := _) rfl (by kernel_rfl) (by rw [Tryz.ntmps6]; simp) rfl rfl (by simp [LO.lt, LV.lts, LV.lt]) (by simp) ?_⟩
 intro B hA hmd
 refine .seq ?_
 refine .region rfl ?_
 refine R.assign (h := ?_)
 refine .n0 ?_
 refine .seq ?_
 refine .region rfl ?_
 refine R.callP (es := [_]) (fun _ => splitS) (h := ?_)
 refine R.move (h := ?_)
 refine R.extract (h := ?_)
 refine R.extract (h := ?_)
 refine R.assign (h := ?_)
 refine R.assign (h := ?_)
 refine .n0 ?_
 refine .seq ?_
 refine .region rfl ?_
 refine R.callP (es := [_, _, _]) (fun _ => intS) (h := ?_)
 refine R.move (h := ?_)
 refine R.extract (h := ?_)
 refine R.extract (h := ?_)
 refine R.assign (h := ?_)
 refine R.assign (h := ?_)
 refine .n0 ?_
 refine .seq ?_
 refine .region rfl ?_
 refine R.buildSliceF AP22 (ic .i64 [1, 2, 3, 5, 8, 9]) (xs := [_, _, _, _, _, _]) (es := [_, _, _, _, _, _]) (hcs := CellsOfs.cons (CellsOf.one rfl) (CellsOfs.cons (CellsOf.one rfl) (CellsOfs.cons (CellsOf.one rfl) (CellsOfs.cons (CellsOf.one rfl) (CellsOfs.cons (CellsOf.one rfl) (CellsOfs.cons (CellsOf.one rfl) (CellsOfs.nil))))))) (h := ?_)
 refine R.callP (es := [_]) (fun _ => listS) (h := ?_)
 refine R.move (h := ?_)
 refine R.extract (h := ?_)
 refine R.extract (h := ?_)
 refine R.assign (h := ?_)
 refine R.assign (h := ?_)
 refine .n0 ?_
 refine .seq ?_
 refine .region rfl ?_
 refine R.callP (es := [_]) (fun _ => unqS) (h := ?_)
 refine R.move (h := ?_)
 refine R.extract (h := ?_)
 refine R.extract (h := ?_)
 refine R.assign (h := ?_)
 refine R.assign (h := ?_)
 refine .n0 ?_
 refine .seq ?_
 refine .region rfl ?_
 refine R.move (h := ?_)
 refine R.build BF47 (is := [0]) (xs := [_]) (es := [_]) (h := ?_)
 refine R.build BF47 (is := [0]) (xs := [_]) (es := [_]) (h := ?_)
 refine R.build BF47 (is := [0, 1]) (xs := [_, _]) (es := [_, _]) (h := ?_)
 refine R.buildSliceF AP34 (shF.map Fd.c) (xs := [_, _, _]) (es := [_, _, _]) (hcs := CellsOfs.cons (CellsOf.agg rfl) (CellsOfs.cons (CellsOf.agg rfl) (CellsOfs.cons (CellsOf.agg rfl) (CellsOfs.nil)))) (h := ?_)
 refine R.callP (es := [_, _]) (fun _ => sameF_P shF (by decide)) (h := ?_)
 refine R.move (h := ?_)
 refine R.move (h := ?_)
 refine R.bin (run_eql _ _ _ _ _ _) (h := ?_)
 refine R.and (h := ?_)
 refine R.move (h := ?_)
 refine R.move (h := ?_)
 refine R.bin (run_eqlT _ _ _ _ _) (h := ?_)
 refine R.and (h := ?_)
 refine R.move (h := ?_)
 refine R.move (h := ?_)
 refine R.bin (run_eqlT _ _ _ _ _) (h := ?_)
 refine R.and (h := ?_)
 refine R.move (h := ?_)
 refine R.callP (es := [_]) (fun _ => nameS) (h := ?_)
 refine R.and (h := ?_)
 refine R.move (h := ?_)
 refine R.move (h := ?_)
 refine R.bin (run_eql _ _ _ _ _ _) (h := ?_)
 refine R.and (h := ?_)
 refine R.move (h := ?_)
 refine R.move (h := ?_)
 refine R.bin (run_eql _ _ _ _ _ _) (h := ?_)
 refine R.and (h := ?_)
 refine R.move (h := ?_)
 refine R.move (h := ?_)
 refine R.bin (run_eql _ _ _ _ _ _) (h := ?_)
 refine R.and (h := ?_)
 refine R.move (h := ?_)
 refine R.move (h := ?_)
 refine R.bin (run_eql _ _ _ _ _ _) (h := ?_)
 refine R.and (h := ?_)
 refine R.assign (h := ?_)
 refine .n0 ?_
 exact LGo.ret (ret_T Tryz.results6 hA hmd)

def sumF (l : List Fd) : Nat := (l.map fun f => f.s.length).sum
def wideA (l : List Fd) : Bool := l.any fun f => decide (2100 < f.s.length)
def farF (l : List Fd) : Bool := if 70 < (l.length : Int) then true else if wideA l = true then true else decide (12000 < (sumF l : Int))
end Go.Proofs.YtmjpkfjgknbfeaaGreatDoor
