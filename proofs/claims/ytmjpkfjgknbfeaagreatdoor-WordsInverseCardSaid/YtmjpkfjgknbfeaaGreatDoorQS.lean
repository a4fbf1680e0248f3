/- words: the law's own checks. -/
import Derived.Test.YtmjpkfjgknbfeaaGreatDoorQR
set_option linter.unusedSimpArgs false
set_option linter.unusedVariables false
namespace Go.Proofs.YtmjpkfjgknbfeaaGreatDoor

section
open Go.RowKit
def shF : List Fd := [⟨[103, 101, 116], false⟩, ⟨[47], false⟩, ⟨[97, 32, 98], true⟩]
theorem dgs (n : Nat) (h : n < 10) : Lib.decDigits n = [UInt8.ofNat (48 + n)] := by rw [Lib.decDigits, dif_pos h]
theorem itd (n : Nat) (h : n < 10) : Lib.itoa (n : Int) = [UInt8.ofNat (48 + n)] := by unfold Lib.itoa; rw [if_neg (by omega), Int.toNat_natCast, dgs n h]
theorem splitS : PC Tryz.prog 14 [.t [103, 101, 116, 32, 47, 32, 34, 97, 32, 98, 34]] (.tup [.sv (.sl 2 (shF.map Fd.c)), .i 0]) := by
  have h := split_P [103, 101, 116, 32, 47, 32, 34, 97, 32, 98, 34]
  rw [show split1 [103, 101, 116, 32, 47, 32, 34, 97, 32, 98, 34] = (shF, 0) from by kernel_rfl] at h
  exact h
theorem intS : PC Tryz.prog 12 [.t [45, 49, 50], .i (-20), .i 20] (.tup [.i (-12), .i 0]) := by
  have h := int_P [45, 49, 50] (-20) 20 (by decide)
  rw [show intW [45, 49, 50] (-20) 20 = (-12, 0) from by kernel_rfl] at h
  exact h
theorem listS : PC Tryz.prog 7 [.sv (.sl 1 (ic .i64 [1, 2, 3, 5, 8, 9]))] (.tup [.t [49, 45, 51, 44, 53, 44, 56, 45, 57], .i 0]) := by
  have h := list_P [1, 2, 3, 5, 8, 9] (by decide) (by decide)
  have e : listW [1, 2, 3, 5, 8, 9] = ([49, 45, 51, 44, 53, 44, 56, 45, 57], 0) := by
    unfold listW
    rw [if_neg (by decide), if_neg (by decide +kernel), if_neg (by decide +kernel), if_neg (by decide)]
    have h1 := itd 1 (by decide)
    have h3 := itd 3 (by decide)
    have h5 := itd 5 (by decide)
    have h8 := itd 8 (by decide)
    have h9 := itd 9 (by decide)
    simp [listGo, runLen, sepL, runTxt] at h1 h3 h5 h8 h9 ⊢
    simp [h1, h3, h5, h8, h9]
  rw [e] at h
  exact h
theorem unqS : PC Tryz.prog 13 [.t [34, 97, 92, 110, 92, 120, 48, 48, 92, 34, 34]] (.tup [.t [97, 10, 0, 34], .i 0]) := by
  have h := unquoteW_P [34, 97, 92, 110, 92, 120, 48, 48, 92, 34, 34] (by decide)
  rw [show unqW [34, 97, 92, 110, 92, 120, 48, 48, 92, 34, 34] = ([97, 10, 0, 34], 0) from by kernel_rfl] at h
  exact h
theorem nameS : PC Tryz.prog 15 [.t [119, 101, 98, 45, 49]] (.b true) := by
  have h := name_P [119, 101, 98, 45, 49] (by decide)
  rw [show nameC [119, 101, 98, 45, 49] = true from by kernel_rfl] at h
  exact h
end
theorem digitsW_P (n : Int) (h0 : -9223372036854775808 ≤ n) (h1 : n ≤ 9223372036854775807) : PC Tryz.prog 20 [.i n] (.t (Lib.itoa n)) := by
 refine ⟨LC.of_go Tryz.func20 (c := _) rfl (by kernel_rfl) (by rw [Tryz.ntmps20]; simp) rfl rfl (by simp [LO.lt, LV.lts, LV.lt]) (by simp) ?_⟩
 intro B hA hmd
 refine .seq ?_
 refine .region rfl ?_
 refine R.assign (h := ?_)
 refine .n0 ?_
 refine .seq ?_
 refine .region rfl ?_
 refine R.move (h := ?_)
 refine R.callP (es := [_, _]) (fun _ => formatInt_P n h0 h1) (h := ?_)
 refine R.assign (h := ?_)
 refine .n0 ?_
 exact LGo.ret (ret_T Tryz.results20 hA hmd)

theorem shown_P : PC Tryz.prog 6 [] (.b true) := by
 refine ⟨LC.of_go Tryz.func6 (c := _) rfl (by kernel_rfl) (by rw [Tryz.ntmps6]; simp) rfl rfl (by simp [LO.lt, LV.lts, LV.lt]) (by simp) ?_⟩
 intro B hA hmd
 refine .seq ?_
 refine .region rfl ?_
 refine R.assign (h := ?_)
 refine .n0 ?_
 refine .seq ?_
 refine .region rfl ?_
 refine R.callP (es := [_]) (fun _ => splitS) (h := ?_)
 refine R.move (h := ?_)
 refine R.extract (h := ?_)
 refine R.extract (h := ?_)
 refine R.assign (h := ?_)
 refine R.assign (h := ?_)
 refine .n0 ?_
 refine .seq ?_
 refine .region rfl ?_
 refine R.callP (es := [_, _, _]) (fun _ => intS) (h := ?_)
 refine R.move (h := ?_)
 refine R.extract (h := ?_)
 refine R.extract (h := ?_)
 refine R.assign (h := ?_)
 refine R.assign (h := ?_)
 refine .n0 ?_
 refine .seq ?_
 refine .region rfl ?_
 refine R.buildSliceF AP22 (ic .i64 [1, 2, 3, 5, 8, 9]) (xs := [_, _, _, _, _, _]) (es := [_, _, _, _, _, _]) (hcs := CellsOfs.cons (CellsOf.one rfl) (CellsOfs.cons (CellsOf.one rfl) (CellsOfs.cons (CellsOf.one rfl) (CellsOfs.cons (CellsOf.one rfl) (CellsOfs.cons (CellsOf.one rfl) (CellsOfs.cons (CellsOf.one rfl) (CellsOfs.nil))))))) (h := ?_)
 refine R.callP (es := [_]) (fun _ => listS) (h := ?_)
 refine R.move (h := ?_)
 refine R.extract (h := ?_)
 refine R.extract (h := ?_)
 refine R.assign (h := ?_)
 refine R.assign (h := ?_)
 refine .n0 ?_
 refine .seq ?_
 refine .region rfl ?_
 refine R.callP (es := [_]) (fun _ => unqS) (h := ?_)
 refine R.move (h := ?_)
 refine R.extract (h := ?_)
 refine R.extract (h := ?_)
 refine R.assign (h := ?_)
 refine R.assign (h := ?_)
 refine .n0 ?_
 refine .seq ?_
 refine .region rfl ?_
 refine R.move (h := ?_)
 refine R.build BF47 (is := [0]) (xs := [_]) (es := [_]) (h := ?_)
 refine R.build BF47 (is := [0]) (xs := [_]) (es := [_]) (h := ?_)
 refine R.build BF47 (is := [0, 1]) (xs := [_, _]) (es := [_, _]) (h := ?_)
 refine R.buildSliceF AP34 (shF.map Fd.c) (xs := [_, _, _]) (es := [_, _, _]) (hcs := CellsOfs.cons (CellsOf.agg rfl) (CellsOfs.cons (CellsOf.agg rfl) (CellsOfs.cons (CellsOf.agg rfl) (CellsOfs.nil)))) (h := ?_)
 refine R.callP (es := [_, _]) (fun _ => sameF_P shF (by decide)) (h := ?_)
 refine R.move (h := ?_)
 refine R.move (h := ?_)
 refine R.bin (run_eql _ _ _ _ _ _) (h := ?_)
 refine R.and (h := ?_)
 refine R.move (h := ?_)
 refine R.move (h := ?_)
 refine R.bin (run_eqlT _ _ _ _ _) (h := ?_)
 refine R.and (h := ?_)
 refine R.move (h := ?_)
 refine R.move (h := ?_)
 refine R.bin (run_eqlT _ _ _ _ _) (h := ?_)
 refine R.and (h := ?_)
 refine R.move (h := ?_)
 refine R.callP (es := [_]) (fun _ => nameS) (h := ?_)
 refine R.and (h := ?_)
 refine R.move (h := ?_)
 refine R.move (h := ?_)
 refine R.bin (run_eql _ _ _ _ _ _) (h := ?_)
 refine R.and (h := ?_)
 refine R.move (h := ?_)
 refine R.move (h := ?_)
 refine R.bin (run_eql _ _ _ _ _ _) (h := ?_)
 refine R.and (h := ?_)
 refine R.move (h := ?_)
 refine R.move (h := ?_)
 refine R.bin (run_eql _ _ _ _ _ _) (h := ?_)
 refine R.and (h := ?_)
 refine R.move (h := ?_)
 refine R.move (h := ?_)
 refine R.bin (run_eql _ _ _ _ _ _) (h := ?_)
 refine R.and (h := ?_)
 refine R.assign (h := ?_)
 refine .n0 ?_
 exact LGo.ret (ret_T Tryz.results6 hA hmd)

def sumF (l : List Fd) : Nat := (l.map fun f => f.s.length).sum
def wideA (l : List Fd) : Bool := l.any fun f => decide (2100 < f.s.length)
def farF (l : List Fd) : Bool := if 70 < (l.length : Int) then true else if wideA l = true then true else decide (12000 < (sumF l : Int))
theorem sumF_take {l : List Fd} {k : Nat} (h : k < l.length) : sumF (l.take (k + 1)) = sumF (l.take k) + l[k].s.length := by
  unfold sumF; rw [List.take_succ_eq_append_getElem h, List.map_append, List.sum_append]; simp
theorem wide_no {l : List Fd} (h : wideA l = false) : ∀ f ∈ l, f.s.length ≤ 2100 := by
  intro f hf
  unfold wideA at h
  rw [List.any_eq_false] at h
  have := h f hf
  simpa using this
theorem sumF_le : ∀ (l : List Fd), (∀ f ∈ l, f.s.length ≤ 2100) → sumF l ≤ 2100 * l.length
  | [], _ => by simp [sumF]
  | f :: l, h => by
    have h1 := sumF_le l (fun x hx => h x (by simp [hx]))
    have h2 := h f (by simp)
    unfold sumF at h1 ⊢
    simp only [List.map_cons, List.sum_cons, List.length_cons]
    omega
theorem far_P (l : List Fd) (hl : l.length ≤ maxLen) : PC Tryz.prog 16 [.sv (.sl 2 (l.map Fd.c))] (.b (farF l)) := by
 refine ⟨LC.of_go Tryz.func16 (c := _) rfl (by kernel_rfl) (by rw [Tryz.ntmps16]; simp) rfl rfl (by simp [LO.lt, LV.lts, LV.lt]) (by simp) ?_⟩
 intro B hA hmd
 obtain ⟨g, e0⟩ : ∃ g, farF l = g := ⟨_, rfl⟩
 have e1 := e0
 unfold farF at e1
 rw [e0]
 refine .seq ?_
 refine .region rfl ?_
 refine R.assign (h := ?_)
 refine .n0 ?_
 refine .seq ?_
 refine .seq ?_
 refine .region rfl ?_
 refine R.move (h := ?_)
 first | refine R.len S34 (h := ?_) | refine R.lenRs S34 (h := ?_) | refine R.lenV (run_lenNil S34) (h := ?_)
 rw [List.length_map]
 refine R.bin (run_gtr _ _ _ _ _ _) (h := ?_)
 refine .n0 ?_
 refine LGo.ifd (ht := fun hc => ?_) (hf := fun hc => ?_)
 ·
  rw [if_pos hc] at e1; rw [← e1]
  refine .seq ?_
  refine .region rfl ?_
  refine R.assign (h := ?_)
  refine .n0 ?_
  exact LGo.ret (ret_T Tryz.results16 hA hmd)
 ·
  rw [if_neg hc] at e1
  refine .skip ?_
  refine .seq ?_
  refine .region rfl ?_
  refine R.assign (h := ?_)
  refine .n0 ?_
  refine .seq ?_
  refine .seq ?_
  refine .region rfl ?_
  refine R.assign (h := ?_)
  refine .n0 ?_
  refine .block ?_
  refine .loop ?_
  refine LGo.loopG (σ := Nat) (fun x => x ≤ l.length ∧ wideA (l.take x) = false) (fun x => [(4, (true, .i (x : Nat))), (3, (true, .i (sumF (l.take x) : Nat)))]) (fun x => []) (fun x => l.length - x) (0) [(0, _)] ⟨Nat.zero_le _, rfl⟩ (by repeat (first | exact trivial | refine ⟨rfl, ?_⟩)) (by repeat (first | exact trivial | refine ⟨rfl, ?_⟩)) (by repeat (first | exact trivial | refine ⟨rfl, ?_⟩)) ?_
  rintro k ⟨hk, hlk⟩ ih
  refine .seq ?_
  refine .seq ?_
  refine .region rfl ?_
  refine R.move (h := ?_)
  refine R.move (h := ?_)
  first | refine R.len S34 (h := ?_) | refine R.lenRs S34 (h := ?_) | refine R.lenV (run_lenNil S34) (h := ?_)
  rw [List.length_map]
  refine R.bin (run_lss _ _ _ _ _ _) (h := ?_)
  refine .n0 ?_
  refine LGo.ifd (ht := fun hc2 => ?_) (hf := fun hc2 => ?_)
  ·
   have hlt : k < l.length := by omega
   have hx : (l.map Fd.c)[((k : Nat) : Int).toNat]? = some l[k].c := by simp [hlt]
   have hla := any_take (p := fun f => decide (2100 < f.s.length)) hlt
   have hsu := sumF_take hlt
   have hmem : l[k] ∈ l := List.getElem_mem hlt
   have hsl := sumF_le (l.take k) (wide_no hlk)
   rw [List.length_take] at hsl
   generalize l[k] = f at hx hla hmem hsu
   refine .skip ?_
   refine .seq ?_
   refine .block ?_
   refine .seq ?_
   refine .seq ?_
   refine .region rfl ?_
   refine R.move (h := ?_)
   refine R.move (h := ?_)
   refine R.index I34 (hj := fun hg => ⟨by omega, hx⟩) (h := ?_)
   first | refine R.field F47_0 (h := ?_) | refine R.fieldAt F47_0 (h := ?_)
   first | refine R.loadB O9 (h := ?_) | refine R.load1 O9 (h := ?_)
   refine R.lenT Tryz.runUnderlying9 (h := ?_)
   refine R.bin (run_gtr _ _ _ _ _ _) (h := ?_)
   refine .n0 ?_
   refine LGo.ifd (ht := fun hc3 => ?_) (hf := fun hc3 => ?_)
   ·
    rw [if_pos (show wideA l = true from by unfold wideA; rw [List.any_eq_true]; exact ⟨f, hmem, decide_eq_true (by omega)⟩)] at e1; rw [← e1]
    refine .seq ?_
    refine .region rfl ?_
    refine R.assign (h := ?_)
    refine .n0 ?_
    exact LGo.ret (ret_T Tryz.results16 hA hmd)
   ·
    have hls : decide (2100 < f.s.length) = false := by simp; omega
    rw [show (l.take (k + 1)).any (fun f => decide (2100 < f.s.length)) = wideA (l.take (k + 1)) from rfl, show (l.take k).any (fun f => decide (2100 < f.s.length)) = wideA (l.take k) from rfl, hls, hlk] at hla
    refine .skip ?_
    refine .region rfl ?_
    refine R.move (h := ?_)
    refine R.move (h := ?_)
    refine R.move (h := ?_)
    refine R.index I34 (hj := fun hg => ⟨by omega, hx⟩) (h := ?_)
    first | refine R.field F47_0 (h := ?_) | refine R.fieldAt F47_0 (h := ?_)
    first | refine R.loadB O9 (h := ?_) | refine R.load1 O9 (h := ?_)
    refine R.lenT Tryz.runUnderlying9 (h := ?_)
    first | refine R.add (h := ?_) | refine R.addW (h := ?_)
    rw [show ((sumF (l.take k) : Nat) : Int) + (f.s.length : Int) = ((sumF (l.take (k + 1)) : Nat) : Int) from by rw [hsu]; omega]
    refine R.assign (h := ?_)
    refine .n0 ?_
    refine .inBlock ?_
    refine .region rfl ?_
    refine R.move (h := ?_)
    first | refine R.add (h := ?_) | refine R.addW (h := ?_)
    refine R.assign (h := ?_)
    refine .n0 ?_
    refine .inLoop ?_
    exact LGo.next _ (fun o h => by have := (hA o).1 h; omega) (by omega) (ih (k + 1) ⟨hlt, hla⟩ (by omega)) (by repeat (first | exact trivial | refine ⟨rfl, ?_⟩)) (by repeat (first | exact trivial | refine ⟨rfl, ?_⟩))
  ·
   obtain rfl : k = l.length := by omega
   rw [List.take_length] at hlk
   rw [List.take_length]
   rw [if_neg (by rw [hlk]; simp)] at e1
   rw [← e1]
   refine .exit rfl ?_
   refine .seq ?_
   refine .region rfl ?_
   refine R.move (h := ?_)
   refine R.bin (run_gtr _ _ _ _ _ _) (h := ?_)
   refine R.assign (h := ?_)
   refine .n0 ?_
   exact LGo.ret (ret_T Tryz.results16 hA hmd)

end Go.Proofs.YtmjpkfjgknbfeaaGreatDoor
