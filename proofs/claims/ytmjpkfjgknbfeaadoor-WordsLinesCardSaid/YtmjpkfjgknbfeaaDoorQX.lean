/- words: the law WordsLines. -/
import Derived.Test.YtmjpkfjgknbfeaaDoorQW
set_option linter.unusedSimpArgs false
set_option linter.unusedVariables false
namespace Go.Proofs.YtmjpkfjgknbfeaaDoor

theorem zer_bytes (n : Nat) : ic .u8 (List.replicate n 0) = bytesC (List.replicate n 0) := by simp [ic, bytesC]
section
open Go.ChangeShapes Go.WideShapes Go.Deep Go.RowKit Go.ChangeAt
theorem Rd.argBool {H : Type} {enc : TypeId × Value → H} {P : Program} {w : World} {t : TypeId} {base : Nat} (ht : P.underlying t = some .bool) {v : Value} {d : DataW H} {p : List MemPlace}
    (hok : Value.okWide P w .any base t v) (hv : DataW.Trod enc P w 0 (fun _ => true) true t v d p) : ∃ b : Bool, V (cx0 w) w (.b b) v := by
  obtain ⟨m, rfl⟩ := okWide_bool ht hok
  obtain ⟨s, ⟨b, rfl⟩, h2⟩ := (Rd.bool (enc := enc) (w := w) ht).arg1 hv rfl
  have : m = b := by simpa [VS, eq_comm] using h2
  subst this
  exact ⟨m, by simp [V, VS]⟩
end
theorem bytesC_setU (c : List UInt8) (k : Nat) (v : UInt8) : (bytesC c).set k [SV.val (.int .u8 (v.toNat : Int))] = bytesC (c.set k v) := by unfold bytesC; rw [List.map_set]

theorem lawLines_P (s tl : List UInt8) (lg : Bool) : PC Tryd.prog 8 [.t s, .t tl, .b lg] (.b true) := by
 refine ⟨LC.of_go Tryd.func8 (c := _) rfl (by kernel_rfl) (by rw [Tryd.ntmps8]; simp) rfl rfl (by simp [LO.lt, LV.lts, LV.lt]) (by simp) ?_⟩
 intro B hA hmd
 refine .seq ?_
 refine .region rfl ?_
 refine R.assign (h := ?_)
 refine .n0 ?_
 refine .seq ?_
 refine .seq ?_
 refine .region rfl ?_
 refine R.move (h := ?_)
 refine R.lenT Tryd.runUnderlying9 (h := ?_)
 refine R.bin (run_gtr _ _ _ _ _ _) (h := ?_)
 refine R.move (h := ?_)
 refine R.move (h := ?_)
 refine R.lenT Tryd.runUnderlying9 (h := ?_)
 refine R.bin (run_gtr _ _ _ _ _ _) (h := ?_)
 refine R.or (h := ?_)
 refine .n0 ?_
 refine LGo.ifb (ht := fun hc => ?_) (hf := fun hc => ?_)
 ·
  refine .seq ?_
  refine .region rfl ?_
  refine R.callP (es := []) (fun _ => shown_P) (h := ?_)
  refine R.assign (h := ?_)
  refine .n0 ?_
  exact LGo.ret (ret_T Tryd.results8 hA hmd)
 ·
  simp only [Bool.or_eq_false_iff, decide_eq_false_iff_not] at hc
  obtain ⟨hsl, htl⟩ := hc
  refine .skip ?_
  refine .seq ?_
  refine .region rfl ?_
  refine R.makeOwn AP38 (k := .u8) (by kernel_rfl) (h0 := by decide) (hlc := by omega) (hm := by omega) (h := ?_)
  obtain ⟨z, hz, hzl⟩ : ∃ z : List UInt8, ic .u8 (List.replicate (Int.toNat 5000) 0) = bytesC z ∧ z.length ≤ 1048556 := ⟨List.replicate 5000 0, zer_bytes 5000, by rw [List.length_replicate]; omega⟩
  rw [hz]
  refine R.assign (h := ?_)
  refine .n0 ?_
  refine .seq ?_
  refine .seq ?_
  refine .region rfl ?_
  refine R.move (h := ?_)
  refine .n0 ?_
  refine LGo.cut (σ := List UInt8) (fun x => x.length ≤ 1048556) (fun x => [(7, (true, .ref 0))]) (fun x => [(0, .rs 5 1 (bytesC x))]) 1 [(0, _), (1, _), (2, _)] (by repeat (first | exact trivial | refine ⟨rfl, ?_⟩)) ?_ (fun hcut => ?_)
  ·
   rintro b hbl
   refine .seq ?_
   refine .seq ?_
   refine .region rfl ?_
   refine R.assign (h := ?_)
   refine .n0 ?_
   refine .block ?_
   refine .loop ?_
   refine LGo.loopG (σ := Nat × List UInt8) (fun x => x.1 ≤ b.length ∧ x.2.length = b.length) (fun x => [(8, (true, .i (x.1 : Nat))), (7, (true, .ref 0))]) (fun x => [(0, .rs 5 1 (bytesC x.2))]) (fun x => b.length - x.1) (0, b) [(0, _), (1, _), (2, _)] ⟨Nat.zero_le _, rfl⟩ (by repeat (first | exact trivial | refine ⟨rfl, ?_⟩)) (by repeat (first | exact trivial | refine ⟨rfl, ?_⟩)) (by repeat (first | exact trivial | refine ⟨rfl, ?_⟩)) ?_
   rintro ⟨k, c⟩ ⟨hk, hcl⟩ ih
   dsimp only at * 
   refine .seq ?_
   refine .seq ?_
   refine .region rfl ?_
   refine R.move (h := ?_)
   refine R.move (h := ?_)
   first | refine R.len S38 (h := ?_) | refine R.lenRs S38 (h := ?_) | refine R.lenV (run_lenNil S38) (h := ?_)
   rw [bytesC_length]
   refine R.bin (run_lss _ _ _ _ _ _) (h := ?_)
   refine .n0 ?_
   refine LGo.ifd (ht := fun hc3 => ?_) (hf := fun hc3 => ?_)
   ·
    have hk2 : k < c.length := by omega
    refine .skip ?_
    refine .seq ?_
    refine .block ?_
    refine .seq ?_
    refine .region rfl ?_
    refine R.move (h := ?_)
    refine R.move (h := ?_)
    refine R.indexRs I38 (hj := fun _ => ⟨by omega, by rw [bytesC_length]; omega⟩) (h := ?_)
    rw [Int.toNat_natCast]
    refine R.storeRs1 O5 k 0 [SV.val (.int .u8 ((c)[k].toNat : Int))] (hj := by simp [bytesC, hk2]) (hoff := by omega) (h := ?_)
    rw [show (bytesC (c)).set k (List.set [SV.val (.int .u8 ((c)[k].toNat : Int))] 0 (SV.val (.int .u8 10))) = bytesC ((c).set k 10) from bytesC_setU (c) k 10]
    refine .n0 ?_
    refine .seq ?_
    refine .region rfl ?_
    refine R.move (h := ?_)
    refine R.move (h := ?_)
    refine R.move (h := ?_)
    refine R.rem (h := ?_)
    refine R.bin (run_neq _ _ _ _ _ _) (h := ?_)
    refine R.and (h := ?_)
    refine .n0 ?_
    refine LGo.ifb (ht := fun hc4 => ?_) (hf := fun hc4 => ?_)
    ·
     have hk3 : k < (c.set k 10).length := by rw [List.length_set]; exact hk2
     refine .region rfl ?_
     refine R.move (h := ?_)
     refine R.move (h := ?_)
     refine R.indexRs I38 (hj := fun _ => ⟨by omega, by rw [bytesC_length, List.length_set]; omega⟩) (h := ?_)
     rw [Int.toNat_natCast]
     refine R.storeRs1 O5 k 0 [SV.val (.int .u8 ((c.set k 10)[k].toNat : Int))] (hj := by simp [bytesC, hk2]) (hoff := by omega) (h := ?_)
     rw [show (bytesC (c.set k 10)).set k (List.set [SV.val (.int .u8 ((c.set k 10)[k].toNat : Int))] 0 (SV.val (.int .u8 120))) = bytesC ((c.set k 10).set k 120) from bytesC_setU (c.set k 10) k 120]
     refine .n0 ?_
     refine .inBlock ?_
     refine .region rfl ?_
     refine R.move (h := ?_)
     first | refine R.add (h := ?_) | refine R.addW (h := ?_)
     refine R.assign (h := ?_)
     refine .n0 ?_
     refine .inLoop ?_
     exact LGo.next _ (fun o h => by have := (hA o).1 h; omega) (by omega) (ih (k + 1, (c.set k 10).set k 120) ⟨by dsimp only; omega, by dsimp only; rw [List.length_set, List.length_set]; exact hcl⟩ (by dsimp only; omega)) (by repeat (first | exact trivial | refine ⟨rfl, ?_⟩)) ⟨rfl, trivial⟩
    ·
     refine .skip ?_
     refine .inBlock ?_
     refine .region rfl ?_
     refine R.move (h := ?_)
     first | refine R.add (h := ?_) | refine R.addW (h := ?_)
     refine R.assign (h := ?_)
     refine .n0 ?_
     refine .inLoop ?_
     exact LGo.next _ (fun o h => by have := (hA o).1 h; omega) (by omega) (ih (k + 1, c.set k 10) ⟨by dsimp only; omega, by dsimp only; rw [List.length_set]; exact hcl⟩ (by dsimp only; omega)) (by repeat (first | exact trivial | refine ⟨rfl, ?_⟩)) ⟨rfl, trivial⟩
   ·
    refine LGo.frz 0 (h := ?_)
    refine .exit rfl ?_
    refine .seq ?_
    refine .region rfl ?_
    refine R.move (h := ?_)
    refine R.callP (es := [_]) (fun _ => lines_P s (by omega)) (h := ?_)
    refine R.move (h := ?_)
    refine R.move (h := ?_)
    refine R.toString Tryd.underlying38 Tryd.underlying5 Tryd.underlying9 (h := ?_)
    refine R.move (h := ?_)
    refine R.bin (run_addT _ _ _ c tl (by omega)) (h := ?_)
    refine R.callP (es := [_]) (fun _ => lines_P (c ++ tl) (by rw [List.length_append]; omega)) (h := ?_)
    refine R.and (h := ?_)
    refine R.move (h := ?_)
    refine R.callP (es := []) (fun _ => shown_P) (h := ?_)
    refine R.and (h := ?_)
    refine R.assign (h := ?_)
    refine .n0 ?_
    refine LGo.tru 6 (h := ?_)
    exact LGo.ret (ret_T Tryd.results8 hA hmd)
  ·
   refine LGo.ifb (ht := fun hc2 => ?_) (hf := fun hc2 => ?_)
   ·
    refine .region rfl ?_
    refine R.makeOwn AP38 (k := .u8) (by kernel_rfl) (h0 := by decide) (hlc := by omega) (hm := by omega) (h := ?_)
    obtain ⟨y, hy, hyl⟩ : ∃ z : List UInt8, ic .u8 (List.replicate (Int.toNat 1048556) 0) = bytesC z ∧ z.length ≤ 1048556 := ⟨List.replicate 1048556 0, zer_bytes 1048556, by rw [List.length_replicate]; omega⟩
    rw [hy]
    refine R.assign (h := ?_)
    refine .n0 ?_
    exact LGo.turn [1] (b := 0) (fun o h => by have := (hA o).1 h; omega) (hcut y hyl) (by repeat (first | exact trivial | refine ⟨rfl, ?_⟩)) ⟨rfl, trivial⟩
   ·
    refine .skip ?_
    exact LGo.next _ (fun o h => by have := (hA o).1 h; omega) (by omega) (hcut z hzl) (by repeat (first | exact trivial | refine ⟨rfl, ?_⟩)) ⟨rfl, trivial⟩

end Go.Proofs.YtmjpkfjgknbfeaaDoor
