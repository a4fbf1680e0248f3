/- words: Lines, and the reference's. -/
import Derived.Test.YtmjpkfjgknbfeaaDoorQU
set_option linter.unusedSimpArgs false
set_option linter.unusedVariables false
namespace Go.Proofs.YtmjpkfjgknbfeaaDoor


section
open Go.RowKit
theorem strsC_of (B : List ByteArray) : strsC (B.map (·.data.toList)) = B.map fun b => [SV.val (.string b)] := by
  unfold strsC
  rw [List.map_map]
  refine List.map_congr_left fun b _ => ?_
  simp
theorem fresh_strs {w : World} {T : Nat} {B : List ByteArray} {cx : Cx} (hl : ∀ b, 0 < cx.pr b → b < w.heap.size) (hB : B.length ≤ maxLen) :
    ∃ pr', (∀ b, b < w.heap.size → pr' b = cx.pr b) ∧ (∀ b, 0 < pr' b → b < (w.alloc (.cells (B.map Value.string).toArray T)).heap.size) ∧
      V ⟨pr', cx.A, cx.loc, cx.inn⟩ (w.alloc (.cells (B.map Value.string).toArray T)) (.sv (.sl 1 (B.map fun b => [SV.val (.string b)]))) (.slice (some ⟨w.heap.size, 0, none⟩) B.length B.length) := by
  refine ⟨fun b => if b = w.heap.size then B.length else cx.pr b, fun b hlt => by simp only; rw [if_neg (by omega)], fun b hp => ?_, ?_⟩
  · have hs : (w.alloc (.cells (B.map Value.string).toArray T)).heap.size = w.heap.size + 1 := by simp
    rw [hs]
    simp only at hp
    split at hp
    · omega
    · have := hl b hp; omega
  · simp only [V, VS]
    refine .inr ⟨w.heap.size, 0, B.length, by rw [List.length_map], by rw [List.length_map]; exact Nat.le_refl _, hB, by rw [List.length_map]; simp, ?_⟩
    have gen : ∀ (m : List ByteArray) (k : Nat), (∀ i (h : i < m.length), (w.alloc (.cells (B.map Value.string).toArray T)).cell? ⟨w.heap.size, k + i, none⟩ = some (.string m[i])) → VSR (fun b => if b = w.heap.size then B.length else cx.pr b) (w.alloc (.cells (B.map Value.string).toArray T)) w.heap.size k 1 (m.map fun b => [SV.val (.string b)]) := by
      intro m
      induction m with
      | nil => intro k _; simp [VSR]
      | cons a m ih =>
        intro k hk
        simp only [List.map_cons, VSR, VSC]
        refine ⟨rfl, ⟨⟨_, hk 0 (by simp), rfl, by simp [VS]⟩, trivial⟩, ih (k + 1) fun i hi => ?_⟩
        have := hk (i + 1) (by simp; omega)
        rw [show k + (i + 1) = k + 1 + i from by omega] at this
        rw [this]; rfl
    refine gen B 0 fun i hi => ?_
    have h : (w.alloc (.cells (B.map Value.string).toArray T)).heap[w.heap.size]? = some (.cells (B.map Value.string).toArray T) := by
      show (w.heap.push _)[w.heap.size]? = _
      simp
    rw [Nat.zero_add]
    simp only [World.cell?, h]
    simp [hi]
theorem genSplit_P (s : List UInt8) (hs : s.length ≤ 2000000) : PC Tryd.prog 90 [.t s, .t [10], .i 0, .i (-1)] (.sv (.sl 1 (strsC (Lib.split s [10])))) :=
  PC.of_calls (Entr.of Tryd.func90 rfl (by kernel_rfl)) (by simp [LV.lts, LV.lt]) fun cx w vs hl ham hv => by
    obtain ⟨v1, v2, v3, v4, rfl, h1, h2, h3, h4⟩ : ∃ v1 v2 v3 v4, vs = [v1, v2, v3, v4] ∧ V cx w (.t s) v1 ∧ V cx w (.t [10]) v2 ∧ V cx w (.i 0) v3 ∧ V cx w (.i (-1)) v4 := by
      simp only [Vs] at hv
      obtain ⟨v1, r1, rfl, h1, v2, r2, rfl, h2, v3, r3, rfl, h3, v4, r4, rfl, h4, rfl⟩ := hv
      exact ⟨_, _, _, _, rfl, h1, h2, h3, h4⟩
    rw [h1.val, h2.val, h3.val, h4.val]
    have hz : (⟨s.toArray⟩ : ByteArray).size = s.length := by simp [ByteArray.size]
    have hle := Lib.countB_le ⟨#[10]⟩ (Nat.le_refl _) s.length ⟨s.toArray⟩ (Nat.le_of_eq hz)
    have hlen := Lib.splitB_all ⟨#[10]⟩ (Nat.le_refl _) 0 _ ⟨s.toArray⟩ rfl
    have c := Any.strings_genSplit_core Tryd.lays221 (by kernel_rfl) ⟨s.toArray⟩ ⟨#[10]⟩ 0 (-1) (Lib.countB ⟨s.toArray⟩ ⟨#[10]⟩ + 1) w (by rw [hz]; omega) (Nat.le_refl _) (Nat.zero_le _)
      (fun x c hx => (Any.strings_Index_one Tryd.lays143 x 10 _).mono fun e w' ⟨he, hw⟩ => ⟨by rw [he, ← Lib.index_one], hw⟩)
      ((Any.strings_Count_one Tryd.lays138 ⟨s.toArray⟩ 10 w).mono fun e w' ⟨he, hw⟩ => ⟨by
        rw [he]
        show _ = Ending.returned (Value.int .i64 ((Lib.count (ByteArray.mk s.toArray).data.toList [10] : Nat) : Int))
        rw [Lib.count_one]
        rfl, hw⟩)
      (by decide) (by decide) (by rw [if_pos (by decide), hz]; omega)
    rw [Nat.add_sub_cancel, hlen] at c
    have e2 : Lib.cellsOf (Lib.splitB ⟨#[10]⟩ 0 (Lib.countB ⟨s.toArray⟩ ⟨#[10]⟩) ⟨s.toArray⟩) (Lib.countB ⟨s.toArray⟩ ⟨#[10]⟩ + 1) = ((Lib.splitB ⟨#[10]⟩ 0 (Lib.countB ⟨s.toArray⟩ ⟨#[10]⟩) ⟨s.toArray⟩).map Value.string).toArray := by
      conv => lhs; arg 2; rw [← hlen]
      exact Lib.cellsOf_full _
    rw [e2] at c
    refine c.mono ?_
    rintro e w' ⟨rfl, rfl⟩
    have e3 : Lib.split s [10] = (Lib.splitB ⟨#[10]⟩ 0 (Lib.countB ⟨s.toArray⟩ ⟨#[10]⟩) ⟨s.toArray⟩).map (·.data.toList) := (Lib.splitB_data ⟨#[10]⟩ 0 _ ⟨s.toArray⟩).symm
    rw [e3, strsC_of]
    obtain ⟨pr', k1, k2, k3⟩ := fresh_strs (w := w) (T := 9) (B := Lib.splitB ⟨#[10]⟩ 0 (Lib.countB ⟨s.toArray⟩ ⟨#[10]⟩) ⟨s.toArray⟩) (cx := cx) hl (by rw [hlen]; unfold maxLen; omega)
    rw [hlen] at k3
    exact ⟨_, pr', rfl, (Below.refl _ w).alloc (Nat.le_refl _) _, k1, k2, k3⟩
theorem hasSuffix_P (s : List UInt8) (hs : s.length ≤ 2000000) : PC Tryd.prog 68 [.t s, .t [10]] (.b (Lib.hasSuffix s [10])) :=
  PC.of_val (Entr.of Tryd.func68 rfl (by kernel_rfl)) (by simp [LV.lts, LV.lt]) fun cx w vs hl ham hv => by
    obtain ⟨v1, v2, rfl, h2, h3⟩ : ∃ v1 v2, vs = [v1, v2] ∧ V cx w (.t s) v1 ∧ V cx w (.t [10]) v2 := by
      simp only [Vs] at hv
      obtain ⟨v1, r1, rfl, h1, v2, r2, rfl, h2, rfl⟩ := hv
      exact ⟨_, _, rfl, h1, h2⟩
    rw [h2.val, h3.val]
    refine (Tryd.strings_HasSuffix ⟨s.toArray⟩ ⟨#[10]⟩ w (by simp [ByteArray.size]; omega)).mono ?_
    rintro e w' ⟨rfl, rfl⟩
    exact ⟨rfl, rfl, rfl, rfl, Nat.le_refl _, fun _ _ => rfl⟩
end
def linesW (s : List UInt8) : List (List UInt8) × Int := if 1048576 < (s.length : Int) then ([], 3) else if s = [] then ([], 0) else if Lib.hasSuffix s [10] = false then ([], 6)
  else if 5000 < ((Lib.split (s.take (s.length - 1)) [10]).length : Int) then ([], 3) else (Lib.split (s.take (s.length - 1)) [10], 0)

theorem splitNL_P (s : List UInt8) (hs : s.length ≤ 2000000) : PC Tryd.prog 69 [.t s, .t [10]] (.sv (.sl 1 (strsC (Lib.split s [10])))) := by
 refine ⟨LC.of_go Tryd.func69 (c := _) rfl (by kernel_rfl) (by rw [Tryd.ntmps69]; simp) rfl rfl (by simp [LO.lt, LV.lts, LV.lt]) (by simp) ?_⟩
 intro B hA hmd
 refine .seq ?_
 refine .region rfl ?_
 refine R.assign (h := ?_)
 refine .n0 ?_
 refine .seq ?_
 refine .region rfl ?_
 refine R.move (h := ?_)
 refine R.move (h := ?_)
 refine R.callP (es := [_, _, _, _]) (fun _ => genSplit_P s hs) (h := ?_)
 refine R.assign (h := ?_)
 refine .n0 ?_
 first | refine LGo.frzT 4 (h := ?_) | refine LGo.nilSl 4 1 (h := ?_) | skip
 exact LGo.ret (ret_T Tryd.results69 hA hmd)

theorem linesW_P (s : List UInt8) (hs : s.length ≤ 2000000) : PC Tryd.prog 44 [.t s] (.tup [.sv (.sl 1 (strsC (linesW s).1)), .i (linesW s).2]) := by
 refine ⟨LC.of_go Tryd.func44 (c := _) rfl (by kernel_rfl) (by rw [Tryd.ntmps44]; simp) rfl rfl (by simp [LO.lt, LV.lts, LV.lt]) (by simp) ?_⟩
 intro B hA hmd
 obtain ⟨g, e0⟩ : ∃ g, linesW s = g := ⟨_, rfl⟩
 have e1 := e0
 unfold linesW at e1
 rw [e0]
 refine .seq ?_
 refine .region rfl ?_
 refine R.assign (h := ?_)
 refine R.assign (h := ?_)
 refine .n0 ?_
 refine .seq ?_
 refine .block ?_
 refine .seq ?_
 refine .region rfl ?_
 refine R.move (h := ?_)
 refine R.lenT Tryd.runUnderlying9 (h := ?_)
 refine R.bin (run_gtr _ _ _ _ _ _) (h := ?_)
 refine R.assign (h := ?_)
 refine .n0 ?_
 refine LGo.ifd (ht := fun hc => ?_) (hf := fun hc => ?_)
 ·
  rw [if_pos hc] at e1; rw [← e1]
  refine .seq ?_
  refine .region rfl ?_
  refine R.assign (h := ?_)
  refine R.assign (h := ?_)
  refine .n0 ?_
  first | refine LGo.frzT 2 (h := ?_) | refine LGo.nilSl 2 1 (h := ?_) | skip
  exact LGo.ret (ret_TT Tryd.results44 hA hmd)
 ·
  rw [if_neg hc] at e1
  refine .seq ?_
  refine .region rfl ?_
  refine R.move (h := ?_)
  refine R.bin (run_eqlT _ _ _ _ _) (h := ?_)
  refine R.assign (h := ?_)
  refine .n0 ?_
  refine LGo.ifd (ht := fun hc2 => ?_) (hf := fun hc2 => ?_)
  ·
   rw [if_pos hc2] at e1; rw [← e1]
   refine .seq ?_
   refine .region rfl ?_
   refine R.assign (h := ?_)
   refine R.assign (h := ?_)
   refine .n0 ?_
   first | refine LGo.frzT 2 (h := ?_) | refine LGo.nilSl 2 1 (h := ?_) | skip
   exact LGo.ret (ret_TT Tryd.results44 hA hmd)
  ·
   rw [if_neg hc2] at e1
   have hpos : 0 < s.length := List.length_pos_iff.2 hc2
   refine .seq ?_
   refine .region rfl ?_
   refine R.move (h := ?_)
   refine R.callP (es := [_, _]) (fun _ => hasSuffix_P s hs) (h := ?_)
   refine R.not (h := ?_)
   refine R.assign (h := ?_)
   refine .n0 ?_
   refine LGo.ifb (ht := fun hc3 => ?_) (hf := fun hc3 => ?_)
   ·
    rw [if_pos (by simpa using hc3)] at e1; rw [← e1]
    refine .seq ?_
    refine .region rfl ?_
    refine R.assign (h := ?_)
    refine R.assign (h := ?_)
    refine .n0 ?_
    first | refine LGo.frzT 2 (h := ?_) | refine LGo.nilSl 2 1 (h := ?_) | skip
    exact LGo.ret (ret_TT Tryd.results44 hA hmd)
   ·
    rw [if_neg (by simpa using hc3)] at e1
    refine .skip ?_
    refine .inBlock ?_
    refine .seq ?_
    refine .region rfl ?_
    refine R.move (h := ?_)
    refine R.move (h := ?_)
    refine R.lenT Tryd.runUnderlying9 (h := ?_)
    first | refine R.sub (h := ?_) | refine R.subW (h := ?_)
    refine R.sliceTHi Tryd.runUnderlying9 (ha := fun _ => by simp; omega) (h := ?_)
    rw [show Int.toNat ((s.length : Int) - 1) = s.length - 1 from by omega]
    refine R.callP (es := [_, _]) (fun _ => splitNL_P (s.take (s.length - 1)) (by rw [List.length_take]; omega)) (h := ?_)
    refine R.assign (h := ?_)
    refine .n0 ?_
    refine .seq ?_
    refine .seq ?_
    refine .region rfl ?_
    refine R.move (h := ?_)
    first | refine R.len S59 (h := ?_) | refine R.lenRs S59 (h := ?_) | refine R.lenV (run_lenNil S59) (h := ?_)
    rw [strsC_length]
    refine R.bin (run_gtr _ _ _ _ _ _) (h := ?_)
    refine .n0 ?_
    refine LGo.ifd (ht := fun hc4 => ?_) (hf := fun hc4 => ?_)
    ·
     rw [if_pos hc4] at e1; rw [← e1]
     refine .seq ?_
     refine .region rfl ?_
     refine R.assign (h := ?_)
     refine R.assign (h := ?_)
     refine .n0 ?_
     first | refine LGo.frzT 2 (h := ?_) | refine LGo.nilSl 2 1 (h := ?_) | skip
     exact LGo.ret (ret_TT Tryd.results44 hA hmd)
    ·
     rw [if_neg hc4] at e1; rw [← e1]
     refine .skip ?_
     refine .seq ?_
     refine .region rfl ?_
     refine R.move (h := ?_)
     refine R.assign (h := ?_)
     refine R.assign (h := ?_)
     refine .n0 ?_
     first | refine LGo.frzT 2 (h := ?_) | refine LGo.nilSl 2 1 (h := ?_) | skip
     exact LGo.ret (ret_TT Tryd.results44 hA hmd)

end Go.Proofs.YtmjpkfjgknbfeaaDoor
