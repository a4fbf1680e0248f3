/- words: a text split at a byte; the reference's parts. -/
import Derived.Test.YtmjpkfjgknbfeaaGreatDoorSD
set_option linter.unusedSimpArgs false
set_option linter.unusedVariables false
namespace Go.Proofs.YtmjpkfjgknbfeaaGreatDoor


section
open Go.RowKit
theorem strsC_of (B : List ByteArray) : strsC (B.map (·.data.toList)) = B.map fun b => [SV.val (.string b)] := by
  unfold strsC
  rw [List.map_map]
  refine List.map_congr_left fun b _ => ?_
  simp
theorem fresh_strs {w : World} {T : Nat} {B : List ByteArray} {cx : Cx} (hl : ∀ b, 0 < cx.pr b → b < w.heap.size) (hB : B.length ≤ maxLen) :
    ∃ pr', (∀ b, b < w.heap.size → pr' b = cx.pr b) ∧ (∀ b, 0 < pr' b → b < (w.alloc (.cells (B.map Value.string).toArray T)).heap.size) ∧
      V ⟨pr', cx.A, cx.loc, cx.inn⟩ (w.alloc (.cells (B.map Value.string).toArray T)) (.sv (.sl 1 (B.map fun b => [SV.val (.string b)]))) (.slice (some ⟨w.heap.size, 0, none⟩) B.length B.length) := by
  refine ⟨fun b => if b = w.heap.size then B.length else cx.pr b, fun b hlt => by simp only; rw [if_neg (by omega)], fun b hp => ?_, ?_⟩
  · have hs : (w.alloc (.cells (B.map Value.string).toArray T)).heap.size = w.heap.size + 1 := by simp
    rw [hs]
    simp only at hp
    split at hp
    · omega
    · have := hl b hp; omega
  · simp only [V, VS]
    refine .inr ⟨w.heap.size, 0, B.length, by rw [List.length_map], by rw [List.length_map]; exact Nat.le_refl _, hB, by rw [List.length_map]; simp, ?_⟩
    have gen : ∀ (m : List ByteArray) (k : Nat), (∀ i (h : i < m.length), (w.alloc (.cells (B.map Value.string).toArray T)).cell? ⟨w.heap.size, k + i, none⟩ = some (.string m[i])) → VSR (fun b => if b = w.heap.size then B.length else cx.pr b) (w.alloc (.cells (B.map Value.string).toArray T)) w.heap.size k 1 (m.map fun b => [SV.val (.string b)]) := by
      intro m
      induction m with
      | nil => intro k _; simp [VSR]
      | cons a m ih =>
        intro k hk
        simp only [List.map_cons, VSR, VSC]
        refine ⟨rfl, ⟨⟨_, hk 0 (by simp), rfl, by simp [VS]⟩, trivial⟩, ih (k + 1) fun i hi => ?_⟩
        have := hk (i + 1) (by simp; omega)
        rw [show k + (i + 1) = k + 1 + i from by omega] at this
        rw [this]; rfl
    refine gen B 0 fun i hi => ?_
    have h : (w.alloc (.cells (B.map Value.string).toArray T)).heap[w.heap.size]? = some (.cells (B.map Value.string).toArray T) := by
      show (w.heap.push _)[w.heap.size]? = _
      simp
    rw [Nat.zero_add]
    simp only [World.cell?, h]
    simp [hi]
theorem genSplitC_P (c : UInt8) (s : List UInt8) (hs : s.length ≤ 2000000) : PC Tryz.prog 49 [.t s, .t [c], .i 0, .i (-1)] (.sv (.sl 1 (strsC (Lib.split s [c])))) :=
  PC.of_calls (Entr.of Tryz.func49 rfl (by kernel_rfl)) (by simp [LV.lts, LV.lt]) fun cx w vs hl ham hv => by
    obtain ⟨v1, v2, v3, v4, rfl, h1, h2, h3, h4⟩ : ∃ v1 v2 v3 v4, vs = [v1, v2, v3, v4] ∧ V cx w (.t s) v1 ∧ V cx w (.t [c]) v2 ∧ V cx w (.i 0) v3 ∧ V cx w (.i (-1)) v4 := by
      simp only [Vs] at hv
      obtain ⟨v1, r1, rfl, h1, v2, r2, rfl, h2, v3, r3, rfl, h3, v4, r4, rfl, h4, rfl⟩ := hv
      exact ⟨_, _, _, _, rfl, h1, h2, h3, h4⟩
    rw [h1.val, h2.val, h3.val, h4.val]
    have hz : (⟨s.toArray⟩ : ByteArray).size = s.length := by simp [ByteArray.size]
    have hle := Lib.countB_le ⟨#[c]⟩ (Nat.le_refl _) s.length ⟨s.toArray⟩ (Nat.le_of_eq hz)
    have hlen := Lib.splitB_all ⟨#[c]⟩ (Nat.le_refl _) 0 _ ⟨s.toArray⟩ rfl
    have cl := Any.strings_genSplit_core Tryz.lays221 (by kernel_rfl) ⟨s.toArray⟩ ⟨#[c]⟩ 0 (-1) (Lib.countB ⟨s.toArray⟩ ⟨#[c]⟩ + 1) w (by rw [hz]; omega) (Nat.le_refl _) (Nat.zero_le _)
      (fun x cc hx => (Any.strings_Index_one Tryz.lays143 x c _).mono fun e w' ⟨he, hw⟩ => ⟨by rw [he, ← Lib.index_one], hw⟩)
      ((Any.strings_Count_one Tryz.lays138 ⟨s.toArray⟩ c w).mono fun e w' ⟨he, hw⟩ => ⟨by
        rw [he]
        show _ = Ending.returned (Value.int .i64 ((Lib.count (ByteArray.mk s.toArray).data.toList [c] : Nat) : Int))
        rw [Lib.count_one]
        rfl, hw⟩)
      (by decide) (by decide) (by rw [if_pos (by decide), hz]; omega)
    rw [Nat.add_sub_cancel, hlen] at cl
    have e2 : Lib.cellsOf (Lib.splitB ⟨#[c]⟩ 0 (Lib.countB ⟨s.toArray⟩ ⟨#[c]⟩) ⟨s.toArray⟩) (Lib.countB ⟨s.toArray⟩ ⟨#[c]⟩ + 1) = ((Lib.splitB ⟨#[c]⟩ 0 (Lib.countB ⟨s.toArray⟩ ⟨#[c]⟩) ⟨s.toArray⟩).map Value.string).toArray := by
      conv => lhs; arg 2; rw [← hlen]
      exact Lib.cellsOf_full _
    rw [e2] at cl
    refine cl.mono ?_
    rintro e w' ⟨rfl, rfl⟩
    have e3 : Lib.split s [c] = (Lib.splitB ⟨#[c]⟩ 0 (Lib.countB ⟨s.toArray⟩ ⟨#[c]⟩) ⟨s.toArray⟩).map (·.data.toList) := (Lib.splitB_data ⟨#[c]⟩ 0 _ ⟨s.toArray⟩).symm
    rw [e3, strsC_of]
    obtain ⟨pr', k1, k2, k3⟩ := fresh_strs (w := w) (T := 9) (B := Lib.splitB ⟨#[c]⟩ 0 (Lib.countB ⟨s.toArray⟩ ⟨#[c]⟩) ⟨s.toArray⟩) (cx := cx) hl (by rw [hlen]; unfold maxLen; omega)
    rw [hlen] at k3
    exact ⟨_, pr', rfl, (Below.refl _ w).alloc (Nat.le_refl _) _, k1, k2, k3⟩
end
def pGo (c : UInt8) : List UInt8 → List UInt8 → List (List UInt8)
  | cur, [] => [cur]
  | cur, x :: r => if x = c then cur :: pGo c [] r else pGo c (cur ++ [x]) r
theorem pGo_app (c : UInt8) : ∀ (a cur r : List UInt8), c ∉ a → pGo c cur (a ++ r) = pGo c (cur ++ a) r
  | [], cur, r, _ => by rw [List.nil_append, List.append_nil]
  | x :: a, cur, r, h => by
    have h1 : ¬ x = c := fun e => h (by rw [e]; simp)
    rw [List.cons_append, pGo, if_neg h1, pGo_app c a (cur ++ [x]) r (fun e => h (by simp [e]))]
    simp
theorem splitC_no {c : UInt8} {s : List UInt8} (h : c ∉ s) : Lib.split s [c] = [s] := by
  unfold Lib.split
  rw [Lib.count_one, List.count_eq_zero.2 h]
  rfl
theorem splitC_hit {c : UInt8} {a b : List UInt8} (h : c ∉ a) (hi : Lib.indexByte (a ++ c :: b) c = (a.length : Nat)) : Lib.split (a ++ c :: b) [c] = a :: Lib.split b [c] := by
  unfold Lib.split
  rw [Lib.count_one, Lib.count_one, List.count_append, List.count_eq_zero.2 h, List.count_cons_self, Nat.zero_add, Lib.splitK, Lib.index_one, hi, if_neg (by rw [beq_iff_eq]; omega), Int.toNat_natCast]
  have e : (a ++ c :: b).drop (a.length + [c].length) = b := by
    rw [show a.length + [c].length = a.length + 1 from rfl, ← List.drop_drop, List.drop_left]; rfl
  rw [e, Nat.add_zero, List.take_left]
theorem split_pGo (c : UInt8) : ∀ (n : Nat) (s : List UInt8), s.length ≤ n → pGo c [] s = Lib.split s [c]
  | n, s, hn => by
    rcases index_cases c s with ⟨_, h2⟩ | ⟨a, b, rfl, h2, h3⟩
    · rw [splitC_no h2]
      have := pGo_app c s [] [] h2
      rw [List.append_nil, List.nil_append] at this
      rw [this]; rfl
    · match n with
      | 0 => simp at hn
      | n + 1 =>
        rw [splitC_hit h2 h3, pGo_app c a [] _ h2, pGo, if_pos rfl, split_pGo c n b (by simp at hn; omega), List.nil_append]
theorem pGo_len (c : UInt8) : ∀ (r cur : List UInt8), (pGo c cur r).length ≤ r.length + 1
  | [], cur => by simp [pGo]
  | x :: r, cur => by
    rw [pGo]
    split
    · have := pGo_len c r []; simp; omega
    · have := pGo_len c r (cur ++ [x]); simp; omega
theorem split_len (c : UInt8) (s : List UInt8) : (Lib.split s [c]).length ≤ s.length + 1 := by rw [← split_pGo c _ s (Nat.le_refl _)]; exact pGo_len c s []

theorem splitC_P (c : UInt8) (s : List UInt8) (hs : s.length ≤ 2000000) : PC Tryz.prog 27 [.t s, .t [c]] (.sv (.sl 1 (strsC (Lib.split s [c])))) := by
 refine ⟨LC.of_go Tryz.func27 (c := _) rfl (by kernel_rfl) (by rw [Tryz.ntmps27]; simp) rfl rfl (by simp [LO.lt, LV.lts, LV.lt]) (by simp) ?_⟩
 intro B hA hmd
 refine .seq ?_
 refine .region rfl ?_
 refine R.assign (h := ?_)
 refine .n0 ?_
 refine .seq ?_
 refine .region rfl ?_
 refine R.move (h := ?_)
 refine R.move (h := ?_)
 refine R.callP (es := [_, _, _, _]) (fun _ => genSplitC_P c s hs) (h := ?_)
 refine R.assign (h := ?_)
 refine .n0 ?_
 first | refine LGo.frzT 4 (h := ?_) | refine LGo.nilSl 4 1 (h := ?_) | skip
 exact LGo.ret (ret_T Tryz.results27 hA hmd)

theorem partsR_P (s : List UInt8) (c : UInt8) (hs : s.length ≤ 2000000) : PC Tryz.prog 33 [.t s, .y c.toNat] (.sv (.sl 1 (strsC (Lib.split s [c])))) := by
 refine ⟨LC.of_go Tryz.func33 (c := _) rfl (by kernel_rfl) (by rw [Tryz.ntmps33]; simp) rfl rfl (by simp [LO.lt, LV.lts, LV.lt]) (by simp) ?_⟩
 intro B hA hmd
 rw [← split_pGo c _ s (Nat.le_refl _)]
 obtain ⟨g, e1⟩ : ∃ g, pGo c [] s = g := ⟨_, rfl⟩
 rw [e1]
 refine .seq ?_
 refine .region rfl ?_
 refine R.assign (h := ?_)
 refine .n0 ?_
 refine .seq ?_
 refine .region rfl ?_
 refine R.assign (h := ?_)
 refine .n0 ?_
 refine .seq ?_
 refine .region rfl ?_
 refine R.assign (h := ?_)
 refine .n0 ?_
 refine .seq ?_
 refine .seq ?_
 refine .region rfl ?_
 refine R.assign (h := ?_)
 refine .n0 ?_
 refine .block ?_
 refine .loop ?_
 refine LGo.nilRs 5 9 1 (h := ?_)
 refine LGo.loopG (σ := Nat × Nat × List (List UInt8)) (fun x => x.2.1 ≤ x.1 ∧ x.1 ≤ s.length ∧ x.2.2.length ≤ x.1 ∧ x.2.2 ++ pGo c ((s.drop x.2.1).take (x.1 - x.2.1)) (s.drop x.1) = g) (fun x => [(7, (true, .i (x.1 : Nat))), (5, (true, .ref 0)), (6, (true, .i (x.2.1 : Nat)))]) (fun x => [(0, .rs 9 1 (strsC x.2.2))]) (fun x => s.length - x.1) (0, 0, []) [(0, _), (1, _)] ⟨Nat.le_refl _, Nat.zero_le _, Nat.zero_le _, e1⟩ (by repeat (first | exact trivial | refine ⟨rfl, ?_⟩)) (by repeat (first | exact trivial | refine ⟨rfl, ?_⟩)) (by repeat (first | exact trivial | refine ⟨rfl, ?_⟩)) ?_
 rintro ⟨k, fr, out⟩ ⟨hf, hk, hol, hq⟩ ih
 dsimp only at * 
 refine .seq ?_
 refine .seq ?_
 refine .region rfl ?_
 refine R.move (h := ?_)
 refine R.move (h := ?_)
 refine R.lenT Tryz.runUnderlying9 (h := ?_)
 refine R.bin (run_lss _ _ _ _ _ _) (h := ?_)
 refine .n0 ?_
 refine LGo.ifd (ht := fun hc => ?_) (hf := fun hc => ?_)
 ·
  have hlt : k < s.length := by omega
  have hx : s[((k : Nat) : Int).toNat]? = some s[k] := by rw [Int.toNat_natCast]; exact List.getElem?_eq_getElem hlt
  rw [List.drop_eq_getElem_cons hlt, pGo] at hq
  have htk : (s.drop fr).take (k + 1 - fr) = (s.drop fr).take (k - fr) ++ [s[k]] := by
    rw [show k + 1 - fr = k - fr + 1 from by omega, List.take_succ_eq_append_getElem (by rw [List.length_drop]; omega)]
    simp [show fr + (k - fr) = k from by omega]
  generalize s[k] = x at hx hq htk
  refine .skip ?_
  refine .seq ?_
  refine .block ?_
  refine .seq ?_
  refine .region rfl ?_
  refine R.move (h := ?_)
  refine R.move (h := ?_)
  refine R.indexT Tryz.runUnderlying9 (hj := fun hg => ⟨by omega, hx⟩) (h := ?_)
  refine R.move (h := ?_)
  refine R.bin (run_eql _ _ _ _ _ _) (h := ?_)
  refine .n0 ?_
  refine LGo.ifd (ht := fun hc2 => ?_) (hf := fun hc2 => ?_)
  ·
   rw [if_pos (show x = c from UInt8.toNat.inj (by omega))] at hq
   refine .seq ?_
   refine .region rfl ?_
   refine R.move (h := ?_)
   refine R.move (h := ?_)
   refine R.move (h := ?_)
   refine R.move (h := ?_)
   refine R.sliceTLoHi Tryz.runUnderlying9 (ha := fun _ => by simp; omega) (h := ?_)
   rw [Int.toNat_natCast, Int.toNat_natCast, List.drop_take]
   refine R.buildSliceG AP61 (xs := [_]) (es := [_]) (hcs := CellsOfs.cons (CellsOf.one rfl) CellsOfs.nil) (h := ?_)
   refine R.appendS AP61 (hs := SrcOk.sl Tryz.underlying61 (by simp)) (hlen := by rw [strsC_length]; simp; omega) (h := ?_)
   refine R.assign (h := ?_)
   refine .n0 ?_
   refine .region rfl ?_
   refine R.move (h := ?_)
   first | refine R.add (h := ?_) | refine R.addW (h := ?_)
   refine R.assign (h := ?_)
   refine .n0 ?_
   refine .inBlock ?_
   refine .region rfl ?_
   refine R.move (h := ?_)
   first | refine R.add (h := ?_) | refine R.addW (h := ?_)
   refine R.assign (h := ?_)
   refine .n0 ?_
   refine .inLoop ?_
   exact LGo.turn [1] (b := 0) (fun o h => by have := (hA o).1 h; omega) (ih (k + 1, k + 1, out ++ [(s.drop fr).take (k - fr)]) ⟨Nat.le_refl _, by dsimp only; omega, by dsimp only; simp; omega, by dsimp only; rw [Nat.sub_self, List.take_zero, List.append_assoc, List.singleton_append]; exact hq⟩ (by dsimp only; omega)) (by repeat (first | exact trivial | refine ⟨rfl, ?_⟩)) ⟨by rw [strsC_snoc1]; rfl, trivial⟩
  ·
   rw [if_neg (show ¬ x = c from fun h => hc2 (by rw [h])), ← htk] at hq
   refine .skip ?_
   refine .inBlock ?_
   refine .region rfl ?_
   refine R.move (h := ?_)
   first | refine R.add (h := ?_) | refine R.addW (h := ?_)
   refine R.assign (h := ?_)
   refine .n0 ?_
   refine .inLoop ?_
   exact LGo.next _ (fun o h => by have := (hA o).1 h; omega) (by omega) (ih (k + 1, fr, out) ⟨by dsimp only; omega, by dsimp only; omega, by dsimp only; omega, hq⟩ (by dsimp only; omega)) (by repeat (first | exact trivial | refine ⟨rfl, ?_⟩)) ⟨rfl, trivial⟩
 ·
  obtain rfl : k = s.length := by omega
  rw [List.drop_length, pGo, List.take_of_length_le (by rw [List.length_drop]; exact Nat.le_refl _)] at hq
  refine .exit rfl ?_
  refine .seq ?_
  refine .region rfl ?_
  refine R.move (h := ?_)
  refine R.move (h := ?_)
  refine R.move (h := ?_)
  refine R.sliceTLo Tryz.runUnderlying9 (ha := fun _ => by simp; omega) (h := ?_)
  rw [Int.toNat_natCast]
  refine R.buildSliceG AP61 (xs := [_]) (es := [_]) (hcs := CellsOfs.cons (CellsOf.one rfl) CellsOfs.nil) (h := ?_)
  refine R.appendS AP61 (hs := SrcOk.sl Tryz.underlying61 (by simp)) (hlen := by rw [strsC_length]; simp; omega) (h := ?_)
  refine R.assign (h := ?_)
  refine .n0 ?_
  refine LGo.frzT 4 (h := ?_)
  rw [← hq, strsC_snoc1]
  exact LGo.ret (ret_T Tryz.results33 hA hmd)

end Go.Proofs.YtmjpkfjgknbfeaaGreatDoor
