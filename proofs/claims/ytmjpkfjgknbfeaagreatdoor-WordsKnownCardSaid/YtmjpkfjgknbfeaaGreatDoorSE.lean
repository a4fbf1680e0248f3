/- words: a text split at a byte; the reference's parts. -/
import Derived.Test.YtmjpkfjgknbfeaaGreatDoorSD
set_option linter.unusedSimpArgs false
set_option linter.unusedVariables false
namespace Go.Proofs.YtmjpkfjgknbfeaaGreatDoor


section
open Go.RowKit
theorem strsC_of (B : List ByteArray) : strsC (B.map (·.data.toList)) = B.map fun b => [SV.val (.string b)] := by
  unfold strsC
  rw [List.map_map]
  refine List.map_congr_left fun b _ => ?_
  simp
theorem fresh_strs {w : World} {T : Nat} {B : List ByteArray} {cx : Cx} (hl : ∀ b, 0 < cx.pr b → b < w.heap.size) (hB : B.length ≤ maxLen) :
    ∃ pr', (∀ b, b < w.heap.size → pr' b = cx.pr b) ∧ (∀ b, 0 < pr' b → b < (w.alloc (.cells (B.map Value.string).toArray T)).heap.size) ∧
      V ⟨pr', cx.A, cx.loc, cx.inn⟩ (w.alloc (.cells (B.map Value.string).toArray T)) (.sv (.sl 1 (B.map fun b => [SV.val (.string b)]))) (.slice (some ⟨w.heap.size, 0, none⟩) B.length B.length) := by
  refine ⟨fun b => if b = w.heap.size then B.length else cx.pr b, fun b hlt => by simp only; rw [if_neg (by omega)], fun b hp => ?_, ?_⟩
  · have hs : (w.alloc (.cells (B.map Value.string).toArray T)).heap.size = w.heap.size + 1 := by simp
    rw [hs]
    simp only at hp
    split at hp
    · omega
    · have := hl b hp; omega
  · simp only [V, VS]
    refine .inr ⟨w.heap.size, 0, B.length, by rw [List.length_map], by rw [List.length_map]; exact Nat.le_refl _, hB, by rw [List.length_map]; simp, ?_⟩
    have gen : ∀ (m : List ByteArray) (k : Nat), (∀ i (h : i < m.length), (w.alloc (.cells (B.map Value.string).toArray T)).cell? ⟨w.heap.size, k + i, none⟩ = some (.string m[i])) → VSR (fun b => if b = w.heap.size then B.length else cx.pr b) (w.alloc (.cells (B.map Value.string).toArray T)) w.heap.size k 1 (m.map fun b => [SV.val (.string b)]) := by
      intro m
      induction m with
      | nil => intro k _; simp [VSR]
      | cons a m ih =>
        intro k hk
        simp only [List.map_cons, VSR, VSC]
        refine ⟨rfl, ⟨⟨_, hk 0 (by simp), rfl, by simp [VS]⟩, trivial⟩, ih (k + 1) fun i hi => ?_⟩
        have := hk (i + 1) (by simp; omega)
        rw [show k + (i + 1) = k + 1 + i from by omega] at this
        rw [this]; rfl
    refine gen B 0 fun i hi => ?_
    have h : (w.alloc (.cells (B.map Value.string).toArray T)).heap[w.heap.size]? = some (.cells (B.map Value.string).toArray T) := by
      show (w.heap.push _)[w.heap.size]? = _
      simp
    rw [Nat.zero_add]
    simp only [World.cell?, h]
    simp [hi]
theorem genSplitC_P (c : UInt8) (s : List UInt8) (hs : s.length ≤ 2000000) : PC Tryz.prog 49 [.t s, .t [c], .i 0, .i (-1)] (.sv (.sl 1 (strsC (Lib.split s [c])))) :=
  PC.of_calls (Entr.of Tryz.func49 rfl (by kernel_rfl)) (by simp [LV.lts, LV.lt]) fun cx w vs hl ham hv => by
    obtain ⟨v1, v2, v3, v4, rfl, h1, h2, h3, h4⟩ : ∃ v1 v2 v3 v4, vs = [v1, v2, v3, v4] ∧ V cx w (.t s) v1 ∧ V cx w (.t [c]) v2 ∧ V cx w (.i 0) v3 ∧ V cx w (.i (-1)) v4 := by
      simp only [Vs] at hv
      obtain ⟨v1, r1, rfl, h1, v2, r2, rfl, h2, v3, r3, rfl, h3, v4, r4, rfl, h4, rfl⟩ := hv
      exact ⟨_, _, _, _, rfl, h1, h2, h3, h4⟩
    rw [h1.val, h2.val, h3.val, h4.val]
    have hz : (⟨s.toArray⟩ : ByteArray).size = s.length := by simp [ByteArray.size]
    have hle := Lib.countB_le ⟨#[c]⟩ (Nat.le_refl _) s.length ⟨s.toArray⟩ (Nat.le_of_eq hz)
    have hlen := Lib.splitB_all ⟨#[c]⟩ (Nat.le_refl _) 0 _ ⟨s.toArray⟩ rfl
    have cl := Any.strings_genSplit_core Tryz.lays221 (by kernel_rfl) ⟨s.toArray⟩ ⟨#[c]⟩ 0 (-1) (Lib.countB ⟨s.toArray⟩ ⟨#[c]⟩ + 1) w (by rw [hz]; omega) (Nat.le_refl _) (Nat.zero_le _)
      (fun x cc hx => (Any.strings_Index_one Tryz.lays143 x c _).mono fun e w' ⟨he, hw⟩ => ⟨by rw [he, ← Lib.index_one], hw⟩)
      ((Any.strings_Count_one Tryz.lays138 ⟨s.toArray⟩ c w).mono fun e w' ⟨he, hw⟩ => ⟨by
        rw [he]
        show _ = Ending.returned (Value.int .i64 ((Lib.count (ByteArray.mk s.toArray).data.toList [c] : Nat) : Int))
        rw [Lib.count_one]
        rfl, hw⟩)
      (by decide) (by decide) (by rw [if_pos (by decide), hz]; omega)
    rw [Nat.add_sub_cancel, hlen] at cl
    have e2 : Lib.cellsOf (Lib.splitB ⟨#[c]⟩ 0 (Lib.countB ⟨s.toArray⟩ ⟨#[c]⟩) ⟨s.toArray⟩) (Lib.countB ⟨s.toArray⟩ ⟨#[c]⟩ + 1) = ((Lib.splitB ⟨#[c]⟩ 0 (Lib.countB ⟨s.toArray⟩ ⟨#[c]⟩) ⟨s.toArray⟩).map Value.string).toArray := by
      conv => lhs; arg 2; rw [← hlen]
      exact Lib.cellsOf_full _
    rw [e2] at cl
    refine cl.mono ?_
    rintro e w' ⟨rfl, rfl⟩
    have e3 : Lib.split s [c] = (Lib.splitB ⟨#[c]⟩ 0 (Lib.countB ⟨s.toArray⟩ ⟨#[c]⟩) ⟨s.toArray⟩).map (·.data.toList) := (Lib.splitB_data ⟨#[c]⟩ 0 _ ⟨s.toArray⟩).symm
    rw [e3, strsC_of]
    obtain ⟨pr', k1, k2, k3⟩ := fresh_strs (w := w) (T := 9) (B := Lib.splitB ⟨#[c]⟩ 0 (Lib.countB ⟨s.toArray⟩ ⟨#[c]⟩) ⟨s.toArray⟩) (cx := cx) hl (by rw [hlen]; unfold maxLen; omega)
    rw [hlen] at k3
    exact ⟨_, pr', rfl, (Below.refl _ w).alloc (Nat.le_refl _) _, k1, k2, k3⟩
end
def pGo (c : UInt8) : List UInt8 → List UInt8 → List (List UInt8)
  | cur, [] => [cur]
  | cur, x :: r => if x = c then cur :: pGo c [] r else pGo c (cur ++ [x]) r
theorem pGo_app (c : UInt8) : ∀ (a cur r : List UInt8), c ∉ a → pGo c cur (a ++ r) = pGo c (cur ++ a) r
  | [], cur, r, _ => by rw [List.nil_append, List.append_nil]
  | x :: a, cur, r, h => by
    have h1 : ¬ x = c := fun e => h (by rw [e]; simp)
    rw [List.cons_append, pGo, if_neg h1, pGo_app c a (cur ++ [x]) r (fun e => h (by simp [e]))]
    simp
theorem splitC_no {c : UInt8} {s : List UInt8} (h : c ∉ s) : Lib.split s [c] = [s] := by
  unfold Lib.split
  rw [Lib.count_one, List.count_eq_zero.2 h]
  rfl
theorem splitC_hit {c : UInt8} {a b : List UInt8} (h : c ∉ a) (hi : Lib.indexByte (a ++ c :: b) c = (a.length : Nat)) : Lib.split (a ++ c :: b) [c] = a :: Lib.split b [c] := by
  unfold Lib.split
  rw [Lib.count_one, Lib.count_one, List.count_append, List.count_eq_zero.2 h, List.count_cons_self, Nat.zero_add, Lib.splitK, Lib.index_one, hi, if_neg (by rw [beq_iff_eq]; omega), Int.toNat_natCast]
  have e : (a ++ c :: b).drop (a.length + [c].length) = b := by
    rw [show a.length + [c].length = a.length + 1 from rfl, ← List.drop_drop, List.drop_left]; rfl
  rw [e, Nat.add_zero, List.take_left]
theorem split_pGo (c : UInt8) : ∀ (n : Nat) (s : List UInt8), s.length ≤ n → pGo c [] s = Lib.split s [c]
  | n, s, hn => by
    rcases index_cases c s with ⟨_, h2⟩ | ⟨a, b, rfl, h2, h3⟩
    · rw [splitC_no h2]
      have := pGo_app c s [] [] h2
      rw [List.append_nil, List.nil_append] at this
      rw [this]; rfl
    · match n with
      | 0 => simp at hn
      | n + 1 =>
        rw [splitC_hit h2 h3, pGo_app c a [] _ h2, pGo, if_pos rfl, split_pGo c n b (by simp at hn; omega), List.nil_append]
theorem pGo_len (c : UInt8) : ∀ (r cur : List UInt8), (pGo c cur r).length ≤ r.length + 1
  | [], cur => by simp [pGo]
  | x :: r, cur => by
    rw [pGo]
    split
    · have := pGo_len c r []; simp; omega
    · have := pGo_len c r (cur ++ [x]); simp; omega
theorem split_len (c : UInt8) (s : List UInt8) : (Lib.split s [c]).length ≤ s.length + 1 := by rw [← split_pGo c _ s (Nat.le_refl _)]; exact pGo_len c s []

theorem splitC_P (c : UInt8) (s : List UInt8) (hs : s.length ≤ 2000000) : PC Tryz.prog 27 [.t s, .t [c]] (.sv (.sl 1 (strsC (Lib.split s [c])))) := by
 refine ⟨LC.of_go Tryz.func27 (c := _) rfl (by kernel_rfl) (by rw [Tryz.ntmps27]; simp) rfl rfl (by simp [LO.lt, LV.lts, LV.lt]) (by simp) ?_⟩
 intro B hA hmd
 refine .seq ?_
 refine .region rfl ?_
 refine R.assign (h := ?_)
 refine .n0 ?_
 refine .seq ?_
 refine .region rfl ?_
 refine R.move (h := ?_)
 refine R.move (h := ?_)
 refine R.callP (es := [_, _, _, _]) (fun _ => genSplitC_P c s hs) (h := ?_)
 refine R.assign (h := ?_)
 refine .n0 ?_
 first | refine LGo.frzT 4 (h := ?_) | refine LGo.nilSl 4 1 (h := ?_) | skip
 exact LGo.ret (ret_T Tryz.results27 hA hmd)

end Go.Proofs.YtmjpkfjgknbfeaaGreatDoor
