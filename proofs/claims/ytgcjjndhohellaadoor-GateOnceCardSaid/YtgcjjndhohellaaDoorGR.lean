/- words: List. -/
import Derived.Test.YtgcjjndhohellaaDoorGQ
set_option linter.unusedSimpArgs false
set_option linter.unusedVariables false
namespace Go.Proofs.YtgcjjndhohellaaDoor

theorem digs_ne (n : Nat) : Lib.decDigits n ≠ [] := by rw [Lib.decDigits]; split <;> simp
theorem decD_le : ∀ (k u : Nat), u < 10 ^ k → (Lib.decDigits u).length ≤ k + 1
  | 0, u, h => by rw [Lib.decDigits, dif_pos (by omega)]; simp
  | k + 1, u, h => by
    rw [Lib.decDigits]
    split
    · simp
    · have := decD_le k (u / 10) (by rw [Nat.pow_succ] at h; omega)
      simp; omega
section
open Go.RowKit
theorem formatInt_P (n : Int) (h0 : -9223372036854775808 ≤ n) (h1 : n ≤ 9223372036854775807) : PC Tryd.prog 70 [.i n, .i 10] (.t (Lib.itoa n)) :=
  PC.of_val (Entr.of Tryd.func70 rfl (by kernel_rfl)) (by simp [LV.lts, LV.lt]) fun cx w vs hl ham hv => by
    obtain ⟨v1, v2⟩ : ∃ v1 v2, vs = [v1, v2] ∧ V cx w (.i n) v1 ∧ V cx w (.i 10) v2 := by
      simp only [Vs] at hv
      obtain ⟨v1, r1, rfl, h1, v2, r2, rfl, h2, rfl⟩ := hv
      exact ⟨_, _, rfl, h1, h2⟩
    obtain ⟨v2, rfl, h3, h4⟩ := v2
    rw [h3.val, h4.val]
    refine (Tryd.strconv_FormatInt_10 n h0 h1 w (tab10 ham)).mono ?_
    rintro e w' ⟨rfl, k, os, rfl⟩
    exact ⟨rfl, ⟨rfl, rfl, rfl, by rw [Go.Sort.size_grow]; exact Nat.le_add_right _ _, fun b hb => Go.Sort.heap_grow_old _ _ hb⟩⟩
end


section
open Go.RowKit
theorem itoa_P (n : Int) (h0 : -9223372036854775808 ≤ n) (h1 : n ≤ 9223372036854775807) : PC Tryd.prog 68 [.i n] (.t (Lib.itoa n)) :=
  PC.of_val (Entr.of Tryd.func68 rfl (by kernel_rfl)) (by simp [LV.lts, LV.lt]) fun cx w vs hl ham hv => by
    obtain ⟨v1, rfl, h3⟩ : ∃ v1, vs = [v1] ∧ V cx w (.i n) v1 := by
      simp only [Vs] at hv
      obtain ⟨v1, r1, rfl, h1, rfl⟩ := hv
      exact ⟨_, rfl, h1⟩
    rw [h3.val]
    refine (Tryd.strconv_Itoa n h0 h1 w (tab10 ham)).mono ?_
    rintro e w' ⟨rfl, k, os, rfl⟩
    exact ⟨rfl, ⟨rfl, rfl, rfl, by rw [Go.Sort.size_grow]; exact Nat.le_add_right _ _, fun b hb => Go.Sort.heap_grow_old _ _ hb⟩⟩
end
/-- how many numbers behind a follow on it, one by one -/
def runLen : Int → List Int → Nat
  | a, b :: r => if b = a + 1 then runLen b r + 1 else 0
  | _, [] => 0
theorem runLen_le : ∀ (a : Int) (r : List Int), runLen a r ≤ r.length
  | _, [] => by simp [runLen]
  | a, b :: r => by
    have := runLen_le b r
    rw [runLen]
    split <;> simp <;> omega
theorem runLen_at : ∀ (a : Int) (r : List Int) (d : Nat), d ≤ runLen a r → (a :: r).getD d 0 = a + d
  | a, r, 0, _ => by simp
  | a, [], d + 1, h => by simp [runLen] at h
  | a, b :: r, d + 1, h => by
    rw [runLen] at h
    split at h
    · rename_i h1
      have := runLen_at b r d (by omega)
      rw [List.getD_cons_succ, this, h1]; omega
    · omega
theorem runLen_step : ∀ (a : Int) (r : List Int) (d : Nat), d ≤ runLen a r → (d + 1 ≤ runLen a r ↔ (d + 1 < (a :: r).length ∧ (a :: r).getD (d + 1) 0 = (a :: r).getD d 0 + 1))
  | a, [], 0, h => by simp [runLen]
  | a, b :: r, 0, h => by
    rw [runLen]
    simp only [List.getD_cons_succ, List.getD_cons_zero]
    split
    · simp [*]
    · simp [*]
  | a, [], d + 1, h => by simp [runLen] at h
  | a, b :: r, d + 1, h => by
    rw [runLen] at h ⊢
    split at h
    · rename_i h1
      rw [if_pos h1]
      have := runLen_step b r d (by omega)
      show d + 1 + 1 ≤ runLen b r + 1 ↔ (d + 1 + 1 < (b :: r).length + 1 ∧ (b :: r).getD (d + 1) 0 = (b :: r).getD d 0 + 1)
      omega
    · omega
def sepL (acc : List UInt8) : List UInt8 := if acc = [] then [] else [44]
def runTxt (a : Int) (k : Nat) : List UInt8 := if 0 < k then Lib.itoa a ++ ([45] ++ Lib.itoa (a + k)) else Lib.itoa a
def listGo : Nat → List Int → List UInt8 → List UInt8
  | 0, _, acc => acc
  | _ + 1, [], acc => acc
  | f + 1, a :: r, acc => listGo f (r.drop (runLen a r)) (acc ++ sepL acc ++ runTxt a (runLen a r))
def outK (l : List Int) (k : Nat) : Bool := (List.range k).any fun i => decide (l.getD i 0 < 0) || decide (l.getD i 0 > 1000000000)
def descK (l : List Int) (k : Nat) : Bool := (List.range k).any fun i => decide (0 < i) && decide (l.getD i 0 ≤ l.getD (i - 1) 0)
def listW (l : List Int) : List UInt8 × Int := if 500 < (l.length : Int) then ([], 3) else if outK l l.length = true then ([], 7) else if descK l l.length = true then ([], 6) else if l = [] then ([45], 0) else (listGo (l.length + 1) l [], 0)
theorem outK_succ (l : List Int) (k : Nat) : outK l (k + 1) = (outK l k || (decide (l.getD k 0 < 0) || decide (l.getD k 0 > 1000000000))) := by unfold outK; rw [List.range_succ, List.any_append]; simp
theorem descK_succ (l : List Int) (k : Nat) : descK l (k + 1) = (descK l k || (decide (0 < k) && decide (l.getD k 0 ≤ l.getD (k - 1) 0))) := by unfold descK; rw [List.range_succ, List.any_append]; simp
theorem outK_yes {l : List Int} {k : Nat} (hk : k < l.length) (h : (decide (l.getD k 0 < 0) || decide (l.getD k 0 > 1000000000)) = true) : outK l l.length = true := by
  unfold outK; rw [List.any_eq_true]; exact ⟨k, List.mem_range.2 hk, h⟩
theorem outK_no {l : List Int} (h : outK l l.length = false) (j : Nat) : 0 ≤ l.getD j 0 ∧ l.getD j 0 ≤ 1000000000 := by
  by_cases hj : j < l.length
  · unfold outK at h
    rw [List.any_eq_false] at h
    have := h j (List.mem_range.2 hj)
    simp only [Bool.or_eq_true, decide_eq_true_eq, not_or] at this
    omega
  · rw [List.getD_eq_getElem?_getD, List.getElem?_eq_none (by omega)]; simp
theorem icD {l : List Int} {j : Nat} (h : j < l.length) : (ic .i64 l)[j]? = some [.val (.int .i64 (l.getD j 0))] := by
  rw [List.getD_eq_getElem?_getD, List.getElem?_eq_getElem h]
  exact ic_get (List.getElem?_eq_getElem h)
def adr : List UInt8 → LV
  | [] => .v (.pointer none)
  | _ :: _ => .ptr 0 0
theorem adr_ne {l : List UInt8} (h : l ≠ []) : adr l = .ptr 0 0 := by cases l with | nil => exact absurd rfl h | cons a r => rfl
theorem itoa_ne (n : Int) : Lib.itoa n ≠ [] := by unfold Lib.itoa; split; simp; exact digs_ne _
theorem itoa_10 {n : Int} (h0 : 0 ≤ n) (h1 : n ≤ 1000000000) : (Lib.itoa n).length ≤ 11 := by
  unfold Lib.itoa; rw [if_neg (by omega)]; exact decD_le 10 n.toNat (by omega)
theorem dropD (l : List Int) (i d : Nat) : (l.drop i).getD d 0 = l.getD (i + d) 0 := by rw [List.getD_eq_getElem?_getD, List.getD_eq_getElem?_getD, List.getElem?_drop]

theorem list_P (l : List Int) (hl : l.length ≤ 100000) (h64 : ∀ n ∈ l, -9223372036854775808 ≤ n ∧ n ≤ 9223372036854775807) : PC Tryd.prog 45 [.sv (.sl 1 (ic .i64 l))] (.tup [.t (listW l).1, .i (listW l).2]) := by
 refine ⟨LC.of_go Tryd.func45 (c := _) rfl (by kernel_rfl) (by rw [Tryd.ntmps45]; simp) rfl rfl (by simp [LO.lt, LV.lts, LV.lt, lts_sv]) (by simp) ?_⟩
 intro B hA hmd
 obtain ⟨g, e0⟩ : ∃ g, listW l = g := ⟨_, rfl⟩
 have e1 := e0
 unfold listW at e1
 rw [e0]
 refine .seq ?_
 refine .region rfl ?_
 refine R.assign (h := ?_)
 refine R.assign (h := ?_)
 refine .n0 ?_
 refine .seq ?_
 refine .seq ?_
 refine .region rfl ?_
 refine R.move (h := ?_)
 first | refine R.len S57 (h := ?_) | refine R.lenRs S57 (h := ?_) | refine R.lenV (run_lenNil S57) (h := ?_)
 rw [ic_len]
 refine R.bin (run_gtr _ _ _ _ _ _) (h := ?_)
 refine .n0 ?_
 refine LGo.ifd (ht := fun hc => ?_) (hf := fun hc => ?_)
 ·
  rw [if_pos hc] at e1; rw [← e1]
  refine .seq ?_
  refine .region rfl ?_
  refine R.assign (h := ?_)
  refine R.assign (h := ?_)
  refine .n0 ?_
  exact LGo.ret (ret_TT Tryd.results45 hA hmd)
 ·
  rw [if_neg hc] at e1
  refine .skip ?_
  refine .seq ?_
  refine .region rfl ?_
  refine R.assign (h := ?_)
  refine .n0 ?_
  refine .seq ?_
  refine .region rfl ?_
  refine R.alloc Z81 (h := ?_)
  refine .n0 ?_
  refine .seq ?_
  refine .seq ?_
  refine .region rfl ?_
  refine R.assign (h := ?_)
  refine .n0 ?_
  refine .block ?_
  refine .loop ?_
  refine LGo.loopG (σ := Nat × Int) (fun x => x.1 ≤ l.length ∧ outK l x.1 = false ∧ x.2 = (if descK l x.1 = true then 6 else 0)) (fun x => [(6, (true, .i (x.1 : Nat))), (4, (true, .i x.2))]) (fun x => [(0, .box 81 [.v (.pointer none), .v (.slice none 0 0)])]) (fun x => l.length - x.1) (0, 0) [(0, _), (5, _)] ⟨Nat.zero_le _, rfl, rfl⟩ (by repeat (first | exact trivial | refine ⟨rfl, ?_⟩)) (by repeat (first | exact trivial | refine ⟨rfl, ?_⟩)) (by repeat (first | exact trivial | refine ⟨rfl, ?_⟩)) ?_
  rintro ⟨k, e⟩ ⟨hk, hok, he⟩ ih
  dsimp only at * 
  refine .seq ?_
  refine .seq ?_
  refine .region rfl ?_
  refine R.move (h := ?_)
  refine R.move (h := ?_)
  first | refine R.len S57 (h := ?_) | refine R.lenRs S57 (h := ?_) | refine R.lenV (run_lenNil S57) (h := ?_)
  rw [ic_len]
  refine R.bin (run_lss _ _ _ _ _ _) (h := ?_)
  refine .n0 ?_
  refine LGo.ifd (ht := fun hc2 => ?_) (hf := fun hc2 => ?_)
  ·
   have hlt : k < l.length := by omega
   have ho := outK_succ l k
   rw [hok, Bool.false_or] at ho
   have hde := descK_succ l k
   refine .skip ?_
   refine .seq ?_
   refine .block ?_
   refine .seq ?_
   refine .region rfl ?_
   refine R.move (h := ?_)
   refine R.move (h := ?_)
   refine R.index I57 (e := [.val (.int .i64 (l.getD (k) 0))]) (hj := fun hg => ⟨by omega, by rw [show Int.toNat ((k : Int)) = k from by omega]; exact icD (by omega)⟩) (h := ?_)
   first | refine R.loadB O3 (h := ?_) | refine R.load1 O3 (h := ?_)
   refine R.assign (h := ?_)
   refine .n0 ?_
   refine .seq ?_
   refine .seq ?_
   refine .region rfl ?_
   refine R.move (h := ?_)
   refine R.bin (run_lss _ _ _ _ _ _) (h := ?_)
   refine R.move (h := ?_)
   refine R.move (h := ?_)
   refine R.bin (run_gtr _ _ _ _ _ _) (h := ?_)
   refine R.or (h := ?_)
   refine .n0 ?_
   refine LGo.ifb (ht := fun hc3 => ?_) (hf := fun hc3 => ?_)
   ·
    rw [if_pos (outK_yes hlt hc3)] at e1; rw [← e1]
    refine .seq ?_
    refine .region rfl ?_
    refine R.assign (h := ?_)
    refine R.assign (h := ?_)
    refine .n0 ?_
    exact LGo.ret (ret_TT Tryd.results45 hA hmd)
   ·
    rw [hc3] at ho
    refine .skip ?_
    refine .seq ?_
    refine .region rfl ?_
    refine R.move (h := ?_)
    refine R.bin (run_gtr _ _ _ _ _ _) (h := ?_)
    refine R.move (h := ?_)
    refine R.move (h := ?_)
    refine R.move (h := ?_)
    refine R.move (h := ?_)
    first | refine R.sub (h := ?_) | refine R.subW (h := ?_)
    refine R.index I57 (e := [.val (.int .i64 (l.getD (k - 1) 0))]) (hj := fun hg => ⟨by simp at hg; omega, by simp at hg; rw [show Int.toNat ((k : Int) - 1) = k - 1 from by omega]; exact icD (by omega)⟩) (h := ?_)
    first | refine R.loadB O3 (h := ?_) | refine R.load1 O3 (h := ?_)
    refine R.bin (run_leq _ _ _ _ _ _) (h := ?_)
    refine R.and (h := ?_)
    refine .n0 ?_
    refine LGo.ifb (ht := fun hc4 => ?_) (hf := fun hc4 => ?_)
    ·
     have hd1 : descK l (k + 1) = true := by rw [hde]; simp only [Bool.or_eq_true, Bool.and_eq_true, decide_eq_true_eq, Bool.or_eq_false_iff, Bool.and_eq_false_iff, decide_eq_false_iff_not, Bool.not_eq_true', Bool.not_eq_false', Bool.not_eq_true, Bool.not_eq_false, Bool.false_eq_true, Bool.true_eq_false, iff_true, true_iff, iff_false, false_iff] at hc4 ⊢; right; exact ⟨by omega, hc4.2⟩
     refine .region rfl ?_
     refine R.assign (h := ?_)
     refine .n0 ?_
     refine .inBlock ?_
     refine .region rfl ?_
     refine R.move (h := ?_)
     first | refine R.add (h := ?_) | refine R.addW (h := ?_)
     refine R.assign (h := ?_)
     refine .n0 ?_
     refine .inLoop ?_
     exact LGo.next _ (fun o h => by have := (hA o).1 h; omega) (by omega) (ih (k + 1, 6) ⟨by dsimp only; omega, ho, by dsimp only; rw [hd1]; rfl⟩ (by dsimp only; omega)) (by repeat (first | exact trivial | refine ⟨rfl, ?_⟩)) ⟨rfl, trivial⟩
    ·
     have hd1 : descK l (k + 1) = descK l k := by
       rw [hde]
       have : (decide (0 < k) && decide (l.getD k 0 ≤ l.getD (k - 1) 0)) = false := by simp only [Bool.or_eq_true, Bool.and_eq_true, decide_eq_true_eq, Bool.or_eq_false_iff, Bool.and_eq_false_iff, decide_eq_false_iff_not, Bool.not_eq_true', Bool.not_eq_false', Bool.not_eq_true, Bool.not_eq_false, Bool.false_eq_true, Bool.true_eq_false, iff_true, true_iff, iff_false, false_iff] at hc4 ⊢; omega
       rw [this, Bool.or_false]
     refine .skip ?_
     refine .inBlock ?_
     refine .region rfl ?_
     refine R.move (h := ?_)
     first | refine R.add (h := ?_) | refine R.addW (h := ?_)
     refine R.assign (h := ?_)
     refine .n0 ?_
     refine .inLoop ?_
     exact LGo.next _ (fun o h => by have := (hA o).1 h; omega) (by omega) (ih (k + 1, e) ⟨by dsimp only; omega, ho, by dsimp only; rw [hd1]; exact he⟩ (by dsimp only; omega)) (by repeat (first | exact trivial | refine ⟨rfl, ?_⟩)) ⟨rfl, trivial⟩
  ·
   obtain rfl : k = l.length := by omega
   rw [if_neg (by rw [hok]; simp)] at e1
   have hrng := outK_no hok
   clear hok
   refine .exit rfl ?_
   refine .seq ?_
   refine .seq ?_
   refine .region rfl ?_
   refine R.assign (h := ?_)
   refine .n0 ?_
   refine .block ?_
   refine .loop ?_
   refine LGo.packNil 0 1 5 1 (h := ?_)
   refine LGo.loopG (σ := Nat × List UInt8 × Nat) (fun x => x.1 ≤ l.length ∧ l.length - x.1 < x.2.2 ∧ x.2.1.length ≤ 24 * x.1 ∧ (0 < x.1 → x.2.1 ≠ []) ∧ listGo x.2.2 (l.drop x.1) x.2.1 = listGo (l.length + 1) l []) (fun x => [(8, (true, .i (x.1 : Nat)))]) (fun x => [(0, .bx 81 [adr x.2.1, .v undef] 1 5 1 (bytesC x.2.1))]) (fun x => l.length - x.1) (0, [], l.length + 1) [(0, _), (4, _), (5, _)] ⟨Nat.zero_le _, by dsimp only; omega, Nat.zero_le _, fun h => absurd h (by dsimp only; omega), rfl⟩ (by repeat (first | exact trivial | refine ⟨rfl, ?_⟩)) (by repeat (first | exact trivial | refine ⟨rfl, ?_⟩)) (by repeat (first | exact trivial | refine ⟨rfl, ?_⟩)) ?_
   rintro ⟨i, acc, f⟩ ⟨hi, hf, hal, hne, hq⟩ ih2
   dsimp only at * 
   refine .seq ?_
   refine .seq ?_
   refine .region rfl ?_
   refine R.move (h := ?_)
   refine R.move (h := ?_)
   first | refine R.len S57 (h := ?_) | refine R.lenRs S57 (h := ?_) | refine R.lenV (run_lenNil S57) (h := ?_)
   rw [ic_len]
   refine R.bin (run_lss _ _ _ _ _ _) (h := ?_)
   refine R.move (h := ?_)
   refine R.move (h := ?_)
   refine R.bin (run_eql _ _ _ _ _ _) (h := ?_)
   refine R.and (h := ?_)
   refine .n0 ?_
   refine LGo.ifb (ht := fun hc5 => ?_) (hf := fun hc5 => ?_)
   ·
    obtain ⟨hlt, he0⟩ : i < l.length ∧ e = 0 := by simp only [Bool.or_eq_true, Bool.and_eq_true, decide_eq_true_eq, Bool.or_eq_false_iff, Bool.and_eq_false_iff, decide_eq_false_iff_not, Bool.not_eq_true', Bool.not_eq_false', Bool.not_eq_true, Bool.not_eq_false, Bool.false_eq_true, Bool.true_eq_false, iff_true, true_iff, iff_false, false_iff] at hc5; omega
    obtain ⟨f, rfl⟩ : ∃ g, f = g + 1 := ⟨f - 1, by omega⟩
    have hd : l.drop i = l.getD i 0 :: l.drop (i + 1) := by rw [List.drop_eq_getElem_cons hlt, List.getD_eq_getElem?_getD, List.getElem?_eq_getElem hlt]; rfl
    rw [hd, listGo] at hq
    have hra := hrng i
    have hstp := fun d h => runLen_step (l.getD i 0) (l.drop (i + 1)) d h
    have hat := fun d h => runLen_at (l.getD i 0) (l.drop (i + 1)) d h
    have hrl := runLen_le (l.getD i 0) (l.drop (i + 1))
    rw [← hd] at hstp hat
    simp only [dropD, List.length_drop] at hstp hat hrl
    refine .skip ?_
    refine .seq ?_
    refine .block ?_
    refine .seq ?_
    refine .region rfl ?_
    refine R.move (h := ?_)
    refine R.move (h := ?_)
    refine R.index I57 (e := [.val (.int .i64 (l.getD (i) 0))]) (hj := fun hg => ⟨by omega, by rw [show Int.toNat ((i : Int)) = i from by omega]; exact icD (by omega)⟩) (h := ?_)
    first | refine R.loadB O3 (h := ?_) | refine R.load1 O3 (h := ?_)
    refine R.assign (h := ?_)
    refine .n0 ?_
    refine .seq ?_
    refine .block ?_
    refine .loop ?_
    refine LGo.loopG (σ := Nat) (fun x => x ≤ runLen (l.getD i 0) (l.drop (i + 1))) (fun x => [(8, (true, .i ((i + x : Nat) : Nat)))]) (fun x => [(0, .bx 81 [adr acc, .v undef] 1 5 1 (bytesC acc))]) (fun x => l.length - (i + x)) (0) [(0, _), (4, _), (5, _), (9, _), (45, _), (46, _)] (Nat.zero_le _) (by repeat (first | exact trivial | refine ⟨rfl, ?_⟩)) (by repeat (first | exact trivial | refine ⟨rfl, ?_⟩)) (by repeat (first | exact trivial | refine ⟨rfl, ?_⟩)) ?_
    rintro d hdr ih3
    have hb1 := hrng (i + d)
    have hb2 := hrng (i + d + 1)
    have hst := hstp d hdr
    rw [show i + (d + 1) = i + d + 1 from by omega] at hst
    refine .seq ?_
    refine .seq ?_
    refine .region rfl ?_
    refine R.move (h := ?_)
    first | refine R.add (h := ?_) | refine R.addW (h := ?_)
    refine R.move (h := ?_)
    first | refine R.len S57 (h := ?_) | refine R.lenRs S57 (h := ?_) | refine R.lenV (run_lenNil S57) (h := ?_)
    rw [ic_len]
    refine R.bin (run_lss _ _ _ _ _ _) (h := ?_)
    refine R.move (h := ?_)
    refine R.move (h := ?_)
    refine R.move (h := ?_)
    first | refine R.add (h := ?_) | refine R.addW (h := ?_)
    refine R.index I57 (e := [.val (.int .i64 (l.getD (i + d + 1) 0))]) (hj := fun hg => ⟨by omega, by rw [show Int.toNat (((i + d : Nat) : Int) + 1) = i + d + 1 from by omega]; exact icD (by simp at hg; omega)⟩) (h := ?_)
    first | refine R.loadB O3 (h := ?_) | refine R.load1 O3 (h := ?_)
    refine R.move (h := ?_)
    refine R.move (h := ?_)
    refine R.index I57 (e := [.val (.int .i64 (l.getD (i + d) 0))]) (hj := fun hg => ⟨by omega, by rw [Int.toNat_natCast]; exact icD (by omega)⟩) (h := ?_)
    first | refine R.loadB O3 (h := ?_) | refine R.load1 O3 (h := ?_)
    first | refine R.add (h := ?_) | refine R.addW (h := ?_)
    refine R.bin (run_eql _ _ _ _ _ _) (h := ?_)
    refine R.and (h := ?_)
    refine Reg.nil ⟨fun _ => ⟨mixedO, by rfl, by rfl⟩, ?_⟩
    refine LGo.ifb (ht := fun hc6 => ?_) (hf := fun hc6 => ?_)
    ·
     have hd1 : d + 1 ≤ runLen (l.getD i 0) (l.drop (i + 1)) := by rw [hst]; simp only [Bool.or_eq_true, Bool.and_eq_true, decide_eq_true_eq, Bool.or_eq_false_iff, Bool.and_eq_false_iff, decide_eq_false_iff_not, Bool.not_eq_true', Bool.not_eq_false', Bool.not_eq_true, Bool.not_eq_false, Bool.false_eq_true, Bool.true_eq_false, iff_true, true_iff, iff_false, false_iff] at hc6; omega
     refine .skip ?_
     refine .block ?_
     refine .region rfl ?_
     refine R.move (h := ?_)
     first | refine R.add (h := ?_) | refine R.addW (h := ?_)
     refine R.assign (h := ?_)
     refine .n0 ?_
     refine .inBlock ?_
     refine .inLoop ?_
     rw [show ((i + d : Nat) : Int) + 1 = ((i + (d + 1) : Nat) : Int) from by omega]
     exact LGo.next _ (fun o h => by have := (hA o).1 h; omega) (by omega) (ih3 (d + 1) hd1 (by omega)) (by repeat (first | exact trivial | refine ⟨rfl, ?_⟩)) ⟨rfl, trivial⟩ (hLl := by cases acc <;> rfl)
    ·
     have hde : d = runLen (l.getD i 0) (l.drop (i + 1)) := by
       by_cases h : d + 1 ≤ runLen (l.getD i 0) (l.drop (i + 1))
       · have h2 := hst.1 h
         simp only [Bool.or_eq_true, Bool.and_eq_true, decide_eq_true_eq, Bool.or_eq_false_iff, Bool.and_eq_false_iff, decide_eq_false_iff_not, Bool.not_eq_true', Bool.not_eq_false', Bool.not_eq_true, Bool.not_eq_false, Bool.false_eq_true, Bool.true_eq_false, iff_true, true_iff, iff_false, false_iff] at hc6
         omega
       · omega
     rw [← hde] at hq hrl
     rw [List.drop_drop] at hq
     have had := hat d hdr
     have hi1 := itoa_10 hra.1 hra.2
     have hi2 := itoa_10 (n := l.getD i 0 + d) (by omega) (by omega)
     have hin := itoa_ne (l.getD i 0)
     clear hst hstp hat
     refine .exit rfl ?_
     refine .seq ?_
     refine .seq ?_
     refine .region rfl ?_
     rcases acc with _ | ⟨c0, acc⟩
     ·
      refine R.callX (es := [_]) [0] (bl0) (h := ?_)
      refine R.bin (run_gtr _ _ _ _ _ _) (h := ?_)
      refine .n0 ?_
      refine LGo.ifb (ht := fun hc7 => by simp at hc7) (hf := fun hc7 => ?_)
      refine .skip ?_
      refine .seq ?_
      refine .region rfl ?_
      refine R.move (h := ?_)
      refine R.callP (es := [_]) (fun _ => itoa_P (l.getD i 0) (by omega) (by omega)) (h := ?_)
      refine R.callX (es := [_, _]) [0] (ws0 (Lib.itoa (l.getD i 0)) (by omega)) (h := ?_)
      refine .n0 ?_
      refine .seq ?_
      refine .region rfl ?_
      refine R.move (h := ?_)
      refine R.move (h := ?_)
      refine R.index I57 (e := [.val (.int .i64 (l.getD (i + d) 0))]) (hj := fun hg => ⟨by omega, by rw [Int.toNat_natCast]; exact icD (by omega)⟩) (h := ?_)
      rw [had]
      first | refine R.loadB O3 (h := ?_) | refine R.load1 O3 (h := ?_)
      refine R.move (h := ?_)
      refine R.bin (run_gtr _ _ _ _ _ _) (h := ?_)
      refine .n0 ?_
      refine LGo.ifd (ht := fun hc8 => ?_) (hf := fun hc8 => ?_)
      ·
       have hpos : 0 < d := by omega
       refine .region rfl ?_
       refine R.move (h := ?_)
       refine R.move (h := ?_)
       refine R.index I57 (e := [.val (.int .i64 (l.getD (i + d) 0))]) (hj := fun hg => ⟨by omega, by rw [Int.toNat_natCast]; exact icD (by omega)⟩) (h := ?_)
       rw [had]
       first | refine R.loadB O3 (h := ?_) | refine R.load1 O3 (h := ?_)
       refine R.callP (es := [_]) (fun _ => itoa_P (l.getD i 0 + d) (by omega) (by omega)) (h := ?_)
       refine R.bin (run_addT _ _ _ [45] (Lib.itoa (l.getD i 0 + d)) (by first | omega | (simp only [List.length_cons, List.length_nil]; omega))) (h := ?_)
       refine R.callX (es := [_, _]) [0] (ws1 (Lib.itoa (l.getD i 0)) (by omega) ([45] ++ Lib.itoa (l.getD i 0 + d)) (by first | omega | (simp only [List.length_append, List.length_cons, List.length_nil] at *; omega))) (h := ?_)
       refine .n0 ?_
       refine .inBlock ?_
       refine .region rfl ?_
       refine R.move (h := ?_)
       first | refine R.add (h := ?_) | refine R.addW (h := ?_)
       refine R.assign (h := ?_)
       refine .n0 ?_
       refine .inLoop ?_
       have hnx : (Lib.itoa (l.getD i 0) ++ ([45] ++ Lib.itoa (l.getD i 0 + d))) ≠ [] := by first | exact hin | simp
       rw [show ((i + d : Nat) : Int) + 1 = ((i + d + 1 : Nat) : Int) from by omega]
       exact LGo.next _ (fun o h => by have := (hA o).1 h; omega) (by omega) (ih2 (i + d + 1, Lib.itoa (l.getD i 0) ++ ([45] ++ Lib.itoa (l.getD i 0 + d)), f) ⟨by dsimp only; omega, by dsimp only; omega, by dsimp only; simp only [List.length_append, List.length_cons, List.length_nil] at *; omega, fun _ => hnx, by dsimp only; rw [← hq, show i + d + 1 = i + 1 + d from by omega]; simp only [sepL, runTxt, hpos]; simp⟩ (by dsimp only; omega)) (by repeat (first | exact trivial | refine ⟨rfl, ?_⟩)) ⟨by dsimp only; rw [adr_ne hnx]; rfl, trivial⟩ (hLl := by dsimp only; rw [adr_ne hnx]; rfl)
      ·
       have hpos : ¬ 0 < d := by omega
       refine .skip ?_
       refine .inBlock ?_
       refine .region rfl ?_
       refine R.move (h := ?_)
       first | refine R.add (h := ?_) | refine R.addW (h := ?_)
       refine R.assign (h := ?_)
       refine .n0 ?_
       refine .inLoop ?_
       have hnx : (Lib.itoa (l.getD i 0)) ≠ [] := by first | exact hin | simp
       rw [show ((i + d : Nat) : Int) + 1 = ((i + d + 1 : Nat) : Int) from by omega]
       exact LGo.next _ (fun o h => by have := (hA o).1 h; omega) (by omega) (ih2 (i + d + 1, Lib.itoa (l.getD i 0), f) ⟨by dsimp only; omega, by dsimp only; omega, by dsimp only; simp only [List.length_append, List.length_cons, List.length_nil] at *; omega, fun _ => hnx, by dsimp only; rw [← hq, show i + d + 1 = i + 1 + d from by omega]; simp only [sepL, runTxt, hpos]; simp⟩ (by dsimp only; omega)) (by repeat (first | exact trivial | refine ⟨rfl, ?_⟩)) ⟨by dsimp only; rw [adr_ne hnx]; rfl, trivial⟩ (hLl := by dsimp only; rw [adr_ne hnx]; rfl)
     ·
      refine R.callX (es := [_]) [0] (bl1 (c0 :: acc)) (h := ?_)
      refine R.bin (run_gtr _ _ _ _ _ _) (h := ?_)
      refine .n0 ?_
      refine LGo.ifb (ht := fun hc9 => ?_) (hf := fun hc9 => by simp at hc9)
      refine .region rfl ?_
      refine R.callX (es := [_, _]) [0] (wb1 (c0 :: acc) (by omega) 44) (h := ?_)
      refine .n0 ?_
      refine .seq ?_
      refine .region rfl ?_
      refine R.move (h := ?_)
      refine R.callP (es := [_]) (fun _ => itoa_P (l.getD i 0) (by omega) (by omega)) (h := ?_)
      refine R.callX (es := [_, _]) [0] (ws1 ((c0 :: acc) ++ [44]) (by first | omega | (simp only [List.length_append, List.length_cons, List.length_nil] at *; omega)) (Lib.itoa (l.getD i 0)) (by omega)) (h := ?_)
      refine .n0 ?_
      refine .seq ?_
      refine .region rfl ?_
      refine R.move (h := ?_)
      refine R.move (h := ?_)
      refine R.index I57 (e := [.val (.int .i64 (l.getD (i + d) 0))]) (hj := fun hg => ⟨by omega, by rw [Int.toNat_natCast]; exact icD (by omega)⟩) (h := ?_)
      rw [had]
      first | refine R.loadB O3 (h := ?_) | refine R.load1 O3 (h := ?_)
      refine R.move (h := ?_)
      refine R.bin (run_gtr _ _ _ _ _ _) (h := ?_)
      refine .n0 ?_
      refine LGo.ifd (ht := fun hc10 => ?_) (hf := fun hc10 => ?_)
      ·
       have hpos : 0 < d := by omega
       refine .region rfl ?_
       refine R.move (h := ?_)
       refine R.move (h := ?_)
       refine R.index I57 (e := [.val (.int .i64 (l.getD (i + d) 0))]) (hj := fun hg => ⟨by omega, by rw [Int.toNat_natCast]; exact icD (by omega)⟩) (h := ?_)
       rw [had]
       first | refine R.loadB O3 (h := ?_) | refine R.load1 O3 (h := ?_)
       refine R.callP (es := [_]) (fun _ => itoa_P (l.getD i 0 + d) (by omega) (by omega)) (h := ?_)
       refine R.bin (run_addT _ _ _ [45] (Lib.itoa (l.getD i 0 + d)) (by first | omega | (simp only [List.length_cons, List.length_nil]; omega))) (h := ?_)
       refine R.callX (es := [_, _]) [0] (ws1 ((c0 :: acc) ++ [44] ++ Lib.itoa (l.getD i 0)) (by first | omega | (simp only [List.length_append, List.length_cons, List.length_nil] at *; omega)) ([45] ++ Lib.itoa (l.getD i 0 + d)) (by first | omega | (simp only [List.length_append, List.length_cons, List.length_nil] at *; omega))) (h := ?_)
       refine .n0 ?_
       refine .inBlock ?_
       refine .region rfl ?_
       refine R.move (h := ?_)
       first | refine R.add (h := ?_) | refine R.addW (h := ?_)
       refine R.assign (h := ?_)
       refine .n0 ?_
       refine .inLoop ?_
       have hnx : ((c0 :: acc) ++ [44] ++ Lib.itoa (l.getD i 0) ++ ([45] ++ Lib.itoa (l.getD i 0 + d))) ≠ [] := by first | exact hin | simp
       rw [show ((i + d : Nat) : Int) + 1 = ((i + d + 1 : Nat) : Int) from by omega]
       exact LGo.next _ (fun o h => by have := (hA o).1 h; omega) (by omega) (ih2 (i + d + 1, (c0 :: acc) ++ [44] ++ Lib.itoa (l.getD i 0) ++ ([45] ++ Lib.itoa (l.getD i 0 + d)), f) ⟨by dsimp only; omega, by dsimp only; omega, by dsimp only; simp only [List.length_append, List.length_cons, List.length_nil] at *; omega, fun _ => hnx, by dsimp only; rw [← hq, show i + d + 1 = i + 1 + d from by omega]; simp only [sepL, runTxt, hpos]; simp⟩ (by dsimp only; omega)) (by repeat (first | exact trivial | refine ⟨rfl, ?_⟩)) ⟨by dsimp only; rw [adr_ne hnx]; rfl, trivial⟩ (hLl := by dsimp only; rw [adr_ne hnx]; rfl)
      ·
       have hpos : ¬ 0 < d := by omega
       refine .skip ?_
       refine .inBlock ?_
       refine .region rfl ?_
       refine R.move (h := ?_)
       first | refine R.add (h := ?_) | refine R.addW (h := ?_)
       refine R.assign (h := ?_)
       refine .n0 ?_
       refine .inLoop ?_
       have hnx : ((c0 :: acc) ++ [44] ++ Lib.itoa (l.getD i 0)) ≠ [] := by first | exact hin | simp
       rw [show ((i + d : Nat) : Int) + 1 = ((i + d + 1 : Nat) : Int) from by omega]
       exact LGo.next _ (fun o h => by have := (hA o).1 h; omega) (by omega) (ih2 (i + d + 1, (c0 :: acc) ++ [44] ++ Lib.itoa (l.getD i 0), f) ⟨by dsimp only; omega, by dsimp only; omega, by dsimp only; simp only [List.length_append, List.length_cons, List.length_nil] at *; omega, fun _ => hnx, by dsimp only; rw [← hq, show i + d + 1 = i + 1 + d from by omega]; simp only [sepL, runTxt, hpos]; simp⟩ (by dsimp only; omega)) (by repeat (first | exact trivial | refine ⟨rfl, ?_⟩)) ⟨by dsimp only; rw [adr_ne hnx]; rfl, trivial⟩ (hLl := by dsimp only; rw [adr_ne hnx]; rfl)
   ·
    refine .exit rfl ?_
    refine .seq ?_
    refine .block ?_
    refine .seq ?_
    refine .region rfl ?_
    refine R.move (h := ?_)
    refine R.bin (run_neq _ _ _ _ _ _) (h := ?_)
    refine R.assign (h := ?_)
    refine .n0 ?_
    first | refine LGo.ifd (ht := fun hc11 => ?_) (hf := fun hc11 => ?_) | refine LGo.ifb (ht := fun hc11 => ?_) (hf := fun hc11 => ?_)
    ·
     have hde : descK l l.length = true := by
       by_cases h : descK l l.length = true
       · exact h
       · rw [if_neg h] at he; subst he; simp at hc11
     rw [if_pos hde] at e1 he
     subst he
     rw [← e1]
     refine .seq ?_
     refine .region rfl ?_
     refine R.move (h := ?_)
     refine R.assign (h := ?_)
     refine R.assign (h := ?_)
     refine .n0 ?_
     exact LGo.ret (ret_TT Tryd.results45 hA hmd)
    ·
     have hde : ¬ descK l l.length = true := by
       intro h; rw [if_pos h] at he; subst he; simp at hc11
     rw [if_neg hde] at e1 he
     subst he
     have hil : i = l.length := by simp at hc5; omega
     refine .seq ?_
     refine .region rfl ?_
     refine R.move (h := ?_)
     first | refine R.len S57 (h := ?_) | refine R.lenRs S57 (h := ?_) | refine R.lenV (run_lenNil S57) (h := ?_)
     rw [ic_len]
     refine R.bin (run_eql _ _ _ _ _ _) (h := ?_)
     refine R.assign (h := ?_)
     refine .n0 ?_
     first | refine LGo.ifd (ht := fun hc12 => ?_) (hf := fun hc12 => ?_) | refine LGo.ifb (ht := fun hc12 => ?_) (hf := fun hc12 => ?_)
     ·
      rw [if_pos (List.eq_nil_of_length_eq_zero (by omega))] at e1
      rw [← e1]
      refine .seq ?_
      refine .region rfl ?_
      refine R.assign (h := ?_)
      refine R.assign (h := ?_)
      refine .n0 ?_
      exact LGo.ret (ret_TT Tryd.results45 hA hmd)
     ·
      rw [if_neg (by intro h; rw [h] at hc12; simp at hc12)] at e1
      have hne2 := hne (by omega)
      rw [List.drop_of_length_le (by omega)] at hq
      obtain ⟨f, rfl⟩ : ∃ g, f = g + 1 := ⟨f - 1, by omega⟩
      rw [← hq] at e1
      rw [← e1]
      rcases acc with _ | ⟨c0, acc⟩
      · exact absurd rfl hne2
      have hal1 : (c0 :: acc).length ≤ 1000000 := by omega
      refine .skip ?_
      refine .inBlock ?_
      refine .seq ?_
      refine .region rfl ?_
      refine R.callX (es := [_]) [0] (bs1 (c0 :: acc) hne2 hal1) (h := ?_)
      refine R.assign (h := ?_)
      refine R.assign (h := ?_)
      refine .n0 ?_
      exact LGo.ret (ret_TT Tryd.results45 hA hmd)

theorem digitsW_P (n : Int) (h0 : -9223372036854775808 ≤ n) (h1 : n ≤ 9223372036854775807) : PC Tryd.prog 47 [.i n] (.t (Lib.itoa n)) := by
 refine ⟨LC.of_go Tryd.func47 (c := _) rfl (by kernel_rfl) (by rw [Tryd.ntmps47]; simp) rfl rfl (by simp [LO.lt, LV.lts, LV.lt, lts_sv]) (by simp) ?_⟩
 intro B hA hmd
 refine .seq ?_
 refine .region rfl ?_
 refine R.assign (h := ?_)
 refine .n0 ?_
 refine .seq ?_
 refine .region rfl ?_
 refine R.move (h := ?_)
 refine R.callP (es := [_, _]) (fun _ => formatInt_P n h0 h1) (h := ?_)
 refine R.assign (h := ?_)
 refine .n0 ?_
 exact LGo.ret (ret_T Tryd.results47 hA hmd)

end Go.Proofs.YtgcjjndhohellaaDoor
