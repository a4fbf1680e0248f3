/- times: the library's sort, as a contract of this logic. -/
import Derived.Test.YtcekeipkofblmaaDoorC
import Derived.Shelf.SlSortCmp.WholeK
import Derived.Shelf.SlSortCmp.NoneTotal
import Derived.Shelf.SlicesG.Cmp
import Derived.ProofKit
set_option linter.unusedSimpArgs false
set_option linter.unusedVariables false
namespace Go.Proofs.YtcekeipkofblmaaDoor

open Go.Shelf Go.RowKit Go.Lib Go.Sort
def encS (x : Sp) : List Value := [.int .i64 x.1, .int .i64 x.2]
def cmpS (x y : Sp) : Int := Lib.compareInt x.1 y.1
theorem lt_iff (x y : Sp) : ltOf cmpS x y = decide (x.1 < y.1) := by
  unfold ltOf cmpS Lib.compareInt
  by_cases h1 : x.1 < y.1
  · simp [h1]
  · by_cases h2 : y.1 < x.1
    · simp [h1, h2]
    · simp [h1, h2]
theorem swoS : SWO (ltOf cmpS) := by
  refine ⟨fun x => ?_, fun x y z h1 h2 => ?_, fun x y z h1 h2 => ?_⟩ <;> simp only [lt_iff, decide_eq_true_eq, decide_eq_false_iff_not] at * <;> omega
def sortS (l : List Sp) : List Sp := (pdq (ltOf cmpS) l.toArray 0 l.length (Lib.bitLen l.length) true true).toList
theorem sortS_facts (l : List Sp) : (sortS l).Perm l ∧ (sortS l).Pairwise (fun x y => x.1 ≤ y.1) := by
  have h := pdq_sorts (ltOf cmpS) swoS l.toArray 0 l.length (Lib.bitLen l.length) true true (Nat.zero_le _) (by simp) (Or.inl rfl)
  unfold sortS
  generalize pdq (ltOf cmpS) l.toArray 0 l.length (Lib.bitLen l.length) true true = d at h
  obtain ⟨⟨h1, _, h2⟩, h3⟩ := h
  have hs : d.size = l.length := by simpa using h1
  constructor
  · have e1 : d.extract 0 l.length = d := by rw [← hs]; simp
    rw [e1] at h2
    simpa using h2
  · rw [List.pairwise_iff_getElem]
    intro i j hi hj hij
    have := h3 i j (Nat.zero_le _) hij (by rw [← hs]; simpa using hj)
    rw [lt_iff] at this
    have hi' : i < d.size := by simpa using hi
    have hj' : j < d.size := by simpa using hj
    rw [getElem!_pos d i hi', getElem!_pos d j hj'] at this
    simp only [decide_eq_false_iff_not] at this
    simp only [Array.getElem_toList]
    omega
theorem sortS_len (l : List Sp) : (sortS l).length = l.length := (sortS_facts l).1.length_eq
set_option maxHeartbeats 1000000 in
theorem closureS (x y : Sp) (W : World) : Calls Tryd.prog 52 #[.agg #[.int .i64 x.1, .int .i64 x.2], .agg #[.int .i64 y.1, .int .i64 y.2]] W fun e w' => e = .returned (.int .i64 (Lib.compareInt x.1 y.1)) ∧ ∃ q os', w' = grow (W.drewN q) os' := by
  have hcon := fun W' => AnyG.cmp_Compare_int Tryd.cmpInt x.1 y.1 W'
  change ∀ W', Calls Tryd.prog 53 _ _ _ at hcon
  generalize Lib.compareInt x.1 y.1 = r at hcon ⊢
  go_enter Tryd.func52, Tryd.ntmps52
  go_wp2_with (go_at_call 53; refine (hcon _).mono ?_; rintro e w' ⟨rfl, rfl⟩)
  go_ret
  exact ⟨rfl, 0, _, by rw [alloc_eq_grow, alloc_eq_grow, grow_grow]; rfl⟩
theorem vs_sps {cx : Cx} {w : World} : ∀ (l : List Sp) (us : List Value), Vs cx w ((spsC l).flatten.map LV.sv) us → us = l.flatMap encS
  | [], us, h => by simpa [spsC, Vs] using h
  | x :: l, us, h => by
    simp only [spsC, List.map_cons, List.flatten_cons, spC, List.cons_append, List.nil_append, List.map_cons, Vs] at h
    obtain ⟨a, _, rfl, h1, b, r, rfl, h2, h3⟩ := h
    have := vs_sps l r (by simpa [spsC] using h3)
    subst this
    rw [h1.val, h2.val]
    simp [encS]
theorem vs_of_sps {cx : Cx} {w : World} : ∀ (l : List Sp), Vs cx w ((spsC l).flatten.map LV.sv) (l.flatMap encS)
  | [] => by simp [spsC, Vs]
  | x :: l => by
    have := vs_of_sps (cx := cx) (w := w) l
    simp only [spsC, List.map_cons, List.flatten_cons, spC, List.cons_append, List.nil_append, List.map_cons, Vs, List.flatMap_cons, encS]
    exact ⟨_, _, rfl, V.mkval, _, _, rfl, V.mkval, by simpa [spsC] using this⟩
theorem flat_at : ∀ (l : List Sp) (j : Nat), j < l.length * 2 → (l.flatMap encS)[j]? = (encS (l.getD (j / 2) (0, 0)))[j % 2]?
  | [], j, h => by simp at h
  | x :: l, 0, _ => by simp [encS]
  | x :: l, 1, _ => by simp [encS]
  | x :: l, j + 2, h => by
    have ih := flat_at l j (by simp at h; omega)
    rw [List.flatMap_cons]
    show ((encS x) ++ l.flatMap encS)[j + 2]? = _
    rw [List.getElem?_append_right (by simp [encS]), show j + 2 - (encS x).length = j from by simp [encS], ih, show (j + 2) / 2 = j / 2 + 1 from by omega, show (j + 2) % 2 = j % 2 from by omega]
    rfl
theorem flat_len2 : ∀ (l : List Sp), (l.flatMap encS).length = l.length * 2
  | [] => rfl
  | x :: l => by rw [List.flatMap_cons, List.length_append, flat_len2 l]; simp [encS]; omega
theorem flatK_at (l : List Sp) (j : Nat) (h : j < l.length * 2) : (l.flatMap encS)[j]? = some (flatK encS 2 l.toArray)[j]! := by
  rw [flat_at l j h, get_flatK _ _ _ _ (by simpa using h)]
  have h1 : j / 2 < l.length := by omega
  have e : l.toArray[j / 2]! = l.getD (j / 2) (0, 0) := by
    rw [getElem!_pos _ _ (by simpa using h1)]
    simp [h1]
  rw [e]
  generalize l.getD (j / 2) (0, 0) = x
  have : j % 2 = 0 ∨ j % 2 = 1 := by omega
  rcases this with h | h <;> rw [h] <;> rfl

theorem sort_L (T : Nat) (l : List Sp) (hl : l.length ≤ 100000) : LC Tryd.prog 60 1 [.ref 0, .fn (.func 52) [] []] [(0, .rs T 2 (spsC l))] (.tup []) [(0, .rs T 2 (spsC (sortS l)))] 0 := by
  refine ⟨Entr.of Tryd.func60 rfl (by kernel_rfl), by simp [LV.lts, LV.lt], rfl, by simp [LO.lt], by simp, fun cx w vs hA hok ham hv => ?_⟩
  obtain ⟨rfl, hA0⟩ : vs = [cx.loc 0, .func (.func 52) #[] #[]] ∧ cx.A 0 := by
    simp only [Vs, V] at hv
    obtain ⟨v1, _, rfl, ⟨h1, h2, h3⟩, v2, _, rfl, ⟨us, ws, rfl, rfl, rfl⟩, rfl⟩ := hv
    exact ⟨by rw [h2], h1⟩
  have hob : hp [(0, LO.rs T 2 (spsC l))] 0 = some (.rs T 2 (spsC l)) := rfl
  obtain ⟨_, hsz, us, hown, hus, hones⟩ := hok.ok 0 _ hob
  have hval := vs_sps l us hus
  subst hval
  have one : ∀ (z : LO) k y, hp [(0, z)] k = some y → k = 0 ∧ y = z := by
    intro z k y hy
    simp only [hp, List.lookup_cons] at hy
    split at hy
    · rename_i hh; simp at hh; cases hy; exact ⟨hh, rfl⟩
    · simp at hy
  rcases hown.2 with ⟨e1, e2⟩ | ⟨gb, cap, cur, e1, _, e2, e3, e4, e5, e6⟩
  · have hl0 : l = [] := List.eq_nil_of_length_eq_zero (by simpa [spsC] using e2)
    subst hl0
    have hs0 : sortS [] = [] := List.eq_nil_of_length_eq_zero (by rw [sortS_len]; rfl)
    rw [hs0, e1]
    have hn := AnyF.slices_SortFunc_none Tryd.sortSp none 0 (.func (.func 52) #[] #[]) w
    change Calls Tryd.prog 60 _ _ _ at hn
    refine hn.mono ?_
    rintro e w' ⟨rfl, rfl⟩
    refine ⟨_, cx, rfl, ⟨CxLe.refl _, fun o => ?_, Grow.refl _ _ _, ⟨hok.ok, fun o x b hx hb => ?_, hok.inj, hok.lim⟩, fun _ _ _ => rfl⟩, by simp [V, Vs]⟩
    · constructor
      · exact .inl
      · rintro (h | h)
        · exact h
        · omega
    · obtain ⟨h1, h2, _⟩ := hok.own o x b hx hb
      exact ⟨h1, h2, .inr ⟨o, x, hx, hb⟩⟩
  · have hbk : bk (cx.loc 0) = some gb := by rw [e1]; rfl
    obtain ⟨hpr, hlt, _⟩ := hok.own 0 _ gb hob (.inl hbk)
    have hcl : l.length * 2 ≤ cur.size := by rw [e5]; rw [spsC_length] at e3; exact Nat.mul_le_mul_right _ e3
    have hH : HoldsK encS 2 w gb 0 l.toArray := by
      intro j hj
      have hj' : j < l.length * 2 := by simpa using hj
      have h1 := flatK_at l j hj'
      rw [← e6, spsC_length, List.getElem?_take, if_pos hj'] at h1
      have hjc : j < cur.size := by omega
      refine ⟨?_, by simp [World.frozen?, e2]⟩
      rw [Nat.zero_add]
      simp only [World.cell?, e2]
      simpa using h1
    have hs := AnyQ.slices_SortFunc_eq Tryd.sortSp 2 Tryd.isAgg43 Tryd.sizeOf43 encS (fun _ => rfl) (fun x v hv => by simp [encS] at hv; rcases hv with rfl | rfl <;> rfl) cmpS swoS 52 #[] gb 0 cap l.toArray w
      (Entr.of Tryd.func52 rfl (by kernel_rfl)) (fun _ _ _ _ x y => closureS x y _) hH hlt (by simp; omega)
    change Calls Tryd.prog 60 _ _ _ at hs
    rw [e1, spsC_length]
    simp only [List.size_toArray] at hs
    refine hs.mono ?_
    rintro e w' ⟨rfl, n, os, rfl⟩
    have hds : (pdq (ltOf cmpS) l.toArray 0 l.length (Lib.bitLen l.length) true true) = (sortS l).toArray := by unfold sortS; simp
    rw [hds]
    have hsl := sortS_len l
    generalize hq : sortS l = q at hsl
    have hfc : (flatK encS 2 q.toArray).size = q.length * 2 := by simp
    have hgb : (sortWorldK encS 2 w gb 0 n q.toArray os).heap[gb]? = some (.cells (putCells id 0 (flatK encS 2 q.toArray) cur) T (0, 0)) := by
      unfold sortWorldK putRowK putRow
      rw [heap_grow_old _ _ (by simp [mapBlock, Sort.ahead]; exact hlt)]
      simp [mapBlock, Sort.ahead, Array.getElem?_modify, e2, onCells]
    have hoth : ∀ k, k < w.heap.size → k ≠ gb → (sortWorldK encS 2 w gb 0 n q.toArray os).heap[k]? = w.heap[k]? := by
      intro k hk hne
      unfold sortWorldK putRowK putRow
      rw [heap_grow_old _ _ (by simp [mapBlock, Sort.ahead]; exact hk)]
      simp [mapBlock, Sort.ahead, Array.getElem?_modify, Ne.symm hne]
    have hsize : w.heap.size ≤ (sortWorldK encS 2 w gb 0 n q.toArray os).heap.size := by
      unfold sortWorldK putRowK putRow
      rw [size_grow]
      simp [mapBlock, Sort.ahead]
    have hext : Ext cx.pr w cx.pr (sortWorldK encS 2 w gb 0 n q.toArray os) := fun b off ho => by
      refine ⟨ho, ?_⟩
      have hb := hok.lim b (by omega)
      have hne : b ≠ gb := by rintro rfl; omega
      simp only [World.cell?, hoth b hb hne]
    have hblk : blks cx (hp [(0, LO.rs T 2 (spsC l))]) gb := ⟨0, _, hob, .inl hbk⟩
    refine ⟨_, cx, rfl, ⟨CxLe.refl _, fun o => ?_, ⟨rfl, rfl, rfl, hsize, fun b hb hn => hoth b hb (fun hh => hn (hh ▸ hblk)), fun _ _ _ => rfl, hext⟩, ⟨fun o x hx => ?_, fun o x b hx hb => ?_, fun o o' x x' b hne hx hx' => ?_, fun b hb => Nat.lt_of_lt_of_le (hok.lim b hb) hsize⟩, fun _ _ _ => rfl⟩, by simp [V, Vs]⟩
    · constructor
      · exact .inl
      · rintro (h | h)
        · exact h
        · omega
    · obtain ⟨rfl, rfl⟩ := one _ _ _ hx
      refine ⟨hA0, ?_⟩
      refine ⟨fun e he => (by obtain ⟨x, _, rfl⟩ := List.mem_map.1 he; rfl), q.flatMap encS, ⟨by rw [flat_len2, spsC_length], .inr ⟨gb, cap, _, by rw [e1, spsC_length, spsC_length, hsl], Nat.zero_le _, hgb, by rw [spsC_length, hsl]; rwa [spsC_length] at e3, e4, by rw [← e5]; simp [putCells], ?_⟩⟩, vs_of_sps q, ?_⟩
      · rw [spsC_length]
        apply List.ext_getElem?
        intro j
        rw [List.getElem?_take]
        split
        · rename_i hj
          rw [flatK_at q j hj]
          have hjc : j < cur.size := by omega
          simp [putCells, hjc, hj]
        · rename_i hj
          rw [List.getElem?_eq_none (by rw [flat_len2]; omega)]
      · intro u hu
        obtain ⟨x, _, hx⟩ := List.mem_flatMap.1 hu
        simp [encS] at hx
        rcases hx with rfl | rfl <;> rfl
    · obtain ⟨rfl, rfl⟩ := one _ _ _ hx
      rw [Cx.has_of rfl, hbk] at hb
      cases hb
      exact ⟨hpr, Nat.lt_of_lt_of_le hlt hsize, .inr hblk⟩
    · obtain ⟨rfl, rfl⟩ := one _ _ _ hx
      obtain ⟨rfl, rfl⟩ := one _ _ _ hx'
      exact absurd rfl hne

end Go.Proofs.YtcekeipkofblmaaDoor
