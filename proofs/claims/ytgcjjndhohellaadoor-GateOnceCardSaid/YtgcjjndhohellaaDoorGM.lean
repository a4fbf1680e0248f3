/- gates: the library's sort, as a contract of this logic. -/
import Derived.Test.YtgcjjndhohellaaDoorGL
import Derived.Test.YtgcjjndhohellaaDoorL
import Derived.Shelf.SlSortCmp.WholeK
import Derived.Shelf.SlSortCmp.NoneTotal
import Derived.Shelf.SlicesG.Cmp
import Derived.ProofKit
import Derived.Deep.LoopGhost
import Derived.Deep.RegionHeld3
import Derived.Deep.DrawnRows
set_option linter.unusedSimpArgs false
set_option linter.unusedVariables false
namespace Go.Proofs.YtgcjjndhohellaaDoor

open Go.Shelf Go.RowKit Go.Lib Go.Sort
def keyW (x : GtE) : K3 := (IntKind.u64.wrap x.seat, x.epoch, x.serial)
set_option maxHeartbeats 1000000 in
theorem keyOf_C (x : GtE) (W : World) : Calls Tryd.prog 39 #[.agg #[.int .u32 x.seat, .int .u64 x.serial, .int .u64 x.epoch, .int .i64 x.gate, .int .i64 x.time]] W fun e w' => e = .returned (.agg (K3.v (keyW x)).toArray) ∧ ∃ q os', w' = grow (W.drewN q) os' := by
  go_enter Tryd.func39, Tryd.ntmps39
  go_wp2
  refine bodyPost_ret (v := .agg (K3.v (keyW x)).toArray) (by simp [results, Tryd.results39, go_sem, K3.v, keyW]) rfl ?_
  exact ⟨rfl, 0, _, by rw [alloc_eq_grow, alloc_eq_grow, grow_grow]; rfl⟩
set_option maxHeartbeats 1000000 in
theorem isNaN_C (a : Int) (W : World) : Calls Tryd.prog 94 #[.int .u64 a] W fun e w' => e = .returned (.bool false) ∧ w' = W := by
  go_enter Tryd.func94, Tryd.ntmps94
  go_wp2
  go_ret
  simp
set_option maxHeartbeats 1000000 in
theorem cmpI_C (a b : Int) (W : World) : Calls Tryd.prog 75 #[.int .u64 a, .int .u64 b] W fun e w' => e = .returned (.int .i64 (cmpI a b)) ∧ w' = W := by
  have hn := isNaN_C
  obtain ⟨r, hr⟩ : ∃ r, cmpI a b = r := ⟨_, rfl⟩
  rw [hr]
  unfold cmpI at hr
  go_enter Tryd.func75, Tryd.ntmps75
  go_wp2_with (go_at_call 94; refine (hn _ _).mono ?_; rintro e w' ⟨rfl, rfl⟩)
  all_goals
    go_ret
    refine ⟨?_, rfl⟩
    rw [← hr]
    congr 2
    (repeat' split) <;> first | rfl | omega
set_option maxHeartbeats 2000000 in
theorem cmpL_C (l m : List Int) (b1 b2 : Nat) (W : World) (hl : l.length ≤ 1000) (hm : m.length ≤ 1000) (h1 : ∀ i (h : i < l.length), W.cell? ⟨b1, i, none⟩ = some (.int .u64 l[i])) (h2 : ∀ i (h : i < m.length), W.cell? ⟨b2, i, none⟩ = some (.int .u64 m[i])) :
    Calls Tryd.prog 58 #[.slice (some ⟨b1, 0, none⟩) l.length l.length, .slice (some ⟨b2, 0, none⟩) m.length m.length] W fun e w' => e = .returned (.int .i64 (cmpL l m)) ∧ w' = W := by
  have hc := cmpI_C
  obtain ⟨r, hr⟩ : ∃ r, cmpL l m = r := ⟨_, rfl⟩
  rw [hr]
  go_enter Tryd.func58, Tryd.ntmps58
  go_wp2
  go_loopg [11] l.length (fun k s11 wr => ∃ i : Nat, s11 = .int .i64 i ∧ wr = W ∧ i ≤ l.length ∧ i ≤ m.length ∧ l.length - i ≤ k ∧ cmpL (l.drop i) (m.drop i) = r)
  case atStart => exact ⟨0, rfl, rfl, Nat.zero_le _, Nat.zero_le _, by omega, by simpa using hr⟩
  case round =>
    obtain ⟨i, rfl, rfl, hi1, hi2, hk, hq⟩ := hrel
    by_cases hlt : (i : Int) < (l.length : Int)
    · have hc1 := h1 i (by omega)
      have d1 : l.drop i = l[i]'(by omega) :: l.drop (i + 1) := List.drop_eq_getElem_cons (by omega)
      by_cases hlt2 : (m.length : Int) ≤ (i : Int)
      · rw [d1, List.drop_eq_nil_of_le (show m.length ≤ i by omega), cmpL] at hq
        clear h1 h2
        subst hq
        go_wp2
        all_goals go_ret
        exact ⟨rfl, rfl⟩
      · have hc2 := h2 i (by omega)
        have d2 : m.drop i = m[i]'(by omega) :: m.drop (i + 1) := List.drop_eq_getElem_cons (by omega)
        rw [d1, d2, cmpL] at hq
        clear h1 h2 d1 d2
        generalize l[i]'(by omega) = p at hc1 hq
        generalize m[i]'(by omega) = q at hc2 hq
        have hcc := hc p q
        generalize cmpI p q = z at hcc hq
        go_wp2_with (go_at_call 75; refine (hcc _).mono ?_; rintro e w' ⟨rfl, rfl⟩)
        · rename_i hz
          rw [if_neg (by simpa using hz)] at hq
          go_ret
          subst hq
          exact ⟨rfl, rfl⟩
        · rename_i hz
          rw [if_pos (by simpa using hz)] at hq
          go_roundg (l.length - (i + 1))
          case measure => omega
          case rel => exact ⟨i + 1, rfl, rfl, by omega, by omega, by omega, hq⟩
    · rw [List.drop_eq_nil_of_le (show l.length ≤ i by omega)] at hq
      clear h1 h2
      go_wp2
      · rename_i hz _
        rw [List.drop_eq_getElem_cons (show i < m.length by omega), cmpL] at hq
        subst hq
        go_ret
        exact ⟨rfl, rfl⟩
      · rename_i hz _
        rw [List.drop_eq_nil_of_le (show m.length ≤ i by omega), cmpL] at hq
        subst hq
        go_ret
        exact ⟨rfl, rfl⟩

theorem cells3 {W : World} {b : Nat} {x y z : Int} (h0 : W.cell? ⟨b, 0, none⟩ = some (.int .u64 x)) (h1 : W.cell? ⟨b, 1, none⟩ = some (.int .u64 y)) (h2 : W.cell? ⟨b, 2, none⟩ = some (.int .u64 z)) :
    ∀ i (h : i < [x, y, z].length), W.cell? ⟨b, i, none⟩ = some (.int .u64 [x, y, z][i])
  | 0, _ => h0
  | 1, _ => h1
  | 2, _ => h2
set_option maxHeartbeats 2000000 in
theorem before_C (a b : K3) (W : World) : Calls Tryd.prog 38 #[.agg (K3.v a).toArray, .agg (K3.v b).toArray] W fun e w' => e = .returned (.int .i64 (cmpK a b)) ∧ ∃ q os', w' = grow (W.drewN q) os' := by
  have hc := cmpL_C [a.1, a.2.1, a.2.2] [b.1, b.2.1, b.2.2]
  rw [cmpL_K] at hc
  generalize cmpK a b = r at hc ⊢
  obtain ⟨a1, a2, a3⟩ := a
  obtain ⟨b1, b2, b3⟩ := b
  simp only [K3.v] at hc ⊢
  have hs : ∀ (b : Nat) (W : World), (Instr.sliceAt 69 (.pointer (some ⟨b, 0, none⟩)) none none none).run Tryd.prog W = .ok (.slice (some ⟨b, 0, none⟩) 3 3) W := fun b W => by
    obtain ⟨e, hu, hz⟩ := AR69
    have hadd : (⟨b, 0, none⟩ : Addr).add 0 = ⟨b, 0, none⟩ := rfl
    simp [Instr.sliceAt, hu W, Instr.sureAddr, Instr.sliceBounds, hz W, hadd]
  go_enter Tryd.func38, Tryd.ntmps38
  go_wp2
  go_region_held3 (fun w' => w'.cell? ⟨W.heap.size, 0, none⟩ = some (.int .u64 a1) ∧ w'.cell? ⟨W.heap.size, 1, none⟩ = some (.int .u64 a2) ∧ w'.cell? ⟨W.heap.size, 2, none⟩ = some (.int .u64 a3) ∧ w'.cell? ⟨W.heap.size + 1, 0, none⟩ = some (.int .u64 b1) ∧ w'.cell? ⟨W.heap.size + 1, 1, none⟩ = some (.int .u64 b2) ∧ w'.cell? ⟨W.heap.size + 1, 2, none⟩ = some (.int .u64 b3)) (go_keep)
    (first | (go_at_call 58; refine (hc _ _ _ (by simp) (by simp) (cells3 (by go_keep) (by go_keep) (by go_keep)) (cells3 (by go_keep) (by go_keep) (by go_keep))).mono ?_; rintro e w' ⟨rfl, rfl⟩))
  go_wp2
  go_ret
  exact ⟨rfl, 1, #[_, _], by rw [alloc_eq_grow, alloc_eq_grow, grow_grow]; rfl⟩
def encS (x : GtE) : List Value := [.int .u32 x.seat, .int .u64 x.serial, .int .u64 x.epoch, .int .i64 x.gate, .int .i64 x.time]
def cmpS (x y : GtE) : Int := cmpK (keyW x) (keyW y)
def Gw (W w' : World) : Prop := ∃ q os', w' = grow (W.drewN q) os'
theorem Gw.cell {W w' : World} (g : Gw W w') {a : Addr} {v : Value} (h : W.cell? a = some v) : w'.cell? a = some v := by
  obtain ⟨q, os, rfl⟩ := g
  rw [cell?_grow _ _ _ (by
    simp only [World.cell?] at h
    split at h
    · rename_i hb; exact (Array.getElem?_eq_some_iff.1 hb).1
    · cases h)]
  exact h
theorem Gw.trans {W w' w'' : World} (g : Gw W w') (h : Gw w' w'') : Gw W w'' := by
  obtain ⟨q, os, rfl⟩ := g
  obtain ⟨q', os', rfl⟩ := h
  exact ⟨q + q', os ++ os', by rw [show (grow (W.drewN q) os).drewN q' = grow ((W.drewN q).drewN q') os from rfl, grow_grow, World.drewN_drewN]⟩
theorem Gw.alloc (W : World) (o : Obj) : Gw W (W.alloc o) := ⟨0, #[o], alloc_eq_grow W o⟩
theorem Gw.drew (W : World) : Gw W W.drew := ⟨1, #[], (grow_empty _).symm⟩
set_option maxHeartbeats 1000000 in
theorem closureS (x y : GtE) (W : World) : Calls Tryd.prog 57 #[.agg (encS x).toArray, .agg (encS y).toArray] W fun e w' => e = .returned (.int .i64 (cmpS x y)) ∧ Gw W w' := by
  have hk : ∀ (a b c d e : Int) W, Calls Tryd.prog 39 #[.agg #[.int .u32 a, .int .u64 b, .int .u64 c, .int .i64 d, .int .i64 e]] W fun e' w' => e' = .returned (.agg #[.int .u64 (IntKind.u64.wrap a), .int .u64 c, .int .u64 b]) ∧ Gw W w' := fun a b c d e W => keyOf_C ⟨a, b, c, d, e⟩ W
  have h3 : ∀ W, Calls Tryd.prog 38 #[.agg (K3.v (keyW x)).toArray, .agg (K3.v (keyW y)).toArray] W fun e w' => e = .returned (.int .i64 (cmpK (keyW x) (keyW y))) ∧ Gw W w' := before_C (keyW x) (keyW y)
  unfold cmpS
  generalize cmpK (keyW x) (keyW y) = r at h3 ⊢
  simp only [K3.v, encS, keyW] at h3 ⊢
  generalize IntKind.u64.wrap = f at hk h3
  go_enter Tryd.func57, Tryd.ntmps57
  go_wp2
  go_region_held3 (fun w' => w'.cell? ⟨W.heap.size, 0, none⟩ = some (.int .u32 x.seat) ∧ w'.cell? ⟨W.heap.size, 1, none⟩ = some (.int .u64 x.serial) ∧ w'.cell? ⟨W.heap.size, 2, none⟩ = some (.int .u64 x.epoch) ∧ w'.cell? ⟨W.heap.size, 3, none⟩ = some (.int .i64 x.gate) ∧ w'.cell? ⟨W.heap.size, 4, none⟩ = some (.int .i64 x.time) ∧ w'.cell? ⟨W.heap.size + 1, 0, none⟩ = some (.int .u32 y.seat) ∧ w'.cell? ⟨W.heap.size + 1, 1, none⟩ = some (.int .u64 y.serial) ∧ w'.cell? ⟨W.heap.size + 1, 2, none⟩ = some (.int .u64 y.epoch) ∧ w'.cell? ⟨W.heap.size + 1, 3, none⟩ = some (.int .i64 y.gate) ∧ w'.cell? ⟨W.heap.size + 1, 4, none⟩ = some (.int .i64 y.time)) (first | (go_split_ands; refine ⟨?_, ?_, ?_, ?_, ?_, ?_, ?_, ?_, ?_, ?_⟩ <;> first | assumption | exact Gw.cell (by assumption) (by assumption) | go_keep))
    (first | (go_at_call 39; refine (hk _ _ _ _ _ _).mono ?_; rintro e w' ⟨rfl, g1⟩) | (go_at_call 38; refine (h3 _).mono ?_; rintro e w' ⟨rfl, g3⟩))
  go_wp2
  go_ret
  rename_i _ ga _ _
  exact ⟨rfl, (((((Gw.alloc _ _).trans (Gw.alloc _ _)).trans (Gw.drew _)).trans ga).trans g1).trans g3⟩
instance (a b : K3) : Decidable (ltK a b) := by unfold ltK; infer_instance
theorem lt_iff (x y : GtE) : ltOf cmpS x y = decide (ltK (keyW x) (keyW y)) := by
  unfold ltOf cmpS
  rw [Bool.eq_iff_iff, decide_eq_true_eq, decide_eq_true_eq, cmpK_lt]
theorem swoS : SWO (ltOf cmpS) := by
  refine ⟨fun x => ?_, fun x y z h1 h2 => ?_, fun x y z h1 h2 => ?_⟩ <;> simp only [lt_iff, decide_eq_true_eq, decide_eq_false_iff_not] at * <;> unfold ltK at * <;> omega
def sortS (l : List GtE) : List GtE := (pdq (ltOf cmpS) l.toArray 0 l.length (Lib.bitLen l.length) true true).toList
theorem sortS_facts (l : List GtE) : (sortS l).Perm l ∧ (sortS l).Pairwise (fun x y => ¬ ltK (keyW y) (keyW x)) := by
  have h := pdq_sorts (ltOf cmpS) swoS l.toArray 0 l.length (Lib.bitLen l.length) true true (Nat.zero_le _) (by simp) (Or.inl rfl)
  unfold sortS
  generalize pdq (ltOf cmpS) l.toArray 0 l.length (Lib.bitLen l.length) true true = d at h
  obtain ⟨⟨h1, _, h2⟩, h3⟩ := h
  have hs : d.size = l.length := by simpa using h1
  constructor
  · have e1 : d.extract 0 l.length = d := by rw [← hs]; simp
    rw [e1] at h2
    simpa using h2
  · rw [List.pairwise_iff_getElem]
    intro i j hi hj hij
    have := h3 i j (Nat.zero_le _) hij (by rw [← hs]; simpa using hj)
    rw [lt_iff] at this
    have hi' : i < d.size := by simpa using hi
    have hj' : j < d.size := by simpa using hj
    rw [getElem!_pos d i hi', getElem!_pos d j hj'] at this
    simp only [decide_eq_false_iff_not] at this
    simp only [Array.getElem_toList]
    exact this
theorem sortS_len (l : List GtE) : (sortS l).length = l.length := (sortS_facts l).1.length_eq
theorem vs_ents {cx : Cx} {w : World} : ∀ (l : List GtE) (us : List Value), Vs cx w ((l.map GtE.c).flatten.map LV.sv) us → us = l.flatMap encS
  | [], us, h => by simpa [Vs] using h
  | x :: l, us, h => by
    simp only [List.map_cons, List.flatten_cons, GtE.c, List.cons_append, List.nil_append, List.map_cons, Vs] at h
    obtain ⟨a1, _, rfl, h1, a2, _, rfl, h2, a3, _, rfl, h3, a4, _, rfl, h4, a5, r, rfl, h5, h6⟩ := h
    have := vs_ents l r h6
    subst this
    rw [h1.val, h2.val, h3.val, h4.val, h5.val]
    simp [encS]
theorem vs_of_ents {cx : Cx} {w : World} : ∀ (l : List GtE), Vs cx w ((l.map GtE.c).flatten.map LV.sv) (l.flatMap encS)
  | [] => by simp [Vs]
  | x :: l => by
    have := vs_of_ents (cx := cx) (w := w) l
    simp only [List.map_cons, List.flatten_cons, GtE.c, List.cons_append, List.nil_append, List.map_cons, Vs, List.flatMap_cons, encS]
    exact ⟨_, _, rfl, V.mkval, _, _, rfl, V.mkval, _, _, rfl, V.mkval, _, _, rfl, V.mkval, _, _, rfl, V.mkval, this⟩
theorem flat_at : ∀ (l : List GtE) (j : Nat), j < l.length * 5 → (l.flatMap encS)[j]? = (encS (l.getD (j / 5) default))[j % 5]?
  | [], j, h => by simp at h
  | x :: l, 0, _ => by simp [encS]
  | x :: l, 1, _ => by simp [encS]
  | x :: l, 2, _ => by simp [encS]
  | x :: l, 3, _ => by simp [encS]
  | x :: l, 4, _ => by simp [encS]
  | x :: l, j + 5, h => by
    have ih := flat_at l j (by simp at h; omega)
    rw [List.flatMap_cons]
    show ((encS x) ++ l.flatMap encS)[j + 5]? = _
    rw [List.getElem?_append_right (by simp [encS]), show j + 5 - (encS x).length = j from by simp [encS], ih, show (j + 5) / 5 = j / 5 + 1 from by omega, show (j + 5) % 5 = j % 5 from by omega]
    rfl
theorem flat_len5 : ∀ (l : List GtE), (l.flatMap encS).length = l.length * 5
  | [] => rfl
  | x :: l => by rw [List.flatMap_cons, List.length_append, flat_len5 l]; simp [encS]; omega
theorem flatK_at (l : List GtE) (j : Nat) (h : j < l.length * 5) : (l.flatMap encS)[j]? = some (flatK encS 5 l.toArray)[j]! := by
  rw [flat_at l j h, get_flatK _ _ _ _ (by simpa using h)]
  have h1 : j / 5 < l.length := by omega
  have e : l.toArray[j / 5]! = l.getD (j / 5) default := by
    rw [getElem!_pos _ _ (by simpa using h1)]
    simp [h1]
  rw [e]
  generalize l.getD (j / 5) default = x
  have : j % 5 = 0 ∨ j % 5 = 1 ∨ j % 5 = 2 ∨ j % 5 = 3 ∨ j % 5 = 4 := by omega
  rcases this with h | h | h | h | h <;> rw [h] <;> rfl
theorem sortS_E {l : List GtE} (hd : DistK l) (ho : ∀ x ∈ l, U32 x.seat) : sortS l = sortE l := by
  obtain ⟨h1, h2⟩ := sortS_facts l
  have hk : ∀ x ∈ l, keyW x = x.key := fun x hx => by
    have := ho x hx
    unfold U32 at this
    unfold keyW GtE.key
    rw [show IntKind.u64.wrap x.seat = x.seat from by rw [IntKind.wrap_u64]; omega]
  have hm : ∀ x ∈ sortS l, x ∈ l := fun x hx => h1.mem_iff.1 hx
  refine sort_uniq ?_ (sortE_sort hd) (h1.trans (sortE_perm l).symm)
  have hd' : DistK (sortS l) := h1.symm.pairwise hd (fun h => Ne.symm h)
  unfold SortK
  refine List.Pairwise.imp_of_mem ?_ (h2.and hd')
  rintro x y hx hy ⟨a, b⟩
  rw [hk x (hm x hx), hk y (hm y hy)] at a
  rcases ltK_tot b with h | h
  · exact h
  · exact absurd h a
set_option maxHeartbeats 1000000 in
theorem sort_L (T : Nat) (l : List GtE) (hl : l.length ≤ 100000) : LC Tryd.prog 56 1 [.ref 0, .fn (.func 57) [] []] [(0, .rs T 5 (l.map GtE.c))] (.tup []) [(0, .rs T 5 ((sortS l).map GtE.c))] 0 := by
  refine ⟨Entr.of Tryd.func56 rfl (by kernel_rfl), by simp [LV.lts, LV.lt], rfl, by simp [LO.lt], by simp, fun cx w vs hA hok ham hv => ?_⟩
  obtain ⟨rfl, hA0⟩ : vs = [cx.loc 0, .func (.func 57) #[] #[]] ∧ cx.A 0 := by
    simp only [Vs, V] at hv
    obtain ⟨v1, _, rfl, ⟨h1, h2, h3⟩, v2, _, rfl, ⟨us, ws, rfl, rfl, rfl⟩, rfl⟩ := hv
    exact ⟨by rw [h2], h1⟩
  have hob : hp [(0, LO.rs T 5 (l.map GtE.c))] 0 = some (.rs T 5 (l.map GtE.c)) := rfl
  obtain ⟨_, hsz, us, hown, hus, hones⟩ := hok.ok 0 _ hob
  have hval := vs_ents l us hus
  subst hval
  have one : ∀ (z : LO) k y, hp [(0, z)] k = some y → k = 0 ∧ y = z := by
    intro z k y hy
    simp only [hp, List.lookup_cons] at hy
    split at hy
    · rename_i hh; simp at hh; cases hy; exact ⟨hh, rfl⟩
    · simp at hy
  rcases hown.2 with ⟨e1, e2⟩ | ⟨gb, cap, cur, e1, _, e2, e3, e4, e5, e6⟩
  · have hl0 : l = [] := List.eq_nil_of_length_eq_zero (by simpa using e2)
    subst hl0
    have hs0 : sortS [] = [] := List.eq_nil_of_length_eq_zero (by rw [sortS_len]; rfl)
    rw [hs0, e1]
    have hn := AnyF.slices_SortFunc_none Tryd.sortEn none 0 (.func (.func 57) #[] #[]) w
    change Calls Tryd.prog 56 _ _ _ at hn
    refine hn.mono ?_
    rintro e w' ⟨rfl, rfl⟩
    refine ⟨_, cx, rfl, ⟨CxLe.refl _, fun o => ?_, Grow.refl _ _ _, ⟨hok.ok, fun o x b hx hb => ?_, hok.inj, hok.lim⟩, fun _ _ _ => rfl⟩, by simp [V, Vs]⟩
    · constructor
      · exact .inl
      · rintro (h | h)
        · exact h
        · omega
    · obtain ⟨h1, h2, _⟩ := hok.own o x b hx hb
      exact ⟨h1, h2, .inr ⟨o, x, hx, hb⟩⟩
  · have hbk : bk (cx.loc 0) = some gb := by rw [e1]; rfl
    obtain ⟨hpr, hlt, _⟩ := hok.own 0 _ gb hob (.inl hbk)
    have hcl : l.length * 5 ≤ cur.size := by rw [e5]; rw [List.length_map] at e3; exact Nat.mul_le_mul_right _ e3
    have hH : HoldsK encS 5 w gb 0 l.toArray := by
      intro j hj
      have hj' : j < l.length * 5 := by simpa using hj
      have h1 := flatK_at l j hj'
      rw [← e6, List.length_map, List.getElem?_take, if_pos hj'] at h1
      have hjc : j < cur.size := by omega
      refine ⟨?_, by simp [World.frozen?, e2]⟩
      rw [Nat.zero_add]
      simp only [World.cell?, e2]
      simpa using h1
    have hs := AnyQ.slices_SortFunc_eq Tryd.sortEn 5 Tryd.isAgg40 Tryd.sizeOf40 encS (fun _ => rfl) (fun x v hv => by simp [encS] at hv; rcases hv with rfl | rfl | rfl | rfl | rfl <;> rfl) cmpS swoS 57 #[] gb 0 cap l.toArray w
      (Entr.of Tryd.func57 rfl (by kernel_rfl)) (fun _ _ _ _ x y => closureS x y _) hH hlt (by simp; omega)
    change Calls Tryd.prog 56 _ _ _ at hs
    rw [e1, List.length_map]
    simp only [List.size_toArray] at hs
    refine hs.mono ?_
    rintro e w' ⟨rfl, n, os, rfl⟩
    have hds : (pdq (ltOf cmpS) l.toArray 0 l.length (Lib.bitLen l.length) true true) = (sortS l).toArray := by unfold sortS; simp
    rw [hds]
    have hsl := sortS_len l
    generalize hq : sortS l = q at hsl
    have hfc : (flatK encS 5 q.toArray).size = q.length * 5 := by simp
    have hgb : (sortWorldK encS 5 w gb 0 n q.toArray os).heap[gb]? = some (.cells (putCells id 0 (flatK encS 5 q.toArray) cur) T (0, 0)) := by
      unfold sortWorldK putRowK putRow
      rw [heap_grow_old _ _ (by simp [mapBlock, Sort.ahead]; exact hlt)]
      simp [mapBlock, Sort.ahead, Array.getElem?_modify, e2, onCells]
    have hoth : ∀ k, k < w.heap.size → k ≠ gb → (sortWorldK encS 5 w gb 0 n q.toArray os).heap[k]? = w.heap[k]? := by
      intro k hk hne
      unfold sortWorldK putRowK putRow
      rw [heap_grow_old _ _ (by simp [mapBlock, Sort.ahead]; exact hk)]
      simp [mapBlock, Sort.ahead, Array.getElem?_modify, Ne.symm hne]
    have hsize : w.heap.size ≤ (sortWorldK encS 5 w gb 0 n q.toArray os).heap.size := by
      unfold sortWorldK putRowK putRow
      rw [size_grow]
      simp [mapBlock, Sort.ahead]
    have hext : Ext cx.pr w cx.pr (sortWorldK encS 5 w gb 0 n q.toArray os) := fun b off ho => by
      refine ⟨ho, ?_⟩
      have hb := hok.lim b (by omega)
      have hne : b ≠ gb := by rintro rfl; omega
      simp only [World.cell?, hoth b hb hne]
    have hblk : blks cx (hp [(0, LO.rs T 5 (l.map GtE.c))]) gb := ⟨0, _, hob, .inl hbk⟩
    refine ⟨_, cx, rfl, ⟨CxLe.refl _, fun o => ?_, ⟨rfl, rfl, rfl, hsize, fun b hb hn => hoth b hb (fun hh => hn (hh ▸ hblk)), fun _ _ _ => rfl, hext⟩, ⟨fun o x hx => ?_, fun o x b hx hb => ?_, fun o o' x x' b hne hx hx' => ?_, fun b hb => Nat.lt_of_lt_of_le (hok.lim b hb) hsize⟩, fun _ _ _ => rfl⟩, by simp [V, Vs]⟩
    · constructor
      · exact .inl
      · rintro (h | h)
        · exact h
        · omega
    · obtain ⟨rfl, rfl⟩ := one _ _ _ hx
      refine ⟨hA0, ?_⟩
      refine ⟨fun e he => (by obtain ⟨x, _, rfl⟩ := List.mem_map.1 he; rfl), q.flatMap encS, ⟨by rw [flat_len5, List.length_map], .inr ⟨gb, cap, _, by rw [e1, List.length_map, List.length_map, hsl], Nat.zero_le _, hgb, by rw [List.length_map, hsl]; rwa [List.length_map] at e3, e4, by rw [← e5]; simp [putCells], ?_⟩⟩, vs_of_ents q, ?_⟩
      · rw [List.length_map]
        apply List.ext_getElem?
        intro j
        rw [List.getElem?_take]
        split
        · rename_i hj
          rw [flatK_at q j hj]
          have hjc : j < cur.size := by omega
          simp [putCells, hjc, hj]
        · rename_i hj
          rw [List.getElem?_eq_none (by rw [flat_len5]; omega)]
      · intro u hu
        obtain ⟨x, _, hx⟩ := List.mem_flatMap.1 hu
        simp [encS] at hx
        rcases hx with rfl | rfl | rfl | rfl | rfl <;> rfl
    · obtain ⟨rfl, rfl⟩ := one _ _ _ hx
      rw [Cx.has_of rfl, hbk] at hb
      cases hb
      exact ⟨hpr, Nat.lt_of_lt_of_le hlt hsize, .inr hblk⟩
    · obtain ⟨rfl, rfl⟩ := one _ _ _ hx
      obtain ⟨rfl, rfl⟩ := one _ _ _ hx'
      exact absurd rfl hne

end Go.Proofs.YtgcjjndhohellaaDoor
