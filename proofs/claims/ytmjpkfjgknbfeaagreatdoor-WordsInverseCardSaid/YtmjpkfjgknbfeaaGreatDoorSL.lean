/- words: a list and its text are inverse to each other. -/
import Derived.Test.YtmjpkfjgknbfeaaGreatDoorSI
set_option linter.unusedSimpArgs false
set_option linter.unusedVariables false
namespace Go.Proofs.YtmjpkfjgknbfeaaGreatDoor

abbrev Rn := Nat × Nat
/-- the numbers of runs: the first of each, and how many follow -/
def rngA (a k : Nat) : List Int := (List.range k).map fun j => ((a + j : Nat) : Int)
theorem rngA_zero (a : Nat) : rngA a 0 = [] := rfl
theorem rngA_succ (a k : Nat) : rngA a (k + 1) = (a : Int) :: rngA (a + 1) k := by
  unfold rngA
  rw [List.range_succ_eq_map, List.map_cons, List.map_map]
  congr 1
  refine List.map_congr_left fun j _ => ?_
  show ((a + (j + 1) : Nat) : Int) = ((a + 1 + j : Nat) : Int)
  omega
theorem rngA_len (a k : Nat) : (rngA a k).length = k := by unfold rngA; simp
def numsG : List Rn → List Int
  | [] => []
  | g :: r => rngA g.1 (g.2 + 1) ++ numsG r
def txtG (g : Rn) : List UInt8 := runTxt (g.1 : Nat) g.2
def decG (g : Rn) : TT := (Lib.decDigits g.1, Lib.decDigits (g.1 + g.2))
def joinG : List Rn → List UInt8
  | [] => []
  | [g] => txtG g
  | g :: h :: r => txtG g ++ 44 :: joinG (h :: r)
def gapG : List Rn → Prop
  | g :: h :: r => g.1 + g.2 + 1 < h.1 ∧ gapG (h :: r)
  | _ => True
theorem gapG_tail {g : Rn} {r : List Rn} (h : gapG (g :: r)) : gapG r := by cases r with | nil => trivial | cons b r => exact h.2
theorem nums_head {g : Rn} {r : List Rn} (h : gapG (g :: r)) : ∀ b r', numsG r = b :: r' → ((g.1 + g.2 + 1 : Nat) : Int) < b := by
  intro b r' he
  cases r with
  | nil => cases he
  | cons q r =>
    rw [numsG, rngA_succ, List.cons_append] at he
    simp only [List.cons.injEq] at he
    have := h.1
    omega
theorem itoa_nat (n : Nat) : Lib.itoa (n : Int) = Lib.decDigits n := by unfold Lib.itoa; rw [if_neg (by omega), Int.toNat_natCast]
theorem txtG_eq (g : Rn) : txtG g = if 0 < g.2 then Lib.decDigits g.1 ++ 45 :: Lib.decDigits (g.1 + g.2) else Lib.decDigits g.1 := by
  unfold txtG runTxt
  rw [show ((g.1 : Nat) : Int) + (g.2 : Nat) = ((g.1 + g.2 : Nat) : Int) from by omega, itoa_nat, itoa_nat]
  rfl
theorem txtG_ne (g : Rn) : txtG g ≠ [] := by
  rw [txtG_eq]
  split
  · simp
  · exact digs_ne _
theorem runLen_rng : ∀ (k a : Nat) (r : List Int), (∀ b r', r = b :: r' → ((a + k + 1 : Nat) : Int) < b) → runLen (a : Nat) (rngA (a + 1) k ++ r) = k
  | 0, a, r, h => by
    cases r with
    | nil => rfl
    | cons b r =>
      have := h b r rfl
      rw [rngA_zero, List.nil_append, runLen, if_neg (by omega)]
  | k + 1, a, r, h => by
    rw [rngA_succ, List.cons_append, runLen, if_pos (by omega), runLen_rng k (a + 1) r (fun b r' e => by have := h b r' e; omega)]
theorem listGo_nums : ∀ (G : List Rn) (f : Nat) (acc : List UInt8), gapG G → (numsG G).length < f → listGo f (numsG G) acc = if G = [] then acc else acc ++ sepL acc ++ joinG G
  | [], f, acc, _, _ => by rw [if_pos rfl]; cases f <;> rfl
  | g :: r, f, acc, hg, hf => by
    rw [if_neg (by simp)]
    obtain ⟨f, rfl⟩ : ∃ n, f = n + 1 := ⟨f - 1, by omega⟩
    rw [numsG, rngA_succ, List.cons_append] at hf ⊢
    rw [listGo, runLen_rng g.2 g.1 (numsG r) (nums_head hg), List.drop_left' (rngA_len _ _)]
    rw [List.length_cons, List.length_append] at hf
    rw [listGo_nums r f _ (gapG_tail hg) (by omega)]
    show (if r = [] then acc ++ sepL acc ++ txtG g else acc ++ sepL acc ++ txtG g ++ sepL (acc ++ sepL acc ++ txtG g) ++ joinG r) = _
    cases r with
    | nil => rw [if_pos rfl]; rfl
    | cons q r =>
      rw [if_neg (by simp), joinG]
      have : sepL (acc ++ sepL acc ++ txtG g) = [44] := by unfold sepL; rw [if_neg]; intro e; exact txtG_ne g (List.append_eq_nil_iff.1 e).2
      rw [this]
      simp
def ascK : List Int → Prop
  | a :: b :: r => a < b ∧ ascK (b :: r)
  | _ => True
theorem ascK_tail {a : Int} {r : List Int} (h : ascK (a :: r)) : ascK r := by cases r with | nil => trivial | cons b r => exact h.2
theorem nums_ex : ∀ l : List Int, (∀ x ∈ l, 0 ≤ x) → ascK l → ∃ G, gapG G ∧ numsG G = l
  | [], _, _ => ⟨[], trivial, rfl⟩
  | a :: l, h, hk => by
    obtain ⟨G, h1, h2⟩ := nums_ex l (fun x hx => h x (by simp [hx])) (ascK_tail hk)
    have ha := h a (by simp)
    obtain ⟨n, rfl⟩ : ∃ n : Nat, a = n := ⟨a.toNat, by omega⟩
    match G, h1, h2 with
    | [], _, h2 => exact ⟨[(n, 0)], trivial, by rw [← h2]; rfl⟩
    | (b, k) :: G, h1, h2 =>
      rw [numsG, rngA_succ, List.cons_append] at h2
      subst h2
      have hab := hk.1
      by_cases hb : b = n + 1
      · subst hb
        refine ⟨(n, k + 1) :: G, ?_, ?_⟩
        · cases G with
          | nil => trivial
          | cons q G => refine ⟨?_, h1.2⟩; have := h1.1; dsimp only at this ⊢; omega
        · rw [numsG, rngA_succ, rngA_succ, List.cons_append, List.cons_append]
      · exact ⟨(n, 0) :: (b, k) :: G, ⟨by dsimp only at hab ⊢; omega, h1⟩, by rw [numsG, numsG, rngA_succ, rngA_succ, rngA_zero]; rfl⟩
theorem ascK_rng : ∀ (k a : Nat) (r : List Int), (∀ b r', r = b :: r' → ((a + k + 1 : Nat) : Int) < b) → ascK r → ascK (rngA a (k + 1) ++ r)
  | 0, a, r, h, hr => by
    rw [rngA_succ, rngA_zero]
    cases r with
    | nil => trivial
    | cons b r => exact ⟨by have := h b r rfl; omega, hr⟩
  | k + 1, a, r, h, hr => by
    have ih := ascK_rng k (a + 1) r (fun b r' e => by have := h b r' e; omega) hr
    rw [rngA_succ] at ih ⊢
    rw [rngA_succ]
    exact ⟨by omega, ih⟩
theorem ascK_nums : ∀ G, gapG G → ascK (numsG G)
  | [], _ => trivial
  | g :: r, h => ascK_rng g.2 g.1 (numsG r) (nums_head h) (ascK_nums r (gapG_tail h))
theorem ascK_of : ∀ l : List Int, (∀ i, i + 1 < l.length → l.getD i 0 < l.getD (i + 1) 0) → ascK l
  | [], _ => trivial
  | [_], _ => trivial
  | a :: b :: r, h => ⟨h 0 (by simp), ascK_of (b :: r) (fun i hi => by have := h (i + 1) (by simp at hi ⊢; omega); simpa only [List.getD_cons_succ] using this)⟩
theorem of_ascK : ∀ l : List Int, ascK l → ∀ i, i + 1 < l.length → l.getD i 0 < l.getD (i + 1) 0
  | [], _, i, h => by simp at h
  | [_], _, i, h => by simp at h
  | a :: b :: r, h, 0, _ => h.1
  | a :: b :: r, h, i + 1, hi => by
    have := of_ascK (b :: r) h.2 i (by simp at hi ⊢; omega)
    simpa only [List.getD_cons_succ] using this
theorem ascK_desc {l : List Int} (h : descK l l.length = false) : ascK l := ascK_of l fun i hi => by
  unfold descK at h
  rw [List.any_eq_false] at h
  have := h (i + 1) (List.mem_range.2 hi)
  rw [Nat.add_sub_cancel] at this
  simp only [Bool.and_eq_true, decide_eq_true_eq, not_and] at this
  have := this (by omega)
  omega
theorem desc_ascK {l : List Int} (h : ascK l) : descK l l.length = false := by
  unfold descK
  rw [List.any_eq_false]
  intro i hi
  rw [List.mem_range] at hi
  simp only [Bool.and_eq_true, decide_eq_true_eq, not_and]
  intro h0
  have := of_ascK l h (i - 1) (by omega)
  rw [show i - 1 + 1 = i from by omega] at this
  omega
theorem out_mem {l : List Int} (h : ∀ x ∈ l, 0 ≤ x ∧ x ≤ 1000000000) : outK l l.length = false := by
  unfold outK
  rw [List.any_eq_false]
  intro i hi
  rw [List.mem_range] at hi
  have := h (l.getD i 0) (by rw [List.getD_eq_getElem?_getD, List.getElem?_eq_getElem hi]; exact List.getElem_mem hi)
  simp only [Bool.or_eq_true, decide_eq_true_eq, not_or]
  omega
theorem mem_out {l : List Int} (h : outK l l.length = false) : ∀ x ∈ l, 0 ≤ x ∧ x ≤ 1000000000 := by
  intro x hx
  obtain ⟨i, hi, rfl⟩ := List.mem_iff_getElem.1 hx
  have := outK_no h i
  rwa [List.getD_eq_getElem?_getD, List.getElem?_eq_getElem hi] at this
/-! texts -/
theorem index_app {c : UInt8} {a : List UInt8} (b : List UInt8) (h : c ∉ a) : Lib.indexByte (a ++ c :: b) c = (a.length : Nat) := by
  rcases index_cases c (a ++ c :: b) with ⟨_, h2⟩ | ⟨a', b', h1, h2, h3⟩
  · exact absurd (by simp) h2
  · rw [h3, (split_uniq a a' b b' h1 h h2).1]
theorem cut_hit {c : UInt8} {a : List UInt8} (b : List UInt8) (h : c ∉ a) : cut1 (a ++ c :: b) c = a ∧ cut2 (a ++ c :: b) c = b ∧ cutIs (a ++ c :: b) c = true := by
  have hi := index_app b h
  refine ⟨?_, ?_, ?_⟩
  · unfold cut1; rw [hi, if_pos (by omega), Int.toNat_natCast, List.take_left]
  · unfold cut2; rw [hi, if_pos (by omega), Int.toNat_natCast, ← List.drop_drop, List.drop_left]; rfl
  · unfold cutIs; rw [hi]; simp
theorem cut_no {c : UInt8} {s : List UInt8} (h : c ∉ s) : cut1 s c = s ∧ cutIs s c = false := by
  rcases splitC_eq c s with ⟨h1, _, h3⟩ | ⟨h1, _⟩
  · exact ⟨h3, h1⟩
  · rcases index_cases c s with ⟨h2, _⟩ | ⟨a, b, h2, _, _⟩
    · unfold cutIs at h1; rw [h2] at h1; simp at h1
    · exact absurd (by rw [h2]; simp) h
theorem dig_notin {c : UInt8} (hc : digC c = false) {s : List UInt8} (h : s.all digC = true) : c ∉ s := fun hm => by
  rw [List.all_eq_true] at h
  rw [h c hm] at hc
  cases hc
theorem digs_no44 (n : Nat) : (44 : UInt8) ∉ Lib.decDigits n := dig_notin (by decide) (digs_facts n).1
theorem digs_no45 (n : Nat) : (45 : UInt8) ∉ Lib.decDigits n := dig_notin (by decide) (digs_facts n).1
theorem txt_no44 (g : Rn) : (44 : UInt8) ∉ txtG g := by
  rw [txtG_eq]
  split
  · rw [List.mem_append, List.mem_cons]
    rintro (h | h | h)
    · exact digs_no44 _ h
    · cases h
    · exact digs_no44 _ h
  · exact digs_no44 _
theorem split_joinG : ∀ G : List Rn, G ≠ [] → Lib.split (joinG G) [44] = G.map txtG
  | [], h => absurd rfl h
  | [g], _ => by rw [joinG, splitC_no (txt_no44 g)]; rfl
  | g :: q :: r, _ => by
    rw [joinG, splitC_hit (txt_no44 g) (index_app _ (txt_no44 g)), split_joinG (q :: r) (by simp)]
    rfl
theorem joinG_split : ∀ (n : Nat) (s : List UInt8) (G : List Rn), s.length ≤ n → Lib.split s [44] = G.map txtG → s = joinG G := by
  intro n
  induction n with
  | zero =>
    intro s G hn h
    have : s = [] := List.length_eq_zero_iff.1 (by omega)
    subst this
    rw [splitC_no (by simp)] at h
    match G, h with
    | [g], h => simp only [List.map_cons, List.map_nil, List.cons.injEq, and_true] at h; exact absurd h.symm (txtG_ne g)
    | g :: q :: r, h => simp at h
  | succ n ih =>
    intro s G hn h
    rcases index_cases 44 s with ⟨_, h2⟩ | ⟨a, b, h1, h2, h3⟩
    · rw [splitC_no h2] at h
      match G, h with
      | [g], h => simpa [joinG] using h
      | g :: q :: r, h => simp at h
    · rw [h1] at h3
      rw [h1, splitC_hit h2 h3] at h
      match G, h with
      | [], h => cases h
      | [g], h =>
        simp only [List.map_cons, List.map_nil, List.cons.injEq] at h
        exfalso
        rcases splitC_eq 44 b with ⟨_, k, _⟩ | ⟨_, k⟩
        · rw [k] at h; cases h.2
        · rw [k] at h; cases h.2
      | g :: q :: r, h =>
        rw [List.map_cons, List.cons.injEq] at h
        rw [joinG, ← ih b (q :: r) (by rw [h1] at hn; simp at hn; omega) h.2, h1, h.1]
theorem runOf_txt (g : Rn) : runOf (txtG g) = some (decG g) := by
  have d1 := decT_digs g.1
  have d2 := decT_digs (g.1 + g.2)
  unfold runOf endOf
  rw [txtG_eq]
  split
  · rename_i hk
    obtain ⟨c1, c2, c3⟩ := cut_hit (Lib.decDigits (g.1 + g.2)) (digs_no45 g.1)
    rw [c1, c2, if_pos c3, if_pos ⟨d1, d2, fun _ => ((cmp_val d1 d2).1.2 (by rw [(digs_facts _).2.1, (digs_facts _).2.1]; omega))⟩]
    rfl
  · rename_i hk
    have h0 : g.2 = 0 := by omega
    obtain ⟨c1, c2⟩ := cut_no (digs_no45 g.1)
    rw [c1, if_neg (show ¬ cutIs (Lib.decDigits g.1) 45 = true from by rw [c2]; simp), if_pos ⟨d1, d1, fun h => by rw [c2] at h; cases h⟩]
    unfold decG
    rw [h0]
    rfl
theorem okPrev_digs (a b : Nat) : okPrev (some (Lib.decDigits a)) (Lib.decDigits b) = decide (a + 1 < b) := by
  have d1 := nextT_val (decT_digs a)
  have h := (cmp_val d1.1 (decT_digs b)).1
  rw [d1.2, (digs_facts _).2.1, (digs_facts _).2.1] at h
  unfold okPrev
  exact decide_eq_decide.2 h
theorem goP_txt : ∀ (G : List Rn) (pv : Option (List UInt8)), gapG G → (∀ g r, G = g :: r → okPrev pv (Lib.decDigits g.1) = true) → goP pv (G.map txtG) = some (G.map decG)
  | [], _, _, _ => rfl
  | g :: r, pv, hg, hp => by
    rw [List.map_cons, goP, runOf_txt]
    show (if okPrev pv (Lib.decDigits g.1) = true then (goP (some (Lib.decDigits (g.1 + g.2))) (r.map txtG)).map ((Lib.decDigits g.1, Lib.decDigits (g.1 + g.2)) :: ·) else none) = _
    rw [if_pos (hp g r rfl), goP_txt r _ (gapG_tail hg) (fun q r' e => by
      subst e
      rw [okPrev_digs]
      exact decide_eq_true hg.1)]
    rfl
theorem expP_dec : ∀ (G : List Rn) (out : List Int), out.length + (numsG G).length ≤ 500 → expP (G.map decG) out = some (out ++ numsG G)
  | [], out, _ => by rw [numsG, List.append_nil]; rfl
  | g :: r, out, h => by
    rw [numsG, List.length_append, rngA_len] at h
    rw [List.map_cons, expP]
    simp only [decG, (digs_facts _).2.1]
    rw [if_neg (by omega), show g.1 + g.2 + 1 - g.1 = g.2 + 1 from by omega]
    show expP (r.map decG) (out ++ rngA g.1 (g.2 + 1)) = _
    rw [expP_dec r _ (by rw [List.length_append, rngA_len]; omega), numsG, List.append_assoc]
theorem expP_inv : ∀ (G : List Rn) (out l : List Int), expP (G.map decG) out = some l → out.length ≤ 500 → l = out ++ numsG G ∧ l.length ≤ 500
  | [], out, l, h, h5 => by
    simp only [List.map_nil, expP, Option.some.injEq] at h
    subst h
    exact ⟨by rw [numsG, List.append_nil], h5⟩
  | g :: r, out, l, h, h5 => by
    rw [List.map_cons, expP] at h
    simp only [decG, (digs_facts _).2.1] at h
    split at h
    · cases h
    · rename_i hn
      rw [show g.1 + g.2 + 1 - g.1 = g.2 + 1 from by omega] at h
      obtain ⟨h1, h2⟩ := expP_inv r (out ++ rngA g.1 (g.2 + 1)) l h (by rw [List.length_append, rngA_len]; omega)
      exact ⟨by rw [h1, numsG, List.append_assoc], h2⟩
theorem last_mem : ∀ (G : List Rn) (g : Rn), G.getLast? = some g → ((g.1 + g.2 : Nat) : Int) ∈ numsG G
  | [], g, h => by simp at h
  | [q], g, h => by
    simp only [List.getLast?_singleton, Option.some.injEq] at h
    subst h
    rw [numsG, List.mem_append]
    left
    unfold rngA
    exact List.mem_map.2 ⟨q.2, List.mem_range.2 (by omega), rfl⟩
  | q :: b :: r, g, h => by
    rw [List.getLast?_cons_cons] at h
    rw [numsG, List.mem_append]
    exact .inr (last_mem (b :: r) g h)
theorem joinG_45 {G : List Rn} (h : G ≠ []) : joinG G ≠ [45] := by
  intro e
  have key : ∃ n t, joinG G = Lib.decDigits n ++ t := by
    match G, h with
    | [g], _ => rw [joinG, txtG_eq]; split; exact ⟨_, _, rfl⟩; exact ⟨_, [], by rw [List.append_nil]⟩
    | g :: q :: r, _ => rw [joinG, txtG_eq]; split; exact ⟨_, _, List.append_assoc _ _ _⟩; exact ⟨_, _, rfl⟩
  obtain ⟨n, t, hk⟩ := key
  rw [hk] at e
  have hh := head_dig (digs_ne n) (digs_facts n).1
  have h2 : ((Lib.decDigits n ++ t).headD 0) = (Lib.decDigits n).headD 0 := by
    cases hd : Lib.decDigits n with
    | nil => exact absurd hd (digs_ne _)
    | cons a l => rfl
  rw [← h2, e] at hh
  exact absurd hh.1 (by decide)
theorem list_parse {l : List Int} (h : (listW l).2 = 0) : plistW (listW l).1 = (l, 0) := by
  unfold listW at h ⊢
  split at h
  · cases h
  · rename_i h5
    rw [if_neg h5]
    split at h
    · cases h
    · rename_i ho
      rw [if_neg ho]
      split at h
      · cases h
      · rename_i hd
        rw [if_neg hd]
        have ho2 : outK l l.length = false := by simpa using ho
        have hd2 : descK l l.length = false := by simpa using hd
        by_cases hl : l = []
        · subst hl
          rw [if_pos rfl]
          exact if_pos rfl
        · rw [if_neg hl]
          have hm := mem_out ho2
          obtain ⟨G, g1, g2⟩ := nums_ex l (fun x hx => (hm x hx).1) (ascK_desc hd2)
          have hG : G ≠ [] := by intro e; subst e; exact hl g2.symm
          have ht : listGo (l.length + 1) l [] = joinG G := by
            have := listGo_nums G (l.length + 1) [] g1 (by rw [g2]; omega)
            rw [g2, if_neg hG] at this
            rw [this]; rfl
          dsimp only
          rw [ht]
          unfold plistW
          rw [if_neg (joinG_45 hG), split_joinG G hG, goP_txt G none g1 (fun _ _ _ => rfl)]
          dsimp only
          obtain ⟨g, hg⟩ : ∃ g, G.getLast? = some g := by cases hx : G.getLast? with | none => exact absurd (List.getLast?_eq_none_iff.1 hx) hG | some g => exact ⟨g, rfl⟩
          have hlast : lastP (G.map decG) = Lib.decDigits (g.1 + g.2) := by unfold lastP; rw [List.getLast?_map, hg]; rfl
          have hle := (hm _ (by rw [← g2]; exact last_mem G g hg)).2
          rw [hlast, if_neg (by
            rw [(cmp_val (decT_digs _) max_val.1).2, max_val.2, (digs_facts _).2.1]
            omega), expP_dec G [] (by rw [g2]; simp; omega), g2]
          rfl
theorem digsT_back {t : List UInt8} (h : decT t = true) : Lib.decDigits (val10 0 t) = t := by
  obtain ⟨c, l, rfl, h1, h2, h3⟩ := decT_split h
  exact digs_of _ (c :: l) rfl (by simp) (by rw [List.all_cons, h1, h2]; rfl) (fun hl => h3 (by intro e; subst e; simp at hl))
theorem runOf_inv {r : List UInt8} {p : TT} (h : runOf r = some p) : ∃ g, r = txtG g ∧ p = decG g := by
  obtain ⟨a, b⟩ := p
  have hf := runOf_facts h
  refine ⟨(val10 0 a, val10 0 b - val10 0 a), ?_, ?_⟩
  · rw [txtG_eq]
    dsimp only
    rw [show val10 0 a + (val10 0 b - val10 0 a) = val10 0 b from by omega, digsT_back hf.1, digsT_back hf.2.1]
    unfold runOf at h
    split at h
    · rename_i hh
      simp only [Option.some.injEq, Prod.mk.injEq] at h
      obtain ⟨rfl, rfl⟩ := h
      by_cases hc : cutIs r 45 = true
      · have := (cmp_val hh.1 hh.2.1).1.1 (hh.2.2 hc)
        rw [if_pos (by omega)]
        have he : endOf r = cut2 r 45 := if_pos hc
        rw [he]
        rcases index_cases 45 r with ⟨h1, _⟩ | ⟨a, b, h1, h2, h3⟩
        · unfold cutIs at hc; rw [h1] at hc; simp at hc
        · obtain ⟨c1, c2, _⟩ := cut_hit b h2
          rw [← h1] at c1 c2
          rw [c1, c2]; exact h1
      · have he : endOf r = cut1 r 45 := if_neg hc
        rw [he, if_neg (by omega)]
        rcases splitC_eq 45 r with ⟨_, _, h3⟩ | ⟨h1, _⟩
        · exact h3.symm
        · exact absurd h1 hc
    · cases h
  · unfold decG
    dsimp only
    rw [show val10 0 a + (val10 0 b - val10 0 a) = val10 0 b from by omega, digsT_back hf.1, digsT_back hf.2.1]
theorem goP_inv : ∀ (rs : List (List UInt8)) (pv : Option (List UInt8)) (ps : List TT), goP pv rs = some ps → ∃ G, rs = G.map txtG ∧ ps = G.map decG ∧ gapG G
  | [], pv, ps, h => by
    simp only [goP, Option.some.injEq] at h
    exact ⟨[], rfl, h.symm, trivial⟩
  | r :: rs, pv, ps, h => by
    rw [goP] at h
    cases hr : runOf r with
    | none => rw [hr] at h; cases h
    | some ab =>
      obtain ⟨g, rfl, rfl⟩ := runOf_inv hr
      rw [hr] at h
      change (if okPrev pv (Lib.decDigits g.1) = true then (goP (some (Lib.decDigits (g.1 + g.2))) rs).map ((Lib.decDigits g.1, Lib.decDigits (g.1 + g.2)) :: ·) else none) = some ps at h
      split at h
      · cases hg : goP (some (Lib.decDigits (g.1 + g.2))) rs with
        | none => rw [hg] at h; cases h
        | some qs =>
          rw [hg] at h
          simp only [Option.map_some, Option.some.injEq] at h
          subst h
          obtain ⟨G, e1, e2, e3⟩ := goP_inv rs _ qs hg
          have hp := (goP_facts rs _ qs hg).2
          refine ⟨g :: G, by rw [e1]; rfl, by rw [e2]; rfl, ?_⟩
          cases G with
          | nil => trivial
          | cons q G =>
            have := hp (decG q) (G.map decG) e2
            change okPrev _ (Lib.decDigits q.1) = true at this
            rw [okPrev_digs] at this
            exact ⟨of_decide_eq_true this, e3⟩
      · cases h
theorem nums_mem {G : List Rn} {x : Int} (h : x ∈ numsG G) : ∃ g ∈ G, 0 ≤ x ∧ x ≤ (g.1 + g.2 : Nat) := by
  induction G with
  | nil => cases h
  | cons g r ih =>
    rw [numsG, List.mem_append] at h
    rcases h with h | h
    · unfold rngA at h
      obtain ⟨j, hj, rfl⟩ := List.mem_map.1 h
      rw [List.mem_range] at hj
      exact ⟨g, by simp, by omega, by omega⟩
    · obtain ⟨q, hq, h1⟩ := ih h
      exact ⟨q, by simp [hq], h1⟩
theorem parse_list {s : List UInt8} (h : (plistW s).2 = 0) : listW (plistW s).1 = (s, 0) := by
  unfold plistW at h ⊢
  split at h
  · rename_i hs
    rw [if_pos hs, hs]
    rfl
  · rename_i hs
    rw [if_neg hs]
    cases hg : goP none (Lib.split s [44]) with
    | none => rw [hg] at h; cases h
    | some ps =>
      rw [hg] at h
      dsimp only at h ⊢
      split at h
      · cases h
      · rename_i hm
        rw [if_neg hm]
        cases he : expP ps [] with
        | none => rw [he] at h; cases h
        | some l =>
          dsimp only
          have hf := ps_facts hg hm
          obtain ⟨G, e1, e2, e3⟩ := goP_inv _ _ _ hg
          have hG : G ≠ [] := by
            intro e
            subst e
            rcases splitC_eq 44 s with ⟨_, k, _⟩ | ⟨_, k⟩
            · rw [k] at e1; cases e1
            · rw [k] at e1; cases e1
          have hj := joinG_split _ s G (Nat.le_refl _) e1
          rw [e2] at he
          obtain ⟨l1, l2⟩ := expP_inv G [] l he (by simp)
          rw [List.nil_append] at l1
          have ha : ascK l := by rw [l1]; exact ascK_nums G e3
          have ho : ∀ x ∈ l, 0 ≤ x ∧ x ≤ 1000000000 := by
            intro x hx
            rw [l1] at hx
            obtain ⟨g, hgm, h0, h1⟩ := nums_mem hx
            have := (hf (decG g) (by rw [e2]; exact List.mem_map.2 ⟨g, hgm, rfl⟩)).2.2.2.2.2
            change val10 0 (Lib.decDigits (g.1 + g.2)) ≤ _ at this
            rw [(digs_facts _).2.1] at this
            omega
          have hl : l ≠ [] := by
            intro e
            match G, hG with
            | g :: r, _ => rw [l1, numsG, rngA_succ, List.cons_append] at e; cases e
          unfold listW
          rw [if_neg (by omega), out_mem ho, desc_ascK ha, if_neg (by simp), if_neg (by simp), if_neg hl]
          have := listGo_nums G (l.length + 1) [] e3 (by rw [← l1]; omega)
          rw [← l1, if_neg hG] at this
          rw [this, hj]
          rfl

end Go.Proofs.YtmjpkfjgknbfeaaGreatDoor
