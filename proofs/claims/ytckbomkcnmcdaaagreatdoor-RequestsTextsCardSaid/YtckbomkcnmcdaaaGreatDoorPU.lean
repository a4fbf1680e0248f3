/- requests: Parse is the reference's; Parse and Print are inverse to each other. -/
import Derived.Test.YtckbomkcnmcdaaaGreatDoorRH
import Derived.Test.YtckbomkcnmcdaaaGreatDoorQM
set_option linter.unusedSimpArgs false
set_option linter.unusedVariables false
namespace Go.Proofs.YtckbomkcnmcdaaaGreatDoor


/-- the fields that a line's fields say, as the reference reads them -/
def readL : List Rule → List Fd → Option (List Fld)
  | [], _ => some []
  | _ :: _, [] => none
  | x :: rs, f :: fs => if x.kind = 2 then (if (!f.q) = true then none else (readL rs fs).map (⟨x.tag, 0, f.s⟩ :: ·)) else
      if ((!decide ((intW f.s 0 9223372036854775807).2 = 0) || f.q) || decide (x.high < (intW f.s 0 9223372036854775807).1)) = true then none else (readL rs fs).map (⟨x.tag, (intW f.s 0 9223372036854775807).1, []⟩ :: ·)
theorem readR_L : ∀ (rs : List Rule) (fs : List Fd) (r : Rq), readR rs fs r = (readL rs fs).map (foldQ r)
  | [], fs, r => by rw [readR, readL]; rfl
  | x :: rs, [], r => by rw [readR, readL]; rfl
  | x :: rs, f :: fs, r => by
    rw [readR, readL]
    split
    · split
      · rfl
      · rw [readR_L rs fs, Option.map_map]; rfl
    · split
      · rfl
      · rw [readR_L rs fs, Option.map_map]; rfl
def lowAll : List Rule → List Fld → Bool
  | x :: rs, f :: l => (decide (x.kind = 2) || decide (x.low ≤ f.num)) && lowAll rs l
  | _, _ => true
theorem intW_cases (s : List UInt8) (lo hi : Int) : intW s lo hi = if decC s = true ∧ inI (decV s) = true ∧ lo ≤ decV s ∧ decV s ≤ hi then (decV s, 0) else if decC s = false then (0, 6) else (0, 7) := by
  unfold intW
  cases h1 : decC s <;> cases h2 : inI (decV s) <;> simp
  by_cases h3 : lo ≤ decV s
  · by_cases h4 : decV s ≤ hi
    · rw [if_neg (by omega), if_pos ⟨h3, h4⟩]
    · rw [if_pos (by omega), if_neg (by omega)]
  · rw [if_pos (by omega), if_neg (by omega)]
theorem readGo_L : ∀ (rs : List Rule) (fs : List Fd) (acc : List Fld), (∀ x ∈ rs, (x.kind = 1 ∨ x.kind = 2) ∧ 0 ≤ x.low ∧ x.high ≤ 9223372036854775807) →
    readGo rs fs acc = match readL rs fs with
      | none => ([], false)
      | some l => if lowAll rs l = true then (acc ++ l, true) else ([], false)
  | [], fs, acc, _ => by rw [readGo, readL]; simp [lowAll]
  | x :: rs, [], acc, _ => by rw [readGo, readL]
  | x :: rs, f :: fs, acc, h => by
    obtain ⟨hk, h0, h9⟩ := h x (by simp)
    have ih := fun acc => readGo_L rs fs acc (fun y hy => h y (by simp [hy]))
    rw [readGo, readL]
    by_cases h2 : x.kind = 2
    · rw [if_pos h2, if_pos h2]
      cases hq : f.q with
      | false => rw [if_pos (by simp [h2]), if_pos (show (!false) = true from rfl)]
      | true =>
        rw [if_neg (by simp [h2]), if_neg (by simp), ih]
        cases readL rs fs with
        | none => rfl
        | some l => simp [lowAll, h2]
    · rw [if_neg h2, if_neg h2]
      have h1 : x.kind = 1 := by omega
      cases hq : f.q with
      | true =>
        rw [if_pos (by simp [h2]), if_pos (by simp)]
      | false =>
        rw [if_neg (by simp [h2]), intW_cases f.s x.low x.high, intW_cases f.s 0 9223372036854775807]
        by_cases hc : decC f.s = true ∧ inI (decV f.s) = true ∧ 0 ≤ decV f.s ∧ decV f.s ≤ x.high
        · obtain ⟨c1, c2, c3, c4⟩ := hc
          rw [if_pos (show decC f.s = true ∧ inI (decV f.s) = true ∧ 0 ≤ decV f.s ∧ decV f.s ≤ 9223372036854775807 from ⟨c1, c2, c3, by omega⟩), if_neg (show ¬ ((!decide (((decV f.s, (0 : Int)) : Int × Int).2 = 0) || false) || decide (x.high < (decV f.s, (0 : Int)).1)) = true from by simp; omega)]
          by_cases hl : x.low ≤ decV f.s
          · rw [if_pos (show decC f.s = true ∧ inI (decV f.s) = true ∧ x.low ≤ decV f.s ∧ decV f.s ≤ x.high from ⟨c1, c2, hl, c4⟩), if_neg (by simp), ih]
            cases readL rs fs with
            | none => rfl
            | some l => simp [lowAll, h2, hl]
          · rw [if_neg (show ¬ (decC f.s = true ∧ inI (decV f.s) = true ∧ x.low ≤ decV f.s ∧ decV f.s ≤ x.high) from fun h => hl h.2.2.1), if_neg (show ¬ decC f.s = false from by rw [c1]; simp), if_pos (show (!decide (((0 : Int), (7 : Int)).2 = 0)) = true from rfl)]
            cases readL rs fs with
            | none => rfl
            | some l => simp [lowAll, h2, hl]
        · rw [if_neg (show ¬ (decC f.s = true ∧ inI (decV f.s) = true ∧ x.low ≤ decV f.s ∧ decV f.s ≤ x.high) from fun h => hc ⟨h.1, h.2.1, by omega, h.2.2.2⟩)]
          have hA : (if decC f.s = false then ((0 : Int), (6 : Int)) else (0, 7)).2 ≠ 0 := by split <;> simp
          rw [if_pos (show (!decide ((if decC f.s = false then ((0 : Int), (6 : Int)) else (0, 7)).2 = 0)) = true from by rw [decide_eq_false hA]; rfl)]
          by_cases hd : decC f.s = true ∧ inI (decV f.s) = true ∧ 0 ≤ decV f.s ∧ decV f.s ≤ 9223372036854775807
          · have h9 : ¬ decV f.s ≤ x.high := fun h => hc ⟨hd.1, hd.2.1, hd.2.2.1, h⟩
            rw [if_pos hd, if_pos (show ((!decide (((decV f.s, (0 : Int)) : Int × Int).2 = 0) || false) || decide (x.high < (decV f.s, (0 : Int)).1)) = true from by simp; omega)]
          · rw [if_neg hd, if_pos (show ((!decide ((if decC f.s = false then ((0 : Int), (6 : Int)) else (0, 7)).2 = 0) || false) || _) = true from by rw [decide_eq_false hA]; rfl)]
/-- a field whose number is not above its rule's -/
def FldW (f : Fld) : Prop := 1 ≤ f.tag ∧ f.tag ≤ 9 ∧ ((ruleQ f.tag).kind = 2 → f.num = 0) ∧ ((ruleQ f.tag).kind ≠ 2 → f.txt = [] ∧ 0 ≤ f.num ∧ f.num ≤ (ruleQ f.tag).high)
theorem put_getW (r : Rq) (f : Fld) (hf : FldW f) : fieldQ (putQ r f) f.tag = (f, true) := by
  obtain ⟨t, n, l⟩ := f
  obtain ⟨h1, h2, h3, h4⟩ := hf
  simp only at h1 h2 h3 h4
  rcases itags9 h1 h2 with rfl | rfl | rfl | rfl | rfl | rfl | rfl | rfl | rfl
  all_goals simp [ruleQ] at h3 h4
  all_goals simp [putQ, fieldQ, uw, IntKind.wrap_i64, IntKind.wrap_u32]
  all_goals first | (obtain ⟨h5, h6, h7⟩ := h4; subst h5; simp; omega) | (obtain ⟨h5, h6, h7⟩ := h4; exact h5.symm) | (obtain ⟨h5, h6, h7⟩ := h4; simp [h5]) | exact h3.symm | simp_all
theorem fold_getW : ∀ (l : List Fld) (r : Rq), (l.map Fld.tag).Pairwise (· < ·) → (∀ f ∈ l, FldW f) → ∀ f ∈ l, fieldQ (foldQ r l) f.tag = (f, true)
  | [], _, _, _, f, hf => by simp at hf
  | g :: l, r, hp, hv, f, hf => by
    rw [List.map_cons] at hp
    have hp1 := (List.pairwise_cons.1 hp).1
    have hp2 := (List.pairwise_cons.1 hp).2
    have e : foldQ r (g :: l) = foldQ (putQ r g) l := rfl
    rw [e]
    rcases List.mem_cons.1 hf with rfl | hf
    · have hg := hv f (by simp)
      rw [fold_otherQ l _ hg.1 hg.2.1 (fun x hx => ⟨⟨(hv x (by simp [hx])).1, (hv x (by simp [hx])).2.1⟩, by have := hp1 x.tag (List.mem_map.2 ⟨x, hx, rfl⟩); omega⟩)]
      exact put_getW r f hg
    · exact fold_getW l _ hp2 (fun x hx => hv x (by simp [hx])) f hf
/-- what is read by the rules of tags T -/
theorem readL_facts : ∀ (T : List Int) (fs : List Fd) (l : List Fld), (∀ t ∈ T, 1 ≤ t ∧ t ≤ 9) → (∀ f ∈ fs, f.s.length ≤ 2000) → readL (T.map ruleQ) fs = some l → l.map Fld.tag = T ∧ (∀ f ∈ l, FldW f ∧ FldL f)
  | [], fs, l, _, _, h => by rw [List.map_nil, readL] at h; cases h; simp
  | t :: T, [], l, _, _, h => by rw [List.map_cons, readL] at h; cases h
  | t :: T, f :: fs, l, ht, hf, h => by
    have hb := ht t (by simp)
    rw [List.map_cons, readL] at h
    have key : ∀ (y : Fld), y.tag = t → FldW y → FldL y → (readL (T.map ruleQ) fs).map (y :: ·) = some l → l.map Fld.tag = t :: T ∧ (∀ f ∈ l, FldW f ∧ FldL f) := by
      intro y hy hw hl h
      cases hr : readL (T.map ruleQ) fs with
      | none => rw [hr] at h; cases h
      | some l' =>
        rw [hr] at h
        simp only [Option.map_some, Option.some.injEq] at h
        subst h
        obtain ⟨k1, k2⟩ := readL_facts T fs l' (fun u hu => ht u (by simp [hu])) (fun g hg => hf g (by simp [hg])) hr
        exact ⟨by rw [List.map_cons, hy, k1], fun g hg => (List.mem_cons.1 hg).elim (fun e => by rw [e]; exact ⟨hw, hl⟩) (k2 g)⟩
    split at h
    · rename_i h2
      split at h
      · cases h
      · exact key ⟨(ruleQ t).tag, 0, f.s⟩ (ruleQ_tag t) ⟨by rw [ruleQ_tag]; exact hb.1, by rw [ruleQ_tag]; exact hb.2, fun _ => rfl, fun h9 => absurd (by rw [ruleQ_tag]; exact h2) h9⟩ ⟨by simp, by simp, hf f (by simp)⟩ h
    · rename_i h2
      split at h
      · cases h
      · rename_i h3
        simp only [Bool.or_eq_true, not_or, decide_eq_true_eq, Bool.not_eq_true', decide_eq_false_iff_not, Classical.not_not] at h3
        have hin := intW_in (s := f.s) h3.1.1
        exact key ⟨(ruleQ t).tag, (intW f.s 0 9223372036854775807).1, []⟩ (ruleQ_tag t) ⟨by rw [ruleQ_tag]; exact hb.1, by rw [ruleQ_tag]; exact hb.2, fun h9 => absurd (by rw [ruleQ_tag] at h9; exact h9) h2, fun _ => ⟨rfl, hin.1, by rw [ruleQ_tag]; show _ ≤ (ruleQ t).high; have := h3.2; dsimp only; omega⟩⟩ ⟨hin.1, by have := hin.2.1; dsimp only; omega, by simp⟩ h
theorem ruleQ_ok (T : List Int) : ∀ x ∈ T.map ruleQ, (x.kind = 1 ∨ x.kind = 2) ∧ 0 ≤ x.low ∧ x.high ≤ 9223372036854775807 := by
  intro x hx
  obtain ⟨t, _, rfl⟩ := List.mem_map.1 hx
  have := ruleQ_63 t
  exact ⟨ruleQ_kinds t, this.1, by omega⟩
theorem lowAll_of : ∀ (T : List Int) (l : List Fld), l.map Fld.tag = T → (∀ f ∈ l, (ruleQ f.tag).kind = 2 ∨ (ruleQ f.tag).low ≤ f.num) → lowAll (T.map ruleQ) l = true
  | [], l, _, _ => by simp [lowAll]
  | t :: T, [], h, _ => by simp at h
  | t :: T, f :: l, h, hl => by
    simp only [List.map_cons, List.cons.injEq] at h
    rw [List.map_cons, lowAll, lowAll_of T l h.2 (fun g hg => hl g (by simp [hg])), Bool.and_true]
    have := hl f (by simp)
    rw [h.1] at this
    simpa using this
/-- of a request that is one, no number is below its rule's -/
theorem low_check {k : Int} {l : List Fld} (h1 : l.map Fld.tag = tagL k) (h2 : ∀ f ∈ l, FldW f) (hc : checkQ (foldQ { zeroQ with kind := k } l) = 0) : ∀ f ∈ l, (ruleQ f.tag).kind = 2 ∨ (ruleQ f.tag).low ≤ f.num := by
  intro f hf
  have hk : (foldQ { zeroQ with kind := k } l).kind = k := foldQ_kind l _
  have hm : f.tag ∈ tagL k := by rw [← h1]; exact List.mem_map.2 ⟨f, hf, rfl⟩
  have hb := (tagL_asc k).2 f.tag hm
  have h3 := (((check_iff _).1 hc).2 f.tag hb.1 hb.2).2 (by rw [hk]; exact hm)
  rw [fold_getW l _ (by rw [h1]; exact (tagL_asc k).1) h2 f hf] at h3
  have h4 := h3.1
  rcases ruleQ_kinds f.tag with h5 | h5
  · right
    simp [nbF, h5] at h4
    exact h4.1
  · exact .inl h5
theorem parse_one {j : Nat} (hj : j < 14) (hm : maskOf (j : Int) ≠ 0) {fs : List Fd} (hne : fs ≠ []) (hf : ∀ f ∈ fs, f.s.length ≤ 2000) : parseR2 (j : Int) fs = if okQ j (fs.drop 1) = true then (candQ j (fs.drop 1), 0) else (zeroQ, 6) := by
  have hf2 : ∀ f ∈ fs.drop 1, f.s.length ≤ 2000 := fun f h => hf f (List.mem_of_mem_drop h)
  have hpos := List.length_pos_iff.2 hne
  have hdl : (fs.drop 1).length = fs.length - 1 := List.length_drop ..
  unfold parseR2 okQ candQ readQ
  rw [rules_mask hm]
  by_cases hlen : fs.length = (rulesQ (j : Int)).1.length + 1
  · rw [if_neg (show ¬ (!decide ((0 : Int) = 0) || !decide ((fs.length : Int) = ((rulesQ (j : Int)).1.length : Int) + 1)) = true from by simp; omega), if_neg (show ¬ (!decide (((fs.drop 1).length : Int) = ((rulesQ (j : Int)).1.length : Int))) = true from by simp; omega)]
    rw [rulesQ_tags, readGo_L _ _ _ (ruleQ_ok _), readR_L]
    cases hl : readL ((tagL j).map ruleQ) (fs.drop 1) with
    | none => simp
    | some l =>
      obtain ⟨k1, k2⟩ := readL_facts _ _ _ (tagL_asc j).2 hf2 hl
      have hro : RqOk (foldQ { zeroQ with kind := (j : Int) } l) := foldQ_ok (kindQ_ok j (by omega)) (fun f hf => by have := (k2 f hf).2; exact ⟨this.1, by have := this.2.1; omega, this.2.2⟩)
      simp only [Option.map_some, List.nil_append]
      rw [← checkQ_eq _ hro]
      by_cases hc : checkQ (foldQ { zeroQ with kind := (j : Int) } l) = 0
      · have hlow := lowAll_of (tagL j) l k1 (low_check k1 (fun f hf => (k2 f hf).1) hc)
        rw [hlow, if_pos rfl, if_neg (by rw [hc]; simp), if_pos (by simp [hc])]
      · rw [if_pos (by simp [hc])]
        by_cases hlow : lowAll ((tagL j).map ruleQ) l = true
        · rw [hlow, if_pos rfl, if_neg (by simp [hc])]
        · rw [if_neg hlow, if_neg (by simp)]
  · rw [if_pos (show (!decide ((0 : Int) = 0) || !decide ((fs.length : Int) = ((rulesQ (j : Int)).1.length : Int) + 1)) = true from by simp; omega), if_pos (show (!decide (((fs.drop 1).length : Int) = ((rulesQ (j : Int)).1.length : Int))) = true from by simp; omega), if_neg (by simp)]
theorem pGo_none (nm : List UInt8) (rest : List Fd) : ∀ n k : Nat, (∀ j, k ≤ j → j < k + n → rqName (j : Int) = nm → okQ j rest = false) → pGo nm rest n k = (zeroQ, 6)
  | 0, k, _ => rfl
  | n + 1, k, h => by
    rw [pGo]
    have ih := pGo_none nm rest n (k + 1) (fun j h1 h2 => h j (by omega) (by omega))
    split
    · exact ih
    · rename_i h1
      rw [h k (Nat.le_refl _) (by omega) (by simpa using h1), if_neg (by simp)]
      exact ih
theorem pGo_at {nm : List UInt8} {rest : List Fd} {j : Nat} (hj : rqName (j : Int) = nm) : ∀ n k : Nat, k ≤ j → j < k + n → (∀ i, k ≤ i → i < k + n → i ≠ j → rqName (i : Int) ≠ nm) → pGo nm rest n k = if okQ j rest = true then (candQ j rest, 0) else (zeroQ, 6)
  | 0, k, h1, h2, _ => by omega
  | n + 1, k, h1, h2, h => by
    rw [pGo]
    by_cases he : k = j
    · subst he
      rw [if_neg (by simp [hj])]
      have hn := pGo_none nm rest n (k + 1) (fun i i1 i2 i3 => absurd i3 (h i (by omega) (by omega) (by omega)))
      rw [hn]
    · rw [if_pos (by have := h k (Nat.le_refl _) (by omega) he; simp [this])]
      exact pGo_at hj n (k + 1) (by omega) (by omega) (fun i i1 i2 i3 => h i (by omega) (by omega) i3)
theorem okQ_mask {j : Nat} {rest : List Fd} (h : maskOf (j : Int) = 0) : okQ j rest = false := by
  unfold okQ
  have : checkQ (candQ j rest) ≠ 0 := by
    intro hc
    have h1 := ((check_iff _).1 hc).1
    unfold candQ at h1
    rw [foldQ_kind] at h1
    exact h1 h
  simp [this]
theorem names_uniq {i j : Nat} (hi : i < 14) (hj : j < 14) (hm : maskOf (j : Int) ≠ 0) (h : rqName (i : Int) = rqName (j : Int)) : i = j := by
  have key : ((List.range 14).all fun i => (List.range 14).all fun j => decide (maskOf (j : Int) = 0) || !decide (rqName (i : Int) = rqName (j : Int)) || decide (i = j)) = true := by decide +kernel
  have k1 := List.all_eq_true.1 (List.all_eq_true.1 key i (List.mem_range.2 hi)) j (List.mem_range.2 hj)
  simp only [Bool.or_eq_true, decide_eq_true_eq, Bool.not_eq_true', decide_eq_false_iff_not] at k1
  rcases k1 with (k1 | k1) | k1
  · exact absurd k1 hm
  · exact absurd h k1
  · exact k1
theorem kindOf_name {j : Nat} (hj : j < 14) (hm : maskOf (j : Int) ≠ 0) : kindOf (rqName (j : Int)) = j := by
  have key : ((List.range 14).all fun j => decide (maskOf (j : Int) = 0) || decide (kindOf (rqName (j : Int)) = (j : Int))) = true := by decide +kernel
  have k1 := List.all_eq_true.1 key j (List.mem_range.2 hj)
  simp only [Bool.or_eq_true, decide_eq_true_eq] at k1
  exact k1.resolve_left hm
theorem kindGo_spec (nm : List UInt8) : ∀ (n k : Nat) (kd : Int), kindGo nm n k kd = kd ∨ ∃ i : Nat, k ≤ i ∧ i < k + n ∧ kindGo nm n k kd = i ∧ nm = wordQ (i : Int)
  | 0, k, kd => .inl rfl
  | n + 1, k, kd => by
    rw [kindGo]
    rcases kindGo_spec nm n (k + 1) (if nm = wordQ (k : Int) then (k : Int) else kd) with h | ⟨i, h1, h2, h3, h4⟩
    · rw [h]
      split
      · rename_i hw; exact .inr ⟨k, Nat.le_refl _, by omega, rfl, hw⟩
      · exact .inl rfl
    · exact .inr ⟨i, by omega, by omega, h3, h4⟩
theorem parse_eq (line : List UInt8) : parseQ line = parseR9 line := by
  unfold parseQ parseR9
  have hsl := split1_len line
  generalize (split1 line).2 = e at *
  generalize (split1 line).1 = fs at *
  by_cases hc : ((!decide (e = 0) || decide ((fs.length : Int) = 0)) || (fd0 fs).q) = true
  · rw [if_pos hc, if_pos hc]
  · rw [if_neg hc, if_neg hc]
    have hne : fs ≠ [] := by rintro rfl; simp at hc
    generalize (fd0 fs).s = nm
    by_cases hx : ∃ j : Nat, j < 14 ∧ maskOf (j : Int) ≠ 0 ∧ rqName (j : Int) = nm
    · obtain ⟨j, hj, hm, rfl⟩ := hx
      rw [kindOf_name hj hm, parse_one hj hm hne hsl.2]
      exact pGo_at rfl 14 0 (by omega) (by omega) (fun i _ i2 i3 h => i3 (names_uniq (by omega) hj hm h))
    · rw [pGo_none nm (fs.drop 1) 14 0 (fun j _ h2 h3 => okQ_mask (by by_cases hm : maskOf (j : Int) = 0; exact hm; exact absurd ⟨j, by omega, hm, h3⟩ hx))]
      have hm : maskOf (kindOf nm) = 0 := by
        rcases kindGo_spec nm 13 1 0 with h | ⟨i, h1, h2, h3, h4⟩
        · unfold kindOf; rw [h]; rfl
        · unfold kindOf; rw [h3]
          by_cases hm : maskOf (i : Int) = 0
          · exact hm
          · exact absurd ⟨i, by omega, hm, by rw [rqName_word hm]; exact h4.symm⟩ hx
      unfold parseR2
      rw [if_pos (show (!decide ((rulesQ (kindOf nm)).2 = 0) || _) = true from by unfold rulesQ; rw [if_pos hm]; rfl)]
/-! ### lines -/
def fdOf (f : Fld) : Fd := if (ruleQ f.tag).kind = 2 then ⟨f.txt, true⟩ else ⟨Lib.decDigits f.num.toNat, false⟩
theorem formF_of (f : Fld) : formF (fdOf f) = partQ f := by unfold fdOf partQ formF; split <;> rfl
theorem fdOf_ok (f : Fld) : FdOk (fdOf f) := by
  unfold FdOk fdOf
  split
  · intro h; cases h
  · intro _; exact bare_digs _
theorem name_bare {k : Int} (hm : maskOf k ≠ 0) : bareC (rqName k) = true ∧ (rqName k).length ≤ 8 := by
  have h0 : ¬ (k < 0 ∨ 14 ≤ k) := fun h' => hm (mask_out h')
  refine ⟨?_, rqName_len k⟩
  rcases kinds14 (k := k) (by omega) (by omega) with rfl | rfl | rfl | rfl | rfl | rfl | rfl | rfl | rfl | rfl | rfl | rfl | rfl | rfl <;> first | exact absurd rfl hm | (exfalso; revert hm; decide +kernel) | decide +kernel
theorem inI_of {n : Int} (h0 : 0 ≤ n) (h1 : n ≤ 9223372036854775807) : inI n = true := by unfold inI; simp; omega
/-- the fields of a request are read from their forms -/
theorem readGo_of : ∀ (T : List Int) (l acc : List Fld), l.map Fld.tag = T → (∀ f ∈ l, FldR f) → readGo (T.map ruleQ) (l.map fdOf) acc = (acc ++ l, true)
  | [], l, acc, h, _ => by cases l with | nil => rw [List.map_nil, readGo, List.append_nil] | cons a l => simp at h
  | t :: T, [], acc, h, _ => by simp at h
  | t :: T, f :: l, acc, h, hR => by
    simp only [List.map_cons, List.cons.injEq] at h
    obtain ⟨rfl, hT⟩ := h
    obtain ⟨r1, r2, r3⟩ := hR f (by simp)
    have h63 := ruleQ_63 f.tag
    have hfd : f.num = 0 ∧ (ruleQ f.tag).kind = 2 ∨ (ruleQ f.tag).kind ≠ 2 ∧ f.txt = [] ∧ (ruleQ f.tag).low ≤ f.num ∧ f.num ≤ (ruleQ f.tag).high := by
      have h := fldE_kind _ _ r3
      rcases ruleQ_kinds f.tag with hk | hk
      · obtain ⟨h1, h2⟩ := h.1 hk
        unfold within at h2
        simp only [Bool.and_eq_true, decide_eq_true_eq] at h2
        exact .inr ⟨by omega, h1, h2.1, h2.2⟩
      · exact .inl ⟨(h.2 (by omega)).1, hk⟩
    have ih := fun acc => readGo_of T l acc hT (fun g hg => hR g (by simp [hg]))
    rw [List.map_cons, List.map_cons, readGo]
    rcases hfd with ⟨h0, hk⟩ | ⟨hk, ht, hlo, hhi⟩
    · have hfo : fdOf f = ⟨f.txt, true⟩ := if_pos hk
      rw [hfo, if_neg (by simp [hk]), if_pos hk, ih]
      have he : (⟨(ruleQ f.tag).tag, 0, f.txt⟩ : Fld) = f := by rw [ruleQ_tag]; cases f; simp at h0; rw [h0]
      rw [he]; simp
    · have hfo : fdOf f = ⟨Lib.decDigits f.num.toNat, false⟩ := if_neg hk
      have hdv := decC_digs f.num.toNat
      have hn : ((f.num.toNat : Nat) : Int) = f.num := by omega
      rw [hfo, if_neg (by simp [hk]), if_neg hk]
      dsimp only
      rw [intW_cases, hdv.2, hn, if_pos (show decC (Lib.decDigits f.num.toNat) = true ∧ inI f.num = true ∧ (ruleQ f.tag).low ≤ f.num ∧ f.num ≤ (ruleQ f.tag).high from ⟨hdv.1, inI_of (by omega) (by omega), hlo, hhi⟩), if_neg (by simp), ih]
      have he : (⟨(ruleQ f.tag).tag, f.num, []⟩ : Fld) = f := by rw [ruleQ_tag]; cases f; simp at ht; rw [ht]
      dsimp only
      rw [he]; simp
/-- Parse of Print is the request -/
theorem parse_print {r : Rq} (hr : RqOk r) (h : (printQ r).2 = 0) : parseQ (printQ r).1 = (r, 0) ∧ checkQ r = 0 := by
  have hc : checkQ r = 0 := by
    by_cases hc : checkQ r = 0
    · exact hc
    · unfold printQ at h
      rw [if_pos (by rw [show (fieldsOf r).2 = checkQ r from rfl]; simp [hc])] at h
      exact absurd h hc
  refine ⟨?_, hc⟩
  have hm := ((check_iff r).1 hc).1
  have hk := fieldsOf_kind (r := r) hc
  have ht := tags_of_fields hc
  have hR := fields_R hc
  have hs := strs_Q hc
  have h5 := fieldsOf_500 hr (strs_Q500 hc)
  have hb := name_bare hm
  obtain ⟨fs, hfs⟩ : ∃ fs : List Fd, fs = ⟨rqName r.kind, false⟩ :: (fieldsOf r).1.map fdOf := ⟨_, rfl⟩
  have hp : (printQ r).1 = lineF fs := by
    unfold printQ lineF
    rw [if_neg (by rw [show (fieldsOf r).2 = 0 from hc]; simp), hfs, List.map_cons, List.map_map]
    have e : (fieldsOf r).1.map partQ = (fieldsOf r).1.map (formF ∘ fdOf) := (List.map_congr_left fun f _ => (formF_of f)).symm
    rw [e]; rfl
  have hln : (fieldsOf r).1.length ≤ 4 := by rw [fields_list hc, List.length_map]; exact tagL_len _
  have h56 : ∀ f ∈ (fieldsOf r).1, f.txt.length ≤ 56 := by
    intro f hf
    rw [fields_list hc] at hf
    obtain ⟨t, _, rfl⟩ := List.mem_map.1 hf
    unfold fieldQ
    (repeat' split) <;> simp only [List.length_nil] <;> omega
  have hok : ∀ f ∈ fs, FdOk f := by
    intro f hf
    rw [hfs] at hf
    rcases List.mem_cons.1 hf with rfl | hf
    · exact fun _ => hb.1
    · obtain ⟨g, _, rfl⟩ := List.mem_map.1 hf
      exact fdOf_ok g
  have h2000 : ∀ f ∈ fs, f.s.length ≤ 2000 := by
    intro f hf
    rw [hfs] at hf
    rcases List.mem_cons.1 hf with rfl | hf
    · show (rqName r.kind).length ≤ 2000; omega
    · obtain ⟨g, hg, rfl⟩ := List.mem_map.1 hf
      have h1 := h56 g hg
      have h2 := (h5.1 g hg).1
      have h3 := digitsQ_20 h2.1 h2.2.1
      unfold fdOf
      split
      · show g.txt.length ≤ 2000; omega
      · show (Lib.decDigits g.num.toNat).length ≤ 2000; omega
  have h8192 : (lineF fs).length ≤ 8192 := by
    rw [← hp]
    unfold printQ
    rw [if_neg (by rw [show (fieldsOf r).2 = 0 from hc]; simp), Lib.join_cons, List.length_append]
    have h1 := joinTailQ_len [32] 226 ((fieldsOf r).1.map partQ) (fun x hx => by
      obtain ⟨f, hf, rfl⟩ := List.mem_map.1 hx
      have h1 := h56 f hf
      have h2 := (h5.1 f hf).1
      have h3 := digitsQ_20 h2.1 h2.2.1
      have h4 := quote_len f.txt
      unfold partQ
      (repeat' split) <;> omega)
    have h4 : (fieldsOf r).1.length * (226 + [(32 : UInt8)].length) ≤ 4 * 227 := Nat.mul_le_mul hln (by simp)
    rw [List.length_map] at h1
    have := hb.2
    omega
  have hsp := split_line (fs := fs) (by rw [hfs]; simp) hok (by rw [hfs]; simp; omega) h2000 h8192
  rw [hp]
  unfold parseQ
  rw [hsp]
  have hkn : ((r.kind.toNat : Nat) : Int) = r.kind := by omega
  have hcand : candQ r.kind.toNat ((fieldsOf r).1.map fdOf) = r ∧ (readQ (rulesQ r.kind).1 ((fieldsOf r).1.map fdOf)) = ((fieldsOf r).1, true) := by
    have h2 : readQ (rulesQ r.kind).1 ((fieldsOf r).1.map fdOf) = ((fieldsOf r).1, true) := by
      unfold readQ
      rw [rulesQ_tags, if_neg (by rw [List.length_map, List.length_map, ← ht, List.length_map]; simp), readGo_of (tagL r.kind) (fieldsOf r).1 [] ht hR]
      rfl
    refine ⟨?_, h2⟩
    unfold candQ
    rw [hkn, h2]
    exact fold_backQ hr hc
  have hokq : okQ r.kind.toNat ((fieldsOf r).1.map fdOf) = true := by
    unfold okQ
    rw [hcand.1, hkn, hcand.2, hc]; rfl
  rw [if_neg (by rw [hfs]; simp; omega)]
  show pGo (fd0 fs).s (fs.drop 1) 14 0 = _
  rw [hfs]
  show pGo (rqName r.kind) ((fieldsOf r).1.map fdOf) 14 0 = _
  rw [pGo_at (j := r.kind.toNat) (by rw [hkn]) 14 0 (by omega) (by omega) (fun i _ i2 i3 h => i3 (names_uniq (by omega) (by omega) (by rw [hkn]; exact hm) (by rw [hkn]; exact h))), hokq, if_pos rfl, hcand.1]
theorem readGo_back : ∀ (T : List Int) (fs : List Fd) (acc l : List Fld), (∀ t ∈ T, 1 ≤ t ∧ t ≤ 9) → fs.length = T.length → readGo (T.map ruleQ) fs acc = (l, true) → ∃ l', l = acc ++ l' ∧ l'.map Fld.tag = T ∧ l'.map partQ = fs.map formF ∧ ∀ f ∈ l', FldW f
  | [], fs, acc, l, _, hl, h => by
    rw [List.map_nil, readGo] at h
    cases h
    cases fs with
    | nil => exact ⟨[], by simp, rfl, rfl, by simp⟩
    | cons a fs => simp at hl
  | t :: T, [], acc, l, _, hl, h => by simp at hl
  | t :: T, f :: fs, acc, l, ht, hl, h => by
    have hb := ht t (by simp)
    have h63 := ruleQ_63 t
    rw [List.map_cons, readGo] at h
    split at h
    · cases h
    · rename_i hq
      have hq' : f.q = decide ((ruleQ t).kind = 2) := by simpa using hq
      have go : ∀ y : Fld, y.tag = t → partQ y = formF f → FldW y → readGo (T.map ruleQ) fs (acc ++ [y]) = (l, true) → ∃ l', l = acc ++ l' ∧ l'.map Fld.tag = t :: T ∧ l'.map partQ = (f :: fs).map formF ∧ ∀ f ∈ l', FldW f := by
        intro y hy hpf hw h
        obtain ⟨l', e1, e2, e3, e4⟩ := readGo_back T fs (acc ++ [y]) l (fun u hu => ht u (by simp [hu])) (by simpa using hl) h
        exact ⟨y :: l', by rw [e1]; simp, by rw [List.map_cons, hy, e2], by rw [List.map_cons, List.map_cons, hpf, e3], fun g hg => (List.mem_cons.1 hg).elim (fun e => by rw [e]; exact hw) (e4 g)⟩
      split at h
      · rename_i h2
        refine go _ (ruleQ_tag t) ?_ ⟨by rw [ruleQ_tag]; exact hb.1, by rw [ruleQ_tag]; exact hb.2, fun _ => rfl, fun h9 => absurd (by rw [ruleQ_tag]; exact h2) h9⟩ h
        unfold partQ formF
        rw [hq', if_pos (by rw [ruleQ_tag]; exact h2), if_pos (by simp [h2])]
      · rename_i h2
        split at h
        · cases h
        · rename_i h3
          have hin := intW_in (s := f.s) (lo := (ruleQ t).low) (hi := (ruleQ t).high) (by simpa using h3)
          refine go _ (ruleQ_tag t) ?_ ⟨by rw [ruleQ_tag]; exact hb.1, by rw [ruleQ_tag]; exact hb.2, fun h9 => absurd (by rw [ruleQ_tag] at h9; exact h9) h2, fun _ => ⟨rfl, by dsimp only; omega, by rw [ruleQ_tag]; exact hin.2.1⟩⟩ h
          unfold partQ formF
          rw [hq', if_neg (by rw [ruleQ_tag]; exact h2), if_neg (by simp [h2])]
          dsimp only
          rw [hin.2.2.2]
          exact digs_back hin.2.2.1 (by have := hin.1; rw [hin.2.2.2] at this; omega)
theorem pGo_some (nm : List UInt8) (rest : List Fd) : ∀ n k : Nat, (pGo nm rest n k).2 = 0 → ∃ j, k ≤ j ∧ j < k + n ∧ rqName (j : Int) = nm ∧ okQ j rest = true ∧ pGo nm rest n k = (candQ j rest, 0)
  | 0, k, h => by cases h
  | n + 1, k, h => by
    rw [pGo] at h ⊢
    split at h
    · rename_i h1
      rw [if_pos h1]
      obtain ⟨j, a, b, c⟩ := pGo_some nm rest n (k + 1) h
      exact ⟨j, by omega, by omega, c⟩
    · rename_i h1
      rw [if_neg h1]
      split at h
      · rename_i h2
        rw [if_pos h2]
        exact ⟨k, Nat.le_refl _, by omega, by simpa using h1, h2, rfl⟩
      · rename_i h2
        rw [if_neg h2]
        obtain ⟨j, a, b, c⟩ := pGo_some nm rest n (k + 1) h
        exact ⟨j, by omega, by omega, c⟩
/-- Print of what Parse returns is the line -/
theorem print_parse {line : List UInt8} (h : (parseQ line).2 = 0) : printQ (parseQ line).1 = (line, 0) ∧ RqOk (parseQ line).1 ∧ checkQ (parseQ line).1 = 0 := by
  unfold parseQ at h ⊢
  have hsl := split1_len line
  have hls := line_split (s := line)
  generalize (split1 line).2 = e at *
  generalize (split1 line).1 = fs at *
  by_cases hc : ((!decide (e = 0) || decide ((fs.length : Int) = 0)) || (fd0 fs).q) = true
  · rw [if_pos hc] at h; cases h
  · rw [if_neg hc] at h ⊢
    have hne : fs ≠ [] := by rintro rfl; simp at hc
    have he : e = 0 := by
      simp only [Bool.or_eq_true, not_or, Bool.not_eq_true', decide_eq_false_iff_not, Classical.not_not] at hc
      exact hc.1.1
    have hq : (fd0 fs).q = false := by
      simp only [Bool.or_eq_true, not_or, Bool.not_eq_true] at hc
      exact hc.2
    obtain ⟨j, _, j2, hn, hok, hg⟩ := pGo_some _ _ 14 0 h
    rw [hg]
    dsimp only
    obtain ⟨hline, _⟩ := hls he hne
    have hfr : ∀ f ∈ fs.drop 1, f.s.length ≤ 2000 := fun f h => hsl.2 f (List.mem_of_mem_drop h)
    have hro := candQ_ok (k := j) (rest := fs.drop 1) (by omega) hfr
    unfold okQ at hok
    simp only [Bool.and_eq_true, decide_eq_true_eq] at hok
    obtain ⟨hrd, hck⟩ := hok
    refine ⟨?_, hro, hck⟩
    have hm : maskOf (j : Int) ≠ 0 := by
      have h1 := ((check_iff _).1 hck).1
      unfold candQ at h1
      rw [foldQ_kind] at h1
      exact h1
    obtain ⟨l, hl⟩ : ∃ l, readQ (rulesQ (j : Int)).1 (fs.drop 1) = (l, true) := ⟨_, by rw [← hrd]⟩
    have hl2 := hl
    unfold readQ at hl2
    split at hl2
    · cases hl2
    · rename_i hlen
      rw [rulesQ_tags] at hl2
      obtain ⟨l', e1, e2, e3, e4⟩ := readGo_back (tagL j) (fs.drop 1) [] l (tagL_asc j).2 (by rw [rulesQ_tags, List.length_map] at hlen; simp only [Bool.not_eq_true', decide_eq_false_iff_not, Classical.not_not] at hlen; omega) hl2
      rw [List.nil_append] at e1
      subst e1
      have hcand : candQ j (fs.drop 1) = foldQ { zeroQ with kind := (j : Int) } l := by unfold candQ; rw [hl]
      have hkind : (candQ j (fs.drop 1)).kind = j := by rw [hcand, foldQ_kind]
      have hfields : (fieldsOf (candQ j (fs.drop 1))).1 = l := by
        rw [fields_list hck, hkind, ← e2, List.map_map]
        conv => rhs; rw [← List.map_id l]
        apply List.map_congr_left
        intro f hf
        show (fieldQ _ f.tag).1 = f
        rw [hcand, fold_getW l _ (by rw [e2]; exact (tagL_asc j).1) e4 f hf]
      unfold printQ
      rw [if_neg (by rw [show (fieldsOf (candQ j (fs.drop 1))).2 = 0 from hck]; simp), hfields, hkind, hn, e3]
      conv => rhs; rw [hline]
      unfold lineF
      congr 2
      match fs, hne, hq with
      | a :: fs', _, hq =>
        have hqa : a.q = false := hq
        rw [List.map_cons]
        show a.s :: _ = formF a :: _
        unfold formF
        rw [hqa]
        rfl

end Go.Proofs.YtckbomkcnmcdaaaGreatDoor
