/- responses: Print and Parse are the reference's; they are inverse to each other. -/
import Derived.Test.YtcobkjognpjikaaGreatDoorTB
import Derived.Test.YtcobkjognpjikaaGreatDoorPD
set_option linter.unusedSimpArgs false
set_option linter.unusedVariables false
namespace Go.Proofs.YtcobkjognpjikaaGreatDoor

def lowAll : List Rule → List Fld → Bool
  | x :: rs, f :: l => (decide (x.kind = 2) || decide (x.low ≤ f.num)) && lowAll rs l
  | _, _ => true
theorem readGo_L : ∀ (rs : List Rule) (fs : List Fd) (acc : List Fld), Low63 rs →
    readGo rs fs acc = match readL rs fs with
      | none => ([], false)
      | some l => if lowAll rs l = true then (acc ++ l, true) else ([], false)
  | [], fs, acc, _ => by rw [readGo, readL]; simp [lowAll]
  | x :: rs, [], acc, _ => by rw [readGo, readL]
  | x :: rs, f :: fs, acc, h => by
    obtain ⟨hk, h0, _, _, h9⟩ := h x (by simp)
    have ih := fun acc => readGo_L rs fs acc (fun y hy => h y (by simp [hy]))
    rw [readGo, readL]
    by_cases hq2 : (!decide (f.q = decide (x.kind = 2))) = true
    · rw [if_pos hq2, if_pos hq2]
    · rw [if_neg hq2, if_neg hq2]
      by_cases hq : f.q = true
      · rw [if_pos hq, if_pos hq, ih]
        have h2 : x.kind = 2 := by rw [hq] at hq2; simpa using hq2
        cases readL rs fs with
        | none => rfl
        | some l => simp [lowAll, h2]
      · rw [if_neg hq, if_neg hq]
        have h2 : ¬ x.kind = 2 := by intro h2; rw [h2] at hq2; simp at hq2; exact hq hq2
        rw [intW_cases f.s x.low x.high, intW_cases f.s 0 9223372036854775807]
        by_cases hc : decC f.s = true ∧ inI (decV f.s) = true ∧ 0 ≤ decV f.s ∧ decV f.s ≤ x.high
        · obtain ⟨c1, c2, c3, c4⟩ := hc
          rw [if_pos (show decC f.s = true ∧ inI (decV f.s) = true ∧ 0 ≤ decV f.s ∧ decV f.s ≤ 9223372036854775807 from ⟨c1, c2, c3, by omega⟩), if_neg (show ¬ (!decide (((decV f.s, (0 : Int)) : Int × Int).2 = 0) || decide (x.high < (decV f.s, (0 : Int)).1)) = true from by simp; omega)]
          by_cases hl : x.low ≤ decV f.s
          · rw [if_pos (show decC f.s = true ∧ inI (decV f.s) = true ∧ x.low ≤ decV f.s ∧ decV f.s ≤ x.high from ⟨c1, c2, hl, c4⟩), if_neg (by simp), ih]
            cases readL rs fs with
            | none => rfl
            | some l => simp [lowAll, h2, hl]
          · rw [if_neg (show ¬ (decC f.s = true ∧ inI (decV f.s) = true ∧ x.low ≤ decV f.s ∧ decV f.s ≤ x.high) from fun h => hl h.2.2.1), if_neg (show ¬ decC f.s = false from by rw [c1]; simp), if_pos (show (!decide (((0 : Int), (7 : Int)).2 = 0)) = true from rfl)]
            cases readL rs fs with
            | none => rfl
            | some l => simp [lowAll, h2, hl]
        · rw [if_neg (show ¬ (decC f.s = true ∧ inI (decV f.s) = true ∧ x.low ≤ decV f.s ∧ decV f.s ≤ x.high) from fun h => hc ⟨h.1, h.2.1, by omega, h.2.2.2⟩)]
          have hA : (if decC f.s = false then ((0 : Int), (6 : Int)) else (0, 7)).2 ≠ 0 := by split <;> simp
          rw [if_pos (show (!decide ((if decC f.s = false then ((0 : Int), (6 : Int)) else (0, 7)).2 = 0)) = true from by rw [decide_eq_false hA]; rfl)]
          by_cases hd : decC f.s = true ∧ inI (decV f.s) = true ∧ 0 ≤ decV f.s ∧ decV f.s ≤ 9223372036854775807
          · have h9 : ¬ decV f.s ≤ x.high := fun h => hc ⟨hd.1, hd.2.1, hd.2.2.1, h⟩
            rw [if_pos hd, if_pos (show (!decide (((decV f.s, (0 : Int)) : Int × Int).2 = 0) || decide (x.high < (decV f.s, (0 : Int)).1)) = true from by simp; omega)]
          · rw [if_neg hd, if_pos (show (!decide ((if decC f.s = false then ((0 : Int), (6 : Int)) else (0, 7)).2 = 0) || _) = true from by rw [decide_eq_false hA]; rfl)]
theorem limitS_kind {k t : Int} (h1 : 1 ≤ t) (h2 : t ≤ 8) : (limitS k t).kind = 2 ↔ (t = 3 ∨ t = 4) := by
  rcases tags8 h1 h2 with rfl | rfl | rfl | rfl | rfl | rfl | rfl | rfl <;> by_cases hk : k = 0 <;> simp [limitS, hk]
/-- what is read by the rules of tags T -/
theorem readL_facts (k : Int) : ∀ (T : List Int) (fs : List Fd) (l : List Fld), (∀ t ∈ T, 1 ≤ t ∧ t ≤ 8) → (∀ f ∈ fs, f.s.length ≤ 2000) → readL (T.map (limitS k)) fs = some l → l.map Fld.tag = T ∧ ∀ f ∈ l, FldV f ∧ FldL f
  | [], fs, l, _, _, h => by rw [List.map_nil, readL] at h; cases h; simp
  | t :: T, [], l, _, _, h => by rw [List.map_cons, readL] at h; cases h
  | t :: T, f :: fs, l, ht, hf, h => by
    have hb := ht t (by simp)
    rw [List.map_cons, readL] at h
    have key : ∀ (y : Fld), y.tag = t → FldV y → FldL y → (readL (T.map (limitS k)) fs).map (y :: ·) = some l → l.map Fld.tag = t :: T ∧ (∀ f ∈ l, FldV f ∧ FldL f) := by
      intro y hy hw hl h
      cases hr : readL (T.map (limitS k)) fs with
      | none => rw [hr] at h; cases h
      | some l' =>
        rw [hr] at h
        simp only [Option.map_some, Option.some.injEq] at h
        subst h
        obtain ⟨k1, k2⟩ := readL_facts k T fs l' (fun u hu => ht u (by simp [hu])) (fun g hg => hf g (by simp [hg])) hr
        exact ⟨by rw [List.map_cons, hy, k1], fun g hg => (List.mem_cons.1 hg).elim (fun e => by rw [e]; exact ⟨hw, hl⟩) (k2 g)⟩
    have hk := limitS_kind (k := k) hb.1 hb.2
    split at h
    · cases h
    · rename_i hq2
      have hqe : f.q = decide ((limitS k t).kind = 2) := by simpa using hq2
      split at h
      · rename_i hq
        rw [hq] at hqe
        have h34 := hk.1 (by simpa using hqe.symm)
        exact key ⟨(limitS k t).tag, 0, f.s⟩ (limitS_tag k t) ⟨by rw [limitS_tag]; exact hb.1, by rw [limitS_tag]; exact hb.2, fun _ => rfl, fun h9 h8 => by rw [limitS_tag] at h9 h8; rcases h34 with h | h; exact absurd h h9; exact absurd h h8⟩ ⟨by simp, by simp, hf f (by simp)⟩ h
      · rename_i hq
        split at h
        · cases h
        · rename_i h3
          simp only [Bool.or_eq_true, not_or, decide_eq_true_eq, Bool.not_eq_true', decide_eq_false_iff_not, Classical.not_not] at h3
          have hin := intW_in (s := f.s) h3.1
          have hn34 : ¬ (t = 3 ∨ t = 4) := fun h => by have := hk.2 h; rw [this] at hqe; simp at hqe; exact hq hqe
          exact key ⟨(limitS k t).tag, (intW f.s 0 9223372036854775807).1, []⟩ (limitS_tag k t) ⟨by rw [limitS_tag]; exact hb.1, by rw [limitS_tag]; exact hb.2, fun h9 => by rw [limitS_tag] at h9; exact absurd h9 hn34, fun _ _ => ⟨rfl, hin.1, hin.2.1⟩⟩ ⟨hin.1, hin.2.1, by simp⟩ h
theorem lowAll_of (k : Int) : ∀ (T : List Int) (l : List Fld), l.map Fld.tag = T → (∀ f ∈ l, (limitS k f.tag).kind = 2 ∨ (limitS k f.tag).low ≤ f.num) → lowAll (T.map (limitS k)) l = true
  | [], l, _, _ => by simp [lowAll]
  | t :: T, [], h, _ => by simp at h
  | t :: T, f :: l, h, hl => by
    simp only [List.map_cons, List.cons.injEq] at h
    rw [List.map_cons, lowAll, lowAll_of k T l h.2 (fun g hg => hl g (by simp [hg])), Bool.and_true]
    have := hl f (by simp)
    rw [h.1] at this
    simpa using this
theorem limitS_kinds (k t : Int) : (limitS k t).kind = 1 ∨ (limitS k t).kind = 2 := (limitS_63 k t).1
theorem low_check {k form : Int} {l : List Fld} (h1 : l.map Fld.tag = tagsT k form) (h2 : ∀ f ∈ l, FldV f) (he : decide ((foldS k l).err = 0) = decide (form = 0)) (hc : checkS (foldS k l) = 0) : ∀ f ∈ l, (limitS k f.tag).kind = 2 ∨ (limitS k f.tag).low ≤ f.num := by
  intro f hf
  have hp := (check_parts hc).2 f.tag (by rw [foldS_kind, tagsT_form he, ← h1]; exact List.mem_map.2 ⟨f, hf, rfl⟩)
  have hg := fold_get l { zeroS with kind := k } (by rw [h1]; exact (tagsT_asc k form).1) h2 f hf
  have h3 := hp.1
  rw [foldS_kind] at h3
  rw [show fieldS (foldS k l) f.tag = f from hg] at h3
  rcases limitS_kinds k f.tag with h5 | h5
  · right
    simp [nbS, h5] at h3
    exact h3.1
  · exact .inl h5
theorem tryP_eq {k form : Int} (hk : R64 k) {fs : List Fd} (hf : ∀ f ∈ fs, f.s.length ≤ 2000) : tryP k form fs = tryR k (!decide (form = 0)) fs := by
  unfold tryP tryR fitsT readQ
  rw [← limits_eq]
  by_cases hlen : (!decide ((fs.length : Int) = (limitsS k form).length)) = true
  · rw [if_pos hlen, if_pos hlen, if_neg (by simp)]
  · rw [if_neg hlen, if_neg hlen, readGo_L _ _ _ (limitsS_63 k form)]
    cases hl : readL (limitsS k form) fs with
    | none => simp
    | some l =>
      obtain ⟨k1, k2⟩ := readL_facts k _ _ _ (tagsT_asc k form).2 hf hl
      have hro : RsOk (foldS k l) := foldL_ok hk (fun f hf => (k2 f hf).2)
      dsimp only
      simp only [List.nil_append, ← checkS_eq _ hro]
      by_cases hc : decide ((foldS k l).err = 0) = decide (form = 0) ∧ checkS (foldS k l) = 0
      · have hlow := lowAll_of k (tagsT k form) l k1 (low_check k1 (fun f hf => (k2 f hf).1) hc.1 hc.2)
        rw [show lowAll (limitsS k form) l = true from hlow, if_pos rfl, if_pos rfl]
        unfold acceptS
        rw [if_neg (by rw [hc.1, hc.2]; simp), if_pos (by rw [hc.1, hc.2]; simp)]
      · rw [if_neg (show ¬ (decide ((!decide ((foldS k l).err = 0)) = (!decide (form = 0))) && decide (checkS (foldS k l) = 0)) = true from by
          simp only [Bool.and_eq_true, decide_eq_true_eq]
          rintro ⟨h1, h2⟩
          exact hc ⟨by simpa using congrArg (!·) h1, h2⟩)]
        split
        · rename_i hlow
          rw [if_pos rfl]
          unfold acceptS
          rw [if_pos]
          simp only [Bool.or_eq_true, Bool.not_eq_true', decide_eq_false_iff_not]
          by_cases h1 : decide ((foldS k l).err = 0) = decide (form = 0)
          · exact .inr fun h2 => hc ⟨h1, h2⟩
          · exact .inl h1
        · rfl
theorem word_eq {k : Nat} (h : k < 14) : rsName (k : Int) = wordT (k : Int) := by
  have key : ((List.range 14).all fun k => decide (rsName (k : Int) = wordT (k : Int))) = true := by decide +kernel
  simpa using List.all_eq_true.1 key k (List.mem_range.2 h)
theorem go_eq {nm : List UInt8} {fs : List Fd} (hf : ∀ f ∈ fs, f.s.length ≤ 2000) : ∀ n k : Nat, k + n ≤ 14 → parseGo nm fs n k = parseGoT nm fs n k
  | 0, k, _ => rfl
  | n + 1, k, h => by
    have hk : R64 (k : Int) := by unfold R64; omega
    rw [parseGo, parseGoT, word_eq (by omega), tryP_eq hk hf, tryP_eq hk hf, go_eq hf n (k + 1) (by omega)]
    rfl
theorem parseS_eq (line : List UInt8) : parseS line = parseT line := by
  unfold parseS parseT
  rw [go_eq (fun f hf => (split1_len line).2 f (List.mem_of_mem_drop hf)) 14 0 (Nat.le_refl _)]
/-! Print is the reference's -/
theorem textR_join (w : List UInt8) : ∀ l : List Fld, textR w l = w ++ Lib.joinTail [32] (l.map partR) := by
  intro l
  induction l generalizing w with
  | nil => simp [textR, Lib.joinTail]
  | cons f l ih =>
    rw [show textR w (f :: l) = textR (w ++ [32] ++ partR f) l from rfl, ih]
    simp [Lib.joinTail]
theorem num_63 {r : Rs} {t : Int} (h1 : 1 ≤ t) (h2 : t ≤ 8) (hn : nbS (limitS r.kind t) (fieldS r t) = false) (h34 : ¬ (t = 3 ∨ t = 4)) : (limitS r.kind t).low ≤ (fieldS r t).num ∧ (fieldS r t).num ≤ (limitS r.kind t).high := by
  have hk : (limitS r.kind t).kind = 1 := by
    rcases limitS_kinds r.kind t with h | h
    · exact h
    · exact absurd ((limitS_kind h1 h2).1 h) h34
  simp [nbS, hk] at hn
  exact hn
theorem itoa_63 {n : Int} (h0 : 0 ≤ n) (h1 : n ≤ 9223372036854775807) : Lib.itoa (IntKind.i64.wrap n) = Lib.decDigits n.toNat := by
  rw [show IntKind.i64.wrap n = n from by rw [IntKind.wrap_i64]; omega]
  unfold Lib.itoa; rw [if_neg (by omega)]
theorem part_eq {r : Rs} {t : Int} (h1 : 1 ≤ t) (h2 : t ≤ 8) (hn : nbS (limitS r.kind t) (fieldS r t) = false) : partR (fieldS r t) = pieceS r t := by
  unfold partR pieceS
  rw [fieldS_tag]
  by_cases h3 : t = 3
  · rw [if_pos (by simp [h3]), if_pos h3]
  · rw [if_neg h3]
    by_cases h4 : t = 4
    · rw [if_pos (by simp [h4]), if_pos h4]
    · rw [if_neg (by simp [h3, h4]), if_neg h4]
      have hb := num_63 h1 h2 hn (by omega)
      have h63 := limitS_63 r.kind t
      exact itoa_63 (by omega) (by omega)
theorem printS_eq {r : Rs} (hr : RsOk r) : printS r = printT r := by
  unfold printS printT
  rw [← checkS_eq _ hr]
  by_cases h : checkS r = 0
  · have hp := check_parts h
    have hk := known_lt (checkS_known h)
    rw [if_neg (by rw [h]; simp), if_neg (by rw [h]; simp), textR_join, Lib.join_cons]
    have hw : rsName r.kind = wordT r.kind := by
      have := word_eq (k := r.kind.toNat) (by omega)
      rwa [show ((r.kind.toNat : Nat) : Int) = r.kind from by omega] at this
    rw [← msg_eq, hw]
    congr 3
    unfold msgS
    rw [List.map_map]
    apply List.map_congr_left
    intro t ht
    have hb := (tagsT_asc r.kind r.err).2 t ht
    exact (part_eq hb.1 hb.2 (hp.2 t ht).1).symm
  · rw [if_pos (by simp [h]), if_pos (by simp [h])]
/-! Parse of Print -/
/-- the field of a line that says a field -/
def fdS (r : Rs) (t : Int) : Fd := if t = 3 ∨ t = 4 then ⟨(fieldS r t).txt, true⟩ else ⟨Lib.decDigits (fieldS r t).num.toNat, false⟩
/-! Print of Parse -/
end Go.Proofs.YtcobkjognpjikaaGreatDoor
