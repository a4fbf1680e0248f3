/- fields: the plain law: Encode, Decode and the reference's come to the same; what is decoded is what was encoded. -/
import Derived.Test.YtcobkjognpjikaaGreatDoorFD
set_option linter.unusedSimpArgs false
set_option linter.unusedVariables false
namespace Go.Proofs.YtcobkjognpjikaaGreatDoor



def finR (rs : List Rule) (b : List UInt8) (acc : List Fld) : List Fld × Int × Int := if missing rs rs.length acc = true then ([], (b.length : Int), 11) else (acc, 0, 0)
def idxN (t : Int) (rs : List Rule) : Nat := (idx (fun x => decide (Rule.tag x = t)) 0 rs).toNat
def decR (rs : List Rule) (b : List UInt8) : Nat → Int → List Fld → Nat → List Fld × Int × Int
  | 0, _, acc, _ => finR rs b acc
  | n + 1, last, acc, k =>
    match b[k]? with
    | none => finR rs b acc
    | some c =>
      if ((!ruleHas c.toNat rs || decide ((ruleAt c.toNat rs).tag ≤ last)) || missing rs (idxN c.toNat rs) acc) = true then ([], (k : Int), 11)
      else if (!(readV (ruleAt c.toNat rs) (b.drop (k + 1))).2.2) = true then ([], (k : Int), 11)
      else decR rs b n (readV (ruleAt c.toNat rs) (b.drop (k + 1))).1.tag (acc ++ [(readV (ruleAt c.toNat rs) (b.drop (k + 1))).1]) (k + 1 + (readV (ruleAt c.toNat rs) (b.drop (k + 1))).2.1.toNat)
def decodeR (rs : List Rule) (b : List UInt8) : List Fld × Int × Int := if refCheck rs = 0 then decR rs b b.length 0 [] 0 else ([], 0, refCheck rs)
theorem low_succ (x : Int) : ∀ n, low x (n + 1) = low (x / 256) n ++ [x % 256]
  | 0 => by simp [low]
  | n + 1 => by
    have ih := low_succ x n
    show x / 2 ^ (8 * (n + 1)) % 256 :: low x (n + 1) = (x / 256 / 2 ^ (8 * n) % 256 :: low (x / 256) n) ++ [x % 256]
    rw [ih, List.cons_append]
    have e : x / 2 ^ (8 * (n + 1)) = x / 256 / 2 ^ (8 * n) := by
      rw [Int.ediv_ediv_of_nonneg (by omega), show 8 * (n + 1) = 8 + 8 * n from by omega, Int.pow_add]
      rfl
    rw [e]
theorem digs_step (x : Int) (h : 0 < x) : digs x = digs (x / 256) ++ [x % 256] := by
  have e : (bits x.toNat + 7) / 8 = (bits (x / 256).toNat + 7) / 8 + 1 := by
    by_cases hx : 256 ≤ x
    · have := bitsI_shift x 8 (by omega) hx
      have e2 : (x / 2 ^ 8) = x / 256 := rfl
      rw [e2] at this
      omega
    · have e0 : x / 256 = 0 := by omega
      have h1 := bits_le x.toNat 8 (by omega)
      have h2 : 1 ≤ bits x.toNat := by unfold bits; rw [if_neg (by omega)]; omega
      have h3 : bits (x / 256).toNat = 0 := by rw [e0]; rfl
      omega
  rw [digs, e, low_succ]
  rfl
/-! reading -/
theorem be_one (c : UInt8) : be [c] = c.toNat := by simp [be]
theorem be_two (c d : UInt8) : be [c, d] = c.toNat * 256 + d.toNat := by simp [be]
/-! what is missing -/
theorem checkGo_asc : ∀ (rs : List Rule) (last : Int), 0 ≤ last → checkGo last rs = 0 → rs.Pairwise (fun a b => a.tag < b.tag)
  | [], _, _, _ => List.Pairwise.nil
  | r :: rs, last, h0, h => by
    have h1 := checkGo_ok (r :: rs) last h0 h
    have hr := h1 r (by simp)
    have h2 : checkGo r.tag rs = 0 := by
      simp only [checkGo] at h
      split at h
      · cases h
      · split at h
        · exact h
        · split at h
          · cases h
          · exact h
    exact List.Pairwise.cons (fun q hq => (checkGo_ok rs r.tag (by omega) h2 q hq).1) (checkGo_asc rs r.tag (by omega) h2)
theorem check_asc {rs : List Rule} (h : check rs = 0) : rs.Pairwise (fun a b => a.tag < b.tag) := by
  unfold check at h
  split at h
  · cases h
  · exact checkGo_asc rs 0 (by omega) h
def rem (rs : List Rule) (acc : List Fld) : List Int := (needs rs).filter (fun t => !fldHas t acc)
theorem rem_asc {rs : List Rule} (h : check rs = 0) (acc : List Fld) : (rem rs acc).Pairwise (· < ·) := by
  unfold rem needs
  exact List.Pairwise.filter _ (List.pairwise_map.2 (List.Pairwise.filter _ (check_asc h)))
theorem mem_rem (rs : List Rule) (acc : List Fld) (t : Int) : t ∈ rem rs acc ↔ ∃ r ∈ rs, r.must = true ∧ r.tag = t ∧ fldHas t acc = false := by
  unfold rem needs
  simp only [List.mem_filter, List.mem_map, Bool.not_eq_true']
  constructor
  · rintro ⟨⟨r, ⟨h1, h2⟩, h3⟩, h4⟩; exact ⟨r, h1, h2, h3, h4⟩
  · rintro ⟨r, h1, h2, h3, h4⟩; exact ⟨⟨r, ⟨h1, h2⟩, h3⟩, h4⟩
theorem rem_nil (rs : List Rule) : rem rs [] = needs rs := by
  unfold rem
  rw [List.filter_eq_self.2]
  intro t _
  rfl
theorem rem_lack (rs : List Rule) (acc : List Fld) : lackF rs acc = decide (0 < ((rem rs acc).length : Int)) := by
  unfold lackF rem
  rw [Bool.eq_iff_iff, List.any_eq_true, decide_eq_true_iff]
  constructor
  · rintro ⟨t, h1, h2⟩
    have : t ∈ (needs rs).filter (fun t => !fldHas t acc) := List.mem_filter.2 ⟨h1, h2⟩
    have := List.length_pos_of_mem this
    omega
  · intro h
    obtain ⟨t, ht⟩ := List.exists_mem_of_length_pos (by omega : 0 < ((needs rs).filter (fun t => !fldHas t acc)).length)
    obtain ⟨h1, h2⟩ := List.mem_filter.1 ht
    exact ⟨t, h1, h2⟩
theorem head_lt {l : List Int} (h : l.Pairwise (· < ·)) (c : Int) : (decide (0 < (l.length : Int)) && decide (l.headD 0 < c)) = true ↔ ∃ t ∈ l, t < c := by
  cases l with
  | nil => simp
  | cons t l =>
    simp only [List.length_cons, List.headD_cons, Bool.and_eq_true, decide_eq_true_eq]
    constructor
    · rintro ⟨_, h1⟩; exact ⟨t, by simp, of_decide_eq_true h1⟩
    · rintro ⟨s, hs, h1⟩
      refine ⟨by omega, ?_⟩
      rcases List.mem_cons.1 hs with rfl | hs
      · exact decide_eq_true h1
      · have := (List.pairwise_cons.1 h).1 s hs
        exact decide_eq_true (show t < c by omega)
theorem fldHas_snoc (t : Int) (acc : List Fld) (x : Fld) : fldHas t (acc ++ [x]) = (fldHas t acc || decide (x.tag = t)) := by
  unfold fldHas
  rw [List.find?_append]
  cases h : acc.find? (fun x => decide (x.tag = t)) with
  | some y => simp
  | none =>
    by_cases hx : x.tag = t <;> simp [hx]
theorem rem_snoc {rs : List Rule} (hc : check rs = 0) (acc : List Fld) (x : Fld) (h : ¬ ∃ t ∈ rem rs acc, t < x.tag) :
    rem rs (acc ++ [x]) = if (decide (0 < ((rem rs acc).length : Int)) && decide ((rem rs acc).headD 0 = x.tag)) = true then (rem rs acc).tail else rem rs acc := by
  have e : rem rs (acc ++ [x]) = (rem rs acc).filter (fun t => !decide (x.tag = t)) := by
    unfold rem
    rw [List.filter_filter]
    congr 1
    funext t
    rw [fldHas_snoc]
    cases fldHas t acc <;> simp
  rw [e]
  have hasc := rem_asc hc acc
  generalize rem rs acc = ms at h hasc
  cases ms with
  | nil => rfl
  | cons t ts =>
    have h1 := (List.pairwise_cons.1 hasc).1
    have h2 : ¬ t < x.tag := fun hh => h ⟨t, by simp, hh⟩
    have h3 : ts.filter (fun s => !decide (x.tag = s)) = ts := by
      rw [List.filter_eq_self]
      intro s hs
      have := h1 s hs
      simp; omega
    by_cases ht : t = x.tag
    · rw [if_pos (by simp [ht]), List.filter_cons_of_neg (by simp [ht]), h3]
      rfl
    · rw [if_neg (by simp [ht]), List.filter_cons_of_pos (by simp; omega), h3]

/-! the two decodings -/
def fin (b : List UInt8) (acc : List Fld) (d : List Fld × List UInt8 × List Int) : List Fld × Int × Int :=
  if (decide ((0 : Int) < d.2.1.length) || decide ((0 : Int) < d.2.2.length)) = true then ([], (b.length : Int) - d.2.1.length, 11) else (acc ++ d.1, 0, 0)
/-! bytes -/
def BytL (l : List Int) : Prop := ∀ y ∈ l, 0 ≤ y ∧ y < 256
theorem BytL.app {l m : List Int} (h : BytL l) (h2 : BytL m) : BytL (l ++ m) := fun y hy => by
  rcases List.mem_append.1 hy with h' | h'
  · exact h y h'
  · exact h2 y h'
theorem BytL.cons {x : Int} {l : List Int} (h0 : 0 ≤ x) (h1 : x < 256) (h : BytL l) : BytL (x :: l) := fun y hy => by
  rcases List.mem_cons.1 hy with rfl | h'
  · exact ⟨h0, h1⟩
  · exact h y h'
theorem low_byt (x : Int) : ∀ n, BytL (low x n)
  | 0 => fun y hy => by simp [low] at hy
  | n + 1 => BytL.cons (Int.emod_nonneg _ (by omega)) (Int.emod_lt_of_pos _ (by omega)) (low_byt x n)
theorem digs_byt (x : Int) : BytL (digs x) := low_byt x _
theorem textI_byt (l : List UInt8) : BytL (textI l) := fun y hy => by
  obtain ⟨c, _, rfl⟩ := List.mem_map.1 hy
  exact ⟨u8_ge c, u8_lt c⟩
def fldG (r : Rule) (x : Fld) : List Int := if r.kind = 1 then ((digs x.num).length : Int) :: digs x.num else ((x.txt.length : Int) / 256) :: ((x.txt.length : Int) % 256) :: textI x.txt
theorem fldB_G (r : Rule) (x : Fld) : fldB r x = x.tag :: fldG r x := by
  unfold fldB fldG
  split <;> rfl
theorem fldG_byt (r : Rule) (x : Fld) (h : FldOk x) : BytL (fldG r x) := by
  have h1 := digs_len x.num h.1 h.2.1
  have h2 := h.2.2
  unfold fldG
  split
  · exact BytL.cons (by omega) (by omega) (digs_byt _)
  · exact BytL.cons (by omega) (by omega) (BytL.cons (by omega) (by omega) (textI_byt _))
theorem encF_byt {rs : List Rule} (hrs : ∀ r ∈ rs, 0 < r.tag ∧ r.tag ≤ 63) : ∀ (fs : List Fld) (last : Int), (∀ x ∈ fs, FldOk x) → BytL (encF rs last fs).2
  | [], _, _ => fun y hy => by simp [encF] at hy
  | x :: fs, last, h => by
    simp only [encF]
    split
    · intro y hy; simp at hy
    · rename_i h1
      split
      · have hr : ruleHas x.tag rs = true := by
          cases hh : ruleHas x.tag rs with
          | true => rfl
          | false => rw [hh] at h1; simp at h1
        obtain ⟨hm, ht⟩ := ruleAt_mem hr
        have hb := hrs _ hm
        rw [ht] at hb
        rw [fldB_G]
        exact (BytL.cons (by omega) (by omega) (fldG_byt _ x (h x (by simp)))).app (encF_byt hrs fs x.tag (fun y hy => h y (by simp [hy])))
      · intro y hy; simp at hy
theorem encode_byt (rs : List Rule) (fs : List Fld) (h : ∀ x ∈ fs, FldOk x) : BytL (encode rs fs).1 := by
  have hnil : BytL [] := fun y hy => by simp at hy
  unfold encode
  split
  · rename_i hc
    have hk := (check_ok hc).2
    split
    · exact hnil
    · split
      · split
        · exact hnil
        · exact encF_byt (fun r hr => ⟨(hk r hr).1, (hk r hr).2.1⟩) fs 0 h
      · exact hnil
  · exact hnil
def encBy (rs : List Rule) (fs : List Fld) : List UInt8 := (encode rs fs).1.map byt
theorem textI_app (a b : List UInt8) : textI (a ++ b) = textI a ++ textI b := List.map_append
/-! numbers -/
theorem digs_be (l : List UInt8) (hl : l ≠ [] → 0 < (l.headD 0).toNat) : ∀ k, k ≤ l.length → (1 ≤ k → 0 < be (l.take k)) ∧ digs (be (l.take k)) = textI (l.take k)
  | 0, _ => ⟨by omega, by rw [List.take_zero]; rfl⟩
  | k + 1, h => by
    obtain ⟨h1, h2⟩ := digs_be l hl k (by omega)
    have hb := be_take l k (by omega)
    have hc := u8_lt l[k]
    have hc0 := u8_ge l[k]
    have hpos : 0 < be (l.take (k + 1)) := by
      rw [hb]
      by_cases hk : k = 0
      · subst hk
        have := hl (by intro e; rw [e] at h; simp at h)
        have e : l.headD 0 = l[0] := by
          cases l with
          | nil => simp at h
          | cons c l => rfl
        rw [e] at this
        simp only [List.take_zero]
        have e0 : be [] = 0 := rfl
        omega
      · have := h1 (by omega)
        omega
    refine ⟨fun _ => hpos, ?_⟩
    rw [digs_step _ hpos, hb, show (be (l.take k) * 256 + (l[k].toNat : Int)) / 256 = be (l.take k) from by omega, show (be (l.take k) * 256 + (l[k].toNat : Int)) % 256 = l[k].toNat from by omega, h2, List.take_succ_eq_append_getElem (by omega), textI_app]
    rfl
theorem digs_be' (l : List UInt8) (hl : l ≠ [] → 0 < (l.headD 0).toNat) : digs (be l) = textI l := by
  have := (digs_be l hl l.length (Nat.le_refl _)).2
  rwa [List.take_length] at this
/-! a field, read and written -/
theorem be_lt8 (l : List UInt8) (h : l.length ≤ 8) : be l < 18446744073709551616 := be_lt' l 8 h
theorem getV_one (r : Rule) (c : UInt8) (tl : List UInt8) (hk : r.kind = 1) : getV r (c :: tl) = if (tl.length : Int) < c.toNat then (⟨r.tag, 0, []⟩, [], false) else
    if 8 < (c.toNat : Int) ∨ (0 < (c.toNat : Int) ∧ ((tl[0]?).getD 0).toNat = 0) then (⟨r.tag, 0, []⟩, [], false) else (⟨r.tag, be (tl.take c.toNat), []⟩, tl.drop c.toNat, within r (be (tl.take c.toNat))) := by
  have e1 : r.kind.toNat = 1 := by rw [hk]; rfl
  unfold getV
  rw [e1, if_neg (show ¬ (c :: tl).length < 1 from by simp), show (c :: tl).take 1 = [c] from rfl, show (c :: tl).drop 1 = tl from rfl, be_one, if_neg (show ¬ r.kind = 2 from by omega)]
  simp only [Int.toNat_natCast]
theorem getV_two (r : Rule) (c d : UInt8) (tl : List UInt8) (hk : r.kind = 2) : getV r (c :: d :: tl) = if (tl.length : Int) < c.toNat * 256 + d.toNat then (⟨r.tag, 0, []⟩, [], false) else
    (⟨r.tag, 0, tl.take (c.toNat * 256 + d.toNat)⟩, tl.drop (c.toNat * 256 + d.toNat), within r (c.toNat * 256 + d.toNat)) := by
  have e1 : r.kind.toNat = 2 := by rw [hk]; rfl
  unfold getV
  rw [e1, if_neg (show ¬ (c :: d :: tl).length < 2 from by simp), show (c :: d :: tl).take 2 = [c, d] from rfl, show (c :: d :: tl).drop 2 = tl from rfl, be_two, if_pos hk]
  have e2 : ((c.toNat : Int) * 256 + d.toNat).toNat = c.toNat * 256 + d.toNat := by omega
  rw [e2]
theorem textI_cons (c : UInt8) (l : List UInt8) : textI (c :: l) = (c.toNat : Int) :: textI l := rfl
theorem getV_A (r : Rule) (b : List UInt8) (hk : r.kind = 1 ∨ (r.kind = 2 ∧ r.high ≤ 400)) (h : (getV r b).2.2 = true) :
    FldOk (getV r b).1 ∧ fldE r (getV r b).1 = 0 ∧ textI b = fldG r (getV r b).1 ++ textI (getV r b).2.1 := by
  rcases hk with hk | ⟨hk, hh⟩
  · match b with
    | [] => unfold getV at h; simp [hk] at h
    | c :: tl =>
      rw [getV_one r c tl hk] at h ⊢
      by_cases h1 : (tl.length : Int) < c.toNat
      · rw [if_pos h1] at h; cases h
      · rw [if_neg h1] at h ⊢
        by_cases h2 : 8 < (c.toNat : Int) ∨ (0 < (c.toNat : Int) ∧ ((tl[0]?).getD 0).toNat = 0)
        · rw [if_pos h2] at h; cases h
        · rw [if_neg h2] at h ⊢
          simp only at h ⊢
          have hl : (tl.take c.toNat).length = c.toNat := by rw [List.length_take]; omega
          have hc : digs (be (tl.take c.toNat)) = textI (tl.take c.toNat) := digs_be' _ (fun hne => by
            cases tl with
            | nil => simp at hne
            | cons e tl =>
              cases hn : c.toNat with
              | zero => rw [hn] at hne; simp at hne
              | succ n =>
                show 0 < e.toNat
                have : (((e :: tl)[0]?).getD 0).toNat = e.toNat := rfl
                omega)
          refine ⟨⟨be_nn _, be_lt8 _ (by omega), by simp⟩, ?_, ?_⟩
          · unfold fldE; rw [if_pos hk, if_neg (by simp), if_neg (by simp [h])]
          · unfold fldG
            rw [if_pos hk]
            simp only [hc, textI_len, hl]
            rw [textI_cons, List.cons_append, ← textI_app, List.take_append_drop]
  · match b with
    | [] => unfold getV at h; simp [hk] at h
    | [c] => unfold getV at h; simp [hk] at h
    | c :: d :: tl =>
      rw [getV_two r c d tl hk] at h ⊢
      have gc := u8_lt c
      have gd := u8_lt d
      by_cases h1 : (tl.length : Int) < c.toNat * 256 + d.toNat
      · rw [if_pos h1] at h; cases h
      · rw [if_neg h1] at h ⊢
        simp only at h ⊢
        have hl : (tl.take (c.toNat * 256 + d.toNat)).length = c.toNat * 256 + d.toNat := by rw [List.length_take]; omega
        have hw : (c.toNat * 256 + d.toNat : Int) ≤ r.high := by simp only [within, Bool.and_eq_true, decide_eq_true_eq] at h; exact h.2
        refine ⟨⟨by simp, by simp, by simp only [hl]; omega⟩, ?_, ?_⟩
        · unfold fldE
          rw [if_neg (by omega)]
          simp only [hl]
          rw [if_neg (by simp), if_neg (by simp [h])]
        · unfold fldG
          rw [if_neg (by omega)]
          simp only [hl]
          rw [textI_cons, textI_cons, List.cons_append, List.cons_append, ← textI_app, List.take_append_drop]
          congr 1
          · omega
          · congr 1; omega
theorem ruleHas_kind {rs : List Rule} (hc : check rs = 0) {t : Int} (h : ruleHas t rs = true) :
    (ruleAt t rs).tag = t ∧ 0 < t ∧ t ≤ 63 ∧ ((ruleAt t rs).kind = 1 ∨ ((ruleAt t rs).kind = 2 ∧ (ruleAt t rs).high ≤ 400)) := by
  obtain ⟨hm, ht⟩ := ruleAt_mem h
  have := (check_ok hc).2 _ hm
  rw [ht] at this
  exact ⟨ht, this.1, this.2.1, this.2.2.2⟩
/-- one round of the decoding -/
theorem decF_cons (rs : List Rule) (n : Nat) (ms : List Int) (last : Int) (c : UInt8) (tl : List UInt8) :
    (decF rs (n + 1) ms last (c :: tl) = ([], c :: tl, ms)) ∨
    (ruleHas c.toNat rs = true ∧ last < (c.toNat : Int) ∧ ¬ ((decide ((0 : Int) < ms.length) && decide (ms.headD 0 < (c.toNat : Int))) = true) ∧ (getV (ruleAt c.toNat rs) tl).2.2 = true ∧
      decF rs (n + 1) ms last (c :: tl) = ((getV (ruleAt c.toNat rs) tl).1 :: (decF rs n (if (decide ((0 : Int) < ms.length) && decide (ms.headD 0 = (c.toNat : Int))) = true then ms.tail else ms) c.toNat (getV (ruleAt c.toNat rs) tl).2.1).1,
        (decF rs n (if (decide ((0 : Int) < ms.length) && decide (ms.headD 0 = (c.toNat : Int))) = true then ms.tail else ms) c.toNat (getV (ruleAt c.toNat rs) tl).2.1).2)) := by
  have e : decF rs (n + 1) ms last (c :: tl) = if ((!ruleHas c.toNat rs || decide ((c.toNat : Int) ≤ last)) || (decide ((0 : Int) < ms.length) && decide (ms.headD 0 < (c.toNat : Int)))) = true then ([], c :: tl, ms)
    else if (!(getV (ruleAt c.toNat rs) tl).2.2) = true then ([], c :: tl, ms)
    else ((getV (ruleAt c.toNat rs) tl).1 :: (decF rs n (if (decide ((0 : Int) < ms.length) && decide (ms.headD 0 = (c.toNat : Int))) = true then ms.tail else ms) c.toNat (getV (ruleAt c.toNat rs) tl).2.1).1, (decF rs n (if (decide ((0 : Int) < ms.length) && decide (ms.headD 0 = (c.toNat : Int))) = true then ms.tail else ms) c.toNat (getV (ruleAt c.toNat rs) tl).2.1).2) := by
    rw [decF]
  rw [e]
  by_cases h1 : ((!ruleHas c.toNat rs || decide ((c.toNat : Int) ≤ last)) || (decide ((0 : Int) < ms.length) && decide (ms.headD 0 < (c.toNat : Int)))) = true
  · rw [if_pos h1]; exact .inl rfl
  · rw [if_neg h1]
    by_cases h2 : (!(getV (ruleAt c.toNat rs) tl).2.2) = true
    · rw [if_pos h2]; exact .inl rfl
    · rw [if_neg h2]
      rw [Bool.not_eq_true, Bool.or_eq_false_iff, Bool.or_eq_false_iff] at h1
      refine .inr ⟨by simpa using h1.1.1, by simpa using h1.1.2, by rw [h1.2]; simp, by simpa using h2, rfl⟩

/-- what is read is written to the same bytes -/
theorem decF_C {rs : List Rule} (hc : check rs = 0) : ∀ (n : Nat) (last : Int) (acc : List Fld) (b : List UInt8),
    (encF rs last (decF rs n (rem rs acc) last b).1).1 = 0 ∧ textI b = (encF rs last (decF rs n (rem rs acc) last b).1).2 ++ textI (decF rs n (rem rs acc) last b).2.1 ∧
    (∀ x ∈ (decF rs n (rem rs acc) last b).1, FldOk x) ∧ (decF rs n (rem rs acc) last b).2.2 = rem rs (acc ++ (decF rs n (rem rs acc) last b).1)
  | n, last, acc, [] => by
    rw [decF_nil]
    exact ⟨rfl, rfl, by simp, by simp⟩
  | 0, last, acc, c :: tl => by
    have e : decF rs 0 (rem rs acc) last (c :: tl) = ([], c :: tl, rem rs acc) := rfl
    rw [e]
    exact ⟨rfl, rfl, by simp, by simp⟩
  | n + 1, last, acc, c :: tl => by
    rcases decF_cons rs n (rem rs acc) last c tl with e | ⟨h1, h2, h3, h4, e⟩
    · rw [e]
      exact ⟨rfl, rfl, by simp, by simp⟩
    · obtain ⟨ht, _, _, hk⟩ := ruleHas_kind hc h1
      obtain ⟨g1, g2, g3⟩ := getV_A (ruleAt c.toNat rs) tl hk h4
      have gt := getV_tag (ruleAt c.toNat rs) tl
      rw [ht] at gt
      have hle : ¬ ∃ t ∈ rem rs acc, t < (getV (ruleAt c.toNat rs) tl).1.tag := fun hh => h3 (by rw [gt] at hh; exact (head_lt (rem_asc hc acc) (c.toNat : Int)).2 hh)
      have hs := rem_snoc hc acc (getV (ruleAt c.toNat rs) tl).1 hle
      rw [gt] at hs
      rw [← hs] at e
      obtain ⟨i1, i2, i3, i4⟩ := decF_C hc n c.toNat (acc ++ [(getV (ruleAt c.toNat rs) tl).1]) (getV (ruleAt c.toNat rs) tl).2.1
      rw [e]
      generalize decF rs n (rem rs (acc ++ [(getV (ruleAt c.toNat rs) tl).1])) c.toNat (getV (ruleAt c.toNat rs) tl).2.1 = d at i1 i2 i3 i4
      generalize (getV (ruleAt c.toNat rs) tl).2.1 = rest at g3 i2
      generalize (getV (ruleAt c.toNat rs) tl).1 = x at *
      have e1 : encF rs last (x :: d.1) = ((encF rs c.toNat d.1).1, fldB (ruleAt c.toNat rs) x ++ (encF rs c.toNat d.1).2) := by
        simp only [encF]
        rw [gt, if_neg (by simp [h1]; omega), if_pos g2]
      rw [e1]
      refine ⟨i1, ?_, ?_, ?_⟩
      · rw [fldB_G, gt, textI_cons, g3, i2]
        simp
      · intro y hy
        rcases List.mem_cons.1 hy with rfl | hy
        · exact g1
        · exact i3 y hy
      · rw [i4]; simp

/-- the fields of a message ascend -/
theorem encF_asc {rs : List Rule} : ∀ (fs : List Fld) (last : Int), (encF rs last fs).1 = 0 → (fs.map Fld.tag).Pairwise (· < ·) ∧ ∀ x ∈ fs, last < x.tag ∧ ruleHas x.tag rs = true
  | [], _, _ => ⟨List.Pairwise.nil, by simp⟩
  | x :: fs, last, h => by
    simp only [encF] at h
    split at h
    · cases h
    · rename_i h1
      rw [Bool.not_eq_true, Bool.or_eq_false_iff] at h1
      have h2 : ruleHas x.tag rs = true := by simpa using h1.1
      have h3 : last < x.tag := by simpa using h1.2
      split at h
      · obtain ⟨i1, i2⟩ := encF_asc fs x.tag h
        refine ⟨?_, fun y hy => ?_⟩
        · simp only [List.map_cons, List.pairwise_cons]
          refine ⟨fun t ht => ?_, i1⟩
          obtain ⟨y, hy, rfl⟩ := List.mem_map.1 ht
          exact (i2 y hy).1
        · rcases List.mem_cons.1 hy with rfl | hy
          · exact ⟨h3, h2⟩
          · have := i2 y hy
            exact ⟨by omega, this.2⟩
      · rename_i h4; exact absurd h h4
theorem asc_len : ∀ (m l : List Int), m.Pairwise (· < ·) → l.Pairwise (· < ·) → (∀ t ∈ l, t ∈ m) → l.length ≤ m.length
  | [], l, _, _, h => by
    cases l with
    | nil => simp
    | cons a l => exact absurd (h a (by simp)) (by simp)
  | t :: m, [], _, _, _ => by simp
  | t :: m, s :: l, hm, hl, h => by
    have hm' := List.pairwise_cons.1 hm
    have hl' := List.pairwise_cons.1 hl
    have hs : t ≤ s := by
      rcases List.mem_cons.1 (h s (by simp)) with h1 | h1
      · omega
      · have := hm'.1 s h1; omega
    have hsub : ∀ u ∈ l, u ∈ m := fun u hu => by
      have h1 := hl'.1 u hu
      rcases List.mem_cons.1 (h u (by simp [hu])) with h2 | h2
      · omega
      · exact h2
    have := asc_len m l hm'.2 hl'.2 hsub
    simp only [List.length_cons]
    omega
theorem encF_len {rs : List Rule} (hc : check rs = 0) (fs : List Fld) (last : Int) (h : (encF rs last fs).1 = 0) : fs.length ≤ 16 := by
  obtain ⟨h1, h2⟩ := encF_asc fs last h
  have h3 := asc_len (rs.map Rule.tag) (fs.map Fld.tag) (List.pairwise_map.2 (check_asc hc)) h1 (fun t ht => by
    obtain ⟨x, hx, rfl⟩ := List.mem_map.1 ht
    obtain ⟨hm, ht'⟩ := ruleAt_mem (h2 x hx).2
    exact List.mem_map.2 ⟨_, hm, ht'⟩)
  rw [List.length_map, List.length_map] at h3
  have := (check_ok hc).1
  omega

/-- the answers of Decode -/
theorem decode_cases (rs : List Rule) (b : List UInt8) : (check rs ≠ 0 ∧ decode rs b = ([], 0, check rs)) ∨ (check rs = 0 ∧ ∃ at' : Int, 0 ≤ at' ∧ at' ≤ b.length ∧ decode rs b = ([], at', 11)) ∨
    (check rs = 0 ∧ ∃ l, decode rs b = (l, 0, 0) ∧ decF rs b.length (needs rs) 0 b = (l, [], [])) := by
  by_cases hc : check rs = 0
  · right
    unfold decode
    rw [if_pos hc]
    obtain ⟨_, h2, _, _⟩ := decF_C hc b.length 0 [] b
    rw [rem_nil] at h2
    have hl := congrArg List.length h2
    rw [List.length_append, textI_len, textI_len] at hl
    split
    · exact .inl ⟨hc, _, by omega, by omega, rfl⟩
    · rename_i h
      refine .inr ⟨hc, _, rfl, ?_⟩
      rw [Bool.not_eq_true, Bool.or_eq_false_iff] at h
      have h3 : (decF rs b.length (needs rs) 0 b).2.1 = [] := List.eq_nil_of_length_eq_zero (by have := of_decide_eq_false h.1; omega)
      have h4 : (decF rs b.length (needs rs) 0 b).2.2 = [] := List.eq_nil_of_length_eq_zero (by have := of_decide_eq_false h.2; omega)
      generalize decF rs b.length (needs rs) 0 b = d at h3 h4 ⊢
      obtain ⟨d1, d2, d3⟩ := d
      simp only at h3 h4
      subst h3; subst h4
      rfl
  · left
    exact ⟨hc, by unfold decode; rw [if_neg hc]⟩
theorem one_law {rs : List Rule} {b : List UInt8} {l : List Fld} (hc : check rs = 0) (h : decF rs b.length (needs rs) 0 b = (l, [], [])) :
    (∀ x ∈ l, FldOk x) ∧ l.length ≤ 16 ∧ encode rs l = (textI b, 0) := by
  obtain ⟨h1, h2, h3, h4⟩ := decF_C hc b.length 0 [] b
  rw [rem_nil, h] at h1 h2 h3 h4
  simp only [List.nil_append] at h1 h2 h3 h4
  have hl := encF_len hc l 0 h1
  refine ⟨h3, hl, ?_⟩
  have hlack : lackF rs l = false := by rw [rem_lack, ← h4]; rfl
  unfold encode
  rw [if_pos hc, if_neg (by omega), if_pos h1, if_neg (by rw [hlack]; simp), h2]
  simp [textI]
/-- the answers of Encode -/
theorem encode_ok {rs : List Rule} {fs : List Fld} (h : (encode rs fs).2 = 0) : check rs = 0 ∧ (encF rs 0 fs).1 = 0 ∧ rem rs fs = [] ∧ (encode rs fs).1 = (encF rs 0 fs).2 := by
  unfold encode at h ⊢
  split at h
  · rename_i hc
    rw [if_pos hc]
    split at h
    · cases h
    · rename_i h1
      rw [if_neg h1]
      split at h
      · rename_i h2
        rw [if_pos h2]
        split at h
        · cases h
        · rename_i h3
          rw [if_neg h3]
          refine ⟨hc, h2, ?_, rfl⟩
          rw [rem_lack] at h3
          exact List.eq_nil_of_length_eq_zero (by have := of_decide_eq_false (Bool.not_eq_true _ ▸ h3); omega)
      · rename_i h2; exact absurd h h2
  · rename_i hc; exact absurd h hc
theorem encode_err {rs : List Rule} {fs : List Fld} (h : (encode rs fs).2 ≠ 0) : (encode rs fs).1 = [] := by
  unfold encode at h ⊢
  split
  · split
    · rfl
    · split
      · split
        · rfl
        · rename_i hc h1 h2 h3
          rw [if_pos hc, if_neg h1, if_pos h2, if_neg h3] at h
          exact absurd rfl h
      · rfl
  · rfl
theorem fldHas_of {t : Int} {fs : List Fld} (h : fldHas t fs = true) : ∃ x ∈ fs, x.tag = t := by
  unfold fldHas at h
  obtain ⟨x, hx⟩ := Option.isSome_iff_exists.1 h
  exact ⟨x, List.mem_of_find?_eq_some hx, by simpa using List.find?_some hx⟩
/-! beginnings of messages; rules that allow less -/
/-! rules that allow less -/
/-! what the laws take -/
theorem encode_PB (rs : List Rule) (fs : List Fld) (hrs : rs.length ≤ 100) (hfs : fs.length ≤ 100) (hok : ∀ x ∈ fs, FldOk x) : PC Tryz.prog 37 [.sv (.sl 5 (rs.map Rule.c)), .sv (.sl 3 (fs.map Fld.c))] (.tup [.sv (.sl 1 (bytesC (encBy rs fs))), .i (encode rs fs).2]) := by
  have h := encode_P rs fs hrs hfs hok
  rw [ic_byt _ (encode_byt rs fs hok)] at h
  exact h
theorem fldB_len500 (r : Rule) (x : Fld) (hx : FldOk x) (h : x.txt.length ≤ 500) : (fldB r x).length ≤ 503 := by
  have h1 := digs_len x.num hx.1 hx.2.1
  unfold fldB
  split <;> simp [textI_len] <;> omega
theorem encF_len500 {rs : List Rule} : ∀ (fs : List Fld) (last : Int), (∀ x ∈ fs, FldOk x ∧ x.txt.length ≤ 500) → (encF rs last fs).2.length ≤ 503 * fs.length
  | [], _, _ => by simp [encF]
  | x :: fs, last, h => by
    simp only [encF]
    split
    · simp
    · split
      · have h1 := fldB_len500 (ruleAt x.tag rs) x (h x (by simp)).1 (h x (by simp)).2
        have h2 := encF_len500 (rs := rs) fs x.tag (fun y hy => h y (by simp [hy]))
        simp only [List.length_append, List.length_cons]
        omega
      · simp
theorem encBy_len {rs : List Rule} {l : List Fld} (h : ∀ x ∈ l, FldOk x ∧ x.txt.length ≤ 500) : (encBy rs l).length ≤ 8048 := by
  unfold encBy
  rw [List.length_map]
  by_cases he : (encode rs l).2 = 0
  · obtain ⟨hc, h1, _, h3⟩ := encode_ok he
    rw [h3]
    have := encF_len500 (rs := rs) l 0 h
    have := encF_len hc l 0 h1
    omega
  · rw [encode_err he]; simp
theorem one_fact {rs : List Rule} {b : List UInt8} (h : (decode rs b).2.2 = 0) : ∃ l, decode rs b = (l, 0, 0) ∧ (∀ x ∈ l, FldOk x) ∧ l.length ≤ 16 ∧ encode rs l = (textI b, 0) := by
  rcases decode_cases rs b with ⟨h1, h2⟩ | ⟨_, _, _, _, h2⟩ | ⟨hc, l, h2, hd⟩
  · rw [h2] at h; exact absurd h h1
  · rw [h2] at h; cases h
  · exact ⟨l, h2, one_law hc hd⟩
end Go.Proofs.YtcobkjognpjikaaGreatDoor
