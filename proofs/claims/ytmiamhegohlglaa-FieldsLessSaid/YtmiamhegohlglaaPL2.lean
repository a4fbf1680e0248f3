/- The plain law of layer 8, second part: what is decoded is encoded to the same bytes, and the other way round. -/
import Derived.Test.YtmiamhegohlglaaPL1
set_option linter.unusedSimpArgs false
set_option linter.unusedVariables false
namespace Go.Proofs.Ytmiamhegohlglaa

/-! bytes -/
def BytL (l : List Int) : Prop := ∀ y ∈ l, 0 ≤ y ∧ y < 256
theorem BytL.app {l m : List Int} (h : BytL l) (h2 : BytL m) : BytL (l ++ m) := fun y hy => by
  rcases List.mem_append.1 hy with h' | h'
  · exact h y h'
  · exact h2 y h'
theorem BytL.cons {x : Int} {l : List Int} (h0 : 0 ≤ x) (h1 : x < 256) (h : BytL l) : BytL (x :: l) := fun y hy => by
  rcases List.mem_cons.1 hy with rfl | h'
  · exact ⟨h0, h1⟩
  · exact h y h'
theorem low_byt (x : Int) : ∀ n, BytL (low x n)
  | 0 => fun y hy => by simp [low] at hy
  | n + 1 => BytL.cons (Int.emod_nonneg _ (by omega)) (Int.emod_lt_of_pos _ (by omega)) (low_byt x n)
theorem digs_byt (x : Int) : BytL (digs x) := low_byt x _
theorem textI_byt (l : List UInt8) : BytL (textI l) := fun y hy => by
  obtain ⟨c, _, rfl⟩ := List.mem_map.1 hy
  exact ⟨u8_ge c, u8_lt c⟩
def fldG (r : Rule) (x : Fld) : List Int := if r.kind = 1 then ((digs x.num).length : Int) :: digs x.num else ((x.txt.length : Int) / 256) :: ((x.txt.length : Int) % 256) :: textI x.txt
theorem fldB_G (r : Rule) (x : Fld) : fldB r x = x.tag :: fldG r x := by
  unfold fldB fldG
  split <;> rfl
theorem fldG_byt (r : Rule) (x : Fld) (h : FldOk x) : BytL (fldG r x) := by
  have h1 := digs_len x.num h.1 h.2.1
  have h2 := h.2.2
  unfold fldG
  split
  · exact BytL.cons (by omega) (by omega) (digs_byt _)
  · exact BytL.cons (by omega) (by omega) (BytL.cons (by omega) (by omega) (textI_byt _))
theorem encF_byt {rs : List Rule} (hrs : ∀ r ∈ rs, 0 < r.tag ∧ r.tag ≤ 63) : ∀ (fs : List Fld) (last : Int), (∀ x ∈ fs, FldOk x) → BytL (encF rs last fs).2
  | [], _, _ => fun y hy => by simp [encF] at hy
  | x :: fs, last, h => by
    simp only [encF]
    split
    · intro y hy; simp at hy
    · rename_i h1
      split
      · have hr : ruleHas x.tag rs = true := by
          cases hh : ruleHas x.tag rs with
          | true => rfl
          | false => rw [hh] at h1; simp at h1
        obtain ⟨hm, ht⟩ := ruleAt_mem hr
        have hb := hrs _ hm
        rw [ht] at hb
        rw [fldB_G]
        exact (BytL.cons (by omega) (by omega) (fldG_byt _ x (h x (by simp)))).app (encF_byt hrs fs x.tag (fun y hy => h y (by simp [hy])))
      · intro y hy; simp at hy
theorem encode_byt (rs : List Rule) (fs : List Fld) (h : ∀ x ∈ fs, FldOk x) : BytL (encode rs fs).1 := by
  have hnil : BytL [] := fun y hy => by simp at hy
  unfold encode
  split
  · rename_i hc
    have hk := (check_ok hc).2
    split
    · exact hnil
    · split
      · split
        · exact hnil
        · exact encF_byt (fun r hr => ⟨(hk r hr).1, (hk r hr).2.1⟩) fs 0 h
      · exact hnil
  · exact hnil
theorem text_byt {l : List Int} (h : BytL l) : textI (l.map byt) = l := by
  unfold textI
  rw [List.map_map]
  conv => rhs; rw [← List.map_id l]
  apply List.map_congr_left
  intro y hy
  exact byt_toNat y (h y hy).1 (h y hy).2
theorem byt_text (l : List UInt8) : (textI l).map byt = l := by
  unfold textI
  rw [List.map_map]
  conv => rhs; rw [← List.map_id l]
  apply List.map_congr_left
  intro c _
  exact byt_of c
def encBy (rs : List Rule) (fs : List Fld) : List UInt8 := (encode rs fs).1.map byt
theorem encBy_text (rs : List Rule) (fs : List Fld) (h : ∀ x ∈ fs, FldOk x) : textI (encBy rs fs) = (encode rs fs).1 := text_byt (encode_byt rs fs h)
theorem textI_app (a b : List UInt8) : textI (a ++ b) = textI a ++ textI b := List.map_append
theorem textI_inj {a b : List UInt8} (h : textI a = textI b) : a = b := by rw [← byt_text a, h, byt_text]

/-! numbers -/
theorem digs_be (l : List UInt8) (hl : l ≠ [] → 0 < (l.headD 0).toNat) : ∀ k, k ≤ l.length → (1 ≤ k → 0 < be (l.take k)) ∧ digs (be (l.take k)) = textI (l.take k)
  | 0, _ => ⟨by omega, by rw [List.take_zero]; rfl⟩
  | k + 1, h => by
    obtain ⟨h1, h2⟩ := digs_be l hl k (by omega)
    have hb := be_take l k (by omega)
    have hc := u8_lt l[k]
    have hc0 := u8_ge l[k]
    have hpos : 0 < be (l.take (k + 1)) := by
      rw [hb]
      by_cases hk : k = 0
      · subst hk
        have := hl (by intro e; rw [e] at h; simp at h)
        have e : l.headD 0 = l[0] := by
          cases l with
          | nil => simp at h
          | cons c l => rfl
        rw [e] at this
        simp only [List.take_zero]
        have e0 : be [] = 0 := rfl
        omega
      · have := h1 (by omega)
        omega
    refine ⟨fun _ => hpos, ?_⟩
    rw [digs_step _ hpos, hb, show (be (l.take k) * 256 + (l[k].toNat : Int)) / 256 = be (l.take k) from by omega, show (be (l.take k) * 256 + (l[k].toNat : Int)) % 256 = l[k].toNat from by omega, h2, List.take_succ_eq_append_getElem (by omega), textI_app]
    rfl
theorem digs_be' (l : List UInt8) (hl : l ≠ [] → 0 < (l.headD 0).toNat) : digs (be l) = textI l := by
  have := (digs_be l hl l.length (Nat.le_refl _)).2
  rwa [List.take_length] at this
theorem be_digs : ∀ (k : Nat) (x : Int), 0 ≤ x → x < 256 ^ k → be ((digs x).map byt) = x ∧ (0 < x → digs x ≠ [] ∧ 0 < (((digs x).map byt).headD 0).toNat)
  | 0, x, h0, h1 => by
    have : x = 0 := by simp at h1; omega
    subst this
    exact ⟨rfl, fun h => absurd h (by omega)⟩
  | k + 1, x, h0, h1 => by
    by_cases hx : x = 0
    · subst hx; exact ⟨rfl, fun h => absurd h (by omega)⟩
    · obtain ⟨h2, h3⟩ := be_digs k (x / 256) (by omega) (by rw [Int.pow_succ] at h1; omega)
      have hm := byt_toNat (x % 256) (by omega) (by omega)
      rw [digs_step x (by omega), List.map_append, List.map_singleton, be_snoc, h2, hm]
      refine ⟨by omega, fun _ => ⟨by simp, ?_⟩⟩
      by_cases hq : x / 256 = 0
      · rw [hq, digs_zero]
        show 0 < (byt (x % 256)).toNat
        omega
      · obtain ⟨h4, h5⟩ := h3 (by omega)
        cases hd : digs (x / 256) with
        | nil => exact absurd hd h4
        | cons a l => rw [hd] at h5; exact h5

/-! a field, read and written -/
theorem be_lt8 (l : List UInt8) (h : l.length ≤ 8) : be l < 18446744073709551616 := be_lt' l 8 h
theorem getV_one (r : Rule) (c : UInt8) (tl : List UInt8) (hk : r.kind = 1) : getV r (c :: tl) = if (tl.length : Int) < c.toNat then (⟨r.tag, 0, []⟩, [], false) else
    if 8 < (c.toNat : Int) ∨ (0 < (c.toNat : Int) ∧ ((tl[0]?).getD 0).toNat = 0) then (⟨r.tag, 0, []⟩, [], false) else (⟨r.tag, be (tl.take c.toNat), []⟩, tl.drop c.toNat, within r (be (tl.take c.toNat))) := by
  have e1 : r.kind.toNat = 1 := by rw [hk]; rfl
  unfold getV
  rw [e1, if_neg (show ¬ (c :: tl).length < 1 from by simp), show (c :: tl).take 1 = [c] from rfl, show (c :: tl).drop 1 = tl from rfl, be_one, if_neg (show ¬ r.kind = 2 from by omega)]
  simp only [Int.toNat_natCast]
theorem getV_two (r : Rule) (c d : UInt8) (tl : List UInt8) (hk : r.kind = 2) : getV r (c :: d :: tl) = if (tl.length : Int) < c.toNat * 256 + d.toNat then (⟨r.tag, 0, []⟩, [], false) else
    (⟨r.tag, 0, tl.take (c.toNat * 256 + d.toNat)⟩, tl.drop (c.toNat * 256 + d.toNat), within r (c.toNat * 256 + d.toNat)) := by
  have e1 : r.kind.toNat = 2 := by rw [hk]; rfl
  unfold getV
  rw [e1, if_neg (show ¬ (c :: d :: tl).length < 2 from by simp), show (c :: d :: tl).take 2 = [c, d] from rfl, show (c :: d :: tl).drop 2 = tl from rfl, be_two, if_pos hk]
  have e2 : ((c.toNat : Int) * 256 + d.toNat).toNat = c.toNat * 256 + d.toNat := by omega
  rw [e2]
theorem textI_cons (c : UInt8) (l : List UInt8) : textI (c :: l) = (c.toNat : Int) :: textI l := rfl
theorem getV_A (r : Rule) (b : List UInt8) (hk : r.kind = 1 ∨ (r.kind = 2 ∧ r.high ≤ 400)) (h : (getV r b).2.2 = true) :
    FldOk (getV r b).1 ∧ fldE r (getV r b).1 = 0 ∧ textI b = fldG r (getV r b).1 ++ textI (getV r b).2.1 := by
  rcases hk with hk | ⟨hk, hh⟩
  · match b with
    | [] => unfold getV at h; simp [hk] at h
    | c :: tl =>
      rw [getV_one r c tl hk] at h ⊢
      by_cases h1 : (tl.length : Int) < c.toNat
      · rw [if_pos h1] at h; cases h
      · rw [if_neg h1] at h ⊢
        by_cases h2 : 8 < (c.toNat : Int) ∨ (0 < (c.toNat : Int) ∧ ((tl[0]?).getD 0).toNat = 0)
        · rw [if_pos h2] at h; cases h
        · rw [if_neg h2] at h ⊢
          simp only at h ⊢
          have hl : (tl.take c.toNat).length = c.toNat := by rw [List.length_take]; omega
          have hc : digs (be (tl.take c.toNat)) = textI (tl.take c.toNat) := digs_be' _ (fun hne => by
            cases tl with
            | nil => simp at hne
            | cons e tl =>
              cases hn : c.toNat with
              | zero => rw [hn] at hne; simp at hne
              | succ n =>
                show 0 < e.toNat
                have : (((e :: tl)[0]?).getD 0).toNat = e.toNat := rfl
                omega)
          refine ⟨⟨be_nn _, be_lt8 _ (by omega), by simp⟩, ?_, ?_⟩
          · unfold fldE; rw [if_pos hk, if_neg (by simp), if_neg (by simp [h])]
          · unfold fldG
            rw [if_pos hk]
            simp only [hc, textI_len, hl]
            rw [textI_cons, List.cons_append, ← textI_app, List.take_append_drop]
  · match b with
    | [] => unfold getV at h; simp [hk] at h
    | [c] => unfold getV at h; simp [hk] at h
    | c :: d :: tl =>
      rw [getV_two r c d tl hk] at h ⊢
      have gc := u8_lt c
      have gd := u8_lt d
      by_cases h1 : (tl.length : Int) < c.toNat * 256 + d.toNat
      · rw [if_pos h1] at h; cases h
      · rw [if_neg h1] at h ⊢
        simp only at h ⊢
        have hl : (tl.take (c.toNat * 256 + d.toNat)).length = c.toNat * 256 + d.toNat := by rw [List.length_take]; omega
        have hw : (c.toNat * 256 + d.toNat : Int) ≤ r.high := by simp only [within, Bool.and_eq_true, decide_eq_true_eq] at h; exact h.2
        refine ⟨⟨by simp, by simp, by simp only [hl]; omega⟩, ?_, ?_⟩
        · unfold fldE
          rw [if_neg (by omega)]
          simp only [hl]
          rw [if_neg (by simp), if_neg (by simp [h])]
        · unfold fldG
          rw [if_neg (by omega)]
          simp only [hl]
          rw [textI_cons, textI_cons, List.cons_append, List.cons_append, ← textI_app, List.take_append_drop]
          congr 1
          · omega
          · congr 1; omega
theorem fldE_kind (r : Rule) (x : Fld) (h : fldE r x = 0) : (r.kind = 1 → x.txt = [] ∧ within r x.num = true) ∧ (r.kind ≠ 1 → x.num = 0 ∧ within r x.txt.length = true) := by
  unfold fldE at h
  constructor
  · intro hk
    rw [if_pos hk] at h
    split at h
    · cases h
    · rename_i h1
      split at h
      · cases h
      · rename_i h2; exact ⟨by simpa using h1, by simpa using h2⟩
  · intro hk
    rw [if_neg hk] at h
    split at h
    · cases h
    · rename_i h1
      split at h
      · cases h
      · rename_i h2; exact ⟨by simpa using h1, by simpa using h2⟩
theorem getV_B (r : Rule) (x : Fld) (rest : List UInt8) (hk : r.kind = 1 ∨ r.kind = 2) (hx : FldOk x) (ht : x.tag = r.tag) (he : fldE r x = 0) : getV r ((fldG r x).map byt ++ rest) = (x, rest, true) := by
  obtain ⟨k1, k2⟩ := fldE_kind r x he
  obtain ⟨tag, num, txt⟩ := x
  obtain ⟨hn0, hn1, hxl⟩ := hx
  simp only at *
  subst ht
  rcases hk with hk | hk
  · obtain ⟨rfl, hw⟩ := k1 hk
    have hd := digs_len num hn0 hn1
    have hlen := byt_toNat ((digs num).length : Int) (by omega) (by omega)
    obtain ⟨hbe, hhd⟩ := be_digs 8 num hn0 (Int.lt_of_lt_of_le hn1 (by decide))
    unfold fldG
    rw [if_pos hk]
    simp only [List.map_cons, List.cons_append]
    have hN : (byt ((digs num).length : Int)).toNat = ((digs num).map byt).length := by rw [List.length_map]; omega
    rw [getV_one r _ _ hk, hN, if_neg (by simp only [List.length_append]; omega), List.take_left, List.drop_left, hbe, hw, if_neg ?_]
    rw [List.length_map]
    by_cases h0 : 0 < num
    · obtain ⟨h3, h4⟩ := hhd h0
      cases hdd : digs num with
      | nil => exact absurd hdd h3
      | cons a l =>
        rw [hdd] at h4 hd
        have h5 : (((((a :: l).map byt ++ rest)[0]?).getD 0).toNat) = (((a :: l).map byt).headD 0).toNat := rfl
        rw [h5]
        omega
    · have : num = 0 := by omega
      subst this
      rw [digs_zero]
      simp
  · obtain ⟨rfl, hw⟩ := k2 (by omega)
    unfold fldG
    rw [if_neg (by omega)]
    simp only [List.map_cons, List.cons_append]
    have h1 := byt_toNat ((txt.length : Int) / 256) (by omega) (by omega)
    have h2 := byt_toNat ((txt.length : Int) % 256) (by omega) (by omega)
    have hN : (byt ((txt.length : Int) / 256)).toNat * 256 + (byt ((txt.length : Int) % 256)).toNat = txt.length := by omega
    have hI : ((byt ((txt.length : Int) / 256)).toNat : Int) * 256 + (byt ((txt.length : Int) % 256)).toNat = txt.length := by omega
    rw [getV_two r _ _ _ hk, hI, hN, byt_text, if_neg (by simp only [List.length_append]; omega), List.take_left, List.drop_left, hw]
end Go.Proofs.Ytmiamhegohlglaa
