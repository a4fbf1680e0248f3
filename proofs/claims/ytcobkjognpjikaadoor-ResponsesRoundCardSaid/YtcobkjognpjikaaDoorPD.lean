/- responses: Decode of Encode is the response. -/
import Derived.Test.YtcobkjognpjikaaDoorPC
set_option linter.unusedSimpArgs false
set_option linter.unusedVariables false
namespace Go.Proofs.YtcobkjognpjikaaDoor


theorem Rs_ext {a b : Rs} (ha : RsOk a) (hb : RsOk b) (hk : a.kind = b.kind) (h : ∀ t : Int, 1 ≤ t → t ≤ 8 → fieldS a t = fieldS b t) : a = b := by
  have inj : ∀ {x y : Int}, R64 x → R64 y → uw x = uw y → x = y := by intro x y hx hy he; have := congrArg sw he; rwa [sw_uw hx, sw_uw hy] at this
  have h1 := h 1 (by omega) (by omega); have h2 := h 2 (by omega) (by omega); have h3 := h 3 (by omega) (by omega); have h4 := h 4 (by omega) (by omega)
  have h5 := h 5 (by omega) (by omega); have h6 := h 6 (by omega) (by omega); have h7 := h 7 (by omega) (by omega); have h8 := h 8 (by omega) (by omega)
  obtain ⟨k, i, e, s, t, x, y, z, w⟩ := a
  obtain ⟨k', i', e', s', t', x', y', z', w'⟩ := b
  simp [fieldS, valS, VV.f] at h1 h2 h3 h4 h5 h6 h7 h8 hk
  subst hk h1 h3 h4
  obtain rfl : e = e' := inj ha.err hb.err h2
  obtain rfl : x = x' := inj ha.seat hb.seat h5
  obtain rfl : y = y' := inj ha.n hb.n h6
  obtain rfl : z = z' := inj ha.place hb.place h7
  obtain rfl : w = w' := inj ha.dl hb.dl h8
  rfl
theorem rest_other (r : Rs) {t : Int} (h1 : 3 ≤ t) (h2 : t ≤ 8) (hn : t ∉ tagsT r.kind r.err) (hz : neZ (restJ r (tagsT r.kind r.err)) = false) : fieldS r t = ⟨t, 0, []⟩ := by
  have ha := tagsT_asc r.kind r.err
  have hk : ∀ (l : List Int) (q : Rs), (∀ u ∈ l, 1 ≤ u ∧ u ≤ 8) → t ∉ l → fieldS (l.foldl (fun a t => putS a ⟨t, 0, []⟩) q) t = fieldS q t := by
    intro l
    induction l with
    | nil => intro q _ _; rfl
    | cons u l ih =>
      intro q hu hn
      simp only [List.mem_cons, not_or] at hn
      rw [List.foldl_cons, ih _ (fun v hv => hu v (by simp [hv])) hn.2, put_other q ⟨u, 0, []⟩ (by omega) h2 (hu u (by simp)) (fun e => hn.1 e.symm)]
  have h3 := hk (tagsT r.kind r.err) { r with kind := 0, id := 0, err := 0 } ha.2 hn
  unfold restJ at hz
  generalize (tagsT r.kind r.err).foldl (fun a t => putS a ⟨t, 0, []⟩) { r with kind := 0, id := 0, err := 0 } = q at h3 hz
  have hq : q = zeroS := by
    obtain ⟨k, i, e, s, t, x, y, z, w⟩ := q
    simp [neZ] at hz
    obtain ⟨⟨⟨⟨⟨⟨⟨⟨a, b⟩, c⟩, d⟩, e⟩, f⟩, g⟩, h⟩, i⟩ := hz
    subst a b c d e f g h i
    rfl
  rw [hq] at h3
  rcases tags8 (t := t) (by omega) h2 with rfl | rfl | rfl | rfl | rfl | rfl | rfl | rfl
  · omega
  · omega
  all_goals exact h3.symm
theorem fold_back {r : Rs} (hr : RsOk r) (h : checkS r = 0) : foldS r.kind (msgS r) = r := by
  have hp := check_parts h
  obtain ⟨h1, h2⟩ := msg_facts (enc_ok h)
  have hs := strs_of_check h
  refine Rs_ext (foldS_ok hr.kind (msgS_ok hr hs)) hr (foldS_kind _ _) (fun t ht1 ht2 => ?_)
  by_cases hm : t ∈ tagsT r.kind r.err
  · have := fold_get (msgS r) { zeroS with kind := r.kind } (by rw [h1]; exact (tagsT_asc _ _).1) h2 (fieldS r t) (List.mem_map.2 ⟨t, hm, rfl⟩)
    rw [fieldS_tag] at this
    exact this
  · have h12 : 1 ∈ tagsT r.kind r.err ∧ 2 ∈ tagsT r.kind r.err := by unfold tagsT; split <;> simp
    have h3 : 3 ≤ t := by
      rcases tags8 ht1 ht2 with rfl | rfl | rfl | rfl | rfl | rfl | rfl | rfl
      · exact absurd h12.1 hm
      · exact absurd h12.2 hm
      all_goals omega
    rw [rest_other r h3 ht2 hm hp.1]
    have h4 := fold_other (msgS r) { zeroS with kind := r.kind } (t := t) (by omega) ht2 (fun f hf => ⟨⟨(h2 f hf).1, (h2 f hf).2.1⟩, fun e => hm (by rw [← h1, ← e]; exact List.mem_map.2 ⟨f, hf, rfl⟩)⟩)
    unfold foldS
    rw [h4]
    rcases tags8 ht1 ht2 with rfl | rfl | rfl | rfl | rfl | rfl | rfl | rfl
    · omega
    · omega
    all_goals rfl
def pre2 (R1 R2 : Rule) (b : List UInt8) : Fld := (getV R2 ((getV R1 (b.drop 1)).2.1.drop 1)).1
theorem pre2_eq {k e : Int} {b : List UInt8} {f1 f2 : Fld} {l : List Fld} (h : encode (limitsS k e) (f1 :: f2 :: l) = (textI b, 0)) (hok : ∀ x ∈ f1 :: f2 :: l, FldOk x) (h1 : f1.tag = 1) (h2 : f2.tag = 2) : pre2 (limitS k 1) (limitS k 2) b = f2 := by
  obtain ⟨_, he, _, hb⟩ := encode_ok (rs := limitsS k e) (fs := f1 :: f2 :: l) (by rw [h])
  rw [h] at hb
  simp only at hb
  have m1 : (1 : Int) ∈ tagsT k e := by unfold tagsT; split <;> simp
  have m2 : (2 : Int) ∈ tagsT k e := by unfold tagsT; split <;> simp
  have r1 := (ruleAt_lim k e m1).2
  have r2 := (ruleAt_lim k e m2).2
  have e1 := encF_each _ 0 he f1 (by simp)
  have e2 := encF_each _ 0 he f2 (by simp)
  rw [h1, r1] at e1
  rw [h2, r2] at e2
  rw [encF] at he hb
  split at he
  · cases he
  · rename_i c1
    rw [if_neg c1] at hb
    rw [h1, r1, if_pos e1] at he hb
    simp only at he hb
    rw [encF] at he hb
    split at he
    · cases he
    · rename_i c2
      rw [if_neg c2] at hb
      rw [h2, r2, if_pos e2] at hb
      simp only at hb
      have hb2 : b = ((fldB (limitS k 1) f1 ++ (fldB (limitS k 2) f2 ++ (encF (limitsS k e) 2 l).2)).map byt) := by rw [← hb, byt_text]
      rw [fldB_G, fldB_G] at hb2
      unfold pre2
      rw [hb2]
      simp only [List.cons_append, List.map_cons, List.drop_succ_cons, List.drop_zero, List.map_append]
      have k1 : (limitS k 1).kind = 1 ∨ (limitS k 1).kind = 2 := by unfold limitS; (repeat' split) <;> simp
      have k2 : (limitS k 2).kind = 1 ∨ (limitS k 2).kind = 2 := by unfold limitS; (repeat' split) <;> simp
      rw [getV_B (limitS k 1) f1 _ k1 (hok f1 (by simp)) (by rw [h1, limitS_tag]) e1]
      simp only [List.drop_succ_cons, List.drop_zero]
      rw [getV_B (limitS k 2) f2 _ k2 (hok f2 (by simp)) (by rw [h2, limitS_tag]) e2]
theorem two_fields {k e : Int} {l : List Fld} (h : l.map Fld.tag = tagsT k e) : ∃ f1 f2 l', l = f1 :: f2 :: l' ∧ f1.tag = 1 ∧ f2.tag = 2 := by
  have : ∃ T, tagsT k e = 1 :: 2 :: T := by unfold tagsT; split; exact ⟨_, rfl⟩; exact ⟨[], rfl⟩
  obtain ⟨T, hT⟩ := this
  rw [hT] at h
  match l, h with
  | f1 :: f2 :: l', h =>
    simp only [List.map_cons, List.cons.injEq] at h
    exact ⟨f1, f2, l', rfl, h.1, h.2.1⟩
  | [], h => simp at h
  | [_], h => simp at h
theorem try_back {r : Rs} (hr : RsOk r) (h : checkS r = 0) {form : Int} (hf : decide (r.err = 0) = decide (form = 0)) : tryS r.kind form (encBy (limitsS r.kind r.err) (msgS r)) = (r, true) := by
  have hs := strs_of_check h
  have hd := round_law (msgS_ok hr hs) (enc_ok h)
  unfold tryS
  rw [← limits_form hf, hd, if_pos rfl]
  unfold acceptS
  rw [fold_back hr h, h, hf]
  simp
theorem try_not {r : Rs} (hr : RsOk r) (h : checkS r = 0) (he : r.err ≠ 0) : (tryS r.kind 0 (encBy (limitsS r.kind r.err) (msgS r))).2 = false := by
  cases ht : (tryS r.kind 0 (encBy (limitsS r.kind r.err) (msgS r))).2 with
  | false => rfl
  | true =>
    exfalso
    have hs := strs_of_check h
    obtain ⟨l, h1, h2, h3, h4, h5, h6⟩ := try_yes ht
    have m1 := msg_facts (enc_ok h)
    have m2 := msg_facts (k := r.kind) (e := 0) (l := l) (by rw [h3])
    obtain ⟨f1, f2, l', e1, t1, t2⟩ := two_fields m1.1
    obtain ⟨g1, g2, l'', e2, u1, u2⟩ := two_fields m2.1
    have hE : encode (limitsS r.kind r.err) (msgS r) = (textI (encBy (limitsS r.kind r.err) (msgS r)), 0) := by
      rw [encBy_text _ _ (msgS_ok hr hs), ← enc_ok h]
    have p1 := pre2_eq (b := encBy (limitsS r.kind r.err) (msgS r)) (f1 := f1) (f2 := f2) (l := l') (by rw [← e1]; exact hE) (by rw [← e1]; exact msgS_ok hr hs) t1 t2
    have p2 := pre2_eq (b := encBy (limitsS r.kind r.err) (msgS r)) (f1 := g1) (f2 := g2) (l := l'') (by rw [← e2]; exact h3) (by rw [← e2]; exact h2) u1 u2
    have hfg : g2 = f2 := p2.symm.trans p1
    have q1 := fold_get l { zeroS with kind := r.kind } (by rw [m2.1]; exact (tagsT_asc _ _).1) m2.2 g2 (by rw [e2]; simp)
    have q2 : f2 = fieldS r 2 := by
      have : f2 ∈ msgS r := by rw [e1]; simp
      obtain ⟨t, _, rfl⟩ := List.mem_map.1 this
      rw [fieldS_tag] at t2
      rw [t2]
    rw [u2, hfg, q2] at q1
    have h7 : (foldS r.kind l).err = 0 := by simpa using h5
    have h8 : fieldS (foldS r.kind l) 2 = fieldS r 2 := q1
    simp [fieldS, valS, VV.f, h7] at h8
    exact he ((uw_zero hr.err).1 h8.symm)
/-- what is encoded is decoded -/
theorem round_S {r : Rs} (hr : RsOk r) (h : checkS r = 0) : ∃ b, encS r = (b, 0) ∧ decS b = (r, 0) ∧ b ≠ [] ∧ b.length ≤ 1024 := by
  have hk := known_lt (checkS_known h)
  have hs := strs_of_check h
  refine ⟨byt r.kind :: encBy (limitsS r.kind r.err) (msgS r), ?_, ?_, by simp, ?_⟩
  · unfold encS; rw [if_neg (by simp [h]), enc_ok h]
  · have hc : ((byt r.kind).toNat : Int) = r.kind := byt_toNat _ hk.1 (by omega)
    rw [decS, hc, if_pos (checkS_known h)]
    by_cases he : r.err = 0
    · rw [try_back hr h (form := 0) (by simp [he]), if_pos rfl]
    · rw [if_neg (by rw [try_not hr h he]; simp), try_back hr h (form := 11) (by simp [he]), if_pos rfl]
  · have h56 := strs_56 h
    have hl : ∀ x ∈ msgS r, FldOk x ∧ x.txt.length ≤ 56 := by
      intro x hx
      refine ⟨msgS_ok hr hs x hx, ?_⟩
      obtain ⟨t, _, rfl⟩ := List.mem_map.1 hx
      unfold fieldS valS
      (repeat' split) <;> simp only [VV.f, List.length_nil] <;> omega
    have key : ∀ (fs : List Fld) (last : Int), (∀ x ∈ fs, FldOk x ∧ x.txt.length ≤ 56) → (encF (limitsS r.kind r.err) last fs).2.length ≤ 59 * fs.length := by
      intro fs
      induction fs with
      | nil => intro last _; simp [encF]
      | cons x fs ih =>
        intro last hx
        have i1 := ih x.tag (fun y hy => hx y (by simp [hy]))
        have i2 := digs_len x.num (hx x (by simp)).1.1 (hx x (by simp)).1.2.1
        have i3 := (hx x (by simp)).2
        have i4 : ∀ q : Rule, (fldB q x).length ≤ 59 := by intro q; unfold fldB; split <;> simp [textI_len] <;> omega
        rw [encF]
        split
        · simp
        · split
          · have := i4 (ruleAt x.tag (limitsS r.kind r.err)); simp only [List.length_append, List.length_cons]; omega
          · simp
    obtain ⟨_, _, _, h3⟩ := encode_ok (enc_ok h)
    have k1 := key (msgS r) 0 hl
    have k2 := msgS_len r
    unfold encBy
    rw [List.length_cons, List.length_map, h3]
    omega

end Go.Proofs.YtcobkjognpjikaaDoor
