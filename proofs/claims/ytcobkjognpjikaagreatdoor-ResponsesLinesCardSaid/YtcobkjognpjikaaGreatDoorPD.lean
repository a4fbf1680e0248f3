/- responses: Decode of Encode is the response. -/
import Derived.Test.YtcobkjognpjikaaGreatDoorPC
set_option linter.unusedSimpArgs false
set_option linter.unusedVariables false
namespace Go.Proofs.YtcobkjognpjikaaGreatDoor


theorem Rs_ext {a b : Rs} (ha : RsOk a) (hb : RsOk b) (hk : a.kind = b.kind) (h : ∀ t : Int, 1 ≤ t → t ≤ 8 → fieldS a t = fieldS b t) : a = b := by
  have inj : ∀ {x y : Int}, R64 x → R64 y → uw x = uw y → x = y := by intro x y hx hy he; have := congrArg sw he; rwa [sw_uw hx, sw_uw hy] at this
  have h1 := h 1 (by omega) (by omega); have h2 := h 2 (by omega) (by omega); have h3 := h 3 (by omega) (by omega); have h4 := h 4 (by omega) (by omega)
  have h5 := h 5 (by omega) (by omega); have h6 := h 6 (by omega) (by omega); have h7 := h 7 (by omega) (by omega); have h8 := h 8 (by omega) (by omega)
  obtain ⟨k, i, e, s, t, x, y, z, w⟩ := a
  obtain ⟨k', i', e', s', t', x', y', z', w'⟩ := b
  simp [fieldS, valS, VV.f] at h1 h2 h3 h4 h5 h6 h7 h8 hk
  subst hk h1 h3 h4
  obtain rfl : e = e' := inj ha.err hb.err h2
  obtain rfl : x = x' := inj ha.seat hb.seat h5
  obtain rfl : y = y' := inj ha.n hb.n h6
  obtain rfl : z = z' := inj ha.place hb.place h7
  obtain rfl : w = w' := inj ha.dl hb.dl h8
  rfl
theorem rest_other (r : Rs) {t : Int} (h1 : 3 ≤ t) (h2 : t ≤ 8) (hn : t ∉ tagsT r.kind r.err) (hz : neZ (restJ r (tagsT r.kind r.err)) = false) : fieldS r t = ⟨t, 0, []⟩ := by
  have ha := tagsT_asc r.kind r.err
  have hk : ∀ (l : List Int) (q : Rs), (∀ u ∈ l, 1 ≤ u ∧ u ≤ 8) → t ∉ l → fieldS (l.foldl (fun a t => putS a ⟨t, 0, []⟩) q) t = fieldS q t := by
    intro l
    induction l with
    | nil => intro q _ _; rfl
    | cons u l ih =>
      intro q hu hn
      simp only [List.mem_cons, not_or] at hn
      rw [List.foldl_cons, ih _ (fun v hv => hu v (by simp [hv])) hn.2, put_other q ⟨u, 0, []⟩ (by omega) h2 (hu u (by simp)) (fun e => hn.1 e.symm)]
  have h3 := hk (tagsT r.kind r.err) { r with kind := 0, id := 0, err := 0 } ha.2 hn
  unfold restJ at hz
  generalize (tagsT r.kind r.err).foldl (fun a t => putS a ⟨t, 0, []⟩) { r with kind := 0, id := 0, err := 0 } = q at h3 hz
  have hq : q = zeroS := by
    obtain ⟨k, i, e, s, t, x, y, z, w⟩ := q
    simp [neZ] at hz
    obtain ⟨⟨⟨⟨⟨⟨⟨⟨a, b⟩, c⟩, d⟩, e⟩, f⟩, g⟩, h⟩, i⟩ := hz
    subst a b c d e f g h i
    rfl
  rw [hq] at h3
  rcases tags8 (t := t) (by omega) h2 with rfl | rfl | rfl | rfl | rfl | rfl | rfl | rfl
  · omega
  · omega
  all_goals exact h3.symm
theorem fold_back {r : Rs} (hr : RsOk r) (h : checkS r = 0) : foldS r.kind (msgS r) = r := by
  have hp := check_parts h
  obtain ⟨h1, h2⟩ := msg_facts (enc_ok h)
  have hs := strs_of_check h
  refine Rs_ext (foldS_ok hr.kind (msgS_ok hr hs)) hr (foldS_kind _ _) (fun t ht1 ht2 => ?_)
  by_cases hm : t ∈ tagsT r.kind r.err
  · have := fold_get (msgS r) { zeroS with kind := r.kind } (by rw [h1]; exact (tagsT_asc _ _).1) h2 (fieldS r t) (List.mem_map.2 ⟨t, hm, rfl⟩)
    rw [fieldS_tag] at this
    exact this
  · have h12 : 1 ∈ tagsT r.kind r.err ∧ 2 ∈ tagsT r.kind r.err := by unfold tagsT; split <;> simp
    have h3 : 3 ≤ t := by
      rcases tags8 ht1 ht2 with rfl | rfl | rfl | rfl | rfl | rfl | rfl | rfl
      · exact absurd h12.1 hm
      · exact absurd h12.2 hm
      all_goals omega
    rw [rest_other r h3 ht2 hm hp.1]
    have h4 := fold_other (msgS r) { zeroS with kind := r.kind } (t := t) (by omega) ht2 (fun f hf => ⟨⟨(h2 f hf).1, (h2 f hf).2.1⟩, fun e => hm (by rw [← h1, ← e]; exact List.mem_map.2 ⟨f, hf, rfl⟩)⟩)
    unfold foldS
    rw [h4]
    rcases tags8 ht1 ht2 with rfl | rfl | rfl | rfl | rfl | rfl | rfl | rfl
    · omega
    · omega
    all_goals rfl
def pre2 (R1 R2 : Rule) (b : List UInt8) : Fld := (getV R2 ((getV R1 (b.drop 1)).2.1.drop 1)).1
end Go.Proofs.YtcobkjognpjikaaGreatDoor
