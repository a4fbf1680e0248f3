/- responses: what is decoded is what was encoded, and the other way round. -/
import Derived.Test.YtcobkjognpjikaaGreatDoorX1
set_option linter.unusedSimpArgs false
set_option linter.unusedVariables false
namespace Go.Proofs.YtcobkjognpjikaaGreatDoor


theorem tagsT_form {k e f : Int} (h : decide (e = 0) = decide (f = 0)) : tagsT k e = tagsT k f := by
  unfold tagsT
  by_cases he : e = 0
  · have hf : f = 0 := by simpa [he] using h
    rw [if_pos he, if_pos hf]
  · have hf : ¬ f = 0 := by simpa [he] using h
    rw [if_neg he, if_neg hf]
theorem putS_kind (r : Rs) (f : Fld) : (putS r f).kind = r.kind := by unfold putS; (repeat' split) <;> rfl
theorem fold_kind : ∀ (l : List Fld) (r : Rs), (l.foldl putS r).kind = r.kind
  | [], _ => rfl
  | f :: l, r => by rw [List.foldl_cons, fold_kind l, putS_kind]
theorem foldS_kind (k : Int) (l : List Fld) : (foldS k l).kind = k := fold_kind l _
/-- what a field of a response holds -/
def FldV (f : Fld) : Prop := 1 ≤ f.tag ∧ f.tag ≤ 8 ∧ (f.tag = 3 ∨ f.tag = 4 → f.num = 0) ∧ (f.tag ≠ 3 → f.tag ≠ 4 → f.txt = [] ∧ 0 ≤ f.num ∧ f.num ≤ 9223372036854775807)
theorem uw_sw {n : Int} (h0 : 0 ≤ n) (h1 : n ≤ 9223372036854775807) : uw (sw n) = n := by unfold sw uw; rw [IntKind.wrap_i64]; omega
theorem put_get (r : Rs) (f : Fld) (hf : FldV f) : fieldS (putS r f) f.tag = f := by
  obtain ⟨t, n, l⟩ := f
  obtain ⟨h1, h2, h3, h4⟩ := hf
  simp only at h1 h2 h3 h4
  rcases tags8 h1 h2 with rfl | rfl | rfl | rfl | rfl | rfl | rfl | rfl
  all_goals simp [putS, fieldS, valS, VV.f] at h3 h4 ⊢
  all_goals first | (obtain ⟨h5, h6, h7⟩ := h4; simp [h5, uw_sw h6 h7]; done) | (simp [h3]; done) | (simp [h4]; done)
theorem put_other (r : Rs) (f : Fld) {t : Int} (h1 : 1 ≤ t) (h2 : t ≤ 8) (hf : 1 ≤ f.tag ∧ f.tag ≤ 8) (hne : f.tag ≠ t) : fieldS (putS r f) t = fieldS r t := by
  obtain ⟨u, n, l⟩ := f
  simp only at hf hne
  rcases tags8 h1 h2 with rfl | rfl | rfl | rfl | rfl | rfl | rfl | rfl <;> rcases tags8 hf.1 hf.2 with rfl | rfl | rfl | rfl | rfl | rfl | rfl | rfl <;> first | exact absurd rfl hne | rfl
theorem fold_other : ∀ (l : List Fld) (r : Rs) {t : Int}, 1 ≤ t → t ≤ 8 → (∀ f ∈ l, (1 ≤ f.tag ∧ f.tag ≤ 8) ∧ f.tag ≠ t) → fieldS (l.foldl putS r) t = fieldS r t
  | [], _, _, _, _, _ => rfl
  | f :: l, r, t, h1, h2, h => by
    rw [List.foldl_cons, fold_other l _ h1 h2 (fun g hg => h g (by simp [hg])), put_other r f h1 h2 (h f (by simp)).1 (h f (by simp)).2]
theorem fold_get : ∀ (l : List Fld) (r : Rs), (l.map Fld.tag).Pairwise (· < ·) → (∀ f ∈ l, FldV f) → ∀ f ∈ l, fieldS (l.foldl putS r) f.tag = f
  | [], _, _, _, f, hf => by simp at hf
  | g :: l, r, hp, hv, f, hf => by
    rw [List.map_cons] at hp
    have hp1 := (List.pairwise_cons.1 hp).1
    have hp2 := (List.pairwise_cons.1 hp).2
    rw [List.foldl_cons]
    rcases List.mem_cons.1 hf with rfl | hf
    · have hg := hv f (by simp)
      rw [fold_other l _ hg.1 hg.2.1 (fun x hx => ⟨⟨(hv x (by simp [hx])).1, (hv x (by simp [hx])).2.1⟩, by have := hp1 x.tag (List.mem_map.2 ⟨x, hx, rfl⟩); omega⟩)]
      exact put_get r f hg
    · exact fold_get l _ hp2 (fun x hx => hv x (by simp [hx])) f hf
end Go.Proofs.YtcobkjognpjikaaGreatDoor
