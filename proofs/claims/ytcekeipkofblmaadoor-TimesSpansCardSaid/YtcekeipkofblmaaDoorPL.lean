/- Union and Minus: what they return, in plain words. -/
import Derived.Test.YtcekeipkofblmaaDoorJ
set_option linter.unusedSimpArgs false
set_option linter.unusedVariables false
namespace Go.Proofs.YtcekeipkofblmaaDoor

theorem nodup_len {α : Type} [DecidableEq α] : ∀ {l m : List α}, l.Nodup → (∀ x ∈ l, x ∈ m) → l.length ≤ m.length
  | [], _, _, _ => by simp
  | x :: l, m, h, hs => by
    have hn := List.nodup_cons.1 h
    have hx : x ∈ m := hs x (by simp)
    have := nodup_len (m := m.erase x) hn.2 (fun y hy => by
      have : y ≠ x := fun e => hn.1 (e ▸ hy)
      exact (List.mem_erase_of_ne this).2 (hs y (by simp [hy])))
    rw [List.length_erase_of_mem hx] at this
    have := List.length_pos_of_mem hx
    simp; omega

def Val (s : Sp) : Prop := 0 ≤ s.1 ∧ s.1 < s.2
def Can (l : List Sp) : Prop := (∀ s ∈ l, Val s) ∧ l.Pairwise (fun x y => x.2 < y.1)
theorem inS_iff {l : List Sp} {t : Int} : inS l t = true ↔ ∃ s ∈ l, s.1 ≤ t ∧ t < s.2 := by simp [inS]
theorem inS_app (l m : List Sp) (t : Int) : inS (l ++ m) t = (inS l t || inS m t) := by simp [inS]
theorem inS_cons (s : Sp) (l : List Sp) (t : Int) : inS (s :: l) t = ((decide (s.1 ≤ t) && decide (t < s.2)) || inS l t) := by simp [inS]
theorem inS_perm {l m : List Sp} (h : l.Perm m) (t : Int) : inS l t = inS m t := by
  rw [Bool.eq_iff_iff, inS_iff, inS_iff]
  constructor
  · rintro ⟨s, hs, ht⟩; exact ⟨s, h.subset hs, ht⟩
  · rintro ⟨s, hs, ht⟩; exact ⟨s, h.symm.subset hs, ht⟩
theorem Can.nil : Can [] := ⟨by simp, List.Pairwise.nil⟩
theorem Can.tail {s : Sp} {l : List Sp} (h : Can (s :: l)) : Can l := ⟨fun x hx => h.1 x (by simp [hx]), (List.pairwise_cons.1 h.2).2⟩
theorem Can.head {s : Sp} {l : List Sp} (h : Can (s :: l)) : ∀ x ∈ l, s.2 < x.1 := (List.pairwise_cons.1 h.2).1
theorem Can.app {l m : List Sp} (h1 : Can l) (h2 : Can m) (h : ∀ x ∈ l, ∀ y ∈ m, x.2 < y.1) : Can (l ++ m) :=
  ⟨fun s hs => by rcases List.mem_append.1 hs with hs | hs; exact h1.1 s hs; exact h2.1 s hs, List.pairwise_append.2 ⟨h1.2, h2.2, h⟩⟩
theorem Can.left {l m : List Sp} (h : Can (l ++ m)) : Can l := ⟨fun s hs => h.1 s (by simp [hs]), (List.pairwise_append.1 h.2).1⟩
theorem Can.one {s : Sp} (h : Val s) : Can [s] := ⟨by simpa using h, by simp⟩

theorem uStep_nil (s : Sp) : uStep [] s = [s] := by simp [uStep]
theorem uStep_snoc (l : List Sp) (y s : Sp) : uStep (l ++ [y]) s = if s.1 ≤ y.2 then l ++ [(y.1, max y.2 s.2)] else l ++ [y] ++ [s] := by
  have hl : lastS (l ++ [y]) = y := by simp [lastS]
  have hs : (l ++ [y]).set ((l ++ [y]).length - 1) (y.1, max y.2 s.2) = l ++ [(y.1, max y.2 s.2)] := by simp
  have h0 : decide (0 < ((l ++ [y]).length : Int)) = true := by simp
  unfold uStep
  rw [hl, hs, h0, Bool.true_and]
  by_cases h : s.1 ≤ y.2 <;> simp [h]
theorem uStep_can {acc : List Sp} {s : Sp} (hc : Can acc) (hs : Val s) (hle : ∀ x ∈ acc, x.1 ≤ s.1) :
    Can (uStep acc s) ∧ (∀ t, inS (uStep acc s) t = (inS acc t || inS [s] t)) ∧ ∀ x ∈ uStep acc s, x.1 ≤ s.1 := by
  rcases List.eq_nil_or_concat acc with rfl | ⟨l, y, rfl⟩
  · rw [uStep_nil]
    exact ⟨Can.one hs, fun t => by simp [inS], by simp⟩
  rw [List.concat_eq_append] at *
  rw [uStep_snoc]
  have hy : Val y := hc.1 y (by simp)
  have hys := hle y (by simp)
  unfold Val at hy hs
  have hly : ∀ x ∈ l, x.2 < y.1 := fun x hx => (List.pairwise_append.1 hc.2).2.2 x hx y (by simp)
  split
  · rename_i h
    refine ⟨hc.left.app (Can.one ⟨hy.1, by dsimp only; omega⟩) (fun x hx z hz => ?_), fun t => ?_, fun x hx => ?_⟩
    · simp at hz; subst hz; exact hly x hx
    · rw [inS_app, inS_app, Bool.or_assoc]
      congr 1
      rw [Bool.eq_iff_iff]
      simp [inS]
      omega
    · rcases List.mem_append.1 hx with hx | hx
      · exact hle x (by simp [hx])
      · simp at hx; subst hx; exact hys
  · rename_i h
    refine ⟨hc.app (Can.one hs) (fun x hx z hz => ?_), fun t => inS_app _ _ _, fun x hx => ?_⟩
    · simp at hz; subst hz
      rcases List.mem_append.1 hx with hx | hx
      · have := hly x hx; omega
      · simp at hx; subst hx; omega
    · rcases List.mem_append.1 hx with hx | hx
      · exact hle x hx
      · simp at hx; subst hx; omega
theorem uFold_can : ∀ (zs acc : List Sp), Can acc → (∀ x ∈ acc, ∀ s ∈ zs, x.1 ≤ s.1) → zs.Pairwise (fun x y => x.1 ≤ y.1) → (∀ s ∈ zs, Val s) →
    Can (zs.foldl uStep acc) ∧ ∀ t, inS (zs.foldl uStep acc) t = (inS acc t || inS zs t)
  | [], acc, h, _, _, _ => ⟨h, fun t => by simp [inS]⟩
  | s :: zs, acc, h, h1, h2, h3 => by
    have hp := List.pairwise_cons.1 h2
    obtain ⟨c1, c2, c3⟩ := uStep_can h (h3 s (by simp)) (fun x hx => h1 x hx s (by simp))
    obtain ⟨d1, d2⟩ := uFold_can zs (uStep acc s) c1 (fun x hx y hy => Int.le_trans (c3 x hx) (hp.1 y hy)) hp.2 (fun y hy => h3 y (by simp [hy]))
    refine ⟨d1, fun t => ?_⟩
    rw [List.foldl_cons, d2, c2, Bool.or_assoc, ← inS_app]; rfl
theorem union_can {l : List Sp} (h : ∀ s ∈ l, Val s) : Can (unionS l) ∧ ∀ t, inS (unionS l) t = inS l t := by
  obtain ⟨f1, f2⟩ := sortS_facts l
  obtain ⟨c1, c2⟩ := uFold_can (sortS l) [] Can.nil (by simp) f2 (fun s hs => h s (f1.subset hs))
  exact ⟨c1, fun t => by show inS ((sortS l).foldl uStep []) t = _; rw [c2, inS_perm f1]; simp [inS]⟩
theorem can_uniq : ∀ {l m : List Sp}, Can l → Can m → (∀ t, inS l t = inS m t) → l = m
  | [], [], _, _, _ => rfl
  | [], y :: m, _, h, he => by
    have hy := h.1 y (by simp); unfold Val at hy
    have := he y.1
    have h2 : inS (y :: m) y.1 = true := inS_iff.2 ⟨y, by simp, by omega⟩
    rw [h2] at this; simp [inS] at this
  | x :: l, [], h, _, he => by
    have hy := h.1 x (by simp); unfold Val at hy
    have := he x.1
    have h2 : inS (x :: l) x.1 = true := inS_iff.2 ⟨x, by simp, by omega⟩
    rw [h2] at this; simp [inS] at this
  | x :: l, y :: m, h, h', he => by
    have key : ∀ {x y : Sp} {l m : List Sp}, Can (x :: l) → Can (y :: m) → (∀ t, inS (x :: l) t = inS (y :: m) t) → y.1 ≤ x.1 := by
      intro x y l m h h' he
      have hx := h.1 x (by simp); unfold Val at hx
      have h2 : inS (x :: l) x.1 = true := inS_iff.2 ⟨x, by simp, by omega⟩
      rw [he] at h2
      obtain ⟨s, hs, hs1, _⟩ := inS_iff.1 h2
      rcases List.mem_cons.1 hs with rfl | hs
      · exact hs1
      · have := h'.head s hs
        have hy := h'.1 y (by simp); unfold Val at hy
        omega
    have e1 : x.1 = y.1 := Int.le_antisymm (key h' h (fun t => (he t).symm)) (key h h' he)
    have key2 : ∀ {x y : Sp} {l m : List Sp}, Can (x :: l) → Can (y :: m) → (∀ t, inS (x :: l) t = inS (y :: m) t) → x.1 = y.1 → y.2 ≤ x.2 := by
      intro x y l m h h' he e1
      have hx := h.1 x (by simp); unfold Val at hx
      rcases Int.lt_or_le x.2 y.2 with hlt | hle
      · have h2 : inS (y :: m) x.2 = true := inS_iff.2 ⟨y, by simp, by omega, hlt⟩
        rw [← he] at h2
        obtain ⟨s, hs, hs1, hs2⟩ := inS_iff.1 h2
        rcases List.mem_cons.1 hs with rfl | hs
        · omega
        · have := h.head s hs; omega
      · exact hle
    have e2 : x.2 = y.2 := Int.le_antisymm (key2 h' h (fun t => (he t).symm) e1.symm) (key2 h h' he e1)
    have e : x = y := by cases x; cases y; simp_all
    subst e
    have hout : ∀ {l : List Sp}, Can (x :: l) → ∀ t, inS l t = (inS (x :: l) t && decide (x.2 < t)) := by
      intro l h t
      rw [Bool.eq_iff_iff, inS_cons]
      have hx := h.1 x (by simp); unfold Val at hx
      constructor
      · intro ht
        obtain ⟨s, hs, hs1, _⟩ := inS_iff.1 ht
        have := h.head s hs
        rw [ht]; simp; omega
      · intro ht
        simp only [Bool.and_eq_true, Bool.or_eq_true, decide_eq_true_eq] at ht
        rcases ht.1 with h1 | h1
        · omega
        · exact h1
    rw [can_uniq h.tail h'.tail (fun t => by rw [hout h, hout h', he])]

theorem cut_fold : ∀ (hs : List Sp) (s1 s2 : Int) (acc : List Sp), Can hs → 0 ≤ s1 → s1 ≤ s2 →
    ∃ p out, hs.foldl cutStep ((s1, s2), acc) = ((p, s2), acc ++ out) ∧ Can out ∧ s1 ≤ p ∧ p ≤ s2 ∧ (∀ x ∈ out, s1 ≤ x.1 ∧ x.2 < p ∧ x.2 ≤ s2 ∧ x.2 ∈ hs.map (·.1)) ∧
      ∀ t, (inS out t || (decide (p ≤ t) && decide (t < s2))) = ((decide (s1 ≤ t) && decide (t < s2)) && !inS hs t)
  | [], s1, s2, acc, _, _, h => ⟨s1, [], by simp, Can.nil, Int.le_refl _, h, by simp, fun t => by simp [inS]⟩
  | h :: hs, s1, s2, acc, hc, h0, h12 => by
    have hv := hc.1 h (by simp); unfold Val at hv
    have hhd := hc.head
    by_cases hA : h.2 ≤ s1 ∨ s2 ≤ h.1
    · obtain ⟨p, out, e, c1, c2, c3, c4, c5⟩ := cut_fold hs s1 s2 acc hc.tail h0 h12
      refine ⟨p, out, ?_, c1, c2, c3, fun x hx => ⟨(c4 x hx).1, (c4 x hx).2.1, (c4 x hx).2.2.1, by simp only [List.map_cons, List.mem_cons]; exact .inr (c4 x hx).2.2.2⟩, fun t => ?_⟩
      · rw [List.foldl_cons, show cutStep ((s1, s2), acc) h = ((s1, s2), acc) from if_pos (by simpa using hA)]; exact e
      · rw [c5, inS_cons]
        rw [Bool.eq_iff_iff]
        simp only [Bool.and_eq_true, decide_eq_true_eq, Bool.not_eq_true', Bool.or_eq_false_iff, Bool.and_eq_false_iff, decide_eq_false_iff_not]
        constructor
        · rintro ⟨⟨a, b⟩, c⟩; exact ⟨⟨a, b⟩, by omega, c⟩
        · rintro ⟨⟨a, b⟩, _, c⟩; exact ⟨⟨a, b⟩, c⟩
    · have hB : s1 < h.2 ∧ h.1 < s2 := by omega
      obtain ⟨p, out, e, c1, c2, c3, c4, c5⟩ := cut_fold hs (min h.2 s2) s2 (if s1 < h.1 then acc ++ [(s1, h.1)] else acc) hc.tail (by omega) (by omega)
      have hnot : ∀ t, t < h.2 → inS hs t = false := fun t ht => by
        cases hh : inS hs t
        · rfl
        · obtain ⟨s, hs', hs1, _⟩ := inS_iff.1 hh
          have := hhd s hs'; omega
      have e0 : (h :: hs).foldl cutStep ((s1, s2), acc) = hs.foldl cutStep ((min h.2 s2, s2), if s1 < h.1 then acc ++ [(s1, h.1)] else acc) := by
        rw [List.foldl_cons]; congr 1
        exact if_neg (by simp; omega)
      by_cases hs1 : s1 < h.1
      · rw [if_pos hs1] at e e0
        refine ⟨p, (s1, h.1) :: out, by rw [e0, e]; simp, ?_, by omega, c3, fun x hx => ?_, fun t => ?_⟩
        · refine Can.app (l := [(s1, h.1)]) (Can.one ⟨h0, hs1⟩) c1 (fun x hx y hy => ?_)
          simp at hx; subst hx
          have := (c4 y hy).1
          dsimp only; omega
        · rcases List.mem_cons.1 hx with rfl | hx
          · refine ⟨by dsimp only; omega, by dsimp only; omega, by dsimp only; omega, by simp⟩
          · have := c4 x hx
            exact ⟨by omega, this.2.1, this.2.2.1, by simp only [List.map_cons, List.mem_cons]; exact .inr this.2.2.2⟩
        · rw [inS_cons, Bool.or_assoc, c5, inS_cons]
          dsimp only
          by_cases hlt : t < h.2
          · rw [hnot t hlt, Bool.eq_iff_iff]
            simp only [Bool.and_eq_true, Bool.or_eq_true, decide_eq_true_eq, Bool.not_eq_true', Bool.or_eq_false_iff, Bool.and_eq_false_iff, decide_eq_false_iff_not, Bool.not_false, Bool.and_true, Bool.or_false]
            omega
          · have e3 : (decide (h.1 ≤ t) && decide (t < h.2)) = false := by simp; omega
            rw [e3, Bool.false_or, Bool.eq_iff_iff]
            simp only [Bool.and_eq_true, Bool.or_eq_true, decide_eq_true_eq]
            constructor
            · rintro (h1 | h1)
              · omega
              · exact ⟨by omega, h1.2⟩
            · rintro ⟨h1, h2⟩
              exact .inr ⟨by omega, h2⟩
      · rw [if_neg hs1] at e e0
        refine ⟨p, out, by rw [e0, e], c1, by omega, c3, fun x hx => ?_, fun t => ?_⟩
        · have := c4 x hx
          exact ⟨by omega, this.2.1, this.2.2.1, by simp only [List.map_cons, List.mem_cons]; exact .inr this.2.2.2⟩
        · rw [c5, inS_cons]
          by_cases hlt : t < h.2
          · rw [hnot t hlt, Bool.eq_iff_iff]
            simp only [Bool.and_eq_true, Bool.or_eq_true, decide_eq_true_eq, Bool.not_eq_true', Bool.or_eq_false_iff, Bool.and_eq_false_iff, decide_eq_false_iff_not, Bool.not_false, Bool.and_true, Bool.or_false]
            omega
          · have e3 : (decide (h.1 ≤ t) && decide (t < h.2)) = false := by simp; omega
            rw [e3, Bool.false_or, Bool.eq_iff_iff]
            simp only [Bool.and_eq_true, decide_eq_true_eq]
            constructor
            · rintro ⟨h1, h2⟩; exact ⟨by omega, h2⟩
            · rintro ⟨h1, h2⟩; exact ⟨by omega, h2⟩
theorem span_step {hs acc : List Sp} {s : Sp} (hh : Can hs) (hc : Can acc) (hs' : Val s) (hle : ∀ x ∈ acc, x.2 < s.1) :
    Can (spanStep hs acc s) ∧ (∀ t, inS (spanStep hs acc s) t = (inS acc t || (inS [s] t && !inS hs t))) ∧ (∀ x ∈ spanStep hs acc s, x ∈ acc ∨ (x.2 ≤ s.2 ∧ (x.2 = s.2 ∨ x.2 ∈ hs.map (·.1)))) := by
  unfold Val at hs'
  obtain ⟨p, out, e, c1, c2, c3, c4, c5⟩ := cut_fold hs s.1 s.2 acc hh hs'.1 (by omega)
  have e1 : hs.foldl cutStep (s, acc) = ((p, s.2), acc ++ out) := e
  have es : spanStep hs acc s = acc ++ (out ++ if p < s.2 then [(p, s.2)] else []) := by
    unfold spanStep
    rw [e1]
    dsimp only
    split <;> simp
  have hcan : Can (out ++ if p < s.2 then [(p, s.2)] else []) := by
    split
    · exact c1.app (Can.one ⟨by dsimp only; omega, by assumption⟩) (fun x hx y hy => by simp at hy; subst hy; exact (c4 x hx).2.1)
    · simpa using c1
  rw [es]
  refine ⟨hc.app hcan (fun x hx y hy => ?_), fun t => ?_, fun x hx => ?_⟩
  · have h1 := hle x hx
    rcases List.mem_append.1 hy with hy | hy
    · have := (c4 y hy).1; omega
    · split at hy
      · simp at hy; subst hy; dsimp only; omega
      · simp at hy
  · rw [inS_app, inS_app]
    congr 1
    have : inS (if p < s.2 then [(p, s.2)] else []) t = (decide (p ≤ t) && decide (t < s.2)) := by
      split
      · simp [inS]
      · simp [inS]; omega
    rw [this, c5]; simp [inS]
  · rcases List.mem_append.1 hx with hx | hx
    · exact .inl hx
    · right
      rcases List.mem_append.1 hx with hx | hx
      · exact ⟨(c4 x hx).2.2.1, .inr (c4 x hx).2.2.2⟩
      · split at hx
        · simp at hx; subst hx; exact ⟨Int.le_refl _, .inl rfl⟩
        · simp at hx
theorem span_fold {hs : List Sp} (hh : Can hs) : ∀ (zs acc : List Sp), Can zs → Can acc → (∀ x ∈ acc, ∀ s ∈ zs, x.2 < s.1) →
    Can (zs.foldl (spanStep hs) acc) ∧ (∀ t, inS (zs.foldl (spanStep hs) acc) t = (inS acc t || (inS zs t && !inS hs t))) ∧ (∀ x ∈ zs.foldl (spanStep hs) acc, x ∈ acc ∨ x.2 ∈ zs.map (·.2) ∨ x.2 ∈ hs.map (·.1))
  | [], acc, _, h, _ => ⟨h, fun t => by simp [inS], fun x hx => .inl hx⟩
  | s :: zs, acc, hz, ha, hl => by
    obtain ⟨c1, c2, c3⟩ := span_step hh ha (hz.1 s (by simp)) (fun x hx => hl x hx s (by simp))
    have hv := hz.1 s (by simp); unfold Val at hv
    obtain ⟨d1, d2, d3⟩ := span_fold hh zs (spanStep hs acc s) hz.tail c1 (fun x hx y hy => by
      rcases c3 x hx with h | h
      · exact hl x h y (by simp [hy])
      · have := hz.head y hy; omega)
    refine ⟨d1, fun t => ?_, fun x hx => ?_⟩
    · rw [List.foldl_cons, d2, c2, inS_cons s zs]
      have : inS [s] t = (decide (s.1 ≤ t) && decide (t < s.2)) := by simp [inS]
      rw [this]
      cases inS acc t <;> cases inS hs t <;> simp
    · rcases d3 x hx with h | h | h
      · rcases c3 x h with h | ⟨_, h | h⟩
        · exact .inl h
        · right; left; simp [h]
        · exact .inr (.inr h)
      · right; left; simp only [List.map_cons, List.mem_cons]; exact .inr h
      · exact .inr (.inr h)
theorem minus_can {a b : List Sp} (ha : ∀ s ∈ a, Val s) (hb : ∀ s ∈ b, Val s) : Can (minusS a b) ∧ (∀ t, inS (minusS a b) t = (inS a t && !inS b t)) ∧ (minusS a b).length ≤ a.length + b.length := by
  obtain ⟨u1, u2⟩ := union_can ha
  obtain ⟨v1, v2⟩ := union_can hb
  obtain ⟨c1, c2, c3⟩ := span_fold v1 (unionS a) [] u1 Can.nil (by simp)
  have hlen : (minusS a b).length ≤ ((unionS a).map (·.2) ++ (unionS b).map (·.1)).length := by
    have hnd : ((minusS a b).map (·.2)).Nodup := by
      rw [List.Nodup, List.pairwise_map]
      have h2 : (minusS a b).Pairwise (fun x y => x.2 < y.1) := c1.2
      have h1 : ∀ s ∈ minusS a b, Val s := c1.1
      generalize minusS a b = m at h1 h2
      induction m with
      | nil => exact List.Pairwise.nil
      | cons x m ih =>
        have hp := List.pairwise_cons.1 h2
        refine List.pairwise_cons.2 ⟨fun y hy => ?_, ih (fun s hs => h1 s (by simp [hs])) hp.2⟩
        have := hp.1 y hy
        have hv := h1 y (by simp [hy]); unfold Val at hv
        omega
    have hsub : ∀ x ∈ (minusS a b).map (·.2), x ∈ (unionS a).map (·.2) ++ (unionS b).map (·.1) := by
      intro x hx
      obtain ⟨y, hy, rfl⟩ := List.mem_map.1 hx
      rcases c3 y hy with h | h | h
      · cases h
      · exact List.mem_append.2 (.inl h)
      · exact List.mem_append.2 (.inr h)
    have := nodup_len hnd hsub
    simpa using this
  have hu := unionS_len a
  have hv := unionS_len b
  refine ⟨c1, fun t => ?_, ?_⟩
  · show inS ((unionS a).foldl (spanStep (unionS b)) []) t = _
    rw [c2, u2, v2]; simp [inS]
  · simp at hlen; omega

def sumS : List Sp → Int
  | [] => 0
  | s :: l => s.2 - s.1 + sumS l
def cntP (p : Nat → Bool) : Nat → Int
  | 0 => 0
  | n + 1 => cntP p n + if p n = true then 1 else 0
theorem cntP_or {p q r : Nat → Bool} (h : ∀ n, p n = (q n || r n)) (hd : ∀ n, (q n && r n) = false) : ∀ N, cntP p N = cntP q N + cntP r N
  | 0 => rfl
  | N + 1 => by
    simp only [cntP]
    rw [cntP_or h hd N, h N]
    have := hd N
    cases hq : q N <;> cases hr : r N <;> simp_all <;> omega
theorem cntP_iv {a b : Int} (h0 : 0 ≤ a) (hab : a ≤ b) : ∀ N : Nat, cntP (fun n => decide (a ≤ n) && decide ((n : Int) < b)) N = min b N - min a N
  | 0 => by simp [cntP]; omega
  | N + 1 => by
    simp only [cntP]
    rw [cntP_iv h0 hab N]
    by_cases h : a ≤ (N : Int) ∧ (N : Int) < b
    · rw [if_pos (by simpa using h)]; push_cast; omega
    · rw [if_neg (by simpa using h)]; push_cast; omega
theorem cnt_can : ∀ {l : List Sp}, Can l → ∀ {N : Nat}, (∀ s ∈ l, s.2 ≤ N) → cntP (fun n => inS l n) N = sumS l
  | [], _, N, _ => by
    have : ∀ N, cntP (fun n => inS [] n) N = 0 := fun N => by
      induction N with
      | zero => rfl
      | succ N ih => simp only [cntP]; rw [ih]; simp [inS]
    exact this N
  | s :: l, h, N, hN => by
    have hv := h.1 s (by simp); unfold Val at hv
    rw [cntP_or (q := fun n => decide (s.1 ≤ (n : Int)) && decide ((n : Int) < s.2)) (r := fun n => inS l n) (fun n => inS_cons s l n) (fun n => by
      cases hh : inS l n
      · simp
      · obtain ⟨x, hx, hx1, _⟩ := inS_iff.1 hh
        have := h.head x hx
        simp; omega) N, cntP_iv hv.1 (by omega), cnt_can h.tail (fun x hx => hN x (by simp [hx]))]
    have := hN s (by simp)
    simp only [sumS]; omega
theorem bound_of (l : List Sp) : ∃ N : Nat, ∀ s ∈ l, s.2 ≤ N := by
  induction l with
  | nil => exact ⟨0, by simp⟩
  | cons s l ih =>
    obtain ⟨N, h⟩ := ih
    refine ⟨max N s.2.toNat, fun x hx => ?_⟩
    rcases List.mem_cons.1 hx with rfl | hx
    · omega
    · have := h x hx; omega
theorem sum_part {l m g : List Sp} (hl : Can l) (hm : Can m) (hg : Can g) (h : ∀ t, inS l t = (inS m t || inS g t)) (hd : ∀ t, (inS m t && inS g t) = false) : sumS l = sumS m + sumS g := by
  obtain ⟨N, hN⟩ := bound_of (l ++ (m ++ g))
  rw [← cnt_can hl (N := N) (fun s hs => hN s (by simp [hs])), ← cnt_can hm (N := N) (fun s hs => hN s (by simp [hs])), ← cnt_can hg (N := N) (fun s hs => hN s (by simp [hs]))]
  exact cntP_or (fun n => h n) (fun n => hd n) N

theorem chkS_ok (s : Sp) : chkS s = 0 ↔ Val s := by
  unfold chkS Val
  split
  · simp; omega
  · split
    · simp; omega
    · simp; omega
theorem listS_ok : ∀ l : List Sp, listS l = 0 ↔ ∀ s ∈ l, Val s
  | [] => by simp [listS]
  | s :: l => by
    simp only [listS]
    split
    · rename_i h
      rw [listS_ok l]
      simp [(chkS_ok s).1 h]
    · rename_i h
      constructor
      · intro h'; exact absurd h' h
      · intro h'; exact absurd ((chkS_ok s).2 (h' s (by simp))) h
theorem check1 (l : List Sp) : checkS [l] = 0 ↔ l.length ≤ 200 ∧ ∀ s ∈ l, Val s := by
  have hl := listS_ok l
  unfold checkS
  by_cases h : 200 < l.length
  · rw [if_pos (by simp [longS]; omega)]
    exact ⟨fun h' => absurd h' (by decide), fun h' => absurd h'.1 (by omega)⟩
  · rw [if_neg (by simp [longS]; omega)]
    simp only [listsS]
    split
    · rename_i h0; exact ⟨fun _ => ⟨by omega, hl.1 h0⟩, fun _ => rfl⟩
    · rename_i h0; exact ⟨fun h' => absurd h' h0, fun h' => hl.2 h'.2⟩
theorem check2 (a b : List Sp) : checkS [a, b] = 0 ↔ (a.length ≤ 200 ∧ ∀ s ∈ a, Val s) ∧ (b.length ≤ 200 ∧ ∀ s ∈ b, Val s) := by
  have ha := listS_ok a
  have hb := listS_ok b
  unfold checkS
  by_cases h : 200 < a.length ∨ 200 < b.length
  · rw [if_pos (by simp [longS]; omega)]
    refine ⟨fun h' => absurd h' (by decide), fun h' => ?_⟩
    have := h'.1.1
    have := h'.2.1
    omega
  · rw [if_neg (by simp [longS]; omega)]
    simp only [listsS]
    split
    · rename_i h0
      split
      · rename_i h1; exact ⟨fun _ => ⟨⟨by omega, ha.1 h0⟩, by omega, hb.1 h1⟩, fun _ => rfl⟩
      · rename_i h1; exact ⟨fun h' => absurd h' h1, fun h' => hb.2 h'.2.2⟩
    · rename_i h0; exact ⟨fun h' => absurd h' h0, fun h' => ha.2 h'.1.2⟩
theorem unionT_ok {l : List Sp} (h : l.length ≤ 200) (hv : ∀ s ∈ l, Val s) : unionT l = (unionS l, 0) := by
  unfold unionT; rw [(check1 l).2 ⟨h, hv⟩]; rfl
theorem minusT_ok {a b : List Sp} (h : a.length ≤ 200) (hv : ∀ s ∈ a, Val s) (h' : b.length ≤ 200) (hv' : ∀ s ∈ b, Val s) : minusT a b = (minusS a b, 0) := by
  unfold minusT; rw [(check2 a b).2 ⟨⟨h, hv⟩, h', hv'⟩]; rfl
theorem totT_ok {l : List Sp} (h : l.length ≤ 200) (hv : ∀ s ∈ l, Val s) : totT l = (totGo 0 (unionS l), 0) := by
  unfold totT; rw [(check1 l).2 ⟨h, hv⟩]; rfl
theorem unionT_cases (l : List Sp) : (unionT l).2 = 0 ∧ l.length ≤ 200 ∧ (∀ s ∈ l, Val s) ∨ (unionT l).2 ≠ 0 ∧ (unionT l).1 = [] ∧ ¬ (l.length ≤ 200 ∧ ∀ s ∈ l, Val s) := by
  by_cases h : checkS [l] = 0
  · have := (check1 l).1 h
    rw [unionT_ok this.1 this.2]; exact .inl ⟨rfl, this⟩
  · right
    unfold unionT
    rw [if_pos (by simpa using h)]
    exact ⟨h, rfl, fun h' => h ((check1 l).2 h')⟩
theorem minusT_cases (a b : List Sp) : (minusT a b).2 = 0 ∧ (a.length ≤ 200 ∧ ∀ s ∈ a, Val s) ∧ (b.length ≤ 200 ∧ ∀ s ∈ b, Val s) ∨ (minusT a b).2 ≠ 0 ∧ (minusT a b).1 = [] ∧ ¬ ((a.length ≤ 200 ∧ ∀ s ∈ a, Val s) ∧ (b.length ≤ 200 ∧ ∀ s ∈ b, Val s)) := by
  by_cases h : checkS [a, b] = 0
  · have := (check2 a b).1 h
    rw [minusT_ok this.1.1 this.1.2 this.2.1 this.2.2]; exact .inl ⟨rfl, this⟩
  · right
    unfold minusT
    rw [if_pos (by simpa using h)]
    exact ⟨h, rfl, fun h' => h ((check2 a b).2 h')⟩
theorem w64 (n : Int) : IntKind.i64.wrap n = if n % 18446744073709551616 ≥ 9223372036854775808 then n % 18446744073709551616 - 18446744073709551616 else n % 18446744073709551616 := by
  simp [IntKind.wrap, IntKind.bits, IntKind.signed]
theorem w64_add (x y : Int) : IntKind.i64.wrap (IntKind.i64.wrap x + IntKind.i64.wrap y) = IntKind.i64.wrap (x + y) := by
  rw [w64 x, w64 y, w64, w64]; split <;> split <;> split <;> split <;> omega
theorem w64_w (x : Int) : IntKind.i64.wrap (IntKind.i64.wrap x) = IntKind.i64.wrap x := by have := w64_add x 0; simpa [w64] using this
theorem totGo_sum : ∀ (l : List Sp) (x : Int), totGo (IntKind.i64.wrap x) l = IntKind.i64.wrap (x + sumS l)
  | [], x => by simp [totGo, sumS]
  | s :: l, x => by
    have := totGo_sum l (x + (s.2 - s.1))
    show totGo (IntKind.i64.wrap (IntKind.i64.wrap x + IntKind.i64.wrap (s.2 - s.1))) l = _
    rw [w64_add, this]; simp only [sumS]; congr 1; omega
theorem totGo_0 (l : List Sp) : totGo 0 l = IntKind.i64.wrap (sumS l) := by
  have := totGo_sum l 0
  rw [Int.zero_add] at this
  rw [← this]; rfl
theorem union_idem {l : List Sp} (h : Can l) : unionS l = l := by
  obtain ⟨c1, c2⟩ := union_can h.1
  exact can_uniq c1 h c2
theorem union_rev {a : List Sp} (h : ∀ s ∈ a, Val s) : unionS a.reverse = unionS a := by
  obtain ⟨c1, c2⟩ := union_can h
  obtain ⟨d1, d2⟩ := union_can (l := a.reverse) (fun s hs => h s (by simpa using hs))
  exact can_uniq d1 c1 (fun t => by rw [d2, c2]; exact inS_perm (List.reverse_perm a) t)
theorem tot_parts {a b : List Sp} (ha : ∀ s ∈ a, Val s) (hb : ∀ s ∈ b, Val s) : totGo 0 (unionS a) = IntKind.i64.wrap (totGo 0 (minusS a b) + totGo 0 (minusS a (minusS a b))) := by
  obtain ⟨u1, u2⟩ := union_can ha
  obtain ⟨m1, m2, _⟩ := minus_can ha hb
  obtain ⟨g1, g2, _⟩ := minus_can ha m1.1
  rw [totGo_0, totGo_0, totGo_0, w64_add, sum_part u1 m1 g1 (fun t => by rw [u2, g2, m2]; cases inS a t <;> cases inS b t <;> rfl) (fun t => by rw [g2, m2]; cases inS a t <;> cases inS b t <;> rfl)]
def farS (l : List Sp) : Bool := ((decide ((60 : Int) < l.length) && decide ((l.length : Int) ≤ 200)) || decide ((210 : Int) < l.length))
theorem farS_f {l : List Sp} (h : farS l = false) : l.length ≤ 60 ∨ 200 < l.length ∧ l.length ≤ 210 := by
  simp [farS] at h; omega

theorem far_P (l : List Sp) : PC Tryd.prog 23 [.sv (.sl 2 (spsC l))] (.b (farS l)) := by
  refine ⟨LC.of_go Tryd.func23 (c := _) rfl (by kernel_rfl) (by rw [Tryd.ntmps23]; simp) rfl rfl (by simp [LO.lt, LV.lts, LV.lt]) (by simp) ?_⟩
  intro B hA hmd
  refine LGo.seq ?_
  refine LGo.region rfl ?_  -- region 0
  refine R.assign (h := ?_)
  refine Reg.nil ⟨fun h => (by cases h), ?_⟩
  refine LGo.seq ?_
  refine LGo.region rfl ?_  -- region 1
  refine R.move (h := ?_)
  first | refine R.len S36 (h := ?_) | refine R.lenRs S36 (h := ?_) | refine R.lenV (run_lenNil S36) (h := ?_)
  rw [spsC_length]
  refine R.bin (run_gtr _ _ _ _ _ _) (h := ?_)
  refine R.move (h := ?_)
  refine R.move (h := ?_)
  first | refine R.len S36 (h := ?_) | refine R.lenRs S36 (h := ?_) | refine R.lenV (run_lenNil S36) (h := ?_)
  rw [spsC_length]
  refine R.bin (run_leq _ _ _ _ _ _) (h := ?_)
  first | refine R.and (h := ?_) | refine R.and (hgy := fun _ h => by rw [h]; rfl) (h := ?_)
  refine R.move (h := ?_)
  refine R.move (h := ?_)
  first | refine R.len S36 (h := ?_) | refine R.lenRs S36 (h := ?_) | refine R.lenV (run_lenNil S36) (h := ?_)
  rw [spsC_length]
  refine R.bin (run_gtr _ _ _ _ _ _) (h := ?_)
  first | refine R.or (h := ?_) | refine R.or (hgy := fun _ h => by rw [h]; rfl) (h := ?_)
  refine R.assign (h := ?_)
  refine Reg.nil ⟨fun h => (by cases h), ?_⟩
  rw [show farS l = ((decide ((60 : Int) < l.length) && decide ((l.length : Int) ≤ 200)) || decide ((210 : Int) < l.length)) from rfl]
  exact LGo.ret (ret_T Tryd.results23 hA hmd)

end Go.Proofs.YtcekeipkofblmaaDoor
