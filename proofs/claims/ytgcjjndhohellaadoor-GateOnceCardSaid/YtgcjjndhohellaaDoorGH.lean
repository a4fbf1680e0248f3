/- gates, the reference: New, Enter, Play; equal states, equal errors. -/
import Derived.Test.YtgcjjndhohellaaDoorGG
set_option linter.unusedSimpArgs false
set_option linter.unusedVariables false
namespace Go.Proofs.YtgcjjndhohellaaDoor

def SortK (l : List GtE) : Prop := l.Pairwise fun x y => ltK x.key y.key
/-- no two entries have one key -/
def DistK (l : List GtE) : Prop := l.Pairwise fun x y => x.key ≠ y.key
theorem ins_perm (x : GtE) : ∀ l, (insE x l).Perm (x :: l)
  | [] => .refl _
  | y :: l => by
    rw [insE]
    split
    · exact ((ins_perm x l).cons y).trans (.swap x y l)
    · exact .refl _
theorem ins_len (x : GtE) (l : List GtE) : (insE x l).length = l.length + 1 := by rw [(ins_perm x l).length_eq]; rfl
theorem hasK_mem {k : K3} {l : List GtE} : hasK k l = true ↔ ∃ x ∈ l, x.key = k := by unfold hasK; simp
theorem hasK_no {k : K3} {l : List GtE} : hasK k l = false ↔ ∀ x ∈ l, x.key ≠ k := by unfold hasK; simp
theorem hasK_perm {k : K3} {l m : List GtE} (h : l.Perm m) : hasK k l = hasK k m := by
  rw [Bool.eq_iff_iff, hasK_mem, hasK_mem]
  constructor <;> rintro ⟨x, hx, e⟩
  · exact ⟨x, h.mem_iff.1 hx, e⟩
  · exact ⟨x, h.mem_iff.2 hx, e⟩
theorem hasK_app (k : K3) (l m : List GtE) : hasK k (l ++ m) = (hasK k l || hasK k m) := by unfold hasK; simp
theorem ins_sort {x : GtE} : ∀ {l : List GtE}, SortK l → hasK x.key l = false → SortK (insE x l)
  | [], _, _ => by unfold SortK insE; simp
  | y :: l, h, hn => by
    unfold SortK at h
    rw [List.pairwise_cons] at h
    have hn' := hasK_no.1 hn
    rw [insE]
    split
    · rename_i hc
      have hyx := cmpK_lt.1 hc
      unfold SortK
      rw [List.pairwise_cons]
      refine ⟨fun z hz => ?_, ins_sort h.2 (hasK_no.2 fun z hz => hn' z (by simp [hz]))⟩
      rcases List.mem_cons.1 ((ins_perm x l).mem_iff.1 hz) with rfl | hz
      · exact hyx
      · exact h.1 z hz
    · rename_i hc
      have hxy : ltK x.key y.key := by
        rcases ltK_tot (hn' y (by simp)) with h1 | h1
        · exact absurd (cmpK_lt.2 h1) hc
        · exact h1
      unfold SortK
      rw [List.pairwise_cons]
      refine ⟨fun z hz => ?_, List.pairwise_cons.2 h⟩
      rcases List.mem_cons.1 hz with rfl | hz
      · exact hxy
      · exact ltK_tr hxy (h.1 z hz)
theorem sort_dist {l : List GtE} (h : SortK l) : DistK l := by
  unfold DistK
  refine List.Pairwise.imp ?_ h
  intro a b hab e
  rw [e] at hab
  exact ltK_irr _ hab
theorem sort_uniq : ∀ {l m : List GtE}, SortK l → SortK m → l.Perm m → l = m
  | [], m, _, _, h => (List.nil_perm.1 h).symm
  | x :: l, m, hl, hm, h => by
    match m, hm, h with
    | [], _, h => exact absurd (List.perm_nil.1 h) (by simp)
    | y :: m, hm, h =>
      have hl' := List.pairwise_cons.1 hl
      have hm' := List.pairwise_cons.1 hm
      have hxy : x = y := by
        rcases List.mem_cons.1 (h.mem_iff.1 (List.mem_cons_self (a := x) (l := l))) with e | e
        · exact e
        · rcases List.mem_cons.1 (h.mem_iff.2 (List.mem_cons_self (a := y) (l := m))) with e2 | e2
          · exact e2.symm
          · exact absurd (ltK_tr (hl'.1 y e2) (hm'.1 x e)) (ltK_irr _)
      subst hxy
      rw [sort_uniq hl'.2 hm'.2 (List.perm_cons x |>.1 h)]
def sortE (l : List GtE) : List GtE := l.foldl (fun a x => insE x a) []
theorem fold_perm : ∀ (l a : List GtE), (l.foldl (fun a x => insE x a) a).Perm (a ++ l)
  | [], a => by simp
  | x :: l, a => by
    rw [List.foldl_cons]
    refine (fold_perm l (insE x a)).trans ?_
    refine ((ins_perm x a).append_right l).trans ?_
    rw [List.cons_append]
    exact List.perm_middle.symm
theorem sortE_perm (l : List GtE) : (sortE l).Perm l := by have := fold_perm l []; simpa [sortE] using this
theorem fold_sort : ∀ (l a : List GtE), SortK a → DistK (a ++ l) → SortK (l.foldl (fun a x => insE x a) a)
  | [], a, h, _ => h
  | x :: l, a, h, hd => by
    rw [List.foldl_cons]
    have hd' : DistK (x :: a ++ l) := by
      have hp : (a ++ x :: l).Perm (x :: a ++ l) := by rw [List.cons_append]; exact List.perm_middle
      exact hp.pairwise hd (fun h => Ne.symm h)
    refine fold_sort l (insE x a) (ins_sort h (hasK_no.2 fun z hz => ?_)) ?_
    · exact Ne.symm ((List.pairwise_cons.1 (show DistK (x :: (a ++ l)) from hd')).1 z (by simp [hz]))
    · exact (List.Perm.append_right l (ins_perm x a).symm).pairwise hd' (fun h => Ne.symm h)
theorem sortE_sort {l : List GtE} (h : DistK l) : SortK (sortE l) := fold_sort l [] .nil (by simpa using h)
theorem sortE_id {l : List GtE} (h : SortK l) : sortE l = l := sort_uniq (sortE_sort (sort_dist h)) h (sortE_perm l)
theorem sortE_snoc (l : List GtE) (x : GtE) : sortE (l ++ [x]) = insE x (sortE l) := by unfold sortE; rw [List.foldl_append]; rfl
theorem sortE_eq {l m : List GtE} (h : l.Perm m) (hd : DistK l) : sortE l = sortE m :=
  sort_uniq (sortE_sort hd) (sortE_sort (h.pairwise hd (fun h => Ne.symm h))) (((sortE_perm l).trans h).trans (sortE_perm m).symm)
/-! the check -/
theorem bad_sort {gs : List GtG} : ∀ {l : List GtE} {p : Option GtE}, badGo gs p l = false → SortK l ∧ (∀ y, p = some y → ∀ x ∈ l, ltK y.key x.key)
  | [], p, _ => ⟨.nil, fun _ _ _ h => by cases h⟩
  | x :: l, p, h => by
    rw [badGo, Bool.or_eq_false_iff] at h
    obtain ⟨h1, h2⟩ := bad_sort h.2
    refine ⟨List.pairwise_cons.2 ⟨h2 x rfl, h1⟩, fun y hy z hz => ?_⟩
    subst hy
    have hyx : ltK y.key x.key := by
      have := h.1
      unfold badE at this
      simp only [Bool.or_eq_false_iff, decide_eq_false_iff_not] at this
      exact cmpK_lt.1 (by omega)
    rcases List.mem_cons.1 hz with rfl | hz
    · exact hyx
    · exact ltK_tr hyx (h2 x rfl z hz)
/-- an entry that lies as it must -/
def okE (gs : List GtG) (x : GtE) : Prop := 0 ≤ x.gate ∧ x.gate < gs.length ∧ openI (gs.getD x.gate.toNat default) x.time = 0
theorem badE_no {gs : List GtG} {p : Option GtE} {x : GtE} : badE gs p x = false ↔ okE gs x ∧ ∀ y, p = some y → ltK y.key x.key := by
  unfold badE okE
  simp only [Bool.or_eq_false_iff, decide_eq_false_iff_not, Bool.not_eq_eq_eq_not, Bool.not_false, decide_eq_true_eq]
  cases p with
  | none => simp; omega
  | some y =>
    have e : ¬ 0 ≤ cmpK y.key x.key ↔ ltK y.key x.key := by rw [← cmpK_lt]; omega
    simp only [decide_eq_false_iff_not, e, Option.some.injEq, forall_eq']
    simp only [Int.not_lt, Int.not_le, and_assoc]
theorem bad_ok {gs : List GtG} : ∀ {l : List GtE} {p : Option GtE}, badGo gs p l = false → ∀ x ∈ l, okE gs x
  | [], _, _, x, h => by cases h
  | y :: l, p, h, x, hx => by
    rw [badGo, Bool.or_eq_false_iff] at h
    rcases List.mem_cons.1 hx with rfl | hx
    · exact (badE_no.1 h.1).1
    · exact bad_ok h.2 x hx
theorem ok_bad {gs : List GtG} : ∀ {l : List GtE} {p : Option GtE}, SortK l → (∀ x ∈ l, okE gs x) → (∀ y, p = some y → ∀ x ∈ l, ltK y.key x.key) → badGo gs p l = false
  | [], _, _, _, _ => rfl
  | x :: l, p, hs, ho, hp => by
    rw [badGo, Bool.or_eq_false_iff]
    have hs' := List.pairwise_cons.1 hs
    exact ⟨badE_no.2 ⟨ho x (by simp), fun y hy => hp y hy x (by simp)⟩, ok_bad hs'.2 (fun z hz => ho z (by simp [hz])) (fun y hy z hz => by cases hy; exact hs'.1 z hz)⟩
/-- a state without an error -/
theorem check_0 {gs : List GtG} {es : List GtE} : checkGS ⟨gs, es⟩ = 0 ↔ checkG gs = 0 ∧ es.length ≤ 500 ∧ SortK es ∧ ∀ x ∈ es, okE gs x := by
  unfold checkGS
  dsimp only
  by_cases h1 : checkG gs = 0
  · rw [if_neg (by simp [h1])]
    by_cases h2 : 500 < (es.length : Int)
    · rw [if_pos h2]
      constructor
      · intro h; cases h
      · rintro ⟨_, h, _⟩; omega
    · rw [if_neg h2]
      cases hb : badGo gs none es
      · exact ⟨fun _ => ⟨h1, by omega, (bad_sort hb).1, bad_ok hb⟩, fun _ => by simp⟩
      · constructor
        · intro h; cases h
        · rintro ⟨_, _, h3, h4⟩
          rw [ok_bad h3 h4 (fun _ h => by cases h)] at hb
          cases hb
  · rw [if_pos h1]
    exact ⟨fun h => absurd h h1, fun h => absurd h.1 h1⟩
theorem refuse_0 {gs : List GtG} {es : List GtE} {c : GtC} : refuse gs es c = 0 ↔ (0 ≤ c.gate ∧ c.gate < gs.length ∧ c.sec ∈ (gs.getD c.gate.toNat default).secs ∧ openI (gs.getD c.gate.toNat default) c.now = 0) ∧ hasK c.key es = false ∧ (es.length : Int) ≠ 500 := by
  unfold refuse
  constructor
  · intro h
    split at h
    · cases h
    rename_i h1
    split at h
    · cases h
    rename_i h2
    split at h
    · cases h
    rename_i h3
    split at h
    · cases h
    rename_i h4
    split at h
    · cases h
    rename_i h5
    split at h
    · cases h
    rename_i h6
    simp at h1 h2 h5
    exact ⟨⟨by omega, by omega, h2, by omega⟩, by simpa using h5, h6⟩
  · rintro ⟨⟨h1, h2, h3, h4⟩, h5, h6⟩
    rw [if_neg (by simp; omega), if_neg (by simp; exact h3), if_neg (by omega), if_neg (by omega), if_neg (by rw [h5]; simp), if_neg h6]
theorem ent_key (c : GtC) : c.ent.key = c.key := rfl
theorem ent_ok {gs : List GtG} {es : List GtE} {c : GtC} (h : refuse gs es c = 0) : okE gs c.ent := by
  obtain ⟨⟨h1, h2, _, h4⟩, _⟩ := refuse_0.1 h
  exact ⟨h1, h2, h4⟩
theorem enter_check {gs : List GtG} {es : List GtE} {c : GtC} (h : checkGS ⟨gs, es⟩ = 0) (hr : refuse gs es c = 0) : checkGS ⟨gs, insE c.ent es⟩ = 0 := by
  obtain ⟨h1, h2, h3, h4⟩ := check_0.1 h
  obtain ⟨_, h5, h6⟩ := refuse_0.1 hr
  refine check_0.2 ⟨h1, by rw [ins_len]; omega, ins_sort h3 h5, fun x hx => ?_⟩
  rcases List.mem_cons.1 ((ins_perm _ _).mem_iff.1 hx) with rfl | hx
  · exact ent_ok hr
  · exact h4 x hx
/-! calls in a row -/
def stepD (gs : List GtG) (es : List GtE) (c : GtC) : List GtE := if refuse gs es c = 0 then es ++ [c.ent] else es
def playD (gs : List GtG) : List GtE → List GtC → List GtE × List Int
  | es, [] => (es, [])
  | es, c :: l => ((playD gs (stepD gs es c) l).1, refuse gs es c :: (playD gs (stepD gs es c) l).2)
def playS (s : GtS) (l : List GtC) : GtS × List Int × Int := if checkGS s ≠ 0 then (GtS.zero, [], checkGS s) else if 1000 < (l.length : Int) then (GtS.zero, [], 3) else (⟨s.gates, sortE (playD s.gates s.ents l).1⟩, (playD s.gates s.ents l).2, 0)
def playR (gs : List GtG) : List GtE → List GtC → List GtE × List Int
  | es, [] => (es, [])
  | es, c :: l =>
    if (enterS ⟨gs, es⟩ c).2 = 0 then ((playR gs (enterS ⟨gs, es⟩ c).1.ents l).1, (enterS ⟨gs, es⟩ c).2 :: (playR gs (enterS ⟨gs, es⟩ c).1.ents l).2)
    else ((playR gs es l).1, (enterS ⟨gs, es⟩ c).2 :: (playR gs es l).2)
theorem refuse_perm {gs : List GtG} {es fs : List GtE} (h : es.Perm fs) (c : GtC) : refuse gs es c = refuse gs fs c := by unfold refuse; rw [hasK_perm h, h.length_eq]
theorem step_dist {gs : List GtG} {es : List GtE} (h : DistK es) (c : GtC) : DistK (stepD gs es c) := by
  unfold stepD
  split
  · rename_i hr
    have hn := hasK_no.1 (refuse_0.1 hr).2.1
    unfold DistK
    rw [List.pairwise_append]
    refine ⟨h, by simp, fun a ha b hb => ?_⟩
    simp only [List.mem_singleton] at hb
    subst hb
    exact hn a ha
  · exact h
theorem playR_eq {gs : List GtG} : ∀ (l : List GtC) (es fs : List GtE), checkGS ⟨gs, es⟩ = 0 → DistK fs → es = sortE fs → playR gs es l = (sortE (playD gs fs l).1, (playD gs fs l).2)
  | [], es, fs, _, _, h => by rw [playR, playD, h]
  | c :: l, es, fs, hc, hd, h => by
    have hp : es.Perm fs := by rw [h]; exact sortE_perm fs
    have he : enterS ⟨gs, es⟩ c = if refuse gs es c ≠ 0 then (GtS.zero, refuse gs es c) else (⟨gs, insE c.ent es⟩, 0) := by unfold enterS; rw [if_neg (by simp [hc])]
    have hr := refuse_perm (gs := gs) hp c
    by_cases h0 : refuse gs fs c = 0
    · have h0' : refuse gs es c = 0 := hr.trans h0
      have he' : enterS ⟨gs, es⟩ c = (⟨gs, insE c.ent es⟩, 0) := by rw [he, if_neg (by simp [h0'])]
      have e1 : stepD gs fs c = fs ++ [c.ent] := if_pos h0
      rw [playR, playD, he', if_pos rfl]
      dsimp only
      rw [playR_eq l (insE c.ent es) (stepD gs fs c) (enter_check hc h0') (step_dist hd c) (by rw [e1, sortE_snoc, h]), h0]
    · have h0' : refuse gs es c ≠ 0 := by rw [hr]; exact h0
      have he' : enterS ⟨gs, es⟩ c = (GtS.zero, refuse gs es c) := by rw [he, if_pos h0']
      have e1 : stepD gs fs c = fs := if_neg h0
      rw [playR, playD, he', if_neg (show ¬ ((GtS.zero, refuse gs es c) : GtS × Int).2 = 0 from h0')]
      dsimp only
      rw [e1, playR_eq l es fs hc hd h, hr]
/-- after calls: the check -/
theorem play_inv {gs : List GtG} : ∀ (l : List GtC) (es : List GtE), DistK es → es.length ≤ 500 → (∀ x ∈ es, okE gs x) → DistK (playD gs es l).1 ∧ (playD gs es l).1.length ≤ 500 ∧ (∀ x ∈ (playD gs es l).1, okE gs x) ∧ (playD gs es l).2.length = l.length
  | [], es, h1, h2, h3 => ⟨h1, h2, h3, rfl⟩
  | c :: l, es, h1, h2, h3 => by
    have h := play_inv l (stepD gs es c) (step_dist h1 c) (by
      unfold stepD
      split
      · rename_i hr
        have := (refuse_0.1 hr).2.2
        simp; omega
      · exact h2) (by
      unfold stepD
      split
      · rename_i hr
        intro x hx
        rcases List.mem_append.1 hx with hx | hx
        · exact h3 x hx
        · simp only [List.mem_singleton] at hx
          rw [hx]; exact ent_ok hr
      · exact h3)
    rw [playD]
    exact ⟨h.1, h.2.1, h.2.2.1, by simp [h.2.2.2]⟩
theorem play_check {s : GtS} (h : checkGS s = 0) (l : List GtC) : checkGS ⟨s.gates, sortE (playD s.gates s.ents l).1⟩ = 0 := by
  obtain ⟨gs, es⟩ := s
  obtain ⟨h1, h2, h3, h4⟩ := check_0.1 h
  obtain ⟨k1, k2, k3, _⟩ := play_inv (gs := gs) l es (sort_dist h3) h2 h4
  exact check_0.2 ⟨h1, by rw [(sortE_perm _).length_eq]; exact k2, sortE_sort k1, fun x hx => k3 x ((sortE_perm _).mem_iff.1 hx)⟩
/-! the laws -/
theorem find_none {l : List GtE} {k : K3} (h : hasK k l = false) : l.find? (fun x => decide (x.key = k)) = none := by
  rw [List.find?_eq_none]
  intro x hx
  simpa using hasK_no.1 h x hx
theorem find_mem {l : List GtE} (hd : DistK l) {x : GtE} (hx : x ∈ l) : l.find? (fun y => decide (y.key = x.key)) = some x := by
  induction l with
  | nil => cases hx
  | cons y l ih =>
    have hd' := List.pairwise_cons.1 hd
    rcases List.mem_cons.1 hx with rfl | hx
    · simp
    · rw [List.find?_cons_of_neg (by simpa using hd'.1 x hx)]
      exact ih hd'.2 hx
theorem playD_app (gs : List GtG) : ∀ (l m : List GtC) (es : List GtE), playD gs es (l ++ m) = ((playD gs (playD gs es l).1 m).1, (playD gs es l).2 ++ (playD gs (playD gs es l).1 m).2)
  | [], m, es => by simp [playD]
  | c :: l, m, es => by rw [List.cons_append, playD, playD_app gs l m, playD]; rfl
/-- the calls that were answered 0 -/
def goodC (gs : List GtG) : List GtE → List GtC → List GtC
  | _, [] => []
  | es, c :: l => if refuse gs es c = 0 then c :: goodC gs (stepD gs es c) l else goodC gs (stepD gs es c) l
theorem play_ents (gs : List GtG) : ∀ (l : List GtC) (es : List GtE), (playD gs es l).1 = es ++ (goodC gs es l).map GtC.ent
  | [], es => by simp [playD, goodC]
  | c :: l, es => by
    rw [playD, goodC]
    dsimp only
    rw [play_ents gs l (stepD gs es c)]
    by_cases h : refuse gs es c = 0
    · rw [if_pos h, show stepD gs es c = es ++ [c.ent] from if_pos h]; simp
    · rw [if_neg h, show stepD gs es c = es from if_neg h]
/-- what makes a call good, but for the others -/
def goodP (gs : List GtG) (c : GtC) : Prop := 0 ≤ c.gate ∧ c.gate < gs.length ∧ c.sec ∈ (gs.getD c.gate.toNat default).secs ∧ openI (gs.getD c.gate.toNat default) c.now = 0
theorem goodC_P (gs : List GtG) : ∀ (l : List GtC) (es : List GtE), ∀ c ∈ goodC gs es l, goodP gs c
  | [], es, c, h => by cases h
  | d :: l, es, c, h => by
    rw [goodC] at h
    split at h
    · rename_i hr
      rcases List.mem_cons.1 h with rfl | h
      · exact (refuse_0.1 hr).1
      · exact goodC_P gs l _ c h
    · exact goodC_P gs l _ c h
/-- calls with keys of their own, in whatever order, are all answered 0 -/
theorem play_all (gs : List GtG) : ∀ (l : List GtC) (es : List GtE), (∀ c ∈ l, goodP gs c) → DistK (es ++ l.map GtC.ent) → es.length + l.length ≤ 500 → playD gs es l = (es ++ l.map GtC.ent, l.map fun _ => 0)
  | [], es, _, _, _ => by simp [playD]
  | c :: l, es, h, hd, hl => by
    have hr : refuse gs es c = 0 := by
      refine refuse_0.2 ⟨h c (by simp), hasK_no.2 fun x hx => ?_, by rw [List.length_cons] at hl; omega⟩
      unfold DistK at hd
      rw [List.pairwise_append] at hd
      exact hd.2.2 x hx c.ent (by simp)
    have e1 : stepD gs es c = es ++ [c.ent] := if_pos hr
    rw [playD, e1, play_all gs l (es ++ [c.ent]) (fun d hd => h d (by simp [hd])) (by simpa using hd) (by simp at hl ⊢; omega), hr]
    simp
theorem play_len (gs : List GtG) (es : List GtE) (hd : DistK es) (h5 : es.length ≤ 500) (ho : ∀ x ∈ es, okE gs x) (l : List GtC) : es.length + (goodC gs es l).length ≤ 500 ∧ DistK (es ++ (goodC gs es l).map GtC.ent) := by
  have h := play_inv (gs := gs) l es hd h5 ho
  rw [play_ents] at h
  exact ⟨by have := h.2.1; simpa using this, h.1⟩
/-- the good calls, in whatever order, lead to the same state -/
theorem play_order {s : GtS} (hc : checkGS s = 0) (l m : List GtC) (hm : m.Perm (goodC s.gates s.ents l)) : playD s.gates s.ents m = (s.ents ++ m.map GtC.ent, m.map fun _ => 0) ∧ sortE (s.ents ++ m.map GtC.ent) = sortE (playD s.gates s.ents l).1 := by
  obtain ⟨gs, es⟩ := s
  obtain ⟨h1, h2, h3, h4⟩ := check_0.1 hc
  obtain ⟨k1, k2⟩ := play_len gs es (sort_dist h3) h2 h4 l
  have hp : (es ++ m.map GtC.ent).Perm (es ++ (goodC gs es l).map GtC.ent) := (hm.map GtC.ent).append_left es
  have hd : DistK (es ++ m.map GtC.ent) := hp.symm.pairwise k2 (fun h => Ne.symm h)
  refine ⟨play_all gs m es (fun c h => goodC_P gs l es c (hm.mem_iff.1 h)) hd (by rw [hm.length_eq]; exact k1), ?_⟩
  dsimp only
  rw [play_ents]
  exact sortE_eq hp hd

theorem copyN_P (l : List GtG) (hl : l.length ≤ 100000) (hs : ∀ g ∈ l, g.secs.length ≤ 100000) : PC Tryd.prog 11 [.agg [.sv (.sl 3 (l.map GtG.c)), .v (.slice none 0 0)]] (.agg ((GtS.mk l []).c.map LV.sv)) :=
  PC.args (copyR_P ⟨l, []⟩ ⟨⟨hl, hs⟩, by simp, by simp⟩) (by rfl) (fun _ _ _ h => vs_aggNil 5 h)

theorem newR_P (l : List GtG) (hl : l.length ≤ 100000) (hs : ∀ g ∈ l, g.secs.length ≤ 100000) : PC Tryd.prog 22 [.sv (.sl 3 (l.map GtG.c))] (.tup [.agg ((newS l).1.c.map LV.sv), .i (newS l).2]) := by
 refine ⟨LC.of_go Tryd.func22 (c := _) rfl (by kernel_rfl) (by rw [Tryd.ntmps22]; simp) rfl rfl (by simp [LO.lt, LV.lts, LV.lt, lts_sv]) (by simp) ?_⟩
 intro B hA hmd
 obtain ⟨g, e0⟩ : ∃ g, newS l = g := ⟨_, rfl⟩
 have e1 := e0
 unfold newS at e1
 rw [e0]
 refine .seq ?_
 refine .region rfl ?_
 refine R.alloc Z25 (h := ?_)
 refine R.assign (h := ?_)
 refine .n0 ?_
 refine .seq ?_
 refine .region rfl ?_
 refine R.move (h := ?_)
 refine R.callP (es := [_]) (fun _ => gatesR_P l hl hs) (h := ?_)
 refine R.assign (h := ?_)
 refine .n0 ?_
 refine .seq ?_
 refine .seq ?_
 refine .region rfl ?_
 refine R.move (h := ?_)
 refine R.bin (run_neq _ _ _ _ _ _) (h := ?_)
 refine .n0 ?_
 refine LGo.ifb (ht := fun hc => ?_) (hf := fun hc => ?_)
 ·
  rw [if_pos (by simpa using hc)] at e1
  rw [← e1]
  refine .seq ?_
  refine .region rfl ?_
  refine R.build BF25 (is := []) (xs := []) (es := []) (h := ?_)
  refine R.move (h := ?_)
  refine R.storeA A25 (h := ?_)
  refine R.assign (h := ?_)
  refine .n0 ?_
  refine LGo.packNil 0 0 59 3 (h := ?_)
  refine LGo.frzBx 0 (h := ?_)
  refine LGo.packNil 0 1 40 5 (h := ?_)
  refine LGo.frzBx 0 (h := ?_)
  exact LGo.ret (ret_AT Tryd.results22 A25 hA hmd)
 ·
  rw [if_neg (by simpa using hc)] at e1
  rw [← e1]
  refine .skip ?_
  refine .seq ?_
  refine .region rfl ?_
  refine R.move (h := ?_)
  refine R.build BF25 (is := [0]) (xs := [_]) (es := [_]) (h := ?_)
  refine R.callP (es := [_]) (fun _ => copyN_P l hl hs) (h := ?_)
  refine R.storeA A25 (h := ?_)
  refine R.assign (h := ?_)
  refine .n0 ?_
  exact LGo.ret (ret_AT Tryd.results22 A25 hA hmd)

/-- how many entries are before x -/
def posE (x : GtE) : List GtE → Nat
  | [] => 0
  | y :: l => if cmpK y.key x.key < 0 then posE x l + 1 else 0
theorem ins_pos (x : GtE) : ∀ l : List GtE, insE x l = l.take (posE x l) ++ x :: l.drop (posE x l)
  | [] => rfl
  | y :: l => by
    rw [insE, posE]
    split
    · rw [ins_pos x l]; simp
    · simp
theorem posE_le (x : GtE) : ∀ l : List GtE, posE x l ≤ l.length
  | [] => Nat.le_refl _
  | y :: l => by
    have := posE_le x l
    rw [posE]
    split <;> simp <;> omega
theorem pos_step {x : GtE} {l : List GtE} {k : Nat} (h : k < l.length) : posE x (l.drop k) = if ltR (l.getD k default) x = true then posE x (l.drop (k + 1)) + 1 else 0 := by
  rw [List.drop_eq_getElem_cons h, posE, ltR_cmp, List.getD_eq_getElem?_getD, List.getElem?_eq_getElem h]
  simp
theorem en_k {l : List GtE} {k : Nat} (h : k < l.length) : (l.map GtE.c)[((k : Nat) : Int).toNat]? = some (l.getD k default).c := by
  rw [Int.toNat_natCast, List.getElem?_map, List.getElem?_eq_getElem h, List.getD_eq_getElem?_getD, List.getElem?_eq_getElem h]; rfl
theorem open_cases (g : GtG) (t : Int) : (t < g.fr → openI g t = -1) ∧ (¬ t < g.fr → g.to ≤ t → openI g t = 1) ∧ (¬ t < g.fr → ¬ g.to ≤ t → openI g t = 0) := by
  unfold openI
  refine ⟨fun h => if_pos h, fun h1 h2 => by rw [if_neg h1, if_pos h2], fun h1 h2 => by rw [if_neg h1, if_neg h2]⟩
theorem has_idx (k : K3) (l : List GtE) : hasK k l = decide (idxP (fun x : GtE => decide (x.key = k)) 0 l ≥ 0) := by
  rw [show decide (idxP (fun x : GtE => decide (x.key = k)) 0 l ≥ 0) = decide (0 ≤ idxP (fun x : GtE => decide (x.key = k)) 0 l) from rfl, idxP_any]
  rfl

def finE (s : GtS) (c : GtC) (r : Int) : GtS × Int := if r ≠ 0 then (GtS.zero, r) else (⟨s.gates, insE c.ent s.ents⟩, 0)
theorem enterS_fin (s : GtS) (c : GtC) : enterS s c = if checkGS s ≠ 0 then (GtS.zero, checkGS s) else finE s c (refuse s.gates s.ents c) := rfl
theorem finE_no {s : GtS} {c : GtC} {r : Int} (h : r ≠ 0) : finE s c r = (GtS.zero, r) := if_pos h
theorem finE_0 (s : GtS) (c : GtC) : finE s c 0 = (⟨s.gates, insE c.ent s.ents⟩, 0) := if_neg (by simp)

theorem sec_at {l : List GtG} (h : ∀ g ∈ l, g.secs.length ≤ 100000) (k : Nat) : (l.getD k default).secs.length ≤ 100000 := by
  rw [List.getD_eq_getElem?_getD]
  by_cases hk : k < l.length
  · rw [List.getElem?_eq_getElem hk]; exact h _ (List.getElem_mem hk)
  · rw [List.getElem?_eq_none (by omega)]; exact Nat.zero_le _

theorem enterR_P (s : GtS) (hs : SmS s) (c : GtC) : PC Tryd.prog 13 [.agg (s.c.map LV.sv), .agg (c.c.map LV.sv)] (.tup [.agg ((enterS s c).1.c.map LV.sv), .i (enterS s c).2]) := by
 refine ⟨LC.of_go Tryd.func13 (c := _) rfl (by kernel_rfl) (by rw [Tryd.ntmps13]; simp) rfl rfl (by simp [LO.lt, LV.lts, LV.lt, lts_sv]) (by simp) ?_⟩
 intro B hA hmd
 obtain ⟨g, e0⟩ : ∃ g, enterS s c = g := ⟨_, rfl⟩
 have e1 := e0
 rw [enterS_fin] at e1
 rw [e0]
 obtain ⟨⟨hg1, hg2⟩, he1, he2⟩ := id hs
 refine .seq ?_
 refine .region rfl ?_
 refine R.box (h := ?_)
 refine R.box (h := ?_)
 refine R.alloc Z25 (h := ?_)
 refine R.assign (h := ?_)
 refine .n0 ?_
 refine .seq ?_
 refine .region rfl ?_
 first | refine R.loadA A25 (h := ?_) | refine R.loadN A25 (h := ?_) | refine R.loadP A25 (h := ?_)
 refine R.callP (es := [_]) (fun _ => checkGR_P s hs) (h := ?_)
 refine R.assign (h := ?_)
 refine .n0 ?_
 refine .seq ?_
 refine .seq ?_
 refine .region rfl ?_
 refine R.move (h := ?_)
 refine R.bin (run_neq _ _ _ _ _ _) (h := ?_)
 refine .n0 ?_
 refine LGo.ifb (ht := fun hc => ?_) (hf := fun hc => ?_)
 ·
  rw [if_pos (by simpa using hc)] at e1
  rw [← e1]
  refine .seq ?_
  refine .region rfl ?_
  refine R.build BF25 (is := []) (xs := []) (es := []) (h := ?_)
  refine R.move (h := ?_)
  refine R.storeA A25 (h := ?_)
  refine R.assign (h := ?_)
  refine .n0 ?_
  refine LGo.packNil 2 0 59 3 (h := ?_)
  refine LGo.frzBx 2 (h := ?_)
  refine LGo.packNil 2 1 40 5 (h := ?_)
  refine LGo.frzBx 2 (h := ?_)
  exact LGo.ret (ret_AT Tryd.results13 A25 hA hmd)
 ·
  rw [if_neg (by simpa using hc)] at e1
  unfold refuse at e1
  refine .skip ?_
  refine .seq ?_
  refine .seq ?_
  refine .region rfl ?_
  first | refine R.field F31_0 (h := ?_) | refine R.fieldAt F31_0 (h := ?_)
  first | refine R.loadB O3 (h := ?_) | refine R.load1 O3 (h := ?_)
  refine R.bin (run_lss _ _ _ _ _ _) (h := ?_)
  refine R.move (h := ?_)
  first | refine R.field F31_0 (h := ?_) | refine R.fieldAt F31_0 (h := ?_)
  first | refine R.loadB O3 (h := ?_) | refine R.load1 O3 (h := ?_)
  first | refine R.field F25_0 (h := ?_) | refine R.fieldAt F25_0 (h := ?_)
  first | refine R.loadB O22 (h := ?_) | refine R.load1 O22 (h := ?_)
  first | refine R.len S22 (h := ?_) | refine R.lenRs S22 (h := ?_) | refine R.lenV (run_lenNil S22) (h := ?_)
  rw [List.length_map]
  refine R.bin (run_geq _ _ _ _ _ _) (h := ?_)
  refine R.or (h := ?_)
  refine .n0 ?_
  refine LGo.ifb (ht := fun hc2 => ?_) (hf := fun hc2 => ?_)
  ·
   rw [if_pos hc2] at e1
   rw [← e1, finE_no (by decide)]
   refine .seq ?_
   refine .region rfl ?_
   refine R.build BF25 (is := []) (xs := []) (es := []) (h := ?_)
   refine R.storeA A25 (h := ?_)
   refine R.assign (h := ?_)
   refine .n0 ?_
   refine LGo.packNil 2 0 59 3 (h := ?_)
   refine LGo.frzBx 2 (h := ?_)
   refine LGo.packNil 2 1 40 5 (h := ?_)
   refine LGo.frzBx 2 (h := ?_)
   exact LGo.ret (ret_AT Tryd.results13 A25 hA hmd)
  ·
   rw [if_neg (by rw [hc2]; simp)] at e1
   have hgt := hc2
   simp only [Bool.or_eq_false_iff, decide_eq_false_iff_not] at hgt
   refine .skip ?_
   refine .seq ?_
   refine .region rfl ?_
   first | refine R.field F25_0 (h := ?_) | refine R.fieldAt F25_0 (h := ?_)
   first | refine R.loadB O22 (h := ?_) | refine R.load1 O22 (h := ?_)
   first | refine R.field F31_0 (h := ?_) | refine R.fieldAt F31_0 (h := ?_)
   first | refine R.loadB O3 (h := ?_) | refine R.load1 O3 (h := ?_)
   refine R.index I22 (hj := fun hg => ⟨by omega, gt_at (by omega) (by omega)⟩) (h := ?_)
   first | refine R.loadA A59 (h := ?_) | refine R.loadN A59 (h := ?_) | refine R.loadP A59 (h := ?_)
   refine R.alloc Z59 (h := ?_)
   refine R.storeA A59 (h := ?_)
   refine .n0 ?_
   refine .seq ?_
   refine .block ?_
   refine .seq ?_
   refine .region rfl ?_
   first | refine R.field F59_0 (h := ?_) | refine R.fieldAt F59_0 (h := ?_)
   first | refine R.loadB O57 (h := ?_) | refine R.load1 O57 (h := ?_)
   first | refine R.field F31_2 (h := ?_) | refine R.fieldAt F31_2 (h := ?_)
   first | refine R.loadB O3 (h := ?_) | refine R.load1 O3 (h := ?_)
   refine R.callP (es := [_, _]) (fun _ => inR_P (s.gates.getD c.gate.toNat default).secs c.sec (sec_at hg2 _)) (h := ?_)
   refine R.not (h := ?_)
   refine R.assign (h := ?_)
   refine .n0 ?_
   refine LGo.ifb (ht := fun hc3 => ?_) (hf := fun hc3 => ?_)
   ·
    rw [if_pos hc3] at e1
    rw [← e1, finE_no (by decide)]
    refine .seq ?_
    refine .region rfl ?_
    refine R.build BF25 (is := []) (xs := []) (es := []) (h := ?_)
    refine R.storeA A25 (h := ?_)
    refine R.assign (h := ?_)
    refine .n0 ?_
    refine LGo.packNil 2 0 59 3 (h := ?_)
    refine LGo.frzBx 2 (h := ?_)
    refine LGo.packNil 2 1 40 5 (h := ?_)
    refine LGo.frzBx 2 (h := ?_)
    exact LGo.ret (ret_AT Tryd.results13 A25 hA hmd)
   ·
    rw [if_neg (by rw [hc3]; simp)] at e1
    have hop := open_cases (s.gates.getD c.gate.toNat default) c.now
    refine .seq ?_
    refine .region rfl ?_
    first | refine R.field F31_3 (h := ?_) | refine R.fieldAt F31_3 (h := ?_)
    first | refine R.loadB O2 (h := ?_) | refine R.load1 O2 (h := ?_)
    first | refine R.field F59_1 (h := ?_) | refine R.fieldAt F59_1 (h := ?_)
    first | refine R.loadB O2 (h := ?_) | refine R.load1 O2 (h := ?_)
    refine R.bin (run_lss _ _ _ _ _ _) (h := ?_)
    refine R.assign (h := ?_)
    refine .n0 ?_
    refine LGo.ifd (ht := fun hc4 => ?_) (hf := fun hc4 => ?_)
    ·
     rw [hop.1 hc4, if_pos (by decide)] at e1
     rw [← e1, finE_no (by decide)]
     refine .seq ?_
     refine .region rfl ?_
     refine R.build BF25 (is := []) (xs := []) (es := []) (h := ?_)
     refine R.storeA A25 (h := ?_)
     refine R.assign (h := ?_)
     refine .n0 ?_
     refine LGo.packNil 2 0 59 3 (h := ?_)
     refine LGo.frzBx 2 (h := ?_)
     refine LGo.packNil 2 1 40 5 (h := ?_)
     refine LGo.frzBx 2 (h := ?_)
     exact LGo.ret (ret_AT Tryd.results13 A25 hA hmd)
    ·
     refine .seq ?_
     refine .region rfl ?_
     first | refine R.field F31_3 (h := ?_) | refine R.fieldAt F31_3 (h := ?_)
     first | refine R.loadB O2 (h := ?_) | refine R.load1 O2 (h := ?_)
     first | refine R.field F59_2 (h := ?_) | refine R.fieldAt F59_2 (h := ?_)
     first | refine R.loadB O2 (h := ?_) | refine R.load1 O2 (h := ?_)
     refine R.bin (run_geq _ _ _ _ _ _) (h := ?_)
     refine R.assign (h := ?_)
     refine .n0 ?_
     refine LGo.ifd (ht := fun hc5 => ?_) (hf := fun hc5 => ?_)
     ·
      rw [hop.2.1 hc4 hc5, if_neg (by decide), if_pos (by decide)] at e1
      rw [← e1, finE_no (by decide)]
      refine .seq ?_
      refine .region rfl ?_
      refine R.build BF25 (is := []) (xs := []) (es := []) (h := ?_)
      refine R.storeA A25 (h := ?_)
      refine R.assign (h := ?_)
      refine .n0 ?_
      refine LGo.packNil 2 0 59 3 (h := ?_)
      refine LGo.frzBx 2 (h := ?_)
      refine LGo.packNil 2 1 40 5 (h := ?_)
      refine LGo.frzBx 2 (h := ?_)
      exact LGo.ret (ret_AT Tryd.results13 A25 hA hmd)
     ·
      rw [hop.2.2 hc4 hc5, if_neg (by decide), if_neg (by decide), has_idx] at e1
      refine .seq ?_
      refine .region rfl ?_
      first | refine R.loadA A25 (h := ?_) | refine R.loadN A25 (h := ?_) | refine R.loadP A25 (h := ?_)
      first | refine R.field F31_1 (h := ?_) | refine R.fieldAt F31_1 (h := ?_)
      first | refine R.loadA A29 (h := ?_) | refine R.loadN A29 (h := ?_) | refine R.loadP A29 (h := ?_)
      refine R.callP (es := [_, _]) (fun _ => atR_P s hs c.seat c.owner c.serial c.epoch) (h := ?_)
      refine R.bin (run_geq _ _ _ _ _ _) (h := ?_)
      refine R.assign (h := ?_)
      refine .n0 ?_
      refine LGo.ifd (ht := fun hc6 => ?_) (hf := fun hc6 => ?_)
      ·
       rw [if_pos (show decide (idxP (fun z : GtE => decide (z.key = c.key)) 0 s.ents ≥ 0) = true from decide_eq_true hc6)] at e1
       rw [← e1, finE_no (by decide)]
       refine .seq ?_
       refine .region rfl ?_
       refine R.build BF25 (is := []) (xs := []) (es := []) (h := ?_)
       refine R.storeA A25 (h := ?_)
       refine R.assign (h := ?_)
       refine .n0 ?_
       refine LGo.packNil 2 0 59 3 (h := ?_)
       refine LGo.frzBx 2 (h := ?_)
       refine LGo.packNil 2 1 40 5 (h := ?_)
       refine LGo.frzBx 2 (h := ?_)
       exact LGo.ret (ret_AT Tryd.results13 A25 hA hmd)
      ·
       rw [if_neg (show ¬ decide (idxP (fun z : GtE => decide (z.key = c.key)) 0 s.ents ≥ 0) = true from fun h => hc6 (of_decide_eq_true h))] at e1
       refine .seq ?_
       refine .region rfl ?_
       first | refine R.field F25_1 (h := ?_) | refine R.fieldAt F25_1 (h := ?_)
       first | refine R.loadB O23 (h := ?_) | refine R.load1 O23 (h := ?_)
       first | refine R.len S23 (h := ?_) | refine R.lenRs S23 (h := ?_) | refine R.lenV (run_lenNil S23) (h := ?_)
       rw [List.length_map]
       refine R.bin (run_eql _ _ _ _ _ _) (h := ?_)
       refine R.assign (h := ?_)
       refine .n0 ?_
       refine LGo.ifd (ht := fun hc7 => ?_) (hf := fun hc7 => ?_)
       ·
        rw [if_pos hc7] at e1
        rw [← e1, finE_no (by decide)]
        refine .seq ?_
        refine .region rfl ?_
        refine R.build BF25 (is := []) (xs := []) (es := []) (h := ?_)
        refine R.storeA A25 (h := ?_)
        refine R.assign (h := ?_)
        refine .n0 ?_
        refine LGo.packNil 2 0 59 3 (h := ?_)
        refine LGo.frzBx 2 (h := ?_)
        refine LGo.packNil 2 1 40 5 (h := ?_)
        refine LGo.frzBx 2 (h := ?_)
        exact LGo.ret (ret_AT Tryd.results13 A25 hA hmd)
       ·
        rw [if_neg hc7, finE_0, ins_pos] at e1
        rw [← e1]
        have hpe := posE_le c.ent s.ents
        refine .skip ?_
        refine .inBlock ?_
        refine .seq ?_
        refine .region rfl ?_
        first | refine R.field F31_1 (h := ?_) | refine R.fieldAt F31_1 (h := ?_)
        first | refine R.field F29_0 (h := ?_) | refine R.fieldAt F29_0 (h := ?_)
        first | refine R.loadB O26 (h := ?_) | refine R.load1 O26 (h := ?_)
        first | refine R.field F31_1 (h := ?_) | refine R.fieldAt F31_1 (h := ?_)
        first | refine R.field F29_2 (h := ?_) | refine R.fieldAt F29_2 (h := ?_)
        first | refine R.loadB O27 (h := ?_) | refine R.load1 O27 (h := ?_)
        first | refine R.field F31_1 (h := ?_) | refine R.fieldAt F31_1 (h := ?_)
        first | refine R.field F29_3 (h := ?_) | refine R.fieldAt F29_3 (h := ?_)
        first | refine R.loadB O27 (h := ?_) | refine R.load1 O27 (h := ?_)
        first | refine R.field F31_0 (h := ?_) | refine R.fieldAt F31_0 (h := ?_)
        first | refine R.loadB O3 (h := ?_) | refine R.load1 O3 (h := ?_)
        first | refine R.field F31_3 (h := ?_) | refine R.fieldAt F31_3 (h := ?_)
        first | refine R.loadB O2 (h := ?_) | refine R.load1 O2 (h := ?_)
        refine R.build BF40 (is := [0, 1, 2, 3, 4]) (xs := [_, _, _, _, _]) (es := [_, _, _, _, _]) (h := ?_)
        refine R.alloc Z40 (h := ?_)
        refine R.storeA A40 (h := ?_)
        refine .n0 ?_
        refine .seq ?_
        refine .region rfl ?_
        first | refine R.loadA A25 (h := ?_) | refine R.loadN A25 (h := ?_) | refine R.loadP A25 (h := ?_)
        refine R.callP (es := [_]) (fun _ => copyR_P s hs) (h := ?_)
        refine R.alloc Z25 (h := ?_)
        refine R.storeA A25 (h := ?_)
        refine .n0 ?_
        refine .seq ?_
        refine .region rfl ?_
        refine R.assign (h := ?_)
        refine .n0 ?_
        refine .seq ?_
        refine .block ?_
        refine .loop ?_
        refine LGo.loopG (σ := Nat) (fun x => x ≤ s.ents.length ∧ posE c.ent s.ents = x + posE c.ent (s.ents.drop x)) (fun x => [(10, (true, .i (x : Nat)))]) (fun x => [(0, .box 25 (s.c.map LV.sv)), (1, .box 31 (c.c.map LV.sv)), (2, .box 25 [.v (.slice none 0 0), .v (.slice none 0 0)]), (4, .box 40 (c.ent.c.map LV.sv)), (5, .box 25 (s.c.map LV.sv))]) (fun x => s.ents.length - x) (0) [(2, _), (4, _), (8, _), (9, _)] ⟨Nat.zero_le _, by simp⟩ (by repeat (first | exact trivial | refine ⟨rfl, ?_⟩)) (by repeat (first | exact trivial | refine ⟨rfl, ?_⟩)) (by repeat (first | exact trivial | refine ⟨rfl, ?_⟩)) ?_
        rintro k ⟨hk, hq⟩ ih
        refine .seq ?_
        refine .seq ?_
        refine .region rfl ?_
        refine R.move (h := ?_)
        first | refine R.field F25_1 (h := ?_) | refine R.fieldAt F25_1 (h := ?_)
        first | refine R.loadB O23 (h := ?_) | refine R.load1 O23 (h := ?_)
        first | refine R.len S23 (h := ?_) | refine R.lenRs S23 (h := ?_) | refine R.lenV (run_lenNil S23) (h := ?_)
        rw [List.length_map]
        refine R.bin (run_lss _ _ _ _ _ _) (h := ?_)
        refine R.move (h := ?_)
        first | refine R.field F25_1 (h := ?_) | refine R.fieldAt F25_1 (h := ?_)
        first | refine R.loadB O23 (h := ?_) | refine R.load1 O23 (h := ?_)
        refine R.move (h := ?_)
        refine R.index I23 (hj := fun hg => ⟨by (simp at hg; omega), (by simp at hg; exact en_k (by omega))⟩) (h := ?_)
        first | refine R.loadA A40 (h := ?_) | refine R.loadN A40 (h := ?_) | refine R.loadP A40 (h := ?_)
        first | refine R.loadA A40 (h := ?_) | refine R.loadN A40 (h := ?_) | refine R.loadP A40 (h := ?_)
        refine R.callP (es := [_, _]) (fun _ => ltR_P (s.ents.getD k default) c.ent) (h := ?_)
        refine R.and (h := ?_)
        refine Reg.nil ⟨fun _ => ⟨mixedO, by rfl, by rfl⟩, ?_⟩
        refine LGo.ifb (ht := fun hc8 => ?_) (hf := fun hc8 => ?_)
        ·
         simp only [Bool.and_eq_true, decide_eq_true_eq] at hc8
         rw [pos_step (by omega), if_pos hc8.2] at hq
         refine .skip ?_
         refine .block ?_
         refine .region rfl ?_
         refine R.move (h := ?_)
         first | refine R.add (h := ?_) | refine R.addW (h := ?_)
         refine R.assign (h := ?_)
         refine .n0 ?_
         refine .inBlock ?_
         refine .inLoop ?_
         exact LGo.next _ (fun o h => by have := (hA o).1 h; omega) (by omega) (ih (k + 1) ⟨by omega, by omega⟩ (by omega)) (by repeat (first | exact trivial | refine ⟨rfl, ?_⟩)) ⟨rfl, rfl, rfl, rfl, rfl, trivial⟩
        ·
         have hpk : posE c.ent s.ents = k := by
           by_cases hlt : k < s.ents.length
           · rw [pos_step hlt, if_neg (by simp only [Bool.and_eq_false_iff, decide_eq_false_iff_not, Bool.not_eq_true] at hc8 ⊢; rcases hc8 with h | h; exact absurd (by omega) h; exact h)] at hq
             omega
           · rw [List.drop_eq_nil_of_le (by omega)] at hq
             exact hq
         rw [hpk]
         refine .exit rfl ?_
         refine .seq ?_
         refine .region rfl ?_
         refine R.buildSliceR AP23 (xs := []) (es := []) (hcs := CellsOfs.nil) (h := ?_)
         first | refine R.field F25_1 (h := ?_) | refine R.fieldAt F25_1 (h := ?_)
         first | refine R.loadB O23 (h := ?_) | refine R.load1 O23 (h := ?_)
         refine R.move (h := ?_)
         refine R.sliceHi SF23 (ha := fun _ => by rw [List.length_map]; omega) (h := ?_)
         refine R.appendS AP23 (hs := SrcOk.sl Tryd.underlying23 (by rw [← List.map_take]; exact ge_ones _)) (hlen := by rw [← List.map_take, List.length_map, List.length_take]; simp; omega) (h := ?_)
         first | refine R.loadA A40 (h := ?_) | refine R.loadN A40 (h := ?_) | refine R.loadP A40 (h := ?_)
         refine R.buildSliceG AP23 (xs := [_]) (es := [_]) (hcs := CellsOfs.cons (CellsOf.agg rfl) CellsOfs.nil) (h := ?_)
         refine R.appendS AP23 (hs := SrcOk.sl Tryd.underlying23 (by simp; rfl)) (hlen := by simp; omega) (h := ?_)
         first | refine R.field F25_1 (h := ?_) | refine R.fieldAt F25_1 (h := ?_)
         refine R.storeB O23 (h := ?_)
         refine Reg.nil ⟨fun _ => ⟨mixedO, by rfl, by rfl⟩, ?_⟩
         refine .seq ?_
         refine .region rfl ?_
         first | refine R.field F25_1 (h := ?_) | refine R.fieldAt F25_1 (h := ?_)
         first | refine R.loadB O23 (h := ?_) | refine R.load1 O23 (h := ?_)
         first | refine R.field F25_1 (h := ?_) | refine R.fieldAt F25_1 (h := ?_)
         first | refine R.loadB O23 (h := ?_) | refine R.load1 O23 (h := ?_)
         refine R.move (h := ?_)
         refine R.sliceLo SF23 (ha := fun _ => by rw [List.length_map]; omega) (h := ?_)
         refine R.appendS AP23 (hs := SrcOk.sl Tryd.underlying23 (by rw [← List.map_drop]; exact ge_ones _)) (hlen := by simp; omega) (h := ?_)
         rw [show ([] ++ List.take ((k : Nat) : Int).toNat (s.ents.map GtE.c) ++ [List.map unSv (List.map LV.sv c.ent.c)] ++ List.drop ((k : Nat) : Int).toNat (s.ents.map GtE.c)) = (s.ents.take k ++ c.ent :: s.ents.drop k).map GtE.c from by rw [Int.toNat_natCast, ← List.map_take, ← List.map_drop, List.map_append, List.map_cons]; simp; rfl]
         first | refine R.field F25_1 (h := ?_) | refine R.fieldAt F25_1 (h := ?_)
         refine R.storeB O23 (h := ?_)
         refine Reg.nil ⟨fun _ => ⟨mixedO, by rfl, by rfl⟩, ?_⟩
         refine LGo.pack 5 1 (h := ?_)
         refine LGo.frzBx 5 (h := ?_)
         refine .seq ?_
         refine .region rfl ?_
         first | refine R.loadA A25 (h := ?_) | refine R.loadN A25 (h := ?_) | refine R.loadP A25 (h := ?_)
         refine R.storeA A25 (h := ?_)
         refine R.assign (h := ?_)
         refine .n0 ?_
         exact LGo.ret (ret_AT Tryd.results13 A25 hA hmd)

end Go.Proofs.YtgcjjndhohellaaDoor
