/- set of the reference is Minus, in plain words. -/
import Derived.Test.YtcekeipkofblmaaDoorR4
set_option linter.unusedSimpArgs false
set_option linter.unusedVariables false
namespace Go.Proofs.YtcekeipkofblmaaDoor

theorem posI_spec (x : Int) (out : List Int) : ∀ n, (∀ i, posI x out n ≤ i → i < n → x < out.getD i 0) ∧ (0 < posI x out n → out.getD (posI x out n - 1) 0 ≤ x)
  | 0 => ⟨fun i _ h => by omega, fun h => absurd h (by show ¬ 0 < 0; omega)⟩
  | n + 1 => by
    rw [posI_succ]
    obtain ⟨h1, h2⟩ := posI_spec x out n
    split
    · rename_i h
      refine ⟨fun i hi hn => ?_, h2⟩
      rcases Nat.lt_or_ge i n with hl | hl
      · exact h1 i hi hl
      · rw [show i = n from by omega]; exact h
    · rename_i h
      exact ⟨fun i hi hn => by omega, fun _ => by rw [show n + 1 - 1 = n from rfl]; omega⟩
theorem insI_ok {out : List Int} (hs : out.Pairwise (· < ·)) (x : Int) : (insI out x).Pairwise (· < ·) ∧ ∀ y, y ∈ insI out x ↔ y ∈ out ∨ y = x := by
  have hle := posI_le x out out.length
  obtain ⟨h1, h2⟩ := posI_spec x out out.length
  unfold insI
  generalize posI x out out.length = p at hle h1 h2
  have hg := List.pairwise_iff_getElem.1 hs
  split
  · rename_i h
    simp only [Bool.and_eq_true, decide_eq_true_eq] at h
    have hp : p - 1 < out.length := by omega
    refine ⟨hs, fun y => ⟨.inl, ?_⟩⟩
    rintro (h' | rfl)
    · exact h'
    · rw [← h.2, List.getD_eq_getElem?_getD, List.getElem?_eq_getElem hp]; exact List.getElem_mem hp
  · rename_i h
    have hlt : 0 < p → out.getD (p - 1) 0 < x := fun hp => by
      have := h2 hp
      rcases Int.lt_or_eq_of_le this with h' | h'
      · exact h'
      · exact absurd (by simp only [Bool.and_eq_true, decide_eq_true_eq]; exact ⟨by omega, h'⟩) h
    have ht : ∀ y ∈ out.take p, y < x := fun y hy => by
      obtain ⟨i, hi, rfl⟩ := List.mem_iff_getElem.1 hy
      simp only [List.length_take] at hi
      rw [List.getElem_take]
      have hp : p - 1 < out.length := by omega
      have := hlt (by omega)
      rw [List.getD_eq_getElem?_getD, List.getElem?_eq_getElem hp, Option.getD_some] at this
      rcases Nat.lt_or_ge i (p - 1) with hl | hl
      · have := hg i (p - 1) (by omega) hp hl; omega
      · have e : i = p - 1 := by omega
        subst e; exact this
    have hd : ∀ y ∈ out.drop p, x < y := fun y hy => by
      obtain ⟨i, hi, rfl⟩ := List.mem_iff_getElem.1 hy
      simp only [List.length_drop] at hi
      rw [List.getElem_drop]
      have hp : p + i < out.length := by omega
      have := h1 (p + i) (by omega) hp
      rwa [List.getD_eq_getElem?_getD, List.getElem?_eq_getElem hp, Option.getD_some] at this
    refine ⟨List.pairwise_append.2 ⟨hs.sublist (List.take_sublist ..), List.pairwise_cons.2 ⟨hd, hs.sublist (List.drop_sublist ..)⟩, fun y hy z hz => ?_⟩, fun y => ?_⟩
    · rcases List.mem_cons.1 hz with rfl | hz
      · exact ht y hy
      · have := ht y hy; have := hd z hz; omega
    · rw [List.mem_append, List.mem_cons]
      have hm : y ∈ out ↔ y ∈ out.take p ∨ y ∈ out.drop p := by rw [← List.mem_append, List.take_append_drop]
      rw [hm]
      constructor
      · rintro (h' | h' | h')
        · exact .inl (.inl h')
        · exact .inr h'
        · exact .inl (.inr h')
      · rintro ((h' | h') | h')
        · exact .inl h'
        · exact .inr (.inr h')
        · exact .inr (.inl h')
theorem insF_ok : ∀ (l out : List Int), out.Pairwise (· < ·) → (l.foldl insI out).Pairwise (· < ·) ∧ ∀ y, y ∈ l.foldl insI out ↔ y ∈ out ∨ y ∈ l
  | [], out, h => ⟨h, fun y => by simp⟩
  | x :: l, out, h => by
    obtain ⟨h1, h2⟩ := insI_ok h x
    obtain ⟨h3, h4⟩ := insF_ok l (insI out x) h1
    exact ⟨h3, fun y => by rw [List.foldl_cons, h4, h2, List.mem_cons, or_assoc]⟩
theorem endsL_mem {l : List Sp} {s : Sp} (h : s ∈ l) : s.1 ∈ endsL l ∧ s.2 ∈ endsL l :=
  ⟨List.mem_flatMap.2 ⟨s, h, by simp⟩, List.mem_flatMap.2 ⟨s, h, by simp⟩⟩
theorem endsL_pos {l : List Sp} (h : ∀ s ∈ l, Val s) : ∀ e ∈ endsL l, 0 ≤ e := fun e he => by
  obtain ⟨s, hs, he⟩ := List.mem_flatMap.1 he
  have := h s hs
  unfold Val at this
  simp at he; omega
def DS (a b : List Sp) (t : Int) : Bool := inS a t && !inS b t
theorem DS_const {a b : List Sp} {x y t : Int} (hE : ∀ e ∈ endsL a ++ endsL b, e ≤ x ∨ y ≤ e) (h1 : x ≤ t) (h2 : t < y) : DS a b t = DS a b x := by
  have key : ∀ l : List Sp, (∀ e ∈ endsL l, e ≤ x ∨ y ≤ e) → inS l t = inS l x := fun l hl => by
    rw [Bool.eq_iff_iff, inS_iff, inS_iff]
    constructor
    · rintro ⟨s, hs, h3, h4⟩
      have e1 := hl _ (endsL_mem hs).1
      have e2 := hl _ (endsL_mem hs).2
      exact ⟨s, hs, by omega, by omega⟩
    · rintro ⟨s, hs, h3, h4⟩
      have e1 := hl _ (endsL_mem hs).1
      have e2 := hl _ (endsL_mem hs).2
      exact ⟨s, hs, by omega, by omega⟩
  unfold DS
  rw [key a (fun e he => hE e (by simp [he])), key b (fun e he => hE e (by simp [he]))]
theorem setStep_nil (a b : List Sp) (p : Sp) : setStep a b [] p = if DS a b p.1 = true then [p] else [] := by
  unfold setStep DS
  cases inS a p.1 <;> cases inS b p.1 <;> simp
theorem setStep_snoc (a b l : List Sp) (z p : Sp) : setStep a b (l ++ [z]) p = if DS a b p.1 = true then (if z.2 = p.1 then l ++ [(z.1, p.2)] else l ++ [z] ++ [p]) else l ++ [z] := by
  have hl : lastS (l ++ [z]) = z := by simp [lastS]
  have hs : (l ++ [z]).set ((l ++ [z]).length - 1) (z.1, p.2) = l ++ [(z.1, p.2)] := by simp
  have h0 : decide (((l ++ [z]).length : Int) - 1 ≥ 0) = true := by simp
  unfold setStep
  rw [hl, hs, h0, Bool.true_and]
  unfold DS
  cases inS a p.1 <;> cases inS b p.1 <;> simp
theorem set_step {a b out : List Sp} {x y : Int} (hxy : x < y) (h0 : 0 ≤ x) (hc : Can out) (hle : ∀ s ∈ out, s.2 ≤ x) (hD : ∀ t, t < x → inS out t = DS a b t) (hE : ∀ e ∈ endsL a ++ endsL b, e ≤ x ∨ y ≤ e) :
    Can (setStep a b out (x, y)) ∧ (∀ s ∈ setStep a b out (x, y), s.2 ≤ y) ∧ ∀ t, t < y → inS (setStep a b out (x, y)) t = DS a b t := by
  have hout : ∀ t, x ≤ t → inS out t = false := fun t ht => by
    cases hh : inS out t
    · rfl
    · obtain ⟨s, hs, _, h2⟩ := inS_iff.1 hh
      have := hle s hs; omega
  by_cases hd : DS a b x = true
  · have hmem : ∀ r : List Sp, (∀ t, inS r t = (inS out t || (decide (x ≤ t) && decide (t < y)))) → ∀ t, t < y → inS r t = DS a b t := fun r hr t ht => by
      rw [hr]
      rcases Int.lt_or_le t x with h | h
      · rw [hD t h]; simp; omega
      · rw [hout t h, DS_const hE h ht, hd]; simp; omega
    rcases List.eq_nil_or_concat out with rfl | ⟨l, z, rfl⟩
    · rw [setStep_nil, if_pos hd]
      exact ⟨Can.one ⟨h0, hxy⟩, by simp, hmem _ (fun t => by simp [inS])⟩
    · rw [List.concat_eq_append] at *
      rw [setStep_snoc, if_pos hd]
      have hz : Val z := hc.1 z (by simp)
      have hzx := hle z (by simp)
      unfold Val at hz
      have hlz : ∀ s ∈ l, s.2 < z.1 := fun s hs => (List.pairwise_append.1 hc.2).2.2 s hs z (by simp)
      split
      · rename_i hzz
        dsimp only at hzz
        refine ⟨hc.left.app (Can.one ⟨hz.1, by dsimp only; omega⟩) (fun s hs q hq => ?_), fun s hs => ?_, hmem _ (fun t => ?_)⟩
        · simp at hq; subst hq; exact hlz s hs
        · rcases List.mem_append.1 hs with hs | hs
          · have := hle s (by simp [hs]); omega
          · simp at hs; subst hs; exact Int.le_refl _
        · rw [inS_app, inS_app, Bool.or_assoc]
          congr 1
          rw [Bool.eq_iff_iff]
          simp [inS]
          omega
      · rename_i hzz
        dsimp only at hzz
        refine ⟨hc.app (Can.one ⟨h0, hxy⟩) (fun s hs q hq => ?_), fun s hs => ?_, hmem _ (fun t => by rw [inS_app]; simp [inS])⟩
        · simp at hq; subst hq
          rcases List.mem_append.1 hs with hs | hs
          · have := hlz s hs; dsimp only; omega
          · simp at hs; subst hs; dsimp only; omega
        · rcases List.mem_append.1 hs with hs | hs
          · have := hle s hs; omega
          · simp at hs; subst hs; exact Int.le_refl _
  · have e : setStep a b out (x, y) = out := by
      rcases List.eq_nil_or_concat out with rfl | ⟨l, z, rfl⟩
      · rw [setStep_nil, if_neg hd]
      · rw [List.concat_eq_append, setStep_snoc, if_neg hd]
    rw [e]
    refine ⟨hc, fun s hs => by have := hle s hs; omega, fun t ht => ?_⟩
    rcases Int.lt_or_le t x with h | h
    · exact hD t h
    · rw [hout t h, DS_const hE h ht]; simpa using hd
theorem set_fold {a b : List Sp} : ∀ (l : List Int) (x : Int) (out : List Sp), (x :: l).Pairwise (· < ·) → 0 ≤ x → Can out → (∀ s ∈ out, s.2 ≤ x) → (∀ t, t < x → inS out t = DS a b t) → (∀ e ∈ endsL a ++ endsL b, e < x ∨ e ∈ x :: l) →
    Can ((pairsI (x :: l)).foldl (setStep a b) out) ∧ ∀ t, inS ((pairsI (x :: l)).foldl (setStep a b) out) t = DS a b t
  | [], x, out, _, _, hc, hle, hD, hE => ⟨hc, fun t => by
      show inS out t = _
      rcases Int.lt_or_le t x with h | h
      · exact hD t h
      · have h1 : inS out t = false := by
          cases hh : inS out t
          · rfl
          · obtain ⟨s, hs, _, h2⟩ := inS_iff.1 hh
            have := hle s hs; omega
        have h2 : inS a t = false := by
          cases hh : inS a t
          · rfl
          · obtain ⟨s, hs, _, h2⟩ := inS_iff.1 hh
            have := hE s.2 (List.mem_append.2 (.inl (endsL_mem hs).2))
            simp at this; omega
        rw [h1]; unfold DS; rw [h2]; rfl⟩
  | y :: l, x, out, hp, h0, hc, hle, hD, hE => by
    have hp' := List.pairwise_cons.1 hp
    have hxy := hp'.1 y (by simp)
    have hyl := (List.pairwise_cons.1 hp'.2).1
    obtain ⟨c1, c2, c3⟩ := set_step hxy h0 hc hle hD (fun e he => by
      rcases hE e he with h | h
      · exact .inl (by omega)
      · rcases List.mem_cons.1 h with rfl | h
        · exact .inl (Int.le_refl _)
        · rcases List.mem_cons.1 h with rfl | h
          · exact .inr (Int.le_refl _)
          · have := hyl e h; exact .inr (by omega))
    exact set_fold l y _ hp'.2 (by omega) c1 c2 c3 (fun e he => by
      rcases hE e he with h | h
      · exact .inl (by omega)
      · rcases List.mem_cons.1 h with rfl | h
        · exact .inl hxy
        · exact .inr h)
theorem set_eq {a b : List Sp} (ha : ∀ s ∈ a, Val s) (hb : ∀ s ∈ b, Val s) : setS a b = minusS a b := by
  obtain ⟨m1, m2, _⟩ := minus_can ha hb
  obtain ⟨e1, e2⟩ := insF_ok (endsL a ++ endsL b) [] List.Pairwise.nil
  have hset : Can (setS a b) ∧ ∀ t, inS (setS a b) t = DS a b t := by
    unfold setS endsS
    generalize (endsL a ++ endsL b).foldl insI [] = l at e1 e2
    cases l with
    | nil =>
      refine ⟨Can.nil, fun t => ?_⟩
      have h2 : inS a t = false := by
        cases hh : inS a t
        · rfl
        · obtain ⟨s, hs, _, _⟩ := inS_iff.1 hh
          have := (e2 s.1).2 (.inr (List.mem_append.2 (.inl (endsL_mem hs).1)))
          cases this
      unfold DS; rw [h2]; simp [pairsI, inS]
    | cons x l =>
      have hxE : x ∈ endsL a ++ endsL b := by
        rcases (e2 x).1 (by simp) with h | h
        · cases h
        · exact h
      have hx0 : 0 ≤ x := by
        rcases List.mem_append.1 hxE with h | h
        · exact endsL_pos ha x h
        · exact endsL_pos hb x h
      refine set_fold l x [] e1 hx0 Can.nil (by simp) (fun t ht => ?_) (fun e he => .inr ((e2 e).2 (.inr he)))
      have h2 : inS a t = false := by
        cases hh : inS a t
        · rfl
        · obtain ⟨s, hs, h3, _⟩ := inS_iff.1 hh
          have hm := (e2 s.1).2 (.inr (List.mem_append.2 (.inl (endsL_mem hs).1)))
          rcases List.mem_cons.1 hm with h | h
          · omega
          · have := (List.pairwise_cons.1 e1).1 _ h; omega
      unfold DS; rw [h2]; simp [inS]
  exact can_uniq hset.1 m1 (fun t => by rw [hset.2, m2]; rfl)

theorem rmin_eq (a b : List Sp) : rminT a b = minusT a b := by
  unfold rminT minusT
  by_cases h : checkS [a, b] = 0
  · have hv := (check2 a b).1 h
    rw [if_pos h, h, set_eq hv.1.2 hv.2.2]; rfl
  · rw [if_neg h, if_pos (by simpa using h)]
theorem minus_nil (l : List Sp) : minusT l [] = unionT l := by
  have e : checkS [l, []] = checkS [l] := by
    unfold checkS
    rw [show longS [l, []] = longS [l] from by simp [longS]]
    congr 1
  unfold minusT unionT
  rw [e]
  by_cases h : checkS [l] = 0
  · have hv := (check1 l).1 h
    obtain ⟨u1, u2⟩ := union_can hv.2
    obtain ⟨m1, m2, _⟩ := minus_can (b := []) hv.2 (by simp)
    rw [can_uniq m1 u1 (fun t => by rw [m2, u2]; simp [inS])]
  · rw [if_pos (by simpa using h), if_pos (by simpa using h)]
theorem rtotGo_sum : ∀ (l : List Sp) (x : Int), rtotGo (IntKind.i64.wrap x) l = IntKind.i64.wrap (x + sumS l)
  | [], x => by simp [rtotGo, sumS]
  | s :: l, x => by
    have := rtotGo_sum l (x + (s.2 - s.1))
    show rtotGo (IntKind.i64.wrap (IntKind.i64.wrap (IntKind.i64.wrap x + s.2) - s.1)) l = _
    have e : IntKind.i64.wrap (IntKind.i64.wrap (IntKind.i64.wrap x + s.2) - s.1) = IntKind.i64.wrap (x + (s.2 - s.1)) := by
      rw [w64 x]
      generalize s.2 = u
      generalize s.1 = v
      rw [w64 (_ + u), w64 (_ - v), w64]
      split <;> split <;> split <;> split <;> omega
    rw [e, this]; simp only [sumS]; congr 1; omega
theorem rtot_eq (l : List Sp) : rtotT l = totT l := by
  unfold rtotT totT
  rw [rmin_eq, minus_nil]
  unfold unionT
  by_cases h : checkS [l] = 0
  · rw [if_neg (by simpa using h), if_neg (by simpa using h)]
    have := rtotGo_sum (unionS l) 0
    rw [Int.zero_add] at this
    rw [totGo_0, ← this]; rfl
  · rw [if_pos (by simpa using h), if_pos (by simpa using h)]; rfl

end Go.Proofs.YtcekeipkofblmaaDoor
