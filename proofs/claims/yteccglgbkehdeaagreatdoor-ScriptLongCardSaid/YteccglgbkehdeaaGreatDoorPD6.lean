/- Texts of this claim, merged (SR to TK); no condition. -/
import Derived.Test.YteccglgbkehdeaaGreatDoorPD5
/- scripts: a round of Shrink, of a script whose events are one's own, too; plain laws of Check, Shrink, Decode. -/
set_option linter.unusedSimpArgs false
set_option linter.unusedVariables false
namespace Go.Proofs.YteccglgbkehdeaaGreatDoor

/-- the error of an event, as0 the reference looks for it: behind the events bf -/
def evR (s : Sc) (bf : List SrE) (x : SrE) : Int :=
  if ((decide (x.kind < 1) || decide (x.kind > 4)) || (!decide (x.kind = 1) && !decide (x.b = 0))) = true then 2 else
  if x.kind = 1 then (if (decide (x.a < 0) || decide (x.a ≥ (s.calls.length : Int))) = true then 4 else if (decide (x.b < 1) || decide (x.b > s.workers)) = true then 7 else if (bf.any fun y => decide (y.kind = 1) && decide (y.a = x.a)) = true then 8 else 0) else
  if x.kind = 2 then (if (decide (x.a < 0) || decide (x.a > 1000000)) = true then 7 else 0) else
  if x.kind = 3 then (if (decide (x.a < 1) || decide (x.a > 1000)) = true then 7 else 0) else
  if (decide (x.a < 1) || decide (x.a > 1000000000)) = true then 7 else 0
def chkGoR (s : Sc) : Nat → List SrE → List SrE → List UInt8 × Int
  | _, _, [] => ([], 0)
  | k, bf, x :: r => if evR s bf x ≠ 0 then (partT [101, 118, 101, 110, 116] k, evR s bf x) else chkGoR s (k + 1) (bf ++ [x]) r
theorem inS_out (n lo hi : Int) : (!inS n lo hi) = (decide (n < lo) || decide (n > hi)) := by
  unfold inS
  rw [Bool.eq_iff_iff]
  simp only [Bool.not_eq_true', Bool.and_eq_false_iff, decide_eq_false_iff_not, Bool.or_eq_true, decide_eq_true_eq]
  omega
theorem evR_eq {s : Sc} {bf : List SrE} {ks : List Int} (hk : ∀ a, ks.contains a = bf.any fun y => decide (y.kind = 1) && decide (y.a = a)) (x : SrE) : evR s bf x = evT s ks x := by
  obtain ⟨kd, a, b⟩ := x
  have hka := hk a
  unfold evR evT evE sendE numE
  simp only [inS_out, hka]
  rw [show (decide (a < 0) || decide (a > (s.calls.length : Int) - 1)) = (decide (a < 0) || decide (a ≥ (s.calls.length : Int))) from by
    rw [Bool.eq_iff_iff]; simp only [Bool.or_eq_true, decide_eq_true_eq]; omega]
  generalize (bf.any fun y => decide (y.kind = 1) && decide (y.a = a)) = q
  by_cases h1 : kd = 1
  · subst h1
    simp
    split
    · simp
    · split
      · simp
      · simp
  by_cases h2 : kd = 2
  · subst h2
    by_cases hb : b = 0 <;> simp [hb]
  by_cases h3 : kd = 3
  · subst h3
    by_cases hb : b = 0 <;> simp [hb]
  by_cases h4 : kd = 4
  · subst h4
    by_cases hb : b = 0 <;> simp [hb]
  · rw [if_pos (by simp only [Bool.or_eq_true, decide_eq_true_eq]; omega)]
    simp [h1, h2, h3, h4]
theorem addK_has (a b : Int) (ks : List Int) : (addK a ks).contains b = (ks.contains b || decide (a = b)) := by
  unfold addK
  split
  · rename_i h
    by_cases hab : a = b
    · subst hab; rw [h]; rfl
    · simp [hab]
  · by_cases hab : a = b
    · subst hab; simp
    · simp [hab, Ne.symm hab]
theorem keys_step {ks : List Int} {bf : List SrE} (hk : ∀ a, ks.contains a = bf.any fun y => decide (y.kind = 1) && decide (y.a = a)) (x : SrE) :
    ∀ a, (if x.kind = 1 then addK x.a ks else ks).contains a = (bf ++ [x]).any fun y => decide (y.kind = 1) && decide (y.a = a) := by
  intro a
  rw [List.any_append, ← hk a]
  split
  · rename_i h; rw [addK_has]; simp [h]
  · rename_i h; simp [h]
theorem chkGoR_eq {s : Sc} : ∀ (l : List SrE) (k : Nat) (bf : List SrE) (ks : List Int), (∀ a, ks.contains a = bf.any fun y => decide (y.kind = 1) && decide (y.a = a)) → chkGoR s k bf l = chkGo s k ks l
  | [], _, _, _, _ => rfl
  | x :: r, k, bf, ks, hk => by
    rw [chkGoR, chkGo, evR_eq hk x]
    split
    · rfl
    · exact chkGoR_eq r _ _ _ (keys_step hk x)
theorem chkR_eq (s : Sc) : chkGoR s 0 [] s.evs = chkGo s 0 [] s.evs := chkGoR_eq _ _ _ _ (fun a => rfl)
/-- the calls that are sent -/
def sendsOf (l : List SrE) : List Int := (l.filter fun x => decide (x.kind = 1)).map (·.a)
theorem chkGo_ok {s : Sc} : ∀ (l : List SrE) (k : Nat) (ks : List Int), (chkGo s k ks l).2 = 0 ↔ (∀ x ∈ l, evE s x = 0) ∧ (sendsOf l).Nodup ∧ ∀ a ∈ sendsOf l, ks.contains a = false
  | [], _, _ => by simp [chkGo, sendsOf]
  | x :: r, k, ks => by
    rw [chkGo]
    by_cases h0 : evT s ks x = 0
    · rw [if_neg (by simp [h0])]
      rw [chkGo_ok r]
      have he := evT_0 h0
      by_cases h1 : x.kind = 1
      · rw [if_pos h1]
        have hc : ks.contains x.a = false := by
          unfold evT at h0
          rw [he, h1] at h0
          cases hh : ks.contains x.a with
          | false => rfl
          | true => rw [hh] at h0; simp at h0
        have hs : sendsOf (x :: r) = x.a :: sendsOf r := by simp [sendsOf, h1]
        rw [hs, List.nodup_cons]
        constructor
        · rintro ⟨h2, h3, h4⟩
          refine ⟨fun y hy => ?_, ⟨fun hm => ?_, h3⟩, fun a ha => ?_⟩
          · rcases List.mem_cons.1 hy with rfl | hy
            · exact he
            · exact h2 y hy
          · have := h4 _ hm; rw [addK_has] at this; simp at this
          · rcases List.mem_cons.1 ha with rfl | ha
            · exact hc
            · have := h4 a ha; rw [addK_has] at this; simp only [Bool.or_eq_false_iff] at this; exact this.1
        · rintro ⟨h2, ⟨h3, h4⟩, h5⟩
          refine ⟨fun y hy => h2 y (List.mem_cons_of_mem _ hy), h4, fun a ha => ?_⟩
          rw [addK_has, h5 a (List.mem_cons_of_mem _ ha)]
          simp only [Bool.false_or, decide_eq_false_iff_not]
          rintro rfl
          exact h3 ha
      · rw [if_neg h1]
        have hs : sendsOf (x :: r) = sendsOf r := by simp [sendsOf, h1]
        rw [hs]
        simp only [List.mem_cons, forall_eq_or_imp, he, true_and]
    · rw [if_pos h0]
      constructor
      · intro h; exact absurd h h0
      · rintro ⟨h2, h3, h4⟩
        exfalso
        apply h0
        unfold evT
        rw [if_neg, h2 x (by simp)]
        intro hh
        simp only [Bool.and_eq_true, decide_eq_true_eq] at hh
        have := h4 x.a (by simp [sendsOf, hh.1.2])
        rw [hh.2] at this; cases this
theorem check_iff_S (s : Sc) : (checkS s).2 = 0 ↔ (baseS s).2 = 0 ∧ s.evs.length ≤ 1000 ∧ (∀ x ∈ s.evs, evE s x = 0) ∧ (sendsOf s.evs).Nodup := by
  unfold checkS
  by_cases h : (baseS s).2 = 0
  · rw [if_neg (by simp [h])]
    by_cases h2 : 1000 < (s.evs.length : Int)
    · rw [if_pos h2]
      constructor
      · intro h; cases h
      · rintro ⟨_, h3, _⟩; omega
    · rw [if_neg h2, chkGo_ok]
      constructor
      · rintro ⟨h3, h4, _⟩; exact ⟨h, by omega, h3, h4⟩
      · rintro ⟨_, _, h3, h4⟩; exact ⟨h3, h4, fun _ _ => rfl⟩
  · rw [if_pos h]
    constructor
    · intro h'; exact absurd h' h
    · rintro ⟨h', _⟩; exact absurd h' h
theorem chkGo_okT {s : Sc} : ∀ (l : List SrE) (k : Nat) (ks : List Int), (chkGo s k ks l).2 = 0 → (chkGo s k ks l).1 = []
  | [], _, _, _ => rfl
  | x :: r, k, ks, h => by
    rw [chkGo] at h ⊢
    by_cases h0 : evT s ks x = 0
    · rw [if_neg (by simp [h0])] at h ⊢; exact chkGo_okT r _ _ h
    · rw [if_pos h0] at h; exact absurd h h0

/-- the rounds of Shrink -/
def shrGo (pf : List SrE → Bool) (most : Int) : Nat → Nat → List SrE → Int → List SrE × Int
  | 0, _, cur, t => (cur, t)
  | f + 1, n, cur, t =>
    if 0 < cur.length ∧ t < most then
      (if (rndGo pf most n (cur.length + 1) cur.length cur t false).2.2 = false ∧ n = 1 then ((rndGo pf most n (cur.length + 1) cur.length cur t false).1, (rndGo pf most n (cur.length + 1) cur.length cur t false).2.1)
      else shrGo pf most f (max (n / 2) 1) (rndGo pf most n (cur.length + 1) cur.length cur t false).1 (rndGo pf most n (cur.length + 1) cur.length cur t false).2.1)
    else (cur, t)
theorem leftS_sub (l : List SrE) (fr n : Nat) : (leftS l fr n).Sublist l := by
  unfold leftS
  have h : (l.take fr ++ l.drop (fr + n)).Sublist (l.take fr ++ l.drop fr) := by
    apply List.Sublist.append_left
    rw [← List.drop_drop]
    exact List.drop_sublist _ _
  rwa [List.take_append_drop] at h
/-- what a round keeps -/
structure RndOk (pf : List SrE → Bool) (most : Int) (cur : List SrE) (t : Int) (r : List SrE × Int × Bool) : Prop where
  sub : r.1.Sublist cur
  le : t ≤ r.2.1
  mx : t ≤ most → r.2.1 ≤ most
  fails : pf cur = true → pf r.1 = true
theorem rndGo_ok (pf : List SrE → Bool) (most : Int) (n : Nat) : ∀ (f a : Nat) (cur : List SrE) (t : Int) (kp : Bool), RndOk pf most cur t (rndGo pf most n f a cur t kp)
  | 0, a, cur, t, kp => ⟨List.Sublist.refl _, Int.le_refl _, id, id⟩
  | f + 1, a, cur, t, kp => by
    rw [rndGo]
    split
    · rename_i h
      split
      · rename_i hp
        obtain ⟨h1, h2, h3, h4⟩ := rndGo_ok pf most n f (a - n) (leftS cur (a - n) n) (t + 1) true
        exact ⟨h1.trans (leftS_sub _ _ _), by omega, fun ht => h3 (by omega), fun _ => h4 hp⟩
      · obtain ⟨h1, h2, h3, h4⟩ := rndGo_ok pf most n f (a - n) cur (t + 1) kp
        exact ⟨h1, by omega, fun ht => h3 (by omega), h4⟩
    · exact ⟨List.Sublist.refl _, Int.le_refl _, id, id⟩
/-- a try was made, if one might be -/
theorem rndGo_try (pf : List SrE → Bool) (most : Int) (n f a : Nat) (cur : List SrE) (t : Int) (kp : Bool) (h : n ≤ a) (ht : t < most) : t + 1 ≤ (rndGo pf most n (f + 1) a cur t kp).2.1 := by
  rw [rndGo, if_pos ⟨h, ht⟩]
  split
  · exact (rndGo_ok pf most n f _ _ _ _).le
  · exact (rndGo_ok pf most n f _ _ _ _).le
/-- how much may still be done -/
def shrM (most : Int) (n : Nat) (t : Int) : Nat := (most - t).toNat * 2000 + n
theorem shr_step (pf : List SrE → Bool) (most : Int) {n : Nat} (hn : 1 ≤ n) {cur : List SrE} {t : Int} (h : 0 < cur.length ∧ t < most)
    (hk : ¬ ((rndGo pf most n (cur.length + 1) cur.length cur t false).2.2 = false ∧ n = 1)) : shrM most (max (n / 2) 1) (rndGo pf most n (cur.length + 1) cur.length cur t false).2.1 < shrM most n t := by
  obtain ⟨_, h2, h3, _⟩ := rndGo_ok pf most n (cur.length + 1) cur.length cur t false
  have h3 := h3 (by omega)
  unfold shrM
  by_cases hl : n ≤ cur.length
  · have := rndGo_try pf most n cur.length cur.length cur t false hl h.2
    omega
  · have hn1 : n ≠ 1 := by omega
    omega
structure ShrOk (pf : List SrE → Bool) (most : Int) (cur : List SrE) (r : List SrE × Int) : Prop where
  sub : r.1.Sublist cur
  mx : r.2 ≤ most
  pos : 0 ≤ r.2
  fails : pf r.1 = true
  short : r.2 < most → ∀ i, i < r.1.length → pf (leftS r.1 i 1) = false
def scZero : Sc := ⟨⟨0, 0, 0, []⟩, [], [], 0, [], []⟩
def shrinkS (pf : List SrE → Bool) (s : Sc) (most : Int) : Sc × Int × Int :=
  if (checkS s).2 ≠ 0 then (scZero, 0, (checkS s).2) else
  if (decide (most < 1) || decide (most > 100000)) = true then (scZero, 0, 7) else
  if (!pf s.evs) = true then (scZero, 0, 2) else
  ({ s with evs := (shrGo pf most (shrM most (max (s.evs.length / 2) 1) 0 + 1) (max (s.evs.length / 2) 1) s.evs 0).1 }, (shrGo pf most (shrM most (max (s.evs.length / 2) 1) 0 + 1) (max (s.evs.length / 2) 1) s.evs 0).2, 0)
/-- the event of two bytes; ks: the calls that are sent already -/
def decE (s : Sc) (ks : List Int) (b v : Nat) : SrE :=
  if b % 8 = 3 then ⟨3, 1 + (v % 20 : Nat), 0⟩ else
  if b % 8 = 4 then ⟨4, 1 + (v % 8 : Nat), 0⟩ else
  if b % 8 = 5 then ⟨4, 1 + (v * v : Nat), 0⟩ else
  if b % 8 = 6 ∨ b % 8 = 7 then
    (if s.calls.length = 0 then ⟨2, (v : Nat), 0⟩ else if ks.contains ((v % s.calls.length : Nat) : Int) = true then ⟨2, (v : Nat), 0⟩ else ⟨1, (v % s.calls.length : Nat), 1 + ((v / s.calls.length : Nat) : Int) % s.workers⟩)
  else ⟨2, (v : Nat), 0⟩
def pairsOf : List UInt8 → List (Nat × Nat)
  | a :: b :: r => (a.toNat, b.toNat) :: pairsOf r
  | _ => []
def nextK (ks : List Int) (x : SrE) : List Int := if x.kind = 1 then addK x.a ks else ks
def decL (s : Sc) : List Int → List (Nat × Nat) → List SrE
  | _, [] => []
  | ks, p :: r => decE s ks p.1 p.2 :: decL s (nextK ks (decE s ks p.1 p.2)) r
def decodeS (s : Sc) (raw : List UInt8) : Sc × Int :=
  if (checkS { s with evs := [] }).2 ≠ 0 then (scZero, (checkS { s with evs := [] }).2) else ({ s with evs := decL s [] ((pairsOf raw).take 1000) }, 0)
theorem decL_len (s : Sc) : ∀ (l : List (Nat × Nat)) (ks : List Int), (decL s ks l).length = l.length
  | [], _ => rfl
  | p :: r, ks => by rw [decL, List.length_cons, decL_len s r, List.length_cons]
theorem decL_app (s : Sc) : ∀ (l m : List (Nat × Nat)) (ks : List Int), ∃ ks', decL s ks (l ++ m) = decL s ks l ++ decL s ks' m
  | [], m, ks => ⟨ks, rfl⟩
  | p :: r, m, ks => by
    obtain ⟨ks', h⟩ := decL_app s r m (nextK ks (decE s ks p.1 p.2))
    exact ⟨ks', by rw [List.cons_append, decL, h, decL]; rfl⟩
theorem decE_ok {s : Sc} (hw : 1 ≤ s.workers) (ks : List Int) {b v : Nat} (hv : v < 256) : evE s (decE s ks b v) = 0 ∧ ((decE s ks b v).kind = 1 → ks.contains (decE s ks b v).a = false) := by
  have num : ∀ (lo hi a : Int), lo ≤ a → a ≤ hi → ∀ k, numE lo hi ⟨k, a, 0⟩ = 0 := by
    intro lo hi a h1 h2 k
    unfold numE inS
    rw [if_neg (by simp), if_neg (by simp; omega)]
  have hvv : v * v ≤ 65025 := by
    have : v * v ≤ 255 * 255 := Nat.mul_le_mul (by omega) (by omega)
    omega
  unfold decE
  have pick : evE s ⟨2, (v : Nat), 0⟩ = 0 := by
    unfold evE
    rw [if_neg (by simp), if_pos rfl]
    exact num _ _ _ (by omega) (by omega) _
  split
  · refine ⟨?_, fun h => by simp at h⟩
    unfold evE
    rw [if_neg (by simp), if_neg (by simp), if_pos rfl]
    exact num _ _ _ (by omega) (by omega) _
  split
  · refine ⟨?_, fun h => by simp at h⟩
    unfold evE
    rw [if_neg (by simp), if_neg (by simp), if_neg (by simp), if_pos rfl]
    exact num _ _ _ (by omega) (by omega) _
  split
  · refine ⟨?_, fun h => by simp at h⟩
    unfold evE
    rw [if_neg (by simp), if_neg (by simp), if_neg (by simp), if_pos rfl]
    exact num _ _ _ (by omega) (by omega) _
  split
  · split
    · exact ⟨pick, fun h => by simp at h⟩
    · rename_i h0
      split
      · exact ⟨pick, fun h => by simp at h⟩
      · rename_i h1
        refine ⟨?_, fun _ => by simpa using h1⟩
        unfold evE
        rw [if_pos rfl]
        unfold sendE inS
        have hm := Nat.mod_lt v (show 0 < s.calls.length by omega)
        have h2 := Int.emod_nonneg ((v / s.calls.length : Nat) : Int) (show s.workers ≠ 0 by omega)
        have h3 := Int.emod_lt_of_pos ((v / s.calls.length : Nat) : Int) (show 0 < s.workers by omega)
        rw [if_neg, if_neg]
        · simp only [Bool.not_eq_true', Bool.and_eq_false_iff, decide_eq_false_iff_not, not_or]
          omega
        · simp only [Bool.not_eq_true', Bool.and_eq_false_iff, decide_eq_false_iff_not, not_or]
          omega
  · exact ⟨pick, fun h => by simp at h⟩
theorem nextK_has (ks : List Int) (x : SrE) (a : Int) : (nextK ks x).contains a = (ks.contains a || (decide (x.kind = 1) && decide (x.a = a))) := by
  unfold nextK
  split
  · rename_i h; rw [addK_has]; simp [h]
  · rename_i h; simp [h]
theorem decL_ok {s : Sc} (hw : 1 ≤ s.workers) : ∀ (l : List (Nat × Nat)) (ks : List Int), (∀ p ∈ l, p.2 < 256) → (∀ x ∈ decL s ks l, evE s x = 0) ∧ (sendsOf (decL s ks l)).Nodup ∧ ∀ a ∈ sendsOf (decL s ks l), ks.contains a = false
  | [], _, _ => by simp [decL, sendsOf]
  | p :: r, ks, h => by
    obtain ⟨h1, h2, h3⟩ := decL_ok hw r (nextK ks (decE s ks p.1 p.2)) (fun q hq => h q (List.mem_cons_of_mem _ hq))
    obtain ⟨e1, e2⟩ := decE_ok hw ks (b := p.1) (h p (by simp))
    rw [decL]
    generalize decE s ks p.1 p.2 = x at *
    refine ⟨fun y hy => ?_, ?_⟩
    · rcases List.mem_cons.1 hy with rfl | hy
      · exact e1
      · exact h1 y hy
    · by_cases hk : x.kind = 1
      · have hs : sendsOf (x :: decL s (nextK ks x) r) = x.a :: sendsOf (decL s (nextK ks x) r) := by simp [sendsOf, hk]
        rw [hs, List.nodup_cons]
        refine ⟨⟨fun hm => ?_, h2⟩, fun a ha => ?_⟩
        · have := h3 _ hm; rw [nextK_has] at this; simp [hk] at this
        · rcases List.mem_cons.1 ha with rfl | ha
          · exact e2 hk
          · have := h3 a ha; rw [nextK_has] at this; simp only [Bool.or_eq_false_iff] at this; exact this.1
      · have hs : sendsOf (x :: decL s (nextK ks x) r) = sendsOf (decL s (nextK ks x) r) := by simp [sendsOf, hk]
        rw [hs]
        refine ⟨h2, fun a ha => ?_⟩
        have := h3 a ha; rw [nextK_has] at this; simp only [Bool.or_eq_false_iff] at this; exact this.1
theorem pairs_lt : ∀ (l : List UInt8), ∀ p ∈ pairsOf l, p.1 < 256 ∧ p.2 < 256
  | [], p, h => by simp [pairsOf] at h
  | [_], p, h => by simp [pairsOf] at h
  | a :: b :: r, p, h => by
    rw [pairsOf] at h
    rcases List.mem_cons.1 h with rfl | h
    · exact ⟨a.toNat_lt, b.toNat_lt⟩
    · exact pairs_lt r p h
theorem pairs_len : ∀ (l : List UInt8), (pairsOf l).length = l.length / 2
  | [] => rfl
  | [_] => by simp [pairsOf]
  | a :: b :: r => by rw [pairsOf, List.length_cons, pairs_len r, List.length_cons, List.length_cons]; omega
theorem pairs_app : ∀ (l m : List UInt8), l.length % 2 = 0 → pairsOf (l ++ m) = pairsOf l ++ pairsOf m
  | [], m, _ => rfl
  | [_], m, h => by simp at h
  | a :: b :: r, m, h => by
    rw [List.cons_append, List.cons_append, pairsOf, pairs_app r m (by simp at h; omega), pairsOf]; rfl
theorem pairs_even : ∀ (l : List UInt8), pairsOf (l.take (l.length / 2 * 2)) = pairsOf l
  | [] => rfl
  | [a] => by simp [pairsOf]
  | a :: b :: r => by
    have := pairs_even r
    rw [show (a :: b :: r).length / 2 * 2 = r.length / 2 * 2 + 2 from by simp; omega, List.take_succ_cons, List.take_succ_cons, pairsOf, pairsOf, this]
theorem decode_check {s : Sc} (raw : List UInt8) (h : (decodeS s raw).2 = 0) (hw : (baseS { s with evs := [] }).2 = 0 → 1 ≤ s.workers) (hb : ∀ es, baseS { s with evs := es } = baseS { s with evs := [] }) : (checkS (decodeS s raw).1).2 = 0 := by
  unfold decodeS at h ⊢
  split at h
  · rename_i h1; exact absurd h h1
  · rename_i h1
    rw [if_neg h1]
    have h1 := (check_iff_S _).1 (Decidable.of_not_not h1)
    dsimp only
    rw [check_iff_S]
    obtain ⟨k1, k2, _⟩ := decL_ok (s := s) (hw h1.1) ((pairsOf raw).take 1000) [] (fun p hp => (pairs_lt raw p (List.mem_of_mem_take hp)).2)
    refine ⟨by rw [hb]; exact h1.1, ?_, k1, k2⟩
    dsimp only
    rw [decL_len, List.length_take]; omega
/-- the reference's event of two bytes, behind the events bf -/
theorem decode_err {s : Sc} {raw raw' : List UInt8} (h : (decodeS s raw).2 = 0) : (decodeS s raw').2 = 0 := by
  unfold decodeS at h ⊢
  split at h
  · rename_i h1; exact absurd h h1
  · rename_i h1; rw [if_neg h1]
theorem decode_evs {s : Sc} {raw : List UInt8} (h : (decodeS s raw).2 = 0) : (decodeS s raw).1.evs = decL s [] ((pairsOf raw).take 1000) := by
  unfold decodeS at h ⊢
  split at h
  · rename_i h1; exact absurd h h1
  · rename_i h1; rw [if_neg h1]
theorem decode_pre {s : Sc} {a b : List UInt8} (ha : a.length ≤ 100) (hb : b.length ≤ 100) (h : (decodeS s a).2 = 0) :
    (decodeS s a).1.evs.length = a.length / 2 ∧ ∃ m, m.length = b.length / 2 ∧ (decodeS s (a.take (a.length / 2 * 2) ++ b)).1.evs = (decodeS s a).1.evs ++ m := by
  rw [decode_evs h, decode_evs (decode_err (raw' := a.take (a.length / 2 * 2) ++ b) h)]
  have hp : pairsOf (a.take (a.length / 2 * 2) ++ b) = pairsOf a ++ pairsOf b := by rw [pairs_app _ _ (by rw [List.length_take]; omega), pairs_even]
  have l1 := pairs_len a
  have l2 := pairs_len b
  rw [hp, List.take_of_length_le (by omega), List.take_of_length_le (by rw [List.length_append]; omega)]
  obtain ⟨ks, hk⟩ := decL_app s (pairsOf a) (pairsOf b) []
  exact ⟨by rw [decL_len, l1], _, by rw [decL_len, l2], hk⟩

/-- how far the kinds of a fault are found, and how much the clock has gone on -/
def fStep (ks : List UInt8) (p : Nat × Int) (x : SrE) : Nat × Int :=
  ((if p.1 < ks.length ∧ x.kind = 1 + (((ks.getD p.1 0).toNat % 4 : Nat) : Int) then p.1 + 1 else p.1), (if x.kind = 4 then p.2 + x.a else p.2))
def failsP (ks : List UInt8) (least : Int) (l : List SrE) : Bool := decide ((l.foldl (fStep ks) (0, 0)).1 = ks.length) && decide ((l.foldl (fStep ks) (0, 0)).2 ≥ least)
theorem rep_pairs (b v : UInt8) : ∀ n : Nat, pairsOf ((List.replicate n [b, v]).flatten) = List.replicate n (b.toNat, v.toNat)
  | 0 => rfl
  | n + 1 => by
    rw [List.replicate_succ, List.flatten_cons, List.replicate_succ]
    show (b.toNat, v.toNat) :: pairsOf (List.replicate n [b, v]).flatten = _
    rw [rep_pairs b v n]
theorem roundO_L (s : Sc) (hs : s.cp) {ff : Nat} {first : List LV} {pf : List SrE → Bool} (l0 : List SrE) (hfl : LV.lts 6 first = true) (hff : ∀ es : List SrE, es.Sublist l0 → PC Tryz.prog ff (first ++ [.agg ((Sc.c { s with evs := es }).map LV.sv)]) (.b (pf es)))
    (n : Nat) (hn : 1 ≤ n) (hn2 : n ≤ 1000) (most : Int) (hm : most ≤ 100000) (cur : List SrE) (hcl : cur.length ≤ 1000) (hsub : cur.Sublist l0) (t : Int) (ht : 0 ≤ t ∧ t ≤ 100000) :
    LC Tryz.prog 87 6 [.i n, .ptr 0 0, .ptr 1 0, .ptr 2 0, .ptr 3 0, .ptr 4 0] [(0, .box 27 [.sv (.sl 3 (cur.map SrE.c))]), (1, .box 3 [.i t]), (2, .box 3 [.i most]), (3, .box 30 [.fn (.func ff) first []]), (4, .box 29 (s.cO 5)), (5, .rs 58 3 (s.evs.map SrE.c))] (.b (rndGo pf most n (cur.length + 1) cur.length cur t false).2.2) [(0, .box 27 [.sv (.sl 3 ((rndGo pf most n (cur.length + 1) cur.length cur t false).1.map SrE.c))]), (1, .box 3 [.i (rndGo pf most n (cur.length + 1) cur.length cur t false).2.1]), (2, .box 3 [.i most]), (3, .box 30 [.fn (.func ff) first []]), (4, .box 29 (s.cO 5)), (5, .rs 58 3 (s.evs.map SrE.c))] 0 := by
 refine LC.of_go Tryz.func87 (c := _) rfl (by kernel_rfl) (by rw [Tryz.ntmps87]; simp) rfl rfl (by simp [LO.lt, LV.lts, LV.lt, lts_sv, hfl]) (by simp) ?_
 intro B hA hmd
 obtain ⟨G, hG⟩ : ∃ G, rndGo pf most n (cur.length + 1) cur.length cur t false = G := ⟨_, rfl⟩
 rw [hG]
 refine .seq ?_
 refine .region rfl ?_
 refine R.assign (h := ?_)
 refine .n0 ?_
 refine .seq ?_
 refine .seq ?_
 refine .region rfl ?_
 first | refine R.loadB O27 (h := ?_) | refine R.load1 O27 (h := ?_)
 first | refine R.len S27 (h := ?_) | refine R.lenRs S27 (h := ?_) | refine R.lenV (run_lenNil S27) (h := ?_)
 rw [List.length_map]
 refine R.assign (h := ?_)
 refine .n0 ?_
 refine .block ?_
 refine .loop ?_
 refine LGo.loopG (σ := Nat × Nat × List SrE × Int × Bool) (fun x => x.1 < x.2.1 ∧ x.1 ≤ x.2.2.1.length ∧ x.2.2.1.length ≤ 1000 ∧ 0 ≤ x.2.2.2.1 ∧ x.2.2.2.1 ≤ 100000 ∧ x.2.2.1.Sublist l0 ∧ rndGo pf most n x.2.1 x.1 x.2.2.1 x.2.2.2.1 x.2.2.2.2 = G) (fun x => [(8, (true, .i (x.1 : Nat))), (7, (true, .b x.2.2.2.2)), (1, (true, .ptr 0 0)), (2, (true, .ptr 1 0)), (3, (true, .ptr 2 0)), (4, (true, .ptr 3 0)), (5, (true, .ptr 4 0)), (0, (true, .i n))]) (fun x => [(0, .box 27 [.sv (.sl 3 (x.2.2.1.map SrE.c))]), (1, .box 3 [.i x.2.2.2.1]), (2, .box 3 [.i most]), (3, .box 30 [.fn (.func ff) first []]), (4, .box 29 (s.cO 5)), (5, .rs 58 3 (s.evs.map SrE.c))]) (fun x => x.1) (cur.length, cur.length + 1, cur, t, false) [] ⟨Nat.lt_succ_self _, Nat.le_refl _, hcl, ht.1, ht.2, hsub, hG⟩ (by repeat (first | exact trivial | refine ⟨rfl, ?_⟩)) (by repeat (first | exact trivial | refine ⟨rfl, ?_⟩)) (by repeat (first | exact trivial | refine ⟨rfl, ?_⟩)) ?_
 rintro ⟨a, f, cu, tt, kp⟩ ⟨haf, ha, hcu, ht0, ht1, hcs, hq⟩ ih
 dsimp only at * 
 obtain ⟨f, rfl⟩ : ∃ f2, f = f2 + 1 := ⟨f - 1, by omega⟩
 rw [rndGo] at hq
 refine .seq ?_
 refine .seq ?_
 refine .region rfl ?_
 refine R.move (h := ?_)
 refine R.move (h := ?_)
 refine R.bin (run_geq _ _ _ _ _ _) (h := ?_)
 refine R.move (h := ?_)
 first | refine R.loadB O3 (h := ?_) | refine R.load1 O3 (h := ?_)
 first | refine R.loadB O3 (h := ?_) | refine R.load1 O3 (h := ?_)
 refine R.bin (run_lss _ _ _ _ _ _) (h := ?_)
 refine R.and (h := ?_)
 refine .n0 ?_
 refine LGo.ifb (ht := fun hc => ?_) (hf := fun hc => ?_)
 ·
  simp only [Bool.and_eq_true, decide_eq_true_eq] at hc
  obtain ⟨hna, htm⟩ := hc
  have hna : n ≤ a := by omega
  rw [if_pos ⟨hna, htm⟩] at hq
  refine .skip ?_
  refine .seq ?_
  refine .block ?_
  refine .seq ?_
  refine .region rfl ?_
  first | refine R.loadB O3 (h := ?_) | refine R.load1 O3 (h := ?_)
  first | refine R.add (h := ?_) | refine R.addW (h := ?_)
  refine R.storeB O3 (h := ?_)
  refine .n0 ?_
  refine .seq ?_
  refine .region rfl ?_
  first | refine R.loadB O27 (h := ?_) | refine R.load1 O27 (h := ?_)
  refine R.move (h := ?_)
  refine R.move (h := ?_)
  first | refine R.sub (h := ?_) | refine R.subW (h := ?_)
  rw [show (a : Int) - n = ((a - n : Nat) : Int) from by omega]
  refine R.move (h := ?_)
  refine R.callP (es := [_, _, _]) (fun _ => left_P cu (a - n) n (by omega) (by omega)) (h := ?_)
  have hlen := leftS_len (l := cu) (fr := a - n) (n := n) (by omega)
  have hls := (leftS_sub cu (a - n) n).trans hcs
  obtain ⟨lf, hlf⟩ : ∃ lf, leftS cu (a - n) n = lf := ⟨_, rfl⟩
  rw [hlf] at hq hlen hls ⊢
  refine R.assign (h := ?_)
  refine .n0 ?_
  refine .seq ?_
  refine .region rfl ?_
  first | refine R.loadB O30 (h := ?_) | refine R.load1 O30 (h := ?_)
  first | refine R.loadA A29 (h := ?_) | refine R.loadN A29 (h := ?_) | refine R.loadP A29 (h := ?_)
  refine R.move (h := ?_)
  refine R.callP (es := [_]) (fun _ => cloneEv_P (lf.map SrE.c) (se_ones _) (by rw [List.length_map]; omega)) (h := ?_)
  refine R.callX (es := [_, _]) [5] (copied_L s hs lf) (h := ?_)
  refine R.callRd (es := [_]) (first := first) (cap := []) (Hi := []) (m := 0) (out := .b (pf lf)) (avs := [.agg ((Sc.c { s with evs := lf }).map LV.sv)]) (by rw [List.append_nil]; exact (hff lf hls).lc) (hL := fun k z hz => by simp at hz) (h := ?_)
  refine Reg.nil ⟨fun _ => ⟨mixedO, by rfl, by rfl⟩, ?_⟩
  refine LGo.ifb (ht := fun hc2 => ?_) (hf := fun hc2 => ?_)
  ·
   rw [if_pos hc2] at hq
   refine .region rfl ?_
   refine R.move (h := ?_)
   refine R.storeB O27 (h := ?_)
   refine R.assign (h := ?_)
   refine .n0 ?_
   refine .inBlock ?_
   refine .region rfl ?_
   refine R.move (h := ?_)
   refine R.move (h := ?_)
   first | refine R.sub (h := ?_) | refine R.subW (h := ?_)
   rw [show (a : Int) - n = ((a - n : Nat) : Int) from by omega]
   refine R.assign (h := ?_)
   refine .n0 ?_
   refine .inLoop ?_
   exact LGo.next _ (fun o h => by have := (hA o).1 h; omega) (by omega) (ih (a - n, f, lf, tt + 1, true) ⟨by dsimp only; omega, by dsimp only; omega, by dsimp only; omega, by dsimp only; omega, by dsimp only; omega, hls, hq⟩ (by dsimp only; omega)) (by repeat (first | exact trivial | refine ⟨rfl, ?_⟩)) ⟨rfl, rfl, rfl, rfl, rfl, rfl, trivial⟩ (hLl := by simp [LO.lt, LV.lts, LV.lt, lts_sv, hfl])
  ·
   rw [if_neg (by rw [hc2]; simp)] at hq
   refine .skip ?_
   refine .inBlock ?_
   refine .region rfl ?_
   refine R.move (h := ?_)
   refine R.move (h := ?_)
   first | refine R.sub (h := ?_) | refine R.subW (h := ?_)
   rw [show (a : Int) - n = ((a - n : Nat) : Int) from by omega]
   refine R.assign (h := ?_)
   refine .n0 ?_
   refine .inLoop ?_
   exact LGo.next _ (fun o h => by have := (hA o).1 h; omega) (by omega) (ih (a - n, f, cu, tt + 1, kp) ⟨by dsimp only; omega, by dsimp only; omega, by dsimp only; omega, by dsimp only; omega, by dsimp only; omega, hcs, hq⟩ (by dsimp only; omega)) (by repeat (first | exact trivial | refine ⟨rfl, ?_⟩)) ⟨rfl, rfl, rfl, rfl, rfl, rfl, trivial⟩ (hLl := by simp [LO.lt, LV.lts, LV.lt, lts_sv, hfl])
 ·
  rw [if_neg (fun h => by rw [decide_eq_true h.2, decide_eq_true (show (n : Int) ≤ a by omega)] at hc; simp at hc)] at hq
  subst hq
  refine .exit rfl ?_
  refine .seq ?_
  refine .region rfl ?_
  refine R.move (h := ?_)
  refine R.assign (h := ?_)
  refine .n0 ?_
  exact LGo.ret (ret_T Tryz.results87 hA hmd (hol := by simp [LO.lt, LV.lts, LV.lt, lts_sv, hfl]))

end Go.Proofs.YteccglgbkehdeaaGreatDoor
/- scripts: Shrink. -/
set_option linter.unusedSimpArgs false
set_option linter.unusedVariables false
namespace Go.Proofs.YteccglgbkehdeaaGreatDoor

theorem shrinkO_L (s : Sc) (hs : s.sm) (hcp : s.cp) (hne : s.evs ≠ []) {ff : Nat} {pf : List SrE → Bool} (hff : (checkS s).2 = 0 → ∀ es : List SrE, es.Sublist s.evs → PC Tryz.prog ff ([] ++ [.agg ((Sc.c { s with evs := es }).map LV.sv)]) (.b (pf es))) (most : Int) (hmr : R64 most) : LC Tryz.prog 22 1 [.agg (s.cO 0), .fn (.func ff) [] [], .i most] [(0, .rs 58 3 (s.evs.map SrE.c))] (.tup [.agg ((shrinkS pf s most).1.c.map LV.sv), .i (shrinkS pf s most).2.1, .i (shrinkS pf s most).2.2]) [(0, .rs 58 3 (s.evs.map SrE.c))] 0 := by
 refine LC.of_go Tryz.func22 (c := _) rfl (by kernel_rfl) (by rw [Tryz.ntmps22]; simp) rfl rfl (by simp [LO.lt, LV.lts, LV.lt, lts_sv]) (by simp) ?_
 intro B hA hmd
 obtain ⟨g, e0⟩ : ∃ g, shrinkS pf s most = g := ⟨_, rfl⟩
 have e1 := e0
 unfold shrinkS at e1
 rw [e0]
 unfold R64 at hmr
 refine .seq ?_
 refine .region rfl ?_
 refine R.box (h := ?_)
 refine R.box (h := ?_)
 refine R.box (h := ?_)
 refine R.alloc Z29 (h := ?_)
 refine R.alloc Z3 (h := ?_)
 refine R.assign (h := ?_)
 refine .n0 ?_
 refine .seq ?_
 refine .region rfl ?_
 first | refine R.loadA A29 (h := ?_) | refine R.loadN A29 (h := ?_) | refine R.loadP A29 (h := ?_)
 refine R.callVA (es := [_]) (lvs := [.agg (s.c.map LV.sv)]) (rd := [(0, .rs 58 3 (s.evs.map SrE.c))]) (fun _ => checkS_P s hs) (hrd := oneL rfl) (h := ?_)
 refine R.move (h := ?_)
 refine R.extract (h := ?_)
 refine R.extract (h := ?_)
 refine R.assign (h := ?_)
 refine .n0 ?_
 refine .seq ?_
 refine .block ?_
 refine .seq ?_
 refine .region rfl ?_
 refine R.move (h := ?_)
 refine R.bin (run_neq _ _ _ _ _ _) (h := ?_)
 refine R.assign (h := ?_)
 refine .n0 ?_
 refine LGo.ifb (ht := fun hc => ?_) (hf := fun hc => ?_)
 ·
  rw [if_pos (by simpa using hc)] at e1
  rw [← e1]
  refine .seq ?_
  refine .region rfl ?_
  first | refine R.loadA A29 (h := ?_) | refine R.loadN A29 (h := ?_) | refine R.loadP A29 (h := ?_)
  refine R.move (h := ?_)
  refine R.storeA A29 (h := ?_)
  refine R.storeB O3 (h := ?_)
  refine R.assign (h := ?_)
  refine .n0 ?_
  refine LGo.packNil 4 3 80 3 (h := ?_)
  refine LGo.frzBx 4 (h := ?_)
  refine LGo.packNil 4 5 71 3 (h := ?_)
  refine LGo.frzBx 4 (h := ?_)
  refine LGo.packNil 4 7 40 11 (h := ?_)
  refine LGo.frzBx 4 (h := ?_)
  refine LGo.packNil 4 8 58 3 (h := ?_)
  refine LGo.frzBx 4 (h := ?_)
  exact LGo.ret (ret_ABT Tryz.results22 A29 O3 hA hmd)
 ·
  have hc0 : (checkS s).2 = 0 := by simpa using hc
  rw [if_neg (by simp [hc0])] at e1
  have hff := hff hc0
  have hel : s.evs.length ≤ 1000 := ((check_iff_S s).1 hc0).2.1
  refine .seq ?_
  refine .region rfl ?_
  first | refine R.loadB O30 (h := ?_) | refine R.load1 O30 (h := ?_)
  refine R.fnF (hT := Tryz.underlying30) (h := ?_)
  refine R.assign (h := ?_)
  refine .n0 ?_
  refine LGo.ifb (ht := fun hc2 => by simp at hc2) (hf := fun hc2 => ?_)
  refine .seq ?_
  refine .region rfl ?_
  first | refine R.loadB O3 (h := ?_) | refine R.load1 O3 (h := ?_)
  refine R.bin (run_lss _ _ _ _ _ _) (h := ?_)
  refine R.move (h := ?_)
  first | refine R.loadB O3 (h := ?_) | refine R.load1 O3 (h := ?_)
  refine R.bin (run_gtr _ _ _ _ _ _) (h := ?_)
  refine R.or (h := ?_)
  refine R.assign (h := ?_)
  refine .n0 ?_
  refine LGo.ifb (ht := fun hc3 => ?_) (hf := fun hc3 => ?_)
  ·
   rw [if_pos hc3] at e1
   rw [← e1]
   refine .seq ?_
   refine .region rfl ?_
   first | refine R.loadA A29 (h := ?_) | refine R.loadN A29 (h := ?_) | refine R.loadP A29 (h := ?_)
   refine R.storeA A29 (h := ?_)
   refine R.storeB O3 (h := ?_)
   refine R.assign (h := ?_)
   refine .n0 ?_
   refine LGo.packNil 4 3 80 3 (h := ?_)
   refine LGo.frzBx 4 (h := ?_)
   refine LGo.packNil 4 5 71 3 (h := ?_)
   refine LGo.frzBx 4 (h := ?_)
   refine LGo.packNil 4 7 40 11 (h := ?_)
   refine LGo.frzBx 4 (h := ?_)
   refine LGo.packNil 4 8 58 3 (h := ?_)
   refine LGo.frzBx 4 (h := ?_)
   exact LGo.ret (ret_ABT Tryz.results22 A29 O3 hA hmd)
  ·
   rw [if_neg (by rw [hc3]; simp)] at e1
   simp only [Bool.or_eq_false_iff, decide_eq_false_iff_not] at hc3
   refine .seq ?_
   refine .region rfl ?_
   first | refine R.loadB O30 (h := ?_) | refine R.load1 O30 (h := ?_)
   first | refine R.loadA A29 (h := ?_) | refine R.loadN A29 (h := ?_) | refine R.loadP A29 (h := ?_)
   first | refine R.field F29_5 (h := ?_) | refine R.fieldAt F29_5 (h := ?_)
   first | refine R.loadB O27 (h := ?_) | refine R.load1 O27 (h := ?_)
   refine R.callX (es := [_]) [0] (cloneEv_L (s.evs.map SrE.c) (se_ones _) (by rw [List.length_map]; omega) (by simpa using hne)) (h := ?_)
   refine R.callX (es := [_, _]) [0] (copied_L s hcp s.evs) (h := ?_)
   refine R.callRd (es := [_]) (first := []) (cap := []) (Hi := []) (m := 0) (out := .b (pf s.evs)) (avs := [.agg (s.c.map LV.sv)]) (by rw [List.append_nil]; exact (hff s.evs (List.Sublist.refl _)).lc) (hL := fun k z hz => by simp at hz) (h := ?_)
   refine R.not (h := ?_)
   refine R.assign (h := ?_)
   refine Reg.nil ⟨fun _ => ⟨mixedO, by rfl, by rfl⟩, ?_⟩
   refine LGo.ifb (ht := fun hc4 => ?_) (hf := fun hc4 => ?_)
   ·
    rw [if_pos hc4] at e1
    rw [← e1]
    refine .seq ?_
    refine .region rfl ?_
    first | refine R.loadA A29 (h := ?_) | refine R.loadN A29 (h := ?_) | refine R.loadP A29 (h := ?_)
    refine R.storeA A29 (h := ?_)
    refine R.storeB O3 (h := ?_)
    refine R.assign (h := ?_)
    refine .n0 ?_
    refine LGo.packNil 4 3 80 3 (h := ?_)
    refine LGo.frzBx 4 (h := ?_)
    refine LGo.packNil 4 5 71 3 (h := ?_)
    refine LGo.frzBx 4 (h := ?_)
    refine LGo.packNil 4 7 40 11 (h := ?_)
    refine LGo.frzBx 4 (h := ?_)
    refine LGo.packNil 4 8 58 3 (h := ?_)
    refine LGo.frzBx 4 (h := ?_)
    exact LGo.ret (ret_ABT Tryz.results22 A29 O3 hA hmd)
   ·
    rw [if_neg (by rw [hc4]; simp)] at e1
    obtain ⟨G, hG⟩ : ∃ G, shrGo pf most (shrM most (max (s.evs.length / 2) 1) 0 + 1) (max (s.evs.length / 2) 1) s.evs 0 = G := ⟨_, rfl⟩
    rw [hG] at e1
    refine .skip ?_
    refine .inBlock ?_
    refine .seq ?_
    refine .region rfl ?_
    first | refine R.field F29_5 (h := ?_) | refine R.fieldAt F29_5 (h := ?_)
    first | refine R.loadB O27 (h := ?_) | refine R.load1 O27 (h := ?_)
    refine R.callX (es := [_]) [0] (cloneEv_L (s.evs.map SrE.c) (se_ones _) (by rw [List.length_map]; omega) (by simpa using hne)) (h := ?_)
    refine R.alloc Z27 (h := ?_)
    refine R.storeB O27 (h := ?_)
    refine .n0 ?_
    refine .seq ?_
    refine .region rfl ?_
    refine R.makeFunc (es := []) (fs := [_, _, _, _, _]) (h := ?_)
    refine R.assign (h := ?_)
    refine .n0 ?_
    refine .seq ?_
    refine .seq ?_
    refine .region rfl ?_
    first | refine R.loadB O27 (h := ?_) | refine R.load1 O27 (h := ?_)
    first | refine R.len S27 (h := ?_) | refine R.lenRs S27 (h := ?_) | refine R.lenV (run_lenNil S27) (h := ?_)
    rw [List.length_map]
    refine R.quo (h := ?_)
    refine R.maxI (h := ?_)
    rw [show max ((s.evs.length : Int) / 2) 1 = ((max (s.evs.length / 2) 1 : Nat) : Int) from by omega]
    refine R.assign (h := ?_)
    refine .n0 ?_
    refine .block ?_
    refine .loop ?_
    refine LGo.loopG (σ := Nat × Nat × List SrE × Int) (fun x => shrM most x.2.1 x.2.2.2 < x.1 ∧ 1 ≤ x.2.1 ∧ x.2.1 ≤ 1000 ∧ x.2.2.1.length ≤ 1000 ∧ x.2.2.1.Sublist s.evs ∧ 0 ≤ x.2.2.2 ∧ x.2.2.2 ≤ most ∧ shrGo pf most x.1 x.2.1 x.2.2.1 x.2.2.2 = G) (fun x => [(11, (true, .i (x.2.1 : Nat)))]) (fun x => [(1, .box 29 (s.cO 0)), (2, .box 30 [.fn (.func ff) [] []]), (3, .box 3 [.i most]), (4, .box 29 [.i 0, .i 0, .i 0, .v (.slice none 0 0), .t [], .v (.slice none 0 0), .i 0, .v (.slice none 0 0), .v (.slice none 0 0)]), (5, .box 3 [.i x.2.2.2]), (6, .box 27 [.sv (.sl 3 (x.2.2.1.map SrE.c))]), (0, .rs 58 3 (s.evs.map SrE.c))]) (fun x => x.1) (shrM most (max (s.evs.length / 2) 1) 0 + 1, max (s.evs.length / 2) 1, s.evs, 0) [(3, _), (5, _), (6, _), (7, _), (9, _), (10, _)] ⟨Nat.lt_succ_self _, by dsimp only; omega, by dsimp only; omega, hel, List.Sublist.refl _, Int.le_refl _, by dsimp only; omega, hG⟩ (by repeat (first | exact trivial | refine ⟨rfl, ?_⟩)) (by repeat (first | exact trivial | refine ⟨rfl, ?_⟩)) (by repeat (first | exact trivial | refine ⟨rfl, ?_⟩)) ?_
    rintro ⟨f, n, cu, tt⟩ ⟨hmf, hn1, hn2, hcl, hsub, ht0, htm, hq⟩ ih
    dsimp only at * 
    obtain ⟨f, rfl⟩ : ∃ f2, f = f2 + 1 := ⟨f - 1, by omega⟩
    rw [shrGo] at hq
    refine .seq ?_
    refine .seq ?_
    refine .region rfl ?_
    first | refine R.loadB O27 (h := ?_) | refine R.load1 O27 (h := ?_)
    first | refine R.len S27 (h := ?_) | refine R.lenRs S27 (h := ?_) | refine R.lenV (run_lenNil S27) (h := ?_)
    rw [List.length_map]
    refine R.bin (run_gtr _ _ _ _ _ _) (h := ?_)
    refine R.move (h := ?_)
    first | refine R.loadB O3 (h := ?_) | refine R.load1 O3 (h := ?_)
    first | refine R.loadB O3 (h := ?_) | refine R.load1 O3 (h := ?_)
    refine R.bin (run_lss _ _ _ _ _ _) (h := ?_)
    refine R.and (h := ?_)
    refine .n0 ?_
    refine LGo.ifb (ht := fun hc5 => ?_) (hf := fun hc5 => ?_)
    ·
     simp only [Bool.and_eq_true, decide_eq_true_eq] at hc5
     have hcc : 0 < cu.length ∧ tt < most := by omega
     rw [if_pos hcc] at hq
     have hr := rndGo_ok pf most n (cu.length + 1) cu.length cu tt false
     have hst := fun h => shr_step pf most hn1 hcc h
     have hL := roundO_L s hcp (ff := ff) (first := []) (pf := pf) s.evs rfl hff n hn1 hn2 most (by omega) cu hcl hsub tt (by omega)
     generalize rndGo pf most n (cu.length + 1) cu.length cu tt false = rr at hq hr hst hL
     obtain ⟨cu2, tt2, kp2⟩ := rr
     dsimp only at hq hr hst hL
     refine .skip ?_
     refine .seq ?_
     refine .block ?_
     refine .seq ?_
     refine .region rfl ?_
     refine R.move (h := ?_)
     refine R.move (h := ?_)
     refine R.callX (es := [_]) (first := []) (cap := [_, _, _, _, _]) [6, 5, 3, 2, 1, 0] hL (h := ?_)
     refine R.assign (h := ?_)
     refine .n0 ?_
     refine .seq ?_
     refine .region rfl ?_
     refine R.move (h := ?_)
     refine R.not (h := ?_)
     refine R.move (h := ?_)
     refine R.move (h := ?_)
     refine R.bin (run_eql _ _ _ _ _ _) (h := ?_)
     rw [show decide ((n : Int) = 1) = decide (n = 1) from by rw [decide_eq_decide]; omega]
     refine R.and (h := ?_)
     refine .n0 ?_
     refine LGo.ifb (ht := fun hc6 => ?_) (hf := fun hc6 => ?_)
     ·
      rw [if_pos (by simpa using hc6)] at hq
      refine .exit rfl ?_
      refine .seq ?_
      refine .region rfl ?_
      first | refine R.loadA A29 (h := ?_) | refine R.loadN A29 (h := ?_) | refine R.loadP A29 (h := ?_)
      first | refine R.loadB O27 (h := ?_) | refine R.load1 O27 (h := ?_)
      refine R.callX (es := [_, _]) [0] (copied_L s hcp _) (h := ?_)
      first | refine R.loadB O3 (h := ?_) | refine R.load1 O3 (h := ?_)
      refine R.storeA A29 (h := ?_)
      refine R.storeB O3 (h := ?_)
      refine R.assign (h := ?_)
      refine Reg.nil ⟨fun _ => ⟨mixedO, by rfl, by rfl⟩, ?_⟩
      rw [← hq] at e1
      rw [← e1]
      exact LGo.ret (ret_ABT Tryz.results22 A29 O3 hA hmd)
     ·
      have hk6 : ¬ (kp2 = false ∧ n = 1) := fun h => by rw [h.1, h.2] at hc6; simp at hc6
      rw [if_neg hk6] at hq
      have hsf : shrM most (max (n / 2) 1) tt2 < f := by have := hst hk6; omega
      refine .skip ?_
      refine .inBlock ?_
      refine .region rfl ?_
      refine R.move (h := ?_)
      refine R.quo (h := ?_)
      refine R.maxI (h := ?_)
      rw [show max ((n : Int) / 2) 1 = ((max (n / 2) 1 : Nat) : Int) from by omega]
      refine R.assign (h := ?_)
      refine .n0 ?_
      refine .inLoop ?_
      exact LGo.next _ (fun o h => by have := (hA o).1 h; omega) (by omega) (ih (f, max (n / 2) 1, cu2, tt2) ⟨hsf, by dsimp only; omega, by dsimp only; omega, by have h := hr.sub.length_le; dsimp only at h ⊢; omega, hr.sub.trans hsub, by have h := hr.le; dsimp only at h ⊢; omega, hr.mx htm, hq⟩ (by dsimp only; omega)) (by repeat (first | exact trivial | refine ⟨rfl, ?_⟩)) ⟨rfl, rfl, rfl, rfl, rfl, rfl, rfl, trivial⟩
    ·
     rw [if_neg (fun h => by rw [decide_eq_true h.2, decide_eq_true (show (cu.length : Int) > 0 by omega)] at hc5; simp at hc5)] at hq
     refine .exit rfl ?_
     refine .seq ?_
     refine .region rfl ?_
     first | refine R.loadA A29 (h := ?_) | refine R.loadN A29 (h := ?_) | refine R.loadP A29 (h := ?_)
     first | refine R.loadB O27 (h := ?_) | refine R.load1 O27 (h := ?_)
     refine R.callX (es := [_, _]) [0] (copied_L s hcp _) (h := ?_)
     first | refine R.loadB O3 (h := ?_) | refine R.load1 O3 (h := ?_)
     refine R.storeA A29 (h := ?_)
     refine R.storeB O3 (h := ?_)
     refine R.assign (h := ?_)
     refine Reg.nil ⟨fun _ => ⟨mixedO, by rfl, by rfl⟩, ?_⟩
     rw [← hq] at e1
     rw [← e1]
     exact LGo.ret (ret_ABT Tryz.results22 A29 O3 hA hmd)

end Go.Proofs.YteccglgbkehdeaaGreatDoor
/- scripts: what is far; faults. -/
set_option linter.unusedSimpArgs false
set_option linter.unusedVariables false
namespace Go.Proofs.YteccglgbkehdeaaGreatDoor

def manyS (e c : Int) : Bool := (((decide (e > 100) && decide (e ≤ 1000)) || decide (e > 1100)) || (decide (c > 20) && decide (c ≤ 60))) || decide (c > 70)
def farS (s : Sc) : Bool :=
  if ((s.ven.secs.take 11).any fun x => decide ((x.name.length : Int) > 100) || decide ((x.rows.length : Int) > 20)) = true then true else
  if ((s.gates.take 11).any fun x => decide ((x.secs.length : Int) > 10)) = true then true else
  if ((s.calls.take 70).any fun x => decide ((x.raw.length : Int) > 700)) = true then true else
  ((manyS s.evs.length s.calls.length || decide ((s.ven.secs.length : Int) > 10)) || decide ((s.gates.length : Int) > 10)) || decide ((s.key.length : Int) > 200)
theorem drop_take {α : Type} {l : List α} {n k : Nat} (h : k < l.length) (hn : k < n) : (l.take n).drop k = l[k] :: (l.take n).drop (k + 1) := by
  rw [List.drop_eq_getElem_cons (by rw [List.length_take]; omega), List.getElem_take]
/-- scripts as0 they are read -/
structure Sc.ok (s : Sc) : Prop where
  n1 : R64 s.ven.shards
  n2 : R64 s.ven.ttl
  n3 : R64 s.ven.session
  vl : s.ven.secs.length ≤ maxLen
  vs : ∀ x ∈ s.ven.secs, x.name.length ≤ maxLen ∧ x.rows.length ≤ maxLen ∧ (∀ n ∈ x.rows, R64 n) ∧ R64 x.queue
  key : s.key.length ≤ maxLen
  gl : s.gates.length ≤ maxLen
  gs : ∀ x ∈ s.gates, x.ok
  w : R64 s.workers
  cl : s.calls.length ≤ maxLen
  cs : ∀ c ∈ s.calls, c.ok
  el : s.evs.length ≤ maxLen
  es : ∀ x ∈ s.evs, R64 x.kind ∧ R64 x.a ∧ R64 x.b

theorem far_P (s : Sc) (hs : s.ok) : PC Tryz.prog 12 [.agg (s.c.map LV.sv)] (.b (farS s)) := by
 refine ⟨LC.of_go Tryz.func12 (c := _) rfl (by kernel_rfl) (by rw [Tryz.ntmps12]; simp) rfl rfl (by simp [LO.lt, LV.lts, LV.lt, lts_sv]) (by simp) ?_⟩
 intro B hA hmd
 obtain ⟨g, e0⟩ : ∃ g, farS s = g := ⟨_, rfl⟩
 have e1 := e0
 unfold farS at e1
 rw [e0]
 have b1 := hs.vl
 have b2 := hs.gl
 have b3 := hs.cl
 have b4 := hs.el
 have b5 := hs.key
 unfold maxLen at b1 b2 b3 b4 b5
 refine .seq ?_
 refine .region rfl ?_
 refine R.box (h := ?_)
 refine R.assign (h := ?_)
 refine .n0 ?_
 refine .seq ?_
 refine .seq ?_
 refine .region rfl ?_
 refine R.assign (h := ?_)
 refine .n0 ?_
 refine .block ?_
 refine .loop ?_
 refine LGo.loopG (σ := Nat) (fun x => x ≤ s.ven.secs.length ∧ x ≤ 11 ∧ (if (((s.ven.secs.take 11).drop x).any fun x => decide ((x.name.length : Int) > 100) || decide ((x.rows.length : Int) > 20)) = true then true else if ((s.gates.take 11).any fun x => decide ((x.secs.length : Int) > 10)) = true then true else if ((s.calls.take 70).any fun x => decide ((x.raw.length : Int) > 700)) = true then true else ((manyS s.evs.length s.calls.length || decide ((s.ven.secs.length : Int) > 10)) || decide ((s.gates.length : Int) > 10)) || decide ((s.key.length : Int) > 200)) = g) (fun x => [(3, (true, .i (x : Nat)))]) (fun x => [(0, .box 29 (s.c.map LV.sv))]) (fun x => s.ven.secs.length - x) (0) [(1, _)] ⟨Nat.zero_le _, Nat.zero_le _, e1⟩ (by repeat (first | exact trivial | refine ⟨rfl, ?_⟩)) (by repeat (first | exact trivial | refine ⟨rfl, ?_⟩)) (by repeat (first | exact trivial | refine ⟨rfl, ?_⟩)) ?_
 rintro k ⟨hk, hk2, hq⟩ ih
 refine .seq ?_
 refine .seq ?_
 refine .region rfl ?_
 refine R.move (h := ?_)
 first | refine R.field F29_0 (h := ?_) | refine R.fieldAt F29_0 (h := ?_)
 first | refine R.field F24_3 (h := ?_) | refine R.fieldAt F24_3 (h := ?_)
 first | refine R.loadB O22 (h := ?_) | refine R.load1 O22 (h := ?_)
 first | refine R.len S22 (h := ?_) | refine R.lenRs S22 (h := ?_) | refine R.lenV (run_lenNil S22) (h := ?_)
 rw [List.length_map]
 refine R.bin (run_lss _ _ _ _ _ _) (h := ?_)
 refine R.move (h := ?_)
 refine R.move (h := ?_)
 refine R.bin (run_lss _ _ _ _ _ _) (h := ?_)
 refine R.and (h := ?_)
 refine .n0 ?_
 refine LGo.ifb (ht := fun hc => ?_) (hf := fun hc => ?_)
 ·
  have hcc := hc
  have hzs := hs.vs
  have hkn : k < s.ven.secs.length ∧ k < 11 := by simp only [Bool.and_eq_true, decide_eq_true_eq] at hcc; omega
  have hx : (s.ven.secs.map VnS.c)[((k : Nat) : Int).toNat]? = some s.ven.secs[k].c := by simp [hkn.1]
  rw [drop_take hkn.1 hkn.2, List.any_cons] at hq
  have hzok := hzs s.ven.secs[k] (List.getElem_mem hkn.1)
  generalize s.ven.secs[k] = z at hx hq hzok
  obtain ⟨z1, z2, z3, z4⟩ := hzok
  unfold maxLen at z1 z2
  refine .skip ?_
  refine .seq ?_
  refine .block ?_
  refine .seq ?_
  refine .region rfl ?_
  first | refine R.field F29_0 (h := ?_) | refine R.fieldAt F29_0 (h := ?_)
  first | refine R.field F24_3 (h := ?_) | refine R.fieldAt F24_3 (h := ?_)
  first | refine R.loadB O22 (h := ?_) | refine R.load1 O22 (h := ?_)
  refine R.move (h := ?_)
  refine R.index I22 (hj := fun hg => ⟨by omega, hx⟩) (h := ?_)
  first | refine R.field F80_0 (h := ?_) | refine R.fieldAt F80_0 (h := ?_)
  first | refine R.loadB O9 (h := ?_) | refine R.load1 O9 (h := ?_)
  refine R.lenT Tryz.runUnderlying9 (h := ?_)
  refine R.bin (run_gtr _ _ _ _ _ _) (h := ?_)
  refine R.move (h := ?_)
  first | refine R.field F29_0 (h := ?_) | refine R.fieldAt F29_0 (h := ?_)
  first | refine R.field F24_3 (h := ?_) | refine R.fieldAt F24_3 (h := ?_)
  first | refine R.loadB O22 (h := ?_) | refine R.load1 O22 (h := ?_)
  refine R.move (h := ?_)
  refine R.index I22 (hj := fun hg => ⟨by (simp at hg; omega), hx⟩) (h := ?_)
  first | refine R.field F80_1 (h := ?_) | refine R.fieldAt F80_1 (h := ?_)
  first | refine R.loadB O65 (h := ?_) | refine R.load1 O65 (h := ?_)
  first | refine R.len S65 (h := ?_) | refine R.lenRs S65 (h := ?_) | refine R.lenV (run_lenNil S65) (h := ?_)
  rw [ic_len]
  refine R.bin (run_gtr _ _ _ _ _ _) (h := ?_)
  refine R.or (h := ?_)
  refine .n0 ?_
  refine LGo.ifb (ht := fun hc2 => ?_) (hf := fun hc2 => ?_)
  ·
   rw [hc2, Bool.true_or, if_pos rfl] at hq
   rw [← hq]
   refine .seq ?_
   refine .region rfl ?_
   refine R.assign (h := ?_)
   refine .n0 ?_
   exact LGo.ret (ret_T Tryz.results12 hA hmd)
  ·
   rw [hc2, Bool.false_or] at hq
   refine .skip ?_
   refine .inBlock ?_
   refine .region rfl ?_
   refine R.move (h := ?_)
   first | refine R.add (h := ?_) | refine R.addW (h := ?_)
   refine R.assign (h := ?_)
   refine .n0 ?_
   refine .inLoop ?_
   exact LGo.next _ (fun o h => by have := (hA o).1 h; omega) (by omega) (ih (k + 1) ⟨by omega, by omega, hq⟩ (by omega)) (by repeat (first | exact trivial | refine ⟨rfl, ?_⟩)) ⟨rfl, trivial⟩
 ·
  rw [List.drop_eq_nil_of_le (show (s.ven.secs.take 11).length ≤ k by rw [List.length_take]; simp only [Bool.and_eq_false_iff, decide_eq_false_iff_not] at hc; omega), List.any_nil, if_neg (by simp)] at hq
  have e1 := hq
  clear hq
  refine .exit rfl ?_
  refine .seq ?_
  refine .seq ?_
  refine .region rfl ?_
  refine R.assign (h := ?_)
  refine .n0 ?_
  refine .block ?_
  refine .loop ?_
  refine LGo.loopG (σ := Nat) (fun x => x ≤ s.gates.length ∧ x ≤ 11 ∧ (if (((s.gates.take 11).drop x).any fun x => decide ((x.secs.length : Int) > 10)) = true then true else if ((s.calls.take 70).any fun x => decide ((x.raw.length : Int) > 700)) = true then true else ((manyS s.evs.length s.calls.length || decide ((s.ven.secs.length : Int) > 10)) || decide ((s.gates.length : Int) > 10)) || decide ((s.key.length : Int) > 200)) = g) (fun x => [(4, (true, .i (x : Nat)))]) (fun x => [(0, .box 29 (s.c.map LV.sv))]) (fun x => s.gates.length - x) (0) [(1, _)] ⟨Nat.zero_le _, Nat.zero_le _, e1⟩ (by repeat (first | exact trivial | refine ⟨rfl, ?_⟩)) (by repeat (first | exact trivial | refine ⟨rfl, ?_⟩)) (by repeat (first | exact trivial | refine ⟨rfl, ?_⟩)) ?_
  rintro k ⟨hk, hk2, hq⟩ ih2
  refine .seq ?_
  refine .seq ?_
  refine .region rfl ?_
  refine R.move (h := ?_)
  first | refine R.field F29_2 (h := ?_) | refine R.fieldAt F29_2 (h := ?_)
  first | refine R.loadB O25 (h := ?_) | refine R.load1 O25 (h := ?_)
  first | refine R.len S25 (h := ?_) | refine R.lenRs S25 (h := ?_) | refine R.lenV (run_lenNil S25) (h := ?_)
  rw [List.length_map]
  refine R.bin (run_lss _ _ _ _ _ _) (h := ?_)
  refine R.move (h := ?_)
  refine R.move (h := ?_)
  refine R.bin (run_lss _ _ _ _ _ _) (h := ?_)
  refine R.and (h := ?_)
  refine .n0 ?_
  refine LGo.ifb (ht := fun hc3 => ?_) (hf := fun hc3 => ?_)
  ·
   have hcc := hc3
   have hzs := hs.gs
   have hkn : k < s.gates.length ∧ k < 11 := by simp only [Bool.and_eq_true, decide_eq_true_eq] at hcc; omega
   have hx : (s.gates.map GtG.c)[((k : Nat) : Int).toNat]? = some s.gates[k].c := by simp [hkn.1]
   rw [drop_take hkn.1 hkn.2, List.any_cons] at hq
   have hzok := hzs s.gates[k] (List.getElem_mem hkn.1)
   generalize s.gates[k] = z at hx hq hzok
   obtain ⟨z1, _⟩ := hzok
   unfold maxLen at z1
   refine .skip ?_
   refine .seq ?_
   refine .block ?_
   refine .seq ?_
   refine .region rfl ?_
   first | refine R.field F29_2 (h := ?_) | refine R.fieldAt F29_2 (h := ?_)
   first | refine R.loadB O25 (h := ?_) | refine R.load1 O25 (h := ?_)
   refine R.move (h := ?_)
   refine R.index I25 (hj := fun hg => ⟨by omega, hx⟩) (h := ?_)
   first | refine R.field F71_0 (h := ?_) | refine R.fieldAt F71_0 (h := ?_)
   first | refine R.loadB O65 (h := ?_) | refine R.load1 O65 (h := ?_)
   first | refine R.len S65 (h := ?_) | refine R.lenRs S65 (h := ?_) | refine R.lenV (run_lenNil S65) (h := ?_)
   rw [ic_len]
   refine R.bin (run_gtr _ _ _ _ _ _) (h := ?_)
   refine .n0 ?_
   refine LGo.ifd (ht := fun hc4 => ?_) (hf := fun hc4 => ?_)
   ·
    rw [decide_eq_true hc4, Bool.true_or, if_pos rfl] at hq
    rw [← hq]
    refine .seq ?_
    refine .region rfl ?_
    refine R.assign (h := ?_)
    refine .n0 ?_
    exact LGo.ret (ret_T Tryz.results12 hA hmd)
   ·
    rw [decide_eq_false hc4, Bool.false_or] at hq
    refine .skip ?_
    refine .inBlock ?_
    refine .region rfl ?_
    refine R.move (h := ?_)
    first | refine R.add (h := ?_) | refine R.addW (h := ?_)
    refine R.assign (h := ?_)
    refine .n0 ?_
    refine .inLoop ?_
    exact LGo.next _ (fun o h => by have := (hA o).1 h; omega) (by omega) (ih2 (k + 1) ⟨by omega, by omega, hq⟩ (by omega)) (by repeat (first | exact trivial | refine ⟨rfl, ?_⟩)) ⟨rfl, trivial⟩
  ·
   rw [List.drop_eq_nil_of_le (show (s.gates.take 11).length ≤ k by rw [List.length_take]; simp only [Bool.and_eq_false_iff, decide_eq_false_iff_not] at hc3; omega), List.any_nil, if_neg (by simp)] at hq
   have e1 := hq
   clear hq
   refine .exit rfl ?_
   refine .seq ?_
   refine .seq ?_
   refine .region rfl ?_
   refine R.assign (h := ?_)
   refine .n0 ?_
   refine .block ?_
   refine .loop ?_
   refine LGo.loopG (σ := Nat) (fun x => x ≤ s.calls.length ∧ x ≤ 70 ∧ (if (((s.calls.take 70).drop x).any fun x => decide ((x.raw.length : Int) > 700)) = true then true else ((manyS s.evs.length s.calls.length || decide ((s.ven.secs.length : Int) > 10)) || decide ((s.gates.length : Int) > 10)) || decide ((s.key.length : Int) > 200)) = g) (fun x => [(5, (true, .i (x : Nat)))]) (fun x => [(0, .box 29 (s.c.map LV.sv))]) (fun x => s.calls.length - x) (0) [(1, _)] ⟨Nat.zero_le _, Nat.zero_le _, e1⟩ (by repeat (first | exact trivial | refine ⟨rfl, ?_⟩)) (by repeat (first | exact trivial | refine ⟨rfl, ?_⟩)) (by repeat (first | exact trivial | refine ⟨rfl, ?_⟩)) ?_
   rintro k ⟨hk, hk2, hq⟩ ih3
   refine .seq ?_
   refine .seq ?_
   refine .region rfl ?_
   refine R.move (h := ?_)
   first | refine R.field F29_4 (h := ?_) | refine R.fieldAt F29_4 (h := ?_)
   first | refine R.loadB O26 (h := ?_) | refine R.load1 O26 (h := ?_)
   first | refine R.len S26 (h := ?_) | refine R.lenRs S26 (h := ?_) | refine R.lenV (run_lenNil S26) (h := ?_)
   rw [List.length_map]
   refine R.bin (run_lss _ _ _ _ _ _) (h := ?_)
   refine R.move (h := ?_)
   refine R.move (h := ?_)
   refine R.bin (run_lss _ _ _ _ _ _) (h := ?_)
   refine R.and (h := ?_)
   refine .n0 ?_
   refine LGo.ifb (ht := fun hc5 => ?_) (hf := fun hc5 => ?_)
   ·
    have hcc := hc5
    have hzs := hs.cs
    have hkn : k < s.calls.length ∧ k < 70 := by simp only [Bool.and_eq_true, decide_eq_true_eq] at hcc; omega
    have hx : (s.calls.map SrC.c)[((k : Nat) : Int).toNat]? = some s.calls[k].c := by simp [hkn.1]
    rw [drop_take hkn.1 hkn.2, List.any_cons] at hq
    have hzok := hzs s.calls[k] (List.getElem_mem hkn.1)
    generalize s.calls[k] = z at hx hq hzok
    have z1 := hzok.raw
    unfold maxLen at z1
    refine .skip ?_
    refine .seq ?_
    refine .block ?_
    refine .seq ?_
    refine .region rfl ?_
    first | refine R.field F29_4 (h := ?_) | refine R.fieldAt F29_4 (h := ?_)
    first | refine R.loadB O26 (h := ?_) | refine R.load1 O26 (h := ?_)
    refine R.move (h := ?_)
    refine R.index I26 (hj := fun hg => ⟨by omega, hx⟩) (h := ?_)
    first | refine R.field F40_10 (h := ?_) | refine R.fieldAt F40_10 (h := ?_)
    first | refine R.loadB O9 (h := ?_) | refine R.load1 O9 (h := ?_)
    refine R.lenT Tryz.runUnderlying9 (h := ?_)
    refine R.bin (run_gtr _ _ _ _ _ _) (h := ?_)
    refine .n0 ?_
    refine LGo.ifd (ht := fun hc6 => ?_) (hf := fun hc6 => ?_)
    ·
     rw [decide_eq_true hc6, Bool.true_or, if_pos rfl] at hq
     rw [← hq]
     refine .seq ?_
     refine .region rfl ?_
     refine R.assign (h := ?_)
     refine .n0 ?_
     exact LGo.ret (ret_T Tryz.results12 hA hmd)
    ·
     rw [decide_eq_false hc6, Bool.false_or] at hq
     refine .skip ?_
     refine .inBlock ?_
     refine .region rfl ?_
     refine R.move (h := ?_)
     first | refine R.add (h := ?_) | refine R.addW (h := ?_)
     refine R.assign (h := ?_)
     refine .n0 ?_
     refine .inLoop ?_
     exact LGo.next _ (fun o h => by have := (hA o).1 h; omega) (by omega) (ih3 (k + 1) ⟨by omega, by omega, hq⟩ (by omega)) (by repeat (first | exact trivial | refine ⟨rfl, ?_⟩)) ⟨rfl, trivial⟩
   ·
    rw [List.drop_eq_nil_of_le (show (s.calls.take 70).length ≤ k by rw [List.length_take]; simp only [Bool.and_eq_false_iff, decide_eq_false_iff_not] at hc5; omega), List.any_nil, if_neg (by simp)] at hq
    have e1 := hq
    clear hq
    refine .exit rfl ?_
    refine .seq ?_
    refine .region rfl ?_
    first | refine R.field F29_5 (h := ?_) | refine R.fieldAt F29_5 (h := ?_)
    first | refine R.loadB O27 (h := ?_) | refine R.load1 O27 (h := ?_)
    first | refine R.len S27 (h := ?_) | refine R.lenRs S27 (h := ?_) | refine R.lenV (run_lenNil S27) (h := ?_)
    rw [List.length_map]
    refine R.bin (run_gtr _ _ _ _ _ _) (h := ?_)
    refine R.move (h := ?_)
    first | refine R.field F29_5 (h := ?_) | refine R.fieldAt F29_5 (h := ?_)
    first | refine R.loadB O27 (h := ?_) | refine R.load1 O27 (h := ?_)
    first | refine R.len S27 (h := ?_) | refine R.lenRs S27 (h := ?_) | refine R.lenV (run_lenNil S27) (h := ?_)
    rw [List.length_map]
    refine R.bin (run_leq _ _ _ _ _ _) (h := ?_)
    refine R.and (h := ?_)
    refine R.move (h := ?_)
    first | refine R.field F29_5 (h := ?_) | refine R.fieldAt F29_5 (h := ?_)
    first | refine R.loadB O27 (h := ?_) | refine R.load1 O27 (h := ?_)
    first | refine R.len S27 (h := ?_) | refine R.lenRs S27 (h := ?_) | refine R.lenV (run_lenNil S27) (h := ?_)
    rw [List.length_map]
    refine R.bin (run_gtr _ _ _ _ _ _) (h := ?_)
    refine R.or (h := ?_)
    refine R.move (h := ?_)
    first | refine R.field F29_4 (h := ?_) | refine R.fieldAt F29_4 (h := ?_)
    first | refine R.loadB O26 (h := ?_) | refine R.load1 O26 (h := ?_)
    first | refine R.len S26 (h := ?_) | refine R.lenRs S26 (h := ?_) | refine R.lenV (run_lenNil S26) (h := ?_)
    rw [List.length_map]
    refine R.bin (run_gtr _ _ _ _ _ _) (h := ?_)
    refine R.move (h := ?_)
    first | refine R.field F29_4 (h := ?_) | refine R.fieldAt F29_4 (h := ?_)
    first | refine R.loadB O26 (h := ?_) | refine R.load1 O26 (h := ?_)
    first | refine R.len S26 (h := ?_) | refine R.lenRs S26 (h := ?_) | refine R.lenV (run_lenNil S26) (h := ?_)
    rw [List.length_map]
    refine R.bin (run_leq _ _ _ _ _ _) (h := ?_)
    refine R.and (h := ?_)
    refine R.or (h := ?_)
    refine R.move (h := ?_)
    first | refine R.field F29_4 (h := ?_) | refine R.fieldAt F29_4 (h := ?_)
    first | refine R.loadB O26 (h := ?_) | refine R.load1 O26 (h := ?_)
    first | refine R.len S26 (h := ?_) | refine R.lenRs S26 (h := ?_) | refine R.lenV (run_lenNil S26) (h := ?_)
    rw [List.length_map]
    refine R.bin (run_gtr _ _ _ _ _ _) (h := ?_)
    refine R.or (h := ?_)
    refine R.assign (h := ?_)
    refine .n0 ?_
    refine .seq ?_
    refine .region rfl ?_
    refine R.move (h := ?_)
    refine R.move (h := ?_)
    first | refine R.field F29_0 (h := ?_) | refine R.fieldAt F29_0 (h := ?_)
    first | refine R.field F24_3 (h := ?_) | refine R.fieldAt F24_3 (h := ?_)
    first | refine R.loadB O22 (h := ?_) | refine R.load1 O22 (h := ?_)
    first | refine R.len S22 (h := ?_) | refine R.lenRs S22 (h := ?_) | refine R.lenV (run_lenNil S22) (h := ?_)
    rw [List.length_map]
    refine R.bin (run_gtr _ _ _ _ _ _) (h := ?_)
    refine R.or (h := ?_)
    refine R.move (h := ?_)
    first | refine R.field F29_2 (h := ?_) | refine R.fieldAt F29_2 (h := ?_)
    first | refine R.loadB O25 (h := ?_) | refine R.load1 O25 (h := ?_)
    first | refine R.len S25 (h := ?_) | refine R.lenRs S25 (h := ?_) | refine R.lenV (run_lenNil S25) (h := ?_)
    rw [List.length_map]
    refine R.bin (run_gtr _ _ _ _ _ _) (h := ?_)
    refine R.or (h := ?_)
    refine R.move (h := ?_)
    first | refine R.field F29_1 (h := ?_) | refine R.fieldAt F29_1 (h := ?_)
    first | refine R.loadB O9 (h := ?_) | refine R.load1 O9 (h := ?_)
    refine R.lenT Tryz.runUnderlying9 (h := ?_)
    refine R.bin (run_gtr _ _ _ _ _ _) (h := ?_)
    refine R.or (h := ?_)
    refine R.assign (h := ?_)
    refine .n0 ?_
    subst e1
    exact LGo.ret (ret_T Tryz.results12 hA hmd)

/-- scripts that are not far -/
structure Sc.near (s : Sc) : Prop where
  vl : s.ven.secs.length ≤ 10
  vs : ∀ x ∈ s.ven.secs, x.name.length ≤ 100 ∧ x.rows.length ≤ 20
  gl : s.gates.length ≤ 10
  gs : ∀ x ∈ s.gates, x.secs.length ≤ 10
  key : s.key.length ≤ 200
  cl : s.calls.length ≤ 20 ∨ 61 ≤ s.calls.length ∧ s.calls.length ≤ 70
  cs : ∀ c ∈ s.calls, c.raw.length ≤ 700
  el : s.evs.length ≤ 100 ∨ 1001 ≤ s.evs.length ∧ s.evs.length ≤ 1100
theorem far_near {s : Sc} (h : farS s = false) : s.near := by
  unfold farS at h
  split at h
  · cases h
  rename_i h1
  split at h
  · cases h
  rename_i h2
  split at h
  · cases h
  rename_i h3
  unfold manyS at h
  simp only [Bool.or_eq_false_iff, Bool.and_eq_false_iff, decide_eq_false_iff_not] at h
  obtain ⟨⟨⟨⟨⟨⟨h4, h5⟩, h6⟩, h7⟩, h8⟩, h9⟩, h10⟩ := h
  simp only [List.any_eq_true, not_exists, not_and, Bool.not_eq_true, Bool.or_eq_false_iff, decide_eq_false_iff_not] at h1 h2 h3
  rw [List.take_of_length_le (by omega)] at h1 h2 h3
  refine ⟨by omega, fun x hx => ?_, by omega, fun x hx => ?_, by omega, by omega, fun x hx => ?_, by omega⟩
  · have := h1 x hx; omega
  · have := h2 x hx; omega
  · have := h3 x hx; omega
theorem Sc.ok.sm {s : Sc} (h : s.ok) (hn : s.near) : s.sm := by
  have h1 := h.key
  have h2 := h.cl
  have h3 := h.el
  exact ⟨⟨by have := hn.vl; omega, fun x hx => by have := (hn.vs x hx).1; omega⟩, by have := hn.gl; omega, fun x hx => by have := hn.gs x hx; omega, h1, h2, h.cs, h3⟩
theorem Sc.near.cp {s : Sc} (hn : s.near) : s.cp :=
  ⟨by have := hn.vl; omega, fun x hx => by have := (hn.vs x hx).2; omega, by have := hn.gl; omega, fun x hx => by have := hn.gs x hx; omega, by have := hn.cl; omega⟩
theorem bytes_getD {l : List UInt8} {k : Nat} (h : k < l.length) : (bytesC l)[((k : Nat) : Int).toNat]? = some [.val (.int .u8 ((l.getD k 0).toNat : Int))] := by
  rw [Int.toNat_natCast, bytesC, List.getElem?_map, List.getElem?_eq_getElem h, List.getD_eq_getElem?_getD, List.getElem?_eq_getElem h]
  rfl
end Go.Proofs.YteccglgbkehdeaaGreatDoor
/- How arguments are read: scripts, what is asked, faults. -/
set_option linter.unusedSimpArgs false
set_option linter.unusedVariables false
namespace Go.Proofs.YteccglgbkehdeaaGreatDoor

section
open Go.ChangeShapes Go.WideShapes Go.Deep Go.RowKit Go.ChangeAt
variable {H : Type} {enc : TypeId × Value → H} {w : World}
theorem map_of_all {α β : Type} {c : α → β} {Q : α → Prop} : ∀ {xs : List β}, (∀ x ∈ xs, ∃ a, x = c a ∧ Q a) → ∃ l : List α, xs = l.map c ∧ ∀ a ∈ l, Q a
  | [], _ => ⟨[], rfl, by simp⟩
  | x :: xs, h => by
    obtain ⟨a, rfl, ha⟩ := h x (by simp)
    obtain ⟨l, rfl, hl⟩ := map_of_all (xs := xs) (fun y hy => h y (by simp [hy]))
    exact ⟨a :: l, rfl, by simpa using ⟨ha, hl⟩⟩
theorem rd_ints : Rd enc Tryz.prog w 65 (fun ss => ∃ l : List Int, ss = [.sl 1 (ic .i64 l)] ∧ l.length ≤ maxLen ∧ ∀ n ∈ l, R64 n) :=
  (Rd.slice Tryz.underlying65 (sz := 1) (by kernel_rfl) (by decide) (Rd.int Tryz.underlying3)).mono fun ss ⟨s, h1, xs, h2, h3, h4⟩ => by
    obtain ⟨l, rfl, hl⟩ := map_of_all (c := fun n : Int => [SV.val (.int .i64 n)]) (Q := R64) (fun x hx => by
      obtain ⟨⟨s, rfl, n, rfl, h5, h6⟩, _⟩ := h4 x hx
      exact ⟨n, rfl, Int.le_trans (by decide) h5, Int.le_trans h6 (by decide)⟩)
    exact ⟨l, by rw [h1, h2]; rfl, by simpa using h3, hl⟩
theorem rd_bytes0 : Rd enc Tryz.prog w 44 (fun ss => ∃ l : List UInt8, ss = [.sl 1 (bytesC l)] ∧ l.length ≤ maxLen) :=
  (Rd.slice Tryz.underlying44 (sz := 1) (by kernel_rfl) (by decide) (Rd.int Tryz.underlying5)).mono fun ss ⟨s, h1, xs, h2, h3, h4⟩ => by
    obtain ⟨l, rfl, hl⟩ := map_of_all (c := fun b : UInt8 => [SV.val (.int .u8 (b.toNat : Int))]) (Q := fun _ => True) (fun x hx => by
      obtain ⟨⟨s, rfl, n, rfl, h5, h6⟩, _⟩ := h4 x hx
      exact ⟨byt n, by rw [byt_toNat n h5 (Int.lt_of_le_of_lt h6 (by decide))], trivial⟩)
    exact ⟨l, by rw [h1, h2]; rfl, by simpa using h3⟩
theorem rd_bytes : Rd enc Tryz.prog w 44 (fun ss => ∃ s, ss = [s] ∧ ∃ l : List UInt8, s = .sl 1 (bytesC l) ∧ l.length ≤ maxLen) :=
  rd_bytes0.mono fun ss ⟨l, h1, h2⟩ => ⟨_, h1, l, rfl, h2⟩

theorem rd_Ca : Rd enc Tryz.prog w 40 (fun ss => ∃ x : SrC, ss = x.c ∧ x.ok) := by
  refine (Rd.struct (S := fun j s => match j with
    | 0 => ∃ n, s = .val (.int .i64 n) ∧ (-9223372036854775808 ≤ n ∧ n ≤ 9223372036854775807)
    | 1 => ∃ n, s = .val (.int .u32 n) ∧ (0 ≤ n ∧ n < 4294967296)
    | 2 => ∃ n, s = .val (.int .u32 n) ∧ (0 ≤ n ∧ n < 4294967296)
    | 3 => ∃ n, s = .val (.int .i64 n) ∧ (-9223372036854775808 ≤ n ∧ n ≤ 9223372036854775807)
    | 4 => ∃ n, s = .val (.int .i64 n) ∧ (-9223372036854775808 ≤ n ∧ n ≤ 9223372036854775807)
    | 5 => ∃ n, s = .val (.int .i64 n) ∧ (-9223372036854775808 ≤ n ∧ n ≤ 9223372036854775807)
    | 6 => ∃ n, s = .val (.int .i64 n) ∧ (-9223372036854775808 ≤ n ∧ n ≤ 9223372036854775807)
    | 7 => ∃ n, s = .val (.int .i64 n) ∧ (-9223372036854775808 ≤ n ∧ n ≤ 9223372036854775807)
    | 8 => ∃ n, s = .val (.int .i64 n) ∧ (-9223372036854775808 ≤ n ∧ n ≤ 9223372036854775807)
    | 9 => ∃ n, s = .val (.int .i64 n) ∧ (-9223372036854775808 ≤ n ∧ n ≤ 9223372036854775807)
    | _ => ∃ l : List UInt8, s = .val (.string ⟨l.toArray⟩) ∧ l.length ≤ maxLen) Tryz.underlying40 (by kernel_rfl) (by kernel_rfl) (fun j f hj => ?_)).mono ?_
  · match j, hj with
    | 0, hj => cases hj; exact (Rd.int Tryz.underlying3).mono (fun ss ⟨s, h, n, h1, h2, h3⟩ => ⟨s, h, n, h1, Int.le_trans (by decide) h2, Int.le_trans h3 (by decide)⟩)
    | 1, hj => cases hj; exact (Rd.int Tryz.underlying38).mono (fun ss ⟨s, h, n, h1, h2, h3⟩ => ⟨s, h, n, h1, Int.le_trans (by decide) h2, Int.lt_of_le_of_lt h3 (by decide)⟩)
    | 2, hj => cases hj; exact (Rd.int Tryz.underlying38).mono (fun ss ⟨s, h, n, h1, h2, h3⟩ => ⟨s, h, n, h1, Int.le_trans (by decide) h2, Int.lt_of_le_of_lt h3 (by decide)⟩)
    | 3, hj => cases hj; exact (Rd.int Tryz.underlying3).mono (fun ss ⟨s, h, n, h1, h2, h3⟩ => ⟨s, h, n, h1, Int.le_trans (by decide) h2, Int.le_trans h3 (by decide)⟩)
    | 4, hj => cases hj; exact (Rd.int Tryz.underlying3).mono (fun ss ⟨s, h, n, h1, h2, h3⟩ => ⟨s, h, n, h1, Int.le_trans (by decide) h2, Int.le_trans h3 (by decide)⟩)
    | 5, hj => cases hj; exact (Rd.int Tryz.underlying3).mono (fun ss ⟨s, h, n, h1, h2, h3⟩ => ⟨s, h, n, h1, Int.le_trans (by decide) h2, Int.le_trans h3 (by decide)⟩)
    | 6, hj => cases hj; exact (Rd.int Tryz.underlying3).mono (fun ss ⟨s, h, n, h1, h2, h3⟩ => ⟨s, h, n, h1, Int.le_trans (by decide) h2, Int.le_trans h3 (by decide)⟩)
    | 7, hj => cases hj; exact (Rd.int Tryz.underlying3).mono (fun ss ⟨s, h, n, h1, h2, h3⟩ => ⟨s, h, n, h1, Int.le_trans (by decide) h2, Int.le_trans h3 (by decide)⟩)
    | 8, hj => cases hj; exact (Rd.int Tryz.underlying3).mono (fun ss ⟨s, h, n, h1, h2, h3⟩ => ⟨s, h, n, h1, Int.le_trans (by decide) h2, Int.le_trans h3 (by decide)⟩)
    | 9, hj => cases hj; exact (Rd.int Tryz.underlying3).mono (fun ss ⟨s, h, n, h1, h2, h3⟩ => ⟨s, h, n, h1, Int.le_trans (by decide) h2, Int.le_trans h3 (by decide)⟩)
    | 10, hj => cases hj; exact Rd.string Tryz.underlying9
    | j + 11, hj => simp at hj
  · rintro ss ⟨hl, h⟩
    match ss, hl with
    | [a0, a1, a2, a3, a4, a5, a6, a7, a8, a9, a10], _ =>
      obtain ⟨n0, rfl, h0⟩ := h 0 a0 rfl
      obtain ⟨n1, rfl, h1⟩ := h 1 a1 rfl
      obtain ⟨n2, rfl, h2⟩ := h 2 a2 rfl
      obtain ⟨n3, rfl, h3⟩ := h 3 a3 rfl
      obtain ⟨n4, rfl, h4⟩ := h 4 a4 rfl
      obtain ⟨n5, rfl, h5⟩ := h 5 a5 rfl
      obtain ⟨n6, rfl, h6⟩ := h 6 a6 rfl
      obtain ⟨n7, rfl, h7⟩ := h 7 a7 rfl
      obtain ⟨n8, rfl, h8⟩ := h 8 a8 rfl
      obtain ⟨n9, rfl, h9⟩ := h 9 a9 rfl
      obtain ⟨n10, rfl, h10⟩ := h 10 a10 rfl
      exact ⟨⟨n0, n1, n2, n3, n4, n5, n6, n7, n8, n9, n10⟩, rfl, ⟨h0, h1, h2, h3, h4, h5, h6, h7, h8, h9, h10⟩⟩
theorem rd_Ev : Rd enc Tryz.prog w 58 (fun ss => ∃ x : SrE, ss = x.c ∧ (R64 x.kind ∧ R64 x.a ∧ R64 x.b)) := by
  refine (Rd.struct (S := fun j s => match j with
    | 0 => ∃ n, s = .val (.int .i64 n) ∧ (-9223372036854775808 ≤ n ∧ n ≤ 9223372036854775807)
    | 1 => ∃ n, s = .val (.int .i64 n) ∧ (-9223372036854775808 ≤ n ∧ n ≤ 9223372036854775807)
    | _ => ∃ n, s = .val (.int .i64 n) ∧ (-9223372036854775808 ≤ n ∧ n ≤ 9223372036854775807)) Tryz.underlying58 (by kernel_rfl) (by kernel_rfl) (fun j f hj => ?_)).mono ?_
  · match j, hj with
    | 0, hj => cases hj; exact (Rd.int Tryz.underlying3).mono (fun ss ⟨s, h, n, h1, h2, h3⟩ => ⟨s, h, n, h1, Int.le_trans (by decide) h2, Int.le_trans h3 (by decide)⟩)
    | 1, hj => cases hj; exact (Rd.int Tryz.underlying2).mono (fun ss ⟨s, h, n, h1, h2, h3⟩ => ⟨s, h, n, h1, Int.le_trans (by decide) h2, Int.le_trans h3 (by decide)⟩)
    | 2, hj => cases hj; exact (Rd.int Tryz.underlying2).mono (fun ss ⟨s, h, n, h1, h2, h3⟩ => ⟨s, h, n, h1, Int.le_trans (by decide) h2, Int.le_trans h3 (by decide)⟩)
    | j + 3, hj => simp at hj
  · rintro ss ⟨hl, h⟩
    match ss, hl with
    | [a0, a1, a2], _ =>
      obtain ⟨n0, rfl, h0⟩ := h 0 a0 rfl
      obtain ⟨n1, rfl, h1⟩ := h 1 a1 rfl
      obtain ⟨n2, rfl, h2⟩ := h 2 a2 rfl
      exact ⟨⟨n0, n1, n2⟩, rfl, h0, h1, h2⟩
theorem rd_Vs : Rd enc Tryz.prog w 80 (fun ss => ∃ x : VnS, ss = x.c ∧ (x.name.length ≤ maxLen ∧ x.rows.length ≤ maxLen ∧ (∀ n ∈ x.rows, R64 n) ∧ R64 x.queue)) := by
  refine (Rd.struct2 (S := fun j ss => match j with
    | 0 => ∃ l : List UInt8, ss = [SV.val (.string ⟨l.toArray⟩)] ∧ l.length ≤ maxLen
    | 1 => ∃ l : List Int, ss = [.sl 1 (ic .i64 l)] ∧ l.length ≤ maxLen ∧ ∀ n ∈ l, R64 n
    | _ => ∃ n, ss = [SV.val (.int .i64 n)] ∧ R64 n) Tryz.underlying80 (by kernel_rfl) (fun j f hj => ?_)).mono ?_
  · match j, hj with
    | 0, hj => cases hj; exact (Rd.string Tryz.underlying9).mono (fun ss ⟨s, h, l, h1, h2⟩ => ⟨l, by rw [h, h1], h2⟩)
    | 1, hj => cases hj; exact rd_ints
    | 2, hj => cases hj; exact (Rd.int Tryz.underlying3).mono (fun ss ⟨s, h, n, h1, h2, h3⟩ => ⟨n, by rw [h, h1], Int.le_trans (by decide) h2, Int.le_trans h3 (by decide)⟩)
    | j + 3, hj => simp at hj
  · rintro ss ⟨parts, hl, rfl, h⟩
    match parts, hl with
    | [a0, a1, a2], _ =>
      obtain ⟨l, rfl, h0⟩ := h 0 a0 rfl
      obtain ⟨m, rfl, h1, h2⟩ := h 1 a1 rfl
      obtain ⟨n, rfl, h3⟩ := h 2 a2 rfl
      exact ⟨⟨l, m, n⟩, rfl, h0, h1, h2, h3⟩
theorem rd_Vss : Rd enc Tryz.prog w 22 (fun ss => ∃ l : List VnS, ss = [.sl 3 (l.map VnS.c)] ∧ l.length ≤ maxLen ∧ ∀ x ∈ l, x.name.length ≤ maxLen ∧ x.rows.length ≤ maxLen ∧ (∀ n ∈ x.rows, R64 n) ∧ R64 x.queue) :=
  (Rd.slice Tryz.underlying22 (sz := 3) (by kernel_rfl) (by decide) rd_Vs).mono fun ss ⟨s, h1, xs, h2, h3, h4⟩ => by
    obtain ⟨l, rfl, hl⟩ := map_of_all (c := VnS.c) (Q := fun x => x.name.length ≤ maxLen ∧ x.rows.length ≤ maxLen ∧ (∀ n ∈ x.rows, R64 n) ∧ R64 x.queue) (fun x hx => (h4 x hx).1)
    exact ⟨l, by rw [h1, h2], by simpa using h3, hl⟩
theorem rd_Ga : Rd enc Tryz.prog w 71 (fun ss => ∃ x : GtG, ss = x.c ∧ x.ok) := by
  refine (Rd.struct2 (S := fun j ss => match j with
    | 0 => ∃ l : List Int, ss = [.sl 1 (ic .i64 l)] ∧ l.length ≤ maxLen ∧ ∀ n ∈ l, R64 n
    | 1 => ∃ n, ss = [SV.val (.int .i64 n)] ∧ R64 n
    | _ => ∃ n, ss = [SV.val (.int .i64 n)] ∧ R64 n) Tryz.underlying71 (by kernel_rfl) (fun j f hj => ?_)).mono ?_
  · match j, hj with
    | 0, hj => cases hj; exact rd_ints
    | 1, hj => cases hj; exact (Rd.int Tryz.underlying2).mono (fun ss ⟨s, h, n, h1, h2, h3⟩ => ⟨n, by rw [h, h1], Int.le_trans (by decide) h2, Int.le_trans h3 (by decide)⟩)
    | 2, hj => cases hj; exact (Rd.int Tryz.underlying2).mono (fun ss ⟨s, h, n, h1, h2, h3⟩ => ⟨n, by rw [h, h1], Int.le_trans (by decide) h2, Int.le_trans h3 (by decide)⟩)
    | j + 3, hj => simp at hj
  · rintro ss ⟨parts, hl, rfl, h⟩
    match parts, hl with
    | [a0, a1, a2], _ =>
      obtain ⟨l, rfl, h0, h1⟩ := h 0 a0 rfl
      obtain ⟨n, rfl, h2⟩ := h 1 a1 rfl
      obtain ⟨m, rfl, h3⟩ := h 2 a2 rfl
      exact ⟨⟨l, n, m⟩, rfl, h0, h1, h2, h3⟩
theorem rd_Gas : Rd enc Tryz.prog w 25 (fun ss => ∃ l : List GtG, ss = [.sl 3 (l.map GtG.c)] ∧ l.length ≤ maxLen ∧ ∀ x ∈ l, x.ok) :=
  (Rd.slice Tryz.underlying25 (sz := 3) (by kernel_rfl) (by decide) rd_Ga).mono fun ss ⟨s, h1, xs, h2, h3, h4⟩ => by
    obtain ⟨l, rfl, hl⟩ := map_of_all (c := GtG.c) (Q := fun x => x.ok) (fun x hx => (h4 x hx).1)
    exact ⟨l, by rw [h1, h2], by simpa using h3, hl⟩
theorem rd_Cas : Rd enc Tryz.prog w 26 (fun ss => ∃ l : List SrC, ss = [.sl 11 (l.map SrC.c)] ∧ l.length ≤ maxLen ∧ ∀ x ∈ l, x.ok) :=
  (Rd.slice Tryz.underlying26 (sz := 11) (by kernel_rfl) (by decide) rd_Ca).mono fun ss ⟨s, h1, xs, h2, h3, h4⟩ => by
    obtain ⟨l, rfl, hl⟩ := map_of_all (c := SrC.c) (Q := fun x => x.ok) (fun x hx => (h4 x hx).1)
    exact ⟨l, by rw [h1, h2], by simpa using h3, hl⟩
theorem rd_Evs : Rd enc Tryz.prog w 27 (fun ss => ∃ l : List SrE, ss = [.sl 3 (l.map SrE.c)] ∧ l.length ≤ maxLen ∧ ∀ x ∈ l, R64 x.kind ∧ R64 x.a ∧ R64 x.b) :=
  (Rd.slice Tryz.underlying27 (sz := 3) (by kernel_rfl) (by decide) rd_Ev).mono fun ss ⟨s, h1, xs, h2, h3, h4⟩ => by
    obtain ⟨l, rfl, hl⟩ := map_of_all (c := SrE.c) (Q := fun x => R64 x.kind ∧ R64 x.a ∧ R64 x.b) (fun x hx => (h4 x hx).1)
    exact ⟨l, by rw [h1, h2], by simpa using h3, hl⟩
theorem rd_Ve : Rd enc Tryz.prog w 24 (fun ss => ∃ v : Ven, ss = v.c ∧ (R64 v.shards ∧ R64 v.ttl ∧ R64 v.session ∧ v.secs.length ≤ maxLen ∧ ∀ x ∈ v.secs, x.name.length ≤ maxLen ∧ x.rows.length ≤ maxLen ∧ (∀ n ∈ x.rows, R64 n) ∧ R64 x.queue)) := by
  refine (Rd.struct2 (S := fun j ss => match j with
    | 0 => ∃ n, ss = [SV.val (.int .i64 n)] ∧ R64 n
    | 1 => ∃ n, ss = [SV.val (.int .i64 n)] ∧ R64 n
    | 2 => ∃ n, ss = [SV.val (.int .i64 n)] ∧ R64 n
    | _ => ∃ l : List VnS, ss = [.sl 3 (l.map VnS.c)] ∧ l.length ≤ maxLen ∧ ∀ x ∈ l, x.name.length ≤ maxLen ∧ x.rows.length ≤ maxLen ∧ (∀ n ∈ x.rows, R64 n) ∧ R64 x.queue) Tryz.underlying24 (by kernel_rfl) (fun j f hj => ?_)).mono ?_
  · match j, hj with
    | 0, hj => cases hj; exact (Rd.int Tryz.underlying3).mono (fun ss ⟨s, h, n, h1, h2, h3⟩ => ⟨n, by rw [h, h1], Int.le_trans (by decide) h2, Int.le_trans h3 (by decide)⟩)
    | 1, hj => cases hj; exact (Rd.int Tryz.underlying2).mono (fun ss ⟨s, h, n, h1, h2, h3⟩ => ⟨n, by rw [h, h1], Int.le_trans (by decide) h2, Int.le_trans h3 (by decide)⟩)
    | 2, hj => cases hj; exact (Rd.int Tryz.underlying2).mono (fun ss ⟨s, h, n, h1, h2, h3⟩ => ⟨n, by rw [h, h1], Int.le_trans (by decide) h2, Int.le_trans h3 (by decide)⟩)
    | 3, hj => cases hj; exact rd_Vss
    | j + 4, hj => simp at hj
  · rintro ss ⟨parts, hl, rfl, h⟩
    match parts, hl with
    | [a0, a1, a2, a3], _ =>
      obtain ⟨n, rfl, h0⟩ := h 0 a0 rfl
      obtain ⟨m, rfl, h1⟩ := h 1 a1 rfl
      obtain ⟨k, rfl, h2⟩ := h 2 a2 rfl
      obtain ⟨l, rfl, h3, h4⟩ := h 3 a3 rfl
      exact ⟨⟨n, m, k, l⟩, rfl, h0, h1, h2, h3, h4⟩
theorem rd_Sc : Rd enc Tryz.prog w 29 (fun ss => ∃ x : Sc, ss = x.c ∧ x.ok) := by
  refine (Rd.struct2 (S := fun j ss => match j with
    | 0 => ∃ v : Ven, ss = v.c ∧ (R64 v.shards ∧ R64 v.ttl ∧ R64 v.session ∧ v.secs.length ≤ maxLen ∧ ∀ x ∈ v.secs, x.name.length ≤ maxLen ∧ x.rows.length ≤ maxLen ∧ (∀ n ∈ x.rows, R64 n) ∧ R64 x.queue)
    | 1 => ∃ l : List UInt8, ss = [SV.val (.string ⟨l.toArray⟩)] ∧ l.length ≤ maxLen
    | 2 => ∃ l : List GtG, ss = [.sl 3 (l.map GtG.c)] ∧ l.length ≤ maxLen ∧ ∀ x ∈ l, x.ok
    | 3 => ∃ n, ss = [SV.val (.int .i64 n)] ∧ R64 n
    | 4 => ∃ l : List SrC, ss = [.sl 11 (l.map SrC.c)] ∧ l.length ≤ maxLen ∧ ∀ x ∈ l, x.ok
    | _ => ∃ l : List SrE, ss = [.sl 3 (l.map SrE.c)] ∧ l.length ≤ maxLen ∧ ∀ x ∈ l, R64 x.kind ∧ R64 x.a ∧ R64 x.b) Tryz.underlying29 (by kernel_rfl) (fun j f hj => ?_)).mono ?_
  · match j, hj with
    | 0, hj => cases hj; exact rd_Ve
    | 1, hj => cases hj; exact (Rd.string Tryz.underlying9).mono (fun ss ⟨s, h, l, h1, h2⟩ => ⟨l, by rw [h, h1], h2⟩)
    | 2, hj => cases hj; exact rd_Gas
    | 3, hj => cases hj; exact (Rd.int Tryz.underlying3).mono (fun ss ⟨s, h, n, h1, h2, h3⟩ => ⟨n, by rw [h, h1], Int.le_trans (by decide) h2, Int.le_trans h3 (by decide)⟩)
    | 4, hj => cases hj; exact rd_Cas
    | 5, hj => cases hj; exact rd_Evs
    | j + 6, hj => simp at hj
  · rintro ss ⟨parts, hl, rfl, h⟩
    match parts, hl with
    | [a0, a1, a2, a3, a4, a5], _ =>
      obtain ⟨v, rfl, h0, h1, h2, h3, h4⟩ := h 0 a0 rfl
      obtain ⟨k, rfl, h5⟩ := h 1 a1 rfl
      obtain ⟨g, rfl, h6, h7⟩ := h 2 a2 rfl
      obtain ⟨n, rfl, h8⟩ := h 3 a3 rfl
      obtain ⟨c, rfl, h9, h10⟩ := h 4 a4 rfl
      obtain ⟨e, rfl, h11, h12⟩ := h 5 a5 rfl
      exact ⟨⟨v, k, g, n, c, e⟩, rfl, ⟨h0, h1, h2, h3, h4, h5, h6, h7, h8, h9, h10, h11, h12⟩⟩
end
end Go.Proofs.YteccglgbkehdeaaGreatDoor
/- scripts: the law's own check. -/
set_option linter.unusedSimpArgs false
set_option linter.unusedVariables false
namespace Go.Proofs.YteccglgbkehdeaaGreatDoor

theorem exSc_sm : exSc.sm := by
  refine ⟨⟨by decide, by decide⟩, by decide, by decide, by decide, by decide, fun c hc => ?_, by decide⟩
  simp only [exSc, List.mem_cons, List.not_mem_nil, or_false] at hc
  rcases hc with rfl | rfl
  · refine ⟨?_, ?_, ?_, ?_, ?_, ?_, ?_, ?_, ?_, ?_, ?_⟩ <;> first | (unfold R64; decide) | decide
  · refine ⟨?_, ?_, ?_, ?_, ?_, ?_, ?_, ?_, ?_, ?_, ?_⟩ <;> first | (unfold R64; decide) | decide
def exEvs2 : List SrE := [⟨1, 0, 1⟩, ⟨1, 0, 2⟩, ⟨4, 5, 0⟩, ⟨2, 0, 0⟩]
def exSc2 : Sc := { exSc with evs := exEvs2 }
theorem exSc2_sm : exSc2.sm := ⟨exSc_sm.ven, exSc_sm.gl, exSc_sm.gs, exSc_sm.key, exSc_sm.cl, exSc_sm.cs, by decide⟩
theorem exSc_cp : exSc.cp := ⟨by decide, by decide, by decide, by decide, by decide⟩
def tickL (l : List SrE) : Bool := l.any fun x => decide (x.kind = 4)
def exC1 : SrC := ⟨1, 7, 0, 0, 0, 0, 0, 0, 0, 0, []⟩
theorem exC1_ok : exC1.ok := exSc_sm.cs _ (by simp [exSc, exC1])
theorem ex_size : sizeS exSc = ((4, 1, 2, 5), 0) := by decide +kernel
theorem ex_shrink : shrinkS tickL exSc 100 = ({ exSc with evs := [⟨4, 5, 0⟩] }, 5, 0) := by decide +kernel
theorem ex_pay : payS exC1 9 [] [] = ([1, 1, 1, 9, 2, 1, 7], 0) := by decide +kernel
theorem ex_check2 : checkS exSc2 = ([101, 118, 101, 110, 116, 32, 49], 8) := by
  have h : Lib.itoa 1 = [49] := by unfold Lib.itoa; rw [if_neg (by decide)]; rw [Lib.decDigits]; decide
  have h1 : ∀ k ks l, chkGo exSc2 k ks l = chkGo exSc2 k ks l := fun _ _ _ => rfl
  have h2 : (baseS exSc2).2 = 0 := by decide +kernel
  have e0 : evT exSc2 [] ⟨1, 0, 1⟩ = 0 := by decide +kernel
  have e1 : evT exSc2 [0] ⟨1, 0, 2⟩ = 8 := by decide +kernel
  unfold checkS
  rw [if_neg (by simp [h2]), if_neg (by decide)]
  show chkGo exSc2 0 [] exEvs2 = _
  unfold exEvs2
  rw [chkGo, if_neg (by simp [e0]), chkGo]
  show (if evT exSc2 [0] ⟨1, 0, 2⟩ ≠ 0 then (partT [101, 118, 101, 110, 116] ((0 + 1 : Nat) : Int), evT exSc2 [0] ⟨1, 0, 2⟩) else _) = _
  rw [e1, if_pos (by decide)]
  unfold partT
  rw [show (((0 + 1 : Nat)) : Int) = 1 from rfl, h]
  rfl

theorem awake_P : PC Tryz.prog 13 [] (.b true) := by
 refine ⟨LC.of_go Tryz.func13 (c := _) rfl (by kernel_rfl) (by rw [Tryz.ntmps13]; simp) rfl rfl (by simp [LO.lt, LV.lts, LV.lt, lts_sv]) (by simp) ?_⟩
 intro B hA hmd
 refine .seq ?_
 refine .region rfl ?_
 refine R.assign (h := ?_)
 refine .n0 ?_
 refine .seq ?_
 refine .region rfl ?_
 refine R.callX (es := []) [] exSc_L (h := ?_)
 refine R.alloc Z29 (h := ?_)
 refine R.storeA A29 (h := ?_)
 refine .n0 ?_
 refine .seq ?_
 refine .region rfl ?_
 first | refine R.loadA A29 (h := ?_) | refine R.loadN A29 (h := ?_) | refine R.loadP A29 (h := ?_)
 refine R.callVA (es := [_]) (lvs := [.agg (exSc.c.map LV.sv)]) (rd := [(0, .rs 58 3 (exEvs.map SrE.c))]) (fun _ => sizeS_P exSc exSc_sm) (hrd := oneL rfl) (h := ?_)
 rw [ex_size]
 refine R.move (h := ?_)
 refine R.extract (h := ?_)
 refine R.extract (h := ?_)
 refine R.alloc Z62 (h := ?_)
 refine R.storeA A62 (h := ?_)
 refine R.assign (h := ?_)
 refine .n0 ?_
 refine .seq ?_
 refine .region rfl ?_
 first | refine R.loadA A29 (h := ?_) | refine R.loadN A29 (h := ?_) | refine R.loadP A29 (h := ?_)
 refine R.callX (es := [_, _, _]) [0] (shrinkO_L exSc exSc_sm exSc_cp (ff := 38) (pf := tickL) (by decide) (fun _ es hes => ticks_P { exSc with evs := es } (by have := hes.length_le; have h4 : exSc.evs.length = 4 := rfl; unfold maxLen; dsimp only; omega)) 100 (by unfold R64; decide)) (h := ?_)
 rw [ex_shrink]
 refine R.move (h := ?_)
 refine R.extract (h := ?_)
 refine R.extract (h := ?_)
 refine R.extract (h := ?_)
 refine R.alloc Z29 (h := ?_)
 refine R.storeA A29 (h := ?_)
 refine R.assign (h := ?_)
 refine R.assign (h := ?_)
 refine .n0 ?_
 refine .seq ?_
 refine .region rfl ?_
 first | refine R.field F29_4 (h := ?_) | refine R.fieldAt F29_4 (h := ?_)
 first | refine R.loadB O26 (h := ?_) | refine R.load1 O26 (h := ?_)
 refine R.index I26 (hj := fun hg => ⟨by omega, rfl⟩) (h := ?_)
 first | refine R.loadA A40 (h := ?_) | refine R.loadN A40 (h := ?_) | refine R.loadP A40 (h := ?_)
 refine R.callP (es := [_, _, _, _]) (fun _ => payS_P exC1 exC1_ok 9 (by decide) [] [] (Nat.zero_le _) (Nat.zero_le _)) (h := ?_)
 rw [ex_pay]
 refine R.move (h := ?_)
 refine R.extract (h := ?_)
 refine R.extract (h := ?_)
 refine R.assign (h := ?_)
 refine R.assign (h := ?_)
 refine .n0 ?_
 refine .seq ?_
 refine .region rfl ?_
 first | refine R.field F29_5 (h := ?_) | refine R.fieldAt F29_5 (h := ?_)
 first | refine R.loadB O27 (h := ?_) | refine R.load1 O27 (h := ?_)
 refine R.build BF58 (is := [0, 2]) (xs := [_, _]) (es := [_, _]) (h := ?_)
 refine R.indexRs I27 (hj := fun _ => ⟨by decide, by decide⟩) (h := ?_)
 refine R.storeRsN A58 1 (SrE.c ⟨1, 0, 2⟩) (h1 := rfl) (hj := by decide) (h := ?_)
 refine .n0 ?_
 refine .seq ?_
 refine .region rfl ?_
 first | refine R.loadA A29 (h := ?_) | refine R.loadN A29 (h := ?_) | refine R.loadP A29 (h := ?_)
 refine R.callVA (es := [_]) (lvs := [.agg (exSc2.c.map LV.sv)]) (rd := [(0, .rs 58 3 (exEvs2.map SrE.c))]) (fun _ => checkS_P exSc2 exSc2_sm) (hrd := oneL rfl) (h := ?_)
 rw [ex_check2]
 refine R.move (h := ?_)
 refine R.extract (h := ?_)
 refine R.extract (h := ?_)
 refine R.assign (h := ?_)
 refine R.assign (h := ?_)
 refine .n0 ?_
 refine .seq ?_
 refine .region rfl ?_
 refine R.move (h := ?_)
 refine R.bin (run_eql _ _ _ _ _ _) (h := ?_)
 refine R.move (h := ?_)
 refine R.move (h := ?_)
 refine R.bin (run_eql _ _ _ _ _ _) (h := ?_)
 refine R.and (h := ?_)
 refine R.move (h := ?_)
 refine R.move (h := ?_)
 refine R.bin (run_eql _ _ _ _ _ _) (h := ?_)
 refine R.and (h := ?_)
 refine R.move (h := ?_)
 refine R.move (h := ?_)
 refine R.bin (run_eql _ _ _ _ _ _) (h := ?_)
 refine R.and (h := ?_)
 refine R.move (h := ?_)
 first | refine R.loadA A62 (h := ?_) | refine R.loadN A62 (h := ?_) | refine R.loadP A62 (h := ?_)
 refine R.build BF62 (is := [0, 1, 2, 3]) (xs := [_, _, _, _]) (es := [_, _, _, _]) (h := ?_)
 refine R.binA (EQ62 _ _ _ _ _ _ _ _ _ _) (h := ?_)
 refine R.and (h := ?_)
 refine R.move (h := ?_)
 refine R.move (h := ?_)
 refine R.bin (run_eql _ _ _ _ _ _) (h := ?_)
 refine R.and (h := ?_)
 refine R.move (h := ?_)
 first | refine R.field F29_5 (h := ?_) | refine R.fieldAt F29_5 (h := ?_)
 first | refine R.loadB O27 (h := ?_) | refine R.load1 O27 (h := ?_)
 first | refine R.len S27 (h := ?_) | refine R.lenRs S27 (h := ?_) | refine R.lenV (run_lenNil S27) (h := ?_)
 refine R.bin (run_eql _ _ _ _ _ _) (h := ?_)
 refine R.and (h := ?_)
 refine R.move (h := ?_)
 first | refine R.field F29_5 (h := ?_) | refine R.fieldAt F29_5 (h := ?_)
 first | refine R.loadB O27 (h := ?_) | refine R.load1 O27 (h := ?_)
 refine R.index I27 (hj := fun hg => ⟨by (simp at hg; omega), rfl⟩) (h := ?_)
 first | refine R.loadA A58 (h := ?_) | refine R.loadN A58 (h := ?_) | refine R.loadP A58 (h := ?_)
 refine R.build BF58 (is := [0, 1]) (xs := [_, _]) (es := [_, _]) (h := ?_)
 refine R.binA (EQ58 _ _ _ _ _ _ _ _) (h := ?_)
 refine R.and (h := ?_)
 refine R.move (h := ?_)
 refine R.move (h := ?_)
 refine R.toString Tryz.underlying44 Tryz.underlying5 Tryz.underlying9 (h := ?_)
 refine R.bin (run_eqlT _ _ _ _ _) (h := ?_)
 refine R.and (h := ?_)
 refine R.move (h := ?_)
 refine R.move (h := ?_)
 refine R.bin (run_eqlT _ _ _ _ _) (h := ?_)
 refine R.and (h := ?_)
 refine R.assign (h := ?_)
 refine .n0 ?_
 exact LGo.ret (ret_T Tryz.results13 hA hmd)

end Go.Proofs.YteccglgbkehdeaaGreatDoor
/- venues, the reference: the check. -/
set_option linter.unusedSimpArgs false
set_option linter.unusedVariables false
namespace Go.Proofs.YteccglgbkehdeaaGreatDoor

/-- the places of a row, of a section's rows, of sections -/
def plC (i k n : Int) : List SV := [.val (.int .i64 i), .val (.int .i64 k), .val (.int .i64 n)]
def plRow (i k : Int) (m : Nat) : List (List SV) := (List.range m).map fun (n : Nat) => plC i k n
def plRows (i : Int) : Nat → List Int → List (List SV)
  | _, [] => []
  | k, n :: r => plRow i k n.toNat ++ plRows i (k + 1) r
def plSecs : Nat → List VnS → List (List SV)
  | _, [] => []
  | i, x :: r => plRows i 0 x.rows ++ plSecs (i + 1) r
theorem plRow_len (i k : Int) (m : Nat) : (plRow i k m).length = m := by unfold plRow; rw [List.length_map, List.length_range]
theorem foldl_add (l : List Int) : ∀ a : Int, l.foldl (fun a n => a + n) a = a + l.foldl (fun a n => a + n) 0 := by
  induction l with
  | nil => intro a; simp
  | cons x l ih => intro a; rw [List.foldl_cons, List.foldl_cons, ih (a + x), ih (0 + x)]; omega
theorem plRows_len (i : Int) : ∀ (l : List Int) (k : Nat), (∀ n ∈ l, 1 ≤ n ∧ n ≤ 64) → ((plRows i k l).length : Int) = l.foldl (fun a n => a + n) 0 ∧ (plRows i k l).length ≤ 64 * l.length
  | [], k, _ => ⟨rfl, Nat.zero_le _⟩
  | n :: r, k, h => by
    obtain ⟨h1, h2⟩ := plRows_len i r (k + 1) (fun m hm => h m (List.mem_cons_of_mem _ hm))
    have hn := h n (by simp)
    rw [plRows, List.length_append, plRow_len, List.foldl_cons, foldl_add, List.length_cons]
    omega
def goodV (x : VnS) : Prop := x.rows.length ≤ 16 ∧ ∀ n ∈ x.rows, 1 ≤ n ∧ n ≤ 64
def sumV (l : List VnS) : Int := l.foldl (fun a x => x.rows.foldl (fun a n => a + n) a) 0
theorem plSecs_len : ∀ (l : List VnS) (i : Nat), (∀ x ∈ l, goodV x) → ∀ a : Int, a + ((plSecs i l).length : Int) = l.foldl (fun a x => x.rows.foldl (fun a n => a + n) a) a ∧ (plSecs i l).length ≤ 1024 * l.length
  | [], i, _, a => by simp [plSecs]
  | x :: r, i, h, a => by
    have hx := h x (by simp)
    obtain ⟨h1, h2⟩ := plRows_len i x.rows 0 hx.2
    obtain ⟨h3, h4⟩ := plSecs_len r (i + 1) (fun y hy => h y (List.mem_cons_of_mem _ hy)) (x.rows.foldl (fun a n => a + n) a)
    rw [plSecs, List.length_append, List.foldl_cons, List.length_cons, ← h3, foldl_add x.rows a]
    have := hx.1
    omega
/-- the check of a venue in two steps: its sections one by one, then all places -/
def secGo : Nat → List VnS → List VnS → Option (Int × Int)
  | _, _, [] => none
  | k, bf, x :: r => if checkV x bf ≠ 0 then some (k, checkV x bf) else secGo (k + 1) (bf ++ [x]) r
theorem secGo_good : ∀ (l : List VnS) (k : Nat) (bf : List VnS), secGo k bf l = none → ∀ x ∈ l, goodV x
  | [], _, _, _, x, hx => by cases hx
  | y :: l, k, bf, h, x, hx => by
    rw [secGo] at h
    split at h
    · cases h
    · rename_i h1
      rcases List.mem_cons.1 hx with rfl | hx
      · exact checkV_0 (Decidable.of_not_not h1)
      · exact secGo_good l _ _ h x hx
theorem venGo_two : ∀ (l : List VnS) (k : Nat) (bf : List VnS) (a : Int), venGo k bf a l = match secGo k bf l with
    | some r => r
    | none => if 4096 < l.foldl (fun a x => x.rows.foldl (fun a n => a + n) a) a then (-1, 3) else (0, 0)
  | [], _, _, _ => rfl
  | x :: l, k, bf, a => by
    rw [venGo, secGo]
    split
    · rfl
    · rw [venGo_two l]; rfl
theorem ven_places {l : List VnS} (h : secGo 0 [] l = none) : venGo 0 [] 0 l = if 4096 < ((plSecs 0 l).length : Int) then (-1, 3) else (0, 0) := by
  rw [venGo_two, h]
  dsimp only
  rw [← (plSecs_len l 0 (secGo_good l _ _ h) 0).1, Int.zero_add]
theorem ven_some {l : List VnS} {r : Int × Int} (h : secGo 0 [] l = some r) : venGo 0 [] 0 l = r := by rw [venGo_two, h]

def finV (n : Nat) : Option (Int × Int) → Int × Int
  | some r => r
  | none => if 4096 < (n : Int) then (-1, 3) else (0, 0)
theorem ven_fin (l : List VnS) : venGo 0 [] 0 l = finV (plSecs 0 l).length (secGo 0 [] l) := by
  cases h : secGo 0 [] l with
  | none => exact ven_places h
  | some r => exact ven_some h
theorem inS_outI (n lo hi : Int) : (!inS n lo hi) = outI n lo hi := inS_out n lo hi
theorem vsub {l : List VnS} {k : Nat} (h : k < l.length) : l.take (k + 1) = l.take k ++ [l[k]] := List.take_succ_eq_append_getElem h

theorem withinR_P (n a b : Int) : PC Tryz.prog 167 [.i n, .i a, .i b] (.b (inS n a b)) := by
 refine ⟨LC.of_go Tryz.func167 (c := _) rfl (by kernel_rfl) (by rw [Tryz.ntmps167]; simp) rfl rfl (by simp [LO.lt, LV.lts, LV.lt, lts_sv]) (by simp) ?_⟩
 intro B hA hmd
 refine .seq ?_
 refine .region rfl ?_
 refine R.assign (h := ?_)
 refine .n0 ?_
 refine .seq ?_
 refine .region rfl ?_
 refine R.move (h := ?_)
 refine R.move (h := ?_)
 refine R.bin (run_geq _ _ _ _ _ _) (h := ?_)
 refine R.move (h := ?_)
 refine R.move (h := ?_)
 refine R.move (h := ?_)
 refine R.bin (run_leq _ _ _ _ _ _) (h := ?_)
 refine R.and (h := ?_)
 refine R.assign (h := ?_)
 refine .n0 ?_
 exact LGo.ret (ret_T Tryz.results167 hA hmd)

theorem sectionR_P (v : Ven) (hv : SmV v) (i : Nat) (hi : i < v.secs.length) : PC Tryz.prog 168 [.agg (v.c.map LV.sv), .i i] (.i (checkV v.secs[i] (v.secs.take i))) := by
 refine ⟨LC.of_go Tryz.func168 (c := _) rfl (by kernel_rfl) (by rw [Tryz.ntmps168]; simp) rfl rfl (by simp [LO.lt, LV.lts, LV.lt, lts_sv]) (by simp) ?_⟩
 intro B hA hmd
 obtain ⟨hs1, hs2⟩ := hv
 have hx : (v.secs.map VnS.c)[((i : Nat) : Int).toNat]? = some v.secs[i].c := by simp [hi]
 have hxm := List.getElem_mem hi
 generalize v.secs[i] = z at hx hxm ⊢
 obtain ⟨g, e1⟩ : ∃ g, checkV z (v.secs.take i) = g := ⟨_, rfl⟩
 rw [e1]
 unfold checkV at e1
 refine .seq ?_
 refine .region rfl ?_
 refine R.box (h := ?_)
 refine R.assign (h := ?_)
 refine .n0 ?_
 refine .seq ?_
 refine .region rfl ?_
 first | refine R.field F24_3 (h := ?_) | refine R.fieldAt F24_3 (h := ?_)
 first | refine R.loadB O22 (h := ?_) | refine R.load1 O22 (h := ?_)
 refine R.move (h := ?_)
 refine R.index I22 (hj := fun hg => ⟨by omega, hx⟩) (h := ?_)
 first | refine R.loadA A80 (h := ?_) | refine R.loadN A80 (h := ?_) | refine R.loadP A80 (h := ?_)
 refine R.alloc Z80 (h := ?_)
 refine R.storeA A80 (h := ?_)
 refine .n0 ?_
 refine .seq ?_
 refine .seq ?_
 refine .region rfl ?_
 first | refine R.field F80_0 (h := ?_) | refine R.fieldAt F80_0 (h := ?_)
 first | refine R.loadB O9 (h := ?_) | refine R.load1 O9 (h := ?_)
 refine R.callP (es := [_]) (fun _ => nameR_P z.name (hs2 z hxm)) (h := ?_)
 refine R.not (h := ?_)
 refine .n0 ?_
 refine LGo.ifb (ht := fun hc => ?_) (hf := fun hc => ?_)
 ·
  rw [if_pos hc] at e1
  rw [← e1]
  refine .seq ?_
  refine .region rfl ?_
  refine R.assign (h := ?_)
  refine .n0 ?_
  exact LGo.ret (ret_T Tryz.results168 hA hmd)
 ·
  rw [if_neg (by rw [hc]; simp)] at e1
  refine .skip ?_
  refine .seq ?_
  refine .seq ?_
  refine .region rfl ?_
  refine R.assign (h := ?_)
  refine .n0 ?_
  refine .block ?_
  refine .loop ?_
  refine LGo.loopG (σ := Nat) (fun x => x ≤ i ∧ (if (((v.secs.take i).drop x).any fun y => decide (y.name = z.name)) = true then 8 else (if (z.rows.length : Int) = 0 then 6 else if 16 < (z.rows.length : Int) then 3 else if (z.rows.any fun n => outI n 1 64) = true then 7 else if outI z.queue 0 64 = true then 7 else 0)) = g) (fun x => [(6, (true, .i (x : Nat)))]) (fun x => [(0, .box 24 (v.c.map LV.sv)), (1, .box 80 (z.c.map LV.sv))]) (fun x => i - x) (0) [(1, _), (2, _), (5, _)] ⟨Nat.zero_le _, e1⟩ (by repeat (first | exact trivial | refine ⟨rfl, ?_⟩)) (by repeat (first | exact trivial | refine ⟨rfl, ?_⟩)) (by repeat (first | exact trivial | refine ⟨rfl, ?_⟩)) ?_
  rintro k ⟨hk, hq⟩ ih
  refine .seq ?_
  refine .seq ?_
  refine .region rfl ?_
  refine R.move (h := ?_)
  refine R.move (h := ?_)
  refine R.bin (run_lss _ _ _ _ _ _) (h := ?_)
  refine .n0 ?_
  refine LGo.ifd (ht := fun hc2 => ?_) (hf := fun hc2 => ?_)
  ·
   have hki : k < i := by omega
   have hkl : k < v.secs.length := by omega
   have hy : (v.secs.map VnS.c)[((k : Nat) : Int).toNat]? = some v.secs[k].c := by simp [hkl]
   rw [drop_take hkl hki, List.any_cons] at hq
   generalize v.secs[k] = y at hy hq
   refine .skip ?_
   refine .seq ?_
   refine .block ?_
   refine .seq ?_
   refine .region rfl ?_
   first | refine R.field F24_3 (h := ?_) | refine R.fieldAt F24_3 (h := ?_)
   first | refine R.loadB O22 (h := ?_) | refine R.load1 O22 (h := ?_)
   refine R.move (h := ?_)
   refine R.index I22 (hj := fun hg => ⟨by omega, hy⟩) (h := ?_)
   first | refine R.field F80_0 (h := ?_) | refine R.fieldAt F80_0 (h := ?_)
   first | refine R.loadB O9 (h := ?_) | refine R.load1 O9 (h := ?_)
   first | refine R.field F80_0 (h := ?_) | refine R.fieldAt F80_0 (h := ?_)
   first | refine R.loadB O9 (h := ?_) | refine R.load1 O9 (h := ?_)
   refine R.bin (run_eqlT _ _ _ _ _) (h := ?_)
   refine Reg.nil ⟨fun _ => ⟨mixedO, by rfl, by rfl⟩, ?_⟩
   refine LGo.ifd (ht := fun hc3 => ?_) (hf := fun hc3 => ?_)
   ·
    rw [decide_eq_true hc3, Bool.true_or, if_pos rfl] at hq
    rw [← hq]
    refine .seq ?_
    refine .region rfl ?_
    refine R.assign (h := ?_)
    refine .n0 ?_
    exact LGo.ret (ret_T Tryz.results168 hA hmd)
   ·
    rw [decide_eq_false hc3, Bool.false_or] at hq
    refine .skip ?_
    refine .inBlock ?_
    refine .region rfl ?_
    refine R.move (h := ?_)
    first | refine R.add (h := ?_) | refine R.addW (h := ?_)
    refine R.assign (h := ?_)
    refine .n0 ?_
    refine .inLoop ?_
    exact LGo.next _ (fun o h => by have := (hA o).1 h; omega) (by omega) (ih (k + 1) ⟨by omega, hq⟩ (by omega)) (by repeat (first | exact trivial | refine ⟨rfl, ?_⟩)) ⟨rfl, rfl, trivial⟩
  ·
   rw [List.drop_eq_nil_of_le (show (v.secs.take i).length ≤ k by rw [List.length_take]; omega), List.any_nil, if_neg (by simp)] at hq
   have e1 := hq
   clear hq
   refine .exit rfl ?_
   refine .seq ?_
   refine .seq ?_
   refine .region rfl ?_
   first | refine R.field F80_1 (h := ?_) | refine R.fieldAt F80_1 (h := ?_)
   first | refine R.loadB O65 (h := ?_) | refine R.load1 O65 (h := ?_)
   first | refine R.len S65 (h := ?_) | refine R.lenRs S65 (h := ?_) | refine R.lenV (run_lenNil S65) (h := ?_)
   rw [ic_len]
   refine R.bin (run_eql _ _ _ _ _ _) (h := ?_)
   refine .n0 ?_
   refine LGo.ifd (ht := fun hc4 => ?_) (hf := fun hc4 => ?_)
   ·
    rw [if_pos hc4] at e1
    rw [← e1]
    refine .seq ?_
    refine .region rfl ?_
    refine R.assign (h := ?_)
    refine .n0 ?_
    exact LGo.ret (ret_T Tryz.results168 hA hmd)
   ·
    rw [if_neg hc4] at e1
    refine .skip ?_
    refine .seq ?_
    refine .seq ?_
    refine .region rfl ?_
    first | refine R.field F80_1 (h := ?_) | refine R.fieldAt F80_1 (h := ?_)
    first | refine R.loadB O65 (h := ?_) | refine R.load1 O65 (h := ?_)
    first | refine R.len S65 (h := ?_) | refine R.lenRs S65 (h := ?_) | refine R.lenV (run_lenNil S65) (h := ?_)
    rw [ic_len]
    refine R.bin (run_gtr _ _ _ _ _ _) (h := ?_)
    refine .n0 ?_
    refine LGo.ifd (ht := fun hc5 => ?_) (hf := fun hc5 => ?_)
    ·
     rw [if_pos (by omega)] at e1
     rw [← e1]
     refine .seq ?_
     refine .region rfl ?_
     refine R.assign (h := ?_)
     refine .n0 ?_
     exact LGo.ret (ret_T Tryz.results168 hA hmd)
    ·
     rw [if_neg (by omega)] at e1
     refine .skip ?_
     refine .seq ?_
     refine .seq ?_
     refine .region rfl ?_
     refine R.assign (h := ?_)
     refine .n0 ?_
     refine .block ?_
     refine .loop ?_
     refine LGo.loopG (σ := Nat) (fun x => x ≤ z.rows.length ∧ (if ((z.rows.drop x).any fun n => outI n 1 64) = true then 7 else if outI z.queue 0 64 = true then 7 else 0) = g) (fun x => [(7, (true, .i (x : Nat)))]) (fun x => [(0, .box 24 (v.c.map LV.sv)), (1, .box 80 (z.c.map LV.sv))]) (fun x => z.rows.length - x) (0) [(5, _)] ⟨Nat.zero_le _, e1⟩ (by repeat (first | exact trivial | refine ⟨rfl, ?_⟩)) (by repeat (first | exact trivial | refine ⟨rfl, ?_⟩)) (by repeat (first | exact trivial | refine ⟨rfl, ?_⟩)) ?_
     rintro j ⟨hj, hq⟩ ih2
     refine .seq ?_
     refine .seq ?_
     refine .region rfl ?_
     refine R.move (h := ?_)
     first | refine R.field F80_1 (h := ?_) | refine R.fieldAt F80_1 (h := ?_)
     first | refine R.loadB O65 (h := ?_) | refine R.load1 O65 (h := ?_)
     first | refine R.len S65 (h := ?_) | refine R.lenRs S65 (h := ?_) | refine R.lenV (run_lenNil S65) (h := ?_)
     rw [ic_len]
     refine R.bin (run_lss _ _ _ _ _ _) (h := ?_)
     refine .n0 ?_
     refine LGo.ifd (ht := fun hc6 => ?_) (hf := fun hc6 => ?_)
     ·
      have hlt : j < z.rows.length := by omega
      have hzn := icA hlt
      rw [List.drop_eq_getElem_cons hlt, List.any_cons] at hq
      generalize z.rows[j] = n at hzn hq
      refine .skip ?_
      refine .seq ?_
      refine .block ?_
      refine .seq ?_
      refine .region rfl ?_
      first | refine R.field F80_1 (h := ?_) | refine R.fieldAt F80_1 (h := ?_)
      first | refine R.loadB O65 (h := ?_) | refine R.load1 O65 (h := ?_)
      refine R.move (h := ?_)
      refine R.index I65 (hj := fun hg => ⟨by omega, hzn⟩) (h := ?_)
      first | refine R.loadB O3 (h := ?_) | refine R.load1 O3 (h := ?_)
      refine R.callP (es := [_, _, _]) (fun _ => withinR_P n 1 64) (h := ?_)
      refine R.not (h := ?_)
      rw [inS_outI]
      refine .n0 ?_
      refine LGo.ifb (ht := fun hc7 => ?_) (hf := fun hc7 => ?_)
      ·
       rw [hc7, Bool.true_or, if_pos rfl] at hq
       rw [← hq]
       refine .seq ?_
       refine .region rfl ?_
       refine R.assign (h := ?_)
       refine .n0 ?_
       exact LGo.ret (ret_T Tryz.results168 hA hmd)
      ·
       rw [hc7, Bool.false_or] at hq
       refine .skip ?_
       refine .inBlock ?_
       refine .region rfl ?_
       refine R.move (h := ?_)
       first | refine R.add (h := ?_) | refine R.addW (h := ?_)
       refine R.assign (h := ?_)
       refine .n0 ?_
       refine .inLoop ?_
       exact LGo.next _ (fun o h => by have := (hA o).1 h; omega) (by omega) (ih2 (j + 1) ⟨by omega, hq⟩ (by omega)) (by repeat (first | exact trivial | refine ⟨rfl, ?_⟩)) ⟨rfl, rfl, trivial⟩
     ·
      rw [List.drop_eq_nil_of_le (show z.rows.length ≤ j by omega), List.any_nil, if_neg (by simp)] at hq
      have e1 := hq
      clear hq
      refine .exit rfl ?_
      refine .seq ?_
      refine .seq ?_
      refine .region rfl ?_
      first | refine R.field F80_2 (h := ?_) | refine R.fieldAt F80_2 (h := ?_)
      first | refine R.loadB O3 (h := ?_) | refine R.load1 O3 (h := ?_)
      refine R.callP (es := [_, _, _]) (fun _ => withinR_P z.queue 0 64) (h := ?_)
      refine R.not (h := ?_)
      rw [inS_outI]
      refine .n0 ?_
      refine LGo.ifb (ht := fun hc8 => ?_) (hf := fun hc8 => ?_)
      ·
       rw [if_pos hc8] at e1
       rw [← e1]
       refine .seq ?_
       refine .region rfl ?_
       refine R.assign (h := ?_)
       refine .n0 ?_
       exact LGo.ret (ret_T Tryz.results168 hA hmd)
      ·
       rw [if_neg (by rw [hc8]; simp)] at e1
       rw [← e1]
       refine .skip ?_
       refine .seq ?_
       refine .region rfl ?_
       refine R.assign (h := ?_)
       refine .n0 ?_
       exact LGo.ret (ret_T Tryz.results168 hA hmd)

theorem places_P (v : Ven) (h8 : v.secs.length ≤ 8) (hg : ∀ x ∈ v.secs, goodV x) : PC Tryz.prog 169 [.agg (v.c.map LV.sv)] (.sv (.sl 3 (plSecs 0 v.secs))) := by
 refine ⟨LC.of_go Tryz.func169 (c := _) rfl (by kernel_rfl) (by rw [Tryz.ntmps169]; simp) rfl rfl (by simp [LO.lt, LV.lts, LV.lt, lts_sv]) (by simp) ?_⟩
 intro B hA hmd
 obtain ⟨F, hF⟩ : ∃ F, plSecs 0 v.secs = F := ⟨_, rfl⟩
 have hFl : F.length ≤ 8192 := by have := (plSecs_len v.secs 0 hg 0).2; rw [← hF]; omega
 rw [hF]
 refine .seq ?_
 refine .region rfl ?_
 refine R.box (h := ?_)
 refine R.assign (h := ?_)
 refine .n0 ?_
 refine .seq ?_
 refine .region rfl ?_
 refine R.assign (h := ?_)
 refine .n0 ?_
 refine .seq ?_
 refine .seq ?_
 refine .region rfl ?_
 refine R.assign (h := ?_)
 refine .n0 ?_
 refine .block ?_
 refine .loop ?_
 refine LGo.nilRs 3 276 3 (h := ?_)
 refine LGo.loopG (σ := Nat × List (List SV)) (fun x => x.1 ≤ v.secs.length ∧ x.2 ++ plSecs x.1 (v.secs.drop x.1) = F) (fun x => [(4, (true, .i (x.1 : Nat))), (3, (true, .ref 1))]) (fun x => [(0, .box 24 (v.c.map LV.sv)), (1, .rs 276 3 (x.2))]) (fun x => v.secs.length - x.1) (0, []) [(1, _)] ⟨Nat.zero_le _, hF⟩ (by repeat (first | exact trivial | refine ⟨rfl, ?_⟩)) (by repeat (first | exact trivial | refine ⟨rfl, ?_⟩)) (by repeat (first | exact trivial | refine ⟨rfl, ?_⟩)) ?_
 rintro ⟨i, A⟩ ⟨hi, hq⟩ ih
 dsimp only at * 
 refine .seq ?_
 refine .seq ?_
 refine .region rfl ?_
 refine R.move (h := ?_)
 first | refine R.field F24_3 (h := ?_) | refine R.fieldAt F24_3 (h := ?_)
 first | refine R.loadB O22 (h := ?_) | refine R.load1 O22 (h := ?_)
 first | refine R.len S22 (h := ?_) | refine R.lenRs S22 (h := ?_) | refine R.lenV (run_lenNil S22) (h := ?_)
 rw [List.length_map]
 refine R.bin (run_lss _ _ _ _ _ _) (h := ?_)
 refine .n0 ?_
 refine LGo.ifd (ht := fun hc => ?_) (hf := fun hc => ?_)
 ·
  have hlt : i < v.secs.length := by omega
  have hx : (v.secs.map VnS.c)[((i : Nat) : Int).toNat]? = some v.secs[i].c := by simp [hlt]
  rw [List.drop_eq_getElem_cons hlt, plSecs, ← List.append_assoc] at hq
  have hgz := hg _ (List.getElem_mem hlt)
  generalize v.secs[i] = z at hx hq hgz
  have hg1 := hgz.1
  obtain ⟨T, hT⟩ : ∃ T, plSecs (i + 1) (v.secs.drop (i + 1)) = T := ⟨_, rfl⟩
  rw [hT] at hq
  refine .skip ?_
  refine .seq ?_
  refine .block ?_
  refine .seq ?_
  refine .region rfl ?_
  refine R.assign (h := ?_)
  refine .n0 ?_
  refine .block ?_
  refine .loop ?_
  refine LGo.loopG (σ := Nat × List (List SV)) (fun x => x.1 ≤ z.rows.length ∧ x.2 ++ plRows i x.1 (z.rows.drop x.1) ++ T = F) (fun x => [(5, (true, .i (x.1 : Nat))), (3, (true, .ref 1))]) (fun x => [(0, .box 24 (v.c.map LV.sv)), (1, .rs 276 3 (x.2))]) (fun x => z.rows.length - x.1) (0, A) [(1, _), (4, _)] ⟨Nat.zero_le _, hq⟩ (by repeat (first | exact trivial | refine ⟨rfl, ?_⟩)) (by repeat (first | exact trivial | refine ⟨rfl, ?_⟩)) (by repeat (first | exact trivial | refine ⟨rfl, ?_⟩)) ?_
  rintro ⟨j, A2⟩ ⟨hj, hq2⟩ ih2
  dsimp only at * 
  refine .seq ?_
  refine .seq ?_
  refine .region rfl ?_
  refine R.move (h := ?_)
  first | refine R.field F24_3 (h := ?_) | refine R.fieldAt F24_3 (h := ?_)
  first | refine R.loadB O22 (h := ?_) | refine R.load1 O22 (h := ?_)
  refine R.move (h := ?_)
  refine R.index I22 (hj := fun hg => ⟨by omega, hx⟩) (h := ?_)
  first | refine R.field F80_1 (h := ?_) | refine R.fieldAt F80_1 (h := ?_)
  first | refine R.loadB O65 (h := ?_) | refine R.load1 O65 (h := ?_)
  first | refine R.len S65 (h := ?_) | refine R.lenRs S65 (h := ?_) | refine R.lenV (run_lenNil S65) (h := ?_)
  rw [ic_len]
  refine R.bin (run_lss _ _ _ _ _ _) (h := ?_)
  refine .n0 ?_
  refine LGo.ifd (ht := fun hc2 => ?_) (hf := fun hc2 => ?_)
  ·
   have hltj : j < z.rows.length := by omega
   have hx2 := icA hltj
   rw [List.drop_eq_getElem_cons hltj, plRows, ← List.append_assoc] at hq2
   have hgn := hgz.2 _ (List.getElem_mem hltj)
   generalize z.rows[j] = n at hx2 hq2 hgn
   obtain ⟨T2, hT2⟩ : ∃ T2, plRows i (j + 1) (z.rows.drop (j + 1)) = T2 := ⟨_, rfl⟩
   rw [hT2] at hq2
   obtain ⟨N, rfl⟩ : ∃ N : Nat, n = N := ⟨n.toNat, by omega⟩
   rw [Int.toNat_natCast] at hq2
   refine .skip ?_
   refine .seq ?_
   refine .block ?_
   refine .seq ?_
   refine .region rfl ?_
   refine R.assign (h := ?_)
   refine .n0 ?_
   refine .block ?_
   refine .loop ?_
   refine LGo.loopG (σ := Nat × List (List SV)) (fun x => x.1 ≤ N ∧ x.2 ++ (plRow i j N).drop x.1 ++ T2 ++ T = F) (fun x => [(6, (true, .i (x.1 : Nat))), (3, (true, .ref 1))]) (fun x => [(0, .box 24 (v.c.map LV.sv)), (1, .rs 276 3 (x.2))]) (fun x => N - x.1) (0, A2) [(1, _), (4, _), (5, _)] ⟨Nat.zero_le _, hq2⟩ (by repeat (first | exact trivial | refine ⟨rfl, ?_⟩)) (by repeat (first | exact trivial | refine ⟨rfl, ?_⟩)) (by repeat (first | exact trivial | refine ⟨rfl, ?_⟩)) ?_
   rintro ⟨m, A3⟩ ⟨hm, hq3⟩ ih3
   dsimp only at * 
   refine .seq ?_
   refine .seq ?_
   refine .region rfl ?_
   refine R.move (h := ?_)
   first | refine R.field F24_3 (h := ?_) | refine R.fieldAt F24_3 (h := ?_)
   first | refine R.loadB O22 (h := ?_) | refine R.load1 O22 (h := ?_)
   refine R.move (h := ?_)
   refine R.index I22 (hj := fun hg => ⟨by omega, hx⟩) (h := ?_)
   first | refine R.field F80_1 (h := ?_) | refine R.fieldAt F80_1 (h := ?_)
   first | refine R.loadB O65 (h := ?_) | refine R.load1 O65 (h := ?_)
   refine R.move (h := ?_)
   refine R.index I65 (hj := fun hg => ⟨by omega, hx2⟩) (h := ?_)
   first | refine R.loadB O3 (h := ?_) | refine R.load1 O3 (h := ?_)
   refine R.bin (run_lss _ _ _ _ _ _) (h := ?_)
   refine .n0 ?_
   refine LGo.ifd (ht := fun hc3 => ?_) (hf := fun hc3 => ?_)
   ·
    have hpl : m < (plRow i j N).length := by rw [plRow_len]; omega
    rw [List.drop_eq_getElem_cons hpl, show (plRow i j N)[m] = plC i j m from by simp [plRow]] at hq3
    have hA3 : A3.length ≤ 8192 := by
      have := congrArg List.length hq3
      simp only [List.length_append] at this
      omega
    refine .skip ?_
    refine .seq ?_
    refine .block ?_
    refine .region rfl ?_
    refine R.move (h := ?_)
    refine R.move (h := ?_)
    refine R.move (h := ?_)
    refine R.move (h := ?_)
    refine R.build BF276 (is := [0, 1, 2]) (xs := [_, _, _]) (es := [_, _, _]) (h := ?_)
    refine R.buildSliceG AP231 (xs := [_]) (es := [_]) (hcs := CellsOfs.cons (CellsOf.agg rfl) CellsOfs.nil) (h := ?_)
    refine R.appendS AP231 (hs := SrcOk.sl Tryz.underlying231 (by simp; rfl)) (hlen := by simp; omega) (h := ?_)
    refine R.assign (h := ?_)
    refine .n0 ?_
    refine .inBlock ?_
    refine .region rfl ?_
    refine R.move (h := ?_)
    first | refine R.add (h := ?_) | refine R.addW (h := ?_)
    refine R.assign (h := ?_)
    refine .n0 ?_
    refine .inLoop ?_
    exact LGo.turn [0, 2] (b := 0) (fun o h => by have := (hA o).1 h; omega) (ih3 (m + 1, A3 ++ [plC i j m]) ⟨by dsimp only; omega, by dsimp only; rw [← hq3]; simp⟩ (by dsimp only; omega)) (by repeat (first | exact trivial | refine ⟨rfl, ?_⟩)) ⟨rfl, rfl, trivial⟩
   ·
    rw [List.drop_eq_nil_of_le (show (plRow i j N).length ≤ m by rw [plRow_len]; omega), List.append_nil, ← hT2] at hq3
    refine .exit rfl ?_
    refine .inBlock ?_
    refine .region rfl ?_
    refine R.move (h := ?_)
    first | refine R.add (h := ?_) | refine R.addW (h := ?_)
    refine R.assign (h := ?_)
    refine .n0 ?_
    refine .inLoop ?_
    exact LGo.next _ (fun o h => by have := (hA o).1 h; omega) (by omega) (ih2 (j + 1, A3) ⟨by dsimp only; omega, hq3⟩ (by dsimp only; omega)) (by repeat (first | exact trivial | refine ⟨rfl, ?_⟩)) ⟨rfl, rfl, trivial⟩
  ·
   rw [List.drop_eq_nil_of_le (show z.rows.length ≤ j by omega), plRows, List.append_nil, ← hT] at hq2
   refine .exit rfl ?_
   refine .inBlock ?_
   refine .region rfl ?_
   refine R.move (h := ?_)
   first | refine R.add (h := ?_) | refine R.addW (h := ?_)
   refine R.assign (h := ?_)
   refine .n0 ?_
   refine .inLoop ?_
   exact LGo.next _ (fun o h => by have := (hA o).1 h; omega) (by omega) (ih (i + 1, A2) ⟨by dsimp only; omega, hq2⟩ (by dsimp only; omega)) (by repeat (first | exact trivial | refine ⟨rfl, ?_⟩)) ⟨rfl, rfl, trivial⟩
 ·
  rw [List.drop_eq_nil_of_le (show v.secs.length ≤ i by omega), plSecs, List.append_nil] at hq
  subst hq
  refine .exit rfl ?_
  refine .seq ?_
  refine .region rfl ?_
  refine R.move (h := ?_)
  refine R.assign (h := ?_)
  refine .n0 ?_
  first | refine LGo.frzT 2 (h := ?_) | refine LGo.nilSl 2 3 (h := ?_) | skip
  exact LGo.ret (ret_T Tryz.results169 hA hmd)

theorem checkVenR_P (v : Ven) (hv : SmV v) : PC Tryz.prog 98 [.agg (v.c.map LV.sv)] (.tup [.i (checkVen v).1, .i (checkVen v).2]) := by
 refine ⟨LC.of_go Tryz.func98 (c := _) rfl (by kernel_rfl) (by rw [Tryz.ntmps98]; simp) rfl rfl (by simp [LO.lt, LV.lts, LV.lt, lts_sv]) (by simp) ?_⟩
 intro B hA hmd
 obtain ⟨hv1, hv2⟩ := id hv
 obtain ⟨g, e0⟩ : ∃ g, checkVen v = g := ⟨_, rfl⟩
 have e1 := e0
 unfold checkVen at e1
 rw [e0]
 rw [ven_fin] at e1
 refine .seq ?_
 refine .region rfl ?_
 refine R.box (h := ?_)
 refine R.assign (h := ?_)
 refine R.assign (h := ?_)
 refine .n0 ?_
 refine .seq ?_
 refine .seq ?_
 refine .region rfl ?_
 first | refine R.field F24_0 (h := ?_) | refine R.fieldAt F24_0 (h := ?_)
 first | refine R.loadB O3 (h := ?_) | refine R.load1 O3 (h := ?_)
 refine R.callP (es := [_, _, _]) (fun _ => withinR_P v.shards 1 16) (h := ?_)
 refine R.not (h := ?_)
 rw [inS_outI]
 refine R.move (h := ?_)
 first | refine R.field F24_1 (h := ?_) | refine R.fieldAt F24_1 (h := ?_)
 first | refine R.loadB O2 (h := ?_) | refine R.load1 O2 (h := ?_)
 refine R.callP (es := [_, _, _]) (fun _ => withinR_P v.ttl 1 1000000000) (h := ?_)
 refine R.not (h := ?_)
 rw [inS_outI]
 refine R.or (h := ?_)
 refine R.move (h := ?_)
 first | refine R.field F24_2 (h := ?_) | refine R.fieldAt F24_2 (h := ?_)
 first | refine R.loadB O2 (h := ?_) | refine R.load1 O2 (h := ?_)
 refine R.callP (es := [_, _, _]) (fun _ => withinR_P v.session 1 1000000000) (h := ?_)
 refine R.not (h := ?_)
 rw [inS_outI]
 refine R.or (h := ?_)
 refine .n0 ?_
 refine LGo.ifb (ht := fun hc => ?_) (hf := fun hc => ?_)
 ·
  rw [if_pos hc] at e1
  rw [← e1]
  refine .seq ?_
  refine .region rfl ?_
  refine R.assign (h := ?_)
  refine R.assign (h := ?_)
  refine .n0 ?_
  exact LGo.ret (ret_TT Tryz.results98 hA hmd)
 ·
  rw [if_neg (by rw [hc]; simp)] at e1
  refine .skip ?_
  refine .seq ?_
  refine .seq ?_
  refine .region rfl ?_
  first | refine R.field F24_3 (h := ?_) | refine R.fieldAt F24_3 (h := ?_)
  first | refine R.loadB O22 (h := ?_) | refine R.load1 O22 (h := ?_)
  first | refine R.len S22 (h := ?_) | refine R.lenRs S22 (h := ?_) | refine R.lenV (run_lenNil S22) (h := ?_)
  rw [List.length_map]
  refine R.bin (run_eql _ _ _ _ _ _) (h := ?_)
  refine .n0 ?_
  refine LGo.ifd (ht := fun hc2 => ?_) (hf := fun hc2 => ?_)
  ·
   rw [if_pos (by omega)] at e1
   rw [← e1]
   refine .seq ?_
   refine .region rfl ?_
   refine R.assign (h := ?_)
   refine R.assign (h := ?_)
   refine .n0 ?_
   exact LGo.ret (ret_TT Tryz.results98 hA hmd)
  ·
   rw [if_neg (by omega)] at e1
   refine .skip ?_
   refine .seq ?_
   refine .seq ?_
   refine .region rfl ?_
   first | refine R.field F24_3 (h := ?_) | refine R.fieldAt F24_3 (h := ?_)
   first | refine R.loadB O22 (h := ?_) | refine R.load1 O22 (h := ?_)
   first | refine R.len S22 (h := ?_) | refine R.lenRs S22 (h := ?_) | refine R.lenV (run_lenNil S22) (h := ?_)
   rw [List.length_map]
   refine R.bin (run_gtr _ _ _ _ _ _) (h := ?_)
   refine .n0 ?_
   refine LGo.ifd (ht := fun hc3 => ?_) (hf := fun hc3 => ?_)
   ·
    rw [if_pos (by omega)] at e1
    rw [← e1]
    refine .seq ?_
    refine .region rfl ?_
    refine R.assign (h := ?_)
    refine R.assign (h := ?_)
    refine .n0 ?_
    exact LGo.ret (ret_TT Tryz.results98 hA hmd)
   ·
    rw [if_neg (by omega)] at e1
    obtain ⟨PN, hPN⟩ : ∃ PN, (plSecs 0 v.secs).length = PN := ⟨_, rfl⟩
    rw [hPN] at e1
    refine .skip ?_
    refine .seq ?_
    refine .seq ?_
    refine .region rfl ?_
    refine R.assign (h := ?_)
    refine .n0 ?_
    refine .block ?_
    refine .loop ?_
    refine LGo.loopG (σ := Nat) (fun x => x ≤ v.secs.length ∧ (∀ y ∈ v.secs.take x, goodV y) ∧ finV PN (secGo x (v.secs.take x) (v.secs.drop x)) = g) (fun x => [(4, (true, .i (x : Nat)))]) (fun x => [(0, .box 24 (v.c.map LV.sv))]) (fun x => v.secs.length - x) (0) [(1, _)] ⟨Nat.zero_le _, fun x hx => by simp at hx, e1⟩ (by repeat (first | exact trivial | refine ⟨rfl, ?_⟩)) (by repeat (first | exact trivial | refine ⟨rfl, ?_⟩)) (by repeat (first | exact trivial | refine ⟨rfl, ?_⟩)) ?_
    rintro k ⟨hk, hgd, hq⟩ ih
    refine .seq ?_
    refine .seq ?_
    refine .region rfl ?_
    refine R.move (h := ?_)
    first | refine R.field F24_3 (h := ?_) | refine R.fieldAt F24_3 (h := ?_)
    first | refine R.loadB O22 (h := ?_) | refine R.load1 O22 (h := ?_)
    first | refine R.len S22 (h := ?_) | refine R.lenRs S22 (h := ?_) | refine R.lenV (run_lenNil S22) (h := ?_)
    rw [List.length_map]
    refine R.bin (run_lss _ _ _ _ _ _) (h := ?_)
    refine .n0 ?_
    refine LGo.ifd (ht := fun hc4 => ?_) (hf := fun hc4 => ?_)
    ·
     have hlt : k < v.secs.length := by omega
     rw [List.drop_eq_getElem_cons hlt, secGo] at hq
     refine .skip ?_
     refine .seq ?_
     refine .block ?_
     refine .seq ?_
     refine .region rfl ?_
     first | refine R.loadA A24 (h := ?_) | refine R.loadN A24 (h := ?_) | refine R.loadP A24 (h := ?_)
     refine R.move (h := ?_)
     refine R.callP (es := [_, _]) (fun _ => sectionR_P v hv k hlt) (h := ?_)
     refine R.assign (h := ?_)
     refine .n0 ?_
     refine .seq ?_
     refine .region rfl ?_
     refine R.move (h := ?_)
     refine R.bin (run_neq _ _ _ _ _ _) (h := ?_)
     refine .n0 ?_
     refine LGo.ifb (ht := fun hc5 => ?_) (hf := fun hc5 => ?_)
     ·
      rw [if_pos (by simpa using hc5)] at hq
      rw [← hq]
      dsimp only [finV]
      refine .seq ?_
      refine .region rfl ?_
      refine R.move (h := ?_)
      refine R.move (h := ?_)
      refine R.assign (h := ?_)
      refine R.assign (h := ?_)
      refine .n0 ?_
      exact LGo.ret (ret_TT Tryz.results98 hA hmd)
     ·
      have h0 : checkV v.secs[k] (v.secs.take k) = 0 := by simpa using hc5
      rw [if_neg (by simp [h0]), ← vsub hlt] at hq
      refine .skip ?_
      refine .inBlock ?_
      refine .region rfl ?_
      refine R.move (h := ?_)
      first | refine R.add (h := ?_) | refine R.addW (h := ?_)
      refine R.assign (h := ?_)
      refine .n0 ?_
      refine .inLoop ?_
      exact LGo.next _ (fun o h => by have := (hA o).1 h; omega) (by omega) (ih (k + 1) ⟨by omega, fun x hx => by
          rw [vsub hlt, List.mem_append, List.mem_singleton] at hx
          rcases hx with hx | rfl
          · exact hgd x hx
          · exact checkV_0 h0, hq⟩ (by omega)) (by repeat (first | exact trivial | refine ⟨rfl, ?_⟩)) ⟨rfl, trivial⟩
    ·
     rw [List.take_of_length_le (show v.secs.length ≤ k by omega)] at hgd
     rw [List.drop_eq_nil_of_le (show v.secs.length ≤ k by omega), secGo, finV] at hq
     refine .exit rfl ?_
     refine .seq ?_
     refine .seq ?_
     refine .region rfl ?_
     first | refine R.loadA A24 (h := ?_) | refine R.loadN A24 (h := ?_) | refine R.loadP A24 (h := ?_)
     refine R.callP (es := [_]) (fun _ => places_P v (by omega) hgd) (h := ?_)
     first | refine R.len S231 (h := ?_) | refine R.lenRs S231 (h := ?_) | refine R.lenV (run_lenNil S231) (h := ?_)
     rw [hPN]
     refine R.bin (run_gtr _ _ _ _ _ _) (h := ?_)
     refine .n0 ?_
     refine LGo.ifd (ht := fun hc6 => ?_) (hf := fun hc6 => ?_)
     ·
      rw [if_pos (by omega)] at hq
      rw [← hq]
      refine .seq ?_
      refine .region rfl ?_
      refine R.assign (h := ?_)
      refine R.assign (h := ?_)
      refine .n0 ?_
      exact LGo.ret (ret_TT Tryz.results98 hA hmd)
     ·
      rw [if_neg (by omega)] at hq
      rw [← hq]
      refine .skip ?_
      refine .seq ?_
      refine .region rfl ?_
      refine R.assign (h := ?_)
      refine R.assign (h := ?_)
      refine .n0 ?_
      exact LGo.ret (ret_TT Tryz.results98 hA hmd)

end Go.Proofs.YteccglgbkehdeaaGreatDoor
/- scripts, the reference: Check. -/
set_option linter.unusedSimpArgs false
set_option linter.unusedVariables false
namespace Go.Proofs.YteccglgbkehdeaaGreatDoor

theorem digits30_P (n : Int) (hn : R64 n) : PC Tryz.prog 60 [.i n] (.t (Lib.itoa n)) := by
 refine ⟨LC.of_go Tryz.func60 (c := _) rfl (by kernel_rfl) (by rw [Tryz.ntmps60]; simp) rfl rfl (by simp [LO.lt, LV.lts, LV.lt, lts_sv]) (by simp) ?_⟩
 intro B hA hmd
 refine .seq ?_
 refine .region rfl ?_
 refine R.assign (h := ?_)
 refine .n0 ?_
 refine .seq ?_
 refine .region rfl ?_
 refine R.move (h := ?_)
 refine R.callP (es := [_]) (fun _ => digitsR_P n (by unfold R64 at hn; omega) (by unfold R64 at hn; omega)) (h := ?_)
 refine R.assign (h := ?_)
 refine .n0 ?_
 exact LGo.ret (ret_T Tryz.results60 hA hmd)

theorem baseR_P (s : Sc) (hs : s.sm) : PC Tryz.prog 91 [.agg (s.c.map LV.sv)] (.tup [.t (baseS s).1, .i (baseS s).2]) := by
 refine ⟨LC.of_go Tryz.func91 (c := _) rfl (by kernel_rfl) (by rw [Tryz.ntmps91]; simp) rfl rfl (by simp [LO.lt, LV.lts, LV.lt, lts_sv]) (by simp) ?_⟩
 intro B hA hmd
 obtain ⟨g, e0⟩ : ∃ g, baseS s = g := ⟨_, rfl⟩
 have e1 := e0
 unfold baseS at e1
 rw [e0]
 have hkl := hs.key
 have hcl := hs.cl
 unfold maxLen at hkl hcl
 refine .seq ?_
 refine .region rfl ?_
 refine R.box (h := ?_)
 refine R.assign (h := ?_)
 refine R.assign (h := ?_)
 refine .n0 ?_
 refine .seq ?_
 refine .region rfl ?_
 first | refine R.field F29_0 (h := ?_) | refine R.fieldAt F29_0 (h := ?_)
 first | refine R.loadA A24 (h := ?_) | refine R.loadN A24 (h := ?_) | refine R.loadP A24 (h := ?_)
 refine R.callP (es := [_]) (fun _ => checkVenR_P s.ven hs.ven) (h := ?_)
 refine R.move (h := ?_)
 refine R.extract (h := ?_)
 refine R.extract (h := ?_)
 refine R.assign (h := ?_)
 refine R.assign (h := ?_)
 refine .n0 ?_
 refine .seq ?_
 refine .seq ?_
 refine .region rfl ?_
 refine R.move (h := ?_)
 refine R.bin (run_neq _ _ _ _ _ _) (h := ?_)
 refine .n0 ?_
 refine LGo.ifb (ht := fun hc => ?_) (hf := fun hc => ?_)
 ·
  rw [if_pos (by simpa using hc)] at e1
  rw [← e1]
  refine .seq ?_
  refine .region rfl ?_
  refine R.move (h := ?_)
  refine R.assign (h := ?_)
  refine R.assign (h := ?_)
  refine .n0 ?_
  exact LGo.ret (ret_TT Tryz.results91 hA hmd)
 ·
  rw [if_neg (by simpa using hc)] at e1
  refine .skip ?_
  refine .seq ?_
  refine .seq ?_
  refine .region rfl ?_
  first | refine R.field F29_1 (h := ?_) | refine R.fieldAt F29_1 (h := ?_)
  first | refine R.loadB O9 (h := ?_) | refine R.load1 O9 (h := ?_)
  refine R.lenT Tryz.runUnderlying9 (h := ?_)
  refine R.bin (run_lss _ _ _ _ _ _) (h := ?_)
  refine R.move (h := ?_)
  first | refine R.field F29_1 (h := ?_) | refine R.fieldAt F29_1 (h := ?_)
  first | refine R.loadB O9 (h := ?_) | refine R.load1 O9 (h := ?_)
  refine R.lenT Tryz.runUnderlying9 (h := ?_)
  refine R.bin (run_gtr _ _ _ _ _ _) (h := ?_)
  refine R.or (h := ?_)
  refine .n0 ?_
  refine LGo.ifb (ht := fun hc2 => ?_) (hf := fun hc2 => ?_)
  ·
   rw [if_pos hc2] at e1
   rw [← e1]
   refine .seq ?_
   refine .region rfl ?_
   refine R.assign (h := ?_)
   refine R.assign (h := ?_)
   refine .n0 ?_
   exact LGo.ret (ret_TT Tryz.results91 hA hmd)
  ·
   rw [if_neg (by rw [hc2]; simp)] at e1
   refine .skip ?_
   refine .seq ?_
   refine .region rfl ?_
   first | refine R.field F29_2 (h := ?_) | refine R.fieldAt F29_2 (h := ?_)
   first | refine R.loadB O25 (h := ?_) | refine R.load1 O25 (h := ?_)
   refine R.callP (es := [_]) (fun _ => newR_P s.gates hs.gl hs.gs) (h := ?_)
   refine R.move (h := ?_)
   refine R.extract (h := ?_)
   refine R.extract (h := ?_)
   refine R.assign (h := ?_)
   refine .n0 ?_
   refine .seq ?_
   refine .seq ?_
   refine .region rfl ?_
   refine R.move (h := ?_)
   refine R.bin (run_neq _ _ _ _ _ _) (h := ?_)
   refine .n0 ?_
   refine LGo.ifb (ht := fun hc3 => ?_) (hf := fun hc3 => ?_)
   ·
    rw [if_pos (by simpa using hc3)] at e1
    rw [← e1]
    refine .seq ?_
    refine .region rfl ?_
    refine R.move (h := ?_)
    refine R.assign (h := ?_)
    refine R.assign (h := ?_)
    refine .n0 ?_
    exact LGo.ret (ret_TT Tryz.results91 hA hmd)
   ·
    rw [if_neg (by simpa using hc3)] at e1
    refine .skip ?_
    refine .seq ?_
    refine .seq ?_
    refine .region rfl ?_
    first | refine R.field F29_3 (h := ?_) | refine R.fieldAt F29_3 (h := ?_)
    first | refine R.loadB O3 (h := ?_) | refine R.load1 O3 (h := ?_)
    refine R.bin (run_lss _ _ _ _ _ _) (h := ?_)
    refine R.move (h := ?_)
    first | refine R.field F29_3 (h := ?_) | refine R.fieldAt F29_3 (h := ?_)
    first | refine R.loadB O3 (h := ?_) | refine R.load1 O3 (h := ?_)
    refine R.bin (run_gtr _ _ _ _ _ _) (h := ?_)
    refine R.or (h := ?_)
    rw [← outI, ← inS_outI]
    refine .n0 ?_
    refine LGo.ifb (ht := fun hc4 => ?_) (hf := fun hc4 => ?_)
    ·
     rw [if_pos hc4] at e1
     rw [← e1]
     refine .seq ?_
     refine .region rfl ?_
     refine R.assign (h := ?_)
     refine R.assign (h := ?_)
     refine .n0 ?_
     exact LGo.ret (ret_TT Tryz.results91 hA hmd)
    ·
     rw [if_neg (by rw [hc4]; simp)] at e1
     refine .skip ?_
     refine .seq ?_
     refine .seq ?_
     refine .region rfl ?_
     first | refine R.field F29_4 (h := ?_) | refine R.fieldAt F29_4 (h := ?_)
     first | refine R.loadB O26 (h := ?_) | refine R.load1 O26 (h := ?_)
     first | refine R.len S26 (h := ?_) | refine R.lenRs S26 (h := ?_) | refine R.lenV (run_lenNil S26) (h := ?_)
     rw [List.length_map]
     refine R.bin (run_gtr _ _ _ _ _ _) (h := ?_)
     refine .n0 ?_
     refine LGo.ifd (ht := fun hc5 => ?_) (hf := fun hc5 => ?_)
     ·
      rw [if_pos (by omega)] at e1
      rw [← e1]
      refine .seq ?_
      refine .region rfl ?_
      refine R.assign (h := ?_)
      refine R.assign (h := ?_)
      refine .n0 ?_
      exact LGo.ret (ret_TT Tryz.results91 hA hmd)
     ·
      rw [if_neg (by omega)] at e1
      refine .skip ?_
      refine .seq ?_
      refine .seq ?_
      refine .region rfl ?_
      refine R.assign (h := ?_)
      refine .n0 ?_
      refine .block ?_
      refine .loop ?_
      refine LGo.loopG (σ := Nat) (fun x => x ≤ s.calls.length ∧ callGo s.calls.length x (s.calls.drop x) = g) (fun x => [(6, (true, .i (x : Nat)))]) (fun x => [(0, .box 29 (s.c.map LV.sv))]) (fun x => s.calls.length - x) (0) [(1, _)] ⟨Nat.zero_le _, e1⟩ (by repeat (first | exact trivial | refine ⟨rfl, ?_⟩)) (by repeat (first | exact trivial | refine ⟨rfl, ?_⟩)) (by repeat (first | exact trivial | refine ⟨rfl, ?_⟩)) ?_
      rintro k ⟨hk, hq⟩ ih
      refine .seq ?_
      refine .seq ?_
      refine .region rfl ?_
      refine R.move (h := ?_)
      first | refine R.field F29_4 (h := ?_) | refine R.fieldAt F29_4 (h := ?_)
      first | refine R.loadB O26 (h := ?_) | refine R.load1 O26 (h := ?_)
      first | refine R.len S26 (h := ?_) | refine R.lenRs S26 (h := ?_) | refine R.lenV (run_lenNil S26) (h := ?_)
      rw [List.length_map]
      refine R.bin (run_lss _ _ _ _ _ _) (h := ?_)
      refine .n0 ?_
      refine LGo.ifd (ht := fun hc6 => ?_) (hf := fun hc6 => ?_)
      ·
       have hlt : k < s.calls.length := by omega
       rw [List.drop_eq_getElem_cons hlt, callGo] at hq
       refine .skip ?_
       refine .seq ?_
       refine .block ?_
       refine .seq ?_
       refine .region rfl ?_
       first | refine R.loadA A29 (h := ?_) | refine R.loadN A29 (h := ?_) | refine R.loadP A29 (h := ?_)
       refine R.move (h := ?_)
       refine R.callP (es := [_, _]) (fun _ => callR_P s hs k hlt) (h := ?_)
       generalize callE s.calls.length s.calls[k] = ce at hq ⊢
       refine R.assign (h := ?_)
       refine .n0 ?_
       refine .seq ?_
       refine .region rfl ?_
       refine R.move (h := ?_)
       refine R.bin (run_neq _ _ _ _ _ _) (h := ?_)
       refine .n0 ?_
       refine LGo.ifb (ht := fun hc7 => ?_) (hf := fun hc7 => ?_)
       ·
        rw [if_pos (by simpa using hc7)] at hq
        rw [← hq]
        have hit := itoa_22 (n := (k : Int)) (by unfold R64; omega)
        refine .seq ?_
        refine .region rfl ?_
        refine R.move (h := ?_)
        refine R.callP (es := [_]) (fun _ => digits30_P k (by unfold R64; omega)) (h := ?_)
        refine R.bin (run_addT _ _ _ ([99, 97, 108, 108] ++ [32]) (Lib.itoa k) (by simp; omega)) (h := ?_)
        refine R.move (h := ?_)
        refine R.assign (h := ?_)
        refine R.assign (h := ?_)
        refine .n0 ?_
        exact LGo.ret (ret_TT Tryz.results91 hA hmd)
       ·
        rw [if_neg (by simpa using hc7)] at hq
        refine .skip ?_
        refine .inBlock ?_
        refine .region rfl ?_
        refine R.move (h := ?_)
        first | refine R.add (h := ?_) | refine R.addW (h := ?_)
        refine R.assign (h := ?_)
        refine .n0 ?_
        refine .inLoop ?_
        exact LGo.next _ (fun o h => by have := (hA o).1 h; omega) (by omega) (ih (k + 1) ⟨by omega, hq⟩ (by omega)) (by repeat (first | exact trivial | refine ⟨rfl, ?_⟩)) ⟨rfl, trivial⟩
      ·
       rw [List.drop_eq_nil_of_le (show s.calls.length ≤ k by omega), callGo] at hq
       rw [← hq]
       refine .exit rfl ?_
       refine .seq ?_
       refine .region rfl ?_
       refine R.assign (h := ?_)
       refine R.assign (h := ?_)
       refine .n0 ?_
       exact LGo.ret (ret_TT Tryz.results91 hA hmd)

theorem and_or3 {a b c r : Bool} (h : ((a && b) && c) = false) : (a && ((b && c) || r)) = (a && r) := by cases a <;> cases b <;> cases c <;> cases r <;> simp_all
def evQ (lo hi : Int) (z : SrE) (bf : List SrE) : Int :=
  if (decide (hi > 0) && (decide (z.a < lo) || decide (z.a > hi))) = true then 7 else if (decide (z.kind = 1) && bf.any fun y => decide (y.kind = 1) && decide (y.a = z.a)) = true then 8 else 0

theorem eventR_P (s : Sc) (hs : s.sm) (i : Nat) (hi : i < s.evs.length) : PC Tryz.prog 92 [.agg (s.c.map LV.sv), .i i] (.i (evR s (s.evs.take i) s.evs[i])) := by
 refine ⟨LC.of_go Tryz.func92 (c := _) rfl (by kernel_rfl) (by rw [Tryz.ntmps92]; simp) rfl rfl (by simp [LO.lt, LV.lts, LV.lt, lts_sv]) (by simp) ?_⟩
 intro B hA hmd
 have hel := hs.el
 have hcl := hs.cl
 unfold maxLen at hel hcl
 have hx : (s.evs.map SrE.c)[((i : Nat) : Int).toNat]? = some s.evs[i].c := by simp [hi]
 generalize s.evs[i] = z at hx ⊢
 obtain ⟨g, e1⟩ : ∃ g, evR s (s.evs.take i) z = g := ⟨_, rfl⟩
 rw [e1]
 unfold evR at e1
 refine .seq ?_
 refine .region rfl ?_
 refine R.box (h := ?_)
 refine R.assign (h := ?_)
 refine .n0 ?_
 refine .seq ?_
 refine .region rfl ?_
 first | refine R.field F29_5 (h := ?_) | refine R.fieldAt F29_5 (h := ?_)
 first | refine R.loadB O27 (h := ?_) | refine R.load1 O27 (h := ?_)
 refine R.move (h := ?_)
 refine R.index I27 (hj := fun hg => ⟨by omega, hx⟩) (h := ?_)
 first | refine R.loadA A58 (h := ?_) | refine R.loadN A58 (h := ?_) | refine R.loadP A58 (h := ?_)
 refine R.alloc Z58 (h := ?_)
 refine R.storeA A58 (h := ?_)
 refine .n0 ?_
 refine .seq ?_
 refine .seq ?_
 refine .region rfl ?_
 first | refine R.field F58_0 (h := ?_) | refine R.fieldAt F58_0 (h := ?_)
 first | refine R.loadB O3 (h := ?_) | refine R.load1 O3 (h := ?_)
 refine R.bin (run_lss _ _ _ _ _ _) (h := ?_)
 refine R.move (h := ?_)
 first | refine R.field F58_0 (h := ?_) | refine R.fieldAt F58_0 (h := ?_)
 first | refine R.loadB O3 (h := ?_) | refine R.load1 O3 (h := ?_)
 refine R.bin (run_gtr _ _ _ _ _ _) (h := ?_)
 refine R.or (h := ?_)
 refine R.move (h := ?_)
 first | refine R.field F58_0 (h := ?_) | refine R.fieldAt F58_0 (h := ?_)
 first | refine R.loadB O3 (h := ?_) | refine R.load1 O3 (h := ?_)
 refine R.bin (run_neq _ _ _ _ _ _) (h := ?_)
 refine R.move (h := ?_)
 first | refine R.field F58_2 (h := ?_) | refine R.fieldAt F58_2 (h := ?_)
 first | refine R.loadB O2 (h := ?_) | refine R.load1 O2 (h := ?_)
 refine R.bin (run_neq _ _ _ _ _ _) (h := ?_)
 refine R.and (h := ?_)
 refine R.or (h := ?_)
 refine .n0 ?_
 refine LGo.ifb (ht := fun hc => ?_) (hf := fun hc => ?_)
 ·
  rw [if_pos hc] at e1
  rw [← e1]
  refine .seq ?_
  refine .region rfl ?_
  refine R.assign (h := ?_)
  refine .n0 ?_
  exact LGo.ret (ret_T Tryz.results92 hA hmd)
 ·
  rw [if_neg (by rw [hc]; simp)] at e1
  refine .skip ?_
  refine .seq ?_
  refine .region rfl ?_
  refine R.assign (h := ?_)
  refine R.assign (h := ?_)
  refine .n0 ?_
  refine .seq ?_
  refine .seq ?_
  refine .region rfl ?_
  first | refine R.field F58_0 (h := ?_) | refine R.fieldAt F58_0 (h := ?_)
  first | refine R.loadB O3 (h := ?_) | refine R.load1 O3 (h := ?_)
  refine .n0 ?_
  refine LGo.cut (σ := Int × Int) (fun x => evQ x.1 x.2 z (s.evs.take i) = g) (fun x => [(6, (true, .i x.1)), (7, (true, .i x.2))]) (fun x => [(0, .box 29 (s.c.map LV.sv)), (1, .box 58 (z.c.map LV.sv))]) 2 [(1, _), (2, _), (5, _)] (by repeat (first | exact trivial | refine ⟨rfl, ?_⟩)) ?_ (fun hcut => ?_)
  ·
   rintro ⟨lo, hi2⟩ e2
   dsimp only at *
   unfold evQ at e2
   refine .seq ?_
   refine .seq ?_
   refine .region rfl ?_
   refine R.move (h := ?_)
   refine R.bin (run_gtr _ _ _ _ _ _) (h := ?_)
   refine R.move (h := ?_)
   first | refine R.field F58_1 (h := ?_) | refine R.fieldAt F58_1 (h := ?_)
   first | refine R.loadB O2 (h := ?_) | refine R.load1 O2 (h := ?_)
   refine R.move (h := ?_)
   refine R.bin (run_lss _ _ _ _ _ _) (h := ?_)
   refine R.move (h := ?_)
   first | refine R.field F58_1 (h := ?_) | refine R.fieldAt F58_1 (h := ?_)
   first | refine R.loadB O2 (h := ?_) | refine R.load1 O2 (h := ?_)
   refine R.move (h := ?_)
   refine R.bin (run_gtr _ _ _ _ _ _) (h := ?_)
   refine R.or (h := ?_)
   refine R.and (h := ?_)
   refine .n0 ?_
   refine LGo.ifb (ht := fun hc2 => ?_) (hf := fun hc2 => ?_)
   ·
    rw [if_pos hc2] at e2
    rw [← e2]
    refine .seq ?_
    refine .region rfl ?_
    refine R.assign (h := ?_)
    refine .n0 ?_
    exact LGo.ret (ret_T Tryz.results92 hA hmd)
   ·
    rw [if_neg (by rw [hc2]; simp)] at e2
    refine .skip ?_
    refine .seq ?_
    refine .seq ?_
    refine .region rfl ?_
    refine R.assign (h := ?_)
    refine .n0 ?_
    refine .block ?_
    refine .loop ?_
    refine LGo.loopG (σ := Nat) (fun x => x ≤ i ∧ (if (decide (z.kind = 1) && ((s.evs.take i).drop x).any fun y => decide (y.kind = 1) && decide (y.a = z.a)) = true then 8 else 0) = g) (fun x => [(8, (true, .i (x : Nat)))]) (fun x => [(0, .box 29 (s.c.map LV.sv)), (1, .box 58 (z.c.map LV.sv))]) (fun x => i - x) (0) [(1, _), (2, _), (5, _)] ⟨Nat.zero_le _, e2⟩ (by repeat (first | exact trivial | refine ⟨rfl, ?_⟩)) (by repeat (first | exact trivial | refine ⟨rfl, ?_⟩)) (by repeat (first | exact trivial | refine ⟨rfl, ?_⟩)) ?_
    rintro k ⟨hk, hq⟩ ih
    refine .seq ?_
    refine .seq ?_
    refine .region rfl ?_
    refine R.move (h := ?_)
    refine R.move (h := ?_)
    refine R.bin (run_lss _ _ _ _ _ _) (h := ?_)
    refine .n0 ?_
    refine LGo.ifd (ht := fun hc3 => ?_) (hf := fun hc3 => ?_)
    ·
     have hki : k < i := by omega
     have hkl : k < s.evs.length := by omega
     have hy : (s.evs.map SrE.c)[((k : Nat) : Int).toNat]? = some s.evs[k].c := by simp [hkl]
     rw [drop_take hkl hki, List.any_cons] at hq
     generalize s.evs[k] = y at hy hq
     refine .skip ?_
     refine .seq ?_
     refine .block ?_
     refine .seq ?_
     refine .region rfl ?_
     first | refine R.field F58_0 (h := ?_) | refine R.fieldAt F58_0 (h := ?_)
     first | refine R.loadB O3 (h := ?_) | refine R.load1 O3 (h := ?_)
     refine R.bin (run_eql _ _ _ _ _ _) (h := ?_)
     refine R.move (h := ?_)
     first | refine R.field F29_5 (h := ?_) | refine R.fieldAt F29_5 (h := ?_)
     first | refine R.loadB O27 (h := ?_) | refine R.load1 O27 (h := ?_)
     refine R.move (h := ?_)
     refine R.index I27 (hj := fun hg => ⟨by (simp at hg; omega), hy⟩) (h := ?_)
     first | refine R.field F58_0 (h := ?_) | refine R.fieldAt F58_0 (h := ?_)
     first | refine R.loadB O3 (h := ?_) | refine R.load1 O3 (h := ?_)
     refine R.bin (run_eql _ _ _ _ _ _) (h := ?_)
     refine R.and (h := ?_)
     refine R.move (h := ?_)
     first | refine R.field F29_5 (h := ?_) | refine R.fieldAt F29_5 (h := ?_)
     first | refine R.loadB O27 (h := ?_) | refine R.load1 O27 (h := ?_)
     refine R.move (h := ?_)
     refine R.index I27 (hj := fun hg => ⟨by (simp at hg; omega), hy⟩) (h := ?_)
     first | refine R.field F58_1 (h := ?_) | refine R.fieldAt F58_1 (h := ?_)
     first | refine R.loadB O2 (h := ?_) | refine R.load1 O2 (h := ?_)
     first | refine R.field F58_1 (h := ?_) | refine R.fieldAt F58_1 (h := ?_)
     first | refine R.loadB O2 (h := ?_) | refine R.load1 O2 (h := ?_)
     refine R.bin (run_eql _ _ _ _ _ _) (h := ?_)
     refine R.and (h := ?_)
     refine Reg.nil ⟨fun _ => ⟨mixedO, by rfl, by rfl⟩, ?_⟩
     refine LGo.ifb (ht := fun hc4 => ?_) (hf := fun hc4 => ?_)
     ·
      simp only [Bool.and_eq_true, decide_eq_true_eq] at hc4
      rw [if_pos (by simp [hc4])] at hq
      rw [← hq]
      refine .seq ?_
      refine .region rfl ?_
      refine R.assign (h := ?_)
      refine .n0 ?_
      exact LGo.ret (ret_T Tryz.results92 hA hmd)
     ·
      rw [and_or3 hc4] at hq
      refine .skip ?_
      refine .inBlock ?_
      refine .region rfl ?_
      refine R.move (h := ?_)
      first | refine R.add (h := ?_) | refine R.addW (h := ?_)
      refine R.assign (h := ?_)
      refine .n0 ?_
      refine .inLoop ?_
      exact LGo.next _ (fun o h => by have := (hA o).1 h; omega) (by omega) (ih (k + 1) ⟨by omega, hq⟩ (by omega)) (by repeat (first | exact trivial | refine ⟨rfl, ?_⟩)) ⟨rfl, rfl, trivial⟩
    ·
     rw [List.drop_eq_nil_of_le (show (s.evs.take i).length ≤ k by rw [List.length_take]; omega), List.any_nil, Bool.and_false, if_neg (by simp)] at hq
     rw [← hq]
     refine .exit rfl ?_
     refine .seq ?_
     refine .region rfl ?_
     refine R.assign (h := ?_)
     refine .n0 ?_
     exact LGo.ret (ret_T Tryz.results92 hA hmd)
  ·
   refine .block ?_
   refine .seq ?_
   refine .region rfl ?_
   refine R.bin (run_eql _ _ _ _ _ _) (h := ?_)
   refine R.assign (h := ?_)
   refine .n0 ?_
   refine LGo.ifd (ht := fun hc5 => ?_) (hf := fun hc5 => ?_)
   ·
    rw [if_pos hc5] at e1
    refine .seq ?_
    refine .seq ?_
    refine .region rfl ?_
    first | refine R.field F58_1 (h := ?_) | refine R.fieldAt F58_1 (h := ?_)
    first | refine R.loadB O2 (h := ?_) | refine R.load1 O2 (h := ?_)
    refine R.bin (run_lss _ _ _ _ _ _) (h := ?_)
    refine R.move (h := ?_)
    first | refine R.field F58_1 (h := ?_) | refine R.fieldAt F58_1 (h := ?_)
    first | refine R.loadB O2 (h := ?_) | refine R.load1 O2 (h := ?_)
    first | refine R.field F29_4 (h := ?_) | refine R.fieldAt F29_4 (h := ?_)
    first | refine R.loadB O26 (h := ?_) | refine R.load1 O26 (h := ?_)
    first | refine R.len S26 (h := ?_) | refine R.lenRs S26 (h := ?_) | refine R.lenV (run_lenNil S26) (h := ?_)
    rw [List.length_map]
    refine R.bin (run_geq _ _ _ _ _ _) (h := ?_)
    refine R.or (h := ?_)
    refine .n0 ?_
    refine LGo.ifb (ht := fun hc6 => ?_) (hf := fun hc6 => ?_)
    ·
     rw [if_pos hc6] at e1
     rw [← e1]
     refine .seq ?_
     refine .region rfl ?_
     refine R.assign (h := ?_)
     refine .n0 ?_
     exact LGo.ret (ret_T Tryz.results92 hA hmd)
    ·
     rw [if_neg (by rw [hc6]; simp)] at e1
     refine .skip ?_
     refine .seq ?_
     refine .region rfl ?_
     first | refine R.field F58_2 (h := ?_) | refine R.fieldAt F58_2 (h := ?_)
     first | refine R.loadB O2 (h := ?_) | refine R.load1 O2 (h := ?_)
     refine R.bin (run_lss _ _ _ _ _ _) (h := ?_)
     refine R.move (h := ?_)
     first | refine R.field F58_2 (h := ?_) | refine R.fieldAt F58_2 (h := ?_)
     first | refine R.loadB O2 (h := ?_) | refine R.load1 O2 (h := ?_)
     first | refine R.field F29_3 (h := ?_) | refine R.fieldAt F29_3 (h := ?_)
     first | refine R.loadB O3 (h := ?_) | refine R.load1 O3 (h := ?_)
     refine R.bin (run_gtr _ _ _ _ _ _) (h := ?_)
     refine R.or (h := ?_)
     refine .n0 ?_
     refine LGo.ifb (ht := fun hc7 => ?_) (hf := fun hc7 => ?_)
     ·
      rw [if_pos hc7] at e1
      rw [← e1]
      refine .seq ?_
      refine .region rfl ?_
      refine R.assign (h := ?_)
      refine .n0 ?_
      exact LGo.ret (ret_T Tryz.results92 hA hmd)
     ·
      rw [if_neg (by rw [hc7]; simp)] at e1
      refine .skip ?_
      refine .inBlock ?_
      exact LGo.next _ (fun o h => by have := (hA o).1 h; omega) (by omega) (hcut (0, 0) (by unfold evQ; rw [← e1]; simp [hc5])) (by repeat (first | exact trivial | refine ⟨rfl, ?_⟩)) (by repeat (first | exact trivial | refine ⟨rfl, ?_⟩))
   ·
    rw [if_neg hc5] at e1
    refine .seq ?_
    refine .region rfl ?_
    refine R.bin (run_eql _ _ _ _ _ _) (h := ?_)
    refine R.assign (h := ?_)
    refine .n0 ?_
    refine LGo.ifd (ht := fun hc8 => ?_) (hf := fun hc8 => ?_)
    ·
     rw [if_pos hc8] at e1
     refine .region rfl ?_
     refine R.assign (h := ?_)
     refine .n0 ?_
     refine .inBlock ?_
     exact LGo.next _ (fun o h => by have := (hA o).1 h; omega) (by omega) (hcut (0, 1000000) (by unfold evQ; rw [← e1]; simp [hc8])) (by repeat (first | exact trivial | refine ⟨rfl, ?_⟩)) (by repeat (first | exact trivial | refine ⟨rfl, ?_⟩))
    ·
     rw [if_neg hc8] at e1
     refine .seq ?_
     refine .region rfl ?_
     refine R.bin (run_eql _ _ _ _ _ _) (h := ?_)
     refine R.assign (h := ?_)
     refine .n0 ?_
     refine LGo.ifd (ht := fun hc9 => ?_) (hf := fun hc9 => ?_)
     ·
      rw [if_pos hc9] at e1
      refine .region rfl ?_
      refine R.assign (h := ?_)
      refine R.assign (h := ?_)
      refine .n0 ?_
      refine .inBlock ?_
      exact LGo.next _ (fun o h => by have := (hA o).1 h; omega) (by omega) (hcut (1, 1000) (by unfold evQ; rw [← e1]; simp [hc9])) (by repeat (first | exact trivial | refine ⟨rfl, ?_⟩)) (by repeat (first | exact trivial | refine ⟨rfl, ?_⟩))
     ·
      rw [if_neg hc9] at e1
      refine .region rfl ?_
      refine R.assign (h := ?_)
      refine R.assign (h := ?_)
      refine .n0 ?_
      refine .inBlock ?_
      exact LGo.next _ (fun o h => by have := (hA o).1 h; omega) (by omega) (hcut (1, 1000000000) (by unfold evQ; rw [← e1]; simp [hc5])) (by repeat (first | exact trivial | refine ⟨rfl, ?_⟩)) (by repeat (first | exact trivial | refine ⟨rfl, ?_⟩))

theorem checkR_P (s : Sc) (hs : s.sm) : PC Tryz.prog 25 [.agg (s.c.map LV.sv)] (.tup [.t (checkS s).1, .i (checkS s).2]) := by
 refine ⟨LC.of_go Tryz.func25 (c := _) rfl (by kernel_rfl) (by rw [Tryz.ntmps25]; simp) rfl rfl (by simp [LO.lt, LV.lts, LV.lt, lts_sv]) (by simp) ?_⟩
 intro B hA hmd
 obtain ⟨g, e0⟩ : ∃ g, checkS s = g := ⟨_, rfl⟩
 have e1 := e0
 unfold checkS at e1
 rw [e0]
 rw [← chkR_eq] at e1
 have hel := hs.el
 unfold maxLen at hel
 refine .seq ?_
 refine .region rfl ?_
 refine R.box (h := ?_)
 refine R.assign (h := ?_)
 refine R.assign (h := ?_)
 refine .n0 ?_
 refine .seq ?_
 refine .region rfl ?_
 first | refine R.loadA A29 (h := ?_) | refine R.loadN A29 (h := ?_) | refine R.loadP A29 (h := ?_)
 refine R.callP (es := [_]) (fun _ => baseR_P s hs) (h := ?_)
 refine R.move (h := ?_)
 refine R.extract (h := ?_)
 refine R.extract (h := ?_)
 refine R.assign (h := ?_)
 refine R.assign (h := ?_)
 refine .n0 ?_
 refine .seq ?_
 refine .seq ?_
 refine .region rfl ?_
 refine R.move (h := ?_)
 refine R.bin (run_neq _ _ _ _ _ _) (h := ?_)
 refine .n0 ?_
 refine LGo.ifb (ht := fun hc => ?_) (hf := fun hc => ?_)
 ·
  rw [if_pos (by simpa using hc)] at e1
  rw [← e1]
  refine .seq ?_
  refine .region rfl ?_
  refine R.move (h := ?_)
  refine R.move (h := ?_)
  refine R.assign (h := ?_)
  refine R.assign (h := ?_)
  refine .n0 ?_
  exact LGo.ret (ret_TT Tryz.results25 hA hmd)
 ·
  rw [if_neg (by simpa using hc)] at e1
  refine .skip ?_
  refine .seq ?_
  refine .seq ?_
  refine .region rfl ?_
  first | refine R.field F29_5 (h := ?_) | refine R.fieldAt F29_5 (h := ?_)
  first | refine R.loadB O27 (h := ?_) | refine R.load1 O27 (h := ?_)
  first | refine R.len S27 (h := ?_) | refine R.lenRs S27 (h := ?_) | refine R.lenV (run_lenNil S27) (h := ?_)
  rw [List.length_map]
  refine R.bin (run_gtr _ _ _ _ _ _) (h := ?_)
  refine .n0 ?_
  refine LGo.ifd (ht := fun hc2 => ?_) (hf := fun hc2 => ?_)
  ·
   rw [if_pos (by omega)] at e1
   rw [← e1]
   refine .seq ?_
   refine .region rfl ?_
   refine R.assign (h := ?_)
   refine R.assign (h := ?_)
   refine .n0 ?_
   exact LGo.ret (ret_TT Tryz.results25 hA hmd)
  ·
   rw [if_neg (by omega)] at e1
   refine .skip ?_
   refine .seq ?_
   refine .seq ?_
   refine .region rfl ?_
   refine R.assign (h := ?_)
   refine .n0 ?_
   refine .block ?_
   refine .loop ?_
   refine LGo.loopG (σ := Nat) (fun x => x ≤ s.evs.length ∧ chkGoR s x (s.evs.take x) (s.evs.drop x) = g) (fun x => [(6, (true, .i (x : Nat)))]) (fun x => [(0, .box 29 (s.c.map LV.sv))]) (fun x => s.evs.length - x) (0) [(1, _)] ⟨Nat.zero_le _, e1⟩ (by repeat (first | exact trivial | refine ⟨rfl, ?_⟩)) (by repeat (first | exact trivial | refine ⟨rfl, ?_⟩)) (by repeat (first | exact trivial | refine ⟨rfl, ?_⟩)) ?_
   rintro k ⟨hk, hq⟩ ih
   refine .seq ?_
   refine .seq ?_
   refine .region rfl ?_
   refine R.move (h := ?_)
   first | refine R.field F29_5 (h := ?_) | refine R.fieldAt F29_5 (h := ?_)
   first | refine R.loadB O27 (h := ?_) | refine R.load1 O27 (h := ?_)
   first | refine R.len S27 (h := ?_) | refine R.lenRs S27 (h := ?_) | refine R.lenV (run_lenNil S27) (h := ?_)
   rw [List.length_map]
   refine R.bin (run_lss _ _ _ _ _ _) (h := ?_)
   refine .n0 ?_
   refine LGo.ifd (ht := fun hc3 => ?_) (hf := fun hc3 => ?_)
   ·
    have hlt : k < s.evs.length := by omega
    rw [List.drop_eq_getElem_cons hlt, chkGoR, ← List.take_succ_eq_append_getElem hlt] at hq
    refine .skip ?_
    refine .seq ?_
    refine .block ?_
    refine .seq ?_
    refine .region rfl ?_
    first | refine R.loadA A29 (h := ?_) | refine R.loadN A29 (h := ?_) | refine R.loadP A29 (h := ?_)
    refine R.move (h := ?_)
    refine R.callP (es := [_, _]) (fun _ => eventR_P s hs k hlt) (h := ?_)
    generalize evR s (s.evs.take k) s.evs[k] = ee at hq ⊢
    refine R.assign (h := ?_)
    refine .n0 ?_
    refine .seq ?_
    refine .region rfl ?_
    refine R.move (h := ?_)
    refine R.bin (run_neq _ _ _ _ _ _) (h := ?_)
    refine .n0 ?_
    refine LGo.ifb (ht := fun hc4 => ?_) (hf := fun hc4 => ?_)
    ·
     rw [if_pos (by simpa using hc4)] at hq
     rw [← hq]
     have hit := itoa_22 (n := (k : Int)) (by unfold R64; omega)
     refine .seq ?_
     refine .region rfl ?_
     refine R.move (h := ?_)
     refine R.callP (es := [_]) (fun _ => digits30_P k (by unfold R64; omega)) (h := ?_)
     refine R.bin (run_addT _ _ _ ([101, 118, 101, 110, 116] ++ [32]) (Lib.itoa k) (by simp; omega)) (h := ?_)
     refine R.move (h := ?_)
     refine R.assign (h := ?_)
     refine R.assign (h := ?_)
     refine .n0 ?_
     exact LGo.ret (ret_TT Tryz.results25 hA hmd)
    ·
     rw [if_neg (by simpa using hc4)] at hq
     refine .skip ?_
     refine .inBlock ?_
     refine .region rfl ?_
     refine R.move (h := ?_)
     first | refine R.add (h := ?_) | refine R.addW (h := ?_)
     refine R.assign (h := ?_)
     refine .n0 ?_
     refine .inLoop ?_
     exact LGo.next _ (fun o h => by have := (hA o).1 h; omega) (by omega) (ih (k + 1) ⟨by omega, hq⟩ (by omega)) (by repeat (first | exact trivial | refine ⟨rfl, ?_⟩)) ⟨rfl, trivial⟩
   ·
    rw [List.drop_eq_nil_of_le (show s.evs.length ≤ k by omega), chkGoR] at hq
    rw [← hq]
    refine .exit rfl ?_
    refine .seq ?_
    refine .region rfl ?_
    refine R.assign (h := ?_)
    refine R.assign (h := ?_)
    refine .n0 ?_
    exact LGo.ret (ret_TT Tryz.results25 hA hmd)

end Go.Proofs.YteccglgbkehdeaaGreatDoor
/- scripts, the reference: equal numbers, venues, gates, scripts. -/
set_option linter.unusedSimpArgs false
set_option linter.unusedVariables false
namespace Go.Proofs.YteccglgbkehdeaaGreatDoor

theorem ints_P (a b : List Int) (ha : a.length ≤ 100000) (hb : b.length ≤ 100000) : PC Tryz.prog 33 [.sv (.sl 1 (ic .i64 a)), .sv (.sl 1 (ic .i64 b))] (.b (decide (a = b))) := by
 refine ⟨LC.of_go Tryz.func33 (c := _) rfl (by kernel_rfl) (by rw [Tryz.ntmps33]; simp) rfl rfl (by simp [LO.lt, LV.lts, LV.lt, lts_sv]) (by simp) ?_⟩
 intro B hA hmd
 obtain ⟨g, e0⟩ : ∃ g, decide (a = b) = g := ⟨_, rfl⟩
 rw [e0]
 refine .seq ?_
 refine .region rfl ?_
 refine R.assign (h := ?_)
 refine .n0 ?_
 refine .seq ?_
 refine .seq ?_
 refine .region rfl ?_
 refine R.move (h := ?_)
 first | refine R.len S65 (h := ?_) | refine R.lenRs S65 (h := ?_) | refine R.lenV (run_lenNil S65) (h := ?_)
 rw [ic_len]
 refine R.move (h := ?_)
 first | refine R.len S65 (h := ?_) | refine R.lenRs S65 (h := ?_) | refine R.lenV (run_lenNil S65) (h := ?_)
 rw [ic_len]
 refine R.bin (run_neq _ _ _ _ _ _) (h := ?_)
 refine .n0 ?_
 refine LGo.ifb (ht := fun hc => ?_) (hf := fun hc => ?_)
 ·
  obtain rfl : g = false := by rw [← e0]; exact decide_eq_false (fun h => by rw [h] at hc; simp at hc)
  refine .seq ?_
  refine .region rfl ?_
  refine R.assign (h := ?_)
  refine .n0 ?_
  exact LGo.ret (ret_T Tryz.results33 hA hmd)
 ·
  have hll : a.length = b.length := by simp at hc; omega
  refine .skip ?_
  refine .seq ?_
  refine .seq ?_
  refine .region rfl ?_
  refine R.assign (h := ?_)
  refine .n0 ?_
  refine .block ?_
  refine .loop ?_
  refine LGo.loopG (σ := Nat) (fun x => x ≤ a.length ∧ a.take x = b.take x) (fun x => [(5, (true, .i (x : Nat)))]) (fun x => []) (fun x => a.length - x) (0) [(0, _), (1, _)] ⟨Nat.zero_le _, by simp⟩ (by repeat (first | exact trivial | refine ⟨rfl, ?_⟩)) (by repeat (first | exact trivial | refine ⟨rfl, ?_⟩)) (by repeat (first | exact trivial | refine ⟨rfl, ?_⟩)) ?_
  rintro k ⟨hk, hq⟩ ih
  refine .seq ?_
  refine .seq ?_
  refine .region rfl ?_
  refine R.move (h := ?_)
  refine R.move (h := ?_)
  first | refine R.len S65 (h := ?_) | refine R.lenRs S65 (h := ?_) | refine R.lenV (run_lenNil S65) (h := ?_)
  rw [ic_len]
  refine R.bin (run_lss _ _ _ _ _ _) (h := ?_)
  refine .n0 ?_
  refine LGo.ifd (ht := fun hc2 => ?_) (hf := fun hc2 => ?_)
  ·
   have hlt : k < a.length := by omega
   have hlt2 : k < b.length := by omega
   have hx := icA hlt
   have hy := icA hlt2
   have hp : a[k] = b[k] → a.take (k + 1) = b.take (k + 1) := fun h => by rw [List.take_succ_eq_append_getElem hlt, List.take_succ_eq_append_getElem hlt2, hq, h]
   have hn : a = b → a[k] = b[k] := fun h => by subst h; rfl
   generalize a[k] = p at hx hp hn
   generalize b[k] = q at hy hp hn
   refine .skip ?_
   refine .seq ?_
   refine .block ?_
   refine .seq ?_
   refine .region rfl ?_
   refine R.move (h := ?_)
   refine R.move (h := ?_)
   refine R.index I65 (hj := fun hg => ⟨by omega, hx⟩) (h := ?_)
   first | refine R.loadB O3 (h := ?_) | refine R.load1 O3 (h := ?_)
   refine R.move (h := ?_)
   refine R.move (h := ?_)
   refine R.index I65 (hj := fun hg => ⟨by omega, hy⟩) (h := ?_)
   first | refine R.loadB O3 (h := ?_) | refine R.load1 O3 (h := ?_)
   refine R.bin (run_neq _ _ _ _ _ _) (h := ?_)
   refine Reg.nil ⟨fun _ => ⟨mixedO, by rfl, by rfl⟩, ?_⟩
   refine LGo.ifb (ht := fun hc3 => ?_) (hf := fun hc3 => ?_)
   ·
    obtain rfl : g = false := by rw [← e0]; exact decide_eq_false (fun h => by rw [hn h] at hc3; simp at hc3)
    refine .seq ?_
    refine .region rfl ?_
    refine R.assign (h := ?_)
    refine .n0 ?_
    exact LGo.ret (ret_T Tryz.results33 hA hmd)
   ·
    have hp2 := hp (by simpa using hc3)
    refine .skip ?_
    refine .inBlock ?_
    refine .region rfl ?_
    refine R.move (h := ?_)
    first | refine R.add (h := ?_) | refine R.addW (h := ?_)
    refine R.assign (h := ?_)
    refine .n0 ?_
    refine .inLoop ?_
    exact LGo.next _ (fun o h => by have := (hA o).1 h; omega) (by omega) (ih (k + 1) ⟨by omega, hp2⟩ (by omega)) (by repeat (first | exact trivial | refine ⟨rfl, ?_⟩)) (by repeat (first | exact trivial | refine ⟨rfl, ?_⟩))
  ·
   obtain rfl : g = true := by rw [← e0]; exact decide_eq_true (by rwa [List.take_of_length_le (by omega), List.take_of_length_le (by omega)] at hq)
   refine .exit rfl ?_
   refine .seq ?_
   refine .region rfl ?_
   refine R.assign (h := ?_)
   refine .n0 ?_
   exact LGo.ret (ret_T Tryz.results33 hA hmd)

theorem ven_ext {a b : Ven} (h1 : a.shards = b.shards) (h2 : a.ttl = b.ttl) (h3 : a.session = b.session) (h4 : a.secs = b.secs) : a = b := by cases a; cases b; simp_all
theorem vn_ext {a b : VnS} (h1 : a.name = b.name) (h2 : a.rows = b.rows) (h3 : a.queue = b.queue) : a = b := by cases a; cases b; simp_all
theorem sc_ext {a b : Sc} (h1 : a.ven = b.ven) (h2 : a.key = b.key) (h3 : a.gates = b.gates) (h4 : a.workers = b.workers) (h5 : a.calls = b.calls) (h6 : a.evs = b.evs) : a = b := by cases a; cases b; simp_all
theorem srE_ne (x y : SrE) : (!((decide (x.kind = y.kind) && decide (x.a = y.a)) && decide (x.b = y.b))) = decide (x ≠ y) := by
  obtain ⟨a, b, c⟩ := x
  obtain ⟨d, e, f⟩ := y
  rw [Bool.eq_iff_iff]
  simp [SrE.mk.injEq, and_assoc, or_assoc]
theorem srC_ne (x y : SrC) : (!((((((((((decide (x.kind = y.kind) && decide (x.owner = y.owner)) && decide (x.tgt = y.tgt)) && decide (x.session = y.session)) && decide (x.ticket = y.ticket)) && decide (x.seat = y.seat)) && decide (x.sec = y.sec)) && decide (x.n = y.n)) && decide (x.gate = y.gate)) && decide (x.spoil = y.spoil)) && decide (x.raw = y.raw))) = decide (x ≠ y) := by
  obtain ⟨a, b, c, d, e, f, g, h, i, j, k⟩ := x
  obtain ⟨a', b', c', d', e', f', g', h', i', j', k'⟩ := y
  rw [Bool.eq_iff_iff]
  simp [SrC.mk.injEq, and_assoc, or_assoc]
structure Sc.sm2 (s : Sc) : Prop where
  vl : s.ven.secs.length ≤ 100000
  vr : ∀ x ∈ s.ven.secs, x.rows.length ≤ 100000
  gl : s.gates.length ≤ 100000
  gs : ∀ x ∈ s.gates, x.secs.length ≤ 100000
  cl : s.calls.length ≤ 100000
  el : s.evs.length ≤ 100000

theorem sameV_P (a b : Ven) (ha : a.secs.length ≤ 100000 ∧ ∀ x ∈ a.secs, x.rows.length ≤ 100000) (hb : b.secs.length ≤ 100000 ∧ ∀ x ∈ b.secs, x.rows.length ≤ 100000) : PC Tryz.prog 66 [.agg (a.c.map LV.sv), .agg (b.c.map LV.sv)] (.b (decide (a = b))) := by
 refine ⟨LC.of_go Tryz.func66 (c := _) rfl (by kernel_rfl) (by rw [Tryz.ntmps66]; simp) rfl rfl (by simp [LO.lt, LV.lts, LV.lt, lts_sv]) (by simp) ?_⟩
 intro B hA hmd
 obtain ⟨g, e0⟩ : ∃ g, decide (a = b) = g := ⟨_, rfl⟩
 rw [e0]
 obtain ⟨ha1, ha2⟩ := ha
 obtain ⟨hb1, hb2⟩ := hb
 refine .seq ?_
 refine .region rfl ?_
 refine R.box (h := ?_)
 refine R.box (h := ?_)
 refine R.assign (h := ?_)
 refine .n0 ?_
 refine .seq ?_
 refine .seq ?_
 refine .region rfl ?_
 first | refine R.field F24_0 (h := ?_) | refine R.fieldAt F24_0 (h := ?_)
 first | refine R.loadB O3 (h := ?_) | refine R.load1 O3 (h := ?_)
 first | refine R.field F24_0 (h := ?_) | refine R.fieldAt F24_0 (h := ?_)
 first | refine R.loadB O3 (h := ?_) | refine R.load1 O3 (h := ?_)
 refine R.bin (run_neq _ _ _ _ _ _) (h := ?_)
 refine R.move (h := ?_)
 first | refine R.field F24_1 (h := ?_) | refine R.fieldAt F24_1 (h := ?_)
 first | refine R.loadB O2 (h := ?_) | refine R.load1 O2 (h := ?_)
 first | refine R.field F24_1 (h := ?_) | refine R.fieldAt F24_1 (h := ?_)
 first | refine R.loadB O2 (h := ?_) | refine R.load1 O2 (h := ?_)
 refine R.bin (run_neq _ _ _ _ _ _) (h := ?_)
 refine R.or (h := ?_)
 refine R.move (h := ?_)
 first | refine R.field F24_2 (h := ?_) | refine R.fieldAt F24_2 (h := ?_)
 first | refine R.loadB O2 (h := ?_) | refine R.load1 O2 (h := ?_)
 first | refine R.field F24_2 (h := ?_) | refine R.fieldAt F24_2 (h := ?_)
 first | refine R.loadB O2 (h := ?_) | refine R.load1 O2 (h := ?_)
 refine R.bin (run_neq _ _ _ _ _ _) (h := ?_)
 refine R.or (h := ?_)
 refine R.move (h := ?_)
 first | refine R.field F24_3 (h := ?_) | refine R.fieldAt F24_3 (h := ?_)
 first | refine R.loadB O22 (h := ?_) | refine R.load1 O22 (h := ?_)
 first | refine R.len S22 (h := ?_) | refine R.lenRs S22 (h := ?_) | refine R.lenV (run_lenNil S22) (h := ?_)
 rw [List.length_map]
 first | refine R.field F24_3 (h := ?_) | refine R.fieldAt F24_3 (h := ?_)
 first | refine R.loadB O22 (h := ?_) | refine R.load1 O22 (h := ?_)
 first | refine R.len S22 (h := ?_) | refine R.lenRs S22 (h := ?_) | refine R.lenV (run_lenNil S22) (h := ?_)
 rw [List.length_map]
 refine R.bin (run_neq _ _ _ _ _ _) (h := ?_)
 refine R.or (h := ?_)
 refine .n0 ?_
 refine LGo.ifb (ht := fun hc => ?_) (hf := fun hc => ?_)
 ·
  obtain rfl : g = false := by rw [← e0]; exact decide_eq_false (fun h => by rw [h] at hc; simp at hc)
  refine .seq ?_
  refine .region rfl ?_
  refine R.assign (h := ?_)
  refine .n0 ?_
  exact LGo.ret (ret_T Tryz.results66 hA hmd)
 ·
  simp only [Bool.or_eq_false_iff, Bool.not_eq_eq_eq_not, Bool.not_false, decide_eq_true_eq] at hc
  obtain ⟨⟨⟨h1, h2⟩, h3⟩, h4⟩ := hc
  refine .skip ?_
  refine .seq ?_
  refine .seq ?_
  refine .region rfl ?_
  refine R.assign (h := ?_)
  refine .n0 ?_
  refine .block ?_
  refine .loop ?_
  refine LGo.loopG (σ := Nat) (fun x => x ≤ a.secs.length ∧ a.secs.take x = b.secs.take x) (fun x => [(5, (true, .i (x : Nat)))]) (fun x => [(0, .box 24 (a.c.map LV.sv)), (1, .box 24 (b.c.map LV.sv))]) (fun x => a.secs.length - x) (0) [(2, _), (3, _)] ⟨Nat.zero_le _, by simp⟩ (by repeat (first | exact trivial | refine ⟨rfl, ?_⟩)) (by repeat (first | exact trivial | refine ⟨rfl, ?_⟩)) (by repeat (first | exact trivial | refine ⟨rfl, ?_⟩)) ?_
  rintro k ⟨hk, hq⟩ ih
  refine .seq ?_
  refine .seq ?_
  refine .region rfl ?_
  refine R.move (h := ?_)
  first | refine R.field F24_3 (h := ?_) | refine R.fieldAt F24_3 (h := ?_)
  first | refine R.loadB O22 (h := ?_) | refine R.load1 O22 (h := ?_)
  first | refine R.len S22 (h := ?_) | refine R.lenRs S22 (h := ?_) | refine R.lenV (run_lenNil S22) (h := ?_)
  rw [List.length_map]
  refine R.bin (run_lss _ _ _ _ _ _) (h := ?_)
  refine .n0 ?_
  refine LGo.ifd (ht := fun hc2 => ?_) (hf := fun hc2 => ?_)
  ·
   have hlt : k < a.secs.length := by omega
   have hlt2 : k < b.secs.length := by omega
   have hx : (a.secs.map VnS.c)[((k : Nat) : Int).toNat]? = some a.secs[k].c := by simp [hlt]
   have hy : (b.secs.map VnS.c)[((k : Nat) : Int).toNat]? = some b.secs[k].c := by simp [hlt2]
   have hp : a.secs[k] = b.secs[k] → a.secs.take (k + 1) = b.secs.take (k + 1) := fun h => by rw [List.take_succ_eq_append_getElem hlt, List.take_succ_eq_append_getElem hlt2, hq, h]
   have hn : a = b → a.secs[k] = b.secs[k] := fun h => by subst h; rfl
   have hxl := ha2 _ (List.getElem_mem hlt)
   have hyl := hb2 _ (List.getElem_mem hlt2)
   generalize a.secs[k] = ga at hx hp hn hxl
   generalize b.secs[k] = gb at hy hp hn hyl
   refine .skip ?_
   refine .seq ?_
   refine .block ?_
   refine .seq ?_
   refine .region rfl ?_
   first | refine R.field F24_3 (h := ?_) | refine R.fieldAt F24_3 (h := ?_)
   first | refine R.loadB O22 (h := ?_) | refine R.load1 O22 (h := ?_)
   refine R.move (h := ?_)
   refine R.index I22 (hj := fun hg => ⟨by omega, hx⟩) (h := ?_)
   first | refine R.loadA A80 (h := ?_) | refine R.loadN A80 (h := ?_) | refine R.loadP A80 (h := ?_)
   first | refine R.field F24_3 (h := ?_) | refine R.fieldAt F24_3 (h := ?_)
   first | refine R.loadB O22 (h := ?_) | refine R.load1 O22 (h := ?_)
   refine R.move (h := ?_)
   refine R.index I22 (hj := fun hg => ⟨by omega, hy⟩) (h := ?_)
   first | refine R.loadA A80 (h := ?_) | refine R.loadN A80 (h := ?_) | refine R.loadP A80 (h := ?_)
   refine R.alloc Z80 (h := ?_)
   refine R.alloc Z80 (h := ?_)
   refine R.storeA A80 (h := ?_)
   refine R.storeA A80 (h := ?_)
   refine Reg.nil ⟨fun _ => ⟨mixedO, by rfl, by rfl⟩, ?_⟩
   refine .seq ?_
   refine .region rfl ?_
   first | refine R.field F80_0 (h := ?_) | refine R.fieldAt F80_0 (h := ?_)
   first | refine R.loadB O9 (h := ?_) | refine R.load1 O9 (h := ?_)
   first | refine R.field F80_0 (h := ?_) | refine R.fieldAt F80_0 (h := ?_)
   first | refine R.loadB O9 (h := ?_) | refine R.load1 O9 (h := ?_)
   refine R.bin (run_neqT _ _ _ _ _) (h := ?_)
   refine R.move (h := ?_)
   first | refine R.field F80_2 (h := ?_) | refine R.fieldAt F80_2 (h := ?_)
   first | refine R.loadB O3 (h := ?_) | refine R.load1 O3 (h := ?_)
   first | refine R.field F80_2 (h := ?_) | refine R.fieldAt F80_2 (h := ?_)
   first | refine R.loadB O3 (h := ?_) | refine R.load1 O3 (h := ?_)
   refine R.bin (run_neq _ _ _ _ _ _) (h := ?_)
   refine R.or (h := ?_)
   refine R.move (h := ?_)
   first | refine R.field F80_1 (h := ?_) | refine R.fieldAt F80_1 (h := ?_)
   first | refine R.loadB O65 (h := ?_) | refine R.load1 O65 (h := ?_)
   first | refine R.field F80_1 (h := ?_) | refine R.fieldAt F80_1 (h := ?_)
   first | refine R.loadB O65 (h := ?_) | refine R.load1 O65 (h := ?_)
   refine R.callP (es := [_, _]) (fun _ => ints_P ga.rows gb.rows hxl hyl) (h := ?_)
   refine R.not (h := ?_)
   refine R.or (h := ?_)
   refine .n0 ?_
   refine LGo.ifb (ht := fun hc3 => ?_) (hf := fun hc3 => ?_)
   ·
    obtain rfl : g = false := by rw [← e0]; exact decide_eq_false (fun h => by rw [hn h] at hc3; simp at hc3)
    refine .seq ?_
    refine .region rfl ?_
    refine R.assign (h := ?_)
    refine .n0 ?_
    exact LGo.ret (ret_T Tryz.results66 hA hmd)
   ·
    simp only [Bool.or_eq_false_iff, Bool.not_eq_eq_eq_not, Bool.not_false, decide_eq_true_eq] at hc3
    obtain ⟨⟨hf1, hf2⟩, hf3⟩ := hc3
    refine .skip ?_
    refine .inBlock ?_
    refine .region rfl ?_
    refine R.move (h := ?_)
    first | refine R.add (h := ?_) | refine R.addW (h := ?_)
    refine R.assign (h := ?_)
    refine .n0 ?_
    refine .inLoop ?_
    exact LGo.next _ (fun o h => by have := (hA o).1 h; omega) (by omega) (ih (k + 1) ⟨by omega, hp (vn_ext hf1 hf3 hf2)⟩ (by omega)) (by repeat (first | exact trivial | refine ⟨rfl, ?_⟩)) ⟨rfl, rfl, trivial⟩
  ·
   obtain rfl : g = true := by rw [← e0]; exact decide_eq_true (ven_ext h1 h2 h3 (by rwa [List.take_of_length_le (by omega), List.take_of_length_le (by omega)] at hq))
   refine .exit rfl ?_
   refine .seq ?_
   refine .region rfl ?_
   refine R.assign (h := ?_)
   refine .n0 ?_
   exact LGo.ret (ret_T Tryz.results66 hA hmd)

theorem ext_g {a b : GtS} (h1 : a.gates = b.gates) (h2 : a.ents = b.ents) : a = b := by cases a; cases b; simp_all
theorem en_eq (x y : GtE) : (!((((decide (x.seat = y.seat) && decide (x.serial = y.serial)) && decide (x.epoch = y.epoch)) && decide (x.gate = y.gate)) && decide (x.time = y.time))) = decide (x ≠ y) := by
  obtain ⟨a, b, c, d, e⟩ := x
  obtain ⟨a', b', c', d', e'⟩ := y
  rw [Bool.eq_iff_iff]
  simp only [Bool.not_eq_true', Bool.and_eq_false_iff, decide_eq_false_iff_not, decide_eq_true_eq, ne_eq, GtE.mk.injEq]
  omega

theorem same_P (a b : GtS) (ha : SmS a) (hb : SmS b) : PC Tryz.prog 142 [.agg (a.c.map LV.sv), .agg (b.c.map LV.sv)] (.b (decide (a = b))) := by
 refine ⟨LC.of_go Tryz.func142 (c := _) rfl (by kernel_rfl) (by rw [Tryz.ntmps142]; simp) rfl rfl (by simp [LO.lt, LV.lts, LV.lt, lts_sv]) (by simp) ?_⟩
 intro B hA hmd
 obtain ⟨g, e0⟩ : ∃ g, decide (a = b) = g := ⟨_, rfl⟩
 rw [e0]
 obtain ⟨⟨ha1, ha2⟩, ha3, _⟩ := ha
 obtain ⟨⟨hb1, hb2⟩, hb3, _⟩ := hb
 refine .seq ?_
 refine .region rfl ?_
 refine R.box (h := ?_)
 refine R.box (h := ?_)
 refine R.assign (h := ?_)
 refine .n0 ?_
 refine .seq ?_
 refine .seq ?_
 refine .region rfl ?_
 first | refine R.field F99_0 (h := ?_) | refine R.fieldAt F99_0 (h := ?_)
 first | refine R.loadB O25 (h := ?_) | refine R.load1 O25 (h := ?_)
 first | refine R.len S25 (h := ?_) | refine R.lenRs S25 (h := ?_) | refine R.lenV (run_lenNil S25) (h := ?_)
 rw [List.length_map]
 first | refine R.field F99_0 (h := ?_) | refine R.fieldAt F99_0 (h := ?_)
 first | refine R.loadB O25 (h := ?_) | refine R.load1 O25 (h := ?_)
 first | refine R.len S25 (h := ?_) | refine R.lenRs S25 (h := ?_) | refine R.lenV (run_lenNil S25) (h := ?_)
 rw [List.length_map]
 refine R.bin (run_neq _ _ _ _ _ _) (h := ?_)
 refine R.move (h := ?_)
 first | refine R.field F99_1 (h := ?_) | refine R.fieldAt F99_1 (h := ?_)
 first | refine R.loadB O97 (h := ?_) | refine R.load1 O97 (h := ?_)
 first | refine R.len S97 (h := ?_) | refine R.lenRs S97 (h := ?_) | refine R.lenV (run_lenNil S97) (h := ?_)
 rw [List.length_map]
 first | refine R.field F99_1 (h := ?_) | refine R.fieldAt F99_1 (h := ?_)
 first | refine R.loadB O97 (h := ?_) | refine R.load1 O97 (h := ?_)
 first | refine R.len S97 (h := ?_) | refine R.lenRs S97 (h := ?_) | refine R.lenV (run_lenNil S97) (h := ?_)
 rw [List.length_map]
 refine R.bin (run_neq _ _ _ _ _ _) (h := ?_)
 refine R.or (h := ?_)
 refine .n0 ?_
 refine LGo.ifb (ht := fun hc => ?_) (hf := fun hc => ?_)
 ·
  obtain rfl : g = false := by rw [← e0]; exact decide_eq_false (fun h => by rw [h] at hc; simp at hc)
  refine .seq ?_
  refine .region rfl ?_
  refine R.assign (h := ?_)
  refine .n0 ?_
  exact LGo.ret (ret_T Tryz.results142 hA hmd)
 ·
  simp only [Bool.or_eq_false_iff, Bool.not_eq_eq_eq_not, Bool.not_false, decide_eq_true_eq] at hc
  obtain ⟨hgl, hel⟩ := hc
  refine .skip ?_
  refine .seq ?_
  refine .seq ?_
  refine .region rfl ?_
  refine R.assign (h := ?_)
  refine .n0 ?_
  refine .block ?_
  refine .loop ?_
  refine LGo.loopG (σ := Nat) (fun x => x ≤ a.gates.length ∧ a.gates.take x = b.gates.take x) (fun x => [(5, (true, .i (x : Nat)))]) (fun x => [(0, .box 99 (a.c.map LV.sv)), (1, .box 99 (b.c.map LV.sv))]) (fun x => a.gates.length - x) (0) [(2, _), (3, _)] ⟨Nat.zero_le _, by simp⟩ (by repeat (first | exact trivial | refine ⟨rfl, ?_⟩)) (by repeat (first | exact trivial | refine ⟨rfl, ?_⟩)) (by repeat (first | exact trivial | refine ⟨rfl, ?_⟩)) ?_
  rintro k ⟨hk, hq⟩ ih
  refine .seq ?_
  refine .seq ?_
  refine .region rfl ?_
  refine R.move (h := ?_)
  first | refine R.field F99_0 (h := ?_) | refine R.fieldAt F99_0 (h := ?_)
  first | refine R.loadB O25 (h := ?_) | refine R.load1 O25 (h := ?_)
  first | refine R.len S25 (h := ?_) | refine R.lenRs S25 (h := ?_) | refine R.lenV (run_lenNil S25) (h := ?_)
  rw [List.length_map]
  refine R.bin (run_lss _ _ _ _ _ _) (h := ?_)
  refine .n0 ?_
  refine LGo.ifd (ht := fun hc2 => ?_) (hf := fun hc2 => ?_)
  ·
   have hlt : k < a.gates.length := by omega
   have hlt2 : k < b.gates.length := by omega
   have hx : (a.gates.map GtG.c)[((k : Nat) : Int).toNat]? = some a.gates[k].c := by simp [hlt]
   have hy : (b.gates.map GtG.c)[((k : Nat) : Int).toNat]? = some b.gates[k].c := by simp [hlt2]
   have hp : a.gates[k] = b.gates[k] → a.gates.take (k + 1) = b.gates.take (k + 1) := fun h => by rw [List.take_succ_eq_append_getElem hlt, List.take_succ_eq_append_getElem hlt2, hq, h]
   have hn : a = b → a.gates[k] = b.gates[k] := fun h => by subst h; rfl
   have hxl := ha2 _ (List.getElem_mem hlt)
   have hyl := hb2 _ (List.getElem_mem hlt2)
   generalize a.gates[k] = ga at hx hp hn hxl
   generalize b.gates[k] = gb at hy hp hn hyl
   refine .skip ?_
   refine .seq ?_
   refine .block ?_
   refine .seq ?_
   refine .region rfl ?_
   first | refine R.field F99_0 (h := ?_) | refine R.fieldAt F99_0 (h := ?_)
   first | refine R.loadB O25 (h := ?_) | refine R.load1 O25 (h := ?_)
   refine R.move (h := ?_)
   refine R.index I25 (hj := fun hg => ⟨by omega, hx⟩) (h := ?_)
   first | refine R.loadA A71 (h := ?_) | refine R.loadN A71 (h := ?_) | refine R.loadP A71 (h := ?_)
   first | refine R.field F99_0 (h := ?_) | refine R.fieldAt F99_0 (h := ?_)
   first | refine R.loadB O25 (h := ?_) | refine R.load1 O25 (h := ?_)
   refine R.move (h := ?_)
   refine R.index I25 (hj := fun hg => ⟨by omega, hy⟩) (h := ?_)
   first | refine R.loadA A71 (h := ?_) | refine R.loadN A71 (h := ?_) | refine R.loadP A71 (h := ?_)
   refine R.alloc Z71 (h := ?_)
   refine R.alloc Z71 (h := ?_)
   refine R.storeA A71 (h := ?_)
   refine R.storeA A71 (h := ?_)
   refine Reg.nil ⟨fun _ => ⟨mixedO, by rfl, by rfl⟩, ?_⟩
   refine .seq ?_
   refine .seq ?_
   refine .region rfl ?_
   first | refine R.field F71_1 (h := ?_) | refine R.fieldAt F71_1 (h := ?_)
   first | refine R.loadB O2 (h := ?_) | refine R.load1 O2 (h := ?_)
   first | refine R.field F71_1 (h := ?_) | refine R.fieldAt F71_1 (h := ?_)
   first | refine R.loadB O2 (h := ?_) | refine R.load1 O2 (h := ?_)
   refine R.bin (run_neq _ _ _ _ _ _) (h := ?_)
   refine R.move (h := ?_)
   first | refine R.field F71_2 (h := ?_) | refine R.fieldAt F71_2 (h := ?_)
   first | refine R.loadB O2 (h := ?_) | refine R.load1 O2 (h := ?_)
   first | refine R.field F71_2 (h := ?_) | refine R.fieldAt F71_2 (h := ?_)
   first | refine R.loadB O2 (h := ?_) | refine R.load1 O2 (h := ?_)
   refine R.bin (run_neq _ _ _ _ _ _) (h := ?_)
   refine R.or (h := ?_)
   refine R.move (h := ?_)
   first | refine R.field F71_0 (h := ?_) | refine R.fieldAt F71_0 (h := ?_)
   first | refine R.loadB O65 (h := ?_) | refine R.load1 O65 (h := ?_)
   first | refine R.len S65 (h := ?_) | refine R.lenRs S65 (h := ?_) | refine R.lenV (run_lenNil S65) (h := ?_)
   rw [ic_len]
   first | refine R.field F71_0 (h := ?_) | refine R.fieldAt F71_0 (h := ?_)
   first | refine R.loadB O65 (h := ?_) | refine R.load1 O65 (h := ?_)
   first | refine R.len S65 (h := ?_) | refine R.lenRs S65 (h := ?_) | refine R.lenV (run_lenNil S65) (h := ?_)
   rw [ic_len]
   refine R.bin (run_neq _ _ _ _ _ _) (h := ?_)
   refine R.or (h := ?_)
   refine .n0 ?_
   refine LGo.ifb (ht := fun hc3 => ?_) (hf := fun hc3 => ?_)
   ·
    obtain rfl : g = false := by rw [← e0]; exact decide_eq_false (fun h => by rw [hn h] at hc3; simp at hc3)
    refine .seq ?_
    refine .region rfl ?_
    refine R.assign (h := ?_)
    refine .n0 ?_
    exact LGo.ret (ret_T Tryz.results142 hA hmd)
   ·
    simp only [Bool.or_eq_false_iff, Bool.not_eq_eq_eq_not, Bool.not_false, decide_eq_true_eq] at hc3
    obtain ⟨⟨hf1, hf2⟩, hf3⟩ := hc3
    refine .skip ?_
    refine .seq ?_
    refine .region rfl ?_
    refine R.assign (h := ?_)
    refine .n0 ?_
    refine .block ?_
    refine .loop ?_
    refine LGo.loopG (σ := Nat) (fun x => x ≤ ga.secs.length ∧ ga.secs.take x = gb.secs.take x) (fun x => [(8, (true, .i (x : Nat)))]) (fun x => [(0, .box 99 (a.c.map LV.sv)), (1, .box 99 (b.c.map LV.sv)), (2, .box 71 (ga.c.map LV.sv)), (3, .box 71 (gb.c.map LV.sv))]) (fun x => ga.secs.length - x) (0) [(2, _), (3, _), (5, _), (6, _), (7, _), (49, _), (50, _), (51, _), (52, _), (53, _), (56, _), (57, _), (58, _), (59, _), (60, _), (61, _), (62, _)] ⟨Nat.zero_le _, by simp⟩ (by repeat (first | exact trivial | refine ⟨rfl, ?_⟩)) (by repeat (first | exact trivial | refine ⟨rfl, ?_⟩)) (by repeat (first | exact trivial | refine ⟨rfl, ?_⟩)) ?_
    rintro j ⟨hj, hq2⟩ ih2
    refine .seq ?_
    refine .seq ?_
    refine .region rfl ?_
    refine R.move (h := ?_)
    first | refine R.field F71_0 (h := ?_) | refine R.fieldAt F71_0 (h := ?_)
    first | refine R.loadB O65 (h := ?_) | refine R.load1 O65 (h := ?_)
    first | refine R.len S65 (h := ?_) | refine R.lenRs S65 (h := ?_) | refine R.lenV (run_lenNil S65) (h := ?_)
    rw [ic_len]
    refine R.bin (run_lss _ _ _ _ _ _) (h := ?_)
    refine .n0 ?_
    refine LGo.ifd (ht := fun hc4 => ?_) (hf := fun hc4 => ?_)
    ·
     have hltj : j < ga.secs.length := by omega
     have hltj2 : j < gb.secs.length := by omega
     have hx2 := icA hltj
     have hy2 := icA hltj2
     have hp2 : ga.secs[j] = gb.secs[j] → ga.secs.take (j + 1) = gb.secs.take (j + 1) := fun h => by rw [List.take_succ_eq_append_getElem hltj, List.take_succ_eq_append_getElem hltj2, hq2, h]
     have hn2 : ga = gb → ga.secs[j] = gb.secs[j] := fun h => by subst h; rfl
     generalize ga.secs[j] = p at hx2 hp2 hn2
     generalize gb.secs[j] = q at hy2 hp2 hn2
     refine .skip ?_
     refine .seq ?_
     refine .block ?_
     refine .seq ?_
     refine .region rfl ?_
     first | refine R.field F71_0 (h := ?_) | refine R.fieldAt F71_0 (h := ?_)
     first | refine R.loadB O65 (h := ?_) | refine R.load1 O65 (h := ?_)
     refine R.move (h := ?_)
     refine R.index I65 (hj := fun hg => ⟨by omega, hx2⟩) (h := ?_)
     first | refine R.loadB O3 (h := ?_) | refine R.load1 O3 (h := ?_)
     first | refine R.field F71_0 (h := ?_) | refine R.fieldAt F71_0 (h := ?_)
     first | refine R.loadB O65 (h := ?_) | refine R.load1 O65 (h := ?_)
     refine R.move (h := ?_)
     refine R.index I65 (hj := fun hg => ⟨by omega, hy2⟩) (h := ?_)
     first | refine R.loadB O3 (h := ?_) | refine R.load1 O3 (h := ?_)
     refine R.bin (run_neq _ _ _ _ _ _) (h := ?_)
     refine Reg.nil ⟨fun _ => ⟨mixedO, by rfl, by rfl⟩, ?_⟩
     refine LGo.ifb (ht := fun hc5 => ?_) (hf := fun hc5 => ?_)
     ·
      obtain rfl : g = false := by rw [← e0]; exact decide_eq_false (fun h => by rw [hn2 (hn h)] at hc5; simp at hc5)
      refine .seq ?_
      refine .region rfl ?_
      refine R.assign (h := ?_)
      refine .n0 ?_
      exact LGo.ret (ret_T Tryz.results142 hA hmd)
     ·
      have hp3 := hp2 (by simpa using hc5)
      refine .skip ?_
      refine .inBlock ?_
      refine .region rfl ?_
      refine R.move (h := ?_)
      first | refine R.add (h := ?_) | refine R.addW (h := ?_)
      refine R.assign (h := ?_)
      refine .n0 ?_
      refine .inLoop ?_
      exact LGo.next _ (fun o h => by have := (hA o).1 h; omega) (by omega) (ih2 (j + 1) ⟨by omega, hp3⟩ (by omega)) (by repeat (first | exact trivial | refine ⟨rfl, ?_⟩)) ⟨rfl, rfl, rfl, rfl, trivial⟩
    ·
     have hxy : ga = gb := by
       obtain ⟨x1, x2, x3⟩ := ga
       obtain ⟨y1, y2, y3⟩ := gb
       dsimp only at hf1 hf2 hf3 hq2 hj hc4
       rw [List.take_of_length_le (by omega), List.take_of_length_le (by omega)] at hq2
       rw [hf1, hf2, hq2]
     refine .exit rfl ?_
     refine .inBlock ?_
     refine .region rfl ?_
     refine R.move (h := ?_)
     first | refine R.add (h := ?_) | refine R.addW (h := ?_)
     refine R.assign (h := ?_)
     refine .n0 ?_
     refine .inLoop ?_
     exact LGo.next _ (fun o h => by have := (hA o).1 h; omega) (by omega) (ih (k + 1) ⟨by omega, hp hxy⟩ (by omega)) (by repeat (first | exact trivial | refine ⟨rfl, ?_⟩)) ⟨rfl, rfl, trivial⟩
  ·
   have hgg : a.gates = b.gates := by rwa [List.take_of_length_le (by omega), List.take_of_length_le (by omega)] at hq
   refine .exit rfl ?_
   refine .seq ?_
   refine .seq ?_
   refine .region rfl ?_
   refine R.assign (h := ?_)
   refine .n0 ?_
   refine .block ?_
   refine .loop ?_
   refine LGo.loopG (σ := Nat) (fun x => x ≤ a.ents.length ∧ a.ents.take x = b.ents.take x) (fun x => [(9, (true, .i (x : Nat)))]) (fun x => [(0, .box 99 (a.c.map LV.sv)), (1, .box 99 (b.c.map LV.sv))]) (fun x => a.ents.length - x) (0) [(2, _), (3, _)] ⟨Nat.zero_le _, by simp⟩ (by repeat (first | exact trivial | refine ⟨rfl, ?_⟩)) (by repeat (first | exact trivial | refine ⟨rfl, ?_⟩)) (by repeat (first | exact trivial | refine ⟨rfl, ?_⟩)) ?_
   rintro m ⟨hm, hq3⟩ ih3
   refine .seq ?_
   refine .seq ?_
   refine .region rfl ?_
   refine R.move (h := ?_)
   first | refine R.field F99_1 (h := ?_) | refine R.fieldAt F99_1 (h := ?_)
   first | refine R.loadB O97 (h := ?_) | refine R.load1 O97 (h := ?_)
   first | refine R.len S97 (h := ?_) | refine R.lenRs S97 (h := ?_) | refine R.lenV (run_lenNil S97) (h := ?_)
   rw [List.length_map]
   refine R.bin (run_lss _ _ _ _ _ _) (h := ?_)
   refine .n0 ?_
   refine LGo.ifd (ht := fun hc6 => ?_) (hf := fun hc6 => ?_)
   ·
    have hlt : m < a.ents.length := by omega
    have hlt2 : m < b.ents.length := by omega
    have hx : (a.ents.map GtE.c)[((m : Nat) : Int).toNat]? = some a.ents[m].c := by simp [hlt]
    have hy : (b.ents.map GtE.c)[((m : Nat) : Int).toNat]? = some b.ents[m].c := by simp [hlt2]
    have hp : a.ents[m] = b.ents[m] → a.ents.take (m + 1) = b.ents.take (m + 1) := fun h => by rw [List.take_succ_eq_append_getElem hlt, List.take_succ_eq_append_getElem hlt2, hq3, h]
    have hn : a = b → a.ents[m] = b.ents[m] := fun h => by subst h; rfl
    generalize a.ents[m] = x at hx hp hn
    generalize b.ents[m] = y at hy hp hn
    refine .skip ?_
    refine .seq ?_
    refine .block ?_
    refine .seq ?_
    refine .region rfl ?_
    first | refine R.field F99_1 (h := ?_) | refine R.fieldAt F99_1 (h := ?_)
    first | refine R.loadB O97 (h := ?_) | refine R.load1 O97 (h := ?_)
    refine R.move (h := ?_)
    refine R.index I97 (hj := fun hg => ⟨by omega, hx⟩) (h := ?_)
    first | refine R.loadA A178 (h := ?_) | refine R.loadN A178 (h := ?_) | refine R.loadP A178 (h := ?_)
    first | refine R.field F99_1 (h := ?_) | refine R.fieldAt F99_1 (h := ?_)
    first | refine R.loadB O97 (h := ?_) | refine R.load1 O97 (h := ?_)
    refine R.move (h := ?_)
    refine R.index I97 (hj := fun hg => ⟨by omega, hy⟩) (h := ?_)
    first | refine R.loadA A178 (h := ?_) | refine R.loadN A178 (h := ?_) | refine R.loadP A178 (h := ?_)
    refine R.binA (NE178 _ _ _ _ _ _ _ _ _ _ _ _) (h := ?_)
    rw [en_eq]
    refine Reg.nil ⟨fun _ => ⟨mixedO, by rfl, by rfl⟩, ?_⟩
    refine LGo.ifb (ht := fun hc7 => ?_) (hf := fun hc7 => ?_)
    ·
     obtain rfl : g = false := by rw [← e0]; exact decide_eq_false (fun h => absurd (hn h) (of_decide_eq_true hc7))
     refine .seq ?_
     refine .region rfl ?_
     refine R.assign (h := ?_)
     refine .n0 ?_
     exact LGo.ret (ret_T Tryz.results142 hA hmd)
    ·
     have hp2 := hp (Decidable.of_not_not (of_decide_eq_false hc7))
     refine .skip ?_
     refine .inBlock ?_
     refine .region rfl ?_
     refine R.move (h := ?_)
     first | refine R.add (h := ?_) | refine R.addW (h := ?_)
     refine R.assign (h := ?_)
     refine .n0 ?_
     refine .inLoop ?_
     exact LGo.next _ (fun o h => by have := (hA o).1 h; omega) (by omega) (ih3 (m + 1) ⟨by omega, hp2⟩ (by omega)) (by repeat (first | exact trivial | refine ⟨rfl, ?_⟩)) ⟨rfl, rfl, trivial⟩
   ·
    obtain rfl : g = true := by rw [← e0]; refine decide_eq_true (ext_g hgg ?_); rwa [List.take_of_length_le (by omega), List.take_of_length_le (by omega)] at hq3
    refine .exit rfl ?_
    refine .seq ?_
    refine .region rfl ?_
    refine R.assign (h := ?_)
    refine .n0 ?_
    exact LGo.ret (ret_T Tryz.results142 hA hmd)

theorem sameG_P (a b : List GtG) (ha : SmG a) (hb : SmG b) : PC Tryz.prog 142 [.agg [.sv (.sl 3 (a.map GtG.c)), .v (.slice none 0 0)], .agg [.sv (.sl 3 (b.map GtG.c)), .v (.slice none 0 0)]] (.b (decide (a = b))) := by
  have h := same_P ⟨a, []⟩ ⟨b, []⟩ ⟨ha, Nat.zero_le _, fun _ h => by cases h⟩ ⟨hb, Nat.zero_le _, fun _ h => by cases h⟩
  have e : decide ((⟨a, []⟩ : GtS) = ⟨b, []⟩) = decide (a = b) := by rw [decide_eq_decide]; simp
  rw [e] at h
  refine PC.args h (by simp [LV.lts, LV.lt]) (fun cx w vs hv => ?_)
  have one : ∀ (l : List GtG) (x : Value), V cx w (.agg [.sv (.sl 3 (l.map GtG.c)), .v (.slice none 0 0)]) x → V cx w (.agg ((GtS.c ⟨l, []⟩).map LV.sv)) x := by
    intro l x hx
    simp only [V] at hx ⊢
    obtain ⟨us, rfl, hu⟩ := hx
    refine ⟨us, rfl, ?_⟩
    simp only [Vs] at hu
    obtain ⟨u1, r1, rfl, k1, u2, r2, rfl, k2, rfl⟩ := hu
    show Vs cx w [.sv (.sl 3 (l.map GtG.c)), .sv (.sl 5 [])] [u1, u2]
    simp only [Vs]
    refine ⟨u1, [u2], rfl, k1, u2, [], rfl, ?_, rfl⟩
    simp only [V, VS] at k2 ⊢
    exact .inl ⟨.inl k2, trivial⟩
  simp only [Vs] at hv ⊢
  obtain ⟨v1, r1, rfl, k1, v2, r2, rfl, k2, rfl⟩ := hv
  exact ⟨v1, [v2], rfl, one a v1 k1, v2, [], rfl, one b v2 k2, rfl⟩

theorem gates30_P (a b : List GtG) (ha : SmG a) (hb : SmG b) : PC Tryz.prog 67 [.sv (.sl 3 (a.map GtG.c)), .sv (.sl 3 (b.map GtG.c))] (.b (decide (a = b))) := by
 refine ⟨LC.of_go Tryz.func67 (c := _) rfl (by kernel_rfl) (by rw [Tryz.ntmps67]; simp) rfl rfl (by simp [LO.lt, LV.lts, LV.lt, lts_sv]) (by simp) ?_⟩
 intro B hA hmd
 refine .seq ?_
 refine .region rfl ?_
 refine R.assign (h := ?_)
 refine .n0 ?_
 refine .seq ?_
 refine .region rfl ?_
 refine R.move (h := ?_)
 refine R.build BF99 (is := [0]) (xs := [_]) (es := [_]) (h := ?_)
 refine R.move (h := ?_)
 refine R.build BF99 (is := [0]) (xs := [_]) (es := [_]) (h := ?_)
 refine R.callP (es := [_, _]) (fun _ => sameG_P a b ha hb) (h := ?_)
 refine R.assign (h := ?_)
 refine .n0 ?_
 exact LGo.ret (ret_T Tryz.results67 hA hmd)

theorem sameR_P (a b : Sc) (ha : a.sm2) (hb : b.sm2) : PC Tryz.prog 17 [.agg (a.c.map LV.sv), .agg (b.c.map LV.sv)] (.b (decide (a = b))) := by
 refine ⟨LC.of_go Tryz.func17 (c := _) rfl (by kernel_rfl) (by rw [Tryz.ntmps17]; simp) rfl rfl (by simp [LO.lt, LV.lts, LV.lt, lts_sv]) (by simp) ?_⟩
 intro B hA hmd
 obtain ⟨g, e0⟩ : ∃ g, decide (a = b) = g := ⟨_, rfl⟩
 rw [e0]
 have q1 := ha.cl
 have q2 := hb.cl
 have q3 := ha.el
 have q4 := hb.el
 refine .seq ?_
 refine .region rfl ?_
 refine R.box (h := ?_)
 refine R.box (h := ?_)
 refine R.assign (h := ?_)
 refine .n0 ?_
 refine .seq ?_
 refine .seq ?_
 refine .region rfl ?_
 first | refine R.field F29_0 (h := ?_) | refine R.fieldAt F29_0 (h := ?_)
 first | refine R.loadA A24 (h := ?_) | refine R.loadN A24 (h := ?_) | refine R.loadP A24 (h := ?_)
 first | refine R.field F29_0 (h := ?_) | refine R.fieldAt F29_0 (h := ?_)
 first | refine R.loadA A24 (h := ?_) | refine R.loadN A24 (h := ?_) | refine R.loadP A24 (h := ?_)
 refine R.callP (es := [_, _]) (fun _ => sameV_P a.ven b.ven ⟨ha.vl, ha.vr⟩ ⟨hb.vl, hb.vr⟩) (h := ?_)
 refine R.not (h := ?_)
 refine R.move (h := ?_)
 first | refine R.field F29_1 (h := ?_) | refine R.fieldAt F29_1 (h := ?_)
 first | refine R.loadB O9 (h := ?_) | refine R.load1 O9 (h := ?_)
 first | refine R.field F29_1 (h := ?_) | refine R.fieldAt F29_1 (h := ?_)
 first | refine R.loadB O9 (h := ?_) | refine R.load1 O9 (h := ?_)
 refine R.bin (run_neqT _ _ _ _ _) (h := ?_)
 refine R.or (h := ?_)
 refine R.move (h := ?_)
 first | refine R.field F29_3 (h := ?_) | refine R.fieldAt F29_3 (h := ?_)
 first | refine R.loadB O3 (h := ?_) | refine R.load1 O3 (h := ?_)
 first | refine R.field F29_3 (h := ?_) | refine R.fieldAt F29_3 (h := ?_)
 first | refine R.loadB O3 (h := ?_) | refine R.load1 O3 (h := ?_)
 refine R.bin (run_neq _ _ _ _ _ _) (h := ?_)
 refine R.or (h := ?_)
 refine R.move (h := ?_)
 first | refine R.field F29_2 (h := ?_) | refine R.fieldAt F29_2 (h := ?_)
 first | refine R.loadB O25 (h := ?_) | refine R.load1 O25 (h := ?_)
 first | refine R.field F29_2 (h := ?_) | refine R.fieldAt F29_2 (h := ?_)
 first | refine R.loadB O25 (h := ?_) | refine R.load1 O25 (h := ?_)
 refine R.callP (es := [_, _]) (fun _ => gates30_P a.gates b.gates ⟨ha.gl, ha.gs⟩ ⟨hb.gl, hb.gs⟩) (h := ?_)
 refine R.not (h := ?_)
 refine R.or (h := ?_)
 refine R.move (h := ?_)
 first | refine R.field F29_4 (h := ?_) | refine R.fieldAt F29_4 (h := ?_)
 first | refine R.loadB O26 (h := ?_) | refine R.load1 O26 (h := ?_)
 first | refine R.len S26 (h := ?_) | refine R.lenRs S26 (h := ?_) | refine R.lenV (run_lenNil S26) (h := ?_)
 rw [List.length_map]
 first | refine R.field F29_4 (h := ?_) | refine R.fieldAt F29_4 (h := ?_)
 first | refine R.loadB O26 (h := ?_) | refine R.load1 O26 (h := ?_)
 first | refine R.len S26 (h := ?_) | refine R.lenRs S26 (h := ?_) | refine R.lenV (run_lenNil S26) (h := ?_)
 rw [List.length_map]
 refine R.bin (run_neq _ _ _ _ _ _) (h := ?_)
 refine R.or (h := ?_)
 refine R.move (h := ?_)
 first | refine R.field F29_5 (h := ?_) | refine R.fieldAt F29_5 (h := ?_)
 first | refine R.loadB O27 (h := ?_) | refine R.load1 O27 (h := ?_)
 first | refine R.len S27 (h := ?_) | refine R.lenRs S27 (h := ?_) | refine R.lenV (run_lenNil S27) (h := ?_)
 rw [List.length_map]
 first | refine R.field F29_5 (h := ?_) | refine R.fieldAt F29_5 (h := ?_)
 first | refine R.loadB O27 (h := ?_) | refine R.load1 O27 (h := ?_)
 first | refine R.len S27 (h := ?_) | refine R.lenRs S27 (h := ?_) | refine R.lenV (run_lenNil S27) (h := ?_)
 rw [List.length_map]
 refine R.bin (run_neq _ _ _ _ _ _) (h := ?_)
 refine R.or (h := ?_)
 refine .n0 ?_
 refine LGo.ifb (ht := fun hc => ?_) (hf := fun hc => ?_)
 ·
  obtain rfl : g = false := by rw [← e0]; exact decide_eq_false (fun h => by rw [h] at hc; simp at hc)
  refine .seq ?_
  refine .region rfl ?_
  refine R.assign (h := ?_)
  refine .n0 ?_
  exact LGo.ret (ret_T Tryz.results17 hA hmd)
 ·
  simp only [Bool.or_eq_false_iff, Bool.not_eq_eq_eq_not, Bool.not_false, decide_eq_true_eq] at hc
  obtain ⟨⟨⟨⟨⟨h1, h2⟩, h3⟩, h4⟩, h5⟩, h6⟩ := hc
  refine .skip ?_
  refine .seq ?_
  refine .seq ?_
  refine .region rfl ?_
  refine R.assign (h := ?_)
  refine .n0 ?_
  refine .block ?_
  refine .loop ?_
  refine LGo.loopG (σ := Nat) (fun x => x ≤ a.calls.length ∧ a.calls.take x = b.calls.take x) (fun x => [(5, (true, .i (x : Nat)))]) (fun x => [(0, .box 29 (a.c.map LV.sv)), (1, .box 29 (b.c.map LV.sv))]) (fun x => a.calls.length - x) (0) [(2, _), (3, _)] ⟨Nat.zero_le _, by simp⟩ (by repeat (first | exact trivial | refine ⟨rfl, ?_⟩)) (by repeat (first | exact trivial | refine ⟨rfl, ?_⟩)) (by repeat (first | exact trivial | refine ⟨rfl, ?_⟩)) ?_
  rintro k ⟨hk, hq⟩ ih
  refine .seq ?_
  refine .seq ?_
  refine .region rfl ?_
  refine R.move (h := ?_)
  first | refine R.field F29_4 (h := ?_) | refine R.fieldAt F29_4 (h := ?_)
  first | refine R.loadB O26 (h := ?_) | refine R.load1 O26 (h := ?_)
  first | refine R.len S26 (h := ?_) | refine R.lenRs S26 (h := ?_) | refine R.lenV (run_lenNil S26) (h := ?_)
  rw [List.length_map]
  refine R.bin (run_lss _ _ _ _ _ _) (h := ?_)
  refine .n0 ?_
  refine LGo.ifd (ht := fun hc2 => ?_) (hf := fun hc2 => ?_)
  ·
   have hlt : k < a.calls.length := by omega
   have hlt2 : k < b.calls.length := by omega
   have hx : (a.calls.map SrC.c)[((k : Nat) : Int).toNat]? = some a.calls[k].c := by simp [hlt]
   have hy : (b.calls.map SrC.c)[((k : Nat) : Int).toNat]? = some b.calls[k].c := by simp [hlt2]
   have hp : a.calls[k] = b.calls[k] → a.calls.take (k + 1) = b.calls.take (k + 1) := fun h => by rw [List.take_succ_eq_append_getElem hlt, List.take_succ_eq_append_getElem hlt2, hq, h]
   have hn : a = b → a.calls[k] = b.calls[k] := fun h => by subst h; rfl
   generalize a.calls[k] = ga at hx hp hn
   generalize b.calls[k] = gb at hy hp hn
   refine .skip ?_
   refine .seq ?_
   refine .block ?_
   refine .seq ?_
   refine .region rfl ?_
   first | refine R.field F29_4 (h := ?_) | refine R.fieldAt F29_4 (h := ?_)
   first | refine R.loadB O26 (h := ?_) | refine R.load1 O26 (h := ?_)
   refine R.move (h := ?_)
   refine R.index I26 (hj := fun hg => ⟨by omega, hx⟩) (h := ?_)
   first | refine R.loadA A40 (h := ?_) | refine R.loadN A40 (h := ?_) | refine R.loadP A40 (h := ?_)
   first | refine R.field F29_4 (h := ?_) | refine R.fieldAt F29_4 (h := ?_)
   first | refine R.loadB O26 (h := ?_) | refine R.load1 O26 (h := ?_)
   refine R.move (h := ?_)
   refine R.index I26 (hj := fun hg => ⟨by omega, hy⟩) (h := ?_)
   first | refine R.loadA A40 (h := ?_) | refine R.loadN A40 (h := ?_) | refine R.loadP A40 (h := ?_)
   refine R.binA (NE40 _ _ _ _ _ _ _ _ _ _ _ _ _ _ _ _ _ _ _ _ _ _ _ _) (h := ?_)
   rw [srC_ne]
   refine Reg.nil ⟨fun _ => ⟨mixedO, by rfl, by rfl⟩, ?_⟩
   refine LGo.ifb (ht := fun hc3 => ?_) (hf := fun hc3 => ?_)
   ·
    obtain rfl : g = false := by rw [← e0]; exact decide_eq_false (fun h => absurd (hn h) (of_decide_eq_true hc3))
    refine .seq ?_
    refine .region rfl ?_
    refine R.assign (h := ?_)
    refine .n0 ?_
    exact LGo.ret (ret_T Tryz.results17 hA hmd)
   ·
    have hp2 := hp (Decidable.of_not_not (of_decide_eq_false hc3))
    refine .skip ?_
    refine .inBlock ?_
    refine .region rfl ?_
    refine R.move (h := ?_)
    first | refine R.add (h := ?_) | refine R.addW (h := ?_)
    refine R.assign (h := ?_)
    refine .n0 ?_
    refine .inLoop ?_
    exact LGo.next _ (fun o h => by have := (hA o).1 h; omega) (by omega) (ih (k + 1) ⟨by omega, hp2⟩ (by omega)) (by repeat (first | exact trivial | refine ⟨rfl, ?_⟩)) ⟨rfl, rfl, trivial⟩
  ·
   have hcc : a.calls = b.calls := by rwa [List.take_of_length_le (by omega), List.take_of_length_le (by omega)] at hq
   refine .exit rfl ?_
   refine .seq ?_
   refine .seq ?_
   refine .region rfl ?_
   refine R.assign (h := ?_)
   refine .n0 ?_
   refine .block ?_
   refine .loop ?_
   refine LGo.loopG (σ := Nat) (fun x => x ≤ a.evs.length ∧ a.evs.take x = b.evs.take x) (fun x => [(6, (true, .i (x : Nat)))]) (fun x => [(0, .box 29 (a.c.map LV.sv)), (1, .box 29 (b.c.map LV.sv))]) (fun x => a.evs.length - x) (0) [(2, _), (3, _)] ⟨Nat.zero_le _, by simp⟩ (by repeat (first | exact trivial | refine ⟨rfl, ?_⟩)) (by repeat (first | exact trivial | refine ⟨rfl, ?_⟩)) (by repeat (first | exact trivial | refine ⟨rfl, ?_⟩)) ?_
   rintro m ⟨hm, hq2⟩ ih2
   refine .seq ?_
   refine .seq ?_
   refine .region rfl ?_
   refine R.move (h := ?_)
   first | refine R.field F29_5 (h := ?_) | refine R.fieldAt F29_5 (h := ?_)
   first | refine R.loadB O27 (h := ?_) | refine R.load1 O27 (h := ?_)
   first | refine R.len S27 (h := ?_) | refine R.lenRs S27 (h := ?_) | refine R.lenV (run_lenNil S27) (h := ?_)
   rw [List.length_map]
   refine R.bin (run_lss _ _ _ _ _ _) (h := ?_)
   refine .n0 ?_
   refine LGo.ifd (ht := fun hc4 => ?_) (hf := fun hc4 => ?_)
   ·
    have hlt : m < a.evs.length := by omega
    have hlt2 : m < b.evs.length := by omega
    have hx : (a.evs.map SrE.c)[((m : Nat) : Int).toNat]? = some a.evs[m].c := by simp [hlt]
    have hy : (b.evs.map SrE.c)[((m : Nat) : Int).toNat]? = some b.evs[m].c := by simp [hlt2]
    have hp : a.evs[m] = b.evs[m] → a.evs.take (m + 1) = b.evs.take (m + 1) := fun h => by rw [List.take_succ_eq_append_getElem hlt, List.take_succ_eq_append_getElem hlt2, hq2, h]
    have hn : a = b → a.evs[m] = b.evs[m] := fun h => by subst h; rfl
    generalize a.evs[m] = ga at hx hp hn
    generalize b.evs[m] = gb at hy hp hn
    refine .skip ?_
    refine .seq ?_
    refine .block ?_
    refine .seq ?_
    refine .region rfl ?_
    first | refine R.field F29_5 (h := ?_) | refine R.fieldAt F29_5 (h := ?_)
    first | refine R.loadB O27 (h := ?_) | refine R.load1 O27 (h := ?_)
    refine R.move (h := ?_)
    refine R.index I27 (hj := fun hg => ⟨by omega, hx⟩) (h := ?_)
    first | refine R.loadA A58 (h := ?_) | refine R.loadN A58 (h := ?_) | refine R.loadP A58 (h := ?_)
    first | refine R.field F29_5 (h := ?_) | refine R.fieldAt F29_5 (h := ?_)
    first | refine R.loadB O27 (h := ?_) | refine R.load1 O27 (h := ?_)
    refine R.move (h := ?_)
    refine R.index I27 (hj := fun hg => ⟨by omega, hy⟩) (h := ?_)
    first | refine R.loadA A58 (h := ?_) | refine R.loadN A58 (h := ?_) | refine R.loadP A58 (h := ?_)
    refine R.binA (NE58 _ _ _ _ _ _ _ _) (h := ?_)
    rw [srE_ne]
    refine Reg.nil ⟨fun _ => ⟨mixedO, by rfl, by rfl⟩, ?_⟩
    refine LGo.ifb (ht := fun hc5 => ?_) (hf := fun hc5 => ?_)
    ·
     obtain rfl : g = false := by rw [← e0]; exact decide_eq_false (fun h => absurd (hn h) (of_decide_eq_true hc5))
     refine .seq ?_
     refine .region rfl ?_
     refine R.assign (h := ?_)
     refine .n0 ?_
     exact LGo.ret (ret_T Tryz.results17 hA hmd)
    ·
     have hp2 := hp (Decidable.of_not_not (of_decide_eq_false hc5))
     refine .skip ?_
     refine .inBlock ?_
     refine .region rfl ?_
     refine R.move (h := ?_)
     first | refine R.add (h := ?_) | refine R.addW (h := ?_)
     refine R.assign (h := ?_)
     refine .n0 ?_
     refine .inLoop ?_
     exact LGo.next _ (fun o h => by have := (hA o).1 h; omega) (by omega) (ih2 (m + 1) ⟨by omega, hp2⟩ (by omega)) (by repeat (first | exact trivial | refine ⟨rfl, ?_⟩)) ⟨rfl, rfl, trivial⟩
   ·
    obtain rfl : g = true := by rw [← e0]; exact decide_eq_true (sc_ext h1 h2 h4 h3 hcc (by rwa [List.take_of_length_le (by omega), List.take_of_length_le (by omega)] at hq2))
    refine .exit rfl ?_
    refine .seq ?_
    refine .region rfl ?_
    refine R.assign (h := ?_)
    refine .n0 ?_
    exact LGo.ret (ret_T Tryz.results17 hA hmd)

end Go.Proofs.YteccglgbkehdeaaGreatDoor
/- scripts, and the reference: Size, Calls, Cut, Shrink. -/
set_option linter.unusedSimpArgs false
set_option linter.unusedVariables false
namespace Go.Proofs.YteccglgbkehdeaaGreatDoor

def callsS (s : Sc) : List Int × Int := if (checkS s).2 ≠ 0 then ([], (checkS s).2) else (sendsOf s.evs, 0)
def badCut (s : Sc) (fr n : Int) : Bool := (((decide (fr < 0) || decide (n < 0)) || decide (fr > (s.evs.length : Int))) || decide (n > (s.evs.length : Int) - fr))
def cutS (s : Sc) (fr n : Int) : Sc × Int :=
  if (checkS s).2 ≠ 0 then (scZero, (checkS s).2) else if badCut s fr n = true then (scZero, 7) else ({ s with evs := leftS s.evs fr.toNat n.toNat }, 0)
end Go.Proofs.YteccglgbkehdeaaGreatDoor
/- scripts: the laws ScriptChecks, ScriptShrinks (walks). -/
set_option linter.unusedSimpArgs false
set_option linter.unusedVariables false
namespace Go.Proofs.YteccglgbkehdeaaGreatDoor

theorem Sc.near.sm2 {s : Sc} (hn : s.near) : s.sm2 :=
  ⟨by have := hn.vl; omega, fun x hx => by have := (hn.vs x hx).2; omega, by have := hn.gl; omega, fun x hx => by have := hn.gs x hx; omega, by have := hn.cl; omega, by have := hn.el; omega⟩
theorem Sc.sm2.evs {s : Sc} (h : s.sm2) (l : List SrE) (hl : l.length ≤ 100000) : ({ s with evs := l } : Sc).sm2 := ⟨h.vl, h.vr, h.gl, h.gs, h.cl, hl⟩
theorem zero_sm2 : scZero.sm2 := ⟨Nat.zero_le _, fun _ h => (by cases h), Nat.zero_le _, fun _ h => (by cases h), Nat.zero_le _, Nat.zero_le _⟩
theorem sameRT {a : Sc} (h : a.sm2) : PC Tryz.prog 17 [.agg (a.c.map LV.sv), .agg (a.c.map LV.sv)] (.b true) := by
  have := sameR_P a a h h
  rwa [decide_eq_true rfl] at this
end Go.Proofs.YteccglgbkehdeaaGreatDoor
/- scripts: the law ScriptShortest (walk). -/
set_option linter.unusedSimpArgs false
set_option linter.unusedVariables false
namespace Go.Proofs.YteccglgbkehdeaaGreatDoor

theorem Sc.sm.evs {s : Sc} (h : s.sm) (l : List SrE) (hl : l.length ≤ maxLen) : ({ s with evs := l } : Sc).sm := ⟨h.ven, h.gl, h.gs, h.key, h.cl, h.cs, hl⟩
theorem Sc.cp.evs {s : Sc} (h : s.cp) (l : List SrE) : ({ s with evs := l } : Sc).cp := ⟨h.v, h.vr, h.g, h.gr, h.c⟩
/-- what is known of a script that was shortened -/
structure Short (pf : List SrE → Bool) (most : Int) (s t : Sc) (tries : Int) : Prop where
  same : ({ t with evs := s.evs } : Sc) = s
  sub : t.evs.Sublist s.evs
  le : tries ≤ most
  fails : pf t.evs = true
  short : tries < most → ∀ i, i < t.evs.length → pf (leftS t.evs i 1) = false
  check : (checkS t).2 = 0
  sm : t.sm
  cp : t.cp
end Go.Proofs.YteccglgbkehdeaaGreatDoor
/- scripts: equal scripts. -/
set_option linter.unusedSimpArgs false
set_option linter.unusedVariables false
namespace Go.Proofs.YteccglgbkehdeaaGreatDoor

section
variable {P : Program} {r : Option Nat} {N : Nat} {D : List Nat} {B : Base} {all : Array Oper} {K : List (Nat × Ct) → St → Prop}
variable {i : Nat} {ops : List Oper} {tr : List (Nat × Ct)} {E : List (Nat × Ent)} {L : List (Nat × LO)} {n : Nat} {g : Bool} {gn : List (Nat × Ent)}
variable {d ty : Nat} {pos : String} {aft : Array Edge} {gd : Option (Nat × Bool)}
end

end Go.Proofs.YteccglgbkehdeaaGreatDoor
/- scripts: the law ScriptSame (walk). -/
set_option linter.unusedSimpArgs false
set_option linter.unusedVariables false
namespace Go.Proofs.YteccglgbkehdeaaGreatDoor

def bumpC (c : SrC) : SrC := { c with n := IntKind.i64.wrap (c.n + 1) }
def bumpE (x : SrE) : SrE := { x with a := IntKind.i64.wrap (x.a + 1) }
end Go.Proofs.YteccglgbkehdeaaGreatDoor
/- scripts: parts of a slice; a copy without events; the event of two bytes. -/
set_option linter.unusedSimpArgs false
set_option linter.unusedVariables false
namespace Go.Proofs.YteccglgbkehdeaaGreatDoor

/-- what slicing x from a up to b, with b as0 its capacity, comes to -/
theorem run_slice3 {P : Program} {T sz : Nat} (hF : SliceF P T sz) {pr : Nat → Nat} {w : World} {xs : List (List SV)} {x : Value} (hx : VS pr w (.sl sz xs) x) (a b : Nat) (k k' k'' : IntKind) (hab : a < b) (hb : b ≤ xs.length) :
    ∃ v, (Instr.sliceAt T x (some (.int k a)) (some (.int k' b)) (some (.int k'' b))).run P w = .ok v w ∧ VS pr w (.sl sz ((xs.take b).drop a)) v := by
  obtain ⟨e, hT, hz⟩ := hF
  have hlen : ((xs.take b).drop a).length = b - a := by simp; omega
  simp only [VS] at hx
  rcases hx with ⟨_, rfl⟩ | ⟨bl, off, cap, rfl, hle, hml, hpr, hr⟩
  · simp at hb; omega
  · have hbc : b ≤ cap := by omega
    have hba : b ≠ a := by omega
    have hle2 : a ≤ b := by omega
    refine ⟨.slice (some ((⟨bl, off, none⟩ : Addr).add (a * sz))) (b - a) (b - a), ?_, ?_⟩
    · simp [Instr.sliceAt, Instr.slice, hT w, Instr.sliceBounds, Instr.sliceBound, asIntOf, hz w, hbc, hle2, hba]
    · simp only [VS]
      right
      have : (b - a) * sz + a * sz ≤ xs.length * sz := by rw [← Nat.add_mul]; exact Nat.mul_le_mul_right _ (by omega)
      have hadd : (⟨bl, off, none⟩ : Addr).add (a * sz) = ⟨bl, off + a * sz, none⟩ := by unfold Addr.add; split <;> simp_all
      refine ⟨bl, off + a * sz, b - a, ?_, by rw [hlen]; omega, by omega, by rw [hlen]; omega, VSR.drop a (VSR.take b hr)⟩
      rw [hlen, hadd]
section
variable {P : Program} {r : Option Nat} {N : Nat} {D : List Nat} {B : Base} {all : Array Oper} {K : List (Nat × Ct) → St → Prop}
variable {i : Nat} {ops : List Oper} {tr : List (Nat × Ct)} {E : List (Nat × Ent)} {L : List (Nat × LO)} {n : Nat} {g : Bool} {gn : List (Nat × Ent)}
variable {d ty : Nat} {pos : String} {aft : Array Edge} {gd : Option (Nat × Bool)}
theorem OpC.of_pure4 {o : Oper} {l k j m : LV} {rd : List (Nat × LO)} {out : LV} {x y z u : Operand} (hl : o.op.operands.toList = [x, y, z, u]) (hnd : ∀ c, o.op ≠ .defer c)
    (h : ∀ (cx : Cx) (ρ : Operand → Value) (w : World), V cx w l (ρ x) → V cx w k (ρ y) → V cx w j (ρ z) → V cx w m (ρ u) → ∃ v, (execOp ρ o).run P w = .ok (.value v) w ∧ V cx w out v) : OpC P r o [l, k, j, m] rd [] out [] [] :=
  OpC.of_pure hnd fun md n0 cx H ρ w h1 h2 h3 => by
    rw [hl] at h3
    simp only [List.map_cons, List.map_nil, Vs] at h3
    obtain ⟨x1, r1, e1, k1, x2, r2, e2, k2, x3, r3, e3, k3, x4, r4, e4, k4, e5⟩ := h3
    subst e5
    cases e1
    cases e2
    cases e3
    cases e4
    exact h cx ρ w k1 k2 k3 k4
/-- a part of a slice that is not written any more, with its end as0 its capacity -/
theorem R.slice3 {T sz : Nat} (hF : SliceF P T sz) {x y z u : Operand} {gx gy gz gu : Bool} {xs : List (List SV)} {k k' k'' : IntKind} {a b : Nat}
    (ho : all[i]? = some ⟨some d, .slice T x (some y) (some z) (some u), ty, pos, aft, gd⟩ := by rfl) (hg : GuardOk (en E) all gd g gn := by first | exact gN | exact gS rfl rfl)
    (hx : lvOf (en E) x = some (gx, .sv (.sl sz xs)) := by rfl) (hy : lvOf (en E) y = some (gy, .v (.int k a)) := by rfl) (hz : lvOf (en E) z = some (gz, .v (.int k' b)) := by rfl) (hu : lvOf (en E) u = some (gu, .v (.int k'' b)) := by rfl)
    (hgx : g = true → gx = true := by first | exact fun _ => rfl | exact id) (hgy : g = true → gy = true := by first | exact fun _ => rfl | exact id) (hgz : g = true → gz = true := by first | exact fun _ => rfl | exact id) (hgu : g = true → gu = true := by first | exact fun _ => rfl | exact id)
    (ha : g = true → a < b ∧ b ≤ xs.length)
    (h : Reg P r N D B all (i + 1) ops ((i, Ct.p gn [x, y, z, u] [(gx, .sv (.sl sz xs)), (gy, .v (.int k a)), (gz, .v (.int k' b)), (gu, .v (.int k'' b))] (some d) (g, .sv (.sl sz ((xs.take b).drop a))) []) :: tr) (st ((d, (g, .sv (.sl sz ((xs.take b).drop a)))) :: E) L n) K) :
    Reg P r N D B all i (⟨some d, .slice T x (some y) (some z) (some u), ty, pos, aft, gd⟩ :: ops) tr (st E L n) K := by
  have hl : (Oper.mk (some d) (.slice T x (some y) (some z) (some u)) ty pos aft gd).op.operands.toList = [x, y, z, u] := by rfl
  refine Reg.pure (es := [(gx, .sv (.sl sz xs)), (gy, .v (.int k a)), (gz, .v (.int k' b)), (gu, .v (.int k'' b))]) (out := .sv (.sl sz ((xs.take b).drop a))) (rd := []) ho hg ?_ (by simp) (fun hgt => ?_) ?_
  · rw [hl]; exact ⟨_, _, rfl, hx, _, _, rfl, hy, _, _, rfl, hz, _, _, rfl, hu, rfl⟩
  · simp only [List.map_cons, List.map_nil]
    rw [entLV_true hgt hgx, entLV_true hgt hgy, entLV_true hgt hgz, entLV_true hgt hgu]
    refine OpC.of_pure4 (x := x) (y := y) (z := z) (u := u) hl (by simp) fun cx ρ w v1 v2 v3 v4 => ?_
    obtain ⟨h1, h2⟩ := ha hgt
    simp only [V] at v1
    obtain ⟨v, hr, hv⟩ := run_slice3 hF v1 a b k k' k'' h1 h2
    refine ⟨v, ?_, by simp only [V]; exact hv⟩
    simp [execOp, v2.val, v3.val, v4.val, hr]
  · rw [hl]; exact h
end

def LO.isRaw : LO → Bool
  | .raw _ => true
  | _ => false
/-- as0 `seeA`, and behind a pointer -/
def seeP (rd : List (Nat × LO)) : LV → LV
  | .ptr o off => match rd.lookup o with
    | some (.box _ cs) => match closedOf (cs.map (seeL rd)) with
      | some ss => if off ≤ ss.length then .sv (.at_ (ss.drop off)) else .ptr o off
      | none => .ptr o off
    | _ => .ptr o off
  | .agg cs => .agg (cs.map (seeL rd))
  | l => seeL rd l
theorem VSC.of_get {pr : Nat → Nat} {w : World} {b : Nat} : ∀ (m : List SV) (k : Nat), (∀ i (hi : i < m.length), ∃ v, w.cell? ⟨b, k + i, none⟩ = some v ∧ v.oneCell' = true ∧ VS pr w m[i] v) → VSC pr w b k m
  | [], k, _ => by simp [VSC]
  | a :: m, k, hk => by
    simp only [VSC]
    refine ⟨?_, VSC.of_get m (k + 1) fun i hi => ?_⟩
    · obtain ⟨v, c1, c2, c3⟩ := hk 0 (by simp)
      exact ⟨v, c1, c2, c3⟩
    · have := hk (i + 1) (by simp; omega)
      rw [show k + (i + 1) = k + 1 + i from by omega] at this
      exact this
theorem V.seeP {md : Nat → Prop} {n0 : Nat} {cx : Cx} {H : Hp} {w : World} {rd : List (Nat × LO)} (hok : HOk md n0 cx H w) (hrd : ∀ o x, hp rd o = some x → H o = some x) (hext : Ext cx.pr w (raise cx w rd) w) :
    ∀ (l : LV) (x : Value), V cx w l x → V ⟨raise cx w rd, cx.A, cx.loc, cx.inn⟩ w (seeP rd l) x := by
  intro l x h
  have hm : V ⟨raise cx w rd, cx.A, cx.loc, cx.inn⟩ w l x := V.mono (cx := cx) (cx' := ⟨raise cx w rd, cx.A, cx.loc, cx.inn⟩) (w := w) (w' := w) (fun o ho => ⟨ho, rfl⟩) hext l x h
  cases l with
  | agg cs =>
    simp only [Go.Proofs.YteccglgbkehdeaaGreatDoor.seeP, V] at h ⊢
    obtain ⟨vs, rfl, h2⟩ := h
    exact ⟨vs, rfl, Vs.see hok hrd hext cs vs h2⟩
  | ptr o off =>
    simp only [Go.Proofs.YteccglgbkehdeaaGreatDoor.seeP]
    split
    · rename_i T cs hl
      split
      · rename_i ss hss
        split
        · rename_i hle
          obtain ⟨h1, h2⟩ := closedOf_one hss
          have hH := hrd o _ hl
          obtain ⟨hAo, b, vs, k1, k2, k3⟩ := hok.ok o _ hH
          simp only [V] at h
          obtain ⟨_, b', hb', rfl⟩ := h
          rw [k1] at hb'
          simp only [bk, Option.some.injEq] at hb'
          subst hb'
          have hbl : blks cx (hp rd) b := ⟨o, _, hl, .inl (by rw [k1]; rfl)⟩
          have hra : raise cx w rd b = vs.length := by rw [raise, if_pos hbl, cellsAt, k2]; simp
          have k4 := Vs.see hok hrd hext cs vs k3
          have hvl : vs.length = ss.length := by rw [k4.length, h1, List.length_map]
          have hones := Vs.ones h2 k4
          simp only [V, VS]
          refine ⟨b, off, rfl, by rw [List.length_drop, hra, hvl]; omega, VSC.of_get _ _ fun i hi => ?_⟩
          rw [List.length_drop] at hi
          obtain ⟨v, hv, hV⟩ := Vs.get k4 (i := off + i) (c := .sv ss[off + i]) (by rw [h1]; simp [show off + i < ss.length by omega])
          refine ⟨v, by simp [World.cell?, k2, hv], hones v (List.mem_of_getElem? hv), ?_⟩
          simp only [V] at hV
          simpa using hV
        · exact hm
      · exact hm
    · exact hm
  | _ => exact V.see hok hrd hext _ x h
theorem Vs.seeP {md : Nat → Prop} {n0 : Nat} {cx : Cx} {H : Hp} {w : World} {rd : List (Nat × LO)} (hok : HOk md n0 cx H w) (hrd : ∀ o x, hp rd o = some x → H o = some x) (hext : Ext cx.pr w (raise cx w rd) w) :
    ∀ (l : List LV) (x : List Value), Vs cx w l x → Vs ⟨raise cx w rd, cx.A, cx.loc, cx.inn⟩ w (l.map (seeP rd)) x
  | [], x, h => by simpa [Vs] using h
  | c :: cs, x, h => by
    simp only [Vs, List.map_cons] at h ⊢
    obtain ⟨y, r, h1, h2, h3⟩ := h
    exact ⟨y, r, h1, V.seeP hok hrd hext c y h2, Vs.seeP hok hrd hext cs r h3⟩
theorem mem_lookup : ∀ {l : List (Nat × LO)} {o : Nat} {x : LO}, l.lookup o = some x → (o, x) ∈ l
  | [], _, _, h => by simp at h
  | (k, y) :: l, o, x, h => by
    rw [List.lookup_cons] at h
    split at h
    · rename_i hk
      simp only [beq_iff_eq] at hk
      cases h
      rw [hk]; exact List.mem_cons_self
    · exact List.mem_cons_of_mem _ (mem_lookup h)
open Classical in
/-- an operation that is handed what it looks at as0 closed -/
theorem OpC.see {P : Program} {r : Option Nat} {o : Oper} {lvs : List LV} {rd Hi : List (Nat × LO)} {out : LV} {Ho : List (Nat × LO)} {new : List Nat}
    (h : OpC P r o (lvs.map (seeP rd)) [] Hi out Ho new) (hplain : out.plain = true) (hraw : (Ho.all fun p => p.2.isRaw) = true)
    (hdis : ∀ i x j y, hp rd i = some x → hp Hi j = some y → i ≠ j) : OpC P r o lvs rd Hi out Ho new := by
  refine ⟨h.1, fun md n0 cx H a w K Q hok ham hrd hHi hnew hv hK => ?_⟩
  have hraise : ∀ b, blks cx (hp rd) b → cx.pr b = 0 ∧ b < w.heap.size := fun b ⟨o, x, hx, hb⟩ => by
    have := hok.own o x b (hrd o x hx) hb
    exact ⟨this.1, this.2.1⟩
  have hext : Ext cx.pr w (raise cx w rd) w := fun b off hbo => ⟨by
    unfold raise
    split
    · rename_i hh; have := (hraise b hh).1; omega
    · exact hbo, rfl⟩
  have hnot : ∀ o x b, hp Hi o = some x → cx.has o x b → ¬ blks cx (hp rd) b := fun o x b hx hb ⟨o', x', hx', hb'⟩ =>
    hok.inj o' o x' x b (hdis o' x' o x hx' hx) (hrd o' x' hx') (hHi o x hx) hb' hb
  let cx1 : Cx := ⟨raise cx w rd, cx.A, cx.loc, cx.inn⟩
  have hok1 : HOk md n0 cx1 (hp Hi) w := by
    refine ⟨fun o x hx => ?_, fun o x b hx hb => ?_, fun o o' x x' b hne hx hx' => hok.inj o o' x x' b hne (hHi o x hx) (hHi o' x' hx'), fun b hb => ?_⟩
    · obtain ⟨h1, h2⟩ := hok.ok o x (hHi o x hx)
      exact ⟨h1, ObjOk.mono (cx := cx) (cx' := cx1) (fun _ ho => ⟨ho, rfl⟩) hext h1 (fun _ _ _ => rfl) rfl h2⟩
    · obtain ⟨h1, h2⟩ := hok.own o x b (hHi o x hx) hb
      refine ⟨?_, h2⟩
      show raise cx w rd b = 0
      rw [raise, if_neg (hnot o x b hx hb)]
      exact h1
    · have hb' : 0 < raise cx w rd b := hb
      unfold raise at hb'
      split at hb'
      · rename_i hh; exact (hraise b hh).2
      · exact hok.lim b hb'
  refine h.2 md n0 cx1 (hp Hi) a w K Q hok1 (ham.ext hext) (by simp) (fun _ _ h => h) hnew (Vs.seeP hok hrd hext _ _ hv) (fun cx' w' v t hvo => ?_)
  let cx3 : Cx := ⟨fun b => if blks cx (hp rd) b then cx.pr b else cx'.pr b, cx'.A, cx'.loc, cx'.inn⟩
  have hp3 : ∀ b, blks cx (hp rd) b → cx3.pr b = cx.pr b := fun b hb => by show (if blks cx (hp rd) b then _ else _) = _; rw [if_pos hb]
  have hp4 : ∀ b, ¬ blks cx (hp rd) b → cx3.pr b = cx'.pr b := fun b hb => by show (if blks cx (hp rd) b then _ else _) = _; rw [if_neg hb]
  have hr1 : ∀ b, ¬ blks cx (hp rd) b → cx1.pr b = cx.pr b := fun b hb => by show raise cx w rd b = _; rw [raise, if_neg hb]
  refine hK cx3 w' v ⟨t.le, t.A, ⟨t.grow.os, t.grow.tape, t.grow.output, t.grow.size, t.grow.same, fun b hb hn => ?_, fun b off hbo => ?_⟩, ⟨fun o x hx => ?_, fun o x b hx hb => ?_, t.heap.inj, fun b hb => ?_⟩, t.inn⟩ (V.plain _ _ hplain hvo)
  · by_cases hh : blks cx (hp rd) b
    · exact hp3 b hh
    · rw [hp4 b hh, t.grow.prs b hb hn, hr1 b hh]
  · have hh : ¬ blks cx (hp rd) b := fun hh => by have := (hraise b hh).1; omega
    rw [hp4 b hh]
    exact t.grow.ext b off (by rw [hr1 b hh]; exact hbo)
  · obtain ⟨h1, h2⟩ := t.heap.ok o x hx
    have hm : (o, x) ∈ Ho := mem_lookup hx
    have hx' := List.all_eq_true.1 hraw (o, x) hm
    refine ⟨h1, ?_⟩
    cases x with
    | raw y => exact h2
    | _ => simp [LO.isRaw] at hx'
  · obtain ⟨h1, h2⟩ := t.heap.own o x b hx hb
    refine ⟨?_, h2⟩
    by_cases hh : blks cx (hp rd) b
    · rw [hp3 b hh]; exact (hraise b hh).1
    · rw [hp4 b hh]; exact h1
  · by_cases hh : blks cx (hp rd) b
    · rw [hp3 b hh] at hb; have := (hraise b hh).1; omega
    · rw [hp4 b hh] at hb; exact t.heap.lim b hb
section
variable {P : Program} {r : Option Nat} {N : Nat} {D : List Nat} {B : Base} {all : Array Oper} {K : List (Nat × Ct) → St → Prop}
variable {i : Nat} {ops : List Oper} {tr : List (Nat × Ct)} {E : List (Nat × Ent)} {L : List (Nat × LO)} {n : Nat} {g : Bool} {gn : List (Nat × Ent)}
variable {d ty : Nat} {pos : String} {aft : Array Edge} {gd : Option (Nat × Bool)}
/-- a call with objects, of a function that is handed other ones to look at -/
theorem R.callXS {f : Nat} {fo : Operand} {args : Array Operand} {ats : Array TypeId} {es : List Ent} {lvs : List LV} {out out' : LV} {Hi Hi' Ho Ho' : List (Nat × LO)} (ids : List Nat) (rd : List (Nat × LO)) (hc : LC P f ids.length lvs Hi out Ho 0)
    (hK : KeepL (hp L) rd := by repeat (first | exact trivial | refine ⟨rfl, ?_⟩))
    (ho : all[i]? = some ⟨some d, .call { callee := .value fo, args := args, argTypes := ats }, ty, pos, aft, none⟩ := by rfl)
    (hf : lvOf (en E) fo = some (true, .fn (.func f) [] []) := by rfl)
    (hx : args.toList.map (lvOf (en E)) = es.map some := by rfl) (hes : (es.map entLV).map (seeP rd) = LV.mapIs (sg ids n) lvs := by rfl) (hnd : ids.Nodup := by decide)
    (hout : out.mapI (sg ids n) = out' := by rfl) (hHi : (Hi.map fun p => (sg ids n p.1, p.2.mapI (sg ids n))) = Hi' := by rfl) (hHo : (Ho.map fun p => (sg ids n p.1, p.2.mapI (sg ids n))) = Ho' := by rfl)
    (hplain : out'.plain = true := by rfl) (hraw : (Ho'.all fun p => p.2.isRaw) = true := by rfl) (hdis : (rd.all fun p => !((Hi'.map (·.1)).contains p.1)) = true := by rfl)
    (hL : KeepL (hp L) Hi' := by repeat (first | exact trivial | refine ⟨rfl, ?_⟩))
    (h : Reg P r N D B all (i + 1) ops ((i, ⟨needOf (fo :: args.toList) ((true, .fn (.func f) [] []) :: es), some d, (true, out'), rd, Hi', Ho', []⟩) :: tr) (st ((d, (true, out')) :: E) (updL L Hi' Ho') n) K) :
    Reg P r N D B all i (⟨some d, .call { callee := .value fo, args := args, argTypes := ats }, ty, pos, aft, none⟩ :: ops) tr (st E L n) K := by
  have hl : (Oper.mk (some d) (.call { callee := .value fo, args := args, argTypes := ats }) ty pos aft none).op.operands.toList = fo :: args.toList := by simp [Op.operands, Go.Call.operands]
  have h2 := OpC.call (r := r) (n := n) (ids := ids) (k := 0) (Ho := Ho) hc hnd (o := ⟨some d, .call { callee := .value fo, args := args, argTypes := ats }, ty, pos, aft, none⟩) rfl rfl (first := []) (cap := []) (avs := (es.map entLV).map (seeP rd)) (by rw [List.append_nil]; exact hes)
  rw [hout, hHi, hHo] at h2
  have h3 : OpC P r ⟨some d, .call { callee := .value fo, args := args, argTypes := ats }, ty, pos, aft, none⟩ (((true, .fn (.func f) [] []) :: es).map entLV) rd Hi' out' Ho' (List.range' n 0) := OpC.see h2 hplain hraw (fun i x j y h1 h2 he => by
    have := List.all_eq_true.1 hdis (i, x) (mem_lookup h1)
    rw [he] at this
    simp [lookup_mem h2] at this)
  refine Reg.gen (m := 0) (es := (true, .fn (.func f) [] []) :: es) (rd := rd) (Hi := Hi') (Ho := Ho') (out := out') ho gN (by rw [hl]; exact ⟨_, _, rfl, hf, Opnds.of_map hx⟩) (fun o x hx => hK.get hx) (fun o x hx => hL.get hx) h3 ?_
  rw [hl]
  exact h
theorem R.nilCheckAt {x : Operand} {gx : Bool} {cs : List SV} (ho : all[i]? = some ⟨some d, .nilCheck x, ty, pos, aft, gd⟩ := by rfl)
    (hg : GuardOk (en E) all gd g gn := by first | exact gN | exact gS rfl rfl)
    (hx : lvOf (en E) x = some (gx, .sv (.at_ cs)) := by rfl) (hgx : g = true → gx = true := by first | exact fun _ => rfl | exact id)
    (h : Reg P r N D B all (i + 1) ops ((i, Ct.p gn [x] [(gx, .sv (.at_ cs))] (some d) (g, .sv (.at_ cs)) []) :: tr) (st ((d, (g, .sv (.at_ cs))) :: E) L n) K) :
    Reg P r N D B all i (⟨some d, .nilCheck x, ty, pos, aft, gd⟩ :: ops) tr (st E L n) K :=
  Reg.one rfl (fun h => by
    rw [entLV_true h hgx]
    refine OpC.of_pure1 (x := x) rfl (by simp) fun md n0 cx H ρ w _ _ hv => ?_
    have hv' := hv
    simp only [V, VS] at hv'
    obtain ⟨b, off, e, _⟩ := hv'
    exact ⟨ρ x, by simp [execOp, e], hv⟩) ho hg hx (by simp) h
end

theorem copiedN_P (s : Sc) (hv : s.ven.secs.length ≤ 100000) (hvr : ∀ x ∈ s.ven.secs, x.rows.length ≤ 100000) (hg : s.gates.length ≤ 100000) (hgr : ∀ x ∈ s.gates, x.secs.length ≤ 100000) (hcl : s.calls.length ≤ 100000) : PC Tryz.prog 85 [.agg (s.c.map LV.sv), .v (.slice none 0 0)] (.agg ((s.c.map LV.sv).set 8 (.v (.slice none 0 0)))) := by
 refine ⟨LC.of_go Tryz.func85 (c := _) rfl (by kernel_rfl) (by rw [Tryz.ntmps85]; simp) rfl rfl (by simp [LO.lt, LV.lts, LV.lt, lts_sv]) (by simp) ?_⟩
 intro B hA hmd
 refine .seq ?_
 refine .region rfl ?_
 refine R.box (h := ?_)
 refine R.alloc Z29 (h := ?_)
 refine .n0 ?_
 refine .seq ?_
 refine .region rfl ?_
 first | refine R.field F29_0 (h := ?_) | refine R.fieldAt F29_0 (h := ?_)
 first | refine R.field F24_3 (h := ?_) | refine R.fieldAt F24_3 (h := ?_)
 first | refine R.loadB O22 (h := ?_) | refine R.load1 O22 (h := ?_)
 refine R.callX (es := [_]) [] (cloneV (s.ven.secs.map VnS.c) (vs_ones _) (by rw [List.length_map]; exact hv)) (h := ?_)
 first | refine R.field F29_0 (h := ?_) | refine R.fieldAt F29_0 (h := ?_)
 first | refine R.field F24_3 (h := ?_) | refine R.fieldAt F24_3 (h := ?_)
 refine R.storeB O22 (h := ?_)
 refine .n0 ?_
 refine .seq ?_
 refine .seq ?_
 refine .region rfl ?_
 first | refine R.field F29_0 (h := ?_) | refine R.fieldAt F29_0 (h := ?_)
 first | refine R.field F24_3 (h := ?_) | refine R.fieldAt F24_3 (h := ?_)
 first | refine R.loadB O22 (h := ?_) | refine R.load1 O22 (h := ?_)
 first | refine R.len S22 (h := ?_) | refine R.lenRs S22 (h := ?_) | refine R.lenV (run_lenNil S22) (h := ?_)
 rw [List.length_map]
 refine R.move (h := ?_)
 refine .n0 ?_
 refine .block ?_
 refine .loop ?_
 refine LGo.loopG (σ := Nat) (fun x => x ≤ s.ven.secs.length) (fun x => [(17, (true, .i (x : Nat)))]) (fun x => [(0, .box 29 [.i s.ven.shards, .i s.ven.ttl, .i s.ven.session, .ref 2, .t s.key, .sv (.sl 3 (s.gates.map GtG.c)), .i s.workers, .sv (.sl 11 (s.calls.map SrC.c)), .sv (.sl 3 (s.evs.map SrE.c))]), (1, .box 29 [.i 0, .i 0, .i 0, .v (.slice none 0 0), .t [], .v (.slice none 0 0), .i 0, .v (.slice none 0 0), .v (.slice none 0 0)]), (2, .rs 80 3 (s.ven.secs.map VnS.c))]) (fun x => s.ven.secs.length - x) (0) [(1, _), (2, _), (4, _), (16, _)] (Nat.zero_le _) (by repeat (first | exact trivial | refine ⟨rfl, ?_⟩)) (by repeat (first | exact trivial | refine ⟨rfl, ?_⟩)) (by repeat (first | exact trivial | refine ⟨rfl, ?_⟩)) ?_
 rintro k hk ih
 refine .seq ?_
 refine .region rfl ?_
 refine R.bin (run_lss _ _ _ _ _ _) (h := ?_)
 refine .n0 ?_
 refine .seq ?_
 refine LGo.ifd (ht := fun hc => ?_) (hf := fun hc => ?_)
 ·
  have hlt : k < s.ven.secs.length := by omega
  have hx0 : s.ven.secs[k]? = some s.ven.secs[k] := List.getElem?_eq_getElem hlt
  have hx : (s.ven.secs.map VnS.c)[k]? = some s.ven.secs[k].c := by simp [hlt]
  have hsl := hvr s.ven.secs[k] (List.getElem_mem hlt)
  generalize s.ven.secs[k] = g at hx hx0 hsl
  refine .skip ?_
  refine .seq ?_
  refine .block ?_
  refine .seq ?_
  refine .region rfl ?_
  refine R.move (h := ?_)
  refine R.assign (h := ?_)
  refine .n0 ?_
  refine .region rfl ?_
  first | refine R.field F29_0 (h := ?_) | refine R.fieldAt F29_0 (h := ?_)
  first | refine R.field F24_3 (h := ?_) | refine R.fieldAt F24_3 (h := ?_)
  first | refine R.loadB O22 (h := ?_) | refine R.load1 O22 (h := ?_)
  refine R.move (h := ?_)
  first | refine R.field F29_0 (h := ?_) | refine R.fieldAt F29_0 (h := ?_)
  first | refine R.field F24_3 (h := ?_) | refine R.fieldAt F24_3 (h := ?_)
  first | refine R.loadB O22 (h := ?_) | refine R.load1 O22 (h := ?_)
  refine R.move (h := ?_)
  refine R.indexRs I22 (hj := fun _ => ⟨by omega, by rw [List.length_map]; omega⟩) (h := ?_)
  first | refine R.field F80_1 (h := ?_) | refine R.fieldAt F80_1 (h := ?_)
  refine R.loadRs1 O65 k 1 (ev := g.c) (hj := fun _ => ⟨hx, rfl⟩) (h := ?_)
  refine R.callP (es := [_]) (fun _ => cloneI_P (ic .i64 g.rows) (ic_one _ _) (by rw [ic_len]; exact hsl)) (h := ?_)
  refine R.indexRs I22 (hj := fun _ => ⟨by omega, by rw [List.length_map]; omega⟩) (h := ?_)
  first | refine R.field F80_1 (h := ?_) | refine R.fieldAt F80_1 (h := ?_)
  refine R.storeRs1 O65 k 1 g.c (hj := hx) (h := ?_)
  rw [set_sec s.ven.secs k g hx0]
  refine Reg.nil ⟨fun _ => ⟨mixedO, by rfl, by rfl⟩, ?_⟩
  refine .inBlock ?_
  refine .region rfl ?_
  first | refine R.add (h := ?_) | refine R.addW (h := ?_)
  refine R.move (h := ?_)
  refine .n0 ?_
  refine .inLoop ?_
  exact LGo.next _ (fun o h => by have := (hA o).1 h; omega) (by omega) (ih (k + 1) (by omega) (by omega)) (by repeat (first | exact trivial | refine ⟨rfl, ?_⟩)) ⟨rfl, rfl, rfl, trivial⟩
 ·
  refine .exit rfl ?_
  refine .seq ?_
  refine .region rfl ?_
  first | refine R.field F29_2 (h := ?_) | refine R.fieldAt F29_2 (h := ?_)
  first | refine R.loadB O25 (h := ?_) | refine R.load1 O25 (h := ?_)
  refine R.callX (es := [_]) [] (cloneG (s.gates.map GtG.c) (gt_ones _) (by rw [List.length_map]; exact hg)) (h := ?_)
  first | refine R.field F29_2 (h := ?_) | refine R.fieldAt F29_2 (h := ?_)
  refine R.storeB O25 (h := ?_)
  refine .n0 ?_
  refine .seq ?_
  refine .seq ?_
  refine .region rfl ?_
  first | refine R.field F29_2 (h := ?_) | refine R.fieldAt F29_2 (h := ?_)
  first | refine R.loadB O25 (h := ?_) | refine R.load1 O25 (h := ?_)
  first | refine R.len S25 (h := ?_) | refine R.lenRs S25 (h := ?_) | refine R.lenV (run_lenNil S25) (h := ?_)
  rw [List.length_map]
  refine R.move (h := ?_)
  refine .n0 ?_
  refine .block ?_
  refine .loop ?_
  refine LGo.loopG (σ := Nat) (fun x => x ≤ s.gates.length) (fun x => [(42, (true, .i (x : Nat)))]) (fun x => [(0, .box 29 [.i s.ven.shards, .i s.ven.ttl, .i s.ven.session, .ref 2, .t s.key, .ref 3, .i s.workers, .sv (.sl 11 (s.calls.map SrC.c)), .sv (.sl 3 (s.evs.map SrE.c))]), (1, .box 29 [.i 0, .i 0, .i 0, .v (.slice none 0 0), .t [], .v (.slice none 0 0), .i 0, .v (.slice none 0 0), .v (.slice none 0 0)]), (2, .rs 80 3 (s.ven.secs.map VnS.c)), (3, .rs 71 3 (s.gates.map GtG.c))]) (fun x => s.gates.length - x) (0) [(1, _), (2, _), (4, _), (41, _)] (Nat.zero_le _) (by repeat (first | exact trivial | refine ⟨rfl, ?_⟩)) (by repeat (first | exact trivial | refine ⟨rfl, ?_⟩)) (by repeat (first | exact trivial | refine ⟨rfl, ?_⟩)) ?_
  rintro j hj ih2
  refine .seq ?_
  refine .region rfl ?_
  refine R.bin (run_lss _ _ _ _ _ _) (h := ?_)
  refine .n0 ?_
  refine .seq ?_
  refine LGo.ifd (ht := fun hc2 => ?_) (hf := fun hc2 => ?_)
  ·
   have hlt : j < s.gates.length := by omega
   have hx0 : s.gates[j]? = some s.gates[j] := List.getElem?_eq_getElem hlt
   have hx : (s.gates.map GtG.c)[j]? = some s.gates[j].c := by simp [hlt]
   have hsl := hgr s.gates[j] (List.getElem_mem hlt)
   generalize s.gates[j] = g at hx hx0 hsl
   refine .skip ?_
   refine .seq ?_
   refine .block ?_
   refine .seq ?_
   refine .region rfl ?_
   refine R.move (h := ?_)
   refine R.assign (h := ?_)
   refine .n0 ?_
   refine .region rfl ?_
   first | refine R.field F29_2 (h := ?_) | refine R.fieldAt F29_2 (h := ?_)
   first | refine R.loadB O25 (h := ?_) | refine R.load1 O25 (h := ?_)
   refine R.move (h := ?_)
   first | refine R.field F29_2 (h := ?_) | refine R.fieldAt F29_2 (h := ?_)
   first | refine R.loadB O25 (h := ?_) | refine R.load1 O25 (h := ?_)
   refine R.move (h := ?_)
   refine R.indexRs I25 (hj := fun _ => ⟨by omega, by rw [List.length_map]; omega⟩) (h := ?_)
   first | refine R.field F71_0 (h := ?_) | refine R.fieldAt F71_0 (h := ?_)
   refine R.loadRs1 O65 j 0 (ev := g.c) (hj := fun _ => ⟨hx, rfl⟩) (h := ?_)
   refine R.callP (es := [_]) (fun _ => cloneI_P (ic .i64 g.secs) (ic_one _ _) (by rw [ic_len]; exact hsl)) (h := ?_)
   refine R.indexRs I25 (hj := fun _ => ⟨by omega, by rw [List.length_map]; omega⟩) (h := ?_)
   first | refine R.field F71_0 (h := ?_) | refine R.fieldAt F71_0 (h := ?_)
   refine R.storeRs1 O65 j 0 g.c (hj := hx) (h := ?_)
   rw [set_gate s.gates j g hx0]
   refine Reg.nil ⟨fun _ => ⟨mixedO, by rfl, by rfl⟩, ?_⟩
   refine .inBlock ?_
   refine .region rfl ?_
   first | refine R.add (h := ?_) | refine R.addW (h := ?_)
   refine R.move (h := ?_)
   refine .n0 ?_
   refine .inLoop ?_
   exact LGo.next _ (fun o h => by have := (hA o).1 h; omega) (by omega) (ih2 (j + 1) (by omega) (by omega)) (by repeat (first | exact trivial | refine ⟨rfl, ?_⟩)) ⟨rfl, rfl, rfl, rfl, trivial⟩
  ·
   refine .exit rfl ?_
   refine .seq ?_
   refine .region rfl ?_
   first | refine R.field F29_4 (h := ?_) | refine R.fieldAt F29_4 (h := ?_)
   first | refine R.loadB O26 (h := ?_) | refine R.load1 O26 (h := ?_)
   refine R.callX (es := [_]) [] (cloneC (s.calls.map SrC.c) (sc_ones _) (by rw [List.length_map]; exact hcl)) (h := ?_)
   refine R.move (h := ?_)
   first | refine R.field F29_4 (h := ?_) | refine R.fieldAt F29_4 (h := ?_)
   refine R.storeB O26 (h := ?_)
   first | refine R.field F29_5 (h := ?_) | refine R.fieldAt F29_5 (h := ?_)
   refine R.storeB O27 (h := ?_)
   refine .n0 ?_
   refine .seq ?_
   refine .region rfl ?_
   first | refine R.loadA A29 (h := ?_) | refine R.loadN A29 (h := ?_) | refine R.loadP A29 (h := ?_)
   refine R.storeA A29 (h := ?_)
   refine .n0 ?_
   refine LGo.pack 1 3 (h := ?_)
   refine LGo.frzBx 1 (h := ?_)
   refine LGo.pack 1 5 (h := ?_)
   refine LGo.frzBx 1 (h := ?_)
   refine LGo.pack 1 7 (h := ?_)
   refine LGo.frzBx 1 (h := ?_)
   exact LGo.ret (ret_A Tryz.results85 A29 hA hmd)

/-- the nil slice as0 a script's events -/
theorem nilEv (s : Sc) (cx : Cx) (w : World) (x : Value) (h : V cx w (.agg ((s.c.map LV.sv).set 8 (.v (.slice none 0 0)))) x) : V cx w (.agg ((Sc.c { s with evs := [] }).map LV.sv)) x := by
  simp only [V] at h ⊢
  obtain ⟨us, rfl, hu⟩ := h
  refine ⟨us, rfl, ?_⟩
  have e1 : (s.c.map LV.sv).set 8 (.v (.slice none 0 0)) = (s.c.take 8).map LV.sv ++ [.v (.slice none 0 0)] := rfl
  have e2 : (Sc.c { s with evs := [] }).map LV.sv = (s.c.take 8).map LV.sv ++ [.sv (.sl 3 [])] := rfl
  rw [e1] at hu
  rw [e2]
  obtain ⟨a, b, rfl, ha, hb⟩ := Vs.split hu
  refine Vs.append ha ?_
  simp only [Vs] at hb ⊢
  obtain ⟨v, r, rfl, hv, hr⟩ := hb
  exact ⟨v, r, rfl, by simp only [V, VS] at hv ⊢; exact .inl ⟨.inl hv, trivial⟩, hr⟩
theorem PC.nilEv {P : Program} {f : FuncId} {s : Sc} {out : LV} (h : PC P f [.agg ((Sc.c { s with evs := [] }).map LV.sv)] out) : PC P f [.agg ((s.c.map LV.sv).set 8 (.v (.slice none 0 0)))] out :=
  PC.args h (by simp [LV.lts, LV.lt, Sc.c]) (fun cx w vs hv => by
    simp only [Vs] at hv ⊢
    obtain ⟨v, r, rfl, k1, hr⟩ := hv
    exact ⟨v, r, rfl, Go.Proofs.YteccglgbkehdeaaGreatDoor.nilEv s cx w v k1, hr⟩)

theorem exSc_P : PC Tryz.prog 36 [] (.agg (exSc.c.map LV.sv)) := by
 refine ⟨LC.of_go Tryz.func36 (c := _) rfl (by kernel_rfl) (by rw [Tryz.ntmps36]; simp) rfl rfl (by simp [LO.lt, LV.lts, LV.lt, lts_sv]) (by simp) ?_⟩
 intro B hA hmd
 refine .seq ?_
 refine .region rfl ?_
 refine R.alloc Z29 (h := ?_)
 refine .n0 ?_
 refine .seq ?_
 refine .region rfl ?_
 refine R.buildSliceG AP65 (xs := [_, _]) (es := [_, _]) (hcs := CellsOfs.cons (CellsOf.one rfl) (CellsOfs.cons (CellsOf.one rfl) CellsOfs.nil)) (h := ?_)
 refine R.build BF80 (is := [0, 1, 2]) (xs := [_, _, _]) (es := [_, _, _]) (h := ?_)
 refine R.buildSliceG AP65 (xs := [_]) (es := [_]) (hcs := CellsOfs.cons (CellsOf.one rfl) CellsOfs.nil) (h := ?_)
 refine R.build BF80 (is := [0, 1]) (xs := [_, _]) (es := [_, _]) (h := ?_)
 refine R.buildSliceG AP22 (xs := [_, _]) (es := [_, _]) (hcs := CellsOfs.cons (CellsOf.agg rfl) (CellsOfs.cons (CellsOf.agg rfl) CellsOfs.nil)) (h := ?_)
 refine R.build BF24 (is := [0, 1, 2, 3]) (xs := [_, _, _, _]) (es := [_, _, _, _]) (h := ?_)
 refine R.buildSliceG AP65 (xs := [_]) (es := [_]) (hcs := CellsOfs.cons (CellsOf.one rfl) CellsOfs.nil) (h := ?_)
 refine R.build BF71 (is := [0, 2]) (xs := [_, _]) (es := [_, _]) (h := ?_)
 refine R.buildSliceG AP25 (xs := [_]) (es := [_]) (hcs := CellsOfs.cons (CellsOf.agg rfl) CellsOfs.nil) (h := ?_)
 refine R.build BF40 (is := [0, 1]) (xs := [_, _]) (es := [_, _]) (h := ?_)
 refine R.build BF40 (is := [0, 3, 5]) (xs := [_, _, _]) (es := [_, _, _]) (h := ?_)
 refine R.buildSliceG AP26 (xs := [_, _]) (es := [_, _]) (hcs := CellsOfs.cons (CellsOf.agg rfl) (CellsOfs.cons (CellsOf.agg rfl) CellsOfs.nil)) (h := ?_)
 refine R.build BF58 (is := [0, 2]) (xs := [_, _]) (es := [_, _]) (h := ?_)
 refine R.build BF58 (is := [0, 1]) (xs := [_, _]) (es := [_, _]) (h := ?_)
 refine R.build BF58 (is := [0, 1]) (xs := [_, _]) (es := [_, _]) (h := ?_)
 refine R.build BF58 (is := [0]) (xs := [_]) (es := [_]) (h := ?_)
 refine R.buildSliceR AP27 (xs := [_, _, _, _]) (es := [(true, .agg ((SrE.mk 1 0 1).c.map LV.sv)), (true, .agg ((SrE.mk 2 2 0).c.map LV.sv)), (true, .agg ((SrE.mk 4 5 0).c.map LV.sv)), (true, .agg ((SrE.mk 2 0 0).c.map LV.sv))]) (hcs := CellsOfs.cons (CellsOf.agg rfl) (CellsOfs.cons (CellsOf.agg rfl) (CellsOfs.cons (CellsOf.agg rfl) (CellsOfs.cons (CellsOf.agg rfl) (CellsOfs.nil))))) (h := ?_)
 refine R.buildA BG29 (is := [0, 1, 2, 3, 4, 5]) (ks := [0, 4, 5, 6, 7, 8]) (xs := [_, _, _, _, _, _]) (es := [_, _, _, _, _, _]) (hcs := CellsOfs.cons (CellsOf.agg rfl) (CellsOfs.cons (CellsOf.one rfl) (CellsOfs.cons (CellsOf.one rfl) (CellsOfs.cons (CellsOf.one rfl) (CellsOfs.cons (CellsOf.one rfl) (CellsOfs.cons (CellsOf.one rfl) (CellsOfs.nil))))))) (h := ?_)
 refine R.storeA A29 (h := ?_)
 refine .n0 ?_
 refine LGo.pack 0 8 (h := ?_)
 refine LGo.frzBx 0 (h := ?_)
 exact LGo.ret (ret_A Tryz.results36 A29 hA hmd)

theorem nextK_no (ks : List Int) {x : SrE} (h : x.kind ≠ 1) : nextK ks x = ks := if_neg h
theorem sq_byte {v : Nat} (hv : v < 256) : ((v * v : Nat) : Int) ≤ 65025 := by
  have : v * v ≤ 255 * 255 := Nat.mul_le_mul (by omega) (by omega)
  omega

theorem decoded_L (s : Sc) (hcl : s.calls.length ≤ 100000) (hw : 1 ≤ s.workers ∧ s.workers ≤ 8) (ks : List Int) (b v : Nat) (hb : b < 256) (hv : v < 256) : LC Tryz.prog 96 1 [.sv (.at_ s.c), .ref 0, .i b, .i v] [(0, .raw (mapOb encI (mB ks)))] (.agg ((decE s ks b v).c.map LV.sv)) [(0, .raw (mapOb encI (mB (nextK ks (decE s ks b v)))))] 0 := by
 refine LC.of_go Tryz.func96 (c := _) rfl (by kernel_rfl) (by rw [Tryz.ntmps96]; simp) rfl rfl (by simp [LO.lt, LV.lts, LV.lt, lts_sv]) (by simp) ?_
 intro B hA hmd
 obtain ⟨g, e0⟩ : ∃ g, decE s ks b v = g := ⟨_, rfl⟩
 have e1 := e0
 unfold decE at e1
 rw [e0]
 have hsq := sq_byte hv
 have hd0 : 0 ≤ (v : Int) / (s.calls.length : Int) := Int.ediv_nonneg (by omega) (by omega)
 have hd1 : (v : Int) / (s.calls.length : Int) ≤ v := Int.ediv_le_self _ (by omega)
 have hm0 := Int.emod_nonneg ((v / s.calls.length : Nat) : Int) (show s.workers ≠ 0 by omega)
 have hm1 := Int.emod_lt_of_pos ((v / s.calls.length : Nat) : Int) (show 0 < s.workers by omega)
 refine .seq ?_
 refine .region rfl ?_
 refine R.alloc Z58 (h := ?_)
 refine .n0 ?_
 refine .seq ?_
 refine .seq ?_
 refine .region rfl ?_
 refine R.move (h := ?_)
 refine R.rem (h := ?_)
 rw [show (b : Int) % 8 = ((b % 8 : Nat) : Int) from by omega]
 refine .n0 ?_
 refine .block ?_
 refine .seq ?_
 refine .region rfl ?_
 refine R.bin (run_eql _ _ _ _ _ _) (h := ?_)
 refine R.assign (h := ?_)
 refine .n0 ?_
 refine LGo.ifd (ht := fun hc => ?_) (hf := fun hc => ?_)
 ·
  have h1 : b % 8 = 3 := by omega
  rw [if_pos h1] at e1
  refine .seq ?_
  refine .region rfl ?_
  refine R.move (h := ?_)
  refine R.rem (h := ?_)
  rw [show (v : Int) % 20 = ((v % 20 : Nat) : Int) from by omega]
  first | refine R.add (h := ?_) | refine R.addW (h := ?_)
  refine R.build BF58 (is := [0, 1]) (xs := [_, _]) (es := [_, _]) (h := ?_)
  refine R.storeA A58 (h := ?_)
  refine .n0 ?_
  subst e1
  rw [nextK_no ks (by dsimp only; decide)]
  exact LGo.ret (ret_A Tryz.results96 A58 hA hmd)
 ·
  have h1 : ¬ b % 8 = 3 := by omega
  rw [if_neg h1] at e1
  refine .seq ?_
  refine .region rfl ?_
  refine R.bin (run_eql _ _ _ _ _ _) (h := ?_)
  refine R.assign (h := ?_)
  refine .n0 ?_
  refine LGo.ifd (ht := fun hc2 => ?_) (hf := fun hc2 => ?_)
  ·
   have h2 : b % 8 = 4 := by omega
   rw [if_pos h2] at e1
   refine .seq ?_
   refine .region rfl ?_
   refine R.move (h := ?_)
   refine R.rem (h := ?_)
   rw [show (v : Int) % 8 = ((v % 8 : Nat) : Int) from by omega]
   first | refine R.add (h := ?_) | refine R.addW (h := ?_)
   refine R.build BF58 (is := [0, 1]) (xs := [_, _]) (es := [_, _]) (h := ?_)
   refine R.storeA A58 (h := ?_)
   refine .n0 ?_
   subst e1
   rw [nextK_no ks (by dsimp only; decide)]
   exact LGo.ret (ret_A Tryz.results96 A58 hA hmd)
  ·
   have h2 : ¬ b % 8 = 4 := by omega
   rw [if_neg h2] at e1
   refine .seq ?_
   refine .region rfl ?_
   refine R.bin (run_eql _ _ _ _ _ _) (h := ?_)
   refine R.assign (h := ?_)
   refine .n0 ?_
   refine LGo.ifd (ht := fun hc3 => ?_) (hf := fun hc3 => ?_)
   ·
    have h3 : b % 8 = 5 := by omega
    rw [if_pos h3] at e1
    refine .seq ?_
    refine .region rfl ?_
    refine R.move (h := ?_)
    refine R.move (h := ?_)
    first | refine R.mul (h := ?_) | refine R.mulW (h := ?_)
    rw [← Int.natCast_mul]
    first | refine R.add (h := ?_) | refine R.addW (h := ?_)
    refine R.build BF58 (is := [0, 1]) (xs := [_, _]) (es := [_, _]) (h := ?_)
    refine R.storeA A58 (h := ?_)
    refine .n0 ?_
    subst e1
    rw [nextK_no ks (by dsimp only; decide)]
    exact LGo.ret (ret_A Tryz.results96 A58 hA hmd)
   ·
    have h3 : ¬ b % 8 = 5 := by omega
    rw [if_neg h3] at e1
    refine .seq ?_
    refine .seq ?_
    refine .region rfl ?_
    refine R.bin (run_eql _ _ _ _ _ _) (h := ?_)
    refine R.assign (h := ?_)
    refine .n0 ?_
    refine LGo.ifd (ht := fun hc4 => ?_) (hf := fun hc4 => ?_)
    ·
     have h4 : b % 8 = 6 ∨ b % 8 = 7 := by omega
     rw [if_pos h4] at e1
     refine .skip ?_
     first | refine LGo.ifd (ht := fun _ => ?_) (hf := fun h => absurd hc4 h) | refine LGo.ifb (ht := fun _ => ?_) (hf := fun h => by rw [hc4] at h; cases h)
     refine .seq ?_
     refine .region rfl ?_
     refine R.move (h := ?_)
     refine R.nilCheckAt (h := ?_)
     first | refine R.field F29_4 (h := ?_) | refine R.fieldAt F29_4 (h := ?_)
     first | refine R.loadB O26 (h := ?_) | refine R.load1 O26 (h := ?_)
     first | refine R.len S26 (h := ?_) | refine R.lenRs S26 (h := ?_) | refine R.lenV (run_lenNil S26) (h := ?_)
     rw [List.length_map]
     refine R.assign (h := ?_)
     refine .n0 ?_
     refine .seq ?_
     refine .seq ?_
     refine .region rfl ?_
     refine R.move (h := ?_)
     refine R.bin (run_eql _ _ _ _ _ _) (h := ?_)
     refine .n0 ?_
     refine LGo.ifd (ht := fun hc6 => ?_) (hf := fun hc6 => ?_)
     ·
      have h5 : s.calls.length = 0 := by omega
      rw [if_pos h5] at e1
      refine .exit rfl ?_
      refine .seq ?_
      refine .region rfl ?_
      refine R.move (h := ?_)
      refine R.build BF58 (is := [0, 1]) (xs := [_, _]) (es := [_, _]) (h := ?_)
      refine R.storeA A58 (h := ?_)
      refine .n0 ?_
      subst e1
      rw [nextK_no ks (by dsimp only; decide)]
      exact LGo.ret (ret_A Tryz.results96 A58 hA hmd)
     ·
      have h5 : ¬ s.calls.length = 0 := by omega
      rw [if_neg h5] at e1
      refine .skip ?_
      refine .seq ?_
      refine .region rfl ?_
      refine R.move (h := ?_)
      refine R.move (h := ?_)
      refine R.rem (h := ?_)
      rw [← Int.natCast_emod]
      refine R.assign (h := ?_)
      refine .n0 ?_
      refine .seq ?_
      refine .region rfl ?_
      refine R.move (h := ?_)
      refine R.move (h := ?_)
      refine R.lookup1 (enc := encI) (z := .bool false) (a := ((v % s.calls.length : Nat) : Int)) (l := mB ks) Tryz.underlying158 keyI Z4 Told.v (h := ?_)
      rw [getM_B]
      refine R.not (h := ?_)
      refine .n0 ?_
      refine LGo.ifb (ht := fun hc7 => ?_) (hf := fun hc7 => ?_)
      ·
       have h6 : ks.contains ((v % s.calls.length : Nat) : Int) = false := by simpa using hc7
       rw [if_neg (by rw [h6]; simp)] at e1
       refine .seq ?_
       refine .region rfl ?_
       refine R.move (h := ?_)
       refine R.move (h := ?_)
       refine R.mapUpd (enc := encI) (a := ((v % s.calls.length : Nat) : Int)) Tryz.underlying158 keyI Told.v (h := ?_)
       rw [putM_B]
       refine .n0 ?_
       refine .seq ?_
       refine .region rfl ?_
       refine R.move (h := ?_)
       refine R.move (h := ?_)
       refine R.move (h := ?_)
       refine R.quo (h := ?_)
       rw [← Int.natCast_ediv]
       refine R.move (h := ?_)
       refine R.nilCheckAt (h := ?_)
       first | refine R.field F29_3 (h := ?_) | refine R.fieldAt F29_3 (h := ?_)
       first | refine R.loadB O3 (h := ?_) | refine R.load1 O3 (h := ?_)
       refine R.rem (h := ?_)
       first | refine R.add (h := ?_) | refine R.addW (h := ?_)
       refine R.build BF58 (is := [0, 1, 2]) (xs := [_, _, _]) (es := [_, _, _]) (h := ?_)
       refine R.storeA A58 (h := ?_)
       refine Reg.nil ⟨fun _ => ⟨mixedO, by rfl, by rfl⟩, ?_⟩
       subst e1
       rw [show nextK ks ⟨1, ((v % s.calls.length : Nat) : Int), 1 + ((v / s.calls.length : Nat) : Int) % s.workers⟩ = addK ((v % s.calls.length : Nat) : Int) ks from if_pos rfl]
       exact LGo.ret (ret_A Tryz.results96 A58 hA hmd)
      ·
       have h6 : ks.contains ((v % s.calls.length : Nat) : Int) = true := by simpa using hc7
       rw [if_pos h6] at e1
       refine .skip ?_
       refine .inBlock ?_
       refine .seq ?_
       refine .region rfl ?_
       refine R.move (h := ?_)
       refine R.build BF58 (is := [0, 1]) (xs := [_, _]) (es := [_, _]) (h := ?_)
       refine R.storeA A58 (h := ?_)
       refine .n0 ?_
       subst e1
       rw [nextK_no ks (by dsimp only; decide)]
       exact LGo.ret (ret_A Tryz.results96 A58 hA hmd)
    ·
     have h40 : ¬ b % 8 = 6 := by omega
     refine .region rfl ?_
     refine R.bin (run_eql _ _ _ _ _ _) (h := ?_)
     refine R.assign (h := ?_)
     refine .n0 ?_
     refine LGo.ifd (ht := fun hc8 => ?_) (hf := fun hc8 => ?_)
     ·
      have h4 : b % 8 = 6 ∨ b % 8 = 7 := by omega
      rw [if_pos h4] at e1
      refine .seq ?_
      refine .region rfl ?_
      refine R.move (h := ?_)
      refine R.nilCheckAt (h := ?_)
      first | refine R.field F29_4 (h := ?_) | refine R.fieldAt F29_4 (h := ?_)
      first | refine R.loadB O26 (h := ?_) | refine R.load1 O26 (h := ?_)
      first | refine R.len S26 (h := ?_) | refine R.lenRs S26 (h := ?_) | refine R.lenV (run_lenNil S26) (h := ?_)
      rw [List.length_map]
      refine R.assign (h := ?_)
      refine .n0 ?_
      refine .seq ?_
      refine .seq ?_
      refine .region rfl ?_
      refine R.move (h := ?_)
      refine R.bin (run_eql _ _ _ _ _ _) (h := ?_)
      refine .n0 ?_
      refine LGo.ifd (ht := fun hc9 => ?_) (hf := fun hc9 => ?_)
      ·
       have h5 : s.calls.length = 0 := by omega
       rw [if_pos h5] at e1
       refine .exit rfl ?_
       refine .seq ?_
       refine .region rfl ?_
       refine R.move (h := ?_)
       refine R.build BF58 (is := [0, 1]) (xs := [_, _]) (es := [_, _]) (h := ?_)
       refine R.storeA A58 (h := ?_)
       refine .n0 ?_
       subst e1
       rw [nextK_no ks (by dsimp only; decide)]
       exact LGo.ret (ret_A Tryz.results96 A58 hA hmd)
      ·
       have h5 : ¬ s.calls.length = 0 := by omega
       rw [if_neg h5] at e1
       refine .skip ?_
       refine .seq ?_
       refine .region rfl ?_
       refine R.move (h := ?_)
       refine R.move (h := ?_)
       refine R.rem (h := ?_)
       rw [← Int.natCast_emod]
       refine R.assign (h := ?_)
       refine .n0 ?_
       refine .seq ?_
       refine .region rfl ?_
       refine R.move (h := ?_)
       refine R.move (h := ?_)
       refine R.lookup1 (enc := encI) (z := .bool false) (a := ((v % s.calls.length : Nat) : Int)) (l := mB ks) Tryz.underlying158 keyI Z4 Told.v (h := ?_)
       rw [getM_B]
       refine R.not (h := ?_)
       refine .n0 ?_
       refine LGo.ifb (ht := fun hc10 => ?_) (hf := fun hc10 => ?_)
       ·
        have h6 : ks.contains ((v % s.calls.length : Nat) : Int) = false := by simpa using hc10
        rw [if_neg (by rw [h6]; simp)] at e1
        refine .seq ?_
        refine .region rfl ?_
        refine R.move (h := ?_)
        refine R.move (h := ?_)
        refine R.mapUpd (enc := encI) (a := ((v % s.calls.length : Nat) : Int)) Tryz.underlying158 keyI Told.v (h := ?_)
        rw [putM_B]
        refine .n0 ?_
        refine .seq ?_
        refine .region rfl ?_
        refine R.move (h := ?_)
        refine R.move (h := ?_)
        refine R.move (h := ?_)
        refine R.quo (h := ?_)
        rw [← Int.natCast_ediv]
        refine R.move (h := ?_)
        refine R.nilCheckAt (h := ?_)
        first | refine R.field F29_3 (h := ?_) | refine R.fieldAt F29_3 (h := ?_)
        first | refine R.loadB O3 (h := ?_) | refine R.load1 O3 (h := ?_)
        refine R.rem (h := ?_)
        first | refine R.add (h := ?_) | refine R.addW (h := ?_)
        refine R.build BF58 (is := [0, 1, 2]) (xs := [_, _, _]) (es := [_, _, _]) (h := ?_)
        refine R.storeA A58 (h := ?_)
        refine Reg.nil ⟨fun _ => ⟨mixedO, by rfl, by rfl⟩, ?_⟩
        subst e1
        rw [show nextK ks ⟨1, ((v % s.calls.length : Nat) : Int), 1 + ((v / s.calls.length : Nat) : Int) % s.workers⟩ = addK ((v % s.calls.length : Nat) : Int) ks from if_pos rfl]
        exact LGo.ret (ret_A Tryz.results96 A58 hA hmd)
       ·
        have h6 : ks.contains ((v % s.calls.length : Nat) : Int) = true := by simpa using hc10
        rw [if_pos h6] at e1
        refine .skip ?_
        refine .inBlock ?_
        refine .seq ?_
        refine .region rfl ?_
        refine R.move (h := ?_)
        refine R.build BF58 (is := [0, 1]) (xs := [_, _]) (es := [_, _]) (h := ?_)
        refine R.storeA A58 (h := ?_)
        refine .n0 ?_
        subst e1
        rw [nextK_no ks (by dsimp only; decide)]
        exact LGo.ret (ret_A Tryz.results96 A58 hA hmd)
     ·
      have h4 : ¬ (b % 8 = 6 ∨ b % 8 = 7) := by omega
      rw [if_neg h4] at e1
      refine .skip ?_
      refine .inBlock ?_
      refine .seq ?_
      refine .region rfl ?_
      refine R.move (h := ?_)
      refine R.build BF58 (is := [0, 1]) (xs := [_, _]) (es := [_, _]) (h := ?_)
      refine R.storeA A58 (h := ?_)
      refine .n0 ?_
      subst e1
      rw [nextK_no ks (by dsimp only; decide)]
      exact LGo.ret (ret_A Tryz.results96 A58 hA hmd)

end Go.Proofs.YteccglgbkehdeaaGreatDoor
/- scripts: Decode, and the reference's. -/
set_option linter.unusedSimpArgs false
set_option linter.unusedVariables false
namespace Go.Proofs.YteccglgbkehdeaaGreatDoor

/-- the event of two bytes, the calls that are sent told by a sign -/
def decB (s : Sc) (sent : Bool) (b v : Nat) : SrE :=
  if b % 8 = 3 then ⟨3, 1 + (v % 20 : Nat), 0⟩ else
  if b % 8 = 4 then ⟨4, 1 + (v % 8 : Nat), 0⟩ else
  if b % 8 = 5 then ⟨4, 1 + (v * v : Nat), 0⟩ else
  if b % 8 = 6 ∨ b % 8 = 7 then
    (if s.calls.length = 0 then ⟨2, (v : Nat), 0⟩ else if sent = true then ⟨2, (v : Nat), 0⟩ else ⟨1, (v % s.calls.length : Nat), 1 + ((v / s.calls.length : Nat) : Int) % s.workers⟩)
  else ⟨2, (v : Nat), 0⟩
def sentIn (l : List SrE) (a : Int) : Bool := l.any fun y => decide (y.kind = 1) && decide (y.a = a)

theorem decodedR_P (s : Sc) (hcl : s.calls.length ≤ 100000) (hel : s.evs.length ≤ 100000) (hw : 1 ≤ s.workers ∧ s.workers ≤ 8) (b v : Nat) (hb : b < 256) (hv : v < 256) : PC Tryz.prog 97 [.agg (s.c.map LV.sv), .i b, .i v] (.agg ((decB s (sentIn s.evs ((v % s.calls.length : Nat) : Int)) b v).c.map LV.sv)) := by
 refine ⟨LC.of_go Tryz.func97 (c := _) rfl (by kernel_rfl) (by rw [Tryz.ntmps97]; simp) rfl rfl (by simp [LO.lt, LV.lts, LV.lt, lts_sv]) (by simp) ?_⟩
 intro B hA hmd
 obtain ⟨g, e1⟩ : ∃ g, decB s (sentIn s.evs ((v % s.calls.length : Nat) : Int)) b v = g := ⟨_, rfl⟩
 rw [e1]
 unfold decB at e1
 have hsq := sq_byte hv
 have hd0 : 0 ≤ (v : Int) / (s.calls.length : Int) := Int.ediv_nonneg (by omega) (by omega)
 have hd1 : (v : Int) / (s.calls.length : Int) ≤ v := Int.ediv_le_self _ (by omega)
 have hm0 := Int.emod_nonneg ((v / s.calls.length : Nat) : Int) (show s.workers ≠ 0 by omega)
 have hm1 := Int.emod_lt_of_pos ((v / s.calls.length : Nat) : Int) (show 0 < s.workers by omega)
 refine .seq ?_
 refine .region rfl ?_
 refine R.box (h := ?_)
 refine R.alloc Z58 (h := ?_)
 refine .n0 ?_
 refine .seq ?_
 refine .region rfl ?_
 refine R.move (h := ?_)
 refine R.build BF58 (is := [0, 1]) (xs := [_, _]) (es := [_, _]) (h := ?_)
 refine R.alloc Z58 (h := ?_)
 refine R.storeA A58 (h := ?_)
 refine .n0 ?_
 refine .seq ?_
 refine .seq ?_
 refine .region rfl ?_
 refine R.move (h := ?_)
 refine R.rem (h := ?_)
 rw [show (b : Int) % 8 = ((b % 8 : Nat) : Int) from by omega]
 refine .n0 ?_
 refine .block ?_
 refine .seq ?_
 refine .region rfl ?_
 refine R.bin (run_eql _ _ _ _ _ _) (h := ?_)
 refine R.assign (h := ?_)
 refine .n0 ?_
 refine LGo.ifd (ht := fun hc => ?_) (hf := fun hc => ?_)
 ·
  have h1 : b % 8 = 3 := by omega
  rw [if_pos h1] at e1
  refine .seq ?_
  refine .region rfl ?_
  refine R.move (h := ?_)
  refine R.rem (h := ?_)
  rw [show (v : Int) % 20 = ((v % 20 : Nat) : Int) from by omega]
  first | refine R.add (h := ?_) | refine R.addW (h := ?_)
  refine R.build BF58 (is := [0, 1]) (xs := [_, _]) (es := [_, _]) (h := ?_)
  refine R.storeA A58 (h := ?_)
  refine .n0 ?_
  try subst e1
  exact LGo.ret (ret_A Tryz.results97 A58 hA hmd)
 ·
  have h1 : ¬ b % 8 = 3 := by omega
  rw [if_neg h1] at e1
  refine .seq ?_
  refine .region rfl ?_
  refine R.bin (run_eql _ _ _ _ _ _) (h := ?_)
  refine R.assign (h := ?_)
  refine .n0 ?_
  refine LGo.ifd (ht := fun hc2 => ?_) (hf := fun hc2 => ?_)
  ·
   have h2 : b % 8 = 4 := by omega
   rw [if_pos h2] at e1
   refine .seq ?_
   refine .region rfl ?_
   refine R.move (h := ?_)
   refine R.rem (h := ?_)
   rw [show (v : Int) % 8 = ((v % 8 : Nat) : Int) from by omega]
   first | refine R.add (h := ?_) | refine R.addW (h := ?_)
   refine R.build BF58 (is := [0, 1]) (xs := [_, _]) (es := [_, _]) (h := ?_)
   refine R.storeA A58 (h := ?_)
   refine .n0 ?_
   try subst e1
   exact LGo.ret (ret_A Tryz.results97 A58 hA hmd)
  ·
   have h2 : ¬ b % 8 = 4 := by omega
   rw [if_neg h2] at e1
   refine .seq ?_
   refine .region rfl ?_
   refine R.bin (run_eql _ _ _ _ _ _) (h := ?_)
   refine R.assign (h := ?_)
   refine .n0 ?_
   refine LGo.ifd (ht := fun hc3 => ?_) (hf := fun hc3 => ?_)
   ·
    have h3 : b % 8 = 5 := by omega
    rw [if_pos h3] at e1
    refine .seq ?_
    refine .region rfl ?_
    refine R.move (h := ?_)
    refine R.move (h := ?_)
    first | refine R.mul (h := ?_) | refine R.mulW (h := ?_)
    rw [← Int.natCast_mul]
    first | refine R.add (h := ?_) | refine R.addW (h := ?_)
    refine R.build BF58 (is := [0, 1]) (xs := [_, _]) (es := [_, _]) (h := ?_)
    refine R.storeA A58 (h := ?_)
    refine .n0 ?_
    try subst e1
    exact LGo.ret (ret_A Tryz.results97 A58 hA hmd)
   ·
    have h3 : ¬ b % 8 = 5 := by omega
    rw [if_neg h3] at e1
    refine .seq ?_
    refine .seq ?_
    refine .region rfl ?_
    refine R.bin (run_eql _ _ _ _ _ _) (h := ?_)
    refine R.assign (h := ?_)
    refine .n0 ?_
    refine LGo.ifd (ht := fun hc4 => ?_) (hf := fun hc4 => ?_)
    ·
     have h4 : b % 8 = 6 ∨ b % 8 = 7 := by omega
     rw [if_pos h4] at e1
     refine .skip ?_
     first | refine LGo.ifd (ht := fun _ => ?_) (hf := fun h => absurd hc4 h) | refine LGo.ifb (ht := fun _ => ?_) (hf := fun h => by rw [hc4] at h; cases h)
     refine .seq ?_
     refine .region rfl ?_
     first | refine R.field F29_4 (h := ?_) | refine R.fieldAt F29_4 (h := ?_)
     first | refine R.loadB O26 (h := ?_) | refine R.load1 O26 (h := ?_)
     first | refine R.len S26 (h := ?_) | refine R.lenRs S26 (h := ?_) | refine R.lenV (run_lenNil S26) (h := ?_)
     rw [List.length_map]
     refine R.assign (h := ?_)
     refine .n0 ?_
     refine .seq ?_
     refine .seq ?_
     refine .region rfl ?_
     refine R.move (h := ?_)
     refine R.bin (run_eql _ _ _ _ _ _) (h := ?_)
     refine .n0 ?_
     refine LGo.ifd (ht := fun hc6 => ?_) (hf := fun hc6 => ?_)
     ·
      have h5 : s.calls.length = 0 := by omega
      rw [if_pos h5] at e1
      refine .seq ?_
      refine .region rfl ?_
      first | refine R.loadA A58 (h := ?_) | refine R.loadN A58 (h := ?_) | refine R.loadP A58 (h := ?_)
      refine R.storeA A58 (h := ?_)
      refine .n0 ?_
      try subst e1
      exact LGo.ret (ret_A Tryz.results97 A58 hA hmd)
     ·
      have h5 : ¬ s.calls.length = 0 := by omega
      rw [if_neg h5] at e1
      obtain ⟨A, hA0⟩ : ∃ A : Nat, v % s.calls.length = A := ⟨_, rfl⟩
      rw [hA0] at e1
      refine .skip ?_
      refine .seq ?_
      refine .seq ?_
      refine .region rfl ?_
      refine R.assign (h := ?_)
      refine .n0 ?_
      refine .block ?_
      refine .loop ?_
      refine LGo.loopG (σ := Nat) (fun x => x ≤ s.evs.length ∧ (if sentIn (s.evs.drop x) A = true then (⟨2, (v : Nat), 0⟩ : SrE) else ⟨1, A, 1 + ((v / s.calls.length : Nat) : Int) % s.workers⟩) = g) (fun x => [(9, (true, .i (x : Nat)))]) (fun x => [(0, .box 29 (s.c.map LV.sv)), (1, .box 58 [.i 0, .i 0, .i 0]), (2, .box 58 [.i 2, .i v, .i 0])]) (fun x => s.evs.length - x) (0) [(2, _), (3, _), (6, _), (7, _), (8, _)] ⟨Nat.zero_le _, e1⟩ (by repeat (first | exact trivial | refine ⟨rfl, ?_⟩)) (by repeat (first | exact trivial | refine ⟨rfl, ?_⟩)) (by repeat (first | exact trivial | refine ⟨rfl, ?_⟩)) ?_
      rintro k ⟨hk, hq⟩ ih
      refine .seq ?_
      refine .seq ?_
      refine .region rfl ?_
      refine R.move (h := ?_)
      first | refine R.field F29_5 (h := ?_) | refine R.fieldAt F29_5 (h := ?_)
      first | refine R.loadB O27 (h := ?_) | refine R.load1 O27 (h := ?_)
      first | refine R.len S27 (h := ?_) | refine R.lenRs S27 (h := ?_) | refine R.lenV (run_lenNil S27) (h := ?_)
      rw [List.length_map]
      refine R.bin (run_lss _ _ _ _ _ _) (h := ?_)
      refine .n0 ?_
      refine LGo.ifd (ht := fun hc7 => ?_) (hf := fun hc7 => ?_)
      ·
       have hlt : k < s.evs.length := by omega
       have hx : (s.evs.map SrE.c)[((k : Nat) : Int).toNat]? = some s.evs[k].c := by simp [hlt]
       have hd : s.evs.drop k = s.evs[k] :: s.evs.drop (k + 1) := List.drop_eq_getElem_cons hlt
       rw [hd, sentIn, List.any_cons] at hq
       generalize s.evs[k] = z at hx hq
       clear hd
       refine .skip ?_
       refine .seq ?_
       refine .block ?_
       refine .seq ?_
       refine .region rfl ?_
       first | refine R.field F29_5 (h := ?_) | refine R.fieldAt F29_5 (h := ?_)
       first | refine R.loadB O27 (h := ?_) | refine R.load1 O27 (h := ?_)
       refine R.move (h := ?_)
       refine R.index I27 (hj := fun hg => ⟨by omega, hx⟩) (h := ?_)
       first | refine R.field F58_0 (h := ?_) | refine R.fieldAt F58_0 (h := ?_)
       first | refine R.loadB O3 (h := ?_) | refine R.load1 O3 (h := ?_)
       refine R.bin (run_eql _ _ _ _ _ _) (h := ?_)
       refine R.move (h := ?_)
       first | refine R.field F29_5 (h := ?_) | refine R.fieldAt F29_5 (h := ?_)
       first | refine R.loadB O27 (h := ?_) | refine R.load1 O27 (h := ?_)
       refine R.move (h := ?_)
       refine R.index I27 (hj := fun hg => ⟨by (simp at hg; omega), hx⟩) (h := ?_)
       first | refine R.field F58_1 (h := ?_) | refine R.fieldAt F58_1 (h := ?_)
       first | refine R.loadB O2 (h := ?_) | refine R.load1 O2 (h := ?_)
       refine R.move (h := ?_)
       refine R.move (h := ?_)
       refine R.rem (h := ?_)
       rw [← Int.natCast_emod, hA0]
       refine R.bin (run_eql _ _ _ _ _ _) (h := ?_)
       refine R.and (h := ?_)
       refine Reg.nil ⟨fun _ => ⟨mixedO, by rfl, by rfl⟩, ?_⟩
       refine LGo.ifb (ht := fun hc8 => ?_) (hf := fun hc8 => ?_)
       ·
        rw [hc8, Bool.true_or, if_pos rfl] at hq
        rw [← hq]
        refine .seq ?_
        refine .region rfl ?_
        first | refine R.loadA A58 (h := ?_) | refine R.loadN A58 (h := ?_) | refine R.loadP A58 (h := ?_)
        refine R.storeA A58 (h := ?_)
        refine .n0 ?_
        try subst e1
        exact LGo.ret (ret_A Tryz.results97 A58 hA hmd)
       ·
        rw [hc8, Bool.false_or] at hq
        refine .skip ?_
        refine .inBlock ?_
        refine .region rfl ?_
        refine R.move (h := ?_)
        first | refine R.add (h := ?_) | refine R.addW (h := ?_)
        refine R.assign (h := ?_)
        refine .n0 ?_
        refine .inLoop ?_
        exact LGo.next _ (fun o h => by have := (hA o).1 h; omega) (by omega) (ih (k + 1) ⟨by omega, hq⟩ (by omega)) (by repeat (first | exact trivial | refine ⟨rfl, ?_⟩)) ⟨rfl, rfl, rfl, trivial⟩
      ·
       rw [List.drop_eq_nil_of_le (show s.evs.length ≤ k by omega), sentIn, List.any_nil, if_neg (by simp)] at hq
       rw [← hq]
       refine .exit rfl ?_
       refine .seq ?_
       refine .region rfl ?_
       refine R.move (h := ?_)
       refine R.move (h := ?_)
       refine R.rem (h := ?_)
       rw [← Int.natCast_emod, hA0]
       refine R.move (h := ?_)
       refine R.move (h := ?_)
       refine R.quo (h := ?_)
       rw [← Int.natCast_ediv]
       first | refine R.field F29_3 (h := ?_) | refine R.fieldAt F29_3 (h := ?_)
       first | refine R.loadB O3 (h := ?_) | refine R.load1 O3 (h := ?_)
       refine R.rem (h := ?_)
       first | refine R.add (h := ?_) | refine R.addW (h := ?_)
       refine R.build BF58 (is := [0, 1, 2]) (xs := [_, _, _]) (es := [_, _, _]) (h := ?_)
       refine R.storeA A58 (h := ?_)
       refine Reg.nil ⟨fun _ => ⟨mixedO, by rfl, by rfl⟩, ?_⟩
       try subst e1
       exact LGo.ret (ret_A Tryz.results97 A58 hA hmd)
    ·
     have h40 : ¬ b % 8 = 6 := by omega
     refine .region rfl ?_
     refine R.bin (run_eql _ _ _ _ _ _) (h := ?_)
     refine R.assign (h := ?_)
     refine .n0 ?_
     refine LGo.ifd (ht := fun hc9 => ?_) (hf := fun hc9 => ?_)
     ·
      have h4 : b % 8 = 6 ∨ b % 8 = 7 := by omega
      rw [if_pos h4] at e1
      refine .seq ?_
      refine .region rfl ?_
      first | refine R.field F29_4 (h := ?_) | refine R.fieldAt F29_4 (h := ?_)
      first | refine R.loadB O26 (h := ?_) | refine R.load1 O26 (h := ?_)
      first | refine R.len S26 (h := ?_) | refine R.lenRs S26 (h := ?_) | refine R.lenV (run_lenNil S26) (h := ?_)
      rw [List.length_map]
      refine R.assign (h := ?_)
      refine .n0 ?_
      refine .seq ?_
      refine .seq ?_
      refine .region rfl ?_
      refine R.move (h := ?_)
      refine R.bin (run_eql _ _ _ _ _ _) (h := ?_)
      refine .n0 ?_
      refine LGo.ifd (ht := fun hc10 => ?_) (hf := fun hc10 => ?_)
      ·
       have h5 : s.calls.length = 0 := by omega
       rw [if_pos h5] at e1
       refine .seq ?_
       refine .region rfl ?_
       first | refine R.loadA A58 (h := ?_) | refine R.loadN A58 (h := ?_) | refine R.loadP A58 (h := ?_)
       refine R.storeA A58 (h := ?_)
       refine .n0 ?_
       try subst e1
       exact LGo.ret (ret_A Tryz.results97 A58 hA hmd)
      ·
       have h5 : ¬ s.calls.length = 0 := by omega
       rw [if_neg h5] at e1
       obtain ⟨A, hA0⟩ : ∃ A : Nat, v % s.calls.length = A := ⟨_, rfl⟩
       rw [hA0] at e1
       refine .skip ?_
       refine .seq ?_
       refine .seq ?_
       refine .region rfl ?_
       refine R.assign (h := ?_)
       refine .n0 ?_
       refine .block ?_
       refine .loop ?_
       refine LGo.loopG (σ := Nat) (fun x => x ≤ s.evs.length ∧ (if sentIn (s.evs.drop x) A = true then (⟨2, (v : Nat), 0⟩ : SrE) else ⟨1, A, 1 + ((v / s.calls.length : Nat) : Int) % s.workers⟩) = g) (fun x => [(9, (true, .i (x : Nat)))]) (fun x => [(0, .box 29 (s.c.map LV.sv)), (1, .box 58 [.i 0, .i 0, .i 0]), (2, .box 58 [.i 2, .i v, .i 0])]) (fun x => s.evs.length - x) (0) [(2, _), (3, _), (6, _), (7, _), (8, _)] ⟨Nat.zero_le _, e1⟩ (by repeat (first | exact trivial | refine ⟨rfl, ?_⟩)) (by repeat (first | exact trivial | refine ⟨rfl, ?_⟩)) (by repeat (first | exact trivial | refine ⟨rfl, ?_⟩)) ?_
       rintro k ⟨hk, hq⟩ ih2
       refine .seq ?_
       refine .seq ?_
       refine .region rfl ?_
       refine R.move (h := ?_)
       first | refine R.field F29_5 (h := ?_) | refine R.fieldAt F29_5 (h := ?_)
       first | refine R.loadB O27 (h := ?_) | refine R.load1 O27 (h := ?_)
       first | refine R.len S27 (h := ?_) | refine R.lenRs S27 (h := ?_) | refine R.lenV (run_lenNil S27) (h := ?_)
       rw [List.length_map]
       refine R.bin (run_lss _ _ _ _ _ _) (h := ?_)
       refine .n0 ?_
       refine LGo.ifd (ht := fun hc11 => ?_) (hf := fun hc11 => ?_)
       ·
        have hlt : k < s.evs.length := by omega
        have hx : (s.evs.map SrE.c)[((k : Nat) : Int).toNat]? = some s.evs[k].c := by simp [hlt]
        have hd : s.evs.drop k = s.evs[k] :: s.evs.drop (k + 1) := List.drop_eq_getElem_cons hlt
        rw [hd, sentIn, List.any_cons] at hq
        generalize s.evs[k] = z at hx hq
        clear hd
        refine .skip ?_
        refine .seq ?_
        refine .block ?_
        refine .seq ?_
        refine .region rfl ?_
        first | refine R.field F29_5 (h := ?_) | refine R.fieldAt F29_5 (h := ?_)
        first | refine R.loadB O27 (h := ?_) | refine R.load1 O27 (h := ?_)
        refine R.move (h := ?_)
        refine R.index I27 (hj := fun hg => ⟨by omega, hx⟩) (h := ?_)
        first | refine R.field F58_0 (h := ?_) | refine R.fieldAt F58_0 (h := ?_)
        first | refine R.loadB O3 (h := ?_) | refine R.load1 O3 (h := ?_)
        refine R.bin (run_eql _ _ _ _ _ _) (h := ?_)
        refine R.move (h := ?_)
        first | refine R.field F29_5 (h := ?_) | refine R.fieldAt F29_5 (h := ?_)
        first | refine R.loadB O27 (h := ?_) | refine R.load1 O27 (h := ?_)
        refine R.move (h := ?_)
        refine R.index I27 (hj := fun hg => ⟨by (simp at hg; omega), hx⟩) (h := ?_)
        first | refine R.field F58_1 (h := ?_) | refine R.fieldAt F58_1 (h := ?_)
        first | refine R.loadB O2 (h := ?_) | refine R.load1 O2 (h := ?_)
        refine R.move (h := ?_)
        refine R.move (h := ?_)
        refine R.rem (h := ?_)
        rw [← Int.natCast_emod, hA0]
        refine R.bin (run_eql _ _ _ _ _ _) (h := ?_)
        refine R.and (h := ?_)
        refine Reg.nil ⟨fun _ => ⟨mixedO, by rfl, by rfl⟩, ?_⟩
        refine LGo.ifb (ht := fun hc12 => ?_) (hf := fun hc12 => ?_)
        ·
         rw [hc12, Bool.true_or, if_pos rfl] at hq
         rw [← hq]
         refine .seq ?_
         refine .region rfl ?_
         first | refine R.loadA A58 (h := ?_) | refine R.loadN A58 (h := ?_) | refine R.loadP A58 (h := ?_)
         refine R.storeA A58 (h := ?_)
         refine .n0 ?_
         try subst e1
         exact LGo.ret (ret_A Tryz.results97 A58 hA hmd)
        ·
         rw [hc12, Bool.false_or] at hq
         refine .skip ?_
         refine .inBlock ?_
         refine .region rfl ?_
         refine R.move (h := ?_)
         first | refine R.add (h := ?_) | refine R.addW (h := ?_)
         refine R.assign (h := ?_)
         refine .n0 ?_
         refine .inLoop ?_
         exact LGo.next _ (fun o h => by have := (hA o).1 h; omega) (by omega) (ih2 (k + 1) ⟨by omega, hq⟩ (by omega)) (by repeat (first | exact trivial | refine ⟨rfl, ?_⟩)) ⟨rfl, rfl, rfl, trivial⟩
       ·
        rw [List.drop_eq_nil_of_le (show s.evs.length ≤ k by omega), sentIn, List.any_nil, if_neg (by simp)] at hq
        rw [← hq]
        refine .exit rfl ?_
        refine .seq ?_
        refine .region rfl ?_
        refine R.move (h := ?_)
        refine R.move (h := ?_)
        refine R.rem (h := ?_)
        rw [← Int.natCast_emod, hA0]
        refine R.move (h := ?_)
        refine R.move (h := ?_)
        refine R.quo (h := ?_)
        rw [← Int.natCast_ediv]
        first | refine R.field F29_3 (h := ?_) | refine R.fieldAt F29_3 (h := ?_)
        first | refine R.loadB O3 (h := ?_) | refine R.load1 O3 (h := ?_)
        refine R.rem (h := ?_)
        first | refine R.add (h := ?_) | refine R.addW (h := ?_)
        refine R.build BF58 (is := [0, 1, 2]) (xs := [_, _, _]) (es := [_, _, _]) (h := ?_)
        refine R.storeA A58 (h := ?_)
        refine Reg.nil ⟨fun _ => ⟨mixedO, by rfl, by rfl⟩, ?_⟩
        try subst e1
        exact LGo.ret (ret_A Tryz.results97 A58 hA hmd)
     ·
      have h4 : ¬ (b % 8 = 6 ∨ b % 8 = 7) := by omega
      rw [if_neg h4] at e1
      refine .skip ?_
      refine .inBlock ?_
      refine .seq ?_
      refine .region rfl ?_
      first | refine R.loadA A58 (h := ?_) | refine R.loadN A58 (h := ?_) | refine R.loadP A58 (h := ?_)
      refine R.storeA A58 (h := ?_)
      refine .n0 ?_
      try subst e1
      exact LGo.ret (ret_A Tryz.results97 A58 hA hmd)

end Go.Proofs.YteccglgbkehdeaaGreatDoor
/- scripts: Decode, and the reference's. -/
set_option linter.unusedSimpArgs false
set_option linter.unusedVariables false
namespace Go.Proofs.YteccglgbkehdeaaGreatDoor

/-- the pieces of two bytes -/
def chunkL : List UInt8 → List (List UInt8)
  | a :: b :: r => [a, b] :: chunkL r
  | [a] => [[a]]
  | [] => []
theorem chunk_len : ∀ l : List UInt8, (chunkL l).length = (l.length + 1) / 2
  | [] => rfl
  | [_] => by simp [chunkL]
  | a :: b :: r => by rw [chunkL, List.length_cons, chunk_len r, List.length_cons, List.length_cons]; omega
theorem chunk_at : ∀ (l : List UInt8) (k : Nat), 2 * k < l.length → (chunkL l)[k]? = some ((l.take (2 * k + min 2 (l.length - 2 * k))).drop (2 * k))
  | [], k, h => by simp at h
  | [a], k, h => by
    obtain rfl : k = 0 := by simp at h; omega
    rfl
  | a :: b :: r, 0, _ => by simp [chunkL]
  | a :: b :: r, k + 1, h => by
    have ih := chunk_at r k (by simp at h; omega)
    rw [chunkL, List.getElem?_cons_succ, ih]
    have e : (a :: b :: r).length - 2 * (k + 1) = r.length - 2 * k := by simp; omega
    rw [e, show 2 * (k + 1) + min 2 (r.length - 2 * k) = (2 * k + min 2 (r.length - 2 * k)) + 1 + 1 from by omega, List.take_succ_cons, List.take_succ_cons, show 2 * (k + 1) = 2 * k + 1 + 1 from by omega, List.drop_succ_cons, List.drop_succ_cons]
def chStep (s : Sc) (p : List SrE × List Int) (c : List UInt8) : List SrE × List Int :=
  match c with
  | [b, v] => if p.1.length < 1000 then (p.1 ++ [decE s p.2 b.toNat v.toNat], nextK p.2 (decE s p.2 b.toNat v.toNat)) else p
  | _ => p
def chSt (s : Sc) (raw : List UInt8) (j : Nat) : List SrE × List Int := ((chunkL raw).take j).foldl (chStep s) ([], [])
theorem chSt_succ {s : Sc} {raw : List UInt8} {j : Nat} (h : j < (chunkL raw).length) : chSt s raw (j + 1) = chStep s (chSt s raw j) (chunkL raw)[j] := by
  unfold chSt
  rw [List.take_succ_eq_append_getElem h, List.foldl_append]; rfl
theorem chStep_le {s : Sc} {p : List SrE × List Int} (h : p.1.length ≤ 1000) (c : List UInt8) : (chStep s p c).1.length ≤ 1000 := by
  unfold chStep
  split
  · split
    · simp; omega
    · exact h
  · exact h
theorem foldl_le {s : Sc} : ∀ (l : List (List UInt8)) (p : List SrE × List Int), p.1.length ≤ 1000 → (l.foldl (chStep s) p).1.length ≤ 1000
  | [], p, h => h
  | c :: l, p, h => foldl_le l _ (chStep_le h c)
theorem chSt_le (s : Sc) (raw : List UInt8) (j : Nat) : (chSt s raw j).1.length ≤ 1000 := foldl_le _ _ (Nat.zero_le _)
theorem chStep_no {s : Sc} {acc : List SrE} {ks : List Int} {c : List UInt8} (h : ¬ (c.length = 2 ∧ acc.length < 1000)) : chStep s (acc, ks) c = (acc, ks) := by
  unfold chStep
  split
  · rename_i b v
    rw [if_neg (fun h2 => h ⟨rfl, h2⟩)]
  · rfl
theorem ch_fold (s : Sc) : ∀ (l : List UInt8) (acc : List SrE) (ks : List Int), ((chunkL l).foldl (chStep s) (acc, ks)).1 = acc ++ decL s ks ((pairsOf l).take (1000 - acc.length))
  | [], acc, ks => by simp [chunkL, pairsOf, decL]
  | [a], acc, ks => by simp [chunkL, pairsOf, decL, chStep]
  | a :: b :: r, acc, ks => by
    rw [chunkL, pairsOf, List.foldl_cons]
    by_cases h : acc.length < 1000
    · have e : chStep s (acc, ks) [a, b] = (acc ++ [decE s ks a.toNat b.toNat], nextK ks (decE s ks a.toNat b.toNat)) := by unfold chStep; dsimp only; rw [if_pos h]
      rw [e, ch_fold s r, show 1000 - acc.length = (1000 - (acc ++ [decE s ks a.toNat b.toNat]).length) + 1 from by simp; omega, List.take_succ_cons, decL, List.append_assoc]
      rfl
    · rw [chStep_no (fun h2 => h h2.2), ch_fold s r, show 1000 - acc.length = 0 from by omega]
      simp [decL]
theorem chSt_end (s : Sc) (raw : List UInt8) : (chSt s raw (chunkL raw).length).1 = decL s [] ((pairsOf raw).take 1000) := by
  unfold chSt
  rw [List.take_length, ch_fold s raw [] []]; rfl
abbrev CW (A0 A1 A2 A3 A4 : Nat → LO) (A7 A8 : LO) (raw : List UInt8) (j : Nat) : List (Nat × LO) := [(0, A0 j), (1, A1 j), (2, A2 j), (3, A3 j), (4, A4 j), (5, .box 44 [.sv (.sl 1 (bytesC raw))]), (6, .box 3 [.i 2]), (7, A7), (8, A8)]
def chY (c : List UInt8) : List LV := [.sv (.sl 1 (bytesC c))]
theorem bytes_sub (l : List UInt8) (a b : Nat) : ((bytesC l).take b).drop a = bytesC ((l.take b).drop a) := by unfold bytesC; rw [List.map_drop, List.map_take]

theorem chunk_L (raw : List UInt8) : LC Tryz.prog 95 0 [.sv (.sl 1 (bytesC raw)), .i 2] [] (.fn (.func 166) [] [.ptr 0 0, .ptr 1 0]) [(0, .box 44 [.sv (.sl 1 (bytesC raw))]), (1, .box 3 [.i 2])] 2 := by
 refine LC.of_go Tryz.func95 (c := _) rfl (by kernel_rfl) (by rw [Tryz.ntmps95]; simp) rfl rfl (by simp [LO.lt, LV.lts, LV.lt, lts_sv]) (by simp) ?_
 intro B hA hmd
 refine .seq ?_
 refine .region rfl ?_
 refine R.box (h := ?_)
 refine R.box (h := ?_)
 refine R.assign (h := ?_)
 refine .n0 ?_
 refine .seq ?_
 refine .seq ?_
 refine .region rfl ?_
 first | refine R.loadB O3 (h := ?_) | refine R.load1 O3 (h := ?_)
 refine R.bin (run_lss _ _ _ _ _ _) (h := ?_)
 refine .n0 ?_
 refine LGo.ifb (ht := fun hc => by simp at hc) (hf := fun hc => ?_)
 refine .skip ?_
 refine .seq ?_
 refine .region rfl ?_
 refine R.makeFunc (es := []) (fs := [_, _]) (h := ?_)
 refine R.assign (h := ?_)
 refine .n0 ?_
 exact LGo.ret (ret_T Tryz.results95 hA hmd)

theorem chunk1_L {raw : List UInt8} {A0 A1 A2 A3 A4 : Nat → LO} {A7 A8 : LO} (hl : raw.length ≤ 100000) (h : YG Tryz.prog 8 9 ((chunkL raw).map chY) (CW A0 A1 A2 A3 A4 A7 A8 raw)) : LC Tryz.prog 166 9 [.yld 8, .ptr 5 0, .ptr 6 0] (CW A0 A1 A2 A3 A4 A7 A8 raw 0) (.tup []) (CW A0 A1 A2 A3 A4 A7 A8 raw (chunkL raw).length) 0 := by
 refine LC.of_go Tryz.func166 (c := _) rfl (by kernel_rfl) (by rw [Tryz.ntmps166]; simp) (by simp [LV.lts, LV.lt]) (h.keys 0 (by omega)) (h.lt 0 (by omega)) (fun p hp' => .inl (by rw [h.keys 0 (by omega), ← h.keys _ (by simp : (chunkL raw).length ≤ _)]; exact List.mem_map.2 ⟨p, hp', rfl⟩)) ?_
 intro B hA hmd
 have hcl := chunk_len raw
 refine .seq ?_
 refine .region rfl ?_
 refine R.assign (h := ?_)
 refine .n0 ?_
 refine .block ?_
 refine .loop ?_
 refine LGo.loopG (σ := Nat) (fun x => x ≤ (chunkL raw).length) (fun x => [(4, (true, .i ((2 * x : Nat) : Int))), (1, (true, .ptr 5 0)), (2, (true, .ptr 6 0))]) (fun x => CW A0 A1 A2 A3 A4 A7 A8 raw x) (fun x => (chunkL raw).length - x) (0) [(0, _)] (Nat.zero_le _) (by repeat (first | exact trivial | refine ⟨rfl, ?_⟩)) (by repeat (first | exact trivial | refine ⟨rfl, ?_⟩)) (by repeat (first | exact trivial | refine ⟨rfl, ?_⟩)) ?_
 rintro k hk ih
 refine .seq ?_
 refine .seq ?_
 refine .region rfl ?_
 refine R.move (h := ?_)
 refine R.loadB O44 (hb := rfl) (h := ?_)
 first | refine R.len S44 (h := ?_) | refine R.lenRs S44 (h := ?_) | refine R.lenV (run_lenNil S44) (h := ?_)
 rw [bytesC_length]
 refine R.bin (run_lss _ _ _ _ _ _) (h := ?_)
 refine .n0 ?_
 refine LGo.ifd (ht := fun hc => ?_) (hf := fun hc => ?_)
 ·
  have hlt : 2 * k < raw.length := by omega
  have hkc : k < (chunkL raw).length := by omega
  have hy : ((chunkL raw).map chY)[k]? = some (chY ((raw.take (2 * k + min 2 (raw.length - 2 * k))).drop (2 * k))) := by rw [List.getElem?_map, chunk_at raw k hlt]; rfl
  refine .skip ?_
  refine .seq ?_
  refine .block ?_
  refine .seq ?_
  refine .region rfl ?_
  refine R.loadB O3 (hb := rfl) (h := ?_)
  refine R.loadB O44 (hb := rfl) (h := ?_)
  refine R.move (h := ?_)
  refine R.sliceLo SF44 (ha := fun _ => by rw [bytesC_length]; omega) (h := ?_)
  first | refine R.len S44 (h := ?_) | refine R.lenRs S44 (h := ?_) | refine R.lenV (run_lenNil S44) (h := ?_)
  rw [List.length_drop, bytesC_length]
  refine R.minI (h := ?_)
  rw [show min (2 : Int) ((raw.length - ((2 * k : Nat) : Int).toNat : Nat) : Int) = ((min 2 (raw.length - 2 * k) : Nat) : Int) from by omega]
  refine R.assign (h := ?_)
  refine Reg.nil ⟨fun _ => ⟨mixedO, by rfl, by rfl⟩, ?_⟩
  refine .seq ?_
  refine .region rfl ?_
  refine R.move (h := ?_)
  refine R.loadB O44 (hb := rfl) (h := ?_)
  refine R.move (h := ?_)
  refine R.move (h := ?_)
  refine R.move (h := ?_)
  first | refine R.add (h := ?_) | refine R.addW (h := ?_)
  rw [show ((2 * k : Nat) : Int) + ((min 2 (raw.length - 2 * k) : Nat) : Int) = ((2 * k + min 2 (raw.length - 2 * k) : Nat) : Int) from by omega]
  refine R.move (h := ?_)
  refine R.move (h := ?_)
  first | refine R.add (h := ?_) | refine R.addW (h := ?_)
  rw [show ((2 * k : Nat) : Int) + ((min 2 (raw.length - 2 * k) : Nat) : Int) = ((2 * k + min 2 (raw.length - 2 * k) : Nat) : Int) from by omega]
  refine R.slice3 SF44 (a := 2 * k) (b := 2 * k + min 2 (raw.length - 2 * k)) (ha := fun _ => ⟨by omega, by rw [bytesC_length]; omega⟩) (h := ?_)
  rw [bytes_sub]
  refine R.callYld (es := [_]) (h.at_ hy) (hL := fun k z hz => by rcases k with _ | _ | _ | _ | _ | _ | _ | _ | _ | k <;> first | exact hz | cases hz) (h := ?_)
  refine R.not (h := ?_)
  refine .n0 ?_
  refine LGo.ifb (ht := fun hc2 => by simp at hc2) (hf := fun hc2 => ?_)
  refine .skip ?_
  refine .inBlock ?_
  refine .region rfl ?_
  refine R.move (h := ?_)
  refine R.loadB O3 (hb := rfl) (h := ?_)
  first | refine R.add (h := ?_) | refine R.addW (h := ?_)
  rw [show ((2 * k : Nat) : Int) + 2 = ((2 * (k + 1) : Nat) : Int) from by omega]
  refine R.assign (h := ?_)
  refine .n0 ?_
  refine .inLoop ?_
  exact LGo.next _ (fun o h => by have := (hA o).1 h; omega) (by omega) (ih (k + 1) (by omega) (by omega)) (by repeat (first | exact trivial | refine ⟨rfl, ?_⟩)) ⟨rfl, rfl, rfl, rfl, rfl, rfl, rfl, rfl, rfl, trivial⟩ (hLl := by exact h.all (by rw [List.length_map]; omega))
 ·
  obtain rfl : k = (chunkL raw).length := by omega
  refine .exit rfl ?_
  refine LGo.keep [] (CW A0 A1 A2 A3 A4 A7 A8 raw (chunkL raw).length) trivial ⟨rfl, rfl, rfl, rfl, rfl, rfl, rfl, rfl, rfl, trivial⟩ ?_
  exact LGo.done (res0 Tryz.results166 hA hmd (by rfl) (fun _ _ h => h) (.inl rfl))

end Go.Proofs.YteccglgbkehdeaaGreatDoor
