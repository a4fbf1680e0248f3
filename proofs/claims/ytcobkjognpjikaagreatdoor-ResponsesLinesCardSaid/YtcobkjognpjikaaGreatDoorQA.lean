/- words: what may stand plain between quotes, letters of escapes, quoting. -/
import Derived.Test.YtcobkjognpjikaaGreatDoorT
set_option linter.unusedSimpArgs false
set_option linter.unusedVariables false
namespace Go.Proofs.YtcobkjognpjikaaGreatDoor

def plainC (c : UInt8) : Bool := decide (32 ≤ c.toNat) && decide (c.toNat ≤ 126) && !decide (c.toNat = 34) && !decide (c.toNat = 92)
def escL (c : UInt8) : UInt8 := if c.toNat = 34 then 34 else if c.toNat = 92 then 92 else if c.toNat = 10 then 110 else if c.toNat = 13 then 114 else if c.toNat = 9 then 116 else 0
def hexT : List UInt8 := [48, 49, 50, 51, 52, 53, 54, 55, 56, 57, 97, 98, 99, 100, 101, 102]
def hexD (n : Nat) : UInt8 := hexT.getD n 0
def escaped (c : UInt8) : List UInt8 := if plainC c = true then [c] else if escL c ≠ 0 then [92, escL c] else [92, 120, hexD (c.toNat / 16), hexD (c.toNat % 16)]
def quote (s : List UInt8) : List UInt8 := 34 :: (s.flatMap escaped ++ [34])
/-- the value of a digit of base 16; 16: it is none -/
def hexV (c : UInt8) : Nat := hexT.idxOf c
def unesc : List UInt8 → UInt8 × Nat
  | [] => (0, 0)
  | a :: r =>
    if a.toNat = 34 then (34, 1) else if a.toNat = 92 then (92, 1) else if a.toNat = 110 then (10, 1) else if a.toNat = 114 then (13, 1) else if a.toNat = 116 then (9, 1)
    else if a.toNat ≠ 120 then (0, 0) else match r with
      | h :: l :: _ => if 16 ≤ hexV h ∨ 16 ≤ hexV l then (0, 0) else if (plainC (UInt8.ofNat (16 * hexV h + hexV l)) || decide (escL (UInt8.ofNat (16 * hexV h + hexV l)) ≠ 0)) = true then (0, 0) else (UInt8.ofNat (16 * hexV h + hexV l), 3)
      | _ => (0, 0)
def unqGo : Nat → List UInt8 → List UInt8 → Nat → List UInt8 × Nat
  | 0, _, _, _ => ([], 0)
  | _ + 1, [], _, _ => ([], 0)
  | f + 1, c :: r, acc, i =>
    if c.toNat = 34 then (acc, i + 1) else if c.toNat = 92 then (if (unesc r).2 = 0 then ([], 0) else unqGo f (r.drop (unesc r).2) (acc ++ [(unesc r).1]) (i + 1 + (unesc r).2))
    else if plainC c = true then unqGo f r (acc ++ [c]) (i + 1) else ([], 0)
def unq : List UInt8 → List UInt8 × Nat
  | [] => ([], 0)
  | a :: r => if a.toNat = 34 then unqGo (r.length + 1) r [] 1 else ([], 0)

theorem u8_all {p : UInt8 → Prop} [DecidablePred p] (h : ((List.range 256).all fun n => decide (p (UInt8.ofNat n))) = true) (c : UInt8) : p c := by
  have h1 := List.all_eq_true.1 h c.toNat (List.mem_range.2 c.toNat_lt)
  have h2 : UInt8.ofNat c.toNat = c := UInt8.ofNat_toNat
  rw [h2] at h1
  exact of_decide_eq_true h1

/-- what an escape is read as, behind anything -/
theorem unesc_esc (c : UInt8) (h : plainC c = false) (rest : List UInt8) : ∃ t, escaped c = 92 :: t ∧ unesc (t ++ rest) = (c, t.length) ∧ t ≠ [] := by
  have key : plainC c = false → ∃ t, escaped c = 92 :: t ∧ (t = [escL c] ∧ escL c ≠ 0 ∧ unesc [escL c] = (c, 1) ∨ t = [120, hexD (c.toNat / 16), hexD (c.toNat % 16)] ∧ unesc t = (c, 3)) := by
    have : ∀ c, plainC c = false → (escaped c).head? = some 92 ∧ ((escaped c).tail = [escL c] ∧ escL c ≠ 0 ∧ unesc [escL c] = (c, 1) ∨ (escaped c).tail = [120, hexD (c.toNat / 16), hexD (c.toNat % 16)] ∧ unesc (escaped c).tail = (c, 3)) :=
      fun c => u8_all (p := fun c => plainC c = false → (escaped c).head? = some 92 ∧ ((escaped c).tail = [escL c] ∧ escL c ≠ 0 ∧ unesc [escL c] = (c, 1) ∨ (escaped c).tail = [120, hexD (c.toNat / 16), hexD (c.toNat % 16)] ∧ unesc (escaped c).tail = (c, 3))) (by decide +kernel) c
    intro h
    obtain ⟨h1, h2⟩ := this c h
    cases he : escaped c with
    | nil => rw [he] at h1; cases h1
    | cons a t =>
      rw [he] at h1 h2
      simp at h1
      subst h1
      exact ⟨t, rfl, by simpa using h2⟩
  obtain ⟨t, h1, h2⟩ := key h
  refine ⟨t, h1, ?_, ?_⟩
  · rcases h2 with ⟨rfl, h3, h4⟩ | ⟨rfl, h4⟩
    · have h5 : ∀ c, plainC c = false → escL c ≠ 0 → (escL c).toNat ≠ 120 := fun c => u8_all (p := fun c => plainC c = false → escL c ≠ 0 → (escL c).toNat ≠ 120) (by decide +kernel) c
      have h6 := h5 c h h3
      simp only [unesc, List.cons_append, List.nil_append, List.length_cons, List.length_nil] at h4 ⊢
      repeat' split at h4 <;> simp_all
    · simpa [unesc] using h4
  · rcases h2 with ⟨rfl, _⟩ | ⟨rfl, _⟩ <;> simp
theorem plain_ne (c : UInt8) (h : plainC c = true) : c.toNat ≠ 34 ∧ c.toNat ≠ 92 := by
  simp [plainC] at h; omega
theorem unqGo_form : ∀ (t : List UInt8) (f : Nat) (rest acc : List UInt8) (i : Nat), (t.flatMap escaped).length < f → unqGo f (t.flatMap escaped ++ 34 :: rest) acc i = (acc ++ t, i + (t.flatMap escaped).length + 1)
  | [], f, rest, acc, i, hf => by
    obtain ⟨f, rfl⟩ : ∃ g, f = g + 1 := ⟨f - 1, by simp at hf; omega⟩
    simp [unqGo]
  | c :: t, f, rest, acc, i, hf => by
    obtain ⟨f, rfl⟩ : ∃ g, f = g + 1 := ⟨f - 1, by omega⟩
    simp only [List.flatMap_cons, List.length_append] at hf
    by_cases hp : plainC c = true
    · have h1 : escaped c = [c] := by simp [escaped, hp]
      have h2 := plain_ne c hp
      simp only [List.flatMap_cons, h1, List.cons_append, List.nil_append, unqGo]
      rw [h1] at hf
      simp only [List.length_cons, List.length_nil] at hf
      rw [if_neg h2.1, if_neg h2.2, if_pos hp, unqGo_form t f rest (acc ++ [c]) (i + 1) (by omega)]
      simp; omega
    · obtain ⟨u, h1, h2, h3⟩ := unesc_esc c (by simpa using hp) (t.flatMap escaped ++ 34 :: rest)
      rw [List.flatMap_cons, h1]
      simp only [List.cons_append, List.append_assoc, unqGo]
      have hu : u.length ≠ 0 := by simpa using h3
      rw [if_neg (by decide), if_pos (by decide), h2, if_neg hu]
      simp only [List.drop_left]
      rw [h1] at hf
      simp only [List.length_cons] at hf
      rw [unqGo_form t f rest (acc ++ [c]) _ (by omega)]
      simp; omega
/-- what is read as an escape is the form of a byte -/
theorem unesc_sound {r : List UInt8} (h : (unesc r).2 ≠ 0) : ∃ rest, r = (escaped (unesc r).1).tail ++ rest ∧ (escaped (unesc r).1) = 92 :: (escaped (unesc r).1).tail ∧ (escaped (unesc r).1).tail.length = (unesc r).2 := by
  cases r with
  | nil => simp [unesc] at h
  | cons a r =>
    have e1 : ∀ n : Nat, ∀ b : UInt8, a.toNat = n → b.toNat = n → a = b := fun n b h1 h2 => UInt8.toNat_inj.1 (h1.trans h2.symm)
    by_cases c1 : a.toNat = 34
    · obtain rfl := e1 34 34 c1 rfl
      exact ⟨r, rfl, rfl, rfl⟩
    by_cases c2 : a.toNat = 92
    · obtain rfl := e1 92 92 c2 rfl
      exact ⟨r, rfl, rfl, rfl⟩
    by_cases c3 : a.toNat = 110
    · obtain rfl := e1 110 110 c3 rfl
      exact ⟨r, rfl, rfl, rfl⟩
    by_cases c4 : a.toNat = 114
    · obtain rfl := e1 114 114 c4 rfl
      exact ⟨r, rfl, rfl, rfl⟩
    by_cases c5 : a.toNat = 116
    · obtain rfl := e1 116 116 c5 rfl
      exact ⟨r, rfl, rfl, rfl⟩
    by_cases c6 : a.toNat ≠ 120
    · simp [unesc, c1, c2, c3, c4, c5, c6] at h
    · have c7 : a.toNat = 120 := by simpa using c6
      obtain rfl := e1 120 120 c7 rfl
      match r, h with
      | [], h => simp [unesc] at h
      | [_], h => simp [unesc] at h
      | x :: y :: r, h =>
        simp only [unesc] at h ⊢
        simp only [show (120 : UInt8).toNat = 120 from rfl, show ¬ (120 : Nat) = 34 by decide, show ¬ (120 : Nat) = 92 by decide, show ¬ (120 : Nat) = 110 by decide, show ¬ (120 : Nat) = 114 by decide, show ¬ (120 : Nat) = 116 by decide, show ¬ (120 : Nat) ≠ 120 by simp, if_false] at h ⊢
        split at h
        · simp at h
        rename_i d1
        rw [if_neg d1]
        split at h
        · simp at h
        rename_i d2
        have hx : hexV x < 16 := by omega
        have hy : hexV y < 16 := by omega
        have key : ∀ c : UInt8, hexV c < 16 → hexD (hexV c) = c := fun c => u8_all (p := fun c => hexV c < 16 → hexD (hexV c) = c) (by decide +kernel) c
        have ev : (UInt8.ofNat (16 * hexV x + hexV y)).toNat = 16 * hexV x + hexV y := by rw [UInt8.toNat_ofNat']; omega
        simp only [Bool.or_eq_true, decide_eq_true_eq, not_or, Bool.not_eq_true] at d2
        have he : escaped (UInt8.ofNat (16 * hexV x + hexV y)) = [92, 120, x, y] := by
          unfold escaped
          rw [if_neg (by rw [d2.1]; simp), if_neg d2.2, ev, show (16 * hexV x + hexV y) / 16 = hexV x by omega, show (16 * hexV x + hexV y) % 16 = hexV y by omega, key x hx, key y hy]
        rw [if_neg (by rw [d2.1, Bool.false_or]; simpa using d2.2)]
        dsimp only
        rw [he]
        exact ⟨r, rfl, rfl, rfl⟩
/-- a quoted form: the string, and what follows -/
theorem unqGo_sound : ∀ (f : Nat) (r acc : List UInt8) (i : Nat), (unqGo f r acc i).2 ≠ 0 → ∃ t rest, r = t.flatMap escaped ++ 34 :: rest ∧ unqGo f r acc i = (acc ++ t, i + (t.flatMap escaped).length + 1)
  | 0, r, acc, i, h => by simp [unqGo] at h
  | f + 1, [], acc, i, h => by simp [unqGo] at h
  | f + 1, c :: r, acc, i, h => by
    have e1 : ∀ n : Nat, ∀ b : UInt8, c.toNat = n → b.toNat = n → c = b := fun n b h1 h2 => UInt8.toNat_inj.1 (h1.trans h2.symm)
    by_cases c1 : c.toNat = 34
    · obtain rfl := e1 34 34 c1 rfl
      exact ⟨[], r, by simp, by simp [unqGo]⟩
    by_cases c2 : c.toNat = 92
    · rw [unqGo, if_neg c1, if_pos c2] at h ⊢
      obtain rfl := e1 92 92 c2 rfl
      by_cases hn : (unesc r).2 = 0
      · rw [if_pos hn] at h; exact absurd rfl h
      rw [if_neg hn] at h ⊢
      obtain ⟨rest, h1, h2, h3⟩ := unesc_sound hn
      obtain ⟨t, rest', h4, h5⟩ := unqGo_sound f _ _ _ h
      have h6 : r.drop (unesc r).2 = rest := by
        rw [← h3]
        conv => lhs; arg 2; rw [h1]
        rw [List.drop_left]
      rw [h6] at h4
      refine ⟨(unesc r).1 :: t, rest', ?_, ?_⟩
      · rw [List.flatMap_cons, h2]
        simp only [List.cons_append, List.append_assoc]
        rw [← h4, ← h1]
      · rw [h5, List.flatMap_cons, List.length_append, h2, List.length_cons, h3]
        simp; omega
    · by_cases hp : plainC c = true
      · simp only [unqGo, if_neg c1, if_neg c2, if_pos hp] at h ⊢
        obtain ⟨t, rest, h4, h5⟩ := unqGo_sound f _ _ _ h
        refine ⟨c :: t, rest, ?_, ?_⟩
        · rw [h4]; simp [escaped, hp]
        · rw [h5]; simp [escaped, hp]; omega
      · simp [unqGo, c1, c2, hp] at h
theorem unq_form (t rest : List UInt8) : unq (quote t ++ rest) = (t, (quote t).length) := by
  simp only [quote, List.cons_append, List.append_assoc, List.nil_append, unq]
  rw [if_pos (by decide), unqGo_form t _ rest [] 1 (by simp only [List.length_append, List.length_cons]; omega)]
  simp; omega
theorem unq_sound {s : List UInt8} (h : (unq s).2 ≠ 0) : ∃ rest, s = quote (unq s).1 ++ rest ∧ (unq s).2 = (quote (unq s).1).length := by
  cases s with
  | nil => simp [unq] at h
  | cons a r =>
    by_cases c1 : a.toNat = 34
    · obtain rfl : a = 34 := UInt8.toNat_inj.1 (c1.trans rfl)
      simp only [unq, show (34 : UInt8).toNat = 34 from rfl, if_true] at h ⊢
      obtain ⟨t, rest, h1, h2⟩ := unqGo_sound _ _ _ _ h
      refine ⟨rest, ?_, ?_⟩
      · rw [h2]; simp [quote, h1]
      · rw [h2]; simp [quote]; omega
    · simp [unq, c1] at h
theorem tabE : (1, escTab.map (Value.int .u8)) ∈ tabs := by simp [tabs]
theorem plainC_int (c : UInt8) : plainC c = (decide ((c.toNat : Int) ≥ 32) && decide ((c.toNat : Int) ≤ 126) && !decide ((c.toNat : Int) = 34) && !decide ((c.toNat : Int) = 92)) := by
  rw [Bool.eq_iff_iff]
  simp [plainC]
  omega

theorem isPlain_P (c : UInt8) : PC Tryz.prog 48 [.y c.toNat] (.b (plainC c)) := by
 refine ⟨LC.of_go Tryz.func48 (c := _) rfl (by kernel_rfl) (by rw [Tryz.ntmps48]; simp) rfl rfl (by simp [LO.lt, LV.lts, LV.lt]) (by simp) ?_⟩
 intro B hA hmd
 rw [plainC_int]
 refine .seq ?_
 refine .region rfl ?_
 refine R.assign (h := ?_)
 refine .n0 ?_
 refine .seq ?_
 refine .region rfl ?_
 refine R.move (h := ?_)
 refine R.bin (run_geq _ _ _ _ _ _) (h := ?_)
 refine R.move (h := ?_)
 refine R.move (h := ?_)
 refine R.bin (run_leq _ _ _ _ _ _) (h := ?_)
 refine R.and (h := ?_)
 refine R.move (h := ?_)
 refine R.move (h := ?_)
 refine R.bin (run_neq _ _ _ _ _ _) (h := ?_)
 refine R.and (h := ?_)
 refine R.move (h := ?_)
 refine R.move (h := ?_)
 refine R.bin (run_neq _ _ _ _ _ _) (h := ?_)
 refine R.and (h := ?_)
 refine R.assign (h := ?_)
 refine .n0 ?_
 exact LGo.ret (ret_T Tryz.results48 hA hmd)

theorem letterOf_P (c : UInt8) : PC Tryz.prog 47 [.y c.toNat] (.y (escL c).toNat) := by
 refine ⟨LC.of_go Tryz.func47 (c := _) rfl (by kernel_rfl) (by rw [Tryz.ntmps47]; simp) rfl rfl (by simp [LO.lt, LV.lts, LV.lt]) (by simp) ?_⟩
 intro B hA hmd
 refine .seq ?_
 refine .region rfl ?_
 refine R.assign (h := ?_)
 refine .n0 ?_
 refine .seq ?_
 refine .seq ?_
 refine .region rfl ?_
 refine R.gLoadN A128 (hm := tabE) (h := ?_)
 refine R.move (h := ?_)
 refine .n0 ?_
 refine .block ?_
 refine .loop ?_
 refine LGo.loopG (σ := Nat) (fun x => x ≤ 5 ∧ (1 ≤ x → c.toNat ≠ 34) ∧ (2 ≤ x → c.toNat ≠ 92) ∧ (3 ≤ x → c.toNat ≠ 10) ∧ (4 ≤ x → c.toNat ≠ 13) ∧ (5 ≤ x → c.toNat ≠ 9)) (fun x => [(6, (true, .i (x : Nat)))]) (fun x => []) (fun x => 5 - x) (0) [(0, _), (5, _)] ⟨by omega, by omega, by omega, by omega, by omega, by omega⟩ (by repeat (first | exact trivial | refine ⟨rfl, ?_⟩)) (by repeat (first | exact trivial | refine ⟨rfl, ?_⟩)) (by repeat (first | exact trivial | refine ⟨rfl, ?_⟩)) ?_
 rintro k ⟨hk, q1, q2, q3, q4, q5⟩ ih
 refine .seq ?_
 refine .region rfl ?_
 refine R.bin (run_lss _ _ _ _ _ _) (h := ?_)
 refine .n0 ?_
 refine .seq ?_
 refine LGo.ifd (ht := fun hc => ?_) (hf := fun hc => ?_)
 ·
  refine .skip ?_
  refine .seq ?_
  refine .block ?_
  refine .seq ?_
  refine .region rfl ?_
  rcases (show k = 0 ∨ k = 1 ∨ k = 2 ∨ k = 3 ∨ k = 4 by omega) with rfl | rfl | rfl | rfl | rfl
  ·
   refine R.indexVN IV128 (hj := fun _ => by omega) (h := ?_)
   have he : ((((escTab.map (Value.int .u8)).drop (Int.toNat ((0 : Nat) : Int) * 2)).take 2).map LV.v) = [.y 34, .y 34] := rfl
   rw [he]
   clear he
   refine R.alloc Z127 (h := ?_)
   refine R.storeA A127 (h := ?_)
   refine .n0 ?_
   refine .seq ?_
   refine .region rfl ?_
   first | refine R.field F127_0 (h := ?_) | refine R.fieldAt F127_0 (h := ?_)
   first | refine R.loadB O5 (h := ?_) | refine R.load1 O5 (h := ?_)
   refine R.move (h := ?_)
   refine R.bin (run_eql _ _ _ _ _ _) (h := ?_)
   refine .n0 ?_
   first | refine LGo.ifd (ht := fun hc2 => ?_) (hf := fun hc2 => ?_) | refine LGo.ifb (ht := fun hc2 => ?_) (hf := fun hc2 => ?_)
   ·
    rw [show escL c = 34 from by unfold escL; rw [if_pos (by omega)]]
    refine .seq ?_
    refine .region rfl ?_
    first | refine R.field F127_1 (h := ?_) | refine R.fieldAt F127_1 (h := ?_)
    first | refine R.loadB O5 (h := ?_) | refine R.load1 O5 (h := ?_)
    refine R.assign (h := ?_)
    refine .n0 ?_
    exact LGo.ret (ret_T Tryz.results47 hA hmd)
   ·
    refine .skip ?_
    refine .inBlock ?_
    refine .region rfl ?_
    first | refine R.add (h := ?_) | refine R.addW (h := ?_)
    refine R.move (h := ?_)
    refine .n0 ?_
    refine .inLoop ?_
    exact LGo.next _ (fun o h => by have := (hA o).1 h; omega) (by omega) (ih 1 ⟨by omega, by omega, by omega, by omega, by omega, by omega⟩ (by omega)) (by repeat (first | exact trivial | refine ⟨rfl, ?_⟩)) (by repeat (first | exact trivial | refine ⟨rfl, ?_⟩))
  ·
   refine R.indexVN IV128 (hj := fun _ => by omega) (h := ?_)
   have he : ((((escTab.map (Value.int .u8)).drop (Int.toNat ((1 : Nat) : Int) * 2)).take 2).map LV.v) = [.y 92, .y 92] := rfl
   rw [he]
   clear he
   refine R.alloc Z127 (h := ?_)
   refine R.storeA A127 (h := ?_)
   refine .n0 ?_
   refine .seq ?_
   refine .region rfl ?_
   first | refine R.field F127_0 (h := ?_) | refine R.fieldAt F127_0 (h := ?_)
   first | refine R.loadB O5 (h := ?_) | refine R.load1 O5 (h := ?_)
   refine R.move (h := ?_)
   refine R.bin (run_eql _ _ _ _ _ _) (h := ?_)
   refine .n0 ?_
   first | refine LGo.ifd (ht := fun hc3 => ?_) (hf := fun hc3 => ?_) | refine LGo.ifb (ht := fun hc3 => ?_) (hf := fun hc3 => ?_)
   ·
    rw [show escL c = 92 from by unfold escL; rw [if_neg (q1 (by omega)), if_pos (by omega)]]
    refine .seq ?_
    refine .region rfl ?_
    first | refine R.field F127_1 (h := ?_) | refine R.fieldAt F127_1 (h := ?_)
    first | refine R.loadB O5 (h := ?_) | refine R.load1 O5 (h := ?_)
    refine R.assign (h := ?_)
    refine .n0 ?_
    exact LGo.ret (ret_T Tryz.results47 hA hmd)
   ·
    refine .skip ?_
    refine .inBlock ?_
    refine .region rfl ?_
    first | refine R.add (h := ?_) | refine R.addW (h := ?_)
    refine R.move (h := ?_)
    refine .n0 ?_
    refine .inLoop ?_
    exact LGo.next _ (fun o h => by have := (hA o).1 h; omega) (by omega) (ih 2 ⟨by omega, by omega, by omega, by omega, by omega, by omega⟩ (by omega)) (by repeat (first | exact trivial | refine ⟨rfl, ?_⟩)) (by repeat (first | exact trivial | refine ⟨rfl, ?_⟩))
  ·
   refine R.indexVN IV128 (hj := fun _ => by omega) (h := ?_)
   have he : ((((escTab.map (Value.int .u8)).drop (Int.toNat ((2 : Nat) : Int) * 2)).take 2).map LV.v) = [.y 10, .y 110] := rfl
   rw [he]
   clear he
   refine R.alloc Z127 (h := ?_)
   refine R.storeA A127 (h := ?_)
   refine .n0 ?_
   refine .seq ?_
   refine .region rfl ?_
   first | refine R.field F127_0 (h := ?_) | refine R.fieldAt F127_0 (h := ?_)
   first | refine R.loadB O5 (h := ?_) | refine R.load1 O5 (h := ?_)
   refine R.move (h := ?_)
   refine R.bin (run_eql _ _ _ _ _ _) (h := ?_)
   refine .n0 ?_
   first | refine LGo.ifd (ht := fun hc4 => ?_) (hf := fun hc4 => ?_) | refine LGo.ifb (ht := fun hc4 => ?_) (hf := fun hc4 => ?_)
   ·
    rw [show escL c = 110 from by unfold escL; rw [if_neg (q1 (by omega)), if_neg (q2 (by omega)), if_pos (by omega)]]
    refine .seq ?_
    refine .region rfl ?_
    first | refine R.field F127_1 (h := ?_) | refine R.fieldAt F127_1 (h := ?_)
    first | refine R.loadB O5 (h := ?_) | refine R.load1 O5 (h := ?_)
    refine R.assign (h := ?_)
    refine .n0 ?_
    exact LGo.ret (ret_T Tryz.results47 hA hmd)
   ·
    refine .skip ?_
    refine .inBlock ?_
    refine .region rfl ?_
    first | refine R.add (h := ?_) | refine R.addW (h := ?_)
    refine R.move (h := ?_)
    refine .n0 ?_
    refine .inLoop ?_
    exact LGo.next _ (fun o h => by have := (hA o).1 h; omega) (by omega) (ih 3 ⟨by omega, by omega, by omega, by omega, by omega, by omega⟩ (by omega)) (by repeat (first | exact trivial | refine ⟨rfl, ?_⟩)) (by repeat (first | exact trivial | refine ⟨rfl, ?_⟩))
  ·
   refine R.indexVN IV128 (hj := fun _ => by omega) (h := ?_)
   have he : ((((escTab.map (Value.int .u8)).drop (Int.toNat ((3 : Nat) : Int) * 2)).take 2).map LV.v) = [.y 13, .y 114] := rfl
   rw [he]
   clear he
   refine R.alloc Z127 (h := ?_)
   refine R.storeA A127 (h := ?_)
   refine .n0 ?_
   refine .seq ?_
   refine .region rfl ?_
   first | refine R.field F127_0 (h := ?_) | refine R.fieldAt F127_0 (h := ?_)
   first | refine R.loadB O5 (h := ?_) | refine R.load1 O5 (h := ?_)
   refine R.move (h := ?_)
   refine R.bin (run_eql _ _ _ _ _ _) (h := ?_)
   refine .n0 ?_
   first | refine LGo.ifd (ht := fun hc5 => ?_) (hf := fun hc5 => ?_) | refine LGo.ifb (ht := fun hc5 => ?_) (hf := fun hc5 => ?_)
   ·
    rw [show escL c = 114 from by unfold escL; rw [if_neg (q1 (by omega)), if_neg (q2 (by omega)), if_neg (q3 (by omega)), if_pos (by omega)]]
    refine .seq ?_
    refine .region rfl ?_
    first | refine R.field F127_1 (h := ?_) | refine R.fieldAt F127_1 (h := ?_)
    first | refine R.loadB O5 (h := ?_) | refine R.load1 O5 (h := ?_)
    refine R.assign (h := ?_)
    refine .n0 ?_
    exact LGo.ret (ret_T Tryz.results47 hA hmd)
   ·
    refine .skip ?_
    refine .inBlock ?_
    refine .region rfl ?_
    first | refine R.add (h := ?_) | refine R.addW (h := ?_)
    refine R.move (h := ?_)
    refine .n0 ?_
    refine .inLoop ?_
    exact LGo.next _ (fun o h => by have := (hA o).1 h; omega) (by omega) (ih 4 ⟨by omega, by omega, by omega, by omega, by omega, by omega⟩ (by omega)) (by repeat (first | exact trivial | refine ⟨rfl, ?_⟩)) (by repeat (first | exact trivial | refine ⟨rfl, ?_⟩))
  ·
   refine R.indexVN IV128 (hj := fun _ => by omega) (h := ?_)
   have he : ((((escTab.map (Value.int .u8)).drop (Int.toNat ((4 : Nat) : Int) * 2)).take 2).map LV.v) = [.y 9, .y 116] := rfl
   rw [he]
   clear he
   refine R.alloc Z127 (h := ?_)
   refine R.storeA A127 (h := ?_)
   refine .n0 ?_
   refine .seq ?_
   refine .region rfl ?_
   first | refine R.field F127_0 (h := ?_) | refine R.fieldAt F127_0 (h := ?_)
   first | refine R.loadB O5 (h := ?_) | refine R.load1 O5 (h := ?_)
   refine R.move (h := ?_)
   refine R.bin (run_eql _ _ _ _ _ _) (h := ?_)
   refine .n0 ?_
   first | refine LGo.ifd (ht := fun hc6 => ?_) (hf := fun hc6 => ?_) | refine LGo.ifb (ht := fun hc6 => ?_) (hf := fun hc6 => ?_)
   ·
    rw [show escL c = 116 from by unfold escL; rw [if_neg (q1 (by omega)), if_neg (q2 (by omega)), if_neg (q3 (by omega)), if_neg (q4 (by omega)), if_pos (by omega)]]
    refine .seq ?_
    refine .region rfl ?_
    first | refine R.field F127_1 (h := ?_) | refine R.fieldAt F127_1 (h := ?_)
    first | refine R.loadB O5 (h := ?_) | refine R.load1 O5 (h := ?_)
    refine R.assign (h := ?_)
    refine .n0 ?_
    exact LGo.ret (ret_T Tryz.results47 hA hmd)
   ·
    refine .skip ?_
    refine .inBlock ?_
    refine .region rfl ?_
    first | refine R.add (h := ?_) | refine R.addW (h := ?_)
    refine R.move (h := ?_)
    refine .n0 ?_
    refine .inLoop ?_
    exact LGo.next _ (fun o h => by have := (hA o).1 h; omega) (by omega) (ih 5 ⟨by omega, by omega, by omega, by omega, by omega, by omega⟩ (by omega)) (by repeat (first | exact trivial | refine ⟨rfl, ?_⟩)) (by repeat (first | exact trivial | refine ⟨rfl, ?_⟩))
 ·
  rw [show escL c = 0 from by unfold escL; rw [if_neg (q1 (by omega)), if_neg (q2 (by omega)), if_neg (q3 (by omega)), if_neg (q4 (by omega)), if_neg (q5 (by omega))]]
  refine .exit rfl ?_
  refine .seq ?_
  refine .region rfl ?_
  refine R.assign (h := ?_)
  refine .n0 ?_
  exact LGo.ret (ret_T Tryz.results47 hA hmd)

theorem hexT_at (c : UInt8) : hexT[c.toNat / 16]? = some (hexD (c.toNat / 16)) ∧ hexT[c.toNat % 16]? = some (hexD (c.toNat % 16)) := by
  have h := c.toNat_lt
  have h1 : c.toNat / 16 < hexT.length := by simp [hexT]; omega
  have h2 : c.toNat % 16 < hexT.length := by simp [hexT]; omega
  simp [hexD, List.getD, List.getElem?_eq_getElem h1, List.getElem?_eq_getElem h2]
theorem escaped_len (c : UInt8) : (escaped c).length ≤ 4 := by unfold escaped; repeat' split <;> simp
theorem flat_len4 : ∀ s : List UInt8, (s.flatMap escaped).length ≤ 4 * s.length
  | [] => by simp
  | c :: s => by have h1 := flat_len4 s; have h2 := escaped_len c; simp only [List.flatMap_cons, List.length_append, List.length_cons]; omega
theorem quote_len (s : List UInt8) : (quote s).length ≤ 4 * s.length + 2 := by have := flat_len4 s; simp only [quote, List.length_cons, List.length_append, List.length_nil]; omega
theorem take_flat {s : List UInt8} {k : Nat} (h : k < s.length) : (s.take (k + 1)).flatMap escaped = (s.take k).flatMap escaped ++ escaped s[k] := by
  rw [List.take_succ_eq_append_getElem h, List.flatMap_append]; simp

theorem and15 (c : UInt8) : IntKind.u8.wrap ((BitVec.ofInt IntKind.u8.bits (c.toNat : Int) &&& BitVec.ofInt IntKind.u8.bits 15).toNat) = ((c.toNat % 16 : Nat) : Int) :=
  u8_all (p := fun c => IntKind.u8.wrap ((BitVec.ofInt IntKind.u8.bits (c.toNat : Int) &&& BitVec.ofInt IntKind.u8.bits 15).toNat) = ((c.toNat % 16 : Nat) : Int)) (by decide +kernel) c

theorem quote_P (s : List UInt8) (hs : s.length ≤ 100000) : PC Tryz.prog 20 [.t s] (.t (quote s)) := by
 refine ⟨LC.of_go Tryz.func20 (c := _) rfl (by kernel_rfl) (by rw [Tryz.ntmps20]; simp) rfl rfl (by simp [LO.lt, LV.lts, LV.lt]) (by simp) ?_⟩
 intro B hA hmd
 refine .seq ?_
 refine .region rfl ?_
 refine R.assign (h := ?_)
 refine .n0 ?_
 refine .seq ?_
 refine .region rfl ?_
 refine R.move (h := ?_)
 refine R.lenT Tryz.runUnderlying9 (h := ?_)
 first | refine R.add (h := ?_) | refine R.addW (h := ?_)
 refine R.makeOwn AP33 (k := .u8) (by kernel_rfl) (h0 := Int.le_refl 0) (hlc := by omega) (hm := by omega) (h := ?_)
 rw [show ic .u8 (List.replicate (Int.toNat 0) 0) = bytesC [] from rfl]
 refine R.assign (h := ?_)
 refine .n0 ?_
 refine .seq ?_
 refine .region rfl ?_
 refine R.move (h := ?_)
 refine R.buildSliceG AP33 (xs := [_]) (es := [_]) (hcs := CellsOfs.cons (CellsOf.one rfl) CellsOfs.nil) (h := ?_)
 refine R.appendS AP33 (hs := SrcOk.sl Tryz.underlying33 (by simp)) (hlen := by rw [bytesC_length]; simp only [List.length_cons, List.length_nil]; omega) (h := ?_)
 refine R.assign (h := ?_)
 refine .n0 ?_
 refine .seq ?_
 refine .seq ?_
 refine .region rfl ?_
 refine R.move (h := ?_)
 refine R.lenT Tryz.runUnderlying9 (h := ?_)
 refine R.move (h := ?_)
 refine .n0 ?_
 refine .block ?_
 refine .loop ?_
 refine LGo.loopG (σ := Nat) (fun x => x ≤ s.length) (fun x => [(16, (true, .i (x : Nat))), (3, (true, .ref 1))]) (fun x => [(1, .rs 5 1 (bytesC (34 :: (s.take x).flatMap escaped)))]) (fun x => s.length - x) (0) [(0, _), (15, _)] (Nat.zero_le _) (by repeat (first | exact trivial | refine ⟨rfl, ?_⟩)) (by repeat (first | exact trivial | refine ⟨rfl, ?_⟩)) (by repeat (first | exact trivial | refine ⟨rfl, ?_⟩)) ?_
 rintro k hk ih
 refine .seq ?_
 refine .region rfl ?_
 refine R.bin (run_lss _ _ _ _ _ _) (h := ?_)
 refine .n0 ?_
 refine .seq ?_
 refine LGo.ifd (ht := fun hc => ?_) (hf := fun hc => ?_)
 ·
  have hlt : k < s.length := by omega
  have hx : s[((k : Nat) : Int).toNat]? = some s[k] := by rw [Int.toNat_natCast]; exact List.getElem?_eq_getElem hlt
  have htf := take_flat hlt
  have hfl := flat_len4 (s.take k)
  rw [List.length_take] at hfl
  generalize s[k] = c at hx htf
  have hcl := c.toNat_lt
  refine .skip ?_
  refine .seq ?_
  refine .block ?_
  refine .seq ?_
  refine .region rfl ?_
  refine R.move (h := ?_)
  refine R.assign (h := ?_)
  refine .n0 ?_
  refine .seq ?_
  refine .region rfl ?_
  refine R.move (h := ?_)
  refine R.move (h := ?_)
  refine R.indexT Tryz.runUnderlying9 (hj := fun hg => ⟨by omega, hx⟩) (h := ?_)
  refine R.assign (h := ?_)
  refine .n0 ?_
  refine .seq ?_
  refine .region rfl ?_
  refine R.move (h := ?_)
  refine R.callP (es := [_]) (fun _ => letterOf_P c) (h := ?_)
  refine R.assign (h := ?_)
  refine .n0 ?_
  refine .block ?_
  refine .seq ?_
  refine .region rfl ?_
  refine R.move (h := ?_)
  refine R.callP (es := [_]) (fun _ => isPlain_P c) (h := ?_)
  refine R.assign (h := ?_)
  refine .n0 ?_
  refine LGo.ifb (ht := fun hc2 => ?_) (hf := fun hc2 => ?_)
  ·
   have he : escaped c = [c] := by unfold escaped; rw [if_pos hc2]
   refine .region rfl ?_
   refine R.move (h := ?_)
   refine R.move (h := ?_)
   refine R.buildSliceG AP33 (xs := [_]) (es := [_]) (hcs := CellsOfs.cons (CellsOf.one rfl) CellsOfs.nil) (h := ?_)
   refine R.appendS AP33 (hs := SrcOk.sl Tryz.underlying33 (by simp)) (hlen := by rw [bytesC_length]; simp only [List.length_cons, List.length_nil]; omega) (h := ?_)
   refine R.assign (h := ?_)
   refine .n0 ?_
   refine .inBlock ?_
   refine .inBlock ?_
   refine .region rfl ?_
   first | refine R.add (h := ?_) | refine R.addW (h := ?_)
   refine R.move (h := ?_)
   refine .n0 ?_
   refine .inLoop ?_
   exact LGo.turn [0, 2] (b := 0) (fun o h => by have := (hA o).1 h; omega) (ih (k + 1) (by omega) (by omega)) (by repeat (first | exact trivial | refine ⟨rfl, ?_⟩)) ⟨by rw [htf, he, ← List.cons_append, bytesC_app]; rfl, trivial⟩
  ·
   refine .seq ?_
   refine .region rfl ?_
   refine R.move (h := ?_)
   refine R.bin (run_neq _ _ _ _ _ _) (h := ?_)
   refine R.assign (h := ?_)
   refine .n0 ?_
   refine LGo.ifb (ht := fun hc3 => ?_) (hf := fun hc3 => ?_)
   ·
    have he : escaped c = [92, escL c] := by
      unfold escaped
      rw [if_neg (by rw [hc2]; simp), if_pos (by intro h; rw [h] at hc3; simp at hc3)]
    refine .region rfl ?_
    refine R.move (h := ?_)
    refine R.move (h := ?_)
    refine R.buildSliceG AP33 (xs := [_, _]) (es := [_, _]) (hcs := CellsOfs.cons (CellsOf.one rfl) (CellsOfs.cons (CellsOf.one rfl) CellsOfs.nil)) (h := ?_)
    refine R.appendS AP33 (hs := SrcOk.sl Tryz.underlying33 (by simp)) (hlen := by rw [bytesC_length]; simp only [List.length_cons, List.length_nil]; omega) (h := ?_)
    refine R.assign (h := ?_)
    refine .n0 ?_
    refine .inBlock ?_
    refine .inBlock ?_
    refine .region rfl ?_
    first | refine R.add (h := ?_) | refine R.addW (h := ?_)
    refine R.move (h := ?_)
    refine .n0 ?_
    refine .inLoop ?_
    exact LGo.turn [0, 2] (b := 0) (fun o h => by have := (hA o).1 h; omega) (ih (k + 1) (by omega) (by omega)) (by repeat (first | exact trivial | refine ⟨rfl, ?_⟩)) ⟨by rw [htf, he, ← List.cons_append, bytesC_app]; rfl, trivial⟩
   ·
    have he : escaped c = [92, 120, hexD (c.toNat / 16), hexD (c.toNat % 16)] := by
      unfold escaped
      rw [if_neg (by rw [hc2]; simp), if_neg (by
        intro h; apply h
        have : ((escL c).toNat : Int) = 0 := by simpa using hc3
        exact UInt8.toNat_inj.1 (by rw [show (0 : UInt8).toNat = 0 from rfl]; omega))]
    refine .region rfl ?_
    refine R.move (h := ?_)
    refine R.move (h := ?_)
    refine R.shr (h := ?_)
    rw [show (c.toNat : Int) / 2 ^ (min (Int.toNat 4) IntKind.u8.bits) = ((c.toNat / 16 : Nat) : Int) from by rw [show min (Int.toNat 4) IntKind.u8.bits = 4 from rfl]; omega]
    refine R.indexT Tryz.runUnderlying9 (l := hexT) (c := hexD (c.toNat / 16)) (hj := fun _ => ⟨by omega, by rw [Int.toNat_natCast]; exact (hexT_at c).1⟩) (h := ?_)
    refine R.move (h := ?_)
    refine R.bin (run_andE _ _ _ .u8 _ 15 (and15 c)) (h := ?_)
    refine R.indexT Tryz.runUnderlying9 (l := hexT) (c := hexD (c.toNat % 16)) (hj := fun _ => ⟨by omega, by rw [Int.toNat_natCast]; exact (hexT_at c).2⟩) (h := ?_)
    refine R.buildSliceG AP33 (xs := [_, _, _, _]) (es := [_, _, _, _]) (hcs := CellsOfs.cons (CellsOf.one rfl) (CellsOfs.cons (CellsOf.one rfl) (CellsOfs.cons (CellsOf.one rfl) (CellsOfs.cons (CellsOf.one rfl) CellsOfs.nil)))) (h := ?_)
    refine R.appendS AP33 (hs := SrcOk.sl Tryz.underlying33 (by simp)) (hlen := by rw [bytesC_length]; simp only [List.length_cons, List.length_nil]; omega) (h := ?_)
    refine R.assign (h := ?_)
    refine Reg.nil ⟨fun _ => ⟨mixedO, by rfl, by rfl⟩, ?_⟩
    refine .inBlock ?_
    refine .inBlock ?_
    refine .region rfl ?_
    first | refine R.add (h := ?_) | refine R.addW (h := ?_)
    refine R.move (h := ?_)
    refine .n0 ?_
    refine .inLoop ?_
    exact LGo.turn [0, 2] (b := 0) (fun o h => by have := (hA o).1 h; omega) (ih (k + 1) (by omega) (by omega)) (by repeat (first | exact trivial | refine ⟨rfl, ?_⟩)) ⟨by rw [htf, he, ← List.cons_append, bytesC_app]; rfl, trivial⟩
 ·
  obtain rfl : k = s.length := by omega
  have hfl := flat_len4 s
  rw [List.take_length]
  refine .exit rfl ?_
  refine .seq ?_
  refine .region rfl ?_
  refine R.move (h := ?_)
  refine R.buildSliceF AP33 (bytesC [34]) (xs := [_]) (es := [_]) (hcs := CellsOfs.cons (CellsOf.one rfl) CellsOfs.nil) (h := ?_)
  refine R.appendF AP33 (hs := SrcOk.sl Tryz.underlying33 (bytesC_one _)) (hlen := by simp only [bytesC_length, List.length_cons, List.length_nil]; omega) (h := ?_)
  rw [← bytesC_app, show (34 :: s.flatMap escaped) ++ [34] = quote s from rfl]
  refine R.toString Tryz.underlying33 Tryz.underlying5 Tryz.underlying9 (h := ?_)
  refine R.assign (h := ?_)
  refine .n0 ?_
  exact LGo.ret (ret_T Tryz.results20 hA hmd)

end Go.Proofs.YtcobkjognpjikaaGreatDoor
