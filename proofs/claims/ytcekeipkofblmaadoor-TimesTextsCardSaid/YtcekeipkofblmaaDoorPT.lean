/- Print and Parse: what they return, in plain words. -/
import Derived.Test.YtcekeipkofblmaaDoorR2
set_option linter.unusedSimpArgs false
set_option linter.unusedVariables false
namespace Go.Proofs.YtcekeipkofblmaaDoor

theorem digitT_ok {n c : Int} (hc : 48 ≤ c) (hc' : c ≤ 57) (hn : n < 288230376151711744) : digitT n c = (10 * n + (c - 48), true) := if_neg (by omega)
theorem digitT_no {n c : Int} (hc : c < 48 ∨ 57 < c) : digitT n c = (0, false) := if_pos (by omega)
theorem pStep_digit {p : Nat} {ps : List Int} {c : UInt8} (hc : 48 ≤ (c.toNat : Int)) (hc' : (c.toNat : Int) ≤ 57) (hn : ps.getD p 0 < 288230376151711744) :
    pStep (p, ps) c = some (p, ps.set p (10 * ps.getD p 0 + ((c.toNat : Int) - 48))) := by
  unfold pStep
  dsimp only
  rw [digitT_ok hc hc' hn, if_pos rfl]
theorem dig_toNat {k : Nat} (h : k < 10) : ((UInt8.ofNat (48 + k)).toNat : Int) = 48 + k := by rw [UInt8.toNat_ofNat']; omega
theorem pStep_dig {p : Nat} {ps : List Int} {k : Nat} (hk : k < 10) (hn : ps.getD p 0 < 288230376151711744) :
    pStep (p, ps) (UInt8.ofNat (48 + k)) = some (p, ps.set p (10 * ps.getD p 0 + k)) := by
  have h := dig_toNat hk
  rw [pStep_digit (by omega) (by omega) hn, h]
  congr 3; omega
theorem pRun_app : ∀ (l m : List UInt8) (st st' : Nat × List Int), pRun l st = some st' → pRun (l ++ m) st = pRun m st'
  | [], m, st, st', h => by simp [pRun] at h; rw [h]; rfl
  | c :: l, m, st, st', h => by
    rw [pRun_cons] at h
    rw [List.cons_append, pRun_cons]
    cases hs : pStep st c with
    | none => rw [hs] at h; cases h
    | some s =>
      rw [hs] at h
      simp only [Option.bind_some] at h ⊢
      exact pRun_app l m s st' h
theorem pRun_dec (p : Nat) : ∀ (k u : Nat) (ps : List Int), u < 10 ^ (k + 1) → u < 2882303761517117440 → p < ps.length → ps.getD p 0 = 0 → pRun (Lib.decDigits u) (p, ps) = some (p, ps.set p u)
  | 0, u, ps, h, _, hp, h0 => by
    rw [Lib.decDigits_one (by omega)]
    rw [pRun_cons, pStep_dig (by omega) (by rw [h0]; decide)]
    simp only [Option.bind_some, pRun, h0]; congr 3; omega
  | k + 1, u, ps, h, hu, hp, h0 => by
    by_cases h10 : u < 10
    · rw [Lib.decDigits_one h10, pRun_cons, pStep_dig h10 (by rw [h0]; decide)]
      simp only [Option.bind_some, pRun, h0]; congr 3; omega
    · rw [Lib.decDigits, dif_neg h10]
      have hp1 : (10 : Nat) ^ (k + 1 + 1) = 10 ^ (k + 1) * 10 := Nat.pow_succ ..
      rw [pRun_app _ _ _ _ (pRun_dec p k (u / 10) ps (by omega) (by omega) hp h0), pRun_cons, pStep_dig (by omega) (by simp [hp]; omega)]
      simp only [Option.bind_some, pRun, List.getD_eq_getElem?_getD, List.getElem?_set_self hp, Option.getD_some, List.set_set]
      congr 3; omega
theorem pRun_two (p : Nat) (n : Int) (h0 : 0 ≤ n) (h1 : n < 100) (ps : List Int) (hp : p < ps.length) (hz : ps.getD p 0 = 0) : pRun (twoT n) (p, ps) = some (p, ps.set p n) := by
  have e : twoT n = [UInt8.ofNat (48 + (n / 10).toNat), UInt8.ofNat (48 + (n % 10).toNat)] := by
    unfold twoT
    rw [show 48 + (n / 10).toNat = (48 + n / 10).toNat from by omega, show 48 + (n % 10).toNat = (48 + n % 10).toNat from by omega]
  rw [e, pRun_cons, pStep_dig (by omega) (by rw [hz]; decide)]
  simp only [Option.bind_some]
  have hz' : ps[p] = 0 := by simpa [hp] using hz
  rw [pRun_cons, pStep_dig (by omega) (by simp [hp, hz']; omega)]
  simp only [Option.bind_some, pRun, List.getD_eq_getElem?_getD, List.getElem?_set_self hp, Option.getD_some, List.set_set]
  rw [List.getD_eq_getElem?_getD] at hz
  rw [hz]
  congr 3; omega
theorem pStep_d (ps : List Int) : pStep (0, ps) 100 = some (1, ps) := by
  unfold pStep
  dsimp only
  rw [show digitT (ps.getD 0 0) ((100 : UInt8).toNat : Int) = (0, false) from digitT_no (.inr (by decide))]
  rfl
theorem pStep_c {p : Nat} (ps : List Int) (h : p = 1 ∨ p = 2) : pStep (p, ps) 58 = some (p + 1, ps) := by
  unfold pStep
  dsimp only
  rw [show digitT (ps.getD p 0) ((58 : UInt8).toNat : Int) = (0, false) from digitT_no (.inr (by decide))]
  rcases h with rfl | rfl <;> rfl
theorem print_pos {t : Int} (h : 0 ≤ t) : (printT t).1 = Lib.decDigits (t / 86400).toNat ++ ([100] ++ (twoT (t / 3600 % 24) ++ ([58] ++ (twoT (t / 60 % 60) ++ ([58] ++ twoT (t % 60)))))) := by
  unfold printT
  rw [if_neg (by omega), show Lib.itoa (t / 86400) = Lib.decDigits (t / 86400).toNat from by unfold Lib.itoa; rw [if_neg (by omega)]]
  simp only [List.append_assoc]
theorem pRun_print {t : Int} (h : 0 ≤ t) (h1 : t ≤ 9223372036854775807) : pRun (printT t).1 (0, [0, 0, 0, 0]) = some (3, [t / 86400, t / 3600 % 24, t / 60 % 60, t % 60]) := by
  rw [print_pos h]
  rw [pRun_app _ _ _ _ (pRun_dec 0 18 (t / 86400).toNat [0, 0, 0, 0] (by omega) (by omega) (by simp) rfl)]
  rw [pRun_app [100] _ _ (1, [((t / 86400).toNat : Int), 0, 0, 0]) (by rw [pRun_cons, pStep_d]; rfl)]
  rw [pRun_app _ _ _ _ (pRun_two 1 (t / 3600 % 24) (by omega) (by omega) _ (by simp) rfl)]
  rw [pRun_app [58] _ _ (2, [((t / 86400).toNat : Int), t / 3600 % 24, 0, 0]) (by rw [pRun_cons, show (([((t / 86400).toNat : Int), 0, 0, 0] : List Int).set 1 (t / 3600 % 24)) = [((t / 86400).toNat : Int), t / 3600 % 24, 0, 0] from rfl, pStep_c _ (.inl rfl)]; rfl)]
  rw [pRun_app _ _ _ _ (pRun_two 2 (t / 60 % 60) (by omega) (by omega) _ (by simp) rfl)]
  rw [pRun_app [58] _ _ (3, [((t / 86400).toNat : Int), t / 3600 % 24, t / 60 % 60, 0]) (by rw [pRun_cons, show (([((t / 86400).toNat : Int), t / 3600 % 24, 0, 0] : List Int).set 2 (t / 60 % 60)) = [((t / 86400).toNat : Int), t / 3600 % 24, t / 60 % 60, 0] from rfl, pStep_c _ (.inr rfl)]; rfl)]
  rw [pRun_two 3 (t % 60) (by omega) (by omega) _ (by simp) rfl]
  rw [show ((t / 86400).toNat : Int) = t / 86400 from by omega]; rfl
theorem parse_print {t : Int} (h : 0 ≤ t) (h1 : t ≤ 9223372036854775807) : parseT (printT t).1 = (t, 0) := by
  unfold parseT
  rw [pRun_print h h1]
  dsimp only
  rw [if_neg (by simp; omega), show t / 86400 * 86400 + t / 3600 % 24 * 3600 + t / 60 % 60 * 60 + t % 60 = t from by omega, if_neg (by omega), if_neg (by simp)]
theorem parse_cases (s : List UInt8) : parseT s = (0, 6) ∨ ∃ t, t ≤ 9223372036854775807 ∧ parseT s = (t, 0) ∧ (printT t).1 = s := by
  unfold parseT
  split
  · rename_i p a b c d _
    split
    · exact .inl rfl
    · split
      · exact .inl rfl
      · split
        · exact .inl rfl
        · rename_i h
          exact .inr ⟨_, by omega, rfl, by simpa using h⟩
  · exact .inl rfl
theorem print_neg {t : Int} (h : t < 0) : printT t = ([], 7) := if_pos h
theorem twoT_len (n : Int) : (twoT n).length = 2 := rfl
theorem print_len {t : Int} (h : 0 ≤ t) : (printT t).1.length = (Lib.decDigits (t / 86400).toNat).length + 9 := by
  rw [print_pos h]; simp [twoT_len]
theorem parse_nil : parseT [] = (0, 6) := rfl

theorem w6_id {x : Int} (h : -9223372036854775808 ≤ x) (h1 : x ≤ 9223372036854775807) : w6 x = x := by
  unfold w6; rw [w64]; split <;> omega
theorem rRun_app (n : Nat) : ∀ (l m : List UInt8) (i : Nat) (st st' : Int × List Int), rRun n i l st = some st' → rRun n i (l ++ m) st = rRun n (i + l.length) m st'
  | [], m, i, st, st', h => by simp [rRun] at h; rw [h]; rfl
  | c :: l, m, i, st, st', h => by
    rw [rRun_cons] at h
    rw [List.cons_append, rRun_cons, List.length_cons, show i + (l.length + 1) = i + 1 + l.length from by omega]
    split at h
    · rename_i h1; rw [if_pos h1]; exact rRun_app n l m _ _ _ h
    · rename_i h1; rw [if_neg h1]
      split at h
      · cases h
      · rename_i h2; rw [if_neg h2]
        split at h
        · rename_i h3; rw [if_pos h3]; exact rRun_app n l m _ _ _ h
        · rename_i h3; rw [if_neg h3]; exact rRun_app n l m _ _ _ h
theorem rRun_skip {n i : Nat} (h : i = n ∨ i = n + 3 ∨ i = n + 6) (c : UInt8) (st : Int × List Int) : rRun n i [c] st = some st := by
  rw [rRun_cons, if_pos (by simp [skipR]; omega)]; rfl
theorem rRun_day {n i k : Nat} (hi : i < n) (hk : k < 10) {x : Int} (h0 : 0 ≤ x) (h1 : x ≤ 922337203685477579) (ls : List Int) : rRun n i [UInt8.ofNat (48 + k)] (x, ls) = some (10 * x + k, ls) := by
  have h := dig_toNat hk
  rw [rRun_cons, if_neg (by simp [skipR]; omega), if_neg (by rw [h]; simp; omega), if_pos (by omega), h]
  dsimp only
  rw [w6_id (x := 10 * x) (by omega) (by omega), w6_id (by omega) (by omega)]
  simp only [rRun]; congr 2; omega
theorem rRun_dec (n : Nat) (ls : List Int) : ∀ (k u i : Nat), u < 10 ^ (k + 1) → u ≤ 922337203685477579 → i + (Lib.decDigits u).length ≤ n → rRun n i (Lib.decDigits u) (0, ls) = some ((u : Int), ls)
  | 0, u, i, h, _, hn => by
    have h10 : u < 10 := by omega
    rw [Lib.decDigits_one h10] at hn ⊢
    simp at hn
    rw [rRun_day (by omega) h10 (by omega) (by omega)]; congr 2; omega
  | k + 1, u, i, h, hu, hn => by
    by_cases h10 : u < 10
    · rw [Lib.decDigits_one h10] at hn ⊢
      simp at hn
      rw [rRun_day (by omega) h10 (by omega) (by omega)]; congr 2; omega
    · rw [Lib.decDigits, dif_neg h10] at hn ⊢
      have hp1 : (10 : Nat) ^ (k + 1 + 1) = 10 ^ (k + 1) * 10 := Nat.pow_succ ..
      simp only [List.length_append, List.length_cons, List.length_nil] at hn
      rw [rRun_app _ _ _ _ _ _ (rRun_dec n ls k (u / 10) i (by omega) (by omega) (by omega)), rRun_day (by omega) (by omega) (by omega) (by omega)]
      congr 2; omega
theorem rRun_part {n i k p : Nat} (hi : n < i) (hs : i ≠ n + 3 ∧ i ≠ n + 6) (hp : (i - n) / 3 = p) (hk : k < 10) {ls : List Int} {y : Int} (hg : ls.getD p 0 = y) (h0 : 0 ≤ y) (h1 : y ≤ 100) (x : Int) : rRun n i [UInt8.ofNat (48 + k)] (x, ls) = some (x, ls.set p (10 * y + k)) := by
  have h := dig_toNat hk
  rw [rRun_cons, if_neg (by simp [skipR]; omega), if_neg (by rw [h]; simp; omega), if_neg (by omega), h]
  dsimp only
  rw [hp, hg, w6_id (x := 10 * y) (by omega) (by omega), w6_id (by omega) (by omega)]
  simp only [rRun]; congr 3; omega
theorem rRun_two {n i p : Nat} (hi : n < i) (hs : i = n + 3 * p + 1) (hp : p ≤ 2) {v : Int} (h0 : 0 ≤ v) (h1 : v < 100) {ls : List Int} (hl : p < ls.length) (hg : ls.getD p 0 = 0) (x : Int) : rRun n i (twoT v) (x, ls) = some (x, ls.set p v) := by
  have e : twoT v = [UInt8.ofNat (48 + (v / 10).toNat)] ++ [UInt8.ofNat (48 + (v % 10).toNat)] := by
    unfold twoT
    rw [show 48 + (v / 10).toNat = (48 + v / 10).toNat from by omega, show 48 + (v % 10).toNat = (48 + v % 10).toNat from by omega]; rfl
  rw [e, rRun_app _ _ _ _ _ _ (rRun_part hi (by omega) (by omega) (by omega) hg (by omega) (by omega) x)]
  rw [rRun_part (p := p) (y := 10 * 0 + ((v / 10).toNat : Int)) (by simp; omega) (by simp; omega) (by simp; omega) (by omega) (by simp [hl]) (by omega) (by omega) x]
  rw [List.set_set]; congr 3; omega
theorem dec_lt : ∀ (k u : Nat), u < 10 ^ (k + 1) → (Lib.decDigits u).length ≤ k + 1
  | 0, u, h => by rw [Lib.decDigits_one (by omega)]; simp
  | k + 1, u, h => by
    rw [Lib.decDigits]
    split
    · simp
    · have := dec_lt k (u / 10) (by rw [Nat.pow_succ] at h; omega)
      simp; omega
theorem dec_pos (u : Nat) : 1 ≤ (Lib.decDigits u).length := by
  rw [Lib.decDigits]; split <;> simp
theorem getD_app {l m : List UInt8} {j : Nat} (h : l.length = j) (c : UInt8) : (l ++ c :: m).getD j 0 = c := by subst h; simp
theorem rparse_print {t : Int} (h : 0 ≤ t) (h1 : t ≤ 9223372036854775807) : rparseT (printT t).1 = (t, 0) := by
  have hu : (t / 86400).toNat ≤ 106751991167300 := by omega
  have hl := dec_lt 14 (t / 86400).toNat (by omega)
  have hl1 := dec_pos (t / 86400).toNat
  have hr : rRun (Lib.decDigits (t / 86400).toNat).length 0 (printT t).1 (0, [0, 0, 0, 0]) = some (t / 86400, [t / 3600 % 24, t / 60 % 60, t % 60, 0]) := by
    rw [print_pos h]
    generalize hd : (Lib.decDigits (t / 86400).toNat).length = n at hl hl1 ⊢
    rw [rRun_app _ _ _ _ _ _ (rRun_dec n [0, 0, 0, 0] 18 (t / 86400).toNat 0 (by omega) (by omega) (by omega)), hd]
    rw [rRun_app _ _ _ _ _ _ (rRun_skip (.inl (by omega)) 100 _)]
    rw [rRun_app _ _ _ _ _ _ (rRun_two (p := 0) (by first | (simp; done) | (simp; omega)) (by first | (simp; done) | (simp; omega)) (by omega) (v := t / 3600 % 24) (by omega) (by omega) (by simp) rfl _)]
    rw [rRun_app _ _ _ _ _ _ (rRun_skip (.inr (.inl (by first | (simp [twoT_len]; done) | (simp [twoT_len]; omega)))) 58 _)]
    rw [rRun_app _ _ _ _ _ _ (rRun_two (p := 1) (by first | (simp [twoT_len]; done) | (simp [twoT_len]; omega)) (by first | (simp [twoT_len]; done) | (simp [twoT_len]; omega)) (by omega) (v := t / 60 % 60) (by omega) (by omega) (by simp) rfl _)]
    rw [rRun_app _ _ _ _ _ _ (rRun_skip (.inr (.inr (by first | (simp [twoT_len]; done) | (simp [twoT_len]; omega)))) 58 _)]
    rw [rRun_two (p := 2) (by first | (simp [twoT_len]; done) | (simp [twoT_len]; omega)) (by first | (simp [twoT_len]; done) | (simp [twoT_len]; omega)) (by omega) (v := t % 60) (by omega) (by omega) (by simp) rfl _]
    rw [show ((t / 86400).toNat : Int) = t / 86400 from by omega]; rfl
  have hlen := print_len h
  unfold rparseT
  rw [show (printT t).1.length - 9 = (Lib.decDigits (t / 86400).toNat).length from by omega, hr, show ((printT t).1.length : Int) - 9 = ((Lib.decDigits (t / 86400).toNat).length : Nat) from by omega]
  have hc : condR (printT t).1 ((Lib.decDigits (t / 86400).toNat).length : Nat) = false := by
    rw [print_pos h]
    generalize hd : Lib.decDigits (t / 86400).toNat = l at hl hl1 ⊢
    have e1 : (l ++ ([100] ++ (twoT (t / 3600 % 24) ++ ([58] ++ (twoT (t / 60 % 60) ++ ([58] ++ twoT (t % 60))))))).getD ((l.length : Nat) : Int).toNat 0 = 100 := getD_app (by simp) 100
    have e2 : (l ++ ([100] ++ (twoT (t / 3600 % 24) ++ ([58] ++ (twoT (t / 60 % 60) ++ ([58] ++ twoT (t % 60))))))).getD (((l.length : Nat) : Int) + 3).toNat 0 = 58 := by
      have := getD_app (l := l ++ ([100] ++ twoT (t / 3600 % 24))) (m := twoT (t / 60 % 60) ++ ([58] ++ twoT (t % 60))) (j := (((l.length : Nat) : Int) + 3).toNat) (by simp [twoT_len]; omega) 58
      simpa only [List.append_assoc, List.cons_append, List.nil_append] using this
    have e3 : (l ++ ([100] ++ (twoT (t / 3600 % 24) ++ ([58] ++ (twoT (t / 60 % 60) ++ ([58] ++ twoT (t % 60))))))).getD (((l.length : Nat) : Int) + 6).toNat 0 = 58 := by
      have := getD_app (l := l ++ ([100] ++ (twoT (t / 3600 % 24) ++ ([58] ++ twoT (t / 60 % 60))))) (m := twoT (t % 60)) (j := (((l.length : Nat) : Int) + 6).toNat) (by simp [twoT_len]; omega) 58
      simpa only [List.append_assoc, List.cons_append, List.nil_append] using this
    unfold condR
    rw [e1, e2, e3]
    simp
    omega
  rw [if_neg (by rw [hc]; simp)]
  dsimp only
  have s1 : w6 (t / 86400 * 86400) = t / 86400 * 86400 := w6_id (by omega) (by omega)
  have s2 : w6 (t / 3600 % 24 * 3600) = t / 3600 % 24 * 3600 := w6_id (by omega) (by omega)
  have s3 : w6 (t / 60 % 60 * 60) = t / 60 % 60 * 60 := w6_id (by omega) (by omega)
  have hs : rSum (t / 86400) (t / 3600 % 24) (t / 60 % 60) (t % 60) = t := by
    unfold rSum
    rw [s1, s2, s3, w6_id (x := t / 86400 * 86400 + t / 3600 % 24 * 3600) (by omega) (by omega), w6_id (x := t / 86400 * 86400 + t / 3600 % 24 * 3600 + t / 60 % 60 * 60) (by omega) (by omega), w6_id (by omega) (by omega)]
    omega
  have ho : rOver (t / 86400) (t / 3600 % 24) (t / 60 % 60) (t % 60) = false := by
    unfold rOver
    rw [s1, s2, s3, w6_id (x := t / 3600 % 24 * 3600 + t / 60 % 60 * 60) (by omega) (by omega), w6_id (x := t / 3600 % 24 * 3600 + t / 60 % 60 * 60 + t % 60) (by omega) (by omega), w6_id (x := 9223372036854775807 - (t / 3600 % 24 * 3600 + t / 60 % 60 * 60 + t % 60)) (by omega) (by omega)]
    simp; omega
  rw [ho, hs, if_neg (by simp), if_neg (by simp)]
theorem rparse_cases (s : List UInt8) : rparseT s = (0, 6) ∨ ∃ t, R64 t ∧ rparseT s = (t, 0) ∧ (printT t).1 = s ∧ s ≠ [] := by
  unfold rparseT
  split
  · exact .inl rfl
  · rename_i h0
    have hne : s ≠ [] := by rintro rfl; exact h0 rfl
    split
    · split
      · exact .inl rfl
      · split
        · exact .inl rfl
        · rename_i h
          exact .inr ⟨rSum _ _ _ _, w6_R _, rfl, by simpa using h, hne⟩
    · exact .inl rfl
theorem rparse_eq (s : List UInt8) : rparseT s = parseT s := by
  have pos : ∀ {t : Int}, (printT t).1 = s → s ≠ [] → 0 ≤ t := fun {t} h hne => by
    rcases Int.lt_or_le t 0 with h0 | h0
    · rw [print_neg h0] at h; exact absurd h.symm hne
    · exact h0
  rcases rparse_cases s with h | ⟨t, ht, h, hp, hne⟩
  · rcases parse_cases s with h' | ⟨t, ht, h', hp⟩
    · rw [h, h']
    · have hne : s ≠ [] := by rintro rfl; rw [parse_nil] at h'; cases h'
      have := rparse_print (pos hp hne) ht
      rw [hp, h] at this; cases this
  · have := parse_print (pos hp hne) ht.2
    rw [hp] at this
    rw [h, this]

theorem parse_ok {s : List UInt8} (h : (parseT s).2 = 0) : R64 (parseT s).1 ∧ printT (parseT s).1 = (s, 0) := by
  rcases parse_cases s with h' | ⟨t, ht, h', hp⟩
  · rw [h'] at h; cases h
  · have hne : s ≠ [] := by rintro rfl; rw [parse_nil] at h'; cases h'
    have h0 : 0 ≤ t := by
      rcases Int.lt_or_le t 0 with h0 | h0
      · rw [print_neg h0] at hp; exact absurd hp.symm hne
      · exact h0
    rw [h']
    refine ⟨⟨by dsimp only; omega, ht⟩, ?_⟩
    have e : printT t = ((printT t).1, 0) := by unfold printT; rw [if_neg (by omega)]
    dsimp only
    rw [e, hp]
theorem print_ok {t : Int} (h : (printT t).2 = 0) : 0 ≤ t := by
  rcases Int.lt_or_le t 0 with h0 | h0
  · rw [print_neg h0] at h; cases h
  · exact h0
theorem print_bound {t : Int} (h : 0 ≤ t) (h1 : t ≤ 9223372036854775807) : (printT t).1.length ≤ 100 := by
  rw [print_len h]
  have := decDigits_le 19 (t / 86400).toNat (by omega)
  omega

end Go.Proofs.YtcekeipkofblmaaDoor
