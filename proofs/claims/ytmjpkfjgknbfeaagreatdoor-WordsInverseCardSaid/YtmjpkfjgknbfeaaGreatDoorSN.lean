/- words: the forms and what is read are inverse to each other (plain laws). -/
import Derived.Test.YtmjpkfjgknbfeaaGreatDoorSL
import Derived.Test.YtmjpkfjgknbfeaaGreatDoorQU
set_option linter.unusedSimpArgs false
set_option linter.unusedVariables false
namespace Go.Proofs.YtmjpkfjgknbfeaaGreatDoor

theorem unq_quote (s : List UInt8) : unqW (quote s) = (s, 0) := by
  have h := unq_form s []
  rw [List.append_nil] at h
  unfold unqW
  rw [h, if_neg]
  have : 0 < (quote s).length := by unfold quote; simp
  dsimp only
  omega
theorem quote_unq {s : List UInt8} (h : (unqW s).2 = 0) : quote (unqW s).1 = s := by
  unfold unqW at h ⊢
  split at h
  · cases h
  · rename_i hn
    rw [if_neg hn]
    rw [not_or] at hn
    obtain ⟨r, h1, h2⟩ := unq_sound (s := s) hn.1
    have hr : r = [] := by
      have := congrArg List.length h1
      rw [List.length_append] at this
      exact List.length_eq_zero_iff.1 (by omega)
    rw [hr, List.append_nil] at h1
    exact h1.symm
theorem flat_ge : ∀ s : List UInt8, s.length ≤ (s.flatMap escaped).length
  | [] => by simp
  | c :: s => by have h1 := flat_ge s; have h2 := escaped_pos c; simp only [List.flatMap_cons, List.length_append, List.length_cons]; omega
theorem quote_ge (s : List UInt8) : s.length ≤ (quote s).length := by have := flat_ge s; simp only [quote, List.length_cons, List.length_append, List.length_nil]; omega
theorem unqW_len (s : List UInt8) : (unqW s).1.length ≤ s.length := by
  by_cases h : (unqW s).2 = 0
  · have h1 := quote_ge (unqW s).1
    rw [quote_unq h] at h1
    exact h1
  · have h0 : (unqW s).1 = [] := by
      unfold unqW at h ⊢
      split at h
      · rename_i h1; rw [if_pos h1]
      · exact absurd rfl h
    rw [h0]; simp
theorem longF_ok : ∀ (l : List Fd) (b : Bool), l.foldl (fun b f => b || decide (2000 < (f.s.length : Int))) b = false → b = false ∧ ∀ f ∈ l, f.s.length ≤ 2000
  | [], b, h => ⟨h, by simp⟩
  | a :: l, b, h => by
    obtain ⟨h1, h2⟩ := longF_ok l _ h
    simp only [Bool.or_eq_false_iff, decide_eq_false_iff_not] at h1
    exact ⟨h1.1, fun f hf => (List.mem_cons.1 hf).elim (fun e => by rw [e]; omega) (h2 f)⟩
theorem split1_2000 (s : List UInt8) : ∀ f ∈ (split1 s).1, f.s.length ≤ 2000 := by
  unfold split1
  split
  · simp
  split
  · simp
  split
  · simp
  split
  · simp
  · rename_i h
    simp only [Bool.or_eq_true, decide_eq_true_eq, not_or] at h
    exact (longF_ok _ _ (by simpa [longF] using h.1)).2
theorem split1_nil {s : List UInt8} (h : (split1 s).2 = 0) (h0 : (split1 s).1 = []) : s = [] := by
  unfold split1 at h h0
  split at h
  · cases h
  · rename_i h1
    rw [if_neg h1] at h0
    split at h
    · assumption
    · rename_i h2
      rw [if_neg h2] at h0
      split at h
      · cases h
      · rename_i h3
        rw [if_neg h3] at h0
        split at h
        · cases h
        · rename_i h4
          rw [if_neg h4] at h0
          have hg : (fldsG (s.length + 1) s).2 = true := by simpa using h3
          exact absurd h0 (fldsG_sound (s.length + 1) s (fldsG (s.length + 1) s).1 (by rw [← hg])).1
theorem join_split {s : List UInt8} (hs : s.length ≤ 8192) (h : (split1 s).2 = 0) : joinW (split1 s).1 = (s, 0) := by
  by_cases h0 : (split1 s).1 = []
  · rw [h0, split1_nil h h0]; rfl
  · obtain ⟨h1, h2⟩ := line_split h h0
    have h3 := split1_64 s
    have h4 := split1_2000 s
    have hl : longA (split1 s).1 = false := by
      unfold longA
      rw [List.any_eq_false]
      intro f hf
      have := h4 f hf
      simp; omega
    have hb : badA (split1 s).1 = false := by
      unfold badA badF
      rw [List.any_eq_false]
      intro f hf
      have := h2 f hf
      unfold FdOk at this
      cases hq : f.q
      · rw [this hq]; simp
      · simp
    have := joinW_okJ (l := (split1 s).1) ⟨by omega, hl, hb, by rw [← h1]; omega⟩
    rw [this, ← h1]
theorem split_join {l : List Fd} (h : (joinW l).2 = 0) : split1 (joinW l).1 = (l, 0) := by
  have ho := joinW_z h
  rw [joinW_okJ ho]
  obtain ⟨h1, h2, h3, h4⟩ := ho
  by_cases h0 : l = []
  · subst h0; rfl
  · refine split_line h0 (fun f hf hq => ?_) (by omega) (fun f hf => ?_) (by omega)
    · unfold badA badF at h3
      rw [List.any_eq_false] at h3
      have := h3 f hf
      rw [hq] at this
      simpa using this
    · unfold longA at h2
      rw [List.any_eq_false] at h2
      have := h2 f hf
      simpa using this
theorem itoa_neg {n : Nat} (h : 0 < n) : Lib.itoa (-(n : Int)) = 45 :: Lib.decDigits n := by unfold Lib.itoa; rw [if_pos (by omega), show (-(n : Int)).natAbs = n from by omega]
theorem digs_pos {n : Nat} (h : 0 < n) : ((Lib.decDigits n).headD 0).toNat ≠ 48 := fun e => by have := (digs_facts n).2.2 e; omega
theorem dec_itoa (n : Int) : decC (Lib.itoa n) = true ∧ decV (Lib.itoa n) = n := by
  by_cases h : 0 ≤ n
  · obtain ⟨k, rfl⟩ : ∃ k : Nat, n = k := ⟨n.toNat, by omega⟩
    rw [itoa_nat]
    exact decC_digs k
  · obtain ⟨k, rfl, hk⟩ : ∃ k : Nat, n = -(k : Int) ∧ 0 < k := ⟨n.natAbs, by omega, by omega⟩
    rw [itoa_neg hk]
    have hne := List.length_pos_iff.2 (digs_ne k)
    constructor
    · rw [decC_cut (s := 45 :: Lib.decDigits k) ⟨by rw [List.length_cons]; omega, rfl, digs_pos hk⟩]
      exact decT_digs k
    · unfold decV
      rw [if_pos (show (((45 : UInt8) :: Lib.decDigits k).headD 0).toNat = 45 from rfl)]
      show -((val10 0 (Lib.decDigits k) : Nat) : Int) = _
      rw [(digs_facts k).2.1]
theorem itoa_dec {s : List UInt8} (h : decC s = true) : Lib.itoa (decV s) = s := by
  by_cases h0 : 0 ≤ decV s
  · have := digs_back h h0
    rw [← itoa_nat] at this
    rwa [show ((decV s).toNat : Int) = decV s from by omega] at this
  · have h45 : (s.headD 0).toNat = 45 := by
      by_cases h45 : (s.headD 0).toNat = 45
      · exact h45
      · unfold decV at h0; rw [if_neg h45] at h0; omega
    have hV : decV s = -(val10 0 (s.drop 1) : Nat) := by unfold decV; rw [if_pos h45]
    have hc : 1 < s.length ∧ (s.headD 0).toNat = 45 ∧ ((s.drop 1).headD 0).toNat ≠ 48 := by
      by_cases hc : 1 < s.length ∧ (s.headD 0).toNat = 45 ∧ ((s.drop 1).headD 0).toNat ≠ 48
      · exact hc
      · rw [decC_all hc, decT_45 h45] at h
        cases h
    have ht := h
    rw [decC_cut hc] at ht
    rw [hV] at h0 ⊢
    rw [itoa_neg (by omega), digsT_back ht]
    cases s with
    | nil => simp at hc
    | cons x l =>
      have : x = 45 := UInt8.toNat.inj h45
      rw [this]
      rfl
theorem intW_itoa {n : Int} (h0 : -9223372036854775808 ≤ n) (h1 : n ≤ 9223372036854775807) : intW (Lib.itoa n) n n = (n, 0) := by
  obtain ⟨h2, h3⟩ := dec_itoa n
  unfold intW
  rw [h2, h3, if_neg (by simp), if_neg (by simp [inI]; omega)]
theorem intW_bnd (s : List UInt8) : -9223372036854775808 ≤ (intW s (-9223372036854775808) 9223372036854775807).1 ∧ (intW s (-9223372036854775808) 9223372036854775807).1 ≤ 9223372036854775807 := by
  unfold intW
  split
  · simp
  · split
    · simp
    · rename_i h
      simp only [not_or] at h
      dsimp only
      omega
theorem itoa_intW {s : List UInt8} (h : (intW s (-9223372036854775808) 9223372036854775807).2 = 0) : Lib.itoa (intW s (-9223372036854775808) 9223372036854775807).1 = s := by
  unfold intW at h ⊢
  split at h
  · cases h
  · rename_i h1
    rw [if_neg h1]
    split at h
    · cases h
    · rename_i h2
      rw [if_neg h2]
      exact itoa_dec (by simpa using h1)
theorem listW_ok {l : List Int} (h : (listW l).2 = 0) : l.length ≤ 500 ∧ outK l l.length = false := by
  unfold listW at h
  split at h
  · cases h
  · rename_i h5
    split at h
    · cases h
    · rename_i ho
      exact ⟨by omega, by simpa using ho⟩
theorem plistW_facts (s : List UInt8) : (plistW s).1.length ≤ 500 ∧ ∀ n ∈ (plistW s).1, -9223372036854775808 ≤ n ∧ n ≤ 9223372036854775807 := by
  by_cases h : (plistW s).2 = 0
  · have h1 := parse_list h
    obtain ⟨h2, h3⟩ := listW_ok (l := (plistW s).1) (by rw [h1])
    exact ⟨h2, fun n hn => by have := mem_out h3 n hn; omega⟩
  · have h0 : (plistW s).1 = [] := by
      unfold plistW at h ⊢
      split at h
      · exact absurd rfl h
      · rename_i hs
        rw [if_neg hs]
        cases hg : goP none (Lib.split s [44]) with
        | none => rfl
        | some ps =>
          rw [hg] at h
          dsimp only at h ⊢
          split at h
          · rename_i hm; rw [if_pos hm]
          · rename_i hm
            rw [if_neg hm]
            cases he : expP ps [] with
            | none => rfl
            | some l => rw [he] at h; exact absurd rfl h
    rw [h0]
    simp
theorem txtG_len {g : Rn} (h : g.1 + g.2 ≤ 1000000000) : (txtG g).length ≤ 23 := by
  have h1 := itoa_10 (n := (g.1 : Int)) (by omega) (by omega)
  have h2 := itoa_10 (n := ((g.1 + g.2 : Nat) : Int)) (by omega) (by omega)
  rw [itoa_nat] at h1 h2
  rw [txtG_eq]
  split <;> simp <;> omega
theorem joinG_len : ∀ G : List Rn, (∀ g ∈ G, g.1 + g.2 ≤ 1000000000) → (joinG G).length ≤ 24 * G.length
  | [], _ => by simp [joinG]
  | [g], h => by have := txtG_len (h g (by simp)); simp [joinG]; omega
  | g :: q :: r, h => by
    have h1 := txtG_len (h g (by simp))
    have h2 := joinG_len (q :: r) (fun x hx => h x (by simp [hx]))
    rw [joinG]
    simp only [List.length_append, List.length_cons] at h2 ⊢
    omega
theorem nums_len : ∀ G : List Rn, G.length ≤ (numsG G).length
  | [] => Nat.le_refl _
  | g :: r => by
    have := nums_len r
    rw [numsG, List.length_append, rngA_len, List.length_cons]
    omega
theorem mem_nums : ∀ (G : List Rn) (g : Rn), g ∈ G → ((g.1 + g.2 : Nat) : Int) ∈ numsG G
  | [], g, h => by cases h
  | q :: r, g, h => by
    rw [numsG, List.mem_append]
    rcases List.mem_cons.1 h with rfl | h
    · left
      unfold rngA
      exact List.mem_map.2 ⟨g.2, List.mem_range.2 (by omega), rfl⟩
    · exact .inr (mem_nums r g h)
theorem listW_len (l : List Int) : (listW l).1.length ≤ 20000 := by
  by_cases h : (listW l).2 = 0
  · obtain ⟨h5, ho⟩ := listW_ok h
    have hm := mem_out ho
    unfold listW at h ⊢
    rw [if_neg (by omega), ho, if_neg (by simp)] at h ⊢
    split at h
    · cases h
    · rename_i hd
      rw [if_neg hd]
      by_cases hl : l = []
      · rw [if_pos hl]; simp
      · rw [if_neg hl]
        obtain ⟨G, g1, g2⟩ := nums_ex l (fun x hx => (hm x hx).1) (ascK_desc (by simpa using hd))
        have hG : G ≠ [] := by intro e; subst e; exact hl g2.symm
        have ht := listGo_nums G (l.length + 1) [] g1 (by rw [g2]; omega)
        rw [g2, if_neg hG] at ht
        have h1 := joinG_len G (fun g hg => by have := (hm _ (by rw [← g2]; exact mem_nums G g hg)).2; omega)
        have h2 := nums_len G
        rw [g2] at h2
        rw [ht]
        simp only [List.nil_append, sepL, if_true]
        omega
  · have h0 : (listW l).1 = [] := by
      unfold listW at h ⊢
      split at h
      · rename_i h1; rw [if_pos h1]
      · rename_i h1
        rw [if_neg h1]
        split at h
        · rename_i h2; rw [if_pos h2]
        · rename_i h2
          rw [if_neg h2]
          split at h
          · rename_i h3; rw [if_pos h3]
          · rename_i h3
            exfalso
            split at h <;> exact h rfl
    rw [h0]; simp

end Go.Proofs.YtmjpkfjgknbfeaaGreatDoor
