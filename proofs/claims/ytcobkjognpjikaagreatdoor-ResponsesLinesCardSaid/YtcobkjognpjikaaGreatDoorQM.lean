/- words: what Split reads is what Join writes; digits are what Int reads. -/
import Derived.Test.YtcobkjognpjikaaGreatDoorQL
set_option linter.unusedSimpArgs false
set_option linter.unusedVariables false
namespace Go.Proofs.YtcobkjognpjikaaGreatDoor


/-- the form of a field -/
def formF (f : Fd) : List UInt8 := if f.q = true then quote f.s else f.s
def lineF (fs : List Fd) : List UInt8 := Lib.join (fs.map formF) [32]
def FdOk (f : Fd) : Prop := f.q = false → bareC f.s = true
theorem bareC_facts {s : List UInt8} (h : bareC s = true) : s ≠ [] ∧ ∀ c ∈ s, plainC c = true ∧ c.toNat ≠ 32 := by
  unfold bareC at h
  simp only [Bool.and_eq_true, List.all_eq_true, Bool.not_eq_true', decide_eq_false_iff_not] at h
  exact ⟨h.2, fun c hc => h.1 c hc⟩
theorem split_uniq {c : UInt8} : ∀ (a s b r : List UInt8), a ++ c :: b = s ++ c :: r → c ∉ a → c ∉ s → a = s ∧ b = r
  | [], [], b, r, h, _, _ => by simpa using h
  | [], x :: s, b, r, h, _, h2 => by simp at h; exact absurd (by rw [h.1]; simp) h2
  | x :: a, [], b, r, h, h1, _ => by simp at h; exact absurd (by rw [h.1]; simp) h1
  | x :: a, y :: s, b, r, h, h1, h2 => by
    simp only [List.cons_append, List.cons.injEq] at h
    obtain ⟨k1, k2⟩ := split_uniq a s b r h.2 (fun h => h1 (by simp [h])) (fun h => h2 (by simp [h]))
    exact ⟨by rw [h.1, k1], k2⟩
theorem cut1_app {s rest : List UInt8} (hs : (32 : UInt8) ∉ s) (hr : rest = [] ∨ ∃ r, rest = 32 :: r) : cut1 (s ++ rest) 32 = s := by
  rcases cut1_cases (s ++ rest) 32 with ⟨h1, h2⟩ | ⟨a, b, h1, h2, h3⟩
  · rcases hr with rfl | ⟨r, rfl⟩
    · rw [h1, List.append_nil]
    · exact absurd (by simp) h2
  · rw [h3]
    rcases hr with rfl | ⟨r, rfl⟩
    · exact absurd (by rw [List.append_nil] at h1; rw [h1]; simp) hs
    · exact (split_uniq a s b r h1.symm h2 hs).1
theorem nextF_form {f : Fd} {rest : List UInt8} (hf : FdOk f) (hr : rest = [] ∨ ∃ r, rest = 32 :: r) : nextF (formF f ++ rest) = some (f, rest) := by
  obtain ⟨s, q⟩ := f
  cases q with
  | true =>
    unfold nextF formF
    simp only [if_true, unq_form]
    rw [if_pos (by unfold quote; simp), List.drop_left]
  | false =>
    obtain ⟨h1, h2⟩ := bareC_facts (hf rfl)
    have h32 : (32 : UInt8) ∉ s := fun h => (h2 32 h).2 rfl
    have hu : unq (s ++ rest) = ([], 0) := by
      cases s with
      | nil => exact absurd rfl h1
      | cons a s =>
        have := plain_ne a (h2 a (by simp)).1
        rw [List.cons_append, unq, if_neg this.1]
    unfold nextF formF
    simp only [Bool.false_eq_true, if_false]
    rw [hu, if_neg (by simp), cut1_app h32 hr, if_pos (hf rfl), List.drop_left]
theorem formF_ne {f : Fd} (h : FdOk f) : formF f ≠ [] := by
  obtain ⟨s, q⟩ := f
  cases q with
  | true => unfold formF quote; simp
  | false => exact (bareC_facts (h rfl)).1
theorem lineF_one (f : Fd) : lineF [f] = formF f := by unfold lineF; rw [List.map_cons, List.map_nil, Lib.join_one]
theorem lineF_cons (f g : Fd) (fs : List Fd) : lineF (f :: g :: fs) = formF f ++ 32 :: lineF (g :: fs) := by
  unfold lineF
  rw [List.map_cons, Lib.join_cons, List.map_cons, Lib.join_cons]
  simp [Lib.joinTail]
theorem fldsG_line : ∀ (fs : List Fd) (n : Nat), fs ≠ [] → (∀ f ∈ fs, FdOk f) → fs.length ≤ n → fldsG n (lineF fs) = (fs, true)
  | [], _, h, _, _ => absurd rfl h
  | [f], n, _, hf, hn => by
    obtain ⟨n, rfl⟩ : ∃ m, n = m + 1 := ⟨n - 1, by simp at hn; omega⟩
    have h := nextF_form (hf f (by simp)) (rest := []) (.inl rfl)
    rw [List.append_nil] at h
    rw [lineF_one, fldsG_step h, if_pos rfl]
  | f :: g :: fs, n, _, hf, hn => by
    obtain ⟨n, rfl⟩ : ∃ m, n = m + 1 := ⟨n - 1, by simp at hn; omega⟩
    have h := nextF_form (hf f (by simp)) (rest := 32 :: lineF (g :: fs)) (.inr ⟨_, rfl⟩)
    rw [lineF_cons, fldsG_step h, if_neg (by simp), if_pos (show ((32 :: lineF (g :: fs)).headD 0).toNat = 32 from rfl)]
    show (f :: (fldsG n (lineF (g :: fs))).1, (fldsG n (lineF (g :: fs))).2) = _
    rw [fldsG_line (g :: fs) n (by simp) (fun x hx => hf x (by simp [hx])) (by simp at hn ⊢; omega)]
theorem lineF_ne {fs : List Fd} (h : fs ≠ []) (hf : ∀ f ∈ fs, FdOk f) : lineF fs ≠ [] := by
  match fs, h with
  | [f], _ => rw [lineF_one]; exact formF_ne (hf f (by simp))
  | f :: g :: fs, _ => rw [lineF_cons]; simp
theorem lineF_len : ∀ fs : List Fd, (∀ f ∈ fs, FdOk f) → fs.length ≤ (lineF fs).length + 1
  | [], _ => by simp
  | [f], _ => by simp
  | f :: g :: fs, h => by
    have h1 := lineF_len (g :: fs) (fun x hx => h x (by simp [hx]))
    rw [lineF_cons]; simp at h1 ⊢; omega
theorem longF_not : ∀ (l : List Fd) (b : Bool), b = false → (∀ f ∈ l, f.s.length ≤ 2000) → l.foldl (fun b f => b || decide (2000 < (f.s.length : Int))) b = false
  | [], b, h, _ => h
  | a :: l, b, h, hl => longF_not l _ (by rw [h]; have := hl a (by simp); simp; omega) (fun f hf => hl f (by simp [hf]))
/-- a line that Join writes is read as its fields -/
theorem split_line {fs : List Fd} (h : fs ≠ []) (hf : ∀ f ∈ fs, FdOk f) (h64 : fs.length ≤ 64) (hl : ∀ f ∈ fs, f.s.length ≤ 2000) (hn : (lineF fs).length ≤ 8192) : split1 (lineF fs) = (fs, 0) := by
  have hlen := lineF_len fs hf
  have hg := fldsG_line fs ((lineF fs).length + 1) h hf hlen
  have hlf : longF fs = false := longF_not fs false rfl hl
  rw [split1_ok (by omega) (lineF_ne h hf) hg, hlf, if_neg (by simp; omega)]
theorem nextF_sound {rest r2 : List UInt8} {d : Fd} (h : nextF rest = some (d, r2)) : rest = formF d ++ r2 ∧ FdOk d := by
  unfold nextF at h
  split at h
  · rename_i h0
    obtain ⟨r, h1, h2⟩ := unq_sound (s := rest) (by omega)
    simp only [Option.some.injEq, Prod.mk.injEq] at h
    obtain ⟨rfl, rfl⟩ := h
    refine ⟨?_, fun hh => by cases hh⟩
    unfold formF
    rw [if_pos rfl, h2]
    have h3 : rest.drop (quote (unq rest).1).length = r := by
      conv => lhs; arg 2; rw [h1]
      rw [List.drop_left]
    rw [h3]; exact h1
  · split at h
    · rename_i h0 hb
      simp only [Option.some.injEq, Prod.mk.injEq] at h
      obtain ⟨rfl, rfl⟩ := h
      refine ⟨?_, fun _ => hb⟩
      unfold formF
      rw [if_neg (by simp)]
      conv => lhs; rw [← List.take_append_drop (cut1 rest 32).length rest]
      rw [cut1_take]
    · cases h
theorem fldsG_sound : ∀ (n : Nat) (rest : List UInt8) (fs : List Fd), fldsG n rest = (fs, true) → fs ≠ [] ∧ rest = lineF fs ∧ ∀ f ∈ fs, FdOk f
  | 0, rest, fs, h => by simp [fldsG] at h
  | n + 1, rest, fs, h => by
    cases hx : nextF rest with
    | none => rw [fldsG_none hx] at h; cases h
    | some p =>
      obtain ⟨d, r2⟩ := p
      obtain ⟨h1, h2⟩ := nextF_sound hx
      rw [fldsG_step hx] at h
      split at h
      · rename_i h0
        simp only [Prod.mk.injEq, and_true] at h
        subst h
        refine ⟨by simp, ?_, by simpa using h2⟩
        rw [lineF_one, h1, h0, List.append_nil]
      · split at h
        · rename_i h0 h3
          simp only [Prod.mk.injEq] at h
          obtain ⟨rfl, hk⟩ := h
          obtain ⟨k1, k2, k3⟩ := fldsG_sound n (r2.drop 1) (fldsG n (r2.drop 1)).1 (by rw [← hk])
          refine ⟨by simp, ?_, fun f hf => (List.mem_cons.1 hf).elim (fun e => by rw [e]; exact h2) (k3 f)⟩
          obtain ⟨a, r, rfl⟩ : ∃ a r, r2 = a :: r := by cases r2 with | nil => exact absurd rfl h0 | cons a r => exact ⟨a, r, rfl⟩
          have ha : a = 32 := UInt8.toNat.inj h3
          rw [List.drop_succ_cons, List.drop_zero] at k1 k2 ⊢
          match hg : (fldsG n r).1, k1 with
          | g :: gs, _ =>
            rw [hg] at k2
            rw [lineF_cons, h1, ← k2, ha]
        · cases h
/-- what is read from a line is written as this line -/
theorem line_split {s : List UInt8} (h : (split1 s).2 = 0) (hne : (split1 s).1 ≠ []) : s = lineF (split1 s).1 ∧ ∀ f ∈ (split1 s).1, FdOk f := by
  unfold split1 at h hne ⊢
  split at h
  · cases h
  · rename_i h1
    rw [if_neg h1] at hne ⊢
    split at h
    · rename_i h2; rw [if_pos h2] at hne; exact absurd rfl hne
    · rename_i h2
      rw [if_neg h2] at hne ⊢
      split at h
      · cases h
      · rename_i h3
        rw [if_neg h3] at hne ⊢
        split at h
        · cases h
        · rename_i h4
          rw [if_neg h4]
          have := fldsG_sound (s.length + 1) s (fldsG (s.length + 1) s).1 (by
            have : (fldsG (s.length + 1) s).2 = true := by simpa using h3
            rw [← this])
          exact ⟨this.2.1, this.2.2⟩
/-! digits -/
theorem val10_snoc (a : Nat) (l : List UInt8) (c : UInt8) : val10 a (l ++ [c]) = val10 a l * 10 + (c.toNat - 48) := by unfold val10; rw [List.foldl_append]; rfl
theorem digs_ne (n : Nat) : Lib.decDigits n ≠ [] := by rw [Lib.decDigits]; split <;> simp
theorem dig_toNat {n : Nat} (h : n < 10) : (UInt8.ofNat (48 + n)).toNat = 48 + n := by rw [UInt8.toNat_ofNat']; omega
theorem digC_of {n : Nat} (h : n < 10) : digC (UInt8.ofNat (48 + n)) = true := by unfold digC; rw [dig_toNat h]; simp; omega
theorem digs_facts (n : Nat) : (Lib.decDigits n).all digC = true ∧ val10 0 (Lib.decDigits n) = n ∧ (((Lib.decDigits n).headD 0).toNat = 48 → n = 0) := by
  induction n using Nat.strongRecOn with
  | ind n ih =>
    rw [Lib.decDigits]
    split
    · rename_i h
      refine ⟨by rw [List.all_cons, digC_of h]; rfl, ?_, ?_⟩
      · show 0 * 10 + ((UInt8.ofNat (48 + n)).toNat - 48) = n
        rw [dig_toNat h]; omega
      · rw [List.headD_cons, dig_toNat h]; omega
    · rename_i h
      obtain ⟨h1, h2, h3⟩ := ih (n / 10) (by omega)
      have hm : n % 10 < 10 := Nat.mod_lt _ (by decide)
      refine ⟨by rw [List.all_append, h1, List.all_cons, digC_of hm]; rfl, ?_, ?_⟩
      · rw [val10_snoc, h2, dig_toNat hm]; omega
      · intro h4
        have h5 : ((Lib.decDigits (n / 10) ++ [UInt8.ofNat (48 + n % 10)]).headD 0) = (Lib.decDigits (n / 10)).headD 0 := by
          cases hd : Lib.decDigits (n / 10) with
          | nil => exact absurd hd (digs_ne _)
          | cons a l => rfl
        rw [h5] at h4
        have := h3 h4
        omega
theorem digs_len1 {n : Nat} (h : n = 0) : (Lib.decDigits n).length = 1 := by subst h; rw [Lib.decDigits]; rfl
theorem decT_digs (n : Nat) : decT (Lib.decDigits n) = true := by
  obtain ⟨h1, h2, h3⟩ := digs_facts n
  unfold decT
  rw [if_neg (by
    rintro (h | ⟨h4, h5⟩)
    · exact digs_ne n h
    · have := digs_len1 (h3 h5); omega)]
  exact h1
theorem head_dig {s : List UInt8} (h1 : s ≠ []) (h2 : s.all digC = true) : 48 ≤ (s.headD 0).toNat ∧ (s.headD 0).toNat ≤ 57 := by
  match s, h1 with
  | a :: r, _ =>
    have : digC a = true := by simp at h2; exact h2.1
    unfold digC at this
    simpa using this
theorem decC_digs (n : Nat) : decC (Lib.decDigits n) = true ∧ decV (Lib.decDigits n) = n := by
  have hd := decT_digs n
  obtain ⟨h1, h2, h3⟩ := digs_facts n
  have hh := head_dig (digs_ne n) h1
  constructor
  · rw [decC_all (fun h => by omega)]; exact hd
  · unfold decV; rw [if_neg (by omega), h2]
theorem val10_pos : ∀ (l : List UInt8) (a : Nat), 0 < a → 0 < val10 a l := fun l a h => Nat.lt_of_lt_of_le h (val10_le l a)
theorem digs_of : ∀ (m : Nat) (s : List UInt8), s.length = m → s ≠ [] → s.all digC = true → (1 < s.length → (s.headD 0).toNat ≠ 48) → Lib.decDigits (val10 0 s) = s := by
  intro m
  induction m using Nat.strongRecOn with
  | ind m ih =>
    intro s hm hne hd hz
    rcases List.eq_nil_or_concat s with rfl | ⟨t, c, rfl⟩
    · exact absurd rfl hne
    · rw [List.concat_eq_append] at hm hne hd hz ⊢
      rw [List.all_append, Bool.and_eq_true] at hd
      have hc : 48 ≤ c.toNat ∧ c.toNat ≤ 57 := by have := hd.2; simp only [List.all_cons, List.all_nil, Bool.and_true] at this; unfold digC at this; simpa using this
      have hcc : UInt8.ofNat (48 + (c.toNat - 48)) = c := by rw [show 48 + (c.toNat - 48) = c.toNat from by omega]; exact UInt8.ofNat_toNat
      rw [val10_snoc]
      by_cases ht : t = []
      · subst ht
        show Lib.decDigits (0 * 10 + (c.toNat - 48)) = [c]
        rw [Lib.decDigits, dif_pos (by omega), show 0 * 10 + (c.toNat - 48) = c.toNat - 48 from by omega, hcc]
      · have hpos := List.length_pos_iff.2 ht
        have hh : ((t ++ [c]).headD 0) = t.headD 0 := by cases t with | nil => exact absurd rfl ht | cons a l => rfl
        have hz2 : (t.headD 0).toNat ≠ 48 := by rw [← hh]; exact hz (by simp; omega)
        have h1 := ih t.length (by rw [← hm, List.length_append]; simp) t rfl ht hd.1 (fun _ => hz2)
        have hp : 0 < val10 0 t := by
          match t, ht with
          | a :: r, _ =>
            have ha := head_dig (s := a :: r) (by simp) hd.1
            have ha2 : a.toNat ≠ 48 := hz2
            have ha3 : 48 ≤ a.toNat := ha.1
            show 0 < val10 (0 * 10 + (a.toNat - 48)) r
            exact val10_pos r _ (by omega)
        rw [Lib.decDigits, dif_neg (by omega), show (val10 0 t * 10 + (c.toNat - 48)) / 10 = val10 0 t from by omega, show (val10 0 t * 10 + (c.toNat - 48)) % 10 = c.toNat - 48 from by omega, h1, hcc]
/-- a decimal form of a number from 0 on is its digits -/
theorem digs_back {s : List UInt8} (h : decC s = true) (h0 : 0 ≤ decV s) : Lib.decDigits (decV s).toNat = s := by
  by_cases hc : 1 < s.length ∧ (s.headD 0).toNat = 45 ∧ ((s.drop 1).headD 0).toNat ≠ 48
  · exfalso
    rw [decC_cut hc] at h
    obtain ⟨h1, h2⟩ := decT_all h
    unfold decV at h0
    rw [if_pos hc.2.1] at h0
    have hp : 0 < val10 0 (s.drop 1) := by
      match hs : s.drop 1, h1 with
      | a :: r, _ =>
        rw [hs] at h2 hc
        have ha := head_dig (s := a :: r) (by simp) h2
        have ha2 : a.toNat ≠ 48 := hc.2.2
        have ha3 : 48 ≤ a.toNat := ha.1
        show 0 < val10 (0 * 10 + (a.toNat - 48)) r
        exact val10_pos r _ (by omega)
    omega
  · rw [decC_all hc] at h
    obtain ⟨h1, h2⟩ := decT_all h
    have hh := head_dig h1 h2
    unfold decV
    rw [if_neg (by omega), Int.toNat_natCast]
    refine digs_of s.length s rfl h1 h2 (fun hl he => ?_)
    unfold decT at h
    rw [if_pos (.inr ⟨hl, he⟩)] at h
    cases h
theorem bare_digs (n : Nat) : bareC (Lib.decDigits n) = true := by
  obtain ⟨h1, _, _⟩ := digs_facts n
  unfold bareC
  simp only [Bool.and_eq_true, List.all_eq_true, Bool.not_eq_true', decide_eq_false_iff_not]
  refine ⟨fun c hc => ?_, digs_ne n⟩
  have := List.all_eq_true.1 h1 c hc
  unfold digC at this
  simp only [Bool.and_eq_true, decide_eq_true_eq] at this
  refine ⟨?_, by omega⟩
  unfold plainC
  simp; omega

end Go.Proofs.YtcobkjognpjikaaGreatDoor
