/- responses: Print and Parse are the reference's; they are inverse to each other. -/
import Derived.Test.YtcobkjognpjikaaGreatDoorTB
import Derived.Test.YtcobkjognpjikaaGreatDoorPD
set_option linter.unusedSimpArgs false
set_option linter.unusedVariables false
namespace Go.Proofs.YtcobkjognpjikaaGreatDoor

def lowAll : List Rule → List Fld → Bool
  | x :: rs, f :: l => (decide (x.kind = 2) || decide (x.low ≤ f.num)) && lowAll rs l
  | _, _ => true
theorem limitS_kind {k t : Int} (h1 : 1 ≤ t) (h2 : t ≤ 8) : (limitS k t).kind = 2 ↔ (t = 3 ∨ t = 4) := by
  rcases tags8 h1 h2 with rfl | rfl | rfl | rfl | rfl | rfl | rfl | rfl <;> by_cases hk : k = 0 <;> simp [limitS, hk]
/-- of fields that were read, and make a response of the form, the message is these fields -/
theorem msg_read {k form : Int} {l : List Fld} (h1 : l.map Fld.tag = tagsT k form) (h2 : ∀ f ∈ l, FldV f) (he : decide ((foldS k l).err = 0) = decide (form = 0)) : msgS (foldS k l) = l := by
  unfold msgS
  rw [foldS_kind, tagsT_form he, ← h1, List.map_map]
  conv => rhs; rw [← List.map_id l]
  apply List.map_congr_left
  intro f hf
  exact fold_get l _ (by rw [h1]; exact (tagsT_asc k form).1) h2 f hf
theorem limitS_kinds (k t : Int) : (limitS k t).kind = 1 ∨ (limitS k t).kind = 2 := (limitS_63 k t).1
/-! Print is the reference's -/
theorem num_63 {r : Rs} {t : Int} (h1 : 1 ≤ t) (h2 : t ≤ 8) (hn : nbS (limitS r.kind t) (fieldS r t) = false) (h34 : ¬ (t = 3 ∨ t = 4)) : (limitS r.kind t).low ≤ (fieldS r t).num ∧ (fieldS r t).num ≤ (limitS r.kind t).high := by
  have hk : (limitS r.kind t).kind = 1 := by
    rcases limitS_kinds r.kind t with h | h
    · exact h
    · exact absurd ((limitS_kind h1 h2).1 h) h34
  simp [nbS, hk] at hn
  exact hn
/-! Parse of Print -/
/-- the field of a line that says a field -/
def fdS (r : Rs) (t : Int) : Fd := if t = 3 ∨ t = 4 then ⟨(fieldS r t).txt, true⟩ else ⟨Lib.decDigits (fieldS r t).num.toNat, false⟩
theorem form_piece (r : Rs) (t : Int) : formF (fdS r t) = pieceS r t := by
  unfold fdS pieceS formF
  by_cases h3 : t = 3
  · simp [h3]
  · by_cases h4 : t = 4
    · simp [h4]
    · simp [h3, h4]
theorem fdS_ok (r : Rs) (t : Int) : FdOk (fdS r t) := by
  unfold fdS FdOk
  split
  · intro h; cases h
  · intro _; exact bare_digs _
theorem field_0 {r : Rs} {t : Int} (h1 : 1 ≤ t) (h2 : t ≤ 8) : (t = 3 ∨ t = 4 → (fieldS r t).num = 0) ∧ (¬ (t = 3 ∨ t = 4) → (fieldS r t).txt = []) := by
  rcases tags8 h1 h2 with rfl | rfl | rfl | rfl | rfl | rfl | rfl | rfl <;> simp [fieldS, valS, VV.f]
theorem fld_eq (f : Fld) {t n : Int} {l : List UInt8} (h1 : f.tag = t) (h2 : f.num = n) (h3 : f.txt = l) : f = ⟨t, n, l⟩ := by cases f; simp_all
theorem read_back {r : Rs} : ∀ (T : List Int) (acc : List Fld), (∀ t ∈ T, (1 ≤ t ∧ t ≤ 8) ∧ nbS (limitS r.kind t) (fieldS r t) = false) → readGo (T.map (limitS r.kind)) (T.map (fdS r)) acc = (acc ++ T.map (fieldS r), true)
  | [], acc, _ => by rw [List.map_nil, readGo]; simp
  | t :: T, acc, h => by
    obtain ⟨⟨h1, h2⟩, hn⟩ := h t (by simp)
    have hk := limitS_kind (k := r.kind) h1 h2
    have hz := field_0 (r := r) h1 h2
    have ih := fun acc => read_back (r := r) T acc (fun u hu => h u (by simp [hu]))
    rw [List.map_cons, List.map_cons, readGo]
    by_cases h34 : t = 3 ∨ t = 4
    · have hfd : fdS r t = ⟨(fieldS r t).txt, true⟩ := if_pos h34
      rw [hfd, if_neg (by simp [hk.2 h34]), if_pos rfl, ih, limitS_tag, ← fld_eq (fieldS r t) (fieldS_tag r t) (hz.1 h34) rfl]
      simp
    · have hfd : fdS r t = ⟨Lib.decDigits (fieldS r t).num.toNat, false⟩ := if_neg h34
      have hb := num_63 h1 h2 hn h34
      have h63 := limitS_63 r.kind t
      obtain ⟨d1, d2⟩ := decC_digs (fieldS r t).num.toNat
      have hV : decV (Lib.decDigits (fieldS r t).num.toNat) = (fieldS r t).num := by rw [d2]; omega
      have hI : intW (Lib.decDigits (fieldS r t).num.toNat) (limitS r.kind t).low (limitS r.kind t).high = ((fieldS r t).num, 0) := by
        rw [intW_cases, hV, if_pos ⟨d1, by simp [inI]; omega, hb.1, hb.2⟩]
      rw [hfd, if_neg (by simp; exact fun h => h34 (hk.1 h)), if_neg (by simp), hI, if_neg (by simp), ih, limitS_tag, ← fld_eq (fieldS r t) (fieldS_tag r t) rfl (hz.2 h34)]
      simp
theorem tryP_back {r : Rs} (hr : RsOk r) (h : checkS r = 0) {form : Int} (hf : decide (r.err = 0) = decide (form = 0)) : tryP r.kind form ((tagsT r.kind r.err).map (fdS r)) = (r, true) := by
  have hp := check_parts h
  have ha := tagsT_asc r.kind r.err
  have hR : readQ (limitsS r.kind form) ((tagsT r.kind r.err).map (fdS r)) = (msgS r, true) := by
    unfold readQ
    rw [← limits_form hf]
    unfold limitsS
    rw [if_neg (by simp), read_back _ [] (fun t ht => ⟨ha.2 t ht, (hp.2 t ht).1⟩)]
    rfl
  unfold tryP
  rw [hR, if_pos rfl]
  unfold acceptS
  rw [fold_back hr h, h, hf]
  simp
theorem tryP_not {r : Rs} (hr : RsOk r) (h : checkS r = 0) (he : r.err ≠ 0) : (tryP r.kind 0 ((tagsT r.kind r.err).map (fdS r))).2 = false := by
  have hT : tagsT r.kind r.err = [1, 2] := if_neg he
  have hL : tagsT r.kind 0 = 1 :: 2 :: moreT r.kind := if_pos rfl
  by_cases hm : moreT r.kind = []
  · have hl : limitsS r.kind 0 = limitsS r.kind r.err := by unfold limitsS; rw [hT, hL, hm]
    have hb := tryP_back hr h rfl
    unfold tryP at hb ⊢
    rw [hl]
    split at hb
    · rename_i h1
      rw [if_pos h1]
      unfold acceptS at hb ⊢
      split at hb
      · cases hb
      · simp only [Prod.mk.injEq, and_true] at hb
        rw [hb, if_pos (by simp [he])]
    · cases hb
  · have hlen := List.length_pos_iff.2 hm
    unfold tryP readQ
    rw [if_pos (show (!decide ((((tagsT r.kind r.err).map (fdS r)).length : Int) = (limitsS r.kind 0).length)) = true from by unfold limitsS; rw [List.length_map, List.length_map, hT, hL]; simp; omega), if_neg (by simp)]
theorem name_bare {j : Nat} (hj : j < 14) (hk : knownS (j : Int) = true) : bareC (rsName (j : Int)) = true := by
  have key : ((List.range 14).all fun j => !knownS (j : Int) || bareC (rsName (j : Int))) = true := by decide +kernel
  have k1 := List.all_eq_true.1 key j (List.mem_range.2 hj)
  rw [hk] at k1
  simpa using k1
theorem go_at {nm : List UInt8} {rest : List Fd} {j : Nat} (hj : nm = rsName (j : Int)) (hj14 : j < 14) {x : Rs × Int} (hx : ∀ y, (if (tryP j 0 rest).2 = true then ((tryP j 0 rest).1, (0 : Int)) else if (tryP j 11 rest).2 = true then ((tryP j 11 rest).1, 0) else y) = x) : ∀ n k : Nat, k ≤ j → j < k + n → k + n ≤ 14 → parseGo nm rest n k = x
  | 0, k, h1, h2, _ => by omega
  | n + 1, k, h1, h2, h3 => by
    rw [parseGo]
    by_cases he : k = j
    · subst he
      rw [if_pos hj]
      exact hx _
    · rw [if_neg (fun h => he (names_uniq (by omega) hj14 (h.symm.trans hj)))]
      exact go_at hj hj14 hx n (k + 1) (by omega) (by omega) (by omega)
theorem parse_print {r : Rs} (hr : RsOk r) (h : checkS r = 0) : parseS (printS r).1 = (r, 0) ∧ (printS r).2 = 0 := by
  have hk := known_lt (checkS_known h)
  obtain ⟨j, hj⟩ : ∃ j : Nat, r.kind = j := ⟨r.kind.toNat, by omega⟩
  have h56 := strs_56 h
  have hs := strs_of_check h
  let fs : List Fd := ⟨rsName r.kind, false⟩ :: (tagsT r.kind r.err).map (fdS r)
  have hline : (printS r).1 = lineF fs ∧ (printS r).2 = 0 := by
    unfold printS
    rw [if_neg (by rw [h]; simp)]
    refine ⟨?_, rfl⟩
    show Lib.join _ _ = Lib.join (fs.map formF) [32]
    show _ = Lib.join (formF ⟨rsName r.kind, false⟩ :: ((tagsT r.kind r.err).map (fdS r)).map formF) [32]
    rw [List.map_map]
    congr 2
    apply List.map_congr_left
    intro t _
    exact (form_piece r t).symm
  have hok : ∀ f ∈ fs, FdOk f := by
    intro f hf
    rcases List.mem_cons.1 hf with rfl | hf
    · intro _
      rw [hj]
      exact name_bare (by omega) (by rw [← hj]; exact checkS_known h)
    · obtain ⟨t, _, rfl⟩ := List.mem_map.1 hf
      exact fdS_ok r t
  have hlen : ∀ f ∈ fs, f.s.length ≤ 56 := by
    intro f hf
    rcases List.mem_cons.1 hf with rfl | hf
    · have := rsName_len r.kind; dsimp only; omega
    · obtain ⟨t, _, rfl⟩ := List.mem_map.1 hf
      have hfo := fieldS_ok hr hs t
      have := digits_20 hfo.1 hfo.2.1
      unfold fdS
      split
      · rename_i h34
        rcases h34 with rfl | rfl <;> simp [fieldS, valS, VV.f] <;> omega
      · dsimp only; omega
  have htl := tagsT_len r.kind r.err
  have hfl : fs.length ≤ 6 := by show ((tagsT r.kind r.err).map (fdS r)).length + 1 ≤ 6; rw [List.length_map]; omega
  have hbound : ∀ l : List Fd, (∀ f ∈ l, f.s.length ≤ 56) → (lineF l).length ≤ 227 * l.length := by
    intro l
    induction l with
    | nil => intro _; simp [lineF, Lib.join]
    | cons f l ih =>
      intro hl
      have h1 : (formF f).length ≤ 226 := by
        have := hl f (by simp)
        have hq := quote_len f.s
        unfold formF
        split <;> omega
      cases l with
      | nil => rw [lineF_one]; simp; omega
      | cons g l =>
        have := ih (fun x hx => hl x (by simp [hx]))
        rw [lineF_cons]
        simp only [List.length_append, List.length_cons] at this ⊢
        omega
  have hsp := split_line (fs := fs) (by simp [fs]) hok (by omega) (fun f hf => by have := hlen f hf; omega) (by have := hbound fs hlen; omega)
  refine ⟨?_, hline.2⟩
  rw [hline.1]
  unfold parseS
  rw [hsp]
  rw [if_neg (show ¬ ((!decide (((fs, (0 : Int)) : List Fd × Int).2 = 0) || decide (((fs, (0 : Int)).1.length : Int) = 0)) || (fd0 (fs, (0 : Int)).1).q) = true from by simp [fs, fd0]; omega)]
  show parseGo (rsName r.kind) ((tagsT r.kind r.err).map (fdS r)) 14 0 = (r, 0)
  refine go_at (j := j) (by rw [hj]) (by omega) (fun y => ?_) 14 0 (by omega) (by omega) (by omega)
  rw [← hj]
  by_cases he : r.err = 0
  · rw [tryP_back hr h (form := 0) (by simp [he]), if_pos rfl]
  · rw [if_neg (by rw [tryP_not hr h he]; simp), tryP_back hr h (form := 11) (by simp [he]), if_pos rfl]
/-! Print of Parse -/
theorem read_forms (k : Int) : ∀ (T : List Int) (fs : List Fd) (acc l : List Fld), (∀ t ∈ T, 1 ≤ t ∧ t ≤ 8) → fs.length = T.length → readGo (T.map (limitS k)) fs acc = (l, true) → ∃ m, l = acc ++ m ∧ m.map Fld.tag = T ∧ (∀ f ∈ m, FldV f) ∧ m.map (fun f => if f.tag = 3 then quote f.txt else if f.tag = 4 then quote f.txt else Lib.decDigits f.num.toNat) = fs.map formF
  | [], fs, acc, l, _, hl, h => by
    have : fs = [] := List.length_eq_zero_iff.1 (by simpa using hl)
    subst this
    rw [List.map_nil, readGo] at h
    simp only [Prod.mk.injEq, and_true] at h
    exact ⟨[], by rw [← h, List.append_nil], rfl, by simp, rfl⟩
  | t :: T, [], acc, l, _, hl, h => by simp at hl
  | t :: T, f :: fs, acc, l, ht, hl, h => by
    obtain ⟨h1, h2⟩ := ht t (by simp)
    have hk := limitS_kind (k := k) h1 h2
    have h63 := limitS_63 k t
    rw [List.map_cons, readGo] at h
    split at h
    · cases h
    · rename_i hq2
      have hqe : f.q = decide ((limitS k t).kind = 2) := by simpa using hq2
      split at h
      · rename_i hq
        rw [hq] at hqe
        have h34 := hk.1 (by simpa using hqe.symm)
        obtain ⟨m, m1, m2, m3, m4⟩ := read_forms k T fs _ l (fun u hu => ht u (by simp [hu])) (by simpa using hl) h
        refine ⟨⟨(limitS k t).tag, 0, f.s⟩ :: m, by rw [m1]; simp, by rw [List.map_cons, m2, limitS_tag], ?_, ?_⟩
        · intro x hx
          rcases List.mem_cons.1 hx with rfl | hx
          · exact ⟨by rw [limitS_tag]; exact h1, by rw [limitS_tag]; exact h2, fun _ => rfl, fun a b => by rw [limitS_tag] at a b; rcases h34 with h | h; exact absurd h a; exact absurd h b⟩
          · exact m3 x hx
        · rw [List.map_cons, List.map_cons, m4]
          congr 1
          dsimp only
          rw [limitS_tag]
          unfold formF
          rw [if_pos hq]
          rcases h34 with rfl | rfl <;> simp
      · rename_i hq
        split at h
        · cases h
        · rename_i hc
          have hin := intW_in (s := f.s) (lo := (limitS k t).low) (hi := (limitS k t).high) (by simpa using hc)
          have hn34 : ¬ (t = 3 ∨ t = 4) := fun h => by have := hk.2 h; rw [this] at hqe; simp at hqe; exact hq hqe
          obtain ⟨m, m1, m2, m3, m4⟩ := read_forms k T fs _ l (fun u hu => ht u (by simp [hu])) (by simpa using hl) h
          refine ⟨⟨(limitS k t).tag, (intW f.s (limitS k t).low (limitS k t).high).1, []⟩ :: m, by rw [m1]; simp, by rw [List.map_cons, m2, limitS_tag], ?_, ?_⟩
          · intro x hx
            rcases List.mem_cons.1 hx with rfl | hx
            · exact ⟨by rw [limitS_tag]; exact h1, by rw [limitS_tag]; exact h2, fun h => by rw [limitS_tag] at h; exact absurd h hn34, fun _ _ => ⟨rfl, by dsimp only; omega, by dsimp only; omega⟩⟩
            · exact m3 x hx
          · rw [List.map_cons, List.map_cons, m4]
            congr 1
            dsimp only
            rw [limitS_tag, if_neg (fun h => hn34 (.inl h)), if_neg (fun h => hn34 (.inr h)), hin.2.2.2, digs_back hin.2.2.1 (by rw [← hin.2.2.2]; omega)]
            unfold formF
            rw [if_neg hq]
theorem tryP_yes {k form : Int} (hk : R64 k) {fs : List Fd} (hf : ∀ f ∈ fs, f.s.length ≤ 2000) (h : (tryP k form fs).2 = true) : RsOk (tryP k form fs).1 ∧ checkS (tryP k form fs).1 = 0 ∧ (tryP k form fs).1.kind = k ∧ (tagsT k (tryP k form fs).1.err).map (pieceS (tryP k form fs).1) = fs.map formF := by
  unfold tryP at h ⊢
  split at h
  · rename_i hr
    rw [if_pos hr]
    unfold acceptS at h ⊢
    split at h
    · cases h
    · rename_i hc
      rw [if_neg hc]
      simp only [Bool.or_eq_true, Bool.not_eq_true', decide_eq_false_iff_not, not_or, Classical.not_not] at hc
      have hok := readQ_ok (limitsS_63 k form) hf
      have hro : RsOk (foldS k (readQ (limitsS k form) fs).1) := foldL_ok hk hok.1
      refine ⟨hro, hc.2, foldS_kind _ _, ?_⟩
      dsimp only
      obtain ⟨l, hl⟩ : ∃ l, readQ (limitsS k form) fs = (l, true) := ⟨(readQ (limitsS k form) fs).1, by rw [← hr]⟩
      rw [hl] at hc ⊢
      dsimp only at hc ⊢
      unfold readQ at hl
      split at hl
      · cases hl
      · rename_i hlen
        have hlen2 : fs.length = (tagsT k form).length := by unfold limitsS at hlen; rw [List.length_map] at hlen; simp at hlen; omega
        obtain ⟨m, m1, m2, m3, m4⟩ := read_forms k (tagsT k form) fs [] l (tagsT_asc k form).2 hlen2 hl
        rw [List.nil_append] at m1
        subst m1
        have hmsg := msg_read m2 m3 hc.1
        rw [← m4, tagsT_form hc.1]
        have e : (tagsT k form).map (pieceS (foldS k l)) = ((tagsT k form).map (fieldS (foldS k l))).map (fun f => if f.tag = 3 then quote f.txt else if f.tag = 4 then quote f.txt else Lib.decDigits f.num.toNat) := by
          rw [List.map_map]
          apply List.map_congr_left
          intro t _
          show pieceS (foldS k l) t = if (fieldS (foldS k l) t).tag = 3 then _ else if (fieldS (foldS k l) t).tag = 4 then _ else _
          rw [fieldS_tag]
          rfl
        rw [e]
        congr 1
        unfold msgS at hmsg
        rwa [foldS_kind, tagsT_form hc.1] at hmsg
  · cases h
theorem go_inv {nm : List UInt8} {rest : List Fd} (hf : ∀ f ∈ rest, f.s.length ≤ 2000) : ∀ n k : Nat, k + n ≤ 14 → (parseGo nm rest n k).2 = 0 → RsOk (parseGo nm rest n k).1 ∧ checkS (parseGo nm rest n k).1 = 0 ∧ nm = rsName (parseGo nm rest n k).1.kind ∧ (tagsT (parseGo nm rest n k).1.kind (parseGo nm rest n k).1.err).map (pieceS (parseGo nm rest n k).1) = rest.map formF
  | 0, k, _, h => by cases h
  | n + 1, k, hn, h => by
    have hk : R64 (k : Int) := by unfold R64; omega
    rw [parseGo] at h ⊢
    have key : ∀ form : Int, nm = rsName (k : Int) → (tryP k form rest).2 = true → RsOk (tryP k form rest).1 ∧ checkS (tryP k form rest).1 = 0 ∧ nm = rsName (tryP k form rest).1.kind ∧ (tagsT (tryP k form rest).1.kind (tryP k form rest).1.err).map (pieceS (tryP k form rest).1) = rest.map formF := by
      intro form hnm ht
      obtain ⟨t1, t2, t3, t4⟩ := tryP_yes hk hf ht
      refine ⟨t1, t2, by rw [t3]; exact hnm, by rw [t3]; exact t4⟩
    by_cases hnm : nm = rsName (k : Int)
    · rw [if_pos hnm] at h ⊢
      by_cases h0 : (tryP k 0 rest).2 = true
      · rw [if_pos h0]; exact key 0 hnm h0
      · rw [if_neg h0] at h ⊢
        by_cases h1 : (tryP k 11 rest).2 = true
        · rw [if_pos h1]; exact key 11 hnm h1
        · rw [if_neg h1] at h ⊢
          exact go_inv hf n (k + 1) (by omega) h
    · rw [if_neg hnm] at h ⊢
      exact go_inv hf n (k + 1) (by omega) h
theorem print_parse {line : List UInt8} (h : (parseS line).2 = 0) : RsOk (parseS line).1 ∧ printS (parseS line).1 = (line, 0) ∧ checkS (parseS line).1 = 0 := by
  unfold parseS at h ⊢
  split at h
  · cases h
  · rename_i hc
    rw [if_neg hc]
    simp only [Bool.or_eq_true, not_or, Bool.not_eq_true', decide_eq_false_iff_not, decide_eq_true_eq, Classical.not_not, Bool.not_eq_true] at hc
    obtain ⟨⟨h0, hn⟩, hq⟩ := hc
    have hne : (split1 line).1 ≠ [] := by intro e; rw [e] at hn; exact hn rfl
    obtain ⟨hl, _⟩ := line_split h0 hne
    have hsl := split1_len line
    obtain ⟨r1, r2, r3, r4⟩ := go_inv (fun f hf => hsl.2 f (List.mem_of_mem_drop hf)) 14 0 (Nat.le_refl _) h
    refine ⟨r1, ?_, r2⟩
    generalize (parseGo (fd0 (split1 line).1).s ((split1 line).1.drop 1) 14 0).1 = r at r1 r2 r3 r4 ⊢
    unfold printS
    rw [if_neg (by rw [r2]; simp), ← r3, r4]
    congr 1
    conv => rhs; rw [hl]
    match hfs : (split1 line).1, hne with
    | f :: fs, _ =>
      rw [hfs] at hq
      have hq' : f.q = false := hq
      show Lib.join (f.s :: fs.map formF) [32] = Lib.join ((f :: fs).map formF) [32]
      rw [List.map_cons]
      congr 2
      unfold formF
      rw [if_neg (by rw [hq']; simp)]

end Go.Proofs.YtcobkjognpjikaaGreatDoor
