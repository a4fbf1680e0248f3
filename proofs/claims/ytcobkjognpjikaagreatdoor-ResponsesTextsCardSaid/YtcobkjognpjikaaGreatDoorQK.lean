/- words, the reference: Quote, and what is read as a quoted form. -/
import Derived.Test.YtcobkjognpjikaaGreatDoorQJ
set_option linter.unusedSimpArgs false
set_option linter.unusedVariables false
namespace Go.Proofs.YtcobkjognpjikaaGreatDoor

theorem unq_hit {r : List UInt8} {c : UInt8} (h : escaped c <+: r) (f : Nat) (acc : List UInt8) (i : Nat) : unqGo (f + 1) r acc i = unqGo f (r.drop (escaped c).length) (acc ++ [c]) (i + (escaped c).length) := by
  obtain ⟨rest, rfl⟩ := h
  rw [List.drop_left]
  by_cases hp : plainC c = true
  · have h1 : escaped c = [c] := by simp [escaped, hp]
    have h2 := plain_ne c hp
    simp only [h1, List.cons_append, List.nil_append, unqGo]
    rw [if_neg h2.1, if_neg h2.2, if_pos hp]; rfl
  · obtain ⟨u, h1, h2, h3⟩ := unesc_esc c (by simpa using hp) rest
    have hu : u.length ≠ 0 := by simpa using h3
    rw [h1]
    simp only [List.cons_append, unqGo]
    rw [if_neg (by decide), if_pos (by decide), h2, if_neg hu]
    simp only [List.drop_left, List.length_cons]
    rw [show i + 1 + u.length = i + (u.length + 1) from by omega]
theorem unq_miss {r : List UInt8} (h : ∀ c, ¬ escaped c <+: r) (h0 : r ≠ []) (h34 : (r.headD 0).toNat ≠ 34) (f : Nat) (acc : List UInt8) (i : Nat) : unqGo (f + 1) r acc i = ([], 0) := by
  match r, h0 with
  | a :: r, _ =>
    have ha : ¬ a.toNat = 34 := h34
    rw [unqGo, if_neg ha]
    by_cases h9 : a.toNat = 92
    · rw [if_pos h9]
      by_cases hu : (unesc r).2 = 0
      · rw [if_pos hu]
      · exfalso
        obtain ⟨rest, e1, e2, _⟩ := unesc_sound hu
        obtain rfl : a = 92 := UInt8.toNat.inj h9
        refine h (unesc r).1 ⟨rest, ?_⟩
        rw [e2]; simp only [List.cons_append]; rw [← e1]
    · rw [if_neg h9]
      by_cases hp : plainC a = true
      · exact absurd ⟨r, by simp [escaped, hp]⟩ (h a)
      · rw [if_neg hp]
theorem escaped_pos (c : UInt8) : 1 ≤ (escaped c).length ∧ (escaped c).length ≤ 4 := by unfold escaped; repeat' split <;> simp
theorem pre_slice {s l : List UInt8} {k : Nat} (hk : k ≤ s.length) : (decide ((l.length : Int) ≤ (s.length : Int) - (k : Int)) && decide ((s.take (k + l.length)).drop k = l)) = true ↔ l <+: s.drop k := by
  rw [Bool.and_eq_true, decide_eq_true_eq, decide_eq_true_eq, List.prefix_iff_eq_take, List.drop_take, Nat.add_sub_cancel_left]
  constructor
  · rintro ⟨_, h⟩; exact h.symm
  · intro h
    refine ⟨?_, h.symm⟩
    have := congrArg List.length h
    rw [List.length_take, List.length_drop] at this
    omega

theorem quoteR_P (s : List UInt8) (hs : s.length ≤ 100000) : PC Tryz.prog 26 [.t s] (.t (quote s)) := by
 refine ⟨LC.of_go Tryz.func26 (c := _) rfl (by kernel_rfl) (by rw [Tryz.ntmps26]; simp) rfl rfl (by simp [LO.lt, LV.lts, LV.lt]) (by simp) ?_⟩
 intro B hA hmd
 refine .seq ?_
 refine .region rfl ?_
 refine R.assign (h := ?_)
 refine .n0 ?_
 refine .seq ?_
 refine .region rfl ?_
 refine R.buildSliceR AP33 (xs := [_]) (es := [_]) (hcs := CellsOfs.cons (CellsOf.one rfl) CellsOfs.nil) (h := ?_)
 refine R.assign (h := ?_)
 refine .n0 ?_
 refine .seq ?_
 refine .seq ?_
 refine .region rfl ?_
 refine R.assign (h := ?_)
 refine .n0 ?_
 refine .block ?_
 refine .loop ?_
 refine LGo.loopG (σ := Nat) (fun x => x ≤ s.length) (fun x => [(4, (true, .i (x : Nat))), (3, (true, .ref 0))]) (fun x => [(0, .rs 5 1 (bytesC (34 :: (s.take x).flatMap escaped)))]) (fun x => s.length - x) (0) [(0, _)] (Nat.zero_le _) (by repeat (first | exact trivial | refine ⟨rfl, ?_⟩)) (by repeat (first | exact trivial | refine ⟨rfl, ?_⟩)) (by repeat (first | exact trivial | refine ⟨rfl, ?_⟩)) ?_
 rintro k hk ih
 refine .seq ?_
 refine .seq ?_
 refine .region rfl ?_
 refine R.move (h := ?_)
 refine R.move (h := ?_)
 refine R.lenT Tryz.runUnderlying9 (h := ?_)
 refine R.bin (run_lss _ _ _ _ _ _) (h := ?_)
 refine .n0 ?_
 refine LGo.ifd (ht := fun hc => ?_) (hf := fun hc => ?_)
 ·
  have hlt : k < s.length := by omega
  have hx : s[((k : Nat) : Int).toNat]? = some s[k] := by rw [Int.toNat_natCast]; exact List.getElem?_eq_getElem hlt
  have htf := take_flat hlt
  have hfl := flat_len4 (s.take k)
  rw [List.length_take] at hfl
  generalize s[k] = c at hx htf
  have hep := escaped_pos c
  refine .skip ?_
  refine .seq ?_
  refine .block ?_
  refine .region rfl ?_
  refine R.move (h := ?_)
  refine R.move (h := ?_)
  refine R.move (h := ?_)
  refine R.indexT Tryz.runUnderlying9 (hj := fun hg => ⟨by omega, hx⟩) (h := ?_)
  refine R.callP (es := [_]) (fun _ => escapedR_P c) (h := ?_)
  refine R.appendS AP33 (hs := SrcOk.strT Tryz.underlying9) (hlen := by simp only [bytesC_length, List.length_cons]; omega) (h := ?_)
  refine R.assign (h := ?_)
  refine .n0 ?_
  refine .inBlock ?_
  refine .region rfl ?_
  refine R.move (h := ?_)
  first | refine R.add (h := ?_) | refine R.addW (h := ?_)
  refine R.assign (h := ?_)
  refine .n0 ?_
  refine .inLoop ?_
  exact LGo.turn [1] (b := 0) (fun o h => by have := (hA o).1 h; omega) (ih (k + 1) (by omega) (by omega)) (by repeat (first | exact trivial | refine ⟨rfl, ?_⟩)) ⟨by rw [htf, ← List.cons_append, bytesC_app]; rfl, trivial⟩
 ·
  obtain rfl : k = s.length := by omega
  have hfl := flat_len4 s
  rw [List.take_length]
  refine .exit rfl ?_
  refine .seq ?_
  refine .region rfl ?_
  refine R.move (h := ?_)
  refine R.buildSliceF AP33 (bytesC [34]) (xs := [_]) (es := [_]) (hcs := CellsOfs.cons (CellsOf.one rfl) CellsOfs.nil) (h := ?_)
  refine R.appendF AP33 (hs := SrcOk.sl Tryz.underlying33 (bytesC_one _)) (hlen := by simp only [bytesC_length, List.length_cons, List.length_nil]; omega) (h := ?_)
  rw [← bytesC_app, show (34 :: s.flatMap escaped) ++ [34] = quote s from rfl]
  refine R.toString Tryz.underlying33 Tryz.underlying5 Tryz.underlying9 (h := ?_)
  refine R.assign (h := ?_)
  refine .n0 ?_
  exact LGo.ret (ret_T Tryz.results26 hA hmd)

theorem idxk {s : List UInt8} {k : Nat} (h : k < s.length) : s[k]? = some ((s.drop k).headD 0) := by
  rw [List.drop_eq_getElem_cons h, List.getElem?_eq_getElem h]; rfl

theorem quotedR_P (s : List UInt8) (hs : s.length ≤ 100000) : PC Tryz.prog 60 [.t s] (.tup [.t (unq s).1, .i (unq s).2]) := by
 refine ⟨LC.of_go Tryz.func60 (c := _) rfl (by kernel_rfl) (by rw [Tryz.ntmps60]; simp) rfl rfl (by simp [LO.lt, LV.lts, LV.lt]) (by simp) ?_⟩
 intro B hA hmd
 refine .seq ?_
 refine .region rfl ?_
 refine R.assign (h := ?_)
 refine R.assign (h := ?_)
 refine .n0 ?_
 refine .seq ?_
 refine .seq ?_
 refine .region rfl ?_
 refine R.move (h := ?_)
 refine R.lenT Tryz.runUnderlying9 (h := ?_)
 refine R.bin (run_eql _ _ _ _ _ _) (h := ?_)
 refine R.move (h := ?_)
 refine R.move (h := ?_)
 refine R.indexT Tryz.runUnderlying9 (c := s.headD 0) (hj := fun hg => ⟨by omega, by cases s with | nil => simp at hg | cons a r => rfl⟩) (h := ?_)
 refine R.bin (run_neq _ _ _ _ _ _) (h := ?_)
 refine R.or (h := ?_)
 refine .n0 ?_
 refine LGo.ifb (ht := fun hc => ?_) (hf := fun hc => ?_)
 ·
  rw [show unq s = ([], 0) from by
    cases s with
    | nil => rfl
    | cons a r => simp at hc; unfold unq; exact if_neg (by omega)]
  refine .seq ?_
  refine .region rfl ?_
  refine R.assign (h := ?_)
  refine R.assign (h := ?_)
  refine .n0 ?_
  exact LGo.ret (ret_TT Tryz.results60 hA hmd)
 ·
  obtain ⟨hpos, hu⟩ : 1 ≤ s.length ∧ unqGo s.length (s.drop 1) [] 1 = unq s := by
    cases s with
    | nil => simp at hc
    | cons a r => simp at hc; exact ⟨by simp, by unfold unq; simp [show a.toNat = 34 by omega]⟩
  refine .skip ?_
  refine .seq ?_
  refine .region rfl ?_
  refine R.assign (h := ?_)
  refine .n0 ?_
  refine .seq ?_
  refine .region rfl ?_
  refine R.assign (h := ?_)
  refine .n0 ?_
  refine .seq ?_
  refine .block ?_
  refine .loop ?_
  refine LGo.nilRs 4 5 1 (h := ?_)
  refine LGo.loopG (σ := Nat × List UInt8 × Nat) (fun x => 1 ≤ x.1 ∧ x.1 ≤ s.length ∧ s.length - x.1 < x.2.2 ∧ x.2.1.length ≤ x.1 ∧ unqGo x.2.2 (s.drop x.1) x.2.1 x.1 = unq s) (fun x => [(5, (true, .i (x.1 : Nat))), (4, (true, .ref 0))]) (fun x => [(0, .rs 5 1 (bytesC x.2.1))]) (fun x => s.length - x.1) (1, [], s.length) [(0, _)] ⟨Nat.le_refl _, hpos, by dsimp only; omega, Nat.zero_le _, hu⟩ (by repeat (first | exact trivial | refine ⟨rfl, ?_⟩)) (by repeat (first | exact trivial | refine ⟨rfl, ?_⟩)) (by repeat (first | exact trivial | refine ⟨rfl, ?_⟩)) ?_
  rintro ⟨k, acc, f⟩ ⟨hk1, hk, hf, hal, hq⟩ ih
  dsimp only at * 
  refine .seq ?_
  refine .seq ?_
  refine .region rfl ?_
  refine R.move (h := ?_)
  refine R.move (h := ?_)
  refine R.lenT Tryz.runUnderlying9 (h := ?_)
  refine R.bin (run_lss _ _ _ _ _ _) (h := ?_)
  refine R.move (h := ?_)
  refine R.move (h := ?_)
  refine R.move (h := ?_)
  refine R.indexT Tryz.runUnderlying9 (c := (s.drop k).headD 0) (hj := fun hg => ⟨by omega, by rw [Int.toNat_natCast]; exact idxk (by simp at hg; omega)⟩) (h := ?_)
  refine R.bin (run_neq _ _ _ _ _ _) (h := ?_)
  refine R.and (h := ?_)
  refine .n0 ?_
  refine LGo.ifb (ht := fun hc2 => ?_) (hf := fun hc2 => ?_)
  ·
   obtain ⟨hlt, h34⟩ : k < s.length ∧ ((s.drop k).headD 0).toNat ≠ 34 := by simp only [Bool.or_eq_true, Bool.and_eq_true, decide_eq_true_eq, Bool.or_eq_false_iff, Bool.and_eq_false_iff, decide_eq_false_iff_not, Bool.not_eq_true', Bool.not_eq_false', Bool.not_eq_true, Bool.not_eq_false, Bool.false_eq_true, Bool.true_eq_false, iff_true, true_iff, iff_false, false_iff] at hc2; omega
   obtain ⟨f, rfl⟩ : ∃ g, f = g + 1 := ⟨f - 1, by omega⟩
   refine .skip ?_
   refine .block ?_
   refine .seq ?_
   refine .region rfl ?_
   refine R.assign (h := ?_)
   refine .n0 ?_
   refine .seq ?_
   refine .seq ?_
   refine .region rfl ?_
   refine R.assign (h := ?_)
   refine .n0 ?_
   refine .block ?_
   refine .loop ?_
   refine LGo.loopG (σ := Nat × Bool × Nat × List UInt8) (fun x => x.1 ≤ 256 ∧ ((x.2.1 = false ∧ x.2.2.1 = k ∧ x.2.2.2 = acc ∧ ∀ m : Nat, m < x.1 → ¬ escaped (UInt8.ofNat m) <+: s.drop k) ∨ (x.2.1 = true ∧ ∃ c, escaped c <+: s.drop k ∧ x.2.2.1 = k + (escaped c).length ∧ x.2.2.2 = acc ++ [c]))) (fun x => [(7, (true, .i (x.1 : Nat))), (6, (true, .b x.2.1)), (5, (true, .i (x.2.2.1 : Nat))), (4, (true, .ref 0))]) (fun x => [(0, .rs 5 1 (bytesC x.2.2.2))]) (fun x => 256 - x.1) (0, false, k, acc) [(0, _), (22, _), (23, _), (24, _), (25, _)] ⟨by omega, .inl ⟨rfl, rfl, rfl, fun m hm => absurd hm (by omega)⟩⟩ (by repeat (first | exact trivial | refine ⟨rfl, ?_⟩)) (by repeat (first | exact trivial | refine ⟨rfl, ?_⟩)) (by repeat (first | exact trivial | refine ⟨rfl, ?_⟩)) ?_
   rintro ⟨n, hit, k2, out⟩ ⟨hn, hQ⟩ ih2
   dsimp only at * 
   refine .seq ?_
   refine .seq ?_
   refine .region rfl ?_
   refine R.move (h := ?_)
   refine R.bin (run_lss _ _ _ _ _ _) (h := ?_)
   generalize hb256 : decide ((n : Int) < 256) = b256
   refine R.move (h := ?_)
   refine R.move (h := ?_)
   refine R.not (h := ?_)
   refine R.and (h := ?_)
   refine .n0 ?_
   refine LGo.ifb (ht := fun hc3 => ?_) (hf := fun hc3 => ?_)
   ·
    obtain ⟨hn2, hh⟩ : n < 256 ∧ hit = false := by rw [← hb256] at hc3; simp only [Bool.or_eq_true, Bool.and_eq_true, decide_eq_true_eq, Bool.or_eq_false_iff, Bool.and_eq_false_iff, decide_eq_false_iff_not, Bool.not_eq_true', Bool.not_eq_false', Bool.not_eq_true, Bool.not_eq_false, Bool.false_eq_true, Bool.true_eq_false, iff_true, true_iff, iff_false, false_iff] at hc3; exact ⟨by omega, hc3.2⟩
    subst hh
    obtain ⟨rfl, rfl, hmiss⟩ : k2 = k ∧ out = acc ∧ ∀ m : Nat, m < n → ¬ escaped (UInt8.ofNat m) <+: s.drop k := by
      rcases hQ with ⟨_, h2, h3, h4⟩ | ⟨h1, _⟩
      · exact ⟨h2, h3, h4⟩
      · cases h1
    have hep := escaped_pos (UInt8.ofNat n)
    refine .skip ?_
    refine .seq ?_
    refine .block ?_
    refine .seq ?_
    refine .region rfl ?_
    refine R.move (h := ?_)
    refine R.convW Tryz.runUnderlying3 Tryz.runUnderlying5 (h := ?_)
    rw [show IntKind.u8.wrap (n : Int) = ((UInt8.ofNat n).toNat : Int) from by rw [UInt8.toNat_ofNat', IntKind.wrap_u8]; omega]
    refine R.callP (es := [_]) (fun _ => escapedR_P (UInt8.ofNat n)) (h := ?_)
    refine R.assign (h := ?_)
    refine .n0 ?_
    refine .seq ?_
    refine .region rfl ?_
    refine R.move (h := ?_)
    refine R.lenT Tryz.runUnderlying9 (h := ?_)
    refine R.move (h := ?_)
    refine R.lenT Tryz.runUnderlying9 (h := ?_)
    refine R.move (h := ?_)
    first | refine R.sub (h := ?_) | refine R.subW (h := ?_)
    refine R.bin (run_leq _ _ _ _ _ _) (h := ?_)
    refine R.move (h := ?_)
    refine R.move (h := ?_)
    refine R.move (h := ?_)
    refine R.move (h := ?_)
    refine R.move (h := ?_)
    refine R.lenT Tryz.runUnderlying9 (h := ?_)
    first | refine R.add (h := ?_) | refine R.addW (h := ?_)
    refine R.sliceTLoHi Tryz.runUnderlying9 (ha := fun hg => by simp at hg; omega) (h := ?_)
    rw [show Int.toNat (((k2 : Nat) : Int) + ((escaped (UInt8.ofNat n)).length : Nat)) = k2 + (escaped (UInt8.ofNat n)).length from by omega, Int.toNat_natCast]
    refine R.move (h := ?_)
    refine R.bin (run_eqlT _ _ _ _ _) (h := ?_)
    refine R.and (h := ?_)
    refine .n0 ?_
    refine LGo.ifb (ht := fun hc4 => ?_) (hf := fun hc4 => ?_)
    ·
     have hpre := (pre_slice hk).1 hc4
     have hpl := hpre.length_le
     rw [List.length_drop] at hpl
     refine .seq ?_
     refine .region rfl ?_
     refine R.move (h := ?_)
     refine R.move (h := ?_)
     refine R.convW Tryz.runUnderlying3 Tryz.runUnderlying5 (h := ?_)
     rw [show IntKind.u8.wrap (n : Int) = ((UInt8.ofNat n).toNat : Int) from by rw [UInt8.toNat_ofNat', IntKind.wrap_u8]; omega]
     refine R.buildSliceF AP33 (bytesC [UInt8.ofNat n]) (xs := [_]) (es := [_]) (hcs := CellsOfs.cons (CellsOf.one rfl) CellsOfs.nil) (h := ?_)
     refine R.appendS AP33 (hs := SrcOk.sl Tryz.underlying33 (bytesC_one _)) (hlen := by simp only [bytesC_length, List.length_cons, List.length_nil]; omega) (h := ?_)
     rw [← bytesC_app]
     refine R.assign (h := ?_)
     refine .n0 ?_
     refine .seq ?_
     refine .region rfl ?_
     refine R.move (h := ?_)
     refine R.move (h := ?_)
     refine R.lenT Tryz.runUnderlying9 (h := ?_)
     first | refine R.add (h := ?_) | refine R.addW (h := ?_)
     refine R.assign (h := ?_)
     refine .n0 ?_
     refine .region rfl ?_
     refine R.assign (h := ?_)
     refine .n0 ?_
     refine .inBlock ?_
     refine .region rfl ?_
     refine R.move (h := ?_)
     first | refine R.add (h := ?_) | refine R.addW (h := ?_)
     refine R.assign (h := ?_)
     refine .n0 ?_
     refine .inLoop ?_
     exact LGo.turn [1] (b := 0) (fun o h => by have := (hA o).1 h; omega) (ih2 (n + 1, true, k2 + (escaped (UInt8.ofNat n)).length, out ++ [UInt8.ofNat n]) ⟨by dsimp only; omega, .inr ⟨rfl, _, hpre, rfl, rfl⟩⟩ (by dsimp only; omega)) (by repeat (first | exact trivial | refine ⟨rfl, ?_⟩)) ⟨rfl, trivial⟩
    ·
     have hpre : ¬ escaped (UInt8.ofNat n) <+: s.drop k2 := fun h => by rw [(pre_slice hk).2 h] at hc4; cases hc4
     refine .skip ?_
     refine .inBlock ?_
     refine .region rfl ?_
     refine R.move (h := ?_)
     first | refine R.add (h := ?_) | refine R.addW (h := ?_)
     refine R.assign (h := ?_)
     refine .n0 ?_
     refine .inLoop ?_
     exact LGo.next _ (fun o h => by have := (hA o).1 h; omega) (by omega) (ih2 (n + 1, false, k2, out) ⟨by dsimp only; omega, .inl ⟨rfl, rfl, rfl, fun m hm => (Nat.lt_succ_iff_lt_or_eq.1 hm).elim (hmiss m) (fun e => by rw [e]; exact hpre)⟩⟩ (by dsimp only; omega)) (by repeat (first | exact trivial | refine ⟨rfl, ?_⟩)) (by repeat (first | exact trivial | refine ⟨rfl, ?_⟩))
   ·
    have hstop : 256 ≤ n ∨ hit = true := by rw [← hb256] at hc3; simp only [Bool.or_eq_true, Bool.and_eq_true, decide_eq_true_eq, Bool.or_eq_false_iff, Bool.and_eq_false_iff, decide_eq_false_iff_not, Bool.not_eq_true', Bool.not_eq_false', Bool.not_eq_true, Bool.not_eq_false, Bool.false_eq_true, Bool.true_eq_false, iff_true, true_iff, iff_false, false_iff] at hc3; rcases hc3 with h | h; exact .inl (by omega); exact .inr h
    refine .exit rfl ?_
    refine .seq ?_
    refine .region rfl ?_
    refine R.move (h := ?_)
    refine R.not (h := ?_)
    refine .n0 ?_
    refine LGo.ifb (ht := fun hc5 => ?_) (hf := fun hc5 => ?_)
    ·
     have hh : hit = false := by simpa using hc5
     have hu : unq s = ([], 0) := by
       rcases hQ with ⟨_, _, _, hm⟩ | ⟨h1, _⟩
       · have h256 : 256 ≤ n := by rcases hstop with h | h; exact h; rw [hh] at h; cases h
         rw [← hq]
         refine unq_miss (fun c hp => ?_) (by intro h; have := congrArg List.length h; rw [List.length_drop] at this; simp at this; omega) h34 f acc k
         have hc := c.toNat_lt
         exact hm c.toNat (by omega) (by rw [UInt8.ofNat_toNat]; exact hp)
       · rw [hh] at h1; cases h1
     rw [hu]
     refine LGo.frz 0 (h := ?_)
     refine .seq ?_
     refine .region rfl ?_
     refine R.assign (h := ?_)
     refine R.assign (h := ?_)
     refine .n0 ?_
     exact LGo.ret (ret_TT Tryz.results60 hA hmd)
    ·
     have hh : hit = true := by simpa using hc5
     obtain ⟨c, hpre, hk2, ho⟩ : ∃ c, escaped c <+: s.drop k ∧ k2 = k + (escaped c).length ∧ out = acc ++ [c] := by
       rcases hQ with ⟨h1, _⟩ | ⟨_, h⟩
       · rw [hh] at h1; cases h1
       · exact h
     have hpl := hpre.length_le
     rw [List.length_drop] at hpl
     have hep := escaped_pos c
     rw [unq_hit hpre, List.drop_drop, ← hk2, ← ho] at hq
     have hol : out.length = acc.length + 1 := by rw [ho, List.length_append]; rfl
     have g1 : 1 ≤ k2 ∧ k2 ≤ s.length ∧ s.length - k2 < f ∧ out.length ≤ k2 ∧ s.length - k2 < s.length - k := by clear hQ hpre ho; omega
     clear ho hpre hk2 hpl hep hQ
     refine .skip ?_
     refine .inBlock ?_
     refine .inLoop ?_
     exact LGo.next _ (fun o h => by have := (hA o).1 h; omega) (by omega) (ih (k2, out, f) ⟨g1.1, g1.2.1, g1.2.2.1, g1.2.2.2.1, hq⟩ g1.2.2.2.2) (by repeat (first | exact trivial | refine ⟨rfl, ?_⟩)) (by repeat (first | exact trivial | refine ⟨rfl, ?_⟩))
  ·
   have hend : k = s.length ∨ ((s.drop k).headD 0).toNat = 34 := by simp only [Bool.or_eq_true, Bool.and_eq_true, decide_eq_true_eq, Bool.or_eq_false_iff, Bool.and_eq_false_iff, decide_eq_false_iff_not, Bool.not_eq_true', Bool.not_eq_false', Bool.not_eq_true, Bool.not_eq_false, Bool.false_eq_true, Bool.true_eq_false, iff_true, true_iff, iff_false, false_iff] at hc2; omega
   refine .exit rfl ?_
   refine .seq ?_
   refine .seq ?_
   refine .region rfl ?_
   refine R.move (h := ?_)
   refine R.move (h := ?_)
   refine R.lenT Tryz.runUnderlying9 (h := ?_)
   refine R.bin (run_eql _ _ _ _ _ _) (h := ?_)
   refine .n0 ?_
   refine LGo.ifd (ht := fun hc6 => ?_) (hf := fun hc6 => ?_)
   ·
    have hu : unq s = ([], 0) := by rw [← hq, List.drop_eq_nil_of_le (by omega)]; cases f <;> rfl
    rw [hu]
    refine LGo.frz 0 (h := ?_)
    refine .seq ?_
    refine .region rfl ?_
    refine R.assign (h := ?_)
    refine R.assign (h := ?_)
    refine .n0 ?_
    exact LGo.ret (ret_TT Tryz.results60 hA hmd)
   ·
    have hu : unq s = (acc, k + 1) := by
      rw [← hq]
      obtain ⟨f, rfl⟩ : ∃ g, f = g + 1 := ⟨f - 1, by omega⟩
      have hd : s.drop k = s[k] :: s.drop (k + 1) := List.drop_eq_getElem_cons (by omega)
      have h34 : ((s.drop k).headD 0).toNat = 34 := by rcases hend with h | h; exact absurd h (by omega); exact h
      rw [hd] at h34 ⊢
      rw [unqGo, if_pos (show s[k].toNat = 34 from h34)]
    rw [hu]
    refine LGo.frz 0 (h := ?_)
    refine .skip ?_
    refine .seq ?_
    refine .region rfl ?_
    refine R.move (h := ?_)
    refine R.toString Tryz.underlying33 Tryz.underlying5 Tryz.underlying9 (h := ?_)
    refine R.move (h := ?_)
    first | refine R.add (h := ?_) | refine R.addW (h := ?_)
    refine R.assign (h := ?_)
    refine R.assign (h := ?_)
    refine .n0 ?_
    exact LGo.ret (ret_TT Tryz.results60 hA hmd)

end Go.Proofs.YtcobkjognpjikaaGreatDoor
