/- words: ParseList. -/
import Derived.Test.YtmjpkfjgknbfeaaGreatDoorSG
set_option linter.unusedSimpArgs false
set_option linter.unusedVariables false
namespace Go.Proofs.YtmjpkfjgknbfeaaGreatDoor

theorem decC_get {s : List UInt8} (h : decC s = true) : 0 < s.length ∧ s[0]? = some (s.headD 0) := by
  cases s with
  | nil => exact absurd h (by decide)
  | cons c l => exact ⟨by simp, rfl⟩
theorem isDecC_P (s : List UInt8) (hs : s.length ≤ 100000) : PC Tryz.prog 29 [.t s] (.b (decC s)) := by
  have h := isDecimal_P s hs
  rw [dec_both] at h
  exact h
theorem decFrom_dig : ∀ (l : List UInt8) (a : Nat), l.all digC = true → Lib.decFrom a l = some (val10 a l)
  | [], a, _ => rfl
  | c :: l, a, h => by
    rw [List.all_cons, Bool.and_eq_true] at h
    have h1 : 48 ≤ c.toNat ∧ c.toNat ≤ 57 := by have := h.1; unfold digC at this; simpa using this
    rw [Lib.decFrom, show Lib.digitVal c = some (c.toNat - 48) from if_pos h1]
    exact decFrom_dig l _ h.2
theorem atoi_dig {t : List UInt8} (h : decT t = true) : Lib.atoi t = some (val10 0 t : Nat) := by
  obtain ⟨c, l, rfl, h1, h2, _⟩ := decT_split h
  have h3 := dig_ne45 h1
  have e1 : (c == 45) = false := by rw [beq_eq_false_iff_ne]; intro e; subst e; exact h3.1 rfl
  have e2 : (c == 43) = false := by rw [beq_eq_false_iff_ne]; intro e; subst e; exact h3.2 rfl
  have e3 : Lib.decNat (c :: l) = some (val10 0 (c :: l)) := by
    unfold Lib.decNat
    rw [if_neg (by simp), decFrom_dig (c :: l) 0 (by rw [List.all_cons, h1, h2]; rfl)]
  simp [Lib.atoi, e1, e2, e3]
section
open Go.RowKit
theorem atoi_P (t : List UInt8) (h : decT t = true) (h18 : t.length ≤ 18) : PC Tryz.prog 32 [.t t] (.tup [.i (val10 0 t : Nat), .v .nilIface]) :=
  PC.of_calls (Entr.of Tryz.func32 rfl (by kernel_rfl)) (by simp [LV.lts, LV.lt]) fun cx w vs hl ham hv => by
    obtain ⟨v1, rfl, h1⟩ : ∃ v1, vs = [v1] ∧ V cx w (.t t) v1 := by
      simp only [Vs] at hv
      obtain ⟨v1, r1, rfl, h1, rfl⟩ := hv
      exact ⟨_, rfl, h1⟩
    rw [h1.val]
    refine (Tryz.strconv_Atoi ⟨t.toArray⟩ _ (by show t.toArray.size ≤ _; simpa using h18) (atoi_dig h) w).mono ?_
    rintro e w' ⟨rfl, tt, rfl⟩
    have hb : Below w.heap.size w (Lib.bytesWorld w 5 tt) := ⟨rfl, rfl, rfl, by rw [Lib.bytesWorld_size]; omega, fun k hk => Lib.bytesWorld_at_old w _ _ k hk⟩
    exact ⟨_, cx.pr, rfl, hb, fun _ _ => rfl, fun b hb' => Nat.lt_of_lt_of_le (hl b hb') hb.size, by simp only [V]; exact ⟨[_, _], rfl, Vs_cons V.mkval (Vs_cons V.mkval Vs_nil)⟩⟩
end
theorem runOf_facts {r a b : List UInt8} (h : runOf r = some (a, b)) : decT a = true ∧ decT b = true ∧ val10 0 a ≤ val10 0 b := by
  unfold runOf at h
  split at h
  · rename_i hh
    obtain ⟨h1, h2, h3⟩ := hh
    simp only [Option.some.injEq, Prod.mk.injEq] at h
    obtain ⟨rfl, rfl⟩ := h
    refine ⟨h1, h2, ?_⟩
    by_cases hc : cutIs r 45 = true
    · have := (cmp_val h1 h2).1.1 (h3 hc); omega
    · unfold endOf; rw [if_neg hc]; exact Nat.le_refl _
  · cases h
theorem lastP_cons (p q : TT) (ps : List TT) : lastP (p :: q :: ps) = lastP (q :: ps) := by unfold lastP; rw [List.getLast?_cons_cons]
theorem goP_facts : ∀ (rs : List (List UInt8)) (pv : Option (List UInt8)) (ps : List TT), goP pv rs = some ps → (∀ p ∈ ps, decT p.1 = true ∧ decT p.2 = true ∧ val10 0 p.1 ≤ val10 0 p.2 ∧ val10 0 p.2 ≤ val10 0 (lastP ps)) ∧ (∀ p r, ps = p :: r → okPrev pv p.1 = true)
  | [], pv, ps, h => by
    simp only [goP, Option.some.injEq] at h
    subst h
    exact ⟨by simp, by simp⟩
  | r :: rs, pv, ps, h => by
    rw [goP] at h
    cases hr : runOf r with
    | none => rw [hr] at h; cases h
    | some ab =>
      obtain ⟨a, b⟩ := ab
      rw [hr] at h
      dsimp only at h
      split at h
      · rename_i hok
        cases hg : goP (some b) rs with
        | none => rw [hg] at h; cases h
        | some qs =>
          rw [hg] at h
          simp only [Option.map_some, Option.some.injEq] at h
          subst h
          obtain ⟨i1, i2⟩ := goP_facts rs (some b) qs hg
          obtain ⟨f1, f2, f3⟩ := runOf_facts hr
          refine ⟨fun p hp => ?_, fun p r' he => by simp only [List.cons.injEq] at he; obtain ⟨rfl, _⟩ := he; exact hok⟩
          cases qs with
          | nil =>
            simp only [List.mem_singleton] at hp
            subst hp
            exact ⟨f1, f2, f3, Nat.le_refl _⟩
          | cons q qs =>
            rw [lastP_cons]
            rcases List.mem_cons.1 hp with rfl | hp
            · obtain ⟨k1, k2, k3, k4⟩ := i1 q (by simp)
              have ho : cmpT (nextT b) q.1 < 0 := by have := i2 q qs rfl; unfold okPrev at this; simpa using this
              obtain ⟨n1, n2⟩ := nextT_val f2
              have := (cmp_val n1 k1).1.1 ho
              exact ⟨f1, f2, f3, by dsimp only; omega⟩
            · exact i1 p hp
      · cases h
theorem decT_short {t : List UInt8} (h : decT t = true) (hv : val10 0 t ≤ 1000000000) : t.length ≤ 18 := by
  obtain ⟨c, l, rfl, h1, h2, h3⟩ := decT_split h
  rcases Nat.lt_or_ge 17 l.length with hl | hl
  · have := val10_ge (l := l) h1 (h3 (by intro e; subst e; simp at hl))
    have h4 : 10 ^ 18 ≤ 10 ^ l.length := Nat.pow_le_pow_right (by omega) hl
    have h5 : (10 : Nat) ^ 18 = 1000000000000000000 := by decide
    omega
  · simp; omega
theorem max_val : decT (Lib.itoa 1000000000) = true ∧ val10 0 (Lib.itoa 1000000000) = 1000000000 := by
  have e : Lib.itoa 1000000000 = Lib.decDigits 1000000000 := by unfold Lib.itoa; rw [if_neg (by decide)]; rfl
  rw [e]
  exact ⟨decT_digs _, (digs_facts _).2.1⟩
theorem ps_facts {rs : List (List UInt8)} {ps : List TT} (h : goP none rs = some ps) (hm : ¬ 0 < cmpT (lastP ps) (Lib.itoa 1000000000)) : ∀ p ∈ ps, decT p.1 = true ∧ decT p.2 = true ∧ p.1.length ≤ 18 ∧ p.2.length ≤ 18 ∧ val10 0 p.1 ≤ val10 0 p.2 ∧ val10 0 p.2 ≤ 1000000000 := fun p hp => by
  have hf := (goP_facts rs none ps h).1
  obtain ⟨h1, h2, h3, h4⟩ := hf p hp
  have hl : decT (lastP ps) = true := by
    unfold lastP
    cases hg : ps.getLast? with
    | none => rw [List.getLast?_eq_none_iff] at hg; subst hg; cases hp
    | some q => exact (hf q (List.mem_of_getLast? hg)).2.1
  have := mt (cmp_val hl max_val.1).2.2 hm
  rw [max_val.2] at this
  exact ⟨h1, h2, decT_short h1 (by omega), decT_short h2 (by omega), h3, by omega⟩

theorem plist_P (s : List UInt8) (hs : s.length ≤ 20000) : PC Tryz.prog 9 [.t s] (.tup [.sv (.sl 1 (ic .i64 (plistW s).1)), .i (plistW s).2]) := by
 refine ⟨LC.of_go Tryz.func9 (c := _) rfl (by kernel_rfl) (by rw [Tryz.ntmps9]; simp) rfl rfl (by simp [LO.lt, LV.lts, LV.lt]) (by simp) ?_⟩
 intro B hA hmd
 obtain ⟨g, e0⟩ : ∃ g, plistW s = g := ⟨_, rfl⟩
 have e1 := e0
 unfold plistW at e1
 rw [e0]
 refine .seq ?_
 refine .region rfl ?_
 refine R.assign (h := ?_)
 refine R.assign (h := ?_)
 refine .n0 ?_
 refine .seq ?_
 refine .seq ?_
 refine .region rfl ?_
 refine R.move (h := ?_)
 refine R.bin (run_eqlT _ _ _ _ _) (h := ?_)
 refine .n0 ?_
 refine LGo.ifd (ht := fun hc => ?_) (hf := fun hc => ?_)
 ·
  rw [if_pos hc] at e1; rw [← e1]
  refine .seq ?_
  refine .region rfl ?_
  refine R.assign (h := ?_)
  refine R.assign (h := ?_)
  refine .n0 ?_
  first | refine LGo.frzT 2 (h := ?_) | refine LGo.nilSl 2 1 (h := ?_) | skip
  exact LGo.ret (ret_TT Tryz.results9 hA hmd)
 ·
  rw [if_neg hc] at e1
  refine .skip ?_
  refine .seq ?_
  refine .region rfl ?_
  refine R.assign (h := ?_)
  refine .n0 ?_
  refine .seq ?_
  refine .region rfl ?_
  refine R.assign (h := ?_)
  refine .n0 ?_
  refine .seq ?_
  refine .seq ?_
  refine .region rfl ?_
  refine R.move (h := ?_)
  refine R.callP (es := [_, _]) (fun _ => splitC_P 44 s (by omega)) (h := ?_)
  have hrl := split_len 44 s
  have hmem := split_mem 44 s
  generalize Lib.split s [44] = rs at e1 hrl hmem ⊢
  first | refine R.len S61 (h := ?_) | refine R.lenRs S61 (h := ?_) | refine R.lenV (run_lenNil S61) (h := ?_)
  rw [strsC_length]
  refine R.move (h := ?_)
  refine .n0 ?_
  refine .block ?_
  refine .loop ?_
  refine LGo.nilRs 5 67 2 (h := ?_)
  refine LGo.loopG (σ := Nat × List UInt8 × List TT) (fun x => x.1 ≤ rs.length ∧ x.2.2.length = x.1 ∧ x.2.1 = lastP x.2.2 ∧ x.2.1.all digC = true ∧ x.2.1.length ≤ 20000 ∧ goP none rs = (goP (pvOf x.1 x.2.1) (rs.drop x.1)).map (x.2.2 ++ ·)) (fun x => [(24, (true, .i (x.1 : Nat))), (4, (true, .t x.2.1)), (5, (true, .ref 0))]) (fun x => [(0, .rs 67 2 (x.2.2.map pairC))]) (fun x => rs.length - x.1) (0, [], []) [(22, _), (23, _)] ⟨Nat.zero_le _, rfl, rfl, rfl, Nat.zero_le _, by show _ = (goP none rs).map _; cases goP none rs <;> rfl⟩ (by repeat (first | exact trivial | refine ⟨rfl, ?_⟩)) (by repeat (first | exact trivial | refine ⟨rfl, ?_⟩)) (by repeat (first | exact trivial | refine ⟨rfl, ?_⟩)) ?_
  rintro ⟨k, last, out⟩ ⟨hk, hol, hla, hld, hll, hq⟩ ih
  dsimp only at * 
  refine .seq ?_
  refine .region rfl ?_
  refine R.bin (run_lss _ _ _ _ _ _) (h := ?_)
  refine .n0 ?_
  refine .seq ?_
  refine LGo.ifd (ht := fun hc2 => ?_) (hf := fun hc2 => ?_)
  ·
   have hlt : k < rs.length := by omega
   have hx : (strsC rs)[((k : Nat) : Int).toNat]? = some [.val (.string ⟨rs[k].toArray⟩)] := by simp [strsC, hlt]
   rw [List.drop_eq_getElem_cons hlt] at hq
   have hrm := hmem rs[k] (List.getElem_mem hlt)
   generalize rs[k] = r at hx hq hrm
   obtain ⟨g1, g2⟩ := goP_step r (rs.drop (k + 1)) k last
   have hc1 := cut1_len r 45
   have hce := endOf_len r
   refine .skip ?_
   refine .seq ?_
   refine .block ?_
   refine .seq ?_
   refine .region rfl ?_
   refine R.move (h := ?_)
   refine R.index I61 (hj := fun hg => ⟨by omega, hx⟩) (h := ?_)
   first | refine R.loadB O9 (h := ?_) | refine R.load1 O9 (h := ?_)
   refine R.assign (h := ?_)
   refine R.assign (h := ?_)
   refine .n0 ?_
   refine .seq ?_
   refine .region rfl ?_
   refine R.move (h := ?_)
   refine R.callP (es := [_, _]) (fun _ => cut_P r 45 (by omega)) (h := ?_)
   refine R.move (h := ?_)
   refine R.extract (h := ?_)
   refine R.extract (h := ?_)
   refine R.extract (h := ?_)
   refine R.assign (h := ?_)
   refine R.assign (h := ?_)
   refine R.assign (h := ?_)
   refine .n0 ?_
   refine .seq ?_
   refine .seq ?_
   refine .region rfl ?_
   refine R.move (h := ?_)
   refine R.not (h := ?_)
   refine .n0 ?_
   refine LGo.cut (σ := List UInt8) (fun x => x = endOf r) (fun x => [(9, (true, .t x))]) (fun x => [(0, .rs 67 2 (out.map pairC))]) 1 [(4, _), (5, _), (6, _), (8, _), (10, _), (22, _), (23, _), (24, _)] (by repeat (first | exact trivial | refine ⟨rfl, ?_⟩)) ?_ (fun hcut => ?_)
   ·
    rintro x hx9
    subst hx9
    refine .seq ?_
    refine .seq ?_
    refine .region rfl ?_
    refine R.move (h := ?_)
    refine R.callP (es := [_]) (fun _ => isDecC_P (cut1 r 45) (by omega)) (h := ?_)
    refine R.not (h := ?_)
    refine R.move (h := ?_)
    refine R.move (h := ?_)
    refine R.callP (es := [_]) (fun _ => isDecC_P (endOf r) (by omega)) (h := ?_)
    refine R.not (h := ?_)
    refine R.or (h := ?_)
    refine R.move (h := ?_)
    refine R.move (h := ?_)
    refine R.indexT Tryz.runUnderlying9 (c := (endOf r).headD 0) (hj := fun hg => by simp at hg; obtain ⟨h1, h2⟩ := decC_get hg.2; exact ⟨by omega, by simpa using h2⟩) (h := ?_)
    refine R.bin (run_eql _ _ _ _ _ _) (h := ?_)
    refine R.or (h := ?_)
    refine R.move (h := ?_)
    refine R.move (h := ?_)
    refine R.move (h := ?_)
    refine R.move (h := ?_)
    refine R.move (h := ?_)
    refine R.callP (es := [_, _]) (fun _ => cmpT_P (cut1 r 45) (endOf r) (by omega) (by omega)) (h := ?_)
    refine R.bin (run_geq _ _ _ _ _ _) (h := ?_)
    refine R.and (h := ?_)
    refine R.or (h := ?_)
    refine R.move (h := ?_)
    refine R.move (h := ?_)
    refine R.bin (run_gtr _ _ _ _ _ _) (h := ?_)
    refine R.move (h := ?_)
    refine R.move (h := ?_)
    refine R.move (h := ?_)
    refine R.callP (es := [_, _]) (fun _ => follows_P last (cut1 r 45) hld (by omega) (by omega)) (h := ?_)
    refine R.not (h := ?_)
    refine R.and (h := ?_)
    refine R.or (h := ?_)
    refine .n0 ?_
    refine LGo.ifb (ht := fun hc4 => ?_) (hf := fun hc4 => ?_)
    ·
     rw [g1 hc4, Option.map_none] at hq
     rw [hq] at e1
     dsimp only at e1
     rw [← e1]
     refine .seq ?_
     refine .region rfl ?_
     refine R.assign (h := ?_)
     refine R.assign (h := ?_)
     refine .n0 ?_
     first | refine LGo.frzT 2 (h := ?_) | refine LGo.nilSl 2 1 (h := ?_) | skip
     exact LGo.ret (ret_TT Tryz.results9 hA hmd)
    ·
     obtain ⟨g3, g4, g5⟩ := g2 hc4
     rw [g5, Option.map_map] at hq
     refine .skip ?_
     refine .seq ?_
     refine .region rfl ?_
     refine R.move (h := ?_)
     refine R.assign (h := ?_)
     refine .n0 ?_
     refine .region rfl ?_
     refine R.move (h := ?_)
     refine R.move (h := ?_)
     refine R.move (h := ?_)
     refine R.buildX BX67 (is := [0, 1]) (xs := [_, _]) (es := [_, _]) (h := ?_)
     refine R.buildSliceG AP60 (xs := [_]) (es := [_]) (hcs := CellsOfs.cons (CellsOf.agg rfl) CellsOfs.nil) (h := ?_)
     refine R.appendS AP60 (hs := SrcOk.sl Tryz.underlying60 (by intro c hc; simp at hc; subst hc; rfl)) (hlen := by rw [List.length_map]; simp; omega) (h := ?_)
     refine R.assign (h := ?_)
     refine .n0 ?_
     refine .inBlock ?_
     refine .region rfl ?_
     first | refine R.add (h := ?_) | refine R.addW (h := ?_)
     refine R.move (h := ?_)
     refine .n0 ?_
     refine .inLoop ?_
     exact LGo.turn [1] (b := 0) (fun o h => by have := (hA o).1 h; omega) (ih (k + 1, endOf r, out ++ [(cut1 r 45, endOf r)]) ⟨by dsimp only; omega, by dsimp only; simp [hol], by simp [lastP], decT_all2 g4, by dsimp only; omega, by dsimp only; rw [hq, show pvOf (k + 1) (endOf r) = some (endOf r) from if_pos (by omega)]; congr 1; funext x; simp⟩ (by dsimp only; omega)) (by repeat (first | exact trivial | refine ⟨rfl, ?_⟩)) ⟨by rw [List.map_append]; rfl, trivial⟩
   ·
    refine LGo.ifb (ht := fun hc3 => ?_) (hf := fun hc3 => ?_)
    ·
     refine .region rfl ?_
     refine R.move (h := ?_)
     refine R.assign (h := ?_)
     refine .n0 ?_
     exact LGo.next _ (fun o h => by have := (hA o).1 h; omega) (by omega) (hcut (cut1 r 45) (by unfold endOf; rw [if_neg (by simpa using hc3)])) (by repeat (first | exact trivial | refine ⟨rfl, ?_⟩)) (by repeat (first | exact trivial | refine ⟨rfl, ?_⟩))
    ·
     refine .skip ?_
     exact LGo.next _ (fun o h => by have := (hA o).1 h; omega) (by omega) (hcut (cut2 r 45) (by unfold endOf; rw [if_pos (by simpa using hc3)])) (by repeat (first | exact trivial | refine ⟨rfl, ?_⟩)) (by repeat (first | exact trivial | refine ⟨rfl, ?_⟩))
  ·
   obtain rfl : k = rs.length := by omega
   have hq2 : goP none rs = some out := by rw [hq, List.drop_length]; simp [goP]
   rw [hq2] at e1
   dsimp only at e1
   refine LGo.frz 0 (h := ?_)
   refine .exit rfl ?_
   refine .seq ?_
   refine .seq ?_
   refine .region rfl ?_
   refine R.move (h := ?_)
   refine R.callP (es := [_]) (fun _ => itoa_P 1000000000 (by decide) (by decide)) (h := ?_)
   have hi := itoa_10 (n := 1000000000) (by decide) (by decide)
   refine R.callP (es := [_, _]) (fun _ => cmpT_P last (Lib.itoa 1000000000) (by omega) (by omega)) (h := ?_)
   refine R.bin (run_gtr _ _ _ _ _ _) (h := ?_)
   refine .n0 ?_
   refine LGo.ifd (ht := fun hc5 => ?_) (hf := fun hc5 => ?_)
   ·
    rw [← hla, if_pos hc5] at e1; rw [← e1]
    refine .seq ?_
    refine .region rfl ?_
    refine R.assign (h := ?_)
    refine R.assign (h := ?_)
    refine .n0 ?_
    first | refine LGo.frzT 2 (h := ?_) | refine LGo.nilSl 2 1 (h := ?_) | skip
    exact LGo.ret (ret_TT Tryz.results9 hA hmd)
   ·
    rw [← hla, if_neg hc5] at e1
    have hfact := ps_facts hq2 (by rw [← hla]; exact hc5)
    clear hq hmem hq2
    refine .skip ?_
    refine .seq ?_
    refine .region rfl ?_
    refine R.assign (h := ?_)
    refine .n0 ?_
    refine .seq ?_
    refine .seq ?_
    refine .region rfl ?_
    refine R.move (h := ?_)
    first | refine R.len S60 (h := ?_) | refine R.lenRs S60 (h := ?_) | refine R.lenV (run_lenNil S60) (h := ?_)
    rw [List.length_map]
    refine R.move (h := ?_)
    refine .n0 ?_
    refine .block ?_
    refine .loop ?_
    refine LGo.nilRs 11 3 1 (h := ?_)
    refine LGo.loopG (σ := Nat × List Int) (fun x => x.1 ≤ out.length ∧ x.2.length ≤ 500 ∧ expP out [] = expP (out.drop x.1) x.2) (fun x => [(84, (true, .i (x.1 : Nat))), (11, (true, .ref 1))]) (fun x => [(1, .rs 3 1 (ic .i64 x.2))]) (fun x => out.length - x.1) (0, []) [(82, _), (83, _)] ⟨Nat.zero_le _, Nat.zero_le _, rfl⟩ (by repeat (first | exact trivial | refine ⟨rfl, ?_⟩)) (by repeat (first | exact trivial | refine ⟨rfl, ?_⟩)) (by repeat (first | exact trivial | refine ⟨rfl, ?_⟩)) ?_
    rintro ⟨j, acc⟩ ⟨hj, hal, hq3⟩ ih2
    dsimp only at * 
    refine .seq ?_
    refine .region rfl ?_
    refine R.bin (run_lss _ _ _ _ _ _) (h := ?_)
    refine .n0 ?_
    refine .seq ?_
    refine LGo.ifd (ht := fun hc6 => ?_) (hf := fun hc6 => ?_)
    ·
     have hlt : j < out.length := by omega
     have hx : (out.map pairC)[((j : Nat) : Int).toNat]? = some (pairC out[j]) := by simp [hlt]
     rw [List.drop_eq_getElem_cons hlt, expP] at hq3
     obtain ⟨f1, f2, f3, f4, f5, f6⟩ := hfact out[j] (List.getElem_mem hlt)
     generalize out[j] = p at hx hq3 f1 f2 f3 f4 f5 f6
     obtain ⟨a, b⟩ := p
     dsimp only at hq3 f1 f2 f3 f4 f5 f6
     simp only [pairC] at hx
     refine .skip ?_
     refine .seq ?_
     refine .block ?_
     refine .seq ?_
     refine .region rfl ?_
     refine R.index I60 (hj := fun hg => ⟨by omega, hx⟩) (h := ?_)
     first | refine R.loadA A67 (h := ?_) | refine R.loadN A67 (h := ?_) | refine R.loadP A67 (h := ?_)
     refine R.alloc Z67 (h := ?_)
     refine R.storeA A67 (h := ?_)
     refine .n0 ?_
     refine .seq ?_
     refine .region rfl ?_
     refine R.indexArr I67 (hj := fun _ => ⟨by omega, by omega⟩) (h := ?_)
     first | refine R.loadB O9 (h := ?_) | refine R.load1 O9 (h := ?_)
     refine R.callP (es := [_]) (fun _ => atoi_P a f1 f3) (h := ?_)
     refine R.move (h := ?_)
     refine R.extract (h := ?_)
     refine R.extract (h := ?_)
     refine R.assign (h := ?_)
     refine R.assign (h := ?_)
     refine .n0 ?_
     refine .seq ?_
     refine .region rfl ?_
     refine R.indexArr I67 (hj := fun _ => ⟨by omega, by omega⟩) (h := ?_)
     first | refine R.loadB O9 (h := ?_) | refine R.load1 O9 (h := ?_)
     refine R.callP (es := [_]) (fun _ => atoi_P b f2 f4) (h := ?_)
     refine R.move (h := ?_)
     refine R.extract (h := ?_)
     refine R.extract (h := ?_)
     refine R.assign (h := ?_)
     refine R.assign (h := ?_)
     refine .n0 ?_
     refine .seq ?_
     refine .seq ?_
     refine .region rfl ?_
     refine R.move (h := ?_)
     refine R.move (h := ?_)
     first | refine R.sub (h := ?_) | refine R.subW (h := ?_)
     refine R.move (h := ?_)
     first | refine R.len S22 (h := ?_) | refine R.lenRs S22 (h := ?_) | refine R.lenV (run_lenNil S22) (h := ?_)
     rw [ic_len]
     first | refine R.sub (h := ?_) | refine R.subW (h := ?_)
     refine R.bin (run_geq _ _ _ _ _ _) (h := ?_)
     refine .n0 ?_
     refine LGo.ifd (ht := fun hc7 => ?_) (hf := fun hc7 => ?_)
     ·
      rw [if_pos (by omega)] at hq3
      rw [hq3] at e1
      dsimp only at e1
      rw [← e1]
      refine .seq ?_
      refine .region rfl ?_
      refine R.assign (h := ?_)
      refine R.assign (h := ?_)
      refine .n0 ?_
      first | refine LGo.frzT 2 (h := ?_) | refine LGo.nilSl 2 1 (h := ?_) | skip
      exact LGo.ret (ret_TT Tryz.results9 hA hmd)
     ·
      rw [if_neg (by omega)] at hq3
      refine .skip ?_
      refine .seq ?_
      refine .region rfl ?_
      refine R.move (h := ?_)
      refine R.assign (h := ?_)
      refine .n0 ?_
      refine .block ?_
      refine .loop ?_
      refine LGo.loopG (σ := Nat × List Int) (fun x => x.1 ≤ val10 0 b + 1 - val10 0 a ∧ x.2 = acc ++ (List.range x.1).map fun j => ((val10 0 a + j : Nat) : Int)) (fun x => [(18, (true, .i ((val10 0 a + x.1 : Nat) : Nat))), (11, (true, .ref 1))]) (fun x => [(1, .rs 3 1 (ic .i64 x.2))]) (fun x => val10 0 b + 1 - val10 0 a - x.1) (0, acc) [(16, _), (82, _), (83, _), (84, _)] ⟨Nat.zero_le _, by simp⟩ (by repeat (first | exact trivial | refine ⟨rfl, ?_⟩)) (by repeat (first | exact trivial | refine ⟨rfl, ?_⟩)) (by repeat (first | exact trivial | refine ⟨rfl, ?_⟩)) ?_
      rintro ⟨i, c⟩ ⟨hi2, hcc⟩ ih3
      dsimp only at * 
      refine .seq ?_
      refine .seq ?_
      refine .region rfl ?_
      refine R.move (h := ?_)
      refine R.move (h := ?_)
      refine R.bin (run_leq _ _ _ _ _ _) (h := ?_)
      refine .n0 ?_
      refine LGo.ifd (ht := fun hc8 => ?_) (hf := fun hc8 => ?_)
      ·
       have hcl : c.length = acc.length + i := by rw [hcc]; simp
       refine .skip ?_
       refine .seq ?_
       refine .block ?_
       refine .region rfl ?_
       refine R.move (h := ?_)
       refine R.move (h := ?_)
       refine R.buildSliceG AP22 (xs := [_]) (es := [_]) (hcs := CellsOfs.cons (CellsOf.one rfl) CellsOfs.nil) (h := ?_)
       refine R.appendS AP22 (hs := SrcOk.sl Tryz.underlying22 (by simp)) (hlen := by rw [ic_len]; simp; omega) (h := ?_)
       refine R.assign (h := ?_)
       refine .n0 ?_
       refine .inBlock ?_
       refine .region rfl ?_
       refine R.move (h := ?_)
       first | refine R.add (h := ?_) | refine R.addW (h := ?_)
       refine R.assign (h := ?_)
       refine .n0 ?_
       refine .inLoop ?_
       rw [show ((val10 0 a + i : Nat) : Int) + 1 = ((val10 0 a + (i + 1) : Nat) : Int) from by omega]
       exact LGo.turn [0, 3, 2] (b := 0) (fun o h => by have := (hA o).1 h; omega) (ih3 (i + 1, c ++ [((val10 0 a + i : Nat) : Int)]) ⟨by dsimp only; omega, by dsimp only; rw [hcc, List.range_succ, List.map_append, List.append_assoc]; rfl⟩ (by dsimp only; omega)) (by repeat (first | exact trivial | refine ⟨rfl, ?_⟩)) ⟨by rw [ic_snoc]; rfl, trivial⟩
      ·
       have hi3 : i = val10 0 b + 1 - val10 0 a := by omega
       rw [hi3] at hcc
       rw [← hcc] at hq3
       have hcl : c.length = acc.length + (val10 0 b + 1 - val10 0 a) := by rw [hcc]; simp
       refine .exit rfl ?_
       refine .inBlock ?_
       refine .region rfl ?_
       first | refine R.add (h := ?_) | refine R.addW (h := ?_)
       refine R.move (h := ?_)
       refine .n0 ?_
       refine .inLoop ?_
       exact LGo.next _ (fun o h => by have := (hA o).1 h; omega) (by omega) (ih2 (j + 1, c) ⟨by dsimp only; omega, by dsimp only; omega, hq3⟩ (by dsimp only; omega)) (by repeat (first | exact trivial | refine ⟨rfl, ?_⟩)) ⟨rfl, trivial⟩
    ·
     rw [List.drop_of_length_le (by omega), expP] at hq3
     rw [hq3] at e1
     dsimp only at e1
     rw [← e1]
     refine .exit rfl ?_
     refine .seq ?_
     refine .region rfl ?_
     refine R.move (h := ?_)
     refine R.assign (h := ?_)
     refine R.assign (h := ?_)
     refine .n0 ?_
     first | refine LGo.frzT 2 (h := ?_) | refine LGo.nilSl 2 1 (h := ?_) | skip
     exact LGo.ret (ret_TT Tryz.results9 hA hmd)

end Go.Proofs.YtmjpkfjgknbfeaaGreatDoor
