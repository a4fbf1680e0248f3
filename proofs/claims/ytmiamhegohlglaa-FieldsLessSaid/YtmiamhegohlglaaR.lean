/- The reference's Encode; the two Checks are one. -/
import Derived.Test.YtmiamhegohlglaaQ
set_option linter.unusedSimpArgs false
set_option linter.unusedVariables false
namespace Go.Proofs.Ytmiamhegohlglaa

theorem checkGo_refGo : ∀ (rs : List Rule) (k : Nat) (prev : Rule) (last : Int), (k = 0 → last = 0) → (0 < k → last = prev.tag ∧ 1 ≤ prev.tag) → refGo k prev rs = checkGo last rs
  | [], _, _, _, _, _ => rfl
  | r :: rs, k, prev, last, h0, h1 => by
    have ih := checkGo_refGo rs (k + 1) r r.tag (by omega)
    have hk : k = 0 ∨ 0 < k := by omega
    by_cases hb : badR k prev r = true
    · have e1 : refGo k prev (r :: rs) = 2 := by simp only [refGo]; exact if_pos hb
      rw [e1]
      simp only [badR, Bool.or_eq_true, Bool.and_eq_true, decide_eq_true_eq, Bool.not_eq_true', decide_eq_false_iff_not] at hb
      simp only [checkGo, Bool.or_eq_true, decide_eq_true_eq, Bool.not_eq_true', decide_eq_false_iff_not]
      by_cases c1 : (r.tag ≤ last ∨ 63 < r.tag) ∨ r.high < r.low
      · rw [if_pos c1]
      · rw [if_neg c1]
        have hl : k = 0 ∧ last = 0 ∨ 0 < k ∧ last = prev.tag ∧ 1 ≤ prev.tag := by rcases hk with h | h; exact .inl ⟨h, h0 h⟩; exact .inr ⟨h, h1 h⟩
        by_cases c2 : r.kind = 1
        · exfalso; omega
        · rw [if_neg c2, if_pos (by omega)]
    · have e1 : refGo k prev (r :: rs) = refGo (k + 1) r rs := by simp only [refGo]; exact if_neg hb
      rw [e1]
      simp only [badR, Bool.or_eq_true, Bool.and_eq_true, decide_eq_true_eq, Bool.not_eq_true', decide_eq_false_iff_not] at hb
      simp only [checkGo, Bool.or_eq_true, decide_eq_true_eq, Bool.not_eq_true', decide_eq_false_iff_not]
      have hl : k = 0 ∧ last = 0 ∨ 0 < k ∧ last = prev.tag ∧ 1 ≤ prev.tag := by rcases hk with h | h; exact .inl ⟨h, h0 h⟩; exact .inr ⟨h, h1 h⟩
      rw [if_neg (by omega), ih (fun _ => ⟨rfl, by omega⟩)]
      by_cases c2 : r.kind = 1
      · rw [if_pos c2]
      · rw [if_neg c2, if_neg (by omega)]
theorem refCheck_eq (rs : List Rule) : refCheck rs = check rs := by
  unfold refCheck check
  split
  · rfl
  · exact checkGo_refGo rs 0 default 0 (fun _ => rfl) (fun h => absurd h (by omega))
theorem idx_neg (t : Int) (rs : List Rule) : decide (idx (fun x => decide (Rule.tag x = t)) 0 rs < 0) = !ruleHas t rs := by
  rcases idx_spec (fun x => decide (Rule.tag x = t)) rs 0 with ⟨h1, h2⟩ | ⟨j, hj, h1, h2⟩
  · simp [ruleHas, h1, h2]
  · simp only [ruleHas, h1, h2, Option.isSome_some, Bool.not_true, decide_eq_false_iff_not]; omega
theorem idx_at {t : Int} {rs : List Rule} (h : ruleHas t rs = true) : ∃ j : Nat, ∃ hj : j < rs.length, idx (fun x => decide (Rule.tag x = t)) 0 rs = j ∧ rs[j] = ruleAt t rs := by
  rcases idx_spec (fun x => decide (Rule.tag x = t)) rs 0 with ⟨h1, h2⟩ | ⟨j, hj, h1, h2⟩
  · simp [ruleHas, h2] at h
  · exact ⟨j, hj, by rw [h1]; omega, by simp [ruleAt, h2]⟩
def prevF (xs : List Fld) (k : Nat) : Fld := if k = 0 then default else xs.getD (k - 1) default
def encR (rs : List Rule) : Nat → Int → List Fld → Int × List Int
  | _, _, [] => (0, [])
  | k, prev, x :: xs => if (!ruleHas x.tag rs || (decide (0 < (k : Int)) && decide (x.tag ≤ prev))) = true then (2, []) else if one (ruleAt x.tag rs) x = 0 then ((encR rs (k + 1) x.tag xs).1, outB (ruleAt x.tag rs) x ++ (encR rs (k + 1) x.tag xs).2) else (one (ruleAt x.tag rs) x, [])
def encodeR (rs : List Rule) (fs : List Fld) : List Int × Int :=
  if refCheck rs = 0 then (if (16 : Int) < fs.length then ([], 3) else if (encR rs 0 0 fs).1 = 0 then (if missing rs rs.length fs = true then ([], 4) else ((encR rs 0 0 fs).2, 0)) else ([], (encR rs 0 0 fs).1)) else ([], refCheck rs)

theorem encodeR_P (rs : List Rule) (fs : List Fld) (hrs : rs.length ≤ 100) (hfs : fs.length ≤ 100) (hok : ∀ x ∈ fs, FldOk x) : PC Try.prog 20 [.sv (.sl 5 (rs.map Rule.c)), .sv (.sl 3 (fs.map Fld.c))] (.tup [.sv (.sl 1 (ic .u8 (encodeR rs fs).1)), .i (encodeR rs fs).2]) := by
  refine ⟨LC.of_go Try.func20 (c := _) rfl (by kernel_rfl) (by rw [Try.ntmps20]; simp) rfl rfl (by simp [LO.lt, LV.lts, LV.lt]) (by simp) ?_⟩
  intro B hA hmd
  obtain ⟨g, e0⟩ : ∃ g, encodeR rs fs = g := ⟨_, rfl⟩
  have e1 := e0
  unfold encodeR at e1
  rw [e0]
  refine LGo.seq ?_
  refine LGo.region rfl ?_  -- region 0
  refine R.assign (h := ?_)
  refine R.assign (h := ?_)
  refine Reg.nil ⟨fun h => (by cases h), ?_⟩
  refine LGo.seq ?_
  refine LGo.region rfl ?_  -- region 1
  refine R.move (h := ?_)
  refine R.callP (es := [_]) (fun _ => refCheck_P _) (h := ?_)
  refine R.assign (h := ?_)
  refine Reg.nil ⟨fun h => (by cases h), ?_⟩
  refine LGo.seq ?_
  refine LGo.seq ?_
  refine LGo.region rfl ?_  -- region 2
  refine R.move (h := ?_)
  refine R.bin (run_neq _ _ _ _ _ _) (h := ?_)
  refine Reg.nil ⟨fun h => (by cases h), ?_⟩
  refine LGo.ifb (ht := fun hc => ?_) (hf := fun hc => ?_)
  · -- then 1
    rw [if_neg (by simpa using hc)] at e1; rw [← e1]
    refine LGo.seq ?_
    refine LGo.region rfl ?_  -- region 3
    refine R.move (h := ?_)
    refine R.assign (h := ?_)
    refine R.assign (h := ?_)
    refine Reg.nil ⟨fun h => (by cases h), ?_⟩
    first | refine LGo.frzT 4 (h := ?_) | refine LGo.nilSl 4 1 (h := ?_) | skip
    exact LGo.ret (ret_TT Try.results20 hA hmd)
  · -- else 1
    rw [if_pos (by simpa using hc)] at e1
    have hck := (check_ok (rs := rs) (by rw [← refCheck_eq]; simpa using hc)).2
    refine LGo.skip ?_
    refine LGo.seq ?_
    refine LGo.seq ?_
    refine LGo.region rfl ?_  -- region 4
    refine R.move (h := ?_)
    first | refine R.len S26 (h := ?_) | refine R.lenRs S26 (h := ?_) | refine R.lenV (run_lenNil S26) (h := ?_)
    rw [List.length_map]
    refine R.bin (run_gtr _ _ _ _ _ _) (h := ?_)
    refine Reg.nil ⟨fun h => (by cases h), ?_⟩
    first | refine LGo.ifd (ht := fun hc2 => ?_) (hf := fun hc2 => ?_) | refine LGo.ifb (ht := fun hc2 => ?_) (hf := fun hc2 => ?_)
    · -- then 2
      rw [if_pos hc2] at e1; rw [← e1]
      refine LGo.seq ?_
      refine LGo.region rfl ?_  -- region 5
      refine R.assign (h := ?_)
      refine R.assign (h := ?_)
      refine Reg.nil ⟨fun h => (by cases h), ?_⟩
      first | refine LGo.frzT 4 (h := ?_) | refine LGo.nilSl 4 1 (h := ?_) | skip
      exact LGo.ret (ret_TT Try.results20 hA hmd)
    · -- else 2
      rw [if_neg hc2] at e1
      refine LGo.skip ?_
      refine LGo.seq ?_
      refine LGo.region rfl ?_  -- region 6
      refine R.assign (h := ?_)
      refine Reg.nil ⟨fun h => (by cases h), ?_⟩
      refine LGo.seq ?_
      refine LGo.seq ?_
      refine LGo.region rfl ?_  -- region 7
      refine R.assign (h := ?_)
      refine Reg.nil ⟨fun h => (by cases h), ?_⟩
      refine LGo.block ?_
      refine LGo.loop ?_
      refine LGo.nilRs 7 5 1 (h := ?_)
      refine LGo.loopG (σ := Nat × List Int) (fun x => x.1 ≤ fs.length ∧ x.2.length ≤ 1100 * x.1 ∧ encR rs 0 0 fs = ((encR rs x.1 (prevF fs x.1).tag (fs.drop x.1)).1, x.2 ++ (encR rs x.1 (prevF fs x.1).tag (fs.drop x.1)).2)) (fun x => [(8, (true, .i (x.1 : Nat))), (7, (true, .ref 0))]) (fun x => [(0, .rs 5 1 (ic .u8 x.2))]) (fun x => fs.length - x.1) ((0, [])) [(0, _), (1, _)] ⟨by simp, by simp, by simp [prevF]; rfl⟩ (by repeat (first | exact trivial | refine ⟨rfl, ?_⟩)) (by repeat (first | exact trivial | refine ⟨rfl, ?_⟩)) (by repeat (first | exact trivial | refine ⟨rfl, ?_⟩)) ?_
      rintro ⟨k, acc⟩ ⟨hk, hal, hq⟩ ih
      dsimp only at * 
      refine LGo.seq ?_
      refine LGo.seq ?_
      refine LGo.region rfl ?_  -- region 8
      refine R.move (h := ?_)
      refine R.move (h := ?_)
      first | refine R.len S26 (h := ?_) | refine R.lenRs S26 (h := ?_) | refine R.lenV (run_lenNil S26) (h := ?_)
      rw [List.length_map]
      refine R.bin (run_lss _ _ _ _ _ _) (h := ?_)
      refine Reg.nil ⟨fun h => (by cases h), ?_⟩
      refine LGo.ifd (ht := fun hc3 => ?_) (hf := fun hc3 => ?_)
      · -- then 3
        have hlt : k < fs.length := by omega
        have hx : (fs.map Fld.c)[((k : Nat) : Int).toNat]? = some (fs[k].c) := by simp [hlt]
        have hd : fs.drop k = fs[k] :: fs.drop (k + 1) := List.drop_eq_getElem_cons hlt
        have hp1 : prevF fs (k + 1) = fs[k] := by simp [prevF, hlt]
        have hpv : 0 < k → (fs.map Fld.c)[((k : Int) - 1).toNat]? = some ((prevF fs k).c) := fun h => by
          have h1 : ((k : Int) - 1).toNat = k - 1 := by omega
          have h2 : k - 1 < fs.length := by omega
          rw [h1]; simp [prevF, show k ≠ 0 by omega, h2]
        rw [hd] at hq
        have hxo := hok fs[k] (List.getElem_mem hlt)
        generalize fs[k] = x at hx hq hp1 hxo
        generalize prevF fs k = pv at hpv hq
        clear hd
        refine LGo.skip ?_
        refine LGo.seq ?_
        refine LGo.block ?_
        refine LGo.seq ?_
        refine LGo.region rfl ?_  -- region 10
        refine R.move (h := ?_)
        refine R.move (h := ?_)
        refine R.move (h := ?_)
        refine R.index I26 (hj := fun hg => ⟨by omega, hx⟩) (h := ?_)
        first | refine R.field F34_0 (h := ?_) | refine R.fieldAt F34_0 (h := ?_)
        first | refine R.loadB O3 (h := ?_) | refine R.load1 O3 (h := ?_)
        refine R.callP (es := [_, _]) (fun _ => refRule_P _ _ (by assumption)) (h := ?_)
        refine R.assign (h := ?_)
        refine Reg.nil ⟨fun h => (by cases h), ?_⟩
        refine LGo.seq ?_
        refine LGo.seq ?_
        refine LGo.region rfl ?_  -- region 11 DRAWS
        refine R.move (h := ?_)
        refine R.bin (run_lss _ _ _ _ _ _) (h := ?_)
        rw [idx_neg]
        refine R.move (h := ?_)
        refine R.move (h := ?_)
        refine R.bin (run_gtr _ _ _ _ _ _) (h := ?_)
        refine R.move (h := ?_)
        refine R.move (h := ?_)
        refine R.move (h := ?_)
        first | refine R.sub (h := ?_) | refine R.subW (h := ?_)
        refine R.index I26 (hj := fun hg => ⟨by (simp at hg; omega), hpv (by simp at hg; omega)⟩) (h := ?_)
        first | refine R.field F34_0 (h := ?_) | refine R.fieldAt F34_0 (h := ?_)
        first | refine R.loadB O3 (h := ?_) | refine R.load1 O3 (h := ?_)
        refine R.move (h := ?_)
        refine R.move (h := ?_)
        refine R.index I26 (hj := fun hg => ⟨by (simp at hg; omega), hx⟩) (h := ?_)
        first | refine R.field F34_0 (h := ?_) | refine R.fieldAt F34_0 (h := ?_)
        first | refine R.loadB O3 (h := ?_) | refine R.load1 O3 (h := ?_)
        refine R.bin (run_geq _ _ _ _ _ _) (h := ?_)
        refine R.and (h := ?_)
        refine R.or (h := ?_)
        refine Reg.nil ⟨fun _ => ⟨mixedO, by rfl, by rfl⟩, ?_⟩
        first | refine LGo.ifd (ht := fun hc4 => ?_) (hf := fun hc4 => ?_) | refine LGo.ifb (ht := fun hc4 => ?_) (hf := fun hc4 => ?_)
        · -- then 4
          have e2 : encR rs k pv.tag (x :: fs.drop (k + 1)) = (2, []) := by simp only [encR]; exact if_pos hc4
          rw [hq, e2, if_neg (by simp)] at e1
          rw [← e1]
          refine LGo.seq ?_
          refine LGo.region rfl ?_  -- region 12
          refine R.assign (h := ?_)
          refine R.assign (h := ?_)
          refine Reg.nil ⟨fun h => (by cases h), ?_⟩
          first | refine LGo.frzT 4 (h := ?_) | refine LGo.nilSl 4 1 (h := ?_) | skip
          exact LGo.ret (ret_TT Try.results20 hA hmd)
        · -- else 4
          have e2 := encR.eq_2 rs k pv.tag x (fs.drop (k + 1))
          rw [if_neg (by rw [show (!ruleHas x.tag rs || (decide (0 < (k : Int)) && decide (x.tag ≤ pv.tag))) = false from hc4]; simp)] at e2
          have hh4 : ruleHas x.tag rs = true := by simp at hc4; exact hc4.1
          have hm := ruleAt_mem hh4
          have htg := hck _ hm.1
          rw [hm.2] at htg
          have hfl := outB_len (ruleAt x.tag rs) x
          have hxl := hxo.2.2
          obtain ⟨ri, hri, hr1, hr2⟩ := idx_at hh4
          rw [hr1]
          have hxr : (rs.map Rule.c)[((ri : Nat) : Int).toNat]? = some ((ruleAt x.tag rs).c) := by simp [hri, hr2]
          refine LGo.skip ?_
          refine LGo.seq ?_
          refine LGo.region rfl ?_  -- region 13 DRAWS
          refine R.move (h := ?_)
          refine R.move (h := ?_)
          refine R.index I22 (hj := fun hg => ⟨by omega, hxr⟩) (h := ?_)
          first | refine R.loadA A45 (h := ?_) | refine R.loadN A45 (h := ?_)
          refine R.move (h := ?_)
          refine R.move (h := ?_)
          refine R.index I26 (hj := fun hg => ⟨by omega, hx⟩) (h := ?_)
          first | refine R.loadA A34 (h := ?_) | refine R.loadN A34 (h := ?_)
          refine R.callP (es := [_, _]) (fun _ => one_P (ruleAt x.tag rs) x hxo.2.2) (h := ?_)
          refine R.assign (h := ?_)
          refine Reg.nil ⟨fun _ => ⟨mixedO, by rfl, by rfl⟩, ?_⟩
          refine LGo.seq ?_
          refine LGo.seq ?_
          refine LGo.region rfl ?_  -- region 14
          refine R.move (h := ?_)
          refine R.bin (run_neq _ _ _ _ _ _) (h := ?_)
          refine Reg.nil ⟨fun h => (by cases h), ?_⟩
          refine LGo.ifb (ht := fun hc5 => ?_) (hf := fun hc5 => ?_)
          · -- then 5
            rw [if_neg (by simpa using hc5)] at e2
            rw [hq, e2, if_neg (by simpa using hc5)] at e1
            rw [← e1]
            refine LGo.seq ?_
            refine LGo.region rfl ?_  -- region 15
            refine R.move (h := ?_)
            refine R.assign (h := ?_)
            refine R.assign (h := ?_)
            refine Reg.nil ⟨fun h => (by cases h), ?_⟩
            first | refine LGo.frzT 4 (h := ?_) | refine LGo.nilSl 4 1 (h := ?_) | skip
            exact LGo.ret (ret_TT Try.results20 hA hmd)
          · -- else 5
            rw [if_pos (by simpa using hc5)] at e2
            rw [e2] at hq
            refine LGo.skip ?_
            refine LGo.region rfl ?_  -- region 16 DRAWS
            refine R.move (h := ?_)
            refine R.move (h := ?_)
            refine R.move (h := ?_)
            refine R.index I22 (hj := fun hg => ⟨by omega, hxr⟩) (h := ?_)
            first | refine R.loadA A45 (h := ?_) | refine R.loadN A45 (h := ?_)
            refine R.move (h := ?_)
            refine R.move (h := ?_)
            refine R.index I26 (hj := fun hg => ⟨by omega, hx⟩) (h := ?_)
            first | refine R.loadA A34 (h := ?_) | refine R.loadN A34 (h := ?_)
            refine R.callP (es := [_, _]) (fun _ => bytes_P (ruleAt x.tag rs) x (by omega) (by omega) hxo.1 hxo.2.1 hxo.2.2) (h := ?_)
            refine R.appendS AP23 (hs := SrcOk.sl Try.underlying23 (ic_one _ _)) (hlen := by rw [ic_len, ic_len]; omega) (h := ?_)
            refine R.assign (h := ?_)
            refine Reg.nil ⟨fun _ => ⟨mixedO, by rfl, by rfl⟩, ?_⟩
            refine LGo.inBlock ?_
            refine LGo.region rfl ?_  -- region 9
            refine R.move (h := ?_)
            first | refine R.add (h := ?_) | refine R.addW (h := ?_)
            refine R.assign (h := ?_)
            refine Reg.nil ⟨fun h => (by cases h), ?_⟩
            refine LGo.inLoop ?_
            exact LGo.turn [1] (b := 0) (fun o h => by have := (hA o).1 h; omega) (ih (k + 1, acc ++ outB (ruleAt x.tag rs) x) ⟨hlt, by simp; omega, by rw [hq, hp1]; simp⟩ (by simp; omega)) (by repeat (first | exact trivial | refine ⟨rfl, ?_⟩)) ⟨by rw [ic_app]; rfl, trivial⟩
      · -- else 3
        have hk' : k = fs.length := by omega
        subst hk'
        rw [List.drop_length] at hq
        simp only [encR, List.append_nil] at hq
        rw [hq, if_pos rfl] at e1
        refine LGo.exit rfl ?_
        refine LGo.seq ?_
        refine LGo.seq ?_
        refine LGo.region rfl ?_  -- region 17
        refine R.move (h := ?_)
        refine R.move (h := ?_)
        first | refine R.len S22 (h := ?_) | refine R.lenRs S22 (h := ?_) | refine R.lenV (run_lenNil S22) (h := ?_)
        rw [List.length_map]
        refine R.move (h := ?_)
        refine R.callP (es := [_, _, _]) (fun _ => missing_P rs rs.length fs (Nat.le_refl _) hrs hfs) (h := ?_)
        refine Reg.nil ⟨fun h => (by cases h), ?_⟩
        first | refine LGo.ifd (ht := fun hc6 => ?_) (hf := fun hc6 => ?_) | refine LGo.ifb (ht := fun hc6 => ?_) (hf := fun hc6 => ?_)
        · -- then 6
          rw [if_pos hc6] at e1; rw [← e1]
          refine LGo.seq ?_
          refine LGo.region rfl ?_  -- region 18
          refine R.assign (h := ?_)
          refine R.assign (h := ?_)
          refine Reg.nil ⟨fun h => (by cases h), ?_⟩
          first | refine LGo.frzT 4 (h := ?_) | refine LGo.nilSl 4 1 (h := ?_) | skip
          exact LGo.ret (ret_TT Try.results20 hA hmd)
        · -- else 6
          rw [if_neg (by rw [hc6]; simp)] at e1; rw [← e1]
          refine LGo.skip ?_
          refine LGo.seq ?_
          refine LGo.region rfl ?_  -- region 19
          refine R.move (h := ?_)
          refine R.assign (h := ?_)
          refine R.assign (h := ?_)
          refine Reg.nil ⟨fun h => (by cases h), ?_⟩
          first | refine LGo.frzT 4 (h := ?_) | refine LGo.nilSl 4 1 (h := ?_) | skip
          exact LGo.ret (ret_TT Try.results20 hA hmd)

end Go.Proofs.Ytmiamhegohlglaa
