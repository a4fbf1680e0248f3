/- Texts of this claim, merged (FD to GG); no condition. -/
import Derived.Test.YteccglgbkehdeaaGreatDoorPE3
/- fields: Encode, Decode, and the reference's. -/
set_option linter.unusedSimpArgs false
set_option linter.unusedVariables false
namespace Go.Proofs.YteccglgbkehdeaaGreatDoor



def fldEq (x y : Fld) : Bool := (decide (x.tag = y.tag) && decide (x.num = y.num)) && decide (x.txt = y.txt)
def sameGo : List Fld → List Fld → Bool
  | x :: a, y :: b => if (!fldEq x y) = true then false else sameGo a b
  | _, _ => true
def same (a b : List Fld) : Bool := if (!decide ((a.length : Int) = b.length)) = true then false else sameGo a b
def farGo : List Fld → Bool
  | [] => false
  | x :: l => if (500 : Int) < x.txt.length then true else farGo l
def far (rs : List Rule) (l : List Fld) : Bool := if (decide ((20 : Int) < rs.length) || decide ((20 : Int) < l.length)) = true then true else farGo l
def FldOk (x : Fld) : Prop := 0 ≤ x.num ∧ x.num < 18446744073709551616 ∧ x.txt.length ≤ 1000
theorem checkGo_ok : ∀ (rs : List Rule) (last : Int), 0 ≤ last → checkGo last rs = 0 → ∀ r ∈ rs, last < r.tag ∧ r.tag ≤ 63 ∧ r.low ≤ r.high ∧ (r.kind = 1 ∨ (r.kind = 2 ∧ r.high ≤ 400))
  | [], last, _, _, r, hr => by simp at hr
  | q :: rs, last, h0, h, r, hr => by
    simp only [checkGo] at h
    split at h
    · cases h
    · rename_i h1
      simp at h1
      split at h
      · rename_i h2
        rcases List.mem_cons.1 hr with rfl | hr
        · exact ⟨by omega, by omega, by omega, .inl h2⟩
        · have := checkGo_ok rs q.tag (by omega) h r hr
          exact ⟨by omega, this.2⟩
      · split at h
        · cases h
        · rename_i h2 h3
          simp at h3
          rcases List.mem_cons.1 hr with rfl | hr
          · exact ⟨by omega, by omega, by omega, .inr ⟨h3.1, by omega⟩⟩
          · have := checkGo_ok rs q.tag (by omega) h r hr
            exact ⟨by omega, this.2⟩
theorem check_ok {rs : List Rule} (h : check rs = 0) : rs.length ≤ 16 ∧ ∀ r ∈ rs, 0 < r.tag ∧ r.tag ≤ 63 ∧ r.low ≤ r.high ∧ (r.kind = 1 ∨ (r.kind = 2 ∧ r.high ≤ 400)) := by
  unfold check at h
  split at h
  · cases h
  · exact ⟨by omega, checkGo_ok rs 0 (by omega) h⟩
theorem ruleAt_mem {t : Int} {rs : List Rule} (h : ruleHas t rs = true) : ruleAt t rs ∈ rs ∧ (ruleAt t rs).tag = t := by
  unfold ruleHas at h
  obtain ⟨r, hr⟩ := Option.isSome_iff_exists.1 h
  have e : ruleAt t rs = r := by simp [ruleAt, hr]
  rw [e]
  exact ⟨List.mem_of_find?_eq_some hr, by simpa using List.find?_some hr⟩
def encF (rs : List Rule) : Int → List Fld → Int × List Int
  | _, [] => (0, [])
  | last, x :: xs => if (!ruleHas x.tag rs || decide (x.tag ≤ last)) = true then (2, []) else if fldE (ruleAt x.tag rs) x = 0 then ((encF rs x.tag xs).1, fldB (ruleAt x.tag rs) x ++ (encF rs x.tag xs).2) else (fldE (ruleAt x.tag rs) x, [])
def lackF (rs : List Rule) (fs : List Fld) : Bool := (needs rs).any fun t => !fldHas t fs
def encode (rs : List Rule) (fs : List Fld) : List Int × Int :=
  if check rs = 0 then (if (16 : Int) < fs.length then ([], 3) else if (encF rs 0 fs).1 = 0 then (if lackF rs fs = true then ([], 4) else ((encF rs 0 fs).2, 0)) else ([], (encF rs 0 fs).1)) else ([], check rs)
theorem fldB_len (r : Rule) (x : Fld) (hx : FldOk x) : (fldB r x).length ≤ 1100 := by
  have h := digs_len x.num hx.1 hx.2.1
  have h2 := hx.2.2
  unfold fldB
  split <;> simp [textI_len] <;> omega

theorem encode_P (rs : List Rule) (fs : List Fld) (hrs : rs.length ≤ 100) (hfs : fs.length ≤ 100) (hok : ∀ x ∈ fs, FldOk x) : PC Tryz.prog 148 [.sv (.sl 5 (rs.map Rule.c)), .sv (.sl 3 (fs.map Fld.c))] (.tup [.sv (.sl 1 (ic .u8 (encode rs fs).1)), .i (encode rs fs).2]) := by
  refine ⟨LC.of_go Tryz.func148 (c := _) rfl (by kernel_rfl) (by rw [Tryz.ntmps148]; simp) rfl rfl (by simp [LO.lt, LV.lts, LV.lt]) (by simp) ?_⟩
  intro B hA hmd
  obtain ⟨g, e0⟩ : ∃ g, encode rs fs = g := ⟨_, rfl⟩
  have e1 := e0
  unfold encode at e1
  rw [e0]
  refine LGo.seq ?_
  refine LGo.region rfl ?_
  refine R.assign (h := ?_)
  refine R.assign (h := ?_)
  refine Reg.nil ⟨fun h => (by cases h), ?_⟩
  refine LGo.seq ?_
  refine LGo.seq ?_
  refine LGo.region rfl ?_
  refine R.move (h := ?_)
  refine R.callP (es := [_]) (fun _ => check_P _) (h := ?_)
  refine R.assign (h := ?_)
  refine Reg.nil ⟨fun h => (by cases h), ?_⟩
  refine LGo.seq ?_
  refine LGo.region rfl ?_
  refine R.move (h := ?_)
  refine R.bin (run_neq _ _ _ _ _ _) (h := ?_)
  refine Reg.nil ⟨fun h => (by cases h), ?_⟩
  refine LGo.ifb (ht := fun hc => ?_) (hf := fun hc => ?_)
  · -- then 1
    rw [if_neg (by simpa using hc)] at e1; rw [← e1]
    refine LGo.seq ?_
    refine LGo.region rfl ?_
    refine R.move (h := ?_)
    refine R.assign (h := ?_)
    refine R.assign (h := ?_)
    refine Reg.nil ⟨fun h => (by cases h), ?_⟩
    first | refine LGo.frzT 4 (h := ?_) | refine LGo.nilSl 4 1 (h := ?_) | skip
    exact LGo.ret (ret_TT Tryz.results148 hA hmd)
  · -- else 1
    rw [if_pos (by simpa using hc)] at e1
    have hck := (check_ok (rs := rs) (by simpa using hc)).2
    refine LGo.skip ?_
    refine LGo.seq ?_
    refine LGo.seq ?_
    refine LGo.region rfl ?_
    refine R.move (h := ?_)
    first | refine R.len S144 (h := ?_) | refine R.lenRs S144 (h := ?_) | refine R.lenV (run_lenNil S144) (h := ?_)
    rw [List.length_map]
    refine R.bin (run_gtr _ _ _ _ _ _) (h := ?_)
    refine Reg.nil ⟨fun h => (by cases h), ?_⟩
    first | refine LGo.ifd (ht := fun hc2 => ?_) (hf := fun hc2 => ?_) | refine LGo.ifb (ht := fun hc2 => ?_) (hf := fun hc2 => ?_)
    · -- then 2
      rw [if_pos hc2] at e1; rw [← e1]
      refine LGo.seq ?_
      refine LGo.region rfl ?_
      refine R.assign (h := ?_)
      refine R.assign (h := ?_)
      refine Reg.nil ⟨fun h => (by cases h), ?_⟩
      first | refine LGo.frzT 4 (h := ?_) | refine LGo.nilSl 4 1 (h := ?_) | skip
      exact LGo.ret (ret_TT Tryz.results148 hA hmd)
    · -- else 2
      rw [if_neg hc2] at e1
      refine LGo.skip ?_
      refine LGo.seq ?_
      refine LGo.region rfl ?_
      refine R.assign (h := ?_)
      refine Reg.nil ⟨fun h => (by cases h), ?_⟩
      refine LGo.seq ?_
      refine LGo.region rfl ?_
      refine R.assign (h := ?_)
      refine Reg.nil ⟨fun h => (by cases h), ?_⟩
      refine LGo.seq ?_
      refine LGo.seq ?_
      refine LGo.region rfl ?_
      refine R.move (h := ?_)
      first | refine R.len S144 (h := ?_) | refine R.lenRs S144 (h := ?_) | refine R.lenV (run_lenNil S144) (h := ?_)
      rw [List.length_map]
      refine R.move (h := ?_)
      refine Reg.nil ⟨fun h => (by cases h), ?_⟩
      refine LGo.block ?_
      refine LGo.loop ?_
      refine LGo.nilRs 7 5 1 (h := ?_)
      refine LGo.loopG (σ := Nat × Int × List Int) (fun x => x.1 ≤ fs.length ∧ x.2.2.length ≤ 1100 * x.1 ∧ encF rs 0 fs = ((encF rs x.2.1 (fs.drop x.1)).1, x.2.2 ++ (encF rs x.2.1 (fs.drop x.1)).2)) (fun x => [(29, (true, .i (x.1 : Nat))), (8, (true, .i x.2.1)), (7, (true, .ref 0))]) (fun x => [(0, .rs 5 1 (ic .u8 x.2.2))]) (fun x => fs.length - x.1) ((0, 0, [])) [(0, _), (1, _), (27, _), (28, _)] ⟨by simp, by simp, by simp⟩ (by repeat (first | exact trivial | refine ⟨rfl, ?_⟩)) (by repeat (first | exact trivial | refine ⟨rfl, ?_⟩)) (by repeat (first | exact trivial | refine ⟨rfl, ?_⟩)) ?_
      rintro ⟨k, last, acc⟩ ⟨hk, hal, hq⟩ ih
      dsimp only at * 
      refine LGo.seq ?_
      refine LGo.region rfl ?_
      refine R.bin (run_lss _ _ _ _ _ _) (h := ?_)
      refine Reg.nil ⟨fun h => (by cases h), ?_⟩
      refine LGo.seq ?_
      refine LGo.ifd (ht := fun hc3 => ?_) (hf := fun hc3 => ?_)
      · -- then 3
        have hlt : k < fs.length := by omega
        have hx : (fs.map Fld.c)[((k : Nat) : Int).toNat]? = some (fs[k].c) := by simp [hlt]
        have hd : fs.drop k = fs[k] :: fs.drop (k + 1) := List.drop_eq_getElem_cons hlt
        rw [hd] at hq
        have hxo := hok fs[k] (List.getElem_mem hlt)
        generalize fs[k] = x at hx hq hxo
        clear hd
        refine LGo.skip ?_
        refine LGo.seq ?_
        refine LGo.block ?_
        refine LGo.seq ?_
        refine LGo.region rfl ?_
        refine R.index I144 (hj := fun hg => ⟨by omega, hx⟩) (h := ?_)
        first | refine R.loadA A149 (h := ?_) | refine R.loadN A149 (h := ?_)
        refine R.alloc Z149 (h := ?_)
        refine R.storeA A149 (h := ?_)
        refine Reg.nil ⟨fun h => (by cases h), ?_⟩
        refine LGo.seq ?_
        refine LGo.region rfl ?_
        refine R.move (h := ?_)
        first | refine R.field F149_0 (h := ?_) | refine R.fieldAt F149_0 (h := ?_)
        first | refine R.loadB O3 (h := ?_) | refine R.load1 O3 (h := ?_)
        refine R.callP (es := [_, _]) (fun _ => rule_pub _ _ (by assumption)) (h := ?_)
        refine R.move (h := ?_)
        refine R.extract (h := ?_)
        refine R.extract (h := ?_)
        refine R.alloc Z215 (h := ?_)
        refine R.storeA A215 (h := ?_)
        refine R.assign (h := ?_)
        refine Reg.nil ⟨fun h => (by cases h), ?_⟩
        refine LGo.seq ?_
        refine LGo.seq ?_
        refine LGo.region rfl ?_
        refine R.move (h := ?_)
        refine R.not (h := ?_)
        refine R.move (h := ?_)
        first | refine R.field F149_0 (h := ?_) | refine R.fieldAt F149_0 (h := ?_)
        first | refine R.loadB O3 (h := ?_) | refine R.load1 O3 (h := ?_)
        refine R.move (h := ?_)
        refine R.bin (run_leq _ _ _ _ _ _) (h := ?_)
        refine R.or (h := ?_)
        refine Reg.nil ⟨fun h => (by cases h), ?_⟩
        first | refine LGo.ifd (ht := fun hc4 => ?_) (hf := fun hc4 => ?_) | refine LGo.ifb (ht := fun hc4 => ?_) (hf := fun hc4 => ?_)
        · -- then 4
          have e2 : encF rs last (x :: fs.drop (k + 1)) = (2, []) := by simp only [encF]; exact if_pos hc4
          rw [hq, e2, if_neg (by simp)] at e1
          rw [← e1]
          refine LGo.seq ?_
          refine LGo.region rfl ?_
          refine R.assign (h := ?_)
          refine R.assign (h := ?_)
          refine Reg.nil ⟨fun h => (by cases h), ?_⟩
          first | refine LGo.frzT 4 (h := ?_) | refine LGo.nilSl 4 1 (h := ?_) | skip
          exact LGo.ret (ret_TT Tryz.results148 hA hmd)
        · -- else 4
          have e2 := encF.eq_2 rs last x (fs.drop (k + 1))
          rw [if_neg (by rw [show (!ruleHas x.tag rs || decide (x.tag ≤ last)) = false from hc4]; simp)] at e2
          have hh4 : ruleHas x.tag rs = true := by simp at hc4; exact hc4.1
          have hm := ruleAt_mem hh4
          have htg := hck _ hm.1
          rw [hm.2] at htg
          have hfl := fldB_len (ruleAt x.tag rs) x hxo
          refine LGo.skip ?_
          refine LGo.seq ?_
          refine LGo.region rfl ?_
          refine R.move (h := ?_)
          first | refine R.loadA A215 (h := ?_) | refine R.loadN A215 (h := ?_)
          first | refine R.loadA A149 (h := ?_) | refine R.loadN A149 (h := ?_)
          by_cases hE : fldE (ruleAt x.tag rs) x = 0
          · -- case ok
            rw [if_pos hE] at e2
            rw [e2] at hq
            refine R.callX (es := [_, _, _]) [0] (put_ok (ic .u8 acc) (ruleAt x.tag rs) x (by rw [ic_len]; omega) (by omega) (by omega) hxo.1 hxo.2.1 hxo.2.2 hE) (h := ?_)
            refine R.move (h := ?_)
            refine R.extract (h := ?_)
            refine R.extract (h := ?_)
            refine R.assign (h := ?_)
            refine R.assign (h := ?_)
            refine Reg.nil ⟨fun h => (by cases h), ?_⟩
            refine LGo.seq ?_
            refine LGo.seq ?_
            refine LGo.region rfl ?_
            refine R.move (h := ?_)
            refine R.bin (run_neq _ _ _ _ _ _) (h := ?_)
            refine Reg.nil ⟨fun h => (by cases h), ?_⟩
            refine LGo.ifb (ht := fun hc5 => by simp at hc5) (hf := fun hc5 => ?_)
            refine LGo.skip ?_
            refine LGo.region rfl ?_
            refine R.move (h := ?_)
            first | refine R.field F149_0 (h := ?_) | refine R.fieldAt F149_0 (h := ?_)
            first | refine R.loadB O3 (h := ?_) | refine R.load1 O3 (h := ?_)
            refine R.assign (h := ?_)
            refine R.assign (h := ?_)
            refine Reg.nil ⟨fun _ => ⟨mixedO, by rfl, by rfl⟩, ?_⟩
            refine LGo.inBlock ?_
            refine LGo.region rfl ?_
            first | refine R.add (h := ?_) | refine R.addW (h := ?_)
            refine R.move (h := ?_)
            refine Reg.nil ⟨fun h => (by cases h), ?_⟩
            refine LGo.inLoop ?_
            exact LGo.turn [3] (b := 0) (fun o h => by have := (hA o).1 h; omega) (ih (k + 1, x.tag, acc ++ fldB (ruleAt x.tag rs) x) ⟨hlt, by simp; omega, by rw [hq]; simp⟩ (by simp; omega)) (by repeat (first | exact trivial | refine ⟨rfl, ?_⟩)) ⟨by rw [ic_app]; rfl, trivial⟩
          · -- case bad
            rw [if_neg hE] at e2
            rw [hq, e2, if_neg hE] at e1
            rw [← e1]
            refine R.callX (es := [_, _, _]) [0] (put_err (ic .u8 acc) (ruleAt x.tag rs) x (by rw [ic_len]; omega) (by omega) (by omega) hxo.1 hxo.2.1 hxo.2.2 _ rfl hE) (h := ?_)
            refine R.move (h := ?_)
            refine R.extract (h := ?_)
            refine R.extract (h := ?_)
            refine R.assign (h := ?_)
            refine R.assign (h := ?_)
            refine Reg.nil ⟨fun h => (by cases h), ?_⟩
            refine LGo.seq ?_
            refine LGo.seq ?_
            refine LGo.region rfl ?_
            refine R.move (h := ?_)
            refine R.bin (run_neq _ _ _ _ _ _) (h := ?_)
            refine Reg.nil ⟨fun h => (by cases h), ?_⟩
            refine LGo.ifb (ht := fun hc6 => ?_) (hf := fun hc6 => by exact absurd (by simpa using hc6) hE)
            refine LGo.seq ?_
            refine LGo.region rfl ?_
            refine R.move (h := ?_)
            refine R.assign (h := ?_)
            refine R.assign (h := ?_)
            refine Reg.nil ⟨fun h => (by cases h), ?_⟩
            first | refine LGo.frzT 4 (h := ?_) | refine LGo.nilSl 4 1 (h := ?_) | skip
            exact LGo.ret (ret_TT Tryz.results148 hA hmd)
      · -- else 3
        have hk' : k = fs.length := by omega
        subst hk'
        rw [List.drop_length] at hq
        simp only [encF, List.append_nil] at hq
        rw [hq, if_pos rfl] at e1
        have hnl := needs_len rs
        refine LGo.exit rfl ?_
        refine LGo.seq ?_
        refine LGo.seq ?_
        refine LGo.region rfl ?_
        refine R.move (h := ?_)
        refine R.callP (es := [_]) (fun _ => needs_P _ (by assumption)) (h := ?_)
        first | refine R.len S65 (h := ?_) | refine R.lenRs S65 (h := ?_) | refine R.lenV (run_lenNil S65) (h := ?_)
        rw [show (tagsC (needs rs)).length = (needs rs).length from by simp [tagsC]]
        refine R.move (h := ?_)
        refine Reg.nil ⟨fun h => (by cases h), ?_⟩
        refine LGo.block ?_
        refine LGo.loop ?_
        refine LGo.loopG (σ := Nat) (fun x => x ≤ (needs rs).length ∧ lackF rs fs = ((needs rs).drop x).any fun t => !fldHas t fs) (fun x => [(65, (true, .i (x : Nat)))]) (fun x => [(0, .rs 5 1 (ic .u8 acc))]) (fun x => (needs rs).length - x) (0) [(1, _), (7, _), (63, _), (64, _)] ⟨by simp, by simp [lackF]⟩ (by repeat (first | exact trivial | refine ⟨rfl, ?_⟩)) (by repeat (first | exact trivial | refine ⟨rfl, ?_⟩)) (by repeat (first | exact trivial | refine ⟨rfl, ?_⟩)) ?_
        rintro j ⟨hj, hq2⟩ ih
        refine LGo.seq ?_
        refine LGo.region rfl ?_
        refine R.bin (run_lss _ _ _ _ _ _) (h := ?_)
        refine Reg.nil ⟨fun h => (by cases h), ?_⟩
        refine LGo.seq ?_
        refine LGo.ifd (ht := fun hc7 => ?_) (hf := fun hc7 => ?_)
        · -- then 7
          have hlt : j < (needs rs).length := by omega
          have hx : (tagsC (needs rs))[((j : Nat) : Int).toNat]? = some [.val (.int .i64 (needs rs)[j])] := by simp [tagsC, hlt]
          rw [List.drop_eq_getElem_cons hlt, List.any_cons] at hq2
          generalize (needs rs)[j] = t at hx hq2
          refine LGo.skip ?_
          refine LGo.seq ?_
          refine LGo.block ?_
          refine LGo.seq ?_
          refine LGo.region rfl ?_
          refine R.index I65 (hj := fun hg => ⟨by omega, hx⟩) (h := ?_)
          first | refine R.loadB O3 (h := ?_) | refine R.load1 O3 (h := ?_)
          refine R.assign (h := ?_)
          refine Reg.nil ⟨fun h => (by cases h), ?_⟩
          refine LGo.seq ?_
          refine LGo.region rfl ?_
          refine R.move (h := ?_)
          refine R.move (h := ?_)
          refine R.callP (es := [_, _]) (fun _ => fld_pub _ _ (by assumption)) (h := ?_)
          refine R.move (h := ?_)
          refine R.extract (h := ?_)
          refine R.extract (h := ?_)
          refine R.alloc Z149 (h := ?_)
          refine R.storeA A149 (h := ?_)
          refine R.assign (h := ?_)
          refine Reg.nil ⟨fun h => (by cases h), ?_⟩
          refine LGo.seq ?_
          refine LGo.region rfl ?_
          refine R.move (h := ?_)
          refine R.not (h := ?_)
          refine Reg.nil ⟨fun h => (by cases h), ?_⟩
          first | refine LGo.ifd (ht := fun hc8 => ?_) (hf := fun hc8 => ?_) | refine LGo.ifb (ht := fun hc8 => ?_) (hf := fun hc8 => ?_)
          · -- then 8
            rw [if_pos (by rw [hq2]; simp at hc8; simp [hc8])] at e1; rw [← e1]
            refine LGo.seq ?_
            refine LGo.region rfl ?_
            refine R.assign (h := ?_)
            refine R.assign (h := ?_)
            refine Reg.nil ⟨fun h => (by cases h), ?_⟩
            first | refine LGo.frzT 4 (h := ?_) | refine LGo.nilSl 4 1 (h := ?_) | skip
            exact LGo.ret (ret_TT Tryz.results148 hA hmd)
          · -- else 8
            rw [show (!fldHas t fs) = false from hc8, Bool.false_or] at hq2
            refine LGo.skip ?_
            refine LGo.inBlock ?_
            refine LGo.region rfl ?_
            first | refine R.add (h := ?_) | refine R.addW (h := ?_)
            refine R.move (h := ?_)
            refine Reg.nil ⟨fun h => (by cases h), ?_⟩
            refine LGo.inLoop ?_
            exact LGo.next _ (fun o h => by have := (hA o).1 h; omega) (by omega) (ih (j + 1) ⟨hlt, hq2⟩ (by omega)) (by repeat (first | exact trivial | refine ⟨rfl, ?_⟩)) (by repeat (first | exact trivial | refine ⟨rfl, ?_⟩))
        · -- else 7
          have hj' : j = (needs rs).length := by omega
          subst hj'
          rw [List.drop_length] at hq2
          rw [if_neg (by rw [hq2]; simp)] at e1
          rw [← e1]
          refine LGo.exit rfl ?_
          refine LGo.seq ?_
          refine LGo.region rfl ?_
          refine R.move (h := ?_)
          refine R.assign (h := ?_)
          refine R.assign (h := ?_)
          refine Reg.nil ⟨fun h => (by cases h), ?_⟩
          first | refine LGo.frzT 4 (h := ?_) | refine LGo.nilSl 4 1 (h := ?_) | skip
          exact LGo.ret (ret_TT Tryz.results148 hA hmd)




theorem checkGo_refGo : ∀ (rs : List Rule) (k : Nat) (prev : Rule) (last : Int), (k = 0 → last = 0) → (0 < k → last = prev.tag ∧ 1 ≤ prev.tag) → refGo k prev rs = checkGo last rs
  | [], _, _, _, _, _ => rfl
  | r :: rs, k, prev, last, h0, h1 => by
    have ih := checkGo_refGo rs (k + 1) r r.tag (by omega)
    have hk : k = 0 ∨ 0 < k := by omega
    by_cases hb : badR k prev r = true
    · have e1 : refGo k prev (r :: rs) = 2 := by simp only [refGo]; exact if_pos hb
      rw [e1]
      simp only [badR, Bool.or_eq_true, Bool.and_eq_true, decide_eq_true_eq, Bool.not_eq_true', decide_eq_false_iff_not] at hb
      simp only [checkGo, Bool.or_eq_true, decide_eq_true_eq, Bool.not_eq_true', decide_eq_false_iff_not]
      by_cases c1 : (r.tag ≤ last ∨ 63 < r.tag) ∨ r.high < r.low
      · rw [if_pos c1]
      · rw [if_neg c1]
        have hl : k = 0 ∧ last = 0 ∨ 0 < k ∧ last = prev.tag ∧ 1 ≤ prev.tag := by rcases hk with h | h; exact .inl ⟨h, h0 h⟩; exact .inr ⟨h, h1 h⟩
        by_cases c2 : r.kind = 1
        · exfalso; omega
        · rw [if_neg c2, if_pos (by omega)]
    · have e1 : refGo k prev (r :: rs) = refGo (k + 1) r rs := by simp only [refGo]; exact if_neg hb
      rw [e1]
      simp only [badR, Bool.or_eq_true, Bool.and_eq_true, decide_eq_true_eq, Bool.not_eq_true', decide_eq_false_iff_not] at hb
      simp only [checkGo, Bool.or_eq_true, decide_eq_true_eq, Bool.not_eq_true', decide_eq_false_iff_not]
      have hl : k = 0 ∧ last = 0 ∨ 0 < k ∧ last = prev.tag ∧ 1 ≤ prev.tag := by rcases hk with h | h; exact .inl ⟨h, h0 h⟩; exact .inr ⟨h, h1 h⟩
      rw [if_neg (by omega), ih (fun _ => ⟨rfl, by omega⟩)]
      by_cases c2 : r.kind = 1
      · rw [if_pos c2]
      · rw [if_neg c2, if_neg (by omega)]
theorem refCheck_eq (rs : List Rule) : refCheck rs = check rs := by
  unfold refCheck check
  split
  · rfl
  · exact checkGo_refGo rs 0 default 0 (fun _ => rfl) (fun h => absurd h (by omega))
theorem idx_neg (t : Int) (rs : List Rule) : decide (idx (fun x => decide (Rule.tag x = t)) 0 rs < 0) = !ruleHas t rs := by
  rcases idx_spec (fun x => decide (Rule.tag x = t)) rs 0 with ⟨h1, h2⟩ | ⟨j, hj, h1, h2⟩
  · simp [ruleHas, h1, h2]
  · simp only [ruleHas, h1, h2, Option.isSome_some, Bool.not_true, decide_eq_false_iff_not]; omega
theorem idx_at {t : Int} {rs : List Rule} (h : ruleHas t rs = true) : ∃ j : Nat, ∃ hj : j < rs.length, idx (fun x => decide (Rule.tag x = t)) 0 rs = j ∧ rs[j] = ruleAt t rs := by
  rcases idx_spec (fun x => decide (Rule.tag x = t)) rs 0 with ⟨h1, h2⟩ | ⟨j, hj, h1, h2⟩
  · simp [ruleHas, h2] at h
  · exact ⟨j, hj, by rw [h1]; omega, by simp [ruleAt, h2]⟩
def prevF (xs : List Fld) (k : Nat) : Fld := if k = 0 then default else xs.getD (k - 1) default
def encR (rs : List Rule) : Nat → Int → List Fld → Int × List Int
  | _, _, [] => (0, [])
  | k, prev, x :: xs => if (!ruleHas x.tag rs || (decide (0 < (k : Int)) && decide (x.tag ≤ prev))) = true then (2, []) else if one (ruleAt x.tag rs) x = 0 then ((encR rs (k + 1) x.tag xs).1, outB (ruleAt x.tag rs) x ++ (encR rs (k + 1) x.tag xs).2) else (one (ruleAt x.tag rs) x, [])
def encodeR (rs : List Rule) (fs : List Fld) : List Int × Int :=
  if refCheck rs = 0 then (if (16 : Int) < fs.length then ([], 3) else if (encR rs 0 0 fs).1 = 0 then (if missing rs rs.length fs = true then ([], 4) else ((encR rs 0 0 fs).2, 0)) else ([], (encR rs 0 0 fs).1)) else ([], refCheck rs)

theorem encodeR_P (rs : List Rule) (fs : List Fld) (hrs : rs.length ≤ 100) (hfs : fs.length ≤ 100) (hok : ∀ x ∈ fs, FldOk x) : PC Tryz.prog 151 [.sv (.sl 5 (rs.map Rule.c)), .sv (.sl 3 (fs.map Fld.c))] (.tup [.sv (.sl 1 (ic .u8 (encodeR rs fs).1)), .i (encodeR rs fs).2]) := by
  refine ⟨LC.of_go Tryz.func151 (c := _) rfl (by kernel_rfl) (by rw [Tryz.ntmps151]; simp) rfl rfl (by simp [LO.lt, LV.lts, LV.lt]) (by simp) ?_⟩
  intro B hA hmd
  obtain ⟨g, e0⟩ : ∃ g, encodeR rs fs = g := ⟨_, rfl⟩
  have e1 := e0
  unfold encodeR at e1
  rw [e0]
  refine LGo.seq ?_
  refine LGo.region rfl ?_
  refine R.assign (h := ?_)
  refine R.assign (h := ?_)
  refine Reg.nil ⟨fun h => (by cases h), ?_⟩
  refine LGo.seq ?_
  refine LGo.region rfl ?_
  refine R.move (h := ?_)
  refine R.callP (es := [_]) (fun _ => refCheck_P _) (h := ?_)
  refine R.assign (h := ?_)
  refine Reg.nil ⟨fun h => (by cases h), ?_⟩
  refine LGo.seq ?_
  refine LGo.seq ?_
  refine LGo.region rfl ?_
  refine R.move (h := ?_)
  refine R.bin (run_neq _ _ _ _ _ _) (h := ?_)
  refine Reg.nil ⟨fun h => (by cases h), ?_⟩
  refine LGo.ifb (ht := fun hc => ?_) (hf := fun hc => ?_)
  · -- then 1
    rw [if_neg (by simpa using hc)] at e1; rw [← e1]
    refine LGo.seq ?_
    refine LGo.region rfl ?_
    refine R.move (h := ?_)
    refine R.assign (h := ?_)
    refine R.assign (h := ?_)
    refine Reg.nil ⟨fun h => (by cases h), ?_⟩
    first | refine LGo.frzT 4 (h := ?_) | refine LGo.nilSl 4 1 (h := ?_) | skip
    exact LGo.ret (ret_TT Tryz.results151 hA hmd)
  · -- else 1
    rw [if_pos (by simpa using hc)] at e1
    have hck := (check_ok (rs := rs) (by rw [← refCheck_eq]; simpa using hc)).2
    refine LGo.skip ?_
    refine LGo.seq ?_
    refine LGo.seq ?_
    refine LGo.region rfl ?_
    refine R.move (h := ?_)
    first | refine R.len S144 (h := ?_) | refine R.lenRs S144 (h := ?_) | refine R.lenV (run_lenNil S144) (h := ?_)
    rw [List.length_map]
    refine R.bin (run_gtr _ _ _ _ _ _) (h := ?_)
    refine Reg.nil ⟨fun h => (by cases h), ?_⟩
    first | refine LGo.ifd (ht := fun hc2 => ?_) (hf := fun hc2 => ?_) | refine LGo.ifb (ht := fun hc2 => ?_) (hf := fun hc2 => ?_)
    · -- then 2
      rw [if_pos hc2] at e1; rw [← e1]
      refine LGo.seq ?_
      refine LGo.region rfl ?_
      refine R.assign (h := ?_)
      refine R.assign (h := ?_)
      refine Reg.nil ⟨fun h => (by cases h), ?_⟩
      first | refine LGo.frzT 4 (h := ?_) | refine LGo.nilSl 4 1 (h := ?_) | skip
      exact LGo.ret (ret_TT Tryz.results151 hA hmd)
    · -- else 2
      rw [if_neg hc2] at e1
      refine LGo.skip ?_
      refine LGo.seq ?_
      refine LGo.region rfl ?_
      refine R.assign (h := ?_)
      refine Reg.nil ⟨fun h => (by cases h), ?_⟩
      refine LGo.seq ?_
      refine LGo.seq ?_
      refine LGo.region rfl ?_
      refine R.assign (h := ?_)
      refine Reg.nil ⟨fun h => (by cases h), ?_⟩
      refine LGo.block ?_
      refine LGo.loop ?_
      refine LGo.nilRs 7 5 1 (h := ?_)
      refine LGo.loopG (σ := Nat × List Int) (fun x => x.1 ≤ fs.length ∧ x.2.length ≤ 1100 * x.1 ∧ encR rs 0 0 fs = ((encR rs x.1 (prevF fs x.1).tag (fs.drop x.1)).1, x.2 ++ (encR rs x.1 (prevF fs x.1).tag (fs.drop x.1)).2)) (fun x => [(8, (true, .i (x.1 : Nat))), (7, (true, .ref 0))]) (fun x => [(0, .rs 5 1 (ic .u8 x.2))]) (fun x => fs.length - x.1) ((0, [])) [(0, _), (1, _)] ⟨by simp, by simp, by simp [prevF]; rfl⟩ (by repeat (first | exact trivial | refine ⟨rfl, ?_⟩)) (by repeat (first | exact trivial | refine ⟨rfl, ?_⟩)) (by repeat (first | exact trivial | refine ⟨rfl, ?_⟩)) ?_
      rintro ⟨k, acc⟩ ⟨hk, hal, hq⟩ ih
      dsimp only at * 
      refine LGo.seq ?_
      refine LGo.seq ?_
      refine LGo.region rfl ?_
      refine R.move (h := ?_)
      refine R.move (h := ?_)
      first | refine R.len S144 (h := ?_) | refine R.lenRs S144 (h := ?_) | refine R.lenV (run_lenNil S144) (h := ?_)
      rw [List.length_map]
      refine R.bin (run_lss _ _ _ _ _ _) (h := ?_)
      refine Reg.nil ⟨fun h => (by cases h), ?_⟩
      refine LGo.ifd (ht := fun hc3 => ?_) (hf := fun hc3 => ?_)
      · -- then 3
        have hlt : k < fs.length := by omega
        have hx : (fs.map Fld.c)[((k : Nat) : Int).toNat]? = some (fs[k].c) := by simp [hlt]
        have hd : fs.drop k = fs[k] :: fs.drop (k + 1) := List.drop_eq_getElem_cons hlt
        have hp1 : prevF fs (k + 1) = fs[k] := by simp [prevF, hlt]
        have hpv : 0 < k → (fs.map Fld.c)[((k : Int) - 1).toNat]? = some ((prevF fs k).c) := fun h => by
          have h1 : ((k : Int) - 1).toNat = k - 1 := by omega
          have h2 : k - 1 < fs.length := by omega
          rw [h1]; simp [prevF, show k ≠ 0 by omega, h2]
        rw [hd] at hq
        have hxo := hok fs[k] (List.getElem_mem hlt)
        generalize fs[k] = x at hx hq hp1 hxo
        generalize prevF fs k = pv at hpv hq
        clear hd
        refine LGo.skip ?_
        refine LGo.seq ?_
        refine LGo.block ?_
        refine LGo.seq ?_
        refine LGo.region rfl ?_
        refine R.move (h := ?_)
        refine R.move (h := ?_)
        refine R.move (h := ?_)
        refine R.index I144 (hj := fun hg => ⟨by omega, hx⟩) (h := ?_)
        first | refine R.field F149_0 (h := ?_) | refine R.fieldAt F149_0 (h := ?_)
        first | refine R.loadB O3 (h := ?_) | refine R.load1 O3 (h := ?_)
        refine R.callP (es := [_, _]) (fun _ => refRule_P _ _ (by assumption)) (h := ?_)
        refine R.assign (h := ?_)
        refine Reg.nil ⟨fun h => (by cases h), ?_⟩
        refine LGo.seq ?_
        refine LGo.seq ?_
        refine LGo.region rfl ?_
        refine R.move (h := ?_)
        refine R.bin (run_lss _ _ _ _ _ _) (h := ?_)
        rw [idx_neg]
        refine R.move (h := ?_)
        refine R.move (h := ?_)
        refine R.bin (run_gtr _ _ _ _ _ _) (h := ?_)
        refine R.move (h := ?_)
        refine R.move (h := ?_)
        refine R.move (h := ?_)
        first | refine R.sub (h := ?_) | refine R.subW (h := ?_)
        refine R.index I144 (hj := fun hg => ⟨by (simp at hg; omega), hpv (by simp at hg; omega)⟩) (h := ?_)
        first | refine R.field F149_0 (h := ?_) | refine R.fieldAt F149_0 (h := ?_)
        first | refine R.loadB O3 (h := ?_) | refine R.load1 O3 (h := ?_)
        refine R.move (h := ?_)
        refine R.move (h := ?_)
        refine R.index I144 (hj := fun hg => ⟨by (simp at hg; omega), hx⟩) (h := ?_)
        first | refine R.field F149_0 (h := ?_) | refine R.fieldAt F149_0 (h := ?_)
        first | refine R.loadB O3 (h := ?_) | refine R.load1 O3 (h := ?_)
        refine R.bin (run_geq _ _ _ _ _ _) (h := ?_)
        refine R.and (h := ?_)
        refine R.or (h := ?_)
        refine Reg.nil ⟨fun _ => ⟨mixedO, by rfl, by rfl⟩, ?_⟩
        first | refine LGo.ifd (ht := fun hc4 => ?_) (hf := fun hc4 => ?_) | refine LGo.ifb (ht := fun hc4 => ?_) (hf := fun hc4 => ?_)
        · -- then 4
          have e2 : encR rs k pv.tag (x :: fs.drop (k + 1)) = (2, []) := by simp only [encR]; exact if_pos hc4
          rw [hq, e2, if_neg (by simp)] at e1
          rw [← e1]
          refine LGo.seq ?_
          refine LGo.region rfl ?_
          refine R.assign (h := ?_)
          refine R.assign (h := ?_)
          refine Reg.nil ⟨fun h => (by cases h), ?_⟩
          first | refine LGo.frzT 4 (h := ?_) | refine LGo.nilSl 4 1 (h := ?_) | skip
          exact LGo.ret (ret_TT Tryz.results151 hA hmd)
        · -- else 4
          have e2 := encR.eq_2 rs k pv.tag x (fs.drop (k + 1))
          rw [if_neg (by rw [show (!ruleHas x.tag rs || (decide (0 < (k : Int)) && decide (x.tag ≤ pv.tag))) = false from hc4]; simp)] at e2
          have hh4 : ruleHas x.tag rs = true := by simp at hc4; exact hc4.1
          have hm := ruleAt_mem hh4
          have htg := hck _ hm.1
          rw [hm.2] at htg
          have hfl := outB_len (ruleAt x.tag rs) x
          have hxl := hxo.2.2
          obtain ⟨ri, hri, hr1, hr2⟩ := idx_at hh4
          rw [hr1]
          have hxr : (rs.map Rule.c)[((ri : Nat) : Int).toNat]? = some ((ruleAt x.tag rs).c) := by simp [hri, hr2]
          refine LGo.skip ?_
          refine LGo.seq ?_
          refine LGo.region rfl ?_
          refine R.move (h := ?_)
          refine R.move (h := ?_)
          refine R.index I141 (hj := fun hg => ⟨by omega, hxr⟩) (h := ?_)
          first | refine R.loadA A215 (h := ?_) | refine R.loadN A215 (h := ?_)
          refine R.move (h := ?_)
          refine R.move (h := ?_)
          refine R.index I144 (hj := fun hg => ⟨by omega, hx⟩) (h := ?_)
          first | refine R.loadA A149 (h := ?_) | refine R.loadN A149 (h := ?_)
          refine R.callP (es := [_, _]) (fun _ => one_P (ruleAt x.tag rs) x hxo.2.2) (h := ?_)
          refine R.assign (h := ?_)
          refine Reg.nil ⟨fun _ => ⟨mixedO, by rfl, by rfl⟩, ?_⟩
          refine LGo.seq ?_
          refine LGo.seq ?_
          refine LGo.region rfl ?_
          refine R.move (h := ?_)
          refine R.bin (run_neq _ _ _ _ _ _) (h := ?_)
          refine Reg.nil ⟨fun h => (by cases h), ?_⟩
          refine LGo.ifb (ht := fun hc5 => ?_) (hf := fun hc5 => ?_)
          · -- then 5
            rw [if_neg (by simpa using hc5)] at e2
            rw [hq, e2, if_neg (by simpa using hc5)] at e1
            rw [← e1]
            refine LGo.seq ?_
            refine LGo.region rfl ?_
            refine R.move (h := ?_)
            refine R.assign (h := ?_)
            refine R.assign (h := ?_)
            refine Reg.nil ⟨fun h => (by cases h), ?_⟩
            first | refine LGo.frzT 4 (h := ?_) | refine LGo.nilSl 4 1 (h := ?_) | skip
            exact LGo.ret (ret_TT Tryz.results151 hA hmd)
          · -- else 5
            rw [if_pos (by simpa using hc5)] at e2
            rw [e2] at hq
            refine LGo.skip ?_
            refine LGo.region rfl ?_
            refine R.move (h := ?_)
            refine R.move (h := ?_)
            refine R.move (h := ?_)
            refine R.index I141 (hj := fun hg => ⟨by omega, hxr⟩) (h := ?_)
            first | refine R.loadA A215 (h := ?_) | refine R.loadN A215 (h := ?_)
            refine R.move (h := ?_)
            refine R.move (h := ?_)
            refine R.index I144 (hj := fun hg => ⟨by omega, hx⟩) (h := ?_)
            first | refine R.loadA A149 (h := ?_) | refine R.loadN A149 (h := ?_)
            refine R.callP (es := [_, _]) (fun _ => bytes_P (ruleAt x.tag rs) x (by omega) (by omega) hxo.1 hxo.2.1 hxo.2.2) (h := ?_)
            refine R.appendS AP44 (hs := SrcOk.sl Tryz.underlying44 (ic_one _ _)) (hlen := by rw [ic_len, ic_len]; omega) (h := ?_)
            refine R.assign (h := ?_)
            refine Reg.nil ⟨fun _ => ⟨mixedO, by rfl, by rfl⟩, ?_⟩
            refine LGo.inBlock ?_
            refine LGo.region rfl ?_
            refine R.move (h := ?_)
            first | refine R.add (h := ?_) | refine R.addW (h := ?_)
            refine R.assign (h := ?_)
            refine Reg.nil ⟨fun h => (by cases h), ?_⟩
            refine LGo.inLoop ?_
            exact LGo.turn [1] (b := 0) (fun o h => by have := (hA o).1 h; omega) (ih (k + 1, acc ++ outB (ruleAt x.tag rs) x) ⟨hlt, by simp; omega, by rw [hq, hp1]; simp⟩ (by simp; omega)) (by repeat (first | exact trivial | refine ⟨rfl, ?_⟩)) ⟨by rw [ic_app]; rfl, trivial⟩
      · -- else 3
        have hk' : k = fs.length := by omega
        subst hk'
        rw [List.drop_length] at hq
        simp only [encR, List.append_nil] at hq
        rw [hq, if_pos rfl] at e1
        refine LGo.exit rfl ?_
        refine LGo.seq ?_
        refine LGo.seq ?_
        refine LGo.region rfl ?_
        refine R.move (h := ?_)
        refine R.move (h := ?_)
        first | refine R.len S141 (h := ?_) | refine R.lenRs S141 (h := ?_) | refine R.lenV (run_lenNil S141) (h := ?_)
        rw [List.length_map]
        refine R.move (h := ?_)
        refine R.callP (es := [_, _, _]) (fun _ => missing_P rs rs.length fs (Nat.le_refl _) hrs hfs) (h := ?_)
        refine Reg.nil ⟨fun h => (by cases h), ?_⟩
        first | refine LGo.ifd (ht := fun hc6 => ?_) (hf := fun hc6 => ?_) | refine LGo.ifb (ht := fun hc6 => ?_) (hf := fun hc6 => ?_)
        · -- then 6
          rw [if_pos hc6] at e1; rw [← e1]
          refine LGo.seq ?_
          refine LGo.region rfl ?_
          refine R.assign (h := ?_)
          refine R.assign (h := ?_)
          refine Reg.nil ⟨fun h => (by cases h), ?_⟩
          first | refine LGo.frzT 4 (h := ?_) | refine LGo.nilSl 4 1 (h := ?_) | skip
          exact LGo.ret (ret_TT Tryz.results151 hA hmd)
        · -- else 6
          rw [if_neg (by rw [hc6]; simp)] at e1; rw [← e1]
          refine LGo.skip ?_
          refine LGo.seq ?_
          refine LGo.region rfl ?_
          refine R.move (h := ?_)
          refine R.assign (h := ?_)
          refine R.assign (h := ?_)
          refine Reg.nil ⟨fun h => (by cases h), ?_⟩
          first | refine LGo.frzT 4 (h := ?_) | refine LGo.nilSl 4 1 (h := ?_) | skip
          exact LGo.ret (ret_TT Tryz.results151 hA hmd)




def decF (rs : List Rule) : Nat → List Int → Int → List UInt8 → List Fld × List UInt8 × List Int
  | _, ms, _, [] => ([], [], ms)
  | 0, ms, _, rest => ([], rest, ms)
  | n + 1, ms, last, c :: tl =>
    if ((!ruleHas c.toNat rs || decide ((c.toNat : Int) ≤ last)) || (decide ((0 : Int) < ms.length) && decide (ms.headD 0 < (c.toNat : Int)))) = true then ([], c :: tl, ms)
    else if (!(getV (ruleAt c.toNat rs) tl).2.2) = true then ([], c :: tl, ms)
    else ((getV (ruleAt c.toNat rs) tl).1 :: (decF rs n (if (decide ((0 : Int) < ms.length) && decide (ms.headD 0 = (c.toNat : Int))) = true then ms.tail else ms) c.toNat (getV (ruleAt c.toNat rs) tl).2.1).1, (decF rs n (if (decide ((0 : Int) < ms.length) && decide (ms.headD 0 = (c.toNat : Int))) = true then ms.tail else ms) c.toNat (getV (ruleAt c.toNat rs) tl).2.1).2)
def decode (rs : List Rule) (b : List UInt8) : List Fld × Int × Int :=
  if check rs = 0 then
    (if (decide ((0 : Int) < (decF rs b.length (needs rs) 0 b).2.1.length) || decide ((0 : Int) < (decF rs b.length (needs rs) 0 b).2.2.length)) = true then ([], (b.length : Int) - (decF rs b.length (needs rs) 0 b).2.1.length, 11) else ((decF rs b.length (needs rs) 0 b).1, 0, 0))
  else ([], 0, check rs)
theorem decF_nil (rs : List Rule) (n : Nat) (ms : List Int) (last : Int) : decF rs n ms last [] = ([], [], ms) := by cases n <;> rfl
theorem getV_tag (r : Rule) (b : List UInt8) : (getV r b).1.tag = r.tag := by
  unfold getV
  split
  · rfl
  · split
    · rfl
    · split
      · rfl
      · split <;> rfl


end Go.Proofs.YteccglgbkehdeaaGreatDoor
/- requests: the tags of a kind, the rules, the fields of a request, its check. -/
set_option linter.unusedSimpArgs false
set_option linter.unusedVariables false
namespace Go.Proofs.YteccglgbkehdeaaGreatDoor

/-- a request -/
structure Rq where
  kind : Int
  id : Int
  owner : Int
  to : Int
  ses : List UInt8
  tic : List UInt8
  seat : Int
  sec : Int
  n : Int
  gate : Int
instance : Inhabited Rq := ⟨⟨0, 0, 0, 0, [], [], 0, 0, 0, 0⟩⟩
def Rq.c (r : Rq) : List SV := [.val (.int .i64 r.kind), .val (.int .u64 r.id), .val (.int .u32 r.owner), .val (.int .u32 r.to), .val (.string ⟨r.ses.toArray⟩), .val (.string ⟨r.tic.toArray⟩), .val (.int .i64 r.seat), .val (.int .i64 r.sec), .val (.int .i64 r.n), .val (.int .i64 r.gate)]
def R64 (t : Int) : Prop := -9223372036854775808 ≤ t ∧ t ≤ 9223372036854775807
structure RqOk (r : Rq) : Prop where
  kind : R64 r.kind
  id : 0 ≤ r.id ∧ r.id < 18446744073709551616
  owner : 0 ≤ r.owner ∧ r.owner < 4294967296
  to : 0 ≤ r.to ∧ r.to < 4294967296
  ses : r.ses.length ≤ maxLen
  tic : r.tic.length ≤ maxLen
  seat : R64 r.seat
  sec : R64 r.sec
  n : R64 r.n
  gate : R64 r.gate
theorem tabM : (2, maskTab.map (Value.int .u16)) ∈ tabs := by simp [tabs]
def maskOf (k : Int) : Int := if k < 0 ∨ 14 ≤ k then 0 else maskTab.getD k.toNat 0
theorem maskOf_lt (k : Int) : 0 ≤ maskOf k ∧ maskOf k < 65536 := by
  unfold maskOf
  split
  · omega
  · have : ∀ n, 0 ≤ maskTab.getD n 0 ∧ maskTab.getD n 0 < 65536 := fun n => by
      by_cases h : n < 14
      · have key : ∀ m : Fin 14, 0 ≤ maskTab.getD m.1 0 ∧ maskTab.getD m.1 0 < 65536 := by decide
        exact key ⟨n, h⟩
      · rw [List.getD_eq_getElem?_getD, List.getElem?_eq_none (by simp [maskTab]; omega)]; simp
    exact this _
/-- a number as0 one of 64 bits -/
def uw (n : Int) : Int := n % 18446744073709551616
theorem uw_wrap (n : Int) : IntKind.u64.wrap n = uw n := IntKind.wrap_u64 n
theorem uw_lt (n : Int) : 0 ≤ uw n ∧ uw n < 18446744073709551616 := by unfold uw; omega
def ruleQ (t : Int) : Rule := if t = 1 then ⟨t, 1, 1, 9223372036854775807, true⟩ else if t = 2 then ⟨t, 1, 0, 4294967295, true⟩ else if t = 8 then ⟨t, 1, 0, 4294967295, true⟩ else if t = 3 then ⟨t, 2, 44, 44, true⟩ else if t = 4 then ⟨t, 2, 56, 56, true⟩ else ⟨t, 1, 0, 2147483647, true⟩
theorem and1_u16 (a : Int) (h0 : 0 ≤ a) (h1 : a < 65536) : IntKind.u16.wrap ((BitVec.ofInt IntKind.u16.bits a &&& BitVec.ofInt IntKind.u16.bits 1).toNat) = a % 2 := by
  obtain ⟨n, rfl⟩ : ∃ n : Nat, a = n := ⟨a.toNat, by omega⟩
  have e1 : (BitVec.ofInt 16 (n : Int) &&& 1#16).toNat = n % 2 := by
    rw [BitVec.ofInt_natCast, BitVec.toNat_and]
    simp only [BitVec.toNat_ofNat, Nat.reducePow, Nat.reduceMod, Nat.and_one_is_mod]
    omega
  show IntKind.u16.wrap ((BitVec.ofInt 16 (n : Int) &&& BitVec.ofInt 16 1).toNat) = _
  rw [show BitVec.ofInt 16 1 = 1#16 from rfl, e1, IntKind.wrap_u16]
  omega
def bitQ (m : Int) (k : Nat) : Int := m / 2 ^ k % 2
theorem shr_u16 (m : Int) (k : Nat) (h : k ≤ 16) : m / 2 ^ (min (Int.toNat (k : Int)) IntKind.u16.bits) = m / 2 ^ k := by
  rw [Int.toNat_natCast, show IntKind.u16.bits = 16 from rfl, Nat.min_eq_left h]
theorem div_lt (m : Int) (k : Nat) (h0 : 0 ≤ m) (h1 : m < 65536) : 0 ≤ m / 2 ^ k ∧ m / 2 ^ k < 65536 := by
  have hp : (0 : Int) < 2 ^ k := Int.pow_pos (by omega)
  refine ⟨Int.ediv_nonneg h0 (Int.le_of_lt hp), ?_⟩
  exact Int.lt_of_le_of_lt (Int.ediv_le_self _ h0) h1

theorem mask_P (k : Int) : PC Tryz.prog 200 [.i k] (.v (.int .u16 (maskOf k))) := by
 refine ⟨LC.of_go Tryz.func200 (c := _) rfl (by kernel_rfl) (by rw [Tryz.ntmps200]; simp) rfl rfl (by simp [LO.lt, LV.lts, LV.lt, lts_sv]) (by simp) ?_⟩
 intro B hA hmd
 refine .seq ?_
 refine .region rfl ?_
 refine R.assign (h := ?_)
 refine .n0 ?_
 refine .seq ?_
 refine .seq ?_
 refine .region rfl ?_
 refine R.move (h := ?_)
 refine R.bin (run_lss _ _ _ _ _ _) (h := ?_)
 refine R.move (h := ?_)
 refine R.move (h := ?_)
 refine R.bin (run_geq _ _ _ _ _ _) (h := ?_)
 refine R.or (h := ?_)
 refine .n0 ?_
 refine LGo.ifb (ht := fun hc => ?_) (hf := fun hc => ?_)
 ·
  have h : k < 0 ∨ 14 ≤ k := by simpa using hc
  rw [show maskOf k = 0 from if_pos h]
  refine .seq ?_
  refine .region rfl ?_
  refine R.assign (h := ?_)
  refine .n0 ?_
  exact LGo.ret (ret_T Tryz.results200 hA hmd)
 ·
  have h : ¬ (k < 0 ∨ 14 ≤ k) := by simpa using hc
  rw [show maskOf k = maskTab.getD k.toNat 0 from if_neg h]
  have h1 : 0 ≤ k ∧ k < 14 := by omega
  refine .skip ?_
  refine .seq ?_
  refine .region rfl ?_
  refine R.move (h := ?_)
  refine R.gIndex I303 (hj := fun _ => by omega) (h := ?_)
  refine R.gLoad1 O75 (hm := tabM) (v := .int .u16 (maskTab.getD k.toNat 0)) (hc := fun _ => by rw [Nat.zero_add, Nat.mul_one, List.getElem?_map, List.getD_eq_getElem?_getD, List.getElem?_eq_getElem (show k.toNat < maskTab.length from by simp [maskTab]; omega)]; rfl) (h := ?_)
  refine R.assign (h := ?_)
  refine .n0 ?_
  exact LGo.ret (ret_T Tryz.results200 hA hmd)

theorem ruleQ_P (t : Int) : PC Tryz.prog 202 [.i t] (.agg ((ruleQ t).c.map LV.sv)) := by
 refine ⟨LC.of_go Tryz.func202 (c := _) rfl (by kernel_rfl) (by rw [Tryz.ntmps202]; simp) rfl rfl (by simp [LO.lt, LV.lts, LV.lt, lts_sv]) (by simp) ?_⟩
 intro B hA hmd
 obtain ⟨g, e0⟩ : ∃ g, ruleQ t = g := ⟨_, rfl⟩
 have e1 := e0
 unfold ruleQ at e1
 rw [e0]
 refine .seq ?_
 refine .region rfl ?_
 refine R.alloc Z215 (h := ?_)
 refine .n0 ?_
 refine .seq ?_
 refine .region rfl ?_
 refine R.move (h := ?_)
 refine R.build BF215 (is := [0, 1, 3, 4]) (xs := [_, _, _, _]) (es := [_, _, _, _]) (h := ?_)
 refine R.alloc Z215 (h := ?_)
 refine R.storeA A215 (h := ?_)
 refine .n0 ?_
 refine .seq ?_
 refine .seq ?_
 refine .region rfl ?_
 refine R.move (h := ?_)
 refine .n0 ?_
 refine .block ?_
 refine .seq ?_
 refine .region rfl ?_
 refine R.bin (run_eql _ _ _ _ _ _) (h := ?_)
 refine R.assign (h := ?_)
 refine .n0 ?_
 first | refine LGo.ifd (ht := fun hc => ?_) (hf := fun hc => ?_) | refine LGo.ifb (ht := fun hc => ?_) (hf := fun hc => ?_)
 ·
  rw [if_pos hc] at e1
  refine .region rfl ?_
  first | refine R.field F215_2 (h := ?_) | refine R.fieldAt F215_2 (h := ?_)
  refine R.storeB O41 (h := ?_)
  first | refine R.field F215_3 (h := ?_) | refine R.fieldAt F215_3 (h := ?_)
  refine R.storeB O41 (h := ?_)
  refine .n0 ?_
  refine .inBlock ?_
  refine .seq ?_
  refine .region rfl ?_
  first | refine R.loadA A215 (h := ?_) | refine R.loadN A215 (h := ?_) | refine R.loadP A215 (h := ?_)
  refine R.storeA A215 (h := ?_)
  refine .n0 ?_
  rw [← e1]
  exact LGo.ret (ret_A Tryz.results202 A215 hA hmd)
 ·
  rw [if_neg hc] at e1
  refine .seq ?_
  refine .seq ?_
  refine .region rfl ?_
  refine R.bin (run_eql _ _ _ _ _ _) (h := ?_)
  refine R.assign (h := ?_)
  refine .n0 ?_
  first | refine LGo.ifd (ht := fun hc2 => ?_) (hf := fun hc2 => ?_) | refine LGo.ifb (ht := fun hc2 => ?_) (hf := fun hc2 => ?_)
  ·
   rw [if_pos hc2] at e1
   refine .skip ?_
   refine LGo.ifb (ht := fun hc3 => ?_) (hf := fun hc3 => by exact absurd hc2 (by simpa using hc3))
   refine .region rfl ?_
   first | refine R.field F215_3 (h := ?_) | refine R.fieldAt F215_3 (h := ?_)
   refine R.storeB O41 (h := ?_)
   refine .n0 ?_
   refine .inBlock ?_
   refine .seq ?_
   refine .region rfl ?_
   first | refine R.loadA A215 (h := ?_) | refine R.loadN A215 (h := ?_) | refine R.loadP A215 (h := ?_)
   refine R.storeA A215 (h := ?_)
   refine .n0 ?_
   rw [← e1]
   exact LGo.ret (ret_A Tryz.results202 A215 hA hmd)
  ·
   rw [if_neg hc2] at e1
   refine .region rfl ?_
   refine R.bin (run_eql _ _ _ _ _ _) (h := ?_)
   refine R.assign (h := ?_)
   refine .n0 ?_
   first | refine LGo.ifd (ht := fun hc4 => ?_) (hf := fun hc4 => ?_) | refine LGo.ifb (ht := fun hc4 => ?_) (hf := fun hc4 => ?_)
   ·
    rw [if_pos hc4] at e1
    refine .region rfl ?_
    first | refine R.field F215_3 (h := ?_) | refine R.fieldAt F215_3 (h := ?_)
    refine R.storeB O41 (h := ?_)
    refine .n0 ?_
    refine .inBlock ?_
    refine .seq ?_
    refine .region rfl ?_
    first | refine R.loadA A215 (h := ?_) | refine R.loadN A215 (h := ?_) | refine R.loadP A215 (h := ?_)
    refine R.storeA A215 (h := ?_)
    refine .n0 ?_
    rw [← e1]
    exact LGo.ret (ret_A Tryz.results202 A215 hA hmd)
   ·
    rw [if_neg hc4] at e1
    refine .seq ?_
    refine .region rfl ?_
    refine R.bin (run_eql _ _ _ _ _ _) (h := ?_)
    refine R.assign (h := ?_)
    refine .n0 ?_
    first | refine LGo.ifd (ht := fun hc5 => ?_) (hf := fun hc5 => ?_) | refine LGo.ifb (ht := fun hc5 => ?_) (hf := fun hc5 => ?_)
    ·
     rw [if_pos hc5] at e1
     refine .region rfl ?_
     first | refine R.field F215_1 (h := ?_) | refine R.fieldAt F215_1 (h := ?_)
     refine R.storeB O3 (h := ?_)
     first | refine R.field F215_2 (h := ?_) | refine R.fieldAt F215_2 (h := ?_)
     refine R.storeB O41 (h := ?_)
     first | refine R.field F215_3 (h := ?_) | refine R.fieldAt F215_3 (h := ?_)
     refine R.storeB O41 (h := ?_)
     refine .n0 ?_
     refine .inBlock ?_
     refine .seq ?_
     refine .region rfl ?_
     first | refine R.loadA A215 (h := ?_) | refine R.loadN A215 (h := ?_) | refine R.loadP A215 (h := ?_)
     refine R.storeA A215 (h := ?_)
     refine .n0 ?_
     rw [← e1]
     exact LGo.ret (ret_A Tryz.results202 A215 hA hmd)
    ·
     rw [if_neg hc5] at e1
     refine .seq ?_
     refine .region rfl ?_
     refine R.bin (run_eql _ _ _ _ _ _) (h := ?_)
     refine R.assign (h := ?_)
     refine .n0 ?_
     first | refine LGo.ifd (ht := fun hc6 => ?_) (hf := fun hc6 => ?_) | refine LGo.ifb (ht := fun hc6 => ?_) (hf := fun hc6 => ?_)
     ·
      rw [if_pos hc6] at e1
      refine .region rfl ?_
      first | refine R.field F215_1 (h := ?_) | refine R.fieldAt F215_1 (h := ?_)
      refine R.storeB O3 (h := ?_)
      first | refine R.field F215_2 (h := ?_) | refine R.fieldAt F215_2 (h := ?_)
      refine R.storeB O41 (h := ?_)
      first | refine R.field F215_3 (h := ?_) | refine R.fieldAt F215_3 (h := ?_)
      refine R.storeB O41 (h := ?_)
      refine .n0 ?_
      refine .inBlock ?_
      refine .seq ?_
      refine .region rfl ?_
      first | refine R.loadA A215 (h := ?_) | refine R.loadN A215 (h := ?_) | refine R.loadP A215 (h := ?_)
      refine R.storeA A215 (h := ?_)
      refine .n0 ?_
      rw [← e1]
      exact LGo.ret (ret_A Tryz.results202 A215 hA hmd)
     ·
      rw [if_neg hc6] at e1
      refine .skip ?_
      refine .inBlock ?_
      refine .seq ?_
      refine .region rfl ?_
      first | refine R.loadA A215 (h := ?_) | refine R.loadN A215 (h := ?_) | refine R.loadP A215 (h := ?_)
      refine R.storeA A215 (h := ?_)
      refine .n0 ?_
      rw [← e1]
      exact LGo.ret (ret_A Tryz.results202 A215 hA hmd)

theorem widenI_P (n : Int) (hn : R64 n) : PC Tryz.prog 244 [.i n] (.tup [.u (uw n), .b (decide (n ≥ 0))]) := by
 refine ⟨LC.of_go Tryz.func244 (c := _) rfl (by kernel_rfl) (by rw [Tryz.ntmps244]; simp) rfl rfl (by simp [LO.lt, LV.lts, LV.lt, lts_sv]) (by simp) ?_⟩
 intro B hA hmd
 rw [← uw_wrap]
 refine .seq ?_
 refine .region rfl ?_
 refine R.assign (h := ?_)
 refine R.assign (h := ?_)
 refine .n0 ?_
 refine .seq ?_
 refine .region rfl ?_
 refine R.move (h := ?_)
 refine R.convW Tryz.runUnderlying3 Tryz.runUnderlying41 (h := ?_)
 refine R.move (h := ?_)
 refine R.bin (run_geq _ _ _ _ _ _) (h := ?_)
 refine R.assign (h := ?_)
 refine R.assign (h := ?_)
 refine .n0 ?_
 exact LGo.ret (ret_TT Tryz.results244 hA hmd)

theorem widenU_P (n : Int) (h0 : 0 ≤ n) (h1 : n < 18446744073709551616) : PC Tryz.prog 242 [.u n] (.tup [.u n, .b true]) := by
 refine ⟨LC.of_go Tryz.func242 (c := _) rfl (by kernel_rfl) (by rw [Tryz.ntmps242]; simp) rfl rfl (by simp [LO.lt, LV.lts, LV.lt, lts_sv]) (by simp) ?_⟩
 intro B hA hmd
 refine .seq ?_
 refine .region rfl ?_
 refine R.assign (h := ?_)
 refine R.assign (h := ?_)
 refine .n0 ?_
 refine .seq ?_
 refine .region rfl ?_
 refine R.move (h := ?_)
 refine R.move (h := ?_)
 refine R.bin (run_geq _ _ _ _ _ _) (h := ?_)
 rw [show decide (0 ≤ n) = true from decide_eq_true h0]
 refine R.assign (h := ?_)
 refine R.assign (h := ?_)
 refine .n0 ?_
 exact LGo.ret (ret_TT Tryz.results242 hA hmd)

theorem widenV_P (n : Int) (h0 : 0 ≤ n) (h1 : n < 4294967296) : PC Tryz.prog 243 [.v (.int .u32 n)] (.tup [.u n, .b true]) := by
 refine ⟨LC.of_go Tryz.func243 (c := _) rfl (by kernel_rfl) (by rw [Tryz.ntmps243]; simp) rfl rfl (by simp [LO.lt, LV.lts, LV.lt, lts_sv]) (by simp) ?_⟩
 intro B hA hmd
 refine .seq ?_
 refine .region rfl ?_
 refine R.assign (h := ?_)
 refine R.assign (h := ?_)
 refine .n0 ?_
 refine .seq ?_
 refine .region rfl ?_
 refine R.move (h := ?_)
 first | refine R.convI Tryz.runUnderlying38 Tryz.runUnderlying41 (h := ?_) | refine R.convW Tryz.runUnderlying38 Tryz.runUnderlying41 (h := ?_)
 refine R.move (h := ?_)
 refine R.bin (run_geq _ _ _ _ _ _) (h := ?_)
 rw [show decide (0 ≤ n) = true from decide_eq_true h0]
 refine R.assign (h := ?_)
 refine R.assign (h := ?_)
 refine .n0 ?_
 exact LGo.ret (ret_TT Tryz.results243 hA hmd)

/-- the field with a tag; false: its number is below 0 -/
def fieldQ (r : Rq) (t : Int) : Fld × Bool := if t = 1 then (⟨t, r.id, []⟩, true) else if t = 2 then (⟨t, r.owner, []⟩, true) else if t = 3 then (⟨t, 0, r.ses⟩, true) else if t = 4 then (⟨t, 0, r.tic⟩, true)
  else if t = 5 then (⟨t, uw r.seat, []⟩, decide (r.seat ≥ 0)) else if t = 6 then (⟨t, uw r.sec, []⟩, decide (r.sec ≥ 0)) else if t = 7 then (⟨t, uw r.n, []⟩, decide (r.n ≥ 0)) else if t = 8 then (⟨t, r.to, []⟩, true) else if t = 9 then (⟨t, uw r.gate, []⟩, decide (r.gate ≥ 0)) else (⟨t, 0, []⟩, true)

theorem fieldQ_P (r : Rq) (hr : RqOk r) (t : Int) : PC Tryz.prog 201 [.agg (r.c.map LV.sv), .i t] (.tup [.agg ((fieldQ r t).1.c.map LV.sv), .b (fieldQ r t).2]) := by
 refine ⟨LC.of_go Tryz.func201 (c := _) rfl (by kernel_rfl) (by rw [Tryz.ntmps201]; simp) rfl rfl (by simp [LO.lt, LV.lts, LV.lt, lts_sv]) (by simp) ?_⟩
 intro B hA hmd
 obtain ⟨g, e0⟩ : ∃ g, fieldQ r t = g := ⟨_, rfl⟩
 have e1 := e0
 unfold fieldQ at e1
 rw [e0]
 refine .seq ?_
 refine .region rfl ?_
 refine R.box (h := ?_)
 refine R.alloc Z149 (h := ?_)
 refine R.assign (h := ?_)
 refine .n0 ?_
 refine .seq ?_
 refine .region rfl ?_
 refine R.move (h := ?_)
 refine R.build BF149 (is := [0]) (xs := [_]) (es := [_]) (h := ?_)
 refine R.alloc Z149 (h := ?_)
 refine R.storeA A149 (h := ?_)
 refine .n0 ?_
 refine .seq ?_
 refine .region rfl ?_
 refine R.assign (h := ?_)
 refine .n0 ?_
 refine .seq ?_
 refine .seq ?_
 refine .region rfl ?_
 refine R.move (h := ?_)
 refine .n0 ?_
 refine .block ?_
 refine .seq ?_
 refine .region rfl ?_
 refine R.bin (run_eql _ _ _ _ _ _) (h := ?_)
 refine R.assign (h := ?_)
 refine .n0 ?_
 first | refine LGo.ifd (ht := fun hc => ?_) (hf := fun hc => ?_) | refine LGo.ifb (ht := fun hc => ?_) (hf := fun hc => ?_)
 ·
  rw [if_pos hc] at e1
  refine .region rfl ?_
  first | refine R.field F48_1 (h := ?_) | refine R.fieldAt F48_1 (h := ?_)
  first | refine R.loadB O41 (h := ?_) | refine R.load1 O41 (h := ?_)
  refine R.callP (es := [_]) (fun _ => widenU_P r.id hr.id.1 hr.id.2) (h := ?_)
  refine R.move (h := ?_)
  refine R.extract (h := ?_)
  refine R.extract (h := ?_)
  first | refine R.field F149_1 (h := ?_) | refine R.fieldAt F149_1 (h := ?_)
  refine R.storeB O41 (h := ?_)
  refine R.assign (h := ?_)
  refine .n0 ?_
  refine .inBlock ?_
  refine .seq ?_
  refine .region rfl ?_
  first | refine R.loadA A149 (h := ?_) | refine R.loadN A149 (h := ?_) | refine R.loadP A149 (h := ?_)
  refine R.move (h := ?_)
  refine R.storeA A149 (h := ?_)
  refine R.assign (h := ?_)
  refine .n0 ?_
  rw [← e1]
  exact LGo.ret (ret_AT Tryz.results201 A149 hA hmd)
 ·
  rw [if_neg hc] at e1
  refine .seq ?_
  refine .region rfl ?_
  refine R.bin (run_eql _ _ _ _ _ _) (h := ?_)
  refine R.assign (h := ?_)
  refine .n0 ?_
  first | refine LGo.ifd (ht := fun hc2 => ?_) (hf := fun hc2 => ?_) | refine LGo.ifb (ht := fun hc2 => ?_) (hf := fun hc2 => ?_)
  ·
   rw [if_pos hc2] at e1
   refine .region rfl ?_
   first | refine R.field F48_2 (h := ?_) | refine R.fieldAt F48_2 (h := ?_)
   first | refine R.loadB O38 (h := ?_) | refine R.load1 O38 (h := ?_)
   refine R.callP (es := [_]) (fun _ => widenV_P r.owner hr.owner.1 hr.owner.2) (h := ?_)
   refine R.move (h := ?_)
   refine R.extract (h := ?_)
   refine R.extract (h := ?_)
   first | refine R.field F149_1 (h := ?_) | refine R.fieldAt F149_1 (h := ?_)
   refine R.storeB O41 (h := ?_)
   refine R.assign (h := ?_)
   refine .n0 ?_
   refine .inBlock ?_
   refine .seq ?_
   refine .region rfl ?_
   first | refine R.loadA A149 (h := ?_) | refine R.loadN A149 (h := ?_) | refine R.loadP A149 (h := ?_)
   refine R.move (h := ?_)
   refine R.storeA A149 (h := ?_)
   refine R.assign (h := ?_)
   refine .n0 ?_
   rw [← e1]
   exact LGo.ret (ret_AT Tryz.results201 A149 hA hmd)
  ·
   rw [if_neg hc2] at e1
   refine .seq ?_
   refine .region rfl ?_
   refine R.bin (run_eql _ _ _ _ _ _) (h := ?_)
   refine R.assign (h := ?_)
   refine .n0 ?_
   first | refine LGo.ifd (ht := fun hc3 => ?_) (hf := fun hc3 => ?_) | refine LGo.ifb (ht := fun hc3 => ?_) (hf := fun hc3 => ?_)
   ·
    rw [if_pos hc3] at e1
    refine .region rfl ?_
    first | refine R.field F48_4 (h := ?_) | refine R.fieldAt F48_4 (h := ?_)
    first | refine R.loadB O9 (h := ?_) | refine R.load1 O9 (h := ?_)
    first | refine R.field F149_2 (h := ?_) | refine R.fieldAt F149_2 (h := ?_)
    refine R.storeB O9 (h := ?_)
    refine .n0 ?_
    refine .inBlock ?_
    refine .seq ?_
    refine .region rfl ?_
    first | refine R.loadA A149 (h := ?_) | refine R.loadN A149 (h := ?_) | refine R.loadP A149 (h := ?_)
    refine R.move (h := ?_)
    refine R.storeA A149 (h := ?_)
    refine R.assign (h := ?_)
    refine .n0 ?_
    rw [← e1]
    exact LGo.ret (ret_AT Tryz.results201 A149 hA hmd)
   ·
    rw [if_neg hc3] at e1
    refine .seq ?_
    refine .region rfl ?_
    refine R.bin (run_eql _ _ _ _ _ _) (h := ?_)
    refine R.assign (h := ?_)
    refine .n0 ?_
    first | refine LGo.ifd (ht := fun hc4 => ?_) (hf := fun hc4 => ?_) | refine LGo.ifb (ht := fun hc4 => ?_) (hf := fun hc4 => ?_)
    ·
     rw [if_pos hc4] at e1
     refine .region rfl ?_
     first | refine R.field F48_5 (h := ?_) | refine R.fieldAt F48_5 (h := ?_)
     first | refine R.loadB O9 (h := ?_) | refine R.load1 O9 (h := ?_)
     first | refine R.field F149_2 (h := ?_) | refine R.fieldAt F149_2 (h := ?_)
     refine R.storeB O9 (h := ?_)
     refine .n0 ?_
     refine .inBlock ?_
     refine .seq ?_
     refine .region rfl ?_
     first | refine R.loadA A149 (h := ?_) | refine R.loadN A149 (h := ?_) | refine R.loadP A149 (h := ?_)
     refine R.move (h := ?_)
     refine R.storeA A149 (h := ?_)
     refine R.assign (h := ?_)
     refine .n0 ?_
     rw [← e1]
     exact LGo.ret (ret_AT Tryz.results201 A149 hA hmd)
    ·
     rw [if_neg hc4] at e1
     refine .seq ?_
     refine .region rfl ?_
     refine R.bin (run_eql _ _ _ _ _ _) (h := ?_)
     refine R.assign (h := ?_)
     refine .n0 ?_
     first | refine LGo.ifd (ht := fun hc5 => ?_) (hf := fun hc5 => ?_) | refine LGo.ifb (ht := fun hc5 => ?_) (hf := fun hc5 => ?_)
     ·
      rw [if_pos hc5] at e1
      refine .region rfl ?_
      first | refine R.field F48_6 (h := ?_) | refine R.fieldAt F48_6 (h := ?_)
      first | refine R.loadB O3 (h := ?_) | refine R.load1 O3 (h := ?_)
      refine R.callP (es := [_]) (fun _ => widenI_P r.seat hr.seat) (h := ?_)
      refine R.move (h := ?_)
      refine R.extract (h := ?_)
      refine R.extract (h := ?_)
      first | refine R.field F149_1 (h := ?_) | refine R.fieldAt F149_1 (h := ?_)
      refine R.storeB O41 (h := ?_)
      refine R.assign (h := ?_)
      refine .n0 ?_
      refine .inBlock ?_
      refine .seq ?_
      refine .region rfl ?_
      first | refine R.loadA A149 (h := ?_) | refine R.loadN A149 (h := ?_) | refine R.loadP A149 (h := ?_)
      refine R.move (h := ?_)
      refine R.storeA A149 (h := ?_)
      refine R.assign (h := ?_)
      refine .n0 ?_
      rw [← e1]
      exact LGo.ret (ret_AT Tryz.results201 A149 hA hmd)
     ·
      rw [if_neg hc5] at e1
      refine .seq ?_
      refine .region rfl ?_
      refine R.bin (run_eql _ _ _ _ _ _) (h := ?_)
      refine R.assign (h := ?_)
      refine .n0 ?_
      first | refine LGo.ifd (ht := fun hc6 => ?_) (hf := fun hc6 => ?_) | refine LGo.ifb (ht := fun hc6 => ?_) (hf := fun hc6 => ?_)
      ·
       rw [if_pos hc6] at e1
       refine .region rfl ?_
       first | refine R.field F48_7 (h := ?_) | refine R.fieldAt F48_7 (h := ?_)
       first | refine R.loadB O3 (h := ?_) | refine R.load1 O3 (h := ?_)
       refine R.callP (es := [_]) (fun _ => widenI_P r.sec hr.sec) (h := ?_)
       refine R.move (h := ?_)
       refine R.extract (h := ?_)
       refine R.extract (h := ?_)
       first | refine R.field F149_1 (h := ?_) | refine R.fieldAt F149_1 (h := ?_)
       refine R.storeB O41 (h := ?_)
       refine R.assign (h := ?_)
       refine .n0 ?_
       refine .inBlock ?_
       refine .seq ?_
       refine .region rfl ?_
       first | refine R.loadA A149 (h := ?_) | refine R.loadN A149 (h := ?_) | refine R.loadP A149 (h := ?_)
       refine R.move (h := ?_)
       refine R.storeA A149 (h := ?_)
       refine R.assign (h := ?_)
       refine .n0 ?_
       rw [← e1]
       exact LGo.ret (ret_AT Tryz.results201 A149 hA hmd)
      ·
       rw [if_neg hc6] at e1
       refine .seq ?_
       refine .region rfl ?_
       refine R.bin (run_eql _ _ _ _ _ _) (h := ?_)
       refine R.assign (h := ?_)
       refine .n0 ?_
       first | refine LGo.ifd (ht := fun hc7 => ?_) (hf := fun hc7 => ?_) | refine LGo.ifb (ht := fun hc7 => ?_) (hf := fun hc7 => ?_)
       ·
        rw [if_pos hc7] at e1
        refine .region rfl ?_
        first | refine R.field F48_8 (h := ?_) | refine R.fieldAt F48_8 (h := ?_)
        first | refine R.loadB O3 (h := ?_) | refine R.load1 O3 (h := ?_)
        refine R.callP (es := [_]) (fun _ => widenI_P r.n hr.n) (h := ?_)
        refine R.move (h := ?_)
        refine R.extract (h := ?_)
        refine R.extract (h := ?_)
        first | refine R.field F149_1 (h := ?_) | refine R.fieldAt F149_1 (h := ?_)
        refine R.storeB O41 (h := ?_)
        refine R.assign (h := ?_)
        refine .n0 ?_
        refine .inBlock ?_
        refine .seq ?_
        refine .region rfl ?_
        first | refine R.loadA A149 (h := ?_) | refine R.loadN A149 (h := ?_) | refine R.loadP A149 (h := ?_)
        refine R.move (h := ?_)
        refine R.storeA A149 (h := ?_)
        refine R.assign (h := ?_)
        refine .n0 ?_
        rw [← e1]
        exact LGo.ret (ret_AT Tryz.results201 A149 hA hmd)
       ·
        rw [if_neg hc7] at e1
        refine .seq ?_
        refine .region rfl ?_
        refine R.bin (run_eql _ _ _ _ _ _) (h := ?_)
        refine R.assign (h := ?_)
        refine .n0 ?_
        first | refine LGo.ifd (ht := fun hc8 => ?_) (hf := fun hc8 => ?_) | refine LGo.ifb (ht := fun hc8 => ?_) (hf := fun hc8 => ?_)
        ·
         rw [if_pos hc8] at e1
         refine .region rfl ?_
         first | refine R.field F48_3 (h := ?_) | refine R.fieldAt F48_3 (h := ?_)
         first | refine R.loadB O38 (h := ?_) | refine R.load1 O38 (h := ?_)
         refine R.callP (es := [_]) (fun _ => widenV_P r.to hr.to.1 hr.to.2) (h := ?_)
         refine R.move (h := ?_)
         refine R.extract (h := ?_)
         refine R.extract (h := ?_)
         first | refine R.field F149_1 (h := ?_) | refine R.fieldAt F149_1 (h := ?_)
         refine R.storeB O41 (h := ?_)
         refine R.assign (h := ?_)
         refine .n0 ?_
         refine .inBlock ?_
         refine .seq ?_
         refine .region rfl ?_
         first | refine R.loadA A149 (h := ?_) | refine R.loadN A149 (h := ?_) | refine R.loadP A149 (h := ?_)
         refine R.move (h := ?_)
         refine R.storeA A149 (h := ?_)
         refine R.assign (h := ?_)
         refine .n0 ?_
         rw [← e1]
         exact LGo.ret (ret_AT Tryz.results201 A149 hA hmd)
        ·
         rw [if_neg hc8] at e1
         refine .seq ?_
         refine .region rfl ?_
         refine R.bin (run_eql _ _ _ _ _ _) (h := ?_)
         refine R.assign (h := ?_)
         refine .n0 ?_
         first | refine LGo.ifd (ht := fun hc9 => ?_) (hf := fun hc9 => ?_) | refine LGo.ifb (ht := fun hc9 => ?_) (hf := fun hc9 => ?_)
         ·
          rw [if_pos hc9] at e1
          refine .region rfl ?_
          first | refine R.field F48_9 (h := ?_) | refine R.fieldAt F48_9 (h := ?_)
          first | refine R.loadB O3 (h := ?_) | refine R.load1 O3 (h := ?_)
          refine R.callP (es := [_]) (fun _ => widenI_P r.gate hr.gate) (h := ?_)
          refine R.move (h := ?_)
          refine R.extract (h := ?_)
          refine R.extract (h := ?_)
          first | refine R.field F149_1 (h := ?_) | refine R.fieldAt F149_1 (h := ?_)
          refine R.storeB O41 (h := ?_)
          refine R.assign (h := ?_)
          refine .n0 ?_
          refine .inBlock ?_
          refine .seq ?_
          refine .region rfl ?_
          first | refine R.loadA A149 (h := ?_) | refine R.loadN A149 (h := ?_) | refine R.loadP A149 (h := ?_)
          refine R.move (h := ?_)
          refine R.storeA A149 (h := ?_)
          refine R.assign (h := ?_)
          refine .n0 ?_
          rw [← e1]
          exact LGo.ret (ret_AT Tryz.results201 A149 hA hmd)
         ·
          rw [if_neg hc9] at e1
          refine .skip ?_
          refine .inBlock ?_
          refine .seq ?_
          refine .region rfl ?_
          first | refine R.loadA A149 (h := ?_) | refine R.loadN A149 (h := ?_) | refine R.loadP A149 (h := ?_)
          refine R.move (h := ?_)
          refine R.storeA A149 (h := ?_)
          refine R.assign (h := ?_)
          refine .n0 ?_
          rw [← e1]
          exact LGo.ret (ret_AT Tryz.results201 A149 hA hmd)

/-- the error of a field with a rule, behind those before it -/
def errQ (x : Rule) (f : Fld) (is : Bool) (e : Int) : Int := if (decide (x.kind = 1) && (((!is) || decide (f.num < x.low)) || decide (x.high < f.num))) = true then 7 else if ((decide (x.kind = 2) && !decide ((f.txt.length : Int) = x.low)) && decide (e = 0)) = true then 3 else e
def foGo (m : Int) (r : Rq) : Nat → Nat → List Fld → Int → List Fld × Int
  | 0, _, l, e => if (!decide (e = 0)) = true then ([], e) else (l, 0)
  | n + 1, k, l, e => if bitQ m k = 0 then (if ((!decide ((fieldQ r k).1.num = 0)) || !decide ((fieldQ r k).1.txt = [])) = true then ([], 2) else foGo m r n (k + 1) l e)
      else foGo m r n (k + 1) (l ++ [(fieldQ r k).1]) (errQ (ruleQ k) (fieldQ r k).1 (fieldQ r k).2 e)
def fieldsOf (r : Rq) : List Fld × Int := if maskOf r.kind = 0 then ([], 2) else foGo (maskOf r.kind) r 9 1 [] 0
def checkQ (r : Rq) : Int := (fieldsOf r).2
theorem fieldQ_len (r : Rq) (hr : RqOk r) (t : Int) : (fieldQ r t).1.txt.length ≤ maxLen := by
  unfold fieldQ
  have h1 := hr.ses
  have h2 := hr.tic
  (repeat' split) <;> simp [*]

theorem fieldsOf_P (r : Rq) (hr : RqOk r) : PC Tryz.prog 146 [.agg (r.c.map LV.sv)] (.tup [.sv (.sl 3 ((fieldsOf r).1.map Fld.c)), .i (fieldsOf r).2]) := by
 refine ⟨LC.of_go Tryz.func146 (c := _) rfl (by kernel_rfl) (by rw [Tryz.ntmps146]; simp) rfl rfl (by simp [LO.lt, LV.lts, LV.lt, lts_sv]) (by simp) ?_⟩
 intro B hA hmd
 obtain ⟨g, e0⟩ : ∃ g, fieldsOf r = g := ⟨_, rfl⟩
 have e1 := e0
 unfold fieldsOf at e1
 rw [e0]
 have hm := maskOf_lt r.kind
 refine .seq ?_
 refine .region rfl ?_
 refine R.box (h := ?_)
 refine R.assign (h := ?_)
 refine R.assign (h := ?_)
 refine .n0 ?_
 refine LGo.scope ?_
 refine .seq ?_
 refine .region rfl ?_
 first | refine R.field F48_0 (h := ?_) | refine R.fieldAt F48_0 (h := ?_)
 first | refine R.loadB O3 (h := ?_) | refine R.load1 O3 (h := ?_)
 refine R.callP (es := [_]) (fun _ => mask_P r.kind) (h := ?_)
 refine R.assign (h := ?_)
 refine .n0 ?_
 refine .seq ?_
 refine .seq ?_
 refine .region rfl ?_
 refine R.move (h := ?_)
 refine R.bin (run_eql _ _ _ _ _ _) (h := ?_)
 refine .n0 ?_
 refine LGo.ifd (ht := fun hc => ?_) (hf := fun hc => ?_)
 ·
  rw [if_pos hc] at e1; rw [← e1]
  refine .seq ?_
  refine .region rfl ?_
  refine R.assign (h := ?_)
  refine R.assign (h := ?_)
  refine .n0 ?_
  first | refine LGo.frzT 2 (h := ?_) | refine LGo.nilSl 2 3 (h := ?_) | skip
  exact LGo.ret (ret_TT Tryz.results146 hA hmd)
 ·
  rw [if_neg hc] at e1
  generalize maskOf r.kind = m at *
  refine .skip ?_
  refine .seq ?_
  refine .region rfl ?_
  refine R.assign (h := ?_)
  refine .n0 ?_
  refine .seq ?_
  refine .region rfl ?_
  refine R.assign (h := ?_)
  refine .n0 ?_
  refine .seq ?_
  refine .seq ?_
  refine .region rfl ?_
  refine R.assign (h := ?_)
  refine .n0 ?_
  refine .block ?_
  refine .loop ?_
  refine LGo.nilRs 5 149 3 (h := ?_)
  refine LGo.loopG (σ := Nat × Nat × List Fld × Int) (fun x => x.1 + x.2.1 = 10 ∧ 1 ≤ x.2.1 ∧ x.2.2.1.length ≤ x.2.1 ∧ foGo m r x.1 x.2.1 x.2.2.1 x.2.2.2 = g) (fun x => [(7, (true, .i (x.2.1 : Nat))), (5, (true, .ref 1)), (6, (true, .i x.2.2.2))]) (fun x => [(0, .box 48 (r.c.map LV.sv)), (1, .rs 149 3 (x.2.2.1.map Fld.c))]) (fun x => x.1) ((9, 1, [], 0)) [(1, _), (4, _)] ⟨rfl, Nat.le_refl _, Nat.zero_le _, e1⟩ (by repeat (first | exact trivial | refine ⟨rfl, ?_⟩)) (by repeat (first | exact trivial | refine ⟨rfl, ?_⟩)) (by repeat (first | exact trivial | refine ⟨rfl, ?_⟩)) ?_
  rintro ⟨fu, k, acc, e⟩ ⟨q1, q2, q3, e1⟩ ih
  dsimp only at * 
  refine .seq ?_
  refine .seq ?_
  refine .region rfl ?_
  refine R.move (h := ?_)
  refine R.bin (run_leq _ _ _ _ _ _) (h := ?_)
  refine .n0 ?_
  refine LGo.ifd (ht := fun hc2 => ?_) (hf := fun hc2 => ?_)
  ·
   obtain ⟨f, rfl⟩ : ∃ f, fu = f + 1 := ⟨fu - 1, by omega⟩
   rw [foGo] at e1
   have hfl := fieldQ_len r hr (k : Int)
   refine .skip ?_
   refine .seq ?_
   refine .block ?_
   refine .seq ?_
   refine .region rfl ?_
   first | refine R.loadA A48 (h := ?_) | refine R.loadN A48 (h := ?_) | refine R.loadP A48 (h := ?_)
   refine R.move (h := ?_)
   refine R.callP (es := [_, _]) (fun _ => fieldQ_P r hr (k : Int)) (h := ?_)
   refine R.move (h := ?_)
   refine R.extract (h := ?_)
   generalize hfx : (fieldQ r (k : Int)).1 = fx at *
   generalize his : (fieldQ r (k : Int)).2 = is at *
   refine R.extract (h := ?_)
   refine R.alloc Z149 (h := ?_)
   refine R.storeA A149 (h := ?_)
   refine R.assign (h := ?_)
   refine .n0 ?_
   refine .seq ?_
   refine .seq ?_
   refine .region rfl ?_
   refine R.move (h := ?_)
   refine R.move (h := ?_)
   refine R.shr (h := ?_)
   rw [shr_u16 m k (by omega)]
   refine R.bin (run_andE _ _ _ .u16 _ 1 (and1_u16 _ (div_lt m k hm.1 hm.2).1 (div_lt m k hm.1 hm.2).2)) (h := ?_)
   refine R.bin (run_eql _ _ _ _ _ _) (h := ?_)
   refine .n0 ?_
   refine LGo.ifd (ht := fun hc3 => ?_) (hf := fun hc3 => ?_)
   ·
    rw [if_pos (show bitQ m k = 0 from hc3)] at e1
    refine .seq ?_
    refine .seq ?_
    refine .region rfl ?_
    first | refine R.field F149_1 (h := ?_) | refine R.fieldAt F149_1 (h := ?_)
    first | refine R.loadB O41 (h := ?_) | refine R.load1 O41 (h := ?_)
    refine R.bin (run_neq _ _ _ _ _ _) (h := ?_)
    refine R.move (h := ?_)
    first | refine R.field F149_2 (h := ?_) | refine R.fieldAt F149_2 (h := ?_)
    first | refine R.loadB O9 (h := ?_) | refine R.load1 O9 (h := ?_)
    refine R.bin (run_neqT _ _ _ _ _) (h := ?_)
    refine R.or (h := ?_)
    refine .n0 ?_
    refine LGo.ifb (ht := fun hc4 => ?_) (hf := fun hc4 => ?_)
    ·
     rw [if_pos hc4] at e1; rw [← e1]
     refine LGo.goto rfl ?_
     refine .seq ?_
     refine .skip ?_
     refine .seq ?_
     refine .region rfl ?_
     refine R.assign (h := ?_)
     refine R.assign (h := ?_)
     refine .n0 ?_
     first | refine LGo.frzT 2 (h := ?_) | refine LGo.nilSl 2 3 (h := ?_) | skip
     exact LGo.ret (ret_TT Tryz.results146 hA hmd)
    ·
     rw [if_neg (by rw [hc4]; simp)] at e1
     refine .skip ?_
     refine .exit rfl ?_
     refine .region rfl ?_
     refine R.move (h := ?_)
     first | refine R.add (h := ?_) | refine R.addW (h := ?_)
     refine R.assign (h := ?_)
     refine .n0 ?_
     refine .inLoop ?_
     exact LGo.next _ (fun o h => by have := (hA o).1 h; omega) (by omega) (ih (f, k + 1, acc, e) ⟨by dsimp only; omega, by dsimp only; omega, by dsimp only; omega, e1⟩ (by dsimp only; omega)) (by repeat (first | exact trivial | refine ⟨rfl, ?_⟩)) (by repeat (first | exact trivial | refine ⟨rfl, ?_⟩))
   ·
    rw [if_neg (show ¬ bitQ m k = 0 from hc3)] at e1
    refine .skip ?_
    refine .seq ?_
    refine .region rfl ?_
    refine R.move (h := ?_)
    first | refine R.loadA A149 (h := ?_) | refine R.loadN A149 (h := ?_) | refine R.loadP A149 (h := ?_)
    refine R.buildSliceG AP144 (xs := [_]) (es := [_]) (hcs := CellsOfs.cons (CellsOf.agg rfl) CellsOfs.nil) (h := ?_)
    refine R.appendS AP144 (hs := SrcOk.sl Tryz.underlying144 (by simp; rfl)) (hlen := by simp; omega) (h := ?_)
    refine R.assign (h := ?_)
    refine .n0 ?_
    refine .seq ?_
    refine .region rfl ?_
    refine R.move (h := ?_)
    refine R.callP (es := [_]) (fun _ => ruleQ_P (k : Int)) (h := ?_)
    refine R.alloc Z215 (h := ?_)
    refine R.storeA A215 (h := ?_)
    refine .n0 ?_
    refine .block ?_
    refine .seq ?_
    refine .region rfl ?_
    first | refine R.field F215_1 (h := ?_) | refine R.fieldAt F215_1 (h := ?_)
    first | refine R.loadB O3 (h := ?_) | refine R.load1 O3 (h := ?_)
    refine R.bin (run_eql _ _ _ _ _ _) (h := ?_)
    refine R.move (h := ?_)
    refine R.move (h := ?_)
    refine R.not (h := ?_)
    refine R.move (h := ?_)
    first | refine R.field F149_1 (h := ?_) | refine R.fieldAt F149_1 (h := ?_)
    first | refine R.loadB O41 (h := ?_) | refine R.load1 O41 (h := ?_)
    first | refine R.field F215_2 (h := ?_) | refine R.fieldAt F215_2 (h := ?_)
    first | refine R.loadB O41 (h := ?_) | refine R.load1 O41 (h := ?_)
    refine R.bin (run_lss _ _ _ _ _ _) (h := ?_)
    refine R.or (h := ?_)
    refine R.move (h := ?_)
    first | refine R.field F149_1 (h := ?_) | refine R.fieldAt F149_1 (h := ?_)
    first | refine R.loadB O41 (h := ?_) | refine R.load1 O41 (h := ?_)
    first | refine R.field F215_3 (h := ?_) | refine R.fieldAt F215_3 (h := ?_)
    first | refine R.loadB O41 (h := ?_) | refine R.load1 O41 (h := ?_)
    refine R.bin (run_gtr _ _ _ _ _ _) (h := ?_)
    refine R.or (h := ?_)
    refine R.and (h := ?_)
    refine R.assign (h := ?_)
    refine .n0 ?_
    refine LGo.ifb (ht := fun hc5 => ?_) (hf := fun hc5 => ?_)
    ·
     have he : errQ (ruleQ (k : Int)) fx is e = 7 := by unfold errQ; rw [if_pos hc5]
     refine .region rfl ?_
     refine R.assign (h := ?_)
     refine .n0 ?_
     refine .inBlock ?_
     refine .inBlock ?_
     refine .region rfl ?_
     refine R.move (h := ?_)
     first | refine R.add (h := ?_) | refine R.addW (h := ?_)
     refine R.assign (h := ?_)
     refine .n0 ?_
     refine .inLoop ?_
     exact LGo.turn [0, 3] (b := 0) (fun o h => by have := (hA o).1 h; omega) (ih (f, k + 1, acc ++ [fx], 7) ⟨by dsimp only; omega, by dsimp only; omega, by simp; omega, by rw [← he]; exact e1⟩ (by dsimp only; omega)) (by repeat (first | exact trivial | refine ⟨rfl, ?_⟩)) ⟨rfl, by rw [List.map_append]; rfl, trivial⟩
    ·
     refine .seq ?_
     refine .region rfl ?_
     first | refine R.field F215_1 (h := ?_) | refine R.fieldAt F215_1 (h := ?_)
     first | refine R.loadB O3 (h := ?_) | refine R.load1 O3 (h := ?_)
     refine R.bin (run_eql _ _ _ _ _ _) (h := ?_)
     refine R.move (h := ?_)
     first | refine R.field F149_2 (h := ?_) | refine R.fieldAt F149_2 (h := ?_)
     first | refine R.loadB O9 (h := ?_) | refine R.load1 O9 (h := ?_)
     refine R.lenT Tryz.runUnderlying9 (h := ?_)
     first | refine R.convI Tryz.runUnderlying3 Tryz.runUnderlying41 (h := ?_) | refine R.convW Tryz.runUnderlying3 Tryz.runUnderlying41 (h := ?_)
     rw [show IntKind.u64.wrap (fx.txt.length : Int) = (fx.txt.length : Int) from by rw [IntKind.wrap_u64]; unfold maxLen at hfl; omega]
     first | refine R.field F215_2 (h := ?_) | refine R.fieldAt F215_2 (h := ?_)
     first | refine R.loadB O41 (h := ?_) | refine R.load1 O41 (h := ?_)
     refine R.bin (run_neq _ _ _ _ _ _) (h := ?_)
     refine R.and (h := ?_)
     refine R.move (h := ?_)
     refine R.move (h := ?_)
     refine R.bin (run_eql _ _ _ _ _ _) (h := ?_)
     refine R.and (h := ?_)
     refine R.assign (h := ?_)
     refine .n0 ?_
     refine LGo.ifb (ht := fun hc6 => ?_) (hf := fun hc6 => ?_)
     ·
      have he : errQ (ruleQ (k : Int)) fx is e = 3 := by unfold errQ; rw [if_neg (by rw [hc5]; simp), if_pos hc6]
      refine .region rfl ?_
      refine R.assign (h := ?_)
      refine .n0 ?_
      refine .inBlock ?_
      refine .inBlock ?_
      refine .region rfl ?_
      refine R.move (h := ?_)
      first | refine R.add (h := ?_) | refine R.addW (h := ?_)
      refine R.assign (h := ?_)
      refine .n0 ?_
      refine .inLoop ?_
      exact LGo.turn [0, 3] (b := 0) (fun o h => by have := (hA o).1 h; omega) (ih (f, k + 1, acc ++ [fx], 3) ⟨by dsimp only; omega, by dsimp only; omega, by simp; omega, by rw [← he]; exact e1⟩ (by dsimp only; omega)) (by repeat (first | exact trivial | refine ⟨rfl, ?_⟩)) ⟨rfl, by rw [List.map_append]; rfl, trivial⟩
     ·
      have he : errQ (ruleQ (k : Int)) fx is e = e := by unfold errQ; rw [if_neg (by rw [hc5]; simp), if_neg (by rw [hc6]; simp)]
      refine .skip ?_
      refine .inBlock ?_
      refine .inBlock ?_
      refine .region rfl ?_
      refine R.move (h := ?_)
      first | refine R.add (h := ?_) | refine R.addW (h := ?_)
      refine R.assign (h := ?_)
      refine .n0 ?_
      refine .inLoop ?_
      exact LGo.turn [0, 3] (b := 0) (fun o h => by have := (hA o).1 h; omega) (ih (f, k + 1, acc ++ [fx], e) ⟨by dsimp only; omega, by dsimp only; omega, by simp; omega, by rw [← he]; exact e1⟩ (by dsimp only; omega)) (by repeat (first | exact trivial | refine ⟨rfl, ?_⟩)) ⟨rfl, by rw [List.map_append]; rfl, trivial⟩
  ·
   obtain rfl : fu = 0 := by omega
   rw [foGo] at e1
   refine .exit rfl ?_
   refine .seq ?_
   refine .seq ?_
   refine .region rfl ?_
   refine R.move (h := ?_)
   refine R.bin (run_neq _ _ _ _ _ _) (h := ?_)
   refine .n0 ?_
   refine LGo.ifb (ht := fun hc7 => ?_) (hf := fun hc7 => ?_)
   ·
    rw [if_pos hc7] at e1; rw [← e1]
    refine .seq ?_
    refine .region rfl ?_
    refine R.move (h := ?_)
    refine R.assign (h := ?_)
    refine R.assign (h := ?_)
    refine .n0 ?_
    first | refine LGo.frzT 2 (h := ?_) | refine LGo.nilSl 2 3 (h := ?_) | skip
    exact LGo.ret (ret_TT Tryz.results146 hA hmd)
   ·
    rw [if_neg (by rw [hc7]; simp)] at e1; rw [← e1]
    refine .skip ?_
    refine .seq ?_
    refine .seq ?_
    refine .region rfl ?_
    refine R.move (h := ?_)
    refine R.assign (h := ?_)
    refine R.assign (h := ?_)
    refine .n0 ?_
    first | refine LGo.frzT 2 (h := ?_) | refine LGo.nilSl 2 3 (h := ?_) | skip
    exact LGo.ret (ret_TT Tryz.results146 hA hmd)

theorem checkQ_P (r : Rq) (hr : RqOk r) : PC Tryz.prog 143 [.agg (r.c.map LV.sv)] (.i (checkQ r)) := by
 refine ⟨LC.of_go Tryz.func143 (c := _) rfl (by kernel_rfl) (by rw [Tryz.ntmps143]; simp) rfl rfl (by simp [LO.lt, LV.lts, LV.lt, lts_sv]) (by simp) ?_⟩
 intro B hA hmd
 unfold checkQ
 refine .seq ?_
 refine .region rfl ?_
 refine R.box (h := ?_)
 refine R.assign (h := ?_)
 refine .n0 ?_
 refine .seq ?_
 refine .region rfl ?_
 first | refine R.loadA A48 (h := ?_) | refine R.loadN A48 (h := ?_) | refine R.loadP A48 (h := ?_)
 refine R.callP (es := [_]) (fun _ => fieldsOf_P r hr) (h := ?_)
 refine R.move (h := ?_)
 refine R.extract (h := ?_)
 refine R.extract (h := ?_)
 refine R.assign (h := ?_)
 refine R.assign (h := ?_)
 refine .n0 ?_
 refine .seq ?_
 refine .region rfl ?_
 refine R.move (h := ?_)
 refine R.assign (h := ?_)
 refine .n0 ?_
 exact LGo.ret (ret_T Tryz.results143 hA hmd)

end Go.Proofs.YteccglgbkehdeaaGreatDoor
/- requests: Rules; the reference's kinds, tags, rules and check. -/
set_option linter.unusedSimpArgs false
set_option linter.unusedVariables false
namespace Go.Proofs.YteccglgbkehdeaaGreatDoor

def ruGo (m : Int) : Nat → Nat → List Rule → List Rule
  | 0, _, l => l
  | n + 1, k, l => if bitQ m k = 1 then ruGo m n (k + 1) (l ++ [ruleQ k]) else ruGo m n (k + 1) l
def rulesQ (k : Int) : List Rule × Int := if maskOf k = 0 then ([], 2) else (ruGo (maskOf k) 16 0 [], 0)

theorem rulesQ_P (kd : Int) : PC Tryz.prog 147 [.i kd] (.tup [.sv (.sl 5 ((rulesQ kd).1.map Rule.c)), .i (rulesQ kd).2]) := by
 refine ⟨LC.of_go Tryz.func147 (c := _) rfl (by kernel_rfl) (by rw [Tryz.ntmps147]; simp) rfl rfl (by simp [LO.lt, LV.lts, LV.lt, lts_sv]) (by simp) ?_⟩
 intro B hA hmd
 obtain ⟨g, e0⟩ : ∃ g, rulesQ kd = g := ⟨_, rfl⟩
 have e1 := e0
 unfold rulesQ at e1
 rw [e0]
 have hm := maskOf_lt kd
 refine .seq ?_
 refine .region rfl ?_
 refine R.assign (h := ?_)
 refine R.assign (h := ?_)
 refine .n0 ?_
 refine .seq ?_
 refine .region rfl ?_
 refine R.move (h := ?_)
 refine R.callP (es := [_]) (fun _ => mask_P kd) (h := ?_)
 refine R.assign (h := ?_)
 refine .n0 ?_
 refine .seq ?_
 refine .seq ?_
 refine .region rfl ?_
 refine R.move (h := ?_)
 refine R.bin (run_eql _ _ _ _ _ _) (h := ?_)
 refine .n0 ?_
 refine LGo.ifd (ht := fun hc => ?_) (hf := fun hc => ?_)
 ·
  rw [if_pos hc] at e1; rw [← e1]
  refine .seq ?_
  refine .region rfl ?_
  refine R.assign (h := ?_)
  refine R.assign (h := ?_)
  refine .n0 ?_
  first | refine LGo.frzT 2 (h := ?_) | refine LGo.nilSl 2 5 (h := ?_) | skip
  exact LGo.ret (ret_TT Tryz.results147 hA hmd)
 ·
  rw [if_neg hc] at e1
  generalize maskOf kd = m at *
  refine .skip ?_
  refine .seq ?_
  refine .region rfl ?_
  refine R.assign (h := ?_)
  refine .n0 ?_
  refine .seq ?_
  refine .seq ?_
  refine .region rfl ?_
  refine R.move (h := ?_)
  refine .n0 ?_
  refine .block ?_
  refine .loop ?_
  refine LGo.nilRs 5 215 5 (h := ?_)
  refine LGo.loopG (σ := Nat × Nat × List Rule) (fun x => x.1 + x.2.1 = 16 ∧ x.2.2.length ≤ x.2.1 ∧ (ruGo m x.1 x.2.1 x.2.2, (0 : Int)) = g) (fun x => [(11, (true, .i (x.2.1 : Nat))), (5, (true, .ref 0))]) (fun x => [(0, .rs 215 5 (x.2.2.map Rule.c))]) (fun x => x.1) ((16, 0, [])) [(4, _)] ⟨rfl, Nat.le_refl _, e1⟩ (by repeat (first | exact trivial | refine ⟨rfl, ?_⟩)) (by repeat (first | exact trivial | refine ⟨rfl, ?_⟩)) (by repeat (first | exact trivial | refine ⟨rfl, ?_⟩)) ?_
  rintro ⟨fu, k, acc⟩ ⟨q1, q2, e1⟩ ih
  dsimp only at * 
  refine .seq ?_
  refine .region rfl ?_
  refine R.bin (run_lss _ _ _ _ _ _) (h := ?_)
  refine .n0 ?_
  refine .seq ?_
  refine LGo.ifd (ht := fun hc2 => ?_) (hf := fun hc2 => ?_)
  ·
   obtain ⟨f, rfl⟩ : ∃ f, fu = f + 1 := ⟨fu - 1, by omega⟩
   rw [ruGo] at e1
   refine .skip ?_
   refine .seq ?_
   refine .block ?_
   refine .seq ?_
   refine .region rfl ?_
   refine R.move (h := ?_)
   refine R.assign (h := ?_)
   refine .n0 ?_
   refine .seq ?_
   refine .region rfl ?_
   refine R.move (h := ?_)
   refine R.move (h := ?_)
   refine R.shr (h := ?_)
   rw [shr_u16 m k (by omega)]
   refine R.bin (run_andE _ _ _ .u16 _ 1 (and1_u16 _ (div_lt m k hm.1 hm.2).1 (div_lt m k hm.1 hm.2).2)) (h := ?_)
   refine R.bin (run_eql _ _ _ _ _ _) (h := ?_)
   refine .n0 ?_
   refine LGo.ifd (ht := fun hc3 => ?_) (hf := fun hc3 => ?_)
   ·
    rw [if_pos (show bitQ m k = 1 from hc3)] at e1
    refine .region rfl ?_
    refine R.move (h := ?_)
    refine R.move (h := ?_)
    refine R.callP (es := [_]) (fun _ => ruleQ_P (k : Int)) (h := ?_)
    refine R.buildSliceG AP141 (xs := [_]) (es := [_]) (hcs := CellsOfs.cons (CellsOf.agg rfl) CellsOfs.nil) (h := ?_)
    refine R.appendS AP141 (hs := SrcOk.sl Tryz.underlying141 (by simp; rfl)) (hlen := by simp; omega) (h := ?_)
    refine R.assign (h := ?_)
    refine .n0 ?_
    refine .inBlock ?_
    refine .region rfl ?_
    first | refine R.add (h := ?_) | refine R.addW (h := ?_)
    refine R.move (h := ?_)
    refine .n0 ?_
    refine .inLoop ?_
    exact LGo.turn [1] (b := 0) (fun o h => by have := (hA o).1 h; omega) (ih (f, k + 1, acc ++ [ruleQ k]) ⟨by dsimp only; omega, by simp; omega, e1⟩ (by dsimp only; omega)) (by repeat (first | exact trivial | refine ⟨rfl, ?_⟩)) ⟨by rw [List.map_append]; rfl, trivial⟩
   ·
    rw [if_neg (show ¬ bitQ m k = 1 from hc3)] at e1
    refine .skip ?_
    refine .inBlock ?_
    refine .region rfl ?_
    first | refine R.add (h := ?_) | refine R.addW (h := ?_)
    refine R.move (h := ?_)
    refine .n0 ?_
    refine .inLoop ?_
    exact LGo.next _ (fun o h => by have := (hA o).1 h; omega) (by omega) (ih (f, k + 1, acc) ⟨by dsimp only; omega, by dsimp only; omega, e1⟩ (by dsimp only; omega)) (by repeat (first | exact trivial | refine ⟨rfl, ?_⟩)) (by repeat (first | exact trivial | refine ⟨rfl, ?_⟩))
  ·
   obtain rfl : fu = 0 := by omega
   rw [ruGo] at e1
   rw [← e1]
   refine .exit rfl ?_
   refine .seq ?_
   refine .region rfl ?_
   refine R.move (h := ?_)
   refine R.assign (h := ?_)
   refine R.assign (h := ?_)
   refine .n0 ?_
   first | refine LGo.frzT 2 (h := ?_) | refine LGo.nilSl 2 5 (h := ?_) | skip
   exact LGo.ret (ret_TT Tryz.results147 hA hmd)

/-- the words of the kinds of requests -/
def kindW : List (List UInt8) := [[], [111, 112, 101, 110], [104, 111, 108, 100], [98, 108, 111, 99, 107], [114, 101, 108, 101, 97, 115, 101], [98, 117, 121], [116, 114, 97, 110, 115, 102, 101, 114], [114, 101, 102, 117, 110, 100], [114, 101, 118, 111, 107, 101], [118, 97, 108, 105, 100, 97, 116, 101], [106, 111, 105, 110], [108, 101, 97, 118, 101], [], [101, 110, 116, 101, 114]]
def wordQ (k : Int) : List UInt8 := if k < 1 ∨ 13 < k then [] else kindW.getD k.toNat []
theorem kindW_at {k : Int} (h : ¬ (k < 1 ∨ 13 < k)) : (strsC kindW)[k.toNat]? = some [.val (.string ⟨(wordQ k).toArray⟩)] := by
  have h1 : k.toNat < kindW.length := by simp [kindW]; omega
  rw [strsC, List.getElem?_map, wordQ, if_neg h, List.getD_eq_getElem?_getD, List.getElem?_eq_getElem h1]
  rfl

theorem wordQ_P (k : Int) : PC Tryz.prog 81 [.i k] (.t (wordQ k)) := by
 refine ⟨LC.of_go Tryz.func81 (c := _) rfl (by kernel_rfl) (by rw [Tryz.ntmps81]; simp) rfl rfl (by simp [LO.lt, LV.lts, LV.lt, lts_sv]) (by simp) ?_⟩
 intro B hA hmd
 refine .seq ?_
 refine .region rfl ?_
 refine R.assign (h := ?_)
 refine .n0 ?_
 refine .seq ?_
 refine .seq ?_
 refine .region rfl ?_
 refine R.move (h := ?_)
 refine R.bin (run_lss _ _ _ _ _ _) (h := ?_)
 refine R.move (h := ?_)
 refine R.move (h := ?_)
 refine R.bin (run_gtr _ _ _ _ _ _) (h := ?_)
 refine R.or (h := ?_)
 refine .n0 ?_
 refine LGo.ifb (ht := fun hc => ?_) (hf := fun hc => ?_)
 ·
  rw [show wordQ k = [] from if_pos (by simpa using hc)]
  refine .seq ?_
  refine .region rfl ?_
  refine R.assign (h := ?_)
  refine .n0 ?_
  exact LGo.ret (ret_T Tryz.results81 hA hmd)
 ·
  have hk : ¬ (k < 1 ∨ 13 < k) := by simpa using hc
  have hx := kindW_at hk
  refine .skip ?_
  refine .seq ?_
  refine .region rfl ?_
  refine R.buildSliceF AP117 (strsC kindW) (xs := [_, _, _, _, _, _, _, _, _, _, _, _, _, _]) (es := [_, _, _, _, _, _, _, _, _, _, _, _, _, _]) (hcs := CellsOfs.cons (CellsOf.one rfl) (CellsOfs.cons (CellsOf.one rfl) (CellsOfs.cons (CellsOf.one rfl) (CellsOfs.cons (CellsOf.one rfl) (CellsOfs.cons (CellsOf.one rfl) (CellsOfs.cons (CellsOf.one rfl) (CellsOfs.cons (CellsOf.one rfl) (CellsOfs.cons (CellsOf.one rfl) (CellsOfs.cons (CellsOf.one rfl) (CellsOfs.cons (CellsOf.one rfl) (CellsOfs.cons (CellsOf.one rfl) (CellsOfs.cons (CellsOf.one rfl) (CellsOfs.cons (CellsOf.one rfl) (CellsOfs.cons (CellsOf.one rfl) (CellsOfs.nil))))))))))))))) (h := ?_)
  refine R.move (h := ?_)
  refine R.index I117 (hj := fun hg => ⟨by omega, hx⟩) (h := ?_)
  first | refine R.loadB O9 (h := ?_) | refine R.load1 O9 (h := ?_)
  refine R.assign (h := ?_)
  refine .n0 ?_
  exact LGo.ret (ret_T Tryz.results81 hA hmd)

def tagsQ (k : Int) : List Int := if k = 1 then [2] else if k = 2 then [3, 5] else if k = 4 then [3, 5] else if k = 5 then [3, 5] else if k = 8 then [3, 5] else if k = 3 then [3, 6, 7] else if k = 6 then [3, 4, 8] else if k = 7 then [3, 4] else if k = 9 then [4] else if k = 10 then [3, 6] else if k = 11 then [3, 6] else [4, 9]
theorem tagsQ_len (k : Int) : (tagsQ k).length ≤ 3 := by unfold tagsQ; (repeat' split) <;> simp
/-- has a kind the field with a tag -/
def hasGo (t : Int) : List Int → Bool
  | [] => decide (t = 1)
  | x :: l => if x = t then true else hasGo t l
def hasQ (k t : Int) : Bool := hasGo t (tagsQ k)

theorem tagsQ_P (k : Int) : PC Tryz.prog 212 [.i k] (.sv (.sl 1 (ic .i64 (tagsQ k)))) := by
 refine ⟨LC.of_go Tryz.func212 (c := _) rfl (by kernel_rfl) (by rw [Tryz.ntmps212]; simp) rfl rfl (by simp [LO.lt, LV.lts, LV.lt, lts_sv]) (by simp) ?_⟩
 intro B hA hmd
 obtain ⟨g, e0⟩ : ∃ g, tagsQ k = g := ⟨_, rfl⟩
 have e1 := e0
 unfold tagsQ at e1
 rw [e0]
 refine .seq ?_
 refine .region rfl ?_
 refine R.assign (h := ?_)
 refine .n0 ?_
 refine .seq ?_
 refine .seq ?_
 refine .region rfl ?_
 refine R.move (h := ?_)
 refine .n0 ?_
 refine .block ?_
 refine .seq ?_
 refine .region rfl ?_
 refine R.bin (run_eql _ _ _ _ _ _) (h := ?_)
 refine R.assign (h := ?_)
 refine .n0 ?_
 first | refine LGo.ifd (ht := fun hc => ?_) (hf := fun hc => ?_) | refine LGo.ifb (ht := fun hc => ?_) (hf := fun hc => ?_)
 ·
  rw [if_pos hc] at e1
  refine .seq ?_
  refine .region rfl ?_
  refine R.buildSliceG AP65 (xs := [_]) (es := [_]) (hcs := CellsOfs.cons (CellsOf.one rfl) CellsOfs.nil) (h := ?_)
  refine R.assign (h := ?_)
  refine .n0 ?_
  rw [← e1]
  exact LGo.ret (ret_T Tryz.results212 hA hmd)
 ·
  rw [if_neg hc] at e1
  refine .seq ?_
  refine .seq ?_
  refine .region rfl ?_
  refine R.bin (run_eql _ _ _ _ _ _) (h := ?_)
  refine R.assign (h := ?_)
  refine .n0 ?_
  first | refine LGo.ifd (ht := fun hc2 => ?_) (hf := fun hc2 => ?_) | refine LGo.ifb (ht := fun hc2 => ?_) (hf := fun hc2 => ?_)
  ·
   rw [if_pos hc2] at e1
   refine .skip ?_
   first | refine LGo.ifd (ht := fun _ => ?_) (hf := fun h => absurd hc2 h) | refine LGo.ifb (ht := fun _ => ?_) (hf := fun h => by rw [hc2] at h; cases h)
   refine .seq ?_
   refine .region rfl ?_
   refine R.buildSliceG AP65 (xs := [_, _]) (es := [_, _]) (hcs := CellsOfs.cons (CellsOf.one rfl) (CellsOfs.cons (CellsOf.one rfl) CellsOfs.nil)) (h := ?_)
   refine R.assign (h := ?_)
   refine .n0 ?_
   rw [← e1]
   exact LGo.ret (ret_T Tryz.results212 hA hmd)
  ·
   rw [if_neg hc2] at e1
   refine .seq ?_
   refine .region rfl ?_
   refine R.bin (run_eql _ _ _ _ _ _) (h := ?_)
   refine R.assign (h := ?_)
   refine .n0 ?_
   first | refine LGo.ifd (ht := fun hc4 => ?_) (hf := fun hc4 => ?_) | refine LGo.ifb (ht := fun hc4 => ?_) (hf := fun hc4 => ?_)
   ·
    rw [if_pos hc4] at e1
    refine .skip ?_
    first | refine LGo.ifd (ht := fun _ => ?_) (hf := fun h => absurd hc4 h) | refine LGo.ifb (ht := fun _ => ?_) (hf := fun h => by rw [hc4] at h; cases h)
    refine .seq ?_
    refine .region rfl ?_
    refine R.buildSliceG AP65 (xs := [_, _]) (es := [_, _]) (hcs := CellsOfs.cons (CellsOf.one rfl) (CellsOfs.cons (CellsOf.one rfl) CellsOfs.nil)) (h := ?_)
    refine R.assign (h := ?_)
    refine .n0 ?_
    rw [← e1]
    exact LGo.ret (ret_T Tryz.results212 hA hmd)
   ·
    rw [if_neg hc4] at e1
    refine .seq ?_
    refine .region rfl ?_
    refine R.bin (run_eql _ _ _ _ _ _) (h := ?_)
    refine R.assign (h := ?_)
    refine .n0 ?_
    first | refine LGo.ifd (ht := fun hc6 => ?_) (hf := fun hc6 => ?_) | refine LGo.ifb (ht := fun hc6 => ?_) (hf := fun hc6 => ?_)
    ·
     rw [if_pos hc6] at e1
     refine .skip ?_
     first | refine LGo.ifd (ht := fun _ => ?_) (hf := fun h => absurd hc6 h) | refine LGo.ifb (ht := fun _ => ?_) (hf := fun h => by rw [hc6] at h; cases h)
     refine .seq ?_
     refine .region rfl ?_
     refine R.buildSliceG AP65 (xs := [_, _]) (es := [_, _]) (hcs := CellsOfs.cons (CellsOf.one rfl) (CellsOfs.cons (CellsOf.one rfl) CellsOfs.nil)) (h := ?_)
     refine R.assign (h := ?_)
     refine .n0 ?_
     rw [← e1]
     exact LGo.ret (ret_T Tryz.results212 hA hmd)
    ·
     rw [if_neg hc6] at e1
     refine .region rfl ?_
     refine R.bin (run_eql _ _ _ _ _ _) (h := ?_)
     refine R.assign (h := ?_)
     refine .n0 ?_
     first | refine LGo.ifd (ht := fun hc8 => ?_) (hf := fun hc8 => ?_) | refine LGo.ifb (ht := fun hc8 => ?_) (hf := fun hc8 => ?_)
     ·
      rw [if_pos hc8] at e1
      refine .seq ?_
      refine .region rfl ?_
      refine R.buildSliceG AP65 (xs := [_, _]) (es := [_, _]) (hcs := CellsOfs.cons (CellsOf.one rfl) (CellsOfs.cons (CellsOf.one rfl) CellsOfs.nil)) (h := ?_)
      refine R.assign (h := ?_)
      refine .n0 ?_
      rw [← e1]
      exact LGo.ret (ret_T Tryz.results212 hA hmd)
     ·
      rw [if_neg hc8] at e1
      refine .seq ?_
      refine .region rfl ?_
      refine R.bin (run_eql _ _ _ _ _ _) (h := ?_)
      refine R.assign (h := ?_)
      refine .n0 ?_
      first | refine LGo.ifd (ht := fun hc9 => ?_) (hf := fun hc9 => ?_) | refine LGo.ifb (ht := fun hc9 => ?_) (hf := fun hc9 => ?_)
      ·
       rw [if_pos hc9] at e1
       refine .seq ?_
       refine .region rfl ?_
       refine R.buildSliceG AP65 (xs := [_, _, _]) (es := [_, _, _]) (hcs := CellsOfs.cons (CellsOf.one rfl) (CellsOfs.cons (CellsOf.one rfl) (CellsOfs.cons (CellsOf.one rfl) CellsOfs.nil))) (h := ?_)
       refine R.assign (h := ?_)
       refine .n0 ?_
       rw [← e1]
       exact LGo.ret (ret_T Tryz.results212 hA hmd)
      ·
       rw [if_neg hc9] at e1
       refine .seq ?_
       refine .region rfl ?_
       refine R.bin (run_eql _ _ _ _ _ _) (h := ?_)
       refine R.assign (h := ?_)
       refine .n0 ?_
       first | refine LGo.ifd (ht := fun hc10 => ?_) (hf := fun hc10 => ?_) | refine LGo.ifb (ht := fun hc10 => ?_) (hf := fun hc10 => ?_)
       ·
        rw [if_pos hc10] at e1
        refine .seq ?_
        refine .region rfl ?_
        refine R.buildSliceG AP65 (xs := [_, _, _]) (es := [_, _, _]) (hcs := CellsOfs.cons (CellsOf.one rfl) (CellsOfs.cons (CellsOf.one rfl) (CellsOfs.cons (CellsOf.one rfl) CellsOfs.nil))) (h := ?_)
        refine R.assign (h := ?_)
        refine .n0 ?_
        rw [← e1]
        exact LGo.ret (ret_T Tryz.results212 hA hmd)
       ·
        rw [if_neg hc10] at e1
        refine .seq ?_
        refine .region rfl ?_
        refine R.bin (run_eql _ _ _ _ _ _) (h := ?_)
        refine R.assign (h := ?_)
        refine .n0 ?_
        first | refine LGo.ifd (ht := fun hc11 => ?_) (hf := fun hc11 => ?_) | refine LGo.ifb (ht := fun hc11 => ?_) (hf := fun hc11 => ?_)
        ·
         rw [if_pos hc11] at e1
         refine .seq ?_
         refine .region rfl ?_
         refine R.buildSliceG AP65 (xs := [_, _]) (es := [_, _]) (hcs := CellsOfs.cons (CellsOf.one rfl) (CellsOfs.cons (CellsOf.one rfl) CellsOfs.nil)) (h := ?_)
         refine R.assign (h := ?_)
         refine .n0 ?_
         rw [← e1]
         exact LGo.ret (ret_T Tryz.results212 hA hmd)
        ·
         rw [if_neg hc11] at e1
         refine .seq ?_
         refine .region rfl ?_
         refine R.bin (run_eql _ _ _ _ _ _) (h := ?_)
         refine R.assign (h := ?_)
         refine .n0 ?_
         first | refine LGo.ifd (ht := fun hc12 => ?_) (hf := fun hc12 => ?_) | refine LGo.ifb (ht := fun hc12 => ?_) (hf := fun hc12 => ?_)
         ·
          rw [if_pos hc12] at e1
          refine .seq ?_
          refine .region rfl ?_
          refine R.buildSliceG AP65 (xs := [_]) (es := [_]) (hcs := CellsOfs.cons (CellsOf.one rfl) CellsOfs.nil) (h := ?_)
          refine R.assign (h := ?_)
          refine .n0 ?_
          rw [← e1]
          exact LGo.ret (ret_T Tryz.results212 hA hmd)
         ·
          rw [if_neg hc12] at e1
          refine .seq ?_
          refine .seq ?_
          refine .region rfl ?_
          refine R.bin (run_eql _ _ _ _ _ _) (h := ?_)
          refine R.assign (h := ?_)
          refine .n0 ?_
          first | refine LGo.ifd (ht := fun hc13 => ?_) (hf := fun hc13 => ?_) | refine LGo.ifb (ht := fun hc13 => ?_) (hf := fun hc13 => ?_)
          ·
           rw [if_pos hc13] at e1
           refine .skip ?_
           first | refine LGo.ifd (ht := fun _ => ?_) (hf := fun h => absurd hc13 h) | refine LGo.ifb (ht := fun _ => ?_) (hf := fun h => by rw [hc13] at h; cases h)
           refine .seq ?_
           refine .region rfl ?_
           refine R.buildSliceG AP65 (xs := [_, _]) (es := [_, _]) (hcs := CellsOfs.cons (CellsOf.one rfl) (CellsOfs.cons (CellsOf.one rfl) CellsOfs.nil)) (h := ?_)
           refine R.assign (h := ?_)
           refine .n0 ?_
           rw [← e1]
           exact LGo.ret (ret_T Tryz.results212 hA hmd)
          ·
           rw [if_neg hc13] at e1
           refine .region rfl ?_
           refine R.bin (run_eql _ _ _ _ _ _) (h := ?_)
           refine R.assign (h := ?_)
           refine .n0 ?_
           first | refine LGo.ifd (ht := fun hc15 => ?_) (hf := fun hc15 => ?_) | refine LGo.ifb (ht := fun hc15 => ?_) (hf := fun hc15 => ?_)
           ·
            rw [if_pos hc15] at e1
            refine .seq ?_
            refine .region rfl ?_
            refine R.buildSliceG AP65 (xs := [_, _]) (es := [_, _]) (hcs := CellsOfs.cons (CellsOf.one rfl) (CellsOfs.cons (CellsOf.one rfl) CellsOfs.nil)) (h := ?_)
            refine R.assign (h := ?_)
            refine .n0 ?_
            rw [← e1]
            exact LGo.ret (ret_T Tryz.results212 hA hmd)
           ·
            rw [if_neg hc15] at e1
            refine .skip ?_
            refine .inBlock ?_
            refine .seq ?_
            refine .region rfl ?_
            refine R.buildSliceG AP65 (xs := [_, _]) (es := [_, _]) (hcs := CellsOfs.cons (CellsOf.one rfl) (CellsOfs.cons (CellsOf.one rfl) CellsOfs.nil)) (h := ?_)
            refine R.assign (h := ?_)
            refine .n0 ?_
            rw [← e1]
            exact LGo.ret (ret_T Tryz.results212 hA hmd)

theorem hasQ_P (kd t : Int) : PC Tryz.prog 154 [.i kd, .i t] (.b (hasQ kd t)) := by
 refine ⟨LC.of_go Tryz.func154 (c := _) rfl (by kernel_rfl) (by rw [Tryz.ntmps154]; simp) rfl rfl (by simp [LO.lt, LV.lts, LV.lt, lts_sv]) (by simp) ?_⟩
 intro B hA hmd
 obtain ⟨g, e0⟩ : ∃ g, hasQ kd t = g := ⟨_, rfl⟩
 have e1 := e0
 unfold hasQ at e1
 rw [e0]
 have hln := tagsQ_len kd
 refine .seq ?_
 refine .region rfl ?_
 refine R.assign (h := ?_)
 refine .n0 ?_
 refine .seq ?_
 refine .region rfl ?_
 refine R.move (h := ?_)
 refine R.callP (es := [_]) (fun _ => tagsQ_P kd) (h := ?_)
 generalize tagsQ kd = xs at *
 refine R.assign (h := ?_)
 refine .n0 ?_
 refine .seq ?_
 refine .seq ?_
 refine .region rfl ?_
 refine R.assign (h := ?_)
 refine .n0 ?_
 refine .block ?_
 refine .loop ?_
 refine LGo.loopG (σ := Nat) (fun x => x ≤ xs.length ∧ hasGo t (xs.drop x) = g) (fun x => [(6, (true, .i (x : Nat)))]) (fun x => []) (fun x => xs.length - x) (0) [(1, _), (5, _)] ⟨Nat.zero_le _, by simpa using e1⟩ (by repeat (first | exact trivial | refine ⟨rfl, ?_⟩)) (by repeat (first | exact trivial | refine ⟨rfl, ?_⟩)) (by repeat (first | exact trivial | refine ⟨rfl, ?_⟩)) ?_
 rintro k ⟨hk, hq⟩ ih
 refine .seq ?_
 refine .seq ?_
 refine .region rfl ?_
 refine R.move (h := ?_)
 refine R.move (h := ?_)
 first | refine R.len S65 (h := ?_) | refine R.lenRs S65 (h := ?_) | refine R.lenV (run_lenNil S65) (h := ?_)
 rw [ic_len]
 refine R.bin (run_lss _ _ _ _ _ _) (h := ?_)
 refine .n0 ?_
 refine LGo.ifd (ht := fun hc => ?_) (hf := fun hc => ?_)
 ·
  have hlt : k < xs.length := by omega
  have hx : (ic .i64 xs)[((k : Nat) : Int).toNat]? = some [.val (.int .i64 xs[k])] := by rw [Int.toNat_natCast]; exact ic_get (List.getElem?_eq_getElem hlt)
  rw [List.drop_eq_getElem_cons hlt, hasGo] at hq
  generalize xs[k] = x at hx hq
  refine .skip ?_
  refine .seq ?_
  refine .block ?_
  refine .seq ?_
  refine .region rfl ?_
  refine R.move (h := ?_)
  refine R.move (h := ?_)
  refine R.index I65 (hj := fun hg => ⟨by omega, hx⟩) (h := ?_)
  first | refine R.loadB O3 (h := ?_) | refine R.load1 O3 (h := ?_)
  refine R.move (h := ?_)
  refine R.bin (run_eql _ _ _ _ _ _) (h := ?_)
  refine .n0 ?_
  refine LGo.ifd (ht := fun hc2 => ?_) (hf := fun hc2 => ?_)
  ·
   rw [if_pos hc2] at hq; rw [← hq]
   refine .seq ?_
   refine .region rfl ?_
   refine R.assign (h := ?_)
   refine .n0 ?_
   exact LGo.ret (ret_T Tryz.results154 hA hmd)
  ·
   rw [if_neg hc2] at hq
   refine .skip ?_
   refine .inBlock ?_
   refine .region rfl ?_
   refine R.move (h := ?_)
   first | refine R.add (h := ?_) | refine R.addW (h := ?_)
   refine R.assign (h := ?_)
   refine .n0 ?_
   refine .inLoop ?_
   exact LGo.next _ (fun o h => by have := (hA o).1 h; omega) (by omega) (ih (k + 1) ⟨hlt, hq⟩ (by omega)) (by repeat (first | exact trivial | refine ⟨rfl, ?_⟩)) (by repeat (first | exact trivial | refine ⟨rfl, ?_⟩))
 ·
  rw [List.drop_eq_nil_of_le (by omega), hasGo] at hq; rw [← hq]
  refine .exit rfl ?_
  refine .seq ?_
  refine .region rfl ?_
  refine R.move (h := ?_)
  refine R.bin (run_eql _ _ _ _ _ _) (h := ?_)
  refine R.assign (h := ?_)
  refine .n0 ?_
  exact LGo.ret (ret_T Tryz.results154 hA hmd)

theorem ruleR9_P (t : Int) : PC Tryz.prog 155 [.i t] (.agg ((ruleQ t).c.map LV.sv)) := by
 refine ⟨LC.of_go Tryz.func155 (c := _) rfl (by kernel_rfl) (by rw [Tryz.ntmps155]; simp) rfl rfl (by simp [LO.lt, LV.lts, LV.lt, lts_sv]) (by simp) ?_⟩
 intro B hA hmd
 obtain ⟨g, e0⟩ : ∃ g, ruleQ t = g := ⟨_, rfl⟩
 have e1 := e0
 unfold ruleQ at e1
 rw [e0]
 refine .seq ?_
 refine .region rfl ?_
 refine R.alloc Z215 (h := ?_)
 refine .n0 ?_
 refine .seq ?_
 refine .region rfl ?_
 refine R.move (h := ?_)
 refine R.build BF215 (is := [0, 1, 3, 4]) (xs := [_, _, _, _]) (es := [_, _, _, _]) (h := ?_)
 refine R.alloc Z215 (h := ?_)
 refine R.storeA A215 (h := ?_)
 refine .n0 ?_
 refine .seq ?_
 refine .seq ?_
 refine .region rfl ?_
 refine R.move (h := ?_)
 refine .n0 ?_
 refine .block ?_
 refine .seq ?_
 refine .region rfl ?_
 refine R.bin (run_eql _ _ _ _ _ _) (h := ?_)
 refine R.assign (h := ?_)
 refine .n0 ?_
 first | refine LGo.ifd (ht := fun hc => ?_) (hf := fun hc => ?_) | refine LGo.ifb (ht := fun hc => ?_) (hf := fun hc => ?_)
 ·
  rw [if_pos hc] at e1
  refine .region rfl ?_
  first | refine R.field F215_2 (h := ?_) | refine R.fieldAt F215_2 (h := ?_)
  refine R.storeB O41 (h := ?_)
  first | refine R.field F215_3 (h := ?_) | refine R.fieldAt F215_3 (h := ?_)
  refine R.storeB O41 (h := ?_)
  refine .n0 ?_
  refine .inBlock ?_
  refine .seq ?_
  refine .region rfl ?_
  first | refine R.loadA A215 (h := ?_) | refine R.loadN A215 (h := ?_) | refine R.loadP A215 (h := ?_)
  refine R.storeA A215 (h := ?_)
  refine .n0 ?_
  rw [← e1]
  exact LGo.ret (ret_A Tryz.results155 A215 hA hmd)
 ·
  rw [if_neg hc] at e1
  refine .seq ?_
  refine .seq ?_
  refine .region rfl ?_
  refine R.bin (run_eql _ _ _ _ _ _) (h := ?_)
  refine R.assign (h := ?_)
  refine .n0 ?_
  first | refine LGo.ifd (ht := fun hc2 => ?_) (hf := fun hc2 => ?_) | refine LGo.ifb (ht := fun hc2 => ?_) (hf := fun hc2 => ?_)
  ·
   rw [if_pos hc2] at e1
   refine .skip ?_
   first | refine LGo.ifd (ht := fun _ => ?_) (hf := fun h => absurd hc2 h) | refine LGo.ifb (ht := fun _ => ?_) (hf := fun h => by rw [hc2] at h; cases h)
   refine .region rfl ?_
   first | refine R.field F215_3 (h := ?_) | refine R.fieldAt F215_3 (h := ?_)
   refine R.storeB O41 (h := ?_)
   refine .n0 ?_
   refine .inBlock ?_
   refine .seq ?_
   refine .region rfl ?_
   first | refine R.loadA A215 (h := ?_) | refine R.loadN A215 (h := ?_) | refine R.loadP A215 (h := ?_)
   refine R.storeA A215 (h := ?_)
   refine .n0 ?_
   rw [← e1]
   exact LGo.ret (ret_A Tryz.results155 A215 hA hmd)
  ·
   rw [if_neg hc2] at e1
   refine .region rfl ?_
   refine R.bin (run_eql _ _ _ _ _ _) (h := ?_)
   refine R.assign (h := ?_)
   refine .n0 ?_
   first | refine LGo.ifd (ht := fun hc4 => ?_) (hf := fun hc4 => ?_) | refine LGo.ifb (ht := fun hc4 => ?_) (hf := fun hc4 => ?_)
   ·
    rw [if_pos hc4] at e1
    refine .region rfl ?_
    first | refine R.field F215_3 (h := ?_) | refine R.fieldAt F215_3 (h := ?_)
    refine R.storeB O41 (h := ?_)
    refine .n0 ?_
    refine .inBlock ?_
    refine .seq ?_
    refine .region rfl ?_
    first | refine R.loadA A215 (h := ?_) | refine R.loadN A215 (h := ?_) | refine R.loadP A215 (h := ?_)
    refine R.storeA A215 (h := ?_)
    refine .n0 ?_
    rw [← e1]
    exact LGo.ret (ret_A Tryz.results155 A215 hA hmd)
   ·
    rw [if_neg hc4] at e1
    refine .seq ?_
    refine .region rfl ?_
    refine R.bin (run_eql _ _ _ _ _ _) (h := ?_)
    refine R.assign (h := ?_)
    refine .n0 ?_
    first | refine LGo.ifd (ht := fun hc5 => ?_) (hf := fun hc5 => ?_) | refine LGo.ifb (ht := fun hc5 => ?_) (hf := fun hc5 => ?_)
    ·
     rw [if_pos hc5] at e1
     refine .region rfl ?_
     first | refine R.field F215_1 (h := ?_) | refine R.fieldAt F215_1 (h := ?_)
     refine R.storeB O3 (h := ?_)
     first | refine R.field F215_2 (h := ?_) | refine R.fieldAt F215_2 (h := ?_)
     refine R.storeB O41 (h := ?_)
     first | refine R.field F215_3 (h := ?_) | refine R.fieldAt F215_3 (h := ?_)
     refine R.storeB O41 (h := ?_)
     refine .n0 ?_
     refine .inBlock ?_
     refine .seq ?_
     refine .region rfl ?_
     first | refine R.loadA A215 (h := ?_) | refine R.loadN A215 (h := ?_) | refine R.loadP A215 (h := ?_)
     refine R.storeA A215 (h := ?_)
     refine .n0 ?_
     rw [← e1]
     exact LGo.ret (ret_A Tryz.results155 A215 hA hmd)
    ·
     rw [if_neg hc5] at e1
     refine .seq ?_
     refine .region rfl ?_
     refine R.bin (run_eql _ _ _ _ _ _) (h := ?_)
     refine R.assign (h := ?_)
     refine .n0 ?_
     first | refine LGo.ifd (ht := fun hc6 => ?_) (hf := fun hc6 => ?_) | refine LGo.ifb (ht := fun hc6 => ?_) (hf := fun hc6 => ?_)
     ·
      rw [if_pos hc6] at e1
      refine .region rfl ?_
      first | refine R.field F215_1 (h := ?_) | refine R.fieldAt F215_1 (h := ?_)
      refine R.storeB O3 (h := ?_)
      first | refine R.field F215_2 (h := ?_) | refine R.fieldAt F215_2 (h := ?_)
      refine R.storeB O41 (h := ?_)
      first | refine R.field F215_3 (h := ?_) | refine R.fieldAt F215_3 (h := ?_)
      refine R.storeB O41 (h := ?_)
      refine .n0 ?_
      refine .inBlock ?_
      refine .seq ?_
      refine .region rfl ?_
      first | refine R.loadA A215 (h := ?_) | refine R.loadN A215 (h := ?_) | refine R.loadP A215 (h := ?_)
      refine R.storeA A215 (h := ?_)
      refine .n0 ?_
      rw [← e1]
      exact LGo.ret (ret_A Tryz.results155 A215 hA hmd)
     ·
      rw [if_neg hc6] at e1
      refine .skip ?_
      refine .inBlock ?_
      refine .seq ?_
      refine .region rfl ?_
      first | refine R.loadA A215 (h := ?_) | refine R.loadN A215 (h := ?_) | refine R.loadP A215 (h := ?_)
      refine R.storeA A215 (h := ?_)
      refine .n0 ?_
      rw [← e1]
      exact LGo.ret (ret_A Tryz.results155 A215 hA hmd)

def numQ (r : Rq) (t : Int) : Int := if t = 1 then (if 9223372036854775807 < r.id then -1 else r.id) else if t = 2 then r.owner else if t = 5 then r.seat else if t = 6 then r.sec else if t = 7 then r.n else if t = 8 then r.to else r.gate
def txtQ (r : Rq) (t : Int) : List UInt8 := if t = 3 then r.ses else r.tic

theorem numQ_P (r : Rq) (hr : RqOk r) (t : Int) : PC Tryz.prog 209 [.agg (r.c.map LV.sv), .i t] (.i (numQ r t)) := by
 refine ⟨LC.of_go Tryz.func209 (c := _) rfl (by kernel_rfl) (by rw [Tryz.ntmps209]; simp) rfl rfl (by simp [LO.lt, LV.lts, LV.lt, lts_sv]) (by simp) ?_⟩
 intro B hA hmd
 have h1 := hr.id
 have h2 := hr.owner
 have h3 := hr.to
 obtain ⟨g, e0⟩ : ∃ g, numQ r t = g := ⟨_, rfl⟩
 have e1 := e0
 unfold numQ at e1
 rw [e0]
 refine .seq ?_
 refine .region rfl ?_
 refine R.box (h := ?_)
 refine R.assign (h := ?_)
 refine .n0 ?_
 refine .seq ?_
 refine .seq ?_
 refine .region rfl ?_
 refine R.move (h := ?_)
 refine .n0 ?_
 refine .block ?_
 refine .seq ?_
 refine .region rfl ?_
 refine R.bin (run_eql _ _ _ _ _ _) (h := ?_)
 refine R.assign (h := ?_)
 refine .n0 ?_
 first | refine LGo.ifd (ht := fun hc => ?_) (hf := fun hc => ?_) | refine LGo.ifb (ht := fun hc => ?_) (hf := fun hc => ?_)
 ·
  rw [if_pos hc] at e1
  refine .seq ?_
  refine .seq ?_
  refine .region rfl ?_
  first | refine R.field F48_1 (h := ?_) | refine R.fieldAt F48_1 (h := ?_)
  first | refine R.loadB O41 (h := ?_) | refine R.load1 O41 (h := ?_)
  refine R.bin (run_gtr _ _ _ _ _ _) (h := ?_)
  refine .n0 ?_
  first | refine LGo.ifd (ht := fun hc2 => ?_) (hf := fun hc2 => ?_) | refine LGo.ifb (ht := fun hc2 => ?_) (hf := fun hc2 => ?_)
  ·
   rw [if_pos hc2] at e1
   refine .seq ?_
   refine .region rfl ?_
   refine R.assign (h := ?_)
   refine .n0 ?_
   rw [← e1]
   exact LGo.ret (ret_T Tryz.results209 hA hmd)
  ·
   rw [if_neg hc2] at e1
   refine .skip ?_
   refine .seq ?_
   refine .region rfl ?_
   first | refine R.field F48_1 (h := ?_) | refine R.fieldAt F48_1 (h := ?_)
   first | refine R.loadB O41 (h := ?_) | refine R.load1 O41 (h := ?_)
   first | refine R.convI Tryz.runUnderlying41 Tryz.runUnderlying2 (h := ?_) | refine R.convW Tryz.runUnderlying41 Tryz.runUnderlying2 (h := ?_)
   refine R.assign (h := ?_)
   refine .n0 ?_
   rw [← e1]
   exact LGo.ret (ret_T Tryz.results209 hA hmd)
 ·
  rw [if_neg hc] at e1
  refine .seq ?_
  refine .region rfl ?_
  refine R.bin (run_eql _ _ _ _ _ _) (h := ?_)
  refine R.assign (h := ?_)
  refine .n0 ?_
  first | refine LGo.ifd (ht := fun hc3 => ?_) (hf := fun hc3 => ?_) | refine LGo.ifb (ht := fun hc3 => ?_) (hf := fun hc3 => ?_)
  ·
   rw [if_pos hc3] at e1
   refine .seq ?_
   refine .region rfl ?_
   first | refine R.field F48_2 (h := ?_) | refine R.fieldAt F48_2 (h := ?_)
   first | refine R.loadB O38 (h := ?_) | refine R.load1 O38 (h := ?_)
   first | refine R.convI Tryz.runUnderlying38 Tryz.runUnderlying2 (h := ?_) | refine R.convW Tryz.runUnderlying38 Tryz.runUnderlying2 (h := ?_)
   refine R.assign (h := ?_)
   refine .n0 ?_
   rw [← e1]
   exact LGo.ret (ret_T Tryz.results209 hA hmd)
  ·
   rw [if_neg hc3] at e1
   refine .seq ?_
   refine .region rfl ?_
   refine R.bin (run_eql _ _ _ _ _ _) (h := ?_)
   refine R.assign (h := ?_)
   refine .n0 ?_
   first | refine LGo.ifd (ht := fun hc4 => ?_) (hf := fun hc4 => ?_) | refine LGo.ifb (ht := fun hc4 => ?_) (hf := fun hc4 => ?_)
   ·
    rw [if_pos hc4] at e1
    refine .seq ?_
    refine .region rfl ?_
    first | refine R.field F48_6 (h := ?_) | refine R.fieldAt F48_6 (h := ?_)
    first | refine R.loadB O3 (h := ?_) | refine R.load1 O3 (h := ?_)
    refine R.assign (h := ?_)
    refine .n0 ?_
    rw [← e1]
    exact LGo.ret (ret_T Tryz.results209 hA hmd)
   ·
    rw [if_neg hc4] at e1
    refine .seq ?_
    refine .region rfl ?_
    refine R.bin (run_eql _ _ _ _ _ _) (h := ?_)
    refine R.assign (h := ?_)
    refine .n0 ?_
    first | refine LGo.ifd (ht := fun hc5 => ?_) (hf := fun hc5 => ?_) | refine LGo.ifb (ht := fun hc5 => ?_) (hf := fun hc5 => ?_)
    ·
     rw [if_pos hc5] at e1
     refine .seq ?_
     refine .region rfl ?_
     first | refine R.field F48_7 (h := ?_) | refine R.fieldAt F48_7 (h := ?_)
     first | refine R.loadB O3 (h := ?_) | refine R.load1 O3 (h := ?_)
     refine R.assign (h := ?_)
     refine .n0 ?_
     rw [← e1]
     exact LGo.ret (ret_T Tryz.results209 hA hmd)
    ·
     rw [if_neg hc5] at e1
     refine .seq ?_
     refine .region rfl ?_
     refine R.bin (run_eql _ _ _ _ _ _) (h := ?_)
     refine R.assign (h := ?_)
     refine .n0 ?_
     first | refine LGo.ifd (ht := fun hc6 => ?_) (hf := fun hc6 => ?_) | refine LGo.ifb (ht := fun hc6 => ?_) (hf := fun hc6 => ?_)
     ·
      rw [if_pos hc6] at e1
      refine .seq ?_
      refine .region rfl ?_
      first | refine R.field F48_8 (h := ?_) | refine R.fieldAt F48_8 (h := ?_)
      first | refine R.loadB O3 (h := ?_) | refine R.load1 O3 (h := ?_)
      refine R.assign (h := ?_)
      refine .n0 ?_
      rw [← e1]
      exact LGo.ret (ret_T Tryz.results209 hA hmd)
     ·
      rw [if_neg hc6] at e1
      refine .seq ?_
      refine .region rfl ?_
      refine R.bin (run_eql _ _ _ _ _ _) (h := ?_)
      refine R.assign (h := ?_)
      refine .n0 ?_
      first | refine LGo.ifd (ht := fun hc7 => ?_) (hf := fun hc7 => ?_) | refine LGo.ifb (ht := fun hc7 => ?_) (hf := fun hc7 => ?_)
      ·
       rw [if_pos hc7] at e1
       refine .seq ?_
       refine .region rfl ?_
       first | refine R.field F48_3 (h := ?_) | refine R.fieldAt F48_3 (h := ?_)
       first | refine R.loadB O38 (h := ?_) | refine R.load1 O38 (h := ?_)
       first | refine R.convI Tryz.runUnderlying38 Tryz.runUnderlying2 (h := ?_) | refine R.convW Tryz.runUnderlying38 Tryz.runUnderlying2 (h := ?_)
       refine R.assign (h := ?_)
       refine .n0 ?_
       rw [← e1]
       exact LGo.ret (ret_T Tryz.results209 hA hmd)
      ·
       rw [if_neg hc7] at e1
       refine .skip ?_
       refine .inBlock ?_
       refine .seq ?_
       refine .region rfl ?_
       first | refine R.field F48_9 (h := ?_) | refine R.fieldAt F48_9 (h := ?_)
       first | refine R.loadB O3 (h := ?_) | refine R.load1 O3 (h := ?_)
       refine R.assign (h := ?_)
       refine .n0 ?_
       rw [← e1]
       exact LGo.ret (ret_T Tryz.results209 hA hmd)

theorem txtQ_P (r : Rq) (t : Int) : PC Tryz.prog 208 [.agg (r.c.map LV.sv), .i t] (.t (txtQ r t)) := by
 refine ⟨LC.of_go Tryz.func208 (c := _) rfl (by kernel_rfl) (by rw [Tryz.ntmps208]; simp) rfl rfl (by simp [LO.lt, LV.lts, LV.lt, lts_sv]) (by simp) ?_⟩
 intro B hA hmd
 obtain ⟨g, e0⟩ : ∃ g, txtQ r t = g := ⟨_, rfl⟩
 have e1 := e0
 unfold txtQ at e1
 rw [e0]
 refine .seq ?_
 refine .region rfl ?_
 refine R.box (h := ?_)
 refine R.assign (h := ?_)
 refine .n0 ?_
 refine .seq ?_
 refine .seq ?_
 refine .region rfl ?_
 refine R.move (h := ?_)
 refine R.bin (run_eql _ _ _ _ _ _) (h := ?_)
 refine .n0 ?_
 first | refine LGo.ifd (ht := fun hc => ?_) (hf := fun hc => ?_) | refine LGo.ifb (ht := fun hc => ?_) (hf := fun hc => ?_)
 ·
  rw [if_pos hc] at e1
  refine .seq ?_
  refine .region rfl ?_
  first | refine R.field F48_4 (h := ?_) | refine R.fieldAt F48_4 (h := ?_)
  first | refine R.loadB O9 (h := ?_) | refine R.load1 O9 (h := ?_)
  refine R.assign (h := ?_)
  refine .n0 ?_
  rw [← e1]
  exact LGo.ret (ret_T Tryz.results208 hA hmd)
 ·
  rw [if_neg hc] at e1
  refine .skip ?_
  refine .seq ?_
  refine .region rfl ?_
  first | refine R.field F48_5 (h := ?_) | refine R.fieldAt F48_5 (h := ?_)
  first | refine R.loadB O9 (h := ?_) | refine R.load1 O9 (h := ?_)
  refine R.assign (h := ?_)
  refine .n0 ?_
  rw [← e1]
  exact LGo.ret (ret_T Tryz.results208 hA hmd)

def rrGo (kd : Int) : Nat → Nat → List Rule → List Rule
  | 0, _, l => l
  | n + 1, k, l => if hasQ kd k = true then rrGo kd n (k + 1) (l ++ [ruleQ k]) else rrGo kd n (k + 1) l
def rulesR (kd : Int) : List Rule × Int := if wordQ kd = [] then ([], 2) else (rrGo kd 9 1 [], 0)

theorem rulesR_P (kd : Int) : PC Tryz.prog 82 [.i kd] (.tup [.sv (.sl 5 ((rulesR kd).1.map Rule.c)), .i (rulesR kd).2]) := by
 refine ⟨LC.of_go Tryz.func82 (c := _) rfl (by kernel_rfl) (by rw [Tryz.ntmps82]; simp) rfl rfl (by simp [LO.lt, LV.lts, LV.lt, lts_sv]) (by simp) ?_⟩
 intro B hA hmd
 obtain ⟨g, e0⟩ : ∃ g, rulesR kd = g := ⟨_, rfl⟩
 have e1 := e0
 unfold rulesR at e1
 rw [e0]
 refine .seq ?_
 refine .region rfl ?_
 refine R.assign (h := ?_)
 refine R.assign (h := ?_)
 refine .n0 ?_
 refine .seq ?_
 refine .seq ?_
 refine .region rfl ?_
 refine R.move (h := ?_)
 refine R.callP (es := [_]) (fun _ => wordQ_P kd) (h := ?_)
 refine R.bin (run_eqlT _ _ _ _ _) (h := ?_)
 refine .n0 ?_
 refine LGo.ifd (ht := fun hc => ?_) (hf := fun hc => ?_)
 ·
  rw [if_pos hc] at e1; rw [← e1]
  refine .seq ?_
  refine .region rfl ?_
  refine R.assign (h := ?_)
  refine R.assign (h := ?_)
  refine .n0 ?_
  first | refine LGo.frzT 2 (h := ?_) | refine LGo.nilSl 2 5 (h := ?_) | skip
  exact LGo.ret (ret_TT Tryz.results82 hA hmd)
 ·
  rw [if_neg hc] at e1
  refine .skip ?_
  refine .seq ?_
  refine .region rfl ?_
  refine R.assign (h := ?_)
  refine .n0 ?_
  refine .seq ?_
  refine .seq ?_
  refine .region rfl ?_
  refine R.assign (h := ?_)
  refine .n0 ?_
  refine .block ?_
  refine .loop ?_
  refine LGo.nilRs 4 215 5 (h := ?_)
  refine LGo.loopG (σ := Nat × Nat × List Rule) (fun x => x.1 + x.2.1 = 10 ∧ x.2.2.length ≤ x.2.1 ∧ (rrGo kd x.1 x.2.1 x.2.2, (0 : Int)) = g) (fun x => [(5, (true, .i (x.2.1 : Nat))), (4, (true, .ref 0))]) (fun x => [(0, .rs 215 5 (x.2.2.map Rule.c))]) (fun x => x.1) ((9, 1, [])) [(0, _)] ⟨rfl, Nat.zero_le _, e1⟩ (by repeat (first | exact trivial | refine ⟨rfl, ?_⟩)) (by repeat (first | exact trivial | refine ⟨rfl, ?_⟩)) (by repeat (first | exact trivial | refine ⟨rfl, ?_⟩)) ?_
  rintro ⟨fu, k, acc⟩ ⟨q1, q2, e1⟩ ih
  dsimp only at * 
  refine .seq ?_
  refine .seq ?_
  refine .region rfl ?_
  refine R.move (h := ?_)
  refine R.bin (run_leq _ _ _ _ _ _) (h := ?_)
  refine .n0 ?_
  refine LGo.ifd (ht := fun hc2 => ?_) (hf := fun hc2 => ?_)
  ·
   obtain ⟨f, rfl⟩ : ∃ f, fu = f + 1 := ⟨fu - 1, by omega⟩
   rw [rrGo] at e1
   refine .skip ?_
   refine .seq ?_
   refine .block ?_
   refine .seq ?_
   refine .region rfl ?_
   refine R.move (h := ?_)
   refine R.move (h := ?_)
   refine R.callP (es := [_, _]) (fun _ => hasQ_P kd (k : Int)) (h := ?_)
   refine .n0 ?_
   refine LGo.ifb (ht := fun hc3 => ?_) (hf := fun hc3 => ?_)
   ·
    rw [if_pos hc3] at e1
    refine .region rfl ?_
    refine R.move (h := ?_)
    refine R.move (h := ?_)
    refine R.callP (es := [_]) (fun _ => ruleR9_P (k : Int)) (h := ?_)
    refine R.buildSliceG AP141 (xs := [_]) (es := [_]) (hcs := CellsOfs.cons (CellsOf.agg rfl) CellsOfs.nil) (h := ?_)
    refine R.appendS AP141 (hs := SrcOk.sl Tryz.underlying141 (by simp; rfl)) (hlen := by simp; omega) (h := ?_)
    refine R.assign (h := ?_)
    refine .n0 ?_
    refine .inBlock ?_
    refine .region rfl ?_
    refine R.move (h := ?_)
    first | refine R.add (h := ?_) | refine R.addW (h := ?_)
    refine R.assign (h := ?_)
    refine .n0 ?_
    refine .inLoop ?_
    exact LGo.turn [1] (b := 0) (fun o h => by have := (hA o).1 h; omega) (ih (f, k + 1, acc ++ [ruleQ k]) ⟨by dsimp only; omega, by simp; omega, e1⟩ (by dsimp only; omega)) (by repeat (first | exact trivial | refine ⟨rfl, ?_⟩)) ⟨by rw [List.map_append]; rfl, trivial⟩
   ·
    rw [if_neg (by rw [hc3]; simp)] at e1
    refine .skip ?_
    refine .inBlock ?_
    refine .region rfl ?_
    refine R.move (h := ?_)
    first | refine R.add (h := ?_) | refine R.addW (h := ?_)
    refine R.assign (h := ?_)
    refine .n0 ?_
    refine .inLoop ?_
    exact LGo.next _ (fun o h => by have := (hA o).1 h; omega) (by omega) (ih (f, k + 1, acc) ⟨by dsimp only; omega, by dsimp only; omega, e1⟩ (by dsimp only; omega)) (by repeat (first | exact trivial | refine ⟨rfl, ?_⟩)) (by repeat (first | exact trivial | refine ⟨rfl, ?_⟩))
  ·
   obtain rfl : fu = 0 := by omega
   rw [rrGo] at e1
   rw [← e1]
   refine .exit rfl ?_
   refine .seq ?_
   refine .region rfl ?_
   refine R.move (h := ?_)
   refine R.assign (h := ?_)
   refine R.assign (h := ?_)
   refine .n0 ?_
   first | refine LGo.frzT 2 (h := ?_) | refine LGo.nilSl 2 5 (h := ?_) | skip
   exact LGo.ret (ret_TT Tryz.results82 hA hmd)

/-- a field that a kind has not, and that is there -/
def bad1 (r : Rq) (t : Int) : Bool := ((decide (t = 3) || decide (t = 4)) && !decide (txtQ r t = [])) || (((!decide (t = 3)) && !decide (t = 4)) && !decide (numQ r t = 0))
def any1 (r : Rq) : Nat → Nat → Bool
  | 0, _ => false
  | n + 1, k => if hasQ r.kind k = true then any1 r n (k + 1) else if bad1 r k = true then true else any1 r n (k + 1)
def bad2 (r : Rq) (t : Int) : Bool := (decide (numQ r t < 0) || decide (uw (numQ r t) < (ruleQ t).low)) || decide ((ruleQ t).high < uw (numQ r t))
def any2 (r : Rq) : Nat → Nat → Bool
  | 0, _ => false
  | n + 1, k => if ((decide ((k : Int) = 3) || decide ((k : Int) = 4)) || !hasQ r.kind k) = true then any2 r n (k + 1) else if bad2 r k = true then true else any2 r n (k + 1)
def bad3 (r : Rq) (t : Int) : Bool := hasQ r.kind t && !decide (((txtQ r t).length : Int) = (ruleQ t).low)
def any3 (r : Rq) : Nat → Nat → Bool
  | 0, _ => false
  | n + 1, k => if bad3 r k = true then true else any3 r n (k + 1)
def refCheckQ (r : Rq) : Int := if wordQ r.kind = [] then 2 else if any1 r 8 2 = true then 2 else if any2 r 9 1 = true then 7 else if any3 r 2 3 = true then 3 else 0

theorem txtQ_len (r : Rq) (hr : RqOk r) (t : Int) : (txtQ r t).length ≤ maxLen := by
  have h1 := hr.ses
  have h2 := hr.tic
  unfold txtQ
  split <;> assumption

theorem refCheckQ_P (r : Rq) (hr : RqOk r) : PC Tryz.prog 150 [.agg (r.c.map LV.sv)] (.i (refCheckQ r)) := by
 refine ⟨LC.of_go Tryz.func150 (c := _) rfl (by kernel_rfl) (by rw [Tryz.ntmps150]; simp) rfl rfl (by simp [LO.lt, LV.lts, LV.lt, lts_sv]) (by simp) ?_⟩
 intro B hA hmd
 obtain ⟨g, e0⟩ : ∃ g, refCheckQ r = g := ⟨_, rfl⟩
 have e1 := e0
 unfold refCheckQ at e1
 rw [e0]
 refine .seq ?_
 refine .region rfl ?_
 refine R.box (h := ?_)
 refine R.assign (h := ?_)
 refine .n0 ?_
 refine .seq ?_
 refine .seq ?_
 refine .region rfl ?_
 first | refine R.field F48_0 (h := ?_) | refine R.fieldAt F48_0 (h := ?_)
 first | refine R.loadB O3 (h := ?_) | refine R.load1 O3 (h := ?_)
 refine R.callP (es := [_]) (fun _ => wordQ_P r.kind) (h := ?_)
 refine R.bin (run_eqlT _ _ _ _ _) (h := ?_)
 refine .n0 ?_
 refine LGo.ifd (ht := fun hc => ?_) (hf := fun hc => ?_)
 ·
  rw [if_pos hc] at e1; rw [← e1]
  refine .seq ?_
  refine .region rfl ?_
  refine R.assign (h := ?_)
  refine .n0 ?_
  exact LGo.ret (ret_T Tryz.results150 hA hmd)
 ·
  rw [if_neg hc] at e1
  refine .skip ?_
  refine .seq ?_
  refine .seq ?_
  refine .region rfl ?_
  refine R.assign (h := ?_)
  refine .n0 ?_
  refine .block ?_
  refine .loop ?_
  refine LGo.loopG (σ := Nat × Nat) (fun x => x.1 + x.2 = 10 ∧ 2 ≤ x.2 ∧ (if any1 r x.1 x.2 = true then (2 : Int) else if any2 r 9 1 = true then 7 else if any3 r 2 3 = true then 3 else 0) = g) (fun x => [(3, (true, .i (x.2 : Nat)))]) (fun x => [(0, .box 48 (r.c.map LV.sv))]) (fun x => x.1) ((8, 2)) [(1, _)] ⟨rfl, Nat.le_refl _, e1⟩ (by repeat (first | exact trivial | refine ⟨rfl, ?_⟩)) (by repeat (first | exact trivial | refine ⟨rfl, ?_⟩)) (by repeat (first | exact trivial | refine ⟨rfl, ?_⟩)) ?_
  rintro ⟨fu, k⟩ ⟨q1, q2, e1⟩ ih
  dsimp only at * 
  refine .seq ?_
  refine .seq ?_
  refine .region rfl ?_
  refine R.move (h := ?_)
  refine R.bin (run_leq _ _ _ _ _ _) (h := ?_)
  refine .n0 ?_
  refine LGo.ifd (ht := fun hc2 => ?_) (hf := fun hc2 => ?_)
  ·
   obtain ⟨f, rfl⟩ : ∃ f, fu = f + 1 := ⟨fu - 1, by omega⟩
   rw [any1] at e1
   refine .skip ?_
   refine .seq ?_
   refine .block ?_
   refine .seq ?_
   refine .seq ?_
   refine .region rfl ?_
   first | refine R.field F48_0 (h := ?_) | refine R.fieldAt F48_0 (h := ?_)
   first | refine R.loadB O3 (h := ?_) | refine R.load1 O3 (h := ?_)
   refine R.move (h := ?_)
   refine R.callP (es := [_, _]) (fun _ => hasQ_P r.kind (k : Int)) (h := ?_)
   refine .n0 ?_
   refine LGo.ifb (ht := fun hc3 => ?_) (hf := fun hc3 => ?_)
   ·
    rw [if_pos hc3] at e1
    refine .exit rfl ?_
    refine .region rfl ?_
    refine R.move (h := ?_)
    first | refine R.add (h := ?_) | refine R.addW (h := ?_)
    refine R.assign (h := ?_)
    refine .n0 ?_
    refine .inLoop ?_
    exact LGo.next _ (fun o h => by have := (hA o).1 h; omega) (by omega) (ih (f, k + 1) ⟨by dsimp only; omega, by dsimp only; omega, e1⟩ (by dsimp only; omega)) (by repeat (first | exact trivial | refine ⟨rfl, ?_⟩)) (by repeat (first | exact trivial | refine ⟨rfl, ?_⟩))
   ·
    rw [if_neg (show ¬ hasQ r.kind (k : Int) = true from by rw [hc3]; simp)] at e1
    refine .skip ?_
    refine .seq ?_
    refine .region rfl ?_
    refine R.move (h := ?_)
    refine R.bin (run_eql _ _ _ _ _ _) (h := ?_)
    refine R.move (h := ?_)
    refine R.move (h := ?_)
    refine R.bin (run_eql _ _ _ _ _ _) (h := ?_)
    refine R.or (h := ?_)
    refine R.move (h := ?_)
    first | refine R.loadA A48 (h := ?_) | refine R.loadN A48 (h := ?_) | refine R.loadP A48 (h := ?_)
    refine R.move (h := ?_)
    refine R.callP (es := [_, _]) (fun _ => txtQ_P r (k : Int)) (h := ?_)
    refine R.bin (run_neqT _ _ _ _ _) (h := ?_)
    refine R.and (h := ?_)
    refine R.move (h := ?_)
    refine R.move (h := ?_)
    refine R.bin (run_neq _ _ _ _ _ _) (h := ?_)
    refine R.move (h := ?_)
    refine R.move (h := ?_)
    refine R.bin (run_neq _ _ _ _ _ _) (h := ?_)
    refine R.and (h := ?_)
    refine R.move (h := ?_)
    first | refine R.loadA A48 (h := ?_) | refine R.loadN A48 (h := ?_) | refine R.loadP A48 (h := ?_)
    refine R.move (h := ?_)
    refine R.callP (es := [_, _]) (fun _ => numQ_P r hr (k : Int)) (h := ?_)
    refine R.bin (run_neq _ _ _ _ _ _) (h := ?_)
    refine R.and (h := ?_)
    refine R.or (h := ?_)
    refine .n0 ?_
    refine LGo.ifb (ht := fun hc4 => ?_) (hf := fun hc4 => ?_)
    ·
     rw [if_pos (show bad1 r (k : Int) = true from hc4), if_pos rfl] at e1; rw [← e1]
     refine .seq ?_
     refine .region rfl ?_
     refine R.assign (h := ?_)
     refine .n0 ?_
     exact LGo.ret (ret_T Tryz.results150 hA hmd)
    ·
     rw [if_neg (show ¬ bad1 r (k : Int) = true from by rw [show bad1 r (k : Int) = false from hc4]; simp)] at e1
     refine .skip ?_
     refine .inBlock ?_
     refine .region rfl ?_
     refine R.move (h := ?_)
     first | refine R.add (h := ?_) | refine R.addW (h := ?_)
     refine R.assign (h := ?_)
     refine .n0 ?_
     refine .inLoop ?_
     exact LGo.next _ (fun o h => by have := (hA o).1 h; omega) (by omega) (ih (f, k + 1) ⟨by dsimp only; omega, by dsimp only; omega, e1⟩ (by dsimp only; omega)) (by repeat (first | exact trivial | refine ⟨rfl, ?_⟩)) (by repeat (first | exact trivial | refine ⟨rfl, ?_⟩))
  ·
   obtain rfl : fu = 0 := by omega
   rw [any1, if_neg (by simp)] at e1
   refine .exit rfl ?_
   refine .seq ?_
   refine .seq ?_
   refine .region rfl ?_
   refine R.assign (h := ?_)
   refine .n0 ?_
   refine .block ?_
   refine .loop ?_
   refine LGo.loopG (σ := Nat × Nat) (fun x => x.1 + x.2 = 10 ∧ 1 ≤ x.2 ∧ (if any2 r x.1 x.2 = true then (7 : Int) else if any3 r 2 3 = true then 3 else 0) = g) (fun x => [(4, (true, .i (x.2 : Nat)))]) (fun x => [(0, .box 48 (r.c.map LV.sv))]) (fun x => x.1) ((9, 1)) [(1, _)] ⟨rfl, Nat.le_refl _, e1⟩ (by repeat (first | exact trivial | refine ⟨rfl, ?_⟩)) (by repeat (first | exact trivial | refine ⟨rfl, ?_⟩)) (by repeat (first | exact trivial | refine ⟨rfl, ?_⟩)) ?_
   rintro ⟨fu, k⟩ ⟨q1, q2, e1⟩ ih2
   dsimp only at * 
   refine .seq ?_
   refine .seq ?_
   refine .region rfl ?_
   refine R.move (h := ?_)
   refine R.bin (run_leq _ _ _ _ _ _) (h := ?_)
   refine .n0 ?_
   refine LGo.ifd (ht := fun hc5 => ?_) (hf := fun hc5 => ?_)
   ·
    obtain ⟨f, rfl⟩ : ∃ f, fu = f + 1 := ⟨fu - 1, by omega⟩
    rw [any2] at e1
    refine .skip ?_
    refine .seq ?_
    refine .block ?_
    refine .seq ?_
    refine .seq ?_
    refine .region rfl ?_
    refine R.move (h := ?_)
    refine R.bin (run_eql _ _ _ _ _ _) (h := ?_)
    refine R.move (h := ?_)
    refine R.move (h := ?_)
    refine R.bin (run_eql _ _ _ _ _ _) (h := ?_)
    refine R.or (h := ?_)
    refine R.move (h := ?_)
    first | refine R.field F48_0 (h := ?_) | refine R.fieldAt F48_0 (h := ?_)
    first | refine R.loadB O3 (h := ?_) | refine R.load1 O3 (h := ?_)
    refine R.move (h := ?_)
    refine R.callP (es := [_, _]) (fun _ => hasQ_P r.kind (k : Int)) (h := ?_)
    refine R.not (h := ?_)
    refine R.or (h := ?_)
    refine .n0 ?_
    refine LGo.ifb (ht := fun hc6 => ?_) (hf := fun hc6 => ?_)
    ·
     rw [if_pos hc6] at e1
     refine .exit rfl ?_
     refine .region rfl ?_
     refine R.move (h := ?_)
     first | refine R.add (h := ?_) | refine R.addW (h := ?_)
     refine R.assign (h := ?_)
     refine .n0 ?_
     refine .inLoop ?_
     exact LGo.next _ (fun o h => by have := (hA o).1 h; omega) (by omega) (ih2 (f, k + 1) ⟨by dsimp only; omega, by dsimp only; omega, e1⟩ (by dsimp only; omega)) (by repeat (first | exact trivial | refine ⟨rfl, ?_⟩)) (by repeat (first | exact trivial | refine ⟨rfl, ?_⟩))
    ·
     rw [if_neg (show ¬ ((decide ((k : Int) = 3) || decide ((k : Int) = 4)) || !hasQ r.kind (k : Int)) = true from by rw [hc6]; simp)] at e1
     refine .skip ?_
     refine .seq ?_
     refine .region rfl ?_
     first | refine R.loadA A48 (h := ?_) | refine R.loadN A48 (h := ?_) | refine R.loadP A48 (h := ?_)
     refine R.move (h := ?_)
     refine R.callP (es := [_, _]) (fun _ => numQ_P r hr (k : Int)) (h := ?_)
     refine R.assign (h := ?_)
     refine .n0 ?_
     refine .seq ?_
     refine .region rfl ?_
     refine R.move (h := ?_)
     refine R.bin (run_lss _ _ _ _ _ _) (h := ?_)
     refine R.move (h := ?_)
     refine R.move (h := ?_)
     refine R.convW Tryz.runUnderlying2 Tryz.runUnderlying41 (h := ?_)
     rw [uw_wrap]
     refine R.move (h := ?_)
     refine R.callP (es := [_]) (fun _ => ruleR9_P (k : Int)) (h := ?_)
     refine R.fieldV V215_2 (h := ?_)
     refine R.bin (run_lss _ _ _ _ _ _) (h := ?_)
     refine R.or (h := ?_)
     refine R.move (h := ?_)
     refine R.move (h := ?_)
     refine R.convW Tryz.runUnderlying2 Tryz.runUnderlying41 (h := ?_)
     rw [uw_wrap]
     refine R.move (h := ?_)
     refine R.callP (es := [_]) (fun _ => ruleR9_P (k : Int)) (h := ?_)
     refine R.fieldV V215_3 (h := ?_)
     refine R.bin (run_gtr _ _ _ _ _ _) (h := ?_)
     refine R.or (h := ?_)
     refine .n0 ?_
     refine LGo.ifb (ht := fun hc7 => ?_) (hf := fun hc7 => ?_)
     ·
      rw [if_pos (show bad2 r (k : Int) = true from hc7), if_pos rfl] at e1; rw [← e1]
      refine .seq ?_
      refine .region rfl ?_
      refine R.assign (h := ?_)
      refine .n0 ?_
      exact LGo.ret (ret_T Tryz.results150 hA hmd)
     ·
      rw [if_neg (show ¬ bad2 r (k : Int) = true from by rw [show bad2 r (k : Int) = false from hc7]; simp)] at e1
      refine .skip ?_
      refine .inBlock ?_
      refine .region rfl ?_
      refine R.move (h := ?_)
      first | refine R.add (h := ?_) | refine R.addW (h := ?_)
      refine R.assign (h := ?_)
      refine .n0 ?_
      refine .inLoop ?_
      exact LGo.next _ (fun o h => by have := (hA o).1 h; omega) (by omega) (ih2 (f, k + 1) ⟨by dsimp only; omega, by dsimp only; omega, e1⟩ (by dsimp only; omega)) (by repeat (first | exact trivial | refine ⟨rfl, ?_⟩)) (by repeat (first | exact trivial | refine ⟨rfl, ?_⟩))
   ·
    obtain rfl : fu = 0 := by omega
    rw [any2, if_neg (by simp)] at e1
    refine .exit rfl ?_
    refine .seq ?_
    refine .seq ?_
    refine .region rfl ?_
    refine R.assign (h := ?_)
    refine .n0 ?_
    refine .block ?_
    refine .loop ?_
    refine LGo.loopG (σ := Nat × Nat) (fun x => x.1 + x.2 = 5 ∧ 3 ≤ x.2 ∧ (if any3 r x.1 x.2 = true then (3 : Int) else 0) = g) (fun x => [(6, (true, .i (x.2 : Nat)))]) (fun x => [(0, .box 48 (r.c.map LV.sv))]) (fun x => x.1) ((2, 3)) [(1, _)] ⟨rfl, Nat.le_refl _, e1⟩ (by repeat (first | exact trivial | refine ⟨rfl, ?_⟩)) (by repeat (first | exact trivial | refine ⟨rfl, ?_⟩)) (by repeat (first | exact trivial | refine ⟨rfl, ?_⟩)) ?_
    rintro ⟨fu, k⟩ ⟨q1, q2, e1⟩ ih3
    dsimp only at * 
    refine .seq ?_
    refine .seq ?_
    refine .region rfl ?_
    refine R.move (h := ?_)
    refine R.bin (run_leq _ _ _ _ _ _) (h := ?_)
    refine .n0 ?_
    refine LGo.ifd (ht := fun hc8 => ?_) (hf := fun hc8 => ?_)
    ·
     obtain ⟨f, rfl⟩ : ∃ f, fu = f + 1 := ⟨fu - 1, by omega⟩
     rw [any3] at e1
     have hln := txtQ_len r hr (k : Int)
     refine .skip ?_
     refine .seq ?_
     refine .block ?_
     refine .seq ?_
     refine .region rfl ?_
     first | refine R.field F48_0 (h := ?_) | refine R.fieldAt F48_0 (h := ?_)
     first | refine R.loadB O3 (h := ?_) | refine R.load1 O3 (h := ?_)
     refine R.move (h := ?_)
     refine R.callP (es := [_, _]) (fun _ => hasQ_P r.kind (k : Int)) (h := ?_)
     refine R.move (h := ?_)
     first | refine R.loadA A48 (h := ?_) | refine R.loadN A48 (h := ?_) | refine R.loadP A48 (h := ?_)
     refine R.move (h := ?_)
     refine R.callP (es := [_, _]) (fun _ => txtQ_P r (k : Int)) (h := ?_)
     refine R.lenT Tryz.runUnderlying9 (h := ?_)
     refine R.convW Tryz.runUnderlying3 Tryz.runUnderlying41 (h := ?_)
     rw [show IntKind.u64.wrap ((txtQ r (k : Int)).length : Int) = ((txtQ r (k : Int)).length : Int) from by rw [IntKind.wrap_u64]; unfold maxLen at hln; omega]
     refine R.move (h := ?_)
     refine R.callP (es := [_]) (fun _ => ruleR9_P (k : Int)) (h := ?_)
     refine R.fieldV V215_2 (h := ?_)
     refine R.bin (run_neq _ _ _ _ _ _) (h := ?_)
     refine R.and (h := ?_)
     refine .n0 ?_
     refine LGo.ifb (ht := fun hc9 => ?_) (hf := fun hc9 => ?_)
     ·
      rw [if_pos (show bad3 r (k : Int) = true from hc9), if_pos rfl] at e1; rw [← e1]
      refine .seq ?_
      refine .region rfl ?_
      refine R.assign (h := ?_)
      refine .n0 ?_
      exact LGo.ret (ret_T Tryz.results150 hA hmd)
     ·
      rw [if_neg (show ¬ bad3 r (k : Int) = true from by rw [show bad3 r (k : Int) = false from hc9]; simp)] at e1
      refine .skip ?_
      refine .inBlock ?_
      refine .region rfl ?_
      refine R.move (h := ?_)
      first | refine R.add (h := ?_) | refine R.addW (h := ?_)
      refine R.assign (h := ?_)
      refine .n0 ?_
      refine .inLoop ?_
      exact LGo.next _ (fun o h => by have := (hA o).1 h; omega) (by omega) (ih3 (f, k + 1) ⟨by dsimp only; omega, by dsimp only; omega, e1⟩ (by dsimp only; omega)) (by repeat (first | exact trivial | refine ⟨rfl, ?_⟩)) (by repeat (first | exact trivial | refine ⟨rfl, ?_⟩))
    ·
     obtain rfl : fu = 0 := by omega
     rw [any3, if_neg (by simp)] at e1
     rw [← e1]
     refine .exit rfl ?_
     refine .seq ?_
     refine .region rfl ?_
     refine R.assign (h := ?_)
     refine .n0 ?_
     exact LGo.ret (ret_T Tryz.results150 hA hmd)

end Go.Proofs.YteccglgbkehdeaaGreatDoor
/- requests: the rules and the check are the reference's. -/
set_option linter.unusedSimpArgs false
set_option linter.unusedVariables false
namespace Go.Proofs.YteccglgbkehdeaaGreatDoor


theorem kinds14 {k : Int} (h0 : 0 ≤ k) (h1 : k < 14) : k = 0 ∨ k = 1 ∨ k = 2 ∨ k = 3 ∨ k = 4 ∨ k = 5 ∨ k = 6 ∨ k = 7 ∨ k = 8 ∨ k = 9 ∨ k = 10 ∨ k = 11 ∨ k = 12 ∨ k = 13 := by omega
theorem mask_out {k : Int} (h : k < 0 ∨ 14 ≤ k) : maskOf k = 0 := if_pos h
theorem word_out {k : Int} (h : k < 0 ∨ 14 ≤ k) : wordQ k = [] := if_pos (by omega)
theorem word_mask (k : Int) : wordQ k = [] ↔ maskOf k = 0 := by
  by_cases h : k < 0 ∨ 14 ≤ k
  · simp [mask_out h, word_out h]
  · rcases kinds14 (k := k) (by omega) (by omega) with rfl | rfl | rfl | rfl | rfl | rfl | rfl | rfl | rfl | rfl | rfl | rfl | rfl | rfl <;> decide +kernel
theorem rules_eq (k : Int) : rulesQ k = rulesR k := by
  by_cases h : k < 0 ∨ 14 ≤ k
  · simp [rulesQ, rulesR, mask_out h, word_out h]
  · rcases kinds14 (k := k) (by omega) (by omega) with rfl | rfl | rfl | rfl | rfl | rfl | rfl | rfl | rfl | rfl | rfl | rfl | rfl | rfl <;> kernel_rfl
/-- the bits of a kind's mask are its tags -/
theorem bit_has {kd : Int} (hk : maskOf kd ≠ 0) {k : Nat} (h1 : 1 ≤ k) (h2 : k ≤ 9) : hasQ kd k = !decide (bitQ (maskOf kd) k = 0) := by
  have h : ¬ (kd < 0 ∨ 14 ≤ kd) := fun h => hk (mask_out h)
  obtain ⟨j, rfl⟩ : ∃ j : Nat, kd = j := ⟨kd.toNat, by omega⟩
  have key : ((List.range 14).all fun j => (List.range 10).all fun k => decide (maskOf (j : Int) = 0) || decide (k = 0) || (hasQ j k == !decide (bitQ (maskOf (j : Int)) k = 0))) = true := by decide +kernel
  have k1 := List.all_eq_true.1 (List.all_eq_true.1 key j (List.mem_range.2 (by omega))) k (List.mem_range.2 (by omega))
  simp only [Bool.or_eq_true, decide_eq_true_eq, beq_iff_eq] at k1
  rcases k1 with (k1 | k1) | k1
  · exact absurd k1 hk
  · omega
  · exact k1
def nzF (f : Fld) : Bool := (!decide (f.num = 0)) || !decide (f.txt = [])
def nbF (x : Rule) (f : Fld) (is : Bool) : Bool := decide (x.kind = 1) && (((!is) || decide (f.num < x.low)) || decide (x.high < f.num))
def lbF (x : Rule) (f : Fld) : Bool := decide (x.kind = 2) && !decide ((f.txt.length : Int) = x.low)
def Ub (m : Int) (r : Rq) : Nat → Nat → Bool
  | 0, _ => false
  | n + 1, k => (decide (bitQ m k = 0) && nzF (fieldQ r k).1) || Ub m r n (k + 1)
def Nb (m : Int) (r : Rq) : Nat → Nat → Bool
  | 0, _ => false
  | n + 1, k => ((!decide (bitQ m k = 0)) && nbF (ruleQ k) (fieldQ r k).1 (fieldQ r k).2) || Nb m r n (k + 1)
def Lb (m : Int) (r : Rq) : Nat → Nat → Bool
  | 0, _ => false
  | n + 1, k => ((!decide (bitQ m k = 0)) && lbF (ruleQ k) (fieldQ r k).1) || Lb m r n (k + 1)
theorem foGo_snd (m : Int) (r : Rq) : ∀ (n k : Nat) (l : List Fld) (e : Int), e = 0 ∨ e = 3 ∨ e = 7 →
    (foGo m r n k l e).2 = if Ub m r n k = true then 2 else if (Nb m r n k || decide (e = 7)) = true then 7 else if (Lb m r n k || decide (e = 3)) = true then 3 else 0
  | 0, k, l, e, he => by
    rcases he with rfl | rfl | rfl <;> simp [foGo, Ub, Nb, Lb]
  | n + 1, k, l, e, he => by
    rw [foGo, Ub, Nb, Lb]
    by_cases hb : bitQ m k = 0
    · rw [if_pos hb]
      by_cases hz : nzF (fieldQ r k).1 = true
      · rw [if_pos (by exact hz)]
        simp [hb, hz]
      · rw [if_neg (by exact hz), foGo_snd m r n (k + 1) l e he]
        simp only [Bool.not_eq_true] at hz
        simp [hb, hz]
    · rw [if_neg hb, foGo_snd m r n (k + 1) _ _ ?_]
      · have hd : decide (bitQ m k = 0) = false := by simp [hb]
        rw [hd]
        simp only [Bool.false_and, Bool.false_or, Bool.not_false, Bool.true_and]
        by_cases hn : nbF (ruleQ k) (fieldQ r k).1 (fieldQ r k).2 = true
        · rw [show errQ (ruleQ k) (fieldQ r k).1 (fieldQ r k).2 e = 7 from if_pos hn, hn]
          simp
        · simp only [Bool.not_eq_true] at hn
          by_cases hl : lbF (ruleQ k) (fieldQ r k).1 = true
          · rw [hn, hl]
            rcases he with rfl | rfl | rfl
            · rw [show errQ (ruleQ k) (fieldQ r k).1 (fieldQ r k).2 0 = 3 from by unfold errQ; rw [if_neg (by rw [show (_ && _) = false from hn]; simp), if_pos (by rw [show (_ && _) = true from hl]; simp)]]
              simp
            · rw [show errQ (ruleQ k) (fieldQ r k).1 (fieldQ r k).2 3 = 3 from by unfold errQ; rw [if_neg (by rw [show (_ && _) = false from hn]; simp), if_neg (by simp)]]
              simp
            · rw [show errQ (ruleQ k) (fieldQ r k).1 (fieldQ r k).2 7 = 7 from by unfold errQ; rw [if_neg (by rw [show (_ && _) = false from hn]; simp), if_neg (by simp)]]
              simp
          · simp only [Bool.not_eq_true] at hl
            rw [hn, hl, show errQ (ruleQ k) (fieldQ r k).1 (fieldQ r k).2 e = e from by unfold errQ; rw [if_neg (by rw [show (_ && _) = false from hn]; simp), if_neg (by rw [show (decide ((ruleQ k).kind = 2) && !decide (((fieldQ r k).1.txt.length : Int) = (ruleQ k).low)) = false from hl]; simp)]]
            simp
      · unfold errQ
        split
        · exact .inr (.inr rfl)
        · split
          · exact .inr (.inl rfl)
          · exact he
theorem tags9 {k : Nat} (h1 : 1 ≤ k) (h2 : k ≤ 9) : k = 1 ∨ k = 2 ∨ k = 3 ∨ k = 4 ∨ k = 5 ∨ k = 6 ∨ k = 7 ∨ k = 8 ∨ k = 9 := by omega
theorem uw_zero {n : Int} (h : R64 n) : uw n = 0 ↔ n = 0 := by unfold R64 at h; unfold uw; omega
theorem bad1_eq (r : Rq) (hr : RqOk r) {k : Nat} (h1 : 2 ≤ k) (h2 : k ≤ 9) : bad1 r k = nzF (fieldQ r k).1 := by
  have e1 := uw_zero hr.seat; have e2 := uw_zero hr.sec; have e3 := uw_zero hr.n; have e4 := uw_zero hr.gate
  rcases tags9 (k := k) (by omega) h2 with rfl | rfl | rfl | rfl | rfl | rfl | rfl | rfl | rfl
  · omega
  all_goals simp [bad1, nzF, fieldQ, numQ, txtQ, e1, e2, e3, e4]
theorem bad2_eq (r : Rq) (hr : RqOk r) {k : Nat} (h1 : 1 ≤ k) (h2 : k ≤ 9) : ((!(decide ((k : Int) = 3) || decide ((k : Int) = 4))) && bad2 r k) = nbF (ruleQ k) (fieldQ r k).1 (fieldQ r k).2 := by
  have b1 := hr.id; have b2 := hr.owner; have b3 := hr.to
  have b4 := hr.seat; have b5 := hr.sec; have b6 := hr.n; have b7 := hr.gate
  unfold R64 at b4 b5 b6 b7
  rcases tags9 (k := k) (by omega) h2 with rfl | rfl | rfl | rfl | rfl | rfl | rfl | rfl | rfl
  all_goals
    rw [Bool.eq_iff_iff]
    simp [bad2, nbF, fieldQ, numQ, ruleQ, uw]
  all_goals (try split) <;> omega
theorem any1_eq (r : Rq) (hr : RqOk r) (hk : maskOf r.kind ≠ 0) : ∀ n k : Nat, 2 ≤ k → k + n = 10 → any1 r n k = Ub (maskOf r.kind) r n k
  | 0, k, _, _ => rfl
  | n + 1, k, h1, h2 => by
    rw [any1, Ub, any1_eq r hr hk n (k + 1) (by omega) (by omega), bad1_eq r hr h1 (by omega), bit_has hk (by omega) (by omega)]
    by_cases hb : bitQ (maskOf r.kind) k = 0
    · simp only [hb, decide_true, Bool.not_true, Bool.false_eq_true, if_false, Bool.true_and]
      cases nzF (fieldQ r k).1 <;> simp
    · simp [hb]
theorem any2_eq (r : Rq) (hr : RqOk r) (hk : maskOf r.kind ≠ 0) : ∀ n k : Nat, 1 ≤ k → k + n = 10 → any2 r n k = Nb (maskOf r.kind) r n k
  | 0, k, _, _ => rfl
  | n + 1, k, h1, h2 => by
    rw [any2, Nb, any2_eq r hr hk n (k + 1) (by omega) (by omega), ← bad2_eq r hr h1 (by omega), bit_has hk (by omega) (by omega)]
    cases (decide ((k : Int) = 3) || decide ((k : Int) = 4)) <;> cases decide (bitQ (maskOf r.kind) k = 0) <;> cases bad2 r k <;> simp
theorem Lb_high (m : Int) (r : Rq) : ∀ n k : Nat, 5 ≤ k → k + n = 10 → Lb m r n k = false
  | 0, _, _, _ => rfl
  | n + 1, k, h1, h2 => by
    rw [Lb, Lb_high m r n (k + 1) (by omega) (by omega)]
    have : lbF (ruleQ k) (fieldQ r k).1 = false := by
      rcases tags9 (k := k) (by omega) (by omega) with rfl | rfl | rfl | rfl | rfl | rfl | rfl | rfl | rfl <;> first | omega | simp [lbF, ruleQ]
    rw [this]; simp
theorem any3_eq (r : Rq) (hk : maskOf r.kind ≠ 0) : any3 r 2 3 = Lb (maskOf r.kind) r 9 1 := by
  have h3 := bit_has hk (k := 3) (by omega) (by omega)
  have h4 := bit_has hk (k := 4) (by omega) (by omega)
  have l1 : lbF (ruleQ ((1 : Nat) : Int)) (fieldQ r ((1 : Nat) : Int)).1 = false := by simp [lbF, ruleQ]
  have l2 : lbF (ruleQ ((2 : Nat) : Int)) (fieldQ r ((2 : Nat) : Int)).1 = false := by simp [lbF, ruleQ]
  have l3 : lbF (ruleQ ((3 : Nat) : Int)) (fieldQ r ((3 : Nat) : Int)).1 = !decide (((txtQ r 3).length : Int) = (ruleQ 3).low) := by simp [lbF, ruleQ, fieldQ, txtQ]
  have l4 : lbF (ruleQ ((4 : Nat) : Int)) (fieldQ r ((4 : Nat) : Int)).1 = !decide (((txtQ r 4).length : Int) = (ruleQ 4).low) := by simp [lbF, ruleQ, fieldQ, txtQ]
  rw [Lb, Lb, Lb, Lb, Lb_high _ r 5 5 (by omega) rfl, l1, l2, l3, l4, ← h3, ← h4]
  simp only [any3, bad3, Nat.reduceAdd, Bool.and_false, Bool.false_or, Bool.or_false]
  show (if (hasQ r.kind 3 && _) = true then true else if (hasQ r.kind 4 && _) = true then true else false) = _
  cases (hasQ r.kind 3 && !decide (((txtQ r 3).length : Int) = (ruleQ 3).low)) <;> cases (hasQ r.kind 4 && !decide (((txtQ r 4).length : Int) = (ruleQ 4).low)) <;> rfl
/-- Check is the reference's -/
theorem checkQ_eq (r : Rq) (hr : RqOk r) : checkQ r = refCheckQ r := by
  unfold checkQ fieldsOf refCheckQ
  by_cases hk : maskOf r.kind = 0
  · rw [if_pos hk, if_pos ((word_mask _).2 hk)]
  · rw [if_neg hk, if_neg (fun h => hk ((word_mask _).1 h)), foGo_snd _ r 9 1 [] 0 (.inl rfl), any1_eq r hr hk 8 2 (by omega) rfl, any2_eq r hr hk 9 1 (by omega) rfl, any3_eq r hk]
    have hb : decide (bitQ (maskOf r.kind) 1 = 0) = false := by
      have h := bit_has hk (k := 1) (by omega) (by omega)
      have h1 : hasQ r.kind ((1 : Nat) : Int) = true := by
        unfold hasQ
        have : ∀ l : List Int, hasGo ((1 : Nat) : Int) l = true := by
          intro l
          induction l with
          | nil => rfl
          | cons x l ih => rw [hasGo]; split <;> first | rfl | exact ih
        exact this _
      rw [h1] at h
      simpa using h.symm
    rw [Ub, hb]
    simp

end Go.Proofs.YteccglgbkehdeaaGreatDoor
/- fields: the plain law: Encode, Decode and the reference's come to the same; what is decoded is what was encoded. -/
set_option linter.unusedSimpArgs false
set_option linter.unusedVariables false
namespace Go.Proofs.YteccglgbkehdeaaGreatDoor



def finR (rs : List Rule) (b : List UInt8) (acc : List Fld) : List Fld × Int × Int := if missing rs rs.length acc = true then ([], (b.length : Int), 11) else (acc, 0, 0)
def idxN (t : Int) (rs : List Rule) : Nat := (idx (fun x => decide (Rule.tag x = t)) 0 rs).toNat
def decR (rs : List Rule) (b : List UInt8) : Nat → Int → List Fld → Nat → List Fld × Int × Int
  | 0, _, acc, _ => finR rs b acc
  | n + 1, last, acc, k =>
    match b[k]? with
    | none => finR rs b acc
    | some c =>
      if ((!ruleHas c.toNat rs || decide ((ruleAt c.toNat rs).tag ≤ last)) || missing rs (idxN c.toNat rs) acc) = true then ([], (k : Int), 11)
      else if (!(readV (ruleAt c.toNat rs) (b.drop (k + 1))).2.2) = true then ([], (k : Int), 11)
      else decR rs b n (readV (ruleAt c.toNat rs) (b.drop (k + 1))).1.tag (acc ++ [(readV (ruleAt c.toNat rs) (b.drop (k + 1))).1]) (k + 1 + (readV (ruleAt c.toNat rs) (b.drop (k + 1))).2.1.toNat)
def decodeR (rs : List Rule) (b : List UInt8) : List Fld × Int × Int := if refCheck rs = 0 then decR rs b b.length 0 [] 0 else ([], 0, refCheck rs)
theorem readV_tag (r : Rule) (b : List UInt8) : (readV r b).1.tag = r.tag := by
  unfold readV
  split
  · split <;> rfl
  · split
    · rfl
    · split <;> rfl
theorem readV_len (r : Rule) (b : List UInt8) (h : (readV r b).2.2 = true) : 0 ≤ (readV r b).2.1 ∧ (readV r b).2.1 ≤ b.length := by
  have h0 := u8_ge (b0 b)
  have h1 := u8_ge (b1 b)
  unfold readV at h ⊢
  split
  · rename_i c1
    rw [if_pos c1] at h
    split
    · rename_i c2; rw [if_pos c2] at h; cases h
    · rename_i c2; simp only; omega
  · rename_i c1
    rw [if_neg c1] at h
    split
    · rename_i c2; rw [if_pos c2] at h; cases h
    · rename_i c2
      rw [if_neg c2] at h
      split
      · rename_i c3; rw [if_pos c3] at h; cases h
      · rename_i c3; simp only; omega
theorem decR_end (rs : List Rule) (b : List UInt8) (n : Nat) (last : Int) (acc : List Fld) (k : Nat) (h : b.length ≤ k) : decR rs b n last acc k = finR rs b acc := by
  cases n with
  | zero => rfl
  | succ n => rw [decR, List.getElem?_eq_none h]
theorem decR_step (rs : List Rule) (b : List UInt8) (n : Nat) (last : Int) (acc : List Fld) (k : Nat) (c : UInt8) (h : b[k]? = some c) : decR rs b (n + 1) last acc k =
      if ((!ruleHas c.toNat rs || decide ((ruleAt c.toNat rs).tag ≤ last)) || missing rs (idxN c.toNat rs) acc) = true then ([], (k : Int), 11)
      else if (!(readV (ruleAt c.toNat rs) (b.drop (k + 1))).2.2) = true then ([], (k : Int), 11)
      else decR rs b n (readV (ruleAt c.toNat rs) (b.drop (k + 1))).1.tag (acc ++ [(readV (ruleAt c.toNat rs) (b.drop (k + 1))).1]) (k + 1 + (readV (ruleAt c.toNat rs) (b.drop (k + 1))).2.1.toNat) := by
  rw [decR, h]

theorem decodeR_P (rs : List Rule) (b : List UInt8) (hrs : rs.length ≤ 100) (hb : b.length ≤ 10000) : PC Tryz.prog 83 [.sv (.sl 5 (rs.map Rule.c)), .sv (.sl 1 (bytesC b))] (.tup [.sv (.sl 3 ((decodeR rs b).1.map Fld.c)), .i (decodeR rs b).2.1, .i (decodeR rs b).2.2]) := by
  refine ⟨LC.of_go Tryz.func83 (c := _) rfl (by kernel_rfl) (by rw [Tryz.ntmps83]; simp) rfl rfl (by simp [LO.lt, LV.lts, LV.lt]) (by simp) ?_⟩
  intro B hA hmd
  obtain ⟨g, e0⟩ : ∃ g, decodeR rs b = g := ⟨_, rfl⟩
  have e1 := e0
  unfold decodeR at e1
  rw [e0]
  refine LGo.seq ?_
  refine LGo.region rfl ?_
  refine R.assign (h := ?_)
  refine R.assign (h := ?_)
  refine R.assign (h := ?_)
  refine Reg.nil ⟨fun h => (by cases h), ?_⟩
  refine LGo.seq ?_
  refine LGo.region rfl ?_
  refine R.move (h := ?_)
  refine R.callP (es := [_]) (fun _ => refCheck_P _) (h := ?_)
  refine R.assign (h := ?_)
  refine Reg.nil ⟨fun h => (by cases h), ?_⟩
  refine LGo.seq ?_
  refine LGo.seq ?_
  refine LGo.region rfl ?_
  refine R.move (h := ?_)
  refine R.bin (run_neq _ _ _ _ _ _) (h := ?_)
  refine Reg.nil ⟨fun h => (by cases h), ?_⟩
  refine LGo.ifb (ht := fun hc => ?_) (hf := fun hc => ?_)
  · -- then 1
    rw [if_neg (by simpa using hc)] at e1; rw [← e1]
    refine LGo.seq ?_
    refine LGo.region rfl ?_
    refine R.move (h := ?_)
    refine R.assign (h := ?_)
    refine R.assign (h := ?_)
    refine R.assign (h := ?_)
    refine Reg.nil ⟨fun h => (by cases h), ?_⟩
    first | refine LGo.frzT 4 (h := ?_) | refine LGo.nilSl 4 3 (h := ?_) | skip
    exact LGo.ret (ret_TTT Tryz.results83 hA hmd)
  · -- else 1
    rw [if_pos (by simpa using hc)] at e1
    have hck := (check_ok (rs := rs) (by rw [← refCheck_eq]; simpa using hc)).2
    refine LGo.skip ?_
    refine LGo.seq ?_
    refine LGo.region rfl ?_
    refine R.assign (h := ?_)
    refine Reg.nil ⟨fun h => (by cases h), ?_⟩
    refine LGo.seq ?_
    refine LGo.region rfl ?_
    refine R.assign (h := ?_)
    refine Reg.nil ⟨fun h => (by cases h), ?_⟩
    refine LGo.seq ?_
    refine LGo.region rfl ?_
    refine R.assign (h := ?_)
    refine Reg.nil ⟨fun h => (by cases h), ?_⟩
    refine LGo.seq ?_
    refine LGo.block ?_
    refine LGo.loop ?_
    refine LGo.nilRs 8 149 3 (h := ?_)
    refine LGo.loopG (σ := Nat × Int × List Fld × Nat) (fun x => b.length ≤ x.1 + x.2.2.2 ∧ x.2.2.2 ≤ b.length ∧ 0 ≤ x.2.1 ∧ x.2.1 ≤ 63 ∧ (x.2.2.1.length : Int) ≤ x.2.1 ∧ decR rs b b.length 0 [] 0 = decR rs b x.1 x.2.1 x.2.2.1 x.2.2.2) (fun x => [(10, (true, .i (x.2.2.2 : Nat))), (9, (true, .i x.2.1)), (8, (true, .ref 0))]) (fun x => [(0, .rs 149 3 (x.2.2.1.map Fld.c))]) (fun x => b.length - x.2.2.2) ((b.length, 0, [], 0)) [(0, _), (1, _)] ⟨Nat.le_refl _, Nat.zero_le _, by simp, by simp, by simp, rfl⟩ (by repeat (first | exact trivial | refine ⟨rfl, ?_⟩)) (by repeat (first | exact trivial | refine ⟨rfl, ?_⟩)) (by repeat (first | exact trivial | refine ⟨rfl, ?_⟩)) ?_
    rintro ⟨fu, last, acc, k⟩ ⟨hfu, hkl, hl0, hl1, hal, hq⟩ ih
    dsimp only at * 
    refine LGo.seq ?_
    refine LGo.seq ?_
    refine LGo.region rfl ?_
    refine R.move (h := ?_)
    refine R.move (h := ?_)
    first | refine R.len S44 (h := ?_) | refine R.lenRs S44 (h := ?_) | refine R.lenV (run_lenNil S44) (h := ?_)
    rw [bytesC_length]
    refine R.bin (run_lss _ _ _ _ _ _) (h := ?_)
    refine Reg.nil ⟨fun h => (by cases h), ?_⟩
    refine LGo.ifd (ht := fun hc2 => ?_) (hf := fun hc2 => ?_)
    · -- then 2
      have hlt : k < b.length := by omega
      obtain ⟨f, rfl⟩ : ∃ f, fu = f + 1 := ⟨fu - 1, by omega⟩
      have hgk : b[k]? = some b[k] := List.getElem?_eq_getElem hlt
      have hx : (bytesC b)[((k : Nat) : Int).toNat]? = some [.val (.int .u8 b[k].toNat)] := by rw [Int.toNat_natCast]; exact bytesC_get hgk
      have e2 := decR_step rs b f last acc k b[k] hgk
      generalize b[k] = c at hx e2
      clear hgk
      have lc := u8_lt c
      have gc := u8_ge c
      refine LGo.skip ?_
      refine LGo.block ?_
      refine LGo.seq ?_
      refine LGo.region rfl ?_
      refine R.move (h := ?_)
      refine R.move (h := ?_)
      refine R.move (h := ?_)
      refine R.index I44 (hj := fun hg => ⟨by omega, hx⟩) (h := ?_)
      first | refine R.loadB O5 (h := ?_) | refine R.load1 O5 (h := ?_)
      first | refine R.convI Tryz.runUnderlying5 Tryz.runUnderlying3 (h := ?_) | refine R.convW Tryz.runUnderlying5 Tryz.runUnderlying3 (h := ?_)
      refine R.callP (es := [_, _]) (fun _ => refRule_P _ _ (by assumption)) (h := ?_)
      refine R.assign (h := ?_)
      refine Reg.nil ⟨fun h => (by cases h), ?_⟩
      refine LGo.seq ?_
      refine LGo.seq ?_
      refine LGo.region rfl ?_
      by_cases hh : ruleHas (c.toNat : Int) rs = true
      · -- case has
        obtain ⟨ri, hri, hr1, hr2⟩ := idx_at hh
        have hin : idxN (c.toNat : Int) rs = ri := by unfold idxN; rw [hr1]; rfl
        rw [hr1]
        rw [hin, hh] at e2
        have hm := ruleAt_mem hh
        have htg := hck _ hm.1
        rw [hm.2] at htg
        have hxr : (rs.map Rule.c)[((ri : Nat) : Int).toNat]? = some ((ruleAt (c.toNat : Int) rs).c) := by simp [hri, hr2]
        refine R.move (h := ?_)
        refine R.bin (run_lss _ _ _ _ _ _) (h := ?_)
        rw [show decide ((ri : Int) < 0) = false from by simp]
        refine R.move (h := ?_)
        refine R.move (h := ?_)
        refine R.move (h := ?_)
        refine R.index I141 (hj := fun hg => ⟨by omega, hxr⟩) (h := ?_)
        first | refine R.field F215_0 (h := ?_) | refine R.fieldAt F215_0 (h := ?_)
        first | refine R.loadB O3 (h := ?_) | refine R.load1 O3 (h := ?_)
        refine R.move (h := ?_)
        refine R.bin (run_leq _ _ _ _ _ _) (h := ?_)
        refine R.or (h := ?_)
        refine R.move (h := ?_)
        refine R.move (h := ?_)
        refine R.move (h := ?_)
        refine R.move (h := ?_)
        refine R.callV (rd := [(0, .rs 149 3 (acc.map Fld.c))]) (es := [_, _, _]) (fun _ => missing_P rs ri acc (Nat.le_of_lt hri) hrs (by omega)) (oneL rfl) (hes := fun h => by simp only [List.map_cons, List.map_nil, entLV_eq h]; rfl) (h := ?_)
        refine R.or (h := ?_)
        refine Reg.nil ⟨fun h => (by cases h), ?_⟩
        refine LGo.ifb (ht := fun hc3 => ?_) (hf := fun hc3 => ?_)
        · -- then 3
          rw [if_pos (by simpa using hc3)] at e2
          rw [hq, e2] at e1
          rw [← e1]
          refine LGo.seq ?_
          refine LGo.region rfl ?_
          refine R.move (h := ?_)
          refine R.assign (h := ?_)
          refine R.assign (h := ?_)
          refine R.assign (h := ?_)
          refine Reg.nil ⟨fun h => (by cases h), ?_⟩
          first | refine LGo.frzT 4 (h := ?_) | refine LGo.nilSl 4 3 (h := ?_) | skip
          exact LGo.ret (ret_TTT Tryz.results83 hA hmd)
        · -- else 3
          rw [if_neg (by simpa using hc3)] at e2
          have htl : last < (c.toNat : Int) := by simp at hc3; have := hc3.1; rw [hm.2] at this; omega
          refine LGo.skip ?_
          refine LGo.seq ?_
          refine LGo.region rfl ?_
          refine R.move (h := ?_)
          refine R.move (h := ?_)
          refine R.index I141 (hj := fun hg => ⟨by omega, hxr⟩) (h := ?_)
          first | refine R.loadA A215 (h := ?_) | refine R.loadN A215 (h := ?_)
          refine R.move (h := ?_)
          refine R.move (h := ?_)
          first | refine R.add (h := ?_) | refine R.addW (h := ?_)
          refine R.sliceLo SF44 (ha := fun _ => ⟨by omega, by rw [bytesC_length]; omega⟩) (h := ?_)
          rw [bytesC_drop, show ((k : Int) + 1).toNat = k + 1 from by omega]
          refine R.callP (es := [_, _]) (fun _ => read_P (ruleAt (c.toNat : Int) rs) (b.drop (k + 1)) (by rw [List.length_drop]; omega)) (h := ?_)
          refine R.move (h := ?_)
          refine R.extract (h := ?_)
          refine R.extract (h := ?_)
          refine R.extract (h := ?_)
          refine R.alloc Z149 (h := ?_)
          refine R.storeA A149 (h := ?_)
          refine R.assign (h := ?_)
          refine R.assign (h := ?_)
          refine Reg.nil ⟨fun _ => ⟨mixedO, by rfl, by rfl⟩, ?_⟩
          refine LGo.seq ?_
          refine LGo.seq ?_
          refine LGo.region rfl ?_
          refine R.move (h := ?_)
          refine R.not (h := ?_)
          refine Reg.nil ⟨fun h => (by cases h), ?_⟩
          first | refine LGo.ifd (ht := fun hc4 => ?_) (hf := fun hc4 => ?_) | refine LGo.ifb (ht := fun hc4 => ?_) (hf := fun hc4 => ?_)
          · -- then 4
            rw [if_pos hc4] at e2
            rw [hq, e2] at e1
            rw [← e1]
            refine LGo.seq ?_
            refine LGo.region rfl ?_
            refine R.move (h := ?_)
            refine R.assign (h := ?_)
            refine R.assign (h := ?_)
            refine R.assign (h := ?_)
            refine Reg.nil ⟨fun h => (by cases h), ?_⟩
            first | refine LGo.frzT 4 (h := ?_) | refine LGo.nilSl 4 3 (h := ?_) | skip
            exact LGo.ret (ret_TTT Tryz.results83 hA hmd)
          · -- else 4
            rw [if_neg (by rw [hc4]; simp)] at e2
            rw [e2] at hq
            have hrl := readV_len (ruleAt (c.toNat : Int) rs) (b.drop (k + 1)) (by simpa using hc4)
            rw [List.length_drop] at hrl
            have hrt := readV_tag (ruleAt (c.toNat : Int) rs) (b.drop (k + 1))
            rw [hm.2] at hrt
            refine LGo.skip ?_
            refine LGo.seq ?_
            refine LGo.region rfl ?_
            refine R.move (h := ?_)
            first | refine R.loadA A149 (h := ?_) | refine R.loadN A149 (h := ?_)
            refine R.buildSliceG AP144 (xs := [_]) (es := [_]) (ys := [(readV (ruleAt (c.toNat : Int) rs) (b.drop (k + 1))).1.c]) (hcs := CellsOfs.cons (CellsOf.agg rfl) CellsOfs.nil) (hys := rfl) (h := ?_)
            refine R.appendS AP144 (hs := SrcOk.sl Tryz.underlying144 (by simp; rfl)) (hlen := by simp; omega) (h := ?_)
            refine R.assign (h := ?_)
            refine Reg.nil ⟨fun h => (by cases h), ?_⟩
            refine LGo.seq ?_
            refine LGo.region rfl ?_
            first | refine R.field F149_0 (h := ?_) | refine R.fieldAt F149_0 (h := ?_)
            first | refine R.loadB O3 (h := ?_) | refine R.load1 O3 (h := ?_)
            refine R.assign (h := ?_)
            refine Reg.nil ⟨fun h => (by cases h), ?_⟩
            refine LGo.region rfl ?_
            refine R.move (h := ?_)
            first | refine R.add (h := ?_) | refine R.addW (h := ?_)
            refine R.move (h := ?_)
            first | refine R.add (h := ?_) | refine R.addW (h := ?_)
            rw [show ((k : Int) + 1 + (readV (ruleAt (c.toNat : Int) rs) (b.drop (k + 1))).2.1) = ((k + 1 + (readV (ruleAt (c.toNat : Int) rs) (b.drop (k + 1))).2.1.toNat : Nat) : Int) from by omega]
            refine R.assign (h := ?_)
            refine Reg.nil ⟨fun h => (by cases h), ?_⟩
            refine LGo.inBlock ?_
            refine LGo.inLoop ?_
            exact LGo.turn [2] (b := 0) (fun o h => by have := (hA o).1 h; omega) (ih (f, (readV (ruleAt (c.toNat : Int) rs) (b.drop (k + 1))).1.tag, acc ++ [(readV (ruleAt (c.toNat : Int) rs) (b.drop (k + 1))).1], k + 1 + (readV (ruleAt (c.toNat : Int) rs) (b.drop (k + 1))).2.1.toNat) ⟨by dsimp only; omega, by dsimp only; omega, by dsimp only; omega, by dsimp only; omega, by dsimp only; rw [List.length_append, hrt]; simp; omega, hq⟩ (by dsimp only; omega)) (by repeat (first | exact trivial | refine ⟨rfl, ?_⟩)) ⟨by rw [List.map_append]; rfl, trivial⟩
      · -- case no
        have hid : idx (fun x => decide (Rule.tag x = (c.toNat : Int))) 0 rs = -1 := by
          have := idx_neg (c.toNat : Int) rs
          rcases idx_spec (fun x => decide (Rule.tag x = (c.toNat : Int))) rs 0 with ⟨h1, h2⟩ | ⟨j, hj, h1, h2⟩
          · exact h1
          · exact absurd (by simp [ruleHas, h2]) hh
        rw [hid]
        rw [if_pos (by simp [hh])] at e2
        rw [hq, e2] at e1
        rw [← e1]
        refine R.move (h := ?_)
        refine R.bin (run_lss _ _ _ _ _ _) (h := ?_)
        refine R.move (h := ?_)
        refine R.move (h := ?_)
        refine R.move (h := ?_)
        refine R.index I141 (e := (default : Rule).c) (hj := fun hg => by simp at hg) (h := ?_)
        first | refine R.field F215_0 (h := ?_) | refine R.fieldAt F215_0 (h := ?_)
        first | refine R.loadB O3 (h := ?_) | refine R.load1 O3 (h := ?_)
        refine R.move (h := ?_)
        refine R.bin (run_leq _ _ _ _ _ _) (h := ?_)
        refine R.or (h := ?_)
        refine R.move (h := ?_)
        refine R.move (h := ?_)
        refine R.move (h := ?_)
        refine R.move (h := ?_)
        refine R.skip (.b false) (es := [_, _, _, _]) (h := ?_)
        refine R.or (h := ?_)
        refine Reg.nil ⟨fun h => (by cases h), ?_⟩
        refine LGo.ifb (ht := fun hc5 => ?_) (hf := fun hc5 => by simp at hc5)
        refine LGo.seq ?_
        refine LGo.region rfl ?_
        refine R.move (h := ?_)
        refine R.assign (h := ?_)
        refine R.assign (h := ?_)
        refine R.assign (h := ?_)
        refine Reg.nil ⟨fun h => (by cases h), ?_⟩
        first | refine LGo.frzT 4 (h := ?_) | refine LGo.nilSl 4 3 (h := ?_) | skip
        exact LGo.ret (ret_TTT Tryz.results83 hA hmd)
    · -- else 2
      rw [hq, decR_end rs b fu last acc k (by omega)] at e1
      unfold finR at e1
      refine LGo.exit rfl ?_
      refine LGo.seq ?_
      refine LGo.seq ?_
      refine LGo.region rfl ?_
      refine R.move (h := ?_)
      refine R.move (h := ?_)
      first | refine R.len S141 (h := ?_) | refine R.lenRs S141 (h := ?_) | refine R.lenV (run_lenNil S141) (h := ?_)
      rw [List.length_map]
      refine R.move (h := ?_)
      refine R.callV (rd := [(0, .rs 149 3 (acc.map Fld.c))]) (es := [_, _, _]) (fun _ => missing_P rs rs.length acc (Nat.le_refl _) hrs (by omega)) (oneL rfl) (h := ?_)
      refine Reg.nil ⟨fun h => (by cases h), ?_⟩
      first | refine LGo.ifd (ht := fun hc6 => ?_) (hf := fun hc6 => ?_) | refine LGo.ifb (ht := fun hc6 => ?_) (hf := fun hc6 => ?_)
      · -- then 6
        rw [if_pos hc6] at e1; rw [← e1]
        refine LGo.seq ?_
        refine LGo.region rfl ?_
        refine R.move (h := ?_)
        first | refine R.len S44 (h := ?_) | refine R.lenRs S44 (h := ?_) | refine R.lenV (run_lenNil S44) (h := ?_)
        rw [bytesC_length]
        refine R.assign (h := ?_)
        refine R.assign (h := ?_)
        refine R.assign (h := ?_)
        refine Reg.nil ⟨fun h => (by cases h), ?_⟩
        first | refine LGo.frzT 4 (h := ?_) | refine LGo.nilSl 4 3 (h := ?_) | skip
        exact LGo.ret (ret_TTT Tryz.results83 hA hmd)
      · -- else 6
        rw [if_neg (by rw [hc6]; simp)] at e1; rw [← e1]
        refine LGo.skip ?_
        refine LGo.seq ?_
        refine LGo.region rfl ?_
        refine R.move (h := ?_)
        refine R.assign (h := ?_)
        refine R.assign (h := ?_)
        refine R.assign (h := ?_)
        refine Reg.nil ⟨fun h => (by cases h), ?_⟩
        first | refine LGo.frzT 4 (h := ?_) | refine LGo.nilSl 4 3 (h := ?_) | skip
        exact LGo.ret (ret_TTT Tryz.results83 hA hmd)




theorem low_succ (x : Int) : ∀ n, low x (n + 1) = low (x / 256) n ++ [x % 256]
  | 0 => by simp [low]
  | n + 1 => by
    have ih := low_succ x n
    show x / 2 ^ (8 * (n + 1)) % 256 :: low x (n + 1) = (x / 256 / 2 ^ (8 * n) % 256 :: low (x / 256) n) ++ [x % 256]
    rw [ih, List.cons_append]
    have e : x / 2 ^ (8 * (n + 1)) = x / 256 / 2 ^ (8 * n) := by
      rw [Int.ediv_ediv_of_nonneg (by omega), show 8 * (n + 1) = 8 + 8 * n from by omega, Int.pow_add]
      rfl
    rw [e]
theorem digs_step (x : Int) (h : 0 < x) : digs x = digs (x / 256) ++ [x % 256] := by
  have e : (bits x.toNat + 7) / 8 = (bits (x / 256).toNat + 7) / 8 + 1 := by
    by_cases hx : 256 ≤ x
    · have := bitsI_shift x 8 (by omega) hx
      have e2 : (x / 2 ^ 8) = x / 256 := rfl
      rw [e2] at this
      omega
    · have e0 : x / 256 = 0 := by omega
      have h1 := bits_le x.toNat 8 (by omega)
      have h2 : 1 ≤ bits x.toNat := by unfold bits; rw [if_neg (by omega)]; omega
      have h3 : bits (x / 256).toNat = 0 := by rw [e0]; rfl
      omega
  rw [digs, e, low_succ]
  rfl
theorem digs_zero : digs 0 = [] := rfl
theorem numB_digs : ∀ (k : Nat) (x : Int), 0 ≤ x → x < 256 ^ k → numB k x = digs x
  | 0, x, h0, h1 => by
    have : x = 0 := by simp at h1; omega
    subst this; rfl
  | k + 1, x, h0, h1 => by
    simp only [numB]
    split
    · rename_i h; subst h; rfl
    · rw [numB_digs k (x / 256) (by omega) (by rw [Int.pow_succ] at h1; omega), ← digs_step x (by omega)]
theorem outB_eq (r : Rule) (x : Fld) (h : FldOk x) : outB r x = fldB r x := by
  unfold outB fldB
  rw [numB_digs 9 x.num h.1 (Int.lt_of_lt_of_le h.2.1 (by decide))]
theorem one_eq (r : Rule) (x : Fld) (hk : r.kind = 1 ∨ r.kind = 2) : one r x = fldE r x := by
  unfold one fldE odd val
  rcases hk with h | h <;> simp [h]
theorem encR_eq (rs : List Rule) (hrs : ∀ r ∈ rs, 0 < r.tag ∧ (r.kind = 1 ∨ r.kind = 2)) : ∀ (fs : List Fld) (k : Nat) (prev last : Int), (k = 0 → last = 0) → (0 < k → prev = last) → (∀ x ∈ fs, FldOk x) →
    encR rs k prev fs = encF rs last fs
  | [], _, _, _, _, _, _ => rfl
  | x :: fs, k, prev, last, h0, h1, hok => by
    have ih := encR_eq rs hrs fs (k + 1) x.tag x.tag (by omega) (fun _ => rfl) (fun y hy => hok y (by simp [hy]))
    have hc : (!ruleHas x.tag rs || (decide (0 < (k : Int)) && decide (x.tag ≤ prev))) = (!ruleHas x.tag rs || decide (x.tag ≤ last)) := by
      cases hr : ruleHas x.tag rs with
      | false => rfl
      | true =>
        obtain ⟨hm, ht⟩ := ruleAt_mem hr
        have hp := (hrs _ hm).1
        rw [ht] at hp
        by_cases hk : k = 0
        · have := h0 hk
          subst this; subst hk
          simp; omega
        · have := h1 (by omega)
          subst this
          simp; omega
    simp only [encR, encF]
    rw [hc]
    by_cases h2 : (!ruleHas x.tag rs || decide (x.tag ≤ last)) = true
    · rw [if_pos h2, if_pos h2]
    · rw [if_neg h2, if_neg h2]
      have hr : ruleHas x.tag rs = true := by
        cases hh : ruleHas x.tag rs with
        | true => rfl
        | false => rw [hh] at h2; simp at h2
      rw [one_eq _ x (hrs _ (ruleAt_mem hr).1).2, outB_eq _ x (hok x (by simp)), ih]
theorem missing_all (rs : List Rule) (fs : List Fld) : missing rs rs.length fs = lackF rs fs := by
  unfold missing lackF needs
  rw [List.take_length, List.any_map, List.any_filter]
  rfl
theorem encode_eq (rs : List Rule) (fs : List Fld) (hok : ∀ x ∈ fs, FldOk x) : encodeR rs fs = encode rs fs := by
  unfold encode encodeR
  rw [refCheck_eq, missing_all]
  by_cases hc : check rs = 0
  · have hk := (check_ok hc).2
    rw [if_pos hc, if_pos hc, encR_eq rs (fun r hr => ⟨(hk r hr).1, by rcases (hk r hr).2.2.2 with h | h; exact .inl h; exact .inr h.1⟩) fs 0 0 0 (fun _ => rfl) (fun h => rfl) hok]
  · rw [if_neg hc, if_neg hc]

/-! reading -/
theorem be_one (c : UInt8) : be [c] = c.toNat := by simp [be]
theorem be_two (c d : UInt8) : be [c, d] = c.toNat * 256 + d.toNat := by simp [be]
theorem get_read (r : Rule) (b : List UInt8) (hk : r.kind = 1 ∨ r.kind = 2) : (getV r b).2.2 = (readV r b).2.2 ∧ ((readV r b).2.2 = true → (getV r b).1 = (readV r b).1 ∧ (getV r b).2.1 = b.drop (readV r b).2.1.toNat) := by
  rcases hk with hk | hk
  · match b with
    | [] => unfold getV readV; simp [hk]
    | c :: tl =>
      have e1 : r.kind.toNat = 1 := by rw [hk]; rfl
      unfold getV readV
      rw [e1, if_pos hk, if_neg (by simp), show (c :: tl).take 1 = [c] from rfl, show (c :: tl).drop 1 = tl from rfl, be_one, show b0 (c :: tl) = c from rfl, show b1 (c :: tl) = (tl[0]?).getD 0 from rfl, if_neg (show ¬ r.kind = 2 from by omega)]
      simp only [List.length_cons]
      have g := u8_ge c
      by_cases h1 : (tl.length : Int) < c.toNat
      · rw [if_pos h1, if_pos (by omega)]; simp
      · rw [if_neg h1]
        by_cases h2 : (8 : Int) < c.toNat ∨ (0 < (c.toNat : Int) ∧ ((tl[0]?).getD 0).toNat = 0)
        · rw [if_pos h2, if_pos (by omega)]; simp
        · rw [if_neg h2, if_neg (by omega)]
          refine ⟨rfl, fun _ => ⟨rfl, ?_⟩⟩
          simp only [Int.toNat_natCast]
          rw [show ((1 : Int) + (c.toNat : Int)).toNat = c.toNat + 1 from by omega, List.drop_succ_cons]
  · have e1 : r.kind.toNat = 2 := by rw [hk]; rfl
    match b with
    | [] => unfold getV readV; simp [hk]
    | [c] => unfold getV readV; simp [hk]
    | c :: d :: tl =>
      unfold getV readV
      have g := u8_ge c
      have g2 := u8_ge d
      rw [e1, if_neg (show ¬ r.kind = 1 from by omega), if_pos hk, if_neg (show ¬ (c :: d :: tl).length < 2 from by simp), if_neg (show ¬ ((c :: d :: tl).length : Int) < 2 from by simp only [List.length_cons]; omega), show (c :: d :: tl).take 2 = [c, d] from rfl, show (c :: d :: tl).drop 2 = tl from rfl, be_two, show b0 (c :: d :: tl) = c from rfl, show b1 (c :: d :: tl) = d from rfl]
      simp only [List.length_cons]
      have ec : (256 : Int) * c.toNat + d.toNat = c.toNat * 256 + d.toNat := by omega
      have en : (2 + (256 * c.toNat + d.toNat) : Nat) = (c.toNat * 256 + d.toNat) + 2 := by omega
      rw [ec]
      by_cases h1 : (tl.length : Int) < c.toNat * 256 + d.toNat
      · rw [if_pos h1, if_pos (by omega)]; simp
      · rw [if_neg h1]
        by_cases h2 : within r (c.toNat * 256 + d.toNat) = false
        · rw [if_pos (.inl h2)]; simp [h2]
        · have h3 : within r (c.toNat * 256 + d.toNat) = true := by simpa using h2
          rw [if_neg (by simp only [h3]; simp; omega)]
          refine ⟨h3, fun _ => ⟨?_, ?_⟩⟩
          · simp only [Fld.mk.injEq, true_and]
            rw [show ((c.toNat : Int) * 256 + d.toNat).toNat = c.toNat * 256 + d.toNat from by omega, en, show (c.toNat * 256 + d.toNat) + 2 = (c.toNat * 256 + d.toNat + 1) + 1 from rfl, List.take_succ_cons, List.take_succ_cons]
            rfl
          · rw [show ((2 : Int) + ((c.toNat : Int) * 256 + d.toNat)).toNat = (c.toNat * 256 + d.toNat + 1) + 1 from by omega, show ((c.toNat : Int) * 256 + d.toNat).toNat = c.toNat * 256 + d.toNat from by omega, List.drop_succ_cons, List.drop_succ_cons]

/-! what is missing -/
theorem checkGo_asc : ∀ (rs : List Rule) (last : Int), 0 ≤ last → checkGo last rs = 0 → rs.Pairwise (fun a b => a.tag < b.tag)
  | [], _, _, _ => List.Pairwise.nil
  | r :: rs, last, h0, h => by
    have h1 := checkGo_ok (r :: rs) last h0 h
    have hr := h1 r (by simp)
    have h2 : checkGo r.tag rs = 0 := by
      simp only [checkGo] at h
      split at h
      · cases h
      · split at h
        · exact h
        · split at h
          · cases h
          · exact h
    exact List.Pairwise.cons (fun q hq => (checkGo_ok rs r.tag (by omega) h2 q hq).1) (checkGo_asc rs r.tag (by omega) h2)
theorem check_asc {rs : List Rule} (h : check rs = 0) : rs.Pairwise (fun a b => a.tag < b.tag) := by
  unfold check at h
  split at h
  · cases h
  · exact checkGo_asc rs 0 (by omega) h
def rem (rs : List Rule) (acc : List Fld) : List Int := (needs rs).filter (fun t => !fldHas t acc)
theorem rem_asc {rs : List Rule} (h : check rs = 0) (acc : List Fld) : (rem rs acc).Pairwise (· < ·) := by
  unfold rem needs
  exact List.Pairwise.filter _ (List.pairwise_map.2 (List.Pairwise.filter _ (check_asc h)))
theorem mem_rem (rs : List Rule) (acc : List Fld) (t : Int) : t ∈ rem rs acc ↔ ∃ r ∈ rs, r.must = true ∧ r.tag = t ∧ fldHas t acc = false := by
  unfold rem needs
  simp only [List.mem_filter, List.mem_map, Bool.not_eq_true']
  constructor
  · rintro ⟨⟨r, ⟨h1, h2⟩, h3⟩, h4⟩; exact ⟨r, h1, h2, h3, h4⟩
  · rintro ⟨r, h1, h2, h3, h4⟩; exact ⟨⟨r, ⟨h1, h2⟩, h3⟩, h4⟩
theorem rem_nil (rs : List Rule) : rem rs [] = needs rs := by
  unfold rem
  rw [List.filter_eq_self.2]
  intro t _
  rfl
theorem rem_lack (rs : List Rule) (acc : List Fld) : lackF rs acc = decide (0 < ((rem rs acc).length : Int)) := by
  unfold lackF rem
  rw [Bool.eq_iff_iff, List.any_eq_true, decide_eq_true_iff]
  constructor
  · rintro ⟨t, h1, h2⟩
    have : t ∈ (needs rs).filter (fun t => !fldHas t acc) := List.mem_filter.2 ⟨h1, h2⟩
    have := List.length_pos_of_mem this
    omega
  · intro h
    obtain ⟨t, ht⟩ := List.exists_mem_of_length_pos (by omega : 0 < ((needs rs).filter (fun t => !fldHas t acc)).length)
    obtain ⟨h1, h2⟩ := List.mem_filter.1 ht
    exact ⟨t, h1, h2⟩
theorem head_lt {l : List Int} (h : l.Pairwise (· < ·)) (c : Int) : (decide (0 < (l.length : Int)) && decide (l.headD 0 < c)) = true ↔ ∃ t ∈ l, t < c := by
  cases l with
  | nil => simp
  | cons t l =>
    simp only [List.length_cons, List.headD_cons, Bool.and_eq_true, decide_eq_true_eq]
    constructor
    · rintro ⟨_, h1⟩; exact ⟨t, by simp, of_decide_eq_true h1⟩
    · rintro ⟨s, hs, h1⟩
      refine ⟨by omega, ?_⟩
      rcases List.mem_cons.1 hs with rfl | hs
      · exact decide_eq_true h1
      · have := (List.pairwise_cons.1 h).1 s hs
        exact decide_eq_true (show t < c by omega)
theorem missing_at {rs : List Rule} (hc : check rs = 0) {c : Int} (hr : ruleHas c rs = true) (acc : List Fld) :
    missing rs (idxN c rs) acc = (decide (0 < ((rem rs acc).length : Int)) && decide ((rem rs acc).headD 0 < c)) := by
  obtain ⟨j, hj, h1, h2⟩ := idx_at hr
  have hn : idxN c rs = j := by unfold idxN; rw [h1]; rfl
  have ht : rs[j].tag = c := by rw [h2]; exact (ruleAt_mem hr).2
  have hasc := List.pairwise_iff_getElem.1 (check_asc hc)
  rw [Bool.eq_iff_iff, head_lt (rem_asc hc acc), hn]
  unfold missing
  rw [List.any_eq_true]
  constructor
  · rintro ⟨r, hm, hl⟩
    obtain ⟨i, hi, rfl⟩ := List.mem_iff_getElem.1 hm
    rw [List.length_take] at hi
    rw [List.getElem_take] at hl
    simp only [lacks, Bool.and_eq_true, Bool.not_eq_true'] at hl
    exact ⟨rs[i].tag, (mem_rem rs acc _).2 ⟨rs[i], List.getElem_mem _, hl.1, rfl, hl.2⟩, by have := hasc i j (by omega) hj (by omega); omega⟩
  · rintro ⟨t, hm, hlt⟩
    obtain ⟨r, h3, h4, rfl, h5⟩ := (mem_rem rs acc t).1 hm
    obtain ⟨i, hi, rfl⟩ := List.mem_iff_getElem.1 h3
    have hij : i < j := by
      rcases Nat.lt_trichotomy i j with h | h | h
      · exact h
      · subst h; omega
      · have := hasc j i hj hi h; omega
    exact ⟨rs[i], List.mem_iff_getElem.2 ⟨i, by rw [List.length_take]; omega, by rw [List.getElem_take]⟩, by simp [lacks, h4, h5]⟩
theorem fldHas_snoc (t : Int) (acc : List Fld) (x : Fld) : fldHas t (acc ++ [x]) = (fldHas t acc || decide (x.tag = t)) := by
  unfold fldHas
  rw [List.find?_append]
  cases h : acc.find? (fun x => decide (x.tag = t)) with
  | some y => simp
  | none =>
    by_cases hx : x.tag = t <;> simp [hx]
theorem rem_snoc {rs : List Rule} (hc : check rs = 0) (acc : List Fld) (x : Fld) (h : ¬ ∃ t ∈ rem rs acc, t < x.tag) :
    rem rs (acc ++ [x]) = if (decide (0 < ((rem rs acc).length : Int)) && decide ((rem rs acc).headD 0 = x.tag)) = true then (rem rs acc).tail else rem rs acc := by
  have e : rem rs (acc ++ [x]) = (rem rs acc).filter (fun t => !decide (x.tag = t)) := by
    unfold rem
    rw [List.filter_filter]
    congr 1
    funext t
    rw [fldHas_snoc]
    cases fldHas t acc <;> simp
  rw [e]
  have hasc := rem_asc hc acc
  generalize rem rs acc = ms at h hasc
  cases ms with
  | nil => rfl
  | cons t ts =>
    have h1 := (List.pairwise_cons.1 hasc).1
    have h2 : ¬ t < x.tag := fun hh => h ⟨t, by simp, hh⟩
    have h3 : ts.filter (fun s => !decide (x.tag = s)) = ts := by
      rw [List.filter_eq_self]
      intro s hs
      have := h1 s hs
      simp; omega
    by_cases ht : t = x.tag
    · rw [if_pos (by simp [ht]), List.filter_cons_of_neg (by simp [ht]), h3]
      rfl
    · rw [if_neg (by simp [ht]), List.filter_cons_of_pos (by simp; omega), h3]

/-! the two decodings -/
def fin (b : List UInt8) (acc : List Fld) (d : List Fld × List UInt8 × List Int) : List Fld × Int × Int :=
  if (decide ((0 : Int) < d.2.1.length) || decide ((0 : Int) < d.2.2.length)) = true then ([], (b.length : Int) - d.2.1.length, 11) else (acc ++ d.1, 0, 0)
theorem fin_nil (rs : List Rule) (b : List UInt8) (acc : List Fld) : finR rs b acc = fin b acc ([], [], rem rs acc) := by
  unfold finR fin
  rw [missing_all, rem_lack]
  simp
theorem fin_stop (b : List UInt8) (acc : List Fld) (k : Nat) (c : UInt8) (tl : List UInt8) (ms : List Int) (h : b.drop k = c :: tl) : fin b acc ([], c :: tl, ms) = ([], (k : Int), 11) := by
  have hl : (b.drop k).length = tl.length + 1 := by rw [h]; rfl
  rw [List.length_drop] at hl
  unfold fin
  rw [if_pos (by simp)]
  simp only [List.length_cons, Prod.mk.injEq, true_and, and_true]
  omega
theorem dec_eq {rs : List Rule} (hc : check rs = 0) (b : List UInt8) : ∀ (n k : Nat) (last : Int) (acc : List Fld), b.length ≤ n + k → decR rs b n last acc k = fin b acc (decF rs n (rem rs acc) last (b.drop k))
  | 0, k, last, acc, h => by
    rw [List.drop_eq_nil_of_le (by omega), decF_nil, ← fin_nil]
    rfl
  | n + 1, k, last, acc, h => by
    by_cases hk : b.length ≤ k
    · rw [List.drop_eq_nil_of_le hk, decF_nil, ← fin_nil, decR_end _ _ _ _ _ _ hk]
    · have hlt : k < b.length := by omega
      have hd := List.drop_eq_getElem_cons hlt
      have hb : b[k]? = some b[k] := List.getElem?_eq_getElem hlt
      generalize b[k] = c at hd hb
      rw [decR_step rs b n last acc k c hb, hd]
      simp only [decF]
      by_cases hr : ruleHas c.toNat rs = true
      · have ht := (ruleAt_mem hr).2
        have hkd := (check_ok hc).2 _ (ruleAt_mem hr).1
        rw [ht, missing_at hc hr acc]
        by_cases h1 : ((!ruleHas (c.toNat : Int) rs || decide ((c.toNat : Int) ≤ last)) || (decide (0 < ((rem rs acc).length : Int)) && decide ((rem rs acc).headD 0 < (c.toNat : Int)))) = true
        · rw [if_pos h1, if_pos h1, fin_stop b acc k c _ _ hd]
        · rw [if_neg h1, if_neg h1]
          obtain ⟨g1, g2⟩ := get_read (ruleAt c.toNat rs) (b.drop (k + 1)) (by rcases hkd.2.2.2 with h | h; exact .inl h; exact .inr h.1)
          rw [g1]
          by_cases h2 : (readV (ruleAt c.toNat rs) (b.drop (k + 1))).2.2 = true
          · obtain ⟨g3, g4⟩ := g2 h2
            have hnn := (readV_len _ _ h2).1
            rw [if_neg (by simp [h2]), if_neg (by simp [h2]), readV_tag, ht, g3, g4, List.drop_drop]
            have hle : ¬ ∃ t ∈ rem rs acc, t < (c.toNat : Int) := fun hh => by
              have := (head_lt (rem_asc hc acc) (c.toNat : Int)).2 hh
              rw [this] at h1
              simp at h1
            have hs := rem_snoc hc acc (readV (ruleAt c.toNat rs) (b.drop (k + 1))).1 (by rw [readV_tag, ht]; exact hle)
            rw [readV_tag, ht] at hs
            rw [dec_eq hc b n _ _ _ (by omega), ← hs]
            unfold fin
            simp only [List.append_assoc, List.singleton_append]
          · rw [if_pos (by simpa using h2), if_pos (by simpa using h2), fin_stop b acc k c _ _ hd]
      · have hr' : ruleHas (c.toNat : Int) rs = false := by simpa using hr
        rw [if_pos (by simp [hr']), if_pos (by simp [hr']), fin_stop b acc k c _ _ hd]
theorem decode_eq (rs : List Rule) (b : List UInt8) : decodeR rs b = decode rs b := by
  unfold decode decodeR
  rw [refCheck_eq]
  by_cases hc : check rs = 0
  · rw [if_pos hc, if_pos hc, dec_eq hc b b.length 0 0 [] (by omega), rem_nil]
    rfl
  · rw [if_neg hc, if_neg hc]



/-! bytes -/
def BytL (l : List Int) : Prop := ∀ y ∈ l, 0 ≤ y ∧ y < 256
theorem BytL.app {l m : List Int} (h : BytL l) (h2 : BytL m) : BytL (l ++ m) := fun y hy => by
  rcases List.mem_append.1 hy with h' | h'
  · exact h y h'
  · exact h2 y h'
theorem BytL.cons {x : Int} {l : List Int} (h0 : 0 ≤ x) (h1 : x < 256) (h : BytL l) : BytL (x :: l) := fun y hy => by
  rcases List.mem_cons.1 hy with rfl | h'
  · exact ⟨h0, h1⟩
  · exact h y h'
theorem low_byt (x : Int) : ∀ n, BytL (low x n)
  | 0 => fun y hy => by simp [low] at hy
  | n + 1 => BytL.cons (Int.emod_nonneg _ (by omega)) (Int.emod_lt_of_pos _ (by omega)) (low_byt x n)
theorem digs_byt (x : Int) : BytL (digs x) := low_byt x _
theorem textI_byt (l : List UInt8) : BytL (textI l) := fun y hy => by
  obtain ⟨c, _, rfl⟩ := List.mem_map.1 hy
  exact ⟨u8_ge c, u8_lt c⟩
def fldG (r : Rule) (x : Fld) : List Int := if r.kind = 1 then ((digs x.num).length : Int) :: digs x.num else ((x.txt.length : Int) / 256) :: ((x.txt.length : Int) % 256) :: textI x.txt
theorem fldB_G (r : Rule) (x : Fld) : fldB r x = x.tag :: fldG r x := by
  unfold fldB fldG
  split <;> rfl
theorem fldG_byt (r : Rule) (x : Fld) (h : FldOk x) : BytL (fldG r x) := by
  have h1 := digs_len x.num h.1 h.2.1
  have h2 := h.2.2
  unfold fldG
  split
  · exact BytL.cons (by omega) (by omega) (digs_byt _)
  · exact BytL.cons (by omega) (by omega) (BytL.cons (by omega) (by omega) (textI_byt _))
theorem encF_byt {rs : List Rule} (hrs : ∀ r ∈ rs, 0 < r.tag ∧ r.tag ≤ 63) : ∀ (fs : List Fld) (last : Int), (∀ x ∈ fs, FldOk x) → BytL (encF rs last fs).2
  | [], _, _ => fun y hy => by simp [encF] at hy
  | x :: fs, last, h => by
    simp only [encF]
    split
    · intro y hy; simp at hy
    · rename_i h1
      split
      · have hr : ruleHas x.tag rs = true := by
          cases hh : ruleHas x.tag rs with
          | true => rfl
          | false => rw [hh] at h1; simp at h1
        obtain ⟨hm, ht⟩ := ruleAt_mem hr
        have hb := hrs _ hm
        rw [ht] at hb
        rw [fldB_G]
        exact (BytL.cons (by omega) (by omega) (fldG_byt _ x (h x (by simp)))).app (encF_byt hrs fs x.tag (fun y hy => h y (by simp [hy])))
      · intro y hy; simp at hy
theorem encode_byt (rs : List Rule) (fs : List Fld) (h : ∀ x ∈ fs, FldOk x) : BytL (encode rs fs).1 := by
  have hnil : BytL [] := fun y hy => by simp at hy
  unfold encode
  split
  · rename_i hc
    have hk := (check_ok hc).2
    split
    · exact hnil
    · split
      · split
        · exact hnil
        · exact encF_byt (fun r hr => ⟨(hk r hr).1, (hk r hr).2.1⟩) fs 0 h
      · exact hnil
  · exact hnil
theorem byt_text (l : List UInt8) : (textI l).map byt = l := by
  unfold textI
  rw [List.map_map]
  conv => rhs; rw [← List.map_id l]
  apply List.map_congr_left
  intro c _
  exact byt_of c
def encBy (rs : List Rule) (fs : List Fld) : List UInt8 := (encode rs fs).1.map byt
theorem textI_app (a b : List UInt8) : textI (a ++ b) = textI a ++ textI b := List.map_append
/-! numbers -/
theorem digs_be (l : List UInt8) (hl : l ≠ [] → 0 < (l.headD 0).toNat) : ∀ k, k ≤ l.length → (1 ≤ k → 0 < be (l.take k)) ∧ digs (be (l.take k)) = textI (l.take k)
  | 0, _ => ⟨by omega, by rw [List.take_zero]; rfl⟩
  | k + 1, h => by
    obtain ⟨h1, h2⟩ := digs_be l hl k (by omega)
    have hb := be_take l k (by omega)
    have hc := u8_lt l[k]
    have hc0 := u8_ge l[k]
    have hpos : 0 < be (l.take (k + 1)) := by
      rw [hb]
      by_cases hk : k = 0
      · subst hk
        have := hl (by intro e; rw [e] at h; simp at h)
        have e : l.headD 0 = l[0] := by
          cases l with
          | nil => simp at h
          | cons c l => rfl
        rw [e] at this
        simp only [List.take_zero]
        have e0 : be [] = 0 := rfl
        omega
      · have := h1 (by omega)
        omega
    refine ⟨fun _ => hpos, ?_⟩
    rw [digs_step _ hpos, hb, show (be (l.take k) * 256 + (l[k].toNat : Int)) / 256 = be (l.take k) from by omega, show (be (l.take k) * 256 + (l[k].toNat : Int)) % 256 = l[k].toNat from by omega, h2, List.take_succ_eq_append_getElem (by omega), textI_app]
    rfl
theorem digs_be' (l : List UInt8) (hl : l ≠ [] → 0 < (l.headD 0).toNat) : digs (be l) = textI l := by
  have := (digs_be l hl l.length (Nat.le_refl _)).2
  rwa [List.take_length] at this
theorem be_digs : ∀ (k : Nat) (x : Int), 0 ≤ x → x < 256 ^ k → be ((digs x).map byt) = x ∧ (0 < x → digs x ≠ [] ∧ 0 < (((digs x).map byt).headD 0).toNat)
  | 0, x, h0, h1 => by
    have : x = 0 := by simp at h1; omega
    subst this
    exact ⟨rfl, fun h => absurd h (by omega)⟩
  | k + 1, x, h0, h1 => by
    by_cases hx : x = 0
    · subst hx; exact ⟨rfl, fun h => absurd h (by omega)⟩
    · obtain ⟨h2, h3⟩ := be_digs k (x / 256) (by omega) (by rw [Int.pow_succ] at h1; omega)
      have hm := byt_toNat (x % 256) (by omega) (by omega)
      rw [digs_step x (by omega), List.map_append, List.map_singleton, be_snoc, h2, hm]
      refine ⟨by omega, fun _ => ⟨by simp, ?_⟩⟩
      by_cases hq : x / 256 = 0
      · rw [hq, digs_zero]
        show 0 < (byt (x % 256)).toNat
        omega
      · obtain ⟨h4, h5⟩ := h3 (by omega)
        cases hd : digs (x / 256) with
        | nil => exact absurd hd h4
        | cons a l => rw [hd] at h5; exact h5

/-! a field, read and written -/
theorem be_lt8 (l : List UInt8) (h : l.length ≤ 8) : be l < 18446744073709551616 := be_lt' l 8 h
theorem getV_one (r : Rule) (c : UInt8) (tl : List UInt8) (hk : r.kind = 1) : getV r (c :: tl) = if (tl.length : Int) < c.toNat then (⟨r.tag, 0, []⟩, [], false) else
    if 8 < (c.toNat : Int) ∨ (0 < (c.toNat : Int) ∧ ((tl[0]?).getD 0).toNat = 0) then (⟨r.tag, 0, []⟩, [], false) else (⟨r.tag, be (tl.take c.toNat), []⟩, tl.drop c.toNat, within r (be (tl.take c.toNat))) := by
  have e1 : r.kind.toNat = 1 := by rw [hk]; rfl
  unfold getV
  rw [e1, if_neg (show ¬ (c :: tl).length < 1 from by simp), show (c :: tl).take 1 = [c] from rfl, show (c :: tl).drop 1 = tl from rfl, be_one, if_neg (show ¬ r.kind = 2 from by omega)]
  simp only [Int.toNat_natCast]
theorem getV_two (r : Rule) (c d : UInt8) (tl : List UInt8) (hk : r.kind = 2) : getV r (c :: d :: tl) = if (tl.length : Int) < c.toNat * 256 + d.toNat then (⟨r.tag, 0, []⟩, [], false) else
    (⟨r.tag, 0, tl.take (c.toNat * 256 + d.toNat)⟩, tl.drop (c.toNat * 256 + d.toNat), within r (c.toNat * 256 + d.toNat)) := by
  have e1 : r.kind.toNat = 2 := by rw [hk]; rfl
  unfold getV
  rw [e1, if_neg (show ¬ (c :: d :: tl).length < 2 from by simp), show (c :: d :: tl).take 2 = [c, d] from rfl, show (c :: d :: tl).drop 2 = tl from rfl, be_two, if_pos hk]
  have e2 : ((c.toNat : Int) * 256 + d.toNat).toNat = c.toNat * 256 + d.toNat := by omega
  rw [e2]
theorem textI_cons (c : UInt8) (l : List UInt8) : textI (c :: l) = (c.toNat : Int) :: textI l := rfl
theorem getV_A (r : Rule) (b : List UInt8) (hk : r.kind = 1 ∨ (r.kind = 2 ∧ r.high ≤ 400)) (h : (getV r b).2.2 = true) :
    FldOk (getV r b).1 ∧ fldE r (getV r b).1 = 0 ∧ textI b = fldG r (getV r b).1 ++ textI (getV r b).2.1 := by
  rcases hk with hk | ⟨hk, hh⟩
  · match b with
    | [] => unfold getV at h; simp [hk] at h
    | c :: tl =>
      rw [getV_one r c tl hk] at h ⊢
      by_cases h1 : (tl.length : Int) < c.toNat
      · rw [if_pos h1] at h; cases h
      · rw [if_neg h1] at h ⊢
        by_cases h2 : 8 < (c.toNat : Int) ∨ (0 < (c.toNat : Int) ∧ ((tl[0]?).getD 0).toNat = 0)
        · rw [if_pos h2] at h; cases h
        · rw [if_neg h2] at h ⊢
          simp only at h ⊢
          have hl : (tl.take c.toNat).length = c.toNat := by rw [List.length_take]; omega
          have hc : digs (be (tl.take c.toNat)) = textI (tl.take c.toNat) := digs_be' _ (fun hne => by
            cases tl with
            | nil => simp at hne
            | cons e tl =>
              cases hn : c.toNat with
              | zero => rw [hn] at hne; simp at hne
              | succ n =>
                show 0 < e.toNat
                have : (((e :: tl)[0]?).getD 0).toNat = e.toNat := rfl
                omega)
          refine ⟨⟨be_nn _, be_lt8 _ (by omega), by simp⟩, ?_, ?_⟩
          · unfold fldE; rw [if_pos hk, if_neg (by simp), if_neg (by simp [h])]
          · unfold fldG
            rw [if_pos hk]
            simp only [hc, textI_len, hl]
            rw [textI_cons, List.cons_append, ← textI_app, List.take_append_drop]
  · match b with
    | [] => unfold getV at h; simp [hk] at h
    | [c] => unfold getV at h; simp [hk] at h
    | c :: d :: tl =>
      rw [getV_two r c d tl hk] at h ⊢
      have gc := u8_lt c
      have gd := u8_lt d
      by_cases h1 : (tl.length : Int) < c.toNat * 256 + d.toNat
      · rw [if_pos h1] at h; cases h
      · rw [if_neg h1] at h ⊢
        simp only at h ⊢
        have hl : (tl.take (c.toNat * 256 + d.toNat)).length = c.toNat * 256 + d.toNat := by rw [List.length_take]; omega
        have hw : (c.toNat * 256 + d.toNat : Int) ≤ r.high := by simp only [within, Bool.and_eq_true, decide_eq_true_eq] at h; exact h.2
        refine ⟨⟨by simp, by simp, by simp only [hl]; omega⟩, ?_, ?_⟩
        · unfold fldE
          rw [if_neg (by omega)]
          simp only [hl]
          rw [if_neg (by simp), if_neg (by simp [h])]
        · unfold fldG
          rw [if_neg (by omega)]
          simp only [hl]
          rw [textI_cons, textI_cons, List.cons_append, List.cons_append, ← textI_app, List.take_append_drop]
          congr 1
          · omega
          · congr 1; omega
theorem fldE_kind (r : Rule) (x : Fld) (h : fldE r x = 0) : (r.kind = 1 → x.txt = [] ∧ within r x.num = true) ∧ (r.kind ≠ 1 → x.num = 0 ∧ within r x.txt.length = true) := by
  unfold fldE at h
  constructor
  · intro hk
    rw [if_pos hk] at h
    split at h
    · cases h
    · rename_i h1
      split at h
      · cases h
      · rename_i h2; exact ⟨by simpa using h1, by simpa using h2⟩
  · intro hk
    rw [if_neg hk] at h
    split at h
    · cases h
    · rename_i h1
      split at h
      · cases h
      · rename_i h2; exact ⟨by simpa using h1, by simpa using h2⟩
theorem getV_B (r : Rule) (x : Fld) (rest : List UInt8) (hk : r.kind = 1 ∨ r.kind = 2) (hx : FldOk x) (ht : x.tag = r.tag) (he : fldE r x = 0) : getV r ((fldG r x).map byt ++ rest) = (x, rest, true) := by
  obtain ⟨k1, k2⟩ := fldE_kind r x he
  obtain ⟨tag, num, txt⟩ := x
  obtain ⟨hn0, hn1, hxl⟩ := hx
  simp only at *
  subst ht
  rcases hk with hk | hk
  · obtain ⟨rfl, hw⟩ := k1 hk
    have hd := digs_len num hn0 hn1
    have hlen := byt_toNat ((digs num).length : Int) (by omega) (by omega)
    obtain ⟨hbe, hhd⟩ := be_digs 8 num hn0 (Int.lt_of_lt_of_le hn1 (by decide))
    unfold fldG
    rw [if_pos hk]
    simp only [List.map_cons, List.cons_append]
    have hN : (byt ((digs num).length : Int)).toNat = ((digs num).map byt).length := by rw [List.length_map]; omega
    rw [getV_one r _ _ hk, hN, if_neg (by simp only [List.length_append]; omega), List.take_left, List.drop_left, hbe, hw, if_neg ?_]
    rw [List.length_map]
    by_cases h0 : 0 < num
    · obtain ⟨h3, h4⟩ := hhd h0
      cases hdd : digs num with
      | nil => exact absurd hdd h3
      | cons a l =>
        rw [hdd] at h4 hd
        have h5 : (((((a :: l).map byt ++ rest)[0]?).getD 0).toNat) = (((a :: l).map byt).headD 0).toNat := rfl
        rw [h5]
        omega
    · have : num = 0 := by omega
      subst this
      rw [digs_zero]
      simp
  · obtain ⟨rfl, hw⟩ := k2 (by omega)
    unfold fldG
    rw [if_neg (by omega)]
    simp only [List.map_cons, List.cons_append]
    have h1 := byt_toNat ((txt.length : Int) / 256) (by omega) (by omega)
    have h2 := byt_toNat ((txt.length : Int) % 256) (by omega) (by omega)
    have hN : (byt ((txt.length : Int) / 256)).toNat * 256 + (byt ((txt.length : Int) % 256)).toNat = txt.length := by omega
    have hI : ((byt ((txt.length : Int) / 256)).toNat : Int) * 256 + (byt ((txt.length : Int) % 256)).toNat = txt.length := by omega
    rw [getV_two r _ _ _ hk, hI, hN, byt_text, if_neg (by simp only [List.length_append]; omega), List.take_left, List.drop_left, hw]



theorem ruleHas_kind {rs : List Rule} (hc : check rs = 0) {t : Int} (h : ruleHas t rs = true) :
    (ruleAt t rs).tag = t ∧ 0 < t ∧ t ≤ 63 ∧ ((ruleAt t rs).kind = 1 ∨ ((ruleAt t rs).kind = 2 ∧ (ruleAt t rs).high ≤ 400)) := by
  obtain ⟨hm, ht⟩ := ruleAt_mem h
  have := (check_ok hc).2 _ hm
  rw [ht] at this
  exact ⟨ht, this.1, this.2.1, this.2.2.2⟩
theorem ruleHas_kind' {rs : List Rule} (hc : check rs = 0) {t : Int} (h : ruleHas t rs = true) : (ruleAt t rs).kind = 1 ∨ (ruleAt t rs).kind = 2 := by
  rcases (ruleHas_kind hc h).2.2.2 with h | h
  · exact .inl h
  · exact .inr h.1

/-- one round of the decoding -/
theorem decF_cons (rs : List Rule) (n : Nat) (ms : List Int) (last : Int) (c : UInt8) (tl : List UInt8) :
    (decF rs (n + 1) ms last (c :: tl) = ([], c :: tl, ms)) ∨
    (ruleHas c.toNat rs = true ∧ last < (c.toNat : Int) ∧ ¬ ((decide ((0 : Int) < ms.length) && decide (ms.headD 0 < (c.toNat : Int))) = true) ∧ (getV (ruleAt c.toNat rs) tl).2.2 = true ∧
      decF rs (n + 1) ms last (c :: tl) = ((getV (ruleAt c.toNat rs) tl).1 :: (decF rs n (if (decide ((0 : Int) < ms.length) && decide (ms.headD 0 = (c.toNat : Int))) = true then ms.tail else ms) c.toNat (getV (ruleAt c.toNat rs) tl).2.1).1,
        (decF rs n (if (decide ((0 : Int) < ms.length) && decide (ms.headD 0 = (c.toNat : Int))) = true then ms.tail else ms) c.toNat (getV (ruleAt c.toNat rs) tl).2.1).2)) := by
  have e : decF rs (n + 1) ms last (c :: tl) = if ((!ruleHas c.toNat rs || decide ((c.toNat : Int) ≤ last)) || (decide ((0 : Int) < ms.length) && decide (ms.headD 0 < (c.toNat : Int)))) = true then ([], c :: tl, ms)
    else if (!(getV (ruleAt c.toNat rs) tl).2.2) = true then ([], c :: tl, ms)
    else ((getV (ruleAt c.toNat rs) tl).1 :: (decF rs n (if (decide ((0 : Int) < ms.length) && decide (ms.headD 0 = (c.toNat : Int))) = true then ms.tail else ms) c.toNat (getV (ruleAt c.toNat rs) tl).2.1).1, (decF rs n (if (decide ((0 : Int) < ms.length) && decide (ms.headD 0 = (c.toNat : Int))) = true then ms.tail else ms) c.toNat (getV (ruleAt c.toNat rs) tl).2.1).2) := by
    rw [decF]
  rw [e]
  by_cases h1 : ((!ruleHas c.toNat rs || decide ((c.toNat : Int) ≤ last)) || (decide ((0 : Int) < ms.length) && decide (ms.headD 0 < (c.toNat : Int)))) = true
  · rw [if_pos h1]; exact .inl rfl
  · rw [if_neg h1]
    by_cases h2 : (!(getV (ruleAt c.toNat rs) tl).2.2) = true
    · rw [if_pos h2]; exact .inl rfl
    · rw [if_neg h2]
      rw [Bool.not_eq_true, Bool.or_eq_false_iff, Bool.or_eq_false_iff] at h1
      refine .inr ⟨by simpa using h1.1.1, by simpa using h1.1.2, by rw [h1.2]; simp, by simpa using h2, rfl⟩

/-- what is read is written to the same bytes -/
theorem decF_C {rs : List Rule} (hc : check rs = 0) : ∀ (n : Nat) (last : Int) (acc : List Fld) (b : List UInt8),
    (encF rs last (decF rs n (rem rs acc) last b).1).1 = 0 ∧ textI b = (encF rs last (decF rs n (rem rs acc) last b).1).2 ++ textI (decF rs n (rem rs acc) last b).2.1 ∧
    (∀ x ∈ (decF rs n (rem rs acc) last b).1, FldOk x) ∧ (decF rs n (rem rs acc) last b).2.2 = rem rs (acc ++ (decF rs n (rem rs acc) last b).1)
  | n, last, acc, [] => by
    rw [decF_nil]
    exact ⟨rfl, rfl, by simp, by simp⟩
  | 0, last, acc, c :: tl => by
    have e : decF rs 0 (rem rs acc) last (c :: tl) = ([], c :: tl, rem rs acc) := rfl
    rw [e]
    exact ⟨rfl, rfl, by simp, by simp⟩
  | n + 1, last, acc, c :: tl => by
    rcases decF_cons rs n (rem rs acc) last c tl with e | ⟨h1, h2, h3, h4, e⟩
    · rw [e]
      exact ⟨rfl, rfl, by simp, by simp⟩
    · obtain ⟨ht, _, _, hk⟩ := ruleHas_kind hc h1
      obtain ⟨g1, g2, g3⟩ := getV_A (ruleAt c.toNat rs) tl hk h4
      have gt := getV_tag (ruleAt c.toNat rs) tl
      rw [ht] at gt
      have hle : ¬ ∃ t ∈ rem rs acc, t < (getV (ruleAt c.toNat rs) tl).1.tag := fun hh => h3 (by rw [gt] at hh; exact (head_lt (rem_asc hc acc) (c.toNat : Int)).2 hh)
      have hs := rem_snoc hc acc (getV (ruleAt c.toNat rs) tl).1 hle
      rw [gt] at hs
      rw [← hs] at e
      obtain ⟨i1, i2, i3, i4⟩ := decF_C hc n c.toNat (acc ++ [(getV (ruleAt c.toNat rs) tl).1]) (getV (ruleAt c.toNat rs) tl).2.1
      rw [e]
      generalize decF rs n (rem rs (acc ++ [(getV (ruleAt c.toNat rs) tl).1])) c.toNat (getV (ruleAt c.toNat rs) tl).2.1 = d at i1 i2 i3 i4
      generalize (getV (ruleAt c.toNat rs) tl).2.1 = rest at g3 i2
      generalize (getV (ruleAt c.toNat rs) tl).1 = x at *
      have e1 : encF rs last (x :: d.1) = ((encF rs c.toNat d.1).1, fldB (ruleAt c.toNat rs) x ++ (encF rs c.toNat d.1).2) := by
        simp only [encF]
        rw [gt, if_neg (by simp [h1]; omega), if_pos g2]
      rw [e1]
      refine ⟨i1, ?_, ?_, ?_⟩
      · rw [fldB_G, gt, textI_cons, g3, i2]
        simp
      · intro y hy
        rcases List.mem_cons.1 hy with rfl | hy
        · exact g1
        · exact i3 y hy
      · rw [i4]; simp

/-- the fields of a message ascend -/
theorem encF_asc {rs : List Rule} : ∀ (fs : List Fld) (last : Int), (encF rs last fs).1 = 0 → (fs.map Fld.tag).Pairwise (· < ·) ∧ ∀ x ∈ fs, last < x.tag ∧ ruleHas x.tag rs = true
  | [], _, _ => ⟨List.Pairwise.nil, by simp⟩
  | x :: fs, last, h => by
    simp only [encF] at h
    split at h
    · cases h
    · rename_i h1
      rw [Bool.not_eq_true, Bool.or_eq_false_iff] at h1
      have h2 : ruleHas x.tag rs = true := by simpa using h1.1
      have h3 : last < x.tag := by simpa using h1.2
      split at h
      · obtain ⟨i1, i2⟩ := encF_asc fs x.tag h
        refine ⟨?_, fun y hy => ?_⟩
        · simp only [List.map_cons, List.pairwise_cons]
          refine ⟨fun t ht => ?_, i1⟩
          obtain ⟨y, hy, rfl⟩ := List.mem_map.1 ht
          exact (i2 y hy).1
        · rcases List.mem_cons.1 hy with rfl | hy
          · exact ⟨h3, h2⟩
          · have := i2 y hy
            exact ⟨by omega, this.2⟩
      · rename_i h4; exact absurd h h4
theorem asc_len : ∀ (m l : List Int), m.Pairwise (· < ·) → l.Pairwise (· < ·) → (∀ t ∈ l, t ∈ m) → l.length ≤ m.length
  | [], l, _, _, h => by
    cases l with
    | nil => simp
    | cons a l => exact absurd (h a (by simp)) (by simp)
  | t :: m, [], _, _, _ => by simp
  | t :: m, s :: l, hm, hl, h => by
    have hm' := List.pairwise_cons.1 hm
    have hl' := List.pairwise_cons.1 hl
    have hs : t ≤ s := by
      rcases List.mem_cons.1 (h s (by simp)) with h1 | h1
      · omega
      · have := hm'.1 s h1; omega
    have hsub : ∀ u ∈ l, u ∈ m := fun u hu => by
      have h1 := hl'.1 u hu
      rcases List.mem_cons.1 (h u (by simp [hu])) with h2 | h2
      · omega
      · exact h2
    have := asc_len m l hm'.2 hl'.2 hsub
    simp only [List.length_cons]
    omega
theorem encF_len {rs : List Rule} (hc : check rs = 0) (fs : List Fld) (last : Int) (h : (encF rs last fs).1 = 0) : fs.length ≤ 16 := by
  obtain ⟨h1, h2⟩ := encF_asc fs last h
  have h3 := asc_len (rs.map Rule.tag) (fs.map Fld.tag) (List.pairwise_map.2 (check_asc hc)) h1 (fun t ht => by
    obtain ⟨x, hx, rfl⟩ := List.mem_map.1 ht
    obtain ⟨hm, ht'⟩ := ruleAt_mem (h2 x hx).2
    exact List.mem_map.2 ⟨_, hm, ht'⟩)
  rw [List.length_map, List.length_map] at h3
  have := (check_ok hc).1
  omega

/-- the answers of Decode -/
theorem decode_cases (rs : List Rule) (b : List UInt8) : (check rs ≠ 0 ∧ decode rs b = ([], 0, check rs)) ∨ (check rs = 0 ∧ ∃ at' : Int, 0 ≤ at' ∧ at' ≤ b.length ∧ decode rs b = ([], at', 11)) ∨
    (check rs = 0 ∧ ∃ l, decode rs b = (l, 0, 0) ∧ decF rs b.length (needs rs) 0 b = (l, [], [])) := by
  by_cases hc : check rs = 0
  · right
    unfold decode
    rw [if_pos hc]
    obtain ⟨_, h2, _, _⟩ := decF_C hc b.length 0 [] b
    rw [rem_nil] at h2
    have hl := congrArg List.length h2
    rw [List.length_append, textI_len, textI_len] at hl
    split
    · exact .inl ⟨hc, _, by omega, by omega, rfl⟩
    · rename_i h
      refine .inr ⟨hc, _, rfl, ?_⟩
      rw [Bool.not_eq_true, Bool.or_eq_false_iff] at h
      have h3 : (decF rs b.length (needs rs) 0 b).2.1 = [] := List.eq_nil_of_length_eq_zero (by have := of_decide_eq_false h.1; omega)
      have h4 : (decF rs b.length (needs rs) 0 b).2.2 = [] := List.eq_nil_of_length_eq_zero (by have := of_decide_eq_false h.2; omega)
      generalize decF rs b.length (needs rs) 0 b = d at h3 h4 ⊢
      obtain ⟨d1, d2, d3⟩ := d
      simp only at h3 h4
      subst h3; subst h4
      rfl
  · left
    exact ⟨hc, by unfold decode; rw [if_neg hc]⟩
theorem one_law {rs : List Rule} {b : List UInt8} {l : List Fld} (hc : check rs = 0) (h : decF rs b.length (needs rs) 0 b = (l, [], [])) :
    (∀ x ∈ l, FldOk x) ∧ l.length ≤ 16 ∧ encode rs l = (textI b, 0) := by
  obtain ⟨h1, h2, h3, h4⟩ := decF_C hc b.length 0 [] b
  rw [rem_nil, h] at h1 h2 h3 h4
  simp only [List.nil_append] at h1 h2 h3 h4
  have hl := encF_len hc l 0 h1
  refine ⟨h3, hl, ?_⟩
  have hlack : lackF rs l = false := by rw [rem_lack, ← h4]; rfl
  unfold encode
  rw [if_pos hc, if_neg (by omega), if_pos h1, if_neg (by rw [hlack]; simp), h2]
  simp [textI]
/-- the answers of Encode -/
theorem encode_ok {rs : List Rule} {fs : List Fld} (h : (encode rs fs).2 = 0) : check rs = 0 ∧ (encF rs 0 fs).1 = 0 ∧ rem rs fs = [] ∧ (encode rs fs).1 = (encF rs 0 fs).2 := by
  unfold encode at h ⊢
  split at h
  · rename_i hc
    rw [if_pos hc]
    split at h
    · cases h
    · rename_i h1
      rw [if_neg h1]
      split at h
      · rename_i h2
        rw [if_pos h2]
        split at h
        · cases h
        · rename_i h3
          rw [if_neg h3]
          refine ⟨hc, h2, ?_, rfl⟩
          rw [rem_lack] at h3
          exact List.eq_nil_of_length_eq_zero (by have := of_decide_eq_false (Bool.not_eq_true _ ▸ h3); omega)
      · rename_i h2; exact absurd h h2
  · rename_i hc; exact absurd h hc
theorem encode_err {rs : List Rule} {fs : List Fld} (h : (encode rs fs).2 ≠ 0) : (encode rs fs).1 = [] := by
  unfold encode at h ⊢
  split
  · split
    · rfl
    · split
      · split
        · rfl
        · rename_i hc h1 h2 h3
          rw [if_pos hc, if_neg h1, if_pos h2, if_neg h3] at h
          exact absurd rfl h
      · rfl
  · rfl
theorem byt_back (t : Int) (h0 : 0 ≤ t) (h1 : t < 256) : ((byt t).toNat : Int) = t := byt_toNat t h0 h1
theorem fldHas_of {t : Int} {fs : List Fld} (h : fldHas t fs = true) : ∃ x ∈ fs, x.tag = t := by
  unfold fldHas at h
  obtain ⟨x, hx⟩ := Option.isSome_iff_exists.1 h
  exact ⟨x, List.mem_of_find?_eq_some hx, by simpa using List.find?_some hx⟩
theorem fldHas_app (t : Int) (a b : List Fld) : fldHas t (a ++ b) = (fldHas t a || fldHas t b) := by
  unfold fldHas
  rw [List.find?_append]
  cases a.find? (fun x => decide (x.tag = t)) <;> simp
/-- nothing is missing ahead of the next field -/
theorem rem_ahead {rs : List Rule} {acc : List Fld} {x : Fld} {fs : List Fld} (hr : rem rs (acc ++ x :: fs) = []) (hx : ∀ y ∈ fs, x.tag < y.tag) : ¬ ∃ t ∈ rem rs acc, t < x.tag := by
  rintro ⟨t, ht, hlt⟩
  obtain ⟨r, h1, h2, h3, h4⟩ := (mem_rem rs acc t).1 ht
  have : t ∈ rem rs (acc ++ x :: fs) := (mem_rem rs _ t).2 ⟨r, h1, h2, h3, by
    rw [fldHas_app, h4, Bool.false_or]
    cases hh : fldHas t (x :: fs) with
    | false => rfl
    | true =>
      obtain ⟨y, hy, he⟩ := fldHas_of hh
      rcases List.mem_cons.1 hy with rfl | hy
      · omega
      · have := hx y hy; omega⟩
  rw [hr] at this
  simp at this
/-- what is written is read -/
theorem decF_D {rs : List Rule} (hc : check rs = 0) : ∀ (fs : List Fld) (n : Nat) (last : Int) (acc : List Fld), fs.length ≤ n → (encF rs last fs).1 = 0 → (∀ x ∈ fs, FldOk x) → rem rs (acc ++ fs) = [] →
    decF rs n (rem rs acc) last ((encF rs last fs).2.map byt) = (fs, [], [])
  | [], n, last, acc, _, _, _, hr => by
    rw [List.append_nil] at hr
    rw [hr]
    exact decF_nil rs n [] last
  | x :: fs, 0, _, _, h, _, _, _ => by simp at h
  | x :: fs, n + 1, last, acc, hn, he, hok, hr => by
    have hasc := encF_asc (x :: fs) last he
    have hx := hasc.2 x (by simp)
    have hk := ruleHas_kind hc hx.2
    have hxx := List.pairwise_cons.1 (show (x.tag :: fs.map Fld.tag).Pairwise (· < ·) from hasc.1)
    have e0 : encF rs last (x :: fs) = if fldE (ruleAt x.tag rs) x = 0 then ((encF rs x.tag fs).1, fldB (ruleAt x.tag rs) x ++ (encF rs x.tag fs).2) else (fldE (ruleAt x.tag rs) x, []) := by
      rw [encF, if_neg (by simp [hx.2]; omega)]
    rw [e0] at he ⊢
    by_cases hf : fldE (ruleAt x.tag rs) x = 0
    · rw [if_pos hf] at he ⊢
      simp only at he ⊢
      rw [fldB_G, List.cons_append, List.map_cons, List.map_append]
      have hb := byt_back x.tag (by omega) (by omega)
      have hB := getV_B (ruleAt x.tag rs) x ((encF rs x.tag fs).2.map byt) (ruleHas_kind' hc hx.2) (hok x (by simp)) hk.1.symm hf
      have hahead := rem_ahead hr (fun y hy => hxx.1 y.tag (List.mem_map.2 ⟨y, hy, rfl⟩))
      have hs := rem_snoc hc acc x hahead
      have hlt : ¬ ((decide ((0 : Int) < (rem rs acc).length) && decide ((rem rs acc).headD 0 < x.tag)) = true) := fun hh => hahead ((head_lt (rem_asc hc acc) x.tag).1 hh)
      rw [decF, hb, hB, if_neg (by rw [hx.2]; simp only [Bool.not_true, Bool.false_or, Bool.or_eq_true]; rintro (h | h); · simp at h; omega
                                   · exact hlt h)]
      simp only [Bool.not_true, Bool.false_eq_true, if_false]
      rw [← hs, decF_D hc fs n x.tag (acc ++ [x]) (by simp at hn; omega) he (fun y hy => hok y (by simp [hy])) (by simpa using hr)]
    · rw [if_neg hf] at he; exact absurd he hf
theorem encF_count {rs : List Rule} : ∀ (fs : List Fld) (last : Int), (encF rs last fs).1 = 0 → fs.length ≤ (encF rs last fs).2.length
  | [], _, _ => by simp
  | x :: fs, last, h => by
    simp only [encF] at h ⊢
    split at h
    · cases h
    · rename_i h1
      rw [if_neg h1]
      split at h
      · rename_i h2
        rw [if_pos h2]
        have := encF_count fs x.tag h
        rw [fldB_G]
        simp only [List.length_cons, List.length_append]
        omega
      · rename_i h2; exact absurd h h2
theorem round_law {rs : List Rule} {fs : List Fld} (hok : ∀ x ∈ fs, FldOk x) (h : (encode rs fs).2 = 0) : decode rs (encBy rs fs) = (fs, 0, 0) := by
  obtain ⟨hc, h1, h2, h3⟩ := encode_ok h
  have hb : encBy rs fs = (encF rs 0 fs).2.map byt := by unfold encBy; rw [h3]
  have hd := decF_D hc fs (encBy rs fs).length 0 [] (by rw [hb, List.length_map]; exact encF_count fs 0 h1) h1 hok (by simpa using h2)
  rw [rem_nil, ← hb] at hd
  unfold decode
  rw [if_pos hc, hd]
  rfl
/-! beginnings of messages; rules that allow less -/
/-! rules that allow less -/
/-! what the laws take -/
theorem decode_len (rs : List Rule) (b : List UInt8) : (decode rs b).1.length ≤ 16 := by
  rcases decode_cases rs b with ⟨_, h⟩ | ⟨_, _, _, _, h⟩ | ⟨hc, l, h, hd⟩
  · rw [h]; simp
  · rw [h]; simp
  · rw [h]; exact (one_law hc hd).2.1
theorem decodeR_P' (rs : List Rule) (b : List UInt8) (hrs : rs.length ≤ 100) (hb : b.length ≤ 10000) : PC Tryz.prog 83 [.sv (.sl 5 (rs.map Rule.c)), .sv (.sl 1 (bytesC b))] (.tup [.sv (.sl 3 ((decode rs b).1.map Fld.c)), .i (decode rs b).2.1, .i (decode rs b).2.2]) := by
  rw [← decode_eq]; exact decodeR_P rs b hrs hb
theorem encode_PB (rs : List Rule) (fs : List Fld) (hrs : rs.length ≤ 100) (hfs : fs.length ≤ 100) (hok : ∀ x ∈ fs, FldOk x) : PC Tryz.prog 148 [.sv (.sl 5 (rs.map Rule.c)), .sv (.sl 3 (fs.map Fld.c))] (.tup [.sv (.sl 1 (bytesC (encBy rs fs))), .i (encode rs fs).2]) := by
  have h := encode_P rs fs hrs hfs hok
  rw [ic_byt _ (encode_byt rs fs hok)] at h
  exact h
theorem encodeR_PB (rs : List Rule) (fs : List Fld) (hrs : rs.length ≤ 100) (hfs : fs.length ≤ 100) (hok : ∀ x ∈ fs, FldOk x) : PC Tryz.prog 151 [.sv (.sl 5 (rs.map Rule.c)), .sv (.sl 3 (fs.map Fld.c))] (.tup [.sv (.sl 1 (bytesC (encBy rs fs))), .i (encode rs fs).2]) := by
  have h := encodeR_P rs fs hrs hfs hok
  rw [encode_eq rs fs hok, ic_byt _ (encode_byt rs fs hok)] at h
  exact h
theorem fldB_len500 (r : Rule) (x : Fld) (hx : FldOk x) (h : x.txt.length ≤ 500) : (fldB r x).length ≤ 503 := by
  have h1 := digs_len x.num hx.1 hx.2.1
  unfold fldB
  split <;> simp [textI_len] <;> omega
theorem encF_len500 {rs : List Rule} : ∀ (fs : List Fld) (last : Int), (∀ x ∈ fs, FldOk x ∧ x.txt.length ≤ 500) → (encF rs last fs).2.length ≤ 503 * fs.length
  | [], _, _ => by simp [encF]
  | x :: fs, last, h => by
    simp only [encF]
    split
    · simp
    · split
      · have h1 := fldB_len500 (ruleAt x.tag rs) x (h x (by simp)).1 (h x (by simp)).2
        have h2 := encF_len500 (rs := rs) fs x.tag (fun y hy => h y (by simp [hy]))
        simp only [List.length_append, List.length_cons]
        omega
      · simp
theorem encBy_len {rs : List Rule} {l : List Fld} (h : ∀ x ∈ l, FldOk x ∧ x.txt.length ≤ 500) : (encBy rs l).length ≤ 8048 := by
  unfold encBy
  rw [List.length_map]
  by_cases he : (encode rs l).2 = 0
  · obtain ⟨hc, h1, _, h3⟩ := encode_ok he
    rw [h3]
    have := encF_len500 (rs := rs) l 0 h
    have := encF_len hc l 0 h1
    omega
  · rw [encode_err he]; simp
end Go.Proofs.YteccglgbkehdeaaGreatDoor
/- requests: fields into a request; Encode, Decode, Needs. -/
set_option linter.unusedSimpArgs false
set_option linter.unusedVariables false
namespace Go.Proofs.YteccglgbkehdeaaGreatDoor

abbrev zeroQ : Rq := ⟨0, 0, 0, 0, [], [], 0, 0, 0, 0⟩
def putQ (r : Rq) (f : Fld) : Rq := if f.tag = 1 then { r with id := f.num } else if f.tag = 2 then { r with owner := IntKind.u32.wrap f.num } else if f.tag = 3 then { r with ses := f.txt } else if f.tag = 4 then { r with tic := f.txt } else if f.tag = 5 then { r with seat := IntKind.i64.wrap f.num }
  else if f.tag = 6 then { r with sec := IntKind.i64.wrap f.num } else if f.tag = 7 then { r with n := IntKind.i64.wrap f.num } else if f.tag = 8 then { r with to := IntKind.u32.wrap f.num } else if f.tag = 9 then { r with gate := IntKind.i64.wrap f.num } else r
def foldQ (r : Rq) (l : List Fld) : Rq := l.foldl putQ r

theorem fieldQ_500 {r : Rq} (hr : RqOk r) (hs : r.ses.length ≤ 500 ∧ r.tic.length ≤ 500) (t : Int) : FldOk (fieldQ r t).1 ∧ (fieldQ r t).1.txt.length ≤ 500 := by
  have h1 := hr.id; have h3 := hr.owner; have h4 := hr.to
  have h2 := uw_lt
  obtain ⟨h5, h6⟩ := hs
  unfold fieldQ
  (repeat' split) <;> simp only [FldOk] <;> refine ⟨⟨?_, ?_, ?_⟩, ?_⟩ <;> first | exact (h2 _).1 | exact (h2 _).2 | (simp only [List.length_nil]; omega) | omega
theorem foGo_500 {m : Int} {r : Rq} (hr : RqOk r) (hs : r.ses.length ≤ 500 ∧ r.tic.length ≤ 500) : ∀ (n k : Nat) (l : List Fld) (e : Int), (∀ f ∈ l, FldOk f ∧ f.txt.length ≤ 500) → (∀ f ∈ (foGo m r n k l e).1, FldOk f ∧ f.txt.length ≤ 500) ∧ (foGo m r n k l e).1.length ≤ l.length + n
  | 0, k, l, e, hl => by
    rw [foGo]
    split
    · simp
    · exact ⟨hl, by simp⟩
  | n + 1, k, l, e, hl => by
    rw [foGo]
    split
    · split
      · simp
      · have := foGo_500 (m := m) hr hs n (k + 1) l e hl
        exact ⟨this.1, by omega⟩
    · have := foGo_500 hr hs n (k + 1) (l ++ [(fieldQ r k).1]) (errQ (ruleQ k) (fieldQ r k).1 (fieldQ r k).2 e) (m := m) (fun f hf => by
        rcases List.mem_append.1 hf with h | h
        · exact hl f h
        · rw [List.mem_singleton.1 h]; exact fieldQ_500 hr hs _)
      rw [List.length_append, List.length_cons, List.length_nil] at this
      exact ⟨this.1, by omega⟩
theorem fieldsOf_500 {r : Rq} (hr : RqOk r) (hs : r.ses.length ≤ 500 ∧ r.tic.length ≤ 500) : (∀ f ∈ (fieldsOf r).1, FldOk f ∧ f.txt.length ≤ 500) ∧ (fieldsOf r).1.length ≤ 9 := by
  unfold fieldsOf
  split
  · simp
  · have := foGo_500 (m := maskOf r.kind) hr hs 9 1 [] 0 (by simp)
    simpa using this
theorem ruGo_len (m : Int) : ∀ (n k : Nat) (l : List Rule), (ruGo m n k l).length ≤ l.length + n
  | 0, k, l => by simp [ruGo]
  | n + 1, k, l => by
    rw [ruGo]
    split
    · have := ruGo_len m n (k + 1) (l ++ [ruleQ k]); simp at this; omega
    · have := ruGo_len m n (k + 1) l; omega
theorem rulesQ_len (k : Int) : (rulesQ k).1.length ≤ 16 := by
  unfold rulesQ
  split
  · simp
  · have := ruGo_len (maskOf k) 16 0 []; simpa using this
theorem fieldsOf_kind {r : Rq} (h : (fieldsOf r).2 = 0) : 0 ≤ r.kind ∧ r.kind < 14 := by
  by_cases hk : r.kind < 0 ∨ 14 ≤ r.kind
  · unfold fieldsOf at h
    rw [if_pos (mask_out hk)] at h
    cases h
  · omega
def encQ (r : Rq) : List UInt8 × Int := if (!decide ((fieldsOf r).2 = 0)) = true then ([], (fieldsOf r).2) else if (!decide ((encode (rulesQ r.kind).1 (fieldsOf r).1).2 = 0)) = true then ([], (encode (rulesQ r.kind).1 (fieldsOf r).1).2) else (byt r.kind :: encBy (rulesQ r.kind).1 (fieldsOf r).1, 0)
theorem decode_at (rs : List Rule) (b : List UInt8) : 0 ≤ (decode rs b).2.1 ∧ (decode rs b).2.1 ≤ b.length := by
  rcases decode_cases rs b with ⟨_, h⟩ | ⟨_, a, h1, h2, h⟩ | ⟨_, l, h, _⟩
  · rw [h]; simp
  · rw [h]; exact ⟨h1, h2⟩
  · rw [h]; simp
def needsQ (k : Int) : Bool × Bool × Int := if maskOf k = 0 then (false, false, 2) else (decide (bitQ (maskOf k) 3 = 1), decide (bitQ (maskOf k) 4 = 1), 0)
/-- requests.Decode -/
def decQ : List UInt8 → Rq × Int × Int
  | [] => (zeroQ, 0, 11)
  | c :: b => if (!decide ((rulesQ c.toNat).2 = 0)) = true then (zeroQ, 0, 11) else if (!decide ((decode (rulesQ c.toNat).1 b).2.2 = 0)) = true then (zeroQ, (decode (rulesQ c.toNat).1 b).2.1 + 1, 11) else (foldQ { zeroQ with kind := c.toNat } (decode (rulesQ c.toNat).1 b).1, 0, 0)

theorem needsQ_P (kd : Int) : PC Tryz.prog 144 [.i kd] (.tup [.b (needsQ kd).1, .b (needsQ kd).2.1, .i (needsQ kd).2.2]) := by
 refine ⟨LC.of_go Tryz.func144 (c := _) rfl (by kernel_rfl) (by rw [Tryz.ntmps144]; simp) rfl rfl (by simp [LO.lt, LV.lts, LV.lt, lts_sv]) (by simp) ?_⟩
 intro B hA hmd
 obtain ⟨g, e0⟩ : ∃ g, needsQ kd = g := ⟨_, rfl⟩
 have e1 := e0
 unfold needsQ at e1
 rw [e0]
 have hm := maskOf_lt kd
 refine .seq ?_
 refine .region rfl ?_
 refine R.assign (h := ?_)
 refine R.assign (h := ?_)
 refine R.assign (h := ?_)
 refine .n0 ?_
 refine .seq ?_
 refine .region rfl ?_
 refine R.move (h := ?_)
 refine R.callP (es := [_]) (fun _ => mask_P kd) (h := ?_)
 refine R.assign (h := ?_)
 refine .n0 ?_
 refine .seq ?_
 refine .seq ?_
 refine .region rfl ?_
 refine R.move (h := ?_)
 refine R.bin (run_eql _ _ _ _ _ _) (h := ?_)
 refine .n0 ?_
 refine LGo.ifd (ht := fun hc => ?_) (hf := fun hc => ?_)
 ·
  rw [if_pos hc] at e1; rw [← e1]
  refine .seq ?_
  refine .region rfl ?_
  refine R.assign (h := ?_)
  refine R.assign (h := ?_)
  refine R.assign (h := ?_)
  refine .n0 ?_
  exact LGo.ret (ret_TTT Tryz.results144 hA hmd)
 ·
  rw [if_neg hc] at e1; rw [← e1]
  generalize maskOf kd = m at *
  refine .skip ?_
  refine .seq ?_
  refine .region rfl ?_
  refine R.move (h := ?_)
  refine R.shr (h := ?_)
  rw [show min (Int.toNat 3) IntKind.u16.bits = 3 from rfl]
  refine R.bin (run_andE _ _ _ .u16 _ 1 (and1_u16 _ (div_lt m 3 hm.1 hm.2).1 (div_lt m 3 hm.1 hm.2).2)) (h := ?_)
  refine R.bin (run_eql _ _ _ _ _ _) (h := ?_)
  refine R.move (h := ?_)
  refine R.shr (h := ?_)
  rw [show min (Int.toNat 4) IntKind.u16.bits = 4 from rfl]
  refine R.bin (run_andE _ _ _ .u16 _ 1 (and1_u16 _ (div_lt m 4 hm.1 hm.2).1 (div_lt m 4 hm.1 hm.2).2)) (h := ?_)
  refine R.bin (run_eql _ _ _ _ _ _) (h := ?_)
  refine R.assign (h := ?_)
  refine R.assign (h := ?_)
  refine R.assign (h := ?_)
  refine .n0 ?_
  exact LGo.ret (ret_TTT Tryz.results144 hA hmd)


end Go.Proofs.YteccglgbkehdeaaGreatDoor
/- words: what may stand plain between quotes, letters of escapes, quoting. -/
set_option linter.unusedSimpArgs false
set_option linter.unusedVariables false
namespace Go.Proofs.YteccglgbkehdeaaGreatDoor

def plainC (c : UInt8) : Bool := decide (32 ≤ c.toNat) && decide (c.toNat ≤ 126) && !decide (c.toNat = 34) && !decide (c.toNat = 92)
def escL (c : UInt8) : UInt8 := if c.toNat = 34 then 34 else if c.toNat = 92 then 92 else if c.toNat = 10 then 110 else if c.toNat = 13 then 114 else if c.toNat = 9 then 116 else 0
def hexT : List UInt8 := [48, 49, 50, 51, 52, 53, 54, 55, 56, 57, 97, 98, 99, 100, 101, 102]
def hexD (n : Nat) : UInt8 := hexT.getD n 0
def escaped (c : UInt8) : List UInt8 := if plainC c = true then [c] else if escL c ≠ 0 then [92, escL c] else [92, 120, hexD (c.toNat / 16), hexD (c.toNat % 16)]
def quote (s : List UInt8) : List UInt8 := 34 :: (s.flatMap escaped ++ [34])
/-- the value of a digit of base 16; 16: it is none -/
def hexV (c : UInt8) : Nat := hexT.idxOf c
def unesc : List UInt8 → UInt8 × Nat
  | [] => (0, 0)
  | a :: r =>
    if a.toNat = 34 then (34, 1) else if a.toNat = 92 then (92, 1) else if a.toNat = 110 then (10, 1) else if a.toNat = 114 then (13, 1) else if a.toNat = 116 then (9, 1)
    else if a.toNat ≠ 120 then (0, 0) else match r with
      | h :: l :: _ => if 16 ≤ hexV h ∨ 16 ≤ hexV l then (0, 0) else if (plainC (UInt8.ofNat (16 * hexV h + hexV l)) || decide (escL (UInt8.ofNat (16 * hexV h + hexV l)) ≠ 0)) = true then (0, 0) else (UInt8.ofNat (16 * hexV h + hexV l), 3)
      | _ => (0, 0)
def unqGo : Nat → List UInt8 → List UInt8 → Nat → List UInt8 × Nat
  | 0, _, _, _ => ([], 0)
  | _ + 1, [], _, _ => ([], 0)
  | f + 1, c :: r, acc, i =>
    if c.toNat = 34 then (acc, i + 1) else if c.toNat = 92 then (if (unesc r).2 = 0 then ([], 0) else unqGo f (r.drop (unesc r).2) (acc ++ [(unesc r).1]) (i + 1 + (unesc r).2))
    else if plainC c = true then unqGo f r (acc ++ [c]) (i + 1) else ([], 0)
def unq : List UInt8 → List UInt8 × Nat
  | [] => ([], 0)
  | a :: r => if a.toNat = 34 then unqGo (r.length + 1) r [] 1 else ([], 0)

theorem u8_all {p : UInt8 → Prop} [DecidablePred p] (h : ((List.range 256).all fun n => decide (p (UInt8.ofNat n))) = true) (c : UInt8) : p c := by
  have h1 := List.all_eq_true.1 h c.toNat (List.mem_range.2 c.toNat_lt)
  have h2 : UInt8.ofNat c.toNat = c := UInt8.ofNat_toNat
  rw [h2] at h1
  exact of_decide_eq_true h1

end Go.Proofs.YteccglgbkehdeaaGreatDoor
/- gates: what is a gate, when it is open; the check of gates. -/
set_option linter.unusedSimpArgs false
set_option linter.unusedVariables false
namespace Go.Proofs.YteccglgbkehdeaaGreatDoor

/-- a gate: its sections, from when and until when it is open -/
structure GtG where
  secs : List Int
  fr : Int
  to : Int
  deriving DecidableEq
instance : Inhabited GtG := ⟨⟨[], 0, 0⟩⟩
/-- an entry -/
structure GtE where
  seat : Int
  serial : Int
  epoch : Int
  gate : Int
  time : Int
  deriving DecidableEq
instance : Inhabited GtE := ⟨⟨0, 0, 0, 0, 0⟩⟩
structure GtS where
  gates : List GtG
  ents : List GtE
  deriving DecidableEq
/-- a call -/
structure GtC where
  gate : Int
  seat : Int
  owner : Int
  serial : Int
  epoch : Int
  sec : Int
  now : Int
def GtG.c (g : GtG) : List SV := [.sl 1 (ic .i64 g.secs), .val (.int .i64 g.fr), .val (.int .i64 g.to)]
def GtE.c (x : GtE) : List SV := [.val (.int .u32 x.seat), .val (.int .u64 x.serial), .val (.int .u64 x.epoch), .val (.int .i64 x.gate), .val (.int .i64 x.time)]
def GtS.c (s : GtS) : List SV := [.sl 3 (s.gates.map GtG.c), .sl 5 (s.ents.map GtE.c)]
def GtC.c (x : GtC) : List SV := [.val (.int .i64 x.gate), .val (.int .u32 x.seat), .val (.int .u32 x.owner), .val (.int .u64 x.serial), .val (.int .u64 x.epoch), .val (.int .i64 x.sec), .val (.int .i64 x.now)]
def S64 (n : Int) : Prop := -9223372036854775808 ≤ n ∧ n ≤ 9223372036854775807
def U64 (n : Int) : Prop := 0 ≤ n ∧ n < 18446744073709551616
def U32 (n : Int) : Prop := 0 ≤ n ∧ n < 4294967296
def GtG.ok (g : GtG) : Prop := g.secs.length ≤ maxLen ∧ (∀ n ∈ g.secs, S64 n) ∧ S64 g.fr ∧ S64 g.to
def GtE.ok (x : GtE) : Prop := U32 x.seat ∧ U64 x.serial ∧ U64 x.epoch ∧ S64 x.gate ∧ S64 x.time
def GtS.ok (s : GtS) : Prop := s.gates.length ≤ maxLen ∧ (∀ g ∈ s.gates, g.ok) ∧ s.ents.length ≤ maxLen ∧ ∀ x ∈ s.ents, x.ok
def GtC.ok (x : GtC) : Prop := S64 x.gate ∧ U32 x.seat ∧ U32 x.owner ∧ U64 x.serial ∧ U64 x.epoch ∧ S64 x.sec ∧ S64 x.now
def GtS.zero : GtS := ⟨[], []⟩
def GtE.zero : GtE := ⟨0, 0, 0, 0, 0⟩
/-- sections ascend, below 8: the last of them -/
def goodGo : List Int → Int → Option Int
  | [], last => some last
  | n :: r, last => if (decide (n ≤ last) || decide (8 ≤ n)) = true then none else goodGo r n
def goodG (g : GtG) : Bool := match goodGo g.secs (-1) with
  | none => false
  | some last => (decide (0 ≤ last) && decide (0 ≤ g.fr)) && decide (g.fr < g.to)
def openI (g : GtG) (t : Int) : Int := if t < g.fr then -1 else if g.to ≤ t then 1 else 0
def checkG (l : List GtG) : Int := if 8 < (l.length : Int) then 3 else if (decide ((l.length : Int) = 0) || l.any fun g => !goodG g) = true then 6 else 0
abbrev K3 := Int × Int × Int
def GtE.key (x : GtE) : K3 := (x.seat, x.epoch, x.serial)
def GtC.key (x : GtC) : K3 := (x.seat, x.epoch, x.serial)
def K3.v (k : K3) : List Value := [.int .u64 k.1, .int .u64 k.2.1, .int .u64 k.2.2]
def cmpI (x y : Int) : Int := if x < y then -1 else if y < x then 1 else 0
def cmpK (a b : K3) : Int := if cmpI a.1 b.1 = 0 then (if cmpI a.2.1 b.2.1 = 0 then cmpI a.2.2 b.2.2 else cmpI a.2.1 b.2.1) else cmpI a.1 b.1
/-- the order of keys -/
def ltK (a b : K3) : Prop := a.1 < b.1 ∨ a.1 = b.1 ∧ (a.2.1 < b.2.1 ∨ a.2.1 = b.2.1 ∧ a.2.2 < b.2.2)
/-- what is wrong with an entry behind another one -/
def badE (gs : List GtG) (p : Option GtE) (x : GtE) : Bool :=
  ((decide (x.gate < 0) || decide ((gs.length : Int) ≤ x.gate)) || !decide (openI (gs.getD x.gate.toNat default) x.time = 0)) || (match p with | none => false | some y => decide (0 ≤ cmpK y.key x.key))
def badGo (gs : List GtG) : Option GtE → List GtE → Bool
  | _, [] => false
  | p, x :: r => badE gs p x || badGo gs (some x) r
def checkGS (s : GtS) : Int := if checkG s.gates ≠ 0 then checkG s.gates else if 500 < (s.ents.length : Int) then 3 else if badGo s.gates none s.ents = true then 6 else 0
def GtC.ent (c : GtC) : GtE := ⟨c.seat, c.serial, c.epoch, c.gate, c.now⟩
def hasK (k : K3) (l : List GtE) : Bool := l.any fun x => decide (x.key = k)
/-- why a call is refused; 0: it is not -/
def refuse (gs : List GtG) (es : List GtE) (c : GtC) : Int :=
  if (decide (c.gate < 0) || decide ((gs.length : Int) ≤ c.gate)) = true then 4 else
  if (!(gs.getD c.gate.toNat default).secs.contains c.sec) = true then 15 else
  if openI (gs.getD c.gate.toNat default) c.now < 0 then 18 else
  if 0 < openI (gs.getD c.gate.toNat default) c.now then 13 else
  if hasK c.key es = true then 8 else
  if (es.length : Int) = 500 then 5 else 0
def insE (x : GtE) : List GtE → List GtE
  | [] => [x]
  | y :: l => if cmpK y.key x.key < 0 then y :: insE x l else x :: y :: l
def enterS (s : GtS) (c : GtC) : GtS × Int := if checkGS s ≠ 0 then (GtS.zero, checkGS s) else if refuse s.gates s.ents c ≠ 0 then (GtS.zero, refuse s.gates s.ents c) else (⟨s.gates, insE c.ent s.ents⟩, 0)
def findS (s : GtS) (k : K3) : GtE × Int := if checkGS s ≠ 0 then (GtE.zero, checkGS s) else match s.ents.find? (fun x => decide (x.key = k)) with
  | none => (GtE.zero, 4)
  | some x => (x, 0)
def countE (g : Int) (l : List GtE) : Int := l.foldl (fun n x => if x.gate = g then n + 1 else n) 0
def countS (s : GtS) (g : Int) : Int × Int := if checkGS s ≠ 0 then (0, checkGS s) else if (decide (g < 0) || decide ((s.gates.length : Int) ≤ g)) = true then (0, 4) else (countE g s.ents, 0)
def newS (l : List GtG) : GtS × Int := if checkG l ≠ 0 then (GtS.zero, checkG l) else (⟨l, []⟩, 0)

def finG (x : GtG) : Option Int → Bool
  | none => false
  | some last => (decide (0 ≤ last) && decide (0 ≤ x.fr)) && decide (x.fr < x.to)
theorem goodG_fin (x : GtG) : goodG x = finG x (goodGo x.secs (-1)) := by unfold goodG finG; cases goodGo x.secs (-1) <;> rfl
theorem icA {l : List Int} {j : Nat} (h : j < l.length) : (ic .i64 l)[((j : Nat) : Int).toNat]? = some [.val (.int .i64 l[j])] := by
  rw [Int.toNat_natCast]; exact ic_get (List.getElem?_eq_getElem h)

theorem good_P (z : GtG) (hz : z.secs.length ≤ 100000) : PC Tryz.prog 182 [.agg (z.c.map LV.sv)] (.b (goodG z)) := by
 refine ⟨LC.of_go Tryz.func182 (c := _) rfl (by kernel_rfl) (by rw [Tryz.ntmps182]; simp) rfl rfl (by simp [LO.lt, LV.lts, LV.lt, lts_sv]) (by simp) ?_⟩
 intro B hA hmd
 obtain ⟨g, e0⟩ : ∃ g, goodG z = g := ⟨_, rfl⟩
 have e1 := e0
 rw [goodG_fin] at e1
 rw [e0]
 refine .seq ?_
 refine .region rfl ?_
 refine R.box (h := ?_)
 refine R.assign (h := ?_)
 refine .n0 ?_
 refine .seq ?_
 refine .region rfl ?_
 refine R.assign (h := ?_)
 refine .n0 ?_
 refine .seq ?_
 refine .seq ?_
 refine .region rfl ?_
 first | refine R.field F71_0 (h := ?_) | refine R.fieldAt F71_0 (h := ?_)
 first | refine R.loadB O65 (h := ?_) | refine R.load1 O65 (h := ?_)
 first | refine R.len S65 (h := ?_) | refine R.lenRs S65 (h := ?_) | refine R.lenV (run_lenNil S65) (h := ?_)
 rw [ic_len]
 refine R.move (h := ?_)
 refine .n0 ?_
 refine .block ?_
 refine .loop ?_
 refine LGo.loopG (σ := Nat × Int) (fun x => x.1 ≤ z.secs.length ∧ finG z (goodGo (z.secs.drop x.1) x.2) = g) (fun x => [(9, (true, .i (x.1 : Nat))), (3, (true, .i x.2))]) (fun x => [(0, .box 71 (z.c.map LV.sv))]) (fun x => z.secs.length - x.1) (0, -1) [(1, _), (7, _), (8, _)] ⟨Nat.zero_le _, e1⟩ (by repeat (first | exact trivial | refine ⟨rfl, ?_⟩)) (by repeat (first | exact trivial | refine ⟨rfl, ?_⟩)) (by repeat (first | exact trivial | refine ⟨rfl, ?_⟩)) ?_
 rintro ⟨k, last⟩ ⟨hk, hq⟩ ih
 dsimp only at * 
 refine .seq ?_
 refine .region rfl ?_
 refine R.bin (run_lss _ _ _ _ _ _) (h := ?_)
 refine .n0 ?_
 refine .seq ?_
 refine LGo.ifd (ht := fun hc => ?_) (hf := fun hc => ?_)
 ·
  have hlt : k < z.secs.length := by omega
  have hx := icA hlt
  have hd : z.secs.drop k = z.secs[k] :: z.secs.drop (k + 1) := List.drop_eq_getElem_cons hlt
  rw [hd, goodGo] at hq
  generalize z.secs[k] = n at hx hq
  clear hd
  refine .skip ?_
  refine .seq ?_
  refine .block ?_
  refine .seq ?_
  refine .region rfl ?_
  refine R.index I65 (hj := fun hg => ⟨by omega, hx⟩) (h := ?_)
  first | refine R.loadB O3 (h := ?_) | refine R.load1 O3 (h := ?_)
  refine R.assign (h := ?_)
  refine .n0 ?_
  refine .seq ?_
  refine .seq ?_
  refine .region rfl ?_
  refine R.move (h := ?_)
  refine R.move (h := ?_)
  refine R.bin (run_leq _ _ _ _ _ _) (h := ?_)
  refine R.move (h := ?_)
  refine R.move (h := ?_)
  refine R.bin (run_geq _ _ _ _ _ _) (h := ?_)
  refine R.or (h := ?_)
  refine .n0 ?_
  refine LGo.ifb (ht := fun hc2 => ?_) (hf := fun hc2 => ?_)
  ·
   rw [if_pos hc2] at hq
   rw [← hq]
   refine .seq ?_
   refine .region rfl ?_
   refine R.assign (h := ?_)
   refine .n0 ?_
   exact LGo.ret (ret_T Tryz.results182 hA hmd)
  ·
   rw [if_neg (by rw [hc2]; simp)] at hq
   refine .skip ?_
   refine .region rfl ?_
   refine R.move (h := ?_)
   refine R.assign (h := ?_)
   refine .n0 ?_
   refine .inBlock ?_
   refine .region rfl ?_
   first | refine R.add (h := ?_) | refine R.addW (h := ?_)
   refine R.move (h := ?_)
   refine .n0 ?_
   refine .inLoop ?_
   exact LGo.next _ (fun o h => by have := (hA o).1 h; omega) (by omega) (ih (k + 1, n) ⟨by omega, hq⟩ (by omega)) (by repeat (first | exact trivial | refine ⟨rfl, ?_⟩)) ⟨rfl, trivial⟩
 ·
  rw [List.drop_eq_nil_of_le (show z.secs.length ≤ k by omega), goodGo] at hq
  rw [← hq]
  refine .exit rfl ?_
  refine .seq ?_
  refine .region rfl ?_
  refine R.move (h := ?_)
  refine R.bin (run_geq _ _ _ _ _ _) (h := ?_)
  refine R.move (h := ?_)
  first | refine R.field F71_1 (h := ?_) | refine R.fieldAt F71_1 (h := ?_)
  first | refine R.loadB O2 (h := ?_) | refine R.load1 O2 (h := ?_)
  refine R.bin (run_geq _ _ _ _ _ _) (h := ?_)
  refine R.and (h := ?_)
  refine R.move (h := ?_)
  first | refine R.field F71_1 (h := ?_) | refine R.fieldAt F71_1 (h := ?_)
  first | refine R.loadB O2 (h := ?_) | refine R.load1 O2 (h := ?_)
  first | refine R.field F71_2 (h := ?_) | refine R.fieldAt F71_2 (h := ?_)
  first | refine R.loadB O2 (h := ?_) | refine R.load1 O2 (h := ?_)
  refine R.bin (run_lss _ _ _ _ _ _) (h := ?_)
  refine R.and (h := ?_)
  refine R.assign (h := ?_)
  refine .n0 ?_
  exact LGo.ret (ret_T Tryz.results182 hA hmd)

theorem notGood_P (x : GtG) (hx0 : x.secs.length ≤ 100000) : PC Tryz.prog 181 [.agg (x.c.map LV.sv)] (.b (!goodG x)) := by
 refine ⟨LC.of_go Tryz.func181 (c := _) rfl (by kernel_rfl) (by rw [Tryz.ntmps181]; simp) rfl rfl (by simp [LO.lt, LV.lts, LV.lt, lts_sv]) (by simp) ?_⟩
 intro B hA hmd
 refine .seq ?_
 refine .region rfl ?_
 refine R.box (h := ?_)
 refine R.assign (h := ?_)
 refine .n0 ?_
 refine .seq ?_
 refine .region rfl ?_
 first | refine R.loadA A71 (h := ?_) | refine R.loadN A71 (h := ?_) | refine R.loadP A71 (h := ?_)
 refine R.callP (es := [_]) (fun _ => good_P x hx0) (h := ?_)
 refine R.not (h := ?_)
 refine R.assign (h := ?_)
 refine .n0 ?_
 exact LGo.ret (ret_T Tryz.results181 hA hmd)

/-- the place of the first element that p takes; -1: none -/
def idxP {α : Type} (p : α → Bool) : Nat → List α → Int
  | _, [] => -1
  | k, x :: xs => if p x = true then (k : Int) else idxP p (k + 1) xs
theorem idxP_any {α : Type} (p : α → Bool) : ∀ (xs : List α) (k : Nat), decide (0 ≤ idxP p k xs) = xs.any p
  | [], k => rfl
  | x :: xs, k => by
    rw [idxP, List.any_cons]
    cases h : p x
    · simpa using idxP_any p xs (k + 1)
    · simp

theorem idxGood_P (l : List GtG) (hl : l.length ≤ 100000) (hs : ∀ g ∈ l, g.secs.length ≤ 100000) : PC Tryz.prog 231 [.sv (.sl 3 (l.map GtG.c)), .fn (.func 181) [] []] (.i (idxP (fun x => !goodG x) 0 l)) := by
 refine ⟨LC.of_go Tryz.func231 (c := _) rfl (by kernel_rfl) (by rw [Tryz.ntmps231]; simp) rfl rfl (by simp [LO.lt, LV.lts, LV.lt, lts_sv]) (by simp) ?_⟩
 intro B hA hmd
 obtain ⟨g, e1⟩ : ∃ g, idxP (fun x => !goodG x) 0 l = g := ⟨_, rfl⟩
 rw [e1]
 refine .seq ?_
 refine .region rfl ?_
 refine R.assign (h := ?_)
 refine .n0 ?_
 refine .seq ?_
 refine .seq ?_
 refine .region rfl ?_
 refine R.move (h := ?_)
 first | refine R.len S25 (h := ?_) | refine R.lenRs S25 (h := ?_) | refine R.lenV (run_lenNil S25) (h := ?_)
 rw [List.length_map]
 refine R.move (h := ?_)
 refine .n0 ?_
 refine .block ?_
 refine .loop ?_
 refine LGo.loopG (σ := Nat) (fun x => x ≤ l.length ∧ idxP (fun x => !goodG x) x (l.drop x) = g) (fun x => [(8, (true, .i (x : Nat)))]) (fun x => []) (fun x => l.length - x) (0) [(0, _), (1, _), (7, _)] ⟨Nat.zero_le _, e1⟩ (by repeat (first | exact trivial | refine ⟨rfl, ?_⟩)) (by repeat (first | exact trivial | refine ⟨rfl, ?_⟩)) (by repeat (first | exact trivial | refine ⟨rfl, ?_⟩)) ?_
 rintro k ⟨hk, hq⟩ ih
 refine .seq ?_
 refine .region rfl ?_
 refine R.bin (run_lss _ _ _ _ _ _) (h := ?_)
 refine .n0 ?_
 refine .seq ?_
 refine LGo.ifd (ht := fun hc => ?_) (hf := fun hc => ?_)
 ·
  have hlt : k < l.length := by omega
  have hx : (l.map GtG.c)[((k : Nat) : Int).toNat]? = some l[k].c := by simp [hlt]
  have hd : l.drop k = l[k] :: l.drop (k + 1) := List.drop_eq_getElem_cons hlt
  rw [hd, idxP] at hq
  have hx0 := hs l[k] (List.getElem_mem hlt)
  generalize l[k] = x at hx hq hx0
  clear hd
  refine .skip ?_
  refine .seq ?_
  refine .block ?_
  refine .seq ?_
  refine .region rfl ?_
  refine R.move (h := ?_)
  refine R.assign (h := ?_)
  refine .n0 ?_
  refine .seq ?_
  refine .region rfl ?_
  refine R.move (h := ?_)
  refine R.move (h := ?_)
  refine R.move (h := ?_)
  refine R.index I25 (hj := fun hg => ⟨by omega, hx⟩) (h := ?_)
  first | refine R.loadA A71 (h := ?_) | refine R.loadN A71 (h := ?_) | refine R.loadP A71 (h := ?_)
  refine R.callRd (m := 0) (avs := [_]) (es := [_]) (first := []) (cap := []) (notGood_P x hx0).lc (hL := noHo) (h := ?_)
  refine .n0 ?_
  refine LGo.ifb (ht := fun hc2 => ?_) (hf := fun hc2 => ?_)
  ·
   rw [if_pos hc2] at hq
   rw [← hq]
   refine .seq ?_
   refine .region rfl ?_
   refine R.move (h := ?_)
   refine R.assign (h := ?_)
   refine .n0 ?_
   exact LGo.ret (ret_T Tryz.results231 hA hmd)
  ·
   rw [if_neg (by rw [hc2]; simp)] at hq
   refine .skip ?_
   refine .inBlock ?_
   refine .region rfl ?_
   first | refine R.add (h := ?_) | refine R.addW (h := ?_)
   refine R.move (h := ?_)
   refine .n0 ?_
   refine .inLoop ?_
   exact LGo.next _ (fun o h => by have := (hA o).1 h; omega) (by omega) (ih (k + 1) ⟨by omega, hq⟩ (by omega)) (by repeat (first | exact trivial | refine ⟨rfl, ?_⟩)) (by repeat (first | exact trivial | refine ⟨rfl, ?_⟩))
 ·
  rw [List.drop_eq_nil_of_le (show l.length ≤ k by omega), idxP] at hq
  rw [← hq]
  refine .exit rfl ?_
  refine .seq ?_
  refine .region rfl ?_
  refine R.assign (h := ?_)
  refine .n0 ?_
  exact LGo.ret (ret_T Tryz.results231 hA hmd)

theorem hasBad_P (l : List GtG) (hl : l.length ≤ 100000) (hs : ∀ g ∈ l, g.secs.length ≤ 100000) : PC Tryz.prog 180 [.sv (.sl 3 (l.map GtG.c)), .fn (.func 181) [] []] (.b (l.any fun x => !goodG x)) := by
 refine ⟨LC.of_go Tryz.func180 (c := _) rfl (by kernel_rfl) (by rw [Tryz.ntmps180]; simp) rfl rfl (by simp [LO.lt, LV.lts, LV.lt, lts_sv]) (by simp) ?_⟩
 intro B hA hmd
 refine .seq ?_
 refine .region rfl ?_
 refine R.assign (h := ?_)
 refine .n0 ?_
 refine .seq ?_
 refine .region rfl ?_
 refine R.move (h := ?_)
 refine R.move (h := ?_)
 refine R.callP (es := [_, _]) (fun _ => idxGood_P l hl hs) (h := ?_)
 refine R.bin (run_geq _ _ _ _ _ _) (h := ?_)
 rw [idxP_any]
 refine R.assign (h := ?_)
 refine .n0 ?_
 exact LGo.ret (ret_T Tryz.results180 hA hmd)

theorem checkG_P (l : List GtG) (hl : l.length ≤ 100000) (hs : ∀ g ∈ l, g.secs.length ≤ 100000) : PC Tryz.prog 111 [.sv (.sl 3 (l.map GtG.c))] (.i (checkG l)) := by
 refine ⟨LC.of_go Tryz.func111 (c := _) rfl (by kernel_rfl) (by rw [Tryz.ntmps111]; simp) rfl rfl (by simp [LO.lt, LV.lts, LV.lt, lts_sv]) (by simp) ?_⟩
 intro B hA hmd
 obtain ⟨g, e0⟩ : ∃ g, checkG l = g := ⟨_, rfl⟩
 have e1 := e0
 unfold checkG at e1
 rw [e0]
 refine .seq ?_
 refine .region rfl ?_
 refine R.assign (h := ?_)
 refine .n0 ?_
 refine .seq ?_
 refine .block ?_
 refine .seq ?_
 refine .region rfl ?_
 refine R.move (h := ?_)
 first | refine R.len S25 (h := ?_) | refine R.lenRs S25 (h := ?_) | refine R.lenV (run_lenNil S25) (h := ?_)
 rw [List.length_map]
 refine R.bin (run_gtr _ _ _ _ _ _) (h := ?_)
 refine R.assign (h := ?_)
 refine .n0 ?_
 refine LGo.ifd (ht := fun hc => ?_) (hf := fun hc => ?_)
 ·
  rw [if_pos hc] at e1
  refine .seq ?_
  refine .region rfl ?_
  refine R.assign (h := ?_)
  refine .n0 ?_
  rw [← e1]
  exact LGo.ret (ret_T Tryz.results111 hA hmd)
 ·
  rw [if_neg hc] at e1
  refine .seq ?_
  refine .region rfl ?_
  refine R.move (h := ?_)
  first | refine R.len S25 (h := ?_) | refine R.lenRs S25 (h := ?_) | refine R.lenV (run_lenNil S25) (h := ?_)
  rw [List.length_map]
  refine R.bin (run_eql _ _ _ _ _ _) (h := ?_)
  refine R.move (h := ?_)
  refine R.move (h := ?_)
  refine R.callP (es := [_, _]) (fun _ => hasBad_P l (by omega) hs) (h := ?_)
  refine R.or (h := ?_)
  refine R.assign (h := ?_)
  refine .n0 ?_
  refine LGo.ifb (ht := fun hc2 => ?_) (hf := fun hc2 => ?_)
  ·
   rw [if_pos hc2] at e1
   refine .seq ?_
   refine .region rfl ?_
   refine R.assign (h := ?_)
   refine .n0 ?_
   rw [← e1]
   exact LGo.ret (ret_T Tryz.results111 hA hmd)
  ·
   rw [if_neg (by rw [hc2]; simp)] at e1
   refine .skip ?_
   refine .inBlock ?_
   refine .seq ?_
   refine .region rfl ?_
   refine R.assign (h := ?_)
   refine .n0 ?_
   rw [← e1]
   exact LGo.ret (ret_T Tryz.results111 hA hmd)

end Go.Proofs.YteccglgbkehdeaaGreatDoor
/- gates: keys, and how they are compared; the check of a state. -/
set_option linter.unusedSimpArgs false
set_option linter.unusedVariables false
namespace Go.Proofs.YteccglgbkehdeaaGreatDoor

def cmpL : List Int → List Int → Int
  | [], [] => 0
  | [], _ :: _ => -1
  | _ :: _, [] => 1
  | a :: l, b :: m => if cmpI a b = 0 then cmpL l m else cmpI a b
end Go.Proofs.YteccglgbkehdeaaGreatDoor
/- gates: copies of slices; a copy of a state. -/
set_option linter.unusedSimpArgs false
set_option linter.unusedVariables false
namespace Go.Proofs.YteccglgbkehdeaaGreatDoor

theorem cloneG (xs : List (List SV)) (hsz : ∀ e ∈ xs, e.length = 3) (hl : xs.length ≤ 100000) : LC Tryz.prog 162 0 [.sv (.sl 3 xs)] [] (.ref 0) [(0, .rs 71 3 xs)] 1 := by
 refine LC.of_go Tryz.func162 (c := _) rfl (by kernel_rfl) (by rw [Tryz.ntmps162]; simp) rfl rfl (by simp [LO.lt, LV.lts, LV.lt, lts_sv]) (by simp) ?_
 intro B hA hmd
 refine .seq ?_
 refine .region rfl ?_
 refine R.assign (h := ?_)
 refine .n0 ?_
 refine .seq ?_
 refine .seq ?_
 refine .region rfl ?_
 refine R.move (h := ?_)
 rcases Classical.em (xs = []) with h0 | h0
 ·
  refine R.nilU (hT := Tryz.underlying25) (h := ?_)
  refine .n0 ?_
  refine LGo.ifU (ht := ?_) (hf := ?_)
  ·
   refine .seq ?_
   refine .region rfl ?_
   refine R.assign (h := ?_)
   refine .n0 ?_
   subst h0
   refine LGo.nilRs 2 71 3 (h := ?_)
   exact LGo.ret (FnPost.finI [0] (res_T Tryz.results162) hA hmd)
  ·
   refine .skip ?_
   refine .seq ?_
   refine .region rfl ?_
   refine R.buildSliceR AP25 (xs := []) (es := []) (hcs := CellsOfs.nil) (h := ?_)
   refine R.move (h := ?_)
   refine R.appendS AP25 (hs := SrcOk.sl Tryz.underlying25 (hsz)) (hlen := by simp; omega) (h := ?_)
   refine R.assign (h := ?_)
   refine .n0 ?_
   exact LGo.ret (FnPost.finI [1] (res_T Tryz.results162) hA hmd)
 ·
  refine R.nilF false (hT := Tryz.underlying25) (hne := fun _ => h0) (h := ?_)
  refine .n0 ?_
  refine LGo.ifb (ht := fun hc2 => by simp at hc2) (hf := fun hc2 => ?_)
  refine .skip ?_
  refine .seq ?_
  refine .region rfl ?_
  refine R.buildSliceR AP25 (xs := []) (es := []) (hcs := CellsOfs.nil) (h := ?_)
  refine R.move (h := ?_)
  refine R.appendS AP25 (hs := SrcOk.sl Tryz.underlying25 (hsz)) (hlen := by simp; omega) (h := ?_)
  refine R.assign (h := ?_)
  refine .n0 ?_
  exact LGo.ret (FnPost.finI [1] (res_T Tryz.results162) hA hmd)

theorem cloneE (xs : List (List SV)) (hsz : ∀ e ∈ xs, e.length = 5) (hl : xs.length ≤ 100000) : LC Tryz.prog 183 0 [.sv (.sl 5 xs)] [] (.ref 0) [(0, .rs 178 5 xs)] 1 := by
 refine LC.of_go Tryz.func183 (c := _) rfl (by kernel_rfl) (by rw [Tryz.ntmps183]; simp) rfl rfl (by simp [LO.lt, LV.lts, LV.lt, lts_sv]) (by simp) ?_
 intro B hA hmd
 refine .seq ?_
 refine .region rfl ?_
 refine R.assign (h := ?_)
 refine .n0 ?_
 refine .seq ?_
 refine .seq ?_
 refine .region rfl ?_
 refine R.move (h := ?_)
 rcases Classical.em (xs = []) with h0 | h0
 ·
  refine R.nilU (hT := Tryz.underlying97) (h := ?_)
  refine .n0 ?_
  refine LGo.ifU (ht := ?_) (hf := ?_)
  ·
   refine .seq ?_
   refine .region rfl ?_
   refine R.assign (h := ?_)
   refine .n0 ?_
   subst h0
   refine LGo.nilRs 2 178 5 (h := ?_)
   exact LGo.ret (FnPost.finI [0] (res_T Tryz.results183) hA hmd)
  ·
   refine .skip ?_
   refine .seq ?_
   refine .region rfl ?_
   refine R.buildSliceR AP97 (xs := []) (es := []) (hcs := CellsOfs.nil) (h := ?_)
   refine R.move (h := ?_)
   refine R.appendS AP97 (hs := SrcOk.sl Tryz.underlying97 (hsz)) (hlen := by simp; omega) (h := ?_)
   refine R.assign (h := ?_)
   refine .n0 ?_
   exact LGo.ret (FnPost.finI [1] (res_T Tryz.results183) hA hmd)
 ·
  refine R.nilF false (hT := Tryz.underlying97) (hne := fun _ => h0) (h := ?_)
  refine .n0 ?_
  refine LGo.ifb (ht := fun hc2 => by simp at hc2) (hf := fun hc2 => ?_)
  refine .skip ?_
  refine .seq ?_
  refine .region rfl ?_
  refine R.buildSliceR AP97 (xs := []) (es := []) (hcs := CellsOfs.nil) (h := ?_)
  refine R.move (h := ?_)
  refine R.appendS AP97 (hs := SrcOk.sl Tryz.underlying97 (hsz)) (hlen := by simp; omega) (h := ?_)
  refine R.assign (h := ?_)
  refine .n0 ?_
  exact LGo.ret (FnPost.finI [1] (res_T Tryz.results183) hA hmd)

end Go.Proofs.YteccglgbkehdeaaGreatDoor
/- gates: a state copied; the check of a state; New. -/
set_option linter.unusedSimpArgs false
set_option linter.unusedVariables false
namespace Go.Proofs.YteccglgbkehdeaaGreatDoor

def SmG (l : List GtG) : Prop := l.length ≤ 100000 ∧ ∀ g ∈ l, g.secs.length ≤ 100000
def SmS (s : GtS) : Prop := SmG s.gates ∧ s.ents.length ≤ 100000 ∧ ∀ x ∈ s.ents, U32 x.seat
theorem set_gate (l : List GtG) (k : Nat) (g : GtG) (h : l[k]? = some g) : (l.map GtG.c).set k (g.c.set 0 (.sl 1 (ic .i64 g.secs))) = l.map GtG.c := by
  have : g.c.set 0 (.sl 1 (ic .i64 g.secs)) = g.c := rfl
  rw [this, ← List.map_set]
  congr 1
  obtain ⟨hk, rfl⟩ := List.getElem?_eq_some_iff.1 h
  exact List.set_getElem_self hk
theorem gt_ones (l : List GtG) : ∀ e ∈ l.map GtG.c, e.length = 3 := by intro e he; obtain ⟨g, _, rfl⟩ := List.mem_map.1 he; rfl
theorem ge_ones (l : List GtE) : ∀ e ∈ l.map GtE.c, e.length = 5 := by intro e he; obtain ⟨g, _, rfl⟩ := List.mem_map.1 he; rfl

theorem cloneI_P (xs : List (List SV)) (hsz : ∀ e ∈ xs, e.length = 1) (hl : xs.length ≤ 100000) : PC Tryz.prog 161 [.sv (.sl 1 xs)] (.sv (.sl 1 xs)) := by
 refine ⟨LC.of_go Tryz.func161 (c := _) rfl (by kernel_rfl) (by rw [Tryz.ntmps161]; simp) rfl rfl (by simp [LO.lt, LV.lts, LV.lt, lts_sv]) (by simp) ?_⟩
 intro B hA hmd
 refine .seq ?_
 refine .region rfl ?_
 refine R.assign (h := ?_)
 refine .n0 ?_
 refine .seq ?_
 refine .seq ?_
 refine .region rfl ?_
 refine R.move (h := ?_)
 rcases Classical.em (xs = []) with h0 | h0
 ·
  refine R.nilU (hT := Tryz.underlying65) (h := ?_)
  refine .n0 ?_
  refine LGo.ifU (ht := ?_) (hf := ?_)
  ·
   refine .seq ?_
   refine .region rfl ?_
   refine R.assign (h := ?_)
   refine .n0 ?_
   subst h0
   refine LGo.nilSl 2 1 (h := ?_)
   exact LGo.ret (ret_T Tryz.results161 hA hmd)
  ·
   refine .skip ?_
   refine .seq ?_
   refine .region rfl ?_
   refine R.buildSliceR AP65 (xs := []) (es := []) (hcs := CellsOfs.nil) (h := ?_)
   refine R.move (h := ?_)
   refine R.appendS AP65 (hs := SrcOk.sl Tryz.underlying65 (hsz)) (hlen := by simp; omega) (h := ?_)
   refine R.assign (h := ?_)
   refine .n0 ?_
   first | refine LGo.frzT 2 (h := ?_) | refine LGo.nilSl 2 1 (h := ?_) | skip
   exact LGo.ret (ret_T Tryz.results161 hA hmd)
 ·
  refine R.nilF false (hT := Tryz.underlying65) (hne := fun _ => h0) (h := ?_)
  refine .n0 ?_
  refine LGo.ifb (ht := fun hc2 => by simp at hc2) (hf := fun hc2 => ?_)
  refine .skip ?_
  refine .seq ?_
  refine .region rfl ?_
  refine R.buildSliceR AP65 (xs := []) (es := []) (hcs := CellsOfs.nil) (h := ?_)
  refine R.move (h := ?_)
  refine R.appendS AP65 (hs := SrcOk.sl Tryz.underlying65 (hsz)) (hlen := by simp; omega) (h := ?_)
  refine R.assign (h := ?_)
  refine .n0 ?_
  first | refine LGo.frzT 2 (h := ?_) | refine LGo.nilSl 2 1 (h := ?_) | skip
  exact LGo.ret (ret_T Tryz.results161 hA hmd)

theorem clone_L (s : GtS) (hs : SmS s) : LC Tryz.prog 112 0 [.agg (s.c.map LV.sv)] [] (.agg [.sv (.sl 3 (s.gates.map GtG.c)), .ref 0]) [(0, .rs 178 5 (s.ents.map GtE.c))] 1 := by
 refine LC.of_go Tryz.func112 (c := _) rfl (by kernel_rfl) (by rw [Tryz.ntmps112]; simp) rfl rfl (by simp [LO.lt, LV.lts, LV.lt, lts_sv]) (by simp) ?_
 intro B hA hmd
 obtain ⟨⟨hg1, hg2⟩, he1, he2⟩ := hs
 refine .seq ?_
 refine .region rfl ?_
 refine R.box (h := ?_)
 refine R.alloc Z99 (h := ?_)
 refine .n0 ?_
 refine .seq ?_
 refine .region rfl ?_
 first | refine R.field F99_0 (h := ?_) | refine R.fieldAt F99_0 (h := ?_)
 first | refine R.loadB O25 (h := ?_) | refine R.load1 O25 (h := ?_)
 refine R.callX (es := [_]) [] (cloneG (s.gates.map GtG.c) (gt_ones _) (by rw [List.length_map]; exact hg1)) (h := ?_)
 first | refine R.field F99_1 (h := ?_) | refine R.fieldAt F99_1 (h := ?_)
 first | refine R.loadB O97 (h := ?_) | refine R.load1 O97 (h := ?_)
 refine R.callX (es := [_]) [] (cloneE (s.ents.map GtE.c) (ge_ones _) (by rw [List.length_map]; exact he1)) (h := ?_)
 first | refine R.field F99_0 (h := ?_) | refine R.fieldAt F99_0 (h := ?_)
 refine R.storeB O25 (h := ?_)
 first | refine R.field F99_1 (h := ?_) | refine R.fieldAt F99_1 (h := ?_)
 refine R.storeB O97 (h := ?_)
 refine Reg.nil ⟨fun _ => ⟨mixedO, by rfl, by rfl⟩, ?_⟩
 refine .seq ?_
 refine .seq ?_
 refine .region rfl ?_
 first | refine R.field F99_0 (h := ?_) | refine R.fieldAt F99_0 (h := ?_)
 first | refine R.loadB O25 (h := ?_) | refine R.load1 O25 (h := ?_)
 first | refine R.len S25 (h := ?_) | refine R.lenRs S25 (h := ?_) | refine R.lenV (run_lenNil S25) (h := ?_)
 rw [List.length_map]
 refine R.move (h := ?_)
 refine .n0 ?_
 refine .block ?_
 refine .loop ?_
 refine LGo.loopG (σ := Nat) (fun x => x ≤ s.gates.length) (fun x => [(15, (true, .i (x : Nat)))]) (fun x => [(0, .box 99 [.ref 2, .ref 3]), (1, .box 99 [.v (.slice none 0 0), .v (.slice none 0 0)]), (2, .rs 71 3 (s.gates.map GtG.c)), (3, .rs 178 5 (s.ents.map GtE.c))]) (fun x => s.gates.length - x) (0) [(1, _), (2, _), (14, _)] (Nat.zero_le _) (by repeat (first | exact trivial | refine ⟨rfl, ?_⟩)) (by repeat (first | exact trivial | refine ⟨rfl, ?_⟩)) (by repeat (first | exact trivial | refine ⟨rfl, ?_⟩)) ?_
 rintro k hk ih
 refine .seq ?_
 refine .region rfl ?_
 refine R.bin (run_lss _ _ _ _ _ _) (h := ?_)
 refine .n0 ?_
 refine .seq ?_
 refine LGo.ifd (ht := fun hc => ?_) (hf := fun hc => ?_)
 ·
  have hlt : k < s.gates.length := by omega
  have hx0 : s.gates[k]? = some s.gates[k] := List.getElem?_eq_getElem hlt
  have hx : (s.gates.map GtG.c)[k]? = some s.gates[k].c := by simp [hlt]
  have hsl := hg2 s.gates[k] (List.getElem_mem hlt)
  generalize s.gates[k] = g at hx hx0 hsl
  refine .skip ?_
  refine .seq ?_
  refine .block ?_
  refine .seq ?_
  refine .region rfl ?_
  refine R.move (h := ?_)
  refine R.assign (h := ?_)
  refine .n0 ?_
  refine .region rfl ?_
  first | refine R.field F99_0 (h := ?_) | refine R.fieldAt F99_0 (h := ?_)
  first | refine R.loadB O25 (h := ?_) | refine R.load1 O25 (h := ?_)
  refine R.move (h := ?_)
  first | refine R.field F99_0 (h := ?_) | refine R.fieldAt F99_0 (h := ?_)
  first | refine R.loadB O25 (h := ?_) | refine R.load1 O25 (h := ?_)
  refine R.move (h := ?_)
  refine R.indexRs I25 (hj := fun _ => ⟨by omega, by rw [List.length_map]; omega⟩) (h := ?_)
  first | refine R.field F71_0 (h := ?_) | refine R.fieldAt F71_0 (h := ?_)
  refine R.loadRs1 O65 k 0 (ev := g.c) (hj := fun _ => ⟨hx, rfl⟩) (h := ?_)
  refine R.callP (es := [_]) (fun _ => cloneI_P (ic .i64 g.secs) (ic_one _ _) (by rw [ic_len]; exact hsl)) (h := ?_)
  refine R.indexRs I25 (hj := fun _ => ⟨by omega, by rw [List.length_map]; omega⟩) (h := ?_)
  first | refine R.field F71_0 (h := ?_) | refine R.fieldAt F71_0 (h := ?_)
  refine R.storeRs1 O65 k 0 g.c (hj := hx) (h := ?_)
  rw [set_gate s.gates k g hx0]
  refine Reg.nil ⟨fun _ => ⟨mixedO, by rfl, by rfl⟩, ?_⟩
  refine .inBlock ?_
  refine .region rfl ?_
  first | refine R.add (h := ?_) | refine R.addW (h := ?_)
  refine R.move (h := ?_)
  refine .n0 ?_
  refine .inLoop ?_
  exact LGo.next _ (fun o h => by have := (hA o).1 h; omega) (by omega) (ih (k + 1) (by omega) (by omega)) (by repeat (first | exact trivial | refine ⟨rfl, ?_⟩)) ⟨rfl, rfl, rfl, rfl, trivial⟩
 ·
  refine LGo.pack 0 0 (h := ?_)
  refine LGo.frzBx 0 (h := ?_)
  refine .exit rfl ?_
  refine .seq ?_
  refine .region rfl ?_
  first | refine R.loadA A99 (h := ?_) | refine R.loadN A99 (h := ?_) | refine R.loadP A99 (h := ?_)
  refine R.storeA A99 (h := ?_)
  refine .n0 ?_
  exact LGo.ret (FnPost.finI [3] (res_A Tryz.results112 A99) hA hmd)

end Go.Proofs.YteccglgbkehdeaaGreatDoor
/- gates: the check of a state, New. -/
set_option linter.unusedSimpArgs false
set_option linter.unusedVariables false
namespace Go.Proofs.YteccglgbkehdeaaGreatDoor

def prevE (l : List GtE) (k : Nat) : Option GtE := if k = 0 then none else some (l.getD (k - 1) default)
theorem LC.argsW {P : Program} {f : FuncId} {m k : Nat} {lvs lvs' : List LV} {out : LV} {Hi Ho : List (Nat × LO)} (h : LC P f m lvs Hi out Ho k) (hl : LV.lts m lvs' = true) (hv : ∀ cx w vs, Vs cx w lvs' vs → Vs cx w lvs vs) : LC P f m lvs' Hi out Ho k :=
  ⟨h.entr, hl, h.rng, h.hlt, h.hos, fun cx w vs hA hH ham hvs => h.go cx w vs hA hH ham (hv cx w vs hvs)⟩
theorem vs_aggNil {cx : Cx} {w : World} {x : LV} (sz : Nat) {vs : List Value} (h : Vs cx w [.agg [x, .v (.slice none 0 0)]] vs) : Vs cx w [.agg [x, .sv (.sl sz [])]] vs := by
  simp only [Vs, V] at h ⊢
  obtain ⟨v, r, rfl, ⟨us, rfl, a, r1, rfl, h1, b, r2, rfl, h2, rfl⟩, rfl⟩ := h
  refine ⟨_, _, rfl, ⟨_, rfl, _, _, rfl, h1, _, _, rfl, ?_, rfl⟩, rfl⟩
  simp only [VS] at h2 ⊢
  exact .inl ⟨.inl h2, trivial⟩
theorem cloneN_L (l : List GtG) (hl : l.length ≤ 100000) (hs : ∀ g ∈ l, g.secs.length ≤ 100000) : LC Tryz.prog 112 0 [.agg [.sv (.sl 3 (l.map GtG.c)), .v (.slice none 0 0)]] [] (.agg [.sv (.sl 3 (l.map GtG.c)), .ref 0]) [(0, .rs 178 5 [])] 1 :=
  LC.argsW (clone_L ⟨l, []⟩ ⟨⟨hl, hs⟩, by simp, by simp⟩) (by rfl) (fun _ _ _ h => vs_aggNil 5 h)

theorem newS_P (l : List GtG) (hl : l.length ≤ 100000) (hs : ∀ g ∈ l, g.secs.length ≤ 100000) : PC Tryz.prog 48 [.sv (.sl 3 (l.map GtG.c))] (.tup [.agg ((newS l).1.c.map LV.sv), .i (newS l).2]) := by
 refine ⟨LC.of_go Tryz.func48 (c := _) rfl (by kernel_rfl) (by rw [Tryz.ntmps48]; simp) rfl rfl (by simp [LO.lt, LV.lts, LV.lt, lts_sv]) (by simp) ?_⟩
 intro B hA hmd
 obtain ⟨g, e0⟩ : ∃ g, newS l = g := ⟨_, rfl⟩
 have e1 := e0
 unfold newS at e1
 rw [e0]
 refine .seq ?_
 refine .region rfl ?_
 refine R.alloc Z99 (h := ?_)
 refine R.assign (h := ?_)
 refine .n0 ?_
 refine .seq ?_
 refine .seq ?_
 refine .region rfl ?_
 refine R.move (h := ?_)
 refine R.callP (es := [_]) (fun _ => checkG_P l hl hs) (h := ?_)
 refine R.assign (h := ?_)
 refine .n0 ?_
 refine .seq ?_
 refine .region rfl ?_
 refine R.move (h := ?_)
 refine R.bin (run_neq _ _ _ _ _ _) (h := ?_)
 refine .n0 ?_
 refine LGo.ifb (ht := fun hc => ?_) (hf := fun hc => ?_)
 ·
  rw [if_pos (by simpa using hc)] at e1
  rw [← e1]
  refine .seq ?_
  refine .region rfl ?_
  refine R.build BF99 (is := []) (xs := []) (es := []) (h := ?_)
  refine R.move (h := ?_)
  refine R.storeA A99 (h := ?_)
  refine R.assign (h := ?_)
  refine .n0 ?_
  refine LGo.packNil 0 0 71 3 (h := ?_)
  refine LGo.frzBx 0 (h := ?_)
  refine LGo.packNil 0 1 178 5 (h := ?_)
  refine LGo.frzBx 0 (h := ?_)
  exact LGo.ret (ret_AT Tryz.results48 A99 hA hmd)
 ·
  rw [if_neg (by simpa using hc)] at e1
  rw [← e1]
  refine .skip ?_
  refine .seq ?_
  refine .region rfl ?_
  refine R.move (h := ?_)
  refine R.build BF99 (is := [0]) (xs := [_]) (es := [_]) (h := ?_)
  refine R.callX (es := [_]) [] (cloneN_L l hl hs) (h := ?_)
  refine R.storeA A99 (h := ?_)
  refine R.assign (h := ?_)
  refine .n0 ?_
  refine LGo.pack 0 1 (h := ?_)
  refine LGo.frzBx 0 (h := ?_)
  exact LGo.ret (ret_AT Tryz.results48 A99 hA hmd)

end Go.Proofs.YteccglgbkehdeaaGreatDoor
/- requests, the reference: a field into a request; Needs, message, Encode, Decode. -/
set_option linter.unusedSimpArgs false
set_option linter.unusedVariables false
namespace Go.Proofs.YteccglgbkehdeaaGreatDoor

theorem withQ_P (r : Rq) (f : Fld) : PC Tryz.prog 84 [.agg (r.c.map LV.sv), .agg (f.c.map LV.sv)] (.agg ((putQ r f).c.map LV.sv)) := by
 refine ⟨LC.of_go Tryz.func84 (c := _) rfl (by kernel_rfl) (by rw [Tryz.ntmps84]; simp) rfl rfl (by simp [LO.lt, LV.lts, LV.lt, lts_sv]) (by simp) ?_⟩
 intro B hA hmd
 obtain ⟨g, e0⟩ : ∃ g, putQ r f = g := ⟨_, rfl⟩
 have e1 := e0
 unfold putQ at e1
 rw [e0]
 refine .seq ?_
 refine .region rfl ?_
 refine R.box (h := ?_)
 refine R.box (h := ?_)
 refine R.alloc Z48 (h := ?_)
 refine .n0 ?_
 refine .seq ?_
 refine .seq ?_
 refine .region rfl ?_
 first | refine R.field F149_0 (h := ?_) | refine R.fieldAt F149_0 (h := ?_)
 first | refine R.loadB O3 (h := ?_) | refine R.load1 O3 (h := ?_)
 refine .n0 ?_
 refine .block ?_
 refine .seq ?_
 refine .region rfl ?_
 refine R.bin (run_eql _ _ _ _ _ _) (h := ?_)
 refine R.assign (h := ?_)
 refine .n0 ?_
 refine LGo.ifd (ht := fun hc => ?_) (hf := fun hc => ?_)
 ·
  rw [if_pos hc] at e1; rw [← e1]
  refine .region rfl ?_
  first | refine R.field F149_1 (h := ?_) | refine R.fieldAt F149_1 (h := ?_)
  first | refine R.loadB O41 (h := ?_) | refine R.load1 O41 (h := ?_)
  first | refine R.field F48_1 (h := ?_) | refine R.fieldAt F48_1 (h := ?_)
  refine R.storeB O41 (h := ?_)
  refine .n0 ?_
  refine .inBlock ?_
  refine .seq ?_
  refine .region rfl ?_
  first | refine R.loadA A48 (h := ?_) | refine R.loadN A48 (h := ?_) | refine R.loadP A48 (h := ?_)
  refine R.storeA A48 (h := ?_)
  refine .n0 ?_
  exact LGo.ret (ret_A Tryz.results84 A48 hA hmd)
 ·
  rw [if_neg hc] at e1
  refine .seq ?_
  refine .region rfl ?_
  refine R.bin (run_eql _ _ _ _ _ _) (h := ?_)
  refine R.assign (h := ?_)
  refine .n0 ?_
  refine LGo.ifd (ht := fun hc2 => ?_) (hf := fun hc2 => ?_)
  ·
   rw [if_pos hc2] at e1; rw [← e1]
   refine .region rfl ?_
   first | refine R.field F149_1 (h := ?_) | refine R.fieldAt F149_1 (h := ?_)
   first | refine R.loadB O41 (h := ?_) | refine R.load1 O41 (h := ?_)
   refine R.convW Tryz.runUnderlying41 Tryz.runUnderlying38 (h := ?_)
   first | refine R.field F48_2 (h := ?_) | refine R.fieldAt F48_2 (h := ?_)
   refine R.storeB O38 (h := ?_)
   refine .n0 ?_
   refine .inBlock ?_
   refine .seq ?_
   refine .region rfl ?_
   first | refine R.loadA A48 (h := ?_) | refine R.loadN A48 (h := ?_) | refine R.loadP A48 (h := ?_)
   refine R.storeA A48 (h := ?_)
   refine .n0 ?_
   exact LGo.ret (ret_A Tryz.results84 A48 hA hmd)
  ·
   rw [if_neg hc2] at e1
   refine .seq ?_
   refine .region rfl ?_
   refine R.bin (run_eql _ _ _ _ _ _) (h := ?_)
   refine R.assign (h := ?_)
   refine .n0 ?_
   refine LGo.ifd (ht := fun hc3 => ?_) (hf := fun hc3 => ?_)
   ·
    rw [if_pos hc3] at e1; rw [← e1]
    refine .region rfl ?_
    first | refine R.field F149_2 (h := ?_) | refine R.fieldAt F149_2 (h := ?_)
    first | refine R.loadB O9 (h := ?_) | refine R.load1 O9 (h := ?_)
    first | refine R.field F48_4 (h := ?_) | refine R.fieldAt F48_4 (h := ?_)
    refine R.storeB O9 (h := ?_)
    refine .n0 ?_
    refine .inBlock ?_
    refine .seq ?_
    refine .region rfl ?_
    first | refine R.loadA A48 (h := ?_) | refine R.loadN A48 (h := ?_) | refine R.loadP A48 (h := ?_)
    refine R.storeA A48 (h := ?_)
    refine .n0 ?_
    exact LGo.ret (ret_A Tryz.results84 A48 hA hmd)
   ·
    rw [if_neg hc3] at e1
    refine .seq ?_
    refine .region rfl ?_
    refine R.bin (run_eql _ _ _ _ _ _) (h := ?_)
    refine R.assign (h := ?_)
    refine .n0 ?_
    refine LGo.ifd (ht := fun hc4 => ?_) (hf := fun hc4 => ?_)
    ·
     rw [if_pos hc4] at e1; rw [← e1]
     refine .region rfl ?_
     first | refine R.field F149_2 (h := ?_) | refine R.fieldAt F149_2 (h := ?_)
     first | refine R.loadB O9 (h := ?_) | refine R.load1 O9 (h := ?_)
     first | refine R.field F48_5 (h := ?_) | refine R.fieldAt F48_5 (h := ?_)
     refine R.storeB O9 (h := ?_)
     refine .n0 ?_
     refine .inBlock ?_
     refine .seq ?_
     refine .region rfl ?_
     first | refine R.loadA A48 (h := ?_) | refine R.loadN A48 (h := ?_) | refine R.loadP A48 (h := ?_)
     refine R.storeA A48 (h := ?_)
     refine .n0 ?_
     exact LGo.ret (ret_A Tryz.results84 A48 hA hmd)
    ·
     rw [if_neg hc4] at e1
     refine .seq ?_
     refine .region rfl ?_
     refine R.bin (run_eql _ _ _ _ _ _) (h := ?_)
     refine R.assign (h := ?_)
     refine .n0 ?_
     refine LGo.ifd (ht := fun hc5 => ?_) (hf := fun hc5 => ?_)
     ·
      rw [if_pos hc5] at e1; rw [← e1]
      refine .region rfl ?_
      first | refine R.field F149_1 (h := ?_) | refine R.fieldAt F149_1 (h := ?_)
      first | refine R.loadB O41 (h := ?_) | refine R.load1 O41 (h := ?_)
      refine R.convW Tryz.runUnderlying41 Tryz.runUnderlying3 (h := ?_)
      first | refine R.field F48_6 (h := ?_) | refine R.fieldAt F48_6 (h := ?_)
      refine R.storeB O3 (h := ?_)
      refine .n0 ?_
      refine .inBlock ?_
      refine .seq ?_
      refine .region rfl ?_
      first | refine R.loadA A48 (h := ?_) | refine R.loadN A48 (h := ?_) | refine R.loadP A48 (h := ?_)
      refine R.storeA A48 (h := ?_)
      refine .n0 ?_
      exact LGo.ret (ret_A Tryz.results84 A48 hA hmd)
     ·
      rw [if_neg hc5] at e1
      refine .seq ?_
      refine .region rfl ?_
      refine R.bin (run_eql _ _ _ _ _ _) (h := ?_)
      refine R.assign (h := ?_)
      refine .n0 ?_
      refine LGo.ifd (ht := fun hc6 => ?_) (hf := fun hc6 => ?_)
      ·
       rw [if_pos hc6] at e1; rw [← e1]
       refine .region rfl ?_
       first | refine R.field F149_1 (h := ?_) | refine R.fieldAt F149_1 (h := ?_)
       first | refine R.loadB O41 (h := ?_) | refine R.load1 O41 (h := ?_)
       refine R.convW Tryz.runUnderlying41 Tryz.runUnderlying3 (h := ?_)
       first | refine R.field F48_7 (h := ?_) | refine R.fieldAt F48_7 (h := ?_)
       refine R.storeB O3 (h := ?_)
       refine .n0 ?_
       refine .inBlock ?_
       refine .seq ?_
       refine .region rfl ?_
       first | refine R.loadA A48 (h := ?_) | refine R.loadN A48 (h := ?_) | refine R.loadP A48 (h := ?_)
       refine R.storeA A48 (h := ?_)
       refine .n0 ?_
       exact LGo.ret (ret_A Tryz.results84 A48 hA hmd)
      ·
       rw [if_neg hc6] at e1
       refine .seq ?_
       refine .region rfl ?_
       refine R.bin (run_eql _ _ _ _ _ _) (h := ?_)
       refine R.assign (h := ?_)
       refine .n0 ?_
       refine LGo.ifd (ht := fun hc7 => ?_) (hf := fun hc7 => ?_)
       ·
        rw [if_pos hc7] at e1; rw [← e1]
        refine .region rfl ?_
        first | refine R.field F149_1 (h := ?_) | refine R.fieldAt F149_1 (h := ?_)
        first | refine R.loadB O41 (h := ?_) | refine R.load1 O41 (h := ?_)
        refine R.convW Tryz.runUnderlying41 Tryz.runUnderlying3 (h := ?_)
        first | refine R.field F48_8 (h := ?_) | refine R.fieldAt F48_8 (h := ?_)
        refine R.storeB O3 (h := ?_)
        refine .n0 ?_
        refine .inBlock ?_
        refine .seq ?_
        refine .region rfl ?_
        first | refine R.loadA A48 (h := ?_) | refine R.loadN A48 (h := ?_) | refine R.loadP A48 (h := ?_)
        refine R.storeA A48 (h := ?_)
        refine .n0 ?_
        exact LGo.ret (ret_A Tryz.results84 A48 hA hmd)
       ·
        rw [if_neg hc7] at e1
        refine .seq ?_
        refine .region rfl ?_
        refine R.bin (run_eql _ _ _ _ _ _) (h := ?_)
        refine R.assign (h := ?_)
        refine .n0 ?_
        refine LGo.ifd (ht := fun hc8 => ?_) (hf := fun hc8 => ?_)
        ·
         rw [if_pos hc8] at e1; rw [← e1]
         refine .region rfl ?_
         first | refine R.field F149_1 (h := ?_) | refine R.fieldAt F149_1 (h := ?_)
         first | refine R.loadB O41 (h := ?_) | refine R.load1 O41 (h := ?_)
         refine R.convW Tryz.runUnderlying41 Tryz.runUnderlying38 (h := ?_)
         first | refine R.field F48_3 (h := ?_) | refine R.fieldAt F48_3 (h := ?_)
         refine R.storeB O38 (h := ?_)
         refine .n0 ?_
         refine .inBlock ?_
         refine .seq ?_
         refine .region rfl ?_
         first | refine R.loadA A48 (h := ?_) | refine R.loadN A48 (h := ?_) | refine R.loadP A48 (h := ?_)
         refine R.storeA A48 (h := ?_)
         refine .n0 ?_
         exact LGo.ret (ret_A Tryz.results84 A48 hA hmd)
        ·
         rw [if_neg hc8] at e1
         refine .seq ?_
         refine .region rfl ?_
         refine R.bin (run_eql _ _ _ _ _ _) (h := ?_)
         refine R.assign (h := ?_)
         refine .n0 ?_
         refine LGo.ifd (ht := fun hc9 => ?_) (hf := fun hc9 => ?_)
         ·
          rw [if_pos hc9] at e1; rw [← e1]
          refine .region rfl ?_
          first | refine R.field F149_1 (h := ?_) | refine R.fieldAt F149_1 (h := ?_)
          first | refine R.loadB O41 (h := ?_) | refine R.load1 O41 (h := ?_)
          refine R.convW Tryz.runUnderlying41 Tryz.runUnderlying3 (h := ?_)
          first | refine R.field F48_9 (h := ?_) | refine R.fieldAt F48_9 (h := ?_)
          refine R.storeB O3 (h := ?_)
          refine .n0 ?_
          refine .inBlock ?_
          refine .seq ?_
          refine .region rfl ?_
          first | refine R.loadA A48 (h := ?_) | refine R.loadN A48 (h := ?_) | refine R.loadP A48 (h := ?_)
          refine R.storeA A48 (h := ?_)
          refine .n0 ?_
          exact LGo.ret (ret_A Tryz.results84 A48 hA hmd)
         ·
          rw [if_neg hc9] at e1; rw [← e1]
          refine .skip ?_
          refine .inBlock ?_
          refine .seq ?_
          refine .region rfl ?_
          first | refine R.loadA A48 (h := ?_) | refine R.loadN A48 (h := ?_) | refine R.loadP A48 (h := ?_)
          refine R.storeA A48 (h := ?_)
          refine .n0 ?_
          exact LGo.ret (ret_A Tryz.results84 A48 hA hmd)

def needsR (k : Int) : Bool × Bool × Int := if wordQ k = [] then (false, false, 2) else (hasQ k 3, hasQ k 4, 0)
def msgOne (r : Rq) (u : Rule) : Fld := if u.kind = 2 then ⟨u.tag, 0, txtQ r u.tag⟩ else ⟨u.tag, uw (numQ r u.tag), []⟩
def messageR (r : Rq) : List Fld := (rulesR r.kind).1.map (msgOne r)
theorem rulesR_len (k : Int) : (rulesR k).1.length ≤ 16 := by rw [← rules_eq]; exact rulesQ_len k

theorem needsR_P (kd : Int) : PC Tryz.prog 149 [.i kd] (.tup [.b (needsR kd).1, .b (needsR kd).2.1, .i (needsR kd).2.2]) := by
 refine ⟨LC.of_go Tryz.func149 (c := _) rfl (by kernel_rfl) (by rw [Tryz.ntmps149]; simp) rfl rfl (by simp [LO.lt, LV.lts, LV.lt, lts_sv]) (by simp) ?_⟩
 intro B hA hmd
 obtain ⟨g, e0⟩ : ∃ g, needsR kd = g := ⟨_, rfl⟩
 have e1 := e0
 unfold needsR at e1
 rw [e0]
 refine .seq ?_
 refine .region rfl ?_
 refine R.assign (h := ?_)
 refine R.assign (h := ?_)
 refine R.assign (h := ?_)
 refine .n0 ?_
 refine .seq ?_
 refine .seq ?_
 refine .region rfl ?_
 refine R.move (h := ?_)
 refine R.callP (es := [_]) (fun _ => wordQ_P kd) (h := ?_)
 refine R.bin (run_eqlT _ _ _ _ _) (h := ?_)
 refine .n0 ?_
 first | refine LGo.ifd (ht := fun hc => ?_) (hf := fun hc => ?_) | refine LGo.ifb (ht := fun hc => ?_) (hf := fun hc => ?_)
 ·
  rw [if_pos hc] at e1
  refine .seq ?_
  refine .region rfl ?_
  refine R.assign (h := ?_)
  refine R.assign (h := ?_)
  refine R.assign (h := ?_)
  refine .n0 ?_
  rw [← e1]
  exact LGo.ret (ret_TTT Tryz.results149 hA hmd)
 ·
  rw [if_neg hc] at e1
  refine .skip ?_
  refine .seq ?_
  refine .region rfl ?_
  refine R.move (h := ?_)
  refine R.callP (es := [_, _]) (fun _ => hasQ_P kd _) (h := ?_)
  refine R.move (h := ?_)
  refine R.callP (es := [_, _]) (fun _ => hasQ_P kd _) (h := ?_)
  refine R.assign (h := ?_)
  refine R.assign (h := ?_)
  refine R.assign (h := ?_)
  refine .n0 ?_
  rw [← e1]
  exact LGo.ret (ret_TTT Tryz.results149 hA hmd)

theorem messageR_P (r : Rq) (hr : RqOk r) : PC Tryz.prog 152 [.agg (r.c.map LV.sv)] (.sv (.sl 3 ((messageR r).map Fld.c))) := by
 refine ⟨LC.of_go Tryz.func152 (c := _) rfl (by kernel_rfl) (by rw [Tryz.ntmps152]; simp) rfl rfl (by simp [LO.lt, LV.lts, LV.lt, lts_sv]) (by simp) ?_⟩
 intro B hA hmd
 unfold messageR
 have hrl := rulesR_len r.kind
 refine .seq ?_
 refine .region rfl ?_
 refine R.box (h := ?_)
 refine R.assign (h := ?_)
 refine .n0 ?_
 refine .seq ?_
 refine .region rfl ?_
 first | refine R.field F48_0 (h := ?_) | refine R.fieldAt F48_0 (h := ?_)
 first | refine R.loadB O3 (h := ?_) | refine R.load1 O3 (h := ?_)
 refine R.callP (es := [_]) (fun _ => rulesR_P r.kind) (h := ?_)
 refine R.move (h := ?_)
 refine R.extract (h := ?_)
 refine R.extract (h := ?_)
 generalize (rulesR r.kind).1 = rs at hrl ⊢
 refine R.assign (h := ?_)
 refine R.assign (h := ?_)
 refine .n0 ?_
 refine .seq ?_
 refine .region rfl ?_
 refine R.assign (h := ?_)
 refine .n0 ?_
 refine .seq ?_
 refine .seq ?_
 refine .region rfl ?_
 refine R.assign (h := ?_)
 refine .n0 ?_
 refine .block ?_
 refine .loop ?_
 refine LGo.nilRs 5 149 3 (h := ?_)
 refine LGo.loopG (σ := Nat) (fun x => x ≤ rs.length) (fun x => [(6, (true, .i (x : Nat))), (5, (true, .ref 1))]) (fun x => [(0, .box 48 (r.c.map LV.sv)), (1, .rs 149 3 (((rs.take x).map (msgOne r)).map Fld.c))]) (fun x => rs.length - x) (0) [(1, _), (3, _)] (Nat.zero_le _) (by repeat (first | exact trivial | refine ⟨rfl, ?_⟩)) (by repeat (first | exact trivial | refine ⟨rfl, ?_⟩)) (by repeat (first | exact trivial | refine ⟨rfl, ?_⟩)) ?_
 rintro k hk2 ih
 refine .seq ?_
 refine .seq ?_
 refine .region rfl ?_
 refine R.move (h := ?_)
 refine R.move (h := ?_)
 first | refine R.len S141 (h := ?_) | refine R.lenRs S141 (h := ?_) | refine R.lenV (run_lenNil S141) (h := ?_)
 rw [List.length_map]
 refine R.bin (run_lss _ _ _ _ _ _) (h := ?_)
 refine .n0 ?_
 refine LGo.ifd (ht := fun hc => ?_) (hf := fun hc => ?_)
 ·
  have hlt : k < rs.length := by omega
  have hx : (rs.map Rule.c)[((k : Nat) : Int).toNat]? = some rs[k].c := by simp [hlt]
  have htk : rs.take (k + 1) = rs.take k ++ [rs[k]] := by rw [List.take_succ_eq_append_getElem hlt]
  generalize rs[k] = u at hx htk
  have htk2 : ((rs.take (k + 1)).map (msgOne r)).map Fld.c = ((rs.take k).map (msgOne r)).map Fld.c ++ [(msgOne r u).c] := by rw [htk, List.map_append, List.map_append]; rfl
  refine .skip ?_
  refine .seq ?_
  refine .block ?_
  refine .seq ?_
  refine .region rfl ?_
  refine R.move (h := ?_)
  refine R.move (h := ?_)
  refine R.index I141 (hj := fun hg => ⟨by omega, hx⟩) (h := ?_)
  first | refine R.field F215_0 (h := ?_) | refine R.fieldAt F215_0 (h := ?_)
  first | refine R.loadB O3 (h := ?_) | refine R.load1 O3 (h := ?_)
  refine R.build BF149 (is := [0]) (xs := [_]) (es := [_]) (h := ?_)
  refine R.alloc Z149 (h := ?_)
  refine R.storeA A149 (h := ?_)
  refine .n0 ?_
  refine .seq ?_
  refine .seq ?_
  refine .region rfl ?_
  refine R.move (h := ?_)
  refine R.move (h := ?_)
  refine R.index I141 (hj := fun hg => ⟨by omega, hx⟩) (h := ?_)
  first | refine R.field F215_1 (h := ?_) | refine R.fieldAt F215_1 (h := ?_)
  first | refine R.loadB O3 (h := ?_) | refine R.load1 O3 (h := ?_)
  refine R.bin (run_eql _ _ _ _ _ _) (h := ?_)
  refine .n0 ?_
  refine LGo.ifd (ht := fun hc2 => ?_) (hf := fun hc2 => ?_)
  ·
   have he : msgOne r u = ⟨u.tag, 0, txtQ r u.tag⟩ := if_pos hc2
   refine .region rfl ?_
   first | refine R.loadA A48 (h := ?_) | refine R.loadN A48 (h := ?_) | refine R.loadP A48 (h := ?_)
   first | refine R.field F149_0 (h := ?_) | refine R.fieldAt F149_0 (h := ?_)
   first | refine R.loadB O3 (h := ?_) | refine R.load1 O3 (h := ?_)
   refine R.callP (es := [_, _]) (fun _ => txtQ_P r u.tag) (h := ?_)
   first | refine R.field F149_2 (h := ?_) | refine R.fieldAt F149_2 (h := ?_)
   refine R.storeB O9 (h := ?_)
   refine .n0 ?_
   refine .region rfl ?_
   refine R.move (h := ?_)
   first | refine R.loadA A149 (h := ?_) | refine R.loadN A149 (h := ?_) | refine R.loadP A149 (h := ?_)
   refine R.buildSliceG AP144 (xs := [_]) (es := [_]) (hcs := CellsOfs.cons (CellsOf.agg rfl) CellsOfs.nil) (h := ?_)
   refine R.appendS AP144 (hs := SrcOk.sl Tryz.underlying144 (by simp; rfl)) (hlen := by simp; omega) (h := ?_)
   refine R.assign (h := ?_)
   refine .n0 ?_
   refine .inBlock ?_
   refine .region rfl ?_
   refine R.move (h := ?_)
   first | refine R.add (h := ?_) | refine R.addW (h := ?_)
   refine R.assign (h := ?_)
   refine .n0 ?_
   refine .inLoop ?_
   exact LGo.turn [0, 3] (b := 0) (fun o h => by have := (hA o).1 h; omega) (ih (k + 1) hlt (by omega)) (by repeat (first | exact trivial | refine ⟨rfl, ?_⟩)) ⟨rfl, by rw [htk2, he]; rfl, trivial⟩
  ·
   have he : msgOne r u = ⟨u.tag, uw (numQ r u.tag), []⟩ := if_neg hc2
   refine .region rfl ?_
   first | refine R.loadA A48 (h := ?_) | refine R.loadN A48 (h := ?_) | refine R.loadP A48 (h := ?_)
   first | refine R.field F149_0 (h := ?_) | refine R.fieldAt F149_0 (h := ?_)
   first | refine R.loadB O3 (h := ?_) | refine R.load1 O3 (h := ?_)
   refine R.callP (es := [_, _]) (fun _ => numQ_P r hr u.tag) (h := ?_)
   refine R.convW Tryz.runUnderlying2 Tryz.runUnderlying41 (h := ?_)
   rw [uw_wrap]
   first | refine R.field F149_1 (h := ?_) | refine R.fieldAt F149_1 (h := ?_)
   refine R.storeB O41 (h := ?_)
   refine .n0 ?_
   refine .region rfl ?_
   refine R.move (h := ?_)
   first | refine R.loadA A149 (h := ?_) | refine R.loadN A149 (h := ?_) | refine R.loadP A149 (h := ?_)
   refine R.buildSliceG AP144 (xs := [_]) (es := [_]) (hcs := CellsOfs.cons (CellsOf.agg rfl) CellsOfs.nil) (h := ?_)
   refine R.appendS AP144 (hs := SrcOk.sl Tryz.underlying144 (by simp; rfl)) (hlen := by simp; omega) (h := ?_)
   refine R.assign (h := ?_)
   refine .n0 ?_
   refine .inBlock ?_
   refine .region rfl ?_
   refine R.move (h := ?_)
   first | refine R.add (h := ?_) | refine R.addW (h := ?_)
   refine R.assign (h := ?_)
   refine .n0 ?_
   refine .inLoop ?_
   exact LGo.turn [0, 3] (b := 0) (fun o h => by have := (hA o).1 h; omega) (ih (k + 1) hlt (by omega)) (by repeat (first | exact trivial | refine ⟨rfl, ?_⟩)) ⟨rfl, by rw [htk2, he]; rfl, trivial⟩
 ·
  obtain rfl : k = rs.length := by omega
  rw [List.take_length]
  refine .exit rfl ?_
  refine .seq ?_
  refine .region rfl ?_
  refine R.move (h := ?_)
  refine R.assign (h := ?_)
  refine .n0 ?_
  first | refine LGo.frzT 2 (h := ?_) | refine LGo.nilSl 2 3 (h := ?_) | skip
  exact LGo.ret (ret_T Tryz.results152 hA hmd)

theorem numQ_500 {r : Rq} (hr : RqOk r) (hs : r.ses.length ≤ 500 ∧ r.tic.length ≤ 500) (u : Rule) : FldOk (msgOne r u) ∧ (msgOne r u).txt.length ≤ 500 := by
  have h2 := uw_lt
  obtain ⟨h5, h6⟩ := hs
  unfold msgOne txtQ
  (repeat' split) <;> simp only [FldOk] <;> refine ⟨⟨?_, ?_, ?_⟩, ?_⟩ <;> first | exact (h2 _).1 | exact (h2 _).2 | (simp only [List.length_nil]; omega) | omega
theorem messageR_500 {r : Rq} (hr : RqOk r) (hs : r.ses.length ≤ 500 ∧ r.tic.length ≤ 500) : ∀ f ∈ messageR r, FldOk f ∧ f.txt.length ≤ 500 := by
  intro f hf
  obtain ⟨u, _, rfl⟩ := List.mem_map.1 hf
  exact numQ_500 hr hs u
theorem refCheckQ_kind {r : Rq} (h : refCheckQ r = 0) : 0 ≤ r.kind ∧ r.kind < 14 := by
  unfold refCheckQ at h
  by_cases h0 : wordQ r.kind = []
  · rw [if_pos h0] at h; cases h
  · by_cases h1 : r.kind < 1 ∨ 13 < r.kind
    · exact absurd (if_pos h1) h0
    · omega
def encR9 (r : Rq) : List UInt8 × Int := if (!decide (refCheckQ r = 0)) = true then ([], refCheckQ r) else (byt r.kind :: encBy (rulesR r.kind).1 (messageR r), 0)

end Go.Proofs.YteccglgbkehdeaaGreatDoor
/- gates, the reference: the checks, New. -/
set_option linter.unusedSimpArgs false
set_option linter.unusedVariables false
namespace Go.Proofs.YteccglgbkehdeaaGreatDoor

def lastI (l : List Int) (k : Nat) : Int := if k = 0 then -1 else l.getD (k - 1) 0
def ltR (a b : GtE) : Bool := if (!decide (a.seat = b.seat)) = true then decide (a.seat < b.seat) else if (!decide (a.epoch = b.epoch)) = true then decide (a.epoch < b.epoch) else decide (a.serial < b.serial)
end Go.Proofs.YteccglgbkehdeaaGreatDoor
/- gates, the reference: what is in a list, Find, Count, Copy, New; equal states, equal errors. -/
set_option linter.unusedSimpArgs false
set_option linter.unusedVariables false
namespace Go.Proofs.YteccglgbkehdeaaGreatDoor

def tkC (a o b e : Int) : List LV := [.v (.int .u32 a), .v (.int .u32 o), .v (.int .u64 b), .v (.int .u64 e)]

end Go.Proofs.YteccglgbkehdeaaGreatDoor
