/- fields: Encode, Decode, and the reference's. -/
import Derived.Test.YtcobkjognpjikaaGreatDoorFC
set_option linter.unusedSimpArgs false
set_option linter.unusedVariables false
namespace Go.Proofs.YtcobkjognpjikaaGreatDoor



def fldEq (x y : Fld) : Bool := (decide (x.tag = y.tag) && decide (x.num = y.num)) && decide (x.txt = y.txt)
def sameGo : List Fld → List Fld → Bool
  | x :: a, y :: b => if (!fldEq x y) = true then false else sameGo a b
  | _, _ => true
def same (a b : List Fld) : Bool := if (!decide ((a.length : Int) = b.length)) = true then false else sameGo a b
def farGo : List Fld → Bool
  | [] => false
  | x :: l => if (500 : Int) < x.txt.length then true else farGo l
def far (rs : List Rule) (l : List Fld) : Bool := if (decide ((20 : Int) < rs.length) || decide ((20 : Int) < l.length)) = true then true else farGo l
def FldOk (x : Fld) : Prop := 0 ≤ x.num ∧ x.num < 18446744073709551616 ∧ x.txt.length ≤ 1000
theorem checkGo_ok : ∀ (rs : List Rule) (last : Int), 0 ≤ last → checkGo last rs = 0 → ∀ r ∈ rs, last < r.tag ∧ r.tag ≤ 63 ∧ r.low ≤ r.high ∧ (r.kind = 1 ∨ (r.kind = 2 ∧ r.high ≤ 400))
  | [], last, _, _, r, hr => by simp at hr
  | q :: rs, last, h0, h, r, hr => by
    simp only [checkGo] at h
    split at h
    · cases h
    · rename_i h1
      simp at h1
      split at h
      · rename_i h2
        rcases List.mem_cons.1 hr with rfl | hr
        · exact ⟨by omega, by omega, by omega, .inl h2⟩
        · have := checkGo_ok rs q.tag (by omega) h r hr
          exact ⟨by omega, this.2⟩
      · split at h
        · cases h
        · rename_i h2 h3
          simp at h3
          rcases List.mem_cons.1 hr with rfl | hr
          · exact ⟨by omega, by omega, by omega, .inr ⟨h3.1, by omega⟩⟩
          · have := checkGo_ok rs q.tag (by omega) h r hr
            exact ⟨by omega, this.2⟩
theorem check_ok {rs : List Rule} (h : check rs = 0) : rs.length ≤ 16 ∧ ∀ r ∈ rs, 0 < r.tag ∧ r.tag ≤ 63 ∧ r.low ≤ r.high ∧ (r.kind = 1 ∨ (r.kind = 2 ∧ r.high ≤ 400)) := by
  unfold check at h
  split at h
  · cases h
  · exact ⟨by omega, checkGo_ok rs 0 (by omega) h⟩
theorem ruleAt_mem {t : Int} {rs : List Rule} (h : ruleHas t rs = true) : ruleAt t rs ∈ rs ∧ (ruleAt t rs).tag = t := by
  unfold ruleHas at h
  obtain ⟨r, hr⟩ := Option.isSome_iff_exists.1 h
  have e : ruleAt t rs = r := by simp [ruleAt, hr]
  rw [e]
  exact ⟨List.mem_of_find?_eq_some hr, by simpa using List.find?_some hr⟩
def encF (rs : List Rule) : Int → List Fld → Int × List Int
  | _, [] => (0, [])
  | last, x :: xs => if (!ruleHas x.tag rs || decide (x.tag ≤ last)) = true then (2, []) else if fldE (ruleAt x.tag rs) x = 0 then ((encF rs x.tag xs).1, fldB (ruleAt x.tag rs) x ++ (encF rs x.tag xs).2) else (fldE (ruleAt x.tag rs) x, [])
def lackF (rs : List Rule) (fs : List Fld) : Bool := (needs rs).any fun t => !fldHas t fs
def encode (rs : List Rule) (fs : List Fld) : List Int × Int :=
  if check rs = 0 then (if (16 : Int) < fs.length then ([], 3) else if (encF rs 0 fs).1 = 0 then (if lackF rs fs = true then ([], 4) else ((encF rs 0 fs).2, 0)) else ([], (encF rs 0 fs).1)) else ([], check rs)
theorem fldB_len (r : Rule) (x : Fld) (hx : FldOk x) : (fldB r x).length ≤ 1100 := by
  have h := digs_len x.num hx.1 hx.2.1
  have h2 := hx.2.2
  unfold fldB
  split <;> simp [textI_len] <;> omega

theorem encode_P (rs : List Rule) (fs : List Fld) (hrs : rs.length ≤ 100) (hfs : fs.length ≤ 100) (hok : ∀ x ∈ fs, FldOk x) : PC Tryz.prog 37 [.sv (.sl 5 (rs.map Rule.c)), .sv (.sl 3 (fs.map Fld.c))] (.tup [.sv (.sl 1 (ic .u8 (encode rs fs).1)), .i (encode rs fs).2]) := by
  refine ⟨LC.of_go Tryz.func37 (c := _) rfl (by kernel_rfl) (by rw [Tryz.ntmps37]; simp) rfl rfl (by simp [LO.lt, LV.lts, LV.lt]) (by simp) ?_⟩
  intro B hA hmd
  obtain ⟨g, e0⟩ : ∃ g, encode rs fs = g := ⟨_, rfl⟩
  have e1 := e0
  unfold encode at e1
  rw [e0]
  refine LGo.seq ?_
  refine LGo.region rfl ?_
  refine R.assign (h := ?_)
  refine R.assign (h := ?_)
  refine Reg.nil ⟨fun h => (by cases h), ?_⟩
  refine LGo.seq ?_
  refine LGo.seq ?_
  refine LGo.region rfl ?_
  refine R.move (h := ?_)
  refine R.callP (es := [_]) (fun _ => check_P _) (h := ?_)
  refine R.assign (h := ?_)
  refine Reg.nil ⟨fun h => (by cases h), ?_⟩
  refine LGo.seq ?_
  refine LGo.region rfl ?_
  refine R.move (h := ?_)
  refine R.bin (run_neq _ _ _ _ _ _) (h := ?_)
  refine Reg.nil ⟨fun h => (by cases h), ?_⟩
  refine LGo.ifb (ht := fun hc => ?_) (hf := fun hc => ?_)
  · -- then 1
    rw [if_neg (by simpa using hc)] at e1; rw [← e1]
    refine LGo.seq ?_
    refine LGo.region rfl ?_
    refine R.move (h := ?_)
    refine R.assign (h := ?_)
    refine R.assign (h := ?_)
    refine Reg.nil ⟨fun h => (by cases h), ?_⟩
    first | refine LGo.frzT 4 (h := ?_) | refine LGo.nilSl 4 1 (h := ?_) | skip
    exact LGo.ret (ret_TT Tryz.results37 hA hmd)
  · -- else 1
    rw [if_pos (by simpa using hc)] at e1
    have hck := (check_ok (rs := rs) (by simpa using hc)).2
    refine LGo.skip ?_
    refine LGo.seq ?_
    refine LGo.seq ?_
    refine LGo.region rfl ?_
    refine R.move (h := ?_)
    first | refine R.len S61 (h := ?_) | refine R.lenRs S61 (h := ?_) | refine R.lenV (run_lenNil S61) (h := ?_)
    rw [List.length_map]
    refine R.bin (run_gtr _ _ _ _ _ _) (h := ?_)
    refine Reg.nil ⟨fun h => (by cases h), ?_⟩
    first | refine LGo.ifd (ht := fun hc2 => ?_) (hf := fun hc2 => ?_) | refine LGo.ifb (ht := fun hc2 => ?_) (hf := fun hc2 => ?_)
    · -- then 2
      rw [if_pos hc2] at e1; rw [← e1]
      refine LGo.seq ?_
      refine LGo.region rfl ?_
      refine R.assign (h := ?_)
      refine R.assign (h := ?_)
      refine Reg.nil ⟨fun h => (by cases h), ?_⟩
      first | refine LGo.frzT 4 (h := ?_) | refine LGo.nilSl 4 1 (h := ?_) | skip
      exact LGo.ret (ret_TT Tryz.results37 hA hmd)
    · -- else 2
      rw [if_neg hc2] at e1
      refine LGo.skip ?_
      refine LGo.seq ?_
      refine LGo.region rfl ?_
      refine R.assign (h := ?_)
      refine Reg.nil ⟨fun h => (by cases h), ?_⟩
      refine LGo.seq ?_
      refine LGo.region rfl ?_
      refine R.assign (h := ?_)
      refine Reg.nil ⟨fun h => (by cases h), ?_⟩
      refine LGo.seq ?_
      refine LGo.seq ?_
      refine LGo.region rfl ?_
      refine R.move (h := ?_)
      first | refine R.len S61 (h := ?_) | refine R.lenRs S61 (h := ?_) | refine R.lenV (run_lenNil S61) (h := ?_)
      rw [List.length_map]
      refine R.move (h := ?_)
      refine Reg.nil ⟨fun h => (by cases h), ?_⟩
      refine LGo.block ?_
      refine LGo.loop ?_
      refine LGo.nilRs 7 5 1 (h := ?_)
      refine LGo.loopG (σ := Nat × Int × List Int) (fun x => x.1 ≤ fs.length ∧ x.2.2.length ≤ 1100 * x.1 ∧ encF rs 0 fs = ((encF rs x.2.1 (fs.drop x.1)).1, x.2.2 ++ (encF rs x.2.1 (fs.drop x.1)).2)) (fun x => [(29, (true, .i (x.1 : Nat))), (8, (true, .i x.2.1)), (7, (true, .ref 0))]) (fun x => [(0, .rs 5 1 (ic .u8 x.2.2))]) (fun x => fs.length - x.1) ((0, 0, [])) [(0, _), (1, _), (27, _), (28, _)] ⟨by simp, by simp, by simp⟩ (by repeat (first | exact trivial | refine ⟨rfl, ?_⟩)) (by repeat (first | exact trivial | refine ⟨rfl, ?_⟩)) (by repeat (first | exact trivial | refine ⟨rfl, ?_⟩)) ?_
      rintro ⟨k, last, acc⟩ ⟨hk, hal, hq⟩ ih
      dsimp only at * 
      refine LGo.seq ?_
      refine LGo.region rfl ?_
      refine R.bin (run_lss _ _ _ _ _ _) (h := ?_)
      refine Reg.nil ⟨fun h => (by cases h), ?_⟩
      refine LGo.seq ?_
      refine LGo.ifd (ht := fun hc3 => ?_) (hf := fun hc3 => ?_)
      · -- then 3
        have hlt : k < fs.length := by omega
        have hx : (fs.map Fld.c)[((k : Nat) : Int).toNat]? = some (fs[k].c) := by simp [hlt]
        have hd : fs.drop k = fs[k] :: fs.drop (k + 1) := List.drop_eq_getElem_cons hlt
        rw [hd] at hq
        have hxo := hok fs[k] (List.getElem_mem hlt)
        generalize fs[k] = x at hx hq hxo
        clear hd
        refine LGo.skip ?_
        refine LGo.seq ?_
        refine LGo.block ?_
        refine LGo.seq ?_
        refine LGo.region rfl ?_
        refine R.index I61 (hj := fun hg => ⟨by omega, hx⟩) (h := ?_)
        first | refine R.loadA A55 (h := ?_) | refine R.loadN A55 (h := ?_)
        refine R.alloc Z55 (h := ?_)
        refine R.storeA A55 (h := ?_)
        refine Reg.nil ⟨fun h => (by cases h), ?_⟩
        refine LGo.seq ?_
        refine LGo.region rfl ?_
        refine R.move (h := ?_)
        first | refine R.field F55_0 (h := ?_) | refine R.fieldAt F55_0 (h := ?_)
        first | refine R.loadB O3 (h := ?_) | refine R.load1 O3 (h := ?_)
        refine R.callP (es := [_, _]) (fun _ => rule_pub _ _ (by assumption)) (h := ?_)
        refine R.move (h := ?_)
        refine R.extract (h := ?_)
        refine R.extract (h := ?_)
        refine R.alloc Z88 (h := ?_)
        refine R.storeA A88 (h := ?_)
        refine R.assign (h := ?_)
        refine Reg.nil ⟨fun h => (by cases h), ?_⟩
        refine LGo.seq ?_
        refine LGo.seq ?_
        refine LGo.region rfl ?_
        refine R.move (h := ?_)
        refine R.not (h := ?_)
        refine R.move (h := ?_)
        first | refine R.field F55_0 (h := ?_) | refine R.fieldAt F55_0 (h := ?_)
        first | refine R.loadB O3 (h := ?_) | refine R.load1 O3 (h := ?_)
        refine R.move (h := ?_)
        refine R.bin (run_leq _ _ _ _ _ _) (h := ?_)
        refine R.or (h := ?_)
        refine Reg.nil ⟨fun h => (by cases h), ?_⟩
        first | refine LGo.ifd (ht := fun hc4 => ?_) (hf := fun hc4 => ?_) | refine LGo.ifb (ht := fun hc4 => ?_) (hf := fun hc4 => ?_)
        · -- then 4
          have e2 : encF rs last (x :: fs.drop (k + 1)) = (2, []) := by simp only [encF]; exact if_pos hc4
          rw [hq, e2, if_neg (by simp)] at e1
          rw [← e1]
          refine LGo.seq ?_
          refine LGo.region rfl ?_
          refine R.assign (h := ?_)
          refine R.assign (h := ?_)
          refine Reg.nil ⟨fun h => (by cases h), ?_⟩
          first | refine LGo.frzT 4 (h := ?_) | refine LGo.nilSl 4 1 (h := ?_) | skip
          exact LGo.ret (ret_TT Tryz.results37 hA hmd)
        · -- else 4
          have e2 := encF.eq_2 rs last x (fs.drop (k + 1))
          rw [if_neg (by rw [show (!ruleHas x.tag rs || decide (x.tag ≤ last)) = false from hc4]; simp)] at e2
          have hh4 : ruleHas x.tag rs = true := by simp at hc4; exact hc4.1
          have hm := ruleAt_mem hh4
          have htg := hck _ hm.1
          rw [hm.2] at htg
          have hfl := fldB_len (ruleAt x.tag rs) x hxo
          refine LGo.skip ?_
          refine LGo.seq ?_
          refine LGo.region rfl ?_
          refine R.move (h := ?_)
          first | refine R.loadA A88 (h := ?_) | refine R.loadN A88 (h := ?_)
          first | refine R.loadA A55 (h := ?_) | refine R.loadN A55 (h := ?_)
          by_cases hE : fldE (ruleAt x.tag rs) x = 0
          · -- case ok
            rw [if_pos hE] at e2
            rw [e2] at hq
            refine R.callX (es := [_, _, _]) [0] (put_ok (ic .u8 acc) (ruleAt x.tag rs) x (by rw [ic_len]; omega) (by omega) (by omega) hxo.1 hxo.2.1 hxo.2.2 hE) (h := ?_)
            refine R.move (h := ?_)
            refine R.extract (h := ?_)
            refine R.extract (h := ?_)
            refine R.assign (h := ?_)
            refine R.assign (h := ?_)
            refine Reg.nil ⟨fun h => (by cases h), ?_⟩
            refine LGo.seq ?_
            refine LGo.seq ?_
            refine LGo.region rfl ?_
            refine R.move (h := ?_)
            refine R.bin (run_neq _ _ _ _ _ _) (h := ?_)
            refine Reg.nil ⟨fun h => (by cases h), ?_⟩
            refine LGo.ifb (ht := fun hc5 => by simp at hc5) (hf := fun hc5 => ?_)
            refine LGo.skip ?_
            refine LGo.region rfl ?_
            refine R.move (h := ?_)
            first | refine R.field F55_0 (h := ?_) | refine R.fieldAt F55_0 (h := ?_)
            first | refine R.loadB O3 (h := ?_) | refine R.load1 O3 (h := ?_)
            refine R.assign (h := ?_)
            refine R.assign (h := ?_)
            refine Reg.nil ⟨fun _ => ⟨mixedO, by rfl, by rfl⟩, ?_⟩
            refine LGo.inBlock ?_
            refine LGo.region rfl ?_
            first | refine R.add (h := ?_) | refine R.addW (h := ?_)
            refine R.move (h := ?_)
            refine Reg.nil ⟨fun h => (by cases h), ?_⟩
            refine LGo.inLoop ?_
            exact LGo.turn [3] (b := 0) (fun o h => by have := (hA o).1 h; omega) (ih (k + 1, x.tag, acc ++ fldB (ruleAt x.tag rs) x) ⟨hlt, by simp; omega, by rw [hq]; simp⟩ (by simp; omega)) (by repeat (first | exact trivial | refine ⟨rfl, ?_⟩)) ⟨by rw [ic_app]; rfl, trivial⟩
          · -- case bad
            rw [if_neg hE] at e2
            rw [hq, e2, if_neg hE] at e1
            rw [← e1]
            refine R.callX (es := [_, _, _]) [0] (put_err (ic .u8 acc) (ruleAt x.tag rs) x (by rw [ic_len]; omega) (by omega) (by omega) hxo.1 hxo.2.1 hxo.2.2 _ rfl hE) (h := ?_)
            refine R.move (h := ?_)
            refine R.extract (h := ?_)
            refine R.extract (h := ?_)
            refine R.assign (h := ?_)
            refine R.assign (h := ?_)
            refine Reg.nil ⟨fun h => (by cases h), ?_⟩
            refine LGo.seq ?_
            refine LGo.seq ?_
            refine LGo.region rfl ?_
            refine R.move (h := ?_)
            refine R.bin (run_neq _ _ _ _ _ _) (h := ?_)
            refine Reg.nil ⟨fun h => (by cases h), ?_⟩
            refine LGo.ifb (ht := fun hc6 => ?_) (hf := fun hc6 => by exact absurd (by simpa using hc6) hE)
            refine LGo.seq ?_
            refine LGo.region rfl ?_
            refine R.move (h := ?_)
            refine R.assign (h := ?_)
            refine R.assign (h := ?_)
            refine Reg.nil ⟨fun h => (by cases h), ?_⟩
            first | refine LGo.frzT 4 (h := ?_) | refine LGo.nilSl 4 1 (h := ?_) | skip
            exact LGo.ret (ret_TT Tryz.results37 hA hmd)
      · -- else 3
        have hk' : k = fs.length := by omega
        subst hk'
        rw [List.drop_length] at hq
        simp only [encF, List.append_nil] at hq
        rw [hq, if_pos rfl] at e1
        have hnl := needs_len rs
        refine LGo.exit rfl ?_
        refine LGo.seq ?_
        refine LGo.seq ?_
        refine LGo.region rfl ?_
        refine R.move (h := ?_)
        refine R.callP (es := [_]) (fun _ => needs_P _ (by assumption)) (h := ?_)
        first | refine R.len S81 (h := ?_) | refine R.lenRs S81 (h := ?_) | refine R.lenV (run_lenNil S81) (h := ?_)
        rw [show (tagsC (needs rs)).length = (needs rs).length from by simp [tagsC]]
        refine R.move (h := ?_)
        refine Reg.nil ⟨fun h => (by cases h), ?_⟩
        refine LGo.block ?_
        refine LGo.loop ?_
        refine LGo.loopG (σ := Nat) (fun x => x ≤ (needs rs).length ∧ lackF rs fs = ((needs rs).drop x).any fun t => !fldHas t fs) (fun x => [(65, (true, .i (x : Nat)))]) (fun x => [(0, .rs 5 1 (ic .u8 acc))]) (fun x => (needs rs).length - x) (0) [(1, _), (7, _), (63, _), (64, _)] ⟨by simp, by simp [lackF]⟩ (by repeat (first | exact trivial | refine ⟨rfl, ?_⟩)) (by repeat (first | exact trivial | refine ⟨rfl, ?_⟩)) (by repeat (first | exact trivial | refine ⟨rfl, ?_⟩)) ?_
        rintro j ⟨hj, hq2⟩ ih
        refine LGo.seq ?_
        refine LGo.region rfl ?_
        refine R.bin (run_lss _ _ _ _ _ _) (h := ?_)
        refine Reg.nil ⟨fun h => (by cases h), ?_⟩
        refine LGo.seq ?_
        refine LGo.ifd (ht := fun hc7 => ?_) (hf := fun hc7 => ?_)
        · -- then 7
          have hlt : j < (needs rs).length := by omega
          have hx : (tagsC (needs rs))[((j : Nat) : Int).toNat]? = some [.val (.int .i64 (needs rs)[j])] := by simp [tagsC, hlt]
          rw [List.drop_eq_getElem_cons hlt, List.any_cons] at hq2
          generalize (needs rs)[j] = t at hx hq2
          refine LGo.skip ?_
          refine LGo.seq ?_
          refine LGo.block ?_
          refine LGo.seq ?_
          refine LGo.region rfl ?_
          refine R.index I81 (hj := fun hg => ⟨by omega, hx⟩) (h := ?_)
          first | refine R.loadB O3 (h := ?_) | refine R.load1 O3 (h := ?_)
          refine R.assign (h := ?_)
          refine Reg.nil ⟨fun h => (by cases h), ?_⟩
          refine LGo.seq ?_
          refine LGo.region rfl ?_
          refine R.move (h := ?_)
          refine R.move (h := ?_)
          refine R.callP (es := [_, _]) (fun _ => fld_pub _ _ (by assumption)) (h := ?_)
          refine R.move (h := ?_)
          refine R.extract (h := ?_)
          refine R.extract (h := ?_)
          refine R.alloc Z55 (h := ?_)
          refine R.storeA A55 (h := ?_)
          refine R.assign (h := ?_)
          refine Reg.nil ⟨fun h => (by cases h), ?_⟩
          refine LGo.seq ?_
          refine LGo.region rfl ?_
          refine R.move (h := ?_)
          refine R.not (h := ?_)
          refine Reg.nil ⟨fun h => (by cases h), ?_⟩
          first | refine LGo.ifd (ht := fun hc8 => ?_) (hf := fun hc8 => ?_) | refine LGo.ifb (ht := fun hc8 => ?_) (hf := fun hc8 => ?_)
          · -- then 8
            rw [if_pos (by rw [hq2]; simp at hc8; simp [hc8])] at e1; rw [← e1]
            refine LGo.seq ?_
            refine LGo.region rfl ?_
            refine R.assign (h := ?_)
            refine R.assign (h := ?_)
            refine Reg.nil ⟨fun h => (by cases h), ?_⟩
            first | refine LGo.frzT 4 (h := ?_) | refine LGo.nilSl 4 1 (h := ?_) | skip
            exact LGo.ret (ret_TT Tryz.results37 hA hmd)
          · -- else 8
            rw [show (!fldHas t fs) = false from hc8, Bool.false_or] at hq2
            refine LGo.skip ?_
            refine LGo.inBlock ?_
            refine LGo.region rfl ?_
            first | refine R.add (h := ?_) | refine R.addW (h := ?_)
            refine R.move (h := ?_)
            refine Reg.nil ⟨fun h => (by cases h), ?_⟩
            refine LGo.inLoop ?_
            exact LGo.next _ (fun o h => by have := (hA o).1 h; omega) (by omega) (ih (j + 1) ⟨hlt, hq2⟩ (by omega)) (by repeat (first | exact trivial | refine ⟨rfl, ?_⟩)) (by repeat (first | exact trivial | refine ⟨rfl, ?_⟩))
        · -- else 7
          have hj' : j = (needs rs).length := by omega
          subst hj'
          rw [List.drop_length] at hq2
          rw [if_neg (by rw [hq2]; simp)] at e1
          rw [← e1]
          refine LGo.exit rfl ?_
          refine LGo.seq ?_
          refine LGo.region rfl ?_
          refine R.move (h := ?_)
          refine R.assign (h := ?_)
          refine R.assign (h := ?_)
          refine Reg.nil ⟨fun h => (by cases h), ?_⟩
          first | refine LGo.frzT 4 (h := ?_) | refine LGo.nilSl 4 1 (h := ?_) | skip
          exact LGo.ret (ret_TT Tryz.results37 hA hmd)




def prevF (xs : List Fld) (k : Nat) : Fld := if k = 0 then default else xs.getD (k - 1) default
def encR (rs : List Rule) : Nat → Int → List Fld → Int × List Int
  | _, _, [] => (0, [])
  | k, prev, x :: xs => if (!ruleHas x.tag rs || (decide (0 < (k : Int)) && decide (x.tag ≤ prev))) = true then (2, []) else if one (ruleAt x.tag rs) x = 0 then ((encR rs (k + 1) x.tag xs).1, outB (ruleAt x.tag rs) x ++ (encR rs (k + 1) x.tag xs).2) else (one (ruleAt x.tag rs) x, [])
def encodeR (rs : List Rule) (fs : List Fld) : List Int × Int :=
  if refCheck rs = 0 then (if (16 : Int) < fs.length then ([], 3) else if (encR rs 0 0 fs).1 = 0 then (if missing rs rs.length fs = true then ([], 4) else ((encR rs 0 0 fs).2, 0)) else ([], (encR rs 0 0 fs).1)) else ([], refCheck rs)




def decF (rs : List Rule) : Nat → List Int → Int → List UInt8 → List Fld × List UInt8 × List Int
  | _, ms, _, [] => ([], [], ms)
  | 0, ms, _, rest => ([], rest, ms)
  | n + 1, ms, last, c :: tl =>
    if ((!ruleHas c.toNat rs || decide ((c.toNat : Int) ≤ last)) || (decide ((0 : Int) < ms.length) && decide (ms.headD 0 < (c.toNat : Int)))) = true then ([], c :: tl, ms)
    else if (!(getV (ruleAt c.toNat rs) tl).2.2) = true then ([], c :: tl, ms)
    else ((getV (ruleAt c.toNat rs) tl).1 :: (decF rs n (if (decide ((0 : Int) < ms.length) && decide (ms.headD 0 = (c.toNat : Int))) = true then ms.tail else ms) c.toNat (getV (ruleAt c.toNat rs) tl).2.1).1, (decF rs n (if (decide ((0 : Int) < ms.length) && decide (ms.headD 0 = (c.toNat : Int))) = true then ms.tail else ms) c.toNat (getV (ruleAt c.toNat rs) tl).2.1).2)
def decode (rs : List Rule) (b : List UInt8) : List Fld × Int × Int :=
  if check rs = 0 then
    (if (decide ((0 : Int) < (decF rs b.length (needs rs) 0 b).2.1.length) || decide ((0 : Int) < (decF rs b.length (needs rs) 0 b).2.2.length)) = true then ([], (b.length : Int) - (decF rs b.length (needs rs) 0 b).2.1.length, 11) else ((decF rs b.length (needs rs) 0 b).1, 0, 0))
  else ([], 0, check rs)
theorem getV_len (r : Rule) (b : List UInt8) : (getV r b).2.1.length ≤ b.length := by
  unfold getV
  split
  · simp
  · split
    · simp
    · split
      · simp
      · split <;> simp
theorem tagsC_len (l : List Int) : (tagsC l).length = l.length := by simp [tagsC]
theorem tagsC_drop1 (l : List Int) : (tagsC l).drop (Int.toNat 1) = tagsC l.tail := by
  show (tagsC l).drop 1 = _
  simp [tagsC]
theorem tagsC_head {l : List Int} (h : 0 < l.length) : (tagsC l)[(Int.toNat 0)]? = some [.val (.int .i64 (l.headD 0))] := by
  cases l with
  | nil => simp at h
  | cons a l => rfl
theorem decF_nil (rs : List Rule) (n : Nat) (ms : List Int) (last : Int) : decF rs n ms last [] = ([], [], ms) := by cases n <;> rfl
theorem getV_tag (r : Rule) (b : List UInt8) : (getV r b).1.tag = r.tag := by
  unfold getV
  split
  · rfl
  · split
    · rfl
    · split
      · rfl
      · split <;> rfl

theorem decode_P (rs : List Rule) (b : List UInt8) (hrs : rs.length ≤ 100) (hb : b.length ≤ 10000) : PC Tryz.prog 43 [.sv (.sl 5 (rs.map Rule.c)), .sv (.sl 1 (bytesC b))] (.tup [.sv (.sl 3 ((decode rs b).1.map Fld.c)), .i (decode rs b).2.1, .i (decode rs b).2.2]) := by
  refine ⟨LC.of_go Tryz.func43 (c := _) rfl (by kernel_rfl) (by rw [Tryz.ntmps43]; simp) rfl rfl (by simp [LO.lt, LV.lts, LV.lt]) (by simp) ?_⟩
  intro B hA hmd
  obtain ⟨g, e0⟩ : ∃ g, decode rs b = g := ⟨_, rfl⟩
  have e1 := e0
  unfold decode at e1
  rw [e0]
  refine LGo.seq ?_
  refine LGo.region rfl ?_
  refine R.assign (h := ?_)
  refine R.assign (h := ?_)
  refine R.assign (h := ?_)
  refine Reg.nil ⟨fun h => (by cases h), ?_⟩
  refine LGo.scope ?_
  refine LGo.seq ?_
  refine LGo.seq ?_
  refine LGo.region rfl ?_
  refine R.move (h := ?_)
  refine R.callP (es := [_]) (fun _ => check_P _) (h := ?_)
  refine R.assign (h := ?_)
  refine Reg.nil ⟨fun h => (by cases h), ?_⟩
  refine LGo.seq ?_
  refine LGo.region rfl ?_
  refine R.move (h := ?_)
  refine R.bin (run_neq _ _ _ _ _ _) (h := ?_)
  refine Reg.nil ⟨fun h => (by cases h), ?_⟩
  refine LGo.ifb (ht := fun hc => ?_) (hf := fun hc => ?_)
  · -- then 1
    rw [if_neg (by simpa using hc)] at e1; rw [← e1]
    refine LGo.seq ?_
    refine LGo.region rfl ?_
    refine R.move (h := ?_)
    refine R.assign (h := ?_)
    refine R.assign (h := ?_)
    refine R.assign (h := ?_)
    refine Reg.nil ⟨fun h => (by cases h), ?_⟩
    first | refine LGo.frzT 4 (h := ?_) | refine LGo.nilSl 4 3 (h := ?_) | skip
    exact LGo.ret (ret_TTT Tryz.results43 hA hmd)
  · -- else 1
    rw [if_pos (by simpa using hc)] at e1
    have hck := (check_ok (rs := rs) (by simpa using hc)).2
    have hnl := needs_len rs
    refine LGo.skip ?_
    refine LGo.seq ?_
    refine LGo.region rfl ?_
    refine R.move (h := ?_)
    refine R.callP (es := [_]) (fun _ => needs_P rs hrs) (h := ?_)
    refine R.assign (h := ?_)
    refine Reg.nil ⟨fun h => (by cases h), ?_⟩
    refine LGo.seq ?_
    refine LGo.region rfl ?_
    refine R.assign (h := ?_)
    refine Reg.nil ⟨fun h => (by cases h), ?_⟩
    refine LGo.seq ?_
    refine LGo.region rfl ?_
    refine R.move (h := ?_)
    refine R.assign (h := ?_)
    refine Reg.nil ⟨fun h => (by cases h), ?_⟩
    refine LGo.seq ?_
    refine LGo.label ?_
    refine LGo.seq ?_
    refine LGo.nilRs 4 55 3 (h := ?_)
    refine LGo.cut (σ := List UInt8 × List Int × List Fld) (fun x => x.1.length ≤ b.length ∧ x.2.1.length ≤ 100 ∧ decF rs b.length (needs rs) 0 b = (x.2.2, x.1, x.2.1)) (fun x => [(10, (true, .sv (.sl 1 (bytesC x.1)))), (8, (true, .sv (.sl 1 (tagsC x.2.1)))), (4, (true, .ref 0))]) (fun x => [(0, .rs 55 3 (x.2.2.map Fld.c))]) 1 [(1, _)] (by repeat (first | exact trivial | refine ⟨rfl, ?_⟩)) ?_ (fun hcut => ?_)
    · -- behind block 0
      rintro ⟨rest, ms, acc⟩ ⟨hrl, hml, hq⟩
      dsimp only at *
      rw [hq] at e1
      refine LGo.seq ?_
      refine LGo.seq ?_
      refine LGo.region rfl ?_
      refine R.move (h := ?_)
      first | refine R.len S33 (h := ?_) | refine R.lenRs S33 (h := ?_) | refine R.lenV (run_lenNil S33) (h := ?_)
      rw [bytesC_length]
      refine R.bin (run_gtr _ _ _ _ _ _) (h := ?_)
      refine R.move (h := ?_)
      refine R.move (h := ?_)
      first | refine R.len S81 (h := ?_) | refine R.lenRs S81 (h := ?_) | refine R.lenV (run_lenNil S81) (h := ?_)
      rw [tagsC_len]
      refine R.bin (run_gtr _ _ _ _ _ _) (h := ?_)
      refine R.or (h := ?_)
      refine Reg.nil ⟨fun h => (by cases h), ?_⟩
      first | refine LGo.ifd (ht := fun hc2 => ?_) (hf := fun hc2 => ?_) | refine LGo.ifb (ht := fun hc2 => ?_) (hf := fun hc2 => ?_)
      · -- then 2
        rw [if_pos hc2] at e1; rw [← e1]
        refine LGo.seq ?_
        refine LGo.region rfl ?_
        refine R.move (h := ?_)
        first | refine R.len S33 (h := ?_) | refine R.lenRs S33 (h := ?_) | refine R.lenV (run_lenNil S33) (h := ?_)
        rw [bytesC_length]
        refine R.move (h := ?_)
        first | refine R.len S33 (h := ?_) | refine R.lenRs S33 (h := ?_) | refine R.lenV (run_lenNil S33) (h := ?_)
        rw [bytesC_length]
        first | refine R.sub (h := ?_) | refine R.subW (h := ?_)
        refine R.assign (h := ?_)
        refine R.assign (h := ?_)
        refine R.assign (h := ?_)
        refine Reg.nil ⟨fun h => (by cases h), ?_⟩
        first | refine LGo.frzT 4 (h := ?_) | refine LGo.nilSl 4 3 (h := ?_) | skip
        exact LGo.ret (ret_TTT Tryz.results43 hA hmd)
      · -- else 2
        rw [if_neg (by rw [hc2]; simp)] at e1; rw [← e1]
        refine LGo.skip ?_
        refine LGo.seq ?_
        refine LGo.region rfl ?_
        refine R.move (h := ?_)
        refine R.assign (h := ?_)
        refine R.assign (h := ?_)
        refine R.assign (h := ?_)
        refine Reg.nil ⟨fun h => (by cases h), ?_⟩
        first | refine LGo.frzT 4 (h := ?_) | refine LGo.nilSl 4 3 (h := ?_) | skip
        exact LGo.ret (ret_TTT Tryz.results43 hA hmd)
    · -- block 0
      refine LGo.block ?_
      refine LGo.loop ?_
      refine LGo.loopG (σ := Nat × Int × List UInt8 × List Int × List Fld) (fun x => x.2.2.1.length ≤ x.1 ∧ x.2.2.1.length ≤ b.length ∧ x.2.2.2.2.length + x.2.2.1.length ≤ b.length ∧ x.2.2.2.1.length ≤ 100 ∧ decF rs b.length (needs rs) 0 b = (x.2.2.2.2 ++ (decF rs x.1 x.2.2.2.1 x.2.1 x.2.2.1).1, (decF rs x.1 x.2.2.2.1 x.2.1 x.2.2.1).2)) (fun x => [(10, (true, .sv (.sl 1 (bytesC x.2.2.1)))), (9, (true, .i x.2.1)), (8, (true, .sv (.sl 1 (tagsC x.2.2.2.1)))), (4, (true, .ref 0))]) (fun x => [(0, .rs 55 3 (x.2.2.2.2.map Fld.c))]) (fun x => x.2.2.1.length) ((b.length, 0, b, needs rs, [])) [(0, _), (1, _)] ⟨Nat.le_refl _, Nat.le_refl _, by simp, by show (needs rs).length ≤ 100; omega, by simp⟩ (by repeat (first | exact trivial | refine ⟨rfl, ?_⟩)) (by repeat (first | exact trivial | refine ⟨rfl, ?_⟩)) (by repeat (first | exact trivial | refine ⟨rfl, ?_⟩)) ?_
      rintro ⟨fu, last, rest, ms, acc⟩ ⟨hfu, hrl, hal, hml, hq⟩ ih
      dsimp only at * 
      refine LGo.seq ?_
      refine LGo.seq ?_
      refine LGo.region rfl ?_
      refine R.move (h := ?_)
      first | refine R.len S33 (h := ?_) | refine R.lenRs S33 (h := ?_) | refine R.lenV (run_lenNil S33) (h := ?_)
      rw [bytesC_length]
      refine R.bin (run_gtr _ _ _ _ _ _) (h := ?_)
      refine Reg.nil ⟨fun h => (by cases h), ?_⟩
      refine LGo.ifd (ht := fun hc3 => ?_) (hf := fun hc3 => ?_)
      · -- then 3
        obtain ⟨c, tl, rfl⟩ : ∃ c tl, rest = c :: tl := by
          cases rest with
          | nil => simp at hc3
          | cons c tl => exact ⟨c, tl, rfl⟩
        obtain ⟨f, rfl⟩ : ∃ f, fu = f + 1 := ⟨fu - 1, by simp at hfu; omega⟩
        have hx : (bytesC (c :: tl))[(Int.toNat 0)]? = some [.val (.int .u8 c.toNat)] := rfl
        have lc := u8_lt c
        have gc := u8_ge c
        simp only [List.length_cons] at hfu hrl hal
        have e2 := decF.eq_3 rs ms last f c tl
        refine LGo.skip ?_
        refine LGo.block ?_
        refine LGo.seq ?_
        refine LGo.region rfl ?_
        refine R.move (h := ?_)
        refine R.index I33 (hj := fun hg => ⟨by omega, hx⟩) (h := ?_)
        first | refine R.loadB O5 (h := ?_) | refine R.load1 O5 (h := ?_)
        first | refine R.convI Tryz.runUnderlying5 Tryz.runUnderlying3 (h := ?_) | refine R.convW Tryz.runUnderlying5 Tryz.runUnderlying3 (h := ?_)
        refine R.assign (h := ?_)
        refine Reg.nil ⟨fun h => (by cases h), ?_⟩
        refine LGo.seq ?_
        refine LGo.region rfl ?_
        refine R.move (h := ?_)
        refine R.move (h := ?_)
        refine R.callP (es := [_, _]) (fun _ => rule_pub rs _ hrs) (h := ?_)
        refine R.move (h := ?_)
        refine R.extract (h := ?_)
        refine R.extract (h := ?_)
        refine R.alloc Z88 (h := ?_)
        refine R.storeA A88 (h := ?_)
        refine R.assign (h := ?_)
        refine Reg.nil ⟨fun h => (by cases h), ?_⟩
        refine LGo.seq ?_
        refine LGo.seq ?_
        refine LGo.region rfl ?_
        refine R.move (h := ?_)
        refine R.not (h := ?_)
        refine R.move (h := ?_)
        refine R.move (h := ?_)
        refine R.move (h := ?_)
        refine R.bin (run_leq _ _ _ _ _ _) (h := ?_)
        refine R.or (h := ?_)
        refine R.move (h := ?_)
        refine R.move (h := ?_)
        first | refine R.len S81 (h := ?_) | refine R.lenRs S81 (h := ?_) | refine R.lenV (run_lenNil S81) (h := ?_)
        rw [tagsC_len]
        refine R.bin (run_gtr _ _ _ _ _ _) (h := ?_)
        refine R.move (h := ?_)
        refine R.move (h := ?_)
        refine R.index I81 (hj := fun hg => ⟨by (simp at hg; omega), tagsC_head (by simp at hg; omega)⟩) (h := ?_)
        first | refine R.loadB O3 (h := ?_) | refine R.load1 O3 (h := ?_)
        refine R.move (h := ?_)
        refine R.bin (run_lss _ _ _ _ _ _) (h := ?_)
        refine R.and (h := ?_)
        refine R.or (h := ?_)
        refine Reg.nil ⟨fun h => (by cases h), ?_⟩
        first | refine LGo.ifd (ht := fun hc4 => ?_) (hf := fun hc4 => ?_) | refine LGo.ifb (ht := fun hc4 => ?_) (hf := fun hc4 => ?_)
        · -- then 4
          rw [if_pos hc4] at e2
          rw [e2] at hq
          refine LGo.exit rfl ?_
          exact LGo.next _ (fun o h => by have := (hA o).1 h; omega) (by omega) (hcut (c :: tl, ms, acc) ⟨by simp; omega, hml, by rw [hq]; simp⟩) (by repeat (first | exact trivial | refine ⟨rfl, ?_⟩)) (by repeat (first | exact trivial | refine ⟨rfl, ?_⟩))
        · -- else 4
          rw [if_neg (by rw [hc4]; simp)] at e2
          have hh4 : ruleHas (c.toNat : Int) rs = true := by simp at hc4; exact hc4.1.1
          have hm := ruleAt_mem hh4
          have hkd : (ruleAt (c.toNat : Int) rs).kind = 1 ∨ (ruleAt (c.toNat : Int) rs).kind = 2 := by have := (hck _ hm.1).2.2.2; omega
          have hgl := getV_len (ruleAt (c.toNat : Int) rs) tl
          refine LGo.skip ?_
          refine LGo.seq ?_
          refine LGo.region rfl ?_
          first | refine R.loadA A88 (h := ?_) | refine R.loadN A88 (h := ?_)
          refine R.move (h := ?_)
          refine R.sliceLo SF33 (ha := fun _ => ⟨by omega, by rw [bytesC_length]; simp; omega⟩) (h := ?_)
          rw [show (bytesC (c :: tl)).drop (Int.toNat 1) = bytesC tl from rfl]
          refine R.callP (es := [_, _]) (fun _ => get_P (ruleAt (c.toNat : Int) rs) tl hkd (by omega)) (h := ?_)
          refine R.move (h := ?_)
          refine R.extract (h := ?_)
          refine R.extract (h := ?_)
          refine R.extract (h := ?_)
          refine R.alloc Z55 (h := ?_)
          refine R.storeA A55 (h := ?_)
          refine R.assign (h := ?_)
          refine R.assign (h := ?_)
          refine Reg.nil ⟨fun _ => ⟨mixedO, by rfl, by rfl⟩, ?_⟩
          refine LGo.seq ?_
          refine LGo.seq ?_
          refine LGo.region rfl ?_
          refine R.move (h := ?_)
          refine R.not (h := ?_)
          refine Reg.nil ⟨fun h => (by cases h), ?_⟩
          first | refine LGo.ifd (ht := fun hc5 => ?_) (hf := fun hc5 => ?_) | refine LGo.ifb (ht := fun hc5 => ?_) (hf := fun hc5 => ?_)
          · -- then 5
            rw [if_pos hc5] at e2
            rw [e2] at hq
            refine LGo.exit rfl ?_
            exact LGo.next _ (fun o h => by have := (hA o).1 h; omega) (by omega) (hcut (c :: tl, ms, acc) ⟨by simp; omega, hml, by rw [hq]; simp⟩) (by repeat (first | exact trivial | refine ⟨rfl, ?_⟩)) (by repeat (first | exact trivial | refine ⟨rfl, ?_⟩))
          · -- else 5
            rw [if_neg (by rw [hc5]; simp)] at e2
            rw [e2] at hq
            refine LGo.skip ?_
            refine LGo.seq ?_
            refine LGo.seq ?_
            refine LGo.region rfl ?_
            refine R.move (h := ?_)
            first | refine R.len S81 (h := ?_) | refine R.lenRs S81 (h := ?_) | refine R.lenV (run_lenNil S81) (h := ?_)
            rw [tagsC_len]
            refine R.bin (run_gtr _ _ _ _ _ _) (h := ?_)
            refine R.move (h := ?_)
            refine R.move (h := ?_)
            refine R.index I81 (hj := fun hg => ⟨by (simp at hg; omega), tagsC_head (by simp at hg; omega)⟩) (h := ?_)
            first | refine R.loadB O3 (h := ?_) | refine R.load1 O3 (h := ?_)
            refine R.move (h := ?_)
            refine R.bin (run_eql _ _ _ _ _ _) (h := ?_)
            refine R.and (h := ?_)
            refine Reg.nil ⟨fun h => (by cases h), ?_⟩
            first | refine LGo.ifd (ht := fun hc6 => ?_) (hf := fun hc6 => ?_) | refine LGo.ifb (ht := fun hc6 => ?_) (hf := fun hc6 => ?_)
            · -- then 6
              rw [if_pos hc6] at hq
              refine LGo.region rfl ?_
              refine R.move (h := ?_)
              refine R.sliceLo SF81 (ha := fun _ => ⟨by omega, by rw [tagsC_len]; simp at hc6; omega⟩) (h := ?_)
              rw [tagsC_drop1]
              refine R.assign (h := ?_)
              refine Reg.nil ⟨fun h => (by cases h), ?_⟩
              refine LGo.region rfl ?_
              refine R.move (h := ?_)
              first | refine R.loadA A55 (h := ?_) | refine R.loadN A55 (h := ?_)
              refine R.buildSliceG AP61 (xs := [_]) (es := [_]) (ys := [(getV (ruleAt (c.toNat : Int) rs) tl).1.c]) (hcs := CellsOfs.cons (CellsOf.agg rfl) CellsOfs.nil) (hys := rfl) (h := ?_)
              refine R.appendS AP61 (hs := SrcOk.sl Tryz.underlying61 (by simp; rfl)) (hlen := by simp; omega) (h := ?_)
              refine R.move (h := ?_)
              refine R.move (h := ?_)
              refine R.assign (h := ?_)
              refine R.assign (h := ?_)
              refine R.assign (h := ?_)
              refine Reg.nil ⟨fun h => (by cases h), ?_⟩
              refine LGo.inBlock ?_
              refine LGo.inLoop ?_
              exact LGo.turn [3] (b := 0) (fun o h => by have := (hA o).1 h; omega) (ih (f, c.toNat, (getV (ruleAt (c.toNat : Int) rs) tl).2.1, ms.tail, acc ++ [(getV (ruleAt (c.toNat : Int) rs) tl).1]) ⟨by dsimp only; omega, by dsimp only; omega, by simp; omega, by simp; omega, by rw [hq]; simp⟩ (by dsimp only; simp only [List.length_cons]; omega)) (by repeat (first | exact trivial | refine ⟨rfl, ?_⟩)) ⟨by rw [List.map_append]; rfl, trivial⟩
            · -- else 6
              rw [if_neg (by rw [hc6]; simp)] at hq
              refine LGo.skip ?_
              refine LGo.region rfl ?_
              refine R.move (h := ?_)
              first | refine R.loadA A55 (h := ?_) | refine R.loadN A55 (h := ?_)
              refine R.buildSliceG AP61 (xs := [_]) (es := [_]) (ys := [(getV (ruleAt (c.toNat : Int) rs) tl).1.c]) (hcs := CellsOfs.cons (CellsOf.agg rfl) CellsOfs.nil) (hys := rfl) (h := ?_)
              refine R.appendS AP61 (hs := SrcOk.sl Tryz.underlying61 (by simp; rfl)) (hlen := by simp; omega) (h := ?_)
              refine R.move (h := ?_)
              refine R.move (h := ?_)
              refine R.assign (h := ?_)
              refine R.assign (h := ?_)
              refine R.assign (h := ?_)
              refine Reg.nil ⟨fun h => (by cases h), ?_⟩
              refine LGo.inBlock ?_
              refine LGo.inLoop ?_
              exact LGo.turn [3] (b := 0) (fun o h => by have := (hA o).1 h; omega) (ih (f, c.toNat, (getV (ruleAt (c.toNat : Int) rs) tl).2.1, ms, acc ++ [(getV (ruleAt (c.toNat : Int) rs) tl).1]) ⟨by dsimp only; omega, by dsimp only; omega, by simp; omega, hml, by rw [hq]; simp⟩ (by dsimp only; simp only [List.length_cons]; omega)) (by repeat (first | exact trivial | refine ⟨rfl, ?_⟩)) ⟨by rw [List.map_append]; rfl, trivial⟩
      · -- else 3
        have hr0 : rest = [] := List.eq_nil_of_length_eq_zero (by omega)
        subst hr0
        rw [decF_nil] at hq
        refine LGo.exit rfl ?_
        exact LGo.next _ (fun o h => by have := (hA o).1 h; omega) (by omega) (hcut ([], ms, acc) ⟨by simp, hml, by rw [hq]; simp⟩) (by repeat (first | exact trivial | refine ⟨rfl, ?_⟩)) (by repeat (first | exact trivial | refine ⟨rfl, ?_⟩))


end Go.Proofs.YtcobkjognpjikaaGreatDoor
