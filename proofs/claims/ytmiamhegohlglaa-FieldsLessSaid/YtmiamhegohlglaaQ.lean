/- fields.Encode. -/
import Derived.Test.YtmiamhegohlglaaP
set_option linter.unusedSimpArgs false
set_option linter.unusedVariables false
namespace Go.Proofs.Ytmiamhegohlglaa

def FldOk (x : Fld) : Prop := 0 ≤ x.num ∧ x.num < 18446744073709551616 ∧ x.txt.length ≤ 1000
theorem checkGo_ok : ∀ (rs : List Rule) (last : Int), 0 ≤ last → checkGo last rs = 0 → ∀ r ∈ rs, last < r.tag ∧ r.tag ≤ 63 ∧ r.low ≤ r.high ∧ (r.kind = 1 ∨ (r.kind = 2 ∧ r.high ≤ 400))
  | [], last, _, _, r, hr => by simp at hr
  | q :: rs, last, h0, h, r, hr => by
    simp only [checkGo] at h
    split at h
    · cases h
    · rename_i h1
      simp at h1
      split at h
      · rename_i h2
        rcases List.mem_cons.1 hr with rfl | hr
        · exact ⟨by omega, by omega, by omega, .inl h2⟩
        · have := checkGo_ok rs q.tag (by omega) h r hr
          exact ⟨by omega, this.2⟩
      · split at h
        · cases h
        · rename_i h2 h3
          simp at h3
          rcases List.mem_cons.1 hr with rfl | hr
          · exact ⟨by omega, by omega, by omega, .inr ⟨h3.1, by omega⟩⟩
          · have := checkGo_ok rs q.tag (by omega) h r hr
            exact ⟨by omega, this.2⟩
theorem check_ok {rs : List Rule} (h : check rs = 0) : rs.length ≤ 16 ∧ ∀ r ∈ rs, 0 < r.tag ∧ r.tag ≤ 63 ∧ r.low ≤ r.high ∧ (r.kind = 1 ∨ (r.kind = 2 ∧ r.high ≤ 400)) := by
  unfold check at h
  split at h
  · cases h
  · exact ⟨by omega, checkGo_ok rs 0 (by omega) h⟩
theorem ruleAt_mem {t : Int} {rs : List Rule} (h : ruleHas t rs = true) : ruleAt t rs ∈ rs ∧ (ruleAt t rs).tag = t := by
  unfold ruleHas at h
  obtain ⟨r, hr⟩ := Option.isSome_iff_exists.1 h
  have e : ruleAt t rs = r := by simp [ruleAt, hr]
  rw [e]
  exact ⟨List.mem_of_find?_eq_some hr, by simpa using List.find?_some hr⟩
def encF (rs : List Rule) : Int → List Fld → Int × List Int
  | _, [] => (0, [])
  | last, x :: xs => if (!ruleHas x.tag rs || decide (x.tag ≤ last)) = true then (2, []) else if fldE (ruleAt x.tag rs) x = 0 then ((encF rs x.tag xs).1, fldB (ruleAt x.tag rs) x ++ (encF rs x.tag xs).2) else (fldE (ruleAt x.tag rs) x, [])
def lackF (rs : List Rule) (fs : List Fld) : Bool := (needs rs).any fun t => !fldHas t fs
def encode (rs : List Rule) (fs : List Fld) : List Int × Int :=
  if check rs = 0 then (if (16 : Int) < fs.length then ([], 3) else if (encF rs 0 fs).1 = 0 then (if lackF rs fs = true then ([], 4) else ((encF rs 0 fs).2, 0)) else ([], (encF rs 0 fs).1)) else ([], check rs)
theorem fldB_len (r : Rule) (x : Fld) (hx : FldOk x) : (fldB r x).length ≤ 1100 := by
  have h := digs_len x.num hx.1 hx.2.1
  have h2 := hx.2.2
  unfold fldB
  split <;> simp [textI_len] <;> omega

theorem encode_P (rs : List Rule) (fs : List Fld) (hrs : rs.length ≤ 100) (hfs : fs.length ≤ 100) (hok : ∀ x ∈ fs, FldOk x) : PC Try.prog 18 [.sv (.sl 5 (rs.map Rule.c)), .sv (.sl 3 (fs.map Fld.c))] (.tup [.sv (.sl 1 (ic .u8 (encode rs fs).1)), .i (encode rs fs).2]) := by
  refine ⟨LC.of_go Try.func18 (c := _) rfl (by kernel_rfl) (by rw [Try.ntmps18]; simp) rfl rfl (by simp [LO.lt, LV.lts, LV.lt]) (by simp) ?_⟩
  intro B hA hmd
  obtain ⟨g, e0⟩ : ∃ g, encode rs fs = g := ⟨_, rfl⟩
  have e1 := e0
  unfold encode at e1
  rw [e0]
  refine LGo.seq ?_
  refine LGo.region rfl ?_  -- region 0
  refine R.assign (h := ?_)
  refine R.assign (h := ?_)
  refine Reg.nil ⟨fun h => (by cases h), ?_⟩
  refine LGo.seq ?_
  refine LGo.seq ?_
  refine LGo.region rfl ?_  -- region 1
  refine R.move (h := ?_)
  refine R.callP (es := [_]) (fun _ => check_P _) (h := ?_)
  refine R.assign (h := ?_)
  refine Reg.nil ⟨fun h => (by cases h), ?_⟩
  refine LGo.seq ?_
  refine LGo.region rfl ?_  -- region 2
  refine R.move (h := ?_)
  refine R.bin (run_neq _ _ _ _ _ _) (h := ?_)
  refine Reg.nil ⟨fun h => (by cases h), ?_⟩
  refine LGo.ifb (ht := fun hc => ?_) (hf := fun hc => ?_)
  · -- then 1
    rw [if_neg (by simpa using hc)] at e1; rw [← e1]
    refine LGo.seq ?_
    refine LGo.region rfl ?_  -- region 3
    refine R.move (h := ?_)
    refine R.assign (h := ?_)
    refine R.assign (h := ?_)
    refine Reg.nil ⟨fun h => (by cases h), ?_⟩
    first | refine LGo.frzT 4 (h := ?_) | refine LGo.nilSl 4 1 (h := ?_) | skip
    exact LGo.ret (ret_TT Try.results18 hA hmd)
  · -- else 1
    rw [if_pos (by simpa using hc)] at e1
    have hck := (check_ok (rs := rs) (by simpa using hc)).2
    refine LGo.skip ?_
    refine LGo.seq ?_
    refine LGo.seq ?_
    refine LGo.region rfl ?_  -- region 4
    refine R.move (h := ?_)
    first | refine R.len S26 (h := ?_) | refine R.lenRs S26 (h := ?_) | refine R.lenV (run_lenNil S26) (h := ?_)
    rw [List.length_map]
    refine R.bin (run_gtr _ _ _ _ _ _) (h := ?_)
    refine Reg.nil ⟨fun h => (by cases h), ?_⟩
    first | refine LGo.ifd (ht := fun hc2 => ?_) (hf := fun hc2 => ?_) | refine LGo.ifb (ht := fun hc2 => ?_) (hf := fun hc2 => ?_)
    · -- then 2
      rw [if_pos hc2] at e1; rw [← e1]
      refine LGo.seq ?_
      refine LGo.region rfl ?_  -- region 5
      refine R.assign (h := ?_)
      refine R.assign (h := ?_)
      refine Reg.nil ⟨fun h => (by cases h), ?_⟩
      first | refine LGo.frzT 4 (h := ?_) | refine LGo.nilSl 4 1 (h := ?_) | skip
      exact LGo.ret (ret_TT Try.results18 hA hmd)
    · -- else 2
      rw [if_neg hc2] at e1
      refine LGo.skip ?_
      refine LGo.seq ?_
      refine LGo.region rfl ?_  -- region 6
      refine R.assign (h := ?_)
      refine Reg.nil ⟨fun h => (by cases h), ?_⟩
      refine LGo.seq ?_
      refine LGo.region rfl ?_  -- region 7
      refine R.assign (h := ?_)
      refine Reg.nil ⟨fun h => (by cases h), ?_⟩
      refine LGo.seq ?_
      refine LGo.seq ?_
      refine LGo.region rfl ?_  -- region 8
      refine R.move (h := ?_)
      first | refine R.len S26 (h := ?_) | refine R.lenRs S26 (h := ?_) | refine R.lenV (run_lenNil S26) (h := ?_)
      rw [List.length_map]
      refine R.move (h := ?_)
      refine Reg.nil ⟨fun h => (by cases h), ?_⟩
      refine LGo.block ?_
      refine LGo.loop ?_
      refine LGo.nilRs 7 5 1 (h := ?_)
      refine LGo.loopG (σ := Nat × Int × List Int) (fun x => x.1 ≤ fs.length ∧ x.2.2.length ≤ 1100 * x.1 ∧ encF rs 0 fs = ((encF rs x.2.1 (fs.drop x.1)).1, x.2.2 ++ (encF rs x.2.1 (fs.drop x.1)).2)) (fun x => [(29, (true, .i (x.1 : Nat))), (8, (true, .i x.2.1)), (7, (true, .ref 0))]) (fun x => [(0, .rs 5 1 (ic .u8 x.2.2))]) (fun x => fs.length - x.1) ((0, 0, [])) [(0, _), (1, _), (27, _), (28, _)] ⟨by simp, by simp, by simp⟩ (by repeat (first | exact trivial | refine ⟨rfl, ?_⟩)) (by repeat (first | exact trivial | refine ⟨rfl, ?_⟩)) (by repeat (first | exact trivial | refine ⟨rfl, ?_⟩)) ?_
      rintro ⟨k, last, acc⟩ ⟨hk, hal, hq⟩ ih
      dsimp only at * 
      refine LGo.seq ?_
      refine LGo.region rfl ?_  -- region 9
      refine R.bin (run_lss _ _ _ _ _ _) (h := ?_)
      refine Reg.nil ⟨fun h => (by cases h), ?_⟩
      refine LGo.seq ?_
      refine LGo.ifd (ht := fun hc3 => ?_) (hf := fun hc3 => ?_)
      · -- then 3
        have hlt : k < fs.length := by omega
        have hx : (fs.map Fld.c)[((k : Nat) : Int).toNat]? = some (fs[k].c) := by simp [hlt]
        have hd : fs.drop k = fs[k] :: fs.drop (k + 1) := List.drop_eq_getElem_cons hlt
        rw [hd] at hq
        have hxo := hok fs[k] (List.getElem_mem hlt)
        generalize fs[k] = x at hx hq hxo
        clear hd
        refine LGo.skip ?_
        refine LGo.seq ?_
        refine LGo.block ?_
        refine LGo.seq ?_
        refine LGo.region rfl ?_  -- region 10
        refine R.index I26 (hj := fun hg => ⟨by omega, hx⟩) (h := ?_)
        first | refine R.loadA A34 (h := ?_) | refine R.loadN A34 (h := ?_)
        refine R.alloc Z34 (h := ?_)
        refine R.storeA A34 (h := ?_)
        refine Reg.nil ⟨fun h => (by cases h), ?_⟩
        refine LGo.seq ?_
        refine LGo.region rfl ?_  -- region 11
        refine R.move (h := ?_)
        first | refine R.field F34_0 (h := ?_) | refine R.fieldAt F34_0 (h := ?_)
        first | refine R.loadB O3 (h := ?_) | refine R.load1 O3 (h := ?_)
        refine R.callP (es := [_, _]) (fun _ => rule_pub _ _ (by assumption)) (h := ?_)
        refine R.move (h := ?_)
        refine R.extract (h := ?_)
        refine R.extract (h := ?_)
        refine R.alloc Z45 (h := ?_)
        refine R.storeA A45 (h := ?_)
        refine R.assign (h := ?_)
        refine Reg.nil ⟨fun h => (by cases h), ?_⟩
        refine LGo.seq ?_
        refine LGo.seq ?_
        refine LGo.region rfl ?_  -- region 12
        refine R.move (h := ?_)
        refine R.not (h := ?_)
        refine R.move (h := ?_)
        first | refine R.field F34_0 (h := ?_) | refine R.fieldAt F34_0 (h := ?_)
        first | refine R.loadB O3 (h := ?_) | refine R.load1 O3 (h := ?_)
        refine R.move (h := ?_)
        refine R.bin (run_leq _ _ _ _ _ _) (h := ?_)
        refine R.or (h := ?_)
        refine Reg.nil ⟨fun h => (by cases h), ?_⟩
        first | refine LGo.ifd (ht := fun hc4 => ?_) (hf := fun hc4 => ?_) | refine LGo.ifb (ht := fun hc4 => ?_) (hf := fun hc4 => ?_)
        · -- then 4
          have e2 : encF rs last (x :: fs.drop (k + 1)) = (2, []) := by simp only [encF]; exact if_pos hc4
          rw [hq, e2, if_neg (by simp)] at e1
          rw [← e1]
          refine LGo.seq ?_
          refine LGo.region rfl ?_  -- region 13
          refine R.assign (h := ?_)
          refine R.assign (h := ?_)
          refine Reg.nil ⟨fun h => (by cases h), ?_⟩
          first | refine LGo.frzT 4 (h := ?_) | refine LGo.nilSl 4 1 (h := ?_) | skip
          exact LGo.ret (ret_TT Try.results18 hA hmd)
        · -- else 4
          have e2 := encF.eq_2 rs last x (fs.drop (k + 1))
          rw [if_neg (by rw [show (!ruleHas x.tag rs || decide (x.tag ≤ last)) = false from hc4]; simp)] at e2
          have hh4 : ruleHas x.tag rs = true := by simp at hc4; exact hc4.1
          have hm := ruleAt_mem hh4
          have htg := hck _ hm.1
          rw [hm.2] at htg
          have hfl := fldB_len (ruleAt x.tag rs) x hxo
          refine LGo.skip ?_
          refine LGo.seq ?_
          refine LGo.region rfl ?_  -- region 14
          refine R.move (h := ?_)
          first | refine R.loadA A45 (h := ?_) | refine R.loadN A45 (h := ?_)
          first | refine R.loadA A34 (h := ?_) | refine R.loadN A34 (h := ?_)
          by_cases hE : fldE (ruleAt x.tag rs) x = 0
          · -- case ok
            rw [if_pos hE] at e2
            rw [e2] at hq
            refine R.callX (es := [_, _, _]) [0] (put_ok (ic .u8 acc) (ruleAt x.tag rs) x (by rw [ic_len]; omega) (by omega) (by omega) hxo.1 hxo.2.1 hxo.2.2 hE) (h := ?_)
            refine R.move (h := ?_)
            refine R.extract (h := ?_)
            refine R.extract (h := ?_)
            refine R.assign (h := ?_)
            refine R.assign (h := ?_)
            refine Reg.nil ⟨fun h => (by cases h), ?_⟩
            refine LGo.seq ?_
            refine LGo.seq ?_
            refine LGo.region rfl ?_  -- region 15
            refine R.move (h := ?_)
            refine R.bin (run_neq _ _ _ _ _ _) (h := ?_)
            refine Reg.nil ⟨fun h => (by cases h), ?_⟩
            refine LGo.ifb (ht := fun hc5 => by simp at hc5) (hf := fun hc5 => ?_)
            refine LGo.skip ?_
            refine LGo.region rfl ?_  -- region 17 DRAWS
            refine R.move (h := ?_)
            first | refine R.field F34_0 (h := ?_) | refine R.fieldAt F34_0 (h := ?_)
            first | refine R.loadB O3 (h := ?_) | refine R.load1 O3 (h := ?_)
            refine R.assign (h := ?_)
            refine R.assign (h := ?_)
            refine Reg.nil ⟨fun _ => ⟨mixedO, by rfl, by rfl⟩, ?_⟩
            refine LGo.inBlock ?_
            refine LGo.region rfl ?_  -- region 18
            first | refine R.add (h := ?_) | refine R.addW (h := ?_)
            refine R.move (h := ?_)
            refine Reg.nil ⟨fun h => (by cases h), ?_⟩
            refine LGo.inLoop ?_
            exact LGo.turn [3] (b := 0) (fun o h => by have := (hA o).1 h; omega) (ih (k + 1, x.tag, acc ++ fldB (ruleAt x.tag rs) x) ⟨hlt, by simp; omega, by rw [hq]; simp⟩ (by simp; omega)) (by repeat (first | exact trivial | refine ⟨rfl, ?_⟩)) ⟨by rw [ic_app]; rfl, trivial⟩
          · -- case bad
            rw [if_neg hE] at e2
            rw [hq, e2, if_neg hE] at e1
            rw [← e1]
            refine R.callX (es := [_, _, _]) [0] (put_err (ic .u8 acc) (ruleAt x.tag rs) x (by rw [ic_len]; omega) (by omega) (by omega) hxo.1 hxo.2.1 hxo.2.2 _ rfl hE) (h := ?_)
            refine R.move (h := ?_)
            refine R.extract (h := ?_)
            refine R.extract (h := ?_)
            refine R.assign (h := ?_)
            refine R.assign (h := ?_)
            refine Reg.nil ⟨fun h => (by cases h), ?_⟩
            refine LGo.seq ?_
            refine LGo.seq ?_
            refine LGo.region rfl ?_  -- region 15
            refine R.move (h := ?_)
            refine R.bin (run_neq _ _ _ _ _ _) (h := ?_)
            refine Reg.nil ⟨fun h => (by cases h), ?_⟩
            refine LGo.ifb (ht := fun hc6 => ?_) (hf := fun hc6 => by exact absurd (by simpa using hc6) hE)
            refine LGo.seq ?_
            refine LGo.region rfl ?_  -- region 16
            refine R.move (h := ?_)
            refine R.assign (h := ?_)
            refine R.assign (h := ?_)
            refine Reg.nil ⟨fun h => (by cases h), ?_⟩
            first | refine LGo.frzT 4 (h := ?_) | refine LGo.nilSl 4 1 (h := ?_) | skip
            exact LGo.ret (ret_TT Try.results18 hA hmd)
      · -- else 3
        have hk' : k = fs.length := by omega
        subst hk'
        rw [List.drop_length] at hq
        simp only [encF, List.append_nil] at hq
        rw [hq, if_pos rfl] at e1
        have hnl := needs_len rs
        refine LGo.exit rfl ?_
        refine LGo.seq ?_
        refine LGo.seq ?_
        refine LGo.region rfl ?_  -- region 19
        refine R.move (h := ?_)
        refine R.callP (es := [_]) (fun _ => needs_P _ (by assumption)) (h := ?_)
        first | refine R.len S53 (h := ?_) | refine R.lenRs S53 (h := ?_) | refine R.lenV (run_lenNil S53) (h := ?_)
        rw [show (tagsC (needs rs)).length = (needs rs).length from by simp [tagsC]]
        refine R.move (h := ?_)
        refine Reg.nil ⟨fun h => (by cases h), ?_⟩
        refine LGo.block ?_
        refine LGo.loop ?_
        refine LGo.loopG (σ := Nat) (fun x => x ≤ (needs rs).length ∧ lackF rs fs = ((needs rs).drop x).any fun t => !fldHas t fs) (fun x => [(65, (true, .i (x : Nat)))]) (fun x => [(0, .rs 5 1 (ic .u8 acc))]) (fun x => (needs rs).length - x) (0) [(1, _), (7, _), (63, _), (64, _)] ⟨by simp, by simp [lackF]⟩ (by repeat (first | exact trivial | refine ⟨rfl, ?_⟩)) (by repeat (first | exact trivial | refine ⟨rfl, ?_⟩)) (by repeat (first | exact trivial | refine ⟨rfl, ?_⟩)) ?_
        rintro j ⟨hj, hq2⟩ ih
        refine LGo.seq ?_
        refine LGo.region rfl ?_  -- region 20
        refine R.bin (run_lss _ _ _ _ _ _) (h := ?_)
        refine Reg.nil ⟨fun h => (by cases h), ?_⟩
        refine LGo.seq ?_
        refine LGo.ifd (ht := fun hc7 => ?_) (hf := fun hc7 => ?_)
        · -- then 7
          have hlt : j < (needs rs).length := by omega
          have hx : (tagsC (needs rs))[((j : Nat) : Int).toNat]? = some [.val (.int .i64 (needs rs)[j])] := by simp [tagsC, hlt]
          rw [List.drop_eq_getElem_cons hlt, List.any_cons] at hq2
          generalize (needs rs)[j] = t at hx hq2
          refine LGo.skip ?_
          refine LGo.seq ?_
          refine LGo.block ?_
          refine LGo.seq ?_
          refine LGo.region rfl ?_  -- region 21
          refine R.index I53 (hj := fun hg => ⟨by omega, hx⟩) (h := ?_)
          first | refine R.loadB O3 (h := ?_) | refine R.load1 O3 (h := ?_)
          refine R.assign (h := ?_)
          refine Reg.nil ⟨fun h => (by cases h), ?_⟩
          refine LGo.seq ?_
          refine LGo.region rfl ?_  -- region 22
          refine R.move (h := ?_)
          refine R.move (h := ?_)
          refine R.callP (es := [_, _]) (fun _ => fld_pub _ _ (by assumption)) (h := ?_)
          refine R.move (h := ?_)
          refine R.extract (h := ?_)
          refine R.extract (h := ?_)
          refine R.alloc Z34 (h := ?_)
          refine R.storeA A34 (h := ?_)
          refine R.assign (h := ?_)
          refine Reg.nil ⟨fun h => (by cases h), ?_⟩
          refine LGo.seq ?_
          refine LGo.region rfl ?_  -- region 23
          refine R.move (h := ?_)
          refine R.not (h := ?_)
          refine Reg.nil ⟨fun h => (by cases h), ?_⟩
          first | refine LGo.ifd (ht := fun hc8 => ?_) (hf := fun hc8 => ?_) | refine LGo.ifb (ht := fun hc8 => ?_) (hf := fun hc8 => ?_)
          · -- then 8
            rw [if_pos (by rw [hq2]; simp at hc8; simp [hc8])] at e1; rw [← e1]
            refine LGo.seq ?_
            refine LGo.region rfl ?_  -- region 24
            refine R.assign (h := ?_)
            refine R.assign (h := ?_)
            refine Reg.nil ⟨fun h => (by cases h), ?_⟩
            first | refine LGo.frzT 4 (h := ?_) | refine LGo.nilSl 4 1 (h := ?_) | skip
            exact LGo.ret (ret_TT Try.results18 hA hmd)
          · -- else 8
            rw [show (!fldHas t fs) = false from hc8, Bool.false_or] at hq2
            refine LGo.skip ?_
            refine LGo.inBlock ?_
            refine LGo.region rfl ?_  -- region 25
            first | refine R.add (h := ?_) | refine R.addW (h := ?_)
            refine R.move (h := ?_)
            refine Reg.nil ⟨fun h => (by cases h), ?_⟩
            refine LGo.inLoop ?_
            exact LGo.next _ (fun o h => by have := (hA o).1 h; omega) (by omega) (ih (j + 1) ⟨hlt, hq2⟩ (by omega)) (by repeat (first | exact trivial | refine ⟨rfl, ?_⟩)) (by repeat (first | exact trivial | refine ⟨rfl, ?_⟩))
        · -- else 7
          have hj' : j = (needs rs).length := by omega
          subst hj'
          rw [List.drop_length] at hq2
          rw [if_neg (by rw [hq2]; simp)] at e1
          rw [← e1]
          refine LGo.exit rfl ?_
          refine LGo.seq ?_
          refine LGo.region rfl ?_  -- region 26
          refine R.move (h := ?_)
          refine R.assign (h := ?_)
          refine R.assign (h := ?_)
          refine Reg.nil ⟨fun h => (by cases h), ?_⟩
          first | refine LGo.frzT 4 (h := ?_) | refine LGo.nilSl 4 1 (h := ?_) | skip
          exact LGo.ret (ret_TT Try.results18 hA hmd)

end Go.Proofs.Ytmiamhegohlglaa
