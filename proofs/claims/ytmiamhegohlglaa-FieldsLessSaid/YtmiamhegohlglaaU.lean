/- The reference's Decode. -/
import Derived.Test.YtmiamhegohlglaaS
import Derived.Test.YtmiamhegohlglaaC26
set_option linter.unusedSimpArgs false
set_option linter.unusedVariables false
namespace Go.Proofs.Ytmiamhegohlglaa

def finR (rs : List Rule) (b : List UInt8) (acc : List Fld) : List Fld × Int × Int := if missing rs rs.length acc = true then ([], (b.length : Int), 11) else (acc, 0, 0)
def idxN (t : Int) (rs : List Rule) : Nat := (idx (fun x => decide (Rule.tag x = t)) 0 rs).toNat
def decR (rs : List Rule) (b : List UInt8) : Nat → Int → List Fld → Nat → List Fld × Int × Int
  | 0, _, acc, _ => finR rs b acc
  | n + 1, last, acc, k =>
    match b[k]? with
    | none => finR rs b acc
    | some c =>
      if ((!ruleHas c.toNat rs || decide ((ruleAt c.toNat rs).tag ≤ last)) || missing rs (idxN c.toNat rs) acc) = true then ([], (k : Int), 11)
      else if (!(readV (ruleAt c.toNat rs) (b.drop (k + 1))).2.2) = true then ([], (k : Int), 11)
      else decR rs b n (readV (ruleAt c.toNat rs) (b.drop (k + 1))).1.tag (acc ++ [(readV (ruleAt c.toNat rs) (b.drop (k + 1))).1]) (k + 1 + (readV (ruleAt c.toNat rs) (b.drop (k + 1))).2.1.toNat)
def decodeR (rs : List Rule) (b : List UInt8) : List Fld × Int × Int := if refCheck rs = 0 then decR rs b b.length 0 [] 0 else ([], 0, refCheck rs)
theorem readV_tag (r : Rule) (b : List UInt8) : (readV r b).1.tag = r.tag := by
  unfold readV
  split
  · split <;> rfl
  · split
    · rfl
    · split <;> rfl
theorem readV_len (r : Rule) (b : List UInt8) (h : (readV r b).2.2 = true) : 0 ≤ (readV r b).2.1 ∧ (readV r b).2.1 ≤ b.length := by
  have h0 := u8_ge (b0 b)
  have h1 := u8_ge (b1 b)
  unfold readV at h ⊢
  split
  · rename_i c1
    rw [if_pos c1] at h
    split
    · rename_i c2; rw [if_pos c2] at h; cases h
    · rename_i c2; simp only; omega
  · rename_i c1
    rw [if_neg c1] at h
    split
    · rename_i c2; rw [if_pos c2] at h; cases h
    · rename_i c2
      rw [if_neg c2] at h
      split
      · rename_i c3; rw [if_pos c3] at h; cases h
      · rename_i c3; simp only; omega
theorem decR_end (rs : List Rule) (b : List UInt8) (n : Nat) (last : Int) (acc : List Fld) (k : Nat) (h : b.length ≤ k) : decR rs b n last acc k = finR rs b acc := by
  cases n with
  | zero => rfl
  | succ n => rw [decR, List.getElem?_eq_none h]
theorem decR_step (rs : List Rule) (b : List UInt8) (n : Nat) (last : Int) (acc : List Fld) (k : Nat) (c : UInt8) (h : b[k]? = some c) : decR rs b (n + 1) last acc k =
      if ((!ruleHas c.toNat rs || decide ((ruleAt c.toNat rs).tag ≤ last)) || missing rs (idxN c.toNat rs) acc) = true then ([], (k : Int), 11)
      else if (!(readV (ruleAt c.toNat rs) (b.drop (k + 1))).2.2) = true then ([], (k : Int), 11)
      else decR rs b n (readV (ruleAt c.toNat rs) (b.drop (k + 1))).1.tag (acc ++ [(readV (ruleAt c.toNat rs) (b.drop (k + 1))).1]) (k + 1 + (readV (ruleAt c.toNat rs) (b.drop (k + 1))).2.1.toNat) := by
  rw [decR, h]

theorem decodeR_P (rs : List Rule) (b : List UInt8) (hrs : rs.length ≤ 100) (hb : b.length ≤ 10000) : PC Try.prog 14 [.sv (.sl 5 (rs.map Rule.c)), .sv (.sl 1 (bytesC b))] (.tup [.sv (.sl 3 ((decodeR rs b).1.map Fld.c)), .i (decodeR rs b).2.1, .i (decodeR rs b).2.2]) := by
  refine ⟨LC.of_go Try.func14 (c := _) rfl (by kernel_rfl) (by rw [Try.ntmps14]; simp) rfl rfl (by simp [LO.lt, LV.lts, LV.lt]) (by simp) ?_⟩
  intro B hA hmd
  obtain ⟨g, e0⟩ : ∃ g, decodeR rs b = g := ⟨_, rfl⟩
  have e1 := e0
  unfold decodeR at e1
  rw [e0]
  refine LGo.seq ?_
  refine LGo.region rfl ?_  -- region 0
  refine R.assign (h := ?_)
  refine R.assign (h := ?_)
  refine R.assign (h := ?_)
  refine Reg.nil ⟨fun h => (by cases h), ?_⟩
  refine LGo.seq ?_
  refine LGo.region rfl ?_  -- region 1
  refine R.move (h := ?_)
  refine R.callP (es := [_]) (fun _ => refCheck_P _) (h := ?_)
  refine R.assign (h := ?_)
  refine Reg.nil ⟨fun h => (by cases h), ?_⟩
  refine LGo.seq ?_
  refine LGo.seq ?_
  refine LGo.region rfl ?_  -- region 2
  refine R.move (h := ?_)
  refine R.bin (run_neq _ _ _ _ _ _) (h := ?_)
  refine Reg.nil ⟨fun h => (by cases h), ?_⟩
  refine LGo.ifb (ht := fun hc => ?_) (hf := fun hc => ?_)
  · -- then 1
    rw [if_neg (by simpa using hc)] at e1; rw [← e1]
    refine LGo.seq ?_
    refine LGo.region rfl ?_  -- region 3
    refine R.move (h := ?_)
    refine R.assign (h := ?_)
    refine R.assign (h := ?_)
    refine R.assign (h := ?_)
    refine Reg.nil ⟨fun h => (by cases h), ?_⟩
    first | refine LGo.frzT 4 (h := ?_) | refine LGo.nilSl 4 3 (h := ?_) | skip
    exact LGo.ret (ret_TTT Try.results14 hA hmd)
  · -- else 1
    rw [if_pos (by simpa using hc)] at e1
    have hck := (check_ok (rs := rs) (by rw [← refCheck_eq]; simpa using hc)).2
    refine LGo.skip ?_
    refine LGo.seq ?_
    refine LGo.region rfl ?_  -- region 4
    refine R.assign (h := ?_)
    refine Reg.nil ⟨fun h => (by cases h), ?_⟩
    refine LGo.seq ?_
    refine LGo.region rfl ?_  -- region 5
    refine R.assign (h := ?_)
    refine Reg.nil ⟨fun h => (by cases h), ?_⟩
    refine LGo.seq ?_
    refine LGo.region rfl ?_  -- region 6
    refine R.assign (h := ?_)
    refine Reg.nil ⟨fun h => (by cases h), ?_⟩
    refine LGo.seq ?_
    refine LGo.block ?_
    refine LGo.loop ?_
    refine LGo.nilRs 8 34 3 (h := ?_)
    refine LGo.loopG (σ := Nat × Int × List Fld × Nat) (fun x => b.length ≤ x.1 + x.2.2.2 ∧ x.2.2.2 ≤ b.length ∧ 0 ≤ x.2.1 ∧ x.2.1 ≤ 63 ∧ (x.2.2.1.length : Int) ≤ x.2.1 ∧ decR rs b b.length 0 [] 0 = decR rs b x.1 x.2.1 x.2.2.1 x.2.2.2) (fun x => [(10, (true, .i (x.2.2.2 : Nat))), (9, (true, .i x.2.1)), (8, (true, .ref 0))]) (fun x => [(0, .rs 34 3 (x.2.2.1.map Fld.c))]) (fun x => b.length - x.2.2.2) ((b.length, 0, [], 0)) [(0, _), (1, _)] ⟨Nat.le_refl _, Nat.zero_le _, by simp, by simp, by simp, rfl⟩ (by repeat (first | exact trivial | refine ⟨rfl, ?_⟩)) (by repeat (first | exact trivial | refine ⟨rfl, ?_⟩)) (by repeat (first | exact trivial | refine ⟨rfl, ?_⟩)) ?_
    rintro ⟨fu, last, acc, k⟩ ⟨hfu, hkl, hl0, hl1, hal, hq⟩ ih
    dsimp only at * 
    refine LGo.seq ?_
    refine LGo.seq ?_
    refine LGo.region rfl ?_  -- region 7
    refine R.move (h := ?_)
    refine R.move (h := ?_)
    first | refine R.len S23 (h := ?_) | refine R.lenRs S23 (h := ?_) | refine R.lenV (run_lenNil S23) (h := ?_)
    rw [bytesC_length]
    refine R.bin (run_lss _ _ _ _ _ _) (h := ?_)
    refine Reg.nil ⟨fun h => (by cases h), ?_⟩
    refine LGo.ifd (ht := fun hc2 => ?_) (hf := fun hc2 => ?_)
    · -- then 2
      have hlt : k < b.length := by omega
      obtain ⟨f, rfl⟩ : ∃ f, fu = f + 1 := ⟨fu - 1, by omega⟩
      have hgk : b[k]? = some b[k] := List.getElem?_eq_getElem hlt
      have hx : (bytesC b)[((k : Nat) : Int).toNat]? = some [.val (.int .u8 b[k].toNat)] := by rw [Int.toNat_natCast]; exact bytesC_get hgk
      have e2 := decR_step rs b f last acc k b[k] hgk
      generalize b[k] = c at hx e2
      clear hgk
      have lc := u8_lt c
      have gc := u8_ge c
      refine LGo.skip ?_
      refine LGo.block ?_
      refine LGo.seq ?_
      refine LGo.region rfl ?_  -- region 8
      refine R.move (h := ?_)
      refine R.move (h := ?_)
      refine R.move (h := ?_)
      refine R.index I23 (hj := fun hg => ⟨by omega, hx⟩) (h := ?_)
      first | refine R.loadB O5 (h := ?_) | refine R.load1 O5 (h := ?_)
      first | refine R.convI Try.runUnderlying5 Try.runUnderlying3 (h := ?_) | refine R.convW Try.runUnderlying5 Try.runUnderlying3 (h := ?_)
      refine R.callP (es := [_, _]) (fun _ => refRule_P _ _ (by assumption)) (h := ?_)
      refine R.assign (h := ?_)
      refine Reg.nil ⟨fun h => (by cases h), ?_⟩
      refine LGo.seq ?_
      refine LGo.seq ?_
      refine LGo.region rfl ?_  -- region 9
      by_cases hh : ruleHas (c.toNat : Int) rs = true
      · -- case has
        obtain ⟨ri, hri, hr1, hr2⟩ := idx_at hh
        have hin : idxN (c.toNat : Int) rs = ri := by unfold idxN; rw [hr1]; rfl
        rw [hr1]
        rw [hin, hh] at e2
        have hm := ruleAt_mem hh
        have htg := hck _ hm.1
        rw [hm.2] at htg
        have hxr : (rs.map Rule.c)[((ri : Nat) : Int).toNat]? = some ((ruleAt (c.toNat : Int) rs).c) := by simp [hri, hr2]
        refine R.move (h := ?_)
        refine R.bin (run_lss _ _ _ _ _ _) (h := ?_)
        rw [show decide ((ri : Int) < 0) = false from by simp]
        refine R.move (h := ?_)
        refine R.move (h := ?_)
        refine R.move (h := ?_)
        refine R.index I22 (hj := fun hg => ⟨by omega, hxr⟩) (h := ?_)
        first | refine R.field F45_0 (h := ?_) | refine R.fieldAt F45_0 (h := ?_)
        first | refine R.loadB O3 (h := ?_) | refine R.load1 O3 (h := ?_)
        refine R.move (h := ?_)
        refine R.bin (run_leq _ _ _ _ _ _) (h := ?_)
        refine R.or (h := ?_)
        refine R.move (h := ?_)
        refine R.move (h := ?_)
        refine R.move (h := ?_)
        refine R.move (h := ?_)
        refine R.callV (rd := [(0, .rs 34 3 (acc.map Fld.c))]) (es := [_, _, _]) (fun _ => missing_P rs ri acc (Nat.le_of_lt hri) hrs (by omega)) (oneL rfl) (hes := fun h => by simp only [List.map_cons, List.map_nil, entLV_eq h]; rfl) (h := ?_)
        refine R.or (h := ?_)
        refine Reg.nil ⟨fun h => (by cases h), ?_⟩
        refine LGo.ifb (ht := fun hc3 => ?_) (hf := fun hc3 => ?_)
        · -- then 3
          rw [if_pos (by simpa using hc3)] at e2
          rw [hq, e2] at e1
          rw [← e1]
          refine LGo.seq ?_
          refine LGo.region rfl ?_  -- region 10
          refine R.move (h := ?_)
          refine R.assign (h := ?_)
          refine R.assign (h := ?_)
          refine R.assign (h := ?_)
          refine Reg.nil ⟨fun h => (by cases h), ?_⟩
          first | refine LGo.frzT 4 (h := ?_) | refine LGo.nilSl 4 3 (h := ?_) | skip
          exact LGo.ret (ret_TTT Try.results14 hA hmd)
        · -- else 3
          rw [if_neg (by simpa using hc3)] at e2
          have htl : last < (c.toNat : Int) := by simp at hc3; have := hc3.1; rw [hm.2] at this; omega
          refine LGo.skip ?_
          refine LGo.seq ?_
          refine LGo.region rfl ?_  -- region 11 DRAWS
          refine R.move (h := ?_)
          refine R.move (h := ?_)
          refine R.index I22 (hj := fun hg => ⟨by omega, hxr⟩) (h := ?_)
          first | refine R.loadA A45 (h := ?_) | refine R.loadN A45 (h := ?_)
          refine R.move (h := ?_)
          refine R.move (h := ?_)
          first | refine R.add (h := ?_) | refine R.addW (h := ?_)
          refine R.sliceLo SF23 (ha := fun _ => ⟨by omega, by rw [bytesC_length]; omega⟩) (h := ?_)
          rw [bytesC_drop, show ((k : Int) + 1).toNat = k + 1 from by omega]
          refine R.callP (es := [_, _]) (fun _ => read_P (ruleAt (c.toNat : Int) rs) (b.drop (k + 1)) (by rw [List.length_drop]; omega)) (h := ?_)
          refine R.move (h := ?_)
          refine R.extract (h := ?_)
          refine R.extract (h := ?_)
          refine R.extract (h := ?_)
          refine R.alloc Z34 (h := ?_)
          refine R.storeA A34 (h := ?_)
          refine R.assign (h := ?_)
          refine R.assign (h := ?_)
          refine Reg.nil ⟨fun _ => ⟨mixedO, by rfl, by rfl⟩, ?_⟩
          refine LGo.seq ?_
          refine LGo.seq ?_
          refine LGo.region rfl ?_  -- region 12
          refine R.move (h := ?_)
          refine R.not (h := ?_)
          refine Reg.nil ⟨fun h => (by cases h), ?_⟩
          first | refine LGo.ifd (ht := fun hc4 => ?_) (hf := fun hc4 => ?_) | refine LGo.ifb (ht := fun hc4 => ?_) (hf := fun hc4 => ?_)
          · -- then 4
            rw [if_pos hc4] at e2
            rw [hq, e2] at e1
            rw [← e1]
            refine LGo.seq ?_
            refine LGo.region rfl ?_  -- region 13
            refine R.move (h := ?_)
            refine R.assign (h := ?_)
            refine R.assign (h := ?_)
            refine R.assign (h := ?_)
            refine Reg.nil ⟨fun h => (by cases h), ?_⟩
            first | refine LGo.frzT 4 (h := ?_) | refine LGo.nilSl 4 3 (h := ?_) | skip
            exact LGo.ret (ret_TTT Try.results14 hA hmd)
          · -- else 4
            rw [if_neg (by rw [hc4]; simp)] at e2
            rw [e2] at hq
            have hrl := readV_len (ruleAt (c.toNat : Int) rs) (b.drop (k + 1)) (by simpa using hc4)
            rw [List.length_drop] at hrl
            have hrt := readV_tag (ruleAt (c.toNat : Int) rs) (b.drop (k + 1))
            rw [hm.2] at hrt
            refine LGo.skip ?_
            refine LGo.seq ?_
            refine LGo.region rfl ?_  -- region 14
            refine R.move (h := ?_)
            first | refine R.loadA A34 (h := ?_) | refine R.loadN A34 (h := ?_)
            refine R.buildSliceG AP26 (xs := [_]) (es := [_]) (ys := [(readV (ruleAt (c.toNat : Int) rs) (b.drop (k + 1))).1.c]) (hcs := CellsOfs.cons (CellsOf.agg rfl) CellsOfs.nil) (hys := rfl) (h := ?_)
            refine R.appendS AP26 (hs := SrcOk.sl Try.underlying26 (by simp; rfl)) (hlen := by simp; omega) (h := ?_)
            refine R.assign (h := ?_)
            refine Reg.nil ⟨fun h => (by cases h), ?_⟩
            refine LGo.seq ?_
            refine LGo.region rfl ?_  -- region 15
            first | refine R.field F34_0 (h := ?_) | refine R.fieldAt F34_0 (h := ?_)
            first | refine R.loadB O3 (h := ?_) | refine R.load1 O3 (h := ?_)
            refine R.assign (h := ?_)
            refine Reg.nil ⟨fun h => (by cases h), ?_⟩
            refine LGo.region rfl ?_  -- region 16
            refine R.move (h := ?_)
            first | refine R.add (h := ?_) | refine R.addW (h := ?_)
            refine R.move (h := ?_)
            first | refine R.add (h := ?_) | refine R.addW (h := ?_)
            rw [show ((k : Int) + 1 + (readV (ruleAt (c.toNat : Int) rs) (b.drop (k + 1))).2.1) = ((k + 1 + (readV (ruleAt (c.toNat : Int) rs) (b.drop (k + 1))).2.1.toNat : Nat) : Int) from by omega]
            refine R.assign (h := ?_)
            refine Reg.nil ⟨fun h => (by cases h), ?_⟩
            refine LGo.inBlock ?_
            refine LGo.inLoop ?_
            exact LGo.turn [2] (b := 0) (fun o h => by have := (hA o).1 h; omega) (ih (f, (readV (ruleAt (c.toNat : Int) rs) (b.drop (k + 1))).1.tag, acc ++ [(readV (ruleAt (c.toNat : Int) rs) (b.drop (k + 1))).1], k + 1 + (readV (ruleAt (c.toNat : Int) rs) (b.drop (k + 1))).2.1.toNat) ⟨by dsimp only; omega, by dsimp only; omega, by dsimp only; omega, by dsimp only; omega, by dsimp only; rw [List.length_append, hrt]; simp; omega, hq⟩ (by dsimp only; omega)) (by repeat (first | exact trivial | refine ⟨rfl, ?_⟩)) ⟨by rw [List.map_append]; rfl, trivial⟩
      · -- case no
        have hid : idx (fun x => decide (Rule.tag x = (c.toNat : Int))) 0 rs = -1 := by
          have := idx_neg (c.toNat : Int) rs
          rcases idx_spec (fun x => decide (Rule.tag x = (c.toNat : Int))) rs 0 with ⟨h1, h2⟩ | ⟨j, hj, h1, h2⟩
          · exact h1
          · exact absurd (by simp [ruleHas, h2]) hh
        rw [hid]
        rw [if_pos (by simp [hh])] at e2
        rw [hq, e2] at e1
        rw [← e1]
        refine R.move (h := ?_)
        refine R.bin (run_lss _ _ _ _ _ _) (h := ?_)
        refine R.move (h := ?_)
        refine R.move (h := ?_)
        refine R.move (h := ?_)
        refine R.index I22 (e := (default : Rule).c) (hj := fun hg => by simp at hg) (h := ?_)
        first | refine R.field F45_0 (h := ?_) | refine R.fieldAt F45_0 (h := ?_)
        first | refine R.loadB O3 (h := ?_) | refine R.load1 O3 (h := ?_)
        refine R.move (h := ?_)
        refine R.bin (run_leq _ _ _ _ _ _) (h := ?_)
        refine R.or (h := ?_)
        refine R.move (h := ?_)
        refine R.move (h := ?_)
        refine R.move (h := ?_)
        refine R.move (h := ?_)
        refine R.skip (.b false) (es := [_, _, _, _]) (h := ?_)
        refine R.or (h := ?_)
        refine Reg.nil ⟨fun h => (by cases h), ?_⟩
        refine LGo.ifb (ht := fun hc5 => ?_) (hf := fun hc5 => by simp at hc5)
        refine LGo.seq ?_
        refine LGo.region rfl ?_  -- region 10
        refine R.move (h := ?_)
        refine R.assign (h := ?_)
        refine R.assign (h := ?_)
        refine R.assign (h := ?_)
        refine Reg.nil ⟨fun h => (by cases h), ?_⟩
        first | refine LGo.frzT 4 (h := ?_) | refine LGo.nilSl 4 3 (h := ?_) | skip
        exact LGo.ret (ret_TTT Try.results14 hA hmd)
    · -- else 2
      rw [hq, decR_end rs b fu last acc k (by omega)] at e1
      unfold finR at e1
      refine LGo.exit rfl ?_
      refine LGo.seq ?_
      refine LGo.seq ?_
      refine LGo.region rfl ?_  -- region 17
      refine R.move (h := ?_)
      refine R.move (h := ?_)
      first | refine R.len S22 (h := ?_) | refine R.lenRs S22 (h := ?_) | refine R.lenV (run_lenNil S22) (h := ?_)
      rw [List.length_map]
      refine R.move (h := ?_)
      refine R.callV (rd := [(0, .rs 34 3 (acc.map Fld.c))]) (es := [_, _, _]) (fun _ => missing_P rs rs.length acc (Nat.le_refl _) hrs (by omega)) (oneL rfl) (h := ?_)
      refine Reg.nil ⟨fun h => (by cases h), ?_⟩
      first | refine LGo.ifd (ht := fun hc6 => ?_) (hf := fun hc6 => ?_) | refine LGo.ifb (ht := fun hc6 => ?_) (hf := fun hc6 => ?_)
      · -- then 6
        rw [if_pos hc6] at e1; rw [← e1]
        refine LGo.seq ?_
        refine LGo.region rfl ?_  -- region 18
        refine R.move (h := ?_)
        first | refine R.len S23 (h := ?_) | refine R.lenRs S23 (h := ?_) | refine R.lenV (run_lenNil S23) (h := ?_)
        rw [bytesC_length]
        refine R.assign (h := ?_)
        refine R.assign (h := ?_)
        refine R.assign (h := ?_)
        refine Reg.nil ⟨fun h => (by cases h), ?_⟩
        first | refine LGo.frzT 4 (h := ?_) | refine LGo.nilSl 4 3 (h := ?_) | skip
        exact LGo.ret (ret_TTT Try.results14 hA hmd)
      · -- else 6
        rw [if_neg (by rw [hc6]; simp)] at e1; rw [← e1]
        refine LGo.skip ?_
        refine LGo.seq ?_
        refine LGo.region rfl ?_  -- region 19
        refine R.move (h := ?_)
        refine R.assign (h := ?_)
        refine R.assign (h := ?_)
        refine R.assign (h := ?_)
        refine Reg.nil ⟨fun h => (by cases h), ?_⟩
        first | refine LGo.frzT 4 (h := ?_) | refine LGo.nilSl 4 3 (h := ?_) | skip
        exact LGo.ret (ret_TTT Try.results14 hA hmd)

end Go.Proofs.Ytmiamhegohlglaa
