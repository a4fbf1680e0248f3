/- fields: the plain law: Encode, Decode and the reference's come to the same; what is decoded is what was encoded. -/
import Derived.Test.YtckbomkcnmcdaaaGreatDoorFD
set_option linter.unusedSimpArgs false
set_option linter.unusedVariables false
namespace Go.Proofs.YtckbomkcnmcdaaaGreatDoor



def finR (rs : List Rule) (b : List UInt8) (acc : List Fld) : List Fld × Int × Int := if missing rs rs.length acc = true then ([], (b.length : Int), 11) else (acc, 0, 0)
def idxN (t : Int) (rs : List Rule) : Nat := (idx (fun x => decide (Rule.tag x = t)) 0 rs).toNat
def decR (rs : List Rule) (b : List UInt8) : Nat → Int → List Fld → Nat → List Fld × Int × Int
  | 0, _, acc, _ => finR rs b acc
  | n + 1, last, acc, k =>
    match b[k]? with
    | none => finR rs b acc
    | some c =>
      if ((!ruleHas c.toNat rs || decide ((ruleAt c.toNat rs).tag ≤ last)) || missing rs (idxN c.toNat rs) acc) = true then ([], (k : Int), 11)
      else if (!(readV (ruleAt c.toNat rs) (b.drop (k + 1))).2.2) = true then ([], (k : Int), 11)
      else decR rs b n (readV (ruleAt c.toNat rs) (b.drop (k + 1))).1.tag (acc ++ [(readV (ruleAt c.toNat rs) (b.drop (k + 1))).1]) (k + 1 + (readV (ruleAt c.toNat rs) (b.drop (k + 1))).2.1.toNat)
def decodeR (rs : List Rule) (b : List UInt8) : List Fld × Int × Int := if refCheck rs = 0 then decR rs b b.length 0 [] 0 else ([], 0, refCheck rs)
theorem readV_tag (r : Rule) (b : List UInt8) : (readV r b).1.tag = r.tag := by
  unfold readV
  split
  · split <;> rfl
  · split
    · rfl
    · split <;> rfl
theorem readV_len (r : Rule) (b : List UInt8) (h : (readV r b).2.2 = true) : 0 ≤ (readV r b).2.1 ∧ (readV r b).2.1 ≤ b.length := by
  have h0 := u8_ge (b0 b)
  have h1 := u8_ge (b1 b)
  unfold readV at h ⊢
  split
  · rename_i c1
    rw [if_pos c1] at h
    split
    · rename_i c2; rw [if_pos c2] at h; cases h
    · rename_i c2; simp only; omega
  · rename_i c1
    rw [if_neg c1] at h
    split
    · rename_i c2; rw [if_pos c2] at h; cases h
    · rename_i c2
      rw [if_neg c2] at h
      split
      · rename_i c3; rw [if_pos c3] at h; cases h
      · rename_i c3; simp only; omega
theorem decR_end (rs : List Rule) (b : List UInt8) (n : Nat) (last : Int) (acc : List Fld) (k : Nat) (h : b.length ≤ k) : decR rs b n last acc k = finR rs b acc := by
  cases n with
  | zero => rfl
  | succ n => rw [decR, List.getElem?_eq_none h]
theorem decR_step (rs : List Rule) (b : List UInt8) (n : Nat) (last : Int) (acc : List Fld) (k : Nat) (c : UInt8) (h : b[k]? = some c) : decR rs b (n + 1) last acc k =
      if ((!ruleHas c.toNat rs || decide ((ruleAt c.toNat rs).tag ≤ last)) || missing rs (idxN c.toNat rs) acc) = true then ([], (k : Int), 11)
      else if (!(readV (ruleAt c.toNat rs) (b.drop (k + 1))).2.2) = true then ([], (k : Int), 11)
      else decR rs b n (readV (ruleAt c.toNat rs) (b.drop (k + 1))).1.tag (acc ++ [(readV (ruleAt c.toNat rs) (b.drop (k + 1))).1]) (k + 1 + (readV (ruleAt c.toNat rs) (b.drop (k + 1))).2.1.toNat) := by
  rw [decR, h]

theorem decodeR_P (rs : List Rule) (b : List UInt8) (hrs : rs.length ≤ 100) (hb : b.length ≤ 10000) : PC Tryz.prog 44 [.sv (.sl 5 (rs.map Rule.c)), .sv (.sl 1 (bytesC b))] (.tup [.sv (.sl 3 ((decodeR rs b).1.map Fld.c)), .i (decodeR rs b).2.1, .i (decodeR rs b).2.2]) := by
  refine ⟨LC.of_go Tryz.func44 (c := _) rfl (by kernel_rfl) (by rw [Tryz.ntmps44]; simp) rfl rfl (by simp [LO.lt, LV.lts, LV.lt]) (by simp) ?_⟩
  intro B hA hmd
  obtain ⟨g, e0⟩ : ∃ g, decodeR rs b = g := ⟨_, rfl⟩
  have e1 := e0
  unfold decodeR at e1
  rw [e0]
  refine LGo.seq ?_
  refine LGo.region rfl ?_
  refine R.assign (h := ?_)
  refine R.assign (h := ?_)
  refine R.assign (h := ?_)
  refine Reg.nil ⟨fun h => (by cases h), ?_⟩
  refine LGo.seq ?_
  refine LGo.region rfl ?_
  refine R.move (h := ?_)
  refine R.callP (es := [_]) (fun _ => refCheck_P _) (h := ?_)
  refine R.assign (h := ?_)
  refine Reg.nil ⟨fun h => (by cases h), ?_⟩
  refine LGo.seq ?_
  refine LGo.seq ?_
  refine LGo.region rfl ?_
  refine R.move (h := ?_)
  refine R.bin (run_neq _ _ _ _ _ _) (h := ?_)
  refine Reg.nil ⟨fun h => (by cases h), ?_⟩
  refine LGo.ifb (ht := fun hc => ?_) (hf := fun hc => ?_)
  · -- then 1
    rw [if_neg (by simpa using hc)] at e1; rw [← e1]
    refine LGo.seq ?_
    refine LGo.region rfl ?_
    refine R.move (h := ?_)
    refine R.assign (h := ?_)
    refine R.assign (h := ?_)
    refine R.assign (h := ?_)
    refine Reg.nil ⟨fun h => (by cases h), ?_⟩
    first | refine LGo.frzT 4 (h := ?_) | refine LGo.nilSl 4 3 (h := ?_) | skip
    exact LGo.ret (ret_TTT Tryz.results44 hA hmd)
  · -- else 1
    rw [if_pos (by simpa using hc)] at e1
    have hck := (check_ok (rs := rs) (by rw [← refCheck_eq]; simpa using hc)).2
    refine LGo.skip ?_
    refine LGo.seq ?_
    refine LGo.region rfl ?_
    refine R.assign (h := ?_)
    refine Reg.nil ⟨fun h => (by cases h), ?_⟩
    refine LGo.seq ?_
    refine LGo.region rfl ?_
    refine R.assign (h := ?_)
    refine Reg.nil ⟨fun h => (by cases h), ?_⟩
    refine LGo.seq ?_
    refine LGo.region rfl ?_
    refine R.assign (h := ?_)
    refine Reg.nil ⟨fun h => (by cases h), ?_⟩
    refine LGo.seq ?_
    refine LGo.block ?_
    refine LGo.loop ?_
    refine LGo.nilRs 8 78 3 (h := ?_)
    refine LGo.loopG (σ := Nat × Int × List Fld × Nat) (fun x => b.length ≤ x.1 + x.2.2.2 ∧ x.2.2.2 ≤ b.length ∧ 0 ≤ x.2.1 ∧ x.2.1 ≤ 63 ∧ (x.2.2.1.length : Int) ≤ x.2.1 ∧ decR rs b b.length 0 [] 0 = decR rs b x.1 x.2.1 x.2.2.1 x.2.2.2) (fun x => [(10, (true, .i (x.2.2.2 : Nat))), (9, (true, .i x.2.1)), (8, (true, .ref 0))]) (fun x => [(0, .rs 78 3 (x.2.2.1.map Fld.c))]) (fun x => b.length - x.2.2.2) ((b.length, 0, [], 0)) [(0, _), (1, _)] ⟨Nat.le_refl _, Nat.zero_le _, by simp, by simp, by simp, rfl⟩ (by repeat (first | exact trivial | refine ⟨rfl, ?_⟩)) (by repeat (first | exact trivial | refine ⟨rfl, ?_⟩)) (by repeat (first | exact trivial | refine ⟨rfl, ?_⟩)) ?_
    rintro ⟨fu, last, acc, k⟩ ⟨hfu, hkl, hl0, hl1, hal, hq⟩ ih
    dsimp only at * 
    refine LGo.seq ?_
    refine LGo.seq ?_
    refine LGo.region rfl ?_
    refine R.move (h := ?_)
    refine R.move (h := ?_)
    first | refine R.len S37 (h := ?_) | refine R.lenRs S37 (h := ?_) | refine R.lenV (run_lenNil S37) (h := ?_)
    rw [bytesC_length]
    refine R.bin (run_lss _ _ _ _ _ _) (h := ?_)
    refine Reg.nil ⟨fun h => (by cases h), ?_⟩
    refine LGo.ifd (ht := fun hc2 => ?_) (hf := fun hc2 => ?_)
    · -- then 2
      have hlt : k < b.length := by omega
      obtain ⟨f, rfl⟩ : ∃ f, fu = f + 1 := ⟨fu - 1, by omega⟩
      have hgk : b[k]? = some b[k] := List.getElem?_eq_getElem hlt
      have hx : (bytesC b)[((k : Nat) : Int).toNat]? = some [.val (.int .u8 b[k].toNat)] := by rw [Int.toNat_natCast]; exact bytesC_get hgk
      have e2 := decR_step rs b f last acc k b[k] hgk
      generalize b[k] = c at hx e2
      clear hgk
      have lc := u8_lt c
      have gc := u8_ge c
      refine LGo.skip ?_
      refine LGo.block ?_
      refine LGo.seq ?_
      refine LGo.region rfl ?_
      refine R.move (h := ?_)
      refine R.move (h := ?_)
      refine R.move (h := ?_)
      refine R.index I37 (hj := fun hg => ⟨by omega, hx⟩) (h := ?_)
      first | refine R.loadB O5 (h := ?_) | refine R.load1 O5 (h := ?_)
      first | refine R.convI Tryz.runUnderlying5 Tryz.runUnderlying3 (h := ?_) | refine R.convW Tryz.runUnderlying5 Tryz.runUnderlying3 (h := ?_)
      refine R.callP (es := [_, _]) (fun _ => refRule_P _ _ (by assumption)) (h := ?_)
      refine R.assign (h := ?_)
      refine Reg.nil ⟨fun h => (by cases h), ?_⟩
      refine LGo.seq ?_
      refine LGo.seq ?_
      refine LGo.region rfl ?_
      by_cases hh : ruleHas (c.toNat : Int) rs = true
      · -- case has
        obtain ⟨ri, hri, hr1, hr2⟩ := idx_at hh
        have hin : idxN (c.toNat : Int) rs = ri := by unfold idxN; rw [hr1]; rfl
        rw [hr1]
        rw [hin, hh] at e2
        have hm := ruleAt_mem hh
        have htg := hck _ hm.1
        rw [hm.2] at htg
        have hxr : (rs.map Rule.c)[((ri : Nat) : Int).toNat]? = some ((ruleAt (c.toNat : Int) rs).c) := by simp [hri, hr2]
        refine R.move (h := ?_)
        refine R.bin (run_lss _ _ _ _ _ _) (h := ?_)
        rw [show decide ((ri : Int) < 0) = false from by simp]
        refine R.move (h := ?_)
        refine R.move (h := ?_)
        refine R.move (h := ?_)
        refine R.index I22 (hj := fun hg => ⟨by omega, hxr⟩) (h := ?_)
        first | refine R.field F30_0 (h := ?_) | refine R.fieldAt F30_0 (h := ?_)
        first | refine R.loadB O3 (h := ?_) | refine R.load1 O3 (h := ?_)
        refine R.move (h := ?_)
        refine R.bin (run_leq _ _ _ _ _ _) (h := ?_)
        refine R.or (h := ?_)
        refine R.move (h := ?_)
        refine R.move (h := ?_)
        refine R.move (h := ?_)
        refine R.move (h := ?_)
        refine R.callV (rd := [(0, .rs 78 3 (acc.map Fld.c))]) (es := [_, _, _]) (fun _ => missing_P rs ri acc (Nat.le_of_lt hri) hrs (by omega)) (oneL rfl) (hes := fun h => by simp only [List.map_cons, List.map_nil, entLV_eq h]; rfl) (h := ?_)
        refine R.or (h := ?_)
        refine Reg.nil ⟨fun h => (by cases h), ?_⟩
        refine LGo.ifb (ht := fun hc3 => ?_) (hf := fun hc3 => ?_)
        · -- then 3
          rw [if_pos (by simpa using hc3)] at e2
          rw [hq, e2] at e1
          rw [← e1]
          refine LGo.seq ?_
          refine LGo.region rfl ?_
          refine R.move (h := ?_)
          refine R.assign (h := ?_)
          refine R.assign (h := ?_)
          refine R.assign (h := ?_)
          refine Reg.nil ⟨fun h => (by cases h), ?_⟩
          first | refine LGo.frzT 4 (h := ?_) | refine LGo.nilSl 4 3 (h := ?_) | skip
          exact LGo.ret (ret_TTT Tryz.results44 hA hmd)
        · -- else 3
          rw [if_neg (by simpa using hc3)] at e2
          have htl : last < (c.toNat : Int) := by simp at hc3; have := hc3.1; rw [hm.2] at this; omega
          refine LGo.skip ?_
          refine LGo.seq ?_
          refine LGo.region rfl ?_
          refine R.move (h := ?_)
          refine R.move (h := ?_)
          refine R.index I22 (hj := fun hg => ⟨by omega, hxr⟩) (h := ?_)
          first | refine R.loadA A30 (h := ?_) | refine R.loadN A30 (h := ?_)
          refine R.move (h := ?_)
          refine R.move (h := ?_)
          first | refine R.add (h := ?_) | refine R.addW (h := ?_)
          refine R.sliceLo SF37 (ha := fun _ => ⟨by omega, by rw [bytesC_length]; omega⟩) (h := ?_)
          rw [bytesC_drop, show ((k : Int) + 1).toNat = k + 1 from by omega]
          refine R.callP (es := [_, _]) (fun _ => read_P (ruleAt (c.toNat : Int) rs) (b.drop (k + 1)) (by rw [List.length_drop]; omega)) (h := ?_)
          refine R.move (h := ?_)
          refine R.extract (h := ?_)
          refine R.extract (h := ?_)
          refine R.extract (h := ?_)
          refine R.alloc Z78 (h := ?_)
          refine R.storeA A78 (h := ?_)
          refine R.assign (h := ?_)
          refine R.assign (h := ?_)
          refine Reg.nil ⟨fun _ => ⟨mixedO, by rfl, by rfl⟩, ?_⟩
          refine LGo.seq ?_
          refine LGo.seq ?_
          refine LGo.region rfl ?_
          refine R.move (h := ?_)
          refine R.not (h := ?_)
          refine Reg.nil ⟨fun h => (by cases h), ?_⟩
          first | refine LGo.ifd (ht := fun hc4 => ?_) (hf := fun hc4 => ?_) | refine LGo.ifb (ht := fun hc4 => ?_) (hf := fun hc4 => ?_)
          · -- then 4
            rw [if_pos hc4] at e2
            rw [hq, e2] at e1
            rw [← e1]
            refine LGo.seq ?_
            refine LGo.region rfl ?_
            refine R.move (h := ?_)
            refine R.assign (h := ?_)
            refine R.assign (h := ?_)
            refine R.assign (h := ?_)
            refine Reg.nil ⟨fun h => (by cases h), ?_⟩
            first | refine LGo.frzT 4 (h := ?_) | refine LGo.nilSl 4 3 (h := ?_) | skip
            exact LGo.ret (ret_TTT Tryz.results44 hA hmd)
          · -- else 4
            rw [if_neg (by rw [hc4]; simp)] at e2
            rw [e2] at hq
            have hrl := readV_len (ruleAt (c.toNat : Int) rs) (b.drop (k + 1)) (by simpa using hc4)
            rw [List.length_drop] at hrl
            have hrt := readV_tag (ruleAt (c.toNat : Int) rs) (b.drop (k + 1))
            rw [hm.2] at hrt
            refine LGo.skip ?_
            refine LGo.seq ?_
            refine LGo.region rfl ?_
            refine R.move (h := ?_)
            first | refine R.loadA A78 (h := ?_) | refine R.loadN A78 (h := ?_)
            refine R.buildSliceG AP66 (xs := [_]) (es := [_]) (ys := [(readV (ruleAt (c.toNat : Int) rs) (b.drop (k + 1))).1.c]) (hcs := CellsOfs.cons (CellsOf.agg rfl) CellsOfs.nil) (hys := rfl) (h := ?_)
            refine R.appendS AP66 (hs := SrcOk.sl Tryz.underlying66 (by simp; rfl)) (hlen := by simp; omega) (h := ?_)
            refine R.assign (h := ?_)
            refine Reg.nil ⟨fun h => (by cases h), ?_⟩
            refine LGo.seq ?_
            refine LGo.region rfl ?_
            first | refine R.field F78_0 (h := ?_) | refine R.fieldAt F78_0 (h := ?_)
            first | refine R.loadB O3 (h := ?_) | refine R.load1 O3 (h := ?_)
            refine R.assign (h := ?_)
            refine Reg.nil ⟨fun h => (by cases h), ?_⟩
            refine LGo.region rfl ?_
            refine R.move (h := ?_)
            first | refine R.add (h := ?_) | refine R.addW (h := ?_)
            refine R.move (h := ?_)
            first | refine R.add (h := ?_) | refine R.addW (h := ?_)
            rw [show ((k : Int) + 1 + (readV (ruleAt (c.toNat : Int) rs) (b.drop (k + 1))).2.1) = ((k + 1 + (readV (ruleAt (c.toNat : Int) rs) (b.drop (k + 1))).2.1.toNat : Nat) : Int) from by omega]
            refine R.assign (h := ?_)
            refine Reg.nil ⟨fun h => (by cases h), ?_⟩
            refine LGo.inBlock ?_
            refine LGo.inLoop ?_
            exact LGo.turn [2] (b := 0) (fun o h => by have := (hA o).1 h; omega) (ih (f, (readV (ruleAt (c.toNat : Int) rs) (b.drop (k + 1))).1.tag, acc ++ [(readV (ruleAt (c.toNat : Int) rs) (b.drop (k + 1))).1], k + 1 + (readV (ruleAt (c.toNat : Int) rs) (b.drop (k + 1))).2.1.toNat) ⟨by dsimp only; omega, by dsimp only; omega, by dsimp only; omega, by dsimp only; omega, by dsimp only; rw [List.length_append, hrt]; simp; omega, hq⟩ (by dsimp only; omega)) (by repeat (first | exact trivial | refine ⟨rfl, ?_⟩)) ⟨by rw [List.map_append]; rfl, trivial⟩
      · -- case no
        have hid : idx (fun x => decide (Rule.tag x = (c.toNat : Int))) 0 rs = -1 := by
          have := idx_neg (c.toNat : Int) rs
          rcases idx_spec (fun x => decide (Rule.tag x = (c.toNat : Int))) rs 0 with ⟨h1, h2⟩ | ⟨j, hj, h1, h2⟩
          · exact h1
          · exact absurd (by simp [ruleHas, h2]) hh
        rw [hid]
        rw [if_pos (by simp [hh])] at e2
        rw [hq, e2] at e1
        rw [← e1]
        refine R.move (h := ?_)
        refine R.bin (run_lss _ _ _ _ _ _) (h := ?_)
        refine R.move (h := ?_)
        refine R.move (h := ?_)
        refine R.move (h := ?_)
        refine R.index I22 (e := (default : Rule).c) (hj := fun hg => by simp at hg) (h := ?_)
        first | refine R.field F30_0 (h := ?_) | refine R.fieldAt F30_0 (h := ?_)
        first | refine R.loadB O3 (h := ?_) | refine R.load1 O3 (h := ?_)
        refine R.move (h := ?_)
        refine R.bin (run_leq _ _ _ _ _ _) (h := ?_)
        refine R.or (h := ?_)
        refine R.move (h := ?_)
        refine R.move (h := ?_)
        refine R.move (h := ?_)
        refine R.move (h := ?_)
        refine R.skip (.b false) (es := [_, _, _, _]) (h := ?_)
        refine R.or (h := ?_)
        refine Reg.nil ⟨fun h => (by cases h), ?_⟩
        refine LGo.ifb (ht := fun hc5 => ?_) (hf := fun hc5 => by simp at hc5)
        refine LGo.seq ?_
        refine LGo.region rfl ?_
        refine R.move (h := ?_)
        refine R.assign (h := ?_)
        refine R.assign (h := ?_)
        refine R.assign (h := ?_)
        refine Reg.nil ⟨fun h => (by cases h), ?_⟩
        first | refine LGo.frzT 4 (h := ?_) | refine LGo.nilSl 4 3 (h := ?_) | skip
        exact LGo.ret (ret_TTT Tryz.results44 hA hmd)
    · -- else 2
      rw [hq, decR_end rs b fu last acc k (by omega)] at e1
      unfold finR at e1
      refine LGo.exit rfl ?_
      refine LGo.seq ?_
      refine LGo.seq ?_
      refine LGo.region rfl ?_
      refine R.move (h := ?_)
      refine R.move (h := ?_)
      first | refine R.len S22 (h := ?_) | refine R.lenRs S22 (h := ?_) | refine R.lenV (run_lenNil S22) (h := ?_)
      rw [List.length_map]
      refine R.move (h := ?_)
      refine R.callV (rd := [(0, .rs 78 3 (acc.map Fld.c))]) (es := [_, _, _]) (fun _ => missing_P rs rs.length acc (Nat.le_refl _) hrs (by omega)) (oneL rfl) (h := ?_)
      refine Reg.nil ⟨fun h => (by cases h), ?_⟩
      first | refine LGo.ifd (ht := fun hc6 => ?_) (hf := fun hc6 => ?_) | refine LGo.ifb (ht := fun hc6 => ?_) (hf := fun hc6 => ?_)
      · -- then 6
        rw [if_pos hc6] at e1; rw [← e1]
        refine LGo.seq ?_
        refine LGo.region rfl ?_
        refine R.move (h := ?_)
        first | refine R.len S37 (h := ?_) | refine R.lenRs S37 (h := ?_) | refine R.lenV (run_lenNil S37) (h := ?_)
        rw [bytesC_length]
        refine R.assign (h := ?_)
        refine R.assign (h := ?_)
        refine R.assign (h := ?_)
        refine Reg.nil ⟨fun h => (by cases h), ?_⟩
        first | refine LGo.frzT 4 (h := ?_) | refine LGo.nilSl 4 3 (h := ?_) | skip
        exact LGo.ret (ret_TTT Tryz.results44 hA hmd)
      · -- else 6
        rw [if_neg (by rw [hc6]; simp)] at e1; rw [← e1]
        refine LGo.skip ?_
        refine LGo.seq ?_
        refine LGo.region rfl ?_
        refine R.move (h := ?_)
        refine R.assign (h := ?_)
        refine R.assign (h := ?_)
        refine R.assign (h := ?_)
        refine Reg.nil ⟨fun h => (by cases h), ?_⟩
        first | refine LGo.frzT 4 (h := ?_) | refine LGo.nilSl 4 3 (h := ?_) | skip
        exact LGo.ret (ret_TTT Tryz.results44 hA hmd)




theorem low_succ (x : Int) : ∀ n, low x (n + 1) = low (x / 256) n ++ [x % 256]
  | 0 => by simp [low]
  | n + 1 => by
    have ih := low_succ x n
    show x / 2 ^ (8 * (n + 1)) % 256 :: low x (n + 1) = (x / 256 / 2 ^ (8 * n) % 256 :: low (x / 256) n) ++ [x % 256]
    rw [ih, List.cons_append]
    have e : x / 2 ^ (8 * (n + 1)) = x / 256 / 2 ^ (8 * n) := by
      rw [Int.ediv_ediv_of_nonneg (by omega), show 8 * (n + 1) = 8 + 8 * n from by omega, Int.pow_add]
      rfl
    rw [e]
theorem digs_step (x : Int) (h : 0 < x) : digs x = digs (x / 256) ++ [x % 256] := by
  have e : (bits x.toNat + 7) / 8 = (bits (x / 256).toNat + 7) / 8 + 1 := by
    by_cases hx : 256 ≤ x
    · have := bitsI_shift x 8 (by omega) hx
      have e2 : (x / 2 ^ 8) = x / 256 := rfl
      rw [e2] at this
      omega
    · have e0 : x / 256 = 0 := by omega
      have h1 := bits_le x.toNat 8 (by omega)
      have h2 : 1 ≤ bits x.toNat := by unfold bits; rw [if_neg (by omega)]; omega
      have h3 : bits (x / 256).toNat = 0 := by rw [e0]; rfl
      omega
  rw [digs, e, low_succ]
  rfl
theorem digs_zero : digs 0 = [] := rfl
theorem numB_digs : ∀ (k : Nat) (x : Int), 0 ≤ x → x < 256 ^ k → numB k x = digs x
  | 0, x, h0, h1 => by
    have : x = 0 := by simp at h1; omega
    subst this; rfl
  | k + 1, x, h0, h1 => by
    simp only [numB]
    split
    · rename_i h; subst h; rfl
    · rw [numB_digs k (x / 256) (by omega) (by rw [Int.pow_succ] at h1; omega), ← digs_step x (by omega)]
theorem outB_eq (r : Rule) (x : Fld) (h : FldOk x) : outB r x = fldB r x := by
  unfold outB fldB
  rw [numB_digs 9 x.num h.1 (Int.lt_of_lt_of_le h.2.1 (by decide))]
theorem one_eq (r : Rule) (x : Fld) (hk : r.kind = 1 ∨ r.kind = 2) : one r x = fldE r x := by
  unfold one fldE odd val
  rcases hk with h | h <;> simp [h]
theorem encR_eq (rs : List Rule) (hrs : ∀ r ∈ rs, 0 < r.tag ∧ (r.kind = 1 ∨ r.kind = 2)) : ∀ (fs : List Fld) (k : Nat) (prev last : Int), (k = 0 → last = 0) → (0 < k → prev = last) → (∀ x ∈ fs, FldOk x) →
    encR rs k prev fs = encF rs last fs
  | [], _, _, _, _, _, _ => rfl
  | x :: fs, k, prev, last, h0, h1, hok => by
    have ih := encR_eq rs hrs fs (k + 1) x.tag x.tag (by omega) (fun _ => rfl) (fun y hy => hok y (by simp [hy]))
    have hc : (!ruleHas x.tag rs || (decide (0 < (k : Int)) && decide (x.tag ≤ prev))) = (!ruleHas x.tag rs || decide (x.tag ≤ last)) := by
      cases hr : ruleHas x.tag rs with
      | false => rfl
      | true =>
        obtain ⟨hm, ht⟩ := ruleAt_mem hr
        have hp := (hrs _ hm).1
        rw [ht] at hp
        by_cases hk : k = 0
        · have := h0 hk
          subst this; subst hk
          simp; omega
        · have := h1 (by omega)
          subst this
          simp; omega
    simp only [encR, encF]
    rw [hc]
    by_cases h2 : (!ruleHas x.tag rs || decide (x.tag ≤ last)) = true
    · rw [if_pos h2, if_pos h2]
    · rw [if_neg h2, if_neg h2]
      have hr : ruleHas x.tag rs = true := by
        cases hh : ruleHas x.tag rs with
        | true => rfl
        | false => rw [hh] at h2; simp at h2
      rw [one_eq _ x (hrs _ (ruleAt_mem hr).1).2, outB_eq _ x (hok x (by simp)), ih]
theorem missing_all (rs : List Rule) (fs : List Fld) : missing rs rs.length fs = lackF rs fs := by
  unfold missing lackF needs
  rw [List.take_length, List.any_map, List.any_filter]
  rfl
theorem encode_eq (rs : List Rule) (fs : List Fld) (hok : ∀ x ∈ fs, FldOk x) : encodeR rs fs = encode rs fs := by
  unfold encode encodeR
  rw [refCheck_eq, missing_all]
  by_cases hc : check rs = 0
  · have hk := (check_ok hc).2
    rw [if_pos hc, if_pos hc, encR_eq rs (fun r hr => ⟨(hk r hr).1, by rcases (hk r hr).2.2.2 with h | h; exact .inl h; exact .inr h.1⟩) fs 0 0 0 (fun _ => rfl) (fun h => rfl) hok]
  · rw [if_neg hc, if_neg hc]

/-! reading -/
theorem be_one (c : UInt8) : be [c] = c.toNat := by simp [be]
theorem be_two (c d : UInt8) : be [c, d] = c.toNat * 256 + d.toNat := by simp [be]
theorem get_read (r : Rule) (b : List UInt8) (hk : r.kind = 1 ∨ r.kind = 2) : (getV r b).2.2 = (readV r b).2.2 ∧ ((readV r b).2.2 = true → (getV r b).1 = (readV r b).1 ∧ (getV r b).2.1 = b.drop (readV r b).2.1.toNat) := by
  rcases hk with hk | hk
  · match b with
    | [] => unfold getV readV; simp [hk]
    | c :: tl =>
      have e1 : r.kind.toNat = 1 := by rw [hk]; rfl
      unfold getV readV
      rw [e1, if_pos hk, if_neg (by simp), show (c :: tl).take 1 = [c] from rfl, show (c :: tl).drop 1 = tl from rfl, be_one, show b0 (c :: tl) = c from rfl, show b1 (c :: tl) = (tl[0]?).getD 0 from rfl, if_neg (show ¬ r.kind = 2 from by omega)]
      simp only [List.length_cons]
      have g := u8_ge c
      by_cases h1 : (tl.length : Int) < c.toNat
      · rw [if_pos h1, if_pos (by omega)]; simp
      · rw [if_neg h1]
        by_cases h2 : (8 : Int) < c.toNat ∨ (0 < (c.toNat : Int) ∧ ((tl[0]?).getD 0).toNat = 0)
        · rw [if_pos h2, if_pos (by omega)]; simp
        · rw [if_neg h2, if_neg (by omega)]
          refine ⟨rfl, fun _ => ⟨rfl, ?_⟩⟩
          simp only [Int.toNat_natCast]
          rw [show ((1 : Int) + (c.toNat : Int)).toNat = c.toNat + 1 from by omega, List.drop_succ_cons]
  · have e1 : r.kind.toNat = 2 := by rw [hk]; rfl
    match b with
    | [] => unfold getV readV; simp [hk]
    | [c] => unfold getV readV; simp [hk]
    | c :: d :: tl =>
      unfold getV readV
      have g := u8_ge c
      have g2 := u8_ge d
      rw [e1, if_neg (show ¬ r.kind = 1 from by omega), if_pos hk, if_neg (show ¬ (c :: d :: tl).length < 2 from by simp), if_neg (show ¬ ((c :: d :: tl).length : Int) < 2 from by simp only [List.length_cons]; omega), show (c :: d :: tl).take 2 = [c, d] from rfl, show (c :: d :: tl).drop 2 = tl from rfl, be_two, show b0 (c :: d :: tl) = c from rfl, show b1 (c :: d :: tl) = d from rfl]
      simp only [List.length_cons]
      have ec : (256 : Int) * c.toNat + d.toNat = c.toNat * 256 + d.toNat := by omega
      have en : (2 + (256 * c.toNat + d.toNat) : Nat) = (c.toNat * 256 + d.toNat) + 2 := by omega
      rw [ec]
      by_cases h1 : (tl.length : Int) < c.toNat * 256 + d.toNat
      · rw [if_pos h1, if_pos (by omega)]; simp
      · rw [if_neg h1]
        by_cases h2 : within r (c.toNat * 256 + d.toNat) = false
        · rw [if_pos (.inl h2)]; simp [h2]
        · have h3 : within r (c.toNat * 256 + d.toNat) = true := by simpa using h2
          rw [if_neg (by simp only [h3]; simp; omega)]
          refine ⟨h3, fun _ => ⟨?_, ?_⟩⟩
          · simp only [Fld.mk.injEq, true_and]
            rw [show ((c.toNat : Int) * 256 + d.toNat).toNat = c.toNat * 256 + d.toNat from by omega, en, show (c.toNat * 256 + d.toNat) + 2 = (c.toNat * 256 + d.toNat + 1) + 1 from rfl, List.take_succ_cons, List.take_succ_cons]
            rfl
          · rw [show ((2 : Int) + ((c.toNat : Int) * 256 + d.toNat)).toNat = (c.toNat * 256 + d.toNat + 1) + 1 from by omega, show ((c.toNat : Int) * 256 + d.toNat).toNat = c.toNat * 256 + d.toNat from by omega, List.drop_succ_cons, List.drop_succ_cons]

/-! what is missing -/
theorem checkGo_asc : ∀ (rs : List Rule) (last : Int), 0 ≤ last → checkGo last rs = 0 → rs.Pairwise (fun a b => a.tag < b.tag)
  | [], _, _, _ => List.Pairwise.nil
  | r :: rs, last, h0, h => by
    have h1 := checkGo_ok (r :: rs) last h0 h
    have hr := h1 r (by simp)
    have h2 : checkGo r.tag rs = 0 := by
      simp only [checkGo] at h
      split at h
      · cases h
      · split at h
        · exact h
        · split at h
          · cases h
          · exact h
    exact List.Pairwise.cons (fun q hq => (checkGo_ok rs r.tag (by omega) h2 q hq).1) (checkGo_asc rs r.tag (by omega) h2)
theorem check_asc {rs : List Rule} (h : check rs = 0) : rs.Pairwise (fun a b => a.tag < b.tag) := by
  unfold check at h
  split at h
  · cases h
  · exact checkGo_asc rs 0 (by omega) h
def rem (rs : List Rule) (acc : List Fld) : List Int := (needs rs).filter (fun t => !fldHas t acc)
theorem rem_asc {rs : List Rule} (h : check rs = 0) (acc : List Fld) : (rem rs acc).Pairwise (· < ·) := by
  unfold rem needs
  exact List.Pairwise.filter _ (List.pairwise_map.2 (List.Pairwise.filter _ (check_asc h)))
theorem mem_rem (rs : List Rule) (acc : List Fld) (t : Int) : t ∈ rem rs acc ↔ ∃ r ∈ rs, r.must = true ∧ r.tag = t ∧ fldHas t acc = false := by
  unfold rem needs
  simp only [List.mem_filter, List.mem_map, Bool.not_eq_true']
  constructor
  · rintro ⟨⟨r, ⟨h1, h2⟩, h3⟩, h4⟩; exact ⟨r, h1, h2, h3, h4⟩
  · rintro ⟨r, h1, h2, h3, h4⟩; exact ⟨⟨r, ⟨h1, h2⟩, h3⟩, h4⟩
theorem rem_nil (rs : List Rule) : rem rs [] = needs rs := by
  unfold rem
  rw [List.filter_eq_self.2]
  intro t _
  rfl
theorem rem_lack (rs : List Rule) (acc : List Fld) : lackF rs acc = decide (0 < ((rem rs acc).length : Int)) := by
  unfold lackF rem
  rw [Bool.eq_iff_iff, List.any_eq_true, decide_eq_true_iff]
  constructor
  · rintro ⟨t, h1, h2⟩
    have : t ∈ (needs rs).filter (fun t => !fldHas t acc) := List.mem_filter.2 ⟨h1, h2⟩
    have := List.length_pos_of_mem this
    omega
  · intro h
    obtain ⟨t, ht⟩ := List.exists_mem_of_length_pos (by omega : 0 < ((needs rs).filter (fun t => !fldHas t acc)).length)
    obtain ⟨h1, h2⟩ := List.mem_filter.1 ht
    exact ⟨t, h1, h2⟩
theorem head_lt {l : List Int} (h : l.Pairwise (· < ·)) (c : Int) : (decide (0 < (l.length : Int)) && decide (l.headD 0 < c)) = true ↔ ∃ t ∈ l, t < c := by
  cases l with
  | nil => simp
  | cons t l =>
    simp only [List.length_cons, List.headD_cons, Bool.and_eq_true, decide_eq_true_eq]
    constructor
    · rintro ⟨_, h1⟩; exact ⟨t, by simp, of_decide_eq_true h1⟩
    · rintro ⟨s, hs, h1⟩
      refine ⟨by omega, ?_⟩
      rcases List.mem_cons.1 hs with rfl | hs
      · exact decide_eq_true h1
      · have := (List.pairwise_cons.1 h).1 s hs
        exact decide_eq_true (show t < c by omega)
theorem missing_at {rs : List Rule} (hc : check rs = 0) {c : Int} (hr : ruleHas c rs = true) (acc : List Fld) :
    missing rs (idxN c rs) acc = (decide (0 < ((rem rs acc).length : Int)) && decide ((rem rs acc).headD 0 < c)) := by
  obtain ⟨j, hj, h1, h2⟩ := idx_at hr
  have hn : idxN c rs = j := by unfold idxN; rw [h1]; rfl
  have ht : rs[j].tag = c := by rw [h2]; exact (ruleAt_mem hr).2
  have hasc := List.pairwise_iff_getElem.1 (check_asc hc)
  rw [Bool.eq_iff_iff, head_lt (rem_asc hc acc), hn]
  unfold missing
  rw [List.any_eq_true]
  constructor
  · rintro ⟨r, hm, hl⟩
    obtain ⟨i, hi, rfl⟩ := List.mem_iff_getElem.1 hm
    rw [List.length_take] at hi
    rw [List.getElem_take] at hl
    simp only [lacks, Bool.and_eq_true, Bool.not_eq_true'] at hl
    exact ⟨rs[i].tag, (mem_rem rs acc _).2 ⟨rs[i], List.getElem_mem _, hl.1, rfl, hl.2⟩, by have := hasc i j (by omega) hj (by omega); omega⟩
  · rintro ⟨t, hm, hlt⟩
    obtain ⟨r, h3, h4, rfl, h5⟩ := (mem_rem rs acc t).1 hm
    obtain ⟨i, hi, rfl⟩ := List.mem_iff_getElem.1 h3
    have hij : i < j := by
      rcases Nat.lt_trichotomy i j with h | h | h
      · exact h
      · subst h; omega
      · have := hasc j i hj hi h; omega
    exact ⟨rs[i], List.mem_iff_getElem.2 ⟨i, by rw [List.length_take]; omega, by rw [List.getElem_take]⟩, by simp [lacks, h4, h5]⟩
theorem fldHas_snoc (t : Int) (acc : List Fld) (x : Fld) : fldHas t (acc ++ [x]) = (fldHas t acc || decide (x.tag = t)) := by
  unfold fldHas
  rw [List.find?_append]
  cases h : acc.find? (fun x => decide (x.tag = t)) with
  | some y => simp
  | none =>
    by_cases hx : x.tag = t <;> simp [hx]
theorem rem_snoc {rs : List Rule} (hc : check rs = 0) (acc : List Fld) (x : Fld) (h : ¬ ∃ t ∈ rem rs acc, t < x.tag) :
    rem rs (acc ++ [x]) = if (decide (0 < ((rem rs acc).length : Int)) && decide ((rem rs acc).headD 0 = x.tag)) = true then (rem rs acc).tail else rem rs acc := by
  have e : rem rs (acc ++ [x]) = (rem rs acc).filter (fun t => !decide (x.tag = t)) := by
    unfold rem
    rw [List.filter_filter]
    congr 1
    funext t
    rw [fldHas_snoc]
    cases fldHas t acc <;> simp
  rw [e]
  have hasc := rem_asc hc acc
  generalize rem rs acc = ms at h hasc
  cases ms with
  | nil => rfl
  | cons t ts =>
    have h1 := (List.pairwise_cons.1 hasc).1
    have h2 : ¬ t < x.tag := fun hh => h ⟨t, by simp, hh⟩
    have h3 : ts.filter (fun s => !decide (x.tag = s)) = ts := by
      rw [List.filter_eq_self]
      intro s hs
      have := h1 s hs
      simp; omega
    by_cases ht : t = x.tag
    · rw [if_pos (by simp [ht]), List.filter_cons_of_neg (by simp [ht]), h3]
      rfl
    · rw [if_neg (by simp [ht]), List.filter_cons_of_pos (by simp; omega), h3]

/-! the two decodings -/
def fin (b : List UInt8) (acc : List Fld) (d : List Fld × List UInt8 × List Int) : List Fld × Int × Int :=
  if (decide ((0 : Int) < d.2.1.length) || decide ((0 : Int) < d.2.2.length)) = true then ([], (b.length : Int) - d.2.1.length, 11) else (acc ++ d.1, 0, 0)
theorem fin_nil (rs : List Rule) (b : List UInt8) (acc : List Fld) : finR rs b acc = fin b acc ([], [], rem rs acc) := by
  unfold finR fin
  rw [missing_all, rem_lack]
  simp
theorem fin_stop (b : List UInt8) (acc : List Fld) (k : Nat) (c : UInt8) (tl : List UInt8) (ms : List Int) (h : b.drop k = c :: tl) : fin b acc ([], c :: tl, ms) = ([], (k : Int), 11) := by
  have hl : (b.drop k).length = tl.length + 1 := by rw [h]; rfl
  rw [List.length_drop] at hl
  unfold fin
  rw [if_pos (by simp)]
  simp only [List.length_cons, Prod.mk.injEq, true_and, and_true]
  omega
theorem dec_eq {rs : List Rule} (hc : check rs = 0) (b : List UInt8) : ∀ (n k : Nat) (last : Int) (acc : List Fld), b.length ≤ n + k → decR rs b n last acc k = fin b acc (decF rs n (rem rs acc) last (b.drop k))
  | 0, k, last, acc, h => by
    rw [List.drop_eq_nil_of_le (by omega), decF_nil, ← fin_nil]
    rfl
  | n + 1, k, last, acc, h => by
    by_cases hk : b.length ≤ k
    · rw [List.drop_eq_nil_of_le hk, decF_nil, ← fin_nil, decR_end _ _ _ _ _ _ hk]
    · have hlt : k < b.length := by omega
      have hd := List.drop_eq_getElem_cons hlt
      have hb : b[k]? = some b[k] := List.getElem?_eq_getElem hlt
      generalize b[k] = c at hd hb
      rw [decR_step rs b n last acc k c hb, hd]
      simp only [decF]
      by_cases hr : ruleHas c.toNat rs = true
      · have ht := (ruleAt_mem hr).2
        have hkd := (check_ok hc).2 _ (ruleAt_mem hr).1
        rw [ht, missing_at hc hr acc]
        by_cases h1 : ((!ruleHas (c.toNat : Int) rs || decide ((c.toNat : Int) ≤ last)) || (decide (0 < ((rem rs acc).length : Int)) && decide ((rem rs acc).headD 0 < (c.toNat : Int)))) = true
        · rw [if_pos h1, if_pos h1, fin_stop b acc k c _ _ hd]
        · rw [if_neg h1, if_neg h1]
          obtain ⟨g1, g2⟩ := get_read (ruleAt c.toNat rs) (b.drop (k + 1)) (by rcases hkd.2.2.2 with h | h; exact .inl h; exact .inr h.1)
          rw [g1]
          by_cases h2 : (readV (ruleAt c.toNat rs) (b.drop (k + 1))).2.2 = true
          · obtain ⟨g3, g4⟩ := g2 h2
            have hnn := (readV_len _ _ h2).1
            rw [if_neg (by simp [h2]), if_neg (by simp [h2]), readV_tag, ht, g3, g4, List.drop_drop]
            have hle : ¬ ∃ t ∈ rem rs acc, t < (c.toNat : Int) := fun hh => by
              have := (head_lt (rem_asc hc acc) (c.toNat : Int)).2 hh
              rw [this] at h1
              simp at h1
            have hs := rem_snoc hc acc (readV (ruleAt c.toNat rs) (b.drop (k + 1))).1 (by rw [readV_tag, ht]; exact hle)
            rw [readV_tag, ht] at hs
            rw [dec_eq hc b n _ _ _ (by omega), ← hs]
            unfold fin
            simp only [List.append_assoc, List.singleton_append]
          · rw [if_pos (by simpa using h2), if_pos (by simpa using h2), fin_stop b acc k c _ _ hd]
      · have hr' : ruleHas (c.toNat : Int) rs = false := by simpa using hr
        rw [if_pos (by simp [hr']), if_pos (by simp [hr']), fin_stop b acc k c _ _ hd]
theorem decode_eq (rs : List Rule) (b : List UInt8) : decodeR rs b = decode rs b := by
  unfold decode decodeR
  rw [refCheck_eq]
  by_cases hc : check rs = 0
  · rw [if_pos hc, if_pos hc, dec_eq hc b b.length 0 0 [] (by omega), rem_nil]
    rfl
  · rw [if_neg hc, if_neg hc]



/-! bytes -/
def BytL (l : List Int) : Prop := ∀ y ∈ l, 0 ≤ y ∧ y < 256
theorem BytL.app {l m : List Int} (h : BytL l) (h2 : BytL m) : BytL (l ++ m) := fun y hy => by
  rcases List.mem_append.1 hy with h' | h'
  · exact h y h'
  · exact h2 y h'
theorem BytL.cons {x : Int} {l : List Int} (h0 : 0 ≤ x) (h1 : x < 256) (h : BytL l) : BytL (x :: l) := fun y hy => by
  rcases List.mem_cons.1 hy with rfl | h'
  · exact ⟨h0, h1⟩
  · exact h y h'
theorem low_byt (x : Int) : ∀ n, BytL (low x n)
  | 0 => fun y hy => by simp [low] at hy
  | n + 1 => BytL.cons (Int.emod_nonneg _ (by omega)) (Int.emod_lt_of_pos _ (by omega)) (low_byt x n)
theorem digs_byt (x : Int) : BytL (digs x) := low_byt x _
theorem textI_byt (l : List UInt8) : BytL (textI l) := fun y hy => by
  obtain ⟨c, _, rfl⟩ := List.mem_map.1 hy
  exact ⟨u8_ge c, u8_lt c⟩
def fldG (r : Rule) (x : Fld) : List Int := if r.kind = 1 then ((digs x.num).length : Int) :: digs x.num else ((x.txt.length : Int) / 256) :: ((x.txt.length : Int) % 256) :: textI x.txt
theorem fldB_G (r : Rule) (x : Fld) : fldB r x = x.tag :: fldG r x := by
  unfold fldB fldG
  split <;> rfl
theorem fldG_byt (r : Rule) (x : Fld) (h : FldOk x) : BytL (fldG r x) := by
  have h1 := digs_len x.num h.1 h.2.1
  have h2 := h.2.2
  unfold fldG
  split
  · exact BytL.cons (by omega) (by omega) (digs_byt _)
  · exact BytL.cons (by omega) (by omega) (BytL.cons (by omega) (by omega) (textI_byt _))
theorem encF_byt {rs : List Rule} (hrs : ∀ r ∈ rs, 0 < r.tag ∧ r.tag ≤ 63) : ∀ (fs : List Fld) (last : Int), (∀ x ∈ fs, FldOk x) → BytL (encF rs last fs).2
  | [], _, _ => fun y hy => by simp [encF] at hy
  | x :: fs, last, h => by
    simp only [encF]
    split
    · intro y hy; simp at hy
    · rename_i h1
      split
      · have hr : ruleHas x.tag rs = true := by
          cases hh : ruleHas x.tag rs with
          | true => rfl
          | false => rw [hh] at h1; simp at h1
        obtain ⟨hm, ht⟩ := ruleAt_mem hr
        have hb := hrs _ hm
        rw [ht] at hb
        rw [fldB_G]
        exact (BytL.cons (by omega) (by omega) (fldG_byt _ x (h x (by simp)))).app (encF_byt hrs fs x.tag (fun y hy => h y (by simp [hy])))
      · intro y hy; simp at hy
theorem encode_byt (rs : List Rule) (fs : List Fld) (h : ∀ x ∈ fs, FldOk x) : BytL (encode rs fs).1 := by
  have hnil : BytL [] := fun y hy => by simp at hy
  unfold encode
  split
  · rename_i hc
    have hk := (check_ok hc).2
    split
    · exact hnil
    · split
      · split
        · exact hnil
        · exact encF_byt (fun r hr => ⟨(hk r hr).1, (hk r hr).2.1⟩) fs 0 h
      · exact hnil
  · exact hnil
theorem byt_text (l : List UInt8) : (textI l).map byt = l := by
  unfold textI
  rw [List.map_map]
  conv => rhs; rw [← List.map_id l]
  apply List.map_congr_left
  intro c _
  exact byt_of c
def encBy (rs : List Rule) (fs : List Fld) : List UInt8 := (encode rs fs).1.map byt
theorem textI_app (a b : List UInt8) : textI (a ++ b) = textI a ++ textI b := List.map_append
/-! numbers -/
theorem digs_be (l : List UInt8) (hl : l ≠ [] → 0 < (l.headD 0).toNat) : ∀ k, k ≤ l.length → (1 ≤ k → 0 < be (l.take k)) ∧ digs (be (l.take k)) = textI (l.take k)
  | 0, _ => ⟨by omega, by rw [List.take_zero]; rfl⟩
  | k + 1, h => by
    obtain ⟨h1, h2⟩ := digs_be l hl k (by omega)
    have hb := be_take l k (by omega)
    have hc := u8_lt l[k]
    have hc0 := u8_ge l[k]
    have hpos : 0 < be (l.take (k + 1)) := by
      rw [hb]
      by_cases hk : k = 0
      · subst hk
        have := hl (by intro e; rw [e] at h; simp at h)
        have e : l.headD 0 = l[0] := by
          cases l with
          | nil => simp at h
          | cons c l => rfl
        rw [e] at this
        simp only [List.take_zero]
        have e0 : be [] = 0 := rfl
        omega
      · have := h1 (by omega)
        omega
    refine ⟨fun _ => hpos, ?_⟩
    rw [digs_step _ hpos, hb, show (be (l.take k) * 256 + (l[k].toNat : Int)) / 256 = be (l.take k) from by omega, show (be (l.take k) * 256 + (l[k].toNat : Int)) % 256 = l[k].toNat from by omega, h2, List.take_succ_eq_append_getElem (by omega), textI_app]
    rfl
theorem digs_be' (l : List UInt8) (hl : l ≠ [] → 0 < (l.headD 0).toNat) : digs (be l) = textI l := by
  have := (digs_be l hl l.length (Nat.le_refl _)).2
  rwa [List.take_length] at this
theorem be_digs : ∀ (k : Nat) (x : Int), 0 ≤ x → x < 256 ^ k → be ((digs x).map byt) = x ∧ (0 < x → digs x ≠ [] ∧ 0 < (((digs x).map byt).headD 0).toNat)
  | 0, x, h0, h1 => by
    have : x = 0 := by simp at h1; omega
    subst this
    exact ⟨rfl, fun h => absurd h (by omega)⟩
  | k + 1, x, h0, h1 => by
    by_cases hx : x = 0
    · subst hx; exact ⟨rfl, fun h => absurd h (by omega)⟩
    · obtain ⟨h2, h3⟩ := be_digs k (x / 256) (by omega) (by rw [Int.pow_succ] at h1; omega)
      have hm := byt_toNat (x % 256) (by omega) (by omega)
      rw [digs_step x (by omega), List.map_append, List.map_singleton, be_snoc, h2, hm]
      refine ⟨by omega, fun _ => ⟨by simp, ?_⟩⟩
      by_cases hq : x / 256 = 0
      · rw [hq, digs_zero]
        show 0 < (byt (x % 256)).toNat
        omega
      · obtain ⟨h4, h5⟩ := h3 (by omega)
        cases hd : digs (x / 256) with
        | nil => exact absurd hd h4
        | cons a l => rw [hd] at h5; exact h5

/-! a field, read and written -/
theorem be_lt8 (l : List UInt8) (h : l.length ≤ 8) : be l < 18446744073709551616 := be_lt' l 8 h
theorem getV_one (r : Rule) (c : UInt8) (tl : List UInt8) (hk : r.kind = 1) : getV r (c :: tl) = if (tl.length : Int) < c.toNat then (⟨r.tag, 0, []⟩, [], false) else
    if 8 < (c.toNat : Int) ∨ (0 < (c.toNat : Int) ∧ ((tl[0]?).getD 0).toNat = 0) then (⟨r.tag, 0, []⟩, [], false) else (⟨r.tag, be (tl.take c.toNat), []⟩, tl.drop c.toNat, within r (be (tl.take c.toNat))) := by
  have e1 : r.kind.toNat = 1 := by rw [hk]; rfl
  unfold getV
  rw [e1, if_neg (show ¬ (c :: tl).length < 1 from by simp), show (c :: tl).take 1 = [c] from rfl, show (c :: tl).drop 1 = tl from rfl, be_one, if_neg (show ¬ r.kind = 2 from by omega)]
  simp only [Int.toNat_natCast]
theorem getV_two (r : Rule) (c d : UInt8) (tl : List UInt8) (hk : r.kind = 2) : getV r (c :: d :: tl) = if (tl.length : Int) < c.toNat * 256 + d.toNat then (⟨r.tag, 0, []⟩, [], false) else
    (⟨r.tag, 0, tl.take (c.toNat * 256 + d.toNat)⟩, tl.drop (c.toNat * 256 + d.toNat), within r (c.toNat * 256 + d.toNat)) := by
  have e1 : r.kind.toNat = 2 := by rw [hk]; rfl
  unfold getV
  rw [e1, if_neg (show ¬ (c :: d :: tl).length < 2 from by simp), show (c :: d :: tl).take 2 = [c, d] from rfl, show (c :: d :: tl).drop 2 = tl from rfl, be_two, if_pos hk]
  have e2 : ((c.toNat : Int) * 256 + d.toNat).toNat = c.toNat * 256 + d.toNat := by omega
  rw [e2]
theorem textI_cons (c : UInt8) (l : List UInt8) : textI (c :: l) = (c.toNat : Int) :: textI l := rfl
theorem getV_A (r : Rule) (b : List UInt8) (hk : r.kind = 1 ∨ (r.kind = 2 ∧ r.high ≤ 400)) (h : (getV r b).2.2 = true) :
    FldOk (getV r b).1 ∧ fldE r (getV r b).1 = 0 ∧ textI b = fldG r (getV r b).1 ++ textI (getV r b).2.1 := by
  rcases hk with hk | ⟨hk, hh⟩
  · match b with
    | [] => unfold getV at h; simp [hk] at h
    | c :: tl =>
      rw [getV_one r c tl hk] at h ⊢
      by_cases h1 : (tl.length : Int) < c.toNat
      · rw [if_pos h1] at h; cases h
      · rw [if_neg h1] at h ⊢
        by_cases h2 : 8 < (c.toNat : Int) ∨ (0 < (c.toNat : Int) ∧ ((tl[0]?).getD 0).toNat = 0)
        · rw [if_pos h2] at h; cases h
        · rw [if_neg h2] at h ⊢
          simp only at h ⊢
          have hl : (tl.take c.toNat).length = c.toNat := by rw [List.length_take]; omega
          have hc : digs (be (tl.take c.toNat)) = textI (tl.take c.toNat) := digs_be' _ (fun hne => by
            cases tl with
            | nil => simp at hne
            | cons e tl =>
              cases hn : c.toNat with
              | zero => rw [hn] at hne; simp at hne
              | succ n =>
                show 0 < e.toNat
                have : (((e :: tl)[0]?).getD 0).toNat = e.toNat := rfl
                omega)
          refine ⟨⟨be_nn _, be_lt8 _ (by omega), by simp⟩, ?_, ?_⟩
          · unfold fldE; rw [if_pos hk, if_neg (by simp), if_neg (by simp [h])]
          · unfold fldG
            rw [if_pos hk]
            simp only [hc, textI_len, hl]
            rw [textI_cons, List.cons_append, ← textI_app, List.take_append_drop]
  · match b with
    | [] => unfold getV at h; simp [hk] at h
    | [c] => unfold getV at h; simp [hk] at h
    | c :: d :: tl =>
      rw [getV_two r c d tl hk] at h ⊢
      have gc := u8_lt c
      have gd := u8_lt d
      by_cases h1 : (tl.length : Int) < c.toNat * 256 + d.toNat
      · rw [if_pos h1] at h; cases h
      · rw [if_neg h1] at h ⊢
        simp only at h ⊢
        have hl : (tl.take (c.toNat * 256 + d.toNat)).length = c.toNat * 256 + d.toNat := by rw [List.length_take]; omega
        have hw : (c.toNat * 256 + d.toNat : Int) ≤ r.high := by simp only [within, Bool.and_eq_true, decide_eq_true_eq] at h; exact h.2
        refine ⟨⟨by simp, by simp, by simp only [hl]; omega⟩, ?_, ?_⟩
        · unfold fldE
          rw [if_neg (by omega)]
          simp only [hl]
          rw [if_neg (by simp), if_neg (by simp [h])]
        · unfold fldG
          rw [if_neg (by omega)]
          simp only [hl]
          rw [textI_cons, textI_cons, List.cons_append, List.cons_append, ← textI_app, List.take_append_drop]
          congr 1
          · omega
          · congr 1; omega
theorem fldE_kind (r : Rule) (x : Fld) (h : fldE r x = 0) : (r.kind = 1 → x.txt = [] ∧ within r x.num = true) ∧ (r.kind ≠ 1 → x.num = 0 ∧ within r x.txt.length = true) := by
  unfold fldE at h
  constructor
  · intro hk
    rw [if_pos hk] at h
    split at h
    · cases h
    · rename_i h1
      split at h
      · cases h
      · rename_i h2; exact ⟨by simpa using h1, by simpa using h2⟩
  · intro hk
    rw [if_neg hk] at h
    split at h
    · cases h
    · rename_i h1
      split at h
      · cases h
      · rename_i h2; exact ⟨by simpa using h1, by simpa using h2⟩
theorem getV_B (r : Rule) (x : Fld) (rest : List UInt8) (hk : r.kind = 1 ∨ r.kind = 2) (hx : FldOk x) (ht : x.tag = r.tag) (he : fldE r x = 0) : getV r ((fldG r x).map byt ++ rest) = (x, rest, true) := by
  obtain ⟨k1, k2⟩ := fldE_kind r x he
  obtain ⟨tag, num, txt⟩ := x
  obtain ⟨hn0, hn1, hxl⟩ := hx
  simp only at *
  subst ht
  rcases hk with hk | hk
  · obtain ⟨rfl, hw⟩ := k1 hk
    have hd := digs_len num hn0 hn1
    have hlen := byt_toNat ((digs num).length : Int) (by omega) (by omega)
    obtain ⟨hbe, hhd⟩ := be_digs 8 num hn0 (Int.lt_of_lt_of_le hn1 (by decide))
    unfold fldG
    rw [if_pos hk]
    simp only [List.map_cons, List.cons_append]
    have hN : (byt ((digs num).length : Int)).toNat = ((digs num).map byt).length := by rw [List.length_map]; omega
    rw [getV_one r _ _ hk, hN, if_neg (by simp only [List.length_append]; omega), List.take_left, List.drop_left, hbe, hw, if_neg ?_]
    rw [List.length_map]
    by_cases h0 : 0 < num
    · obtain ⟨h3, h4⟩ := hhd h0
      cases hdd : digs num with
      | nil => exact absurd hdd h3
      | cons a l =>
        rw [hdd] at h4 hd
        have h5 : (((((a :: l).map byt ++ rest)[0]?).getD 0).toNat) = (((a :: l).map byt).headD 0).toNat := rfl
        rw [h5]
        omega
    · have : num = 0 := by omega
      subst this
      rw [digs_zero]
      simp
  · obtain ⟨rfl, hw⟩ := k2 (by omega)
    unfold fldG
    rw [if_neg (by omega)]
    simp only [List.map_cons, List.cons_append]
    have h1 := byt_toNat ((txt.length : Int) / 256) (by omega) (by omega)
    have h2 := byt_toNat ((txt.length : Int) % 256) (by omega) (by omega)
    have hN : (byt ((txt.length : Int) / 256)).toNat * 256 + (byt ((txt.length : Int) % 256)).toNat = txt.length := by omega
    have hI : ((byt ((txt.length : Int) / 256)).toNat : Int) * 256 + (byt ((txt.length : Int) % 256)).toNat = txt.length := by omega
    rw [getV_two r _ _ _ hk, hI, hN, byt_text, if_neg (by simp only [List.length_append]; omega), List.take_left, List.drop_left, hw]



theorem ruleHas_kind {rs : List Rule} (hc : check rs = 0) {t : Int} (h : ruleHas t rs = true) :
    (ruleAt t rs).tag = t ∧ 0 < t ∧ t ≤ 63 ∧ ((ruleAt t rs).kind = 1 ∨ ((ruleAt t rs).kind = 2 ∧ (ruleAt t rs).high ≤ 400)) := by
  obtain ⟨hm, ht⟩ := ruleAt_mem h
  have := (check_ok hc).2 _ hm
  rw [ht] at this
  exact ⟨ht, this.1, this.2.1, this.2.2.2⟩
theorem ruleHas_kind' {rs : List Rule} (hc : check rs = 0) {t : Int} (h : ruleHas t rs = true) : (ruleAt t rs).kind = 1 ∨ (ruleAt t rs).kind = 2 := by
  rcases (ruleHas_kind hc h).2.2.2 with h | h
  · exact .inl h
  · exact .inr h.1

/-- one round of the decoding -/
theorem decF_cons (rs : List Rule) (n : Nat) (ms : List Int) (last : Int) (c : UInt8) (tl : List UInt8) :
    (decF rs (n + 1) ms last (c :: tl) = ([], c :: tl, ms)) ∨
    (ruleHas c.toNat rs = true ∧ last < (c.toNat : Int) ∧ ¬ ((decide ((0 : Int) < ms.length) && decide (ms.headD 0 < (c.toNat : Int))) = true) ∧ (getV (ruleAt c.toNat rs) tl).2.2 = true ∧
      decF rs (n + 1) ms last (c :: tl) = ((getV (ruleAt c.toNat rs) tl).1 :: (decF rs n (if (decide ((0 : Int) < ms.length) && decide (ms.headD 0 = (c.toNat : Int))) = true then ms.tail else ms) c.toNat (getV (ruleAt c.toNat rs) tl).2.1).1,
        (decF rs n (if (decide ((0 : Int) < ms.length) && decide (ms.headD 0 = (c.toNat : Int))) = true then ms.tail else ms) c.toNat (getV (ruleAt c.toNat rs) tl).2.1).2)) := by
  have e : decF rs (n + 1) ms last (c :: tl) = if ((!ruleHas c.toNat rs || decide ((c.toNat : Int) ≤ last)) || (decide ((0 : Int) < ms.length) && decide (ms.headD 0 < (c.toNat : Int)))) = true then ([], c :: tl, ms)
    else if (!(getV (ruleAt c.toNat rs) tl).2.2) = true then ([], c :: tl, ms)
    else ((getV (ruleAt c.toNat rs) tl).1 :: (decF rs n (if (decide ((0 : Int) < ms.length) && decide (ms.headD 0 = (c.toNat : Int))) = true then ms.tail else ms) c.toNat (getV (ruleAt c.toNat rs) tl).2.1).1, (decF rs n (if (decide ((0 : Int) < ms.length) && decide (ms.headD 0 = (c.toNat : Int))) = true then ms.tail else ms) c.toNat (getV (ruleAt c.toNat rs) tl).2.1).2) := by
    rw [decF]
  rw [e]
  by_cases h1 : ((!ruleHas c.toNat rs || decide ((c.toNat : Int) ≤ last)) || (decide ((0 : Int) < ms.length) && decide (ms.headD 0 < (c.toNat : Int)))) = true
  · rw [if_pos h1]; exact .inl rfl
  · rw [if_neg h1]
    by_cases h2 : (!(getV (ruleAt c.toNat rs) tl).2.2) = true
    · rw [if_pos h2]; exact .inl rfl
    · rw [if_neg h2]
      rw [Bool.not_eq_true, Bool.or_eq_false_iff, Bool.or_eq_false_iff] at h1
      refine .inr ⟨by simpa using h1.1.1, by simpa using h1.1.2, by rw [h1.2]; simp, by simpa using h2, rfl⟩

/-- what is read is written to the same bytes -/
theorem decF_C {rs : List Rule} (hc : check rs = 0) : ∀ (n : Nat) (last : Int) (acc : List Fld) (b : List UInt8),
    (encF rs last (decF rs n (rem rs acc) last b).1).1 = 0 ∧ textI b = (encF rs last (decF rs n (rem rs acc) last b).1).2 ++ textI (decF rs n (rem rs acc) last b).2.1 ∧
    (∀ x ∈ (decF rs n (rem rs acc) last b).1, FldOk x) ∧ (decF rs n (rem rs acc) last b).2.2 = rem rs (acc ++ (decF rs n (rem rs acc) last b).1)
  | n, last, acc, [] => by
    rw [decF_nil]
    exact ⟨rfl, rfl, by simp, by simp⟩
  | 0, last, acc, c :: tl => by
    have e : decF rs 0 (rem rs acc) last (c :: tl) = ([], c :: tl, rem rs acc) := rfl
    rw [e]
    exact ⟨rfl, rfl, by simp, by simp⟩
  | n + 1, last, acc, c :: tl => by
    rcases decF_cons rs n (rem rs acc) last c tl with e | ⟨h1, h2, h3, h4, e⟩
    · rw [e]
      exact ⟨rfl, rfl, by simp, by simp⟩
    · obtain ⟨ht, _, _, hk⟩ := ruleHas_kind hc h1
      obtain ⟨g1, g2, g3⟩ := getV_A (ruleAt c.toNat rs) tl hk h4
      have gt := getV_tag (ruleAt c.toNat rs) tl
      rw [ht] at gt
      have hle : ¬ ∃ t ∈ rem rs acc, t < (getV (ruleAt c.toNat rs) tl).1.tag := fun hh => h3 (by rw [gt] at hh; exact (head_lt (rem_asc hc acc) (c.toNat : Int)).2 hh)
      have hs := rem_snoc hc acc (getV (ruleAt c.toNat rs) tl).1 hle
      rw [gt] at hs
      rw [← hs] at e
      obtain ⟨i1, i2, i3, i4⟩ := decF_C hc n c.toNat (acc ++ [(getV (ruleAt c.toNat rs) tl).1]) (getV (ruleAt c.toNat rs) tl).2.1
      rw [e]
      generalize decF rs n (rem rs (acc ++ [(getV (ruleAt c.toNat rs) tl).1])) c.toNat (getV (ruleAt c.toNat rs) tl).2.1 = d at i1 i2 i3 i4
      generalize (getV (ruleAt c.toNat rs) tl).2.1 = rest at g3 i2
      generalize (getV (ruleAt c.toNat rs) tl).1 = x at *
      have e1 : encF rs last (x :: d.1) = ((encF rs c.toNat d.1).1, fldB (ruleAt c.toNat rs) x ++ (encF rs c.toNat d.1).2) := by
        simp only [encF]
        rw [gt, if_neg (by simp [h1]; omega), if_pos g2]
      rw [e1]
      refine ⟨i1, ?_, ?_, ?_⟩
      · rw [fldB_G, gt, textI_cons, g3, i2]
        simp
      · intro y hy
        rcases List.mem_cons.1 hy with rfl | hy
        · exact g1
        · exact i3 y hy
      · rw [i4]; simp

/-- the fields of a message ascend -/
theorem encF_asc {rs : List Rule} : ∀ (fs : List Fld) (last : Int), (encF rs last fs).1 = 0 → (fs.map Fld.tag).Pairwise (· < ·) ∧ ∀ x ∈ fs, last < x.tag ∧ ruleHas x.tag rs = true
  | [], _, _ => ⟨List.Pairwise.nil, by simp⟩
  | x :: fs, last, h => by
    simp only [encF] at h
    split at h
    · cases h
    · rename_i h1
      rw [Bool.not_eq_true, Bool.or_eq_false_iff] at h1
      have h2 : ruleHas x.tag rs = true := by simpa using h1.1
      have h3 : last < x.tag := by simpa using h1.2
      split at h
      · obtain ⟨i1, i2⟩ := encF_asc fs x.tag h
        refine ⟨?_, fun y hy => ?_⟩
        · simp only [List.map_cons, List.pairwise_cons]
          refine ⟨fun t ht => ?_, i1⟩
          obtain ⟨y, hy, rfl⟩ := List.mem_map.1 ht
          exact (i2 y hy).1
        · rcases List.mem_cons.1 hy with rfl | hy
          · exact ⟨h3, h2⟩
          · have := i2 y hy
            exact ⟨by omega, this.2⟩
      · rename_i h4; exact absurd h h4
theorem asc_len : ∀ (m l : List Int), m.Pairwise (· < ·) → l.Pairwise (· < ·) → (∀ t ∈ l, t ∈ m) → l.length ≤ m.length
  | [], l, _, _, h => by
    cases l with
    | nil => simp
    | cons a l => exact absurd (h a (by simp)) (by simp)
  | t :: m, [], _, _, _ => by simp
  | t :: m, s :: l, hm, hl, h => by
    have hm' := List.pairwise_cons.1 hm
    have hl' := List.pairwise_cons.1 hl
    have hs : t ≤ s := by
      rcases List.mem_cons.1 (h s (by simp)) with h1 | h1
      · omega
      · have := hm'.1 s h1; omega
    have hsub : ∀ u ∈ l, u ∈ m := fun u hu => by
      have h1 := hl'.1 u hu
      rcases List.mem_cons.1 (h u (by simp [hu])) with h2 | h2
      · omega
      · exact h2
    have := asc_len m l hm'.2 hl'.2 hsub
    simp only [List.length_cons]
    omega
theorem encF_len {rs : List Rule} (hc : check rs = 0) (fs : List Fld) (last : Int) (h : (encF rs last fs).1 = 0) : fs.length ≤ 16 := by
  obtain ⟨h1, h2⟩ := encF_asc fs last h
  have h3 := asc_len (rs.map Rule.tag) (fs.map Fld.tag) (List.pairwise_map.2 (check_asc hc)) h1 (fun t ht => by
    obtain ⟨x, hx, rfl⟩ := List.mem_map.1 ht
    obtain ⟨hm, ht'⟩ := ruleAt_mem (h2 x hx).2
    exact List.mem_map.2 ⟨_, hm, ht'⟩)
  rw [List.length_map, List.length_map] at h3
  have := (check_ok hc).1
  omega

/-- the answers of Decode -/
theorem decode_cases (rs : List Rule) (b : List UInt8) : (check rs ≠ 0 ∧ decode rs b = ([], 0, check rs)) ∨ (check rs = 0 ∧ ∃ at' : Int, 0 ≤ at' ∧ at' ≤ b.length ∧ decode rs b = ([], at', 11)) ∨
    (check rs = 0 ∧ ∃ l, decode rs b = (l, 0, 0) ∧ decF rs b.length (needs rs) 0 b = (l, [], [])) := by
  by_cases hc : check rs = 0
  · right
    unfold decode
    rw [if_pos hc]
    obtain ⟨_, h2, _, _⟩ := decF_C hc b.length 0 [] b
    rw [rem_nil] at h2
    have hl := congrArg List.length h2
    rw [List.length_append, textI_len, textI_len] at hl
    split
    · exact .inl ⟨hc, _, by omega, by omega, rfl⟩
    · rename_i h
      refine .inr ⟨hc, _, rfl, ?_⟩
      rw [Bool.not_eq_true, Bool.or_eq_false_iff] at h
      have h3 : (decF rs b.length (needs rs) 0 b).2.1 = [] := List.eq_nil_of_length_eq_zero (by have := of_decide_eq_false h.1; omega)
      have h4 : (decF rs b.length (needs rs) 0 b).2.2 = [] := List.eq_nil_of_length_eq_zero (by have := of_decide_eq_false h.2; omega)
      generalize decF rs b.length (needs rs) 0 b = d at h3 h4 ⊢
      obtain ⟨d1, d2, d3⟩ := d
      simp only at h3 h4
      subst h3; subst h4
      rfl
  · left
    exact ⟨hc, by unfold decode; rw [if_neg hc]⟩
theorem one_law {rs : List Rule} {b : List UInt8} {l : List Fld} (hc : check rs = 0) (h : decF rs b.length (needs rs) 0 b = (l, [], [])) :
    (∀ x ∈ l, FldOk x) ∧ l.length ≤ 16 ∧ encode rs l = (textI b, 0) := by
  obtain ⟨h1, h2, h3, h4⟩ := decF_C hc b.length 0 [] b
  rw [rem_nil, h] at h1 h2 h3 h4
  simp only [List.nil_append] at h1 h2 h3 h4
  have hl := encF_len hc l 0 h1
  refine ⟨h3, hl, ?_⟩
  have hlack : lackF rs l = false := by rw [rem_lack, ← h4]; rfl
  unfold encode
  rw [if_pos hc, if_neg (by omega), if_pos h1, if_neg (by rw [hlack]; simp), h2]
  simp [textI]
/-- the answers of Encode -/
theorem encode_ok {rs : List Rule} {fs : List Fld} (h : (encode rs fs).2 = 0) : check rs = 0 ∧ (encF rs 0 fs).1 = 0 ∧ rem rs fs = [] ∧ (encode rs fs).1 = (encF rs 0 fs).2 := by
  unfold encode at h ⊢
  split at h
  · rename_i hc
    rw [if_pos hc]
    split at h
    · cases h
    · rename_i h1
      rw [if_neg h1]
      split at h
      · rename_i h2
        rw [if_pos h2]
        split at h
        · cases h
        · rename_i h3
          rw [if_neg h3]
          refine ⟨hc, h2, ?_, rfl⟩
          rw [rem_lack] at h3
          exact List.eq_nil_of_length_eq_zero (by have := of_decide_eq_false (Bool.not_eq_true _ ▸ h3); omega)
      · rename_i h2; exact absurd h h2
  · rename_i hc; exact absurd h hc
theorem encode_err {rs : List Rule} {fs : List Fld} (h : (encode rs fs).2 ≠ 0) : (encode rs fs).1 = [] := by
  unfold encode at h ⊢
  split
  · split
    · rfl
    · split
      · split
        · rfl
        · rename_i hc h1 h2 h3
          rw [if_pos hc, if_neg h1, if_pos h2, if_neg h3] at h
          exact absurd rfl h
      · rfl
  · rfl
theorem byt_back (t : Int) (h0 : 0 ≤ t) (h1 : t < 256) : ((byt t).toNat : Int) = t := byt_toNat t h0 h1
theorem fldHas_of {t : Int} {fs : List Fld} (h : fldHas t fs = true) : ∃ x ∈ fs, x.tag = t := by
  unfold fldHas at h
  obtain ⟨x, hx⟩ := Option.isSome_iff_exists.1 h
  exact ⟨x, List.mem_of_find?_eq_some hx, by simpa using List.find?_some hx⟩
theorem fldHas_app (t : Int) (a b : List Fld) : fldHas t (a ++ b) = (fldHas t a || fldHas t b) := by
  unfold fldHas
  rw [List.find?_append]
  cases a.find? (fun x => decide (x.tag = t)) <;> simp
/-- nothing is missing ahead of the next field -/
theorem rem_ahead {rs : List Rule} {acc : List Fld} {x : Fld} {fs : List Fld} (hr : rem rs (acc ++ x :: fs) = []) (hx : ∀ y ∈ fs, x.tag < y.tag) : ¬ ∃ t ∈ rem rs acc, t < x.tag := by
  rintro ⟨t, ht, hlt⟩
  obtain ⟨r, h1, h2, h3, h4⟩ := (mem_rem rs acc t).1 ht
  have : t ∈ rem rs (acc ++ x :: fs) := (mem_rem rs _ t).2 ⟨r, h1, h2, h3, by
    rw [fldHas_app, h4, Bool.false_or]
    cases hh : fldHas t (x :: fs) with
    | false => rfl
    | true =>
      obtain ⟨y, hy, he⟩ := fldHas_of hh
      rcases List.mem_cons.1 hy with rfl | hy
      · omega
      · have := hx y hy; omega⟩
  rw [hr] at this
  simp at this
/-- what is written is read -/
theorem decF_D {rs : List Rule} (hc : check rs = 0) : ∀ (fs : List Fld) (n : Nat) (last : Int) (acc : List Fld), fs.length ≤ n → (encF rs last fs).1 = 0 → (∀ x ∈ fs, FldOk x) → rem rs (acc ++ fs) = [] →
    decF rs n (rem rs acc) last ((encF rs last fs).2.map byt) = (fs, [], [])
  | [], n, last, acc, _, _, _, hr => by
    rw [List.append_nil] at hr
    rw [hr]
    exact decF_nil rs n [] last
  | x :: fs, 0, _, _, h, _, _, _ => by simp at h
  | x :: fs, n + 1, last, acc, hn, he, hok, hr => by
    have hasc := encF_asc (x :: fs) last he
    have hx := hasc.2 x (by simp)
    have hk := ruleHas_kind hc hx.2
    have hxx := List.pairwise_cons.1 (show (x.tag :: fs.map Fld.tag).Pairwise (· < ·) from hasc.1)
    have e0 : encF rs last (x :: fs) = if fldE (ruleAt x.tag rs) x = 0 then ((encF rs x.tag fs).1, fldB (ruleAt x.tag rs) x ++ (encF rs x.tag fs).2) else (fldE (ruleAt x.tag rs) x, []) := by
      rw [encF, if_neg (by simp [hx.2]; omega)]
    rw [e0] at he ⊢
    by_cases hf : fldE (ruleAt x.tag rs) x = 0
    · rw [if_pos hf] at he ⊢
      simp only at he ⊢
      rw [fldB_G, List.cons_append, List.map_cons, List.map_append]
      have hb := byt_back x.tag (by omega) (by omega)
      have hB := getV_B (ruleAt x.tag rs) x ((encF rs x.tag fs).2.map byt) (ruleHas_kind' hc hx.2) (hok x (by simp)) hk.1.symm hf
      have hahead := rem_ahead hr (fun y hy => hxx.1 y.tag (List.mem_map.2 ⟨y, hy, rfl⟩))
      have hs := rem_snoc hc acc x hahead
      have hlt : ¬ ((decide ((0 : Int) < (rem rs acc).length) && decide ((rem rs acc).headD 0 < x.tag)) = true) := fun hh => hahead ((head_lt (rem_asc hc acc) x.tag).1 hh)
      rw [decF, hb, hB, if_neg (by rw [hx.2]; simp only [Bool.not_true, Bool.false_or, Bool.or_eq_true]; rintro (h | h); · simp at h; omega
                                   · exact hlt h)]
      simp only [Bool.not_true, Bool.false_eq_true, if_false]
      rw [← hs, decF_D hc fs n x.tag (acc ++ [x]) (by simp at hn; omega) he (fun y hy => hok y (by simp [hy])) (by simpa using hr)]
    · rw [if_neg hf] at he; exact absurd he hf
theorem encF_count {rs : List Rule} : ∀ (fs : List Fld) (last : Int), (encF rs last fs).1 = 0 → fs.length ≤ (encF rs last fs).2.length
  | [], _, _ => by simp
  | x :: fs, last, h => by
    simp only [encF] at h ⊢
    split at h
    · cases h
    · rename_i h1
      rw [if_neg h1]
      split at h
      · rename_i h2
        rw [if_pos h2]
        have := encF_count fs x.tag h
        rw [fldB_G]
        simp only [List.length_cons, List.length_append]
        omega
      · rename_i h2; exact absurd h h2
theorem round_law {rs : List Rule} {fs : List Fld} (hok : ∀ x ∈ fs, FldOk x) (h : (encode rs fs).2 = 0) : decode rs (encBy rs fs) = (fs, 0, 0) := by
  obtain ⟨hc, h1, h2, h3⟩ := encode_ok h
  have hb : encBy rs fs = (encF rs 0 fs).2.map byt := by unfold encBy; rw [h3]
  have hd := decF_D hc fs (encBy rs fs).length 0 [] (by rw [hb, List.length_map]; exact encF_count fs 0 h1) h1 hok (by simpa using h2)
  rw [rem_nil, ← hb] at hd
  unfold decode
  rw [if_pos hc, hd]
  rfl
/-! beginnings of messages; rules that allow less -/
/-! rules that allow less -/
/-! what the laws take -/
theorem decode_len (rs : List Rule) (b : List UInt8) : (decode rs b).1.length ≤ 16 := by
  rcases decode_cases rs b with ⟨_, h⟩ | ⟨_, _, _, _, h⟩ | ⟨hc, l, h, hd⟩
  · rw [h]; simp
  · rw [h]; simp
  · rw [h]; exact (one_law hc hd).2.1
theorem decodeR_P' (rs : List Rule) (b : List UInt8) (hrs : rs.length ≤ 100) (hb : b.length ≤ 10000) : PC Tryz.prog 44 [.sv (.sl 5 (rs.map Rule.c)), .sv (.sl 1 (bytesC b))] (.tup [.sv (.sl 3 ((decode rs b).1.map Fld.c)), .i (decode rs b).2.1, .i (decode rs b).2.2]) := by
  rw [← decode_eq]; exact decodeR_P rs b hrs hb
theorem encode_PB (rs : List Rule) (fs : List Fld) (hrs : rs.length ≤ 100) (hfs : fs.length ≤ 100) (hok : ∀ x ∈ fs, FldOk x) : PC Tryz.prog 37 [.sv (.sl 5 (rs.map Rule.c)), .sv (.sl 3 (fs.map Fld.c))] (.tup [.sv (.sl 1 (bytesC (encBy rs fs))), .i (encode rs fs).2]) := by
  have h := encode_P rs fs hrs hfs hok
  rw [ic_byt _ (encode_byt rs fs hok)] at h
  exact h
theorem encodeR_PB (rs : List Rule) (fs : List Fld) (hrs : rs.length ≤ 100) (hfs : fs.length ≤ 100) (hok : ∀ x ∈ fs, FldOk x) : PC Tryz.prog 38 [.sv (.sl 5 (rs.map Rule.c)), .sv (.sl 3 (fs.map Fld.c))] (.tup [.sv (.sl 1 (bytesC (encBy rs fs))), .i (encode rs fs).2]) := by
  have h := encodeR_P rs fs hrs hfs hok
  rw [encode_eq rs fs hok, ic_byt _ (encode_byt rs fs hok)] at h
  exact h
theorem fldB_len500 (r : Rule) (x : Fld) (hx : FldOk x) (h : x.txt.length ≤ 500) : (fldB r x).length ≤ 503 := by
  have h1 := digs_len x.num hx.1 hx.2.1
  unfold fldB
  split <;> simp [textI_len] <;> omega
theorem encF_len500 {rs : List Rule} : ∀ (fs : List Fld) (last : Int), (∀ x ∈ fs, FldOk x ∧ x.txt.length ≤ 500) → (encF rs last fs).2.length ≤ 503 * fs.length
  | [], _, _ => by simp [encF]
  | x :: fs, last, h => by
    simp only [encF]
    split
    · simp
    · split
      · have h1 := fldB_len500 (ruleAt x.tag rs) x (h x (by simp)).1 (h x (by simp)).2
        have h2 := encF_len500 (rs := rs) fs x.tag (fun y hy => h y (by simp [hy]))
        simp only [List.length_append, List.length_cons]
        omega
      · simp
theorem encBy_len {rs : List Rule} {l : List Fld} (h : ∀ x ∈ l, FldOk x ∧ x.txt.length ≤ 500) : (encBy rs l).length ≤ 8048 := by
  unfold encBy
  rw [List.length_map]
  by_cases he : (encode rs l).2 = 0
  · obtain ⟨hc, h1, _, h3⟩ := encode_ok he
    rw [h3]
    have := encF_len500 (rs := rs) l 0 h
    have := encF_len hc l 0 h1
    omega
  · rw [encode_err he]; simp
theorem one_enc {rs : List Rule} {b : List UInt8} {l : List Fld} (h : encode rs l = (textI b, 0)) : encBy rs l = b := by
  unfold encBy; rw [h]; exact byt_text b
theorem one_fact {rs : List Rule} {b : List UInt8} (h : (decode rs b).2.2 = 0) : ∃ l, decode rs b = (l, 0, 0) ∧ (∀ x ∈ l, FldOk x) ∧ l.length ≤ 16 ∧ encode rs l = (textI b, 0) := by
  rcases decode_cases rs b with ⟨h1, h2⟩ | ⟨_, _, _, _, h2⟩ | ⟨hc, l, h2, hd⟩
  · rw [h2] at h; exact absurd h h1
  · rw [h2] at h; cases h
  · exact ⟨l, h2, one_law hc hd⟩
end Go.Proofs.YtckbomkcnmcdaaaGreatDoor
