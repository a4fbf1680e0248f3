/- requests: what is read from the fields of a line; Parse. -/
import Derived.Test.YtckbomkcnmcdaaaGreatDoorRD
set_option linter.unusedSimpArgs false
set_option linter.unusedVariables false
namespace Go.Proofs.YtckbomkcnmcdaaaGreatDoor

/-- the fields of a message that the fields of a line say -/
def readGo : List Rule → List Fd → List Fld → List Fld × Bool
  | [], _, acc => (acc, true)
  | _ :: _, [], _ => ([], false)
  | x :: rs, f :: fs, acc => if (!decide (f.q = decide (x.kind = 2))) = true then ([], false) else if x.kind = 2 then readGo rs fs (acc ++ [⟨x.tag, 0, f.s⟩]) else
      if (!decide ((intW f.s x.low x.high).2 = 0)) = true then ([], false) else readGo rs fs (acc ++ [⟨x.tag, (intW f.s x.low x.high).1, []⟩])
def readQ (rs : List Rule) (fs : List Fd) : List Fld × Bool := if (!decide ((fs.length : Int) = rs.length)) = true then ([], false) else readGo rs fs []
theorem intW_in {s : List UInt8} {lo hi : Int} (h : (intW s lo hi).2 = 0) : lo ≤ (intW s lo hi).1 ∧ (intW s lo hi).1 ≤ hi ∧ decC s = true ∧ (intW s lo hi).1 = decV s := by
  unfold intW at h ⊢
  split at h
  · cases h
  · rename_i h1
    rw [if_neg h1]
    split at h
    · cases h
    · rename_i h2
      rw [if_neg h2]
      dsimp only
      refine ⟨by omega, by omega, by simpa using h1, rfl⟩
/-- rules whose numbers are numbers of 63 bits -/
def Low63 (rs : List Rule) : Prop := ∀ x ∈ rs, 0 ≤ x.low ∧ x.low < 9223372036854775808 ∧ 0 ≤ x.high ∧ x.high < 9223372036854775808

theorem readQ_P (rs : List Rule) (fs : List Fd) (hr : Low63 rs) (hrl : rs.length ≤ 100) (hf : fs.length ≤ 10000) (hfl : ∀ f ∈ fs, f.s.length ≤ 100000) : PC Tryz.prog 52 [.sv (.sl 5 (rs.map Rule.c)), .sv (.sl 2 (fs.map Fd.c))] (.tup [.sv (.sl 3 ((readQ rs fs).1.map Fld.c)), .b (readQ rs fs).2]) := by
 refine ⟨LC.of_go Tryz.func52 (c := _) rfl (by kernel_rfl) (by rw [Tryz.ntmps52]; simp) rfl rfl (by simp [LO.lt, LV.lts, LV.lt]) (by simp) ?_⟩
 intro B hA hmd
 obtain ⟨g, e0⟩ : ∃ g, readQ rs fs = g := ⟨_, rfl⟩
 have e1 := e0
 unfold readQ at e1
 rw [e0]
 refine .seq ?_
 refine .region rfl ?_
 refine R.assign (h := ?_)
 refine R.assign (h := ?_)
 refine .n0 ?_
 refine .seq ?_
 refine .seq ?_
 refine .region rfl ?_
 refine R.move (h := ?_)
 first | refine R.len S85 (h := ?_) | refine R.lenRs S85 (h := ?_) | refine R.lenV (run_lenNil S85) (h := ?_)
 rw [List.length_map]
 refine R.move (h := ?_)
 first | refine R.len S22 (h := ?_) | refine R.lenRs S22 (h := ?_) | refine R.lenV (run_lenNil S22) (h := ?_)
 rw [List.length_map]
 refine R.bin (run_neq _ _ _ _ _ _) (h := ?_)
 refine .n0 ?_
 refine LGo.ifb (ht := fun hc => ?_) (hf := fun hc => ?_)
 ·
  rw [if_pos hc] at e1; rw [← e1]
  refine .seq ?_
  refine .region rfl ?_
  refine R.assign (h := ?_)
  refine R.assign (h := ?_)
  refine .n0 ?_
  first | refine LGo.frzT 4 (h := ?_) | refine LGo.nilSl 4 3 (h := ?_) | skip
  exact LGo.ret (ret_TT Tryz.results52 hA hmd)
 ·
  rw [if_neg (by rw [hc]; simp)] at e1
  have hle : fs.length = rs.length := by simp at hc; omega
  refine .skip ?_
  refine .seq ?_
  refine .region rfl ?_
  refine R.assign (h := ?_)
  refine .n0 ?_
  refine .seq ?_
  refine .seq ?_
  refine .region rfl ?_
  refine R.move (h := ?_)
  first | refine R.len S22 (h := ?_) | refine R.lenRs S22 (h := ?_) | refine R.lenV (run_lenNil S22) (h := ?_)
  rw [List.length_map]
  refine R.move (h := ?_)
  refine .n0 ?_
  refine .block ?_
  refine .loop ?_
  refine LGo.nilRs 6 78 3 (h := ?_)
  refine LGo.loopG (σ := Nat × List Fld) (fun x => x.1 ≤ rs.length ∧ x.2.length ≤ x.1 ∧ readGo (rs.drop x.1) (fs.drop x.1) x.2 = g) (fun x => [(19, (true, .i (x.1 : Nat))), (6, (true, .ref 0))]) (fun x => [(0, .rs 78 3 (x.2.map Fld.c))]) (fun x => rs.length - x.1) (0, []) [(1, _), (17, _), (18, _)] ⟨Nat.zero_le _, Nat.zero_le _, e1⟩ (by repeat (first | exact trivial | refine ⟨rfl, ?_⟩)) (by repeat (first | exact trivial | refine ⟨rfl, ?_⟩)) (by repeat (first | exact trivial | refine ⟨rfl, ?_⟩)) ?_
  rintro ⟨k, acc⟩ ⟨hk, hal, hq⟩ ih
  dsimp only at * 
  refine .seq ?_
  refine .region rfl ?_
  refine R.bin (run_lss _ _ _ _ _ _) (h := ?_)
  refine .n0 ?_
  refine .seq ?_
  refine LGo.ifd (ht := fun hc2 => ?_) (hf := fun hc2 => ?_)
  ·
   have hlt : k < rs.length := by omega
   have hlt2 : k < fs.length := by omega
   have hx : (rs.map Rule.c)[((k : Nat) : Int).toNat]? = some rs[k].c := by simp [hlt]
   have hy : (fs.map Fd.c)[((k : Nat) : Int).toNat]? = some fs[k].c := by simp [hlt2]
   have hd : rs.drop k = rs[k] :: rs.drop (k + 1) := List.drop_eq_getElem_cons hlt
   have hd2 : fs.drop k = fs[k] :: fs.drop (k + 1) := List.drop_eq_getElem_cons hlt2
   have hx63 := hr rs[k] (List.getElem_mem hlt)
   have hfs := hfl fs[k] (List.getElem_mem hlt2)
   rw [hd, hd2, readGo] at hq
   generalize rs[k] = x at hx hq hx63
   generalize fs[k] = f at hy hq hfs
   clear hd hd2
   refine .skip ?_
   refine .seq ?_
   refine .block ?_
   refine .seq ?_
   refine .region rfl ?_
   refine R.move (h := ?_)
   refine R.index I22 (hj := fun hg => ⟨by omega, hx⟩) (h := ?_)
   first | refine R.loadA A30 (h := ?_) | refine R.loadN A30 (h := ?_) | refine R.loadP A30 (h := ?_)
   refine R.alloc Z30 (h := ?_)
   refine R.assign (h := ?_)
   refine R.storeA A30 (h := ?_)
   refine .n0 ?_
   refine .seq ?_
   refine .region rfl ?_
   first | refine R.field F30_0 (h := ?_) | refine R.fieldAt F30_0 (h := ?_)
   first | refine R.loadB O3 (h := ?_) | refine R.load1 O3 (h := ?_)
   refine R.build BF78 (is := [0]) (xs := [_]) (es := [_]) (h := ?_)
   refine R.alloc Z78 (h := ?_)
   refine R.storeA A78 (h := ?_)
   refine .n0 ?_
   refine .seq ?_
   refine .seq ?_
   refine .region rfl ?_
   refine R.move (h := ?_)
   refine R.move (h := ?_)
   refine R.index I85 (hj := fun hg => ⟨by omega, hy⟩) (h := ?_)
   first | refine R.field F89_1 (h := ?_) | refine R.fieldAt F89_1 (h := ?_)
   first | refine R.loadB O4 (h := ?_) | refine R.load1 O4 (h := ?_)
   first | refine R.field F30_1 (h := ?_) | refine R.fieldAt F30_1 (h := ?_)
   first | refine R.loadB O3 (h := ?_) | refine R.load1 O3 (h := ?_)
   refine R.bin (run_eql _ _ _ _ _ _) (h := ?_)
   refine R.bin (run_neqB Tryz.underlying4 _ _ _ _) (h := ?_)
   refine Reg.nil ⟨fun _ => ⟨mixedO, by rfl, by rfl⟩, ?_⟩
   refine LGo.ifb (ht := fun hc3 => ?_) (hf := fun hc3 => ?_)
   ·
    rw [if_pos hc3] at hq; rw [← hq]
    refine .seq ?_
    refine .region rfl ?_
    refine R.assign (h := ?_)
    refine R.assign (h := ?_)
    refine .n0 ?_
    first | refine LGo.frzT 4 (h := ?_) | refine LGo.nilSl 4 3 (h := ?_) | skip
    exact LGo.ret (ret_TT Tryz.results52 hA hmd)
   ·
    rw [if_neg (by rw [hc3]; simp)] at hq
    refine .skip ?_
    refine .seq ?_
    refine .seq ?_
    refine .region rfl ?_
    first | refine R.field F30_1 (h := ?_) | refine R.fieldAt F30_1 (h := ?_)
    first | refine R.loadB O3 (h := ?_) | refine R.load1 O3 (h := ?_)
    refine R.bin (run_eql _ _ _ _ _ _) (h := ?_)
    refine .n0 ?_
    refine LGo.ifd (ht := fun hc4 => ?_) (hf := fun hc4 => ?_)
    ·
     rw [if_pos hc4] at hq
     obtain ⟨fx, hfx⟩ : ∃ fx : Fld, fx = ⟨x.tag, 0, f.s⟩ := ⟨_, rfl⟩
     rw [← hfx] at hq
     refine .region rfl ?_
     refine R.move (h := ?_)
     refine R.move (h := ?_)
     refine R.index I85 (hj := fun hg => ⟨by omega, hy⟩) (h := ?_)
     first | refine R.field F89_0 (h := ?_) | refine R.fieldAt F89_0 (h := ?_)
     first | refine R.loadB O9 (h := ?_) | refine R.load1 O9 (h := ?_)
     first | refine R.field F78_2 (h := ?_) | refine R.fieldAt F78_2 (h := ?_)
     refine R.storeB O9 (h := ?_)
     refine .n0 ?_
     refine .region rfl ?_
     refine R.move (h := ?_)
     first | refine R.loadA A78 (h := ?_) | refine R.loadN A78 (h := ?_) | refine R.loadP A78 (h := ?_)
     refine R.buildSliceG AP66 (xs := [_]) (es := [_]) (hcs := CellsOfs.cons (CellsOf.agg rfl) CellsOfs.nil) (h := ?_)
     refine R.appendS AP66 (hs := SrcOk.sl Tryz.underlying66 (by simp; rfl)) (hlen := by simp; omega) (h := ?_)
     refine R.assign (h := ?_)
     refine .n0 ?_
     refine .inBlock ?_
     refine .region rfl ?_
     first | refine R.add (h := ?_) | refine R.addW (h := ?_)
     refine R.move (h := ?_)
     refine .n0 ?_
     refine .inLoop ?_
     exact LGo.turn [3] (b := 0) (fun o h => by have := (hA o).1 h; omega) (ih (k + 1, acc ++ [fx]) ⟨by dsimp only; omega, by dsimp only; rw [List.length_append, List.length_cons, List.length_nil]; omega, hq⟩ (by dsimp only; omega)) (by repeat (first | exact trivial | refine ⟨rfl, ?_⟩)) ⟨by rw [List.map_append, hfx]; rfl, trivial⟩
    ·
     rw [if_neg hc4] at hq
     refine .seq ?_
     refine .region rfl ?_
     refine R.move (h := ?_)
     refine R.move (h := ?_)
     refine R.index I85 (hj := fun hg => ⟨by omega, hy⟩) (h := ?_)
     first | refine R.field F89_0 (h := ?_) | refine R.fieldAt F89_0 (h := ?_)
     first | refine R.loadB O9 (h := ?_) | refine R.load1 O9 (h := ?_)
     first | refine R.field F30_2 (h := ?_) | refine R.fieldAt F30_2 (h := ?_)
     first | refine R.loadB O28 (h := ?_) | refine R.load1 O28 (h := ?_)
     refine R.convI Tryz.runUnderlying28 Tryz.runUnderlying2 (h := ?_)
     first | refine R.field F30_3 (h := ?_) | refine R.fieldAt F30_3 (h := ?_)
     first | refine R.loadB O28 (h := ?_) | refine R.load1 O28 (h := ?_)
     refine R.convI Tryz.runUnderlying28 Tryz.runUnderlying2 (h := ?_)
     refine R.callP (es := [_, _, _]) (fun _ => int_P f.s x.low x.high hfs) (h := ?_)
     refine R.move (h := ?_)
     refine R.extract (h := ?_)
     refine R.extract (h := ?_)
     refine R.assign (h := ?_)
     refine R.assign (h := ?_)
     refine Reg.nil ⟨fun _ => ⟨mixedO, by rfl, by rfl⟩, ?_⟩
     refine .seq ?_
     refine .seq ?_
     refine .region rfl ?_
     refine R.move (h := ?_)
     refine R.bin (run_neq _ _ _ _ _ _) (h := ?_)
     refine .n0 ?_
     refine LGo.ifb (ht := fun hc5 => ?_) (hf := fun hc5 => ?_)
     ·
      rw [if_pos hc5] at hq; rw [← hq]
      refine .seq ?_
      refine .region rfl ?_
      refine R.assign (h := ?_)
      refine R.assign (h := ?_)
      refine .n0 ?_
      first | refine LGo.frzT 4 (h := ?_) | refine LGo.nilSl 4 3 (h := ?_) | skip
      exact LGo.ret (ret_TT Tryz.results52 hA hmd)
     ·
      rw [if_neg (by rw [hc5]; simp)] at hq
      have hin := intW_in (s := f.s) (lo := x.low) (hi := x.high) (by simpa using hc5)
      obtain ⟨fx, hfx⟩ : ∃ fx : Fld, fx = ⟨x.tag, (intW f.s x.low x.high).1, []⟩ := ⟨_, rfl⟩
      rw [← hfx] at hq
      refine .skip ?_
      refine .region rfl ?_
      refine R.move (h := ?_)
      refine R.convI Tryz.runUnderlying2 Tryz.runUnderlying28 (h := ?_)
      first | refine R.field F78_1 (h := ?_) | refine R.fieldAt F78_1 (h := ?_)
      refine R.storeB O28 (h := ?_)
      refine .n0 ?_
      refine .region rfl ?_
      refine R.move (h := ?_)
      first | refine R.loadA A78 (h := ?_) | refine R.loadN A78 (h := ?_) | refine R.loadP A78 (h := ?_)
      refine R.buildSliceG AP66 (xs := [_]) (es := [_]) (hcs := CellsOfs.cons (CellsOf.agg rfl) CellsOfs.nil) (h := ?_)
      refine R.appendS AP66 (hs := SrcOk.sl Tryz.underlying66 (by simp; rfl)) (hlen := by simp; omega) (h := ?_)
      refine R.assign (h := ?_)
      refine .n0 ?_
      refine .inBlock ?_
      refine .region rfl ?_
      first | refine R.add (h := ?_) | refine R.addW (h := ?_)
      refine R.move (h := ?_)
      refine .n0 ?_
      refine .inLoop ?_
      exact LGo.turn [3] (b := 0) (fun o h => by have := (hA o).1 h; omega) (ih (k + 1, acc ++ [fx]) ⟨by dsimp only; omega, by dsimp only; rw [List.length_append, List.length_cons, List.length_nil]; omega, hq⟩ (by dsimp only; omega)) (by repeat (first | exact trivial | refine ⟨rfl, ?_⟩)) ⟨by rw [List.map_append, hfx]; rfl, trivial⟩
  ·
   rw [List.drop_eq_nil_of_le (show rs.length ≤ k by omega), readGo] at hq
   rw [← hq]
   refine .exit rfl ?_
   refine .seq ?_
   refine .region rfl ?_
   refine R.move (h := ?_)
   refine R.assign (h := ?_)
   refine R.assign (h := ?_)
   refine .n0 ?_
   first | refine LGo.frzT 4 (h := ?_) | refine LGo.nilSl 4 3 (h := ?_) | skip
   exact LGo.ret (ret_TT Tryz.results52 hA hmd)

end Go.Proofs.YtckbomkcnmcdaaaGreatDoor
