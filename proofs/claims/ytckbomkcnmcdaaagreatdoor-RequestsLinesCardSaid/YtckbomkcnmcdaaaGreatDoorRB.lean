/- requests, the reference: a field into a request; Needs, message, Encode, Decode. -/
import Derived.Test.YtckbomkcnmcdaaaGreatDoorRA
set_option linter.unusedSimpArgs false
set_option linter.unusedVariables false
namespace Go.Proofs.YtckbomkcnmcdaaaGreatDoor

theorem withQ_P (r : Rq) (f : Fld) : PC Tryz.prog 45 [.agg (r.c.map LV.sv), .agg (f.c.map LV.sv)] (.agg ((putQ r f).c.map LV.sv)) := by
 refine ⟨LC.of_go Tryz.func45 (c := _) rfl (by kernel_rfl) (by rw [Tryz.ntmps45]; simp) rfl rfl (by simp [LO.lt, LV.lts, LV.lt]) (by simp) ?_⟩
 intro B hA hmd
 obtain ⟨g, e0⟩ : ∃ g, putQ r f = g := ⟨_, rfl⟩
 have e1 := e0
 unfold putQ at e1
 rw [e0]
 refine .seq ?_
 refine .region rfl ?_
 refine R.box (h := ?_)
 refine R.box (h := ?_)
 refine R.alloc Z35 (h := ?_)
 refine .n0 ?_
 refine .seq ?_
 refine .seq ?_
 refine .region rfl ?_
 first | refine R.field F78_0 (h := ?_) | refine R.fieldAt F78_0 (h := ?_)
 first | refine R.loadB O3 (h := ?_) | refine R.load1 O3 (h := ?_)
 refine .n0 ?_
 refine .block ?_
 refine .seq ?_
 refine .region rfl ?_
 refine R.bin (run_eql _ _ _ _ _ _) (h := ?_)
 refine R.assign (h := ?_)
 refine .n0 ?_
 refine LGo.ifd (ht := fun hc => ?_) (hf := fun hc => ?_)
 ·
  rw [if_pos hc] at e1; rw [← e1]
  refine .region rfl ?_
  first | refine R.field F78_1 (h := ?_) | refine R.fieldAt F78_1 (h := ?_)
  first | refine R.loadB O28 (h := ?_) | refine R.load1 O28 (h := ?_)
  first | refine R.field F35_1 (h := ?_) | refine R.fieldAt F35_1 (h := ?_)
  refine R.storeB O28 (h := ?_)
  refine .n0 ?_
  refine .inBlock ?_
  refine .seq ?_
  refine .region rfl ?_
  first | refine R.loadA A35 (h := ?_) | refine R.loadN A35 (h := ?_) | refine R.loadP A35 (h := ?_)
  refine R.storeA A35 (h := ?_)
  refine .n0 ?_
  exact LGo.ret (ret_A Tryz.results45 A35 hA hmd)
 ·
  rw [if_neg hc] at e1
  refine .seq ?_
  refine .region rfl ?_
  refine R.bin (run_eql _ _ _ _ _ _) (h := ?_)
  refine R.assign (h := ?_)
  refine .n0 ?_
  refine LGo.ifd (ht := fun hc2 => ?_) (hf := fun hc2 => ?_)
  ·
   rw [if_pos hc2] at e1; rw [← e1]
   refine .region rfl ?_
   first | refine R.field F78_1 (h := ?_) | refine R.fieldAt F78_1 (h := ?_)
   first | refine R.loadB O28 (h := ?_) | refine R.load1 O28 (h := ?_)
   refine R.convW Tryz.runUnderlying28 Tryz.runUnderlying33 (h := ?_)
   first | refine R.field F35_2 (h := ?_) | refine R.fieldAt F35_2 (h := ?_)
   refine R.storeB O33 (h := ?_)
   refine .n0 ?_
   refine .inBlock ?_
   refine .seq ?_
   refine .region rfl ?_
   first | refine R.loadA A35 (h := ?_) | refine R.loadN A35 (h := ?_) | refine R.loadP A35 (h := ?_)
   refine R.storeA A35 (h := ?_)
   refine .n0 ?_
   exact LGo.ret (ret_A Tryz.results45 A35 hA hmd)
  ·
   rw [if_neg hc2] at e1
   refine .seq ?_
   refine .region rfl ?_
   refine R.bin (run_eql _ _ _ _ _ _) (h := ?_)
   refine R.assign (h := ?_)
   refine .n0 ?_
   refine LGo.ifd (ht := fun hc3 => ?_) (hf := fun hc3 => ?_)
   ·
    rw [if_pos hc3] at e1; rw [← e1]
    refine .region rfl ?_
    first | refine R.field F78_2 (h := ?_) | refine R.fieldAt F78_2 (h := ?_)
    first | refine R.loadB O9 (h := ?_) | refine R.load1 O9 (h := ?_)
    first | refine R.field F35_4 (h := ?_) | refine R.fieldAt F35_4 (h := ?_)
    refine R.storeB O9 (h := ?_)
    refine .n0 ?_
    refine .inBlock ?_
    refine .seq ?_
    refine .region rfl ?_
    first | refine R.loadA A35 (h := ?_) | refine R.loadN A35 (h := ?_) | refine R.loadP A35 (h := ?_)
    refine R.storeA A35 (h := ?_)
    refine .n0 ?_
    exact LGo.ret (ret_A Tryz.results45 A35 hA hmd)
   ·
    rw [if_neg hc3] at e1
    refine .seq ?_
    refine .region rfl ?_
    refine R.bin (run_eql _ _ _ _ _ _) (h := ?_)
    refine R.assign (h := ?_)
    refine .n0 ?_
    refine LGo.ifd (ht := fun hc4 => ?_) (hf := fun hc4 => ?_)
    ·
     rw [if_pos hc4] at e1; rw [← e1]
     refine .region rfl ?_
     first | refine R.field F78_2 (h := ?_) | refine R.fieldAt F78_2 (h := ?_)
     first | refine R.loadB O9 (h := ?_) | refine R.load1 O9 (h := ?_)
     first | refine R.field F35_5 (h := ?_) | refine R.fieldAt F35_5 (h := ?_)
     refine R.storeB O9 (h := ?_)
     refine .n0 ?_
     refine .inBlock ?_
     refine .seq ?_
     refine .region rfl ?_
     first | refine R.loadA A35 (h := ?_) | refine R.loadN A35 (h := ?_) | refine R.loadP A35 (h := ?_)
     refine R.storeA A35 (h := ?_)
     refine .n0 ?_
     exact LGo.ret (ret_A Tryz.results45 A35 hA hmd)
    ·
     rw [if_neg hc4] at e1
     refine .seq ?_
     refine .region rfl ?_
     refine R.bin (run_eql _ _ _ _ _ _) (h := ?_)
     refine R.assign (h := ?_)
     refine .n0 ?_
     refine LGo.ifd (ht := fun hc5 => ?_) (hf := fun hc5 => ?_)
     ·
      rw [if_pos hc5] at e1; rw [← e1]
      refine .region rfl ?_
      first | refine R.field F78_1 (h := ?_) | refine R.fieldAt F78_1 (h := ?_)
      first | refine R.loadB O28 (h := ?_) | refine R.load1 O28 (h := ?_)
      refine R.convW Tryz.runUnderlying28 Tryz.runUnderlying3 (h := ?_)
      first | refine R.field F35_6 (h := ?_) | refine R.fieldAt F35_6 (h := ?_)
      refine R.storeB O3 (h := ?_)
      refine .n0 ?_
      refine .inBlock ?_
      refine .seq ?_
      refine .region rfl ?_
      first | refine R.loadA A35 (h := ?_) | refine R.loadN A35 (h := ?_) | refine R.loadP A35 (h := ?_)
      refine R.storeA A35 (h := ?_)
      refine .n0 ?_
      exact LGo.ret (ret_A Tryz.results45 A35 hA hmd)
     ·
      rw [if_neg hc5] at e1
      refine .seq ?_
      refine .region rfl ?_
      refine R.bin (run_eql _ _ _ _ _ _) (h := ?_)
      refine R.assign (h := ?_)
      refine .n0 ?_
      refine LGo.ifd (ht := fun hc6 => ?_) (hf := fun hc6 => ?_)
      ·
       rw [if_pos hc6] at e1; rw [← e1]
       refine .region rfl ?_
       first | refine R.field F78_1 (h := ?_) | refine R.fieldAt F78_1 (h := ?_)
       first | refine R.loadB O28 (h := ?_) | refine R.load1 O28 (h := ?_)
       refine R.convW Tryz.runUnderlying28 Tryz.runUnderlying3 (h := ?_)
       first | refine R.field F35_7 (h := ?_) | refine R.fieldAt F35_7 (h := ?_)
       refine R.storeB O3 (h := ?_)
       refine .n0 ?_
       refine .inBlock ?_
       refine .seq ?_
       refine .region rfl ?_
       first | refine R.loadA A35 (h := ?_) | refine R.loadN A35 (h := ?_) | refine R.loadP A35 (h := ?_)
       refine R.storeA A35 (h := ?_)
       refine .n0 ?_
       exact LGo.ret (ret_A Tryz.results45 A35 hA hmd)
      ·
       rw [if_neg hc6] at e1
       refine .seq ?_
       refine .region rfl ?_
       refine R.bin (run_eql _ _ _ _ _ _) (h := ?_)
       refine R.assign (h := ?_)
       refine .n0 ?_
       refine LGo.ifd (ht := fun hc7 => ?_) (hf := fun hc7 => ?_)
       ·
        rw [if_pos hc7] at e1; rw [← e1]
        refine .region rfl ?_
        first | refine R.field F78_1 (h := ?_) | refine R.fieldAt F78_1 (h := ?_)
        first | refine R.loadB O28 (h := ?_) | refine R.load1 O28 (h := ?_)
        refine R.convW Tryz.runUnderlying28 Tryz.runUnderlying3 (h := ?_)
        first | refine R.field F35_8 (h := ?_) | refine R.fieldAt F35_8 (h := ?_)
        refine R.storeB O3 (h := ?_)
        refine .n0 ?_
        refine .inBlock ?_
        refine .seq ?_
        refine .region rfl ?_
        first | refine R.loadA A35 (h := ?_) | refine R.loadN A35 (h := ?_) | refine R.loadP A35 (h := ?_)
        refine R.storeA A35 (h := ?_)
        refine .n0 ?_
        exact LGo.ret (ret_A Tryz.results45 A35 hA hmd)
       ·
        rw [if_neg hc7] at e1
        refine .seq ?_
        refine .region rfl ?_
        refine R.bin (run_eql _ _ _ _ _ _) (h := ?_)
        refine R.assign (h := ?_)
        refine .n0 ?_
        refine LGo.ifd (ht := fun hc8 => ?_) (hf := fun hc8 => ?_)
        ·
         rw [if_pos hc8] at e1; rw [← e1]
         refine .region rfl ?_
         first | refine R.field F78_1 (h := ?_) | refine R.fieldAt F78_1 (h := ?_)
         first | refine R.loadB O28 (h := ?_) | refine R.load1 O28 (h := ?_)
         refine R.convW Tryz.runUnderlying28 Tryz.runUnderlying33 (h := ?_)
         first | refine R.field F35_3 (h := ?_) | refine R.fieldAt F35_3 (h := ?_)
         refine R.storeB O33 (h := ?_)
         refine .n0 ?_
         refine .inBlock ?_
         refine .seq ?_
         refine .region rfl ?_
         first | refine R.loadA A35 (h := ?_) | refine R.loadN A35 (h := ?_) | refine R.loadP A35 (h := ?_)
         refine R.storeA A35 (h := ?_)
         refine .n0 ?_
         exact LGo.ret (ret_A Tryz.results45 A35 hA hmd)
        ·
         rw [if_neg hc8] at e1
         refine .seq ?_
         refine .region rfl ?_
         refine R.bin (run_eql _ _ _ _ _ _) (h := ?_)
         refine R.assign (h := ?_)
         refine .n0 ?_
         refine LGo.ifd (ht := fun hc9 => ?_) (hf := fun hc9 => ?_)
         ·
          rw [if_pos hc9] at e1; rw [← e1]
          refine .region rfl ?_
          first | refine R.field F78_1 (h := ?_) | refine R.fieldAt F78_1 (h := ?_)
          first | refine R.loadB O28 (h := ?_) | refine R.load1 O28 (h := ?_)
          refine R.convW Tryz.runUnderlying28 Tryz.runUnderlying3 (h := ?_)
          first | refine R.field F35_9 (h := ?_) | refine R.fieldAt F35_9 (h := ?_)
          refine R.storeB O3 (h := ?_)
          refine .n0 ?_
          refine .inBlock ?_
          refine .seq ?_
          refine .region rfl ?_
          first | refine R.loadA A35 (h := ?_) | refine R.loadN A35 (h := ?_) | refine R.loadP A35 (h := ?_)
          refine R.storeA A35 (h := ?_)
          refine .n0 ?_
          exact LGo.ret (ret_A Tryz.results45 A35 hA hmd)
         ·
          rw [if_neg hc9] at e1; rw [← e1]
          refine .skip ?_
          refine .inBlock ?_
          refine .seq ?_
          refine .region rfl ?_
          first | refine R.loadA A35 (h := ?_) | refine R.loadN A35 (h := ?_) | refine R.loadP A35 (h := ?_)
          refine R.storeA A35 (h := ?_)
          refine .n0 ?_
          exact LGo.ret (ret_A Tryz.results45 A35 hA hmd)

def needsR (k : Int) : Bool × Bool × Int := if wordQ k = [] then (false, false, 2) else (hasQ k 3, hasQ k 4, 0)
def msgOne (r : Rq) (u : Rule) : Fld := if u.kind = 2 then ⟨u.tag, 0, txtQ r u.tag⟩ else ⟨u.tag, uw (numQ r u.tag), []⟩
def messageR (r : Rq) : List Fld := (rulesR r.kind).1.map (msgOne r)
theorem rulesR_len (k : Int) : (rulesR k).1.length ≤ 16 := by rw [← rules_eq]; exact rulesQ_len k

theorem messageR_P (r : Rq) (hr : RqOk r) : PC Tryz.prog 39 [.agg (r.c.map LV.sv)] (.sv (.sl 3 ((messageR r).map Fld.c))) := by
 refine ⟨LC.of_go Tryz.func39 (c := _) rfl (by kernel_rfl) (by rw [Tryz.ntmps39]; simp) rfl rfl (by simp [LO.lt, LV.lts, LV.lt]) (by simp) ?_⟩
 intro B hA hmd
 unfold messageR
 have hrl := rulesR_len r.kind
 refine .seq ?_
 refine .region rfl ?_
 refine R.box (h := ?_)
 refine R.assign (h := ?_)
 refine .n0 ?_
 refine .seq ?_
 refine .region rfl ?_
 first | refine R.field F35_0 (h := ?_) | refine R.fieldAt F35_0 (h := ?_)
 first | refine R.loadB O3 (h := ?_) | refine R.load1 O3 (h := ?_)
 refine R.callP (es := [_]) (fun _ => rulesR_P r.kind) (h := ?_)
 refine R.move (h := ?_)
 refine R.extract (h := ?_)
 refine R.extract (h := ?_)
 generalize (rulesR r.kind).1 = rs at hrl ⊢
 refine R.assign (h := ?_)
 refine R.assign (h := ?_)
 refine .n0 ?_
 refine .seq ?_
 refine .region rfl ?_
 refine R.assign (h := ?_)
 refine .n0 ?_
 refine .seq ?_
 refine .seq ?_
 refine .region rfl ?_
 refine R.assign (h := ?_)
 refine .n0 ?_
 refine .block ?_
 refine .loop ?_
 refine LGo.nilRs 5 78 3 (h := ?_)
 refine LGo.loopG (σ := Nat) (fun x => x ≤ rs.length) (fun x => [(6, (true, .i (x : Nat))), (5, (true, .ref 1))]) (fun x => [(0, .box 35 (r.c.map LV.sv)), (1, .rs 78 3 (((rs.take x).map (msgOne r)).map Fld.c))]) (fun x => rs.length - x) (0) [(1, _), (3, _)] (Nat.zero_le _) (by repeat (first | exact trivial | refine ⟨rfl, ?_⟩)) (by repeat (first | exact trivial | refine ⟨rfl, ?_⟩)) (by repeat (first | exact trivial | refine ⟨rfl, ?_⟩)) ?_
 rintro k hk2 ih
 refine .seq ?_
 refine .seq ?_
 refine .region rfl ?_
 refine R.move (h := ?_)
 refine R.move (h := ?_)
 first | refine R.len S22 (h := ?_) | refine R.lenRs S22 (h := ?_) | refine R.lenV (run_lenNil S22) (h := ?_)
 rw [List.length_map]
 refine R.bin (run_lss _ _ _ _ _ _) (h := ?_)
 refine .n0 ?_
 refine LGo.ifd (ht := fun hc => ?_) (hf := fun hc => ?_)
 ·
  have hlt : k < rs.length := by omega
  have hx : (rs.map Rule.c)[((k : Nat) : Int).toNat]? = some rs[k].c := by simp [hlt]
  have htk : rs.take (k + 1) = rs.take k ++ [rs[k]] := by rw [List.take_succ_eq_append_getElem hlt]
  generalize rs[k] = u at hx htk
  have htk2 : ((rs.take (k + 1)).map (msgOne r)).map Fld.c = ((rs.take k).map (msgOne r)).map Fld.c ++ [(msgOne r u).c] := by rw [htk, List.map_append, List.map_append]; rfl
  refine .skip ?_
  refine .seq ?_
  refine .block ?_
  refine .seq ?_
  refine .region rfl ?_
  refine R.move (h := ?_)
  refine R.move (h := ?_)
  refine R.index I22 (hj := fun hg => ⟨by omega, hx⟩) (h := ?_)
  first | refine R.field F30_0 (h := ?_) | refine R.fieldAt F30_0 (h := ?_)
  first | refine R.loadB O3 (h := ?_) | refine R.load1 O3 (h := ?_)
  refine R.build BF78 (is := [0]) (xs := [_]) (es := [_]) (h := ?_)
  refine R.alloc Z78 (h := ?_)
  refine R.storeA A78 (h := ?_)
  refine .n0 ?_
  refine .seq ?_
  refine .seq ?_
  refine .region rfl ?_
  refine R.move (h := ?_)
  refine R.move (h := ?_)
  refine R.index I22 (hj := fun hg => ⟨by omega, hx⟩) (h := ?_)
  first | refine R.field F30_1 (h := ?_) | refine R.fieldAt F30_1 (h := ?_)
  first | refine R.loadB O3 (h := ?_) | refine R.load1 O3 (h := ?_)
  refine R.bin (run_eql _ _ _ _ _ _) (h := ?_)
  refine .n0 ?_
  refine LGo.ifd (ht := fun hc2 => ?_) (hf := fun hc2 => ?_)
  ·
   have he : msgOne r u = ⟨u.tag, 0, txtQ r u.tag⟩ := if_pos hc2
   refine .region rfl ?_
   first | refine R.loadA A35 (h := ?_) | refine R.loadN A35 (h := ?_) | refine R.loadP A35 (h := ?_)
   first | refine R.field F78_0 (h := ?_) | refine R.fieldAt F78_0 (h := ?_)
   first | refine R.loadB O3 (h := ?_) | refine R.load1 O3 (h := ?_)
   refine R.callP (es := [_, _]) (fun _ => txtQ_P r u.tag) (h := ?_)
   first | refine R.field F78_2 (h := ?_) | refine R.fieldAt F78_2 (h := ?_)
   refine R.storeB O9 (h := ?_)
   refine .n0 ?_
   refine .region rfl ?_
   refine R.move (h := ?_)
   first | refine R.loadA A78 (h := ?_) | refine R.loadN A78 (h := ?_) | refine R.loadP A78 (h := ?_)
   refine R.buildSliceG AP66 (xs := [_]) (es := [_]) (hcs := CellsOfs.cons (CellsOf.agg rfl) CellsOfs.nil) (h := ?_)
   refine R.appendS AP66 (hs := SrcOk.sl Tryz.underlying66 (by simp; rfl)) (hlen := by simp; omega) (h := ?_)
   refine R.assign (h := ?_)
   refine .n0 ?_
   refine .inBlock ?_
   refine .region rfl ?_
   refine R.move (h := ?_)
   first | refine R.add (h := ?_) | refine R.addW (h := ?_)
   refine R.assign (h := ?_)
   refine .n0 ?_
   refine .inLoop ?_
   exact LGo.turn [0, 3] (b := 0) (fun o h => by have := (hA o).1 h; omega) (ih (k + 1) hlt (by omega)) (by repeat (first | exact trivial | refine ⟨rfl, ?_⟩)) ⟨rfl, by rw [htk2, he]; rfl, trivial⟩
  ·
   have he : msgOne r u = ⟨u.tag, uw (numQ r u.tag), []⟩ := if_neg hc2
   refine .region rfl ?_
   first | refine R.loadA A35 (h := ?_) | refine R.loadN A35 (h := ?_) | refine R.loadP A35 (h := ?_)
   first | refine R.field F78_0 (h := ?_) | refine R.fieldAt F78_0 (h := ?_)
   first | refine R.loadB O3 (h := ?_) | refine R.load1 O3 (h := ?_)
   refine R.callP (es := [_, _]) (fun _ => numQ_P r hr u.tag) (h := ?_)
   refine R.convW Tryz.runUnderlying2 Tryz.runUnderlying28 (h := ?_)
   rw [uw_wrap]
   first | refine R.field F78_1 (h := ?_) | refine R.fieldAt F78_1 (h := ?_)
   refine R.storeB O28 (h := ?_)
   refine .n0 ?_
   refine .region rfl ?_
   refine R.move (h := ?_)
   first | refine R.loadA A78 (h := ?_) | refine R.loadN A78 (h := ?_) | refine R.loadP A78 (h := ?_)
   refine R.buildSliceG AP66 (xs := [_]) (es := [_]) (hcs := CellsOfs.cons (CellsOf.agg rfl) CellsOfs.nil) (h := ?_)
   refine R.appendS AP66 (hs := SrcOk.sl Tryz.underlying66 (by simp; rfl)) (hlen := by simp; omega) (h := ?_)
   refine R.assign (h := ?_)
   refine .n0 ?_
   refine .inBlock ?_
   refine .region rfl ?_
   refine R.move (h := ?_)
   first | refine R.add (h := ?_) | refine R.addW (h := ?_)
   refine R.assign (h := ?_)
   refine .n0 ?_
   refine .inLoop ?_
   exact LGo.turn [0, 3] (b := 0) (fun o h => by have := (hA o).1 h; omega) (ih (k + 1) hlt (by omega)) (by repeat (first | exact trivial | refine ⟨rfl, ?_⟩)) ⟨rfl, by rw [htk2, he]; rfl, trivial⟩
 ·
  obtain rfl : k = rs.length := by omega
  rw [List.take_length]
  refine .exit rfl ?_
  refine .seq ?_
  refine .region rfl ?_
  refine R.move (h := ?_)
  refine R.assign (h := ?_)
  refine .n0 ?_
  first | refine LGo.frzT 2 (h := ?_) | refine LGo.nilSl 2 3 (h := ?_) | skip
  exact LGo.ret (ret_T Tryz.results39 hA hmd)

theorem numQ_500 {r : Rq} (hr : RqOk r) (hs : r.ses.length ≤ 500 ∧ r.tic.length ≤ 500) (u : Rule) : FldOk (msgOne r u) ∧ (msgOne r u).txt.length ≤ 500 := by
  have h2 := uw_lt
  obtain ⟨h5, h6⟩ := hs
  unfold msgOne txtQ
  (repeat' split) <;> simp only [FldOk] <;> refine ⟨⟨?_, ?_, ?_⟩, ?_⟩ <;> first | exact (h2 _).1 | exact (h2 _).2 | (simp only [List.length_nil]; omega) | omega
theorem messageR_500 {r : Rq} (hr : RqOk r) (hs : r.ses.length ≤ 500 ∧ r.tic.length ≤ 500) : ∀ f ∈ messageR r, FldOk f ∧ f.txt.length ≤ 500 := by
  intro f hf
  obtain ⟨u, _, rfl⟩ := List.mem_map.1 hf
  exact numQ_500 hr hs u
def encR9 (r : Rq) : List UInt8 × Int := if (!decide (refCheckQ r = 0)) = true then ([], refCheckQ r) else (byt r.kind :: encBy (rulesR r.kind).1 (messageR r), 0)

end Go.Proofs.YtckbomkcnmcdaaaGreatDoor
