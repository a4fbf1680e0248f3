/- fields: put, get, read. -/
import Derived.Test.YtcobkjognpjikaaGreatDoorFB
set_option linter.unusedSimpArgs false
set_option linter.unusedVariables false
namespace Go.Proofs.YtcobkjognpjikaaGreatDoor



theorem low_len (x : Int) : ∀ k, (low x k).length = k
  | 0 => rfl
  | k + 1 => by simp [low, low_len x k]
theorem digs_len (x : Int) (h0 : 0 ≤ x) (h1 : x < 18446744073709551616) : (digs x).length ≤ 8 := by
  have := bits_le x.toNat 64 (by omega)
  rw [digs, low_len]; omega
/-- is a field's value allowed by its rule -/
def fldE (r : Rule) (x : Fld) : Int := if r.kind = 1 then (if (!decide (x.txt = [])) = true then 2 else if (!within r x.num) = true then 7 else 0) else (if (!decide (x.num = 0)) = true then 2 else if (!within r x.txt.length) = true then 7 else 0)
def fldB (r : Rule) (x : Fld) : List Int := if r.kind = 1 then [x.tag, ((digs x.num).length : Int)] ++ digs x.num else [x.tag, (x.txt.length : Int) / 256, (x.txt.length : Int) % 256] ++ textI x.txt
theorem wrap_u8m (a : Int) : IntKind.u8.wrap a = a % 256 := wrap_u8 a

theorem put_err (bs : List (List SV)) (r : Rule) (x : Fld) (hbs : bs.length ≤ 100000) (ht0 : 0 ≤ x.tag) (ht1 : x.tag < 256) (hn0 : 0 ≤ x.num) (hn1 : x.num < 18446744073709551616) (hx : x.txt.length ≤ 1000) (e : Int) (he : fldE r x = e) (h0 : e ≠ 0) : LC Tryz.prog 65 1 [.ref 0, .agg (r.c.map LV.sv), .agg (x.c.map LV.sv)] [(0, .rs 5 1 bs)] (.tup [.v (.slice none 0 0), .i e]) [] 0 := by
  refine LC.of_go Tryz.func65 (c := _) rfl (by kernel_rfl) (by rw [Tryz.ntmps65]; simp) rfl rfl (by simp [LO.lt, LV.lts, LV.lt]) (by simp) ?_
  intro B hA hmd
  unfold fldE at he
  refine LGo.seq ?_
  refine LGo.region rfl ?_
  refine R.box (h := ?_)
  refine R.box (h := ?_)
  refine R.assign (h := ?_)
  refine R.assign (h := ?_)
  refine Reg.nil ⟨fun h => (by cases h), ?_⟩
  refine LGo.seq ?_
  refine LGo.region rfl ?_
  first | refine R.field F55_2 (h := ?_) | refine R.fieldAt F55_2 (h := ?_)
  first | refine R.loadB O9 (h := ?_) | refine R.load1 O9 (h := ?_)
  refine R.lenT Tryz.runUnderlying9 (h := ?_)
  first | refine R.convI Tryz.runUnderlying3 Tryz.runUnderlying22 (h := ?_) | refine R.convW Tryz.runUnderlying3 Tryz.runUnderlying22 (h := ?_)
  refine R.assign (h := ?_)
  refine Reg.nil ⟨fun h => (by cases h), ?_⟩
  refine LGo.seq ?_
  refine LGo.seq ?_
  refine LGo.region rfl ?_
  first | refine R.field F88_1 (h := ?_) | refine R.fieldAt F88_1 (h := ?_)
  first | refine R.loadB O3 (h := ?_) | refine R.load1 O3 (h := ?_)
  refine R.bin (run_eql _ _ _ _ _ _) (h := ?_)
  refine Reg.nil ⟨fun h => (by cases h), ?_⟩
  first | refine LGo.ifd (ht := fun hc => ?_) (hf := fun hc => ?_) | refine LGo.ifb (ht := fun hc => ?_) (hf := fun hc => ?_)
  · -- then 1
    rw [if_pos hc] at he
    refine LGo.seq ?_
    refine LGo.region rfl ?_
    first | refine R.field F55_1 (h := ?_) | refine R.fieldAt F55_1 (h := ?_)
    first | refine R.loadB O22 (h := ?_) | refine R.load1 O22 (h := ?_)
    refine R.assign (h := ?_)
    refine Reg.nil ⟨fun h => (by cases h), ?_⟩
    refine LGo.seq ?_
    refine LGo.region rfl ?_
    first | refine R.field F55_2 (h := ?_) | refine R.fieldAt F55_2 (h := ?_)
    first | refine R.loadB O9 (h := ?_) | refine R.load1 O9 (h := ?_)
    refine R.bin (run_neqT _ _ _ _ _) (h := ?_)
    refine Reg.nil ⟨fun h => (by cases h), ?_⟩
    first | refine LGo.ifd (ht := fun hc2 => ?_) (hf := fun hc2 => ?_) | refine LGo.ifb (ht := fun hc2 => ?_) (hf := fun hc2 => ?_)
    · -- then 2
      rw [if_pos hc2] at he; subst he
      refine LGo.seq ?_
      refine LGo.region rfl ?_
      refine R.assign (h := ?_)
      refine R.assign (h := ?_)
      refine Reg.nil ⟨fun h => (by cases h), ?_⟩
      exact LGo.ret (ret_TT Tryz.results65 hA hmd)
    · -- else 2
      rw [if_neg (by rw [hc2]; simp)] at he
      refine LGo.skip ?_
      refine LGo.seq ?_
      refine LGo.seq ?_
      refine LGo.region rfl ?_
      first | refine R.loadA A88 (h := ?_) | refine R.loadN A88 (h := ?_)
      refine R.move (h := ?_)
      refine R.callP (es := [_, _]) (fun _ => within_P _ _) (h := ?_)
      refine R.not (h := ?_)
      refine Reg.nil ⟨fun h => (by cases h), ?_⟩
      first | refine LGo.ifd (ht := fun hc3 => ?_) (hf := fun hc3 => ?_) | refine LGo.ifb (ht := fun hc3 => ?_) (hf := fun hc3 => ?_)
      · -- then 3
        rw [if_pos hc3] at he; subst he
        refine LGo.seq ?_
        refine LGo.region rfl ?_
        refine R.assign (h := ?_)
        refine R.assign (h := ?_)
        refine Reg.nil ⟨fun h => (by cases h), ?_⟩
        exact LGo.ret (ret_TT Tryz.results65 hA hmd)
      · -- else 3
        exact absurd he.symm (by rw [if_neg (by rw [hc3]; simp)]; exact h0) -- END
  · -- else 1
    rw [if_neg hc] at he
    refine LGo.seq ?_
    refine LGo.region rfl ?_
    first | refine R.field F55_1 (h := ?_) | refine R.fieldAt F55_1 (h := ?_)
    first | refine R.loadB O22 (h := ?_) | refine R.load1 O22 (h := ?_)
    refine R.bin (run_neq _ _ _ _ _ _) (h := ?_)
    refine Reg.nil ⟨fun h => (by cases h), ?_⟩
    first | refine LGo.ifd (ht := fun hc4 => ?_) (hf := fun hc4 => ?_) | refine LGo.ifb (ht := fun hc4 => ?_) (hf := fun hc4 => ?_)
    · -- then 4
      rw [if_pos hc4] at he; subst he
      refine LGo.seq ?_
      refine LGo.region rfl ?_
      refine R.assign (h := ?_)
      refine R.assign (h := ?_)
      refine Reg.nil ⟨fun h => (by cases h), ?_⟩
      exact LGo.ret (ret_TT Tryz.results65 hA hmd)
    · -- else 4
      rw [if_neg (by rw [hc4]; simp)] at he
      refine LGo.skip ?_
      refine LGo.seq ?_
      refine LGo.seq ?_
      refine LGo.region rfl ?_
      first | refine R.loadA A88 (h := ?_) | refine R.loadN A88 (h := ?_)
      refine R.move (h := ?_)
      refine R.callP (es := [_, _]) (fun _ => within_P _ _) (h := ?_)
      refine R.not (h := ?_)
      refine Reg.nil ⟨fun h => (by cases h), ?_⟩
      first | refine LGo.ifd (ht := fun hc5 => ?_) (hf := fun hc5 => ?_) | refine LGo.ifb (ht := fun hc5 => ?_) (hf := fun hc5 => ?_)
      · -- then 5
        rw [if_pos hc5] at he; subst he
        refine LGo.seq ?_
        refine LGo.region rfl ?_
        refine R.assign (h := ?_)
        refine R.assign (h := ?_)
        refine Reg.nil ⟨fun h => (by cases h), ?_⟩
        exact LGo.ret (ret_TT Tryz.results65 hA hmd)
      · -- else 5
        exact absurd he.symm (by rw [if_neg (by rw [hc5]; simp)]; exact h0) -- END

theorem put_ok (bs : List (List SV)) (r : Rule) (x : Fld) (hbs : bs.length ≤ 100000) (ht0 : 0 ≤ x.tag) (ht1 : x.tag < 256) (hn0 : 0 ≤ x.num) (hn1 : x.num < 18446744073709551616) (hx : x.txt.length ≤ 1000) (he : fldE r x = 0) : LC Tryz.prog 65 1 [.ref 0, .agg (r.c.map LV.sv), .agg (x.c.map LV.sv)] [(0, .rs 5 1 bs)] (.tup [.ref 1, .i 0]) [(1, .rs 5 1 (bs ++ ic .u8 (fldB r x)))] 1 := by
  refine LC.of_go Tryz.func65 (c := _) rfl (by kernel_rfl) (by rw [Tryz.ntmps65]; simp) rfl rfl (by simp [LO.lt, LV.lts, LV.lt]) (by simp) ?_
  intro B hA hmd
  unfold fldE at he
  have hdl := digs_len x.num hn0 hn1
  refine LGo.seq ?_
  refine LGo.region rfl ?_
  refine R.box (h := ?_)
  refine R.box (h := ?_)
  refine R.assign (h := ?_)
  refine R.assign (h := ?_)
  refine Reg.nil ⟨fun h => (by cases h), ?_⟩
  refine LGo.seq ?_
  refine LGo.region rfl ?_
  first | refine R.field F55_2 (h := ?_) | refine R.fieldAt F55_2 (h := ?_)
  first | refine R.loadB O9 (h := ?_) | refine R.load1 O9 (h := ?_)
  refine R.lenT Tryz.runUnderlying9 (h := ?_)
  first | refine R.convI Tryz.runUnderlying3 Tryz.runUnderlying22 (h := ?_) | refine R.convW Tryz.runUnderlying3 Tryz.runUnderlying22 (h := ?_)
  refine R.assign (h := ?_)
  refine Reg.nil ⟨fun h => (by cases h), ?_⟩
  refine LGo.seq ?_
  refine LGo.seq ?_
  refine LGo.region rfl ?_
  first | refine R.field F88_1 (h := ?_) | refine R.fieldAt F88_1 (h := ?_)
  first | refine R.loadB O3 (h := ?_) | refine R.load1 O3 (h := ?_)
  refine R.bin (run_eql _ _ _ _ _ _) (h := ?_)
  refine Reg.nil ⟨fun h => (by cases h), ?_⟩
  first | refine LGo.ifd (ht := fun hc => ?_) (hf := fun hc => ?_) | refine LGo.ifb (ht := fun hc => ?_) (hf := fun hc => ?_)
  · -- then 1
    rw [if_pos hc] at he
    have e : fldB r x = [x.tag, ((digs x.num).length : Int)] ++ digs x.num := by unfold fldB; rw [if_pos hc]
    rw [e, ic_app, ← List.append_assoc]
    refine LGo.seq ?_
    refine LGo.region rfl ?_
    first | refine R.field F55_1 (h := ?_) | refine R.fieldAt F55_1 (h := ?_)
    first | refine R.loadB O22 (h := ?_) | refine R.load1 O22 (h := ?_)
    refine R.assign (h := ?_)
    refine Reg.nil ⟨fun h => (by cases h), ?_⟩
    refine LGo.seq ?_
    refine LGo.region rfl ?_
    first | refine R.field F55_2 (h := ?_) | refine R.fieldAt F55_2 (h := ?_)
    first | refine R.loadB O9 (h := ?_) | refine R.load1 O9 (h := ?_)
    refine R.bin (run_neqT _ _ _ _ _) (h := ?_)
    refine Reg.nil ⟨fun h => (by cases h), ?_⟩
    first | refine LGo.ifd (ht := fun hc2 => ?_) (hf := fun hc2 => ?_) | refine LGo.ifb (ht := fun hc2 => ?_) (hf := fun hc2 => ?_)
    · -- then 2
      rw [if_pos hc2] at he; simp at he -- END
    · -- else 2
      rw [if_neg (by rw [hc2]; simp)] at he
      refine LGo.skip ?_
      refine LGo.seq ?_
      refine LGo.seq ?_
      refine LGo.region rfl ?_
      first | refine R.loadA A88 (h := ?_) | refine R.loadN A88 (h := ?_)
      refine R.move (h := ?_)
      refine R.callP (es := [_, _]) (fun _ => within_P _ _) (h := ?_)
      refine R.not (h := ?_)
      refine Reg.nil ⟨fun h => (by cases h), ?_⟩
      first | refine LGo.ifd (ht := fun hc3 => ?_) (hf := fun hc3 => ?_) | refine LGo.ifb (ht := fun hc3 => ?_) (hf := fun hc3 => ?_)
      · -- then 3
        rw [if_pos hc3] at he; simp at he -- END
      · -- else 3
        refine LGo.skip ?_
        refine LGo.seq ?_
        refine LGo.seq ?_
        refine LGo.region rfl ?_
        first | refine R.field F88_1 (h := ?_) | refine R.fieldAt F88_1 (h := ?_)
        first | refine R.loadB O3 (h := ?_) | refine R.load1 O3 (h := ?_)
        refine R.bin (run_eql _ _ _ _ _ _) (h := ?_)
        refine Reg.nil ⟨fun h => (by cases h), ?_⟩
        refine LGo.ifb (ht := fun hc4 => ?_) (hf := fun hc4 => by exact absurd hc (by simpa using hc4))
        refine LGo.seq ?_
        refine LGo.region rfl ?_
        refine R.alloc Z33 (h := ?_)
        refine Reg.nil ⟨fun h => (by cases h), ?_⟩
        refine LGo.seq ?_
        refine LGo.seq ?_
        refine LGo.region rfl ?_
        refine R.move (h := ?_)
        refine R.callX (es := [_]) [] (digits_L x.num) (h := ?_)
        refine Reg.nil ⟨fun h => (by cases h), ?_⟩
        refine LGo.block ?_
        refine LGo.packNil 3 0 5 1 (h := ?_)
        refine LGo.keep [(0, (true, .ref 0)), (4, (true, .ptr 1 0)), (5, (true, .ptr 2 0)), (8, (true, .u x.num)), (9, (true, .ptr 3 0)), (34, (true, .fn (.func 114) [] [.ptr 4 0]))] ([(0, .rs 5 1 bs), (1, .box 88 (r.c.map LV.sv)), (2, .box 55 (x.c.map LV.sv)), (3, .bx 33 [.v undef] 0 5 1 (ic .u8 ((digs x.num).take 0))), (4, .box 22 [.u x.num])]) ⟨rfl, rfl, rfl, rfl, rfl, rfl, trivial⟩ ⟨rfl, rfl, rfl, rfl, rfl, trivial⟩ ?_
        refine LGo.rangeN (fun fn ac bc => [(0, .rs 5 1 bs), (1, .box 88 (r.c.map LV.sv)), (2, .box 55 (x.c.map LV.sv)), (3, .bx 33 [.v undef] 0 5 1 (ic .u8 ((digs x.num).take (digs x.num).length))), (4, .box 22 [.u x.num]), (5, .raw (.deferred (some []))), (6, .loop fn Tryz.f65.ntmps [(0, (true, .ref 0)), (4, (true, .ptr 1 0)), (5, (true, .ptr 2 0)), (8, (true, .u x.num)), (9, (true, .ptr 3 0)), (34, (true, .fn (.func 114) [] [.ptr 4 0]))] #[35] ac bc .ready none)]) (hit := fun fn ac bc hac hbc => ?_) (h := fun fn => ?_)
        · -- the iterator
          have hlen : (rounds (digs x.num)).length = (digs x.num).length := by simp [rounds]
          refine digits1 x.num hn0 hn1 (y := 6) (c := 4) (by decide) (by decide) ⟨rfl, by simp [LO.lt, LV.lts, LV.lt, lts_sv], 22, rfl⟩ ?_
          have hrun := YRun.fold (P := Tryz.prog) (y := 6) (C := HoldsNum 7 4 x.num) (rounds (digs x.num)) (fun j => [(0, .rs 5 1 bs), (1, .box 88 (r.c.map LV.sv)), (2, .box 55 (x.c.map LV.sv)), (3, .bx 33 [.v undef] 0 5 1 (ic .u8 ((digs x.num).take j))), (4, .box 22 [.u x.num]), (5, .raw (.deferred (some []))), (6, .loop fn Tryz.f65.ntmps [(0, (true, .ref 0)), (4, (true, .ptr 1 0)), (5, (true, .ptr 2 0)), (8, (true, .u x.num)), (9, (true, .ptr 3 0)), (34, (true, .fn (.func 114) [] [.ptr 4 0]))] #[35] ac bc .ready none)]) (fun j hj => ⟨rfl, by simp [LO.lt, LV.lts, LV.lt, lts_sv], 22, rfl⟩) (fun j hj => ?_)
          · rw [hlen] at hrun; exact hrun
          have hj' : j < (digs x.num).length := by rw [← hlen]; exact hj
          have hd : (rounds (digs x.num))[j] = [.y (digs x.num)[j]] := by simp [rounds]
          have htk : (digs x.num).take (j + 1) = (digs x.num).take j ++ [(digs x.num)[j]] := by rw [List.take_succ_eq_append_getElem hj']
          rw [hd, htk, ← ic_snoc]
          generalize (digs x.num)[j] = dg
          refine Yld.walk 7 ((10, (true, .y dg)) :: (35, (true, .y dg)) :: [(0, (true, .ref 0)), (4, (true, .ptr 1 0)), (5, (true, .ptr 2 0)), (8, (true, .u x.num)), (9, (true, .ptr 3 0)), (34, (true, .fn (.func 114) [] [.ptr 4 0]))]) (hpN := by rw [show Tryz.f65.ntmps = 65 from Tryz.ntmps65]; simp) (hA := ?_) (hB := ?_)
          · intro l B' hA' hmd'; subst hac
            refine LGo.region rfl ?_
            refine R.assign (h := ?_)
            refine Reg.nil ⟨fun h => (by cases h), ?_⟩
            exact LGo.done (fun cx a w hr => ⟨rfl, cx, hr⟩)
          · intro l B' hA' hmd'; subst hbc
            refine LGo.unpack 3 (h := ?_)
            refine LGo.block ?_
            refine LGo.region rfl ?_
            first | refine R.loadB O33 (h := ?_) | refine R.load1 O33 (h := ?_)
            refine R.move (h := ?_)
            refine R.buildSliceG AP33 (xs := [_]) (es := [_]) (hcs := CellsOfs.cons (CellsOf.one rfl) CellsOfs.nil) (h := ?_)
            refine R.appendS AP33 (hs := SrcOk.sl Tryz.underlying33 (by simp)) (hlen := by rw [ic_len]; simp; omega) (h := ?_)
            refine R.storeB O33 (h := ?_)
            refine Reg.nil ⟨fun h => (by cases h), ?_⟩
            refine LGo.inBlock ?_
            refine LGo.pack 3 0 (h := ?_)
            refine LGo.drop 7 (fun o h => (hA' o).1 h) (by omega) [] ((6, .loop fn Tryz.f65.ntmps [(0, (true, .ref 0)), (4, (true, .ptr 1 0)), (5, (true, .ptr 2 0)), (8, (true, .u x.num)), (9, (true, .ptr 3 0)), (34, (true, .fn (.func 114) [] [.ptr 4 0]))] #[35] ac _ .busy none) :: (5, .raw (.deferred (some []))) :: [(0, .rs 5 1 bs), (1, .box 88 (r.c.map LV.sv)), (2, .box 55 (x.c.map LV.sv)), (3, .bx 33 [.v undef] 0 5 1 (ic .u8 ((digs x.num).take j) ++ [[.val (.int .u8 dg)]])), (4, .box 22 [.u x.num])]) trivial ⟨rfl, rfl, rfl, rfl, rfl, rfl, rfl, trivial⟩ (by simp) (by simp [LO.lt, LV.lts, LV.lt, lts_sv]) (h := ?_)
            refine LGo.done (RoundEnd.go rfl (fun o z hz hne => ?_) rfl)
            rcases o with _ | _ | _ | _ | _ | _ | _ | o <;> first | exact absurd rfl hne | exact hz
        · -- behind the range
          rw [List.take_length]
          refine LGo.unpack 3 (h := ?_)
          refine LGo.inBlock ?_
          refine LGo.seq ?_
          refine LGo.region rfl ?_
          refine R.move (h := ?_)
          first | refine R.field F55_0 (h := ?_) | refine R.fieldAt F55_0 (h := ?_)
          first | refine R.loadB O3 (h := ?_) | refine R.load1 O3 (h := ?_)
          first | refine R.convI Tryz.runUnderlying3 Tryz.runUnderlying5 (h := ?_) | refine R.convW Tryz.runUnderlying3 Tryz.runUnderlying5 (h := ?_)
          first | refine R.loadB O33 (h := ?_) | refine R.load1 O33 (h := ?_)
          first | refine R.len S33 (h := ?_) | refine R.lenRs S33 (h := ?_) | refine R.lenV (run_lenNil S33) (h := ?_)
          rw [ic_len]
          first | refine R.convI Tryz.runUnderlying3 Tryz.runUnderlying5 (h := ?_) | refine R.convW Tryz.runUnderlying3 Tryz.runUnderlying5 (h := ?_)
          refine R.buildSliceG AP33 (xs := [_, _]) (es := [_, _]) (hcs := CellsOfs.cons (CellsOf.one rfl) (CellsOfs.cons (CellsOf.one rfl) CellsOfs.nil)) (h := ?_)
          refine R.appendS AP33 (hs := SrcOk.sl Tryz.underlying33 (by simp)) (hlen := by simp; omega) (h := ?_)
          first | refine R.loadB O33 (h := ?_) | refine R.load1 O33 (h := ?_)
          refine R.appendS AP33 (hs := SrcOk.rs Tryz.underlying33 (ic_one _ _)) (hlen := by rw [ic_len]; simp; omega) (h := ?_)
          refine R.assign (h := ?_)
          refine R.assign (h := ?_)
          refine Reg.nil ⟨fun _ => ⟨mixedO, by rfl, by rfl⟩, ?_⟩
          exact LGo.ret (FnPost.mark (by rfl) (FnPost.finI [0, 9] (res_TT Tryz.results65) hA hmd))
  · -- else 1
    rw [if_neg hc] at he
    have e : fldB r x = [x.tag, (x.txt.length : Int) / 256, (x.txt.length : Int) % 256] ++ textI x.txt := by unfold fldB; rw [if_neg hc]
    rw [e, ic_app, ← List.append_assoc, ← bytesC_text]
    refine LGo.seq ?_
    refine LGo.region rfl ?_
    first | refine R.field F55_1 (h := ?_) | refine R.fieldAt F55_1 (h := ?_)
    first | refine R.loadB O22 (h := ?_) | refine R.load1 O22 (h := ?_)
    refine R.bin (run_neq _ _ _ _ _ _) (h := ?_)
    refine Reg.nil ⟨fun h => (by cases h), ?_⟩
    first | refine LGo.ifd (ht := fun hc5 => ?_) (hf := fun hc5 => ?_) | refine LGo.ifb (ht := fun hc5 => ?_) (hf := fun hc5 => ?_)
    · -- then 5
      rw [if_pos hc5] at he; simp at he -- END
    · -- else 5
      rw [if_neg (by rw [hc5]; simp)] at he
      refine LGo.skip ?_
      refine LGo.seq ?_
      refine LGo.seq ?_
      refine LGo.region rfl ?_
      first | refine R.loadA A88 (h := ?_) | refine R.loadN A88 (h := ?_)
      refine R.move (h := ?_)
      refine R.callP (es := [_, _]) (fun _ => within_P _ _) (h := ?_)
      refine R.not (h := ?_)
      refine Reg.nil ⟨fun h => (by cases h), ?_⟩
      first | refine LGo.ifd (ht := fun hc6 => ?_) (hf := fun hc6 => ?_) | refine LGo.ifb (ht := fun hc6 => ?_) (hf := fun hc6 => ?_)
      · -- then 6
        rw [if_pos hc6] at he; simp at he -- END
      · -- else 6
        refine LGo.skip ?_
        refine LGo.seq ?_
        refine LGo.seq ?_
        refine LGo.region rfl ?_
        first | refine R.field F88_1 (h := ?_) | refine R.fieldAt F88_1 (h := ?_)
        first | refine R.loadB O3 (h := ?_) | refine R.load1 O3 (h := ?_)
        refine R.bin (run_eql _ _ _ _ _ _) (h := ?_)
        refine Reg.nil ⟨fun h => (by cases h), ?_⟩
        refine LGo.ifb (ht := fun hc7 => by exact absurd (by simpa using hc7) hc) (hf := fun hc7 => ?_)
        refine LGo.skip ?_
        refine LGo.seq ?_
        refine LGo.region rfl ?_
        refine R.move (h := ?_)
        first | refine R.field F55_0 (h := ?_) | refine R.fieldAt F55_0 (h := ?_)
        first | refine R.loadB O3 (h := ?_) | refine R.load1 O3 (h := ?_)
        first | refine R.convI Tryz.runUnderlying3 Tryz.runUnderlying5 (h := ?_) | refine R.convW Tryz.runUnderlying3 Tryz.runUnderlying5 (h := ?_)
        refine R.move (h := ?_)
        refine R.shr (h := ?_)
        rw [show (x.txt.length : Int) / 2 ^ (min (Int.toNat 8) IntKind.u64.bits) = (x.txt.length : Int) / 256 from rfl]
        first | refine R.convI Tryz.runUnderlying22 Tryz.runUnderlying5 (h := ?_) | refine R.convW Tryz.runUnderlying22 Tryz.runUnderlying5 (h := ?_)
        refine R.move (h := ?_)
        first | refine R.convI Tryz.runUnderlying22 Tryz.runUnderlying5 (h := ?_) | refine R.convW Tryz.runUnderlying22 Tryz.runUnderlying5 (h := ?_)
        rw [wrap_u8m]
        refine R.buildSliceG AP33 (xs := [_, _, _]) (es := [_, _, _]) (hcs := CellsOfs.cons (CellsOf.one rfl) (CellsOfs.cons (CellsOf.one rfl) (CellsOfs.cons (CellsOf.one rfl) CellsOfs.nil))) (h := ?_)
        refine R.appendS AP33 (hs := SrcOk.sl Tryz.underlying33 (by simp)) (hlen := by simp; omega) (h := ?_)
        first | refine R.field F55_2 (h := ?_) | refine R.fieldAt F55_2 (h := ?_)
        first | refine R.loadB O9 (h := ?_) | refine R.load1 O9 (h := ?_)
        refine R.appendS AP33 (hs := SrcOk.strT Tryz.underlying9) (hlen := by rw [bytesC_length]; simp; omega) (h := ?_)
        refine R.assign (h := ?_)
        refine R.assign (h := ?_)
        refine Reg.nil ⟨fun _ => ⟨mixedO, by rfl, by rfl⟩, ?_⟩
        exact LGo.ret (FnPost.finI [0, 4] (res_TT Tryz.results65) hA hmd)




def be (l : List UInt8) : Int := l.foldl (fun n c => n * 256 + (c.toNat : Int)) 0
theorem be_snoc (l : List UInt8) (c : UInt8) : be (l ++ [c]) = be l * 256 + c.toNat := by simp [be, List.foldl_append]
theorem be_take (l : List UInt8) (k : Nat) (h : k < l.length) : be (l.take (k + 1)) = be (l.take k) * 256 + l[k].toNat := by
  rw [List.take_succ_eq_append_getElem h, be_snoc]
theorem be_nn (l : List UInt8) : 0 ≤ be l := by
  have : ∀ (l : List UInt8) (n : Int), 0 ≤ n → 0 ≤ l.foldl (fun n c => n * 256 + (c.toNat : Int)) n := by
    intro l
    induction l with
    | nil => intro n h; exact h
    | cons c l ih => intro n h; exact ih _ (by show 0 ≤ n * 256 + (c.toNat : Int); have := u8_ge c; omega)
  exact this l 0 (by omega)
theorem be_lt (l : List UInt8) : be l < 256 ^ l.length := by
  have : ∀ (l : List UInt8) (n : Int), l.foldl (fun n c => n * 256 + (c.toNat : Int)) n < (n + 1) * 256 ^ l.length := by
    intro l
    induction l with
    | nil => intro n; simp; omega
    | cons c l ih =>
      intro n
      have h1 := ih (n * 256 + c.toNat)
      have h2 := u8_lt c
      have h3 : (0 : Int) < 256 ^ l.length := Int.pow_pos (by omega)
      have h4 : (n * 256 + (c.toNat : Int) + 1) * 256 ^ l.length ≤ ((n + 1) * 256) * 256 ^ l.length := Int.mul_le_mul_of_nonneg_right (by omega) (Int.le_of_lt h3)
      simp only [List.foldl_cons, List.length_cons]
      rw [Int.pow_succ, Int.mul_comm (256 ^ l.length) 256, ← Int.mul_assoc]
      omega
  have h := this l 0
  simpa [be] using h
theorem pow_le (a b : Nat) (h : a ≤ b) : (256 : Int) ^ a ≤ 256 ^ b := by
  obtain ⟨d, rfl⟩ := Nat.exists_eq_add_of_le h
  induction d with
  | zero => simp
  | succ d ih =>
    have h1 : (0 : Int) < 256 ^ (a + d) := Int.pow_pos (by omega)
    have := ih (by omega)
    rw [← Nat.add_assoc, Int.pow_succ]
    omega
theorem be_lt' (l : List UInt8) (k : Nat) (h : l.length ≤ k) : be l < 256 ^ k := by have := be_lt l; have := pow_le _ _ h; omega
theorem or8_i64 (a c : Int) (ha : 0 ≤ a) (hc : 0 ≤ c) (hc' : c < 256) (h : a * 256 + c < 9223372036854775808) : IntKind.i64.wrap ((BitVec.ofInt IntKind.i64.bits (a * 256) ||| BitVec.ofInt IntKind.i64.bits c).toNat) = a * 256 + c :=
  or_low_i64 a c 8 ha hc hc' h
theorem or8_u64 (a c : Int) (ha : 0 ≤ a) (hc : 0 ≤ c) (hc' : c < 256) (h : a * 256 + c < 18446744073709551616) : IntKind.u64.wrap ((BitVec.ofInt IntKind.u64.bits (a * 256) ||| BitVec.ofInt IntKind.u64.bits c).toNat) = a * 256 + c :=
  or_low_u64 a c 8 ha hc hc' h
theorem shl8_i64 (a : Int) (h0 : 0 ≤ a) (h1 : a * 256 < 9223372036854775808) : IntKind.i64.wrap (a * 2 ^ (min (Int.toNat 8) IntKind.i64.bits)) = a * 256 := by
  show IntKind.i64.wrap (a * 256) = _
  exact wrap_i64 (by omega) (by omega)
theorem shl8_u64 (a : Int) (h0 : 0 ≤ a) (h1 : a * 256 < 18446744073709551616) : IntKind.u64.wrap (a * 2 ^ (min (Int.toNat 8) IntKind.u64.bits)) = a * 256 := by
  show IntKind.u64.wrap (a * 256) = _
  exact wrap_u rfl (by omega) (by simp only [IntKind.bits]; omega)
/-- what get reads: the field, what is left, whether that is possible -/
def getV (r : Rule) (b : List UInt8) : Fld × List UInt8 × Bool :=
  if b.length < r.kind.toNat then (⟨r.tag, 0, []⟩, [], false)
  else if ((b.drop r.kind.toNat).length : Int) < be (b.take r.kind.toNat) then (⟨r.tag, 0, []⟩, [], false)
  else if r.kind = 2 then (⟨r.tag, 0, (b.drop r.kind.toNat).take (be (b.take r.kind.toNat)).toNat⟩, (b.drop r.kind.toNat).drop (be (b.take r.kind.toNat)).toNat, within r (be (b.take r.kind.toNat)))
  else if 8 < be (b.take r.kind.toNat) ∨ (0 < be (b.take r.kind.toNat) ∧ (((b.drop r.kind.toNat)[0]?).getD 0).toNat = 0) then (⟨r.tag, 0, []⟩, [], false)
  else (⟨r.tag, be ((b.drop r.kind.toNat).take (be (b.take r.kind.toNat)).toNat), []⟩, (b.drop r.kind.toNat).drop (be (b.take r.kind.toNat)).toNat, within r (be ((b.drop r.kind.toNat).take (be (b.take r.kind.toNat)).toNat)))

theorem get_P (r : Rule) (b : List UInt8) (hk : r.kind = 1 ∨ r.kind = 2) (hb : b.length ≤ 100000) : PC Tryz.prog 70 [.agg (r.c.map LV.sv), .sv (.sl 1 (bytesC b))] (.tup [.agg ((getV r b).1.c.map LV.sv), .sv (.sl 1 (bytesC (getV r b).2.1)), .b (getV r b).2.2]) := by
  refine ⟨LC.of_go Tryz.func70 (c := _) rfl (by kernel_rfl) (by rw [Tryz.ntmps70]; simp) rfl rfl (by simp [LO.lt, LV.lts, LV.lt]) (by simp) ?_⟩
  intro B hA hmd
  refine LGo.seq ?_
  refine LGo.region rfl ?_
  refine R.box (h := ?_)
  refine R.alloc Z55 (h := ?_)
  refine R.assign (h := ?_)
  refine R.assign (h := ?_)
  refine Reg.nil ⟨fun h => (by cases h), ?_⟩
  refine LGo.seq ?_
  refine LGo.region rfl ?_
  first | refine R.field F88_0 (h := ?_) | refine R.fieldAt F88_0 (h := ?_)
  first | refine R.loadB O3 (h := ?_) | refine R.load1 O3 (h := ?_)
  refine R.build BF55 (is := [0]) (xs := [_]) (es := [_]) (h := ?_)
  refine R.alloc Z55 (h := ?_)
  refine R.storeA A55 (h := ?_)
  refine Reg.nil ⟨fun h => (by cases h), ?_⟩
  refine LGo.seq ?_
  refine LGo.region rfl ?_
  first | refine R.field F88_1 (h := ?_) | refine R.fieldAt F88_1 (h := ?_)
  first | refine R.loadB O3 (h := ?_) | refine R.load1 O3 (h := ?_)
  refine R.assign (h := ?_)
  refine Reg.nil ⟨fun h => (by cases h), ?_⟩
  refine LGo.seq ?_
  refine LGo.seq ?_
  refine LGo.region rfl ?_
  refine R.move (h := ?_)
  first | refine R.len S33 (h := ?_) | refine R.lenRs S33 (h := ?_) | refine R.lenV (run_lenNil S33) (h := ?_)
  rw [bytesC_length]
  refine R.move (h := ?_)
  refine R.bin (run_lss _ _ _ _ _ _) (h := ?_)
  refine Reg.nil ⟨fun h => (by cases h), ?_⟩
  first | refine LGo.ifd (ht := fun hc => ?_) (hf := fun hc => ?_) | refine LGo.ifb (ht := fun hc => ?_) (hf := fun hc => ?_)
  · -- then 1
    have e : getV r b = (⟨r.tag, 0, []⟩, [], false) := by unfold getV; rw [if_pos (by omega)]
    rw [e]
    refine LGo.seq ?_
    refine LGo.region rfl ?_
    first | refine R.loadA A55 (h := ?_) | refine R.loadN A55 (h := ?_)
    refine R.storeA A55 (h := ?_)
    refine R.assign (h := ?_)
    refine R.assign (h := ?_)
    refine Reg.nil ⟨fun h => (by cases h), ?_⟩
    first | refine LGo.frzT 5 (h := ?_) | refine LGo.nilSl 5 1 (h := ?_) | skip
    exact LGo.ret (ret_ATT Tryz.results70 A55 hA hmd)
  · -- else 1
    have hkl : r.kind.toNat ≤ b.length := by omega
    obtain ⟨g, e0⟩ : ∃ g, getV r b = g := ⟨_, rfl⟩
    have e1 := e0
    unfold getV at e1
    rw [if_neg (by omega)] at e1
    obtain ⟨hd, hhd⟩ : ∃ hd, hd = b.take r.kind.toNat := ⟨_, rfl⟩
    obtain ⟨bd, hbd⟩ : ∃ bd, bd = b.drop r.kind.toNat := ⟨_, rfl⟩
    have hhl : hd.length ≤ 2 := by rw [hhd, List.length_take]; omega
    have hbl : bd.length ≤ 100000 := by rw [hbd, List.length_drop]; omega
    rw [← hhd, ← hbd] at e1
    refine LGo.skip ?_
    refine LGo.seq ?_
    refine LGo.region rfl ?_
    refine R.assign (h := ?_)
    refine Reg.nil ⟨fun h => (by cases h), ?_⟩
    refine LGo.seq ?_
    refine LGo.seq ?_
    refine LGo.region rfl ?_
    refine R.move (h := ?_)
    refine R.move (h := ?_)
    refine R.sliceHi SF33 (ha := fun _ => ⟨by omega, by rw [bytesC_length]; omega⟩) (h := ?_)
    rw [bytesC_take, ← hhd]
    first | refine R.len S33 (h := ?_) | refine R.lenRs S33 (h := ?_) | refine R.lenV (run_lenNil S33) (h := ?_)
    rw [bytesC_length]
    refine R.move (h := ?_)
    refine Reg.nil ⟨fun h => (by cases h), ?_⟩
    refine LGo.block ?_
    refine LGo.loop ?_
    refine LGo.loopG (σ := Nat) (fun x => x ≤ hd.length) (fun x => [(9, (true, .i (be (hd.take x)))), (28, (true, .i (x : Nat)))]) (fun x => [(0, .box 88 (r.c.map LV.sv)), (1, .box 55 [.i 0, .u 0, .t []]), (2, .box 55 [.i r.tag, .u 0, .t []])]) (fun x => hd.length - x) (0) [(1, _), (2, _), (4, _), (7, _), (8, _), (26, _), (27, _)] (by simp) (by repeat (first | exact trivial | refine ⟨rfl, ?_⟩)) (by repeat (first | exact trivial | refine ⟨rfl, ?_⟩)) (by repeat (first | exact trivial | refine ⟨rfl, ?_⟩)) ?_
    rintro k hk1 ih
    refine LGo.seq ?_
    refine LGo.region rfl ?_
    refine R.bin (run_lss _ _ _ _ _ _) (h := ?_)
    refine Reg.nil ⟨fun h => (by cases h), ?_⟩
    refine LGo.seq ?_
    refine LGo.ifd (ht := fun hc2 => ?_) (hf := fun hc2 => ?_)
    · -- then 2
      have hlt : k < hd.length := by omega
      have hx : (bytesC hd)[((k : Nat) : Int).toNat]? = some [.val (.int .u8 hd[k].toNat)] := by rw [Int.toNat_natCast]; exact bytesC_get (by simp [hlt])
      have hbe := be_take hd k hlt
      have hb0 := be_nn (hd.take k)
      have hb1 := be_lt' (hd.take k) 1 (by rw [List.length_take]; omega)
      generalize hd[k] = c at hx hbe
      have hc0 := u8_lt c
      have hc1 := u8_ge c
      refine LGo.skip ?_
      refine LGo.seq ?_
      refine LGo.block ?_
      refine LGo.seq ?_
      refine LGo.region rfl ?_
      refine R.index I33 (hj := fun hg => ⟨by omega, hx⟩) (h := ?_)
      first | refine R.loadB O5 (h := ?_) | refine R.load1 O5 (h := ?_)
      refine R.assign (h := ?_)
      refine Reg.nil ⟨fun h => (by cases h), ?_⟩
      refine LGo.region rfl ?_
      refine R.move (h := ?_)
      refine R.bin (run_shlE _ _ _ _ _ _ _ (by omega) (shl8_i64 _ hb0 (by omega))) (h := ?_)
      refine R.move (h := ?_)
      first | refine R.convI Tryz.runUnderlying5 Tryz.runUnderlying3 (h := ?_) | refine R.convW Tryz.runUnderlying5 Tryz.runUnderlying3 (h := ?_)
      refine R.bin (run_orE _ _ _ _ _ _ (or8_i64 _ _ hb0 hc1 hc0 (by omega))) (h := ?_)
      rw [← hbe]
      refine R.assign (h := ?_)
      refine Reg.nil ⟨fun h => (by cases h), ?_⟩
      refine LGo.inBlock ?_
      refine LGo.region rfl ?_
      first | refine R.add (h := ?_) | refine R.addW (h := ?_)
      refine R.move (h := ?_)
      refine Reg.nil ⟨fun h => (by cases h), ?_⟩
      refine LGo.inLoop ?_
      exact LGo.next _ (fun o h => by have := (hA o).1 h; omega) (by omega) (ih (k + 1) hlt (by omega)) (by repeat (first | exact trivial | refine ⟨rfl, ?_⟩)) (by repeat (first | exact trivial | refine ⟨rfl, ?_⟩))
    · -- else 2
      have hk' : k = hd.length := by omega
      subst hk'
      rw [List.take_length]
      have hn0 := be_nn hd
      have hn1 := be_lt' hd 2 hhl
      refine LGo.exit rfl ?_
      refine LGo.seq ?_
      refine LGo.region rfl ?_
      refine R.move (h := ?_)
      refine R.move (h := ?_)
      refine R.sliceLo SF33 (ha := fun _ => ⟨by omega, by rw [bytesC_length]; omega⟩) (h := ?_)
      rw [bytesC_drop, ← hbd]
      refine R.assign (h := ?_)
      refine Reg.nil ⟨fun h => (by cases h), ?_⟩
      refine LGo.seq ?_
      refine LGo.seq ?_
      refine LGo.region rfl ?_
      refine R.move (h := ?_)
      refine R.move (h := ?_)
      first | refine R.len S33 (h := ?_) | refine R.lenRs S33 (h := ?_) | refine R.lenV (run_lenNil S33) (h := ?_)
      rw [bytesC_length]
      refine R.bin (run_gtr _ _ _ _ _ _) (h := ?_)
      refine Reg.nil ⟨fun h => (by cases h), ?_⟩
      first | refine LGo.ifd (ht := fun hc3 => ?_) (hf := fun hc3 => ?_) | refine LGo.ifb (ht := fun hc3 => ?_) (hf := fun hc3 => ?_)
      · -- then 3
        rw [if_pos (by omega)] at e1
        rw [e0, ← e1]
        refine LGo.seq ?_
        refine LGo.region rfl ?_
        first | refine R.loadA A55 (h := ?_) | refine R.loadN A55 (h := ?_)
        refine R.storeA A55 (h := ?_)
        refine R.assign (h := ?_)
        refine R.assign (h := ?_)
        refine Reg.nil ⟨fun h => (by cases h), ?_⟩
        first | refine LGo.frzT 5 (h := ?_) | refine LGo.nilSl 5 1 (h := ?_) | skip
        exact LGo.ret (ret_ATT Tryz.results70 A55 hA hmd)
      · -- else 3
        rw [if_neg (by omega)] at e1
        refine LGo.skip ?_
        refine LGo.seq ?_
        refine LGo.seq ?_
        refine LGo.region rfl ?_
        first | refine R.field F88_1 (h := ?_) | refine R.fieldAt F88_1 (h := ?_)
        first | refine R.loadB O3 (h := ?_) | refine R.load1 O3 (h := ?_)
        refine R.bin (run_eql _ _ _ _ _ _) (h := ?_)
        refine Reg.nil ⟨fun h => (by cases h), ?_⟩
        first | refine LGo.ifd (ht := fun hc4 => ?_) (hf := fun hc4 => ?_) | refine LGo.ifb (ht := fun hc4 => ?_) (hf := fun hc4 => ?_)
        · -- then 4
          rw [if_pos hc4] at e1
          rw [e0, ← e1]
          refine LGo.seq ?_
          refine LGo.region rfl ?_
          refine R.move (h := ?_)
          refine R.move (h := ?_)
          refine R.sliceHi SF33 (ha := fun _ => ⟨by omega, by rw [bytesC_length]; omega⟩) (h := ?_)
          rw [bytesC_take]
          refine R.toString Tryz.underlying33 Tryz.underlying5 Tryz.underlying9 (h := ?_)
          first | refine R.field F55_2 (h := ?_) | refine R.fieldAt F55_2 (h := ?_)
          refine R.storeB O9 (h := ?_)
          refine Reg.nil ⟨fun h => (by cases h), ?_⟩
          refine LGo.seq ?_
          refine LGo.region rfl ?_
          first | refine R.loadA A55 (h := ?_) | refine R.loadN A55 (h := ?_)
          refine R.move (h := ?_)
          refine R.move (h := ?_)
          refine R.sliceLo SF33 (ha := fun _ => ⟨by omega, by rw [bytesC_length]; omega⟩) (h := ?_)
          rw [bytesC_drop]
          first | refine R.loadA A88 (h := ?_) | refine R.loadN A88 (h := ?_)
          refine R.move (h := ?_)
          first | refine R.convI Tryz.runUnderlying3 Tryz.runUnderlying22 (h := ?_) | refine R.convW Tryz.runUnderlying3 Tryz.runUnderlying22 (h := ?_)
          refine R.callP (es := [_, _]) (fun _ => within_P _ _) (h := ?_)
          refine R.storeA A55 (h := ?_)
          refine R.assign (h := ?_)
          refine R.assign (h := ?_)
          refine Reg.nil ⟨fun _ => ⟨mixedO, by rfl, by rfl⟩, ?_⟩
          first | refine LGo.frzT 5 (h := ?_) | refine LGo.nilSl 5 1 (h := ?_) | skip
          exact LGo.ret (ret_ATT Tryz.results70 A55 hA hmd)
        · -- else 4
          rw [if_neg hc4] at e1
          have hx0 : 0 < bd.length → (bytesC bd)[((0 : Int)).toNat]? = some [.val (.int .u8 ((bd[0]?).getD 0).toNat)] := fun h => bytesC_get (by show bd[0]? = some ((bd[0]?).getD 0); rw [List.getElem?_eq_getElem h]; rfl)
          generalize (bd[0]?).getD 0 = c0 at e1 hx0
          refine LGo.skip ?_
          refine LGo.seq ?_
          refine LGo.seq ?_
          refine LGo.region rfl ?_
          refine R.move (h := ?_)
          refine R.bin (run_gtr _ _ _ _ _ _) (h := ?_)
          refine R.move (h := ?_)
          refine R.move (h := ?_)
          refine R.bin (run_gtr _ _ _ _ _ _) (h := ?_)
          refine R.move (h := ?_)
          refine R.move (h := ?_)
          refine R.index I33 (hj := fun hg => ⟨by (simp at hg; omega), hx0 (by simp at hg; omega)⟩) (h := ?_)
          first | refine R.loadB O5 (h := ?_) | refine R.load1 O5 (h := ?_)
          refine R.bin (run_eql _ _ _ _ _ _) (h := ?_)
          refine R.and (h := ?_)
          refine R.or (h := ?_)
          refine Reg.nil ⟨fun h => (by cases h), ?_⟩
          first | refine LGo.ifd (ht := fun hc5 => ?_) (hf := fun hc5 => ?_) | refine LGo.ifb (ht := fun hc5 => ?_) (hf := fun hc5 => ?_)
          · -- then 5
            rw [if_pos (by simpa using hc5)] at e1
            rw [e0, ← e1]
            refine LGo.seq ?_
            refine LGo.region rfl ?_
            first | refine R.loadA A55 (h := ?_) | refine R.loadN A55 (h := ?_)
            refine R.storeA A55 (h := ?_)
            refine R.assign (h := ?_)
            refine R.assign (h := ?_)
            refine Reg.nil ⟨fun h => (by cases h), ?_⟩
            first | refine LGo.frzT 5 (h := ?_) | refine LGo.nilSl 5 1 (h := ?_) | skip
            exact LGo.ret (ret_ATT Tryz.results70 A55 hA hmd)
          · -- else 5
            rw [if_neg (by simpa using hc5)] at e1
            obtain ⟨nd, hnd⟩ : ∃ nd, nd = bd.take (be hd).toNat := ⟨_, rfl⟩
            rw [← hnd] at e1
            have hnl : nd.length ≤ 8 := by rw [hnd, List.length_take]; simp at hc5; omega
            refine LGo.skip ?_
            refine LGo.seq ?_
            refine LGo.seq ?_
            refine LGo.region rfl ?_
            refine R.move (h := ?_)
            refine R.move (h := ?_)
            refine R.sliceHi SF33 (ha := fun _ => ⟨by omega, by rw [bytesC_length]; omega⟩) (h := ?_)
            rw [bytesC_take, ← hnd]
            first | refine R.len S33 (h := ?_) | refine R.lenRs S33 (h := ?_) | refine R.lenV (run_lenNil S33) (h := ?_)
            rw [bytesC_length]
            refine R.move (h := ?_)
            refine Reg.nil ⟨fun h => (by cases h), ?_⟩
            refine LGo.block ?_
            refine LGo.loop ?_
            refine LGo.loopG (σ := Nat) (fun x => x ≤ nd.length) (fun x => [(79, (true, .i (x : Nat)))]) (fun x => [(0, .box 88 (r.c.map LV.sv)), (1, .box 55 [.i 0, .u 0, .t []]), (2, .box 55 [.i r.tag, .u (be (nd.take x)), .t []])]) (fun x => nd.length - x) (0) [(1, _), (2, _), (4, _), (7, _), (9, _), (77, _), (78, _)] (by simp) (by repeat (first | exact trivial | refine ⟨rfl, ?_⟩)) (by repeat (first | exact trivial | refine ⟨rfl, ?_⟩)) (by repeat (first | exact trivial | refine ⟨rfl, ?_⟩)) ?_
            rintro k hk1 ih
            refine LGo.seq ?_
            refine LGo.region rfl ?_
            refine R.bin (run_lss _ _ _ _ _ _) (h := ?_)
            refine Reg.nil ⟨fun h => (by cases h), ?_⟩
            refine LGo.seq ?_
            refine LGo.ifd (ht := fun hc6 => ?_) (hf := fun hc6 => ?_)
            · -- then 6
              have hlt : k < nd.length := by omega
              have hx : (bytesC nd)[((k : Nat) : Int).toNat]? = some [.val (.int .u8 nd[k].toNat)] := by rw [Int.toNat_natCast]; exact bytesC_get (by simp [hlt])
              have hbe := be_take nd k hlt
              have hb0 := be_nn (nd.take k)
              have hb1 := be_lt' (nd.take k) 7 (by rw [List.length_take]; omega)
              generalize nd[k] = c at hx hbe
              have hc0 := u8_lt c
              have hc1 := u8_ge c
              refine LGo.skip ?_
              refine LGo.seq ?_
              refine LGo.block ?_
              refine LGo.seq ?_
              refine LGo.region rfl ?_
              refine R.index I33 (hj := fun hg => ⟨by omega, hx⟩) (h := ?_)
              first | refine R.loadB O5 (h := ?_) | refine R.load1 O5 (h := ?_)
              refine R.assign (h := ?_)
              refine Reg.nil ⟨fun h => (by cases h), ?_⟩
              refine LGo.region rfl ?_
              first | refine R.field F55_1 (h := ?_) | refine R.fieldAt F55_1 (h := ?_)
              first | refine R.loadB O22 (h := ?_) | refine R.load1 O22 (h := ?_)
              refine R.bin (run_shlE _ _ _ _ _ _ _ (by omega) (shl8_u64 _ hb0 (by omega))) (h := ?_)
              refine R.move (h := ?_)
              first | refine R.convI Tryz.runUnderlying5 Tryz.runUnderlying22 (h := ?_) | refine R.convW Tryz.runUnderlying5 Tryz.runUnderlying22 (h := ?_)
              refine R.bin (run_orE _ _ _ _ _ _ (or8_u64 _ _ hb0 hc1 hc0 (by omega))) (h := ?_)
              rw [← hbe]
              first | refine R.field F55_1 (h := ?_) | refine R.fieldAt F55_1 (h := ?_)
              refine R.storeB O22 (h := ?_)
              refine Reg.nil ⟨fun h => (by cases h), ?_⟩
              refine LGo.inBlock ?_
              refine LGo.region rfl ?_
              first | refine R.add (h := ?_) | refine R.addW (h := ?_)
              refine R.move (h := ?_)
              refine Reg.nil ⟨fun h => (by cases h), ?_⟩
              refine LGo.inLoop ?_
              exact LGo.next _ (fun o h => by have := (hA o).1 h; omega) (by omega) (ih (k + 1) hlt (by omega)) (by repeat (first | exact trivial | refine ⟨rfl, ?_⟩)) (by repeat (first | exact trivial | refine ⟨rfl, ?_⟩))
            · -- else 6
              have hk' : k = nd.length := by omega
              subst hk'
              rw [List.take_length, e0, ← e1]
              refine LGo.exit rfl ?_
              refine LGo.seq ?_
              refine LGo.region rfl ?_
              first | refine R.loadA A55 (h := ?_) | refine R.loadN A55 (h := ?_)
              refine R.move (h := ?_)
              refine R.move (h := ?_)
              refine R.sliceLo SF33 (ha := fun _ => ⟨by omega, by rw [bytesC_length]; omega⟩) (h := ?_)
              rw [bytesC_drop]
              first | refine R.loadA A88 (h := ?_) | refine R.loadN A88 (h := ?_)
              first | refine R.field F55_1 (h := ?_) | refine R.fieldAt F55_1 (h := ?_)
              first | refine R.loadB O22 (h := ?_) | refine R.load1 O22 (h := ?_)
              refine R.callP (es := [_, _]) (fun _ => within_P _ _) (h := ?_)
              refine R.storeA A55 (h := ?_)
              refine R.assign (h := ?_)
              refine R.assign (h := ?_)
              refine Reg.nil ⟨fun _ => ⟨mixedO, by rfl, by rfl⟩, ?_⟩
              first | refine LGo.frzT 5 (h := ?_) | refine LGo.nilSl 5 1 (h := ?_) | skip
              exact LGo.ret (ret_ATT Tryz.results70 A55 hA hmd)




abbrev b0 (b : List UInt8) : UInt8 := (b[0]?).getD 0
abbrev b1 (b : List UInt8) : UInt8 := (b[1]?).getD 0
def readV (r : Rule) (b : List UInt8) : Fld × Int × Bool :=
  if r.kind = 1 then
    (if (b.length : Int) < 1 ∨ (8 : Int) < (b0 b).toNat ∨ (b.length : Int) < 1 + (b0 b).toNat ∨ ((0 : Int) < (b0 b).toNat ∧ ((b1 b).toNat : Int) = 0) then (⟨r.tag, 0, []⟩, 0, false)
     else (⟨r.tag, be ((b.drop 1).take (b0 b).toNat), []⟩, 1 + (b0 b).toNat, within r (be ((b.drop 1).take (b0 b).toNat))))
  else if (b.length : Int) < 2 then (⟨r.tag, 0, []⟩, 0, false)
  else if within r (256 * (b0 b).toNat + (b1 b).toNat) = false ∨ (b.length : Int) < 2 + (256 * (b0 b).toNat + (b1 b).toNat) then (⟨r.tag, 0, []⟩, 0, false)
  else (⟨r.tag, 0, (b.take (2 + (256 * (b0 b).toNat + (b1 b).toNat))).drop 2⟩, 2 + (256 * (b0 b).toNat + (b1 b).toNat), true)


end Go.Proofs.YtcobkjognpjikaaGreatDoor
