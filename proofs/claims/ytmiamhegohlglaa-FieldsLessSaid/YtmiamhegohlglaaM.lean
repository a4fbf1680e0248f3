/- fields.put: the bytes of a field, behind others. -/
import Derived.Test.YtmiamhegohlglaaL
import Derived.Test.YtmiamhegohlglaaC24
set_option linter.unusedSimpArgs false
set_option linter.unusedVariables false
namespace Go.Proofs.Ytmiamhegohlglaa

theorem low_len (x : Int) : ∀ k, (low x k).length = k
  | 0 => rfl
  | k + 1 => by simp [low, low_len x k]
theorem digs_len (x : Int) (h0 : 0 ≤ x) (h1 : x < 18446744073709551616) : (digs x).length ≤ 8 := by
  have := bits_le x.toNat 64 (by omega)
  rw [digs, low_len]; omega
/-- is a field's value allowed by its rule -/
def fldE (r : Rule) (x : Fld) : Int := if r.kind = 1 then (if (!decide (x.txt = [])) = true then 2 else if (!within r x.num) = true then 7 else 0) else (if (!decide (x.num = 0)) = true then 2 else if (!within r x.txt.length) = true then 7 else 0)
def fldB (r : Rule) (x : Fld) : List Int := if r.kind = 1 then [x.tag, ((digs x.num).length : Int)] ++ digs x.num else [x.tag, (x.txt.length : Int) / 256, (x.txt.length : Int) % 256] ++ textI x.txt
theorem wrap_u8m (a : Int) : IntKind.u8.wrap a = a % 256 := wrap_u8 a

theorem put_err (bs : List (List SV)) (r : Rule) (x : Fld) (hbs : bs.length ≤ 100000) (ht0 : 0 ≤ x.tag) (ht1 : x.tag < 256) (hn0 : 0 ≤ x.num) (hn1 : x.num < 18446744073709551616) (hx : x.txt.length ≤ 1000) (e : Int) (he : fldE r x = e) (h0 : e ≠ 0) : LC Try.prog 33 1 [.ref 0, .agg (r.c.map LV.sv), .agg (x.c.map LV.sv)] [(0, .rs 5 1 bs)] (.tup [.v (.slice none 0 0), .i e]) [] 0 := by
  refine LC.of_go Try.func33 (c := _) rfl (by kernel_rfl) (by rw [Try.ntmps33]; simp) rfl rfl (by simp [LO.lt, LV.lts, LV.lt]) (by simp) ?_
  intro B hA hmd
  unfold fldE at he
  refine LGo.seq ?_
  refine LGo.region rfl ?_  -- region 0
  refine R.box (h := ?_)
  refine R.box (h := ?_)
  refine R.assign (h := ?_)
  refine R.assign (h := ?_)
  refine Reg.nil ⟨fun h => (by cases h), ?_⟩
  refine LGo.seq ?_
  refine LGo.region rfl ?_  -- region 1
  first | refine R.field F34_2 (h := ?_) | refine R.fieldAt F34_2 (h := ?_)
  first | refine R.loadB O9 (h := ?_) | refine R.load1 O9 (h := ?_)
  refine R.lenT Try.runUnderlying9 (h := ?_)
  first | refine R.convI Try.runUnderlying3 Try.runUnderlying32 (h := ?_) | refine R.convW Try.runUnderlying3 Try.runUnderlying32 (h := ?_)
  refine R.assign (h := ?_)
  refine Reg.nil ⟨fun h => (by cases h), ?_⟩
  refine LGo.seq ?_
  refine LGo.seq ?_
  refine LGo.region rfl ?_  -- region 2
  first | refine R.field F45_1 (h := ?_) | refine R.fieldAt F45_1 (h := ?_)
  first | refine R.loadB O3 (h := ?_) | refine R.load1 O3 (h := ?_)
  refine R.bin (run_eql _ _ _ _ _ _) (h := ?_)
  refine Reg.nil ⟨fun h => (by cases h), ?_⟩
  first | refine LGo.ifd (ht := fun hc => ?_) (hf := fun hc => ?_) | refine LGo.ifb (ht := fun hc => ?_) (hf := fun hc => ?_)
  · -- then 1
    rw [if_pos hc] at he
    refine LGo.seq ?_
    refine LGo.region rfl ?_  -- region 3
    first | refine R.field F34_1 (h := ?_) | refine R.fieldAt F34_1 (h := ?_)
    first | refine R.loadB O32 (h := ?_) | refine R.load1 O32 (h := ?_)
    refine R.assign (h := ?_)
    refine Reg.nil ⟨fun h => (by cases h), ?_⟩
    refine LGo.seq ?_
    refine LGo.region rfl ?_  -- region 4
    first | refine R.field F34_2 (h := ?_) | refine R.fieldAt F34_2 (h := ?_)
    first | refine R.loadB O9 (h := ?_) | refine R.load1 O9 (h := ?_)
    refine R.bin (run_neqT _ _ _ _ _) (h := ?_)
    refine Reg.nil ⟨fun h => (by cases h), ?_⟩
    first | refine LGo.ifd (ht := fun hc2 => ?_) (hf := fun hc2 => ?_) | refine LGo.ifb (ht := fun hc2 => ?_) (hf := fun hc2 => ?_)
    · -- then 2
      rw [if_pos hc2] at he; subst he
      refine LGo.seq ?_
      refine LGo.region rfl ?_  -- region 5
      refine R.assign (h := ?_)
      refine R.assign (h := ?_)
      refine Reg.nil ⟨fun h => (by cases h), ?_⟩
      exact LGo.ret (ret_TT Try.results33 hA hmd)
    · -- else 2
      rw [if_neg (by rw [hc2]; simp)] at he
      refine LGo.skip ?_
      refine LGo.seq ?_
      refine LGo.seq ?_
      refine LGo.region rfl ?_  -- region 8
      first | refine R.loadA A45 (h := ?_) | refine R.loadN A45 (h := ?_)
      refine R.move (h := ?_)
      refine R.callP (es := [_, _]) (fun _ => within_P _ _) (h := ?_)
      refine R.not (h := ?_)
      refine Reg.nil ⟨fun h => (by cases h), ?_⟩
      first | refine LGo.ifd (ht := fun hc3 => ?_) (hf := fun hc3 => ?_) | refine LGo.ifb (ht := fun hc3 => ?_) (hf := fun hc3 => ?_)
      · -- then 3
        rw [if_pos hc3] at he; subst he
        refine LGo.seq ?_
        refine LGo.region rfl ?_  -- region 9
        refine R.assign (h := ?_)
        refine R.assign (h := ?_)
        refine Reg.nil ⟨fun h => (by cases h), ?_⟩
        exact LGo.ret (ret_TT Try.results33 hA hmd)
      · -- else 3
        exact absurd he.symm (by rw [if_neg (by rw [hc3]; simp)]; exact h0) -- END
  · -- else 1
    rw [if_neg hc] at he
    refine LGo.seq ?_
    refine LGo.region rfl ?_  -- region 6
    first | refine R.field F34_1 (h := ?_) | refine R.fieldAt F34_1 (h := ?_)
    first | refine R.loadB O32 (h := ?_) | refine R.load1 O32 (h := ?_)
    refine R.bin (run_neq _ _ _ _ _ _) (h := ?_)
    refine Reg.nil ⟨fun h => (by cases h), ?_⟩
    first | refine LGo.ifd (ht := fun hc4 => ?_) (hf := fun hc4 => ?_) | refine LGo.ifb (ht := fun hc4 => ?_) (hf := fun hc4 => ?_)
    · -- then 4
      rw [if_pos hc4] at he; subst he
      refine LGo.seq ?_
      refine LGo.region rfl ?_  -- region 7
      refine R.assign (h := ?_)
      refine R.assign (h := ?_)
      refine Reg.nil ⟨fun h => (by cases h), ?_⟩
      exact LGo.ret (ret_TT Try.results33 hA hmd)
    · -- else 4
      rw [if_neg (by rw [hc4]; simp)] at he
      refine LGo.skip ?_
      refine LGo.seq ?_
      refine LGo.seq ?_
      refine LGo.region rfl ?_  -- region 8
      first | refine R.loadA A45 (h := ?_) | refine R.loadN A45 (h := ?_)
      refine R.move (h := ?_)
      refine R.callP (es := [_, _]) (fun _ => within_P _ _) (h := ?_)
      refine R.not (h := ?_)
      refine Reg.nil ⟨fun h => (by cases h), ?_⟩
      first | refine LGo.ifd (ht := fun hc5 => ?_) (hf := fun hc5 => ?_) | refine LGo.ifb (ht := fun hc5 => ?_) (hf := fun hc5 => ?_)
      · -- then 5
        rw [if_pos hc5] at he; subst he
        refine LGo.seq ?_
        refine LGo.region rfl ?_  -- region 9
        refine R.assign (h := ?_)
        refine R.assign (h := ?_)
        refine Reg.nil ⟨fun h => (by cases h), ?_⟩
        exact LGo.ret (ret_TT Try.results33 hA hmd)
      · -- else 5
        exact absurd he.symm (by rw [if_neg (by rw [hc5]; simp)]; exact h0) -- END

theorem put_ok (bs : List (List SV)) (r : Rule) (x : Fld) (hbs : bs.length ≤ 100000) (ht0 : 0 ≤ x.tag) (ht1 : x.tag < 256) (hn0 : 0 ≤ x.num) (hn1 : x.num < 18446744073709551616) (hx : x.txt.length ≤ 1000) (he : fldE r x = 0) : LC Try.prog 33 1 [.ref 0, .agg (r.c.map LV.sv), .agg (x.c.map LV.sv)] [(0, .rs 5 1 bs)] (.tup [.ref 1, .i 0]) [(1, .rs 5 1 (bs ++ ic .u8 (fldB r x)))] 1 := by
  refine LC.of_go Try.func33 (c := _) rfl (by kernel_rfl) (by rw [Try.ntmps33]; simp) rfl rfl (by simp [LO.lt, LV.lts, LV.lt]) (by simp) ?_
  intro B hA hmd
  unfold fldE at he
  have hdl := digs_len x.num hn0 hn1
  refine LGo.seq ?_
  refine LGo.region rfl ?_  -- region 0
  refine R.box (h := ?_)
  refine R.box (h := ?_)
  refine R.assign (h := ?_)
  refine R.assign (h := ?_)
  refine Reg.nil ⟨fun h => (by cases h), ?_⟩
  refine LGo.seq ?_
  refine LGo.region rfl ?_  -- region 1
  first | refine R.field F34_2 (h := ?_) | refine R.fieldAt F34_2 (h := ?_)
  first | refine R.loadB O9 (h := ?_) | refine R.load1 O9 (h := ?_)
  refine R.lenT Try.runUnderlying9 (h := ?_)
  first | refine R.convI Try.runUnderlying3 Try.runUnderlying32 (h := ?_) | refine R.convW Try.runUnderlying3 Try.runUnderlying32 (h := ?_)
  refine R.assign (h := ?_)
  refine Reg.nil ⟨fun h => (by cases h), ?_⟩
  refine LGo.seq ?_
  refine LGo.seq ?_
  refine LGo.region rfl ?_  -- region 2
  first | refine R.field F45_1 (h := ?_) | refine R.fieldAt F45_1 (h := ?_)
  first | refine R.loadB O3 (h := ?_) | refine R.load1 O3 (h := ?_)
  refine R.bin (run_eql _ _ _ _ _ _) (h := ?_)
  refine Reg.nil ⟨fun h => (by cases h), ?_⟩
  first | refine LGo.ifd (ht := fun hc => ?_) (hf := fun hc => ?_) | refine LGo.ifb (ht := fun hc => ?_) (hf := fun hc => ?_)
  · -- then 1
    rw [if_pos hc] at he
    have e : fldB r x = [x.tag, ((digs x.num).length : Int)] ++ digs x.num := by unfold fldB; rw [if_pos hc]
    rw [e, ic_app, ← List.append_assoc]
    refine LGo.seq ?_
    refine LGo.region rfl ?_  -- region 3
    first | refine R.field F34_1 (h := ?_) | refine R.fieldAt F34_1 (h := ?_)
    first | refine R.loadB O32 (h := ?_) | refine R.load1 O32 (h := ?_)
    refine R.assign (h := ?_)
    refine Reg.nil ⟨fun h => (by cases h), ?_⟩
    refine LGo.seq ?_
    refine LGo.region rfl ?_  -- region 4
    first | refine R.field F34_2 (h := ?_) | refine R.fieldAt F34_2 (h := ?_)
    first | refine R.loadB O9 (h := ?_) | refine R.load1 O9 (h := ?_)
    refine R.bin (run_neqT _ _ _ _ _) (h := ?_)
    refine Reg.nil ⟨fun h => (by cases h), ?_⟩
    first | refine LGo.ifd (ht := fun hc2 => ?_) (hf := fun hc2 => ?_) | refine LGo.ifb (ht := fun hc2 => ?_) (hf := fun hc2 => ?_)
    · -- then 2
      rw [if_pos hc2] at he; simp at he -- END
    · -- else 2
      rw [if_neg (by rw [hc2]; simp)] at he
      refine LGo.skip ?_
      refine LGo.seq ?_
      refine LGo.seq ?_
      refine LGo.region rfl ?_  -- region 8
      first | refine R.loadA A45 (h := ?_) | refine R.loadN A45 (h := ?_)
      refine R.move (h := ?_)
      refine R.callP (es := [_, _]) (fun _ => within_P _ _) (h := ?_)
      refine R.not (h := ?_)
      refine Reg.nil ⟨fun h => (by cases h), ?_⟩
      first | refine LGo.ifd (ht := fun hc3 => ?_) (hf := fun hc3 => ?_) | refine LGo.ifb (ht := fun hc3 => ?_) (hf := fun hc3 => ?_)
      · -- then 3
        rw [if_pos hc3] at he; simp at he -- END
      · -- else 3
        refine LGo.skip ?_
        refine LGo.seq ?_
        refine LGo.seq ?_
        refine LGo.region rfl ?_  -- region 10
        first | refine R.field F45_1 (h := ?_) | refine R.fieldAt F45_1 (h := ?_)
        first | refine R.loadB O3 (h := ?_) | refine R.load1 O3 (h := ?_)
        refine R.bin (run_eql _ _ _ _ _ _) (h := ?_)
        refine Reg.nil ⟨fun h => (by cases h), ?_⟩
        refine LGo.ifb (ht := fun hc4 => ?_) (hf := fun hc4 => by exact absurd hc (by simpa using hc4))
        refine LGo.seq ?_
        refine LGo.region rfl ?_  -- region 11
        refine R.alloc Z23 (h := ?_)
        refine Reg.nil ⟨fun h => (by cases h), ?_⟩
        refine LGo.seq ?_
        refine LGo.seq ?_
        refine LGo.region rfl ?_  -- region 12
        refine R.move (h := ?_)
        refine R.callX (es := [_]) [] (digits_L x.num) (h := ?_)
        refine Reg.nil ⟨fun h => (by cases h), ?_⟩
        refine LGo.block ?_
        refine LGo.packNil 3 0 5 1 (h := ?_)
        refine LGo.keep [(0, (true, .ref 0)), (4, (true, .ptr 1 0)), (5, (true, .ptr 2 0)), (8, (true, .u x.num)), (9, (true, .ptr 3 0)), (34, (true, .fn (.func 44) [] [.ptr 4 0]))] ([(0, .rs 5 1 bs), (1, .box 45 (r.c.map LV.sv)), (2, .box 34 (x.c.map LV.sv)), (3, .bx 23 [.v undef] 0 5 1 (ic .u8 ((digs x.num).take 0))), (4, .box 32 [.u x.num])]) ⟨rfl, rfl, rfl, rfl, rfl, rfl, trivial⟩ ⟨rfl, rfl, rfl, rfl, rfl, trivial⟩ ?_
        refine LGo.rangeN (fun fn ac bc => [(0, .rs 5 1 bs), (1, .box 45 (r.c.map LV.sv)), (2, .box 34 (x.c.map LV.sv)), (3, .bx 23 [.v undef] 0 5 1 (ic .u8 ((digs x.num).take (digs x.num).length))), (4, .box 32 [.u x.num]), (5, .raw (.deferred (some []))), (6, .loop fn Try.f33.ntmps [(0, (true, .ref 0)), (4, (true, .ptr 1 0)), (5, (true, .ptr 2 0)), (8, (true, .u x.num)), (9, (true, .ptr 3 0)), (34, (true, .fn (.func 44) [] [.ptr 4 0]))] #[35] ac bc .ready none)]) (hit := fun fn ac bc hac hbc => ?_) (h := fun fn => ?_)
        · -- the iterator
          have hlen : (rounds (digs x.num)).length = (digs x.num).length := by simp [rounds]
          refine digits1 x.num hn0 hn1 (y := 6) (c := 4) (by decide) (by decide) ⟨rfl, by simp [LO.lt, LV.lts, LV.lt, lts_sv], 32, rfl⟩ ?_
          have hrun := YRun.fold (P := Try.prog) (y := 6) (C := HoldsNum 7 4 x.num) (rounds (digs x.num)) (fun j => [(0, .rs 5 1 bs), (1, .box 45 (r.c.map LV.sv)), (2, .box 34 (x.c.map LV.sv)), (3, .bx 23 [.v undef] 0 5 1 (ic .u8 ((digs x.num).take j))), (4, .box 32 [.u x.num]), (5, .raw (.deferred (some []))), (6, .loop fn Try.f33.ntmps [(0, (true, .ref 0)), (4, (true, .ptr 1 0)), (5, (true, .ptr 2 0)), (8, (true, .u x.num)), (9, (true, .ptr 3 0)), (34, (true, .fn (.func 44) [] [.ptr 4 0]))] #[35] ac bc .ready none)]) (fun j hj => ⟨rfl, by simp [LO.lt, LV.lts, LV.lt, lts_sv], 32, rfl⟩) (fun j hj => ?_)
          · rw [hlen] at hrun; exact hrun
          have hj' : j < (digs x.num).length := by rw [← hlen]; exact hj
          have hd : (rounds (digs x.num))[j] = [.y (digs x.num)[j]] := by simp [rounds]
          have htk : (digs x.num).take (j + 1) = (digs x.num).take j ++ [(digs x.num)[j]] := by rw [List.take_succ_eq_append_getElem hj']
          rw [hd, htk, ← ic_snoc]
          generalize (digs x.num)[j] = dg
          refine Yld.walk 7 ((10, (true, .y dg)) :: (35, (true, .y dg)) :: [(0, (true, .ref 0)), (4, (true, .ptr 1 0)), (5, (true, .ptr 2 0)), (8, (true, .u x.num)), (9, (true, .ptr 3 0)), (34, (true, .fn (.func 44) [] [.ptr 4 0]))]) (hpN := by rw [show Try.f33.ntmps = 65 from Try.ntmps33]; simp) (hA := ?_) (hB := ?_)
          · intro l B' hA' hmd'; subst hac
            refine LGo.region rfl ?_  -- region 13
            refine R.assign (h := ?_)
            refine Reg.nil ⟨fun h => (by cases h), ?_⟩
            exact LGo.done (fun cx a w hr => ⟨rfl, cx, hr⟩)
          · intro l B' hA' hmd'; subst hbc
            refine LGo.unpack 3 (h := ?_)
            refine LGo.block ?_
            refine LGo.region rfl ?_  -- region 14
            first | refine R.loadB O23 (h := ?_) | refine R.load1 O23 (h := ?_)
            refine R.move (h := ?_)
            refine R.buildSliceG AP23 (xs := [_]) (es := [_]) (hcs := CellsOfs.cons (CellsOf.one rfl) CellsOfs.nil) (h := ?_)
            refine R.appendS AP23 (hs := SrcOk.sl Try.underlying23 (by simp)) (hlen := by rw [ic_len]; simp; omega) (h := ?_)
            refine R.storeB O23 (h := ?_)
            refine Reg.nil ⟨fun h => (by cases h), ?_⟩
            refine LGo.inBlock ?_
            refine LGo.pack 3 0 (h := ?_)
            refine LGo.drop 7 (fun o h => (hA' o).1 h) (by omega) [] ((6, .loop fn Try.f33.ntmps [(0, (true, .ref 0)), (4, (true, .ptr 1 0)), (5, (true, .ptr 2 0)), (8, (true, .u x.num)), (9, (true, .ptr 3 0)), (34, (true, .fn (.func 44) [] [.ptr 4 0]))] #[35] ac _ .busy none) :: (5, .raw (.deferred (some []))) :: [(0, .rs 5 1 bs), (1, .box 45 (r.c.map LV.sv)), (2, .box 34 (x.c.map LV.sv)), (3, .bx 23 [.v undef] 0 5 1 (ic .u8 ((digs x.num).take j) ++ [[.val (.int .u8 dg)]])), (4, .box 32 [.u x.num])]) trivial ⟨rfl, rfl, rfl, rfl, rfl, rfl, rfl, trivial⟩ (by simp) (by simp [LO.lt, LV.lts, LV.lt, lts_sv]) (h := ?_)
            refine LGo.done (RoundEnd.go rfl (fun o z hz hne => ?_) rfl)
            rcases o with _ | _ | _ | _ | _ | _ | _ | o <;> first | exact absurd rfl hne | exact hz
        · -- behind the range
          rw [List.take_length]
          refine LGo.unpack 3 (h := ?_)
          refine LGo.inBlock ?_
          refine LGo.seq ?_
          refine LGo.region rfl ?_  -- region 15 DRAWS
          refine R.move (h := ?_)
          first | refine R.field F34_0 (h := ?_) | refine R.fieldAt F34_0 (h := ?_)
          first | refine R.loadB O3 (h := ?_) | refine R.load1 O3 (h := ?_)
          first | refine R.convI Try.runUnderlying3 Try.runUnderlying5 (h := ?_) | refine R.convW Try.runUnderlying3 Try.runUnderlying5 (h := ?_)
          first | refine R.loadB O23 (h := ?_) | refine R.load1 O23 (h := ?_)
          first | refine R.len S23 (h := ?_) | refine R.lenRs S23 (h := ?_) | refine R.lenV (run_lenNil S23) (h := ?_)
          rw [ic_len]
          first | refine R.convI Try.runUnderlying3 Try.runUnderlying5 (h := ?_) | refine R.convW Try.runUnderlying3 Try.runUnderlying5 (h := ?_)
          refine R.buildSliceG AP23 (xs := [_, _]) (es := [_, _]) (hcs := CellsOfs.cons (CellsOf.one rfl) (CellsOfs.cons (CellsOf.one rfl) CellsOfs.nil)) (h := ?_)
          refine R.appendS AP23 (hs := SrcOk.sl Try.underlying23 (by simp)) (hlen := by simp; omega) (h := ?_)
          first | refine R.loadB O23 (h := ?_) | refine R.load1 O23 (h := ?_)
          refine R.appendS AP23 (hs := SrcOk.rs Try.underlying23 (ic_one _ _)) (hlen := by rw [ic_len]; simp; omega) (h := ?_)
          refine R.assign (h := ?_)
          refine R.assign (h := ?_)
          refine Reg.nil ⟨fun _ => ⟨mixedO, by rfl, by rfl⟩, ?_⟩
          exact LGo.ret (FnPost.mark (by rfl) (FnPost.finI [0, 9] (res_TT Try.results33) hA hmd))
  · -- else 1
    rw [if_neg hc] at he
    have e : fldB r x = [x.tag, (x.txt.length : Int) / 256, (x.txt.length : Int) % 256] ++ textI x.txt := by unfold fldB; rw [if_neg hc]
    rw [e, ic_app, ← List.append_assoc, ← bytesC_text]
    refine LGo.seq ?_
    refine LGo.region rfl ?_  -- region 6
    first | refine R.field F34_1 (h := ?_) | refine R.fieldAt F34_1 (h := ?_)
    first | refine R.loadB O32 (h := ?_) | refine R.load1 O32 (h := ?_)
    refine R.bin (run_neq _ _ _ _ _ _) (h := ?_)
    refine Reg.nil ⟨fun h => (by cases h), ?_⟩
    first | refine LGo.ifd (ht := fun hc5 => ?_) (hf := fun hc5 => ?_) | refine LGo.ifb (ht := fun hc5 => ?_) (hf := fun hc5 => ?_)
    · -- then 5
      rw [if_pos hc5] at he; simp at he -- END
    · -- else 5
      rw [if_neg (by rw [hc5]; simp)] at he
      refine LGo.skip ?_
      refine LGo.seq ?_
      refine LGo.seq ?_
      refine LGo.region rfl ?_  -- region 8
      first | refine R.loadA A45 (h := ?_) | refine R.loadN A45 (h := ?_)
      refine R.move (h := ?_)
      refine R.callP (es := [_, _]) (fun _ => within_P _ _) (h := ?_)
      refine R.not (h := ?_)
      refine Reg.nil ⟨fun h => (by cases h), ?_⟩
      first | refine LGo.ifd (ht := fun hc6 => ?_) (hf := fun hc6 => ?_) | refine LGo.ifb (ht := fun hc6 => ?_) (hf := fun hc6 => ?_)
      · -- then 6
        rw [if_pos hc6] at he; simp at he -- END
      · -- else 6
        refine LGo.skip ?_
        refine LGo.seq ?_
        refine LGo.seq ?_
        refine LGo.region rfl ?_  -- region 10
        first | refine R.field F45_1 (h := ?_) | refine R.fieldAt F45_1 (h := ?_)
        first | refine R.loadB O3 (h := ?_) | refine R.load1 O3 (h := ?_)
        refine R.bin (run_eql _ _ _ _ _ _) (h := ?_)
        refine Reg.nil ⟨fun h => (by cases h), ?_⟩
        refine LGo.ifb (ht := fun hc7 => by exact absurd (by simpa using hc7) hc) (hf := fun hc7 => ?_)
        refine LGo.skip ?_
        refine LGo.seq ?_
        refine LGo.region rfl ?_  -- region 16 DRAWS
        refine R.move (h := ?_)
        first | refine R.field F34_0 (h := ?_) | refine R.fieldAt F34_0 (h := ?_)
        first | refine R.loadB O3 (h := ?_) | refine R.load1 O3 (h := ?_)
        first | refine R.convI Try.runUnderlying3 Try.runUnderlying5 (h := ?_) | refine R.convW Try.runUnderlying3 Try.runUnderlying5 (h := ?_)
        refine R.move (h := ?_)
        refine R.shr (h := ?_)
        rw [show (x.txt.length : Int) / 2 ^ (min (Int.toNat 8) IntKind.u64.bits) = (x.txt.length : Int) / 256 from rfl]
        first | refine R.convI Try.runUnderlying32 Try.runUnderlying5 (h := ?_) | refine R.convW Try.runUnderlying32 Try.runUnderlying5 (h := ?_)
        refine R.move (h := ?_)
        first | refine R.convI Try.runUnderlying32 Try.runUnderlying5 (h := ?_) | refine R.convW Try.runUnderlying32 Try.runUnderlying5 (h := ?_)
        rw [wrap_u8m]
        refine R.buildSliceG AP23 (xs := [_, _, _]) (es := [_, _, _]) (hcs := CellsOfs.cons (CellsOf.one rfl) (CellsOfs.cons (CellsOf.one rfl) (CellsOfs.cons (CellsOf.one rfl) CellsOfs.nil))) (h := ?_)
        refine R.appendS AP23 (hs := SrcOk.sl Try.underlying23 (by simp)) (hlen := by simp; omega) (h := ?_)
        first | refine R.field F34_2 (h := ?_) | refine R.fieldAt F34_2 (h := ?_)
        first | refine R.loadB O9 (h := ?_) | refine R.load1 O9 (h := ?_)
        refine R.appendS AP23 (hs := SrcOk.strT Try.underlying9) (hlen := by rw [bytesC_length]; simp; omega) (h := ?_)
        refine R.assign (h := ?_)
        refine R.assign (h := ?_)
        refine Reg.nil ⟨fun _ => ⟨mixedO, by rfl, by rfl⟩, ?_⟩
        exact LGo.ret (FnPost.finI [0, 4] (res_TT Try.results33) hA hmd)

end Go.Proofs.Ytmiamhegohlglaa
