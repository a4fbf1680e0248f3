/- requests, the reference: Decode; what the two return is the same. -/
import Derived.Test.YtckbomkcnmcdaaaGreatDoorRB
set_option linter.unusedSimpArgs false
set_option linter.unusedVariables false
namespace Go.Proofs.YtckbomkcnmcdaaaGreatDoor

/-- groundlingref09.Decode -/
def decR9 : List UInt8 → Rq × Int × Int
  | [] => (zeroQ, 0, 11)
  | c :: b => if wordQ c.toNat = [] then (zeroQ, 0, 11) else if (!decide ((decode (rulesR c.toNat).1 b).2.2 = 0)) = true then (zeroQ, (decode (rulesR c.toNat).1 b).2.1 + 1, 11) else (foldQ { zeroQ with kind := c.toNat } (decode (rulesR c.toNat).1 b).1, 0, 0)

theorem decR9_cons (c : UInt8) (b : List UInt8) (hb : (c :: b).length ≤ 9000) : PC Tryz.prog 23 [.sv (.sl 1 (bytesC (c :: b)))] (.tup [.agg ((decR9 (c :: b)).1.c.map LV.sv), .i (decR9 (c :: b)).2.1, .i (decR9 (c :: b)).2.2]) := by
 refine ⟨LC.of_go Tryz.func23 (c := _) rfl (by kernel_rfl) (by rw [Tryz.ntmps23]; simp) rfl rfl (by simp [LO.lt, LV.lts, LV.lt]) (by simp) ?_⟩
 intro B hA hmd
 obtain ⟨g, e0⟩ : ∃ g, decR9 (c :: b) = g := ⟨_, rfl⟩
 have e1 := e0
 rw [decR9] at e1
 rw [e0]
 have hcl := c.toNat_lt
 have hat := decode_at (rulesR c.toNat).1 b
 have hbl : b.length + 1 ≤ 9000 := by simpa using hb
 have hdl := decode_len (rulesR c.toNat).1 b
 refine .seq ?_
 refine .region rfl ?_
 refine R.alloc Z35 (h := ?_)
 refine R.assign (h := ?_)
 refine R.assign (h := ?_)
 refine .n0 ?_
 refine .seq ?_
 refine .seq ?_
 refine .region rfl ?_
 refine R.move (h := ?_)
 first | refine R.len S37 (h := ?_) | refine R.lenRs S37 (h := ?_) | refine R.lenV (run_lenNil S37) (h := ?_)
 rw [bytesC_length]
 refine R.bin (run_eql _ _ _ _ _ _) (h := ?_)
 refine R.move (h := ?_)
 refine R.move (h := ?_)
 refine R.index I37 (hj := fun hg => ⟨by (simp at hg; omega), rfl⟩) (h := ?_)
 first | refine R.loadB O5 (h := ?_) | refine R.load1 O5 (h := ?_)
 first | refine R.convI Tryz.runUnderlying5 Tryz.runUnderlying3 (h := ?_) | refine R.convW Tryz.runUnderlying5 Tryz.runUnderlying3 (h := ?_)
 refine R.callP (es := [_]) (fun _ => wordQ_P c.toNat) (hes := fun h => by rw [List.map_cons, List.map_nil, entLV_eq h]) (h := ?_)
 refine R.bin (run_eqlT _ _ _ _ _) (h := ?_)
 refine R.or (h := ?_)
 refine .n0 ?_
 refine LGo.ifb (ht := fun hc => ?_) (hf := fun hc => ?_)
 ·
  rw [if_pos (by simp at hc; exact hc.resolve_left (by omega))] at e1; rw [← e1]
  refine .seq ?_
  refine .region rfl ?_
  refine R.build BF35 (is := []) (xs := []) (es := []) (h := ?_)
  refine R.storeA A35 (h := ?_)
  refine R.assign (h := ?_)
  refine R.assign (h := ?_)
  refine .n0 ?_
  exact LGo.ret (ret_ATT Tryz.results23 A35 hA hmd)
 ·
  rw [if_neg (by simp at hc; exact hc.2)] at e1
  refine .skip ?_
  refine .seq ?_
  refine .region rfl ?_
  refine R.move (h := ?_)
  refine R.index I37 (hj := fun hg => ⟨by omega, rfl⟩) (h := ?_)
  first | refine R.loadB O5 (h := ?_) | refine R.load1 O5 (h := ?_)
  first | refine R.convI Tryz.runUnderlying5 Tryz.runUnderlying3 (h := ?_) | refine R.convW Tryz.runUnderlying5 Tryz.runUnderlying3 (h := ?_)
  refine R.build BF35 (is := [0]) (xs := [_]) (es := [_]) (h := ?_)
  refine R.alloc Z35 (h := ?_)
  refine R.storeA A35 (h := ?_)
  refine .n0 ?_
  refine .seq ?_
  refine .region rfl ?_
  first | refine R.field F35_0 (h := ?_) | refine R.fieldAt F35_0 (h := ?_)
  first | refine R.loadB O3 (h := ?_) | refine R.load1 O3 (h := ?_)
  refine R.callP (es := [_]) (fun _ => rulesR_P c.toNat) (h := ?_)
  refine R.move (h := ?_)
  refine R.extract (h := ?_)
  refine R.extract (h := ?_)
  refine R.assign (h := ?_)
  refine R.assign (h := ?_)
  refine .n0 ?_
  refine .seq ?_
  refine .region rfl ?_
  refine R.move (h := ?_)
  refine R.move (h := ?_)
  refine R.sliceLo SF37 (ha := fun _ => by rw [bytesC_length]; simp; omega) (h := ?_)
  rw [bytesC_drop, show Int.toNat 1 = 1 from rfl, List.drop_succ_cons, List.drop_zero]
  refine R.callP (es := [_, _]) (fun _ => decodeR_P' (rulesR c.toNat).1 b (by have := rulesR_len c.toNat; omega) (by omega)) (h := ?_)
  refine R.move (h := ?_)
  refine R.extract (h := ?_)
  refine R.extract (h := ?_)
  refine R.extract (h := ?_)
  refine R.assign (h := ?_)
  refine R.assign (h := ?_)
  refine R.assign (h := ?_)
  refine .n0 ?_
  refine .seq ?_
  refine .seq ?_
  refine .region rfl ?_
  refine R.move (h := ?_)
  refine R.bin (run_neq _ _ _ _ _ _) (h := ?_)
  refine .n0 ?_
  refine LGo.ifb (ht := fun hc2 => ?_) (hf := fun hc2 => ?_)
  ·
   rw [if_pos hc2] at e1; rw [← e1]
   refine .seq ?_
   refine .region rfl ?_
   refine R.build BF35 (is := []) (xs := []) (es := []) (h := ?_)
   refine R.move (h := ?_)
   first | refine R.add (h := ?_) | refine R.addW (h := ?_)
   refine R.storeA A35 (h := ?_)
   refine R.assign (h := ?_)
   refine R.assign (h := ?_)
   refine .n0 ?_
   exact LGo.ret (ret_ATT Tryz.results23 A35 hA hmd)
  ·
   rw [if_neg (by rw [hc2]; simp)] at e1; rw [← e1]
   generalize (decode (rulesR c.toNat).1 b).1 = l at *
   refine .skip ?_
   refine .seq ?_
   refine .seq ?_
   refine .region rfl ?_
   refine R.assign (h := ?_)
   refine .n0 ?_
   refine .block ?_
   refine .loop ?_
   refine LGo.loopG (σ := Nat) (fun x => x ≤ l.length) (fun x => [(11, (true, .i (x : Nat)))]) (fun x => [(0, .box 35 (zeroQ.c.map LV.sv)), (1, .box 35 ((foldQ { zeroQ with kind := c.toNat } (l.take x)).c.map LV.sv))]) (fun x => l.length - x) (0) [(2, _), (5, _), (8, _)] (Nat.zero_le _) (by repeat (first | exact trivial | refine ⟨rfl, ?_⟩)) (by repeat (first | exact trivial | refine ⟨rfl, ?_⟩)) (by repeat (first | exact trivial | refine ⟨rfl, ?_⟩)) ?_
   rintro k hk2 ih
   refine .seq ?_
   refine .seq ?_
   refine .region rfl ?_
   refine R.move (h := ?_)
   refine R.move (h := ?_)
   first | refine R.len S66 (h := ?_) | refine R.lenRs S66 (h := ?_) | refine R.lenV (run_lenNil S66) (h := ?_)
   rw [List.length_map]
   refine R.bin (run_lss _ _ _ _ _ _) (h := ?_)
   refine .n0 ?_
   refine LGo.ifd (ht := fun hc3 => ?_) (hf := fun hc3 => ?_)
   ·
    have hlt : k < l.length := by omega
    have hx : (l.map Fld.c)[((k : Nat) : Int).toNat]? = some l[k].c := by simp [hlt]
    have htk : foldQ { zeroQ with kind := c.toNat } (l.take (k + 1)) = putQ (foldQ { zeroQ with kind := c.toNat } (l.take k)) l[k] := by unfold foldQ; rw [List.take_succ_eq_append_getElem hlt, List.foldl_append]; rfl
    generalize l[k] = f at hx htk
    generalize foldQ { zeroQ with kind := c.toNat } (l.take k) = rk at htk ⊢
    refine .skip ?_
    refine .seq ?_
    refine .block ?_
    refine .region rfl ?_
    first | refine R.loadA A35 (h := ?_) | refine R.loadN A35 (h := ?_) | refine R.loadP A35 (h := ?_)
    refine R.move (h := ?_)
    refine R.move (h := ?_)
    refine R.index I66 (hj := fun hg => ⟨by omega, hx⟩) (h := ?_)
    first | refine R.loadA A78 (h := ?_) | refine R.loadN A78 (h := ?_) | refine R.loadP A78 (h := ?_)
    refine R.callP (es := [_, _]) (fun _ => withQ_P rk f) (h := ?_)
    refine R.storeA A35 (h := ?_)
    refine Reg.nil ⟨fun _ => ⟨mixedO, by rfl, by rfl⟩, ?_⟩
    refine .inBlock ?_
    refine .region rfl ?_
    refine R.move (h := ?_)
    first | refine R.add (h := ?_) | refine R.addW (h := ?_)
    refine R.assign (h := ?_)
    refine .n0 ?_
    refine .inLoop ?_
    exact LGo.next _ (fun o h => by have := (hA o).1 h; omega) (by omega) (ih (k + 1) hlt (by omega)) (by repeat (first | exact trivial | refine ⟨rfl, ?_⟩)) ⟨rfl, by rw [htk]; rfl, trivial⟩
   ·
    obtain rfl : k = l.length := by omega
    rw [List.take_length]
    refine .exit rfl ?_
    refine .seq ?_
    refine .region rfl ?_
    first | refine R.loadA A35 (h := ?_) | refine R.loadN A35 (h := ?_) | refine R.loadP A35 (h := ?_)
    refine R.storeA A35 (h := ?_)
    refine R.assign (h := ?_)
    refine R.assign (h := ?_)
    refine .n0 ?_
    exact LGo.ret (ret_ATT Tryz.results23 A35 hA hmd)

theorem decR9_nil : PC Tryz.prog 23 [.sv (.sl 1 (bytesC []))] (.tup [.agg (zeroQ.c.map LV.sv), .i 0, .i 11]) := by
 refine ⟨LC.of_go Tryz.func23 (c := _) rfl (by kernel_rfl) (by rw [Tryz.ntmps23]; simp) rfl rfl (by simp [LO.lt, LV.lts, LV.lt]) (by simp) ?_⟩
 intro B hA hmd
 refine .seq ?_
 refine .region rfl ?_
 refine R.alloc Z35 (h := ?_)
 refine R.assign (h := ?_)
 refine R.assign (h := ?_)
 refine .n0 ?_
 refine .seq ?_
 refine .seq ?_
 refine .region rfl ?_
 refine R.move (h := ?_)
 first | refine R.len S37 (h := ?_) | refine R.lenRs S37 (h := ?_) | refine R.lenV (run_lenNil S37) (h := ?_)
 refine R.bin (run_eql _ _ _ _ _ _) (h := ?_)
 refine R.move (h := ?_)
 refine R.move (h := ?_)
 refine R.skip (.v undef) (es := [_, _]) (h := ?_)
 refine R.skip (.v undef) (es := [_]) (h := ?_)
 refine R.skip (.v undef) (es := [_]) (h := ?_)
 refine R.skip (.v undef) (es := [_, _]) (h := ?_)
 refine R.skip (.b false) (es := [_, _]) (h := ?_)
 refine R.or (h := ?_)
 refine .n0 ?_
 refine LGo.ifb (ht := fun hc => ?_) (hf := fun hc => by rw [bytesC_length] at hc; simp at hc)
 refine .seq ?_
 refine .region rfl ?_
 refine R.build BF35 (is := []) (xs := []) (es := []) (h := ?_)
 refine R.storeA A35 (h := ?_)
 refine R.assign (h := ?_)
 refine R.assign (h := ?_)
 refine .n0 ?_
 exact LGo.ret (ret_ATT Tryz.results23 A35 hA hmd)

theorem decR9_P (b : List UInt8) (hb : b.length ≤ 9000) : PC Tryz.prog 23 [.sv (.sl 1 (bytesC b))] (.tup [.agg ((decR9 b).1.c.map LV.sv), .i (decR9 b).2.1, .i (decR9 b).2.2]) := by
  cases b with
  | nil => exact decR9_nil
  | cons c b => exact decR9_cons c b hb
theorem decR9_eq (b : List UInt8) : decR9 b = decQ b := by
  cases b with
  | nil => rfl
  | cons c b =>
    rw [decR9, decQ, ← rules_eq]
    by_cases h : wordQ c.toNat = []
    · have h2 : (rulesQ c.toNat).2 = 2 := by rw [rules_eq]; unfold rulesR; rw [if_pos h]
      rw [if_pos h, if_pos (show (!decide ((rulesQ (c.toNat : Int)).2 = 0)) = true from by rw [h2]; rfl)]
    · have h2 : (rulesQ c.toNat).2 = 0 := by rw [rules_eq]; unfold rulesR; rw [if_neg h]
      rw [if_neg h, if_neg (show ¬ (!decide ((rulesQ (c.toNat : Int)).2 = 0)) = true from by rw [h2]; simp)]

end Go.Proofs.YtckbomkcnmcdaaaGreatDoor
