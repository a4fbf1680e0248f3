/- The reference's read: a field's value read from bytes. -/
import Derived.Test.YtmiamhegohlglaaN
set_option linter.unusedSimpArgs false
set_option linter.unusedVariables false
namespace Go.Proofs.Ytmiamhegohlglaa

abbrev b0 (b : List UInt8) : UInt8 := (b[0]?).getD 0
abbrev b1 (b : List UInt8) : UInt8 := (b[1]?).getD 0
def readV (r : Rule) (b : List UInt8) : Fld × Int × Bool :=
  if r.kind = 1 then
    (if (b.length : Int) < 1 ∨ (8 : Int) < (b0 b).toNat ∨ (b.length : Int) < 1 + (b0 b).toNat ∨ ((0 : Int) < (b0 b).toNat ∧ ((b1 b).toNat : Int) = 0) then (⟨r.tag, 0, []⟩, 0, false)
     else (⟨r.tag, be ((b.drop 1).take (b0 b).toNat), []⟩, 1 + (b0 b).toNat, within r (be ((b.drop 1).take (b0 b).toNat))))
  else if (b.length : Int) < 2 then (⟨r.tag, 0, []⟩, 0, false)
  else if within r (256 * (b0 b).toNat + (b1 b).toNat) = false ∨ (b.length : Int) < 2 + (256 * (b0 b).toNat + (b1 b).toNat) then (⟨r.tag, 0, []⟩, 0, false)
  else (⟨r.tag, 0, (b.take (2 + (256 * (b0 b).toNat + (b1 b).toNat))).drop 2⟩, 2 + (256 * (b0 b).toNat + (b1 b).toNat), true)

theorem read_P (r : Rule) (b : List UInt8) (hb : b.length ≤ 100000) : PC Try.prog 30 [.agg (r.c.map LV.sv), .sv (.sl 1 (bytesC b))] (.tup [.agg ((readV r b).1.c.map LV.sv), .i (readV r b).2.1, .b (readV r b).2.2]) := by
  refine ⟨LC.of_go Try.func30 (c := _) rfl (by kernel_rfl) (by rw [Try.ntmps30]; simp) rfl rfl (by simp [LO.lt, LV.lts, LV.lt]) (by simp) ?_⟩
  intro B hA hmd
  have hx0 : 0 < b.length → (bytesC b)[((0 : Int)).toNat]? = some [.val (.int .u8 (b0 b).toNat)] := fun h => bytesC_get (by show b[0]? = some ((b[0]?).getD 0); rw [List.getElem?_eq_getElem h]; rfl)
  have hx1 : 1 < b.length → (bytesC b)[((1 : Int)).toNat]? = some [.val (.int .u8 (b1 b).toNat)] := fun h => bytesC_get (by show b[1]? = some ((b[1]?).getD 0); rw [List.getElem?_eq_getElem h]; rfl)
  obtain ⟨g, e0⟩ : ∃ g, readV r b = g := ⟨_, rfl⟩
  have e1 := e0
  unfold readV at e1
  rw [e0]
  obtain ⟨c0, hc0⟩ : ∃ c, b0 b = c := ⟨_, rfl⟩
  obtain ⟨c1, hc1⟩ : ∃ c, b1 b = c := ⟨_, rfl⟩
  simp only [hc0, hc1] at hx0 hx1 e1
  have l0 := u8_lt c0
  have l1 := u8_lt c1
  have g0 := u8_ge c0
  have g1 := u8_ge c1
  refine LGo.seq ?_
  refine LGo.region rfl ?_  -- region 0
  refine R.box (h := ?_)
  refine R.alloc Z34 (h := ?_)
  refine R.assign (h := ?_)
  refine R.assign (h := ?_)
  refine Reg.nil ⟨fun h => (by cases h), ?_⟩
  refine LGo.seq ?_
  refine LGo.region rfl ?_  -- region 1
  first | refine R.field F45_0 (h := ?_) | refine R.fieldAt F45_0 (h := ?_)
  first | refine R.loadB O3 (h := ?_) | refine R.load1 O3 (h := ?_)
  refine R.build BF34 (is := [0]) (xs := [_]) (es := [_]) (h := ?_)
  refine R.alloc Z34 (h := ?_)
  refine R.storeA A34 (h := ?_)
  refine Reg.nil ⟨fun h => (by cases h), ?_⟩
  refine LGo.seq ?_
  refine LGo.seq ?_
  refine LGo.region rfl ?_  -- region 2
  first | refine R.field F45_1 (h := ?_) | refine R.fieldAt F45_1 (h := ?_)
  first | refine R.loadB O3 (h := ?_) | refine R.load1 O3 (h := ?_)
  refine R.bin (run_eql _ _ _ _ _ _) (h := ?_)
  refine Reg.nil ⟨fun h => (by cases h), ?_⟩
  first | refine LGo.ifd (ht := fun hc => ?_) (hf := fun hc => ?_) | refine LGo.ifb (ht := fun hc => ?_) (hf := fun hc => ?_)
  · -- then 1
    rw [if_pos hc] at e1
    refine LGo.seq ?_
    refine LGo.seq ?_
    refine LGo.region rfl ?_  -- region 3
    refine R.move (h := ?_)
    first | refine R.len S23 (h := ?_) | refine R.lenRs S23 (h := ?_) | refine R.lenV (run_lenNil S23) (h := ?_)
    rw [bytesC_length]
    refine R.bin (run_lss _ _ _ _ _ _) (h := ?_)
    refine R.move (h := ?_)
    refine R.move (h := ?_)
    refine R.index I23 (hj := fun hg => ⟨by (simp at hg; omega), hx0 (by simp at hg; omega)⟩) (h := ?_)
    first | refine R.loadB O5 (h := ?_) | refine R.load1 O5 (h := ?_)
    refine R.bin (run_gtr _ _ _ _ _ _) (h := ?_)
    refine R.or (h := ?_)
    refine R.move (h := ?_)
    refine R.move (h := ?_)
    first | refine R.len S23 (h := ?_) | refine R.lenRs S23 (h := ?_) | refine R.lenV (run_lenNil S23) (h := ?_)
    rw [bytesC_length]
    refine R.move (h := ?_)
    refine R.index I23 (hj := fun hg => ⟨by (simp at hg; omega), hx0 (by simp at hg; omega)⟩) (h := ?_)
    first | refine R.loadB O5 (h := ?_) | refine R.load1 O5 (h := ?_)
    first | refine R.convI Try.runUnderlying5 Try.runUnderlying3 (h := ?_) | refine R.convW Try.runUnderlying5 Try.runUnderlying3 (h := ?_)
    first | refine R.add (h := ?_) | refine R.addW (h := ?_)
    refine R.bin (run_lss _ _ _ _ _ _) (h := ?_)
    refine R.or (h := ?_)
    refine R.move (h := ?_)
    refine R.move (h := ?_)
    refine R.index I23 (hj := fun hg => ⟨by (simp at hg; omega), hx0 (by simp at hg; omega)⟩) (h := ?_)
    first | refine R.loadB O5 (h := ?_) | refine R.load1 O5 (h := ?_)
    refine R.bin (run_gtr _ _ _ _ _ _) (h := ?_)
    refine R.move (h := ?_)
    refine R.move (h := ?_)
    refine R.index I23 (hj := fun hg => ⟨by (simp at hg; omega), hx1 (by simp at hg; omega)⟩) (h := ?_)
    first | refine R.loadB O5 (h := ?_) | refine R.load1 O5 (h := ?_)
    refine R.bin (run_eql _ _ _ _ _ _) (h := ?_)
    refine R.and (h := ?_)
    refine R.or (h := ?_)
    refine Reg.nil ⟨fun h => (by cases h), ?_⟩
    first | refine LGo.ifd (ht := fun hc2 => ?_) (hf := fun hc2 => ?_) | refine LGo.ifb (ht := fun hc2 => ?_) (hf := fun hc2 => ?_)
    · -- then 2
      have hcc := hc2
      simp only [Bool.or_eq_true, Bool.and_eq_true, decide_eq_true_eq] at hcc
      rw [if_pos (by omega)] at e1
      rw [← e1]
      refine LGo.seq ?_
      refine LGo.region rfl ?_  -- region 4
      first | refine R.loadA A34 (h := ?_) | refine R.loadN A34 (h := ?_)
      refine R.storeA A34 (h := ?_)
      refine R.assign (h := ?_)
      refine R.assign (h := ?_)
      refine Reg.nil ⟨fun h => (by cases h), ?_⟩
      exact LGo.ret (ret_ATT Try.results30 A34 hA hmd)
    · -- else 2
      have hcc := hc2
      simp only [Bool.or_eq_false_iff, Bool.and_eq_false_iff, decide_eq_false_iff_not] at hcc
      rw [if_neg (by omega)] at e1
      have hbp : 0 < b.length := by omega
      have hbl : (b.drop 1).length = b.length - 1 := List.length_drop
      refine LGo.skip ?_
      refine LGo.seq ?_
      refine LGo.region rfl ?_  -- region 5
      refine R.move (h := ?_)
      refine R.index I23 (hj := fun hg => ⟨by omega, hx0 hbp⟩) (h := ?_)
      first | refine R.loadB O5 (h := ?_) | refine R.load1 O5 (h := ?_)
      first | refine R.convI Try.runUnderlying5 Try.runUnderlying3 (h := ?_) | refine R.convW Try.runUnderlying5 Try.runUnderlying3 (h := ?_)
      refine R.assign (h := ?_)
      refine Reg.nil ⟨fun h => (by cases h), ?_⟩
      refine LGo.seq ?_
      refine LGo.seq ?_
      refine LGo.region rfl ?_  -- region 6
      refine R.assign (h := ?_)
      refine Reg.nil ⟨fun h => (by cases h), ?_⟩
      refine LGo.block ?_
      refine LGo.loop ?_
      refine LGo.loopG (σ := Nat) (fun x => x ≤ c0.toNat) (fun x => [(9, (true, .i ((x : Int) + 1)))]) (fun x => [(0, .box 45 (r.c.map LV.sv)), (1, .box 34 [.i 0, .u 0, .t []]), (2, .box 34 [.i r.tag, .u (be ((b.drop 1).take x)), .t []])]) (fun x => c0.toNat - x) (0) [(1, _), (2, _), (4, _), (7, _), (8, _)] (by simp) (by repeat (first | exact trivial | refine ⟨rfl, ?_⟩)) (by repeat (first | exact trivial | refine ⟨rfl, ?_⟩)) (by repeat (first | exact trivial | refine ⟨rfl, ?_⟩)) ?_
      rintro k hk1 ih
      refine LGo.seq ?_
      refine LGo.seq ?_
      refine LGo.region rfl ?_  -- region 7
      refine R.move (h := ?_)
      refine R.move (h := ?_)
      refine R.bin (run_leq _ _ _ _ _ _) (h := ?_)
      refine Reg.nil ⟨fun h => (by cases h), ?_⟩
      refine LGo.ifd (ht := fun hc3 => ?_) (hf := fun hc3 => ?_)
      · -- then 3
        have hlt : k < c0.toNat := by omega
        have hdl : k < (b.drop 1).length := by omega
        have hx : (bytesC b)[((k : Int) + 1).toNat]? = some [.val (.int .u8 (b.drop 1)[k].toNat)] := bytesC_get (by rw [show ((k : Int) + 1).toNat = k + 1 from by omega, ← List.getElem?_eq_getElem hdl, List.getElem?_drop, Nat.add_comm])
        have hbe := be_take (b.drop 1) k hdl
        have hb0 := be_nn ((b.drop 1).take k)
        have hb1 := be_lt' ((b.drop 1).take k) 7 (by rw [List.length_take]; omega)
        generalize (b.drop 1)[k] = c at hx hbe
        have lc := u8_lt c
        have gc := u8_ge c
        refine LGo.skip ?_
        refine LGo.seq ?_
        refine LGo.block ?_
        refine LGo.region rfl ?_  -- region 9 DRAWS
        first | refine R.field F34_1 (h := ?_) | refine R.fieldAt F34_1 (h := ?_)
        first | refine R.loadB O32 (h := ?_) | refine R.load1 O32 (h := ?_)
        first | refine R.mul (h := ?_) | refine R.mulW (h := ?_)
        refine R.move (h := ?_)
        refine R.move (h := ?_)
        refine R.index I23 (hj := fun hg => ⟨by omega, hx⟩) (h := ?_)
        first | refine R.loadB O5 (h := ?_) | refine R.load1 O5 (h := ?_)
        first | refine R.convI Try.runUnderlying5 Try.runUnderlying32 (h := ?_) | refine R.convW Try.runUnderlying5 Try.runUnderlying32 (h := ?_)
        first | refine R.add (h := ?_) | refine R.addW (h := ?_)
        rw [show 256 * be ((b.drop 1).take k) + (c.toNat : Int) = be ((b.drop 1).take (k + 1)) from by rw [hbe]; omega]
        first | refine R.field F34_1 (h := ?_) | refine R.fieldAt F34_1 (h := ?_)
        refine R.storeB O32 (h := ?_)
        refine Reg.nil ⟨fun _ => ⟨mixedO, by rfl, by rfl⟩, ?_⟩
        refine LGo.inBlock ?_
        refine LGo.region rfl ?_  -- region 8
        refine R.move (h := ?_)
        first | refine R.add (h := ?_) | refine R.addW (h := ?_)
        refine R.assign (h := ?_)
        refine Reg.nil ⟨fun h => (by cases h), ?_⟩
        refine LGo.inLoop ?_
        exact LGo.next _ (fun o h => by have := (hA o).1 h; omega) (by omega) (ih (k + 1) hlt (by omega)) (by repeat (first | exact trivial | refine ⟨rfl, ?_⟩)) (by repeat (first | exact trivial | refine ⟨rfl, ?_⟩))
      · -- else 3
        have hk' : k = c0.toNat := by omega
        subst hk'
        rw [← e1]
        refine LGo.exit rfl ?_
        refine LGo.seq ?_
        refine LGo.region rfl ?_  -- region 10 DRAWS
        first | refine R.loadA A34 (h := ?_) | refine R.loadN A34 (h := ?_)
        refine R.move (h := ?_)
        first | refine R.add (h := ?_) | refine R.addW (h := ?_)
        first | refine R.loadA A45 (h := ?_) | refine R.loadN A45 (h := ?_)
        first | refine R.field F34_1 (h := ?_) | refine R.fieldAt F34_1 (h := ?_)
        first | refine R.loadB O32 (h := ?_) | refine R.load1 O32 (h := ?_)
        refine R.callP (es := [_, _]) (fun _ => refWithin_P _ _) (h := ?_)
        refine R.storeA A34 (h := ?_)
        refine R.assign (h := ?_)
        refine R.assign (h := ?_)
        refine Reg.nil ⟨fun _ => ⟨mixedO, by rfl, by rfl⟩, ?_⟩
        exact LGo.ret (ret_ATT Try.results30 A34 hA hmd)
  · -- else 1
    rw [if_neg hc] at e1
    refine LGo.skip ?_
    refine LGo.seq ?_
    refine LGo.seq ?_
    refine LGo.region rfl ?_  -- region 11
    refine R.move (h := ?_)
    first | refine R.len S23 (h := ?_) | refine R.lenRs S23 (h := ?_) | refine R.lenV (run_lenNil S23) (h := ?_)
    rw [bytesC_length]
    refine R.bin (run_lss _ _ _ _ _ _) (h := ?_)
    refine Reg.nil ⟨fun h => (by cases h), ?_⟩
    first | refine LGo.ifd (ht := fun hc4 => ?_) (hf := fun hc4 => ?_) | refine LGo.ifb (ht := fun hc4 => ?_) (hf := fun hc4 => ?_)
    · -- then 4
      rw [if_pos hc4] at e1; rw [← e1]
      refine LGo.seq ?_
      refine LGo.region rfl ?_  -- region 12
      first | refine R.loadA A34 (h := ?_) | refine R.loadN A34 (h := ?_)
      refine R.storeA A34 (h := ?_)
      refine R.assign (h := ?_)
      refine R.assign (h := ?_)
      refine Reg.nil ⟨fun h => (by cases h), ?_⟩
      exact LGo.ret (ret_ATT Try.results30 A34 hA hmd)
    · -- else 4
      rw [if_neg hc4] at e1
      refine LGo.skip ?_
      refine LGo.seq ?_
      refine LGo.region rfl ?_  -- region 13 DRAWS
      refine R.move (h := ?_)
      refine R.index I23 (hj := fun hg => ⟨by omega, hx0 (by omega)⟩) (h := ?_)
      first | refine R.loadB O5 (h := ?_) | refine R.load1 O5 (h := ?_)
      first | refine R.convI Try.runUnderlying5 Try.runUnderlying3 (h := ?_) | refine R.convW Try.runUnderlying5 Try.runUnderlying3 (h := ?_)
      first | refine R.mul (h := ?_) | refine R.mulW (h := ?_)
      refine R.move (h := ?_)
      refine R.index I23 (hj := fun hg => ⟨by omega, hx1 (by omega)⟩) (h := ?_)
      first | refine R.loadB O5 (h := ?_) | refine R.load1 O5 (h := ?_)
      first | refine R.convI Try.runUnderlying5 Try.runUnderlying3 (h := ?_) | refine R.convW Try.runUnderlying5 Try.runUnderlying3 (h := ?_)
      first | refine R.add (h := ?_) | refine R.addW (h := ?_)
      refine R.assign (h := ?_)
      refine Reg.nil ⟨fun _ => ⟨mixedO, by rfl, by rfl⟩, ?_⟩
      refine LGo.seq ?_
      refine LGo.seq ?_
      refine LGo.region rfl ?_  -- region 14
      first | refine R.loadA A45 (h := ?_) | refine R.loadN A45 (h := ?_)
      refine R.move (h := ?_)
      first | refine R.convI Try.runUnderlying3 Try.runUnderlying32 (h := ?_) | refine R.convW Try.runUnderlying3 Try.runUnderlying32 (h := ?_)
      refine R.callP (es := [_, _]) (fun _ => refWithin_P _ _) (h := ?_)
      refine R.not (h := ?_)
      refine R.move (h := ?_)
      refine R.move (h := ?_)
      first | refine R.len S23 (h := ?_) | refine R.lenRs S23 (h := ?_) | refine R.lenV (run_lenNil S23) (h := ?_)
      rw [bytesC_length]
      refine R.move (h := ?_)
      first | refine R.add (h := ?_) | refine R.addW (h := ?_)
      refine R.bin (run_lss _ _ _ _ _ _) (h := ?_)
      refine R.or (h := ?_)
      refine Reg.nil ⟨fun h => (by cases h), ?_⟩
      first | refine LGo.ifd (ht := fun hc5 => ?_) (hf := fun hc5 => ?_) | refine LGo.ifb (ht := fun hc5 => ?_) (hf := fun hc5 => ?_)
      · -- then 5
        have hcc := hc5
        simp only [Bool.or_eq_true, decide_eq_true_eq, Bool.not_eq_true'] at hcc
        rw [if_pos hcc] at e1; rw [← e1]
        refine LGo.seq ?_
        refine LGo.region rfl ?_  -- region 15
        first | refine R.loadA A34 (h := ?_) | refine R.loadN A34 (h := ?_)
        refine R.storeA A34 (h := ?_)
        refine R.assign (h := ?_)
        refine R.assign (h := ?_)
        refine Reg.nil ⟨fun h => (by cases h), ?_⟩
        exact LGo.ret (ret_ATT Try.results30 A34 hA hmd)
      · -- else 5
        have hcc := hc5
        simp only [Bool.or_eq_false_iff, decide_eq_false_iff_not, Bool.not_eq_false'] at hcc
        rw [if_neg (by rw [hcc.1]; simpa using hcc.2)] at e1
        rw [← e1]
        refine LGo.skip ?_
        refine LGo.seq ?_
        refine LGo.region rfl ?_  -- region 16
        refine R.move (h := ?_)
        refine R.move (h := ?_)
        first | refine R.add (h := ?_) | refine R.addW (h := ?_)
        refine R.sliceLoHi SF23 (ha := fun _ => ⟨by omega, by omega, by rw [bytesC_length]; omega⟩) (h := ?_)
        rw [bytesC_take, bytesC_drop, show (2 + (256 * (c0.toNat : Int) + (c1.toNat : Int))).toNat = 2 + (256 * c0.toNat + c1.toNat) from by omega, show Int.toNat 2 = 2 from rfl]
        refine R.toString Try.underlying23 Try.underlying5 Try.underlying9 (h := ?_)
        first | refine R.field F34_2 (h := ?_) | refine R.fieldAt F34_2 (h := ?_)
        refine R.storeB O9 (hlt := Nat.le_of_ble_eq_true rfl) (h := ?_)
        refine Reg.nil ⟨fun h => (by cases h), ?_⟩
        refine LGo.seq ?_
        refine LGo.region rfl ?_  -- region 17
        first | refine R.loadA A34 (h := ?_) | refine R.loadN A34 (h := ?_)
        refine R.move (h := ?_)
        first | refine R.add (h := ?_) | refine R.addW (h := ?_)
        refine R.storeA A34 (h := ?_)
        refine R.assign (h := ?_)
        refine R.assign (h := ?_)
        refine Reg.nil ⟨fun h => (by cases h), ?_⟩
        exact LGo.ret (ret_ATT Try.results30 A34 hA hmd)

end Go.Proofs.Ytmiamhegohlglaa
