/- The Sizes; fields.Decode. -/
import Derived.Test.YtmiamhegohlglaaR
import Derived.Test.YtmiamhegohlglaaC25
set_option linter.unusedSimpArgs false
set_option linter.unusedVariables false
namespace Go.Proofs.Ytmiamhegohlglaa

theorem size21_P (rs : List Rule) (fs : List Fld) (hrs : rs.length ≤ 100) (hfs : fs.length ≤ 100) (hok : ∀ x ∈ fs, FldOk x) : PC Try.prog 21 [.sv (.sl 5 (rs.map Rule.c)), .sv (.sl 3 (fs.map Fld.c))] (.tup [.i (encode rs fs).1.length, .i (encode rs fs).2]) := by
  refine ⟨LC.of_go Try.func21 (c := _) rfl (by kernel_rfl) (by rw [Try.ntmps21]; simp) rfl rfl (by simp [LO.lt, LV.lts, LV.lt]) (by simp) ?_⟩
  intro B hA hmd
  refine LGo.seq ?_
  refine LGo.region rfl ?_  -- region 0
  refine R.assign (h := ?_)
  refine R.assign (h := ?_)
  refine Reg.nil ⟨fun h => (by cases h), ?_⟩
  refine LGo.seq ?_
  refine LGo.region rfl ?_  -- region 1
  refine R.move (h := ?_)
  refine R.move (h := ?_)
  refine R.callP (es := [_, _]) (fun _ => encode_P rs fs hrs hfs hok) (h := ?_)
  refine R.move (h := ?_)
  refine R.extract (h := ?_)
  refine R.extract (h := ?_)
  refine R.assign (h := ?_)
  refine R.assign (h := ?_)
  refine Reg.nil ⟨fun h => (by cases h), ?_⟩
  refine LGo.seq ?_
  refine LGo.region rfl ?_  -- region 2
  refine R.move (h := ?_)
  first | refine R.len S23 (h := ?_) | refine R.lenRs S23 (h := ?_) | refine R.lenV (run_lenNil S23) (h := ?_)
  rw [ic_len]
  refine R.move (h := ?_)
  refine R.assign (h := ?_)
  refine R.assign (h := ?_)
  refine Reg.nil ⟨fun h => (by cases h), ?_⟩
  exact LGo.ret (ret_TT Try.results21 hA hmd)

theorem size22_P (rs : List Rule) (fs : List Fld) (hrs : rs.length ≤ 100) (hfs : fs.length ≤ 100) (hok : ∀ x ∈ fs, FldOk x) : PC Try.prog 22 [.sv (.sl 5 (rs.map Rule.c)), .sv (.sl 3 (fs.map Fld.c))] (.tup [.i (encodeR rs fs).1.length, .i (encodeR rs fs).2]) := by
  refine ⟨LC.of_go Try.func22 (c := _) rfl (by kernel_rfl) (by rw [Try.ntmps22]; simp) rfl rfl (by simp [LO.lt, LV.lts, LV.lt]) (by simp) ?_⟩
  intro B hA hmd
  refine LGo.seq ?_
  refine LGo.region rfl ?_  -- region 0
  refine R.assign (h := ?_)
  refine R.assign (h := ?_)
  refine Reg.nil ⟨fun h => (by cases h), ?_⟩
  refine LGo.seq ?_
  refine LGo.region rfl ?_  -- region 1
  refine R.move (h := ?_)
  refine R.move (h := ?_)
  refine R.callP (es := [_, _]) (fun _ => encodeR_P rs fs hrs hfs hok) (h := ?_)
  refine R.move (h := ?_)
  refine R.extract (h := ?_)
  refine R.extract (h := ?_)
  refine R.assign (h := ?_)
  refine R.assign (h := ?_)
  refine Reg.nil ⟨fun h => (by cases h), ?_⟩
  refine LGo.seq ?_
  refine LGo.region rfl ?_  -- region 2
  refine R.move (h := ?_)
  first | refine R.len S23 (h := ?_) | refine R.lenRs S23 (h := ?_) | refine R.lenV (run_lenNil S23) (h := ?_)
  rw [ic_len]
  refine R.move (h := ?_)
  refine R.assign (h := ?_)
  refine R.assign (h := ?_)
  refine Reg.nil ⟨fun h => (by cases h), ?_⟩
  exact LGo.ret (ret_TT Try.results22 hA hmd)

def decF (rs : List Rule) : Nat → List Int → Int → List UInt8 → List Fld × List UInt8 × List Int
  | _, ms, _, [] => ([], [], ms)
  | 0, ms, _, rest => ([], rest, ms)
  | n + 1, ms, last, c :: tl =>
    if ((!ruleHas c.toNat rs || decide ((c.toNat : Int) ≤ last)) || (decide ((0 : Int) < ms.length) && decide (ms.headD 0 < (c.toNat : Int)))) = true then ([], c :: tl, ms)
    else if (!(getV (ruleAt c.toNat rs) tl).2.2) = true then ([], c :: tl, ms)
    else ((getV (ruleAt c.toNat rs) tl).1 :: (decF rs n (if (decide ((0 : Int) < ms.length) && decide (ms.headD 0 = (c.toNat : Int))) = true then ms.tail else ms) c.toNat (getV (ruleAt c.toNat rs) tl).2.1).1, (decF rs n (if (decide ((0 : Int) < ms.length) && decide (ms.headD 0 = (c.toNat : Int))) = true then ms.tail else ms) c.toNat (getV (ruleAt c.toNat rs) tl).2.1).2)
def decode (rs : List Rule) (b : List UInt8) : List Fld × Int × Int :=
  if check rs = 0 then
    (if (decide ((0 : Int) < (decF rs b.length (needs rs) 0 b).2.1.length) || decide ((0 : Int) < (decF rs b.length (needs rs) 0 b).2.2.length)) = true then ([], (b.length : Int) - (decF rs b.length (needs rs) 0 b).2.1.length, 11) else ((decF rs b.length (needs rs) 0 b).1, 0, 0))
  else ([], 0, check rs)
theorem getV_len (r : Rule) (b : List UInt8) : (getV r b).2.1.length ≤ b.length := by
  unfold getV
  split
  · simp
  · split
    · simp
    · split
      · simp
      · split <;> simp
theorem tagsC_len (l : List Int) : (tagsC l).length = l.length := by simp [tagsC]
theorem tagsC_drop1 (l : List Int) : (tagsC l).drop (Int.toNat 1) = tagsC l.tail := by
  show (tagsC l).drop 1 = _
  simp [tagsC]
theorem tagsC_head {l : List Int} (h : 0 < l.length) : (tagsC l)[(Int.toNat 0)]? = some [.val (.int .i64 (l.headD 0))] := by
  cases l with
  | nil => simp at h
  | cons a l => rfl
theorem decF_nil (rs : List Rule) (n : Nat) (ms : List Int) (last : Int) : decF rs n ms last [] = ([], [], ms) := by cases n <;> rfl
theorem getV_tag (r : Rule) (b : List UInt8) : (getV r b).1.tag = r.tag := by
  unfold getV
  split
  · rfl
  · split
    · rfl
    · split
      · rfl
      · split <;> rfl

theorem decode_P (rs : List Rule) (b : List UInt8) (hrs : rs.length ≤ 100) (hb : b.length ≤ 10000) : PC Try.prog 13 [.sv (.sl 5 (rs.map Rule.c)), .sv (.sl 1 (bytesC b))] (.tup [.sv (.sl 3 ((decode rs b).1.map Fld.c)), .i (decode rs b).2.1, .i (decode rs b).2.2]) := by
  refine ⟨LC.of_go Try.func13 (c := _) rfl (by kernel_rfl) (by rw [Try.ntmps13]; simp) rfl rfl (by simp [LO.lt, LV.lts, LV.lt]) (by simp) ?_⟩
  intro B hA hmd
  obtain ⟨g, e0⟩ : ∃ g, decode rs b = g := ⟨_, rfl⟩
  have e1 := e0
  unfold decode at e1
  rw [e0]
  refine LGo.seq ?_
  refine LGo.region rfl ?_  -- region 0
  refine R.assign (h := ?_)
  refine R.assign (h := ?_)
  refine R.assign (h := ?_)
  refine Reg.nil ⟨fun h => (by cases h), ?_⟩
  refine LGo.scope ?_
  refine LGo.seq ?_
  refine LGo.seq ?_
  refine LGo.region rfl ?_  -- region 1
  refine R.move (h := ?_)
  refine R.callP (es := [_]) (fun _ => check_P _) (h := ?_)
  refine R.assign (h := ?_)
  refine Reg.nil ⟨fun h => (by cases h), ?_⟩
  refine LGo.seq ?_
  refine LGo.region rfl ?_  -- region 2
  refine R.move (h := ?_)
  refine R.bin (run_neq _ _ _ _ _ _) (h := ?_)
  refine Reg.nil ⟨fun h => (by cases h), ?_⟩
  refine LGo.ifb (ht := fun hc => ?_) (hf := fun hc => ?_)
  · -- then 1
    rw [if_neg (by simpa using hc)] at e1; rw [← e1]
    refine LGo.seq ?_
    refine LGo.region rfl ?_  -- region 3
    refine R.move (h := ?_)
    refine R.assign (h := ?_)
    refine R.assign (h := ?_)
    refine R.assign (h := ?_)
    refine Reg.nil ⟨fun h => (by cases h), ?_⟩
    first | refine LGo.frzT 4 (h := ?_) | refine LGo.nilSl 4 3 (h := ?_) | skip
    exact LGo.ret (ret_TTT Try.results13 hA hmd)
  · -- else 1
    rw [if_pos (by simpa using hc)] at e1
    have hck := (check_ok (rs := rs) (by simpa using hc)).2
    have hnl := needs_len rs
    refine LGo.skip ?_
    refine LGo.seq ?_
    refine LGo.region rfl ?_  -- region 4
    refine R.move (h := ?_)
    refine R.callP (es := [_]) (fun _ => needs_P rs hrs) (h := ?_)
    refine R.assign (h := ?_)
    refine Reg.nil ⟨fun h => (by cases h), ?_⟩
    refine LGo.seq ?_
    refine LGo.region rfl ?_  -- region 5
    refine R.assign (h := ?_)
    refine Reg.nil ⟨fun h => (by cases h), ?_⟩
    refine LGo.seq ?_
    refine LGo.region rfl ?_  -- region 6
    refine R.move (h := ?_)
    refine R.assign (h := ?_)
    refine Reg.nil ⟨fun h => (by cases h), ?_⟩
    refine LGo.seq ?_
    refine LGo.label ?_
    refine LGo.seq ?_
    refine LGo.nilRs 4 34 3 (h := ?_)
    refine LGo.cut (σ := List UInt8 × List Int × List Fld) (fun x => x.1.length ≤ b.length ∧ x.2.1.length ≤ 100 ∧ decF rs b.length (needs rs) 0 b = (x.2.2, x.1, x.2.1)) (fun x => [(10, (true, .sv (.sl 1 (bytesC x.1)))), (8, (true, .sv (.sl 1 (tagsC x.2.1)))), (4, (true, .ref 0))]) (fun x => [(0, .rs 34 3 (x.2.2.map Fld.c))]) 1 [(1, _)] (by repeat (first | exact trivial | refine ⟨rfl, ?_⟩)) ?_ (fun hcut => ?_)
    · -- behind block 0
      rintro ⟨rest, ms, acc⟩ ⟨hrl, hml, hq⟩
      dsimp only at *
      rw [hq] at e1
      refine LGo.seq ?_
      refine LGo.seq ?_
      refine LGo.region rfl ?_  -- region 16
      refine R.move (h := ?_)
      first | refine R.len S23 (h := ?_) | refine R.lenRs S23 (h := ?_) | refine R.lenV (run_lenNil S23) (h := ?_)
      rw [bytesC_length]
      refine R.bin (run_gtr _ _ _ _ _ _) (h := ?_)
      refine R.move (h := ?_)
      refine R.move (h := ?_)
      first | refine R.len S53 (h := ?_) | refine R.lenRs S53 (h := ?_) | refine R.lenV (run_lenNil S53) (h := ?_)
      rw [tagsC_len]
      refine R.bin (run_gtr _ _ _ _ _ _) (h := ?_)
      refine R.or (h := ?_)
      refine Reg.nil ⟨fun h => (by cases h), ?_⟩
      first | refine LGo.ifd (ht := fun hc2 => ?_) (hf := fun hc2 => ?_) | refine LGo.ifb (ht := fun hc2 => ?_) (hf := fun hc2 => ?_)
      · -- then 2
        rw [if_pos hc2] at e1; rw [← e1]
        refine LGo.seq ?_
        refine LGo.region rfl ?_  -- region 17
        refine R.move (h := ?_)
        first | refine R.len S23 (h := ?_) | refine R.lenRs S23 (h := ?_) | refine R.lenV (run_lenNil S23) (h := ?_)
        rw [bytesC_length]
        refine R.move (h := ?_)
        first | refine R.len S23 (h := ?_) | refine R.lenRs S23 (h := ?_) | refine R.lenV (run_lenNil S23) (h := ?_)
        rw [bytesC_length]
        first | refine R.sub (h := ?_) | refine R.subW (h := ?_)
        refine R.assign (h := ?_)
        refine R.assign (h := ?_)
        refine R.assign (h := ?_)
        refine Reg.nil ⟨fun h => (by cases h), ?_⟩
        first | refine LGo.frzT 4 (h := ?_) | refine LGo.nilSl 4 3 (h := ?_) | skip
        exact LGo.ret (ret_TTT Try.results13 hA hmd)
      · -- else 2
        rw [if_neg (by rw [hc2]; simp)] at e1; rw [← e1]
        refine LGo.skip ?_
        refine LGo.seq ?_
        refine LGo.region rfl ?_  -- region 18
        refine R.move (h := ?_)
        refine R.assign (h := ?_)
        refine R.assign (h := ?_)
        refine R.assign (h := ?_)
        refine Reg.nil ⟨fun h => (by cases h), ?_⟩
        first | refine LGo.frzT 4 (h := ?_) | refine LGo.nilSl 4 3 (h := ?_) | skip
        exact LGo.ret (ret_TTT Try.results13 hA hmd)
    · -- block 0
      refine LGo.block ?_
      refine LGo.loop ?_
      refine LGo.loopG (σ := Nat × Int × List UInt8 × List Int × List Fld) (fun x => x.2.2.1.length ≤ x.1 ∧ x.2.2.1.length ≤ b.length ∧ x.2.2.2.2.length + x.2.2.1.length ≤ b.length ∧ x.2.2.2.1.length ≤ 100 ∧ decF rs b.length (needs rs) 0 b = (x.2.2.2.2 ++ (decF rs x.1 x.2.2.2.1 x.2.1 x.2.2.1).1, (decF rs x.1 x.2.2.2.1 x.2.1 x.2.2.1).2)) (fun x => [(10, (true, .sv (.sl 1 (bytesC x.2.2.1)))), (9, (true, .i x.2.1)), (8, (true, .sv (.sl 1 (tagsC x.2.2.2.1)))), (4, (true, .ref 0))]) (fun x => [(0, .rs 34 3 (x.2.2.2.2.map Fld.c))]) (fun x => x.2.2.1.length) ((b.length, 0, b, needs rs, [])) [(0, _), (1, _)] ⟨Nat.le_refl _, Nat.le_refl _, by simp, by show (needs rs).length ≤ 100; omega, by simp⟩ (by repeat (first | exact trivial | refine ⟨rfl, ?_⟩)) (by repeat (first | exact trivial | refine ⟨rfl, ?_⟩)) (by repeat (first | exact trivial | refine ⟨rfl, ?_⟩)) ?_
      rintro ⟨fu, last, rest, ms, acc⟩ ⟨hfu, hrl, hal, hml, hq⟩ ih
      dsimp only at * 
      refine LGo.seq ?_
      refine LGo.seq ?_
      refine LGo.region rfl ?_  -- region 7
      refine R.move (h := ?_)
      first | refine R.len S23 (h := ?_) | refine R.lenRs S23 (h := ?_) | refine R.lenV (run_lenNil S23) (h := ?_)
      rw [bytesC_length]
      refine R.bin (run_gtr _ _ _ _ _ _) (h := ?_)
      refine Reg.nil ⟨fun h => (by cases h), ?_⟩
      refine LGo.ifd (ht := fun hc3 => ?_) (hf := fun hc3 => ?_)
      · -- then 3
        obtain ⟨c, tl, rfl⟩ : ∃ c tl, rest = c :: tl := by
          cases rest with
          | nil => simp at hc3
          | cons c tl => exact ⟨c, tl, rfl⟩
        obtain ⟨f, rfl⟩ : ∃ f, fu = f + 1 := ⟨fu - 1, by simp at hfu; omega⟩
        have hx : (bytesC (c :: tl))[(Int.toNat 0)]? = some [.val (.int .u8 c.toNat)] := rfl
        have lc := u8_lt c
        have gc := u8_ge c
        simp only [List.length_cons] at hfu hrl hal
        have e2 := decF.eq_3 rs ms last f c tl
        refine LGo.skip ?_
        refine LGo.block ?_
        refine LGo.seq ?_
        refine LGo.region rfl ?_  -- region 8
        refine R.move (h := ?_)
        refine R.index I23 (hj := fun hg => ⟨by omega, hx⟩) (h := ?_)
        first | refine R.loadB O5 (h := ?_) | refine R.load1 O5 (h := ?_)
        first | refine R.convI Try.runUnderlying5 Try.runUnderlying3 (h := ?_) | refine R.convW Try.runUnderlying5 Try.runUnderlying3 (h := ?_)
        refine R.assign (h := ?_)
        refine Reg.nil ⟨fun h => (by cases h), ?_⟩
        refine LGo.seq ?_
        refine LGo.region rfl ?_  -- region 9
        refine R.move (h := ?_)
        refine R.move (h := ?_)
        refine R.callP (es := [_, _]) (fun _ => rule_pub rs _ hrs) (h := ?_)
        refine R.move (h := ?_)
        refine R.extract (h := ?_)
        refine R.extract (h := ?_)
        refine R.alloc Z45 (h := ?_)
        refine R.storeA A45 (h := ?_)
        refine R.assign (h := ?_)
        refine Reg.nil ⟨fun h => (by cases h), ?_⟩
        refine LGo.seq ?_
        refine LGo.seq ?_
        refine LGo.region rfl ?_  -- region 10
        refine R.move (h := ?_)
        refine R.not (h := ?_)
        refine R.move (h := ?_)
        refine R.move (h := ?_)
        refine R.move (h := ?_)
        refine R.bin (run_leq _ _ _ _ _ _) (h := ?_)
        refine R.or (h := ?_)
        refine R.move (h := ?_)
        refine R.move (h := ?_)
        first | refine R.len S53 (h := ?_) | refine R.lenRs S53 (h := ?_) | refine R.lenV (run_lenNil S53) (h := ?_)
        rw [tagsC_len]
        refine R.bin (run_gtr _ _ _ _ _ _) (h := ?_)
        refine R.move (h := ?_)
        refine R.move (h := ?_)
        refine R.index I53 (hj := fun hg => ⟨by (simp at hg; omega), tagsC_head (by simp at hg; omega)⟩) (h := ?_)
        first | refine R.loadB O3 (h := ?_) | refine R.load1 O3 (h := ?_)
        refine R.move (h := ?_)
        refine R.bin (run_lss _ _ _ _ _ _) (h := ?_)
        refine R.and (h := ?_)
        refine R.or (h := ?_)
        refine Reg.nil ⟨fun h => (by cases h), ?_⟩
        first | refine LGo.ifd (ht := fun hc4 => ?_) (hf := fun hc4 => ?_) | refine LGo.ifb (ht := fun hc4 => ?_) (hf := fun hc4 => ?_)
        · -- then 4
          rw [if_pos hc4] at e2
          rw [e2] at hq
          refine LGo.exit rfl ?_
          exact LGo.next _ (fun o h => by have := (hA o).1 h; omega) (by omega) (hcut (c :: tl, ms, acc) ⟨by simp; omega, hml, by rw [hq]; simp⟩) (by repeat (first | exact trivial | refine ⟨rfl, ?_⟩)) (by repeat (first | exact trivial | refine ⟨rfl, ?_⟩))
        · -- else 4
          rw [if_neg (by rw [hc4]; simp)] at e2
          have hh4 : ruleHas (c.toNat : Int) rs = true := by simp at hc4; exact hc4.1.1
          have hm := ruleAt_mem hh4
          have hkd : (ruleAt (c.toNat : Int) rs).kind = 1 ∨ (ruleAt (c.toNat : Int) rs).kind = 2 := by have := (hck _ hm.1).2.2.2; omega
          have hgl := getV_len (ruleAt (c.toNat : Int) rs) tl
          refine LGo.skip ?_
          refine LGo.seq ?_
          refine LGo.region rfl ?_  -- region 11 DRAWS
          first | refine R.loadA A45 (h := ?_) | refine R.loadN A45 (h := ?_)
          refine R.move (h := ?_)
          refine R.sliceLo SF23 (ha := fun _ => ⟨by omega, by rw [bytesC_length]; simp; omega⟩) (h := ?_)
          rw [show (bytesC (c :: tl)).drop (Int.toNat 1) = bytesC tl from rfl]
          refine R.callP (es := [_, _]) (fun _ => get_P (ruleAt (c.toNat : Int) rs) tl hkd (by omega)) (h := ?_)
          refine R.move (h := ?_)
          refine R.extract (h := ?_)
          refine R.extract (h := ?_)
          refine R.extract (h := ?_)
          refine R.alloc Z34 (h := ?_)
          refine R.storeA A34 (h := ?_)
          refine R.assign (h := ?_)
          refine R.assign (h := ?_)
          refine Reg.nil ⟨fun _ => ⟨mixedO, by rfl, by rfl⟩, ?_⟩
          refine LGo.seq ?_
          refine LGo.seq ?_
          refine LGo.region rfl ?_  -- region 12
          refine R.move (h := ?_)
          refine R.not (h := ?_)
          refine Reg.nil ⟨fun h => (by cases h), ?_⟩
          first | refine LGo.ifd (ht := fun hc5 => ?_) (hf := fun hc5 => ?_) | refine LGo.ifb (ht := fun hc5 => ?_) (hf := fun hc5 => ?_)
          · -- then 5
            rw [if_pos hc5] at e2
            rw [e2] at hq
            refine LGo.exit rfl ?_
            exact LGo.next _ (fun o h => by have := (hA o).1 h; omega) (by omega) (hcut (c :: tl, ms, acc) ⟨by simp; omega, hml, by rw [hq]; simp⟩) (by repeat (first | exact trivial | refine ⟨rfl, ?_⟩)) (by repeat (first | exact trivial | refine ⟨rfl, ?_⟩))
          · -- else 5
            rw [if_neg (by rw [hc5]; simp)] at e2
            rw [e2] at hq
            refine LGo.skip ?_
            refine LGo.seq ?_
            refine LGo.seq ?_
            refine LGo.region rfl ?_  -- region 13
            refine R.move (h := ?_)
            first | refine R.len S53 (h := ?_) | refine R.lenRs S53 (h := ?_) | refine R.lenV (run_lenNil S53) (h := ?_)
            rw [tagsC_len]
            refine R.bin (run_gtr _ _ _ _ _ _) (h := ?_)
            refine R.move (h := ?_)
            refine R.move (h := ?_)
            refine R.index I53 (hj := fun hg => ⟨by (simp at hg; omega), tagsC_head (by simp at hg; omega)⟩) (h := ?_)
            first | refine R.loadB O3 (h := ?_) | refine R.load1 O3 (h := ?_)
            refine R.move (h := ?_)
            refine R.bin (run_eql _ _ _ _ _ _) (h := ?_)
            refine R.and (h := ?_)
            refine Reg.nil ⟨fun h => (by cases h), ?_⟩
            first | refine LGo.ifd (ht := fun hc6 => ?_) (hf := fun hc6 => ?_) | refine LGo.ifb (ht := fun hc6 => ?_) (hf := fun hc6 => ?_)
            · -- then 6
              rw [if_pos hc6] at hq
              refine LGo.region rfl ?_  -- region 14
              refine R.move (h := ?_)
              refine R.sliceLo SF53 (ha := fun _ => ⟨by omega, by rw [tagsC_len]; simp at hc6; omega⟩) (h := ?_)
              rw [tagsC_drop1]
              refine R.assign (h := ?_)
              refine Reg.nil ⟨fun h => (by cases h), ?_⟩
              refine LGo.region rfl ?_  -- region 15
              refine R.move (h := ?_)
              first | refine R.loadA A34 (h := ?_) | refine R.loadN A34 (h := ?_)
              refine R.buildSliceG AP26 (xs := [_]) (es := [_]) (ys := [(getV (ruleAt (c.toNat : Int) rs) tl).1.c]) (hcs := CellsOfs.cons (CellsOf.agg rfl) CellsOfs.nil) (hys := rfl) (h := ?_)
              refine R.appendS AP26 (hs := SrcOk.sl Try.underlying26 (by simp; rfl)) (hlen := by simp; omega) (h := ?_)
              refine R.move (h := ?_)
              refine R.move (h := ?_)
              refine R.assign (h := ?_)
              refine R.assign (h := ?_)
              refine R.assign (h := ?_)
              refine Reg.nil ⟨fun h => (by cases h), ?_⟩
              refine LGo.inBlock ?_
              refine LGo.inLoop ?_
              exact LGo.turn [3] (b := 0) (fun o h => by have := (hA o).1 h; omega) (ih (f, c.toNat, (getV (ruleAt (c.toNat : Int) rs) tl).2.1, ms.tail, acc ++ [(getV (ruleAt (c.toNat : Int) rs) tl).1]) ⟨by dsimp only; omega, by dsimp only; omega, by simp; omega, by simp; omega, by rw [hq]; simp⟩ (by dsimp only; simp only [List.length_cons]; omega)) (by repeat (first | exact trivial | refine ⟨rfl, ?_⟩)) ⟨by rw [List.map_append]; rfl, trivial⟩
            · -- else 6
              rw [if_neg (by rw [hc6]; simp)] at hq
              refine LGo.skip ?_
              refine LGo.region rfl ?_  -- region 15
              refine R.move (h := ?_)
              first | refine R.loadA A34 (h := ?_) | refine R.loadN A34 (h := ?_)
              refine R.buildSliceG AP26 (xs := [_]) (es := [_]) (ys := [(getV (ruleAt (c.toNat : Int) rs) tl).1.c]) (hcs := CellsOfs.cons (CellsOf.agg rfl) CellsOfs.nil) (hys := rfl) (h := ?_)
              refine R.appendS AP26 (hs := SrcOk.sl Try.underlying26 (by simp; rfl)) (hlen := by simp; omega) (h := ?_)
              refine R.move (h := ?_)
              refine R.move (h := ?_)
              refine R.assign (h := ?_)
              refine R.assign (h := ?_)
              refine R.assign (h := ?_)
              refine Reg.nil ⟨fun h => (by cases h), ?_⟩
              refine LGo.inBlock ?_
              refine LGo.inLoop ?_
              exact LGo.turn [3] (b := 0) (fun o h => by have := (hA o).1 h; omega) (ih (f, c.toNat, (getV (ruleAt (c.toNat : Int) rs) tl).2.1, ms, acc ++ [(getV (ruleAt (c.toNat : Int) rs) tl).1]) ⟨by dsimp only; omega, by dsimp only; omega, by simp; omega, hml, by rw [hq]; simp⟩ (by dsimp only; simp only [List.length_cons]; omega)) (by repeat (first | exact trivial | refine ⟨rfl, ?_⟩)) ⟨by rw [List.map_append]; rfl, trivial⟩
      · -- else 3
        have hr0 : rest = [] := List.eq_nil_of_length_eq_zero (by omega)
        subst hr0
        rw [decF_nil] at hq
        refine LGo.exit rfl ?_
        exact LGo.next _ (fun o h => by have := (hA o).1 h; omega) (by omega) (hcut ([], ms, acc) ⟨by simp, hml, by rw [hq]; simp⟩) (by repeat (first | exact trivial | refine ⟨rfl, ?_⟩)) (by repeat (first | exact trivial | refine ⟨rfl, ?_⟩))

end Go.Proofs.Ytmiamhegohlglaa
