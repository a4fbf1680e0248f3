/- fields.get: a field read from bytes. -/
import Derived.Test.YtmiamhegohlglaaM
set_option linter.unusedSimpArgs false
set_option linter.unusedVariables false
namespace Go.Proofs.Ytmiamhegohlglaa

def be (l : List UInt8) : Int := l.foldl (fun n c => n * 256 + (c.toNat : Int)) 0
theorem be_snoc (l : List UInt8) (c : UInt8) : be (l ++ [c]) = be l * 256 + c.toNat := by simp [be, List.foldl_append]
theorem be_take (l : List UInt8) (k : Nat) (h : k < l.length) : be (l.take (k + 1)) = be (l.take k) * 256 + l[k].toNat := by
  rw [List.take_succ_eq_append_getElem h, be_snoc]
theorem be_nn (l : List UInt8) : 0 ≤ be l := by
  have : ∀ (l : List UInt8) (n : Int), 0 ≤ n → 0 ≤ l.foldl (fun n c => n * 256 + (c.toNat : Int)) n := by
    intro l
    induction l with
    | nil => intro n h; exact h
    | cons c l ih => intro n h; exact ih _ (by show 0 ≤ n * 256 + (c.toNat : Int); have := u8_ge c; omega)
  exact this l 0 (by omega)
theorem be_lt (l : List UInt8) : be l < 256 ^ l.length := by
  have : ∀ (l : List UInt8) (n : Int), l.foldl (fun n c => n * 256 + (c.toNat : Int)) n < (n + 1) * 256 ^ l.length := by
    intro l
    induction l with
    | nil => intro n; simp; omega
    | cons c l ih =>
      intro n
      have h1 := ih (n * 256 + c.toNat)
      have h2 := u8_lt c
      have h3 : (0 : Int) < 256 ^ l.length := Int.pow_pos (by omega)
      have h4 : (n * 256 + (c.toNat : Int) + 1) * 256 ^ l.length ≤ ((n + 1) * 256) * 256 ^ l.length := Int.mul_le_mul_of_nonneg_right (by omega) (Int.le_of_lt h3)
      simp only [List.foldl_cons, List.length_cons]
      rw [Int.pow_succ, Int.mul_comm (256 ^ l.length) 256, ← Int.mul_assoc]
      omega
  have h := this l 0
  simpa [be] using h
theorem pow_le (a b : Nat) (h : a ≤ b) : (256 : Int) ^ a ≤ 256 ^ b := by
  obtain ⟨d, rfl⟩ := Nat.exists_eq_add_of_le h
  induction d with
  | zero => simp
  | succ d ih =>
    have h1 : (0 : Int) < 256 ^ (a + d) := Int.pow_pos (by omega)
    have := ih (by omega)
    rw [← Nat.add_assoc, Int.pow_succ]
    omega
theorem be_lt' (l : List UInt8) (k : Nat) (h : l.length ≤ k) : be l < 256 ^ k := by have := be_lt l; have := pow_le _ _ h; omega
theorem or8_i64 (a c : Int) (ha : 0 ≤ a) (hc : 0 ≤ c) (hc' : c < 256) (h : a * 256 + c < 9223372036854775808) : IntKind.i64.wrap ((BitVec.ofInt IntKind.i64.bits (a * 256) ||| BitVec.ofInt IntKind.i64.bits c).toNat) = a * 256 + c :=
  or_low_i64 a c 8 ha hc hc' h
theorem or8_u64 (a c : Int) (ha : 0 ≤ a) (hc : 0 ≤ c) (hc' : c < 256) (h : a * 256 + c < 18446744073709551616) : IntKind.u64.wrap ((BitVec.ofInt IntKind.u64.bits (a * 256) ||| BitVec.ofInt IntKind.u64.bits c).toNat) = a * 256 + c :=
  or_low_u64 a c 8 ha hc hc' h
theorem shl8_i64 (a : Int) (h0 : 0 ≤ a) (h1 : a * 256 < 9223372036854775808) : IntKind.i64.wrap (a * 2 ^ (min (Int.toNat 8) IntKind.i64.bits)) = a * 256 := by
  show IntKind.i64.wrap (a * 256) = _
  exact wrap_i64 (by omega) (by omega)
theorem shl8_u64 (a : Int) (h0 : 0 ≤ a) (h1 : a * 256 < 18446744073709551616) : IntKind.u64.wrap (a * 2 ^ (min (Int.toNat 8) IntKind.u64.bits)) = a * 256 := by
  show IntKind.u64.wrap (a * 256) = _
  exact wrap_u rfl (by omega) (by simp only [IntKind.bits]; omega)
/-- what get reads: the field, what is left, whether that is possible -/
def getV (r : Rule) (b : List UInt8) : Fld × List UInt8 × Bool :=
  if b.length < r.kind.toNat then (⟨r.tag, 0, []⟩, [], false)
  else if ((b.drop r.kind.toNat).length : Int) < be (b.take r.kind.toNat) then (⟨r.tag, 0, []⟩, [], false)
  else if r.kind = 2 then (⟨r.tag, 0, (b.drop r.kind.toNat).take (be (b.take r.kind.toNat)).toNat⟩, (b.drop r.kind.toNat).drop (be (b.take r.kind.toNat)).toNat, within r (be (b.take r.kind.toNat)))
  else if 8 < be (b.take r.kind.toNat) ∨ (0 < be (b.take r.kind.toNat) ∧ (((b.drop r.kind.toNat)[0]?).getD 0).toNat = 0) then (⟨r.tag, 0, []⟩, [], false)
  else (⟨r.tag, be ((b.drop r.kind.toNat).take (be (b.take r.kind.toNat)).toNat), []⟩, (b.drop r.kind.toNat).drop (be (b.take r.kind.toNat)).toNat, within r (be ((b.drop r.kind.toNat).take (be (b.take r.kind.toNat)).toNat)))

theorem get_P (r : Rule) (b : List UInt8) (hk : r.kind = 1 ∨ r.kind = 2) (hb : b.length ≤ 100000) : PC Try.prog 27 [.agg (r.c.map LV.sv), .sv (.sl 1 (bytesC b))] (.tup [.agg ((getV r b).1.c.map LV.sv), .sv (.sl 1 (bytesC (getV r b).2.1)), .b (getV r b).2.2]) := by
  refine ⟨LC.of_go Try.func27 (c := _) rfl (by kernel_rfl) (by rw [Try.ntmps27]; simp) rfl rfl (by simp [LO.lt, LV.lts, LV.lt]) (by simp) ?_⟩
  intro B hA hmd
  refine LGo.seq ?_
  refine LGo.region rfl ?_  -- region 0
  refine R.box (h := ?_)
  refine R.alloc Z34 (h := ?_)
  refine R.assign (h := ?_)
  refine R.assign (h := ?_)
  refine Reg.nil ⟨fun h => (by cases h), ?_⟩
  refine LGo.seq ?_
  refine LGo.region rfl ?_  -- region 1
  first | refine R.field F45_0 (h := ?_) | refine R.fieldAt F45_0 (h := ?_)
  first | refine R.loadB O3 (h := ?_) | refine R.load1 O3 (h := ?_)
  refine R.build BF34 (is := [0]) (xs := [_]) (es := [_]) (h := ?_)
  refine R.alloc Z34 (h := ?_)
  refine R.storeA A34 (h := ?_)
  refine Reg.nil ⟨fun h => (by cases h), ?_⟩
  refine LGo.seq ?_
  refine LGo.region rfl ?_  -- region 2
  first | refine R.field F45_1 (h := ?_) | refine R.fieldAt F45_1 (h := ?_)
  first | refine R.loadB O3 (h := ?_) | refine R.load1 O3 (h := ?_)
  refine R.assign (h := ?_)
  refine Reg.nil ⟨fun h => (by cases h), ?_⟩
  refine LGo.seq ?_
  refine LGo.seq ?_
  refine LGo.region rfl ?_  -- region 3
  refine R.move (h := ?_)
  first | refine R.len S23 (h := ?_) | refine R.lenRs S23 (h := ?_) | refine R.lenV (run_lenNil S23) (h := ?_)
  rw [bytesC_length]
  refine R.move (h := ?_)
  refine R.bin (run_lss _ _ _ _ _ _) (h := ?_)
  refine Reg.nil ⟨fun h => (by cases h), ?_⟩
  first | refine LGo.ifd (ht := fun hc => ?_) (hf := fun hc => ?_) | refine LGo.ifb (ht := fun hc => ?_) (hf := fun hc => ?_)
  · -- then 1
    have e : getV r b = (⟨r.tag, 0, []⟩, [], false) := by unfold getV; rw [if_pos (by omega)]
    rw [e]
    refine LGo.seq ?_
    refine LGo.region rfl ?_  -- region 4
    first | refine R.loadA A34 (h := ?_) | refine R.loadN A34 (h := ?_)
    refine R.storeA A34 (h := ?_)
    refine R.assign (h := ?_)
    refine R.assign (h := ?_)
    refine Reg.nil ⟨fun h => (by cases h), ?_⟩
    first | refine LGo.frzT 5 (h := ?_) | refine LGo.nilSl 5 1 (h := ?_) | skip
    exact LGo.ret (ret_ATT Try.results27 A34 hA hmd)
  · -- else 1
    have hkl : r.kind.toNat ≤ b.length := by omega
    obtain ⟨g, e0⟩ : ∃ g, getV r b = g := ⟨_, rfl⟩
    have e1 := e0
    unfold getV at e1
    rw [if_neg (by omega)] at e1
    obtain ⟨hd, hhd⟩ : ∃ hd, hd = b.take r.kind.toNat := ⟨_, rfl⟩
    obtain ⟨bd, hbd⟩ : ∃ bd, bd = b.drop r.kind.toNat := ⟨_, rfl⟩
    have hhl : hd.length ≤ 2 := by rw [hhd, List.length_take]; omega
    have hbl : bd.length ≤ 100000 := by rw [hbd, List.length_drop]; omega
    rw [← hhd, ← hbd] at e1
    refine LGo.skip ?_
    refine LGo.seq ?_
    refine LGo.region rfl ?_  -- region 5
    refine R.assign (h := ?_)
    refine Reg.nil ⟨fun h => (by cases h), ?_⟩
    refine LGo.seq ?_
    refine LGo.seq ?_
    refine LGo.region rfl ?_  -- region 6
    refine R.move (h := ?_)
    refine R.move (h := ?_)
    refine R.sliceHi SF23 (ha := fun _ => ⟨by omega, by rw [bytesC_length]; omega⟩) (h := ?_)
    rw [bytesC_take, ← hhd]
    first | refine R.len S23 (h := ?_) | refine R.lenRs S23 (h := ?_) | refine R.lenV (run_lenNil S23) (h := ?_)
    rw [bytesC_length]
    refine R.move (h := ?_)
    refine Reg.nil ⟨fun h => (by cases h), ?_⟩
    refine LGo.block ?_
    refine LGo.loop ?_
    refine LGo.loopG (σ := Nat) (fun x => x ≤ hd.length) (fun x => [(9, (true, .i (be (hd.take x)))), (28, (true, .i (x : Nat)))]) (fun x => [(0, .box 45 (r.c.map LV.sv)), (1, .box 34 [.i 0, .u 0, .t []]), (2, .box 34 [.i r.tag, .u 0, .t []])]) (fun x => hd.length - x) (0) [(1, _), (2, _), (4, _), (7, _), (8, _), (26, _), (27, _)] (by simp) (by repeat (first | exact trivial | refine ⟨rfl, ?_⟩)) (by repeat (first | exact trivial | refine ⟨rfl, ?_⟩)) (by repeat (first | exact trivial | refine ⟨rfl, ?_⟩)) ?_
    rintro k hk1 ih
    refine LGo.seq ?_
    refine LGo.region rfl ?_  -- region 7
    refine R.bin (run_lss _ _ _ _ _ _) (h := ?_)
    refine Reg.nil ⟨fun h => (by cases h), ?_⟩
    refine LGo.seq ?_
    refine LGo.ifd (ht := fun hc2 => ?_) (hf := fun hc2 => ?_)
    · -- then 2
      have hlt : k < hd.length := by omega
      have hx : (bytesC hd)[((k : Nat) : Int).toNat]? = some [.val (.int .u8 hd[k].toNat)] := by rw [Int.toNat_natCast]; exact bytesC_get (by simp [hlt])
      have hbe := be_take hd k hlt
      have hb0 := be_nn (hd.take k)
      have hb1 := be_lt' (hd.take k) 1 (by rw [List.length_take]; omega)
      generalize hd[k] = c at hx hbe
      have hc0 := u8_lt c
      have hc1 := u8_ge c
      refine LGo.skip ?_
      refine LGo.seq ?_
      refine LGo.block ?_
      refine LGo.seq ?_
      refine LGo.region rfl ?_  -- region 8
      refine R.index I23 (hj := fun hg => ⟨by omega, hx⟩) (h := ?_)
      first | refine R.loadB O5 (h := ?_) | refine R.load1 O5 (h := ?_)
      refine R.assign (h := ?_)
      refine Reg.nil ⟨fun h => (by cases h), ?_⟩
      refine LGo.region rfl ?_  -- region 9
      refine R.move (h := ?_)
      refine R.bin (run_shlE _ _ _ _ _ _ _ (by omega) (shl8_i64 _ hb0 (by omega))) (h := ?_)
      refine R.move (h := ?_)
      first | refine R.convI Try.runUnderlying5 Try.runUnderlying3 (h := ?_) | refine R.convW Try.runUnderlying5 Try.runUnderlying3 (h := ?_)
      refine R.bin (run_orE _ _ _ _ _ _ (or8_i64 _ _ hb0 hc1 hc0 (by omega))) (h := ?_)
      rw [← hbe]
      refine R.assign (h := ?_)
      refine Reg.nil ⟨fun h => (by cases h), ?_⟩
      refine LGo.inBlock ?_
      refine LGo.region rfl ?_  -- region 10
      first | refine R.add (h := ?_) | refine R.addW (h := ?_)
      refine R.move (h := ?_)
      refine Reg.nil ⟨fun h => (by cases h), ?_⟩
      refine LGo.inLoop ?_
      exact LGo.next _ (fun o h => by have := (hA o).1 h; omega) (by omega) (ih (k + 1) hlt (by omega)) (by repeat (first | exact trivial | refine ⟨rfl, ?_⟩)) (by repeat (first | exact trivial | refine ⟨rfl, ?_⟩))
    · -- else 2
      have hk' : k = hd.length := by omega
      subst hk'
      rw [List.take_length]
      have hn0 := be_nn hd
      have hn1 := be_lt' hd 2 hhl
      refine LGo.exit rfl ?_
      refine LGo.seq ?_
      refine LGo.region rfl ?_  -- region 11
      refine R.move (h := ?_)
      refine R.move (h := ?_)
      refine R.sliceLo SF23 (ha := fun _ => ⟨by omega, by rw [bytesC_length]; omega⟩) (h := ?_)
      rw [bytesC_drop, ← hbd]
      refine R.assign (h := ?_)
      refine Reg.nil ⟨fun h => (by cases h), ?_⟩
      refine LGo.seq ?_
      refine LGo.seq ?_
      refine LGo.region rfl ?_  -- region 12
      refine R.move (h := ?_)
      refine R.move (h := ?_)
      first | refine R.len S23 (h := ?_) | refine R.lenRs S23 (h := ?_) | refine R.lenV (run_lenNil S23) (h := ?_)
      rw [bytesC_length]
      refine R.bin (run_gtr _ _ _ _ _ _) (h := ?_)
      refine Reg.nil ⟨fun h => (by cases h), ?_⟩
      first | refine LGo.ifd (ht := fun hc3 => ?_) (hf := fun hc3 => ?_) | refine LGo.ifb (ht := fun hc3 => ?_) (hf := fun hc3 => ?_)
      · -- then 3
        rw [if_pos (by omega)] at e1
        rw [e0, ← e1]
        refine LGo.seq ?_
        refine LGo.region rfl ?_  -- region 13
        first | refine R.loadA A34 (h := ?_) | refine R.loadN A34 (h := ?_)
        refine R.storeA A34 (h := ?_)
        refine R.assign (h := ?_)
        refine R.assign (h := ?_)
        refine Reg.nil ⟨fun h => (by cases h), ?_⟩
        first | refine LGo.frzT 5 (h := ?_) | refine LGo.nilSl 5 1 (h := ?_) | skip
        exact LGo.ret (ret_ATT Try.results27 A34 hA hmd)
      · -- else 3
        rw [if_neg (by omega)] at e1
        refine LGo.skip ?_
        refine LGo.seq ?_
        refine LGo.seq ?_
        refine LGo.region rfl ?_  -- region 14
        first | refine R.field F45_1 (h := ?_) | refine R.fieldAt F45_1 (h := ?_)
        first | refine R.loadB O3 (h := ?_) | refine R.load1 O3 (h := ?_)
        refine R.bin (run_eql _ _ _ _ _ _) (h := ?_)
        refine Reg.nil ⟨fun h => (by cases h), ?_⟩
        first | refine LGo.ifd (ht := fun hc4 => ?_) (hf := fun hc4 => ?_) | refine LGo.ifb (ht := fun hc4 => ?_) (hf := fun hc4 => ?_)
        · -- then 4
          rw [if_pos hc4] at e1
          rw [e0, ← e1]
          refine LGo.seq ?_
          refine LGo.region rfl ?_  -- region 15
          refine R.move (h := ?_)
          refine R.move (h := ?_)
          refine R.sliceHi SF23 (ha := fun _ => ⟨by omega, by rw [bytesC_length]; omega⟩) (h := ?_)
          rw [bytesC_take]
          refine R.toString Try.underlying23 Try.underlying5 Try.underlying9 (h := ?_)
          first | refine R.field F34_2 (h := ?_) | refine R.fieldAt F34_2 (h := ?_)
          refine R.storeB O9 (h := ?_)
          refine Reg.nil ⟨fun h => (by cases h), ?_⟩
          refine LGo.seq ?_
          refine LGo.region rfl ?_  -- region 16 DRAWS
          first | refine R.loadA A34 (h := ?_) | refine R.loadN A34 (h := ?_)
          refine R.move (h := ?_)
          refine R.move (h := ?_)
          refine R.sliceLo SF23 (ha := fun _ => ⟨by omega, by rw [bytesC_length]; omega⟩) (h := ?_)
          rw [bytesC_drop]
          first | refine R.loadA A45 (h := ?_) | refine R.loadN A45 (h := ?_)
          refine R.move (h := ?_)
          first | refine R.convI Try.runUnderlying3 Try.runUnderlying32 (h := ?_) | refine R.convW Try.runUnderlying3 Try.runUnderlying32 (h := ?_)
          refine R.callP (es := [_, _]) (fun _ => within_P _ _) (h := ?_)
          refine R.storeA A34 (h := ?_)
          refine R.assign (h := ?_)
          refine R.assign (h := ?_)
          refine Reg.nil ⟨fun _ => ⟨mixedO, by rfl, by rfl⟩, ?_⟩
          first | refine LGo.frzT 5 (h := ?_) | refine LGo.nilSl 5 1 (h := ?_) | skip
          exact LGo.ret (ret_ATT Try.results27 A34 hA hmd)
        · -- else 4
          rw [if_neg hc4] at e1
          have hx0 : 0 < bd.length → (bytesC bd)[((0 : Int)).toNat]? = some [.val (.int .u8 ((bd[0]?).getD 0).toNat)] := fun h => bytesC_get (by show bd[0]? = some ((bd[0]?).getD 0); rw [List.getElem?_eq_getElem h]; rfl)
          generalize (bd[0]?).getD 0 = c0 at e1 hx0
          refine LGo.skip ?_
          refine LGo.seq ?_
          refine LGo.seq ?_
          refine LGo.region rfl ?_  -- region 17
          refine R.move (h := ?_)
          refine R.bin (run_gtr _ _ _ _ _ _) (h := ?_)
          refine R.move (h := ?_)
          refine R.move (h := ?_)
          refine R.bin (run_gtr _ _ _ _ _ _) (h := ?_)
          refine R.move (h := ?_)
          refine R.move (h := ?_)
          refine R.index I23 (hj := fun hg => ⟨by (simp at hg; omega), hx0 (by simp at hg; omega)⟩) (h := ?_)
          first | refine R.loadB O5 (h := ?_) | refine R.load1 O5 (h := ?_)
          refine R.bin (run_eql _ _ _ _ _ _) (h := ?_)
          refine R.and (h := ?_)
          refine R.or (h := ?_)
          refine Reg.nil ⟨fun h => (by cases h), ?_⟩
          first | refine LGo.ifd (ht := fun hc5 => ?_) (hf := fun hc5 => ?_) | refine LGo.ifb (ht := fun hc5 => ?_) (hf := fun hc5 => ?_)
          · -- then 5
            rw [if_pos (by simpa using hc5)] at e1
            rw [e0, ← e1]
            refine LGo.seq ?_
            refine LGo.region rfl ?_  -- region 18
            first | refine R.loadA A34 (h := ?_) | refine R.loadN A34 (h := ?_)
            refine R.storeA A34 (h := ?_)
            refine R.assign (h := ?_)
            refine R.assign (h := ?_)
            refine Reg.nil ⟨fun h => (by cases h), ?_⟩
            first | refine LGo.frzT 5 (h := ?_) | refine LGo.nilSl 5 1 (h := ?_) | skip
            exact LGo.ret (ret_ATT Try.results27 A34 hA hmd)
          · -- else 5
            rw [if_neg (by simpa using hc5)] at e1
            obtain ⟨nd, hnd⟩ : ∃ nd, nd = bd.take (be hd).toNat := ⟨_, rfl⟩
            rw [← hnd] at e1
            have hnl : nd.length ≤ 8 := by rw [hnd, List.length_take]; simp at hc5; omega
            refine LGo.skip ?_
            refine LGo.seq ?_
            refine LGo.seq ?_
            refine LGo.region rfl ?_  -- region 19
            refine R.move (h := ?_)
            refine R.move (h := ?_)
            refine R.sliceHi SF23 (ha := fun _ => ⟨by omega, by rw [bytesC_length]; omega⟩) (h := ?_)
            rw [bytesC_take, ← hnd]
            first | refine R.len S23 (h := ?_) | refine R.lenRs S23 (h := ?_) | refine R.lenV (run_lenNil S23) (h := ?_)
            rw [bytesC_length]
            refine R.move (h := ?_)
            refine Reg.nil ⟨fun h => (by cases h), ?_⟩
            refine LGo.block ?_
            refine LGo.loop ?_
            refine LGo.loopG (σ := Nat) (fun x => x ≤ nd.length) (fun x => [(79, (true, .i (x : Nat)))]) (fun x => [(0, .box 45 (r.c.map LV.sv)), (1, .box 34 [.i 0, .u 0, .t []]), (2, .box 34 [.i r.tag, .u (be (nd.take x)), .t []])]) (fun x => nd.length - x) (0) [(1, _), (2, _), (4, _), (7, _), (9, _), (77, _), (78, _)] (by simp) (by repeat (first | exact trivial | refine ⟨rfl, ?_⟩)) (by repeat (first | exact trivial | refine ⟨rfl, ?_⟩)) (by repeat (first | exact trivial | refine ⟨rfl, ?_⟩)) ?_
            rintro k hk1 ih
            refine LGo.seq ?_
            refine LGo.region rfl ?_  -- region 20
            refine R.bin (run_lss _ _ _ _ _ _) (h := ?_)
            refine Reg.nil ⟨fun h => (by cases h), ?_⟩
            refine LGo.seq ?_
            refine LGo.ifd (ht := fun hc6 => ?_) (hf := fun hc6 => ?_)
            · -- then 6
              have hlt : k < nd.length := by omega
              have hx : (bytesC nd)[((k : Nat) : Int).toNat]? = some [.val (.int .u8 nd[k].toNat)] := by rw [Int.toNat_natCast]; exact bytesC_get (by simp [hlt])
              have hbe := be_take nd k hlt
              have hb0 := be_nn (nd.take k)
              have hb1 := be_lt' (nd.take k) 7 (by rw [List.length_take]; omega)
              generalize nd[k] = c at hx hbe
              have hc0 := u8_lt c
              have hc1 := u8_ge c
              refine LGo.skip ?_
              refine LGo.seq ?_
              refine LGo.block ?_
              refine LGo.seq ?_
              refine LGo.region rfl ?_  -- region 21
              refine R.index I23 (hj := fun hg => ⟨by omega, hx⟩) (h := ?_)
              first | refine R.loadB O5 (h := ?_) | refine R.load1 O5 (h := ?_)
              refine R.assign (h := ?_)
              refine Reg.nil ⟨fun h => (by cases h), ?_⟩
              refine LGo.region rfl ?_  -- region 22
              first | refine R.field F34_1 (h := ?_) | refine R.fieldAt F34_1 (h := ?_)
              first | refine R.loadB O32 (h := ?_) | refine R.load1 O32 (h := ?_)
              refine R.bin (run_shlE _ _ _ _ _ _ _ (by omega) (shl8_u64 _ hb0 (by omega))) (h := ?_)
              refine R.move (h := ?_)
              first | refine R.convI Try.runUnderlying5 Try.runUnderlying32 (h := ?_) | refine R.convW Try.runUnderlying5 Try.runUnderlying32 (h := ?_)
              refine R.bin (run_orE _ _ _ _ _ _ (or8_u64 _ _ hb0 hc1 hc0 (by omega))) (h := ?_)
              rw [← hbe]
              first | refine R.field F34_1 (h := ?_) | refine R.fieldAt F34_1 (h := ?_)
              refine R.storeB O32 (h := ?_)
              refine Reg.nil ⟨fun h => (by cases h), ?_⟩
              refine LGo.inBlock ?_
              refine LGo.region rfl ?_  -- region 23
              first | refine R.add (h := ?_) | refine R.addW (h := ?_)
              refine R.move (h := ?_)
              refine Reg.nil ⟨fun h => (by cases h), ?_⟩
              refine LGo.inLoop ?_
              exact LGo.next _ (fun o h => by have := (hA o).1 h; omega) (by omega) (ih (k + 1) hlt (by omega)) (by repeat (first | exact trivial | refine ⟨rfl, ?_⟩)) (by repeat (first | exact trivial | refine ⟨rfl, ?_⟩))
            · -- else 6
              have hk' : k = nd.length := by omega
              subst hk'
              rw [List.take_length, e0, ← e1]
              refine LGo.exit rfl ?_
              refine LGo.seq ?_
              refine LGo.region rfl ?_  -- region 24 DRAWS
              first | refine R.loadA A34 (h := ?_) | refine R.loadN A34 (h := ?_)
              refine R.move (h := ?_)
              refine R.move (h := ?_)
              refine R.sliceLo SF23 (ha := fun _ => ⟨by omega, by rw [bytesC_length]; omega⟩) (h := ?_)
              rw [bytesC_drop]
              first | refine R.loadA A45 (h := ?_) | refine R.loadN A45 (h := ?_)
              first | refine R.field F34_1 (h := ?_) | refine R.fieldAt F34_1 (h := ?_)
              first | refine R.loadB O32 (h := ?_) | refine R.load1 O32 (h := ?_)
              refine R.callP (es := [_, _]) (fun _ => within_P _ _) (h := ?_)
              refine R.storeA A34 (h := ?_)
              refine R.assign (h := ?_)
              refine R.assign (h := ?_)
              refine Reg.nil ⟨fun _ => ⟨mixedO, by rfl, by rfl⟩, ?_⟩
              first | refine LGo.frzT 5 (h := ?_) | refine LGo.nilSl 5 1 (h := ?_) | skip
              exact LGo.ret (ret_ATT Try.results27 A34 hA hmd)

end Go.Proofs.Ytmiamhegohlglaa
