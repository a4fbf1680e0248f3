/- requests: the tags of a kind, the rules, the fields of a request, its check. -/
import Derived.Test.YtcobkjognpjikaaGreatDoorFD
set_option linter.unusedSimpArgs false
set_option linter.unusedVariables false
namespace Go.Proofs.YtcobkjognpjikaaGreatDoor

/-- a request -/
structure Rq where
  kind : Int
  id : Int
  owner : Int
  to : Int
  ses : List UInt8
  tic : List UInt8
  seat : Int
  sec : Int
  n : Int
  gate : Int
instance : Inhabited Rq := ⟨⟨0, 0, 0, 0, [], [], 0, 0, 0, 0⟩⟩
def Rq.c (r : Rq) : List SV := [.val (.int .i64 r.kind), .val (.int .u64 r.id), .val (.int .u32 r.owner), .val (.int .u32 r.to), .val (.string ⟨r.ses.toArray⟩), .val (.string ⟨r.tic.toArray⟩), .val (.int .i64 r.seat), .val (.int .i64 r.sec), .val (.int .i64 r.n), .val (.int .i64 r.gate)]
def R64 (t : Int) : Prop := -9223372036854775808 ≤ t ∧ t ≤ 9223372036854775807
structure RqOk (r : Rq) : Prop where
  kind : R64 r.kind
  id : 0 ≤ r.id ∧ r.id < 18446744073709551616
  owner : 0 ≤ r.owner ∧ r.owner < 4294967296
  to : 0 ≤ r.to ∧ r.to < 4294967296
  ses : r.ses.length ≤ maxLen
  tic : r.tic.length ≤ maxLen
  seat : R64 r.seat
  sec : R64 r.sec
  n : R64 r.n
  gate : R64 r.gate
theorem tabM : (3, maskTab.map (Value.int .u16)) ∈ tabs := by simp [tabs]
def maskOf (k : Int) : Int := if k < 0 ∨ 14 ≤ k then 0 else maskTab.getD k.toNat 0
theorem maskOf_lt (k : Int) : 0 ≤ maskOf k ∧ maskOf k < 65536 := by
  unfold maskOf
  split
  · omega
  · have : ∀ n, 0 ≤ maskTab.getD n 0 ∧ maskTab.getD n 0 < 65536 := fun n => by
      by_cases h : n < 14
      · have key : ∀ m : Fin 14, 0 ≤ maskTab.getD m.1 0 ∧ maskTab.getD m.1 0 < 65536 := by decide
        exact key ⟨n, h⟩
      · rw [List.getD_eq_getElem?_getD, List.getElem?_eq_none (by simp [maskTab]; omega)]; simp
    exact this _
/-- a number as one of 64 bits -/
def uw (n : Int) : Int := n % 18446744073709551616
theorem uw_wrap (n : Int) : IntKind.u64.wrap n = uw n := IntKind.wrap_u64 n
theorem uw_lt (n : Int) : 0 ≤ uw n ∧ uw n < 18446744073709551616 := by unfold uw; omega
def ruleQ (t : Int) : Rule := if t = 1 then ⟨t, 1, 1, 9223372036854775807, true⟩ else if t = 2 then ⟨t, 1, 0, 4294967295, true⟩ else if t = 8 then ⟨t, 1, 0, 4294967295, true⟩ else if t = 3 then ⟨t, 2, 44, 44, true⟩ else if t = 4 then ⟨t, 2, 56, 56, true⟩ else ⟨t, 1, 0, 2147483647, true⟩
theorem and1_u16 (a : Int) (h0 : 0 ≤ a) (h1 : a < 65536) : IntKind.u16.wrap ((BitVec.ofInt IntKind.u16.bits a &&& BitVec.ofInt IntKind.u16.bits 1).toNat) = a % 2 := by
  obtain ⟨n, rfl⟩ : ∃ n : Nat, a = n := ⟨a.toNat, by omega⟩
  have e1 : (BitVec.ofInt 16 (n : Int) &&& 1#16).toNat = n % 2 := by
    rw [BitVec.ofInt_natCast, BitVec.toNat_and]
    simp only [BitVec.toNat_ofNat, Nat.reducePow, Nat.reduceMod, Nat.and_one_is_mod]
    omega
  show IntKind.u16.wrap ((BitVec.ofInt 16 (n : Int) &&& BitVec.ofInt 16 1).toNat) = _
  rw [show BitVec.ofInt 16 1 = 1#16 from rfl, e1, IntKind.wrap_u16]
  omega
def bitQ (m : Int) (k : Nat) : Int := m / 2 ^ k % 2
theorem shr_u16 (m : Int) (k : Nat) (h : k ≤ 16) : m / 2 ^ (min (Int.toNat (k : Int)) IntKind.u16.bits) = m / 2 ^ k := by
  rw [Int.toNat_natCast, show IntKind.u16.bits = 16 from rfl, Nat.min_eq_left h]
theorem div_lt (m : Int) (k : Nat) (h0 : 0 ≤ m) (h1 : m < 65536) : 0 ≤ m / 2 ^ k ∧ m / 2 ^ k < 65536 := by
  have hp : (0 : Int) < 2 ^ k := Int.pow_pos (by omega)
  refine ⟨Int.ediv_nonneg h0 (Int.le_of_lt hp), ?_⟩
  exact Int.lt_of_le_of_lt (Int.ediv_le_self _ h0) h1

theorem mask_P (k : Int) : PC Tryz.prog 93 [.i k] (.v (.int .u16 (maskOf k))) := by
 refine ⟨LC.of_go Tryz.func93 (c := _) rfl (by kernel_rfl) (by rw [Tryz.ntmps93]; simp) rfl rfl (by simp [LO.lt, LV.lts, LV.lt]) (by simp) ?_⟩
 intro B hA hmd
 refine .seq ?_
 refine .region rfl ?_
 refine R.assign (h := ?_)
 refine .n0 ?_
 refine .seq ?_
 refine .seq ?_
 refine .region rfl ?_
 refine R.move (h := ?_)
 refine R.bin (run_lss _ _ _ _ _ _) (h := ?_)
 refine R.move (h := ?_)
 refine R.move (h := ?_)
 refine R.bin (run_geq _ _ _ _ _ _) (h := ?_)
 refine R.or (h := ?_)
 refine .n0 ?_
 refine LGo.ifb (ht := fun hc => ?_) (hf := fun hc => ?_)
 ·
  have h : k < 0 ∨ 14 ≤ k := by simpa using hc
  rw [show maskOf k = 0 from if_pos h]
  refine .seq ?_
  refine .region rfl ?_
  refine R.assign (h := ?_)
  refine .n0 ?_
  exact LGo.ret (ret_T Tryz.results93 hA hmd)
 ·
  have h : ¬ (k < 0 ∨ 14 ≤ k) := by simpa using hc
  rw [show maskOf k = maskTab.getD k.toNat 0 from if_neg h]
  have h1 : 0 ≤ k ∧ k < 14 := by omega
  refine .skip ?_
  refine .seq ?_
  refine .region rfl ?_
  refine R.move (h := ?_)
  refine R.gIndex I167 (hj := fun _ => by omega) (h := ?_)
  refine R.gLoad1 O148 (hm := tabM) (v := .int .u16 (maskTab.getD k.toNat 0)) (hc := fun _ => by rw [Nat.zero_add, Nat.mul_one, List.getElem?_map, List.getD_eq_getElem?_getD, List.getElem?_eq_getElem (show k.toNat < maskTab.length from by simp [maskTab]; omega)]; rfl) (h := ?_)
  refine R.assign (h := ?_)
  refine .n0 ?_
  exact LGo.ret (ret_T Tryz.results93 hA hmd)

theorem ruleQ_P (t : Int) : PC Tryz.prog 95 [.i t] (.agg ((ruleQ t).c.map LV.sv)) := by
 refine ⟨LC.of_go Tryz.func95 (c := _) rfl (by kernel_rfl) (by rw [Tryz.ntmps95]; simp) rfl rfl (by simp [LO.lt, LV.lts, LV.lt]) (by simp) ?_⟩
 intro B hA hmd
 obtain ⟨g, e0⟩ : ∃ g, ruleQ t = g := ⟨_, rfl⟩
 have e1 := e0
 unfold ruleQ at e1
 rw [e0]
 refine .seq ?_
 refine .region rfl ?_
 refine R.alloc Z88 (h := ?_)
 refine .n0 ?_
 refine .seq ?_
 refine .region rfl ?_
 refine R.move (h := ?_)
 refine R.build BF88 (is := [0, 1, 3, 4]) (xs := [_, _, _, _]) (es := [_, _, _, _]) (h := ?_)
 refine R.alloc Z88 (h := ?_)
 refine R.storeA A88 (h := ?_)
 refine .n0 ?_
 refine .seq ?_
 refine .seq ?_
 refine .region rfl ?_
 refine R.move (h := ?_)
 refine .n0 ?_
 refine .block ?_
 refine .seq ?_
 refine .region rfl ?_
 refine R.bin (run_eql _ _ _ _ _ _) (h := ?_)
 refine R.assign (h := ?_)
 refine .n0 ?_
 first | refine LGo.ifd (ht := fun hc => ?_) (hf := fun hc => ?_) | refine LGo.ifb (ht := fun hc => ?_) (hf := fun hc => ?_)
 ·
  rw [if_pos hc] at e1
  refine .region rfl ?_
  first | refine R.field F88_2 (h := ?_) | refine R.fieldAt F88_2 (h := ?_)
  refine R.storeB O22 (h := ?_)
  first | refine R.field F88_3 (h := ?_) | refine R.fieldAt F88_3 (h := ?_)
  refine R.storeB O22 (h := ?_)
  refine .n0 ?_
  refine .inBlock ?_
  refine .seq ?_
  refine .region rfl ?_
  first | refine R.loadA A88 (h := ?_) | refine R.loadN A88 (h := ?_) | refine R.loadP A88 (h := ?_)
  refine R.storeA A88 (h := ?_)
  refine .n0 ?_
  rw [← e1]
  exact LGo.ret (ret_A Tryz.results95 A88 hA hmd)
 ·
  rw [if_neg hc] at e1
  refine .seq ?_
  refine .seq ?_
  refine .region rfl ?_
  refine R.bin (run_eql _ _ _ _ _ _) (h := ?_)
  refine R.assign (h := ?_)
  refine .n0 ?_
  first | refine LGo.ifd (ht := fun hc2 => ?_) (hf := fun hc2 => ?_) | refine LGo.ifb (ht := fun hc2 => ?_) (hf := fun hc2 => ?_)
  ·
   rw [if_pos hc2] at e1
   refine .skip ?_
   refine LGo.ifb (ht := fun hc3 => ?_) (hf := fun hc3 => by exact absurd hc2 (by simpa using hc3))
   refine .region rfl ?_
   first | refine R.field F88_3 (h := ?_) | refine R.fieldAt F88_3 (h := ?_)
   refine R.storeB O22 (h := ?_)
   refine .n0 ?_
   refine .inBlock ?_
   refine .seq ?_
   refine .region rfl ?_
   first | refine R.loadA A88 (h := ?_) | refine R.loadN A88 (h := ?_) | refine R.loadP A88 (h := ?_)
   refine R.storeA A88 (h := ?_)
   refine .n0 ?_
   rw [← e1]
   exact LGo.ret (ret_A Tryz.results95 A88 hA hmd)
  ·
   rw [if_neg hc2] at e1
   refine .region rfl ?_
   refine R.bin (run_eql _ _ _ _ _ _) (h := ?_)
   refine R.assign (h := ?_)
   refine .n0 ?_
   first | refine LGo.ifd (ht := fun hc4 => ?_) (hf := fun hc4 => ?_) | refine LGo.ifb (ht := fun hc4 => ?_) (hf := fun hc4 => ?_)
   ·
    rw [if_pos hc4] at e1
    refine .region rfl ?_
    first | refine R.field F88_3 (h := ?_) | refine R.fieldAt F88_3 (h := ?_)
    refine R.storeB O22 (h := ?_)
    refine .n0 ?_
    refine .inBlock ?_
    refine .seq ?_
    refine .region rfl ?_
    first | refine R.loadA A88 (h := ?_) | refine R.loadN A88 (h := ?_) | refine R.loadP A88 (h := ?_)
    refine R.storeA A88 (h := ?_)
    refine .n0 ?_
    rw [← e1]
    exact LGo.ret (ret_A Tryz.results95 A88 hA hmd)
   ·
    rw [if_neg hc4] at e1
    refine .seq ?_
    refine .region rfl ?_
    refine R.bin (run_eql _ _ _ _ _ _) (h := ?_)
    refine R.assign (h := ?_)
    refine .n0 ?_
    first | refine LGo.ifd (ht := fun hc5 => ?_) (hf := fun hc5 => ?_) | refine LGo.ifb (ht := fun hc5 => ?_) (hf := fun hc5 => ?_)
    ·
     rw [if_pos hc5] at e1
     refine .region rfl ?_
     first | refine R.field F88_1 (h := ?_) | refine R.fieldAt F88_1 (h := ?_)
     refine R.storeB O3 (h := ?_)
     first | refine R.field F88_2 (h := ?_) | refine R.fieldAt F88_2 (h := ?_)
     refine R.storeB O22 (h := ?_)
     first | refine R.field F88_3 (h := ?_) | refine R.fieldAt F88_3 (h := ?_)
     refine R.storeB O22 (h := ?_)
     refine .n0 ?_
     refine .inBlock ?_
     refine .seq ?_
     refine .region rfl ?_
     first | refine R.loadA A88 (h := ?_) | refine R.loadN A88 (h := ?_) | refine R.loadP A88 (h := ?_)
     refine R.storeA A88 (h := ?_)
     refine .n0 ?_
     rw [← e1]
     exact LGo.ret (ret_A Tryz.results95 A88 hA hmd)
    ·
     rw [if_neg hc5] at e1
     refine .seq ?_
     refine .region rfl ?_
     refine R.bin (run_eql _ _ _ _ _ _) (h := ?_)
     refine R.assign (h := ?_)
     refine .n0 ?_
     first | refine LGo.ifd (ht := fun hc6 => ?_) (hf := fun hc6 => ?_) | refine LGo.ifb (ht := fun hc6 => ?_) (hf := fun hc6 => ?_)
     ·
      rw [if_pos hc6] at e1
      refine .region rfl ?_
      first | refine R.field F88_1 (h := ?_) | refine R.fieldAt F88_1 (h := ?_)
      refine R.storeB O3 (h := ?_)
      first | refine R.field F88_2 (h := ?_) | refine R.fieldAt F88_2 (h := ?_)
      refine R.storeB O22 (h := ?_)
      first | refine R.field F88_3 (h := ?_) | refine R.fieldAt F88_3 (h := ?_)
      refine R.storeB O22 (h := ?_)
      refine .n0 ?_
      refine .inBlock ?_
      refine .seq ?_
      refine .region rfl ?_
      first | refine R.loadA A88 (h := ?_) | refine R.loadN A88 (h := ?_) | refine R.loadP A88 (h := ?_)
      refine R.storeA A88 (h := ?_)
      refine .n0 ?_
      rw [← e1]
      exact LGo.ret (ret_A Tryz.results95 A88 hA hmd)
     ·
      rw [if_neg hc6] at e1
      refine .skip ?_
      refine .inBlock ?_
      refine .seq ?_
      refine .region rfl ?_
      first | refine R.loadA A88 (h := ?_) | refine R.loadN A88 (h := ?_) | refine R.loadP A88 (h := ?_)
      refine R.storeA A88 (h := ?_)
      refine .n0 ?_
      rw [← e1]
      exact LGo.ret (ret_A Tryz.results95 A88 hA hmd)

theorem widenI_P (n : Int) (hn : R64 n) : PC Tryz.prog 118 [.i n] (.tup [.u (uw n), .b (decide (n ≥ 0))]) := by
 refine ⟨LC.of_go Tryz.func118 (c := _) rfl (by kernel_rfl) (by rw [Tryz.ntmps118]; simp) rfl rfl (by simp [LO.lt, LV.lts, LV.lt]) (by simp) ?_⟩
 intro B hA hmd
 rw [← uw_wrap]
 refine .seq ?_
 refine .region rfl ?_
 refine R.assign (h := ?_)
 refine R.assign (h := ?_)
 refine .n0 ?_
 refine .seq ?_
 refine .region rfl ?_
 refine R.move (h := ?_)
 refine R.convW Tryz.runUnderlying3 Tryz.runUnderlying22 (h := ?_)
 refine R.move (h := ?_)
 refine R.bin (run_geq _ _ _ _ _ _) (h := ?_)
 refine R.assign (h := ?_)
 refine R.assign (h := ?_)
 refine .n0 ?_
 exact LGo.ret (ret_TT Tryz.results118 hA hmd)

theorem widenU_P (n : Int) (h0 : 0 ≤ n) (h1 : n < 18446744073709551616) : PC Tryz.prog 116 [.u n] (.tup [.u n, .b true]) := by
 refine ⟨LC.of_go Tryz.func116 (c := _) rfl (by kernel_rfl) (by rw [Tryz.ntmps116]; simp) rfl rfl (by simp [LO.lt, LV.lts, LV.lt]) (by simp) ?_⟩
 intro B hA hmd
 refine .seq ?_
 refine .region rfl ?_
 refine R.assign (h := ?_)
 refine R.assign (h := ?_)
 refine .n0 ?_
 refine .seq ?_
 refine .region rfl ?_
 refine R.move (h := ?_)
 refine R.move (h := ?_)
 refine R.bin (run_geq _ _ _ _ _ _) (h := ?_)
 rw [show decide (0 ≤ n) = true from decide_eq_true h0]
 refine R.assign (h := ?_)
 refine R.assign (h := ?_)
 refine .n0 ?_
 exact LGo.ret (ret_TT Tryz.results116 hA hmd)

theorem widenV_P (n : Int) (h0 : 0 ≤ n) (h1 : n < 4294967296) : PC Tryz.prog 117 [.v (.int .u32 n)] (.tup [.u n, .b true]) := by
 refine ⟨LC.of_go Tryz.func117 (c := _) rfl (by kernel_rfl) (by rw [Tryz.ntmps117]; simp) rfl rfl (by simp [LO.lt, LV.lts, LV.lt]) (by simp) ?_⟩
 intro B hA hmd
 refine .seq ?_
 refine .region rfl ?_
 refine R.assign (h := ?_)
 refine R.assign (h := ?_)
 refine .n0 ?_
 refine .seq ?_
 refine .region rfl ?_
 refine R.move (h := ?_)
 first | refine R.convI Tryz.runUnderlying38 Tryz.runUnderlying22 (h := ?_) | refine R.convW Tryz.runUnderlying38 Tryz.runUnderlying22 (h := ?_)
 refine R.move (h := ?_)
 refine R.bin (run_geq _ _ _ _ _ _) (h := ?_)
 rw [show decide (0 ≤ n) = true from decide_eq_true h0]
 refine R.assign (h := ?_)
 refine R.assign (h := ?_)
 refine .n0 ?_
 exact LGo.ret (ret_TT Tryz.results117 hA hmd)

/-- the field with a tag; false: its number is below 0 -/
def fieldQ (r : Rq) (t : Int) : Fld × Bool := if t = 1 then (⟨t, r.id, []⟩, true) else if t = 2 then (⟨t, r.owner, []⟩, true) else if t = 3 then (⟨t, 0, r.ses⟩, true) else if t = 4 then (⟨t, 0, r.tic⟩, true)
  else if t = 5 then (⟨t, uw r.seat, []⟩, decide (r.seat ≥ 0)) else if t = 6 then (⟨t, uw r.sec, []⟩, decide (r.sec ≥ 0)) else if t = 7 then (⟨t, uw r.n, []⟩, decide (r.n ≥ 0)) else if t = 8 then (⟨t, r.to, []⟩, true) else if t = 9 then (⟨t, uw r.gate, []⟩, decide (r.gate ≥ 0)) else (⟨t, 0, []⟩, true)

theorem fieldQ_P (r : Rq) (hr : RqOk r) (t : Int) : PC Tryz.prog 94 [.agg (r.c.map LV.sv), .i t] (.tup [.agg ((fieldQ r t).1.c.map LV.sv), .b (fieldQ r t).2]) := by
 refine ⟨LC.of_go Tryz.func94 (c := _) rfl (by kernel_rfl) (by rw [Tryz.ntmps94]; simp) rfl rfl (by simp [LO.lt, LV.lts, LV.lt]) (by simp) ?_⟩
 intro B hA hmd
 obtain ⟨g, e0⟩ : ∃ g, fieldQ r t = g := ⟨_, rfl⟩
 have e1 := e0
 unfold fieldQ at e1
 rw [e0]
 refine .seq ?_
 refine .region rfl ?_
 refine R.box (h := ?_)
 refine R.alloc Z55 (h := ?_)
 refine R.assign (h := ?_)
 refine .n0 ?_
 refine .seq ?_
 refine .region rfl ?_
 refine R.move (h := ?_)
 refine R.build BF55 (is := [0]) (xs := [_]) (es := [_]) (h := ?_)
 refine R.alloc Z55 (h := ?_)
 refine R.storeA A55 (h := ?_)
 refine .n0 ?_
 refine .seq ?_
 refine .region rfl ?_
 refine R.assign (h := ?_)
 refine .n0 ?_
 refine .seq ?_
 refine .seq ?_
 refine .region rfl ?_
 refine R.move (h := ?_)
 refine .n0 ?_
 refine .block ?_
 refine .seq ?_
 refine .region rfl ?_
 refine R.bin (run_eql _ _ _ _ _ _) (h := ?_)
 refine R.assign (h := ?_)
 refine .n0 ?_
 first | refine LGo.ifd (ht := fun hc => ?_) (hf := fun hc => ?_) | refine LGo.ifb (ht := fun hc => ?_) (hf := fun hc => ?_)
 ·
  rw [if_pos hc] at e1
  refine .region rfl ?_
  first | refine R.field F40_1 (h := ?_) | refine R.fieldAt F40_1 (h := ?_)
  first | refine R.loadB O22 (h := ?_) | refine R.load1 O22 (h := ?_)
  refine R.callP (es := [_]) (fun _ => widenU_P r.id hr.id.1 hr.id.2) (h := ?_)
  refine R.move (h := ?_)
  refine R.extract (h := ?_)
  refine R.extract (h := ?_)
  first | refine R.field F55_1 (h := ?_) | refine R.fieldAt F55_1 (h := ?_)
  refine R.storeB O22 (h := ?_)
  refine R.assign (h := ?_)
  refine .n0 ?_
  refine .inBlock ?_
  refine .seq ?_
  refine .region rfl ?_
  first | refine R.loadA A55 (h := ?_) | refine R.loadN A55 (h := ?_) | refine R.loadP A55 (h := ?_)
  refine R.move (h := ?_)
  refine R.storeA A55 (h := ?_)
  refine R.assign (h := ?_)
  refine .n0 ?_
  rw [← e1]
  exact LGo.ret (ret_AT Tryz.results94 A55 hA hmd)
 ·
  rw [if_neg hc] at e1
  refine .seq ?_
  refine .region rfl ?_
  refine R.bin (run_eql _ _ _ _ _ _) (h := ?_)
  refine R.assign (h := ?_)
  refine .n0 ?_
  first | refine LGo.ifd (ht := fun hc2 => ?_) (hf := fun hc2 => ?_) | refine LGo.ifb (ht := fun hc2 => ?_) (hf := fun hc2 => ?_)
  ·
   rw [if_pos hc2] at e1
   refine .region rfl ?_
   first | refine R.field F40_2 (h := ?_) | refine R.fieldAt F40_2 (h := ?_)
   first | refine R.loadB O38 (h := ?_) | refine R.load1 O38 (h := ?_)
   refine R.callP (es := [_]) (fun _ => widenV_P r.owner hr.owner.1 hr.owner.2) (h := ?_)
   refine R.move (h := ?_)
   refine R.extract (h := ?_)
   refine R.extract (h := ?_)
   first | refine R.field F55_1 (h := ?_) | refine R.fieldAt F55_1 (h := ?_)
   refine R.storeB O22 (h := ?_)
   refine R.assign (h := ?_)
   refine .n0 ?_
   refine .inBlock ?_
   refine .seq ?_
   refine .region rfl ?_
   first | refine R.loadA A55 (h := ?_) | refine R.loadN A55 (h := ?_) | refine R.loadP A55 (h := ?_)
   refine R.move (h := ?_)
   refine R.storeA A55 (h := ?_)
   refine R.assign (h := ?_)
   refine .n0 ?_
   rw [← e1]
   exact LGo.ret (ret_AT Tryz.results94 A55 hA hmd)
  ·
   rw [if_neg hc2] at e1
   refine .seq ?_
   refine .region rfl ?_
   refine R.bin (run_eql _ _ _ _ _ _) (h := ?_)
   refine R.assign (h := ?_)
   refine .n0 ?_
   first | refine LGo.ifd (ht := fun hc3 => ?_) (hf := fun hc3 => ?_) | refine LGo.ifb (ht := fun hc3 => ?_) (hf := fun hc3 => ?_)
   ·
    rw [if_pos hc3] at e1
    refine .region rfl ?_
    first | refine R.field F40_4 (h := ?_) | refine R.fieldAt F40_4 (h := ?_)
    first | refine R.loadB O9 (h := ?_) | refine R.load1 O9 (h := ?_)
    first | refine R.field F55_2 (h := ?_) | refine R.fieldAt F55_2 (h := ?_)
    refine R.storeB O9 (h := ?_)
    refine .n0 ?_
    refine .inBlock ?_
    refine .seq ?_
    refine .region rfl ?_
    first | refine R.loadA A55 (h := ?_) | refine R.loadN A55 (h := ?_) | refine R.loadP A55 (h := ?_)
    refine R.move (h := ?_)
    refine R.storeA A55 (h := ?_)
    refine R.assign (h := ?_)
    refine .n0 ?_
    rw [← e1]
    exact LGo.ret (ret_AT Tryz.results94 A55 hA hmd)
   ·
    rw [if_neg hc3] at e1
    refine .seq ?_
    refine .region rfl ?_
    refine R.bin (run_eql _ _ _ _ _ _) (h := ?_)
    refine R.assign (h := ?_)
    refine .n0 ?_
    first | refine LGo.ifd (ht := fun hc4 => ?_) (hf := fun hc4 => ?_) | refine LGo.ifb (ht := fun hc4 => ?_) (hf := fun hc4 => ?_)
    ·
     rw [if_pos hc4] at e1
     refine .region rfl ?_
     first | refine R.field F40_5 (h := ?_) | refine R.fieldAt F40_5 (h := ?_)
     first | refine R.loadB O9 (h := ?_) | refine R.load1 O9 (h := ?_)
     first | refine R.field F55_2 (h := ?_) | refine R.fieldAt F55_2 (h := ?_)
     refine R.storeB O9 (h := ?_)
     refine .n0 ?_
     refine .inBlock ?_
     refine .seq ?_
     refine .region rfl ?_
     first | refine R.loadA A55 (h := ?_) | refine R.loadN A55 (h := ?_) | refine R.loadP A55 (h := ?_)
     refine R.move (h := ?_)
     refine R.storeA A55 (h := ?_)
     refine R.assign (h := ?_)
     refine .n0 ?_
     rw [← e1]
     exact LGo.ret (ret_AT Tryz.results94 A55 hA hmd)
    ·
     rw [if_neg hc4] at e1
     refine .seq ?_
     refine .region rfl ?_
     refine R.bin (run_eql _ _ _ _ _ _) (h := ?_)
     refine R.assign (h := ?_)
     refine .n0 ?_
     first | refine LGo.ifd (ht := fun hc5 => ?_) (hf := fun hc5 => ?_) | refine LGo.ifb (ht := fun hc5 => ?_) (hf := fun hc5 => ?_)
     ·
      rw [if_pos hc5] at e1
      refine .region rfl ?_
      first | refine R.field F40_6 (h := ?_) | refine R.fieldAt F40_6 (h := ?_)
      first | refine R.loadB O3 (h := ?_) | refine R.load1 O3 (h := ?_)
      refine R.callP (es := [_]) (fun _ => widenI_P r.seat hr.seat) (h := ?_)
      refine R.move (h := ?_)
      refine R.extract (h := ?_)
      refine R.extract (h := ?_)
      first | refine R.field F55_1 (h := ?_) | refine R.fieldAt F55_1 (h := ?_)
      refine R.storeB O22 (h := ?_)
      refine R.assign (h := ?_)
      refine .n0 ?_
      refine .inBlock ?_
      refine .seq ?_
      refine .region rfl ?_
      first | refine R.loadA A55 (h := ?_) | refine R.loadN A55 (h := ?_) | refine R.loadP A55 (h := ?_)
      refine R.move (h := ?_)
      refine R.storeA A55 (h := ?_)
      refine R.assign (h := ?_)
      refine .n0 ?_
      rw [← e1]
      exact LGo.ret (ret_AT Tryz.results94 A55 hA hmd)
     ·
      rw [if_neg hc5] at e1
      refine .seq ?_
      refine .region rfl ?_
      refine R.bin (run_eql _ _ _ _ _ _) (h := ?_)
      refine R.assign (h := ?_)
      refine .n0 ?_
      first | refine LGo.ifd (ht := fun hc6 => ?_) (hf := fun hc6 => ?_) | refine LGo.ifb (ht := fun hc6 => ?_) (hf := fun hc6 => ?_)
      ·
       rw [if_pos hc6] at e1
       refine .region rfl ?_
       first | refine R.field F40_7 (h := ?_) | refine R.fieldAt F40_7 (h := ?_)
       first | refine R.loadB O3 (h := ?_) | refine R.load1 O3 (h := ?_)
       refine R.callP (es := [_]) (fun _ => widenI_P r.sec hr.sec) (h := ?_)
       refine R.move (h := ?_)
       refine R.extract (h := ?_)
       refine R.extract (h := ?_)
       first | refine R.field F55_1 (h := ?_) | refine R.fieldAt F55_1 (h := ?_)
       refine R.storeB O22 (h := ?_)
       refine R.assign (h := ?_)
       refine .n0 ?_
       refine .inBlock ?_
       refine .seq ?_
       refine .region rfl ?_
       first | refine R.loadA A55 (h := ?_) | refine R.loadN A55 (h := ?_) | refine R.loadP A55 (h := ?_)
       refine R.move (h := ?_)
       refine R.storeA A55 (h := ?_)
       refine R.assign (h := ?_)
       refine .n0 ?_
       rw [← e1]
       exact LGo.ret (ret_AT Tryz.results94 A55 hA hmd)
      ·
       rw [if_neg hc6] at e1
       refine .seq ?_
       refine .region rfl ?_
       refine R.bin (run_eql _ _ _ _ _ _) (h := ?_)
       refine R.assign (h := ?_)
       refine .n0 ?_
       first | refine LGo.ifd (ht := fun hc7 => ?_) (hf := fun hc7 => ?_) | refine LGo.ifb (ht := fun hc7 => ?_) (hf := fun hc7 => ?_)
       ·
        rw [if_pos hc7] at e1
        refine .region rfl ?_
        first | refine R.field F40_8 (h := ?_) | refine R.fieldAt F40_8 (h := ?_)
        first | refine R.loadB O3 (h := ?_) | refine R.load1 O3 (h := ?_)
        refine R.callP (es := [_]) (fun _ => widenI_P r.n hr.n) (h := ?_)
        refine R.move (h := ?_)
        refine R.extract (h := ?_)
        refine R.extract (h := ?_)
        first | refine R.field F55_1 (h := ?_) | refine R.fieldAt F55_1 (h := ?_)
        refine R.storeB O22 (h := ?_)
        refine R.assign (h := ?_)
        refine .n0 ?_
        refine .inBlock ?_
        refine .seq ?_
        refine .region rfl ?_
        first | refine R.loadA A55 (h := ?_) | refine R.loadN A55 (h := ?_) | refine R.loadP A55 (h := ?_)
        refine R.move (h := ?_)
        refine R.storeA A55 (h := ?_)
        refine R.assign (h := ?_)
        refine .n0 ?_
        rw [← e1]
        exact LGo.ret (ret_AT Tryz.results94 A55 hA hmd)
       ·
        rw [if_neg hc7] at e1
        refine .seq ?_
        refine .region rfl ?_
        refine R.bin (run_eql _ _ _ _ _ _) (h := ?_)
        refine R.assign (h := ?_)
        refine .n0 ?_
        first | refine LGo.ifd (ht := fun hc8 => ?_) (hf := fun hc8 => ?_) | refine LGo.ifb (ht := fun hc8 => ?_) (hf := fun hc8 => ?_)
        ·
         rw [if_pos hc8] at e1
         refine .region rfl ?_
         first | refine R.field F40_3 (h := ?_) | refine R.fieldAt F40_3 (h := ?_)
         first | refine R.loadB O38 (h := ?_) | refine R.load1 O38 (h := ?_)
         refine R.callP (es := [_]) (fun _ => widenV_P r.to hr.to.1 hr.to.2) (h := ?_)
         refine R.move (h := ?_)
         refine R.extract (h := ?_)
         refine R.extract (h := ?_)
         first | refine R.field F55_1 (h := ?_) | refine R.fieldAt F55_1 (h := ?_)
         refine R.storeB O22 (h := ?_)
         refine R.assign (h := ?_)
         refine .n0 ?_
         refine .inBlock ?_
         refine .seq ?_
         refine .region rfl ?_
         first | refine R.loadA A55 (h := ?_) | refine R.loadN A55 (h := ?_) | refine R.loadP A55 (h := ?_)
         refine R.move (h := ?_)
         refine R.storeA A55 (h := ?_)
         refine R.assign (h := ?_)
         refine .n0 ?_
         rw [← e1]
         exact LGo.ret (ret_AT Tryz.results94 A55 hA hmd)
        ·
         rw [if_neg hc8] at e1
         refine .seq ?_
         refine .region rfl ?_
         refine R.bin (run_eql _ _ _ _ _ _) (h := ?_)
         refine R.assign (h := ?_)
         refine .n0 ?_
         first | refine LGo.ifd (ht := fun hc9 => ?_) (hf := fun hc9 => ?_) | refine LGo.ifb (ht := fun hc9 => ?_) (hf := fun hc9 => ?_)
         ·
          rw [if_pos hc9] at e1
          refine .region rfl ?_
          first | refine R.field F40_9 (h := ?_) | refine R.fieldAt F40_9 (h := ?_)
          first | refine R.loadB O3 (h := ?_) | refine R.load1 O3 (h := ?_)
          refine R.callP (es := [_]) (fun _ => widenI_P r.gate hr.gate) (h := ?_)
          refine R.move (h := ?_)
          refine R.extract (h := ?_)
          refine R.extract (h := ?_)
          first | refine R.field F55_1 (h := ?_) | refine R.fieldAt F55_1 (h := ?_)
          refine R.storeB O22 (h := ?_)
          refine R.assign (h := ?_)
          refine .n0 ?_
          refine .inBlock ?_
          refine .seq ?_
          refine .region rfl ?_
          first | refine R.loadA A55 (h := ?_) | refine R.loadN A55 (h := ?_) | refine R.loadP A55 (h := ?_)
          refine R.move (h := ?_)
          refine R.storeA A55 (h := ?_)
          refine R.assign (h := ?_)
          refine .n0 ?_
          rw [← e1]
          exact LGo.ret (ret_AT Tryz.results94 A55 hA hmd)
         ·
          rw [if_neg hc9] at e1
          refine .skip ?_
          refine .inBlock ?_
          refine .seq ?_
          refine .region rfl ?_
          first | refine R.loadA A55 (h := ?_) | refine R.loadN A55 (h := ?_) | refine R.loadP A55 (h := ?_)
          refine R.move (h := ?_)
          refine R.storeA A55 (h := ?_)
          refine R.assign (h := ?_)
          refine .n0 ?_
          rw [← e1]
          exact LGo.ret (ret_AT Tryz.results94 A55 hA hmd)

/-- the error of a field with a rule, behind those before it -/
def errQ (x : Rule) (f : Fld) (is : Bool) (e : Int) : Int := if (decide (x.kind = 1) && (((!is) || decide (f.num < x.low)) || decide (x.high < f.num))) = true then 7 else if ((decide (x.kind = 2) && !decide ((f.txt.length : Int) = x.low)) && decide (e = 0)) = true then 3 else e
def foGo (m : Int) (r : Rq) : Nat → Nat → List Fld → Int → List Fld × Int
  | 0, _, l, e => if (!decide (e = 0)) = true then ([], e) else (l, 0)
  | n + 1, k, l, e => if bitQ m k = 0 then (if ((!decide ((fieldQ r k).1.num = 0)) || !decide ((fieldQ r k).1.txt = [])) = true then ([], 2) else foGo m r n (k + 1) l e)
      else foGo m r n (k + 1) (l ++ [(fieldQ r k).1]) (errQ (ruleQ k) (fieldQ r k).1 (fieldQ r k).2 e)
def fieldsOf (r : Rq) : List Fld × Int := if maskOf r.kind = 0 then ([], 2) else foGo (maskOf r.kind) r 9 1 [] 0
def checkQ (r : Rq) : Int := (fieldsOf r).2
theorem fieldQ_len (r : Rq) (hr : RqOk r) (t : Int) : (fieldQ r t).1.txt.length ≤ maxLen := by
  unfold fieldQ
  have h1 := hr.ses
  have h2 := hr.tic
  (repeat' split) <;> simp [*]

theorem fieldsOf_P (r : Rq) (hr : RqOk r) : PC Tryz.prog 68 [.agg (r.c.map LV.sv)] (.tup [.sv (.sl 3 ((fieldsOf r).1.map Fld.c)), .i (fieldsOf r).2]) := by
 refine ⟨LC.of_go Tryz.func68 (c := _) rfl (by kernel_rfl) (by rw [Tryz.ntmps68]; simp) rfl rfl (by simp [LO.lt, LV.lts, LV.lt]) (by simp) ?_⟩
 intro B hA hmd
 obtain ⟨g, e0⟩ : ∃ g, fieldsOf r = g := ⟨_, rfl⟩
 have e1 := e0
 unfold fieldsOf at e1
 rw [e0]
 have hm := maskOf_lt r.kind
 refine .seq ?_
 refine .region rfl ?_
 refine R.box (h := ?_)
 refine R.assign (h := ?_)
 refine R.assign (h := ?_)
 refine .n0 ?_
 refine LGo.scope ?_
 refine .seq ?_
 refine .region rfl ?_
 first | refine R.field F40_0 (h := ?_) | refine R.fieldAt F40_0 (h := ?_)
 first | refine R.loadB O3 (h := ?_) | refine R.load1 O3 (h := ?_)
 refine R.callP (es := [_]) (fun _ => mask_P r.kind) (h := ?_)
 refine R.assign (h := ?_)
 refine .n0 ?_
 refine .seq ?_
 refine .seq ?_
 refine .region rfl ?_
 refine R.move (h := ?_)
 refine R.bin (run_eql _ _ _ _ _ _) (h := ?_)
 refine .n0 ?_
 refine LGo.ifd (ht := fun hc => ?_) (hf := fun hc => ?_)
 ·
  rw [if_pos hc] at e1; rw [← e1]
  refine .seq ?_
  refine .region rfl ?_
  refine R.assign (h := ?_)
  refine R.assign (h := ?_)
  refine .n0 ?_
  first | refine LGo.frzT 2 (h := ?_) | refine LGo.nilSl 2 3 (h := ?_) | skip
  exact LGo.ret (ret_TT Tryz.results68 hA hmd)
 ·
  rw [if_neg hc] at e1
  generalize maskOf r.kind = m at *
  refine .skip ?_
  refine .seq ?_
  refine .region rfl ?_
  refine R.assign (h := ?_)
  refine .n0 ?_
  refine .seq ?_
  refine .region rfl ?_
  refine R.assign (h := ?_)
  refine .n0 ?_
  refine .seq ?_
  refine .seq ?_
  refine .region rfl ?_
  refine R.assign (h := ?_)
  refine .n0 ?_
  refine .block ?_
  refine .loop ?_
  refine LGo.nilRs 5 55 3 (h := ?_)
  refine LGo.loopG (σ := Nat × Nat × List Fld × Int) (fun x => x.1 + x.2.1 = 10 ∧ 1 ≤ x.2.1 ∧ x.2.2.1.length ≤ x.2.1 ∧ foGo m r x.1 x.2.1 x.2.2.1 x.2.2.2 = g) (fun x => [(7, (true, .i (x.2.1 : Nat))), (5, (true, .ref 1)), (6, (true, .i x.2.2.2))]) (fun x => [(0, .box 40 (r.c.map LV.sv)), (1, .rs 55 3 (x.2.2.1.map Fld.c))]) (fun x => x.1) ((9, 1, [], 0)) [(1, _), (4, _)] ⟨rfl, Nat.le_refl _, Nat.zero_le _, e1⟩ (by repeat (first | exact trivial | refine ⟨rfl, ?_⟩)) (by repeat (first | exact trivial | refine ⟨rfl, ?_⟩)) (by repeat (first | exact trivial | refine ⟨rfl, ?_⟩)) ?_
  rintro ⟨fu, k, acc, e⟩ ⟨q1, q2, q3, e1⟩ ih
  dsimp only at * 
  refine .seq ?_
  refine .seq ?_
  refine .region rfl ?_
  refine R.move (h := ?_)
  refine R.bin (run_leq _ _ _ _ _ _) (h := ?_)
  refine .n0 ?_
  refine LGo.ifd (ht := fun hc2 => ?_) (hf := fun hc2 => ?_)
  ·
   obtain ⟨f, rfl⟩ : ∃ f, fu = f + 1 := ⟨fu - 1, by omega⟩
   rw [foGo] at e1
   have hfl := fieldQ_len r hr (k : Int)
   refine .skip ?_
   refine .seq ?_
   refine .block ?_
   refine .seq ?_
   refine .region rfl ?_
   first | refine R.loadA A40 (h := ?_) | refine R.loadN A40 (h := ?_) | refine R.loadP A40 (h := ?_)
   refine R.move (h := ?_)
   refine R.callP (es := [_, _]) (fun _ => fieldQ_P r hr (k : Int)) (h := ?_)
   refine R.move (h := ?_)
   refine R.extract (h := ?_)
   generalize hfx : (fieldQ r (k : Int)).1 = fx at *
   generalize his : (fieldQ r (k : Int)).2 = is at *
   refine R.extract (h := ?_)
   refine R.alloc Z55 (h := ?_)
   refine R.storeA A55 (h := ?_)
   refine R.assign (h := ?_)
   refine .n0 ?_
   refine .seq ?_
   refine .seq ?_
   refine .region rfl ?_
   refine R.move (h := ?_)
   refine R.move (h := ?_)
   refine R.shr (h := ?_)
   rw [shr_u16 m k (by omega)]
   refine R.bin (run_andE _ _ _ .u16 _ 1 (and1_u16 _ (div_lt m k hm.1 hm.2).1 (div_lt m k hm.1 hm.2).2)) (h := ?_)
   refine R.bin (run_eql _ _ _ _ _ _) (h := ?_)
   refine .n0 ?_
   refine LGo.ifd (ht := fun hc3 => ?_) (hf := fun hc3 => ?_)
   ·
    rw [if_pos (show bitQ m k = 0 from hc3)] at e1
    refine .seq ?_
    refine .seq ?_
    refine .region rfl ?_
    first | refine R.field F55_1 (h := ?_) | refine R.fieldAt F55_1 (h := ?_)
    first | refine R.loadB O22 (h := ?_) | refine R.load1 O22 (h := ?_)
    refine R.bin (run_neq _ _ _ _ _ _) (h := ?_)
    refine R.move (h := ?_)
    first | refine R.field F55_2 (h := ?_) | refine R.fieldAt F55_2 (h := ?_)
    first | refine R.loadB O9 (h := ?_) | refine R.load1 O9 (h := ?_)
    refine R.bin (run_neqT _ _ _ _ _) (h := ?_)
    refine R.or (h := ?_)
    refine .n0 ?_
    refine LGo.ifb (ht := fun hc4 => ?_) (hf := fun hc4 => ?_)
    ·
     rw [if_pos hc4] at e1; rw [← e1]
     refine LGo.goto rfl ?_
     refine .seq ?_
     refine .skip ?_
     refine .seq ?_
     refine .region rfl ?_
     refine R.assign (h := ?_)
     refine R.assign (h := ?_)
     refine .n0 ?_
     first | refine LGo.frzT 2 (h := ?_) | refine LGo.nilSl 2 3 (h := ?_) | skip
     exact LGo.ret (ret_TT Tryz.results68 hA hmd)
    ·
     rw [if_neg (by rw [hc4]; simp)] at e1
     refine .skip ?_
     refine .exit rfl ?_
     refine .region rfl ?_
     refine R.move (h := ?_)
     first | refine R.add (h := ?_) | refine R.addW (h := ?_)
     refine R.assign (h := ?_)
     refine .n0 ?_
     refine .inLoop ?_
     exact LGo.next _ (fun o h => by have := (hA o).1 h; omega) (by omega) (ih (f, k + 1, acc, e) ⟨by dsimp only; omega, by dsimp only; omega, by dsimp only; omega, e1⟩ (by dsimp only; omega)) (by repeat (first | exact trivial | refine ⟨rfl, ?_⟩)) (by repeat (first | exact trivial | refine ⟨rfl, ?_⟩))
   ·
    rw [if_neg (show ¬ bitQ m k = 0 from hc3)] at e1
    refine .skip ?_
    refine .seq ?_
    refine .region rfl ?_
    refine R.move (h := ?_)
    first | refine R.loadA A55 (h := ?_) | refine R.loadN A55 (h := ?_) | refine R.loadP A55 (h := ?_)
    refine R.buildSliceG AP61 (xs := [_]) (es := [_]) (hcs := CellsOfs.cons (CellsOf.agg rfl) CellsOfs.nil) (h := ?_)
    refine R.appendS AP61 (hs := SrcOk.sl Tryz.underlying61 (by simp; rfl)) (hlen := by simp; omega) (h := ?_)
    refine R.assign (h := ?_)
    refine .n0 ?_
    refine .seq ?_
    refine .region rfl ?_
    refine R.move (h := ?_)
    refine R.callP (es := [_]) (fun _ => ruleQ_P (k : Int)) (h := ?_)
    refine R.alloc Z88 (h := ?_)
    refine R.storeA A88 (h := ?_)
    refine .n0 ?_
    refine .block ?_
    refine .seq ?_
    refine .region rfl ?_
    first | refine R.field F88_1 (h := ?_) | refine R.fieldAt F88_1 (h := ?_)
    first | refine R.loadB O3 (h := ?_) | refine R.load1 O3 (h := ?_)
    refine R.bin (run_eql _ _ _ _ _ _) (h := ?_)
    refine R.move (h := ?_)
    refine R.move (h := ?_)
    refine R.not (h := ?_)
    refine R.move (h := ?_)
    first | refine R.field F55_1 (h := ?_) | refine R.fieldAt F55_1 (h := ?_)
    first | refine R.loadB O22 (h := ?_) | refine R.load1 O22 (h := ?_)
    first | refine R.field F88_2 (h := ?_) | refine R.fieldAt F88_2 (h := ?_)
    first | refine R.loadB O22 (h := ?_) | refine R.load1 O22 (h := ?_)
    refine R.bin (run_lss _ _ _ _ _ _) (h := ?_)
    refine R.or (h := ?_)
    refine R.move (h := ?_)
    first | refine R.field F55_1 (h := ?_) | refine R.fieldAt F55_1 (h := ?_)
    first | refine R.loadB O22 (h := ?_) | refine R.load1 O22 (h := ?_)
    first | refine R.field F88_3 (h := ?_) | refine R.fieldAt F88_3 (h := ?_)
    first | refine R.loadB O22 (h := ?_) | refine R.load1 O22 (h := ?_)
    refine R.bin (run_gtr _ _ _ _ _ _) (h := ?_)
    refine R.or (h := ?_)
    refine R.and (h := ?_)
    refine R.assign (h := ?_)
    refine .n0 ?_
    refine LGo.ifb (ht := fun hc5 => ?_) (hf := fun hc5 => ?_)
    ·
     have he : errQ (ruleQ (k : Int)) fx is e = 7 := by unfold errQ; rw [if_pos hc5]
     refine .region rfl ?_
     refine R.assign (h := ?_)
     refine .n0 ?_
     refine .inBlock ?_
     refine .inBlock ?_
     refine .region rfl ?_
     refine R.move (h := ?_)
     first | refine R.add (h := ?_) | refine R.addW (h := ?_)
     refine R.assign (h := ?_)
     refine .n0 ?_
     refine .inLoop ?_
     exact LGo.turn [0, 3] (b := 0) (fun o h => by have := (hA o).1 h; omega) (ih (f, k + 1, acc ++ [fx], 7) ⟨by dsimp only; omega, by dsimp only; omega, by simp; omega, by rw [← he]; exact e1⟩ (by dsimp only; omega)) (by repeat (first | exact trivial | refine ⟨rfl, ?_⟩)) ⟨rfl, by rw [List.map_append]; rfl, trivial⟩
    ·
     refine .seq ?_
     refine .region rfl ?_
     first | refine R.field F88_1 (h := ?_) | refine R.fieldAt F88_1 (h := ?_)
     first | refine R.loadB O3 (h := ?_) | refine R.load1 O3 (h := ?_)
     refine R.bin (run_eql _ _ _ _ _ _) (h := ?_)
     refine R.move (h := ?_)
     first | refine R.field F55_2 (h := ?_) | refine R.fieldAt F55_2 (h := ?_)
     first | refine R.loadB O9 (h := ?_) | refine R.load1 O9 (h := ?_)
     refine R.lenT Tryz.runUnderlying9 (h := ?_)
     first | refine R.convI Tryz.runUnderlying3 Tryz.runUnderlying22 (h := ?_) | refine R.convW Tryz.runUnderlying3 Tryz.runUnderlying22 (h := ?_)
     rw [show IntKind.u64.wrap (fx.txt.length : Int) = (fx.txt.length : Int) from by rw [IntKind.wrap_u64]; unfold maxLen at hfl; omega]
     first | refine R.field F88_2 (h := ?_) | refine R.fieldAt F88_2 (h := ?_)
     first | refine R.loadB O22 (h := ?_) | refine R.load1 O22 (h := ?_)
     refine R.bin (run_neq _ _ _ _ _ _) (h := ?_)
     refine R.and (h := ?_)
     refine R.move (h := ?_)
     refine R.move (h := ?_)
     refine R.bin (run_eql _ _ _ _ _ _) (h := ?_)
     refine R.and (h := ?_)
     refine R.assign (h := ?_)
     refine .n0 ?_
     refine LGo.ifb (ht := fun hc6 => ?_) (hf := fun hc6 => ?_)
     ·
      have he : errQ (ruleQ (k : Int)) fx is e = 3 := by unfold errQ; rw [if_neg (by rw [hc5]; simp), if_pos hc6]
      refine .region rfl ?_
      refine R.assign (h := ?_)
      refine .n0 ?_
      refine .inBlock ?_
      refine .inBlock ?_
      refine .region rfl ?_
      refine R.move (h := ?_)
      first | refine R.add (h := ?_) | refine R.addW (h := ?_)
      refine R.assign (h := ?_)
      refine .n0 ?_
      refine .inLoop ?_
      exact LGo.turn [0, 3] (b := 0) (fun o h => by have := (hA o).1 h; omega) (ih (f, k + 1, acc ++ [fx], 3) ⟨by dsimp only; omega, by dsimp only; omega, by simp; omega, by rw [← he]; exact e1⟩ (by dsimp only; omega)) (by repeat (first | exact trivial | refine ⟨rfl, ?_⟩)) ⟨rfl, by rw [List.map_append]; rfl, trivial⟩
     ·
      have he : errQ (ruleQ (k : Int)) fx is e = e := by unfold errQ; rw [if_neg (by rw [hc5]; simp), if_neg (by rw [hc6]; simp)]
      refine .skip ?_
      refine .inBlock ?_
      refine .inBlock ?_
      refine .region rfl ?_
      refine R.move (h := ?_)
      first | refine R.add (h := ?_) | refine R.addW (h := ?_)
      refine R.assign (h := ?_)
      refine .n0 ?_
      refine .inLoop ?_
      exact LGo.turn [0, 3] (b := 0) (fun o h => by have := (hA o).1 h; omega) (ih (f, k + 1, acc ++ [fx], e) ⟨by dsimp only; omega, by dsimp only; omega, by simp; omega, by rw [← he]; exact e1⟩ (by dsimp only; omega)) (by repeat (first | exact trivial | refine ⟨rfl, ?_⟩)) ⟨rfl, by rw [List.map_append]; rfl, trivial⟩
  ·
   obtain rfl : fu = 0 := by omega
   rw [foGo] at e1
   refine .exit rfl ?_
   refine .seq ?_
   refine .seq ?_
   refine .region rfl ?_
   refine R.move (h := ?_)
   refine R.bin (run_neq _ _ _ _ _ _) (h := ?_)
   refine .n0 ?_
   refine LGo.ifb (ht := fun hc7 => ?_) (hf := fun hc7 => ?_)
   ·
    rw [if_pos hc7] at e1; rw [← e1]
    refine .seq ?_
    refine .region rfl ?_
    refine R.move (h := ?_)
    refine R.assign (h := ?_)
    refine R.assign (h := ?_)
    refine .n0 ?_
    first | refine LGo.frzT 2 (h := ?_) | refine LGo.nilSl 2 3 (h := ?_) | skip
    exact LGo.ret (ret_TT Tryz.results68 hA hmd)
   ·
    rw [if_neg (by rw [hc7]; simp)] at e1; rw [← e1]
    refine .skip ?_
    refine .seq ?_
    refine .seq ?_
    refine .region rfl ?_
    refine R.move (h := ?_)
    refine R.assign (h := ?_)
    refine R.assign (h := ?_)
    refine .n0 ?_
    first | refine LGo.frzT 2 (h := ?_) | refine LGo.nilSl 2 3 (h := ?_) | skip
    exact LGo.ret (ret_TT Tryz.results68 hA hmd)

theorem checkQ_P (r : Rq) (hr : RqOk r) : PC Tryz.prog 38 [.agg (r.c.map LV.sv)] (.i (checkQ r)) := by
 refine ⟨LC.of_go Tryz.func38 (c := _) rfl (by kernel_rfl) (by rw [Tryz.ntmps38]; simp) rfl rfl (by simp [LO.lt, LV.lts, LV.lt]) (by simp) ?_⟩
 intro B hA hmd
 unfold checkQ
 refine .seq ?_
 refine .region rfl ?_
 refine R.box (h := ?_)
 refine R.assign (h := ?_)
 refine .n0 ?_
 refine .seq ?_
 refine .region rfl ?_
 first | refine R.loadA A40 (h := ?_) | refine R.loadN A40 (h := ?_) | refine R.loadP A40 (h := ?_)
 refine R.callP (es := [_]) (fun _ => fieldsOf_P r hr) (h := ?_)
 refine R.move (h := ?_)
 refine R.extract (h := ?_)
 refine R.extract (h := ?_)
 refine R.assign (h := ?_)
 refine R.assign (h := ?_)
 refine .n0 ?_
 refine .seq ?_
 refine .region rfl ?_
 refine R.move (h := ?_)
 refine R.assign (h := ?_)
 refine .n0 ?_
 exact LGo.ret (ret_T Tryz.results38 hA hmd)

end Go.Proofs.YtcobkjognpjikaaGreatDoor
