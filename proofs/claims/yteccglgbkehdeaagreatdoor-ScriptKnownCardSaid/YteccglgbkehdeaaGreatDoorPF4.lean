/- Texts of this claim, merged (RQ to DR); no condition. -/
import Derived.Test.YteccglgbkehdeaaGreatDoorPF3
import Derived.Test.YteccglgbkehdeaaGreatDoorRows
import Derived.Test.YteccglgbkehdeaaGreatDoorTie
import Derived.LaidMore
import Derived.Lay
import Derived.MakeChecks
import Derived.Lib.LaidTab
import Derived.OpenShut
import Derived.ChangeArms
import Derived.ProofKit
set_option linter.unusedSimpArgs false
set_option linter.unusedVariables false
namespace Go.Proofs.YteccglgbkehdeaaGreatDoor
/-- a request -/
structure Rq where
  kind : Int
  id : Int
  owner : Int
  to : Int
  ses : List UInt8
  tic : List UInt8
  seat : Int
  sec : Int
  n : Int
  gate : Int
instance : Inhabited Rq := ⟨⟨0, 0, 0, 0, [], [], 0, 0, 0, 0⟩⟩
def Rq.c (r : Rq) : List SV := [.val (.int .i64 r.kind), .val (.int .u64 r.id), .val (.int .u32 r.owner), .val (.int .u32 r.to), .val (.string ⟨r.ses.toArray⟩), .val (.string ⟨r.tic.toArray⟩), .val (.int .i64 r.seat), .val (.int .i64 r.sec), .val (.int .i64 r.n), .val (.int .i64 r.gate)]
def R64 (t : Int) : Prop := -9223372036854775808 ≤ t ∧ t ≤ 9223372036854775807
structure RqOk (r : Rq) : Prop where
  kind : R64 r.kind
  id : 0 ≤ r.id ∧ r.id < 18446744073709551616
  owner : 0 ≤ r.owner ∧ r.owner < 4294967296
  to : 0 ≤ r.to ∧ r.to < 4294967296
  ses : r.ses.length ≤ maxLen
  tic : r.tic.length ≤ maxLen
  seat : R64 r.seat
  sec : R64 r.sec
  n : R64 r.n
  gate : R64 r.gate
theorem tabM : (2, maskTab.map (Value.int .u16)) ∈ tabs := by simp [tabs]
def maskOf (k : Int) : Int := if k < 0 ∨ 14 ≤ k then 0 else maskTab.getD k.toNat 0
theorem maskOf_lt (k : Int) : 0 ≤ maskOf k ∧ maskOf k < 65536 := by
  unfold maskOf
  split
  · omega
  · have : ∀ n, 0 ≤ maskTab.getD n 0 ∧ maskTab.getD n 0 < 65536 := fun n => by
      by_cases h : n < 14
      · have key : ∀ m : Fin 14, 0 ≤ maskTab.getD m.1 0 ∧ maskTab.getD m.1 0 < 65536 := by decide
        exact key ⟨n, h⟩
      · rw [List.getD_eq_getElem?_getD, List.getElem?_eq_none (by simp [maskTab]; omega)]; simp
    exact this _
/-- a number as0 one of 64 bits -/
def uw (n : Int) : Int := n % 18446744073709551616
theorem uw_wrap (n : Int) : IntKind.u64.wrap n = uw n := IntKind.wrap_u64 n
theorem uw_lt (n : Int) : 0 ≤ uw n ∧ uw n < 18446744073709551616 := by unfold uw; omega
def ruleQ (t : Int) : Rule := if t = 1 then ⟨t, 1, 1, 9223372036854775807, true⟩ else if t = 2 then ⟨t, 1, 0, 4294967295, true⟩ else if t = 8 then ⟨t, 1, 0, 4294967295, true⟩ else if t = 3 then ⟨t, 2, 44, 44, true⟩ else if t = 4 then ⟨t, 2, 56, 56, true⟩ else ⟨t, 1, 0, 2147483647, true⟩
theorem and1_u16 (a : Int) (h0 : 0 ≤ a) (h1 : a < 65536) : IntKind.u16.wrap ((BitVec.ofInt IntKind.u16.bits a &&& BitVec.ofInt IntKind.u16.bits 1).toNat) = a % 2 := by
  obtain ⟨n, rfl⟩ : ∃ n : Nat, a = n := ⟨a.toNat, by omega⟩
  have e1 : (BitVec.ofInt 16 (n : Int) &&& 1#16).toNat = n % 2 := by
    rw [BitVec.ofInt_natCast, BitVec.toNat_and]
    simp only [BitVec.toNat_ofNat, Nat.reducePow, Nat.reduceMod, Nat.and_one_is_mod]
    omega
  show IntKind.u16.wrap ((BitVec.ofInt 16 (n : Int) &&& BitVec.ofInt 16 1).toNat) = _
  rw [show BitVec.ofInt 16 1 = 1#16 from rfl, e1, IntKind.wrap_u16]
  omega
def bitQ (m : Int) (k : Nat) : Int := m / 2 ^ k % 2
theorem shr_u16 (m : Int) (k : Nat) (h : k ≤ 16) : m / 2 ^ (min (Int.toNat (k : Int)) IntKind.u16.bits) = m / 2 ^ k := by
  rw [Int.toNat_natCast, show IntKind.u16.bits = 16 from rfl, Nat.min_eq_left h]
theorem div_lt (m : Int) (k : Nat) (h0 : 0 ≤ m) (h1 : m < 65536) : 0 ≤ m / 2 ^ k ∧ m / 2 ^ k < 65536 := by
  have hp : (0 : Int) < 2 ^ k := Int.pow_pos (by omega)
  refine ⟨Int.ediv_nonneg h0 (Int.le_of_lt hp), ?_⟩
  exact Int.lt_of_le_of_lt (Int.ediv_le_self _ h0) h1
theorem mask_P (k : Int) : PC Tryz.prog 200 [.i k] (.v (.int .u16 (maskOf k))) := by
 refine ⟨LC.of_go Tryz.func200 (c := _) rfl (by kernel_rfl) (by rw [Tryz.ntmps200]; simp) rfl rfl (by simp [LO.lt, LV.lts, LV.lt, lts_sv]) (by simp) ?_⟩
 intro B hA hmd
 refine .seq ?_
 refine .region rfl ?_
 refine R.assign (h := ?_)
 refine .n0 ?_
 refine .seq ?_
 refine .seq ?_
 refine .region rfl ?_
 refine R.move (h := ?_)
 refine R.bin (run_lss _ _ _ _ _ _) (h := ?_)
 refine R.move (h := ?_)
 refine R.move (h := ?_)
 refine R.bin (run_geq _ _ _ _ _ _) (h := ?_)
 refine R.or (h := ?_)
 refine .n0 ?_
 refine LGo.ifb (ht := fun hc => ?_) (hf := fun hc => ?_)
 ·
  have h : k < 0 ∨ 14 ≤ k := by simpa using hc
  rw [show maskOf k = 0 from if_pos h]
  refine .seq ?_
  refine .region rfl ?_
  refine R.assign (h := ?_)
  refine .n0 ?_
  exact LGo.ret (ret_T Tryz.results200 hA hmd)
 ·
  have h : ¬ (k < 0 ∨ 14 ≤ k) := by simpa using hc
  rw [show maskOf k = maskTab.getD k.toNat 0 from if_neg h]
  have h1 : 0 ≤ k ∧ k < 14 := by omega
  refine .skip ?_
  refine .seq ?_
  refine .region rfl ?_
  refine R.move (h := ?_)
  refine R.gIndex I303 (hj := fun _ => by omega) (h := ?_)
  refine R.gLoad1 O75 (hm := tabM) (v := .int .u16 (maskTab.getD k.toNat 0)) (hc := fun _ => by rw [Nat.zero_add, Nat.mul_one, List.getElem?_map, List.getD_eq_getElem?_getD, List.getElem?_eq_getElem (show k.toNat < maskTab.length from by simp [maskTab]; omega)]; rfl) (h := ?_)
  refine R.assign (h := ?_)
  refine .n0 ?_
  exact LGo.ret (ret_T Tryz.results200 hA hmd)
theorem ruleQ_P (t : Int) : PC Tryz.prog 202 [.i t] (.agg ((ruleQ t).c.map LV.sv)) := by
 refine ⟨LC.of_go Tryz.func202 (c := _) rfl (by kernel_rfl) (by rw [Tryz.ntmps202]; simp) rfl rfl (by simp [LO.lt, LV.lts, LV.lt, lts_sv]) (by simp) ?_⟩
 intro B hA hmd
 obtain ⟨g, e0⟩ : ∃ g, ruleQ t = g := ⟨_, rfl⟩
 have e1 := e0
 unfold ruleQ at e1
 rw [e0]
 refine .seq ?_
 refine .region rfl ?_
 refine R.alloc Z215 (h := ?_)
 refine .n0 ?_
 refine .seq ?_
 refine .region rfl ?_
 refine R.move (h := ?_)
 refine R.build BF215 (is := [0, 1, 3, 4]) (xs := [_, _, _, _]) (es := [_, _, _, _]) (h := ?_)
 refine R.alloc Z215 (h := ?_)
 refine R.storeA A215 (h := ?_)
 refine .n0 ?_
 refine .seq ?_
 refine .seq ?_
 refine .region rfl ?_
 refine R.move (h := ?_)
 refine .n0 ?_
 refine .block ?_
 refine .seq ?_
 refine .region rfl ?_
 refine R.bin (run_eql _ _ _ _ _ _) (h := ?_)
 refine R.assign (h := ?_)
 refine .n0 ?_
 first | refine LGo.ifd (ht := fun hc => ?_) (hf := fun hc => ?_) | refine LGo.ifb (ht := fun hc => ?_) (hf := fun hc => ?_)
 ·
  rw [if_pos hc] at e1
  refine .region rfl ?_
  first | refine R.field F215_2 (h := ?_) | refine R.fieldAt F215_2 (h := ?_)
  refine R.storeB O41 (h := ?_)
  first | refine R.field F215_3 (h := ?_) | refine R.fieldAt F215_3 (h := ?_)
  refine R.storeB O41 (h := ?_)
  refine .n0 ?_
  refine .inBlock ?_
  refine .seq ?_
  refine .region rfl ?_
  first | refine R.loadA A215 (h := ?_) | refine R.loadN A215 (h := ?_) | refine R.loadP A215 (h := ?_)
  refine R.storeA A215 (h := ?_)
  refine .n0 ?_
  rw [← e1]
  exact LGo.ret (ret_A Tryz.results202 A215 hA hmd)
 ·
  rw [if_neg hc] at e1
  refine .seq ?_
  refine .seq ?_
  refine .region rfl ?_
  refine R.bin (run_eql _ _ _ _ _ _) (h := ?_)
  refine R.assign (h := ?_)
  refine .n0 ?_
  first | refine LGo.ifd (ht := fun hc2 => ?_) (hf := fun hc2 => ?_) | refine LGo.ifb (ht := fun hc2 => ?_) (hf := fun hc2 => ?_)
  ·
   rw [if_pos hc2] at e1
   refine .skip ?_
   refine LGo.ifb (ht := fun hc3 => ?_) (hf := fun hc3 => by exact absurd hc2 (by simpa using hc3))
   refine .region rfl ?_
   first | refine R.field F215_3 (h := ?_) | refine R.fieldAt F215_3 (h := ?_)
   refine R.storeB O41 (h := ?_)
   refine .n0 ?_
   refine .inBlock ?_
   refine .seq ?_
   refine .region rfl ?_
   first | refine R.loadA A215 (h := ?_) | refine R.loadN A215 (h := ?_) | refine R.loadP A215 (h := ?_)
   refine R.storeA A215 (h := ?_)
   refine .n0 ?_
   rw [← e1]
   exact LGo.ret (ret_A Tryz.results202 A215 hA hmd)
  ·
   rw [if_neg hc2] at e1
   refine .region rfl ?_
   refine R.bin (run_eql _ _ _ _ _ _) (h := ?_)
   refine R.assign (h := ?_)
   refine .n0 ?_
   first | refine LGo.ifd (ht := fun hc4 => ?_) (hf := fun hc4 => ?_) | refine LGo.ifb (ht := fun hc4 => ?_) (hf := fun hc4 => ?_)
   ·
    rw [if_pos hc4] at e1
    refine .region rfl ?_
    first | refine R.field F215_3 (h := ?_) | refine R.fieldAt F215_3 (h := ?_)
    refine R.storeB O41 (h := ?_)
    refine .n0 ?_
    refine .inBlock ?_
    refine .seq ?_
    refine .region rfl ?_
    first | refine R.loadA A215 (h := ?_) | refine R.loadN A215 (h := ?_) | refine R.loadP A215 (h := ?_)
    refine R.storeA A215 (h := ?_)
    refine .n0 ?_
    rw [← e1]
    exact LGo.ret (ret_A Tryz.results202 A215 hA hmd)
   ·
    rw [if_neg hc4] at e1
    refine .seq ?_
    refine .region rfl ?_
    refine R.bin (run_eql _ _ _ _ _ _) (h := ?_)
    refine R.assign (h := ?_)
    refine .n0 ?_
    first | refine LGo.ifd (ht := fun hc5 => ?_) (hf := fun hc5 => ?_) | refine LGo.ifb (ht := fun hc5 => ?_) (hf := fun hc5 => ?_)
    ·
     rw [if_pos hc5] at e1
     refine .region rfl ?_
     first | refine R.field F215_1 (h := ?_) | refine R.fieldAt F215_1 (h := ?_)
     refine R.storeB O3 (h := ?_)
     first | refine R.field F215_2 (h := ?_) | refine R.fieldAt F215_2 (h := ?_)
     refine R.storeB O41 (h := ?_)
     first | refine R.field F215_3 (h := ?_) | refine R.fieldAt F215_3 (h := ?_)
     refine R.storeB O41 (h := ?_)
     refine .n0 ?_
     refine .inBlock ?_
     refine .seq ?_
     refine .region rfl ?_
     first | refine R.loadA A215 (h := ?_) | refine R.loadN A215 (h := ?_) | refine R.loadP A215 (h := ?_)
     refine R.storeA A215 (h := ?_)
     refine .n0 ?_
     rw [← e1]
     exact LGo.ret (ret_A Tryz.results202 A215 hA hmd)
    ·
     rw [if_neg hc5] at e1
     refine .seq ?_
     refine .region rfl ?_
     refine R.bin (run_eql _ _ _ _ _ _) (h := ?_)
     refine R.assign (h := ?_)
     refine .n0 ?_
     first | refine LGo.ifd (ht := fun hc6 => ?_) (hf := fun hc6 => ?_) | refine LGo.ifb (ht := fun hc6 => ?_) (hf := fun hc6 => ?_)
     ·
      rw [if_pos hc6] at e1
      refine .region rfl ?_
      first | refine R.field F215_1 (h := ?_) | refine R.fieldAt F215_1 (h := ?_)
      refine R.storeB O3 (h := ?_)
      first | refine R.field F215_2 (h := ?_) | refine R.fieldAt F215_2 (h := ?_)
      refine R.storeB O41 (h := ?_)
      first | refine R.field F215_3 (h := ?_) | refine R.fieldAt F215_3 (h := ?_)
      refine R.storeB O41 (h := ?_)
      refine .n0 ?_
      refine .inBlock ?_
      refine .seq ?_
      refine .region rfl ?_
      first | refine R.loadA A215 (h := ?_) | refine R.loadN A215 (h := ?_) | refine R.loadP A215 (h := ?_)
      refine R.storeA A215 (h := ?_)
      refine .n0 ?_
      rw [← e1]
      exact LGo.ret (ret_A Tryz.results202 A215 hA hmd)
     ·
      rw [if_neg hc6] at e1
      refine .skip ?_
      refine .inBlock ?_
      refine .seq ?_
      refine .region rfl ?_
      first | refine R.loadA A215 (h := ?_) | refine R.loadN A215 (h := ?_) | refine R.loadP A215 (h := ?_)
      refine R.storeA A215 (h := ?_)
      refine .n0 ?_
      rw [← e1]
      exact LGo.ret (ret_A Tryz.results202 A215 hA hmd)
theorem widenI_P (n : Int) (hn : R64 n) : PC Tryz.prog 244 [.i n] (.tup [.u (uw n), .b (decide (n ≥ 0))]) := by
 refine ⟨LC.of_go Tryz.func244 (c := _) rfl (by kernel_rfl) (by rw [Tryz.ntmps244]; simp) rfl rfl (by simp [LO.lt, LV.lts, LV.lt, lts_sv]) (by simp) ?_⟩
 intro B hA hmd
 rw [← uw_wrap]
 refine .seq ?_
 refine .region rfl ?_
 refine R.assign (h := ?_)
 refine R.assign (h := ?_)
 refine .n0 ?_
 refine .seq ?_
 refine .region rfl ?_
 refine R.move (h := ?_)
 refine R.convW Tryz.runUnderlying3 Tryz.runUnderlying41 (h := ?_)
 refine R.move (h := ?_)
 refine R.bin (run_geq _ _ _ _ _ _) (h := ?_)
 refine R.assign (h := ?_)
 refine R.assign (h := ?_)
 refine .n0 ?_
 exact LGo.ret (ret_TT Tryz.results244 hA hmd)
theorem widenU_P (n : Int) (h0 : 0 ≤ n) (h1 : n < 18446744073709551616) : PC Tryz.prog 242 [.u n] (.tup [.u n, .b true]) := by
 refine ⟨LC.of_go Tryz.func242 (c := _) rfl (by kernel_rfl) (by rw [Tryz.ntmps242]; simp) rfl rfl (by simp [LO.lt, LV.lts, LV.lt, lts_sv]) (by simp) ?_⟩
 intro B hA hmd
 refine .seq ?_
 refine .region rfl ?_
 refine R.assign (h := ?_)
 refine R.assign (h := ?_)
 refine .n0 ?_
 refine .seq ?_
 refine .region rfl ?_
 refine R.move (h := ?_)
 refine R.move (h := ?_)
 refine R.bin (run_geq _ _ _ _ _ _) (h := ?_)
 rw [show decide (0 ≤ n) = true from decide_eq_true h0]
 refine R.assign (h := ?_)
 refine R.assign (h := ?_)
 refine .n0 ?_
 exact LGo.ret (ret_TT Tryz.results242 hA hmd)
theorem widenV_P (n : Int) (h0 : 0 ≤ n) (h1 : n < 4294967296) : PC Tryz.prog 243 [.v (.int .u32 n)] (.tup [.u n, .b true]) := by
 refine ⟨LC.of_go Tryz.func243 (c := _) rfl (by kernel_rfl) (by rw [Tryz.ntmps243]; simp) rfl rfl (by simp [LO.lt, LV.lts, LV.lt, lts_sv]) (by simp) ?_⟩
 intro B hA hmd
 refine .seq ?_
 refine .region rfl ?_
 refine R.assign (h := ?_)
 refine R.assign (h := ?_)
 refine .n0 ?_
 refine .seq ?_
 refine .region rfl ?_
 refine R.move (h := ?_)
 first | refine R.convI Tryz.runUnderlying38 Tryz.runUnderlying41 (h := ?_) | refine R.convW Tryz.runUnderlying38 Tryz.runUnderlying41 (h := ?_)
 refine R.move (h := ?_)
 refine R.bin (run_geq _ _ _ _ _ _) (h := ?_)
 rw [show decide (0 ≤ n) = true from decide_eq_true h0]
 refine R.assign (h := ?_)
 refine R.assign (h := ?_)
 refine .n0 ?_
 exact LGo.ret (ret_TT Tryz.results243 hA hmd)
/-- the field with a tag; false: its number is below 0 -/
def fieldQ (r : Rq) (t : Int) : Fld × Bool := if t = 1 then (⟨t, r.id, []⟩, true) else if t = 2 then (⟨t, r.owner, []⟩, true) else if t = 3 then (⟨t, 0, r.ses⟩, true) else if t = 4 then (⟨t, 0, r.tic⟩, true)
  else if t = 5 then (⟨t, uw r.seat, []⟩, decide (r.seat ≥ 0)) else if t = 6 then (⟨t, uw r.sec, []⟩, decide (r.sec ≥ 0)) else if t = 7 then (⟨t, uw r.n, []⟩, decide (r.n ≥ 0)) else if t = 8 then (⟨t, r.to, []⟩, true) else if t = 9 then (⟨t, uw r.gate, []⟩, decide (r.gate ≥ 0)) else (⟨t, 0, []⟩, true)
theorem fieldQ_P (r : Rq) (hr : RqOk r) (t : Int) : PC Tryz.prog 201 [.agg (r.c.map LV.sv), .i t] (.tup [.agg ((fieldQ r t).1.c.map LV.sv), .b (fieldQ r t).2]) := by
 refine ⟨LC.of_go Tryz.func201 (c := _) rfl (by kernel_rfl) (by rw [Tryz.ntmps201]; simp) rfl rfl (by simp [LO.lt, LV.lts, LV.lt, lts_sv]) (by simp) ?_⟩
 intro B hA hmd
 obtain ⟨g, e0⟩ : ∃ g, fieldQ r t = g := ⟨_, rfl⟩
 have e1 := e0
 unfold fieldQ at e1
 rw [e0]
 refine .seq ?_
 refine .region rfl ?_
 refine R.box (h := ?_)
 refine R.alloc Z149 (h := ?_)
 refine R.assign (h := ?_)
 refine .n0 ?_
 refine .seq ?_
 refine .region rfl ?_
 refine R.move (h := ?_)
 refine R.build BF149 (is := [0]) (xs := [_]) (es := [_]) (h := ?_)
 refine R.alloc Z149 (h := ?_)
 refine R.storeA A149 (h := ?_)
 refine .n0 ?_
 refine .seq ?_
 refine .region rfl ?_
 refine R.assign (h := ?_)
 refine .n0 ?_
 refine .seq ?_
 refine .seq ?_
 refine .region rfl ?_
 refine R.move (h := ?_)
 refine .n0 ?_
 refine .block ?_
 refine .seq ?_
 refine .region rfl ?_
 refine R.bin (run_eql _ _ _ _ _ _) (h := ?_)
 refine R.assign (h := ?_)
 refine .n0 ?_
 first | refine LGo.ifd (ht := fun hc => ?_) (hf := fun hc => ?_) | refine LGo.ifb (ht := fun hc => ?_) (hf := fun hc => ?_)
 ·
  rw [if_pos hc] at e1
  refine .region rfl ?_
  first | refine R.field F48_1 (h := ?_) | refine R.fieldAt F48_1 (h := ?_)
  first | refine R.loadB O41 (h := ?_) | refine R.load1 O41 (h := ?_)
  refine R.callP (es := [_]) (fun _ => widenU_P r.id hr.id.1 hr.id.2) (h := ?_)
  refine R.move (h := ?_)
  refine R.extract (h := ?_)
  refine R.extract (h := ?_)
  first | refine R.field F149_1 (h := ?_) | refine R.fieldAt F149_1 (h := ?_)
  refine R.storeB O41 (h := ?_)
  refine R.assign (h := ?_)
  refine .n0 ?_
  refine .inBlock ?_
  refine .seq ?_
  refine .region rfl ?_
  first | refine R.loadA A149 (h := ?_) | refine R.loadN A149 (h := ?_) | refine R.loadP A149 (h := ?_)
  refine R.move (h := ?_)
  refine R.storeA A149 (h := ?_)
  refine R.assign (h := ?_)
  refine .n0 ?_
  rw [← e1]
  exact LGo.ret (ret_AT Tryz.results201 A149 hA hmd)
 ·
  rw [if_neg hc] at e1
  refine .seq ?_
  refine .region rfl ?_
  refine R.bin (run_eql _ _ _ _ _ _) (h := ?_)
  refine R.assign (h := ?_)
  refine .n0 ?_
  first | refine LGo.ifd (ht := fun hc2 => ?_) (hf := fun hc2 => ?_) | refine LGo.ifb (ht := fun hc2 => ?_) (hf := fun hc2 => ?_)
  ·
   rw [if_pos hc2] at e1
   refine .region rfl ?_
   first | refine R.field F48_2 (h := ?_) | refine R.fieldAt F48_2 (h := ?_)
   first | refine R.loadB O38 (h := ?_) | refine R.load1 O38 (h := ?_)
   refine R.callP (es := [_]) (fun _ => widenV_P r.owner hr.owner.1 hr.owner.2) (h := ?_)
   refine R.move (h := ?_)
   refine R.extract (h := ?_)
   refine R.extract (h := ?_)
   first | refine R.field F149_1 (h := ?_) | refine R.fieldAt F149_1 (h := ?_)
   refine R.storeB O41 (h := ?_)
   refine R.assign (h := ?_)
   refine .n0 ?_
   refine .inBlock ?_
   refine .seq ?_
   refine .region rfl ?_
   first | refine R.loadA A149 (h := ?_) | refine R.loadN A149 (h := ?_) | refine R.loadP A149 (h := ?_)
   refine R.move (h := ?_)
   refine R.storeA A149 (h := ?_)
   refine R.assign (h := ?_)
   refine .n0 ?_
   rw [← e1]
   exact LGo.ret (ret_AT Tryz.results201 A149 hA hmd)
  ·
   rw [if_neg hc2] at e1
   refine .seq ?_
   refine .region rfl ?_
   refine R.bin (run_eql _ _ _ _ _ _) (h := ?_)
   refine R.assign (h := ?_)
   refine .n0 ?_
   first | refine LGo.ifd (ht := fun hc3 => ?_) (hf := fun hc3 => ?_) | refine LGo.ifb (ht := fun hc3 => ?_) (hf := fun hc3 => ?_)
   ·
    rw [if_pos hc3] at e1
    refine .region rfl ?_
    first | refine R.field F48_4 (h := ?_) | refine R.fieldAt F48_4 (h := ?_)
    first | refine R.loadB O9 (h := ?_) | refine R.load1 O9 (h := ?_)
    first | refine R.field F149_2 (h := ?_) | refine R.fieldAt F149_2 (h := ?_)
    refine R.storeB O9 (h := ?_)
    refine .n0 ?_
    refine .inBlock ?_
    refine .seq ?_
    refine .region rfl ?_
    first | refine R.loadA A149 (h := ?_) | refine R.loadN A149 (h := ?_) | refine R.loadP A149 (h := ?_)
    refine R.move (h := ?_)
    refine R.storeA A149 (h := ?_)
    refine R.assign (h := ?_)
    refine .n0 ?_
    rw [← e1]
    exact LGo.ret (ret_AT Tryz.results201 A149 hA hmd)
   ·
    rw [if_neg hc3] at e1
    refine .seq ?_
    refine .region rfl ?_
    refine R.bin (run_eql _ _ _ _ _ _) (h := ?_)
    refine R.assign (h := ?_)
    refine .n0 ?_
    first | refine LGo.ifd (ht := fun hc4 => ?_) (hf := fun hc4 => ?_) | refine LGo.ifb (ht := fun hc4 => ?_) (hf := fun hc4 => ?_)
    ·
     rw [if_pos hc4] at e1
     refine .region rfl ?_
     first | refine R.field F48_5 (h := ?_) | refine R.fieldAt F48_5 (h := ?_)
     first | refine R.loadB O9 (h := ?_) | refine R.load1 O9 (h := ?_)
     first | refine R.field F149_2 (h := ?_) | refine R.fieldAt F149_2 (h := ?_)
     refine R.storeB O9 (h := ?_)
     refine .n0 ?_
     refine .inBlock ?_
     refine .seq ?_
     refine .region rfl ?_
     first | refine R.loadA A149 (h := ?_) | refine R.loadN A149 (h := ?_) | refine R.loadP A149 (h := ?_)
     refine R.move (h := ?_)
     refine R.storeA A149 (h := ?_)
     refine R.assign (h := ?_)
     refine .n0 ?_
     rw [← e1]
     exact LGo.ret (ret_AT Tryz.results201 A149 hA hmd)
    ·
     rw [if_neg hc4] at e1
     refine .seq ?_
     refine .region rfl ?_
     refine R.bin (run_eql _ _ _ _ _ _) (h := ?_)
     refine R.assign (h := ?_)
     refine .n0 ?_
     first | refine LGo.ifd (ht := fun hc5 => ?_) (hf := fun hc5 => ?_) | refine LGo.ifb (ht := fun hc5 => ?_) (hf := fun hc5 => ?_)
     ·
      rw [if_pos hc5] at e1
      refine .region rfl ?_
      first | refine R.field F48_6 (h := ?_) | refine R.fieldAt F48_6 (h := ?_)
      first | refine R.loadB O3 (h := ?_) | refine R.load1 O3 (h := ?_)
      refine R.callP (es := [_]) (fun _ => widenI_P r.seat hr.seat) (h := ?_)
      refine R.move (h := ?_)
      refine R.extract (h := ?_)
      refine R.extract (h := ?_)
      first | refine R.field F149_1 (h := ?_) | refine R.fieldAt F149_1 (h := ?_)
      refine R.storeB O41 (h := ?_)
      refine R.assign (h := ?_)
      refine .n0 ?_
      refine .inBlock ?_
      refine .seq ?_
      refine .region rfl ?_
      first | refine R.loadA A149 (h := ?_) | refine R.loadN A149 (h := ?_) | refine R.loadP A149 (h := ?_)
      refine R.move (h := ?_)
      refine R.storeA A149 (h := ?_)
      refine R.assign (h := ?_)
      refine .n0 ?_
      rw [← e1]
      exact LGo.ret (ret_AT Tryz.results201 A149 hA hmd)
     ·
      rw [if_neg hc5] at e1
      refine .seq ?_
      refine .region rfl ?_
      refine R.bin (run_eql _ _ _ _ _ _) (h := ?_)
      refine R.assign (h := ?_)
      refine .n0 ?_
      first | refine LGo.ifd (ht := fun hc6 => ?_) (hf := fun hc6 => ?_) | refine LGo.ifb (ht := fun hc6 => ?_) (hf := fun hc6 => ?_)
      ·
       rw [if_pos hc6] at e1
       refine .region rfl ?_
       first | refine R.field F48_7 (h := ?_) | refine R.fieldAt F48_7 (h := ?_)
       first | refine R.loadB O3 (h := ?_) | refine R.load1 O3 (h := ?_)
       refine R.callP (es := [_]) (fun _ => widenI_P r.sec hr.sec) (h := ?_)
       refine R.move (h := ?_)
       refine R.extract (h := ?_)
       refine R.extract (h := ?_)
       first | refine R.field F149_1 (h := ?_) | refine R.fieldAt F149_1 (h := ?_)
       refine R.storeB O41 (h := ?_)
       refine R.assign (h := ?_)
       refine .n0 ?_
       refine .inBlock ?_
       refine .seq ?_
       refine .region rfl ?_
       first | refine R.loadA A149 (h := ?_) | refine R.loadN A149 (h := ?_) | refine R.loadP A149 (h := ?_)
       refine R.move (h := ?_)
       refine R.storeA A149 (h := ?_)
       refine R.assign (h := ?_)
       refine .n0 ?_
       rw [← e1]
       exact LGo.ret (ret_AT Tryz.results201 A149 hA hmd)
      ·
       rw [if_neg hc6] at e1
       refine .seq ?_
       refine .region rfl ?_
       refine R.bin (run_eql _ _ _ _ _ _) (h := ?_)
       refine R.assign (h := ?_)
       refine .n0 ?_
       first | refine LGo.ifd (ht := fun hc7 => ?_) (hf := fun hc7 => ?_) | refine LGo.ifb (ht := fun hc7 => ?_) (hf := fun hc7 => ?_)
       ·
        rw [if_pos hc7] at e1
        refine .region rfl ?_
        first | refine R.field F48_8 (h := ?_) | refine R.fieldAt F48_8 (h := ?_)
        first | refine R.loadB O3 (h := ?_) | refine R.load1 O3 (h := ?_)
        refine R.callP (es := [_]) (fun _ => widenI_P r.n hr.n) (h := ?_)
        refine R.move (h := ?_)
        refine R.extract (h := ?_)
        refine R.extract (h := ?_)
        first | refine R.field F149_1 (h := ?_) | refine R.fieldAt F149_1 (h := ?_)
        refine R.storeB O41 (h := ?_)
        refine R.assign (h := ?_)
        refine .n0 ?_
        refine .inBlock ?_
        refine .seq ?_
        refine .region rfl ?_
        first | refine R.loadA A149 (h := ?_) | refine R.loadN A149 (h := ?_) | refine R.loadP A149 (h := ?_)
        refine R.move (h := ?_)
        refine R.storeA A149 (h := ?_)
        refine R.assign (h := ?_)
        refine .n0 ?_
        rw [← e1]
        exact LGo.ret (ret_AT Tryz.results201 A149 hA hmd)
       ·
        rw [if_neg hc7] at e1
        refine .seq ?_
        refine .region rfl ?_
        refine R.bin (run_eql _ _ _ _ _ _) (h := ?_)
        refine R.assign (h := ?_)
        refine .n0 ?_
        first | refine LGo.ifd (ht := fun hc8 => ?_) (hf := fun hc8 => ?_) | refine LGo.ifb (ht := fun hc8 => ?_) (hf := fun hc8 => ?_)
        ·
         rw [if_pos hc8] at e1
         refine .region rfl ?_
         first | refine R.field F48_3 (h := ?_) | refine R.fieldAt F48_3 (h := ?_)
         first | refine R.loadB O38 (h := ?_) | refine R.load1 O38 (h := ?_)
         refine R.callP (es := [_]) (fun _ => widenV_P r.to hr.to.1 hr.to.2) (h := ?_)
         refine R.move (h := ?_)
         refine R.extract (h := ?_)
         refine R.extract (h := ?_)
         first | refine R.field F149_1 (h := ?_) | refine R.fieldAt F149_1 (h := ?_)
         refine R.storeB O41 (h := ?_)
         refine R.assign (h := ?_)
         refine .n0 ?_
         refine .inBlock ?_
         refine .seq ?_
         refine .region rfl ?_
         first | refine R.loadA A149 (h := ?_) | refine R.loadN A149 (h := ?_) | refine R.loadP A149 (h := ?_)
         refine R.move (h := ?_)
         refine R.storeA A149 (h := ?_)
         refine R.assign (h := ?_)
         refine .n0 ?_
         rw [← e1]
         exact LGo.ret (ret_AT Tryz.results201 A149 hA hmd)
        ·
         rw [if_neg hc8] at e1
         refine .seq ?_
         refine .region rfl ?_
         refine R.bin (run_eql _ _ _ _ _ _) (h := ?_)
         refine R.assign (h := ?_)
         refine .n0 ?_
         first | refine LGo.ifd (ht := fun hc9 => ?_) (hf := fun hc9 => ?_) | refine LGo.ifb (ht := fun hc9 => ?_) (hf := fun hc9 => ?_)
         ·
          rw [if_pos hc9] at e1
          refine .region rfl ?_
          first | refine R.field F48_9 (h := ?_) | refine R.fieldAt F48_9 (h := ?_)
          first | refine R.loadB O3 (h := ?_) | refine R.load1 O3 (h := ?_)
          refine R.callP (es := [_]) (fun _ => widenI_P r.gate hr.gate) (h := ?_)
          refine R.move (h := ?_)
          refine R.extract (h := ?_)
          refine R.extract (h := ?_)
          first | refine R.field F149_1 (h := ?_) | refine R.fieldAt F149_1 (h := ?_)
          refine R.storeB O41 (h := ?_)
          refine R.assign (h := ?_)
          refine .n0 ?_
          refine .inBlock ?_
          refine .seq ?_
          refine .region rfl ?_
          first | refine R.loadA A149 (h := ?_) | refine R.loadN A149 (h := ?_) | refine R.loadP A149 (h := ?_)
          refine R.move (h := ?_)
          refine R.storeA A149 (h := ?_)
          refine R.assign (h := ?_)
          refine .n0 ?_
          rw [← e1]
          exact LGo.ret (ret_AT Tryz.results201 A149 hA hmd)
         ·
          rw [if_neg hc9] at e1
          refine .skip ?_
          refine .inBlock ?_
          refine .seq ?_
          refine .region rfl ?_
          first | refine R.loadA A149 (h := ?_) | refine R.loadN A149 (h := ?_) | refine R.loadP A149 (h := ?_)
          refine R.move (h := ?_)
          refine R.storeA A149 (h := ?_)
          refine R.assign (h := ?_)
          refine .n0 ?_
          rw [← e1]
          exact LGo.ret (ret_AT Tryz.results201 A149 hA hmd)
/-- the error of a field with a rule, behind those before it -/
def errQ (x : Rule) (f : Fld) (is : Bool) (e : Int) : Int := if (decide (x.kind = 1) && (((!is) || decide (f.num < x.low)) || decide (x.high < f.num))) = true then 7 else if ((decide (x.kind = 2) && !decide ((f.txt.length : Int) = x.low)) && decide (e = 0)) = true then 3 else e
def foGo (m : Int) (r : Rq) : Nat → Nat → List Fld → Int → List Fld × Int
  | 0, _, l, e => if (!decide (e = 0)) = true then ([], e) else (l, 0)
  | n + 1, k, l, e => if bitQ m k = 0 then (if ((!decide ((fieldQ r k).1.num = 0)) || !decide ((fieldQ r k).1.txt = [])) = true then ([], 2) else foGo m r n (k + 1) l e)
      else foGo m r n (k + 1) (l ++ [(fieldQ r k).1]) (errQ (ruleQ k) (fieldQ r k).1 (fieldQ r k).2 e)
def fieldsOf (r : Rq) : List Fld × Int := if maskOf r.kind = 0 then ([], 2) else foGo (maskOf r.kind) r 9 1 [] 0
def checkQ (r : Rq) : Int := (fieldsOf r).2
theorem fieldQ_len (r : Rq) (hr : RqOk r) (t : Int) : (fieldQ r t).1.txt.length ≤ maxLen := by
  unfold fieldQ
  have h1 := hr.ses
  have h2 := hr.tic
  (repeat' split) <;> simp [*]
theorem fieldsOf_P (r : Rq) (hr : RqOk r) : PC Tryz.prog 146 [.agg (r.c.map LV.sv)] (.tup [.sv (.sl 3 ((fieldsOf r).1.map Fld.c)), .i (fieldsOf r).2]) := by
 refine ⟨LC.of_go Tryz.func146 (c := _) rfl (by kernel_rfl) (by rw [Tryz.ntmps146]; simp) rfl rfl (by simp [LO.lt, LV.lts, LV.lt, lts_sv]) (by simp) ?_⟩
 intro B hA hmd
 obtain ⟨g, e0⟩ : ∃ g, fieldsOf r = g := ⟨_, rfl⟩
 have e1 := e0
 unfold fieldsOf at e1
 rw [e0]
 have hm := maskOf_lt r.kind
 refine .seq ?_
 refine .region rfl ?_
 refine R.box (h := ?_)
 refine R.assign (h := ?_)
 refine R.assign (h := ?_)
 refine .n0 ?_
 refine LGo.scope ?_
 refine .seq ?_
 refine .region rfl ?_
 first | refine R.field F48_0 (h := ?_) | refine R.fieldAt F48_0 (h := ?_)
 first | refine R.loadB O3 (h := ?_) | refine R.load1 O3 (h := ?_)
 refine R.callP (es := [_]) (fun _ => mask_P r.kind) (h := ?_)
 refine R.assign (h := ?_)
 refine .n0 ?_
 refine .seq ?_
 refine .seq ?_
 refine .region rfl ?_
 refine R.move (h := ?_)
 refine R.bin (run_eql _ _ _ _ _ _) (h := ?_)
 refine .n0 ?_
 refine LGo.ifd (ht := fun hc => ?_) (hf := fun hc => ?_)
 ·
  rw [if_pos hc] at e1; rw [← e1]
  refine .seq ?_
  refine .region rfl ?_
  refine R.assign (h := ?_)
  refine R.assign (h := ?_)
  refine .n0 ?_
  first | refine LGo.frzT 2 (h := ?_) | refine LGo.nilSl 2 3 (h := ?_) | skip
  exact LGo.ret (ret_TT Tryz.results146 hA hmd)
 ·
  rw [if_neg hc] at e1
  generalize maskOf r.kind = m at *
  refine .skip ?_
  refine .seq ?_
  refine .region rfl ?_
  refine R.assign (h := ?_)
  refine .n0 ?_
  refine .seq ?_
  refine .region rfl ?_
  refine R.assign (h := ?_)
  refine .n0 ?_
  refine .seq ?_
  refine .seq ?_
  refine .region rfl ?_
  refine R.assign (h := ?_)
  refine .n0 ?_
  refine .block ?_
  refine .loop ?_
  refine LGo.nilRs 5 149 3 (h := ?_)
  refine LGo.loopG (σ := Nat × Nat × List Fld × Int) (fun x => x.1 + x.2.1 = 10 ∧ 1 ≤ x.2.1 ∧ x.2.2.1.length ≤ x.2.1 ∧ foGo m r x.1 x.2.1 x.2.2.1 x.2.2.2 = g) (fun x => [(7, (true, .i (x.2.1 : Nat))), (5, (true, .ref 1)), (6, (true, .i x.2.2.2))]) (fun x => [(0, .box 48 (r.c.map LV.sv)), (1, .rs 149 3 (x.2.2.1.map Fld.c))]) (fun x => x.1) ((9, 1, [], 0)) [(1, _), (4, _)] ⟨rfl, Nat.le_refl _, Nat.zero_le _, e1⟩ (by repeat (first | exact trivial | refine ⟨rfl, ?_⟩)) (by repeat (first | exact trivial | refine ⟨rfl, ?_⟩)) (by repeat (first | exact trivial | refine ⟨rfl, ?_⟩)) ?_
  rintro ⟨fu, k, acc, e⟩ ⟨q1, q2, q3, e1⟩ ih
  dsimp only at * 
  refine .seq ?_
  refine .seq ?_
  refine .region rfl ?_
  refine R.move (h := ?_)
  refine R.bin (run_leq _ _ _ _ _ _) (h := ?_)
  refine .n0 ?_
  refine LGo.ifd (ht := fun hc2 => ?_) (hf := fun hc2 => ?_)
  ·
   obtain ⟨f, rfl⟩ : ∃ f, fu = f + 1 := ⟨fu - 1, by omega⟩
   rw [foGo] at e1
   have hfl := fieldQ_len r hr (k : Int)
   refine .skip ?_
   refine .seq ?_
   refine .block ?_
   refine .seq ?_
   refine .region rfl ?_
   first | refine R.loadA A48 (h := ?_) | refine R.loadN A48 (h := ?_) | refine R.loadP A48 (h := ?_)
   refine R.move (h := ?_)
   refine R.callP (es := [_, _]) (fun _ => fieldQ_P r hr (k : Int)) (h := ?_)
   refine R.move (h := ?_)
   refine R.extract (h := ?_)
   generalize hfx : (fieldQ r (k : Int)).1 = fx at *
   generalize his : (fieldQ r (k : Int)).2 = is at *
   refine R.extract (h := ?_)
   refine R.alloc Z149 (h := ?_)
   refine R.storeA A149 (h := ?_)
   refine R.assign (h := ?_)
   refine .n0 ?_
   refine .seq ?_
   refine .seq ?_
   refine .region rfl ?_
   refine R.move (h := ?_)
   refine R.move (h := ?_)
   refine R.shr (h := ?_)
   rw [shr_u16 m k (by omega)]
   refine R.bin (run_andE _ _ _ .u16 _ 1 (and1_u16 _ (div_lt m k hm.1 hm.2).1 (div_lt m k hm.1 hm.2).2)) (h := ?_)
   refine R.bin (run_eql _ _ _ _ _ _) (h := ?_)
   refine .n0 ?_
   refine LGo.ifd (ht := fun hc3 => ?_) (hf := fun hc3 => ?_)
   ·
    rw [if_pos (show bitQ m k = 0 from hc3)] at e1
    refine .seq ?_
    refine .seq ?_
    refine .region rfl ?_
    first | refine R.field F149_1 (h := ?_) | refine R.fieldAt F149_1 (h := ?_)
    first | refine R.loadB O41 (h := ?_) | refine R.load1 O41 (h := ?_)
    refine R.bin (run_neq _ _ _ _ _ _) (h := ?_)
    refine R.move (h := ?_)
    first | refine R.field F149_2 (h := ?_) | refine R.fieldAt F149_2 (h := ?_)
    first | refine R.loadB O9 (h := ?_) | refine R.load1 O9 (h := ?_)
    refine R.bin (run_neqT _ _ _ _ _) (h := ?_)
    refine R.or (h := ?_)
    refine .n0 ?_
    refine LGo.ifb (ht := fun hc4 => ?_) (hf := fun hc4 => ?_)
    ·
     rw [if_pos hc4] at e1; rw [← e1]
     refine LGo.goto rfl ?_
     refine .seq ?_
     refine .skip ?_
     refine .seq ?_
     refine .region rfl ?_
     refine R.assign (h := ?_)
     refine R.assign (h := ?_)
     refine .n0 ?_
     first | refine LGo.frzT 2 (h := ?_) | refine LGo.nilSl 2 3 (h := ?_) | skip
     exact LGo.ret (ret_TT Tryz.results146 hA hmd)
    ·
     rw [if_neg (by rw [hc4]; simp)] at e1
     refine .skip ?_
     refine .exit rfl ?_
     refine .region rfl ?_
     refine R.move (h := ?_)
     first | refine R.add (h := ?_) | refine R.addW (h := ?_)
     refine R.assign (h := ?_)
     refine .n0 ?_
     refine .inLoop ?_
     exact LGo.next _ (fun o h => by have := (hA o).1 h; omega) (by omega) (ih (f, k + 1, acc, e) ⟨by dsimp only; omega, by dsimp only; omega, by dsimp only; omega, e1⟩ (by dsimp only; omega)) (by repeat (first | exact trivial | refine ⟨rfl, ?_⟩)) (by repeat (first | exact trivial | refine ⟨rfl, ?_⟩))
   ·
    rw [if_neg (show ¬ bitQ m k = 0 from hc3)] at e1
    refine .skip ?_
    refine .seq ?_
    refine .region rfl ?_
    refine R.move (h := ?_)
    first | refine R.loadA A149 (h := ?_) | refine R.loadN A149 (h := ?_) | refine R.loadP A149 (h := ?_)
    refine R.buildSliceG AP144 (xs := [_]) (es := [_]) (hcs := CellsOfs.cons (CellsOf.agg rfl) CellsOfs.nil) (h := ?_)
    refine R.appendS AP144 (hs := SrcOk.sl Tryz.underlying144 (by simp; rfl)) (hlen := by simp; omega) (h := ?_)
    refine R.assign (h := ?_)
    refine .n0 ?_
    refine .seq ?_
    refine .region rfl ?_
    refine R.move (h := ?_)
    refine R.callP (es := [_]) (fun _ => ruleQ_P (k : Int)) (h := ?_)
    refine R.alloc Z215 (h := ?_)
    refine R.storeA A215 (h := ?_)
    refine .n0 ?_
    refine .block ?_
    refine .seq ?_
    refine .region rfl ?_
    first | refine R.field F215_1 (h := ?_) | refine R.fieldAt F215_1 (h := ?_)
    first | refine R.loadB O3 (h := ?_) | refine R.load1 O3 (h := ?_)
    refine R.bin (run_eql _ _ _ _ _ _) (h := ?_)
    refine R.move (h := ?_)
    refine R.move (h := ?_)
    refine R.not (h := ?_)
    refine R.move (h := ?_)
    first | refine R.field F149_1 (h := ?_) | refine R.fieldAt F149_1 (h := ?_)
    first | refine R.loadB O41 (h := ?_) | refine R.load1 O41 (h := ?_)
    first | refine R.field F215_2 (h := ?_) | refine R.fieldAt F215_2 (h := ?_)
    first | refine R.loadB O41 (h := ?_) | refine R.load1 O41 (h := ?_)
    refine R.bin (run_lss _ _ _ _ _ _) (h := ?_)
    refine R.or (h := ?_)
    refine R.move (h := ?_)
    first | refine R.field F149_1 (h := ?_) | refine R.fieldAt F149_1 (h := ?_)
    first | refine R.loadB O41 (h := ?_) | refine R.load1 O41 (h := ?_)
    first | refine R.field F215_3 (h := ?_) | refine R.fieldAt F215_3 (h := ?_)
    first | refine R.loadB O41 (h := ?_) | refine R.load1 O41 (h := ?_)
    refine R.bin (run_gtr _ _ _ _ _ _) (h := ?_)
    refine R.or (h := ?_)
    refine R.and (h := ?_)
    refine R.assign (h := ?_)
    refine .n0 ?_
    refine LGo.ifb (ht := fun hc5 => ?_) (hf := fun hc5 => ?_)
    ·
     have he : errQ (ruleQ (k : Int)) fx is e = 7 := by unfold errQ; rw [if_pos hc5]
     refine .region rfl ?_
     refine R.assign (h := ?_)
     refine .n0 ?_
     refine .inBlock ?_
     refine .inBlock ?_
     refine .region rfl ?_
     refine R.move (h := ?_)
     first | refine R.add (h := ?_) | refine R.addW (h := ?_)
     refine R.assign (h := ?_)
     refine .n0 ?_
     refine .inLoop ?_
     exact LGo.turn [0, 3] (b := 0) (fun o h => by have := (hA o).1 h; omega) (ih (f, k + 1, acc ++ [fx], 7) ⟨by dsimp only; omega, by dsimp only; omega, by simp; omega, by rw [← he]; exact e1⟩ (by dsimp only; omega)) (by repeat (first | exact trivial | refine ⟨rfl, ?_⟩)) ⟨rfl, by rw [List.map_append]; rfl, trivial⟩
    ·
     refine .seq ?_
     refine .region rfl ?_
     first | refine R.field F215_1 (h := ?_) | refine R.fieldAt F215_1 (h := ?_)
     first | refine R.loadB O3 (h := ?_) | refine R.load1 O3 (h := ?_)
     refine R.bin (run_eql _ _ _ _ _ _) (h := ?_)
     refine R.move (h := ?_)
     first | refine R.field F149_2 (h := ?_) | refine R.fieldAt F149_2 (h := ?_)
     first | refine R.loadB O9 (h := ?_) | refine R.load1 O9 (h := ?_)
     refine R.lenT Tryz.runUnderlying9 (h := ?_)
     first | refine R.convI Tryz.runUnderlying3 Tryz.runUnderlying41 (h := ?_) | refine R.convW Tryz.runUnderlying3 Tryz.runUnderlying41 (h := ?_)
     rw [show IntKind.u64.wrap (fx.txt.length : Int) = (fx.txt.length : Int) from by rw [IntKind.wrap_u64]; unfold maxLen at hfl; omega]
     first | refine R.field F215_2 (h := ?_) | refine R.fieldAt F215_2 (h := ?_)
     first | refine R.loadB O41 (h := ?_) | refine R.load1 O41 (h := ?_)
     refine R.bin (run_neq _ _ _ _ _ _) (h := ?_)
     refine R.and (h := ?_)
     refine R.move (h := ?_)
     refine R.move (h := ?_)
     refine R.bin (run_eql _ _ _ _ _ _) (h := ?_)
     refine R.and (h := ?_)
     refine R.assign (h := ?_)
     refine .n0 ?_
     refine LGo.ifb (ht := fun hc6 => ?_) (hf := fun hc6 => ?_)
     ·
      have he : errQ (ruleQ (k : Int)) fx is e = 3 := by unfold errQ; rw [if_neg (by rw [hc5]; simp), if_pos hc6]
      refine .region rfl ?_
      refine R.assign (h := ?_)
      refine .n0 ?_
      refine .inBlock ?_
      refine .inBlock ?_
      refine .region rfl ?_
      refine R.move (h := ?_)
      first | refine R.add (h := ?_) | refine R.addW (h := ?_)
      refine R.assign (h := ?_)
      refine .n0 ?_
      refine .inLoop ?_
      exact LGo.turn [0, 3] (b := 0) (fun o h => by have := (hA o).1 h; omega) (ih (f, k + 1, acc ++ [fx], 3) ⟨by dsimp only; omega, by dsimp only; omega, by simp; omega, by rw [← he]; exact e1⟩ (by dsimp only; omega)) (by repeat (first | exact trivial | refine ⟨rfl, ?_⟩)) ⟨rfl, by rw [List.map_append]; rfl, trivial⟩
     ·
      have he : errQ (ruleQ (k : Int)) fx is e = e := by unfold errQ; rw [if_neg (by rw [hc5]; simp), if_neg (by rw [hc6]; simp)]
      refine .skip ?_
      refine .inBlock ?_
      refine .inBlock ?_
      refine .region rfl ?_
      refine R.move (h := ?_)
      first | refine R.add (h := ?_) | refine R.addW (h := ?_)
      refine R.assign (h := ?_)
      refine .n0 ?_
      refine .inLoop ?_
      exact LGo.turn [0, 3] (b := 0) (fun o h => by have := (hA o).1 h; omega) (ih (f, k + 1, acc ++ [fx], e) ⟨by dsimp only; omega, by dsimp only; omega, by simp; omega, by rw [← he]; exact e1⟩ (by dsimp only; omega)) (by repeat (first | exact trivial | refine ⟨rfl, ?_⟩)) ⟨rfl, by rw [List.map_append]; rfl, trivial⟩
  ·
   obtain rfl : fu = 0 := by omega
   rw [foGo] at e1
   refine .exit rfl ?_
   refine .seq ?_
   refine .seq ?_
   refine .region rfl ?_
   refine R.move (h := ?_)
   refine R.bin (run_neq _ _ _ _ _ _) (h := ?_)
   refine .n0 ?_
   refine LGo.ifb (ht := fun hc7 => ?_) (hf := fun hc7 => ?_)
   ·
    rw [if_pos hc7] at e1; rw [← e1]
    refine .seq ?_
    refine .region rfl ?_
    refine R.move (h := ?_)
    refine R.assign (h := ?_)
    refine R.assign (h := ?_)
    refine .n0 ?_
    first | refine LGo.frzT 2 (h := ?_) | refine LGo.nilSl 2 3 (h := ?_) | skip
    exact LGo.ret (ret_TT Tryz.results146 hA hmd)
   ·
    rw [if_neg (by rw [hc7]; simp)] at e1; rw [← e1]
    refine .skip ?_
    refine .seq ?_
    refine .seq ?_
    refine .region rfl ?_
    refine R.move (h := ?_)
    refine R.assign (h := ?_)
    refine R.assign (h := ?_)
    refine .n0 ?_
    first | refine LGo.frzT 2 (h := ?_) | refine LGo.nilSl 2 3 (h := ?_) | skip
    exact LGo.ret (ret_TT Tryz.results146 hA hmd)
theorem checkQ_P (r : Rq) (hr : RqOk r) : PC Tryz.prog 143 [.agg (r.c.map LV.sv)] (.i (checkQ r)) := by
 refine ⟨LC.of_go Tryz.func143 (c := _) rfl (by kernel_rfl) (by rw [Tryz.ntmps143]; simp) rfl rfl (by simp [LO.lt, LV.lts, LV.lt, lts_sv]) (by simp) ?_⟩
 intro B hA hmd
 unfold checkQ
 refine .seq ?_
 refine .region rfl ?_
 refine R.box (h := ?_)
 refine R.assign (h := ?_)
 refine .n0 ?_
 refine .seq ?_
 refine .region rfl ?_
 first | refine R.loadA A48 (h := ?_) | refine R.loadN A48 (h := ?_) | refine R.loadP A48 (h := ?_)
 refine R.callP (es := [_]) (fun _ => fieldsOf_P r hr) (h := ?_)
 refine R.move (h := ?_)
 refine R.extract (h := ?_)
 refine R.extract (h := ?_)
 refine R.assign (h := ?_)
 refine R.assign (h := ?_)
 refine .n0 ?_
 refine .seq ?_
 refine .region rfl ?_
 refine R.move (h := ?_)
 refine R.assign (h := ?_)
 refine .n0 ?_
 exact LGo.ret (ret_T Tryz.results143 hA hmd)
def ruGo (m : Int) : Nat → Nat → List Rule → List Rule
  | 0, _, l => l
  | n + 1, k, l => if bitQ m k = 1 then ruGo m n (k + 1) (l ++ [ruleQ k]) else ruGo m n (k + 1) l
def rulesQ (k : Int) : List Rule × Int := if maskOf k = 0 then ([], 2) else (ruGo (maskOf k) 16 0 [], 0)
theorem rulesQ_P (kd : Int) : PC Tryz.prog 147 [.i kd] (.tup [.sv (.sl 5 ((rulesQ kd).1.map Rule.c)), .i (rulesQ kd).2]) := by
 refine ⟨LC.of_go Tryz.func147 (c := _) rfl (by kernel_rfl) (by rw [Tryz.ntmps147]; simp) rfl rfl (by simp [LO.lt, LV.lts, LV.lt, lts_sv]) (by simp) ?_⟩
 intro B hA hmd
 obtain ⟨g, e0⟩ : ∃ g, rulesQ kd = g := ⟨_, rfl⟩
 have e1 := e0
 unfold rulesQ at e1
 rw [e0]
 have hm := maskOf_lt kd
 refine .seq ?_
 refine .region rfl ?_
 refine R.assign (h := ?_)
 refine R.assign (h := ?_)
 refine .n0 ?_
 refine .seq ?_
 refine .region rfl ?_
 refine R.move (h := ?_)
 refine R.callP (es := [_]) (fun _ => mask_P kd) (h := ?_)
 refine R.assign (h := ?_)
 refine .n0 ?_
 refine .seq ?_
 refine .seq ?_
 refine .region rfl ?_
 refine R.move (h := ?_)
 refine R.bin (run_eql _ _ _ _ _ _) (h := ?_)
 refine .n0 ?_
 refine LGo.ifd (ht := fun hc => ?_) (hf := fun hc => ?_)
 ·
  rw [if_pos hc] at e1; rw [← e1]
  refine .seq ?_
  refine .region rfl ?_
  refine R.assign (h := ?_)
  refine R.assign (h := ?_)
  refine .n0 ?_
  first | refine LGo.frzT 2 (h := ?_) | refine LGo.nilSl 2 5 (h := ?_) | skip
  exact LGo.ret (ret_TT Tryz.results147 hA hmd)
 ·
  rw [if_neg hc] at e1
  generalize maskOf kd = m at *
  refine .skip ?_
  refine .seq ?_
  refine .region rfl ?_
  refine R.assign (h := ?_)
  refine .n0 ?_
  refine .seq ?_
  refine .seq ?_
  refine .region rfl ?_
  refine R.move (h := ?_)
  refine .n0 ?_
  refine .block ?_
  refine .loop ?_
  refine LGo.nilRs 5 215 5 (h := ?_)
  refine LGo.loopG (σ := Nat × Nat × List Rule) (fun x => x.1 + x.2.1 = 16 ∧ x.2.2.length ≤ x.2.1 ∧ (ruGo m x.1 x.2.1 x.2.2, (0 : Int)) = g) (fun x => [(11, (true, .i (x.2.1 : Nat))), (5, (true, .ref 0))]) (fun x => [(0, .rs 215 5 (x.2.2.map Rule.c))]) (fun x => x.1) ((16, 0, [])) [(4, _)] ⟨rfl, Nat.le_refl _, e1⟩ (by repeat (first | exact trivial | refine ⟨rfl, ?_⟩)) (by repeat (first | exact trivial | refine ⟨rfl, ?_⟩)) (by repeat (first | exact trivial | refine ⟨rfl, ?_⟩)) ?_
  rintro ⟨fu, k, acc⟩ ⟨q1, q2, e1⟩ ih
  dsimp only at * 
  refine .seq ?_
  refine .region rfl ?_
  refine R.bin (run_lss _ _ _ _ _ _) (h := ?_)
  refine .n0 ?_
  refine .seq ?_
  refine LGo.ifd (ht := fun hc2 => ?_) (hf := fun hc2 => ?_)
  ·
   obtain ⟨f, rfl⟩ : ∃ f, fu = f + 1 := ⟨fu - 1, by omega⟩
   rw [ruGo] at e1
   refine .skip ?_
   refine .seq ?_
   refine .block ?_
   refine .seq ?_
   refine .region rfl ?_
   refine R.move (h := ?_)
   refine R.assign (h := ?_)
   refine .n0 ?_
   refine .seq ?_
   refine .region rfl ?_
   refine R.move (h := ?_)
   refine R.move (h := ?_)
   refine R.shr (h := ?_)
   rw [shr_u16 m k (by omega)]
   refine R.bin (run_andE _ _ _ .u16 _ 1 (and1_u16 _ (div_lt m k hm.1 hm.2).1 (div_lt m k hm.1 hm.2).2)) (h := ?_)
   refine R.bin (run_eql _ _ _ _ _ _) (h := ?_)
   refine .n0 ?_
   refine LGo.ifd (ht := fun hc3 => ?_) (hf := fun hc3 => ?_)
   ·
    rw [if_pos (show bitQ m k = 1 from hc3)] at e1
    refine .region rfl ?_
    refine R.move (h := ?_)
    refine R.move (h := ?_)
    refine R.callP (es := [_]) (fun _ => ruleQ_P (k : Int)) (h := ?_)
    refine R.buildSliceG AP141 (xs := [_]) (es := [_]) (hcs := CellsOfs.cons (CellsOf.agg rfl) CellsOfs.nil) (h := ?_)
    refine R.appendS AP141 (hs := SrcOk.sl Tryz.underlying141 (by simp; rfl)) (hlen := by simp; omega) (h := ?_)
    refine R.assign (h := ?_)
    refine .n0 ?_
    refine .inBlock ?_
    refine .region rfl ?_
    first | refine R.add (h := ?_) | refine R.addW (h := ?_)
    refine R.move (h := ?_)
    refine .n0 ?_
    refine .inLoop ?_
    exact LGo.turn [1] (b := 0) (fun o h => by have := (hA o).1 h; omega) (ih (f, k + 1, acc ++ [ruleQ k]) ⟨by dsimp only; omega, by simp; omega, e1⟩ (by dsimp only; omega)) (by repeat (first | exact trivial | refine ⟨rfl, ?_⟩)) ⟨by rw [List.map_append]; rfl, trivial⟩
   ·
    rw [if_neg (show ¬ bitQ m k = 1 from hc3)] at e1
    refine .skip ?_
    refine .inBlock ?_
    refine .region rfl ?_
    first | refine R.add (h := ?_) | refine R.addW (h := ?_)
    refine R.move (h := ?_)
    refine .n0 ?_
    refine .inLoop ?_
    exact LGo.next _ (fun o h => by have := (hA o).1 h; omega) (by omega) (ih (f, k + 1, acc) ⟨by dsimp only; omega, by dsimp only; omega, e1⟩ (by dsimp only; omega)) (by repeat (first | exact trivial | refine ⟨rfl, ?_⟩)) (by repeat (first | exact trivial | refine ⟨rfl, ?_⟩))
  ·
   obtain rfl : fu = 0 := by omega
   rw [ruGo] at e1
   rw [← e1]
   refine .exit rfl ?_
   refine .seq ?_
   refine .region rfl ?_
   refine R.move (h := ?_)
   refine R.assign (h := ?_)
   refine R.assign (h := ?_)
   refine .n0 ?_
   first | refine LGo.frzT 2 (h := ?_) | refine LGo.nilSl 2 5 (h := ?_) | skip
   exact LGo.ret (ret_TT Tryz.results147 hA hmd)
def tagsQ (k : Int) : List Int := if k = 1 then [2] else if k = 2 then [3, 5] else if k = 4 then [3, 5] else if k = 5 then [3, 5] else if k = 8 then [3, 5] else if k = 3 then [3, 6, 7] else if k = 6 then [3, 4, 8] else if k = 7 then [3, 4] else if k = 9 then [4] else if k = 10 then [3, 6] else if k = 11 then [3, 6] else [4, 9]
/-- has a kind the field with a tag -/
def hasGo (t : Int) : List Int → Bool
  | [] => decide (t = 1)
  | x :: l => if x = t then true else hasGo t l
def hasQ (k t : Int) : Bool := hasGo t (tagsQ k)
theorem mask_out {k : Int} (h : k < 0 ∨ 14 ≤ k) : maskOf k = 0 := if_pos h
/-! reading -/
/-! what is missing -/
theorem checkGo_asc : ∀ (rs : List Rule) (last : Int), 0 ≤ last → checkGo last rs = 0 → rs.Pairwise (fun a b => a.tag < b.tag)
  | [], _, _, _ => List.Pairwise.nil
  | r :: rs, last, h0, h => by
    have h1 := checkGo_ok (r :: rs) last h0 h
    have hr := h1 r (by simp)
    have h2 : checkGo r.tag rs = 0 := by
      simp only [checkGo] at h
      split at h
      · cases h
      · split at h
        · exact h
        · split at h
          · cases h
          · exact h
    exact List.Pairwise.cons (fun q hq => (checkGo_ok rs r.tag (by omega) h2 q hq).1) (checkGo_asc rs r.tag (by omega) h2)
theorem check_asc {rs : List Rule} (h : check rs = 0) : rs.Pairwise (fun a b => a.tag < b.tag) := by
  unfold check at h
  split at h
  · cases h
  · exact checkGo_asc rs 0 (by omega) h
def rem (rs : List Rule) (acc : List Fld) : List Int := (needs rs).filter (fun t => !fldHas t acc)
theorem rem_lack (rs : List Rule) (acc : List Fld) : lackF rs acc = decide (0 < ((rem rs acc).length : Int)) := by
  unfold lackF rem
  rw [Bool.eq_iff_iff, List.any_eq_true, decide_eq_true_iff]
  constructor
  · rintro ⟨t, h1, h2⟩
    have : t ∈ (needs rs).filter (fun t => !fldHas t acc) := List.mem_filter.2 ⟨h1, h2⟩
    have := List.length_pos_of_mem this
    omega
  · intro h
    obtain ⟨t, ht⟩ := List.exists_mem_of_length_pos (by omega : 0 < ((needs rs).filter (fun t => !fldHas t acc)).length)
    obtain ⟨h1, h2⟩ := List.mem_filter.1 ht
    exact ⟨t, h1, h2⟩
/-! the two decodings -/
def fin (b : List UInt8) (acc : List Fld) (d : List Fld × List UInt8 × List Int) : List Fld × Int × Int :=
  if (decide ((0 : Int) < d.2.1.length) || decide ((0 : Int) < d.2.2.length)) = true then ([], (b.length : Int) - d.2.1.length, 11) else (acc ++ d.1, 0, 0)
/-! bytes -/
def BytL (l : List Int) : Prop := ∀ y ∈ l, 0 ≤ y ∧ y < 256
theorem BytL.app {l m : List Int} (h : BytL l) (h2 : BytL m) : BytL (l ++ m) := fun y hy => by
  rcases List.mem_append.1 hy with h' | h'
  · exact h y h'
  · exact h2 y h'
theorem BytL.cons {x : Int} {l : List Int} (h0 : 0 ≤ x) (h1 : x < 256) (h : BytL l) : BytL (x :: l) := fun y hy => by
  rcases List.mem_cons.1 hy with rfl | h'
  · exact ⟨h0, h1⟩
  · exact h y h'
theorem low_byt (x : Int) : ∀ n, BytL (low x n)
  | 0 => fun y hy => by simp [low] at hy
  | n + 1 => BytL.cons (Int.emod_nonneg _ (by omega)) (Int.emod_lt_of_pos _ (by omega)) (low_byt x n)
theorem digs_byt (x : Int) : BytL (digs x) := low_byt x _
theorem textI_byt (l : List UInt8) : BytL (textI l) := fun y hy => by
  obtain ⟨c, _, rfl⟩ := List.mem_map.1 hy
  exact ⟨u8_ge c, u8_lt c⟩
def fldG (r : Rule) (x : Fld) : List Int := if r.kind = 1 then ((digs x.num).length : Int) :: digs x.num else ((x.txt.length : Int) / 256) :: ((x.txt.length : Int) % 256) :: textI x.txt
theorem fldB_G (r : Rule) (x : Fld) : fldB r x = x.tag :: fldG r x := by
  unfold fldB fldG
  split <;> rfl
theorem fldG_byt (r : Rule) (x : Fld) (h : FldOk x) : BytL (fldG r x) := by
  have h1 := digs_len x.num h.1 h.2.1
  have h2 := h.2.2
  unfold fldG
  split
  · exact BytL.cons (by omega) (by omega) (digs_byt _)
  · exact BytL.cons (by omega) (by omega) (BytL.cons (by omega) (by omega) (textI_byt _))
theorem encF_byt {rs : List Rule} (hrs : ∀ r ∈ rs, 0 < r.tag ∧ r.tag ≤ 63) : ∀ (fs : List Fld) (last : Int), (∀ x ∈ fs, FldOk x) → BytL (encF rs last fs).2
  | [], _, _ => fun y hy => by simp [encF] at hy
  | x :: fs, last, h => by
    simp only [encF]
    split
    · intro y hy; simp at hy
    · rename_i h1
      split
      · have hr : ruleHas x.tag rs = true := by
          cases hh : ruleHas x.tag rs with
          | true => rfl
          | false => rw [hh] at h1; simp at h1
        obtain ⟨hm, ht⟩ := ruleAt_mem hr
        have hb := hrs _ hm
        rw [ht] at hb
        rw [fldB_G]
        exact (BytL.cons (by omega) (by omega) (fldG_byt _ x (h x (by simp)))).app (encF_byt hrs fs x.tag (fun y hy => h y (by simp [hy])))
      · intro y hy; simp at hy
theorem encode_byt (rs : List Rule) (fs : List Fld) (h : ∀ x ∈ fs, FldOk x) : BytL (encode rs fs).1 := by
  have hnil : BytL [] := fun y hy => by simp at hy
  unfold encode
  split
  · rename_i hc
    have hk := (check_ok hc).2
    split
    · exact hnil
    · split
      · split
        · exact hnil
        · exact encF_byt (fun r hr => ⟨(hk r hr).1, (hk r hr).2.1⟩) fs 0 h
      · exact hnil
  · exact hnil
def encBy (rs : List Rule) (fs : List Fld) : List UInt8 := (encode rs fs).1.map byt
/-! numbers -/
/-! a field, read and written -/
/-- the fields of a message ascend -/
theorem encF_asc {rs : List Rule} : ∀ (fs : List Fld) (last : Int), (encF rs last fs).1 = 0 → (fs.map Fld.tag).Pairwise (· < ·) ∧ ∀ x ∈ fs, last < x.tag ∧ ruleHas x.tag rs = true
  | [], _, _ => ⟨List.Pairwise.nil, by simp⟩
  | x :: fs, last, h => by
    simp only [encF] at h
    split at h
    · cases h
    · rename_i h1
      rw [Bool.not_eq_true, Bool.or_eq_false_iff] at h1
      have h2 : ruleHas x.tag rs = true := by simpa using h1.1
      have h3 : last < x.tag := by simpa using h1.2
      split at h
      · obtain ⟨i1, i2⟩ := encF_asc fs x.tag h
        refine ⟨?_, fun y hy => ?_⟩
        · simp only [List.map_cons, List.pairwise_cons]
          refine ⟨fun t ht => ?_, i1⟩
          obtain ⟨y, hy, rfl⟩ := List.mem_map.1 ht
          exact (i2 y hy).1
        · rcases List.mem_cons.1 hy with rfl | hy
          · exact ⟨h3, h2⟩
          · have := i2 y hy
            exact ⟨by omega, this.2⟩
      · rename_i h4; exact absurd h h4
theorem asc_len : ∀ (m l : List Int), m.Pairwise (· < ·) → l.Pairwise (· < ·) → (∀ t ∈ l, t ∈ m) → l.length ≤ m.length
  | [], l, _, _, h => by
    cases l with
    | nil => simp
    | cons a l => exact absurd (h a (by simp)) (by simp)
  | t :: m, [], _, _, _ => by simp
  | t :: m, s :: l, hm, hl, h => by
    have hm' := List.pairwise_cons.1 hm
    have hl' := List.pairwise_cons.1 hl
    have hs : t ≤ s := by
      rcases List.mem_cons.1 (h s (by simp)) with h1 | h1
      · omega
      · have := hm'.1 s h1; omega
    have hsub : ∀ u ∈ l, u ∈ m := fun u hu => by
      have h1 := hl'.1 u hu
      rcases List.mem_cons.1 (h u (by simp [hu])) with h2 | h2
      · omega
      · exact h2
    have := asc_len m l hm'.2 hl'.2 hsub
    simp only [List.length_cons]
    omega
theorem encF_len {rs : List Rule} (hc : check rs = 0) (fs : List Fld) (last : Int) (h : (encF rs last fs).1 = 0) : fs.length ≤ 16 := by
  obtain ⟨h1, h2⟩ := encF_asc fs last h
  have h3 := asc_len (rs.map Rule.tag) (fs.map Fld.tag) (List.pairwise_map.2 (check_asc hc)) h1 (fun t ht => by
    obtain ⟨x, hx, rfl⟩ := List.mem_map.1 ht
    obtain ⟨hm, ht'⟩ := ruleAt_mem (h2 x hx).2
    exact List.mem_map.2 ⟨_, hm, ht'⟩)
  rw [List.length_map, List.length_map] at h3
  have := (check_ok hc).1
  omega
/-- the answers of Encode -/
theorem encode_ok {rs : List Rule} {fs : List Fld} (h : (encode rs fs).2 = 0) : check rs = 0 ∧ (encF rs 0 fs).1 = 0 ∧ rem rs fs = [] ∧ (encode rs fs).1 = (encF rs 0 fs).2 := by
  unfold encode at h ⊢
  split at h
  · rename_i hc
    rw [if_pos hc]
    split at h
    · cases h
    · rename_i h1
      rw [if_neg h1]
      split at h
      · rename_i h2
        rw [if_pos h2]
        split at h
        · cases h
        · rename_i h3
          rw [if_neg h3]
          refine ⟨hc, h2, ?_, rfl⟩
          rw [rem_lack] at h3
          exact List.eq_nil_of_length_eq_zero (by have := of_decide_eq_false (Bool.not_eq_true _ ▸ h3); omega)
      · rename_i h2; exact absurd h h2
  · rename_i hc; exact absurd h hc
theorem encode_err {rs : List Rule} {fs : List Fld} (h : (encode rs fs).2 ≠ 0) : (encode rs fs).1 = [] := by
  unfold encode at h ⊢
  split
  · split
    · rfl
    · split
      · split
        · rfl
        · rename_i hc h1 h2 h3
          rw [if_pos hc, if_neg h1, if_pos h2, if_neg h3] at h
          exact absurd rfl h
      · rfl
  · rfl
/-! beginnings of messages; rules that allow less -/
/-! rules that allow less -/
/-! what the laws take -/
theorem encode_PB (rs : List Rule) (fs : List Fld) (hrs : rs.length ≤ 100) (hfs : fs.length ≤ 100) (hok : ∀ x ∈ fs, FldOk x) : PC Tryz.prog 148 [.sv (.sl 5 (rs.map Rule.c)), .sv (.sl 3 (fs.map Fld.c))] (.tup [.sv (.sl 1 (bytesC (encBy rs fs))), .i (encode rs fs).2]) := by
  have h := encode_P rs fs hrs hfs hok
  rw [ic_byt _ (encode_byt rs fs hok)] at h
  exact h
theorem fldB_len500 (r : Rule) (x : Fld) (hx : FldOk x) (h : x.txt.length ≤ 500) : (fldB r x).length ≤ 503 := by
  have h1 := digs_len x.num hx.1 hx.2.1
  unfold fldB
  split <;> simp [textI_len] <;> omega
theorem encF_len500 {rs : List Rule} : ∀ (fs : List Fld) (last : Int), (∀ x ∈ fs, FldOk x ∧ x.txt.length ≤ 500) → (encF rs last fs).2.length ≤ 503 * fs.length
  | [], _, _ => by simp [encF]
  | x :: fs, last, h => by
    simp only [encF]
    split
    · simp
    · split
      · have h1 := fldB_len500 (ruleAt x.tag rs) x (h x (by simp)).1 (h x (by simp)).2
        have h2 := encF_len500 (rs := rs) fs x.tag (fun y hy => h y (by simp [hy]))
        simp only [List.length_append, List.length_cons]
        omega
      · simp
theorem encBy_len {rs : List Rule} {l : List Fld} (h : ∀ x ∈ l, FldOk x ∧ x.txt.length ≤ 500) : (encBy rs l).length ≤ 8048 := by
  unfold encBy
  rw [List.length_map]
  by_cases he : (encode rs l).2 = 0
  · obtain ⟨hc, h1, _, h3⟩ := encode_ok he
    rw [h3]
    have := encF_len500 (rs := rs) l 0 h
    have := encF_len hc l 0 h1
    omega
  · rw [encode_err he]; simp
theorem fieldQ_500 {r : Rq} (hr : RqOk r) (hs : r.ses.length ≤ 500 ∧ r.tic.length ≤ 500) (t : Int) : FldOk (fieldQ r t).1 ∧ (fieldQ r t).1.txt.length ≤ 500 := by
  have h1 := hr.id; have h3 := hr.owner; have h4 := hr.to
  have h2 := uw_lt
  obtain ⟨h5, h6⟩ := hs
  unfold fieldQ
  (repeat' split) <;> simp only [FldOk] <;> refine ⟨⟨?_, ?_, ?_⟩, ?_⟩ <;> first | exact (h2 _).1 | exact (h2 _).2 | (simp only [List.length_nil]; omega) | omega
theorem foGo_500 {m : Int} {r : Rq} (hr : RqOk r) (hs : r.ses.length ≤ 500 ∧ r.tic.length ≤ 500) : ∀ (n k : Nat) (l : List Fld) (e : Int), (∀ f ∈ l, FldOk f ∧ f.txt.length ≤ 500) → (∀ f ∈ (foGo m r n k l e).1, FldOk f ∧ f.txt.length ≤ 500) ∧ (foGo m r n k l e).1.length ≤ l.length + n
  | 0, k, l, e, hl => by
    rw [foGo]
    split
    · simp
    · exact ⟨hl, by simp⟩
  | n + 1, k, l, e, hl => by
    rw [foGo]
    split
    · split
      · simp
      · have := foGo_500 (m := m) hr hs n (k + 1) l e hl
        exact ⟨this.1, by omega⟩
    · have := foGo_500 hr hs n (k + 1) (l ++ [(fieldQ r k).1]) (errQ (ruleQ k) (fieldQ r k).1 (fieldQ r k).2 e) (m := m) (fun f hf => by
        rcases List.mem_append.1 hf with h | h
        · exact hl f h
        · rw [List.mem_singleton.1 h]; exact fieldQ_500 hr hs _)
      rw [List.length_append, List.length_cons, List.length_nil] at this
      exact ⟨this.1, by omega⟩
theorem fieldsOf_500 {r : Rq} (hr : RqOk r) (hs : r.ses.length ≤ 500 ∧ r.tic.length ≤ 500) : (∀ f ∈ (fieldsOf r).1, FldOk f ∧ f.txt.length ≤ 500) ∧ (fieldsOf r).1.length ≤ 9 := by
  unfold fieldsOf
  split
  · simp
  · have := foGo_500 (m := maskOf r.kind) hr hs 9 1 [] 0 (by simp)
    simpa using this
theorem ruGo_len (m : Int) : ∀ (n k : Nat) (l : List Rule), (ruGo m n k l).length ≤ l.length + n
  | 0, k, l => by simp [ruGo]
  | n + 1, k, l => by
    rw [ruGo]
    split
    · have := ruGo_len m n (k + 1) (l ++ [ruleQ k]); simp at this; omega
    · have := ruGo_len m n (k + 1) l; omega
theorem rulesQ_len (k : Int) : (rulesQ k).1.length ≤ 16 := by
  unfold rulesQ
  split
  · simp
  · have := ruGo_len (maskOf k) 16 0 []; simpa using this
theorem fieldsOf_kind {r : Rq} (h : (fieldsOf r).2 = 0) : 0 ≤ r.kind ∧ r.kind < 14 := by
  by_cases hk : r.kind < 0 ∨ 14 ≤ r.kind
  · unfold fieldsOf at h
    rw [if_pos (mask_out hk)] at h
    cases h
  · omega
def encQ (r : Rq) : List UInt8 × Int := if (!decide ((fieldsOf r).2 = 0)) = true then ([], (fieldsOf r).2) else if (!decide ((encode (rulesQ r.kind).1 (fieldsOf r).1).2 = 0)) = true then ([], (encode (rulesQ r.kind).1 (fieldsOf r).1).2) else (byt r.kind :: encBy (rulesQ r.kind).1 (fieldsOf r).1, 0)
def needsQ (k : Int) : Bool × Bool × Int := if maskOf k = 0 then (false, false, 2) else (decide (bitQ (maskOf k) 3 = 1), decide (bitQ (maskOf k) 4 = 1), 0)
theorem needsQ_P (kd : Int) : PC Tryz.prog 144 [.i kd] (.tup [.b (needsQ kd).1, .b (needsQ kd).2.1, .i (needsQ kd).2.2]) := by
 refine ⟨LC.of_go Tryz.func144 (c := _) rfl (by kernel_rfl) (by rw [Tryz.ntmps144]; simp) rfl rfl (by simp [LO.lt, LV.lts, LV.lt, lts_sv]) (by simp) ?_⟩
 intro B hA hmd
 obtain ⟨g, e0⟩ : ∃ g, needsQ kd = g := ⟨_, rfl⟩
 have e1 := e0
 unfold needsQ at e1
 rw [e0]
 have hm := maskOf_lt kd
 refine .seq ?_
 refine .region rfl ?_
 refine R.assign (h := ?_)
 refine R.assign (h := ?_)
 refine R.assign (h := ?_)
 refine .n0 ?_
 refine .seq ?_
 refine .region rfl ?_
 refine R.move (h := ?_)
 refine R.callP (es := [_]) (fun _ => mask_P kd) (h := ?_)
 refine R.assign (h := ?_)
 refine .n0 ?_
 refine .seq ?_
 refine .seq ?_
 refine .region rfl ?_
 refine R.move (h := ?_)
 refine R.bin (run_eql _ _ _ _ _ _) (h := ?_)
 refine .n0 ?_
 refine LGo.ifd (ht := fun hc => ?_) (hf := fun hc => ?_)
 ·
  rw [if_pos hc] at e1; rw [← e1]
  refine .seq ?_
  refine .region rfl ?_
  refine R.assign (h := ?_)
  refine R.assign (h := ?_)
  refine R.assign (h := ?_)
  refine .n0 ?_
  exact LGo.ret (ret_TTT Tryz.results144 hA hmd)
 ·
  rw [if_neg hc] at e1; rw [← e1]
  generalize maskOf kd = m at *
  refine .skip ?_
  refine .seq ?_
  refine .region rfl ?_
  refine R.move (h := ?_)
  refine R.shr (h := ?_)
  rw [show min (Int.toNat 3) IntKind.u16.bits = 3 from rfl]
  refine R.bin (run_andE _ _ _ .u16 _ 1 (and1_u16 _ (div_lt m 3 hm.1 hm.2).1 (div_lt m 3 hm.1 hm.2).2)) (h := ?_)
  refine R.bin (run_eql _ _ _ _ _ _) (h := ?_)
  refine R.move (h := ?_)
  refine R.shr (h := ?_)
  rw [show min (Int.toNat 4) IntKind.u16.bits = 4 from rfl]
  refine R.bin (run_andE _ _ _ .u16 _ 1 (and1_u16 _ (div_lt m 4 hm.1 hm.2).1 (div_lt m 4 hm.1 hm.2).2)) (h := ?_)
  refine R.bin (run_eql _ _ _ _ _ _) (h := ?_)
  refine R.assign (h := ?_)
  refine R.assign (h := ?_)
  refine R.assign (h := ?_)
  refine .n0 ?_
  exact LGo.ret (ret_TTT Tryz.results144 hA hmd)
def plainC (c : UInt8) : Bool := decide (32 ≤ c.toNat) && decide (c.toNat ≤ 126) && !decide (c.toNat = 34) && !decide (c.toNat = 92)
def escL (c : UInt8) : UInt8 := if c.toNat = 34 then 34 else if c.toNat = 92 then 92 else if c.toNat = 10 then 110 else if c.toNat = 13 then 114 else if c.toNat = 9 then 116 else 0
def hexT : List UInt8 := [48, 49, 50, 51, 52, 53, 54, 55, 56, 57, 97, 98, 99, 100, 101, 102]
def hexD (n : Nat) : UInt8 := hexT.getD n 0
def escaped (c : UInt8) : List UInt8 := if plainC c = true then [c] else if escL c ≠ 0 then [92, escL c] else [92, 120, hexD (c.toNat / 16), hexD (c.toNat % 16)]
def quote (s : List UInt8) : List UInt8 := 34 :: (s.flatMap escaped ++ [34])
theorem u8_all {p : UInt8 → Prop} [DecidablePred p] (h : ((List.range 256).all fun n => decide (p (UInt8.ofNat n))) = true) (c : UInt8) : p c := by
  have h1 := List.all_eq_true.1 h c.toNat (List.mem_range.2 c.toNat_lt)
  have h2 : UInt8.ofNat c.toNat = c := UInt8.ofNat_toNat
  rw [h2] at h1
  exact of_decide_eq_true h1
theorem tabE : (1, escTab.map (Value.int .u8)) ∈ tabs := by simp [tabs]
theorem plainC_int (c : UInt8) : plainC c = (decide ((c.toNat : Int) ≥ 32) && decide ((c.toNat : Int) ≤ 126) && !decide ((c.toNat : Int) = 34) && !decide ((c.toNat : Int) = 92)) := by
  rw [Bool.eq_iff_iff]
  simp [plainC]
  omega
theorem isPlain_P (c : UInt8) : PC Tryz.prog 174 [.y c.toNat] (.b (plainC c)) := by
 refine ⟨LC.of_go Tryz.func174 (c := _) rfl (by kernel_rfl) (by rw [Tryz.ntmps174]; simp) rfl rfl (by simp [LO.lt, LV.lts, LV.lt, lts_sv]) (by simp) ?_⟩
 intro B hA hmd
 rw [plainC_int]
 refine .seq ?_
 refine .region rfl ?_
 refine R.assign (h := ?_)
 refine .n0 ?_
 refine .seq ?_
 refine .region rfl ?_
 refine R.move (h := ?_)
 refine R.bin (run_geq _ _ _ _ _ _) (h := ?_)
 refine R.move (h := ?_)
 refine R.move (h := ?_)
 refine R.bin (run_leq _ _ _ _ _ _) (h := ?_)
 refine R.and (h := ?_)
 refine R.move (h := ?_)
 refine R.move (h := ?_)
 refine R.bin (run_neq _ _ _ _ _ _) (h := ?_)
 refine R.and (h := ?_)
 refine R.move (h := ?_)
 refine R.move (h := ?_)
 refine R.bin (run_neq _ _ _ _ _ _) (h := ?_)
 refine R.and (h := ?_)
 refine R.assign (h := ?_)
 refine .n0 ?_
 exact LGo.ret (ret_T Tryz.results174 hA hmd)
theorem letterOf_P (c : UInt8) : PC Tryz.prog 173 [.y c.toNat] (.y (escL c).toNat) := by
 refine ⟨LC.of_go Tryz.func173 (c := _) rfl (by kernel_rfl) (by rw [Tryz.ntmps173]; simp) rfl rfl (by simp [LO.lt, LV.lts, LV.lt, lts_sv]) (by simp) ?_⟩
 intro B hA hmd
 refine .seq ?_
 refine .region rfl ?_
 refine R.assign (h := ?_)
 refine .n0 ?_
 refine .seq ?_
 refine .seq ?_
 refine .region rfl ?_
 refine R.gLoadN A284 (hm := tabE) (h := ?_)
 refine R.move (h := ?_)
 refine .n0 ?_
 refine .block ?_
 refine .loop ?_
 refine LGo.loopG (σ := Nat) (fun x => x ≤ 5 ∧ (1 ≤ x → c.toNat ≠ 34) ∧ (2 ≤ x → c.toNat ≠ 92) ∧ (3 ≤ x → c.toNat ≠ 10) ∧ (4 ≤ x → c.toNat ≠ 13) ∧ (5 ≤ x → c.toNat ≠ 9)) (fun x => [(6, (true, .i (x : Nat)))]) (fun x => []) (fun x => 5 - x) (0) [(0, _), (5, _)] ⟨by omega, by omega, by omega, by omega, by omega, by omega⟩ (by repeat (first | exact trivial | refine ⟨rfl, ?_⟩)) (by repeat (first | exact trivial | refine ⟨rfl, ?_⟩)) (by repeat (first | exact trivial | refine ⟨rfl, ?_⟩)) ?_
 rintro k ⟨hk, q1, q2, q3, q4, q5⟩ ih
 refine .seq ?_
 refine .region rfl ?_
 refine R.bin (run_lss _ _ _ _ _ _) (h := ?_)
 refine .n0 ?_
 refine .seq ?_
 refine LGo.ifd (ht := fun hc => ?_) (hf := fun hc => ?_)
 ·
  refine .skip ?_
  refine .seq ?_
  refine .block ?_
  refine .seq ?_
  refine .region rfl ?_
  rcases (show k = 0 ∨ k = 1 ∨ k = 2 ∨ k = 3 ∨ k = 4 by omega) with rfl | rfl | rfl | rfl | rfl
  ·
   refine R.indexVN IV284 (hj := fun _ => by omega) (h := ?_)
   have he : ((((escTab.map (Value.int .u8)).drop (Int.toNat ((0 : Nat) : Int) * 2)).take 2).map LV.v) = [.y 34, .y 34] := rfl
   rw [he]
   clear he
   refine R.alloc Z283 (h := ?_)
   refine R.storeA A283 (h := ?_)
   refine .n0 ?_
   refine .seq ?_
   refine .region rfl ?_
   first | refine R.field F283_0 (h := ?_) | refine R.fieldAt F283_0 (h := ?_)
   first | refine R.loadB O5 (h := ?_) | refine R.load1 O5 (h := ?_)
   refine R.move (h := ?_)
   refine R.bin (run_eql _ _ _ _ _ _) (h := ?_)
   refine .n0 ?_
   first | refine LGo.ifd (ht := fun hc2 => ?_) (hf := fun hc2 => ?_) | refine LGo.ifb (ht := fun hc2 => ?_) (hf := fun hc2 => ?_)
   ·
    rw [show escL c = 34 from by unfold escL; rw [if_pos (by omega)]]
    refine .seq ?_
    refine .region rfl ?_
    first | refine R.field F283_1 (h := ?_) | refine R.fieldAt F283_1 (h := ?_)
    first | refine R.loadB O5 (h := ?_) | refine R.load1 O5 (h := ?_)
    refine R.assign (h := ?_)
    refine .n0 ?_
    exact LGo.ret (ret_T Tryz.results173 hA hmd)
   ·
    refine .skip ?_
    refine .inBlock ?_
    refine .region rfl ?_
    first | refine R.add (h := ?_) | refine R.addW (h := ?_)
    refine R.move (h := ?_)
    refine .n0 ?_
    refine .inLoop ?_
    exact LGo.next _ (fun o h => by have := (hA o).1 h; omega) (by omega) (ih 1 ⟨by omega, by omega, by omega, by omega, by omega, by omega⟩ (by omega)) (by repeat (first | exact trivial | refine ⟨rfl, ?_⟩)) (by repeat (first | exact trivial | refine ⟨rfl, ?_⟩))
  ·
   refine R.indexVN IV284 (hj := fun _ => by omega) (h := ?_)
   have he : ((((escTab.map (Value.int .u8)).drop (Int.toNat ((1 : Nat) : Int) * 2)).take 2).map LV.v) = [.y 92, .y 92] := rfl
   rw [he]
   clear he
   refine R.alloc Z283 (h := ?_)
   refine R.storeA A283 (h := ?_)
   refine .n0 ?_
   refine .seq ?_
   refine .region rfl ?_
   first | refine R.field F283_0 (h := ?_) | refine R.fieldAt F283_0 (h := ?_)
   first | refine R.loadB O5 (h := ?_) | refine R.load1 O5 (h := ?_)
   refine R.move (h := ?_)
   refine R.bin (run_eql _ _ _ _ _ _) (h := ?_)
   refine .n0 ?_
   first | refine LGo.ifd (ht := fun hc3 => ?_) (hf := fun hc3 => ?_) | refine LGo.ifb (ht := fun hc3 => ?_) (hf := fun hc3 => ?_)
   ·
    rw [show escL c = 92 from by unfold escL; rw [if_neg (q1 (by omega)), if_pos (by omega)]]
    refine .seq ?_
    refine .region rfl ?_
    first | refine R.field F283_1 (h := ?_) | refine R.fieldAt F283_1 (h := ?_)
    first | refine R.loadB O5 (h := ?_) | refine R.load1 O5 (h := ?_)
    refine R.assign (h := ?_)
    refine .n0 ?_
    exact LGo.ret (ret_T Tryz.results173 hA hmd)
   ·
    refine .skip ?_
    refine .inBlock ?_
    refine .region rfl ?_
    first | refine R.add (h := ?_) | refine R.addW (h := ?_)
    refine R.move (h := ?_)
    refine .n0 ?_
    refine .inLoop ?_
    exact LGo.next _ (fun o h => by have := (hA o).1 h; omega) (by omega) (ih 2 ⟨by omega, by omega, by omega, by omega, by omega, by omega⟩ (by omega)) (by repeat (first | exact trivial | refine ⟨rfl, ?_⟩)) (by repeat (first | exact trivial | refine ⟨rfl, ?_⟩))
  ·
   refine R.indexVN IV284 (hj := fun _ => by omega) (h := ?_)
   have he : ((((escTab.map (Value.int .u8)).drop (Int.toNat ((2 : Nat) : Int) * 2)).take 2).map LV.v) = [.y 10, .y 110] := rfl
   rw [he]
   clear he
   refine R.alloc Z283 (h := ?_)
   refine R.storeA A283 (h := ?_)
   refine .n0 ?_
   refine .seq ?_
   refine .region rfl ?_
   first | refine R.field F283_0 (h := ?_) | refine R.fieldAt F283_0 (h := ?_)
   first | refine R.loadB O5 (h := ?_) | refine R.load1 O5 (h := ?_)
   refine R.move (h := ?_)
   refine R.bin (run_eql _ _ _ _ _ _) (h := ?_)
   refine .n0 ?_
   first | refine LGo.ifd (ht := fun hc4 => ?_) (hf := fun hc4 => ?_) | refine LGo.ifb (ht := fun hc4 => ?_) (hf := fun hc4 => ?_)
   ·
    rw [show escL c = 110 from by unfold escL; rw [if_neg (q1 (by omega)), if_neg (q2 (by omega)), if_pos (by omega)]]
    refine .seq ?_
    refine .region rfl ?_
    first | refine R.field F283_1 (h := ?_) | refine R.fieldAt F283_1 (h := ?_)
    first | refine R.loadB O5 (h := ?_) | refine R.load1 O5 (h := ?_)
    refine R.assign (h := ?_)
    refine .n0 ?_
    exact LGo.ret (ret_T Tryz.results173 hA hmd)
   ·
    refine .skip ?_
    refine .inBlock ?_
    refine .region rfl ?_
    first | refine R.add (h := ?_) | refine R.addW (h := ?_)
    refine R.move (h := ?_)
    refine .n0 ?_
    refine .inLoop ?_
    exact LGo.next _ (fun o h => by have := (hA o).1 h; omega) (by omega) (ih 3 ⟨by omega, by omega, by omega, by omega, by omega, by omega⟩ (by omega)) (by repeat (first | exact trivial | refine ⟨rfl, ?_⟩)) (by repeat (first | exact trivial | refine ⟨rfl, ?_⟩))
  ·
   refine R.indexVN IV284 (hj := fun _ => by omega) (h := ?_)
   have he : ((((escTab.map (Value.int .u8)).drop (Int.toNat ((3 : Nat) : Int) * 2)).take 2).map LV.v) = [.y 13, .y 114] := rfl
   rw [he]
   clear he
   refine R.alloc Z283 (h := ?_)
   refine R.storeA A283 (h := ?_)
   refine .n0 ?_
   refine .seq ?_
   refine .region rfl ?_
   first | refine R.field F283_0 (h := ?_) | refine R.fieldAt F283_0 (h := ?_)
   first | refine R.loadB O5 (h := ?_) | refine R.load1 O5 (h := ?_)
   refine R.move (h := ?_)
   refine R.bin (run_eql _ _ _ _ _ _) (h := ?_)
   refine .n0 ?_
   first | refine LGo.ifd (ht := fun hc5 => ?_) (hf := fun hc5 => ?_) | refine LGo.ifb (ht := fun hc5 => ?_) (hf := fun hc5 => ?_)
   ·
    rw [show escL c = 114 from by unfold escL; rw [if_neg (q1 (by omega)), if_neg (q2 (by omega)), if_neg (q3 (by omega)), if_pos (by omega)]]
    refine .seq ?_
    refine .region rfl ?_
    first | refine R.field F283_1 (h := ?_) | refine R.fieldAt F283_1 (h := ?_)
    first | refine R.loadB O5 (h := ?_) | refine R.load1 O5 (h := ?_)
    refine R.assign (h := ?_)
    refine .n0 ?_
    exact LGo.ret (ret_T Tryz.results173 hA hmd)
   ·
    refine .skip ?_
    refine .inBlock ?_
    refine .region rfl ?_
    first | refine R.add (h := ?_) | refine R.addW (h := ?_)
    refine R.move (h := ?_)
    refine .n0 ?_
    refine .inLoop ?_
    exact LGo.next _ (fun o h => by have := (hA o).1 h; omega) (by omega) (ih 4 ⟨by omega, by omega, by omega, by omega, by omega, by omega⟩ (by omega)) (by repeat (first | exact trivial | refine ⟨rfl, ?_⟩)) (by repeat (first | exact trivial | refine ⟨rfl, ?_⟩))
  ·
   refine R.indexVN IV284 (hj := fun _ => by omega) (h := ?_)
   have he : ((((escTab.map (Value.int .u8)).drop (Int.toNat ((4 : Nat) : Int) * 2)).take 2).map LV.v) = [.y 9, .y 116] := rfl
   rw [he]
   clear he
   refine R.alloc Z283 (h := ?_)
   refine R.storeA A283 (h := ?_)
   refine .n0 ?_
   refine .seq ?_
   refine .region rfl ?_
   first | refine R.field F283_0 (h := ?_) | refine R.fieldAt F283_0 (h := ?_)
   first | refine R.loadB O5 (h := ?_) | refine R.load1 O5 (h := ?_)
   refine R.move (h := ?_)
   refine R.bin (run_eql _ _ _ _ _ _) (h := ?_)
   refine .n0 ?_
   first | refine LGo.ifd (ht := fun hc6 => ?_) (hf := fun hc6 => ?_) | refine LGo.ifb (ht := fun hc6 => ?_) (hf := fun hc6 => ?_)
   ·
    rw [show escL c = 116 from by unfold escL; rw [if_neg (q1 (by omega)), if_neg (q2 (by omega)), if_neg (q3 (by omega)), if_neg (q4 (by omega)), if_pos (by omega)]]
    refine .seq ?_
    refine .region rfl ?_
    first | refine R.field F283_1 (h := ?_) | refine R.fieldAt F283_1 (h := ?_)
    first | refine R.loadB O5 (h := ?_) | refine R.load1 O5 (h := ?_)
    refine R.assign (h := ?_)
    refine .n0 ?_
    exact LGo.ret (ret_T Tryz.results173 hA hmd)
   ·
    refine .skip ?_
    refine .inBlock ?_
    refine .region rfl ?_
    first | refine R.add (h := ?_) | refine R.addW (h := ?_)
    refine R.move (h := ?_)
    refine .n0 ?_
    refine .inLoop ?_
    exact LGo.next _ (fun o h => by have := (hA o).1 h; omega) (by omega) (ih 5 ⟨by omega, by omega, by omega, by omega, by omega, by omega⟩ (by omega)) (by repeat (first | exact trivial | refine ⟨rfl, ?_⟩)) (by repeat (first | exact trivial | refine ⟨rfl, ?_⟩))
 ·
  rw [show escL c = 0 from by unfold escL; rw [if_neg (q1 (by omega)), if_neg (q2 (by omega)), if_neg (q3 (by omega)), if_neg (q4 (by omega)), if_neg (q5 (by omega))]]
  refine .exit rfl ?_
  refine .seq ?_
  refine .region rfl ?_
  refine R.assign (h := ?_)
  refine .n0 ?_
  exact LGo.ret (ret_T Tryz.results173 hA hmd)
theorem hexT_at (c : UInt8) : hexT[c.toNat / 16]? = some (hexD (c.toNat / 16)) ∧ hexT[c.toNat % 16]? = some (hexD (c.toNat % 16)) := by
  have h := c.toNat_lt
  have h1 : c.toNat / 16 < hexT.length := by simp [hexT]; omega
  have h2 : c.toNat % 16 < hexT.length := by simp [hexT]; omega
  simp [hexD, List.getD, List.getElem?_eq_getElem h1, List.getElem?_eq_getElem h2]
theorem escaped_len (c : UInt8) : (escaped c).length ≤ 4 := by unfold escaped; repeat' split <;> simp
theorem flat_len4 : ∀ s : List UInt8, (s.flatMap escaped).length ≤ 4 * s.length
  | [] => by simp
  | c :: s => by have h1 := flat_len4 s; have h2 := escaped_len c; simp only [List.flatMap_cons, List.length_append, List.length_cons]; omega
theorem quote_len (s : List UInt8) : (quote s).length ≤ 4 * s.length + 2 := by have := flat_len4 s; simp only [quote, List.length_cons, List.length_append, List.length_nil]; omega
theorem take_flat {s : List UInt8} {k : Nat} (h : k < s.length) : (s.take (k + 1)).flatMap escaped = (s.take k).flatMap escaped ++ escaped s[k] := by
  rw [List.take_succ_eq_append_getElem h, List.flatMap_append]; simp
theorem and15 (c : UInt8) : IntKind.u8.wrap ((BitVec.ofInt IntKind.u8.bits (c.toNat : Int) &&& BitVec.ofInt IntKind.u8.bits 15).toNat) = ((c.toNat % 16 : Nat) : Int) :=
  u8_all (p := fun c => IntKind.u8.wrap ((BitVec.ofInt IntKind.u8.bits (c.toNat : Int) &&& BitVec.ofInt IntKind.u8.bits 15).toNat) = ((c.toNat % 16 : Nat) : Int)) (by decide +kernel) c
theorem quote_P (s : List UInt8) (hs : s.length ≤ 100000) : PC Tryz.prog 105 [.t s] (.t (quote s)) := by
 refine ⟨LC.of_go Tryz.func105 (c := _) rfl (by kernel_rfl) (by rw [Tryz.ntmps105]; simp) rfl rfl (by simp [LO.lt, LV.lts, LV.lt, lts_sv]) (by simp) ?_⟩
 intro B hA hmd
 refine .seq ?_
 refine .region rfl ?_
 refine R.assign (h := ?_)
 refine .n0 ?_
 refine .seq ?_
 refine .region rfl ?_
 refine R.move (h := ?_)
 refine R.lenT Tryz.runUnderlying9 (h := ?_)
 first | refine R.add (h := ?_) | refine R.addW (h := ?_)
 refine R.makeOwn AP44 (k := .u8) (by kernel_rfl) (h0 := Int.le_refl 0) (hlc := by omega) (hm := by omega) (h := ?_)
 rw [show ic .u8 (List.replicate (Int.toNat 0) 0) = bytesC [] from rfl]
 refine R.assign (h := ?_)
 refine .n0 ?_
 refine .seq ?_
 refine .region rfl ?_
 refine R.move (h := ?_)
 refine R.buildSliceG AP44 (xs := [_]) (es := [_]) (hcs := CellsOfs.cons (CellsOf.one rfl) CellsOfs.nil) (h := ?_)
 refine R.appendS AP44 (hs := SrcOk.sl Tryz.underlying44 (by simp)) (hlen := by rw [bytesC_length]; simp only [List.length_cons, List.length_nil]; omega) (h := ?_)
 refine R.assign (h := ?_)
 refine .n0 ?_
 refine .seq ?_
 refine .seq ?_
 refine .region rfl ?_
 refine R.move (h := ?_)
 refine R.lenT Tryz.runUnderlying9 (h := ?_)
 refine R.move (h := ?_)
 refine .n0 ?_
 refine .block ?_
 refine .loop ?_
 refine LGo.loopG (σ := Nat) (fun x => x ≤ s.length) (fun x => [(16, (true, .i (x : Nat))), (3, (true, .ref 1))]) (fun x => [(1, .rs 5 1 (bytesC (34 :: (s.take x).flatMap escaped)))]) (fun x => s.length - x) (0) [(0, _), (15, _)] (Nat.zero_le _) (by repeat (first | exact trivial | refine ⟨rfl, ?_⟩)) (by repeat (first | exact trivial | refine ⟨rfl, ?_⟩)) (by repeat (first | exact trivial | refine ⟨rfl, ?_⟩)) ?_
 rintro k hk ih
 refine .seq ?_
 refine .region rfl ?_
 refine R.bin (run_lss _ _ _ _ _ _) (h := ?_)
 refine .n0 ?_
 refine .seq ?_
 refine LGo.ifd (ht := fun hc => ?_) (hf := fun hc => ?_)
 ·
  have hlt : k < s.length := by omega
  have hx : s[((k : Nat) : Int).toNat]? = some s[k] := by rw [Int.toNat_natCast]; exact List.getElem?_eq_getElem hlt
  have htf := take_flat hlt
  have hfl := flat_len4 (s.take k)
  rw [List.length_take] at hfl
  generalize s[k] = c at hx htf
  have hcl := c.toNat_lt
  refine .skip ?_
  refine .seq ?_
  refine .block ?_
  refine .seq ?_
  refine .region rfl ?_
  refine R.move (h := ?_)
  refine R.assign (h := ?_)
  refine .n0 ?_
  refine .seq ?_
  refine .region rfl ?_
  refine R.move (h := ?_)
  refine R.move (h := ?_)
  refine R.indexT Tryz.runUnderlying9 (hj := fun hg => ⟨by omega, hx⟩) (h := ?_)
  refine R.assign (h := ?_)
  refine .n0 ?_
  refine .seq ?_
  refine .region rfl ?_
  refine R.move (h := ?_)
  refine R.callP (es := [_]) (fun _ => letterOf_P c) (h := ?_)
  refine R.assign (h := ?_)
  refine .n0 ?_
  refine .block ?_
  refine .seq ?_
  refine .region rfl ?_
  refine R.move (h := ?_)
  refine R.callP (es := [_]) (fun _ => isPlain_P c) (h := ?_)
  refine R.assign (h := ?_)
  refine .n0 ?_
  refine LGo.ifb (ht := fun hc2 => ?_) (hf := fun hc2 => ?_)
  ·
   have he : escaped c = [c] := by unfold escaped; rw [if_pos hc2]
   refine .region rfl ?_
   refine R.move (h := ?_)
   refine R.move (h := ?_)
   refine R.buildSliceG AP44 (xs := [_]) (es := [_]) (hcs := CellsOfs.cons (CellsOf.one rfl) CellsOfs.nil) (h := ?_)
   refine R.appendS AP44 (hs := SrcOk.sl Tryz.underlying44 (by simp)) (hlen := by rw [bytesC_length]; simp only [List.length_cons, List.length_nil]; omega) (h := ?_)
   refine R.assign (h := ?_)
   refine .n0 ?_
   refine .inBlock ?_
   refine .inBlock ?_
   refine .region rfl ?_
   first | refine R.add (h := ?_) | refine R.addW (h := ?_)
   refine R.move (h := ?_)
   refine .n0 ?_
   refine .inLoop ?_
   exact LGo.turn [0, 2] (b := 0) (fun o h => by have := (hA o).1 h; omega) (ih (k + 1) (by omega) (by omega)) (by repeat (first | exact trivial | refine ⟨rfl, ?_⟩)) ⟨by rw [htf, he, ← List.cons_append, bytesC_app]; rfl, trivial⟩
  ·
   refine .seq ?_
   refine .region rfl ?_
   refine R.move (h := ?_)
   refine R.bin (run_neq _ _ _ _ _ _) (h := ?_)
   refine R.assign (h := ?_)
   refine .n0 ?_
   refine LGo.ifb (ht := fun hc3 => ?_) (hf := fun hc3 => ?_)
   ·
    have he : escaped c = [92, escL c] := by
      unfold escaped
      rw [if_neg (by rw [hc2]; simp), if_pos (by intro h; rw [h] at hc3; simp at hc3)]
    refine .region rfl ?_
    refine R.move (h := ?_)
    refine R.move (h := ?_)
    refine R.buildSliceG AP44 (xs := [_, _]) (es := [_, _]) (hcs := CellsOfs.cons (CellsOf.one rfl) (CellsOfs.cons (CellsOf.one rfl) CellsOfs.nil)) (h := ?_)
    refine R.appendS AP44 (hs := SrcOk.sl Tryz.underlying44 (by simp)) (hlen := by rw [bytesC_length]; simp only [List.length_cons, List.length_nil]; omega) (h := ?_)
    refine R.assign (h := ?_)
    refine .n0 ?_
    refine .inBlock ?_
    refine .inBlock ?_
    refine .region rfl ?_
    first | refine R.add (h := ?_) | refine R.addW (h := ?_)
    refine R.move (h := ?_)
    refine .n0 ?_
    refine .inLoop ?_
    exact LGo.turn [0, 2] (b := 0) (fun o h => by have := (hA o).1 h; omega) (ih (k + 1) (by omega) (by omega)) (by repeat (first | exact trivial | refine ⟨rfl, ?_⟩)) ⟨by rw [htf, he, ← List.cons_append, bytesC_app]; rfl, trivial⟩
   ·
    have he : escaped c = [92, 120, hexD (c.toNat / 16), hexD (c.toNat % 16)] := by
      unfold escaped
      rw [if_neg (by rw [hc2]; simp), if_neg (by
        intro h; apply h
        have : ((escL c).toNat : Int) = 0 := by simpa using hc3
        exact UInt8.toNat_inj.1 (by rw [show (0 : UInt8).toNat = 0 from rfl]; omega))]
    refine .region rfl ?_
    refine R.move (h := ?_)
    refine R.move (h := ?_)
    refine R.shr (h := ?_)
    rw [show (c.toNat : Int) / 2 ^ (min (Int.toNat 4) IntKind.u8.bits) = ((c.toNat / 16 : Nat) : Int) from by rw [show min (Int.toNat 4) IntKind.u8.bits = 4 from rfl]; omega]
    refine R.indexT Tryz.runUnderlying9 (l := hexT) (c := hexD (c.toNat / 16)) (hj := fun _ => ⟨by omega, by rw [Int.toNat_natCast]; exact (hexT_at c).1⟩) (h := ?_)
    refine R.move (h := ?_)
    refine R.bin (run_andE _ _ _ .u8 _ 15 (and15 c)) (h := ?_)
    refine R.indexT Tryz.runUnderlying9 (l := hexT) (c := hexD (c.toNat % 16)) (hj := fun _ => ⟨by omega, by rw [Int.toNat_natCast]; exact (hexT_at c).2⟩) (h := ?_)
    refine R.buildSliceG AP44 (xs := [_, _, _, _]) (es := [_, _, _, _]) (hcs := CellsOfs.cons (CellsOf.one rfl) (CellsOfs.cons (CellsOf.one rfl) (CellsOfs.cons (CellsOf.one rfl) (CellsOfs.cons (CellsOf.one rfl) CellsOfs.nil)))) (h := ?_)
    refine R.appendS AP44 (hs := SrcOk.sl Tryz.underlying44 (by simp)) (hlen := by rw [bytesC_length]; simp only [List.length_cons, List.length_nil]; omega) (h := ?_)
    refine R.assign (h := ?_)
    refine Reg.nil ⟨fun _ => ⟨mixedO, by rfl, by rfl⟩, ?_⟩
    refine .inBlock ?_
    refine .inBlock ?_
    refine .region rfl ?_
    first | refine R.add (h := ?_) | refine R.addW (h := ?_)
    refine R.move (h := ?_)
    refine .n0 ?_
    refine .inLoop ?_
    exact LGo.turn [0, 2] (b := 0) (fun o h => by have := (hA o).1 h; omega) (ih (k + 1) (by omega) (by omega)) (by repeat (first | exact trivial | refine ⟨rfl, ?_⟩)) ⟨by rw [htf, he, ← List.cons_append, bytesC_app]; rfl, trivial⟩
 ·
  obtain rfl : k = s.length := by omega
  have hfl := flat_len4 s
  rw [List.take_length]
  refine .exit rfl ?_
  refine .seq ?_
  refine .region rfl ?_
  refine R.move (h := ?_)
  refine R.buildSliceF AP44 (bytesC [34]) (xs := [_]) (es := [_]) (hcs := CellsOfs.cons (CellsOf.one rfl) CellsOfs.nil) (h := ?_)
  refine R.appendF AP44 (hs := SrcOk.sl Tryz.underlying44 (bytesC_one _)) (hlen := by simp only [bytesC_length, List.length_cons, List.length_nil]; omega) (h := ?_)
  rw [← bytesC_app, show (34 :: s.flatMap escaped) ++ [34] = quote s from rfl]
  refine R.toString Tryz.underlying44 Tryz.underlying5 Tryz.underlying9 (h := ?_)
  refine R.assign (h := ?_)
  refine .n0 ?_
  exact LGo.ret (ret_T Tryz.results105 hA hmd)
/-- a gate: its sections, from when and until when it is open -/
structure GtG where
  secs : List Int
  fr : Int
  to : Int
  deriving DecidableEq
instance : Inhabited GtG := ⟨⟨[], 0, 0⟩⟩
/-- an entry -/
structure GtE where
  seat : Int
  serial : Int
  epoch : Int
  gate : Int
  time : Int
  deriving DecidableEq
instance : Inhabited GtE := ⟨⟨0, 0, 0, 0, 0⟩⟩
structure GtS where
  gates : List GtG
  ents : List GtE
  deriving DecidableEq
/-- a call -/
structure GtC where
  gate : Int
  seat : Int
  owner : Int
  serial : Int
  epoch : Int
  sec : Int
  now : Int
def GtG.c (g : GtG) : List SV := [.sl 1 (ic .i64 g.secs), .val (.int .i64 g.fr), .val (.int .i64 g.to)]
def GtE.c (x : GtE) : List SV := [.val (.int .u32 x.seat), .val (.int .u64 x.serial), .val (.int .u64 x.epoch), .val (.int .i64 x.gate), .val (.int .i64 x.time)]
def GtS.c (s : GtS) : List SV := [.sl 3 (s.gates.map GtG.c), .sl 5 (s.ents.map GtE.c)]
def GtC.c (x : GtC) : List SV := [.val (.int .i64 x.gate), .val (.int .u32 x.seat), .val (.int .u32 x.owner), .val (.int .u64 x.serial), .val (.int .u64 x.epoch), .val (.int .i64 x.sec), .val (.int .i64 x.now)]
def S64 (n : Int) : Prop := -9223372036854775808 ≤ n ∧ n ≤ 9223372036854775807
def U64 (n : Int) : Prop := 0 ≤ n ∧ n < 18446744073709551616
def U32 (n : Int) : Prop := 0 ≤ n ∧ n < 4294967296
def GtG.ok (g : GtG) : Prop := g.secs.length ≤ maxLen ∧ (∀ n ∈ g.secs, S64 n) ∧ S64 g.fr ∧ S64 g.to
def GtE.ok (x : GtE) : Prop := U32 x.seat ∧ U64 x.serial ∧ U64 x.epoch ∧ S64 x.gate ∧ S64 x.time
def GtS.ok (s : GtS) : Prop := s.gates.length ≤ maxLen ∧ (∀ g ∈ s.gates, g.ok) ∧ s.ents.length ≤ maxLen ∧ ∀ x ∈ s.ents, x.ok
def GtC.ok (x : GtC) : Prop := S64 x.gate ∧ U32 x.seat ∧ U32 x.owner ∧ U64 x.serial ∧ U64 x.epoch ∧ S64 x.sec ∧ S64 x.now
def GtS.zero : GtS := ⟨[], []⟩
def GtE.zero : GtE := ⟨0, 0, 0, 0, 0⟩
/-- sections ascend, below 8: the last of them -/
def goodGo : List Int → Int → Option Int
  | [], last => some last
  | n :: r, last => if (decide (n ≤ last) || decide (8 ≤ n)) = true then none else goodGo r n
def goodG (g : GtG) : Bool := match goodGo g.secs (-1) with
  | none => false
  | some last => (decide (0 ≤ last) && decide (0 ≤ g.fr)) && decide (g.fr < g.to)
def openI (g : GtG) (t : Int) : Int := if t < g.fr then -1 else if g.to ≤ t then 1 else 0
def checkG (l : List GtG) : Int := if 8 < (l.length : Int) then 3 else if (decide ((l.length : Int) = 0) || l.any fun g => !goodG g) = true then 6 else 0
abbrev K3 := Int × Int × Int
def GtE.key (x : GtE) : K3 := (x.seat, x.epoch, x.serial)
def GtC.key (x : GtC) : K3 := (x.seat, x.epoch, x.serial)
def K3.v (k : K3) : List Value := [.int .u64 k.1, .int .u64 k.2.1, .int .u64 k.2.2]
def cmpI (x y : Int) : Int := if x < y then -1 else if y < x then 1 else 0
def cmpK (a b : K3) : Int := if cmpI a.1 b.1 = 0 then (if cmpI a.2.1 b.2.1 = 0 then cmpI a.2.2 b.2.2 else cmpI a.2.1 b.2.1) else cmpI a.1 b.1
/-- what is wrong with an entry behind another one -/
def badE (gs : List GtG) (p : Option GtE) (x : GtE) : Bool :=
  ((decide (x.gate < 0) || decide ((gs.length : Int) ≤ x.gate)) || !decide (openI (gs.getD x.gate.toNat default) x.time = 0)) || (match p with | none => false | some y => decide (0 ≤ cmpK y.key x.key))
def badGo (gs : List GtG) : Option GtE → List GtE → Bool
  | _, [] => false
  | p, x :: r => badE gs p x || badGo gs (some x) r
def checkGS (s : GtS) : Int := if checkG s.gates ≠ 0 then checkG s.gates else if 500 < (s.ents.length : Int) then 3 else if badGo s.gates none s.ents = true then 6 else 0
def newS (l : List GtG) : GtS × Int := if checkG l ≠ 0 then (GtS.zero, checkG l) else (⟨l, []⟩, 0)
def finG (x : GtG) : Option Int → Bool
  | none => false
  | some last => (decide (0 ≤ last) && decide (0 ≤ x.fr)) && decide (x.fr < x.to)
theorem goodG_fin (x : GtG) : goodG x = finG x (goodGo x.secs (-1)) := by unfold goodG finG; cases goodGo x.secs (-1) <;> rfl
theorem icA {l : List Int} {j : Nat} (h : j < l.length) : (ic .i64 l)[((j : Nat) : Int).toNat]? = some [.val (.int .i64 l[j])] := by
  rw [Int.toNat_natCast]; exact ic_get (List.getElem?_eq_getElem h)
theorem good_P (z : GtG) (hz : z.secs.length ≤ 100000) : PC Tryz.prog 182 [.agg (z.c.map LV.sv)] (.b (goodG z)) := by
 refine ⟨LC.of_go Tryz.func182 (c := _) rfl (by kernel_rfl) (by rw [Tryz.ntmps182]; simp) rfl rfl (by simp [LO.lt, LV.lts, LV.lt, lts_sv]) (by simp) ?_⟩
 intro B hA hmd
 obtain ⟨g, e0⟩ : ∃ g, goodG z = g := ⟨_, rfl⟩
 have e1 := e0
 rw [goodG_fin] at e1
 rw [e0]
 refine .seq ?_
 refine .region rfl ?_
 refine R.box (h := ?_)
 refine R.assign (h := ?_)
 refine .n0 ?_
 refine .seq ?_
 refine .region rfl ?_
 refine R.assign (h := ?_)
 refine .n0 ?_
 refine .seq ?_
 refine .seq ?_
 refine .region rfl ?_
 first | refine R.field F71_0 (h := ?_) | refine R.fieldAt F71_0 (h := ?_)
 first | refine R.loadB O65 (h := ?_) | refine R.load1 O65 (h := ?_)
 first | refine R.len S65 (h := ?_) | refine R.lenRs S65 (h := ?_) | refine R.lenV (run_lenNil S65) (h := ?_)
 rw [ic_len]
 refine R.move (h := ?_)
 refine .n0 ?_
 refine .block ?_
 refine .loop ?_
 refine LGo.loopG (σ := Nat × Int) (fun x => x.1 ≤ z.secs.length ∧ finG z (goodGo (z.secs.drop x.1) x.2) = g) (fun x => [(9, (true, .i (x.1 : Nat))), (3, (true, .i x.2))]) (fun x => [(0, .box 71 (z.c.map LV.sv))]) (fun x => z.secs.length - x.1) (0, -1) [(1, _), (7, _), (8, _)] ⟨Nat.zero_le _, e1⟩ (by repeat (first | exact trivial | refine ⟨rfl, ?_⟩)) (by repeat (first | exact trivial | refine ⟨rfl, ?_⟩)) (by repeat (first | exact trivial | refine ⟨rfl, ?_⟩)) ?_
 rintro ⟨k, last⟩ ⟨hk, hq⟩ ih
 dsimp only at * 
 refine .seq ?_
 refine .region rfl ?_
 refine R.bin (run_lss _ _ _ _ _ _) (h := ?_)
 refine .n0 ?_
 refine .seq ?_
 refine LGo.ifd (ht := fun hc => ?_) (hf := fun hc => ?_)
 ·
  have hlt : k < z.secs.length := by omega
  have hx := icA hlt
  have hd : z.secs.drop k = z.secs[k] :: z.secs.drop (k + 1) := List.drop_eq_getElem_cons hlt
  rw [hd, goodGo] at hq
  generalize z.secs[k] = n at hx hq
  clear hd
  refine .skip ?_
  refine .seq ?_
  refine .block ?_
  refine .seq ?_
  refine .region rfl ?_
  refine R.index I65 (hj := fun hg => ⟨by omega, hx⟩) (h := ?_)
  first | refine R.loadB O3 (h := ?_) | refine R.load1 O3 (h := ?_)
  refine R.assign (h := ?_)
  refine .n0 ?_
  refine .seq ?_
  refine .seq ?_
  refine .region rfl ?_
  refine R.move (h := ?_)
  refine R.move (h := ?_)
  refine R.bin (run_leq _ _ _ _ _ _) (h := ?_)
  refine R.move (h := ?_)
  refine R.move (h := ?_)
  refine R.bin (run_geq _ _ _ _ _ _) (h := ?_)
  refine R.or (h := ?_)
  refine .n0 ?_
  refine LGo.ifb (ht := fun hc2 => ?_) (hf := fun hc2 => ?_)
  ·
   rw [if_pos hc2] at hq
   rw [← hq]
   refine .seq ?_
   refine .region rfl ?_
   refine R.assign (h := ?_)
   refine .n0 ?_
   exact LGo.ret (ret_T Tryz.results182 hA hmd)
  ·
   rw [if_neg (by rw [hc2]; simp)] at hq
   refine .skip ?_
   refine .region rfl ?_
   refine R.move (h := ?_)
   refine R.assign (h := ?_)
   refine .n0 ?_
   refine .inBlock ?_
   refine .region rfl ?_
   first | refine R.add (h := ?_) | refine R.addW (h := ?_)
   refine R.move (h := ?_)
   refine .n0 ?_
   refine .inLoop ?_
   exact LGo.next _ (fun o h => by have := (hA o).1 h; omega) (by omega) (ih (k + 1, n) ⟨by omega, hq⟩ (by omega)) (by repeat (first | exact trivial | refine ⟨rfl, ?_⟩)) ⟨rfl, trivial⟩
 ·
  rw [List.drop_eq_nil_of_le (show z.secs.length ≤ k by omega), goodGo] at hq
  rw [← hq]
  refine .exit rfl ?_
  refine .seq ?_
  refine .region rfl ?_
  refine R.move (h := ?_)
  refine R.bin (run_geq _ _ _ _ _ _) (h := ?_)
  refine R.move (h := ?_)
  first | refine R.field F71_1 (h := ?_) | refine R.fieldAt F71_1 (h := ?_)
  first | refine R.loadB O2 (h := ?_) | refine R.load1 O2 (h := ?_)
  refine R.bin (run_geq _ _ _ _ _ _) (h := ?_)
  refine R.and (h := ?_)
  refine R.move (h := ?_)
  first | refine R.field F71_1 (h := ?_) | refine R.fieldAt F71_1 (h := ?_)
  first | refine R.loadB O2 (h := ?_) | refine R.load1 O2 (h := ?_)
  first | refine R.field F71_2 (h := ?_) | refine R.fieldAt F71_2 (h := ?_)
  first | refine R.loadB O2 (h := ?_) | refine R.load1 O2 (h := ?_)
  refine R.bin (run_lss _ _ _ _ _ _) (h := ?_)
  refine R.and (h := ?_)
  refine R.assign (h := ?_)
  refine .n0 ?_
  exact LGo.ret (ret_T Tryz.results182 hA hmd)
theorem open_P (x : GtG) (t : Int) : PC Tryz.prog 184 [.agg (x.c.map LV.sv), .i t] (.i (openI x t)) := by
 refine ⟨LC.of_go Tryz.func184 (c := _) rfl (by kernel_rfl) (by rw [Tryz.ntmps184]; simp) rfl rfl (by simp [LO.lt, LV.lts, LV.lt, lts_sv]) (by simp) ?_⟩
 intro B hA hmd
 obtain ⟨g, e0⟩ : ∃ g, openI x t = g := ⟨_, rfl⟩
 have e1 := e0
 unfold openI at e1
 rw [e0]
 refine .seq ?_
 refine .region rfl ?_
 refine R.box (h := ?_)
 refine R.assign (h := ?_)
 refine .n0 ?_
 refine .seq ?_
 refine .block ?_
 refine .seq ?_
 refine .region rfl ?_
 refine R.move (h := ?_)
 first | refine R.field F71_1 (h := ?_) | refine R.fieldAt F71_1 (h := ?_)
 first | refine R.loadB O2 (h := ?_) | refine R.load1 O2 (h := ?_)
 refine R.bin (run_lss _ _ _ _ _ _) (h := ?_)
 refine R.assign (h := ?_)
 refine .n0 ?_
 refine LGo.ifd (ht := fun hc => ?_) (hf := fun hc => ?_)
 ·
  rw [if_pos hc] at e1
  refine .seq ?_
  refine .region rfl ?_
  refine R.assign (h := ?_)
  refine .n0 ?_
  rw [← e1]
  exact LGo.ret (ret_T Tryz.results184 hA hmd)
 ·
  rw [if_neg hc] at e1
  refine .seq ?_
  refine .region rfl ?_
  refine R.move (h := ?_)
  first | refine R.field F71_2 (h := ?_) | refine R.fieldAt F71_2 (h := ?_)
  first | refine R.loadB O2 (h := ?_) | refine R.load1 O2 (h := ?_)
  refine R.bin (run_geq _ _ _ _ _ _) (h := ?_)
  refine R.assign (h := ?_)
  refine .n0 ?_
  refine LGo.ifd (ht := fun hc2 => ?_) (hf := fun hc2 => ?_)
  ·
   rw [if_pos hc2] at e1
   refine .seq ?_
   refine .region rfl ?_
   refine R.assign (h := ?_)
   refine .n0 ?_
   rw [← e1]
   exact LGo.ret (ret_T Tryz.results184 hA hmd)
  ·
   rw [if_neg hc2] at e1
   refine .skip ?_
   refine .inBlock ?_
   refine .seq ?_
   refine .region rfl ?_
   refine R.assign (h := ?_)
   refine .n0 ?_
   rw [← e1]
   exact LGo.ret (ret_T Tryz.results184 hA hmd)
theorem notGood_P (x : GtG) (hx0 : x.secs.length ≤ 100000) : PC Tryz.prog 181 [.agg (x.c.map LV.sv)] (.b (!goodG x)) := by
 refine ⟨LC.of_go Tryz.func181 (c := _) rfl (by kernel_rfl) (by rw [Tryz.ntmps181]; simp) rfl rfl (by simp [LO.lt, LV.lts, LV.lt, lts_sv]) (by simp) ?_⟩
 intro B hA hmd
 refine .seq ?_
 refine .region rfl ?_
 refine R.box (h := ?_)
 refine R.assign (h := ?_)
 refine .n0 ?_
 refine .seq ?_
 refine .region rfl ?_
 first | refine R.loadA A71 (h := ?_) | refine R.loadN A71 (h := ?_) | refine R.loadP A71 (h := ?_)
 refine R.callP (es := [_]) (fun _ => good_P x hx0) (h := ?_)
 refine R.not (h := ?_)
 refine R.assign (h := ?_)
 refine .n0 ?_
 exact LGo.ret (ret_T Tryz.results181 hA hmd)
/-- the place of the first element that p takes; -1: none -/
def idxP {α : Type} (p : α → Bool) : Nat → List α → Int
  | _, [] => -1
  | k, x :: xs => if p x = true then (k : Int) else idxP p (k + 1) xs
theorem idxP_any {α : Type} (p : α → Bool) : ∀ (xs : List α) (k : Nat), decide (0 ≤ idxP p k xs) = xs.any p
  | [], k => rfl
  | x :: xs, k => by
    rw [idxP, List.any_cons]
    cases h : p x
    · simpa using idxP_any p xs (k + 1)
    · simp
theorem idxGood_P (l : List GtG) (hl : l.length ≤ 100000) (hs : ∀ g ∈ l, g.secs.length ≤ 100000) : PC Tryz.prog 231 [.sv (.sl 3 (l.map GtG.c)), .fn (.func 181) [] []] (.i (idxP (fun x => !goodG x) 0 l)) := by
 refine ⟨LC.of_go Tryz.func231 (c := _) rfl (by kernel_rfl) (by rw [Tryz.ntmps231]; simp) rfl rfl (by simp [LO.lt, LV.lts, LV.lt, lts_sv]) (by simp) ?_⟩
 intro B hA hmd
 obtain ⟨g, e1⟩ : ∃ g, idxP (fun x => !goodG x) 0 l = g := ⟨_, rfl⟩
 rw [e1]
 refine .seq ?_
 refine .region rfl ?_
 refine R.assign (h := ?_)
 refine .n0 ?_
 refine .seq ?_
 refine .seq ?_
 refine .region rfl ?_
 refine R.move (h := ?_)
 first | refine R.len S25 (h := ?_) | refine R.lenRs S25 (h := ?_) | refine R.lenV (run_lenNil S25) (h := ?_)
 rw [List.length_map]
 refine R.move (h := ?_)
 refine .n0 ?_
 refine .block ?_
 refine .loop ?_
 refine LGo.loopG (σ := Nat) (fun x => x ≤ l.length ∧ idxP (fun x => !goodG x) x (l.drop x) = g) (fun x => [(8, (true, .i (x : Nat)))]) (fun x => []) (fun x => l.length - x) (0) [(0, _), (1, _), (7, _)] ⟨Nat.zero_le _, e1⟩ (by repeat (first | exact trivial | refine ⟨rfl, ?_⟩)) (by repeat (first | exact trivial | refine ⟨rfl, ?_⟩)) (by repeat (first | exact trivial | refine ⟨rfl, ?_⟩)) ?_
 rintro k ⟨hk, hq⟩ ih
 refine .seq ?_
 refine .region rfl ?_
 refine R.bin (run_lss _ _ _ _ _ _) (h := ?_)
 refine .n0 ?_
 refine .seq ?_
 refine LGo.ifd (ht := fun hc => ?_) (hf := fun hc => ?_)
 ·
  have hlt : k < l.length := by omega
  have hx : (l.map GtG.c)[((k : Nat) : Int).toNat]? = some l[k].c := by simp [hlt]
  have hd : l.drop k = l[k] :: l.drop (k + 1) := List.drop_eq_getElem_cons hlt
  rw [hd, idxP] at hq
  have hx0 := hs l[k] (List.getElem_mem hlt)
  generalize l[k] = x at hx hq hx0
  clear hd
  refine .skip ?_
  refine .seq ?_
  refine .block ?_
  refine .seq ?_
  refine .region rfl ?_
  refine R.move (h := ?_)
  refine R.assign (h := ?_)
  refine .n0 ?_
  refine .seq ?_
  refine .region rfl ?_
  refine R.move (h := ?_)
  refine R.move (h := ?_)
  refine R.move (h := ?_)
  refine R.index I25 (hj := fun hg => ⟨by omega, hx⟩) (h := ?_)
  first | refine R.loadA A71 (h := ?_) | refine R.loadN A71 (h := ?_) | refine R.loadP A71 (h := ?_)
  refine R.callRd (m := 0) (avs := [_]) (es := [_]) (first := []) (cap := []) (notGood_P x hx0).lc (hL := noHo) (h := ?_)
  refine .n0 ?_
  refine LGo.ifb (ht := fun hc2 => ?_) (hf := fun hc2 => ?_)
  ·
   rw [if_pos hc2] at hq
   rw [← hq]
   refine .seq ?_
   refine .region rfl ?_
   refine R.move (h := ?_)
   refine R.assign (h := ?_)
   refine .n0 ?_
   exact LGo.ret (ret_T Tryz.results231 hA hmd)
  ·
   rw [if_neg (by rw [hc2]; simp)] at hq
   refine .skip ?_
   refine .inBlock ?_
   refine .region rfl ?_
   first | refine R.add (h := ?_) | refine R.addW (h := ?_)
   refine R.move (h := ?_)
   refine .n0 ?_
   refine .inLoop ?_
   exact LGo.next _ (fun o h => by have := (hA o).1 h; omega) (by omega) (ih (k + 1) ⟨by omega, hq⟩ (by omega)) (by repeat (first | exact trivial | refine ⟨rfl, ?_⟩)) (by repeat (first | exact trivial | refine ⟨rfl, ?_⟩))
 ·
  rw [List.drop_eq_nil_of_le (show l.length ≤ k by omega), idxP] at hq
  rw [← hq]
  refine .exit rfl ?_
  refine .seq ?_
  refine .region rfl ?_
  refine R.assign (h := ?_)
  refine .n0 ?_
  exact LGo.ret (ret_T Tryz.results231 hA hmd)
theorem hasBad_P (l : List GtG) (hl : l.length ≤ 100000) (hs : ∀ g ∈ l, g.secs.length ≤ 100000) : PC Tryz.prog 180 [.sv (.sl 3 (l.map GtG.c)), .fn (.func 181) [] []] (.b (l.any fun x => !goodG x)) := by
 refine ⟨LC.of_go Tryz.func180 (c := _) rfl (by kernel_rfl) (by rw [Tryz.ntmps180]; simp) rfl rfl (by simp [LO.lt, LV.lts, LV.lt, lts_sv]) (by simp) ?_⟩
 intro B hA hmd
 refine .seq ?_
 refine .region rfl ?_
 refine R.assign (h := ?_)
 refine .n0 ?_
 refine .seq ?_
 refine .region rfl ?_
 refine R.move (h := ?_)
 refine R.move (h := ?_)
 refine R.callP (es := [_, _]) (fun _ => idxGood_P l hl hs) (h := ?_)
 refine R.bin (run_geq _ _ _ _ _ _) (h := ?_)
 rw [idxP_any]
 refine R.assign (h := ?_)
 refine .n0 ?_
 exact LGo.ret (ret_T Tryz.results180 hA hmd)
theorem checkG_P (l : List GtG) (hl : l.length ≤ 100000) (hs : ∀ g ∈ l, g.secs.length ≤ 100000) : PC Tryz.prog 111 [.sv (.sl 3 (l.map GtG.c))] (.i (checkG l)) := by
 refine ⟨LC.of_go Tryz.func111 (c := _) rfl (by kernel_rfl) (by rw [Tryz.ntmps111]; simp) rfl rfl (by simp [LO.lt, LV.lts, LV.lt, lts_sv]) (by simp) ?_⟩
 intro B hA hmd
 obtain ⟨g, e0⟩ : ∃ g, checkG l = g := ⟨_, rfl⟩
 have e1 := e0
 unfold checkG at e1
 rw [e0]
 refine .seq ?_
 refine .region rfl ?_
 refine R.assign (h := ?_)
 refine .n0 ?_
 refine .seq ?_
 refine .block ?_
 refine .seq ?_
 refine .region rfl ?_
 refine R.move (h := ?_)
 first | refine R.len S25 (h := ?_) | refine R.lenRs S25 (h := ?_) | refine R.lenV (run_lenNil S25) (h := ?_)
 rw [List.length_map]
 refine R.bin (run_gtr _ _ _ _ _ _) (h := ?_)
 refine R.assign (h := ?_)
 refine .n0 ?_
 refine LGo.ifd (ht := fun hc => ?_) (hf := fun hc => ?_)
 ·
  rw [if_pos hc] at e1
  refine .seq ?_
  refine .region rfl ?_
  refine R.assign (h := ?_)
  refine .n0 ?_
  rw [← e1]
  exact LGo.ret (ret_T Tryz.results111 hA hmd)
 ·
  rw [if_neg hc] at e1
  refine .seq ?_
  refine .region rfl ?_
  refine R.move (h := ?_)
  first | refine R.len S25 (h := ?_) | refine R.lenRs S25 (h := ?_) | refine R.lenV (run_lenNil S25) (h := ?_)
  rw [List.length_map]
  refine R.bin (run_eql _ _ _ _ _ _) (h := ?_)
  refine R.move (h := ?_)
  refine R.move (h := ?_)
  refine R.callP (es := [_, _]) (fun _ => hasBad_P l (by omega) hs) (h := ?_)
  refine R.or (h := ?_)
  refine R.assign (h := ?_)
  refine .n0 ?_
  refine LGo.ifb (ht := fun hc2 => ?_) (hf := fun hc2 => ?_)
  ·
   rw [if_pos hc2] at e1
   refine .seq ?_
   refine .region rfl ?_
   refine R.assign (h := ?_)
   refine .n0 ?_
   rw [← e1]
   exact LGo.ret (ret_T Tryz.results111 hA hmd)
  ·
   rw [if_neg (by rw [hc2]; simp)] at e1
   refine .skip ?_
   refine .inBlock ?_
   refine .seq ?_
   refine .region rfl ?_
   refine R.assign (h := ?_)
   refine .n0 ?_
   rw [← e1]
   exact LGo.ret (ret_T Tryz.results111 hA hmd)
theorem icA' {q : IntKind} {l : List Int} {j : Nat} (h : j < l.length) : (ic q l)[((j : Nat) : Int).toNat]? = some [.val (.int q l[j])] := by
  rw [Int.toNat_natCast]; exact ic_get (List.getElem?_eq_getElem h)
def cmpL : List Int → List Int → Int
  | [], [] => 0
  | [], _ :: _ => -1
  | _ :: _, [] => 1
  | a :: l, b :: m => if cmpI a b = 0 then cmpL l m else cmpI a b
theorem cmpL_K (a b : K3) : cmpL [a.1, a.2.1, a.2.2] [b.1, b.2.1, b.2.2] = cmpK a b := by
  unfold cmpK
  simp only [cmpL]
  split
  · split
    · split
      · rename_i h; exact h.symm
      · rfl
    · rfl
  · rfl
theorem isNaN_P (n : Int) : PC Tryz.prog 289 [.u n] (.b false) := by
 refine ⟨LC.of_go Tryz.func289 (c := _) rfl (by kernel_rfl) (by rw [Tryz.ntmps289]; simp) rfl rfl (by simp [LO.lt, LV.lts, LV.lt, lts_sv]) (by simp) ?_⟩
 intro B hA hmd
 refine .seq ?_
 refine .region rfl ?_
 refine R.assign (h := ?_)
 refine .n0 ?_
 refine .seq ?_
 refine .region rfl ?_
 refine R.move (h := ?_)
 refine R.move (h := ?_)
 refine R.bin (run_neq _ _ _ _ _ _) (h := ?_)
 refine R.assign (h := ?_)
 refine .n0 ?_
 refine LGo.eqB 2 false (hb := by simp) (h := ?_)
 exact LGo.ret (ret_T Tryz.results289 hA hmd)
theorem cmpI_P (a b : Int) : PC Tryz.prog 265 [.u a, .u b] (.i (cmpI a b)) := by
 refine ⟨LC.of_go Tryz.func265 (c := _) rfl (by kernel_rfl) (by rw [Tryz.ntmps265]; simp) rfl rfl (by simp [LO.lt, LV.lts, LV.lt, lts_sv]) (by simp) ?_⟩
 intro B hA hmd
 obtain ⟨g, e0⟩ : ∃ g, cmpI a b = g := ⟨_, rfl⟩
 have e1 := e0
 unfold cmpI at e1
 rw [e0]
 refine .seq ?_
 refine .region rfl ?_
 refine R.assign (h := ?_)
 refine .n0 ?_
 refine .seq ?_
 refine .region rfl ?_
 refine R.move (h := ?_)
 refine R.callP (es := [_]) (fun _ => isNaN_P _) (h := ?_)
 refine R.assign (h := ?_)
 refine .n0 ?_
 refine .seq ?_
 refine .region rfl ?_
 refine R.move (h := ?_)
 refine R.callP (es := [_]) (fun _ => isNaN_P _) (h := ?_)
 refine R.assign (h := ?_)
 refine .n0 ?_
 refine .seq ?_
 refine .seq ?_
 refine .region rfl ?_
 refine R.move (h := ?_)
 refine .n0 ?_
 refine LGo.ifb (ht := fun hc => by simp at hc) (hf := fun hc => ?_)
 refine .skip ?_
 refine .seq ?_
 refine .seq ?_
 refine .region rfl ?_
 refine R.move (h := ?_)
 refine .n0 ?_
 refine LGo.ifb (ht := fun hc2 => by simp at hc2) (hf := fun hc2 => ?_)
 refine .skip ?_
 refine .seq ?_
 refine .seq ?_
 refine .region rfl ?_
 refine R.move (h := ?_)
 refine R.move (h := ?_)
 refine R.bin (run_lss _ _ _ _ _ _) (h := ?_)
 refine .n0 ?_
 refine LGo.ifd (ht := fun hc3 => ?_) (hf := fun hc3 => ?_)
 ·
  rw [if_pos hc3] at e1
  refine .seq ?_
  refine .region rfl ?_
  refine R.assign (h := ?_)
  refine .n0 ?_
  rw [← e1]
  exact LGo.ret (ret_T Tryz.results265 hA hmd)
 ·
  rw [if_neg hc3] at e1
  refine .skip ?_
  refine .seq ?_
  refine .seq ?_
  refine .region rfl ?_
  refine R.move (h := ?_)
  refine R.move (h := ?_)
  refine R.bin (run_gtr _ _ _ _ _ _) (h := ?_)
  refine .n0 ?_
  refine LGo.ifd (ht := fun hc4 => ?_) (hf := fun hc4 => ?_)
  ·
   rw [if_pos hc4] at e1
   refine .seq ?_
   refine .region rfl ?_
   refine R.assign (h := ?_)
   refine .n0 ?_
   rw [← e1]
   exact LGo.ret (ret_T Tryz.results265 hA hmd)
  ·
   rw [if_neg hc4] at e1
   refine .skip ?_
   refine .seq ?_
   refine .region rfl ?_
   refine R.assign (h := ?_)
   refine .n0 ?_
   rw [← e1]
   exact LGo.ret (ret_T Tryz.results265 hA hmd)
theorem cmpL_P (l m : List Int) (hl : l.length ≤ 1000) (hm : m.length ≤ 1000) : PC Tryz.prog 232 [.sv (.sl 1 (ic .u64 l)), .sv (.sl 1 (ic .u64 m))] (.i (cmpL l m)) := by
 refine ⟨LC.of_go Tryz.func232 (c := _) rfl (by kernel_rfl) (by rw [Tryz.ntmps232]; simp) rfl rfl (by simp [LO.lt, LV.lts, LV.lt, lts_sv]) (by simp) ?_⟩
 intro B hA hmd
 obtain ⟨g, e1⟩ : ∃ g, cmpL l m = g := ⟨_, rfl⟩
 rw [e1]
 refine .seq ?_
 refine .region rfl ?_
 refine R.assign (h := ?_)
 refine .n0 ?_
 refine .seq ?_
 refine .seq ?_
 refine .region rfl ?_
 refine R.move (h := ?_)
 first | refine R.len S182 (h := ?_) | refine R.lenRs S182 (h := ?_) | refine R.lenV (run_lenNil S182) (h := ?_)
 rw [ic_len]
 refine R.move (h := ?_)
 refine .n0 ?_
 refine .block ?_
 refine .loop ?_
 refine LGo.loopG (σ := Nat) (fun x => x ≤ l.length ∧ x ≤ m.length ∧ cmpL (l.drop x) (m.drop x) = g) (fun x => [(11, (true, .i (x : Nat)))]) (fun x => []) (fun x => l.length - x) (0) [(0, _), (1, _), (9, _), (10, _)] ⟨Nat.zero_le _, Nat.zero_le _, e1⟩ (by repeat (first | exact trivial | refine ⟨rfl, ?_⟩)) (by repeat (first | exact trivial | refine ⟨rfl, ?_⟩)) (by repeat (first | exact trivial | refine ⟨rfl, ?_⟩)) ?_
 rintro k ⟨hk, hkm, hq⟩ ih
 refine .seq ?_
 refine .region rfl ?_
 refine R.bin (run_lss _ _ _ _ _ _) (h := ?_)
 refine .n0 ?_
 refine .seq ?_
 refine LGo.ifd (ht := fun hc => ?_) (hf := fun hc => ?_)
 ·
  have hlt : k < l.length := by omega
  have hx := icA' (q := .u64) hlt
  have hd : l.drop k = l[k] :: l.drop (k + 1) := List.drop_eq_getElem_cons hlt
  rw [hd] at hq
  generalize l[k] = p at hx hq
  clear hd
  refine .skip ?_
  refine .seq ?_
  refine .block ?_
  refine .seq ?_
  refine .region rfl ?_
  refine R.move (h := ?_)
  refine R.index I182 (hj := fun hg => ⟨by omega, hx⟩) (h := ?_)
  first | refine R.loadB O41 (h := ?_) | refine R.load1 O41 (h := ?_)
  refine R.assign (h := ?_)
  refine R.assign (h := ?_)
  refine .n0 ?_
  refine .seq ?_
  refine .seq ?_
  refine .region rfl ?_
  refine R.move (h := ?_)
  refine R.move (h := ?_)
  first | refine R.len S182 (h := ?_) | refine R.lenRs S182 (h := ?_) | refine R.lenV (run_lenNil S182) (h := ?_)
  rw [ic_len]
  refine R.bin (run_geq _ _ _ _ _ _) (h := ?_)
  refine .n0 ?_
  refine LGo.ifd (ht := fun hc2 => ?_) (hf := fun hc2 => ?_)
  ·
   rw [List.drop_eq_nil_of_le (show m.length ≤ k by omega), cmpL] at hq
   rw [← hq]
   refine .seq ?_
   refine .region rfl ?_
   refine R.assign (h := ?_)
   refine .n0 ?_
   exact LGo.ret (ret_T Tryz.results232 hA hmd)
  ·
   have hlt2 : k < m.length := by omega
   have hy := icA' (q := .u64) hlt2
   have hd : m.drop k = m[k] :: m.drop (k + 1) := List.drop_eq_getElem_cons hlt2
   rw [hd, cmpL] at hq
   generalize m[k] = q at hy hq
   clear hd
   refine .skip ?_
   refine .seq ?_
   refine .region rfl ?_
   refine R.move (h := ?_)
   refine R.move (h := ?_)
   refine R.index I182 (hj := fun hg => ⟨by omega, hy⟩) (h := ?_)
   first | refine R.loadB O41 (h := ?_) | refine R.load1 O41 (h := ?_)
   refine R.assign (h := ?_)
   refine .n0 ?_
   refine .seq ?_
   refine .region rfl ?_
   refine R.move (h := ?_)
   refine R.move (h := ?_)
   refine R.callP (es := [_, _]) (fun _ => cmpI_P p q) (h := ?_)
   refine R.assign (h := ?_)
   refine .n0 ?_
   refine .seq ?_
   refine .region rfl ?_
   refine R.move (h := ?_)
   refine R.bin (run_neq _ _ _ _ _ _) (h := ?_)
   refine .n0 ?_
   refine LGo.ifb (ht := fun hc3 => ?_) (hf := fun hc3 => ?_)
   ·
    rw [if_neg (by simpa using hc3)] at hq
    rw [← hq]
    refine .seq ?_
    refine .region rfl ?_
    refine R.move (h := ?_)
    refine R.assign (h := ?_)
    refine .n0 ?_
    exact LGo.ret (ret_T Tryz.results232 hA hmd)
   ·
    rw [if_pos (by simpa using hc3)] at hq
    refine .skip ?_
    refine .inBlock ?_
    refine .region rfl ?_
    first | refine R.add (h := ?_) | refine R.addW (h := ?_)
    refine R.move (h := ?_)
    refine .n0 ?_
    refine .inLoop ?_
    exact LGo.next _ (fun o h => by have := (hA o).1 h; omega) (by omega) (ih (k + 1) ⟨by omega, by omega, hq⟩ (by omega)) (by repeat (first | exact trivial | refine ⟨rfl, ?_⟩)) (by repeat (first | exact trivial | refine ⟨rfl, ?_⟩))
 ·
  rw [List.drop_eq_nil_of_le (show l.length ≤ k by omega)] at hq
  refine .exit rfl ?_
  refine .seq ?_
  refine .seq ?_
  refine .region rfl ?_
  refine R.move (h := ?_)
  first | refine R.len S182 (h := ?_) | refine R.lenRs S182 (h := ?_) | refine R.lenV (run_lenNil S182) (h := ?_)
  rw [ic_len]
  refine R.move (h := ?_)
  first | refine R.len S182 (h := ?_) | refine R.lenRs S182 (h := ?_) | refine R.lenV (run_lenNil S182) (h := ?_)
  rw [ic_len]
  refine R.bin (run_lss _ _ _ _ _ _) (h := ?_)
  refine .n0 ?_
  refine LGo.ifd (ht := fun hc4 => ?_) (hf := fun hc4 => ?_)
  ·
   have hd : m.drop k = m[k] :: m.drop (k + 1) := List.drop_eq_getElem_cons (by omega)
   rw [hd, cmpL] at hq
   rw [← hq]
   refine .seq ?_
   refine .region rfl ?_
   refine R.assign (h := ?_)
   refine .n0 ?_
   exact LGo.ret (ret_T Tryz.results232 hA hmd)
  ·
   rw [List.drop_eq_nil_of_le (show m.length ≤ k by omega), cmpL] at hq
   rw [← hq]
   refine .skip ?_
   refine .seq ?_
   refine .region rfl ?_
   refine R.assign (h := ?_)
   refine .n0 ?_
   exact LGo.ret (ret_T Tryz.results232 hA hmd)
theorem cmpK_P' (a b : K3) : PC Tryz.prog 232 [.sv (.sl 1 (ic .u64 [a.1, a.2.1, a.2.2])), .sv (.sl 1 (ic .u64 [b.1, b.2.1, b.2.2]))] (.i (cmpK a b)) := by
  rw [← cmpL_K]
  exact cmpL_P _ _ (by simp) (by simp)
theorem keyOf_P (x : GtE) (hx0 : U32 x.seat) : PC Tryz.prog 115 [.agg (x.c.map LV.sv)] (.agg ((K3.v x.key).map LV.v)) := by
 refine ⟨LC.of_go Tryz.func115 (c := _) rfl (by kernel_rfl) (by rw [Tryz.ntmps115]; simp) rfl rfl (by simp [LO.lt, LV.lts, LV.lt, lts_sv]) (by simp) ?_⟩
 intro B hA hmd
 refine .seq ?_
 refine .region rfl ?_
 refine R.box (h := ?_)
 refine R.alloc Z180 (h := ?_)
 refine .n0 ?_
 refine .seq ?_
 refine .region rfl ?_
 first | refine R.field F178_0 (h := ?_) | refine R.fieldAt F178_0 (h := ?_)
 first | refine R.loadB O38 (h := ?_) | refine R.load1 O38 (h := ?_)
 unfold U32 at hx0
 refine R.convI Tryz.runUnderlying38 Tryz.runUnderlying41 (h := ?_)
 first | refine R.field F178_2 (h := ?_) | refine R.fieldAt F178_2 (h := ?_)
 first | refine R.loadB O41 (h := ?_) | refine R.load1 O41 (h := ?_)
 first | refine R.field F178_1 (h := ?_) | refine R.fieldAt F178_1 (h := ?_)
 first | refine R.loadB O41 (h := ?_) | refine R.load1 O41 (h := ?_)
 refine R.buildX BX180 (is := [0, 1, 2]) (xs := [_, _, _]) (es := [_, _, _]) (h := ?_)
 refine R.storeA A180 (h := ?_)
 refine .n0 ?_
 exact LGo.ret (ret_A Tryz.results115 A180 hA hmd)
theorem before_P (a b : K3) : PC Tryz.prog 185 [.agg ((K3.v a).map LV.v), .agg ((K3.v b).map LV.v)] (.i (cmpK a b)) := by
 refine ⟨LC.of_go Tryz.func185 (c := _) rfl (by kernel_rfl) (by rw [Tryz.ntmps185]; simp) rfl rfl (by simp [LO.lt, LV.lts, LV.lt, lts_sv]) (by simp) ?_⟩
 intro B hA hmd
 refine .seq ?_
 refine .region rfl ?_
 refine R.box (h := ?_)
 refine R.box (h := ?_)
 refine R.assign (h := ?_)
 refine .n0 ?_
 refine .seq ?_
 refine .region rfl ?_
 first | refine R.sliceArr AR180 (h := ?_) | refine R.sliceAt AR180 (h := ?_)
 first | refine R.sliceArr AR180 (h := ?_) | refine R.sliceAt AR180 (h := ?_)
 refine R.callV (rd := [(1, .box 180 ((K3.v b).map LV.v)), (0, .box 180 ((K3.v a).map LV.v))]) (es := [_, _]) (fun _ => cmpK_P' a b) (fun _ _ h => h) (h := ?_)
 refine R.assign (h := ?_)
 refine Reg.nil ⟨fun _ => ⟨mixedO, by rfl, by rfl⟩, ?_⟩
 exact LGo.ret (ret_T Tryz.results185 hA hmd)
theorem cloneG (xs : List (List SV)) (hsz : ∀ e ∈ xs, e.length = 3) (hl : xs.length ≤ 100000) : LC Tryz.prog 162 0 [.sv (.sl 3 xs)] [] (.ref 0) [(0, .rs 71 3 xs)] 1 := by
 refine LC.of_go Tryz.func162 (c := _) rfl (by kernel_rfl) (by rw [Tryz.ntmps162]; simp) rfl rfl (by simp [LO.lt, LV.lts, LV.lt, lts_sv]) (by simp) ?_
 intro B hA hmd
 refine .seq ?_
 refine .region rfl ?_
 refine R.assign (h := ?_)
 refine .n0 ?_
 refine .seq ?_
 refine .seq ?_
 refine .region rfl ?_
 refine R.move (h := ?_)
 rcases Classical.em (xs = []) with h0 | h0
 ·
  refine R.nilU (hT := Tryz.underlying25) (h := ?_)
  refine .n0 ?_
  refine LGo.ifU (ht := ?_) (hf := ?_)
  ·
   refine .seq ?_
   refine .region rfl ?_
   refine R.assign (h := ?_)
   refine .n0 ?_
   subst h0
   refine LGo.nilRs 2 71 3 (h := ?_)
   exact LGo.ret (FnPost.finI [0] (res_T Tryz.results162) hA hmd)
  ·
   refine .skip ?_
   refine .seq ?_
   refine .region rfl ?_
   refine R.buildSliceR AP25 (xs := []) (es := []) (hcs := CellsOfs.nil) (h := ?_)
   refine R.move (h := ?_)
   refine R.appendS AP25 (hs := SrcOk.sl Tryz.underlying25 (hsz)) (hlen := by simp; omega) (h := ?_)
   refine R.assign (h := ?_)
   refine .n0 ?_
   exact LGo.ret (FnPost.finI [1] (res_T Tryz.results162) hA hmd)
 ·
  refine R.nilF false (hT := Tryz.underlying25) (hne := fun _ => h0) (h := ?_)
  refine .n0 ?_
  refine LGo.ifb (ht := fun hc2 => by simp at hc2) (hf := fun hc2 => ?_)
  refine .skip ?_
  refine .seq ?_
  refine .region rfl ?_
  refine R.buildSliceR AP25 (xs := []) (es := []) (hcs := CellsOfs.nil) (h := ?_)
  refine R.move (h := ?_)
  refine R.appendS AP25 (hs := SrcOk.sl Tryz.underlying25 (hsz)) (hlen := by simp; omega) (h := ?_)
  refine R.assign (h := ?_)
  refine .n0 ?_
  exact LGo.ret (FnPost.finI [1] (res_T Tryz.results162) hA hmd)
theorem cloneE (xs : List (List SV)) (hsz : ∀ e ∈ xs, e.length = 5) (hl : xs.length ≤ 100000) : LC Tryz.prog 183 0 [.sv (.sl 5 xs)] [] (.ref 0) [(0, .rs 178 5 xs)] 1 := by
 refine LC.of_go Tryz.func183 (c := _) rfl (by kernel_rfl) (by rw [Tryz.ntmps183]; simp) rfl rfl (by simp [LO.lt, LV.lts, LV.lt, lts_sv]) (by simp) ?_
 intro B hA hmd
 refine .seq ?_
 refine .region rfl ?_
 refine R.assign (h := ?_)
 refine .n0 ?_
 refine .seq ?_
 refine .seq ?_
 refine .region rfl ?_
 refine R.move (h := ?_)
 rcases Classical.em (xs = []) with h0 | h0
 ·
  refine R.nilU (hT := Tryz.underlying97) (h := ?_)
  refine .n0 ?_
  refine LGo.ifU (ht := ?_) (hf := ?_)
  ·
   refine .seq ?_
   refine .region rfl ?_
   refine R.assign (h := ?_)
   refine .n0 ?_
   subst h0
   refine LGo.nilRs 2 178 5 (h := ?_)
   exact LGo.ret (FnPost.finI [0] (res_T Tryz.results183) hA hmd)
  ·
   refine .skip ?_
   refine .seq ?_
   refine .region rfl ?_
   refine R.buildSliceR AP97 (xs := []) (es := []) (hcs := CellsOfs.nil) (h := ?_)
   refine R.move (h := ?_)
   refine R.appendS AP97 (hs := SrcOk.sl Tryz.underlying97 (hsz)) (hlen := by simp; omega) (h := ?_)
   refine R.assign (h := ?_)
   refine .n0 ?_
   exact LGo.ret (FnPost.finI [1] (res_T Tryz.results183) hA hmd)
 ·
  refine R.nilF false (hT := Tryz.underlying97) (hne := fun _ => h0) (h := ?_)
  refine .n0 ?_
  refine LGo.ifb (ht := fun hc2 => by simp at hc2) (hf := fun hc2 => ?_)
  refine .skip ?_
  refine .seq ?_
  refine .region rfl ?_
  refine R.buildSliceR AP97 (xs := []) (es := []) (hcs := CellsOfs.nil) (h := ?_)
  refine R.move (h := ?_)
  refine R.appendS AP97 (hs := SrcOk.sl Tryz.underlying97 (hsz)) (hlen := by simp; omega) (h := ?_)
  refine R.assign (h := ?_)
  refine .n0 ?_
  exact LGo.ret (FnPost.finI [1] (res_T Tryz.results183) hA hmd)
def SmG (l : List GtG) : Prop := l.length ≤ 100000 ∧ ∀ g ∈ l, g.secs.length ≤ 100000
def SmS (s : GtS) : Prop := SmG s.gates ∧ s.ents.length ≤ 100000 ∧ ∀ x ∈ s.ents, U32 x.seat
theorem set_gate (l : List GtG) (k : Nat) (g : GtG) (h : l[k]? = some g) : (l.map GtG.c).set k (g.c.set 0 (.sl 1 (ic .i64 g.secs))) = l.map GtG.c := by
  have : g.c.set 0 (.sl 1 (ic .i64 g.secs)) = g.c := rfl
  rw [this, ← List.map_set]
  congr 1
  obtain ⟨hk, rfl⟩ := List.getElem?_eq_some_iff.1 h
  exact List.set_getElem_self hk
theorem gt_ones (l : List GtG) : ∀ e ∈ l.map GtG.c, e.length = 3 := by intro e he; obtain ⟨g, _, rfl⟩ := List.mem_map.1 he; rfl
theorem ge_ones (l : List GtE) : ∀ e ∈ l.map GtE.c, e.length = 5 := by intro e he; obtain ⟨g, _, rfl⟩ := List.mem_map.1 he; rfl
theorem cloneI_P (xs : List (List SV)) (hsz : ∀ e ∈ xs, e.length = 1) (hl : xs.length ≤ 100000) : PC Tryz.prog 161 [.sv (.sl 1 xs)] (.sv (.sl 1 xs)) := by
 refine ⟨LC.of_go Tryz.func161 (c := _) rfl (by kernel_rfl) (by rw [Tryz.ntmps161]; simp) rfl rfl (by simp [LO.lt, LV.lts, LV.lt, lts_sv]) (by simp) ?_⟩
 intro B hA hmd
 refine .seq ?_
 refine .region rfl ?_
 refine R.assign (h := ?_)
 refine .n0 ?_
 refine .seq ?_
 refine .seq ?_
 refine .region rfl ?_
 refine R.move (h := ?_)
 rcases Classical.em (xs = []) with h0 | h0
 ·
  refine R.nilU (hT := Tryz.underlying65) (h := ?_)
  refine .n0 ?_
  refine LGo.ifU (ht := ?_) (hf := ?_)
  ·
   refine .seq ?_
   refine .region rfl ?_
   refine R.assign (h := ?_)
   refine .n0 ?_
   subst h0
   refine LGo.nilSl 2 1 (h := ?_)
   exact LGo.ret (ret_T Tryz.results161 hA hmd)
  ·
   refine .skip ?_
   refine .seq ?_
   refine .region rfl ?_
   refine R.buildSliceR AP65 (xs := []) (es := []) (hcs := CellsOfs.nil) (h := ?_)
   refine R.move (h := ?_)
   refine R.appendS AP65 (hs := SrcOk.sl Tryz.underlying65 (hsz)) (hlen := by simp; omega) (h := ?_)
   refine R.assign (h := ?_)
   refine .n0 ?_
   first | refine LGo.frzT 2 (h := ?_) | refine LGo.nilSl 2 1 (h := ?_) | skip
   exact LGo.ret (ret_T Tryz.results161 hA hmd)
 ·
  refine R.nilF false (hT := Tryz.underlying65) (hne := fun _ => h0) (h := ?_)
  refine .n0 ?_
  refine LGo.ifb (ht := fun hc2 => by simp at hc2) (hf := fun hc2 => ?_)
  refine .skip ?_
  refine .seq ?_
  refine .region rfl ?_
  refine R.buildSliceR AP65 (xs := []) (es := []) (hcs := CellsOfs.nil) (h := ?_)
  refine R.move (h := ?_)
  refine R.appendS AP65 (hs := SrcOk.sl Tryz.underlying65 (hsz)) (hlen := by simp; omega) (h := ?_)
  refine R.assign (h := ?_)
  refine .n0 ?_
  first | refine LGo.frzT 2 (h := ?_) | refine LGo.nilSl 2 1 (h := ?_) | skip
  exact LGo.ret (ret_T Tryz.results161 hA hmd)
theorem clone_L (s : GtS) (hs : SmS s) : LC Tryz.prog 112 0 [.agg (s.c.map LV.sv)] [] (.agg [.sv (.sl 3 (s.gates.map GtG.c)), .ref 0]) [(0, .rs 178 5 (s.ents.map GtE.c))] 1 := by
 refine LC.of_go Tryz.func112 (c := _) rfl (by kernel_rfl) (by rw [Tryz.ntmps112]; simp) rfl rfl (by simp [LO.lt, LV.lts, LV.lt, lts_sv]) (by simp) ?_
 intro B hA hmd
 obtain ⟨⟨hg1, hg2⟩, he1, he2⟩ := hs
 refine .seq ?_
 refine .region rfl ?_
 refine R.box (h := ?_)
 refine R.alloc Z99 (h := ?_)
 refine .n0 ?_
 refine .seq ?_
 refine .region rfl ?_
 first | refine R.field F99_0 (h := ?_) | refine R.fieldAt F99_0 (h := ?_)
 first | refine R.loadB O25 (h := ?_) | refine R.load1 O25 (h := ?_)
 refine R.callX (es := [_]) [] (cloneG (s.gates.map GtG.c) (gt_ones _) (by rw [List.length_map]; exact hg1)) (h := ?_)
 first | refine R.field F99_1 (h := ?_) | refine R.fieldAt F99_1 (h := ?_)
 first | refine R.loadB O97 (h := ?_) | refine R.load1 O97 (h := ?_)
 refine R.callX (es := [_]) [] (cloneE (s.ents.map GtE.c) (ge_ones _) (by rw [List.length_map]; exact he1)) (h := ?_)
 first | refine R.field F99_0 (h := ?_) | refine R.fieldAt F99_0 (h := ?_)
 refine R.storeB O25 (h := ?_)
 first | refine R.field F99_1 (h := ?_) | refine R.fieldAt F99_1 (h := ?_)
 refine R.storeB O97 (h := ?_)
 refine Reg.nil ⟨fun _ => ⟨mixedO, by rfl, by rfl⟩, ?_⟩
 refine .seq ?_
 refine .seq ?_
 refine .region rfl ?_
 first | refine R.field F99_0 (h := ?_) | refine R.fieldAt F99_0 (h := ?_)
 first | refine R.loadB O25 (h := ?_) | refine R.load1 O25 (h := ?_)
 first | refine R.len S25 (h := ?_) | refine R.lenRs S25 (h := ?_) | refine R.lenV (run_lenNil S25) (h := ?_)
 rw [List.length_map]
 refine R.move (h := ?_)
 refine .n0 ?_
 refine .block ?_
 refine .loop ?_
 refine LGo.loopG (σ := Nat) (fun x => x ≤ s.gates.length) (fun x => [(15, (true, .i (x : Nat)))]) (fun x => [(0, .box 99 [.ref 2, .ref 3]), (1, .box 99 [.v (.slice none 0 0), .v (.slice none 0 0)]), (2, .rs 71 3 (s.gates.map GtG.c)), (3, .rs 178 5 (s.ents.map GtE.c))]) (fun x => s.gates.length - x) (0) [(1, _), (2, _), (14, _)] (Nat.zero_le _) (by repeat (first | exact trivial | refine ⟨rfl, ?_⟩)) (by repeat (first | exact trivial | refine ⟨rfl, ?_⟩)) (by repeat (first | exact trivial | refine ⟨rfl, ?_⟩)) ?_
 rintro k hk ih
 refine .seq ?_
 refine .region rfl ?_
 refine R.bin (run_lss _ _ _ _ _ _) (h := ?_)
 refine .n0 ?_
 refine .seq ?_
 refine LGo.ifd (ht := fun hc => ?_) (hf := fun hc => ?_)
 ·
  have hlt : k < s.gates.length := by omega
  have hx0 : s.gates[k]? = some s.gates[k] := List.getElem?_eq_getElem hlt
  have hx : (s.gates.map GtG.c)[k]? = some s.gates[k].c := by simp [hlt]
  have hsl := hg2 s.gates[k] (List.getElem_mem hlt)
  generalize s.gates[k] = g at hx hx0 hsl
  refine .skip ?_
  refine .seq ?_
  refine .block ?_
  refine .seq ?_
  refine .region rfl ?_
  refine R.move (h := ?_)
  refine R.assign (h := ?_)
  refine .n0 ?_
  refine .region rfl ?_
  first | refine R.field F99_0 (h := ?_) | refine R.fieldAt F99_0 (h := ?_)
  first | refine R.loadB O25 (h := ?_) | refine R.load1 O25 (h := ?_)
  refine R.move (h := ?_)
  first | refine R.field F99_0 (h := ?_) | refine R.fieldAt F99_0 (h := ?_)
  first | refine R.loadB O25 (h := ?_) | refine R.load1 O25 (h := ?_)
  refine R.move (h := ?_)
  refine R.indexRs I25 (hj := fun _ => ⟨by omega, by rw [List.length_map]; omega⟩) (h := ?_)
  first | refine R.field F71_0 (h := ?_) | refine R.fieldAt F71_0 (h := ?_)
  refine R.loadRs1 O65 k 0 (ev := g.c) (hj := fun _ => ⟨hx, rfl⟩) (h := ?_)
  refine R.callP (es := [_]) (fun _ => cloneI_P (ic .i64 g.secs) (ic_one _ _) (by rw [ic_len]; exact hsl)) (h := ?_)
  refine R.indexRs I25 (hj := fun _ => ⟨by omega, by rw [List.length_map]; omega⟩) (h := ?_)
  first | refine R.field F71_0 (h := ?_) | refine R.fieldAt F71_0 (h := ?_)
  refine R.storeRs1 O65 k 0 g.c (hj := hx) (h := ?_)
  rw [set_gate s.gates k g hx0]
  refine Reg.nil ⟨fun _ => ⟨mixedO, by rfl, by rfl⟩, ?_⟩
  refine .inBlock ?_
  refine .region rfl ?_
  first | refine R.add (h := ?_) | refine R.addW (h := ?_)
  refine R.move (h := ?_)
  refine .n0 ?_
  refine .inLoop ?_
  exact LGo.next _ (fun o h => by have := (hA o).1 h; omega) (by omega) (ih (k + 1) (by omega) (by omega)) (by repeat (first | exact trivial | refine ⟨rfl, ?_⟩)) ⟨rfl, rfl, rfl, rfl, trivial⟩
 ·
  refine LGo.pack 0 0 (h := ?_)
  refine LGo.frzBx 0 (h := ?_)
  refine .exit rfl ?_
  refine .seq ?_
  refine .region rfl ?_
  first | refine R.loadA A99 (h := ?_) | refine R.loadN A99 (h := ?_) | refine R.loadP A99 (h := ?_)
  refine R.storeA A99 (h := ?_)
  refine .n0 ?_
  exact LGo.ret (FnPost.finI [3] (res_A Tryz.results112 A99) hA hmd)
def prevE (l : List GtE) (k : Nat) : Option GtE := if k = 0 then none else some (l.getD (k - 1) default)
theorem prevE_succ {l : List GtE} {k : Nat} (h : k < l.length) : prevE l (k + 1) = some l[k] := by unfold prevE; rw [if_neg (by omega)]; simp [h]
theorem bad_prev (gs : List GtG) (l : List GtE) (k : Nat) (x : GtE) : badE gs (prevE l k) x = (((decide (x.gate < 0) || decide (x.gate ≥ gs.length)) || !decide (openI (gs.getD x.gate.toNat default) x.time = 0)) || (decide ((k : Int) > 0) && decide (cmpK (l.getD (k - 1) default).key x.key ≥ 0))) := by
  unfold badE prevE
  by_cases h : k = 0
  · subst h; simp
  · rw [if_neg h]
    simp only [show ((k : Int) > 0) from by omega, decide_true, Bool.true_and]
theorem en_at {l : List GtE} {k : Nat} (h : 0 < k) (hk : k ≤ l.length) : (l.map GtE.c)[((k : Int) - 1).toNat]? = some (l.getD (k - 1) default).c := by
  have hlt : k - 1 < l.length := by omega
  rw [show ((k : Int) - 1).toNat = k - 1 from by omega, List.getElem?_map, List.getElem?_eq_getElem hlt, List.getD_eq_getElem?_getD, List.getElem?_eq_getElem hlt]
  rfl
theorem gt_at {l : List GtG} {n : Int} (h0 : 0 ≤ n) (h : n < l.length) : (l.map GtG.c)[n.toNat]? = some (l.getD n.toNat default).c := by
  have hlt : n.toNat < l.length := by omega
  rw [List.getElem?_map, List.getElem?_eq_getElem hlt, List.getD_eq_getElem?_getD, List.getElem?_eq_getElem hlt]
  rfl
theorem seat_at {l : List GtE} (h : ∀ x ∈ l, U32 x.seat) (k : Nat) : U32 (l.getD k default).seat := by
  rw [List.getD_eq_getElem?_getD]
  by_cases hk : k < l.length
  · rw [List.getElem?_eq_getElem hk]; exact h _ (List.getElem_mem hk)
  · rw [List.getElem?_eq_none (by omega)]; unfold U32; decide
theorem checkGS_P (s : GtS) (hs : SmS s) : PC Tryz.prog 113 [.agg (s.c.map LV.sv)] (.i (checkGS s)) := by
 refine ⟨LC.of_go Tryz.func113 (c := _) rfl (by kernel_rfl) (by rw [Tryz.ntmps113]; simp) rfl rfl (by simp [LO.lt, LV.lts, LV.lt, lts_sv]) (by simp) ?_⟩
 intro B hA hmd
 obtain ⟨⟨hg1, hg2⟩, he1, he2⟩ := hs
 obtain ⟨g, e0⟩ : ∃ g, checkGS s = g := ⟨_, rfl⟩
 have e1 := e0
 unfold checkGS at e1
 rw [e0]
 refine .seq ?_
 refine .region rfl ?_
 refine R.box (h := ?_)
 refine R.assign (h := ?_)
 refine .n0 ?_
 refine .seq ?_
 refine .seq ?_
 refine .region rfl ?_
 first | refine R.field F99_0 (h := ?_) | refine R.fieldAt F99_0 (h := ?_)
 first | refine R.loadB O25 (h := ?_) | refine R.load1 O25 (h := ?_)
 refine R.callP (es := [_]) (fun _ => checkG_P s.gates hg1 hg2) (h := ?_)
 refine R.assign (h := ?_)
 refine .n0 ?_
 refine .seq ?_
 refine .region rfl ?_
 refine R.move (h := ?_)
 refine R.bin (run_neq _ _ _ _ _ _) (h := ?_)
 refine .n0 ?_
 refine LGo.ifb (ht := fun hc => ?_) (hf := fun hc => ?_)
 ·
  rw [if_pos (by simpa using hc)] at e1
  rw [← e1]
  refine .seq ?_
  refine .region rfl ?_
  refine R.move (h := ?_)
  refine R.assign (h := ?_)
  refine .n0 ?_
  exact LGo.ret (ret_T Tryz.results113 hA hmd)
 ·
  rw [if_neg (by simpa using hc)] at e1
  refine .skip ?_
  refine .seq ?_
  refine .seq ?_
  refine .region rfl ?_
  first | refine R.field F99_1 (h := ?_) | refine R.fieldAt F99_1 (h := ?_)
  first | refine R.loadB O97 (h := ?_) | refine R.load1 O97 (h := ?_)
  first | refine R.len S97 (h := ?_) | refine R.lenRs S97 (h := ?_) | refine R.lenV (run_lenNil S97) (h := ?_)
  rw [List.length_map]
  refine R.bin (run_gtr _ _ _ _ _ _) (h := ?_)
  refine .n0 ?_
  refine LGo.ifd (ht := fun hc2 => ?_) (hf := fun hc2 => ?_)
  ·
   rw [if_pos (by omega)] at e1
   rw [← e1]
   refine .seq ?_
   refine .region rfl ?_
   refine R.assign (h := ?_)
   refine .n0 ?_
   exact LGo.ret (ret_T Tryz.results113 hA hmd)
  ·
   rw [if_neg (by omega)] at e1
   refine .skip ?_
   refine .seq ?_
   refine .seq ?_
   refine .region rfl ?_
   first | refine R.field F99_1 (h := ?_) | refine R.fieldAt F99_1 (h := ?_)
   first | refine R.loadB O97 (h := ?_) | refine R.load1 O97 (h := ?_)
   first | refine R.len S97 (h := ?_) | refine R.lenRs S97 (h := ?_) | refine R.lenV (run_lenNil S97) (h := ?_)
   rw [List.length_map]
   refine R.move (h := ?_)
   refine .n0 ?_
   refine .block ?_
   refine .loop ?_
   refine LGo.loopG (σ := Nat) (fun x => x ≤ s.ents.length ∧ (if badGo s.gates (prevE s.ents x) (s.ents.drop x) = true then (6 : Int) else 0) = g) (fun x => [(19, (true, .i (x : Nat)))]) (fun x => [(0, .box 99 (s.c.map LV.sv))]) (fun x => s.ents.length - x) (0) [(1, _), (17, _), (18, _)] ⟨Nat.zero_le _, e1⟩ (by repeat (first | exact trivial | refine ⟨rfl, ?_⟩)) (by repeat (first | exact trivial | refine ⟨rfl, ?_⟩)) (by repeat (first | exact trivial | refine ⟨rfl, ?_⟩)) ?_
   rintro k ⟨hk, hq⟩ ih
   refine .seq ?_
   refine .region rfl ?_
   refine R.bin (run_lss _ _ _ _ _ _) (h := ?_)
   refine .n0 ?_
   refine .seq ?_
   refine LGo.ifd (ht := fun hc3 => ?_) (hf := fun hc3 => ?_)
   ·
    have hlt : k < s.ents.length := by omega
    have hx : (s.ents.map GtE.c)[((k : Nat) : Int).toNat]? = some s.ents[k].c := by simp [hlt]
    have hd : s.ents.drop k = s.ents[k] :: s.ents.drop (k + 1) := List.drop_eq_getElem_cons hlt
    have hxs := he2 s.ents[k] (List.getElem_mem hlt)
    have hpv := prevE_succ hlt
    rw [hd, badGo, bad_prev] at hq
    generalize s.ents[k] = x at hx hq hxs hpv
    clear hd
    refine .skip ?_
    refine .seq ?_
    refine .block ?_
    refine .seq ?_
    refine .region rfl ?_
    refine R.move (h := ?_)
    refine R.index I97 (hj := fun hg => ⟨by omega, hx⟩) (h := ?_)
    first | refine R.loadA A178 (h := ?_) | refine R.loadN A178 (h := ?_) | refine R.loadP A178 (h := ?_)
    refine R.alloc Z178 (h := ?_)
    refine R.assign (h := ?_)
    refine R.storeA A178 (h := ?_)
    refine .n0 ?_
    refine .seq ?_
    refine .region rfl ?_
    first | refine R.field F178_3 (h := ?_) | refine R.fieldAt F178_3 (h := ?_)
    first | refine R.loadB O3 (h := ?_) | refine R.load1 O3 (h := ?_)
    refine R.bin (run_lss _ _ _ _ _ _) (h := ?_)
    refine R.move (h := ?_)
    first | refine R.field F178_3 (h := ?_) | refine R.fieldAt F178_3 (h := ?_)
    first | refine R.loadB O3 (h := ?_) | refine R.load1 O3 (h := ?_)
    first | refine R.field F99_0 (h := ?_) | refine R.fieldAt F99_0 (h := ?_)
    first | refine R.loadB O25 (h := ?_) | refine R.load1 O25 (h := ?_)
    first | refine R.len S25 (h := ?_) | refine R.lenRs S25 (h := ?_) | refine R.lenV (run_lenNil S25) (h := ?_)
    rw [List.length_map]
    refine R.bin (run_geq _ _ _ _ _ _) (h := ?_)
    refine R.or (h := ?_)
    refine R.move (h := ?_)
    first | refine R.field F99_0 (h := ?_) | refine R.fieldAt F99_0 (h := ?_)
    first | refine R.loadB O25 (h := ?_) | refine R.load1 O25 (h := ?_)
    first | refine R.field F178_3 (h := ?_) | refine R.fieldAt F178_3 (h := ?_)
    first | refine R.loadB O3 (h := ?_) | refine R.load1 O3 (h := ?_)
    refine R.index I25 (hj := fun hg => ⟨by (simp at hg; omega), (by simp at hg; exact gt_at (by omega) (by omega))⟩) (h := ?_)
    first | refine R.loadA A71 (h := ?_) | refine R.loadN A71 (h := ?_) | refine R.loadP A71 (h := ?_)
    first | refine R.field F178_4 (h := ?_) | refine R.fieldAt F178_4 (h := ?_)
    first | refine R.loadB O2 (h := ?_) | refine R.load1 O2 (h := ?_)
    refine R.callP (es := [_, _]) (fun _ => open_P (s.gates.getD x.gate.toNat default) x.time) (h := ?_)
    refine R.bin (run_neq _ _ _ _ _ _) (h := ?_)
    refine R.or (h := ?_)
    refine R.move (h := ?_)
    refine R.move (h := ?_)
    refine R.bin (run_gtr _ _ _ _ _ _) (h := ?_)
    refine R.move (h := ?_)
    first | refine R.field F99_1 (h := ?_) | refine R.fieldAt F99_1 (h := ?_)
    first | refine R.loadB O97 (h := ?_) | refine R.load1 O97 (h := ?_)
    refine R.move (h := ?_)
    first | refine R.sub (h := ?_) | refine R.subW (h := ?_)
    refine R.index I97 (hj := fun hg => ⟨by (simp at hg; omega), (by simp at hg; exact en_at (by omega) (by omega))⟩) (h := ?_)
    first | refine R.loadA A178 (h := ?_) | refine R.loadN A178 (h := ?_) | refine R.loadP A178 (h := ?_)
    refine R.callP (es := [_]) (fun _ => keyOf_P (s.ents.getD (k - 1) default) (seat_at he2 _)) (h := ?_)
    first | refine R.loadA A178 (h := ?_) | refine R.loadN A178 (h := ?_) | refine R.loadP A178 (h := ?_)
    refine R.callP (es := [_]) (fun _ => keyOf_P x hxs) (h := ?_)
    refine R.callP (es := [_, _]) (fun _ => before_P (s.ents.getD (k - 1) default).key x.key) (h := ?_)
    refine R.bin (run_geq _ _ _ _ _ _) (h := ?_)
    refine R.and (hgy := fun hg h => by rw [h, hg]; rfl) (h := ?_)
    refine R.or (h := ?_)
    refine Reg.nil ⟨fun _ => ⟨mixedO, by rfl, by rfl⟩, ?_⟩
    refine LGo.ifb (ht := fun hc4 => ?_) (hf := fun hc4 => ?_)
    ·
     rw [hc4, Bool.true_or, if_pos rfl] at hq
     rw [← hq]
     refine .seq ?_
     refine .region rfl ?_
     refine R.assign (h := ?_)
     refine .n0 ?_
     exact LGo.ret (ret_T Tryz.results113 hA hmd)
    ·
     rw [hc4, Bool.false_or, ← hpv] at hq
     refine .skip ?_
     refine .inBlock ?_
     refine .region rfl ?_
     first | refine R.add (h := ?_) | refine R.addW (h := ?_)
     refine R.move (h := ?_)
     refine .n0 ?_
     refine .inLoop ?_
     exact LGo.next _ (fun o h => by have := (hA o).1 h; omega) (by omega) (ih (k + 1) ⟨by omega, hq⟩ (by omega)) (by repeat (first | exact trivial | refine ⟨rfl, ?_⟩)) ⟨rfl, trivial⟩
   ·
    rw [List.drop_eq_nil_of_le (show s.ents.length ≤ k by omega), badGo] at hq
    rw [← hq]
    refine .exit rfl ?_
    refine .seq ?_
    refine .region rfl ?_
    refine R.assign (h := ?_)
    refine .n0 ?_
    exact LGo.ret (ret_T Tryz.results113 hA hmd)
theorem LC.argsW {P : Program} {f : FuncId} {m k : Nat} {lvs lvs' : List LV} {out : LV} {Hi Ho : List (Nat × LO)} (h : LC P f m lvs Hi out Ho k) (hl : LV.lts m lvs' = true) (hv : ∀ cx w vs, Vs cx w lvs' vs → Vs cx w lvs vs) : LC P f m lvs' Hi out Ho k :=
  ⟨h.entr, hl, h.rng, h.hlt, h.hos, fun cx w vs hA hH ham hvs => h.go cx w vs hA hH ham (hv cx w vs hvs)⟩
theorem vs_aggNil {cx : Cx} {w : World} {x : LV} (sz : Nat) {vs : List Value} (h : Vs cx w [.agg [x, .v (.slice none 0 0)]] vs) : Vs cx w [.agg [x, .sv (.sl sz [])]] vs := by
  simp only [Vs, V] at h ⊢
  obtain ⟨v, r, rfl, ⟨us, rfl, a, r1, rfl, h1, b, r2, rfl, h2, rfl⟩, rfl⟩ := h
  refine ⟨_, _, rfl, ⟨_, rfl, _, _, rfl, h1, _, _, rfl, ?_, rfl⟩, rfl⟩
  simp only [VS] at h2 ⊢
  exact .inl ⟨.inl h2, trivial⟩
theorem cloneN_L (l : List GtG) (hl : l.length ≤ 100000) (hs : ∀ g ∈ l, g.secs.length ≤ 100000) : LC Tryz.prog 112 0 [.agg [.sv (.sl 3 (l.map GtG.c)), .v (.slice none 0 0)]] [] (.agg [.sv (.sl 3 (l.map GtG.c)), .ref 0]) [(0, .rs 178 5 [])] 1 :=
  LC.argsW (clone_L ⟨l, []⟩ ⟨⟨hl, hs⟩, by simp, by simp⟩) (by rfl) (fun _ _ _ h => vs_aggNil 5 h)
theorem newS_P (l : List GtG) (hl : l.length ≤ 100000) (hs : ∀ g ∈ l, g.secs.length ≤ 100000) : PC Tryz.prog 48 [.sv (.sl 3 (l.map GtG.c))] (.tup [.agg ((newS l).1.c.map LV.sv), .i (newS l).2]) := by
 refine ⟨LC.of_go Tryz.func48 (c := _) rfl (by kernel_rfl) (by rw [Tryz.ntmps48]; simp) rfl rfl (by simp [LO.lt, LV.lts, LV.lt, lts_sv]) (by simp) ?_⟩
 intro B hA hmd
 obtain ⟨g, e0⟩ : ∃ g, newS l = g := ⟨_, rfl⟩
 have e1 := e0
 unfold newS at e1
 rw [e0]
 refine .seq ?_
 refine .region rfl ?_
 refine R.alloc Z99 (h := ?_)
 refine R.assign (h := ?_)
 refine .n0 ?_
 refine .seq ?_
 refine .seq ?_
 refine .region rfl ?_
 refine R.move (h := ?_)
 refine R.callP (es := [_]) (fun _ => checkG_P l hl hs) (h := ?_)
 refine R.assign (h := ?_)
 refine .n0 ?_
 refine .seq ?_
 refine .region rfl ?_
 refine R.move (h := ?_)
 refine R.bin (run_neq _ _ _ _ _ _) (h := ?_)
 refine .n0 ?_
 refine LGo.ifb (ht := fun hc => ?_) (hf := fun hc => ?_)
 ·
  rw [if_pos (by simpa using hc)] at e1
  rw [← e1]
  refine .seq ?_
  refine .region rfl ?_
  refine R.build BF99 (is := []) (xs := []) (es := []) (h := ?_)
  refine R.move (h := ?_)
  refine R.storeA A99 (h := ?_)
  refine R.assign (h := ?_)
  refine .n0 ?_
  refine LGo.packNil 0 0 71 3 (h := ?_)
  refine LGo.frzBx 0 (h := ?_)
  refine LGo.packNil 0 1 178 5 (h := ?_)
  refine LGo.frzBx 0 (h := ?_)
  exact LGo.ret (ret_AT Tryz.results48 A99 hA hmd)
 ·
  rw [if_neg (by simpa using hc)] at e1
  rw [← e1]
  refine .skip ?_
  refine .seq ?_
  refine .region rfl ?_
  refine R.move (h := ?_)
  refine R.build BF99 (is := [0]) (xs := [_]) (es := [_]) (h := ?_)
  refine R.callX (es := [_]) [] (cloneN_L l hl hs) (h := ?_)
  refine R.storeA A99 (h := ?_)
  refine R.assign (h := ?_)
  refine .n0 ?_
  refine LGo.pack 0 1 (h := ?_)
  refine LGo.frzBx 0 (h := ?_)
  exact LGo.ret (ret_AT Tryz.results48 A99 hA hmd)
/-! the check -/
/-! calls in a row -/
/-! the laws -/
end Go.Proofs.YteccglgbkehdeaaGreatDoor
namespace Go.Proofs.YteccglgbkehdeaaGreatDoor
open Go.ChangeShapes Go.WideShapes Go.Deep Go.RowKit Go.ChangeAt
def dlaid : List (String × DataW Unit) := [("math/bits.deBruijn32tab", Rows.laid_math_bits_deBruijn32tab), ("math/bits.deBruijn64tab", Rows.laid_math_bits_deBruijn64tab), ("internal/strconv.uint64pow10", Rows.laid_internal_strconv_uint64pow10), ("unicode/utf8.acceptRanges", Rows.laid_unicode_utf8_acceptRanges), ("groundling/words.escapes", Rows.laid_groundling_words_escapes), ("groundling/requests.masks", Rows.laid_groundling_requests_masks), ("unicode/utf8.first", Rows.laid_unicode_utf8_first)]
theorem own : ownKnob Tryz.prog.godebug = none := by kernel_rfl
theorem door_met (os : Os) (args : Array Value) : laidMetH Tryz.prog dlaid ((World.laidAll Tryz.prog os dlaid).forCall (fun _ _ => 0) ⟨#[], args, []⟩).memory := by
  rw [MakeChecks.laidMetH_plain _ _ _ (by kernel_rfl)]; exact laidMet_laidAll _ (by kernel_rfl) (by kernel_rfl)
theorem laidVars_at {P : Program} {w : World} : ∀ {l : List (String × DataW Unit)} {ps : List MemPlace}, DataW.LaidVars P w l ps → ∀ nd ∈ l, ∃ g t cs fuel p, P.globalNamed nd.1 = some g ∧ (P.globals[g]?).map (·.type) = some t ∧ w.var? P nd.1 = some cs ∧ DataW.trod (fun _ => ()) P w 0 (fun _ => true) false fuel t cs.toList = some (nd.2, p)
  | [], _, _, nd, h => by cases h
  | x :: l, ps, h, nd, hm => by
    obtain ⟨g, t, cs, fuel, p, q, h1, h2, h3, h4, h5, _⟩ := h
    rcases List.mem_cons.1 hm with rfl | hm
    · exact ⟨g, t, cs, fuel, p, h1, h2, h3, h4⟩
    · exact laidVars_at h5 nd hm
/-- cells that read as0 a datum are these cells -/
def Reads (P : Program) (t : TypeId) (d : DataW Unit) (cells : List Value) : Prop := ∀ (w : World) (fuel : Nat) (cs : List Value) (p : List MemPlace), DataW.trod (fun _ => ()) P w 0 (fun _ => true) false fuel t cs = some (d, p) → cs = cells
theorem Reads.int {P : Program} {t : TypeId} {k : IntKind} {z : Int} (ht : P.underlying t = some (.int k)) : Reads P t (.lit (.int k z)) [.int k z] := fun w fuel cs p h => by
  obtain ⟨z', rfl, he, _⟩ := DataW.trod_int ht h
  cases he
  rfl
theorem Reads.str {P : Program} {t : TypeId} {l : List UInt8} (ht : P.underlying t = some .string) : Reads P t (.lit (.string l)) [.string ⟨l.toArray⟩] := fun w fuel cs p h => by
  obtain ⟨⟨s⟩, rfl, he, _⟩ := DataW.trod_string ht h
  cases he
  simp
theorem chunks {sz : Nat} : ∀ (cl : List (List Value)) (cs : List Value), cs.length = cl.length * sz → (∀ i c, cl[i]? = some c → (cs.drop (i * sz)).take sz = c) → cs = cl.flatten
  | [], cs, hl, _ => by simpa using hl
  | c :: cl, cs, hl, h => by
    have h0 := h 0 c rfl
    simp only [Nat.zero_mul, List.drop_zero] at h0
    simp only [List.length_cons, Nat.add_mul, Nat.one_mul] at hl
    have ih := chunks (sz := sz) cl (cs.drop sz) (by rw [List.length_drop]; omega) (fun i c hc => by
      have := h (i + 1) c (by simpa using hc)
      rw [List.drop_drop, show sz + i * sz = (i + 1) * sz from by rw [Nat.add_mul]; omega]
      exact this)
    rw [List.flatten_cons, ← ih, ← h0, List.take_append_drop]
theorem Reads.arr {P : Program} {t e : TypeId} {n sz : Nat} {ds : List (DataW Unit)} {cl : List (List Value)} (ht : P.underlying t = some (.array n e)) (hs : P.cellsOf e = sz) (hct : P.cellsOf t = n * sz) (hn : cl.length = n)
    (h : ∀ (i : Nat) (d : DataW Unit) (c : List Value), ds[i]? = some d → cl[i]? = some c → Reads P e d c) : Reads P t (.agg ds) cl.flatten := fun w fuel cs p hr => by
  obtain ⟨xs, m, _, hx, hcl, hxl, hat⟩ := DataW.trod_array ht hr
  rw [hs] at hat
  have hds : ds = xs.map (·.1) := by have := congrArg Prod.fst hx; simpa using this
  refine chunks (sz := sz) cl cs (by rw [hcl, hct, hn]) (fun i c hc => ?_)
  have hi : i < n := by have := (List.getElem?_eq_some_iff.1 hc).1; omega
  have h1 := hat i hi
  rw [List.getElem?_eq_getElem (by omega)] at h1
  exact h i xs[i].1 c (by rw [hds]; simp [hxl, hi]) hc w m _ xs[i].2 h1
theorem Reads.strct {P : Program} {t : TypeId} {fs : Array Field} {ds : List (DataW Unit)} {vs : List Value} (ht : P.underlying t = some (.struct fs)) (hone : oneCellFields P fs = true) (hC : P.cellsOf t = fs.size) (hn : vs.length = fs.size)
    (h : ∀ (j : Nat) (f : Field) (d : DataW Unit) (v : Value), fs[j]? = some f → ds[j]? = some d → vs[j]? = some v → Reads P f.type d [v]) : Reads P t (.agg ds) vs := fun w fuel cs p hr => by
  obtain ⟨xs, m, _, hx, hcl, hxl, hat⟩ := DataW.trod_struct ht hr
  have hds : ds = xs.map (·.1) := by have := congrArg Prod.fst hx; simpa using this
  apply List.ext_getElem?
  intro j
  by_cases hj : j < fs.size
  · have hfj : fs[j]? = some fs[j] := Array.getElem?_eq_getElem hj
    obtain ⟨ho, hk⟩ := hone_of hone j _ hfj
    have h1 := hat j _ hfj
    rw [ho, hk, List.getElem?_eq_getElem (by omega)] at h1
    have h2 := h j _ xs[j].1 (vs[j]'(by omega)) hfj (by rw [hds]; simp [hxl, hj]) (List.getElem?_eq_getElem (by omega)) w m _ xs[j].2 h1
    have hcj : (cs.drop j).take 1 = [cs[j]'(by omega)] := by rw [List.drop_eq_getElem_cons (by omega)]; rfl
    rw [hcj] at h2
    rw [List.getElem?_eq_getElem (by omega), List.getElem?_eq_getElem (by omega)]
    simpa using h2
  · rw [List.getElem?_eq_none (by omega), List.getElem?_eq_none (by omega)]
theorem flat1 : ∀ l : List Value, (l.map fun v => [v]).flatten = l
  | [] => rfl
  | v :: l => by rw [List.map_cons, List.flatten_cons, flat1 l]; rfl
def tabDs : DataW Unit → List (DataW Unit)
  | .agg ds => ds
  | _ => []
theorem tab_of_mem {P : Program} {W : World} {l : List (String × DataW Unit)} {name : String} {dt : DataW Unit} {cells : List Value} {g : Nat} {t : TypeId}
    (hg : P.globalNamed name = some g) (hty : (P.globals[g]?).map (·.type) = some t) (hr : Reads P t dt cells) (hm : (name, dt) ∈ l) (h : laidMet P l W) : ∃ T fr, W.heap[g]? = some (.cells cells.toArray T fr) := by
  obtain ⟨ps, hv, _⟩ := h
  obtain ⟨g', t', cs, fuel, p, hg', ht', hvar, hd⟩ := laidVars_at hv _ hm
  obtain rfl := Option.some.inj (hg.symm.trans hg')
  obtain rfl := Option.some.inj (hty.symm.trans ht')
  have hcs := hr W fuel _ p hd
  unfold World.var? at hvar
  dsimp only at hvar hg'
  rw [hg', Option.bind_some] at hvar
  cases hb : W.heap[g]? with
  | none => rw [hb] at hvar; cases hvar
  | some o =>
    rw [hb] at hvar
    cases o with
    | cells c T fr =>
      simp only [Option.some.injEq] at hvar
      subst hvar
      exact ⟨T, fr, by rw [← hcs]⟩
    | _ => cases hvar
theorem reads3 : Reads Tryz.prog 317 Rows.laid_internal_strconv_uint64pow10 (Lib.pow10Tab.map (Value.int .u64)) := by
  have h := Reads.arr (sz := 1) (cl := (Lib.pow10Tab.map (Value.int .u64)).map fun v => [v]) (ds := tabDs Rows.laid_internal_strconv_uint64pow10) Tryz.underlying317 (by kernel_rfl) (by kernel_rfl) (by rfl) (fun i d c hd hc => by
    match i, hd, hc with
    | 0, hd, hc => cases hd; cases hc; exact Reads.int Tryz.underlying41
    | 1, hd, hc => cases hd; cases hc; exact Reads.int Tryz.underlying41
    | 2, hd, hc => cases hd; cases hc; exact Reads.int Tryz.underlying41
    | 3, hd, hc => cases hd; cases hc; exact Reads.int Tryz.underlying41
    | 4, hd, hc => cases hd; cases hc; exact Reads.int Tryz.underlying41
    | 5, hd, hc => cases hd; cases hc; exact Reads.int Tryz.underlying41
    | 6, hd, hc => cases hd; cases hc; exact Reads.int Tryz.underlying41
    | 7, hd, hc => cases hd; cases hc; exact Reads.int Tryz.underlying41
    | 8, hd, hc => cases hd; cases hc; exact Reads.int Tryz.underlying41
    | 9, hd, hc => cases hd; cases hc; exact Reads.int Tryz.underlying41
    | 10, hd, hc => cases hd; cases hc; exact Reads.int Tryz.underlying41
    | 11, hd, hc => cases hd; cases hc; exact Reads.int Tryz.underlying41
    | 12, hd, hc => cases hd; cases hc; exact Reads.int Tryz.underlying41
    | 13, hd, hc => cases hd; cases hc; exact Reads.int Tryz.underlying41
    | 14, hd, hc => cases hd; cases hc; exact Reads.int Tryz.underlying41
    | 15, hd, hc => cases hd; cases hc; exact Reads.int Tryz.underlying41
    | 16, hd, hc => cases hd; cases hc; exact Reads.int Tryz.underlying41
    | 17, hd, hc => cases hd; cases hc; exact Reads.int Tryz.underlying41
    | 18, hd, hc => cases hd; cases hc; exact Reads.int Tryz.underlying41
    | 19, hd, hc => cases hd; cases hc; exact Reads.int Tryz.underlying41
    | j + 20, hd, hc => exact absurd (show j + 20 < 20 from (List.getElem?_eq_some_iff.1 hc).1) (by omega))
  rw [flat1] at h
  exact h
theorem reads1 : Reads Tryz.prog 284 Rows.laid_groundling_words_escapes (escTab.map (Value.int .u8)) := by
  have h := Reads.arr (sz := 2) (cl := [[.int .u8 34, .int .u8 34], [.int .u8 92, .int .u8 92], [.int .u8 10, .int .u8 110], [.int .u8 13, .int .u8 114], [.int .u8 9, .int .u8 116]]) (ds := tabDs Rows.laid_groundling_words_escapes) Tryz.underlying284 (by kernel_rfl) (by kernel_rfl) (by rfl) (fun i d c hd hc => by
    match i, hd, hc with
    | 0, hd, hc =>
      cases hd; cases hc
      refine Reads.strct Tryz.underlying283 (by kernel_rfl) (by kernel_rfl) (by rfl) (fun j f d v hf hd hv => ?_)
      match j, hf, hd, hv with
      | 0, hf, hd, hv => cases hf; cases hd; cases hv; exact Reads.int Tryz.underlying5
      | 1, hf, hd, hv => cases hf; cases hd; cases hv; exact Reads.int Tryz.underlying5
      | j + 2, hf, hd, hv => simp at hd
    | 1, hd, hc =>
      cases hd; cases hc
      refine Reads.strct Tryz.underlying283 (by kernel_rfl) (by kernel_rfl) (by rfl) (fun j f d v hf hd hv => ?_)
      match j, hf, hd, hv with
      | 0, hf, hd, hv => cases hf; cases hd; cases hv; exact Reads.int Tryz.underlying5
      | 1, hf, hd, hv => cases hf; cases hd; cases hv; exact Reads.int Tryz.underlying5
      | j + 2, hf, hd, hv => simp at hd
    | 2, hd, hc =>
      cases hd; cases hc
      refine Reads.strct Tryz.underlying283 (by kernel_rfl) (by kernel_rfl) (by rfl) (fun j f d v hf hd hv => ?_)
      match j, hf, hd, hv with
      | 0, hf, hd, hv => cases hf; cases hd; cases hv; exact Reads.int Tryz.underlying5
      | 1, hf, hd, hv => cases hf; cases hd; cases hv; exact Reads.int Tryz.underlying5
      | j + 2, hf, hd, hv => simp at hd
    | 3, hd, hc =>
      cases hd; cases hc
      refine Reads.strct Tryz.underlying283 (by kernel_rfl) (by kernel_rfl) (by rfl) (fun j f d v hf hd hv => ?_)
      match j, hf, hd, hv with
      | 0, hf, hd, hv => cases hf; cases hd; cases hv; exact Reads.int Tryz.underlying5
      | 1, hf, hd, hv => cases hf; cases hd; cases hv; exact Reads.int Tryz.underlying5
      | j + 2, hf, hd, hv => simp at hd
    | 4, hd, hc =>
      cases hd; cases hc
      refine Reads.strct Tryz.underlying283 (by kernel_rfl) (by kernel_rfl) (by rfl) (fun j f d v hf hd hv => ?_)
      match j, hf, hd, hv with
      | 0, hf, hd, hv => cases hf; cases hd; cases hv; exact Reads.int Tryz.underlying5
      | 1, hf, hd, hv => cases hf; cases hd; cases hv; exact Reads.int Tryz.underlying5
      | j + 2, hf, hd, hv => simp at hd
    | j + 5, hd, hc => exact absurd (show j + 5 < 5 from (List.getElem?_eq_some_iff.1 hc).1) (by omega))
  exact h
theorem reads2 : Reads Tryz.prog 303 Rows.laid_groundling_requests_masks (maskTab.map (Value.int .u16)) := by
  have h := Reads.arr (sz := 1) (cl := (maskTab.map (Value.int .u16)).map fun v => [v]) (ds := tabDs Rows.laid_groundling_requests_masks) Tryz.underlying303 (by kernel_rfl) (by kernel_rfl) (by rfl) (fun i d c hd hc => by
    match i, hd, hc with
    | 0, hd, hc => cases hd; cases hc; exact Reads.int Tryz.underlying75
    | 1, hd, hc => cases hd; cases hc; exact Reads.int Tryz.underlying75
    | 2, hd, hc => cases hd; cases hc; exact Reads.int Tryz.underlying75
    | 3, hd, hc => cases hd; cases hc; exact Reads.int Tryz.underlying75
    | 4, hd, hc => cases hd; cases hc; exact Reads.int Tryz.underlying75
    | 5, hd, hc => cases hd; cases hc; exact Reads.int Tryz.underlying75
    | 6, hd, hc => cases hd; cases hc; exact Reads.int Tryz.underlying75
    | 7, hd, hc => cases hd; cases hc; exact Reads.int Tryz.underlying75
    | 8, hd, hc => cases hd; cases hc; exact Reads.int Tryz.underlying75
    | 9, hd, hc => cases hd; cases hc; exact Reads.int Tryz.underlying75
    | 10, hd, hc => cases hd; cases hc; exact Reads.int Tryz.underlying75
    | 11, hd, hc => cases hd; cases hc; exact Reads.int Tryz.underlying75
    | 12, hd, hc => cases hd; cases hc; exact Reads.int Tryz.underlying75
    | 13, hd, hc => cases hd; cases hc; exact Reads.int Tryz.underlying75
    | j + 14, hd, hc => exact absurd (show j + 14 < 14 from (List.getElem?_eq_some_iff.1 hc).1) (by omega))
  rw [flat1] at h
  exact h
theorem amb_of_laid {W : World} (h : laidMetH Tryz.prog dlaid W) : Amb (cx0 W).pr W := by
  rw [MakeChecks.laidMetH_plain _ _ _ (by kernel_rfl)] at h
  refine Amb.of_heap (fun p hp => ?_)
  have h3 := tab_of_mem (name := "internal/strconv.uint64pow10") (g := 3) (t := 317) (by kernel_rfl) (by kernel_rfl) reads3 (show _ ∈ dlaid from List.mem_cons_of_mem _ (List.mem_cons_of_mem _ (List.mem_cons_self ..))) h
  have h1 := tab_of_mem (name := "groundling/words.escapes") (g := 1) (t := 284) (by kernel_rfl) (by kernel_rfl) reads1 (show _ ∈ dlaid from List.mem_cons_of_mem _ (List.mem_cons_of_mem _ (List.mem_cons_of_mem _ (List.mem_cons_of_mem _ (List.mem_cons_self ..))))) h
  have h2 := tab_of_mem (name := "groundling/requests.masks") (g := 2) (t := 303) (by kernel_rfl) (by kernel_rfl) reads2 (show _ ∈ dlaid from List.mem_cons_of_mem _ (List.mem_cons_of_mem _ (List.mem_cons_of_mem _ (List.mem_cons_of_mem _ (List.mem_cons_of_mem _ (List.mem_cons_self ..)))))) h
  simp only [tabs, List.mem_cons, List.not_mem_nil, or_false] at hp
  rcases hp with rfl | rfl | rfl
  · exact ⟨by decide, h3⟩
  · exact ⟨by decide, h1⟩
  · exact ⟨by decide, h2⟩
end Go.Proofs.YteccglgbkehdeaaGreatDoor
