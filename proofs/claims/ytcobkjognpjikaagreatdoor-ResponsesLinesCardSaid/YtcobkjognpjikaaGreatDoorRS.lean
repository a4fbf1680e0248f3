/- responses: the functions of one response. -/
import Derived.Test.YtcobkjognpjikaaGreatDoorRR
set_option linter.unusedSimpArgs false
set_option linter.unusedVariables false
namespace Go.Proofs.YtcobkjognpjikaaGreatDoor

/-- a response -/
structure Rs where
  kind : Int
  id : Int
  err : Int
  ses : List UInt8
  tic : List UInt8
  seat : Int
  n : Int
  place : Int
  dl : Int
instance : Inhabited Rs := ⟨⟨0, 0, 0, [], [], 0, 0, 0, 0⟩⟩
def Rs.c (r : Rs) : List SV := [.val (.int .i64 r.kind), .val (.int .u64 r.id), .val (.int .i64 r.err), .val (.string ⟨r.ses.toArray⟩), .val (.string ⟨r.tic.toArray⟩), .val (.int .i64 r.seat), .val (.int .i64 r.n), .val (.int .i64 r.place), .val (.int .i64 r.dl)]
structure RsOk (r : Rs) : Prop where
  kind : R64 r.kind
  id : 0 ≤ r.id ∧ r.id < 18446744073709551616
  err : R64 r.err
  ses : r.ses.length ≤ maxLen
  tic : r.tic.length ≤ maxLen
  seat : R64 r.seat
  n : R64 r.n
  place : R64 r.place
  dl : R64 r.dl
def knownS (k : Int) : Bool := decide (k = 0) || decide ((rulesQ k).2 = 0)
def moreT (k : Int) : List Int := if k = 1 then [3, 8] else if k = 2 then [8] else if k = 3 then [5, 6, 8] else if k = 5 then [4] else if k = 6 then [4] else if k = 10 then [7] else []
theorem moreT_len (k : Int) : (moreT k).length ≤ 3 := by unfold moreT; (repeat' split) <;> simp
/-- the value of a tag, in an interface -/
inductive VV where
  | u64 (n : Int)
  | err (n : Int)
  | str (l : List UInt8)
  | int (n : Int)
  | i64 (n : Int)
def VV.v : VV → Value
  | .u64 n => .iface 22 (.int .u64 n)
  | .err n => .iface 23 (.int .i64 n)
  | .str l => .iface 9 (.string ⟨l.toArray⟩)
  | .int n => .iface 3 (.int .i64 n)
  | .i64 n => .iface 2 (.int .i64 n)
def valS (r : Rs) (t : Int) : VV := if t = 1 then .u64 r.id else if t = 2 then .err r.err else if t = 3 then .str r.ses else if t = 4 then .str r.tic else if t = 5 then .int r.seat else if t = 6 then .int r.n else if t = 7 then .int r.place else .i64 r.dl
def VV.f (t : Int) : VV → Fld
  | .u64 n => ⟨t, n, []⟩
  | .err n => ⟨t, uw n, []⟩
  | .str l => ⟨t, 0, l⟩
  | .int n => ⟨t, uw n, []⟩
  | .i64 n => ⟨t, uw n, []⟩
def fieldS (r : Rs) (t : Int) : Fld := (valS r t).f t
def limitS (k t : Int) : Rule := if (decide (t = 1) && decide (k = 0)) = true then ⟨t, 1, 0, 0, true⟩ else if t = 1 then ⟨t, 1, 1, 9223372036854775807, true⟩ else if t = 2 then ⟨t, 1, 0, 255, true⟩ else if t = 8 then ⟨t, 1, 0, 9223372036854775807, true⟩
  else if t = 3 then ⟨t, 2, 44, 44, true⟩ else if t = 4 then ⟨t, 2, 56, 56, true⟩ else ⟨t, 1, 0, 2147483647, true⟩
/-- a number of 64 bits as one with a sign -/
def sw (n : Int) : Int := IntKind.i64.wrap n
def putS (r : Rs) (f : Fld) : Rs := if f.tag = 1 then { r with id := f.num } else if f.tag = 2 then { r with err := sw f.num } else if f.tag = 3 then { r with ses := f.txt } else if f.tag = 4 then { r with tic := f.txt }
  else if f.tag = 5 then { r with seat := sw f.num } else if f.tag = 6 then { r with n := sw f.num } else if f.tag = 7 then { r with place := sw f.num } else if f.tag = 8 then { r with dl := sw f.num } else r

theorem knownS_P (k : Int) : PC Tryz.prog 42 [.i k] (.b (knownS k)) := by
 refine ⟨LC.of_go Tryz.func42 (c := _) rfl (by kernel_rfl) (by rw [Tryz.ntmps42]; simp) rfl rfl (by simp [LO.lt, LV.lts, LV.lt]) (by simp) ?_⟩
 intro B hA hmd
 unfold knownS
 refine .seq ?_
 refine .region rfl ?_
 refine R.assign (h := ?_)
 refine .n0 ?_
 refine .seq ?_
 refine .region rfl ?_
 refine R.move (h := ?_)
 refine R.callP (es := [_]) (fun _ => rulesQ_P k) (h := ?_)
 refine R.move (h := ?_)
 refine R.extract (h := ?_)
 refine R.extract (h := ?_)
 refine R.assign (h := ?_)
 refine R.assign (h := ?_)
 refine .n0 ?_
 refine .seq ?_
 refine .region rfl ?_
 refine R.move (h := ?_)
 refine R.bin (run_eql _ _ _ _ _ _) (h := ?_)
 refine R.move (h := ?_)
 refine R.move (h := ?_)
 refine R.bin (run_eql _ _ _ _ _ _) (h := ?_)
 refine R.or (h := ?_)
 refine R.assign (h := ?_)
 refine .n0 ?_
 exact LGo.ret (ret_T Tryz.results42 hA hmd)

theorem moreT_P (k : Int) : PC Tryz.prog 40 [.i k] (.sv (.sl 1 (ic .i64 (moreT k)))) := by
 refine ⟨LC.of_go Tryz.func40 (c := _) rfl (by kernel_rfl) (by rw [Tryz.ntmps40]; simp) rfl rfl (by simp [LO.lt, LV.lts, LV.lt]) (by simp) ?_⟩
 intro B hA hmd
 obtain ⟨g, e0⟩ : ∃ g, moreT k = g := ⟨_, rfl⟩
 have e1 := e0
 unfold moreT at e1
 rw [e0]
 refine .seq ?_
 refine .region rfl ?_
 refine R.assign (h := ?_)
 refine .n0 ?_
 refine .seq ?_
 refine .seq ?_
 refine .region rfl ?_
 refine R.move (h := ?_)
 refine .n0 ?_
 refine .block ?_
 refine .seq ?_
 refine .region rfl ?_
 refine R.bin (run_eql _ _ _ _ _ _) (h := ?_)
 refine R.assign (h := ?_)
 refine .n0 ?_
 first | refine LGo.ifd (ht := fun hc => ?_) (hf := fun hc => ?_) | refine LGo.ifb (ht := fun hc => ?_) (hf := fun hc => ?_)
 ·
  rw [if_pos hc] at e1
  refine .seq ?_
  refine .region rfl ?_
  refine R.buildSliceF AP81 (ic .i64 [3, 8]) (xs := [_, _]) (es := [_, _]) (hcs := CellsOfs.cons (CellsOf.one rfl) (CellsOfs.cons (CellsOf.one rfl) (CellsOfs.nil))) (h := ?_)
  refine R.assign (h := ?_)
  refine .n0 ?_
  rw [← e1]
  first | exact LGo.ret (ret_T Tryz.results40 hA hmd) | (refine LGo.nilSl 2 1 (h := ?_); exact LGo.ret (ret_T Tryz.results40 hA hmd))
 ·
  rw [if_neg hc] at e1
  refine .seq ?_
  refine .region rfl ?_
  refine R.bin (run_eql _ _ _ _ _ _) (h := ?_)
  refine R.assign (h := ?_)
  refine .n0 ?_
  first | refine LGo.ifd (ht := fun hc2 => ?_) (hf := fun hc2 => ?_) | refine LGo.ifb (ht := fun hc2 => ?_) (hf := fun hc2 => ?_)
  ·
   rw [if_pos hc2] at e1
   refine .seq ?_
   refine .region rfl ?_
   refine R.buildSliceF AP81 (ic .i64 [8]) (xs := [_]) (es := [_]) (hcs := CellsOfs.cons (CellsOf.one rfl) (CellsOfs.nil)) (h := ?_)
   refine R.assign (h := ?_)
   refine .n0 ?_
   rw [← e1]
   first | exact LGo.ret (ret_T Tryz.results40 hA hmd) | (refine LGo.nilSl 2 1 (h := ?_); exact LGo.ret (ret_T Tryz.results40 hA hmd))
  ·
   rw [if_neg hc2] at e1
   refine .seq ?_
   refine .region rfl ?_
   refine R.bin (run_eql _ _ _ _ _ _) (h := ?_)
   refine R.assign (h := ?_)
   refine .n0 ?_
   first | refine LGo.ifd (ht := fun hc3 => ?_) (hf := fun hc3 => ?_) | refine LGo.ifb (ht := fun hc3 => ?_) (hf := fun hc3 => ?_)
   ·
    rw [if_pos hc3] at e1
    refine .seq ?_
    refine .region rfl ?_
    refine R.buildSliceF AP81 (ic .i64 [5, 6, 8]) (xs := [_, _, _]) (es := [_, _, _]) (hcs := CellsOfs.cons (CellsOf.one rfl) (CellsOfs.cons (CellsOf.one rfl) (CellsOfs.cons (CellsOf.one rfl) (CellsOfs.nil)))) (h := ?_)
    refine R.assign (h := ?_)
    refine .n0 ?_
    rw [← e1]
    first | exact LGo.ret (ret_T Tryz.results40 hA hmd) | (refine LGo.nilSl 2 1 (h := ?_); exact LGo.ret (ret_T Tryz.results40 hA hmd))
   ·
    rw [if_neg hc3] at e1
    refine .seq ?_
    refine .seq ?_
    refine .region rfl ?_
    refine R.bin (run_eql _ _ _ _ _ _) (h := ?_)
    refine R.assign (h := ?_)
    refine .n0 ?_
    first | refine LGo.ifd (ht := fun hc4 => ?_) (hf := fun hc4 => ?_) | refine LGo.ifb (ht := fun hc4 => ?_) (hf := fun hc4 => ?_)
    ·
     rw [if_pos hc4] at e1
     refine .skip ?_
     first | refine LGo.ifd (ht := fun _ => ?_) (hf := fun h => absurd hc4 h) | refine LGo.ifb (ht := fun _ => ?_) (hf := fun h => by rw [hc4] at h; cases h)
     refine .seq ?_
     refine .region rfl ?_
     refine R.buildSliceF AP81 (ic .i64 [4]) (xs := [_]) (es := [_]) (hcs := CellsOfs.cons (CellsOf.one rfl) (CellsOfs.nil)) (h := ?_)
     refine R.assign (h := ?_)
     refine .n0 ?_
     rw [← e1]
     first | exact LGo.ret (ret_T Tryz.results40 hA hmd) | (refine LGo.nilSl 2 1 (h := ?_); exact LGo.ret (ret_T Tryz.results40 hA hmd))
    ·
     rw [if_neg hc4] at e1
     refine .region rfl ?_
     refine R.bin (run_eql _ _ _ _ _ _) (h := ?_)
     refine R.assign (h := ?_)
     refine .n0 ?_
     first | refine LGo.ifd (ht := fun hc6 => ?_) (hf := fun hc6 => ?_) | refine LGo.ifb (ht := fun hc6 => ?_) (hf := fun hc6 => ?_)
     ·
      rw [if_pos hc6] at e1
      refine .seq ?_
      refine .region rfl ?_
      refine R.buildSliceF AP81 (ic .i64 [4]) (xs := [_]) (es := [_]) (hcs := CellsOfs.cons (CellsOf.one rfl) (CellsOfs.nil)) (h := ?_)
      refine R.assign (h := ?_)
      refine .n0 ?_
      rw [← e1]
      first | exact LGo.ret (ret_T Tryz.results40 hA hmd) | (refine LGo.nilSl 2 1 (h := ?_); exact LGo.ret (ret_T Tryz.results40 hA hmd))
     ·
      rw [if_neg hc6] at e1
      refine .seq ?_
      refine .region rfl ?_
      refine R.bin (run_eql _ _ _ _ _ _) (h := ?_)
      refine R.assign (h := ?_)
      refine .n0 ?_
      first | refine LGo.ifd (ht := fun hc7 => ?_) (hf := fun hc7 => ?_) | refine LGo.ifb (ht := fun hc7 => ?_) (hf := fun hc7 => ?_)
      ·
       rw [if_pos hc7] at e1
       refine .seq ?_
       refine .region rfl ?_
       refine R.buildSliceF AP81 (ic .i64 [7]) (xs := [_]) (es := [_]) (hcs := CellsOfs.cons (CellsOf.one rfl) (CellsOfs.nil)) (h := ?_)
       refine R.assign (h := ?_)
       refine .n0 ?_
       rw [← e1]
       first | exact LGo.ret (ret_T Tryz.results40 hA hmd) | (refine LGo.nilSl 2 1 (h := ?_); exact LGo.ret (ret_T Tryz.results40 hA hmd))
      ·
       rw [if_neg hc7] at e1
       refine .skip ?_
       refine .inBlock ?_
       refine .seq ?_
       refine .region rfl ?_
       refine R.assign (h := ?_)
       refine .n0 ?_
       rw [← e1]
       first | exact LGo.ret (ret_T Tryz.results40 hA hmd) | (refine LGo.nilSl 2 1 (h := ?_); exact LGo.ret (ret_T Tryz.results40 hA hmd))

theorem valS_P (r : Rs) (t : Int) : PC Tryz.prog 46 [.agg (r.c.map LV.sv), .i t] (.v (valS r t).v) := by
 refine ⟨LC.of_go Tryz.func46 (c := _) rfl (by kernel_rfl) (by rw [Tryz.ntmps46]; simp) rfl rfl (by simp [LO.lt, LV.lts, LV.lt]) (by simp) ?_⟩
 intro B hA hmd
 obtain ⟨g, e0⟩ : ∃ g, valS r t = g := ⟨_, rfl⟩
 have e1 := e0
 unfold valS at e1
 rw [e0]
 refine .seq ?_
 refine .region rfl ?_
 refine R.box (h := ?_)
 refine R.assign (h := ?_)
 refine .n0 ?_
 refine .seq ?_
 refine .seq ?_
 refine .region rfl ?_
 refine R.move (h := ?_)
 refine .n0 ?_
 refine .block ?_
 refine .seq ?_
 refine .region rfl ?_
 refine R.bin (run_eql _ _ _ _ _ _) (h := ?_)
 refine R.assign (h := ?_)
 refine .n0 ?_
 first | refine LGo.ifd (ht := fun hc => ?_) (hf := fun hc => ?_) | refine LGo.ifb (ht := fun hc => ?_) (hf := fun hc => ?_)
 ·
  rw [if_pos hc] at e1
  refine .seq ?_
  refine .region rfl ?_
  first | refine R.field F25_1 (h := ?_) | refine R.fieldAt F25_1 (h := ?_)
  first | refine R.loadB O22 (h := ?_) | refine R.load1 O22 (h := ?_)
  refine R.mkI (run_mkI Tryz.runUnderlying22 (by intro ms h; cases h)) (h := ?_)
  refine R.assign (h := ?_)
  refine .n0 ?_
  rw [← e1]
  exact LGo.ret (ret_T Tryz.results46 hA hmd)
 ·
  rw [if_neg hc] at e1
  refine .seq ?_
  refine .region rfl ?_
  refine R.bin (run_eql _ _ _ _ _ _) (h := ?_)
  refine R.assign (h := ?_)
  refine .n0 ?_
  first | refine LGo.ifd (ht := fun hc2 => ?_) (hf := fun hc2 => ?_) | refine LGo.ifb (ht := fun hc2 => ?_) (hf := fun hc2 => ?_)
  ·
   rw [if_pos hc2] at e1
   refine .seq ?_
   refine .region rfl ?_
   first | refine R.field F25_2 (h := ?_) | refine R.fieldAt F25_2 (h := ?_)
   first | refine R.loadB O23 (h := ?_) | refine R.load1 O23 (h := ?_)
   refine R.mkI (run_mkI Tryz.runUnderlying23 (by intro ms h; cases h)) (h := ?_)
   refine R.assign (h := ?_)
   refine .n0 ?_
   rw [← e1]
   exact LGo.ret (ret_T Tryz.results46 hA hmd)
  ·
   rw [if_neg hc2] at e1
   refine .seq ?_
   refine .region rfl ?_
   refine R.bin (run_eql _ _ _ _ _ _) (h := ?_)
   refine R.assign (h := ?_)
   refine .n0 ?_
   first | refine LGo.ifd (ht := fun hc3 => ?_) (hf := fun hc3 => ?_) | refine LGo.ifb (ht := fun hc3 => ?_) (hf := fun hc3 => ?_)
   ·
    rw [if_pos hc3] at e1
    refine .seq ?_
    refine .region rfl ?_
    first | refine R.field F25_3 (h := ?_) | refine R.fieldAt F25_3 (h := ?_)
    first | refine R.loadB O9 (h := ?_) | refine R.load1 O9 (h := ?_)
    refine R.mkI (run_mkI Tryz.runUnderlying9 (by intro ms h; cases h)) (h := ?_)
    refine R.assign (h := ?_)
    refine .n0 ?_
    rw [← e1]
    exact LGo.ret (ret_T Tryz.results46 hA hmd)
   ·
    rw [if_neg hc3] at e1
    refine .seq ?_
    refine .region rfl ?_
    refine R.bin (run_eql _ _ _ _ _ _) (h := ?_)
    refine R.assign (h := ?_)
    refine .n0 ?_
    first | refine LGo.ifd (ht := fun hc4 => ?_) (hf := fun hc4 => ?_) | refine LGo.ifb (ht := fun hc4 => ?_) (hf := fun hc4 => ?_)
    ·
     rw [if_pos hc4] at e1
     refine .seq ?_
     refine .region rfl ?_
     first | refine R.field F25_4 (h := ?_) | refine R.fieldAt F25_4 (h := ?_)
     first | refine R.loadB O9 (h := ?_) | refine R.load1 O9 (h := ?_)
     refine R.mkI (run_mkI Tryz.runUnderlying9 (by intro ms h; cases h)) (h := ?_)
     refine R.assign (h := ?_)
     refine .n0 ?_
     rw [← e1]
     exact LGo.ret (ret_T Tryz.results46 hA hmd)
    ·
     rw [if_neg hc4] at e1
     refine .seq ?_
     refine .region rfl ?_
     refine R.bin (run_eql _ _ _ _ _ _) (h := ?_)
     refine R.assign (h := ?_)
     refine .n0 ?_
     first | refine LGo.ifd (ht := fun hc5 => ?_) (hf := fun hc5 => ?_) | refine LGo.ifb (ht := fun hc5 => ?_) (hf := fun hc5 => ?_)
     ·
      rw [if_pos hc5] at e1
      refine .seq ?_
      refine .region rfl ?_
      first | refine R.field F25_5 (h := ?_) | refine R.fieldAt F25_5 (h := ?_)
      first | refine R.loadB O3 (h := ?_) | refine R.load1 O3 (h := ?_)
      refine R.mkI (run_mkI Tryz.runUnderlying3 (by intro ms h; cases h)) (h := ?_)
      refine R.assign (h := ?_)
      refine .n0 ?_
      rw [← e1]
      exact LGo.ret (ret_T Tryz.results46 hA hmd)
     ·
      rw [if_neg hc5] at e1
      refine .seq ?_
      refine .region rfl ?_
      refine R.bin (run_eql _ _ _ _ _ _) (h := ?_)
      refine R.assign (h := ?_)
      refine .n0 ?_
      first | refine LGo.ifd (ht := fun hc6 => ?_) (hf := fun hc6 => ?_) | refine LGo.ifb (ht := fun hc6 => ?_) (hf := fun hc6 => ?_)
      ·
       rw [if_pos hc6] at e1
       refine .seq ?_
       refine .region rfl ?_
       first | refine R.field F25_6 (h := ?_) | refine R.fieldAt F25_6 (h := ?_)
       first | refine R.loadB O3 (h := ?_) | refine R.load1 O3 (h := ?_)
       refine R.mkI (run_mkI Tryz.runUnderlying3 (by intro ms h; cases h)) (h := ?_)
       refine R.assign (h := ?_)
       refine .n0 ?_
       rw [← e1]
       exact LGo.ret (ret_T Tryz.results46 hA hmd)
      ·
       rw [if_neg hc6] at e1
       refine .seq ?_
       refine .region rfl ?_
       refine R.bin (run_eql _ _ _ _ _ _) (h := ?_)
       refine R.assign (h := ?_)
       refine .n0 ?_
       first | refine LGo.ifd (ht := fun hc7 => ?_) (hf := fun hc7 => ?_) | refine LGo.ifb (ht := fun hc7 => ?_) (hf := fun hc7 => ?_)
       ·
        rw [if_pos hc7] at e1
        refine .seq ?_
        refine .region rfl ?_
        first | refine R.field F25_7 (h := ?_) | refine R.fieldAt F25_7 (h := ?_)
        first | refine R.loadB O3 (h := ?_) | refine R.load1 O3 (h := ?_)
        refine R.mkI (run_mkI Tryz.runUnderlying3 (by intro ms h; cases h)) (h := ?_)
        refine R.assign (h := ?_)
        refine .n0 ?_
        rw [← e1]
        exact LGo.ret (ret_T Tryz.results46 hA hmd)
       ·
        rw [if_neg hc7] at e1
        refine .skip ?_
        refine .inBlock ?_
        refine .seq ?_
        refine .region rfl ?_
        first | refine R.field F25_8 (h := ?_) | refine R.fieldAt F25_8 (h := ?_)
        first | refine R.loadB O2 (h := ?_) | refine R.load1 O2 (h := ?_)
        refine R.mkI (run_mkI Tryz.runUnderlying2 (by intro ms h; cases h)) (h := ?_)
        refine R.assign (h := ?_)
        refine .n0 ?_
        rw [← e1]
        exact LGo.ret (ret_T Tryz.results46 hA hmd)

theorem limitS_P (k t : Int) : PC Tryz.prog 44 [.i k, .i t] (.agg ((limitS k t).c.map LV.sv)) := by
 refine ⟨LC.of_go Tryz.func44 (c := _) rfl (by kernel_rfl) (by rw [Tryz.ntmps44]; simp) rfl rfl (by simp [LO.lt, LV.lts, LV.lt]) (by simp) ?_⟩
 intro B hA hmd
 obtain ⟨g, e0⟩ : ∃ g, limitS k t = g := ⟨_, rfl⟩
 have e1 := e0
 unfold limitS at e1
 rw [e0]
 refine .seq ?_
 refine .region rfl ?_
 refine R.alloc Z88 (h := ?_)
 refine .n0 ?_
 refine .seq ?_
 refine .region rfl ?_
 refine R.move (h := ?_)
 refine R.build BF88 (is := [0, 1, 3, 4]) (xs := [_, _, _, _]) (es := [_, _, _, _]) (h := ?_)
 refine R.alloc Z88 (h := ?_)
 refine R.storeA A88 (h := ?_)
 refine .n0 ?_
 refine .seq ?_
 refine .block ?_
 refine .seq ?_
 refine .region rfl ?_
 refine R.move (h := ?_)
 refine R.bin (run_eql _ _ _ _ _ _) (h := ?_)
 refine R.move (h := ?_)
 refine R.move (h := ?_)
 refine R.bin (run_eql _ _ _ _ _ _) (h := ?_)
 refine R.and (h := ?_)
 refine R.assign (h := ?_)
 refine .n0 ?_
 refine LGo.ifb (ht := fun hc => ?_) (hf := fun hc => ?_)
 ·
  rw [if_pos hc] at e1
  refine .region rfl ?_
  first | refine R.field F88_3 (h := ?_) | refine R.fieldAt F88_3 (h := ?_)
  refine R.storeB O22 (h := ?_)
  refine .n0 ?_
  refine .inBlock ?_
  refine .seq ?_
  refine .region rfl ?_
  first | refine R.loadA A88 (h := ?_) | refine R.loadN A88 (h := ?_) | refine R.loadP A88 (h := ?_)
  refine R.storeA A88 (h := ?_)
  refine .n0 ?_
  rw [← e1]
  exact LGo.ret (ret_A Tryz.results44 A88 hA hmd)
 ·
  rw [if_neg (by rw [hc]; simp)] at e1
  refine .seq ?_
  refine .region rfl ?_
  refine R.move (h := ?_)
  refine R.bin (run_eql _ _ _ _ _ _) (h := ?_)
  refine R.assign (h := ?_)
  refine .n0 ?_
  first | refine LGo.ifd (ht := fun hc2 => ?_) (hf := fun hc2 => ?_) | refine LGo.ifb (ht := fun hc2 => ?_) (hf := fun hc2 => ?_)
  ·
   rw [if_pos hc2] at e1
   refine .region rfl ?_
   first | refine R.field F88_2 (h := ?_) | refine R.fieldAt F88_2 (h := ?_)
   refine R.storeB O22 (h := ?_)
   first | refine R.field F88_3 (h := ?_) | refine R.fieldAt F88_3 (h := ?_)
   refine R.storeB O22 (h := ?_)
   refine .n0 ?_
   refine .inBlock ?_
   refine .seq ?_
   refine .region rfl ?_
   first | refine R.loadA A88 (h := ?_) | refine R.loadN A88 (h := ?_) | refine R.loadP A88 (h := ?_)
   refine R.storeA A88 (h := ?_)
   refine .n0 ?_
   rw [← e1]
   exact LGo.ret (ret_A Tryz.results44 A88 hA hmd)
  ·
   rw [if_neg hc2] at e1
   refine .seq ?_
   refine .region rfl ?_
   refine R.move (h := ?_)
   refine R.bin (run_eql _ _ _ _ _ _) (h := ?_)
   refine R.assign (h := ?_)
   refine .n0 ?_
   first | refine LGo.ifd (ht := fun hc3 => ?_) (hf := fun hc3 => ?_) | refine LGo.ifb (ht := fun hc3 => ?_) (hf := fun hc3 => ?_)
   ·
    rw [if_pos hc3] at e1
    refine .region rfl ?_
    first | refine R.field F88_3 (h := ?_) | refine R.fieldAt F88_3 (h := ?_)
    refine R.storeB O22 (h := ?_)
    refine .n0 ?_
    refine .inBlock ?_
    refine .seq ?_
    refine .region rfl ?_
    first | refine R.loadA A88 (h := ?_) | refine R.loadN A88 (h := ?_) | refine R.loadP A88 (h := ?_)
    refine R.storeA A88 (h := ?_)
    refine .n0 ?_
    rw [← e1]
    exact LGo.ret (ret_A Tryz.results44 A88 hA hmd)
   ·
    rw [if_neg hc3] at e1
    refine .seq ?_
    refine .region rfl ?_
    refine R.move (h := ?_)
    refine R.bin (run_eql _ _ _ _ _ _) (h := ?_)
    refine R.assign (h := ?_)
    refine .n0 ?_
    first | refine LGo.ifd (ht := fun hc4 => ?_) (hf := fun hc4 => ?_) | refine LGo.ifb (ht := fun hc4 => ?_) (hf := fun hc4 => ?_)
    ·
     rw [if_pos hc4] at e1
     refine .region rfl ?_
     first | refine R.field F88_3 (h := ?_) | refine R.fieldAt F88_3 (h := ?_)
     refine R.storeB O22 (h := ?_)
     refine .n0 ?_
     refine .inBlock ?_
     refine .seq ?_
     refine .region rfl ?_
     first | refine R.loadA A88 (h := ?_) | refine R.loadN A88 (h := ?_) | refine R.loadP A88 (h := ?_)
     refine R.storeA A88 (h := ?_)
     refine .n0 ?_
     rw [← e1]
     exact LGo.ret (ret_A Tryz.results44 A88 hA hmd)
    ·
     rw [if_neg hc4] at e1
     refine .seq ?_
     refine .region rfl ?_
     refine R.move (h := ?_)
     refine R.bin (run_eql _ _ _ _ _ _) (h := ?_)
     refine R.assign (h := ?_)
     refine .n0 ?_
     first | refine LGo.ifd (ht := fun hc5 => ?_) (hf := fun hc5 => ?_) | refine LGo.ifb (ht := fun hc5 => ?_) (hf := fun hc5 => ?_)
     ·
      rw [if_pos hc5] at e1
      refine .region rfl ?_
      first | refine R.field F88_1 (h := ?_) | refine R.fieldAt F88_1 (h := ?_)
      refine R.storeB O3 (h := ?_)
      first | refine R.field F88_2 (h := ?_) | refine R.fieldAt F88_2 (h := ?_)
      refine R.storeB O22 (h := ?_)
      first | refine R.field F88_3 (h := ?_) | refine R.fieldAt F88_3 (h := ?_)
      refine R.storeB O22 (h := ?_)
      refine .n0 ?_
      refine .inBlock ?_
      refine .seq ?_
      refine .region rfl ?_
      first | refine R.loadA A88 (h := ?_) | refine R.loadN A88 (h := ?_) | refine R.loadP A88 (h := ?_)
      refine R.storeA A88 (h := ?_)
      refine .n0 ?_
      rw [← e1]
      exact LGo.ret (ret_A Tryz.results44 A88 hA hmd)
     ·
      rw [if_neg hc5] at e1
      refine .seq ?_
      refine .region rfl ?_
      refine R.move (h := ?_)
      refine R.bin (run_eql _ _ _ _ _ _) (h := ?_)
      refine R.assign (h := ?_)
      refine .n0 ?_
      first | refine LGo.ifd (ht := fun hc6 => ?_) (hf := fun hc6 => ?_) | refine LGo.ifb (ht := fun hc6 => ?_) (hf := fun hc6 => ?_)
      ·
       rw [if_pos hc6] at e1
       refine .region rfl ?_
       first | refine R.field F88_1 (h := ?_) | refine R.fieldAt F88_1 (h := ?_)
       refine R.storeB O3 (h := ?_)
       first | refine R.field F88_2 (h := ?_) | refine R.fieldAt F88_2 (h := ?_)
       refine R.storeB O22 (h := ?_)
       first | refine R.field F88_3 (h := ?_) | refine R.fieldAt F88_3 (h := ?_)
       refine R.storeB O22 (h := ?_)
       refine .n0 ?_
       refine .inBlock ?_
       refine .seq ?_
       refine .region rfl ?_
       first | refine R.loadA A88 (h := ?_) | refine R.loadN A88 (h := ?_) | refine R.loadP A88 (h := ?_)
       refine R.storeA A88 (h := ?_)
       refine .n0 ?_
       rw [← e1]
       exact LGo.ret (ret_A Tryz.results44 A88 hA hmd)
      ·
       rw [if_neg hc6] at e1
       refine .skip ?_
       refine .inBlock ?_
       refine .seq ?_
       refine .region rfl ?_
       first | refine R.loadA A88 (h := ?_) | refine R.loadN A88 (h := ?_) | refine R.loadP A88 (h := ?_)
       refine R.storeA A88 (h := ?_)
       refine .n0 ?_
       rw [← e1]
       exact LGo.ret (ret_A Tryz.results44 A88 hA hmd)

theorem putS_P (r : Rs) (f : Fld) : PC Tryz.prog 41 [.agg (r.c.map LV.sv), .agg (f.c.map LV.sv)] (.agg ((putS r f).c.map LV.sv)) := by
 refine ⟨LC.of_go Tryz.func41 (c := _) rfl (by kernel_rfl) (by rw [Tryz.ntmps41]; simp) rfl rfl (by simp [LO.lt, LV.lts, LV.lt]) (by simp) ?_⟩
 intro B hA hmd
 obtain ⟨g, e0⟩ : ∃ g, putS r f = g := ⟨_, rfl⟩
 have e1 := e0
 unfold putS at e1
 rw [e0]
 refine .seq ?_
 refine .region rfl ?_
 refine R.box (h := ?_)
 refine R.box (h := ?_)
 refine R.alloc Z25 (h := ?_)
 refine .n0 ?_
 refine .seq ?_
 refine .seq ?_
 refine .region rfl ?_
 first | refine R.field F55_0 (h := ?_) | refine R.fieldAt F55_0 (h := ?_)
 first | refine R.loadB O3 (h := ?_) | refine R.load1 O3 (h := ?_)
 refine .n0 ?_
 refine .block ?_
 refine .seq ?_
 refine .region rfl ?_
 refine R.bin (run_eql _ _ _ _ _ _) (h := ?_)
 refine R.assign (h := ?_)
 refine .n0 ?_
 first | refine LGo.ifd (ht := fun hc => ?_) (hf := fun hc => ?_) | refine LGo.ifb (ht := fun hc => ?_) (hf := fun hc => ?_)
 ·
  rw [if_pos hc] at e1
  refine .region rfl ?_
  first | refine R.field F55_1 (h := ?_) | refine R.fieldAt F55_1 (h := ?_)
  first | refine R.loadB O22 (h := ?_) | refine R.load1 O22 (h := ?_)
  first | refine R.field F25_1 (h := ?_) | refine R.fieldAt F25_1 (h := ?_)
  refine R.storeB O22 (h := ?_)
  refine .n0 ?_
  refine .inBlock ?_
  refine .seq ?_
  refine .region rfl ?_
  first | refine R.loadA A25 (h := ?_) | refine R.loadN A25 (h := ?_) | refine R.loadP A25 (h := ?_)
  refine R.storeA A25 (h := ?_)
  refine .n0 ?_
  rw [← e1]
  exact LGo.ret (ret_A Tryz.results41 A25 hA hmd)
 ·
  rw [if_neg hc] at e1
  refine .seq ?_
  refine .region rfl ?_
  refine R.bin (run_eql _ _ _ _ _ _) (h := ?_)
  refine R.assign (h := ?_)
  refine .n0 ?_
  first | refine LGo.ifd (ht := fun hc2 => ?_) (hf := fun hc2 => ?_) | refine LGo.ifb (ht := fun hc2 => ?_) (hf := fun hc2 => ?_)
  ·
   rw [if_pos hc2] at e1
   refine .region rfl ?_
   first | refine R.field F55_1 (h := ?_) | refine R.fieldAt F55_1 (h := ?_)
   first | refine R.loadB O22 (h := ?_) | refine R.load1 O22 (h := ?_)
   refine R.convW Tryz.runUnderlying22 Tryz.runUnderlying23 (h := ?_)
   first | refine R.field F25_2 (h := ?_) | refine R.fieldAt F25_2 (h := ?_)
   refine R.storeB O23 (h := ?_)
   refine .n0 ?_
   refine .inBlock ?_
   refine .seq ?_
   refine .region rfl ?_
   first | refine R.loadA A25 (h := ?_) | refine R.loadN A25 (h := ?_) | refine R.loadP A25 (h := ?_)
   refine R.storeA A25 (h := ?_)
   refine .n0 ?_
   rw [← e1]
   exact LGo.ret (ret_A Tryz.results41 A25 hA hmd)
  ·
   rw [if_neg hc2] at e1
   refine .seq ?_
   refine .region rfl ?_
   refine R.bin (run_eql _ _ _ _ _ _) (h := ?_)
   refine R.assign (h := ?_)
   refine .n0 ?_
   first | refine LGo.ifd (ht := fun hc3 => ?_) (hf := fun hc3 => ?_) | refine LGo.ifb (ht := fun hc3 => ?_) (hf := fun hc3 => ?_)
   ·
    rw [if_pos hc3] at e1
    refine .region rfl ?_
    first | refine R.field F55_2 (h := ?_) | refine R.fieldAt F55_2 (h := ?_)
    first | refine R.loadB O9 (h := ?_) | refine R.load1 O9 (h := ?_)
    first | refine R.field F25_3 (h := ?_) | refine R.fieldAt F25_3 (h := ?_)
    refine R.storeB O9 (h := ?_)
    refine .n0 ?_
    refine .inBlock ?_
    refine .seq ?_
    refine .region rfl ?_
    first | refine R.loadA A25 (h := ?_) | refine R.loadN A25 (h := ?_) | refine R.loadP A25 (h := ?_)
    refine R.storeA A25 (h := ?_)
    refine .n0 ?_
    rw [← e1]
    exact LGo.ret (ret_A Tryz.results41 A25 hA hmd)
   ·
    rw [if_neg hc3] at e1
    refine .seq ?_
    refine .region rfl ?_
    refine R.bin (run_eql _ _ _ _ _ _) (h := ?_)
    refine R.assign (h := ?_)
    refine .n0 ?_
    first | refine LGo.ifd (ht := fun hc4 => ?_) (hf := fun hc4 => ?_) | refine LGo.ifb (ht := fun hc4 => ?_) (hf := fun hc4 => ?_)
    ·
     rw [if_pos hc4] at e1
     refine .region rfl ?_
     first | refine R.field F55_2 (h := ?_) | refine R.fieldAt F55_2 (h := ?_)
     first | refine R.loadB O9 (h := ?_) | refine R.load1 O9 (h := ?_)
     first | refine R.field F25_4 (h := ?_) | refine R.fieldAt F25_4 (h := ?_)
     refine R.storeB O9 (h := ?_)
     refine .n0 ?_
     refine .inBlock ?_
     refine .seq ?_
     refine .region rfl ?_
     first | refine R.loadA A25 (h := ?_) | refine R.loadN A25 (h := ?_) | refine R.loadP A25 (h := ?_)
     refine R.storeA A25 (h := ?_)
     refine .n0 ?_
     rw [← e1]
     exact LGo.ret (ret_A Tryz.results41 A25 hA hmd)
    ·
     rw [if_neg hc4] at e1
     refine .seq ?_
     refine .region rfl ?_
     refine R.bin (run_eql _ _ _ _ _ _) (h := ?_)
     refine R.assign (h := ?_)
     refine .n0 ?_
     first | refine LGo.ifd (ht := fun hc5 => ?_) (hf := fun hc5 => ?_) | refine LGo.ifb (ht := fun hc5 => ?_) (hf := fun hc5 => ?_)
     ·
      rw [if_pos hc5] at e1
      refine .region rfl ?_
      first | refine R.field F55_1 (h := ?_) | refine R.fieldAt F55_1 (h := ?_)
      first | refine R.loadB O22 (h := ?_) | refine R.load1 O22 (h := ?_)
      refine R.convW Tryz.runUnderlying22 Tryz.runUnderlying3 (h := ?_)
      first | refine R.field F25_5 (h := ?_) | refine R.fieldAt F25_5 (h := ?_)
      refine R.storeB O3 (h := ?_)
      refine .n0 ?_
      refine .inBlock ?_
      refine .seq ?_
      refine .region rfl ?_
      first | refine R.loadA A25 (h := ?_) | refine R.loadN A25 (h := ?_) | refine R.loadP A25 (h := ?_)
      refine R.storeA A25 (h := ?_)
      refine .n0 ?_
      rw [← e1]
      exact LGo.ret (ret_A Tryz.results41 A25 hA hmd)
     ·
      rw [if_neg hc5] at e1
      refine .seq ?_
      refine .region rfl ?_
      refine R.bin (run_eql _ _ _ _ _ _) (h := ?_)
      refine R.assign (h := ?_)
      refine .n0 ?_
      first | refine LGo.ifd (ht := fun hc6 => ?_) (hf := fun hc6 => ?_) | refine LGo.ifb (ht := fun hc6 => ?_) (hf := fun hc6 => ?_)
      ·
       rw [if_pos hc6] at e1
       refine .region rfl ?_
       first | refine R.field F55_1 (h := ?_) | refine R.fieldAt F55_1 (h := ?_)
       first | refine R.loadB O22 (h := ?_) | refine R.load1 O22 (h := ?_)
       refine R.convW Tryz.runUnderlying22 Tryz.runUnderlying3 (h := ?_)
       first | refine R.field F25_6 (h := ?_) | refine R.fieldAt F25_6 (h := ?_)
       refine R.storeB O3 (h := ?_)
       refine .n0 ?_
       refine .inBlock ?_
       refine .seq ?_
       refine .region rfl ?_
       first | refine R.loadA A25 (h := ?_) | refine R.loadN A25 (h := ?_) | refine R.loadP A25 (h := ?_)
       refine R.storeA A25 (h := ?_)
       refine .n0 ?_
       rw [← e1]
       exact LGo.ret (ret_A Tryz.results41 A25 hA hmd)
      ·
       rw [if_neg hc6] at e1
       refine .seq ?_
       refine .region rfl ?_
       refine R.bin (run_eql _ _ _ _ _ _) (h := ?_)
       refine R.assign (h := ?_)
       refine .n0 ?_
       first | refine LGo.ifd (ht := fun hc7 => ?_) (hf := fun hc7 => ?_) | refine LGo.ifb (ht := fun hc7 => ?_) (hf := fun hc7 => ?_)
       ·
        rw [if_pos hc7] at e1
        refine .region rfl ?_
        first | refine R.field F55_1 (h := ?_) | refine R.fieldAt F55_1 (h := ?_)
        first | refine R.loadB O22 (h := ?_) | refine R.load1 O22 (h := ?_)
        refine R.convW Tryz.runUnderlying22 Tryz.runUnderlying3 (h := ?_)
        first | refine R.field F25_7 (h := ?_) | refine R.fieldAt F25_7 (h := ?_)
        refine R.storeB O3 (h := ?_)
        refine .n0 ?_
        refine .inBlock ?_
        refine .seq ?_
        refine .region rfl ?_
        first | refine R.loadA A25 (h := ?_) | refine R.loadN A25 (h := ?_) | refine R.loadP A25 (h := ?_)
        refine R.storeA A25 (h := ?_)
        refine .n0 ?_
        rw [← e1]
        exact LGo.ret (ret_A Tryz.results41 A25 hA hmd)
       ·
        rw [if_neg hc7] at e1
        refine .seq ?_
        refine .region rfl ?_
        refine R.bin (run_eql _ _ _ _ _ _) (h := ?_)
        refine R.assign (h := ?_)
        refine .n0 ?_
        first | refine LGo.ifd (ht := fun hc8 => ?_) (hf := fun hc8 => ?_) | refine LGo.ifb (ht := fun hc8 => ?_) (hf := fun hc8 => ?_)
        ·
         rw [if_pos hc8] at e1
         refine .region rfl ?_
         first | refine R.field F55_1 (h := ?_) | refine R.fieldAt F55_1 (h := ?_)
         first | refine R.loadB O22 (h := ?_) | refine R.load1 O22 (h := ?_)
         refine R.convW Tryz.runUnderlying22 Tryz.runUnderlying2 (h := ?_)
         first | refine R.field F25_8 (h := ?_) | refine R.fieldAt F25_8 (h := ?_)
         refine R.storeB O2 (h := ?_)
         refine .n0 ?_
         refine .inBlock ?_
         refine .seq ?_
         refine .region rfl ?_
         first | refine R.loadA A25 (h := ?_) | refine R.loadN A25 (h := ?_) | refine R.loadP A25 (h := ?_)
         refine R.storeA A25 (h := ?_)
         refine .n0 ?_
         rw [← e1]
         exact LGo.ret (ret_A Tryz.results41 A25 hA hmd)
        ·
         rw [if_neg hc8] at e1
         refine .skip ?_
         refine .inBlock ?_
         refine .seq ?_
         refine .region rfl ?_
         first | refine R.loadA A25 (h := ?_) | refine R.loadN A25 (h := ?_) | refine R.loadP A25 (h := ?_)
         refine R.storeA A25 (h := ?_)
         refine .n0 ?_
         rw [← e1]
         exact LGo.ret (ret_A Tryz.results41 A25 hA hmd)

theorem fieldS_P (r : Rs) (t : Int) : PC Tryz.prog 19 [.agg (r.c.map LV.sv), .i t] (.agg ((fieldS r t).c.map LV.sv)) := by
 refine ⟨LC.of_go Tryz.func19 (c := _) rfl (by kernel_rfl) (by rw [Tryz.ntmps19]; simp) rfl rfl (by simp [LO.lt, LV.lts, LV.lt]) (by simp) ?_⟩
 intro B hA hmd
 refine .seq ?_
 refine .region rfl ?_
 refine R.box (h := ?_)
 refine R.alloc Z55 (h := ?_)
 refine .n0 ?_
 refine .seq ?_
 refine .region rfl ?_
 refine R.move (h := ?_)
 refine R.build BF55 (is := [0]) (xs := [_]) (es := [_]) (h := ?_)
 refine R.alloc Z55 (h := ?_)
 refine R.storeA A55 (h := ?_)
 refine .n0 ?_
 refine .seq ?_
 refine .seq ?_
 refine .region rfl ?_
 first | refine R.loadA A25 (h := ?_) | refine R.loadN A25 (h := ?_) | refine R.loadP A25 (h := ?_)
 refine R.move (h := ?_)
 refine R.callP (es := [_, _]) (fun _ => valS_P r t) (h := ?_)
 refine .n0 ?_
 refine .block ?_
 refine .seq ?_
 refine .region rfl ?_
 rcases hv : valS r t with n | n | l | n | n
 ·
  have e : fieldS r t = ⟨t, n, []⟩ := by rw [fieldS, hv]; rfl
  rw [e]
  first | refine R.tassert (run_tyes Tryz.runUnderlying9 (by intro ms h; cases h) rfl) (h := ?_) | refine R.tassert (run_tno Tryz.runUnderlying9 (by intro ms h; cases h) Tryz.zeroValue9 rfl) (h := ?_)
  refine R.extract (h := ?_)
  refine R.extract (h := ?_)
  refine .n0 ?_
  refine LGo.ifb (ht := fun hc => by simp at hc) (hf := fun hc => ?_)
  refine .seq ?_
  refine .region rfl ?_
  first | refine R.tassert (run_tyes Tryz.runUnderlying22 (by intro ms h; cases h) rfl) (h := ?_) | refine R.tassert (run_tno Tryz.runUnderlying22 (by intro ms h; cases h) Tryz.zeroValue22 rfl) (h := ?_)
  refine R.extract (h := ?_)
  refine R.extract (h := ?_)
  refine .n0 ?_
  refine LGo.ifb (ht := fun hc2 => ?_) (hf := fun hc2 => by simp at hc2)
  refine .seq ?_
  refine .region rfl ?_
  refine R.assign (h := ?_)
  refine .n0 ?_
  refine .region rfl ?_
  refine R.move (h := ?_)
  first | refine R.field F55_1 (h := ?_) | refine R.fieldAt F55_1 (h := ?_)
  refine R.storeB O22 (h := ?_)
  refine .n0 ?_
  refine .inBlock ?_
  refine .seq ?_
  refine .region rfl ?_
  first | refine R.loadA A55 (h := ?_) | refine R.loadN A55 (h := ?_) | refine R.loadP A55 (h := ?_)
  refine R.storeA A55 (h := ?_)
  refine .n0 ?_
  exact LGo.ret (ret_A Tryz.results19 A55 hA hmd)
 ·
  have e : fieldS r t = ⟨t, uw n, []⟩ := by rw [fieldS, hv]; rfl
  rw [e]
  first | refine R.tassert (run_tyes Tryz.runUnderlying9 (by intro ms h; cases h) rfl) (h := ?_) | refine R.tassert (run_tno Tryz.runUnderlying9 (by intro ms h; cases h) Tryz.zeroValue9 rfl) (h := ?_)
  refine R.extract (h := ?_)
  refine R.extract (h := ?_)
  refine .n0 ?_
  refine LGo.ifb (ht := fun hc3 => by simp at hc3) (hf := fun hc3 => ?_)
  refine .seq ?_
  refine .region rfl ?_
  first | refine R.tassert (run_tyes Tryz.runUnderlying22 (by intro ms h; cases h) rfl) (h := ?_) | refine R.tassert (run_tno Tryz.runUnderlying22 (by intro ms h; cases h) Tryz.zeroValue22 rfl) (h := ?_)
  refine R.extract (h := ?_)
  refine R.extract (h := ?_)
  refine .n0 ?_
  refine LGo.ifb (ht := fun hc4 => by simp at hc4) (hf := fun hc4 => ?_)
  refine .seq ?_
  refine .region rfl ?_
  first | refine R.tassert (run_tyes Tryz.runUnderlying3 (by intro ms h; cases h) rfl) (h := ?_) | refine R.tassert (run_tno Tryz.runUnderlying3 (by intro ms h; cases h) Tryz.zeroValue3 rfl) (h := ?_)
  refine R.extract (h := ?_)
  refine R.extract (h := ?_)
  refine .n0 ?_
  refine LGo.ifb (ht := fun hc5 => by simp at hc5) (hf := fun hc5 => ?_)
  refine .seq ?_
  refine .region rfl ?_
  first | refine R.tassert (run_tyes Tryz.runUnderlying2 (by intro ms h; cases h) rfl) (h := ?_) | refine R.tassert (run_tno Tryz.runUnderlying2 (by intro ms h; cases h) Tryz.zeroValue2 rfl) (h := ?_)
  refine R.extract (h := ?_)
  refine R.extract (h := ?_)
  refine .n0 ?_
  refine LGo.ifb (ht := fun hc6 => by simp at hc6) (hf := fun hc6 => ?_)
  refine .seq ?_
  refine .region rfl ?_
  first | refine R.tassert (run_tyes Tryz.runUnderlying23 (by intro ms h; cases h) rfl) (h := ?_) | refine R.tassert (run_tno Tryz.runUnderlying23 (by intro ms h; cases h) Tryz.zeroValue23 rfl) (h := ?_)
  refine R.extract (h := ?_)
  refine R.extract (h := ?_)
  refine .n0 ?_
  refine LGo.ifb (ht := fun hc7 => ?_) (hf := fun hc7 => by simp at hc7)
  refine .seq ?_
  refine .region rfl ?_
  refine R.assign (h := ?_)
  refine .n0 ?_
  refine .region rfl ?_
  refine R.move (h := ?_)
  refine R.convW Tryz.runUnderlying23 Tryz.runUnderlying22 (h := ?_)
  rw [uw_wrap]
  first | refine R.field F55_1 (h := ?_) | refine R.fieldAt F55_1 (h := ?_)
  refine R.storeB O22 (h := ?_)
  refine .n0 ?_
  refine .inBlock ?_
  refine .seq ?_
  refine .region rfl ?_
  first | refine R.loadA A55 (h := ?_) | refine R.loadN A55 (h := ?_) | refine R.loadP A55 (h := ?_)
  refine R.storeA A55 (h := ?_)
  refine .n0 ?_
  exact LGo.ret (ret_A Tryz.results19 A55 hA hmd)
 ·
  have e : fieldS r t = ⟨t, 0, l⟩ := by rw [fieldS, hv]; rfl
  rw [e]
  first | refine R.tassert (run_tyes Tryz.runUnderlying9 (by intro ms h; cases h) rfl) (h := ?_) | refine R.tassert (run_tno Tryz.runUnderlying9 (by intro ms h; cases h) Tryz.zeroValue9 rfl) (h := ?_)
  refine R.extract (h := ?_)
  refine R.extract (h := ?_)
  refine .n0 ?_
  refine LGo.ifb (ht := fun hc8 => ?_) (hf := fun hc8 => by simp at hc8)
  refine .seq ?_
  refine .region rfl ?_
  refine R.assign (h := ?_)
  refine .n0 ?_
  refine .region rfl ?_
  refine R.move (h := ?_)
  first | refine R.field F55_2 (h := ?_) | refine R.fieldAt F55_2 (h := ?_)
  refine R.storeB O9 (h := ?_)
  refine .n0 ?_
  refine .inBlock ?_
  refine .seq ?_
  refine .region rfl ?_
  first | refine R.loadA A55 (h := ?_) | refine R.loadN A55 (h := ?_) | refine R.loadP A55 (h := ?_)
  refine R.storeA A55 (h := ?_)
  refine .n0 ?_
  exact LGo.ret (ret_A Tryz.results19 A55 hA hmd)
 ·
  have e : fieldS r t = ⟨t, uw n, []⟩ := by rw [fieldS, hv]; rfl
  rw [e]
  first | refine R.tassert (run_tyes Tryz.runUnderlying9 (by intro ms h; cases h) rfl) (h := ?_) | refine R.tassert (run_tno Tryz.runUnderlying9 (by intro ms h; cases h) Tryz.zeroValue9 rfl) (h := ?_)
  refine R.extract (h := ?_)
  refine R.extract (h := ?_)
  refine .n0 ?_
  refine LGo.ifb (ht := fun hc9 => by simp at hc9) (hf := fun hc9 => ?_)
  refine .seq ?_
  refine .region rfl ?_
  first | refine R.tassert (run_tyes Tryz.runUnderlying22 (by intro ms h; cases h) rfl) (h := ?_) | refine R.tassert (run_tno Tryz.runUnderlying22 (by intro ms h; cases h) Tryz.zeroValue22 rfl) (h := ?_)
  refine R.extract (h := ?_)
  refine R.extract (h := ?_)
  refine .n0 ?_
  refine LGo.ifb (ht := fun hc10 => by simp at hc10) (hf := fun hc10 => ?_)
  refine .seq ?_
  refine .region rfl ?_
  first | refine R.tassert (run_tyes Tryz.runUnderlying3 (by intro ms h; cases h) rfl) (h := ?_) | refine R.tassert (run_tno Tryz.runUnderlying3 (by intro ms h; cases h) Tryz.zeroValue3 rfl) (h := ?_)
  refine R.extract (h := ?_)
  refine R.extract (h := ?_)
  refine .n0 ?_
  refine LGo.ifb (ht := fun hc11 => ?_) (hf := fun hc11 => by simp at hc11)
  refine .seq ?_
  refine .region rfl ?_
  refine R.assign (h := ?_)
  refine .n0 ?_
  refine .region rfl ?_
  refine R.move (h := ?_)
  refine R.convW Tryz.runUnderlying3 Tryz.runUnderlying22 (h := ?_)
  rw [uw_wrap]
  first | refine R.field F55_1 (h := ?_) | refine R.fieldAt F55_1 (h := ?_)
  refine R.storeB O22 (h := ?_)
  refine .n0 ?_
  refine .inBlock ?_
  refine .seq ?_
  refine .region rfl ?_
  first | refine R.loadA A55 (h := ?_) | refine R.loadN A55 (h := ?_) | refine R.loadP A55 (h := ?_)
  refine R.storeA A55 (h := ?_)
  refine .n0 ?_
  exact LGo.ret (ret_A Tryz.results19 A55 hA hmd)
 ·
  have e : fieldS r t = ⟨t, uw n, []⟩ := by rw [fieldS, hv]; rfl
  rw [e]
  first | refine R.tassert (run_tyes Tryz.runUnderlying9 (by intro ms h; cases h) rfl) (h := ?_) | refine R.tassert (run_tno Tryz.runUnderlying9 (by intro ms h; cases h) Tryz.zeroValue9 rfl) (h := ?_)
  refine R.extract (h := ?_)
  refine R.extract (h := ?_)
  refine .n0 ?_
  refine LGo.ifb (ht := fun hc12 => by simp at hc12) (hf := fun hc12 => ?_)
  refine .seq ?_
  refine .region rfl ?_
  first | refine R.tassert (run_tyes Tryz.runUnderlying22 (by intro ms h; cases h) rfl) (h := ?_) | refine R.tassert (run_tno Tryz.runUnderlying22 (by intro ms h; cases h) Tryz.zeroValue22 rfl) (h := ?_)
  refine R.extract (h := ?_)
  refine R.extract (h := ?_)
  refine .n0 ?_
  refine LGo.ifb (ht := fun hc13 => by simp at hc13) (hf := fun hc13 => ?_)
  refine .seq ?_
  refine .region rfl ?_
  first | refine R.tassert (run_tyes Tryz.runUnderlying3 (by intro ms h; cases h) rfl) (h := ?_) | refine R.tassert (run_tno Tryz.runUnderlying3 (by intro ms h; cases h) Tryz.zeroValue3 rfl) (h := ?_)
  refine R.extract (h := ?_)
  refine R.extract (h := ?_)
  refine .n0 ?_
  refine LGo.ifb (ht := fun hc14 => by simp at hc14) (hf := fun hc14 => ?_)
  refine .seq ?_
  refine .region rfl ?_
  first | refine R.tassert (run_tyes Tryz.runUnderlying2 (by intro ms h; cases h) rfl) (h := ?_) | refine R.tassert (run_tno Tryz.runUnderlying2 (by intro ms h; cases h) Tryz.zeroValue2 rfl) (h := ?_)
  refine R.extract (h := ?_)
  refine R.extract (h := ?_)
  refine .n0 ?_
  refine LGo.ifb (ht := fun hc15 => ?_) (hf := fun hc15 => by simp at hc15)
  refine .seq ?_
  refine .region rfl ?_
  refine R.assign (h := ?_)
  refine .n0 ?_
  refine .region rfl ?_
  refine R.move (h := ?_)
  refine R.convW Tryz.runUnderlying2 Tryz.runUnderlying22 (h := ?_)
  rw [uw_wrap]
  first | refine R.field F55_1 (h := ?_) | refine R.fieldAt F55_1 (h := ?_)
  refine R.storeB O22 (h := ?_)
  refine .n0 ?_
  refine .inBlock ?_
  refine .seq ?_
  refine .region rfl ?_
  first | refine R.loadA A55 (h := ?_) | refine R.loadN A55 (h := ?_) | refine R.loadP A55 (h := ?_)
  refine R.storeA A55 (h := ?_)
  refine .n0 ?_
  exact LGo.ret (ret_A Tryz.results19 A55 hA hmd)

end Go.Proofs.YtcobkjognpjikaaGreatDoor
