/- responses: Decode. -/
import Derived.Test.YtcobkjognpjikaaGreatDoorRW
set_option linter.unusedSimpArgs false
set_option linter.unusedVariables false
namespace Go.Proofs.YtcobkjognpjikaaGreatDoor

def tryS (kd form : Int) (b : List UInt8) : Rs × Bool := if (decode (limitsS kd form) b).2.2 = 0 then acceptS kd form (decode (limitsS kd form) b).1 else (zeroS, false)
def decS : List UInt8 → Rs × Int
  | [] => (zeroS, 11)
  | c :: b => if knownS c.toNat = true then (if (tryS c.toNat 0 b).2 = true then ((tryS c.toNat 0 b).1, 0) else if (tryS c.toNat 11 b).2 = true then ((tryS c.toNat 11 b).1, 0) else (zeroS, 11)) else (zeroS, 11)
theorem decode_flds {rs : List Rule} {b : List UInt8} (h : (decode rs b).2.2 = 0) : (decode rs b).1.length ≤ 100 ∧ ∀ x ∈ (decode rs b).1, FldOk x := by
  obtain ⟨l, e, h1, h2, _⟩ := one_fact h
  rw [e]; exact ⟨by dsimp only; omega, h1⟩
theorem byte_R64 (c : UInt8) : R64 (c.toNat : Int) := by have := u8_lt c; unfold R64; omega

theorem decS_A (c : UInt8) (rest : List UInt8) (hb : rest.length ≤ 9000) (hk : knownS c.toNat = true) (h0 : (tryS (c.toNat : Int) 0 rest).2 = true) : PC Tryz.prog 16 [.sv (.sl 1 (bytesC (c :: rest)))] (.tup [.agg ((tryS (c.toNat : Int) 0 rest).1.c.map LV.sv), .i 0]) := by
 refine ⟨LC.of_go Tryz.func16 (c := _) rfl (by kernel_rfl) (by rw [Tryz.ntmps16]; simp) rfl rfl (by simp [LO.lt, LV.lts, LV.lt]) (by simp) ?_⟩
 intro B hA hmd
 have hcl := u8_lt c
 have hcg := u8_ge c
 refine .seq ?_
 refine .region rfl ?_
 refine R.box (h := ?_)
 refine R.alloc Z25 (h := ?_)
 refine R.alloc Z23 (h := ?_)
 refine .n0 ?_
 refine .seq ?_
 refine .seq ?_
 refine .region rfl ?_
 first | refine R.loadB O33 (h := ?_) | refine R.load1 O33 (h := ?_)
 first | refine R.len S33 (h := ?_) | refine R.lenRs S33 (h := ?_) | refine R.lenV (run_lenNil S33) (h := ?_)
 rw [show ((bytesC (c :: rest)).length : Int) = (rest.length : Int) + 1 from by rw [bytesC_length]; simp]
 refine R.bin (run_eql _ _ _ _ _ _) (h := ?_)
 rw [show decide ((rest.length : Int) + 1 = 0) = false from by simp; omega]
 refine R.move (h := ?_)
 first | refine R.loadB O33 (h := ?_) | refine R.load1 O33 (h := ?_)
 refine R.index I33 (e := [.val (.int .u8 c.toNat)]) (hj := fun _ => ⟨by decide, rfl⟩) (h := ?_)
 first | refine R.loadB O5 (h := ?_) | refine R.load1 O5 (h := ?_)
 first | refine R.convI Tryz.runUnderlying5 Tryz.runUnderlying3 (h := ?_) | refine R.convW Tryz.runUnderlying5 Tryz.runUnderlying3 (h := ?_)
 refine R.callP (es := [_]) (fun _ => knownS_P (c.toNat : Int)) (h := ?_)
 refine R.not (h := ?_)
 refine R.or (h := ?_)
 refine .n0 ?_
 refine LGo.ifb (ht := fun hc => by rw [hk] at hc; simp at hc) (hf := fun hc => ?_)
 refine .skip ?_
 refine .seq ?_
 refine .region rfl ?_
 first | refine R.loadB O33 (h := ?_) | refine R.load1 O33 (h := ?_)
 refine R.index I33 (e := [.val (.int .u8 c.toNat)]) (hj := fun _ => ⟨by decide, rfl⟩) (h := ?_)
 first | refine R.loadB O5 (h := ?_) | refine R.load1 O5 (h := ?_)
 first | refine R.convI Tryz.runUnderlying5 Tryz.runUnderlying3 (h := ?_) | refine R.convW Tryz.runUnderlying5 Tryz.runUnderlying3 (h := ?_)
 refine R.alloc Z3 (h := ?_)
 refine R.storeB O3 (h := ?_)
 refine .n0 ?_
 refine .seq ?_
 refine .block ?_
 refine LGo.keep [(1, (true, .ptr 0 0)), (2, (true, .ptr 1 0)), (3, (true, .ptr 2 0)), (4, (true, .ptr 3 0))] [(0, .box 33 [.sv (.sl 1 (bytesC (c :: rest)))]), (1, .box 25 (zeroS.c.map LV.sv)), (2, .box 23 [.i 0]), (3, .box 3 [.i c.toNat])] (by repeat (first | exact trivial | refine ⟨rfl, ?_⟩)) (by repeat (first | exact trivial | refine ⟨rfl, ?_⟩)) ?_
 refine LGo.rangeR (fun fn ac bc => [(0, .box 33 [.sv (.sl 1 (bytesC (c :: rest)))]), (1, .box 25 ((tryS (c.toNat : Int) 0 rest).1.c.map LV.sv)), (2, .box 23 [.i 0]), (3, .box 3 [.i c.toNat]), (4, .raw (.deferred (some []))), (5, .loop fn Tryz.f16.ntmps [(1, (true, .ptr 0 0)), (2, (true, .ptr 1 0)), (3, (true, .ptr 2 0)), (4, (true, .ptr 3 0))] #[27] ac bc .done (some .ret))]) (hit := fun fn ac bc hac hbc => ?_) (h := fun fn => ?_)
 ·

  have yg : ∀ fv : Int, (tryS (c.toNat : Int) fv rest).2 = false → Yld Tryz.prog 5 [.i fv] [(0, .box 33 [.sv (.sl 1 (bytesC (c :: rest)))]), (1, .box 25 (zeroS.c.map LV.sv)), (2, .box 23 [.i 0]), (3, .box 3 [.i c.toNat]), (4, .raw (.deferred (some []))), (5, .loop fn Tryz.f16.ntmps [(1, (true, .ptr 0 0)), (2, (true, .ptr 1 0)), (3, (true, .ptr 2 0)), (4, (true, .ptr 3 0))] #[27] ac bc .ready none)] true [(0, .box 33 [.sv (.sl 1 (bytesC (c :: rest)))]), (1, .box 25 (zeroS.c.map LV.sv)), (2, .box 23 [.i 0]), (3, .box 3 [.i c.toNat]), (4, .raw (.deferred (some []))), (5, .loop fn Tryz.f16.ntmps [(1, (true, .ptr 0 0)), (2, (true, .ptr 1 0)), (3, (true, .ptr 2 0)), (4, (true, .ptr 3 0))] #[27] ac bc .ready none)] := by
    intro fv hno
    refine Yld.walk 6 ((5, (true, .i fv)) :: (27, (true, .i fv)) :: [(1, (true, .ptr 0 0)), (2, (true, .ptr 1 0)), (3, (true, .ptr 2 0)), (4, (true, .ptr 3 0))]) (hpN := by rw [show Tryz.f16.ntmps = 50 from Tryz.ntmps16]; simp) (hA := ?_) (hB := ?_)
    · intro l B' hA' hmd'; subst hac
      refine .region rfl ?_
      refine R.assign (h := ?_)
      refine .n0 ?_
      exact LGo.done (fun cx a w hr => ⟨rfl, cx, hr⟩)
    · intro l B' hA' hmd'; subst hbc
      refine .block ?_
      refine .seq ?_
      refine .region rfl ?_
      first | refine R.loadB O3 (h := ?_) | refine R.load1 O3 (h := ?_)
      refine R.move (h := ?_)
      refine R.callP (es := [_, _]) (fun _ => limitsS_P (c.toNat : Int) fv) (h := ?_)
      first | refine R.loadB O33 (h := ?_) | refine R.load1 O33 (h := ?_)
      refine R.sliceLo SF33 (ha := fun _ => ⟨by omega, by rw [bytesC_length]; simp; omega⟩) (h := ?_)
      rw [show (bytesC (c :: rest)).drop (Int.toNat 1) = bytesC rest from rfl]
      refine R.callP (es := [_, _]) (fun _ => decode_P (limitsS (c.toNat : Int) fv) rest (by have := limitsS_len (c.toNat : Int) fv; omega) (by omega)) (h := ?_)
      refine R.move (h := ?_)
      refine R.extract (h := ?_)
      refine R.extract (h := ?_)
      refine R.extract (h := ?_)
      refine R.assign (h := ?_)
      refine R.assign (h := ?_)
      refine R.assign (h := ?_)
      refine Reg.nil ⟨fun _ => ⟨mixedO, by rfl, by rfl⟩, ?_⟩
      refine .seq ?_
      refine .seq ?_
      refine .region rfl ?_
      refine R.move (h := ?_)
      refine R.bin (run_neq _ _ _ _ _ _) (h := ?_)
      refine .n0 ?_
      refine LGo.ifb (ht := fun hc2 => ?_) (hf := fun hc2 => ?_)
      ·
       refine .exit rfl ?_
       refine LGo.drop 6 (fun o h => (hA' o).1 h) (by omega) [] ((5, .loop fn Tryz.f16.ntmps [(1, (true, .ptr 0 0)), (2, (true, .ptr 1 0)), (3, (true, .ptr 2 0)), (4, (true, .ptr 3 0))] #[27] ac _ .busy none) :: (4, .raw (.deferred (some []))) :: [(0, .box 33 [.sv (.sl 1 (bytesC (c :: rest)))]), (1, .box 25 (zeroS.c.map LV.sv)), (2, .box 23 [.i 0]), (3, .box 3 [.i c.toNat])]) trivial (by repeat (first | exact trivial | refine ⟨rfl, ?_⟩)) (by simp) (by simp [LO.lt, LV.lts, LV.lt, lts_sv]) (h := ?_)
       refine LGo.done (RoundEnd.go rfl (fun o z hz hne => ?_) rfl)
       rcases o with _ | _ | _ | _ | _ | _ | o <;> first | exact absurd rfl hne | exact hz
      ·
       have hd : (decode (limitsS (c.toNat : Int) fv) rest).2.2 = 0 := by simpa using hc2
       have hdl := decode_flds hd
       refine .skip ?_
       refine .seq ?_
       refine .region rfl ?_
       first | refine R.loadB O3 (h := ?_) | refine R.load1 O3 (h := ?_)
       refine R.move (h := ?_)
       refine R.move (h := ?_)
       refine R.callP (es := [_, _, _]) (fun _ => acceptS_P (c.toNat : Int) fv (decode (limitsS (c.toNat : Int) fv) rest).1 hdl.1 (foldS_ok (byte_R64 c) hdl.2)) (h := ?_)
       refine R.move (h := ?_)
       refine R.extract (h := ?_)
       refine R.extract (h := ?_)
       refine R.alloc Z25 (h := ?_)
       refine R.storeA A25 (h := ?_)
       refine R.assign (h := ?_)
       refine .n0 ?_
       refine .seq ?_
       refine .region rfl ?_
       refine R.move (h := ?_)
       refine .n0 ?_
       refine LGo.ifb (ht := fun hc3 => by rw [tryS, if_pos hd] at hno; rw [hno] at hc3; cases hc3) (hf := fun hc3 => ?_)
       refine .skip ?_
       refine .inBlock ?_
       refine LGo.drop 6 (fun o h => (hA' o).1 h) (by omega) [] ((5, .loop fn Tryz.f16.ntmps [(1, (true, .ptr 0 0)), (2, (true, .ptr 1 0)), (3, (true, .ptr 2 0)), (4, (true, .ptr 3 0))] #[27] ac _ .busy none) :: (4, .raw (.deferred (some []))) :: [(0, .box 33 [.sv (.sl 1 (bytesC (c :: rest)))]), (1, .box 25 (zeroS.c.map LV.sv)), (2, .box 23 [.i 0]), (3, .box 3 [.i c.toNat])]) trivial (by repeat (first | exact trivial | refine ⟨rfl, ?_⟩)) (by simp) (by simp [LO.lt, LV.lts, LV.lt, lts_sv]) (h := ?_)
       refine LGo.done (RoundEnd.go rfl (fun o z hz hne => ?_) rfl)
       rcases o with _ | _ | _ | _ | _ | _ | o <;> first | exact absurd rfl hne | exact hz
  have yr : ∀ fv : Int, (tryS (c.toNat : Int) fv rest).2 = true → Yld Tryz.prog 5 [.i fv] [(0, .box 33 [.sv (.sl 1 (bytesC (c :: rest)))]), (1, .box 25 (zeroS.c.map LV.sv)), (2, .box 23 [.i 0]), (3, .box 3 [.i c.toNat]), (4, .raw (.deferred (some []))), (5, .loop fn Tryz.f16.ntmps [(1, (true, .ptr 0 0)), (2, (true, .ptr 1 0)), (3, (true, .ptr 2 0)), (4, (true, .ptr 3 0))] #[27] ac bc .ready none)] false [(0, .box 33 [.sv (.sl 1 (bytesC (c :: rest)))]), (1, .box 25 ((tryS (c.toNat : Int) fv rest).1.c.map LV.sv)), (2, .box 23 [.i 0]), (3, .box 3 [.i c.toNat]), (4, .raw (.deferred (some []))), (5, .loop fn Tryz.f16.ntmps [(1, (true, .ptr 0 0)), (2, (true, .ptr 1 0)), (3, (true, .ptr 2 0)), (4, (true, .ptr 3 0))] #[27] ac bc .done (some .ret))] := by
    intro fv hyes
    refine Yld.walk 6 ((5, (true, .i fv)) :: (27, (true, .i fv)) :: [(1, (true, .ptr 0 0)), (2, (true, .ptr 1 0)), (3, (true, .ptr 2 0)), (4, (true, .ptr 3 0))]) (hpN := by rw [show Tryz.f16.ntmps = 50 from Tryz.ntmps16]; simp) (hA := ?_) (hB := ?_)
    · intro l B' hA' hmd'; subst hac
      refine .region rfl ?_
      refine R.assign (h := ?_)
      refine .n0 ?_
      exact LGo.done (fun cx a w hr => ⟨rfl, cx, hr⟩)
    · intro l B' hA' hmd'; subst hbc
      refine .block ?_
      refine .seq ?_
      refine .region rfl ?_
      first | refine R.loadB O3 (h := ?_) | refine R.load1 O3 (h := ?_)
      refine R.move (h := ?_)
      refine R.callP (es := [_, _]) (fun _ => limitsS_P (c.toNat : Int) fv) (h := ?_)
      first | refine R.loadB O33 (h := ?_) | refine R.load1 O33 (h := ?_)
      refine R.sliceLo SF33 (ha := fun _ => ⟨by omega, by rw [bytesC_length]; simp; omega⟩) (h := ?_)
      rw [show (bytesC (c :: rest)).drop (Int.toNat 1) = bytesC rest from rfl]
      refine R.callP (es := [_, _]) (fun _ => decode_P (limitsS (c.toNat : Int) fv) rest (by have := limitsS_len (c.toNat : Int) fv; omega) (by omega)) (h := ?_)
      refine R.move (h := ?_)
      refine R.extract (h := ?_)
      refine R.extract (h := ?_)
      refine R.extract (h := ?_)
      refine R.assign (h := ?_)
      refine R.assign (h := ?_)
      refine R.assign (h := ?_)
      refine Reg.nil ⟨fun _ => ⟨mixedO, by rfl, by rfl⟩, ?_⟩
      refine .seq ?_
      refine .seq ?_
      refine .region rfl ?_
      refine R.move (h := ?_)
      refine R.bin (run_neq _ _ _ _ _ _) (h := ?_)
      refine .n0 ?_
      refine LGo.ifb (ht := fun hc4 => by rw [show (tryS (c.toNat : Int) fv rest) = (zeroS, false) from if_neg (by simpa using hc4)] at hyes; cases hyes) (hf := fun hc4 => ?_)
      refine .skip ?_
      refine .seq ?_
      refine .region rfl ?_
      have hd : (decode (limitsS (c.toNat : Int) fv) rest).2.2 = 0 := by simpa using hc4
      have hdl := decode_flds hd
      rw [show (tryS (c.toNat : Int) fv rest).1 = (acceptS (c.toNat : Int) fv (decode (limitsS (c.toNat : Int) fv) rest).1).1 from by rw [tryS, if_pos hd]]
      first | refine R.loadB O3 (h := ?_) | refine R.load1 O3 (h := ?_)
      refine R.move (h := ?_)
      refine R.move (h := ?_)
      refine R.callP (es := [_, _, _]) (fun _ => acceptS_P (c.toNat : Int) fv (decode (limitsS (c.toNat : Int) fv) rest).1 hdl.1 (foldS_ok (byte_R64 c) hdl.2)) (h := ?_)
      refine R.move (h := ?_)
      refine R.extract (h := ?_)
      refine R.extract (h := ?_)
      refine R.alloc Z25 (h := ?_)
      refine R.storeA A25 (h := ?_)
      refine R.assign (h := ?_)
      refine .n0 ?_
      refine .seq ?_
      refine .region rfl ?_
      refine R.move (h := ?_)
      refine .n0 ?_
      refine LGo.ifb (ht := fun hc5 => ?_) (hf := fun hc5 => by rw [tryS, if_pos hd] at hyes; rw [hyes] at hc5; cases hc5)
      refine .seq ?_
      refine .region rfl ?_
      first | refine R.loadA A25 (h := ?_) | refine R.loadN A25 (h := ?_) | refine R.loadP A25 (h := ?_)
      refine R.storeA A25 (h := ?_)
      refine R.storeB O23 (h := ?_)
      refine .n0 ?_
      refine LGo.drop 6 (fun o h => (hA' o).1 h) (by omega) [] ((5, .loop fn Tryz.f16.ntmps [(1, (true, .ptr 0 0)), (2, (true, .ptr 1 0)), (3, (true, .ptr 2 0)), (4, (true, .ptr 3 0))] #[27] ac _ .busy none) :: (4, .raw (.deferred (some []))) :: [(0, .box 33 [.sv (.sl 1 (bytesC (c :: rest)))]), (1, .box 25 ((acceptS (c.toNat : Int) fv (decode (limitsS (c.toNat : Int) fv) rest).1).1.c.map LV.sv)), (2, .box 23 [.i 0]), (3, .box 3 [.i c.toNat])]) trivial (by repeat (first | exact trivial | refine ⟨rfl, ?_⟩)) (by simp) (by simp [LO.lt, LV.lts, LV.lt, lts_sv]) (h := ?_)
      refine LGo.ret (RoundEnd.ret rfl (fun o z hz hne => ?_) rfl)
      rcases o with _ | _ | _ | _ | _ | _ | o <;> first | exact absurd rfl hne | exact hz
  have hr := forms_stop (y := 5) (m := 6) (by decide) rfl (by simp [LO.lt, LV.lts, LV.lt, lts_sv]) rfl (yr 0 h0)
  exact hr
 ·
  exact (FnPost.mark (by rfl) (ret_AB Tryz.results16 A25 O23 hA hmd))

theorem decS_B (c : UInt8) (rest : List UInt8) (hb : rest.length ≤ 9000) (hk : knownS c.toNat = true) (h0 : (tryS (c.toNat : Int) 0 rest).2 = false) (h1 : (tryS (c.toNat : Int) 11 rest).2 = true) : PC Tryz.prog 16 [.sv (.sl 1 (bytesC (c :: rest)))] (.tup [.agg ((tryS (c.toNat : Int) 11 rest).1.c.map LV.sv), .i 0]) := by
 refine ⟨LC.of_go Tryz.func16 (c := _) rfl (by kernel_rfl) (by rw [Tryz.ntmps16]; simp) rfl rfl (by simp [LO.lt, LV.lts, LV.lt]) (by simp) ?_⟩
 intro B hA hmd
 have hcl := u8_lt c
 have hcg := u8_ge c
 refine .seq ?_
 refine .region rfl ?_
 refine R.box (h := ?_)
 refine R.alloc Z25 (h := ?_)
 refine R.alloc Z23 (h := ?_)
 refine .n0 ?_
 refine .seq ?_
 refine .seq ?_
 refine .region rfl ?_
 first | refine R.loadB O33 (h := ?_) | refine R.load1 O33 (h := ?_)
 first | refine R.len S33 (h := ?_) | refine R.lenRs S33 (h := ?_) | refine R.lenV (run_lenNil S33) (h := ?_)
 rw [show ((bytesC (c :: rest)).length : Int) = (rest.length : Int) + 1 from by rw [bytesC_length]; simp]
 refine R.bin (run_eql _ _ _ _ _ _) (h := ?_)
 rw [show decide ((rest.length : Int) + 1 = 0) = false from by simp; omega]
 refine R.move (h := ?_)
 first | refine R.loadB O33 (h := ?_) | refine R.load1 O33 (h := ?_)
 refine R.index I33 (e := [.val (.int .u8 c.toNat)]) (hj := fun _ => ⟨by decide, rfl⟩) (h := ?_)
 first | refine R.loadB O5 (h := ?_) | refine R.load1 O5 (h := ?_)
 first | refine R.convI Tryz.runUnderlying5 Tryz.runUnderlying3 (h := ?_) | refine R.convW Tryz.runUnderlying5 Tryz.runUnderlying3 (h := ?_)
 refine R.callP (es := [_]) (fun _ => knownS_P (c.toNat : Int)) (h := ?_)
 refine R.not (h := ?_)
 refine R.or (h := ?_)
 refine .n0 ?_
 refine LGo.ifb (ht := fun hc => by rw [hk] at hc; simp at hc) (hf := fun hc => ?_)
 refine .skip ?_
 refine .seq ?_
 refine .region rfl ?_
 first | refine R.loadB O33 (h := ?_) | refine R.load1 O33 (h := ?_)
 refine R.index I33 (e := [.val (.int .u8 c.toNat)]) (hj := fun _ => ⟨by decide, rfl⟩) (h := ?_)
 first | refine R.loadB O5 (h := ?_) | refine R.load1 O5 (h := ?_)
 first | refine R.convI Tryz.runUnderlying5 Tryz.runUnderlying3 (h := ?_) | refine R.convW Tryz.runUnderlying5 Tryz.runUnderlying3 (h := ?_)
 refine R.alloc Z3 (h := ?_)
 refine R.storeB O3 (h := ?_)
 refine .n0 ?_
 refine .seq ?_
 refine .block ?_
 refine LGo.keep [(1, (true, .ptr 0 0)), (2, (true, .ptr 1 0)), (3, (true, .ptr 2 0)), (4, (true, .ptr 3 0))] [(0, .box 33 [.sv (.sl 1 (bytesC (c :: rest)))]), (1, .box 25 (zeroS.c.map LV.sv)), (2, .box 23 [.i 0]), (3, .box 3 [.i c.toNat])] (by repeat (first | exact trivial | refine ⟨rfl, ?_⟩)) (by repeat (first | exact trivial | refine ⟨rfl, ?_⟩)) ?_
 refine LGo.rangeR (fun fn ac bc => [(0, .box 33 [.sv (.sl 1 (bytesC (c :: rest)))]), (1, .box 25 ((tryS (c.toNat : Int) 11 rest).1.c.map LV.sv)), (2, .box 23 [.i 0]), (3, .box 3 [.i c.toNat]), (4, .raw (.deferred (some []))), (5, .loop fn Tryz.f16.ntmps [(1, (true, .ptr 0 0)), (2, (true, .ptr 1 0)), (3, (true, .ptr 2 0)), (4, (true, .ptr 3 0))] #[27] ac bc .done (some .ret))]) (hit := fun fn ac bc hac hbc => ?_) (h := fun fn => ?_)
 ·

  have yg : ∀ fv : Int, (tryS (c.toNat : Int) fv rest).2 = false → Yld Tryz.prog 5 [.i fv] [(0, .box 33 [.sv (.sl 1 (bytesC (c :: rest)))]), (1, .box 25 (zeroS.c.map LV.sv)), (2, .box 23 [.i 0]), (3, .box 3 [.i c.toNat]), (4, .raw (.deferred (some []))), (5, .loop fn Tryz.f16.ntmps [(1, (true, .ptr 0 0)), (2, (true, .ptr 1 0)), (3, (true, .ptr 2 0)), (4, (true, .ptr 3 0))] #[27] ac bc .ready none)] true [(0, .box 33 [.sv (.sl 1 (bytesC (c :: rest)))]), (1, .box 25 (zeroS.c.map LV.sv)), (2, .box 23 [.i 0]), (3, .box 3 [.i c.toNat]), (4, .raw (.deferred (some []))), (5, .loop fn Tryz.f16.ntmps [(1, (true, .ptr 0 0)), (2, (true, .ptr 1 0)), (3, (true, .ptr 2 0)), (4, (true, .ptr 3 0))] #[27] ac bc .ready none)] := by
    intro fv hno
    refine Yld.walk 6 ((5, (true, .i fv)) :: (27, (true, .i fv)) :: [(1, (true, .ptr 0 0)), (2, (true, .ptr 1 0)), (3, (true, .ptr 2 0)), (4, (true, .ptr 3 0))]) (hpN := by rw [show Tryz.f16.ntmps = 50 from Tryz.ntmps16]; simp) (hA := ?_) (hB := ?_)
    · intro l B' hA' hmd'; subst hac
      refine .region rfl ?_
      refine R.assign (h := ?_)
      refine .n0 ?_
      exact LGo.done (fun cx a w hr => ⟨rfl, cx, hr⟩)
    · intro l B' hA' hmd'; subst hbc
      refine .block ?_
      refine .seq ?_
      refine .region rfl ?_
      first | refine R.loadB O3 (h := ?_) | refine R.load1 O3 (h := ?_)
      refine R.move (h := ?_)
      refine R.callP (es := [_, _]) (fun _ => limitsS_P (c.toNat : Int) fv) (h := ?_)
      first | refine R.loadB O33 (h := ?_) | refine R.load1 O33 (h := ?_)
      refine R.sliceLo SF33 (ha := fun _ => ⟨by omega, by rw [bytesC_length]; simp; omega⟩) (h := ?_)
      rw [show (bytesC (c :: rest)).drop (Int.toNat 1) = bytesC rest from rfl]
      refine R.callP (es := [_, _]) (fun _ => decode_P (limitsS (c.toNat : Int) fv) rest (by have := limitsS_len (c.toNat : Int) fv; omega) (by omega)) (h := ?_)
      refine R.move (h := ?_)
      refine R.extract (h := ?_)
      refine R.extract (h := ?_)
      refine R.extract (h := ?_)
      refine R.assign (h := ?_)
      refine R.assign (h := ?_)
      refine R.assign (h := ?_)
      refine Reg.nil ⟨fun _ => ⟨mixedO, by rfl, by rfl⟩, ?_⟩
      refine .seq ?_
      refine .seq ?_
      refine .region rfl ?_
      refine R.move (h := ?_)
      refine R.bin (run_neq _ _ _ _ _ _) (h := ?_)
      refine .n0 ?_
      refine LGo.ifb (ht := fun hc2 => ?_) (hf := fun hc2 => ?_)
      ·
       refine .exit rfl ?_
       refine LGo.drop 6 (fun o h => (hA' o).1 h) (by omega) [] ((5, .loop fn Tryz.f16.ntmps [(1, (true, .ptr 0 0)), (2, (true, .ptr 1 0)), (3, (true, .ptr 2 0)), (4, (true, .ptr 3 0))] #[27] ac _ .busy none) :: (4, .raw (.deferred (some []))) :: [(0, .box 33 [.sv (.sl 1 (bytesC (c :: rest)))]), (1, .box 25 (zeroS.c.map LV.sv)), (2, .box 23 [.i 0]), (3, .box 3 [.i c.toNat])]) trivial (by repeat (first | exact trivial | refine ⟨rfl, ?_⟩)) (by simp) (by simp [LO.lt, LV.lts, LV.lt, lts_sv]) (h := ?_)
       refine LGo.done (RoundEnd.go rfl (fun o z hz hne => ?_) rfl)
       rcases o with _ | _ | _ | _ | _ | _ | o <;> first | exact absurd rfl hne | exact hz
      ·
       have hd : (decode (limitsS (c.toNat : Int) fv) rest).2.2 = 0 := by simpa using hc2
       have hdl := decode_flds hd
       refine .skip ?_
       refine .seq ?_
       refine .region rfl ?_
       first | refine R.loadB O3 (h := ?_) | refine R.load1 O3 (h := ?_)
       refine R.move (h := ?_)
       refine R.move (h := ?_)
       refine R.callP (es := [_, _, _]) (fun _ => acceptS_P (c.toNat : Int) fv (decode (limitsS (c.toNat : Int) fv) rest).1 hdl.1 (foldS_ok (byte_R64 c) hdl.2)) (h := ?_)
       refine R.move (h := ?_)
       refine R.extract (h := ?_)
       refine R.extract (h := ?_)
       refine R.alloc Z25 (h := ?_)
       refine R.storeA A25 (h := ?_)
       refine R.assign (h := ?_)
       refine .n0 ?_
       refine .seq ?_
       refine .region rfl ?_
       refine R.move (h := ?_)
       refine .n0 ?_
       refine LGo.ifb (ht := fun hc3 => by rw [tryS, if_pos hd] at hno; rw [hno] at hc3; cases hc3) (hf := fun hc3 => ?_)
       refine .skip ?_
       refine .inBlock ?_
       refine LGo.drop 6 (fun o h => (hA' o).1 h) (by omega) [] ((5, .loop fn Tryz.f16.ntmps [(1, (true, .ptr 0 0)), (2, (true, .ptr 1 0)), (3, (true, .ptr 2 0)), (4, (true, .ptr 3 0))] #[27] ac _ .busy none) :: (4, .raw (.deferred (some []))) :: [(0, .box 33 [.sv (.sl 1 (bytesC (c :: rest)))]), (1, .box 25 (zeroS.c.map LV.sv)), (2, .box 23 [.i 0]), (3, .box 3 [.i c.toNat])]) trivial (by repeat (first | exact trivial | refine ⟨rfl, ?_⟩)) (by simp) (by simp [LO.lt, LV.lts, LV.lt, lts_sv]) (h := ?_)
       refine LGo.done (RoundEnd.go rfl (fun o z hz hne => ?_) rfl)
       rcases o with _ | _ | _ | _ | _ | _ | o <;> first | exact absurd rfl hne | exact hz
  have yr : ∀ fv : Int, (tryS (c.toNat : Int) fv rest).2 = true → Yld Tryz.prog 5 [.i fv] [(0, .box 33 [.sv (.sl 1 (bytesC (c :: rest)))]), (1, .box 25 (zeroS.c.map LV.sv)), (2, .box 23 [.i 0]), (3, .box 3 [.i c.toNat]), (4, .raw (.deferred (some []))), (5, .loop fn Tryz.f16.ntmps [(1, (true, .ptr 0 0)), (2, (true, .ptr 1 0)), (3, (true, .ptr 2 0)), (4, (true, .ptr 3 0))] #[27] ac bc .ready none)] false [(0, .box 33 [.sv (.sl 1 (bytesC (c :: rest)))]), (1, .box 25 ((tryS (c.toNat : Int) fv rest).1.c.map LV.sv)), (2, .box 23 [.i 0]), (3, .box 3 [.i c.toNat]), (4, .raw (.deferred (some []))), (5, .loop fn Tryz.f16.ntmps [(1, (true, .ptr 0 0)), (2, (true, .ptr 1 0)), (3, (true, .ptr 2 0)), (4, (true, .ptr 3 0))] #[27] ac bc .done (some .ret))] := by
    intro fv hyes
    refine Yld.walk 6 ((5, (true, .i fv)) :: (27, (true, .i fv)) :: [(1, (true, .ptr 0 0)), (2, (true, .ptr 1 0)), (3, (true, .ptr 2 0)), (4, (true, .ptr 3 0))]) (hpN := by rw [show Tryz.f16.ntmps = 50 from Tryz.ntmps16]; simp) (hA := ?_) (hB := ?_)
    · intro l B' hA' hmd'; subst hac
      refine .region rfl ?_
      refine R.assign (h := ?_)
      refine .n0 ?_
      exact LGo.done (fun cx a w hr => ⟨rfl, cx, hr⟩)
    · intro l B' hA' hmd'; subst hbc
      refine .block ?_
      refine .seq ?_
      refine .region rfl ?_
      first | refine R.loadB O3 (h := ?_) | refine R.load1 O3 (h := ?_)
      refine R.move (h := ?_)
      refine R.callP (es := [_, _]) (fun _ => limitsS_P (c.toNat : Int) fv) (h := ?_)
      first | refine R.loadB O33 (h := ?_) | refine R.load1 O33 (h := ?_)
      refine R.sliceLo SF33 (ha := fun _ => ⟨by omega, by rw [bytesC_length]; simp; omega⟩) (h := ?_)
      rw [show (bytesC (c :: rest)).drop (Int.toNat 1) = bytesC rest from rfl]
      refine R.callP (es := [_, _]) (fun _ => decode_P (limitsS (c.toNat : Int) fv) rest (by have := limitsS_len (c.toNat : Int) fv; omega) (by omega)) (h := ?_)
      refine R.move (h := ?_)
      refine R.extract (h := ?_)
      refine R.extract (h := ?_)
      refine R.extract (h := ?_)
      refine R.assign (h := ?_)
      refine R.assign (h := ?_)
      refine R.assign (h := ?_)
      refine Reg.nil ⟨fun _ => ⟨mixedO, by rfl, by rfl⟩, ?_⟩
      refine .seq ?_
      refine .seq ?_
      refine .region rfl ?_
      refine R.move (h := ?_)
      refine R.bin (run_neq _ _ _ _ _ _) (h := ?_)
      refine .n0 ?_
      refine LGo.ifb (ht := fun hc4 => by rw [show (tryS (c.toNat : Int) fv rest) = (zeroS, false) from if_neg (by simpa using hc4)] at hyes; cases hyes) (hf := fun hc4 => ?_)
      refine .skip ?_
      refine .seq ?_
      refine .region rfl ?_
      have hd : (decode (limitsS (c.toNat : Int) fv) rest).2.2 = 0 := by simpa using hc4
      have hdl := decode_flds hd
      rw [show (tryS (c.toNat : Int) fv rest).1 = (acceptS (c.toNat : Int) fv (decode (limitsS (c.toNat : Int) fv) rest).1).1 from by rw [tryS, if_pos hd]]
      first | refine R.loadB O3 (h := ?_) | refine R.load1 O3 (h := ?_)
      refine R.move (h := ?_)
      refine R.move (h := ?_)
      refine R.callP (es := [_, _, _]) (fun _ => acceptS_P (c.toNat : Int) fv (decode (limitsS (c.toNat : Int) fv) rest).1 hdl.1 (foldS_ok (byte_R64 c) hdl.2)) (h := ?_)
      refine R.move (h := ?_)
      refine R.extract (h := ?_)
      refine R.extract (h := ?_)
      refine R.alloc Z25 (h := ?_)
      refine R.storeA A25 (h := ?_)
      refine R.assign (h := ?_)
      refine .n0 ?_
      refine .seq ?_
      refine .region rfl ?_
      refine R.move (h := ?_)
      refine .n0 ?_
      refine LGo.ifb (ht := fun hc5 => ?_) (hf := fun hc5 => by rw [tryS, if_pos hd] at hyes; rw [hyes] at hc5; cases hc5)
      refine .seq ?_
      refine .region rfl ?_
      first | refine R.loadA A25 (h := ?_) | refine R.loadN A25 (h := ?_) | refine R.loadP A25 (h := ?_)
      refine R.storeA A25 (h := ?_)
      refine R.storeB O23 (h := ?_)
      refine .n0 ?_
      refine LGo.drop 6 (fun o h => (hA' o).1 h) (by omega) [] ((5, .loop fn Tryz.f16.ntmps [(1, (true, .ptr 0 0)), (2, (true, .ptr 1 0)), (3, (true, .ptr 2 0)), (4, (true, .ptr 3 0))] #[27] ac _ .busy none) :: (4, .raw (.deferred (some []))) :: [(0, .box 33 [.sv (.sl 1 (bytesC (c :: rest)))]), (1, .box 25 ((acceptS (c.toNat : Int) fv (decode (limitsS (c.toNat : Int) fv) rest).1).1.c.map LV.sv)), (2, .box 23 [.i 0]), (3, .box 3 [.i c.toNat])]) trivial (by repeat (first | exact trivial | refine ⟨rfl, ?_⟩)) (by simp) (by simp [LO.lt, LV.lts, LV.lt, lts_sv]) (h := ?_)
      refine LGo.ret (RoundEnd.ret rfl (fun o z hz hne => ?_) rfl)
      rcases o with _ | _ | _ | _ | _ | _ | o <;> first | exact absurd rfl hne | exact hz
  have hr := forms_go (y := 5) (m := 6) (by decide) rfl (by simp [LO.lt, LV.lts, LV.lt, lts_sv]) rfl rfl (yg 0 h0) (yr 11 h1)
  exact hr
 ·
  exact (FnPost.mark (by rfl) (ret_AB Tryz.results16 A25 O23 hA hmd))

theorem decS_C (c : UInt8) (rest : List UInt8) (hb : rest.length ≤ 9000) (hk : knownS c.toNat = true) (h0 : (tryS (c.toNat : Int) 0 rest).2 = false) (h1 : (tryS (c.toNat : Int) 11 rest).2 = false) : PC Tryz.prog 16 [.sv (.sl 1 (bytesC (c :: rest)))] (.tup [.agg (zeroS.c.map LV.sv), .i 11]) := by
 refine ⟨LC.of_go Tryz.func16 (c := _) rfl (by kernel_rfl) (by rw [Tryz.ntmps16]; simp) rfl rfl (by simp [LO.lt, LV.lts, LV.lt]) (by simp) ?_⟩
 intro B hA hmd
 have hcl := u8_lt c
 have hcg := u8_ge c
 refine .seq ?_
 refine .region rfl ?_
 refine R.box (h := ?_)
 refine R.alloc Z25 (h := ?_)
 refine R.alloc Z23 (h := ?_)
 refine .n0 ?_
 refine .seq ?_
 refine .seq ?_
 refine .region rfl ?_
 first | refine R.loadB O33 (h := ?_) | refine R.load1 O33 (h := ?_)
 first | refine R.len S33 (h := ?_) | refine R.lenRs S33 (h := ?_) | refine R.lenV (run_lenNil S33) (h := ?_)
 rw [show ((bytesC (c :: rest)).length : Int) = (rest.length : Int) + 1 from by rw [bytesC_length]; simp]
 refine R.bin (run_eql _ _ _ _ _ _) (h := ?_)
 rw [show decide ((rest.length : Int) + 1 = 0) = false from by simp; omega]
 refine R.move (h := ?_)
 first | refine R.loadB O33 (h := ?_) | refine R.load1 O33 (h := ?_)
 refine R.index I33 (e := [.val (.int .u8 c.toNat)]) (hj := fun _ => ⟨by decide, rfl⟩) (h := ?_)
 first | refine R.loadB O5 (h := ?_) | refine R.load1 O5 (h := ?_)
 first | refine R.convI Tryz.runUnderlying5 Tryz.runUnderlying3 (h := ?_) | refine R.convW Tryz.runUnderlying5 Tryz.runUnderlying3 (h := ?_)
 refine R.callP (es := [_]) (fun _ => knownS_P (c.toNat : Int)) (h := ?_)
 refine R.not (h := ?_)
 refine R.or (h := ?_)
 refine .n0 ?_
 refine LGo.ifb (ht := fun hc => by rw [hk] at hc; simp at hc) (hf := fun hc => ?_)
 refine .skip ?_
 refine .seq ?_
 refine .region rfl ?_
 first | refine R.loadB O33 (h := ?_) | refine R.load1 O33 (h := ?_)
 refine R.index I33 (e := [.val (.int .u8 c.toNat)]) (hj := fun _ => ⟨by decide, rfl⟩) (h := ?_)
 first | refine R.loadB O5 (h := ?_) | refine R.load1 O5 (h := ?_)
 first | refine R.convI Tryz.runUnderlying5 Tryz.runUnderlying3 (h := ?_) | refine R.convW Tryz.runUnderlying5 Tryz.runUnderlying3 (h := ?_)
 refine R.alloc Z3 (h := ?_)
 refine R.storeB O3 (h := ?_)
 refine .n0 ?_
 refine .seq ?_
 refine .block ?_
 refine LGo.keep [(1, (true, .ptr 0 0)), (2, (true, .ptr 1 0)), (3, (true, .ptr 2 0)), (4, (true, .ptr 3 0))] [(0, .box 33 [.sv (.sl 1 (bytesC (c :: rest)))]), (1, .box 25 (zeroS.c.map LV.sv)), (2, .box 23 [.i 0]), (3, .box 3 [.i c.toNat])] (by repeat (first | exact trivial | refine ⟨rfl, ?_⟩)) (by repeat (first | exact trivial | refine ⟨rfl, ?_⟩)) ?_
 refine LGo.rangeN (fun fn ac bc => [(0, .box 33 [.sv (.sl 1 (bytesC (c :: rest)))]), (1, .box 25 (zeroS.c.map LV.sv)), (2, .box 23 [.i 0]), (3, .box 3 [.i c.toNat]), (4, .raw (.deferred (some []))), (5, .loop fn Tryz.f16.ntmps [(1, (true, .ptr 0 0)), (2, (true, .ptr 1 0)), (3, (true, .ptr 2 0)), (4, (true, .ptr 3 0))] #[27] ac bc .ready none)]) (hit := fun fn ac bc hac hbc => ?_) (h := fun fn => ?_)
 ·

  have yg : ∀ fv : Int, (tryS (c.toNat : Int) fv rest).2 = false → Yld Tryz.prog 5 [.i fv] [(0, .box 33 [.sv (.sl 1 (bytesC (c :: rest)))]), (1, .box 25 (zeroS.c.map LV.sv)), (2, .box 23 [.i 0]), (3, .box 3 [.i c.toNat]), (4, .raw (.deferred (some []))), (5, .loop fn Tryz.f16.ntmps [(1, (true, .ptr 0 0)), (2, (true, .ptr 1 0)), (3, (true, .ptr 2 0)), (4, (true, .ptr 3 0))] #[27] ac bc .ready none)] true [(0, .box 33 [.sv (.sl 1 (bytesC (c :: rest)))]), (1, .box 25 (zeroS.c.map LV.sv)), (2, .box 23 [.i 0]), (3, .box 3 [.i c.toNat]), (4, .raw (.deferred (some []))), (5, .loop fn Tryz.f16.ntmps [(1, (true, .ptr 0 0)), (2, (true, .ptr 1 0)), (3, (true, .ptr 2 0)), (4, (true, .ptr 3 0))] #[27] ac bc .ready none)] := by
    intro fv hno
    refine Yld.walk 6 ((5, (true, .i fv)) :: (27, (true, .i fv)) :: [(1, (true, .ptr 0 0)), (2, (true, .ptr 1 0)), (3, (true, .ptr 2 0)), (4, (true, .ptr 3 0))]) (hpN := by rw [show Tryz.f16.ntmps = 50 from Tryz.ntmps16]; simp) (hA := ?_) (hB := ?_)
    · intro l B' hA' hmd'; subst hac
      refine .region rfl ?_
      refine R.assign (h := ?_)
      refine .n0 ?_
      exact LGo.done (fun cx a w hr => ⟨rfl, cx, hr⟩)
    · intro l B' hA' hmd'; subst hbc
      refine .block ?_
      refine .seq ?_
      refine .region rfl ?_
      first | refine R.loadB O3 (h := ?_) | refine R.load1 O3 (h := ?_)
      refine R.move (h := ?_)
      refine R.callP (es := [_, _]) (fun _ => limitsS_P (c.toNat : Int) fv) (h := ?_)
      first | refine R.loadB O33 (h := ?_) | refine R.load1 O33 (h := ?_)
      refine R.sliceLo SF33 (ha := fun _ => ⟨by omega, by rw [bytesC_length]; simp; omega⟩) (h := ?_)
      rw [show (bytesC (c :: rest)).drop (Int.toNat 1) = bytesC rest from rfl]
      refine R.callP (es := [_, _]) (fun _ => decode_P (limitsS (c.toNat : Int) fv) rest (by have := limitsS_len (c.toNat : Int) fv; omega) (by omega)) (h := ?_)
      refine R.move (h := ?_)
      refine R.extract (h := ?_)
      refine R.extract (h := ?_)
      refine R.extract (h := ?_)
      refine R.assign (h := ?_)
      refine R.assign (h := ?_)
      refine R.assign (h := ?_)
      refine Reg.nil ⟨fun _ => ⟨mixedO, by rfl, by rfl⟩, ?_⟩
      refine .seq ?_
      refine .seq ?_
      refine .region rfl ?_
      refine R.move (h := ?_)
      refine R.bin (run_neq _ _ _ _ _ _) (h := ?_)
      refine .n0 ?_
      refine LGo.ifb (ht := fun hc2 => ?_) (hf := fun hc2 => ?_)
      ·
       refine .exit rfl ?_
       refine LGo.drop 6 (fun o h => (hA' o).1 h) (by omega) [] ((5, .loop fn Tryz.f16.ntmps [(1, (true, .ptr 0 0)), (2, (true, .ptr 1 0)), (3, (true, .ptr 2 0)), (4, (true, .ptr 3 0))] #[27] ac _ .busy none) :: (4, .raw (.deferred (some []))) :: [(0, .box 33 [.sv (.sl 1 (bytesC (c :: rest)))]), (1, .box 25 (zeroS.c.map LV.sv)), (2, .box 23 [.i 0]), (3, .box 3 [.i c.toNat])]) trivial (by repeat (first | exact trivial | refine ⟨rfl, ?_⟩)) (by simp) (by simp [LO.lt, LV.lts, LV.lt, lts_sv]) (h := ?_)
       refine LGo.done (RoundEnd.go rfl (fun o z hz hne => ?_) rfl)
       rcases o with _ | _ | _ | _ | _ | _ | o <;> first | exact absurd rfl hne | exact hz
      ·
       have hd : (decode (limitsS (c.toNat : Int) fv) rest).2.2 = 0 := by simpa using hc2
       have hdl := decode_flds hd
       refine .skip ?_
       refine .seq ?_
       refine .region rfl ?_
       first | refine R.loadB O3 (h := ?_) | refine R.load1 O3 (h := ?_)
       refine R.move (h := ?_)
       refine R.move (h := ?_)
       refine R.callP (es := [_, _, _]) (fun _ => acceptS_P (c.toNat : Int) fv (decode (limitsS (c.toNat : Int) fv) rest).1 hdl.1 (foldS_ok (byte_R64 c) hdl.2)) (h := ?_)
       refine R.move (h := ?_)
       refine R.extract (h := ?_)
       refine R.extract (h := ?_)
       refine R.alloc Z25 (h := ?_)
       refine R.storeA A25 (h := ?_)
       refine R.assign (h := ?_)
       refine .n0 ?_
       refine .seq ?_
       refine .region rfl ?_
       refine R.move (h := ?_)
       refine .n0 ?_
       refine LGo.ifb (ht := fun hc3 => by rw [tryS, if_pos hd] at hno; rw [hno] at hc3; cases hc3) (hf := fun hc3 => ?_)
       refine .skip ?_
       refine .inBlock ?_
       refine LGo.drop 6 (fun o h => (hA' o).1 h) (by omega) [] ((5, .loop fn Tryz.f16.ntmps [(1, (true, .ptr 0 0)), (2, (true, .ptr 1 0)), (3, (true, .ptr 2 0)), (4, (true, .ptr 3 0))] #[27] ac _ .busy none) :: (4, .raw (.deferred (some []))) :: [(0, .box 33 [.sv (.sl 1 (bytesC (c :: rest)))]), (1, .box 25 (zeroS.c.map LV.sv)), (2, .box 23 [.i 0]), (3, .box 3 [.i c.toNat])]) trivial (by repeat (first | exact trivial | refine ⟨rfl, ?_⟩)) (by simp) (by simp [LO.lt, LV.lts, LV.lt, lts_sv]) (h := ?_)
       refine LGo.done (RoundEnd.go rfl (fun o z hz hne => ?_) rfl)
       rcases o with _ | _ | _ | _ | _ | _ | o <;> first | exact absurd rfl hne | exact hz
  have yr : ∀ fv : Int, (tryS (c.toNat : Int) fv rest).2 = true → Yld Tryz.prog 5 [.i fv] [(0, .box 33 [.sv (.sl 1 (bytesC (c :: rest)))]), (1, .box 25 (zeroS.c.map LV.sv)), (2, .box 23 [.i 0]), (3, .box 3 [.i c.toNat]), (4, .raw (.deferred (some []))), (5, .loop fn Tryz.f16.ntmps [(1, (true, .ptr 0 0)), (2, (true, .ptr 1 0)), (3, (true, .ptr 2 0)), (4, (true, .ptr 3 0))] #[27] ac bc .ready none)] false [(0, .box 33 [.sv (.sl 1 (bytesC (c :: rest)))]), (1, .box 25 ((tryS (c.toNat : Int) fv rest).1.c.map LV.sv)), (2, .box 23 [.i 0]), (3, .box 3 [.i c.toNat]), (4, .raw (.deferred (some []))), (5, .loop fn Tryz.f16.ntmps [(1, (true, .ptr 0 0)), (2, (true, .ptr 1 0)), (3, (true, .ptr 2 0)), (4, (true, .ptr 3 0))] #[27] ac bc .done (some .ret))] := by
    intro fv hyes
    refine Yld.walk 6 ((5, (true, .i fv)) :: (27, (true, .i fv)) :: [(1, (true, .ptr 0 0)), (2, (true, .ptr 1 0)), (3, (true, .ptr 2 0)), (4, (true, .ptr 3 0))]) (hpN := by rw [show Tryz.f16.ntmps = 50 from Tryz.ntmps16]; simp) (hA := ?_) (hB := ?_)
    · intro l B' hA' hmd'; subst hac
      refine .region rfl ?_
      refine R.assign (h := ?_)
      refine .n0 ?_
      exact LGo.done (fun cx a w hr => ⟨rfl, cx, hr⟩)
    · intro l B' hA' hmd'; subst hbc
      refine .block ?_
      refine .seq ?_
      refine .region rfl ?_
      first | refine R.loadB O3 (h := ?_) | refine R.load1 O3 (h := ?_)
      refine R.move (h := ?_)
      refine R.callP (es := [_, _]) (fun _ => limitsS_P (c.toNat : Int) fv) (h := ?_)
      first | refine R.loadB O33 (h := ?_) | refine R.load1 O33 (h := ?_)
      refine R.sliceLo SF33 (ha := fun _ => ⟨by omega, by rw [bytesC_length]; simp; omega⟩) (h := ?_)
      rw [show (bytesC (c :: rest)).drop (Int.toNat 1) = bytesC rest from rfl]
      refine R.callP (es := [_, _]) (fun _ => decode_P (limitsS (c.toNat : Int) fv) rest (by have := limitsS_len (c.toNat : Int) fv; omega) (by omega)) (h := ?_)
      refine R.move (h := ?_)
      refine R.extract (h := ?_)
      refine R.extract (h := ?_)
      refine R.extract (h := ?_)
      refine R.assign (h := ?_)
      refine R.assign (h := ?_)
      refine R.assign (h := ?_)
      refine Reg.nil ⟨fun _ => ⟨mixedO, by rfl, by rfl⟩, ?_⟩
      refine .seq ?_
      refine .seq ?_
      refine .region rfl ?_
      refine R.move (h := ?_)
      refine R.bin (run_neq _ _ _ _ _ _) (h := ?_)
      refine .n0 ?_
      refine LGo.ifb (ht := fun hc4 => by rw [show (tryS (c.toNat : Int) fv rest) = (zeroS, false) from if_neg (by simpa using hc4)] at hyes; cases hyes) (hf := fun hc4 => ?_)
      refine .skip ?_
      refine .seq ?_
      refine .region rfl ?_
      have hd : (decode (limitsS (c.toNat : Int) fv) rest).2.2 = 0 := by simpa using hc4
      have hdl := decode_flds hd
      rw [show (tryS (c.toNat : Int) fv rest).1 = (acceptS (c.toNat : Int) fv (decode (limitsS (c.toNat : Int) fv) rest).1).1 from by rw [tryS, if_pos hd]]
      first | refine R.loadB O3 (h := ?_) | refine R.load1 O3 (h := ?_)
      refine R.move (h := ?_)
      refine R.move (h := ?_)
      refine R.callP (es := [_, _, _]) (fun _ => acceptS_P (c.toNat : Int) fv (decode (limitsS (c.toNat : Int) fv) rest).1 hdl.1 (foldS_ok (byte_R64 c) hdl.2)) (h := ?_)
      refine R.move (h := ?_)
      refine R.extract (h := ?_)
      refine R.extract (h := ?_)
      refine R.alloc Z25 (h := ?_)
      refine R.storeA A25 (h := ?_)
      refine R.assign (h := ?_)
      refine .n0 ?_
      refine .seq ?_
      refine .region rfl ?_
      refine R.move (h := ?_)
      refine .n0 ?_
      refine LGo.ifb (ht := fun hc5 => ?_) (hf := fun hc5 => by rw [tryS, if_pos hd] at hyes; rw [hyes] at hc5; cases hc5)
      refine .seq ?_
      refine .region rfl ?_
      first | refine R.loadA A25 (h := ?_) | refine R.loadN A25 (h := ?_) | refine R.loadP A25 (h := ?_)
      refine R.storeA A25 (h := ?_)
      refine R.storeB O23 (h := ?_)
      refine .n0 ?_
      refine LGo.drop 6 (fun o h => (hA' o).1 h) (by omega) [] ((5, .loop fn Tryz.f16.ntmps [(1, (true, .ptr 0 0)), (2, (true, .ptr 1 0)), (3, (true, .ptr 2 0)), (4, (true, .ptr 3 0))] #[27] ac _ .busy none) :: (4, .raw (.deferred (some []))) :: [(0, .box 33 [.sv (.sl 1 (bytesC (c :: rest)))]), (1, .box 25 ((acceptS (c.toNat : Int) fv (decode (limitsS (c.toNat : Int) fv) rest).1).1.c.map LV.sv)), (2, .box 23 [.i 0]), (3, .box 3 [.i c.toNat])]) trivial (by repeat (first | exact trivial | refine ⟨rfl, ?_⟩)) (by simp) (by simp [LO.lt, LV.lts, LV.lt, lts_sv]) (h := ?_)
      refine LGo.ret (RoundEnd.ret rfl (fun o z hz hne => ?_) rfl)
      rcases o with _ | _ | _ | _ | _ | _ | o <;> first | exact absurd rfl hne | exact hz
  have hr := forms_go (y := 5) (m := 6) (by decide) rfl (by simp [LO.lt, LV.lts, LV.lt, lts_sv]) rfl rfl (yg 0 h0) (yg 11 h1)
  exact hr
 ·
  refine .inBlock ?_
  refine .seq ?_
  refine .region rfl ?_
  refine R.build BF25 (is := []) (xs := []) (es := []) (h := ?_)
  refine R.storeA A25 (h := ?_)
  refine R.storeB O23 (h := ?_)
  refine .n0 ?_
  exact LGo.ret (FnPost.mark (by rfl) (ret_AB Tryz.results16 A25 O23 hA hmd))

theorem decS_nil : PC Tryz.prog 16 [.sv (.sl 1 (bytesC []))] (.tup [.agg (zeroS.c.map LV.sv), .i 11]) := by
 refine ⟨LC.of_go Tryz.func16 (c := _) rfl (by kernel_rfl) (by rw [Tryz.ntmps16]; simp) rfl rfl (by simp [LO.lt, LV.lts, LV.lt]) (by simp) ?_⟩
 intro B hA hmd
 refine .seq ?_
 refine .region rfl ?_
 refine R.box (h := ?_)
 refine R.alloc Z25 (h := ?_)
 refine R.alloc Z23 (h := ?_)
 refine .n0 ?_
 refine .seq ?_
 refine .seq ?_
 refine .region rfl ?_
 first | refine R.loadB O33 (h := ?_) | refine R.load1 O33 (h := ?_)
 first | refine R.len S33 (h := ?_) | refine R.lenRs S33 (h := ?_) | refine R.lenV (run_lenNil S33) (h := ?_)
 rw [show ((bytesC []).length : Int) = 0 from rfl]
 refine R.bin (run_eql _ _ _ _ _ _) (h := ?_)
 refine R.move (h := ?_)
 first | refine R.loadB O33 (h := ?_) | refine R.load1 O33 (h := ?_)
 refine R.skip (.v undef) (es := [_, _]) (h := ?_)
 refine R.skip (.y 0) (es := [_]) (h := ?_)
 refine R.skip (.i 0) (es := [_]) (h := ?_)
 refine R.skip (.b false) (es := [_, _]) (h := ?_)
 refine R.skip (.b true) (es := [_]) (h := ?_)
 refine R.or (h := ?_)
 refine .n0 ?_
 refine LGo.ifb (ht := fun hc => ?_) (hf := fun hc => by simp at hc)
 refine .seq ?_
 refine .region rfl ?_
 refine R.build BF25 (is := []) (xs := []) (es := []) (h := ?_)
 refine R.storeA A25 (h := ?_)
 refine R.storeB O23 (h := ?_)
 refine .n0 ?_
 exact LGo.ret (ret_AB Tryz.results16 A25 O23 hA hmd)

theorem decS_out (c : UInt8) (rest : List UInt8) (hk : knownS c.toNat = false) : PC Tryz.prog 16 [.sv (.sl 1 (bytesC (c :: rest)))] (.tup [.agg (zeroS.c.map LV.sv), .i 11]) := by
 refine ⟨LC.of_go Tryz.func16 (c := _) rfl (by kernel_rfl) (by rw [Tryz.ntmps16]; simp) rfl rfl (by simp [LO.lt, LV.lts, LV.lt]) (by simp) ?_⟩
 intro B hA hmd
 have hcl := u8_lt c
 have hcg := u8_ge c
 refine .seq ?_
 refine .region rfl ?_
 refine R.box (h := ?_)
 refine R.alloc Z25 (h := ?_)
 refine R.alloc Z23 (h := ?_)
 refine .n0 ?_
 refine .seq ?_
 refine .seq ?_
 refine .region rfl ?_
 first | refine R.loadB O33 (h := ?_) | refine R.load1 O33 (h := ?_)
 first | refine R.len S33 (h := ?_) | refine R.lenRs S33 (h := ?_) | refine R.lenV (run_lenNil S33) (h := ?_)
 rw [show ((bytesC (c :: rest)).length : Int) = (rest.length : Int) + 1 from by rw [bytesC_length]; simp]
 refine R.bin (run_eql _ _ _ _ _ _) (h := ?_)
 rw [show decide ((rest.length : Int) + 1 = 0) = false from by simp; omega]
 refine R.move (h := ?_)
 first | refine R.loadB O33 (h := ?_) | refine R.load1 O33 (h := ?_)
 refine R.index I33 (e := [.val (.int .u8 c.toNat)]) (hj := fun _ => ⟨by decide, rfl⟩) (h := ?_)
 first | refine R.loadB O5 (h := ?_) | refine R.load1 O5 (h := ?_)
 first | refine R.convI Tryz.runUnderlying5 Tryz.runUnderlying3 (h := ?_) | refine R.convW Tryz.runUnderlying5 Tryz.runUnderlying3 (h := ?_)
 refine R.callP (es := [_]) (fun _ => knownS_P (c.toNat : Int)) (h := ?_)
 refine R.not (h := ?_)
 refine R.or (h := ?_)
 refine .n0 ?_
 refine LGo.ifb (ht := fun hc => ?_) (hf := fun hc => by rw [hk] at hc; simp at hc)
 refine .seq ?_
 refine .region rfl ?_
 refine R.build BF25 (is := []) (xs := []) (es := []) (h := ?_)
 refine R.storeA A25 (h := ?_)
 refine R.storeB O23 (h := ?_)
 refine .n0 ?_
 exact LGo.ret (ret_AB Tryz.results16 A25 O23 hA hmd)

theorem decS_P (b : List UInt8) (hb : b.length ≤ 9000) : PC Tryz.prog 16 [.sv (.sl 1 (bytesC b))] (.tup [.agg ((decS b).1.c.map LV.sv), .i (decS b).2]) := by
  cases b with
  | nil => exact decS_nil
  | cons c rest =>
    have hr : rest.length ≤ 9000 := by simp at hb; omega
    by_cases hk : knownS c.toNat = true
    · by_cases h0 : (tryS (c.toNat : Int) 0 rest).2 = true
      · rw [show decS (c :: rest) = ((tryS (c.toNat : Int) 0 rest).1, 0) from by rw [decS, if_pos hk, if_pos h0]]
        exact decS_A c rest hr hk h0
      · by_cases h1 : (tryS (c.toNat : Int) 11 rest).2 = true
        · rw [show decS (c :: rest) = ((tryS (c.toNat : Int) 11 rest).1, 0) from by rw [decS, if_pos hk, if_neg h0, if_pos h1]]
          exact decS_B c rest hr hk (by simpa using h0) h1
        · rw [show decS (c :: rest) = (zeroS, 11) from by rw [decS, if_pos hk, if_neg h0, if_neg h1]]
          exact decS_C c rest hr hk (by simpa using h0) (by simpa using h1)
    · rw [show decS (c :: rest) = (zeroS, 11) from by rw [decS, if_neg hk]]
      exact decS_out c rest (by simpa using hk)

end Go.Proofs.YtcobkjognpjikaaGreatDoor
