/- words: Split. -/
import Derived.Test.YtcobkjognpjikaaGreatDoorQD
set_option linter.unusedSimpArgs false
set_option linter.unusedVariables false
namespace Go.Proofs.YtcobkjognpjikaaGreatDoor

theorem fields_L (s : List UInt8) : LC Tryz.prog 58 0 [.t s] [] (.fn (.func 80) [] [.ptr 0 0]) [(0, .box 9 [.t s])] 1 := by
 refine LC.of_go Tryz.func58 (c := _) rfl (by kernel_rfl) (by rw [Tryz.ntmps58]; simp) rfl rfl (by simp [LO.lt, LV.lts, LV.lt]) (by simp) ?_
 intro B hA hmd
 refine .seq ?_
 refine .region rfl ?_
 refine R.box (h := ?_)
 refine R.assign (h := ?_)
 refine .n0 ?_
 refine .seq ?_
 refine .region rfl ?_
 refine R.makeFunc (es := []) (fs := [_]) (h := ?_)
 refine R.assign (h := ?_)
 refine .n0 ?_
 exact LGo.ret (ret_T Tryz.results58 hA hmd)

def longF (l : List Fd) : Bool := l.foldl (fun b f => b || decide (2000 < (f.s.length : Int))) false
def split1 (s : List UInt8) : List Fd × Int := if 8192 < (s.length : Int) then ([], 3) else if s = [] then ([], 0) else if (fldsG (s.length + 1) s).2 = false then ([], 6) else if (longF (fldsG (s.length + 1) s).1 || decide (64 < ((fldsG (s.length + 1) s).1.length : Int))) = true then ([], 3) else ((fldsG (s.length + 1) s).1, 0)
theorem longF_app (l : List Fd) (f : Fd) : longF (l ++ [f]) = (longF l || decide (2000 < (f.s.length : Int))) := by unfold longF; rw [List.foldl_append]; rfl
theorem fldsG_len : ∀ (n : Nat) (r : List UInt8), (fldsG n r).1.length ≤ r.length + 1
  | 0, r => by simp [fldsG]
  | n + 1, r => by
    rw [fldsG]
    split
    · simp
    · simp
    · rename_i d a q he
      split
      · have h1 := fldsG_len n q
        have h2 : (a :: q).length ≤ r.length := by
          unfold nextF at he
          split at he
          · simp only [Option.some.injEq, Prod.mk.injEq] at he; rw [← he.2]; simp
          · split at he
            · simp only [Option.some.injEq, Prod.mk.injEq] at he; rw [← he.2]; simp
            · cases he
        simp only [List.length_cons] at h2 ⊢
        omega
      · simp

theorem split_ok (s : List UInt8) {fs : List Fd} (hfl0 : fldsG (s.length + 1) s = (fs, true)) : PC Tryz.prog 28 [.t s] (.tup [.sv (.sl 2 ((split1 s).1.map Fd.c)), .i (split1 s).2]) := by
 refine ⟨LC.of_go Tryz.func28 (c := _) rfl (by kernel_rfl) (by rw [Tryz.ntmps28]; simp) rfl rfl (by simp [LO.lt, LV.lts, LV.lt]) (by simp) ?_⟩
 intro B hA hmd
 have hfl : fldsG (s.length + 1) s = (fs, true) := hfl0
 refine .seq ?_
 refine .region rfl ?_
 refine R.alloc Z64 (h := ?_)
 refine R.alloc Z23 (h := ?_)
 refine .n0 ?_
 refine .seq ?_
 refine .block ?_
 refine .seq ?_
 refine .region rfl ?_
 refine R.move (h := ?_)
 refine R.lenT Tryz.runUnderlying9 (h := ?_)
 refine R.bin (run_gtr _ _ _ _ _ _) (h := ?_)
 refine R.assign (h := ?_)
 refine .n0 ?_
 refine LGo.ifd (ht := fun hc => ?_) (hf := fun hc => ?_)
 ·
  rw [show split1 s = ([], 3) from if_pos hc]
  refine .seq ?_
  refine .region rfl ?_
  refine R.storeB O64 (h := ?_)
  refine R.storeB O23 (h := ?_)
  refine .n0 ?_
  refine LGo.packNil 0 0 68 2 (h := ?_)
  refine LGo.frzBx 0 (h := ?_)
  exact LGo.ret (ret_BB Tryz.results28 O64 O23 hA hmd)
 ·
  have hlen : s.length ≤ 8192 := by omega
  refine .seq ?_
  refine .region rfl ?_
  refine R.move (h := ?_)
  refine R.bin (run_eqlT _ _ _ _ _) (h := ?_)
  refine R.assign (h := ?_)
  refine .n0 ?_
  refine LGo.ifd (ht := fun hc2 => ?_) (hf := fun hc2 => ?_)
  ·
   rw [show split1 s = ([], 0) from by unfold split1; rw [if_neg hc, if_pos hc2]]
   refine .seq ?_
   refine .region rfl ?_
   refine R.storeB O64 (h := ?_)
   refine R.storeB O23 (h := ?_)
   refine .n0 ?_
   refine LGo.packNil 0 0 68 2 (h := ?_)
   refine LGo.frzBx 0 (h := ?_)
   exact LGo.ret (ret_BB Tryz.results28 O64 O23 hA hmd)
  ·
   have hll := fldsG_len (s.length + 1) s
   rw [hfl] at hll
   dsimp only at hll
   refine .skip ?_
   refine .inBlock ?_
   refine .seq ?_
   refine .region rfl ?_
   refine R.alloc Z64 (h := ?_)
   refine .n0 ?_
   refine .seq ?_
   refine .region rfl ?_
   refine R.alloc Z4 (h := ?_)
   refine R.storeB O4 (h := ?_)
   refine .n0 ?_
   refine .seq ?_
   refine .seq ?_
   refine .region rfl ?_
   refine R.move (h := ?_)
   refine R.callN (es := [_]) (fields_L s) (h := ?_)
   refine .n0 ?_
   refine .block ?_
   refine LGo.packNil 2 0 68 2 (h := ?_)
   refine LGo.keep [(2, (true, .ptr 0 0)), (3, (true, .ptr 1 0)), (4, (true, .ptr 2 0)), (5, (true, .ptr 3 0)), (16, (true, .fn (.func 80) [] [.ptr 4 0]))] [(0, .box 64 [.v (.slice none 0 0)]), (1, .box 23 [.i 0]), (2, .bx 64 [.v undef] 0 68 2 ((fs.take 0).map Fd.c)), (3, .box 4 [.b (longF (fs.take 0))]), (4, .box 9 [.t s])] (by repeat (first | exact trivial | refine ⟨rfl, ?_⟩)) (by repeat (first | exact trivial | refine ⟨rfl, ?_⟩)) ?_
   refine LGo.rangeN (fun fn ac bc => [(0, .box 64 [.v (.slice none 0 0)]), (1, .box 23 [.i 0]), (2, .bx 64 [.v undef] 0 68 2 ((fs.take fs.length).map Fd.c)), (3, .box 4 [.b (longF (fs.take fs.length))]), (4, .box 9 [.t s]), (5, .raw (.deferred (some []))), (6, .loop fn Tryz.f28.ntmps [(2, (true, .ptr 0 0)), (3, (true, .ptr 1 0)), (4, (true, .ptr 2 0)), (5, (true, .ptr 3 0)), (16, (true, .fn (.func 80) [] [.ptr 4 0]))] #[17, 18] ac bc .ready none)]) (hit := fun fn ac bc hac hbc => ?_) (h := fun fn => ?_)
   ·
    suffices hgo : YG Tryz.prog 6 7 (fs.map Fd.y) (fun j => [(0, .box 64 [.v (.slice none 0 0)]), (1, .box 23 [.i 0]), (2, .bx 64 [.v undef] 0 68 2 ((fs.take j).map Fd.c)), (3, .box 4 [.b (longF (fs.take j))]), (4, .box 9 [.t s]), (5, .raw (.deferred (some []))), (6, .loop fn Tryz.f28.ntmps [(2, (true, .ptr 0 0)), (3, (true, .ptr 1 0)), (4, (true, .ptr 2 0)), (5, (true, .ptr 3 0)), (16, (true, .fn (.func 80) [] [.ptr 4 0]))] #[17, 18] ac bc .ready none)]) from by
      have hr := fieldsIt_ok (A0 := .box 64 [.v (.slice none 0 0)]) (A1 := .box 23 [.i 0]) (A2 := fun j => .bx 64 [.v undef] 0 68 2 ((fs.take j).map Fd.c)) (A3 := fun j => .box 4 [.b (longF (fs.take j))]) (A5 := .raw (.deferred (some []))) (A6 := .loop fn Tryz.f28.ntmps [(2, (true, .ptr 0 0)), (3, (true, .ptr 1 0)), (4, (true, .ptr 2 0)), (5, (true, .ptr 3 0)), (16, (true, .fn (.func 80) [] [.ptr 4 0]))] #[17, 18] ac bc .ready none) hlen hfl (fun j m hm => by simp [LO.lt, LV.lts, LV.lt, lts_sv]; omega) hgo
      exact hr
    refine ⟨fun j hj => rfl, fun j hj => by simp [LO.lt, LV.lts, LV.lt, lts_sv], fun j hj => ?_⟩
    rw [List.getElem_map]
    have hj' : j < fs.length := by simpa using hj
    have htk : fs.take (j + 1) = fs.take j ++ [fs[j]] := by rw [List.take_succ_eq_append_getElem hj']
    try dsimp only
    rw [htk, List.map_append, longF_app]
    generalize fs[j] = fd at *
    refine Yld.walkA 7 8 ((7, (true, .b true)) :: (6, (true, .ptr 7 0)) :: (17, (true, .agg (fd.c.map LV.sv))) :: (18, (true, .b true)) :: [(2, (true, .ptr 0 0)), (3, (true, .ptr 1 0)), (4, (true, .ptr 2 0)), (5, (true, .ptr 3 0)), (16, (true, .fn (.func 80) [] [.ptr 4 0]))]) ((7, .box 68 (fd.c.map LV.sv)) :: [(0, .box 64 [.v (.slice none 0 0)]), (1, .box 23 [.i 0]), (2, .bx 64 [.v undef] 0 68 2 ((fs.take j).map Fd.c)), (3, .box 4 [.b (longF (fs.take j))]), (4, .box 9 [.t s]), (5, .raw (.deferred (some []))), (6, .loop fn Tryz.f28.ntmps [(2, (true, .ptr 0 0)), (3, (true, .ptr 1 0)), (4, (true, .ptr 2 0)), (5, (true, .ptr 3 0)), (16, (true, .fn (.func 80) [] [.ptr 4 0]))] #[17, 18] ac bc .ready none)]) (hpN := by rw [show Tryz.f28.ntmps = 39 from Tryz.ntmps28]; simp) (hA := ?_) (hB := ?_)
    · intro l B' hA' hmd'; subst hac
      refine .seq ?_
      refine .region rfl ?_
      refine R.alloc Z68 (h := ?_)
      refine R.storeA A68 (h := ?_)
      refine .n0 ?_
      refine .region rfl ?_
      refine R.assign (h := ?_)
      refine .n0 ?_
      refine LGo.keep ((7, (true, .b true)) :: (6, (true, .ptr 7 0)) :: (17, (true, .agg (fd.c.map LV.sv))) :: (18, (true, .b true)) :: [(2, (true, .ptr 0 0)), (3, (true, .ptr 1 0)), (4, (true, .ptr 2 0)), (5, (true, .ptr 3 0)), (16, (true, .fn (.func 80) [] [.ptr 4 0]))]) ((7, .box 68 (fd.c.map LV.sv)) :: [(0, .box 64 [.v (.slice none 0 0)]), (1, .box 23 [.i 0]), (2, .bx 64 [.v undef] 0 68 2 ((fs.take j).map Fd.c)), (3, .box 4 [.b (longF (fs.take j))]), (4, .box 9 [.t s]), (5, .raw (.deferred (some []))), (6, .loop fn Tryz.f28.ntmps [(2, (true, .ptr 0 0)), (3, (true, .ptr 1 0)), (4, (true, .ptr 2 0)), (5, (true, .ptr 3 0)), (16, (true, .fn (.func 80) [] [.ptr 4 0]))] #[17, 18] _ bc .ready none)]) (by repeat (first | exact trivial | refine ⟨rfl, ?_⟩)) (by repeat (first | exact trivial | refine ⟨rfl, ?_⟩)) ?_
      exact LGo.done (fun cx a w hr => ⟨rfl, cx, hr⟩)
    · intro l B' hA' hmd'; subst hbc
      refine LGo.unpack 2 (h := ?_)
      refine .block ?_
      refine .seq ?_
      refine .seq ?_
      refine .region rfl ?_
      refine R.move (h := ?_)
      refine R.not (h := ?_)
      refine .n0 ?_
      refine LGo.ifb (ht := fun hc3 => by simp at hc3) (hf := fun hc3 => ?_)
      refine .skip ?_
      refine .seq ?_
      refine .region rfl ?_
      first | refine R.loadB O4 (h := ?_) | refine R.load1 O4 (h := ?_)
      refine R.move (h := ?_)
      first | refine R.field F68_0 (h := ?_) | refine R.fieldAt F68_0 (h := ?_)
      first | refine R.loadB O9 (h := ?_) | refine R.load1 O9 (h := ?_)
      refine R.lenT Tryz.runUnderlying9 (h := ?_)
      refine R.bin (run_gtr _ _ _ _ _ _) (h := ?_)
      refine R.or (h := ?_)
      refine R.storeB O4 (h := ?_)
      refine .n0 ?_
      refine .region rfl ?_
      first | refine R.loadB O64 (h := ?_) | refine R.load1 O64 (h := ?_)
      first | refine R.loadA A68 (h := ?_) | refine R.loadN A68 (h := ?_) | refine R.loadP A68 (h := ?_)
      refine R.buildSliceG AP64 (xs := [_]) (es := [_]) (hcs := CellsOfs.cons (CellsOf.agg rfl) CellsOfs.nil) (h := ?_)
      refine R.appendS AP64 (hs := SrcOk.sl Tryz.underlying64 (by simp; rfl)) (hlen := by simp; omega) (h := ?_)
      refine R.storeB O64 (h := ?_)
      refine .n0 ?_
      refine .inBlock ?_
      refine LGo.pack 2 0 (h := ?_)
      refine LGo.drop 7 (fun o h => (hA' o).1 h) (by omega) [] ((6, .loop fn Tryz.f28.ntmps [(2, (true, .ptr 0 0)), (3, (true, .ptr 1 0)), (4, (true, .ptr 2 0)), (5, (true, .ptr 3 0)), (16, (true, .fn (.func 80) [] [.ptr 4 0]))] #[17, 18] ac _ .busy none) :: (5, .raw (.deferred (some []))) :: [(0, .box 64 [.v (.slice none 0 0)]), (1, .box 23 [.i 0]), (2, .bx 64 [.v undef] 0 68 2 ((fs.take j).map Fd.c ++ [fd.c])), (3, .box 4 [.b (longF (fs.take j) || decide (2000 < (fd.s.length : Int)))]), (4, .box 9 [.t s])]) trivial (by repeat (first | exact trivial | refine ⟨rfl, ?_⟩)) (by simp) (by simp [LO.lt, LV.lts, LV.lt, lts_sv]) (h := ?_)
      refine LGo.done (RoundEnd.go rfl (fun o z hz hne => ?_) rfl)
      rcases o with _ | _ | _ | _ | _ | _ | _ | o <;> first | exact absurd rfl hne | exact hz
   ·
    rw [List.take_length]
    refine LGo.frzBx 2 (h := ?_)
    refine .inBlock ?_
    refine .seq ?_
    refine .seq ?_
    refine .region rfl ?_
    first | refine R.loadB O4 (h := ?_) | refine R.load1 O4 (h := ?_)
    refine R.move (h := ?_)
    first | refine R.loadB O64 (h := ?_) | refine R.load1 O64 (h := ?_)
    first | refine R.len S64 (h := ?_) | refine R.lenRs S64 (h := ?_) | refine R.lenV (run_lenNil S64) (h := ?_)
    refine R.bin (run_gtr _ _ _ _ _ _) (h := ?_)
    refine R.or (h := ?_)
    refine .n0 ?_
    refine LGo.ifb (ht := fun hc4 => ?_) (hf := fun hc4 => ?_)
    ·
     rw [show split1 s = ([], 3) from by unfold split1; rw [if_neg hc, if_neg hc2, hfl, if_neg (by simp)]; exact if_pos (by simpa using hc4)]
     refine .seq ?_
     refine .region rfl ?_
     refine R.storeB O64 (h := ?_)
     refine R.storeB O23 (h := ?_)
     refine .n0 ?_
     refine LGo.packNil 0 0 68 2 (h := ?_)
     refine LGo.frzBx 0 (h := ?_)
     exact LGo.ret (FnPost.mark (by rfl) (ret_BB Tryz.results28 O64 O23 hA hmd))
    ·
     rw [show split1 s = (fs, 0) from by unfold split1; rw [if_neg hc, if_neg hc2, hfl, if_neg (by simp)]; exact if_neg (by simpa using hc4)]
     refine .skip ?_
     refine .seq ?_
     refine .region rfl ?_
     first | refine R.loadB O64 (h := ?_) | refine R.load1 O64 (h := ?_)
     refine R.storeB O64 (h := ?_)
     refine R.storeB O23 (h := ?_)
     refine .n0 ?_
     exact LGo.ret (FnPost.mark (by rfl) (ret_BB Tryz.results28 O64 O23 hA hmd))

theorem split_err (s : List UInt8) {fs : List Fd} (hfl0 : fldsG (s.length + 1) s = (fs, false)) : PC Tryz.prog 28 [.t s] (.tup [.sv (.sl 2 ((split1 s).1.map Fd.c)), .i (split1 s).2]) := by
 refine ⟨LC.of_go Tryz.func28 (c := _) rfl (by kernel_rfl) (by rw [Tryz.ntmps28]; simp) rfl rfl (by simp [LO.lt, LV.lts, LV.lt]) (by simp) ?_⟩
 intro B hA hmd
 have hfl : fldsG (s.length + 1) s = (fs, false) := hfl0
 refine .seq ?_
 refine .region rfl ?_
 refine R.alloc Z64 (h := ?_)
 refine R.alloc Z23 (h := ?_)
 refine .n0 ?_
 refine .seq ?_
 refine .block ?_
 refine .seq ?_
 refine .region rfl ?_
 refine R.move (h := ?_)
 refine R.lenT Tryz.runUnderlying9 (h := ?_)
 refine R.bin (run_gtr _ _ _ _ _ _) (h := ?_)
 refine R.assign (h := ?_)
 refine .n0 ?_
 refine LGo.ifd (ht := fun hc => ?_) (hf := fun hc => ?_)
 ·
  rw [show split1 s = ([], 3) from if_pos hc]
  refine .seq ?_
  refine .region rfl ?_
  refine R.storeB O64 (h := ?_)
  refine R.storeB O23 (h := ?_)
  refine .n0 ?_
  refine LGo.packNil 0 0 68 2 (h := ?_)
  refine LGo.frzBx 0 (h := ?_)
  exact LGo.ret (ret_BB Tryz.results28 O64 O23 hA hmd)
 ·
  have hlen : s.length ≤ 8192 := by omega
  refine .seq ?_
  refine .region rfl ?_
  refine R.move (h := ?_)
  refine R.bin (run_eqlT _ _ _ _ _) (h := ?_)
  refine R.assign (h := ?_)
  refine .n0 ?_
  refine LGo.ifd (ht := fun hc2 => ?_) (hf := fun hc2 => ?_)
  ·
   rw [show split1 s = ([], 0) from by unfold split1; rw [if_neg hc, if_pos hc2]]
   refine .seq ?_
   refine .region rfl ?_
   refine R.storeB O64 (h := ?_)
   refine R.storeB O23 (h := ?_)
   refine .n0 ?_
   refine LGo.packNil 0 0 68 2 (h := ?_)
   refine LGo.frzBx 0 (h := ?_)
   exact LGo.ret (ret_BB Tryz.results28 O64 O23 hA hmd)
  ·
   have hll := fldsG_len (s.length + 1) s
   rw [hfl] at hll
   dsimp only at hll
   refine .skip ?_
   refine .inBlock ?_
   refine .seq ?_
   refine .region rfl ?_
   refine R.alloc Z64 (h := ?_)
   refine .n0 ?_
   refine .seq ?_
   refine .region rfl ?_
   refine R.alloc Z4 (h := ?_)
   refine R.storeB O4 (h := ?_)
   refine .n0 ?_
   refine .seq ?_
   refine .seq ?_
   refine .region rfl ?_
   refine R.move (h := ?_)
   refine R.callN (es := [_]) (fields_L s) (h := ?_)
   refine .n0 ?_
   refine .block ?_
   refine LGo.packNil 2 0 68 2 (h := ?_)
   refine LGo.keep [(2, (true, .ptr 0 0)), (3, (true, .ptr 1 0)), (4, (true, .ptr 2 0)), (5, (true, .ptr 3 0)), (16, (true, .fn (.func 80) [] [.ptr 4 0]))] [(0, .box 64 [.v (.slice none 0 0)]), (1, .box 23 [.i 0]), (2, .bx 64 [.v undef] 0 68 2 ((fs.take 0).map Fd.c)), (3, .box 4 [.b (longF (fs.take 0))]), (4, .box 9 [.t s])] (by repeat (first | exact trivial | refine ⟨rfl, ?_⟩)) (by repeat (first | exact trivial | refine ⟨rfl, ?_⟩)) ?_
   refine LGo.rangeR (fun fn ac bc => [(0, .box 64 [.sv (.sl 2 [])]), (1, .box 23 [.i 6]), (2, .bx 64 [.v undef] 0 68 2 ((fs.take fs.length).map Fd.c)), (3, .box 4 [.b (longF (fs.take fs.length))]), (4, .box 9 [.t s]), (5, .raw (.deferred (some []))), (6, .loop fn Tryz.f28.ntmps [(2, (true, .ptr 0 0)), (3, (true, .ptr 1 0)), (4, (true, .ptr 2 0)), (5, (true, .ptr 3 0)), (16, (true, .fn (.func 80) [] [.ptr 4 0]))] #[17, 18] ac bc .done (some .ret))]) (hit := fun fn ac bc hac hbc => ?_) (h := fun fn => ?_)
   ·
    skip
    have yg : ∀ j, j < fs.length → ∀ fd, fs[j]? = some fd → Yld Tryz.prog 6 (Fd.y fd) ([(0, .box 64 [.v (.slice none 0 0)]), (1, .box 23 [.i 0]), (2, .bx 64 [.v undef] 0 68 2 ((fs.take j).map Fd.c)), (3, .box 4 [.b (longF (fs.take j))]), (4, .box 9 [.t s]), (5, .raw (.deferred (some []))), (6, .loop fn Tryz.f28.ntmps [(2, (true, .ptr 0 0)), (3, (true, .ptr 1 0)), (4, (true, .ptr 2 0)), (5, (true, .ptr 3 0)), (16, (true, .fn (.func 80) [] [.ptr 4 0]))] #[17, 18] ac bc .ready none)]) true ([(0, .box 64 [.v (.slice none 0 0)]), (1, .box 23 [.i 0]), (2, .bx 64 [.v undef] 0 68 2 ((fs.take (j + 1)).map Fd.c)), (3, .box 4 [.b (longF (fs.take (j + 1)))]), (4, .box 9 [.t s]), (5, .raw (.deferred (some []))), (6, .loop fn Tryz.f28.ntmps [(2, (true, .ptr 0 0)), (3, (true, .ptr 1 0)), (4, (true, .ptr 2 0)), (5, (true, .ptr 3 0)), (16, (true, .fn (.func 80) [] [.ptr 4 0]))] #[17, 18] ac bc .ready none)]) := by
      intro j hj' fd hfd
      have htk : fs.take (j + 1) = fs.take j ++ [fd] := by rw [List.take_succ_eq_append_getElem hj']; congr 2; rw [List.getElem?_eq_getElem hj'] at hfd; exact Option.some.inj hfd
      rw [htk, List.map_append, longF_app]
      refine Yld.walkA 7 8 ((7, (true, .b true)) :: (6, (true, .ptr 7 0)) :: (17, (true, .agg (fd.c.map LV.sv))) :: (18, (true, .b true)) :: [(2, (true, .ptr 0 0)), (3, (true, .ptr 1 0)), (4, (true, .ptr 2 0)), (5, (true, .ptr 3 0)), (16, (true, .fn (.func 80) [] [.ptr 4 0]))]) ((7, .box 68 (fd.c.map LV.sv)) :: [(0, .box 64 [.v (.slice none 0 0)]), (1, .box 23 [.i 0]), (2, .bx 64 [.v undef] 0 68 2 ((fs.take j).map Fd.c)), (3, .box 4 [.b (longF (fs.take j))]), (4, .box 9 [.t s]), (5, .raw (.deferred (some []))), (6, .loop fn Tryz.f28.ntmps [(2, (true, .ptr 0 0)), (3, (true, .ptr 1 0)), (4, (true, .ptr 2 0)), (5, (true, .ptr 3 0)), (16, (true, .fn (.func 80) [] [.ptr 4 0]))] #[17, 18] ac bc .ready none)]) (hpN := by rw [show Tryz.f28.ntmps = 39 from Tryz.ntmps28]; simp) (hA := ?_) (hB := ?_)
      · intro l B' hA' hmd'; subst hac
        refine .seq ?_
        refine .region rfl ?_
        refine R.alloc Z68 (h := ?_)
        refine R.storeA A68 (h := ?_)
        refine .n0 ?_
        refine .region rfl ?_
        refine R.assign (h := ?_)
        refine .n0 ?_
        refine LGo.keep ((7, (true, .b true)) :: (6, (true, .ptr 7 0)) :: (17, (true, .agg (fd.c.map LV.sv))) :: (18, (true, .b true)) :: [(2, (true, .ptr 0 0)), (3, (true, .ptr 1 0)), (4, (true, .ptr 2 0)), (5, (true, .ptr 3 0)), (16, (true, .fn (.func 80) [] [.ptr 4 0]))]) ((7, .box 68 (fd.c.map LV.sv)) :: [(0, .box 64 [.v (.slice none 0 0)]), (1, .box 23 [.i 0]), (2, .bx 64 [.v undef] 0 68 2 ((fs.take j).map Fd.c)), (3, .box 4 [.b (longF (fs.take j))]), (4, .box 9 [.t s]), (5, .raw (.deferred (some []))), (6, .loop fn Tryz.f28.ntmps [(2, (true, .ptr 0 0)), (3, (true, .ptr 1 0)), (4, (true, .ptr 2 0)), (5, (true, .ptr 3 0)), (16, (true, .fn (.func 80) [] [.ptr 4 0]))] #[17, 18] _ bc .ready none)]) (by repeat (first | exact trivial | refine ⟨rfl, ?_⟩)) (by repeat (first | exact trivial | refine ⟨rfl, ?_⟩)) ?_
        exact LGo.done (fun cx a w hr => ⟨rfl, cx, hr⟩)
      · intro l B' hA' hmd'; subst hbc
        refine LGo.unpack 2 (h := ?_)
        refine .block ?_
        refine .seq ?_
        refine .seq ?_
        refine .region rfl ?_
        refine R.move (h := ?_)
        refine R.not (h := ?_)
        refine .n0 ?_
        refine LGo.ifb (ht := fun hc3 => by simp at hc3) (hf := fun hc3 => ?_)
        refine .skip ?_
        refine .seq ?_
        refine .region rfl ?_
        first | refine R.loadB O4 (h := ?_) | refine R.load1 O4 (h := ?_)
        refine R.move (h := ?_)
        first | refine R.field F68_0 (h := ?_) | refine R.fieldAt F68_0 (h := ?_)
        first | refine R.loadB O9 (h := ?_) | refine R.load1 O9 (h := ?_)
        refine R.lenT Tryz.runUnderlying9 (h := ?_)
        refine R.bin (run_gtr _ _ _ _ _ _) (h := ?_)
        refine R.or (h := ?_)
        refine R.storeB O4 (h := ?_)
        refine .n0 ?_
        refine .region rfl ?_
        first | refine R.loadB O64 (h := ?_) | refine R.load1 O64 (h := ?_)
        first | refine R.loadA A68 (h := ?_) | refine R.loadN A68 (h := ?_) | refine R.loadP A68 (h := ?_)
        refine R.buildSliceG AP64 (xs := [_]) (es := [_]) (hcs := CellsOfs.cons (CellsOf.agg rfl) CellsOfs.nil) (h := ?_)
        refine R.appendS AP64 (hs := SrcOk.sl Tryz.underlying64 (by simp; rfl)) (hlen := by simp; omega) (h := ?_)
        refine R.storeB O64 (h := ?_)
        refine .n0 ?_
        refine .inBlock ?_
        refine LGo.pack 2 0 (h := ?_)
        refine LGo.drop 7 (fun o h => (hA' o).1 h) (by omega) [] ((6, .loop fn Tryz.f28.ntmps [(2, (true, .ptr 0 0)), (3, (true, .ptr 1 0)), (4, (true, .ptr 2 0)), (5, (true, .ptr 3 0)), (16, (true, .fn (.func 80) [] [.ptr 4 0]))] #[17, 18] ac _ .busy none) :: (5, .raw (.deferred (some []))) :: [(0, .box 64 [.v (.slice none 0 0)]), (1, .box 23 [.i 0]), (2, .bx 64 [.v undef] 0 68 2 ((fs.take j).map Fd.c ++ [fd.c])), (3, .box 4 [.b (longF (fs.take j) || decide (2000 < (fd.s.length : Int)))]), (4, .box 9 [.t s])]) trivial (by repeat (first | exact trivial | refine ⟨rfl, ?_⟩)) (by simp) (by simp [LO.lt, LV.lts, LV.lt, lts_sv]) (h := ?_)
        refine LGo.done (RoundEnd.go rfl (fun o z hz hne => ?_) rfl)
        rcases o with _ | _ | _ | _ | _ | _ | _ | o <;> first | exact absurd rfl hne | exact hz
    have yl : Yld Tryz.prog 6 [.agg ((⟨[], false⟩ : Fd).c.map LV.sv), .b false] ([(0, .box 64 [.v (.slice none 0 0)]), (1, .box 23 [.i 0]), (2, .bx 64 [.v undef] 0 68 2 ((fs.take fs.length).map Fd.c)), (3, .box 4 [.b (longF (fs.take fs.length))]), (4, .box 9 [.t s]), (5, .raw (.deferred (some []))), (6, .loop fn Tryz.f28.ntmps [(2, (true, .ptr 0 0)), (3, (true, .ptr 1 0)), (4, (true, .ptr 2 0)), (5, (true, .ptr 3 0)), (16, (true, .fn (.func 80) [] [.ptr 4 0]))] #[17, 18] ac bc .ready none)]) false ([(0, .box 64 [.sv (.sl 2 [])]), (1, .box 23 [.i 6]), (2, .bx 64 [.v undef] 0 68 2 ((fs.take fs.length).map Fd.c)), (3, .box 4 [.b (longF (fs.take fs.length))]), (4, .box 9 [.t s]), (5, .raw (.deferred (some []))), (6, .loop fn Tryz.f28.ntmps [(2, (true, .ptr 0 0)), (3, (true, .ptr 1 0)), (4, (true, .ptr 2 0)), (5, (true, .ptr 3 0)), (16, (true, .fn (.func 80) [] [.ptr 4 0]))] #[17, 18] ac bc .done (some .ret))]) := by
      refine Yld.walkA 7 8 ((7, (true, .b false)) :: (6, (true, .ptr 7 0)) :: (17, (true, .agg ((⟨[], false⟩ : Fd).c.map LV.sv))) :: (18, (true, .b false)) :: [(2, (true, .ptr 0 0)), (3, (true, .ptr 1 0)), (4, (true, .ptr 2 0)), (5, (true, .ptr 3 0)), (16, (true, .fn (.func 80) [] [.ptr 4 0]))]) ((7, .box 68 ((⟨[], false⟩ : Fd).c.map LV.sv)) :: [(0, .box 64 [.v (.slice none 0 0)]), (1, .box 23 [.i 0]), (2, .bx 64 [.v undef] 0 68 2 ((fs.take fs.length).map Fd.c)), (3, .box 4 [.b (longF (fs.take fs.length))]), (4, .box 9 [.t s]), (5, .raw (.deferred (some []))), (6, .loop fn Tryz.f28.ntmps [(2, (true, .ptr 0 0)), (3, (true, .ptr 1 0)), (4, (true, .ptr 2 0)), (5, (true, .ptr 3 0)), (16, (true, .fn (.func 80) [] [.ptr 4 0]))] #[17, 18] ac bc .ready none)]) (hpN := by rw [show Tryz.f28.ntmps = 39 from Tryz.ntmps28]; simp) (hA := ?_) (hB := ?_)
      · intro l B' hA' hmd'; subst hac
        refine .seq ?_
        refine .region rfl ?_
        refine R.alloc Z68 (h := ?_)
        refine R.storeA A68 (h := ?_)
        refine .n0 ?_
        refine .region rfl ?_
        refine R.assign (h := ?_)
        refine .n0 ?_
        refine LGo.keep ((7, (true, .b false)) :: (6, (true, .ptr 7 0)) :: (17, (true, .agg ((⟨[], false⟩ : Fd).c.map LV.sv))) :: (18, (true, .b false)) :: [(2, (true, .ptr 0 0)), (3, (true, .ptr 1 0)), (4, (true, .ptr 2 0)), (5, (true, .ptr 3 0)), (16, (true, .fn (.func 80) [] [.ptr 4 0]))]) ((7, .box 68 ((⟨[], false⟩ : Fd).c.map LV.sv)) :: [(0, .box 64 [.v (.slice none 0 0)]), (1, .box 23 [.i 0]), (2, .bx 64 [.v undef] 0 68 2 ((fs.take fs.length).map Fd.c)), (3, .box 4 [.b (longF (fs.take fs.length))]), (4, .box 9 [.t s]), (5, .raw (.deferred (some []))), (6, .loop fn Tryz.f28.ntmps [(2, (true, .ptr 0 0)), (3, (true, .ptr 1 0)), (4, (true, .ptr 2 0)), (5, (true, .ptr 3 0)), (16, (true, .fn (.func 80) [] [.ptr 4 0]))] #[17, 18] _ bc .ready none)]) (by repeat (first | exact trivial | refine ⟨rfl, ?_⟩)) (by repeat (first | exact trivial | refine ⟨rfl, ?_⟩)) ?_
        exact LGo.done (fun cx a w hr => ⟨rfl, cx, hr⟩)
      · intro l B' hA' hmd'; subst hbc
        refine .block ?_
        refine .seq ?_
        refine .seq ?_
        refine .region rfl ?_
        refine R.move (h := ?_)
        refine R.not (h := ?_)
        refine .n0 ?_
        refine LGo.ifb (ht := fun hc4 => ?_) (hf := fun hc4 => by simp at hc4)
        refine .seq ?_
        refine .region rfl ?_
        refine R.storeB O64 (h := ?_)
        refine R.storeB O23 (h := ?_)
        refine .n0 ?_
        refine LGo.packNil 0 0 68 2 (h := ?_)
        refine LGo.frzBx 0 (h := ?_)
        refine LGo.drop 7 (fun o h => (hA' o).1 h) (by omega) [] ((6, .loop fn Tryz.f28.ntmps [(2, (true, .ptr 0 0)), (3, (true, .ptr 1 0)), (4, (true, .ptr 2 0)), (5, (true, .ptr 3 0)), (16, (true, .fn (.func 80) [] [.ptr 4 0]))] #[17, 18] ac _ .busy none) :: (5, .raw (.deferred (some []))) :: [(0, .box 64 [.sv (.sl 2 [])]), (1, .box 23 [.i 6]), (2, .bx 64 [.v undef] 0 68 2 ((fs.take fs.length).map Fd.c)), (3, .box 4 [.b (longF (fs.take fs.length))]), (4, .box 9 [.t s])]) trivial (by repeat (first | exact trivial | refine ⟨rfl, ?_⟩)) (by simp) (by simp [LO.lt, LV.lts, LV.lt, lts_sv]) (h := ?_)
        refine LGo.ret (RoundEnd.ret rfl (fun o z hz hne => ?_) rfl)
        rcases o with _ | _ | _ | _ | _ | _ | _ | o <;> first | exact absurd rfl hne | exact hz
    have hr := fieldsIt_err (A0 := .box 64 [.v (.slice none 0 0)]) (A1 := .box 23 [.i 0]) (A2 := fun j => .bx 64 [.v undef] 0 68 2 ((fs.take j).map Fd.c)) (A3 := fun j => .box 4 [.b (longF (fs.take j))]) (A5 := .raw (.deferred (some []))) (A6 := .loop fn Tryz.f28.ntmps [(2, (true, .ptr 0 0)), (3, (true, .ptr 1 0)), (4, (true, .ptr 2 0)), (5, (true, .ptr 3 0)), (16, (true, .fn (.func 80) [] [.ptr 4 0]))] #[17, 18] ac bc .ready none) hlen hfl (fun j m hm => by simp [LO.lt, LV.lts, LV.lt, lts_sv]; omega) ⟨fun j hj => rfl, fun j hj => by simp [LO.lt, LV.lts, LV.lt, lts_sv], fun j hj => by
      have hj' : j < fs.length := by simpa using hj
      rw [List.getElem_map]
      exact yg j hj' _ (List.getElem?_eq_getElem hj')⟩ (S2 := [(0, .box 64 [.sv (.sl 2 [])]), (1, .box 23 [.i 6]), (2, .bx 64 [.v undef] 0 68 2 ((fs.take fs.length).map Fd.c)), (3, .box 4 [.b (longF (fs.take fs.length))]), (4, .box 9 [.t s]), (5, .raw (.deferred (some []))), (6, .loop fn Tryz.f28.ntmps [(2, (true, .ptr 0 0)), (3, (true, .ptr 1 0)), (4, (true, .ptr 2 0)), (5, (true, .ptr 3 0)), (16, (true, .fn (.func 80) [] [.ptr 4 0]))] #[17, 18] ac bc .done (some .ret))]) rfl (by simp [LO.lt, LV.lts, LV.lt, lts_sv]) yl
    exact hr
   ·
    rw [show split1 s = ([], 6) from by unfold split1; rw [if_neg hc, if_neg hc2, hfl, if_pos rfl]]
    exact (FnPost.mark (by rfl) (ret_BB Tryz.results28 O64 O23 hA hmd))

/-- words.Split -/
theorem split_P (s : List UInt8) : PC Tryz.prog 28 [.t s] (.tup [.sv (.sl 2 ((split1 s).1.map Fd.c)), .i (split1 s).2]) := by
  obtain ⟨fs, ok, h⟩ : ∃ fs ok, fldsG (s.length + 1) s = (fs, ok) := ⟨_, _, rfl⟩
  cases ok
  · exact split_err s h
  · exact split_ok s h

end Go.Proofs.YtcobkjognpjikaaGreatDoor
