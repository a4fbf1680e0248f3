/- FramesKnown answers true. -/
import Derived.Test.YtbbkgfkghpflnaaV
import Derived.Test.YtbbkgfkghpflnaaPL
set_option linter.unusedSimpArgs false
set_option linter.unusedVariables false
namespace Go.Proofs.Ytbbkgfkghpflnaa

def badL : List (List UInt8) := [[72], [71, 2], [71, 1, 5], [71, 1, 0, 0], [71, 1, 4, 1]]
theorem bad_split (k : Nat) (hk : k < 5) : split (badL.getD k []) = ([], ([], true)) := by
  match k, hk with
  | 0, _ => decide +kernel
  | 1, _ => decide +kernel
  | 2, _ => decide +kernel
  | 3, _ => decide +kernel
  | 4, _ => decide +kernel
theorem bad_at (k : Nat) (hk : k < 5) : (strsC badL)[((k : Nat) : Int).toNat]? = some [.val (.string ⟨(badL.getD k []).toArray⟩)] := by
  rw [Int.toNat_natCast]
  match k, hk with
  | 0, _ => rfl
  | 1, _ => rfl
  | 2, _ => rfl
  | 3, _ => rfl
  | 4, _ => rfl
theorem bad_len (k : Nat) (hk : k < 5) : (badL.getD k []).length ≤ 4 := by
  match k, hk with
  | 0, _ => decide
  | 1, _ => decide
  | 2, _ => decide
  | 3, _ => decide
  | 4, _ => decide
theorem kn1 : PC Try.prog 11 [.v (.slice none 0 0)] (.tup [.sv (.sl 1 (bytesC [])), .i 6]) := by
  have h := frame_P [] (by decide)
  rw [show frame [] = ([], 6) from rfl] at h
  exact PC.nilA h
theorem kn2 : PC Try.prog 11 [.sv (.sl 1 (bytesC (List.replicate 1025 0)))] (.tup [.sv (.sl 1 (bytesC [])), .i 3]) := by
  have h := frame_P (List.replicate 1025 0) (by rw [List.length_replicate]; decide)
  rw [show frame (List.replicate 1025 0) = ([], 3) from by unfold frame; rw [if_neg (by rw [List.length_replicate]; decide), if_pos (by rw [List.length_replicate]; decide)]] at h
  exact h
theorem knS (k : Nat) (hk : k < 5) : PC Try.prog 7 [.sv (.sl 1 (bytesC (badL.getD k [])))] (.tup [.sv (.sl 1 (rowsC [])), stC ([], true)]) := by
  have h := split_P (badL.getD k []) (by have := bad_len k hk; omega)
  rw [bad_split k hk] at h
  exact h
theorem kn3 : PC Try.prog 10 [stC ([], false)] (.tup [.i 5, .i 0]) := by
  have h := need_P ([], false) (by decide)
  rw [show need ([], false) = (5, 0) from by decide +kernel] at h
  exact h
theorem kn4 : PC Try.prog 10 [stC ([71, 1, 0, 9, 97], false)] (.tup [.i 8, .i 0]) := by
  have h := need_P ([71, 1, 0, 9, 97], false) (by decide)
  rw [show need ([71, 1, 0, 9, 97], false) = (8, 0) from by decide +kernel] at h
  exact h

theorem known_P : PC Try.prog 5 [] (.b true) := by
  refine ⟨LC.of_go Try.func5 (c := _) rfl (by kernel_rfl) (by rw [Try.ntmps5]; simp) rfl rfl (by simp [LO.lt, LV.lts, LV.lt]) (by simp) ?_⟩
  intro B hA hmd
  refine LGo.seq ?_
  refine LGo.region rfl ?_  -- region 0
  refine R.assign (h := ?_)
  refine Reg.nil ⟨fun h => (by cases h), ?_⟩
  refine LGo.seq ?_
  refine LGo.region rfl ?_  -- region 1
  refine R.callP (es := [_]) (fun _ => kn1) (h := ?_)
  refine R.move (h := ?_)
  refine R.extract (h := ?_)
  refine R.extract (h := ?_)
  refine R.assign (h := ?_)
  refine R.assign (h := ?_)
  refine Reg.nil ⟨fun h => (by cases h), ?_⟩
  refine LGo.seq ?_
  refine LGo.region rfl ?_  -- region 2
  refine R.makeF AP22 (k := .u8) (by kernel_rfl) (h := ?_)
  rw [show ic .u8 (List.replicate 1025 0) = bytesC (List.replicate 1025 0) from by rw [ic, bytesC, List.map_replicate, List.map_replicate]; rfl]
  refine R.callP (es := [_]) (fun _ => kn2) (h := ?_)
  refine R.move (h := ?_)
  refine R.extract (h := ?_)
  refine R.extract (h := ?_)
  refine R.assign (h := ?_)
  refine R.assign (h := ?_)
  refine Reg.nil ⟨fun h => (by cases h), ?_⟩
  refine LGo.seq ?_
  refine LGo.region rfl ?_  -- region 3
  refine R.buildSliceF AP40 (strsC badL) (xs := [_, _, _, _, _]) (es := [_, _, _, _, _]) (hcs := CellsOfs.cons (CellsOf.one rfl) (CellsOfs.cons (CellsOf.one rfl) (CellsOfs.cons (CellsOf.one rfl) (CellsOfs.cons (CellsOf.one rfl) (CellsOfs.cons (CellsOf.one rfl) (CellsOfs.nil)))))) (h := ?_)
  refine R.assign (h := ?_)
  refine Reg.nil ⟨fun h => (by cases h), ?_⟩
  refine LGo.seq ?_
  refine LGo.seq ?_
  refine LGo.region rfl ?_  -- region 4
  refine R.assign (h := ?_)
  refine Reg.nil ⟨fun h => (by cases h), ?_⟩
  refine LGo.block ?_
  refine LGo.loop ?_
  refine LGo.loopG (σ := Nat) (fun x => x ≤ 5) (fun x => [(6, (true, .i (x : Nat)))]) (fun x => []) (fun x => 5 - x) (0) [(2, _), (4, _), (5, _)] (by simp) (by repeat (first | exact trivial | refine ⟨rfl, ?_⟩)) (by repeat (first | exact trivial | refine ⟨rfl, ?_⟩)) (by repeat (first | exact trivial | refine ⟨rfl, ?_⟩)) ?_
  rintro k hk5 ih
  refine LGo.seq ?_
  refine LGo.seq ?_
  refine LGo.region rfl ?_  -- region 5
  refine R.move (h := ?_)
  refine R.move (h := ?_)
  first | refine R.len S40 (h := ?_) | refine R.lenRs S40 (h := ?_) | refine R.lenV (run_lenNil S40) (h := ?_)
  rw [show (strsC badL).length = 5 from rfl]
  refine R.bin (run_lss _ _ _ _ _ _) (h := ?_)
  refine Reg.nil ⟨fun h => (by cases h), ?_⟩
  refine LGo.ifd (ht := fun hc => ?_) (hf := fun hc => ?_)
  · -- then 1
    have hk : k < 5 := by omega
    refine LGo.skip ?_
    refine LGo.seq ?_
    refine LGo.block ?_
    refine LGo.seq ?_
    refine LGo.region rfl ?_  -- region 7
    refine R.move (h := ?_)
    refine R.move (h := ?_)
    refine R.index I40 (hj := fun _ => ⟨by omega, bad_at k hk⟩) (h := ?_)
    first | refine R.loadB O9 (h := ?_) | refine R.load1 O9 (h := ?_)
    refine R.toBytes Try.underlying9 Try.underlying22 Try.underlying5 (l := badL.getD k []) (hl := by have := bad_len k hk; omega) (h := ?_)
    refine R.callP (es := [_]) (fun _ => knS k hk) (h := ?_)
    refine R.move (h := ?_)
    refine R.extract (h := ?_)
    refine R.extract (h := ?_)
    refine R.alloc Z26 (h := ?_)
    refine R.assign (h := ?_)
    refine R.storeA A26 (h := ?_)
    refine Reg.nil ⟨fun h => (by cases h), ?_⟩
    refine LGo.seq ?_
    refine LGo.region rfl ?_  -- region 8
    refine R.move (h := ?_)
    first | refine R.len S24 (h := ?_) | refine R.lenRs S24 (h := ?_) | refine R.lenV (run_lenNil S24) (h := ?_)
    refine R.bin (run_neq _ _ _ _ _ _) (h := ?_)
    refine R.move (h := ?_)
    first | refine R.loadA A26 (h := ?_) | refine R.loadN A26 (h := ?_)
    refine R.build BF26 (is := [1]) (xs := [_]) (es := [_]) (h := ?_)
    refine R.binA (NE26 _ _ _ _ _ _) (h := ?_)
    refine R.or (h := ?_)
    refine Reg.nil ⟨fun h => (by cases h), ?_⟩
    refine LGo.ifb (ht := fun hc2 => by simp [rowsC] at hc2) (hf := fun hc2 => ?_)
    refine LGo.skip ?_
    refine LGo.inBlock ?_
    refine LGo.region rfl ?_  -- region 6
    refine R.move (h := ?_)
    first | refine R.add (h := ?_) | refine R.addW (h := ?_)
    refine R.assign (h := ?_)
    refine Reg.nil ⟨fun h => (by cases h), ?_⟩
    refine LGo.inLoop ?_
    exact LGo.next _ (fun o h => by have := (hA o).1 h; omega) (by omega) (ih (k + 1) (by omega) (by omega)) (by repeat (first | exact trivial | refine ⟨rfl, ?_⟩)) (by repeat (first | exact trivial | refine ⟨rfl, ?_⟩))
  · -- else 1
    refine LGo.exit rfl ?_
    refine LGo.seq ?_
    refine LGo.region rfl ?_  -- region 10
    refine R.build BF26 (is := []) (xs := []) (es := []) (h := ?_)
    refine R.callP (es := [_]) (fun _ => kn3) (h := ?_)
    refine R.move (h := ?_)
    refine R.extract (h := ?_)
    refine R.extract (h := ?_)
    refine R.assign (h := ?_)
    refine R.assign (h := ?_)
    refine Reg.nil ⟨fun h => (by cases h), ?_⟩
    refine LGo.seq ?_
    refine LGo.region rfl ?_  -- region 11
    refine R.build BF26 (is := [0]) (xs := [_]) (es := [_]) (h := ?_)
    refine R.callP (es := [_]) (fun _ => kn4) (h := ?_)
    refine R.move (h := ?_)
    refine R.extract (h := ?_)
    refine R.extract (h := ?_)
    refine R.assign (h := ?_)
    refine R.assign (h := ?_)
    refine Reg.nil ⟨fun h => (by cases h), ?_⟩
    refine LGo.seq ?_
    refine LGo.region rfl ?_  -- region 12
    refine R.move (h := ?_)
    refine R.bin (run_eql _ _ _ _ _ _) (h := ?_)
    refine R.move (h := ?_)
    refine R.move (h := ?_)
    refine R.bin (run_eql _ _ _ _ _ _) (h := ?_)
    refine R.and (h := ?_)
    refine R.move (h := ?_)
    refine R.move (h := ?_)
    refine R.bin (run_eql _ _ _ _ _ _) (h := ?_)
    refine R.and (h := ?_)
    refine R.move (h := ?_)
    refine R.move (h := ?_)
    refine R.bin (run_eql _ _ _ _ _ _) (h := ?_)
    refine R.and (h := ?_)
    refine R.move (h := ?_)
    refine R.move (h := ?_)
    refine R.bin (run_eql _ _ _ _ _ _) (h := ?_)
    refine R.and (h := ?_)
    refine R.move (h := ?_)
    refine R.move (h := ?_)
    refine R.bin (run_eql _ _ _ _ _ _) (h := ?_)
    refine R.and (h := ?_)
    refine R.move (h := ?_)
    refine R.callP (es := []) (fun _ => shown_P) (h := ?_)
    refine R.and (h := ?_)
    refine R.assign (h := ?_)
    refine Reg.nil ⟨fun h => (by cases h), ?_⟩
    refine LGo.tru 0 (hb := by decide) (h := ?_)
    exact LGo.ret (ret_T Try.results5 hA hmd)

end Go.Proofs.Ytbbkgfkghpflnaa
