/- FieldsKnown answers true. -/
import Derived.Test.YtmiamhegohlglaaV
import Derived.Test.YtmiamhegohlglaaC31
import Derived.Test.YtmiamhegohlglaaPL3
set_option linter.unusedSimpArgs false
set_option linter.unusedVariables false
namespace Go.Proofs.Ytmiamhegohlglaa

theorem kn_enc (fs : List Fld) (a : List Int) (e : Int) (h : encode lawRules fs = (a, e)) (hl : fs.length ≤ 100) (hok : ∀ x ∈ fs, FldOk x) : PC Try.prog 18 [.sv (.sl 5 (lawRules.map Rule.c)), .sv (.sl 3 (fs.map Fld.c))] (.tup [.sv (.sl 1 (ic .u8 a)), .i e]) := by
  have := encode_P lawRules fs (by decide) hl hok
  rwa [h] at this
theorem knA : PC Try.prog 18 [.sv (.sl 5 (lawRules.map Rule.c)), .sv (.sl 3 (([⟨1, 301, []⟩] : List Fld).map Fld.c))] (.tup [.sv (.sl 1 (ic .u8 [])), .i 7]) := kn_enc [⟨1, 301, []⟩] [] 7 (by decide +kernel) (by decide) (by simp [FldOk])
theorem knB : PC Try.prog 18 [.sv (.sl 5 (lawRules.map Rule.c)), .sv (.sl 3 (([⟨4, 0, [97]⟩] : List Fld).map Fld.c))] (.tup [.sv (.sl 1 (ic .u8 [])), .i 4]) := kn_enc [⟨4, 0, [97]⟩] [] 4 (by decide +kernel) (by decide) (by simp [FldOk])
theorem knC : PC Try.prog 18 [.sv (.sl 5 (lawRules.map Rule.c)), .sv (.sl 3 (([⟨2, 0, []⟩] : List Fld).map Fld.c))] (.tup [.sv (.sl 1 (ic .u8 [])), .i 2]) := kn_enc [⟨2, 0, []⟩] [] 2 (by decide +kernel) (by decide) (by simp [FldOk])
theorem knD : PC Try.prog 18 [.sv (.sl 5 (lawRules.map Rule.c)), .v (.slice none 0 0)] (.tup [.sv (.sl 1 (ic .u8 [])), .i 4]) := PC.nil1 (kn_enc [] [] 4 (by decide +kernel) (by decide) (by simp))
def knS : List (List UInt8) := [[1, 2, 0, 7], [1, 1, 7, 1, 1, 7], [], [4, 0, 1, 97], [1, 1], [1, 0, 4, 0, 0], [1, 2, 2, 0]]
def knW : List Int := [0, 3, 0, 0, 0, 2, 0]
theorem kn_dec (k : Nat) (hk : k < 7) : decode lawRules (knS.getD k []) = ([], knW.getD k 0, 11) := by
  match k, hk with
  | 0, _ => show _ = _; kernel_rfl
  | 1, _ => show _ = _; kernel_rfl
  | 2, _ => show _ = _; kernel_rfl
  | 3, _ => show _ = _; kernel_rfl
  | 4, _ => show _ = _; kernel_rfl
  | 5, _ => show _ = _; kernel_rfl
  | 6, _ => show _ = _; kernel_rfl
theorem knS_at (k : Nat) (hk : k < 7) : (knS.map LV.t)[0 + ((k : Nat) : Int).toNat * 1]? = some (.t (knS.getD k [])) := by
  rw [Int.toNat_natCast, Nat.zero_add, Nat.mul_one]
  match k, hk with
  | 0, _ => rfl
  | 1, _ => rfl
  | 2, _ => rfl
  | 3, _ => rfl
  | 4, _ => rfl
  | 5, _ => rfl
  | 6, _ => rfl
theorem knW_at (k : Nat) (hk : k < 7) : (knW.map LV.i)[0 + ((k : Nat) : Int).toNat * 1]? = some (.i (knW.getD k 0)) := by
  rw [Int.toNat_natCast, Nat.zero_add, Nat.mul_one]
  match k, hk with
  | 0, _ => rfl
  | 1, _ => rfl
  | 2, _ => rfl
  | 3, _ => rfl
  | 4, _ => rfl
  | 5, _ => rfl
  | 6, _ => rfl
theorem knS_len (k : Nat) (hk : k < 7) : (knS.getD k []).length ≤ 10 := by
  match k, hk with
  | 0, _ => decide
  | 1, _ => decide
  | 2, _ => decide
  | 3, _ => decide
  | 4, _ => decide
  | 5, _ => decide
  | 6, _ => decide
theorem knE (k : Nat) (hk : k < 7) : PC Try.prog 13 [.sv (.sl 5 (lawRules.map Rule.c)), .sv (.sl 1 (bytesC (knS.getD k [])))] (.tup [.sv (.sl 3 (([] : List Fld).map Fld.c)), .i (knW.getD k 0), .i 11]) := by
  have h := decode_P lawRules (knS.getD k []) (by decide) (by have := knS_len k hk; omega)
  rw [kn_dec k hk] at h
  exact h
theorem BX48 : BuildX Try.prog 48 (List.replicate 7 (.string (ByteArray.mk #[]))) := ⟨Try.zeroValue48, 7, 9, Try.runUnderlying48, Try.sizeOf9⟩
theorem BX49 : BuildX Try.prog 49 (List.replicate 7 (.int .i64 0)) := ⟨Try.zeroValue49, 7, 3, Try.runUnderlying49, Try.sizeOf3⟩

theorem fknown_P : PC Try.prog 8 [] (.b true) := by
  refine ⟨LC.of_go Try.func8 (c := _) rfl (by kernel_rfl) (by rw [Try.ntmps8]; simp) rfl rfl (by simp [LO.lt, LV.lts, LV.lt]) (by simp) ?_⟩
  intro B hA hmd
  refine LGo.seq ?_
  refine LGo.region rfl ?_  -- region 0
  refine R.assign (h := ?_)
  refine Reg.nil ⟨fun h => (by cases h), ?_⟩
  refine LGo.seq ?_
  refine LGo.region rfl ?_  -- region 1
  refine R.callP (es := []) (fun _ => lawRules_P) (h := ?_)
  refine R.build BF34 (is := [0, 1]) (xs := [_, _]) (es := [_, _]) (h := ?_)
  refine R.buildSliceF AP26 (([⟨1, 301, []⟩] : List Fld).map Fld.c) (xs := [_]) (es := [_]) (hcs := CellsOfs.cons (CellsOf.agg rfl) CellsOfs.nil) (h := ?_)
  refine R.callP (es := [_, _]) (fun _ => knA) (h := ?_)
  refine R.move (h := ?_)
  refine R.extract (h := ?_)
  refine R.extract (h := ?_)
  refine R.assign (h := ?_)
  refine R.assign (h := ?_)
  refine Reg.nil ⟨fun h => (by cases h), ?_⟩
  refine LGo.seq ?_
  refine LGo.region rfl ?_  -- region 2
  refine R.callP (es := []) (fun _ => lawRules_P) (h := ?_)
  refine R.build BF34 (is := [0, 2]) (xs := [_, _]) (es := [_, _]) (h := ?_)
  refine R.buildSliceF AP26 (([⟨4, 0, [97]⟩] : List Fld).map Fld.c) (xs := [_]) (es := [_]) (hcs := CellsOfs.cons (CellsOf.agg rfl) CellsOfs.nil) (h := ?_)
  refine R.callP (es := [_, _]) (fun _ => knB) (h := ?_)
  refine R.move (h := ?_)
  refine R.extract (h := ?_)
  refine R.extract (h := ?_)
  refine R.assign (h := ?_)
  refine R.assign (h := ?_)
  refine Reg.nil ⟨fun h => (by cases h), ?_⟩
  refine LGo.seq ?_
  refine LGo.region rfl ?_  -- region 3
  refine R.callP (es := []) (fun _ => lawRules_P) (h := ?_)
  refine R.build BF34 (is := [0]) (xs := [_]) (es := [_]) (h := ?_)
  refine R.buildSliceF AP26 (([⟨2, 0, []⟩] : List Fld).map Fld.c) (xs := [_]) (es := [_]) (hcs := CellsOfs.cons (CellsOf.agg rfl) CellsOfs.nil) (h := ?_)
  refine R.callP (es := [_, _]) (fun _ => knC) (h := ?_)
  refine R.move (h := ?_)
  refine R.extract (h := ?_)
  refine R.extract (h := ?_)
  refine R.assign (h := ?_)
  refine R.assign (h := ?_)
  refine Reg.nil ⟨fun h => (by cases h), ?_⟩
  refine LGo.seq ?_
  refine LGo.region rfl ?_  -- region 4
  refine R.callP (es := []) (fun _ => lawRules_P) (h := ?_)
  refine R.callP (es := [_, _]) (fun _ => knD) (h := ?_)
  refine R.move (h := ?_)
  refine R.extract (h := ?_)
  refine R.extract (h := ?_)
  refine R.assign (h := ?_)
  refine R.assign (h := ?_)
  refine Reg.nil ⟨fun h => (by cases h), ?_⟩
  refine LGo.seq ?_
  refine LGo.region rfl ?_  -- region 5
  refine R.buildX BX48 (is := [0, 1, 2, 3, 4, 5, 6]) (xs := [_, _, _, _, _, _, _]) (es := [_, _, _, _, _, _, _]) (h := ?_)
  refine R.alloc Z48 (h := ?_)
  refine R.storeA A48 (h := ?_)
  refine Reg.nil ⟨fun h => (by cases h), ?_⟩
  refine LGo.seq ?_
  refine LGo.region rfl ?_  -- region 6
  refine R.buildX BX49 (is := [0, 1, 2, 3, 4, 5, 6]) (xs := [_, _, _, _, _, _, _]) (es := [_, _, _, _, _, _, _]) (h := ?_)
  refine R.alloc Z49 (h := ?_)
  refine R.storeA A49 (h := ?_)
  refine Reg.nil ⟨fun h => (by cases h), ?_⟩
  refine LGo.seq ?_
  refine LGo.seq ?_
  refine LGo.region rfl ?_  -- region 7
  refine R.assign (h := ?_)
  refine Reg.nil ⟨fun h => (by cases h), ?_⟩
  refine LGo.block ?_
  refine LGo.loop ?_
  refine LGo.loopG (σ := Nat) (fun x => x ≤ 7) (fun x => [(11, (true, .i (x : Nat)))]) (fun x => [(0, .box 48 (knS.map LV.t)), (1, .box 49 (knW.map LV.i))]) (fun x => 7 - x) (0) [(2, _), (4, _), (6, _), (8, _), (9, _), (10, _)] (by simp) (by repeat (first | exact trivial | refine ⟨rfl, ?_⟩)) (by repeat (first | exact trivial | refine ⟨rfl, ?_⟩)) (by repeat (first | exact trivial | refine ⟨rfl, ?_⟩)) ?_
  rintro k hk7 ih
  refine LGo.seq ?_
  refine LGo.seq ?_
  refine LGo.region rfl ?_  -- region 8
  refine R.move (h := ?_)
  refine R.bin (run_lss _ _ _ _ _ _) (h := ?_)
  refine Reg.nil ⟨fun h => (by cases h), ?_⟩
  refine LGo.ifd (ht := fun hc => ?_) (hf := fun hc => ?_)
  · -- then 1
    have hk : k < 7 := by omega
    have hsl := knS_len k hk
    refine LGo.skip ?_
    refine LGo.seq ?_
    refine LGo.block ?_
    refine LGo.seq ?_
    refine LGo.region rfl ?_  -- region 10 DRAWS
    refine R.callP (es := []) (fun _ => lawRules_P) (h := ?_)
    refine R.move (h := ?_)
    refine R.indexArr I48 (hj := fun _ => ⟨by omega, by omega⟩) (h := ?_)
    refine R.loadB O9 (hc := knS_at k hk) (h := ?_)
    refine R.toBytes Try.underlying9 Try.underlying23 Try.underlying5 (l := knS.getD k []) (hl := by omega) (h := ?_)
    refine R.callP (es := [_, _]) (fun _ => knE k hk) (h := ?_)
    refine R.move (h := ?_)
    refine R.extract (h := ?_)
    refine R.extract (h := ?_)
    refine R.extract (h := ?_)
    refine R.assign (h := ?_)
    refine R.assign (h := ?_)
    refine R.assign (h := ?_)
    refine Reg.nil ⟨fun _ => ⟨mixedO, by rfl, by rfl⟩, ?_⟩
    refine LGo.seq ?_
    refine LGo.region rfl ?_  -- region 11
    refine R.move (h := ?_)
    first | refine R.len S26 (h := ?_) | refine R.lenRs S26 (h := ?_) | refine R.lenV (run_lenNil S26) (h := ?_)
    refine R.bin (run_neq _ _ _ _ _ _) (h := ?_)
    refine R.move (h := ?_)
    refine R.move (h := ?_)
    refine R.move (h := ?_)
    refine R.indexArr I49 (hj := fun _ => ⟨by omega, by omega⟩) (h := ?_)
    refine R.loadB O3 (hc := knW_at k hk) (h := ?_)
    refine R.bin (run_neq _ _ _ _ _ _) (h := ?_)
    refine R.or (h := ?_)
    refine R.move (h := ?_)
    refine R.move (h := ?_)
    refine R.bin (run_neq _ _ _ _ _ _) (h := ?_)
    refine R.or (h := ?_)
    refine Reg.nil ⟨fun h => (by cases h), ?_⟩
    refine LGo.ifb (ht := fun hc2 => by simp at hc2) (hf := fun hc2 => ?_)
    refine LGo.skip ?_
    refine LGo.inBlock ?_
    refine LGo.region rfl ?_  -- region 9
    refine R.move (h := ?_)
    first | refine R.add (h := ?_) | refine R.addW (h := ?_)
    refine R.assign (h := ?_)
    refine Reg.nil ⟨fun h => (by cases h), ?_⟩
    refine LGo.inLoop ?_
    exact LGo.next _ (fun o h => by have := (hA o).1 h; omega) (by omega) (ih (k + 1) (by omega) (by omega)) (by repeat (first | exact trivial | refine ⟨rfl, ?_⟩)) (by repeat (first | exact trivial | refine ⟨rfl, ?_⟩))
  · -- else 1
    refine LGo.exit rfl ?_
    refine LGo.seq ?_
    refine LGo.region rfl ?_  -- region 13
    refine R.move (h := ?_)
    refine R.bin (run_eql _ _ _ _ _ _) (h := ?_)
    refine R.move (h := ?_)
    refine R.move (h := ?_)
    refine R.bin (run_eql _ _ _ _ _ _) (h := ?_)
    refine R.and (h := ?_)
    refine R.move (h := ?_)
    refine R.move (h := ?_)
    refine R.bin (run_eql _ _ _ _ _ _) (h := ?_)
    refine R.and (h := ?_)
    refine R.move (h := ?_)
    refine R.move (h := ?_)
    refine R.bin (run_eql _ _ _ _ _ _) (h := ?_)
    refine R.and (h := ?_)
    refine R.move (h := ?_)
    refine R.callP (es := []) (fun _ => shown_P) (h := ?_)
    refine R.and (h := ?_)
    refine R.assign (h := ?_)
    refine Reg.nil ⟨fun h => (by cases h), ?_⟩
    refine LGo.tru 0 (h := ?_)
    exact LGo.ret (ret_T Try.results8 hA hmd)

end Go.Proofs.Ytmiamhegohlglaa
