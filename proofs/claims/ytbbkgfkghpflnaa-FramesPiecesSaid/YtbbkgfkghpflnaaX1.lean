/- FramesPieces answers true. -/
import Derived.Test.YtbbkgfkghpflnaaV
import Derived.Test.YtbbkgfkghpflnaaPL
set_option linter.unusedSimpArgs false
set_option linter.unusedVariables false
namespace Go.Proofs.Ytbbkgfkghpflnaa

theorem pieces_P (b sz : List UInt8) (hsz : sz.length ≤ maxLen) : PC Try.prog 3 [.sv (.sl 1 (bytesC b)), .sv (.sl 1 (bytesC sz))] (.b true) := by
  refine ⟨LC.of_go Try.func3 (c := _) rfl (by kernel_rfl) (by rw [Try.ntmps3]; simp) rfl rfl (by simp [LO.lt, LV.lts, LV.lt]) (by simp) ?_⟩
  intro B hA hmd
  refine LGo.seq ?_
  refine LGo.region rfl ?_  -- region 0
  refine R.assign (h := ?_)
  refine Reg.nil ⟨fun h => (by cases h), ?_⟩
  refine LGo.seq ?_
  refine LGo.seq ?_
  refine LGo.region rfl ?_  -- region 1
  refine R.move (h := ?_)
  first | refine R.len S22 (h := ?_) | refine R.lenRs S22 (h := ?_) | refine R.lenV (run_lenNil S22) (h := ?_)
  rw [bytesC_length]
  refine R.bin (run_gtr _ _ _ _ _ _) (h := ?_)
  refine Reg.nil ⟨fun h => (by cases h), ?_⟩
  refine LGo.ifd (ht := fun hc => ?_) (hf := fun hc => ?_)
  · -- then 1
    refine LGo.seq ?_
    refine LGo.region rfl ?_  -- region 2
    refine R.callP (es := []) (fun _ => shown_P) (h := ?_)
    refine R.assign (h := ?_)
    refine Reg.nil ⟨fun h => (by cases h), ?_⟩
    exact LGo.ret (ret_T Try.results3 hA hmd)
  · -- else 1
    have hbl : b.length ≤ 4000 := by omega
    have hsl := split_len b
    unfold maxLen at hsz
    refine LGo.skip ?_
    refine LGo.seq ?_
    refine LGo.region rfl ?_  -- region 3
    refine R.move (h := ?_)
    refine R.callP (es := [_]) (fun _ => split_P b (by omega)) (h := ?_)
    refine R.move (h := ?_)
    refine R.extract (h := ?_)
    refine R.extract (h := ?_)
    refine R.alloc Z26 (h := ?_)
    refine R.assign (h := ?_)
    refine R.storeA A26 (h := ?_)
    refine Reg.nil ⟨fun h => (by cases h), ?_⟩
    refine LGo.seq ?_
    refine LGo.region rfl ?_  -- region 4
    refine R.assign (h := ?_)
    refine Reg.nil ⟨fun h => (by cases h), ?_⟩
    refine LGo.seq ?_
    refine LGo.region rfl ?_  -- region 5
    refine R.alloc Z26 (h := ?_)
    refine Reg.nil ⟨fun h => (by cases h), ?_⟩
    refine LGo.seq ?_
    refine LGo.region rfl ?_  -- region 6
    refine R.move (h := ?_)
    refine R.assign (h := ?_)
    refine Reg.nil ⟨fun h => (by cases h), ?_⟩
    refine LGo.seq ?_
    refine LGo.seq ?_
    refine LGo.region rfl ?_  -- region 7
    refine R.assign (h := ?_)
    refine Reg.nil ⟨fun h => (by cases h), ?_⟩
    refine LGo.block ?_
    refine LGo.loop ?_
    rw [show bytesC b = bytesC (b.drop 0) from rfl]
    refine LGo.nilRs 7 22 1 (h := ?_)
    refine LGo.loopG (σ := Nat × Nat) (fun x => x.1 ≤ b.length ∧ x.2 ≤ x.1) (fun x => [(7, (true, .ref 2)), (9, (true, .sv (.sl 1 (bytesC (b.drop x.1))))), (10, (true, .i (x.2 : Nat)))]) (fun x => [(0, .box 26 [.t (split b).2.1, .b (split b).2.2]), (1, .box 26 [.t (split (b.take x.1)).2.1, .b (split (b.take x.1)).2.2]), (2, .rs 22 1 (rowsC (split (b.take x.1)).1))]) (fun x => b.length - x.1) ((0, 0)) [(1, _), (5, _), (6, _), (8, _)] ⟨by simp, by simp⟩ (by repeat (first | exact trivial | refine ⟨rfl, ?_⟩)) (by repeat (first | exact trivial | refine ⟨rfl, ?_⟩)) (by repeat (first | exact trivial | refine ⟨rfl, ?_⟩)) ?_
    rintro ⟨k, j⟩ ⟨hk, hj⟩ ih
    dsimp only at * 
    refine LGo.seq ?_
    refine LGo.seq ?_
    refine LGo.region rfl ?_  -- region 8
    refine R.move (h := ?_)
    first | refine R.len S22 (h := ?_) | refine R.lenRs S22 (h := ?_) | refine R.lenV (run_lenNil S22) (h := ?_)
    rw [bytesC_length, List.length_drop]
    refine R.bin (run_gtr _ _ _ _ _ _) (h := ?_)
    refine Reg.nil ⟨fun h => (by cases h), ?_⟩
    refine LGo.ifd (ht := fun hc2 => ?_) (hf := fun hc2 => ?_)
    · -- then 2
      have hlt : k < b.length := by omega
      have hpl := split_len (b.take k)
      rw [List.length_take] at hpl
      refine LGo.skip ?_
      refine LGo.seq ?_
      refine LGo.block ?_
      refine LGo.seq ?_
      refine LGo.region rfl ?_  -- region 10
      refine R.assign (h := ?_)
      refine Reg.nil ⟨fun h => (by cases h), ?_⟩
      refine LGo.seq ?_
      refine LGo.seq ?_
      refine LGo.region rfl ?_  -- region 11
      refine R.move (h := ?_)
      first | refine R.len S22 (h := ?_) | refine R.lenRs S22 (h := ?_) | refine R.lenV (run_lenNil S22) (h := ?_)
      rw [bytesC_length]
      refine R.bin (run_gtr _ _ _ _ _ _) (h := ?_)
      refine Reg.nil ⟨fun h => (by cases h), ?_⟩
      refine LGo.cut (σ := Int) (fun x => 1 ≤ x ∧ x ≤ 1000) (fun x => [(11, (true, .i x))]) (fun x => [(0, .box 26 [.t (split b).2.1, .b (split b).2.2]), (1, .box 26 [.t (split (b.take k)).2.1, .b (split (b.take k)).2.2]), (2, .rs 22 1 (rowsC (split (b.take k)).1))]) 3 [(1, _), (5, _), (6, _), (7, _), (8, _), (9, _), (10, _)] (by repeat (first | exact trivial | refine ⟨rfl, ?_⟩)) ?_ (fun hcut => ?_)
      · -- the cond C3
        rintro wd ⟨w1, w2⟩
        refine LGo.seq ?_
        refine LGo.region rfl ?_  -- region 13
        refine R.move (h := ?_)
        refine R.move (h := ?_)
        first | refine R.len S22 (h := ?_) | refine R.lenRs S22 (h := ?_) | refine R.lenV (run_lenNil S22) (h := ?_)
        rw [bytesC_length, List.length_drop]
        refine R.minI (h := ?_)
        obtain ⟨m, hm, hm1, hm2⟩ : ∃ m : Nat, min wd (((b.length - k : Nat)) : Int) = m ∧ 1 ≤ m ∧ k + m ≤ b.length := ⟨(min wd (((b.length - k : Nat)) : Int)).toNat, by omega, by omega, by omega⟩
        rw [hm]
        obtain ⟨f1, f2, f3⟩ := feed_piece (b.take k) ((b.drop k).take m)
        have htk : b.take k ++ (b.drop k).take m = b.take (k + m) := (List.take_add).symm
        rw [htk] at f2 f3
        refine R.assign (h := ?_)
        refine Reg.nil ⟨fun h => (by cases h), ?_⟩
        refine LGo.seq ?_
        refine LGo.region rfl ?_  -- region 14 DRAWS
        first | refine R.loadA A26 (h := ?_) | refine R.loadN A26 (h := ?_)
        refine R.move (h := ?_)
        refine R.move (h := ?_)
        refine R.sliceHi SF22 (ha := fun _ => ⟨by omega, by rw [bytesC_length, List.length_drop]; omega⟩) (h := ?_)
        rw [bytesC_take, Int.toNat_natCast]
        refine R.callP (es := [_, _]) (fun _ => feed_P (split (b.take k)).2 ((b.drop k).take m) (by omega) (by rw [List.length_take]; omega)) (h := ?_)
        refine R.move (h := ?_)
        refine R.extract (h := ?_)
        refine R.extract (h := ?_)
        refine R.extract (h := ?_)
        refine R.alloc Z26 (h := ?_)
        refine R.storeA A26 (h := ?_)
        refine R.assign (h := ?_)
        refine R.assign (h := ?_)
        refine Reg.nil ⟨fun _ => ⟨mixedO, by rfl, by rfl⟩, ?_⟩
        refine LGo.seq ?_
        refine LGo.seq ?_
        refine LGo.region rfl ?_  -- region 15
        refine R.move (h := ?_)
        refine R.bin (run_neq _ _ _ _ _ _) (h := ?_)
        refine Reg.nil ⟨fun h => (by cases h), ?_⟩
        refine LGo.ifb (ht := fun hc4 => by rw [f1] at hc4; simp at hc4) (hf := fun hc4 => ?_)
        refine LGo.skip ?_
        refine LGo.seq ?_
        refine LGo.region rfl ?_  -- region 17
        first | refine R.loadA A26 (h := ?_) | refine R.loadN A26 (h := ?_)
        refine R.storeA A26 (h := ?_)
        refine Reg.nil ⟨fun h => (by cases h), ?_⟩
        refine LGo.seq ?_
        refine LGo.region rfl ?_  -- region 18
        refine R.move (h := ?_)
        refine R.move (h := ?_)
        refine R.appendS AP24 (hs := SrcOk.sl Try.underlying24 (rowsC_one _)) (hlen := by
          have := congrArg List.length f2
          have := (split_len (b.take (k + m))).1
          simp only [List.length_append, List.length_take] at *
          rw [rowsC_length, rowsC_length]
          omega) (h := ?_)
        rw [← rowsC_app, ← f2]
        refine R.assign (h := ?_)
        refine Reg.nil ⟨fun h => (by cases h), ?_⟩
        refine LGo.region rfl ?_  -- region 19
        refine R.move (h := ?_)
        refine R.move (h := ?_)
        refine R.sliceLo SF22 (ha := fun _ => ⟨by omega, by rw [bytesC_length, List.length_drop]; omega⟩) (h := ?_)
        rw [bytesC_drop, Int.toNat_natCast, List.drop_drop]
        refine R.assign (h := ?_)
        refine Reg.nil ⟨fun h => (by cases h), ?_⟩
        refine LGo.inBlock ?_
        refine LGo.region rfl ?_  -- region 9
        refine R.move (h := ?_)
        first | refine R.add (h := ?_) | refine R.addW (h := ?_)
        refine R.assign (h := ?_)
        refine Reg.nil ⟨fun h => (by cases h), ?_⟩
        refine LGo.inLoop ?_
        rw [← f3]
        exact LGo.turn [0, 1, 4] (b := 0) (fun o h => by have := (hA o).1 h; omega) (ih (k + m, j + 1) ⟨by dsimp only; omega, by dsimp only; omega⟩ (by dsimp only; omega)) (by repeat (first | exact trivial | refine ⟨rfl, ?_⟩)) (by repeat (first | exact trivial | refine ⟨rfl, ?_⟩))
      · -- the ways of C3
        first | refine LGo.ifd (ht := fun hc3 => ?_) (hf := fun hc3 => ?_) | refine LGo.ifb (ht := fun hc3 => ?_) (hf := fun hc3 => ?_)
        · -- then 3
          have hm0 : 0 ≤ (j : Int) % (sz.length : Int) := Int.emod_nonneg _ (by omega)
          have hm1 : (j : Int) % (sz.length : Int) < (sz.length : Int) := Int.emod_lt_of_pos _ (by omega)
          obtain ⟨x, hx⟩ : ∃ x, (bytesC sz)[((j : Int) % (sz.length : Int)).toNat]? = some [.val (.int .u8 (UInt8.toNat x))] := ⟨_, bytesC_get (List.getElem?_eq_getElem (by omega))⟩
          have hx0 := u8_lt x
          have hx1 := u8_ge x
          refine LGo.region rfl ?_  -- region 12
          refine R.move (h := ?_)
          refine R.move (h := ?_)
          refine R.move (h := ?_)
          first | refine R.len S22 (h := ?_) | refine R.lenRs S22 (h := ?_) | refine R.lenV (run_lenNil S22) (h := ?_)
          rw [bytesC_length]
          refine R.rem (h := ?_)
          refine R.index I22 (hj := fun _ => ⟨hm0, hx⟩) (h := ?_)
          first | refine R.loadB O5 (h := ?_) | refine R.load1 O5 (h := ?_)
          first | refine R.convI Try.runUnderlying5 Try.runUnderlying3 (h := ?_) | refine R.convW Try.runUnderlying5 Try.runUnderlying3 (h := ?_)
          refine R.maxI (h := ?_)
          refine R.assign (h := ?_)
          refine Reg.nil ⟨fun h => (by cases h), ?_⟩
          exact LGo.next _ (fun o h => by have := (hA o).1 h; omega) (by omega) (hcut (max 1 (UInt8.toNat x)) ⟨by omega, by omega⟩) (by repeat (first | exact trivial | refine ⟨rfl, ?_⟩)) (by repeat (first | exact trivial | refine ⟨rfl, ?_⟩))
        · -- else 3
          refine LGo.skip ?_
          exact LGo.next _ (fun o h => by have := (hA o).1 h; omega) (by omega) (hcut 1 ⟨by omega, by omega⟩) (by repeat (first | exact trivial | refine ⟨rfl, ?_⟩)) (by repeat (first | exact trivial | refine ⟨rfl, ?_⟩))
    · -- else 2
      have hk' : k = b.length := by omega
      subst hk'
      rw [List.take_length]
      refine LGo.frz 2 (h := ?_)
      refine LGo.exit rfl ?_
      refine LGo.seq ?_
      refine LGo.region rfl ?_  -- region 20
      first | refine R.loadA A26 (h := ?_) | refine R.loadN A26 (h := ?_)
      first | refine R.loadA A26 (h := ?_) | refine R.loadN A26 (h := ?_)
      refine R.binA (EQ26 _ _ _ _ _ _) (h := ?_)
      refine R.move (h := ?_)
      refine R.move (h := ?_)
      refine R.move (h := ?_)
      refine R.callP (es := [_, _]) (fun _ => same_P (split b).1 (split b).1 (by omega) (by omega)) (h := ?_)
      refine R.and (h := ?_)
      refine R.move (h := ?_)
      refine R.callP (es := []) (fun _ => shown_P) (h := ?_)
      refine R.and (h := ?_)
      refine R.assign (h := ?_)
      refine Reg.nil ⟨fun h => (by cases h), ?_⟩
      refine LGo.tru 4 (hb := by simp [same_self]) (h := ?_)
      exact LGo.ret (ret_T Try.results3 hA hmd)

end Go.Proofs.Ytbbkgfkghpflnaa
