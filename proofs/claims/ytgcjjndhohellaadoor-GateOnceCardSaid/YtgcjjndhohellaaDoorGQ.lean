/- strings.Builder, as an object of one's own. -/
import Derived.Test.YtgcjjndhohellaaDoorGP
import Derived.Test.YtgcjjndhohellaaDoorQB
set_option linter.unusedSimpArgs false
set_option linter.unusedVariables false
namespace Go.Proofs.YtgcjjndhohellaaDoor

theorem ptr_eqNil {t : Nat} (ht : ∃ e, Tryd.prog.underlying t = some (.pointer e)) (x : Operand) : ∀ a w, (do eqGuard .eql t x (.const (.pointer none)) (.pointer (some a)) (.pointer none); binOp .eql t (.pointer (some a)) (.pointer none) : Sem Value).run Tryd.prog w = .ok (.bool false) w := by
  intro a w
  obtain ⟨e, ht⟩ := ht
  have h : (Op.equal t (.pointer (some a)) (.pointer none)).run Tryd.prog w = .ok false w := by
    have : ∀ d, (Op.equalIn (d + 1) t (.pointer (some a)) (.pointer none)).run Tryd.prog w = .ok false w := fun d => by simp [Op.equalIn, run_underlying ht]
    exact this 9999
  simp [binOp, eqGuard, h]

theorem nil_eqNil {t : Nat} (ht : ∃ e, Tryd.prog.underlying t = some (.pointer e)) (x : Operand) : ∀ w, (do eqGuard .eql t x (.const (.pointer none)) (.pointer none) (.pointer none); binOp .eql t (.pointer none) (.pointer none) : Sem Value).run Tryd.prog w = .ok (.bool true) w := by
  intro w
  obtain ⟨e, ht⟩ := ht
  have h : (Op.equal t (.pointer none) (.pointer none)).run Tryd.prog w = .ok true w := by
    have : ∀ d, (Op.equalIn (d + 1) t (.pointer none) (.pointer none)).run Tryd.prog w = .ok true w := fun d => by simp [Op.equalIn, run_underlying ht]
    exact this 9999
  simp [binOp, eqGuard, h]
theorem ptr_neSame (x y : Operand) : ∀ a : Addr, a.off = 0 → ∀ w, (do eqGuard .neq 78 x y (.pointer (some a)) (.pointer (some a)); binOp .neq 78 (.pointer (some a)) (.pointer (some a)) : Sem Value).run Tryd.prog w = .ok (.bool false) w := by
  intro a _ w
  have h : (Op.equal 78 (.pointer (some a)) (.pointer (some a))).run Tryd.prog w = .ok true w := by
    have : ∀ d, (Op.equalIn (d + 1) 78 (.pointer (some a)) (.pointer (some a))).run Tryd.prog w = .ok true w := fun d => by simp [Op.equalIn, run_underlying Tryd.underlying78, Tryd.sizeOf81, sameAddr]
    exact this 9999
  simp [binOp, eqGuard, h]
theorem uptr : ∃ e, Tryd.prog.underlying 78 = some (.pointer e) := ⟨_, Tryd.underlying78⟩
theorem noEsc (a : Addr) (w : World) : (callFunc 78 #[.pointer (some a)]).run Tryd.prog w = .ok (.value (.pointer (some a))) w := by
  rw [run_callFunc_extern Tryd.func78 (by kernel_rfl) (by kernel_rfl) (by kernel_rfl) (e := Extern.AbiNoEscape.same) (by kernel_rfl), Lib.run_noEscape]
  rfl
theorem infoB : ∃ j, Tryd.prog.info? 81 = some j ∧ j.size = 2 := Option.map_eq_some_iff.1 (show (Tryd.prog.info? 81).map (·.size) = some 2 from by kernel_rfl)
theorem toUns (b : Nat) (w : World) (h : w.shape? b = some (81, 2)) : (convert 78 115 (.pointer (some ⟨b, 0, none⟩))).run Tryd.prog w = .ok (.pointer (some ⟨b, 0, none⟩)) w := by
  obtain ⟨j, hj, hjs⟩ := infoB
  exact Lib.run_to_unsafe w ⟨b, 0, none⟩ Tryd.underlying78 Tryd.underlying115 hj (by rw [hjs]; decide) h (by show 0 < 2; decide)
theorem fromUns (b : Nat) (w : World) (h : w.shape? b = some (81, 2)) : (convert 115 78 (.pointer (some ⟨b, 0, none⟩))).run Tryd.prog w = .ok (.pointer (some ⟨b, 0, none⟩)) w := by
  obtain ⟨j, hj, hjs⟩ := infoB
  exact Lib.run_from_unsafe w ⟨b, 0, none⟩ Tryd.underlying115 Tryd.underlying78 hj h (by kernel_rfl)

theorem cc0 (ys : List (List SV)) (hys : ∀ e ∈ ys, e.length = 1) : LC Tryd.prog 69 2 [.ptr 0 0] [(0, .box 81 [.v (.pointer none), .ref 1]), (1, .rs 5 1 ys)] (.tup []) [(0, .box 81 [.ptr 0 0, .ref 1]), (1, .rs 5 1 ys)] 0 := by
 refine LC.of_go Tryd.func69 (c := _) rfl (by kernel_rfl) (by rw [Tryd.ntmps69]; simp) rfl rfl (by simp [LO.lt, LV.lts, LV.lt, lts_sv]) (by simp) ?_
 intro B hA hmd
 refine .seq ?_
 refine .region rfl ?_
 refine R.move (h := ?_)
 refine R.nilCheck (h := ?_)
 first | refine R.field F81_0 (h := ?_) | refine R.fieldAt F81_0 (h := ?_)
 first | refine R.loadB O78 (h := ?_) | refine R.load1 O78 (h := ?_)
 refine R.bin (nil_eqNil uptr _) (h := ?_)
 refine .n0 ?_
 refine LGo.ifb (ht := fun hc => ?_) (hf := fun hc => by simp at hc)
 refine .region rfl ?_
 refine R.move (h := ?_)
 refine R.move (h := ?_)
 refine R.convPtr (hT := fun b w h => toUns b w h) (h := ?_)
 refine R.callSame (hf := noEsc) (h := ?_)
 refine R.convPtr (hT := fun b w h => fromUns b w h) (h := ?_)
 refine R.nilCheck (h := ?_)
 first | refine R.field F81_0 (h := ?_) | refine R.fieldAt F81_0 (h := ?_)
 refine R.storeB O78 (h := ?_)
 refine .n0 ?_
 exact LGo.done (ret_0 Tryd.results69 hA hmd)

theorem cc1 (ys : List (List SV)) (hys : ∀ e ∈ ys, e.length = 1) : LC Tryd.prog 69 2 [.ptr 0 0] [(0, .box 81 [.ptr 0 0, .ref 1]), (1, .rs 5 1 ys)] (.tup []) [(0, .box 81 [.ptr 0 0, .ref 1]), (1, .rs 5 1 ys)] 0 := by
 refine LC.of_go Tryd.func69 (c := _) rfl (by kernel_rfl) (by rw [Tryd.ntmps69]; simp) rfl rfl (by simp [LO.lt, LV.lts, LV.lt, lts_sv]) (by simp) ?_
 intro B hA hmd
 refine .seq ?_
 refine .region rfl ?_
 refine R.move (h := ?_)
 refine R.nilCheck (h := ?_)
 first | refine R.field F81_0 (h := ?_) | refine R.fieldAt F81_0 (h := ?_)
 first | refine R.loadB O78 (h := ?_) | refine R.load1 O78 (h := ?_)
 refine R.eqPtrNil (hT := ptr_eqNil uptr _) (h := ?_)
 refine .n0 ?_
 refine LGo.ifb (ht := fun hc => by simp at hc) (hf := fun hc => ?_)
 refine .seq ?_
 refine .region rfl ?_
 refine R.move (h := ?_)
 refine R.nilCheck (h := ?_)
 first | refine R.field F81_0 (h := ?_) | refine R.fieldAt F81_0 (h := ?_)
 first | refine R.loadB O78 (h := ?_) | refine R.load1 O78 (h := ?_)
 refine R.move (h := ?_)
 refine R.nePtrSame (hT := ptr_neSame _ _) (h := ?_)
 refine .n0 ?_
 refine LGo.ifb (ht := fun hc2 => by simp at hc2) (hf := fun hc2 => ?_)
 refine .skip ?_
 exact LGo.done (ret_0 Tryd.results69 hA hmd)

theorem bytesC_ones (l : List UInt8) : ∀ e ∈ bytesC l, e.length = 1 := by intro e he; unfold bytesC at he; obtain ⟨c, _, rfl⟩ := List.mem_map.1 he; rfl

theorem ws0 (s : List UInt8) (hs : s.length ≤ 100000) : LC Tryd.prog 46 1 [.ptr 0 0, .t s] [(0, .bx 81 [.v (.pointer none), .v undef] 1 5 1 (bytesC []))] (.tup [.i s.length, .v .nilIface]) [(0, .bx 81 [.ptr 0 0, .v undef] 1 5 1 (bytesC s))] 0 := by
 refine LC.of_go Tryd.func46 (c := _) rfl (by kernel_rfl) (by rw [Tryd.ntmps46]; simp) rfl rfl (by simp [LO.lt, LV.lts, LV.lt, lts_sv]) (by simp) ?_
 intro B hA hmd
 refine LGo.unpack 0 (h := ?_)
 refine .seq ?_
 refine .region rfl ?_
 refine R.assign (h := ?_)
 refine R.assign (h := ?_)
 refine .n0 ?_
 refine .seq ?_
 refine .region rfl ?_
 refine R.move (h := ?_)
 refine R.callX (es := [_]) [0, 1] (cc0 (bytesC []) (bytesC_ones _)) (h := ?_)
 refine .n0 ?_
 refine .seq ?_
 refine .region rfl ?_
 refine R.move (h := ?_)
 refine R.move (h := ?_)
 refine R.nilCheck (h := ?_)
 first | refine R.field F81_1 (h := ?_) | refine R.fieldAt F81_1 (h := ?_)
 first | refine R.loadB O79 (h := ?_) | refine R.load1 O79 (h := ?_)
 refine R.move (h := ?_)
 refine R.appendS AP79 (hs := SrcOk.strT Tryd.underlying9) (hlen := by simp only [bytesC_length, List.length_nil]; omega) (h := ?_)
 refine R.nilCheck (h := ?_)
 first | refine R.field F81_1 (h := ?_) | refine R.fieldAt F81_1 (h := ?_)
 refine R.storeB O79 (h := ?_)
 refine .n0 ?_
 refine .seq ?_
 refine .region rfl ?_
 refine R.move (h := ?_)
 refine R.lenT Tryd.runUnderlying9 (h := ?_)
 refine R.assign (h := ?_)
 refine R.assign (h := ?_)
 refine .n0 ?_
 refine LGo.pack 0 1 (h := ?_)
 exact LGo.ret (ret_TT Tryd.results46 hA hmd)

theorem ws1 (l : List UInt8) (hl : l.length ≤ 100000) (s : List UInt8) (hs : s.length ≤ 100000) : LC Tryd.prog 46 1 [.ptr 0 0, .t s] [(0, .bx 81 [.ptr 0 0, .v undef] 1 5 1 (bytesC l))] (.tup [.i s.length, .v .nilIface]) [(0, .bx 81 [.ptr 0 0, .v undef] 1 5 1 (bytesC (l ++ s)))] 0 := by
 refine LC.of_go Tryd.func46 (c := _) rfl (by kernel_rfl) (by rw [Tryd.ntmps46]; simp) rfl rfl (by simp [LO.lt, LV.lts, LV.lt, lts_sv]) (by simp) ?_
 intro B hA hmd
 refine LGo.unpack 0 (h := ?_)
 refine .seq ?_
 refine .region rfl ?_
 refine R.assign (h := ?_)
 refine R.assign (h := ?_)
 refine .n0 ?_
 refine .seq ?_
 refine .region rfl ?_
 refine R.move (h := ?_)
 refine R.callX (es := [_]) [0, 1] (cc1 (bytesC l) (bytesC_ones _)) (h := ?_)
 refine .n0 ?_
 refine .seq ?_
 refine .region rfl ?_
 refine R.move (h := ?_)
 refine R.move (h := ?_)
 refine R.nilCheck (h := ?_)
 first | refine R.field F81_1 (h := ?_) | refine R.fieldAt F81_1 (h := ?_)
 first | refine R.loadB O79 (h := ?_) | refine R.load1 O79 (h := ?_)
 refine R.move (h := ?_)
 refine R.appendS AP79 (hs := SrcOk.strT Tryd.underlying9) (hlen := by simp only [bytesC_length, List.length_nil]; omega) (h := ?_)
 rw [← bytesC_app]
 refine R.nilCheck (h := ?_)
 first | refine R.field F81_1 (h := ?_) | refine R.fieldAt F81_1 (h := ?_)
 refine R.storeB O79 (h := ?_)
 refine .n0 ?_
 refine .seq ?_
 refine .region rfl ?_
 refine R.move (h := ?_)
 refine R.lenT Tryd.runUnderlying9 (h := ?_)
 refine R.assign (h := ?_)
 refine R.assign (h := ?_)
 refine .n0 ?_
 refine LGo.pack 0 1 (h := ?_)
 exact LGo.ret (ret_TT Tryd.results46 hA hmd)

theorem wb1 (l : List UInt8) (hl : l.length ≤ 100000) (c : UInt8) : LC Tryd.prog 67 1 [.ptr 0 0, .y c.toNat] [(0, .bx 81 [.ptr 0 0, .v undef] 1 5 1 (bytesC l))] (.v .nilIface) [(0, .bx 81 [.ptr 0 0, .v undef] 1 5 1 (bytesC (l ++ [c])))] 0 := by
 refine LC.of_go Tryd.func67 (c := _) rfl (by kernel_rfl) (by rw [Tryd.ntmps67]; simp) rfl rfl (by simp [LO.lt, LV.lts, LV.lt, lts_sv]) (by simp) ?_
 intro B hA hmd
 refine LGo.unpack 0 (h := ?_)
 refine .seq ?_
 refine .region rfl ?_
 refine R.assign (h := ?_)
 refine .n0 ?_
 refine .seq ?_
 refine .region rfl ?_
 refine R.move (h := ?_)
 refine R.callX (es := [_]) [0, 1] (cc1 (bytesC l) (bytesC_ones _)) (h := ?_)
 refine .n0 ?_
 refine .seq ?_
 refine .region rfl ?_
 refine R.move (h := ?_)
 refine R.move (h := ?_)
 refine R.nilCheck (h := ?_)
 first | refine R.field F81_1 (h := ?_) | refine R.fieldAt F81_1 (h := ?_)
 first | refine R.loadB O79 (h := ?_) | refine R.load1 O79 (h := ?_)
 refine R.move (h := ?_)
 refine R.buildSliceF AP79 (bytesC [c]) (xs := [_]) (es := [_]) (hcs := CellsOfs.cons (CellsOf.one rfl) CellsOfs.nil) (h := ?_)
 refine R.appendS AP79 (hs := SrcOk.sl Tryd.underlying79 (bytesC_one _)) (hlen := by simp only [bytesC_length, List.length_cons, List.length_nil]; omega) (h := ?_)
 rw [← bytesC_app]
 refine R.nilCheck (h := ?_)
 first | refine R.field F81_1 (h := ?_) | refine R.fieldAt F81_1 (h := ?_)
 refine R.storeB O79 (h := ?_)
 refine .n0 ?_
 refine .seq ?_
 refine .region rfl ?_
 refine R.assign (h := ?_)
 refine .n0 ?_
 refine LGo.pack 0 1 (h := ?_)
 exact LGo.ret (ret_T Tryd.results67 hA hmd)

theorem bl0 : LC Tryd.prog 66 1 [.ptr 0 0] [(0, .bx 81 [.v (.pointer none), .v undef] 1 5 1 (bytesC []))] (.i ([] : List UInt8).length) [(0, .bx 81 [.v (.pointer none), .v undef] 1 5 1 (bytesC []))] 0 := by
 refine LC.of_go Tryd.func66 (c := _) rfl (by kernel_rfl) (by rw [Tryd.ntmps66]; simp) rfl rfl (by simp [LO.lt, LV.lts, LV.lt, lts_sv]) (by simp) ?_
 intro B hA hmd
 refine LGo.unpack 0 (h := ?_)
 refine .seq ?_
 refine .region rfl ?_
 refine R.assign (h := ?_)
 refine .n0 ?_
 refine .seq ?_
 refine .region rfl ?_
 refine R.move (h := ?_)
 refine R.nilCheck (h := ?_)
 first | refine R.field F81_1 (h := ?_) | refine R.fieldAt F81_1 (h := ?_)
 first | refine R.loadB O79 (h := ?_) | refine R.load1 O79 (h := ?_)
 first | refine R.len S79 (h := ?_) | refine R.lenRs S79 (h := ?_) | refine R.lenV (run_lenNil S79) (h := ?_)
 rw [bytesC_length]
 refine R.assign (h := ?_)
 refine .n0 ?_
 refine LGo.pack 0 1 (h := ?_)
 exact LGo.ret (ret_T Tryd.results66 hA hmd)

theorem bl1 (l : List UInt8) : LC Tryd.prog 66 1 [.ptr 0 0] [(0, .bx 81 [.ptr 0 0, .v undef] 1 5 1 (bytesC l))] (.i l.length) [(0, .bx 81 [.ptr 0 0, .v undef] 1 5 1 (bytesC l))] 0 := by
 refine LC.of_go Tryd.func66 (c := _) rfl (by kernel_rfl) (by rw [Tryd.ntmps66]; simp) rfl rfl (by simp [LO.lt, LV.lts, LV.lt, lts_sv]) (by simp) ?_
 intro B hA hmd
 refine LGo.unpack 0 (h := ?_)
 refine .seq ?_
 refine .region rfl ?_
 refine R.assign (h := ?_)
 refine .n0 ?_
 refine .seq ?_
 refine .region rfl ?_
 refine R.move (h := ?_)
 refine R.nilCheck (h := ?_)
 first | refine R.field F81_1 (h := ?_) | refine R.fieldAt F81_1 (h := ?_)
 first | refine R.loadB O79 (h := ?_) | refine R.load1 O79 (h := ?_)
 first | refine R.len S79 (h := ?_) | refine R.lenRs S79 (h := ?_) | refine R.lenV (run_lenNil S79) (h := ?_)
 rw [bytesC_length]
 refine R.assign (h := ?_)
 refine .n0 ?_
 refine LGo.pack 0 1 (h := ?_)
 exact LGo.ret (ret_T Tryd.results66 hA hmd)

theorem bs1 (l : List UInt8) (h0 : l ≠ []) (hl : l.length ≤ 1000000) : LC Tryd.prog 49 1 [.ptr 0 0] [(0, .bx 81 [.ptr 0 0, .v undef] 1 5 1 (bytesC l))] (.t l) [] 0 := by
 refine LC.of_go Tryd.func49 (c := _) rfl (by kernel_rfl) (by rw [Tryd.ntmps49]; simp) rfl rfl (by simp [LO.lt, LV.lts, LV.lt, lts_sv]) (by simp) ?_
 intro B hA hmd
 have hne : bytesC l ≠ [] := by intro h; apply h0; have := congrArg List.length h; rw [bytesC_length] at this; exact List.eq_nil_of_length_eq_zero this
 refine LGo.unpack 0 (h := ?_)
 refine .seq ?_
 refine .region rfl ?_
 refine R.assign (h := ?_)
 refine .n0 ?_
 refine .seq ?_
 refine .region rfl ?_
 refine R.move (h := ?_)
 refine R.nilCheck (h := ?_)
 first | refine R.field F81_1 (h := ?_) | refine R.fieldAt F81_1 (h := ?_)
 first | refine R.loadB O79 (h := ?_) | refine R.load1 O79 (h := ?_)
 refine R.sliceData hne (h := ?_)
 refine R.move (h := ?_)
 refine R.nilCheck (h := ?_)
 first | refine R.field F81_1 (h := ?_) | refine R.fieldAt F81_1 (h := ?_)
 first | refine R.loadB O79 (h := ?_) | refine R.load1 O79 (h := ?_)
 first | refine R.len S79 (h := ?_) | refine R.lenRs S79 (h := ?_) | refine R.lenV (run_lenNil S79) (h := ?_)
 rw [bytesC_length]
 refine R.unsafeStr (Tryd.underlying109) (by kernel_rfl) h0 (by omega) (h := ?_)
 refine R.assign (h := ?_)
 refine Reg.nil ⟨fun _ => ⟨mixedO, by rfl, by rfl⟩, ?_⟩
 exact LGo.ret (ret_T Tryd.results49 hA hmd)

end Go.Proofs.YtgcjjndhohellaaDoor
