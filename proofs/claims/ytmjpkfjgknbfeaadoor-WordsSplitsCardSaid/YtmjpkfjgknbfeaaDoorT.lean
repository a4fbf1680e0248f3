/- What the types of this program say, a fact each (no condition). -/
import Derived.Test.YtmjpkfjgknbfeaaDoorKF
import Derived.Test.YtmjpkfjgknbfeaaDoorProg
set_option linter.unusedSimpArgs false
set_option linter.unusedVariables false
namespace Go.Proofs.YtmjpkfjgknbfeaaDoor
theorem mixedO : Tryd.prog.follows .mixedOrders = true := by kernel_rfl
theorem O3 : OneF Tryd.prog 3 := ⟨Tryd.isAgg3, Tryd.sizeOf3⟩
theorem O4 : OneF Tryd.prog 4 := ⟨Tryd.isAgg4, Tryd.sizeOf4⟩
theorem Z4 : ZeroF Tryd.prog 4 (Go.Value.bool false) := Tryd.zeroValue4
theorem O5 : OneF Tryd.prog 5 := ⟨Tryd.isAgg5, Tryd.sizeOf5⟩
theorem O9 : OneF Tryd.prog 9 := ⟨Tryd.isAgg9, Tryd.sizeOf9⟩
theorem O23 : OneF Tryd.prog 23 := ⟨Tryd.isAgg23, Tryd.sizeOf23⟩
theorem Z23 : ZeroF Tryd.prog 23 (Go.Value.slice none 0 0) := Tryd.zeroValue23
theorem I23 : IndexF Tryd.prog 23 2 := IndexF.of Tryd.runUnderlying23 Tryd.sizeOf43
theorem S23 : SliceT Tryd.prog 23 := ⟨_, Tryd.runUnderlying23⟩
theorem AP23 : AppF Tryd.prog 23 43 2 := ⟨Tryd.underlying23, by kernel_rfl⟩
theorem O24 : OneF Tryd.prog 24 := ⟨Tryd.isAgg24, Tryd.sizeOf24⟩
theorem Z24 : ZeroF Tryd.prog 24 (Go.Value.int Go.IntKind.i64 0) := Tryd.zeroValue24
theorem O38 : OneF Tryd.prog 38 := ⟨Tryd.isAgg38, Tryd.sizeOf38⟩
theorem S38 : SliceT Tryd.prog 38 := ⟨_, Tryd.runUnderlying38⟩
theorem AP38 : AppF Tryd.prog 38 5 1 := ⟨Tryd.underlying38, by kernel_rfl⟩
theorem I41 : IndexF Tryd.prog 41 1 := IndexF.of Tryd.runUnderlying41 Tryd.sizeOf3
theorem S41 : SliceT Tryd.prog 41 := ⟨_, Tryd.runUnderlying41⟩
theorem AP41 : AppF Tryd.prog 41 3 1 := ⟨Tryd.underlying41, by kernel_rfl⟩
theorem A43 : AggF Tryd.prog 43 2 := ⟨Tryd.isAgg43, Tryd.sizeOf43⟩
theorem Z43 : ZeroF Tryd.prog 43 (Go.Value.agg #[Go.Value.string (ByteArray.mk #[]), Go.Value.bool false]) := Tryd.zeroValue43
theorem F43_0 : FieldF Tryd.prog 43 0 0 := FieldF.of Tryd.runUnderlying43 rfl rfl Tryd.sizeOf9
theorem F43_1 : FieldF Tryd.prog 43 1 1 := FieldF.of Tryd.runUnderlying43 rfl rfl Tryd.sizeOf4
theorem BF43 : BuildF Tryd.prog 43 [Go.Value.string (ByteArray.mk #[]), Go.Value.bool false] := ⟨Tryd.zeroValue43, by simp [Value.oneCell'], _, Tryd.runUnderlying43, fun w => by
  simp [Sem.run_bind, Result.andThen, Tryd.sizeOf4, Tryd.sizeOf9, List.range, List.range.loop]⟩
theorem QF43 (a0 b0 : List UInt8) (a1 b1 : Bool) : ∀ w, (Op.eqFields 9999 #[.string ⟨a0.toArray⟩, .bool a1] #[.string ⟨b0.toArray⟩, .bool b1] (#[⟨ "S", 9, 0, false, "", "", 0⟩, ⟨ "Quoted", 4, 1, false, "", "", 16⟩] : Array Field).toList).run Tryd.prog w = .ok (decide (a0 = b0) && decide (a1 = b1)) w := by
  intro w
  simp [Op.eqFields, part, byt_beq, run_equalIn_string (P := Tryd.prog) _ 9998 9 _ _ Tryd.underlying9, run_equalIn_bool' (P := Tryd.prog) _ 9998 4 _ _ Tryd.underlying4, Tryd.isAgg4, Tryd.isAgg9]
  by_cases h0 : a0 = b0 <;> by_cases h1 : a1 = b1 <;> simp [*]
theorem NE43 (x y : Operand) (a0 b0 : List UInt8) (a1 b1 : Bool) : ∀ w, (do eqGuard .neq 43 x y (.agg #[.string ⟨a0.toArray⟩, .bool a1]) (.agg #[.string ⟨b0.toArray⟩, .bool b1]); binOp .neq 43 (.agg #[.string ⟨a0.toArray⟩, .bool a1]) (.agg #[.string ⟨b0.toArray⟩, .bool b1]) : Sem Value).run Tryd.prog w = .ok (.bool (!(decide (a0 = b0) && decide (a1 = b1)))) w := run_neS Tryd.underlying43 Tryd.stoodInHeld43 Tryd.eqGuardType43 (QF43 a0 b0 a1 b1) x y
theorem AP59 : AppF Tryd.prog 59 9 1 := ⟨Tryd.underlying59, by kernel_rfl⟩
theorem O63 : OneF Tryd.prog 63 := ⟨Tryd.isAgg63, Tryd.sizeOf63⟩
theorem Z65 : ZeroF Tryd.prog 65 (Go.Value.agg #[Go.Value.pointer none, Go.Value.slice none 0 0]) := Tryd.zeroValue65
theorem F65_0 : FieldF Tryd.prog 65 0 0 := FieldF.of Tryd.runUnderlying65 rfl rfl Tryd.sizeOf63
theorem F65_1 : FieldF Tryd.prog 65 1 1 := FieldF.of Tryd.runUnderlying65 rfl rfl Tryd.sizeOf38
theorem A85 : AggF Tryd.prog 85 2 := ⟨Tryd.isAgg85, Tryd.sizeOf85⟩
theorem Z85 : ZeroF Tryd.prog 85 (Go.Value.agg #[Go.Value.int Go.IntKind.u8 0, Go.Value.int Go.IntKind.u8 0]) := Tryd.zeroValue85
theorem F85_0 : FieldF Tryd.prog 85 0 0 := FieldF.of Tryd.runUnderlying85 rfl rfl Tryd.sizeOf5
theorem F85_1 : FieldF Tryd.prog 85 1 1 := FieldF.of Tryd.runUnderlying85 rfl rfl Tryd.sizeOf5
theorem A86 : AggF Tryd.prog 86 10 := ⟨Tryd.isAgg86, Tryd.sizeOf86⟩
theorem IV86 : IndexVF Tryd.prog 86 5 2 := ⟨85, Tryd.runUnderlying86, Tryd.isAgg85, Tryd.sizeOf85⟩
end Go.Proofs.YtmjpkfjgknbfeaaDoor

