/- What the types of this program say, a fact each (no condition). -/
import Derived.Test.YtmjpkfjgknbfeaaGreatDoorKF
import Derived.Test.YtmjpkfjgknbfeaaGreatDoorProg
set_option linter.unusedSimpArgs false
set_option linter.unusedVariables false
namespace Go.Proofs.YtmjpkfjgknbfeaaGreatDoor
theorem mixedO : Tryz.prog.follows .mixedOrders = true := by kernel_rfl
theorem O2 : OneF Tryz.prog 2 := ⟨Tryz.isAgg2, Tryz.sizeOf2⟩
theorem O3 : OneF Tryz.prog 3 := ⟨Tryz.isAgg3, Tryz.sizeOf3⟩
theorem O4 : OneF Tryz.prog 4 := ⟨Tryz.isAgg4, Tryz.sizeOf4⟩
theorem Z4 : ZeroF Tryz.prog 4 (Go.Value.bool false) := Tryz.zeroValue4
theorem O5 : OneF Tryz.prog 5 := ⟨Tryz.isAgg5, Tryz.sizeOf5⟩
theorem O9 : OneF Tryz.prog 9 := ⟨Tryz.isAgg9, Tryz.sizeOf9⟩
theorem O22 : OneF Tryz.prog 22 := ⟨Tryz.isAgg22, Tryz.sizeOf22⟩
theorem I22 : IndexF Tryz.prog 22 1 := IndexF.of Tryz.runUnderlying22 Tryz.sizeOf3
theorem S22 : SliceT Tryz.prog 22 := ⟨_, Tryz.runUnderlying22⟩
theorem AP22 : AppF Tryz.prog 22 3 1 := ⟨Tryz.underlying22, by kernel_rfl⟩
theorem O24 : OneF Tryz.prog 24 := ⟨Tryz.isAgg24, Tryz.sizeOf24⟩
theorem Z24 : ZeroF Tryz.prog 24 (Go.Value.int Go.IntKind.i64 0) := Tryz.zeroValue24
theorem O34 : OneF Tryz.prog 34 := ⟨Tryz.isAgg34, Tryz.sizeOf34⟩
theorem Z34 : ZeroF Tryz.prog 34 (Go.Value.slice none 0 0) := Tryz.zeroValue34
theorem I34 : IndexF Tryz.prog 34 2 := IndexF.of Tryz.runUnderlying34 Tryz.sizeOf47
theorem S34 : SliceT Tryz.prog 34 := ⟨_, Tryz.runUnderlying34⟩
theorem AP34 : AppF Tryz.prog 34 47 2 := ⟨Tryz.underlying34, by kernel_rfl⟩
theorem F39_0 : FieldF Tryz.prog 39 0 0 := FieldF.of Tryz.runUnderlying39 rfl rfl Tryz.sizeOf22
theorem F39_1 : FieldF Tryz.prog 39 1 1 := FieldF.of Tryz.runUnderlying39 rfl rfl Tryz.sizeOf2
theorem A47 : AggF Tryz.prog 47 2 := ⟨Tryz.isAgg47, Tryz.sizeOf47⟩
theorem Z47 : ZeroF Tryz.prog 47 (Go.Value.agg #[Go.Value.string (ByteArray.mk #[]), Go.Value.bool false]) := Tryz.zeroValue47
theorem F47_0 : FieldF Tryz.prog 47 0 0 := FieldF.of Tryz.runUnderlying47 rfl rfl Tryz.sizeOf9
theorem F47_1 : FieldF Tryz.prog 47 1 1 := FieldF.of Tryz.runUnderlying47 rfl rfl Tryz.sizeOf4
theorem BF47 : BuildF Tryz.prog 47 [Go.Value.string (ByteArray.mk #[]), Go.Value.bool false] := ⟨Tryz.zeroValue47, by simp [Value.oneCell'], _, Tryz.runUnderlying47, fun w => by
  simp [Sem.run_bind, Result.andThen, Tryz.sizeOf4, Tryz.sizeOf9, List.range, List.range.loop]⟩
theorem QF47 (a0 b0 : List UInt8) (a1 b1 : Bool) : ∀ w, (Op.eqFields 9999 #[.string ⟨a0.toArray⟩, .bool a1] #[.string ⟨b0.toArray⟩, .bool b1] (#[⟨ "S", 9, 0, false, "", "", 0⟩, ⟨ "Quoted", 4, 1, false, "", "", 16⟩] : Array Field).toList).run Tryz.prog w = .ok (decide (a0 = b0) && decide (a1 = b1)) w := by
  intro w
  simp [Op.eqFields, part, byt_beq, run_equalIn_string (P := Tryz.prog) _ 9998 9 _ _ Tryz.underlying9, run_equalIn_bool' (P := Tryz.prog) _ 9998 4 _ _ Tryz.underlying4, Tryz.isAgg4, Tryz.isAgg9]
  by_cases h0 : a0 = b0 <;> by_cases h1 : a1 = b1 <;> simp [*]
theorem NE47 (x y : Operand) (a0 b0 : List UInt8) (a1 b1 : Bool) : ∀ w, (do eqGuard .neq 47 x y (.agg #[.string ⟨a0.toArray⟩, .bool a1]) (.agg #[.string ⟨b0.toArray⟩, .bool b1]); binOp .neq 47 (.agg #[.string ⟨a0.toArray⟩, .bool a1]) (.agg #[.string ⟨b0.toArray⟩, .bool b1]) : Sem Value).run Tryz.prog w = .ok (.bool (!(decide (a0 = b0) && decide (a1 = b1)))) w := run_neS Tryz.underlying47 Tryz.stoodInHeld47 Tryz.eqGuardType47 (QF47 a0 b0 a1 b1) x y
theorem O48 : OneF Tryz.prog 48 := ⟨Tryz.isAgg48, Tryz.sizeOf48⟩
theorem O49 : OneF Tryz.prog 49 := ⟨Tryz.isAgg49, Tryz.sizeOf49⟩
theorem S49 : SliceT Tryz.prog 49 := ⟨_, Tryz.runUnderlying49⟩
theorem AP49 : AppF Tryz.prog 49 5 1 := ⟨Tryz.underlying49, by kernel_rfl⟩
theorem Z51 : ZeroF Tryz.prog 51 (Go.Value.agg #[Go.Value.pointer none, Go.Value.slice none 0 0]) := Tryz.zeroValue51
theorem F51_0 : FieldF Tryz.prog 51 0 0 := FieldF.of Tryz.runUnderlying51 rfl rfl Tryz.sizeOf48
theorem F51_1 : FieldF Tryz.prog 51 1 1 := FieldF.of Tryz.runUnderlying51 rfl rfl Tryz.sizeOf49
theorem I60 : IndexF Tryz.prog 60 2 := IndexF.of Tryz.runUnderlying60 Tryz.sizeOf67
theorem S60 : SliceT Tryz.prog 60 := ⟨_, Tryz.runUnderlying60⟩
theorem AP60 : AppF Tryz.prog 60 67 2 := ⟨Tryz.underlying60, by kernel_rfl⟩
theorem I61 : IndexF Tryz.prog 61 1 := IndexF.of Tryz.runUnderlying61 Tryz.sizeOf9
theorem S61 : SliceT Tryz.prog 61 := ⟨_, Tryz.runUnderlying61⟩
theorem AP61 : AppF Tryz.prog 61 9 1 := ⟨Tryz.underlying61, by kernel_rfl⟩
theorem A67 : AggF Tryz.prog 67 2 := ⟨Tryz.isAgg67, Tryz.sizeOf67⟩
theorem Z67 : ZeroF Tryz.prog 67 (Go.Value.agg #[Go.Value.string (ByteArray.mk #[]), Go.Value.string (ByteArray.mk #[])]) := Tryz.zeroValue67
theorem I67 : IndexAF Tryz.prog 67 2 1 := IndexAF.of Tryz.runUnderlying67 Tryz.sizeOf9
theorem BX67 : BuildX Tryz.prog 67 (List.replicate 2 (Go.Value.string (ByteArray.mk #[]))) := ⟨Tryz.zeroValue67, 2, 9, Tryz.runUnderlying67, Tryz.sizeOf9⟩
theorem A99 : AggF Tryz.prog 99 2 := ⟨Tryz.isAgg99, Tryz.sizeOf99⟩
theorem Z99 : ZeroF Tryz.prog 99 (Go.Value.agg #[Go.Value.int Go.IntKind.u8 0, Go.Value.int Go.IntKind.u8 0]) := Tryz.zeroValue99
theorem F99_0 : FieldF Tryz.prog 99 0 0 := FieldF.of Tryz.runUnderlying99 rfl rfl Tryz.sizeOf5
theorem F99_1 : FieldF Tryz.prog 99 1 1 := FieldF.of Tryz.runUnderlying99 rfl rfl Tryz.sizeOf5
theorem A100 : AggF Tryz.prog 100 10 := ⟨Tryz.isAgg100, Tryz.sizeOf100⟩
theorem IV100 : IndexVF Tryz.prog 100 5 2 := ⟨99, Tryz.runUnderlying100, Tryz.isAgg99, Tryz.sizeOf99⟩
end Go.Proofs.YtmjpkfjgknbfeaaGreatDoor

