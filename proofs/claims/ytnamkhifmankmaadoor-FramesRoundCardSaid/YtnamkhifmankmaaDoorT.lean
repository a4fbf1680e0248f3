/- What the types of this program say, a fact each (no condition). -/
import Derived.Test.YtnamkhifmankmaaDoorKF
import Derived.Test.YtnamkhifmankmaaDoorProg
set_option linter.unusedSimpArgs false
set_option linter.unusedVariables false
namespace Go.Proofs.YtnamkhifmankmaaDoor
theorem mixedO : Tryd.prog.follows .mixedOrders = true := by kernel_rfl
theorem O0 : OneF Tryd.prog 0 := ⟨Tryd.isAgg0, Tryd.sizeOf0⟩
theorem Z0 : ZeroF Tryd.prog 0 (Go.Value.tuple #[]) := Tryd.zeroValue0
theorem O1 : OneF Tryd.prog 1 := ⟨Tryd.isAgg1, Tryd.sizeOf1⟩
theorem Z1 : ZeroF Tryd.prog 1 (Go.Value.nilFunc) := Tryd.zeroValue1
theorem O2 : OneF Tryd.prog 2 := ⟨Tryd.isAgg2, Tryd.sizeOf2⟩
theorem Z2 : ZeroF Tryd.prog 2 (Go.Value.int Go.IntKind.i64 0) := Tryd.zeroValue2
theorem O3 : OneF Tryd.prog 3 := ⟨Tryd.isAgg3, Tryd.sizeOf3⟩
theorem Z3 : ZeroF Tryd.prog 3 (Go.Value.int Go.IntKind.i64 0) := Tryd.zeroValue3
theorem O4 : OneF Tryd.prog 4 := ⟨Tryd.isAgg4, Tryd.sizeOf4⟩
theorem Z4 : ZeroF Tryd.prog 4 (Go.Value.bool false) := Tryd.zeroValue4
theorem O5 : OneF Tryd.prog 5 := ⟨Tryd.isAgg5, Tryd.sizeOf5⟩
theorem Z5 : ZeroF Tryd.prog 5 (Go.Value.int Go.IntKind.u8 0) := Tryd.zeroValue5
theorem O6 : OneF Tryd.prog 6 := ⟨Tryd.isAgg6, Tryd.sizeOf6⟩
theorem Z6 : ZeroF Tryd.prog 6 (Go.Value.int Go.IntKind.u8 0) := Tryd.zeroValue6
theorem A7 : AggF Tryd.prog 7 4 := ⟨Tryd.isAgg7, Tryd.sizeOf7⟩
theorem Z7 : ZeroF Tryd.prog 7 (Go.Value.agg #[Go.Value.int Go.IntKind.i64 0, Go.Value.int Go.IntKind.i64 0, Go.Value.bool false, Go.Value.int Go.IntKind.u8 0]) := Tryd.zeroValue7
theorem F7_0 : FieldF Tryd.prog 7 0 0 := FieldF.of Tryd.runUnderlying7 rfl rfl Tryd.sizeOf2
theorem V7_0 : ∀ (vs : Array Value) (v : Value) (w : World), vs[0]? = some v → (Instr.field 7 (.agg vs) 0).run Tryd.prog w = .ok v w := fun vs v w h => by simp [Instr.field, Tryd.runUnderlying7, part, Tryd.isAgg2, asAgg, h]
theorem F7_1 : FieldF Tryd.prog 7 1 1 := FieldF.of Tryd.runUnderlying7 rfl rfl Tryd.sizeOf3
theorem V7_1 : ∀ (vs : Array Value) (v : Value) (w : World), vs[1]? = some v → (Instr.field 7 (.agg vs) 1).run Tryd.prog w = .ok v w := fun vs v w h => by simp [Instr.field, Tryd.runUnderlying7, part, Tryd.isAgg3, asAgg, h]
theorem F7_2 : FieldF Tryd.prog 7 2 2 := FieldF.of Tryd.runUnderlying7 rfl rfl Tryd.sizeOf4
theorem V7_2 : ∀ (vs : Array Value) (v : Value) (w : World), vs[2]? = some v → (Instr.field 7 (.agg vs) 2).run Tryd.prog w = .ok v w := fun vs v w h => by simp [Instr.field, Tryd.runUnderlying7, part, Tryd.isAgg4, asAgg, h]
theorem F7_3 : FieldF Tryd.prog 7 3 3 := FieldF.of Tryd.runUnderlying7 rfl rfl Tryd.sizeOf6
theorem V7_3 : ∀ (vs : Array Value) (v : Value) (w : World), vs[3]? = some v → (Instr.field 7 (.agg vs) 3).run Tryd.prog w = .ok v w := fun vs v w h => by simp [Instr.field, Tryd.runUnderlying7, part, Tryd.isAgg6, asAgg, h]
theorem BF7 : BuildF Tryd.prog 7 [Go.Value.int Go.IntKind.i64 0, Go.Value.int Go.IntKind.i64 0, Go.Value.bool false, Go.Value.int Go.IntKind.u8 0] := ⟨Tryd.zeroValue7, by simp [Value.oneCell'], _, Tryd.runUnderlying7, fun w => by
  simp [Sem.run_bind, Result.andThen, Tryd.sizeOf2, Tryd.sizeOf3, Tryd.sizeOf4, Tryd.sizeOf6, List.range, List.range.loop]⟩
theorem A8 : AggF Tryd.prog 8 4 := ⟨Tryd.isAgg8, Tryd.sizeOf8⟩
theorem Z8 : ZeroF Tryd.prog 8 (Go.Value.agg #[Go.Value.int Go.IntKind.i64 0, Go.Value.int Go.IntKind.i64 0, Go.Value.bool false, Go.Value.int Go.IntKind.u8 0]) := Tryd.zeroValue8
theorem F8_0 : FieldF Tryd.prog 8 0 0 := FieldF.of Tryd.runUnderlying8 rfl rfl Tryd.sizeOf2
theorem V8_0 : ∀ (vs : Array Value) (v : Value) (w : World), vs[0]? = some v → (Instr.field 8 (.agg vs) 0).run Tryd.prog w = .ok v w := fun vs v w h => by simp [Instr.field, Tryd.runUnderlying8, part, Tryd.isAgg2, asAgg, h]
theorem F8_1 : FieldF Tryd.prog 8 1 1 := FieldF.of Tryd.runUnderlying8 rfl rfl Tryd.sizeOf3
theorem V8_1 : ∀ (vs : Array Value) (v : Value) (w : World), vs[1]? = some v → (Instr.field 8 (.agg vs) 1).run Tryd.prog w = .ok v w := fun vs v w h => by simp [Instr.field, Tryd.runUnderlying8, part, Tryd.isAgg3, asAgg, h]
theorem F8_2 : FieldF Tryd.prog 8 2 2 := FieldF.of Tryd.runUnderlying8 rfl rfl Tryd.sizeOf4
theorem V8_2 : ∀ (vs : Array Value) (v : Value) (w : World), vs[2]? = some v → (Instr.field 8 (.agg vs) 2).run Tryd.prog w = .ok v w := fun vs v w h => by simp [Instr.field, Tryd.runUnderlying8, part, Tryd.isAgg4, asAgg, h]
theorem F8_3 : FieldF Tryd.prog 8 3 3 := FieldF.of Tryd.runUnderlying8 rfl rfl Tryd.sizeOf6
theorem V8_3 : ∀ (vs : Array Value) (v : Value) (w : World), vs[3]? = some v → (Instr.field 8 (.agg vs) 3).run Tryd.prog w = .ok v w := fun vs v w h => by simp [Instr.field, Tryd.runUnderlying8, part, Tryd.isAgg6, asAgg, h]
theorem BF8 : BuildF Tryd.prog 8 [Go.Value.int Go.IntKind.i64 0, Go.Value.int Go.IntKind.i64 0, Go.Value.bool false, Go.Value.int Go.IntKind.u8 0] := ⟨Tryd.zeroValue8, by simp [Value.oneCell'], _, Tryd.runUnderlying8, fun w => by
  simp [Sem.run_bind, Result.andThen, Tryd.sizeOf2, Tryd.sizeOf3, Tryd.sizeOf4, Tryd.sizeOf6, List.range, List.range.loop]⟩
theorem O9 : OneF Tryd.prog 9 := ⟨Tryd.isAgg9, Tryd.sizeOf9⟩
theorem Z9 : ZeroF Tryd.prog 9 (Go.Value.string (ByteArray.mk #[])) := Tryd.zeroValue9
theorem O10 : OneF Tryd.prog 10 := ⟨Tryd.isAgg10, Tryd.sizeOf10⟩
theorem Z10 : ZeroF Tryd.prog 10 (Go.Value.string (ByteArray.mk #[])) := Tryd.zeroValue10
theorem O11 : OneF Tryd.prog 11 := ⟨Tryd.isAgg11, Tryd.sizeOf11⟩
theorem Z11 : ZeroF Tryd.prog 11 (Go.Value.string (ByteArray.mk #[])) := Tryd.zeroValue11
theorem O12 : OneF Tryd.prog 12 := ⟨Tryd.isAgg12, Tryd.sizeOf12⟩
theorem Z12 : ZeroF Tryd.prog 12 (Go.Value.int Go.IntKind.u64 0) := Tryd.zeroValue12
theorem A13 : AggF Tryd.prog 13 2 := ⟨Tryd.isAgg13, Tryd.sizeOf13⟩
theorem Z13 : ZeroF Tryd.prog 13 (Go.Value.agg #[Go.Value.string (ByteArray.mk #[]), Go.Value.int Go.IntKind.u64 0]) := Tryd.zeroValue13
theorem F13_0 : FieldF Tryd.prog 13 0 0 := FieldF.of Tryd.runUnderlying13 rfl rfl Tryd.sizeOf9
theorem V13_0 : ∀ (vs : Array Value) (v : Value) (w : World), vs[0]? = some v → (Instr.field 13 (.agg vs) 0).run Tryd.prog w = .ok v w := fun vs v w h => by simp [Instr.field, Tryd.runUnderlying13, part, Tryd.isAgg9, asAgg, h]
theorem F13_1 : FieldF Tryd.prog 13 1 1 := FieldF.of Tryd.runUnderlying13 rfl rfl Tryd.sizeOf12
theorem V13_1 : ∀ (vs : Array Value) (v : Value) (w : World), vs[1]? = some v → (Instr.field 13 (.agg vs) 1).run Tryd.prog w = .ok v w := fun vs v w h => by simp [Instr.field, Tryd.runUnderlying13, part, Tryd.isAgg12, asAgg, h]
theorem BF13 : BuildF Tryd.prog 13 [Go.Value.string (ByteArray.mk #[]), Go.Value.int Go.IntKind.u64 0] := ⟨Tryd.zeroValue13, by simp [Value.oneCell'], _, Tryd.runUnderlying13, fun w => by
  simp [Sem.run_bind, Result.andThen, Tryd.sizeOf9, Tryd.sizeOf12, List.range, List.range.loop]⟩
theorem A14 : AggF Tryd.prog 14 2 := ⟨Tryd.isAgg14, Tryd.sizeOf14⟩
theorem Z14 : ZeroF Tryd.prog 14 (Go.Value.agg #[Go.Value.string (ByteArray.mk #[]), Go.Value.int Go.IntKind.u64 0]) := Tryd.zeroValue14
theorem F14_0 : FieldF Tryd.prog 14 0 0 := FieldF.of Tryd.runUnderlying14 rfl rfl Tryd.sizeOf9
theorem V14_0 : ∀ (vs : Array Value) (v : Value) (w : World), vs[0]? = some v → (Instr.field 14 (.agg vs) 0).run Tryd.prog w = .ok v w := fun vs v w h => by simp [Instr.field, Tryd.runUnderlying14, part, Tryd.isAgg9, asAgg, h]
theorem F14_1 : FieldF Tryd.prog 14 1 1 := FieldF.of Tryd.runUnderlying14 rfl rfl Tryd.sizeOf12
theorem V14_1 : ∀ (vs : Array Value) (v : Value) (w : World), vs[1]? = some v → (Instr.field 14 (.agg vs) 1).run Tryd.prog w = .ok v w := fun vs v w h => by simp [Instr.field, Tryd.runUnderlying14, part, Tryd.isAgg12, asAgg, h]
theorem BF14 : BuildF Tryd.prog 14 [Go.Value.string (ByteArray.mk #[]), Go.Value.int Go.IntKind.u64 0] := ⟨Tryd.zeroValue14, by simp [Value.oneCell'], _, Tryd.runUnderlying14, fun w => by
  simp [Sem.run_bind, Result.andThen, Tryd.sizeOf9, Tryd.sizeOf12, List.range, List.range.loop]⟩
theorem O15 : OneF Tryd.prog 15 := ⟨Tryd.isAgg15, Tryd.sizeOf15⟩
theorem Z15 : ZeroF Tryd.prog 15 (Go.Value.pointer none) := Tryd.zeroValue15
theorem O16 : OneF Tryd.prog 16 := ⟨Tryd.isAgg16, Tryd.sizeOf16⟩
theorem Z16 : ZeroF Tryd.prog 16 (Go.Value.pointer none) := Tryd.zeroValue16
theorem O17 : OneF Tryd.prog 17 := ⟨Tryd.isAgg17, Tryd.sizeOf17⟩
theorem Z17 : ZeroF Tryd.prog 17 (Go.Value.pointer none) := Tryd.zeroValue17
theorem A18 : AggF Tryd.prog 18 1 := ⟨Tryd.isAgg18, Tryd.sizeOf18⟩
theorem Z18 : ZeroF Tryd.prog 18 (Go.Value.agg #[Go.Value.pointer none]) := Tryd.zeroValue18
theorem F18_0 : FieldF Tryd.prog 18 0 0 := FieldF.of Tryd.runUnderlying18 rfl rfl Tryd.sizeOf17
theorem V18_0 : ∀ (vs : Array Value) (v : Value) (w : World), vs[0]? = some v → (Instr.field 18 (.agg vs) 0).run Tryd.prog w = .ok v w := fun vs v w h => by simp [Instr.field, Tryd.runUnderlying18, part, Tryd.isAgg17, asAgg, h]
theorem BF18 : BuildF Tryd.prog 18 [Go.Value.pointer none] := ⟨Tryd.zeroValue18, by simp [Value.oneCell'], _, Tryd.runUnderlying18, fun w => by
  simp [Sem.run_bind, Result.andThen, Tryd.sizeOf17, List.range, List.range.loop]⟩
theorem A19 : AggF Tryd.prog 19 1 := ⟨Tryd.isAgg19, Tryd.sizeOf19⟩
theorem Z19 : ZeroF Tryd.prog 19 (Go.Value.agg #[Go.Value.pointer none]) := Tryd.zeroValue19
theorem F19_0 : FieldF Tryd.prog 19 0 0 := FieldF.of Tryd.runUnderlying19 rfl rfl Tryd.sizeOf17
theorem V19_0 : ∀ (vs : Array Value) (v : Value) (w : World), vs[0]? = some v → (Instr.field 19 (.agg vs) 0).run Tryd.prog w = .ok v w := fun vs v w h => by simp [Instr.field, Tryd.runUnderlying19, part, Tryd.isAgg17, asAgg, h]
theorem BF19 : BuildF Tryd.prog 19 [Go.Value.pointer none] := ⟨Tryd.zeroValue19, by simp [Value.oneCell'], _, Tryd.runUnderlying19, fun w => by
  simp [Sem.run_bind, Result.andThen, Tryd.sizeOf17, List.range, List.range.loop]⟩
theorem O20 : OneF Tryd.prog 20 := ⟨Tryd.isAgg20, Tryd.sizeOf20⟩
theorem Z20 : ZeroF Tryd.prog 20 (Go.Value.nilIface) := Tryd.zeroValue20
theorem O21 : OneF Tryd.prog 21 := ⟨Tryd.isAgg21, Tryd.sizeOf21⟩
theorem Z21 : ZeroF Tryd.prog 21 (Go.Value.int Go.IntKind.i32 0) := Tryd.zeroValue21
theorem O22 : OneF Tryd.prog 22 := ⟨Tryd.isAgg22, Tryd.sizeOf22⟩
theorem Z22 : ZeroF Tryd.prog 22 (Go.Value.slice none 0 0) := Tryd.zeroValue22
theorem I22 : IndexF Tryd.prog 22 1 := IndexF.of Tryd.runUnderlying22 Tryd.sizeOf5
theorem S22 : SliceT Tryd.prog 22 := ⟨_, Tryd.runUnderlying22⟩
theorem AP22 : AppF Tryd.prog 22 5 1 := ⟨Tryd.underlying22, by kernel_rfl⟩
theorem SF22 : SliceF Tryd.prog 22 1 := ⟨_, Tryd.runUnderlying22, Tryd.sizeOf5⟩
theorem O23 : OneF Tryd.prog 23 := ⟨Tryd.isAgg23, Tryd.sizeOf23⟩
theorem Z23 : ZeroF Tryd.prog 23 (Go.Value.slice none 0 0) := Tryd.zeroValue23
theorem I23 : IndexF Tryd.prog 23 1 := IndexF.of Tryd.runUnderlying23 Tryd.sizeOf22
theorem S23 : SliceT Tryd.prog 23 := ⟨_, Tryd.runUnderlying23⟩
theorem AP23 : AppF Tryd.prog 23 22 1 := ⟨Tryd.underlying23, by kernel_rfl⟩
theorem SF23 : SliceF Tryd.prog 23 1 := ⟨_, Tryd.runUnderlying23, Tryd.sizeOf22⟩
theorem O24 : OneF Tryd.prog 24 := ⟨Tryd.isAgg24, Tryd.sizeOf24⟩
theorem Z24 : ZeroF Tryd.prog 24 (Go.Value.nilFunc) := Tryd.zeroValue24
theorem O25 : OneF Tryd.prog 25 := ⟨Tryd.isAgg25, Tryd.sizeOf25⟩
theorem Z25 : ZeroF Tryd.prog 25 (Go.Value.nilFunc) := Tryd.zeroValue25
theorem O26 : OneF Tryd.prog 26 := ⟨Tryd.isAgg26, Tryd.sizeOf26⟩
theorem Z26 : ZeroF Tryd.prog 26 (Go.Value.int Go.IntKind.i64 0) := Tryd.zeroValue26
theorem O27 : OneF Tryd.prog 27 := ⟨Tryd.isAgg27, Tryd.sizeOf27⟩
theorem Z27 : ZeroF Tryd.prog 27 (Go.Value.tuple #[Go.Value.slice none 0 0, Go.Value.int Go.IntKind.i64 0]) := Tryd.zeroValue27
theorem O28 : OneF Tryd.prog 28 := ⟨Tryd.isAgg28, Tryd.sizeOf28⟩
theorem Z28 : ZeroF Tryd.prog 28 (Go.Value.nilFunc) := Tryd.zeroValue28
theorem O29 : OneF Tryd.prog 29 := ⟨Tryd.isAgg29, Tryd.sizeOf29⟩
theorem Z29 : ZeroF Tryd.prog 29 (Go.Value.nilFunc) := Tryd.zeroValue29
theorem O30 : OneF Tryd.prog 30 := ⟨Tryd.isAgg30, Tryd.sizeOf30⟩
theorem Z30 : ZeroF Tryd.prog 30 (Go.Value.nilFunc) := Tryd.zeroValue30
theorem A31 : AggF Tryd.prog 31 2 := ⟨Tryd.isAgg31, Tryd.sizeOf31⟩
theorem Z31 : ZeroF Tryd.prog 31 (Go.Value.agg #[Go.Value.string (ByteArray.mk #[]), Go.Value.bool false]) := Tryd.zeroValue31
theorem F31_0 : FieldF Tryd.prog 31 0 0 := FieldF.of Tryd.runUnderlying31 rfl rfl Tryd.sizeOf9
theorem V31_0 : ∀ (vs : Array Value) (v : Value) (w : World), vs[0]? = some v → (Instr.field 31 (.agg vs) 0).run Tryd.prog w = .ok v w := fun vs v w h => by simp [Instr.field, Tryd.runUnderlying31, part, Tryd.isAgg9, asAgg, h]
theorem F31_1 : FieldF Tryd.prog 31 1 1 := FieldF.of Tryd.runUnderlying31 rfl rfl Tryd.sizeOf4
theorem V31_1 : ∀ (vs : Array Value) (v : Value) (w : World), vs[1]? = some v → (Instr.field 31 (.agg vs) 1).run Tryd.prog w = .ok v w := fun vs v w h => by simp [Instr.field, Tryd.runUnderlying31, part, Tryd.isAgg4, asAgg, h]
theorem BF31 : BuildF Tryd.prog 31 [Go.Value.string (ByteArray.mk #[]), Go.Value.bool false] := ⟨Tryd.zeroValue31, by simp [Value.oneCell'], _, Tryd.runUnderlying31, fun w => by
  simp [Sem.run_bind, Result.andThen, Tryd.sizeOf4, Tryd.sizeOf9, List.range, List.range.loop]⟩
theorem A32 : AggF Tryd.prog 32 2 := ⟨Tryd.isAgg32, Tryd.sizeOf32⟩
theorem Z32 : ZeroF Tryd.prog 32 (Go.Value.agg #[Go.Value.string (ByteArray.mk #[]), Go.Value.bool false]) := Tryd.zeroValue32
theorem F32_0 : FieldF Tryd.prog 32 0 0 := FieldF.of Tryd.runUnderlying32 rfl rfl Tryd.sizeOf9
theorem V32_0 : ∀ (vs : Array Value) (v : Value) (w : World), vs[0]? = some v → (Instr.field 32 (.agg vs) 0).run Tryd.prog w = .ok v w := fun vs v w h => by simp [Instr.field, Tryd.runUnderlying32, part, Tryd.isAgg9, asAgg, h]
theorem F32_1 : FieldF Tryd.prog 32 1 1 := FieldF.of Tryd.runUnderlying32 rfl rfl Tryd.sizeOf4
theorem V32_1 : ∀ (vs : Array Value) (v : Value) (w : World), vs[1]? = some v → (Instr.field 32 (.agg vs) 1).run Tryd.prog w = .ok v w := fun vs v w h => by simp [Instr.field, Tryd.runUnderlying32, part, Tryd.isAgg4, asAgg, h]
theorem BF32 : BuildF Tryd.prog 32 [Go.Value.string (ByteArray.mk #[]), Go.Value.bool false] := ⟨Tryd.zeroValue32, by simp [Value.oneCell'], _, Tryd.runUnderlying32, fun w => by
  simp [Sem.run_bind, Result.andThen, Tryd.sizeOf4, Tryd.sizeOf9, List.range, List.range.loop]⟩
theorem QF32 (a0 b0 : List UInt8) (a1 b1 : Bool) : ∀ w, (Op.eqFields 9999 #[.string ⟨a0.toArray⟩, .bool a1] #[.string ⟨b0.toArray⟩, .bool b1] (#[⟨ "Buf", 9, 0, false, "", "", 0⟩, ⟨ "Bad", 4, 1, false, "", "", 16⟩] : Array Field).toList).run Tryd.prog w = .ok (decide (a0 = b0) && decide (a1 = b1)) w := by
  intro w
  simp [Op.eqFields, part, byt_beq, run_equalIn_string (P := Tryd.prog) _ 9998 9 _ _ Tryd.underlying9, run_equalIn_bool' (P := Tryd.prog) _ 9998 4 _ _ Tryd.underlying4, Tryd.isAgg4, Tryd.isAgg9]
  by_cases h0 : a0 = b0 <;> by_cases h1 : a1 = b1 <;> simp [*]
theorem EQ32 (x y : Operand) (a0 b0 : List UInt8) (a1 b1 : Bool) : ∀ w, (do eqGuard .eql 32 x y (.agg #[.string ⟨a0.toArray⟩, .bool a1]) (.agg #[.string ⟨b0.toArray⟩, .bool b1]); binOp .eql 32 (.agg #[.string ⟨a0.toArray⟩, .bool a1]) (.agg #[.string ⟨b0.toArray⟩, .bool b1]) : Sem Value).run Tryd.prog w = .ok (.bool (decide (a0 = b0) && decide (a1 = b1))) w := run_eqS Tryd.underlying32 Tryd.stoodInHeld32 Tryd.eqGuardType32 (QF32 a0 b0 a1 b1) x y
theorem NE32 (x y : Operand) (a0 b0 : List UInt8) (a1 b1 : Bool) : ∀ w, (do eqGuard .neq 32 x y (.agg #[.string ⟨a0.toArray⟩, .bool a1]) (.agg #[.string ⟨b0.toArray⟩, .bool b1]); binOp .neq 32 (.agg #[.string ⟨a0.toArray⟩, .bool a1]) (.agg #[.string ⟨b0.toArray⟩, .bool b1]) : Sem Value).run Tryd.prog w = .ok (.bool (!(decide (a0 = b0) && decide (a1 = b1)))) w := run_neS Tryd.underlying32 Tryd.stoodInHeld32 Tryd.eqGuardType32 (QF32 a0 b0 a1 b1) x y
theorem O33 : OneF Tryd.prog 33 := ⟨Tryd.isAgg33, Tryd.sizeOf33⟩
theorem Z33 : ZeroF Tryd.prog 33 (Go.Value.tuple #[Go.Value.slice none 0 0, Go.Value.agg #[Go.Value.string (ByteArray.mk #[]), Go.Value.bool false]]) := Tryd.zeroValue33
theorem O34 : OneF Tryd.prog 34 := ⟨Tryd.isAgg34, Tryd.sizeOf34⟩
theorem Z34 : ZeroF Tryd.prog 34 (Go.Value.nilFunc) := Tryd.zeroValue34
theorem O35 : OneF Tryd.prog 35 := ⟨Tryd.isAgg35, Tryd.sizeOf35⟩
theorem Z35 : ZeroF Tryd.prog 35 (Go.Value.nilFunc) := Tryd.zeroValue35
theorem O36 : OneF Tryd.prog 36 := ⟨Tryd.isAgg36, Tryd.sizeOf36⟩
theorem Z36 : ZeroF Tryd.prog 36 (Go.Value.nilFunc) := Tryd.zeroValue36
theorem O37 : OneF Tryd.prog 37 := ⟨Tryd.isAgg37, Tryd.sizeOf37⟩
theorem Z37 : ZeroF Tryd.prog 37 (Go.Value.tuple #[Go.Value.agg #[Go.Value.string (ByteArray.mk #[]), Go.Value.bool false], Go.Value.slice none 0 0, Go.Value.int Go.IntKind.i64 0]) := Tryd.zeroValue37
theorem O38 : OneF Tryd.prog 38 := ⟨Tryd.isAgg38, Tryd.sizeOf38⟩
theorem Z38 : ZeroF Tryd.prog 38 (Go.Value.nilFunc) := Tryd.zeroValue38
theorem O39 : OneF Tryd.prog 39 := ⟨Tryd.isAgg39, Tryd.sizeOf39⟩
theorem Z39 : ZeroF Tryd.prog 39 (Go.Value.tuple #[Go.Value.int Go.IntKind.i64 0, Go.Value.int Go.IntKind.i64 0]) := Tryd.zeroValue39
theorem O40 : OneF Tryd.prog 40 := ⟨Tryd.isAgg40, Tryd.sizeOf40⟩
theorem Z40 : ZeroF Tryd.prog 40 (Go.Value.nilFunc) := Tryd.zeroValue40
theorem A41 : AggF Tryd.prog 41 4 := ⟨Tryd.isAgg41, Tryd.sizeOf41⟩
theorem Z41 : ZeroF Tryd.prog 41 (Go.Value.agg #[Go.Value.int Go.IntKind.u8 0, Go.Value.int Go.IntKind.u8 0, Go.Value.int Go.IntKind.u8 0, Go.Value.int Go.IntKind.u8 0]) := Tryd.zeroValue41
theorem I41 : IndexAF Tryd.prog 41 4 1 := IndexAF.of Tryd.runUnderlying41 Tryd.sizeOf5
theorem BX41 : BuildX Tryd.prog 41 (List.replicate 4 (Go.Value.int Go.IntKind.u8 0)) := ⟨Tryd.zeroValue41, 4, 5, Tryd.runUnderlying41, Tryd.sizeOf5⟩
theorem AR41 : ArrF Tryd.prog 41 4 := ⟨5, Tryd.runUnderlying41, Tryd.sizeOf5⟩
theorem A42 : AggF Tryd.prog 42 4 := ⟨Tryd.isAgg42, Tryd.sizeOf42⟩
theorem Z42 : ZeroF Tryd.prog 42 (Go.Value.agg #[Go.Value.int Go.IntKind.u8 0, Go.Value.int Go.IntKind.u8 0, Go.Value.int Go.IntKind.u8 0, Go.Value.int Go.IntKind.u8 0]) := Tryd.zeroValue42
theorem I42 : IndexAF Tryd.prog 42 4 1 := IndexAF.of Tryd.runUnderlying42 Tryd.sizeOf5
theorem BX42 : BuildX Tryd.prog 42 (List.replicate 4 (Go.Value.int Go.IntKind.u8 0)) := ⟨Tryd.zeroValue42, 4, 5, Tryd.runUnderlying42, Tryd.sizeOf5⟩
theorem AR42 : ArrF Tryd.prog 42 4 := ⟨5, Tryd.runUnderlying42, Tryd.sizeOf5⟩
theorem O43 : OneF Tryd.prog 43 := ⟨Tryd.isAgg43, Tryd.sizeOf43⟩
theorem Z43 : ZeroF Tryd.prog 43 (Go.Value.nilFunc) := Tryd.zeroValue43
theorem O44 : OneF Tryd.prog 44 := ⟨Tryd.isAgg44, Tryd.sizeOf44⟩
theorem Z44 : ZeroF Tryd.prog 44 (Go.Value.nilFunc) := Tryd.zeroValue44
theorem O45 : OneF Tryd.prog 45 := ⟨Tryd.isAgg45, Tryd.sizeOf45⟩
theorem Z45 : ZeroF Tryd.prog 45 (Go.Value.int Go.IntKind.i8 0) := Tryd.zeroValue45
theorem O46 : OneF Tryd.prog 46 := ⟨Tryd.isAgg46, Tryd.sizeOf46⟩
theorem Z46 : ZeroF Tryd.prog 46 (Go.Value.int Go.IntKind.i8 0) := Tryd.zeroValue46
theorem A47 : AggF Tryd.prog 47 3 := ⟨Tryd.isAgg47, Tryd.sizeOf47⟩
theorem Z47 : ZeroF Tryd.prog 47 (Go.Value.agg #[Go.Value.slice none 0 0, Go.Value.int Go.IntKind.i64 0, Go.Value.int Go.IntKind.i8 0]) := Tryd.zeroValue47
theorem F47_0 : FieldF Tryd.prog 47 0 0 := FieldF.of Tryd.runUnderlying47 rfl rfl Tryd.sizeOf22
theorem V47_0 : ∀ (vs : Array Value) (v : Value) (w : World), vs[0]? = some v → (Instr.field 47 (.agg vs) 0).run Tryd.prog w = .ok v w := fun vs v w h => by simp [Instr.field, Tryd.runUnderlying47, part, Tryd.isAgg22, asAgg, h]
theorem F47_1 : FieldF Tryd.prog 47 1 1 := FieldF.of Tryd.runUnderlying47 rfl rfl Tryd.sizeOf3
theorem V47_1 : ∀ (vs : Array Value) (v : Value) (w : World), vs[1]? = some v → (Instr.field 47 (.agg vs) 1).run Tryd.prog w = .ok v w := fun vs v w h => by simp [Instr.field, Tryd.runUnderlying47, part, Tryd.isAgg3, asAgg, h]
theorem F47_2 : FieldF Tryd.prog 47 2 2 := FieldF.of Tryd.runUnderlying47 rfl rfl Tryd.sizeOf46
theorem V47_2 : ∀ (vs : Array Value) (v : Value) (w : World), vs[2]? = some v → (Instr.field 47 (.agg vs) 2).run Tryd.prog w = .ok v w := fun vs v w h => by simp [Instr.field, Tryd.runUnderlying47, part, Tryd.isAgg46, asAgg, h]
theorem BF47 : BuildF Tryd.prog 47 [Go.Value.slice none 0 0, Go.Value.int Go.IntKind.i64 0, Go.Value.int Go.IntKind.i8 0] := ⟨Tryd.zeroValue47, by simp [Value.oneCell'], _, Tryd.runUnderlying47, fun w => by
  simp [Sem.run_bind, Result.andThen, Tryd.sizeOf3, Tryd.sizeOf22, Tryd.sizeOf46, List.range, List.range.loop]⟩
theorem A48 : AggF Tryd.prog 48 3 := ⟨Tryd.isAgg48, Tryd.sizeOf48⟩
theorem Z48 : ZeroF Tryd.prog 48 (Go.Value.agg #[Go.Value.slice none 0 0, Go.Value.int Go.IntKind.i64 0, Go.Value.int Go.IntKind.i8 0]) := Tryd.zeroValue48
theorem F48_0 : FieldF Tryd.prog 48 0 0 := FieldF.of Tryd.runUnderlying48 rfl rfl Tryd.sizeOf22
theorem V48_0 : ∀ (vs : Array Value) (v : Value) (w : World), vs[0]? = some v → (Instr.field 48 (.agg vs) 0).run Tryd.prog w = .ok v w := fun vs v w h => by simp [Instr.field, Tryd.runUnderlying48, part, Tryd.isAgg22, asAgg, h]
theorem F48_1 : FieldF Tryd.prog 48 1 1 := FieldF.of Tryd.runUnderlying48 rfl rfl Tryd.sizeOf3
theorem V48_1 : ∀ (vs : Array Value) (v : Value) (w : World), vs[1]? = some v → (Instr.field 48 (.agg vs) 1).run Tryd.prog w = .ok v w := fun vs v w h => by simp [Instr.field, Tryd.runUnderlying48, part, Tryd.isAgg3, asAgg, h]
theorem F48_2 : FieldF Tryd.prog 48 2 2 := FieldF.of Tryd.runUnderlying48 rfl rfl Tryd.sizeOf46
theorem V48_2 : ∀ (vs : Array Value) (v : Value) (w : World), vs[2]? = some v → (Instr.field 48 (.agg vs) 2).run Tryd.prog w = .ok v w := fun vs v w h => by simp [Instr.field, Tryd.runUnderlying48, part, Tryd.isAgg46, asAgg, h]
theorem BF48 : BuildF Tryd.prog 48 [Go.Value.slice none 0 0, Go.Value.int Go.IntKind.i64 0, Go.Value.int Go.IntKind.i8 0] := ⟨Tryd.zeroValue48, by simp [Value.oneCell'], _, Tryd.runUnderlying48, fun w => by
  simp [Sem.run_bind, Result.andThen, Tryd.sizeOf3, Tryd.sizeOf22, Tryd.sizeOf46, List.range, List.range.loop]⟩
theorem O49 : OneF Tryd.prog 49 := ⟨Tryd.isAgg49, Tryd.sizeOf49⟩
theorem Z49 : ZeroF Tryd.prog 49 (Go.Value.nilIface) := Tryd.zeroValue49
theorem O50 : OneF Tryd.prog 50 := ⟨Tryd.isAgg50, Tryd.sizeOf50⟩
theorem Z50 : ZeroF Tryd.prog 50 (Go.Value.nilIface) := Tryd.zeroValue50
theorem O51 : OneF Tryd.prog 51 := ⟨Tryd.isAgg51, Tryd.sizeOf51⟩
theorem Z51 : ZeroF Tryd.prog 51 (Go.Value.tuple #[Go.Value.int Go.IntKind.i64 0, Go.Value.nilIface]) := Tryd.zeroValue51
theorem O52 : OneF Tryd.prog 52 := ⟨Tryd.isAgg52, Tryd.sizeOf52⟩
theorem Z52 : ZeroF Tryd.prog 52 (Go.Value.nilFunc) := Tryd.zeroValue52
theorem O53 : OneF Tryd.prog 53 := ⟨Tryd.isAgg53, Tryd.sizeOf53⟩
theorem Z53 : ZeroF Tryd.prog 53 (Go.Value.nilFunc) := Tryd.zeroValue53
theorem O54 : OneF Tryd.prog 54 := ⟨Tryd.isAgg54, Tryd.sizeOf54⟩
theorem Z54 : ZeroF Tryd.prog 54 (Go.Value.nilFunc) := Tryd.zeroValue54
theorem O55 : OneF Tryd.prog 55 := ⟨Tryd.isAgg55, Tryd.sizeOf55⟩
theorem Z55 : ZeroF Tryd.prog 55 (Go.Value.nilFunc) := Tryd.zeroValue55
theorem O56 : OneF Tryd.prog 56 := ⟨Tryd.isAgg56, Tryd.sizeOf56⟩
theorem Z56 : ZeroF Tryd.prog 56 (Go.Value.nilFunc) := Tryd.zeroValue56
theorem O57 : OneF Tryd.prog 57 := ⟨Tryd.isAgg57, Tryd.sizeOf57⟩
theorem Z57 : ZeroF Tryd.prog 57 (Go.Value.nilFunc) := Tryd.zeroValue57
theorem O58 : OneF Tryd.prog 58 := ⟨Tryd.isAgg58, Tryd.sizeOf58⟩
theorem Z58 : ZeroF Tryd.prog 58 (Go.Value.nilFunc) := Tryd.zeroValue58
theorem O59 : OneF Tryd.prog 59 := ⟨Tryd.isAgg59, Tryd.sizeOf59⟩
theorem Z59 : ZeroF Tryd.prog 59 (Go.Value.slice none 0 0) := Tryd.zeroValue59
theorem I59 : IndexF Tryd.prog 59 1 := IndexF.of Tryd.runUnderlying59 Tryd.sizeOf9
theorem S59 : SliceT Tryd.prog 59 := ⟨_, Tryd.runUnderlying59⟩
theorem AP59 : AppF Tryd.prog 59 9 1 := ⟨Tryd.underlying59, by kernel_rfl⟩
theorem SF59 : SliceF Tryd.prog 59 1 := ⟨_, Tryd.runUnderlying59, Tryd.sizeOf9⟩
theorem O60 : OneF Tryd.prog 60 := ⟨Tryd.isAgg60, Tryd.sizeOf60⟩
theorem Z60 : ZeroF Tryd.prog 60 (Go.Value.nilFunc) := Tryd.zeroValue60
theorem O61 : OneF Tryd.prog 61 := ⟨Tryd.isAgg61, Tryd.sizeOf61⟩
theorem Z61 : ZeroF Tryd.prog 61 (Go.Value.int Go.IntKind.u16 0) := Tryd.zeroValue61
theorem O62 : OneF Tryd.prog 62 := ⟨Tryd.isAgg62, Tryd.sizeOf62⟩
theorem Z62 : ZeroF Tryd.prog 62 (Go.Value.int Go.IntKind.u64 0) := Tryd.zeroValue62
theorem O63 : OneF Tryd.prog 63 := ⟨Tryd.isAgg63, Tryd.sizeOf63⟩
theorem Z63 : ZeroF Tryd.prog 63 (Go.Value.nilFunc) := Tryd.zeroValue63
theorem O64 : OneF Tryd.prog 64 := ⟨Tryd.isAgg64, Tryd.sizeOf64⟩
theorem Z64 : ZeroF Tryd.prog 64 (Go.Value.pointer none) := Tryd.zeroValue64
theorem O65 : OneF Tryd.prog 65 := ⟨Tryd.isAgg65, Tryd.sizeOf65⟩
theorem Z65 : ZeroF Tryd.prog 65 (Go.Value.tuple #[Go.Value.int Go.IntKind.i64 0, Go.Value.bool false]) := Tryd.zeroValue65
theorem O66 : OneF Tryd.prog 66 := ⟨Tryd.isAgg66, Tryd.sizeOf66⟩
theorem Z66 : ZeroF Tryd.prog 66 (Go.Value.nilFunc) := Tryd.zeroValue66
theorem O67 : OneF Tryd.prog 67 := ⟨Tryd.isAgg67, Tryd.sizeOf67⟩
theorem Z67 : ZeroF Tryd.prog 67 (Go.Value.nilFunc) := Tryd.zeroValue67
theorem O68 : OneF Tryd.prog 68 := ⟨Tryd.isAgg68, Tryd.sizeOf68⟩
theorem Z68 : ZeroF Tryd.prog 68 (Go.Value.nilFunc) := Tryd.zeroValue68
theorem O69 : OneF Tryd.prog 69 := ⟨Tryd.isAgg69, Tryd.sizeOf69⟩
theorem Z69 : ZeroF Tryd.prog 69 (Go.Value.nilFunc) := Tryd.zeroValue69
theorem O70 : OneF Tryd.prog 70 := ⟨Tryd.isAgg70, Tryd.sizeOf70⟩
theorem Z70 : ZeroF Tryd.prog 70 (Go.Value.nilFunc) := Tryd.zeroValue70
theorem O71 : OneF Tryd.prog 71 := ⟨Tryd.isAgg71, Tryd.sizeOf71⟩
theorem Z71 : ZeroF Tryd.prog 71 (Go.Value.pointer none) := Tryd.zeroValue71
theorem A72 : AggF Tryd.prog 72 2 := ⟨Tryd.isAgg72, Tryd.sizeOf72⟩
theorem Z72 : ZeroF Tryd.prog 72 (Go.Value.agg #[Go.Value.pointer none, Go.Value.slice none 0 0]) := Tryd.zeroValue72
theorem F72_0 : FieldF Tryd.prog 72 0 0 := FieldF.of Tryd.runUnderlying72 rfl rfl Tryd.sizeOf71
theorem V72_0 : ∀ (vs : Array Value) (v : Value) (w : World), vs[0]? = some v → (Instr.field 72 (.agg vs) 0).run Tryd.prog w = .ok v w := fun vs v w h => by simp [Instr.field, Tryd.runUnderlying72, part, Tryd.isAgg71, asAgg, h]
theorem F72_1 : FieldF Tryd.prog 72 1 1 := FieldF.of Tryd.runUnderlying72 rfl rfl Tryd.sizeOf22
theorem V72_1 : ∀ (vs : Array Value) (v : Value) (w : World), vs[1]? = some v → (Instr.field 72 (.agg vs) 1).run Tryd.prog w = .ok v w := fun vs v w h => by simp [Instr.field, Tryd.runUnderlying72, part, Tryd.isAgg22, asAgg, h]
theorem BF72 : BuildF Tryd.prog 72 [Go.Value.pointer none, Go.Value.slice none 0 0] := ⟨Tryd.zeroValue72, by simp [Value.oneCell'], _, Tryd.runUnderlying72, fun w => by
  simp [Sem.run_bind, Result.andThen, Tryd.sizeOf22, Tryd.sizeOf71, List.range, List.range.loop]⟩
theorem A73 : AggF Tryd.prog 73 2 := ⟨Tryd.isAgg73, Tryd.sizeOf73⟩
theorem Z73 : ZeroF Tryd.prog 73 (Go.Value.agg #[Go.Value.pointer none, Go.Value.slice none 0 0]) := Tryd.zeroValue73
theorem F73_0 : FieldF Tryd.prog 73 0 0 := FieldF.of Tryd.runUnderlying73 rfl rfl Tryd.sizeOf71
theorem V73_0 : ∀ (vs : Array Value) (v : Value) (w : World), vs[0]? = some v → (Instr.field 73 (.agg vs) 0).run Tryd.prog w = .ok v w := fun vs v w h => by simp [Instr.field, Tryd.runUnderlying73, part, Tryd.isAgg71, asAgg, h]
theorem F73_1 : FieldF Tryd.prog 73 1 1 := FieldF.of Tryd.runUnderlying73 rfl rfl Tryd.sizeOf22
theorem V73_1 : ∀ (vs : Array Value) (v : Value) (w : World), vs[1]? = some v → (Instr.field 73 (.agg vs) 1).run Tryd.prog w = .ok v w := fun vs v w h => by simp [Instr.field, Tryd.runUnderlying73, part, Tryd.isAgg22, asAgg, h]
theorem BF73 : BuildF Tryd.prog 73 [Go.Value.pointer none, Go.Value.slice none 0 0] := ⟨Tryd.zeroValue73, by simp [Value.oneCell'], _, Tryd.runUnderlying73, fun w => by
  simp [Sem.run_bind, Result.andThen, Tryd.sizeOf22, Tryd.sizeOf71, List.range, List.range.loop]⟩
theorem O74 : OneF Tryd.prog 74 := ⟨Tryd.isAgg74, Tryd.sizeOf74⟩
theorem Z74 : ZeroF Tryd.prog 74 (Go.Value.nilFunc) := Tryd.zeroValue74
theorem O75 : OneF Tryd.prog 75 := ⟨Tryd.isAgg75, Tryd.sizeOf75⟩
theorem Z75 : ZeroF Tryd.prog 75 (Go.Value.nilFunc) := Tryd.zeroValue75
theorem O76 : OneF Tryd.prog 76 := ⟨Tryd.isAgg76, Tryd.sizeOf76⟩
theorem Z76 : ZeroF Tryd.prog 76 (Go.Value.nilFunc) := Tryd.zeroValue76
theorem O77 : OneF Tryd.prog 77 := ⟨Tryd.isAgg77, Tryd.sizeOf77⟩
theorem Z77 : ZeroF Tryd.prog 77 (Go.Value.nilFunc) := Tryd.zeroValue77
theorem O78 : OneF Tryd.prog 78 := ⟨Tryd.isAgg78, Tryd.sizeOf78⟩
theorem Z78 : ZeroF Tryd.prog 78 (Go.Value.pointer none) := Tryd.zeroValue78
theorem O79 : OneF Tryd.prog 79 := ⟨Tryd.isAgg79, Tryd.sizeOf79⟩
theorem Z79 : ZeroF Tryd.prog 79 (Go.Value.pointer none) := Tryd.zeroValue79
theorem O80 : OneF Tryd.prog 80 := ⟨Tryd.isAgg80, Tryd.sizeOf80⟩
theorem Z80 : ZeroF Tryd.prog 80 (Go.Value.nilFunc) := Tryd.zeroValue80
theorem O81 : OneF Tryd.prog 81 := ⟨Tryd.isAgg81, Tryd.sizeOf81⟩
theorem Z81 : ZeroF Tryd.prog 81 (Go.Value.pointer none) := Tryd.zeroValue81
theorem A82 : AggF Tryd.prog 82 4 := ⟨Tryd.isAgg82, Tryd.sizeOf82⟩
theorem Z82 : ZeroF Tryd.prog 82 (Go.Value.agg #[Go.Value.pointer none, Go.Value.pointer none, Go.Value.pointer none, Go.Value.string (ByteArray.mk #[])]) := Tryd.zeroValue82
theorem F82_0 : FieldF Tryd.prog 82 0 0 := FieldF.of Tryd.runUnderlying82 rfl rfl Tryd.sizeOf17
theorem V82_0 : ∀ (vs : Array Value) (v : Value) (w : World), vs[0]? = some v → (Instr.field 82 (.agg vs) 0).run Tryd.prog w = .ok v w := fun vs v w h => by simp [Instr.field, Tryd.runUnderlying82, part, Tryd.isAgg17, asAgg, h]
theorem F82_1 : FieldF Tryd.prog 82 1 1 := FieldF.of Tryd.runUnderlying82 rfl rfl Tryd.sizeOf17
theorem V82_1 : ∀ (vs : Array Value) (v : Value) (w : World), vs[1]? = some v → (Instr.field 82 (.agg vs) 1).run Tryd.prog w = .ok v w := fun vs v w h => by simp [Instr.field, Tryd.runUnderlying82, part, Tryd.isAgg17, asAgg, h]
theorem F82_2 : FieldF Tryd.prog 82 2 2 := FieldF.of Tryd.runUnderlying82 rfl rfl Tryd.sizeOf17
theorem V82_2 : ∀ (vs : Array Value) (v : Value) (w : World), vs[2]? = some v → (Instr.field 82 (.agg vs) 2).run Tryd.prog w = .ok v w := fun vs v w h => by simp [Instr.field, Tryd.runUnderlying82, part, Tryd.isAgg17, asAgg, h]
theorem F82_3 : FieldF Tryd.prog 82 3 3 := FieldF.of Tryd.runUnderlying82 rfl rfl Tryd.sizeOf9
theorem V82_3 : ∀ (vs : Array Value) (v : Value) (w : World), vs[3]? = some v → (Instr.field 82 (.agg vs) 3).run Tryd.prog w = .ok v w := fun vs v w h => by simp [Instr.field, Tryd.runUnderlying82, part, Tryd.isAgg9, asAgg, h]
theorem BF82 : BuildF Tryd.prog 82 [Go.Value.pointer none, Go.Value.pointer none, Go.Value.pointer none, Go.Value.string (ByteArray.mk #[])] := ⟨Tryd.zeroValue82, by simp [Value.oneCell'], _, Tryd.runUnderlying82, fun w => by
  simp [Sem.run_bind, Result.andThen, Tryd.sizeOf9, Tryd.sizeOf17, List.range, List.range.loop]⟩
theorem A83 : AggF Tryd.prog 83 4 := ⟨Tryd.isAgg83, Tryd.sizeOf83⟩
theorem Z83 : ZeroF Tryd.prog 83 (Go.Value.agg #[Go.Value.pointer none, Go.Value.pointer none, Go.Value.pointer none, Go.Value.string (ByteArray.mk #[])]) := Tryd.zeroValue83
theorem F83_0 : FieldF Tryd.prog 83 0 0 := FieldF.of Tryd.runUnderlying83 rfl rfl Tryd.sizeOf17
theorem V83_0 : ∀ (vs : Array Value) (v : Value) (w : World), vs[0]? = some v → (Instr.field 83 (.agg vs) 0).run Tryd.prog w = .ok v w := fun vs v w h => by simp [Instr.field, Tryd.runUnderlying83, part, Tryd.isAgg17, asAgg, h]
theorem F83_1 : FieldF Tryd.prog 83 1 1 := FieldF.of Tryd.runUnderlying83 rfl rfl Tryd.sizeOf17
theorem V83_1 : ∀ (vs : Array Value) (v : Value) (w : World), vs[1]? = some v → (Instr.field 83 (.agg vs) 1).run Tryd.prog w = .ok v w := fun vs v w h => by simp [Instr.field, Tryd.runUnderlying83, part, Tryd.isAgg17, asAgg, h]
theorem F83_2 : FieldF Tryd.prog 83 2 2 := FieldF.of Tryd.runUnderlying83 rfl rfl Tryd.sizeOf17
theorem V83_2 : ∀ (vs : Array Value) (v : Value) (w : World), vs[2]? = some v → (Instr.field 83 (.agg vs) 2).run Tryd.prog w = .ok v w := fun vs v w h => by simp [Instr.field, Tryd.runUnderlying83, part, Tryd.isAgg17, asAgg, h]
theorem F83_3 : FieldF Tryd.prog 83 3 3 := FieldF.of Tryd.runUnderlying83 rfl rfl Tryd.sizeOf9
theorem V83_3 : ∀ (vs : Array Value) (v : Value) (w : World), vs[3]? = some v → (Instr.field 83 (.agg vs) 3).run Tryd.prog w = .ok v w := fun vs v w h => by simp [Instr.field, Tryd.runUnderlying83, part, Tryd.isAgg9, asAgg, h]
theorem BF83 : BuildF Tryd.prog 83 [Go.Value.pointer none, Go.Value.pointer none, Go.Value.pointer none, Go.Value.string (ByteArray.mk #[])] := ⟨Tryd.zeroValue83, by simp [Value.oneCell'], _, Tryd.runUnderlying83, fun w => by
  simp [Sem.run_bind, Result.andThen, Tryd.sizeOf9, Tryd.sizeOf17, List.range, List.range.loop]⟩
theorem A84 : AggF Tryd.prog 84 0 := ⟨Tryd.isAgg84, Tryd.sizeOf84⟩
theorem Z84 : ZeroF Tryd.prog 84 (Go.Value.agg #[]) := Tryd.zeroValue84
theorem I84 : IndexAF Tryd.prog 84 0 1 := IndexAF.of Tryd.runUnderlying84 Tryd.sizeOf16
theorem BX84 : BuildX Tryd.prog 84 (List.replicate 0 (Go.Value.pointer none)) := ⟨Tryd.zeroValue84, 0, 16, Tryd.runUnderlying84, Tryd.sizeOf16⟩
theorem AR84 : ArrF Tryd.prog 84 0 := ⟨16, Tryd.runUnderlying84, Tryd.sizeOf16⟩
theorem A85 : AggF Tryd.prog 85 0 := ⟨Tryd.isAgg85, Tryd.sizeOf85⟩
theorem Z85 : ZeroF Tryd.prog 85 (Go.Value.agg #[]) := Tryd.zeroValue85
theorem A86 : AggF Tryd.prog 86 0 := ⟨Tryd.isAgg86, Tryd.sizeOf86⟩
theorem Z86 : ZeroF Tryd.prog 86 (Go.Value.agg #[]) := Tryd.zeroValue86
theorem O87 : OneF Tryd.prog 87 := ⟨Tryd.isAgg87, Tryd.sizeOf87⟩
theorem Z87 : ZeroF Tryd.prog 87 (Go.Value.int Go.IntKind.u32 0) := Tryd.zeroValue87
theorem O88 : OneF Tryd.prog 88 := ⟨Tryd.isAgg88, Tryd.sizeOf88⟩
theorem Z88 : ZeroF Tryd.prog 88 (Go.Value.int Go.IntKind.u8 0) := Tryd.zeroValue88
theorem O89 : OneF Tryd.prog 89 := ⟨Tryd.isAgg89, Tryd.sizeOf89⟩
theorem Z89 : ZeroF Tryd.prog 89 (Go.Value.int Go.IntKind.u8 0) := Tryd.zeroValue89
theorem O90 : OneF Tryd.prog 90 := ⟨Tryd.isAgg90, Tryd.sizeOf90⟩
theorem Z90 : ZeroF Tryd.prog 90 (Go.Value.nilFunc) := Tryd.zeroValue90
theorem O91 : OneF Tryd.prog 91 := ⟨Tryd.isAgg91, Tryd.sizeOf91⟩
theorem Z91 : ZeroF Tryd.prog 91 (Go.Value.int Go.IntKind.i32 0) := Tryd.zeroValue91
theorem O92 : OneF Tryd.prog 92 := ⟨Tryd.isAgg92, Tryd.sizeOf92⟩
theorem Z92 : ZeroF Tryd.prog 92 (Go.Value.int Go.IntKind.i32 0) := Tryd.zeroValue92
theorem A93 : AggF Tryd.prog 93 11 := ⟨Tryd.isAgg93, Tryd.sizeOf93⟩
theorem Z93 : ZeroF Tryd.prog 93 (Go.Value.agg #[Go.Value.int Go.IntKind.u64 0, Go.Value.int Go.IntKind.u64 0, Go.Value.int Go.IntKind.u32 0, Go.Value.int Go.IntKind.u8 0, Go.Value.int Go.IntKind.u8 0, Go.Value.int Go.IntKind.u8 0, Go.Value.int Go.IntKind.u8 0, Go.Value.nilFunc, Go.Value.pointer none, Go.Value.int Go.IntKind.i32 0, Go.Value.int Go.IntKind.i32 0]) := Tryd.zeroValue93
theorem F93_0 : FieldF Tryd.prog 93 0 0 := FieldF.of Tryd.runUnderlying93 rfl rfl Tryd.sizeOf12
theorem V93_0 : ∀ (vs : Array Value) (v : Value) (w : World), vs[0]? = some v → (Instr.field 93 (.agg vs) 0).run Tryd.prog w = .ok v w := fun vs v w h => by simp [Instr.field, Tryd.runUnderlying93, part, Tryd.isAgg12, asAgg, h]
theorem F93_1 : FieldF Tryd.prog 93 1 1 := FieldF.of Tryd.runUnderlying93 rfl rfl Tryd.sizeOf12
theorem V93_1 : ∀ (vs : Array Value) (v : Value) (w : World), vs[1]? = some v → (Instr.field 93 (.agg vs) 1).run Tryd.prog w = .ok v w := fun vs v w h => by simp [Instr.field, Tryd.runUnderlying93, part, Tryd.isAgg12, asAgg, h]
theorem F93_2 : FieldF Tryd.prog 93 2 2 := FieldF.of Tryd.runUnderlying93 rfl rfl Tryd.sizeOf87
theorem V93_2 : ∀ (vs : Array Value) (v : Value) (w : World), vs[2]? = some v → (Instr.field 93 (.agg vs) 2).run Tryd.prog w = .ok v w := fun vs v w h => by simp [Instr.field, Tryd.runUnderlying93, part, Tryd.isAgg87, asAgg, h]
theorem F93_3 : FieldF Tryd.prog 93 3 3 := FieldF.of Tryd.runUnderlying93 rfl rfl Tryd.sizeOf88
theorem V93_3 : ∀ (vs : Array Value) (v : Value) (w : World), vs[3]? = some v → (Instr.field 93 (.agg vs) 3).run Tryd.prog w = .ok v w := fun vs v w h => by simp [Instr.field, Tryd.runUnderlying93, part, Tryd.isAgg88, asAgg, h]
theorem F93_4 : FieldF Tryd.prog 93 4 4 := FieldF.of Tryd.runUnderlying93 rfl rfl Tryd.sizeOf5
theorem V93_4 : ∀ (vs : Array Value) (v : Value) (w : World), vs[4]? = some v → (Instr.field 93 (.agg vs) 4).run Tryd.prog w = .ok v w := fun vs v w h => by simp [Instr.field, Tryd.runUnderlying93, part, Tryd.isAgg5, asAgg, h]
theorem F93_5 : FieldF Tryd.prog 93 5 5 := FieldF.of Tryd.runUnderlying93 rfl rfl Tryd.sizeOf5
theorem V93_5 : ∀ (vs : Array Value) (v : Value) (w : World), vs[5]? = some v → (Instr.field 93 (.agg vs) 5).run Tryd.prog w = .ok v w := fun vs v w h => by simp [Instr.field, Tryd.runUnderlying93, part, Tryd.isAgg5, asAgg, h]
theorem F93_6 : FieldF Tryd.prog 93 6 6 := FieldF.of Tryd.runUnderlying93 rfl rfl Tryd.sizeOf89
theorem V93_6 : ∀ (vs : Array Value) (v : Value) (w : World), vs[6]? = some v → (Instr.field 93 (.agg vs) 6).run Tryd.prog w = .ok v w := fun vs v w h => by simp [Instr.field, Tryd.runUnderlying93, part, Tryd.isAgg89, asAgg, h]
theorem F93_7 : FieldF Tryd.prog 93 7 7 := FieldF.of Tryd.runUnderlying93 rfl rfl Tryd.sizeOf90
theorem V93_7 : ∀ (vs : Array Value) (v : Value) (w : World), vs[7]? = some v → (Instr.field 93 (.agg vs) 7).run Tryd.prog w = .ok v w := fun vs v w h => by simp [Instr.field, Tryd.runUnderlying93, part, Tryd.isAgg90, asAgg, h]
theorem F93_8 : FieldF Tryd.prog 93 8 8 := FieldF.of Tryd.runUnderlying93 rfl rfl Tryd.sizeOf78
theorem V93_8 : ∀ (vs : Array Value) (v : Value) (w : World), vs[8]? = some v → (Instr.field 93 (.agg vs) 8).run Tryd.prog w = .ok v w := fun vs v w h => by simp [Instr.field, Tryd.runUnderlying93, part, Tryd.isAgg78, asAgg, h]
theorem F93_9 : FieldF Tryd.prog 93 9 9 := FieldF.of Tryd.runUnderlying93 rfl rfl Tryd.sizeOf91
theorem V93_9 : ∀ (vs : Array Value) (v : Value) (w : World), vs[9]? = some v → (Instr.field 93 (.agg vs) 9).run Tryd.prog w = .ok v w := fun vs v w h => by simp [Instr.field, Tryd.runUnderlying93, part, Tryd.isAgg91, asAgg, h]
theorem F93_10 : FieldF Tryd.prog 93 10 10 := FieldF.of Tryd.runUnderlying93 rfl rfl Tryd.sizeOf92
theorem V93_10 : ∀ (vs : Array Value) (v : Value) (w : World), vs[10]? = some v → (Instr.field 93 (.agg vs) 10).run Tryd.prog w = .ok v w := fun vs v w h => by simp [Instr.field, Tryd.runUnderlying93, part, Tryd.isAgg92, asAgg, h]
theorem BF93 : BuildF Tryd.prog 93 [Go.Value.int Go.IntKind.u64 0, Go.Value.int Go.IntKind.u64 0, Go.Value.int Go.IntKind.u32 0, Go.Value.int Go.IntKind.u8 0, Go.Value.int Go.IntKind.u8 0, Go.Value.int Go.IntKind.u8 0, Go.Value.int Go.IntKind.u8 0, Go.Value.nilFunc, Go.Value.pointer none, Go.Value.int Go.IntKind.i32 0, Go.Value.int Go.IntKind.i32 0] := ⟨Tryd.zeroValue93, by simp [Value.oneCell'], _, Tryd.runUnderlying93, fun w => by
  simp [Sem.run_bind, Result.andThen, Tryd.sizeOf5, Tryd.sizeOf12, Tryd.sizeOf78, Tryd.sizeOf87, Tryd.sizeOf88, Tryd.sizeOf89, Tryd.sizeOf90, Tryd.sizeOf91, Tryd.sizeOf92, List.range, List.range.loop]⟩
theorem A94 : AggF Tryd.prog 94 11 := ⟨Tryd.isAgg94, Tryd.sizeOf94⟩
theorem Z94 : ZeroF Tryd.prog 94 (Go.Value.agg #[Go.Value.int Go.IntKind.u64 0, Go.Value.int Go.IntKind.u64 0, Go.Value.int Go.IntKind.u32 0, Go.Value.int Go.IntKind.u8 0, Go.Value.int Go.IntKind.u8 0, Go.Value.int Go.IntKind.u8 0, Go.Value.int Go.IntKind.u8 0, Go.Value.nilFunc, Go.Value.pointer none, Go.Value.int Go.IntKind.i32 0, Go.Value.int Go.IntKind.i32 0]) := Tryd.zeroValue94
theorem F94_0 : FieldF Tryd.prog 94 0 0 := FieldF.of Tryd.runUnderlying94 rfl rfl Tryd.sizeOf12
theorem V94_0 : ∀ (vs : Array Value) (v : Value) (w : World), vs[0]? = some v → (Instr.field 94 (.agg vs) 0).run Tryd.prog w = .ok v w := fun vs v w h => by simp [Instr.field, Tryd.runUnderlying94, part, Tryd.isAgg12, asAgg, h]
theorem F94_1 : FieldF Tryd.prog 94 1 1 := FieldF.of Tryd.runUnderlying94 rfl rfl Tryd.sizeOf12
theorem V94_1 : ∀ (vs : Array Value) (v : Value) (w : World), vs[1]? = some v → (Instr.field 94 (.agg vs) 1).run Tryd.prog w = .ok v w := fun vs v w h => by simp [Instr.field, Tryd.runUnderlying94, part, Tryd.isAgg12, asAgg, h]
theorem F94_2 : FieldF Tryd.prog 94 2 2 := FieldF.of Tryd.runUnderlying94 rfl rfl Tryd.sizeOf87
theorem V94_2 : ∀ (vs : Array Value) (v : Value) (w : World), vs[2]? = some v → (Instr.field 94 (.agg vs) 2).run Tryd.prog w = .ok v w := fun vs v w h => by simp [Instr.field, Tryd.runUnderlying94, part, Tryd.isAgg87, asAgg, h]
theorem F94_3 : FieldF Tryd.prog 94 3 3 := FieldF.of Tryd.runUnderlying94 rfl rfl Tryd.sizeOf88
theorem V94_3 : ∀ (vs : Array Value) (v : Value) (w : World), vs[3]? = some v → (Instr.field 94 (.agg vs) 3).run Tryd.prog w = .ok v w := fun vs v w h => by simp [Instr.field, Tryd.runUnderlying94, part, Tryd.isAgg88, asAgg, h]
theorem F94_4 : FieldF Tryd.prog 94 4 4 := FieldF.of Tryd.runUnderlying94 rfl rfl Tryd.sizeOf5
theorem V94_4 : ∀ (vs : Array Value) (v : Value) (w : World), vs[4]? = some v → (Instr.field 94 (.agg vs) 4).run Tryd.prog w = .ok v w := fun vs v w h => by simp [Instr.field, Tryd.runUnderlying94, part, Tryd.isAgg5, asAgg, h]
theorem F94_5 : FieldF Tryd.prog 94 5 5 := FieldF.of Tryd.runUnderlying94 rfl rfl Tryd.sizeOf5
theorem V94_5 : ∀ (vs : Array Value) (v : Value) (w : World), vs[5]? = some v → (Instr.field 94 (.agg vs) 5).run Tryd.prog w = .ok v w := fun vs v w h => by simp [Instr.field, Tryd.runUnderlying94, part, Tryd.isAgg5, asAgg, h]
theorem F94_6 : FieldF Tryd.prog 94 6 6 := FieldF.of Tryd.runUnderlying94 rfl rfl Tryd.sizeOf89
theorem V94_6 : ∀ (vs : Array Value) (v : Value) (w : World), vs[6]? = some v → (Instr.field 94 (.agg vs) 6).run Tryd.prog w = .ok v w := fun vs v w h => by simp [Instr.field, Tryd.runUnderlying94, part, Tryd.isAgg89, asAgg, h]
theorem F94_7 : FieldF Tryd.prog 94 7 7 := FieldF.of Tryd.runUnderlying94 rfl rfl Tryd.sizeOf90
theorem V94_7 : ∀ (vs : Array Value) (v : Value) (w : World), vs[7]? = some v → (Instr.field 94 (.agg vs) 7).run Tryd.prog w = .ok v w := fun vs v w h => by simp [Instr.field, Tryd.runUnderlying94, part, Tryd.isAgg90, asAgg, h]
theorem F94_8 : FieldF Tryd.prog 94 8 8 := FieldF.of Tryd.runUnderlying94 rfl rfl Tryd.sizeOf78
theorem V94_8 : ∀ (vs : Array Value) (v : Value) (w : World), vs[8]? = some v → (Instr.field 94 (.agg vs) 8).run Tryd.prog w = .ok v w := fun vs v w h => by simp [Instr.field, Tryd.runUnderlying94, part, Tryd.isAgg78, asAgg, h]
theorem F94_9 : FieldF Tryd.prog 94 9 9 := FieldF.of Tryd.runUnderlying94 rfl rfl Tryd.sizeOf91
theorem V94_9 : ∀ (vs : Array Value) (v : Value) (w : World), vs[9]? = some v → (Instr.field 94 (.agg vs) 9).run Tryd.prog w = .ok v w := fun vs v w h => by simp [Instr.field, Tryd.runUnderlying94, part, Tryd.isAgg91, asAgg, h]
theorem F94_10 : FieldF Tryd.prog 94 10 10 := FieldF.of Tryd.runUnderlying94 rfl rfl Tryd.sizeOf92
theorem V94_10 : ∀ (vs : Array Value) (v : Value) (w : World), vs[10]? = some v → (Instr.field 94 (.agg vs) 10).run Tryd.prog w = .ok v w := fun vs v w h => by simp [Instr.field, Tryd.runUnderlying94, part, Tryd.isAgg92, asAgg, h]
theorem BF94 : BuildF Tryd.prog 94 [Go.Value.int Go.IntKind.u64 0, Go.Value.int Go.IntKind.u64 0, Go.Value.int Go.IntKind.u32 0, Go.Value.int Go.IntKind.u8 0, Go.Value.int Go.IntKind.u8 0, Go.Value.int Go.IntKind.u8 0, Go.Value.int Go.IntKind.u8 0, Go.Value.nilFunc, Go.Value.pointer none, Go.Value.int Go.IntKind.i32 0, Go.Value.int Go.IntKind.i32 0] := ⟨Tryd.zeroValue94, by simp [Value.oneCell'], _, Tryd.runUnderlying94, fun w => by
  simp [Sem.run_bind, Result.andThen, Tryd.sizeOf5, Tryd.sizeOf12, Tryd.sizeOf78, Tryd.sizeOf87, Tryd.sizeOf88, Tryd.sizeOf89, Tryd.sizeOf90, Tryd.sizeOf91, Tryd.sizeOf92, List.range, List.range.loop]⟩
theorem A95 : AggF Tryd.prog 95 1 := ⟨Tryd.isAgg95, Tryd.sizeOf95⟩
theorem Z95 : ZeroF Tryd.prog 95 (Go.Value.agg #[Go.Value.string (ByteArray.mk #[])]) := Tryd.zeroValue95
theorem F95_0 : FieldF Tryd.prog 95 0 0 := FieldF.of Tryd.runUnderlying95 rfl rfl Tryd.sizeOf9
theorem V95_0 : ∀ (vs : Array Value) (v : Value) (w : World), vs[0]? = some v → (Instr.field 95 (.agg vs) 0).run Tryd.prog w = .ok v w := fun vs v w h => by simp [Instr.field, Tryd.runUnderlying95, part, Tryd.isAgg9, asAgg, h]
theorem BF95 : BuildF Tryd.prog 95 [Go.Value.string (ByteArray.mk #[])] := ⟨Tryd.zeroValue95, by simp [Value.oneCell'], _, Tryd.runUnderlying95, fun w => by
  simp [Sem.run_bind, Result.andThen, Tryd.sizeOf9, List.range, List.range.loop]⟩
theorem A96 : AggF Tryd.prog 96 1 := ⟨Tryd.isAgg96, Tryd.sizeOf96⟩
theorem Z96 : ZeroF Tryd.prog 96 (Go.Value.agg #[Go.Value.string (ByteArray.mk #[])]) := Tryd.zeroValue96
theorem F96_0 : FieldF Tryd.prog 96 0 0 := FieldF.of Tryd.runUnderlying96 rfl rfl Tryd.sizeOf9
theorem V96_0 : ∀ (vs : Array Value) (v : Value) (w : World), vs[0]? = some v → (Instr.field 96 (.agg vs) 0).run Tryd.prog w = .ok v w := fun vs v w h => by simp [Instr.field, Tryd.runUnderlying96, part, Tryd.isAgg9, asAgg, h]
theorem BF96 : BuildF Tryd.prog 96 [Go.Value.string (ByteArray.mk #[])] := ⟨Tryd.zeroValue96, by simp [Value.oneCell'], _, Tryd.runUnderlying96, fun w => by
  simp [Sem.run_bind, Result.andThen, Tryd.sizeOf9, List.range, List.range.loop]⟩
theorem O97 : OneF Tryd.prog 97 := ⟨Tryd.isAgg97, Tryd.sizeOf97⟩
theorem Z97 : ZeroF Tryd.prog 97 (Go.Value.nilFunc) := Tryd.zeroValue97
end Go.Proofs.YtnamkhifmankmaaDoor

