/- What the types of this program say, a fact each (no condition). -/
import Derived.Test.YtgcjjndhohellaaDoorKF
import Derived.Test.YtgcjjndhohellaaDoorProg
set_option linter.unusedSimpArgs false
set_option linter.unusedVariables false
namespace Go.Proofs.YtgcjjndhohellaaDoor
theorem mixedO : Tryd.prog.follows .mixedOrders = true := by kernel_rfl
theorem O0 : OneF Tryd.prog 0 := ⟨Tryd.isAgg0, Tryd.sizeOf0⟩
theorem Z0 : ZeroF Tryd.prog 0 (Go.Value.tuple #[]) := Tryd.zeroValue0
theorem O1 : OneF Tryd.prog 1 := ⟨Tryd.isAgg1, Tryd.sizeOf1⟩
theorem Z1 : ZeroF Tryd.prog 1 (Go.Value.nilFunc) := Tryd.zeroValue1
theorem O2 : OneF Tryd.prog 2 := ⟨Tryd.isAgg2, Tryd.sizeOf2⟩
theorem Z2 : ZeroF Tryd.prog 2 (Go.Value.int Go.IntKind.i64 0) := Tryd.zeroValue2
theorem O3 : OneF Tryd.prog 3 := ⟨Tryd.isAgg3, Tryd.sizeOf3⟩
theorem Z3 : ZeroF Tryd.prog 3 (Go.Value.int Go.IntKind.i64 0) := Tryd.zeroValue3
theorem O4 : OneF Tryd.prog 4 := ⟨Tryd.isAgg4, Tryd.sizeOf4⟩
theorem Z4 : ZeroF Tryd.prog 4 (Go.Value.bool false) := Tryd.zeroValue4
theorem O5 : OneF Tryd.prog 5 := ⟨Tryd.isAgg5, Tryd.sizeOf5⟩
theorem Z5 : ZeroF Tryd.prog 5 (Go.Value.int Go.IntKind.u8 0) := Tryd.zeroValue5
theorem O6 : OneF Tryd.prog 6 := ⟨Tryd.isAgg6, Tryd.sizeOf6⟩
theorem Z6 : ZeroF Tryd.prog 6 (Go.Value.int Go.IntKind.u8 0) := Tryd.zeroValue6
theorem A7 : AggF Tryd.prog 7 4 := ⟨Tryd.isAgg7, Tryd.sizeOf7⟩
theorem Z7 : ZeroF Tryd.prog 7 (Go.Value.agg #[Go.Value.int Go.IntKind.i64 0, Go.Value.int Go.IntKind.i64 0, Go.Value.bool false, Go.Value.int Go.IntKind.u8 0]) := Tryd.zeroValue7
theorem F7_0 : FieldF Tryd.prog 7 0 0 := FieldF.of Tryd.runUnderlying7 rfl rfl Tryd.sizeOf2
theorem V7_0 : ∀ (vs : Array Value) (v : Value) (w : World), vs[0]? = some v → (Instr.field 7 (.agg vs) 0).run Tryd.prog w = .ok v w := fun vs v w h => by simp [Instr.field, Tryd.runUnderlying7, part, Tryd.isAgg2, asAgg, h]
theorem F7_1 : FieldF Tryd.prog 7 1 1 := FieldF.of Tryd.runUnderlying7 rfl rfl Tryd.sizeOf3
theorem V7_1 : ∀ (vs : Array Value) (v : Value) (w : World), vs[1]? = some v → (Instr.field 7 (.agg vs) 1).run Tryd.prog w = .ok v w := fun vs v w h => by simp [Instr.field, Tryd.runUnderlying7, part, Tryd.isAgg3, asAgg, h]
theorem F7_2 : FieldF Tryd.prog 7 2 2 := FieldF.of Tryd.runUnderlying7 rfl rfl Tryd.sizeOf4
theorem V7_2 : ∀ (vs : Array Value) (v : Value) (w : World), vs[2]? = some v → (Instr.field 7 (.agg vs) 2).run Tryd.prog w = .ok v w := fun vs v w h => by simp [Instr.field, Tryd.runUnderlying7, part, Tryd.isAgg4, asAgg, h]
theorem F7_3 : FieldF Tryd.prog 7 3 3 := FieldF.of Tryd.runUnderlying7 rfl rfl Tryd.sizeOf6
theorem V7_3 : ∀ (vs : Array Value) (v : Value) (w : World), vs[3]? = some v → (Instr.field 7 (.agg vs) 3).run Tryd.prog w = .ok v w := fun vs v w h => by simp [Instr.field, Tryd.runUnderlying7, part, Tryd.isAgg6, asAgg, h]
theorem BF7 : BuildF Tryd.prog 7 [Go.Value.int Go.IntKind.i64 0, Go.Value.int Go.IntKind.i64 0, Go.Value.bool false, Go.Value.int Go.IntKind.u8 0] := ⟨Tryd.zeroValue7, by simp [Value.oneCell'], _, Tryd.runUnderlying7, fun w => by
  simp [Sem.run_bind, Result.andThen, Tryd.sizeOf2, Tryd.sizeOf3, Tryd.sizeOf4, Tryd.sizeOf6, List.range, List.range.loop]⟩
theorem A8 : AggF Tryd.prog 8 4 := ⟨Tryd.isAgg8, Tryd.sizeOf8⟩
theorem Z8 : ZeroF Tryd.prog 8 (Go.Value.agg #[Go.Value.int Go.IntKind.i64 0, Go.Value.int Go.IntKind.i64 0, Go.Value.bool false, Go.Value.int Go.IntKind.u8 0]) := Tryd.zeroValue8
theorem F8_0 : FieldF Tryd.prog 8 0 0 := FieldF.of Tryd.runUnderlying8 rfl rfl Tryd.sizeOf2
theorem V8_0 : ∀ (vs : Array Value) (v : Value) (w : World), vs[0]? = some v → (Instr.field 8 (.agg vs) 0).run Tryd.prog w = .ok v w := fun vs v w h => by simp [Instr.field, Tryd.runUnderlying8, part, Tryd.isAgg2, asAgg, h]
theorem F8_1 : FieldF Tryd.prog 8 1 1 := FieldF.of Tryd.runUnderlying8 rfl rfl Tryd.sizeOf3
theorem V8_1 : ∀ (vs : Array Value) (v : Value) (w : World), vs[1]? = some v → (Instr.field 8 (.agg vs) 1).run Tryd.prog w = .ok v w := fun vs v w h => by simp [Instr.field, Tryd.runUnderlying8, part, Tryd.isAgg3, asAgg, h]
theorem F8_2 : FieldF Tryd.prog 8 2 2 := FieldF.of Tryd.runUnderlying8 rfl rfl Tryd.sizeOf4
theorem V8_2 : ∀ (vs : Array Value) (v : Value) (w : World), vs[2]? = some v → (Instr.field 8 (.agg vs) 2).run Tryd.prog w = .ok v w := fun vs v w h => by simp [Instr.field, Tryd.runUnderlying8, part, Tryd.isAgg4, asAgg, h]
theorem F8_3 : FieldF Tryd.prog 8 3 3 := FieldF.of Tryd.runUnderlying8 rfl rfl Tryd.sizeOf6
theorem V8_3 : ∀ (vs : Array Value) (v : Value) (w : World), vs[3]? = some v → (Instr.field 8 (.agg vs) 3).run Tryd.prog w = .ok v w := fun vs v w h => by simp [Instr.field, Tryd.runUnderlying8, part, Tryd.isAgg6, asAgg, h]
theorem BF8 : BuildF Tryd.prog 8 [Go.Value.int Go.IntKind.i64 0, Go.Value.int Go.IntKind.i64 0, Go.Value.bool false, Go.Value.int Go.IntKind.u8 0] := ⟨Tryd.zeroValue8, by simp [Value.oneCell'], _, Tryd.runUnderlying8, fun w => by
  simp [Sem.run_bind, Result.andThen, Tryd.sizeOf2, Tryd.sizeOf3, Tryd.sizeOf4, Tryd.sizeOf6, List.range, List.range.loop]⟩
theorem O9 : OneF Tryd.prog 9 := ⟨Tryd.isAgg9, Tryd.sizeOf9⟩
theorem Z9 : ZeroF Tryd.prog 9 (Go.Value.string (ByteArray.mk #[])) := Tryd.zeroValue9
theorem O10 : OneF Tryd.prog 10 := ⟨Tryd.isAgg10, Tryd.sizeOf10⟩
theorem Z10 : ZeroF Tryd.prog 10 (Go.Value.string (ByteArray.mk #[])) := Tryd.zeroValue10
theorem O11 : OneF Tryd.prog 11 := ⟨Tryd.isAgg11, Tryd.sizeOf11⟩
theorem Z11 : ZeroF Tryd.prog 11 (Go.Value.string (ByteArray.mk #[])) := Tryd.zeroValue11
theorem O12 : OneF Tryd.prog 12 := ⟨Tryd.isAgg12, Tryd.sizeOf12⟩
theorem Z12 : ZeroF Tryd.prog 12 (Go.Value.int Go.IntKind.u64 0) := Tryd.zeroValue12
theorem A13 : AggF Tryd.prog 13 2 := ⟨Tryd.isAgg13, Tryd.sizeOf13⟩
theorem Z13 : ZeroF Tryd.prog 13 (Go.Value.agg #[Go.Value.string (ByteArray.mk #[]), Go.Value.int Go.IntKind.u64 0]) := Tryd.zeroValue13
theorem F13_0 : FieldF Tryd.prog 13 0 0 := FieldF.of Tryd.runUnderlying13 rfl rfl Tryd.sizeOf9
theorem V13_0 : ∀ (vs : Array Value) (v : Value) (w : World), vs[0]? = some v → (Instr.field 13 (.agg vs) 0).run Tryd.prog w = .ok v w := fun vs v w h => by simp [Instr.field, Tryd.runUnderlying13, part, Tryd.isAgg9, asAgg, h]
theorem F13_1 : FieldF Tryd.prog 13 1 1 := FieldF.of Tryd.runUnderlying13 rfl rfl Tryd.sizeOf12
theorem V13_1 : ∀ (vs : Array Value) (v : Value) (w : World), vs[1]? = some v → (Instr.field 13 (.agg vs) 1).run Tryd.prog w = .ok v w := fun vs v w h => by simp [Instr.field, Tryd.runUnderlying13, part, Tryd.isAgg12, asAgg, h]
theorem BF13 : BuildF Tryd.prog 13 [Go.Value.string (ByteArray.mk #[]), Go.Value.int Go.IntKind.u64 0] := ⟨Tryd.zeroValue13, by simp [Value.oneCell'], _, Tryd.runUnderlying13, fun w => by
  simp [Sem.run_bind, Result.andThen, Tryd.sizeOf9, Tryd.sizeOf12, List.range, List.range.loop]⟩
theorem A14 : AggF Tryd.prog 14 2 := ⟨Tryd.isAgg14, Tryd.sizeOf14⟩
theorem Z14 : ZeroF Tryd.prog 14 (Go.Value.agg #[Go.Value.string (ByteArray.mk #[]), Go.Value.int Go.IntKind.u64 0]) := Tryd.zeroValue14
theorem F14_0 : FieldF Tryd.prog 14 0 0 := FieldF.of Tryd.runUnderlying14 rfl rfl Tryd.sizeOf9
theorem V14_0 : ∀ (vs : Array Value) (v : Value) (w : World), vs[0]? = some v → (Instr.field 14 (.agg vs) 0).run Tryd.prog w = .ok v w := fun vs v w h => by simp [Instr.field, Tryd.runUnderlying14, part, Tryd.isAgg9, asAgg, h]
theorem F14_1 : FieldF Tryd.prog 14 1 1 := FieldF.of Tryd.runUnderlying14 rfl rfl Tryd.sizeOf12
theorem V14_1 : ∀ (vs : Array Value) (v : Value) (w : World), vs[1]? = some v → (Instr.field 14 (.agg vs) 1).run Tryd.prog w = .ok v w := fun vs v w h => by simp [Instr.field, Tryd.runUnderlying14, part, Tryd.isAgg12, asAgg, h]
theorem BF14 : BuildF Tryd.prog 14 [Go.Value.string (ByteArray.mk #[]), Go.Value.int Go.IntKind.u64 0] := ⟨Tryd.zeroValue14, by simp [Value.oneCell'], _, Tryd.runUnderlying14, fun w => by
  simp [Sem.run_bind, Result.andThen, Tryd.sizeOf9, Tryd.sizeOf12, List.range, List.range.loop]⟩
theorem O15 : OneF Tryd.prog 15 := ⟨Tryd.isAgg15, Tryd.sizeOf15⟩
theorem Z15 : ZeroF Tryd.prog 15 (Go.Value.pointer none) := Tryd.zeroValue15
theorem O16 : OneF Tryd.prog 16 := ⟨Tryd.isAgg16, Tryd.sizeOf16⟩
theorem Z16 : ZeroF Tryd.prog 16 (Go.Value.pointer none) := Tryd.zeroValue16
theorem O17 : OneF Tryd.prog 17 := ⟨Tryd.isAgg17, Tryd.sizeOf17⟩
theorem Z17 : ZeroF Tryd.prog 17 (Go.Value.pointer none) := Tryd.zeroValue17
theorem A18 : AggF Tryd.prog 18 1 := ⟨Tryd.isAgg18, Tryd.sizeOf18⟩
theorem Z18 : ZeroF Tryd.prog 18 (Go.Value.agg #[Go.Value.pointer none]) := Tryd.zeroValue18
theorem F18_0 : FieldF Tryd.prog 18 0 0 := FieldF.of Tryd.runUnderlying18 rfl rfl Tryd.sizeOf17
theorem V18_0 : ∀ (vs : Array Value) (v : Value) (w : World), vs[0]? = some v → (Instr.field 18 (.agg vs) 0).run Tryd.prog w = .ok v w := fun vs v w h => by simp [Instr.field, Tryd.runUnderlying18, part, Tryd.isAgg17, asAgg, h]
theorem BF18 : BuildF Tryd.prog 18 [Go.Value.pointer none] := ⟨Tryd.zeroValue18, by simp [Value.oneCell'], _, Tryd.runUnderlying18, fun w => by
  simp [Sem.run_bind, Result.andThen, Tryd.sizeOf17, List.range, List.range.loop]⟩
theorem A19 : AggF Tryd.prog 19 1 := ⟨Tryd.isAgg19, Tryd.sizeOf19⟩
theorem Z19 : ZeroF Tryd.prog 19 (Go.Value.agg #[Go.Value.pointer none]) := Tryd.zeroValue19
theorem F19_0 : FieldF Tryd.prog 19 0 0 := FieldF.of Tryd.runUnderlying19 rfl rfl Tryd.sizeOf17
theorem V19_0 : ∀ (vs : Array Value) (v : Value) (w : World), vs[0]? = some v → (Instr.field 19 (.agg vs) 0).run Tryd.prog w = .ok v w := fun vs v w h => by simp [Instr.field, Tryd.runUnderlying19, part, Tryd.isAgg17, asAgg, h]
theorem BF19 : BuildF Tryd.prog 19 [Go.Value.pointer none] := ⟨Tryd.zeroValue19, by simp [Value.oneCell'], _, Tryd.runUnderlying19, fun w => by
  simp [Sem.run_bind, Result.andThen, Tryd.sizeOf17, List.range, List.range.loop]⟩
theorem O20 : OneF Tryd.prog 20 := ⟨Tryd.isAgg20, Tryd.sizeOf20⟩
theorem Z20 : ZeroF Tryd.prog 20 (Go.Value.nilIface) := Tryd.zeroValue20
theorem O21 : OneF Tryd.prog 21 := ⟨Tryd.isAgg21, Tryd.sizeOf21⟩
theorem Z21 : ZeroF Tryd.prog 21 (Go.Value.int Go.IntKind.i32 0) := Tryd.zeroValue21
theorem O22 : OneF Tryd.prog 22 := ⟨Tryd.isAgg22, Tryd.sizeOf22⟩
theorem Z22 : ZeroF Tryd.prog 22 (Go.Value.slice none 0 0) := Tryd.zeroValue22
theorem I22 : IndexF Tryd.prog 22 3 := IndexF.of Tryd.runUnderlying22 Tryd.sizeOf59
theorem S22 : SliceT Tryd.prog 22 := ⟨_, Tryd.runUnderlying22⟩
theorem AP22 : AppF Tryd.prog 22 59 3 := ⟨Tryd.underlying22, by kernel_rfl⟩
theorem SF22 : SliceF Tryd.prog 22 3 := ⟨_, Tryd.runUnderlying22, Tryd.sizeOf59⟩
theorem O23 : OneF Tryd.prog 23 := ⟨Tryd.isAgg23, Tryd.sizeOf23⟩
theorem Z23 : ZeroF Tryd.prog 23 (Go.Value.slice none 0 0) := Tryd.zeroValue23
theorem I23 : IndexF Tryd.prog 23 5 := IndexF.of Tryd.runUnderlying23 Tryd.sizeOf40
theorem S23 : SliceT Tryd.prog 23 := ⟨_, Tryd.runUnderlying23⟩
theorem AP23 : AppF Tryd.prog 23 40 5 := ⟨Tryd.underlying23, by kernel_rfl⟩
theorem SF23 : SliceF Tryd.prog 23 5 := ⟨_, Tryd.runUnderlying23, Tryd.sizeOf40⟩
theorem A24 : AggF Tryd.prog 24 2 := ⟨Tryd.isAgg24, Tryd.sizeOf24⟩
theorem Z24 : ZeroF Tryd.prog 24 (Go.Value.agg #[Go.Value.slice none 0 0, Go.Value.slice none 0 0]) := Tryd.zeroValue24
theorem F24_0 : FieldF Tryd.prog 24 0 0 := FieldF.of Tryd.runUnderlying24 rfl rfl Tryd.sizeOf22
theorem V24_0 : ∀ (vs : Array Value) (v : Value) (w : World), vs[0]? = some v → (Instr.field 24 (.agg vs) 0).run Tryd.prog w = .ok v w := fun vs v w h => by simp [Instr.field, Tryd.runUnderlying24, part, Tryd.isAgg22, asAgg, h]
theorem F24_1 : FieldF Tryd.prog 24 1 1 := FieldF.of Tryd.runUnderlying24 rfl rfl Tryd.sizeOf23
theorem V24_1 : ∀ (vs : Array Value) (v : Value) (w : World), vs[1]? = some v → (Instr.field 24 (.agg vs) 1).run Tryd.prog w = .ok v w := fun vs v w h => by simp [Instr.field, Tryd.runUnderlying24, part, Tryd.isAgg23, asAgg, h]
theorem BF24 : BuildF Tryd.prog 24 [Go.Value.slice none 0 0, Go.Value.slice none 0 0] := ⟨Tryd.zeroValue24, by simp [Value.oneCell'], _, Tryd.runUnderlying24, fun w => by
  simp [Sem.run_bind, Result.andThen, Tryd.sizeOf22, Tryd.sizeOf23, List.range, List.range.loop]⟩
theorem A25 : AggF Tryd.prog 25 2 := ⟨Tryd.isAgg25, Tryd.sizeOf25⟩
theorem Z25 : ZeroF Tryd.prog 25 (Go.Value.agg #[Go.Value.slice none 0 0, Go.Value.slice none 0 0]) := Tryd.zeroValue25
theorem F25_0 : FieldF Tryd.prog 25 0 0 := FieldF.of Tryd.runUnderlying25 rfl rfl Tryd.sizeOf22
theorem V25_0 : ∀ (vs : Array Value) (v : Value) (w : World), vs[0]? = some v → (Instr.field 25 (.agg vs) 0).run Tryd.prog w = .ok v w := fun vs v w h => by simp [Instr.field, Tryd.runUnderlying25, part, Tryd.isAgg22, asAgg, h]
theorem F25_1 : FieldF Tryd.prog 25 1 1 := FieldF.of Tryd.runUnderlying25 rfl rfl Tryd.sizeOf23
theorem V25_1 : ∀ (vs : Array Value) (v : Value) (w : World), vs[1]? = some v → (Instr.field 25 (.agg vs) 1).run Tryd.prog w = .ok v w := fun vs v w h => by simp [Instr.field, Tryd.runUnderlying25, part, Tryd.isAgg23, asAgg, h]
theorem BF25 : BuildF Tryd.prog 25 [Go.Value.slice none 0 0, Go.Value.slice none 0 0] := ⟨Tryd.zeroValue25, by simp [Value.oneCell'], _, Tryd.runUnderlying25, fun w => by
  simp [Sem.run_bind, Result.andThen, Tryd.sizeOf22, Tryd.sizeOf23, List.range, List.range.loop]⟩
theorem O26 : OneF Tryd.prog 26 := ⟨Tryd.isAgg26, Tryd.sizeOf26⟩
theorem Z26 : ZeroF Tryd.prog 26 (Go.Value.int Go.IntKind.u32 0) := Tryd.zeroValue26
theorem O27 : OneF Tryd.prog 27 := ⟨Tryd.isAgg27, Tryd.sizeOf27⟩
theorem Z27 : ZeroF Tryd.prog 27 (Go.Value.int Go.IntKind.u64 0) := Tryd.zeroValue27
theorem A28 : AggF Tryd.prog 28 4 := ⟨Tryd.isAgg28, Tryd.sizeOf28⟩
theorem Z28 : ZeroF Tryd.prog 28 (Go.Value.agg #[Go.Value.int Go.IntKind.u32 0, Go.Value.int Go.IntKind.u32 0, Go.Value.int Go.IntKind.u64 0, Go.Value.int Go.IntKind.u64 0]) := Tryd.zeroValue28
theorem F28_0 : FieldF Tryd.prog 28 0 0 := FieldF.of Tryd.runUnderlying28 rfl rfl Tryd.sizeOf26
theorem V28_0 : ∀ (vs : Array Value) (v : Value) (w : World), vs[0]? = some v → (Instr.field 28 (.agg vs) 0).run Tryd.prog w = .ok v w := fun vs v w h => by simp [Instr.field, Tryd.runUnderlying28, part, Tryd.isAgg26, asAgg, h]
theorem F28_1 : FieldF Tryd.prog 28 1 1 := FieldF.of Tryd.runUnderlying28 rfl rfl Tryd.sizeOf26
theorem V28_1 : ∀ (vs : Array Value) (v : Value) (w : World), vs[1]? = some v → (Instr.field 28 (.agg vs) 1).run Tryd.prog w = .ok v w := fun vs v w h => by simp [Instr.field, Tryd.runUnderlying28, part, Tryd.isAgg26, asAgg, h]
theorem F28_2 : FieldF Tryd.prog 28 2 2 := FieldF.of Tryd.runUnderlying28 rfl rfl Tryd.sizeOf27
theorem V28_2 : ∀ (vs : Array Value) (v : Value) (w : World), vs[2]? = some v → (Instr.field 28 (.agg vs) 2).run Tryd.prog w = .ok v w := fun vs v w h => by simp [Instr.field, Tryd.runUnderlying28, part, Tryd.isAgg27, asAgg, h]
theorem F28_3 : FieldF Tryd.prog 28 3 3 := FieldF.of Tryd.runUnderlying28 rfl rfl Tryd.sizeOf27
theorem V28_3 : ∀ (vs : Array Value) (v : Value) (w : World), vs[3]? = some v → (Instr.field 28 (.agg vs) 3).run Tryd.prog w = .ok v w := fun vs v w h => by simp [Instr.field, Tryd.runUnderlying28, part, Tryd.isAgg27, asAgg, h]
theorem BF28 : BuildF Tryd.prog 28 [Go.Value.int Go.IntKind.u32 0, Go.Value.int Go.IntKind.u32 0, Go.Value.int Go.IntKind.u64 0, Go.Value.int Go.IntKind.u64 0] := ⟨Tryd.zeroValue28, by simp [Value.oneCell'], _, Tryd.runUnderlying28, fun w => by
  simp [Sem.run_bind, Result.andThen, Tryd.sizeOf26, Tryd.sizeOf27, List.range, List.range.loop]⟩
theorem A29 : AggF Tryd.prog 29 4 := ⟨Tryd.isAgg29, Tryd.sizeOf29⟩
theorem Z29 : ZeroF Tryd.prog 29 (Go.Value.agg #[Go.Value.int Go.IntKind.u32 0, Go.Value.int Go.IntKind.u32 0, Go.Value.int Go.IntKind.u64 0, Go.Value.int Go.IntKind.u64 0]) := Tryd.zeroValue29
theorem F29_0 : FieldF Tryd.prog 29 0 0 := FieldF.of Tryd.runUnderlying29 rfl rfl Tryd.sizeOf26
theorem V29_0 : ∀ (vs : Array Value) (v : Value) (w : World), vs[0]? = some v → (Instr.field 29 (.agg vs) 0).run Tryd.prog w = .ok v w := fun vs v w h => by simp [Instr.field, Tryd.runUnderlying29, part, Tryd.isAgg26, asAgg, h]
theorem F29_1 : FieldF Tryd.prog 29 1 1 := FieldF.of Tryd.runUnderlying29 rfl rfl Tryd.sizeOf26
theorem V29_1 : ∀ (vs : Array Value) (v : Value) (w : World), vs[1]? = some v → (Instr.field 29 (.agg vs) 1).run Tryd.prog w = .ok v w := fun vs v w h => by simp [Instr.field, Tryd.runUnderlying29, part, Tryd.isAgg26, asAgg, h]
theorem F29_2 : FieldF Tryd.prog 29 2 2 := FieldF.of Tryd.runUnderlying29 rfl rfl Tryd.sizeOf27
theorem V29_2 : ∀ (vs : Array Value) (v : Value) (w : World), vs[2]? = some v → (Instr.field 29 (.agg vs) 2).run Tryd.prog w = .ok v w := fun vs v w h => by simp [Instr.field, Tryd.runUnderlying29, part, Tryd.isAgg27, asAgg, h]
theorem F29_3 : FieldF Tryd.prog 29 3 3 := FieldF.of Tryd.runUnderlying29 rfl rfl Tryd.sizeOf27
theorem V29_3 : ∀ (vs : Array Value) (v : Value) (w : World), vs[3]? = some v → (Instr.field 29 (.agg vs) 3).run Tryd.prog w = .ok v w := fun vs v w h => by simp [Instr.field, Tryd.runUnderlying29, part, Tryd.isAgg27, asAgg, h]
theorem BF29 : BuildF Tryd.prog 29 [Go.Value.int Go.IntKind.u32 0, Go.Value.int Go.IntKind.u32 0, Go.Value.int Go.IntKind.u64 0, Go.Value.int Go.IntKind.u64 0] := ⟨Tryd.zeroValue29, by simp [Value.oneCell'], _, Tryd.runUnderlying29, fun w => by
  simp [Sem.run_bind, Result.andThen, Tryd.sizeOf26, Tryd.sizeOf27, List.range, List.range.loop]⟩
theorem A30 : AggF Tryd.prog 30 7 := ⟨Tryd.isAgg30, Tryd.sizeOf30⟩
theorem Z30 : ZeroF Tryd.prog 30 (Go.Value.agg #[Go.Value.int Go.IntKind.i64 0, Go.Value.int Go.IntKind.u32 0, Go.Value.int Go.IntKind.u32 0, Go.Value.int Go.IntKind.u64 0, Go.Value.int Go.IntKind.u64 0, Go.Value.int Go.IntKind.i64 0, Go.Value.int Go.IntKind.i64 0]) := Tryd.zeroValue30
theorem F30_0 : FieldF Tryd.prog 30 0 0 := FieldF.of Tryd.runUnderlying30 rfl rfl Tryd.sizeOf3
theorem V30_0 : ∀ (vs : Array Value) (v : Value) (w : World), vs[0]? = some v → (Instr.field 30 (.agg vs) 0).run Tryd.prog w = .ok v w := fun vs v w h => by simp [Instr.field, Tryd.runUnderlying30, part, Tryd.isAgg3, asAgg, h]
theorem F30_1 : FieldF Tryd.prog 30 1 1 := FieldF.of Tryd.runUnderlying30 rfl rfl Tryd.sizeOf29
theorem F30_2 : FieldF Tryd.prog 30 2 5 := FieldF.of Tryd.runUnderlying30 rfl rfl Tryd.sizeOf3
theorem V30_2 : ∀ (vs : Array Value) (v : Value) (w : World), vs[5]? = some v → (Instr.field 30 (.agg vs) 2).run Tryd.prog w = .ok v w := fun vs v w h => by simp [Instr.field, Tryd.runUnderlying30, part, Tryd.isAgg3, asAgg, h]
theorem F30_3 : FieldF Tryd.prog 30 3 6 := FieldF.of Tryd.runUnderlying30 rfl rfl Tryd.sizeOf2
theorem V30_3 : ∀ (vs : Array Value) (v : Value) (w : World), vs[6]? = some v → (Instr.field 30 (.agg vs) 3).run Tryd.prog w = .ok v w := fun vs v w h => by simp [Instr.field, Tryd.runUnderlying30, part, Tryd.isAgg2, asAgg, h]
theorem BG30 : BuildG Tryd.prog 30 [Go.Value.int Go.IntKind.i64 0, Go.Value.int Go.IntKind.u32 0, Go.Value.int Go.IntKind.u32 0, Go.Value.int Go.IntKind.u64 0, Go.Value.int Go.IntKind.u64 0, Go.Value.int Go.IntKind.i64 0, Go.Value.int Go.IntKind.i64 0] [(0, 1), (1, 4), (5, 1), (6, 1)] := ⟨Tryd.zeroValue30, _, Tryd.runUnderlying30, fun w => by
  simp [Sem.run_bind, Result.andThen, Tryd.sizeOf2, Tryd.sizeOf3, Tryd.sizeOf29]⟩
theorem A31 : AggF Tryd.prog 31 7 := ⟨Tryd.isAgg31, Tryd.sizeOf31⟩
theorem Z31 : ZeroF Tryd.prog 31 (Go.Value.agg #[Go.Value.int Go.IntKind.i64 0, Go.Value.int Go.IntKind.u32 0, Go.Value.int Go.IntKind.u32 0, Go.Value.int Go.IntKind.u64 0, Go.Value.int Go.IntKind.u64 0, Go.Value.int Go.IntKind.i64 0, Go.Value.int Go.IntKind.i64 0]) := Tryd.zeroValue31
theorem F31_0 : FieldF Tryd.prog 31 0 0 := FieldF.of Tryd.runUnderlying31 rfl rfl Tryd.sizeOf3
theorem V31_0 : ∀ (vs : Array Value) (v : Value) (w : World), vs[0]? = some v → (Instr.field 31 (.agg vs) 0).run Tryd.prog w = .ok v w := fun vs v w h => by simp [Instr.field, Tryd.runUnderlying31, part, Tryd.isAgg3, asAgg, h]
theorem F31_1 : FieldF Tryd.prog 31 1 1 := FieldF.of Tryd.runUnderlying31 rfl rfl Tryd.sizeOf29
theorem F31_2 : FieldF Tryd.prog 31 2 5 := FieldF.of Tryd.runUnderlying31 rfl rfl Tryd.sizeOf3
theorem V31_2 : ∀ (vs : Array Value) (v : Value) (w : World), vs[5]? = some v → (Instr.field 31 (.agg vs) 2).run Tryd.prog w = .ok v w := fun vs v w h => by simp [Instr.field, Tryd.runUnderlying31, part, Tryd.isAgg3, asAgg, h]
theorem F31_3 : FieldF Tryd.prog 31 3 6 := FieldF.of Tryd.runUnderlying31 rfl rfl Tryd.sizeOf2
theorem V31_3 : ∀ (vs : Array Value) (v : Value) (w : World), vs[6]? = some v → (Instr.field 31 (.agg vs) 3).run Tryd.prog w = .ok v w := fun vs v w h => by simp [Instr.field, Tryd.runUnderlying31, part, Tryd.isAgg2, asAgg, h]
theorem BG31 : BuildG Tryd.prog 31 [Go.Value.int Go.IntKind.i64 0, Go.Value.int Go.IntKind.u32 0, Go.Value.int Go.IntKind.u32 0, Go.Value.int Go.IntKind.u64 0, Go.Value.int Go.IntKind.u64 0, Go.Value.int Go.IntKind.i64 0, Go.Value.int Go.IntKind.i64 0] [(0, 1), (1, 4), (5, 1), (6, 1)] := ⟨Tryd.zeroValue31, _, Tryd.runUnderlying31, fun w => by
  simp [Sem.run_bind, Result.andThen, Tryd.sizeOf2, Tryd.sizeOf3, Tryd.sizeOf29]⟩
theorem O32 : OneF Tryd.prog 32 := ⟨Tryd.isAgg32, Tryd.sizeOf32⟩
theorem Z32 : ZeroF Tryd.prog 32 (Go.Value.nilFunc) := Tryd.zeroValue32
theorem O33 : OneF Tryd.prog 33 := ⟨Tryd.isAgg33, Tryd.sizeOf33⟩
theorem Z33 : ZeroF Tryd.prog 33 (Go.Value.nilFunc) := Tryd.zeroValue33
theorem O34 : OneF Tryd.prog 34 := ⟨Tryd.isAgg34, Tryd.sizeOf34⟩
theorem Z34 : ZeroF Tryd.prog 34 (Go.Value.nilFunc) := Tryd.zeroValue34
theorem O35 : OneF Tryd.prog 35 := ⟨Tryd.isAgg35, Tryd.sizeOf35⟩
theorem Z35 : ZeroF Tryd.prog 35 (Go.Value.int Go.IntKind.i64 0) := Tryd.zeroValue35
theorem O36 : OneF Tryd.prog 36 := ⟨Tryd.isAgg36, Tryd.sizeOf36⟩
theorem Z36 : ZeroF Tryd.prog 36 (Go.Value.tuple #[Go.Value.agg #[Go.Value.slice none 0 0, Go.Value.slice none 0 0], Go.Value.int Go.IntKind.i64 0]) := Tryd.zeroValue36
theorem O37 : OneF Tryd.prog 37 := ⟨Tryd.isAgg37, Tryd.sizeOf37⟩
theorem Z37 : ZeroF Tryd.prog 37 (Go.Value.nilFunc) := Tryd.zeroValue37
theorem O38 : OneF Tryd.prog 38 := ⟨Tryd.isAgg38, Tryd.sizeOf38⟩
theorem Z38 : ZeroF Tryd.prog 38 (Go.Value.nilFunc) := Tryd.zeroValue38
theorem A39 : AggF Tryd.prog 39 5 := ⟨Tryd.isAgg39, Tryd.sizeOf39⟩
theorem Z39 : ZeroF Tryd.prog 39 (Go.Value.agg #[Go.Value.int Go.IntKind.u32 0, Go.Value.int Go.IntKind.u64 0, Go.Value.int Go.IntKind.u64 0, Go.Value.int Go.IntKind.i64 0, Go.Value.int Go.IntKind.i64 0]) := Tryd.zeroValue39
theorem F39_0 : FieldF Tryd.prog 39 0 0 := FieldF.of Tryd.runUnderlying39 rfl rfl Tryd.sizeOf26
theorem V39_0 : ∀ (vs : Array Value) (v : Value) (w : World), vs[0]? = some v → (Instr.field 39 (.agg vs) 0).run Tryd.prog w = .ok v w := fun vs v w h => by simp [Instr.field, Tryd.runUnderlying39, part, Tryd.isAgg26, asAgg, h]
theorem F39_1 : FieldF Tryd.prog 39 1 1 := FieldF.of Tryd.runUnderlying39 rfl rfl Tryd.sizeOf27
theorem V39_1 : ∀ (vs : Array Value) (v : Value) (w : World), vs[1]? = some v → (Instr.field 39 (.agg vs) 1).run Tryd.prog w = .ok v w := fun vs v w h => by simp [Instr.field, Tryd.runUnderlying39, part, Tryd.isAgg27, asAgg, h]
theorem F39_2 : FieldF Tryd.prog 39 2 2 := FieldF.of Tryd.runUnderlying39 rfl rfl Tryd.sizeOf27
theorem V39_2 : ∀ (vs : Array Value) (v : Value) (w : World), vs[2]? = some v → (Instr.field 39 (.agg vs) 2).run Tryd.prog w = .ok v w := fun vs v w h => by simp [Instr.field, Tryd.runUnderlying39, part, Tryd.isAgg27, asAgg, h]
theorem F39_3 : FieldF Tryd.prog 39 3 3 := FieldF.of Tryd.runUnderlying39 rfl rfl Tryd.sizeOf3
theorem V39_3 : ∀ (vs : Array Value) (v : Value) (w : World), vs[3]? = some v → (Instr.field 39 (.agg vs) 3).run Tryd.prog w = .ok v w := fun vs v w h => by simp [Instr.field, Tryd.runUnderlying39, part, Tryd.isAgg3, asAgg, h]
theorem F39_4 : FieldF Tryd.prog 39 4 4 := FieldF.of Tryd.runUnderlying39 rfl rfl Tryd.sizeOf2
theorem V39_4 : ∀ (vs : Array Value) (v : Value) (w : World), vs[4]? = some v → (Instr.field 39 (.agg vs) 4).run Tryd.prog w = .ok v w := fun vs v w h => by simp [Instr.field, Tryd.runUnderlying39, part, Tryd.isAgg2, asAgg, h]
theorem BF39 : BuildF Tryd.prog 39 [Go.Value.int Go.IntKind.u32 0, Go.Value.int Go.IntKind.u64 0, Go.Value.int Go.IntKind.u64 0, Go.Value.int Go.IntKind.i64 0, Go.Value.int Go.IntKind.i64 0] := ⟨Tryd.zeroValue39, by simp [Value.oneCell'], _, Tryd.runUnderlying39, fun w => by
  simp [Sem.run_bind, Result.andThen, Tryd.sizeOf2, Tryd.sizeOf3, Tryd.sizeOf26, Tryd.sizeOf27, List.range, List.range.loop]⟩
theorem A40 : AggF Tryd.prog 40 5 := ⟨Tryd.isAgg40, Tryd.sizeOf40⟩
theorem Z40 : ZeroF Tryd.prog 40 (Go.Value.agg #[Go.Value.int Go.IntKind.u32 0, Go.Value.int Go.IntKind.u64 0, Go.Value.int Go.IntKind.u64 0, Go.Value.int Go.IntKind.i64 0, Go.Value.int Go.IntKind.i64 0]) := Tryd.zeroValue40
theorem F40_0 : FieldF Tryd.prog 40 0 0 := FieldF.of Tryd.runUnderlying40 rfl rfl Tryd.sizeOf26
theorem V40_0 : ∀ (vs : Array Value) (v : Value) (w : World), vs[0]? = some v → (Instr.field 40 (.agg vs) 0).run Tryd.prog w = .ok v w := fun vs v w h => by simp [Instr.field, Tryd.runUnderlying40, part, Tryd.isAgg26, asAgg, h]
theorem F40_1 : FieldF Tryd.prog 40 1 1 := FieldF.of Tryd.runUnderlying40 rfl rfl Tryd.sizeOf27
theorem V40_1 : ∀ (vs : Array Value) (v : Value) (w : World), vs[1]? = some v → (Instr.field 40 (.agg vs) 1).run Tryd.prog w = .ok v w := fun vs v w h => by simp [Instr.field, Tryd.runUnderlying40, part, Tryd.isAgg27, asAgg, h]
theorem F40_2 : FieldF Tryd.prog 40 2 2 := FieldF.of Tryd.runUnderlying40 rfl rfl Tryd.sizeOf27
theorem V40_2 : ∀ (vs : Array Value) (v : Value) (w : World), vs[2]? = some v → (Instr.field 40 (.agg vs) 2).run Tryd.prog w = .ok v w := fun vs v w h => by simp [Instr.field, Tryd.runUnderlying40, part, Tryd.isAgg27, asAgg, h]
theorem F40_3 : FieldF Tryd.prog 40 3 3 := FieldF.of Tryd.runUnderlying40 rfl rfl Tryd.sizeOf3
theorem V40_3 : ∀ (vs : Array Value) (v : Value) (w : World), vs[3]? = some v → (Instr.field 40 (.agg vs) 3).run Tryd.prog w = .ok v w := fun vs v w h => by simp [Instr.field, Tryd.runUnderlying40, part, Tryd.isAgg3, asAgg, h]
theorem F40_4 : FieldF Tryd.prog 40 4 4 := FieldF.of Tryd.runUnderlying40 rfl rfl Tryd.sizeOf2
theorem V40_4 : ∀ (vs : Array Value) (v : Value) (w : World), vs[4]? = some v → (Instr.field 40 (.agg vs) 4).run Tryd.prog w = .ok v w := fun vs v w h => by simp [Instr.field, Tryd.runUnderlying40, part, Tryd.isAgg2, asAgg, h]
theorem BF40 : BuildF Tryd.prog 40 [Go.Value.int Go.IntKind.u32 0, Go.Value.int Go.IntKind.u64 0, Go.Value.int Go.IntKind.u64 0, Go.Value.int Go.IntKind.i64 0, Go.Value.int Go.IntKind.i64 0] := ⟨Tryd.zeroValue40, by simp [Value.oneCell'], _, Tryd.runUnderlying40, fun w => by
  simp [Sem.run_bind, Result.andThen, Tryd.sizeOf2, Tryd.sizeOf3, Tryd.sizeOf26, Tryd.sizeOf27, List.range, List.range.loop]⟩
theorem QF40 (a0 b0 : Int) (a1 b1 : Int) (a2 b2 : Int) (a3 b3 : Int) (a4 b4 : Int) : ∀ w, (Op.eqFields 9999 #[.int .u32 a0, .int .u64 a1, .int .u64 a2, .int .i64 a3, .int .i64 a4] #[.int .u32 b0, .int .u64 b1, .int .u64 b2, .int .i64 b3, .int .i64 b4] (#[⟨ "Seat", 26, 0, false, "", "", 0⟩, ⟨ "Serial", 27, 1, false, "", "", 8⟩, ⟨ "Epoch", 27, 2, false, "", "", 16⟩, ⟨ "Gate", 3, 3, false, "", "", 24⟩, ⟨ "Time", 2, 4, false, "", "", 32⟩] : Array Field).toList).run Tryd.prog w = .ok ((((decide (a0 = b0) && decide (a1 = b1)) && decide (a2 = b2)) && decide (a3 = b3)) && decide (a4 = b4)) w := by
  intro w
  simp [Op.eqFields, part, byt_beq, run_equalIn_int (P := Tryd.prog) _ 9998 26 _ _ _ _ Tryd.underlying26, run_equalIn_int (P := Tryd.prog) _ 9998 27 _ _ _ _ Tryd.underlying27, run_equalIn_int (P := Tryd.prog) _ 9998 27 _ _ _ _ Tryd.underlying27, run_equalIn_int (P := Tryd.prog) _ 9998 3 _ _ _ _ Tryd.underlying3, run_equalIn_int (P := Tryd.prog) _ 9998 2 _ _ _ _ Tryd.underlying2, Tryd.isAgg2, Tryd.isAgg3, Tryd.isAgg26, Tryd.isAgg27]
  by_cases h0 : a0 = b0 <;> by_cases h1 : a1 = b1 <;> by_cases h2 : a2 = b2 <;> by_cases h3 : a3 = b3 <;> by_cases h4 : a4 = b4 <;> simp [*]
theorem EQ40 (x y : Operand) (a0 b0 : Int) (a1 b1 : Int) (a2 b2 : Int) (a3 b3 : Int) (a4 b4 : Int) : ∀ w, (do eqGuard .eql 40 x y (.agg #[.int .u32 a0, .int .u64 a1, .int .u64 a2, .int .i64 a3, .int .i64 a4]) (.agg #[.int .u32 b0, .int .u64 b1, .int .u64 b2, .int .i64 b3, .int .i64 b4]); binOp .eql 40 (.agg #[.int .u32 a0, .int .u64 a1, .int .u64 a2, .int .i64 a3, .int .i64 a4]) (.agg #[.int .u32 b0, .int .u64 b1, .int .u64 b2, .int .i64 b3, .int .i64 b4]) : Sem Value).run Tryd.prog w = .ok (.bool ((((decide (a0 = b0) && decide (a1 = b1)) && decide (a2 = b2)) && decide (a3 = b3)) && decide (a4 = b4))) w := run_eqS Tryd.underlying40 Tryd.stoodInHeld40 Tryd.eqGuardType40 (QF40 a0 b0 a1 b1 a2 b2 a3 b3 a4 b4) x y
theorem NE40 (x y : Operand) (a0 b0 : Int) (a1 b1 : Int) (a2 b2 : Int) (a3 b3 : Int) (a4 b4 : Int) : ∀ w, (do eqGuard .neq 40 x y (.agg #[.int .u32 a0, .int .u64 a1, .int .u64 a2, .int .i64 a3, .int .i64 a4]) (.agg #[.int .u32 b0, .int .u64 b1, .int .u64 b2, .int .i64 b3, .int .i64 b4]); binOp .neq 40 (.agg #[.int .u32 a0, .int .u64 a1, .int .u64 a2, .int .i64 a3, .int .i64 a4]) (.agg #[.int .u32 b0, .int .u64 b1, .int .u64 b2, .int .i64 b3, .int .i64 b4]) : Sem Value).run Tryd.prog w = .ok (.bool (!((((decide (a0 = b0) && decide (a1 = b1)) && decide (a2 = b2)) && decide (a3 = b3)) && decide (a4 = b4)))) w := run_neS Tryd.underlying40 Tryd.stoodInHeld40 Tryd.eqGuardType40 (QF40 a0 b0 a1 b1 a2 b2 a3 b3 a4 b4) x y
theorem O41 : OneF Tryd.prog 41 := ⟨Tryd.isAgg41, Tryd.sizeOf41⟩
theorem Z41 : ZeroF Tryd.prog 41 (Go.Value.tuple #[Go.Value.agg #[Go.Value.int Go.IntKind.u32 0, Go.Value.int Go.IntKind.u64 0, Go.Value.int Go.IntKind.u64 0, Go.Value.int Go.IntKind.i64 0, Go.Value.int Go.IntKind.i64 0], Go.Value.int Go.IntKind.i64 0]) := Tryd.zeroValue41
theorem O42 : OneF Tryd.prog 42 := ⟨Tryd.isAgg42, Tryd.sizeOf42⟩
theorem Z42 : ZeroF Tryd.prog 42 (Go.Value.nilFunc) := Tryd.zeroValue42
theorem O43 : OneF Tryd.prog 43 := ⟨Tryd.isAgg43, Tryd.sizeOf43⟩
theorem Z43 : ZeroF Tryd.prog 43 (Go.Value.tuple #[Go.Value.int Go.IntKind.i64 0, Go.Value.int Go.IntKind.i64 0]) := Tryd.zeroValue43
theorem O44 : OneF Tryd.prog 44 := ⟨Tryd.isAgg44, Tryd.sizeOf44⟩
theorem Z44 : ZeroF Tryd.prog 44 (Go.Value.nilFunc) := Tryd.zeroValue44
theorem O45 : OneF Tryd.prog 45 := ⟨Tryd.isAgg45, Tryd.sizeOf45⟩
theorem Z45 : ZeroF Tryd.prog 45 (Go.Value.nilFunc) := Tryd.zeroValue45
theorem O46 : OneF Tryd.prog 46 := ⟨Tryd.isAgg46, Tryd.sizeOf46⟩
theorem Z46 : ZeroF Tryd.prog 46 (Go.Value.nilFunc) := Tryd.zeroValue46
theorem O47 : OneF Tryd.prog 47 := ⟨Tryd.isAgg47, Tryd.sizeOf47⟩
theorem Z47 : ZeroF Tryd.prog 47 (Go.Value.nilFunc) := Tryd.zeroValue47
theorem O48 : OneF Tryd.prog 48 := ⟨Tryd.isAgg48, Tryd.sizeOf48⟩
theorem Z48 : ZeroF Tryd.prog 48 (Go.Value.nilFunc) := Tryd.zeroValue48
theorem O49 : OneF Tryd.prog 49 := ⟨Tryd.isAgg49, Tryd.sizeOf49⟩
theorem Z49 : ZeroF Tryd.prog 49 (Go.Value.nilFunc) := Tryd.zeroValue49
theorem O50 : OneF Tryd.prog 50 := ⟨Tryd.isAgg50, Tryd.sizeOf50⟩
theorem Z50 : ZeroF Tryd.prog 50 (Go.Value.slice none 0 0) := Tryd.zeroValue50
theorem I50 : IndexF Tryd.prog 50 7 := IndexF.of Tryd.runUnderlying50 Tryd.sizeOf31
theorem S50 : SliceT Tryd.prog 50 := ⟨_, Tryd.runUnderlying50⟩
theorem AP50 : AppF Tryd.prog 50 31 7 := ⟨Tryd.underlying50, by kernel_rfl⟩
theorem SF50 : SliceF Tryd.prog 50 7 := ⟨_, Tryd.runUnderlying50, Tryd.sizeOf31⟩
theorem O51 : OneF Tryd.prog 51 := ⟨Tryd.isAgg51, Tryd.sizeOf51⟩
theorem Z51 : ZeroF Tryd.prog 51 (Go.Value.slice none 0 0) := Tryd.zeroValue51
theorem I51 : IndexF Tryd.prog 51 1 := IndexF.of Tryd.runUnderlying51 Tryd.sizeOf35
theorem S51 : SliceT Tryd.prog 51 := ⟨_, Tryd.runUnderlying51⟩
theorem AP51 : AppF Tryd.prog 51 35 1 := ⟨Tryd.underlying51, by kernel_rfl⟩
theorem SF51 : SliceF Tryd.prog 51 1 := ⟨_, Tryd.runUnderlying51, Tryd.sizeOf35⟩
theorem O52 : OneF Tryd.prog 52 := ⟨Tryd.isAgg52, Tryd.sizeOf52⟩
theorem Z52 : ZeroF Tryd.prog 52 (Go.Value.tuple #[Go.Value.agg #[Go.Value.slice none 0 0, Go.Value.slice none 0 0], Go.Value.slice none 0 0, Go.Value.int Go.IntKind.i64 0]) := Tryd.zeroValue52
theorem O53 : OneF Tryd.prog 53 := ⟨Tryd.isAgg53, Tryd.sizeOf53⟩
theorem Z53 : ZeroF Tryd.prog 53 (Go.Value.nilFunc) := Tryd.zeroValue53
theorem O54 : OneF Tryd.prog 54 := ⟨Tryd.isAgg54, Tryd.sizeOf54⟩
theorem Z54 : ZeroF Tryd.prog 54 (Go.Value.nilFunc) := Tryd.zeroValue54
theorem O55 : OneF Tryd.prog 55 := ⟨Tryd.isAgg55, Tryd.sizeOf55⟩
theorem Z55 : ZeroF Tryd.prog 55 (Go.Value.nilFunc) := Tryd.zeroValue55
theorem O56 : OneF Tryd.prog 56 := ⟨Tryd.isAgg56, Tryd.sizeOf56⟩
theorem Z56 : ZeroF Tryd.prog 56 (Go.Value.nilFunc) := Tryd.zeroValue56
theorem O57 : OneF Tryd.prog 57 := ⟨Tryd.isAgg57, Tryd.sizeOf57⟩
theorem Z57 : ZeroF Tryd.prog 57 (Go.Value.slice none 0 0) := Tryd.zeroValue57
theorem I57 : IndexF Tryd.prog 57 1 := IndexF.of Tryd.runUnderlying57 Tryd.sizeOf3
theorem S57 : SliceT Tryd.prog 57 := ⟨_, Tryd.runUnderlying57⟩
theorem AP57 : AppF Tryd.prog 57 3 1 := ⟨Tryd.underlying57, by kernel_rfl⟩
theorem SF57 : SliceF Tryd.prog 57 1 := ⟨_, Tryd.runUnderlying57, Tryd.sizeOf3⟩
theorem A58 : AggF Tryd.prog 58 3 := ⟨Tryd.isAgg58, Tryd.sizeOf58⟩
theorem Z58 : ZeroF Tryd.prog 58 (Go.Value.agg #[Go.Value.slice none 0 0, Go.Value.int Go.IntKind.i64 0, Go.Value.int Go.IntKind.i64 0]) := Tryd.zeroValue58
theorem F58_0 : FieldF Tryd.prog 58 0 0 := FieldF.of Tryd.runUnderlying58 rfl rfl Tryd.sizeOf57
theorem V58_0 : ∀ (vs : Array Value) (v : Value) (w : World), vs[0]? = some v → (Instr.field 58 (.agg vs) 0).run Tryd.prog w = .ok v w := fun vs v w h => by simp [Instr.field, Tryd.runUnderlying58, part, Tryd.isAgg57, asAgg, h]
theorem F58_1 : FieldF Tryd.prog 58 1 1 := FieldF.of Tryd.runUnderlying58 rfl rfl Tryd.sizeOf2
theorem V58_1 : ∀ (vs : Array Value) (v : Value) (w : World), vs[1]? = some v → (Instr.field 58 (.agg vs) 1).run Tryd.prog w = .ok v w := fun vs v w h => by simp [Instr.field, Tryd.runUnderlying58, part, Tryd.isAgg2, asAgg, h]
theorem F58_2 : FieldF Tryd.prog 58 2 2 := FieldF.of Tryd.runUnderlying58 rfl rfl Tryd.sizeOf2
theorem V58_2 : ∀ (vs : Array Value) (v : Value) (w : World), vs[2]? = some v → (Instr.field 58 (.agg vs) 2).run Tryd.prog w = .ok v w := fun vs v w h => by simp [Instr.field, Tryd.runUnderlying58, part, Tryd.isAgg2, asAgg, h]
theorem BF58 : BuildF Tryd.prog 58 [Go.Value.slice none 0 0, Go.Value.int Go.IntKind.i64 0, Go.Value.int Go.IntKind.i64 0] := ⟨Tryd.zeroValue58, by simp [Value.oneCell'], _, Tryd.runUnderlying58, fun w => by
  simp [Sem.run_bind, Result.andThen, Tryd.sizeOf2, Tryd.sizeOf57, List.range, List.range.loop]⟩
theorem A59 : AggF Tryd.prog 59 3 := ⟨Tryd.isAgg59, Tryd.sizeOf59⟩
theorem Z59 : ZeroF Tryd.prog 59 (Go.Value.agg #[Go.Value.slice none 0 0, Go.Value.int Go.IntKind.i64 0, Go.Value.int Go.IntKind.i64 0]) := Tryd.zeroValue59
theorem F59_0 : FieldF Tryd.prog 59 0 0 := FieldF.of Tryd.runUnderlying59 rfl rfl Tryd.sizeOf57
theorem V59_0 : ∀ (vs : Array Value) (v : Value) (w : World), vs[0]? = some v → (Instr.field 59 (.agg vs) 0).run Tryd.prog w = .ok v w := fun vs v w h => by simp [Instr.field, Tryd.runUnderlying59, part, Tryd.isAgg57, asAgg, h]
theorem F59_1 : FieldF Tryd.prog 59 1 1 := FieldF.of Tryd.runUnderlying59 rfl rfl Tryd.sizeOf2
theorem V59_1 : ∀ (vs : Array Value) (v : Value) (w : World), vs[1]? = some v → (Instr.field 59 (.agg vs) 1).run Tryd.prog w = .ok v w := fun vs v w h => by simp [Instr.field, Tryd.runUnderlying59, part, Tryd.isAgg2, asAgg, h]
theorem F59_2 : FieldF Tryd.prog 59 2 2 := FieldF.of Tryd.runUnderlying59 rfl rfl Tryd.sizeOf2
theorem V59_2 : ∀ (vs : Array Value) (v : Value) (w : World), vs[2]? = some v → (Instr.field 59 (.agg vs) 2).run Tryd.prog w = .ok v w := fun vs v w h => by simp [Instr.field, Tryd.runUnderlying59, part, Tryd.isAgg2, asAgg, h]
theorem BF59 : BuildF Tryd.prog 59 [Go.Value.slice none 0 0, Go.Value.int Go.IntKind.i64 0, Go.Value.int Go.IntKind.i64 0] := ⟨Tryd.zeroValue59, by simp [Value.oneCell'], _, Tryd.runUnderlying59, fun w => by
  simp [Sem.run_bind, Result.andThen, Tryd.sizeOf2, Tryd.sizeOf57, List.range, List.range.loop]⟩
theorem O60 : OneF Tryd.prog 60 := ⟨Tryd.isAgg60, Tryd.sizeOf60⟩
theorem Z60 : ZeroF Tryd.prog 60 (Go.Value.tuple #[Go.Value.string (ByteArray.mk #[]), Go.Value.int Go.IntKind.i64 0]) := Tryd.zeroValue60
theorem O61 : OneF Tryd.prog 61 := ⟨Tryd.isAgg61, Tryd.sizeOf61⟩
theorem Z61 : ZeroF Tryd.prog 61 (Go.Value.nilFunc) := Tryd.zeroValue61
theorem O62 : OneF Tryd.prog 62 := ⟨Tryd.isAgg62, Tryd.sizeOf62⟩
theorem Z62 : ZeroF Tryd.prog 62 (Go.Value.pointer none) := Tryd.zeroValue62
theorem O63 : OneF Tryd.prog 63 := ⟨Tryd.isAgg63, Tryd.sizeOf63⟩
theorem Z63 : ZeroF Tryd.prog 63 (Go.Value.nilFunc) := Tryd.zeroValue63
theorem O64 : OneF Tryd.prog 64 := ⟨Tryd.isAgg64, Tryd.sizeOf64⟩
theorem Z64 : ZeroF Tryd.prog 64 (Go.Value.nilFunc) := Tryd.zeroValue64
theorem O65 : OneF Tryd.prog 65 := ⟨Tryd.isAgg65, Tryd.sizeOf65⟩
theorem Z65 : ZeroF Tryd.prog 65 (Go.Value.nilFunc) := Tryd.zeroValue65
theorem O66 : OneF Tryd.prog 66 := ⟨Tryd.isAgg66, Tryd.sizeOf66⟩
theorem Z66 : ZeroF Tryd.prog 66 (Go.Value.nilFunc) := Tryd.zeroValue66
theorem O67 : OneF Tryd.prog 67 := ⟨Tryd.isAgg67, Tryd.sizeOf67⟩
theorem Z67 : ZeroF Tryd.prog 67 (Go.Value.nilFunc) := Tryd.zeroValue67
theorem A68 : AggF Tryd.prog 68 3 := ⟨Tryd.isAgg68, Tryd.sizeOf68⟩
theorem Z68 : ZeroF Tryd.prog 68 (Go.Value.agg #[Go.Value.int Go.IntKind.u64 0, Go.Value.int Go.IntKind.u64 0, Go.Value.int Go.IntKind.u64 0]) := Tryd.zeroValue68
theorem I68 : IndexAF Tryd.prog 68 3 1 := IndexAF.of Tryd.runUnderlying68 Tryd.sizeOf27
theorem BX68 : BuildX Tryd.prog 68 (List.replicate 3 (Go.Value.int Go.IntKind.u64 0)) := ⟨Tryd.zeroValue68, 3, 27, Tryd.runUnderlying68, Tryd.sizeOf27⟩
theorem AR68 : ArrF Tryd.prog 68 3 := ⟨27, Tryd.runUnderlying68, Tryd.sizeOf27⟩
theorem A69 : AggF Tryd.prog 69 3 := ⟨Tryd.isAgg69, Tryd.sizeOf69⟩
theorem Z69 : ZeroF Tryd.prog 69 (Go.Value.agg #[Go.Value.int Go.IntKind.u64 0, Go.Value.int Go.IntKind.u64 0, Go.Value.int Go.IntKind.u64 0]) := Tryd.zeroValue69
theorem I69 : IndexAF Tryd.prog 69 3 1 := IndexAF.of Tryd.runUnderlying69 Tryd.sizeOf27
theorem BX69 : BuildX Tryd.prog 69 (List.replicate 3 (Go.Value.int Go.IntKind.u64 0)) := ⟨Tryd.zeroValue69, 3, 27, Tryd.runUnderlying69, Tryd.sizeOf27⟩
theorem AR69 : ArrF Tryd.prog 69 3 := ⟨27, Tryd.runUnderlying69, Tryd.sizeOf27⟩
theorem O70 : OneF Tryd.prog 70 := ⟨Tryd.isAgg70, Tryd.sizeOf70⟩
theorem Z70 : ZeroF Tryd.prog 70 (Go.Value.tuple #[Go.Value.int Go.IntKind.i64 0, Go.Value.bool false]) := Tryd.zeroValue70
theorem O71 : OneF Tryd.prog 71 := ⟨Tryd.isAgg71, Tryd.sizeOf71⟩
theorem Z71 : ZeroF Tryd.prog 71 (Go.Value.nilFunc) := Tryd.zeroValue71
theorem O72 : OneF Tryd.prog 72 := ⟨Tryd.isAgg72, Tryd.sizeOf72⟩
theorem Z72 : ZeroF Tryd.prog 72 (Go.Value.nilFunc) := Tryd.zeroValue72
theorem O73 : OneF Tryd.prog 73 := ⟨Tryd.isAgg73, Tryd.sizeOf73⟩
theorem Z73 : ZeroF Tryd.prog 73 (Go.Value.nilFunc) := Tryd.zeroValue73
theorem O74 : OneF Tryd.prog 74 := ⟨Tryd.isAgg74, Tryd.sizeOf74⟩
theorem Z74 : ZeroF Tryd.prog 74 (Go.Value.nilFunc) := Tryd.zeroValue74
theorem O75 : OneF Tryd.prog 75 := ⟨Tryd.isAgg75, Tryd.sizeOf75⟩
theorem Z75 : ZeroF Tryd.prog 75 (Go.Value.nilFunc) := Tryd.zeroValue75
theorem O76 : OneF Tryd.prog 76 := ⟨Tryd.isAgg76, Tryd.sizeOf76⟩
theorem Z76 : ZeroF Tryd.prog 76 (Go.Value.nilFunc) := Tryd.zeroValue76
theorem O77 : OneF Tryd.prog 77 := ⟨Tryd.isAgg77, Tryd.sizeOf77⟩
theorem Z77 : ZeroF Tryd.prog 77 (Go.Value.nilFunc) := Tryd.zeroValue77
theorem O78 : OneF Tryd.prog 78 := ⟨Tryd.isAgg78, Tryd.sizeOf78⟩
theorem Z78 : ZeroF Tryd.prog 78 (Go.Value.pointer none) := Tryd.zeroValue78
theorem O79 : OneF Tryd.prog 79 := ⟨Tryd.isAgg79, Tryd.sizeOf79⟩
theorem Z79 : ZeroF Tryd.prog 79 (Go.Value.slice none 0 0) := Tryd.zeroValue79
theorem I79 : IndexF Tryd.prog 79 1 := IndexF.of Tryd.runUnderlying79 Tryd.sizeOf5
theorem S79 : SliceT Tryd.prog 79 := ⟨_, Tryd.runUnderlying79⟩
theorem AP79 : AppF Tryd.prog 79 5 1 := ⟨Tryd.underlying79, by kernel_rfl⟩
theorem SF79 : SliceF Tryd.prog 79 1 := ⟨_, Tryd.runUnderlying79, Tryd.sizeOf5⟩
theorem A80 : AggF Tryd.prog 80 2 := ⟨Tryd.isAgg80, Tryd.sizeOf80⟩
theorem Z80 : ZeroF Tryd.prog 80 (Go.Value.agg #[Go.Value.pointer none, Go.Value.slice none 0 0]) := Tryd.zeroValue80
theorem F80_0 : FieldF Tryd.prog 80 0 0 := FieldF.of Tryd.runUnderlying80 rfl rfl Tryd.sizeOf78
theorem V80_0 : ∀ (vs : Array Value) (v : Value) (w : World), vs[0]? = some v → (Instr.field 80 (.agg vs) 0).run Tryd.prog w = .ok v w := fun vs v w h => by simp [Instr.field, Tryd.runUnderlying80, part, Tryd.isAgg78, asAgg, h]
theorem F80_1 : FieldF Tryd.prog 80 1 1 := FieldF.of Tryd.runUnderlying80 rfl rfl Tryd.sizeOf79
theorem V80_1 : ∀ (vs : Array Value) (v : Value) (w : World), vs[1]? = some v → (Instr.field 80 (.agg vs) 1).run Tryd.prog w = .ok v w := fun vs v w h => by simp [Instr.field, Tryd.runUnderlying80, part, Tryd.isAgg79, asAgg, h]
theorem BF80 : BuildF Tryd.prog 80 [Go.Value.pointer none, Go.Value.slice none 0 0] := ⟨Tryd.zeroValue80, by simp [Value.oneCell'], _, Tryd.runUnderlying80, fun w => by
  simp [Sem.run_bind, Result.andThen, Tryd.sizeOf78, Tryd.sizeOf79, List.range, List.range.loop]⟩
theorem A81 : AggF Tryd.prog 81 2 := ⟨Tryd.isAgg81, Tryd.sizeOf81⟩
theorem Z81 : ZeroF Tryd.prog 81 (Go.Value.agg #[Go.Value.pointer none, Go.Value.slice none 0 0]) := Tryd.zeroValue81
theorem F81_0 : FieldF Tryd.prog 81 0 0 := FieldF.of Tryd.runUnderlying81 rfl rfl Tryd.sizeOf78
theorem V81_0 : ∀ (vs : Array Value) (v : Value) (w : World), vs[0]? = some v → (Instr.field 81 (.agg vs) 0).run Tryd.prog w = .ok v w := fun vs v w h => by simp [Instr.field, Tryd.runUnderlying81, part, Tryd.isAgg78, asAgg, h]
theorem F81_1 : FieldF Tryd.prog 81 1 1 := FieldF.of Tryd.runUnderlying81 rfl rfl Tryd.sizeOf79
theorem V81_1 : ∀ (vs : Array Value) (v : Value) (w : World), vs[1]? = some v → (Instr.field 81 (.agg vs) 1).run Tryd.prog w = .ok v w := fun vs v w h => by simp [Instr.field, Tryd.runUnderlying81, part, Tryd.isAgg79, asAgg, h]
theorem BF81 : BuildF Tryd.prog 81 [Go.Value.pointer none, Go.Value.slice none 0 0] := ⟨Tryd.zeroValue81, by simp [Value.oneCell'], _, Tryd.runUnderlying81, fun w => by
  simp [Sem.run_bind, Result.andThen, Tryd.sizeOf78, Tryd.sizeOf79, List.range, List.range.loop]⟩
theorem O82 : OneF Tryd.prog 82 := ⟨Tryd.isAgg82, Tryd.sizeOf82⟩
theorem Z82 : ZeroF Tryd.prog 82 (Go.Value.nilFunc) := Tryd.zeroValue82
theorem O83 : OneF Tryd.prog 83 := ⟨Tryd.isAgg83, Tryd.sizeOf83⟩
theorem Z83 : ZeroF Tryd.prog 83 (Go.Value.nilIface) := Tryd.zeroValue83
theorem O84 : OneF Tryd.prog 84 := ⟨Tryd.isAgg84, Tryd.sizeOf84⟩
theorem Z84 : ZeroF Tryd.prog 84 (Go.Value.nilIface) := Tryd.zeroValue84
theorem O85 : OneF Tryd.prog 85 := ⟨Tryd.isAgg85, Tryd.sizeOf85⟩
theorem Z85 : ZeroF Tryd.prog 85 (Go.Value.tuple #[Go.Value.int Go.IntKind.i64 0, Go.Value.nilIface]) := Tryd.zeroValue85
theorem O86 : OneF Tryd.prog 86 := ⟨Tryd.isAgg86, Tryd.sizeOf86⟩
theorem Z86 : ZeroF Tryd.prog 86 (Go.Value.nilFunc) := Tryd.zeroValue86
theorem O87 : OneF Tryd.prog 87 := ⟨Tryd.isAgg87, Tryd.sizeOf87⟩
theorem Z87 : ZeroF Tryd.prog 87 (Go.Value.nilFunc) := Tryd.zeroValue87
theorem O88 : OneF Tryd.prog 88 := ⟨Tryd.isAgg88, Tryd.sizeOf88⟩
theorem Z88 : ZeroF Tryd.prog 88 (Go.Value.slice none 0 0) := Tryd.zeroValue88
theorem I88 : IndexF Tryd.prog 88 1 := IndexF.of Tryd.runUnderlying88 Tryd.sizeOf27
theorem S88 : SliceT Tryd.prog 88 := ⟨_, Tryd.runUnderlying88⟩
theorem AP88 : AppF Tryd.prog 88 27 1 := ⟨Tryd.underlying88, by kernel_rfl⟩
theorem SF88 : SliceF Tryd.prog 88 1 := ⟨_, Tryd.runUnderlying88, Tryd.sizeOf27⟩
theorem O89 : OneF Tryd.prog 89 := ⟨Tryd.isAgg89, Tryd.sizeOf89⟩
theorem Z89 : ZeroF Tryd.prog 89 (Go.Value.nilFunc) := Tryd.zeroValue89
theorem O90 : OneF Tryd.prog 90 := ⟨Tryd.isAgg90, Tryd.sizeOf90⟩
theorem Z90 : ZeroF Tryd.prog 90 (Go.Value.nilFunc) := Tryd.zeroValue90
theorem O91 : OneF Tryd.prog 91 := ⟨Tryd.isAgg91, Tryd.sizeOf91⟩
theorem Z91 : ZeroF Tryd.prog 91 (Go.Value.map none) := Tryd.zeroValue91
theorem A92 : AggF Tryd.prog 92 3 := ⟨Tryd.isAgg92, Tryd.sizeOf92⟩
theorem Z92 : ZeroF Tryd.prog 92 (Go.Value.agg #[Go.Value.slice none 0 0, Go.Value.slice none 0 0, Go.Value.map none]) := Tryd.zeroValue92
theorem F92_0 : FieldF Tryd.prog 92 0 0 := FieldF.of Tryd.runUnderlying92 rfl rfl Tryd.sizeOf25
theorem F92_1 : FieldF Tryd.prog 92 1 2 := FieldF.of Tryd.runUnderlying92 rfl rfl Tryd.sizeOf91
theorem V92_1 : ∀ (vs : Array Value) (v : Value) (w : World), vs[2]? = some v → (Instr.field 92 (.agg vs) 1).run Tryd.prog w = .ok v w := fun vs v w h => by simp [Instr.field, Tryd.runUnderlying92, part, Tryd.isAgg91, asAgg, h]
theorem BG92 : BuildG Tryd.prog 92 [Go.Value.slice none 0 0, Go.Value.slice none 0 0, Go.Value.map none] [(0, 2), (2, 1)] := ⟨Tryd.zeroValue92, _, Tryd.runUnderlying92, fun w => by
  simp [Sem.run_bind, Result.andThen, Tryd.sizeOf25, Tryd.sizeOf91]⟩
theorem A93 : AggF Tryd.prog 93 3 := ⟨Tryd.isAgg93, Tryd.sizeOf93⟩
theorem Z93 : ZeroF Tryd.prog 93 (Go.Value.agg #[Go.Value.slice none 0 0, Go.Value.slice none 0 0, Go.Value.map none]) := Tryd.zeroValue93
theorem F93_0 : FieldF Tryd.prog 93 0 0 := FieldF.of Tryd.runUnderlying93 rfl rfl Tryd.sizeOf25
theorem F93_1 : FieldF Tryd.prog 93 1 2 := FieldF.of Tryd.runUnderlying93 rfl rfl Tryd.sizeOf91
theorem V93_1 : ∀ (vs : Array Value) (v : Value) (w : World), vs[2]? = some v → (Instr.field 93 (.agg vs) 1).run Tryd.prog w = .ok v w := fun vs v w h => by simp [Instr.field, Tryd.runUnderlying93, part, Tryd.isAgg91, asAgg, h]
theorem BG93 : BuildG Tryd.prog 93 [Go.Value.slice none 0 0, Go.Value.slice none 0 0, Go.Value.map none] [(0, 2), (2, 1)] := ⟨Tryd.zeroValue93, _, Tryd.runUnderlying93, fun w => by
  simp [Sem.run_bind, Result.andThen, Tryd.sizeOf25, Tryd.sizeOf91]⟩
theorem A94 : AggF Tryd.prog 94 2 := ⟨Tryd.isAgg94, Tryd.sizeOf94⟩
theorem Z94 : ZeroF Tryd.prog 94 (Go.Value.agg #[Go.Value.int Go.IntKind.i64 0, Go.Value.nilFunc]) := Tryd.zeroValue94
theorem F94_0 : FieldF Tryd.prog 94 0 0 := FieldF.of Tryd.runUnderlying94 rfl rfl Tryd.sizeOf35
theorem V94_0 : ∀ (vs : Array Value) (v : Value) (w : World), vs[0]? = some v → (Instr.field 94 (.agg vs) 0).run Tryd.prog w = .ok v w := fun vs v w h => by simp [Instr.field, Tryd.runUnderlying94, part, Tryd.isAgg35, asAgg, h]
theorem F94_1 : FieldF Tryd.prog 94 1 1 := FieldF.of Tryd.runUnderlying94 rfl rfl Tryd.sizeOf33
theorem V94_1 : ∀ (vs : Array Value) (v : Value) (w : World), vs[1]? = some v → (Instr.field 94 (.agg vs) 1).run Tryd.prog w = .ok v w := fun vs v w h => by simp [Instr.field, Tryd.runUnderlying94, part, Tryd.isAgg33, asAgg, h]
theorem BF94 : BuildF Tryd.prog 94 [Go.Value.int Go.IntKind.i64 0, Go.Value.nilFunc] := ⟨Tryd.zeroValue94, by simp [Value.oneCell'], _, Tryd.runUnderlying94, fun w => by
  simp [Sem.run_bind, Result.andThen, Tryd.sizeOf33, Tryd.sizeOf35, List.range, List.range.loop]⟩
theorem O95 : OneF Tryd.prog 95 := ⟨Tryd.isAgg95, Tryd.sizeOf95⟩
theorem Z95 : ZeroF Tryd.prog 95 (Go.Value.slice none 0 0) := Tryd.zeroValue95
theorem I95 : IndexF Tryd.prog 95 2 := IndexF.of Tryd.runUnderlying95 Tryd.sizeOf94
theorem S95 : SliceT Tryd.prog 95 := ⟨_, Tryd.runUnderlying95⟩
theorem AP95 : AppF Tryd.prog 95 94 2 := ⟨Tryd.underlying95, by kernel_rfl⟩
theorem SF95 : SliceF Tryd.prog 95 2 := ⟨_, Tryd.runUnderlying95, Tryd.sizeOf94⟩
theorem O96 : OneF Tryd.prog 96 := ⟨Tryd.isAgg96, Tryd.sizeOf96⟩
theorem Z96 : ZeroF Tryd.prog 96 (Go.Value.nilFunc) := Tryd.zeroValue96
theorem O97 : OneF Tryd.prog 97 := ⟨Tryd.isAgg97, Tryd.sizeOf97⟩
theorem Z97 : ZeroF Tryd.prog 97 (Go.Value.nilFunc) := Tryd.zeroValue97
theorem O98 : OneF Tryd.prog 98 := ⟨Tryd.isAgg98, Tryd.sizeOf98⟩
theorem Z98 : ZeroF Tryd.prog 98 (Go.Value.int Go.IntKind.u64 0) := Tryd.zeroValue98
theorem O99 : OneF Tryd.prog 99 := ⟨Tryd.isAgg99, Tryd.sizeOf99⟩
theorem Z99 : ZeroF Tryd.prog 99 (Go.Value.nilFunc) := Tryd.zeroValue99
theorem O100 : OneF Tryd.prog 100 := ⟨Tryd.isAgg100, Tryd.sizeOf100⟩
theorem Z100 : ZeroF Tryd.prog 100 (Go.Value.nilFunc) := Tryd.zeroValue100
theorem O101 : OneF Tryd.prog 101 := ⟨Tryd.isAgg101, Tryd.sizeOf101⟩
theorem Z101 : ZeroF Tryd.prog 101 (Go.Value.nilFunc) := Tryd.zeroValue101
theorem O102 : OneF Tryd.prog 102 := ⟨Tryd.isAgg102, Tryd.sizeOf102⟩
theorem Z102 : ZeroF Tryd.prog 102 (Go.Value.nilFunc) := Tryd.zeroValue102
theorem O103 : OneF Tryd.prog 103 := ⟨Tryd.isAgg103, Tryd.sizeOf103⟩
theorem Z103 : ZeroF Tryd.prog 103 (Go.Value.nilFunc) := Tryd.zeroValue103
theorem O104 : OneF Tryd.prog 104 := ⟨Tryd.isAgg104, Tryd.sizeOf104⟩
theorem Z104 : ZeroF Tryd.prog 104 (Go.Value.nilFunc) := Tryd.zeroValue104
theorem O105 : OneF Tryd.prog 105 := ⟨Tryd.isAgg105, Tryd.sizeOf105⟩
theorem Z105 : ZeroF Tryd.prog 105 (Go.Value.nilFunc) := Tryd.zeroValue105
theorem O106 : OneF Tryd.prog 106 := ⟨Tryd.isAgg106, Tryd.sizeOf106⟩
theorem Z106 : ZeroF Tryd.prog 106 (Go.Value.nilFunc) := Tryd.zeroValue106
theorem O107 : OneF Tryd.prog 107 := ⟨Tryd.isAgg107, Tryd.sizeOf107⟩
theorem Z107 : ZeroF Tryd.prog 107 (Go.Value.nilFunc) := Tryd.zeroValue107
theorem O108 : OneF Tryd.prog 108 := ⟨Tryd.isAgg108, Tryd.sizeOf108⟩
theorem Z108 : ZeroF Tryd.prog 108 (Go.Value.nilFunc) := Tryd.zeroValue108
theorem O109 : OneF Tryd.prog 109 := ⟨Tryd.isAgg109, Tryd.sizeOf109⟩
theorem Z109 : ZeroF Tryd.prog 109 (Go.Value.pointer none) := Tryd.zeroValue109
theorem O110 : OneF Tryd.prog 110 := ⟨Tryd.isAgg110, Tryd.sizeOf110⟩
theorem Z110 : ZeroF Tryd.prog 110 (Go.Value.nilFunc) := Tryd.zeroValue110
theorem O111 : OneF Tryd.prog 111 := ⟨Tryd.isAgg111, Tryd.sizeOf111⟩
theorem Z111 : ZeroF Tryd.prog 111 (Go.Value.nilFunc) := Tryd.zeroValue111
theorem O112 : OneF Tryd.prog 112 := ⟨Tryd.isAgg112, Tryd.sizeOf112⟩
theorem Z112 : ZeroF Tryd.prog 112 (Go.Value.nilFunc) := Tryd.zeroValue112
theorem O113 : OneF Tryd.prog 113 := ⟨Tryd.isAgg113, Tryd.sizeOf113⟩
theorem Z113 : ZeroF Tryd.prog 113 (Go.Value.nilFunc) := Tryd.zeroValue113
theorem O114 : OneF Tryd.prog 114 := ⟨Tryd.isAgg114, Tryd.sizeOf114⟩
theorem Z114 : ZeroF Tryd.prog 114 (Go.Value.nilFunc) := Tryd.zeroValue114
theorem O115 : OneF Tryd.prog 115 := ⟨Tryd.isAgg115, Tryd.sizeOf115⟩
theorem Z115 : ZeroF Tryd.prog 115 (Go.Value.pointer none) := Tryd.zeroValue115
theorem O116 : OneF Tryd.prog 116 := ⟨Tryd.isAgg116, Tryd.sizeOf116⟩
theorem Z116 : ZeroF Tryd.prog 116 (Go.Value.nilFunc) := Tryd.zeroValue116
theorem A117 : AggF Tryd.prog 117 24 := ⟨Tryd.isAgg117, Tryd.sizeOf117⟩
theorem Z117 : ZeroF Tryd.prog 117 (Go.Value.agg #[Go.Value.int Go.IntKind.u8 0, Go.Value.int Go.IntKind.u8 0, Go.Value.int Go.IntKind.u8 0, Go.Value.int Go.IntKind.u8 0, Go.Value.int Go.IntKind.u8 0, Go.Value.int Go.IntKind.u8 0, Go.Value.int Go.IntKind.u8 0, Go.Value.int Go.IntKind.u8 0, Go.Value.int Go.IntKind.u8 0, Go.Value.int Go.IntKind.u8 0, Go.Value.int Go.IntKind.u8 0, Go.Value.int Go.IntKind.u8 0, Go.Value.int Go.IntKind.u8 0, Go.Value.int Go.IntKind.u8 0, Go.Value.int Go.IntKind.u8 0, Go.Value.int Go.IntKind.u8 0, Go.Value.int Go.IntKind.u8 0, Go.Value.int Go.IntKind.u8 0, Go.Value.int Go.IntKind.u8 0, Go.Value.int Go.IntKind.u8 0, Go.Value.int Go.IntKind.u8 0, Go.Value.int Go.IntKind.u8 0, Go.Value.int Go.IntKind.u8 0, Go.Value.int Go.IntKind.u8 0]) := Tryd.zeroValue117
theorem I117 : IndexAF Tryd.prog 117 24 1 := IndexAF.of Tryd.runUnderlying117 Tryd.sizeOf5
theorem BX117 : BuildX Tryd.prog 117 (List.replicate 24 (Go.Value.int Go.IntKind.u8 0)) := ⟨Tryd.zeroValue117, 24, 5, Tryd.runUnderlying117, Tryd.sizeOf5⟩
theorem AR117 : ArrF Tryd.prog 117 24 := ⟨5, Tryd.runUnderlying117, Tryd.sizeOf5⟩
theorem O118 : OneF Tryd.prog 118 := ⟨Tryd.isAgg118, Tryd.sizeOf118⟩
theorem Z118 : ZeroF Tryd.prog 118 (Go.Value.nilFunc) := Tryd.zeroValue118
theorem O119 : OneF Tryd.prog 119 := ⟨Tryd.isAgg119, Tryd.sizeOf119⟩
theorem Z119 : ZeroF Tryd.prog 119 (Go.Value.nilFunc) := Tryd.zeroValue119
theorem O120 : OneF Tryd.prog 120 := ⟨Tryd.isAgg120, Tryd.sizeOf120⟩
theorem Z120 : ZeroF Tryd.prog 120 (Go.Value.tuple #[Go.Value.slice none 0 0, Go.Value.string (ByteArray.mk #[])]) := Tryd.zeroValue120
theorem O121 : OneF Tryd.prog 121 := ⟨Tryd.isAgg121, Tryd.sizeOf121⟩
theorem Z121 : ZeroF Tryd.prog 121 (Go.Value.nilFunc) := Tryd.zeroValue121
theorem O122 : OneF Tryd.prog 122 := ⟨Tryd.isAgg122, Tryd.sizeOf122⟩
theorem Z122 : ZeroF Tryd.prog 122 (Go.Value.nilFunc) := Tryd.zeroValue122
theorem O123 : OneF Tryd.prog 123 := ⟨Tryd.isAgg123, Tryd.sizeOf123⟩
theorem Z123 : ZeroF Tryd.prog 123 (Go.Value.int Go.IntKind.i64 0) := Tryd.zeroValue123
theorem O124 : OneF Tryd.prog 124 := ⟨Tryd.isAgg124, Tryd.sizeOf124⟩
theorem Z124 : ZeroF Tryd.prog 124 (Go.Value.tuple #[Go.Value.int Go.IntKind.i64 0, Go.Value.int Go.IntKind.i64 0]) := Tryd.zeroValue124
theorem O125 : OneF Tryd.prog 125 := ⟨Tryd.isAgg125, Tryd.sizeOf125⟩
theorem Z125 : ZeroF Tryd.prog 125 (Go.Value.nilFunc) := Tryd.zeroValue125
theorem O126 : OneF Tryd.prog 126 := ⟨Tryd.isAgg126, Tryd.sizeOf126⟩
theorem Z126 : ZeroF Tryd.prog 126 (Go.Value.nilFunc) := Tryd.zeroValue126
theorem O127 : OneF Tryd.prog 127 := ⟨Tryd.isAgg127, Tryd.sizeOf127⟩
theorem Z127 : ZeroF Tryd.prog 127 (Go.Value.nilFunc) := Tryd.zeroValue127
theorem O128 : OneF Tryd.prog 128 := ⟨Tryd.isAgg128, Tryd.sizeOf128⟩
theorem Z128 : ZeroF Tryd.prog 128 (Go.Value.nilFunc) := Tryd.zeroValue128
theorem O129 : OneF Tryd.prog 129 := ⟨Tryd.isAgg129, Tryd.sizeOf129⟩
theorem Z129 : ZeroF Tryd.prog 129 (Go.Value.nilFunc) := Tryd.zeroValue129
theorem O130 : OneF Tryd.prog 130 := ⟨Tryd.isAgg130, Tryd.sizeOf130⟩
theorem Z130 : ZeroF Tryd.prog 130 (Go.Value.nilFunc) := Tryd.zeroValue130
theorem O131 : OneF Tryd.prog 131 := ⟨Tryd.isAgg131, Tryd.sizeOf131⟩
theorem Z131 : ZeroF Tryd.prog 131 (Go.Value.nilFunc) := Tryd.zeroValue131
theorem O132 : OneF Tryd.prog 132 := ⟨Tryd.isAgg132, Tryd.sizeOf132⟩
theorem Z132 : ZeroF Tryd.prog 132 (Go.Value.nilFunc) := Tryd.zeroValue132
theorem A133 : AggF Tryd.prog 133 20 := ⟨Tryd.isAgg133, Tryd.sizeOf133⟩
theorem Z133 : ZeroF Tryd.prog 133 (Go.Value.agg #[Go.Value.int Go.IntKind.u64 0, Go.Value.int Go.IntKind.u64 0, Go.Value.int Go.IntKind.u64 0, Go.Value.int Go.IntKind.u64 0, Go.Value.int Go.IntKind.u64 0, Go.Value.int Go.IntKind.u64 0, Go.Value.int Go.IntKind.u64 0, Go.Value.int Go.IntKind.u64 0, Go.Value.int Go.IntKind.u64 0, Go.Value.int Go.IntKind.u64 0, Go.Value.int Go.IntKind.u64 0, Go.Value.int Go.IntKind.u64 0, Go.Value.int Go.IntKind.u64 0, Go.Value.int Go.IntKind.u64 0, Go.Value.int Go.IntKind.u64 0, Go.Value.int Go.IntKind.u64 0, Go.Value.int Go.IntKind.u64 0, Go.Value.int Go.IntKind.u64 0, Go.Value.int Go.IntKind.u64 0, Go.Value.int Go.IntKind.u64 0]) := Tryd.zeroValue133
theorem I133 : IndexAF Tryd.prog 133 20 1 := IndexAF.of Tryd.runUnderlying133 Tryd.sizeOf27
theorem BX133 : BuildX Tryd.prog 133 (List.replicate 20 (Go.Value.int Go.IntKind.u64 0)) := ⟨Tryd.zeroValue133, 20, 27, Tryd.runUnderlying133, Tryd.sizeOf27⟩
theorem AR133 : ArrF Tryd.prog 133 20 := ⟨27, Tryd.runUnderlying133, Tryd.sizeOf27⟩
theorem A134 : AggF Tryd.prog 134 65 := ⟨Tryd.isAgg134, Tryd.sizeOf134⟩
theorem Z134 : ZeroF Tryd.prog 134 (Go.Value.agg Go.Proofs.Tryd.zeroCells134) := Tryd.zeroValue134
theorem I134 : IndexAF Tryd.prog 134 65 1 := IndexAF.of Tryd.runUnderlying134 Tryd.sizeOf5
theorem AR134 : ArrF Tryd.prog 134 65 := ⟨5, Tryd.runUnderlying134, Tryd.sizeOf5⟩
theorem O135 : OneF Tryd.prog 135 := ⟨Tryd.isAgg135, Tryd.sizeOf135⟩
theorem Z135 : ZeroF Tryd.prog 135 (Go.Value.nilFunc) := Tryd.zeroValue135
theorem O136 : OneF Tryd.prog 136 := ⟨Tryd.isAgg136, Tryd.sizeOf136⟩
theorem Z136 : ZeroF Tryd.prog 136 (Go.Value.int Go.IntKind.u64 0) := Tryd.zeroValue136
theorem O137 : OneF Tryd.prog 137 := ⟨Tryd.isAgg137, Tryd.sizeOf137⟩
theorem Z137 : ZeroF Tryd.prog 137 (Go.Value.nilFunc) := Tryd.zeroValue137
theorem O138 : OneF Tryd.prog 138 := ⟨Tryd.isAgg138, Tryd.sizeOf138⟩
theorem Z138 : ZeroF Tryd.prog 138 (Go.Value.nilFunc) := Tryd.zeroValue138
theorem O139 : OneF Tryd.prog 139 := ⟨Tryd.isAgg139, Tryd.sizeOf139⟩
theorem Z139 : ZeroF Tryd.prog 139 (Go.Value.nilFunc) := Tryd.zeroValue139
theorem O140 : OneF Tryd.prog 140 := ⟨Tryd.isAgg140, Tryd.sizeOf140⟩
theorem Z140 : ZeroF Tryd.prog 140 (Go.Value.pointer none) := Tryd.zeroValue140
theorem O141 : OneF Tryd.prog 141 := ⟨Tryd.isAgg141, Tryd.sizeOf141⟩
theorem Z141 : ZeroF Tryd.prog 141 (Go.Value.nilFunc) := Tryd.zeroValue141
theorem O142 : OneF Tryd.prog 142 := ⟨Tryd.isAgg142, Tryd.sizeOf142⟩
theorem Z142 : ZeroF Tryd.prog 142 (Go.Value.pointer none) := Tryd.zeroValue142
theorem O143 : OneF Tryd.prog 143 := ⟨Tryd.isAgg143, Tryd.sizeOf143⟩
theorem Z143 : ZeroF Tryd.prog 143 (Go.Value.tuple #[Go.Value.int Go.IntKind.i64 0, Go.Value.int Go.IntKind.i64 0]) := Tryd.zeroValue143
theorem O144 : OneF Tryd.prog 144 := ⟨Tryd.isAgg144, Tryd.sizeOf144⟩
theorem Z144 : ZeroF Tryd.prog 144 (Go.Value.nilFunc) := Tryd.zeroValue144
theorem A145 : AggF Tryd.prog 145 32 := ⟨Tryd.isAgg145, Tryd.sizeOf145⟩
theorem Z145 : ZeroF Tryd.prog 145 (Go.Value.agg #[Go.Value.int Go.IntKind.u8 0, Go.Value.int Go.IntKind.u8 0, Go.Value.int Go.IntKind.u8 0, Go.Value.int Go.IntKind.u8 0, Go.Value.int Go.IntKind.u8 0, Go.Value.int Go.IntKind.u8 0, Go.Value.int Go.IntKind.u8 0, Go.Value.int Go.IntKind.u8 0, Go.Value.int Go.IntKind.u8 0, Go.Value.int Go.IntKind.u8 0, Go.Value.int Go.IntKind.u8 0, Go.Value.int Go.IntKind.u8 0, Go.Value.int Go.IntKind.u8 0, Go.Value.int Go.IntKind.u8 0, Go.Value.int Go.IntKind.u8 0, Go.Value.int Go.IntKind.u8 0, Go.Value.int Go.IntKind.u8 0, Go.Value.int Go.IntKind.u8 0, Go.Value.int Go.IntKind.u8 0, Go.Value.int Go.IntKind.u8 0, Go.Value.int Go.IntKind.u8 0, Go.Value.int Go.IntKind.u8 0, Go.Value.int Go.IntKind.u8 0, Go.Value.int Go.IntKind.u8 0, Go.Value.int Go.IntKind.u8 0, Go.Value.int Go.IntKind.u8 0, Go.Value.int Go.IntKind.u8 0, Go.Value.int Go.IntKind.u8 0, Go.Value.int Go.IntKind.u8 0, Go.Value.int Go.IntKind.u8 0, Go.Value.int Go.IntKind.u8 0, Go.Value.int Go.IntKind.u8 0]) := Tryd.zeroValue145
theorem I145 : IndexAF Tryd.prog 145 32 1 := IndexAF.of Tryd.runUnderlying145 Tryd.sizeOf5
theorem BX145 : BuildX Tryd.prog 145 (List.replicate 32 (Go.Value.int Go.IntKind.u8 0)) := ⟨Tryd.zeroValue145, 32, 5, Tryd.runUnderlying145, Tryd.sizeOf5⟩
theorem AR145 : ArrF Tryd.prog 145 32 := ⟨5, Tryd.runUnderlying145, Tryd.sizeOf5⟩
theorem A146 : AggF Tryd.prog 146 64 := ⟨Tryd.isAgg146, Tryd.sizeOf146⟩
theorem Z146 : ZeroF Tryd.prog 146 (Go.Value.agg #[Go.Value.int Go.IntKind.u8 0, Go.Value.int Go.IntKind.u8 0, Go.Value.int Go.IntKind.u8 0, Go.Value.int Go.IntKind.u8 0, Go.Value.int Go.IntKind.u8 0, Go.Value.int Go.IntKind.u8 0, Go.Value.int Go.IntKind.u8 0, Go.Value.int Go.IntKind.u8 0, Go.Value.int Go.IntKind.u8 0, Go.Value.int Go.IntKind.u8 0, Go.Value.int Go.IntKind.u8 0, Go.Value.int Go.IntKind.u8 0, Go.Value.int Go.IntKind.u8 0, Go.Value.int Go.IntKind.u8 0, Go.Value.int Go.IntKind.u8 0, Go.Value.int Go.IntKind.u8 0, Go.Value.int Go.IntKind.u8 0, Go.Value.int Go.IntKind.u8 0, Go.Value.int Go.IntKind.u8 0, Go.Value.int Go.IntKind.u8 0, Go.Value.int Go.IntKind.u8 0, Go.Value.int Go.IntKind.u8 0, Go.Value.int Go.IntKind.u8 0, Go.Value.int Go.IntKind.u8 0, Go.Value.int Go.IntKind.u8 0, Go.Value.int Go.IntKind.u8 0, Go.Value.int Go.IntKind.u8 0, Go.Value.int Go.IntKind.u8 0, Go.Value.int Go.IntKind.u8 0, Go.Value.int Go.IntKind.u8 0, Go.Value.int Go.IntKind.u8 0, Go.Value.int Go.IntKind.u8 0, Go.Value.int Go.IntKind.u8 0, Go.Value.int Go.IntKind.u8 0, Go.Value.int Go.IntKind.u8 0, Go.Value.int Go.IntKind.u8 0, Go.Value.int Go.IntKind.u8 0, Go.Value.int Go.IntKind.u8 0, Go.Value.int Go.IntKind.u8 0, Go.Value.int Go.IntKind.u8 0, Go.Value.int Go.IntKind.u8 0, Go.Value.int Go.IntKind.u8 0, Go.Value.int Go.IntKind.u8 0, Go.Value.int Go.IntKind.u8 0, Go.Value.int Go.IntKind.u8 0, Go.Value.int Go.IntKind.u8 0, Go.Value.int Go.IntKind.u8 0, Go.Value.int Go.IntKind.u8 0, Go.Value.int Go.IntKind.u8 0, Go.Value.int Go.IntKind.u8 0, Go.Value.int Go.IntKind.u8 0, Go.Value.int Go.IntKind.u8 0, Go.Value.int Go.IntKind.u8 0, Go.Value.int Go.IntKind.u8 0, Go.Value.int Go.IntKind.u8 0, Go.Value.int Go.IntKind.u8 0, Go.Value.int Go.IntKind.u8 0, Go.Value.int Go.IntKind.u8 0, Go.Value.int Go.IntKind.u8 0, Go.Value.int Go.IntKind.u8 0, Go.Value.int Go.IntKind.u8 0, Go.Value.int Go.IntKind.u8 0, Go.Value.int Go.IntKind.u8 0, Go.Value.int Go.IntKind.u8 0]) := Tryd.zeroValue146
theorem I146 : IndexAF Tryd.prog 146 64 1 := IndexAF.of Tryd.runUnderlying146 Tryd.sizeOf5
theorem BX146 : BuildX Tryd.prog 146 (List.replicate 64 (Go.Value.int Go.IntKind.u8 0)) := ⟨Tryd.zeroValue146, 64, 5, Tryd.runUnderlying146, Tryd.sizeOf5⟩
theorem AR146 : ArrF Tryd.prog 146 64 := ⟨5, Tryd.runUnderlying146, Tryd.sizeOf5⟩
theorem A147 : AggF Tryd.prog 147 4 := ⟨Tryd.isAgg147, Tryd.sizeOf147⟩
theorem Z147 : ZeroF Tryd.prog 147 (Go.Value.agg #[Go.Value.pointer none, Go.Value.pointer none, Go.Value.pointer none, Go.Value.string (ByteArray.mk #[])]) := Tryd.zeroValue147
theorem F147_0 : FieldF Tryd.prog 147 0 0 := FieldF.of Tryd.runUnderlying147 rfl rfl Tryd.sizeOf17
theorem V147_0 : ∀ (vs : Array Value) (v : Value) (w : World), vs[0]? = some v → (Instr.field 147 (.agg vs) 0).run Tryd.prog w = .ok v w := fun vs v w h => by simp [Instr.field, Tryd.runUnderlying147, part, Tryd.isAgg17, asAgg, h]
theorem F147_1 : FieldF Tryd.prog 147 1 1 := FieldF.of Tryd.runUnderlying147 rfl rfl Tryd.sizeOf17
theorem V147_1 : ∀ (vs : Array Value) (v : Value) (w : World), vs[1]? = some v → (Instr.field 147 (.agg vs) 1).run Tryd.prog w = .ok v w := fun vs v w h => by simp [Instr.field, Tryd.runUnderlying147, part, Tryd.isAgg17, asAgg, h]
theorem F147_2 : FieldF Tryd.prog 147 2 2 := FieldF.of Tryd.runUnderlying147 rfl rfl Tryd.sizeOf17
theorem V147_2 : ∀ (vs : Array Value) (v : Value) (w : World), vs[2]? = some v → (Instr.field 147 (.agg vs) 2).run Tryd.prog w = .ok v w := fun vs v w h => by simp [Instr.field, Tryd.runUnderlying147, part, Tryd.isAgg17, asAgg, h]
theorem F147_3 : FieldF Tryd.prog 147 3 3 := FieldF.of Tryd.runUnderlying147 rfl rfl Tryd.sizeOf9
theorem V147_3 : ∀ (vs : Array Value) (v : Value) (w : World), vs[3]? = some v → (Instr.field 147 (.agg vs) 3).run Tryd.prog w = .ok v w := fun vs v w h => by simp [Instr.field, Tryd.runUnderlying147, part, Tryd.isAgg9, asAgg, h]
theorem BF147 : BuildF Tryd.prog 147 [Go.Value.pointer none, Go.Value.pointer none, Go.Value.pointer none, Go.Value.string (ByteArray.mk #[])] := ⟨Tryd.zeroValue147, by simp [Value.oneCell'], _, Tryd.runUnderlying147, fun w => by
  simp [Sem.run_bind, Result.andThen, Tryd.sizeOf9, Tryd.sizeOf17, List.range, List.range.loop]⟩
theorem A148 : AggF Tryd.prog 148 4 := ⟨Tryd.isAgg148, Tryd.sizeOf148⟩
theorem Z148 : ZeroF Tryd.prog 148 (Go.Value.agg #[Go.Value.pointer none, Go.Value.pointer none, Go.Value.pointer none, Go.Value.string (ByteArray.mk #[])]) := Tryd.zeroValue148
theorem F148_0 : FieldF Tryd.prog 148 0 0 := FieldF.of Tryd.runUnderlying148 rfl rfl Tryd.sizeOf17
theorem V148_0 : ∀ (vs : Array Value) (v : Value) (w : World), vs[0]? = some v → (Instr.field 148 (.agg vs) 0).run Tryd.prog w = .ok v w := fun vs v w h => by simp [Instr.field, Tryd.runUnderlying148, part, Tryd.isAgg17, asAgg, h]
theorem F148_1 : FieldF Tryd.prog 148 1 1 := FieldF.of Tryd.runUnderlying148 rfl rfl Tryd.sizeOf17
theorem V148_1 : ∀ (vs : Array Value) (v : Value) (w : World), vs[1]? = some v → (Instr.field 148 (.agg vs) 1).run Tryd.prog w = .ok v w := fun vs v w h => by simp [Instr.field, Tryd.runUnderlying148, part, Tryd.isAgg17, asAgg, h]
theorem F148_2 : FieldF Tryd.prog 148 2 2 := FieldF.of Tryd.runUnderlying148 rfl rfl Tryd.sizeOf17
theorem V148_2 : ∀ (vs : Array Value) (v : Value) (w : World), vs[2]? = some v → (Instr.field 148 (.agg vs) 2).run Tryd.prog w = .ok v w := fun vs v w h => by simp [Instr.field, Tryd.runUnderlying148, part, Tryd.isAgg17, asAgg, h]
theorem F148_3 : FieldF Tryd.prog 148 3 3 := FieldF.of Tryd.runUnderlying148 rfl rfl Tryd.sizeOf9
theorem V148_3 : ∀ (vs : Array Value) (v : Value) (w : World), vs[3]? = some v → (Instr.field 148 (.agg vs) 3).run Tryd.prog w = .ok v w := fun vs v w h => by simp [Instr.field, Tryd.runUnderlying148, part, Tryd.isAgg9, asAgg, h]
theorem BF148 : BuildF Tryd.prog 148 [Go.Value.pointer none, Go.Value.pointer none, Go.Value.pointer none, Go.Value.string (ByteArray.mk #[])] := ⟨Tryd.zeroValue148, by simp [Value.oneCell'], _, Tryd.runUnderlying148, fun w => by
  simp [Sem.run_bind, Result.andThen, Tryd.sizeOf9, Tryd.sizeOf17, List.range, List.range.loop]⟩
theorem A149 : AggF Tryd.prog 149 0 := ⟨Tryd.isAgg149, Tryd.sizeOf149⟩
theorem Z149 : ZeroF Tryd.prog 149 (Go.Value.agg #[]) := Tryd.zeroValue149
theorem I149 : IndexAF Tryd.prog 149 0 1 := IndexAF.of Tryd.runUnderlying149 Tryd.sizeOf16
theorem BX149 : BuildX Tryd.prog 149 (List.replicate 0 (Go.Value.pointer none)) := ⟨Tryd.zeroValue149, 0, 16, Tryd.runUnderlying149, Tryd.sizeOf16⟩
theorem AR149 : ArrF Tryd.prog 149 0 := ⟨16, Tryd.runUnderlying149, Tryd.sizeOf16⟩
theorem A150 : AggF Tryd.prog 150 0 := ⟨Tryd.isAgg150, Tryd.sizeOf150⟩
theorem Z150 : ZeroF Tryd.prog 150 (Go.Value.agg #[]) := Tryd.zeroValue150
theorem A151 : AggF Tryd.prog 151 0 := ⟨Tryd.isAgg151, Tryd.sizeOf151⟩
theorem Z151 : ZeroF Tryd.prog 151 (Go.Value.agg #[]) := Tryd.zeroValue151
theorem O152 : OneF Tryd.prog 152 := ⟨Tryd.isAgg152, Tryd.sizeOf152⟩
theorem Z152 : ZeroF Tryd.prog 152 (Go.Value.int Go.IntKind.u8 0) := Tryd.zeroValue152
theorem O153 : OneF Tryd.prog 153 := ⟨Tryd.isAgg153, Tryd.sizeOf153⟩
theorem Z153 : ZeroF Tryd.prog 153 (Go.Value.int Go.IntKind.u8 0) := Tryd.zeroValue153
theorem O154 : OneF Tryd.prog 154 := ⟨Tryd.isAgg154, Tryd.sizeOf154⟩
theorem Z154 : ZeroF Tryd.prog 154 (Go.Value.nilFunc) := Tryd.zeroValue154
theorem O155 : OneF Tryd.prog 155 := ⟨Tryd.isAgg155, Tryd.sizeOf155⟩
theorem Z155 : ZeroF Tryd.prog 155 (Go.Value.int Go.IntKind.i32 0) := Tryd.zeroValue155
theorem O156 : OneF Tryd.prog 156 := ⟨Tryd.isAgg156, Tryd.sizeOf156⟩
theorem Z156 : ZeroF Tryd.prog 156 (Go.Value.int Go.IntKind.i32 0) := Tryd.zeroValue156
theorem A157 : AggF Tryd.prog 157 11 := ⟨Tryd.isAgg157, Tryd.sizeOf157⟩
theorem Z157 : ZeroF Tryd.prog 157 (Go.Value.agg #[Go.Value.int Go.IntKind.u64 0, Go.Value.int Go.IntKind.u64 0, Go.Value.int Go.IntKind.u32 0, Go.Value.int Go.IntKind.u8 0, Go.Value.int Go.IntKind.u8 0, Go.Value.int Go.IntKind.u8 0, Go.Value.int Go.IntKind.u8 0, Go.Value.nilFunc, Go.Value.pointer none, Go.Value.int Go.IntKind.i32 0, Go.Value.int Go.IntKind.i32 0]) := Tryd.zeroValue157
theorem F157_0 : FieldF Tryd.prog 157 0 0 := FieldF.of Tryd.runUnderlying157 rfl rfl Tryd.sizeOf12
theorem V157_0 : ∀ (vs : Array Value) (v : Value) (w : World), vs[0]? = some v → (Instr.field 157 (.agg vs) 0).run Tryd.prog w = .ok v w := fun vs v w h => by simp [Instr.field, Tryd.runUnderlying157, part, Tryd.isAgg12, asAgg, h]
theorem F157_1 : FieldF Tryd.prog 157 1 1 := FieldF.of Tryd.runUnderlying157 rfl rfl Tryd.sizeOf12
theorem V157_1 : ∀ (vs : Array Value) (v : Value) (w : World), vs[1]? = some v → (Instr.field 157 (.agg vs) 1).run Tryd.prog w = .ok v w := fun vs v w h => by simp [Instr.field, Tryd.runUnderlying157, part, Tryd.isAgg12, asAgg, h]
theorem F157_2 : FieldF Tryd.prog 157 2 2 := FieldF.of Tryd.runUnderlying157 rfl rfl Tryd.sizeOf26
theorem V157_2 : ∀ (vs : Array Value) (v : Value) (w : World), vs[2]? = some v → (Instr.field 157 (.agg vs) 2).run Tryd.prog w = .ok v w := fun vs v w h => by simp [Instr.field, Tryd.runUnderlying157, part, Tryd.isAgg26, asAgg, h]
theorem F157_3 : FieldF Tryd.prog 157 3 3 := FieldF.of Tryd.runUnderlying157 rfl rfl Tryd.sizeOf152
theorem V157_3 : ∀ (vs : Array Value) (v : Value) (w : World), vs[3]? = some v → (Instr.field 157 (.agg vs) 3).run Tryd.prog w = .ok v w := fun vs v w h => by simp [Instr.field, Tryd.runUnderlying157, part, Tryd.isAgg152, asAgg, h]
theorem F157_4 : FieldF Tryd.prog 157 4 4 := FieldF.of Tryd.runUnderlying157 rfl rfl Tryd.sizeOf5
theorem V157_4 : ∀ (vs : Array Value) (v : Value) (w : World), vs[4]? = some v → (Instr.field 157 (.agg vs) 4).run Tryd.prog w = .ok v w := fun vs v w h => by simp [Instr.field, Tryd.runUnderlying157, part, Tryd.isAgg5, asAgg, h]
theorem F157_5 : FieldF Tryd.prog 157 5 5 := FieldF.of Tryd.runUnderlying157 rfl rfl Tryd.sizeOf5
theorem V157_5 : ∀ (vs : Array Value) (v : Value) (w : World), vs[5]? = some v → (Instr.field 157 (.agg vs) 5).run Tryd.prog w = .ok v w := fun vs v w h => by simp [Instr.field, Tryd.runUnderlying157, part, Tryd.isAgg5, asAgg, h]
theorem F157_6 : FieldF Tryd.prog 157 6 6 := FieldF.of Tryd.runUnderlying157 rfl rfl Tryd.sizeOf153
theorem V157_6 : ∀ (vs : Array Value) (v : Value) (w : World), vs[6]? = some v → (Instr.field 157 (.agg vs) 6).run Tryd.prog w = .ok v w := fun vs v w h => by simp [Instr.field, Tryd.runUnderlying157, part, Tryd.isAgg153, asAgg, h]
theorem F157_7 : FieldF Tryd.prog 157 7 7 := FieldF.of Tryd.runUnderlying157 rfl rfl Tryd.sizeOf154
theorem V157_7 : ∀ (vs : Array Value) (v : Value) (w : World), vs[7]? = some v → (Instr.field 157 (.agg vs) 7).run Tryd.prog w = .ok v w := fun vs v w h => by simp [Instr.field, Tryd.runUnderlying157, part, Tryd.isAgg154, asAgg, h]
theorem F157_8 : FieldF Tryd.prog 157 8 8 := FieldF.of Tryd.runUnderlying157 rfl rfl Tryd.sizeOf109
theorem V157_8 : ∀ (vs : Array Value) (v : Value) (w : World), vs[8]? = some v → (Instr.field 157 (.agg vs) 8).run Tryd.prog w = .ok v w := fun vs v w h => by simp [Instr.field, Tryd.runUnderlying157, part, Tryd.isAgg109, asAgg, h]
theorem F157_9 : FieldF Tryd.prog 157 9 9 := FieldF.of Tryd.runUnderlying157 rfl rfl Tryd.sizeOf155
theorem V157_9 : ∀ (vs : Array Value) (v : Value) (w : World), vs[9]? = some v → (Instr.field 157 (.agg vs) 9).run Tryd.prog w = .ok v w := fun vs v w h => by simp [Instr.field, Tryd.runUnderlying157, part, Tryd.isAgg155, asAgg, h]
theorem F157_10 : FieldF Tryd.prog 157 10 10 := FieldF.of Tryd.runUnderlying157 rfl rfl Tryd.sizeOf156
theorem V157_10 : ∀ (vs : Array Value) (v : Value) (w : World), vs[10]? = some v → (Instr.field 157 (.agg vs) 10).run Tryd.prog w = .ok v w := fun vs v w h => by simp [Instr.field, Tryd.runUnderlying157, part, Tryd.isAgg156, asAgg, h]
theorem BF157 : BuildF Tryd.prog 157 [Go.Value.int Go.IntKind.u64 0, Go.Value.int Go.IntKind.u64 0, Go.Value.int Go.IntKind.u32 0, Go.Value.int Go.IntKind.u8 0, Go.Value.int Go.IntKind.u8 0, Go.Value.int Go.IntKind.u8 0, Go.Value.int Go.IntKind.u8 0, Go.Value.nilFunc, Go.Value.pointer none, Go.Value.int Go.IntKind.i32 0, Go.Value.int Go.IntKind.i32 0] := ⟨Tryd.zeroValue157, by simp [Value.oneCell'], _, Tryd.runUnderlying157, fun w => by
  simp [Sem.run_bind, Result.andThen, Tryd.sizeOf5, Tryd.sizeOf12, Tryd.sizeOf26, Tryd.sizeOf109, Tryd.sizeOf152, Tryd.sizeOf153, Tryd.sizeOf154, Tryd.sizeOf155, Tryd.sizeOf156, List.range, List.range.loop]⟩
theorem A158 : AggF Tryd.prog 158 11 := ⟨Tryd.isAgg158, Tryd.sizeOf158⟩
theorem Z158 : ZeroF Tryd.prog 158 (Go.Value.agg #[Go.Value.int Go.IntKind.u64 0, Go.Value.int Go.IntKind.u64 0, Go.Value.int Go.IntKind.u32 0, Go.Value.int Go.IntKind.u8 0, Go.Value.int Go.IntKind.u8 0, Go.Value.int Go.IntKind.u8 0, Go.Value.int Go.IntKind.u8 0, Go.Value.nilFunc, Go.Value.pointer none, Go.Value.int Go.IntKind.i32 0, Go.Value.int Go.IntKind.i32 0]) := Tryd.zeroValue158
theorem F158_0 : FieldF Tryd.prog 158 0 0 := FieldF.of Tryd.runUnderlying158 rfl rfl Tryd.sizeOf12
theorem V158_0 : ∀ (vs : Array Value) (v : Value) (w : World), vs[0]? = some v → (Instr.field 158 (.agg vs) 0).run Tryd.prog w = .ok v w := fun vs v w h => by simp [Instr.field, Tryd.runUnderlying158, part, Tryd.isAgg12, asAgg, h]
theorem F158_1 : FieldF Tryd.prog 158 1 1 := FieldF.of Tryd.runUnderlying158 rfl rfl Tryd.sizeOf12
theorem V158_1 : ∀ (vs : Array Value) (v : Value) (w : World), vs[1]? = some v → (Instr.field 158 (.agg vs) 1).run Tryd.prog w = .ok v w := fun vs v w h => by simp [Instr.field, Tryd.runUnderlying158, part, Tryd.isAgg12, asAgg, h]
theorem F158_2 : FieldF Tryd.prog 158 2 2 := FieldF.of Tryd.runUnderlying158 rfl rfl Tryd.sizeOf26
theorem V158_2 : ∀ (vs : Array Value) (v : Value) (w : World), vs[2]? = some v → (Instr.field 158 (.agg vs) 2).run Tryd.prog w = .ok v w := fun vs v w h => by simp [Instr.field, Tryd.runUnderlying158, part, Tryd.isAgg26, asAgg, h]
theorem F158_3 : FieldF Tryd.prog 158 3 3 := FieldF.of Tryd.runUnderlying158 rfl rfl Tryd.sizeOf152
theorem V158_3 : ∀ (vs : Array Value) (v : Value) (w : World), vs[3]? = some v → (Instr.field 158 (.agg vs) 3).run Tryd.prog w = .ok v w := fun vs v w h => by simp [Instr.field, Tryd.runUnderlying158, part, Tryd.isAgg152, asAgg, h]
theorem F158_4 : FieldF Tryd.prog 158 4 4 := FieldF.of Tryd.runUnderlying158 rfl rfl Tryd.sizeOf5
theorem V158_4 : ∀ (vs : Array Value) (v : Value) (w : World), vs[4]? = some v → (Instr.field 158 (.agg vs) 4).run Tryd.prog w = .ok v w := fun vs v w h => by simp [Instr.field, Tryd.runUnderlying158, part, Tryd.isAgg5, asAgg, h]
theorem F158_5 : FieldF Tryd.prog 158 5 5 := FieldF.of Tryd.runUnderlying158 rfl rfl Tryd.sizeOf5
theorem V158_5 : ∀ (vs : Array Value) (v : Value) (w : World), vs[5]? = some v → (Instr.field 158 (.agg vs) 5).run Tryd.prog w = .ok v w := fun vs v w h => by simp [Instr.field, Tryd.runUnderlying158, part, Tryd.isAgg5, asAgg, h]
theorem F158_6 : FieldF Tryd.prog 158 6 6 := FieldF.of Tryd.runUnderlying158 rfl rfl Tryd.sizeOf153
theorem V158_6 : ∀ (vs : Array Value) (v : Value) (w : World), vs[6]? = some v → (Instr.field 158 (.agg vs) 6).run Tryd.prog w = .ok v w := fun vs v w h => by simp [Instr.field, Tryd.runUnderlying158, part, Tryd.isAgg153, asAgg, h]
theorem F158_7 : FieldF Tryd.prog 158 7 7 := FieldF.of Tryd.runUnderlying158 rfl rfl Tryd.sizeOf154
theorem V158_7 : ∀ (vs : Array Value) (v : Value) (w : World), vs[7]? = some v → (Instr.field 158 (.agg vs) 7).run Tryd.prog w = .ok v w := fun vs v w h => by simp [Instr.field, Tryd.runUnderlying158, part, Tryd.isAgg154, asAgg, h]
theorem F158_8 : FieldF Tryd.prog 158 8 8 := FieldF.of Tryd.runUnderlying158 rfl rfl Tryd.sizeOf109
theorem V158_8 : ∀ (vs : Array Value) (v : Value) (w : World), vs[8]? = some v → (Instr.field 158 (.agg vs) 8).run Tryd.prog w = .ok v w := fun vs v w h => by simp [Instr.field, Tryd.runUnderlying158, part, Tryd.isAgg109, asAgg, h]
theorem F158_9 : FieldF Tryd.prog 158 9 9 := FieldF.of Tryd.runUnderlying158 rfl rfl Tryd.sizeOf155
theorem V158_9 : ∀ (vs : Array Value) (v : Value) (w : World), vs[9]? = some v → (Instr.field 158 (.agg vs) 9).run Tryd.prog w = .ok v w := fun vs v w h => by simp [Instr.field, Tryd.runUnderlying158, part, Tryd.isAgg155, asAgg, h]
theorem F158_10 : FieldF Tryd.prog 158 10 10 := FieldF.of Tryd.runUnderlying158 rfl rfl Tryd.sizeOf156
theorem V158_10 : ∀ (vs : Array Value) (v : Value) (w : World), vs[10]? = some v → (Instr.field 158 (.agg vs) 10).run Tryd.prog w = .ok v w := fun vs v w h => by simp [Instr.field, Tryd.runUnderlying158, part, Tryd.isAgg156, asAgg, h]
theorem BF158 : BuildF Tryd.prog 158 [Go.Value.int Go.IntKind.u64 0, Go.Value.int Go.IntKind.u64 0, Go.Value.int Go.IntKind.u32 0, Go.Value.int Go.IntKind.u8 0, Go.Value.int Go.IntKind.u8 0, Go.Value.int Go.IntKind.u8 0, Go.Value.int Go.IntKind.u8 0, Go.Value.nilFunc, Go.Value.pointer none, Go.Value.int Go.IntKind.i32 0, Go.Value.int Go.IntKind.i32 0] := ⟨Tryd.zeroValue158, by simp [Value.oneCell'], _, Tryd.runUnderlying158, fun w => by
  simp [Sem.run_bind, Result.andThen, Tryd.sizeOf5, Tryd.sizeOf12, Tryd.sizeOf26, Tryd.sizeOf109, Tryd.sizeOf152, Tryd.sizeOf153, Tryd.sizeOf154, Tryd.sizeOf155, Tryd.sizeOf156, List.range, List.range.loop]⟩
end Go.Proofs.YtgcjjndhohellaaDoor

