/- What the types of this program say, a fact each (no condition). -/
import Derived.Test.YtcekeipkofblmaaDoorKF
import Derived.Test.YtcekeipkofblmaaDoorProg
set_option linter.unusedSimpArgs false
set_option linter.unusedVariables false
namespace Go.Proofs.YtcekeipkofblmaaDoor
theorem mixedO : Tryd.prog.follows .mixedOrders = true := by kernel_rfl
theorem O0 : OneF Tryd.prog 0 := ⟨Tryd.isAgg0, Tryd.sizeOf0⟩
theorem Z0 : ZeroF Tryd.prog 0 (Go.Value.tuple #[]) := Tryd.zeroValue0
theorem O1 : OneF Tryd.prog 1 := ⟨Tryd.isAgg1, Tryd.sizeOf1⟩
theorem Z1 : ZeroF Tryd.prog 1 (Go.Value.nilFunc) := Tryd.zeroValue1
theorem O2 : OneF Tryd.prog 2 := ⟨Tryd.isAgg2, Tryd.sizeOf2⟩
theorem Z2 : ZeroF Tryd.prog 2 (Go.Value.int Go.IntKind.i64 0) := Tryd.zeroValue2
theorem O3 : OneF Tryd.prog 3 := ⟨Tryd.isAgg3, Tryd.sizeOf3⟩
theorem Z3 : ZeroF Tryd.prog 3 (Go.Value.int Go.IntKind.i64 0) := Tryd.zeroValue3
theorem O4 : OneF Tryd.prog 4 := ⟨Tryd.isAgg4, Tryd.sizeOf4⟩
theorem Z4 : ZeroF Tryd.prog 4 (Go.Value.bool false) := Tryd.zeroValue4
theorem O5 : OneF Tryd.prog 5 := ⟨Tryd.isAgg5, Tryd.sizeOf5⟩
theorem Z5 : ZeroF Tryd.prog 5 (Go.Value.int Go.IntKind.u8 0) := Tryd.zeroValue5
theorem O6 : OneF Tryd.prog 6 := ⟨Tryd.isAgg6, Tryd.sizeOf6⟩
theorem Z6 : ZeroF Tryd.prog 6 (Go.Value.int Go.IntKind.u8 0) := Tryd.zeroValue6
theorem A7 : AggF Tryd.prog 7 4 := ⟨Tryd.isAgg7, Tryd.sizeOf7⟩
theorem Z7 : ZeroF Tryd.prog 7 (Go.Value.agg #[Go.Value.int Go.IntKind.i64 0, Go.Value.int Go.IntKind.i64 0, Go.Value.bool false, Go.Value.int Go.IntKind.u8 0]) := Tryd.zeroValue7
theorem F7_0 : FieldF Tryd.prog 7 0 0 := FieldF.of Tryd.runUnderlying7 rfl rfl Tryd.sizeOf2
theorem V7_0 : ∀ (vs : Array Value) (v : Value) (w : World), vs[0]? = some v → (Instr.field 7 (.agg vs) 0).run Tryd.prog w = .ok v w := fun vs v w h => by simp [Instr.field, Tryd.runUnderlying7, part, Tryd.isAgg2, asAgg, h]
theorem F7_1 : FieldF Tryd.prog 7 1 1 := FieldF.of Tryd.runUnderlying7 rfl rfl Tryd.sizeOf3
theorem V7_1 : ∀ (vs : Array Value) (v : Value) (w : World), vs[1]? = some v → (Instr.field 7 (.agg vs) 1).run Tryd.prog w = .ok v w := fun vs v w h => by simp [Instr.field, Tryd.runUnderlying7, part, Tryd.isAgg3, asAgg, h]
theorem F7_2 : FieldF Tryd.prog 7 2 2 := FieldF.of Tryd.runUnderlying7 rfl rfl Tryd.sizeOf4
theorem V7_2 : ∀ (vs : Array Value) (v : Value) (w : World), vs[2]? = some v → (Instr.field 7 (.agg vs) 2).run Tryd.prog w = .ok v w := fun vs v w h => by simp [Instr.field, Tryd.runUnderlying7, part, Tryd.isAgg4, asAgg, h]
theorem F7_3 : FieldF Tryd.prog 7 3 3 := FieldF.of Tryd.runUnderlying7 rfl rfl Tryd.sizeOf6
theorem V7_3 : ∀ (vs : Array Value) (v : Value) (w : World), vs[3]? = some v → (Instr.field 7 (.agg vs) 3).run Tryd.prog w = .ok v w := fun vs v w h => by simp [Instr.field, Tryd.runUnderlying7, part, Tryd.isAgg6, asAgg, h]
theorem BF7 : BuildF Tryd.prog 7 [Go.Value.int Go.IntKind.i64 0, Go.Value.int Go.IntKind.i64 0, Go.Value.bool false, Go.Value.int Go.IntKind.u8 0] := ⟨Tryd.zeroValue7, by simp [Value.oneCell'], _, Tryd.runUnderlying7, fun w => by
  simp [Sem.run_bind, Result.andThen, Tryd.sizeOf2, Tryd.sizeOf3, Tryd.sizeOf4, Tryd.sizeOf6, List.range, List.range.loop]⟩
theorem A8 : AggF Tryd.prog 8 4 := ⟨Tryd.isAgg8, Tryd.sizeOf8⟩
theorem Z8 : ZeroF Tryd.prog 8 (Go.Value.agg #[Go.Value.int Go.IntKind.i64 0, Go.Value.int Go.IntKind.i64 0, Go.Value.bool false, Go.Value.int Go.IntKind.u8 0]) := Tryd.zeroValue8
theorem F8_0 : FieldF Tryd.prog 8 0 0 := FieldF.of Tryd.runUnderlying8 rfl rfl Tryd.sizeOf2
theorem V8_0 : ∀ (vs : Array Value) (v : Value) (w : World), vs[0]? = some v → (Instr.field 8 (.agg vs) 0).run Tryd.prog w = .ok v w := fun vs v w h => by simp [Instr.field, Tryd.runUnderlying8, part, Tryd.isAgg2, asAgg, h]
theorem F8_1 : FieldF Tryd.prog 8 1 1 := FieldF.of Tryd.runUnderlying8 rfl rfl Tryd.sizeOf3
theorem V8_1 : ∀ (vs : Array Value) (v : Value) (w : World), vs[1]? = some v → (Instr.field 8 (.agg vs) 1).run Tryd.prog w = .ok v w := fun vs v w h => by simp [Instr.field, Tryd.runUnderlying8, part, Tryd.isAgg3, asAgg, h]
theorem F8_2 : FieldF Tryd.prog 8 2 2 := FieldF.of Tryd.runUnderlying8 rfl rfl Tryd.sizeOf4
theorem V8_2 : ∀ (vs : Array Value) (v : Value) (w : World), vs[2]? = some v → (Instr.field 8 (.agg vs) 2).run Tryd.prog w = .ok v w := fun vs v w h => by simp [Instr.field, Tryd.runUnderlying8, part, Tryd.isAgg4, asAgg, h]
theorem F8_3 : FieldF Tryd.prog 8 3 3 := FieldF.of Tryd.runUnderlying8 rfl rfl Tryd.sizeOf6
theorem V8_3 : ∀ (vs : Array Value) (v : Value) (w : World), vs[3]? = some v → (Instr.field 8 (.agg vs) 3).run Tryd.prog w = .ok v w := fun vs v w h => by simp [Instr.field, Tryd.runUnderlying8, part, Tryd.isAgg6, asAgg, h]
theorem BF8 : BuildF Tryd.prog 8 [Go.Value.int Go.IntKind.i64 0, Go.Value.int Go.IntKind.i64 0, Go.Value.bool false, Go.Value.int Go.IntKind.u8 0] := ⟨Tryd.zeroValue8, by simp [Value.oneCell'], _, Tryd.runUnderlying8, fun w => by
  simp [Sem.run_bind, Result.andThen, Tryd.sizeOf2, Tryd.sizeOf3, Tryd.sizeOf4, Tryd.sizeOf6, List.range, List.range.loop]⟩
theorem O9 : OneF Tryd.prog 9 := ⟨Tryd.isAgg9, Tryd.sizeOf9⟩
theorem Z9 : ZeroF Tryd.prog 9 (Go.Value.string (ByteArray.mk #[])) := Tryd.zeroValue9
theorem O10 : OneF Tryd.prog 10 := ⟨Tryd.isAgg10, Tryd.sizeOf10⟩
theorem Z10 : ZeroF Tryd.prog 10 (Go.Value.string (ByteArray.mk #[])) := Tryd.zeroValue10
theorem O11 : OneF Tryd.prog 11 := ⟨Tryd.isAgg11, Tryd.sizeOf11⟩
theorem Z11 : ZeroF Tryd.prog 11 (Go.Value.string (ByteArray.mk #[])) := Tryd.zeroValue11
theorem O12 : OneF Tryd.prog 12 := ⟨Tryd.isAgg12, Tryd.sizeOf12⟩
theorem Z12 : ZeroF Tryd.prog 12 (Go.Value.int Go.IntKind.u64 0) := Tryd.zeroValue12
theorem A13 : AggF Tryd.prog 13 2 := ⟨Tryd.isAgg13, Tryd.sizeOf13⟩
theorem Z13 : ZeroF Tryd.prog 13 (Go.Value.agg #[Go.Value.string (ByteArray.mk #[]), Go.Value.int Go.IntKind.u64 0]) := Tryd.zeroValue13
theorem F13_0 : FieldF Tryd.prog 13 0 0 := FieldF.of Tryd.runUnderlying13 rfl rfl Tryd.sizeOf9
theorem V13_0 : ∀ (vs : Array Value) (v : Value) (w : World), vs[0]? = some v → (Instr.field 13 (.agg vs) 0).run Tryd.prog w = .ok v w := fun vs v w h => by simp [Instr.field, Tryd.runUnderlying13, part, Tryd.isAgg9, asAgg, h]
theorem F13_1 : FieldF Tryd.prog 13 1 1 := FieldF.of Tryd.runUnderlying13 rfl rfl Tryd.sizeOf12
theorem V13_1 : ∀ (vs : Array Value) (v : Value) (w : World), vs[1]? = some v → (Instr.field 13 (.agg vs) 1).run Tryd.prog w = .ok v w := fun vs v w h => by simp [Instr.field, Tryd.runUnderlying13, part, Tryd.isAgg12, asAgg, h]
theorem BF13 : BuildF Tryd.prog 13 [Go.Value.string (ByteArray.mk #[]), Go.Value.int Go.IntKind.u64 0] := ⟨Tryd.zeroValue13, by simp [Value.oneCell'], _, Tryd.runUnderlying13, fun w => by
  simp [Sem.run_bind, Result.andThen, Tryd.sizeOf9, Tryd.sizeOf12, List.range, List.range.loop]⟩
theorem A14 : AggF Tryd.prog 14 2 := ⟨Tryd.isAgg14, Tryd.sizeOf14⟩
theorem Z14 : ZeroF Tryd.prog 14 (Go.Value.agg #[Go.Value.string (ByteArray.mk #[]), Go.Value.int Go.IntKind.u64 0]) := Tryd.zeroValue14
theorem F14_0 : FieldF Tryd.prog 14 0 0 := FieldF.of Tryd.runUnderlying14 rfl rfl Tryd.sizeOf9
theorem V14_0 : ∀ (vs : Array Value) (v : Value) (w : World), vs[0]? = some v → (Instr.field 14 (.agg vs) 0).run Tryd.prog w = .ok v w := fun vs v w h => by simp [Instr.field, Tryd.runUnderlying14, part, Tryd.isAgg9, asAgg, h]
theorem F14_1 : FieldF Tryd.prog 14 1 1 := FieldF.of Tryd.runUnderlying14 rfl rfl Tryd.sizeOf12
theorem V14_1 : ∀ (vs : Array Value) (v : Value) (w : World), vs[1]? = some v → (Instr.field 14 (.agg vs) 1).run Tryd.prog w = .ok v w := fun vs v w h => by simp [Instr.field, Tryd.runUnderlying14, part, Tryd.isAgg12, asAgg, h]
theorem BF14 : BuildF Tryd.prog 14 [Go.Value.string (ByteArray.mk #[]), Go.Value.int Go.IntKind.u64 0] := ⟨Tryd.zeroValue14, by simp [Value.oneCell'], _, Tryd.runUnderlying14, fun w => by
  simp [Sem.run_bind, Result.andThen, Tryd.sizeOf9, Tryd.sizeOf12, List.range, List.range.loop]⟩
theorem O15 : OneF Tryd.prog 15 := ⟨Tryd.isAgg15, Tryd.sizeOf15⟩
theorem Z15 : ZeroF Tryd.prog 15 (Go.Value.pointer none) := Tryd.zeroValue15
theorem O16 : OneF Tryd.prog 16 := ⟨Tryd.isAgg16, Tryd.sizeOf16⟩
theorem Z16 : ZeroF Tryd.prog 16 (Go.Value.pointer none) := Tryd.zeroValue16
theorem O17 : OneF Tryd.prog 17 := ⟨Tryd.isAgg17, Tryd.sizeOf17⟩
theorem Z17 : ZeroF Tryd.prog 17 (Go.Value.pointer none) := Tryd.zeroValue17
theorem A18 : AggF Tryd.prog 18 1 := ⟨Tryd.isAgg18, Tryd.sizeOf18⟩
theorem Z18 : ZeroF Tryd.prog 18 (Go.Value.agg #[Go.Value.pointer none]) := Tryd.zeroValue18
theorem F18_0 : FieldF Tryd.prog 18 0 0 := FieldF.of Tryd.runUnderlying18 rfl rfl Tryd.sizeOf17
theorem V18_0 : ∀ (vs : Array Value) (v : Value) (w : World), vs[0]? = some v → (Instr.field 18 (.agg vs) 0).run Tryd.prog w = .ok v w := fun vs v w h => by simp [Instr.field, Tryd.runUnderlying18, part, Tryd.isAgg17, asAgg, h]
theorem BF18 : BuildF Tryd.prog 18 [Go.Value.pointer none] := ⟨Tryd.zeroValue18, by simp [Value.oneCell'], _, Tryd.runUnderlying18, fun w => by
  simp [Sem.run_bind, Result.andThen, Tryd.sizeOf17, List.range, List.range.loop]⟩
theorem A19 : AggF Tryd.prog 19 1 := ⟨Tryd.isAgg19, Tryd.sizeOf19⟩
theorem Z19 : ZeroF Tryd.prog 19 (Go.Value.agg #[Go.Value.pointer none]) := Tryd.zeroValue19
theorem F19_0 : FieldF Tryd.prog 19 0 0 := FieldF.of Tryd.runUnderlying19 rfl rfl Tryd.sizeOf17
theorem V19_0 : ∀ (vs : Array Value) (v : Value) (w : World), vs[0]? = some v → (Instr.field 19 (.agg vs) 0).run Tryd.prog w = .ok v w := fun vs v w h => by simp [Instr.field, Tryd.runUnderlying19, part, Tryd.isAgg17, asAgg, h]
theorem BF19 : BuildF Tryd.prog 19 [Go.Value.pointer none] := ⟨Tryd.zeroValue19, by simp [Value.oneCell'], _, Tryd.runUnderlying19, fun w => by
  simp [Sem.run_bind, Result.andThen, Tryd.sizeOf17, List.range, List.range.loop]⟩
theorem O20 : OneF Tryd.prog 20 := ⟨Tryd.isAgg20, Tryd.sizeOf20⟩
theorem Z20 : ZeroF Tryd.prog 20 (Go.Value.nilIface) := Tryd.zeroValue20
theorem O21 : OneF Tryd.prog 21 := ⟨Tryd.isAgg21, Tryd.sizeOf21⟩
theorem Z21 : ZeroF Tryd.prog 21 (Go.Value.int Go.IntKind.i32 0) := Tryd.zeroValue21
theorem O22 : OneF Tryd.prog 22 := ⟨Tryd.isAgg22, Tryd.sizeOf22⟩
theorem Z22 : ZeroF Tryd.prog 22 (Go.Value.int Go.IntKind.i64 0) := Tryd.zeroValue22
theorem O23 : OneF Tryd.prog 23 := ⟨Tryd.isAgg23, Tryd.sizeOf23⟩
theorem Z23 : ZeroF Tryd.prog 23 (Go.Value.tuple #[Go.Value.int Go.IntKind.i64 0, Go.Value.int Go.IntKind.i64 0]) := Tryd.zeroValue23
theorem O24 : OneF Tryd.prog 24 := ⟨Tryd.isAgg24, Tryd.sizeOf24⟩
theorem Z24 : ZeroF Tryd.prog 24 (Go.Value.nilFunc) := Tryd.zeroValue24
theorem O25 : OneF Tryd.prog 25 := ⟨Tryd.isAgg25, Tryd.sizeOf25⟩
theorem Z25 : ZeroF Tryd.prog 25 (Go.Value.tuple #[Go.Value.bool false, Go.Value.int Go.IntKind.i64 0]) := Tryd.zeroValue25
theorem O26 : OneF Tryd.prog 26 := ⟨Tryd.isAgg26, Tryd.sizeOf26⟩
theorem Z26 : ZeroF Tryd.prog 26 (Go.Value.nilFunc) := Tryd.zeroValue26
theorem O27 : OneF Tryd.prog 27 := ⟨Tryd.isAgg27, Tryd.sizeOf27⟩
theorem Z27 : ZeroF Tryd.prog 27 (Go.Value.nilFunc) := Tryd.zeroValue27
theorem O28 : OneF Tryd.prog 28 := ⟨Tryd.isAgg28, Tryd.sizeOf28⟩
theorem Z28 : ZeroF Tryd.prog 28 (Go.Value.nilFunc) := Tryd.zeroValue28
theorem O29 : OneF Tryd.prog 29 := ⟨Tryd.isAgg29, Tryd.sizeOf29⟩
theorem Z29 : ZeroF Tryd.prog 29 (Go.Value.tuple #[Go.Value.string (ByteArray.mk #[]), Go.Value.int Go.IntKind.i64 0]) := Tryd.zeroValue29
theorem O30 : OneF Tryd.prog 30 := ⟨Tryd.isAgg30, Tryd.sizeOf30⟩
theorem Z30 : ZeroF Tryd.prog 30 (Go.Value.nilFunc) := Tryd.zeroValue30
theorem O31 : OneF Tryd.prog 31 := ⟨Tryd.isAgg31, Tryd.sizeOf31⟩
theorem Z31 : ZeroF Tryd.prog 31 (Go.Value.nilFunc) := Tryd.zeroValue31
theorem O32 : OneF Tryd.prog 32 := ⟨Tryd.isAgg32, Tryd.sizeOf32⟩
theorem Z32 : ZeroF Tryd.prog 32 (Go.Value.nilFunc) := Tryd.zeroValue32
theorem O33 : OneF Tryd.prog 33 := ⟨Tryd.isAgg33, Tryd.sizeOf33⟩
theorem Z33 : ZeroF Tryd.prog 33 (Go.Value.nilFunc) := Tryd.zeroValue33
theorem O34 : OneF Tryd.prog 34 := ⟨Tryd.isAgg34, Tryd.sizeOf34⟩
theorem Z34 : ZeroF Tryd.prog 34 (Go.Value.slice none 0 0) := Tryd.zeroValue34
theorem I34 : IndexF Tryd.prog 34 1 := IndexF.of Tryd.runUnderlying34 Tryd.sizeOf2
theorem S34 : SliceT Tryd.prog 34 := ⟨_, Tryd.runUnderlying34⟩
theorem AP34 : AppF Tryd.prog 34 2 1 := ⟨Tryd.underlying34, by kernel_rfl⟩
theorem SF34 : SliceF Tryd.prog 34 1 := ⟨_, Tryd.runUnderlying34, Tryd.sizeOf2⟩
theorem O35 : OneF Tryd.prog 35 := ⟨Tryd.isAgg35, Tryd.sizeOf35⟩
theorem Z35 : ZeroF Tryd.prog 35 (Go.Value.nilFunc) := Tryd.zeroValue35
theorem O36 : OneF Tryd.prog 36 := ⟨Tryd.isAgg36, Tryd.sizeOf36⟩
theorem Z36 : ZeroF Tryd.prog 36 (Go.Value.slice none 0 0) := Tryd.zeroValue36
theorem I36 : IndexF Tryd.prog 36 2 := IndexF.of Tryd.runUnderlying36 Tryd.sizeOf43
theorem S36 : SliceT Tryd.prog 36 := ⟨_, Tryd.runUnderlying36⟩
theorem AP36 : AppF Tryd.prog 36 43 2 := ⟨Tryd.underlying36, by kernel_rfl⟩
theorem SF36 : SliceF Tryd.prog 36 2 := ⟨_, Tryd.runUnderlying36, Tryd.sizeOf43⟩
theorem O37 : OneF Tryd.prog 37 := ⟨Tryd.isAgg37, Tryd.sizeOf37⟩
theorem Z37 : ZeroF Tryd.prog 37 (Go.Value.nilFunc) := Tryd.zeroValue37
theorem O38 : OneF Tryd.prog 38 := ⟨Tryd.isAgg38, Tryd.sizeOf38⟩
theorem Z38 : ZeroF Tryd.prog 38 (Go.Value.tuple #[Go.Value.slice none 0 0, Go.Value.int Go.IntKind.i64 0]) := Tryd.zeroValue38
theorem O39 : OneF Tryd.prog 39 := ⟨Tryd.isAgg39, Tryd.sizeOf39⟩
theorem Z39 : ZeroF Tryd.prog 39 (Go.Value.nilFunc) := Tryd.zeroValue39
theorem O40 : OneF Tryd.prog 40 := ⟨Tryd.isAgg40, Tryd.sizeOf40⟩
theorem Z40 : ZeroF Tryd.prog 40 (Go.Value.nilFunc) := Tryd.zeroValue40
theorem O41 : OneF Tryd.prog 41 := ⟨Tryd.isAgg41, Tryd.sizeOf41⟩
theorem Z41 : ZeroF Tryd.prog 41 (Go.Value.nilFunc) := Tryd.zeroValue41
theorem A42 : AggF Tryd.prog 42 2 := ⟨Tryd.isAgg42, Tryd.sizeOf42⟩
theorem Z42 : ZeroF Tryd.prog 42 (Go.Value.agg #[Go.Value.int Go.IntKind.i64 0, Go.Value.int Go.IntKind.i64 0]) := Tryd.zeroValue42
theorem F42_0 : FieldF Tryd.prog 42 0 0 := FieldF.of Tryd.runUnderlying42 rfl rfl Tryd.sizeOf2
theorem V42_0 : ∀ (vs : Array Value) (v : Value) (w : World), vs[0]? = some v → (Instr.field 42 (.agg vs) 0).run Tryd.prog w = .ok v w := fun vs v w h => by simp [Instr.field, Tryd.runUnderlying42, part, Tryd.isAgg2, asAgg, h]
theorem F42_1 : FieldF Tryd.prog 42 1 1 := FieldF.of Tryd.runUnderlying42 rfl rfl Tryd.sizeOf2
theorem V42_1 : ∀ (vs : Array Value) (v : Value) (w : World), vs[1]? = some v → (Instr.field 42 (.agg vs) 1).run Tryd.prog w = .ok v w := fun vs v w h => by simp [Instr.field, Tryd.runUnderlying42, part, Tryd.isAgg2, asAgg, h]
theorem BF42 : BuildF Tryd.prog 42 [Go.Value.int Go.IntKind.i64 0, Go.Value.int Go.IntKind.i64 0] := ⟨Tryd.zeroValue42, by simp [Value.oneCell'], _, Tryd.runUnderlying42, fun w => by
  simp [Sem.run_bind, Result.andThen, Tryd.sizeOf2, List.range, List.range.loop]⟩
theorem A43 : AggF Tryd.prog 43 2 := ⟨Tryd.isAgg43, Tryd.sizeOf43⟩
theorem Z43 : ZeroF Tryd.prog 43 (Go.Value.agg #[Go.Value.int Go.IntKind.i64 0, Go.Value.int Go.IntKind.i64 0]) := Tryd.zeroValue43
theorem F43_0 : FieldF Tryd.prog 43 0 0 := FieldF.of Tryd.runUnderlying43 rfl rfl Tryd.sizeOf2
theorem V43_0 : ∀ (vs : Array Value) (v : Value) (w : World), vs[0]? = some v → (Instr.field 43 (.agg vs) 0).run Tryd.prog w = .ok v w := fun vs v w h => by simp [Instr.field, Tryd.runUnderlying43, part, Tryd.isAgg2, asAgg, h]
theorem F43_1 : FieldF Tryd.prog 43 1 1 := FieldF.of Tryd.runUnderlying43 rfl rfl Tryd.sizeOf2
theorem V43_1 : ∀ (vs : Array Value) (v : Value) (w : World), vs[1]? = some v → (Instr.field 43 (.agg vs) 1).run Tryd.prog w = .ok v w := fun vs v w h => by simp [Instr.field, Tryd.runUnderlying43, part, Tryd.isAgg2, asAgg, h]
theorem BF43 : BuildF Tryd.prog 43 [Go.Value.int Go.IntKind.i64 0, Go.Value.int Go.IntKind.i64 0] := ⟨Tryd.zeroValue43, by simp [Value.oneCell'], _, Tryd.runUnderlying43, fun w => by
  simp [Sem.run_bind, Result.andThen, Tryd.sizeOf2, List.range, List.range.loop]⟩
theorem QF43 (a0 b0 : Int) (a1 b1 : Int) : ∀ w, (Op.eqFields 9999 #[.int .i64 a0, .int .i64 a1] #[.int .i64 b0, .int .i64 b1] (#[⟨ "From", 2, 0, false, "", "", 0⟩, ⟨ "To", 2, 1, false, "", "", 8⟩] : Array Field).toList).run Tryd.prog w = .ok (decide (a0 = b0) && decide (a1 = b1)) w := by
  intro w
  simp [Op.eqFields, part, byt_beq, run_equalIn_int (P := Tryd.prog) _ 9998 2 _ _ _ _ Tryd.underlying2, run_equalIn_int (P := Tryd.prog) _ 9998 2 _ _ _ _ Tryd.underlying2, Tryd.isAgg2]
  by_cases h0 : a0 = b0 <;> by_cases h1 : a1 = b1 <;> simp [*]
theorem EQ43 (x y : Operand) (a0 b0 : Int) (a1 b1 : Int) : ∀ w, (do eqGuard .eql 43 x y (.agg #[.int .i64 a0, .int .i64 a1]) (.agg #[.int .i64 b0, .int .i64 b1]); binOp .eql 43 (.agg #[.int .i64 a0, .int .i64 a1]) (.agg #[.int .i64 b0, .int .i64 b1]) : Sem Value).run Tryd.prog w = .ok (.bool (decide (a0 = b0) && decide (a1 = b1))) w := run_eqS Tryd.underlying43 Tryd.stoodInHeld43 Tryd.eqGuardType43 (QF43 a0 b0 a1 b1) x y
theorem NE43 (x y : Operand) (a0 b0 : Int) (a1 b1 : Int) : ∀ w, (do eqGuard .neq 43 x y (.agg #[.int .i64 a0, .int .i64 a1]) (.agg #[.int .i64 b0, .int .i64 b1]); binOp .neq 43 (.agg #[.int .i64 a0, .int .i64 a1]) (.agg #[.int .i64 b0, .int .i64 b1]) : Sem Value).run Tryd.prog w = .ok (.bool (!(decide (a0 = b0) && decide (a1 = b1)))) w := run_neS Tryd.underlying43 Tryd.stoodInHeld43 Tryd.eqGuardType43 (QF43 a0 b0 a1 b1) x y
theorem O44 : OneF Tryd.prog 44 := ⟨Tryd.isAgg44, Tryd.sizeOf44⟩
theorem Z44 : ZeroF Tryd.prog 44 (Go.Value.nilFunc) := Tryd.zeroValue44
theorem O45 : OneF Tryd.prog 45 := ⟨Tryd.isAgg45, Tryd.sizeOf45⟩
theorem Z45 : ZeroF Tryd.prog 45 (Go.Value.nilFunc) := Tryd.zeroValue45
theorem O46 : OneF Tryd.prog 46 := ⟨Tryd.isAgg46, Tryd.sizeOf46⟩
theorem Z46 : ZeroF Tryd.prog 46 (Go.Value.nilFunc) := Tryd.zeroValue46
theorem O47 : OneF Tryd.prog 47 := ⟨Tryd.isAgg47, Tryd.sizeOf47⟩
theorem Z47 : ZeroF Tryd.prog 47 (Go.Value.nilFunc) := Tryd.zeroValue47
theorem O48 : OneF Tryd.prog 48 := ⟨Tryd.isAgg48, Tryd.sizeOf48⟩
theorem Z48 : ZeroF Tryd.prog 48 (Go.Value.tuple #[Go.Value.agg #[Go.Value.int Go.IntKind.i64 0, Go.Value.int Go.IntKind.i64 0], Go.Value.bool false, Go.Value.int Go.IntKind.i64 0]) := Tryd.zeroValue48
theorem O49 : OneF Tryd.prog 49 := ⟨Tryd.isAgg49, Tryd.sizeOf49⟩
theorem Z49 : ZeroF Tryd.prog 49 (Go.Value.nilFunc) := Tryd.zeroValue49
theorem O50 : OneF Tryd.prog 50 := ⟨Tryd.isAgg50, Tryd.sizeOf50⟩
theorem Z50 : ZeroF Tryd.prog 50 (Go.Value.nilFunc) := Tryd.zeroValue50
theorem O51 : OneF Tryd.prog 51 := ⟨Tryd.isAgg51, Tryd.sizeOf51⟩
theorem Z51 : ZeroF Tryd.prog 51 (Go.Value.int Go.IntKind.u64 0) := Tryd.zeroValue51
theorem O52 : OneF Tryd.prog 52 := ⟨Tryd.isAgg52, Tryd.sizeOf52⟩
theorem Z52 : ZeroF Tryd.prog 52 (Go.Value.int Go.IntKind.u64 0) := Tryd.zeroValue52
theorem O53 : OneF Tryd.prog 53 := ⟨Tryd.isAgg53, Tryd.sizeOf53⟩
theorem Z53 : ZeroF Tryd.prog 53 (Go.Value.nilFunc) := Tryd.zeroValue53
theorem O54 : OneF Tryd.prog 54 := ⟨Tryd.isAgg54, Tryd.sizeOf54⟩
theorem Z54 : ZeroF Tryd.prog 54 (Go.Value.nilFunc) := Tryd.zeroValue54
theorem O55 : OneF Tryd.prog 55 := ⟨Tryd.isAgg55, Tryd.sizeOf55⟩
theorem Z55 : ZeroF Tryd.prog 55 (Go.Value.nilFunc) := Tryd.zeroValue55
theorem A56 : AggF Tryd.prog 56 4 := ⟨Tryd.isAgg56, Tryd.sizeOf56⟩
theorem Z56 : ZeroF Tryd.prog 56 (Go.Value.agg #[Go.Value.int Go.IntKind.u64 0, Go.Value.int Go.IntKind.u64 0, Go.Value.int Go.IntKind.u64 0, Go.Value.int Go.IntKind.u64 0]) := Tryd.zeroValue56
theorem I56 : IndexAF Tryd.prog 56 4 1 := IndexAF.of Tryd.runUnderlying56 Tryd.sizeOf51
theorem BX56 : BuildX Tryd.prog 56 (List.replicate 4 (Go.Value.int Go.IntKind.u64 0)) := ⟨Tryd.zeroValue56, 4, 51, Tryd.runUnderlying56, Tryd.sizeOf51⟩
theorem AR56 : ArrF Tryd.prog 56 4 := ⟨51, Tryd.runUnderlying56, Tryd.sizeOf51⟩
theorem O57 : OneF Tryd.prog 57 := ⟨Tryd.isAgg57, Tryd.sizeOf57⟩
theorem Z57 : ZeroF Tryd.prog 57 (Go.Value.tuple #[Go.Value.int Go.IntKind.u64 0, Go.Value.bool false]) := Tryd.zeroValue57
theorem O58 : OneF Tryd.prog 58 := ⟨Tryd.isAgg58, Tryd.sizeOf58⟩
theorem Z58 : ZeroF Tryd.prog 58 (Go.Value.nilFunc) := Tryd.zeroValue58
theorem A59 : AggF Tryd.prog 59 4 := ⟨Tryd.isAgg59, Tryd.sizeOf59⟩
theorem Z59 : ZeroF Tryd.prog 59 (Go.Value.agg #[Go.Value.int Go.IntKind.i64 0, Go.Value.int Go.IntKind.i64 0, Go.Value.int Go.IntKind.i64 0, Go.Value.int Go.IntKind.i64 0]) := Tryd.zeroValue59
theorem I59 : IndexAF Tryd.prog 59 4 1 := IndexAF.of Tryd.runUnderlying59 Tryd.sizeOf2
theorem BX59 : BuildX Tryd.prog 59 (List.replicate 4 (Go.Value.int Go.IntKind.i64 0)) := ⟨Tryd.zeroValue59, 4, 2, Tryd.runUnderlying59, Tryd.sizeOf2⟩
theorem AR59 : ArrF Tryd.prog 59 4 := ⟨2, Tryd.runUnderlying59, Tryd.sizeOf2⟩
theorem O60 : OneF Tryd.prog 60 := ⟨Tryd.isAgg60, Tryd.sizeOf60⟩
theorem Z60 : ZeroF Tryd.prog 60 (Go.Value.nilFunc) := Tryd.zeroValue60
theorem O61 : OneF Tryd.prog 61 := ⟨Tryd.isAgg61, Tryd.sizeOf61⟩
theorem Z61 : ZeroF Tryd.prog 61 (Go.Value.nilFunc) := Tryd.zeroValue61
theorem O62 : OneF Tryd.prog 62 := ⟨Tryd.isAgg62, Tryd.sizeOf62⟩
theorem Z62 : ZeroF Tryd.prog 62 (Go.Value.nilFunc) := Tryd.zeroValue62
theorem O63 : OneF Tryd.prog 63 := ⟨Tryd.isAgg63, Tryd.sizeOf63⟩
theorem Z63 : ZeroF Tryd.prog 63 (Go.Value.nilFunc) := Tryd.zeroValue63
theorem O64 : OneF Tryd.prog 64 := ⟨Tryd.isAgg64, Tryd.sizeOf64⟩
theorem Z64 : ZeroF Tryd.prog 64 (Go.Value.nilFunc) := Tryd.zeroValue64
theorem O65 : OneF Tryd.prog 65 := ⟨Tryd.isAgg65, Tryd.sizeOf65⟩
theorem Z65 : ZeroF Tryd.prog 65 (Go.Value.nilFunc) := Tryd.zeroValue65
theorem O66 : OneF Tryd.prog 66 := ⟨Tryd.isAgg66, Tryd.sizeOf66⟩
theorem Z66 : ZeroF Tryd.prog 66 (Go.Value.slice none 0 0) := Tryd.zeroValue66
theorem I66 : IndexF Tryd.prog 66 1 := IndexF.of Tryd.runUnderlying66 Tryd.sizeOf5
theorem S66 : SliceT Tryd.prog 66 := ⟨_, Tryd.runUnderlying66⟩
theorem AP66 : AppF Tryd.prog 66 5 1 := ⟨Tryd.underlying66, by kernel_rfl⟩
theorem SF66 : SliceF Tryd.prog 66 1 := ⟨_, Tryd.runUnderlying66, Tryd.sizeOf5⟩
theorem O67 : OneF Tryd.prog 67 := ⟨Tryd.isAgg67, Tryd.sizeOf67⟩
theorem Z67 : ZeroF Tryd.prog 67 (Go.Value.slice none 0 0) := Tryd.zeroValue67
theorem I67 : IndexF Tryd.prog 67 1 := IndexF.of Tryd.runUnderlying67 Tryd.sizeOf36
theorem S67 : SliceT Tryd.prog 67 := ⟨_, Tryd.runUnderlying67⟩
theorem AP67 : AppF Tryd.prog 67 36 1 := ⟨Tryd.underlying67, by kernel_rfl⟩
theorem SF67 : SliceF Tryd.prog 67 1 := ⟨_, Tryd.runUnderlying67, Tryd.sizeOf36⟩
theorem O68 : OneF Tryd.prog 68 := ⟨Tryd.isAgg68, Tryd.sizeOf68⟩
theorem Z68 : ZeroF Tryd.prog 68 (Go.Value.nilFunc) := Tryd.zeroValue68
theorem O69 : OneF Tryd.prog 69 := ⟨Tryd.isAgg69, Tryd.sizeOf69⟩
theorem Z69 : ZeroF Tryd.prog 69 (Go.Value.nilFunc) := Tryd.zeroValue69
theorem O70 : OneF Tryd.prog 70 := ⟨Tryd.isAgg70, Tryd.sizeOf70⟩
theorem Z70 : ZeroF Tryd.prog 70 (Go.Value.nilFunc) := Tryd.zeroValue70
theorem O71 : OneF Tryd.prog 71 := ⟨Tryd.isAgg71, Tryd.sizeOf71⟩
theorem Z71 : ZeroF Tryd.prog 71 (Go.Value.nilFunc) := Tryd.zeroValue71
theorem O72 : OneF Tryd.prog 72 := ⟨Tryd.isAgg72, Tryd.sizeOf72⟩
theorem Z72 : ZeroF Tryd.prog 72 (Go.Value.nilFunc) := Tryd.zeroValue72
theorem O73 : OneF Tryd.prog 73 := ⟨Tryd.isAgg73, Tryd.sizeOf73⟩
theorem Z73 : ZeroF Tryd.prog 73 (Go.Value.nilFunc) := Tryd.zeroValue73
theorem O74 : OneF Tryd.prog 74 := ⟨Tryd.isAgg74, Tryd.sizeOf74⟩
theorem Z74 : ZeroF Tryd.prog 74 (Go.Value.slice none 0 0) := Tryd.zeroValue74
theorem I74 : IndexF Tryd.prog 74 1 := IndexF.of Tryd.runUnderlying74 Tryd.sizeOf22
theorem S74 : SliceT Tryd.prog 74 := ⟨_, Tryd.runUnderlying74⟩
theorem AP74 : AppF Tryd.prog 74 22 1 := ⟨Tryd.underlying74, by kernel_rfl⟩
theorem SF74 : SliceF Tryd.prog 74 1 := ⟨_, Tryd.runUnderlying74, Tryd.sizeOf22⟩
theorem O75 : OneF Tryd.prog 75 := ⟨Tryd.isAgg75, Tryd.sizeOf75⟩
theorem Z75 : ZeroF Tryd.prog 75 (Go.Value.nilFunc) := Tryd.zeroValue75
theorem O76 : OneF Tryd.prog 76 := ⟨Tryd.isAgg76, Tryd.sizeOf76⟩
theorem Z76 : ZeroF Tryd.prog 76 (Go.Value.nilFunc) := Tryd.zeroValue76
theorem A77 : AggF Tryd.prog 77 24 := ⟨Tryd.isAgg77, Tryd.sizeOf77⟩
theorem Z77 : ZeroF Tryd.prog 77 (Go.Value.agg #[Go.Value.int Go.IntKind.u8 0, Go.Value.int Go.IntKind.u8 0, Go.Value.int Go.IntKind.u8 0, Go.Value.int Go.IntKind.u8 0, Go.Value.int Go.IntKind.u8 0, Go.Value.int Go.IntKind.u8 0, Go.Value.int Go.IntKind.u8 0, Go.Value.int Go.IntKind.u8 0, Go.Value.int Go.IntKind.u8 0, Go.Value.int Go.IntKind.u8 0, Go.Value.int Go.IntKind.u8 0, Go.Value.int Go.IntKind.u8 0, Go.Value.int Go.IntKind.u8 0, Go.Value.int Go.IntKind.u8 0, Go.Value.int Go.IntKind.u8 0, Go.Value.int Go.IntKind.u8 0, Go.Value.int Go.IntKind.u8 0, Go.Value.int Go.IntKind.u8 0, Go.Value.int Go.IntKind.u8 0, Go.Value.int Go.IntKind.u8 0, Go.Value.int Go.IntKind.u8 0, Go.Value.int Go.IntKind.u8 0, Go.Value.int Go.IntKind.u8 0, Go.Value.int Go.IntKind.u8 0]) := Tryd.zeroValue77
theorem I77 : IndexAF Tryd.prog 77 24 1 := IndexAF.of Tryd.runUnderlying77 Tryd.sizeOf5
theorem BX77 : BuildX Tryd.prog 77 (List.replicate 24 (Go.Value.int Go.IntKind.u8 0)) := ⟨Tryd.zeroValue77, 24, 5, Tryd.runUnderlying77, Tryd.sizeOf5⟩
theorem AR77 : ArrF Tryd.prog 77 24 := ⟨5, Tryd.runUnderlying77, Tryd.sizeOf5⟩
theorem O78 : OneF Tryd.prog 78 := ⟨Tryd.isAgg78, Tryd.sizeOf78⟩
theorem Z78 : ZeroF Tryd.prog 78 (Go.Value.nilFunc) := Tryd.zeroValue78
theorem O79 : OneF Tryd.prog 79 := ⟨Tryd.isAgg79, Tryd.sizeOf79⟩
theorem Z79 : ZeroF Tryd.prog 79 (Go.Value.nilFunc) := Tryd.zeroValue79
theorem O80 : OneF Tryd.prog 80 := ⟨Tryd.isAgg80, Tryd.sizeOf80⟩
theorem Z80 : ZeroF Tryd.prog 80 (Go.Value.tuple #[Go.Value.slice none 0 0, Go.Value.string (ByteArray.mk #[])]) := Tryd.zeroValue80
theorem O81 : OneF Tryd.prog 81 := ⟨Tryd.isAgg81, Tryd.sizeOf81⟩
theorem Z81 : ZeroF Tryd.prog 81 (Go.Value.nilFunc) := Tryd.zeroValue81
theorem O82 : OneF Tryd.prog 82 := ⟨Tryd.isAgg82, Tryd.sizeOf82⟩
theorem Z82 : ZeroF Tryd.prog 82 (Go.Value.nilFunc) := Tryd.zeroValue82
theorem O83 : OneF Tryd.prog 83 := ⟨Tryd.isAgg83, Tryd.sizeOf83⟩
theorem Z83 : ZeroF Tryd.prog 83 (Go.Value.nilFunc) := Tryd.zeroValue83
theorem O84 : OneF Tryd.prog 84 := ⟨Tryd.isAgg84, Tryd.sizeOf84⟩
theorem Z84 : ZeroF Tryd.prog 84 (Go.Value.nilFunc) := Tryd.zeroValue84
theorem O85 : OneF Tryd.prog 85 := ⟨Tryd.isAgg85, Tryd.sizeOf85⟩
theorem Z85 : ZeroF Tryd.prog 85 (Go.Value.nilFunc) := Tryd.zeroValue85
theorem O86 : OneF Tryd.prog 86 := ⟨Tryd.isAgg86, Tryd.sizeOf86⟩
theorem Z86 : ZeroF Tryd.prog 86 (Go.Value.nilFunc) := Tryd.zeroValue86
theorem O87 : OneF Tryd.prog 87 := ⟨Tryd.isAgg87, Tryd.sizeOf87⟩
theorem Z87 : ZeroF Tryd.prog 87 (Go.Value.nilFunc) := Tryd.zeroValue87
theorem A88 : AggF Tryd.prog 88 20 := ⟨Tryd.isAgg88, Tryd.sizeOf88⟩
theorem Z88 : ZeroF Tryd.prog 88 (Go.Value.agg #[Go.Value.int Go.IntKind.u64 0, Go.Value.int Go.IntKind.u64 0, Go.Value.int Go.IntKind.u64 0, Go.Value.int Go.IntKind.u64 0, Go.Value.int Go.IntKind.u64 0, Go.Value.int Go.IntKind.u64 0, Go.Value.int Go.IntKind.u64 0, Go.Value.int Go.IntKind.u64 0, Go.Value.int Go.IntKind.u64 0, Go.Value.int Go.IntKind.u64 0, Go.Value.int Go.IntKind.u64 0, Go.Value.int Go.IntKind.u64 0, Go.Value.int Go.IntKind.u64 0, Go.Value.int Go.IntKind.u64 0, Go.Value.int Go.IntKind.u64 0, Go.Value.int Go.IntKind.u64 0, Go.Value.int Go.IntKind.u64 0, Go.Value.int Go.IntKind.u64 0, Go.Value.int Go.IntKind.u64 0, Go.Value.int Go.IntKind.u64 0]) := Tryd.zeroValue88
theorem I88 : IndexAF Tryd.prog 88 20 1 := IndexAF.of Tryd.runUnderlying88 Tryd.sizeOf51
theorem BX88 : BuildX Tryd.prog 88 (List.replicate 20 (Go.Value.int Go.IntKind.u64 0)) := ⟨Tryd.zeroValue88, 20, 51, Tryd.runUnderlying88, Tryd.sizeOf51⟩
theorem AR88 : ArrF Tryd.prog 88 20 := ⟨51, Tryd.runUnderlying88, Tryd.sizeOf51⟩
theorem O89 : OneF Tryd.prog 89 := ⟨Tryd.isAgg89, Tryd.sizeOf89⟩
theorem Z89 : ZeroF Tryd.prog 89 (Go.Value.int Go.IntKind.u32 0) := Tryd.zeroValue89
theorem A90 : AggF Tryd.prog 90 65 := ⟨Tryd.isAgg90, Tryd.sizeOf90⟩
theorem Z90 : ZeroF Tryd.prog 90 (Go.Value.agg Go.Proofs.Tryd.zeroCells90) := Tryd.zeroValue90
theorem I90 : IndexAF Tryd.prog 90 65 1 := IndexAF.of Tryd.runUnderlying90 Tryd.sizeOf5
theorem AR90 : ArrF Tryd.prog 90 65 := ⟨5, Tryd.runUnderlying90, Tryd.sizeOf5⟩
theorem O91 : OneF Tryd.prog 91 := ⟨Tryd.isAgg91, Tryd.sizeOf91⟩
theorem Z91 : ZeroF Tryd.prog 91 (Go.Value.nilFunc) := Tryd.zeroValue91
theorem O92 : OneF Tryd.prog 92 := ⟨Tryd.isAgg92, Tryd.sizeOf92⟩
theorem Z92 : ZeroF Tryd.prog 92 (Go.Value.nilFunc) := Tryd.zeroValue92
theorem O93 : OneF Tryd.prog 93 := ⟨Tryd.isAgg93, Tryd.sizeOf93⟩
theorem Z93 : ZeroF Tryd.prog 93 (Go.Value.nilFunc) := Tryd.zeroValue93
theorem O94 : OneF Tryd.prog 94 := ⟨Tryd.isAgg94, Tryd.sizeOf94⟩
theorem Z94 : ZeroF Tryd.prog 94 (Go.Value.nilFunc) := Tryd.zeroValue94
theorem O95 : OneF Tryd.prog 95 := ⟨Tryd.isAgg95, Tryd.sizeOf95⟩
theorem Z95 : ZeroF Tryd.prog 95 (Go.Value.nilFunc) := Tryd.zeroValue95
theorem O96 : OneF Tryd.prog 96 := ⟨Tryd.isAgg96, Tryd.sizeOf96⟩
theorem Z96 : ZeroF Tryd.prog 96 (Go.Value.nilFunc) := Tryd.zeroValue96
theorem O97 : OneF Tryd.prog 97 := ⟨Tryd.isAgg97, Tryd.sizeOf97⟩
theorem Z97 : ZeroF Tryd.prog 97 (Go.Value.int Go.IntKind.i64 0) := Tryd.zeroValue97
theorem O98 : OneF Tryd.prog 98 := ⟨Tryd.isAgg98, Tryd.sizeOf98⟩
theorem Z98 : ZeroF Tryd.prog 98 (Go.Value.tuple #[Go.Value.int Go.IntKind.i64 0, Go.Value.int Go.IntKind.i64 0]) := Tryd.zeroValue98
theorem O99 : OneF Tryd.prog 99 := ⟨Tryd.isAgg99, Tryd.sizeOf99⟩
theorem Z99 : ZeroF Tryd.prog 99 (Go.Value.nilFunc) := Tryd.zeroValue99
theorem O100 : OneF Tryd.prog 100 := ⟨Tryd.isAgg100, Tryd.sizeOf100⟩
theorem Z100 : ZeroF Tryd.prog 100 (Go.Value.nilFunc) := Tryd.zeroValue100
theorem O101 : OneF Tryd.prog 101 := ⟨Tryd.isAgg101, Tryd.sizeOf101⟩
theorem Z101 : ZeroF Tryd.prog 101 (Go.Value.nilFunc) := Tryd.zeroValue101
theorem O102 : OneF Tryd.prog 102 := ⟨Tryd.isAgg102, Tryd.sizeOf102⟩
theorem Z102 : ZeroF Tryd.prog 102 (Go.Value.tuple #[Go.Value.int Go.IntKind.i64 0, Go.Value.bool false]) := Tryd.zeroValue102
theorem O103 : OneF Tryd.prog 103 := ⟨Tryd.isAgg103, Tryd.sizeOf103⟩
theorem Z103 : ZeroF Tryd.prog 103 (Go.Value.nilFunc) := Tryd.zeroValue103
theorem A104 : AggF Tryd.prog 104 32 := ⟨Tryd.isAgg104, Tryd.sizeOf104⟩
theorem Z104 : ZeroF Tryd.prog 104 (Go.Value.agg #[Go.Value.int Go.IntKind.u8 0, Go.Value.int Go.IntKind.u8 0, Go.Value.int Go.IntKind.u8 0, Go.Value.int Go.IntKind.u8 0, Go.Value.int Go.IntKind.u8 0, Go.Value.int Go.IntKind.u8 0, Go.Value.int Go.IntKind.u8 0, Go.Value.int Go.IntKind.u8 0, Go.Value.int Go.IntKind.u8 0, Go.Value.int Go.IntKind.u8 0, Go.Value.int Go.IntKind.u8 0, Go.Value.int Go.IntKind.u8 0, Go.Value.int Go.IntKind.u8 0, Go.Value.int Go.IntKind.u8 0, Go.Value.int Go.IntKind.u8 0, Go.Value.int Go.IntKind.u8 0, Go.Value.int Go.IntKind.u8 0, Go.Value.int Go.IntKind.u8 0, Go.Value.int Go.IntKind.u8 0, Go.Value.int Go.IntKind.u8 0, Go.Value.int Go.IntKind.u8 0, Go.Value.int Go.IntKind.u8 0, Go.Value.int Go.IntKind.u8 0, Go.Value.int Go.IntKind.u8 0, Go.Value.int Go.IntKind.u8 0, Go.Value.int Go.IntKind.u8 0, Go.Value.int Go.IntKind.u8 0, Go.Value.int Go.IntKind.u8 0, Go.Value.int Go.IntKind.u8 0, Go.Value.int Go.IntKind.u8 0, Go.Value.int Go.IntKind.u8 0, Go.Value.int Go.IntKind.u8 0]) := Tryd.zeroValue104
theorem I104 : IndexAF Tryd.prog 104 32 1 := IndexAF.of Tryd.runUnderlying104 Tryd.sizeOf5
theorem BX104 : BuildX Tryd.prog 104 (List.replicate 32 (Go.Value.int Go.IntKind.u8 0)) := ⟨Tryd.zeroValue104, 32, 5, Tryd.runUnderlying104, Tryd.sizeOf5⟩
theorem AR104 : ArrF Tryd.prog 104 32 := ⟨5, Tryd.runUnderlying104, Tryd.sizeOf5⟩
theorem A105 : AggF Tryd.prog 105 64 := ⟨Tryd.isAgg105, Tryd.sizeOf105⟩
theorem Z105 : ZeroF Tryd.prog 105 (Go.Value.agg #[Go.Value.int Go.IntKind.u8 0, Go.Value.int Go.IntKind.u8 0, Go.Value.int Go.IntKind.u8 0, Go.Value.int Go.IntKind.u8 0, Go.Value.int Go.IntKind.u8 0, Go.Value.int Go.IntKind.u8 0, Go.Value.int Go.IntKind.u8 0, Go.Value.int Go.IntKind.u8 0, Go.Value.int Go.IntKind.u8 0, Go.Value.int Go.IntKind.u8 0, Go.Value.int Go.IntKind.u8 0, Go.Value.int Go.IntKind.u8 0, Go.Value.int Go.IntKind.u8 0, Go.Value.int Go.IntKind.u8 0, Go.Value.int Go.IntKind.u8 0, Go.Value.int Go.IntKind.u8 0, Go.Value.int Go.IntKind.u8 0, Go.Value.int Go.IntKind.u8 0, Go.Value.int Go.IntKind.u8 0, Go.Value.int Go.IntKind.u8 0, Go.Value.int Go.IntKind.u8 0, Go.Value.int Go.IntKind.u8 0, Go.Value.int Go.IntKind.u8 0, Go.Value.int Go.IntKind.u8 0, Go.Value.int Go.IntKind.u8 0, Go.Value.int Go.IntKind.u8 0, Go.Value.int Go.IntKind.u8 0, Go.Value.int Go.IntKind.u8 0, Go.Value.int Go.IntKind.u8 0, Go.Value.int Go.IntKind.u8 0, Go.Value.int Go.IntKind.u8 0, Go.Value.int Go.IntKind.u8 0, Go.Value.int Go.IntKind.u8 0, Go.Value.int Go.IntKind.u8 0, Go.Value.int Go.IntKind.u8 0, Go.Value.int Go.IntKind.u8 0, Go.Value.int Go.IntKind.u8 0, Go.Value.int Go.IntKind.u8 0, Go.Value.int Go.IntKind.u8 0, Go.Value.int Go.IntKind.u8 0, Go.Value.int Go.IntKind.u8 0, Go.Value.int Go.IntKind.u8 0, Go.Value.int Go.IntKind.u8 0, Go.Value.int Go.IntKind.u8 0, Go.Value.int Go.IntKind.u8 0, Go.Value.int Go.IntKind.u8 0, Go.Value.int Go.IntKind.u8 0, Go.Value.int Go.IntKind.u8 0, Go.Value.int Go.IntKind.u8 0, Go.Value.int Go.IntKind.u8 0, Go.Value.int Go.IntKind.u8 0, Go.Value.int Go.IntKind.u8 0, Go.Value.int Go.IntKind.u8 0, Go.Value.int Go.IntKind.u8 0, Go.Value.int Go.IntKind.u8 0, Go.Value.int Go.IntKind.u8 0, Go.Value.int Go.IntKind.u8 0, Go.Value.int Go.IntKind.u8 0, Go.Value.int Go.IntKind.u8 0, Go.Value.int Go.IntKind.u8 0, Go.Value.int Go.IntKind.u8 0, Go.Value.int Go.IntKind.u8 0, Go.Value.int Go.IntKind.u8 0, Go.Value.int Go.IntKind.u8 0]) := Tryd.zeroValue105
theorem I105 : IndexAF Tryd.prog 105 64 1 := IndexAF.of Tryd.runUnderlying105 Tryd.sizeOf5
theorem BX105 : BuildX Tryd.prog 105 (List.replicate 64 (Go.Value.int Go.IntKind.u8 0)) := ⟨Tryd.zeroValue105, 64, 5, Tryd.runUnderlying105, Tryd.sizeOf5⟩
theorem AR105 : ArrF Tryd.prog 105 64 := ⟨5, Tryd.runUnderlying105, Tryd.sizeOf5⟩
theorem O106 : OneF Tryd.prog 106 := ⟨Tryd.isAgg106, Tryd.sizeOf106⟩
theorem Z106 : ZeroF Tryd.prog 106 (Go.Value.int Go.IntKind.u64 0) := Tryd.zeroValue106
theorem O107 : OneF Tryd.prog 107 := ⟨Tryd.isAgg107, Tryd.sizeOf107⟩
theorem Z107 : ZeroF Tryd.prog 107 (Go.Value.nilFunc) := Tryd.zeroValue107
theorem O108 : OneF Tryd.prog 108 := ⟨Tryd.isAgg108, Tryd.sizeOf108⟩
theorem Z108 : ZeroF Tryd.prog 108 (Go.Value.nilFunc) := Tryd.zeroValue108
theorem O109 : OneF Tryd.prog 109 := ⟨Tryd.isAgg109, Tryd.sizeOf109⟩
theorem Z109 : ZeroF Tryd.prog 109 (Go.Value.nilFunc) := Tryd.zeroValue109
theorem O110 : OneF Tryd.prog 110 := ⟨Tryd.isAgg110, Tryd.sizeOf110⟩
theorem Z110 : ZeroF Tryd.prog 110 (Go.Value.pointer none) := Tryd.zeroValue110
theorem O111 : OneF Tryd.prog 111 := ⟨Tryd.isAgg111, Tryd.sizeOf111⟩
theorem Z111 : ZeroF Tryd.prog 111 (Go.Value.nilFunc) := Tryd.zeroValue111
theorem O112 : OneF Tryd.prog 112 := ⟨Tryd.isAgg112, Tryd.sizeOf112⟩
theorem Z112 : ZeroF Tryd.prog 112 (Go.Value.pointer none) := Tryd.zeroValue112
theorem O113 : OneF Tryd.prog 113 := ⟨Tryd.isAgg113, Tryd.sizeOf113⟩
theorem Z113 : ZeroF Tryd.prog 113 (Go.Value.tuple #[Go.Value.int Go.IntKind.i64 0, Go.Value.int Go.IntKind.i64 0]) := Tryd.zeroValue113
theorem O114 : OneF Tryd.prog 114 := ⟨Tryd.isAgg114, Tryd.sizeOf114⟩
theorem Z114 : ZeroF Tryd.prog 114 (Go.Value.nilFunc) := Tryd.zeroValue114
theorem O115 : OneF Tryd.prog 115 := ⟨Tryd.isAgg115, Tryd.sizeOf115⟩
theorem Z115 : ZeroF Tryd.prog 115 (Go.Value.nilFunc) := Tryd.zeroValue115
theorem A116 : AggF Tryd.prog 116 4 := ⟨Tryd.isAgg116, Tryd.sizeOf116⟩
theorem Z116 : ZeroF Tryd.prog 116 (Go.Value.agg #[Go.Value.pointer none, Go.Value.pointer none, Go.Value.pointer none, Go.Value.string (ByteArray.mk #[])]) := Tryd.zeroValue116
theorem F116_0 : FieldF Tryd.prog 116 0 0 := FieldF.of Tryd.runUnderlying116 rfl rfl Tryd.sizeOf17
theorem V116_0 : ∀ (vs : Array Value) (v : Value) (w : World), vs[0]? = some v → (Instr.field 116 (.agg vs) 0).run Tryd.prog w = .ok v w := fun vs v w h => by simp [Instr.field, Tryd.runUnderlying116, part, Tryd.isAgg17, asAgg, h]
theorem F116_1 : FieldF Tryd.prog 116 1 1 := FieldF.of Tryd.runUnderlying116 rfl rfl Tryd.sizeOf17
theorem V116_1 : ∀ (vs : Array Value) (v : Value) (w : World), vs[1]? = some v → (Instr.field 116 (.agg vs) 1).run Tryd.prog w = .ok v w := fun vs v w h => by simp [Instr.field, Tryd.runUnderlying116, part, Tryd.isAgg17, asAgg, h]
theorem F116_2 : FieldF Tryd.prog 116 2 2 := FieldF.of Tryd.runUnderlying116 rfl rfl Tryd.sizeOf17
theorem V116_2 : ∀ (vs : Array Value) (v : Value) (w : World), vs[2]? = some v → (Instr.field 116 (.agg vs) 2).run Tryd.prog w = .ok v w := fun vs v w h => by simp [Instr.field, Tryd.runUnderlying116, part, Tryd.isAgg17, asAgg, h]
theorem F116_3 : FieldF Tryd.prog 116 3 3 := FieldF.of Tryd.runUnderlying116 rfl rfl Tryd.sizeOf9
theorem V116_3 : ∀ (vs : Array Value) (v : Value) (w : World), vs[3]? = some v → (Instr.field 116 (.agg vs) 3).run Tryd.prog w = .ok v w := fun vs v w h => by simp [Instr.field, Tryd.runUnderlying116, part, Tryd.isAgg9, asAgg, h]
theorem BF116 : BuildF Tryd.prog 116 [Go.Value.pointer none, Go.Value.pointer none, Go.Value.pointer none, Go.Value.string (ByteArray.mk #[])] := ⟨Tryd.zeroValue116, by simp [Value.oneCell'], _, Tryd.runUnderlying116, fun w => by
  simp [Sem.run_bind, Result.andThen, Tryd.sizeOf9, Tryd.sizeOf17, List.range, List.range.loop]⟩
theorem A117 : AggF Tryd.prog 117 4 := ⟨Tryd.isAgg117, Tryd.sizeOf117⟩
theorem Z117 : ZeroF Tryd.prog 117 (Go.Value.agg #[Go.Value.pointer none, Go.Value.pointer none, Go.Value.pointer none, Go.Value.string (ByteArray.mk #[])]) := Tryd.zeroValue117
theorem F117_0 : FieldF Tryd.prog 117 0 0 := FieldF.of Tryd.runUnderlying117 rfl rfl Tryd.sizeOf17
theorem V117_0 : ∀ (vs : Array Value) (v : Value) (w : World), vs[0]? = some v → (Instr.field 117 (.agg vs) 0).run Tryd.prog w = .ok v w := fun vs v w h => by simp [Instr.field, Tryd.runUnderlying117, part, Tryd.isAgg17, asAgg, h]
theorem F117_1 : FieldF Tryd.prog 117 1 1 := FieldF.of Tryd.runUnderlying117 rfl rfl Tryd.sizeOf17
theorem V117_1 : ∀ (vs : Array Value) (v : Value) (w : World), vs[1]? = some v → (Instr.field 117 (.agg vs) 1).run Tryd.prog w = .ok v w := fun vs v w h => by simp [Instr.field, Tryd.runUnderlying117, part, Tryd.isAgg17, asAgg, h]
theorem F117_2 : FieldF Tryd.prog 117 2 2 := FieldF.of Tryd.runUnderlying117 rfl rfl Tryd.sizeOf17
theorem V117_2 : ∀ (vs : Array Value) (v : Value) (w : World), vs[2]? = some v → (Instr.field 117 (.agg vs) 2).run Tryd.prog w = .ok v w := fun vs v w h => by simp [Instr.field, Tryd.runUnderlying117, part, Tryd.isAgg17, asAgg, h]
theorem F117_3 : FieldF Tryd.prog 117 3 3 := FieldF.of Tryd.runUnderlying117 rfl rfl Tryd.sizeOf9
theorem V117_3 : ∀ (vs : Array Value) (v : Value) (w : World), vs[3]? = some v → (Instr.field 117 (.agg vs) 3).run Tryd.prog w = .ok v w := fun vs v w h => by simp [Instr.field, Tryd.runUnderlying117, part, Tryd.isAgg9, asAgg, h]
theorem BF117 : BuildF Tryd.prog 117 [Go.Value.pointer none, Go.Value.pointer none, Go.Value.pointer none, Go.Value.string (ByteArray.mk #[])] := ⟨Tryd.zeroValue117, by simp [Value.oneCell'], _, Tryd.runUnderlying117, fun w => by
  simp [Sem.run_bind, Result.andThen, Tryd.sizeOf9, Tryd.sizeOf17, List.range, List.range.loop]⟩
theorem A118 : AggF Tryd.prog 118 0 := ⟨Tryd.isAgg118, Tryd.sizeOf118⟩
theorem Z118 : ZeroF Tryd.prog 118 (Go.Value.agg #[]) := Tryd.zeroValue118
theorem I118 : IndexAF Tryd.prog 118 0 1 := IndexAF.of Tryd.runUnderlying118 Tryd.sizeOf16
theorem BX118 : BuildX Tryd.prog 118 (List.replicate 0 (Go.Value.pointer none)) := ⟨Tryd.zeroValue118, 0, 16, Tryd.runUnderlying118, Tryd.sizeOf16⟩
theorem AR118 : ArrF Tryd.prog 118 0 := ⟨16, Tryd.runUnderlying118, Tryd.sizeOf16⟩
theorem A119 : AggF Tryd.prog 119 0 := ⟨Tryd.isAgg119, Tryd.sizeOf119⟩
theorem Z119 : ZeroF Tryd.prog 119 (Go.Value.agg #[]) := Tryd.zeroValue119
theorem A120 : AggF Tryd.prog 120 0 := ⟨Tryd.isAgg120, Tryd.sizeOf120⟩
theorem Z120 : ZeroF Tryd.prog 120 (Go.Value.agg #[]) := Tryd.zeroValue120
theorem O121 : OneF Tryd.prog 121 := ⟨Tryd.isAgg121, Tryd.sizeOf121⟩
theorem Z121 : ZeroF Tryd.prog 121 (Go.Value.nilFunc) := Tryd.zeroValue121
theorem O122 : OneF Tryd.prog 122 := ⟨Tryd.isAgg122, Tryd.sizeOf122⟩
theorem Z122 : ZeroF Tryd.prog 122 (Go.Value.int Go.IntKind.u8 0) := Tryd.zeroValue122
theorem O123 : OneF Tryd.prog 123 := ⟨Tryd.isAgg123, Tryd.sizeOf123⟩
theorem Z123 : ZeroF Tryd.prog 123 (Go.Value.int Go.IntKind.u8 0) := Tryd.zeroValue123
theorem O124 : OneF Tryd.prog 124 := ⟨Tryd.isAgg124, Tryd.sizeOf124⟩
theorem Z124 : ZeroF Tryd.prog 124 (Go.Value.nilFunc) := Tryd.zeroValue124
theorem O125 : OneF Tryd.prog 125 := ⟨Tryd.isAgg125, Tryd.sizeOf125⟩
theorem Z125 : ZeroF Tryd.prog 125 (Go.Value.pointer none) := Tryd.zeroValue125
theorem O126 : OneF Tryd.prog 126 := ⟨Tryd.isAgg126, Tryd.sizeOf126⟩
theorem Z126 : ZeroF Tryd.prog 126 (Go.Value.int Go.IntKind.i32 0) := Tryd.zeroValue126
theorem O127 : OneF Tryd.prog 127 := ⟨Tryd.isAgg127, Tryd.sizeOf127⟩
theorem Z127 : ZeroF Tryd.prog 127 (Go.Value.int Go.IntKind.i32 0) := Tryd.zeroValue127
theorem A128 : AggF Tryd.prog 128 11 := ⟨Tryd.isAgg128, Tryd.sizeOf128⟩
theorem Z128 : ZeroF Tryd.prog 128 (Go.Value.agg #[Go.Value.int Go.IntKind.u64 0, Go.Value.int Go.IntKind.u64 0, Go.Value.int Go.IntKind.u32 0, Go.Value.int Go.IntKind.u8 0, Go.Value.int Go.IntKind.u8 0, Go.Value.int Go.IntKind.u8 0, Go.Value.int Go.IntKind.u8 0, Go.Value.nilFunc, Go.Value.pointer none, Go.Value.int Go.IntKind.i32 0, Go.Value.int Go.IntKind.i32 0]) := Tryd.zeroValue128
theorem F128_0 : FieldF Tryd.prog 128 0 0 := FieldF.of Tryd.runUnderlying128 rfl rfl Tryd.sizeOf12
theorem V128_0 : ∀ (vs : Array Value) (v : Value) (w : World), vs[0]? = some v → (Instr.field 128 (.agg vs) 0).run Tryd.prog w = .ok v w := fun vs v w h => by simp [Instr.field, Tryd.runUnderlying128, part, Tryd.isAgg12, asAgg, h]
theorem F128_1 : FieldF Tryd.prog 128 1 1 := FieldF.of Tryd.runUnderlying128 rfl rfl Tryd.sizeOf12
theorem V128_1 : ∀ (vs : Array Value) (v : Value) (w : World), vs[1]? = some v → (Instr.field 128 (.agg vs) 1).run Tryd.prog w = .ok v w := fun vs v w h => by simp [Instr.field, Tryd.runUnderlying128, part, Tryd.isAgg12, asAgg, h]
theorem F128_2 : FieldF Tryd.prog 128 2 2 := FieldF.of Tryd.runUnderlying128 rfl rfl Tryd.sizeOf89
theorem V128_2 : ∀ (vs : Array Value) (v : Value) (w : World), vs[2]? = some v → (Instr.field 128 (.agg vs) 2).run Tryd.prog w = .ok v w := fun vs v w h => by simp [Instr.field, Tryd.runUnderlying128, part, Tryd.isAgg89, asAgg, h]
theorem F128_3 : FieldF Tryd.prog 128 3 3 := FieldF.of Tryd.runUnderlying128 rfl rfl Tryd.sizeOf122
theorem V128_3 : ∀ (vs : Array Value) (v : Value) (w : World), vs[3]? = some v → (Instr.field 128 (.agg vs) 3).run Tryd.prog w = .ok v w := fun vs v w h => by simp [Instr.field, Tryd.runUnderlying128, part, Tryd.isAgg122, asAgg, h]
theorem F128_4 : FieldF Tryd.prog 128 4 4 := FieldF.of Tryd.runUnderlying128 rfl rfl Tryd.sizeOf5
theorem V128_4 : ∀ (vs : Array Value) (v : Value) (w : World), vs[4]? = some v → (Instr.field 128 (.agg vs) 4).run Tryd.prog w = .ok v w := fun vs v w h => by simp [Instr.field, Tryd.runUnderlying128, part, Tryd.isAgg5, asAgg, h]
theorem F128_5 : FieldF Tryd.prog 128 5 5 := FieldF.of Tryd.runUnderlying128 rfl rfl Tryd.sizeOf5
theorem V128_5 : ∀ (vs : Array Value) (v : Value) (w : World), vs[5]? = some v → (Instr.field 128 (.agg vs) 5).run Tryd.prog w = .ok v w := fun vs v w h => by simp [Instr.field, Tryd.runUnderlying128, part, Tryd.isAgg5, asAgg, h]
theorem F128_6 : FieldF Tryd.prog 128 6 6 := FieldF.of Tryd.runUnderlying128 rfl rfl Tryd.sizeOf123
theorem V128_6 : ∀ (vs : Array Value) (v : Value) (w : World), vs[6]? = some v → (Instr.field 128 (.agg vs) 6).run Tryd.prog w = .ok v w := fun vs v w h => by simp [Instr.field, Tryd.runUnderlying128, part, Tryd.isAgg123, asAgg, h]
theorem F128_7 : FieldF Tryd.prog 128 7 7 := FieldF.of Tryd.runUnderlying128 rfl rfl Tryd.sizeOf124
theorem V128_7 : ∀ (vs : Array Value) (v : Value) (w : World), vs[7]? = some v → (Instr.field 128 (.agg vs) 7).run Tryd.prog w = .ok v w := fun vs v w h => by simp [Instr.field, Tryd.runUnderlying128, part, Tryd.isAgg124, asAgg, h]
theorem F128_8 : FieldF Tryd.prog 128 8 8 := FieldF.of Tryd.runUnderlying128 rfl rfl Tryd.sizeOf125
theorem V128_8 : ∀ (vs : Array Value) (v : Value) (w : World), vs[8]? = some v → (Instr.field 128 (.agg vs) 8).run Tryd.prog w = .ok v w := fun vs v w h => by simp [Instr.field, Tryd.runUnderlying128, part, Tryd.isAgg125, asAgg, h]
theorem F128_9 : FieldF Tryd.prog 128 9 9 := FieldF.of Tryd.runUnderlying128 rfl rfl Tryd.sizeOf126
theorem V128_9 : ∀ (vs : Array Value) (v : Value) (w : World), vs[9]? = some v → (Instr.field 128 (.agg vs) 9).run Tryd.prog w = .ok v w := fun vs v w h => by simp [Instr.field, Tryd.runUnderlying128, part, Tryd.isAgg126, asAgg, h]
theorem F128_10 : FieldF Tryd.prog 128 10 10 := FieldF.of Tryd.runUnderlying128 rfl rfl Tryd.sizeOf127
theorem V128_10 : ∀ (vs : Array Value) (v : Value) (w : World), vs[10]? = some v → (Instr.field 128 (.agg vs) 10).run Tryd.prog w = .ok v w := fun vs v w h => by simp [Instr.field, Tryd.runUnderlying128, part, Tryd.isAgg127, asAgg, h]
theorem BF128 : BuildF Tryd.prog 128 [Go.Value.int Go.IntKind.u64 0, Go.Value.int Go.IntKind.u64 0, Go.Value.int Go.IntKind.u32 0, Go.Value.int Go.IntKind.u8 0, Go.Value.int Go.IntKind.u8 0, Go.Value.int Go.IntKind.u8 0, Go.Value.int Go.IntKind.u8 0, Go.Value.nilFunc, Go.Value.pointer none, Go.Value.int Go.IntKind.i32 0, Go.Value.int Go.IntKind.i32 0] := ⟨Tryd.zeroValue128, by simp [Value.oneCell'], _, Tryd.runUnderlying128, fun w => by
  simp [Sem.run_bind, Result.andThen, Tryd.sizeOf5, Tryd.sizeOf12, Tryd.sizeOf89, Tryd.sizeOf122, Tryd.sizeOf123, Tryd.sizeOf124, Tryd.sizeOf125, Tryd.sizeOf126, Tryd.sizeOf127, List.range, List.range.loop]⟩
theorem A129 : AggF Tryd.prog 129 11 := ⟨Tryd.isAgg129, Tryd.sizeOf129⟩
theorem Z129 : ZeroF Tryd.prog 129 (Go.Value.agg #[Go.Value.int Go.IntKind.u64 0, Go.Value.int Go.IntKind.u64 0, Go.Value.int Go.IntKind.u32 0, Go.Value.int Go.IntKind.u8 0, Go.Value.int Go.IntKind.u8 0, Go.Value.int Go.IntKind.u8 0, Go.Value.int Go.IntKind.u8 0, Go.Value.nilFunc, Go.Value.pointer none, Go.Value.int Go.IntKind.i32 0, Go.Value.int Go.IntKind.i32 0]) := Tryd.zeroValue129
theorem F129_0 : FieldF Tryd.prog 129 0 0 := FieldF.of Tryd.runUnderlying129 rfl rfl Tryd.sizeOf12
theorem V129_0 : ∀ (vs : Array Value) (v : Value) (w : World), vs[0]? = some v → (Instr.field 129 (.agg vs) 0).run Tryd.prog w = .ok v w := fun vs v w h => by simp [Instr.field, Tryd.runUnderlying129, part, Tryd.isAgg12, asAgg, h]
theorem F129_1 : FieldF Tryd.prog 129 1 1 := FieldF.of Tryd.runUnderlying129 rfl rfl Tryd.sizeOf12
theorem V129_1 : ∀ (vs : Array Value) (v : Value) (w : World), vs[1]? = some v → (Instr.field 129 (.agg vs) 1).run Tryd.prog w = .ok v w := fun vs v w h => by simp [Instr.field, Tryd.runUnderlying129, part, Tryd.isAgg12, asAgg, h]
theorem F129_2 : FieldF Tryd.prog 129 2 2 := FieldF.of Tryd.runUnderlying129 rfl rfl Tryd.sizeOf89
theorem V129_2 : ∀ (vs : Array Value) (v : Value) (w : World), vs[2]? = some v → (Instr.field 129 (.agg vs) 2).run Tryd.prog w = .ok v w := fun vs v w h => by simp [Instr.field, Tryd.runUnderlying129, part, Tryd.isAgg89, asAgg, h]
theorem F129_3 : FieldF Tryd.prog 129 3 3 := FieldF.of Tryd.runUnderlying129 rfl rfl Tryd.sizeOf122
theorem V129_3 : ∀ (vs : Array Value) (v : Value) (w : World), vs[3]? = some v → (Instr.field 129 (.agg vs) 3).run Tryd.prog w = .ok v w := fun vs v w h => by simp [Instr.field, Tryd.runUnderlying129, part, Tryd.isAgg122, asAgg, h]
theorem F129_4 : FieldF Tryd.prog 129 4 4 := FieldF.of Tryd.runUnderlying129 rfl rfl Tryd.sizeOf5
theorem V129_4 : ∀ (vs : Array Value) (v : Value) (w : World), vs[4]? = some v → (Instr.field 129 (.agg vs) 4).run Tryd.prog w = .ok v w := fun vs v w h => by simp [Instr.field, Tryd.runUnderlying129, part, Tryd.isAgg5, asAgg, h]
theorem F129_5 : FieldF Tryd.prog 129 5 5 := FieldF.of Tryd.runUnderlying129 rfl rfl Tryd.sizeOf5
theorem V129_5 : ∀ (vs : Array Value) (v : Value) (w : World), vs[5]? = some v → (Instr.field 129 (.agg vs) 5).run Tryd.prog w = .ok v w := fun vs v w h => by simp [Instr.field, Tryd.runUnderlying129, part, Tryd.isAgg5, asAgg, h]
theorem F129_6 : FieldF Tryd.prog 129 6 6 := FieldF.of Tryd.runUnderlying129 rfl rfl Tryd.sizeOf123
theorem V129_6 : ∀ (vs : Array Value) (v : Value) (w : World), vs[6]? = some v → (Instr.field 129 (.agg vs) 6).run Tryd.prog w = .ok v w := fun vs v w h => by simp [Instr.field, Tryd.runUnderlying129, part, Tryd.isAgg123, asAgg, h]
theorem F129_7 : FieldF Tryd.prog 129 7 7 := FieldF.of Tryd.runUnderlying129 rfl rfl Tryd.sizeOf124
theorem V129_7 : ∀ (vs : Array Value) (v : Value) (w : World), vs[7]? = some v → (Instr.field 129 (.agg vs) 7).run Tryd.prog w = .ok v w := fun vs v w h => by simp [Instr.field, Tryd.runUnderlying129, part, Tryd.isAgg124, asAgg, h]
theorem F129_8 : FieldF Tryd.prog 129 8 8 := FieldF.of Tryd.runUnderlying129 rfl rfl Tryd.sizeOf125
theorem V129_8 : ∀ (vs : Array Value) (v : Value) (w : World), vs[8]? = some v → (Instr.field 129 (.agg vs) 8).run Tryd.prog w = .ok v w := fun vs v w h => by simp [Instr.field, Tryd.runUnderlying129, part, Tryd.isAgg125, asAgg, h]
theorem F129_9 : FieldF Tryd.prog 129 9 9 := FieldF.of Tryd.runUnderlying129 rfl rfl Tryd.sizeOf126
theorem V129_9 : ∀ (vs : Array Value) (v : Value) (w : World), vs[9]? = some v → (Instr.field 129 (.agg vs) 9).run Tryd.prog w = .ok v w := fun vs v w h => by simp [Instr.field, Tryd.runUnderlying129, part, Tryd.isAgg126, asAgg, h]
theorem F129_10 : FieldF Tryd.prog 129 10 10 := FieldF.of Tryd.runUnderlying129 rfl rfl Tryd.sizeOf127
theorem V129_10 : ∀ (vs : Array Value) (v : Value) (w : World), vs[10]? = some v → (Instr.field 129 (.agg vs) 10).run Tryd.prog w = .ok v w := fun vs v w h => by simp [Instr.field, Tryd.runUnderlying129, part, Tryd.isAgg127, asAgg, h]
theorem BF129 : BuildF Tryd.prog 129 [Go.Value.int Go.IntKind.u64 0, Go.Value.int Go.IntKind.u64 0, Go.Value.int Go.IntKind.u32 0, Go.Value.int Go.IntKind.u8 0, Go.Value.int Go.IntKind.u8 0, Go.Value.int Go.IntKind.u8 0, Go.Value.int Go.IntKind.u8 0, Go.Value.nilFunc, Go.Value.pointer none, Go.Value.int Go.IntKind.i32 0, Go.Value.int Go.IntKind.i32 0] := ⟨Tryd.zeroValue129, by simp [Value.oneCell'], _, Tryd.runUnderlying129, fun w => by
  simp [Sem.run_bind, Result.andThen, Tryd.sizeOf5, Tryd.sizeOf12, Tryd.sizeOf89, Tryd.sizeOf122, Tryd.sizeOf123, Tryd.sizeOf124, Tryd.sizeOf125, Tryd.sizeOf126, Tryd.sizeOf127, List.range, List.range.loop]⟩
theorem O130 : OneF Tryd.prog 130 := ⟨Tryd.isAgg130, Tryd.sizeOf130⟩
theorem Z130 : ZeroF Tryd.prog 130 (Go.Value.pointer none) := Tryd.zeroValue130
end Go.Proofs.YtcekeipkofblmaaDoor

