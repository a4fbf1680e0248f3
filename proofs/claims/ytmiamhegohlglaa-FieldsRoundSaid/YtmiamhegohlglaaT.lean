/- What the types of this program say, a fact each (no condition). -/
import Derived.Test.YtmiamhegohlglaaC22
import Derived.Test.YtmiamhegohlglaaProg
set_option linter.unusedSimpArgs false
set_option linter.unusedVariables false
namespace Go.Proofs.Ytmiamhegohlglaa
theorem mixedO : Try.prog.follows .mixedOrders = true := by kernel_rfl
theorem O0 : OneF Try.prog 0 := ⟨Try.isAgg0, Try.sizeOf0⟩
theorem Z0 : ZeroF Try.prog 0 (Go.Value.tuple #[]) := Try.zeroValue0
theorem O1 : OneF Try.prog 1 := ⟨Try.isAgg1, Try.sizeOf1⟩
theorem Z1 : ZeroF Try.prog 1 (Go.Value.nilFunc) := Try.zeroValue1
theorem O2 : OneF Try.prog 2 := ⟨Try.isAgg2, Try.sizeOf2⟩
theorem Z2 : ZeroF Try.prog 2 (Go.Value.int Go.IntKind.i64 0) := Try.zeroValue2
theorem O3 : OneF Try.prog 3 := ⟨Try.isAgg3, Try.sizeOf3⟩
theorem Z3 : ZeroF Try.prog 3 (Go.Value.int Go.IntKind.i64 0) := Try.zeroValue3
theorem O4 : OneF Try.prog 4 := ⟨Try.isAgg4, Try.sizeOf4⟩
theorem Z4 : ZeroF Try.prog 4 (Go.Value.bool false) := Try.zeroValue4
theorem O5 : OneF Try.prog 5 := ⟨Try.isAgg5, Try.sizeOf5⟩
theorem Z5 : ZeroF Try.prog 5 (Go.Value.int Go.IntKind.u8 0) := Try.zeroValue5
theorem O6 : OneF Try.prog 6 := ⟨Try.isAgg6, Try.sizeOf6⟩
theorem Z6 : ZeroF Try.prog 6 (Go.Value.int Go.IntKind.u8 0) := Try.zeroValue6
theorem A7 : AggF Try.prog 7 4 := ⟨Try.isAgg7, Try.sizeOf7⟩
theorem Z7 : ZeroF Try.prog 7 (Go.Value.agg #[Go.Value.int Go.IntKind.i64 0, Go.Value.int Go.IntKind.i64 0, Go.Value.bool false, Go.Value.int Go.IntKind.u8 0]) := Try.zeroValue7
theorem F7_0 : FieldF Try.prog 7 0 0 := FieldF.of Try.runUnderlying7 rfl rfl Try.sizeOf2
theorem V7_0 : ∀ (vs : Array Value) (v : Value) (w : World), vs[0]? = some v → (Instr.field 7 (.agg vs) 0).run Try.prog w = .ok v w := fun vs v w h => by simp [Instr.field, Try.runUnderlying7, part, Try.isAgg2, asAgg, h]
theorem F7_1 : FieldF Try.prog 7 1 1 := FieldF.of Try.runUnderlying7 rfl rfl Try.sizeOf3
theorem V7_1 : ∀ (vs : Array Value) (v : Value) (w : World), vs[1]? = some v → (Instr.field 7 (.agg vs) 1).run Try.prog w = .ok v w := fun vs v w h => by simp [Instr.field, Try.runUnderlying7, part, Try.isAgg3, asAgg, h]
theorem F7_2 : FieldF Try.prog 7 2 2 := FieldF.of Try.runUnderlying7 rfl rfl Try.sizeOf4
theorem V7_2 : ∀ (vs : Array Value) (v : Value) (w : World), vs[2]? = some v → (Instr.field 7 (.agg vs) 2).run Try.prog w = .ok v w := fun vs v w h => by simp [Instr.field, Try.runUnderlying7, part, Try.isAgg4, asAgg, h]
theorem F7_3 : FieldF Try.prog 7 3 3 := FieldF.of Try.runUnderlying7 rfl rfl Try.sizeOf6
theorem V7_3 : ∀ (vs : Array Value) (v : Value) (w : World), vs[3]? = some v → (Instr.field 7 (.agg vs) 3).run Try.prog w = .ok v w := fun vs v w h => by simp [Instr.field, Try.runUnderlying7, part, Try.isAgg6, asAgg, h]
theorem BF7 : BuildF Try.prog 7 [Go.Value.int Go.IntKind.i64 0, Go.Value.int Go.IntKind.i64 0, Go.Value.bool false, Go.Value.int Go.IntKind.u8 0] := ⟨Try.zeroValue7, by simp [Value.oneCell'], _, Try.runUnderlying7, fun w => by
  simp [Sem.run_bind, Result.andThen, Try.sizeOf2, Try.sizeOf3, Try.sizeOf4, Try.sizeOf6, List.range, List.range.loop]⟩
theorem A8 : AggF Try.prog 8 4 := ⟨Try.isAgg8, Try.sizeOf8⟩
theorem Z8 : ZeroF Try.prog 8 (Go.Value.agg #[Go.Value.int Go.IntKind.i64 0, Go.Value.int Go.IntKind.i64 0, Go.Value.bool false, Go.Value.int Go.IntKind.u8 0]) := Try.zeroValue8
theorem F8_0 : FieldF Try.prog 8 0 0 := FieldF.of Try.runUnderlying8 rfl rfl Try.sizeOf2
theorem V8_0 : ∀ (vs : Array Value) (v : Value) (w : World), vs[0]? = some v → (Instr.field 8 (.agg vs) 0).run Try.prog w = .ok v w := fun vs v w h => by simp [Instr.field, Try.runUnderlying8, part, Try.isAgg2, asAgg, h]
theorem F8_1 : FieldF Try.prog 8 1 1 := FieldF.of Try.runUnderlying8 rfl rfl Try.sizeOf3
theorem V8_1 : ∀ (vs : Array Value) (v : Value) (w : World), vs[1]? = some v → (Instr.field 8 (.agg vs) 1).run Try.prog w = .ok v w := fun vs v w h => by simp [Instr.field, Try.runUnderlying8, part, Try.isAgg3, asAgg, h]
theorem F8_2 : FieldF Try.prog 8 2 2 := FieldF.of Try.runUnderlying8 rfl rfl Try.sizeOf4
theorem V8_2 : ∀ (vs : Array Value) (v : Value) (w : World), vs[2]? = some v → (Instr.field 8 (.agg vs) 2).run Try.prog w = .ok v w := fun vs v w h => by simp [Instr.field, Try.runUnderlying8, part, Try.isAgg4, asAgg, h]
theorem F8_3 : FieldF Try.prog 8 3 3 := FieldF.of Try.runUnderlying8 rfl rfl Try.sizeOf6
theorem V8_3 : ∀ (vs : Array Value) (v : Value) (w : World), vs[3]? = some v → (Instr.field 8 (.agg vs) 3).run Try.prog w = .ok v w := fun vs v w h => by simp [Instr.field, Try.runUnderlying8, part, Try.isAgg6, asAgg, h]
theorem BF8 : BuildF Try.prog 8 [Go.Value.int Go.IntKind.i64 0, Go.Value.int Go.IntKind.i64 0, Go.Value.bool false, Go.Value.int Go.IntKind.u8 0] := ⟨Try.zeroValue8, by simp [Value.oneCell'], _, Try.runUnderlying8, fun w => by
  simp [Sem.run_bind, Result.andThen, Try.sizeOf2, Try.sizeOf3, Try.sizeOf4, Try.sizeOf6, List.range, List.range.loop]⟩
theorem O9 : OneF Try.prog 9 := ⟨Try.isAgg9, Try.sizeOf9⟩
theorem Z9 : ZeroF Try.prog 9 (Go.Value.string (ByteArray.mk #[])) := Try.zeroValue9
theorem O10 : OneF Try.prog 10 := ⟨Try.isAgg10, Try.sizeOf10⟩
theorem Z10 : ZeroF Try.prog 10 (Go.Value.string (ByteArray.mk #[])) := Try.zeroValue10
theorem O11 : OneF Try.prog 11 := ⟨Try.isAgg11, Try.sizeOf11⟩
theorem Z11 : ZeroF Try.prog 11 (Go.Value.string (ByteArray.mk #[])) := Try.zeroValue11
theorem O12 : OneF Try.prog 12 := ⟨Try.isAgg12, Try.sizeOf12⟩
theorem Z12 : ZeroF Try.prog 12 (Go.Value.int Go.IntKind.u64 0) := Try.zeroValue12
theorem A13 : AggF Try.prog 13 2 := ⟨Try.isAgg13, Try.sizeOf13⟩
theorem Z13 : ZeroF Try.prog 13 (Go.Value.agg #[Go.Value.string (ByteArray.mk #[]), Go.Value.int Go.IntKind.u64 0]) := Try.zeroValue13
theorem F13_0 : FieldF Try.prog 13 0 0 := FieldF.of Try.runUnderlying13 rfl rfl Try.sizeOf9
theorem V13_0 : ∀ (vs : Array Value) (v : Value) (w : World), vs[0]? = some v → (Instr.field 13 (.agg vs) 0).run Try.prog w = .ok v w := fun vs v w h => by simp [Instr.field, Try.runUnderlying13, part, Try.isAgg9, asAgg, h]
theorem F13_1 : FieldF Try.prog 13 1 1 := FieldF.of Try.runUnderlying13 rfl rfl Try.sizeOf12
theorem V13_1 : ∀ (vs : Array Value) (v : Value) (w : World), vs[1]? = some v → (Instr.field 13 (.agg vs) 1).run Try.prog w = .ok v w := fun vs v w h => by simp [Instr.field, Try.runUnderlying13, part, Try.isAgg12, asAgg, h]
theorem BF13 : BuildF Try.prog 13 [Go.Value.string (ByteArray.mk #[]), Go.Value.int Go.IntKind.u64 0] := ⟨Try.zeroValue13, by simp [Value.oneCell'], _, Try.runUnderlying13, fun w => by
  simp [Sem.run_bind, Result.andThen, Try.sizeOf9, Try.sizeOf12, List.range, List.range.loop]⟩
theorem A14 : AggF Try.prog 14 2 := ⟨Try.isAgg14, Try.sizeOf14⟩
theorem Z14 : ZeroF Try.prog 14 (Go.Value.agg #[Go.Value.string (ByteArray.mk #[]), Go.Value.int Go.IntKind.u64 0]) := Try.zeroValue14
theorem F14_0 : FieldF Try.prog 14 0 0 := FieldF.of Try.runUnderlying14 rfl rfl Try.sizeOf9
theorem V14_0 : ∀ (vs : Array Value) (v : Value) (w : World), vs[0]? = some v → (Instr.field 14 (.agg vs) 0).run Try.prog w = .ok v w := fun vs v w h => by simp [Instr.field, Try.runUnderlying14, part, Try.isAgg9, asAgg, h]
theorem F14_1 : FieldF Try.prog 14 1 1 := FieldF.of Try.runUnderlying14 rfl rfl Try.sizeOf12
theorem V14_1 : ∀ (vs : Array Value) (v : Value) (w : World), vs[1]? = some v → (Instr.field 14 (.agg vs) 1).run Try.prog w = .ok v w := fun vs v w h => by simp [Instr.field, Try.runUnderlying14, part, Try.isAgg12, asAgg, h]
theorem BF14 : BuildF Try.prog 14 [Go.Value.string (ByteArray.mk #[]), Go.Value.int Go.IntKind.u64 0] := ⟨Try.zeroValue14, by simp [Value.oneCell'], _, Try.runUnderlying14, fun w => by
  simp [Sem.run_bind, Result.andThen, Try.sizeOf9, Try.sizeOf12, List.range, List.range.loop]⟩
theorem O15 : OneF Try.prog 15 := ⟨Try.isAgg15, Try.sizeOf15⟩
theorem Z15 : ZeroF Try.prog 15 (Go.Value.pointer none) := Try.zeroValue15
theorem O16 : OneF Try.prog 16 := ⟨Try.isAgg16, Try.sizeOf16⟩
theorem Z16 : ZeroF Try.prog 16 (Go.Value.pointer none) := Try.zeroValue16
theorem O17 : OneF Try.prog 17 := ⟨Try.isAgg17, Try.sizeOf17⟩
theorem Z17 : ZeroF Try.prog 17 (Go.Value.pointer none) := Try.zeroValue17
theorem A18 : AggF Try.prog 18 1 := ⟨Try.isAgg18, Try.sizeOf18⟩
theorem Z18 : ZeroF Try.prog 18 (Go.Value.agg #[Go.Value.pointer none]) := Try.zeroValue18
theorem F18_0 : FieldF Try.prog 18 0 0 := FieldF.of Try.runUnderlying18 rfl rfl Try.sizeOf17
theorem V18_0 : ∀ (vs : Array Value) (v : Value) (w : World), vs[0]? = some v → (Instr.field 18 (.agg vs) 0).run Try.prog w = .ok v w := fun vs v w h => by simp [Instr.field, Try.runUnderlying18, part, Try.isAgg17, asAgg, h]
theorem BF18 : BuildF Try.prog 18 [Go.Value.pointer none] := ⟨Try.zeroValue18, by simp [Value.oneCell'], _, Try.runUnderlying18, fun w => by
  simp [Sem.run_bind, Result.andThen, Try.sizeOf17, List.range, List.range.loop]⟩
theorem A19 : AggF Try.prog 19 1 := ⟨Try.isAgg19, Try.sizeOf19⟩
theorem Z19 : ZeroF Try.prog 19 (Go.Value.agg #[Go.Value.pointer none]) := Try.zeroValue19
theorem F19_0 : FieldF Try.prog 19 0 0 := FieldF.of Try.runUnderlying19 rfl rfl Try.sizeOf17
theorem V19_0 : ∀ (vs : Array Value) (v : Value) (w : World), vs[0]? = some v → (Instr.field 19 (.agg vs) 0).run Try.prog w = .ok v w := fun vs v w h => by simp [Instr.field, Try.runUnderlying19, part, Try.isAgg17, asAgg, h]
theorem BF19 : BuildF Try.prog 19 [Go.Value.pointer none] := ⟨Try.zeroValue19, by simp [Value.oneCell'], _, Try.runUnderlying19, fun w => by
  simp [Sem.run_bind, Result.andThen, Try.sizeOf17, List.range, List.range.loop]⟩
theorem O20 : OneF Try.prog 20 := ⟨Try.isAgg20, Try.sizeOf20⟩
theorem Z20 : ZeroF Try.prog 20 (Go.Value.nilIface) := Try.zeroValue20
theorem O21 : OneF Try.prog 21 := ⟨Try.isAgg21, Try.sizeOf21⟩
theorem Z21 : ZeroF Try.prog 21 (Go.Value.int Go.IntKind.i32 0) := Try.zeroValue21
theorem O22 : OneF Try.prog 22 := ⟨Try.isAgg22, Try.sizeOf22⟩
theorem Z22 : ZeroF Try.prog 22 (Go.Value.slice none 0 0) := Try.zeroValue22
theorem I22 : IndexF Try.prog 22 5 := IndexF.of Try.runUnderlying22 Try.sizeOf45
theorem S22 : SliceT Try.prog 22 := ⟨_, Try.runUnderlying22⟩
theorem AP22 : AppF Try.prog 22 45 5 := ⟨Try.underlying22, by kernel_rfl⟩
theorem SF22 : SliceF Try.prog 22 5 := ⟨_, Try.runUnderlying22, Try.sizeOf45⟩
theorem O23 : OneF Try.prog 23 := ⟨Try.isAgg23, Try.sizeOf23⟩
theorem Z23 : ZeroF Try.prog 23 (Go.Value.slice none 0 0) := Try.zeroValue23
theorem I23 : IndexF Try.prog 23 1 := IndexF.of Try.runUnderlying23 Try.sizeOf5
theorem S23 : SliceT Try.prog 23 := ⟨_, Try.runUnderlying23⟩
theorem AP23 : AppF Try.prog 23 5 1 := ⟨Try.underlying23, by kernel_rfl⟩
theorem SF23 : SliceF Try.prog 23 1 := ⟨_, Try.runUnderlying23, Try.sizeOf5⟩
theorem O24 : OneF Try.prog 24 := ⟨Try.isAgg24, Try.sizeOf24⟩
theorem Z24 : ZeroF Try.prog 24 (Go.Value.nilFunc) := Try.zeroValue24
theorem O25 : OneF Try.prog 25 := ⟨Try.isAgg25, Try.sizeOf25⟩
theorem Z25 : ZeroF Try.prog 25 (Go.Value.nilFunc) := Try.zeroValue25
theorem O26 : OneF Try.prog 26 := ⟨Try.isAgg26, Try.sizeOf26⟩
theorem Z26 : ZeroF Try.prog 26 (Go.Value.slice none 0 0) := Try.zeroValue26
theorem I26 : IndexF Try.prog 26 3 := IndexF.of Try.runUnderlying26 Try.sizeOf34
theorem S26 : SliceT Try.prog 26 := ⟨_, Try.runUnderlying26⟩
theorem AP26 : AppF Try.prog 26 34 3 := ⟨Try.underlying26, by kernel_rfl⟩
theorem SF26 : SliceF Try.prog 26 3 := ⟨_, Try.runUnderlying26, Try.sizeOf34⟩
theorem O27 : OneF Try.prog 27 := ⟨Try.isAgg27, Try.sizeOf27⟩
theorem Z27 : ZeroF Try.prog 27 (Go.Value.int Go.IntKind.i64 0) := Try.zeroValue27
theorem O28 : OneF Try.prog 28 := ⟨Try.isAgg28, Try.sizeOf28⟩
theorem Z28 : ZeroF Try.prog 28 (Go.Value.tuple #[Go.Value.slice none 0 0, Go.Value.int Go.IntKind.i64 0, Go.Value.int Go.IntKind.i64 0]) := Try.zeroValue28
theorem O29 : OneF Try.prog 29 := ⟨Try.isAgg29, Try.sizeOf29⟩
theorem Z29 : ZeroF Try.prog 29 (Go.Value.nilFunc) := Try.zeroValue29
theorem O30 : OneF Try.prog 30 := ⟨Try.isAgg30, Try.sizeOf30⟩
theorem Z30 : ZeroF Try.prog 30 (Go.Value.nilFunc) := Try.zeroValue30
theorem O31 : OneF Try.prog 31 := ⟨Try.isAgg31, Try.sizeOf31⟩
theorem Z31 : ZeroF Try.prog 31 (Go.Value.nilFunc) := Try.zeroValue31
theorem O32 : OneF Try.prog 32 := ⟨Try.isAgg32, Try.sizeOf32⟩
theorem Z32 : ZeroF Try.prog 32 (Go.Value.int Go.IntKind.u64 0) := Try.zeroValue32
theorem A33 : AggF Try.prog 33 3 := ⟨Try.isAgg33, Try.sizeOf33⟩
theorem Z33 : ZeroF Try.prog 33 (Go.Value.agg #[Go.Value.int Go.IntKind.i64 0, Go.Value.int Go.IntKind.u64 0, Go.Value.string (ByteArray.mk #[])]) := Try.zeroValue33
theorem F33_0 : FieldF Try.prog 33 0 0 := FieldF.of Try.runUnderlying33 rfl rfl Try.sizeOf3
theorem V33_0 : ∀ (vs : Array Value) (v : Value) (w : World), vs[0]? = some v → (Instr.field 33 (.agg vs) 0).run Try.prog w = .ok v w := fun vs v w h => by simp [Instr.field, Try.runUnderlying33, part, Try.isAgg3, asAgg, h]
theorem F33_1 : FieldF Try.prog 33 1 1 := FieldF.of Try.runUnderlying33 rfl rfl Try.sizeOf32
theorem V33_1 : ∀ (vs : Array Value) (v : Value) (w : World), vs[1]? = some v → (Instr.field 33 (.agg vs) 1).run Try.prog w = .ok v w := fun vs v w h => by simp [Instr.field, Try.runUnderlying33, part, Try.isAgg32, asAgg, h]
theorem F33_2 : FieldF Try.prog 33 2 2 := FieldF.of Try.runUnderlying33 rfl rfl Try.sizeOf9
theorem V33_2 : ∀ (vs : Array Value) (v : Value) (w : World), vs[2]? = some v → (Instr.field 33 (.agg vs) 2).run Try.prog w = .ok v w := fun vs v w h => by simp [Instr.field, Try.runUnderlying33, part, Try.isAgg9, asAgg, h]
theorem BF33 : BuildF Try.prog 33 [Go.Value.int Go.IntKind.i64 0, Go.Value.int Go.IntKind.u64 0, Go.Value.string (ByteArray.mk #[])] := ⟨Try.zeroValue33, by simp [Value.oneCell'], _, Try.runUnderlying33, fun w => by
  simp [Sem.run_bind, Result.andThen, Try.sizeOf3, Try.sizeOf9, Try.sizeOf32, List.range, List.range.loop]⟩
theorem A34 : AggF Try.prog 34 3 := ⟨Try.isAgg34, Try.sizeOf34⟩
theorem Z34 : ZeroF Try.prog 34 (Go.Value.agg #[Go.Value.int Go.IntKind.i64 0, Go.Value.int Go.IntKind.u64 0, Go.Value.string (ByteArray.mk #[])]) := Try.zeroValue34
theorem F34_0 : FieldF Try.prog 34 0 0 := FieldF.of Try.runUnderlying34 rfl rfl Try.sizeOf3
theorem V34_0 : ∀ (vs : Array Value) (v : Value) (w : World), vs[0]? = some v → (Instr.field 34 (.agg vs) 0).run Try.prog w = .ok v w := fun vs v w h => by simp [Instr.field, Try.runUnderlying34, part, Try.isAgg3, asAgg, h]
theorem F34_1 : FieldF Try.prog 34 1 1 := FieldF.of Try.runUnderlying34 rfl rfl Try.sizeOf32
theorem V34_1 : ∀ (vs : Array Value) (v : Value) (w : World), vs[1]? = some v → (Instr.field 34 (.agg vs) 1).run Try.prog w = .ok v w := fun vs v w h => by simp [Instr.field, Try.runUnderlying34, part, Try.isAgg32, asAgg, h]
theorem F34_2 : FieldF Try.prog 34 2 2 := FieldF.of Try.runUnderlying34 rfl rfl Try.sizeOf9
theorem V34_2 : ∀ (vs : Array Value) (v : Value) (w : World), vs[2]? = some v → (Instr.field 34 (.agg vs) 2).run Try.prog w = .ok v w := fun vs v w h => by simp [Instr.field, Try.runUnderlying34, part, Try.isAgg9, asAgg, h]
theorem BF34 : BuildF Try.prog 34 [Go.Value.int Go.IntKind.i64 0, Go.Value.int Go.IntKind.u64 0, Go.Value.string (ByteArray.mk #[])] := ⟨Try.zeroValue34, by simp [Value.oneCell'], _, Try.runUnderlying34, fun w => by
  simp [Sem.run_bind, Result.andThen, Try.sizeOf3, Try.sizeOf9, Try.sizeOf32, List.range, List.range.loop]⟩
theorem QF34 (a0 b0 : Int) (a1 b1 : Int) (a2 b2 : List UInt8) : ∀ w, (Op.eqFields 9999 #[.int .i64 a0, .int .u64 a1, .string ⟨a2.toArray⟩] #[.int .i64 b0, .int .u64 b1, .string ⟨b2.toArray⟩] (#[⟨ "Tag", 3, 0, false, "", "", 0⟩, ⟨ "Num", 32, 1, false, "", "", 8⟩, ⟨ "Bytes", 9, 2, false, "", "", 16⟩] : Array Field).toList).run Try.prog w = .ok ((decide (a0 = b0) && decide (a1 = b1)) && decide (a2 = b2)) w := by
  intro w
  simp [Op.eqFields, part, byt_beq, run_equalIn_int (P := Try.prog) _ 9998 3 _ _ _ _ Try.underlying3, run_equalIn_int (P := Try.prog) _ 9998 32 _ _ _ _ Try.underlying32, run_equalIn_string (P := Try.prog) _ 9998 9 _ _ Try.underlying9, Try.isAgg3, Try.isAgg9, Try.isAgg32]
  by_cases h0 : a0 = b0 <;> by_cases h1 : a1 = b1 <;> by_cases h2 : a2 = b2 <;> simp [*]
theorem EQ34 (x y : Operand) (a0 b0 : Int) (a1 b1 : Int) (a2 b2 : List UInt8) : ∀ w, (do eqGuard .eql 34 x y (.agg #[.int .i64 a0, .int .u64 a1, .string ⟨a2.toArray⟩]) (.agg #[.int .i64 b0, .int .u64 b1, .string ⟨b2.toArray⟩]); binOp .eql 34 (.agg #[.int .i64 a0, .int .u64 a1, .string ⟨a2.toArray⟩]) (.agg #[.int .i64 b0, .int .u64 b1, .string ⟨b2.toArray⟩]) : Sem Value).run Try.prog w = .ok (.bool ((decide (a0 = b0) && decide (a1 = b1)) && decide (a2 = b2))) w := run_eqS Try.underlying34 Try.stoodInHeld34 Try.eqGuardType34 (QF34 a0 b0 a1 b1 a2 b2) x y
theorem NE34 (x y : Operand) (a0 b0 : Int) (a1 b1 : Int) (a2 b2 : List UInt8) : ∀ w, (do eqGuard .neq 34 x y (.agg #[.int .i64 a0, .int .u64 a1, .string ⟨a2.toArray⟩]) (.agg #[.int .i64 b0, .int .u64 b1, .string ⟨b2.toArray⟩]); binOp .neq 34 (.agg #[.int .i64 a0, .int .u64 a1, .string ⟨a2.toArray⟩]) (.agg #[.int .i64 b0, .int .u64 b1, .string ⟨b2.toArray⟩]) : Sem Value).run Try.prog w = .ok (.bool (!((decide (a0 = b0) && decide (a1 = b1)) && decide (a2 = b2)))) w := run_neS Try.underlying34 Try.stoodInHeld34 Try.eqGuardType34 (QF34 a0 b0 a1 b1 a2 b2) x y
theorem O35 : OneF Try.prog 35 := ⟨Try.isAgg35, Try.sizeOf35⟩
theorem Z35 : ZeroF Try.prog 35 (Go.Value.tuple #[Go.Value.agg #[Go.Value.int Go.IntKind.i64 0, Go.Value.int Go.IntKind.u64 0, Go.Value.string (ByteArray.mk #[])], Go.Value.bool false]) := Try.zeroValue35
theorem O36 : OneF Try.prog 36 := ⟨Try.isAgg36, Try.sizeOf36⟩
theorem Z36 : ZeroF Try.prog 36 (Go.Value.nilFunc) := Try.zeroValue36
theorem O37 : OneF Try.prog 37 := ⟨Try.isAgg37, Try.sizeOf37⟩
theorem Z37 : ZeroF Try.prog 37 (Go.Value.nilFunc) := Try.zeroValue37
theorem O38 : OneF Try.prog 38 := ⟨Try.isAgg38, Try.sizeOf38⟩
theorem Z38 : ZeroF Try.prog 38 (Go.Value.tuple #[Go.Value.slice none 0 0, Go.Value.int Go.IntKind.i64 0]) := Try.zeroValue38
theorem O39 : OneF Try.prog 39 := ⟨Try.isAgg39, Try.sizeOf39⟩
theorem Z39 : ZeroF Try.prog 39 (Go.Value.nilFunc) := Try.zeroValue39
theorem O40 : OneF Try.prog 40 := ⟨Try.isAgg40, Try.sizeOf40⟩
theorem Z40 : ZeroF Try.prog 40 (Go.Value.int Go.IntKind.u16 0) := Try.zeroValue40
theorem O41 : OneF Try.prog 41 := ⟨Try.isAgg41, Try.sizeOf41⟩
theorem Z41 : ZeroF Try.prog 41 (Go.Value.nilFunc) := Try.zeroValue41
theorem A42 : AggF Try.prog 42 4 := ⟨Try.isAgg42, Try.sizeOf42⟩
theorem Z42 : ZeroF Try.prog 42 (Go.Value.agg #[Go.Value.int Go.IntKind.u8 0, Go.Value.int Go.IntKind.u8 0, Go.Value.int Go.IntKind.u8 0, Go.Value.bool false]) := Try.zeroValue42
theorem F42_0 : FieldF Try.prog 42 0 0 := FieldF.of Try.runUnderlying42 rfl rfl Try.sizeOf5
theorem V42_0 : ∀ (vs : Array Value) (v : Value) (w : World), vs[0]? = some v → (Instr.field 42 (.agg vs) 0).run Try.prog w = .ok v w := fun vs v w h => by simp [Instr.field, Try.runUnderlying42, part, Try.isAgg5, asAgg, h]
theorem F42_1 : FieldF Try.prog 42 1 1 := FieldF.of Try.runUnderlying42 rfl rfl Try.sizeOf5
theorem V42_1 : ∀ (vs : Array Value) (v : Value) (w : World), vs[1]? = some v → (Instr.field 42 (.agg vs) 1).run Try.prog w = .ok v w := fun vs v w h => by simp [Instr.field, Try.runUnderlying42, part, Try.isAgg5, asAgg, h]
theorem F42_2 : FieldF Try.prog 42 2 2 := FieldF.of Try.runUnderlying42 rfl rfl Try.sizeOf5
theorem V42_2 : ∀ (vs : Array Value) (v : Value) (w : World), vs[2]? = some v → (Instr.field 42 (.agg vs) 2).run Try.prog w = .ok v w := fun vs v w h => by simp [Instr.field, Try.runUnderlying42, part, Try.isAgg5, asAgg, h]
theorem F42_3 : FieldF Try.prog 42 3 3 := FieldF.of Try.runUnderlying42 rfl rfl Try.sizeOf4
theorem V42_3 : ∀ (vs : Array Value) (v : Value) (w : World), vs[3]? = some v → (Instr.field 42 (.agg vs) 3).run Try.prog w = .ok v w := fun vs v w h => by simp [Instr.field, Try.runUnderlying42, part, Try.isAgg4, asAgg, h]
theorem BF42 : BuildF Try.prog 42 [Go.Value.int Go.IntKind.u8 0, Go.Value.int Go.IntKind.u8 0, Go.Value.int Go.IntKind.u8 0, Go.Value.bool false] := ⟨Try.zeroValue42, by simp [Value.oneCell'], _, Try.runUnderlying42, fun w => by
  simp [Sem.run_bind, Result.andThen, Try.sizeOf4, Try.sizeOf5, List.range, List.range.loop]⟩
theorem A43 : AggF Try.prog 43 4 := ⟨Try.isAgg43, Try.sizeOf43⟩
theorem Z43 : ZeroF Try.prog 43 (Go.Value.agg #[Go.Value.int Go.IntKind.u8 0, Go.Value.int Go.IntKind.u8 0, Go.Value.int Go.IntKind.u8 0, Go.Value.bool false]) := Try.zeroValue43
theorem F43_0 : FieldF Try.prog 43 0 0 := FieldF.of Try.runUnderlying43 rfl rfl Try.sizeOf5
theorem V43_0 : ∀ (vs : Array Value) (v : Value) (w : World), vs[0]? = some v → (Instr.field 43 (.agg vs) 0).run Try.prog w = .ok v w := fun vs v w h => by simp [Instr.field, Try.runUnderlying43, part, Try.isAgg5, asAgg, h]
theorem F43_1 : FieldF Try.prog 43 1 1 := FieldF.of Try.runUnderlying43 rfl rfl Try.sizeOf5
theorem V43_1 : ∀ (vs : Array Value) (v : Value) (w : World), vs[1]? = some v → (Instr.field 43 (.agg vs) 1).run Try.prog w = .ok v w := fun vs v w h => by simp [Instr.field, Try.runUnderlying43, part, Try.isAgg5, asAgg, h]
theorem F43_2 : FieldF Try.prog 43 2 2 := FieldF.of Try.runUnderlying43 rfl rfl Try.sizeOf5
theorem V43_2 : ∀ (vs : Array Value) (v : Value) (w : World), vs[2]? = some v → (Instr.field 43 (.agg vs) 2).run Try.prog w = .ok v w := fun vs v w h => by simp [Instr.field, Try.runUnderlying43, part, Try.isAgg5, asAgg, h]
theorem F43_3 : FieldF Try.prog 43 3 3 := FieldF.of Try.runUnderlying43 rfl rfl Try.sizeOf4
theorem V43_3 : ∀ (vs : Array Value) (v : Value) (w : World), vs[3]? = some v → (Instr.field 43 (.agg vs) 3).run Try.prog w = .ok v w := fun vs v w h => by simp [Instr.field, Try.runUnderlying43, part, Try.isAgg4, asAgg, h]
theorem BF43 : BuildF Try.prog 43 [Go.Value.int Go.IntKind.u8 0, Go.Value.int Go.IntKind.u8 0, Go.Value.int Go.IntKind.u8 0, Go.Value.bool false] := ⟨Try.zeroValue43, by simp [Value.oneCell'], _, Try.runUnderlying43, fun w => by
  simp [Sem.run_bind, Result.andThen, Try.sizeOf4, Try.sizeOf5, List.range, List.range.loop]⟩
theorem A44 : AggF Try.prog 44 5 := ⟨Try.isAgg44, Try.sizeOf44⟩
theorem Z44 : ZeroF Try.prog 44 (Go.Value.agg #[Go.Value.int Go.IntKind.i64 0, Go.Value.int Go.IntKind.i64 0, Go.Value.int Go.IntKind.u64 0, Go.Value.int Go.IntKind.u64 0, Go.Value.bool false]) := Try.zeroValue44
theorem F44_0 : FieldF Try.prog 44 0 0 := FieldF.of Try.runUnderlying44 rfl rfl Try.sizeOf3
theorem V44_0 : ∀ (vs : Array Value) (v : Value) (w : World), vs[0]? = some v → (Instr.field 44 (.agg vs) 0).run Try.prog w = .ok v w := fun vs v w h => by simp [Instr.field, Try.runUnderlying44, part, Try.isAgg3, asAgg, h]
theorem F44_1 : FieldF Try.prog 44 1 1 := FieldF.of Try.runUnderlying44 rfl rfl Try.sizeOf3
theorem V44_1 : ∀ (vs : Array Value) (v : Value) (w : World), vs[1]? = some v → (Instr.field 44 (.agg vs) 1).run Try.prog w = .ok v w := fun vs v w h => by simp [Instr.field, Try.runUnderlying44, part, Try.isAgg3, asAgg, h]
theorem F44_2 : FieldF Try.prog 44 2 2 := FieldF.of Try.runUnderlying44 rfl rfl Try.sizeOf32
theorem V44_2 : ∀ (vs : Array Value) (v : Value) (w : World), vs[2]? = some v → (Instr.field 44 (.agg vs) 2).run Try.prog w = .ok v w := fun vs v w h => by simp [Instr.field, Try.runUnderlying44, part, Try.isAgg32, asAgg, h]
theorem F44_3 : FieldF Try.prog 44 3 3 := FieldF.of Try.runUnderlying44 rfl rfl Try.sizeOf32
theorem V44_3 : ∀ (vs : Array Value) (v : Value) (w : World), vs[3]? = some v → (Instr.field 44 (.agg vs) 3).run Try.prog w = .ok v w := fun vs v w h => by simp [Instr.field, Try.runUnderlying44, part, Try.isAgg32, asAgg, h]
theorem F44_4 : FieldF Try.prog 44 4 4 := FieldF.of Try.runUnderlying44 rfl rfl Try.sizeOf4
theorem V44_4 : ∀ (vs : Array Value) (v : Value) (w : World), vs[4]? = some v → (Instr.field 44 (.agg vs) 4).run Try.prog w = .ok v w := fun vs v w h => by simp [Instr.field, Try.runUnderlying44, part, Try.isAgg4, asAgg, h]
theorem BF44 : BuildF Try.prog 44 [Go.Value.int Go.IntKind.i64 0, Go.Value.int Go.IntKind.i64 0, Go.Value.int Go.IntKind.u64 0, Go.Value.int Go.IntKind.u64 0, Go.Value.bool false] := ⟨Try.zeroValue44, by simp [Value.oneCell'], _, Try.runUnderlying44, fun w => by
  simp [Sem.run_bind, Result.andThen, Try.sizeOf3, Try.sizeOf4, Try.sizeOf32, List.range, List.range.loop]⟩
theorem A45 : AggF Try.prog 45 5 := ⟨Try.isAgg45, Try.sizeOf45⟩
theorem Z45 : ZeroF Try.prog 45 (Go.Value.agg #[Go.Value.int Go.IntKind.i64 0, Go.Value.int Go.IntKind.i64 0, Go.Value.int Go.IntKind.u64 0, Go.Value.int Go.IntKind.u64 0, Go.Value.bool false]) := Try.zeroValue45
theorem F45_0 : FieldF Try.prog 45 0 0 := FieldF.of Try.runUnderlying45 rfl rfl Try.sizeOf3
theorem V45_0 : ∀ (vs : Array Value) (v : Value) (w : World), vs[0]? = some v → (Instr.field 45 (.agg vs) 0).run Try.prog w = .ok v w := fun vs v w h => by simp [Instr.field, Try.runUnderlying45, part, Try.isAgg3, asAgg, h]
theorem F45_1 : FieldF Try.prog 45 1 1 := FieldF.of Try.runUnderlying45 rfl rfl Try.sizeOf3
theorem V45_1 : ∀ (vs : Array Value) (v : Value) (w : World), vs[1]? = some v → (Instr.field 45 (.agg vs) 1).run Try.prog w = .ok v w := fun vs v w h => by simp [Instr.field, Try.runUnderlying45, part, Try.isAgg3, asAgg, h]
theorem F45_2 : FieldF Try.prog 45 2 2 := FieldF.of Try.runUnderlying45 rfl rfl Try.sizeOf32
theorem V45_2 : ∀ (vs : Array Value) (v : Value) (w : World), vs[2]? = some v → (Instr.field 45 (.agg vs) 2).run Try.prog w = .ok v w := fun vs v w h => by simp [Instr.field, Try.runUnderlying45, part, Try.isAgg32, asAgg, h]
theorem F45_3 : FieldF Try.prog 45 3 3 := FieldF.of Try.runUnderlying45 rfl rfl Try.sizeOf32
theorem V45_3 : ∀ (vs : Array Value) (v : Value) (w : World), vs[3]? = some v → (Instr.field 45 (.agg vs) 3).run Try.prog w = .ok v w := fun vs v w h => by simp [Instr.field, Try.runUnderlying45, part, Try.isAgg32, asAgg, h]
theorem F45_4 : FieldF Try.prog 45 4 4 := FieldF.of Try.runUnderlying45 rfl rfl Try.sizeOf4
theorem V45_4 : ∀ (vs : Array Value) (v : Value) (w : World), vs[4]? = some v → (Instr.field 45 (.agg vs) 4).run Try.prog w = .ok v w := fun vs v w h => by simp [Instr.field, Try.runUnderlying45, part, Try.isAgg4, asAgg, h]
theorem BF45 : BuildF Try.prog 45 [Go.Value.int Go.IntKind.i64 0, Go.Value.int Go.IntKind.i64 0, Go.Value.int Go.IntKind.u64 0, Go.Value.int Go.IntKind.u64 0, Go.Value.bool false] := ⟨Try.zeroValue45, by simp [Value.oneCell'], _, Try.runUnderlying45, fun w => by
  simp [Sem.run_bind, Result.andThen, Try.sizeOf3, Try.sizeOf4, Try.sizeOf32, List.range, List.range.loop]⟩
theorem O46 : OneF Try.prog 46 := ⟨Try.isAgg46, Try.sizeOf46⟩
theorem Z46 : ZeroF Try.prog 46 (Go.Value.nilFunc) := Try.zeroValue46
theorem O47 : OneF Try.prog 47 := ⟨Try.isAgg47, Try.sizeOf47⟩
theorem Z47 : ZeroF Try.prog 47 (Go.Value.nilFunc) := Try.zeroValue47
theorem A48 : AggF Try.prog 48 7 := ⟨Try.isAgg48, Try.sizeOf48⟩
theorem Z48 : ZeroF Try.prog 48 (Go.Value.agg #[Go.Value.string (ByteArray.mk #[]), Go.Value.string (ByteArray.mk #[]), Go.Value.string (ByteArray.mk #[]), Go.Value.string (ByteArray.mk #[]), Go.Value.string (ByteArray.mk #[]), Go.Value.string (ByteArray.mk #[]), Go.Value.string (ByteArray.mk #[])]) := Try.zeroValue48
theorem I48 : IndexAF Try.prog 48 7 1 := IndexAF.of Try.runUnderlying48 Try.sizeOf9
theorem A49 : AggF Try.prog 49 7 := ⟨Try.isAgg49, Try.sizeOf49⟩
theorem Z49 : ZeroF Try.prog 49 (Go.Value.agg #[Go.Value.int Go.IntKind.i64 0, Go.Value.int Go.IntKind.i64 0, Go.Value.int Go.IntKind.i64 0, Go.Value.int Go.IntKind.i64 0, Go.Value.int Go.IntKind.i64 0, Go.Value.int Go.IntKind.i64 0, Go.Value.int Go.IntKind.i64 0]) := Try.zeroValue49
theorem I49 : IndexAF Try.prog 49 7 1 := IndexAF.of Try.runUnderlying49 Try.sizeOf3
theorem O50 : OneF Try.prog 50 := ⟨Try.isAgg50, Try.sizeOf50⟩
theorem Z50 : ZeroF Try.prog 50 (Go.Value.tuple #[Go.Value.int Go.IntKind.i64 0, Go.Value.int Go.IntKind.i64 0]) := Try.zeroValue50
theorem O51 : OneF Try.prog 51 := ⟨Try.isAgg51, Try.sizeOf51⟩
theorem Z51 : ZeroF Try.prog 51 (Go.Value.nilFunc) := Try.zeroValue51
theorem O52 : OneF Try.prog 52 := ⟨Try.isAgg52, Try.sizeOf52⟩
theorem Z52 : ZeroF Try.prog 52 (Go.Value.nilFunc) := Try.zeroValue52
theorem O53 : OneF Try.prog 53 := ⟨Try.isAgg53, Try.sizeOf53⟩
theorem Z53 : ZeroF Try.prog 53 (Go.Value.slice none 0 0) := Try.zeroValue53
theorem I53 : IndexF Try.prog 53 1 := IndexF.of Try.runUnderlying53 Try.sizeOf3
theorem S53 : SliceT Try.prog 53 := ⟨_, Try.runUnderlying53⟩
theorem AP53 : AppF Try.prog 53 3 1 := ⟨Try.underlying53, by kernel_rfl⟩
theorem SF53 : SliceF Try.prog 53 1 := ⟨_, Try.runUnderlying53, Try.sizeOf3⟩
theorem O54 : OneF Try.prog 54 := ⟨Try.isAgg54, Try.sizeOf54⟩
theorem Z54 : ZeroF Try.prog 54 (Go.Value.nilFunc) := Try.zeroValue54
theorem O55 : OneF Try.prog 55 := ⟨Try.isAgg55, Try.sizeOf55⟩
theorem Z55 : ZeroF Try.prog 55 (Go.Value.tuple #[Go.Value.agg #[Go.Value.int Go.IntKind.i64 0, Go.Value.int Go.IntKind.i64 0, Go.Value.int Go.IntKind.u64 0, Go.Value.int Go.IntKind.u64 0, Go.Value.bool false], Go.Value.bool false]) := Try.zeroValue55
theorem O56 : OneF Try.prog 56 := ⟨Try.isAgg56, Try.sizeOf56⟩
theorem Z56 : ZeroF Try.prog 56 (Go.Value.nilFunc) := Try.zeroValue56
theorem O57 : OneF Try.prog 57 := ⟨Try.isAgg57, Try.sizeOf57⟩
theorem Z57 : ZeroF Try.prog 57 (Go.Value.tuple #[Go.Value.agg #[Go.Value.int Go.IntKind.i64 0, Go.Value.int Go.IntKind.u64 0, Go.Value.string (ByteArray.mk #[])], Go.Value.slice none 0 0, Go.Value.bool false]) := Try.zeroValue57
theorem O58 : OneF Try.prog 58 := ⟨Try.isAgg58, Try.sizeOf58⟩
theorem Z58 : ZeroF Try.prog 58 (Go.Value.nilFunc) := Try.zeroValue58
theorem O59 : OneF Try.prog 59 := ⟨Try.isAgg59, Try.sizeOf59⟩
theorem Z59 : ZeroF Try.prog 59 (Go.Value.nilFunc) := Try.zeroValue59
theorem O60 : OneF Try.prog 60 := ⟨Try.isAgg60, Try.sizeOf60⟩
theorem Z60 : ZeroF Try.prog 60 (Go.Value.nilFunc) := Try.zeroValue60
theorem O61 : OneF Try.prog 61 := ⟨Try.isAgg61, Try.sizeOf61⟩
theorem Z61 : ZeroF Try.prog 61 (Go.Value.tuple #[Go.Value.agg #[Go.Value.int Go.IntKind.i64 0, Go.Value.int Go.IntKind.u64 0, Go.Value.string (ByteArray.mk #[])], Go.Value.int Go.IntKind.i64 0, Go.Value.bool false]) := Try.zeroValue61
theorem O62 : OneF Try.prog 62 := ⟨Try.isAgg62, Try.sizeOf62⟩
theorem Z62 : ZeroF Try.prog 62 (Go.Value.nilFunc) := Try.zeroValue62
theorem O63 : OneF Try.prog 63 := ⟨Try.isAgg63, Try.sizeOf63⟩
theorem Z63 : ZeroF Try.prog 63 (Go.Value.nilFunc) := Try.zeroValue63
theorem O64 : OneF Try.prog 64 := ⟨Try.isAgg64, Try.sizeOf64⟩
theorem Z64 : ZeroF Try.prog 64 (Go.Value.nilFunc) := Try.zeroValue64
theorem O65 : OneF Try.prog 65 := ⟨Try.isAgg65, Try.sizeOf65⟩
theorem Z65 : ZeroF Try.prog 65 (Go.Value.nilFunc) := Try.zeroValue65
theorem O66 : OneF Try.prog 66 := ⟨Try.isAgg66, Try.sizeOf66⟩
theorem Z66 : ZeroF Try.prog 66 (Go.Value.nilFunc) := Try.zeroValue66
theorem O67 : OneF Try.prog 67 := ⟨Try.isAgg67, Try.sizeOf67⟩
theorem Z67 : ZeroF Try.prog 67 (Go.Value.nilFunc) := Try.zeroValue67
theorem O68 : OneF Try.prog 68 := ⟨Try.isAgg68, Try.sizeOf68⟩
theorem Z68 : ZeroF Try.prog 68 (Go.Value.nilFunc) := Try.zeroValue68
theorem O69 : OneF Try.prog 69 := ⟨Try.isAgg69, Try.sizeOf69⟩
theorem Z69 : ZeroF Try.prog 69 (Go.Value.nilFunc) := Try.zeroValue69
theorem O70 : OneF Try.prog 70 := ⟨Try.isAgg70, Try.sizeOf70⟩
theorem Z70 : ZeroF Try.prog 70 (Go.Value.int Go.IntKind.u64 0) := Try.zeroValue70
theorem O71 : OneF Try.prog 71 := ⟨Try.isAgg71, Try.sizeOf71⟩
theorem Z71 : ZeroF Try.prog 71 (Go.Value.nilFunc) := Try.zeroValue71
theorem O72 : OneF Try.prog 72 := ⟨Try.isAgg72, Try.sizeOf72⟩
theorem Z72 : ZeroF Try.prog 72 (Go.Value.nilFunc) := Try.zeroValue72
theorem O73 : OneF Try.prog 73 := ⟨Try.isAgg73, Try.sizeOf73⟩
theorem Z73 : ZeroF Try.prog 73 (Go.Value.nilFunc) := Try.zeroValue73
theorem O74 : OneF Try.prog 74 := ⟨Try.isAgg74, Try.sizeOf74⟩
theorem Z74 : ZeroF Try.prog 74 (Go.Value.nilFunc) := Try.zeroValue74
theorem O75 : OneF Try.prog 75 := ⟨Try.isAgg75, Try.sizeOf75⟩
theorem Z75 : ZeroF Try.prog 75 (Go.Value.nilFunc) := Try.zeroValue75
theorem O76 : OneF Try.prog 76 := ⟨Try.isAgg76, Try.sizeOf76⟩
theorem Z76 : ZeroF Try.prog 76 (Go.Value.nilFunc) := Try.zeroValue76
theorem O77 : OneF Try.prog 77 := ⟨Try.isAgg77, Try.sizeOf77⟩
theorem Z77 : ZeroF Try.prog 77 (Go.Value.nilFunc) := Try.zeroValue77
theorem O78 : OneF Try.prog 78 := ⟨Try.isAgg78, Try.sizeOf78⟩
theorem Z78 : ZeroF Try.prog 78 (Go.Value.nilFunc) := Try.zeroValue78
theorem O79 : OneF Try.prog 79 := ⟨Try.isAgg79, Try.sizeOf79⟩
theorem Z79 : ZeroF Try.prog 79 (Go.Value.nilFunc) := Try.zeroValue79
theorem O80 : OneF Try.prog 80 := ⟨Try.isAgg80, Try.sizeOf80⟩
theorem Z80 : ZeroF Try.prog 80 (Go.Value.nilFunc) := Try.zeroValue80
theorem A81 : AggF Try.prog 81 4 := ⟨Try.isAgg81, Try.sizeOf81⟩
theorem Z81 : ZeroF Try.prog 81 (Go.Value.agg #[Go.Value.pointer none, Go.Value.pointer none, Go.Value.pointer none, Go.Value.string (ByteArray.mk #[])]) := Try.zeroValue81
theorem F81_0 : FieldF Try.prog 81 0 0 := FieldF.of Try.runUnderlying81 rfl rfl Try.sizeOf17
theorem V81_0 : ∀ (vs : Array Value) (v : Value) (w : World), vs[0]? = some v → (Instr.field 81 (.agg vs) 0).run Try.prog w = .ok v w := fun vs v w h => by simp [Instr.field, Try.runUnderlying81, part, Try.isAgg17, asAgg, h]
theorem F81_1 : FieldF Try.prog 81 1 1 := FieldF.of Try.runUnderlying81 rfl rfl Try.sizeOf17
theorem V81_1 : ∀ (vs : Array Value) (v : Value) (w : World), vs[1]? = some v → (Instr.field 81 (.agg vs) 1).run Try.prog w = .ok v w := fun vs v w h => by simp [Instr.field, Try.runUnderlying81, part, Try.isAgg17, asAgg, h]
theorem F81_2 : FieldF Try.prog 81 2 2 := FieldF.of Try.runUnderlying81 rfl rfl Try.sizeOf17
theorem V81_2 : ∀ (vs : Array Value) (v : Value) (w : World), vs[2]? = some v → (Instr.field 81 (.agg vs) 2).run Try.prog w = .ok v w := fun vs v w h => by simp [Instr.field, Try.runUnderlying81, part, Try.isAgg17, asAgg, h]
theorem F81_3 : FieldF Try.prog 81 3 3 := FieldF.of Try.runUnderlying81 rfl rfl Try.sizeOf9
theorem V81_3 : ∀ (vs : Array Value) (v : Value) (w : World), vs[3]? = some v → (Instr.field 81 (.agg vs) 3).run Try.prog w = .ok v w := fun vs v w h => by simp [Instr.field, Try.runUnderlying81, part, Try.isAgg9, asAgg, h]
theorem BF81 : BuildF Try.prog 81 [Go.Value.pointer none, Go.Value.pointer none, Go.Value.pointer none, Go.Value.string (ByteArray.mk #[])] := ⟨Try.zeroValue81, by simp [Value.oneCell'], _, Try.runUnderlying81, fun w => by
  simp [Sem.run_bind, Result.andThen, Try.sizeOf9, Try.sizeOf17, List.range, List.range.loop]⟩
theorem A82 : AggF Try.prog 82 4 := ⟨Try.isAgg82, Try.sizeOf82⟩
theorem Z82 : ZeroF Try.prog 82 (Go.Value.agg #[Go.Value.pointer none, Go.Value.pointer none, Go.Value.pointer none, Go.Value.string (ByteArray.mk #[])]) := Try.zeroValue82
theorem F82_0 : FieldF Try.prog 82 0 0 := FieldF.of Try.runUnderlying82 rfl rfl Try.sizeOf17
theorem V82_0 : ∀ (vs : Array Value) (v : Value) (w : World), vs[0]? = some v → (Instr.field 82 (.agg vs) 0).run Try.prog w = .ok v w := fun vs v w h => by simp [Instr.field, Try.runUnderlying82, part, Try.isAgg17, asAgg, h]
theorem F82_1 : FieldF Try.prog 82 1 1 := FieldF.of Try.runUnderlying82 rfl rfl Try.sizeOf17
theorem V82_1 : ∀ (vs : Array Value) (v : Value) (w : World), vs[1]? = some v → (Instr.field 82 (.agg vs) 1).run Try.prog w = .ok v w := fun vs v w h => by simp [Instr.field, Try.runUnderlying82, part, Try.isAgg17, asAgg, h]
theorem F82_2 : FieldF Try.prog 82 2 2 := FieldF.of Try.runUnderlying82 rfl rfl Try.sizeOf17
theorem V82_2 : ∀ (vs : Array Value) (v : Value) (w : World), vs[2]? = some v → (Instr.field 82 (.agg vs) 2).run Try.prog w = .ok v w := fun vs v w h => by simp [Instr.field, Try.runUnderlying82, part, Try.isAgg17, asAgg, h]
theorem F82_3 : FieldF Try.prog 82 3 3 := FieldF.of Try.runUnderlying82 rfl rfl Try.sizeOf9
theorem V82_3 : ∀ (vs : Array Value) (v : Value) (w : World), vs[3]? = some v → (Instr.field 82 (.agg vs) 3).run Try.prog w = .ok v w := fun vs v w h => by simp [Instr.field, Try.runUnderlying82, part, Try.isAgg9, asAgg, h]
theorem BF82 : BuildF Try.prog 82 [Go.Value.pointer none, Go.Value.pointer none, Go.Value.pointer none, Go.Value.string (ByteArray.mk #[])] := ⟨Try.zeroValue82, by simp [Value.oneCell'], _, Try.runUnderlying82, fun w => by
  simp [Sem.run_bind, Result.andThen, Try.sizeOf9, Try.sizeOf17, List.range, List.range.loop]⟩
theorem A83 : AggF Try.prog 83 0 := ⟨Try.isAgg83, Try.sizeOf83⟩
theorem Z83 : ZeroF Try.prog 83 (Go.Value.agg #[]) := Try.zeroValue83
theorem I83 : IndexAF Try.prog 83 0 1 := IndexAF.of Try.runUnderlying83 Try.sizeOf16
theorem A84 : AggF Try.prog 84 0 := ⟨Try.isAgg84, Try.sizeOf84⟩
theorem Z84 : ZeroF Try.prog 84 (Go.Value.agg #[]) := Try.zeroValue84
theorem A85 : AggF Try.prog 85 0 := ⟨Try.isAgg85, Try.sizeOf85⟩
theorem Z85 : ZeroF Try.prog 85 (Go.Value.agg #[]) := Try.zeroValue85
theorem O86 : OneF Try.prog 86 := ⟨Try.isAgg86, Try.sizeOf86⟩
theorem Z86 : ZeroF Try.prog 86 (Go.Value.nilFunc) := Try.zeroValue86
theorem O87 : OneF Try.prog 87 := ⟨Try.isAgg87, Try.sizeOf87⟩
theorem Z87 : ZeroF Try.prog 87 (Go.Value.int Go.IntKind.u32 0) := Try.zeroValue87
theorem O88 : OneF Try.prog 88 := ⟨Try.isAgg88, Try.sizeOf88⟩
theorem Z88 : ZeroF Try.prog 88 (Go.Value.int Go.IntKind.u8 0) := Try.zeroValue88
theorem O89 : OneF Try.prog 89 := ⟨Try.isAgg89, Try.sizeOf89⟩
theorem Z89 : ZeroF Try.prog 89 (Go.Value.int Go.IntKind.u8 0) := Try.zeroValue89
theorem O90 : OneF Try.prog 90 := ⟨Try.isAgg90, Try.sizeOf90⟩
theorem Z90 : ZeroF Try.prog 90 (Go.Value.nilFunc) := Try.zeroValue90
theorem O91 : OneF Try.prog 91 := ⟨Try.isAgg91, Try.sizeOf91⟩
theorem Z91 : ZeroF Try.prog 91 (Go.Value.pointer none) := Try.zeroValue91
theorem O92 : OneF Try.prog 92 := ⟨Try.isAgg92, Try.sizeOf92⟩
theorem Z92 : ZeroF Try.prog 92 (Go.Value.int Go.IntKind.i32 0) := Try.zeroValue92
theorem O93 : OneF Try.prog 93 := ⟨Try.isAgg93, Try.sizeOf93⟩
theorem Z93 : ZeroF Try.prog 93 (Go.Value.int Go.IntKind.i32 0) := Try.zeroValue93
theorem A94 : AggF Try.prog 94 11 := ⟨Try.isAgg94, Try.sizeOf94⟩
theorem Z94 : ZeroF Try.prog 94 (Go.Value.agg #[Go.Value.int Go.IntKind.u64 0, Go.Value.int Go.IntKind.u64 0, Go.Value.int Go.IntKind.u32 0, Go.Value.int Go.IntKind.u8 0, Go.Value.int Go.IntKind.u8 0, Go.Value.int Go.IntKind.u8 0, Go.Value.int Go.IntKind.u8 0, Go.Value.nilFunc, Go.Value.pointer none, Go.Value.int Go.IntKind.i32 0, Go.Value.int Go.IntKind.i32 0]) := Try.zeroValue94
theorem F94_0 : FieldF Try.prog 94 0 0 := FieldF.of Try.runUnderlying94 rfl rfl Try.sizeOf12
theorem V94_0 : ∀ (vs : Array Value) (v : Value) (w : World), vs[0]? = some v → (Instr.field 94 (.agg vs) 0).run Try.prog w = .ok v w := fun vs v w h => by simp [Instr.field, Try.runUnderlying94, part, Try.isAgg12, asAgg, h]
theorem F94_1 : FieldF Try.prog 94 1 1 := FieldF.of Try.runUnderlying94 rfl rfl Try.sizeOf12
theorem V94_1 : ∀ (vs : Array Value) (v : Value) (w : World), vs[1]? = some v → (Instr.field 94 (.agg vs) 1).run Try.prog w = .ok v w := fun vs v w h => by simp [Instr.field, Try.runUnderlying94, part, Try.isAgg12, asAgg, h]
theorem F94_2 : FieldF Try.prog 94 2 2 := FieldF.of Try.runUnderlying94 rfl rfl Try.sizeOf87
theorem V94_2 : ∀ (vs : Array Value) (v : Value) (w : World), vs[2]? = some v → (Instr.field 94 (.agg vs) 2).run Try.prog w = .ok v w := fun vs v w h => by simp [Instr.field, Try.runUnderlying94, part, Try.isAgg87, asAgg, h]
theorem F94_3 : FieldF Try.prog 94 3 3 := FieldF.of Try.runUnderlying94 rfl rfl Try.sizeOf88
theorem V94_3 : ∀ (vs : Array Value) (v : Value) (w : World), vs[3]? = some v → (Instr.field 94 (.agg vs) 3).run Try.prog w = .ok v w := fun vs v w h => by simp [Instr.field, Try.runUnderlying94, part, Try.isAgg88, asAgg, h]
theorem F94_4 : FieldF Try.prog 94 4 4 := FieldF.of Try.runUnderlying94 rfl rfl Try.sizeOf5
theorem V94_4 : ∀ (vs : Array Value) (v : Value) (w : World), vs[4]? = some v → (Instr.field 94 (.agg vs) 4).run Try.prog w = .ok v w := fun vs v w h => by simp [Instr.field, Try.runUnderlying94, part, Try.isAgg5, asAgg, h]
theorem F94_5 : FieldF Try.prog 94 5 5 := FieldF.of Try.runUnderlying94 rfl rfl Try.sizeOf5
theorem V94_5 : ∀ (vs : Array Value) (v : Value) (w : World), vs[5]? = some v → (Instr.field 94 (.agg vs) 5).run Try.prog w = .ok v w := fun vs v w h => by simp [Instr.field, Try.runUnderlying94, part, Try.isAgg5, asAgg, h]
theorem F94_6 : FieldF Try.prog 94 6 6 := FieldF.of Try.runUnderlying94 rfl rfl Try.sizeOf89
theorem V94_6 : ∀ (vs : Array Value) (v : Value) (w : World), vs[6]? = some v → (Instr.field 94 (.agg vs) 6).run Try.prog w = .ok v w := fun vs v w h => by simp [Instr.field, Try.runUnderlying94, part, Try.isAgg89, asAgg, h]
theorem F94_7 : FieldF Try.prog 94 7 7 := FieldF.of Try.runUnderlying94 rfl rfl Try.sizeOf90
theorem V94_7 : ∀ (vs : Array Value) (v : Value) (w : World), vs[7]? = some v → (Instr.field 94 (.agg vs) 7).run Try.prog w = .ok v w := fun vs v w h => by simp [Instr.field, Try.runUnderlying94, part, Try.isAgg90, asAgg, h]
theorem F94_8 : FieldF Try.prog 94 8 8 := FieldF.of Try.runUnderlying94 rfl rfl Try.sizeOf91
theorem V94_8 : ∀ (vs : Array Value) (v : Value) (w : World), vs[8]? = some v → (Instr.field 94 (.agg vs) 8).run Try.prog w = .ok v w := fun vs v w h => by simp [Instr.field, Try.runUnderlying94, part, Try.isAgg91, asAgg, h]
theorem F94_9 : FieldF Try.prog 94 9 9 := FieldF.of Try.runUnderlying94 rfl rfl Try.sizeOf92
theorem V94_9 : ∀ (vs : Array Value) (v : Value) (w : World), vs[9]? = some v → (Instr.field 94 (.agg vs) 9).run Try.prog w = .ok v w := fun vs v w h => by simp [Instr.field, Try.runUnderlying94, part, Try.isAgg92, asAgg, h]
theorem F94_10 : FieldF Try.prog 94 10 10 := FieldF.of Try.runUnderlying94 rfl rfl Try.sizeOf93
theorem V94_10 : ∀ (vs : Array Value) (v : Value) (w : World), vs[10]? = some v → (Instr.field 94 (.agg vs) 10).run Try.prog w = .ok v w := fun vs v w h => by simp [Instr.field, Try.runUnderlying94, part, Try.isAgg93, asAgg, h]
theorem BF94 : BuildF Try.prog 94 [Go.Value.int Go.IntKind.u64 0, Go.Value.int Go.IntKind.u64 0, Go.Value.int Go.IntKind.u32 0, Go.Value.int Go.IntKind.u8 0, Go.Value.int Go.IntKind.u8 0, Go.Value.int Go.IntKind.u8 0, Go.Value.int Go.IntKind.u8 0, Go.Value.nilFunc, Go.Value.pointer none, Go.Value.int Go.IntKind.i32 0, Go.Value.int Go.IntKind.i32 0] := ⟨Try.zeroValue94, by simp [Value.oneCell'], _, Try.runUnderlying94, fun w => by
  simp [Sem.run_bind, Result.andThen, Try.sizeOf5, Try.sizeOf12, Try.sizeOf87, Try.sizeOf88, Try.sizeOf89, Try.sizeOf90, Try.sizeOf91, Try.sizeOf92, Try.sizeOf93, List.range, List.range.loop]⟩
theorem A95 : AggF Try.prog 95 11 := ⟨Try.isAgg95, Try.sizeOf95⟩
theorem Z95 : ZeroF Try.prog 95 (Go.Value.agg #[Go.Value.int Go.IntKind.u64 0, Go.Value.int Go.IntKind.u64 0, Go.Value.int Go.IntKind.u32 0, Go.Value.int Go.IntKind.u8 0, Go.Value.int Go.IntKind.u8 0, Go.Value.int Go.IntKind.u8 0, Go.Value.int Go.IntKind.u8 0, Go.Value.nilFunc, Go.Value.pointer none, Go.Value.int Go.IntKind.i32 0, Go.Value.int Go.IntKind.i32 0]) := Try.zeroValue95
theorem F95_0 : FieldF Try.prog 95 0 0 := FieldF.of Try.runUnderlying95 rfl rfl Try.sizeOf12
theorem V95_0 : ∀ (vs : Array Value) (v : Value) (w : World), vs[0]? = some v → (Instr.field 95 (.agg vs) 0).run Try.prog w = .ok v w := fun vs v w h => by simp [Instr.field, Try.runUnderlying95, part, Try.isAgg12, asAgg, h]
theorem F95_1 : FieldF Try.prog 95 1 1 := FieldF.of Try.runUnderlying95 rfl rfl Try.sizeOf12
theorem V95_1 : ∀ (vs : Array Value) (v : Value) (w : World), vs[1]? = some v → (Instr.field 95 (.agg vs) 1).run Try.prog w = .ok v w := fun vs v w h => by simp [Instr.field, Try.runUnderlying95, part, Try.isAgg12, asAgg, h]
theorem F95_2 : FieldF Try.prog 95 2 2 := FieldF.of Try.runUnderlying95 rfl rfl Try.sizeOf87
theorem V95_2 : ∀ (vs : Array Value) (v : Value) (w : World), vs[2]? = some v → (Instr.field 95 (.agg vs) 2).run Try.prog w = .ok v w := fun vs v w h => by simp [Instr.field, Try.runUnderlying95, part, Try.isAgg87, asAgg, h]
theorem F95_3 : FieldF Try.prog 95 3 3 := FieldF.of Try.runUnderlying95 rfl rfl Try.sizeOf88
theorem V95_3 : ∀ (vs : Array Value) (v : Value) (w : World), vs[3]? = some v → (Instr.field 95 (.agg vs) 3).run Try.prog w = .ok v w := fun vs v w h => by simp [Instr.field, Try.runUnderlying95, part, Try.isAgg88, asAgg, h]
theorem F95_4 : FieldF Try.prog 95 4 4 := FieldF.of Try.runUnderlying95 rfl rfl Try.sizeOf5
theorem V95_4 : ∀ (vs : Array Value) (v : Value) (w : World), vs[4]? = some v → (Instr.field 95 (.agg vs) 4).run Try.prog w = .ok v w := fun vs v w h => by simp [Instr.field, Try.runUnderlying95, part, Try.isAgg5, asAgg, h]
theorem F95_5 : FieldF Try.prog 95 5 5 := FieldF.of Try.runUnderlying95 rfl rfl Try.sizeOf5
theorem V95_5 : ∀ (vs : Array Value) (v : Value) (w : World), vs[5]? = some v → (Instr.field 95 (.agg vs) 5).run Try.prog w = .ok v w := fun vs v w h => by simp [Instr.field, Try.runUnderlying95, part, Try.isAgg5, asAgg, h]
theorem F95_6 : FieldF Try.prog 95 6 6 := FieldF.of Try.runUnderlying95 rfl rfl Try.sizeOf89
theorem V95_6 : ∀ (vs : Array Value) (v : Value) (w : World), vs[6]? = some v → (Instr.field 95 (.agg vs) 6).run Try.prog w = .ok v w := fun vs v w h => by simp [Instr.field, Try.runUnderlying95, part, Try.isAgg89, asAgg, h]
theorem F95_7 : FieldF Try.prog 95 7 7 := FieldF.of Try.runUnderlying95 rfl rfl Try.sizeOf90
theorem V95_7 : ∀ (vs : Array Value) (v : Value) (w : World), vs[7]? = some v → (Instr.field 95 (.agg vs) 7).run Try.prog w = .ok v w := fun vs v w h => by simp [Instr.field, Try.runUnderlying95, part, Try.isAgg90, asAgg, h]
theorem F95_8 : FieldF Try.prog 95 8 8 := FieldF.of Try.runUnderlying95 rfl rfl Try.sizeOf91
theorem V95_8 : ∀ (vs : Array Value) (v : Value) (w : World), vs[8]? = some v → (Instr.field 95 (.agg vs) 8).run Try.prog w = .ok v w := fun vs v w h => by simp [Instr.field, Try.runUnderlying95, part, Try.isAgg91, asAgg, h]
theorem F95_9 : FieldF Try.prog 95 9 9 := FieldF.of Try.runUnderlying95 rfl rfl Try.sizeOf92
theorem V95_9 : ∀ (vs : Array Value) (v : Value) (w : World), vs[9]? = some v → (Instr.field 95 (.agg vs) 9).run Try.prog w = .ok v w := fun vs v w h => by simp [Instr.field, Try.runUnderlying95, part, Try.isAgg92, asAgg, h]
theorem F95_10 : FieldF Try.prog 95 10 10 := FieldF.of Try.runUnderlying95 rfl rfl Try.sizeOf93
theorem V95_10 : ∀ (vs : Array Value) (v : Value) (w : World), vs[10]? = some v → (Instr.field 95 (.agg vs) 10).run Try.prog w = .ok v w := fun vs v w h => by simp [Instr.field, Try.runUnderlying95, part, Try.isAgg93, asAgg, h]
theorem BF95 : BuildF Try.prog 95 [Go.Value.int Go.IntKind.u64 0, Go.Value.int Go.IntKind.u64 0, Go.Value.int Go.IntKind.u32 0, Go.Value.int Go.IntKind.u8 0, Go.Value.int Go.IntKind.u8 0, Go.Value.int Go.IntKind.u8 0, Go.Value.int Go.IntKind.u8 0, Go.Value.nilFunc, Go.Value.pointer none, Go.Value.int Go.IntKind.i32 0, Go.Value.int Go.IntKind.i32 0] := ⟨Try.zeroValue95, by simp [Value.oneCell'], _, Try.runUnderlying95, fun w => by
  simp [Sem.run_bind, Result.andThen, Try.sizeOf5, Try.sizeOf12, Try.sizeOf87, Try.sizeOf88, Try.sizeOf89, Try.sizeOf90, Try.sizeOf91, Try.sizeOf92, Try.sizeOf93, List.range, List.range.loop]⟩
theorem O96 : OneF Try.prog 96 := ⟨Try.isAgg96, Try.sizeOf96⟩
theorem Z96 : ZeroF Try.prog 96 (Go.Value.pointer none) := Try.zeroValue96
end Go.Proofs.Ytmiamhegohlglaa

