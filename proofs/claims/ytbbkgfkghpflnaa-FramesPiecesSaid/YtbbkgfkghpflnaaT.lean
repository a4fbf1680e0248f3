/- What the types of this program say, a fact each (no condition). -/
import Derived.Test.YtbbkgfkghpflnaaKE
import Derived.Test.YtbbkgfkghpflnaaProg
set_option linter.unusedSimpArgs false
set_option linter.unusedVariables false
namespace Go.Proofs.Ytbbkgfkghpflnaa
theorem mixedO : Try.prog.follows .mixedOrders = true := by kernel_rfl
theorem O0 : OneF Try.prog 0 := ⟨Try.isAgg0, Try.sizeOf0⟩
theorem Z0 : ZeroF Try.prog 0 (Go.Value.tuple #[]) := Try.zeroValue0
theorem O1 : OneF Try.prog 1 := ⟨Try.isAgg1, Try.sizeOf1⟩
theorem Z1 : ZeroF Try.prog 1 (Go.Value.nilFunc) := Try.zeroValue1
theorem O2 : OneF Try.prog 2 := ⟨Try.isAgg2, Try.sizeOf2⟩
theorem Z2 : ZeroF Try.prog 2 (Go.Value.int Go.IntKind.i64 0) := Try.zeroValue2
theorem O3 : OneF Try.prog 3 := ⟨Try.isAgg3, Try.sizeOf3⟩
theorem Z3 : ZeroF Try.prog 3 (Go.Value.int Go.IntKind.i64 0) := Try.zeroValue3
theorem O4 : OneF Try.prog 4 := ⟨Try.isAgg4, Try.sizeOf4⟩
theorem Z4 : ZeroF Try.prog 4 (Go.Value.bool false) := Try.zeroValue4
theorem O5 : OneF Try.prog 5 := ⟨Try.isAgg5, Try.sizeOf5⟩
theorem Z5 : ZeroF Try.prog 5 (Go.Value.int Go.IntKind.u8 0) := Try.zeroValue5
theorem O6 : OneF Try.prog 6 := ⟨Try.isAgg6, Try.sizeOf6⟩
theorem Z6 : ZeroF Try.prog 6 (Go.Value.int Go.IntKind.u8 0) := Try.zeroValue6
theorem A7 : AggF Try.prog 7 4 := ⟨Try.isAgg7, Try.sizeOf7⟩
theorem Z7 : ZeroF Try.prog 7 (Go.Value.agg #[Go.Value.int Go.IntKind.i64 0, Go.Value.int Go.IntKind.i64 0, Go.Value.bool false, Go.Value.int Go.IntKind.u8 0]) := Try.zeroValue7
theorem F7_0 : FieldF Try.prog 7 0 0 := FieldF.of Try.runUnderlying7 rfl rfl Try.sizeOf2
theorem V7_0 : ∀ (vs : Array Value) (v : Value) (w : World), vs[0]? = some v → (Instr.field 7 (.agg vs) 0).run Try.prog w = .ok v w := fun vs v w h => by simp [Instr.field, Try.runUnderlying7, part, Try.isAgg2, asAgg, h]
theorem F7_1 : FieldF Try.prog 7 1 1 := FieldF.of Try.runUnderlying7 rfl rfl Try.sizeOf3
theorem V7_1 : ∀ (vs : Array Value) (v : Value) (w : World), vs[1]? = some v → (Instr.field 7 (.agg vs) 1).run Try.prog w = .ok v w := fun vs v w h => by simp [Instr.field, Try.runUnderlying7, part, Try.isAgg3, asAgg, h]
theorem F7_2 : FieldF Try.prog 7 2 2 := FieldF.of Try.runUnderlying7 rfl rfl Try.sizeOf4
theorem V7_2 : ∀ (vs : Array Value) (v : Value) (w : World), vs[2]? = some v → (Instr.field 7 (.agg vs) 2).run Try.prog w = .ok v w := fun vs v w h => by simp [Instr.field, Try.runUnderlying7, part, Try.isAgg4, asAgg, h]
theorem F7_3 : FieldF Try.prog 7 3 3 := FieldF.of Try.runUnderlying7 rfl rfl Try.sizeOf6
theorem V7_3 : ∀ (vs : Array Value) (v : Value) (w : World), vs[3]? = some v → (Instr.field 7 (.agg vs) 3).run Try.prog w = .ok v w := fun vs v w h => by simp [Instr.field, Try.runUnderlying7, part, Try.isAgg6, asAgg, h]
theorem BF7 : BuildF Try.prog 7 [Go.Value.int Go.IntKind.i64 0, Go.Value.int Go.IntKind.i64 0, Go.Value.bool false, Go.Value.int Go.IntKind.u8 0] := ⟨Try.zeroValue7, by simp [Value.oneCell'], _, Try.runUnderlying7, fun w => by
  simp [Sem.run_bind, Result.andThen, Try.sizeOf2, Try.sizeOf3, Try.sizeOf4, Try.sizeOf6, List.range, List.range.loop]⟩
theorem A8 : AggF Try.prog 8 4 := ⟨Try.isAgg8, Try.sizeOf8⟩
theorem Z8 : ZeroF Try.prog 8 (Go.Value.agg #[Go.Value.int Go.IntKind.i64 0, Go.Value.int Go.IntKind.i64 0, Go.Value.bool false, Go.Value.int Go.IntKind.u8 0]) := Try.zeroValue8
theorem F8_0 : FieldF Try.prog 8 0 0 := FieldF.of Try.runUnderlying8 rfl rfl Try.sizeOf2
theorem V8_0 : ∀ (vs : Array Value) (v : Value) (w : World), vs[0]? = some v → (Instr.field 8 (.agg vs) 0).run Try.prog w = .ok v w := fun vs v w h => by simp [Instr.field, Try.runUnderlying8, part, Try.isAgg2, asAgg, h]
theorem F8_1 : FieldF Try.prog 8 1 1 := FieldF.of Try.runUnderlying8 rfl rfl Try.sizeOf3
theorem V8_1 : ∀ (vs : Array Value) (v : Value) (w : World), vs[1]? = some v → (Instr.field 8 (.agg vs) 1).run Try.prog w = .ok v w := fun vs v w h => by simp [Instr.field, Try.runUnderlying8, part, Try.isAgg3, asAgg, h]
theorem F8_2 : FieldF Try.prog 8 2 2 := FieldF.of Try.runUnderlying8 rfl rfl Try.sizeOf4
theorem V8_2 : ∀ (vs : Array Value) (v : Value) (w : World), vs[2]? = some v → (Instr.field 8 (.agg vs) 2).run Try.prog w = .ok v w := fun vs v w h => by simp [Instr.field, Try.runUnderlying8, part, Try.isAgg4, asAgg, h]
theorem F8_3 : FieldF Try.prog 8 3 3 := FieldF.of Try.runUnderlying8 rfl rfl Try.sizeOf6
theorem V8_3 : ∀ (vs : Array Value) (v : Value) (w : World), vs[3]? = some v → (Instr.field 8 (.agg vs) 3).run Try.prog w = .ok v w := fun vs v w h => by simp [Instr.field, Try.runUnderlying8, part, Try.isAgg6, asAgg, h]
theorem BF8 : BuildF Try.prog 8 [Go.Value.int Go.IntKind.i64 0, Go.Value.int Go.IntKind.i64 0, Go.Value.bool false, Go.Value.int Go.IntKind.u8 0] := ⟨Try.zeroValue8, by simp [Value.oneCell'], _, Try.runUnderlying8, fun w => by
  simp [Sem.run_bind, Result.andThen, Try.sizeOf2, Try.sizeOf3, Try.sizeOf4, Try.sizeOf6, List.range, List.range.loop]⟩
theorem O9 : OneF Try.prog 9 := ⟨Try.isAgg9, Try.sizeOf9⟩
theorem Z9 : ZeroF Try.prog 9 (Go.Value.string (ByteArray.mk #[])) := Try.zeroValue9
theorem O10 : OneF Try.prog 10 := ⟨Try.isAgg10, Try.sizeOf10⟩
theorem Z10 : ZeroF Try.prog 10 (Go.Value.string (ByteArray.mk #[])) := Try.zeroValue10
theorem O11 : OneF Try.prog 11 := ⟨Try.isAgg11, Try.sizeOf11⟩
theorem Z11 : ZeroF Try.prog 11 (Go.Value.string (ByteArray.mk #[])) := Try.zeroValue11
theorem O12 : OneF Try.prog 12 := ⟨Try.isAgg12, Try.sizeOf12⟩
theorem Z12 : ZeroF Try.prog 12 (Go.Value.int Go.IntKind.u64 0) := Try.zeroValue12
theorem A13 : AggF Try.prog 13 2 := ⟨Try.isAgg13, Try.sizeOf13⟩
theorem Z13 : ZeroF Try.prog 13 (Go.Value.agg #[Go.Value.string (ByteArray.mk #[]), Go.Value.int Go.IntKind.u64 0]) := Try.zeroValue13
theorem F13_0 : FieldF Try.prog 13 0 0 := FieldF.of Try.runUnderlying13 rfl rfl Try.sizeOf9
theorem V13_0 : ∀ (vs : Array Value) (v : Value) (w : World), vs[0]? = some v → (Instr.field 13 (.agg vs) 0).run Try.prog w = .ok v w := fun vs v w h => by simp [Instr.field, Try.runUnderlying13, part, Try.isAgg9, asAgg, h]
theorem F13_1 : FieldF Try.prog 13 1 1 := FieldF.of Try.runUnderlying13 rfl rfl Try.sizeOf12
theorem V13_1 : ∀ (vs : Array Value) (v : Value) (w : World), vs[1]? = some v → (Instr.field 13 (.agg vs) 1).run Try.prog w = .ok v w := fun vs v w h => by simp [Instr.field, Try.runUnderlying13, part, Try.isAgg12, asAgg, h]
theorem BF13 : BuildF Try.prog 13 [Go.Value.string (ByteArray.mk #[]), Go.Value.int Go.IntKind.u64 0] := ⟨Try.zeroValue13, by simp [Value.oneCell'], _, Try.runUnderlying13, fun w => by
  simp [Sem.run_bind, Result.andThen, Try.sizeOf9, Try.sizeOf12, List.range, List.range.loop]⟩
theorem A14 : AggF Try.prog 14 2 := ⟨Try.isAgg14, Try.sizeOf14⟩
theorem Z14 : ZeroF Try.prog 14 (Go.Value.agg #[Go.Value.string (ByteArray.mk #[]), Go.Value.int Go.IntKind.u64 0]) := Try.zeroValue14
theorem F14_0 : FieldF Try.prog 14 0 0 := FieldF.of Try.runUnderlying14 rfl rfl Try.sizeOf9
theorem V14_0 : ∀ (vs : Array Value) (v : Value) (w : World), vs[0]? = some v → (Instr.field 14 (.agg vs) 0).run Try.prog w = .ok v w := fun vs v w h => by simp [Instr.field, Try.runUnderlying14, part, Try.isAgg9, asAgg, h]
theorem F14_1 : FieldF Try.prog 14 1 1 := FieldF.of Try.runUnderlying14 rfl rfl Try.sizeOf12
theorem V14_1 : ∀ (vs : Array Value) (v : Value) (w : World), vs[1]? = some v → (Instr.field 14 (.agg vs) 1).run Try.prog w = .ok v w := fun vs v w h => by simp [Instr.field, Try.runUnderlying14, part, Try.isAgg12, asAgg, h]
theorem BF14 : BuildF Try.prog 14 [Go.Value.string (ByteArray.mk #[]), Go.Value.int Go.IntKind.u64 0] := ⟨Try.zeroValue14, by simp [Value.oneCell'], _, Try.runUnderlying14, fun w => by
  simp [Sem.run_bind, Result.andThen, Try.sizeOf9, Try.sizeOf12, List.range, List.range.loop]⟩
theorem O15 : OneF Try.prog 15 := ⟨Try.isAgg15, Try.sizeOf15⟩
theorem Z15 : ZeroF Try.prog 15 (Go.Value.pointer none) := Try.zeroValue15
theorem O16 : OneF Try.prog 16 := ⟨Try.isAgg16, Try.sizeOf16⟩
theorem Z16 : ZeroF Try.prog 16 (Go.Value.pointer none) := Try.zeroValue16
theorem O17 : OneF Try.prog 17 := ⟨Try.isAgg17, Try.sizeOf17⟩
theorem Z17 : ZeroF Try.prog 17 (Go.Value.pointer none) := Try.zeroValue17
theorem A18 : AggF Try.prog 18 1 := ⟨Try.isAgg18, Try.sizeOf18⟩
theorem Z18 : ZeroF Try.prog 18 (Go.Value.agg #[Go.Value.pointer none]) := Try.zeroValue18
theorem F18_0 : FieldF Try.prog 18 0 0 := FieldF.of Try.runUnderlying18 rfl rfl Try.sizeOf17
theorem V18_0 : ∀ (vs : Array Value) (v : Value) (w : World), vs[0]? = some v → (Instr.field 18 (.agg vs) 0).run Try.prog w = .ok v w := fun vs v w h => by simp [Instr.field, Try.runUnderlying18, part, Try.isAgg17, asAgg, h]
theorem BF18 : BuildF Try.prog 18 [Go.Value.pointer none] := ⟨Try.zeroValue18, by simp [Value.oneCell'], _, Try.runUnderlying18, fun w => by
  simp [Sem.run_bind, Result.andThen, Try.sizeOf17, List.range, List.range.loop]⟩
theorem A19 : AggF Try.prog 19 1 := ⟨Try.isAgg19, Try.sizeOf19⟩
theorem Z19 : ZeroF Try.prog 19 (Go.Value.agg #[Go.Value.pointer none]) := Try.zeroValue19
theorem F19_0 : FieldF Try.prog 19 0 0 := FieldF.of Try.runUnderlying19 rfl rfl Try.sizeOf17
theorem V19_0 : ∀ (vs : Array Value) (v : Value) (w : World), vs[0]? = some v → (Instr.field 19 (.agg vs) 0).run Try.prog w = .ok v w := fun vs v w h => by simp [Instr.field, Try.runUnderlying19, part, Try.isAgg17, asAgg, h]
theorem BF19 : BuildF Try.prog 19 [Go.Value.pointer none] := ⟨Try.zeroValue19, by simp [Value.oneCell'], _, Try.runUnderlying19, fun w => by
  simp [Sem.run_bind, Result.andThen, Try.sizeOf17, List.range, List.range.loop]⟩
theorem O20 : OneF Try.prog 20 := ⟨Try.isAgg20, Try.sizeOf20⟩
theorem Z20 : ZeroF Try.prog 20 (Go.Value.nilIface) := Try.zeroValue20
theorem O21 : OneF Try.prog 21 := ⟨Try.isAgg21, Try.sizeOf21⟩
theorem Z21 : ZeroF Try.prog 21 (Go.Value.int Go.IntKind.i32 0) := Try.zeroValue21
theorem O22 : OneF Try.prog 22 := ⟨Try.isAgg22, Try.sizeOf22⟩
theorem Z22 : ZeroF Try.prog 22 (Go.Value.slice none 0 0) := Try.zeroValue22
theorem I22 : IndexF Try.prog 22 1 := IndexF.of Try.runUnderlying22 Try.sizeOf5
theorem S22 : SliceT Try.prog 22 := ⟨_, Try.runUnderlying22⟩
theorem AP22 : AppF Try.prog 22 5 1 := ⟨Try.underlying22, by kernel_rfl⟩
theorem SF22 : SliceF Try.prog 22 1 := ⟨_, Try.runUnderlying22, Try.sizeOf5⟩
theorem O23 : OneF Try.prog 23 := ⟨Try.isAgg23, Try.sizeOf23⟩
theorem Z23 : ZeroF Try.prog 23 (Go.Value.nilFunc) := Try.zeroValue23
theorem O24 : OneF Try.prog 24 := ⟨Try.isAgg24, Try.sizeOf24⟩
theorem Z24 : ZeroF Try.prog 24 (Go.Value.slice none 0 0) := Try.zeroValue24
theorem I24 : IndexF Try.prog 24 1 := IndexF.of Try.runUnderlying24 Try.sizeOf22
theorem S24 : SliceT Try.prog 24 := ⟨_, Try.runUnderlying24⟩
theorem AP24 : AppF Try.prog 24 22 1 := ⟨Try.underlying24, by kernel_rfl⟩
theorem SF24 : SliceF Try.prog 24 1 := ⟨_, Try.runUnderlying24, Try.sizeOf22⟩
theorem A25 : AggF Try.prog 25 2 := ⟨Try.isAgg25, Try.sizeOf25⟩
theorem Z25 : ZeroF Try.prog 25 (Go.Value.agg #[Go.Value.string (ByteArray.mk #[]), Go.Value.bool false]) := Try.zeroValue25
theorem F25_0 : FieldF Try.prog 25 0 0 := FieldF.of Try.runUnderlying25 rfl rfl Try.sizeOf9
theorem V25_0 : ∀ (vs : Array Value) (v : Value) (w : World), vs[0]? = some v → (Instr.field 25 (.agg vs) 0).run Try.prog w = .ok v w := fun vs v w h => by simp [Instr.field, Try.runUnderlying25, part, Try.isAgg9, asAgg, h]
theorem F25_1 : FieldF Try.prog 25 1 1 := FieldF.of Try.runUnderlying25 rfl rfl Try.sizeOf4
theorem V25_1 : ∀ (vs : Array Value) (v : Value) (w : World), vs[1]? = some v → (Instr.field 25 (.agg vs) 1).run Try.prog w = .ok v w := fun vs v w h => by simp [Instr.field, Try.runUnderlying25, part, Try.isAgg4, asAgg, h]
theorem BF25 : BuildF Try.prog 25 [Go.Value.string (ByteArray.mk #[]), Go.Value.bool false] := ⟨Try.zeroValue25, by simp [Value.oneCell'], _, Try.runUnderlying25, fun w => by
  simp [Sem.run_bind, Result.andThen, Try.sizeOf4, Try.sizeOf9, List.range, List.range.loop]⟩
theorem A26 : AggF Try.prog 26 2 := ⟨Try.isAgg26, Try.sizeOf26⟩
theorem Z26 : ZeroF Try.prog 26 (Go.Value.agg #[Go.Value.string (ByteArray.mk #[]), Go.Value.bool false]) := Try.zeroValue26
theorem F26_0 : FieldF Try.prog 26 0 0 := FieldF.of Try.runUnderlying26 rfl rfl Try.sizeOf9
theorem V26_0 : ∀ (vs : Array Value) (v : Value) (w : World), vs[0]? = some v → (Instr.field 26 (.agg vs) 0).run Try.prog w = .ok v w := fun vs v w h => by simp [Instr.field, Try.runUnderlying26, part, Try.isAgg9, asAgg, h]
theorem F26_1 : FieldF Try.prog 26 1 1 := FieldF.of Try.runUnderlying26 rfl rfl Try.sizeOf4
theorem V26_1 : ∀ (vs : Array Value) (v : Value) (w : World), vs[1]? = some v → (Instr.field 26 (.agg vs) 1).run Try.prog w = .ok v w := fun vs v w h => by simp [Instr.field, Try.runUnderlying26, part, Try.isAgg4, asAgg, h]
theorem BF26 : BuildF Try.prog 26 [Go.Value.string (ByteArray.mk #[]), Go.Value.bool false] := ⟨Try.zeroValue26, by simp [Value.oneCell'], _, Try.runUnderlying26, fun w => by
  simp [Sem.run_bind, Result.andThen, Try.sizeOf4, Try.sizeOf9, List.range, List.range.loop]⟩
theorem QF26 (a0 b0 : List UInt8) (a1 b1 : Bool) : ∀ w, (Op.eqFields 9999 #[.string ⟨a0.toArray⟩, .bool a1] #[.string ⟨b0.toArray⟩, .bool b1] (#[⟨ "Buf", 9, 0, false, "", "", 0⟩, ⟨ "Bad", 4, 1, false, "", "", 16⟩] : Array Field).toList).run Try.prog w = .ok (decide (a0 = b0) && decide (a1 = b1)) w := by
  intro w
  simp [Op.eqFields, part, byt_beq, run_equalIn_string (P := Try.prog) _ 9998 9 _ _ Try.underlying9, run_equalIn_bool' (P := Try.prog) _ 9998 4 _ _ Try.underlying4, Try.isAgg4, Try.isAgg9]
  by_cases h0 : a0 = b0 <;> by_cases h1 : a1 = b1 <;> simp [*]
theorem EQ26 (x y : Operand) (a0 b0 : List UInt8) (a1 b1 : Bool) : ∀ w, (do eqGuard .eql 26 x y (.agg #[.string ⟨a0.toArray⟩, .bool a1]) (.agg #[.string ⟨b0.toArray⟩, .bool b1]); binOp .eql 26 (.agg #[.string ⟨a0.toArray⟩, .bool a1]) (.agg #[.string ⟨b0.toArray⟩, .bool b1]) : Sem Value).run Try.prog w = .ok (.bool (decide (a0 = b0) && decide (a1 = b1))) w := run_eqS Try.underlying26 Try.stoodInHeld26 Try.eqGuardType26 (QF26 a0 b0 a1 b1) x y
theorem NE26 (x y : Operand) (a0 b0 : List UInt8) (a1 b1 : Bool) : ∀ w, (do eqGuard .neq 26 x y (.agg #[.string ⟨a0.toArray⟩, .bool a1]) (.agg #[.string ⟨b0.toArray⟩, .bool b1]); binOp .neq 26 (.agg #[.string ⟨a0.toArray⟩, .bool a1]) (.agg #[.string ⟨b0.toArray⟩, .bool b1]) : Sem Value).run Try.prog w = .ok (.bool (!(decide (a0 = b0) && decide (a1 = b1)))) w := run_neS Try.underlying26 Try.stoodInHeld26 Try.eqGuardType26 (QF26 a0 b0 a1 b1) x y
theorem O27 : OneF Try.prog 27 := ⟨Try.isAgg27, Try.sizeOf27⟩
theorem Z27 : ZeroF Try.prog 27 (Go.Value.tuple #[Go.Value.slice none 0 0, Go.Value.agg #[Go.Value.string (ByteArray.mk #[]), Go.Value.bool false]]) := Try.zeroValue27
theorem O28 : OneF Try.prog 28 := ⟨Try.isAgg28, Try.sizeOf28⟩
theorem Z28 : ZeroF Try.prog 28 (Go.Value.nilFunc) := Try.zeroValue28
theorem O29 : OneF Try.prog 29 := ⟨Try.isAgg29, Try.sizeOf29⟩
theorem Z29 : ZeroF Try.prog 29 (Go.Value.int Go.IntKind.i64 0) := Try.zeroValue29
theorem O30 : OneF Try.prog 30 := ⟨Try.isAgg30, Try.sizeOf30⟩
theorem Z30 : ZeroF Try.prog 30 (Go.Value.tuple #[Go.Value.agg #[Go.Value.string (ByteArray.mk #[]), Go.Value.bool false], Go.Value.slice none 0 0, Go.Value.int Go.IntKind.i64 0]) := Try.zeroValue30
theorem O31 : OneF Try.prog 31 := ⟨Try.isAgg31, Try.sizeOf31⟩
theorem Z31 : ZeroF Try.prog 31 (Go.Value.nilFunc) := Try.zeroValue31
theorem O32 : OneF Try.prog 32 := ⟨Try.isAgg32, Try.sizeOf32⟩
theorem Z32 : ZeroF Try.prog 32 (Go.Value.nilFunc) := Try.zeroValue32
theorem O33 : OneF Try.prog 33 := ⟨Try.isAgg33, Try.sizeOf33⟩
theorem Z33 : ZeroF Try.prog 33 (Go.Value.nilFunc) := Try.zeroValue33
theorem O34 : OneF Try.prog 34 := ⟨Try.isAgg34, Try.sizeOf34⟩
theorem Z34 : ZeroF Try.prog 34 (Go.Value.int Go.IntKind.u16 0) := Try.zeroValue34
theorem O35 : OneF Try.prog 35 := ⟨Try.isAgg35, Try.sizeOf35⟩
theorem Z35 : ZeroF Try.prog 35 (Go.Value.tuple #[Go.Value.int Go.IntKind.i64 0, Go.Value.int Go.IntKind.i64 0]) := Try.zeroValue35
theorem O36 : OneF Try.prog 36 := ⟨Try.isAgg36, Try.sizeOf36⟩
theorem Z36 : ZeroF Try.prog 36 (Go.Value.nilFunc) := Try.zeroValue36
theorem O37 : OneF Try.prog 37 := ⟨Try.isAgg37, Try.sizeOf37⟩
theorem Z37 : ZeroF Try.prog 37 (Go.Value.nilFunc) := Try.zeroValue37
theorem O38 : OneF Try.prog 38 := ⟨Try.isAgg38, Try.sizeOf38⟩
theorem Z38 : ZeroF Try.prog 38 (Go.Value.tuple #[Go.Value.slice none 0 0, Go.Value.int Go.IntKind.i64 0]) := Try.zeroValue38
theorem O39 : OneF Try.prog 39 := ⟨Try.isAgg39, Try.sizeOf39⟩
theorem Z39 : ZeroF Try.prog 39 (Go.Value.nilFunc) := Try.zeroValue39
theorem O40 : OneF Try.prog 40 := ⟨Try.isAgg40, Try.sizeOf40⟩
theorem Z40 : ZeroF Try.prog 40 (Go.Value.slice none 0 0) := Try.zeroValue40
theorem I40 : IndexF Try.prog 40 1 := IndexF.of Try.runUnderlying40 Try.sizeOf9
theorem S40 : SliceT Try.prog 40 := ⟨_, Try.runUnderlying40⟩
theorem AP40 : AppF Try.prog 40 9 1 := ⟨Try.underlying40, by kernel_rfl⟩
theorem SF40 : SliceF Try.prog 40 1 := ⟨_, Try.runUnderlying40, Try.sizeOf9⟩
theorem O41 : OneF Try.prog 41 := ⟨Try.isAgg41, Try.sizeOf41⟩
theorem Z41 : ZeroF Try.prog 41 (Go.Value.nilFunc) := Try.zeroValue41
theorem O42 : OneF Try.prog 42 := ⟨Try.isAgg42, Try.sizeOf42⟩
theorem Z42 : ZeroF Try.prog 42 (Go.Value.nilFunc) := Try.zeroValue42
theorem O43 : OneF Try.prog 43 := ⟨Try.isAgg43, Try.sizeOf43⟩
theorem Z43 : ZeroF Try.prog 43 (Go.Value.nilFunc) := Try.zeroValue43
theorem O44 : OneF Try.prog 44 := ⟨Try.isAgg44, Try.sizeOf44⟩
theorem Z44 : ZeroF Try.prog 44 (Go.Value.nilFunc) := Try.zeroValue44
theorem O45 : OneF Try.prog 45 := ⟨Try.isAgg45, Try.sizeOf45⟩
theorem Z45 : ZeroF Try.prog 45 (Go.Value.nilFunc) := Try.zeroValue45
theorem A46 : AggF Try.prog 46 4 := ⟨Try.isAgg46, Try.sizeOf46⟩
theorem Z46 : ZeroF Try.prog 46 (Go.Value.agg #[Go.Value.int Go.IntKind.u8 0, Go.Value.int Go.IntKind.u8 0, Go.Value.int Go.IntKind.u8 0, Go.Value.int Go.IntKind.u8 0]) := Try.zeroValue46
theorem I46 : IndexAF Try.prog 46 4 1 := IndexAF.of Try.runUnderlying46 Try.sizeOf5
theorem BX46 : BuildX Try.prog 46 (List.replicate 4 (Go.Value.int Go.IntKind.u8 0)) := ⟨Try.zeroValue46, 4, 5, Try.runUnderlying46, Try.sizeOf5⟩
theorem AR46 : ArrF Try.prog 46 4 := ⟨5, Try.runUnderlying46, Try.sizeOf5⟩
theorem A47 : AggF Try.prog 47 4 := ⟨Try.isAgg47, Try.sizeOf47⟩
theorem Z47 : ZeroF Try.prog 47 (Go.Value.agg #[Go.Value.int Go.IntKind.u8 0, Go.Value.int Go.IntKind.u8 0, Go.Value.int Go.IntKind.u8 0, Go.Value.int Go.IntKind.u8 0]) := Try.zeroValue47
theorem I47 : IndexAF Try.prog 47 4 1 := IndexAF.of Try.runUnderlying47 Try.sizeOf5
theorem BX47 : BuildX Try.prog 47 (List.replicate 4 (Go.Value.int Go.IntKind.u8 0)) := ⟨Try.zeroValue47, 4, 5, Try.runUnderlying47, Try.sizeOf5⟩
theorem AR47 : ArrF Try.prog 47 4 := ⟨5, Try.runUnderlying47, Try.sizeOf5⟩
theorem O48 : OneF Try.prog 48 := ⟨Try.isAgg48, Try.sizeOf48⟩
theorem Z48 : ZeroF Try.prog 48 (Go.Value.nilFunc) := Try.zeroValue48
theorem O49 : OneF Try.prog 49 := ⟨Try.isAgg49, Try.sizeOf49⟩
theorem Z49 : ZeroF Try.prog 49 (Go.Value.nilFunc) := Try.zeroValue49
theorem O50 : OneF Try.prog 50 := ⟨Try.isAgg50, Try.sizeOf50⟩
theorem Z50 : ZeroF Try.prog 50 (Go.Value.nilFunc) := Try.zeroValue50
theorem O51 : OneF Try.prog 51 := ⟨Try.isAgg51, Try.sizeOf51⟩
theorem Z51 : ZeroF Try.prog 51 (Go.Value.nilFunc) := Try.zeroValue51
theorem O52 : OneF Try.prog 52 := ⟨Try.isAgg52, Try.sizeOf52⟩
theorem Z52 : ZeroF Try.prog 52 (Go.Value.nilFunc) := Try.zeroValue52
theorem O53 : OneF Try.prog 53 := ⟨Try.isAgg53, Try.sizeOf53⟩
theorem Z53 : ZeroF Try.prog 53 (Go.Value.nilFunc) := Try.zeroValue53
theorem O54 : OneF Try.prog 54 := ⟨Try.isAgg54, Try.sizeOf54⟩
theorem Z54 : ZeroF Try.prog 54 (Go.Value.pointer none) := Try.zeroValue54
theorem A55 : AggF Try.prog 55 2 := ⟨Try.isAgg55, Try.sizeOf55⟩
theorem Z55 : ZeroF Try.prog 55 (Go.Value.agg #[Go.Value.pointer none, Go.Value.slice none 0 0]) := Try.zeroValue55
theorem F55_0 : FieldF Try.prog 55 0 0 := FieldF.of Try.runUnderlying55 rfl rfl Try.sizeOf54
theorem V55_0 : ∀ (vs : Array Value) (v : Value) (w : World), vs[0]? = some v → (Instr.field 55 (.agg vs) 0).run Try.prog w = .ok v w := fun vs v w h => by simp [Instr.field, Try.runUnderlying55, part, Try.isAgg54, asAgg, h]
theorem F55_1 : FieldF Try.prog 55 1 1 := FieldF.of Try.runUnderlying55 rfl rfl Try.sizeOf22
theorem V55_1 : ∀ (vs : Array Value) (v : Value) (w : World), vs[1]? = some v → (Instr.field 55 (.agg vs) 1).run Try.prog w = .ok v w := fun vs v w h => by simp [Instr.field, Try.runUnderlying55, part, Try.isAgg22, asAgg, h]
theorem BF55 : BuildF Try.prog 55 [Go.Value.pointer none, Go.Value.slice none 0 0] := ⟨Try.zeroValue55, by simp [Value.oneCell'], _, Try.runUnderlying55, fun w => by
  simp [Sem.run_bind, Result.andThen, Try.sizeOf22, Try.sizeOf54, List.range, List.range.loop]⟩
theorem A56 : AggF Try.prog 56 2 := ⟨Try.isAgg56, Try.sizeOf56⟩
theorem Z56 : ZeroF Try.prog 56 (Go.Value.agg #[Go.Value.pointer none, Go.Value.slice none 0 0]) := Try.zeroValue56
theorem F56_0 : FieldF Try.prog 56 0 0 := FieldF.of Try.runUnderlying56 rfl rfl Try.sizeOf54
theorem V56_0 : ∀ (vs : Array Value) (v : Value) (w : World), vs[0]? = some v → (Instr.field 56 (.agg vs) 0).run Try.prog w = .ok v w := fun vs v w h => by simp [Instr.field, Try.runUnderlying56, part, Try.isAgg54, asAgg, h]
theorem F56_1 : FieldF Try.prog 56 1 1 := FieldF.of Try.runUnderlying56 rfl rfl Try.sizeOf22
theorem V56_1 : ∀ (vs : Array Value) (v : Value) (w : World), vs[1]? = some v → (Instr.field 56 (.agg vs) 1).run Try.prog w = .ok v w := fun vs v w h => by simp [Instr.field, Try.runUnderlying56, part, Try.isAgg22, asAgg, h]
theorem BF56 : BuildF Try.prog 56 [Go.Value.pointer none, Go.Value.slice none 0 0] := ⟨Try.zeroValue56, by simp [Value.oneCell'], _, Try.runUnderlying56, fun w => by
  simp [Sem.run_bind, Result.andThen, Try.sizeOf22, Try.sizeOf54, List.range, List.range.loop]⟩
theorem O57 : OneF Try.prog 57 := ⟨Try.isAgg57, Try.sizeOf57⟩
theorem Z57 : ZeroF Try.prog 57 (Go.Value.nilFunc) := Try.zeroValue57
theorem O58 : OneF Try.prog 58 := ⟨Try.isAgg58, Try.sizeOf58⟩
theorem Z58 : ZeroF Try.prog 58 (Go.Value.nilIface) := Try.zeroValue58
theorem O59 : OneF Try.prog 59 := ⟨Try.isAgg59, Try.sizeOf59⟩
theorem Z59 : ZeroF Try.prog 59 (Go.Value.nilIface) := Try.zeroValue59
theorem O60 : OneF Try.prog 60 := ⟨Try.isAgg60, Try.sizeOf60⟩
theorem Z60 : ZeroF Try.prog 60 (Go.Value.tuple #[Go.Value.int Go.IntKind.i64 0, Go.Value.nilIface]) := Try.zeroValue60
theorem O61 : OneF Try.prog 61 := ⟨Try.isAgg61, Try.sizeOf61⟩
theorem Z61 : ZeroF Try.prog 61 (Go.Value.nilFunc) := Try.zeroValue61
theorem O62 : OneF Try.prog 62 := ⟨Try.isAgg62, Try.sizeOf62⟩
theorem Z62 : ZeroF Try.prog 62 (Go.Value.nilFunc) := Try.zeroValue62
theorem O63 : OneF Try.prog 63 := ⟨Try.isAgg63, Try.sizeOf63⟩
theorem Z63 : ZeroF Try.prog 63 (Go.Value.int Go.IntKind.u64 0) := Try.zeroValue63
theorem O64 : OneF Try.prog 64 := ⟨Try.isAgg64, Try.sizeOf64⟩
theorem Z64 : ZeroF Try.prog 64 (Go.Value.nilFunc) := Try.zeroValue64
theorem O65 : OneF Try.prog 65 := ⟨Try.isAgg65, Try.sizeOf65⟩
theorem Z65 : ZeroF Try.prog 65 (Go.Value.pointer none) := Try.zeroValue65
theorem O66 : OneF Try.prog 66 := ⟨Try.isAgg66, Try.sizeOf66⟩
theorem Z66 : ZeroF Try.prog 66 (Go.Value.pointer none) := Try.zeroValue66
theorem O67 : OneF Try.prog 67 := ⟨Try.isAgg67, Try.sizeOf67⟩
theorem Z67 : ZeroF Try.prog 67 (Go.Value.nilFunc) := Try.zeroValue67
theorem A68 : AggF Try.prog 68 4 := ⟨Try.isAgg68, Try.sizeOf68⟩
theorem Z68 : ZeroF Try.prog 68 (Go.Value.agg #[Go.Value.pointer none, Go.Value.pointer none, Go.Value.pointer none, Go.Value.string (ByteArray.mk #[])]) := Try.zeroValue68
theorem F68_0 : FieldF Try.prog 68 0 0 := FieldF.of Try.runUnderlying68 rfl rfl Try.sizeOf17
theorem V68_0 : ∀ (vs : Array Value) (v : Value) (w : World), vs[0]? = some v → (Instr.field 68 (.agg vs) 0).run Try.prog w = .ok v w := fun vs v w h => by simp [Instr.field, Try.runUnderlying68, part, Try.isAgg17, asAgg, h]
theorem F68_1 : FieldF Try.prog 68 1 1 := FieldF.of Try.runUnderlying68 rfl rfl Try.sizeOf17
theorem V68_1 : ∀ (vs : Array Value) (v : Value) (w : World), vs[1]? = some v → (Instr.field 68 (.agg vs) 1).run Try.prog w = .ok v w := fun vs v w h => by simp [Instr.field, Try.runUnderlying68, part, Try.isAgg17, asAgg, h]
theorem F68_2 : FieldF Try.prog 68 2 2 := FieldF.of Try.runUnderlying68 rfl rfl Try.sizeOf17
theorem V68_2 : ∀ (vs : Array Value) (v : Value) (w : World), vs[2]? = some v → (Instr.field 68 (.agg vs) 2).run Try.prog w = .ok v w := fun vs v w h => by simp [Instr.field, Try.runUnderlying68, part, Try.isAgg17, asAgg, h]
theorem F68_3 : FieldF Try.prog 68 3 3 := FieldF.of Try.runUnderlying68 rfl rfl Try.sizeOf9
theorem V68_3 : ∀ (vs : Array Value) (v : Value) (w : World), vs[3]? = some v → (Instr.field 68 (.agg vs) 3).run Try.prog w = .ok v w := fun vs v w h => by simp [Instr.field, Try.runUnderlying68, part, Try.isAgg9, asAgg, h]
theorem BF68 : BuildF Try.prog 68 [Go.Value.pointer none, Go.Value.pointer none, Go.Value.pointer none, Go.Value.string (ByteArray.mk #[])] := ⟨Try.zeroValue68, by simp [Value.oneCell'], _, Try.runUnderlying68, fun w => by
  simp [Sem.run_bind, Result.andThen, Try.sizeOf9, Try.sizeOf17, List.range, List.range.loop]⟩
theorem A69 : AggF Try.prog 69 4 := ⟨Try.isAgg69, Try.sizeOf69⟩
theorem Z69 : ZeroF Try.prog 69 (Go.Value.agg #[Go.Value.pointer none, Go.Value.pointer none, Go.Value.pointer none, Go.Value.string (ByteArray.mk #[])]) := Try.zeroValue69
theorem F69_0 : FieldF Try.prog 69 0 0 := FieldF.of Try.runUnderlying69 rfl rfl Try.sizeOf17
theorem V69_0 : ∀ (vs : Array Value) (v : Value) (w : World), vs[0]? = some v → (Instr.field 69 (.agg vs) 0).run Try.prog w = .ok v w := fun vs v w h => by simp [Instr.field, Try.runUnderlying69, part, Try.isAgg17, asAgg, h]
theorem F69_1 : FieldF Try.prog 69 1 1 := FieldF.of Try.runUnderlying69 rfl rfl Try.sizeOf17
theorem V69_1 : ∀ (vs : Array Value) (v : Value) (w : World), vs[1]? = some v → (Instr.field 69 (.agg vs) 1).run Try.prog w = .ok v w := fun vs v w h => by simp [Instr.field, Try.runUnderlying69, part, Try.isAgg17, asAgg, h]
theorem F69_2 : FieldF Try.prog 69 2 2 := FieldF.of Try.runUnderlying69 rfl rfl Try.sizeOf17
theorem V69_2 : ∀ (vs : Array Value) (v : Value) (w : World), vs[2]? = some v → (Instr.field 69 (.agg vs) 2).run Try.prog w = .ok v w := fun vs v w h => by simp [Instr.field, Try.runUnderlying69, part, Try.isAgg17, asAgg, h]
theorem F69_3 : FieldF Try.prog 69 3 3 := FieldF.of Try.runUnderlying69 rfl rfl Try.sizeOf9
theorem V69_3 : ∀ (vs : Array Value) (v : Value) (w : World), vs[3]? = some v → (Instr.field 69 (.agg vs) 3).run Try.prog w = .ok v w := fun vs v w h => by simp [Instr.field, Try.runUnderlying69, part, Try.isAgg9, asAgg, h]
theorem BF69 : BuildF Try.prog 69 [Go.Value.pointer none, Go.Value.pointer none, Go.Value.pointer none, Go.Value.string (ByteArray.mk #[])] := ⟨Try.zeroValue69, by simp [Value.oneCell'], _, Try.runUnderlying69, fun w => by
  simp [Sem.run_bind, Result.andThen, Try.sizeOf9, Try.sizeOf17, List.range, List.range.loop]⟩
theorem A70 : AggF Try.prog 70 0 := ⟨Try.isAgg70, Try.sizeOf70⟩
theorem Z70 : ZeroF Try.prog 70 (Go.Value.agg #[]) := Try.zeroValue70
theorem I70 : IndexAF Try.prog 70 0 1 := IndexAF.of Try.runUnderlying70 Try.sizeOf16
theorem BX70 : BuildX Try.prog 70 (List.replicate 0 (Go.Value.pointer none)) := ⟨Try.zeroValue70, 0, 16, Try.runUnderlying70, Try.sizeOf16⟩
theorem AR70 : ArrF Try.prog 70 0 := ⟨16, Try.runUnderlying70, Try.sizeOf16⟩
theorem A71 : AggF Try.prog 71 0 := ⟨Try.isAgg71, Try.sizeOf71⟩
theorem Z71 : ZeroF Try.prog 71 (Go.Value.agg #[]) := Try.zeroValue71
theorem A72 : AggF Try.prog 72 0 := ⟨Try.isAgg72, Try.sizeOf72⟩
theorem Z72 : ZeroF Try.prog 72 (Go.Value.agg #[]) := Try.zeroValue72
theorem O73 : OneF Try.prog 73 := ⟨Try.isAgg73, Try.sizeOf73⟩
theorem Z73 : ZeroF Try.prog 73 (Go.Value.int Go.IntKind.u32 0) := Try.zeroValue73
theorem O74 : OneF Try.prog 74 := ⟨Try.isAgg74, Try.sizeOf74⟩
theorem Z74 : ZeroF Try.prog 74 (Go.Value.int Go.IntKind.u8 0) := Try.zeroValue74
theorem O75 : OneF Try.prog 75 := ⟨Try.isAgg75, Try.sizeOf75⟩
theorem Z75 : ZeroF Try.prog 75 (Go.Value.int Go.IntKind.u8 0) := Try.zeroValue75
theorem O76 : OneF Try.prog 76 := ⟨Try.isAgg76, Try.sizeOf76⟩
theorem Z76 : ZeroF Try.prog 76 (Go.Value.nilFunc) := Try.zeroValue76
theorem O77 : OneF Try.prog 77 := ⟨Try.isAgg77, Try.sizeOf77⟩
theorem Z77 : ZeroF Try.prog 77 (Go.Value.int Go.IntKind.i32 0) := Try.zeroValue77
theorem O78 : OneF Try.prog 78 := ⟨Try.isAgg78, Try.sizeOf78⟩
theorem Z78 : ZeroF Try.prog 78 (Go.Value.int Go.IntKind.i32 0) := Try.zeroValue78
theorem A79 : AggF Try.prog 79 11 := ⟨Try.isAgg79, Try.sizeOf79⟩
theorem Z79 : ZeroF Try.prog 79 (Go.Value.agg #[Go.Value.int Go.IntKind.u64 0, Go.Value.int Go.IntKind.u64 0, Go.Value.int Go.IntKind.u32 0, Go.Value.int Go.IntKind.u8 0, Go.Value.int Go.IntKind.u8 0, Go.Value.int Go.IntKind.u8 0, Go.Value.int Go.IntKind.u8 0, Go.Value.nilFunc, Go.Value.pointer none, Go.Value.int Go.IntKind.i32 0, Go.Value.int Go.IntKind.i32 0]) := Try.zeroValue79
theorem F79_0 : FieldF Try.prog 79 0 0 := FieldF.of Try.runUnderlying79 rfl rfl Try.sizeOf12
theorem V79_0 : ∀ (vs : Array Value) (v : Value) (w : World), vs[0]? = some v → (Instr.field 79 (.agg vs) 0).run Try.prog w = .ok v w := fun vs v w h => by simp [Instr.field, Try.runUnderlying79, part, Try.isAgg12, asAgg, h]
theorem F79_1 : FieldF Try.prog 79 1 1 := FieldF.of Try.runUnderlying79 rfl rfl Try.sizeOf12
theorem V79_1 : ∀ (vs : Array Value) (v : Value) (w : World), vs[1]? = some v → (Instr.field 79 (.agg vs) 1).run Try.prog w = .ok v w := fun vs v w h => by simp [Instr.field, Try.runUnderlying79, part, Try.isAgg12, asAgg, h]
theorem F79_2 : FieldF Try.prog 79 2 2 := FieldF.of Try.runUnderlying79 rfl rfl Try.sizeOf73
theorem V79_2 : ∀ (vs : Array Value) (v : Value) (w : World), vs[2]? = some v → (Instr.field 79 (.agg vs) 2).run Try.prog w = .ok v w := fun vs v w h => by simp [Instr.field, Try.runUnderlying79, part, Try.isAgg73, asAgg, h]
theorem F79_3 : FieldF Try.prog 79 3 3 := FieldF.of Try.runUnderlying79 rfl rfl Try.sizeOf74
theorem V79_3 : ∀ (vs : Array Value) (v : Value) (w : World), vs[3]? = some v → (Instr.field 79 (.agg vs) 3).run Try.prog w = .ok v w := fun vs v w h => by simp [Instr.field, Try.runUnderlying79, part, Try.isAgg74, asAgg, h]
theorem F79_4 : FieldF Try.prog 79 4 4 := FieldF.of Try.runUnderlying79 rfl rfl Try.sizeOf5
theorem V79_4 : ∀ (vs : Array Value) (v : Value) (w : World), vs[4]? = some v → (Instr.field 79 (.agg vs) 4).run Try.prog w = .ok v w := fun vs v w h => by simp [Instr.field, Try.runUnderlying79, part, Try.isAgg5, asAgg, h]
theorem F79_5 : FieldF Try.prog 79 5 5 := FieldF.of Try.runUnderlying79 rfl rfl Try.sizeOf5
theorem V79_5 : ∀ (vs : Array Value) (v : Value) (w : World), vs[5]? = some v → (Instr.field 79 (.agg vs) 5).run Try.prog w = .ok v w := fun vs v w h => by simp [Instr.field, Try.runUnderlying79, part, Try.isAgg5, asAgg, h]
theorem F79_6 : FieldF Try.prog 79 6 6 := FieldF.of Try.runUnderlying79 rfl rfl Try.sizeOf75
theorem V79_6 : ∀ (vs : Array Value) (v : Value) (w : World), vs[6]? = some v → (Instr.field 79 (.agg vs) 6).run Try.prog w = .ok v w := fun vs v w h => by simp [Instr.field, Try.runUnderlying79, part, Try.isAgg75, asAgg, h]
theorem F79_7 : FieldF Try.prog 79 7 7 := FieldF.of Try.runUnderlying79 rfl rfl Try.sizeOf76
theorem V79_7 : ∀ (vs : Array Value) (v : Value) (w : World), vs[7]? = some v → (Instr.field 79 (.agg vs) 7).run Try.prog w = .ok v w := fun vs v w h => by simp [Instr.field, Try.runUnderlying79, part, Try.isAgg76, asAgg, h]
theorem F79_8 : FieldF Try.prog 79 8 8 := FieldF.of Try.runUnderlying79 rfl rfl Try.sizeOf65
theorem V79_8 : ∀ (vs : Array Value) (v : Value) (w : World), vs[8]? = some v → (Instr.field 79 (.agg vs) 8).run Try.prog w = .ok v w := fun vs v w h => by simp [Instr.field, Try.runUnderlying79, part, Try.isAgg65, asAgg, h]
theorem F79_9 : FieldF Try.prog 79 9 9 := FieldF.of Try.runUnderlying79 rfl rfl Try.sizeOf77
theorem V79_9 : ∀ (vs : Array Value) (v : Value) (w : World), vs[9]? = some v → (Instr.field 79 (.agg vs) 9).run Try.prog w = .ok v w := fun vs v w h => by simp [Instr.field, Try.runUnderlying79, part, Try.isAgg77, asAgg, h]
theorem F79_10 : FieldF Try.prog 79 10 10 := FieldF.of Try.runUnderlying79 rfl rfl Try.sizeOf78
theorem V79_10 : ∀ (vs : Array Value) (v : Value) (w : World), vs[10]? = some v → (Instr.field 79 (.agg vs) 10).run Try.prog w = .ok v w := fun vs v w h => by simp [Instr.field, Try.runUnderlying79, part, Try.isAgg78, asAgg, h]
theorem BF79 : BuildF Try.prog 79 [Go.Value.int Go.IntKind.u64 0, Go.Value.int Go.IntKind.u64 0, Go.Value.int Go.IntKind.u32 0, Go.Value.int Go.IntKind.u8 0, Go.Value.int Go.IntKind.u8 0, Go.Value.int Go.IntKind.u8 0, Go.Value.int Go.IntKind.u8 0, Go.Value.nilFunc, Go.Value.pointer none, Go.Value.int Go.IntKind.i32 0, Go.Value.int Go.IntKind.i32 0] := ⟨Try.zeroValue79, by simp [Value.oneCell'], _, Try.runUnderlying79, fun w => by
  simp [Sem.run_bind, Result.andThen, Try.sizeOf5, Try.sizeOf12, Try.sizeOf65, Try.sizeOf73, Try.sizeOf74, Try.sizeOf75, Try.sizeOf76, Try.sizeOf77, Try.sizeOf78, List.range, List.range.loop]⟩
theorem A80 : AggF Try.prog 80 11 := ⟨Try.isAgg80, Try.sizeOf80⟩
theorem Z80 : ZeroF Try.prog 80 (Go.Value.agg #[Go.Value.int Go.IntKind.u64 0, Go.Value.int Go.IntKind.u64 0, Go.Value.int Go.IntKind.u32 0, Go.Value.int Go.IntKind.u8 0, Go.Value.int Go.IntKind.u8 0, Go.Value.int Go.IntKind.u8 0, Go.Value.int Go.IntKind.u8 0, Go.Value.nilFunc, Go.Value.pointer none, Go.Value.int Go.IntKind.i32 0, Go.Value.int Go.IntKind.i32 0]) := Try.zeroValue80
theorem F80_0 : FieldF Try.prog 80 0 0 := FieldF.of Try.runUnderlying80 rfl rfl Try.sizeOf12
theorem V80_0 : ∀ (vs : Array Value) (v : Value) (w : World), vs[0]? = some v → (Instr.field 80 (.agg vs) 0).run Try.prog w = .ok v w := fun vs v w h => by simp [Instr.field, Try.runUnderlying80, part, Try.isAgg12, asAgg, h]
theorem F80_1 : FieldF Try.prog 80 1 1 := FieldF.of Try.runUnderlying80 rfl rfl Try.sizeOf12
theorem V80_1 : ∀ (vs : Array Value) (v : Value) (w : World), vs[1]? = some v → (Instr.field 80 (.agg vs) 1).run Try.prog w = .ok v w := fun vs v w h => by simp [Instr.field, Try.runUnderlying80, part, Try.isAgg12, asAgg, h]
theorem F80_2 : FieldF Try.prog 80 2 2 := FieldF.of Try.runUnderlying80 rfl rfl Try.sizeOf73
theorem V80_2 : ∀ (vs : Array Value) (v : Value) (w : World), vs[2]? = some v → (Instr.field 80 (.agg vs) 2).run Try.prog w = .ok v w := fun vs v w h => by simp [Instr.field, Try.runUnderlying80, part, Try.isAgg73, asAgg, h]
theorem F80_3 : FieldF Try.prog 80 3 3 := FieldF.of Try.runUnderlying80 rfl rfl Try.sizeOf74
theorem V80_3 : ∀ (vs : Array Value) (v : Value) (w : World), vs[3]? = some v → (Instr.field 80 (.agg vs) 3).run Try.prog w = .ok v w := fun vs v w h => by simp [Instr.field, Try.runUnderlying80, part, Try.isAgg74, asAgg, h]
theorem F80_4 : FieldF Try.prog 80 4 4 := FieldF.of Try.runUnderlying80 rfl rfl Try.sizeOf5
theorem V80_4 : ∀ (vs : Array Value) (v : Value) (w : World), vs[4]? = some v → (Instr.field 80 (.agg vs) 4).run Try.prog w = .ok v w := fun vs v w h => by simp [Instr.field, Try.runUnderlying80, part, Try.isAgg5, asAgg, h]
theorem F80_5 : FieldF Try.prog 80 5 5 := FieldF.of Try.runUnderlying80 rfl rfl Try.sizeOf5
theorem V80_5 : ∀ (vs : Array Value) (v : Value) (w : World), vs[5]? = some v → (Instr.field 80 (.agg vs) 5).run Try.prog w = .ok v w := fun vs v w h => by simp [Instr.field, Try.runUnderlying80, part, Try.isAgg5, asAgg, h]
theorem F80_6 : FieldF Try.prog 80 6 6 := FieldF.of Try.runUnderlying80 rfl rfl Try.sizeOf75
theorem V80_6 : ∀ (vs : Array Value) (v : Value) (w : World), vs[6]? = some v → (Instr.field 80 (.agg vs) 6).run Try.prog w = .ok v w := fun vs v w h => by simp [Instr.field, Try.runUnderlying80, part, Try.isAgg75, asAgg, h]
theorem F80_7 : FieldF Try.prog 80 7 7 := FieldF.of Try.runUnderlying80 rfl rfl Try.sizeOf76
theorem V80_7 : ∀ (vs : Array Value) (v : Value) (w : World), vs[7]? = some v → (Instr.field 80 (.agg vs) 7).run Try.prog w = .ok v w := fun vs v w h => by simp [Instr.field, Try.runUnderlying80, part, Try.isAgg76, asAgg, h]
theorem F80_8 : FieldF Try.prog 80 8 8 := FieldF.of Try.runUnderlying80 rfl rfl Try.sizeOf65
theorem V80_8 : ∀ (vs : Array Value) (v : Value) (w : World), vs[8]? = some v → (Instr.field 80 (.agg vs) 8).run Try.prog w = .ok v w := fun vs v w h => by simp [Instr.field, Try.runUnderlying80, part, Try.isAgg65, asAgg, h]
theorem F80_9 : FieldF Try.prog 80 9 9 := FieldF.of Try.runUnderlying80 rfl rfl Try.sizeOf77
theorem V80_9 : ∀ (vs : Array Value) (v : Value) (w : World), vs[9]? = some v → (Instr.field 80 (.agg vs) 9).run Try.prog w = .ok v w := fun vs v w h => by simp [Instr.field, Try.runUnderlying80, part, Try.isAgg77, asAgg, h]
theorem F80_10 : FieldF Try.prog 80 10 10 := FieldF.of Try.runUnderlying80 rfl rfl Try.sizeOf78
theorem V80_10 : ∀ (vs : Array Value) (v : Value) (w : World), vs[10]? = some v → (Instr.field 80 (.agg vs) 10).run Try.prog w = .ok v w := fun vs v w h => by simp [Instr.field, Try.runUnderlying80, part, Try.isAgg78, asAgg, h]
theorem BF80 : BuildF Try.prog 80 [Go.Value.int Go.IntKind.u64 0, Go.Value.int Go.IntKind.u64 0, Go.Value.int Go.IntKind.u32 0, Go.Value.int Go.IntKind.u8 0, Go.Value.int Go.IntKind.u8 0, Go.Value.int Go.IntKind.u8 0, Go.Value.int Go.IntKind.u8 0, Go.Value.nilFunc, Go.Value.pointer none, Go.Value.int Go.IntKind.i32 0, Go.Value.int Go.IntKind.i32 0] := ⟨Try.zeroValue80, by simp [Value.oneCell'], _, Try.runUnderlying80, fun w => by
  simp [Sem.run_bind, Result.andThen, Try.sizeOf5, Try.sizeOf12, Try.sizeOf65, Try.sizeOf73, Try.sizeOf74, Try.sizeOf75, Try.sizeOf76, Try.sizeOf77, Try.sizeOf78, List.range, List.range.loop]⟩
end Go.Proofs.Ytbbkgfkghpflnaa

