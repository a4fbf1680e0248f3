/- What the types of this program say, a fact each (no condition). -/
import Derived.Test.YtcobkjognpjikaaDoorKF
import Derived.Test.YtcobkjognpjikaaDoorProg
set_option linter.unusedSimpArgs false
set_option linter.unusedVariables false
namespace Go.Proofs.YtcobkjognpjikaaDoor
theorem mixedO : Tryd.prog.follows .mixedOrders = true := by kernel_rfl
theorem O2 : OneF Tryd.prog 2 := ⟨Tryd.isAgg2, Tryd.sizeOf2⟩
theorem O3 : OneF Tryd.prog 3 := ⟨Tryd.isAgg3, Tryd.sizeOf3⟩
theorem Z3 : ZeroF Tryd.prog 3 (Go.Value.int Go.IntKind.i64 0) := Tryd.zeroValue3
theorem O4 : OneF Tryd.prog 4 := ⟨Tryd.isAgg4, Tryd.sizeOf4⟩
theorem O5 : OneF Tryd.prog 5 := ⟨Tryd.isAgg5, Tryd.sizeOf5⟩
theorem O9 : OneF Tryd.prog 9 := ⟨Tryd.isAgg9, Tryd.sizeOf9⟩
theorem O22 : OneF Tryd.prog 22 := ⟨Tryd.isAgg22, Tryd.sizeOf22⟩
theorem O23 : OneF Tryd.prog 23 := ⟨Tryd.isAgg23, Tryd.sizeOf23⟩
theorem Z23 : ZeroF Tryd.prog 23 (Go.Value.int Go.IntKind.i64 0) := Tryd.zeroValue23
theorem A25 : AggF Tryd.prog 25 9 := ⟨Tryd.isAgg25, Tryd.sizeOf25⟩
theorem Z25 : ZeroF Tryd.prog 25 (Go.Value.agg #[Go.Value.int Go.IntKind.i64 0, Go.Value.int Go.IntKind.u64 0, Go.Value.int Go.IntKind.i64 0, Go.Value.string (ByteArray.mk #[]), Go.Value.string (ByteArray.mk #[]), Go.Value.int Go.IntKind.i64 0, Go.Value.int Go.IntKind.i64 0, Go.Value.int Go.IntKind.i64 0, Go.Value.int Go.IntKind.i64 0]) := Tryd.zeroValue25
theorem F25_0 : FieldF Tryd.prog 25 0 0 := FieldF.of Tryd.runUnderlying25 rfl rfl Tryd.sizeOf3
theorem F25_1 : FieldF Tryd.prog 25 1 1 := FieldF.of Tryd.runUnderlying25 rfl rfl Tryd.sizeOf22
theorem F25_2 : FieldF Tryd.prog 25 2 2 := FieldF.of Tryd.runUnderlying25 rfl rfl Tryd.sizeOf23
theorem F25_3 : FieldF Tryd.prog 25 3 3 := FieldF.of Tryd.runUnderlying25 rfl rfl Tryd.sizeOf9
theorem F25_4 : FieldF Tryd.prog 25 4 4 := FieldF.of Tryd.runUnderlying25 rfl rfl Tryd.sizeOf9
theorem F25_5 : FieldF Tryd.prog 25 5 5 := FieldF.of Tryd.runUnderlying25 rfl rfl Tryd.sizeOf3
theorem F25_6 : FieldF Tryd.prog 25 6 6 := FieldF.of Tryd.runUnderlying25 rfl rfl Tryd.sizeOf3
theorem F25_7 : FieldF Tryd.prog 25 7 7 := FieldF.of Tryd.runUnderlying25 rfl rfl Tryd.sizeOf3
theorem F25_8 : FieldF Tryd.prog 25 8 8 := FieldF.of Tryd.runUnderlying25 rfl rfl Tryd.sizeOf2
theorem BF25 : BuildF Tryd.prog 25 [Go.Value.int Go.IntKind.i64 0, Go.Value.int Go.IntKind.u64 0, Go.Value.int Go.IntKind.i64 0, Go.Value.string (ByteArray.mk #[]), Go.Value.string (ByteArray.mk #[]), Go.Value.int Go.IntKind.i64 0, Go.Value.int Go.IntKind.i64 0, Go.Value.int Go.IntKind.i64 0, Go.Value.int Go.IntKind.i64 0] := ⟨Tryd.zeroValue25, by simp [Value.oneCell'], _, Tryd.runUnderlying25, fun w => by
  simp [Sem.run_bind, Result.andThen, Tryd.sizeOf2, Tryd.sizeOf3, Tryd.sizeOf9, Tryd.sizeOf22, Tryd.sizeOf23, List.range, List.range.loop]⟩
theorem QF25 (a0 b0 : Int) (a1 b1 : Int) (a2 b2 : Int) (a3 b3 : List UInt8) (a4 b4 : List UInt8) (a5 b5 : Int) (a6 b6 : Int) (a7 b7 : Int) (a8 b8 : Int) : ∀ w, (Op.eqFields 9999 #[.int .i64 a0, .int .u64 a1, .int .i64 a2, .string ⟨a3.toArray⟩, .string ⟨a4.toArray⟩, .int .i64 a5, .int .i64 a6, .int .i64 a7, .int .i64 a8] #[.int .i64 b0, .int .u64 b1, .int .i64 b2, .string ⟨b3.toArray⟩, .string ⟨b4.toArray⟩, .int .i64 b5, .int .i64 b6, .int .i64 b7, .int .i64 b8] (#[⟨ "Kind", 3, 0, false, "", "", 0⟩, ⟨ "Id", 22, 1, false, "", "", 8⟩, ⟨ "Err", 23, 2, false, "", "", 16⟩, ⟨ "Session", 9, 3, false, "", "", 24⟩, ⟨ "Ticket", 9, 4, false, "", "", 40⟩, ⟨ "Seat", 3, 5, false, "", "", 56⟩, ⟨ "N", 3, 6, false, "", "", 64⟩, ⟨ "Place", 3, 7, false, "", "", 72⟩, ⟨ "Deadline", 2, 8, false, "", "", 80⟩] : Array Field).toList).run Tryd.prog w = .ok ((((((((decide (a0 = b0) && decide (a1 = b1)) && decide (a2 = b2)) && decide (a3 = b3)) && decide (a4 = b4)) && decide (a5 = b5)) && decide (a6 = b6)) && decide (a7 = b7)) && decide (a8 = b8)) w := by
  intro w
  simp [Op.eqFields, part, byt_beq, run_equalIn_int (P := Tryd.prog) _ 9998 3 _ _ _ _ Tryd.underlying3, run_equalIn_int (P := Tryd.prog) _ 9998 22 _ _ _ _ Tryd.underlying22, run_equalIn_int (P := Tryd.prog) _ 9998 23 _ _ _ _ Tryd.underlying23, run_equalIn_string (P := Tryd.prog) _ 9998 9 _ _ Tryd.underlying9, run_equalIn_string (P := Tryd.prog) _ 9998 9 _ _ Tryd.underlying9, run_equalIn_int (P := Tryd.prog) _ 9998 3 _ _ _ _ Tryd.underlying3, run_equalIn_int (P := Tryd.prog) _ 9998 3 _ _ _ _ Tryd.underlying3, run_equalIn_int (P := Tryd.prog) _ 9998 3 _ _ _ _ Tryd.underlying3, run_equalIn_int (P := Tryd.prog) _ 9998 2 _ _ _ _ Tryd.underlying2, Tryd.isAgg2, Tryd.isAgg3, Tryd.isAgg9, Tryd.isAgg22, Tryd.isAgg23]
  by_cases h0 : a0 = b0 <;> by_cases h1 : a1 = b1 <;> by_cases h2 : a2 = b2 <;> by_cases h3 : a3 = b3 <;> by_cases h4 : a4 = b4 <;> by_cases h5 : a5 = b5 <;> by_cases h6 : a6 = b6 <;> by_cases h7 : a7 = b7 <;> by_cases h8 : a8 = b8 <;> simp [*]
theorem EQ25 (x y : Operand) (a0 b0 : Int) (a1 b1 : Int) (a2 b2 : Int) (a3 b3 : List UInt8) (a4 b4 : List UInt8) (a5 b5 : Int) (a6 b6 : Int) (a7 b7 : Int) (a8 b8 : Int) : ∀ w, (do eqGuard .eql 25 x y (.agg #[.int .i64 a0, .int .u64 a1, .int .i64 a2, .string ⟨a3.toArray⟩, .string ⟨a4.toArray⟩, .int .i64 a5, .int .i64 a6, .int .i64 a7, .int .i64 a8]) (.agg #[.int .i64 b0, .int .u64 b1, .int .i64 b2, .string ⟨b3.toArray⟩, .string ⟨b4.toArray⟩, .int .i64 b5, .int .i64 b6, .int .i64 b7, .int .i64 b8]); binOp .eql 25 (.agg #[.int .i64 a0, .int .u64 a1, .int .i64 a2, .string ⟨a3.toArray⟩, .string ⟨a4.toArray⟩, .int .i64 a5, .int .i64 a6, .int .i64 a7, .int .i64 a8]) (.agg #[.int .i64 b0, .int .u64 b1, .int .i64 b2, .string ⟨b3.toArray⟩, .string ⟨b4.toArray⟩, .int .i64 b5, .int .i64 b6, .int .i64 b7, .int .i64 b8]) : Sem Value).run Tryd.prog w = .ok (.bool ((((((((decide (a0 = b0) && decide (a1 = b1)) && decide (a2 = b2)) && decide (a3 = b3)) && decide (a4 = b4)) && decide (a5 = b5)) && decide (a6 = b6)) && decide (a7 = b7)) && decide (a8 = b8))) w := run_eqS Tryd.underlying25 Tryd.stoodInHeld25 Tryd.eqGuardType25 (QF25 a0 b0 a1 b1 a2 b2 a3 b3 a4 b4 a5 b5 a6 b6 a7 b7 a8 b8) x y
theorem NE25 (x y : Operand) (a0 b0 : Int) (a1 b1 : Int) (a2 b2 : Int) (a3 b3 : List UInt8) (a4 b4 : List UInt8) (a5 b5 : Int) (a6 b6 : Int) (a7 b7 : Int) (a8 b8 : Int) : ∀ w, (do eqGuard .neq 25 x y (.agg #[.int .i64 a0, .int .u64 a1, .int .i64 a2, .string ⟨a3.toArray⟩, .string ⟨a4.toArray⟩, .int .i64 a5, .int .i64 a6, .int .i64 a7, .int .i64 a8]) (.agg #[.int .i64 b0, .int .u64 b1, .int .i64 b2, .string ⟨b3.toArray⟩, .string ⟨b4.toArray⟩, .int .i64 b5, .int .i64 b6, .int .i64 b7, .int .i64 b8]); binOp .neq 25 (.agg #[.int .i64 a0, .int .u64 a1, .int .i64 a2, .string ⟨a3.toArray⟩, .string ⟨a4.toArray⟩, .int .i64 a5, .int .i64 a6, .int .i64 a7, .int .i64 a8]) (.agg #[.int .i64 b0, .int .u64 b1, .int .i64 b2, .string ⟨b3.toArray⟩, .string ⟨b4.toArray⟩, .int .i64 b5, .int .i64 b6, .int .i64 b7, .int .i64 b8]) : Sem Value).run Tryd.prog w = .ok (.bool (!((((((((decide (a0 = b0) && decide (a1 = b1)) && decide (a2 = b2)) && decide (a3 = b3)) && decide (a4 = b4)) && decide (a5 = b5)) && decide (a6 = b6)) && decide (a7 = b7)) && decide (a8 = b8)))) w := run_neS Tryd.underlying25 Tryd.stoodInHeld25 Tryd.eqGuardType25 (QF25 a0 b0 a1 b1 a2 b2 a3 b3 a4 b4 a5 b5 a6 b6 a7 b7 a8 b8) x y
theorem O28 : OneF Tryd.prog 28 := ⟨Tryd.isAgg28, Tryd.sizeOf28⟩
theorem Z28 : ZeroF Tryd.prog 28 (Go.Value.slice none 0 0) := Tryd.zeroValue28
theorem I28 : IndexF Tryd.prog 28 1 := IndexF.of Tryd.runUnderlying28 Tryd.sizeOf5
theorem S28 : SliceT Tryd.prog 28 := ⟨_, Tryd.runUnderlying28⟩
theorem AP28 : AppF Tryd.prog 28 5 1 := ⟨Tryd.underlying28, by kernel_rfl⟩
theorem SF28 : SliceF Tryd.prog 28 1 := ⟨_, Tryd.runUnderlying28, Tryd.sizeOf5⟩
theorem O35 : OneF Tryd.prog 35 := ⟨Tryd.isAgg35, Tryd.sizeOf35⟩
theorem A37 : AggF Tryd.prog 37 10 := ⟨Tryd.isAgg37, Tryd.sizeOf37⟩
theorem Z37 : ZeroF Tryd.prog 37 (Go.Value.agg #[Go.Value.int Go.IntKind.i64 0, Go.Value.int Go.IntKind.u64 0, Go.Value.int Go.IntKind.u32 0, Go.Value.int Go.IntKind.u32 0, Go.Value.string (ByteArray.mk #[]), Go.Value.string (ByteArray.mk #[]), Go.Value.int Go.IntKind.i64 0, Go.Value.int Go.IntKind.i64 0, Go.Value.int Go.IntKind.i64 0, Go.Value.int Go.IntKind.i64 0]) := Tryd.zeroValue37
theorem F37_0 : FieldF Tryd.prog 37 0 0 := FieldF.of Tryd.runUnderlying37 rfl rfl Tryd.sizeOf3
theorem F37_1 : FieldF Tryd.prog 37 1 1 := FieldF.of Tryd.runUnderlying37 rfl rfl Tryd.sizeOf22
theorem F37_2 : FieldF Tryd.prog 37 2 2 := FieldF.of Tryd.runUnderlying37 rfl rfl Tryd.sizeOf35
theorem F37_3 : FieldF Tryd.prog 37 3 3 := FieldF.of Tryd.runUnderlying37 rfl rfl Tryd.sizeOf35
theorem F37_4 : FieldF Tryd.prog 37 4 4 := FieldF.of Tryd.runUnderlying37 rfl rfl Tryd.sizeOf9
theorem F37_5 : FieldF Tryd.prog 37 5 5 := FieldF.of Tryd.runUnderlying37 rfl rfl Tryd.sizeOf9
theorem F37_6 : FieldF Tryd.prog 37 6 6 := FieldF.of Tryd.runUnderlying37 rfl rfl Tryd.sizeOf3
theorem F37_7 : FieldF Tryd.prog 37 7 7 := FieldF.of Tryd.runUnderlying37 rfl rfl Tryd.sizeOf3
theorem F37_8 : FieldF Tryd.prog 37 8 8 := FieldF.of Tryd.runUnderlying37 rfl rfl Tryd.sizeOf3
theorem F37_9 : FieldF Tryd.prog 37 9 9 := FieldF.of Tryd.runUnderlying37 rfl rfl Tryd.sizeOf3
theorem BF37 : BuildF Tryd.prog 37 [Go.Value.int Go.IntKind.i64 0, Go.Value.int Go.IntKind.u64 0, Go.Value.int Go.IntKind.u32 0, Go.Value.int Go.IntKind.u32 0, Go.Value.string (ByteArray.mk #[]), Go.Value.string (ByteArray.mk #[]), Go.Value.int Go.IntKind.i64 0, Go.Value.int Go.IntKind.i64 0, Go.Value.int Go.IntKind.i64 0, Go.Value.int Go.IntKind.i64 0] := ⟨Tryd.zeroValue37, by simp [Value.oneCell'], _, Tryd.runUnderlying37, fun w => by
  simp [Sem.run_bind, Result.andThen, Tryd.sizeOf3, Tryd.sizeOf9, Tryd.sizeOf22, Tryd.sizeOf35, List.range, List.range.loop]⟩
theorem A41 : AggF Tryd.prog 41 9 := ⟨Tryd.isAgg41, Tryd.sizeOf41⟩
theorem F41_0 : FieldF Tryd.prog 41 0 0 := FieldF.of Tryd.runUnderlying41 rfl rfl Tryd.sizeOf23
theorem F41_1 : FieldF Tryd.prog 41 1 1 := FieldF.of Tryd.runUnderlying41 rfl rfl Tryd.sizeOf3
theorem F41_2 : FieldF Tryd.prog 41 2 2 := FieldF.of Tryd.runUnderlying41 rfl rfl Tryd.sizeOf3
theorem F41_3 : FieldF Tryd.prog 41 3 3 := FieldF.of Tryd.runUnderlying41 rfl rfl Tryd.sizeOf2
theorem F41_5 : FieldF Tryd.prog 41 5 8 := FieldF.of Tryd.runUnderlying41 rfl rfl Tryd.sizeOf3
theorem BG41 : BuildG Tryd.prog 41 [Go.Value.int Go.IntKind.i64 0, Go.Value.int Go.IntKind.i64 0, Go.Value.int Go.IntKind.i64 0, Go.Value.int Go.IntKind.i64 0, Go.Value.int Go.IntKind.u32 0, Go.Value.int Go.IntKind.u32 0, Go.Value.int Go.IntKind.u64 0, Go.Value.int Go.IntKind.u64 0, Go.Value.int Go.IntKind.i64 0] [(0, 1), (1, 1), (2, 1), (3, 1), (4, 4), (8, 1)] := ⟨Tryd.zeroValue41, _, Tryd.runUnderlying41, fun w => by
  simp [Sem.run_bind, Result.andThen, Tryd.sizeOf2, Tryd.sizeOf3, Tryd.sizeOf23, Tryd.sizeOf39]⟩
theorem A43 : AggF Tryd.prog 43 11 := ⟨Tryd.isAgg43, Tryd.sizeOf43⟩
theorem Z43 : ZeroF Tryd.prog 43 (Go.Value.agg #[Go.Value.int Go.IntKind.i64 0, Go.Value.int Go.IntKind.i64 0, Go.Value.int Go.IntKind.i64 0, Go.Value.int Go.IntKind.i64 0, Go.Value.int Go.IntKind.u32 0, Go.Value.int Go.IntKind.u32 0, Go.Value.int Go.IntKind.u64 0, Go.Value.int Go.IntKind.u64 0, Go.Value.int Go.IntKind.i64 0, Go.Value.string (ByteArray.mk #[]), Go.Value.string (ByteArray.mk #[])]) := Tryd.zeroValue43
theorem F43_0 : FieldF Tryd.prog 43 0 0 := FieldF.of Tryd.runUnderlying43 rfl rfl Tryd.sizeOf41
theorem F43_1 : FieldF Tryd.prog 43 1 9 := FieldF.of Tryd.runUnderlying43 rfl rfl Tryd.sizeOf9
theorem F43_2 : FieldF Tryd.prog 43 2 10 := FieldF.of Tryd.runUnderlying43 rfl rfl Tryd.sizeOf9
theorem O48 : OneF Tryd.prog 48 := ⟨Tryd.isAgg48, Tryd.sizeOf48⟩
theorem O55 : OneF Tryd.prog 55 := ⟨Tryd.isAgg55, Tryd.sizeOf55⟩
theorem Z55 : ZeroF Tryd.prog 55 (Go.Value.slice none 0 0) := Tryd.zeroValue55
theorem I55 : IndexF Tryd.prog 55 3 := IndexF.of Tryd.runUnderlying55 Tryd.sizeOf60
theorem S55 : SliceT Tryd.prog 55 := ⟨_, Tryd.runUnderlying55⟩
theorem AP55 : AppF Tryd.prog 55 60 3 := ⟨Tryd.underlying55, by kernel_rfl⟩
theorem A60 : AggF Tryd.prog 60 3 := ⟨Tryd.isAgg60, Tryd.sizeOf60⟩
theorem Z60 : ZeroF Tryd.prog 60 (Go.Value.agg #[Go.Value.int Go.IntKind.i64 0, Go.Value.int Go.IntKind.u64 0, Go.Value.string (ByteArray.mk #[])]) := Tryd.zeroValue60
theorem F60_0 : FieldF Tryd.prog 60 0 0 := FieldF.of Tryd.runUnderlying60 rfl rfl Tryd.sizeOf3
theorem F60_1 : FieldF Tryd.prog 60 1 1 := FieldF.of Tryd.runUnderlying60 rfl rfl Tryd.sizeOf22
theorem F60_2 : FieldF Tryd.prog 60 2 2 := FieldF.of Tryd.runUnderlying60 rfl rfl Tryd.sizeOf9
theorem BF60 : BuildF Tryd.prog 60 [Go.Value.int Go.IntKind.i64 0, Go.Value.int Go.IntKind.u64 0, Go.Value.string (ByteArray.mk #[])] := ⟨Tryd.zeroValue60, by simp [Value.oneCell'], _, Tryd.runUnderlying60, fun w => by
  simp [Sem.run_bind, Result.andThen, Tryd.sizeOf3, Tryd.sizeOf9, Tryd.sizeOf22, List.range, List.range.loop]⟩
theorem O63 : OneF Tryd.prog 63 := ⟨Tryd.isAgg63, Tryd.sizeOf63⟩
theorem Z63 : ZeroF Tryd.prog 63 (Go.Value.slice none 0 0) := Tryd.zeroValue63
theorem I63 : IndexF Tryd.prog 63 5 := IndexF.of Tryd.runUnderlying63 Tryd.sizeOf69
theorem S63 : SliceT Tryd.prog 63 := ⟨_, Tryd.runUnderlying63⟩
theorem AP63 : AppF Tryd.prog 63 69 5 := ⟨Tryd.underlying63, by kernel_rfl⟩
theorem A69 : AggF Tryd.prog 69 5 := ⟨Tryd.isAgg69, Tryd.sizeOf69⟩
theorem Z69 : ZeroF Tryd.prog 69 (Go.Value.agg #[Go.Value.int Go.IntKind.i64 0, Go.Value.int Go.IntKind.i64 0, Go.Value.int Go.IntKind.u64 0, Go.Value.int Go.IntKind.u64 0, Go.Value.bool false]) := Tryd.zeroValue69
theorem F69_0 : FieldF Tryd.prog 69 0 0 := FieldF.of Tryd.runUnderlying69 rfl rfl Tryd.sizeOf3
theorem F69_1 : FieldF Tryd.prog 69 1 1 := FieldF.of Tryd.runUnderlying69 rfl rfl Tryd.sizeOf3
theorem F69_2 : FieldF Tryd.prog 69 2 2 := FieldF.of Tryd.runUnderlying69 rfl rfl Tryd.sizeOf22
theorem V69_2 : ∀ (vs : Array Value) (v : Value) (w : World), vs[2]? = some v → (Instr.field 69 (.agg vs) 2).run Tryd.prog w = .ok v w := fun vs v w h => by simp [Instr.field, Tryd.runUnderlying69, part, Tryd.isAgg22, asAgg, h]
theorem F69_3 : FieldF Tryd.prog 69 3 3 := FieldF.of Tryd.runUnderlying69 rfl rfl Tryd.sizeOf22
theorem V69_3 : ∀ (vs : Array Value) (v : Value) (w : World), vs[3]? = some v → (Instr.field 69 (.agg vs) 3).run Tryd.prog w = .ok v w := fun vs v w h => by simp [Instr.field, Tryd.runUnderlying69, part, Tryd.isAgg22, asAgg, h]
theorem F69_4 : FieldF Tryd.prog 69 4 4 := FieldF.of Tryd.runUnderlying69 rfl rfl Tryd.sizeOf4
theorem BF69 : BuildF Tryd.prog 69 [Go.Value.int Go.IntKind.i64 0, Go.Value.int Go.IntKind.i64 0, Go.Value.int Go.IntKind.u64 0, Go.Value.int Go.IntKind.u64 0, Go.Value.bool false] := ⟨Tryd.zeroValue69, by simp [Value.oneCell'], _, Tryd.runUnderlying69, fun w => by
  simp [Sem.run_bind, Result.andThen, Tryd.sizeOf3, Tryd.sizeOf4, Tryd.sizeOf22, List.range, List.range.loop]⟩
theorem I81 : IndexF Tryd.prog 81 1 := IndexF.of Tryd.runUnderlying81 Tryd.sizeOf3
theorem S81 : SliceT Tryd.prog 81 := ⟨_, Tryd.runUnderlying81⟩
theorem AP81 : AppF Tryd.prog 81 3 1 := ⟨Tryd.underlying81, by kernel_rfl⟩
theorem SF81 : SliceF Tryd.prog 81 1 := ⟨_, Tryd.runUnderlying81, Tryd.sizeOf3⟩
theorem I89 : IndexAF Tryd.prog 89 14 1 := IndexAF.of Tryd.runUnderlying89 Tryd.sizeOf9
theorem O90 : OneF Tryd.prog 90 := ⟨Tryd.isAgg90, Tryd.sizeOf90⟩
theorem Z90 : ZeroF Tryd.prog 90 (Go.Value.slice none 0 0) := Tryd.zeroValue90
theorem I90 : IndexF Tryd.prog 90 1 := IndexF.of Tryd.runUnderlying90 Tryd.sizeOf9
theorem AP90 : AppF Tryd.prog 90 9 1 := ⟨Tryd.underlying90, by kernel_rfl⟩
theorem A136 : AggF Tryd.prog 136 2 := ⟨Tryd.isAgg136, Tryd.sizeOf136⟩
theorem Z136 : ZeroF Tryd.prog 136 (Go.Value.agg #[Go.Value.int Go.IntKind.u8 0, Go.Value.int Go.IntKind.u8 0]) := Tryd.zeroValue136
theorem F136_0 : FieldF Tryd.prog 136 0 0 := FieldF.of Tryd.runUnderlying136 rfl rfl Tryd.sizeOf5
theorem F136_1 : FieldF Tryd.prog 136 1 1 := FieldF.of Tryd.runUnderlying136 rfl rfl Tryd.sizeOf5
theorem A137 : AggF Tryd.prog 137 10 := ⟨Tryd.isAgg137, Tryd.sizeOf137⟩
theorem IV137 : IndexVF Tryd.prog 137 5 2 := ⟨136, Tryd.runUnderlying137, Tryd.isAgg136, Tryd.sizeOf136⟩
theorem I146 : IndexAF Tryd.prog 146 14 1 := IndexAF.of Tryd.runUnderlying146 Tryd.sizeOf48
end Go.Proofs.YtcobkjognpjikaaDoor

