/- What the types of this program say, a fact each (no condition). -/
import Derived.Test.YtcobkjognpjikaaGreatDoorKF
import Derived.Test.YtcobkjognpjikaaGreatDoorProg
set_option linter.unusedSimpArgs false
set_option linter.unusedVariables false
namespace Go.Proofs.YtcobkjognpjikaaGreatDoor
theorem mixedO : Tryz.prog.follows .mixedOrders = true := by kernel_rfl
theorem O2 : OneF Tryz.prog 2 := ⟨Tryz.isAgg2, Tryz.sizeOf2⟩
theorem O3 : OneF Tryz.prog 3 := ⟨Tryz.isAgg3, Tryz.sizeOf3⟩
theorem Z3 : ZeroF Tryz.prog 3 (Go.Value.int Go.IntKind.i64 0) := Tryz.zeroValue3
theorem O4 : OneF Tryz.prog 4 := ⟨Tryz.isAgg4, Tryz.sizeOf4⟩
theorem Z4 : ZeroF Tryz.prog 4 (Go.Value.bool false) := Tryz.zeroValue4
theorem O5 : OneF Tryz.prog 5 := ⟨Tryz.isAgg5, Tryz.sizeOf5⟩
theorem O9 : OneF Tryz.prog 9 := ⟨Tryz.isAgg9, Tryz.sizeOf9⟩
theorem O22 : OneF Tryz.prog 22 := ⟨Tryz.isAgg22, Tryz.sizeOf22⟩
theorem O23 : OneF Tryz.prog 23 := ⟨Tryz.isAgg23, Tryz.sizeOf23⟩
theorem Z23 : ZeroF Tryz.prog 23 (Go.Value.int Go.IntKind.i64 0) := Tryz.zeroValue23
theorem A25 : AggF Tryz.prog 25 9 := ⟨Tryz.isAgg25, Tryz.sizeOf25⟩
theorem Z25 : ZeroF Tryz.prog 25 (Go.Value.agg #[Go.Value.int Go.IntKind.i64 0, Go.Value.int Go.IntKind.u64 0, Go.Value.int Go.IntKind.i64 0, Go.Value.string (ByteArray.mk #[]), Go.Value.string (ByteArray.mk #[]), Go.Value.int Go.IntKind.i64 0, Go.Value.int Go.IntKind.i64 0, Go.Value.int Go.IntKind.i64 0, Go.Value.int Go.IntKind.i64 0]) := Tryz.zeroValue25
theorem F25_0 : FieldF Tryz.prog 25 0 0 := FieldF.of Tryz.runUnderlying25 rfl rfl Tryz.sizeOf3
theorem F25_1 : FieldF Tryz.prog 25 1 1 := FieldF.of Tryz.runUnderlying25 rfl rfl Tryz.sizeOf22
theorem F25_2 : FieldF Tryz.prog 25 2 2 := FieldF.of Tryz.runUnderlying25 rfl rfl Tryz.sizeOf23
theorem F25_3 : FieldF Tryz.prog 25 3 3 := FieldF.of Tryz.runUnderlying25 rfl rfl Tryz.sizeOf9
theorem F25_4 : FieldF Tryz.prog 25 4 4 := FieldF.of Tryz.runUnderlying25 rfl rfl Tryz.sizeOf9
theorem F25_5 : FieldF Tryz.prog 25 5 5 := FieldF.of Tryz.runUnderlying25 rfl rfl Tryz.sizeOf3
theorem F25_6 : FieldF Tryz.prog 25 6 6 := FieldF.of Tryz.runUnderlying25 rfl rfl Tryz.sizeOf3
theorem F25_7 : FieldF Tryz.prog 25 7 7 := FieldF.of Tryz.runUnderlying25 rfl rfl Tryz.sizeOf3
theorem F25_8 : FieldF Tryz.prog 25 8 8 := FieldF.of Tryz.runUnderlying25 rfl rfl Tryz.sizeOf2
theorem BF25 : BuildF Tryz.prog 25 [Go.Value.int Go.IntKind.i64 0, Go.Value.int Go.IntKind.u64 0, Go.Value.int Go.IntKind.i64 0, Go.Value.string (ByteArray.mk #[]), Go.Value.string (ByteArray.mk #[]), Go.Value.int Go.IntKind.i64 0, Go.Value.int Go.IntKind.i64 0, Go.Value.int Go.IntKind.i64 0, Go.Value.int Go.IntKind.i64 0] := ⟨Tryz.zeroValue25, by simp [Value.oneCell'], _, Tryz.runUnderlying25, fun w => by
  simp [Sem.run_bind, Result.andThen, Tryz.sizeOf2, Tryz.sizeOf3, Tryz.sizeOf9, Tryz.sizeOf22, Tryz.sizeOf23, List.range, List.range.loop]⟩
theorem QF25 (a0 b0 : Int) (a1 b1 : Int) (a2 b2 : Int) (a3 b3 : List UInt8) (a4 b4 : List UInt8) (a5 b5 : Int) (a6 b6 : Int) (a7 b7 : Int) (a8 b8 : Int) : ∀ w, (Op.eqFields 9999 #[.int .i64 a0, .int .u64 a1, .int .i64 a2, .string ⟨a3.toArray⟩, .string ⟨a4.toArray⟩, .int .i64 a5, .int .i64 a6, .int .i64 a7, .int .i64 a8] #[.int .i64 b0, .int .u64 b1, .int .i64 b2, .string ⟨b3.toArray⟩, .string ⟨b4.toArray⟩, .int .i64 b5, .int .i64 b6, .int .i64 b7, .int .i64 b8] (#[⟨ "Kind", 3, 0, false, "", "", 0⟩, ⟨ "Id", 22, 1, false, "", "", 8⟩, ⟨ "Err", 23, 2, false, "", "", 16⟩, ⟨ "Session", 9, 3, false, "", "", 24⟩, ⟨ "Ticket", 9, 4, false, "", "", 40⟩, ⟨ "Seat", 3, 5, false, "", "", 56⟩, ⟨ "N", 3, 6, false, "", "", 64⟩, ⟨ "Place", 3, 7, false, "", "", 72⟩, ⟨ "Deadline", 2, 8, false, "", "", 80⟩] : Array Field).toList).run Tryz.prog w = .ok ((((((((decide (a0 = b0) && decide (a1 = b1)) && decide (a2 = b2)) && decide (a3 = b3)) && decide (a4 = b4)) && decide (a5 = b5)) && decide (a6 = b6)) && decide (a7 = b7)) && decide (a8 = b8)) w := by
  intro w
  simp [Op.eqFields, part, byt_beq, run_equalIn_int (P := Tryz.prog) _ 9998 3 _ _ _ _ Tryz.underlying3, run_equalIn_int (P := Tryz.prog) _ 9998 22 _ _ _ _ Tryz.underlying22, run_equalIn_int (P := Tryz.prog) _ 9998 23 _ _ _ _ Tryz.underlying23, run_equalIn_string (P := Tryz.prog) _ 9998 9 _ _ Tryz.underlying9, run_equalIn_string (P := Tryz.prog) _ 9998 9 _ _ Tryz.underlying9, run_equalIn_int (P := Tryz.prog) _ 9998 3 _ _ _ _ Tryz.underlying3, run_equalIn_int (P := Tryz.prog) _ 9998 3 _ _ _ _ Tryz.underlying3, run_equalIn_int (P := Tryz.prog) _ 9998 3 _ _ _ _ Tryz.underlying3, run_equalIn_int (P := Tryz.prog) _ 9998 2 _ _ _ _ Tryz.underlying2, Tryz.isAgg2, Tryz.isAgg3, Tryz.isAgg9, Tryz.isAgg22, Tryz.isAgg23]
  by_cases h0 : a0 = b0 <;> by_cases h1 : a1 = b1 <;> by_cases h2 : a2 = b2 <;> by_cases h3 : a3 = b3 <;> by_cases h4 : a4 = b4 <;> by_cases h5 : a5 = b5 <;> by_cases h6 : a6 = b6 <;> by_cases h7 : a7 = b7 <;> by_cases h8 : a8 = b8 <;> simp [*]
theorem EQ25 (x y : Operand) (a0 b0 : Int) (a1 b1 : Int) (a2 b2 : Int) (a3 b3 : List UInt8) (a4 b4 : List UInt8) (a5 b5 : Int) (a6 b6 : Int) (a7 b7 : Int) (a8 b8 : Int) : ∀ w, (do eqGuard .eql 25 x y (.agg #[.int .i64 a0, .int .u64 a1, .int .i64 a2, .string ⟨a3.toArray⟩, .string ⟨a4.toArray⟩, .int .i64 a5, .int .i64 a6, .int .i64 a7, .int .i64 a8]) (.agg #[.int .i64 b0, .int .u64 b1, .int .i64 b2, .string ⟨b3.toArray⟩, .string ⟨b4.toArray⟩, .int .i64 b5, .int .i64 b6, .int .i64 b7, .int .i64 b8]); binOp .eql 25 (.agg #[.int .i64 a0, .int .u64 a1, .int .i64 a2, .string ⟨a3.toArray⟩, .string ⟨a4.toArray⟩, .int .i64 a5, .int .i64 a6, .int .i64 a7, .int .i64 a8]) (.agg #[.int .i64 b0, .int .u64 b1, .int .i64 b2, .string ⟨b3.toArray⟩, .string ⟨b4.toArray⟩, .int .i64 b5, .int .i64 b6, .int .i64 b7, .int .i64 b8]) : Sem Value).run Tryz.prog w = .ok (.bool ((((((((decide (a0 = b0) && decide (a1 = b1)) && decide (a2 = b2)) && decide (a3 = b3)) && decide (a4 = b4)) && decide (a5 = b5)) && decide (a6 = b6)) && decide (a7 = b7)) && decide (a8 = b8))) w := run_eqS Tryz.underlying25 Tryz.stoodInHeld25 Tryz.eqGuardType25 (QF25 a0 b0 a1 b1 a2 b2 a3 b3 a4 b4 a5 b5 a6 b6 a7 b7 a8 b8) x y
theorem NE25 (x y : Operand) (a0 b0 : Int) (a1 b1 : Int) (a2 b2 : Int) (a3 b3 : List UInt8) (a4 b4 : List UInt8) (a5 b5 : Int) (a6 b6 : Int) (a7 b7 : Int) (a8 b8 : Int) : ∀ w, (do eqGuard .neq 25 x y (.agg #[.int .i64 a0, .int .u64 a1, .int .i64 a2, .string ⟨a3.toArray⟩, .string ⟨a4.toArray⟩, .int .i64 a5, .int .i64 a6, .int .i64 a7, .int .i64 a8]) (.agg #[.int .i64 b0, .int .u64 b1, .int .i64 b2, .string ⟨b3.toArray⟩, .string ⟨b4.toArray⟩, .int .i64 b5, .int .i64 b6, .int .i64 b7, .int .i64 b8]); binOp .neq 25 (.agg #[.int .i64 a0, .int .u64 a1, .int .i64 a2, .string ⟨a3.toArray⟩, .string ⟨a4.toArray⟩, .int .i64 a5, .int .i64 a6, .int .i64 a7, .int .i64 a8]) (.agg #[.int .i64 b0, .int .u64 b1, .int .i64 b2, .string ⟨b3.toArray⟩, .string ⟨b4.toArray⟩, .int .i64 b5, .int .i64 b6, .int .i64 b7, .int .i64 b8]) : Sem Value).run Tryz.prog w = .ok (.bool (!((((((((decide (a0 = b0) && decide (a1 = b1)) && decide (a2 = b2)) && decide (a3 = b3)) && decide (a4 = b4)) && decide (a5 = b5)) && decide (a6 = b6)) && decide (a7 = b7)) && decide (a8 = b8)))) w := run_neS Tryz.underlying25 Tryz.stoodInHeld25 Tryz.eqGuardType25 (QF25 a0 b0 a1 b1 a2 b2 a3 b3 a4 b4 a5 b5 a6 b6 a7 b7 a8 b8) x y
theorem O33 : OneF Tryz.prog 33 := ⟨Tryz.isAgg33, Tryz.sizeOf33⟩
theorem Z33 : ZeroF Tryz.prog 33 (Go.Value.slice none 0 0) := Tryz.zeroValue33
theorem I33 : IndexF Tryz.prog 33 1 := IndexF.of Tryz.runUnderlying33 Tryz.sizeOf5
theorem S33 : SliceT Tryz.prog 33 := ⟨_, Tryz.runUnderlying33⟩
theorem AP33 : AppF Tryz.prog 33 5 1 := ⟨Tryz.underlying33, by kernel_rfl⟩
theorem SF33 : SliceF Tryz.prog 33 1 := ⟨_, Tryz.runUnderlying33, Tryz.sizeOf5⟩
theorem O38 : OneF Tryz.prog 38 := ⟨Tryz.isAgg38, Tryz.sizeOf38⟩
theorem A40 : AggF Tryz.prog 40 10 := ⟨Tryz.isAgg40, Tryz.sizeOf40⟩
theorem Z40 : ZeroF Tryz.prog 40 (Go.Value.agg #[Go.Value.int Go.IntKind.i64 0, Go.Value.int Go.IntKind.u64 0, Go.Value.int Go.IntKind.u32 0, Go.Value.int Go.IntKind.u32 0, Go.Value.string (ByteArray.mk #[]), Go.Value.string (ByteArray.mk #[]), Go.Value.int Go.IntKind.i64 0, Go.Value.int Go.IntKind.i64 0, Go.Value.int Go.IntKind.i64 0, Go.Value.int Go.IntKind.i64 0]) := Tryz.zeroValue40
theorem F40_0 : FieldF Tryz.prog 40 0 0 := FieldF.of Tryz.runUnderlying40 rfl rfl Tryz.sizeOf3
theorem F40_1 : FieldF Tryz.prog 40 1 1 := FieldF.of Tryz.runUnderlying40 rfl rfl Tryz.sizeOf22
theorem F40_2 : FieldF Tryz.prog 40 2 2 := FieldF.of Tryz.runUnderlying40 rfl rfl Tryz.sizeOf38
theorem F40_3 : FieldF Tryz.prog 40 3 3 := FieldF.of Tryz.runUnderlying40 rfl rfl Tryz.sizeOf38
theorem F40_4 : FieldF Tryz.prog 40 4 4 := FieldF.of Tryz.runUnderlying40 rfl rfl Tryz.sizeOf9
theorem F40_5 : FieldF Tryz.prog 40 5 5 := FieldF.of Tryz.runUnderlying40 rfl rfl Tryz.sizeOf9
theorem F40_6 : FieldF Tryz.prog 40 6 6 := FieldF.of Tryz.runUnderlying40 rfl rfl Tryz.sizeOf3
theorem F40_7 : FieldF Tryz.prog 40 7 7 := FieldF.of Tryz.runUnderlying40 rfl rfl Tryz.sizeOf3
theorem F40_8 : FieldF Tryz.prog 40 8 8 := FieldF.of Tryz.runUnderlying40 rfl rfl Tryz.sizeOf3
theorem F40_9 : FieldF Tryz.prog 40 9 9 := FieldF.of Tryz.runUnderlying40 rfl rfl Tryz.sizeOf3
theorem BF40 : BuildF Tryz.prog 40 [Go.Value.int Go.IntKind.i64 0, Go.Value.int Go.IntKind.u64 0, Go.Value.int Go.IntKind.u32 0, Go.Value.int Go.IntKind.u32 0, Go.Value.string (ByteArray.mk #[]), Go.Value.string (ByteArray.mk #[]), Go.Value.int Go.IntKind.i64 0, Go.Value.int Go.IntKind.i64 0, Go.Value.int Go.IntKind.i64 0, Go.Value.int Go.IntKind.i64 0] := ⟨Tryz.zeroValue40, by simp [Value.oneCell'], _, Tryz.runUnderlying40, fun w => by
  simp [Sem.run_bind, Result.andThen, Tryz.sizeOf3, Tryz.sizeOf9, Tryz.sizeOf22, Tryz.sizeOf38, List.range, List.range.loop]⟩
theorem F46_0 : FieldF Tryz.prog 46 0 0 := FieldF.of Tryz.runUnderlying46 rfl rfl Tryz.sizeOf23
theorem F46_1 : FieldF Tryz.prog 46 1 1 := FieldF.of Tryz.runUnderlying46 rfl rfl Tryz.sizeOf3
theorem F46_2 : FieldF Tryz.prog 46 2 2 := FieldF.of Tryz.runUnderlying46 rfl rfl Tryz.sizeOf3
theorem F46_3 : FieldF Tryz.prog 46 3 3 := FieldF.of Tryz.runUnderlying46 rfl rfl Tryz.sizeOf2
theorem F46_5 : FieldF Tryz.prog 46 5 8 := FieldF.of Tryz.runUnderlying46 rfl rfl Tryz.sizeOf3
theorem BG46 : BuildG Tryz.prog 46 [Go.Value.int Go.IntKind.i64 0, Go.Value.int Go.IntKind.i64 0, Go.Value.int Go.IntKind.i64 0, Go.Value.int Go.IntKind.i64 0, Go.Value.int Go.IntKind.u32 0, Go.Value.int Go.IntKind.u32 0, Go.Value.int Go.IntKind.u64 0, Go.Value.int Go.IntKind.u64 0, Go.Value.int Go.IntKind.i64 0] [(0, 1), (1, 1), (2, 1), (3, 1), (4, 4), (8, 1)] := ⟨Tryz.zeroValue46, _, Tryz.runUnderlying46, fun w => by
  simp [Sem.run_bind, Result.andThen, Tryz.sizeOf2, Tryz.sizeOf3, Tryz.sizeOf23, Tryz.sizeOf44]⟩
theorem A49 : AggF Tryz.prog 49 14 := ⟨Tryz.isAgg49, Tryz.sizeOf49⟩
theorem I49 : IndexAF Tryz.prog 49 14 1 := IndexAF.of Tryz.runUnderlying49 Tryz.sizeOf9
theorem O50 : OneF Tryz.prog 50 := ⟨Tryz.isAgg50, Tryz.sizeOf50⟩
theorem Z50 : ZeroF Tryz.prog 50 (Go.Value.slice none 0 0) := Tryz.zeroValue50
theorem I50 : IndexF Tryz.prog 50 1 := IndexF.of Tryz.runUnderlying50 Tryz.sizeOf9
theorem AP50 : AppF Tryz.prog 50 9 1 := ⟨Tryz.underlying50, by kernel_rfl⟩
theorem A55 : AggF Tryz.prog 55 3 := ⟨Tryz.isAgg55, Tryz.sizeOf55⟩
theorem Z55 : ZeroF Tryz.prog 55 (Go.Value.agg #[Go.Value.int Go.IntKind.i64 0, Go.Value.int Go.IntKind.u64 0, Go.Value.string (ByteArray.mk #[])]) := Tryz.zeroValue55
theorem F55_0 : FieldF Tryz.prog 55 0 0 := FieldF.of Tryz.runUnderlying55 rfl rfl Tryz.sizeOf3
theorem F55_1 : FieldF Tryz.prog 55 1 1 := FieldF.of Tryz.runUnderlying55 rfl rfl Tryz.sizeOf22
theorem F55_2 : FieldF Tryz.prog 55 2 2 := FieldF.of Tryz.runUnderlying55 rfl rfl Tryz.sizeOf9
theorem BF55 : BuildF Tryz.prog 55 [Go.Value.int Go.IntKind.i64 0, Go.Value.int Go.IntKind.u64 0, Go.Value.string (ByteArray.mk #[])] := ⟨Tryz.zeroValue55, by simp [Value.oneCell'], _, Tryz.runUnderlying55, fun w => by
  simp [Sem.run_bind, Result.andThen, Tryz.sizeOf3, Tryz.sizeOf9, Tryz.sizeOf22, List.range, List.range.loop]⟩
theorem O61 : OneF Tryz.prog 61 := ⟨Tryz.isAgg61, Tryz.sizeOf61⟩
theorem Z61 : ZeroF Tryz.prog 61 (Go.Value.slice none 0 0) := Tryz.zeroValue61
theorem I61 : IndexF Tryz.prog 61 3 := IndexF.of Tryz.runUnderlying61 Tryz.sizeOf55
theorem S61 : SliceT Tryz.prog 61 := ⟨_, Tryz.runUnderlying61⟩
theorem AP61 : AppF Tryz.prog 61 55 3 := ⟨Tryz.underlying61, by kernel_rfl⟩
theorem O64 : OneF Tryz.prog 64 := ⟨Tryz.isAgg64, Tryz.sizeOf64⟩
theorem Z64 : ZeroF Tryz.prog 64 (Go.Value.slice none 0 0) := Tryz.zeroValue64
theorem I64 : IndexF Tryz.prog 64 2 := IndexF.of Tryz.runUnderlying64 Tryz.sizeOf68
theorem S64 : SliceT Tryz.prog 64 := ⟨_, Tryz.runUnderlying64⟩
theorem AP64 : AppF Tryz.prog 64 68 2 := ⟨Tryz.underlying64, by kernel_rfl⟩
theorem SF64 : SliceF Tryz.prog 64 2 := ⟨_, Tryz.runUnderlying64, Tryz.sizeOf68⟩
theorem A68 : AggF Tryz.prog 68 2 := ⟨Tryz.isAgg68, Tryz.sizeOf68⟩
theorem Z68 : ZeroF Tryz.prog 68 (Go.Value.agg #[Go.Value.string (ByteArray.mk #[]), Go.Value.bool false]) := Tryz.zeroValue68
theorem F68_0 : FieldF Tryz.prog 68 0 0 := FieldF.of Tryz.runUnderlying68 rfl rfl Tryz.sizeOf9
theorem F68_1 : FieldF Tryz.prog 68 1 1 := FieldF.of Tryz.runUnderlying68 rfl rfl Tryz.sizeOf4
theorem BF68 : BuildF Tryz.prog 68 [Go.Value.string (ByteArray.mk #[]), Go.Value.bool false] := ⟨Tryz.zeroValue68, by simp [Value.oneCell'], _, Tryz.runUnderlying68, fun w => by
  simp [Sem.run_bind, Result.andThen, Tryz.sizeOf4, Tryz.sizeOf9, List.range, List.range.loop]⟩
theorem O72 : OneF Tryz.prog 72 := ⟨Tryz.isAgg72, Tryz.sizeOf72⟩
theorem Z72 : ZeroF Tryz.prog 72 (Go.Value.slice none 0 0) := Tryz.zeroValue72
theorem I72 : IndexF Tryz.prog 72 5 := IndexF.of Tryz.runUnderlying72 Tryz.sizeOf88
theorem S72 : SliceT Tryz.prog 72 := ⟨_, Tryz.runUnderlying72⟩
theorem AP72 : AppF Tryz.prog 72 88 5 := ⟨Tryz.underlying72, by kernel_rfl⟩
theorem I81 : IndexF Tryz.prog 81 1 := IndexF.of Tryz.runUnderlying81 Tryz.sizeOf3
theorem S81 : SliceT Tryz.prog 81 := ⟨_, Tryz.runUnderlying81⟩
theorem AP81 : AppF Tryz.prog 81 3 1 := ⟨Tryz.underlying81, by kernel_rfl⟩
theorem SF81 : SliceF Tryz.prog 81 1 := ⟨_, Tryz.runUnderlying81, Tryz.sizeOf3⟩
theorem A88 : AggF Tryz.prog 88 5 := ⟨Tryz.isAgg88, Tryz.sizeOf88⟩
theorem Z88 : ZeroF Tryz.prog 88 (Go.Value.agg #[Go.Value.int Go.IntKind.i64 0, Go.Value.int Go.IntKind.i64 0, Go.Value.int Go.IntKind.u64 0, Go.Value.int Go.IntKind.u64 0, Go.Value.bool false]) := Tryz.zeroValue88
theorem F88_0 : FieldF Tryz.prog 88 0 0 := FieldF.of Tryz.runUnderlying88 rfl rfl Tryz.sizeOf3
theorem F88_1 : FieldF Tryz.prog 88 1 1 := FieldF.of Tryz.runUnderlying88 rfl rfl Tryz.sizeOf3
theorem F88_2 : FieldF Tryz.prog 88 2 2 := FieldF.of Tryz.runUnderlying88 rfl rfl Tryz.sizeOf22
theorem V88_2 : ∀ (vs : Array Value) (v : Value) (w : World), vs[2]? = some v → (Instr.field 88 (.agg vs) 2).run Tryz.prog w = .ok v w := fun vs v w h => by simp [Instr.field, Tryz.runUnderlying88, part, Tryz.isAgg22, asAgg, h]
theorem F88_3 : FieldF Tryz.prog 88 3 3 := FieldF.of Tryz.runUnderlying88 rfl rfl Tryz.sizeOf22
theorem F88_4 : FieldF Tryz.prog 88 4 4 := FieldF.of Tryz.runUnderlying88 rfl rfl Tryz.sizeOf4
theorem BF88 : BuildF Tryz.prog 88 [Go.Value.int Go.IntKind.i64 0, Go.Value.int Go.IntKind.i64 0, Go.Value.int Go.IntKind.u64 0, Go.Value.int Go.IntKind.u64 0, Go.Value.bool false] := ⟨Tryz.zeroValue88, by simp [Value.oneCell'], _, Tryz.runUnderlying88, fun w => by
  simp [Sem.run_bind, Result.andThen, Tryz.sizeOf3, Tryz.sizeOf4, Tryz.sizeOf22, List.range, List.range.loop]⟩
theorem A127 : AggF Tryz.prog 127 2 := ⟨Tryz.isAgg127, Tryz.sizeOf127⟩
theorem Z127 : ZeroF Tryz.prog 127 (Go.Value.agg #[Go.Value.int Go.IntKind.u8 0, Go.Value.int Go.IntKind.u8 0]) := Tryz.zeroValue127
theorem F127_0 : FieldF Tryz.prog 127 0 0 := FieldF.of Tryz.runUnderlying127 rfl rfl Tryz.sizeOf5
theorem F127_1 : FieldF Tryz.prog 127 1 1 := FieldF.of Tryz.runUnderlying127 rfl rfl Tryz.sizeOf5
theorem A128 : AggF Tryz.prog 128 10 := ⟨Tryz.isAgg128, Tryz.sizeOf128⟩
theorem IV128 : IndexVF Tryz.prog 128 5 2 := ⟨127, Tryz.runUnderlying128, Tryz.isAgg127, Tryz.sizeOf127⟩
theorem O148 : OneF Tryz.prog 148 := ⟨Tryz.isAgg148, Tryz.sizeOf148⟩
theorem I167 : IndexAF Tryz.prog 167 14 1 := IndexAF.of Tryz.runUnderlying167 Tryz.sizeOf148
end Go.Proofs.YtcobkjognpjikaaGreatDoor

