/- What the types of this program say, a fact each (no condition). -/
import Derived.Test.YtckbomkcnmcdaaaGreatDoorKF
import Derived.Test.YtckbomkcnmcdaaaGreatDoorProg
set_option linter.unusedSimpArgs false
set_option linter.unusedVariables false
namespace Go.Proofs.YtckbomkcnmcdaaaGreatDoor
theorem mixedO : Tryz.prog.follows .mixedOrders = true := by kernel_rfl
theorem O3 : OneF Tryz.prog 3 := ⟨Tryz.isAgg3, Tryz.sizeOf3⟩
theorem O4 : OneF Tryz.prog 4 := ⟨Tryz.isAgg4, Tryz.sizeOf4⟩
theorem Z4 : ZeroF Tryz.prog 4 (Go.Value.bool false) := Tryz.zeroValue4
theorem O5 : OneF Tryz.prog 5 := ⟨Tryz.isAgg5, Tryz.sizeOf5⟩
theorem O9 : OneF Tryz.prog 9 := ⟨Tryz.isAgg9, Tryz.sizeOf9⟩
theorem I22 : IndexF Tryz.prog 22 5 := IndexF.of Tryz.runUnderlying22 Tryz.sizeOf30
theorem S22 : SliceT Tryz.prog 22 := ⟨_, Tryz.runUnderlying22⟩
theorem AP22 : AppF Tryz.prog 22 30 5 := ⟨Tryz.underlying22, by kernel_rfl⟩
theorem O23 : OneF Tryz.prog 23 := ⟨Tryz.isAgg23, Tryz.sizeOf23⟩
theorem Z23 : ZeroF Tryz.prog 23 (Go.Value.int Go.IntKind.i64 0) := Tryz.zeroValue23
theorem O28 : OneF Tryz.prog 28 := ⟨Tryz.isAgg28, Tryz.sizeOf28⟩
theorem A30 : AggF Tryz.prog 30 5 := ⟨Tryz.isAgg30, Tryz.sizeOf30⟩
theorem Z30 : ZeroF Tryz.prog 30 (Go.Value.agg #[Go.Value.int Go.IntKind.i64 0, Go.Value.int Go.IntKind.i64 0, Go.Value.int Go.IntKind.u64 0, Go.Value.int Go.IntKind.u64 0, Go.Value.bool false]) := Tryz.zeroValue30
theorem F30_0 : FieldF Tryz.prog 30 0 0 := FieldF.of Tryz.runUnderlying30 rfl rfl Tryz.sizeOf3
theorem F30_1 : FieldF Tryz.prog 30 1 1 := FieldF.of Tryz.runUnderlying30 rfl rfl Tryz.sizeOf3
theorem V30_1 : ∀ (vs : Array Value) (v : Value) (w : World), vs[1]? = some v → (Instr.field 30 (.agg vs) 1).run Tryz.prog w = .ok v w := fun vs v w h => by simp [Instr.field, Tryz.runUnderlying30, part, Tryz.isAgg3, asAgg, h]
theorem F30_2 : FieldF Tryz.prog 30 2 2 := FieldF.of Tryz.runUnderlying30 rfl rfl Tryz.sizeOf28
theorem V30_2 : ∀ (vs : Array Value) (v : Value) (w : World), vs[2]? = some v → (Instr.field 30 (.agg vs) 2).run Tryz.prog w = .ok v w := fun vs v w h => by simp [Instr.field, Tryz.runUnderlying30, part, Tryz.isAgg28, asAgg, h]
theorem F30_3 : FieldF Tryz.prog 30 3 3 := FieldF.of Tryz.runUnderlying30 rfl rfl Tryz.sizeOf28
theorem V30_3 : ∀ (vs : Array Value) (v : Value) (w : World), vs[3]? = some v → (Instr.field 30 (.agg vs) 3).run Tryz.prog w = .ok v w := fun vs v w h => by simp [Instr.field, Tryz.runUnderlying30, part, Tryz.isAgg28, asAgg, h]
theorem F30_4 : FieldF Tryz.prog 30 4 4 := FieldF.of Tryz.runUnderlying30 rfl rfl Tryz.sizeOf4
theorem BF30 : BuildF Tryz.prog 30 [Go.Value.int Go.IntKind.i64 0, Go.Value.int Go.IntKind.i64 0, Go.Value.int Go.IntKind.u64 0, Go.Value.int Go.IntKind.u64 0, Go.Value.bool false] := ⟨Tryz.zeroValue30, by simp [Value.oneCell'], _, Tryz.runUnderlying30, fun w => by
  simp [Sem.run_bind, Result.andThen, Tryz.sizeOf3, Tryz.sizeOf4, Tryz.sizeOf28, List.range, List.range.loop]⟩
theorem O33 : OneF Tryz.prog 33 := ⟨Tryz.isAgg33, Tryz.sizeOf33⟩
theorem A35 : AggF Tryz.prog 35 10 := ⟨Tryz.isAgg35, Tryz.sizeOf35⟩
theorem Z35 : ZeroF Tryz.prog 35 (Go.Value.agg #[Go.Value.int Go.IntKind.i64 0, Go.Value.int Go.IntKind.u64 0, Go.Value.int Go.IntKind.u32 0, Go.Value.int Go.IntKind.u32 0, Go.Value.string (ByteArray.mk #[]), Go.Value.string (ByteArray.mk #[]), Go.Value.int Go.IntKind.i64 0, Go.Value.int Go.IntKind.i64 0, Go.Value.int Go.IntKind.i64 0, Go.Value.int Go.IntKind.i64 0]) := Tryz.zeroValue35
theorem F35_0 : FieldF Tryz.prog 35 0 0 := FieldF.of Tryz.runUnderlying35 rfl rfl Tryz.sizeOf3
theorem F35_1 : FieldF Tryz.prog 35 1 1 := FieldF.of Tryz.runUnderlying35 rfl rfl Tryz.sizeOf28
theorem F35_2 : FieldF Tryz.prog 35 2 2 := FieldF.of Tryz.runUnderlying35 rfl rfl Tryz.sizeOf33
theorem F35_3 : FieldF Tryz.prog 35 3 3 := FieldF.of Tryz.runUnderlying35 rfl rfl Tryz.sizeOf33
theorem F35_4 : FieldF Tryz.prog 35 4 4 := FieldF.of Tryz.runUnderlying35 rfl rfl Tryz.sizeOf9
theorem F35_5 : FieldF Tryz.prog 35 5 5 := FieldF.of Tryz.runUnderlying35 rfl rfl Tryz.sizeOf9
theorem F35_6 : FieldF Tryz.prog 35 6 6 := FieldF.of Tryz.runUnderlying35 rfl rfl Tryz.sizeOf3
theorem F35_7 : FieldF Tryz.prog 35 7 7 := FieldF.of Tryz.runUnderlying35 rfl rfl Tryz.sizeOf3
theorem F35_8 : FieldF Tryz.prog 35 8 8 := FieldF.of Tryz.runUnderlying35 rfl rfl Tryz.sizeOf3
theorem F35_9 : FieldF Tryz.prog 35 9 9 := FieldF.of Tryz.runUnderlying35 rfl rfl Tryz.sizeOf3
theorem BF35 : BuildF Tryz.prog 35 [Go.Value.int Go.IntKind.i64 0, Go.Value.int Go.IntKind.u64 0, Go.Value.int Go.IntKind.u32 0, Go.Value.int Go.IntKind.u32 0, Go.Value.string (ByteArray.mk #[]), Go.Value.string (ByteArray.mk #[]), Go.Value.int Go.IntKind.i64 0, Go.Value.int Go.IntKind.i64 0, Go.Value.int Go.IntKind.i64 0, Go.Value.int Go.IntKind.i64 0] := ⟨Tryz.zeroValue35, by simp [Value.oneCell'], _, Tryz.runUnderlying35, fun w => by
  simp [Sem.run_bind, Result.andThen, Tryz.sizeOf3, Tryz.sizeOf9, Tryz.sizeOf28, Tryz.sizeOf33, List.range, List.range.loop]⟩
theorem QF35 (a0 b0 : Int) (a1 b1 : Int) (a2 b2 : Int) (a3 b3 : Int) (a4 b4 : List UInt8) (a5 b5 : List UInt8) (a6 b6 : Int) (a7 b7 : Int) (a8 b8 : Int) (a9 b9 : Int) : ∀ w, (Op.eqFields 9999 #[.int .i64 a0, .int .u64 a1, .int .u32 a2, .int .u32 a3, .string ⟨a4.toArray⟩, .string ⟨a5.toArray⟩, .int .i64 a6, .int .i64 a7, .int .i64 a8, .int .i64 a9] #[.int .i64 b0, .int .u64 b1, .int .u32 b2, .int .u32 b3, .string ⟨b4.toArray⟩, .string ⟨b5.toArray⟩, .int .i64 b6, .int .i64 b7, .int .i64 b8, .int .i64 b9] (#[⟨ "Kind", 3, 0, false, "", "", 0⟩, ⟨ "Id", 28, 1, false, "", "", 8⟩, ⟨ "Owner", 33, 2, false, "", "", 16⟩, ⟨ "To", 33, 3, false, "", "", 20⟩, ⟨ "Session", 9, 4, false, "", "", 24⟩, ⟨ "Ticket", 9, 5, false, "", "", 40⟩, ⟨ "Seat", 3, 6, false, "", "", 56⟩, ⟨ "Section", 3, 7, false, "", "", 64⟩, ⟨ "N", 3, 8, false, "", "", 72⟩, ⟨ "Gate", 3, 9, false, "", "", 80⟩] : Array Field).toList).run Tryz.prog w = .ok (((((((((decide (a0 = b0) && decide (a1 = b1)) && decide (a2 = b2)) && decide (a3 = b3)) && decide (a4 = b4)) && decide (a5 = b5)) && decide (a6 = b6)) && decide (a7 = b7)) && decide (a8 = b8)) && decide (a9 = b9)) w := by
  intro w
  simp [Op.eqFields, part, byt_beq, run_equalIn_int (P := Tryz.prog) _ 9998 3 _ _ _ _ Tryz.underlying3, run_equalIn_int (P := Tryz.prog) _ 9998 28 _ _ _ _ Tryz.underlying28, run_equalIn_int (P := Tryz.prog) _ 9998 33 _ _ _ _ Tryz.underlying33, run_equalIn_int (P := Tryz.prog) _ 9998 33 _ _ _ _ Tryz.underlying33, run_equalIn_string (P := Tryz.prog) _ 9998 9 _ _ Tryz.underlying9, run_equalIn_string (P := Tryz.prog) _ 9998 9 _ _ Tryz.underlying9, run_equalIn_int (P := Tryz.prog) _ 9998 3 _ _ _ _ Tryz.underlying3, run_equalIn_int (P := Tryz.prog) _ 9998 3 _ _ _ _ Tryz.underlying3, run_equalIn_int (P := Tryz.prog) _ 9998 3 _ _ _ _ Tryz.underlying3, run_equalIn_int (P := Tryz.prog) _ 9998 3 _ _ _ _ Tryz.underlying3, Tryz.isAgg3, Tryz.isAgg9, Tryz.isAgg28, Tryz.isAgg33]
  by_cases h0 : a0 = b0 <;> by_cases h1 : a1 = b1 <;> by_cases h2 : a2 = b2 <;> by_cases h3 : a3 = b3 <;> by_cases h4 : a4 = b4 <;> by_cases h5 : a5 = b5 <;> by_cases h6 : a6 = b6 <;> by_cases h7 : a7 = b7 <;> by_cases h8 : a8 = b8 <;> by_cases h9 : a9 = b9 <;> simp [*]
theorem EQ35 (x y : Operand) (a0 b0 : Int) (a1 b1 : Int) (a2 b2 : Int) (a3 b3 : Int) (a4 b4 : List UInt8) (a5 b5 : List UInt8) (a6 b6 : Int) (a7 b7 : Int) (a8 b8 : Int) (a9 b9 : Int) : ∀ w, (do eqGuard .eql 35 x y (.agg #[.int .i64 a0, .int .u64 a1, .int .u32 a2, .int .u32 a3, .string ⟨a4.toArray⟩, .string ⟨a5.toArray⟩, .int .i64 a6, .int .i64 a7, .int .i64 a8, .int .i64 a9]) (.agg #[.int .i64 b0, .int .u64 b1, .int .u32 b2, .int .u32 b3, .string ⟨b4.toArray⟩, .string ⟨b5.toArray⟩, .int .i64 b6, .int .i64 b7, .int .i64 b8, .int .i64 b9]); binOp .eql 35 (.agg #[.int .i64 a0, .int .u64 a1, .int .u32 a2, .int .u32 a3, .string ⟨a4.toArray⟩, .string ⟨a5.toArray⟩, .int .i64 a6, .int .i64 a7, .int .i64 a8, .int .i64 a9]) (.agg #[.int .i64 b0, .int .u64 b1, .int .u32 b2, .int .u32 b3, .string ⟨b4.toArray⟩, .string ⟨b5.toArray⟩, .int .i64 b6, .int .i64 b7, .int .i64 b8, .int .i64 b9]) : Sem Value).run Tryz.prog w = .ok (.bool (((((((((decide (a0 = b0) && decide (a1 = b1)) && decide (a2 = b2)) && decide (a3 = b3)) && decide (a4 = b4)) && decide (a5 = b5)) && decide (a6 = b6)) && decide (a7 = b7)) && decide (a8 = b8)) && decide (a9 = b9))) w := run_eqS Tryz.underlying35 Tryz.stoodInHeld35 Tryz.eqGuardType35 (QF35 a0 b0 a1 b1 a2 b2 a3 b3 a4 b4 a5 b5 a6 b6 a7 b7 a8 b8 a9 b9) x y
theorem NE35 (x y : Operand) (a0 b0 : Int) (a1 b1 : Int) (a2 b2 : Int) (a3 b3 : Int) (a4 b4 : List UInt8) (a5 b5 : List UInt8) (a6 b6 : Int) (a7 b7 : Int) (a8 b8 : Int) (a9 b9 : Int) : ∀ w, (do eqGuard .neq 35 x y (.agg #[.int .i64 a0, .int .u64 a1, .int .u32 a2, .int .u32 a3, .string ⟨a4.toArray⟩, .string ⟨a5.toArray⟩, .int .i64 a6, .int .i64 a7, .int .i64 a8, .int .i64 a9]) (.agg #[.int .i64 b0, .int .u64 b1, .int .u32 b2, .int .u32 b3, .string ⟨b4.toArray⟩, .string ⟨b5.toArray⟩, .int .i64 b6, .int .i64 b7, .int .i64 b8, .int .i64 b9]); binOp .neq 35 (.agg #[.int .i64 a0, .int .u64 a1, .int .u32 a2, .int .u32 a3, .string ⟨a4.toArray⟩, .string ⟨a5.toArray⟩, .int .i64 a6, .int .i64 a7, .int .i64 a8, .int .i64 a9]) (.agg #[.int .i64 b0, .int .u64 b1, .int .u32 b2, .int .u32 b3, .string ⟨b4.toArray⟩, .string ⟨b5.toArray⟩, .int .i64 b6, .int .i64 b7, .int .i64 b8, .int .i64 b9]) : Sem Value).run Tryz.prog w = .ok (.bool (!(((((((((decide (a0 = b0) && decide (a1 = b1)) && decide (a2 = b2)) && decide (a3 = b3)) && decide (a4 = b4)) && decide (a5 = b5)) && decide (a6 = b6)) && decide (a7 = b7)) && decide (a8 = b8)) && decide (a9 = b9)))) w := run_neS Tryz.underlying35 Tryz.stoodInHeld35 Tryz.eqGuardType35 (QF35 a0 b0 a1 b1 a2 b2 a3 b3 a4 b4 a5 b5 a6 b6 a7 b7 a8 b8 a9 b9) x y
theorem O37 : OneF Tryz.prog 37 := ⟨Tryz.isAgg37, Tryz.sizeOf37⟩
theorem Z37 : ZeroF Tryz.prog 37 (Go.Value.slice none 0 0) := Tryz.zeroValue37
theorem I37 : IndexF Tryz.prog 37 1 := IndexF.of Tryz.runUnderlying37 Tryz.sizeOf5
theorem S37 : SliceT Tryz.prog 37 := ⟨_, Tryz.runUnderlying37⟩
theorem AP37 : AppF Tryz.prog 37 5 1 := ⟨Tryz.underlying37, by kernel_rfl⟩
theorem SF37 : SliceF Tryz.prog 37 1 := ⟨_, Tryz.runUnderlying37, Tryz.sizeOf5⟩
theorem O49 : OneF Tryz.prog 49 := ⟨Tryz.isAgg49, Tryz.sizeOf49⟩
theorem I66 : IndexF Tryz.prog 66 3 := IndexF.of Tryz.runUnderlying66 Tryz.sizeOf78
theorem S66 : SliceT Tryz.prog 66 := ⟨_, Tryz.runUnderlying66⟩
theorem AP66 : AppF Tryz.prog 66 78 3 := ⟨Tryz.underlying66, by kernel_rfl⟩
theorem A78 : AggF Tryz.prog 78 3 := ⟨Tryz.isAgg78, Tryz.sizeOf78⟩
theorem Z78 : ZeroF Tryz.prog 78 (Go.Value.agg #[Go.Value.int Go.IntKind.i64 0, Go.Value.int Go.IntKind.u64 0, Go.Value.string (ByteArray.mk #[])]) := Tryz.zeroValue78
theorem F78_0 : FieldF Tryz.prog 78 0 0 := FieldF.of Tryz.runUnderlying78 rfl rfl Tryz.sizeOf3
theorem F78_1 : FieldF Tryz.prog 78 1 1 := FieldF.of Tryz.runUnderlying78 rfl rfl Tryz.sizeOf28
theorem F78_2 : FieldF Tryz.prog 78 2 2 := FieldF.of Tryz.runUnderlying78 rfl rfl Tryz.sizeOf9
theorem BF78 : BuildF Tryz.prog 78 [Go.Value.int Go.IntKind.i64 0, Go.Value.int Go.IntKind.u64 0, Go.Value.string (ByteArray.mk #[])] := ⟨Tryz.zeroValue78, by simp [Value.oneCell'], _, Tryz.runUnderlying78, fun w => by
  simp [Sem.run_bind, Result.andThen, Tryz.sizeOf3, Tryz.sizeOf9, Tryz.sizeOf28, List.range, List.range.loop]⟩
theorem A79 : AggF Tryz.prog 79 14 := ⟨Tryz.isAgg79, Tryz.sizeOf79⟩
theorem I79 : IndexAF Tryz.prog 79 14 1 := IndexAF.of Tryz.runUnderlying79 Tryz.sizeOf9
theorem I80 : IndexF Tryz.prog 80 1 := IndexF.of Tryz.runUnderlying80 Tryz.sizeOf9
theorem AP80 : AppF Tryz.prog 80 9 1 := ⟨Tryz.underlying80, by kernel_rfl⟩
theorem O85 : OneF Tryz.prog 85 := ⟨Tryz.isAgg85, Tryz.sizeOf85⟩
theorem Z85 : ZeroF Tryz.prog 85 (Go.Value.slice none 0 0) := Tryz.zeroValue85
theorem I85 : IndexF Tryz.prog 85 2 := IndexF.of Tryz.runUnderlying85 Tryz.sizeOf89
theorem S85 : SliceT Tryz.prog 85 := ⟨_, Tryz.runUnderlying85⟩
theorem AP85 : AppF Tryz.prog 85 89 2 := ⟨Tryz.underlying85, by kernel_rfl⟩
theorem SF85 : SliceF Tryz.prog 85 2 := ⟨_, Tryz.runUnderlying85, Tryz.sizeOf89⟩
theorem A89 : AggF Tryz.prog 89 2 := ⟨Tryz.isAgg89, Tryz.sizeOf89⟩
theorem Z89 : ZeroF Tryz.prog 89 (Go.Value.agg #[Go.Value.string (ByteArray.mk #[]), Go.Value.bool false]) := Tryz.zeroValue89
theorem F89_0 : FieldF Tryz.prog 89 0 0 := FieldF.of Tryz.runUnderlying89 rfl rfl Tryz.sizeOf9
theorem F89_1 : FieldF Tryz.prog 89 1 1 := FieldF.of Tryz.runUnderlying89 rfl rfl Tryz.sizeOf4
theorem BF89 : BuildF Tryz.prog 89 [Go.Value.string (ByteArray.mk #[]), Go.Value.bool false] := ⟨Tryz.zeroValue89, by simp [Value.oneCell'], _, Tryz.runUnderlying89, fun w => by
  simp [Sem.run_bind, Result.andThen, Tryz.sizeOf4, Tryz.sizeOf9, List.range, List.range.loop]⟩
theorem I94 : IndexAF Tryz.prog 94 14 1 := IndexAF.of Tryz.runUnderlying94 Tryz.sizeOf49
theorem I95 : IndexF Tryz.prog 95 1 := IndexF.of Tryz.runUnderlying95 Tryz.sizeOf3
theorem S95 : SliceT Tryz.prog 95 := ⟨_, Tryz.runUnderlying95⟩
theorem AP95 : AppF Tryz.prog 95 3 1 := ⟨Tryz.underlying95, by kernel_rfl⟩
theorem SF95 : SliceF Tryz.prog 95 1 := ⟨_, Tryz.runUnderlying95, Tryz.sizeOf3⟩
theorem A144 : AggF Tryz.prog 144 2 := ⟨Tryz.isAgg144, Tryz.sizeOf144⟩
theorem Z144 : ZeroF Tryz.prog 144 (Go.Value.agg #[Go.Value.int Go.IntKind.u8 0, Go.Value.int Go.IntKind.u8 0]) := Tryz.zeroValue144
theorem F144_0 : FieldF Tryz.prog 144 0 0 := FieldF.of Tryz.runUnderlying144 rfl rfl Tryz.sizeOf5
theorem F144_1 : FieldF Tryz.prog 144 1 1 := FieldF.of Tryz.runUnderlying144 rfl rfl Tryz.sizeOf5
theorem A145 : AggF Tryz.prog 145 10 := ⟨Tryz.isAgg145, Tryz.sizeOf145⟩
theorem IV145 : IndexVF Tryz.prog 145 5 2 := ⟨144, Tryz.runUnderlying145, Tryz.isAgg144, Tryz.sizeOf144⟩
end Go.Proofs.YtckbomkcnmcdaaaGreatDoor

