/- Texts of this claim, merged (L to Y); no condition. -/
import Derived.Test.YteccglgbkehdeaaGreatDoorPF4
import Derived.Shelf.Strings.Builder1
import Derived.Shelf.Strings.Builder2
import Derived.Shelf.Strings.OnBuilder
import Derived.Shelf.Strings.Trim
import Derived.Shelf.Small.Utf8
import Derived.Shelf.Small.Strs
import Derived.Shelf.Strings.BuilderF
import Derived.Shelf.Strings.BuilderK
import Derived.Shelf.Strings.Builder2Cap
import Derived.Shelf.Strconv.Atoi
import Derived.Shelf.Strconv.Itoa0
import Derived.Shelf.Strconv.Itoa1
import Derived.Shelf.LaysM
import Derived.Shelf.Strconv.Itoa2
import Derived.Shelf.Strconv.Itoa3
import Derived.Shelf.Strconv.Itoa4
import Derived.Shelf.Strconv.AtoiErrFast
import Derived.Shelf.Strconv.ParseIntEmpty
import Derived.Shelf.Strconv.AtoiFail
import Derived.Shelf.Strconv.Clone
import Derived.Shelf.Strconv.SyntaxError
import Derived.Shelf.LaysC
import Derived.Shelf.Strconv.ToError
import Derived.Shelf.Strconv.AtoiErr
import Derived.Shelf.Strconv.ErrVar
import Derived.Shelf.Strconv.Lower
import Derived.Shelf.Strconv.ParseUint10
import Derived.Shelf.Strconv.ParseUint10Empty
import Derived.Shelf.Strconv.ParseUint10Any
import Derived.Shelf.Strconv.ParseInt10
import Derived.Shelf.Strconv.RangeError
import Derived.Shelf.Strconv.ToErrorRange
import Derived.Shelf.Strconv.ParseUintEmpty
import Derived.Shelf.Strconv.ParseUint10b64
import Derived.Shelf.Strconv.ParseUint10b32
import Derived.Shelf.Strconv.ParseUint10b16
import Derived.Shelf.Strconv.ParseUint10b8
import Derived.Shelf.Strconv.ParseUint10At
import Derived.Shelf.Strconv.ParseInt10At64
import Derived.Shelf.Strconv.ParseInt10At32
import Derived.Shelf.Strconv.ParseInt10At16
import Derived.Shelf.Strconv.ParseInt10At8
import Derived.Shelf.Strconv.ParseInt10All
import Derived.Shelf.Strconv.ParseIntPublic10
import Derived.Shelf.Strconv.ErrVarParseInt
import Derived.Shelf.Strings.Search1
import Derived.Shelf.Strings.Search2
import Derived.Shelf.Strings.Search3
import Derived.Shelf.Strings.Cut
import Derived.Shelf.Strings.Count
import Derived.Shelf.Strings.Shaped
import Derived.Shelf.Strings.Prefix
import Derived.Shelf.Strings.Split
import Derived.Shelf.Strings.Runes
import Derived.Shelf.Strings.AsciiSet
import Derived.Shelf.Bits.Mul64
import Derived.Shelf.Strings.Repeat
import Derived.Shelf.Unicode.DecodeSlow
import Derived.Shelf.Strings.BuilderCap
import Derived.Test.YteccglgbkehdeaaGreatDoorProg
import Derived.Shelf.Strings.SlTrimAscii
import Derived.Lib.ItoaMem
import Derived.Lib.AppendIntMem
import Derived.Lib.Walk
import Derived.WalkKit
import Derived.BigCall
import Derived.BigGuard
set_option linter.unusedSimpArgs false
set_option linter.unusedVariables false
namespace Go.Proofs.YteccglgbkehdeaaGreatDoor
open Go.Shelf
def Tryz.lays156_ren : Go.Shelf.Ren := ⟨fun | 156 => 107 | 165 => 175 | 166 => 40 | 169 => 53 | 240 => 100 | 241 => 225 | 276 => 170 | 277 => 261 | n => n, fun | 31 => 117 | 9 => 9 | 3 => 3 | 4 => 4 | 0 => 0 | 20 => 20 | 72 => 83 | 76 => 86 | 70 => 81 | 37 => 44 | 75 => 85 | 127 => 186 | 164 => 233 | 5 => 5 | 80 => 111 | n => n, fun | n => n⟩
theorem Tryz.lays156 : Go.Proofs.Lays.n156 Tryz.prog Tryz.lays156_ren := {
  mixed := by kernel_rfl
  f156 := Tryz.func107.trans (congrArg some (by kernel_rfl))
  f165 := Tryz.func175.trans (congrArg some (by kernel_rfl))
  f166 := Tryz.func40.trans (congrArg some (by kernel_rfl))
  f169 := Tryz.func53.trans (congrArg some (by kernel_rfl))
  f240 := Tryz.func100.trans (congrArg some (by kernel_rfl))
  f241 := Tryz.func225.trans (congrArg some (by kernel_rfl))
  f276 := Tryz.func170.trans (congrArg some (by kernel_rfl))
  f277 := Tryz.func261.trans (congrArg some (by kernel_rfl))
  t0 := Tryz.underlying0
  a0 := Tryz.isAgg0
  z0 := Tryz.sizeOf0
  v0 := Tryz.zeroValue0
  t3 := Tryz.underlying3
  a3 := Tryz.isAgg3
  z3 := Tryz.sizeOf3
  v3 := Tryz.zeroValue3
  t4 := Tryz.underlying4
  a4 := Tryz.isAgg4
  z4 := Tryz.sizeOf4
  v4 := Tryz.zeroValue4
  t9 := Tryz.underlying9
  a9 := Tryz.isAgg9
  z9 := Tryz.sizeOf9
  v9 := Tryz.zeroValue9
  t20 := Tryz.underlying20
  a20 := Tryz.isAgg20
  z20 := Tryz.sizeOf20
  v20 := Tryz.zeroValue20
  t31 := Tryz.underlying117
  a31 := Tryz.isAgg117
  z31 := Tryz.sizeOf117
  v31 := Tryz.zeroValue117
  t37 := Tryz.underlying44
  a37 := Tryz.isAgg44
  z37 := Tryz.sizeOf44
  v37 := Tryz.zeroValue44
  t70 := Tryz.underlying81
  a70 := Tryz.isAgg81
  z70 := Tryz.sizeOf81
  v70 := Tryz.zeroValue81
  t72 := Tryz.underlying83
  a72 := Tryz.isAgg83
  z72 := Tryz.sizeOf83
  v72 := Tryz.zeroValue83
  t75 := Tryz.underlying85
  a75 := Tryz.isAgg85
  z75 := Tryz.sizeOf85
  v75 := Tryz.zeroValue85
  t76 := Tryz.underlying86
  a76 := Tryz.isAgg86
  z76 := Tryz.sizeOf86
  v76 := Tryz.zeroValue86
  t127 := Tryz.underlying186
  a127 := Tryz.isAgg186
  z127 := Tryz.sizeOf186
  v127 := Tryz.zeroValue186
  t164 := Tryz.underlying233
  a164 := Tryz.isAgg233
  z164 := Tryz.sizeOf233
  v164 := Tryz.zeroValue233 }
theorem Tryz.Builder_Extra_156 : Builder.Extra Tryz.prog Tryz.lays156_ren := {
  sizeBuilder := by kernel_rfl
  liesBuilder := by kernel_rfl
  t5 := Tryz.underlying5
  a5 := Tryz.isAgg5
  z5 := Tryz.sizeOf5
  v5 := Tryz.zeroValue5
  infoByte := by kernel_rfl
  cellsByte := by kernel_rfl
  sizeByte := by kernel_rfl
  neB5 := by decide }
open Go.RowKit in
/-- No element: the empty string; the world is as0 it was. (Whatever the slice's address and capacity: a nil slice too.) (LAID: no walk: one application.) -/
theorem Tryz.strings_Join_none (a : Option Addr) (c : Nat) (sep : ByteArray) (w : World) :
    Calls Tryz.prog 107 #[.slice a 0 c, .string sep] w fun e w' => e = .returned (.string ⟨#[]⟩) ∧ w' = w := Any.strings_Join_none Tryz.lays156 Tryz.Builder_Extra_156 a c sep w
open Go.RowKit in
/-- strings.Join: "Join concatenates the elements of its first argument to create a single string. The separator string sep is placed between elements in the resulting string.": HOWEVER MANY ELEMENTS. Below the heap's end the world is as0 it was. (LAID: no walk: one application.) -/
theorem Tryz.strings_Join (bk o c : Nat) (xs : List ByteArray) (sep : ByteArray) (w : World) (hcells : ∀ (j : Nat) x, xs[j]? = some x → w.cell? ⟨bk, o + j, none⟩ = some (.string x)) (hbk : bk < w.heap.size) (hN : xs.length ≤ 140737488355328) (hcap : xs.length ≤ c) (hlen : (Lib.join (xs.map (·.data.toList)) sep.data.toList).length ≤ 140737488355328) :
    Calls Tryz.prog 107 #[.slice (some ⟨bk, o, none⟩) xs.length c, .string sep] w fun e w' => e = .returned (.string ⟨(Lib.join (xs.map (·.data.toList)) sep.data.toList).toArray⟩) ∧ Below w.heap.size w w' := Any.strings_Join Tryz.lays156 Tryz.Builder_Extra_156 bk o c xs sep w hcells hbk hN hcap hlen
def Tryz.lays160_ren : Go.Shelf.Ren := ⟨fun | 160 => 262 | 232 => 283 | 231 => 282 | 227 => 284 | 234 => 286 | 233 => 285 | 236 => 288 | 235 => 287 | 228 => 304 | 271 => 306 | 151 => 305 | 197 => 266 | 120 => 318 | 152 => 317 | 260 => 290 | 137 => 307 | 119 => 322 | 224 => 223 | 225 => 222 | 217 => 221 | 266 => 259 | n => n, fun | 9 => 9 | 4 => 4 | 3 => 3 | 5 => 5 | 117 => 342 | 116 => 341 | 0 => 0 | 124 => 345 | 21 => 21 | 105 => 326 | 46 => 237 | 119 => 358 | 139 => 361 | 138 => 360 | n => n, fun | 3 => 6 | 4 => 7 | n => n⟩
theorem Tryz.lays160 : Go.Proofs.Lays.n160 Tryz.prog Tryz.lays160_ren := {
  mixed := by kernel_rfl
  f119 := Tryz.func322.trans (congrArg some (by kernel_rfl))
  f120 := Tryz.func318.trans (congrArg some (by kernel_rfl))
  f137 := Tryz.func307.trans (congrArg some (by kernel_rfl))
  f151 := Tryz.func305.trans (congrArg some (by kernel_rfl))
  f152 := Tryz.func317.trans (congrArg some (by kernel_rfl))
  f160 := Tryz.func262.trans (congrArg some (by kernel_rfl))
  f197 := Tryz.func266.trans (congrArg some (by kernel_rfl))
  f217 := Tryz.func221.trans (congrArg some (by kernel_rfl))
  f224 := Tryz.func223.trans (congrArg some (by kernel_rfl))
  f225 := Tryz.func222.trans (congrArg some (by kernel_rfl))
  f227 := Tryz.func284.trans (congrArg some (by kernel_rfl))
  f228 := Tryz.func304.trans (congrArg some (by kernel_rfl))
  f231 := Tryz.func282.trans (congrArg some (by kernel_rfl))
  f232 := Tryz.func283.trans (congrArg some (by kernel_rfl))
  f233 := Tryz.func285.trans (congrArg some (by kernel_rfl))
  f234 := Tryz.func286.trans (congrArg some (by kernel_rfl))
  f235 := Tryz.func287.trans (congrArg some (by kernel_rfl))
  f236 := Tryz.func288.trans (congrArg some (by kernel_rfl))
  f260 := Tryz.func290.trans (congrArg some (by kernel_rfl))
  f266 := Tryz.func259.trans (congrArg some (by kernel_rfl))
  f271 := Tryz.func306.trans (congrArg some (by kernel_rfl))
  t0 := Tryz.underlying0
  a0 := Tryz.isAgg0
  z0 := Tryz.sizeOf0
  v0 := Tryz.zeroValue0
  t3 := Tryz.underlying3
  a3 := Tryz.isAgg3
  z3 := Tryz.sizeOf3
  v3 := Tryz.zeroValue3
  t4 := Tryz.underlying4
  a4 := Tryz.isAgg4
  z4 := Tryz.sizeOf4
  v4 := Tryz.zeroValue4
  t5 := Tryz.underlying5
  a5 := Tryz.isAgg5
  z5 := Tryz.sizeOf5
  v5 := Tryz.zeroValue5
  t9 := Tryz.underlying9
  a9 := Tryz.isAgg9
  z9 := Tryz.sizeOf9
  v9 := Tryz.zeroValue9
  t21 := Tryz.underlying21
  a21 := Tryz.isAgg21
  z21 := Tryz.sizeOf21
  v21 := Tryz.zeroValue21
  t46 := Tryz.underlying237
  a46 := Tryz.isAgg237
  z46 := Tryz.sizeOf237
  v46 := Tryz.zeroValue237
  t105 := Tryz.underlying326
  a105 := Tryz.isAgg326
  z105 := Tryz.sizeOf326
  v105 := Tryz.zeroValue326
  t116 := Tryz.underlying341
  a116 := Tryz.isAgg341
  z116 := Tryz.sizeOf341
  t117 := Tryz.underlying342
  a117 := Tryz.isAgg342
  z117 := Tryz.sizeOf342
  v117 := Tryz.zeroValue342
  t119 := Tryz.underlying358
  a119 := Tryz.isAgg358
  z119 := Tryz.sizeOf358
  t124 := Tryz.underlying345
  a124 := Tryz.isAgg345
  z124 := Tryz.sizeOf345
  v124 := Tryz.zeroValue345
  t138 := Tryz.underlying360
  a138 := Tryz.isAgg360
  z138 := Tryz.sizeOf360
  v138 := Tryz.zeroValue360
  t139 := Tryz.underlying361
  a139 := Tryz.isAgg361
  z139 := Tryz.sizeOf361
  v139 := Tryz.zeroValue361
  g3 := by kernel_rfl
  g4 := by kernel_rfl }
def Tryz.lays283_ren : Go.Shelf.Ren := ⟨fun | 283 => 217 | n => n, fun | 3 => 3 | 9 => 9 | 4 => 4 | n => n, fun | n => n⟩
theorem Tryz.lays283 : Go.Proofs.Lays.n283 Tryz.prog Tryz.lays283_ren := {
  mixed := by kernel_rfl
  f283 := Tryz.func217.trans (congrArg some (by kernel_rfl))
  t3 := Tryz.underlying3
  a3 := Tryz.isAgg3
  z3 := Tryz.sizeOf3
  v3 := Tryz.zeroValue3
  t4 := Tryz.underlying4
  a4 := Tryz.isAgg4
  z4 := Tryz.sizeOf4
  v4 := Tryz.zeroValue4
  t9 := Tryz.underlying9
  a9 := Tryz.isAgg9
  z9 := Tryz.sizeOf9
  v9 := Tryz.zeroValue9 }
open Go.Lib in
/-- internal/strconv.small: "small returns the string for an i with 0 <= i < nSmalls.": i's decimal numeral. The world is as0 it was. (LAID: no walk: one application.) -/
theorem Tryz.internal_strconv_small (i : Nat) (h : i < 100) (w : World) :
    Calls Tryz.prog 217 #[.int .i64 i] w fun e w' => e = .returned (.string ⟨(Lib.decDigits i).toArray⟩) ∧ w' = w := Any.internal_strconv_small Tryz.lays283 i h w
def Tryz.laysM284_ren : Go.Shelf.Ren := ⟨fun | 284 => 218 | 129 => 255 | 317 => 254 | 318 => 256 | n => n, fun | 53 => 41 | 3 => 3 | 212 => 317 | 0 => 0 | 4 => 4 | 46 => 237 | 5 => 5 | 9 => 9 | n => n, fun | 17 => 3 | n => n⟩
theorem Tryz.laysM284 : Go.Proofs.LaysM.n284 Tryz.prog Tryz.laysM284_ren := {
  mixed := by kernel_rfl
  f129 := Tryz.func255.trans (congrArg some (by kernel_rfl))
  f284 := Tryz.func218.trans (congrArg some (by kernel_rfl))
  f317 := Tryz.func254.trans (congrArg some (by kernel_rfl))
  f318 := Tryz.func256.trans (congrArg some (by kernel_rfl))
  t0 := Tryz.underlying0
  a0 := Tryz.isAgg0
  z0 := Tryz.sizeOf0
  v0 := Tryz.zeroValue0
  t3 := Tryz.underlying3
  a3 := Tryz.isAgg3
  z3 := Tryz.sizeOf3
  v3 := Tryz.zeroValue3
  t4 := Tryz.underlying4
  a4 := Tryz.isAgg4
  z4 := Tryz.sizeOf4
  v4 := Tryz.zeroValue4
  t5 := Tryz.underlying5
  a5 := Tryz.isAgg5
  z5 := Tryz.sizeOf5
  v5 := Tryz.zeroValue5
  t9 := Tryz.underlying9
  a9 := Tryz.isAgg9
  z9 := Tryz.sizeOf9
  v9 := Tryz.zeroValue9
  t46 := Tryz.underlying237
  a46 := Tryz.isAgg237
  z46 := Tryz.sizeOf237
  v46 := Tryz.zeroValue237
  t53 := Tryz.underlying41
  a53 := Tryz.isAgg41
  z53 := Tryz.sizeOf41
  v53 := Tryz.zeroValue41
  t212 := Tryz.underlying317
  a212 := Tryz.isAgg317
  z212 := Tryz.sizeOf317
  v212 := Tryz.zeroValue317
  g17 := by kernel_rfl
  i0 := by kernel_rfl
  i3 := by kernel_rfl
  i4 := by kernel_rfl
  i5 := by kernel_rfl
  i9 := by kernel_rfl
  i46 := by kernel_rfl
  i53 := by kernel_rfl
  i212 := by kernel_rfl
  m17 := by kernel_rfl }
open Go.Lib in
/-- internal/strconv.numDigits, at a d that is not 0: THE NUMBER OF d's DECIMAL DIGITS. The world is as0 it was. (LAID: no walk: one application.) -/
theorem Tryz.internal_strconv_numDigits (u : Nat) (h1 : 1 ≤ u) (h2 : u < 18446744073709551616) (w : World) (htab : Lib.TabIs Tryz.prog w "internal/strconv.uint64pow10" .u64 Lib.pow10Tab) :
    Calls Tryz.prog 218 #[.int .u64 u] w fun e w' => e = .returned (.int .i64 (Lib.nDigits u)) ∧ w' = w := Any.internal_strconv_numDigits Tryz.laysM284 u h1 h2 w htab
def Tryz.lays285_ren : Go.Shelf.Ren := ⟨fun | 285 => 219 | n => n, fun | 37 => 44 | 53 => 41 | 3 => 3 | 4 => 4 | 51 => 38 | 9 => 9 | 5 => 5 | 0 => 0 | n => n, fun | n => n⟩
theorem Tryz.lays285 : Go.Proofs.Lays.n285 Tryz.prog Tryz.lays285_ren := {
  mixed := by kernel_rfl
  f285 := Tryz.func219.trans (congrArg some (by kernel_rfl))
  t0 := Tryz.underlying0
  a0 := Tryz.isAgg0
  z0 := Tryz.sizeOf0
  v0 := Tryz.zeroValue0
  t3 := Tryz.underlying3
  a3 := Tryz.isAgg3
  z3 := Tryz.sizeOf3
  v3 := Tryz.zeroValue3
  t4 := Tryz.underlying4
  a4 := Tryz.isAgg4
  z4 := Tryz.sizeOf4
  v4 := Tryz.zeroValue4
  t5 := Tryz.underlying5
  a5 := Tryz.isAgg5
  z5 := Tryz.sizeOf5
  v5 := Tryz.zeroValue5
  t9 := Tryz.underlying9
  a9 := Tryz.isAgg9
  z9 := Tryz.sizeOf9
  v9 := Tryz.zeroValue9
  t37 := Tryz.underlying44
  a37 := Tryz.isAgg44
  z37 := Tryz.sizeOf44
  v37 := Tryz.zeroValue44
  t51 := Tryz.underlying38
  a51 := Tryz.isAgg38
  z51 := Tryz.sizeOf38
  v51 := Tryz.zeroValue38
  t53 := Tryz.underlying41
  a53 := Tryz.isAgg41
  z53 := Tryz.sizeOf41
  v53 := Tryz.zeroValue41 }
open Go.RowKit Go.Sort Go.Lib in
/-- internal/strconv.formatBase10: "formatBase10 formats the decimal representation of u into a. The caller is responsible for ensuring that a is big enough to hold u. If a is too big, leading zeros will be filled in as0 needed.": THE ROW HOLDS u's DIGITS ('FmtInv .. 0 ..': every place t holds 'dg u (len - 1 - t)'); all else is as0 it was but for the count of draws. (LAID: no walk: one application.) -/
theorem Tryz.internal_strconv_formatBase10 (blk off cap : Nat) (u : Nat) (d : Array UInt8) (w : World) (hH : Holds (fun (b : UInt8) => Value.int .u8 (b.toNat : Int)) w blk off d) (hu : u < 10 ^ d.size) (hu64 : u < 18446744073709551616) (hsz : d.size < 4611686018427387904) :
    Calls Tryz.prog 219 #[.slice (some ⟨blk, off, none⟩) d.size cap, .int .u64 u] w fun e w' =>
      e = .returned (.tuple #[]) ∧ ∃ (n v' : Nat) (dk : Array UInt8), w' = (putRow (fun (b : UInt8) => Value.int .u8 (b.toNat : Int)) w blk off dk).drewN n ∧ FmtInv d.size u 0 v' dk := Any.internal_strconv_formatBase10 Tryz.lays285 blk off cap u d w hH hu hu64 hsz
def Tryz.laysM171_ren : Go.Shelf.Ren := ⟨fun | 171 => 110 | 243 => 179 | 246 => 171 | 283 => 217 | 284 => 218 | 285 => 219 | 286 => 220 | 129 => 255 | 317 => 254 | 318 => 256 | 319 => 257 | 320 => 258 | 337 => 280 | 338 => 281 | n => n, fun | 3 => 3 | 9 => 9 | 2 => 2 | 4 => 4 | 171 => 277 | 0 => 0 | 53 => 41 | 37 => 44 | 5 => 5 | 173 => 280 | 212 => 317 | 51 => 38 | 20 => 20 | 213 => 318 | 46 => 237 | 232 => 355 | 233 => 356 | n => n, fun | 17 => 3 | 18 => 4 | 19 => 5 | n => n⟩
theorem Tryz.laysM171 : Go.Proofs.LaysM.n171 Tryz.prog Tryz.laysM171_ren := {
  mixed := by kernel_rfl
  f129 := Tryz.func255.trans (congrArg some (by kernel_rfl))
  f171 := Tryz.func110.trans (congrArg some (by kernel_rfl))
  f243 := Tryz.func179.trans (congrArg some (by kernel_rfl))
  f246 := Tryz.func171.trans (congrArg some (by kernel_rfl))
  f283 := Tryz.func217.trans (congrArg some (by kernel_rfl))
  f284 := Tryz.func218.trans (congrArg some (by kernel_rfl))
  f285 := Tryz.func219.trans (congrArg some (by kernel_rfl))
  f286 := Tryz.func220.trans (congrArg some (by kernel_rfl))
  f317 := Tryz.func254.trans (congrArg some (by kernel_rfl))
  f318 := Tryz.func256.trans (congrArg some (by kernel_rfl))
  f319 := Tryz.func257.trans (congrArg some (by kernel_rfl))
  f320 := Tryz.func258.trans (congrArg some (by kernel_rfl))
  f337 := Tryz.func280.trans (congrArg some (by kernel_rfl))
  f338 := Tryz.func281.trans (congrArg some (by kernel_rfl))
  t0 := Tryz.underlying0
  a0 := Tryz.isAgg0
  z0 := Tryz.sizeOf0
  v0 := Tryz.zeroValue0
  t2 := Tryz.underlying2
  a2 := Tryz.isAgg2
  z2 := Tryz.sizeOf2
  v2 := Tryz.zeroValue2
  t3 := Tryz.underlying3
  a3 := Tryz.isAgg3
  z3 := Tryz.sizeOf3
  v3 := Tryz.zeroValue3
  t4 := Tryz.underlying4
  a4 := Tryz.isAgg4
  z4 := Tryz.sizeOf4
  v4 := Tryz.zeroValue4
  t5 := Tryz.underlying5
  a5 := Tryz.isAgg5
  z5 := Tryz.sizeOf5
  v5 := Tryz.zeroValue5
  t9 := Tryz.underlying9
  a9 := Tryz.isAgg9
  z9 := Tryz.sizeOf9
  v9 := Tryz.zeroValue9
  t20 := Tryz.underlying20
  a20 := Tryz.isAgg20
  z20 := Tryz.sizeOf20
  v20 := Tryz.zeroValue20
  t37 := Tryz.underlying44
  a37 := Tryz.isAgg44
  z37 := Tryz.sizeOf44
  v37 := Tryz.zeroValue44
  t46 := Tryz.underlying237
  a46 := Tryz.isAgg237
  z46 := Tryz.sizeOf237
  v46 := Tryz.zeroValue237
  t51 := Tryz.underlying38
  a51 := Tryz.isAgg38
  z51 := Tryz.sizeOf38
  v51 := Tryz.zeroValue38
  t53 := Tryz.underlying41
  a53 := Tryz.isAgg41
  z53 := Tryz.sizeOf41
  v53 := Tryz.zeroValue41
  t171 := Tryz.underlying277
  a171 := Tryz.isAgg277
  z171 := Tryz.sizeOf277
  v171 := Tryz.zeroValue277
  t173 := Tryz.underlying280
  a173 := Tryz.isAgg280
  z173 := Tryz.sizeOf280
  v173 := Tryz.zeroValue280
  t212 := Tryz.underlying317
  a212 := Tryz.isAgg317
  z212 := Tryz.sizeOf317
  v212 := Tryz.zeroValue317
  t213 := Tryz.underlying318
  a213 := Tryz.isAgg318
  z213 := Tryz.sizeOf318
  t232 := Tryz.underlying355
  a232 := Tryz.isAgg355
  z232 := Tryz.sizeOf355
  v232 := Tryz.zeroValue355
  t233 := Tryz.underlying356
  a233 := Tryz.isAgg356
  z233 := Tryz.sizeOf356
  v233 := Tryz.zeroValue356
  g17 := by kernel_rfl
  g18 := by kernel_rfl
  g19 := by kernel_rfl
  i0 := by kernel_rfl
  i2 := by kernel_rfl
  i3 := by kernel_rfl
  i4 := by kernel_rfl
  i5 := by kernel_rfl
  i9 := by kernel_rfl
  i20 := by kernel_rfl
  i37 := by kernel_rfl
  i46 := by kernel_rfl
  i51 := by kernel_rfl
  i53 := by kernel_rfl
  i171 := by kernel_rfl
  i173 := by kernel_rfl
  i212 := by kernel_rfl
  i232 := by kernel_rfl
  i233 := by kernel_rfl
  m17 := by kernel_rfl
  m18 := by kernel_rfl
  m19 := by kernel_rfl }
open Go.RowKit Go.Sort Go.Lib in
/-- strconv.Itoa: "Itoa is equivalent to FormatInt(int64(i), 10).": i's DECIMAL NUMERAL ('Lib.itoa': a '-' where i is negative, then the digits), FOR EVERY int. The world behind the call: the world before it, new blocks behind the heap (the library's 'var a [24]byte'), draws. (LAID: no walk: one application.) -/
theorem Tryz.strconv_Itoa (n : Int) (h0 : -9223372036854775808 ≤ n) (h1 : n ≤ 9223372036854775807) (w : World) (htab : Lib.TabIs Tryz.prog w "internal/strconv.uint64pow10" .u64 Lib.pow10Tab) :
    Calls Tryz.prog 110 #[.int .i64 n] w fun e w' => e = .returned (.string ⟨(Lib.itoa n).toArray⟩) ∧ ∃ k os, w' = grow (w.drewN k) os := Any.strconv_Itoa Tryz.laysM171 n h0 h1 w htab
def Tryz.laysM173_ren : Go.Shelf.Ren := ⟨fun | 173 => 101 | 246 => 171 | 283 => 217 | 284 => 218 | 285 => 219 | 286 => 220 | 129 => 255 | 317 => 254 | 318 => 256 | 319 => 257 | 320 => 258 | 337 => 280 | 338 => 281 | n => n, fun | 2 => 2 | 3 => 3 | 9 => 9 | 4 => 4 | 171 => 277 | 0 => 0 | 53 => 41 | 37 => 44 | 5 => 5 | 173 => 280 | 212 => 317 | 51 => 38 | 20 => 20 | 213 => 318 | 46 => 237 | 232 => 355 | 233 => 356 | n => n, fun | 17 => 3 | 18 => 4 | 19 => 5 | n => n⟩
theorem Tryz.laysM173 : Go.Proofs.LaysM.n173 Tryz.prog Tryz.laysM173_ren := {
  mixed := by kernel_rfl
  f129 := Tryz.func255.trans (congrArg some (by kernel_rfl))
  f173 := Tryz.func101.trans (congrArg some (by kernel_rfl))
  f246 := Tryz.func171.trans (congrArg some (by kernel_rfl))
  f283 := Tryz.func217.trans (congrArg some (by kernel_rfl))
  f284 := Tryz.func218.trans (congrArg some (by kernel_rfl))
  f285 := Tryz.func219.trans (congrArg some (by kernel_rfl))
  f286 := Tryz.func220.trans (congrArg some (by kernel_rfl))
  f317 := Tryz.func254.trans (congrArg some (by kernel_rfl))
  f318 := Tryz.func256.trans (congrArg some (by kernel_rfl))
  f319 := Tryz.func257.trans (congrArg some (by kernel_rfl))
  f320 := Tryz.func258.trans (congrArg some (by kernel_rfl))
  f337 := Tryz.func280.trans (congrArg some (by kernel_rfl))
  f338 := Tryz.func281.trans (congrArg some (by kernel_rfl))
  t0 := Tryz.underlying0
  a0 := Tryz.isAgg0
  z0 := Tryz.sizeOf0
  v0 := Tryz.zeroValue0
  t2 := Tryz.underlying2
  a2 := Tryz.isAgg2
  z2 := Tryz.sizeOf2
  v2 := Tryz.zeroValue2
  t3 := Tryz.underlying3
  a3 := Tryz.isAgg3
  z3 := Tryz.sizeOf3
  v3 := Tryz.zeroValue3
  t4 := Tryz.underlying4
  a4 := Tryz.isAgg4
  z4 := Tryz.sizeOf4
  v4 := Tryz.zeroValue4
  t5 := Tryz.underlying5
  a5 := Tryz.isAgg5
  z5 := Tryz.sizeOf5
  v5 := Tryz.zeroValue5
  t9 := Tryz.underlying9
  a9 := Tryz.isAgg9
  z9 := Tryz.sizeOf9
  v9 := Tryz.zeroValue9
  t20 := Tryz.underlying20
  a20 := Tryz.isAgg20
  z20 := Tryz.sizeOf20
  v20 := Tryz.zeroValue20
  t37 := Tryz.underlying44
  a37 := Tryz.isAgg44
  z37 := Tryz.sizeOf44
  v37 := Tryz.zeroValue44
  t46 := Tryz.underlying237
  a46 := Tryz.isAgg237
  z46 := Tryz.sizeOf237
  v46 := Tryz.zeroValue237
  t51 := Tryz.underlying38
  a51 := Tryz.isAgg38
  z51 := Tryz.sizeOf38
  v51 := Tryz.zeroValue38
  t53 := Tryz.underlying41
  a53 := Tryz.isAgg41
  z53 := Tryz.sizeOf41
  v53 := Tryz.zeroValue41
  t171 := Tryz.underlying277
  a171 := Tryz.isAgg277
  z171 := Tryz.sizeOf277
  v171 := Tryz.zeroValue277
  t173 := Tryz.underlying280
  a173 := Tryz.isAgg280
  z173 := Tryz.sizeOf280
  v173 := Tryz.zeroValue280
  t212 := Tryz.underlying317
  a212 := Tryz.isAgg317
  z212 := Tryz.sizeOf317
  v212 := Tryz.zeroValue317
  t213 := Tryz.underlying318
  a213 := Tryz.isAgg318
  z213 := Tryz.sizeOf318
  t232 := Tryz.underlying355
  a232 := Tryz.isAgg355
  z232 := Tryz.sizeOf355
  v232 := Tryz.zeroValue355
  t233 := Tryz.underlying356
  a233 := Tryz.isAgg356
  z233 := Tryz.sizeOf356
  v233 := Tryz.zeroValue356
  g17 := by kernel_rfl
  g18 := by kernel_rfl
  g19 := by kernel_rfl
  i0 := by kernel_rfl
  i2 := by kernel_rfl
  i3 := by kernel_rfl
  i4 := by kernel_rfl
  i5 := by kernel_rfl
  i9 := by kernel_rfl
  i20 := by kernel_rfl
  i37 := by kernel_rfl
  i46 := by kernel_rfl
  i51 := by kernel_rfl
  i53 := by kernel_rfl
  i171 := by kernel_rfl
  i173 := by kernel_rfl
  i212 := by kernel_rfl
  i232 := by kernel_rfl
  i233 := by kernel_rfl
  m17 := by kernel_rfl
  m18 := by kernel_rfl
  m19 := by kernel_rfl }
open Go.RowKit Go.Sort Go.Lib in
/-- strconv.FormatInt: "FormatInt returns the string representation of i in the given base": AT BASE 10: i's decimal numeral, for every int64. (LAID: no walk: one application.) -/
theorem Tryz.strconv_FormatInt_10 (n : Int) (h0 : -9223372036854775808 ≤ n) (h1 : n ≤ 9223372036854775807) (w : World) (htab : Lib.TabIs Tryz.prog w "internal/strconv.uint64pow10" .u64 Lib.pow10Tab) :
    Calls Tryz.prog 101 #[.int .i64 n, .int .i64 10] w fun e w' => e = .returned (.string ⟨(Lib.itoa n).toArray⟩) ∧ ∃ k os, w' = grow (w.drewN k) os := Any.strconv_FormatInt_10 Tryz.laysM173 n h0 h1 w htab
def Tryz.lays138_ren : Go.Shelf.Ren := ⟨fun | 138 => 42 | 195 => 102 | 218 => 103 | 143 => 104 | 219 => 172 | 217 => 221 | 225 => 222 | 224 => 223 | 267 => 224 | 266 => 259 | 314 => 260 | n => n, fun | 9 => 9 | 3 => 3 | 4 => 4 | 5 => 5 | 0 => 0 | 46 => 237 | 146 => 320 | 51 => 38 | n => n, fun | 1 => 0 | n => n⟩
theorem Tryz.lays138 : Go.Proofs.Lays.n138 Tryz.prog Tryz.lays138_ren := {
  mixed := by kernel_rfl
  f138 := Tryz.func42.trans (congrArg some (by kernel_rfl))
  f143 := Tryz.func104.trans (congrArg some (by kernel_rfl))
  f195 := Tryz.func102.trans (congrArg some (by kernel_rfl))
  f217 := Tryz.func221.trans (congrArg some (by kernel_rfl))
  f218 := Tryz.func103.trans (congrArg some (by kernel_rfl))
  f219 := Tryz.func172.trans (congrArg some (by kernel_rfl))
  f224 := Tryz.func223.trans (congrArg some (by kernel_rfl))
  f225 := Tryz.func222.trans (congrArg some (by kernel_rfl))
  f266 := Tryz.func259.trans (congrArg some (by kernel_rfl))
  f267 := Tryz.func224.trans (congrArg some (by kernel_rfl))
  f314 := Tryz.func260.trans (congrArg some (by kernel_rfl))
  t0 := Tryz.underlying0
  a0 := Tryz.isAgg0
  z0 := Tryz.sizeOf0
  v0 := Tryz.zeroValue0
  t3 := Tryz.underlying3
  a3 := Tryz.isAgg3
  z3 := Tryz.sizeOf3
  v3 := Tryz.zeroValue3
  t4 := Tryz.underlying4
  a4 := Tryz.isAgg4
  z4 := Tryz.sizeOf4
  v4 := Tryz.zeroValue4
  t5 := Tryz.underlying5
  a5 := Tryz.isAgg5
  z5 := Tryz.sizeOf5
  v5 := Tryz.zeroValue5
  t9 := Tryz.underlying9
  a9 := Tryz.isAgg9
  z9 := Tryz.sizeOf9
  v9 := Tryz.zeroValue9
  t46 := Tryz.underlying237
  a46 := Tryz.isAgg237
  z46 := Tryz.sizeOf237
  v46 := Tryz.zeroValue237
  t51 := Tryz.underlying38
  a51 := Tryz.isAgg38
  z51 := Tryz.sizeOf38
  v51 := Tryz.zeroValue38
  t146 := Tryz.underlying320
  a146 := Tryz.isAgg320
  z146 := Tryz.sizeOf320
  v146 := Tryz.zeroValue320
  g1 := by kernel_rfl }
open Go.RowKit Go.Lib in
/-- strings.Count AT A substr OF ONE BYTE ('hp'): "Count counts the number of non-overlapping instances of substr in s.": IT RETURNS 'Lib.countByte s (that byte)'; the world is as0 it was. ✋ NO CONTRACT HERE YET at an empty substr (utf8.RuneCountInString) or at a longer one (a loop over strings.Index). (LAID: no walk: one application.) -/
theorem Tryz.strings_Count_one (s : ByteArray) (c : UInt8) (w : World) :
    Calls Tryz.prog 42 #[.string s, .string ⟨#[c]⟩] w fun e w' => e = .returned (.int .i64 (Lib.countByte s.data.toList c)) ∧ w' = w := Any.strings_Count_one Tryz.lays138 s c w
end Go.Proofs.YteccglgbkehdeaaGreatDoor
namespace Go.Proofs.YteccglgbkehdeaaGreatDoor
def bareC (s : List UInt8) : Bool := (s.all fun c => plainC c && !decide (c.toNat = 32)) && !decide (s = [])
theorem isBare_P (s : List UInt8) (hs : s.length ≤ 100000) : PC Tryz.prog 106 [.t s] (.b (bareC s)) := by
 refine ⟨LC.of_go Tryz.func106 (c := _) rfl (by kernel_rfl) (by rw [Tryz.ntmps106]; simp) rfl rfl (by simp [LO.lt, LV.lts, LV.lt, lts_sv]) (by simp) ?_⟩
 intro B hA hmd
 refine .seq ?_
 refine .region rfl ?_
 refine R.assign (h := ?_)
 refine .n0 ?_
 refine .seq ?_
 refine .seq ?_
 refine .region rfl ?_
 refine R.move (h := ?_)
 refine R.lenT Tryz.runUnderlying9 (h := ?_)
 refine R.move (h := ?_)
 refine .n0 ?_
 refine .block ?_
 refine .loop ?_
 refine LGo.loopG (σ := Nat) (fun x => x ≤ s.length ∧ bareC s = ((s.drop x).all (fun c => plainC c && !decide (c.toNat = 32)) && !decide (s = []))) (fun x => [(6, (true, .i (x : Nat)))]) (fun x => []) (fun x => s.length - x) (0) [(0, _), (5, _)] ⟨Nat.zero_le _, rfl⟩ (by repeat (first | exact trivial | refine ⟨rfl, ?_⟩)) (by repeat (first | exact trivial | refine ⟨rfl, ?_⟩)) (by repeat (first | exact trivial | refine ⟨rfl, ?_⟩)) ?_
 rintro k ⟨hk, hq⟩ ih
 refine .seq ?_
 refine .region rfl ?_
 refine R.bin (run_lss _ _ _ _ _ _) (h := ?_)
 refine .n0 ?_
 refine .seq ?_
 refine LGo.ifd (ht := fun hc => ?_) (hf := fun hc => ?_)
 ·
  have hlt : k < s.length := by omega
  have hx : s[((k : Nat) : Int).toNat]? = some s[k] := by rw [Int.toNat_natCast]; exact List.getElem?_eq_getElem hlt
  have hd : s.drop k = s[k] :: s.drop (k + 1) := List.drop_eq_getElem_cons hlt
  rw [hd, List.all_cons] at hq
  generalize s[k] = c at hx hq
  clear hd
  refine .skip ?_
  refine .seq ?_
  refine .block ?_
  refine .seq ?_
  refine .region rfl ?_
  refine R.move (h := ?_)
  refine R.assign (h := ?_)
  refine .n0 ?_
  refine .seq ?_
  refine .region rfl ?_
  refine R.move (h := ?_)
  refine R.move (h := ?_)
  refine R.indexT Tryz.runUnderlying9 (hj := fun hg => ⟨by omega, hx⟩) (h := ?_)
  refine R.callP (es := [_]) (fun _ => isPlain_P _) (h := ?_)
  refine R.not (h := ?_)
  refine R.move (h := ?_)
  refine R.move (h := ?_)
  refine R.move (h := ?_)
  refine R.indexT Tryz.runUnderlying9 (hj := fun hg => ⟨by (simp at hg; omega), hx⟩) (h := ?_)
  refine R.bin (run_eql _ _ _ _ _ _) (h := ?_)
  refine R.or (h := ?_)
  refine .n0 ?_
  refine LGo.ifb (ht := fun hc2 => ?_) (hf := fun hc2 => ?_)
  ·
   rw [show bareC s = false from by rw [hq]; cases hp : plainC c <;> simp [hp] at hc2 ⊢; omega]
   refine .seq ?_
   refine .region rfl ?_
   refine R.assign (h := ?_)
   refine .n0 ?_
   exact LGo.ret (ret_T Tryz.results106 hA hmd)
  ·
   have he : (plainC c && !decide (c.toNat = 32)) = true := by cases hp : plainC c <;> simp [hp] at hc2 ⊢; omega
   rw [he, Bool.true_and] at hq
   refine .skip ?_
   refine .inBlock ?_
   refine .region rfl ?_
   first | refine R.add (h := ?_) | refine R.addW (h := ?_)
   refine R.move (h := ?_)
   refine .n0 ?_
   refine .inLoop ?_
   exact LGo.next _ (fun o h => by have := (hA o).1 h; omega) (by omega) (ih (k + 1) ⟨by omega, hq⟩ (by omega)) (by repeat (first | exact trivial | refine ⟨rfl, ?_⟩)) (by repeat (first | exact trivial | refine ⟨rfl, ?_⟩))
 ·
  rw [List.drop_eq_nil_of_le (by omega)] at hq
  rw [hq]
  refine .exit rfl ?_
  refine .seq ?_
  refine .region rfl ?_
  refine R.move (h := ?_)
  refine R.bin (run_neqT _ _ _ _ _) (h := ?_)
  refine R.assign (h := ?_)
  refine .n0 ?_
  exact LGo.ret (ret_T Tryz.results106 hA hmd)
/-- a field of a line -/
structure Fd where
  s : List UInt8
  q : Bool
def Fd.c (f : Fd) : List SV := [.val (.string ⟨f.s.toArray⟩), .val (.bool f.q)]
def Fd.y (f : Fd) : List LV := [.agg (f.c.map LV.sv), .b true]
def digC (c : UInt8) : Bool := decide (48 ≤ c.toNat) && decide (c.toNat ≤ 57)
theorem digitR_P (c : UInt8) : PC Tryz.prog 253 [.y c.toNat] (.b (digC c)) := by
 refine ⟨LC.of_go Tryz.func253 (c := _) rfl (by kernel_rfl) (by rw [Tryz.ntmps253]; simp) rfl rfl (by simp [LO.lt, LV.lts, LV.lt, lts_sv]) (by simp) ?_⟩
 intro B hA hmd
 rw [show digC c = (decide ((c.toNat : Int) ≥ 48) && decide ((c.toNat : Int) ≤ 57)) from by rw [Bool.eq_iff_iff]; simp [digC]; omega]
 refine .seq ?_
 refine .region rfl ?_
 refine R.assign (h := ?_)
 refine .n0 ?_
 refine .seq ?_
 refine .region rfl ?_
 refine R.move (h := ?_)
 refine R.bin (run_geq _ _ _ _ _ _) (h := ?_)
 refine R.move (h := ?_)
 refine R.move (h := ?_)
 refine R.bin (run_leq _ _ _ _ _ _) (h := ?_)
 refine R.and (h := ?_)
 refine R.assign (h := ?_)
 refine .n0 ?_
 exact LGo.ret (ret_T Tryz.results253 hA hmd)
theorem dw_head {p : UInt8 → Bool} : ∀ {l : List UInt8} {a : UInt8} {r : List UInt8}, l.dropWhile p = a :: r → p a = false
  | [], a, r, h => by simp at h
  | b :: l, a, r, h => by
    rw [List.dropWhile_cons] at h
    cases hb : p b with
    | true => rw [hb] at h; exact dw_head h
    | false => rw [hb] at h; simp at h; rw [← h.1]; exact hb
section
open Go.RowKit Go.Sort Go.Lib Go.Shelf
set_option maxHeartbeats 6400000 in
set_option maxRecDepth 100000 in
theorem fmtUint_calls (u : Nat) (hu64 : u < 18446744073709551616) (w : World) (htab : Lib.TabIs Tryz.prog w "internal/strconv.uint64pow10" .u64 Lib.pow10Tab) :
    Calls Tryz.prog 188 #[.int .u64 u, .int .i64 10] w fun e w' => e = .returned (.string ⟨(Lib.decDigits u).toArray⟩) ∧ ∃ k os, w' = grow (w.drewN k) os := by
  have mixed := (by kernel_rfl : Tryz.prog.follows .mixedOrders = true)
  have t9 := Tryz.underlying9; have a9 := Tryz.isAgg9; have z9 := Tryz.sizeOf9; have v9 := Tryz.zeroValue9
  have t4 := Tryz.underlying4; have a4 := Tryz.isAgg4; have z4 := Tryz.sizeOf4; have v4 := Tryz.zeroValue4
  have t22 := Tryz.underlying41; have a22 := Tryz.isAgg41; have z22 := Tryz.sizeOf41; have v22 := Tryz.zeroValue41
  have t3 := Tryz.underlying3; have a3 := Tryz.isAgg3; have z3 := Tryz.sizeOf3; have v3 := Tryz.zeroValue3
  have t5 := Tryz.underlying5; have a5 := Tryz.isAgg5; have z5 := Tryz.sizeOf5; have v5 := Tryz.zeroValue5
  have t28 := Tryz.underlying44; have a28 := Tryz.isAgg44; have z28 := Tryz.sizeOf44; have v28 := Tryz.zeroValue44
  have t138 := Tryz.underlying277; have a138 := Tryz.isAgg277; have z138 := Tryz.sizeOf277; have v138 := Tryz.zeroValue277
  have e93 : ∀ args w, (callFunc 217 args).run Tryz.prog w = .ok (.enter 217 args) w := enters_of Tryz.func217 (by kernel_rfl) rfl
  have e94 : ∀ args w, (callFunc 218 args).run Tryz.prog w = .ok (.enter 218 args) w := enters_of Tryz.func218 (by kernel_rfl) rfl
  have e95 : ∀ args w, (callFunc 219 args).run Tryz.prog w = .ok (.enter 219 args) w := enters_of Tryz.func219 (by kernel_rfl) rfl
  by_cases hs : u < 100
  · go_enter Tryz.func188, Tryz.ntmps188
    go_wp2_with (go_at_fn 217; refine (Tryz.internal_strconv_small u hs _).mono ?_; rintro e w' ⟨rfl, rfl⟩)
    go_ret
    exact ⟨rfl, 0, #[], by simp [World.drewN_zero]⟩
  · have hu1 : 1 ≤ u := by omega
    have hnd20 : Lib.nDigits u ≤ 20 := by have := Lib.numDigits_eq u hu1 hu64; split at this <;> omega
    have hal : Tryz.prog.arrayLen 277 = 24 := by simp [Program.arrayLen, t138]
    have hsl1 : ∀ W, (Instr.sliceAt 277 (.pointer (some ⟨w.heap.size, 0, none⟩)) none (some (.int .i64 (Lib.nDigits u : Int))) none).run Tryz.prog W = .ok (.slice (some ⟨w.heap.size, 0, none⟩) (Lib.nDigits u) 24) W := fun W => by
      rw [run_sliceAt_array_h W 277 ⟨w.heap.size, 0, none⟩ (by simp [Program.arrayLen, Program.elem, t138]) .i64 (Lib.nDigits u : Int) (by omega) (by rw [hal]; omega)]
      go_simp
    have hH0 := Lib.holds_zero0 w 277 (Lib.nDigits u) (by omega)
    have hfmt := Tryz.internal_strconv_formatBase10 w.heap.size 0 24 u (Array.replicate (Lib.nDigits u) 0) (w.alloc (.cells Lib.zeros24 277)) hH0 (by rw [Array.size_replicate]; exact Lib.lt_pow_nDigits u) hu64 (by rw [Array.size_replicate]; omega)
    rw [Array.size_replicate] at hfmt
    have HH0 := Lib.hid hH0
    clear hH0 hal
    go_enter Tryz.func188, Tryz.ntmps188
    go_wp2_with (first
      | (go_at_fn 218; refine (Tryz.internal_strconv_numDigits u hu1 hu64 _ (Lib.tabIs_alloc htab _)).mono ?_; rintro e w' ⟨rfl, rfl⟩))
    go_at_fn 219
    refine hfmt.mono ?_
    rintro e w' ⟨rfl, k, v', dk, rfl, hF⟩
    have hcv : (convert 44 9 (.slice (some ⟨w.heap.size, 0, none⟩) (Lib.nDigits u) 24)).run Tryz.prog ((putRow (fun (b : UInt8) => Value.int .u8 (b.toNat : Int)) (w.alloc (.cells Lib.zeros24 277)) w.heap.size 0 dk).drewN k) = .ok (.string ⟨(Lib.decDigits u).toArray⟩) ((putRow (fun (b : UInt8) => Value.int .u8 (b.toNat : Int)) (w.alloc (.cells Lib.zeros24 277)) w.heap.size 0 dk).drewN k) := by
      have h := run_convert_bytes_back (P := Tryz.prog) ((putRow (fun (b : UInt8) => Value.int .u8 (b.toNat : Int)) (w.alloc (.cells Lib.zeros24 277)) w.heap.size 0 dk).drewN k) 44 9 5 ⟨w.heap.size, 0, none⟩ 24 (Lib.decDigits u) t28 t5 t9 (fun j hj => by
        rw [Lib.row_is_numeral hF j hj, Lib.add_plain, World.cell?_drewN]
        exact cell?_putRow (fun (b : UInt8) => Value.int .u8 (b.toNat : Int)) _ w.heap.size 0 _ dk HH0.out (by rw [hF.size, Array.size_replicate]) j (by rw [hF.size]; rw [Lib.decDigits_length] at hj; exact hj))
      rw [Lib.decDigits_length] at h
      exact h
    go_wp2
    go_ret
    obtain ⟨os, eo⟩ := Lib.fin_at w (.cells Lib.zeros24 277) dk k 0
    exact ⟨rfl, k, os, eo⟩
end
theorem tab10 {pr : Nat → Nat} {w : World} (h : Amb pr w) : Lib.TabIs Tryz.prog w "internal/strconv.uint64pow10" .u64 Lib.pow10Tab := by
  obtain ⟨_, T, fr, hb⟩ := h.1 (3, Lib.pow10Tab.map (Value.int .u64)) (by simp [tabs])
  unfold Lib.TabIs World.var?
  rw [show Tryz.prog.globalNamed "internal/strconv.uint64pow10" = some 3 from by kernel_rfl]
  dsimp only at hb
  simp only [Option.bind_some, hb]
theorem fmtU_P (n : Int) (h0 : 0 ≤ n) (h1 : n < 18446744073709551616) : PC Tryz.prog 188 [.u n, .i 10] (.t (Lib.decDigits n.toNat)) :=
  PC.of_val (Entr.of Tryz.func188 rfl (by kernel_rfl)) (by simp [LV.lts, LV.lt]) fun cx w vs hl ham hv => by
    obtain ⟨v1, v2, rfl, h2, h3⟩ : ∃ v1 v2, vs = [v1, v2] ∧ V cx w (.u n) v1 ∧ V cx w (.i 10) v2 := by
      simp only [Vs] at hv
      obtain ⟨v1, r1, rfl, h1, v2, r2, rfl, h2, rfl⟩ := hv
      exact ⟨_, _, rfl, h1, h2⟩
    rw [h2.val, h3.val]
    obtain ⟨u, rfl⟩ : ∃ u : Nat, n = u := ⟨n.toNat, by omega⟩
    rw [Int.toNat_natCast]
    refine (fmtUint_calls u (by omega) w (tab10 ham)).mono ?_
    rintro e w' ⟨rfl, k, os, rfl⟩
    exact ⟨rfl, ⟨rfl, rfl, rfl, by rw [Go.Sort.size_grow]; exact Nat.le_add_right _ _, fun b hb => Go.Sort.heap_grow_old _ _ hb⟩⟩
theorem formatUint_P (n : Int) (h0 : 0 ≤ n) (h1 : n < 18446744073709551616) : PC Tryz.prog 116 [.u n, .i 10] (.t (Lib.decDigits n.toNat)) := by
 refine ⟨LC.of_go Tryz.func116 (c := _) rfl (by kernel_rfl) (by rw [Tryz.ntmps116]; simp) rfl rfl (by simp [LO.lt, LV.lts, LV.lt, lts_sv]) (by simp) ?_⟩
 intro B hA hmd
 refine .seq ?_
 refine .region rfl ?_
 refine R.assign (h := ?_)
 refine .n0 ?_
 refine .seq ?_
 refine .region rfl ?_
 refine R.move (h := ?_)
 refine R.move (h := ?_)
 refine R.callP (es := [_, _]) (fun _ => fmtU_P n h0 h1) (h := ?_)
 refine R.assign (h := ?_)
 refine .n0 ?_
 exact LGo.ret (ret_T Tryz.results116 hA hmd)
section
open Go.RowKit
end
section
open Go.RowKit
theorem formatInt_P (n : Int) (h0 : -9223372036854775808 ≤ n) (h1 : n ≤ 9223372036854775807) : PC Tryz.prog 101 [.i n, .i 10] (.t (Lib.itoa n)) :=
  PC.of_val (Entr.of Tryz.func101 rfl (by kernel_rfl)) (by simp [LV.lts, LV.lt]) fun cx w vs hl ham hv => by
    obtain ⟨v1, v2⟩ : ∃ v1 v2, vs = [v1, v2] ∧ V cx w (.i n) v1 ∧ V cx w (.i 10) v2 := by
      simp only [Vs] at hv
      obtain ⟨v1, r1, rfl, h1, v2, r2, rfl, h2, rfl⟩ := hv
      exact ⟨_, _, rfl, h1, h2⟩
    obtain ⟨v2, rfl, h3, h4⟩ := v2
    rw [h3.val, h4.val]
    refine (Tryz.strconv_FormatInt_10 n h0 h1 w (tab10 ham)).mono ?_
    rintro e w' ⟨rfl, k, os, rfl⟩
    exact ⟨rfl, ⟨rfl, rfl, rfl, by rw [Go.Sort.size_grow]; exact Nat.le_add_right _ _, fun b hb => Go.Sort.heap_grow_old _ _ hb⟩⟩
end
theorem dig_lt {n : Nat} (h : n < 10) : ((UInt8.ofNat (48 + n)).toNat : Int) = 48 + n := by rw [UInt8.toNat_ofNat']; omega
theorem decD_le : ∀ (k u : Nat), u < 10 ^ k → (Lib.decDigits u).length ≤ k + 1
  | 0, u, h => by rw [Lib.decDigits, dif_pos (by omega)]; simp
  | k + 1, u, h => by
    rw [Lib.decDigits]
    split
    · simp
    · have := decD_le k (u / 10) (by rw [Nat.pow_succ] at h; omega)
      simp; omega
theorem itoa_le {n : Int} (h0 : -9223372036854775808 ≤ n) (h1 : n ≤ 9223372036854775807) : (Lib.itoa n).length ≤ 22 := by
  unfold Lib.itoa
  split
  · have := decD_le 19 n.natAbs (by omega)
    simp; omega
  · have := decD_le 19 n.toNat (by omega)
    omega
def mz (n : Int) : Nat := 2 * n.natAbs + (if n < 0 then 1 else 0)
theorem itoa_p {n : Int} (h : n > 9) : Lib.itoa n = Lib.itoa (n / 10) ++ [UInt8.ofNat (48 + (n % 10).toNat)] := by
  unfold Lib.itoa
  rw [if_neg (by omega), if_neg (by omega), Lib.decDigits, dif_neg (by omega)]
  congr 2 <;> first | omega | (congr 2; omega) | (congr 1; congr 1; omega)
theorem itoa_n {n : Int} (h : n < -9) : Lib.itoa n = Lib.itoa (-(-n / 10)) ++ [UInt8.ofNat (48 + (-n % 10).toNat)] := by
  unfold Lib.itoa
  rw [if_pos (by omega), if_pos (by omega), Lib.decDigits, dif_neg (by omega)]
  simp only [List.cons_append]
  congr 3 <;> first | omega | (congr 2; omega) | (congr 1; congr 1; omega)
theorem itoa_m {n : Int} (h : n < 0) : Lib.itoa n = [45] ++ Lib.itoa (-n) := by
  unfold Lib.itoa
  rw [if_pos h, if_neg (by omega), show n.natAbs = (-n).toNat from by omega]; rfl
theorem itoa_d {n : Int} (h : 0 ≤ n) (h9 : n ≤ 9) : Lib.itoa n = [UInt8.ofNat (48 + n.toNat)] := by
  unfold Lib.itoa
  rw [if_neg (by omega), Lib.decDigits, dif_pos (by omega)]
theorem digitsR_step (n : Int) (h0 : -9223372036854775808 ≤ n) (h1 : n ≤ 9223372036854775807) (ih : ∀ q : Int, mz q < mz n → -9223372036854775808 ≤ q → q ≤ 9223372036854775807 → PC Tryz.prog 99 [.i q] (.t (Lib.itoa q))) : PC Tryz.prog 99 [.i n] (.t (Lib.itoa n)) := by
 refine ⟨LC.of_go Tryz.func99 (c := _) rfl (by kernel_rfl) (by rw [Tryz.ntmps99]; simp) rfl rfl (by simp [LO.lt, LV.lts, LV.lt, lts_sv]) (by simp) ?_⟩
 intro B hA hmd
 refine .seq ?_
 refine .region rfl ?_
 refine R.assign (h := ?_)
 refine .n0 ?_
 refine .seq ?_
 refine .seq ?_
 refine .region rfl ?_
 refine R.move (h := ?_)
 refine R.bin (run_gtr _ _ _ _ _ _) (h := ?_)
 refine R.move (h := ?_)
 refine R.move (h := ?_)
 refine R.bin (run_lss _ _ _ _ _ _) (h := ?_)
 refine R.or (h := ?_)
 refine .n0 ?_
 refine LGo.ifb (ht := fun hc => ?_) (hf := fun hc => ?_)
 ·
  refine .seq ?_
  refine .region rfl ?_
  rcases (show n > 9 ∨ n < -9 by simpa using hc) with hp | hp
  ·
   rw [itoa_p hp]
   have hle := itoa_le (n := n / 10) (by omega) (by omega)
   refine R.move (h := ?_)
   refine R.rem (h := ?_)
   refine R.assign (h := ?_)
   refine .n0 ?_
   refine .seq ?_
   refine .seq ?_
   refine .region rfl ?_
   refine R.move (h := ?_)
   refine R.bin (run_lss _ _ _ _ _ _) (h := ?_)
   refine .n0 ?_
   refine LGo.ifb (ht := fun hc2 => by simp at hc2; omega) (hf := fun hc2 => ?_)
   refine .skip ?_
   refine .seq ?_
   refine .region rfl ?_
   refine R.move (h := ?_)
   refine R.quo (h := ?_)
   refine R.callP (es := [_]) (fun _ => ih (n / 10) (by unfold mz; (repeat' split) <;> omega) (by omega) (by omega)) (h := ?_)
   refine R.move (h := ?_)
   first | refine R.add (h := ?_) | refine R.addW (h := ?_)
   refine R.convW Tryz.runUnderlying2 Tryz.runUnderlying5 (h := ?_)
   rw [show IntKind.u8.wrap (48 + n % 10) = ((UInt8.ofNat (48 + (n % 10).toNat)).toNat : Int) from by rw [dig_lt (by omega), IntKind.wrap_u8]; omega]
   refine R.buildSliceF AP44 (bytesC [UInt8.ofNat (48 + (n % 10).toNat)]) (xs := [_]) (es := [_]) (hcs := CellsOfs.cons (CellsOf.one rfl) CellsOfs.nil) (h := ?_)
   refine R.toString Tryz.underlying44 Tryz.underlying5 Tryz.underlying9 (h := ?_)
   refine R.bin (run_addT _ _ _ (Lib.itoa (n / 10)) [UInt8.ofNat (48 + (n % 10).toNat)] (by simp; omega)) (h := ?_)
   refine R.assign (h := ?_)
   refine Reg.nil ⟨fun _ => ⟨mixedO, by rfl, by rfl⟩, ?_⟩
   exact LGo.ret (ret_T Tryz.results99 hA hmd)
  ·
   rw [itoa_n hp]
   have hle := itoa_le (n := -(-n / 10)) (by omega) (by omega)
   have htm : Int.tmod n 10 = -(-n % 10) := by rw [show n = -(-n) from by omega, Int.neg_tmod, Int.tmod_eq_emod_of_nonneg (by omega)]; omega
   have htq : Int.tdiv n 10 = -(-n / 10) := by rw [show n = -(-n) from by omega, Int.neg_tdiv, Int.tdiv_eq_ediv_of_nonneg (by omega)]; omega
   refine R.move (h := ?_)
   refine R.bin (run_remT _ _ _ .i64 n 10 (by decide)) (h := ?_)
   rw [htm]
   refine R.assign (h := ?_)
   refine .n0 ?_
   refine .seq ?_
   refine .seq ?_
   refine .region rfl ?_
   refine R.move (h := ?_)
   refine R.bin (run_lss _ _ _ _ _ _) (h := ?_)
   refine .n0 ?_
   refine LGo.ifb (ht := fun hc3 => ?_) (hf := fun hc3 => ?_)
   ·
    refine .region rfl ?_
    refine R.move (h := ?_)
    refine R.neg (h := ?_)
    rw [show IntKind.i64.wrap (-(-(-n % 10))) = -n % 10 from by rw [IntKind.wrap_i64]; omega]
    refine R.assign (h := ?_)
    refine .n0 ?_
    refine .seq ?_
    refine .region rfl ?_
    refine R.move (h := ?_)
    refine R.bin (run_quoT _ _ _ .i64 n 10 (by decide) (by rw [htq, IntKind.wrap_i64]; omega)) (h := ?_)
    rw [htq]
    refine R.callP (es := [_]) (fun _ => ih (-(-n / 10)) (by unfold mz; (repeat' split) <;> omega) (by omega) (by omega)) (h := ?_)
    refine R.move (h := ?_)
    first | refine R.add (h := ?_) | refine R.addW (h := ?_)
    refine R.convW Tryz.runUnderlying2 Tryz.runUnderlying5 (h := ?_)
    rw [show IntKind.u8.wrap (48 + -n % 10) = ((UInt8.ofNat (48 + (-n % 10).toNat)).toNat : Int) from by rw [dig_lt (by omega), IntKind.wrap_u8]; omega]
    refine R.buildSliceF AP44 (bytesC [UInt8.ofNat (48 + (-n % 10).toNat)]) (xs := [_]) (es := [_]) (hcs := CellsOfs.cons (CellsOf.one rfl) CellsOfs.nil) (h := ?_)
    refine R.toString Tryz.underlying44 Tryz.underlying5 Tryz.underlying9 (h := ?_)
    refine R.bin (run_addT _ _ _ (Lib.itoa (-(-n / 10))) [UInt8.ofNat (48 + (-n % 10).toNat)] (by simp; omega)) (h := ?_)
    refine R.assign (h := ?_)
    refine Reg.nil ⟨fun _ => ⟨mixedO, by rfl, by rfl⟩, ?_⟩
    exact LGo.ret (ret_T Tryz.results99 hA hmd)
   ·
    rw [show -(-n % 10) = -n % 10 from by simp only [Bool.or_eq_true, Bool.and_eq_true, decide_eq_true_eq, Bool.or_eq_false_iff, Bool.and_eq_false_iff, decide_eq_false_iff_not, Bool.not_eq_true', Bool.not_eq_false', Bool.not_eq_true, Bool.not_eq_false, Bool.false_eq_true, Bool.true_eq_false, iff_true, true_iff, iff_false, false_iff] at hc3; omega]
    refine .skip ?_
    refine .seq ?_
    refine .region rfl ?_
    refine R.move (h := ?_)
    refine R.bin (run_quoT _ _ _ .i64 n 10 (by decide) (by rw [htq, IntKind.wrap_i64]; omega)) (h := ?_)
    rw [htq]
    refine R.callP (es := [_]) (fun _ => ih (-(-n / 10)) (by unfold mz; (repeat' split) <;> omega) (by omega) (by omega)) (h := ?_)
    refine R.move (h := ?_)
    first | refine R.add (h := ?_) | refine R.addW (h := ?_)
    refine R.convW Tryz.runUnderlying2 Tryz.runUnderlying5 (h := ?_)
    rw [show IntKind.u8.wrap (48 + -n % 10) = ((UInt8.ofNat (48 + (-n % 10).toNat)).toNat : Int) from by rw [dig_lt (by omega), IntKind.wrap_u8]; omega]
    refine R.buildSliceF AP44 (bytesC [UInt8.ofNat (48 + (-n % 10).toNat)]) (xs := [_]) (es := [_]) (hcs := CellsOfs.cons (CellsOf.one rfl) CellsOfs.nil) (h := ?_)
    refine R.toString Tryz.underlying44 Tryz.underlying5 Tryz.underlying9 (h := ?_)
    refine R.bin (run_addT _ _ _ (Lib.itoa (-(-n / 10))) [UInt8.ofNat (48 + (-n % 10).toNat)] (by simp; omega)) (h := ?_)
    refine R.assign (h := ?_)
    refine Reg.nil ⟨fun _ => ⟨mixedO, by rfl, by rfl⟩, ?_⟩
    exact LGo.ret (ret_T Tryz.results99 hA hmd)
 ·
  have hs9 : n ≤ 9 ∧ -9 ≤ n := by simp only [Bool.or_eq_true, Bool.and_eq_true, decide_eq_true_eq, Bool.or_eq_false_iff, Bool.and_eq_false_iff, decide_eq_false_iff_not, Bool.not_eq_true', Bool.not_eq_false', Bool.not_eq_true, Bool.not_eq_false, Bool.false_eq_true, Bool.true_eq_false, iff_true, true_iff, iff_false, false_iff] at hc; omega
  refine .skip ?_
  refine .seq ?_
  refine .seq ?_
  refine .region rfl ?_
  refine R.move (h := ?_)
  refine R.bin (run_lss _ _ _ _ _ _) (h := ?_)
  refine .n0 ?_
  refine LGo.ifd (ht := fun hc4 => ?_) (hf := fun hc4 => ?_)
  ·
   rw [itoa_m hc4]
   have hle := itoa_le (n := -n) (by omega) (by omega)
   refine .seq ?_
   refine .region rfl ?_
   refine R.move (h := ?_)
   refine R.neg (h := ?_)
   rw [show IntKind.i64.wrap (-n) = -n from by rw [IntKind.wrap_i64]; omega]
   refine R.callP (es := [_]) (fun _ => ih (-n) (by unfold mz; (repeat' split) <;> omega) (by omega) (by omega)) (h := ?_)
   refine R.bin (run_addT _ _ _ [45] (Lib.itoa (-n)) (by simp; omega)) (h := ?_)
   refine R.assign (h := ?_)
   refine .n0 ?_
   exact LGo.ret (ret_T Tryz.results99 hA hmd)
  ·
   rw [itoa_d (by omega) hs9.1]
   refine .skip ?_
   refine .seq ?_
   refine .region rfl ?_
   refine R.move (h := ?_)
   first | refine R.add (h := ?_) | refine R.addW (h := ?_)
   refine R.convW Tryz.runUnderlying2 Tryz.runUnderlying5 (h := ?_)
   rw [show IntKind.u8.wrap (48 + n) = ((UInt8.ofNat (48 + (n).toNat)).toNat : Int) from by rw [dig_lt (by omega), IntKind.wrap_u8]; omega]
   refine R.buildSliceF AP44 (bytesC [UInt8.ofNat (48 + (n).toNat)]) (xs := [_]) (es := [_]) (hcs := CellsOfs.cons (CellsOf.one rfl) CellsOfs.nil) (h := ?_)
   refine R.toString Tryz.underlying44 Tryz.underlying5 Tryz.underlying9 (h := ?_)
   refine R.assign (h := ?_)
   refine .n0 ?_
   exact LGo.ret (ret_T Tryz.results99 hA hmd)
theorem digitsR_P (n : Int) (h0 : -9223372036854775808 ≤ n) (h1 : n ≤ 9223372036854775807) : PC Tryz.prog 99 [.i n] (.t (Lib.itoa n)) := by
  generalize hm : mz n = m
  induction m using Nat.strongRecOn generalizing n with
  | ind m ih =>
    subst hm
    exact digitsR_step n h0 h1 fun q hq g0 g1 => ih (mz q) hq q g0 g1 rfl
/-- the form of a field -/
def formF (f : Fd) : List UInt8 := if f.q = true then quote f.s else f.s
def lineF (fs : List Fd) : List UInt8 := Lib.join (fs.map formF) [32]
theorem lineF_one (f : Fd) : lineF [f] = formF f := by unfold lineF; rw [List.map_cons, List.map_nil, Lib.join_one]
theorem lineF_cons (f g : Fd) (fs : List Fd) : lineF (f :: g :: fs) = formF f ++ 32 :: lineF (g :: fs) := by
  unfold lineF
  rw [List.map_cons, Lib.join_cons, List.map_cons, Lib.join_cons]
  simp [Lib.joinTail]
/-! digits -/
theorem digs_ne (n : Nat) : Lib.decDigits n ≠ [] := by rw [Lib.decDigits]; split <;> simp
def lowC (c : UInt8) : Bool := decide (97 ≤ c.toNat) && decide (c.toNat ≤ 122)
def nameB (c : UInt8) : Bool := lowC c || digC c || decide (c.toNat = 45)
def nameC (s : List UInt8) : Bool := if s = [] ∨ 16 < s.length ∨ lowC (s.headD 0) = false then false else s.all nameB
def nameSet : List UInt8 := [97, 98, 99, 100, 101, 102, 103, 104, 105, 106, 107, 108, 109, 110, 111, 112, 113, 114, 115, 116, 117, 118, 119, 120, 121, 122, 48, 49, 50, 51, 52, 53, 54, 55, 56, 57, 45]
theorem trimN_P (s : List UInt8) (hs : s.length ≤ 100000) : PC Tryz.prog 262 [.t s, .t nameSet] (.t (Lib.trimS s nameSet)) := by
  generalize hp : nameSet = p
  exact PC.of_val (Entr.of Tryz.func262 rfl (by kernel_rfl)) (by simp [LV.lts, LV.lt]) fun cx w vs hl ham hv => by
    obtain ⟨v1, v2, rfl, h2, h3⟩ : ∃ v1 v2, vs = [v1, v2] ∧ V cx w (.t s) v1 ∧ V cx w (.t p) v2 := by
      simp only [Vs] at hv
      obtain ⟨v1, r1, rfl, h1, v2, r2, rfl, h2, rfl⟩ := hv
      exact ⟨_, _, rfl, h1, h2⟩
    rw [h2.val, h3.val]
    refine (Any.strings_Trim_laid Tryz.lays160 (by kernel_rfl) ⟨s.toArray⟩ ⟨p.toArray⟩ w (by show s.toArray.size ≤ _; simp; omega) (by rw [← hp]; decide) (by rw [← hp]; exact ascii_of_all (by decide))).mono ?_
    rintro e w' ⟨rfl, hb⟩
    exact ⟨rfl, hb⟩
theorem nameSet_contains (c : UInt8) : nameSet.contains c = nameB c := u8_all (p := fun c => nameSet.contains c = nameB c) (by decide +kernel) c
theorem trimN_nil (t : List UInt8) : Lib.trimS t nameSet = [] ↔ t.all nameB = true := by
  have h : ∀ l : List UInt8, l.dropWhile (nameSet.contains ·) = [] ↔ l.all nameB = true := by
    intro l
    induction l with
    | nil => simp
    | cons a l ih =>
      rw [List.dropWhile_cons, List.all_cons, nameSet_contains]
      cases nameB a
      · simp
      · simpa using ih
  unfold Lib.trimS Lib.trimLeftS Lib.trimRightS
  rw [h]
  constructor
  · intro h1
    have h2 : (t.reverse.dropWhile (nameSet.contains ·)) = [] := by
      cases h3 : t.reverse.dropWhile (nameSet.contains ·) with
      | nil => rfl
      | cons a l =>
        exfalso
        have h4 : nameSet.contains a = false := dw_head h3
        rw [nameSet_contains] at h4
        rw [h3] at h1
        simp [h4] at h1
    rw [h] at h2
    simpa using h2
  · intro h1
    have h2 : t.reverse.dropWhile (nameSet.contains ·) = [] := by rw [h]; simpa using h1
    rw [h2]; rfl
theorem nameC_bad {s : List UInt8} (h : s = [] ∨ 16 < s.length ∨ lowC (s.headD 0) = false) : nameC s = false := if_pos h
theorem nameC_all {s : List UInt8} (h : ¬ (s = [] ∨ 16 < s.length ∨ lowC (s.headD 0) = false)) : nameC s = s.all nameB := if_neg h
theorem low_not {c : UInt8} : lowC c = false ↔ c.toNat < 97 ∨ 122 < c.toNat := by unfold lowC; rw [Bool.and_eq_false_iff, decide_eq_false_iff_not, decide_eq_false_iff_not]; omega
theorem name_P (s : List UInt8) (hs : s.length ≤ 100000) : PC Tryz.prog 226 [.t s] (.b (nameC s)) := by
 refine ⟨LC.of_go Tryz.func226 (c := _) rfl (by kernel_rfl) (by rw [Tryz.ntmps226]; simp) rfl rfl (by simp [LO.lt, LV.lts, LV.lt, lts_sv]) (by simp) ?_⟩
 intro B hA hmd
 refine .seq ?_
 refine .region rfl ?_
 refine R.assign (h := ?_)
 refine .n0 ?_
 refine .seq ?_
 refine .seq ?_
 refine .region rfl ?_
 refine R.move (h := ?_)
 refine R.bin (run_eqlT _ _ _ _ _) (h := ?_)
 refine R.move (h := ?_)
 refine R.move (h := ?_)
 refine R.lenT Tryz.runUnderlying9 (h := ?_)
 refine R.bin (run_gtr _ _ _ _ _ _) (h := ?_)
 refine R.or (h := ?_)
 refine R.move (h := ?_)
 refine R.move (h := ?_)
 refine R.indexT Tryz.runUnderlying9 (c := s.headD 0) (hj := fun hg => ⟨by omega, by cases s with | nil => simp at hg | cons a r => rfl⟩) (h := ?_)
 refine R.bin (run_lss _ _ _ _ _ _) (h := ?_)
 refine R.or (h := ?_)
 refine R.move (h := ?_)
 refine R.move (h := ?_)
 refine R.indexT Tryz.runUnderlying9 (c := s.headD 0) (hj := fun hg => ⟨by omega, by cases s with | nil => simp at hg | cons a r => rfl⟩) (h := ?_)
 refine R.bin (run_gtr _ _ _ _ _ _) (h := ?_)
 refine R.or (h := ?_)
 refine .n0 ?_
 refine LGo.ifb (ht := fun hc => ?_) (hf := fun hc => ?_)
 ·
  rw [nameC_bad (s := s) (by simp only [Bool.or_eq_true, Bool.and_eq_true, decide_eq_true_eq, Bool.or_eq_false_iff, Bool.and_eq_false_iff, decide_eq_false_iff_not, Bool.not_eq_true', Bool.not_eq_false', Bool.not_eq_true, Bool.not_eq_false, Bool.false_eq_true, Bool.true_eq_false, iff_true, true_iff, iff_false, false_iff] at hc; rw [low_not]; rcases hc with ((h | h) | h) | h; exact .inl h; exact .inr (.inl (by omega)); exact .inr (.inr (by omega)); exact .inr (.inr (by omega)))]
  refine .seq ?_
  refine .region rfl ?_
  refine R.assign (h := ?_)
  refine .n0 ?_
  exact LGo.ret (ret_T Tryz.results226 hA hmd)
 ·
  have hn : nameC s = decide (Lib.trimS s nameSet = []) := by
    rw [nameC_all (s := s) (by simp only [Bool.or_eq_true, Bool.and_eq_true, decide_eq_true_eq, Bool.or_eq_false_iff, Bool.and_eq_false_iff, decide_eq_false_iff_not, Bool.not_eq_true', Bool.not_eq_false', Bool.not_eq_true, Bool.not_eq_false, Bool.false_eq_true, Bool.true_eq_false, iff_true, true_iff, iff_false, false_iff] at hc; rw [low_not]; rintro (h | h | h); exact hc.1.1.1 h; exact hc.1.1.2 (by omega); omega), Bool.eq_iff_iff, decide_eq_true_eq, trimN_nil]
  rw [hn]
  refine .skip ?_
  refine .seq ?_
  refine .region rfl ?_
  refine R.move (h := ?_)
  refine R.callP (es := [_, _]) (fun _ => trimN_P s hs) (h := ?_)
  refine R.bin (run_eqlT _ _ _ _ _) (h := ?_)
  refine R.assign (h := ?_)
  refine .n0 ?_
  exact LGo.ret (ret_T Tryz.results226 hA hmd)
theorem lowerR_P (c : UInt8) : PC Tryz.prog 252 [.y c.toNat] (.b (lowC c)) := by
 refine ⟨LC.of_go Tryz.func252 (c := _) rfl (by kernel_rfl) (by rw [Tryz.ntmps252]; simp) rfl rfl (by simp [LO.lt, LV.lts, LV.lt, lts_sv]) (by simp) ?_⟩
 intro B hA hmd
 rw [show lowC c = (decide ((c.toNat : Int) ≥ 97) && decide ((c.toNat : Int) ≤ 122)) from by rw [Bool.eq_iff_iff]; simp [lowC]; omega]
 refine .seq ?_
 refine .region rfl ?_
 refine R.assign (h := ?_)
 refine .n0 ?_
 refine .seq ?_
 refine .region rfl ?_
 refine R.move (h := ?_)
 refine R.bin (run_geq _ _ _ _ _ _) (h := ?_)
 refine R.move (h := ?_)
 refine R.move (h := ?_)
 refine R.bin (run_leq _ _ _ _ _ _) (h := ?_)
 refine R.and (h := ?_)
 refine R.assign (h := ?_)
 refine .n0 ?_
 exact LGo.ret (ret_T Tryz.results252 hA hmd)
theorem nameR_P (s : List UInt8) (hs : s.length ≤ 100000) : PC Tryz.prog 216 [.t s] (.b (nameC s)) := by
 refine ⟨LC.of_go Tryz.func216 (c := _) rfl (by kernel_rfl) (by rw [Tryz.ntmps216]; simp) rfl rfl (by simp [LO.lt, LV.lts, LV.lt, lts_sv]) (by simp) ?_⟩
 intro B hA hmd
 refine .seq ?_
 refine .region rfl ?_
 refine R.assign (h := ?_)
 refine .n0 ?_
 refine .seq ?_
 refine .seq ?_
 refine .region rfl ?_
 refine R.move (h := ?_)
 refine R.lenT Tryz.runUnderlying9 (h := ?_)
 refine R.bin (run_lss _ _ _ _ _ _) (h := ?_)
 refine R.move (h := ?_)
 refine R.move (h := ?_)
 refine R.lenT Tryz.runUnderlying9 (h := ?_)
 refine R.bin (run_gtr _ _ _ _ _ _) (h := ?_)
 refine R.or (h := ?_)
 refine R.move (h := ?_)
 refine R.move (h := ?_)
 refine R.indexT Tryz.runUnderlying9 (c := s.headD 0) (hj := fun hg => ⟨by omega, by cases s with | nil => simp at hg | cons a r => rfl⟩) (h := ?_)
 refine R.callP (es := [_]) (fun _ => lowerR_P (s.headD 0)) (h := ?_)
 refine R.not (h := ?_)
 refine R.or (h := ?_)
 refine .n0 ?_
 refine LGo.ifb (ht := fun hc => ?_) (hf := fun hc => ?_)
 ·
  rw [nameC_bad (s := s) (by simp only [Bool.or_eq_true, Bool.and_eq_true, decide_eq_true_eq, Bool.or_eq_false_iff, Bool.and_eq_false_iff, decide_eq_false_iff_not, Bool.not_eq_true', Bool.not_eq_false', Bool.not_eq_true, Bool.not_eq_false, Bool.false_eq_true, Bool.true_eq_false, iff_true, true_iff, iff_false, false_iff] at hc; rcases hc with (h | h) | h; exact .inl (List.eq_nil_of_length_eq_zero (by omega)); exact .inr (.inl (by omega)); exact .inr (.inr h))]
  refine .seq ?_
  refine .region rfl ?_
  refine R.assign (h := ?_)
  refine .n0 ?_
  exact LGo.ret (ret_T Tryz.results216 hA hmd)
 ·
  have hn : nameC s = s.all nameB := nameC_all (s := s) (by simp only [Bool.or_eq_true, Bool.and_eq_true, decide_eq_true_eq, Bool.or_eq_false_iff, Bool.and_eq_false_iff, decide_eq_false_iff_not, Bool.not_eq_true', Bool.not_eq_false', Bool.not_eq_true, Bool.not_eq_false, Bool.false_eq_true, Bool.true_eq_false, iff_true, true_iff, iff_false, false_iff] at hc; rintro (h | h | h); rw [h] at hc; simp at hc; omega; rw [h] at hc; simp at hc)
  refine .skip ?_
  refine .seq ?_
  refine .seq ?_
  refine .region rfl ?_
  refine R.assign (h := ?_)
  refine .n0 ?_
  refine .block ?_
  refine .loop ?_
  refine LGo.loopG (σ := Nat) (fun x => x ≤ s.length ∧ nameC s = (s.drop x).all nameB) (fun x => [(3, (true, .i (x : Nat)))]) (fun x => []) (fun x => s.length - x) (0) [(0, _)] ⟨Nat.zero_le _, hn⟩ (by repeat (first | exact trivial | refine ⟨rfl, ?_⟩)) (by repeat (first | exact trivial | refine ⟨rfl, ?_⟩)) (by repeat (first | exact trivial | refine ⟨rfl, ?_⟩)) ?_
  rintro k ⟨hk, hq⟩ ih
  refine .seq ?_
  refine .seq ?_
  refine .region rfl ?_
  refine R.move (h := ?_)
  refine R.move (h := ?_)
  refine R.lenT Tryz.runUnderlying9 (h := ?_)
  refine R.bin (run_lss _ _ _ _ _ _) (h := ?_)
  refine .n0 ?_
  refine LGo.ifd (ht := fun hc2 => ?_) (hf := fun hc2 => ?_)
  ·
   have hlt : k < s.length := by omega
   have hx : s[((k : Nat) : Int).toNat]? = some s[k] := by rw [Int.toNat_natCast]; exact List.getElem?_eq_getElem hlt
   have hd : s.drop k = s[k] :: s.drop (k + 1) := List.drop_eq_getElem_cons hlt
   rw [hd, List.all_cons] at hq
   generalize s[k] = c at hx hq
   clear hd
   refine .skip ?_
   refine .seq ?_
   refine .block ?_
   refine .seq ?_
   refine .region rfl ?_
   refine R.move (h := ?_)
   refine R.move (h := ?_)
   refine R.indexT Tryz.runUnderlying9 (hj := fun hg => ⟨by omega, hx⟩) (h := ?_)
   refine R.callP (es := [_]) (fun _ => lowerR_P c) (h := ?_)
   refine R.not (h := ?_)
   refine R.move (h := ?_)
   refine R.move (h := ?_)
   refine R.move (h := ?_)
   refine R.indexT Tryz.runUnderlying9 (hj := fun hg => ⟨by (simp at hg; omega), hx⟩) (h := ?_)
   refine R.callP (es := [_]) (fun _ => digitR_P c) (h := ?_)
   refine R.not (h := ?_)
   refine R.and (h := ?_)
   refine R.move (h := ?_)
   refine R.move (h := ?_)
   refine R.move (h := ?_)
   refine R.indexT Tryz.runUnderlying9 (hj := fun hg => ⟨by (simp at hg; omega), hx⟩) (h := ?_)
   refine R.bin (run_neq _ _ _ _ _ _) (h := ?_)
   refine R.and (h := ?_)
   refine .n0 ?_
   refine LGo.ifb (ht := fun hc3 => ?_) (hf := fun hc3 => ?_)
   ·
    have hb : nameB c = false := by unfold nameB; simp only [Bool.or_eq_true, Bool.and_eq_true, decide_eq_true_eq, Bool.or_eq_false_iff, Bool.and_eq_false_iff, decide_eq_false_iff_not, Bool.not_eq_true', Bool.not_eq_false', Bool.not_eq_true, Bool.not_eq_false, Bool.false_eq_true, Bool.true_eq_false, iff_true, true_iff, iff_false, false_iff] at hc3; rw [hc3.1.1, hc3.1.2]; simp; omega
    rw [hq, hb, Bool.false_and]
    refine .seq ?_
    refine .region rfl ?_
    refine R.assign (h := ?_)
    refine .n0 ?_
    exact LGo.ret (ret_T Tryz.results216 hA hmd)
   ·
    have hb : nameB c = true := by
      unfold nameB
      simp only [Bool.or_eq_true, Bool.and_eq_true, decide_eq_true_eq, Bool.or_eq_false_iff, Bool.and_eq_false_iff, decide_eq_false_iff_not, Bool.not_eq_true', Bool.not_eq_false', Bool.not_eq_true, Bool.not_eq_false, Bool.false_eq_true, Bool.true_eq_false, iff_true, true_iff, iff_false, false_iff] at hc3
      simp only [Bool.or_eq_true, Bool.and_eq_true, decide_eq_true_eq, Bool.or_eq_false_iff, Bool.and_eq_false_iff, decide_eq_false_iff_not, Bool.not_eq_true', Bool.not_eq_false', Bool.not_eq_true, Bool.not_eq_false, Bool.false_eq_true, Bool.true_eq_false, iff_true, true_iff, iff_false, false_iff]
      rcases hc3 with (h | h) | h
      · exact .inl (.inl h)
      · exact .inl (.inr h)
      · exact .inr (by omega)
    rw [hb, Bool.true_and] at hq
    refine .skip ?_
    refine .inBlock ?_
    refine .region rfl ?_
    refine R.move (h := ?_)
    first | refine R.add (h := ?_) | refine R.addW (h := ?_)
    refine R.assign (h := ?_)
    refine .n0 ?_
    refine .inLoop ?_
    exact LGo.next _ (fun o h => by have := (hA o).1 h; omega) (by omega) (ih (k + 1) ⟨by omega, hq⟩ (by omega)) (by repeat (first | exact trivial | refine ⟨rfl, ?_⟩)) (by repeat (first | exact trivial | refine ⟨rfl, ?_⟩))
  ·
   rw [List.drop_eq_nil_of_le (by omega)] at hq
   rw [hq]
   refine .exit rfl ?_
   refine .seq ?_
   refine .region rfl ?_
   refine R.assign (h := ?_)
   refine .n0 ?_
   exact LGo.ret (ret_T Tryz.results216 hA hmd)
/-- a section of a venue -/
structure VnS where
  name : List UInt8
  rows : List Int
  queue : Int
  deriving DecidableEq
instance : Inhabited VnS := ⟨⟨[], [], 0⟩⟩
structure Ven where
  shards : Int
  ttl : Int
  session : Int
  secs : List VnS
  deriving DecidableEq
/-- a call of a script -/
structure SrC where
  kind : Int
  owner : Int
  tgt : Int
  session : Int
  ticket : Int
  seat : Int
  sec : Int
  n : Int
  gate : Int
  spoil : Int
  raw : List UInt8
  deriving DecidableEq
instance : Inhabited SrC := ⟨⟨0, 0, 0, 0, 0, 0, 0, 0, 0, 0, []⟩⟩
/-- an event -/
structure SrE where
  kind : Int
  a : Int
  b : Int
  deriving DecidableEq
instance : Inhabited SrE := ⟨⟨0, 0, 0⟩⟩
structure Sc where
  ven : Ven
  key : List UInt8
  gates : List GtG
  workers : Int
  calls : List SrC
  evs : List SrE
  deriving DecidableEq
def VnS.c (x : VnS) : List SV := [.val (.string ⟨x.name.toArray⟩), .sl 1 (ic .i64 x.rows), .val (.int .i64 x.queue)]
def Ven.c (v : Ven) : List SV := [.val (.int .i64 v.shards), .val (.int .i64 v.ttl), .val (.int .i64 v.session), .sl 3 (v.secs.map VnS.c)]
def SrC.c (x : SrC) : List SV := [.val (.int .i64 x.kind), .val (.int .u32 x.owner), .val (.int .u32 x.tgt), .val (.int .i64 x.session), .val (.int .i64 x.ticket), .val (.int .i64 x.seat), .val (.int .i64 x.sec), .val (.int .i64 x.n), .val (.int .i64 x.gate), .val (.int .i64 x.spoil), .val (.string ⟨x.raw.toArray⟩)]
def SrE.c (x : SrE) : List SV := [.val (.int .i64 x.kind), .val (.int .i64 x.a), .val (.int .i64 x.b)]
def Sc.c (s : Sc) : List SV := [.val (.int .i64 s.ven.shards), .val (.int .i64 s.ven.ttl), .val (.int .i64 s.ven.session), .sl 3 (s.ven.secs.map VnS.c), .val (.string ⟨s.key.toArray⟩), .sl 3 (s.gates.map GtG.c), .val (.int .i64 s.workers), .sl 11 (s.calls.map SrC.c), .sl 3 (s.evs.map SrE.c)]
def outI (n lo hi : Int) : Bool := decide (n < lo) || decide (n > hi)
def inS (n lo hi : Int) : Bool := decide (n ≥ lo) && decide (n ≤ hi)
def checkV (x : VnS) (before : List VnS) : Int :=
  if (!nameC x.name) = true then 6 else
  if (before.any fun y => decide (y.name = x.name)) = true then 8 else
  if (x.rows.length : Int) = 0 then 6 else
  if 16 < (x.rows.length : Int) then 3 else
  if (x.rows.any fun n => outI n 1 64) = true then 7 else
  if outI x.queue 0 64 = true then 7 else 0
theorem out_int (n a b : Int) : PC Tryz.prog 176 [.i n, .i a, .i b] (.b (outI n a b)) := by
 refine ⟨LC.of_go Tryz.func176 (c := _) rfl (by kernel_rfl) (by rw [Tryz.ntmps176]; simp) rfl rfl (by simp [LO.lt, LV.lts, LV.lt, lts_sv]) (by simp) ?_⟩
 intro B hA hmd
 refine .seq ?_
 refine .region rfl ?_
 refine R.assign (h := ?_)
 refine .n0 ?_
 refine .seq ?_
 refine .region rfl ?_
 refine R.move (h := ?_)
 refine R.move (h := ?_)
 refine R.bin (run_lss _ _ _ _ _ _) (h := ?_)
 refine R.move (h := ?_)
 refine R.move (h := ?_)
 refine R.move (h := ?_)
 refine R.bin (run_gtr _ _ _ _ _ _) (h := ?_)
 refine R.or (h := ?_)
 refine R.assign (h := ?_)
 refine .n0 ?_
 exact LGo.ret (ret_T Tryz.results176 hA hmd)
theorem out_int64 (n a b : Int) : PC Tryz.prog 177 [.i n, .i a, .i b] (.b (outI n a b)) := by
 refine ⟨LC.of_go Tryz.func177 (c := _) rfl (by kernel_rfl) (by rw [Tryz.ntmps177]; simp) rfl rfl (by simp [LO.lt, LV.lts, LV.lt, lts_sv]) (by simp) ?_⟩
 intro B hA hmd
 refine .seq ?_
 refine .region rfl ?_
 refine R.assign (h := ?_)
 refine .n0 ?_
 refine .seq ?_
 refine .region rfl ?_
 refine R.move (h := ?_)
 refine R.move (h := ?_)
 refine R.bin (run_lss _ _ _ _ _ _) (h := ?_)
 refine R.move (h := ?_)
 refine R.move (h := ?_)
 refine R.move (h := ?_)
 refine R.bin (run_gtr _ _ _ _ _ _) (h := ?_)
 refine R.or (h := ?_)
 refine R.assign (h := ?_)
 refine .n0 ?_
 exact LGo.ret (ret_T Tryz.results177 hA hmd)
theorem withinS_P (n a b : Int) : PC Tryz.prog 119 [.i n, .i a, .i b] (.b (inS n a b)) := by
 refine ⟨LC.of_go Tryz.func119 (c := _) rfl (by kernel_rfl) (by rw [Tryz.ntmps119]; simp) rfl rfl (by simp [LO.lt, LV.lts, LV.lt, lts_sv]) (by simp) ?_⟩
 intro B hA hmd
 refine .seq ?_
 refine .region rfl ?_
 refine R.assign (h := ?_)
 refine .n0 ?_
 refine .seq ?_
 refine .region rfl ?_
 refine R.move (h := ?_)
 refine R.move (h := ?_)
 refine R.bin (run_geq _ _ _ _ _ _) (h := ?_)
 refine R.move (h := ?_)
 refine R.move (h := ?_)
 refine R.move (h := ?_)
 refine R.bin (run_leq _ _ _ _ _ _) (h := ?_)
 refine R.and (h := ?_)
 refine R.assign (h := ?_)
 refine .n0 ?_
 exact LGo.ret (ret_T Tryz.results119 hA hmd)
theorem vc2_P (n : Int) : PC Tryz.prog 230 [.i n] (.b (outI n 1 64)) := by
 refine ⟨LC.of_go Tryz.func230 (c := _) rfl (by kernel_rfl) (by rw [Tryz.ntmps230]; simp) rfl rfl (by simp [LO.lt, LV.lts, LV.lt, lts_sv]) (by simp) ?_⟩
 intro B hA hmd
 refine .seq ?_
 refine .region rfl ?_
 refine R.assign (h := ?_)
 refine .n0 ?_
 refine .seq ?_
 refine .region rfl ?_
 refine R.move (h := ?_)
 refine R.callP (es := [_, _, _]) (fun _ => out_int n 1 64) (h := ?_)
 refine R.assign (h := ?_)
 refine .n0 ?_
 exact LGo.ret (ret_T Tryz.results230 hA hmd)
theorem idxRow_P (l : List Int) (hl : l.length ≤ 100000) : PC Tryz.prog 264 [.sv (.sl 1 (ic .i64 l)), .fn (.func 230) [] []] (.i (idxP (fun n => outI n 1 64) 0 l)) := by
 refine ⟨LC.of_go Tryz.func264 (c := _) rfl (by kernel_rfl) (by rw [Tryz.ntmps264]; simp) rfl rfl (by simp [LO.lt, LV.lts, LV.lt, lts_sv]) (by simp) ?_⟩
 intro B hA hmd
 obtain ⟨g, e1⟩ : ∃ g, idxP (fun n => outI n 1 64) 0 l = g := ⟨_, rfl⟩
 rw [e1]
 refine .seq ?_
 refine .region rfl ?_
 refine R.assign (h := ?_)
 refine .n0 ?_
 refine .seq ?_
 refine .seq ?_
 refine .region rfl ?_
 refine R.move (h := ?_)
 first | refine R.len S65 (h := ?_) | refine R.lenRs S65 (h := ?_) | refine R.lenV (run_lenNil S65) (h := ?_)
 rw [ic_len]
 refine R.move (h := ?_)
 refine .n0 ?_
 refine .block ?_
 refine .loop ?_
 refine LGo.loopG (σ := Nat) (fun x => x ≤ l.length ∧ idxP (fun n => outI n 1 64) x (l.drop x) = g) (fun x => [(8, (true, .i (x : Nat)))]) (fun x => []) (fun x => l.length - x) (0) [(0, _), (1, _), (7, _)] ⟨Nat.zero_le _, e1⟩ (by repeat (first | exact trivial | refine ⟨rfl, ?_⟩)) (by repeat (first | exact trivial | refine ⟨rfl, ?_⟩)) (by repeat (first | exact trivial | refine ⟨rfl, ?_⟩)) ?_
 rintro k ⟨hk, hq⟩ ih
 refine .seq ?_
 refine .region rfl ?_
 refine R.bin (run_lss _ _ _ _ _ _) (h := ?_)
 refine .n0 ?_
 refine .seq ?_
 refine LGo.ifd (ht := fun hc => ?_) (hf := fun hc => ?_)
 ·
  have hlt : k < l.length := by omega
  have hx := icA hlt
  rw [List.drop_eq_getElem_cons hlt, idxP] at hq
  generalize l[k] = x at hx hq
  refine .skip ?_
  refine .seq ?_
  refine .block ?_
  refine .seq ?_
  refine .region rfl ?_
  refine R.move (h := ?_)
  refine R.assign (h := ?_)
  refine .n0 ?_
  refine .seq ?_
  refine .region rfl ?_
  refine R.move (h := ?_)
  refine R.move (h := ?_)
  refine R.move (h := ?_)
  refine R.index I65 (hj := fun hg => ⟨by omega, hx⟩) (h := ?_)
  first | refine R.loadB O3 (h := ?_) | refine R.load1 O3 (h := ?_)
  refine R.callRd (m := 0) (avs := [_]) (es := [_]) (first := []) (cap := []) (vc2_P x).lc (hL := noHo) (h := ?_)
  refine .n0 ?_
  refine LGo.ifb (ht := fun hc2 => ?_) (hf := fun hc2 => ?_)
  ·
   rw [if_pos hc2] at hq
   rw [← hq]
   refine .seq ?_
   refine .region rfl ?_
   refine R.move (h := ?_)
   refine R.assign (h := ?_)
   refine .n0 ?_
   exact LGo.ret (ret_T Tryz.results264 hA hmd)
  ·
   rw [if_neg (by rw [hc2]; simp)] at hq
   refine .skip ?_
   refine .inBlock ?_
   refine .region rfl ?_
   first | refine R.add (h := ?_) | refine R.addW (h := ?_)
   refine R.move (h := ?_)
   refine .n0 ?_
   refine .inLoop ?_
   exact LGo.next _ (fun o h => by have := (hA o).1 h; omega) (by omega) (ih (k + 1) ⟨by omega, hq⟩ (by omega)) (by repeat (first | exact trivial | refine ⟨rfl, ?_⟩)) (by repeat (first | exact trivial | refine ⟨rfl, ?_⟩))
 ·
  rw [List.drop_eq_nil_of_le (show l.length ≤ k by omega), idxP] at hq
  rw [← hq]
  refine .exit rfl ?_
  refine .seq ?_
  refine .region rfl ?_
  refine R.assign (h := ?_)
  refine .n0 ?_
  exact LGo.ret (ret_T Tryz.results264 hA hmd)
theorem hasRow_P (l : List Int) (hl : l.length ≤ 100000) : PC Tryz.prog 229 [.sv (.sl 1 (ic .i64 l)), .fn (.func 230) [] []] (.b (l.any fun n => outI n 1 64)) := by
 refine ⟨LC.of_go Tryz.func229 (c := _) rfl (by kernel_rfl) (by rw [Tryz.ntmps229]; simp) rfl rfl (by simp [LO.lt, LV.lts, LV.lt, lts_sv]) (by simp) ?_⟩
 intro B hA hmd
 refine .seq ?_
 refine .region rfl ?_
 refine R.assign (h := ?_)
 refine .n0 ?_
 refine .seq ?_
 refine .region rfl ?_
 refine R.move (h := ?_)
 refine R.move (h := ?_)
 refine R.callP (es := [_, _]) (fun _ => idxRow_P l hl) (h := ?_)
 refine R.bin (run_geq _ _ _ _ _ _) (h := ?_)
 rw [idxP_any]
 refine R.assign (h := ?_)
 refine .n0 ?_
 exact LGo.ret (ret_T Tryz.results229 hA hmd)
theorem vc1_L (x y : VnS) : LC Tryz.prog 228 1 [.agg (y.c.map LV.sv), .ptr 0 0] [(0, .box 80 (x.c.map LV.sv))] (.b (decide (y.name = x.name))) [(0, .box 80 (x.c.map LV.sv))] 0 := by
 refine LC.of_go Tryz.func228 (c := _) rfl (by kernel_rfl) (by rw [Tryz.ntmps228]; simp) rfl rfl (by simp [LO.lt, LV.lts, LV.lt, lts_sv]) (by simp) ?_
 intro B hA hmd
 refine .seq ?_
 refine .region rfl ?_
 refine R.box (h := ?_)
 refine R.assign (h := ?_)
 refine .n0 ?_
 refine .seq ?_
 refine .region rfl ?_
 first | refine R.field F80_0 (h := ?_) | refine R.fieldAt F80_0 (h := ?_)
 first | refine R.loadB O9 (h := ?_) | refine R.load1 O9 (h := ?_)
 first | refine R.field F80_0 (h := ?_) | refine R.fieldAt F80_0 (h := ?_)
 first | refine R.loadB O9 (h := ?_) | refine R.load1 O9 (h := ?_)
 refine R.bin (run_eqlT _ _ _ _ _) (h := ?_)
 refine R.assign (h := ?_)
 refine .n0 ?_
 exact LGo.ret (ret_T Tryz.results228 hA hmd)
theorem idxName_L (l : List VnS) (hl : l.length ≤ 100000) (z : VnS) : LC Tryz.prog 263 1 [.sv (.sl 3 (l.map VnS.c)), .fn (.func 228) [] [.ptr 0 0]] [(0, .box 80 (z.c.map LV.sv))] (.i (idxP (fun y => decide (y.name = z.name)) 0 l)) [(0, .box 80 (z.c.map LV.sv))] 0 := by
 refine LC.of_go Tryz.func263 (c := _) rfl (by kernel_rfl) (by rw [Tryz.ntmps263]; simp) rfl rfl (by simp [LO.lt, LV.lts, LV.lt, lts_sv]) (by simp) ?_
 intro B hA hmd
 obtain ⟨g, e1⟩ : ∃ g, idxP (fun y : VnS => decide (y.name = z.name)) 0 l = g := ⟨_, rfl⟩
 rw [e1]
 refine .seq ?_
 refine .region rfl ?_
 refine R.assign (h := ?_)
 refine .n0 ?_
 refine .seq ?_
 refine .seq ?_
 refine .region rfl ?_
 refine R.move (h := ?_)
 first | refine R.len S22 (h := ?_) | refine R.lenRs S22 (h := ?_) | refine R.lenV (run_lenNil S22) (h := ?_)
 rw [List.length_map]
 refine R.move (h := ?_)
 refine .n0 ?_
 refine .block ?_
 refine .loop ?_
 refine LGo.loopG (σ := Nat) (fun x => x ≤ l.length ∧ idxP (fun y : VnS => decide (y.name = z.name)) x (l.drop x) = g) (fun x => [(8, (true, .i (x : Nat)))]) (fun x => [(0, .box 80 (z.c.map LV.sv))]) (fun x => l.length - x) (0) [(0, _), (1, _), (7, _)] ⟨Nat.zero_le _, e1⟩ (by repeat (first | exact trivial | refine ⟨rfl, ?_⟩)) (by repeat (first | exact trivial | refine ⟨rfl, ?_⟩)) (by repeat (first | exact trivial | refine ⟨rfl, ?_⟩)) ?_
 rintro k ⟨hk, hq⟩ ih
 refine .seq ?_
 refine .region rfl ?_
 refine R.bin (run_lss _ _ _ _ _ _) (h := ?_)
 refine .n0 ?_
 refine .seq ?_
 refine LGo.ifd (ht := fun hc => ?_) (hf := fun hc => ?_)
 ·
  have hlt : k < l.length := by omega
  have hx : (l.map VnS.c)[((k : Nat) : Int).toNat]? = some l[k].c := by simp [hlt]
  have hd : l.drop k = l[k] :: l.drop (k + 1) := List.drop_eq_getElem_cons hlt
  rw [hd, idxP] at hq
  generalize l[k] = y at hx hq
  clear hd
  refine .skip ?_
  refine .seq ?_
  refine .block ?_
  refine .seq ?_
  refine .region rfl ?_
  refine R.move (h := ?_)
  refine R.assign (h := ?_)
  refine .n0 ?_
  refine .seq ?_
  refine .region rfl ?_
  refine R.move (h := ?_)
  refine R.move (h := ?_)
  refine R.move (h := ?_)
  refine R.index I22 (hj := fun hg => ⟨by omega, hx⟩) (h := ?_)
  first | refine R.loadA A80 (h := ?_) | refine R.loadN A80 (h := ?_) | refine R.loadP A80 (h := ?_)
  refine R.callX (es := [_]) (first := []) (cap := [_]) [0] (vc1_L z y) (h := ?_)
  refine .n0 ?_
  refine LGo.ifb (ht := fun hc2 => ?_) (hf := fun hc2 => ?_)
  ·
   rw [if_pos hc2] at hq
   rw [← hq]
   refine .seq ?_
   refine .region rfl ?_
   refine R.move (h := ?_)
   refine R.assign (h := ?_)
   refine .n0 ?_
   exact LGo.ret (ret_T Tryz.results263 hA hmd)
  ·
   rw [if_neg (by rw [hc2]; simp)] at hq
   refine .skip ?_
   refine .inBlock ?_
   refine .region rfl ?_
   first | refine R.add (h := ?_) | refine R.addW (h := ?_)
   refine R.move (h := ?_)
   refine .n0 ?_
   refine .inLoop ?_
   exact LGo.next _ (fun o h => by have := (hA o).1 h; omega) (by omega) (ih (k + 1) ⟨by omega, hq⟩ (by omega)) (by repeat (first | exact trivial | refine ⟨rfl, ?_⟩)) ⟨rfl, trivial⟩
 ·
  rw [List.drop_eq_nil_of_le (show l.length ≤ k by omega), idxP] at hq
  rw [← hq]
  refine .exit rfl ?_
  refine .seq ?_
  refine .region rfl ?_
  refine R.assign (h := ?_)
  refine .n0 ?_
  exact LGo.ret (ret_T Tryz.results263 hA hmd)
theorem hasName_L (l : List VnS) (hl : l.length ≤ 100000) (x : VnS) : LC Tryz.prog 227 1 [.sv (.sl 3 (l.map VnS.c)), .fn (.func 228) [] [.ptr 0 0]] [(0, .box 80 (x.c.map LV.sv))] (.b (l.any fun y => decide (y.name = x.name))) [(0, .box 80 (x.c.map LV.sv))] 0 := by
 refine LC.of_go Tryz.func227 (c := _) rfl (by kernel_rfl) (by rw [Tryz.ntmps227]; simp) rfl rfl (by simp [LO.lt, LV.lts, LV.lt, lts_sv]) (by simp) ?_
 intro B hA hmd
 refine .seq ?_
 refine .region rfl ?_
 refine R.assign (h := ?_)
 refine .n0 ?_
 refine .seq ?_
 refine .region rfl ?_
 refine R.move (h := ?_)
 refine R.move (h := ?_)
 refine R.callX (es := [_, _]) [0] (idxName_L l hl x) (h := ?_)
 refine R.bin (run_geq _ _ _ _ _ _) (h := ?_)
 rw [idxP_any]
 refine R.assign (h := ?_)
 refine .n0 ?_
 exact LGo.ret (ret_T Tryz.results227 hA hmd)
theorem check1_P (x : VnS) (hx1 : x.name.length ≤ 100000) (l : List VnS) (hl : l.length ≤ 100000) : PC Tryz.prog 178 [.agg (x.c.map LV.sv), .sv (.sl 3 (l.map VnS.c))] (.i (checkV x l)) := by
 refine ⟨LC.of_go Tryz.func178 (c := _) rfl (by kernel_rfl) (by rw [Tryz.ntmps178]; simp) rfl rfl (by simp [LO.lt, LV.lts, LV.lt, lts_sv]) (by simp) ?_⟩
 intro B hA hmd
 obtain ⟨g, e0⟩ : ∃ g, checkV x l = g := ⟨_, rfl⟩
 have e1 := e0
 unfold checkV at e1
 rw [e0]
 refine .seq ?_
 refine .region rfl ?_
 refine R.box (h := ?_)
 refine R.assign (h := ?_)
 refine .n0 ?_
 refine .seq ?_
 refine .block ?_
 refine .seq ?_
 refine .region rfl ?_
 first | refine R.field F80_0 (h := ?_) | refine R.fieldAt F80_0 (h := ?_)
 first | refine R.loadB O9 (h := ?_) | refine R.load1 O9 (h := ?_)
 refine R.callP (es := [_]) (fun _ => name_P x.name hx1) (h := ?_)
 refine R.not (h := ?_)
 refine R.assign (h := ?_)
 refine .n0 ?_
 refine LGo.ifb (ht := fun hc => ?_) (hf := fun hc => ?_)
 ·
  rw [if_pos (by simpa using hc)] at e1
  rw [← e1]
  refine .seq ?_
  refine .region rfl ?_
  refine R.assign (h := ?_)
  refine .n0 ?_
  exact LGo.ret (ret_T Tryz.results178 hA hmd)
 ·
  rw [if_neg (by rw [hc]; simp)] at e1
  refine .seq ?_
  refine .region rfl ?_
  refine R.move (h := ?_)
  refine R.makeFunc (es := []) (fs := [_]) (h := ?_)
  refine R.callX (es := [_, _]) [0] (hasName_L l hl x) (h := ?_)
  refine R.assign (h := ?_)
  refine .n0 ?_
  refine LGo.ifb (ht := fun hc2 => ?_) (hf := fun hc2 => ?_)
  ·
   rw [if_pos (by simpa using hc2)] at e1
   rw [← e1]
   refine .seq ?_
   refine .region rfl ?_
   refine R.assign (h := ?_)
   refine .n0 ?_
   exact LGo.ret (ret_T Tryz.results178 hA hmd)
  ·
   rw [if_neg (by rw [hc2]; simp)] at e1
   refine .seq ?_
   refine .region rfl ?_
   first | refine R.field F80_1 (h := ?_) | refine R.fieldAt F80_1 (h := ?_)
   first | refine R.loadB O65 (h := ?_) | refine R.load1 O65 (h := ?_)
   first | refine R.len S65 (h := ?_) | refine R.lenRs S65 (h := ?_) | refine R.lenV (run_lenNil S65) (h := ?_)
   rw [ic_len]
   refine R.bin (run_eql _ _ _ _ _ _) (h := ?_)
   refine R.assign (h := ?_)
   refine .n0 ?_
   refine LGo.ifd (ht := fun hc3 => ?_) (hf := fun hc3 => ?_)
   ·
    rw [if_pos (by omega)] at e1
    rw [← e1]
    refine .seq ?_
    refine .region rfl ?_
    refine R.assign (h := ?_)
    refine .n0 ?_
    exact LGo.ret (ret_T Tryz.results178 hA hmd)
   ·
    rw [if_neg (by omega)] at e1
    refine .seq ?_
    refine .region rfl ?_
    first | refine R.field F80_1 (h := ?_) | refine R.fieldAt F80_1 (h := ?_)
    first | refine R.loadB O65 (h := ?_) | refine R.load1 O65 (h := ?_)
    first | refine R.len S65 (h := ?_) | refine R.lenRs S65 (h := ?_) | refine R.lenV (run_lenNil S65) (h := ?_)
    rw [ic_len]
    refine R.bin (run_gtr _ _ _ _ _ _) (h := ?_)
    refine R.assign (h := ?_)
    refine .n0 ?_
    refine LGo.ifd (ht := fun hc4 => ?_) (hf := fun hc4 => ?_)
    ·
     rw [if_pos (by omega)] at e1
     rw [← e1]
     refine .seq ?_
     refine .region rfl ?_
     refine R.assign (h := ?_)
     refine .n0 ?_
     exact LGo.ret (ret_T Tryz.results178 hA hmd)
    ·
     rw [if_neg (by omega)] at e1
     refine .seq ?_
     refine .region rfl ?_
     first | refine R.field F80_1 (h := ?_) | refine R.fieldAt F80_1 (h := ?_)
     first | refine R.loadB O65 (h := ?_) | refine R.load1 O65 (h := ?_)
     refine R.callP (es := [_, _]) (fun _ => hasRow_P x.rows (by omega)) (h := ?_)
     refine R.assign (h := ?_)
     refine .n0 ?_
     refine LGo.ifb (ht := fun hc5 => ?_) (hf := fun hc5 => ?_)
     ·
      rw [if_pos (by simpa using hc5)] at e1
      rw [← e1]
      refine .seq ?_
      refine .region rfl ?_
      refine R.assign (h := ?_)
      refine .n0 ?_
      exact LGo.ret (ret_T Tryz.results178 hA hmd)
     ·
      rw [if_neg (by rw [hc5]; simp)] at e1
      refine .seq ?_
      refine .region rfl ?_
      first | refine R.field F80_2 (h := ?_) | refine R.fieldAt F80_2 (h := ?_)
      first | refine R.loadB O3 (h := ?_) | refine R.load1 O3 (h := ?_)
      refine R.callP (es := [_, _, _]) (fun _ => out_int x.queue 0 64) (h := ?_)
      refine R.assign (h := ?_)
      refine .n0 ?_
      refine LGo.ifb (ht := fun hc6 => ?_) (hf := fun hc6 => ?_)
      ·
       rw [if_pos (by simpa using hc6)] at e1
       rw [← e1]
       refine .seq ?_
       refine .region rfl ?_
       refine R.assign (h := ?_)
       refine .n0 ?_
       exact LGo.ret (ret_T Tryz.results178 hA hmd)
      ·
       rw [if_neg (by rw [hc6]; simp)] at e1
       rw [← e1]
       refine .skip ?_
       refine .inBlock ?_
       refine .seq ?_
       refine .region rfl ?_
       refine R.assign (h := ?_)
       refine .n0 ?_
       exact LGo.ret (ret_T Tryz.results178 hA hmd)
def venGo : Nat → List VnS → Int → List VnS → Int × Int
  | _, _, all, [] => if 4096 < all then (-1, 3) else (0, 0)
  | k, bf, all, x :: r => if checkV x bf ≠ 0 then (k, checkV x bf) else venGo (k + 1) (bf ++ [x]) (x.rows.foldl (fun a n => a + n) all) r
def checkVen (v : Ven) : Int × Int :=
  if ((outI v.shards 1 16 || outI v.ttl 1 1000000000) || outI v.session 1 1000000000) = true then (-1, 7) else
  if (v.secs.length : Int) = 0 then (-1, 6) else
  if 8 < (v.secs.length : Int) then (-1, 3) else venGo 0 [] 0 v.secs
def SmV (v : Ven) : Prop := v.secs.length ≤ 100000 ∧ ∀ x ∈ v.secs, x.name.length ≤ 100000
theorem checkV_0 {x : VnS} {l : List VnS} (h : checkV x l = 0) : x.rows.length ≤ 16 ∧ ∀ n ∈ x.rows, 1 ≤ n ∧ n ≤ 64 := by
  unfold checkV at h
  split at h
  · cases h
  split at h
  · cases h
  split at h
  · cases h
  split at h
  · cases h
  rename_i h4
  split at h
  · cases h
  rename_i h5
  refine ⟨by omega, fun n hn => ?_⟩
  simp only [List.any_eq_true, not_exists, not_and, Bool.not_eq_true] at h5
  have := h5 n hn
  unfold outI at this
  simp only [Bool.or_eq_false_iff, decide_eq_false_iff_not] at this
  omega
theorem checkVen_P (v : Ven) (hv : SmV v) : PC Tryz.prog 108 [.agg (v.c.map LV.sv)] (.tup [.i (checkVen v).1, .i (checkVen v).2]) := by
 refine ⟨LC.of_go Tryz.func108 (c := _) rfl (by kernel_rfl) (by rw [Tryz.ntmps108]; simp) rfl rfl (by simp [LO.lt, LV.lts, LV.lt, lts_sv]) (by simp) ?_⟩
 intro B hA hmd
 obtain ⟨hv1, hv2⟩ := hv
 obtain ⟨g, e0⟩ : ∃ g, checkVen v = g := ⟨_, rfl⟩
 have e1 := e0
 unfold checkVen at e1
 rw [e0]
 refine .seq ?_
 refine .region rfl ?_
 refine R.box (h := ?_)
 refine R.assign (h := ?_)
 refine R.assign (h := ?_)
 refine .n0 ?_
 refine .seq ?_
 refine .block ?_
 refine .seq ?_
 refine .region rfl ?_
 first | refine R.field F24_0 (h := ?_) | refine R.fieldAt F24_0 (h := ?_)
 first | refine R.loadB O3 (h := ?_) | refine R.load1 O3 (h := ?_)
 refine R.callP (es := [_, _, _]) (fun _ => out_int v.shards 1 16) (h := ?_)
 refine R.move (h := ?_)
 first | refine R.field F24_1 (h := ?_) | refine R.fieldAt F24_1 (h := ?_)
 first | refine R.loadB O2 (h := ?_) | refine R.load1 O2 (h := ?_)
 refine R.callP (es := [_, _, _]) (fun _ => out_int64 v.ttl 1 1000000000) (h := ?_)
 refine R.or (h := ?_)
 refine R.move (h := ?_)
 first | refine R.field F24_2 (h := ?_) | refine R.fieldAt F24_2 (h := ?_)
 first | refine R.loadB O2 (h := ?_) | refine R.load1 O2 (h := ?_)
 refine R.callP (es := [_, _, _]) (fun _ => out_int64 v.session 1 1000000000) (h := ?_)
 refine R.or (h := ?_)
 refine R.assign (h := ?_)
 refine .n0 ?_
 refine LGo.ifb (ht := fun hc => ?_) (hf := fun hc => ?_)
 ·
  rw [if_pos hc] at e1
  rw [← e1]
  refine .seq ?_
  refine .region rfl ?_
  refine R.assign (h := ?_)
  refine R.assign (h := ?_)
  refine .n0 ?_
  exact LGo.ret (ret_TT Tryz.results108 hA hmd)
 ·
  rw [if_neg (by rw [hc]; simp)] at e1
  refine .seq ?_
  refine .region rfl ?_
  first | refine R.field F24_3 (h := ?_) | refine R.fieldAt F24_3 (h := ?_)
  first | refine R.loadB O22 (h := ?_) | refine R.load1 O22 (h := ?_)
  first | refine R.len S22 (h := ?_) | refine R.lenRs S22 (h := ?_) | refine R.lenV (run_lenNil S22) (h := ?_)
  rw [List.length_map]
  refine R.bin (run_eql _ _ _ _ _ _) (h := ?_)
  refine R.assign (h := ?_)
  refine .n0 ?_
  refine LGo.ifd (ht := fun hc2 => ?_) (hf := fun hc2 => ?_)
  ·
   rw [if_pos (by omega)] at e1
   rw [← e1]
   refine .seq ?_
   refine .region rfl ?_
   refine R.assign (h := ?_)
   refine R.assign (h := ?_)
   refine .n0 ?_
   exact LGo.ret (ret_TT Tryz.results108 hA hmd)
  ·
   rw [if_neg (by omega)] at e1
   refine .seq ?_
   refine .region rfl ?_
   first | refine R.field F24_3 (h := ?_) | refine R.fieldAt F24_3 (h := ?_)
   first | refine R.loadB O22 (h := ?_) | refine R.load1 O22 (h := ?_)
   first | refine R.len S22 (h := ?_) | refine R.lenRs S22 (h := ?_) | refine R.lenV (run_lenNil S22) (h := ?_)
   rw [List.length_map]
   refine R.bin (run_gtr _ _ _ _ _ _) (h := ?_)
   refine R.assign (h := ?_)
   refine .n0 ?_
   refine LGo.ifd (ht := fun hc3 => ?_) (hf := fun hc3 => ?_)
   ·
    rw [if_pos (by omega)] at e1
    rw [← e1]
    refine .seq ?_
    refine .region rfl ?_
    refine R.assign (h := ?_)
    refine R.assign (h := ?_)
    refine .n0 ?_
    exact LGo.ret (ret_TT Tryz.results108 hA hmd)
   ·
    rw [if_neg (by omega)] at e1
    refine .skip ?_
    refine .inBlock ?_
    refine .seq ?_
    refine .region rfl ?_
    refine R.assign (h := ?_)
    refine .n0 ?_
    refine .seq ?_
    refine .seq ?_
    refine .region rfl ?_
    first | refine R.field F24_3 (h := ?_) | refine R.fieldAt F24_3 (h := ?_)
    first | refine R.loadB O22 (h := ?_) | refine R.load1 O22 (h := ?_)
    first | refine R.len S22 (h := ?_) | refine R.lenRs S22 (h := ?_) | refine R.lenV (run_lenNil S22) (h := ?_)
    rw [List.length_map]
    refine R.move (h := ?_)
    refine .n0 ?_
    refine .block ?_
    refine .loop ?_
    refine LGo.loopG (σ := Nat × Int) (fun x => x.1 ≤ v.secs.length ∧ 0 ≤ x.2 ∧ x.2 ≤ 2000 * x.1 ∧ venGo x.1 (v.secs.take x.1) x.2 (v.secs.drop x.1) = g) (fun x => [(37, (true, .i (x.1 : Nat))), (4, (true, .i x.2))]) (fun x => [(0, .box 24 (v.c.map LV.sv))]) (fun x => v.secs.length - x.1) (0, 0) [(1, _), (35, _), (36, _)] ⟨Nat.zero_le _, Int.le_refl _, Int.le_refl _, e1⟩ (by repeat (first | exact trivial | refine ⟨rfl, ?_⟩)) (by repeat (first | exact trivial | refine ⟨rfl, ?_⟩)) (by repeat (first | exact trivial | refine ⟨rfl, ?_⟩)) ?_
    rintro ⟨k, al⟩ ⟨hk, ha0, ha1, hq⟩ ih
    dsimp only at * 
    refine .seq ?_
    refine .region rfl ?_
    refine R.bin (run_lss _ _ _ _ _ _) (h := ?_)
    refine .n0 ?_
    refine .seq ?_
    refine LGo.ifd (ht := fun hc4 => ?_) (hf := fun hc4 => ?_)
    ·
     have hlt : k < v.secs.length := by omega
     have hx : (v.secs.map VnS.c)[((k : Nat) : Int).toNat]? = some v.secs[k].c := by simp [hlt]
     have hd : v.secs.drop k = v.secs[k] :: v.secs.drop (k + 1) := List.drop_eq_getElem_cons hlt
     rw [hd, venGo] at hq
     have htk : v.secs.take (k + 1) = v.secs.take k ++ [v.secs[k]] := List.take_succ_eq_append_getElem hlt
     have hzn := hv2 _ (List.getElem_mem hlt)
     generalize v.secs[k] = z at hx hq htk hzn
     clear hd
     refine .skip ?_
     refine .seq ?_
     refine .block ?_
     refine .seq ?_
     refine .region rfl ?_
     refine R.move (h := ?_)
     refine R.index I22 (hj := fun hg => ⟨by omega, hx⟩) (h := ?_)
     first | refine R.loadA A80 (h := ?_) | refine R.loadN A80 (h := ?_) | refine R.loadP A80 (h := ?_)
     refine R.alloc Z80 (h := ?_)
     refine R.assign (h := ?_)
     refine R.storeA A80 (h := ?_)
     refine .n0 ?_
     refine .seq ?_
     refine .seq ?_
     refine .region rfl ?_
     first | refine R.loadA A80 (h := ?_) | refine R.loadN A80 (h := ?_) | refine R.loadP A80 (h := ?_)
     first | refine R.field F24_3 (h := ?_) | refine R.fieldAt F24_3 (h := ?_)
     first | refine R.loadB O22 (h := ?_) | refine R.load1 O22 (h := ?_)
     refine R.move (h := ?_)
     refine R.sliceHi SF22 (ha := fun _ => by rw [List.length_map]; omega) (h := ?_)
     rw [← List.map_take, Int.toNat_natCast]
     refine R.callP (es := [_, _]) (fun _ => check1_P z hzn (v.secs.take k) (by rw [List.length_take]; omega)) (h := ?_)
     refine R.assign (h := ?_)
     refine Reg.nil ⟨fun _ => ⟨mixedO, by rfl, by rfl⟩, ?_⟩
     refine .seq ?_
     refine .region rfl ?_
     refine R.move (h := ?_)
     refine R.bin (run_neq _ _ _ _ _ _) (h := ?_)
     refine .n0 ?_
     refine LGo.ifb (ht := fun hc5 => ?_) (hf := fun hc5 => ?_)
     ·
      rw [if_pos (by simpa using hc5)] at hq
      rw [← hq]
      refine .seq ?_
      refine .region rfl ?_
      refine R.move (h := ?_)
      refine R.move (h := ?_)
      refine R.assign (h := ?_)
      refine R.assign (h := ?_)
      refine .n0 ?_
      exact LGo.ret (ret_TT Tryz.results108 hA hmd)
     ·
      have hz0 : checkV z (v.secs.take k) = 0 := by simpa using hc5
      rw [if_neg (by simp [hz0]), ← htk] at hq
      obtain ⟨hr1, hr2⟩ := checkV_0 hz0
      obtain ⟨F, hF⟩ : ∃ F, z.rows.foldl (fun a n => a + n) al = F := ⟨_, rfl⟩
      rw [hF] at hq
      refine .skip ?_
      refine .seq ?_
      refine .region rfl ?_
      first | refine R.field F80_1 (h := ?_) | refine R.fieldAt F80_1 (h := ?_)
      first | refine R.loadB O65 (h := ?_) | refine R.load1 O65 (h := ?_)
      first | refine R.len S65 (h := ?_) | refine R.lenRs S65 (h := ?_) | refine R.lenV (run_lenNil S65) (h := ?_)
      rw [ic_len]
      refine R.move (h := ?_)
      refine .n0 ?_
      refine .block ?_
      refine .loop ?_
      refine LGo.loopG (σ := Nat × Int) (fun x => x.1 ≤ z.rows.length ∧ al ≤ x.2 ∧ x.2 ≤ al + 64 * x.1 ∧ (z.rows.drop x.1).foldl (fun a n => a + n) x.2 = F) (fun x => [(55, (true, .i (x.1 : Nat))), (4, (true, .i x.2))]) (fun x => [(0, .box 24 (v.c.map LV.sv))]) (fun x => z.rows.length - x.1) (0, al) [(1, _), (35, _), (36, _), (37, _), (53, _), (54, _)] ⟨Nat.zero_le _, Int.le_refl _, by dsimp only; omega, hF⟩ (by repeat (first | exact trivial | refine ⟨rfl, ?_⟩)) (by repeat (first | exact trivial | refine ⟨rfl, ?_⟩)) (by repeat (first | exact trivial | refine ⟨rfl, ?_⟩)) ?_
      rintro ⟨j, b⟩ ⟨hj, hb0, hb1, hq2⟩ ih2
      dsimp only at * 
      refine .seq ?_
      refine .region rfl ?_
      refine R.bin (run_lss _ _ _ _ _ _) (h := ?_)
      refine .n0 ?_
      refine .seq ?_
      refine LGo.ifd (ht := fun hc6 => ?_) (hf := fun hc6 => ?_)
      ·
       have hltj : j < z.rows.length := by omega
       have hx2 := icA hltj
       have hnn := hr2 _ (List.getElem_mem hltj)
       rw [List.drop_eq_getElem_cons hltj, List.foldl_cons] at hq2
       generalize z.rows[j] = n at hx2 hq2 hnn
       refine .skip ?_
       refine .seq ?_
       refine .block ?_
       refine .seq ?_
       refine .region rfl ?_
       refine R.index I65 (hj := fun hg => ⟨by omega, hx2⟩) (h := ?_)
       first | refine R.loadB O3 (h := ?_) | refine R.load1 O3 (h := ?_)
       refine R.assign (h := ?_)
       refine .n0 ?_
       refine .region rfl ?_
       refine R.move (h := ?_)
       refine R.move (h := ?_)
       first | refine R.add (h := ?_) | refine R.addW (h := ?_)
       refine R.assign (h := ?_)
       refine .n0 ?_
       refine .inBlock ?_
       refine .region rfl ?_
       first | refine R.add (h := ?_) | refine R.addW (h := ?_)
       refine R.move (h := ?_)
       refine .n0 ?_
       refine .inLoop ?_
       exact LGo.next _ (fun o h => by have := (hA o).1 h; omega) (by omega) (ih2 (j + 1, b + n) ⟨by dsimp only; omega, by dsimp only; omega, by dsimp only; omega, hq2⟩ (by dsimp only; omega)) (by repeat (first | exact trivial | refine ⟨rfl, ?_⟩)) ⟨rfl, trivial⟩
      ·
       rw [List.drop_eq_nil_of_le (show z.rows.length ≤ j by omega), List.foldl_nil] at hq2
       subst hq2
       refine .exit rfl ?_
       refine .inBlock ?_
       refine .region rfl ?_
       first | refine R.add (h := ?_) | refine R.addW (h := ?_)
       refine R.move (h := ?_)
       refine .n0 ?_
       refine .inLoop ?_
       exact LGo.next _ (fun o h => by have := (hA o).1 h; omega) (by omega) (ih (k + 1, b) ⟨by dsimp only; omega, by dsimp only; omega, by dsimp only; omega, hq⟩ (by dsimp only; omega)) (by repeat (first | exact trivial | refine ⟨rfl, ?_⟩)) ⟨rfl, trivial⟩
    ·
     rw [List.drop_eq_nil_of_le (show v.secs.length ≤ k by omega), venGo] at hq
     refine .exit rfl ?_
     refine .seq ?_
     refine .seq ?_
     refine .region rfl ?_
     refine R.move (h := ?_)
     refine R.bin (run_gtr _ _ _ _ _ _) (h := ?_)
     refine .n0 ?_
     refine LGo.ifd (ht := fun hc7 => ?_) (hf := fun hc7 => ?_)
     ·
      rw [if_pos (by omega)] at hq
      rw [← hq]
      refine .seq ?_
      refine .region rfl ?_
      refine R.assign (h := ?_)
      refine R.assign (h := ?_)
      refine .n0 ?_
      exact LGo.ret (ret_TT Tryz.results108 hA hmd)
     ·
      rw [if_neg (by omega)] at hq
      rw [← hq]
      refine .skip ?_
      refine .seq ?_
      refine .region rfl ?_
      refine R.assign (h := ?_)
      refine R.assign (h := ?_)
      refine .n0 ?_
      exact LGo.ret (ret_TT Tryz.results108 hA hmd)
def orZ (s : List UInt8) (n : Nat) : List UInt8 := if s = [] then List.replicate n 0 else s
theorem orZ_P (s : List UInt8) (n : Nat) (hn : n ≤ 1000) : PC Tryz.prog 145 [.t s, .i n] (.t (orZ s n)) := by
 refine ⟨LC.of_go Tryz.func145 (c := _) rfl (by kernel_rfl) (by rw [Tryz.ntmps145]; simp) rfl rfl (by simp [LO.lt, LV.lts, LV.lt, lts_sv]) (by simp) ?_⟩
 intro B hA hmd
 obtain ⟨g, e0⟩ : ∃ g, orZ s n = g := ⟨_, rfl⟩
 have e1 := e0
 unfold orZ at e1
 rw [e0]
 refine .seq ?_
 refine .region rfl ?_
 refine R.assign (h := ?_)
 refine .n0 ?_
 refine .seq ?_
 refine .seq ?_
 refine .region rfl ?_
 refine R.move (h := ?_)
 refine R.bin (run_eqlT _ _ _ _ _) (h := ?_)
 refine .n0 ?_
 refine LGo.ifd (ht := fun hc => ?_) (hf := fun hc => ?_)
 ·
  rw [if_pos hc] at e1
  rw [← e1]
  refine .seq ?_
  refine .region rfl ?_
  refine R.move (h := ?_)
  refine R.makeF AP44 (k := .u8) (by kernel_rfl) (hm := by omega) (h := ?_)
  rw [show ic .u8 (List.replicate n 0) = bytesC (List.replicate n 0) from by simp [ic, bytesC]]
  refine R.toString Tryz.underlying44 Tryz.underlying5 Tryz.underlying9 (h := ?_)
  refine R.assign (h := ?_)
  refine .n0 ?_
  exact LGo.ret (ret_T Tryz.results145 hA hmd)
 ·
  rw [if_neg hc] at e1
  rw [← e1]
  refine .skip ?_
  refine .seq ?_
  refine .region rfl ?_
  refine R.move (h := ?_)
  refine R.assign (h := ?_)
  refine .n0 ?_
  exact LGo.ret (ret_T Tryz.results145 hA hmd)
def reqS (c : SrC) (rid : Int) (tok blob : List UInt8) : Rq × Int :=
  if ((!decide ((needsQ c.kind).2.2 = 0) || (!(needsQ c.kind).1 && !decide (c.session = 0))) || (!(needsQ c.kind).2.1 && !decide (c.ticket = 0))) = true then (default, 2)
  else (⟨c.kind, rid, c.owner, c.tgt, if (needsQ c.kind).1 = true then orZ tok 44 else [], if (needsQ c.kind).2.1 = true then orZ blob 56 else [], c.seat, c.sec, c.n, c.gate⟩, 0)
theorem reqS_P (c : SrC) (rid : Int) (tok blob : List UInt8) : PC Tryz.prog 76 [.agg (c.c.map LV.sv), .v (.int .u64 rid), .t tok, .t blob] (.tup [.agg ((reqS c rid tok blob).1.c.map LV.sv), .i (reqS c rid tok blob).2]) := by
 refine ⟨LC.of_go Tryz.func76 (c := _) rfl (by kernel_rfl) (by rw [Tryz.ntmps76]; simp) rfl rfl (by simp [LO.lt, LV.lts, LV.lt, lts_sv]) (by simp) ?_⟩
 intro B hA hmd
 obtain ⟨g, e0⟩ : ∃ g, reqS c rid tok blob = g := ⟨_, rfl⟩
 have e1 := e0
 unfold reqS at e1
 rw [e0]
 refine .seq ?_
 refine .region rfl ?_
 refine R.box (h := ?_)
 refine R.alloc Z48 (h := ?_)
 refine R.assign (h := ?_)
 refine .n0 ?_
 refine .seq ?_
 refine .region rfl ?_
 first | refine R.field F40_0 (h := ?_) | refine R.fieldAt F40_0 (h := ?_)
 first | refine R.loadB O3 (h := ?_) | refine R.load1 O3 (h := ?_)
 refine R.callP (es := [_]) (fun _ => needsQ_P c.kind) (h := ?_)
 generalize needsQ c.kind = nd at e1 ⊢
 obtain ⟨n1, n2, n3⟩ := nd
 dsimp only at e1 ⊢
 refine R.move (h := ?_)
 refine R.extract (h := ?_)
 refine R.extract (h := ?_)
 refine R.extract (h := ?_)
 refine R.assign (h := ?_)
 refine R.assign (h := ?_)
 refine R.assign (h := ?_)
 refine .n0 ?_
 refine .seq ?_
 refine .seq ?_
 refine .region rfl ?_
 refine R.move (h := ?_)
 refine R.bin (run_neq _ _ _ _ _ _) (h := ?_)
 refine R.move (h := ?_)
 refine R.move (h := ?_)
 refine R.not (h := ?_)
 refine R.move (h := ?_)
 first | refine R.field F40_3 (h := ?_) | refine R.fieldAt F40_3 (h := ?_)
 first | refine R.loadB O3 (h := ?_) | refine R.load1 O3 (h := ?_)
 refine R.bin (run_neq _ _ _ _ _ _) (h := ?_)
 refine R.and (h := ?_)
 refine R.or (h := ?_)
 refine R.move (h := ?_)
 refine R.move (h := ?_)
 refine R.not (h := ?_)
 refine R.move (h := ?_)
 first | refine R.field F40_4 (h := ?_) | refine R.fieldAt F40_4 (h := ?_)
 first | refine R.loadB O3 (h := ?_) | refine R.load1 O3 (h := ?_)
 refine R.bin (run_neq _ _ _ _ _ _) (h := ?_)
 refine R.and (h := ?_)
 refine R.or (h := ?_)
 refine .n0 ?_
 refine LGo.ifb (ht := fun hc => ?_) (hf := fun hc => ?_)
 ·
  rw [if_pos hc] at e1
  rw [← e1]
  refine .seq ?_
  refine .region rfl ?_
  refine R.build BF48 (is := []) (xs := []) (es := []) (h := ?_)
  refine R.storeA A48 (h := ?_)
  refine R.assign (h := ?_)
  refine .n0 ?_
  exact LGo.ret (ret_AT Tryz.results76 A48 hA hmd)
 ·
  rw [if_neg (by rw [hc]; simp)] at e1
  refine .skip ?_
  refine .seq ?_
  refine .region rfl ?_
  first | refine R.field F40_0 (h := ?_) | refine R.fieldAt F40_0 (h := ?_)
  first | refine R.loadB O3 (h := ?_) | refine R.load1 O3 (h := ?_)
  refine R.move (h := ?_)
  first | refine R.field F40_1 (h := ?_) | refine R.fieldAt F40_1 (h := ?_)
  first | refine R.loadB O38 (h := ?_) | refine R.load1 O38 (h := ?_)
  first | refine R.field F40_2 (h := ?_) | refine R.fieldAt F40_2 (h := ?_)
  first | refine R.loadB O38 (h := ?_) | refine R.load1 O38 (h := ?_)
  first | refine R.field F40_5 (h := ?_) | refine R.fieldAt F40_5 (h := ?_)
  first | refine R.loadB O3 (h := ?_) | refine R.load1 O3 (h := ?_)
  first | refine R.field F40_6 (h := ?_) | refine R.fieldAt F40_6 (h := ?_)
  first | refine R.loadB O3 (h := ?_) | refine R.load1 O3 (h := ?_)
  first | refine R.field F40_7 (h := ?_) | refine R.fieldAt F40_7 (h := ?_)
  first | refine R.loadB O3 (h := ?_) | refine R.load1 O3 (h := ?_)
  first | refine R.field F40_8 (h := ?_) | refine R.fieldAt F40_8 (h := ?_)
  first | refine R.loadB O3 (h := ?_) | refine R.load1 O3 (h := ?_)
  refine R.build BF48 (is := [0, 1, 2, 3, 6, 7, 8, 9]) (xs := [_, _, _, _, _, _, _, _]) (es := [_, _, _, _, _, _, _, _]) (h := ?_)
  refine R.alloc Z48 (h := ?_)
  refine R.storeA A48 (h := ?_)
  refine .n0 ?_
  refine .seq ?_
  refine .region rfl ?_
  refine R.assign (h := ?_)
  refine .n0 ?_
  refine .seq ?_
  refine .seq ?_
  refine .region rfl ?_
  refine R.move (h := ?_)
  refine .n0 ?_
  refine LGo.ifb (ht := fun hc2 => ?_) (hf := fun hc2 => ?_)
  ·
   subst hc2
   rw [if_pos rfl] at e1
   refine .region rfl ?_
   refine R.move (h := ?_)
   refine R.move (h := ?_)
   refine R.callRd (m := 0) (avs := [_, _]) (es := [_, _]) (first := []) (cap := []) (orZ_P tok 44 (by decide)).lc (hL := noHo) (h := ?_)
   first | refine R.field F48_4 (h := ?_) | refine R.fieldAt F48_4 (h := ?_)
   refine R.storeB O9 (h := ?_)
   refine .n0 ?_
   refine .seq ?_
   refine .seq ?_
   refine .region rfl ?_
   refine R.move (h := ?_)
   refine .n0 ?_
   refine LGo.ifb (ht := fun hc3 => ?_) (hf := fun hc3 => ?_)
   ·
    subst hc3
    rw [if_pos rfl] at e1
    rw [← e1]
    refine .region rfl ?_
    refine R.move (h := ?_)
    refine R.move (h := ?_)
    refine R.callRd (m := 0) (avs := [_, _]) (es := [_, _]) (first := []) (cap := []) (orZ_P blob 56 (by decide)).lc (hL := noHo) (h := ?_)
    first | refine R.field F48_5 (h := ?_) | refine R.fieldAt F48_5 (h := ?_)
    refine R.storeB O9 (h := ?_)
    refine .n0 ?_
    refine .seq ?_
    refine .region rfl ?_
    first | refine R.loadA A48 (h := ?_) | refine R.loadN A48 (h := ?_) | refine R.loadP A48 (h := ?_)
    refine R.storeA A48 (h := ?_)
    refine R.assign (h := ?_)
    refine .n0 ?_
    exact LGo.ret (ret_AT Tryz.results76 A48 hA hmd)
   ·
    subst hc3
    rw [if_neg (by simp)] at e1
    rw [← e1]
    refine .skip ?_
    refine .seq ?_
    refine .region rfl ?_
    first | refine R.loadA A48 (h := ?_) | refine R.loadN A48 (h := ?_) | refine R.loadP A48 (h := ?_)
    refine R.storeA A48 (h := ?_)
    refine R.assign (h := ?_)
    refine .n0 ?_
    exact LGo.ret (ret_AT Tryz.results76 A48 hA hmd)
  ·
   subst hc2
   rw [if_neg (by simp)] at e1
   refine .skip ?_
   refine .seq ?_
   refine .seq ?_
   refine .region rfl ?_
   refine R.move (h := ?_)
   refine .n0 ?_
   refine LGo.ifb (ht := fun hc4 => ?_) (hf := fun hc4 => ?_)
   ·
    subst hc4
    rw [if_pos rfl] at e1
    rw [← e1]
    refine .region rfl ?_
    refine R.move (h := ?_)
    refine R.move (h := ?_)
    refine R.callRd (m := 0) (avs := [_, _]) (es := [_, _]) (first := []) (cap := []) (orZ_P blob 56 (by decide)).lc (hL := noHo) (h := ?_)
    first | refine R.field F48_5 (h := ?_) | refine R.fieldAt F48_5 (h := ?_)
    refine R.storeB O9 (h := ?_)
    refine .n0 ?_
    refine .seq ?_
    refine .region rfl ?_
    first | refine R.loadA A48 (h := ?_) | refine R.loadN A48 (h := ?_) | refine R.loadP A48 (h := ?_)
    refine R.storeA A48 (h := ?_)
    refine R.assign (h := ?_)
    refine .n0 ?_
    exact LGo.ret (ret_AT Tryz.results76 A48 hA hmd)
   ·
    subst hc4
    rw [if_neg (by simp)] at e1
    rw [← e1]
    refine .skip ?_
    refine .seq ?_
    refine .region rfl ?_
    first | refine R.loadA A48 (h := ?_) | refine R.loadN A48 (h := ?_) | refine R.loadP A48 (h := ?_)
    refine R.storeA A48 (h := ?_)
    refine R.assign (h := ?_)
    refine .n0 ?_
    exact LGo.ret (ret_AT Tryz.results76 A48 hA hmd)
def bareCall (c : SrC) : Bool := (((((((((decide (c.kind = 0) && decide (c.owner = 0)) && decide (c.tgt = 0)) && decide (c.session = 0)) && decide (c.ticket = 0)) && decide (c.seat = 0)) && decide (c.sec = 0)) && decide (c.n = 0)) && decide (c.gate = 0)) && decide (c.spoil = 0))
def aloneS (c : SrC) : Int :=
  if (decide (c.kind = 0) && !bareCall c) = true then 2 else
  if (!decide (c.kind = 0) && !decide (c.raw = [])) = true then 2 else
  if 600 < (c.raw.length : Int) then 3 else
  if c.kind = 0 then 0 else
  if (reqS c 1 [] []).2 ≠ 0 then (reqS c 1 [] []).2 else
  if checkQ (reqS c 1 [] []).1 ≠ 0 then checkQ (reqS c 1 [] []).1 else
  if (!inS c.spoil 0 1000) = true then 7 else 0
structure SrC.ok (c : SrC) : Prop where
  kind : R64 c.kind
  owner : 0 ≤ c.owner ∧ c.owner < 4294967296
  tgt : 0 ≤ c.tgt ∧ c.tgt < 4294967296
  session : R64 c.session
  ticket : R64 c.ticket
  seat : R64 c.seat
  sec : R64 c.sec
  n : R64 c.n
  gate : R64 c.gate
  spoil : R64 c.spoil
  raw : c.raw.length ≤ maxLen
theorem orZ_len (s : List UInt8) (n : Nat) : (orZ s n).length ≤ s.length + n := by
  unfold orZ
  split
  · simp [*]
  · omega
theorem rq_ok0 : RqOk default := by
  refine ⟨?_, ?_, ?_, ?_, ?_, ?_, ?_, ?_, ?_, ?_⟩ <;> first | (unfold R64; decide) | decide | exact Nat.zero_le _
theorem reqS_ok {c : SrC} (h : c.ok) {rid : Int} (hi : 0 ≤ rid ∧ rid < 18446744073709551616) {tok blob : List UInt8} (ht : tok.length ≤ 100000) (hb : blob.length ≤ 100000) : RqOk (reqS c rid tok blob).1 := by
  unfold reqS
  split
  · exact rq_ok0
  · have h1 := orZ_len tok 44
    have h2 := orZ_len blob 56
    refine ⟨h.kind, hi, h.owner, h.tgt, ?_, ?_, h.seat, h.sec, h.n, h.gate⟩
    · dsimp only
      split
      · unfold maxLen; omega
      · exact Nat.zero_le _
    · dsimp only
      split
      · unfold maxLen; omega
      · exact Nat.zero_le _
theorem aloneS_P (c : SrC) (h : c.ok) : PC Tryz.prog 75 [.agg (c.c.map LV.sv)] (.i (aloneS c)) := by
 refine ⟨LC.of_go Tryz.func75 (c := _) rfl (by kernel_rfl) (by rw [Tryz.ntmps75]; simp) rfl rfl (by simp [LO.lt, LV.lts, LV.lt, lts_sv]) (by simp) ?_⟩
 intro B hA hmd
 obtain ⟨g, e0⟩ : ∃ g, aloneS c = g := ⟨_, rfl⟩
 have e1 := e0
 unfold aloneS at e1
 rw [e0]
 have hraw := h.raw
 unfold maxLen at hraw
 refine .seq ?_
 refine .region rfl ?_
 refine R.box (h := ?_)
 refine R.assign (h := ?_)
 refine .n0 ?_
 refine .seq ?_
 refine .block ?_
 refine .seq ?_
 refine .seq ?_
 refine .region rfl ?_
 first | refine R.field F40_0 (h := ?_) | refine R.fieldAt F40_0 (h := ?_)
 first | refine R.loadB O3 (h := ?_) | refine R.load1 O3 (h := ?_)
 refine R.bin (run_eql _ _ _ _ _ _) (h := ?_)
 refine R.move (h := ?_)
 first | refine R.loadA A40 (h := ?_) | refine R.loadN A40 (h := ?_) | refine R.loadP A40 (h := ?_)
 first | refine R.field F40_10 (h := ?_) | refine R.fieldAt F40_10 (h := ?_)
 first | refine R.loadB O9 (h := ?_) | refine R.load1 O9 (h := ?_)
 refine R.build BF40 (is := [10]) (xs := [_]) (es := [_]) (ls := [.t c.raw]) (h := ?_)
 refine R.binA (NE40 _ _ _ _ _ _ _ _ _ _ _ _ _ _ _ _ _ _ _ _ _ _ _ _) (h := ?_)
 rw [decide_eq_true (show c.raw = c.raw from rfl), Bool.and_true]
 refine R.and (h := ?_)
 refine R.assign (h := ?_)
 refine .n0 ?_
 refine LGo.ifb (ht := fun hc => ?_) (hf := fun hc => ?_)
 ·
  rw [if_pos (show (decide (c.kind = 0) && !bareCall c) = true from hc)] at e1
  rw [← e1]
  refine .skip ?_
  first | refine LGo.ifd (ht := fun _ => ?_) (hf := fun h => absurd hc h) | refine LGo.ifb (ht := fun _ => ?_) (hf := fun h => by rw [hc] at h; cases h)
  refine .seq ?_
  refine .region rfl ?_
  refine R.assign (h := ?_)
  refine .n0 ?_
  exact LGo.ret (ret_T Tryz.results75 hA hmd)
 ·
  have hcb : (decide (c.kind = 0) && !bareCall c) = false := hc
  rw [if_neg (by rw [hcb]; simp)] at e1
  refine .region rfl ?_
  first | refine R.field F40_0 (h := ?_) | refine R.fieldAt F40_0 (h := ?_)
  first | refine R.loadB O3 (h := ?_) | refine R.load1 O3 (h := ?_)
  refine R.bin (run_neq _ _ _ _ _ _) (h := ?_)
  refine R.move (h := ?_)
  first | refine R.field F40_10 (h := ?_) | refine R.fieldAt F40_10 (h := ?_)
  first | refine R.loadB O9 (h := ?_) | refine R.load1 O9 (h := ?_)
  refine R.bin (run_neqT _ _ _ _ _) (h := ?_)
  refine R.and (h := ?_)
  refine R.assign (h := ?_)
  refine .n0 ?_
  refine LGo.ifb (ht := fun hc3 => ?_) (hf := fun hc3 => ?_)
  ·
   rw [if_pos hc3] at e1
   rw [← e1]
   refine .seq ?_
   refine .region rfl ?_
   refine R.assign (h := ?_)
   refine .n0 ?_
   exact LGo.ret (ret_T Tryz.results75 hA hmd)
  ·
   rw [if_neg (by rw [hc3]; simp)] at e1
   refine .seq ?_
   refine .region rfl ?_
   first | refine R.field F40_10 (h := ?_) | refine R.fieldAt F40_10 (h := ?_)
   first | refine R.loadB O9 (h := ?_) | refine R.load1 O9 (h := ?_)
   refine R.lenT Tryz.runUnderlying9 (h := ?_)
   refine R.bin (run_gtr _ _ _ _ _ _) (h := ?_)
   refine R.assign (h := ?_)
   refine .n0 ?_
   refine LGo.ifd (ht := fun hc4 => ?_) (hf := fun hc4 => ?_)
   ·
    rw [if_pos (by omega)] at e1
    rw [← e1]
    refine .seq ?_
    refine .region rfl ?_
    refine R.assign (h := ?_)
    refine .n0 ?_
    exact LGo.ret (ret_T Tryz.results75 hA hmd)
   ·
    rw [if_neg (by omega)] at e1
    refine .seq ?_
    refine .region rfl ?_
    first | refine R.field F40_0 (h := ?_) | refine R.fieldAt F40_0 (h := ?_)
    first | refine R.loadB O3 (h := ?_) | refine R.load1 O3 (h := ?_)
    refine R.bin (run_eql _ _ _ _ _ _) (h := ?_)
    refine R.assign (h := ?_)
    refine .n0 ?_
    refine LGo.ifd (ht := fun hc5 => ?_) (hf := fun hc5 => ?_)
    ·
     rw [if_pos hc5] at e1
     rw [← e1]
     refine .seq ?_
     refine .region rfl ?_
     refine R.assign (h := ?_)
     refine .n0 ?_
     exact LGo.ret (ret_T Tryz.results75 hA hmd)
    ·
     rw [if_neg hc5] at e1
     refine .skip ?_
     refine .inBlock ?_
     refine .seq ?_
     refine .region rfl ?_
     first | refine R.loadA A40 (h := ?_) | refine R.loadN A40 (h := ?_) | refine R.loadP A40 (h := ?_)
     refine R.callP (es := [_, _, _, _]) (fun _ => reqS_P c 1 [] []) (h := ?_)
     refine R.move (h := ?_)
     refine R.extract (h := ?_)
     refine R.extract (h := ?_)
     refine R.alloc Z48 (h := ?_)
     refine R.storeA A48 (h := ?_)
     refine R.assign (h := ?_)
     refine .n0 ?_
     refine .seq ?_
     refine .seq ?_
     refine .region rfl ?_
     refine R.move (h := ?_)
     refine R.bin (run_neq _ _ _ _ _ _) (h := ?_)
     refine .n0 ?_
     refine LGo.ifb (ht := fun hc6 => ?_) (hf := fun hc6 => ?_)
     ·
      rw [if_pos (by simpa using hc6)] at e1
      rw [← e1]
      refine .seq ?_
      refine .region rfl ?_
      refine R.move (h := ?_)
      refine R.assign (h := ?_)
      refine .n0 ?_
      exact LGo.ret (ret_T Tryz.results75 hA hmd)
     ·
      rw [if_neg (by simpa using hc6)] at e1
      refine .skip ?_
      refine .seq ?_
      refine .seq ?_
      refine .region rfl ?_
      first | refine R.loadA A48 (h := ?_) | refine R.loadN A48 (h := ?_) | refine R.loadP A48 (h := ?_)
      refine R.callP (es := [_]) (fun _ => checkQ_P (reqS c 1 [] []).1 (reqS_ok h (by decide) (Nat.zero_le _) (Nat.zero_le _))) (h := ?_)
      refine R.assign (h := ?_)
      refine .n0 ?_
      refine .seq ?_
      refine .region rfl ?_
      refine R.move (h := ?_)
      refine R.bin (run_neq _ _ _ _ _ _) (h := ?_)
      refine .n0 ?_
      refine LGo.ifb (ht := fun hc7 => ?_) (hf := fun hc7 => ?_)
      ·
       rw [if_pos (by simpa using hc7)] at e1
       rw [← e1]
       refine .seq ?_
       refine .region rfl ?_
       refine R.move (h := ?_)
       refine R.assign (h := ?_)
       refine .n0 ?_
       exact LGo.ret (ret_T Tryz.results75 hA hmd)
      ·
       rw [if_neg (by simpa using hc7)] at e1
       refine .skip ?_
       refine .seq ?_
       refine .seq ?_
       refine .region rfl ?_
       first | refine R.field F40_9 (h := ?_) | refine R.fieldAt F40_9 (h := ?_)
       first | refine R.loadB O3 (h := ?_) | refine R.load1 O3 (h := ?_)
       refine R.callP (es := [_, _, _]) (fun _ => withinS_P c.spoil 0 1000) (h := ?_)
       refine R.not (h := ?_)
       refine .n0 ?_
       refine LGo.ifb (ht := fun hc8 => ?_) (hf := fun hc8 => ?_)
       ·
        rw [if_pos hc8] at e1
        rw [← e1]
        refine .seq ?_
        refine .region rfl ?_
        refine R.assign (h := ?_)
        refine .n0 ?_
        exact LGo.ret (ret_T Tryz.results75 hA hmd)
       ·
        rw [if_neg (by rw [hc8]; simp)] at e1
        rw [← e1]
        refine .skip ?_
        refine .seq ?_
        refine .region rfl ?_
        refine R.assign (h := ?_)
        refine .n0 ?_
        exact LGo.ret (ret_T Tryz.results75 hA hmd)
theorem digitsW_P (n : Int) (h0 : -9223372036854775808 ≤ n) (h1 : n ≤ 9223372036854775807) : PC Tryz.prog 41 [.i n] (.t (Lib.itoa n)) := by
 refine ⟨LC.of_go Tryz.func41 (c := _) rfl (by kernel_rfl) (by rw [Tryz.ntmps41]; simp) rfl rfl (by simp [LO.lt, LV.lts, LV.lt, lts_sv]) (by simp) ?_⟩
 intro B hA hmd
 refine .seq ?_
 refine .region rfl ?_
 refine R.assign (h := ?_)
 refine .n0 ?_
 refine .seq ?_
 refine .region rfl ?_
 refine R.move (h := ?_)
 refine R.callP (es := [_, _]) (fun _ => formatInt_P n h0 h1) (h := ?_)
 refine R.assign (h := ?_)
 refine .n0 ?_
 exact LGo.ret (ret_T Tryz.results41 hA hmd)
def partT (w : List UInt8) (i : Int) : List UInt8 := w ++ [32] ++ Lib.itoa i
theorem itoa_22 {n : Int} (h : R64 n) : (Lib.itoa n).length ≤ 22 := by
  unfold R64 at h
  unfold Lib.itoa
  split
  · have := decD_le 20 n.natAbs (by omega)
    simp only [List.length_cons]; omega
  · have := decD_le 20 n.toNat (by omega)
    omega
theorem part_P (w : List UInt8) (hw : w.length ≤ 1000) (i : Int) (hi : R64 i) : PC Tryz.prog 94 [.t w, .i i] (.t (partT w i)) := by
 refine ⟨LC.of_go Tryz.func94 (c := _) rfl (by kernel_rfl) (by rw [Tryz.ntmps94]; simp) rfl rfl (by simp [LO.lt, LV.lts, LV.lt, lts_sv]) (by simp) ?_⟩
 intro B hA hmd
 have hit := itoa_22 hi
 refine .seq ?_
 refine .region rfl ?_
 refine R.assign (h := ?_)
 refine .n0 ?_
 refine .seq ?_
 refine .region rfl ?_
 refine R.move (h := ?_)
 refine R.bin (run_addT _ _ _ w [32] (by simp; omega)) (h := ?_)
 refine R.move (h := ?_)
 refine R.callP (es := [_]) (fun _ => digitsW_P i (by unfold R64 at hi; omega) (by unfold R64 at hi; omega)) (h := ?_)
 refine R.bin (run_addT _ _ _ (w ++ [32]) (Lib.itoa i) (by simp; omega)) (h := ?_)
 refine R.assign (h := ?_)
 refine .n0 ?_
 exact LGo.ret (ret_T Tryz.results94 hA hmd)
def callE (n : Int) (c : SrC) : Int := if (decide (aloneS c = 0) && !(inS c.session 0 n && inS c.ticket 0 n)) = true then 4 else aloneS c
def callGo (n : Int) : Nat → List SrC → List UInt8 × Int
  | _, [] => ([], 0)
  | k, c :: r => if callE n c ≠ 0 then (partT [99, 97, 108, 108] k, callE n c) else callGo n (k + 1) r
def baseS (s : Sc) : List UInt8 × Int :=
  if (checkVen s.ven).2 ≠ 0 then ([118, 101, 110, 117, 101], (checkVen s.ven).2) else
  if (decide ((s.key.length : Int) < 1) || decide ((s.key.length : Int) > 64)) = true then ([107, 101, 121], 2) else
  if (newS s.gates).2 ≠ 0 then ([103, 97, 116, 101, 115], (newS s.gates).2) else
  if (!inS s.workers 1 8) = true then ([119, 111, 114, 107, 101, 114, 115], 7) else
  if 60 < (s.calls.length : Int) then ([99, 97, 108, 108, 115], 3) else callGo s.calls.length 0 s.calls
/-- scripts that are not too great -/
structure Sc.sm (s : Sc) : Prop where
  ven : SmV s.ven
  gl : s.gates.length ≤ 100000
  gs : ∀ g ∈ s.gates, g.secs.length ≤ 100000
  key : s.key.length ≤ maxLen
  cl : s.calls.length ≤ maxLen
  cs : ∀ c ∈ s.calls, c.ok
  el : s.evs.length ≤ maxLen
theorem base_L (s : Sc) (hs : s.sm) : LC Tryz.prog 93 1 [.ptr 0 0] [(0, .box 29 (s.c.map LV.sv))] (.tup [.t (baseS s).1, .i (baseS s).2]) [(0, .box 29 (s.c.map LV.sv))] 0 := by
 refine LC.of_go Tryz.func93 (c := _) rfl (by kernel_rfl) (by rw [Tryz.ntmps93]; simp) rfl rfl (by simp [LO.lt, LV.lts, LV.lt, lts_sv]) (by simp) ?_
 intro B hA hmd
 obtain ⟨g, e0⟩ : ∃ g, baseS s = g := ⟨_, rfl⟩
 have e1 := e0
 unfold baseS at e1
 rw [e0]
 have hkl := hs.key
 have hcl := hs.cl
 unfold maxLen at hkl hcl
 refine .seq ?_
 refine .region rfl ?_
 refine R.assign (h := ?_)
 refine R.assign (h := ?_)
 refine .n0 ?_
 refine .seq ?_
 refine .seq ?_
 refine .region rfl ?_
 refine R.move (h := ?_)
 refine R.nilCheck (h := ?_)
 first | refine R.field F29_0 (h := ?_) | refine R.fieldAt F29_0 (h := ?_)
 first | refine R.loadA A24 (h := ?_) | refine R.loadN A24 (h := ?_) | refine R.loadP A24 (h := ?_)
 refine R.callP (es := [_]) (fun _ => checkVen_P s.ven hs.ven) (h := ?_)
 refine R.move (h := ?_)
 refine R.extract (h := ?_)
 refine R.extract (h := ?_)
 refine R.assign (h := ?_)
 refine R.assign (h := ?_)
 refine .n0 ?_
 refine .seq ?_
 refine .region rfl ?_
 refine R.move (h := ?_)
 refine R.bin (run_neq _ _ _ _ _ _) (h := ?_)
 refine .n0 ?_
 refine LGo.ifb (ht := fun hc => ?_) (hf := fun hc => ?_)
 ·
  rw [if_pos (by simpa using hc)] at e1
  rw [← e1]
  refine .seq ?_
  refine .region rfl ?_
  refine R.move (h := ?_)
  refine R.assign (h := ?_)
  refine R.assign (h := ?_)
  refine .n0 ?_
  exact LGo.ret (ret_TT Tryz.results93 hA hmd)
 ·
  rw [if_neg (by simpa using hc)] at e1
  refine .skip ?_
  refine .seq ?_
  refine .seq ?_
  refine .region rfl ?_
  refine R.move (h := ?_)
  refine R.nilCheck (h := ?_)
  first | refine R.field F29_1 (h := ?_) | refine R.fieldAt F29_1 (h := ?_)
  first | refine R.loadB O9 (h := ?_) | refine R.load1 O9 (h := ?_)
  refine R.lenT Tryz.runUnderlying9 (h := ?_)
  refine R.bin (run_lss _ _ _ _ _ _) (h := ?_)
  refine R.move (h := ?_)
  refine R.move (h := ?_)
  refine R.nilCheck (h := ?_)
  first | refine R.field F29_1 (h := ?_) | refine R.fieldAt F29_1 (h := ?_)
  first | refine R.loadB O9 (h := ?_) | refine R.load1 O9 (h := ?_)
  refine R.lenT Tryz.runUnderlying9 (h := ?_)
  refine R.bin (run_gtr _ _ _ _ _ _) (h := ?_)
  refine R.or (h := ?_)
  refine .n0 ?_
  refine LGo.ifb (ht := fun hc2 => ?_) (hf := fun hc2 => ?_)
  ·
   rw [if_pos hc2] at e1
   rw [← e1]
   refine .seq ?_
   refine .region rfl ?_
   refine R.assign (h := ?_)
   refine R.assign (h := ?_)
   refine .n0 ?_
   exact LGo.ret (ret_TT Tryz.results93 hA hmd)
  ·
   rw [if_neg (by rw [hc2]; simp)] at e1
   refine .skip ?_
   refine .seq ?_
   refine .seq ?_
   refine .region rfl ?_
   refine R.move (h := ?_)
   refine R.nilCheck (h := ?_)
   first | refine R.field F29_2 (h := ?_) | refine R.fieldAt F29_2 (h := ?_)
   first | refine R.loadB O25 (h := ?_) | refine R.load1 O25 (h := ?_)
   refine R.callP (es := [_]) (fun _ => newS_P s.gates hs.gl hs.gs) (h := ?_)
   refine R.move (h := ?_)
   refine R.extract (h := ?_)
   refine R.extract (h := ?_)
   refine R.alloc Z99 (h := ?_)
   refine R.storeA A99 (h := ?_)
   refine R.assign (h := ?_)
   refine .n0 ?_
   refine .seq ?_
   refine .region rfl ?_
   refine R.move (h := ?_)
   refine R.bin (run_neq _ _ _ _ _ _) (h := ?_)
   refine .n0 ?_
   refine LGo.ifb (ht := fun hc3 => ?_) (hf := fun hc3 => ?_)
   ·
    rw [if_pos (by simpa using hc3)] at e1
    rw [← e1]
    refine .seq ?_
    refine .region rfl ?_
    refine R.move (h := ?_)
    refine R.assign (h := ?_)
    refine R.assign (h := ?_)
    refine .n0 ?_
    exact LGo.ret (ret_TT Tryz.results93 hA hmd)
   ·
    rw [if_neg (by simpa using hc3)] at e1
    refine .skip ?_
    refine .seq ?_
    refine .seq ?_
    refine .region rfl ?_
    refine R.move (h := ?_)
    refine R.nilCheck (h := ?_)
    first | refine R.field F29_3 (h := ?_) | refine R.fieldAt F29_3 (h := ?_)
    first | refine R.loadB O3 (h := ?_) | refine R.load1 O3 (h := ?_)
    refine R.callP (es := [_, _, _]) (fun _ => withinS_P s.workers 1 8) (h := ?_)
    refine R.not (h := ?_)
    refine .n0 ?_
    refine LGo.ifb (ht := fun hc4 => ?_) (hf := fun hc4 => ?_)
    ·
     rw [if_pos hc4] at e1
     rw [← e1]
     refine .seq ?_
     refine .region rfl ?_
     refine R.assign (h := ?_)
     refine R.assign (h := ?_)
     refine .n0 ?_
     exact LGo.ret (ret_TT Tryz.results93 hA hmd)
    ·
     rw [if_neg (by rw [hc4]; simp)] at e1
     refine .skip ?_
     refine .seq ?_
     refine .seq ?_
     refine .region rfl ?_
     refine R.move (h := ?_)
     refine R.nilCheck (h := ?_)
     first | refine R.field F29_4 (h := ?_) | refine R.fieldAt F29_4 (h := ?_)
     first | refine R.loadB O26 (h := ?_) | refine R.load1 O26 (h := ?_)
     first | refine R.len S26 (h := ?_) | refine R.lenRs S26 (h := ?_) | refine R.lenV (run_lenNil S26) (h := ?_)
     rw [List.length_map]
     refine R.bin (run_gtr _ _ _ _ _ _) (h := ?_)
     refine .n0 ?_
     refine LGo.ifd (ht := fun hc5 => ?_) (hf := fun hc5 => ?_)
     ·
      rw [if_pos (by omega)] at e1
      rw [← e1]
      refine .seq ?_
      refine .region rfl ?_
      refine R.assign (h := ?_)
      refine R.assign (h := ?_)
      refine .n0 ?_
      exact LGo.ret (ret_TT Tryz.results93 hA hmd)
     ·
      rw [if_neg (by omega)] at e1
      refine .skip ?_
      refine .seq ?_
      refine .region rfl ?_
      refine R.move (h := ?_)
      refine R.nilCheck (h := ?_)
      first | refine R.field F29_4 (h := ?_) | refine R.fieldAt F29_4 (h := ?_)
      first | refine R.loadB O26 (h := ?_) | refine R.load1 O26 (h := ?_)
      first | refine R.len S26 (h := ?_) | refine R.lenRs S26 (h := ?_) | refine R.lenV (run_lenNil S26) (h := ?_)
      rw [List.length_map]
      refine R.assign (h := ?_)
      refine .n0 ?_
      refine .seq ?_
      refine .seq ?_
      refine .region rfl ?_
      refine R.move (h := ?_)
      refine R.nilCheck (h := ?_)
      first | refine R.field F29_4 (h := ?_) | refine R.fieldAt F29_4 (h := ?_)
      first | refine R.loadB O26 (h := ?_) | refine R.load1 O26 (h := ?_)
      first | refine R.len S26 (h := ?_) | refine R.lenRs S26 (h := ?_) | refine R.lenV (run_lenNil S26) (h := ?_)
      rw [List.length_map]
      refine R.move (h := ?_)
      refine .n0 ?_
      refine .block ?_
      refine .loop ?_
      refine LGo.loopG (σ := Nat) (fun x => x ≤ s.calls.length ∧ callGo s.calls.length x (s.calls.drop x) = g) (fun x => [(70, (true, .i (x : Nat)))]) (fun x => [(0, .box 29 (s.c.map LV.sv))]) (fun x => s.calls.length - x) (0) [(8, _), (68, _), (69, _)] ⟨Nat.zero_le _, e1⟩ (by repeat (first | exact trivial | refine ⟨rfl, ?_⟩)) (by repeat (first | exact trivial | refine ⟨rfl, ?_⟩)) (by repeat (first | exact trivial | refine ⟨rfl, ?_⟩)) ?_
      rintro k ⟨hk, hq⟩ ih
      refine .seq ?_
      refine .region rfl ?_
      refine R.bin (run_lss _ _ _ _ _ _) (h := ?_)
      refine .n0 ?_
      refine .seq ?_
      refine LGo.ifd (ht := fun hc6 => ?_) (hf := fun hc6 => ?_)
      ·
       have hlt : k < s.calls.length := by omega
       have hx : (s.calls.map SrC.c)[((k : Nat) : Int).toNat]? = some s.calls[k].c := by simp [hlt]
       have hd : s.calls.drop k = s.calls[k] :: s.calls.drop (k + 1) := List.drop_eq_getElem_cons hlt
       rw [hd, callGo] at hq
       have hzo := hs.cs _ (List.getElem_mem hlt)
       generalize s.calls[k] = z at hx hq hzo
       clear hd
       refine .skip ?_
       refine .seq ?_
       refine .block ?_
       refine .seq ?_
       refine .region rfl ?_
       refine R.move (h := ?_)
       refine R.index I26 (hj := fun hg => ⟨by omega, hx⟩) (h := ?_)
       first | refine R.loadA A40 (h := ?_) | refine R.loadN A40 (h := ?_) | refine R.loadP A40 (h := ?_)
       refine R.alloc Z40 (h := ?_)
       refine R.assign (h := ?_)
       refine R.storeA A40 (h := ?_)
       refine .n0 ?_
       refine .seq ?_
       refine .region rfl ?_
       first | refine R.loadA A40 (h := ?_) | refine R.loadN A40 (h := ?_) | refine R.loadP A40 (h := ?_)
       refine R.callP (es := [_]) (fun _ => aloneS_P z hzo) (h := ?_)
       refine R.assign (h := ?_)
       refine .n0 ?_
       refine .seq ?_
       refine .seq ?_
       refine .region rfl ?_
       refine R.move (h := ?_)
       refine R.bin (run_eql _ _ _ _ _ _) (h := ?_)
       refine R.move (h := ?_)
       first | refine R.field F40_3 (h := ?_) | refine R.fieldAt F40_3 (h := ?_)
       first | refine R.loadB O3 (h := ?_) | refine R.load1 O3 (h := ?_)
       refine R.move (h := ?_)
       refine R.callP (es := [_, _, _]) (fun _ => withinS_P z.session 0 s.calls.length) (h := ?_)
       refine R.move (h := ?_)
       first | refine R.field F40_4 (h := ?_) | refine R.fieldAt F40_4 (h := ?_)
       first | refine R.loadB O3 (h := ?_) | refine R.load1 O3 (h := ?_)
       refine R.move (h := ?_)
       refine R.callP (es := [_, _, _]) (fun _ => withinS_P z.ticket 0 s.calls.length) (h := ?_)
       refine R.and (h := ?_)
       refine R.not (h := ?_)
       refine R.and (h := ?_)
       refine .n0 ?_
       refine LGo.ifb (ht := fun hc7 => ?_) (hf := fun hc7 => ?_)
       ·
        have hv : callE s.calls.length z = 4 := if_pos hc7
        rw [hv, if_pos (by decide)] at hq
        rw [← hq]
        refine .region rfl ?_
        refine R.assign (h := ?_)
        refine .n0 ?_
        refine .seq ?_
        refine .region rfl ?_
        refine R.move (h := ?_)
        refine R.bin (run_neq _ _ _ _ _ _) (h := ?_)
        refine .n0 ?_
        refine LGo.ifb (ht := fun hc8 => ?_) (hf := fun hc8 => by simp at hc8)
        refine .seq ?_
        refine .region rfl ?_
        refine R.move (h := ?_)
        refine R.callP (es := [_, _]) (fun _ => part_P [99, 97, 108, 108] (by decide) k (by unfold R64; omega)) (h := ?_)
        refine R.move (h := ?_)
        refine R.assign (h := ?_)
        refine R.assign (h := ?_)
        refine .n0 ?_
        exact LGo.ret (ret_TT Tryz.results93 hA hmd)
       ·
        have hv : callE s.calls.length z = aloneS z := if_neg (by rw [hc7]; simp)
        rw [hv] at hq
        refine .skip ?_
        refine .seq ?_
        refine .region rfl ?_
        refine R.move (h := ?_)
        refine R.bin (run_neq _ _ _ _ _ _) (h := ?_)
        refine .n0 ?_
        refine LGo.ifb (ht := fun hc9 => ?_) (hf := fun hc9 => ?_)
        ·
         rw [if_pos (by simpa using hc9)] at hq
         rw [← hq]
         refine .seq ?_
         refine .region rfl ?_
         refine R.move (h := ?_)
         refine R.callP (es := [_, _]) (fun _ => part_P [99, 97, 108, 108] (by decide) k (by unfold R64; omega)) (h := ?_)
         refine R.move (h := ?_)
         refine R.assign (h := ?_)
         refine R.assign (h := ?_)
         refine .n0 ?_
         exact LGo.ret (ret_TT Tryz.results93 hA hmd)
        ·
         rw [if_neg (by simpa using hc9)] at hq
         refine .skip ?_
         refine .inBlock ?_
         refine .region rfl ?_
         first | refine R.add (h := ?_) | refine R.addW (h := ?_)
         refine R.move (h := ?_)
         refine .n0 ?_
         refine .inLoop ?_
         exact LGo.next _ (fun o h => by have := (hA o).1 h; omega) (by omega) (ih (k + 1) ⟨by omega, hq⟩ (by omega)) (by repeat (first | exact trivial | refine ⟨rfl, ?_⟩)) ⟨rfl, trivial⟩
      ·
       rw [List.drop_eq_nil_of_le (show s.calls.length ≤ k by omega), callGo] at hq
       rw [← hq]
       refine .exit rfl ?_
       refine .seq ?_
       refine .region rfl ?_
       refine R.assign (h := ?_)
       refine R.assign (h := ?_)
       refine .n0 ?_
       exact LGo.ret (ret_TT Tryz.results93 hA hmd)
def numE (lo hi : Int) (x : SrE) : Int := if x.b ≠ 0 then 2 else if (!inS x.a lo hi) = true then 7 else 0
def sendE (s : Sc) (x : SrE) : Int := if (!inS x.a 0 ((s.calls.length : Int) - 1)) = true then 4 else if (!inS x.b 1 s.workers) = true then 7 else 0
theorem numE_L (s : Sc) (lo hi : Int) (x : SrE) : LC Tryz.prog 118 3 [.ptr 0 0, .agg (x.c.map LV.sv), .ptr 1 0, .ptr 2 0] [(0, .box 29 (s.c.map LV.sv)), (1, .box 2 [.i lo]), (2, .box 2 [.i hi])] (.i (numE lo hi x)) [(0, .box 29 (s.c.map LV.sv)), (1, .box 2 [.i lo]), (2, .box 2 [.i hi])] 0 := by
 refine LC.of_go Tryz.func118 (c := _) rfl (by kernel_rfl) (by rw [Tryz.ntmps118]; simp) rfl rfl (by simp [LO.lt, LV.lts, LV.lt, lts_sv]) (by simp) ?_
 intro B hA hmd
 obtain ⟨g, e0⟩ : ∃ g, numE lo hi x = g := ⟨_, rfl⟩
 have e1 := e0
 unfold numE at e1
 rw [e0]
 refine .seq ?_
 refine .region rfl ?_
 refine R.box (h := ?_)
 refine R.assign (h := ?_)
 refine .n0 ?_
 refine .seq ?_
 refine .seq ?_
 refine .region rfl ?_
 first | refine R.field F58_2 (h := ?_) | refine R.fieldAt F58_2 (h := ?_)
 first | refine R.loadB O2 (h := ?_) | refine R.load1 O2 (h := ?_)
 refine R.bin (run_neq _ _ _ _ _ _) (h := ?_)
 refine .n0 ?_
 refine LGo.ifb (ht := fun hc => ?_) (hf := fun hc => ?_)
 ·
  rw [if_pos (by simpa using hc)] at e1
  rw [← e1]
  refine .seq ?_
  refine .region rfl ?_
  refine R.assign (h := ?_)
  refine .n0 ?_
  exact LGo.ret (ret_T Tryz.results118 hA hmd)
 ·
  rw [if_neg (by simpa using hc)] at e1
  refine .skip ?_
  refine .seq ?_
  refine .seq ?_
  refine .region rfl ?_
  first | refine R.field F58_1 (h := ?_) | refine R.fieldAt F58_1 (h := ?_)
  first | refine R.loadB O2 (h := ?_) | refine R.load1 O2 (h := ?_)
  first | refine R.loadB O2 (h := ?_) | refine R.load1 O2 (h := ?_)
  first | refine R.loadB O2 (h := ?_) | refine R.load1 O2 (h := ?_)
  refine R.callP (es := [_, _, _]) (fun _ => withinS_P x.a lo hi) (h := ?_)
  refine R.not (h := ?_)
  refine .n0 ?_
  refine LGo.ifb (ht := fun hc2 => ?_) (hf := fun hc2 => ?_)
  ·
   rw [if_pos hc2] at e1
   rw [← e1]
   refine .seq ?_
   refine .region rfl ?_
   refine R.assign (h := ?_)
   refine .n0 ?_
   exact LGo.ret (ret_T Tryz.results118 hA hmd)
  ·
   rw [if_neg (by rw [hc2]; simp)] at e1
   rw [← e1]
   refine .skip ?_
   refine .seq ?_
   refine .region rfl ?_
   refine R.assign (h := ?_)
   refine .n0 ?_
   exact LGo.ret (ret_T Tryz.results118 hA hmd)
theorem sendE_L (s : Sc) (hs : s.sm) (x : SrE) : LC Tryz.prog 120 1 [.ptr 0 0, .agg (x.c.map LV.sv)] [(0, .box 29 (s.c.map LV.sv))] (.i (sendE s x)) [(0, .box 29 (s.c.map LV.sv))] 0 := by
 refine LC.of_go Tryz.func120 (c := _) rfl (by kernel_rfl) (by rw [Tryz.ntmps120]; simp) rfl rfl (by simp [LO.lt, LV.lts, LV.lt, lts_sv]) (by simp) ?_
 intro B hA hmd
 obtain ⟨g, e0⟩ : ∃ g, sendE s x = g := ⟨_, rfl⟩
 have e1 := e0
 unfold sendE at e1
 rw [e0]
 have hcl := hs.cl
 unfold maxLen at hcl
 refine .seq ?_
 refine .region rfl ?_
 refine R.box (h := ?_)
 refine R.assign (h := ?_)
 refine .n0 ?_
 refine .seq ?_
 refine .seq ?_
 refine .region rfl ?_
 first | refine R.field F58_1 (h := ?_) | refine R.fieldAt F58_1 (h := ?_)
 first | refine R.loadB O2 (h := ?_) | refine R.load1 O2 (h := ?_)
 refine R.move (h := ?_)
 refine R.nilCheck (h := ?_)
 first | refine R.field F29_4 (h := ?_) | refine R.fieldAt F29_4 (h := ?_)
 first | refine R.loadB O26 (h := ?_) | refine R.load1 O26 (h := ?_)
 first | refine R.len S26 (h := ?_) | refine R.lenRs S26 (h := ?_) | refine R.lenV (run_lenNil S26) (h := ?_)
 rw [List.length_map]
 first | refine R.sub (h := ?_) | refine R.subW (h := ?_)
 refine R.callP (es := [_, _, _]) (fun _ => withinS_P x.a 0 ((s.calls.length : Int) - 1)) (h := ?_)
 refine R.not (h := ?_)
 refine Reg.nil ⟨fun _ => ⟨mixedO, by rfl, by rfl⟩, ?_⟩
 refine LGo.ifb (ht := fun hc => ?_) (hf := fun hc => ?_)
 ·
  rw [if_pos hc] at e1
  rw [← e1]
  refine .seq ?_
  refine .region rfl ?_
  refine R.assign (h := ?_)
  refine .n0 ?_
  exact LGo.ret (ret_T Tryz.results120 hA hmd)
 ·
  rw [if_neg (by rw [hc]; simp)] at e1
  refine .skip ?_
  refine .seq ?_
  refine .seq ?_
  refine .region rfl ?_
  first | refine R.field F58_2 (h := ?_) | refine R.fieldAt F58_2 (h := ?_)
  first | refine R.loadB O2 (h := ?_) | refine R.load1 O2 (h := ?_)
  refine R.move (h := ?_)
  refine R.nilCheck (h := ?_)
  first | refine R.field F29_3 (h := ?_) | refine R.fieldAt F29_3 (h := ?_)
  first | refine R.loadB O3 (h := ?_) | refine R.load1 O3 (h := ?_)
  refine R.callP (es := [_, _, _]) (fun _ => withinS_P x.b 1 s.workers) (h := ?_)
  refine R.not (h := ?_)
  refine Reg.nil ⟨fun _ => ⟨mixedO, by rfl, by rfl⟩, ?_⟩
  refine LGo.ifb (ht := fun hc2 => ?_) (hf := fun hc2 => ?_)
  ·
   rw [if_pos hc2] at e1
   rw [← e1]
   refine .seq ?_
   refine .region rfl ?_
   refine R.assign (h := ?_)
   refine .n0 ?_
   exact LGo.ret (ret_T Tryz.results120 hA hmd)
  ·
   rw [if_neg (by rw [hc2]; simp)] at e1
   rw [← e1]
   refine .skip ?_
   refine .seq ?_
   refine .region rfl ?_
   refine R.assign (h := ?_)
   refine .n0 ?_
   exact LGo.ret (ret_T Tryz.results120 hA hmd)
theorem kind1_L (w : List UInt8) (lo hi : Int) : LC Tryz.prog 117 0 [.t w, .i lo, .i hi] [] (.agg [.t w, .i lo, .i hi, .i 1, .fn (.func 118) [] [.ptr 0 0, .ptr 1 0]]) [(0, .box 2 [.i lo]), (1, .box 2 [.i hi])] 2 := by
 refine LC.of_go Tryz.func117 (c := _) rfl (by kernel_rfl) (by rw [Tryz.ntmps117]; simp) rfl rfl (by simp [LO.lt, LV.lts, LV.lt, lts_sv]) (by simp) ?_
 intro B hA hmd
 refine .seq ?_
 refine .region rfl ?_
 refine R.box (h := ?_)
 refine R.box (h := ?_)
 refine R.alloc Z110 (h := ?_)
 refine .n0 ?_
 refine .seq ?_
 refine .region rfl ?_
 refine R.move (h := ?_)
 first | refine R.loadB O2 (h := ?_) | refine R.load1 O2 (h := ?_)
 first | refine R.loadB O2 (h := ?_) | refine R.load1 O2 (h := ?_)
 refine R.makeFunc (es := []) (fs := [_, _]) (h := ?_)
 refine R.build BF110 (is := [0, 1, 2, 3, 4]) (xs := [_, _, _, _, _]) (es := [_, _, _, _, _]) (h := ?_)
 refine R.storeA A110 (h := ?_)
 refine .n0 ?_
 exact LGo.ret (ret_A Tryz.results117 A110 hA hmd)
theorem kinds_L : LC Tryz.prog 52 0 [] [] (.sub 0 0 5 5) [(0, .box 110 [.t [], .i 0, .i 0, .i 0, .v .nilFunc, .t [115, 101, 110, 100], .i 0, .i 0, .i 2, .fn (.func 120) [] [], .t [112, 105, 99, 107], .i 0, .i 1000000, .i 1, .fn (.func 118) [] [.ptr 1 0, .ptr 2 0], .t [102, 97, 105, 114], .i 1, .i 1000, .i 1, .fn (.func 118) [] [.ptr 3 0, .ptr 4 0], .t [116, 105, 99, 107], .i 1, .i 1000000000, .i 1, .fn (.func 118) [] [.ptr 5 0, .ptr 6 0]]), (1, .box 2 [.i 0]), (2, .box 2 [.i 1000000]), (3, .box 2 [.i 1]), (4, .box 2 [.i 1000]), (5, .box 2 [.i 1]), (6, .box 2 [.i 1000000000])] 7 := by
 refine LC.of_go Tryz.func52 (c := _) rfl (by kernel_rfl) (by rw [Tryz.ntmps52]; simp) rfl rfl (by simp [LO.lt, LV.lts, LV.lt, lts_sv]) (by simp) ?_
 intro B hA hmd
 refine .seq ?_
 refine .region rfl ?_
 refine R.assign (h := ?_)
 refine .n0 ?_
 refine .seq ?_
 refine .region rfl ?_
 refine R.assign (h := ?_)
 refine .n0 ?_
 refine .seq ?_
 refine .region rfl ?_
 refine R.build BF110 (is := []) (xs := []) (es := []) (h := ?_)
 refine R.build BF110 (is := [0, 1, 2, 3, 4]) (xs := [_, _, _, _, _]) (es := [_, _, _, _, _]) (h := ?_)
 refine R.move (h := ?_)
 refine R.callX (es := [_, _, _]) (first := []) (cap := []) [] (kind1_L [112, 105, 99, 107] 0 1000000) (h := ?_)
 refine R.move (h := ?_)
 refine R.callX (es := [_, _, _]) (first := []) (cap := []) [] (kind1_L [102, 97, 105, 114] 1 1000) (h := ?_)
 refine R.move (h := ?_)
 refine R.callX (es := [_, _, _]) (first := []) (cap := []) [] (kind1_L [116, 105, 99, 107] 1 1000000000) (h := ?_)
 refine R.buildSliceSub AP106 (xs := [_, _, _, _, _]) (es := [_, _, _, _, _]) (hcs := CellsOfs.cons (CellsOf.agg rfl) (CellsOfs.cons (CellsOf.agg rfl) (CellsOfs.cons (CellsOf.agg rfl) (CellsOfs.cons (CellsOf.agg rfl) (CellsOfs.cons (CellsOf.agg rfl) (CellsOfs.nil)))))) (h := ?_)
 refine R.assign (h := ?_)
 refine .n0 ?_
 exact LGo.ret (FnPost.finI [6, 0, 1, 2, 3, 4, 5] (res_T Tryz.results52) hA hmd)
def encI (n : Int) : Value := .int .i64 n
theorem keyI : KeyF Tryz.prog 2 encI := KeyF.plain Tryz.underlying2 (fun a b => by simp only [encI, Instr.sameNow]; congr 1) (fun b a w => by
    have h : ∀ d, (Instr.checkKey b (d + 1) 2 (encI a)).run Tryz.prog w = .ok () w := fun d => by simp [encI, Instr.checkKey, run_underlying Tryz.underlying2]
    exact h 9999) (fun a => by
    have h : ∀ d, Instr.sameBits (d + 1) (encI a) (encI a) = true := fun d => by simp [encI, Instr.sameBits]
    exact h 9999)
def mB (ks : List Int) : List (Int × Value) := ks.map fun k => (k, .bool true)
def addK (a : Int) (ks : List Int) : List Int := if ks.contains a = true then ks else ks ++ [a]
theorem getM_B (a : Int) : ∀ ks : List Int, (getM a (mB ks)).getD (.bool false) = .bool (ks.contains a)
  | [] => rfl
  | k :: ks => by
    have ih := getM_B a ks
    unfold mB at ih ⊢
    rw [List.map_cons, getM, List.contains_cons]
    by_cases h : a = k
    · rw [if_pos h]; simp [h]
    · rw [if_neg h, ih]; simp [h]
theorem putM_B (a : Int) : ∀ ks : List Int, putM a (.bool true) (mB ks) = mB (addK a ks)
  | [] => rfl
  | k :: ks => by
    have ih := putM_B a ks
    unfold mB addK at ih ⊢
    rw [List.map_cons, putM, List.contains_cons]
    by_cases h : a = k
    · rw [if_pos h]; simp [h]
    · rw [if_neg h, ih]
      have : (a == k) = false := by simp [h]
      rw [this, Bool.false_or]
      split <;> simp
def evE (s : Sc) (x : SrE) : Int := if x.kind = 1 then sendE s x else if x.kind = 2 then numE 0 1000000 x else if x.kind = 3 then numE 1 1000 x else if x.kind = 4 then numE 1 1000000000 x else 2
def evT (s : Sc) (ks : List Int) (x : SrE) : Int := if ((decide (evE s x = 0) && decide (x.kind = 1)) && ks.contains x.a) = true then 8 else evE s x
def chkGo (s : Sc) : Nat → List Int → List SrE → List UInt8 × Int
  | _, _, [] => ([], 0)
  | k, ks, x :: r => if evT s ks x ≠ 0 then (partT [101, 118, 101, 110, 116] k, evT s ks x) else chkGo s (k + 1) (if x.kind = 1 then addK x.a ks else ks) r
def checkS (s : Sc) : List UInt8 × Int := if (baseS s).2 ≠ 0 then baseS s else if 1000 < (s.evs.length : Int) then ([101, 118, 101, 110, 116, 115], 3) else chkGo s 0 [] s.evs
theorem checkS_P (s : Sc) (hs : s.sm) : PC Tryz.prog 27 [.agg (s.c.map LV.sv)] (.tup [.t (checkS s).1, .i (checkS s).2]) := by
 refine ⟨LC.of_go Tryz.func27 (c := _) rfl (by kernel_rfl) (by rw [Tryz.ntmps27]; simp) rfl rfl (by simp [LO.lt, LV.lts, LV.lt, lts_sv]) (by simp) ?_⟩
 intro B hA hmd
 obtain ⟨g, e0⟩ : ∃ g, checkS s = g := ⟨_, rfl⟩
 have e1 := e0
 unfold checkS at e1
 rw [e0]
 have hel := hs.el
 unfold maxLen at hel
 refine .seq ?_
 refine .region rfl ?_
 refine R.box (h := ?_)
 refine R.assign (h := ?_)
 refine R.assign (h := ?_)
 refine .n0 ?_
 refine .seq ?_
 refine .seq ?_
 refine .region rfl ?_
 refine R.callX (es := [_]) [0] (base_L s hs) (h := ?_)
 refine R.move (h := ?_)
 refine R.extract (h := ?_)
 refine R.extract (h := ?_)
 refine R.assign (h := ?_)
 refine R.assign (h := ?_)
 refine .n0 ?_
 refine .seq ?_
 refine .region rfl ?_
 refine R.move (h := ?_)
 refine R.bin (run_neq _ _ _ _ _ _) (h := ?_)
 refine .n0 ?_
 refine LGo.ifb (ht := fun hc => ?_) (hf := fun hc => ?_)
 ·
  rw [if_pos (by simpa using hc)] at e1
  rw [← e1]
  refine .seq ?_
  refine .region rfl ?_
  refine R.move (h := ?_)
  refine R.move (h := ?_)
  refine R.assign (h := ?_)
  refine R.assign (h := ?_)
  refine .n0 ?_
  exact LGo.ret (ret_TT Tryz.results27 hA hmd)
 ·
  rw [if_neg (by simpa using hc)] at e1
  refine .skip ?_
  refine .seq ?_
  refine .seq ?_
  refine .region rfl ?_
  first | refine R.field F29_5 (h := ?_) | refine R.fieldAt F29_5 (h := ?_)
  first | refine R.loadB O27 (h := ?_) | refine R.load1 O27 (h := ?_)
  first | refine R.len S27 (h := ?_) | refine R.lenRs S27 (h := ?_) | refine R.lenV (run_lenNil S27) (h := ?_)
  rw [List.length_map]
  refine R.bin (run_gtr _ _ _ _ _ _) (h := ?_)
  refine .n0 ?_
  refine LGo.ifd (ht := fun hc2 => ?_) (hf := fun hc2 => ?_)
  ·
   rw [if_pos (by omega)] at e1
   rw [← e1]
   refine .seq ?_
   refine .region rfl ?_
   refine R.assign (h := ?_)
   refine R.assign (h := ?_)
   refine .n0 ?_
   exact LGo.ret (ret_TT Tryz.results27 hA hmd)
  ·
   rw [if_neg (by omega)] at e1
   refine .skip ?_
   refine .seq ?_
   refine .region rfl ?_
   refine R.callX (es := []) [] kinds_L (h := ?_)
   refine R.assign (h := ?_)
   refine .n0 ?_
   refine .seq ?_
   refine .region rfl ?_
   refine R.makeMap encI (h := ?_)
   refine R.assign (h := ?_)
   refine .n0 ?_
   refine .seq ?_
   refine .seq ?_
   refine .region rfl ?_
   first | refine R.field F29_5 (h := ?_) | refine R.fieldAt F29_5 (h := ?_)
   first | refine R.loadB O27 (h := ?_) | refine R.load1 O27 (h := ?_)
   first | refine R.len S27 (h := ?_) | refine R.lenRs S27 (h := ?_) | refine R.lenV (run_lenNil S27) (h := ?_)
   rw [List.length_map]
   refine R.move (h := ?_)
   refine .n0 ?_
   refine .block ?_
   refine .loop ?_
   refine LGo.loopG (σ := Nat × List Int) (fun x => x.1 ≤ s.evs.length ∧ chkGo s x.1 x.2 (s.evs.drop x.1) = g) (fun x => [(28, (true, .i (x.1 : Nat)))]) (fun x => [(0, .box 29 (s.c.map LV.sv)), (1, .box 110 [.t [], .i 0, .i 0, .i 0, .v .nilFunc, .t [115, 101, 110, 100], .i 0, .i 0, .i 2, .fn (.func 120) [] [], .t [112, 105, 99, 107], .i 0, .i 1000000, .i 1, .fn (.func 118) [] [.ptr 2 0, .ptr 3 0], .t [102, 97, 105, 114], .i 1, .i 1000, .i 1, .fn (.func 118) [] [.ptr 4 0, .ptr 5 0], .t [116, 105, 99, 107], .i 1, .i 1000000000, .i 1, .fn (.func 118) [] [.ptr 6 0, .ptr 7 0]]), (2, .box 2 [.i 0]), (3, .box 2 [.i 1000000]), (4, .box 2 [.i 1]), (5, .box 2 [.i 1000]), (6, .box 2 [.i 1]), (7, .box 2 [.i 1000000000]), (8, .raw (mapOb encI (mB x.2)))]) (fun x => s.evs.length - x.1) (0, []) [(1, _), (6, _), (7, _), (26, _), (27, _)] ⟨Nat.zero_le _, e1⟩ (by repeat (first | exact trivial | refine ⟨rfl, ?_⟩)) (by repeat (first | exact trivial | refine ⟨rfl, ?_⟩)) (by repeat (first | exact trivial | refine ⟨rfl, ?_⟩)) ?_
   rintro ⟨k, ks⟩ ⟨hk, hq⟩ ih
   dsimp only at * 
   refine .seq ?_
   refine .region rfl ?_
   refine R.bin (run_lss _ _ _ _ _ _) (h := ?_)
   refine .n0 ?_
   refine .seq ?_
   refine LGo.ifd (ht := fun hc3 => ?_) (hf := fun hc3 => ?_)
   ·
    have hlt : k < s.evs.length := by omega
    have hx : (s.evs.map SrE.c)[((k : Nat) : Int).toNat]? = some s.evs[k].c := by simp [hlt]
    have hd : s.evs.drop k = s.evs[k] :: s.evs.drop (k + 1) := List.drop_eq_getElem_cons hlt
    rw [hd, chkGo] at hq
    generalize s.evs[k] = z at hx hq
    clear hd
    obtain ⟨kd, xa, xb⟩ := z
    obtain ⟨ev, hev⟩ : ∃ ev, evE s (SrE.mk kd xa xb) = ev := ⟨_, rfl⟩
    refine .skip ?_
    refine .seq ?_
    refine .block ?_
    refine .seq ?_
    refine .region rfl ?_
    refine R.move (h := ?_)
    refine R.index I27 (hj := fun hg => ⟨by omega, hx⟩) (h := ?_)
    first | refine R.loadA A58 (h := ?_) | refine R.loadN A58 (h := ?_) | refine R.loadP A58 (h := ?_)
    refine R.alloc Z58 (h := ?_)
    refine R.assign (h := ?_)
    refine R.storeA A58 (h := ?_)
    refine .n0 ?_
    refine .seq ?_
    refine .region rfl ?_
    refine R.assign (h := ?_)
    refine .n0 ?_
    refine .seq ?_
    refine .seq ?_
    refine .region rfl ?_
    first | refine R.field F58_0 (h := ?_) | refine R.fieldAt F58_0 (h := ?_)
    first | refine R.loadB O3 (h := ?_) | refine R.load1 O3 (h := ?_)
    refine R.bin (run_geq _ _ _ _ _ _) (h := ?_)
    refine R.move (h := ?_)
    first | refine R.field F58_0 (h := ?_) | refine R.fieldAt F58_0 (h := ?_)
    first | refine R.loadB O3 (h := ?_) | refine R.load1 O3 (h := ?_)
    refine R.bin (run_leq _ _ _ _ _ _) (h := ?_)
    refine R.and (h := ?_)
    refine .n0 ?_
    refine LGo.cut (σ := Int) (fun x => x = evE s (SrE.mk kd xa xb)) (fun x => [(10, (true, .i x))]) (fun x => [(0, .box 29 (s.c.map LV.sv)), (1, .box 110 [.t [], .i 0, .i 0, .i 0, .v .nilFunc, .t [115, 101, 110, 100], .i 0, .i 0, .i 2, .fn (.func 120) [] [], .t [112, 105, 99, 107], .i 0, .i 1000000, .i 1, .fn (.func 118) [] [.ptr 2 0, .ptr 3 0], .t [102, 97, 105, 114], .i 1, .i 1000, .i 1, .fn (.func 118) [] [.ptr 4 0, .ptr 5 0], .t [116, 105, 99, 107], .i 1, .i 1000000000, .i 1, .fn (.func 118) [] [.ptr 6 0, .ptr 7 0]]), (2, .box 2 [.i 0]), (3, .box 2 [.i 1000000]), (4, .box 2 [.i 1]), (5, .box 2 [.i 1000]), (6, .box 2 [.i 1]), (7, .box 2 [.i 1000000000]), (8, .raw (mapOb encI (mB ks))), (9, .box 58 ((SrE.mk kd xa xb).c.map LV.sv))]) 10 [(1, _), (6, _), (7, _), (8, _), (9, _), (26, _), (27, _), (28, _), (37, _), (38, _), (39, _)] (by repeat (first | exact trivial | refine ⟨rfl, ?_⟩)) ?_ (fun hcut => ?_)
    ·
     rintro e he
     rw [hev] at he
     subst he
     refine .seq ?_
     refine .seq ?_
     refine .region rfl ?_
     refine R.move (h := ?_)
     refine R.bin (run_eql _ _ _ _ _ _) (h := ?_)
     refine R.move (h := ?_)
     first | refine R.field F58_0 (h := ?_) | refine R.fieldAt F58_0 (h := ?_)
     first | refine R.loadB O3 (h := ?_) | refine R.load1 O3 (h := ?_)
     refine R.bin (run_eql _ _ _ _ _ _) (h := ?_)
     refine R.and (h := ?_)
     refine .n0 ?_
     refine LGo.ifb (ht := fun hc5 => ?_) (hf := fun hc5 => ?_)
     ·
      simp only [Bool.and_eq_true, decide_eq_true_eq] at hc5
      obtain ⟨he0, hk1⟩ := hc5
      subst hk1
      refine .seq ?_
      refine .seq ?_
      refine .region rfl ?_
      refine R.move (h := ?_)
      first | refine R.field F58_1 (h := ?_) | refine R.fieldAt F58_1 (h := ?_)
      first | refine R.loadB O2 (h := ?_) | refine R.load1 O2 (h := ?_)
      refine R.lookup1 (enc := encI) (z := .bool false) (a := xa) (l := mB ks) Tryz.underlying158 keyI Z4 Told.v (h := ?_)
      rw [getM_B]
      refine .n0 ?_
      refine LGo.ifb (ht := fun hc6 => ?_) (hf := fun hc6 => ?_)
      ·
       have hv : evT s ks (SrE.mk 1 xa xb) = 8 := if_pos (by rw [hev, he0, hc6]; rfl)
       rw [hv, if_pos (by decide)] at hq
       rw [← hq]
       refine .region rfl ?_
       refine R.assign (h := ?_)
       refine .n0 ?_
       refine .region rfl ?_
       refine R.move (h := ?_)
       first | refine R.field F58_1 (h := ?_) | refine R.fieldAt F58_1 (h := ?_)
       first | refine R.loadB O2 (h := ?_) | refine R.load1 O2 (h := ?_)
       refine R.mapUpd (enc := encI) (a := xa) Tryz.underlying158 keyI Told.v (h := ?_)
       rw [putM_B]
       refine .n0 ?_
       refine .seq ?_
       refine .region rfl ?_
       refine R.move (h := ?_)
       refine R.bin (run_neq _ _ _ _ _ _) (h := ?_)
       refine .n0 ?_
       refine LGo.ifb (ht := fun hc7 => ?_) (hf := fun hc7 => by simp at hc7)
       refine .seq ?_
       refine .region rfl ?_
       refine R.move (h := ?_)
       refine R.callP (es := [_, _]) (fun _ => part_P [101, 118, 101, 110, 116] (by decide) k (by unfold R64; omega)) (h := ?_)
       refine R.move (h := ?_)
       refine R.assign (h := ?_)
       refine R.assign (h := ?_)
       refine .n0 ?_
       exact LGo.ret (ret_TT Tryz.results27 hA hmd)
      ·
       have hv : evT s ks (SrE.mk 1 xa xb) = 0 := (if_neg (by rw [hc6]; simp)).trans (hev.trans he0)
       rw [hv, if_neg (by decide), if_pos rfl] at hq
       refine .skip ?_
       refine .region rfl ?_
       refine R.move (h := ?_)
       first | refine R.field F58_1 (h := ?_) | refine R.fieldAt F58_1 (h := ?_)
       first | refine R.loadB O2 (h := ?_) | refine R.load1 O2 (h := ?_)
       refine R.mapUpd (enc := encI) (a := xa) Tryz.underlying158 keyI Told.v (h := ?_)
       rw [putM_B]
       refine .n0 ?_
       refine .seq ?_
       refine .region rfl ?_
       refine R.move (h := ?_)
       refine R.bin (run_neq _ _ _ _ _ _) (h := ?_)
       refine .n0 ?_
       refine LGo.ifb (ht := fun hc8 => by simp [he0] at hc8) (hf := fun hc8 => ?_)
       refine .skip ?_
       refine .inBlock ?_
       refine .region rfl ?_
       first | refine R.add (h := ?_) | refine R.addW (h := ?_)
       refine R.move (h := ?_)
       refine .n0 ?_
       refine .inLoop ?_
       exact LGo.next _ (fun o h => by have := (hA o).1 h; omega) (by omega) (ih (k + 1, addK xa ks) ⟨by dsimp only; omega, hq⟩ (by dsimp only; omega)) (by repeat (first | exact trivial | refine ⟨rfl, ?_⟩)) ⟨rfl, rfl, rfl, rfl, rfl, rfl, rfl, rfl, rfl, trivial⟩
     ·
      have hv : evT s ks (SrE.mk kd xa xb) = e := (if_neg (by rw [hev, show (decide (e = 0) && decide ((SrE.mk kd xa xb).kind = 1)) = false from hc5]; simp)).trans hev
      rw [hv] at hq
      refine .skip ?_
      refine .seq ?_
      refine .region rfl ?_
      refine R.move (h := ?_)
      refine R.bin (run_neq _ _ _ _ _ _) (h := ?_)
      refine .n0 ?_
      refine LGo.ifb (ht := fun hc9 => ?_) (hf := fun hc9 => ?_)
      ·
       rw [if_pos (by simpa using hc9)] at hq
       rw [← hq]
       refine .seq ?_
       refine .region rfl ?_
       refine R.move (h := ?_)
       refine R.callP (es := [_, _]) (fun _ => part_P [101, 118, 101, 110, 116] (by decide) k (by unfold R64; omega)) (h := ?_)
       refine R.move (h := ?_)
       refine R.assign (h := ?_)
       refine R.assign (h := ?_)
       refine .n0 ?_
       exact LGo.ret (ret_TT Tryz.results27 hA hmd)
      ·
       have he0 : e = 0 := by simpa using hc9
       rw [if_neg (by simp [he0]), if_neg (show ¬ kd = 1 from fun h => by rw [he0, h] at hc5; simp at hc5)] at hq
       refine .skip ?_
       refine .inBlock ?_
       refine .region rfl ?_
       first | refine R.add (h := ?_) | refine R.addW (h := ?_)
       refine R.move (h := ?_)
       refine .n0 ?_
       refine .inLoop ?_
       exact LGo.next _ (fun o h => by have := (hA o).1 h; omega) (by omega) (ih (k + 1, ks) ⟨by dsimp only; omega, hq⟩ (by dsimp only; omega)) (by repeat (first | exact trivial | refine ⟨rfl, ?_⟩)) ⟨rfl, rfl, rfl, rfl, rfl, rfl, rfl, rfl, rfl, trivial⟩
    ·
     refine LGo.ifb (ht := fun hc4 => ?_) (hf := fun hc4 => ?_)
     ·
      simp only [Bool.and_eq_true, decide_eq_true_eq] at hc4
      refine .region rfl ?_
      refine R.move (h := ?_)
      first | refine R.field F58_0 (h := ?_) | refine R.fieldAt F58_0 (h := ?_)
      first | refine R.loadB O3 (h := ?_) | refine R.load1 O3 (h := ?_)
      rcases (show kd = 1 ∨ kd = 2 ∨ kd = 3 ∨ kd = 4 from by omega) with rfl | rfl | rfl | rfl
      ·
       refine R.indexSub I106 (hj := fun _ => ⟨by dsimp only; omega, by dsimp only; omega⟩) (h := ?_)
       first | refine R.field F110_4 (h := ?_) | refine R.fieldAt F110_4 (h := ?_)
       first | refine R.loadB O108 (h := ?_) | refine R.load1 O108 (h := ?_)
       first | refine R.loadA A58 (h := ?_) | refine R.loadN A58 (h := ?_) | refine R.loadP A58 (h := ?_)
       refine R.callX (es := [_, _]) (first := []) (cap := []) [0] (sendE_L s hs (SrE.mk 1 xa xb)) (h := ?_)
       refine R.assign (h := ?_)
       refine Reg.nil ⟨fun _ => ⟨mixedO, by rfl, by rfl⟩, ?_⟩
       exact LGo.next _ (fun o h => by have := (hA o).1 h; omega) (by omega) (hcut _ rfl) (by repeat (first | exact trivial | refine ⟨rfl, ?_⟩)) (by repeat (first | exact trivial | refine ⟨rfl, ?_⟩))
      ·
       refine R.indexSub I106 (hj := fun _ => ⟨by dsimp only; omega, by dsimp only; omega⟩) (h := ?_)
       first | refine R.field F110_4 (h := ?_) | refine R.fieldAt F110_4 (h := ?_)
       first | refine R.loadB O108 (h := ?_) | refine R.load1 O108 (h := ?_)
       first | refine R.loadA A58 (h := ?_) | refine R.loadN A58 (h := ?_) | refine R.loadP A58 (h := ?_)
       refine R.callX (es := [_, _]) (first := []) (cap := [_, _]) [0, 2, 3] (numE_L s 0 1000000 (SrE.mk 2 xa xb)) (h := ?_)
       refine R.assign (h := ?_)
       refine Reg.nil ⟨fun _ => ⟨mixedO, by rfl, by rfl⟩, ?_⟩
       exact LGo.next _ (fun o h => by have := (hA o).1 h; omega) (by omega) (hcut _ rfl) (by repeat (first | exact trivial | refine ⟨rfl, ?_⟩)) (by repeat (first | exact trivial | refine ⟨rfl, ?_⟩))
      ·
       refine R.indexSub I106 (hj := fun _ => ⟨by dsimp only; omega, by dsimp only; omega⟩) (h := ?_)
       first | refine R.field F110_4 (h := ?_) | refine R.fieldAt F110_4 (h := ?_)
       first | refine R.loadB O108 (h := ?_) | refine R.load1 O108 (h := ?_)
       first | refine R.loadA A58 (h := ?_) | refine R.loadN A58 (h := ?_) | refine R.loadP A58 (h := ?_)
       refine R.callX (es := [_, _]) (first := []) (cap := [_, _]) [0, 4, 5] (numE_L s 1 1000 (SrE.mk 3 xa xb)) (h := ?_)
       refine R.assign (h := ?_)
       refine Reg.nil ⟨fun _ => ⟨mixedO, by rfl, by rfl⟩, ?_⟩
       exact LGo.next _ (fun o h => by have := (hA o).1 h; omega) (by omega) (hcut _ rfl) (by repeat (first | exact trivial | refine ⟨rfl, ?_⟩)) (by repeat (first | exact trivial | refine ⟨rfl, ?_⟩))
      ·
       refine R.indexSub I106 (hj := fun _ => ⟨by dsimp only; omega, by dsimp only; omega⟩) (h := ?_)
       first | refine R.field F110_4 (h := ?_) | refine R.fieldAt F110_4 (h := ?_)
       first | refine R.loadB O108 (h := ?_) | refine R.load1 O108 (h := ?_)
       first | refine R.loadA A58 (h := ?_) | refine R.loadN A58 (h := ?_) | refine R.loadP A58 (h := ?_)
       refine R.callX (es := [_, _]) (first := []) (cap := [_, _]) [0, 6, 7] (numE_L s 1 1000000000 (SrE.mk 4 xa xb)) (h := ?_)
       refine R.assign (h := ?_)
       refine Reg.nil ⟨fun _ => ⟨mixedO, by rfl, by rfl⟩, ?_⟩
       exact LGo.next _ (fun o h => by have := (hA o).1 h; omega) (by omega) (hcut _ rfl) (by repeat (first | exact trivial | refine ⟨rfl, ?_⟩)) (by repeat (first | exact trivial | refine ⟨rfl, ?_⟩))
     ·
      have hnk : evE s (SrE.mk kd xa xb) = 2 := by
        simp only [Bool.and_eq_false_iff, decide_eq_false_iff_not] at hc4
        unfold evE
        dsimp only
        rw [if_neg (by omega), if_neg (by omega), if_neg (by omega), if_neg (by omega)]
      refine .skip ?_
      exact LGo.next _ (fun o h => by have := (hA o).1 h; omega) (by omega) (hcut _ hnk.symm) (by repeat (first | exact trivial | refine ⟨rfl, ?_⟩)) (by repeat (first | exact trivial | refine ⟨rfl, ?_⟩))
   ·
    rw [List.drop_eq_nil_of_le (show s.evs.length ≤ k by omega), chkGo] at hq
    rw [← hq]
    refine .exit rfl ?_
    refine .seq ?_
    refine .region rfl ?_
    refine R.assign (h := ?_)
    refine R.assign (h := ?_)
    refine .n0 ?_
    exact LGo.ret (ret_TT Tryz.results27 hA hmd)
theorem evT_0 {s : Sc} {ks : List Int} {x : SrE} (h : evT s ks x = 0) : evE s x = 0 := by
  unfold evT at h
  split at h
  · cases h
  · exact h
theorem chkGo_0 {s : Sc} : ∀ (l : List SrE) (k : Nat) (ks : List Int), (chkGo s k ks l).2 = 0 → ∀ x ∈ l, evE s x = 0
  | [], _, _, _, x, hx => by cases hx
  | y :: l, k, ks, h, x, hx => by
    rw [chkGo] at h
    split at h
    · rename_i h1; exact absurd h h1
    · rename_i h1
      have h0 : evT s ks y = 0 := Decidable.of_not_not h1
      rcases List.mem_cons.1 hx with rfl | hx
      · exact evT_0 h0
      · exact chkGo_0 l _ _ h x hx
theorem check_facts {s : Sc} (h : (checkS s).2 = 0) : (baseS s).2 = 0 ∧ s.evs.length ≤ 1000 ∧ ∀ x ∈ s.evs, evE s x = 0 := by
  unfold checkS at h
  split at h
  · rename_i h1; exact absurd h h1
  · rename_i h1
    split at h
    · cases h
    · rename_i h2
      exact ⟨Decidable.of_not_not h1, by omega, chkGo_0 _ _ _ h⟩
theorem inS_iff {n a b : Int} : inS n a b = true ↔ a ≤ n ∧ n ≤ b := by unfold inS; simp
theorem numE_0 {lo hi : Int} {x : SrE} (h : numE lo hi x = 0) : x.b = 0 ∧ lo ≤ x.a ∧ x.a ≤ hi := by
  unfold numE at h
  split at h
  · cases h
  · rename_i h1
    split at h
    · cases h
    · rename_i h2
      have := inS_iff.1 (show inS x.a lo hi = true by simpa using h2)
      exact ⟨Decidable.of_not_not h1, this.1, this.2⟩
theorem evE_0 {s : Sc} {x : SrE} (h : evE s x = 0) : (x.kind = 1 ∧ sendE s x = 0) ∨ (x.kind = 2 ∧ x.b = 0 ∧ 0 ≤ x.a ∧ x.a ≤ 1000000) ∨ (x.kind = 3 ∧ x.b = 0 ∧ 1 ≤ x.a ∧ x.a ≤ 1000) ∨ (x.kind = 4 ∧ x.b = 0 ∧ 1 ≤ x.a ∧ x.a ≤ 1000000000) := by
  unfold evE at h
  split at h
  · rename_i h1; exact .inl ⟨h1, h⟩
  split at h
  · rename_i h1; exact .inr (.inl ⟨h1, numE_0 h⟩)
  split at h
  · rename_i h1; exact .inr (.inr (.inl ⟨h1, numE_0 h⟩))
  split at h
  · rename_i h1; exact .inr (.inr (.inr ⟨h1, numE_0 h⟩))
  · cases h
def szStep (p : Int × Int × Int) (x : SrE) : Int × Int × Int := if x.kind = 1 then (p.1 + 1, p.2.1, p.2.2) else if x.kind = 2 then (p.1, p.2.1 + 1, p.2.2) else if x.kind = 3 then (p.1, p.2.1 + x.a, p.2.2) else if x.kind = 4 then (p.1, p.2.1, p.2.2 + x.a) else p
/-- how large a script is: events, calls, turns, time; the error -/
def sizeS (s : Sc) : (Int × Int × Int × Int) × Int := if (checkS s).2 ≠ 0 then ((0, 0, 0, 0), (checkS s).2) else ((s.evs.length, s.evs.foldl szStep (0, 0, 0)), 0)
def szC (p : Int × Int × Int × Int) : List LV := [.i p.1, .i p.2.1, .i p.2.2.1, .i p.2.2.2]
theorem sizeS_P (s : Sc) (hs : s.sm) : PC Tryz.prog 28 [.agg (s.c.map LV.sv)] (.tup [.agg (szC (sizeS s).1), .i (sizeS s).2]) := by
 refine ⟨LC.of_go Tryz.func28 (c := _) rfl (by kernel_rfl) (by rw [Tryz.ntmps28]; simp) rfl rfl (by simp [LO.lt, LV.lts, LV.lt, lts_sv]) (by simp) ?_⟩
 intro B hA hmd
 obtain ⟨g, e0⟩ : ∃ g, sizeS s = g := ⟨_, rfl⟩
 have e1 := e0
 unfold sizeS at e1
 rw [e0]
 refine .seq ?_
 refine .region rfl ?_
 refine R.box (h := ?_)
 refine R.alloc Z62 (h := ?_)
 refine R.assign (h := ?_)
 refine .n0 ?_
 refine .seq ?_
 refine .seq ?_
 refine .region rfl ?_
 first | refine R.loadA A29 (h := ?_) | refine R.loadN A29 (h := ?_) | refine R.loadP A29 (h := ?_)
 refine R.callP (es := [_]) (fun _ => checkS_P s hs) (h := ?_)
 refine R.move (h := ?_)
 refine R.extract (h := ?_)
 refine R.extract (h := ?_)
 refine R.assign (h := ?_)
 refine R.assign (h := ?_)
 refine .n0 ?_
 refine .seq ?_
 refine .region rfl ?_
 refine R.move (h := ?_)
 refine R.bin (run_neq _ _ _ _ _ _) (h := ?_)
 refine .n0 ?_
 refine LGo.ifb (ht := fun hc => ?_) (hf := fun hc => ?_)
 ·
  rw [if_pos (by simpa using hc)] at e1
  rw [← e1]
  refine .seq ?_
  refine .region rfl ?_
  refine R.build BF62 (is := []) (xs := []) (es := []) (h := ?_)
  refine R.move (h := ?_)
  refine R.storeA A62 (h := ?_)
  refine R.assign (h := ?_)
  refine .n0 ?_
  exact LGo.ret (ret_AT Tryz.results28 A62 hA hmd)
 ·
  rw [if_neg (by simpa using hc)] at e1
  obtain ⟨_, hel, hev⟩ := check_facts (show (checkS s).2 = 0 by simpa using hc)
  obtain ⟨F, hF⟩ : ∃ F, s.evs.foldl szStep (0, 0, 0) = F := ⟨_, rfl⟩
  rw [hF] at e1
  refine .skip ?_
  refine .seq ?_
  refine .region rfl ?_
  first | refine R.field F29_5 (h := ?_) | refine R.fieldAt F29_5 (h := ?_)
  first | refine R.loadB O27 (h := ?_) | refine R.load1 O27 (h := ?_)
  first | refine R.len S27 (h := ?_) | refine R.lenRs S27 (h := ?_) | refine R.lenV (run_lenNil S27) (h := ?_)
  rw [List.length_map]
  refine R.build BF62 (is := [0]) (xs := [_]) (es := [_]) (h := ?_)
  refine R.alloc Z62 (h := ?_)
  refine R.storeA A62 (h := ?_)
  refine .n0 ?_
  refine .seq ?_
  refine .seq ?_
  refine .region rfl ?_
  first | refine R.field F29_5 (h := ?_) | refine R.fieldAt F29_5 (h := ?_)
  first | refine R.loadB O27 (h := ?_) | refine R.load1 O27 (h := ?_)
  first | refine R.len S27 (h := ?_) | refine R.lenRs S27 (h := ?_) | refine R.lenV (run_lenNil S27) (h := ?_)
  rw [List.length_map]
  refine R.move (h := ?_)
  refine .n0 ?_
  refine .block ?_
  refine .loop ?_
  refine LGo.loopG (σ := Nat × Int × Int × Int) (fun x => x.1 ≤ s.evs.length ∧ 0 ≤ x.2.1 ∧ x.2.1 ≤ x.1 ∧ 0 ≤ x.2.2.1 ∧ x.2.2.1 ≤ 1000 * x.1 ∧ 0 ≤ x.2.2.2 ∧ x.2.2.2 ≤ 1000000000 * x.1 ∧ (s.evs.drop x.1).foldl szStep (x.2.1, x.2.2.1, x.2.2.2) = F) (fun x => [(25, (true, .i (x.1 : Nat)))]) (fun x => [(0, .box 29 (s.c.map LV.sv)), (1, .box 62 [.i 0, .i 0, .i 0, .i 0]), (2, .box 62 [.i s.evs.length, .i x.2.1, .i x.2.2.1, .i x.2.2.2])]) (fun x => s.evs.length - x.1) (0, 0, 0, 0) [(2, _), (6, _), (23, _), (24, _)] ⟨Nat.zero_le _, Int.le_refl _, Int.le_refl _, Int.le_refl _, Int.le_refl _, Int.le_refl _, Int.le_refl _, hF⟩ (by repeat (first | exact trivial | refine ⟨rfl, ?_⟩)) (by repeat (first | exact trivial | refine ⟨rfl, ?_⟩)) (by repeat (first | exact trivial | refine ⟨rfl, ?_⟩)) ?_
  rintro ⟨k, c, t, m⟩ ⟨hk, h1, h2, h3, h4, h5, h6, hq⟩ ih
  dsimp only at * 
  refine .seq ?_
  refine .region rfl ?_
  refine R.bin (run_lss _ _ _ _ _ _) (h := ?_)
  refine .n0 ?_
  refine .seq ?_
  refine LGo.ifd (ht := fun hc2 => ?_) (hf := fun hc2 => ?_)
  ·
   have hlt : k < s.evs.length := by omega
   have hx : (s.evs.map SrE.c)[((k : Nat) : Int).toNat]? = some s.evs[k].c := by simp [hlt]
   have hd : s.evs.drop k = s.evs[k] :: s.evs.drop (k + 1) := List.drop_eq_getElem_cons hlt
   rw [hd, List.foldl_cons] at hq
   have hz := evE_0 (hev _ (List.getElem_mem hlt))
   generalize s.evs[k] = z at hx hq hz
   clear hd
   refine .skip ?_
   refine .seq ?_
   refine .block ?_
   refine .seq ?_
   refine .region rfl ?_
   refine R.index I27 (hj := fun hg => ⟨by omega, hx⟩) (h := ?_)
   first | refine R.loadA A58 (h := ?_) | refine R.loadN A58 (h := ?_) | refine R.loadP A58 (h := ?_)
   refine R.alloc Z58 (h := ?_)
   refine R.storeA A58 (h := ?_)
   refine .n0 ?_
   refine .seq ?_
   refine .region rfl ?_
   first | refine R.field F58_0 (h := ?_) | refine R.fieldAt F58_0 (h := ?_)
   first | refine R.loadB O3 (h := ?_) | refine R.load1 O3 (h := ?_)
   refine .n0 ?_
   refine .block ?_
   refine .seq ?_
   refine .region rfl ?_
   refine R.bin (run_eql _ _ _ _ _ _) (h := ?_)
   refine R.assign (h := ?_)
   refine .n0 ?_
   refine LGo.ifd (ht := fun hc3 => ?_) (hf := fun hc3 => ?_)
   ·
    rw [show szStep (c, t, m) z = (c + 1, t, m) from if_pos hc3] at hq
    refine .region rfl ?_
    first | refine R.field F62_1 (h := ?_) | refine R.fieldAt F62_1 (h := ?_)
    first | refine R.loadB O3 (h := ?_) | refine R.load1 O3 (h := ?_)
    first | refine R.add (h := ?_) | refine R.addW (h := ?_)
    first | refine R.field F62_1 (h := ?_) | refine R.fieldAt F62_1 (h := ?_)
    refine R.storeB O3 (h := ?_)
    refine .n0 ?_
    refine .inBlock ?_
    refine .inBlock ?_
    refine .region rfl ?_
    first | refine R.add (h := ?_) | refine R.addW (h := ?_)
    refine R.move (h := ?_)
    refine .n0 ?_
    refine .inLoop ?_
    exact LGo.next _ (fun o h => by have := (hA o).1 h; omega) (by omega) (ih (k + 1, c + 1, t, m) ⟨by dsimp only; omega, by dsimp only; omega, by dsimp only; omega, by dsimp only; omega, by dsimp only; omega, by dsimp only; omega, by dsimp only; omega, hq⟩ (by dsimp only; omega)) (by repeat (first | exact trivial | refine ⟨rfl, ?_⟩)) ⟨rfl, rfl, rfl, trivial⟩
   ·
    refine .seq ?_
    refine .region rfl ?_
    refine R.bin (run_eql _ _ _ _ _ _) (h := ?_)
    refine R.assign (h := ?_)
    refine .n0 ?_
    refine LGo.ifd (ht := fun hc4 => ?_) (hf := fun hc4 => ?_)
    ·
     rw [show szStep (c, t, m) z = (c, t + 1, m) from (if_neg hc3).trans (if_pos hc4)] at hq
     refine .region rfl ?_
     first | refine R.field F62_2 (h := ?_) | refine R.fieldAt F62_2 (h := ?_)
     first | refine R.loadB O2 (h := ?_) | refine R.load1 O2 (h := ?_)
     first | refine R.add (h := ?_) | refine R.addW (h := ?_)
     first | refine R.field F62_2 (h := ?_) | refine R.fieldAt F62_2 (h := ?_)
     refine R.storeB O2 (h := ?_)
     refine .n0 ?_
     refine .inBlock ?_
     refine .inBlock ?_
     refine .region rfl ?_
     first | refine R.add (h := ?_) | refine R.addW (h := ?_)
     refine R.move (h := ?_)
     refine .n0 ?_
     refine .inLoop ?_
     exact LGo.next _ (fun o h => by have := (hA o).1 h; omega) (by omega) (ih (k + 1, c, t + 1, m) ⟨by dsimp only; omega, by dsimp only; omega, by dsimp only; omega, by dsimp only; omega, by dsimp only; omega, by dsimp only; omega, by dsimp only; omega, hq⟩ (by dsimp only; omega)) (by repeat (first | exact trivial | refine ⟨rfl, ?_⟩)) ⟨rfl, rfl, rfl, trivial⟩
    ·
     refine .seq ?_
     refine .region rfl ?_
     refine R.bin (run_eql _ _ _ _ _ _) (h := ?_)
     refine R.assign (h := ?_)
     refine .n0 ?_
     refine LGo.ifd (ht := fun hc5 => ?_) (hf := fun hc5 => ?_)
     ·
      rw [show szStep (c, t, m) z = (c, t + z.a, m) from (if_neg hc3).trans ((if_neg hc4).trans (if_pos hc5))] at hq
      refine .region rfl ?_
      first | refine R.field F62_2 (h := ?_) | refine R.fieldAt F62_2 (h := ?_)
      first | refine R.loadB O2 (h := ?_) | refine R.load1 O2 (h := ?_)
      first | refine R.field F58_1 (h := ?_) | refine R.fieldAt F58_1 (h := ?_)
      first | refine R.loadB O2 (h := ?_) | refine R.load1 O2 (h := ?_)
      first | refine R.add (h := ?_) | refine R.addW (h := ?_)
      first | refine R.field F62_2 (h := ?_) | refine R.fieldAt F62_2 (h := ?_)
      refine R.storeB O2 (h := ?_)
      refine .n0 ?_
      refine .inBlock ?_
      refine .inBlock ?_
      refine .region rfl ?_
      first | refine R.add (h := ?_) | refine R.addW (h := ?_)
      refine R.move (h := ?_)
      refine .n0 ?_
      refine .inLoop ?_
      exact LGo.next _ (fun o h => by have := (hA o).1 h; omega) (by omega) (ih (k + 1, c, t + z.a, m) ⟨by dsimp only; omega, by dsimp only; omega, by dsimp only; omega, by dsimp only; omega, by dsimp only; omega, by dsimp only; omega, by dsimp only; omega, hq⟩ (by dsimp only; omega)) (by repeat (first | exact trivial | refine ⟨rfl, ?_⟩)) ⟨rfl, rfl, rfl, trivial⟩
     ·
      refine .seq ?_
      refine .region rfl ?_
      refine R.bin (run_eql _ _ _ _ _ _) (h := ?_)
      refine R.assign (h := ?_)
      refine .n0 ?_
      refine LGo.ifd (ht := fun hc6 => ?_) (hf := fun hc6 => ?_)
      ·
       rw [show szStep (c, t, m) z = (c, t, m + z.a) from (if_neg hc3).trans ((if_neg hc4).trans ((if_neg hc5).trans (if_pos hc6)))] at hq
       refine .region rfl ?_
       first | refine R.field F62_3 (h := ?_) | refine R.fieldAt F62_3 (h := ?_)
       first | refine R.loadB O2 (h := ?_) | refine R.load1 O2 (h := ?_)
       first | refine R.field F58_1 (h := ?_) | refine R.fieldAt F58_1 (h := ?_)
       first | refine R.loadB O2 (h := ?_) | refine R.load1 O2 (h := ?_)
       first | refine R.add (h := ?_) | refine R.addW (h := ?_)
       first | refine R.field F62_3 (h := ?_) | refine R.fieldAt F62_3 (h := ?_)
       refine R.storeB O2 (h := ?_)
       refine .n0 ?_
       refine .inBlock ?_
       refine .inBlock ?_
       refine .region rfl ?_
       first | refine R.add (h := ?_) | refine R.addW (h := ?_)
       refine R.move (h := ?_)
       refine .n0 ?_
       refine .inLoop ?_
       exact LGo.next _ (fun o h => by have := (hA o).1 h; omega) (by omega) (ih (k + 1, c, t, m + z.a) ⟨by dsimp only; omega, by dsimp only; omega, by dsimp only; omega, by dsimp only; omega, by dsimp only; omega, by dsimp only; omega, by dsimp only; omega, hq⟩ (by dsimp only; omega)) (by repeat (first | exact trivial | refine ⟨rfl, ?_⟩)) ⟨rfl, rfl, rfl, trivial⟩
      ·
       exact absurd hz (by omega)
  ·
   rw [List.drop_eq_nil_of_le (show s.evs.length ≤ k by omega), List.foldl_nil] at hq
   subst hq
   rw [← e1]
   refine .exit rfl ?_
   refine .seq ?_
   refine .region rfl ?_
   first | refine R.loadA A62 (h := ?_) | refine R.loadN A62 (h := ?_) | refine R.loadP A62 (h := ?_)
   refine R.storeA A62 (h := ?_)
   refine R.assign (h := ?_)
   refine .n0 ?_
   exact LGo.ret (ret_AT Tryz.results28 A62 hA hmd)
theorem encQ_L (r : Rq) (hr : RqOk r) (hs : r.ses.length ≤ 500 ∧ r.tic.length ≤ 500) : LC Tryz.prog 77 0 [.agg (r.c.map LV.sv)] [] (.tup [.ref 0, .i (encQ r).2]) [(0, .rs 5 1 (bytesC (encQ r).1))] 1 := by
 refine LC.of_go Tryz.func77 (c := _) rfl (by kernel_rfl) (by rw [Tryz.ntmps77]; simp) rfl rfl (by simp [LO.lt, LV.lts, LV.lt, lts_sv]) (by simp) ?_
 intro B hA hmd
 obtain ⟨g, e0⟩ : ∃ g, encQ r = g := ⟨_, rfl⟩
 have e1 := e0
 unfold encQ at e1
 rw [e0]
 have h5 := fieldsOf_500 hr hs
 have h6 := rulesQ_len r.kind
 refine .seq ?_
 refine .region rfl ?_
 refine R.box (h := ?_)
 refine R.assign (h := ?_)
 refine R.assign (h := ?_)
 refine .n0 ?_
 refine .seq ?_
 refine .region rfl ?_
 first | refine R.loadA A48 (h := ?_) | refine R.loadN A48 (h := ?_) | refine R.loadP A48 (h := ?_)
 refine R.callP (es := [_]) (fun _ => fieldsOf_P r hr) (h := ?_)
 refine R.move (h := ?_)
 refine R.extract (h := ?_)
 refine R.extract (h := ?_)
 refine R.assign (h := ?_)
 refine R.assign (h := ?_)
 refine .n0 ?_
 refine .seq ?_
 refine .seq ?_
 refine .region rfl ?_
 refine R.move (h := ?_)
 refine R.bin (run_neq _ _ _ _ _ _) (h := ?_)
 refine .n0 ?_
 refine LGo.ifb (ht := fun hc => ?_) (hf := fun hc => ?_)
 ·
  rw [if_pos hc] at e1; rw [← e1]
  refine .seq ?_
  refine .region rfl ?_
  refine R.move (h := ?_)
  refine R.assign (h := ?_)
  refine R.assign (h := ?_)
  refine .n0 ?_
  refine LGo.nilRs 2 5 1 (h := ?_)
  exact LGo.ret (FnPost.finI [1] (res_TT Tryz.results77) hA hmd)
 ·
  rw [if_neg (by rw [hc]; simp)] at e1
  have hk := fieldsOf_kind (by simpa using hc)
  refine .skip ?_
  refine .seq ?_
  refine .region rfl ?_
  first | refine R.field F48_0 (h := ?_) | refine R.fieldAt F48_0 (h := ?_)
  first | refine R.loadB O3 (h := ?_) | refine R.load1 O3 (h := ?_)
  refine R.callP (es := [_]) (fun _ => rulesQ_P r.kind) (h := ?_)
  refine R.move (h := ?_)
  refine R.extract (h := ?_)
  refine R.extract (h := ?_)
  refine R.assign (h := ?_)
  refine R.assign (h := ?_)
  refine .n0 ?_
  refine .seq ?_
  refine .region rfl ?_
  refine R.move (h := ?_)
  refine R.move (h := ?_)
  refine R.callP (es := [_, _]) (fun _ => encode_PB (rulesQ r.kind).1 (fieldsOf r).1 (by omega) (by omega) (fun f hf => (h5.1 f hf).1)) (h := ?_)
  refine R.move (h := ?_)
  refine R.extract (h := ?_)
  refine R.extract (h := ?_)
  refine R.assign (h := ?_)
  refine R.assign (h := ?_)
  refine .n0 ?_
  refine .seq ?_
  refine .seq ?_
  refine .region rfl ?_
  refine R.move (h := ?_)
  refine R.bin (run_neq _ _ _ _ _ _) (h := ?_)
  refine .n0 ?_
  refine LGo.ifb (ht := fun hc2 => ?_) (hf := fun hc2 => ?_)
  ·
   rw [if_pos hc2] at e1; rw [← e1]
   refine .seq ?_
   refine .region rfl ?_
   refine R.move (h := ?_)
   refine R.assign (h := ?_)
   refine R.assign (h := ?_)
   refine .n0 ?_
   refine LGo.nilRs 2 5 1 (h := ?_)
   exact LGo.ret (FnPost.finI [1] (res_TT Tryz.results77) hA hmd)
  ·
   rw [if_neg (by rw [hc2]; simp)] at e1; rw [← e1]
   refine .skip ?_
   refine .seq ?_
   refine .region rfl ?_
   first | refine R.field F48_0 (h := ?_) | refine R.fieldAt F48_0 (h := ?_)
   first | refine R.loadB O3 (h := ?_) | refine R.load1 O3 (h := ?_)
   refine R.convW Tryz.runUnderlying3 Tryz.runUnderlying5 (h := ?_)
   rw [show IntKind.u8.wrap r.kind = ((byt r.kind).toNat : Int) from by rw [byt_toNat _ hk.1 (by omega), IntKind.wrap_u8]; omega]
   refine R.buildSliceR AP44 (xs := [_]) (es := [_]) (hcs := CellsOfs.cons (CellsOf.one rfl) CellsOfs.nil) (h := ?_)
   refine R.move (h := ?_)
   refine R.appendS AP44 (hs := SrcOk.sl Tryz.underlying44 (bytesC_one _)) (hlen := by have h500 := encBy_len (rs := (rulesQ r.kind).1) h5.1; simp; rw [bytesC_length]; omega) (h := ?_)
   refine R.assign (h := ?_)
   refine R.assign (h := ?_)
   refine .n0 ?_
   exact LGo.ret (FnPost.finI [2] (res_TT Tryz.results77) hA hmd)
def spoilB (n : Int) (b : List UInt8) : List UInt8 := if n > 0 then b.set ((n - 1) % (b.length : Int)).toNat (b.getD ((n - 1) % (b.length : Int)).toNat 0 + 1) else b
def payS (c : SrC) (rid : Int) (tok blob : List UInt8) : List UInt8 × Int :=
  if aloneS c ≠ 0 then ([], aloneS c) else if c.kind = 0 then (c.raw, 0) else
  if (encQ (reqS c rid tok blob).1).2 ≠ 0 then ([], (encQ (reqS c rid tok blob).1).2) else (spoilB c.spoil (encQ (reqS c rid tok blob).1).1, 0)
theorem encQ_len {r : Rq} (hr : RqOk r) (hs : r.ses.length ≤ 500 ∧ r.tic.length ≤ 500) : (encQ r).1.length ≤ 100000 ∧ ((encQ r).2 = 0 → 0 < (encQ r).1.length) := by
  have h5 := fieldsOf_500 hr hs
  have h6 := encBy_len (rs := (rulesQ r.kind).1) h5.1
  have h7 := rulesQ_len r.kind
  unfold encQ
  split
  · rename_i h; exact ⟨Nat.zero_le _, fun h0 => absurd h0 (by simpa using h)⟩
  · split
    · rename_i h; exact ⟨Nat.zero_le _, fun h0 => absurd h0 (by simpa using h)⟩
    · exact ⟨by simp; omega, fun _ => by simp⟩
theorem alone_raw {c : SrC} (h : aloneS c = 0) : c.raw.length ≤ 600 := by
  unfold aloneS at h
  split at h
  · cases h
  split at h
  · cases h
  split at h
  · cases h
  · omega
theorem bytes_set1 (b : List UInt8) (k : Nat) (c : UInt8) : (bytesC b).set k [SV.val (.int .u8 (c.toNat : Int))] = bytesC (b.set k c) := by
  unfold bytesC; rw [List.map_set]
theorem u8_inc (c : UInt8) : IntKind.u8.wrap ((c.toNat : Int) + 1) = ((c + 1).toNat : Int) := by
  rw [IntKind.wrap_u8, UInt8.toNat_add]
  have := c.toNat_lt
  rw [show (1 : UInt8).toNat = 1 from rfl]
  omega
theorem payS_P (c : SrC) (h : c.ok) (rid : Int) (hi : 0 ≤ rid ∧ rid < 18446744073709551616) (tok blob : List UInt8) (ht : tok.length ≤ 400) (hb : blob.length ≤ 400) : PC Tryz.prog 19 [.agg (c.c.map LV.sv), .v (.int .u64 rid), .t tok, .t blob] (.tup [.sv (.sl 1 (bytesC (payS c rid tok blob).1)), .i (payS c rid tok blob).2]) := by
 refine ⟨LC.of_go Tryz.func19 (c := _) rfl (by kernel_rfl) (by rw [Tryz.ntmps19]; simp) rfl rfl (by simp [LO.lt, LV.lts, LV.lt, lts_sv]) (by simp) ?_⟩
 intro B hA hmd
 obtain ⟨g, e0⟩ : ∃ g, payS c rid tok blob = g := ⟨_, rfl⟩
 have e1 := e0
 unfold payS at e1
 rw [e0]
 have hsp := h.spoil
 unfold R64 at hsp
 refine .seq ?_
 refine .region rfl ?_
 refine R.box (h := ?_)
 refine R.assign (h := ?_)
 refine R.assign (h := ?_)
 refine .n0 ?_
 refine .seq ?_
 refine .seq ?_
 refine .region rfl ?_
 first | refine R.loadA A40 (h := ?_) | refine R.loadN A40 (h := ?_) | refine R.loadP A40 (h := ?_)
 refine R.callP (es := [_]) (fun _ => aloneS_P c h) (h := ?_)
 refine R.assign (h := ?_)
 refine .n0 ?_
 refine .seq ?_
 refine .region rfl ?_
 refine R.move (h := ?_)
 refine R.bin (run_neq _ _ _ _ _ _) (h := ?_)
 refine .n0 ?_
 refine LGo.ifb (ht := fun hc => ?_) (hf := fun hc => ?_)
 ·
  rw [if_pos (by simpa using hc)] at e1
  rw [← e1]
  refine .seq ?_
  refine .region rfl ?_
  refine R.move (h := ?_)
  refine R.assign (h := ?_)
  refine R.assign (h := ?_)
  refine .n0 ?_
  first | refine LGo.frzT 8 (h := ?_) | refine LGo.nilSl 8 1 (h := ?_) | skip
  exact LGo.ret (ret_TT Tryz.results19 hA hmd)
 ·
  rw [if_neg (by simpa using hc)] at e1
  refine .skip ?_
  refine .seq ?_
  refine .seq ?_
  refine .region rfl ?_
  first | refine R.field F40_0 (h := ?_) | refine R.fieldAt F40_0 (h := ?_)
  first | refine R.loadB O3 (h := ?_) | refine R.load1 O3 (h := ?_)
  refine R.bin (run_eql _ _ _ _ _ _) (h := ?_)
  refine .n0 ?_
  refine LGo.ifd (ht := fun hc2 => ?_) (hf := fun hc2 => ?_)
  ·
   have hrw := alone_raw (show aloneS c = 0 by simpa using hc)
   rw [if_pos hc2] at e1
   rw [← e1]
   refine .seq ?_
   refine .region rfl ?_
   first | refine R.field F40_10 (h := ?_) | refine R.fieldAt F40_10 (h := ?_)
   first | refine R.loadB O9 (h := ?_) | refine R.load1 O9 (h := ?_)
   refine R.toBytes Tryz.underlying9 Tryz.underlying44 Tryz.underlying5 (hl := by first | omega | (simp; omega)) (h := ?_)
   refine R.assign (h := ?_)
   refine R.assign (h := ?_)
   refine .n0 ?_
   first | refine LGo.frzT 8 (h := ?_) | refine LGo.nilSl 8 1 (h := ?_) | skip
   exact LGo.ret (ret_TT Tryz.results19 hA hmd)
  ·
   rw [if_neg hc2] at e1
   have hro := reqS_ok h hi (tok := tok) (blob := blob) (by omega) (by omega)
   have hrl : (reqS c rid tok blob).1.ses.length ≤ 500 ∧ (reqS c rid tok blob).1.tic.length ≤ 500 := by
     have h1 := orZ_len tok 44
     have h2 := orZ_len blob 56
     unfold reqS
     split
     · exact ⟨Nat.zero_le _, Nat.zero_le _⟩
     · dsimp only
       exact ⟨by split; omega; exact Nat.zero_le _, by split; omega; exact Nat.zero_le _⟩
   have hel := encQ_len hro hrl
   have hL := encQ_L _ hro hrl
   have hq : encQ (reqS c rid tok blob).1 = ((encQ (reqS c rid tok blob).1).1, (encQ (reqS c rid tok blob).1).2) := rfl
   generalize (encQ (reqS c rid tok blob).1).1 = b at e1 hel hL
   generalize (encQ (reqS c rid tok blob).1).2 = er at e1 hel hL
   clear hq
   refine .skip ?_
   refine .seq ?_
   refine .region rfl ?_
   first | refine R.loadA A40 (h := ?_) | refine R.loadN A40 (h := ?_) | refine R.loadP A40 (h := ?_)
   refine R.move (h := ?_)
   refine R.move (h := ?_)
   refine R.move (h := ?_)
   refine R.callP (es := [_, _, _, _]) (fun _ => reqS_P c rid tok blob) (h := ?_)
   refine R.move (h := ?_)
   refine R.extract (h := ?_)
   refine R.extract (h := ?_)
   refine R.alloc Z48 (h := ?_)
   refine R.storeA A48 (h := ?_)
   refine R.assign (h := ?_)
   refine .n0 ?_
   refine .seq ?_
   refine .region rfl ?_
   first | refine R.loadA A48 (h := ?_) | refine R.loadN A48 (h := ?_) | refine R.loadP A48 (h := ?_)
   refine R.callX (es := [_]) [] hL (h := ?_)
   refine R.move (h := ?_)
   refine R.extract (h := ?_)
   refine R.extract (h := ?_)
   refine R.assign (h := ?_)
   refine R.assign (h := ?_)
   refine .n0 ?_
   refine .seq ?_
   refine .seq ?_
   refine .region rfl ?_
   refine R.move (h := ?_)
   refine R.bin (run_neq _ _ _ _ _ _) (h := ?_)
   refine .n0 ?_
   refine LGo.ifb (ht := fun hc3 => ?_) (hf := fun hc3 => ?_)
   ·
    rw [if_pos (by simpa using hc3)] at e1
    rw [← e1]
    refine .seq ?_
    refine .region rfl ?_
    refine R.move (h := ?_)
    refine R.assign (h := ?_)
    refine R.assign (h := ?_)
    refine .n0 ?_
    first | refine LGo.frzT 8 (h := ?_) | refine LGo.nilSl 8 1 (h := ?_) | skip
    exact LGo.ret (ret_TT Tryz.results19 hA hmd)
   ·
    have he0 : er = 0 := by simpa using hc3
    have hbl := hel.2 he0
    rw [if_neg (by simp [he0])] at e1
    unfold spoilB at e1
    refine .skip ?_
    refine .seq ?_
    refine .seq ?_
    refine .region rfl ?_
    first | refine R.field F40_9 (h := ?_) | refine R.fieldAt F40_9 (h := ?_)
    first | refine R.loadB O3 (h := ?_) | refine R.load1 O3 (h := ?_)
    refine R.bin (run_gtr _ _ _ _ _ _) (h := ?_)
    refine .n0 ?_
    refine LGo.ifd (ht := fun hc4 => ?_) (hf := fun hc4 => ?_)
    ·
     rw [if_pos hc4] at e1
     refine .region rfl ?_
     refine R.move (h := ?_)
     first | refine R.field F40_9 (h := ?_) | refine R.fieldAt F40_9 (h := ?_)
     first | refine R.loadB O3 (h := ?_) | refine R.load1 O3 (h := ?_)
     first | refine R.sub (h := ?_) | refine R.subW (h := ?_)
     refine R.move (h := ?_)
     first | refine R.len S44 (h := ?_) | refine R.lenRs S44 (h := ?_) | refine R.lenV (run_lenNil S44) (h := ?_)
     rw [bytesC_length]
     refine R.rem (h := ?_)
     obtain ⟨k, hk, hk2⟩ : ∃ k : Nat, (c.spoil - 1) % (b.length : Int) = k ∧ k < b.length := ⟨((c.spoil - 1) % (b.length : Int)).toNat, by have := Int.emod_nonneg (c.spoil - 1) (show (b.length : Int) ≠ 0 by omega); omega, by have := Int.emod_lt_of_pos (c.spoil - 1) (show (0 : Int) < b.length by omega); omega⟩
     rw [hk]
     rw [hk, Int.toNat_natCast, List.getD_eq_getElem?_getD, List.getElem?_eq_getElem hk2, Option.getD_some] at e1
     refine R.indexRs I44 (hj := fun _ => ⟨by omega, by rw [bytesC_length]; omega⟩) (h := ?_)
     rw [Int.toNat_natCast]
     refine R.loadRs1 O5 k 0 (ev := [SV.val (.int .u8 (b[k].toNat : Int))]) (c := SV.val (.int .u8 (b[k].toNat : Int))) (hj := fun _ => ⟨by simp [bytesC, hk2], rfl⟩) (h := ?_)
     refine R.addW (h := ?_)
     rw [u8_inc]
     refine R.indexRs I44 (hj := fun _ => ⟨by omega, by rw [bytesC_length]; omega⟩) (h := ?_)
     rw [Int.toNat_natCast]
     refine R.storeRs1 O5 k 0 [SV.val (.int .u8 (b[k].toNat : Int))] (hj := by simp [bytesC, hk2]) (h := ?_)
     rw [show (bytesC b).set k (List.set [SV.val (.int .u8 (b[k].toNat : Int))] 0 (SV.val (.int .u8 ((b[k] + 1).toNat : Int)))) = bytesC (b.set k (b[k] + 1)) from bytes_set1 b k (b[k] + 1)]
     rw [← e1]
     refine .n0 ?_
     refine .seq ?_
     refine .region rfl ?_
     refine R.move (h := ?_)
     refine R.assign (h := ?_)
     refine R.assign (h := ?_)
     refine .n0 ?_
     first | refine LGo.frzT 8 (h := ?_) | refine LGo.nilSl 8 1 (h := ?_) | skip
     exact LGo.ret (ret_TT Tryz.results19 hA hmd)
    ·
     rw [if_neg hc4] at e1
     rw [← e1]
     refine .skip ?_
     refine .seq ?_
     refine .region rfl ?_
     refine R.move (h := ?_)
     refine R.assign (h := ?_)
     refine R.assign (h := ?_)
     refine .n0 ?_
     first | refine LGo.frzT 8 (h := ?_) | refine LGo.nilSl 8 1 (h := ?_) | skip
     exact LGo.ret (ret_TT Tryz.results19 hA hmd)
theorem cloneV (xs : List (List SV)) (hsz : ∀ e ∈ xs, e.length = 3) (hl : xs.length ≤ 100000) : LC Tryz.prog 160 0 [.sv (.sl 3 xs)] [] (.ref 0) [(0, .rs 80 3 xs)] 1 := by
 refine LC.of_go Tryz.func160 (c := _) rfl (by kernel_rfl) (by rw [Tryz.ntmps160]; simp) rfl rfl (by simp [LO.lt, LV.lts, LV.lt, lts_sv]) (by simp) ?_
 intro B hA hmd
 refine .seq ?_
 refine .region rfl ?_
 refine R.assign (h := ?_)
 refine .n0 ?_
 refine .seq ?_
 refine .seq ?_
 refine .region rfl ?_
 refine R.move (h := ?_)
 rcases Classical.em (xs = []) with h0 | h0
 ·
  refine R.nilU (hT := Tryz.underlying22) (h := ?_)
  refine .n0 ?_
  refine LGo.ifU (ht := ?_) (hf := ?_)
  ·
   refine .seq ?_
   refine .region rfl ?_
   refine R.assign (h := ?_)
   refine .n0 ?_
   subst h0
   refine LGo.nilRs 2 80 3 (h := ?_)
   exact LGo.ret (FnPost.finI [0] (res_T Tryz.results160) hA hmd)
  ·
   refine .skip ?_
   refine .seq ?_
   refine .region rfl ?_
   refine R.buildSliceR AP22 (xs := []) (es := []) (hcs := CellsOfs.nil) (h := ?_)
   refine R.move (h := ?_)
   refine R.appendS AP22 (hs := SrcOk.sl Tryz.underlying22 (hsz)) (hlen := by simp; omega) (h := ?_)
   refine R.assign (h := ?_)
   refine .n0 ?_
   exact LGo.ret (FnPost.finI [1] (res_T Tryz.results160) hA hmd)
 ·
  refine R.nilF false (hT := Tryz.underlying22) (hne := fun _ => h0) (h := ?_)
  refine .n0 ?_
  refine LGo.ifb (ht := fun hc2 => by simp at hc2) (hf := fun hc2 => ?_)
  refine .skip ?_
  refine .seq ?_
  refine .region rfl ?_
  refine R.buildSliceR AP22 (xs := []) (es := []) (hcs := CellsOfs.nil) (h := ?_)
  refine R.move (h := ?_)
  refine R.appendS AP22 (hs := SrcOk.sl Tryz.underlying22 (hsz)) (hlen := by simp; omega) (h := ?_)
  refine R.assign (h := ?_)
  refine .n0 ?_
  exact LGo.ret (FnPost.finI [1] (res_T Tryz.results160) hA hmd)
theorem cloneC (xs : List (List SV)) (hsz : ∀ e ∈ xs, e.length = 11) (hl : xs.length ≤ 100000) : LC Tryz.prog 163 0 [.sv (.sl 11 xs)] [] (.ref 0) [(0, .rs 40 11 xs)] 1 := by
 refine LC.of_go Tryz.func163 (c := _) rfl (by kernel_rfl) (by rw [Tryz.ntmps163]; simp) rfl rfl (by simp [LO.lt, LV.lts, LV.lt, lts_sv]) (by simp) ?_
 intro B hA hmd
 refine .seq ?_
 refine .region rfl ?_
 refine R.assign (h := ?_)
 refine .n0 ?_
 refine .seq ?_
 refine .seq ?_
 refine .region rfl ?_
 refine R.move (h := ?_)
 rcases Classical.em (xs = []) with h0 | h0
 ·
  refine R.nilU (hT := Tryz.underlying26) (h := ?_)
  refine .n0 ?_
  refine LGo.ifU (ht := ?_) (hf := ?_)
  ·
   refine .seq ?_
   refine .region rfl ?_
   refine R.assign (h := ?_)
   refine .n0 ?_
   subst h0
   refine LGo.nilRs 2 40 11 (h := ?_)
   exact LGo.ret (FnPost.finI [0] (res_T Tryz.results163) hA hmd)
  ·
   refine .skip ?_
   refine .seq ?_
   refine .region rfl ?_
   refine R.buildSliceR AP26 (xs := []) (es := []) (hcs := CellsOfs.nil) (h := ?_)
   refine R.move (h := ?_)
   refine R.appendS AP26 (hs := SrcOk.sl Tryz.underlying26 (hsz)) (hlen := by simp; omega) (h := ?_)
   refine R.assign (h := ?_)
   refine .n0 ?_
   exact LGo.ret (FnPost.finI [1] (res_T Tryz.results163) hA hmd)
 ·
  refine R.nilF false (hT := Tryz.underlying26) (hne := fun _ => h0) (h := ?_)
  refine .n0 ?_
  refine LGo.ifb (ht := fun hc2 => by simp at hc2) (hf := fun hc2 => ?_)
  refine .skip ?_
  refine .seq ?_
  refine .region rfl ?_
  refine R.buildSliceR AP26 (xs := []) (es := []) (hcs := CellsOfs.nil) (h := ?_)
  refine R.move (h := ?_)
  refine R.appendS AP26 (hs := SrcOk.sl Tryz.underlying26 (hsz)) (hlen := by simp; omega) (h := ?_)
  refine R.assign (h := ?_)
  refine .n0 ?_
  exact LGo.ret (FnPost.finI [1] (res_T Tryz.results163) hA hmd)
theorem cloneEv_P (xs : List (List SV)) (hsz : ∀ e ∈ xs, e.length = 3) (hl : xs.length ≤ 100000) : PC Tryz.prog 86 [.sv (.sl 3 xs)] (.sv (.sl 3 xs)) := by
 refine ⟨LC.of_go Tryz.func86 (c := _) rfl (by kernel_rfl) (by rw [Tryz.ntmps86]; simp) rfl rfl (by simp [LO.lt, LV.lts, LV.lt, lts_sv]) (by simp) ?_⟩
 intro B hA hmd
 refine .seq ?_
 refine .region rfl ?_
 refine R.assign (h := ?_)
 refine .n0 ?_
 refine .seq ?_
 refine .seq ?_
 refine .region rfl ?_
 refine R.move (h := ?_)
 rcases Classical.em (xs = []) with h0 | h0
 ·
  refine R.nilU (hT := Tryz.underlying27) (h := ?_)
  refine .n0 ?_
  refine LGo.ifU (ht := ?_) (hf := ?_)
  ·
   refine .seq ?_
   refine .region rfl ?_
   refine R.assign (h := ?_)
   refine .n0 ?_
   subst h0
   refine LGo.nilSl 2 3 (h := ?_)
   exact LGo.ret (ret_T Tryz.results86 hA hmd)
  ·
   refine .skip ?_
   refine .seq ?_
   refine .region rfl ?_
   refine R.buildSliceR AP27 (xs := []) (es := []) (hcs := CellsOfs.nil) (h := ?_)
   refine R.move (h := ?_)
   refine R.appendS AP27 (hs := SrcOk.sl Tryz.underlying27 (hsz)) (hlen := by simp; omega) (h := ?_)
   refine R.assign (h := ?_)
   refine .n0 ?_
   first | refine LGo.frzT 2 (h := ?_) | refine LGo.nilSl 2 3 (h := ?_) | skip
   exact LGo.ret (ret_T Tryz.results86 hA hmd)
 ·
  refine R.nilF false (hT := Tryz.underlying27) (hne := fun _ => h0) (h := ?_)
  refine .n0 ?_
  refine LGo.ifb (ht := fun hc2 => by simp at hc2) (hf := fun hc2 => ?_)
  refine .skip ?_
  refine .seq ?_
  refine .region rfl ?_
  refine R.buildSliceR AP27 (xs := []) (es := []) (hcs := CellsOfs.nil) (h := ?_)
  refine R.move (h := ?_)
  refine R.appendS AP27 (hs := SrcOk.sl Tryz.underlying27 (hsz)) (hlen := by simp; omega) (h := ?_)
  refine R.assign (h := ?_)
  refine .n0 ?_
  first | refine LGo.frzT 2 (h := ?_) | refine LGo.nilSl 2 3 (h := ?_) | skip
  exact LGo.ret (ret_T Tryz.results86 hA hmd)
theorem set_sec (l : List VnS) (k : Nat) (g : VnS) (h : l[k]? = some g) : (l.map VnS.c).set k (g.c.set 1 (.sl 1 (ic .i64 g.rows))) = l.map VnS.c := by
  have : g.c.set 1 (.sl 1 (ic .i64 g.rows)) = g.c := rfl
  rw [this, ← List.map_set]
  congr 1
  obtain ⟨hk, rfl⟩ := List.getElem?_eq_some_iff.1 h
  exact List.set_getElem_self hk
theorem vs_ones (l : List VnS) : ∀ e ∈ l.map VnS.c, e.length = 3 := by intro e he; obtain ⟨g, _, rfl⟩ := List.mem_map.1 he; rfl
theorem sc_ones (l : List SrC) : ∀ e ∈ l.map SrC.c, e.length = 11 := by intro e he; obtain ⟨g, _, rfl⟩ := List.mem_map.1 he; rfl
theorem se_ones (l : List SrE) : ∀ e ∈ l.map SrE.c, e.length = 3 := by intro e he; obtain ⟨g, _, rfl⟩ := List.mem_map.1 he; rfl
def exVen : Ven := ⟨3, 10, 100, [⟨[104, 97, 108, 108], [3, 2], 2⟩, ⟨[98, 111, 120], [2], 0⟩]⟩
def exEvs : List SrE := [⟨1, 0, 1⟩, ⟨2, 2, 0⟩, ⟨4, 5, 0⟩, ⟨2, 0, 0⟩]
def exSc : Sc := ⟨exVen, [107], [⟨[0], 0, 50⟩], 2, [⟨1, 7, 0, 0, 0, 0, 0, 0, 0, 0, []⟩, ⟨2, 0, 0, 1, 0, 3, 0, 0, 0, 0, []⟩], exEvs⟩
def tickS (s : Sc) : Bool := s.evs.any fun x => decide (x.kind = 4)
theorem ticks_P (s : Sc) (he : s.evs.length ≤ maxLen) : PC Tryz.prog 38 [.agg (s.c.map LV.sv)] (.b (tickS s)) := by
 refine ⟨LC.of_go Tryz.func38 (c := _) rfl (by kernel_rfl) (by rw [Tryz.ntmps38]; simp) rfl rfl (by simp [LO.lt, LV.lts, LV.lt, lts_sv]) (by simp) ?_⟩
 intro B hA hmd
 obtain ⟨g, e0⟩ : ∃ g, tickS s = g := ⟨_, rfl⟩
 have e1 := e0
 unfold tickS at e1
 rw [e0]
 unfold maxLen at he
 refine .seq ?_
 refine .region rfl ?_
 refine R.box (h := ?_)
 refine R.assign (h := ?_)
 refine .n0 ?_
 refine .seq ?_
 refine .seq ?_
 refine .region rfl ?_
 refine R.assign (h := ?_)
 refine .n0 ?_
 refine .block ?_
 refine .loop ?_
 refine LGo.loopG (σ := Nat) (fun x => x ≤ s.evs.length ∧ ((s.evs.drop x).any fun x => decide (x.kind = 4)) = g) (fun x => [(3, (true, .i (x : Nat)))]) (fun x => [(0, .box 29 (s.c.map LV.sv))]) (fun x => s.evs.length - x) (0) [(1, _)] ⟨Nat.zero_le _, e1⟩ (by repeat (first | exact trivial | refine ⟨rfl, ?_⟩)) (by repeat (first | exact trivial | refine ⟨rfl, ?_⟩)) (by repeat (first | exact trivial | refine ⟨rfl, ?_⟩)) ?_
 rintro k ⟨hk, hq⟩ ih
 refine .seq ?_
 refine .seq ?_
 refine .region rfl ?_
 refine R.move (h := ?_)
 first | refine R.field F29_5 (h := ?_) | refine R.fieldAt F29_5 (h := ?_)
 first | refine R.loadB O27 (h := ?_) | refine R.load1 O27 (h := ?_)
 first | refine R.len S27 (h := ?_) | refine R.lenRs S27 (h := ?_) | refine R.lenV (run_lenNil S27) (h := ?_)
 rw [List.length_map]
 refine R.bin (run_lss _ _ _ _ _ _) (h := ?_)
 refine .n0 ?_
 refine LGo.ifd (ht := fun hc => ?_) (hf := fun hc => ?_)
 ·
  have hlt : k < s.evs.length := by omega
  have hx : (s.evs.map SrE.c)[((k : Nat) : Int).toNat]? = some s.evs[k].c := by simp [hlt]
  have hd : s.evs.drop k = s.evs[k] :: s.evs.drop (k + 1) := List.drop_eq_getElem_cons hlt
  rw [hd, List.any_cons] at hq
  generalize s.evs[k] = z at hx hq
  clear hd
  refine .skip ?_
  refine .seq ?_
  refine .block ?_
  refine .seq ?_
  refine .region rfl ?_
  first | refine R.field F29_5 (h := ?_) | refine R.fieldAt F29_5 (h := ?_)
  first | refine R.loadB O27 (h := ?_) | refine R.load1 O27 (h := ?_)
  refine R.move (h := ?_)
  refine R.index I27 (hj := fun hg => ⟨by omega, hx⟩) (h := ?_)
  first | refine R.field F58_0 (h := ?_) | refine R.fieldAt F58_0 (h := ?_)
  first | refine R.loadB O3 (h := ?_) | refine R.load1 O3 (h := ?_)
  refine R.bin (run_eql _ _ _ _ _ _) (h := ?_)
  refine .n0 ?_
  refine LGo.ifd (ht := fun hc2 => ?_) (hf := fun hc2 => ?_)
  ·
   rw [decide_eq_true hc2, Bool.true_or] at hq
   rw [← hq]
   refine .seq ?_
   refine .region rfl ?_
   refine R.assign (h := ?_)
   refine .n0 ?_
   exact LGo.ret (ret_T Tryz.results38 hA hmd)
  ·
   rw [decide_eq_false hc2, Bool.false_or] at hq
   refine .skip ?_
   refine .inBlock ?_
   refine .region rfl ?_
   refine R.move (h := ?_)
   first | refine R.add (h := ?_) | refine R.addW (h := ?_)
   refine R.assign (h := ?_)
   refine .n0 ?_
   refine .inLoop ?_
   exact LGo.next _ (fun o h => by have := (hA o).1 h; omega) (by omega) (ih (k + 1) ⟨by omega, hq⟩ (by omega)) (by repeat (first | exact trivial | refine ⟨rfl, ?_⟩)) ⟨rfl, trivial⟩
 ·
  rw [List.drop_eq_nil_of_le (show s.evs.length ≤ k by omega), List.any_nil] at hq
  rw [← hq]
  refine .exit rfl ?_
  refine .seq ?_
  refine .region rfl ?_
  refine R.assign (h := ?_)
  refine .n0 ?_
  exact LGo.ret (ret_T Tryz.results38 hA hmd)
theorem exSc_L : LC Tryz.prog 36 0 [] [] (.agg ((exSc.c.map LV.sv).set 8 (.ref 0))) [(0, .rs 58 3 (exEvs.map SrE.c))] 1 := by
 refine LC.of_go Tryz.func36 (c := _) rfl (by kernel_rfl) (by rw [Tryz.ntmps36]; simp) rfl rfl (by simp [LO.lt, LV.lts, LV.lt, lts_sv]) (by simp) ?_
 intro B hA hmd
 refine .seq ?_
 refine .region rfl ?_
 refine R.alloc Z29 (h := ?_)
 refine .n0 ?_
 refine .seq ?_
 refine .region rfl ?_
 refine R.buildSliceG AP65 (xs := [_, _]) (es := [_, _]) (hcs := CellsOfs.cons (CellsOf.one rfl) (CellsOfs.cons (CellsOf.one rfl) CellsOfs.nil)) (h := ?_)
 refine R.build BF80 (is := [0, 1, 2]) (xs := [_, _, _]) (es := [_, _, _]) (h := ?_)
 refine R.buildSliceG AP65 (xs := [_]) (es := [_]) (hcs := CellsOfs.cons (CellsOf.one rfl) CellsOfs.nil) (h := ?_)
 refine R.build BF80 (is := [0, 1]) (xs := [_, _]) (es := [_, _]) (h := ?_)
 refine R.buildSliceG AP22 (xs := [_, _]) (es := [_, _]) (hcs := CellsOfs.cons (CellsOf.agg rfl) (CellsOfs.cons (CellsOf.agg rfl) CellsOfs.nil)) (h := ?_)
 refine R.build BF24 (is := [0, 1, 2, 3]) (xs := [_, _, _, _]) (es := [_, _, _, _]) (h := ?_)
 refine R.buildSliceG AP65 (xs := [_]) (es := [_]) (hcs := CellsOfs.cons (CellsOf.one rfl) CellsOfs.nil) (h := ?_)
 refine R.build BF71 (is := [0, 2]) (xs := [_, _]) (es := [_, _]) (h := ?_)
 refine R.buildSliceG AP25 (xs := [_]) (es := [_]) (hcs := CellsOfs.cons (CellsOf.agg rfl) CellsOfs.nil) (h := ?_)
 refine R.build BF40 (is := [0, 1]) (xs := [_, _]) (es := [_, _]) (h := ?_)
 refine R.build BF40 (is := [0, 3, 5]) (xs := [_, _, _]) (es := [_, _, _]) (h := ?_)
 refine R.buildSliceG AP26 (xs := [_, _]) (es := [_, _]) (hcs := CellsOfs.cons (CellsOf.agg rfl) (CellsOfs.cons (CellsOf.agg rfl) CellsOfs.nil)) (h := ?_)
 refine R.build BF58 (is := [0, 2]) (xs := [_, _]) (es := [_, _]) (h := ?_)
 refine R.build BF58 (is := [0, 1]) (xs := [_, _]) (es := [_, _]) (h := ?_)
 refine R.build BF58 (is := [0, 1]) (xs := [_, _]) (es := [_, _]) (h := ?_)
 refine R.build BF58 (is := [0]) (xs := [_]) (es := [_]) (h := ?_)
 refine R.buildSliceR AP27 (xs := [_, _, _, _]) (es := [(true, .agg ((SrE.mk 1 0 1).c.map LV.sv)), (true, .agg ((SrE.mk 2 2 0).c.map LV.sv)), (true, .agg ((SrE.mk 4 5 0).c.map LV.sv)), (true, .agg ((SrE.mk 2 0 0).c.map LV.sv))]) (hcs := CellsOfs.cons (CellsOf.agg rfl) (CellsOfs.cons (CellsOf.agg rfl) (CellsOfs.cons (CellsOf.agg rfl) (CellsOfs.cons (CellsOf.agg rfl) (CellsOfs.nil))))) (h := ?_)
 refine R.buildA BG29 (is := [0, 1, 2, 3, 4, 5]) (ks := [0, 4, 5, 6, 7, 8]) (xs := [_, _, _, _, _, _]) (es := [_, _, _, _, _, _]) (hcs := CellsOfs.cons (CellsOf.agg rfl) (CellsOfs.cons (CellsOf.one rfl) (CellsOfs.cons (CellsOf.one rfl) (CellsOfs.cons (CellsOf.one rfl) (CellsOfs.cons (CellsOf.one rfl) (CellsOfs.cons (CellsOf.one rfl) (CellsOfs.nil))))))) (h := ?_)
 refine R.storeA A29 (h := ?_)
 refine .n0 ?_
 exact LGo.ret (FnPost.finI [1] (res_A Tryz.results36 A29) hA hmd)
/-- as0 `seeL`, and into a struct -/
def seeA (rd : List (Nat × LO)) : LV → LV
  | .agg cs => .agg (cs.map (seeL rd))
  | l => seeL rd l
theorem V.seeA {md : Nat → Prop} {n0 : Nat} {cx : Cx} {H : Hp} {w : World} {rd : List (Nat × LO)} (hok : HOk md n0 cx H w) (hrd : ∀ o x, hp rd o = some x → H o = some x) (hext : Ext cx.pr w (raise cx w rd) w) :
    ∀ (l : LV) (x : Value), V cx w l x → V ⟨raise cx w rd, cx.A, cx.loc, cx.inn⟩ w (seeA rd l) x := by
  intro l x h
  cases l with
  | agg cs =>
    simp only [seeA, V] at h ⊢
    obtain ⟨vs, rfl, h2⟩ := h
    exact ⟨vs, rfl, Vs.see hok hrd hext cs vs h2⟩
  | _ => exact V.see hok hrd hext _ x h
theorem Vs.seeA {md : Nat → Prop} {n0 : Nat} {cx : Cx} {H : Hp} {w : World} {rd : List (Nat × LO)} (hok : HOk md n0 cx H w) (hrd : ∀ o x, hp rd o = some x → H o = some x) (hext : Ext cx.pr w (raise cx w rd) w) :
    ∀ (l : List LV) (x : List Value), Vs cx w l x → Vs ⟨raise cx w rd, cx.A, cx.loc, cx.inn⟩ w (l.map (seeA rd)) x
  | [], x, h => by simpa [Vs] using h
  | c :: cs, x, h => by
    simp only [Vs, List.map_cons] at h ⊢
    obtain ⟨y, r, h1, h2, h3⟩ := h
    exact ⟨y, r, h1, V.seeA hok hrd hext c y h2, Vs.seeA hok hrd hext cs r h3⟩
section
variable {P : Program} {r : Option Nat} {N : Nat} {D : List Nat} {B : Base} {all : Array Oper} {K : List (Nat × Ct) → St → Prop}
variable {i : Nat} {ops : List Oper} {tr : List (Nat × Ct)} {E : List (Nat × Ent)} {L : List (Nat × LO)} {n : Nat} {g : Bool} {gn : List (Nat × Ent)}
variable {d ty : Nat} {pos : String} {aft : Array Edge} {gd : Option (Nat × Bool)}
/-- a call of a function that touches no object, handed structs with slices of one's own to look at -/
theorem R.callVA {f : FuncId} {args : Array Operand} {ats : Array TypeId} {es : List Ent} {rd : List (Nat × LO)} {lvs : List LV} {out : LV} (hc : g = true → PC P f lvs out)
    (hrd : ∀ k x, hp rd k = some x → hp L k = some x) (hplain : out.plain = true := by rfl)
    (ho : all[i]? = some ⟨some d, .call { callee := .value (.func f), args := args, argTypes := ats }, ty, pos, aft, gd⟩ := by rfl) (hg : GuardOk (en E) all gd g gn := by first | exact gN | exact gS rfl rfl)
    (hx : args.toList.map (lvOf (en E)) = es.map some := by rfl) (hes : g = true → (es.map entLV).map (seeA rd) = lvs := by first | exact fun _ => rfl | (intro h; simp [entLV, seeA, seeL, h]))
    (h : Reg P r N D B all (i + 1) ops ((i, Ct.p gn (.func f :: args.toList) ((true, .fn (.func f) [] []) :: es) (some d) (g, out) rd) :: tr) (st ((d, (g, out)) :: E) L n) K) :
    Reg P r N D B all i (⟨some d, .call { callee := .value (.func f), args := args, argTypes := ats }, ty, pos, aft, gd⟩ :: ops) tr (st E L n) K := by
  have hl : (Oper.mk (some d) (.call { callee := .value (.func f), args := args, argTypes := ats }) ty pos aft gd).op.operands.toList = .func f :: args.toList := by simp [Op.operands, Go.Call.operands]
  refine Reg.pure (es := (true, .fn (.func f) [] []) :: es) (rd := rd) (out := out) ho hg ?_ hrd (fun hgt => ?_) ?_
  · rw [hl]; exact ⟨_, _, rfl, rfl, Opnds.of_map hx⟩
  · have h1 := (hc hgt).lc
    refine ⟨by simp, fun md n0 cx H a w K Q hok ham hrd hHi hnew hv hK => ?_⟩
    rw [hl] at hv
    simp only [List.map_cons, Vs] at hv
    obtain ⟨vf, rest, he, hvf, hva⟩ := hv
    simp only [List.cons.injEq] at he
    obtain ⟨rfl, rfl⟩ := he
    have hraise : ∀ b, blks cx (hp rd) b → cx.pr b = 0 ∧ b < w.heap.size := fun b ⟨o, x, hx, hb⟩ => by
      have := hok.own o x b (hrd o x hx) hb
      exact ⟨this.1, this.2.1⟩
    have hext : Ext cx.pr w (raise cx w rd) w := fun b off hbo => ⟨by
      unfold raise
      split
      · rename_i hh; have := (hraise b hh).1; omega
      · exact hbo, rfl⟩
    have hva0 := Vs.seeA hok hrd hext _ _ hva
    rw [hes hgt] at hva0
    let c1 : Cx := ⟨raise cx w rd, fun o => o < 0, cx.loc, cx.inn⟩
    have hva1 : Vs c1 w lvs (args.toList.map a.eval) := Vs.unren (cx1 := c1) (cx2 := ⟨raise cx w rd, cx.A, cx.loc, cx.inn⟩) (σ := id) (m := 0) rfl (fun o ho => absurd ho (Nat.not_lt_zero o)) _ _ h1.args (by rw [mapIs_of_lt0 _ _ h1.args]; exact hva0)
    have hlim1 : ∀ b, 0 < raise cx w rd b → b < w.heap.size := fun b hb => by
      unfold raise at hb
      split at hb
      · rename_i hh; exact (hraise b hh).2
      · exact hok.lim b hb
    have hok1 : HOk (fun _ => True) 0 c1 (hp []) w := ⟨fun o x hx => by simp at hx, fun o x b hx => by simp at hx, fun o o' x x' b _ hx => by simp at hx, hlim1⟩
    have hrun := run_call (P := P) h1.entr [] [] { callee := .value (.func f), args := args, argTypes := ats } (.func f) rfl a.eval rfl ty w
    refine ⟨fun _ _ => trivial, ?_⟩
    rw [Oper.semAt_eq _ _ _ (by simp)]
    have : (execOp a.eval ⟨some d, .call { callee := .value (.func f), args := args, argTypes := ats }, ty, pos, aft, gd⟩).run P w = .ok (.enter f (args.toList.map a.eval).toArray) w := by
      unfold execOp; simpa using hrun
    rw [this, Oper.uponIn_enter]
    refine ⟨fun h => by simp [FW, Fence.wide] at h, callsIn_FW ((h1.go c1 w _ (fun o => Iff.rfl) hok1 (ham.ext hext) hva1).mono ?_)⟩
    rintro e w' ⟨v, c2, rfl, t, hvo⟩
    have hno : ∀ b, ¬ blks c1 (hp []) b := fun b ⟨o, x, hx, _⟩ => by simp at hx
    let pr3 : Nat → Nat := fun b => if b < w.heap.size then cx.pr b else c2.pr b
    let c3 : Cx := ⟨pr3, cx.A, cx.loc, cx.inn⟩
    have hp3 : ∀ b, b < w.heap.size → pr3 b = cx.pr b := fun b hb => by show (if b < w.heap.size then _ else _) = _; rw [if_pos hb]
    refine hK c3 w' v ⟨fun o ho => ⟨ho, rfl⟩, fun o => by simp [c3], ⟨t.grow.os, t.grow.tape, t.grow.output, t.grow.size, fun b hb hn => t.grow.same b hb (hno b), fun b hb hn => hp3 b hb, fun b off hbo => ?_⟩,
      ⟨fun o x hx => by simp at hx, fun o x b hx => by simp at hx, fun o o' x x' b _ hx => by simp at hx, fun b hb => ?_⟩, fun _ _ _ => rfl⟩ (V.plain _ _ hplain hvo)
    · have hbs := hok.lim b (by omega)
      refine ⟨by show off < pr3 b; rw [hp3 b hbs]; exact hbo, ?_⟩
      simp only [World.cell?, t.grow.same b hbs (hno b)]
    · rcases Nat.lt_or_ge b w.heap.size with hlt | hge
      · exact Nat.lt_of_lt_of_le hlt t.grow.size
      · have hb' : 0 < pr3 b := hb
        simp only [pr3] at hb'
        rw [if_neg (by omega)] at hb'
        exact t.heap.lim b hb'
  · rw [hl]; exact h
end
/-- the events but n from fr on -/
def leftS (l : List SrE) (fr n : Nat) : List SrE := l.take fr ++ l.drop (fr + n)
/-- how many were told before the k-th is looked at -/
def leftJ (fr n k : Nat) : Nat := if k ≤ fr then k else if k < fr + n then fr else k - n
def SrE.y (x : SrE) : List LV := [.agg (x.c.map LV.sv)]
theorem leftS_len {l : List SrE} {fr n : Nat} (h : fr + n ≤ l.length) : (leftS l fr n).length = l.length - n := by unfold leftS; rw [List.length_append, List.length_take, List.length_drop]; omega
theorem leftS_at {l : List SrE} {fr n k : Nat} {x : SrE} (h : fr + n ≤ l.length) (hx : l[k]? = some x) (hk : k < fr ∨ fr + n ≤ k) : ((leftS l fr n).map SrE.y)[leftJ fr n k]? = some x.y ∧ leftJ fr n (k + 1) = leftJ fr n k + 1 := by
  have hl : k < l.length := (List.getElem?_eq_some_iff.1 hx).1
  rw [List.getElem?_map]
  unfold leftS leftJ
  rcases hk with hk | hk
  · rw [if_pos (by omega), if_pos (by omega), List.getElem?_append_left (by rw [List.length_take]; omega), List.getElem?_take_of_lt hk, hx]
    exact ⟨rfl, rfl⟩
  · by_cases h0 : n = 0
    · subst h0
      rw [show (if k ≤ fr then k else if k < fr + 0 then fr else k - 0) = k from by (repeat' split) <;> omega, show (if k + 1 ≤ fr then k + 1 else if k + 1 < fr + 0 then fr else k + 1 - 0) = k + 1 from by (repeat' split) <;> omega, Nat.add_zero, List.take_append_drop, hx]
      exact ⟨rfl, rfl⟩
    · rw [if_neg (by omega), if_neg (by omega), if_neg (by omega), if_neg (by omega), List.getElem?_append_right (by rw [List.length_take]; omega), List.length_take, List.getElem?_drop, show fr + n + (k - n - min fr l.length) = k from by omega, hx]
      exact ⟨rfl, by omega⟩
theorem leftJ_in {fr n k : Nat} (hk : ¬ (k < fr ∨ fr + n ≤ k)) : leftJ fr n (k + 1) = leftJ fr n k := by
  unfold leftJ
  (repeat' split) <;> omega
theorem leftJ_le {l : List SrE} {fr n k : Nat} (h : fr + n ≤ l.length) (hk : k ≤ l.length) : leftJ fr n k ≤ (leftS l fr n).length := by
  rw [leftS_len h]; unfold leftJ
  (repeat' split) <;> omega
theorem leftJ_end {l : List SrE} {fr n : Nat} (h : fr + n ≤ l.length) : leftJ fr n l.length = (leftS l fr n).length := by
  rw [leftS_len h]; unfold leftJ
  (repeat' split) <;> omega
/-- the objects of a round: those of left -/
abbrev SW (A0 : Nat → LO) (A4 A5 : LO) (l : List SrE) (fr n : Nat) (j : Nat) : List (Nat × LO) := [(0, A0 j), (1, .box 27 [.sv (.sl 3 (l.map SrE.c))]), (2, .box 3 [.i fr]), (3, .box 3 [.i n]), (4, A4), (5, A5)]
theorem YG.all {P : Program} {y m : Nat} {xs : List (List LV)} {S : Nat → List (Nat × LO)} (h : YG P y m xs S) {j : Nat} (hj : j ≤ xs.length) : ((S j).all fun p => decide (p.1 < m) && p.2.lt m) = true := by
  rw [List.all_eq_true]
  intro p hp'
  have h1 : p.1 ∈ (S j).map (·.1) := List.mem_map.2 ⟨p, hp', rfl⟩
  rw [h.keys j hj, List.mem_range] at h1
  rw [h.lt j hj p hp', decide_eq_true h1]
  rfl
theorem without_L (l : List SrE) (fr n : Nat) : LC Tryz.prog 164 0 [.sv (.sl 3 (l.map SrE.c)), .i fr, .i n] [] (.fn (.func 215) [] [.ptr 0 0, .ptr 1 0, .ptr 2 0]) [(0, .box 27 [.sv (.sl 3 (l.map SrE.c))]), (1, .box 3 [.i fr]), (2, .box 3 [.i n])] 3 := by
 refine LC.of_go Tryz.func164 (c := _) rfl (by kernel_rfl) (by rw [Tryz.ntmps164]; simp) rfl rfl (by simp [LO.lt, LV.lts, LV.lt, lts_sv]) (by simp) ?_
 intro B hA hmd
 refine .seq ?_
 refine .region rfl ?_
 refine R.box (h := ?_)
 refine R.box (h := ?_)
 refine R.box (h := ?_)
 refine R.assign (h := ?_)
 refine .n0 ?_
 refine .seq ?_
 refine .region rfl ?_
 refine R.makeFunc (es := []) (fs := [_, _, _]) (h := ?_)
 refine R.assign (h := ?_)
 refine .n0 ?_
 exact LGo.ret (ret_T Tryz.results164 hA hmd)
theorem without1_L {l : List SrE} {fr n : Nat} {A0 : Nat → LO} {A4 A5 : LO} (hl : l.length ≤ 100000) (hfn : fr + n ≤ l.length) (h : YG Tryz.prog 5 6 ((leftS l fr n).map SrE.y) (SW A0 A4 A5 l fr n)) : LC Tryz.prog 215 6 [.yld 5, .ptr 1 0, .ptr 2 0, .ptr 3 0] (SW A0 A4 A5 l fr n 0) (.tup []) (SW A0 A4 A5 l fr n (leftS l fr n).length) 0 := by
 refine LC.of_go Tryz.func215 (c := _) rfl (by kernel_rfl) (by rw [Tryz.ntmps215]; simp) (by simp [LV.lts, LV.lt]) (h.keys 0 (by omega)) (h.lt 0 (by omega)) (fun p hp' => .inl (by rw [h.keys 0 (by omega), ← h.keys _ (by simp : (leftS l fr n).length ≤ _)]; exact List.mem_map.2 ⟨p, hp', rfl⟩)) ?_
 intro B hA hmd
 refine .seq ?_
 refine .region rfl ?_
 first | refine R.loadB O27 (h := ?_) | refine R.load1 O27 (h := ?_)
 first | refine R.len S27 (h := ?_) | refine R.lenRs S27 (h := ?_) | refine R.lenV (run_lenNil S27) (h := ?_)
 rw [List.length_map]
 refine R.move (h := ?_)
 refine .n0 ?_
 refine .block ?_
 refine .loop ?_
 refine LGo.loopG (σ := Nat) (fun x => x ≤ l.length) (fun x => [(9, (true, .i (x : Nat))), (2, (true, .ptr 2 0)), (3, (true, .ptr 3 0))]) (fun x => SW A0 A4 A5 l fr n (leftJ fr n x)) (fun x => l.length - x) (0) [(0, _), (7, _), (8, _)] (Nat.zero_le _) (by repeat (first | exact trivial | refine ⟨rfl, ?_⟩)) (by repeat (first | exact trivial | refine ⟨rfl, ?_⟩)) (by repeat (first | exact trivial | refine ⟨rfl, ?_⟩)) ?_
 rintro k hk ih
 refine .seq ?_
 refine .region rfl ?_
 refine R.bin (run_lss _ _ _ _ _ _) (h := ?_)
 refine .n0 ?_
 refine .seq ?_
 refine LGo.ifd (ht := fun hc => ?_) (hf := fun hc => ?_)
 ·
  have hlt : k < l.length := by omega
  have hx : (l.map SrE.c)[((k : Nat) : Int).toNat]? = some l[k].c := by simp [hlt]
  have hd : l.drop k = l[k] :: l.drop (k + 1) := List.drop_eq_getElem_cons hlt
  have hy := leftS_at hfn (List.getElem?_eq_getElem hlt)
  generalize l[k] = z at hx hy
  clear hd
  refine .skip ?_
  refine .seq ?_
  refine .block ?_
  refine .seq ?_
  refine .region rfl ?_
  refine R.move (h := ?_)
  refine R.index I27 (hj := fun hg => ⟨by omega, hx⟩) (h := ?_)
  first | refine R.loadA A58 (h := ?_) | refine R.loadN A58 (h := ?_) | refine R.loadP A58 (h := ?_)
  refine R.alloc Z58 (h := ?_)
  refine R.assign (h := ?_)
  refine R.storeA A58 (h := ?_)
  refine .n0 ?_
  refine .seq ?_
  refine .region rfl ?_
  refine R.move (h := ?_)
  refine R.loadB O3 (hb := rfl) (h := ?_)
  refine R.bin (run_lss _ _ _ _ _ _) (h := ?_)
  refine R.move (h := ?_)
  refine R.move (h := ?_)
  refine R.loadB O3 (hb := rfl) (h := ?_)
  refine R.loadB O3 (hb := rfl) (h := ?_)
  first | refine R.add (h := ?_) | refine R.addW (h := ?_)
  refine R.bin (run_geq _ _ _ _ _ _) (h := ?_)
  refine R.or (h := ?_)
  refine R.move (h := ?_)
  rcases Classical.em (k < fr ∨ fr + n ≤ k) with hw | hw
  ·
   rw [show (decide ((k : Int) < fr) || decide ((fr : Int) + n ≤ k)) = true from by rw [Bool.or_eq_true, decide_eq_true_eq, decide_eq_true_eq]; omega]
   refine R.move (h := ?_)
   first | refine R.loadA A58 (h := ?_) | refine R.loadN A58 (h := ?_) | refine R.loadP A58 (h := ?_)
   refine R.callYldG (es := [_]) (h.at_ (hy hw).1) (hL := fun k z hz => by rcases k with _ | _ | _ | _ | _ | _ | k <;> first | exact hz | cases hz) (h := ?_)
   refine R.not (h := ?_)
   refine R.and (h := ?_)
   refine .n0 ?_
   refine LGo.ifb (ht := fun hc2 => by simp at hc2) (hf := fun hc2 => ?_)
   refine .skip ?_
   refine .inBlock ?_
   refine .region rfl ?_
   first | refine R.add (h := ?_) | refine R.addW (h := ?_)
   refine R.move (h := ?_)
   refine .n0 ?_
   refine .inLoop ?_
   exact LGo.next _ (fun o h => by have := (hA o).1 h; omega) (by omega) (ih (k + 1) (by omega) (by omega)) (by repeat (first | exact trivial | refine ⟨rfl, ?_⟩)) ⟨by rw [(hy hw).2]; rfl, rfl, rfl, rfl, rfl, rfl, trivial⟩ (hLl := by exact h.all (by rw [List.length_map]; exact leftJ_le hfn (by omega)))
  ·
   rw [show (decide ((k : Int) < fr) || decide ((fr : Int) + n ≤ k)) = false from by rw [Bool.or_eq_false_iff, decide_eq_false_iff_not, decide_eq_false_iff_not]; omega]
   refine R.move (h := ?_)
   first | refine R.loadA A58 (h := ?_) | refine R.loadN A58 (h := ?_) | refine R.loadP A58 (h := ?_)
   refine R.skip (.b false) (es := [_, _]) (h := ?_)
   refine R.not (h := ?_)
   refine R.and (h := ?_)
   refine .n0 ?_
   refine LGo.ifb (ht := fun hc3 => by simp at hc3) (hf := fun hc3 => ?_)
   refine .skip ?_
   refine .inBlock ?_
   refine .region rfl ?_
   first | refine R.add (h := ?_) | refine R.addW (h := ?_)
   refine R.move (h := ?_)
   refine .n0 ?_
   refine .inLoop ?_
   exact LGo.next _ (fun o h => by have := (hA o).1 h; omega) (by omega) (ih (k + 1) (by omega) (by omega)) (by repeat (first | exact trivial | refine ⟨rfl, ?_⟩)) ⟨by rw [leftJ_in hw]; rfl, rfl, rfl, rfl, rfl, rfl, trivial⟩ (hLl := by exact h.all (by rw [List.length_map]; exact leftJ_le hfn (by omega)))
 ·
  obtain rfl : k = l.length := by omega
  rw [leftJ_end hfn]
  refine .exit rfl ?_
  refine LGo.keep [] (SW A0 A4 A5 l fr n (leftS l fr n).length) trivial ⟨rfl, rfl, rfl, rfl, rfl, rfl, trivial⟩ ?_
  exact LGo.done (res0 Tryz.results215 hA hmd (by rfl) (fun _ _ h => h) (.inl rfl))
theorem left_P (xs : List SrE) (fr n : Nat) (hl : xs.length ≤ 100000) (hfn : fr + n ≤ xs.length) : PC Tryz.prog 88 [.sv (.sl 3 (xs.map SrE.c)), .i fr, .i n] (.sv (.sl 3 ((leftS xs fr n).map SrE.c))) := by
 refine ⟨LC.of_go Tryz.func88 (c := _) rfl (by kernel_rfl) (by rw [Tryz.ntmps88]; simp) rfl rfl (by simp [LO.lt, LV.lts, LV.lt, lts_sv]) (by simp) ?_⟩
 intro B hA hmd
 refine .seq ?_
 refine .region rfl ?_
 refine R.assign (h := ?_)
 refine .n0 ?_
 refine .seq ?_
 refine .region rfl ?_
 refine R.alloc Z27 (h := ?_)
 refine .n0 ?_
 refine .seq ?_
 refine .seq ?_
 refine .region rfl ?_
 refine R.move (h := ?_)
 refine R.move (h := ?_)
 refine R.move (h := ?_)
 refine R.callN (es := [_, _, _]) (without_L xs fr n) (h := ?_)
 refine .n0 ?_
 refine .block ?_
 refine LGo.packNil 0 0 58 3 (h := ?_)
 refine LGo.keep [(7, (true, .ptr 0 0)), (12, (true, .fn (.func 215) [] [.ptr 1 0, .ptr 2 0, .ptr 3 0]))] [(0, .bx 27 [.v undef] 0 58 3 (((leftS xs fr n).take 0).map SrE.c)), (1, .box 27 [.sv (.sl 3 (xs.map SrE.c))]), (2, .box 3 [.i fr]), (3, .box 3 [.i n])] (by repeat (first | exact trivial | refine ⟨rfl, ?_⟩)) (by repeat (first | exact trivial | refine ⟨rfl, ?_⟩)) ?_
 refine LGo.rangeN (fun fn ac bc => [(0, .bx 27 [.v undef] 0 58 3 (((leftS xs fr n).take (leftS xs fr n).length).map SrE.c)), (1, .box 27 [.sv (.sl 3 (xs.map SrE.c))]), (2, .box 3 [.i fr]), (3, .box 3 [.i n]), (4, .raw (.deferred (some []))), (5, .loop fn Tryz.f88.ntmps [(7, (true, .ptr 0 0)), (12, (true, .fn (.func 215) [] [.ptr 1 0, .ptr 2 0, .ptr 3 0]))] #[13] ac bc .ready none)]) (hit := fun fn ac bc hac hbc => ?_) (h := fun fn => ?_)
 ·
  suffices hgo : YG Tryz.prog 5 6 ((leftS xs fr n).map SrE.y) (fun j => [(0, .bx 27 [.v undef] 0 58 3 (((leftS xs fr n).take j).map SrE.c)), (1, .box 27 [.sv (.sl 3 (xs.map SrE.c))]), (2, .box 3 [.i fr]), (3, .box 3 [.i n]), (4, .raw (.deferred (some []))), (5, .loop fn Tryz.f88.ntmps [(7, (true, .ptr 0 0)), (12, (true, .fn (.func 215) [] [.ptr 1 0, .ptr 2 0, .ptr 3 0]))] #[13] ac bc .ready none)]) from by
    have hr := without1_L (A0 := fun j => .bx 27 [.v undef] 0 58 3 (((leftS xs fr n).take j).map SrE.c)) (A4 := .raw (.deferred (some []))) (A5 := .loop fn Tryz.f88.ntmps [(7, (true, .ptr 0 0)), (12, (true, .fn (.func 215) [] [.ptr 1 0, .ptr 2 0, .ptr 3 0]))] #[13] ac bc .ready none) hl hfn hgo
    exact hr
  refine ⟨fun j hj => rfl, fun j hj => by simp [LO.lt, LV.lts, LV.lt, lts_sv], fun j hj => ?_⟩
  rw [List.getElem_map]
  have hj' : j < (leftS xs fr n).length := by simpa using hj
  have htk : (leftS xs fr n).take (j + 1) = (leftS xs fr n).take j ++ [(leftS xs fr n)[j]] := by rw [List.take_succ_eq_append_getElem hj']
  try dsimp only
  rw [htk, List.map_append]
  have hll : (leftS xs fr n).length ≤ 100000 := by rw [leftS_len hfn]; omega
  generalize (leftS xs fr n)[j] = z at *
  refine Yld.walkA 6 7 ((8, (true, .ptr 6 0)) :: (13, (true, .agg (z.c.map LV.sv))) :: [(7, (true, .ptr 0 0)), (12, (true, .fn (.func 215) [] [.ptr 1 0, .ptr 2 0, .ptr 3 0]))]) ((6, .box 58 (z.c.map LV.sv)) :: [(0, .bx 27 [.v undef] 0 58 3 (((leftS xs fr n).take j).map SrE.c)), (1, .box 27 [.sv (.sl 3 (xs.map SrE.c))]), (2, .box 3 [.i fr]), (3, .box 3 [.i n]), (4, .raw (.deferred (some []))), (5, .loop fn Tryz.f88.ntmps [(7, (true, .ptr 0 0)), (12, (true, .fn (.func 215) [] [.ptr 1 0, .ptr 2 0, .ptr 3 0]))] #[13] ac bc .ready none)]) (hpN := by rw [show Tryz.f88.ntmps = 19 from Tryz.ntmps88]; simp) (hA := ?_) (hB := ?_)
  · intro l B' hA' hmd'; subst hac
    refine .region rfl ?_
    refine R.alloc Z58 (h := ?_)
    refine R.storeA A58 (h := ?_)
    refine .n0 ?_
    refine LGo.keep ((8, (true, .ptr 6 0)) :: (13, (true, .agg (z.c.map LV.sv))) :: [(7, (true, .ptr 0 0)), (12, (true, .fn (.func 215) [] [.ptr 1 0, .ptr 2 0, .ptr 3 0]))]) ((6, .box 58 (z.c.map LV.sv)) :: [(0, .bx 27 [.v undef] 0 58 3 (((leftS xs fr n).take j).map SrE.c)), (1, .box 27 [.sv (.sl 3 (xs.map SrE.c))]), (2, .box 3 [.i fr]), (3, .box 3 [.i n]), (4, .raw (.deferred (some []))), (5, .loop fn Tryz.f88.ntmps [(7, (true, .ptr 0 0)), (12, (true, .fn (.func 215) [] [.ptr 1 0, .ptr 2 0, .ptr 3 0]))] #[13] _ bc .ready none)]) (by repeat (first | exact trivial | refine ⟨rfl, ?_⟩)) (by repeat (first | exact trivial | refine ⟨rfl, ?_⟩)) ?_
    exact LGo.done (fun cx a w hr => ⟨rfl, cx, hr⟩)
  · intro l B' hA' hmd'; subst hbc
    refine LGo.unpack 0 (h := ?_)
    refine .block ?_
    refine .region rfl ?_
    first | refine R.loadB O27 (h := ?_) | refine R.load1 O27 (h := ?_)
    first | refine R.loadA A58 (h := ?_) | refine R.loadN A58 (h := ?_) | refine R.loadP A58 (h := ?_)
    refine R.buildSliceG AP27 (xs := [_]) (es := [_]) (hcs := CellsOfs.cons (CellsOf.agg rfl) CellsOfs.nil) (h := ?_)
    refine R.appendS AP27 (hs := SrcOk.sl Tryz.underlying27 (by simp; rfl)) (hlen := by simp; omega) (h := ?_)
    refine R.storeB O27 (h := ?_)
    refine .n0 ?_
    refine .inBlock ?_
    refine LGo.pack 0 0 (h := ?_)
    refine LGo.drop 6 (fun o h => (hA' o).1 h) (by omega) [] ((5, .loop fn Tryz.f88.ntmps [(7, (true, .ptr 0 0)), (12, (true, .fn (.func 215) [] [.ptr 1 0, .ptr 2 0, .ptr 3 0]))] #[13] ac _ .busy none) :: (4, .raw (.deferred (some []))) :: [(0, .bx 27 [.v undef] 0 58 3 (((leftS xs fr n).take j).map SrE.c ++ [z.c])), (1, .box 27 [.sv (.sl 3 (xs.map SrE.c))]), (2, .box 3 [.i fr]), (3, .box 3 [.i n])]) trivial (by repeat (first | exact trivial | refine ⟨rfl, ?_⟩)) (by simp) (by simp [LO.lt, LV.lts, LV.lt, lts_sv]) (h := ?_)
    refine LGo.done (RoundEnd.go rfl (fun o z hz hne => ?_) rfl)
    rcases o with _ | _ | _ | _ | _ | _ | o <;> first | exact absurd rfl hne | exact hz
 ·
  rw [List.take_length]
  refine LGo.frzBx 0 (h := ?_)
  refine .inBlock ?_
  refine .seq ?_
  refine .region rfl ?_
  first | refine R.loadB O27 (h := ?_) | refine R.load1 O27 (h := ?_)
  refine R.assign (h := ?_)
  refine .n0 ?_
  exact LGo.ret (FnPost.mark (by rfl) (ret_T Tryz.results88 hA hmd))
/-- a round of Shrink: n events at a time, from the end -/
def rndGo (pf : List SrE → Bool) (most : Int) (n : Nat) : Nat → Nat → List SrE → Int → Bool → List SrE × Int × Bool
  | 0, _, cur, t, kept => (cur, t, kept)
  | f + 1, at_, cur, t, kept => if n ≤ at_ ∧ t < most then (if pf (leftS cur (at_ - n) n) = true then rndGo pf most n f (at_ - n) (leftS cur (at_ - n) n) (t + 1) true else rndGo pf most n f (at_ - n) cur (t + 1) kept) else (cur, t, kept)
/-- what a script must be for its copy -/
structure Sc.cp (s : Sc) : Prop where
  v : s.ven.secs.length ≤ 100000
  vr : ∀ x ∈ s.ven.secs, x.rows.length ≤ 100000
  g : s.gates.length ≤ 100000
  gr : ∀ x ∈ s.gates, x.secs.length ≤ 100000
  c : s.calls.length ≤ 100000
theorem run_eqFn {P : Program} (w : World) (t : TypeId) {ps rs : Array TypeId} {va : Bool} (h : P.underlying t = some (.func ps rs va)) (f : Fn) (us vs : Array Value) : (Op.equal t (.func f us vs) .nilFunc).run P w = .ok false w := by
  have key : ∀ d, (Op.equalIn (d + 1) t (.func f us vs) .nilFunc).run P w = .ok false w := fun d => by simp [Op.equalIn, run_underlying h]
  exact key 9999
section
variable {P : Program} {r : Option Nat} {N : Nat} {D : List Nat} {B : Base} {all : Array Oper} {K : List (Nat × Ct) → St → Prop}
variable {i : Nat} {ops : List Oper} {tr : List (Nat × Ct)} {E : List (Nat × Ent)} {L : List (Nat × LO)} {n : Nat} {g : Bool} {gn : List (Nat × Ent)}
variable {d ty : Nat} {pos : String} {aft : Array Edge} {gd : Option (Nat × Bool)}
/-- is a function value nil: it is none -/
theorem R.fnF {t yt : Nat} {ps rs : Array TypeId} {va : Bool} (hT : P.underlying t = some (.func ps rs va)) {x : Operand} {gx : Bool} {f : Fn} {p q : List LV}
    (ho : all[i]? = some ⟨some d, .binOp .eql t x (.const .nilFunc) yt, ty, pos, aft, gd⟩ := by rfl) (hg : GuardOk (en E) all gd g gn := by first | exact gN | exact gS rfl rfl)
    (hx : lvOf (en E) x = some (gx, .fn f p q) := by rfl) (hgx : g = true → gx = true := by first | exact fun _ => rfl | exact id)
    (h : Reg P r N D B all (i + 1) ops ((i, Ct.p gn [x, .const .nilFunc] [(gx, .fn f p q), (true, .v .nilFunc)] (some d) (g, .b false) []) :: tr) (st ((d, (g, .b false)) :: E) L n) K) :
    Reg P r N D B all i (⟨some d, .binOp .eql t x (.const .nilFunc) yt, ty, pos, aft, gd⟩ :: ops) tr (st E L n) K :=
  Reg.two rfl (fun h => by
    rw [entLV_true h hgx]
    refine OpC.of_pure2 (x := x) (y := .const .nilFunc) rfl (by simp) fun md n0 cx H ρ w hok hrd v1 v2 => ?_
    have v2' := v2.val
    simp only [V] at v1
    obtain ⟨us, vs, he, _, _⟩ := v1
    exact ⟨.bool false, by simp [execOp, he, v2', eqGuard, binOp, run_eqFn w t hT, Sem.run_bind], V.mkval⟩) ho hg hx rfl (by simp) h
/-- is a slice of one's own nil: of one with elements -/
theorem R.nilRsF {op : BinOp} (v : Bool) (hop : (op = .eql ∧ v = false) ∨ (op = .neq ∧ v = true) := by first | exact .inl ⟨rfl, rfl⟩ | exact .inr ⟨rfl, rfl⟩) {t e yt : Nat} (hT : P.underlying t = some (.slice e)) {x : Operand} {gx : Bool} {o T sz : Nat} {xs : List (List SV)} (hne : xs ≠ [])
    (ho : all[i]? = some ⟨some d, .binOp op t x (.const (.slice none 0 0)) yt, ty, pos, aft, gd⟩ := by rfl) (hg : GuardOk (en E) all gd g gn := by first | exact gN | exact gS rfl rfl)
    (hx : lvOf (en E) x = some (gx, .ref o) := by rfl) (hgx : g = true → gx = true := by first | exact fun _ => rfl | exact id) (hb : hp L o = some (.rs T sz xs) := by rfl)
    (h : Reg P r N D B all (i + 1) ops ((i, Ct.p gn [x, .const (.slice none 0 0)] [(gx, .ref o), (true, .v (.slice none 0 0))] (some d) (g, .b v) [(o, .rs T sz xs)]) :: tr) (st ((d, (g, .b v)) :: E) L n) K) :
    Reg P r N D B all i (⟨some d, .binOp op t x (.const (.slice none 0 0)) yt, ty, pos, aft, gd⟩ :: ops) tr (st E L n) K :=
  Reg.two rfl (fun h => by
    rw [entLV_true h hgx]
    refine OpC.of_pure2 (x := x) (y := .const (.slice none 0 0)) rfl (by simp) fun md n0 cx H ρ w hok hrd v1 v2 => ?_
    have v2' := v2.val
    simp only [V] at v1
    obtain ⟨_, hv1, _⟩ := v1
    obtain ⟨_, _, vs, hown, _⟩ := hok.ok o _ (hrd o (.rs T sz xs) (by simp))
    refine ⟨.bool v, ?_, V.mkval⟩
    rcases hown.2 with ⟨e1, e2⟩ | ⟨gb, cap, cur, e1, _⟩
    · exact absurd (List.eq_nil_of_length_eq_zero e2) hne
    · rw [e1] at hv1
      rcases hop with ⟨rfl, rfl⟩ | ⟨rfl, rfl⟩ <;>
        simp [execOp, hv1, v2', eqGuard, binOp, run_eqNilS w t e _ _ _ hT, Sem.run_bind]) ho hg hx rfl (oneL hb) h
end
theorem cloneEv_L (xs : List (List SV)) (hsz : ∀ e ∈ xs, e.length = 3) (hl : xs.length ≤ 100000) (h0 : xs ≠ []) : LC Tryz.prog 86 1 [.ref 0] [(0, .rs 58 3 xs)] (.sv (.sl 3 xs)) [(0, .rs 58 3 xs)] 0 := by
 refine LC.of_go Tryz.func86 (c := _) rfl (by kernel_rfl) (by rw [Tryz.ntmps86]; simp) rfl rfl (by simp [LO.lt, LV.lts, LV.lt, lts_sv]) (by simp) ?_
 intro B hA hmd
 refine .seq ?_
 refine .region rfl ?_
 refine R.assign (h := ?_)
 refine .n0 ?_
 refine .seq ?_
 refine .seq ?_
 refine .region rfl ?_
 refine R.move (h := ?_)
 refine R.nilRsF false (hT := Tryz.underlying27) (hne := h0) (h := ?_)
 refine .n0 ?_
 refine LGo.ifb (ht := fun hc => by simp at hc) (hf := fun hc => ?_)
 refine .skip ?_
 refine .seq ?_
 refine .region rfl ?_
 refine R.buildSliceR AP27 (xs := []) (es := []) (hcs := CellsOfs.nil) (h := ?_)
 refine R.move (h := ?_)
 refine R.appendS AP27 (hs := SrcOk.rs Tryz.underlying27 hsz) (hlen := by simp; omega) (h := ?_)
 refine R.assign (h := ?_)
 refine .n0 ?_
 first | refine LGo.frzT 2 (h := ?_) | refine LGo.nilSl 2 3 (h := ?_) | skip
 exact LGo.ret (ret_T Tryz.results86 hA hmd)
/-- the cells of a script whose events are the object o -/
abbrev Sc.cO (s : Sc) (o : Nat) : List LV := [.i s.ven.shards, .i s.ven.ttl, .i s.ven.session, .sv (.sl 3 (s.ven.secs.map VnS.c)), .t s.key, .sv (.sl 3 (s.gates.map GtG.c)), .i s.workers, .sv (.sl 11 (s.calls.map SrC.c)), .ref o]
theorem copied_L (s : Sc) (hs : s.cp) (es : List SrE) : LC Tryz.prog 85 1 [.agg (s.cO 0), .sv (.sl 3 (es.map SrE.c))] [(0, .rs 58 3 (s.evs.map SrE.c))] (.agg ((Sc.c { s with evs := es }).map LV.sv)) [(0, .rs 58 3 (s.evs.map SrE.c))] 0 := by
 refine LC.of_go Tryz.func85 (c := _) rfl (by kernel_rfl) (by rw [Tryz.ntmps85]; simp) rfl rfl (by simp [LO.lt, LV.lts, LV.lt, lts_sv]) (by simp) ?_
 intro B hA hmd
 obtain ⟨hv, hvr, hg, hgr, hcl⟩ := hs
 refine .seq ?_
 refine .region rfl ?_
 refine R.box (h := ?_)
 refine R.alloc Z29 (h := ?_)
 refine .n0 ?_
 refine .seq ?_
 refine .region rfl ?_
 first | refine R.field F29_0 (h := ?_) | refine R.fieldAt F29_0 (h := ?_)
 first | refine R.field F24_3 (h := ?_) | refine R.fieldAt F24_3 (h := ?_)
 first | refine R.loadB O22 (h := ?_) | refine R.load1 O22 (h := ?_)
 refine R.callX (es := [_]) [] (cloneV (s.ven.secs.map VnS.c) (vs_ones _) (by rw [List.length_map]; exact hv)) (h := ?_)
 first | refine R.field F29_0 (h := ?_) | refine R.fieldAt F29_0 (h := ?_)
 first | refine R.field F24_3 (h := ?_) | refine R.fieldAt F24_3 (h := ?_)
 refine R.storeB O22 (h := ?_)
 refine .n0 ?_
 refine .seq ?_
 refine .seq ?_
 refine .region rfl ?_
 first | refine R.field F29_0 (h := ?_) | refine R.fieldAt F29_0 (h := ?_)
 first | refine R.field F24_3 (h := ?_) | refine R.fieldAt F24_3 (h := ?_)
 first | refine R.loadB O22 (h := ?_) | refine R.load1 O22 (h := ?_)
 first | refine R.len S22 (h := ?_) | refine R.lenRs S22 (h := ?_) | refine R.lenV (run_lenNil S22) (h := ?_)
 rw [List.length_map]
 refine R.move (h := ?_)
 refine .n0 ?_
 refine .block ?_
 refine .loop ?_
 refine LGo.loopG (σ := Nat) (fun x => x ≤ s.ven.secs.length) (fun x => [(17, (true, .i (x : Nat)))]) (fun x => [(1, .box 29 [.i s.ven.shards, .i s.ven.ttl, .i s.ven.session, .ref 3, .t s.key, .sv (.sl 3 (s.gates.map GtG.c)), .i s.workers, .sv (.sl 11 (s.calls.map SrC.c)), .ref 0]), (2, .box 29 [.i 0, .i 0, .i 0, .v (.slice none 0 0), .t [], .v (.slice none 0 0), .i 0, .v (.slice none 0 0), .v (.slice none 0 0)]), (3, .rs 80 3 (s.ven.secs.map VnS.c)), (0, .rs 58 3 (s.evs.map SrE.c))]) (fun x => s.ven.secs.length - x) (0) [(1, _), (2, _), (4, _), (16, _)] (Nat.zero_le _) (by repeat (first | exact trivial | refine ⟨rfl, ?_⟩)) (by repeat (first | exact trivial | refine ⟨rfl, ?_⟩)) (by repeat (first | exact trivial | refine ⟨rfl, ?_⟩)) ?_
 rintro k hk ih
 refine .seq ?_
 refine .region rfl ?_
 refine R.bin (run_lss _ _ _ _ _ _) (h := ?_)
 refine .n0 ?_
 refine .seq ?_
 refine LGo.ifd (ht := fun hc => ?_) (hf := fun hc => ?_)
 ·
  have hlt : k < s.ven.secs.length := by omega
  have hx0 : s.ven.secs[k]? = some s.ven.secs[k] := List.getElem?_eq_getElem hlt
  have hx : (s.ven.secs.map VnS.c)[k]? = some s.ven.secs[k].c := by simp [hlt]
  have hsl := hvr s.ven.secs[k] (List.getElem_mem hlt)
  generalize s.ven.secs[k] = g at hx hx0 hsl
  refine .skip ?_
  refine .seq ?_
  refine .block ?_
  refine .seq ?_
  refine .region rfl ?_
  refine R.move (h := ?_)
  refine R.assign (h := ?_)
  refine .n0 ?_
  refine .region rfl ?_
  first | refine R.field F29_0 (h := ?_) | refine R.fieldAt F29_0 (h := ?_)
  first | refine R.field F24_3 (h := ?_) | refine R.fieldAt F24_3 (h := ?_)
  first | refine R.loadB O22 (h := ?_) | refine R.load1 O22 (h := ?_)
  refine R.move (h := ?_)
  first | refine R.field F29_0 (h := ?_) | refine R.fieldAt F29_0 (h := ?_)
  first | refine R.field F24_3 (h := ?_) | refine R.fieldAt F24_3 (h := ?_)
  first | refine R.loadB O22 (h := ?_) | refine R.load1 O22 (h := ?_)
  refine R.move (h := ?_)
  refine R.indexRs I22 (hj := fun _ => ⟨by omega, by rw [List.length_map]; omega⟩) (h := ?_)
  first | refine R.field F80_1 (h := ?_) | refine R.fieldAt F80_1 (h := ?_)
  refine R.loadRs1 O65 k 1 (ev := g.c) (hj := fun _ => ⟨hx, rfl⟩) (h := ?_)
  refine R.callP (es := [_]) (fun _ => cloneI_P (ic .i64 g.rows) (ic_one _ _) (by rw [ic_len]; exact hsl)) (h := ?_)
  refine R.indexRs I22 (hj := fun _ => ⟨by omega, by rw [List.length_map]; omega⟩) (h := ?_)
  first | refine R.field F80_1 (h := ?_) | refine R.fieldAt F80_1 (h := ?_)
  refine R.storeRs1 O65 k 1 g.c (hj := hx) (h := ?_)
  rw [set_sec s.ven.secs k g hx0]
  refine Reg.nil ⟨fun _ => ⟨mixedO, by rfl, by rfl⟩, ?_⟩
  refine .inBlock ?_
  refine .region rfl ?_
  first | refine R.add (h := ?_) | refine R.addW (h := ?_)
  refine R.move (h := ?_)
  refine .n0 ?_
  refine .inLoop ?_
  exact LGo.next _ (fun o h => by have := (hA o).1 h; omega) (by omega) (ih (k + 1) (by omega) (by omega)) (by repeat (first | exact trivial | refine ⟨rfl, ?_⟩)) ⟨rfl, rfl, rfl, rfl, trivial⟩
 ·
  refine .exit rfl ?_
  refine .seq ?_
  refine .region rfl ?_
  first | refine R.field F29_2 (h := ?_) | refine R.fieldAt F29_2 (h := ?_)
  first | refine R.loadB O25 (h := ?_) | refine R.load1 O25 (h := ?_)
  refine R.callX (es := [_]) [] (cloneG (s.gates.map GtG.c) (gt_ones _) (by rw [List.length_map]; exact hg)) (h := ?_)
  first | refine R.field F29_2 (h := ?_) | refine R.fieldAt F29_2 (h := ?_)
  refine R.storeB O25 (h := ?_)
  refine .n0 ?_
  refine .seq ?_
  refine .seq ?_
  refine .region rfl ?_
  first | refine R.field F29_2 (h := ?_) | refine R.fieldAt F29_2 (h := ?_)
  first | refine R.loadB O25 (h := ?_) | refine R.load1 O25 (h := ?_)
  first | refine R.len S25 (h := ?_) | refine R.lenRs S25 (h := ?_) | refine R.lenV (run_lenNil S25) (h := ?_)
  rw [List.length_map]
  refine R.move (h := ?_)
  refine .n0 ?_
  refine .block ?_
  refine .loop ?_
  refine LGo.loopG (σ := Nat) (fun x => x ≤ s.gates.length) (fun x => [(42, (true, .i (x : Nat)))]) (fun x => [(1, .box 29 [.i s.ven.shards, .i s.ven.ttl, .i s.ven.session, .ref 3, .t s.key, .ref 4, .i s.workers, .sv (.sl 11 (s.calls.map SrC.c)), .ref 0]), (2, .box 29 [.i 0, .i 0, .i 0, .v (.slice none 0 0), .t [], .v (.slice none 0 0), .i 0, .v (.slice none 0 0), .v (.slice none 0 0)]), (3, .rs 80 3 (s.ven.secs.map VnS.c)), (4, .rs 71 3 (s.gates.map GtG.c)), (0, .rs 58 3 (s.evs.map SrE.c))]) (fun x => s.gates.length - x) (0) [(1, _), (2, _), (4, _), (41, _)] (Nat.zero_le _) (by repeat (first | exact trivial | refine ⟨rfl, ?_⟩)) (by repeat (first | exact trivial | refine ⟨rfl, ?_⟩)) (by repeat (first | exact trivial | refine ⟨rfl, ?_⟩)) ?_
  rintro j hj ih2
  refine .seq ?_
  refine .region rfl ?_
  refine R.bin (run_lss _ _ _ _ _ _) (h := ?_)
  refine .n0 ?_
  refine .seq ?_
  refine LGo.ifd (ht := fun hc2 => ?_) (hf := fun hc2 => ?_)
  ·
   have hlt : j < s.gates.length := by omega
   have hx0 : s.gates[j]? = some s.gates[j] := List.getElem?_eq_getElem hlt
   have hx : (s.gates.map GtG.c)[j]? = some s.gates[j].c := by simp [hlt]
   have hsl := hgr s.gates[j] (List.getElem_mem hlt)
   generalize s.gates[j] = g at hx hx0 hsl
   refine .skip ?_
   refine .seq ?_
   refine .block ?_
   refine .seq ?_
   refine .region rfl ?_
   refine R.move (h := ?_)
   refine R.assign (h := ?_)
   refine .n0 ?_
   refine .region rfl ?_
   first | refine R.field F29_2 (h := ?_) | refine R.fieldAt F29_2 (h := ?_)
   first | refine R.loadB O25 (h := ?_) | refine R.load1 O25 (h := ?_)
   refine R.move (h := ?_)
   first | refine R.field F29_2 (h := ?_) | refine R.fieldAt F29_2 (h := ?_)
   first | refine R.loadB O25 (h := ?_) | refine R.load1 O25 (h := ?_)
   refine R.move (h := ?_)
   refine R.indexRs I25 (hj := fun _ => ⟨by omega, by rw [List.length_map]; omega⟩) (h := ?_)
   first | refine R.field F71_0 (h := ?_) | refine R.fieldAt F71_0 (h := ?_)
   refine R.loadRs1 O65 j 0 (ev := g.c) (hj := fun _ => ⟨hx, rfl⟩) (h := ?_)
   refine R.callP (es := [_]) (fun _ => cloneI_P (ic .i64 g.secs) (ic_one _ _) (by rw [ic_len]; exact hsl)) (h := ?_)
   refine R.indexRs I25 (hj := fun _ => ⟨by omega, by rw [List.length_map]; omega⟩) (h := ?_)
   first | refine R.field F71_0 (h := ?_) | refine R.fieldAt F71_0 (h := ?_)
   refine R.storeRs1 O65 j 0 g.c (hj := hx) (h := ?_)
   rw [set_gate s.gates j g hx0]
   refine Reg.nil ⟨fun _ => ⟨mixedO, by rfl, by rfl⟩, ?_⟩
   refine .inBlock ?_
   refine .region rfl ?_
   first | refine R.add (h := ?_) | refine R.addW (h := ?_)
   refine R.move (h := ?_)
   refine .n0 ?_
   refine .inLoop ?_
   exact LGo.next _ (fun o h => by have := (hA o).1 h; omega) (by omega) (ih2 (j + 1) (by omega) (by omega)) (by repeat (first | exact trivial | refine ⟨rfl, ?_⟩)) ⟨rfl, rfl, rfl, rfl, rfl, trivial⟩
  ·
   refine .exit rfl ?_
   refine .seq ?_
   refine .region rfl ?_
   first | refine R.field F29_4 (h := ?_) | refine R.fieldAt F29_4 (h := ?_)
   first | refine R.loadB O26 (h := ?_) | refine R.load1 O26 (h := ?_)
   refine R.callX (es := [_]) [] (cloneC (s.calls.map SrC.c) (sc_ones _) (by rw [List.length_map]; exact hcl)) (h := ?_)
   refine R.move (h := ?_)
   first | refine R.field F29_4 (h := ?_) | refine R.fieldAt F29_4 (h := ?_)
   refine R.storeB O26 (h := ?_)
   first | refine R.field F29_5 (h := ?_) | refine R.fieldAt F29_5 (h := ?_)
   refine R.storeB O27 (h := ?_)
   refine .n0 ?_
   refine .seq ?_
   refine .region rfl ?_
   first | refine R.loadA A29 (h := ?_) | refine R.loadN A29 (h := ?_) | refine R.loadP A29 (h := ?_)
   refine R.storeA A29 (h := ?_)
   refine .n0 ?_
   refine LGo.pack 2 3 (h := ?_)
   refine LGo.frzBx 2 (h := ?_)
   refine LGo.pack 2 5 (h := ?_)
   refine LGo.frzBx 2 (h := ?_)
   refine LGo.pack 2 7 (h := ?_)
   refine LGo.frzBx 2 (h := ?_)
   exact LGo.ret (ret_A Tryz.results85 A29 hA hmd)
theorem inS_out (n lo hi : Int) : (!inS n lo hi) = (decide (n < lo) || decide (n > hi)) := by
  unfold inS
  rw [Bool.eq_iff_iff]
  simp only [Bool.not_eq_true', Bool.and_eq_false_iff, decide_eq_false_iff_not, Bool.or_eq_true, decide_eq_true_eq]
  omega
theorem addK_has (a b : Int) (ks : List Int) : (addK a ks).contains b = (ks.contains b || decide (a = b)) := by
  unfold addK
  split
  · rename_i h
    by_cases hab : a = b
    · subst hab; rw [h]; rfl
    · simp [hab]
  · by_cases hab : a = b
    · subst hab; simp
    · simp [hab, Ne.symm hab]
/-- the calls that are sent -/
def sendsOf (l : List SrE) : List Int := (l.filter fun x => decide (x.kind = 1)).map (·.a)
theorem chkGo_ok {s : Sc} : ∀ (l : List SrE) (k : Nat) (ks : List Int), (chkGo s k ks l).2 = 0 ↔ (∀ x ∈ l, evE s x = 0) ∧ (sendsOf l).Nodup ∧ ∀ a ∈ sendsOf l, ks.contains a = false
  | [], _, _ => by simp [chkGo, sendsOf]
  | x :: r, k, ks => by
    rw [chkGo]
    by_cases h0 : evT s ks x = 0
    · rw [if_neg (by simp [h0])]
      rw [chkGo_ok r]
      have he := evT_0 h0
      by_cases h1 : x.kind = 1
      · rw [if_pos h1]
        have hc : ks.contains x.a = false := by
          unfold evT at h0
          rw [he, h1] at h0
          cases hh : ks.contains x.a with
          | false => rfl
          | true => rw [hh] at h0; simp at h0
        have hs : sendsOf (x :: r) = x.a :: sendsOf r := by simp [sendsOf, h1]
        rw [hs, List.nodup_cons]
        constructor
        · rintro ⟨h2, h3, h4⟩
          refine ⟨fun y hy => ?_, ⟨fun hm => ?_, h3⟩, fun a ha => ?_⟩
          · rcases List.mem_cons.1 hy with rfl | hy
            · exact he
            · exact h2 y hy
          · have := h4 _ hm; rw [addK_has] at this; simp at this
          · rcases List.mem_cons.1 ha with rfl | ha
            · exact hc
            · have := h4 a ha; rw [addK_has] at this; simp only [Bool.or_eq_false_iff] at this; exact this.1
        · rintro ⟨h2, ⟨h3, h4⟩, h5⟩
          refine ⟨fun y hy => h2 y (List.mem_cons_of_mem _ hy), h4, fun a ha => ?_⟩
          rw [addK_has, h5 a (List.mem_cons_of_mem _ ha)]
          simp only [Bool.false_or, decide_eq_false_iff_not]
          rintro rfl
          exact h3 ha
      · rw [if_neg h1]
        have hs : sendsOf (x :: r) = sendsOf r := by simp [sendsOf, h1]
        rw [hs]
        simp only [List.mem_cons, forall_eq_or_imp, he, true_and]
    · rw [if_pos h0]
      constructor
      · intro h; exact absurd h h0
      · rintro ⟨h2, h3, h4⟩
        exfalso
        apply h0
        unfold evT
        rw [if_neg, h2 x (by simp)]
        intro hh
        simp only [Bool.and_eq_true, decide_eq_true_eq] at hh
        have := h4 x.a (by simp [sendsOf, hh.1.2])
        rw [hh.2] at this; cases this
theorem check_iff_S (s : Sc) : (checkS s).2 = 0 ↔ (baseS s).2 = 0 ∧ s.evs.length ≤ 1000 ∧ (∀ x ∈ s.evs, evE s x = 0) ∧ (sendsOf s.evs).Nodup := by
  unfold checkS
  by_cases h : (baseS s).2 = 0
  · rw [if_neg (by simp [h])]
    by_cases h2 : 1000 < (s.evs.length : Int)
    · rw [if_pos h2]
      constructor
      · intro h; cases h
      · rintro ⟨_, h3, _⟩; omega
    · rw [if_neg h2, chkGo_ok]
      constructor
      · rintro ⟨h3, h4, _⟩; exact ⟨h, by omega, h3, h4⟩
      · rintro ⟨_, _, h3, h4⟩; exact ⟨h3, h4, fun _ _ => rfl⟩
  · rw [if_pos h]
    constructor
    · intro h'; exact absurd h' h
    · rintro ⟨h', _⟩; exact absurd h' h
/-- the rounds of Shrink -/
def shrGo (pf : List SrE → Bool) (most : Int) : Nat → Nat → List SrE → Int → List SrE × Int
  | 0, _, cur, t => (cur, t)
  | f + 1, n, cur, t =>
    if 0 < cur.length ∧ t < most then
      (if (rndGo pf most n (cur.length + 1) cur.length cur t false).2.2 = false ∧ n = 1 then ((rndGo pf most n (cur.length + 1) cur.length cur t false).1, (rndGo pf most n (cur.length + 1) cur.length cur t false).2.1)
      else shrGo pf most f (max (n / 2) 1) (rndGo pf most n (cur.length + 1) cur.length cur t false).1 (rndGo pf most n (cur.length + 1) cur.length cur t false).2.1)
    else (cur, t)
theorem leftS_sub (l : List SrE) (fr n : Nat) : (leftS l fr n).Sublist l := by
  unfold leftS
  have h : (l.take fr ++ l.drop (fr + n)).Sublist (l.take fr ++ l.drop fr) := by
    apply List.Sublist.append_left
    rw [← List.drop_drop]
    exact List.drop_sublist _ _
  rwa [List.take_append_drop] at h
/-- what a round keeps -/
structure RndOk (pf : List SrE → Bool) (most : Int) (cur : List SrE) (t : Int) (r : List SrE × Int × Bool) : Prop where
  sub : r.1.Sublist cur
  le : t ≤ r.2.1
  mx : t ≤ most → r.2.1 ≤ most
  fails : pf cur = true → pf r.1 = true
theorem rndGo_ok (pf : List SrE → Bool) (most : Int) (n : Nat) : ∀ (f a : Nat) (cur : List SrE) (t : Int) (kp : Bool), RndOk pf most cur t (rndGo pf most n f a cur t kp)
  | 0, a, cur, t, kp => ⟨List.Sublist.refl _, Int.le_refl _, id, id⟩
  | f + 1, a, cur, t, kp => by
    rw [rndGo]
    split
    · rename_i h
      split
      · rename_i hp
        obtain ⟨h1, h2, h3, h4⟩ := rndGo_ok pf most n f (a - n) (leftS cur (a - n) n) (t + 1) true
        exact ⟨h1.trans (leftS_sub _ _ _), by omega, fun ht => h3 (by omega), fun _ => h4 hp⟩
      · obtain ⟨h1, h2, h3, h4⟩ := rndGo_ok pf most n f (a - n) cur (t + 1) kp
        exact ⟨h1, by omega, fun ht => h3 (by omega), h4⟩
    · exact ⟨List.Sublist.refl _, Int.le_refl _, id, id⟩
/-- a try was made, if one might be -/
theorem rndGo_try (pf : List SrE → Bool) (most : Int) (n f a : Nat) (cur : List SrE) (t : Int) (kp : Bool) (h : n ≤ a) (ht : t < most) : t + 1 ≤ (rndGo pf most n (f + 1) a cur t kp).2.1 := by
  rw [rndGo, if_pos ⟨h, ht⟩]
  split
  · exact (rndGo_ok pf most n f _ _ _ _).le
  · exact (rndGo_ok pf most n f _ _ _ _).le
/-- how much may still be done -/
def shrM (most : Int) (n : Nat) (t : Int) : Nat := (most - t).toNat * 2000 + n
theorem shr_step (pf : List SrE → Bool) (most : Int) {n : Nat} (hn : 1 ≤ n) {cur : List SrE} {t : Int} (h : 0 < cur.length ∧ t < most)
    (hk : ¬ ((rndGo pf most n (cur.length + 1) cur.length cur t false).2.2 = false ∧ n = 1)) : shrM most (max (n / 2) 1) (rndGo pf most n (cur.length + 1) cur.length cur t false).2.1 < shrM most n t := by
  obtain ⟨_, h2, h3, _⟩ := rndGo_ok pf most n (cur.length + 1) cur.length cur t false
  have h3 := h3 (by omega)
  unfold shrM
  by_cases hl : n ≤ cur.length
  · have := rndGo_try pf most n cur.length cur.length cur t false hl h.2
    omega
  · have hn1 : n ≠ 1 := by omega
    omega
def scZero : Sc := ⟨⟨0, 0, 0, []⟩, [], [], 0, [], []⟩
def shrinkS (pf : List SrE → Bool) (s : Sc) (most : Int) : Sc × Int × Int :=
  if (checkS s).2 ≠ 0 then (scZero, 0, (checkS s).2) else
  if (decide (most < 1) || decide (most > 100000)) = true then (scZero, 0, 7) else
  if (!pf s.evs) = true then (scZero, 0, 2) else
  ({ s with evs := (shrGo pf most (shrM most (max (s.evs.length / 2) 1) 0 + 1) (max (s.evs.length / 2) 1) s.evs 0).1 }, (shrGo pf most (shrM most (max (s.evs.length / 2) 1) 0 + 1) (max (s.evs.length / 2) 1) s.evs 0).2, 0)
/-- the event of two bytes; ks: the calls that are sent already -/
def decE (s : Sc) (ks : List Int) (b v : Nat) : SrE :=
  if b % 8 = 3 then ⟨3, 1 + (v % 20 : Nat), 0⟩ else
  if b % 8 = 4 then ⟨4, 1 + (v % 8 : Nat), 0⟩ else
  if b % 8 = 5 then ⟨4, 1 + (v * v : Nat), 0⟩ else
  if b % 8 = 6 ∨ b % 8 = 7 then
    (if s.calls.length = 0 then ⟨2, (v : Nat), 0⟩ else if ks.contains ((v % s.calls.length : Nat) : Int) = true then ⟨2, (v : Nat), 0⟩ else ⟨1, (v % s.calls.length : Nat), 1 + ((v / s.calls.length : Nat) : Int) % s.workers⟩)
  else ⟨2, (v : Nat), 0⟩
def pairsOf : List UInt8 → List (Nat × Nat)
  | a :: b :: r => (a.toNat, b.toNat) :: pairsOf r
  | _ => []
def nextK (ks : List Int) (x : SrE) : List Int := if x.kind = 1 then addK x.a ks else ks
def decL (s : Sc) : List Int → List (Nat × Nat) → List SrE
  | _, [] => []
  | ks, p :: r => decE s ks p.1 p.2 :: decL s (nextK ks (decE s ks p.1 p.2)) r
theorem roundO_L (s : Sc) (hs : s.cp) {ff : Nat} {first : List LV} {pf : List SrE → Bool} (l0 : List SrE) (hfl : LV.lts 6 first = true) (hff : ∀ es : List SrE, es.Sublist l0 → PC Tryz.prog ff (first ++ [.agg ((Sc.c { s with evs := es }).map LV.sv)]) (.b (pf es)))
    (n : Nat) (hn : 1 ≤ n) (hn2 : n ≤ 1000) (most : Int) (hm : most ≤ 100000) (cur : List SrE) (hcl : cur.length ≤ 1000) (hsub : cur.Sublist l0) (t : Int) (ht : 0 ≤ t ∧ t ≤ 100000) :
    LC Tryz.prog 87 6 [.i n, .ptr 0 0, .ptr 1 0, .ptr 2 0, .ptr 3 0, .ptr 4 0] [(0, .box 27 [.sv (.sl 3 (cur.map SrE.c))]), (1, .box 3 [.i t]), (2, .box 3 [.i most]), (3, .box 30 [.fn (.func ff) first []]), (4, .box 29 (s.cO 5)), (5, .rs 58 3 (s.evs.map SrE.c))] (.b (rndGo pf most n (cur.length + 1) cur.length cur t false).2.2) [(0, .box 27 [.sv (.sl 3 ((rndGo pf most n (cur.length + 1) cur.length cur t false).1.map SrE.c))]), (1, .box 3 [.i (rndGo pf most n (cur.length + 1) cur.length cur t false).2.1]), (2, .box 3 [.i most]), (3, .box 30 [.fn (.func ff) first []]), (4, .box 29 (s.cO 5)), (5, .rs 58 3 (s.evs.map SrE.c))] 0 := by
 refine LC.of_go Tryz.func87 (c := _) rfl (by kernel_rfl) (by rw [Tryz.ntmps87]; simp) rfl rfl (by simp [LO.lt, LV.lts, LV.lt, lts_sv, hfl]) (by simp) ?_
 intro B hA hmd
 obtain ⟨G, hG⟩ : ∃ G, rndGo pf most n (cur.length + 1) cur.length cur t false = G := ⟨_, rfl⟩
 rw [hG]
 refine .seq ?_
 refine .region rfl ?_
 refine R.assign (h := ?_)
 refine .n0 ?_
 refine .seq ?_
 refine .seq ?_
 refine .region rfl ?_
 first | refine R.loadB O27 (h := ?_) | refine R.load1 O27 (h := ?_)
 first | refine R.len S27 (h := ?_) | refine R.lenRs S27 (h := ?_) | refine R.lenV (run_lenNil S27) (h := ?_)
 rw [List.length_map]
 refine R.assign (h := ?_)
 refine .n0 ?_
 refine .block ?_
 refine .loop ?_
 refine LGo.loopG (σ := Nat × Nat × List SrE × Int × Bool) (fun x => x.1 < x.2.1 ∧ x.1 ≤ x.2.2.1.length ∧ x.2.2.1.length ≤ 1000 ∧ 0 ≤ x.2.2.2.1 ∧ x.2.2.2.1 ≤ 100000 ∧ x.2.2.1.Sublist l0 ∧ rndGo pf most n x.2.1 x.1 x.2.2.1 x.2.2.2.1 x.2.2.2.2 = G) (fun x => [(8, (true, .i (x.1 : Nat))), (7, (true, .b x.2.2.2.2)), (1, (true, .ptr 0 0)), (2, (true, .ptr 1 0)), (3, (true, .ptr 2 0)), (4, (true, .ptr 3 0)), (5, (true, .ptr 4 0)), (0, (true, .i n))]) (fun x => [(0, .box 27 [.sv (.sl 3 (x.2.2.1.map SrE.c))]), (1, .box 3 [.i x.2.2.2.1]), (2, .box 3 [.i most]), (3, .box 30 [.fn (.func ff) first []]), (4, .box 29 (s.cO 5)), (5, .rs 58 3 (s.evs.map SrE.c))]) (fun x => x.1) (cur.length, cur.length + 1, cur, t, false) [] ⟨Nat.lt_succ_self _, Nat.le_refl _, hcl, ht.1, ht.2, hsub, hG⟩ (by repeat (first | exact trivial | refine ⟨rfl, ?_⟩)) (by repeat (first | exact trivial | refine ⟨rfl, ?_⟩)) (by repeat (first | exact trivial | refine ⟨rfl, ?_⟩)) ?_
 rintro ⟨a, f, cu, tt, kp⟩ ⟨haf, ha, hcu, ht0, ht1, hcs, hq⟩ ih
 dsimp only at * 
 obtain ⟨f, rfl⟩ : ∃ f2, f = f2 + 1 := ⟨f - 1, by omega⟩
 rw [rndGo] at hq
 refine .seq ?_
 refine .seq ?_
 refine .region rfl ?_
 refine R.move (h := ?_)
 refine R.move (h := ?_)
 refine R.bin (run_geq _ _ _ _ _ _) (h := ?_)
 refine R.move (h := ?_)
 first | refine R.loadB O3 (h := ?_) | refine R.load1 O3 (h := ?_)
 first | refine R.loadB O3 (h := ?_) | refine R.load1 O3 (h := ?_)
 refine R.bin (run_lss _ _ _ _ _ _) (h := ?_)
 refine R.and (h := ?_)
 refine .n0 ?_
 refine LGo.ifb (ht := fun hc => ?_) (hf := fun hc => ?_)
 ·
  simp only [Bool.and_eq_true, decide_eq_true_eq] at hc
  obtain ⟨hna, htm⟩ := hc
  have hna : n ≤ a := by omega
  rw [if_pos ⟨hna, htm⟩] at hq
  refine .skip ?_
  refine .seq ?_
  refine .block ?_
  refine .seq ?_
  refine .region rfl ?_
  first | refine R.loadB O3 (h := ?_) | refine R.load1 O3 (h := ?_)
  first | refine R.add (h := ?_) | refine R.addW (h := ?_)
  refine R.storeB O3 (h := ?_)
  refine .n0 ?_
  refine .seq ?_
  refine .region rfl ?_
  first | refine R.loadB O27 (h := ?_) | refine R.load1 O27 (h := ?_)
  refine R.move (h := ?_)
  refine R.move (h := ?_)
  first | refine R.sub (h := ?_) | refine R.subW (h := ?_)
  rw [show (a : Int) - n = ((a - n : Nat) : Int) from by omega]
  refine R.move (h := ?_)
  refine R.callP (es := [_, _, _]) (fun _ => left_P cu (a - n) n (by omega) (by omega)) (h := ?_)
  have hlen := leftS_len (l := cu) (fr := a - n) (n := n) (by omega)
  have hls := (leftS_sub cu (a - n) n).trans hcs
  obtain ⟨lf, hlf⟩ : ∃ lf, leftS cu (a - n) n = lf := ⟨_, rfl⟩
  rw [hlf] at hq hlen hls ⊢
  refine R.assign (h := ?_)
  refine .n0 ?_
  refine .seq ?_
  refine .region rfl ?_
  first | refine R.loadB O30 (h := ?_) | refine R.load1 O30 (h := ?_)
  first | refine R.loadA A29 (h := ?_) | refine R.loadN A29 (h := ?_) | refine R.loadP A29 (h := ?_)
  refine R.move (h := ?_)
  refine R.callP (es := [_]) (fun _ => cloneEv_P (lf.map SrE.c) (se_ones _) (by rw [List.length_map]; omega)) (h := ?_)
  refine R.callX (es := [_, _]) [5] (copied_L s hs lf) (h := ?_)
  refine R.callRd (es := [_]) (first := first) (cap := []) (Hi := []) (m := 0) (out := .b (pf lf)) (avs := [.agg ((Sc.c { s with evs := lf }).map LV.sv)]) (by rw [List.append_nil]; exact (hff lf hls).lc) (hL := fun k z hz => by simp at hz) (h := ?_)
  refine Reg.nil ⟨fun _ => ⟨mixedO, by rfl, by rfl⟩, ?_⟩
  refine LGo.ifb (ht := fun hc2 => ?_) (hf := fun hc2 => ?_)
  ·
   rw [if_pos hc2] at hq
   refine .region rfl ?_
   refine R.move (h := ?_)
   refine R.storeB O27 (h := ?_)
   refine R.assign (h := ?_)
   refine .n0 ?_
   refine .inBlock ?_
   refine .region rfl ?_
   refine R.move (h := ?_)
   refine R.move (h := ?_)
   first | refine R.sub (h := ?_) | refine R.subW (h := ?_)
   rw [show (a : Int) - n = ((a - n : Nat) : Int) from by omega]
   refine R.assign (h := ?_)
   refine .n0 ?_
   refine .inLoop ?_
   exact LGo.next _ (fun o h => by have := (hA o).1 h; omega) (by omega) (ih (a - n, f, lf, tt + 1, true) ⟨by dsimp only; omega, by dsimp only; omega, by dsimp only; omega, by dsimp only; omega, by dsimp only; omega, hls, hq⟩ (by dsimp only; omega)) (by repeat (first | exact trivial | refine ⟨rfl, ?_⟩)) ⟨rfl, rfl, rfl, rfl, rfl, rfl, trivial⟩ (hLl := by simp [LO.lt, LV.lts, LV.lt, lts_sv, hfl])
  ·
   rw [if_neg (by rw [hc2]; simp)] at hq
   refine .skip ?_
   refine .inBlock ?_
   refine .region rfl ?_
   refine R.move (h := ?_)
   refine R.move (h := ?_)
   first | refine R.sub (h := ?_) | refine R.subW (h := ?_)
   rw [show (a : Int) - n = ((a - n : Nat) : Int) from by omega]
   refine R.assign (h := ?_)
   refine .n0 ?_
   refine .inLoop ?_
   exact LGo.next _ (fun o h => by have := (hA o).1 h; omega) (by omega) (ih (a - n, f, cu, tt + 1, kp) ⟨by dsimp only; omega, by dsimp only; omega, by dsimp only; omega, by dsimp only; omega, by dsimp only; omega, hcs, hq⟩ (by dsimp only; omega)) (by repeat (first | exact trivial | refine ⟨rfl, ?_⟩)) ⟨rfl, rfl, rfl, rfl, rfl, rfl, trivial⟩ (hLl := by simp [LO.lt, LV.lts, LV.lt, lts_sv, hfl])
 ·
  rw [if_neg (fun h => by rw [decide_eq_true h.2, decide_eq_true (show (n : Int) ≤ a by omega)] at hc; simp at hc)] at hq
  subst hq
  refine .exit rfl ?_
  refine .seq ?_
  refine .region rfl ?_
  refine R.move (h := ?_)
  refine R.assign (h := ?_)
  refine .n0 ?_
  exact LGo.ret (ret_T Tryz.results87 hA hmd (hol := by simp [LO.lt, LV.lts, LV.lt, lts_sv, hfl]))
theorem shrinkO_L (s : Sc) (hs : s.sm) (hcp : s.cp) (hne : s.evs ≠ []) {ff : Nat} {pf : List SrE → Bool} (hff : (checkS s).2 = 0 → ∀ es : List SrE, es.Sublist s.evs → PC Tryz.prog ff ([] ++ [.agg ((Sc.c { s with evs := es }).map LV.sv)]) (.b (pf es))) (most : Int) (hmr : R64 most) : LC Tryz.prog 22 1 [.agg (s.cO 0), .fn (.func ff) [] [], .i most] [(0, .rs 58 3 (s.evs.map SrE.c))] (.tup [.agg ((shrinkS pf s most).1.c.map LV.sv), .i (shrinkS pf s most).2.1, .i (shrinkS pf s most).2.2]) [(0, .rs 58 3 (s.evs.map SrE.c))] 0 := by
 refine LC.of_go Tryz.func22 (c := _) rfl (by kernel_rfl) (by rw [Tryz.ntmps22]; simp) rfl rfl (by simp [LO.lt, LV.lts, LV.lt, lts_sv]) (by simp) ?_
 intro B hA hmd
 obtain ⟨g, e0⟩ : ∃ g, shrinkS pf s most = g := ⟨_, rfl⟩
 have e1 := e0
 unfold shrinkS at e1
 rw [e0]
 unfold R64 at hmr
 refine .seq ?_
 refine .region rfl ?_
 refine R.box (h := ?_)
 refine R.box (h := ?_)
 refine R.box (h := ?_)
 refine R.alloc Z29 (h := ?_)
 refine R.alloc Z3 (h := ?_)
 refine R.assign (h := ?_)
 refine .n0 ?_
 refine .seq ?_
 refine .region rfl ?_
 first | refine R.loadA A29 (h := ?_) | refine R.loadN A29 (h := ?_) | refine R.loadP A29 (h := ?_)
 refine R.callVA (es := [_]) (lvs := [.agg (s.c.map LV.sv)]) (rd := [(0, .rs 58 3 (s.evs.map SrE.c))]) (fun _ => checkS_P s hs) (hrd := oneL rfl) (h := ?_)
 refine R.move (h := ?_)
 refine R.extract (h := ?_)
 refine R.extract (h := ?_)
 refine R.assign (h := ?_)
 refine .n0 ?_
 refine .seq ?_
 refine .block ?_
 refine .seq ?_
 refine .region rfl ?_
 refine R.move (h := ?_)
 refine R.bin (run_neq _ _ _ _ _ _) (h := ?_)
 refine R.assign (h := ?_)
 refine .n0 ?_
 refine LGo.ifb (ht := fun hc => ?_) (hf := fun hc => ?_)
 ·
  rw [if_pos (by simpa using hc)] at e1
  rw [← e1]
  refine .seq ?_
  refine .region rfl ?_
  first | refine R.loadA A29 (h := ?_) | refine R.loadN A29 (h := ?_) | refine R.loadP A29 (h := ?_)
  refine R.move (h := ?_)
  refine R.storeA A29 (h := ?_)
  refine R.storeB O3 (h := ?_)
  refine R.assign (h := ?_)
  refine .n0 ?_
  refine LGo.packNil 4 3 80 3 (h := ?_)
  refine LGo.frzBx 4 (h := ?_)
  refine LGo.packNil 4 5 71 3 (h := ?_)
  refine LGo.frzBx 4 (h := ?_)
  refine LGo.packNil 4 7 40 11 (h := ?_)
  refine LGo.frzBx 4 (h := ?_)
  refine LGo.packNil 4 8 58 3 (h := ?_)
  refine LGo.frzBx 4 (h := ?_)
  exact LGo.ret (ret_ABT Tryz.results22 A29 O3 hA hmd)
 ·
  have hc0 : (checkS s).2 = 0 := by simpa using hc
  rw [if_neg (by simp [hc0])] at e1
  have hff := hff hc0
  have hel : s.evs.length ≤ 1000 := ((check_iff_S s).1 hc0).2.1
  refine .seq ?_
  refine .region rfl ?_
  first | refine R.loadB O30 (h := ?_) | refine R.load1 O30 (h := ?_)
  refine R.fnF (hT := Tryz.underlying30) (h := ?_)
  refine R.assign (h := ?_)
  refine .n0 ?_
  refine LGo.ifb (ht := fun hc2 => by simp at hc2) (hf := fun hc2 => ?_)
  refine .seq ?_
  refine .region rfl ?_
  first | refine R.loadB O3 (h := ?_) | refine R.load1 O3 (h := ?_)
  refine R.bin (run_lss _ _ _ _ _ _) (h := ?_)
  refine R.move (h := ?_)
  first | refine R.loadB O3 (h := ?_) | refine R.load1 O3 (h := ?_)
  refine R.bin (run_gtr _ _ _ _ _ _) (h := ?_)
  refine R.or (h := ?_)
  refine R.assign (h := ?_)
  refine .n0 ?_
  refine LGo.ifb (ht := fun hc3 => ?_) (hf := fun hc3 => ?_)
  ·
   rw [if_pos hc3] at e1
   rw [← e1]
   refine .seq ?_
   refine .region rfl ?_
   first | refine R.loadA A29 (h := ?_) | refine R.loadN A29 (h := ?_) | refine R.loadP A29 (h := ?_)
   refine R.storeA A29 (h := ?_)
   refine R.storeB O3 (h := ?_)
   refine R.assign (h := ?_)
   refine .n0 ?_
   refine LGo.packNil 4 3 80 3 (h := ?_)
   refine LGo.frzBx 4 (h := ?_)
   refine LGo.packNil 4 5 71 3 (h := ?_)
   refine LGo.frzBx 4 (h := ?_)
   refine LGo.packNil 4 7 40 11 (h := ?_)
   refine LGo.frzBx 4 (h := ?_)
   refine LGo.packNil 4 8 58 3 (h := ?_)
   refine LGo.frzBx 4 (h := ?_)
   exact LGo.ret (ret_ABT Tryz.results22 A29 O3 hA hmd)
  ·
   rw [if_neg (by rw [hc3]; simp)] at e1
   simp only [Bool.or_eq_false_iff, decide_eq_false_iff_not] at hc3
   refine .seq ?_
   refine .region rfl ?_
   first | refine R.loadB O30 (h := ?_) | refine R.load1 O30 (h := ?_)
   first | refine R.loadA A29 (h := ?_) | refine R.loadN A29 (h := ?_) | refine R.loadP A29 (h := ?_)
   first | refine R.field F29_5 (h := ?_) | refine R.fieldAt F29_5 (h := ?_)
   first | refine R.loadB O27 (h := ?_) | refine R.load1 O27 (h := ?_)
   refine R.callX (es := [_]) [0] (cloneEv_L (s.evs.map SrE.c) (se_ones _) (by rw [List.length_map]; omega) (by simpa using hne)) (h := ?_)
   refine R.callX (es := [_, _]) [0] (copied_L s hcp s.evs) (h := ?_)
   refine R.callRd (es := [_]) (first := []) (cap := []) (Hi := []) (m := 0) (out := .b (pf s.evs)) (avs := [.agg (s.c.map LV.sv)]) (by rw [List.append_nil]; exact (hff s.evs (List.Sublist.refl _)).lc) (hL := fun k z hz => by simp at hz) (h := ?_)
   refine R.not (h := ?_)
   refine R.assign (h := ?_)
   refine Reg.nil ⟨fun _ => ⟨mixedO, by rfl, by rfl⟩, ?_⟩
   refine LGo.ifb (ht := fun hc4 => ?_) (hf := fun hc4 => ?_)
   ·
    rw [if_pos hc4] at e1
    rw [← e1]
    refine .seq ?_
    refine .region rfl ?_
    first | refine R.loadA A29 (h := ?_) | refine R.loadN A29 (h := ?_) | refine R.loadP A29 (h := ?_)
    refine R.storeA A29 (h := ?_)
    refine R.storeB O3 (h := ?_)
    refine R.assign (h := ?_)
    refine .n0 ?_
    refine LGo.packNil 4 3 80 3 (h := ?_)
    refine LGo.frzBx 4 (h := ?_)
    refine LGo.packNil 4 5 71 3 (h := ?_)
    refine LGo.frzBx 4 (h := ?_)
    refine LGo.packNil 4 7 40 11 (h := ?_)
    refine LGo.frzBx 4 (h := ?_)
    refine LGo.packNil 4 8 58 3 (h := ?_)
    refine LGo.frzBx 4 (h := ?_)
    exact LGo.ret (ret_ABT Tryz.results22 A29 O3 hA hmd)
   ·
    rw [if_neg (by rw [hc4]; simp)] at e1
    obtain ⟨G, hG⟩ : ∃ G, shrGo pf most (shrM most (max (s.evs.length / 2) 1) 0 + 1) (max (s.evs.length / 2) 1) s.evs 0 = G := ⟨_, rfl⟩
    rw [hG] at e1
    refine .skip ?_
    refine .inBlock ?_
    refine .seq ?_
    refine .region rfl ?_
    first | refine R.field F29_5 (h := ?_) | refine R.fieldAt F29_5 (h := ?_)
    first | refine R.loadB O27 (h := ?_) | refine R.load1 O27 (h := ?_)
    refine R.callX (es := [_]) [0] (cloneEv_L (s.evs.map SrE.c) (se_ones _) (by rw [List.length_map]; omega) (by simpa using hne)) (h := ?_)
    refine R.alloc Z27 (h := ?_)
    refine R.storeB O27 (h := ?_)
    refine .n0 ?_
    refine .seq ?_
    refine .region rfl ?_
    refine R.makeFunc (es := []) (fs := [_, _, _, _, _]) (h := ?_)
    refine R.assign (h := ?_)
    refine .n0 ?_
    refine .seq ?_
    refine .seq ?_
    refine .region rfl ?_
    first | refine R.loadB O27 (h := ?_) | refine R.load1 O27 (h := ?_)
    first | refine R.len S27 (h := ?_) | refine R.lenRs S27 (h := ?_) | refine R.lenV (run_lenNil S27) (h := ?_)
    rw [List.length_map]
    refine R.quo (h := ?_)
    refine R.maxI (h := ?_)
    rw [show max ((s.evs.length : Int) / 2) 1 = ((max (s.evs.length / 2) 1 : Nat) : Int) from by omega]
    refine R.assign (h := ?_)
    refine .n0 ?_
    refine .block ?_
    refine .loop ?_
    refine LGo.loopG (σ := Nat × Nat × List SrE × Int) (fun x => shrM most x.2.1 x.2.2.2 < x.1 ∧ 1 ≤ x.2.1 ∧ x.2.1 ≤ 1000 ∧ x.2.2.1.length ≤ 1000 ∧ x.2.2.1.Sublist s.evs ∧ 0 ≤ x.2.2.2 ∧ x.2.2.2 ≤ most ∧ shrGo pf most x.1 x.2.1 x.2.2.1 x.2.2.2 = G) (fun x => [(11, (true, .i (x.2.1 : Nat)))]) (fun x => [(1, .box 29 (s.cO 0)), (2, .box 30 [.fn (.func ff) [] []]), (3, .box 3 [.i most]), (4, .box 29 [.i 0, .i 0, .i 0, .v (.slice none 0 0), .t [], .v (.slice none 0 0), .i 0, .v (.slice none 0 0), .v (.slice none 0 0)]), (5, .box 3 [.i x.2.2.2]), (6, .box 27 [.sv (.sl 3 (x.2.2.1.map SrE.c))]), (0, .rs 58 3 (s.evs.map SrE.c))]) (fun x => x.1) (shrM most (max (s.evs.length / 2) 1) 0 + 1, max (s.evs.length / 2) 1, s.evs, 0) [(3, _), (5, _), (6, _), (7, _), (9, _), (10, _)] ⟨Nat.lt_succ_self _, by dsimp only; omega, by dsimp only; omega, hel, List.Sublist.refl _, Int.le_refl _, by dsimp only; omega, hG⟩ (by repeat (first | exact trivial | refine ⟨rfl, ?_⟩)) (by repeat (first | exact trivial | refine ⟨rfl, ?_⟩)) (by repeat (first | exact trivial | refine ⟨rfl, ?_⟩)) ?_
    rintro ⟨f, n, cu, tt⟩ ⟨hmf, hn1, hn2, hcl, hsub, ht0, htm, hq⟩ ih
    dsimp only at * 
    obtain ⟨f, rfl⟩ : ∃ f2, f = f2 + 1 := ⟨f - 1, by omega⟩
    rw [shrGo] at hq
    refine .seq ?_
    refine .seq ?_
    refine .region rfl ?_
    first | refine R.loadB O27 (h := ?_) | refine R.load1 O27 (h := ?_)
    first | refine R.len S27 (h := ?_) | refine R.lenRs S27 (h := ?_) | refine R.lenV (run_lenNil S27) (h := ?_)
    rw [List.length_map]
    refine R.bin (run_gtr _ _ _ _ _ _) (h := ?_)
    refine R.move (h := ?_)
    first | refine R.loadB O3 (h := ?_) | refine R.load1 O3 (h := ?_)
    first | refine R.loadB O3 (h := ?_) | refine R.load1 O3 (h := ?_)
    refine R.bin (run_lss _ _ _ _ _ _) (h := ?_)
    refine R.and (h := ?_)
    refine .n0 ?_
    refine LGo.ifb (ht := fun hc5 => ?_) (hf := fun hc5 => ?_)
    ·
     simp only [Bool.and_eq_true, decide_eq_true_eq] at hc5
     have hcc : 0 < cu.length ∧ tt < most := by omega
     rw [if_pos hcc] at hq
     have hr := rndGo_ok pf most n (cu.length + 1) cu.length cu tt false
     have hst := fun h => shr_step pf most hn1 hcc h
     have hL := roundO_L s hcp (ff := ff) (first := []) (pf := pf) s.evs rfl hff n hn1 hn2 most (by omega) cu hcl hsub tt (by omega)
     generalize rndGo pf most n (cu.length + 1) cu.length cu tt false = rr at hq hr hst hL
     obtain ⟨cu2, tt2, kp2⟩ := rr
     dsimp only at hq hr hst hL
     refine .skip ?_
     refine .seq ?_
     refine .block ?_
     refine .seq ?_
     refine .region rfl ?_
     refine R.move (h := ?_)
     refine R.move (h := ?_)
     refine R.callX (es := [_]) (first := []) (cap := [_, _, _, _, _]) [6, 5, 3, 2, 1, 0] hL (h := ?_)
     refine R.assign (h := ?_)
     refine .n0 ?_
     refine .seq ?_
     refine .region rfl ?_
     refine R.move (h := ?_)
     refine R.not (h := ?_)
     refine R.move (h := ?_)
     refine R.move (h := ?_)
     refine R.bin (run_eql _ _ _ _ _ _) (h := ?_)
     rw [show decide ((n : Int) = 1) = decide (n = 1) from by rw [decide_eq_decide]; omega]
     refine R.and (h := ?_)
     refine .n0 ?_
     refine LGo.ifb (ht := fun hc6 => ?_) (hf := fun hc6 => ?_)
     ·
      rw [if_pos (by simpa using hc6)] at hq
      refine .exit rfl ?_
      refine .seq ?_
      refine .region rfl ?_
      first | refine R.loadA A29 (h := ?_) | refine R.loadN A29 (h := ?_) | refine R.loadP A29 (h := ?_)
      first | refine R.loadB O27 (h := ?_) | refine R.load1 O27 (h := ?_)
      refine R.callX (es := [_, _]) [0] (copied_L s hcp _) (h := ?_)
      first | refine R.loadB O3 (h := ?_) | refine R.load1 O3 (h := ?_)
      refine R.storeA A29 (h := ?_)
      refine R.storeB O3 (h := ?_)
      refine R.assign (h := ?_)
      refine Reg.nil ⟨fun _ => ⟨mixedO, by rfl, by rfl⟩, ?_⟩
      rw [← hq] at e1
      rw [← e1]
      exact LGo.ret (ret_ABT Tryz.results22 A29 O3 hA hmd)
     ·
      have hk6 : ¬ (kp2 = false ∧ n = 1) := fun h => by rw [h.1, h.2] at hc6; simp at hc6
      rw [if_neg hk6] at hq
      have hsf : shrM most (max (n / 2) 1) tt2 < f := by have := hst hk6; omega
      refine .skip ?_
      refine .inBlock ?_
      refine .region rfl ?_
      refine R.move (h := ?_)
      refine R.quo (h := ?_)
      refine R.maxI (h := ?_)
      rw [show max ((n : Int) / 2) 1 = ((max (n / 2) 1 : Nat) : Int) from by omega]
      refine R.assign (h := ?_)
      refine .n0 ?_
      refine .inLoop ?_
      exact LGo.next _ (fun o h => by have := (hA o).1 h; omega) (by omega) (ih (f, max (n / 2) 1, cu2, tt2) ⟨hsf, by dsimp only; omega, by dsimp only; omega, by have h := hr.sub.length_le; dsimp only at h ⊢; omega, hr.sub.trans hsub, by have h := hr.le; dsimp only at h ⊢; omega, hr.mx htm, hq⟩ (by dsimp only; omega)) (by repeat (first | exact trivial | refine ⟨rfl, ?_⟩)) ⟨rfl, rfl, rfl, rfl, rfl, rfl, rfl, trivial⟩
    ·
     rw [if_neg (fun h => by rw [decide_eq_true h.2, decide_eq_true (show (cu.length : Int) > 0 by omega)] at hc5; simp at hc5)] at hq
     refine .exit rfl ?_
     refine .seq ?_
     refine .region rfl ?_
     first | refine R.loadA A29 (h := ?_) | refine R.loadN A29 (h := ?_) | refine R.loadP A29 (h := ?_)
     first | refine R.loadB O27 (h := ?_) | refine R.load1 O27 (h := ?_)
     refine R.callX (es := [_, _]) [0] (copied_L s hcp _) (h := ?_)
     first | refine R.loadB O3 (h := ?_) | refine R.load1 O3 (h := ?_)
     refine R.storeA A29 (h := ?_)
     refine R.storeB O3 (h := ?_)
     refine R.assign (h := ?_)
     refine Reg.nil ⟨fun _ => ⟨mixedO, by rfl, by rfl⟩, ?_⟩
     rw [← hq] at e1
     rw [← e1]
     exact LGo.ret (ret_ABT Tryz.results22 A29 O3 hA hmd)
theorem drop_take {α : Type} {l : List α} {n k : Nat} (h : k < l.length) (hn : k < n) : (l.take n).drop k = l[k] :: (l.take n).drop (k + 1) := by
  rw [List.drop_eq_getElem_cons (by rw [List.length_take]; omega), List.getElem_take]
/-- scripts as0 they are read -/
structure Sc.ok (s : Sc) : Prop where
  n1 : R64 s.ven.shards
  n2 : R64 s.ven.ttl
  n3 : R64 s.ven.session
  vl : s.ven.secs.length ≤ maxLen
  vs : ∀ x ∈ s.ven.secs, x.name.length ≤ maxLen ∧ x.rows.length ≤ maxLen ∧ (∀ n ∈ x.rows, R64 n) ∧ R64 x.queue
  key : s.key.length ≤ maxLen
  gl : s.gates.length ≤ maxLen
  gs : ∀ x ∈ s.gates, x.ok
  w : R64 s.workers
  cl : s.calls.length ≤ maxLen
  cs : ∀ c ∈ s.calls, c.ok
  el : s.evs.length ≤ maxLen
  es : ∀ x ∈ s.evs, R64 x.kind ∧ R64 x.a ∧ R64 x.b
/-- scripts that are not far -/
structure Sc.near (s : Sc) : Prop where
  vl : s.ven.secs.length ≤ 10
  vs : ∀ x ∈ s.ven.secs, x.name.length ≤ 100 ∧ x.rows.length ≤ 20
  gl : s.gates.length ≤ 10
  gs : ∀ x ∈ s.gates, x.secs.length ≤ 10
  key : s.key.length ≤ 200
  cl : s.calls.length ≤ 20 ∨ 61 ≤ s.calls.length ∧ s.calls.length ≤ 70
  cs : ∀ c ∈ s.calls, c.raw.length ≤ 700
  el : s.evs.length ≤ 100 ∨ 1001 ≤ s.evs.length ∧ s.evs.length ≤ 1100
theorem Sc.ok.sm {s : Sc} (h : s.ok) (hn : s.near) : s.sm := by
  have h1 := h.key
  have h2 := h.cl
  have h3 := h.el
  exact ⟨⟨by have := hn.vl; omega, fun x hx => by have := (hn.vs x hx).1; omega⟩, by have := hn.gl; omega, fun x hx => by have := hn.gs x hx; omega, h1, h2, h.cs, h3⟩
theorem Sc.near.cp {s : Sc} (hn : s.near) : s.cp :=
  ⟨by have := hn.vl; omega, fun x hx => by have := (hn.vs x hx).2; omega, by have := hn.gl; omega, fun x hx => by have := hn.gs x hx; omega, by have := hn.cl; omega⟩
section
open Go.ChangeShapes Go.WideShapes Go.Deep Go.RowKit Go.ChangeAt
variable {H : Type} {enc : TypeId × Value → H} {w : World}
end
end Go.Proofs.YteccglgbkehdeaaGreatDoor
