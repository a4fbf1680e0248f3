/- Part of the proof of this claim: walks and laws that it leans on; no condition. -/
import Derived.Test.YtgkhfpfjokagfaaGreatDoorXG4
import Derived.Shelf.Strings.Builder1
import Derived.Shelf.Strings.Builder2
import Derived.Shelf.Strings.OnBuilder
import Derived.Shelf.Strings.Trim
import Derived.Shelf.Small.Utf8
import Derived.Shelf.Small.Strs
import Derived.Shelf.Strings.BuilderF
import Derived.Shelf.Strings.BuilderK
import Derived.Shelf.Utf8.RuneCount
import Derived.Shelf.Strings.Builder2Cap
import Derived.Shelf.Strconv.Atoi
import Derived.Shelf.Strconv.Itoa0
import Derived.Shelf.Strconv.Itoa1
import Derived.Shelf.LaysM
import Derived.Shelf.Strconv.Itoa2
import Derived.Shelf.Strconv.Itoa3
import Derived.Shelf.Strconv.Itoa4
import Derived.Shelf.Strconv.AtoiErrFast
import Derived.Shelf.Strconv.ParseIntEmpty
import Derived.Shelf.Strconv.AtoiFail
import Derived.Shelf.Strconv.Clone
import Derived.Shelf.Strconv.SyntaxError
import Derived.Shelf.LaysC
import Derived.Shelf.Strconv.ToError
import Derived.Shelf.Strconv.AtoiErr
import Derived.Shelf.Strconv.ErrVar
import Derived.Shelf.Strconv.Lower
import Derived.Shelf.Strconv.ParseUint10
import Derived.Shelf.Strconv.ParseUint10Empty
import Derived.Shelf.Strconv.ParseUint10Any
import Derived.Shelf.Strconv.ParseInt10
import Derived.Shelf.Strconv.RangeError
import Derived.Shelf.Strconv.ToErrorRange
import Derived.Shelf.Strconv.ParseUintEmpty
import Derived.Shelf.Strconv.ParseUint10b64
import Derived.Shelf.Strconv.ParseUint10b32
import Derived.Shelf.Strconv.ParseUint10b16
import Derived.Shelf.Strconv.ParseUint10b8
import Derived.Shelf.Strconv.ParseUint10At
import Derived.Shelf.Strconv.ParseInt10At64
import Derived.Shelf.Strconv.ParseInt10At32
import Derived.Shelf.Strconv.ParseInt10At16
import Derived.Shelf.Strconv.ParseInt10At8
import Derived.Shelf.Strconv.ParseInt10All
import Derived.Shelf.Strconv.ParseIntPublic10
import Derived.Shelf.Strconv.ErrVarParseInt
import Derived.Shelf.Strings.Search1
import Derived.Shelf.Strings.Search2
import Derived.Shelf.Strings.Search3
import Derived.Shelf.Strings.Cut
import Derived.Shelf.Strings.Count
import Derived.Shelf.Strings.Shaped
import Derived.Shelf.Strings.Prefix
import Derived.Shelf.Strings.Split
import Derived.Shelf.Strings.SplitShaped
import Derived.Shelf.Unicode.Decode
import Derived.Shelf.Strings.Runes
import Derived.Shelf.Strings.RuneCount
import Derived.Shelf.Strings.AsciiSet
import Derived.Shelf.Strings.Explode
import Derived.Shelf.Bits.Mul64
import Derived.Shelf.Strings.Repeat
import Derived.Shelf.Unicode.DecodeSlow
import Derived.Shelf.Unicode.DecodeAny
import Derived.Shelf.Unicode.DecodeLast
import Derived.Shelf.Strings.BuilderCap
import Derived.Ground.Names2Prog
import Derived.Shelf.Slices.Clone
import Derived.Ground.SlgnProg
import Derived.Shelf.SlicesE.Clone
import Derived.Test.YtgkhfpfjokagfaaGreatDoorProg
import Derived.Shelf.Strings.SlTrimAscii
import Derived.Lib.ItoaMem
import Derived.Lib.AppendIntMem
import Derived.Lib.Walk
import Derived.WalkKit
import Derived.BigCall
import Derived.BigGuard
set_option linter.unusedSimpArgs false
set_option linter.unusedVariables false
namespace Go.Proofs.YtgkhfpfjokagfaaGreatDoor
open Go.Shelf
def iC:Go.Shelf.Ren:=⟨fun|156=>71|165=>128|166=>18|169=>31|240=>64|241=>174|276=>123|277=>209|n=>n,fun|31=>95|9=>9|3=>3|4=>4|0=>0|20=>20|72=>60|76=>63|70=>58|37=>52|75=>62|127=>149|164=>187|5=>5|80=>89|n=>n,fun|n=>n⟩
theorem mG:Go.Proofs.Lays.n156 Tryz.prog iC:={
 mixed:=by kernel_rfl
 f156:=Tryz.func71.trans (congrArg some (by kernel_rfl))
 f165:=Tryz.func128.trans (congrArg some (by kernel_rfl))
 f166:=Tryz.func18.trans (congrArg some (by kernel_rfl))
 f169:=Tryz.func31.trans (congrArg some (by kernel_rfl))
 f240:=Tryz.func64.trans (congrArg some (by kernel_rfl))
 f241:=Tryz.func174.trans (congrArg some (by kernel_rfl))
 f276:=Tryz.func123.trans (congrArg some (by kernel_rfl))
 f277:=Tryz.func209.trans (congrArg some (by kernel_rfl))
 t0:=Tryz.underlying0
 a0:=Tryz.isAgg0
 z0:=Tryz.sizeOf0
 v0:=Tryz.zeroValue0
 t3:=Tryz.underlying3
 a3:=Tryz.isAgg3
 z3:=Tryz.sizeOf3
 v3:=Tryz.zeroValue3
 t4:=Tryz.underlying4
 a4:=Tryz.isAgg4
 z4:=Tryz.sizeOf4
 v4:=Tryz.zeroValue4
 t9:=Tryz.underlying9
 a9:=Tryz.isAgg9
 z9:=Tryz.sizeOf9
 v9:=Tryz.zeroValue9
 t20:=Tryz.underlying20
 a20:=Tryz.isAgg20
 z20:=Tryz.sizeOf20
 v20:=Tryz.zeroValue20
 t31:=Tryz.underlying95
 a31:=Tryz.isAgg95
 z31:=Tryz.sizeOf95
 v31:=Tryz.zeroValue95
 t37:=Tryz.underlying52
 a37:=Tryz.isAgg52
 z37:=Tryz.sizeOf52
 v37:=Tryz.zeroValue52
 t70:=Tryz.underlying58
 a70:=Tryz.isAgg58
 z70:=Tryz.sizeOf58
 v70:=Tryz.zeroValue58
 t72:=Tryz.underlying60
 a72:=Tryz.isAgg60
 z72:=Tryz.sizeOf60
 v72:=Tryz.zeroValue60
 t75:=Tryz.underlying62
 a75:=Tryz.isAgg62
 z75:=Tryz.sizeOf62
 v75:=Tryz.zeroValue62
 t76:=Tryz.underlying63
 a76:=Tryz.isAgg63
 z76:=Tryz.sizeOf63
 v76:=Tryz.zeroValue63
 t127:=Tryz.underlying149
 a127:=Tryz.isAgg149
 z127:=Tryz.sizeOf149
 v127:=Tryz.zeroValue149
 t164:=Tryz.underlying187
 a164:=Tryz.isAgg187
 z164:=Tryz.sizeOf187
 v164:=Tryz.zeroValue187}
theorem e8:Builder.Extra Tryz.prog iC:={
 sizeBuilder:=by kernel_rfl
 liesBuilder:=by kernel_rfl
 t5:=Tryz.underlying5
 a5:=Tryz.isAgg5
 z5:=Tryz.sizeOf5
 v5:=Tryz.zeroValue5
 infoByte:=by kernel_rfl
 cellsByte:=by kernel_rfl
 sizeByte:=by kernel_rfl
 neB5:=by decide}
open Go.RowKit in
theorem Tryz.strings_Join_none(a:Option Addr)(c:Nat)(sep:ByteArray)(w:World):
 Calls Tryz.prog 71 #[.slice a 0 c,.string sep] w fun e w'=>e= .returned (.string ⟨#[]⟩)∧w'=w:=Any.strings_Join_none mG e8 a c sep w
open Go.RowKit in
theorem Tryz.strings_Join(bk o c:Nat)(xs:List ByteArray)(sep:ByteArray)(w:World)(hcells:∀(j:Nat) x,xs[j]?=some x→w.cell? ⟨bk,o+j,none⟩=some (.string x))(hbk:bk<w.heap.size)(hN:xs.length≤140737488355328)(hcap:xs.length≤c)(hlen:(Lib.join (xs.map (·.data.toList)) sep.data.toList).length≤140737488355328):
 Calls Tryz.prog 71 #[.slice (some ⟨bk,o,none⟩) xs.length c,.string sep] w fun e w'=>e= .returned (.string ⟨(Lib.join (xs.map (·.data.toList)) sep.data.toList).toArray⟩)∧Below w.heap.size w w':=Any.strings_Join mG e8 bk o c xs sep w hcells hbk hN hcap hlen
def nL:Go.Shelf.Ren:=⟨fun|160=>210|232=>236|231=>235|227=>237|234=>239|233=>238|236=>241|235=>240|228=>263|271=>265|151=>264|197=>219|120=>278|152=>277|260=>249|137=>267|119=>282|224=>172|225=>171|217=>170|266=>207|n=>n,fun|9=>9|4=>4|3=>3|5=>5|117=>302|116=>301|0=>0|124=>305|21=>21|105=>286|46=>191|119=>322|139=>325|138=>324|n=>n,fun|3=>6|4=>7|n=>n⟩
theorem mF:Go.Proofs.Lays.n160 Tryz.prog nL:={
 mixed:=by kernel_rfl
 f119:=Tryz.func282.trans (congrArg some (by kernel_rfl))
 f120:=Tryz.func278.trans (congrArg some (by kernel_rfl))
 f137:=Tryz.func267.trans (congrArg some (by kernel_rfl))
 f151:=Tryz.func264.trans (congrArg some (by kernel_rfl))
 f152:=Tryz.func277.trans (congrArg some (by kernel_rfl))
 f160:=Tryz.func210.trans (congrArg some (by kernel_rfl))
 f197:=Tryz.func219.trans (congrArg some (by kernel_rfl))
 f217:=Tryz.func170.trans (congrArg some (by kernel_rfl))
 f224:=Tryz.func172.trans (congrArg some (by kernel_rfl))
 f225:=Tryz.func171.trans (congrArg some (by kernel_rfl))
 f227:=Tryz.func237.trans (congrArg some (by kernel_rfl))
 f228:=Tryz.func263.trans (congrArg some (by kernel_rfl))
 f231:=Tryz.func235.trans (congrArg some (by kernel_rfl))
 f232:=Tryz.func236.trans (congrArg some (by kernel_rfl))
 f233:=Tryz.func238.trans (congrArg some (by kernel_rfl))
 f234:=Tryz.func239.trans (congrArg some (by kernel_rfl))
 f235:=Tryz.func240.trans (congrArg some (by kernel_rfl))
 f236:=Tryz.func241.trans (congrArg some (by kernel_rfl))
 f260:=Tryz.func249.trans (congrArg some (by kernel_rfl))
 f266:=Tryz.func207.trans (congrArg some (by kernel_rfl))
 f271:=Tryz.func265.trans (congrArg some (by kernel_rfl))
 t0:=Tryz.underlying0
 a0:=Tryz.isAgg0
 z0:=Tryz.sizeOf0
 v0:=Tryz.zeroValue0
 t3:=Tryz.underlying3
 a3:=Tryz.isAgg3
 z3:=Tryz.sizeOf3
 v3:=Tryz.zeroValue3
 t4:=Tryz.underlying4
 a4:=Tryz.isAgg4
 z4:=Tryz.sizeOf4
 v4:=Tryz.zeroValue4
 t5:=Tryz.underlying5
 a5:=Tryz.isAgg5
 z5:=Tryz.sizeOf5
 v5:=Tryz.zeroValue5
 t9:=Tryz.underlying9
 a9:=Tryz.isAgg9
 z9:=Tryz.sizeOf9
 v9:=Tryz.zeroValue9
 t21:=Tryz.underlying21
 a21:=Tryz.isAgg21
 z21:=Tryz.sizeOf21
 v21:=Tryz.zeroValue21
 t46:=Tryz.underlying191
 a46:=Tryz.isAgg191
 z46:=Tryz.sizeOf191
 v46:=Tryz.zeroValue191
 t105:=Tryz.underlying286
 a105:=Tryz.isAgg286
 z105:=Tryz.sizeOf286
 v105:=Tryz.zeroValue286
 t116:=Tryz.underlying301
 a116:=Tryz.isAgg301
 z116:=Tryz.sizeOf301
 t117:=Tryz.underlying302
 a117:=Tryz.isAgg302
 z117:=Tryz.sizeOf302
 v117:=Tryz.zeroValue302
 t119:=Tryz.underlying322
 a119:=Tryz.isAgg322
 z119:=Tryz.sizeOf322
 t124:=Tryz.underlying305
 a124:=Tryz.isAgg305
 z124:=Tryz.sizeOf305
 v124:=Tryz.zeroValue305
 t138:=Tryz.underlying324
 a138:=Tryz.isAgg324
 z138:=Tryz.sizeOf324
 v138:=Tryz.zeroValue324
 t139:=Tryz.underlying325
 a139:=Tryz.isAgg325
 z139:=Tryz.sizeOf325
 v139:=Tryz.zeroValue325
 g3:=by kernel_rfl
 g4:=by kernel_rfl}
def nP:Go.Shelf.Ren:=⟨fun|106=>253|213=>270|265=>279|n=>n,fun|9=>9|3=>3|n=>n,fun|n=>n⟩
theorem tR:Go.Proofs.Lays.n106 Tryz.prog nP:={
 mixed:=by kernel_rfl
 f106:=Tryz.func253.trans (congrArg some (by kernel_rfl))
 f213:=Tryz.func270.trans (congrArg some (by kernel_rfl))
 f265:=Tryz.func279.trans (congrArg some (by kernel_rfl))
 t3:=Tryz.underlying3
 a3:=Tryz.isAgg3
 z3:=Tryz.sizeOf3
 v3:=Tryz.zeroValue3
 t9:=Tryz.underlying9
 a9:=Tryz.isAgg9
 z9:=Tryz.sizeOf9
 v9:=Tryz.zeroValue9}
open Go.RowKit in
theorem Tryz.strings_Compare(a b:ByteArray)(w:World):
 Calls Tryz.prog 253 #[.string a,.string b] w fun e w'=>e= .returned (.int .i64 (Lib.compareBytes a.data.toList b.data.toList))∧w'=w:=Any.strings_Compare tR a b w
def nO:Go.Shelf.Ren:=⟨fun|137=>267|217=>170|266=>207|n=>n,fun|9=>9|5=>5|3=>3|n=>n,fun|n=>n⟩
theorem tQ:Go.Proofs.Lays.n137 Tryz.prog nO:={
 mixed:=by kernel_rfl
 f137:=Tryz.func267.trans (congrArg some (by kernel_rfl))
 f217:=Tryz.func170.trans (congrArg some (by kernel_rfl))
 f266:=Tryz.func207.trans (congrArg some (by kernel_rfl))
 t3:=Tryz.underlying3
 a3:=Tryz.isAgg3
 z3:=Tryz.sizeOf3
 v3:=Tryz.zeroValue3
 t5:=Tryz.underlying5
 a5:=Tryz.isAgg5
 z5:=Tryz.sizeOf5
 v5:=Tryz.zeroValue5
 t9:=Tryz.underlying9
 a9:=Tryz.isAgg9
 z9:=Tryz.sizeOf9
 v9:=Tryz.zeroValue9}
open Go.RowKit in
theorem Tryz.strings_IndexByte(s:ByteArray)(c:Int)(w:World):
 Calls Tryz.prog 267 #[.string s,.int .u8 c] w fun e w'=>e= .returned (.int .i64 (Lib.indexByte s.data.toList c.toNat.toUInt8))∧w'=w:=Any.strings_IndexByte tQ s c w
def nK:Go.Shelf.Ren:=⟨fun|172=>226|244=>257|245=>229|247=>228|279=>259|280=>260|281=>261|282=>262|287=>252|316=>275|171=>74|205=>276|321=>268|322=>269|243=>132|246=>124|283=>166|284=>167|285=>168|286=>169|129=>203|317=>202|318=>204|319=>205|320=>206|337=>233|338=>234|n=>n,fun|9=>9|3=>3|75=>62|76=>63|4=>4|5=>5|167=>314|37=>52|0=>0|85=>260|2=>2|168=>315|53=>55|175=>291|46=>191|210=>330|127=>149|145=>338|143=>336|21=>21|171=>233|173=>236|212=>276|51=>43|20=>20|213=>277|232=>318|233=>319|80=>89|n=>n,fun|15=>8|16=>9|17=>3|18=>4|19=>5|n=>n⟩
theorem tP:Go.Proofs.Lays.n172 Tryz.prog nK:={
 mixed:=by kernel_rfl
 f129:=Tryz.func203.trans (congrArg some (by kernel_rfl))
 f171:=Tryz.func74.trans (congrArg some (by kernel_rfl))
 f172:=Tryz.func226.trans (congrArg some (by kernel_rfl))
 f205:=Tryz.func276.trans (congrArg some (by kernel_rfl))
 f243:=Tryz.func132.trans (congrArg some (by kernel_rfl))
 f244:=Tryz.func257.trans (congrArg some (by kernel_rfl))
 f245:=Tryz.func229.trans (congrArg some (by kernel_rfl))
 f246:=Tryz.func124.trans (congrArg some (by kernel_rfl))
 f247:=Tryz.func228.trans (congrArg some (by kernel_rfl))
 f279:=Tryz.func259.trans (congrArg some (by kernel_rfl))
 f280:=Tryz.func260.trans (congrArg some (by kernel_rfl))
 f281:=Tryz.func261.trans (congrArg some (by kernel_rfl))
 f282:=Tryz.func262.trans (congrArg some (by kernel_rfl))
 f283:=Tryz.func166.trans (congrArg some (by kernel_rfl))
 f284:=Tryz.func167.trans (congrArg some (by kernel_rfl))
 f285:=Tryz.func168.trans (congrArg some (by kernel_rfl))
 f286:=Tryz.func169.trans (congrArg some (by kernel_rfl))
 f287:=Tryz.func252.trans (congrArg some (by kernel_rfl))
 f316:=Tryz.func275.trans (congrArg some (by kernel_rfl))
 f317:=Tryz.func202.trans (congrArg some (by kernel_rfl))
 f318:=Tryz.func204.trans (congrArg some (by kernel_rfl))
 f319:=Tryz.func205.trans (congrArg some (by kernel_rfl))
 f320:=Tryz.func206.trans (congrArg some (by kernel_rfl))
 f321:=Tryz.func268.trans (congrArg some (by kernel_rfl))
 f322:=Tryz.func269.trans (congrArg some (by kernel_rfl))
 f337:=Tryz.func233.trans (congrArg some (by kernel_rfl))
 f338:=Tryz.func234.trans (congrArg some (by kernel_rfl))
 t0:=Tryz.underlying0
 a0:=Tryz.isAgg0
 z0:=Tryz.sizeOf0
 v0:=Tryz.zeroValue0
 t2:=Tryz.underlying2
 a2:=Tryz.isAgg2
 z2:=Tryz.sizeOf2
 v2:=Tryz.zeroValue2
 t3:=Tryz.underlying3
 a3:=Tryz.isAgg3
 z3:=Tryz.sizeOf3
 v3:=Tryz.zeroValue3
 t4:=Tryz.underlying4
 a4:=Tryz.isAgg4
 z4:=Tryz.sizeOf4
 v4:=Tryz.zeroValue4
 t5:=Tryz.underlying5
 a5:=Tryz.isAgg5
 z5:=Tryz.sizeOf5
 v5:=Tryz.zeroValue5
 t9:=Tryz.underlying9
 a9:=Tryz.isAgg9
 z9:=Tryz.sizeOf9
 v9:=Tryz.zeroValue9
 t20:=Tryz.underlying20
 a20:=Tryz.isAgg20
 z20:=Tryz.sizeOf20
 v20:=Tryz.zeroValue20
 t21:=Tryz.underlying21
 a21:=Tryz.isAgg21
 z21:=Tryz.sizeOf21
 v21:=Tryz.zeroValue21
 t37:=Tryz.underlying52
 a37:=Tryz.isAgg52
 z37:=Tryz.sizeOf52
 v37:=Tryz.zeroValue52
 t46:=Tryz.underlying191
 a46:=Tryz.isAgg191
 z46:=Tryz.sizeOf191
 v46:=Tryz.zeroValue191
 t51:=Tryz.underlying43
 a51:=Tryz.isAgg43
 z51:=Tryz.sizeOf43
 v51:=Tryz.zeroValue43
 t53:=Tryz.underlying55
 a53:=Tryz.isAgg55
 z53:=Tryz.sizeOf55
 v53:=Tryz.zeroValue55
 t75:=Tryz.underlying62
 a75:=Tryz.isAgg62
 z75:=Tryz.sizeOf62
 v75:=Tryz.zeroValue62
 t76:=Tryz.underlying63
 a76:=Tryz.isAgg63
 z76:=Tryz.sizeOf63
 v76:=Tryz.zeroValue63
 t85:=Tryz.underlying260
 a85:=Tryz.isAgg260
 z85:=Tryz.sizeOf260
 v85:=Tryz.zeroValue260
 t127:=Tryz.underlying149
 a127:=Tryz.isAgg149
 z127:=Tryz.sizeOf149
 v127:=Tryz.zeroValue149
 t143:=Tryz.underlying336
 a143:=Tryz.isAgg336
 z143:=Tryz.sizeOf336
 v143:=Tryz.zeroValue336
 t145:=Tryz.underlying338
 a145:=Tryz.isAgg338
 z145:=Tryz.sizeOf338
 v145:=Tryz.zeroValue338
 t167:=Tryz.underlying314
 a167:=Tryz.isAgg314
 z167:=Tryz.sizeOf314
 v167:=Tryz.zeroValue314
 t168:=Tryz.underlying315
 a168:=Tryz.isAgg315
 z168:=Tryz.sizeOf315
 v168:=Tryz.zeroValue315
 t171:=Tryz.underlying233
 a171:=Tryz.isAgg233
 z171:=Tryz.sizeOf233
 v171:=Tryz.zeroValue233
 t173:=Tryz.underlying236
 a173:=Tryz.isAgg236
 z173:=Tryz.sizeOf236
 v173:=Tryz.zeroValue236
 t175:=Tryz.underlying291
 a175:=Tryz.isAgg291
 z175:=Tryz.sizeOf291
 v175:=Tryz.zeroValue291
 t210:=Tryz.underlying330
 a210:=Tryz.isAgg330
 z210:=Tryz.sizeOf330
 v210:=Tryz.zeroValue330
 t212:=Tryz.underlying276
 a212:=Tryz.isAgg276
 z212:=Tryz.sizeOf276
 v212:=Tryz.zeroValue276
 t213:=Tryz.underlying277
 a213:=Tryz.isAgg277
 z213:=Tryz.sizeOf277
 t232:=Tryz.underlying318
 a232:=Tryz.isAgg318
 z232:=Tryz.sizeOf318
 v232:=Tryz.zeroValue318
 t233:=Tryz.underlying319
 a233:=Tryz.isAgg319
 z233:=Tryz.sizeOf319
 v233:=Tryz.zeroValue319
 g15:=by kernel_rfl
 g16:=by kernel_rfl
 g17:=by kernel_rfl
 g18:=by kernel_rfl
 g19:=by kernel_rfl}
open Go.RowKit in
theorem Tryz.strconv_Atoi(s:ByteArray)(n:Int)(hl:s.size≤18)(h:Lib.atoi s.data.toList=some n)(w:World):
 Calls Tryz.prog 226 #[.string s] w fun e w'=>e= .returned (.tuple #[.int .i64 n,.nilIface])∧∃t,w'=Lib.bytesWorld w 5 t:=Any.strconv_Atoi tP s n hl h w
def nH:Go.Shelf.Ren:=⟨fun|283=>166|n=>n,fun|3=>3|9=>9|4=>4|n=>n,fun|n=>n⟩
theorem tN:Go.Proofs.Lays.n283 Tryz.prog nH:={
 mixed:=by kernel_rfl
 f283:=Tryz.func166.trans (congrArg some (by kernel_rfl))
 t3:=Tryz.underlying3
 a3:=Tryz.isAgg3
 z3:=Tryz.sizeOf3
 v3:=Tryz.zeroValue3
 t4:=Tryz.underlying4
 a4:=Tryz.isAgg4
 z4:=Tryz.sizeOf4
 v4:=Tryz.zeroValue4
 t9:=Tryz.underlying9
 a9:=Tryz.isAgg9
 z9:=Tryz.sizeOf9
 v9:=Tryz.zeroValue9}
open Go.Lib in
theorem Tryz.internal_strconv_small(i:Nat)(h:i<100)(w:World):
 Calls Tryz.prog 166 #[.int .i64 i] w fun e w'=>e= .returned (.string ⟨(Lib.decDigits i).toArray⟩)∧w'=w:=Any.internal_strconv_small tN i h w
def mM:Go.Shelf.Ren:=⟨fun|284=>167|129=>203|317=>202|318=>204|n=>n,fun|53=>55|3=>3|212=>276|0=>0|4=>4|46=>191|5=>5|9=>9|n=>n,fun|17=>3|n=>n⟩
theorem rE:Go.Proofs.LaysM.n284 Tryz.prog mM:={
 mixed:=by kernel_rfl
 f129:=Tryz.func203.trans (congrArg some (by kernel_rfl))
 f284:=Tryz.func167.trans (congrArg some (by kernel_rfl))
 f317:=Tryz.func202.trans (congrArg some (by kernel_rfl))
 f318:=Tryz.func204.trans (congrArg some (by kernel_rfl))
 t0:=Tryz.underlying0
 a0:=Tryz.isAgg0
 z0:=Tryz.sizeOf0
 v0:=Tryz.zeroValue0
 t3:=Tryz.underlying3
 a3:=Tryz.isAgg3
 z3:=Tryz.sizeOf3
 v3:=Tryz.zeroValue3
 t4:=Tryz.underlying4
 a4:=Tryz.isAgg4
 z4:=Tryz.sizeOf4
 v4:=Tryz.zeroValue4
 t5:=Tryz.underlying5
 a5:=Tryz.isAgg5
 z5:=Tryz.sizeOf5
 v5:=Tryz.zeroValue5
 t9:=Tryz.underlying9
 a9:=Tryz.isAgg9
 z9:=Tryz.sizeOf9
 v9:=Tryz.zeroValue9
 t46:=Tryz.underlying191
 a46:=Tryz.isAgg191
 z46:=Tryz.sizeOf191
 v46:=Tryz.zeroValue191
 t53:=Tryz.underlying55
 a53:=Tryz.isAgg55
 z53:=Tryz.sizeOf55
 v53:=Tryz.zeroValue55
 t212:=Tryz.underlying276
 a212:=Tryz.isAgg276
 z212:=Tryz.sizeOf276
 v212:=Tryz.zeroValue276
 g17:=by kernel_rfl
 i0:=by kernel_rfl
 i3:=by kernel_rfl
 i4:=by kernel_rfl
 i5:=by kernel_rfl
 i9:=by kernel_rfl
 i46:=by kernel_rfl
 i53:=by kernel_rfl
 i212:=by kernel_rfl
 m17:=by kernel_rfl}
open Go.Lib in
theorem Tryz.internal_strconv_numDigits(u:Nat)(h1:1≤u)(h2:u<18446744073709551616)(w:World)(htab:Lib.TabIs Tryz.prog w "internal/strconv.uint64pow10" .u64 Lib.pow10Tab):
 Calls Tryz.prog 167 #[.int .u64 u] w fun e w'=>e= .returned (.int .i64 (Lib.nDigits u))∧w'=w:=Any.internal_strconv_numDigits rE u h1 h2 w htab
def nF:Go.Shelf.Ren:=⟨fun|285=>168|n=>n,fun|37=>52|53=>55|3=>3|4=>4|51=>43|9=>9|5=>5|0=>0|n=>n,fun|n=>n⟩
theorem tM:Go.Proofs.Lays.n285 Tryz.prog nF:={
 mixed:=by kernel_rfl
 f285:=Tryz.func168.trans (congrArg some (by kernel_rfl))
 t0:=Tryz.underlying0
 a0:=Tryz.isAgg0
 z0:=Tryz.sizeOf0
 v0:=Tryz.zeroValue0
 t3:=Tryz.underlying3
 a3:=Tryz.isAgg3
 z3:=Tryz.sizeOf3
 v3:=Tryz.zeroValue3
 t4:=Tryz.underlying4
 a4:=Tryz.isAgg4
 z4:=Tryz.sizeOf4
 v4:=Tryz.zeroValue4
 t5:=Tryz.underlying5
 a5:=Tryz.isAgg5
 z5:=Tryz.sizeOf5
 v5:=Tryz.zeroValue5
 t9:=Tryz.underlying9
 a9:=Tryz.isAgg9
 z9:=Tryz.sizeOf9
 v9:=Tryz.zeroValue9
 t37:=Tryz.underlying52
 a37:=Tryz.isAgg52
 z37:=Tryz.sizeOf52
 v37:=Tryz.zeroValue52
 t51:=Tryz.underlying43
 a51:=Tryz.isAgg43
 z51:=Tryz.sizeOf43
 v51:=Tryz.zeroValue43
 t53:=Tryz.underlying55
 a53:=Tryz.isAgg55
 z53:=Tryz.sizeOf55
 v53:=Tryz.zeroValue55}
open Go.RowKit Go.Sort Go.Lib in
theorem Tryz.internal_strconv_formatBase10(blk off cap:Nat)(u:Nat)(d:Array UInt8)(w:World)(hH:Holds (fun(b:UInt8)=>Value.int .u8 (b.toNat:Int)) w blk off d)(hu:u<10^d.size)(hu64:u<18446744073709551616)(hsz:d.size<4611686018427387904):
 Calls Tryz.prog 168 #[.slice (some ⟨blk,off,none⟩) d.size cap,.int .u64 u] w fun e w'=>
  e= .returned (.tuple #[])∧∃(n v':Nat) (dk:Array UInt8),w'=(putRow (fun(b:UInt8)=>Value.int .u8 (b.toNat:Int)) w blk off dk).drewN n∧FmtInv d.size u 0 v' dk:=Any.internal_strconv_formatBase10 tM blk off cap u d w hH hu hu64 hsz
def mO:Go.Shelf.Ren:=⟨fun|171=>74|243=>132|246=>124|283=>166|284=>167|285=>168|286=>169|129=>203|317=>202|318=>204|319=>205|320=>206|337=>233|338=>234|n=>n,fun|3=>3|9=>9|2=>2|4=>4|171=>233|0=>0|53=>55|37=>52|5=>5|173=>236|212=>276|51=>43|20=>20|213=>277|46=>191|232=>318|233=>319|n=>n,fun|17=>3|18=>4|19=>5|n=>n⟩
theorem rG:Go.Proofs.LaysM.n171 Tryz.prog mO:={
 mixed:=by kernel_rfl
 f129:=Tryz.func203.trans (congrArg some (by kernel_rfl))
 f171:=Tryz.func74.trans (congrArg some (by kernel_rfl))
 f243:=Tryz.func132.trans (congrArg some (by kernel_rfl))
 f246:=Tryz.func124.trans (congrArg some (by kernel_rfl))
 f283:=Tryz.func166.trans (congrArg some (by kernel_rfl))
 f284:=Tryz.func167.trans (congrArg some (by kernel_rfl))
 f285:=Tryz.func168.trans (congrArg some (by kernel_rfl))
 f286:=Tryz.func169.trans (congrArg some (by kernel_rfl))
 f317:=Tryz.func202.trans (congrArg some (by kernel_rfl))
 f318:=Tryz.func204.trans (congrArg some (by kernel_rfl))
 f319:=Tryz.func205.trans (congrArg some (by kernel_rfl))
 f320:=Tryz.func206.trans (congrArg some (by kernel_rfl))
 f337:=Tryz.func233.trans (congrArg some (by kernel_rfl))
 f338:=Tryz.func234.trans (congrArg some (by kernel_rfl))
 t0:=Tryz.underlying0
 a0:=Tryz.isAgg0
 z0:=Tryz.sizeOf0
 v0:=Tryz.zeroValue0
 t2:=Tryz.underlying2
 a2:=Tryz.isAgg2
 z2:=Tryz.sizeOf2
 v2:=Tryz.zeroValue2
 t3:=Tryz.underlying3
 a3:=Tryz.isAgg3
 z3:=Tryz.sizeOf3
 v3:=Tryz.zeroValue3
 t4:=Tryz.underlying4
 a4:=Tryz.isAgg4
 z4:=Tryz.sizeOf4
 v4:=Tryz.zeroValue4
 t5:=Tryz.underlying5
 a5:=Tryz.isAgg5
 z5:=Tryz.sizeOf5
 v5:=Tryz.zeroValue5
 t9:=Tryz.underlying9
 a9:=Tryz.isAgg9
 z9:=Tryz.sizeOf9
 v9:=Tryz.zeroValue9
 t20:=Tryz.underlying20
 a20:=Tryz.isAgg20
 z20:=Tryz.sizeOf20
 v20:=Tryz.zeroValue20
 t37:=Tryz.underlying52
 a37:=Tryz.isAgg52
 z37:=Tryz.sizeOf52
 v37:=Tryz.zeroValue52
 t46:=Tryz.underlying191
 a46:=Tryz.isAgg191
 z46:=Tryz.sizeOf191
 v46:=Tryz.zeroValue191
 t51:=Tryz.underlying43
 a51:=Tryz.isAgg43
 z51:=Tryz.sizeOf43
 v51:=Tryz.zeroValue43
 t53:=Tryz.underlying55
 a53:=Tryz.isAgg55
 z53:=Tryz.sizeOf55
 v53:=Tryz.zeroValue55
 t171:=Tryz.underlying233
 a171:=Tryz.isAgg233
 z171:=Tryz.sizeOf233
 v171:=Tryz.zeroValue233
 t173:=Tryz.underlying236
 a173:=Tryz.isAgg236
 z173:=Tryz.sizeOf236
 v173:=Tryz.zeroValue236
 t212:=Tryz.underlying276
 a212:=Tryz.isAgg276
 z212:=Tryz.sizeOf276
 v212:=Tryz.zeroValue276
 t213:=Tryz.underlying277
 a213:=Tryz.isAgg277
 z213:=Tryz.sizeOf277
 t232:=Tryz.underlying318
 a232:=Tryz.isAgg318
 z232:=Tryz.sizeOf318
 v232:=Tryz.zeroValue318
 t233:=Tryz.underlying319
 a233:=Tryz.isAgg319
 z233:=Tryz.sizeOf319
 v233:=Tryz.zeroValue319
 g17:=by kernel_rfl
 g18:=by kernel_rfl
 g19:=by kernel_rfl
 i0:=by kernel_rfl
 i2:=by kernel_rfl
 i3:=by kernel_rfl
 i4:=by kernel_rfl
 i5:=by kernel_rfl
 i9:=by kernel_rfl
 i20:=by kernel_rfl
 i37:=by kernel_rfl
 i46:=by kernel_rfl
 i51:=by kernel_rfl
 i53:=by kernel_rfl
 i171:=by kernel_rfl
 i173:=by kernel_rfl
 i212:=by kernel_rfl
 i232:=by kernel_rfl
 i233:=by kernel_rfl
 m17:=by kernel_rfl
 m18:=by kernel_rfl
 m19:=by kernel_rfl}
open Go.RowKit Go.Sort Go.Lib in
theorem Tryz.strconv_Itoa(n:Int)(h0:-9223372036854775808≤n)(h1:n≤9223372036854775807)(w:World)(htab:Lib.TabIs Tryz.prog w "internal/strconv.uint64pow10" .u64 Lib.pow10Tab):
 Calls Tryz.prog 74 #[.int .i64 n] w fun e w'=>e= .returned (.string ⟨(Lib.itoa n).toArray⟩)∧∃k os,w'=grow (w.drewN k) os:=Any.strconv_Itoa rG n h0 h1 w htab
def mN:Go.Shelf.Ren:=⟨fun|173=>65|246=>124|283=>166|284=>167|285=>168|286=>169|129=>203|317=>202|318=>204|319=>205|320=>206|337=>233|338=>234|n=>n,fun|2=>2|3=>3|9=>9|4=>4|171=>233|0=>0|53=>55|37=>52|5=>5|173=>236|212=>276|51=>43|20=>20|213=>277|46=>191|232=>318|233=>319|n=>n,fun|17=>3|18=>4|19=>5|n=>n⟩
theorem rF:Go.Proofs.LaysM.n173 Tryz.prog mN:={
 mixed:=by kernel_rfl
 f129:=Tryz.func203.trans (congrArg some (by kernel_rfl))
 f173:=Tryz.func65.trans (congrArg some (by kernel_rfl))
 f246:=Tryz.func124.trans (congrArg some (by kernel_rfl))
 f283:=Tryz.func166.trans (congrArg some (by kernel_rfl))
 f284:=Tryz.func167.trans (congrArg some (by kernel_rfl))
 f285:=Tryz.func168.trans (congrArg some (by kernel_rfl))
 f286:=Tryz.func169.trans (congrArg some (by kernel_rfl))
 f317:=Tryz.func202.trans (congrArg some (by kernel_rfl))
 f318:=Tryz.func204.trans (congrArg some (by kernel_rfl))
 f319:=Tryz.func205.trans (congrArg some (by kernel_rfl))
 f320:=Tryz.func206.trans (congrArg some (by kernel_rfl))
 f337:=Tryz.func233.trans (congrArg some (by kernel_rfl))
 f338:=Tryz.func234.trans (congrArg some (by kernel_rfl))
 t0:=Tryz.underlying0
 a0:=Tryz.isAgg0
 z0:=Tryz.sizeOf0
 v0:=Tryz.zeroValue0
 t2:=Tryz.underlying2
 a2:=Tryz.isAgg2
 z2:=Tryz.sizeOf2
 v2:=Tryz.zeroValue2
 t3:=Tryz.underlying3
 a3:=Tryz.isAgg3
 z3:=Tryz.sizeOf3
 v3:=Tryz.zeroValue3
 t4:=Tryz.underlying4
 a4:=Tryz.isAgg4
 z4:=Tryz.sizeOf4
 v4:=Tryz.zeroValue4
 t5:=Tryz.underlying5
 a5:=Tryz.isAgg5
 z5:=Tryz.sizeOf5
 v5:=Tryz.zeroValue5
 t9:=Tryz.underlying9
 a9:=Tryz.isAgg9
 z9:=Tryz.sizeOf9
 v9:=Tryz.zeroValue9
 t20:=Tryz.underlying20
 a20:=Tryz.isAgg20
 z20:=Tryz.sizeOf20
 v20:=Tryz.zeroValue20
 t37:=Tryz.underlying52
 a37:=Tryz.isAgg52
 z37:=Tryz.sizeOf52
 v37:=Tryz.zeroValue52
 t46:=Tryz.underlying191
 a46:=Tryz.isAgg191
 z46:=Tryz.sizeOf191
 v46:=Tryz.zeroValue191
 t51:=Tryz.underlying43
 a51:=Tryz.isAgg43
 z51:=Tryz.sizeOf43
 v51:=Tryz.zeroValue43
 t53:=Tryz.underlying55
 a53:=Tryz.isAgg55
 z53:=Tryz.sizeOf55
 v53:=Tryz.zeroValue55
 t171:=Tryz.underlying233
 a171:=Tryz.isAgg233
 z171:=Tryz.sizeOf233
 v171:=Tryz.zeroValue233
 t173:=Tryz.underlying236
 a173:=Tryz.isAgg236
 z173:=Tryz.sizeOf236
 v173:=Tryz.zeroValue236
 t212:=Tryz.underlying276
 a212:=Tryz.isAgg276
 z212:=Tryz.sizeOf276
 v212:=Tryz.zeroValue276
 t213:=Tryz.underlying277
 a213:=Tryz.isAgg277
 z213:=Tryz.sizeOf277
 t232:=Tryz.underlying318
 a232:=Tryz.isAgg318
 z232:=Tryz.sizeOf318
 v232:=Tryz.zeroValue318
 t233:=Tryz.underlying319
 a233:=Tryz.isAgg319
 z233:=Tryz.sizeOf319
 v233:=Tryz.zeroValue319
 g17:=by kernel_rfl
 g18:=by kernel_rfl
 g19:=by kernel_rfl
 i0:=by kernel_rfl
 i2:=by kernel_rfl
 i3:=by kernel_rfl
 i4:=by kernel_rfl
 i5:=by kernel_rfl
 i9:=by kernel_rfl
 i20:=by kernel_rfl
 i37:=by kernel_rfl
 i46:=by kernel_rfl
 i51:=by kernel_rfl
 i53:=by kernel_rfl
 i171:=by kernel_rfl
 i173:=by kernel_rfl
 i212:=by kernel_rfl
 i232:=by kernel_rfl
 i233:=by kernel_rfl
 m17:=by kernel_rfl
 m18:=by kernel_rfl
 m19:=by kernel_rfl}
open Go.RowKit Go.Sort Go.Lib in
theorem Tryz.strconv_FormatInt_10(n:Int)(h0:-9223372036854775808≤n)(h1:n≤9223372036854775807)(w:World)(htab:Lib.TabIs Tryz.prog w "internal/strconv.uint64pow10" .u64 Lib.pow10Tab):
 Calls Tryz.prog 65 #[.int .i64 n,.int .i64 10] w fun e w'=>e= .returned (.string ⟨(Lib.itoa n).toArray⟩)∧∃k os,w'=grow (w.drewN k) os:=Any.strconv_FormatInt_10 rF n h0 h1 w htab
def mP:Go.Shelf.Ren:=⟨fun|174=>192|247=>228|245=>229|287=>252|279=>259|280=>260|281=>261|282=>262|321=>268|322=>269|316=>275|171=>74|205=>276|243=>132|246=>124|283=>166|284=>167|285=>168|286=>169|129=>203|317=>202|318=>204|319=>205|320=>206|337=>233|338=>234|n=>n,fun|9=>9|3=>3|2=>2|75=>62|85=>260|4=>4|167=>314|5=>5|53=>55|175=>291|46=>191|168=>315|37=>52|0=>0|210=>330|21=>21|127=>149|145=>338|143=>336|171=>233|173=>236|212=>276|51=>43|20=>20|213=>277|232=>318|233=>319|80=>89|n=>n,fun|15=>8|16=>9|17=>3|18=>4|19=>5|n=>n⟩
theorem kS:Go.Proofs.LaysC.n174 Tryz.prog mP:={
 mixed:=by kernel_rfl
 f129:=Tryz.func203.trans (congrArg some (by kernel_rfl))
 f171:=Tryz.func74.trans (congrArg some (by kernel_rfl))
 f174:=Tryz.func192.trans (congrArg some (by kernel_rfl))
 f205:=Tryz.func276.trans (congrArg some (by kernel_rfl))
 f243:=Tryz.func132.trans (congrArg some (by kernel_rfl))
 f245:=Tryz.func229.trans (congrArg some (by kernel_rfl))
 f246:=Tryz.func124.trans (congrArg some (by kernel_rfl))
 f247:=Tryz.func228.trans (congrArg some (by kernel_rfl))
 f279:=Tryz.func259.trans (congrArg some (by kernel_rfl))
 f280:=Tryz.func260.trans (congrArg some (by kernel_rfl))
 f281:=Tryz.func261.trans (congrArg some (by kernel_rfl))
 f282:=Tryz.func262.trans (congrArg some (by kernel_rfl))
 f283:=Tryz.func166.trans (congrArg some (by kernel_rfl))
 f284:=Tryz.func167.trans (congrArg some (by kernel_rfl))
 f285:=Tryz.func168.trans (congrArg some (by kernel_rfl))
 f286:=Tryz.func169.trans (congrArg some (by kernel_rfl))
 f287:=Tryz.func252.trans (congrArg some (by kernel_rfl))
 f316:=Tryz.func275.trans (congrArg some (by kernel_rfl))
 f317:=Tryz.func202.trans (congrArg some (by kernel_rfl))
 f318:=Tryz.func204.trans (congrArg some (by kernel_rfl))
 f319:=Tryz.func205.trans (congrArg some (by kernel_rfl))
 f320:=Tryz.func206.trans (congrArg some (by kernel_rfl))
 f321:=Tryz.func268.trans (congrArg some (by kernel_rfl))
 f322:=Tryz.func269.trans (congrArg some (by kernel_rfl))
 f337:=Tryz.func233.trans (congrArg some (by kernel_rfl))
 f338:=Tryz.func234.trans (congrArg some (by kernel_rfl))
 t0:=Tryz.underlying0
 a0:=Tryz.isAgg0
 z0:=Tryz.sizeOf0
 v0:=Tryz.zeroValue0
 t2:=Tryz.underlying2
 a2:=Tryz.isAgg2
 z2:=Tryz.sizeOf2
 v2:=Tryz.zeroValue2
 t3:=Tryz.underlying3
 a3:=Tryz.isAgg3
 z3:=Tryz.sizeOf3
 v3:=Tryz.zeroValue3
 t4:=Tryz.underlying4
 a4:=Tryz.isAgg4
 z4:=Tryz.sizeOf4
 v4:=Tryz.zeroValue4
 t5:=Tryz.underlying5
 a5:=Tryz.isAgg5
 z5:=Tryz.sizeOf5
 v5:=Tryz.zeroValue5
 t9:=Tryz.underlying9
 a9:=Tryz.isAgg9
 z9:=Tryz.sizeOf9
 v9:=Tryz.zeroValue9
 t20:=Tryz.underlying20
 a20:=Tryz.isAgg20
 z20:=Tryz.sizeOf20
 v20:=Tryz.zeroValue20
 t21:=Tryz.underlying21
 a21:=Tryz.isAgg21
 z21:=Tryz.sizeOf21
 v21:=Tryz.zeroValue21
 t37:=Tryz.underlying52
 a37:=Tryz.isAgg52
 z37:=Tryz.sizeOf52
 v37:=Tryz.zeroValue52
 t46:=Tryz.underlying191
 a46:=Tryz.isAgg191
 z46:=Tryz.sizeOf191
 v46:=Tryz.zeroValue191
 t51:=Tryz.underlying43
 a51:=Tryz.isAgg43
 z51:=Tryz.sizeOf43
 v51:=Tryz.zeroValue43
 t53:=Tryz.underlying55
 a53:=Tryz.isAgg55
 z53:=Tryz.sizeOf55
 v53:=Tryz.zeroValue55
 t75:=Tryz.underlying62
 a75:=Tryz.isAgg62
 z75:=Tryz.sizeOf62
 v75:=Tryz.zeroValue62
 t85:=Tryz.underlying260
 a85:=Tryz.isAgg260
 z85:=Tryz.sizeOf260
 v85:=Tryz.zeroValue260
 t127:=Tryz.underlying149
 a127:=Tryz.isAgg149
 z127:=Tryz.sizeOf149
 v127:=Tryz.zeroValue149
 t143:=Tryz.underlying336
 a143:=Tryz.isAgg336
 z143:=Tryz.sizeOf336
 v143:=Tryz.zeroValue336
 t145:=Tryz.underlying338
 a145:=Tryz.isAgg338
 z145:=Tryz.sizeOf338
 v145:=Tryz.zeroValue338
 t167:=Tryz.underlying314
 a167:=Tryz.isAgg314
 z167:=Tryz.sizeOf314
 v167:=Tryz.zeroValue314
 t168:=Tryz.underlying315
 a168:=Tryz.isAgg315
 z168:=Tryz.sizeOf315
 v168:=Tryz.zeroValue315
 t171:=Tryz.underlying233
 a171:=Tryz.isAgg233
 z171:=Tryz.sizeOf233
 v171:=Tryz.zeroValue233
 t173:=Tryz.underlying236
 a173:=Tryz.isAgg236
 z173:=Tryz.sizeOf236
 v173:=Tryz.zeroValue236
 t175:=Tryz.underlying291
 a175:=Tryz.isAgg291
 z175:=Tryz.sizeOf291
 v175:=Tryz.zeroValue291
 t210:=Tryz.underlying330
 a210:=Tryz.isAgg330
 z210:=Tryz.sizeOf330
 v210:=Tryz.zeroValue330
 t212:=Tryz.underlying276
 a212:=Tryz.isAgg276
 z212:=Tryz.sizeOf276
 v212:=Tryz.zeroValue276
 t213:=Tryz.underlying277
 a213:=Tryz.isAgg277
 z213:=Tryz.sizeOf277
 t232:=Tryz.underlying318
 a232:=Tryz.isAgg318
 z232:=Tryz.sizeOf318
 v232:=Tryz.zeroValue318
 t233:=Tryz.underlying319
 a233:=Tryz.isAgg319
 z233:=Tryz.sizeOf319
 v233:=Tryz.zeroValue319
 g15:=by kernel_rfl
 g16:=by kernel_rfl
 g17:=by kernel_rfl
 g18:=by kernel_rfl
 g19:=by kernel_rfl
 t80:=Tryz.underlying89
 a80:=Tryz.isAgg89
 z80:=Tryz.sizeOf89
 v80:=Tryz.zeroValue89
 i0:=by kernel_rfl
 i2:=by kernel_rfl
 i3:=by kernel_rfl
 i4:=by kernel_rfl
 i5:=by kernel_rfl
 i9:=by kernel_rfl
 i20:=by kernel_rfl
 i21:=by kernel_rfl
 i37:=by kernel_rfl
 i46:=by kernel_rfl
 i51:=by kernel_rfl
 i53:=by kernel_rfl
 i75:=by kernel_rfl
 i80:=by kernel_rfl
 i85:=by kernel_rfl
 i127:=by kernel_rfl
 i143:=by kernel_rfl
 i145:=by kernel_rfl
 i167:=by kernel_rfl
 i168:=by kernel_rfl
 i171:=by kernel_rfl
 i173:=by kernel_rfl
 i175:=by kernel_rfl
 i210:=by kernel_rfl
 i212:=by kernel_rfl
 i232:=by kernel_rfl
 i233:=by kernel_rfl
 m15:=by kernel_rfl
 m16:=by kernel_rfl
 m17:=by kernel_rfl
 m18:=by kernel_rfl
 m19:=by kernel_rfl
 c0:=by kernel_rfl
 c2:=by kernel_rfl
 c3:=by kernel_rfl
 c4:=by kernel_rfl
 c5:=by kernel_rfl
 c9:=by kernel_rfl
 c20:=by kernel_rfl
 c21:=by kernel_rfl
 c37:=by kernel_rfl
 c46:=by kernel_rfl
 c51:=by kernel_rfl
 c53:=by kernel_rfl
 c75:=by kernel_rfl
 c80:=by kernel_rfl
 c85:=by kernel_rfl
 c127:=by kernel_rfl
 c143:=by kernel_rfl
 c145:=by kernel_rfl
 c167:=by kernel_rfl
 c168:=by kernel_rfl
 c171:=by kernel_rfl
 c173:=by kernel_rfl
 c175:=by kernel_rfl
 c210:=by kernel_rfl
 c212:=by kernel_rfl
 c213:=by kernel_rfl
 c232:=by kernel_rfl
 c233:=by kernel_rfl}
open Go.RowKit in
theorem Tryz.strconv_ParseInt_10_at64_ok(s:ByteArray)(hmax:s.size≤9223372036854775806)(v:Int)(h:Lib.parseIntB 64 s.data.toList= .ok v)(w:World):
 Calls Tryz.prog 192 #[.string s,.int .i64 10,.int .i64 64] w fun e w'=>e= .returned (.tuple #[.int .i64 v,.nilIface])∧(w'=w∨∃t,w'=Lib.bytesWorld w 5 t):=Any.strconv_ParseInt_10_at64_ok kS s hmax v h w
open Go.RowKit in
theorem Tryz.strconv_ParseInt_10_at64_range_var(s:ByteArray)(hlim:s.size≤281474976710656)(h:Lib.parseIntB 64 s.data.toList= .range)(tp:TypeId)(p:Value)(w:World)(hvar:w.var? Tryz.prog "strconv.ErrRange" =some #[.iface tp p]):
 Calls Tryz.prog 192 #[.string s,.int .i64 10,.int .i64 64] w fun e w'=>∃N,e= .returned (.tuple #[.int .i64 (Lib.intSat 64 s.data.toList),.iface 315 (.pointer (some ⟨N,0,none⟩))])∧w.heap.size≤N∧w'.heap[N]?=some (.cells #[.string ⟨#[80,97,114,115,101,73,110,116]⟩,.string s,.iface tp p] 330 (0,0))∧Below w.heap.size w w':=Any.strconv_ParseInt_10_at64_range_var kS s hlim h tp p w hvar
def nJ:Go.Shelf.Ren:=⟨fun|219=>125|217=>170|225=>171|224=>172|267=>173|266=>207|314=>208|n=>n,fun|9=>9|3=>3|4=>4|5=>5|46=>191|146=>279|51=>43|n=>n,fun|1=>0|n=>n⟩
theorem tO:Go.Proofs.Lays.n219 Tryz.prog nJ:={
 mixed:=by kernel_rfl
 f217:=Tryz.func170.trans (congrArg some (by kernel_rfl))
 f219:=Tryz.func125.trans (congrArg some (by kernel_rfl))
 f224:=Tryz.func172.trans (congrArg some (by kernel_rfl))
 f225:=Tryz.func171.trans (congrArg some (by kernel_rfl))
 f266:=Tryz.func207.trans (congrArg some (by kernel_rfl))
 f267:=Tryz.func173.trans (congrArg some (by kernel_rfl))
 f314:=Tryz.func208.trans (congrArg some (by kernel_rfl))
 t3:=Tryz.underlying3
 a3:=Tryz.isAgg3
 z3:=Tryz.sizeOf3
 v3:=Tryz.zeroValue3
 t4:=Tryz.underlying4
 a4:=Tryz.isAgg4
 z4:=Tryz.sizeOf4
 v4:=Tryz.zeroValue4
 t5:=Tryz.underlying5
 a5:=Tryz.isAgg5
 z5:=Tryz.sizeOf5
 v5:=Tryz.zeroValue5
 t9:=Tryz.underlying9
 a9:=Tryz.isAgg9
 z9:=Tryz.sizeOf9
 v9:=Tryz.zeroValue9
 t46:=Tryz.underlying191
 a46:=Tryz.isAgg191
 z46:=Tryz.sizeOf191
 v46:=Tryz.zeroValue191
 t51:=Tryz.underlying43
 a51:=Tryz.isAgg43
 z51:=Tryz.sizeOf43
 v51:=Tryz.zeroValue43
 t146:=Tryz.underlying279
 a146:=Tryz.isAgg279
 z146:=Tryz.sizeOf279
 v146:=Tryz.zeroValue279
 g1:=by kernel_rfl}
open Go.RowKit Go.Lib in
theorem Tryz.stringslite_Index_one(s:ByteArray)(c:UInt8)(w:World):
 Calls Tryz.prog 125 #[.string s,.string ⟨#[c]⟩] w fun e w'=>e= .returned (.int .i64 (Lib.indexByte s.data.toList c))∧w'=w:=Any.stringslite_Index_one tO s c w
def nM:Go.Shelf.Ren:=⟨fun|143=>68|219=>125|217=>170|225=>171|224=>172|267=>173|266=>207|314=>208|n=>n,fun|9=>9|3=>3|4=>4|5=>5|46=>191|146=>279|51=>43|n=>n,fun|1=>0|n=>n⟩
theorem ji:Go.Proofs.Lays.n143 Tryz.prog nM:={
 mixed:=by kernel_rfl
 f143:=Tryz.func68.trans (congrArg some (by kernel_rfl))
 f217:=Tryz.func170.trans (congrArg some (by kernel_rfl))
 f219:=Tryz.func125.trans (congrArg some (by kernel_rfl))
 f224:=Tryz.func172.trans (congrArg some (by kernel_rfl))
 f225:=Tryz.func171.trans (congrArg some (by kernel_rfl))
 f266:=Tryz.func207.trans (congrArg some (by kernel_rfl))
 f267:=Tryz.func173.trans (congrArg some (by kernel_rfl))
 f314:=Tryz.func208.trans (congrArg some (by kernel_rfl))
 t3:=Tryz.underlying3
 a3:=Tryz.isAgg3
 z3:=Tryz.sizeOf3
 v3:=Tryz.zeroValue3
 t4:=Tryz.underlying4
 a4:=Tryz.isAgg4
 z4:=Tryz.sizeOf4
 v4:=Tryz.zeroValue4
 t5:=Tryz.underlying5
 a5:=Tryz.isAgg5
 z5:=Tryz.sizeOf5
 v5:=Tryz.zeroValue5
 t9:=Tryz.underlying9
 a9:=Tryz.isAgg9
 z9:=Tryz.sizeOf9
 v9:=Tryz.zeroValue9
 t46:=Tryz.underlying191
 a46:=Tryz.isAgg191
 z46:=Tryz.sizeOf191
 v46:=Tryz.zeroValue191
 t51:=Tryz.underlying43
 a51:=Tryz.isAgg43
 z51:=Tryz.sizeOf43
 v51:=Tryz.zeroValue43
 t146:=Tryz.underlying279
 a146:=Tryz.isAgg279
 z146:=Tryz.sizeOf279
 v146:=Tryz.zeroValue279
 g1:=by kernel_rfl}
open Go.RowKit Go.Lib in
theorem Tryz.strings_Index_one(s:ByteArray)(c:UInt8)(w:World):
 Calls Tryz.prog 68 #[.string s,.string ⟨#[c]⟩] w fun e w'=>e= .returned (.int .i64 (Lib.indexByte s.data.toList c))∧w'=w:=Any.strings_Index_one ji s c w
def nN:Go.Shelf.Ren:=⟨fun|138=>20|195=>66|218=>67|143=>68|219=>125|217=>170|225=>171|224=>172|267=>173|266=>207|314=>208|n=>n,fun|9=>9|3=>3|4=>4|5=>5|0=>0|46=>191|146=>279|51=>43|n=>n,fun|1=>0|n=>n⟩
theorem jj:Go.Proofs.Lays.n138 Tryz.prog nN:={
 mixed:=by kernel_rfl
 f138:=Tryz.func20.trans (congrArg some (by kernel_rfl))
 f143:=Tryz.func68.trans (congrArg some (by kernel_rfl))
 f195:=Tryz.func66.trans (congrArg some (by kernel_rfl))
 f217:=Tryz.func170.trans (congrArg some (by kernel_rfl))
 f218:=Tryz.func67.trans (congrArg some (by kernel_rfl))
 f219:=Tryz.func125.trans (congrArg some (by kernel_rfl))
 f224:=Tryz.func172.trans (congrArg some (by kernel_rfl))
 f225:=Tryz.func171.trans (congrArg some (by kernel_rfl))
 f266:=Tryz.func207.trans (congrArg some (by kernel_rfl))
 f267:=Tryz.func173.trans (congrArg some (by kernel_rfl))
 f314:=Tryz.func208.trans (congrArg some (by kernel_rfl))
 t0:=Tryz.underlying0
 a0:=Tryz.isAgg0
 z0:=Tryz.sizeOf0
 v0:=Tryz.zeroValue0
 t3:=Tryz.underlying3
 a3:=Tryz.isAgg3
 z3:=Tryz.sizeOf3
 v3:=Tryz.zeroValue3
 t4:=Tryz.underlying4
 a4:=Tryz.isAgg4
 z4:=Tryz.sizeOf4
 v4:=Tryz.zeroValue4
 t5:=Tryz.underlying5
 a5:=Tryz.isAgg5
 z5:=Tryz.sizeOf5
 v5:=Tryz.zeroValue5
 t9:=Tryz.underlying9
 a9:=Tryz.isAgg9
 z9:=Tryz.sizeOf9
 v9:=Tryz.zeroValue9
 t46:=Tryz.underlying191
 a46:=Tryz.isAgg191
 z46:=Tryz.sizeOf191
 v46:=Tryz.zeroValue191
 t51:=Tryz.underlying43
 a51:=Tryz.isAgg43
 z51:=Tryz.sizeOf43
 v51:=Tryz.zeroValue43
 t146:=Tryz.underlying279
 a146:=Tryz.isAgg279
 z146:=Tryz.sizeOf279
 v146:=Tryz.zeroValue279
 g1:=by kernel_rfl}
open Go.RowKit Go.Lib in
theorem Tryz.strings_Count_one(s:ByteArray)(c:UInt8)(w:World):
 Calls Tryz.prog 20 #[.string s,.string ⟨#[c]⟩] w fun e w'=>e= .returned (.int .i64 (Lib.countByte s.data.toList c))∧w'=w:=Any.strings_Count_one jj s c w
def nR:Go.Shelf.Ren:=⟨fun|100=>100|207=>151|n=>n,fun|9=>9|4=>4|3=>3|n=>n,fun|n=>n⟩
theorem tU:Go.Proofs.Lays.n100 Tryz.prog nR:={
 mixed:=by kernel_rfl
 f100:=Tryz.func100.trans (congrArg some (by kernel_rfl))
 f207:=Tryz.func151.trans (congrArg some (by kernel_rfl))
 t3:=Tryz.underlying3
 a3:=Tryz.isAgg3
 z3:=Tryz.sizeOf3
 v3:=Tryz.zeroValue3
 t4:=Tryz.underlying4
 a4:=Tryz.isAgg4
 z4:=Tryz.sizeOf4
 v4:=Tryz.zeroValue4
 t9:=Tryz.underlying9
 a9:=Tryz.isAgg9
 z9:=Tryz.sizeOf9
 v9:=Tryz.zeroValue9}
open Go.RowKit Go.Lib in
theorem Tryz.strings_HasSuffix(s p:ByteArray)(w:World)(hs:s.size≤9223372036854775807):
 Calls Tryz.prog 100 #[.string s,.string p] w fun e w'=>e= .returned (.bool (Lib.hasSuffix s.data.toList p.data.toList))∧w'=w:=Any.strings_HasSuffix tU s p w hs
def nQ:Go.Shelf.Ren:=⟨fun|101=>227|208=>258|206=>274|n=>n,fun|9=>9|4=>4|3=>3|n=>n,fun|n=>n⟩
theorem tT:Go.Proofs.Lays.n101 Tryz.prog nQ:={
 mixed:=by kernel_rfl
 f101:=Tryz.func227.trans (congrArg some (by kernel_rfl))
 f206:=Tryz.func274.trans (congrArg some (by kernel_rfl))
 f208:=Tryz.func258.trans (congrArg some (by kernel_rfl))
 t3:=Tryz.underlying3
 a3:=Tryz.isAgg3
 z3:=Tryz.sizeOf3
 v3:=Tryz.zeroValue3
 t4:=Tryz.underlying4
 a4:=Tryz.isAgg4
 z4:=Tryz.sizeOf4
 v4:=Tryz.zeroValue4
 t9:=Tryz.underlying9
 a9:=Tryz.isAgg9
 z9:=Tryz.sizeOf9
 v9:=Tryz.zeroValue9}
open Go.RowKit Go.Lib in
theorem Tryz.strings_TrimPrefix(s p:ByteArray)(w:World):
 Calls Tryz.prog 227 #[.string s,.string p] w fun e w'=>e= .returned (.string ⟨(Lib.trimPrefix s.data.toList p.data.toList).toArray⟩)∧w'=w:=Any.strings_TrimPrefix tT s p w
def nI:Go.Shelf.Ren:=⟨fun|221=>152|268=>185|138=>20|143=>68|195=>66|197=>219|218=>67|219=>125|260=>249|217=>170|225=>171|224=>172|267=>173|266=>207|314=>208|n=>n,fun|9=>9|3=>3|31=>95|4=>4|0=>0|105=>286|21=>21|5=>5|46=>191|119=>322|139=>325|138=>324|146=>279|51=>43|n=>n,fun|1=>0|3=>6|4=>7|n=>n⟩
theorem mE:Go.Proofs.Lays.n221 Tryz.prog nI:={
 mixed:=by kernel_rfl
 f138:=Tryz.func20.trans (congrArg some (by kernel_rfl))
 f143:=Tryz.func68.trans (congrArg some (by kernel_rfl))
 f195:=Tryz.func66.trans (congrArg some (by kernel_rfl))
 f197:=Tryz.func219.trans (congrArg some (by kernel_rfl))
 f217:=Tryz.func170.trans (congrArg some (by kernel_rfl))
 f218:=Tryz.func67.trans (congrArg some (by kernel_rfl))
 f219:=Tryz.func125.trans (congrArg some (by kernel_rfl))
 f221:=Tryz.func152.trans (congrArg some (by kernel_rfl))
 f224:=Tryz.func172.trans (congrArg some (by kernel_rfl))
 f225:=Tryz.func171.trans (congrArg some (by kernel_rfl))
 f260:=Tryz.func249.trans (congrArg some (by kernel_rfl))
 f266:=Tryz.func207.trans (congrArg some (by kernel_rfl))
 f267:=Tryz.func173.trans (congrArg some (by kernel_rfl))
 f268:=Tryz.func185.trans (congrArg some (by kernel_rfl))
 f314:=Tryz.func208.trans (congrArg some (by kernel_rfl))
 t0:=Tryz.underlying0
 a0:=Tryz.isAgg0
 z0:=Tryz.sizeOf0
 v0:=Tryz.zeroValue0
 t3:=Tryz.underlying3
 a3:=Tryz.isAgg3
 z3:=Tryz.sizeOf3
 v3:=Tryz.zeroValue3
 t4:=Tryz.underlying4
 a4:=Tryz.isAgg4
 z4:=Tryz.sizeOf4
 v4:=Tryz.zeroValue4
 t5:=Tryz.underlying5
 a5:=Tryz.isAgg5
 z5:=Tryz.sizeOf5
 v5:=Tryz.zeroValue5
 t9:=Tryz.underlying9
 a9:=Tryz.isAgg9
 z9:=Tryz.sizeOf9
 v9:=Tryz.zeroValue9
 t21:=Tryz.underlying21
 a21:=Tryz.isAgg21
 z21:=Tryz.sizeOf21
 v21:=Tryz.zeroValue21
 t31:=Tryz.underlying95
 a31:=Tryz.isAgg95
 z31:=Tryz.sizeOf95
 v31:=Tryz.zeroValue95
 t46:=Tryz.underlying191
 a46:=Tryz.isAgg191
 z46:=Tryz.sizeOf191
 v46:=Tryz.zeroValue191
 t51:=Tryz.underlying43
 a51:=Tryz.isAgg43
 z51:=Tryz.sizeOf43
 v51:=Tryz.zeroValue43
 t105:=Tryz.underlying286
 a105:=Tryz.isAgg286
 z105:=Tryz.sizeOf286
 v105:=Tryz.zeroValue286
 t119:=Tryz.underlying322
 a119:=Tryz.isAgg322
 z119:=Tryz.sizeOf322
 t138:=Tryz.underlying324
 a138:=Tryz.isAgg324
 z138:=Tryz.sizeOf324
 v138:=Tryz.zeroValue324
 t139:=Tryz.underlying325
 a139:=Tryz.isAgg325
 z139:=Tryz.sizeOf325
 v139:=Tryz.zeroValue325
 t146:=Tryz.underlying279
 a146:=Tryz.isAgg279
 z146:=Tryz.sizeOf279
 v146:=Tryz.zeroValue279
 g1:=by kernel_rfl
 g3:=by kernel_rfl
 g4:=by kernel_rfl}
def iD:Go.Shelf.Ren:=⟨fun|105=>256|212=>272|99=>273|165=>128|166=>18|170=>139|169=>31|263=>280|264=>281|206=>274|240=>64|241=>174|276=>123|277=>209|n=>n,fun|9=>9|3=>3|4=>4|20=>20|0=>0|46=>191|109=>327|5=>5|72=>60|76=>63|51=>43|146=>279|53=>55|148=>334|70=>58|37=>52|75=>62|127=>149|164=>187|80=>89|n=>n,fun|n=>n⟩
theorem tS:Go.Proofs.Lays.n105 Tryz.prog iD:={
 mixed:=by kernel_rfl
 f99:=Tryz.func273.trans (congrArg some (by kernel_rfl))
 f105:=Tryz.func256.trans (congrArg some (by kernel_rfl))
 f165:=Tryz.func128.trans (congrArg some (by kernel_rfl))
 f166:=Tryz.func18.trans (congrArg some (by kernel_rfl))
 f169:=Tryz.func31.trans (congrArg some (by kernel_rfl))
 f170:=Tryz.func139.trans (congrArg some (by kernel_rfl))
 f206:=Tryz.func274.trans (congrArg some (by kernel_rfl))
 f212:=Tryz.func272.trans (congrArg some (by kernel_rfl))
 f240:=Tryz.func64.trans (congrArg some (by kernel_rfl))
 f241:=Tryz.func174.trans (congrArg some (by kernel_rfl))
 f263:=Tryz.func280.trans (congrArg some (by kernel_rfl))
 f264:=Tryz.func281.trans (congrArg some (by kernel_rfl))
 f276:=Tryz.func123.trans (congrArg some (by kernel_rfl))
 f277:=Tryz.func209.trans (congrArg some (by kernel_rfl))
 t0:=Tryz.underlying0
 a0:=Tryz.isAgg0
 z0:=Tryz.sizeOf0
 v0:=Tryz.zeroValue0
 t3:=Tryz.underlying3
 a3:=Tryz.isAgg3
 z3:=Tryz.sizeOf3
 v3:=Tryz.zeroValue3
 t4:=Tryz.underlying4
 a4:=Tryz.isAgg4
 z4:=Tryz.sizeOf4
 v4:=Tryz.zeroValue4
 t5:=Tryz.underlying5
 a5:=Tryz.isAgg5
 z5:=Tryz.sizeOf5
 v5:=Tryz.zeroValue5
 t9:=Tryz.underlying9
 a9:=Tryz.isAgg9
 z9:=Tryz.sizeOf9
 v9:=Tryz.zeroValue9
 t20:=Tryz.underlying20
 a20:=Tryz.isAgg20
 z20:=Tryz.sizeOf20
 v20:=Tryz.zeroValue20
 t37:=Tryz.underlying52
 a37:=Tryz.isAgg52
 z37:=Tryz.sizeOf52
 v37:=Tryz.zeroValue52
 t46:=Tryz.underlying191
 a46:=Tryz.isAgg191
 z46:=Tryz.sizeOf191
 v46:=Tryz.zeroValue191
 t51:=Tryz.underlying43
 a51:=Tryz.isAgg43
 z51:=Tryz.sizeOf43
 v51:=Tryz.zeroValue43
 t53:=Tryz.underlying55
 a53:=Tryz.isAgg55
 z53:=Tryz.sizeOf55
 v53:=Tryz.zeroValue55
 t70:=Tryz.underlying58
 a70:=Tryz.isAgg58
 z70:=Tryz.sizeOf58
 v70:=Tryz.zeroValue58
 t72:=Tryz.underlying60
 a72:=Tryz.isAgg60
 z72:=Tryz.sizeOf60
 v72:=Tryz.zeroValue60
 t75:=Tryz.underlying62
 a75:=Tryz.isAgg62
 z75:=Tryz.sizeOf62
 v75:=Tryz.zeroValue62
 t76:=Tryz.underlying63
 a76:=Tryz.isAgg63
 z76:=Tryz.sizeOf63
 v76:=Tryz.zeroValue63
 t109:=Tryz.underlying327
 a109:=Tryz.isAgg327
 z109:=Tryz.sizeOf327
 v109:=Tryz.zeroValue327
 t127:=Tryz.underlying149
 a127:=Tryz.isAgg149
 z127:=Tryz.sizeOf149
 v127:=Tryz.zeroValue149
 t146:=Tryz.underlying279
 a146:=Tryz.isAgg279
 z146:=Tryz.sizeOf279
 v146:=Tryz.zeroValue279
 t148:=Tryz.underlying334
 a148:=Tryz.isAgg334
 z148:=Tryz.sizeOf334
 v148:=Tryz.zeroValue334
 t164:=Tryz.underlying187
 a164:=Tryz.isAgg187
 z164:=Tryz.sizeOf187
 v164:=Tryz.zeroValue187}
theorem jk:Builder.Extra Tryz.prog iD:={
 sizeBuilder:=by kernel_rfl
 liesBuilder:=by kernel_rfl
 t5:=Tryz.underlying5
 a5:=Tryz.isAgg5
 z5:=Tryz.sizeOf5
 v5:=Tryz.zeroValue5
 infoByte:=by kernel_rfl
 cellsByte:=by kernel_rfl
 sizeByte:=by kernel_rfl
 neB5:=by decide}
open Go.RowKit Go.Lib in
theorem Tryz.strings_Repeat(s:ByteArray)(c:Nat)(w:World)(hc:c≤9223372036854775807)(hlen:s.size*c≤140737488355328):
 Calls Tryz.prog 256 #[.string s,.int .i64 c] w fun e w'=>e= .returned (.string ⟨(Lib.repeatL s.data.toList c).toArray⟩)∧Below w.heap.size w w':=Any.strings_Repeat tS jk s c w hc hlen
end Go.Proofs.YtgkhfpfjokagfaaGreatDoor
namespace Go.Proofs.YtgkhfpfjokagfaaGreatDoor
theorem oC(s:List UInt8)(c:UInt8):PC Tryz.prog 267 [.t s,.y c.toNat] (.i (Lib.indexByte s c)):=
 cL (Entr.of Tryz.func267 rfl (by kernel_rfl)) (by simp[an,LV.lt]) fun cx w vs hl ham hv=>by
  obtain⟨v1,v2,rfl,h2,h3⟩:∃v1 v2,vs=[v1,v2]∧V cx w (.t s) v1∧V cx w (.y c.toNat) v2:=by
   simp only[Vs]at hv;obtain⟨v1,r1,rfl,h1,v2,r2,rfl,h2,rfl⟩:=hv;exact⟨_,_,rfl,h1,h2⟩
  rw[h2.val,h3.val];refine(Tryz.strings_IndexByte ⟨s.toArray⟩ (c.toNat:Int) w).mono ?_;rintro e w' ⟨rfl,rfl⟩;have e1:((c.toNat:Int).toNat.toUInt8)=c:=by rw[Int.toNat_natCast];exact UInt8.ofNat_toNat
  rw[e1];exact⟨rfl,rfl,rfl,rfl,Nat.le_refl _,fun _ _=>rfl⟩
theorem Bq(c:UInt8):Lib.indexByte iI c=if cS c<16 then((cS c:Nat):Int)else-1:=
 kX (p:=fun c=>Lib.indexByte iI c=if cS c<16 then((cS c:Nat):Int)else-1) (by decide+kernel) c
theorem H3{h l:Nat}(hh:h<16)(hl:l<16):IntKind.i64.wrap ((BitVec.ofInt IntKind.i64.bits ((16*h:Nat):Int)|||BitVec.ofInt IntKind.i64.bits ((l:Nat):Int)).toNat)=((16*h+l:Nat):Int):=by
 have key:((List.range 16).all fun h=>(List.range 16).all fun l=>decide (IntKind.i64.wrap ((BitVec.ofInt IntKind.i64.bits ((16*h:Nat):Int)|||BitVec.ofInt IntKind.i64.bits ((l:Nat):Int)).toNat)=((16*h+l:Nat):Int)))=true:=by decide+kernel
 exact of_decide_eq_true (List.all_eq_true.1 (List.all_eq_true.1 key h (List.mem_range.2 hh)) l (List.mem_range.2 hl))
theorem GM{h:Nat}(hh:h<16):IntKind.i64.wrap ((h:Int)*2^(min (Int.toNat 4) IntKind.i64.bits))=((16*h:Nat):Int):=by
 rw[show min (Int.toNat 4) IntKind.i64.bits=4 from rfl,IntKind.wrap_i64];omega
theorem EM{h l:Nat}(hh:h<16)(hl:l<16):IntKind.u8.wrap ((16*h+l:Nat):Int)=((UInt8.ofNat (16*h+l)).toNat:Int):=by
 have key:((List.range 16).all fun h=>(List.range 16).all fun l=>decide (IntKind.u8.wrap ((16*h+l:Nat):Int)=((UInt8.ofNat (16*h+l)).toNat:Int)))=true:=by decide+kernel
 exact of_decide_eq_true (List.all_eq_true.1 (List.all_eq_true.1 key h (List.mem_range.2 hh)) l (List.mem_range.2 hl))
theorem BQ(r:List UInt8):(bR r).2≤r.length:=by
 by_cases h:(bR r).2=0;omega;obtain⟨rest,h1,_,h3⟩:=oj h;have:=congrArg List.length h1;rw[List.length_append,h3]at this;omega
theorem w8(s:List UInt8):PC Tryz.prog 250 [.t s] (.tup [.y (bR s).1.toNat,.i (bR s).2]):=by
 refine⟨LC.of_go Tryz.func250 (c:=_) rfl (by kernel_rfl) (by rw[Tryz.ntmps250];simp) rfl rfl (by simp[LO.lt,an,LV.lt,aq]) (by simp) ?_⟩;intro B hA hmd;refine .seq (.region rfl (aa (h:=aa (h:=.n0 (.seq (.seq (.region rfl (ae (h:=ah (bH _ _ _ _ _) (h:=.n0 ?_))))))))));refine ao (ht:=fun hc=>?_) (hf:=fun hc=>?_);subst hc;refine .seq (.region rfl (aa (h:=aa (h:=.n0 ?_))));exact LGo.ret (aI Tryz.results250 hA hmd);obtain⟨a,r,rfl⟩:∃a r,s=a::r:=by cases s with|nil=>exact absurd rfl hc|cons a r=>exact⟨a,r,rfl⟩
 refine .skip (.seq (.seq (.region rfl (vN HI (hm:=Hy) (h:=ae (h:=.n0 (.block (.loop ?_))))))));refine ay (σ:=Nat) (fun x=>x≤5∧(1≤x→a.toNat≠34)∧(2≤x→a.toNat≠92)∧(3≤x→a.toNat≠110)∧(4≤x→a.toNat≠114)∧(5≤x→a.toNat≠116)) (fun x=>[(12,(true,.i (x:Nat)))]) (fun x=>[]) (fun x=>5-x) (0) [(0,_),(11,_)] ⟨by omega,by omega,by omega,by omega,by omega,by omega⟩ (by repeat (first|exact trivial|refine⟨rfl,?_⟩)) (by repeat (first|exact trivial|refine⟨rfl,?_⟩)) (by repeat (first|exact trivial|refine⟨rfl,?_⟩)) ?_;rintro k ⟨hk,q1,q2,q3,q4,q5⟩ ih;refine .seq (.region rfl (ah (au _ _ _ _ _ _) (h:=.n0 (.seq ?_))));refine ao (ht:=fun hc2=>?_) (hf:=fun hc2=>?_);refine .skip (.seq (.block (.seq (.region rfl ?_))));rcases(show k=0∨k=1∨k=2∨k=3∨k=4 by omega)with rfl|rfl|rfl|rfl|rfl
 refine dI kN (hj:=fun _=>by omega) (h:=?_);have he:((((fj.map (Value.int .u8)).drop (Int.toNat ((0:Nat):Int)*2)).take 2).map LV.v)=[.y 34,.y 34]:=rfl;rw[he];clear he;refine aD ry (h:=ar rz (h:=.n0 (.seq (.region rfl (af gZ (h:=ag O5 (h:=ae (h:=bu Tryz.runUnderlying9 (hj:=fun hg=>⟨by omega,rfl⟩) (h:=ah (av _ _ _ _ _ _) (h:=Reg.nil ⟨fun _=>⟨aQ,by rfl,by rfl⟩,?_⟩))))))))));refine ao (ht:=fun hc3=>?_) (hf:=fun hc3=>?_);have he:a.toNat=34:=by omega
 rw[show bR (a::r)=(34,1)from by simp[bR,he]];refine .seq (.region rfl (af hI (h:=ag O5 (h:=aa (h:=aa (h:=.n0 ?_))))));exact LGo.ret (aI Tryz.results250 hA hmd);refine .skip (.inBlock (.region rfl (aG (h:=ae (h:=.n0 (.inLoop ?_))))));exact LGo.next _ (fun o h=>by have:=(hA o).1 h;omega) (by omega) (ih 1 ⟨by omega,by omega,by omega,by omega,by omega,by omega⟩ (by omega)) (by repeat (first|exact trivial|refine⟨rfl,?_⟩)) (by repeat (first|exact trivial|refine⟨rfl,?_⟩));refine dI kN (hj:=fun _=>by omega) (h:=?_);have he:((((fj.map (Value.int .u8)).drop (Int.toNat ((1:Nat):Int)*2)).take 2).map LV.v)=[.y 92,.y 92]:=rfl;rw[he];clear he;refine aD ry (h:=ar rz (h:=.n0 (.seq (.region rfl (af gZ (h:=ag O5 (h:=ae (h:=bu Tryz.runUnderlying9 (hj:=fun hg=>⟨by omega,rfl⟩) (h:=ah (av _ _ _ _ _ _) (h:=Reg.nil ⟨fun _=>⟨aQ,by rfl,by rfl⟩,?_⟩))))))))));refine ao (ht:=fun hc4=>?_) (hf:=fun hc4=>?_);have he:a.toNat=92:=by omega
 rw[show bR (a::r)=(92,1)from by simp[bR,he]];refine .seq (.region rfl (af hI (h:=ag O5 (h:=aa (h:=aa (h:=.n0 ?_))))));exact LGo.ret (aI Tryz.results250 hA hmd);refine .skip (.inBlock (.region rfl (aG (h:=ae (h:=.n0 (.inLoop ?_))))));exact LGo.next _ (fun o h=>by have:=(hA o).1 h;omega) (by omega) (ih 2 ⟨by omega,by omega,by omega,by omega,by omega,by omega⟩ (by omega)) (by repeat (first|exact trivial|refine⟨rfl,?_⟩)) (by repeat (first|exact trivial|refine⟨rfl,?_⟩));refine dI kN (hj:=fun _=>by omega) (h:=?_);have he:((((fj.map (Value.int .u8)).drop (Int.toNat ((2:Nat):Int)*2)).take 2).map LV.v)=[.y 10,.y 110]:=rfl;rw[he];clear he;refine aD ry (h:=ar rz (h:=.n0 (.seq (.region rfl (af gZ (h:=ag O5 (h:=ae (h:=bu Tryz.runUnderlying9 (hj:=fun hg=>⟨by omega,rfl⟩) (h:=ah (av _ _ _ _ _ _) (h:=Reg.nil ⟨fun _=>⟨aQ,by rfl,by rfl⟩,?_⟩))))))))));refine ao (ht:=fun hc5=>?_) (hf:=fun hc5=>?_);have he:a.toNat=110:=by omega
 rw[show bR (a::r)=(10,1)from by simp[bR,he]];refine .seq (.region rfl (af hI (h:=ag O5 (h:=aa (h:=aa (h:=.n0 ?_))))));exact LGo.ret (aI Tryz.results250 hA hmd);refine .skip (.inBlock (.region rfl (aG (h:=ae (h:=.n0 (.inLoop ?_))))));exact LGo.next _ (fun o h=>by have:=(hA o).1 h;omega) (by omega) (ih 3 ⟨by omega,by omega,by omega,by omega,by omega,by omega⟩ (by omega)) (by repeat (first|exact trivial|refine⟨rfl,?_⟩)) (by repeat (first|exact trivial|refine⟨rfl,?_⟩));refine dI kN (hj:=fun _=>by omega) (h:=?_);have he:((((fj.map (Value.int .u8)).drop (Int.toNat ((3:Nat):Int)*2)).take 2).map LV.v)=[.y 13,.y 114]:=rfl;rw[he];clear he;refine aD ry (h:=ar rz (h:=.n0 (.seq (.region rfl (af gZ (h:=ag O5 (h:=ae (h:=bu Tryz.runUnderlying9 (hj:=fun hg=>⟨by omega,rfl⟩) (h:=ah (av _ _ _ _ _ _) (h:=Reg.nil ⟨fun _=>⟨aQ,by rfl,by rfl⟩,?_⟩))))))))));refine ao (ht:=fun hc6=>?_) (hf:=fun hc6=>?_);have he:a.toNat=114:=by omega
 rw[show bR (a::r)=(13,1)from by simp[bR,he]];refine .seq (.region rfl (af hI (h:=ag O5 (h:=aa (h:=aa (h:=.n0 ?_))))));exact LGo.ret (aI Tryz.results250 hA hmd);refine .skip (.inBlock (.region rfl (aG (h:=ae (h:=.n0 (.inLoop ?_))))));exact LGo.next _ (fun o h=>by have:=(hA o).1 h;omega) (by omega) (ih 4 ⟨by omega,by omega,by omega,by omega,by omega,by omega⟩ (by omega)) (by repeat (first|exact trivial|refine⟨rfl,?_⟩)) (by repeat (first|exact trivial|refine⟨rfl,?_⟩));refine dI kN (hj:=fun _=>by omega) (h:=?_);have he:((((fj.map (Value.int .u8)).drop (Int.toNat ((4:Nat):Int)*2)).take 2).map LV.v)=[.y 9,.y 116]:=rfl;rw[he];clear he;refine aD ry (h:=ar rz (h:=.n0 (.seq (.region rfl (af gZ (h:=ag O5 (h:=ae (h:=bu Tryz.runUnderlying9 (hj:=fun hg=>⟨by omega,rfl⟩) (h:=ah (av _ _ _ _ _ _) (h:=Reg.nil ⟨fun _=>⟨aQ,by rfl,by rfl⟩,?_⟩))))))))));refine ao (ht:=fun hc7=>?_) (hf:=fun hc7=>?_);have he:a.toNat=116:=by omega
 rw[show bR (a::r)=(9,1)from by simp[bR,he]];refine .seq (.region rfl (af hI (h:=ag O5 (h:=aa (h:=aa (h:=.n0 ?_))))));exact LGo.ret (aI Tryz.results250 hA hmd);refine .skip (.inBlock (.region rfl (aG (h:=ae (h:=.n0 (.inLoop ?_))))));exact LGo.next _ (fun o h=>by have:=(hA o).1 h;omega) (by omega) (ih 5 ⟨by omega,by omega,by omega,by omega,by omega,by omega⟩ (by omega)) (by repeat (first|exact trivial|refine⟨rfl,?_⟩)) (by repeat (first|exact trivial|refine⟨rfl,?_⟩));have n1:=q1 (by omega);have n2:=q2 (by omega);have n3:=q3 (by omega);have n4:=q4 (by omega);have n5:=q5 (by omega);refine .exit rfl (.seq (.seq (.region rfl (ae (h:=bu Tryz.runUnderlying9 (hj:=fun hg=>⟨by omega,rfl⟩) (h:=ah (aC _ _ _ _ _ _) (h:=ae (h:=ae (h:=bC Tryz.runUnderlying9 (h:=ah (au _ _ _ _ _ _) (h:=aX (h:=.n0 ?_))))))))))));refine aj (ht:=fun hc8=>?_) (hf:=fun hc8=>?_);have he:bR (a::r)=(0,0):=by
  unfold bR;simp only[];rw[if_neg n1,if_neg n2,if_neg n3,if_neg n4,if_neg n5];by_cases h6:a.toNat≠120;rw[if_pos h6];rw[if_neg h6]
  match r,hc8 with
  |[],_=>rfl
  |[_],_=>rfl
  |_::_::_,hc8=>simp at h6;simp[h6]at hc8;omega
 rw[he];refine .seq (.region rfl (aa (h:=aa (h:=.n0 ?_))));exact LGo.ret (aI Tryz.results250 hA hmd);obtain⟨h6,h,l,r,rfl⟩:a.toNat=120∧∃h l r',r=h::l::r':=by
  match r,hc8 with
  |[],hc8=>simp at hc8
  |[_],hc8=>simp at hc8
  |h::l::r,hc8=>simp at hc8;exact⟨by omega,h,l,r,rfl⟩
 refine .skip (.seq (.region rfl (ae (h:=bu Tryz.runUnderlying9 (hj:=fun hg=>⟨by omega,rfl⟩) (h:=ai (es:=[_,_]) (fun _=>oC iI h) (h:=?_))))));rw[Bq];refine ae (h:=bu Tryz.runUnderlying9 (hj:=fun hg=>⟨by omega,rfl⟩) (h:=ai (es:=[_,_]) (fun _=>oC iI l) (h:=?_)));rw[Bq];refine aa (h:=aa (h:=Reg.nil ⟨fun _=>⟨aQ,by rfl,by rfl⟩,.seq (.seq (.region rfl (ae (h:=ah (au _ _ _ _ _ _) (h:=ae (h:=ae (h:=ah (au _ _ _ _ _ _) (h:=aX (h:=.n0 ?_)))))))))⟩));refine aj (ht:=fun hc9=>?_) (hf:=fun hc9=>?_);have hw:16≤cS h∨16≤cS l:=by
  by_cases g1:cS h<16<;>by_cases g2:cS l<16<;>simp[g1,g2]at hc9<;>omega
 rw[show bR (a::h::l::r)=(0,0)from by rw[bR,if_neg n1,if_neg n2,if_neg n3,if_neg n4,if_neg n5,if_neg (by simp[h6])];exact if_pos hw];refine .seq (.region rfl (aa (h:=aa (h:=.n0 ?_))));exact LGo.ret (aI Tryz.results250 hA hmd);obtain⟨g1,g2⟩:cS h<16∧cS l<16:=by
  by_cases g1:cS h<16<;>by_cases g2:cS l<16<;>simp[g1,g2]at hc9⊢
 rw[if_pos g1,if_pos g2];have he:bR (a::h::l::r)=if(bU (UInt8.ofNat (16*cS h+cS l))||decide (dy (UInt8.ofNat (16*cS h+cS l))≠0))=true then(0,0)else(UInt8.ofNat (16*cS h+cS l),3):=by
  rw[bR,if_neg n1,if_neg n2,if_neg n3,if_neg n4,if_neg n5,if_neg (by simp[h6])];exact if_neg (by omega)
 refine .skip (.seq (.region rfl (ae (h:=ah (uN _ _ _ _ _ _ _ (by omega) (GM g1)) (h:=ae (h:=ah (Eg _ _ _ _ _ _ (H3 g1 g2)) (h:=dN Tryz.runUnderlying3 Tryz.runUnderlying5 (h:=?_))))))));rw[EM g1 g2];generalize UInt8.ofNat (16*cS h+cS l)=c at he;refine aa (h:=.n0 (.seq (.seq (.region rfl (ae (h:=ai (es:=[_]) (fun _=>kr _) (h:=ae (h:=ae (h:=ai (es:=[_]) (fun _=>qE _) (h:=ah (aC _ _ _ _ _ _) (h:=aX (h:=.n0 ?_))))))))))));refine aj (ht:=fun hc10=>?_) (hf:=fun hc10=>?_);rw[he,if_pos (by by_cases g3:dy c=0<;>simp[g3]at hc10⊢;exact hc10)];refine .seq (.region rfl (aa (h:=aa (h:=.n0 ?_))));exact LGo.ret (aI Tryz.results250 hA hmd);have g4:(((dy c).toNat:Nat):Int)=0↔dy c=0:=⟨fun h=>UInt8.toNat_inj.1 (by rw[show(0:UInt8).toNat=0 from rfl];omega),fun h=>by rw[h];rfl⟩;have g5:bU c=false∧dy c=0:=by rw[Bool.or_eq_false_iff,Bool.not_eq_false',decide_eq_true_eq,g4]at hc10;exact hc10
 rw[he,if_neg (by simp[g5.1,g5.2])];refine .skip (.seq (.region rfl (ae (h:=aa (h:=aa (h:=.n0 ?_))))));exact LGo.ret (aI Tryz.results250 hA hmd)
theorem rP(s:List UInt8)(hs:s.length≤100000):PC Tryz.prog 221 [.t s] (.tup [.t (rk s).1,.i (rk s).2]):=by
 refine⟨LC.of_go Tryz.func221 (c:=_) rfl (by kernel_rfl) (by rw[Tryz.ntmps221];simp) rfl rfl (by simp[LO.lt,an,LV.lt,aq]) (by simp) ?_⟩;intro B hA hmd;refine .seq (.region rfl (aa (h:=aa (h:=.n0 (.seq (.seq (.region rfl (ae (h:=ah (bH _ _ _ _ _) (h:=ae (h:=ae (h:=bu Tryz.runUnderlying9 (c:=s.headD 0) (hj:=fun hg=>⟨by omega,by cases s with|nil=>simp at hg|cons a r=>rfl⟩) (h:=ah (aC _ _ _ _ _ _) (h:=?_))))))))))))));refine aX (h:=.n0 ?_);refine aj (ht:=fun hc=>?_) (hf:=fun hc=>?_);rw[show rk s=([],0)from by
  cases s with
  |nil=>rfl
  |cons a r=>simp at hc;unfold rk;exact if_neg (by omega)]
 refine .seq (.region rfl (aa (h:=aa (h:=.n0 ?_))));exact LGo.ret (aI Tryz.results221 hA hmd);obtain⟨hpos,hu⟩:1≤s.length∧fc s.length (s.drop 1) [] 1=rk s:=by
  cases s with
  |nil=>simp at hc
  |cons a r=>simp at hc;exact⟨by simp,by unfold rk;simp[show a.toNat=34 by omega]⟩
 refine .skip (.seq (.region rfl (aa (h:=.n0 (.seq (.seq (.region rfl (aa (h:=.n0 (.block (.loop (bZ 4 5 1 (h:=?_)))))))))))));refine ay (σ:=Nat×List UInt8×Nat) (fun x=>1≤x.1∧x.1≤s.length∧s.length-x.1<x.2.2∧x.2.1.length≤x.1∧fc x.2.2 (s.drop x.1) x.2.1 x.1=rk s) (fun x=>[(5,(true,.i (x.1:Nat))),(4,(true,.ref 0))]) (fun x=>[(0,.rs 5 1 (aL x.2.1))]) (fun x=>s.length-x.1) (1,[],s.length) [(0,_)] ⟨Nat.le_refl _,hpos,by dsimp only;omega,Nat.zero_le _,hu⟩ (by repeat (first|exact trivial|refine⟨rfl,?_⟩)) (by repeat (first|exact trivial|refine⟨rfl,?_⟩)) (by repeat (first|exact trivial|refine⟨rfl,?_⟩)) ?_;rintro⟨k,acc,f⟩ ⟨hk1,hk,hf,hal,hq⟩ ih;dsimp only at*;refine .seq (.seq (.region rfl (ae (h:=ae (h:=bC Tryz.runUnderlying9 (h:=ah (au _ _ _ _ _ _) (h:=.n0 ?_)))))));refine ao (ht:=fun hc2=>?_) (hf:=fun hc2=>?_);have hlt:k<s.length:=by omega
 have hx:s[((k:Nat):Int).toNat]?=some s[k]:=by rw[Int.toNat_natCast];exact List.getElem?_eq_getElem hlt
 have hd:s.drop k=s[k]::s.drop (k+1):=List.drop_eq_getElem_cons hlt;rw[hd]at hq;generalize s[k]=c at hx hq;clear hd;obtain⟨f,rfl⟩:∃g,f=g+1:=⟨f-1,by omega⟩;rw[fc]at hq;refine .skip (.seq (.block (.seq (.region rfl (ae (h:=ae (h:=bu Tryz.runUnderlying9 (hj:=fun hg=>⟨by omega,hx⟩) (h:=aa (h:=.n0 (.block (.seq (.region rfl (ae (h:=?_))))))))))))));refine ah (av _ _ _ _ _ _) (h:=aa (h:=.n0 ?_));refine ao (ht:=fun hc3=>?_) (hf:=fun hc3=>?_);rw[if_pos (by omega)]at hq;rw[←hq];refine LGo.frz 0 (h:=.seq (.region rfl (ae (h:=cn Tryz.underlying52 Tryz.underlying5 Tryz.underlying9 (h:=ae (h:=aG (h:=aa (h:=aa (h:=.n0 ?_)))))))));exact LGo.ret (aI Tryz.results221 hA hmd);rw[if_neg (by omega)]at hq;refine .seq (.region rfl (ae (h:=ah (av _ _ _ _ _ _) (h:=aa (h:=.n0 ?_)))));refine ao (ht:=fun hc4=>?_) (hf:=fun hc4=>?_);rw[if_pos (by omega)]at hq;have hul:=BQ (s.drop (k+1));rw[List.length_drop]at hul;refine .seq (.region rfl (ae (h:=ae (h:=aG (h:=dd Tryz.runUnderlying9 (ha:=fun _=>by omega) (h:=?_))))));rw[show Int.toNat ((k:Int)+1)=k+1 from by omega];refine ai (es:=[_]) (fun _=>w8 (s.drop (k+1))) (h:=ae (h:=ak (h:=ak (h:=aa (h:=aa (h:=.n0 (.seq (.seq (.region rfl (ae (h:=ah (av _ _ _ _ _ _) (h:=.n0 ?_))))))))))));refine ao (ht:=fun hc5=>?_) (hf:=fun hc5=>?_);rw[if_pos (by omega)]at hq;rw[←hq];refine .seq (.region rfl (aa (h:=aa (h:=.n0 ?_))));exact LGo.ret (aI Tryz.results221 hA hmd);rw[if_neg (by omega)]at hq;refine .skip (.seq (.region rfl (ae (h:=ae (h:=az dm (xs:=[_]) (es:=[_]) (hcs:=CellsOfs.cons (CellsOf.one rfl) CellsOfs.nil) (h:=aO dm (hs:=SrcOk.sl Tryz.underlying52 (by simp)) (hlen:=by rw[ba];simp only[List.length_cons,List.length_nil];omega) (h:=aa (h:=.n0 (.region rfl (ae (h:=ae (h:=aG (h:=aa (h:=?_))))))))))))));refine .n0 (.inBlock (.inBlock (.region rfl (ae (h:=aG (h:=aa (h:=.n0 (.inLoop ?_))))))));exact bM [1] (b:=0) (fun o h=>by have:=(hA o).1 h;omega) (ih (k+(bR (s.drop (k+1))).2+1,acc++[(bR (s.drop (k+1))).1],f) ⟨by dsimp only;omega,by dsimp only;omega,by dsimp only;omega,by dsimp only;rw[List.length_append,List.length_cons,List.length_nil];omega,by dsimp only;rw[←hq,List.drop_drop];congr 1<;>first|rfl|omega|(congr 1;omega)⟩ (by dsimp only;omega)) (by repeat (first|exact trivial|refine⟨rfl,?_⟩)) ⟨by rw[dc];rfl,trivial⟩;rw[if_neg (by omega)]at hq;refine .seq (.region rfl (ae (h:=ai (es:=[_]) (fun _=>kr _) (h:=aa (h:=.n0 ?_)))));refine aj (ht:=fun hc6=>?_) (hf:=fun hc6=>?_);rw[if_pos hc6]at hq;refine .region rfl (ae (h:=ae (h:=az dm (xs:=[_]) (es:=[_]) (hcs:=CellsOfs.cons (CellsOf.one rfl) CellsOfs.nil) (h:=aO dm (hs:=SrcOk.sl Tryz.underlying52 (by simp)) (hlen:=by rw[ba];simp only[List.length_cons,List.length_nil];omega) (h:=aa (h:=.n0 (.inBlock (.inBlock (.region rfl (ae (h:=aG (h:=aa (h:=.n0 ?_)))))))))))));refine .inLoop ?_;exact bM [1] (b:=0) (fun o h=>by have:=(hA o).1 h;omega) (ih (k+1,acc++[c],f) ⟨by dsimp only;omega,by dsimp only;omega,by dsimp only;omega,by dsimp only;rw[List.length_append,List.length_cons,List.length_nil];omega,hq⟩ (by dsimp only;omega)) (by repeat (first|exact trivial|refine⟨rfl,?_⟩)) ⟨by rw[dc];rfl,trivial⟩;rw[if_neg (by rw[hc6];simp)]at hq;rw[←hq];refine .seq (.region rfl (aa (h:=aa (h:=.n0 ?_))));exact LGo.ret (aI Tryz.results221 hA hmd);rw[List.drop_eq_nil_of_le (by omega)]at hq;have he:rk s=([],0):=by rw[←hq];cases f<;>rfl
 rw[he];refine .exit rfl (.seq (.region rfl (aa (h:=aa (h:=.n0 ?_)))));exact LGo.ret (aI Tryz.results221 hA hmd)
def de(s:List UInt8):Bool:=(s.all fun c=>bU c&&!decide (c.toNat=32))&&!decide (s=[])
theorem pY(s:List UInt8)(hs:s.length≤100000):PC Tryz.prog 70 [.t s] (.b (de s)):=by
 refine⟨LC.of_go Tryz.func70 (c:=_) rfl (by kernel_rfl) (by rw[Tryz.ntmps70];simp) rfl rfl (by simp[LO.lt,an,LV.lt,aq]) (by simp) ?_⟩;intro B hA hmd;refine .seq (.region rfl (aa (h:=.n0 (.seq (.seq (.region rfl (ae (h:=bC Tryz.runUnderlying9 (h:=ae (h:=.n0 (.block (.loop ?_))))))))))));refine ay (σ:=Nat) (fun x=>x≤s.length∧de s=((s.drop x).all (fun c=>bU c&&!decide (c.toNat=32))&&!decide (s=[]))) (fun x=>[(6,(true,.i (x:Nat)))]) (fun x=>[]) (fun x=>s.length-x) (0) [(0,_),(5,_)] ⟨Nat.zero_le _,rfl⟩ (by repeat (first|exact trivial|refine⟨rfl,?_⟩)) (by repeat (first|exact trivial|refine⟨rfl,?_⟩)) (by repeat (first|exact trivial|refine⟨rfl,?_⟩)) ?_;rintro k ⟨hk,hq⟩ ih;refine .seq (.region rfl (ah (au _ _ _ _ _ _) (h:=.n0 (.seq ?_))));refine ao (ht:=fun hc=>?_) (hf:=fun hc=>?_);have hlt:k<s.length:=by omega
 have hx:s[((k:Nat):Int).toNat]?=some s[k]:=by rw[Int.toNat_natCast];exact List.getElem?_eq_getElem hlt
 have hd:s.drop k=s[k]::s.drop (k+1):=List.drop_eq_getElem_cons hlt;rw[hd,List.all_cons]at hq;generalize s[k]=c at hx hq;clear hd;refine .skip (.seq (.block (.seq (.region rfl (ae (h:=aa (h:=.n0 (.seq (.region rfl (ae (h:=ae (h:=bu Tryz.runUnderlying9 (hj:=fun hg=>⟨by omega,hx⟩) (h:=ai (es:=[_]) (fun _=>kr _) (h:=?_))))))))))))));refine bd (h:=ae (h:=ae (h:=ae (h:=bu Tryz.runUnderlying9 (hj:=fun hg=>⟨by(simp at hg;omega),hx⟩) (h:=ah (av _ _ _ _ _ _) (h:=aX (h:=.n0 ?_)))))));refine aj (ht:=fun hc2=>?_) (hf:=fun hc2=>?_);rw[show de s=false from by rw[hq];cases hp:bU c<;>simp[hp]at hc2⊢;omega];refine .seq (.region rfl (aa (h:=.n0 ?_)));exact LGo.ret (ax Tryz.results70 hA hmd);have he:(bU c&&!decide (c.toNat=32))=true:=by cases hp:bU c<;>simp[hp]at hc2⊢;omega
 rw[he,Bool.true_and]at hq;refine .skip (.inBlock (.region rfl (aG (h:=ae (h:=.n0 (.inLoop ?_))))));exact LGo.next _ (fun o h=>by have:=(hA o).1 h;omega) (by omega) (ih (k+1) ⟨by omega,hq⟩ (by omega)) (by repeat (first|exact trivial|refine⟨rfl,?_⟩)) (by repeat (first|exact trivial|refine⟨rfl,?_⟩));rw[List.drop_eq_nil_of_le (by omega)]at hq;rw[hq];refine .exit rfl (.seq (.region rfl (ae (h:=ah (cj _ _ _ _ _) (h:=aa (h:=.n0 ?_))))));exact LGo.ret (ax Tryz.results70 hA hmd)
theorem CE(s:List UInt8)(c:UInt8):PC Tryz.prog 125 [.t s,.t [c]] (.i (Lib.indexByte s c)):=
 cL (Entr.of Tryz.func125 rfl (by kernel_rfl)) (by simp[an,LV.lt]) fun cx w vs hl ham hv=>by
  obtain⟨v1,v2,rfl,h2,h3⟩:∃v1 v2,vs=[v1,v2]∧V cx w (.t s) v1∧V cx w (.t [c]) v2:=by
   simp only[Vs]at hv;obtain⟨v1,r1,rfl,h1,v2,r2,rfl,h2,rfl⟩:=hv;exact⟨_,_,rfl,h1,h2⟩
  rw[h2.val,h3.val];refine(Tryz.stringslite_Index_one ⟨s.toArray⟩ c w).mono ?_;rintro e w' ⟨rfl,rfl⟩;exact⟨rfl,rfl,rfl,rfl,Nat.le_refl _,fun _ _=>rfl⟩
theorem dX(c:UInt8):∀s:List UInt8,(Lib.indexByte s c=-1∧c∉s)∨∃a b,s=a++c::b∧c∉a∧Lib.indexByte s c=(a.length:Nat)
 |[]=>.inl ⟨rfl,by simp⟩
 |x::s=>by
  rw[Lib.indexByte];by_cases hx:x=c;subst hx;exact .inr ⟨[],s,rfl,by simp,by simp⟩;rw[if_neg (by simpa using hx)];rcases dX c s with⟨h1,h2⟩|⟨a,b,h1,h2,h3⟩
  rw[h1];exact .inl ⟨by simp,fun h=>(List.mem_cons.1 h).elim (fun e=>hx e.symm) h2⟩;rw[h3,if_neg (show¬(((a.length:Nat):Int)==-1)=true from by rw[beq_iff_eq];omega)];exact .inr ⟨x::a,b,by rw[h1];rfl,fun h=>(List.mem_cons.1 h).elim (fun e=>hx e.symm) h2,by simp⟩
theorem CD{s:List UInt8}{c:UInt8}(h:0≤Lib.indexByte s c):∃k:Nat,Lib.indexByte s c=k∧k<s.length:=by
 rcases dX c s with⟨h1,_⟩|⟨a,b,h1,_,h3⟩
 omega;exact⟨a.length,h3,by rw[h1];simp⟩
def cJ(s:List UInt8)(c:UInt8):List UInt8:=if 0≤Lib.indexByte s c then s.take (Lib.indexByte s c).toNat else s
def pg(s:List UInt8)(c:UInt8):List UInt8:=if 0≤Lib.indexByte s c then s.drop ((Lib.indexByte s c).toNat+1)else[]
def ew(s:List UInt8)(c:UInt8):Bool:=decide (0≤Lib.indexByte s c)
theorem mj(s:List UInt8)(c:UInt8):(cJ s c).length≤s.length:=by unfold cJ;split<;>first|(rw[List.length_take];omega)|omega
theorem G0(s:List UInt8)(c:UInt8)(hs:s.length≤100000):PC Tryz.prog 251 [.t s,.t [c]] (.tup [.t (cJ s c),.t (pg s c),.b (ew s c)]):=by
 refine⟨LC.of_go Tryz.func251 (c:=_) rfl (by kernel_rfl) (by rw[Tryz.ntmps251];simp) rfl rfl (by simp[LO.lt,an,LV.lt,aq]) (by simp) ?_⟩;intro B hA hmd;unfold cJ pg ew;refine .seq (.region rfl (aa (h:=aa (h:=aa (h:=.n0 (.seq (.seq (.region rfl (ae (h:=ae (h:=ai (es:=[_,_]) (fun _=>CE s c) (h:=aa (h:=.n0 ?_)))))))))))));refine .seq (.region rfl (ae (h:=ah (bh _ _ _ _ _ _) (h:=.n0 ?_))));refine ao (ht:=fun hc=>?_) (hf:=fun hc=>?_);obtain⟨k,hk,hkl⟩:=CD hc;rw[hk,Int.toNat_natCast,if_pos (by omega),if_pos (by omega),show decide (0≤(k:Int))=true from by simp];refine .seq (.region rfl (ae (h:=ae (h:=lF Tryz.runUnderlying9 (ha:=fun _=>by omega) (h:=?_)))));rw[Int.toNat_natCast];refine ae (h:=ae (h:=ae (h:=bC Tryz.runUnderlying9 (h:=wW (h:=?_)))));rw[show IntKind.i64.wrap ((k:Int)+(([c].length:Nat):Int))=((k+1:Nat):Int)from by rw[IntKind.wrap_i64];simp;omega];refine dd Tryz.runUnderlying9 (ha:=fun _=>by omega) (h:=?_);rw[Int.toNat_natCast];refine aa (h:=aa (h:=aa (h:=Reg.nil ⟨fun _=>⟨aQ,by rfl,by rfl⟩,?_⟩)));exact LGo.ret (iQ Tryz.results251 hA hmd);rw[if_neg hc,if_neg hc,show decide (0≤Lib.indexByte s c)=false from by simp;omega];refine .skip (.seq (.region rfl (ae (h:=aa (h:=aa (h:=aa (h:=.n0 ?_)))))));exact LGo.ret (iQ Tryz.results251 hA hmd)
theorem AV(s:List UInt8)(c:UInt8)(hs:s.length≤100000):PC Tryz.prog 222 [.t s,.t [c]] (.tup [.t (cJ s c),.t (pg s c),.b (ew s c)]):=by
 refine⟨LC.of_go Tryz.func222 (c:=_) rfl (by kernel_rfl) (by rw[Tryz.ntmps222];simp) rfl rfl (by simp[LO.lt,an,LV.lt,aq]) (by simp) ?_⟩;intro B hA hmd;refine .seq (.region rfl (aa (h:=aa (h:=aa (h:=.n0 (.seq (.region rfl (ae (h:=ae (h:=ai (es:=[_,_]) (fun _=>G0 s c hs) (h:=ak (h:=ak (h:=ak (h:=?_))))))))))))));refine aa (h:=aa (h:=aa (h:=.n0 ?_)));exact LGo.ret (iQ Tryz.results222 hA hmd)
structure Fd where
 s:List UInt8
 q:Bool
def Fd.c(f:Fd):List SV:=[.val (.string ⟨f.s.toArray⟩),.val (.bool f.q)]
theorem Ba(s:List UInt8):(rk s).2≤s.length:=by
 by_cases h:(rk s).2=0;omega;cases s with
 |nil=>simp[rk]at h
 |cons a r=>
  unfold rk at h⊢;by_cases ha:a.toNat=34;simp only[ha,if_true]at h⊢;obtain⟨t,rest,h1,h2⟩:=jV _ _ _ _ h;rw[h2];have:=congrArg List.length h1;simp at this⊢;omega;simp[ha]at h
def eS(rest:List UInt8):Option (Fd×List UInt8):=
 if 0<(rk rest).2 then some (⟨(rk rest).1,true⟩,rest.drop (rk rest).2)else if de (cJ rest 32)=true then some (⟨cJ rest 32,false⟩,rest.drop (cJ rest 32).length)else none
def cE:Nat→List UInt8→List Fd×Bool
 |0,_=>([],false)
 |f+1,rest=>match eS rest with
  |none=>([],false)
  |some (d,[])=>([d],true)
  |some (d,a::r)=>if a.toNat=32 then(d::(cE f r).1,(cE f r).2)else([],false)
def Fd.y(f:Fd):List LV:=[.agg (f.c.map LV.sv),.b true]
abbrev SS(A0 A1:LO)(A2 A3:Nat→LO)(line:List UInt8)(A5 A6:LO)(j:Nat):List (Nat×LO):=[(0,A0),(1,A1),(2,A2 j),(3,A3 j),(4,.box 9 [.t line]),(5,A5),(6,A6)]
theorem mg{f:Nat}{rest r2:List UInt8}{fd:Fd}{l:List Fd}{j:Nat}{ok:Bool}(hnx:eS rest=some (fd,r2))(hq:cE (f+1) rest=(l.drop j,ok))(hc:(!decide (r2=[])&&!decide (((r2.headD 0).toNat:Int)=32))=false):
 j<l.length∧(l.map Fd.y)[j]?=some fd.y∧(r2=[]→j+1=l.length∧ok=true)∧(r2≠[]→1≤r2.length∧cE f (r2.drop 1)=(l.drop (j+1),ok)):=by
 have key:∀tl,l.drop j=fd::tl→j<l.length∧(l.map Fd.y)[j]?=some fd.y∧l.drop (j+1)=tl:=by
  intro tl h;have hlt:j<l.length:=by
   have:=congrArg List.length h;simp at this;omega
  have h2:=List.drop_eq_getElem_cons hlt;rw[h]at h2;simp only[List.cons.injEq]at h2;exact⟨hlt,by rw[List.getElem?_map,List.getElem?_eq_getElem hlt,←h2.1];rfl,h2.2.symm⟩
 rw[cE,hnx]at hq;cases r2 with
 |nil=>
  simp only[Prod.mk.injEq]at hq;obtain⟨k1,k2,k3⟩:=key [] hq.1.symm;refine⟨k1,k2,fun _=>⟨?_,hq.2.symm⟩,fun h=>absurd rfl h⟩;have:=congrArg List.length k3;simp at this;omega
 |cons a r=>
  have ha:a.toNat=32:=by simp at hc;omega
  simp only[ha,if_true,Prod.mk.injEq]at hq;obtain⟨k1,k2,k3⟩:=key _ hq.1.symm;refine⟨k1,k2,fun h=>(by cases h),fun _=>⟨by simp,?_⟩⟩;rw[k3,←hq.2];rfl
theorem o7{f:Nat}{rest r2:List UInt8}{fd:Fd}{l:List Fd}{j:Nat}{ok:Bool}(hnx:eS rest=some (fd,r2))(hq:cE (f+1) rest=(l.drop j,ok))(hc:(!decide (r2=[])&&!decide (((r2.headD 0).toNat:Int)=32))=true):l.drop j=[]∧ok=false:=by
 rw[cE,hnx]at hq;cases r2 with
 |nil=>simp at hc
 |cons a r=>
  have ha:¬a.toNat=32:=by simp at hc;omega
  simp only[ha,if_false,Prod.mk.injEq]at hq;exact⟨hq.1.symm,hq.2.symm⟩
theorem vq{f:Nat}{rest:List UInt8}{l:List Fd}{j:Nat}{ok:Bool}(hnx:eS rest=none)(hq:cE (f+1) rest=(l.drop j,ok)):l.drop j=[]∧ok=false:=by
 rw[cE,hnx]at hq;simp only[Prod.mk.injEq]at hq;exact⟨hq.1.symm,hq.2.symm⟩
theorem wa{line:List UInt8}{l:List Fd}{A0 A1 A5 A6:LO}{A2 A3:Nat→LO}(hlen:line.length≤8192)(hl:cE (line.length+1) line=(l,true))(hlt:∀j m,7≤m→((SS A0 A1 A2 A3 line A5 A6 j).all fun p=>decide (p.1<m)&&p.2.lt m)=true)(h:YG Tryz.prog 6 7 (l.map Fd.y) (SS A0 A1 A2 A3 line A5 A6)):LC Tryz.prog 220 7 [.yld 6,.ptr 4 0] (SS A0 A1 A2 A3 line A5 A6 0) (.tup []) (SS A0 A1 A2 A3 line A5 A6 l.length) 0:=by
 refine LC.of_go Tryz.func220 (c:=_) rfl (by kernel_rfl) (by rw[Tryz.ntmps220];simp) (by simp[an,LV.lt]) (h.keys 0 (by omega)) (h.lt 0 (by omega)) (fun p hp'=>.inl (by rw[h.keys 0 (by omega),←h.keys l.length (by simp)];exact List.mem_map.2 ⟨p,hp',rfl⟩)) ?_;intro B hA hmd;refine LGo.scope (.seq (.region rfl (ag O9 (h:=aa (h:=.n0 (.seq (.region rfl (aD wA (h:=.n0 (.seq (.region rfl (aa (h:=.n0 ?_)))))))))))));refine .seq (LGo.label ?_);refine ay (σ:=Nat×Nat×List UInt8×List UInt8×Bool) (fun x=>x.1≤l.length∧x.2.2.1.length<x.2.1∧x.2.2.1.length≤8192∧cE x.2.1 x.2.2.1=(l.drop x.1,true)) (fun x=>[(3,(true,.t x.2.2.1)),(4,(true,.ptr 7 0))]) (fun x=>SS A0 A1 A2 A3 line A5 A6 x.1++[(7,.box 73 [.t x.2.2.2.1,.b x.2.2.2.2])]) (fun x=>x.2.2.1.length) (0,line.length+1,line,[],false) [(0,_)] ⟨by simp,by dsimp only;omega,hlen,by dsimp only;rw[hl,List.drop_zero]⟩ (by repeat (first|exact trivial|refine⟨rfl,?_⟩)) (by repeat (first|exact trivial|refine⟨rfl,?_⟩)) (by repeat (first|exact trivial|refine⟨rfl,?_⟩)) ?_;rintro⟨j,f,rest,a,b⟩ ⟨hj,hf,hr,hq⟩ ihL;dsimp only at*;obtain⟨fs,n,hun⟩:∃fs n,rk rest=(fs,n):=⟨_,_,rfl⟩;have hU:=rP rest (by omega);have hn:=Ba rest;rw[hun]at hU hn;dsimp only at hU hn;refine .seq (.seq (.region rfl (ae (h:=ai (es:=[_]) (fun _=>hU) (h:=ae (h:=ak (h:=ak (h:=af dE (h:=aA O9 (h:=aa (h:=.n0 (.seq (.region rfl ?_)))))))))))));refine ae (h:=ah (aJ _ _ _ _ _ _) (h:=.n0 ?_));refine ao (ht:=fun hc=>?_) (hf:=fun hc=>?_);have hnx:eS rest=some (⟨fs,true⟩,rest.drop n):=by unfold eS;rw[hun];exact if_pos (by dsimp only;omega)
 refine .seq (.region rfl (af gL (h:=aA O4 (h:=.n0 (LGo.goto rfl (.seq (.skip (.seq (.region rfl (ae (h:=ae (h:=dd Tryz.runUnderlying9 (ha:=fun _=>by omega) (h:=?_)))))))))))));rw[Int.toNat_natCast];have hr2:(rest.drop n).length≤rest.length:=by rw[List.length_drop];omega
 generalize rest.drop n=r2 at hnx hr2⊢;obtain⟨f,rfl⟩:∃g,f=g+1:=⟨f-1,by omega⟩;refine aa (h:=.n0 (.seq (.seq (.region rfl (ae (h:=ah (cj _ _ _ _ _) (h:=ae (h:=ae (h:=bu Tryz.runUnderlying9 (c:=r2.headD 0) (hj:=fun hg=>⟨by omega,by cases r2 with|nil=>simp at hg|cons a r=>rfl⟩) (h:=ah (aC _ _ _ _ _ _) (h:=aT (h:=.n0 ?_))))))))))));refine aj (ht:=fun hc2=>?_) (hf:=fun hc2=>?_);exact absurd (o7 hnx hq hc2).2 (by simp);obtain⟨hjl,hx,hlast,hmore⟩:=mg hnx hq hc2;refine .skip (.seq (.seq (.region rfl (ae (h:=aB iF (h:=dV (es:=[_,_]) (h.at_ hx) (hL:=fun k z hz=>by rcases k with _|_|_|_|_|_|_|k<;>first|exact hz|cases hz) (h:=bd (h:=ae (h:=ae (h:=ah (bH _ _ _ _ _) (h:=aX (h:=.n0 ?_))))))))))));refine aj (ht:=fun hc3=>?_) (hf:=fun hc3=>?_);obtain⟨hj1,_⟩:=hlast (by simpa using hc3);rw[←hj1];refine LGo.drop 7 (fun o h=>(hA o).1 h) (by omega) [] (SS A0 A1 A2 A3 line A5 A6 (j+1)) trivial (h.keep (by simp;omega) _) (by simp) (fun p hp'=>by have:=List.all_eq_true.1 (hlt (j+1) 7 (by omega)) p hp';simpa using this) (h:=?_);exact LGo.ret (ud Tryz.results220 hA hmd (by rfl) (fun _ _ h=>h) (.inr rfl));have hne:r2≠[]:=by simpa using hc3
 refine .skip (.seq (.region rfl (ae (h:=dd Tryz.runUnderlying9 (ha:=fun _=>by have:=(hmore hne).1;omega) (h:=?_)))));rw[show Int.toNat 1=1 from rfl];refine aa (h:=.n0 (LGo.goto rfl (.seq (.skip ?_))));exact LGo.next _ (fun o h=>by have:=(hA o).1 h;omega) (by omega) (ihL (j+1,f,r2.drop 1,fs,true) ⟨by dsimp only;omega,by dsimp only;rw[List.length_drop];have:=(hmore hne).1;omega,by dsimp only;rw[List.length_drop];omega,(hmore hne).2⟩ (by dsimp only;rw[List.length_drop];have:=(hmore hne).1;omega)) (by repeat (first|exact trivial|refine⟨rfl,?_⟩)) (by repeat (first|exact trivial|refine⟨rfl,?_⟩)) (hLl:=by rw[List.all_append,hlt (j+1) 8 (by omega)];rfl);obtain⟨fs,hfs⟩:∃x,cJ rest 32=x:=⟨_,rfl⟩;have hCu:=AV rest 32 (by omega);have hfl:=mj rest 32;rw[hfs]at hCu hfl;refine .skip (.seq (.region rfl (af gL (h:=aA O4 (h:=.n0 (.seq (.region rfl (ae (h:=ai (es:=[_,_]) (fun _=>hCu) (h:=ae (h:=ak (h:=ak (h:=ak (h:=?_))))))))))))));refine af dE (h:=aA O9 (h:=.n0 (.seq (.region rfl (af dE (h:=ag O9 (h:=bC Tryz.runUnderlying9 (h:=aa (h:=.n0 (.seq (.seq (.region rfl (af dE (h:=?_))))))))))))));refine ag O9 (h:=ai (es:=[_]) (fun _=>pY fs (by omega)) (h:=bd (h:=.n0 ?_)));refine aj (ht:=fun hc4=>?_) (hf:=fun hc4=>?_);exact absurd (vq (f:=f-1) (rest:=rest) (l:=l) (j:=j) (ok:=true) (by unfold eS;rw[hun,if_neg (by dsimp only;omega),hfs,if_neg (by simpa using hc4)]) (by rw[show f-1+1=f from by omega];exact hq)).2 (by simp);have hnx:eS rest=some (⟨fs,false⟩,rest.drop fs.length):=by
  unfold eS;rw[hun,if_neg (by dsimp only;omega),hfs,if_pos (by simpa using hc4)]
 obtain⟨n,hn2⟩:∃n,fs.length=n:=⟨_,rfl⟩;rw[hn2]at hnx hfl⊢;have hn:n≤rest.length:=hfl;refine .skip (.seq (LGo.label (.seq (.region rfl (ae (h:=ae (h:=dd Tryz.runUnderlying9 (ha:=fun _=>by omega) (h:=?_))))))));rw[Int.toNat_natCast];have hr2:(rest.drop n).length≤rest.length:=by rw[List.length_drop];omega
 generalize rest.drop n=r2 at hnx hr2⊢;obtain⟨f,rfl⟩:∃g,f=g+1:=⟨f-1,by omega⟩;refine aa (h:=.n0 (.seq (.seq (.region rfl (ae (h:=ah (cj _ _ _ _ _) (h:=ae (h:=ae (h:=bu Tryz.runUnderlying9 (c:=r2.headD 0) (hj:=fun hg=>⟨by omega,by cases r2 with|nil=>simp at hg|cons a r=>rfl⟩) (h:=ah (aC _ _ _ _ _ _) (h:=aT (h:=.n0 ?_))))))))))));refine aj (ht:=fun hc5=>?_) (hf:=fun hc5=>?_);exact absurd (o7 hnx hq hc5).2 (by simp);obtain⟨hjl,hx,hlast,hmore⟩:=mg hnx hq hc5;refine .skip (.seq (.seq (.region rfl (ae (h:=aB iF (h:=dV (es:=[_,_]) (h.at_ hx) (hL:=fun k z hz=>by rcases k with _|_|_|_|_|_|_|k<;>first|exact hz|cases hz) (h:=bd (h:=ae (h:=ae (h:=ah (bH _ _ _ _ _) (h:=aX (h:=.n0 ?_))))))))))));refine aj (ht:=fun hc6=>?_) (hf:=fun hc6=>?_);obtain⟨hj1,_⟩:=hlast (by simpa using hc6);rw[←hj1];refine LGo.drop 7 (fun o h=>(hA o).1 h) (by omega) [] (SS A0 A1 A2 A3 line A5 A6 (j+1)) trivial (h.keep (by simp;omega) _) (by simp) (fun p hp'=>by have:=List.all_eq_true.1 (hlt (j+1) 7 (by omega)) p hp';simpa using this) (h:=?_);exact LGo.ret (ud Tryz.results220 hA hmd (by rfl) (fun _ _ h=>h) (.inr rfl));have hne:r2≠[]:=by simpa using hc6
 refine .skip (.seq (.region rfl (ae (h:=dd Tryz.runUnderlying9 (ha:=fun _=>by have:=(hmore hne).1;omega) (h:=?_)))));rw[show Int.toNat 1=1 from rfl];refine aa (h:=.n0 (LGo.goto rfl (.seq (.skip ?_))));exact LGo.next _ (fun o h=>by have:=(hA o).1 h;omega) (by omega) (ihL (j+1,f,r2.drop 1,fs,false) ⟨by dsimp only;omega,by dsimp only;rw[List.length_drop];have:=(hmore hne).1;omega,by dsimp only;rw[List.length_drop];omega,(hmore hne).2⟩ (by dsimp only;rw[List.length_drop];have:=(hmore hne).1;omega)) (by repeat (first|exact trivial|refine⟨rfl,?_⟩)) (by repeat (first|exact trivial|refine⟨rfl,?_⟩)) (hLl:=by rw[List.all_append,hlt (j+1) 8 (by omega)];rfl)
theorem tK{line:List UInt8}{l:List Fd}{A0 A1 A5 A6:LO}{A2 A3:Nat→LO}(hlen:line.length≤8192)(hl:cE (line.length+1) line=(l,false))(hlt:∀j m,7≤m→((SS A0 A1 A2 A3 line A5 A6 j).all fun p=>decide (p.1<m)&&p.2.lt m)=true)(h:YG Tryz.prog 6 7 (l.map Fd.y) (SS A0 A1 A2 A3 line A5 A6)){b:Bool}{S2:List (Nat×LO)}(k2:S2.map (·.1)=List.range 7)(l2:∀p∈S2,p.1<7∧p.2.lt 7=true)(he:Yld Tryz.prog 6 [.agg ((⟨[],false⟩:Fd).c.map LV.sv),.b false] (SS A0 A1 A2 A3 line A5 A6 l.length) b S2):LC Tryz.prog 220 7 [.yld 6,.ptr 4 0] (SS A0 A1 A2 A3 line A5 A6 0) (.tup []) S2 0:=by
 refine LC.of_go Tryz.func220 (c:=_) rfl (by kernel_rfl) (by rw[Tryz.ntmps220];simp) (by simp[an,LV.lt]) (h.keys 0 (by omega)) (h.lt 0 (by omega)) (fun p hp'=>.inl (by rw[h.keys 0 (by omega),←k2];exact List.mem_map.2 ⟨p,hp',rfl⟩)) ?_;intro B hA hmd;refine LGo.scope (.seq (.region rfl (ag O9 (h:=aa (h:=.n0 (.seq (.region rfl (aD wA (h:=.n0 (.seq (.region rfl (aa (h:=.n0 ?_)))))))))))));refine .seq (LGo.label ?_);refine ay (σ:=Nat×Nat×List UInt8×List UInt8×Bool) (fun x=>x.1≤l.length∧x.2.2.1.length<x.2.1∧x.2.2.1.length≤8192∧cE x.2.1 x.2.2.1=(l.drop x.1,false)) (fun x=>[(3,(true,.t x.2.2.1)),(4,(true,.ptr 7 0))]) (fun x=>SS A0 A1 A2 A3 line A5 A6 x.1++[(7,.box 73 [.t x.2.2.2.1,.b x.2.2.2.2])]) (fun x=>x.2.2.1.length) (0,line.length+1,line,[],false) [(0,_)] ⟨by simp,by dsimp only;omega,hlen,by dsimp only;rw[hl,List.drop_zero]⟩ (by repeat (first|exact trivial|refine⟨rfl,?_⟩)) (by repeat (first|exact trivial|refine⟨rfl,?_⟩)) (by repeat (first|exact trivial|refine⟨rfl,?_⟩)) ?_;rintro⟨j,f,rest,a,b⟩ ⟨hj,hf,hr,hq⟩ ihL;dsimp only at*;obtain⟨fs,n,hun⟩:∃fs n,rk rest=(fs,n):=⟨_,_,rfl⟩;have hU:=rP rest (by omega);have hn:=Ba rest;rw[hun]at hU hn;dsimp only at hU hn;refine .seq (.seq (.region rfl (ae (h:=ai (es:=[_]) (fun _=>hU) (h:=ae (h:=ak (h:=ak (h:=af dE (h:=aA O9 (h:=aa (h:=.n0 (.seq (.region rfl ?_)))))))))))));refine ae (h:=ah (aJ _ _ _ _ _ _) (h:=.n0 ?_));refine ao (ht:=fun hc=>?_) (hf:=fun hc=>?_);have hnx:eS rest=some (⟨fs,true⟩,rest.drop n):=by unfold eS;rw[hun];exact if_pos (by dsimp only;omega)
 refine .seq (.region rfl (af gL (h:=aA O4 (h:=.n0 (LGo.goto rfl (.seq (.skip (.seq (.region rfl (ae (h:=ae (h:=dd Tryz.runUnderlying9 (ha:=fun _=>by omega) (h:=?_)))))))))))));rw[Int.toNat_natCast];have hr2:(rest.drop n).length≤rest.length:=by rw[List.length_drop];omega
 generalize rest.drop n=r2 at hnx hr2⊢;obtain⟨f,rfl⟩:∃g,f=g+1:=⟨f-1,by omega⟩;refine aa (h:=.n0 (.seq (.seq (.region rfl (ae (h:=ah (cj _ _ _ _ _) (h:=ae (h:=ae (h:=bu Tryz.runUnderlying9 (c:=r2.headD 0) (hj:=fun hg=>⟨by omega,by cases r2 with|nil=>simp at hg|cons a r=>rfl⟩) (h:=ah (aC _ _ _ _ _ _) (h:=aT (h:=.n0 ?_))))))))))));refine aj (ht:=fun hc2=>?_) (hf:=fun hc2=>?_);obtain⟨hz,_⟩:=o7 hnx hq hc2;obtain rfl:j=l.length:=by
  have:=congrArg List.length hz;rw[List.length_drop,List.length_nil]at this;omega
 refine .seq (.region rfl (ae (h:=br wI (is:=[]) (xs:=[]) (es:=[]) (h:=dV (es:=[_,_]) he (hL:=fun k z hz=>by rcases k with _|_|_|_|_|_|_|k<;>first|exact hz|cases hz) (h:=.n0 (LGo.drop 7 (fun o h=>(hA o).1 h) (by omega) [] S2 trivial (KeepL.app (by rw[k2];exact List.nodup_range)) (by simp) l2 (h:=?_)))))));exact LGo.ret (ud Tryz.results220 hA hmd (by rfl) (fun _ _ h=>h) (.inr rfl));obtain⟨hjl,hx,hlast,hmore⟩:=mg hnx hq hc2;refine .skip (.seq (.seq (.region rfl (ae (h:=aB iF (h:=dV (es:=[_,_]) (h.at_ hx) (hL:=fun k z hz=>by rcases k with _|_|_|_|_|_|_|k<;>first|exact hz|cases hz) (h:=bd (h:=ae (h:=ae (h:=ah (bH _ _ _ _ _) (h:=aX (h:=.n0 ?_))))))))))));refine aj (ht:=fun hc3=>?_) (hf:=fun hc3=>?_);exact absurd (hlast (by simpa using hc3)).2 (by simp);have hne:r2≠[]:=by simpa using hc3
 refine .skip (.seq (.region rfl (ae (h:=dd Tryz.runUnderlying9 (ha:=fun _=>by have:=(hmore hne).1;omega) (h:=?_)))));rw[show Int.toNat 1=1 from rfl];refine aa (h:=.n0 (LGo.goto rfl (.seq (.skip ?_))));exact LGo.next _ (fun o h=>by have:=(hA o).1 h;omega) (by omega) (ihL (j+1,f,r2.drop 1,fs,true) ⟨by dsimp only;omega,by dsimp only;rw[List.length_drop];have:=(hmore hne).1;omega,by dsimp only;rw[List.length_drop];omega,(hmore hne).2⟩ (by dsimp only;rw[List.length_drop];have:=(hmore hne).1;omega)) (by repeat (first|exact trivial|refine⟨rfl,?_⟩)) (by repeat (first|exact trivial|refine⟨rfl,?_⟩)) (hLl:=by rw[List.all_append,hlt (j+1) 8 (by omega)];rfl);obtain⟨fs,hfs⟩:∃x,cJ rest 32=x:=⟨_,rfl⟩;have hCu:=AV rest 32 (by omega);have hfl:=mj rest 32;rw[hfs]at hCu hfl;refine .skip (.seq (.region rfl (af gL (h:=aA O4 (h:=.n0 (.seq (.region rfl (ae (h:=ai (es:=[_,_]) (fun _=>hCu) (h:=ae (h:=ak (h:=ak (h:=ak (h:=?_))))))))))))));refine af dE (h:=aA O9 (h:=.n0 (.seq (.region rfl (af dE (h:=ag O9 (h:=bC Tryz.runUnderlying9 (h:=aa (h:=.n0 (.seq (.seq (.region rfl (af dE (h:=?_))))))))))))));refine ag O9 (h:=ai (es:=[_]) (fun _=>pY fs (by omega)) (h:=bd (h:=.n0 ?_)));refine aj (ht:=fun hc4=>?_) (hf:=fun hc4=>?_);obtain⟨hz,_⟩:=vq (f:=f-1) (rest:=rest) (l:=l) (j:=j) (ok:=false) (by unfold eS;rw[hun,if_neg (by dsimp only;omega),hfs,if_neg (by simpa using hc4)]) (by rw[show f-1+1=f from by omega];exact hq);obtain rfl:j=l.length:=by
  have:=congrArg List.length hz;rw[List.length_drop,List.length_nil]at this;omega
 refine .seq (.region rfl (ae (h:=br wI (is:=[]) (xs:=[]) (es:=[]) (h:=dV (es:=[_,_]) he (hL:=fun k z hz=>by rcases k with _|_|_|_|_|_|_|k<;>first|exact hz|cases hz) (h:=.n0 (LGo.drop 7 (fun o h=>(hA o).1 h) (by omega) [] S2 trivial (KeepL.app (by rw[k2];exact List.nodup_range)) (by simp) l2 (h:=?_)))))));exact LGo.ret (ud Tryz.results220 hA hmd (by rfl) (fun _ _ h=>h) (.inr rfl));have hnx:eS rest=some (⟨fs,false⟩,rest.drop fs.length):=by
  unfold eS;rw[hun,if_neg (by dsimp only;omega),hfs,if_pos (by simpa using hc4)]
 obtain⟨n,hn2⟩:∃n,fs.length=n:=⟨_,rfl⟩;rw[hn2]at hnx hfl⊢;have hn:n≤rest.length:=hfl;refine .skip (.seq (LGo.label (.seq (.region rfl (ae (h:=ae (h:=dd Tryz.runUnderlying9 (ha:=fun _=>by omega) (h:=?_))))))));rw[Int.toNat_natCast];have hr2:(rest.drop n).length≤rest.length:=by rw[List.length_drop];omega
 generalize rest.drop n=r2 at hnx hr2⊢;obtain⟨f,rfl⟩:∃g,f=g+1:=⟨f-1,by omega⟩;refine aa (h:=.n0 (.seq (.seq (.region rfl (ae (h:=ah (cj _ _ _ _ _) (h:=ae (h:=ae (h:=bu Tryz.runUnderlying9 (c:=r2.headD 0) (hj:=fun hg=>⟨by omega,by cases r2 with|nil=>simp at hg|cons a r=>rfl⟩) (h:=ah (aC _ _ _ _ _ _) (h:=aT (h:=.n0 ?_))))))))))));refine aj (ht:=fun hc5=>?_) (hf:=fun hc5=>?_);obtain⟨hz,_⟩:=o7 hnx hq hc5;obtain rfl:j=l.length:=by
  have:=congrArg List.length hz;rw[List.length_drop,List.length_nil]at this;omega
 refine .seq (.region rfl (ae (h:=br wI (is:=[]) (xs:=[]) (es:=[]) (h:=dV (es:=[_,_]) he (hL:=fun k z hz=>by rcases k with _|_|_|_|_|_|_|k<;>first|exact hz|cases hz) (h:=.n0 (LGo.drop 7 (fun o h=>(hA o).1 h) (by omega) [] S2 trivial (KeepL.app (by rw[k2];exact List.nodup_range)) (by simp) l2 (h:=?_)))))));exact LGo.ret (ud Tryz.results220 hA hmd (by rfl) (fun _ _ h=>h) (.inr rfl));obtain⟨hjl,hx,hlast,hmore⟩:=mg hnx hq hc5;refine .skip (.seq (.seq (.region rfl (ae (h:=aB iF (h:=dV (es:=[_,_]) (h.at_ hx) (hL:=fun k z hz=>by rcases k with _|_|_|_|_|_|_|k<;>first|exact hz|cases hz) (h:=bd (h:=ae (h:=ae (h:=ah (bH _ _ _ _ _) (h:=aX (h:=.n0 ?_))))))))))));refine aj (ht:=fun hc6=>?_) (hf:=fun hc6=>?_);exact absurd (hlast (by simpa using hc6)).2 (by simp);have hne:r2≠[]:=by simpa using hc6
 refine .skip (.seq (.region rfl (ae (h:=dd Tryz.runUnderlying9 (ha:=fun _=>by have:=(hmore hne).1;omega) (h:=?_)))));rw[show Int.toNat 1=1 from rfl];refine aa (h:=.n0 (LGo.goto rfl (.seq (.skip ?_))));exact LGo.next _ (fun o h=>by have:=(hA o).1 h;omega) (by omega) (ihL (j+1,f,r2.drop 1,fs,false) ⟨by dsimp only;omega,by dsimp only;rw[List.length_drop];have:=(hmore hne).1;omega,by dsimp only;rw[List.length_drop];omega,(hmore hne).2⟩ (by dsimp only;rw[List.length_drop];have:=(hmore hne).1;omega)) (by repeat (first|exact trivial|refine⟨rfl,?_⟩)) (by repeat (first|exact trivial|refine⟨rfl,?_⟩)) (hLl:=by rw[List.all_append,hlt (j+1) 8 (by omega)];rfl)
theorem vv(s:List UInt8):LC Tryz.prog 188 0 [.t s] [] (.fn (.func 220) [] [.ptr 0 0]) [(0,.box 9 [.t s])] 1:=by
 refine LC.of_go Tryz.func188 (c:=_) rfl (by kernel_rfl) (by rw[Tryz.ntmps188];simp) rfl rfl (by simp[LO.lt,an,LV.lt,aq]) (by simp) ?_;intro B hA hmd;refine .seq (.region rfl (bg (h:=aa (h:=.n0 (.seq (.region rfl (cQ (es:=[]) (fs:=[_]) (h:=aa (h:=.n0 ?_)))))))));exact LGo.ret (ax Tryz.results188 hA hmd)
def dr(l:List Fd):Bool:=l.foldl (fun b f=>b||decide (2000<(f.s.length:Int))) false
def cV(s:List UInt8):List Fd×Int:=if 8192<(s.length:Int)then([],3)else if s=[]then([],0)else if(cE (s.length+1) s).2=false then([],6)else if(dr (cE (s.length+1) s).1||decide (64<((cE (s.length+1) s).1.length:Int)))=true then([],3)else((cE (s.length+1) s).1,0)
theorem sb(l:List Fd)(f:Fd):dr (l++[f])=(dr l||decide (2000<(f.s.length:Int))):=by unfold dr;rw[List.foldl_append];rfl
theorem nv:∀(n:Nat) (r:List UInt8),(cE n r).1.length≤r.length+1
 |0,r=>by simp[cE]
 |n+1,r=>by
  rw[cE];split;simp;simp;rename_i d a q he;split;have h1:=nv n q;have h2:(a::q).length≤r.length:=by
   unfold eS at he;split at he;simp only[Option.some.injEq,Prod.mk.injEq]at he;rw[←he.2];simp;split at he;simp only[Option.some.injEq,Prod.mk.injEq]at he;rw[←he.2];simp;cases he
  simp only[List.length_cons]at h2⊢;omega;simp
theorem BU(s:List UInt8){fs:List Fd}(hfl0:cE (s.length+1) s=(fs,true)):PC Tryz.prog 154 [.t s] (.tup [.sv (.sl 2 ((cV s).1.map Fd.c)),.i (cV s).2]):=by
 refine⟨LC.of_go Tryz.func154 (c:=_) rfl (by kernel_rfl) (by rw[Tryz.ntmps154];simp) rfl rfl (by simp[LO.lt,an,LV.lt,aq]) (by simp) ?_⟩;intro B hA hmd;have hfl:cE (s.length+1) s=(fs,true):=hfl0;refine .seq (.region rfl (aD Ir (h:=aD I9 (h:=.n0 (.seq (.block (.seq (.region rfl (ae (h:=bC Tryz.runUnderlying9 (h:=ah (aJ _ _ _ _ _ _) (h:=aa (h:=.n0 ?_)))))))))))));refine ao (ht:=fun hc=>?_) (hf:=fun hc=>?_);rw[show cV s=([],3)from if_pos hc];refine .seq (.region rfl (aA rn (h:=aA xR (h:=.n0 (aS 0 0 73 2 (h:=LGo.frzBx 0 (h:=?_)))))));exact LGo.ret (kZ Tryz.results154 rn xR hA hmd)
 ·have hlen:s.length≤8192:=by omega
  refine .seq (.region rfl (ae (h:=ah (bH _ _ _ _ _) (h:=aa (h:=.n0 ?_)))));refine ao (ht:=fun hc2=>?_) (hf:=fun hc2=>?_);rw[show cV s=([],0)from by unfold cV;rw[if_neg hc,if_pos hc2]];refine .seq (.region rfl (aA rn (h:=aA xR (h:=.n0 (aS 0 0 73 2 (h:=LGo.frzBx 0 (h:=?_)))))));exact LGo.ret (kZ Tryz.results154 rn xR hA hmd);have hll:=nv (s.length+1) s;rw[hfl]at hll;dsimp only at hll;refine .skip (.inBlock (.seq (.region rfl (aD Ir (h:=.n0 (.seq (.region rfl (aD Z4 (h:=aA O4 (h:=.n0 (.seq (.seq (.region rfl ?_)))))))))))));refine ae (h:=tH (es:=[_]) (vv s) (h:=.n0 (.block (aS 2 0 73 2 (h:=?_)))));refine LGo.keep [(2,(true,.ptr 0 0)),(3,(true,.ptr 1 0)),(4,(true,.ptr 2 0)),(5,(true,.ptr 3 0)),(16,(true,.fn (.func 220) [] [.ptr 4 0]))] [(0,.box 68 [.v (.slice none 0 0)]),(1,.box 32 [.i 0]),(2,.bx 68 [.v undef] 0 73 2 ((fs.take 0).map Fd.c)),(3,.box 4 [.b (dr (fs.take 0))]),(4,.box 9 [.t s])] (by repeat (first|exact trivial|refine⟨rfl,?_⟩)) (by repeat (first|exact trivial|refine⟨rfl,?_⟩)) ?_;refine lI (fun fn ac bc=>[(0,.box 68 [.v (.slice none 0 0)]),(1,.box 32 [.i 0]),(2,.bx 68 [.v undef] 0 73 2 ((fs.take fs.length).map Fd.c)),(3,.box 4 [.b (dr (fs.take fs.length))]),(4,.box 9 [.t s]),(5,.raw (.deferred (some []))),(6,.loop fn Tryz.f154.ntmps [(2,(true,.ptr 0 0)),(3,(true,.ptr 1 0)),(4,(true,.ptr 2 0)),(5,(true,.ptr 3 0)),(16,(true,.fn (.func 220) [] [.ptr 4 0]))] #[17,18] ac bc .ready none)]) (hit:=fun fn ac bc hac hbc=>?_) (h:=fun fn=>?_)
  ·suffices hgo:YG Tryz.prog 6 7 (fs.map Fd.y) (fun j=>[(0,.box 68 [.v (.slice none 0 0)]),(1,.box 32 [.i 0]),(2,.bx 68 [.v undef] 0 73 2 ((fs.take j).map Fd.c)),(3,.box 4 [.b (dr (fs.take j))]),(4,.box 9 [.t s]),(5,.raw (.deferred (some []))),(6,.loop fn Tryz.f154.ntmps [(2,(true,.ptr 0 0)),(3,(true,.ptr 1 0)),(4,(true,.ptr 2 0)),(5,(true,.ptr 3 0)),(16,(true,.fn (.func 220) [] [.ptr 4 0]))] #[17,18] ac bc .ready none)])from by
    have hr:=wa (A0:= .box 68 [.v (.slice none 0 0)]) (A1:= .box 32 [.i 0]) (A2:=fun j=>.bx 68 [.v undef] 0 73 2 ((fs.take j).map Fd.c)) (A3:=fun j=>.box 4 [.b (dr (fs.take j))]) (A5:= .raw (.deferred (some []))) (A6:= .loop fn Tryz.f154.ntmps [(2,(true,.ptr 0 0)),(3,(true,.ptr 1 0)),(4,(true,.ptr 2 0)),(5,(true,.ptr 3 0)),(16,(true,.fn (.func 220) [] [.ptr 4 0]))] #[17,18] ac bc .ready none) hlen hfl (fun j m hm=>by simp[LO.lt,an,LV.lt,aq];omega) hgo;exact hr
   refine⟨fun j hj=>rfl,fun j hj=>by simp[LO.lt,an,LV.lt,aq],fun j hj=>?_⟩;rw[List.getElem_map];have hj':j<fs.length:=by simpa using hj
   have htk:fs.take (j+1)=fs.take j++[fs[j]]:=by rw[List.take_succ_eq_append_getElem hj']
   try dsimp only
   rw[htk,List.map_append,sb];generalize fs[j]=fd at*;refine kA 7 8 ((7,(true,.b true))::(6,(true,.ptr 7 0))::(17,(true,.agg (fd.c.map LV.sv)))::(18,(true,.b true))::[(2,(true,.ptr 0 0)),(3,(true,.ptr 1 0)),(4,(true,.ptr 2 0)),(5,(true,.ptr 3 0)),(16,(true,.fn (.func 220) [] [.ptr 4 0]))]) ((7,.box 73 (fd.c.map LV.sv))::[(0,.box 68 [.v (.slice none 0 0)]),(1,.box 32 [.i 0]),(2,.bx 68 [.v undef] 0 73 2 ((fs.take j).map Fd.c)),(3,.box 4 [.b (dr (fs.take j))]),(4,.box 9 [.t s]),(5,.raw (.deferred (some []))),(6,.loop fn Tryz.f154.ntmps [(2,(true,.ptr 0 0)),(3,(true,.ptr 1 0)),(4,(true,.ptr 2 0)),(5,(true,.ptr 3 0)),(16,(true,.fn (.func 220) [] [.ptr 4 0]))] #[17,18] ac bc .ready none)]) (hpN:=by rw[show Tryz.f154.ntmps=39 from Tryz.ntmps154];simp) (hA:=?_) (hB:=?_);intro l B' hA' hmd';subst hac;refine .seq (.region rfl (aD wA (h:=ar iF (h:=.n0 (.region rfl (aa (h:=.n0 ?_)))))));refine LGo.keep ((7,(true,.b true))::(6,(true,.ptr 7 0))::(17,(true,.agg (fd.c.map LV.sv)))::(18,(true,.b true))::[(2,(true,.ptr 0 0)),(3,(true,.ptr 1 0)),(4,(true,.ptr 2 0)),(5,(true,.ptr 3 0)),(16,(true,.fn (.func 220) [] [.ptr 4 0]))]) ((7,.box 73 (fd.c.map LV.sv))::[(0,.box 68 [.v (.slice none 0 0)]),(1,.box 32 [.i 0]),(2,.bx 68 [.v undef] 0 73 2 ((fs.take j).map Fd.c)),(3,.box 4 [.b (dr (fs.take j))]),(4,.box 9 [.t s]),(5,.raw (.deferred (some []))),(6,.loop fn Tryz.f154.ntmps [(2,(true,.ptr 0 0)),(3,(true,.ptr 1 0)),(4,(true,.ptr 2 0)),(5,(true,.ptr 3 0)),(16,(true,.fn (.func 220) [] [.ptr 4 0]))] #[17,18] _ bc .ready none)]) (by repeat (first|exact trivial|refine⟨rfl,?_⟩)) (by repeat (first|exact trivial|refine⟨rfl,?_⟩)) ?_;exact LGo.done (fun cx a w hr=>⟨rfl,cx,hr⟩);intro l B' hA' hmd';subst hbc;refine LGo.unpack 2 (h:=.block (.seq (.seq (.region rfl (ae (h:=bd (h:=.n0 ?_)))))));refine aj (ht:=fun hc3=>by simp at hc3) (hf:=fun hc3=>?_);refine .skip (.seq (.region rfl (ag O4 (h:=ae (h:=af dE (h:=ag O9 (h:=bC Tryz.runUnderlying9 (h:=ah (aJ _ _ _ _ _ _) (h:=aX (h:=aA O4 (h:=.n0 (.region rfl (ag rn (h:=?_))))))))))))));refine aB iF (h:=az fX (xs:=[_]) (es:=[_]) (hcs:=CellsOfs.cons (CellsOf.agg rfl) CellsOfs.nil) (h:=aO fX (hs:=SrcOk.sl Tryz.underlying68 (by simp;rfl)) (hlen:=by simp;omega) (h:=aA rn (h:=.n0 (.inBlock (bJ 2 0 (h:=?_)))))));refine LGo.drop 7 (fun o h=>(hA' o).1 h) (by omega) [] ((6,.loop fn Tryz.f154.ntmps [(2,(true,.ptr 0 0)),(3,(true,.ptr 1 0)),(4,(true,.ptr 2 0)),(5,(true,.ptr 3 0)),(16,(true,.fn (.func 220) [] [.ptr 4 0]))] #[17,18] ac _ .busy none)::(5,.raw (.deferred (some [])))::[(0,.box 68 [.v (.slice none 0 0)]),(1,.box 32 [.i 0]),(2,.bx 68 [.v undef] 0 73 2 ((fs.take j).map Fd.c++[fd.c])),(3,.box 4 [.b (dr (fs.take j)||decide (2000<(fd.s.length:Int)))]),(4,.box 9 [.t s])]) trivial (by repeat (first|exact trivial|refine⟨rfl,?_⟩)) (by simp) (by simp[LO.lt,an,LV.lt,aq]) (h:=?_);refine LGo.done (RoundEnd.go rfl (fun o z hz hne=>?_) rfl);rcases o with _|_|_|_|_|_|_|o<;>first|exact absurd rfl hne|exact hz
  rw[List.take_length];refine LGo.frzBx 2 (h:=.inBlock (.seq (.seq (.region rfl (ag O4 (h:=ae (h:=ag rn (h:=aF mS (h:=ah (aJ _ _ _ _ _ _) (h:=aX (h:=.n0 ?_)))))))))));refine aj (ht:=fun hc4=>?_) (hf:=fun hc4=>?_);rw[show cV s=([],3)from by unfold cV;rw[if_neg hc,if_neg hc2,hfl,if_neg (by simp)];exact if_pos (by simpa using hc4)];refine .seq (.region rfl (aA rn (h:=aA xR (h:=.n0 (aS 0 0 73 2 (h:=LGo.frzBx 0 (h:=?_)))))));exact LGo.ret (fK (by rfl) (kZ Tryz.results154 rn xR hA hmd));rw[show cV s=(fs,0)from by unfold cV;rw[if_neg hc,if_neg hc2,hfl,if_neg (by simp)];exact if_neg (by simpa using hc4)];refine .skip (.seq (.region rfl (ag rn (h:=aA rn (h:=aA xR (h:=.n0 ?_))))));exact LGo.ret (fK (by rfl) (kZ Tryz.results154 rn xR hA hmd))
theorem zt(s:List UInt8){fs:List Fd}(hfl0:cE (s.length+1) s=(fs,false)):PC Tryz.prog 154 [.t s] (.tup [.sv (.sl 2 ((cV s).1.map Fd.c)),.i (cV s).2]):=by
 refine⟨LC.of_go Tryz.func154 (c:=_) rfl (by kernel_rfl) (by rw[Tryz.ntmps154];simp) rfl rfl (by simp[LO.lt,an,LV.lt,aq]) (by simp) ?_⟩;intro B hA hmd;have hfl:cE (s.length+1) s=(fs,false):=hfl0;refine .seq (.region rfl (aD Ir (h:=aD I9 (h:=.n0 (.seq (.block (.seq (.region rfl (ae (h:=bC Tryz.runUnderlying9 (h:=ah (aJ _ _ _ _ _ _) (h:=aa (h:=.n0 ?_)))))))))))));refine ao (ht:=fun hc=>?_) (hf:=fun hc=>?_);rw[show cV s=([],3)from if_pos hc];refine .seq (.region rfl (aA rn (h:=aA xR (h:=.n0 (aS 0 0 73 2 (h:=LGo.frzBx 0 (h:=?_)))))));exact LGo.ret (kZ Tryz.results154 rn xR hA hmd)
 ·have hlen:s.length≤8192:=by omega
  refine .seq (.region rfl (ae (h:=ah (bH _ _ _ _ _) (h:=aa (h:=.n0 ?_)))));refine ao (ht:=fun hc2=>?_) (hf:=fun hc2=>?_);rw[show cV s=([],0)from by unfold cV;rw[if_neg hc,if_pos hc2]];refine .seq (.region rfl (aA rn (h:=aA xR (h:=.n0 (aS 0 0 73 2 (h:=LGo.frzBx 0 (h:=?_)))))));exact LGo.ret (kZ Tryz.results154 rn xR hA hmd)
  ·have hll:=nv (s.length+1) s;rw[hfl]at hll;dsimp only at hll;refine .skip (.inBlock (.seq (.region rfl (aD Ir (h:=.n0 (.seq (.region rfl (aD Z4 (h:=aA O4 (h:=.n0 (.seq (.seq (.region rfl ?_)))))))))))));refine ae (h:=tH (es:=[_]) (vv s) (h:=.n0 (.block (aS 2 0 73 2 (h:=?_)))));refine LGo.keep [(2,(true,.ptr 0 0)),(3,(true,.ptr 1 0)),(4,(true,.ptr 2 0)),(5,(true,.ptr 3 0)),(16,(true,.fn (.func 220) [] [.ptr 4 0]))] [(0,.box 68 [.v (.slice none 0 0)]),(1,.box 32 [.i 0]),(2,.bx 68 [.v undef] 0 73 2 ((fs.take 0).map Fd.c)),(3,.box 4 [.b (dr (fs.take 0))]),(4,.box 9 [.t s])] (by repeat (first|exact trivial|refine⟨rfl,?_⟩)) (by repeat (first|exact trivial|refine⟨rfl,?_⟩)) ?_;refine xN (fun fn ac bc=>[(0,.box 68 [.sv (.sl 2 [])]),(1,.box 32 [.i 6]),(2,.bx 68 [.v undef] 0 73 2 ((fs.take fs.length).map Fd.c)),(3,.box 4 [.b (dr (fs.take fs.length))]),(4,.box 9 [.t s]),(5,.raw (.deferred (some []))),(6,.loop fn Tryz.f154.ntmps [(2,(true,.ptr 0 0)),(3,(true,.ptr 1 0)),(4,(true,.ptr 2 0)),(5,(true,.ptr 3 0)),(16,(true,.fn (.func 220) [] [.ptr 4 0]))] #[17,18] ac bc .done (some .ret))]) (hit:=fun fn ac bc hac hbc=>?_) (h:=fun fn=>?_)
   ·skip
    have yg:∀j,j<fs.length→∀fd,fs[j]?=some fd→Yld Tryz.prog 6 (Fd.y fd) ([(0,.box 68 [.v (.slice none 0 0)]),(1,.box 32 [.i 0]),(2,.bx 68 [.v undef] 0 73 2 ((fs.take j).map Fd.c)),(3,.box 4 [.b (dr (fs.take j))]),(4,.box 9 [.t s]),(5,.raw (.deferred (some []))),(6,.loop fn Tryz.f154.ntmps [(2,(true,.ptr 0 0)),(3,(true,.ptr 1 0)),(4,(true,.ptr 2 0)),(5,(true,.ptr 3 0)),(16,(true,.fn (.func 220) [] [.ptr 4 0]))] #[17,18] ac bc .ready none)]) true ([(0,.box 68 [.v (.slice none 0 0)]),(1,.box 32 [.i 0]),(2,.bx 68 [.v undef] 0 73 2 ((fs.take (j+1)).map Fd.c)),(3,.box 4 [.b (dr (fs.take (j+1)))]),(4,.box 9 [.t s]),(5,.raw (.deferred (some []))),(6,.loop fn Tryz.f154.ntmps [(2,(true,.ptr 0 0)),(3,(true,.ptr 1 0)),(4,(true,.ptr 2 0)),(5,(true,.ptr 3 0)),(16,(true,.fn (.func 220) [] [.ptr 4 0]))] #[17,18] ac bc .ready none)]):=by
     intro j hj' fd hfd;have htk:fs.take (j+1)=fs.take j++[fd]:=by rw[List.take_succ_eq_append_getElem hj'];congr 2;rw[List.getElem?_eq_getElem hj']at hfd;exact Option.some.inj hfd
     rw[htk,List.map_append,sb];refine kA 7 8 ((7,(true,.b true))::(6,(true,.ptr 7 0))::(17,(true,.agg (fd.c.map LV.sv)))::(18,(true,.b true))::[(2,(true,.ptr 0 0)),(3,(true,.ptr 1 0)),(4,(true,.ptr 2 0)),(5,(true,.ptr 3 0)),(16,(true,.fn (.func 220) [] [.ptr 4 0]))]) ((7,.box 73 (fd.c.map LV.sv))::[(0,.box 68 [.v (.slice none 0 0)]),(1,.box 32 [.i 0]),(2,.bx 68 [.v undef] 0 73 2 ((fs.take j).map Fd.c)),(3,.box 4 [.b (dr (fs.take j))]),(4,.box 9 [.t s]),(5,.raw (.deferred (some []))),(6,.loop fn Tryz.f154.ntmps [(2,(true,.ptr 0 0)),(3,(true,.ptr 1 0)),(4,(true,.ptr 2 0)),(5,(true,.ptr 3 0)),(16,(true,.fn (.func 220) [] [.ptr 4 0]))] #[17,18] ac bc .ready none)]) (hpN:=by rw[show Tryz.f154.ntmps=39 from Tryz.ntmps154];simp) (hA:=?_) (hB:=?_);intro l B' hA' hmd';subst hac;refine .seq (.region rfl (aD wA (h:=ar iF (h:=.n0 (.region rfl (aa (h:=.n0 ?_)))))));refine LGo.keep ((7,(true,.b true))::(6,(true,.ptr 7 0))::(17,(true,.agg (fd.c.map LV.sv)))::(18,(true,.b true))::[(2,(true,.ptr 0 0)),(3,(true,.ptr 1 0)),(4,(true,.ptr 2 0)),(5,(true,.ptr 3 0)),(16,(true,.fn (.func 220) [] [.ptr 4 0]))]) ((7,.box 73 (fd.c.map LV.sv))::[(0,.box 68 [.v (.slice none 0 0)]),(1,.box 32 [.i 0]),(2,.bx 68 [.v undef] 0 73 2 ((fs.take j).map Fd.c)),(3,.box 4 [.b (dr (fs.take j))]),(4,.box 9 [.t s]),(5,.raw (.deferred (some []))),(6,.loop fn Tryz.f154.ntmps [(2,(true,.ptr 0 0)),(3,(true,.ptr 1 0)),(4,(true,.ptr 2 0)),(5,(true,.ptr 3 0)),(16,(true,.fn (.func 220) [] [.ptr 4 0]))] #[17,18] _ bc .ready none)]) (by repeat (first|exact trivial|refine⟨rfl,?_⟩)) (by repeat (first|exact trivial|refine⟨rfl,?_⟩)) ?_;exact LGo.done (fun cx a w hr=>⟨rfl,cx,hr⟩);intro l B' hA' hmd';subst hbc;refine LGo.unpack 2 (h:=.block (.seq (.seq (.region rfl (ae (h:=bd (h:=.n0 ?_)))))));refine aj (ht:=fun hc3=>by simp at hc3) (hf:=fun hc3=>?_);refine .skip (.seq (.region rfl (ag O4 (h:=ae (h:=af dE (h:=ag O9 (h:=bC Tryz.runUnderlying9 (h:=ah (aJ _ _ _ _ _ _) (h:=aX (h:=aA O4 (h:=.n0 (.region rfl (ag rn (h:=?_))))))))))))));refine aB iF (h:=az fX (xs:=[_]) (es:=[_]) (hcs:=CellsOfs.cons (CellsOf.agg rfl) CellsOfs.nil) (h:=aO fX (hs:=SrcOk.sl Tryz.underlying68 (by simp;rfl)) (hlen:=by simp;omega) (h:=aA rn (h:=.n0 (.inBlock (bJ 2 0 (h:=?_)))))));refine LGo.drop 7 (fun o h=>(hA' o).1 h) (by omega) [] ((6,.loop fn Tryz.f154.ntmps [(2,(true,.ptr 0 0)),(3,(true,.ptr 1 0)),(4,(true,.ptr 2 0)),(5,(true,.ptr 3 0)),(16,(true,.fn (.func 220) [] [.ptr 4 0]))] #[17,18] ac _ .busy none)::(5,.raw (.deferred (some [])))::[(0,.box 68 [.v (.slice none 0 0)]),(1,.box 32 [.i 0]),(2,.bx 68 [.v undef] 0 73 2 ((fs.take j).map Fd.c++[fd.c])),(3,.box 4 [.b (dr (fs.take j)||decide (2000<(fd.s.length:Int)))]),(4,.box 9 [.t s])]) trivial (by repeat (first|exact trivial|refine⟨rfl,?_⟩)) (by simp) (by simp[LO.lt,an,LV.lt,aq]) (h:=?_);refine LGo.done (RoundEnd.go rfl (fun o z hz hne=>?_) rfl);rcases o with _|_|_|_|_|_|_|o<;>first|exact absurd rfl hne|exact hz
    have yl:Yld Tryz.prog 6 [.agg ((⟨[],false⟩:Fd).c.map LV.sv),.b false] ([(0,.box 68 [.v (.slice none 0 0)]),(1,.box 32 [.i 0]),(2,.bx 68 [.v undef] 0 73 2 ((fs.take fs.length).map Fd.c)),(3,.box 4 [.b (dr (fs.take fs.length))]),(4,.box 9 [.t s]),(5,.raw (.deferred (some []))),(6,.loop fn Tryz.f154.ntmps [(2,(true,.ptr 0 0)),(3,(true,.ptr 1 0)),(4,(true,.ptr 2 0)),(5,(true,.ptr 3 0)),(16,(true,.fn (.func 220) [] [.ptr 4 0]))] #[17,18] ac bc .ready none)]) false ([(0,.box 68 [.sv (.sl 2 [])]),(1,.box 32 [.i 6]),(2,.bx 68 [.v undef] 0 73 2 ((fs.take fs.length).map Fd.c)),(3,.box 4 [.b (dr (fs.take fs.length))]),(4,.box 9 [.t s]),(5,.raw (.deferred (some []))),(6,.loop fn Tryz.f154.ntmps [(2,(true,.ptr 0 0)),(3,(true,.ptr 1 0)),(4,(true,.ptr 2 0)),(5,(true,.ptr 3 0)),(16,(true,.fn (.func 220) [] [.ptr 4 0]))] #[17,18] ac bc .done (some .ret))]):=by
     refine kA 7 8 ((7,(true,.b false))::(6,(true,.ptr 7 0))::(17,(true,.agg ((⟨[],false⟩:Fd).c.map LV.sv)))::(18,(true,.b false))::[(2,(true,.ptr 0 0)),(3,(true,.ptr 1 0)),(4,(true,.ptr 2 0)),(5,(true,.ptr 3 0)),(16,(true,.fn (.func 220) [] [.ptr 4 0]))]) ((7,.box 73 ((⟨[],false⟩:Fd).c.map LV.sv))::[(0,.box 68 [.v (.slice none 0 0)]),(1,.box 32 [.i 0]),(2,.bx 68 [.v undef] 0 73 2 ((fs.take fs.length).map Fd.c)),(3,.box 4 [.b (dr (fs.take fs.length))]),(4,.box 9 [.t s]),(5,.raw (.deferred (some []))),(6,.loop fn Tryz.f154.ntmps [(2,(true,.ptr 0 0)),(3,(true,.ptr 1 0)),(4,(true,.ptr 2 0)),(5,(true,.ptr 3 0)),(16,(true,.fn (.func 220) [] [.ptr 4 0]))] #[17,18] ac bc .ready none)]) (hpN:=by rw[show Tryz.f154.ntmps=39 from Tryz.ntmps154];simp) (hA:=?_) (hB:=?_);intro l B' hA' hmd';subst hac;refine .seq (.region rfl (aD wA (h:=ar iF (h:=.n0 (.region rfl (aa (h:=.n0 ?_)))))));refine LGo.keep ((7,(true,.b false))::(6,(true,.ptr 7 0))::(17,(true,.agg ((⟨[],false⟩:Fd).c.map LV.sv)))::(18,(true,.b false))::[(2,(true,.ptr 0 0)),(3,(true,.ptr 1 0)),(4,(true,.ptr 2 0)),(5,(true,.ptr 3 0)),(16,(true,.fn (.func 220) [] [.ptr 4 0]))]) ((7,.box 73 ((⟨[],false⟩:Fd).c.map LV.sv))::[(0,.box 68 [.v (.slice none 0 0)]),(1,.box 32 [.i 0]),(2,.bx 68 [.v undef] 0 73 2 ((fs.take fs.length).map Fd.c)),(3,.box 4 [.b (dr (fs.take fs.length))]),(4,.box 9 [.t s]),(5,.raw (.deferred (some []))),(6,.loop fn Tryz.f154.ntmps [(2,(true,.ptr 0 0)),(3,(true,.ptr 1 0)),(4,(true,.ptr 2 0)),(5,(true,.ptr 3 0)),(16,(true,.fn (.func 220) [] [.ptr 4 0]))] #[17,18] _ bc .ready none)]) (by repeat (first|exact trivial|refine⟨rfl,?_⟩)) (by repeat (first|exact trivial|refine⟨rfl,?_⟩)) ?_;exact LGo.done (fun cx a w hr=>⟨rfl,cx,hr⟩);intro l B' hA' hmd';subst hbc;refine .block (.seq (.seq (.region rfl (ae (h:=bd (h:=.n0 ?_))))));refine aj (ht:=fun hc4=>?_) (hf:=fun hc4=>by simp at hc4);refine .seq (.region rfl (aA rn (h:=aA xR (h:=.n0 (aS 0 0 73 2 (h:=LGo.frzBx 0 (h:=?_)))))));refine LGo.drop 7 (fun o h=>(hA' o).1 h) (by omega) [] ((6,.loop fn Tryz.f154.ntmps [(2,(true,.ptr 0 0)),(3,(true,.ptr 1 0)),(4,(true,.ptr 2 0)),(5,(true,.ptr 3 0)),(16,(true,.fn (.func 220) [] [.ptr 4 0]))] #[17,18] ac _ .busy none)::(5,.raw (.deferred (some [])))::[(0,.box 68 [.sv (.sl 2 [])]),(1,.box 32 [.i 6]),(2,.bx 68 [.v undef] 0 73 2 ((fs.take fs.length).map Fd.c)),(3,.box 4 [.b (dr (fs.take fs.length))]),(4,.box 9 [.t s])]) trivial (by repeat (first|exact trivial|refine⟨rfl,?_⟩)) (by simp) (by simp[LO.lt,an,LV.lt,aq]) (h:=?_);refine LGo.ret (RoundEnd.ret rfl (fun o z hz hne=>?_) rfl);rcases o with _|_|_|_|_|_|_|o<;>first|exact absurd rfl hne|exact hz
    have hr:=tK (A0:= .box 68 [.v (.slice none 0 0)]) (A1:= .box 32 [.i 0]) (A2:=fun j=>.bx 68 [.v undef] 0 73 2 ((fs.take j).map Fd.c)) (A3:=fun j=>.box 4 [.b (dr (fs.take j))]) (A5:= .raw (.deferred (some []))) (A6:= .loop fn Tryz.f154.ntmps [(2,(true,.ptr 0 0)),(3,(true,.ptr 1 0)),(4,(true,.ptr 2 0)),(5,(true,.ptr 3 0)),(16,(true,.fn (.func 220) [] [.ptr 4 0]))] #[17,18] ac bc .ready none) hlen hfl (fun j m hm=>by simp[LO.lt,an,LV.lt,aq];omega) ⟨fun j hj=>rfl,fun j hj=>by simp[LO.lt,an,LV.lt,aq],fun j hj=>by
     have hj':j<fs.length:=by simpa using hj
     rw[List.getElem_map];exact yg j hj' _ (List.getElem?_eq_getElem hj')⟩ (S2:=[(0,.box 68 [.sv (.sl 2 [])]),(1,.box 32 [.i 6]),(2,.bx 68 [.v undef] 0 73 2 ((fs.take fs.length).map Fd.c)),(3,.box 4 [.b (dr (fs.take fs.length))]),(4,.box 9 [.t s]),(5,.raw (.deferred (some []))),(6,.loop fn Tryz.f154.ntmps [(2,(true,.ptr 0 0)),(3,(true,.ptr 1 0)),(4,(true,.ptr 2 0)),(5,(true,.ptr 3 0)),(16,(true,.fn (.func 220) [] [.ptr 4 0]))] #[17,18] ac bc .done (some .ret))]) rfl (by simp[LO.lt,an,LV.lt,aq]) yl
    exact hr
   rw[show cV s=([],6)from by unfold cV;rw[if_neg hc,if_neg hc2,hfl,if_pos rfl]];exact(fK (by rfl) (kZ Tryz.results154 rn xR hA hmd))
theorem oZ(s:List UInt8):PC Tryz.prog 154 [.t s] (.tup [.sv (.sl 2 ((cV s).1.map Fd.c)),.i (cV s).2]):=by
 obtain⟨fs,ok,h⟩:∃fs ok,cE (s.length+1) s=(fs,ok):=⟨_,_,rfl⟩;cases ok
 exact zt s h;exact BU s h
def cd(c:UInt8):Bool:=decide (48≤c.toNat)&&decide (c.toNat≤57)
def ib(s:List UInt8):Bool:=
 let t:=if 1<s.length∧(s.headD 0).toNat=45∧((s.drop 1).headD 0).toNat≠48 then s.drop 1 else s
 if t=[]∨(1<t.length∧(t.headD 0).toNat=48)then false else t.all cd
theorem C1(c:UInt8):PC Tryz.prog 218 [.y c.toNat] (.b (cd c)):=by
 refine⟨LC.of_go Tryz.func218 (c:=_) rfl (by kernel_rfl) (by rw[Tryz.ntmps218];simp) rfl rfl (by simp[LO.lt,an,LV.lt,aq]) (by simp) ?_⟩;intro B hA hmd;rw[show cd c=(decide ((c.toNat:Int)≥48)&&decide ((c.toNat:Int)≤57))from by rw[Bool.eq_iff_iff];simp[cd];omega];refine .seq (.region rfl (aa (h:=.n0 (.seq (.region rfl (ae (h:=ah (bh _ _ _ _ _ _) (h:=ae (h:=ae (h:=ah (cb _ _ _ _ _ _) (h:=aT (h:=aa (h:=.n0 ?_)))))))))))));exact LGo.ret (ax Tryz.results218 hA hmd)
def di(t:List UInt8):Bool:=if t=[]∨(1<t.length∧(t.headD 0).toNat=48)then false else t.all cd
theorem vE{s:List UInt8}(h:1<s.length∧(s.headD 0).toNat=45∧((s.drop 1).headD 0).toNat≠48):ib s=di (s.drop 1):=by unfold ib di;simp only[if_pos h]
theorem p8{s:List UInt8}(h:¬(1<s.length∧(s.headD 0).toNat=45∧((s.drop 1).headD 0).toNat≠48)):ib s=di s:=by unfold ib di;simp only[if_neg h]
theorem IK{s:List UInt8}(h:0<s.length):s[Int.toNat 0]?=some (s.headD 0):=by cases s with|nil=>simp at h|cons a r=>rfl
theorem tI(s p:List UInt8):PC Tryz.prog 227 [.t s,.t p] (.t (Lib.trimPrefix s p)):=
 cL (Entr.of Tryz.func227 rfl (by kernel_rfl)) (by simp[an,LV.lt]) fun cx w vs hl ham hv=>by
  obtain⟨v1,v2,rfl,h2,h3⟩:∃v1 v2,vs=[v1,v2]∧V cx w (.t s) v1∧V cx w (.t p) v2:=by
   simp only[Vs]at hv;obtain⟨v1,r1,rfl,h1,v2,r2,rfl,h2,rfl⟩:=hv;exact⟨_,_,rfl,h1,h2⟩
  rw[h2.val,h3.val];refine(Tryz.strings_TrimPrefix ⟨s.toArray⟩ ⟨p.toArray⟩ w).mono ?_;rintro e w' ⟨rfl,rfl⟩;exact⟨rfl,rfl,rfl,rfl,Nat.le_refl _,fun _ _=>rfl⟩
def fk:List UInt8:=[48,49,50,51,52,53,54,55,56,57]
theorem BT(s:List UInt8)(hs:s.length≤100000):PC Tryz.prog 210 [.t s,.t fk] (.t (Lib.trimS s fk)):=by
 generalize hp:fk=p;exact cL (Entr.of Tryz.func210 rfl (by kernel_rfl)) (by simp[an,LV.lt]) fun cx w vs hl ham hv=>by
  obtain⟨v1,v2,rfl,h2,h3⟩:∃v1 v2,vs=[v1,v2]∧V cx w (.t s) v1∧V cx w (.t p) v2:=by
   simp only[Vs]at hv;obtain⟨v1,r1,rfl,h1,v2,r2,rfl,h2,rfl⟩:=hv;exact⟨_,_,rfl,h1,h2⟩
  rw[h2.val,h3.val];refine(Any.strings_Trim_laid mF (by kernel_rfl) ⟨s.toArray⟩ ⟨p.toArray⟩ w (by show s.toArray.size≤_;simp;omega) (by rw[←hp];decide) (by rw[←hp];exact ascii_of_all (by decide))).mono ?_;rintro e w' ⟨rfl,hb⟩;exact⟨rfl,hb⟩
theorem kQ(c:UInt8):fk.contains c=cd c:=kX (p:=fun c=>fk.contains c=cd c) (by decide+kernel) c
theorem tB{p:UInt8→Bool}:∀{l:List UInt8} {a:UInt8} {r:List UInt8},l.dropWhile p=a::r→p a=false
 |[],a,r,h=>by simp at h
 |b::l,a,r,h=>by
  rw[List.dropWhile_cons]at h;cases hb:p b with
  |true=>rw[hb]at h;exact tB h
  |false=>rw[hb]at h;simp at h;rw[←h.1];exact hb
theorem BS(t:List UInt8):Lib.trimS t fk=[]↔t.all cd=true:=by
 have h:∀l:List UInt8,l.dropWhile (fk.contains ·)=[]↔l.all cd=true:=by
  intro l;induction l with
  |nil=>simp
  |cons a l ih=>
   rw[List.dropWhile_cons,List.all_cons,kQ];cases cd a
   simp;simpa using ih
 unfold Lib.trimS Lib.trimLeftS Lib.trimRightS;rw[h];constructor;intro h1;have h2:(t.reverse.dropWhile (fk.contains ·))=[]:=by
  cases h3:t.reverse.dropWhile (fk.contains ·)with
  |nil=>rfl
  |cons a l=>
   exfalso;have h4:fk.contains a=false:=tB h3;rw[kQ]at h4;rw[h3]at h1;simp[h4]at h1
 rw[h]at h2;simpa using h2;intro h1;have h2:t.reverse.dropWhile (fk.contains ·)=[]:=by rw[h];simpa using h1
 rw[h2];rfl
def za(s:List UInt8):Bool:=if Lib.trimPrefix s [45]=[]∨Lib.trimS (Lib.trimPrefix s [45]) fk≠[]then false else(!decide ((((Lib.trimPrefix s [45]).headD 0).toNat:Int)=48))||decide (s=[48])
theorem q8(s:List UInt8):(Lib.trimPrefix s [45]).length≤s.length:=by unfold Lib.trimPrefix;split<;>simp
theorem oB(s:List UInt8)(hs:s.length≤100000):PC Tryz.prog 191 [.t s] (.b (za s)):=by
 refine⟨LC.of_go Tryz.func191 (c:=_) rfl (by kernel_rfl) (by rw[Tryz.ntmps191];simp) rfl rfl (by simp[LO.lt,an,LV.lt,aq]) (by simp) ?_⟩;intro B hA hmd;refine .seq (.region rfl (aa (h:=.n0 (.seq (.region rfl (ae (h:=ai (es:=[_,_]) (fun _=>tI s [45]) (h:=aa (h:=.n0 (.seq (.seq (.region rfl (ae (h:=?_))))))))))))));refine ah (bH _ _ _ _ _) (h:=ae (h:=ae (h:=ai (es:=[_,_]) (fun _=>BT (Lib.trimPrefix s [45]) (by have:=q8 s;omega)) (h:=ah (cj _ _ _ _ _) (h:=aX (h:=.n0 ?_))))));refine aj (ht:=fun hc=>?_) (hf:=fun hc=>?_);rw[show za s=false from by unfold za;exact if_pos (by simp only[Bool.or_eq_true,Bool.not_eq_true',decide_eq_true_eq,decide_eq_false_iff_not]at hc;exact hc)];refine .seq (.region rfl (aa (h:=.n0 ?_)));exact LGo.ret (ax Tryz.results191 hA hmd);have hn:¬(Lib.trimPrefix s [45]=[]∨Lib.trimS (Lib.trimPrefix s [45]) fk≠[]):=by simp only[Bool.or_eq_false_iff,Bool.not_eq_false',decide_eq_true_eq,decide_eq_false_iff_not]at hc;rintro(h|h);exact hc.1 h;exact h hc.2
 have hd:za s=((!decide ((((Lib.trimPrefix s [45]).headD 0).toNat:Int)=48))||decide (s=[48])):=if_neg hn;have h0:0<(Lib.trimPrefix s [45]).length:=List.length_pos_iff.2 (fun h=>hn (.inl h));rw[hd];refine .skip (.seq (.region rfl (ae (h:=bu Tryz.runUnderlying9 (c:=(Lib.trimPrefix s [45]).headD 0) (hj:=fun hg=>⟨by omega,IK h0⟩) (h:=ah (aC _ _ _ _ _ _) (h:=ae (h:=ae (h:=ah (bH _ _ _ _ _) (h:=aX (h:=aa (h:=.n0 ?_)))))))))));exact LGo.ret (ax Tryz.results191 hA hmd)
theorem HW(s:List UInt8):Lib.trimPrefix s [45]=if s.head?=some 45 then s.drop 1 else s:=by
 cases s with
 |nil=>rfl
 |cons a r=>
  by_cases h:a=45;subst h;rfl;have h2:¬(45:UInt8)=a:=fun e=>h e.symm;simp[Lib.trimPrefix,Lib.hasPrefix,h,h2,List.isPrefixOf]
theorem vC(s:List UInt8):za s=ib s:=by
 have e45:∀c:UInt8,c.toNat=45↔c=45:=fun c=>⟨fun h=>UInt8.toNat.inj h,fun h=>by rw[h];rfl⟩;have e48:∀c:UInt8,c.toNat=48↔c=48:=fun c=>⟨fun h=>UInt8.toNat.inj h,fun h=>by rw[h];rfl⟩;unfold za ib;rw[HW];simp only[ne_eq,BS]
 match s with
 |[]=>rfl
 |[a]=>
  by_cases h:a=45;subst h;decide+kernel;have h2:¬a.toNat=45:=fun e=>h ((e45 a).1 e);by_cases hd:cd a=true;simp[h,h2,hd];by_cases h3:a=48;subst h3;simp;have:¬((a.toNat:Nat):Int)=48:=fun e=>h3 ((e48 a).1 (by omega));simp[this];simp[h,h2,hd]
 |a::b::r=>
  have hr:∀c:UInt8,((c.toNat:Nat):Int)=48↔c=48:=fun c=>by rw[←e48];omega
  by_cases h:a=45;subst h;by_cases hb:b=48;subst hb;have:cd 45=false:=by decide+kernel
  simp[this];have hb2:¬b.toNat=48:=fun e=>hb ((e48 b).1 e);have hb3:¬((b.toNat:Nat):Int)=48:=by omega
  by_cases hd:(b::r).all cd=true;simp at hd;simp[hb2,hb3,hd];have h9:r.all cd=true:=by simpa using hd.2
  rw[h9];simp;exact hd.2;simp at hd;simp[hb2,hb3];grind;have h2:¬a.toNat=45:=fun e=>h ((e45 a).1 e);by_cases ha:a=48;subst ha;simp;have ha2:¬a.toNat=48:=fun e=>ha ((e48 a).1 e);have ha3:¬((a.toNat:Nat):Int)=48:=by omega
  by_cases hd:(a::b::r).all cd=true;simp at hd;simp[h,h2,ha2,ha3,hd];grind;simp at hd;simp[h,h2,ha2,ha3];grind
theorem uX(c:UInt8):PC Tryz.prog 146 [.y c.toNat] (.b (bU c)):=by
 refine⟨LC.of_go Tryz.func146 (c:=_) rfl (by kernel_rfl) (by rw[Tryz.ntmps146];simp) rfl rfl (by simp[LO.lt,an,LV.lt,aq]) (by simp) ?_⟩;intro B hA hmd;rw[qx];refine .seq (.region rfl (aa (h:=.n0 (.seq (.region rfl (ae (h:=ah (bh _ _ _ _ _ _) (h:=ae (h:=ae (h:=ah (cb _ _ _ _ _ _) (h:=aT (h:=ae (h:=ae (h:=?_))))))))))))));refine ah (aC _ _ _ _ _ _) (h:=aT (h:=ae (h:=ae (h:=ah (aC _ _ _ _ _ _) (h:=aT (h:=aa (h:=.n0 ?_)))))));exact LGo.ret (ax Tryz.results146 hA hmd)
theorem Bp(n:Nat)(hn:n<16):PC Tryz.prog 184 [.y n] (.y (eQ n).toNat):=by
 refine⟨LC.of_go Tryz.func184 (c:=_) rfl (by kernel_rfl) (by rw[Tryz.ntmps184];simp) rfl rfl (by simp[LO.lt,an,LV.lt,aq]) (by simp) ?_⟩;intro B hA hmd;refine .seq (.region rfl (aa (h:=.n0 (.seq (.region rfl (ae (h:=?_)))))));refine bu Tryz.runUnderlying9 (l:=iI) (c:=eQ n) (hj:=fun _=>⟨by omega,by rw[Int.toNat_natCast];have h1:n<iI.length:=hn;simp[eQ,List.getD,List.getElem?_eq_getElem h1]⟩) (h:=?_);refine aa (h:=.n0 ?_);exact LGo.ret (ax Tryz.results184 hA hmd)
theorem xD(c:UInt8):PC Tryz.prog 147 [.y c.toNat] (.t (aW c)):=by
 refine⟨LC.of_go Tryz.func147 (c:=_) rfl (by kernel_rfl) (by rw[Tryz.ntmps147];simp) rfl rfl (by simp[LO.lt,an,LV.lt,aq]) (by simp) ?_⟩;intro B hA hmd;have hcl:=c.toNat_lt;refine .seq (.region rfl (aa (h:=.n0 (.seq (.block (.seq (.region rfl (ae (h:=ai (es:=[_]) (fun _=>uX c) (h:=aa (h:=.n0 ?_)))))))))));refine aj (ht:=fun hc=>?_) (hf:=fun hc=>?_);have he:aW c=[c]:=by unfold aW;rw[if_pos hc]
 rw[he];refine .seq (.region rfl (ae (h:=bE dm (aL [c]) (xs:=[_]) (es:=[_]) (hcs:=CellsOfs.cons (CellsOf.one rfl) CellsOfs.nil) (h:=cn Tryz.underlying52 Tryz.underlying5 Tryz.underlying9 (h:=aa (h:=.n0 ?_))))));exact LGo.ret (ax Tryz.results147 hA hmd);have hp:¬bU c=true:=by rw[hc];simp
 refine .seq (.region rfl (ae (h:=ah (av _ _ _ _ _ _) (h:=aa (h:=.n0 ?_)))));refine ao (ht:=fun hc2=>?_) (hf:=fun hc2=>?_);obtain rfl:c=34:=UInt8.toNat.inj (show c.toNat=34 by omega);rw[show aW 34=[92,34]from by decide+kernel];refine .seq (.region rfl (aa (h:=.n0 ?_)));exact LGo.ret (ax Tryz.results147 hA hmd);refine .seq (.region rfl (ae (h:=ah (av _ _ _ _ _ _) (h:=aa (h:=.n0 ?_)))));refine ao (ht:=fun hc3=>?_) (hf:=fun hc3=>?_);obtain rfl:c=92:=UInt8.toNat.inj (show c.toNat=92 by omega);rw[show aW 92=[92,92]from by decide+kernel];refine .seq (.region rfl (aa (h:=.n0 ?_)));exact LGo.ret (ax Tryz.results147 hA hmd);refine .seq (.region rfl (ae (h:=ah (av _ _ _ _ _ _) (h:=aa (h:=.n0 ?_)))));refine ao (ht:=fun hc4=>?_) (hf:=fun hc4=>?_);obtain rfl:c=10:=UInt8.toNat.inj (show c.toNat=10 by omega);rw[show aW 10=[92,110]from by decide+kernel];refine .seq (.region rfl (aa (h:=.n0 ?_)));exact LGo.ret (ax Tryz.results147 hA hmd);refine .seq (.region rfl (ae (h:=ah (av _ _ _ _ _ _) (h:=aa (h:=.n0 ?_)))));refine ao (ht:=fun hc5=>?_) (hf:=fun hc5=>?_);obtain rfl:c=13:=UInt8.toNat.inj (show c.toNat=13 by omega);rw[show aW 13=[92,114]from by decide+kernel];refine .seq (.region rfl (aa (h:=.n0 ?_)));exact LGo.ret (ax Tryz.results147 hA hmd);refine .seq (.region rfl (ae (h:=ah (av _ _ _ _ _ _) (h:=aa (h:=.n0 ?_)))));refine ao (ht:=fun hc6=>?_) (hf:=fun hc6=>?_);obtain rfl:c=9:=UInt8.toNat.inj (show c.toNat=9 by omega);rw[show aW 9=[92,116]from by decide+kernel];refine .seq (.region rfl (aa (h:=.n0 ?_)));exact LGo.ret (ax Tryz.results147 hA hmd);have hesc:dy c=0:=by unfold dy;rw[if_neg (by omega),if_neg (by omega),if_neg (by omega),if_neg (by omega),if_neg (by omega)]
 have he:aW c=[92,120,eQ (c.toNat/16),eQ (c.toNat%16)]:=by unfold aW;rw[if_neg hp,if_neg (by rw[hesc];simp)]
 rw[he];refine .skip (.inBlock (.seq (.region rfl (ae (h:=uv (h:=ai (es:=[_]) (fun _=>Bp (c.toNat/16) (by omega)) (h:=ae (h:=AX (h:=ai (es:=[_]) (fun _=>Bp (c.toNat%16) (by omega)) (h:=bE dm (aL [eQ (c.toNat/16),eQ (c.toNat%16)]) (xs:=[_,_]) (es:=[_,_]) (hcs:=CellsOfs.cons (CellsOf.one rfl) (CellsOfs.cons (CellsOf.one rfl) CellsOfs.nil)) (h:=cn Tryz.underlying52 Tryz.underlying5 Tryz.underlying9 (h:=ah (aN _ _ _ [92,120] [eQ (c.toNat/16),eQ (c.toNat%16)] (by simp)) (h:=aa (h:=?_))))))))))))));refine .n0 ?_;exact LGo.ret (ax Tryz.results147 hA hmd)
theorem Fk(s:List UInt8)(hs:s.length≤100000):PC Tryz.prog 90 [.t s] (.b (de s)):=by
 refine⟨LC.of_go Tryz.func90 (c:=_) rfl (by kernel_rfl) (by rw[Tryz.ntmps90];simp) rfl rfl (by simp[LO.lt,an,LV.lt,aq]) (by simp) ?_⟩;intro B hA hmd;refine .seq (.region rfl (aa (h:=.n0 (.seq (.seq (.region rfl (aa (h:=.n0 (.block (.loop ?_))))))))));refine ay (σ:=Nat) (fun x=>x≤s.length∧de s=((s.drop x).all (fun c=>bU c&&!decide (c.toNat=32))&&!decide (s=[]))) (fun x=>[(3,(true,.i (x:Nat)))]) (fun x=>[]) (fun x=>s.length-x) (0) [(0,_)] ⟨Nat.zero_le _,rfl⟩ (by repeat (first|exact trivial|refine⟨rfl,?_⟩)) (by repeat (first|exact trivial|refine⟨rfl,?_⟩)) (by repeat (first|exact trivial|refine⟨rfl,?_⟩)) ?_;rintro k ⟨hk,hq⟩ ih;refine .seq (.seq (.region rfl (ae (h:=ae (h:=bC Tryz.runUnderlying9 (h:=ah (au _ _ _ _ _ _) (h:=.n0 ?_)))))));refine ao (ht:=fun hc=>?_) (hf:=fun hc=>?_);have hlt:k<s.length:=by omega
 have hx:s[((k:Nat):Int).toNat]?=some s[k]:=by rw[Int.toNat_natCast];exact List.getElem?_eq_getElem hlt
 have hd:s.drop k=s[k]::s.drop (k+1):=List.drop_eq_getElem_cons hlt;rw[hd,List.all_cons]at hq;generalize s[k]=c at hx hq;clear hd;refine .skip (.seq (.block (.seq (.region rfl (ae (h:=ae (h:=bu Tryz.runUnderlying9 (hj:=fun hg=>⟨by omega,hx⟩) (h:=ai (es:=[_]) (fun _=>uX c) (h:=bd (h:=ae (h:=ae (h:=ae (h:=bu Tryz.runUnderlying9 (hj:=fun hg=>⟨by(simp at hg;omega),hx⟩) (h:=?_))))))))))))));refine ah (av _ _ _ _ _ _) (h:=aX (h:=.n0 ?_));refine aj (ht:=fun hc2=>?_) (hf:=fun hc2=>?_);rw[show de s=false from by rw[hq];cases hp:bU c<;>simp[hp]at hc2⊢;omega];refine .seq (.region rfl (aa (h:=.n0 ?_)));exact LGo.ret (ax Tryz.results90 hA hmd);have he:(bU c&&!decide (c.toNat=32))=true:=by cases hp:bU c<;>simp[hp]at hc2⊢;omega
 rw[he,Bool.true_and]at hq;refine .skip (.inBlock (.region rfl (ae (h:=aG (h:=aa (h:=.n0 (.inLoop ?_)))))));exact LGo.next _ (fun o h=>by have:=(hA o).1 h;omega) (by omega) (ih (k+1) ⟨by omega,hq⟩ (by omega)) (by repeat (first|exact trivial|refine⟨rfl,?_⟩)) (by repeat (first|exact trivial|refine⟨rfl,?_⟩));rw[List.drop_eq_nil_of_le (by omega)]at hq;rw[hq];refine .exit rfl (.seq (.region rfl (ae (h:=bC Tryz.runUnderlying9 (h:=ah (aJ _ _ _ _ _ _) (h:=?_))))));rw[show decide ((s.length:Int)>0)=!decide (s=[])from by cases s with|nil=>rfl|cons a r=>exact(decide_eq_true (by rw[List.length_cons];omega)).trans rfl];refine aa (h:=.n0 ?_);exact LGo.ret (ax Tryz.results90 hA hmd)
section
open Go.RowKit Go.Sort Go.Lib Go.Shelf
set_option maxHeartbeats 6400000 in
set_option maxRecDepth 100000 in
theorem rC(u:Nat)(hu64:u<18446744073709551616)(w:World)(htab:Lib.TabIs Tryz.prog w "internal/strconv.uint64pow10" .u64 Lib.pow10Tab):
 Calls Tryz.prog 141 #[.int .u64 u,.int .i64 10] w fun e w'=>e= .returned (.string ⟨(Lib.decDigits u).toArray⟩)∧∃k os,w'=grow (w.drewN k) os:=by
 have mixed:=(by kernel_rfl:Tryz.prog.follows .mixedOrders=true);have t9:=Tryz.underlying9;have a9:=Tryz.isAgg9;have z9:=Tryz.sizeOf9;have v9:=Tryz.zeroValue9;have t4:=Tryz.underlying4;have a4:=Tryz.isAgg4;have z4:=Tryz.sizeOf4;have v4:=Tryz.zeroValue4;have t22:=Tryz.underlying55;have a22:=Tryz.isAgg55;have z22:=Tryz.sizeOf55;have v22:=Tryz.zeroValue55;have t3:=Tryz.underlying3;have a3:=Tryz.isAgg3;have z3:=Tryz.sizeOf3;have v3:=Tryz.zeroValue3;have t5:=Tryz.underlying5;have a5:=Tryz.isAgg5;have z5:=Tryz.sizeOf5;have v5:=Tryz.zeroValue5;have t28:=Tryz.underlying52;have a28:=Tryz.isAgg52;have z28:=Tryz.sizeOf52;have v28:=Tryz.zeroValue52;have t138:=Tryz.underlying233;have a138:=Tryz.isAgg233;have z138:=Tryz.sizeOf233;have v138:=Tryz.zeroValue233;have e93:∀args w,(callFunc 166 args).run Tryz.prog w= .ok (.enter 166 args) w:=enters_of Tryz.func166 (by kernel_rfl) rfl;have e94:∀args w,(callFunc 167 args).run Tryz.prog w= .ok (.enter 167 args) w:=enters_of Tryz.func167 (by kernel_rfl) rfl;have e95:∀args w,(callFunc 168 args).run Tryz.prog w= .ok (.enter 168 args) w:=enters_of Tryz.func168 (by kernel_rfl) rfl;by_cases hs:u<100
 go_enter Tryz.func141,Tryz.ntmps141
 go_wp2_with (go_at_fn 166;refine(Tryz.internal_strconv_small u hs _).mono ?_;rintro e w' ⟨rfl,rfl⟩)
 go_ret
 exact⟨rfl,0,#[],by simp[World.drewN_zero]⟩;have hu1:1≤u:=by omega
 have hnd20:Lib.nDigits u≤20:=by have:=Lib.numDigits_eq u hu1 hu64;split at this<;>omega
 have hal:Tryz.prog.arrayLen 233=24:=by simp[Program.arrayLen,t138]
 have hsl1:∀W,(Instr.sliceAt 233 (.pointer (some ⟨w.heap.size,0,none⟩)) none (some (.int .i64 (Lib.nDigits u:Int))) none).run Tryz.prog W= .ok (.slice (some ⟨w.heap.size,0,none⟩) (Lib.nDigits u) 24) W:=fun W=>by
  rw[run_sliceAt_array_h W 233 ⟨w.heap.size,0,none⟩ (by simp[Program.arrayLen,Program.elem,t138]) .i64 (Lib.nDigits u:Int) (by omega) (by rw[hal];omega)]
  go_simp
 have hH0:=Lib.holds_zero0 w 233 (Lib.nDigits u) (by omega);have hfmt:=Tryz.internal_strconv_formatBase10 w.heap.size 0 24 u (Array.replicate (Lib.nDigits u) 0) (w.alloc (.cells Lib.zeros24 233)) hH0 (by rw[Array.size_replicate];exact Lib.lt_pow_nDigits u) hu64 (by rw[Array.size_replicate];omega);rw[Array.size_replicate]at hfmt;have HH0:=Lib.hid hH0;clear hH0 hal
 go_enter Tryz.func141,Tryz.ntmps141
 go_wp2_with (first
  |(go_at_fn 167;refine(Tryz.internal_strconv_numDigits u hu1 hu64 _ (Lib.tabIs_alloc htab _)).mono ?_;rintro e w' ⟨rfl,rfl⟩))
 go_at_fn 168
 refine hfmt.mono ?_;rintro e w' ⟨rfl,k,v',dk,rfl,hF⟩;have hcv:(convert 52 9 (.slice (some ⟨w.heap.size,0,none⟩) (Lib.nDigits u) 24)).run Tryz.prog ((putRow (fun(b:UInt8)=>Value.int .u8 (b.toNat:Int)) (w.alloc (.cells Lib.zeros24 233)) w.heap.size 0 dk).drewN k)= .ok (.string ⟨(Lib.decDigits u).toArray⟩) ((putRow (fun(b:UInt8)=>Value.int .u8 (b.toNat:Int)) (w.alloc (.cells Lib.zeros24 233)) w.heap.size 0 dk).drewN k):=by
  have h:=run_convert_bytes_back (P:=Tryz.prog) ((putRow (fun(b:UInt8)=>Value.int .u8 (b.toNat:Int)) (w.alloc (.cells Lib.zeros24 233)) w.heap.size 0 dk).drewN k) 52 9 5 ⟨w.heap.size,0,none⟩ 24 (Lib.decDigits u) t28 t5 t9 (fun j hj=>by
   rw[Lib.row_is_numeral hF j hj,Lib.add_plain,World.cell?_drewN];exact cell?_putRow (fun(b:UInt8)=>Value.int .u8 (b.toNat:Int)) _ w.heap.size 0 _ dk HH0.out (by rw[hF.size,Array.size_replicate]) j (by rw[hF.size];rw[Lib.decDigits_length]at hj;exact hj))
  rw[Lib.decDigits_length]at h;exact h
 go_wp2
 go_ret
 obtain⟨os,eo⟩:=Lib.fin_at w (.cells Lib.zeros24 233) dk k 0;exact⟨rfl,k,os,eo⟩
end
theorem AP{pr:Nat→Nat}{w:World}(h:Amb pr w):Lib.TabIs Tryz.prog w "internal/strconv.uint64pow10" .u64 Lib.pow10Tab:=by
 obtain⟨_,T,fr,hb⟩:=h.1 (3,Lib.pow10Tab.map (Value.int .u64)) (by simp[oL]);unfold Lib.TabIs World.var?;rw[show Tryz.prog.globalNamed "internal/strconv.uint64pow10" =some 3 from by kernel_rfl];dsimp only at hb;simp only[Option.bind_some,hb]
theorem GP(n:Int)(h0:0≤n)(h1:n<18446744073709551616):PC Tryz.prog 141 [.u n,.i 10] (.t (Lib.decDigits n.toNat)):=
 cL (Entr.of Tryz.func141 rfl (by kernel_rfl)) (by simp[an,LV.lt]) fun cx w vs hl ham hv=>by
  obtain⟨v1,v2,rfl,h2,h3⟩:∃v1 v2,vs=[v1,v2]∧V cx w (.u n) v1∧V cx w (.i 10) v2:=by
   simp only[Vs]at hv;obtain⟨v1,r1,rfl,h1,v2,r2,rfl,h2,rfl⟩:=hv;exact⟨_,_,rfl,h1,h2⟩
  rw[h2.val,h3.val];obtain⟨u,rfl⟩:∃u:Nat,n=u:=⟨n.toNat,by omega⟩;rw[Int.toNat_natCast];refine(rC u (by omega) w (AP ham)).mono ?_;rintro e w' ⟨rfl,k,os,rfl⟩;exact⟨rfl,⟨rfl,rfl,rfl,by rw[Go.Sort.size_grow];exact Nat.le_add_right _ _,fun b hb=>Go.Sort.heap_grow_old _ _ hb⟩⟩
theorem mC(n:Int)(h0:0≤n)(h1:n<18446744073709551616):PC Tryz.prog 80 [.u n,.i 10] (.t (Lib.decDigits n.toNat)):=by
 refine⟨LC.of_go Tryz.func80 (c:=_) rfl (by kernel_rfl) (by rw[Tryz.ntmps80];simp) rfl rfl (by simp[LO.lt,an,LV.lt,aq]) (by simp) ?_⟩;intro B hA hmd;refine .seq (.region rfl (aa (h:=.n0 (.seq (.region rfl (ae (h:=ae (h:=ai (es:=[_,_]) (fun _=>GP n h0 h1) (h:=aa (h:=.n0 ?_))))))))));exact LGo.ret (ax Tryz.results80 hA hmd)
def aY(a:Nat)(l:List UInt8):Nat:=l.foldl (fun a c=>a*10+(c.toNat-48)) a
theorem uC(l:List UInt8):∀a,a≤aY a l:=by
 induction l with
 |nil=>intro a;exact Nat.le_refl _
 |cons c l ih=>intro a;have:=ih (a*10+(c.toNat-48));unfold aY at this⊢;rw[List.foldl_cons];omega
theorem lz:∀(l:List UInt8) (a:Nat),l.all cd=true→a<18446744073709551616→Lib.parseUintM 18446744073709551615 a l=if 18446744073709551616≤aY a l then .range else .ok (aY a l)
 |[],a,_,ha=>by rw[Lib.parseUintM,if_neg (by show¬_≤a;omega)];rfl
 |c::l,a,h,ha=>by
  rw[List.all_cons,Bool.and_eq_true]at h;have hc:48≤c.toNat∧c.toNat≤57:=by have:=h.1;unfold cd at this;simpa using this
  rw[Lib.parseUintM,if_pos hc];have hv:aY a (c::l)=aY (a*10+(c.toNat-48)) l:=rfl;have hle:=uC l (a*10+(c.toNat-48));rw[hv];by_cases h1:1844674407370955162≤a;rw[if_pos h1,if_pos (by omega)];rw[if_neg h1];by_cases h2:18446744073709551615<a*10+(c.toNat-48);rw[if_pos h2,if_pos (by omega)];rw[if_neg h2];exact lz l _ h.2 (by omega)
def jF(s:List UInt8):Int:=if(s.headD 0).toNat=45 then-(aY 0 (s.drop 1):Nat)else(aY 0 s:Nat)
def AA(n:Int):Bool:=decide (-9223372036854775808≤n∧n≤9223372036854775807)
theorem vD{t:List UInt8}(h:di t=true):t≠[]∧t.all cd=true:=by
 unfold di at h;split at h;cases h
 rename_i h2;exact⟨fun e=>h2 (.inl e),h⟩
theorem vB{c:UInt8}(h:cd c=true):¬c.toNat=45∧¬c.toNat=43:=by unfold cd at h;simp at h;omega
theorem mw{s:List UInt8}(h:ib s=true):Lib.parseIntB 64 s=if AA (jF s)=true then .ok (jF s)else .range:=by
 by_cases hc:1<s.length∧(s.headD 0).toNat=45∧((s.drop 1).headD 0).toNat≠48;rw[vE hc]at h;obtain⟨h1,h2⟩:=vD h
 match s,hc with
 |a::r,hc=>
  have ha:a.toNat=45:=hc.2.1;rw[List.drop_succ_cons,List.drop_zero]at h1 h2;have hv:jF (a::r)=-(aY 0 r:Nat):=by unfold jF;rw[if_pos (by simpa using ha)];rfl
  have hp:Lib.parseUintB 64 r=if 18446744073709551616≤aY 0 r then .range else .ok (aY 0 r):=by
   unfold Lib.parseUintB;rw[if_neg h1];exact lz r 0 h2 (by omega)
  unfold Lib.parseIntB;simp only[ha,true_or,or_true,if_true,hp,hv,not_true,false_and,true_and,if_false];by_cases h5:18446744073709551616≤aY 0 r;rw[if_pos h5,if_neg (by unfold AA;simp;omega)];rw[if_neg h5];dsimp only;by_cases h6:2^(64-1)<aY 0 r;rw[if_pos h6,if_neg (by unfold AA;simp;omega)];rw[if_neg h6,if_pos (by unfold AA;simp;omega)]
 rw[p8 hc]at h;obtain⟨h1,h2⟩:=vD h
 match s,h1,h2 with
 |a::r,h1,h2=>
  have ha:=vB (by simp at h2;exact h2.1:cd a=true);have hv:jF (a::r)=(aY 0 (a::r):Nat):=by unfold jF;rw[if_neg (by simpa using ha.1)]
  have hp:Lib.parseUintB 64 (a::r)=if 18446744073709551616≤aY 0 (a::r)then .range else .ok (aY 0 (a::r)):=by
   unfold Lib.parseUintB;rw[if_neg h1];exact lz (a::r) 0 h2 (by omega)
  unfold Lib.parseIntB;simp only[ha.1,ha.2,or_self,if_false,hp,hv,not_false_iff,false_and,true_and];generalize aY 0 (a::r)=n;by_cases h5:18446744073709551616≤n;rw[if_pos h5,if_neg (by unfold AA;simp;omega)];rw[if_neg h5];dsimp only;by_cases h6:2^(64-1)≤n;rw[if_pos h6,if_neg (by unfold AA;simp;omega)];rw[if_neg h6,if_pos (by unfold AA;simp;omega)]
def y9(s:List UInt8)(lo hi:Int):Int×Int:=if ib s=false then(0,6)else if AA (jF s)=false∨jF s<lo∨jF s>hi then(0,7)else(jF s,0)
section
open Go.RowKit
theorem xc{pr:Nat→Nat}{w:World}(h:Amb pr w):∃tp p,w.var? Tryz.prog "strconv.ErrRange" =some #[.iface tp p]:=by
 obtain⟨_,T,fr,tp,p,hb⟩:=h.2 9 (by simp[pq]);refine⟨tp,p,?_⟩;unfold World.var?;rw[show Tryz.prog.globalNamed "strconv.ErrRange" =some 9 from by kernel_rfl];simp only[Option.bind_some,hb]
theorem vU(s:List UInt8)(hs:s.length≤100000)(h:ib s=true)(hi:AA (jF s)=true):PC Tryz.prog 192 [.t s,.i 10,.i 64] (.tup [.i (jF s),.v .nilIface]):=
 eN (Entr.of Tryz.func192 rfl (by kernel_rfl)) (by simp[an,LV.lt]) fun cx w vs hl ham hv=>by
  obtain⟨v1,v2,v3,rfl,h1,h2,h3⟩:∃v1 v2 v3,vs=[v1,v2,v3]∧V cx w (.t s) v1∧V cx w (.i 10) v2∧V cx w (.i 64) v3:=by
   simp only[Vs]at hv;obtain⟨v1,r1,rfl,h1,v2,r2,rfl,h2,v3,r3,rfl,h3,rfl⟩:=hv;exact⟨_,_,_,rfl,h1,h2,h3⟩
  rw[h1.val,h2.val,h3.val];have hp:=mw h;rw[if_pos hi]at hp;refine(Tryz.strconv_ParseInt_10_at64_ok ⟨s.toArray⟩ (by show s.toArray.size≤_;simp;omega) _ hp w).mono ?_;rintro e w' ⟨rfl,hb⟩;have hb:Below w.heap.size w w':=by
   rcases hb with rfl|⟨t,rfl⟩
   exact Below.refl _ _;exact⟨rfl,rfl,rfl,by rw[Lib.bytesWorld_size];omega,fun k hk=>Lib.bytesWorld_at_old w _ _ k hk⟩
  exact⟨_,cx.pr,rfl,hb,fun _ _=>rfl,fun b hb'=>Nat.lt_of_lt_of_le (hl b hb') hb.size,by simp only[V];exact⟨[_,_],rfl,iU aZ (iU aZ s7)⟩⟩
theorem vT(s:List UInt8)(hs:s.length≤100000)(h:ib s=true)(hi:AA (jF s)=false):PC Tryz.prog 192 [.t s,.i 10,.i 64] (.tup [.i (Lib.intSat 64 s),.pv I6]):=
 eN (Entr.of Tryz.func192 rfl (by kernel_rfl)) (by simp[an,LV.lt]) fun cx w vs hl ham hv=>by
  obtain⟨v1,v2,v3,rfl,h1,h2,h3⟩:∃v1 v2 v3,vs=[v1,v2,v3]∧V cx w (.t s) v1∧V cx w (.i 10) v2∧V cx w (.i 64) v3:=by
   simp only[Vs]at hv;obtain⟨v1,r1,rfl,h1,v2,r2,rfl,h2,v3,r3,rfl,h3,rfl⟩:=hv;exact⟨_,_,_,rfl,h1,h2,h3⟩
  rw[h1.val,h2.val,h3.val];have hp:=mw h;rw[if_neg (by rw[hi];simp)]at hp;obtain⟨tp,p,hvar⟩:=xc ham;refine(Tryz.strconv_ParseInt_10_at64_range_var ⟨s.toArray⟩ (by show s.toArray.size≤_;simp;omega) hp tp p w hvar).mono ?_;rintro e w' ⟨N,rfl,_,_,hb⟩;exact⟨_,cx.pr,rfl,hb,fun _ _=>rfl,fun b hb'=>Nat.lt_of_lt_of_le (hl b hb') hb.size,by simp only[V];exact⟨[_,_],rfl,iU aZ (iU (Jk ⟨_,_,rfl⟩ rfl) s7)⟩⟩
end
theorem FB(s:List UInt8)(lo hi:Int)(hs:s.length≤100000):PC Tryz.prog 156 [.t s,.i lo,.i hi] (.tup [.i (y9 s lo hi).1,.i (y9 s lo hi).2]):=by
 refine⟨LC.of_go Tryz.func156 (c:=_) rfl (by kernel_rfl) (by rw[Tryz.ntmps156];simp) rfl rfl (by simp[LO.lt,an,LV.lt,aq]) (by simp) ?_⟩;intro B hA hmd;have hd:=vC s;obtain⟨g,e0⟩:∃g,y9 s lo hi=g:=⟨_,rfl⟩;have e1:=e0;unfold y9 at e1;rw[e0];refine .seq (.region rfl (aa (h:=aa (h:=.n0 (.seq (.seq (.region rfl (ae (h:=ai (es:=[_]) (fun _=>oB s hs) (h:=?_))))))))));rw[hd];refine bd (h:=.n0 ?_);refine aj (ht:=fun hc=>?_) (hf:=fun hc=>?_);rw[if_pos (by simpa using hc)]at e1;rw[←e1];refine .seq (.region rfl (aa (h:=aa (h:=.n0 ?_))));exact LGo.ret (aI Tryz.results156 hA hmd);have hdc:ib s=true:=by simpa using hc
 rw[if_neg (by rw[hdc];simp)]at e1;refine .skip (.seq (.region rfl (ae (h:=?_))));cases hin:AA (jF s)
 rw[if_pos (.inl hin)]at e1;rw[←e1];refine ai (es:=[_,_,_]) (fun _=>vT s hs hdc hin) (h:=ae (h:=ak (h:=ak (h:=aa (h:=aa (h:=.n0 (.seq (.seq (.region rfl (ae (h:=Ft (zy Tryz.underlying62 _) (h:=ae (h:=ae (h:=?_))))))))))))));refine ae (h:=ah (au _ _ _ _ _ _) (h:=aX (h:=ae (h:=ae (h:=ae (h:=ah (aJ _ _ _ _ _ _) (h:=aX (h:=.n0 ?_))))))));refine aj (ht:=fun hc2=>?_) (hf:=fun hc2=>by simp at hc2);refine .seq (.region rfl (aa (h:=aa (h:=.n0 ?_))));exact LGo.ret (aI Tryz.results156 hA hmd);refine ai (es:=[_,_,_]) (fun _=>vU s hs hdc hin) (h:=ae (h:=ak (h:=ak (h:=aa (h:=aa (h:=.n0 (.seq (.seq (.region rfl (ae (h:=ah (nb Tryz.underlying62 _) (h:=ae (h:=ae (h:=?_))))))))))))));refine ae (h:=ah (au _ _ _ _ _ _) (h:=aX (h:=ae (h:=ae (h:=ae (h:=ah (aJ _ _ _ _ _ _) (h:=aX (h:=.n0 ?_))))))));refine aj (ht:=fun hc3=>?_) (hf:=fun hc3=>?_);rw[if_pos (.inr (by simpa using hc3))]at e1;rw[←e1];refine .seq (.region rfl (aa (h:=aa (h:=.n0 ?_))));exact LGo.ret (aI Tryz.results156 hA hmd);rw[if_neg (by rw[hin];simpa using hc3)]at e1;rw[←e1];refine .skip (.seq (.region rfl (ae (h:=aa (h:=aa (h:=.n0 ?_))))));exact LGo.ret (aI Tryz.results156 hA hmd)
section
open Go.RowKit
theorem j4(n:Int)(h0:-9223372036854775808≤n)(h1:n≤9223372036854775807):PC Tryz.prog 65 [.i n,.i 10] (.t (Lib.itoa n)):=
 cL (Entr.of Tryz.func65 rfl (by kernel_rfl)) (by simp[an,LV.lt]) fun cx w vs hl ham hv=>by
  obtain⟨v1,v2⟩:∃v1 v2,vs=[v1,v2]∧V cx w (.i n) v1∧V cx w (.i 10) v2:=by
   simp only[Vs]at hv;obtain⟨v1,r1,rfl,h1,v2,r2,rfl,h2,rfl⟩:=hv;exact⟨_,_,rfl,h1,h2⟩
  obtain⟨v2,rfl,h3,h4⟩:=v2;rw[h3.val,h4.val];refine(Tryz.strconv_FormatInt_10 n h0 h1 w (AP ham)).mono ?_;rintro e w' ⟨rfl,k,os,rfl⟩;exact⟨rfl,⟨rfl,rfl,rfl,by rw[Go.Sort.size_grow];exact Nat.le_add_right _ _,fun b hb=>Go.Sort.heap_grow_old _ _ hb⟩⟩
end
theorem s4{n:Nat}(h:n<10):((UInt8.ofNat (48+n)).toNat:Int)=48+n:=by rw[UInt8.toNat_ofNat'];omega
theorem fy:∀(k u:Nat),u<10^k→(Lib.decDigits u).length≤k+1
 |0,u,h=>by rw[Lib.decDigits,dif_pos (by omega)];simp
 |k+1,u,h=>by
  rw[Lib.decDigits];split;simp;have:=fy k (u/10) (by rw[Nat.pow_succ]at h;omega);simp;omega
theorem tu{n:Int}(h0:-9223372036854775808≤n)(h1:n≤9223372036854775807):(Lib.itoa n).length≤22:=by
 unfold Lib.itoa;split;have:=fy 19 n.natAbs (by omega);simp;omega;have:=fy 19 n.toNat (by omega);omega
def mz(n:Int):Nat:=2*n.natAbs+(if n<0 then 1 else 0)
theorem GG{n:Int}(h:n>9):Lib.itoa n=Lib.itoa (n/10)++[UInt8.ofNat (48+(n%10).toNat)]:=by
 unfold Lib.itoa;rw[if_neg (by omega),if_neg (by omega),Lib.decDigits,dif_neg (by omega)];congr 2<;>first|omega|(congr 2;omega)|(congr 1;congr 1;omega)
theorem GH{n:Int}(h:n< -9):Lib.itoa n=Lib.itoa (-(-n/10))++[UInt8.ofNat (48+(-n%10).toNat)]:=by
 unfold Lib.itoa;rw[if_pos (by omega),if_pos (by omega),Lib.decDigits,dif_neg (by omega)];simp only[List.cons_append];congr 3<;>first|omega|(congr 2;omega)|(congr 1;congr 1;omega)
theorem GI{n:Int}(h:n<0):Lib.itoa n=[45]++Lib.itoa (-n):=by
 unfold Lib.itoa;rw[if_pos h,if_neg (by omega),show n.natAbs=(-n).toNat from by omega];rfl
theorem GJ{n:Int}(h:0≤n)(h9:n≤9):Lib.itoa n=[UInt8.ofNat (48+n.toNat)]:=by
 unfold Lib.itoa;rw[if_neg (by omega),Lib.decDigits,dif_pos (by omega)]
theorem tL(n:Int)(h0:-9223372036854775808≤n)(h1:n≤9223372036854775807)(ih:∀q:Int,mz q<mz n→-9223372036854775808≤q→q≤9223372036854775807→PC Tryz.prog 88 [.i q] (.t (Lib.itoa q))):PC Tryz.prog 88 [.i n] (.t (Lib.itoa n)):=by
 refine⟨LC.of_go Tryz.func88 (c:=_) rfl (by kernel_rfl) (by rw[Tryz.ntmps88];simp) rfl rfl (by simp[LO.lt,an,LV.lt,aq]) (by simp) ?_⟩;intro B hA hmd;refine .seq (.region rfl (aa (h:=.n0 (.seq (.seq (.region rfl (ae (h:=ah (aJ _ _ _ _ _ _) (h:=ae (h:=ae (h:=ah (au _ _ _ _ _ _) (h:=aX (h:=.n0 ?_)))))))))))));refine aj (ht:=fun hc=>?_) (hf:=fun hc=>?_);refine .seq (.region rfl ?_);rcases(show n>9∨n< -9 by simpa using hc)with hp|hp
 rw[GG hp];have hle:=tu (n:=n/10) (by omega) (by omega);refine ae (h:=AX (h:=aa (h:=.n0 (.seq (.seq (.region rfl (ae (h:=ah (au _ _ _ _ _ _) (h:=.n0 ?_)))))))));refine aj (ht:=fun hc2=>by simp at hc2;omega) (hf:=fun hc2=>?_);refine .skip (.seq (.region rfl (ae (h:=uv (h:=ai (es:=[_]) (fun _=>ih (n/10) (by unfold mz;(repeat' split)<;>omega) (by omega) (by omega)) (h:=ae (h:=aG (h:=dN Tryz.runUnderlying2 Tryz.runUnderlying5 (h:=?_)))))))));rw[show IntKind.u8.wrap (48+n%10)=((UInt8.ofNat (48+(n%10).toNat)).toNat:Int)from by rw[s4 (by omega),IntKind.wrap_u8];omega];refine bE dm (aL [UInt8.ofNat (48+(n%10).toNat)]) (xs:=[_]) (es:=[_]) (hcs:=CellsOfs.cons (CellsOf.one rfl) CellsOfs.nil) (h:=cn Tryz.underlying52 Tryz.underlying5 Tryz.underlying9 (h:=ah (aN _ _ _ (Lib.itoa (n/10)) [UInt8.ofNat (48+(n%10).toNat)] (by simp;omega)) (h:=aa (h:=Reg.nil ⟨fun _=>⟨aQ,by rfl,by rfl⟩,?_⟩))));exact LGo.ret (ax Tryz.results88 hA hmd);rw[GH hp];have hle:=tu (n:=-(-n/10)) (by omega) (by omega);have htm:Int.tmod n 10=-(-n%10):=by rw[show n=-(-n)from by omega,Int.neg_tmod,Int.tmod_eq_emod_of_nonneg (by omega)];omega
 have htq:Int.tdiv n 10=-(-n/10):=by rw[show n=-(-n)from by omega,Int.neg_tdiv,Int.tdiv_eq_ediv_of_nonneg (by omega)];omega
 refine ae (h:=ah (BY _ _ _ .i64 n 10 (by decide)) (h:=?_));rw[htm];refine aa (h:=.n0 (.seq (.seq (.region rfl (ae (h:=ah (au _ _ _ _ _ _) (h:=.n0 ?_)))))));refine aj (ht:=fun hc3=>?_) (hf:=fun hc3=>?_);refine .region rfl (ae (h:=FJ (h:=?_)));rw[show IntKind.i64.wrap (-(-(-n%10)))=-n%10 from by rw[IntKind.wrap_i64];omega];refine aa (h:=.n0 (.seq (.region rfl (ae (h:=ah (uO _ _ _ .i64 n 10 (by decide) (by rw[htq,IntKind.wrap_i64];omega)) (h:=?_))))));rw[htq];refine ai (es:=[_]) (fun _=>ih (-(-n/10)) (by unfold mz;(repeat' split)<;>omega) (by omega) (by omega)) (h:=ae (h:=aG (h:=dN Tryz.runUnderlying2 Tryz.runUnderlying5 (h:=?_))));rw[show IntKind.u8.wrap (48+-n%10)=((UInt8.ofNat (48+(-n%10).toNat)).toNat:Int)from by rw[s4 (by omega),IntKind.wrap_u8];omega];refine bE dm (aL [UInt8.ofNat (48+(-n%10).toNat)]) (xs:=[_]) (es:=[_]) (hcs:=CellsOfs.cons (CellsOf.one rfl) CellsOfs.nil) (h:=cn Tryz.underlying52 Tryz.underlying5 Tryz.underlying9 (h:=ah (aN _ _ _ (Lib.itoa (-(-n/10))) [UInt8.ofNat (48+(-n%10).toNat)] (by simp;omega)) (h:=aa (h:=Reg.nil ⟨fun _=>⟨aQ,by rfl,by rfl⟩,?_⟩))));exact LGo.ret (ax Tryz.results88 hA hmd);rw[show-(-n%10)=-n%10 from by simp only[Bool.or_eq_true,Bool.and_eq_true,decide_eq_true_eq,Bool.or_eq_false_iff,Bool.and_eq_false_iff,decide_eq_false_iff_not,Bool.not_eq_true',Bool.not_eq_false',Bool.not_eq_true,Bool.not_eq_false,Bool.false_eq_true,Bool.true_eq_false,iff_true,true_iff,iff_false,false_iff]at hc3;omega];refine .skip (.seq (.region rfl (ae (h:=ah (uO _ _ _ .i64 n 10 (by decide) (by rw[htq,IntKind.wrap_i64];omega)) (h:=?_)))));rw[htq];refine ai (es:=[_]) (fun _=>ih (-(-n/10)) (by unfold mz;(repeat' split)<;>omega) (by omega) (by omega)) (h:=ae (h:=aG (h:=dN Tryz.runUnderlying2 Tryz.runUnderlying5 (h:=?_))));rw[show IntKind.u8.wrap (48+-n%10)=((UInt8.ofNat (48+(-n%10).toNat)).toNat:Int)from by rw[s4 (by omega),IntKind.wrap_u8];omega];refine bE dm (aL [UInt8.ofNat (48+(-n%10).toNat)]) (xs:=[_]) (es:=[_]) (hcs:=CellsOfs.cons (CellsOf.one rfl) CellsOfs.nil) (h:=cn Tryz.underlying52 Tryz.underlying5 Tryz.underlying9 (h:=ah (aN _ _ _ (Lib.itoa (-(-n/10))) [UInt8.ofNat (48+(-n%10).toNat)] (by simp;omega)) (h:=aa (h:=Reg.nil ⟨fun _=>⟨aQ,by rfl,by rfl⟩,?_⟩))));exact LGo.ret (ax Tryz.results88 hA hmd);have hs9:n≤9∧-9≤n:=by simp only[Bool.or_eq_true,Bool.and_eq_true,decide_eq_true_eq,Bool.or_eq_false_iff,Bool.and_eq_false_iff,decide_eq_false_iff_not,Bool.not_eq_true',Bool.not_eq_false',Bool.not_eq_true,Bool.not_eq_false,Bool.false_eq_true,Bool.true_eq_false,iff_true,true_iff,iff_false,false_iff]at hc;omega
 refine .skip (.seq (.seq (.region rfl (ae (h:=ah (au _ _ _ _ _ _) (h:=.n0 ?_))))));refine ao (ht:=fun hc4=>?_) (hf:=fun hc4=>?_);rw[GI hc4];have hle:=tu (n:=-n) (by omega) (by omega);refine .seq (.region rfl (ae (h:=FJ (h:=?_))));rw[show IntKind.i64.wrap (-n)=-n from by rw[IntKind.wrap_i64];omega];refine ai (es:=[_]) (fun _=>ih (-n) (by unfold mz;(repeat' split)<;>omega) (by omega) (by omega)) (h:=ah (aN _ _ _ [45] (Lib.itoa (-n)) (by simp;omega)) (h:=aa (h:=.n0 ?_)));exact LGo.ret (ax Tryz.results88 hA hmd);rw[GJ (by omega) hs9.1];refine .skip (.seq (.region rfl (ae (h:=aG (h:=dN Tryz.runUnderlying2 Tryz.runUnderlying5 (h:=?_))))));rw[show IntKind.u8.wrap (48+n)=((UInt8.ofNat (48+(n).toNat)).toNat:Int)from by rw[s4 (by omega),IntKind.wrap_u8];omega];refine bE dm (aL [UInt8.ofNat (48+(n).toNat)]) (xs:=[_]) (es:=[_]) (hcs:=CellsOfs.cons (CellsOf.one rfl) CellsOfs.nil) (h:=cn Tryz.underlying52 Tryz.underlying5 Tryz.underlying9 (h:=aa (h:=.n0 ?_)));exact LGo.ret (ax Tryz.results88 hA hmd)
theorem dx(n:Int)(h0:-9223372036854775808≤n)(h1:n≤9223372036854775807):PC Tryz.prog 88 [.i n] (.t (Lib.itoa n)):=by
 generalize hm:mz n=m;induction m using Nat.strongRecOn generalizing n with
 |ind m ih=>
  subst hm;exact tL n h0 h1 fun q hq g0 g1=>ih (mz q) hq q g0 g1 rfl
theorem wb(c:UInt8):1≤(aW c).length∧(aW c).length≤4:=by unfold aW;repeat' split<;>simp
theorem Cg(s:List UInt8)(hs:s.length≤100000):PC Tryz.prog 91 [.t s] (.t (ed s)):=by
 refine⟨LC.of_go Tryz.func91 (c:=_) rfl (by kernel_rfl) (by rw[Tryz.ntmps91];simp) rfl rfl (by simp[LO.lt,an,LV.lt,aq]) (by simp) ?_⟩;intro B hA hmd;refine .seq (.region rfl (aa (h:=.n0 (.seq (.region rfl (bo dm (xs:=[_]) (es:=[_]) (hcs:=CellsOfs.cons (CellsOf.one rfl) CellsOfs.nil) (h:=aa (h:=.n0 (.seq (.seq (.region rfl (aa (h:=.n0 ?_)))))))))))));refine .block (.loop ?_);refine ay (σ:=Nat) (fun x=>x≤s.length) (fun x=>[(4,(true,.i (x:Nat))),(3,(true,.ref 0))]) (fun x=>[(0,.rs 5 1 (aL (34::(s.take x).flatMap aW)))]) (fun x=>s.length-x) (0) [(0,_)] (Nat.zero_le _) (by repeat (first|exact trivial|refine⟨rfl,?_⟩)) (by repeat (first|exact trivial|refine⟨rfl,?_⟩)) (by repeat (first|exact trivial|refine⟨rfl,?_⟩)) ?_;rintro k hk ih;refine .seq (.seq (.region rfl (ae (h:=ae (h:=bC Tryz.runUnderlying9 (h:=ah (au _ _ _ _ _ _) (h:=.n0 ?_)))))));refine ao (ht:=fun hc=>?_) (hf:=fun hc=>?_);have hlt:k<s.length:=by omega
 have hx:s[((k:Nat):Int).toNat]?=some s[k]:=by rw[Int.toNat_natCast];exact List.getElem?_eq_getElem hlt
 have htf:=rR hlt;have hfl:=gh (s.take k);rw[List.length_take]at hfl;generalize s[k]=c at hx htf;have hep:=wb c;refine .skip (.seq (.block (.region rfl (ae (h:=ae (h:=ae (h:=bu Tryz.runUnderlying9 (hj:=fun hg=>⟨by omega,hx⟩) (h:=ai (es:=[_]) (fun _=>xD c) (h:=aO dm (hs:=jd Tryz.underlying9) (hlen:=by simp only[ba,List.length_cons];omega) (h:=aa (h:=.n0 (.inBlock (.region rfl ?_)))))))))))));refine ae (h:=aG (h:=aa (h:=.n0 (.inLoop ?_))));exact bM [1] (b:=0) (fun o h=>by have:=(hA o).1 h;omega) (ih (k+1) (by omega) (by omega)) (by repeat (first|exact trivial|refine⟨rfl,?_⟩)) ⟨by rw[htf,←List.cons_append,dc];rfl,trivial⟩;obtain rfl:k=s.length:=by omega
 have hfl:=gh s;rw[List.take_length];refine .exit rfl (.seq (.region rfl (ae (h:=bE dm (aL [34]) (xs:=[_]) (es:=[_]) (hcs:=CellsOfs.cons (CellsOf.one rfl) CellsOfs.nil) (h:=sI dm (hs:=SrcOk.sl Tryz.underlying52 (jc _)) (hlen:=by simp only[ba,List.length_cons,List.length_nil];omega) (h:=?_))))));rw[←dc,show(34::s.flatMap aW)++[34]=ed s from rfl];refine cn Tryz.underlying52 Tryz.underlying5 Tryz.underlying9 (h:=aa (h:=.n0 ?_));exact LGo.ret (ax Tryz.results91 hA hmd)
theorem qJ{f:Nat}{rest r2:List UInt8}{fd:Fd}(h:eS rest=some (fd,r2)):cE (f+1) rest=if r2=[]then([fd],true)else if(r2.headD 0).toNat=32 then(fd::(cE f (r2.drop 1)).1,(cE f (r2.drop 1)).2)else([],false):=by
 rw[cE,h];cases r2 with
 |nil=>rfl
 |cons a r=>rw[if_neg (List.cons_ne_nil a r)];rfl
theorem qS(r:List UInt8)(c:UInt8):(cJ r c=r∧c∉r)∨∃a b,r=a++c::b∧c∉a∧cJ r c=a:=by
 unfold cJ;rcases dX c r with⟨h1,h2⟩|⟨a,b,h1,h2,h3⟩
 left;rw[if_neg (by omega)];exact⟨rfl,h2⟩;right;rw[if_pos (by omega),h3,Int.toNat_natCast];refine⟨a,b,h1,h2,?_⟩;rw[h1,List.take_left]
theorem zw{s:List UInt8}(h1:¬8192<(s.length:Int))(h2:s≠[]){fs:List Fd}(h:cE (s.length+1) s=(fs,true)):cV s=if(dr fs||decide (64<(fs.length:Int)))=true then([],3)else(fs,0):=by unfold cV;rw[if_neg h1,if_neg h2,h,if_neg (by simp)]
def cN(f:Fd):List UInt8:=if f.q=true then ed f.s else f.s
def aU(fs:List Fd):List UInt8:=Lib.join (fs.map cN) [32]
def oR(f:Fd):Prop:=f.q=false→de f.s=true
theorem j8{s:List UInt8}(h:de s=true):s≠[]∧∀c∈s,bU c=true∧c.toNat≠32:=by
 unfold de at h;simp only[Bool.and_eq_true,List.all_eq_true,Bool.not_eq_true',decide_eq_false_iff_not]at h;exact⟨h.2,fun c hc=>h.1 c hc⟩
theorem lq{c:UInt8}:∀(a s b r:List UInt8),a++c::b=s++c::r→c∉a→c∉s→a=s∧b=r
 |[],[],b,r,h,_,_=>by simpa using h
 |[],x::s,b,r,h,_,h2=>by simp at h;exact absurd (by rw[h.1];simp) h2
 |x::a,[],b,r,h,h1,_=>by simp at h;exact absurd (by rw[h.1];simp) h1
 |x::a,y::s,b,r,h,h1,h2=>by
  simp only[List.cons_append,List.cons.injEq]at h;obtain⟨k1,k2⟩:=lq a s b r h.2 (fun h=>h1 (by simp[h])) (fun h=>h2 (by simp[h]));exact⟨by rw[h.1,k1],k2⟩
theorem C4{s rest:List UInt8}(hs:(32:UInt8)∉s)(hr:rest=[]∨∃r,rest=32::r):cJ (s++rest) 32=s:=by
 rcases qS (s++rest) 32 with⟨h1,h2⟩|⟨a,b,h1,h2,h3⟩
 rcases hr with rfl|⟨r,rfl⟩
 rw[h1,List.append_nil];exact absurd (by simp) h2;rw[h3];rcases hr with rfl|⟨r,rfl⟩
 exact absurd (by rw[List.append_nil]at h1;rw[h1];simp) hs;exact(lq a s b r h1.symm h2 hs).1
theorem qz{f:Fd}{rest:List UInt8}(hf:oR f)(hr:rest=[]∨∃r,rest=32::r):eS (cN f++rest)=some (f,rest):=by
 obtain⟨s,q⟩:=f;cases q with
 |true=>
  unfold eS cN;simp only[if_true,BP];rw[if_pos (by unfold ed;simp),List.drop_left]
 |false=>
  obtain⟨h1,h2⟩:=j8 (hf rfl);have h32:(32:UInt8)∉s:=fun h=>(h2 32 h).2 rfl;have hu:rk (s++rest)=([],0):=by
   cases s with
   |nil=>exact absurd rfl h1
   |cons a s=>
    have:=uV a (h2 a (by simp)).1;rw[List.cons_append,rk,if_neg this.1]
  unfold eS cN;simp only[Bool.false_eq_true,if_false];rw[hu,if_neg (by simp),C4 h32 hr,if_pos (hf rfl),List.drop_left]
theorem CK{f:Fd}(h:oR f):cN f≠[]:=by
 obtain⟨s,q⟩:=f;cases q with
 |true=>unfold cN ed;simp
 |false=>exact(j8 (h rfl)).1
theorem km(f:Fd):aU [f]=cN f:=by unfold aU;rw[List.map_cons,List.map_nil,Lib.join_one]
theorem jb(f g:Fd)(fs:List Fd):aU (f::g::fs)=cN f++32::aU (g::fs):=by
 unfold aU;rw[List.map_cons,Lib.join_cons,List.map_cons,Lib.join_cons];simp[Lib.joinTail]
theorem qK:∀(fs:List Fd) (n:Nat),fs≠[]→(∀f∈fs,oR f)→fs.length≤n→cE n (aU fs)=(fs,true)
 |[],_,h,_,_=>absurd rfl h
 |[f],n,_,hf,hn=>by
  obtain⟨n,rfl⟩:∃m,n=m+1:=⟨n-1,by simp at hn;omega⟩;have h:=qz (hf f (by simp)) (rest:=[]) (.inl rfl);rw[List.append_nil]at h;rw[km,qJ h,if_pos rfl]
 |f::g::fs,n,_,hf,hn=>by
  obtain⟨n,rfl⟩:∃m,n=m+1:=⟨n-1,by simp at hn;omega⟩;have h:=qz (hf f (by simp)) (rest:=32::aU (g::fs)) (.inr ⟨_,rfl⟩);rw[jb,qJ h,if_neg (by simp),if_pos (show((32::aU (g::fs)).headD 0).toNat=32 from rfl)];show(f::(cE n (aU (g::fs))).1,(cE n (aU (g::fs))).2)=_;rw[qK (g::fs) n (by simp) (fun x hx=>hf x (by simp[hx])) (by simp at hn⊢;omega)]
theorem Cu{fs:List Fd}(h:fs≠[])(hf:∀f∈fs,oR f):aU fs≠[]:=by
 match fs,h with
 |[f],_=>rw[km];exact CK (hf f (by simp))
 |f::g::fs,_=>rw[jb];simp
theorem sc:∀fs:List Fd,(∀f∈fs,oR f)→fs.length≤(aU fs).length+1
 |[],_=>by simp
 |[f],_=>by simp
 |f::g::fs,h=>by
  have h1:=sc (g::fs) (fun x hx=>h x (by simp[hx]));rw[jb];simp at h1⊢;omega
theorem sa:∀(l:List Fd) (b:Bool),b=false→(∀f∈l,f.s.length≤2000)→l.foldl (fun b f=>b||decide (2000<(f.s.length:Int))) b=false
 |[],b,h,_=>h
 |a::l,b,h,hl=>sa l _ (by rw[h];have:=hl a (by simp);simp;omega) (fun f hf=>hl f (by simp[hf]))
theorem w9{fs:List Fd}(h:fs≠[])(hf:∀f∈fs,oR f)(h64:fs.length≤64)(hl:∀f∈fs,f.s.length≤2000)(hn:(aU fs).length≤8192):cV (aU fs)=(fs,0):=by
 have hlen:=sc fs hf;have hg:=qK fs ((aU fs).length+1) h hf hlen;have hlf:dr fs=false:=sa fs false rfl hl;rw[zw (by omega) (Cu h hf) hg,hlf,if_neg (by simp;omega)]
theorem w7(a:Nat)(l:List UInt8)(c:UInt8):aY a (l++[c])=aY a l*10+(c.toNat-48):=by unfold aY;rw[List.foldl_append];rfl
theorem fw(n:Nat):Lib.decDigits n≠[]:=by rw[Lib.decDigits];split<;>simp
theorem kx{n:Nat}(h:n<10):(UInt8.ofNat (48+n)).toNat=48+n:=by rw[UInt8.toNat_ofNat'];omega
theorem yM{n:Nat}(h:n<10):cd (UInt8.ofNat (48+n))=true:=by unfold cd;rw[kx h];simp;omega
theorem bX(n:Nat):(Lib.decDigits n).all cd=true∧aY 0 (Lib.decDigits n)=n∧(((Lib.decDigits n).headD 0).toNat=48→n=0):=by
 induction n using Nat.strongRecOn with
 |ind n ih=>
  rw[Lib.decDigits];split;rename_i h;refine⟨by rw[List.all_cons,yM h];rfl,?_,?_⟩;show 0*10+((UInt8.ofNat (48+n)).toNat-48)=n;rw[kx h];omega;rw[List.headD_cons,kx h];omega;rename_i h;obtain⟨h1,h2,h3⟩:=ih (n/10) (by omega);have hm:n%10<10:=Nat.mod_lt _ (by decide);refine⟨by rw[List.all_append,h1,List.all_cons,yM hm];rfl,?_,?_⟩;rw[w7,h2,kx hm];omega;intro h4;have h5:((Lib.decDigits (n/10)++[UInt8.ofNat (48+n%10)]).headD 0)=(Lib.decDigits (n/10)).headD 0:=by
   cases hd:Lib.decDigits (n/10)with
   |nil=>exact absurd hd (fw _)
   |cons a l=>rfl
  rw[h5]at h4;have:=h3 h4;omega
theorem Ag{n:Nat}(h:n=0):(Lib.decDigits n).length=1:=by subst h;rw[Lib.decDigits];rfl
theorem eM(n:Nat):di (Lib.decDigits n)=true:=by
 obtain⟨h1,h2,h3⟩:=bX n;unfold di;rw[if_neg (by
  rintro(h|⟨h4,h5⟩);exact fw n h;have:=Ag (h3 h5);omega)]
 exact h1
theorem vm{s:List UInt8}(h1:s≠[])(h2:s.all cd=true):48≤(s.headD 0).toNat∧(s.headD 0).toNat≤57:=by
 match s,h1 with
 |a::r,_=>
  have:cd a=true:=by simp at h2;exact h2.1
  unfold cd at this;simpa using this
theorem Ai(n:Nat):ib (Lib.decDigits n)=true∧jF (Lib.decDigits n)=n:=by
 have hd:=eM n;obtain⟨h1,h2,h3⟩:=bX n;have hh:=vm (fw n) h1;constructor;rw[p8 (fun h=>by omega)];exact hd;unfold jF;rw[if_neg (by omega),h2]
theorem sC(n:Nat):de (Lib.decDigits n)=true:=by
 obtain⟨h1,_,_⟩:=bX n;unfold de;simp only[Bool.and_eq_true,List.all_eq_true,Bool.not_eq_true',decide_eq_false_iff_not];refine⟨fun c hc=>?_,fw n⟩;have:=List.all_eq_true.1 h1 c hc;unfold cd at this;simp only[Bool.and_eq_true,decide_eq_true_eq]at this;refine⟨?_,by omega⟩;unfold bU;simp;omega
def rq(c:UInt8):Bool:=decide (97≤c.toNat)&&decide (c.toNat≤122)
def gJ(c:UInt8):Bool:=rq c||cd c||decide (c.toNat=45)
def ie(s:List UInt8):Bool:=if s=[]∨16<s.length∨rq (s.headD 0)=false then false else s.all gJ
def eB:List UInt8:=[97,98,99,100,101,102,103,104,105,106,107,108,109,110,111,112,113,114,115,116,117,118,119,120,121,122,48,49,50,51,52,53,54,55,56,57,45]
theorem DV(s:List UInt8)(hs:s.length≤100000):PC Tryz.prog 210 [.t s,.t eB] (.t (Lib.trimS s eB)):=by
 generalize hp:eB=p;exact cL (Entr.of Tryz.func210 rfl (by kernel_rfl)) (by simp[an,LV.lt]) fun cx w vs hl ham hv=>by
  obtain⟨v1,v2,rfl,h2,h3⟩:∃v1 v2,vs=[v1,v2]∧V cx w (.t s) v1∧V cx w (.t p) v2:=by
   simp only[Vs]at hv;obtain⟨v1,r1,rfl,h1,v2,r2,rfl,h2,rfl⟩:=hv;exact⟨_,_,rfl,h1,h2⟩
  rw[h2.val,h3.val];refine(Any.strings_Trim_laid mF (by kernel_rfl) ⟨s.toArray⟩ ⟨p.toArray⟩ w (by show s.toArray.size≤_;simp;omega) (by rw[←hp];decide) (by rw[←hp];exact ascii_of_all (by decide))).mono ?_;rintro e w' ⟨rfl,hb⟩;exact⟨rfl,hb⟩
theorem iB(c:UInt8):eB.contains c=gJ c:=kX (p:=fun c=>eB.contains c=gJ c) (by decide+kernel) c
theorem zm(t:List UInt8):Lib.trimS t eB=[]↔t.all gJ=true:=by
 have h:∀l:List UInt8,l.dropWhile (eB.contains ·)=[]↔l.all gJ=true:=by
  intro l;induction l with
  |nil=>simp
  |cons a l ih=>
   rw[List.dropWhile_cons,List.all_cons,iB];cases gJ a
   simp;simpa using ih
 unfold Lib.trimS Lib.trimLeftS Lib.trimRightS;rw[h];constructor;intro h1;have h2:(t.reverse.dropWhile (eB.contains ·))=[]:=by
  cases h3:t.reverse.dropWhile (eB.contains ·)with
  |nil=>rfl
  |cons a l=>
   exfalso;have h4:eB.contains a=false:=tB h3;rw[iB]at h4;rw[h3]at h1;simp[h4]at h1
 rw[h]at h2;simpa using h2;intro h1;have h2:t.reverse.dropWhile (eB.contains ·)=[]:=by rw[h];simpa using h1
 rw[h2];rfl
theorem r8{s:List UInt8}(h:s=[]∨16<s.length∨rq (s.headD 0)=false):ie s=false:=if_pos h
theorem r9{s:List UInt8}(h:¬(s=[]∨16<s.length∨rq (s.headD 0)=false)):ie s=s.all gJ:=if_neg h
theorem yw{c:UInt8}:rq c=false↔c.toNat<97∨122<c.toNat:=by unfold rq;rw[Bool.and_eq_false_iff,decide_eq_false_iff_not,decide_eq_false_iff_not];omega
theorem GC(s:List UInt8)(hs:s.length≤100000):PC Tryz.prog 175 [.t s] (.b (ie s)):=by
 refine⟨LC.of_go Tryz.func175 (c:=_) rfl (by kernel_rfl) (by rw[Tryz.ntmps175];simp) rfl rfl (by simp[LO.lt,an,LV.lt,aq]) (by simp) ?_⟩;intro B hA hmd;refine .seq (.region rfl (aa (h:=.n0 (.seq (.seq (.region rfl (ae (h:=ah (bH _ _ _ _ _) (h:=ae (h:=ae (h:=bC Tryz.runUnderlying9 (h:=ah (aJ _ _ _ _ _ _) (h:=aX (h:=?_))))))))))))));refine ae (h:=ae (h:=bu Tryz.runUnderlying9 (c:=s.headD 0) (hj:=fun hg=>⟨by omega,by cases s with|nil=>simp at hg|cons a r=>rfl⟩) (h:=ah (au _ _ _ _ _ _) (h:=aX (h:=ae (h:=ae (h:=bu Tryz.runUnderlying9 (c:=s.headD 0) (hj:=fun hg=>⟨by omega,by cases s with|nil=>simp at hg|cons a r=>rfl⟩) (h:=ah (aJ _ _ _ _ _ _) (h:=aX (h:=.n0 ?_))))))))));refine aj (ht:=fun hc=>?_) (hf:=fun hc=>?_);rw[r8 (s:=s) (by simp only[Bool.or_eq_true,Bool.and_eq_true,decide_eq_true_eq,Bool.or_eq_false_iff,Bool.and_eq_false_iff,decide_eq_false_iff_not,Bool.not_eq_true',Bool.not_eq_false',Bool.not_eq_true,Bool.not_eq_false,Bool.false_eq_true,Bool.true_eq_false,iff_true,true_iff,iff_false,false_iff]at hc;rw[yw];rcases hc with((h|h)|h)|h;exact .inl h;exact .inr (.inl (by omega));exact .inr (.inr (by omega));exact .inr (.inr (by omega)))];refine .seq (.region rfl (aa (h:=.n0 ?_)));exact LGo.ret (ax Tryz.results175 hA hmd);have hn:ie s=decide (Lib.trimS s eB=[]):=by
  rw[r9 (s:=s) (by simp only[Bool.or_eq_true,Bool.and_eq_true,decide_eq_true_eq,Bool.or_eq_false_iff,Bool.and_eq_false_iff,decide_eq_false_iff_not,Bool.not_eq_true',Bool.not_eq_false',Bool.not_eq_true,Bool.not_eq_false,Bool.false_eq_true,Bool.true_eq_false,iff_true,true_iff,iff_false,false_iff]at hc;rw[yw];rintro(h|h|h);exact hc.1.1.1 h;exact hc.1.1.2 (by omega);omega),Bool.eq_iff_iff,decide_eq_true_eq,zm]
 rw[hn];refine .skip (.seq (.region rfl (ae (h:=ai (es:=[_,_]) (fun _=>DV s hs) (h:=ah (bH _ _ _ _ _) (h:=aa (h:=.n0 ?_)))))));exact LGo.ret (ax Tryz.results175 hA hmd)
theorem u3(c:UInt8):PC Tryz.prog 217 [.y c.toNat] (.b (rq c)):=by
 refine⟨LC.of_go Tryz.func217 (c:=_) rfl (by kernel_rfl) (by rw[Tryz.ntmps217];simp) rfl rfl (by simp[LO.lt,an,LV.lt,aq]) (by simp) ?_⟩;intro B hA hmd;rw[show rq c=(decide ((c.toNat:Int)≥97)&&decide ((c.toNat:Int)≤122))from by rw[Bool.eq_iff_iff];simp[rq];omega];refine .seq (.region rfl (aa (h:=.n0 (.seq (.region rfl (ae (h:=ah (bh _ _ _ _ _ _) (h:=ae (h:=ae (h:=ah (cb _ _ _ _ _ _) (h:=aT (h:=aa (h:=.n0 ?_)))))))))))));exact LGo.ret (ax Tryz.results217 hA hmd)
theorem EC(s:List UInt8)(hs:s.length≤100000):PC Tryz.prog 183 [.t s] (.b (ie s)):=by
 refine⟨LC.of_go Tryz.func183 (c:=_) rfl (by kernel_rfl) (by rw[Tryz.ntmps183];simp) rfl rfl (by simp[LO.lt,an,LV.lt,aq]) (by simp) ?_⟩;intro B hA hmd;refine .seq (.region rfl (aa (h:=.n0 (.seq (.seq (.region rfl (ae (h:=bC Tryz.runUnderlying9 (h:=ah (au _ _ _ _ _ _) (h:=ae (h:=ae (h:=bC Tryz.runUnderlying9 (h:=ah (aJ _ _ _ _ _ _) (h:=?_))))))))))))));refine aX (h:=ae (h:=ae (h:=bu Tryz.runUnderlying9 (c:=s.headD 0) (hj:=fun hg=>⟨by omega,by cases s with|nil=>simp at hg|cons a r=>rfl⟩) (h:=ai (es:=[_]) (fun _=>u3 (s.headD 0)) (h:=bd (h:=aX (h:=.n0 ?_)))))));refine aj (ht:=fun hc=>?_) (hf:=fun hc=>?_);rw[r8 (s:=s) (by simp only[Bool.or_eq_true,Bool.and_eq_true,decide_eq_true_eq,Bool.or_eq_false_iff,Bool.and_eq_false_iff,decide_eq_false_iff_not,Bool.not_eq_true',Bool.not_eq_false',Bool.not_eq_true,Bool.not_eq_false,Bool.false_eq_true,Bool.true_eq_false,iff_true,true_iff,iff_false,false_iff]at hc;rcases hc with(h|h)|h;exact .inl (List.eq_nil_of_length_eq_zero (by omega));exact .inr (.inl (by omega));exact .inr (.inr h))];refine .seq (.region rfl (aa (h:=.n0 ?_)));exact LGo.ret (ax Tryz.results183 hA hmd);have hn:ie s=s.all gJ:=r9 (s:=s) (by simp only[Bool.or_eq_true,Bool.and_eq_true,decide_eq_true_eq,Bool.or_eq_false_iff,Bool.and_eq_false_iff,decide_eq_false_iff_not,Bool.not_eq_true',Bool.not_eq_false',Bool.not_eq_true,Bool.not_eq_false,Bool.false_eq_true,Bool.true_eq_false,iff_true,true_iff,iff_false,false_iff]at hc;rintro(h|h|h);rw[h]at hc;simp at hc;omega;rw[h]at hc;simp at hc);refine .skip (.seq (.seq (.region rfl (aa (h:=.n0 (.block (.loop ?_)))))));refine ay (σ:=Nat) (fun x=>x≤s.length∧ie s=(s.drop x).all gJ) (fun x=>[(3,(true,.i (x:Nat)))]) (fun x=>[]) (fun x=>s.length-x) (0) [(0,_)] ⟨Nat.zero_le _,hn⟩ (by repeat (first|exact trivial|refine⟨rfl,?_⟩)) (by repeat (first|exact trivial|refine⟨rfl,?_⟩)) (by repeat (first|exact trivial|refine⟨rfl,?_⟩)) ?_;rintro k ⟨hk,hq⟩ ih;refine .seq (.seq (.region rfl (ae (h:=ae (h:=bC Tryz.runUnderlying9 (h:=ah (au _ _ _ _ _ _) (h:=.n0 ?_)))))));refine ao (ht:=fun hc2=>?_) (hf:=fun hc2=>?_);have hlt:k<s.length:=by omega
 have hx:s[((k:Nat):Int).toNat]?=some s[k]:=by rw[Int.toNat_natCast];exact List.getElem?_eq_getElem hlt
 have hd:s.drop k=s[k]::s.drop (k+1):=List.drop_eq_getElem_cons hlt;rw[hd,List.all_cons]at hq;generalize s[k]=c at hx hq;clear hd;refine .skip (.seq (.block (.seq (.region rfl (ae (h:=ae (h:=bu Tryz.runUnderlying9 (hj:=fun hg=>⟨by omega,hx⟩) (h:=ai (es:=[_]) (fun _=>u3 c) (h:=bd (h:=ae (h:=ae (h:=ae (h:=bu Tryz.runUnderlying9 (hj:=fun hg=>⟨by(simp at hg;omega),hx⟩) (h:=?_))))))))))))));refine ai (es:=[_]) (fun _=>C1 c) (h:=bd (h:=aT (h:=ae (h:=ae (h:=ae (h:=bu Tryz.runUnderlying9 (hj:=fun hg=>⟨by(simp at hg;omega),hx⟩) (h:=ah (aC _ _ _ _ _ _) (h:=aT (h:=.n0 ?_)))))))));refine aj (ht:=fun hc3=>?_) (hf:=fun hc3=>?_);have hb:gJ c=false:=by unfold gJ;simp only[Bool.or_eq_true,Bool.and_eq_true,decide_eq_true_eq,Bool.or_eq_false_iff,Bool.and_eq_false_iff,decide_eq_false_iff_not,Bool.not_eq_true',Bool.not_eq_false',Bool.not_eq_true,Bool.not_eq_false,Bool.false_eq_true,Bool.true_eq_false,iff_true,true_iff,iff_false,false_iff]at hc3;rw[hc3.1.1,hc3.1.2];simp;omega
 rw[hq,hb,Bool.false_and];refine .seq (.region rfl (aa (h:=.n0 ?_)));exact LGo.ret (ax Tryz.results183 hA hmd);have hb:gJ c=true:=by
  unfold gJ;simp only[Bool.or_eq_true,Bool.and_eq_true,decide_eq_true_eq,Bool.or_eq_false_iff,Bool.and_eq_false_iff,decide_eq_false_iff_not,Bool.not_eq_true',Bool.not_eq_false',Bool.not_eq_true,Bool.not_eq_false,Bool.false_eq_true,Bool.true_eq_false,iff_true,true_iff,iff_false,false_iff]at hc3;simp only[Bool.or_eq_true,Bool.and_eq_true,decide_eq_true_eq,Bool.or_eq_false_iff,Bool.and_eq_false_iff,decide_eq_false_iff_not,Bool.not_eq_true',Bool.not_eq_false',Bool.not_eq_true,Bool.not_eq_false,Bool.false_eq_true,Bool.true_eq_false,iff_true,true_iff,iff_false,false_iff];rcases hc3 with(h|h)|h
  exact .inl (.inl h);exact .inl (.inr h);exact .inr (by omega)
 rw[hb,Bool.true_and]at hq;refine .skip (.inBlock (.region rfl (ae (h:=aG (h:=aa (h:=.n0 (.inLoop ?_)))))));exact LGo.next _ (fun o h=>by have:=(hA o).1 h;omega) (by omega) (ih (k+1) ⟨by omega,hq⟩ (by omega)) (by repeat (first|exact trivial|refine⟨rfl,?_⟩)) (by repeat (first|exact trivial|refine⟨rfl,?_⟩));rw[List.drop_eq_nil_of_le (by omega)]at hq;rw[hq];refine .exit rfl (.seq (.region rfl (aa (h:=.n0 ?_))));exact LGo.ret (ax Tryz.results183 hA hmd)
structure VnS where
 name:List UInt8
 rows:List Int
 queue:Int
 deriving DecidableEq
instance:Inhabited VnS:=⟨⟨[],[],0⟩⟩
structure Ven where
 shards:Int
 ttl:Int
 session:Int
 secs:List VnS
 deriving DecidableEq
structure SrC where
 kind:Int
 owner:Int
 tgt:Int
 session:Int
 ticket:Int
 seat:Int
 sec:Int
 n:Int
 gate:Int
 spoil:Int
 raw:List UInt8
 deriving DecidableEq
instance:Inhabited SrC:=⟨⟨0,0,0,0,0,0,0,0,0,0,[]⟩⟩
structure SrE where
 kind:Int
 a:Int
 b:Int
 deriving DecidableEq
instance:Inhabited SrE:=⟨⟨0,0,0⟩⟩
structure Sc where
 ven:Ven
 key:List UInt8
 gates:List GtG
 workers:Int
 calls:List SrC
 evs:List SrE
 deriving DecidableEq
def VnS.c(x:VnS):List SV:=[.val (.string ⟨x.name.toArray⟩),.sl 1 (ic .i64 x.rows),.val (.int .i64 x.queue)]
def Ven.c(v:Ven):List SV:=[.val (.int .i64 v.shards),.val (.int .i64 v.ttl),.val (.int .i64 v.session),.sl 3 (v.secs.map VnS.c)]
def SrC.c(x:SrC):List SV:=[.val (.int .i64 x.kind),.val (.int .u32 x.owner),.val (.int .u32 x.tgt),.val (.int .i64 x.session),.val (.int .i64 x.ticket),.val (.int .i64 x.seat),.val (.int .i64 x.sec),.val (.int .i64 x.n),.val (.int .i64 x.gate),.val (.int .i64 x.spoil),.val (.string ⟨x.raw.toArray⟩)]
def SrE.c(x:SrE):List SV:=[.val (.int .i64 x.kind),.val (.int .i64 x.a),.val (.int .i64 x.b)]
def Sc.c(s:Sc):List SV:=[.val (.int .i64 s.ven.shards),.val (.int .i64 s.ven.ttl),.val (.int .i64 s.ven.session),.sl 3 (s.ven.secs.map VnS.c),.val (.string ⟨s.key.toArray⟩),.sl 3 (s.gates.map GtG.c),.val (.int .i64 s.workers),.sl 11 (s.calls.map SrC.c),.sl 3 (s.evs.map SrE.c)]
def iH(n lo hi:Int):Bool:=decide (n<lo)||decide (n>hi)
def tZ(n lo hi:Int):Bool:=decide (n≥lo)&&decide (n≤hi)
def ep(x:VnS)(before:List VnS):Int:=
 if(!ie x.name)=true then 6 else
 if(before.any fun y=>decide (y.name=x.name))=true then 8 else
 if(x.rows.length:Int)=0 then 6 else
 if 16<(x.rows.length:Int)then 3 else
 if(x.rows.any fun n=>iH n 1 64)=true then 7 else
 if iH x.queue 0 64=true then 7 else 0
theorem th(n a b:Int):PC Tryz.prog 129 [.i n,.i a,.i b] (.b (iH n a b)):=by
 refine⟨LC.of_go Tryz.func129 (c:=_) rfl (by kernel_rfl) (by rw[Tryz.ntmps129];simp) rfl rfl (by simp[LO.lt,an,LV.lt,aq]) (by simp) ?_⟩;intro B hA hmd;refine .seq (.region rfl (aa (h:=.n0 (.seq (.region rfl (ae (h:=ae (h:=ah (au _ _ _ _ _ _) (h:=ae (h:=ae (h:=ae (h:=ah (aJ _ _ _ _ _ _) (h:=aX (h:=?_))))))))))))));refine aa (h:=.n0 ?_);exact LGo.ret (ax Tryz.results129 hA hmd)
theorem rX(n a b:Int):PC Tryz.prog 130 [.i n,.i a,.i b] (.b (iH n a b)):=by
 refine⟨LC.of_go Tryz.func130 (c:=_) rfl (by kernel_rfl) (by rw[Tryz.ntmps130];simp) rfl rfl (by simp[LO.lt,an,LV.lt,aq]) (by simp) ?_⟩;intro B hA hmd;refine .seq (.region rfl (aa (h:=.n0 (.seq (.region rfl (ae (h:=ae (h:=ah (au _ _ _ _ _ _) (h:=ae (h:=ae (h:=ae (h:=ah (aJ _ _ _ _ _ _) (h:=aX (h:=?_))))))))))))));refine aa (h:=.n0 ?_);exact LGo.ret (ax Tryz.results130 hA hmd)
theorem fm(n a b:Int):PC Tryz.prog 83 [.i n,.i a,.i b] (.b (tZ n a b)):=by
 refine⟨LC.of_go Tryz.func83 (c:=_) rfl (by kernel_rfl) (by rw[Tryz.ntmps83];simp) rfl rfl (by simp[LO.lt,an,LV.lt,aq]) (by simp) ?_⟩;intro B hA hmd;refine .seq (.region rfl (aa (h:=.n0 (.seq (.region rfl (ae (h:=ae (h:=ah (bh _ _ _ _ _ _) (h:=ae (h:=ae (h:=ae (h:=ah (cb _ _ _ _ _ _) (h:=aT (h:=?_))))))))))))));refine aa (h:=.n0 ?_);exact LGo.ret (ax Tryz.results83 hA hmd)
theorem HJ(n:Int):PC Tryz.prog 179 [.i n] (.b (iH n 1 64)):=by
 refine⟨LC.of_go Tryz.func179 (c:=_) rfl (by kernel_rfl) (by rw[Tryz.ntmps179];simp) rfl rfl (by simp[LO.lt,an,LV.lt,aq]) (by simp) ?_⟩;intro B hA hmd;refine .seq (.region rfl (aa (h:=.n0 (.seq (.region rfl (ae (h:=ai (es:=[_,_,_]) (fun _=>th n 1 64) (h:=aa (h:=.n0 ?_)))))))));exact LGo.ret (ax Tryz.results179 hA hmd)
theorem CF(l:List Int)(hl:l.length≤100000):PC Tryz.prog 212 [.sv (.sl 1 (ic .i64 l)),.fn (.func 179) [] []] (.i (jD (fun n=>iH n 1 64) 0 l)):=by
 refine⟨LC.of_go Tryz.func212 (c:=_) rfl (by kernel_rfl) (by rw[Tryz.ntmps212];simp) rfl rfl (by simp[LO.lt,an,LV.lt,aq]) (by simp) ?_⟩;intro B hA hmd;obtain⟨g,e1⟩:∃g,jD (fun n=>iH n 1 64) 0 l=g:=⟨_,rfl⟩;rw[e1];refine .seq (.region rfl (aa (h:=.n0 (.seq (.seq (.region rfl (ae (h:=aF iE (h:=?_)))))))));rw[bp];refine ae (h:=.n0 (.block (.loop ?_)));refine ay (σ:=Nat) (fun x=>x≤l.length∧jD (fun n=>iH n 1 64) x (l.drop x)=g) (fun x=>[(8,(true,.i (x:Nat)))]) (fun x=>[]) (fun x=>l.length-x) (0) [(0,_),(1,_),(7,_)] ⟨Nat.zero_le _,e1⟩ (by repeat (first|exact trivial|refine⟨rfl,?_⟩)) (by repeat (first|exact trivial|refine⟨rfl,?_⟩)) (by repeat (first|exact trivial|refine⟨rfl,?_⟩)) ?_;rintro k ⟨hk,hq⟩ ih;refine .seq (.region rfl (ah (au _ _ _ _ _ _) (h:=.n0 (.seq ?_))));refine ao (ht:=fun hc=>?_) (hf:=fun hc=>?_);have hlt:k<l.length:=by omega
 have hx:=wv hlt;rw[List.drop_eq_getElem_cons hlt,jD]at hq;generalize l[k]=x at hx hq;refine .skip (.seq (.block (.seq (.region rfl (ae (h:=aa (h:=.n0 (.seq (.region rfl (ae (h:=ae (h:=ae (h:=aw jH (hj:=fun hg=>⟨by omega,hx⟩) (h:=?_))))))))))))));refine aM O3 (h:=cH (m:=0) (avs:=[_]) (es:=[_]) (first:=[]) (cap:=[]) (HJ x).lc (hL:=jC) (h:=.n0 ?_));refine aj (ht:=fun hc2=>?_) (hf:=fun hc2=>?_);rw[if_pos hc2]at hq;rw[←hq];refine .seq (.region rfl (ae (h:=aa (h:=.n0 ?_))));exact LGo.ret (ax Tryz.results212 hA hmd);rw[if_neg (by rw[hc2];simp)]at hq;refine .skip (.inBlock (.region rfl (aG (h:=ae (h:=.n0 (.inLoop ?_))))));exact LGo.next _ (fun o h=>by have:=(hA o).1 h;omega) (by omega) (ih (k+1) ⟨by omega,hq⟩ (by omega)) (by repeat (first|exact trivial|refine⟨rfl,?_⟩)) (by repeat (first|exact trivial|refine⟨rfl,?_⟩));rw[List.drop_eq_nil_of_le (show l.length≤k by omega),jD]at hq;rw[←hq];refine .exit rfl (.seq (.region rfl (aa (h:=.n0 ?_))));exact LGo.ret (ax Tryz.results212 hA hmd)
theorem CG(l:List Int)(hl:l.length≤100000):PC Tryz.prog 178 [.sv (.sl 1 (ic .i64 l)),.fn (.func 179) [] []] (.b (l.any fun n=>iH n 1 64)):=by
 refine⟨LC.of_go Tryz.func178 (c:=_) rfl (by kernel_rfl) (by rw[Tryz.ntmps178];simp) rfl rfl (by simp[LO.lt,an,LV.lt,aq]) (by simp) ?_⟩;intro B hA hmd;refine .seq (.region rfl (aa (h:=.n0 (.seq (.region rfl (ae (h:=ae (h:=ai (es:=[_,_]) (fun _=>CF l hl) (h:=ah (bh _ _ _ _ _ _) (h:=?_))))))))));rw[mf];refine aa (h:=.n0 ?_);exact LGo.ret (ax Tryz.results178 hA hmd)
theorem HK(x y:VnS):LC Tryz.prog 177 1 [.agg (y.c.map LV.sv),.ptr 0 0] [(0,.box 40 (x.c.map LV.sv))] (.b (decide (y.name=x.name))) [(0,.box 40 (x.c.map LV.sv))] 0:=by
 refine LC.of_go Tryz.func177 (c:=_) rfl (by kernel_rfl) (by rw[Tryz.ntmps177];simp) rfl rfl (by simp[LO.lt,an,LV.lt,aq]) (by simp) ?_;intro B hA hmd;refine .seq (.region rfl (bg (h:=aa (h:=.n0 (.seq (.region rfl (af ij (h:=ag O9 (h:=af ij (h:=ag O9 (h:=ah (bH _ _ _ _ _) (h:=aa (h:=.n0 ?_)))))))))))));exact LGo.ret (ax Tryz.results177 hA hmd)
theorem zV(l:List VnS)(hl:l.length≤100000)(z:VnS):LC Tryz.prog 211 1 [.sv (.sl 3 (l.map VnS.c)),.fn (.func 177) [] [.ptr 0 0]] [(0,.box 40 (z.c.map LV.sv))] (.i (jD (fun y=>decide (y.name=z.name)) 0 l)) [(0,.box 40 (z.c.map LV.sv))] 0:=by
 refine LC.of_go Tryz.func211 (c:=_) rfl (by kernel_rfl) (by rw[Tryz.ntmps211];simp) rfl rfl (by simp[LO.lt,an,LV.lt,aq]) (by simp) ?_;intro B hA hmd;obtain⟨g,e1⟩:∃g,jD (fun y:VnS=>decide (y.name=z.name)) 0 l=g:=⟨_,rfl⟩;rw[e1];refine .seq (.region rfl (aa (h:=.n0 (.seq (.seq (.region rfl (ae (h:=aF sK (h:=?_)))))))));rw[List.length_map];refine ae (h:=.n0 (.block (.loop ?_)));refine ay (σ:=Nat) (fun x=>x≤l.length∧jD (fun y:VnS=>decide (y.name=z.name)) x (l.drop x)=g) (fun x=>[(8,(true,.i (x:Nat)))]) (fun x=>[(0,.box 40 (z.c.map LV.sv))]) (fun x=>l.length-x) (0) [(0,_),(1,_),(7,_)] ⟨Nat.zero_le _,e1⟩ (by repeat (first|exact trivial|refine⟨rfl,?_⟩)) (by repeat (first|exact trivial|refine⟨rfl,?_⟩)) (by repeat (first|exact trivial|refine⟨rfl,?_⟩)) ?_;rintro k ⟨hk,hq⟩ ih;refine .seq (.region rfl (ah (au _ _ _ _ _ _) (h:=.n0 (.seq ?_))));refine ao (ht:=fun hc=>?_) (hf:=fun hc=>?_);have hlt:k<l.length:=by omega
 have hx:(l.map VnS.c)[((k:Nat):Int).toNat]?=some l[k].c:=by simp[hlt]
 have hd:l.drop k=l[k]::l.drop (k+1):=List.drop_eq_getElem_cons hlt;rw[hd,jD]at hq;generalize l[k]=y at hx hq;clear hd;refine .skip (.seq (.block (.seq (.region rfl (ae (h:=aa (h:=.n0 (.seq (.region rfl (ae (h:=ae (h:=ae (h:=aw wz (hj:=fun hg=>⟨by omega,hx⟩) (h:=?_))))))))))))));refine aR rj (h:=aK (es:=[_]) (first:=[]) (cap:=[_]) [0] (HK z y) (h:=.n0 ?_));refine aj (ht:=fun hc2=>?_) (hf:=fun hc2=>?_);rw[if_pos hc2]at hq;rw[←hq];refine .seq (.region rfl (ae (h:=aa (h:=.n0 ?_))));exact LGo.ret (ax Tryz.results211 hA hmd);rw[if_neg (by rw[hc2];simp)]at hq;refine .skip (.inBlock (.region rfl (aG (h:=ae (h:=.n0 (.inLoop ?_))))));exact LGo.next _ (fun o h=>by have:=(hA o).1 h;omega) (by omega) (ih (k+1) ⟨by omega,hq⟩ (by omega)) (by repeat (first|exact trivial|refine⟨rfl,?_⟩)) ⟨rfl,trivial⟩;rw[List.drop_eq_nil_of_le (show l.length≤k by omega),jD]at hq;rw[←hq];refine .exit rfl (.seq (.region rfl (aa (h:=.n0 ?_))));exact LGo.ret (ax Tryz.results211 hA hmd)
theorem zX(l:List VnS)(hl:l.length≤100000)(x:VnS):LC Tryz.prog 176 1 [.sv (.sl 3 (l.map VnS.c)),.fn (.func 177) [] [.ptr 0 0]] [(0,.box 40 (x.c.map LV.sv))] (.b (l.any fun y=>decide (y.name=x.name))) [(0,.box 40 (x.c.map LV.sv))] 0:=by
 refine LC.of_go Tryz.func176 (c:=_) rfl (by kernel_rfl) (by rw[Tryz.ntmps176];simp) rfl rfl (by simp[LO.lt,an,LV.lt,aq]) (by simp) ?_;intro B hA hmd;refine .seq (.region rfl (aa (h:=.n0 (.seq (.region rfl (ae (h:=ae (h:=aK (es:=[_,_]) [0] (zV l hl x) (h:=ah (bh _ _ _ _ _ _) (h:=?_))))))))));rw[mf];refine aa (h:=.n0 ?_);exact LGo.ret (ax Tryz.results176 hA hmd)
theorem C8(x:VnS)(hx1:x.name.length≤100000)(l:List VnS)(hl:l.length≤100000):PC Tryz.prog 131 [.agg (x.c.map LV.sv),.sv (.sl 3 (l.map VnS.c))] (.i (ep x l)):=by
 refine⟨LC.of_go Tryz.func131 (c:=_) rfl (by kernel_rfl) (by rw[Tryz.ntmps131];simp) rfl rfl (by simp[LO.lt,an,LV.lt,aq]) (by simp) ?_⟩;intro B hA hmd;obtain⟨g,e0⟩:∃g,ep x l=g:=⟨_,rfl⟩;have e1:=e0;unfold ep at e1;rw[e0];refine .seq (.region rfl (bg (h:=aa (h:=.n0 (.seq (.block (.seq (.region rfl (af ij (h:=ag O9 (h:=ai (es:=[_]) (fun _=>GC x.name hx1) (h:=bd (h:=aa (h:=?_))))))))))))));refine .n0 ?_;refine aj (ht:=fun hc=>?_) (hf:=fun hc=>?_);rw[if_pos (by simpa using hc)]at e1;rw[←e1];refine .seq (.region rfl (aa (h:=.n0 ?_)));exact LGo.ret (ax Tryz.results131 hA hmd);rw[if_neg (by rw[hc];simp)]at e1;refine .seq (.region rfl (ae (h:=cQ (es:=[]) (fs:=[_]) (h:=aK (es:=[_,_]) [0] (zX l hl x) (h:=aa (h:=.n0 ?_))))));refine aj (ht:=fun hc2=>?_) (hf:=fun hc2=>?_);rw[if_pos (by simpa using hc2)]at e1;rw[←e1];refine .seq (.region rfl (aa (h:=.n0 ?_)));exact LGo.ret (ax Tryz.results131 hA hmd);rw[if_neg (by rw[hc2];simp)]at e1;refine .seq (.region rfl (af ej (h:=ag gP (h:=aF iE (h:=?_)))));rw[bp];refine ah (av _ _ _ _ _ _) (h:=aa (h:=.n0 ?_));refine ao (ht:=fun hc3=>?_) (hf:=fun hc3=>?_);rw[if_pos (by omega)]at e1;rw[←e1];refine .seq (.region rfl (aa (h:=.n0 ?_)));exact LGo.ret (ax Tryz.results131 hA hmd);rw[if_neg (by omega)]at e1;refine .seq (.region rfl (af ej (h:=ag gP (h:=aF iE (h:=?_)))));rw[bp];refine ah (aJ _ _ _ _ _ _) (h:=aa (h:=.n0 ?_));refine ao (ht:=fun hc4=>?_) (hf:=fun hc4=>?_);rw[if_pos (by omega)]at e1;rw[←e1];refine .seq (.region rfl (aa (h:=.n0 ?_)));exact LGo.ret (ax Tryz.results131 hA hmd);rw[if_neg (by omega)]at e1;refine .seq (.region rfl (af ej (h:=ag gP (h:=ai (es:=[_,_]) (fun _=>CG x.rows (by omega)) (h:=aa (h:=.n0 ?_))))));refine aj (ht:=fun hc5=>?_) (hf:=fun hc5=>?_);rw[if_pos (by simpa using hc5)]at e1;rw[←e1];refine .seq (.region rfl (aa (h:=.n0 ?_)));exact LGo.ret (ax Tryz.results131 hA hmd);rw[if_neg (by rw[hc5];simp)]at e1;refine .seq (.region rfl (af oh (h:=ag O3 (h:=ai (es:=[_,_,_]) (fun _=>th x.queue 0 64) (h:=aa (h:=.n0 ?_))))));refine aj (ht:=fun hc6=>?_) (hf:=fun hc6=>?_);rw[if_pos (by simpa using hc6)]at e1;rw[←e1];refine .seq (.region rfl (aa (h:=.n0 ?_)));exact LGo.ret (ax Tryz.results131 hA hmd);rw[if_neg (by rw[hc6];simp)]at e1;rw[←e1];refine .skip (.inBlock (.seq (.region rfl (aa (h:=.n0 ?_)))));exact LGo.ret (ax Tryz.results131 hA hmd)
def jl:Nat→List VnS→Int→List VnS→Int×Int
 |_,_,all,[]=>if 4096<all then(-1,3)else(0,0)
 |k,bf,all,x::r=>if ep x bf≠0 then(k,ep x bf)else jl (k+1) (bf++[x]) (x.rows.foldl (fun a n=>a+n) all) r
def cm(v:Ven):Int×Int:=
 if((iH v.shards 1 16||iH v.ttl 1 1000000000)||iH v.session 1 1000000000)=true then(-1,7)else
 if(v.secs.length:Int)=0 then(-1,6)else
 if 8<(v.secs.length:Int)then(-1,3)else jl 0 [] 0 v.secs
def It(v:Ven):Prop:=v.secs.length≤100000∧∀x∈v.secs,x.name.length≤100000
theorem qb{x:VnS}{l:List VnS}(h:ep x l=0):x.rows.length≤16∧∀n∈x.rows,1≤n∧n≤64:=by
 unfold ep at h;split at h;cases h
 split at h;cases h
 split at h;cases h
 split at h;cases h
 rename_i h4;split at h;cases h
 rename_i h5;refine⟨by omega,fun n hn=>?_⟩;simp only[List.any_eq_true,not_exists,not_and,Bool.not_eq_true]at h5;have:=h5 n hn;unfold iH at this;simp only[Bool.or_eq_false_iff,decide_eq_false_iff_not]at this;omega
theorem lE(v:Ven)(hv:It v):PC Tryz.prog 72 [.agg (v.c.map LV.sv)] (.tup [.i (cm v).1,.i (cm v).2]):=by
 refine⟨LC.of_go Tryz.func72 (c:=_) rfl (by kernel_rfl) (by rw[Tryz.ntmps72];simp) rfl rfl (by simp[LO.lt,an,LV.lt,aq]) (by simp) ?_⟩;intro B hA hmd;obtain⟨hv1,hv2⟩:=hv;obtain⟨g,e0⟩:∃g,cm v=g:=⟨_,rfl⟩;have e1:=e0;unfold cm at e1;rw[e0];refine .seq (.region rfl (bg (h:=aa (h:=aa (h:=.n0 (.seq (.block (.seq (.region rfl (af lX (h:=ag O3 (h:=ai (es:=[_,_,_]) (fun _=>th v.shards 1 16) (h:=ae (h:=?_))))))))))))));refine af lW (h:=ag O2 (h:=ai (es:=[_,_,_]) (fun _=>rX v.ttl 1 1000000000) (h:=aX (h:=ae (h:=af lU (h:=ag O2 (h:=ai (es:=[_,_,_]) (fun _=>rX v.session 1 1000000000) (h:=aX (h:=aa (h:=.n0 ?_))))))))));refine aj (ht:=fun hc=>?_) (hf:=fun hc=>?_);rw[if_pos hc]at e1;rw[←e1];refine .seq (.region rfl (aa (h:=aa (h:=.n0 ?_))));exact LGo.ret (aI Tryz.results72 hA hmd);rw[if_neg (by rw[hc];simp)]at e1;refine .seq (.region rfl (af cG (h:=ag kC (h:=aF sK (h:=?_)))));rw[List.length_map];refine ah (av _ _ _ _ _ _) (h:=aa (h:=.n0 ?_));refine ao (ht:=fun hc2=>?_) (hf:=fun hc2=>?_);rw[if_pos (by omega)]at e1;rw[←e1];refine .seq (.region rfl (aa (h:=aa (h:=.n0 ?_))));exact LGo.ret (aI Tryz.results72 hA hmd);rw[if_neg (by omega)]at e1;refine .seq (.region rfl (af cG (h:=ag kC (h:=aF sK (h:=?_)))));rw[List.length_map];refine ah (aJ _ _ _ _ _ _) (h:=aa (h:=.n0 ?_));refine ao (ht:=fun hc3=>?_) (hf:=fun hc3=>?_);rw[if_pos (by omega)]at e1;rw[←e1];refine .seq (.region rfl (aa (h:=aa (h:=.n0 ?_))));exact LGo.ret (aI Tryz.results72 hA hmd);rw[if_neg (by omega)]at e1;refine .skip (.inBlock (.seq (.region rfl (aa (h:=.n0 (.seq (.seq (.region rfl (af cG (h:=ag kC (h:=aF sK (h:=?_))))))))))));rw[List.length_map];refine ae (h:=.n0 (.block (.loop ?_)));refine ay (σ:=Nat×Int) (fun x=>x.1≤v.secs.length∧0≤x.2∧x.2≤2000*x.1∧jl x.1 (v.secs.take x.1) x.2 (v.secs.drop x.1)=g) (fun x=>[(37,(true,.i (x.1:Nat))),(4,(true,.i x.2))]) (fun x=>[(0,.box 24 (v.c.map LV.sv))]) (fun x=>v.secs.length-x.1) (0,0) [(1,_),(35,_),(36,_)] ⟨Nat.zero_le _,Int.le_refl _,Int.le_refl _,e1⟩ (by repeat (first|exact trivial|refine⟨rfl,?_⟩)) (by repeat (first|exact trivial|refine⟨rfl,?_⟩)) (by repeat (first|exact trivial|refine⟨rfl,?_⟩)) ?_;rintro⟨k,al⟩ ⟨hk,ha0,ha1,hq⟩ ih;dsimp only at*;refine .seq (.region rfl (ah (au _ _ _ _ _ _) (h:=.n0 (.seq ?_))));refine ao (ht:=fun hc4=>?_) (hf:=fun hc4=>?_);have hlt:k<v.secs.length:=by omega
 have hx:(v.secs.map VnS.c)[((k:Nat):Int).toNat]?=some v.secs[k].c:=by simp[hlt]
 have hd:v.secs.drop k=v.secs[k]::v.secs.drop (k+1):=List.drop_eq_getElem_cons hlt;rw[hd,jl]at hq;have htk:v.secs.take (k+1)=v.secs.take k++[v.secs[k]]:=List.take_succ_eq_append_getElem hlt;have hzn:=hv2 _ (List.getElem_mem hlt);generalize v.secs[k]=z at hx hq htk hzn;clear hd;refine .skip (.seq (.block (.seq (.region rfl (ae (h:=aw wz (hj:=fun hg=>⟨by omega,hx⟩) (h:=aR rj (h:=aD DF (h:=aa (h:=ar rj (h:=.n0 (.seq (.seq ?_)))))))))))));refine .region rfl (aB rj (h:=af cG (h:=ag kC (h:=ae (h:=iz IN (ha:=fun _=>by rw[List.length_map];omega) (h:=?_))))));rw[←List.map_take,Int.toNat_natCast];refine ai (es:=[_,_]) (fun _=>C8 z hzn (v.secs.take k) (by rw[List.length_take];omega)) (h:=aa (h:=Reg.nil ⟨fun _=>⟨aQ,by rfl,by rfl⟩,.seq (.region rfl (ae (h:=ah (aC _ _ _ _ _ _) (h:=.n0 ?_))))⟩));refine aj (ht:=fun hc5=>?_) (hf:=fun hc5=>?_);rw[if_pos (by simpa using hc5)]at hq;rw[←hq];refine .seq (.region rfl (ae (h:=ae (h:=aa (h:=aa (h:=.n0 ?_))))));exact LGo.ret (aI Tryz.results72 hA hmd);have hz0:ep z (v.secs.take k)=0:=by simpa using hc5
 rw[if_neg (by simp[hz0]),←htk]at hq;obtain⟨hr1,hr2⟩:=qb hz0;obtain⟨F,hF⟩:∃F,z.rows.foldl (fun a n=>a+n) al=F:=⟨_,rfl⟩;rw[hF]at hq;refine .skip (.seq (.region rfl (af ej (h:=ag gP (h:=aF iE (h:=?_))))));rw[bp];refine ae (h:=.n0 (.block (.loop ?_)));refine ay (σ:=Nat×Int) (fun x=>x.1≤z.rows.length∧al≤x.2∧x.2≤al+64*x.1∧(z.rows.drop x.1).foldl (fun a n=>a+n) x.2=F) (fun x=>[(55,(true,.i (x.1:Nat))),(4,(true,.i x.2))]) (fun x=>[(0,.box 24 (v.c.map LV.sv))]) (fun x=>z.rows.length-x.1) (0,al) [(1,_),(35,_),(36,_),(37,_),(53,_),(54,_)] ⟨Nat.zero_le _,Int.le_refl _,by dsimp only;omega,hF⟩ (by repeat (first|exact trivial|refine⟨rfl,?_⟩)) (by repeat (first|exact trivial|refine⟨rfl,?_⟩)) (by repeat (first|exact trivial|refine⟨rfl,?_⟩)) ?_;rintro⟨j,b⟩ ⟨hj,hb0,hb1,hq2⟩ ih2;dsimp only at*;refine .seq (.region rfl (ah (au _ _ _ _ _ _) (h:=.n0 (.seq ?_))));refine ao (ht:=fun hc6=>?_) (hf:=fun hc6=>?_);have hltj:j<z.rows.length:=by omega
 have hx2:=wv hltj;have hnn:=hr2 _ (List.getElem_mem hltj);rw[List.drop_eq_getElem_cons hltj,List.foldl_cons]at hq2;generalize z.rows[j]=n at hx2 hq2 hnn;refine .skip (.seq (.block (.seq (.region rfl (aw jH (hj:=fun hg=>⟨by omega,hx2⟩) (h:=aM O3 (h:=aa (h:=.n0 (.region rfl (ae (h:=ae (h:=aG (h:=aa (h:=?_))))))))))))));refine .n0 (.inBlock (.region rfl (aG (h:=ae (h:=.n0 (.inLoop ?_))))));exact LGo.next _ (fun o h=>by have:=(hA o).1 h;omega) (by omega) (ih2 (j+1,b+n) ⟨by dsimp only;omega,by dsimp only;omega,by dsimp only;omega,hq2⟩ (by dsimp only;omega)) (by repeat (first|exact trivial|refine⟨rfl,?_⟩)) ⟨rfl,trivial⟩;rw[List.drop_eq_nil_of_le (show z.rows.length≤j by omega),List.foldl_nil]at hq2;subst hq2;refine .exit rfl (.inBlock (.region rfl (aG (h:=ae (h:=.n0 (.inLoop ?_))))));exact LGo.next _ (fun o h=>by have:=(hA o).1 h;omega) (by omega) (ih (k+1,b) ⟨by dsimp only;omega,by dsimp only;omega,by dsimp only;omega,hq⟩ (by dsimp only;omega)) (by repeat (first|exact trivial|refine⟨rfl,?_⟩)) ⟨rfl,trivial⟩;rw[List.drop_eq_nil_of_le (show v.secs.length≤k by omega),jl]at hq;refine .exit rfl (.seq (.seq (.region rfl (ae (h:=ah (aJ _ _ _ _ _ _) (h:=.n0 ?_))))));refine ao (ht:=fun hc7=>?_) (hf:=fun hc7=>?_);rw[if_pos (by omega)]at hq;rw[←hq];refine .seq (.region rfl (aa (h:=aa (h:=.n0 ?_))));exact LGo.ret (aI Tryz.results72 hA hmd);rw[if_neg (by omega)]at hq;rw[←hq];refine .skip (.seq (.region rfl (aa (h:=aa (h:=.n0 ?_)))));exact LGo.ret (aI Tryz.results72 hA hmd)
def Dw(s:List UInt8)(n:Nat):List UInt8:=if s=[]then List.replicate n 0 else s
theorem AR(s:List UInt8)(n:Nat)(hn:n≤1000):PC Tryz.prog 119 [.t s,.i n] (.t (Dw s n)):=by
 refine⟨LC.of_go Tryz.func119 (c:=_) rfl (by kernel_rfl) (by rw[Tryz.ntmps119];simp) rfl rfl (by simp[LO.lt,an,LV.lt,aq]) (by simp) ?_⟩;intro B hA hmd;obtain⟨g,e0⟩:∃g,Dw s n=g:=⟨_,rfl⟩;have e1:=e0;unfold Dw at e1;rw[e0];refine .seq (.region rfl (aa (h:=.n0 (.seq (.seq (.region rfl (ae (h:=ah (bH _ _ _ _ _) (h:=.n0 ?_)))))))));refine ao (ht:=fun hc=>?_) (hf:=fun hc=>?_);rw[if_pos hc]at e1;rw[←e1];refine .seq (.region rfl (ae (h:=yZ dm (k:= .u8) (by kernel_rfl) (hm:=by omega) (h:=?_))));rw[show ic .u8 (List.replicate n 0)=aL (List.replicate n 0)from by simp[ic,aL]];refine cn Tryz.underlying52 Tryz.underlying5 Tryz.underlying9 (h:=aa (h:=.n0 ?_));exact LGo.ret (ax Tryz.results119 hA hmd);rw[if_neg hc]at e1;rw[←e1];refine .skip (.seq (.region rfl (ae (h:=aa (h:=.n0 ?_)))));exact LGo.ret (ax Tryz.results119 hA hmd)
def eO(c:SrC)(rid:Int)(tok blob:List UInt8):Rq×Int:=
 if((!decide ((cD c.kind).2.2=0)||(!(cD c.kind).1&&!decide (c.session=0)))||(!(cD c.kind).2.1&&!decide (c.ticket=0)))=true then(default,2)
 else(⟨c.kind,rid,c.owner,c.tgt,if(cD c.kind).1=true then Dw tok 44 else[],if(cD c.kind).2.1=true then Dw blob 56 else[],c.seat,c.sec,c.n,c.gate⟩,0)
theorem Bi(c:SrC)(rid:Int)(tok blob:List UInt8):PC Tryz.prog 60 [.agg (c.c.map LV.sv),.v (.int .u64 rid),.t tok,.t blob] (.tup [.agg ((eO c rid tok blob).1.c.map LV.sv),.i (eO c rid tok blob).2]):=by
 refine⟨LC.of_go Tryz.func60 (c:=_) rfl (by kernel_rfl) (by rw[Tryz.ntmps60];simp) rfl rfl (by simp[LO.lt,an,LV.lt,aq]) (by simp) ?_⟩;intro B hA hmd;obtain⟨g,e0⟩:∃g,eO c rid tok blob=g:=⟨_,rfl⟩;have e1:=e0;unfold eO at e1;rw[e0];refine .seq (.region rfl (bg (h:=aD zc (h:=aa (h:=.n0 (.seq (.region rfl (af jw (h:=ag O3 (h:=ai (es:=[_]) (fun _=>Cs c.kind) (h:=?_)))))))))));generalize cD c.kind=nd at e1⊢;obtain⟨n1,n2,n3⟩:=nd;dsimp only at e1⊢;refine ae (h:=ak (h:=ak (h:=ak (h:=aa (h:=aa (h:=aa (h:=.n0 (.seq (.seq (.region rfl (ae (h:=ah (aC _ _ _ _ _ _) (h:=ae (h:=?_))))))))))))));refine ae (h:=bd (h:=ae (h:=af pD (h:=ag O3 (h:=ah (aC _ _ _ _ _ _) (h:=aT (h:=aX (h:=ae (h:=ae (h:=bd (h:=ae (h:=af pC (h:=ag O3 (h:=?_))))))))))))));refine ah (aC _ _ _ _ _ _) (h:=aT (h:=aX (h:=.n0 ?_)));refine aj (ht:=fun hc=>?_) (hf:=fun hc=>?_);rw[if_pos hc]at e1;rw[←e1];refine .seq (.region rfl (br A7 (is:=[]) (xs:=[]) (es:=[]) (h:=ar ct (h:=aa (h:=.n0 ?_)))));exact LGo.ret (cy Tryz.results60 ct hA hmd);rw[if_neg (by rw[hc];simp)]at e1;refine .skip (.seq (.region rfl (af jw (h:=ag O3 (h:=ae (h:=af uy (h:=ag sL (h:=af ux (h:=ag sL (h:=af ya (h:=ag O3 (h:=af x9 (h:=ag O3 (h:=?_))))))))))))));refine af x8 (h:=ag O3 (h:=af x7 (h:=ag O3 (h:=br A7 (is:=[0,1,2,3,6,7,8,9]) (xs:=[_,_,_,_,_,_,_,_]) (es:=[_,_,_,_,_,_,_,_]) (h:=aD zc (h:=ar ct (h:=.n0 (.seq (.region rfl (aa (h:=.n0 (.seq (.seq ?_)))))))))))));refine .region rfl (ae (h:=.n0 ?_));refine aj (ht:=fun hc2=>?_) (hf:=fun hc2=>?_);subst hc2;rw[if_pos rfl]at e1;refine .region rfl (ae (h:=ae (h:=cH (m:=0) (avs:=[_,_]) (es:=[_,_]) (first:=[]) (cap:=[]) (AR tok 44 (by decide)).lc (hL:=jC) (h:=af pN (h:=aA O9 (h:=.n0 (.seq (.seq (.region rfl (ae (h:=.n0 ?_)))))))))));refine aj (ht:=fun hc3=>?_) (hf:=fun hc3=>?_);subst hc3;rw[if_pos rfl]at e1;rw[←e1];refine .region rfl (ae (h:=ae (h:=cH (m:=0) (avs:=[_,_]) (es:=[_,_]) (first:=[]) (cap:=[]) (AR blob 56 (by decide)).lc (hL:=jC) (h:=af hM (h:=aA O9 (h:=.n0 (.seq (.region rfl (aB ct (h:=ar ct (h:=aa (h:=.n0 ?_))))))))))));exact LGo.ret (cy Tryz.results60 ct hA hmd);subst hc3;rw[if_neg (by simp)]at e1;rw[←e1];refine .skip (.seq (.region rfl (aB ct (h:=ar ct (h:=aa (h:=.n0 ?_))))));exact LGo.ret (cy Tryz.results60 ct hA hmd);subst hc2;rw[if_neg (by simp)]at e1;refine .skip (.seq (.seq (.region rfl (ae (h:=.n0 ?_)))));refine aj (ht:=fun hc4=>?_) (hf:=fun hc4=>?_);subst hc4;rw[if_pos rfl]at e1;rw[←e1];refine .region rfl (ae (h:=ae (h:=cH (m:=0) (avs:=[_,_]) (es:=[_,_]) (first:=[]) (cap:=[]) (AR blob 56 (by decide)).lc (hL:=jC) (h:=af hM (h:=aA O9 (h:=.n0 (.seq (.region rfl (aB ct (h:=ar ct (h:=aa (h:=.n0 ?_))))))))))));exact LGo.ret (cy Tryz.results60 ct hA hmd);subst hc4;rw[if_neg (by simp)]at e1;rw[←e1];refine .skip (.seq (.region rfl (aB ct (h:=ar ct (h:=aa (h:=.n0 ?_))))));exact LGo.ret (cy Tryz.results60 ct hA hmd)
end Go.Proofs.YtgkhfpfjokagfaaGreatDoor