/- The functions of the library that this program uses, found in it by their bodies (written by the kit's lay-plain tool). -/
import Derived.Shelf.Strings.Builder1
import Derived.Shelf.Small.Wraps
import Derived.Shelf.LaysM
import Derived.Shelf.Strconv.Itoa4
import Derived.Shelf.Strings.Search3
import Derived.Shelf.Strings.SlTrimAscii
import Derived.Shelf.Strings.Trim
import Derived.Shelf.Small.Bits
import Derived.Shelf.Bits.Mul64
import Derived.Shelf.SlicesE.Clone
import Derived.Ground.SlgnProg
import Derived.Test.YtackjebfmbnkbaaGreatDoorProg
import Derived.Lib.Builder
import Derived.Lib.UnsafeStr
import Derived.WalkKit
import Derived.BigCall
import Derived.BigGuard
import Derived.Test.YtackjebfmbnkbaaGreatDoorChecked
import Derived.Test.YtackjebfmbnkbaaGreatDoorP13
import Derived.Ground.SlsfProg
import Derived.Shelf.SlSortCmp.NoneTotal
set_option linter.unusedSimpArgs false
set_option linter.unusedVariables false
set_option linter.unusedSectionVars false
section
namespace Go.Proofs
open Go.Shelf
def Tryz.lays169_ren:Go.Shelf.Ren:=⟨fun|169=>253|n=>n,fun|70=>300|9=>9|0=>0|72=>302|37=>163|127=>366|3=>3|5=>5|n=>n,fun|n=>n⟩
theorem Tryz.lays169:Go.Proofs.Lays.n169 Tryz.prog Tryz.lays169_ren:={
 mixed:=by kernel_rfl
 f169:=Tryz.func253.trans (congrArg some (by kernel_rfl))
 t0:=Tryz.underlying0
 a0:=Tryz.isAgg0
 z0:=Tryz.sizeOf0
 v0:=Tryz.zeroValue0
 t3:=Tryz.underlying3
 a3:=Tryz.isAgg3
 z3:=Tryz.sizeOf3
 v3:=Tryz.zeroValue3
 t9:=Tryz.underlying9
 a9:=Tryz.isAgg9
 z9:=Tryz.sizeOf9
 v9:=Tryz.zeroValue9
 t37:=Tryz.underlying163
 a37:=Tryz.isAgg163
 z37:=Tryz.sizeOf163
 v37:=Tryz.zeroValue163
 t70:=Tryz.underlying300
 a70:=Tryz.isAgg300
 z70:=Tryz.sizeOf300
 v70:=Tryz.zeroValue300
 t72:=Tryz.underlying302
 a72:=Tryz.isAgg302
 z72:=Tryz.sizeOf302
 v72:=Tryz.zeroValue302
 t127:=Tryz.underlying366
 a127:=Tryz.isAgg366
 z127:=Tryz.sizeOf366
 v127:=Tryz.zeroValue366}
theorem Tryz.Builder_Extra_169:Builder.Extra Tryz.prog Tryz.lays169_ren:={
 sizeBuilder:=by kernel_rfl
 liesBuilder:=by kernel_rfl
 t5:=Tryz.underlying5
 a5:=Tryz.isAgg5
 z5:=Tryz.sizeOf5
 v5:=Tryz.zeroValue5
 infoByte:=by kernel_rfl
 cellsByte:=by kernel_rfl
 sizeByte:=by kernel_rfl
 neB5:=by decide}
open Go.RowKit in
theorem Tryz.Builder_String (B b:Nat) (l:List UInt8) (w:World) (h:Lib.IsBuilder 302 5 B b (Lib.byteCells l) w) (o:l≠[]): Calls Tryz.prog 253 #[.pointer (some ⟨b,0,none⟩)] w fun e w'=>e=.returned (.string ⟨l.toArray⟩)/\Below B w w':=Any.Builder_String Tryz.lays169 Tryz.Builder_Extra_169 B b l w h o
def Tryz.lays160_ren:Go.Shelf.Ren:=⟨fun|160=>146|232=>203|231=>202|227=>204|234=>206|233=>205|236=>208|235=>207|228=>272|271=>275|151=>274|197=>273|120=>349|152=>348|260=>347|137=>395|119=>396|224=>278|225=>277|217=>276|266=>350|n=>n,fun|9=>9|4=>4|3=>3|5=>5|117=>249|116=>248|0=>0|124=>252|21=>21|105=>330|46=>149|119=>421|139=>424|138=>423|n=>n,fun|3=>1|4=>2|n=>n⟩
theorem Tryz.lays160:Go.Proofs.Lays.n160 Tryz.prog Tryz.lays160_ren:={
 mixed:=by kernel_rfl
 f119:=Tryz.func396.trans (congrArg some (by kernel_rfl))
 f120:=Tryz.func349.trans (congrArg some (by kernel_rfl))
 f137:=Tryz.func395.trans (congrArg some (by kernel_rfl))
 f151:=Tryz.func274.trans (congrArg some (by kernel_rfl))
 f152:=Tryz.func348.trans (congrArg some (by kernel_rfl))
 f160:=Tryz.func146.trans (congrArg some (by kernel_rfl))
 f197:=Tryz.func273.trans (congrArg some (by kernel_rfl))
 f217:=Tryz.func276.trans (congrArg some (by kernel_rfl))
 f224:=Tryz.func278.trans (congrArg some (by kernel_rfl))
 f225:=Tryz.func277.trans (congrArg some (by kernel_rfl))
 f227:=Tryz.func204.trans (congrArg some (by kernel_rfl))
 f228:=Tryz.func272.trans (congrArg some (by kernel_rfl))
 f231:=Tryz.func202.trans (congrArg some (by kernel_rfl))
 f232:=Tryz.func203.trans (congrArg some (by kernel_rfl))
 f233:=Tryz.func205.trans (congrArg some (by kernel_rfl))
 f234:=Tryz.func206.trans (congrArg some (by kernel_rfl))
 f235:=Tryz.func207.trans (congrArg some (by kernel_rfl))
 f236:=Tryz.func208.trans (congrArg some (by kernel_rfl))
 f260:=Tryz.func347.trans (congrArg some (by kernel_rfl))
 f266:=Tryz.func350.trans (congrArg some (by kernel_rfl))
 f271:=Tryz.func275.trans (congrArg some (by kernel_rfl))
 t0:=Tryz.underlying0
 a0:=Tryz.isAgg0
 z0:=Tryz.sizeOf0
 v0:=Tryz.zeroValue0
 t3:=Tryz.underlying3
 a3:=Tryz.isAgg3
 z3:=Tryz.sizeOf3
 v3:=Tryz.zeroValue3
 t4:=Tryz.underlying4
 a4:=Tryz.isAgg4
 z4:=Tryz.sizeOf4
 v4:=Tryz.zeroValue4
 t5:=Tryz.underlying5
 a5:=Tryz.isAgg5
 z5:=Tryz.sizeOf5
 v5:=Tryz.zeroValue5
 t9:=Tryz.underlying9
 a9:=Tryz.isAgg9
 z9:=Tryz.sizeOf9
 v9:=Tryz.zeroValue9
 t21:=Tryz.underlying21
 a21:=Tryz.isAgg21
 z21:=Tryz.sizeOf21
 v21:=Tryz.zeroValue21
 t46:=Tryz.underlying149
 a46:=Tryz.isAgg149
 z46:=Tryz.sizeOf149
 v46:=Tryz.zeroValue149
 t105:=Tryz.underlying330
 a105:=Tryz.isAgg330
 z105:=Tryz.sizeOf330
 v105:=Tryz.zeroValue330
 t116:=Tryz.underlying248
 a116:=Tryz.isAgg248
 z116:=Tryz.sizeOf248
 t117:=Tryz.underlying249
 a117:=Tryz.isAgg249
 z117:=Tryz.sizeOf249
 v117:=Tryz.zeroValue249
 t119:=Tryz.underlying421
 a119:=Tryz.isAgg421
 z119:=Tryz.sizeOf421
 t124:=Tryz.underlying252
 a124:=Tryz.isAgg252
 z124:=Tryz.sizeOf252
 v124:=Tryz.zeroValue252
 t138:=Tryz.underlying423
 a138:=Tryz.isAgg423
 z138:=Tryz.sizeOf423
 v138:=Tryz.zeroValue423
 t139:=Tryz.underlying424
 a139:=Tryz.isAgg424
 z139:=Tryz.sizeOf424
 v139:=Tryz.zeroValue424
 g3:=by kernel_rfl
 g4:=by kernel_rfl}
open Go.RowKit in
theorem Tryz.strings_Trim_one (s:ByteArray) (c:UInt8) (o:c.toNat<128) (w:World) (A:s.size<=9223372036854775807): Calls Tryz.prog 146 #[.string s,.string ⟨#[c]⟩] w fun e w'=>e=.returned (.string ⟨(Lib.trimB s.data.toList c).toArray⟩)/\(w'=w\/w'=w.drew):=Any.strings_Trim_one Tryz.lays160 s c o w A
def Tryz.lays121_ren:Go.Shelf.Ren:=⟨fun|121=>375|214=>409|n=>n,fun|4=>4|9=>9|n=>n,fun|n=>n⟩
theorem Tryz.lays121:Go.Proofs.Lays.n121 Tryz.prog Tryz.lays121_ren:={
 mixed:=by kernel_rfl
 f121:=Tryz.func375.trans (congrArg some (by kernel_rfl))
 f214:=Tryz.func409.trans (congrArg some (by kernel_rfl))
 t4:=Tryz.underlying4
 a4:=Tryz.isAgg4
 z4:=Tryz.sizeOf4
 v4:=Tryz.zeroValue4
 t9:=Tryz.underlying9
 a9:=Tryz.isAgg9
 z9:=Tryz.sizeOf9
 v9:=Tryz.zeroValue9}
open Go.RowKit in
theorem Tryz.strconv_FormatBool (b:Bool) (w:World): Calls Tryz.prog 375 #[.bool b] w fun e w'=>e=.returned (.string ⟨(Lib.formatBool b).toArray⟩)/\w'=w:=Any.strconv_FormatBool Tryz.lays121 b w
def Tryz.lays129_ren:Go.Shelf.Ren:=⟨fun|129=>133|n=>n,fun|53=>192|3=>3|4=>4|46=>149|5=>5|9=>9|n=>n,fun|n=>n⟩
theorem Tryz.lays129:Go.Proofs.Lays.n129 Tryz.prog Tryz.lays129_ren:={
 mixed:=by kernel_rfl
 f129:=Tryz.func133.trans (congrArg some (by kernel_rfl))
 t3:=Tryz.underlying3
 a3:=Tryz.isAgg3
 z3:=Tryz.sizeOf3
 v3:=Tryz.zeroValue3
 t4:=Tryz.underlying4
 a4:=Tryz.isAgg4
 z4:=Tryz.sizeOf4
 v4:=Tryz.zeroValue4
 t5:=Tryz.underlying5
 a5:=Tryz.isAgg5
 z5:=Tryz.sizeOf5
 v5:=Tryz.zeroValue5
 t9:=Tryz.underlying9
 a9:=Tryz.isAgg9
 z9:=Tryz.sizeOf9
 v9:=Tryz.zeroValue9
 t46:=Tryz.underlying149
 a46:=Tryz.isAgg149
 z46:=Tryz.sizeOf149
 v46:=Tryz.zeroValue149
 t53:=Tryz.underlying192
 a53:=Tryz.isAgg192
 z53:=Tryz.sizeOf192
 v53:=Tryz.zeroValue192}
theorem Tryz.bits_Len64 (x:Int) (w:World) (o:0<=x) (h1:x<=18446744073709551615): Calls Tryz.prog 133 #[.int .u64 x] w fun e w'=>e=.returned (.int .i64 (Lib.bitLen x.toNat))/\w'=w:=Any.bits_Len64 Tryz.lays129 x w o h1
def Tryz.laysM173_ren:Go.Shelf.Ren:=⟨fun|173=>239|246=>298|283=>363|284=>364|285=>365|286=>366|129=>133|317=>400|318=>401|319=>402|320=>403|337=>415|338=>416|n=>n,fun|2=>2|3=>3|9=>9|4=>4|171=>398|0=>0|53=>192|37=>163|5=>5|173=>400|212=>430|51=>190|20=>20|213=>431|46=>149|232=>444|233=>445|n=>n,fun|17=>3|18=>6|19=>7|n=>n⟩
theorem Tryz.laysM173:Go.Proofs.LaysM.n173 Tryz.prog Tryz.laysM173_ren:={
 mixed:=by kernel_rfl
 f129:=Tryz.func133.trans (congrArg some (by kernel_rfl))
 f173:=Tryz.func239.trans (congrArg some (by kernel_rfl))
 f246:=Tryz.func298.trans (congrArg some (by kernel_rfl))
 f283:=Tryz.func363.trans (congrArg some (by kernel_rfl))
 f284:=Tryz.func364.trans (congrArg some (by kernel_rfl))
 f285:=Tryz.func365.trans (congrArg some (by kernel_rfl))
 f286:=Tryz.func366.trans (congrArg some (by kernel_rfl))
 f317:=Tryz.func400.trans (congrArg some (by kernel_rfl))
 f318:=Tryz.func401.trans (congrArg some (by kernel_rfl))
 f319:=Tryz.func402.trans (congrArg some (by kernel_rfl))
 f320:=Tryz.func403.trans (congrArg some (by kernel_rfl))
 f337:=Tryz.func415.trans (congrArg some (by kernel_rfl))
 f338:=Tryz.func416.trans (congrArg some (by kernel_rfl))
 t0:=Tryz.underlying0
 a0:=Tryz.isAgg0
 z0:=Tryz.sizeOf0
 v0:=Tryz.zeroValue0
 t2:=Tryz.underlying2
 a2:=Tryz.isAgg2
 z2:=Tryz.sizeOf2
 v2:=Tryz.zeroValue2
 t3:=Tryz.underlying3
 a3:=Tryz.isAgg3
 z3:=Tryz.sizeOf3
 v3:=Tryz.zeroValue3
 t4:=Tryz.underlying4
 a4:=Tryz.isAgg4
 z4:=Tryz.sizeOf4
 v4:=Tryz.zeroValue4
 t5:=Tryz.underlying5
 a5:=Tryz.isAgg5
 z5:=Tryz.sizeOf5
 v5:=Tryz.zeroValue5
 t9:=Tryz.underlying9
 a9:=Tryz.isAgg9
 z9:=Tryz.sizeOf9
 v9:=Tryz.zeroValue9
 t20:=Tryz.underlying20
 a20:=Tryz.isAgg20
 z20:=Tryz.sizeOf20
 v20:=Tryz.zeroValue20
 t37:=Tryz.underlying163
 a37:=Tryz.isAgg163
 z37:=Tryz.sizeOf163
 v37:=Tryz.zeroValue163
 t46:=Tryz.underlying149
 a46:=Tryz.isAgg149
 z46:=Tryz.sizeOf149
 v46:=Tryz.zeroValue149
 t51:=Tryz.underlying190
 a51:=Tryz.isAgg190
 z51:=Tryz.sizeOf190
 v51:=Tryz.zeroValue190
 t53:=Tryz.underlying192
 a53:=Tryz.isAgg192
 z53:=Tryz.sizeOf192
 v53:=Tryz.zeroValue192
 t171:=Tryz.underlying398
 a171:=Tryz.isAgg398
 z171:=Tryz.sizeOf398
 v171:=Tryz.zeroValue398
 t173:=Tryz.underlying400
 a173:=Tryz.isAgg400
 z173:=Tryz.sizeOf400
 v173:=Tryz.zeroValue400
 t212:=Tryz.underlying430
 a212:=Tryz.isAgg430
 z212:=Tryz.sizeOf430
 v212:=Tryz.zeroValue430
 t213:=Tryz.underlying431
 a213:=Tryz.isAgg431
 z213:=Tryz.sizeOf431
 t232:=Tryz.underlying444
 a232:=Tryz.isAgg444
 z232:=Tryz.sizeOf444
 v232:=Tryz.zeroValue444
 t233:=Tryz.underlying445
 a233:=Tryz.isAgg445
 z233:=Tryz.sizeOf445
 v233:=Tryz.zeroValue445
 g17:=by kernel_rfl
 g18:=by kernel_rfl
 g19:=by kernel_rfl
 i0:=by kernel_rfl
 i2:=by kernel_rfl
 i3:=by kernel_rfl
 i4:=by kernel_rfl
 i5:=by kernel_rfl
 i9:=by kernel_rfl
 i20:=by kernel_rfl
 i37:=by kernel_rfl
 i46:=by kernel_rfl
 i51:=by kernel_rfl
 i53:=by kernel_rfl
 i171:=by kernel_rfl
 i173:=by kernel_rfl
 i212:=by kernel_rfl
 i232:=by kernel_rfl
 i233:=by kernel_rfl
 m17:=by kernel_rfl
 m18:=by kernel_rfl
 m19:=by kernel_rfl}
open Go.RowKit Go.Sort Go.Lib in
theorem Tryz.strconv_FormatInt_10 (n:Int) (A: -9223372036854775808<=n) (h1:n<=9223372036854775807) (w:World) (o:Lib.TabIs Tryz.prog w "internal/strconv.uint64pow10" .u64 Lib.pow10Tab): Calls Tryz.prog 239 #[.int .i64 n,.int .i64 10] w fun e w'=>e=.returned (.string ⟨(Lib.itoa n).toArray⟩)/\ ∃k os,w'=grow (w.drewN k) os:=Any.strconv_FormatInt_10 Tryz.laysM173 n A h1 w o
def Tryz.lays219_ren:Go.Shelf.Ren:=⟨fun|219=>209|217=>276|225=>277|224=>278|267=>279|266=>350|314=>351|n=>n,fun|9=>9|3=>3|4=>4|5=>5|46=>149|146=>388|51=>190|n=>n,fun|1=>0|n=>n⟩
theorem Tryz.lays219:Go.Proofs.Lays.n219 Tryz.prog Tryz.lays219_ren:={
 mixed:=by kernel_rfl
 f217:=Tryz.func276.trans (congrArg some (by kernel_rfl))
 f219:=Tryz.func209.trans (congrArg some (by kernel_rfl))
 f224:=Tryz.func278.trans (congrArg some (by kernel_rfl))
 f225:=Tryz.func277.trans (congrArg some (by kernel_rfl))
 f266:=Tryz.func350.trans (congrArg some (by kernel_rfl))
 f267:=Tryz.func279.trans (congrArg some (by kernel_rfl))
 f314:=Tryz.func351.trans (congrArg some (by kernel_rfl))
 t3:=Tryz.underlying3
 a3:=Tryz.isAgg3
 z3:=Tryz.sizeOf3
 v3:=Tryz.zeroValue3
 t4:=Tryz.underlying4
 a4:=Tryz.isAgg4
 z4:=Tryz.sizeOf4
 v4:=Tryz.zeroValue4
 t5:=Tryz.underlying5
 a5:=Tryz.isAgg5
 z5:=Tryz.sizeOf5
 v5:=Tryz.zeroValue5
 t9:=Tryz.underlying9
 a9:=Tryz.isAgg9
 z9:=Tryz.sizeOf9
 v9:=Tryz.zeroValue9
 t46:=Tryz.underlying149
 a46:=Tryz.isAgg149
 z46:=Tryz.sizeOf149
 v46:=Tryz.zeroValue149
 t51:=Tryz.underlying190
 a51:=Tryz.isAgg190
 z51:=Tryz.sizeOf190
 v51:=Tryz.zeroValue190
 t146:=Tryz.underlying388
 a146:=Tryz.isAgg388
 z146:=Tryz.sizeOf388
 v146:=Tryz.zeroValue388
 g1:=by kernel_rfl}
open Go.RowKit Go.Lib in
theorem Tryz.stringslite_Index_one (s:ByteArray) (c:UInt8) (w:World): Calls Tryz.prog 209 #[.string s,.string ⟨#[c]⟩] w fun e w'=>e=.returned (.int .i64 (Lib.indexByte s.data.toList c))/\w'=w:=Any.stringslite_Index_one Tryz.lays219 s c w
def Tryz.lays144_ren:Go.Shelf.Ren:=⟨fun|144=>323|143=>381|219=>209|217=>276|225=>277|224=>278|267=>279|266=>350|314=>351|n=>n,fun|9=>9|4=>4|3=>3|5=>5|46=>149|146=>388|51=>190|n=>n,fun|1=>0|n=>n⟩
theorem Tryz.lays144:Go.Proofs.Lays.n144 Tryz.prog Tryz.lays144_ren:={
 mixed:=by kernel_rfl
 f143:=Tryz.func381.trans (congrArg some (by kernel_rfl))
 f144:=Tryz.func323.trans (congrArg some (by kernel_rfl))
 f217:=Tryz.func276.trans (congrArg some (by kernel_rfl))
 f219:=Tryz.func209.trans (congrArg some (by kernel_rfl))
 f224:=Tryz.func278.trans (congrArg some (by kernel_rfl))
 f225:=Tryz.func277.trans (congrArg some (by kernel_rfl))
 f266:=Tryz.func350.trans (congrArg some (by kernel_rfl))
 f267:=Tryz.func279.trans (congrArg some (by kernel_rfl))
 f314:=Tryz.func351.trans (congrArg some (by kernel_rfl))
 t3:=Tryz.underlying3
 a3:=Tryz.isAgg3
 z3:=Tryz.sizeOf3
 v3:=Tryz.zeroValue3
 t4:=Tryz.underlying4
 a4:=Tryz.isAgg4
 z4:=Tryz.sizeOf4
 v4:=Tryz.zeroValue4
 t5:=Tryz.underlying5
 a5:=Tryz.isAgg5
 z5:=Tryz.sizeOf5
 v5:=Tryz.zeroValue5
 t9:=Tryz.underlying9
 a9:=Tryz.isAgg9
 z9:=Tryz.sizeOf9
 v9:=Tryz.zeroValue9
 t46:=Tryz.underlying149
 a46:=Tryz.isAgg149
 z46:=Tryz.sizeOf149
 v46:=Tryz.zeroValue149
 t51:=Tryz.underlying190
 a51:=Tryz.isAgg190
 z51:=Tryz.sizeOf190
 v51:=Tryz.zeroValue190
 t146:=Tryz.underlying388
 a146:=Tryz.isAgg388
 z146:=Tryz.sizeOf388
 v146:=Tryz.zeroValue388
 g1:=by kernel_rfl}
open Go.RowKit Go.Lib in
theorem Tryz.strings_Contains (s sub:ByteArray) (m:Int) (w:World) (o:s.size<4294967281) (hm:w.cell? ⟨0,0,none⟩=some (.int .i64 m)): Calls Tryz.prog 323 #[.string s,.string sub] w fun e w'=>e=.returned (.bool (Lib.contains s.data.toList sub.data.toList))/\w'=w:=Any.strings_Contains Tryz.lays144 s sub m w o hm
def Tryz.lays264_ren:Go.Shelf.Ren:=⟨fun|264=>227|n=>n,fun|53=>192|46=>149|n=>n,fun|n=>n⟩
theorem Tryz.lays264:Go.Proofs.Lays.n264 Tryz.prog Tryz.lays264_ren:={
 mixed:=by kernel_rfl
 f264:=Tryz.func227.trans (congrArg some (by kernel_rfl))
 t46:=Tryz.underlying149
 a46:=Tryz.isAgg149
 z46:=Tryz.sizeOf149
 v46:=Tryz.zeroValue149
 t53:=Tryz.underlying192
 a53:=Tryz.isAgg192
 z53:=Tryz.sizeOf192
 v53:=Tryz.zeroValue192}
open Go.RowKit Go.Lib in
theorem Tryz.bits_Mul64 (x y:Nat) (o:x<18446744073709551616) (A:y<18446744073709551616) (w:World): Calls Tryz.prog 227 #[.int .u64 x,.int .u64 y] w fun e w'=>e=.returned (.tuple #[.int .u64 ((x*y/18446744073709551616:Nat):Int),.int .u64 ((x*y% 18446744073709551616:Nat):Int)])/\w'=w:=Any.bits_Mul64 Tryz.lays264 x y o A w
def Tryz.laysSlE041_f360_ren:Go.Shelf.Ren:=⟨fun|41=>360|n=>n,fun|22=>45|23=>2|4=>4|n=>n,fun|n=>n⟩
theorem Tryz.laysSlE041_f360:Go.Proofs.SlLaysE0.n41 Tryz.prog Tryz.laysSlE041_f360_ren:={
 mixed:=by kernel_rfl
 f41:=⟨Tryz.f360.name,by decide,Tryz.func360.trans (congrArg some (by kernel_rfl))⟩
 t4:=Tryz.underlying4
 a4:=Tryz.isAgg4
 z4:=Tryz.sizeOf4
 v4:=Tryz.zeroValue4
 t22:=Tryz.underlying45
 a22:=Tryz.isAgg45
 z22:=Tryz.sizeOf45
 v22:=Tryz.zeroValue45}
open Go.RowKit Go.Lib in
theorem Tryz.slices_Clone_f360 (i0:TypeInfo) (z:Value) (size bytes:Nat) (hi:Tryz.prog.info? 2=some i0) (A:i0.zero=some z) (D:i0.size=size) (E:i0.bytes=bytes) (G:z.cells.size=size) (I:0<size) (z23:∀w,(Go.sizeOf 2).run Tryz.prog w=.ok size w) (b off n c:Nat) (news:List Value) (w:World) (K:news.length=n*size) (L:n<=maxLen) (o:n*bytes<=140737488355328) (M:∀j u,news[j]? =some u->w.cell? ⟨b,off+j,none⟩=some u) (h1:∀u∈news,u.oneCell'=true): Calls Tryz.prog 360 #[.slice (some ⟨b,off,none⟩) n c] w fun e w'=>∃J,e=.returned J/\w'.ownsRow w.heap.size 2 size J n news/\J≠ .slice none 0 0/\Below w.heap.size w w':=AnyE.slices_Clone Tryz.laysSlE041_f360 i0 z size bytes hi A D E G I z23 b off n c news w K L o M h1
open Go.RowKit Go.Lib in
theorem Tryz.slices_Clone_nil_f360 (n c:Nat) (w:World): Calls Tryz.prog 360 #[.slice none n c] w fun e w'=>e=.returned (.slice none 0 0)/\w'=w:=AnyE.slices_Clone_nil Tryz.laysSlE041_f360 n c w
end Go.Proofs
end
section
namespace Go.Proofs
open Go.Shelf Go.RowKit
open Tryz
set_option maxHeartbeats 1000000 in
set_option maxRecDepth 100000 in
theorem Tryz.copy_used (b : Nat) (w : World) (A : w.cell? ⟨b, 0, none⟩ = some (.pointer (some ⟨b, 0, none⟩))) :
    Calls prog 359 #[.pointer (some ⟨b, 0, none⟩)] w fun e w' => e = .returned (.tuple #[]) /\ w' = w := by
  obtain ⟨j, o, _⟩ := Option.map_eq_some_iff.1 (show (prog.info? 302).map (·.size) = some 2 by kernel_rfl)
  go_enter func359, ntmps359
  go_wp2
  rw [Lib.run_neq_ptr_same w _ underlying300 o]
  go_wp2
  go_end0
  exact ⟨rfl, rfl⟩
set_option maxHeartbeats 1000000 in
set_option maxRecDepth 100000 in
theorem Tryz.copy_fresh (T : TypeId) (G : T = 302 \/ T = 304) (b : Nat) (w : World) (J : w.cell? ⟨b, 0, none⟩ = some (.pointer none)) (A : w.shape? b = some (T, 2)) (I : w.frozen? ⟨b, 0, none⟩ = false) :
    Calls prog 359 #[.pointer (some ⟨b, 0, none⟩)] w fun e w' => e = .returned (.tuple #[]) /\ w' = w.setCell ⟨b, 0, none⟩ (.pointer (some ⟨b, 0, none⟩)) := by
  obtain ⟨j, E, D⟩ := Option.map_eq_some_iff.1 (show (prog.info? 302).map (·.size) = some 2 by kernel_rfl)
  have o : liesAt prog prog.depth T (2 / prog.cellsOf T) 0 302 1 = true := by
    rcases G with rfl | rfl
    · kernel_rfl
    · kernel_rfl
  go_enter func359, ntmps359
  go_wp2
  rw [Lib.run_to_unsafe w ⟨b, 0, none⟩ underlying300 underlying427 E (by rw [D]; decide) A (Nat.zero_lt_succ 1)]
  simp only [Result.andThen]
  rw [Oper.upon_value]
  go_wp2
  rw [run_callFunc_extern func399 (by kernel_rfl) (by kernel_rfl) (by kernel_rfl) (e := Extern.AbiNoEscape.same) (by kernel_rfl)]
  rw [Lib.run_noEscape]
  simp only [Result.andThen]
  rw [Oper.upon_value]
  go_wp2
  rw [Lib.run_from_unsafe w ⟨b, 0, none⟩ underlying427 underlying300 E A o]
  simp only [Result.andThen]
  rw [Oper.upon_value]
  go_wp2
  go_end0
  exact ⟨rfl, rfl⟩
set_option maxHeartbeats 2000000 in
set_option maxRecDepth 100000 in
theorem Tryz.string_exact (b g cap : Nat) (cur : Array Value) (l : List UInt8) (w : World) (E : l ≠ []) (A : w.cell? ⟨b, 1, none⟩ = some (.slice (some ⟨g, 0, none⟩) l.length cap))
    (I : w.heap[g]? = some (.cells cur 5 (0, 0))) (G : l.length <= cap) (J : cur.size = cap) (D : cap <= maxLen) (K : ∀ (j : Nat) (x : UInt8), l[j]? = some x -> cur[j]? = some (.int .u8 x.toNat)) :
    Calls prog 253 #[.pointer (some ⟨b, 0, none⟩)] w fun e w' => e = .returned (.string ⟨l.toArray⟩) /\ w' = w.drew.freeze ⟨g, 0, none⟩ l.length := by
  have S : 0 < l.length := List.length_pos_iff.2 E
  have c1 : w.drew.cell? ⟨b, 1, none⟩ = some (.slice (some ⟨g, 0, none⟩) l.length cap) := A
  have o : w.drew.heap[g]? = some (.cells cur 5 (0, 0)) := I
  have L : (Builtin.unsafeSliceData_ #[163] 366 #[.slice (some ⟨g, 0, none⟩) l.length cap]).run prog w.drew = .ok (.pointer (some ⟨g, 0, none⟩)) w.drew :=
    Lib.run_unsafeSliceData_row _ _ _ _ _ _ (by omega)
  have M : (Builtin.unsafeString_ #[366, 3] 9 #[.pointer (some ⟨g, 0, none⟩), .int .i64 l.length]).run prog w.drew = .ok (.string ⟨l.toArray⟩) (w.drew.freeze ⟨g, 0, none⟩ l.length) := by
    refine Lib.run_unsafeString_row w.drew 366 3 9 5 underlying366 (by kernel_rfl) g cur.size (by simp [World.shape?, o]) l E (by omega) (by unfold maxLen at D; omega) ?_
    intro j x O
    have := K j x O
    simp only [Addr.add_lit, World.cell?, o, Option.isSome_none, Bool.false_eq_true, if_false, Nat.zero_add]
    exact this
  have mixed : prog.follows .mixedOrders = true := by kernel_rfl
  go_enter func253, ntmps253
  go_wp2
  go_region_o
  all_goals (go_wp2; go_ret; exact ⟨rfl, rfl⟩)
end Go.Proofs
end
section
namespace Go.Al
open Go.Aw Go
inductive ExprD where
 |mk (kind line col:Int) (name:ByteArray) (v:ValD) (args:List ExprD)
namespace ExprD
def kind:ExprD->Int| .mk k _ _ _ _ _=>k
def line:ExprD->Int| .mk _ k _ _ _ _=>k
def col:ExprD->Int| .mk _ _ k _ _ _=>k
def name:ExprD->ByteArray| .mk _ _ _ k _ _=>k
def v:ExprD->ValD| .mk _ _ _ _ k _=>k
def args:ExprD->List ExprD| .mk _ _ _ _ _ k=>k
end ExprD
mutual
def fM:ExprD->List AV
 | .mk kind line col name v args=>[dC kind,aB line,aB col,aE name,dC v.kind,aB v.n,aE v.s,.rd 4 (v.l.map bA),.rd 9 (bRX args)]
def bRX:List ExprD->List (List AV)
 |[]=>[]
 |e::l=>fM e::bRX l
end
theorem bAI:∀l,bRX l=l.map fM
 |[]=>by rfl
 |e::l=>by simp only[bRX,List.map_cons,bAI l]
theorem bK (e:ExprD):fM e=[dC e.kind,aB e.line,aB e.col,aE e.name,dC e.v.kind,aB e.v.n,aE e.v.s,.rd 4 (e.v.l.map bA),.rd 9 (e.args.map fM)]:=by cases e;simp only[fM,bAI,ExprD.kind,ExprD.line,ExprD.col,ExprD.name,ExprD.v,ExprD.args]
@[simp] theorem cFR (e:ExprD):(fM e).length=9:=by rw[bK];rfl
def encEX (e:ExprD):AV:=.agg (fM e)
def lL (s:ByteArray):List AV:=[aE s]
def aZ (l:List ByteArray):List (List AV):=l.map lL
@[simp] theorem cRN (s:ByteArray):(lL s).length=1:=rfl
@[simp] theorem cQF (l:List ByteArray):(aZ l).length=l.length:=by simp[aZ]
inductive PlanD where
 |mk (op:Int) (rel name:ByteArray) (args:List ExprD) (aggs:List ByteArray) (ins:List PlanD)
namespace PlanD
def op:PlanD->Int| .mk k _ _ _ _ _=>k
def rel:PlanD->ByteArray| .mk _ k _ _ _ _=>k
def name:PlanD->ByteArray| .mk _ _ k _ _ _=>k
def args:PlanD->List ExprD| .mk _ _ _ k _ _=>k
def aggs:PlanD->List ByteArray| .mk _ _ _ _ k _=>k
def ins:PlanD->List PlanD| .mk _ _ _ _ _ k=>k
end PlanD
mutual
def dN:PlanD->List AV
 | .mk op rel name args aggs ins=>[dC op,aE rel,aE name,.rd 9 (args.map fM),.rd 1 (aZ aggs),.rd 6 (bRW ins)]
def bRW:List PlanD->List (List AV)
 |[]=>[]
 |e::l=>dN e::bRW l
end
theorem bAH:∀l,bRW l=l.map dN
 |[]=>by rfl
 |e::l=>by simp only[bRW,List.map_cons,bAH l]
theorem cA (p:PlanD):dN p=[dC p.op,aE p.rel,aE p.name,.rd 9 (p.args.map fM),.rd 1 (aZ p.aggs),.rd 6 (p.ins.map dN)]:=by cases p;simp only[dN,bAH,PlanD.op,PlanD.rel,PlanD.name,PlanD.args,PlanD.aggs,PlanD.ins]
@[simp] theorem cFP (p:PlanD):(dN p).length=6:=by rw[cA];rfl
def encPX (p:PlanD):AV:=.agg (dN p)
mutual
def bI:ExprD->Nat
 | .mk _ _ _ name v args=>1+name.size+aY v+aL args
def aL:List ExprD->Nat
 |[]=>0
 |e::l=>bI e+aL l
end
theorem fL (e:ExprD):bI e=1+e.name.size+aY e.v+aL e.args:=by cases e;rfl
theorem aTP:∀l:List ExprD,aL l=(l.map bI).sum
 |[]=>rfl
 |e::l=>by simp only[aL,List.map_cons,List.sum_cons,aTP l]
theorem aDQ (a b:List ExprD):aL (a++b)=aL a+aL b:=by simp[aTP]
theorem fI:∀l:List ExprD,l.length<=aL l
 |[]=>by simp
 |e::l=>by have:=fI l;grind [fL,aL,List.length_cons]
theorem rM (l:List ExprD) (i:Nat) (h:i<l.length):aL (l.take (i+1))=aL (l.take i)+bI l[i]:=by grind [List.take_succ_eq_append_getElem,aDQ,aL]
theorem pP (l:List ExprD) (i:Nat):aL (l.take i)<=aL l:=by grind [aDQ,List.take_append_drop]
theorem fA {e:ExprD}:∀ {l:List ExprD},e∈l->bI e<=aL l|x::l,h=>by simp only[aL];rcases List.mem_cons.1 h with rfl|h;{omega};{have:=fA h;omega}
def nM (l:List ByteArray):Nat:=(l.map fun s=>1+s.size).sum
theorem xZ (l:List ByteArray):l.length<=nM l:=by induction l with|nil=>simp|cons a l o=>grind [nM,List.length_cons]
mutual
def bC:PlanD->Nat
 | .mk _ rel name args aggs ins=>1+rel.size+name.size+aL args+nM aggs+eG ins
def eG:List PlanD->Nat
 |[]=>0
 |e::l=>bC e+eG l
end
theorem nB (p:PlanD):bC p=1+p.rel.size+p.name.size+aL p.args+nM p.aggs+eG p.ins:=by cases p;rfl
theorem lT:∀l:List PlanD,l.length<=eG l
 |[]=>by simp
 |e::l=>by have:=lT l;grind [nB,eG,List.length_cons]
theorem jU {e:PlanD}:∀ {l:List PlanD},e∈l->bC e<=eG l|x::l,h=>by simp only[eG];rcases List.mem_cons.1 h with rfl|h;{omega};{have:=jU h;omega}
mutual
def cK:ExprD->Nat
 | .mk _ _ _ _ _ args=>mM args+1
def mM:List ExprD->Nat
 |[]=>0
 |e::l=>max (cK e) (mM l)
end
theorem bAP (e:ExprD):cK e=mM e.args+1:=by cases e;rfl
mutual
theorem xI:∀e:ExprD,cK e<=bI e| .mk _ _ _ _ _ l=>by have:=aFP l;grind [cK,bI]
theorem aFP:∀l:List ExprD,mM l<=aL l
 |[]=>by simp[mM]
 |e::l=>by have:=xI e;have:=aFP l;grind [mM,aL]
end
mutual
def cS:PlanD->Nat
 | .mk _ _ _ _ _ ins=>eY ins+1
def eY:List PlanD->Nat
 |[]=>0
 |e::l=>max (cS e) (eY l)
end
theorem bXU (e:PlanD):cS e=eY e.ins+1:=by cases e;rfl
theorem aTV (a b:List PlanD):eY (a++b)=max (eY a) (eY b):=by induction a with|nil=>rfl|cons x a o=>simp_all [List.cons_append,eY]
theorem bEC (l:List PlanD) (k:Nat) (h:k<l.length):eY (l.take (k+1))=max (eY (l.take k)) (cS l[k]):=by grind [List.take_succ_eq_append_getElem,aTV,eY]
mutual
theorem bXT:∀e:PlanD,cS e<=bC e| .mk _ _ _ _ _ l=>by have:=aFO l;grind [cS,bC]
theorem aFO:∀l:List PlanD,eY l<=eG l
 |[]=>by simp[eY]
 |e::l=>by have:=bXT e;have:=aFO l;grind [eY,eG]
end
mutual
def zS:PlanD->Nat->Bool
 | .mk _ _ _ _ _ ins,n=>decide (64<n)||deepsP ins (n+1)
def deepsP:List PlanD->Nat->Bool
 |[],_=>false
 |p::l,n=>zS p n||deepsP l n
end
theorem cFX (p:PlanD) (n:Nat):zS p n=(decide (64<n)||deepsP p.ins (n+1)):=by cases p;rfl
theorem aTZ:∀ (l:List PlanD) (n:Nat),deepsP l n=l.any fun p=>zS p n
 |[],n=>rfl
 |p::l,n=>by rw[deepsP,List.any_cons,aTZ l n]
mutual
theorem bAQ:∀ (p:PlanD) (n:Nat),n<=65->(zS p n=true↔65<n+cS p)| .mk _ _ _ _ _ l,n,h=>by simp only[zS,cS,Bool.or_eq_true,decide_eq_true_eq];by_cases o:64<n;{omega};{rw[aTY l (n+1) (by omega)];omega}
theorem aTY:∀ (l:List PlanD) (n:Nat),n<=65->(deepsP l n=true↔65<n+eY l)|[],n,h=>by simp_all [deepsP,eY]|q::l,n,h=>by simp only[deepsP,eY,Bool.or_eq_true];rw[bAQ q n h,aTY l n h];omega
end
theorem bXV (p:PlanD):zS p 1=decide (64<cS p):=by rw[Bool.eq_iff_iff,bAQ p 1 (by omega),decide_eq_true_eq];omega
end Go.Al
end
section
namespace Go.Al
open Go.Aw Go
def words:List ByteArray:=[⟨#[109,111,100,117,108,101]⟩,⟨#[105,109,112,111,114,116]⟩,⟨#[112,117,98]⟩,⟨#[116,121,112,101]⟩,⟨#[105,110,112,117,116]⟩,⟨#[114,101,108]⟩,⟨#[110,101,118,101,114]⟩,⟨#[110,111,116]⟩,⟨#[97,110,100]⟩,⟨#[111,114]⟩,⟨#[105,102]⟩,⟨#[116,104,101,110]⟩,⟨#[101,108,115,101]⟩,⟨#[116,114,117,101]⟩,⟨#[102,97,108,115,101]⟩,⟨#[99,111,117,110,116]⟩,⟨#[115,117,109]⟩,⟨#[109,105,110]⟩,⟨#[109,97,120]⟩,⟨#[110,101,103]⟩,⟨#[108,101,110]⟩,⟨#[98,105,103]⟩,⟨#[105,110,116]⟩,⟨#[98,111,111,108]⟩,⟨#[116,101,120,116]⟩,⟨#[116,117,112,108,101]⟩]
def ops:List ByteArray:=[⟨#[43]⟩,⟨#[45]⟩,⟨#[42]⟩,⟨#[47]⟩,⟨#[37]⟩,⟨#[43,43]⟩,⟨#[61,61]⟩,⟨#[33,61]⟩,⟨#[60]⟩,⟨#[60,61]⟩,⟨#[62]⟩,⟨#[62,61]⟩,⟨#[97,110,100]⟩,⟨#[111,114]⟩]
def cOU (s:ByteArray):Bool:=ops.any fun o=>decide (o=s)
def aGY (s:ByteArray):Bool:=words.any fun w=>decide (w=s)
def bGC:ByteArray:=⟨#[110,111,116]⟩
def aGJ:ByteArray:=⟨#[110,101,103]⟩
def bBU:ByteArray:=⟨#[108,101,110]⟩
def bBW:ByteArray:=⟨#[98,105,103]⟩
def bBV:ByteArray:=⟨#[105,110,116]⟩
def function (s:ByteArray):Bool:=decide (s=aGJ)||decide (s=bBU)||decide (s=bBW)||decide (s=bBV)
def aDU (s:ByteArray):Int:=if cOU s=true then 2 else if(decide (s=bGC)||function s)=true then 1 else 0
def nameR (s:ByteArray):Bool:=oS s&& !aGY s
def aWA (s:ByteArray):Bool:=if dL s 0<s.size then nameR (s.extract 0 (dL s 0))&&nameR (s.extract (dL s 0+1) s.size)else nameR s
def upB (c:Int):Bool:=decide (65<=c)&&decide (c<=90)
def varB (s:ByteArray):Bool:=!decide (s=⟨#[]⟩)&&decide (s.size<=32)&&upB (chr s 0)&&dE iG s 0
def noneV (v:ValD):Bool:=decide (v.kind=0)&&decide (v.n=0)&&decide (v.s=⟨#[]⟩)&&decide (v.l.length=0)
def eH (e:ExprD) (pat:Bool):Bool:=
 if e.kind=1 then decide (1<=e.v.kind)&&decide (e.v.kind<=4)&&decide (cF e.v=0)&&decide (e.args.length=0)&&decide (e.name=⟨#[]⟩)
 else if e.kind=2 then varB e.name&&decide (e.args.length=0)
 else if e.kind=3 then pat&&decide (e.name=⟨#[]⟩)&&decide (e.args.length=0)
 else if e.kind=4 then decide (e.name=⟨#[]⟩)&& !decide (e.args.length=1)&&decide (e.args.length<=16)
 else if e.kind=5 then aWA e.name&&decide (e.args.length<=8)
 else if e.kind=6 then !pat&&decide (0<aDU e.name)&&decide ((e.args.length:Int)=aDU e.name)
 else if e.kind=7 then !pat&&nameR e.name&&decide (e.args.length=1)
 else if e.kind=8 then !pat&&decide (e.name=⟨#[]⟩)&&decide (e.args.length=3)
 else false
mutual
def good (pat:Bool):ExprD->Bool
 | .mk kind line col name v args=>eH (.mk kind line col name v args) pat&&(decide (kind=1)||noneV v)&&kS pat args
def kS (pat:Bool):List ExprD->Bool
 |[]=>true
 |e::l=>good pat e&&kS pat l
end
theorem pL (pat:Bool) (e:ExprD):good pat e=(eH e pat&&(decide (e.kind=1)||noneV e.v)&&kS pat e.args):=by cases e;rfl
theorem xB (pat:Bool):∀l,kS pat l=l.all (good pat)
 |[]=>rfl
 |e::l=>by rw[kS,List.all_cons,xB pat l]
def may (pat:Bool) (e:ExprD):Bool:=decide (cK e<=64)&&good pat e
def aQA:ByteArray:=⟨#[32,109,111,100,117,108,101,32,105,109,112,111,114,116,32,112,117,98,32,116,121,112,101,32,105,110,112,117,116,32,114,101,108,32,110,101,118,101,114,32,110,111,116,32,97,110,100,32,111,114,32,105,102,32,116,104,101,110,32,101,108,115,101,32,116,114,117,101,32,102,97,108,115,101,32,99,111,117,110,116,32,115,117,109,32,109,105,110,32,109,97,120,32,110,101,103,32,108,101,110,32,98,105,103,32,105,110,116,32,98,111,111,108,32,116,101,120,116,32,116,117,112,108,101,32]⟩
def fields:List UInt8->List UInt8->List (List UInt8)
 |[],cur=>[cur.reverse]
 |c::l,cur=>if c=32 then cur.reverse::fields l []else fields l (c::cur)
theorem bIV (s post:List UInt8) (o:(32:UInt8)∉s):∀cur,fields (s++32::post) cur=(cur.reverse++s)::fields post []:=by induction s with|nil=>simp[fields]|cons c s A=>intro cur;have D:c≠32:=fun e=>o (by simp[e]);simp_all [List.mem_cons_of_mem,List.cons_append,fields,if_neg]
theorem bNT (pre rest:List UInt8):∀cur,∃xs,fields (pre++32::rest) cur=xs++fields rest []:=by induction pre with|nil=>intro cur;exact⟨[cur.reverse],by rfl⟩|cons c pre o=>intro cur;rw[List.cons_append,fields];split;{obtain⟨xs,A⟩:=o [];exact⟨cur.reverse::xs,by rw[A];rfl⟩};simp[*]
theorem bNU (pre s post R:List UInt8) (o:(32:UInt8)∉s) (h:R=pre++32::(s++32::post)):s∈fields R []:=by obtain⟨xs,A⟩:=bNT pre (s++32::post) [];simp_all [bIV]
theorem bIW:fields (bl aQA) []=[]::(words.map bl++[[]]):=by decide+kernel
end Go.Al
end
section
namespace Go.Al
open Go.Aw Go
def has (l:List ByteArray) (s:ByteArray):Bool:=l.any fun w=>decide (w=s)
def add (l:List ByteArray) (s:ByteArray):List ByteArray:=if has l s=true then l else l++[s]
def cJ (l m:List ByteArray):List ByteArray:=m.foldl add l
theorem eT (l:List ByteArray) (s:ByteArray):has l s=true↔s∈l:=by simp[has,List.any_eq_true,decide_eq_true_eq]
theorem aHU (l:List ByteArray) (s x:ByteArray):x∈add l s↔x∈l\/x=s:=by grind [add,eT]
theorem qJ (m:List ByteArray):∀ (l:List ByteArray) (x:ByteArray),x∈cJ l m↔x∈l\/x∈m:=by induction m with|nil=>simp[cJ]|cons a m o=>intro l x;show x∈cJ (add l a) m↔_;rw[o,aHU,List.mem_cons,or_assoc]
theorem qS (l a b:List ByteArray):cJ l (a++b)=cJ (cJ l a) b:=by simp[cJ,List.foldl_append]
theorem aWK (m:List ByteArray):∀ (l k:List ByteArray),cJ l (cJ k m)=cJ (cJ l k) m:=by induction m with|nil=>intro l k;rfl|cons a m o=>intro l k;show cJ l (cJ (add k a) m)=cJ (add (cJ l k) a) m;rw[o];congr 1;by_cases h:a∈k;{have h1:has k a=true:=(eT _ _).2 h;have A:has (cJ l k) a=true:=(eT _ _).2 ((qJ _ _ _).2 (.inr h));simp_all [add,if_pos]};{have h1:has k a=false:=(by grind [has,absurd,eT]);have e:add k a=k++[a]:=(by simp_all [add]);rw[e,qS];rfl}
theorem bOV (m:List ByteArray) (l:List ByteArray):cJ l (cJ [] m)=cJ l m:=by rw[aWK];rfl
def cRQ (l:List ByteArray):Prop:=l.Nodup
theorem bBF {l:List ByteArray} (s:ByteArray) (h:l.Nodup):(add l s).Nodup:=by grind [add,List.nodup_append,eT]
theorem aJG (m:List ByteArray):∀ {l:List ByteArray},l.Nodup->(cJ l m).Nodup:=by induction m with|nil=>intro l h;exact h|cons a m o=>intro l h;exact o (bBF a h)
theorem aDW:∀ (m l:List ByteArray),m.Nodup->cJ l m=l++m.filter fun s=>!has l s:=by intro m;induction m with|nil=>simp[cJ]|cons a m D=>intro l h;rw[List.nodup_cons]at h;show cJ (add l a) m=_;rw[D _ h.2];have E:(m.filter fun s=>!has (add l a) s)=m.filter fun s=>!has l s:=(by refine List.filter_congr fun x G=>?_;have o:x≠a:=fun e=>h.1 (e▸G);have:has (add l a) x=has l x:=(by rw[Bool.eq_iff_iff,eT,eT,aHU];simp[o]);rw[this]);rw[E,List.filter_cons];by_cases A:has l a=true;{have e:add l a=l:=(by unfold add;rw[if_pos A]);rw[e,A];simp};simp_all [add,if_neg,has]
mutual
def cAO (acc:List ByteArray):ExprD->List ByteArray
 | .mk kind _ _ name _ args=>if kind=2 then add acc name else fO acc args
def fO (acc:List ByteArray):List ExprD->List ByteArray
 |[]=>acc
 |e::l=>fO (cAO acc e) l
end
mutual
def oF (acc:List ByteArray):ExprD->List ByteArray
 | .mk kind _ _ name _ args=>cJ (if kind=2 then add acc name else acc) (bL [] args)
def bL (acc:List ByteArray):List ExprD->List ByteArray
 |[]=>acc
 |e::l=>bL (oF acc e) l
end
theorem bFL (acc:List ByteArray) (e:ExprD):oF acc e=cJ (if e.kind=2 then add acc e.name else acc) (bL [] e.args):=by cases e;rfl
theorem bFK (acc:List ByteArray) (l:List ExprD) (k:Nat) (h:k<l.length):bL acc (l.take (k+1))=oF (bL acc (l.take k)) l[k]:=by
 have app:∀ (a b:List ExprD) (acc:List ByteArray),bL acc (a++b)=bL (bL acc a) b:=by intro a;induction a with|nil=>intro b acc;rfl|cons x a o=>simp_all [List.cons_append,bL]
 rw[List.take_succ_eq_append_getElem h,app];rfl
mutual
def occ:ExprD->List ByteArray
 | .mk kind _ _ name _ args=>if kind=2 then[name]else mI args
def mI:List ExprD->List ByteArray
 |[]=>[]
 |e::l=>occ e++mI l
end
mutual
theorem bTJ:∀ (e:ExprD) (acc:List ByteArray),cAO acc e=cJ acc (occ e)| .mk kind _ _ name _ args,acc=>by simp only[cAO,occ];split;{rfl};{exact lM args acc}
theorem lM:∀ (l:List ExprD) (acc:List ByteArray),fO acc l=cJ acc (mI l)
 |[],acc=>rfl
 |e::l,acc=>by simp only[fO,mI,qS,bTJ e acc,lM l]
end
theorem cEO {pat:Bool} {e:ExprD} (h:good pat e=true) (hk:e.kind=2):e.args=[]:=by rw[pL]at h;simp only[Bool.and_eq_true]at h;have h1:=h.1.1;unfold eH at h1;simp_all
mutual
theorem bTH (pat:Bool):∀ (e:ExprD) (acc:List ByteArray),good pat e=true->oF acc e=cJ acc (occ e)| .mk kind line col name v args,acc,h=>by have o:kind=2->args=[]:=fun hk=>cEO h hk;have A:kS pat args=true:=(by rw[pL]at h;simp only[Bool.and_eq_true]at h;exact h.2);simp only[oF,occ];by_cases hk:kind=2;{rw[if_pos hk,if_pos hk,o hk];rfl};{rw[if_neg hk,if_neg hk,aDZ pat args [] A,bOV]}
theorem aDZ (pat:Bool):∀ (l:List ExprD) (acc:List ByteArray),kS pat l=true->bL acc l=cJ acc (mI l)|[],acc,_=>rfl|e::l,acc,h=>by simp only[kS,Bool.and_eq_true]at h;simp only[bL,mI,qS,bTH pat e acc h.1,aDZ pat l _ h.2]
end
theorem aXA (pat:Bool) (l:List ExprD) (h:kS pat l=true):bL [] l=fO [] l:=by grind [aDZ,lM]
theorem aGH (l:List ExprD):(fO [] l).Nodup:=by simp[lM,aJG,List.nodup_nil]
structure eL where
 names:List ByteArray
 bare:Bool
 width:Int
def gC:eL:=⟨[],false,0⟩
def rS:ByteArray:=⟨#[99,111,117,110,116]⟩
def bLJ:ByteArray:=⟨#[115,117,109]⟩
def aVM:ByteArray:=⟨#[109,105,110]⟩
def aVN:ByteArray:=⟨#[109,97,120]⟩
def aOE (s:ByteArray):Bool:=decide (s=⟨#[]⟩)||decide (s=rS)||decide (s=bLJ)||decide (s=aVM)||decide (s=aVN)
def nIn (op:Int):Int:=if op=1\/op=2 then 0 else if op=3 then 2 else if op=9 then-1 else 1
def aDI (op:Int):Bool:=decide (op=2)||decide (op=4)
def tS (p:PlanD) (n:Nat):Bool:=decide (1<=p.op)&&decide (p.op<=9)&&(if p.op=9 then decide (0<n)else decide ((n:Int)=nIn p.op))
def sG (p:PlanD):Bool:=
 (aDI p.op||decide (p.rel=⟨#[]⟩))&&(decide (p.op=6)||decide (p.name=⟨#[]⟩))&&(decide (p.op=2)||(decide (4<=p.op)&&decide (p.op<=8))||decide (p.args.length=0))&&(decide (p.op=8)||decide (p.aggs.length=0))
def wC (p:PlanD):Bool:=(!(decide (p.op=5)||decide (p.op=6))||decide (p.args.length=1))&&(!decide (p.op=6)||varB p.name)&&(!decide (p.op=8)||decide (p.aggs.length=p.args.length))
def aWE (p:PlanD) (ins:List eL):Bool:=ins.all fun s=>(s.bare==decide (p.op=9))&&(!decide (p.op=9)||decide (s.width=(ins.headD gC).width))
def right (p:PlanD) (ins:List eL):Bool:=tS p ins.length&&sG p&&wC p&&p.aggs.all aOE&&aWE p ins&&p.args.all (may (aDI p.op))
def jW (p:PlanD) (ins:List eL):List ByteArray:=
 if p.op=2 then fO [] p.args else if p.op=3 then cJ (ins.headD gC).names (ins.getD 1 gC).names else if p.op=6 then add (ins.headD gC).names p.name else if 5<=p.op then(ins.headD gC).names else[]
def own (p:PlanD) (ins:List eL):eL×Int:=
 if right p ins=false then(gC,4)
 else if p.op=4\/p.op=9 then(ins.headD gC,0)
 else if 5<=p.op/\((fO [] p.args).all fun s=>has (ins.headD gC).names s)=false then(gC,71)
 else if p.op=7\/p.op=8 then(⟨[],true,p.args.length⟩,0)
 else(⟨jW p ins,false,(jW p ins).length⟩,0)
mutual
def shape:PlanD->eL×Int
 | .mk op rel name args aggs ins=>if(gL ins).2=0 then own (.mk op rel name args aggs ins) (gL ins).1 else(gC,(gL ins).2)
def gL:List PlanD->List eL×Int
 |[]=>([],0)
 |p::l=>if(shape p).2=0 then(if(gL l).2=0 then((shape p).1::(gL l).1,0)else([],(gL l).2))else([],(shape p).2)
end
theorem qX (p:PlanD):shape p=if(gL p.ins).2=0 then own p (gL p.ins).1 else(gC,(gL p.ins).2):=by cases p;rfl
def bV (p:PlanD):List ByteArray×Int×Int:=
 if 64<cS p then([],0,65)else if(shape p).2=0 then((shape p).1.names,(shape p).1.width,0)else([],0,(shape p).2)
end Go.Al
end
section
namespace Go.Al
open Go.Aw Go
mutual
def vN:ValD->Nat
 | .mk _ _ s l=>s.size/64+vNs l l.length
def vNs:List ValD->Nat->Nat
 |[],n=>n
 |v::l,n=>if n<3000 then vNs l (n+vN v)else n
end
theorem cQO (v:ValD):vN v=v.s.size/64+vNs v.l v.l.length:=by cases v;rfl
theorem bFP (l:List ValD) (k n:Nat) (h:k<l.length):vNs (l.drop k) n=if n<3000 then vNs (l.drop (k+1)) (n+vN l[k])else n:=by rw[List.drop_eq_getElem_cons h,vNs]
mutual
theorem cNC:∀v:ValD,vN v+1<=2*aY v| .mk _ _ s l=>by have:=bLE l l.length;grind [vN,aY]
theorem bLE:∀ (l:List ValD) (n:Nat),vNs l n+l.length<=n+2*aJ l
 |[],n=>by simp[vNs,aJ]
 |v::l,n=>by simp only[vNs,aJ,List.length_cons];have h1:=cNC v;split;{have o:=bLE l (n+vN v);omega};grind [bJ]
end
theorem bLF:∀ (l:List ValD) (n:Nat),n<=vNs l n
 |[],n=>by simp[vNs]
 |v::l,n=>by simp only[vNs];split;{have:=bLF l (n+vN v);omega};{omega}
def eO (l:List ValD):Nat:=vNs l l.length
theorem xX (l:List ValD):eO l<=2*aJ l:=by have:=bLE l l.length;grind [eO]
theorem cNB (v:ValD):eO [v]=1+vN v:=by rfl
mutual
def eN:ExprD->Nat
 | .mk _ _ _ _ v args=>eNs args args.length+(1+vN v)
def eNs:List ExprD->Nat->Nat
 |[],n=>n
 |e::l,n=>if n<1000 then eNs l (n+eN e)else n
end
theorem cRP (e:ExprD):eN e=eNs e.args e.args.length+eO [e.v]:=by cases e;rfl
theorem bJE (l:List ExprD) (k n:Nat) (h:k<l.length):eNs (l.drop k) n=if n<1000 then eNs (l.drop (k+1)) (n+eN l[k])else n:=by rw[List.drop_eq_getElem_cons h,eNs]
mutual
theorem cRO:∀e:ExprD,eN e+1<=3*bI e| .mk _ _ _ _ v l=>by have:=bOA l l.length;have:=cNC v;grind [eN,bI]
theorem bOA:∀ (l:List ExprD) (n:Nat),eNs l n+l.length<=n+3*aL l
 |[],n=>by simp[eNs,aL]
 |e::l,n=>by simp only[eNs,aL,List.length_cons];have h1:=cRO e;split;{have o:=bOA l (n+eN e);omega};grind [fI]
end
theorem bOB:∀ (l:List ExprD) (n:Nat),n<=eNs l n
 |[],n=>by simp[eNs]
 |e::l,n=>by simp only[eNs];split;{have:=bOB l (n+eN e);omega};{omega}
def fD (l:List ExprD):Nat:=eNs l l.length
theorem aCQ (l:List ExprD):fD l<=3*aL l:=by have:=bOA l l.length;grind [fD]
mutual
def wN:PlanD->Nat
 | .mk _ _ _ args aggs ins=>wNs ins (1+eNs args args.length+aggs.length)
def wNs:List PlanD->Nat->Nat
 |[],n=>n
 |p::l,n=>if n<300 then wNs l (n+wN p)else n
end
theorem cNA (p:PlanD):wN p=wNs p.ins (1+fD p.args+p.aggs.length):=by cases p;rfl
theorem bFI (l:List PlanD) (k n:Nat) (h:k<l.length):wNs (l.drop k) n=if n<300 then wNs (l.drop (k+1)) (n+wN l[k])else n:=by rw[List.drop_eq_getElem_cons h,wNs]
mutual
theorem cAJ:∀p:PlanD,wN p<=3*bC p| .mk _ _ _ args aggs ins=>by have:=cAH ins (1+eNs args args.length+aggs.length);have:=aCQ args;grind [xZ,fD,wN,bC]
theorem cAH:∀ (l:List PlanD) (n:Nat),wNs l n<=n+3*eG l
 |[],n=>by simp[wNs,eG]
 |p::l,n=>by simp only[wNs,eG];have h1:=cAJ p;split;{have o:=cAH l (n+wN p);omega};{omega}
end
theorem cAI:∀ (l:List PlanD) (n:Nat),n<=wNs l n
 |[],n=>by simp[wNs]
 |p::l,n=>by simp only[wNs];split;{have:=cAI l (n+wN p);omega};{omega}
mutual
def cNG:ValD->ValD->Bool
 | .mk k n s l,w=>decide (k=w.kind)&&decide (n=w.n)&&decide (s=w.s)&&cBL l w.l
def cBL:List ValD->List ValD->Bool
 |[],[]=>true
 |v::l,w::m=>cNG v w&&cBL l m
 |_,_=>false
end
mutual
def cQT:ExprD->ExprD->Bool
 | .mk k _ _ o v l,w=>decide (k=w.kind)&&decide (o=w.name)&&cNG v w.v&&bLZ l w.args
def bLZ:List ExprD->List ExprD->Bool
 |[],[]=>true
 |v::l,w::m=>cQT v w&&bLZ l m
 |_,_=>false
end
mutual
def cQS:PlanD->PlanD->Bool
 | .mk o r n a g l,w=>decide (o=w.op)&&decide (r=w.rel)&&decide (n=w.name)&&bLZ a w.args&&decide (g=w.aggs)&&cBM l w.ins
def cBM:List PlanD->List PlanD->Bool
 |[],[]=>true
 |v::l,w::m=>cQS v w&&cBM l m
 |_,_=>false
end
theorem bVF (p:PlanD) (ins:List eL) (h:∀s∈ins,s.names.Nodup):(own p ins).1.names.Nodup:=by
 have o:(ins.headD gC).names.Nodup:=by cases ins with|nil=>exact List.nodup_nil|cons a l=>simp[*]
 unfold own;split;{exact List.nodup_nil};{split;{exact o};{split;{exact List.nodup_nil};grind [List.nodup_nil,jW,aGH,aJG,bBF]}}
mutual
theorem oK:∀p:PlanD,(shape p).1.names.Nodup| .mk op rel name args aggs ins=>by rw[qX];split;{exact bVF _ _ (aGQ ins)};{exact List.nodup_nil}
theorem aGQ:∀l:List PlanD,∀s∈(gL l).1,s.names.Nodup
 |[],s,h=>by grind [gL]
 |p::l,s,h=>by simp only[gL]at h;split at h;{split at h;{rcases List.mem_cons.1 h with rfl|h;{exact oK p};{exact aGQ l s h}};{simp at h}};{simp at h}
end
end Go.Al
end
section
namespace Go.Proofs
open Go.Shelf
def Tryz.sortL_ren:Go.Shelf.Ren:=⟨fun|6=>56|15=>91|14=>90|28=>132|29=>133|20=>124|21=>125|22=>126|23=>127|24=>128|25=>129|26=>130|27=>131|46=>183|47=>184|48=>185|49=>186|50=>187|57=>242|n=>n,fun|22=>66|24=>31|25=>103|3=>3|39=>149|0=>0|53=>190|55=>192|4=>4|46=>184|45=>183|50=>158|5=>5|9=>9|66=>221|70=>225|76=>291|77=>292|n=>n,fun|n=>n⟩
theorem Tryz.sortL:Go.Proofs.SlLaysF.n6 Tryz.prog Tryz.sortL_ren:={
 mixed:=by kernel_rfl
 f6:=⟨Tryz.f56.name,by decide,Tryz.func56.trans (congrArg some (by kernel_rfl))⟩
 f14:=⟨Tryz.f90.name,by decide,Tryz.func90.trans (congrArg some (by kernel_rfl))⟩
 f15:=Tryz.func91.trans (congrArg some (by kernel_rfl))
 f20:=⟨Tryz.f124.name,by decide,Tryz.func124.trans (congrArg some (by kernel_rfl))⟩
 f21:=⟨Tryz.f125.name,by decide,Tryz.func125.trans (congrArg some (by kernel_rfl))⟩
 f22:=⟨Tryz.f126.name,by decide,Tryz.func126.trans (congrArg some (by kernel_rfl))⟩
 f23:=⟨Tryz.f127.name,by decide,Tryz.func127.trans (congrArg some (by kernel_rfl))⟩
 f24:=⟨Tryz.f128.name,by decide,Tryz.func128.trans (congrArg some (by kernel_rfl))⟩
 f25:=⟨Tryz.f129.name,by decide,Tryz.func129.trans (congrArg some (by kernel_rfl))⟩
 f26:=⟨Tryz.f130.name,by decide,Tryz.func130.trans (congrArg some (by kernel_rfl))⟩
 f27:=⟨Tryz.f131.name,by decide,Tryz.func131.trans (congrArg some (by kernel_rfl))⟩
 f28:=Tryz.func132.trans (congrArg some (by kernel_rfl))
 f29:=Tryz.func133.trans (congrArg some (by kernel_rfl))
 f46:=⟨Tryz.f183.name,by decide,Tryz.func183.trans (congrArg some (by kernel_rfl))⟩
 f47:=Tryz.func184.trans (congrArg some (by kernel_rfl))
 f48:=Tryz.func185.trans (congrArg some (by kernel_rfl))
 f49:=⟨Tryz.f186.name,by decide,Tryz.func186.trans (congrArg some (by kernel_rfl))⟩
 f50:=⟨Tryz.f187.name,by decide,Tryz.func187.trans (congrArg some (by kernel_rfl))⟩
 f57:=⟨Tryz.f242.name,by decide,Tryz.func242.trans (congrArg some (by kernel_rfl))⟩
 t0:=Tryz.underlying0
 a0:=Tryz.isAgg0
 z0:=Tryz.sizeOf0
 v0:=Tryz.zeroValue0
 t3:=Tryz.underlying3
 a3:=Tryz.isAgg3
 z3:=Tryz.sizeOf3
 v3:=Tryz.zeroValue3
 t4:=Tryz.underlying4
 a4:=Tryz.isAgg4
 z4:=Tryz.sizeOf4
 v4:=Tryz.zeroValue4
 t5:=Tryz.underlying5
 a5:=Tryz.isAgg5
 z5:=Tryz.sizeOf5
 v5:=Tryz.zeroValue5
 t9:=Tryz.underlying9
 a9:=Tryz.isAgg9
 z9:=Tryz.sizeOf9
 v9:=Tryz.zeroValue9
 t22:=Tryz.underlying66
 a22:=Tryz.isAgg66
 z22:=Tryz.sizeOf66
 v22:=Tryz.zeroValue66
 a24:=Tryz.isAgg31
 z24:=Tryz.sizeOf31
 t25:=Tryz.underlying103
 a25:=Tryz.isAgg103
 z25:=Tryz.sizeOf103
 v25:=Tryz.zeroValue103
 t39:=Tryz.underlying149
 a39:=Tryz.isAgg149
 z39:=Tryz.sizeOf149
 v39:=Tryz.zeroValue149
 t45:=Tryz.underlying183
 a45:=Tryz.isAgg183
 z45:=Tryz.sizeOf183
 v45:=Tryz.zeroValue183
 t46:=Tryz.underlying184
 a46:=Tryz.isAgg184
 z46:=Tryz.sizeOf184
 v46:=Tryz.zeroValue184
 t50:=Tryz.underlying158
 a50:=Tryz.isAgg158
 z50:=Tryz.sizeOf158
 v50:=Tryz.zeroValue158
 t53:=Tryz.underlying190
 a53:=Tryz.isAgg190
 z53:=Tryz.sizeOf190
 v53:=Tryz.zeroValue190
 t55:=Tryz.underlying192
 a55:=Tryz.isAgg192
 z55:=Tryz.sizeOf192
 v55:=Tryz.zeroValue192
 t66:=Tryz.underlying221
 a66:=Tryz.isAgg221
 z66:=Tryz.sizeOf221
 v66:=Tryz.zeroValue221
 t70:=Tryz.underlying225
 a70:=Tryz.isAgg225
 z70:=Tryz.sizeOf225
 v70:=Tryz.zeroValue225
 t76:=Tryz.underlying291
 a76:=Tryz.isAgg291
 z76:=Tryz.sizeOf291
 v76:=Tryz.zeroValue291
 t77:=Tryz.underlying292
 a77:=Tryz.isAgg292
 z77:=Tryz.sizeOf292
 v77:=Tryz.zeroValue292}
end Go.Proofs
end
