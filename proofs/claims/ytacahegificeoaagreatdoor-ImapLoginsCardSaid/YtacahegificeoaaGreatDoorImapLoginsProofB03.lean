/- Contracts of functions. Conditions: as stated. -/
import Derived.Shelf.Strings.OnBuilder
import Derived.Shelf.Strings.Trim
import Derived.Shelf.Small.Utf8
import Derived.Shelf.Small.Bits
import Derived.Shelf.Small.Wraps
import Derived.Shelf.Strconv.Itoa3
import Derived.Shelf.Strconv.Clone
import Derived.Shelf.Strings.Shaped
import Derived.Shelf.Strings.IndexAnyAll
import Derived.Shelf.Strings.Repeat
import Derived.Shelf.Unicode.DecodeSlow
import Derived.Shelf.Strings.BuilderCap
import Derived.Shelf.Slices.Cells
import Derived.Shelf.SortM.Plain
import Derived.Shelf.SortM.SortNone
import Derived.Test.YtacahegificeoaaGreatDoorProg
import Derived.Test.YtacahegificeoaaGreatDoorImapLoginsProofB02
set_option maxHeartbeats 8000000
set_option maxRecDepth 100000
namespace Go.Proofs
open Go.Shelf
open Go.RowKit in
def Tryz.lays169_ren:Go.Shelf.Ren:=⟨fun|169=>27|n=>n,fun|70=>78|9=>9|0=>0|72=>81|37=>79|127=>128|3=>3|5=>5|n=>n,fun|n=>n⟩
theorem Tryz.lays169:Go.Proofs.Lays.n169 Tryz.prog Tryz.lays169_ren:={
 mixed:=by kernel_rfl
 f169:=Tryz.func27.trans (congrArg some κ)
 t0:=Tryz.underlying0
 a0:=Tryz.isAgg0
 z0:=Tryz.sizeOf0
 v0:=Tryz.zeroValue0
 t3:=Tryz.underlying3
 a3:=Tryz.isAgg3
 z3:=Tryz.sizeOf3
 v3:=Tryz.zeroValue3
 t9:=Tryz.underlying9
 a9:=Tryz.isAgg9
 z9:=Tryz.sizeOf9
 v9:=Tryz.zeroValue9
 t37:=Tryz.underlying79
 a37:=Tryz.isAgg79
 z37:=Tryz.sizeOf79
 v37:=Tryz.zeroValue79
 t70:=Tryz.underlying78
 a70:=Tryz.isAgg78
 z70:=Tryz.sizeOf78
 v70:=Tryz.zeroValue78
 t72:=Tryz.underlying81
 a72:=Tryz.isAgg81
 z72:=Tryz.sizeOf81
 v72:=Tryz.zeroValue81
 t127:=Tryz.underlying128
 a127:=Tryz.isAgg128
 z127:=Tryz.sizeOf128
 v127:=Tryz.zeroValue128}
theorem Tryz.Builder_Extra_169:Builder.Extra Tryz.prog Tryz.lays169_ren:={
 sizeBuilder:=by kernel_rfl
 liesBuilder:=by kernel_rfl
 t5:=Tryz.underlying5
 a5:=Tryz.isAgg5
 z5:=Tryz.sizeOf5
 v5:=Tryz.zeroValue5
 infoByte:=by kernel_rfl
 cellsByte:=by kernel_rfl
 sizeByte:=by kernel_rfl
 neB5:=by decide}
open Go.RowKit in
open Go.RowKit in
open Go.RowKit in
theorem Tryz.Builder_String_any (B b:Nat) (l:List UInt8) (w:World) (h:Lib.IsBuilder 81 5 B b (Lib.byteCells l) w) (hBw:B<=w.heap.size):
  Calls Tryz.prog 27 #[.pointer (some ⟨b,0,none⟩)] w λe w'=>e=.returned (.string ⟨l.toArray⟩)/\Below B w w':=Any.Builder_String_any Tryz.lays169 Tryz.Builder_Extra_169 B b l w h hBw
open Go.RowKit in
open Go.RowKit in
def Tryz.lays156_ren:Go.Shelf.Ren:=⟨fun|156=>79|165=>158|166=>159|169=>27|240=>233|241=>234|276=>321|277=>322|n=>n,fun|31=>22|9=>9|3=>3|4=>4|0=>0|20=>20|72=>81|76=>223|70=>78|37=>79|75=>222|127=>128|164=>385|5=>5|80=>93|n=>n,fun|n=>n⟩
theorem Tryz.lays156:Go.Proofs.Lays.n156 Tryz.prog Tryz.lays156_ren:={
 mixed:=by kernel_rfl
 f156:=Tryz.func79.trans (congrArg some κ)
 f165:=Tryz.func158.trans (congrArg some κ)
 f166:=Tryz.func159.trans (congrArg some κ)
 f169:=Tryz.func27.trans (congrArg some κ)
 f240:=Tryz.func233.trans (congrArg some κ)
 f241:=Tryz.func234.trans (congrArg some κ)
 f276:=Tryz.func321.trans (congrArg some κ)
 f277:=Tryz.func322.trans (congrArg some κ)
 t0:=Tryz.underlying0
 a0:=Tryz.isAgg0
 z0:=Tryz.sizeOf0
 v0:=Tryz.zeroValue0
 t3:=Tryz.underlying3
 a3:=Tryz.isAgg3
 z3:=Tryz.sizeOf3
 v3:=Tryz.zeroValue3
 t4:=Tryz.underlying4
 a4:=Tryz.isAgg4
 z4:=Tryz.sizeOf4
 v4:=Tryz.zeroValue4
 t9:=Tryz.underlying9
 a9:=Tryz.isAgg9
 z9:=Tryz.sizeOf9
 v9:=Tryz.zeroValue9
 t20:=Tryz.underlying20
 a20:=Tryz.isAgg20
 z20:=Tryz.sizeOf20
 v20:=Tryz.zeroValue20
 t31:=Tryz.underlying22
 a31:=Tryz.isAgg22
 z31:=Tryz.sizeOf22
 v31:=Tryz.zeroValue22
 t37:=Tryz.underlying79
 a37:=Tryz.isAgg79
 z37:=Tryz.sizeOf79
 v37:=Tryz.zeroValue79
 t70:=Tryz.underlying78
 a70:=Tryz.isAgg78
 z70:=Tryz.sizeOf78
 v70:=Tryz.zeroValue78
 t72:=Tryz.underlying81
 a72:=Tryz.isAgg81
 z72:=Tryz.sizeOf81
 v72:=Tryz.zeroValue81
 t75:=Tryz.underlying222
 a75:=Tryz.isAgg222
 z75:=Tryz.sizeOf222
 v75:=Tryz.zeroValue222
 t76:=Tryz.underlying223
 a76:=Tryz.isAgg223
 z76:=Tryz.sizeOf223
 v76:=Tryz.zeroValue223
 t127:=Tryz.underlying128
 a127:=Tryz.isAgg128
 z127:=Tryz.sizeOf128
 v127:=Tryz.zeroValue128
 t164:=Tryz.underlying385
 a164:=Tryz.isAgg385
 z164:=Tryz.sizeOf385
 v164:=Tryz.zeroValue385}
theorem Tryz.Builder_Extra_156:Builder.Extra Tryz.prog Tryz.lays156_ren:={
 sizeBuilder:=by kernel_rfl
 liesBuilder:=by kernel_rfl
 t5:=Tryz.underlying5
 a5:=Tryz.isAgg5
 z5:=Tryz.sizeOf5
 v5:=Tryz.zeroValue5
 infoByte:=by kernel_rfl
 cellsByte:=by kernel_rfl
 sizeByte:=by kernel_rfl
 neB5:=by decide}
open Go.RowKit in
open Go.RowKit in
theorem Tryz.strings_Join (bk o c:Nat) (xs:List ByteArray) (sep:ByteArray) (w:World) (hcells:∀(j:Nat) x,xs[j]?=some x->w.cell? ⟨bk,o+j,none⟩=some (.string x)) (hbk:bk<w.heap.size) (hN:xs.length<=140737488355328) (hcap:xs.length<=c) (hlen:(Lib.join (xs.map (·.data.toList)) sep.data.toList).length<=140737488355328):
  Calls Tryz.prog 79 #[.slice (some ⟨bk,o,none⟩) xs.length c,.string sep] w λe w'=>e=.returned (.string ⟨(Lib.join (xs.map (·.data.toList)) sep.data.toList).toArray⟩)/\Below w.heap.size w w':=Any.strings_Join Tryz.lays156 Tryz.Builder_Extra_156 bk o c xs sep w hcells hbk hN hcap hlen
open Go.RowKit in
open Go.RowKit in
open Go.RowKit in
open Go.RowKit in
open Go.RowKit in
def Tryz.lays103_ren:Go.Shelf.Ren:=⟨fun|103=>94|210=>179|206=>255|n=>n,fun|9=>9|4=>4|24=>100|3=>3|n=>n,fun|n=>n⟩
theorem Tryz.lays103:Go.Proofs.Lays.n103 Tryz.prog Tryz.lays103_ren:={
 mixed:=by kernel_rfl
 f103:=Tryz.func94.trans (congrArg some κ)
 f206:=Tryz.func255.trans (congrArg some κ)
 f210:=Tryz.func179.trans (congrArg some κ)
 t3:=Tryz.underlying3
 a3:=Tryz.isAgg3
 z3:=Tryz.sizeOf3
 v3:=Tryz.zeroValue3
 t4:=Tryz.underlying4
 a4:=Tryz.isAgg4
 z4:=Tryz.sizeOf4
 v4:=Tryz.zeroValue4
 t9:=Tryz.underlying9
 a9:=Tryz.isAgg9
 z9:=Tryz.sizeOf9
 v9:=Tryz.zeroValue9
 t24:=Tryz.underlying100
 a24:=Tryz.isAgg100
 z24:=Tryz.sizeOf100
 v24:=Tryz.zeroValue100}
open Go.RowKit in
theorem Tryz.strings_CutPrefix (s p:ByteArray) (w:World):
  Calls Tryz.prog 94 #[.string s,.string p] w λe w'=>e=.returned (.tuple #[.string ⟨(Lib.trimPrefix s.data.toList p.data.toList).toArray⟩,.bool (Lib.hasPrefix s.data.toList p.data.toList)])/\w'=w:=Any.strings_CutPrefix Tryz.lays103 s p w
open Go.RowKit in
open Go.RowKit in
open Go.RowKit in
open Go.RowKit in
open Go.RowKit in
open Go.RowKit in
open Go.RowKit in
open Go.RowKit in
theorem Tryz.Builder_String_k (B b:Nat) (l:List UInt8) (w:World) (h:Lib.IsBuilderF 81 5 B b (Lib.byteCells l) w) (h0:l≠[]):
  Calls Tryz.prog 27 #[.pointer (some ⟨b,0,none⟩)] w λe w'=>e=.returned (.string ⟨l.toArray⟩)/\(Lib.IsBuilderF 81 5 B b (Lib.byteCells l) w'/\Below B w w'/\Lib.OthersKept 5 (some b) w w'):=Any.Builder_String_k Tryz.lays169 Tryz.Builder_Extra_169 B b l w h h0
open Go.RowKit in
open Go.RowKit in
open Go.RowKit in
open Go.RowKit in
open Go.Lib in
open Go.Lib in
open Go.Lib in
open Go.Lib in
open Go.RowKit Go.Sort Go.Lib in
def Tryz.laysM246_ren:Go.Shelf.Ren:=⟨fun|246=>269|283=>341|284=>342|285=>343|286=>344|129=>266|317=>391|318=>392|319=>393|320=>394|337=>407|338=>408|n=>n,fun|2=>2|3=>3|9=>9|4=>4|171=>404|0=>0|53=>228|37=>79|5=>5|173=>406|212=>440|51=>143|20=>20|213=>441|46=>229|232=>251|233=>237|n=>n,fun|17=>4|18=>7|19=>8|n=>n⟩
open Go.RowKit Go.Sort Go.Lib in
open Go.RowKit Go.Sort Go.Lib in
def Tryz.laysM243_ren:Go.Shelf.Ren:=⟨fun|243=>187|246=>269|283=>341|284=>342|285=>343|286=>344|129=>266|317=>391|318=>392|319=>393|320=>394|337=>407|338=>408|n=>n,fun|3=>3|9=>9|2=>2|4=>4|171=>404|0=>0|53=>228|37=>79|5=>5|173=>406|212=>440|51=>143|20=>20|213=>441|46=>229|232=>251|233=>237|n=>n,fun|17=>4|18=>7|19=>8|n=>n⟩
open Go.RowKit Go.Sort Go.Lib in
open Go.RowKit Go.Sort Go.Lib in
def Tryz.laysM171_ren:Go.Shelf.Ren:=⟨fun|171=>101|243=>187|246=>269|283=>341|284=>342|285=>343|286=>344|129=>266|317=>391|318=>392|319=>393|320=>394|337=>407|338=>408|n=>n,fun|3=>3|9=>9|2=>2|4=>4|171=>404|0=>0|53=>228|37=>79|5=>5|173=>406|212=>440|51=>143|20=>20|213=>441|46=>229|232=>251|233=>237|n=>n,fun|17=>4|18=>7|19=>8|n=>n⟩
theorem Tryz.laysM171:Go.Proofs.LaysM.n171 Tryz.prog Tryz.laysM171_ren:={
 mixed:=by kernel_rfl
 f129:=Tryz.func266.trans (congrArg some κ)
 f171:=Tryz.func101.trans (congrArg some κ)
 f243:=Tryz.func187.trans (congrArg some κ)
 f246:=Tryz.func269.trans (congrArg some κ)
 f283:=Tryz.func341.trans (congrArg some κ)
 f284:=Tryz.func342.trans (congrArg some κ)
 f285:=Tryz.func343.trans (congrArg some κ)
 f286:=Tryz.func344.trans (congrArg some κ)
 f317:=Tryz.func391.trans (congrArg some κ)
 f318:=Tryz.func392.trans (congrArg some κ)
 f319:=Tryz.func393.trans (congrArg some κ)
 f320:=Tryz.func394.trans (congrArg some κ)
 f337:=Tryz.func407.trans (congrArg some κ)
 f338:=Tryz.func408.trans (congrArg some κ)
 t0:=Tryz.underlying0
 a0:=Tryz.isAgg0
 z0:=Tryz.sizeOf0
 v0:=Tryz.zeroValue0
 t2:=Tryz.underlying2
 a2:=Tryz.isAgg2
 z2:=Tryz.sizeOf2
 v2:=Tryz.zeroValue2
 t3:=Tryz.underlying3
 a3:=Tryz.isAgg3
 z3:=Tryz.sizeOf3
 v3:=Tryz.zeroValue3
 t4:=Tryz.underlying4
 a4:=Tryz.isAgg4
 z4:=Tryz.sizeOf4
 v4:=Tryz.zeroValue4
 t5:=Tryz.underlying5
 a5:=Tryz.isAgg5
 z5:=Tryz.sizeOf5
 v5:=Tryz.zeroValue5
 t9:=Tryz.underlying9
 a9:=Tryz.isAgg9
 z9:=Tryz.sizeOf9
 v9:=Tryz.zeroValue9
 t20:=Tryz.underlying20
 a20:=Tryz.isAgg20
 z20:=Tryz.sizeOf20
 v20:=Tryz.zeroValue20
 t37:=Tryz.underlying79
 a37:=Tryz.isAgg79
 z37:=Tryz.sizeOf79
 v37:=Tryz.zeroValue79
 t46:=Tryz.underlying229
 a46:=Tryz.isAgg229
 z46:=Tryz.sizeOf229
 v46:=Tryz.zeroValue229
 t51:=Tryz.underlying143
 a51:=Tryz.isAgg143
 z51:=Tryz.sizeOf143
 v51:=Tryz.zeroValue143
 t53:=Tryz.underlying228
 a53:=Tryz.isAgg228
 z53:=Tryz.sizeOf228
 v53:=Tryz.zeroValue228
 t171:=Tryz.underlying404
 a171:=Tryz.isAgg404
 z171:=Tryz.sizeOf404
 v171:=Tryz.zeroValue404
 t173:=Tryz.underlying406
 a173:=Tryz.isAgg406
 z173:=Tryz.sizeOf406
 v173:=Tryz.zeroValue406
 t212:=Tryz.underlying440
 a212:=Tryz.isAgg440
 z212:=Tryz.sizeOf440
 v212:=Tryz.zeroValue440
 t213:=Tryz.underlying441
 a213:=Tryz.isAgg441
 z213:=Tryz.sizeOf441
 t232:=Tryz.underlying251
 a232:=Tryz.isAgg251
 z232:=Tryz.sizeOf251
 v232:=Tryz.zeroValue251
 t233:=Tryz.underlying237
 a233:=Tryz.isAgg237
 z233:=Tryz.sizeOf237
 v233:=Tryz.zeroValue237
 g17:=by kernel_rfl
 g18:=by kernel_rfl
 g19:=by kernel_rfl
 i0:=by kernel_rfl
 i2:=by kernel_rfl
 i3:=by kernel_rfl
 i4:=by kernel_rfl
 i5:=by kernel_rfl
 i9:=by kernel_rfl
 i20:=by kernel_rfl
 i37:=by kernel_rfl
 i46:=by kernel_rfl
 i51:=by kernel_rfl
 i53:=by kernel_rfl
 i171:=by kernel_rfl
 i173:=by kernel_rfl
 i212:=by kernel_rfl
 i232:=by kernel_rfl
 i233:=by kernel_rfl
 m17:=by kernel_rfl
 m18:=by kernel_rfl
 m19:=by kernel_rfl}
open Go.RowKit Go.Sort Go.Lib in
theorem Tryz.strconv_Itoa (n : Int) (h0 : -9223372036854775808 ≤ n) (h1 : n ≤ 9223372036854775807) (w : World) (htab : Lib.TabIs Tryz.prog w "internal/strconv.uint64pow10" .u64 Lib.pow10Tab) :
  Calls Tryz.prog 101 #[.int .i64 n] w λe w'=>e=.returned (.string ⟨(Lib.itoa n).toArray⟩)/\∃k os,w'=grow (w.drewN k) os:=Any.strconv_Itoa Tryz.laysM171 n h0 h1 w htab
open Go.RowKit Go.Sort Go.Lib in
def Tryz.laysM316_ren:Go.Shelf.Ren:=⟨fun|316=>340|n=>n,fun|9=>9|3=>3|4=>4|37=>79|0=>0|127=>128|5=>5|n=>n,fun|n=>n⟩
theorem Tryz.laysM316:Go.Proofs.LaysM.n316 Tryz.prog Tryz.laysM316_ren:={
 mixed:=by kernel_rfl
 f316:=Tryz.func340.trans (congrArg some κ)
 t0:=Tryz.underlying0
 a0:=Tryz.isAgg0
 z0:=Tryz.sizeOf0
 v0:=Tryz.zeroValue0
 t3:=Tryz.underlying3
 a3:=Tryz.isAgg3
 z3:=Tryz.sizeOf3
 v3:=Tryz.zeroValue3
 t4:=Tryz.underlying4
 a4:=Tryz.isAgg4
 z4:=Tryz.sizeOf4
 v4:=Tryz.zeroValue4
 t9:=Tryz.underlying9
 a9:=Tryz.isAgg9
 z9:=Tryz.sizeOf9
 v9:=Tryz.zeroValue9
 t37:=Tryz.underlying79
 a37:=Tryz.isAgg79
 z37:=Tryz.sizeOf79
 v37:=Tryz.zeroValue79
 t127:=Tryz.underlying128
 a127:=Tryz.isAgg128
 z127:=Tryz.sizeOf128
 v127:=Tryz.zeroValue128
 t5:=Tryz.underlying5
 a5:=Tryz.isAgg5
 z5:=Tryz.sizeOf5
 v5:=Tryz.zeroValue5
 i0:=by kernel_rfl
 i3:=by kernel_rfl
 i4:=by kernel_rfl
 i5:=by kernel_rfl
 i9:=by kernel_rfl
 i37:=by kernel_rfl
 i127:=by kernel_rfl}
open Go.RowKit in
theorem Tryz.stringslite_Clone (s:ByteArray) (w:World) (hlim:s.size<=281474976710656):
  Calls Tryz.prog 340 #[.string s] w λe w'=>e=.returned (.string s)/\Below w.heap.size w w':=Any.stringslite_Clone Tryz.laysM316 s w hlim
open Go.RowKit Go.Lib in
open Go.RowKit Go.Lib in
open Go.RowKit Go.Lib in
open Go.RowKit Go.Lib in
open Go.RowKit Go.Lib in
open Go.RowKit Go.Lib in
open Go.RowKit Go.Lib in
open Go.RowKit Go.Lib in
open Go.RowKit Go.Lib in
open Go.RowKit Go.Lib in
open Go.RowKit Go.Lib in
open Go.RowKit Go.Lib in
open Go.RowKit Go.Lib in
open Go.RowKit Go.Lib in
open Go.RowKit Go.Lib in
open Go.RowKit Go.Lib in
open Go.RowKit Go.Lib in
open Go.RowKit Go.Lib in
open Go.RowKit Go.Lib in
open Go.RowKit Go.Lib in
open Go.RowKit Go.Lib in
open Go.RowKit Go.Lib in
open Go.RowKit Go.Lib in
open Go.RowKit Go.Lib in
open Go.RowKit Go.Lib in
open Go.RowKit Go.Lib in
def Tryz.lays153_ren:Go.Shelf.Ren:=⟨fun|153=>192|152=>275|226=>276|227=>277|228=>278|137=>357|119=>358|224=>359|225=>360|217=>397|266=>409|n=>n,fun|9=>9|3=>3|4=>4|5=>5|21=>21|117=>353|116=>352|0=>0|46=>229|124=>426|n=>n,fun|n=>n⟩
theorem Tryz.lays153:Go.Proofs.Lays.n153 Tryz.prog Tryz.lays153_ren:={
 mixed:=by kernel_rfl
 f119:=Tryz.func358.trans (congrArg some κ)
 f137:=Tryz.func357.trans (congrArg some κ)
 f152:=Tryz.func275.trans (congrArg some κ)
 f153:=Tryz.func192.trans (congrArg some κ)
 f217:=Tryz.func397.trans (congrArg some κ)
 f224:=Tryz.func359.trans (congrArg some κ)
 f225:=Tryz.func360.trans (congrArg some κ)
 f226:=Tryz.func276.trans (congrArg some κ)
 f227:=Tryz.func277.trans (congrArg some κ)
 f228:=Tryz.func278.trans (congrArg some κ)
 f266:=Tryz.func409.trans (congrArg some κ)
 t0:=Tryz.underlying0
 a0:=Tryz.isAgg0
 z0:=Tryz.sizeOf0
 v0:=Tryz.zeroValue0
 t3:=Tryz.underlying3
 a3:=Tryz.isAgg3
 z3:=Tryz.sizeOf3
 v3:=Tryz.zeroValue3
 t4:=Tryz.underlying4
 a4:=Tryz.isAgg4
 z4:=Tryz.sizeOf4
 v4:=Tryz.zeroValue4
 t5:=Tryz.underlying5
 a5:=Tryz.isAgg5
 z5:=Tryz.sizeOf5
 v5:=Tryz.zeroValue5
 t9:=Tryz.underlying9
 a9:=Tryz.isAgg9
 z9:=Tryz.sizeOf9
 v9:=Tryz.zeroValue9
 t21:=Tryz.underlying21
 a21:=Tryz.isAgg21
 z21:=Tryz.sizeOf21
 v21:=Tryz.zeroValue21
 t46:=Tryz.underlying229
 a46:=Tryz.isAgg229
 z46:=Tryz.sizeOf229
 v46:=Tryz.zeroValue229
 t116:=Tryz.underlying352
 a116:=Tryz.isAgg352
 z116:=Tryz.sizeOf352
 t117:=Tryz.underlying353
 a117:=Tryz.isAgg353
 z117:=Tryz.sizeOf353
 v117:=Tryz.zeroValue353
 t124:=Tryz.underlying426
 a124:=Tryz.isAgg426
 z124:=Tryz.sizeOf426
 v124:=Tryz.zeroValue426}
open Go.RowKit Go.Lib in
open Go.RowKit Go.Lib in
open Go.RowKit Go.Lib in
open Go.RowKit Go.Lib in
open Go.RowKit Go.Lib in
open Go.RowKit Go.Lib in
open Go.RowKit Go.Lib in
open Go.RowKit Go.Lib in
theorem Tryz.strings_IndexAny_laid (s chars:ByteArray) (w:World) (hs:s.size<4294967281) (hcs:chars.size<4294967281) (has:∀(j:Nat) b,s.data.toList[j]?=some b->b.toNat<128) (hac:∀(j:Nat) b,chars.data.toList[j]?=some b->b.toNat<128):
  Calls Tryz.prog 192 #[.string s,.string chars] w λe w'=>e=.returned (.int .i64 (Lib.indexAny s.data.toList chars.data.toList))/\Below w.heap.size w w':=Any.strings_IndexAny_laid Tryz.lays153 κ s chars w hs hcs has hac
def Tryz.lays264_ren:Go.Shelf.Ren:=⟨fun|264=>251|n=>n,fun|53=>228|46=>229|n=>n,fun|n=>n⟩
theorem Tryz.lays264:Go.Proofs.Lays.n264 Tryz.prog Tryz.lays264_ren:={
 mixed:=by kernel_rfl
 f264:=Tryz.func251.trans (congrArg some κ)
 t46:=Tryz.underlying229
 a46:=Tryz.isAgg229
 z46:=Tryz.sizeOf229
 v46:=Tryz.zeroValue229
 t53:=Tryz.underlying228
 a53:=Tryz.isAgg228
 z53:=Tryz.sizeOf228
 v53:=Tryz.zeroValue228}
open Go.RowKit Go.Lib in
theorem Tryz.bits_Mul64 (x y:Nat) (hx:x<18446744073709551616) (hy:y<18446744073709551616) (w:World):
  Calls Tryz.prog 251 #[.int .u64 x,.int .u64 y] w λe w'=>e=.returned (.tuple #[.int .u64 ((x*y / 18446744073709551616:Nat):Int),.int .u64 ((x*y % 18446744073709551616:Nat):Int)])/\w'=w:=Any.bits_Mul64 Tryz.lays264 x y hx hy w
open Go.RowKit Go.Lib in
def Tryz.lays105_ren:Go.Shelf.Ren:=⟨fun|105=>203|212=>288|99=>289|165=>158|166=>159|170=>290|169=>27|263=>366|264=>251|206=>255|240=>233|241=>234|276=>321|277=>322|n=>n,fun|9=>9|3=>3|4=>4|20=>20|0=>0|46=>229|109=>362|5=>5|72=>81|76=>223|51=>143|146=>429|53=>228|148=>323|70=>78|37=>79|75=>222|127=>128|164=>385|80=>93|n=>n,fun|n=>n⟩
theorem Tryz.lays105:Go.Proofs.Lays.n105 Tryz.prog Tryz.lays105_ren:={
 mixed:=by kernel_rfl
 f99:=Tryz.func289.trans (congrArg some κ)
 f105:=Tryz.func203.trans (congrArg some κ)
 f165:=Tryz.func158.trans (congrArg some κ)
 f166:=Tryz.func159.trans (congrArg some κ)
 f169:=Tryz.func27.trans (congrArg some κ)
 f170:=Tryz.func290.trans (congrArg some κ)
 f206:=Tryz.func255.trans (congrArg some κ)
 f212:=Tryz.func288.trans (congrArg some κ)
 f240:=Tryz.func233.trans (congrArg some κ)
 f241:=Tryz.func234.trans (congrArg some κ)
 f263:=Tryz.func366.trans (congrArg some κ)
 f264:=Tryz.func251.trans (congrArg some κ)
 f276:=Tryz.func321.trans (congrArg some κ)
 f277:=Tryz.func322.trans (congrArg some κ)
 t0:=Tryz.underlying0
 a0:=Tryz.isAgg0
 z0:=Tryz.sizeOf0
 v0:=Tryz.zeroValue0
 t3:=Tryz.underlying3
 a3:=Tryz.isAgg3
 z3:=Tryz.sizeOf3
 v3:=Tryz.zeroValue3
 t4:=Tryz.underlying4
 a4:=Tryz.isAgg4
 z4:=Tryz.sizeOf4
 v4:=Tryz.zeroValue4
 t5:=Tryz.underlying5
 a5:=Tryz.isAgg5
 z5:=Tryz.sizeOf5
 v5:=Tryz.zeroValue5
 t9:=Tryz.underlying9
 a9:=Tryz.isAgg9
 z9:=Tryz.sizeOf9
 v9:=Tryz.zeroValue9
 t20:=Tryz.underlying20
 a20:=Tryz.isAgg20
 z20:=Tryz.sizeOf20
 v20:=Tryz.zeroValue20
 t37:=Tryz.underlying79
 a37:=Tryz.isAgg79
 z37:=Tryz.sizeOf79
 v37:=Tryz.zeroValue79
 t46:=Tryz.underlying229
 a46:=Tryz.isAgg229
 z46:=Tryz.sizeOf229
 v46:=Tryz.zeroValue229
 t51:=Tryz.underlying143
 a51:=Tryz.isAgg143
 z51:=Tryz.sizeOf143
 v51:=Tryz.zeroValue143
 t53:=Tryz.underlying228
 a53:=Tryz.isAgg228
 z53:=Tryz.sizeOf228
 v53:=Tryz.zeroValue228
 t70:=Tryz.underlying78
 a70:=Tryz.isAgg78
 z70:=Tryz.sizeOf78
 v70:=Tryz.zeroValue78
 t72:=Tryz.underlying81
 a72:=Tryz.isAgg81
 z72:=Tryz.sizeOf81
 v72:=Tryz.zeroValue81
 t75:=Tryz.underlying222
 a75:=Tryz.isAgg222
 z75:=Tryz.sizeOf222
 v75:=Tryz.zeroValue222
 t76:=Tryz.underlying223
 a76:=Tryz.isAgg223
 z76:=Tryz.sizeOf223
 v76:=Tryz.zeroValue223
 t109:=Tryz.underlying362
 a109:=Tryz.isAgg362
 z109:=Tryz.sizeOf362
 v109:=Tryz.zeroValue362
 t127:=Tryz.underlying128
 a127:=Tryz.isAgg128
 z127:=Tryz.sizeOf128
 v127:=Tryz.zeroValue128
 t146:=Tryz.underlying429
 a146:=Tryz.isAgg429
 z146:=Tryz.sizeOf429
 v146:=Tryz.zeroValue429
 t148:=Tryz.underlying323
 a148:=Tryz.isAgg323
 z148:=Tryz.sizeOf323
 v148:=Tryz.zeroValue323
 t164:=Tryz.underlying385
 a164:=Tryz.isAgg385
 z164:=Tryz.sizeOf385
 v164:=Tryz.zeroValue385}
theorem Tryz.Builder_Extra_105:Builder.Extra Tryz.prog Tryz.lays105_ren:={
 sizeBuilder:=by kernel_rfl
 liesBuilder:=by kernel_rfl
 t5:=Tryz.underlying5
 a5:=Tryz.isAgg5
 z5:=Tryz.sizeOf5
 v5:=Tryz.zeroValue5
 infoByte:=by kernel_rfl
 cellsByte:=by kernel_rfl
 sizeByte:=by kernel_rfl
 neB5:=by decide}
open Go.RowKit Go.Lib in
open Go.RowKit Go.Lib in
open Go.RowKit Go.Lib in
open Go.RowKit Go.Lib in
open Go.RowKit Go.Lib in
open Go.RowKit Go.Lib in
open Go.RowKit Go.Lib in
theorem Tryz.strings_Repeat (s:ByteArray) (c:Nat) (w:World) (hc:c<=9223372036854775807) (hlen:s.size*c<=140737488355328):
  Calls Tryz.prog 203 #[.string s,.int .i64 c] w λe w'=>e=.returned (.string ⟨(Lib.repeatL s.data.toList c).toArray⟩)/\Below w.heap.size w w':=Any.strings_Repeat Tryz.lays105 Tryz.Builder_Extra_105 s c w hc hlen
open Go.RowKit Go.Lib in
open Go.RowKit Go.Lib Go.Sort in
open Go.RowKit Go.Lib Go.Sort in
open Go.RowKit Go.Lib Go.Sort in
open Go.RowKit Go.Lib Go.Sort in
open Go.RowKit Go.Lib Go.Sort in
open Go.RowKit Go.Lib Go.Sort in
def Tryz.lays194_ren:Go.Shelf.Ren:=⟨fun|194=>178|n=>n,fun|31=>22|9=>9|3=>3|4=>4|0=>0|n=>n,fun|n=>n⟩
theorem Tryz.lays194:Go.Proofs.Lays.n194 Tryz.prog Tryz.lays194_ren:={
 mixed:=by kernel_rfl
 f194:=Tryz.func178.trans (congrArg some κ)
 t0:=Tryz.underlying0
 a0:=Tryz.isAgg0
 z0:=Tryz.sizeOf0
 v0:=Tryz.zeroValue0
 t3:=Tryz.underlying3
 a3:=Tryz.isAgg3
 z3:=Tryz.sizeOf3
 v3:=Tryz.zeroValue3
 t4:=Tryz.underlying4
 a4:=Tryz.isAgg4
 z4:=Tryz.sizeOf4
 v4:=Tryz.zeroValue4
 t9:=Tryz.underlying9
 a9:=Tryz.isAgg9
 z9:=Tryz.sizeOf9
 v9:=Tryz.zeroValue9
 t31:=Tryz.underlying22
 a31:=Tryz.isAgg22
 z31:=Tryz.sizeOf22
 v31:=Tryz.zeroValue22}
open Go.RowKit Go.Lib Go.Sort in
open Go.RowKit Go.Lib Go.Sort in
theorem Tryz.slices_Compact_string (blk off cap:Nat) (zs:List (List UInt8)) (w:World) (hH:Holds encStr w blk off zs.toArray) (hsz:zs.length<=9223372036854775807) (hcap:zs.length<=cap):
  Calls Tryz.prog 178 #[.slice (some ⟨blk,off,none⟩) zs.length cap] w λe w'=>e=.returned (.slice (some ⟨blk,off,none⟩) (Lib.compact zs).length cap)/\∃q,w'=putRow encStr (Sort.ahead w q) blk off (Lib.compact zs++List.replicate (zs.length- (Lib.compact zs).length) []).toArray:=Any.slices_Compact_string Tryz.lays194 blk off cap zs w hH hsz hcap
open Go.RowKit Go.Lib Go.Sort in
theorem Tryz.slices_Compact_string_empty (a:Option Addr) (cap:Nat) (w:World):
  Calls Tryz.prog 178 #[.slice a 0 cap] w λe w'=>e=.returned (.slice a 0 cap)/\w'=w:=Any.slices_Compact_string_empty Tryz.lays194 a cap w
open Go.RowKit Go.Lib Go.Sort in
open Go.RowKit Go.Lib Go.Sort in
open Go.RowKit Go.Lib Go.Sort in
open Go.RowKit Go.Lib Go.Sort in
open Go.RowKit Go.Lib Go.Sort in
open Go.RowKit Go.Lib Go.Sort in
def Tryz.laysSlM5_f96_ren:Go.Shelf.Ren:=⟨fun|5=>96|8=>181|7=>180|19=>265|20=>266|10=>256|11=>257|12=>258|13=>259|14=>260|15=>261|16=>262|17=>263|18=>264|30=>334|31=>335|32=>336|33=>337|34=>338|35=>339|40=>390|n=>n,fun|23=>106|25=>3|3=>3|32=>229|22=>106|0=>0|44=>143|46=>228|4=>4|36=>330|35=>329|41=>152|5=>5|9=>9|53=>397|57=>401|63=>437|64=>134|n=>n,fun|n=>n⟩
theorem Tryz.laysSlM5_f96:Go.Proofs.SlLaysM.n5 Tryz.prog Tryz.laysSlM5_f96_ren:={
 mixed:=by kernel_rfl
 f5:=⟨Tryz.f96.name,δ,Tryz.func96.trans (congrArg some κ)⟩
 f7:=⟨Tryz.f180.name,δ,Tryz.func180.trans (congrArg some κ)⟩
 f8:=Tryz.func181.trans (congrArg some κ)
 f10:=⟨Tryz.f256.name,δ,Tryz.func256.trans (congrArg some κ)⟩
 f11:=⟨Tryz.f257.name,δ,Tryz.func257.trans (congrArg some κ)⟩
 f12:=⟨Tryz.f258.name,δ,Tryz.func258.trans (congrArg some κ)⟩
 f13:=⟨Tryz.f259.name,δ,Tryz.func259.trans (congrArg some κ)⟩
 f14:=⟨Tryz.f260.name,δ,Tryz.func260.trans (congrArg some κ)⟩
 f15:=⟨Tryz.f261.name,δ,Tryz.func261.trans (congrArg some κ)⟩
 f16:=⟨Tryz.f262.name,δ,Tryz.func262.trans (congrArg some κ)⟩
 f17:=⟨Tryz.f263.name,δ,Tryz.func263.trans (congrArg some κ)⟩
 f18:=⟨Tryz.f264.name,δ,Tryz.func264.trans (congrArg some κ)⟩
 f19:=Tryz.func265.trans (congrArg some κ)
 f20:=Tryz.func266.trans (congrArg some κ)
 f30:=⟨Tryz.f334.name,δ,Tryz.func334.trans (congrArg some κ)⟩
 f31:=Tryz.func335.trans (congrArg some κ)
 f32:=Tryz.func336.trans (congrArg some κ)
 f33:=⟨Tryz.f337.name,δ,Tryz.func337.trans (congrArg some κ)⟩
 f34:=⟨Tryz.f338.name,δ,Tryz.func338.trans (congrArg some κ)⟩
 f35:=⟨Tryz.f339.name,δ,Tryz.func339.trans (congrArg some κ)⟩
 f40:=⟨Tryz.f390.name,δ,Tryz.func390.trans (congrArg some κ)⟩
 t0:=Tryz.underlying0
 a0:=Tryz.isAgg0
 z0:=Tryz.sizeOf0
 v0:=Tryz.zeroValue0
 t3:=Tryz.underlying3
 a3:=Tryz.isAgg3
 z3:=Tryz.sizeOf3
 v3:=Tryz.zeroValue3
 t4:=Tryz.underlying4
 a4:=Tryz.isAgg4
 z4:=Tryz.sizeOf4
 v4:=Tryz.zeroValue4
 t5:=Tryz.underlying5
 a5:=Tryz.isAgg5
 z5:=Tryz.sizeOf5
 v5:=Tryz.zeroValue5
 t9:=Tryz.underlying9
 a9:=Tryz.isAgg9
 z9:=Tryz.sizeOf9
 v9:=Tryz.zeroValue9
 t22:=Tryz.underlying106
 a22:=Tryz.isAgg106
 z22:=Tryz.sizeOf106
 v22:=Tryz.zeroValue106
 t23:=Tryz.underlying106
 a23:=Tryz.isAgg106
 z23:=Tryz.sizeOf106
 v23:=Tryz.zeroValue106
 t25:=Tryz.underlying3
 a25:=Tryz.isAgg3
 z25:=Tryz.sizeOf3
 v25:=Tryz.zeroValue3
 t32:=Tryz.underlying229
 a32:=Tryz.isAgg229
 z32:=Tryz.sizeOf229
 v32:=Tryz.zeroValue229
 t35:=Tryz.underlying329
 a35:=Tryz.isAgg329
 z35:=Tryz.sizeOf329
 v35:=Tryz.zeroValue329
 t36:=Tryz.underlying330
 a36:=Tryz.isAgg330
 z36:=Tryz.sizeOf330
 v36:=Tryz.zeroValue330
 t41:=Tryz.underlying152
 a41:=Tryz.isAgg152
 z41:=Tryz.sizeOf152
 v41:=Tryz.zeroValue152
 t44:=Tryz.underlying143
 a44:=Tryz.isAgg143
 z44:=Tryz.sizeOf143
 v44:=Tryz.zeroValue143
 t46:=Tryz.underlying228
 a46:=Tryz.isAgg228
 z46:=Tryz.sizeOf228
 v46:=Tryz.zeroValue228
 t53:=Tryz.underlying397
 a53:=Tryz.isAgg397
 z53:=Tryz.sizeOf397
 v53:=Tryz.zeroValue397
 t57:=Tryz.underlying401
 a57:=Tryz.isAgg401
 z57:=Tryz.sizeOf401
 v57:=Tryz.zeroValue401
 t63:=Tryz.underlying437
 a63:=Tryz.isAgg437
 z63:=Tryz.sizeOf437
 v63:=Tryz.zeroValue437
 t64:=Tryz.underlying134
 a64:=Tryz.isAgg134
 z64:=Tryz.sizeOf134
 v64:=Tryz.zeroValue134}
open Go.Sort Go.RowKit in
theorem Tryz.slices_Sort_int (blk off cap:Nat) (zs:List Int) (w:World) (hH:Holds (Value.int .i64) w blk off zs.toArray) (hblk:blk<w.heap.size) (hsz:zs.length<4611686018427387904):
  Calls Tryz.prog 96 #[.slice (some ⟨blk,off,none⟩) zs.length cap] w λe w'=>
   e=.returned (.tuple #[])/\∃n os,w'=grow (putRow (Value.int .i64) (Sort.ahead w n) blk off (zs.mergeSort λx y=>decide (x<=y)).toArray) os:=AnyM.slices_Sort_int Tryz.laysSlM5_f96 blk off cap zs w hH hblk hsz
def Tryz.laysSlM6_f177_ren:Go.Shelf.Ren:=⟨fun|6=>177|8=>181|9=>254|19=>265|20=>266|21=>326|22=>327|23=>328|24=>329|25=>330|26=>331|27=>281|28=>332|29=>333|36=>387|31=>335|32=>336|37=>388|38=>389|39=>363|41=>406|n=>n,fun|27=>22|29=>9|3=>3|32=>229|26=>22|0=>0|44=>143|46=>228|4=>4|36=>330|35=>329|41=>152|5=>5|9=>9|53=>397|57=>401|63=>437|64=>134|n=>n,fun|n=>n⟩
theorem Tryz.laysSlM6_f177:Go.Proofs.SlLaysM.n6 Tryz.prog Tryz.laysSlM6_f177_ren:={
 mixed:=by kernel_rfl
 f6:=⟨Tryz.f177.name,δ,Tryz.func177.trans (congrArg some κ)⟩
 f8:=Tryz.func181.trans (congrArg some κ)
 f9:=⟨Tryz.f254.name,δ,Tryz.func254.trans (congrArg some κ)⟩
 f19:=Tryz.func265.trans (congrArg some κ)
 f20:=Tryz.func266.trans (congrArg some κ)
 f21:=⟨Tryz.f326.name,δ,Tryz.func326.trans (congrArg some κ)⟩
 f22:=⟨Tryz.f327.name,δ,Tryz.func327.trans (congrArg some κ)⟩
 f23:=⟨Tryz.f328.name,δ,Tryz.func328.trans (congrArg some κ)⟩
 f24:=⟨Tryz.f329.name,δ,Tryz.func329.trans (congrArg some κ)⟩
 f25:=⟨Tryz.f330.name,δ,Tryz.func330.trans (congrArg some κ)⟩
 f26:=⟨Tryz.f331.name,δ,Tryz.func331.trans (congrArg some κ)⟩
 f27:=⟨Tryz.f281.name,δ,Tryz.func281.trans (congrArg some κ)⟩
 f28:=⟨Tryz.f332.name,δ,Tryz.func332.trans (congrArg some κ)⟩
 f29:=⟨Tryz.f333.name,δ,Tryz.func333.trans (congrArg some κ)⟩
 f31:=Tryz.func335.trans (congrArg some κ)
 f32:=Tryz.func336.trans (congrArg some κ)
 f36:=⟨Tryz.f387.name,δ,Tryz.func387.trans (congrArg some κ)⟩
 f37:=⟨Tryz.f388.name,δ,Tryz.func388.trans (congrArg some κ)⟩
 f38:=⟨Tryz.f389.name,δ,Tryz.func389.trans (congrArg some κ)⟩
 f39:=⟨Tryz.f363.name,δ,Tryz.func363.trans (congrArg some κ)⟩
 f41:=⟨Tryz.f406.name,δ,Tryz.func406.trans (congrArg some κ)⟩
 t0:=Tryz.underlying0
 a0:=Tryz.isAgg0
 z0:=Tryz.sizeOf0
 v0:=Tryz.zeroValue0
 t3:=Tryz.underlying3
 a3:=Tryz.isAgg3
 z3:=Tryz.sizeOf3
 v3:=Tryz.zeroValue3
 t4:=Tryz.underlying4
 a4:=Tryz.isAgg4
 z4:=Tryz.sizeOf4
 v4:=Tryz.zeroValue4
 t5:=Tryz.underlying5
 a5:=Tryz.isAgg5
 z5:=Tryz.sizeOf5
 v5:=Tryz.zeroValue5
 t9:=Tryz.underlying9
 a9:=Tryz.isAgg9
 z9:=Tryz.sizeOf9
 v9:=Tryz.zeroValue9
 t26:=Tryz.underlying22
 a26:=Tryz.isAgg22
 z26:=Tryz.sizeOf22
 v26:=Tryz.zeroValue22
 t27:=Tryz.underlying22
 a27:=Tryz.isAgg22
 z27:=Tryz.sizeOf22
 v27:=Tryz.zeroValue22
 t29:=Tryz.underlying9
 a29:=Tryz.isAgg9
 z29:=Tryz.sizeOf9
 v29:=Tryz.zeroValue9
 t32:=Tryz.underlying229
 a32:=Tryz.isAgg229
 z32:=Tryz.sizeOf229
 v32:=Tryz.zeroValue229
 t35:=Tryz.underlying329
 a35:=Tryz.isAgg329
 z35:=Tryz.sizeOf329
 v35:=Tryz.zeroValue329
 t36:=Tryz.underlying330
 a36:=Tryz.isAgg330
 z36:=Tryz.sizeOf330
 v36:=Tryz.zeroValue330
 t41:=Tryz.underlying152
 a41:=Tryz.isAgg152
 z41:=Tryz.sizeOf152
 v41:=Tryz.zeroValue152
 t44:=Tryz.underlying143
 a44:=Tryz.isAgg143
 z44:=Tryz.sizeOf143
 v44:=Tryz.zeroValue143
 t46:=Tryz.underlying228
 a46:=Tryz.isAgg228
 z46:=Tryz.sizeOf228
 v46:=Tryz.zeroValue228
 t53:=Tryz.underlying397
 a53:=Tryz.isAgg397
 z53:=Tryz.sizeOf397
 v53:=Tryz.zeroValue397
 t57:=Tryz.underlying401
 a57:=Tryz.isAgg401
 z57:=Tryz.sizeOf401
 v57:=Tryz.zeroValue401
 t63:=Tryz.underlying437
 a63:=Tryz.isAgg437
 z63:=Tryz.sizeOf437
 v63:=Tryz.zeroValue437
 t64:=Tryz.underlying134
 a64:=Tryz.isAgg134
 z64:=Tryz.sizeOf134
 v64:=Tryz.zeroValue134}
open Go.Sort Go.RowKit in
theorem Tryz.slices_Sort_string (blk off cap:Nat) (ss:List (List UInt8)) (w:World) (hH:Holds encStr w blk off ss.toArray) (hblk:blk<w.heap.size) (hsz:ss.length<4611686018427387904):
  Calls Tryz.prog 177 #[.slice (some ⟨blk,off,none⟩) ss.length cap] w λe w'=>
   e=.returned (.tuple #[])/\∃n os,w'=grow (putRow encStr (Sort.ahead w n) blk off (ss.mergeSort λx y=>decide (x<=y)).toArray) os:=AnyM.slices_Sort_string Tryz.laysSlM6_f177 blk off cap ss w hH hblk hsz
open Go.RowKit Go.Sort in
theorem Tryz.slices_Sort_string_none (p:Option Addr) (cap:Nat) (w:World):
  Calls Tryz.prog 177 #[.slice p 0 cap] w λe w'=>e=.returned (.tuple #[])/\w'=w:=AnyM.slices_Sort_string_none Tryz.laysSlM6_f177 p cap w
open Go.RowKit Go.Sort in
theorem Tryz.slices_Sort_int_none (p:Option Addr) (cap:Nat) (w:World):
  Calls Tryz.prog 96 #[.slice p 0 cap] w λe w'=>e=.returned (.tuple #[])/\w'=w:=AnyM.slices_Sort_int_none Tryz.laysSlM5_f96 p cap w
end Go.Proofs
namespace Go.Proofs.BU
open Go.RowKit MM
theorem vV:(Tryz.prog.info? 81).map (·.size)=some 2:=by kernel_rfl
theorem xLz:(Tryz.prog.info? 5).map (λi=>(i.zero,i.size,i.bytes))=some (some (.int .u8 0),1,1):=by kernel_rfl
theorem xBx (b:Nat) (w:World) (h0:w.cell? ⟨b,0,none⟩=some (.pointer (some ⟨b,0,none⟩))):
  Calls Tryz.prog 233 #[.pointer (some ⟨b,0,none⟩)] w λe w'=>e=.returned (.tuple #[])/\w'=w:=by
 obtain⟨j,hj,_⟩:=Option.map_eq_some_iff.1 vV;go_enter Tryz.func233,Tryz.ntmps233;go_wp2;rw[Lib.run_neq_ptr_same w _ Tryz.underlying78 hj];go_wp2
 go_end0
 exact⟨rfl,rfl⟩
theorem xB0 (b:Nat) (w:World) (h0:w.cell? ⟨b,0,none⟩=some (.pointer none)) (hsh:w.shape? b=some (81,2)) (hfz:w.frozen? ⟨b,0,none⟩=false):
  Calls Tryz.prog 233 #[.pointer (some ⟨b,0,none⟩)] w λe w'=>e=.returned (.tuple #[])/\w'=w.setCell ⟨b,0,none⟩ (.pointer (some ⟨b,0,none⟩)):=by
 obtain⟨j,hj,hjs⟩:=Option.map_eq_some_iff.1 vV;go_enter Tryz.func233,Tryz.ntmps233;go_wp2;rw[Lib.run_to_unsafe w ⟨b,0,none⟩ Tryz.underlying78 Tryz.underlying385 hj (by rw[hjs];decide) hsh (Nat.zero_lt_succ 1)];simp only[Result.andThen];rw[Oper.upon_value];go_wp2
 rw[run_callFunc_extern Tryz.func321 κ κ κ (e:=Extern.AbiNoEscape.same) κ];rw[Lib.run_noEscape];simp only[Result.andThen];rw[Oper.upon_value];go_wp2;rw[Lib.run_from_unsafe w ⟨b,0,none⟩ Tryz.underlying385 Tryz.underlying78 hj hsh κ];simp only[Result.andThen];rw[Oper.upon_value]
 go_wp2
 go_end0
 exact⟨rfl,rfl⟩
theorem xK0 (B b:Nat) (bs:List Value) (w:World) (h:Lib.IsBuilder 81 5 B b bs w):
  Calls Tryz.prog 233 #[.pointer (some ⟨b,0,none⟩)] w λe w'=>e=.returned (.tuple #[])/\(Lib.BuilderAt 81 5 B b (.pointer (some ⟨b,0,none⟩)) bs w'/\Below B w w'):=by
 rcases h with h|h
 ·refine(xB0 b w h.cell0 h.shape h.frozen0).mono ?_;rintro e w' ⟨rfl,rfl⟩;exact⟨rfl,h.used _,(Below.refl B w).setCell (p:=⟨b,0,none⟩) h.1 _⟩
 ·refine(xBx b w h.cell0).mono ?_;rintro e w' ⟨rfl,rfl⟩;exact⟨rfl,h,Below.refl B _⟩
abbrev Bld (B b:Nat) (l:List UInt8) (w:World):Prop:=Lib.IsBuilder 81 5 B b (Lib.byteCells l) w
theorem xVy (n:Int):∀u∈[Value.int .u8 n],u.oneCell'=true:=by
 intro u hu;rw[List.mem_singleton.1 hu];rfl
theorem xTc (l:List UInt8) (c:UInt8):Lib.byteCells (l++[c])=Lib.byteCells l++[.int .u8 c.toNat]:=by simp[Lib.byteCells]
theorem xGr (l:List UInt8):(Lib.byteCells l).length=l.length:=by simp[Lib.byteCells]
theorem rT (B b:Nat) (l:List UInt8) (c:UInt8) (w:World) (h:Bld B b l w) (hl:l.length<=1000000000) (hB:B<=w.heap.size):
  Calls Tryz.prog 191 #[.pointer (some ⟨b,0,none⟩),.int .u8 c.toNat] w λe w'=>e=.returned .nilIface/\Bld B b (l++[c]) w'/\Below B w w':=by
 obtain⟨i0,hi,hz0,hz1,hz2⟩:=info_parts xLz;have Hl:=ι (xGr l);go_enter Tryz.func191,Tryz.ntmps191;go_wp2_with fail
 refine(xK0 B b _ _ h).mono ?_;rintro e w1 ⟨rfl,⟨hBb,v,hbk,hown,hne⟩,hb1⟩;have hown':=ι hown;have Hne:=ι hne;have Hbk:=ι hbk
 obtain⟨A,cp,e9⟩:∃A cp,v=.slice A (Lib.byteCells l).length cp:=by
  rcases hown.2 with ⟨h1,h2⟩|⟨g,cap,cur,h1,_⟩
  ·exact⟨none,0,by rw[h1,h2]⟩
  ·exact⟨_,_,h1⟩
 subst e9;have k1:w1.cell? ⟨b,1,none⟩=some (.slice A (Lib.byteCells l).length cp):=xA hbk 1;have hlt:=xG hbk;have HB1:=ι hb1;have hz:=hb1.size;clear hown hne hbk hb1
 go_wp2_with (at_builtin;refine wpList_append_lies _ rfl _ _ 79 rfl B 5 i0 (.int .u8 0) 1 1 Tryz.underlying79 hi hz0 hz1 hz2 rfl δ _ _ _ rfl (World.ownsRow.alloc hown'.o _) ⟨w1.heap.size,0,none⟩ 1 1 [.int .u8 c.toNat] rfl rfl (cell_one_new _ _ _) (xVy _) δ (by have:=Hl.o;unfold maxLen;omega) (by have:=Hl.o;omega) (by simp;omega) (w1.heap.size+1) σ ?_;intro g cap w2 hown2 hgrow hat hlt2;have pk:=ι (wG (xK Hbk.o _) hgrow (λe=>Hne.o e.symm));have k2:w2.cell? ⟨b,1,none⟩=some (.slice A (Lib.byteCells l).length cp):=xA pk.o 1;have y2:w2.frozen? ⟨b,1,none⟩=false:=xC pk.o 1;have xP0:=ι hown2;have xMr:=ι hgrow;clear hown2 hgrow)
 go_ret;refine⟨rfl,.inr ?_,?_⟩
 ·have hown3:w2.ownsRow B 5 1 (.slice (some ⟨g,0,none⟩) ((Lib.byteCells l).length+1) cap) (Lib.byteCells (l++[c])).length (Lib.byteCells (l++[c])):=by
   rw[xTc,List.length_append];exact xP0.o
  exact Lib.BuilderAt.put hBb pk.o hown3 δ
 ·refine Below.setCell ?_ (p:=⟨b,1,none⟩) hBb _;exact(HB1.o.alloc (Nat.le_trans hB hz) _).grown xMr.o (by simp;omega) (λk hk=>(World.ownsRow.lt hown'.o k hk).1)
theorem xEp (l k:List UInt8):Lib.byteCells (l++k)=Lib.byteCells l++Lib.byteCells k:=by simp[Lib.byteCells]
end Go.Proofs.BU