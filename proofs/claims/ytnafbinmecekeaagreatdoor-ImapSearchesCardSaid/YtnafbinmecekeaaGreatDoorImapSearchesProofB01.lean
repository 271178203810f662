/- Contracts of functions. Conditions: as stated. -/
import Derived.Shelf.Strings.OnBuilder
import Derived.Shelf.Strings.Trim
import Derived.Shelf.Small.Bits
import Derived.Shelf.Small.Wraps
import Derived.Shelf.Utf8.RuneCount
import Derived.Shelf.Strconv.Itoa3
import Derived.Shelf.Strconv.Clone
import Derived.Shelf.Strings.Shaped
import Derived.Shelf.Sort.Plain
import Derived.Shelf.Strings.SplitShaped
import Derived.Shelf.Strings.IndexAnyAll
import Derived.Shelf.Strings.Explode
import Derived.Shelf.Strings.Repeat
import Derived.Shelf.Unicode.DecodeLast
import Derived.Shelf.Strings.BuilderCap
import Derived.Shelf.Slices.Clone
import Derived.Shelf.Slices.Cells
import Derived.Shelf.Slices.Empties
import Derived.Shelf.SlicesE.Clone
import Derived.Shelf.SortM.SortNone
import Derived.Test.YtnafbinmecekeaaGreatDoorProg
import Derived.Test.YtnafbinmecekeaaGreatDoorImapSearchesProofB00
import Derived.WalkLawsBesides
import Derived.WalkSpells
import Derived.Lib.ConvBytes
open Go.Proofs.Tryz
set_option maxHeartbeats 8000000
set_option maxRecDepth 100000
namespace Go.Proofs
open Go.Shelf
open Go.RowKit in
def Tryz.lays169_ren:Go.Shelf.Ren:=⟨fun|169=>53|n=>n,fun|70=>124|9=>9|0=>0|72=>127|37=>125|127=>194|3=>3|5=>5|n=>n,fun|n=>n⟩
theorem Tryz.lays169:Go.Proofs.Lays.n169 prog Tryz.lays169_ren:={
 mixed:=κ
 f169:=func53.trans (congrArg some κ)
 t0:=underlying0
 a0:=isAgg0
 z0:=sizeOf0
 v0:=zeroValue0
 t3:=underlying3
 a3:=isAgg3
 z3:=sizeOf3
 v3:=zeroValue3
 t9:=underlying9
 a9:=isAgg9
 z9:=sizeOf9
 v9:=zeroValue9
 t37:=underlying125
 a37:=isAgg125
 z37:=sizeOf125
 v37:=zeroValue125
 t70:=underlying124
 a70:=isAgg124
 z70:=sizeOf124
 v70:=zeroValue124
 t72:=underlying127
 a72:=isAgg127
 z72:=sizeOf127
 v72:=zeroValue127
 t127:=underlying194
 a127:=isAgg194
 z127:=sizeOf194
 v127:=zeroValue194}
theorem Tryz.Builder_Extra_169:Builder.Extra prog Tryz.lays169_ren:={
 sizeBuilder:=κ
 liesBuilder:=κ
 t5:=underlying5
 a5:=isAgg5
 z5:=sizeOf5
 v5:=zeroValue5
 infoByte:=κ
 cellsByte:=κ
 sizeByte:=κ
 neB5:=δ}
open Go.RowKit in
theorem Tryz.Builder_String_any (B b:Nat) (l:List UInt8) (w:World) (h:Lib.IsBuilder 127 5 B b (Lib.byteCells l) w) (hBw:B<=w.heap.size):
  Calls prog 53 #[.pointer (some ⟨b,0,none⟩)] w λe w'=>e=.returned (.string ⟨l.toArray⟩)/\Below B w w':=Any.Builder_String_any Tryz.lays169 Tryz.Builder_Extra_169 B b l w h hBw
open Go.RowKit in
def Tryz.lays156_ren:Go.Shelf.Ren:=⟨fun|156=>77|165=>152|166=>153|169=>53|240=>242|241=>243|276=>322|277=>323|n=>n,fun|31=>22|9=>9|3=>3|4=>4|0=>0|20=>20|72=>127|76=>210|70=>124|37=>125|75=>209|127=>194|164=>369|5=>5|80=>139|n=>n,fun|n=>n⟩
theorem Tryz.lays156:Go.Proofs.Lays.n156 prog Tryz.lays156_ren:={
 mixed:=κ
 f156:=func77.trans (congrArg some κ)
 f165:=func152.trans (congrArg some κ)
 f166:=func153.trans (congrArg some κ)
 f169:=func53.trans (congrArg some κ)
 f240:=func242.trans (congrArg some κ)
 f241:=func243.trans (congrArg some κ)
 f276:=func322.trans (congrArg some κ)
 f277:=func323.trans (congrArg some κ)
 t0:=underlying0
 a0:=isAgg0
 z0:=sizeOf0
 v0:=zeroValue0
 t3:=underlying3
 a3:=isAgg3
 z3:=sizeOf3
 v3:=zeroValue3
 t4:=underlying4
 a4:=isAgg4
 z4:=sizeOf4
 v4:=zeroValue4
 t9:=underlying9
 a9:=isAgg9
 z9:=sizeOf9
 v9:=zeroValue9
 t20:=underlying20
 a20:=isAgg20
 z20:=sizeOf20
 v20:=zeroValue20
 t31:=underlying22
 a31:=isAgg22
 z31:=sizeOf22
 v31:=zeroValue22
 t37:=underlying125
 a37:=isAgg125
 z37:=sizeOf125
 v37:=zeroValue125
 t70:=underlying124
 a70:=isAgg124
 z70:=sizeOf124
 v70:=zeroValue124
 t72:=underlying127
 a72:=isAgg127
 z72:=sizeOf127
 v72:=zeroValue127
 t75:=underlying209
 a75:=isAgg209
 z75:=sizeOf209
 v75:=zeroValue209
 t76:=underlying210
 a76:=isAgg210
 z76:=sizeOf210
 v76:=zeroValue210
 t127:=underlying194
 a127:=isAgg194
 z127:=sizeOf194
 v127:=zeroValue194
 t164:=underlying369
 a164:=isAgg369
 z164:=sizeOf369
 v164:=zeroValue369}
theorem Tryz.Builder_Extra_156:Builder.Extra prog Tryz.lays156_ren:={
 sizeBuilder:=κ
 liesBuilder:=κ
 t5:=underlying5
 a5:=isAgg5
 z5:=sizeOf5
 v5:=zeroValue5
 infoByte:=κ
 cellsByte:=κ
 sizeByte:=κ
 neB5:=δ}
open Go.RowKit in
theorem Tryz.strings_Join (bk o c:Nat) (xs:List ByteArray) (sep:ByteArray) (w:World) (hcells:∀(j:Nat) x,xs[j]?=some x->w.cell? ⟨bk,o+j,none⟩=some (.string x)) (hbk:bk<w.heap.size) (hN:xs.length<=140737488355328) (hcap:xs.length<=c) (hlen:(Lib.join (xs.map (·.data.toList)) sep.data.toList).length<=140737488355328):
  Calls prog 77 #[.slice (some ⟨bk,o,none⟩) xs.length c,.string sep] w λe w'=>e=.returned (.string ⟨(Lib.join (xs.map (·.data.toList)) sep.data.toList).toArray⟩)/\ψ w w':=Any.strings_Join Tryz.lays156 Tryz.Builder_Extra_156 bk o c xs sep w hcells hbk hN hcap hlen
open Go.RowKit in
def Tryz.lays160_ren:Go.Shelf.Ren:=⟨fun|160=>380|232=>415|231=>414|227=>358|234=>417|233=>416|236=>419|235=>418|228=>359|271=>432|151=>431|197=>386|120=>436|152=>356|260=>422|137=>401|119=>402|224=>383|225=>382|217=>381|266=>420|n=>n,fun|9=>9|4=>4|3=>3|5=>5|117=>408|116=>407|0=>0|124=>448|21=>21|105=>429|46=>229|119=>465|139=>468|138=>467|n=>n,fun|3=>5|4=>6|n=>n⟩
theorem Tryz.lays160:Go.Proofs.Lays.n160 prog Tryz.lays160_ren:={
 mixed:=κ
 f119:=func402.trans (congrArg some κ)
 f120:=func436.trans (congrArg some κ)
 f137:=func401.trans (congrArg some κ)
 f151:=func431.trans (congrArg some κ)
 f152:=func356.trans (congrArg some κ)
 f160:=func380.trans (congrArg some κ)
 f197:=func386.trans (congrArg some κ)
 f217:=func381.trans (congrArg some κ)
 f224:=func383.trans (congrArg some κ)
 f225:=func382.trans (congrArg some κ)
 f227:=func358.trans (congrArg some κ)
 f228:=func359.trans (congrArg some κ)
 f231:=func414.trans (congrArg some κ)
 f232:=func415.trans (congrArg some κ)
 f233:=func416.trans (congrArg some κ)
 f234:=func417.trans (congrArg some κ)
 f235:=func418.trans (congrArg some κ)
 f236:=func419.trans (congrArg some κ)
 f260:=func422.trans (congrArg some κ)
 f266:=func420.trans (congrArg some κ)
 f271:=func432.trans (congrArg some κ)
 t0:=underlying0
 a0:=isAgg0
 z0:=sizeOf0
 v0:=zeroValue0
 t3:=underlying3
 a3:=isAgg3
 z3:=sizeOf3
 v3:=zeroValue3
 t4:=underlying4
 a4:=isAgg4
 z4:=sizeOf4
 v4:=zeroValue4
 t5:=underlying5
 a5:=isAgg5
 z5:=sizeOf5
 v5:=zeroValue5
 t9:=underlying9
 a9:=isAgg9
 z9:=sizeOf9
 v9:=zeroValue9
 t21:=underlying21
 a21:=isAgg21
 z21:=sizeOf21
 v21:=zeroValue21
 t46:=underlying229
 a46:=isAgg229
 z46:=sizeOf229
 v46:=zeroValue229
 t105:=underlying429
 a105:=isAgg429
 z105:=sizeOf429
 v105:=zeroValue429
 t116:=underlying407
 a116:=isAgg407
 z116:=sizeOf407
 t117:=underlying408
 a117:=isAgg408
 z117:=sizeOf408
 v117:=zeroValue408
 t119:=underlying465
 a119:=isAgg465
 z119:=sizeOf465
 t124:=underlying448
 a124:=isAgg448
 z124:=sizeOf448
 v124:=zeroValue448
 t138:=underlying467
 a138:=isAgg467
 z138:=sizeOf467
 v138:=zeroValue467
 t139:=underlying468
 a139:=isAgg468
 z139:=sizeOf468
 v139:=zeroValue468
 g3:=κ
 g4:=κ}
open Go.RowKit in
def Tryz.lays210_ren:Go.Shelf.Ren:=⟨fun|210=>183|206=>277|n=>n,fun|9=>9|4=>4|3=>3|n=>n,fun|n=>n⟩
open Go.RowKit Go.Sort Go.Lib in
def Tryz.laysM246_ren:Go.Shelf.Ren:=⟨fun|246=>244|283=>324|284=>325|285=>326|286=>327|129=>288|317=>387|318=>388|319=>389|320=>390|337=>423|338=>424|n=>n,fun|2=>2|3=>3|9=>9|4=>4|171=>372|0=>0|53=>212|37=>125|5=>5|173=>374|212=>432|51=>228|20=>20|213=>433|46=>229|232=>299|233=>314|n=>n,fun|17=>3|18=>7|19=>8|n=>n⟩
open Go.RowKit Go.Sort Go.Lib in
def Tryz.laysM243_ren:Go.Shelf.Ren:=⟨fun|243=>154|246=>244|283=>324|284=>325|285=>326|286=>327|129=>288|317=>387|318=>388|319=>389|320=>390|337=>423|338=>424|n=>n,fun|3=>3|9=>9|2=>2|4=>4|171=>372|0=>0|53=>212|37=>125|5=>5|173=>374|212=>432|51=>228|20=>20|213=>433|46=>229|232=>299|233=>314|n=>n,fun|17=>3|18=>7|19=>8|n=>n⟩
open Go.RowKit Go.Sort Go.Lib in
def Tryz.laysM171_ren:Go.Shelf.Ren:=⟨fun|171=>78|243=>154|246=>244|283=>324|284=>325|285=>326|286=>327|129=>288|317=>387|318=>388|319=>389|320=>390|337=>423|338=>424|n=>n,fun|3=>3|9=>9|2=>2|4=>4|171=>372|0=>0|53=>212|37=>125|5=>5|173=>374|212=>432|51=>228|20=>20|213=>433|46=>229|232=>299|233=>314|n=>n,fun|17=>3|18=>7|19=>8|n=>n⟩
theorem Tryz.laysM171:Go.Proofs.LaysM.n171 prog Tryz.laysM171_ren:={
 mixed:=κ
 f129:=func288.trans (congrArg some κ)
 f171:=func78.trans (congrArg some κ)
 f243:=func154.trans (congrArg some κ)
 f246:=func244.trans (congrArg some κ)
 f283:=func324.trans (congrArg some κ)
 f284:=func325.trans (congrArg some κ)
 f285:=func326.trans (congrArg some κ)
 f286:=func327.trans (congrArg some κ)
 f317:=func387.trans (congrArg some κ)
 f318:=func388.trans (congrArg some κ)
 f319:=func389.trans (congrArg some κ)
 f320:=func390.trans (congrArg some κ)
 f337:=func423.trans (congrArg some κ)
 f338:=func424.trans (congrArg some κ)
 t0:=underlying0
 a0:=isAgg0
 z0:=sizeOf0
 v0:=zeroValue0
 t2:=underlying2
 a2:=isAgg2
 z2:=sizeOf2
 v2:=zeroValue2
 t3:=underlying3
 a3:=isAgg3
 z3:=sizeOf3
 v3:=zeroValue3
 t4:=underlying4
 a4:=isAgg4
 z4:=sizeOf4
 v4:=zeroValue4
 t5:=underlying5
 a5:=isAgg5
 z5:=sizeOf5
 v5:=zeroValue5
 t9:=underlying9
 a9:=isAgg9
 z9:=sizeOf9
 v9:=zeroValue9
 t20:=underlying20
 a20:=isAgg20
 z20:=sizeOf20
 v20:=zeroValue20
 t37:=underlying125
 a37:=isAgg125
 z37:=sizeOf125
 v37:=zeroValue125
 t46:=underlying229
 a46:=isAgg229
 z46:=sizeOf229
 v46:=zeroValue229
 t51:=underlying228
 a51:=isAgg228
 z51:=sizeOf228
 v51:=zeroValue228
 t53:=underlying212
 a53:=isAgg212
 z53:=sizeOf212
 v53:=zeroValue212
 t171:=underlying372
 a171:=isAgg372
 z171:=sizeOf372
 v171:=zeroValue372
 t173:=underlying374
 a173:=isAgg374
 z173:=sizeOf374
 v173:=zeroValue374
 t212:=underlying432
 a212:=isAgg432
 z212:=sizeOf432
 v212:=zeroValue432
 t213:=underlying433
 a213:=isAgg433
 z213:=sizeOf433
 t232:=underlying299
 a232:=isAgg299
 z232:=sizeOf299
 v232:=zeroValue299
 t233:=underlying314
 a233:=isAgg314
 z233:=sizeOf314
 v233:=zeroValue314
 g17:=κ
 g18:=κ
 g19:=κ
 i0:=κ
 i2:=κ
 i3:=κ
 i4:=κ
 i5:=κ
 i9:=κ
 i20:=κ
 i37:=κ
 i46:=κ
 i51:=κ
 i53:=κ
 i171:=κ
 i173:=κ
 i212:=κ
 i232:=κ
 i233:=κ
 m17:=κ
 m18:=κ
 m19:=κ}
open Go.RowKit Go.Sort Go.Lib in
theorem Tryz.strconv_Itoa (n : Int) (h0 : -9223372036854775808 ≤ n) (h1 : n ≤ 9223372036854775807) (w : World) (htab : Lib.TabIs prog w "internal/strconv.uint64pow10" .u64 Lib.pow10Tab) :
  Calls prog 78 #[.int .i64 n] w λe w'=>e=.returned (.string ⟨(Lib.itoa n).toArray⟩)/\∃k os,w'=grow (w.drewN k) os:=Any.strconv_Itoa Tryz.laysM171 n h0 h1 w htab
open Go.RowKit Go.Sort Go.Lib in
def Tryz.laysM316_ren:Go.Shelf.Ren:=⟨fun|316=>261|n=>n,fun|9=>9|3=>3|4=>4|37=>125|0=>0|127=>194|5=>5|n=>n,fun|n=>n⟩
theorem Tryz.laysM316:Go.Proofs.LaysM.n316 prog Tryz.laysM316_ren:={
 mixed:=κ
 f316:=func261.trans (congrArg some κ)
 t0:=underlying0
 a0:=isAgg0
 z0:=sizeOf0
 v0:=zeroValue0
 t3:=underlying3
 a3:=isAgg3
 z3:=sizeOf3
 v3:=zeroValue3
 t4:=underlying4
 a4:=isAgg4
 z4:=sizeOf4
 v4:=zeroValue4
 t9:=underlying9
 a9:=isAgg9
 z9:=sizeOf9
 v9:=zeroValue9
 t37:=underlying125
 a37:=isAgg125
 z37:=sizeOf125
 v37:=zeroValue125
 t127:=underlying194
 a127:=isAgg194
 z127:=sizeOf194
 v127:=zeroValue194
 t5:=underlying5
 a5:=isAgg5
 z5:=sizeOf5
 v5:=zeroValue5
 i0:=κ
 i3:=κ
 i4:=κ
 i5:=κ
 i9:=κ
 i37:=κ
 i127:=κ}
open Go.RowKit in
theorem Tryz.stringslite_Clone (s:ByteArray) (w:World) (hlim:s.size<=281474976710656):
  Calls prog 261 #[.string s] w λe w'=>e=.returned (.string s)/\ψ w w':=Any.stringslite_Clone Tryz.laysM316 s w hlim
open Go.RowKit Go.Lib in
def Tryz.lays219_ren:Go.Shelf.Ren:=⟨fun|219=>318|217=>381|225=>382|224=>383|267=>384|266=>420|314=>421|n=>n,fun|9=>9|3=>3|4=>4|5=>5|46=>229|146=>455|51=>228|n=>n,fun|1=>2|n=>n⟩
open Go.RowKit Go.Lib in
def Tryz.lays143_ren:Go.Shelf.Ren:=⟨fun|143=>236|219=>318|217=>381|225=>382|224=>383|267=>384|266=>420|314=>421|n=>n,fun|9=>9|3=>3|4=>4|5=>5|46=>229|146=>455|51=>228|n=>n,fun|1=>2|n=>n⟩
theorem Tryz.lays143:Go.Proofs.Lays.n143 prog Tryz.lays143_ren:={
 mixed:=κ
 f143:=func236.trans (congrArg some κ)
 f217:=func381.trans (congrArg some κ)
 f219:=func318.trans (congrArg some κ)
 f224:=func383.trans (congrArg some κ)
 f225:=func382.trans (congrArg some κ)
 f266:=func420.trans (congrArg some κ)
 f267:=func384.trans (congrArg some κ)
 f314:=func421.trans (congrArg some κ)
 t3:=underlying3
 a3:=isAgg3
 z3:=sizeOf3
 v3:=zeroValue3
 t4:=underlying4
 a4:=isAgg4
 z4:=sizeOf4
 v4:=zeroValue4
 t5:=underlying5
 a5:=isAgg5
 z5:=sizeOf5
 v5:=zeroValue5
 t9:=underlying9
 a9:=isAgg9
 z9:=sizeOf9
 v9:=zeroValue9
 t46:=underlying229
 a46:=isAgg229
 z46:=sizeOf229
 v46:=zeroValue229
 t51:=underlying228
 a51:=isAgg228
 z51:=sizeOf228
 v51:=zeroValue228
 t146:=underlying455
 a146:=isAgg455
 z146:=sizeOf455
 v146:=zeroValue455
 g1:=κ}
open Go.RowKit Go.Lib in
theorem Tryz.strings_Index_one (s:ByteArray) (c:UInt8) (w:World):
  Calls prog 236 #[.string s,.string ⟨#[c]⟩] w λe w'=>e=.returned (.int .i64 (Lib.indexByte s.data.toList c))/\w'=w:=Any.strings_Index_one Tryz.lays143 s c w
open Go.RowKit Go.Lib in
theorem Tryz.strings_Index (s sub:ByteArray) (m:Int) (w:World) (hs:s.size<4294967281) (hm:w.cell? ⟨2,0,none⟩=some (.int .i64 m)):
  Calls prog 236 #[.string s,.string sub] w λe w'=>e=.returned (.int .i64 (Lib.index s.data.toList sub.data.toList))/\w'=w:=Any.strings_Index Tryz.lays143 s sub m w hs hm
def Tryz.lays144_ren:Go.Shelf.Ren:=⟨fun|144=>233|143=>236|219=>318|217=>381|225=>382|224=>383|267=>384|266=>420|314=>421|n=>n,fun|9=>9|4=>4|3=>3|5=>5|46=>229|146=>455|51=>228|n=>n,fun|1=>2|n=>n⟩
theorem Tryz.lays144:Go.Proofs.Lays.n144 prog Tryz.lays144_ren:={
 mixed:=κ
 f143:=func236.trans (congrArg some κ)
 f144:=func233.trans (congrArg some κ)
 f217:=func381.trans (congrArg some κ)
 f219:=func318.trans (congrArg some κ)
 f224:=func383.trans (congrArg some κ)
 f225:=func382.trans (congrArg some κ)
 f266:=func420.trans (congrArg some κ)
 f267:=func384.trans (congrArg some κ)
 f314:=func421.trans (congrArg some κ)
 t3:=underlying3
 a3:=isAgg3
 z3:=sizeOf3
 v3:=zeroValue3
 t4:=underlying4
 a4:=isAgg4
 z4:=sizeOf4
 v4:=zeroValue4
 t5:=underlying5
 a5:=isAgg5
 z5:=sizeOf5
 v5:=zeroValue5
 t9:=underlying9
 a9:=isAgg9
 z9:=sizeOf9
 v9:=zeroValue9
 t46:=underlying229
 a46:=isAgg229
 z46:=sizeOf229
 v46:=zeroValue229
 t51:=underlying228
 a51:=isAgg228
 z51:=sizeOf228
 v51:=zeroValue228
 t146:=underlying455
 a146:=isAgg455
 z146:=sizeOf455
 v146:=zeroValue455
 g1:=κ}
open Go.RowKit Go.Lib in
theorem Tryz.strings_Contains (s sub:ByteArray) (m:Int) (w:World) (hs:s.size<4294967281) (hm:w.cell? ⟨2,0,none⟩=some (.int .i64 m)):
  Calls prog 233 #[.string s,.string sub] w λe w'=>e=.returned (.bool (Lib.contains s.data.toList sub.data.toList))/\w'=w:=Any.strings_Contains Tryz.lays144 s sub m w hs hm
open Go.RowKit Go.Lib in
def Tryz.lays145_ren:Go.Shelf.Ren:=⟨fun|145=>238|220=>320|219=>318|217=>381|225=>382|224=>383|267=>384|266=>420|314=>421|n=>n,fun|9=>9|4=>4|59=>293|3=>3|5=>5|46=>229|146=>455|51=>228|n=>n,fun|1=>2|n=>n⟩
theorem Tryz.lays145:Go.Proofs.Lays.n145 prog Tryz.lays145_ren:={
 mixed:=κ
 f145:=func238.trans (congrArg some κ)
 f217:=func381.trans (congrArg some κ)
 f219:=func318.trans (congrArg some κ)
 f220:=func320.trans (congrArg some κ)
 f224:=func383.trans (congrArg some κ)
 f225:=func382.trans (congrArg some κ)
 f266:=func420.trans (congrArg some κ)
 f267:=func384.trans (congrArg some κ)
 f314:=func421.trans (congrArg some κ)
 t3:=underlying3
 a3:=isAgg3
 z3:=sizeOf3
 v3:=zeroValue3
 t4:=underlying4
 a4:=isAgg4
 z4:=sizeOf4
 v4:=zeroValue4
 t5:=underlying5
 a5:=isAgg5
 z5:=sizeOf5
 v5:=zeroValue5
 t9:=underlying9
 a9:=isAgg9
 z9:=sizeOf9
 v9:=zeroValue9
 t46:=underlying229
 a46:=isAgg229
 z46:=sizeOf229
 v46:=zeroValue229
 t51:=underlying228
 a51:=isAgg228
 z51:=sizeOf228
 v51:=zeroValue228
 t59:=underlying293
 a59:=isAgg293
 z59:=sizeOf293
 v59:=zeroValue293
 t146:=underlying455
 a146:=isAgg455
 z146:=sizeOf455
 v146:=zeroValue455
 g1:=κ}
open Go.RowKit Go.Lib in
theorem Tryz.strings_Cut (s sep:ByteArray) (m:Int) (w:World) (hs:s.size<4294967281) (hm:w.cell? ⟨2,0,none⟩=some (.int .i64 m)):
  Calls prog 238 #[.string s,.string sep] w λe w'=>e=.returned (.tuple #[.string ⟨(Lib.cut s.data.toList sep.data.toList).1.toArray⟩,.string ⟨(Lib.cut s.data.toList sep.data.toList).2.1.toArray⟩,.bool (Lib.cut s.data.toList sep.data.toList).2.2])/\∃n,w'=w.drewN n:=Any.strings_Cut Tryz.lays145 s sep m w hs hm
open Go.RowKit Go.Lib in
def Tryz.laysM145_ren:Go.Shelf.Ren:=⟨fun|145=>238|220=>320|219=>318|217=>381|225=>382|224=>383|267=>384|266=>420|314=>421|n=>n,fun|9=>9|4=>4|59=>293|3=>3|5=>5|46=>229|146=>455|51=>228|n=>n,fun|1=>2|n=>n⟩
theorem Tryz.laysM145:Go.Proofs.LaysM.n145 prog Tryz.laysM145_ren:={
 mixed:=κ
 f145:=func238.trans (congrArg some κ)
 f217:=func381.trans (congrArg some κ)
 f219:=func318.trans (congrArg some κ)
 f220:=func320.trans (congrArg some κ)
 f224:=func383.trans (congrArg some κ)
 f225:=func382.trans (congrArg some κ)
 f266:=func420.trans (congrArg some κ)
 f267:=func384.trans (congrArg some κ)
 f314:=func421.trans (congrArg some κ)
 t3:=underlying3
 a3:=isAgg3
 z3:=sizeOf3
 v3:=zeroValue3
 t4:=underlying4
 a4:=isAgg4
 z4:=sizeOf4
 v4:=zeroValue4
 t5:=underlying5
 a5:=isAgg5
 z5:=sizeOf5
 v5:=zeroValue5
 t9:=underlying9
 a9:=isAgg9
 z9:=sizeOf9
 v9:=zeroValue9
 t46:=underlying229
 a46:=isAgg229
 z46:=sizeOf229
 v46:=zeroValue229
 t51:=underlying228
 a51:=isAgg228
 z51:=sizeOf228
 v51:=zeroValue228
 t59:=underlying293
 a59:=isAgg293
 z59:=sizeOf293
 v59:=zeroValue293
 t146:=underlying455
 a146:=isAgg455
 z146:=sizeOf455
 v146:=zeroValue455
 g1:=κ
 i3:=κ
 i4:=κ
 i5:=κ
 i9:=κ
 i46:=κ
 i51:=κ
 i59:=κ
 i146:=κ
 m1:=κ
 s1_3:=λw h=>Go.Proofs.cell_of_shapedOpen_int (zero:=#[.int .i64 0]) (t:=3) h (of_decide_eq_true κ) κ rfl κ κ underlying3}
open Go.RowKit Go.Lib in
open Go.Sort Go.RowKit in
open Go.RowKit Go.Lib in
def Tryz.lays99_ren:Go.Shelf.Ren:=⟨fun|99=>235|206=>277|n=>n,fun|9=>9|4=>4|3=>3|n=>n,fun|n=>n⟩
theorem Tryz.lays99:Go.Proofs.Lays.n99 prog Tryz.lays99_ren:={
 mixed:=κ
 f99:=func235.trans (congrArg some κ)
 f206:=func277.trans (congrArg some κ)
 t3:=underlying3
 a3:=isAgg3
 z3:=sizeOf3
 v3:=zeroValue3
 t4:=underlying4
 a4:=isAgg4
 z4:=sizeOf4
 v4:=zeroValue4
 t9:=underlying9
 a9:=isAgg9
 z9:=sizeOf9
 v9:=zeroValue9}
open Go.RowKit Go.Lib in
theorem Tryz.strings_HasPrefix (s p:ByteArray) (w:World):
  Calls prog 235 #[.string s,.string p] w λe w'=>e=.returned (.bool (Lib.hasPrefix s.data.toList p.data.toList))/\w'=w:=Any.strings_HasPrefix Tryz.lays99 s p w
open Go.RowKit Go.Lib in
def Tryz.lays221_ren:Go.Shelf.Ren:=⟨fun|221=>413|268=>429|138=>430|143=>236|195=>434|197=>386|218=>435|219=>318|260=>422|217=>381|225=>382|224=>383|267=>384|266=>420|314=>421|n=>n,fun|9=>9|3=>3|31=>22|4=>4|0=>0|105=>429|21=>21|5=>5|46=>229|119=>465|139=>468|138=>467|146=>455|51=>228|n=>n,fun|1=>2|3=>5|4=>6|n=>n⟩
open Go.RowKit Go.Lib in
def Tryz.lays146_ren:Go.Shelf.Ren:=⟨fun|146=>378|221=>413|268=>429|138=>430|143=>236|195=>434|197=>386|218=>435|219=>318|260=>422|217=>381|225=>382|224=>383|267=>384|266=>420|314=>421|n=>n,fun|9=>9|31=>22|3=>3|4=>4|0=>0|105=>429|21=>21|5=>5|46=>229|119=>465|139=>468|138=>467|146=>455|51=>228|n=>n,fun|1=>2|3=>5|4=>6|n=>n⟩
theorem Tryz.lays146:Go.Proofs.Lays.n146 prog Tryz.lays146_ren:={
 mixed:=κ
 f138:=func430.trans (congrArg some κ)
 f143:=func236.trans (congrArg some κ)
 f146:=func378.trans (congrArg some κ)
 f195:=func434.trans (congrArg some κ)
 f197:=func386.trans (congrArg some κ)
 f217:=func381.trans (congrArg some κ)
 f218:=func435.trans (congrArg some κ)
 f219:=func318.trans (congrArg some κ)
 f221:=func413.trans (congrArg some κ)
 f224:=func383.trans (congrArg some κ)
 f225:=func382.trans (congrArg some κ)
 f260:=func422.trans (congrArg some κ)
 f266:=func420.trans (congrArg some κ)
 f267:=func384.trans (congrArg some κ)
 f268:=func429.trans (congrArg some κ)
 f314:=func421.trans (congrArg some κ)
 t0:=underlying0
 a0:=isAgg0
 z0:=sizeOf0
 v0:=zeroValue0
 t3:=underlying3
 a3:=isAgg3
 z3:=sizeOf3
 v3:=zeroValue3
 t4:=underlying4
 a4:=isAgg4
 z4:=sizeOf4
 v4:=zeroValue4
 t5:=underlying5
 a5:=isAgg5
 z5:=sizeOf5
 v5:=zeroValue5
 t9:=underlying9
 a9:=isAgg9
 z9:=sizeOf9
 v9:=zeroValue9
 t21:=underlying21
 a21:=isAgg21
 z21:=sizeOf21
 v21:=zeroValue21
 t31:=underlying22
 a31:=isAgg22
 z31:=sizeOf22
 v31:=zeroValue22
 t46:=underlying229
 a46:=isAgg229
 z46:=sizeOf229
 v46:=zeroValue229
 t51:=underlying228
 a51:=isAgg228
 z51:=sizeOf228
 v51:=zeroValue228
 t105:=underlying429
 a105:=isAgg429
 z105:=sizeOf429
 v105:=zeroValue429
 t119:=underlying465
 a119:=isAgg465
 z119:=sizeOf465
 t138:=underlying467
 a138:=isAgg467
 z138:=sizeOf467
 v138:=zeroValue467
 t139:=underlying468
 a139:=isAgg468
 z139:=sizeOf468
 v139:=zeroValue468
 t146:=underlying455
 a146:=isAgg455
 z146:=sizeOf455
 v146:=zeroValue455
 g1:=κ
 g3:=κ
 g4:=κ}
open Go.RowKit Go.Lib in
theorem Tryz.strings_Split (s sep:ByteArray) (m:Int) (w:World) (hs:s.size<4294967281) (hm:w.cell? ⟨2,0,none⟩=some (.int .i64 m)) (h1:1<=sep.size):
  Calls prog 378 #[.string s,.string sep] w λe w'=>
   e=.returned (.slice (some ⟨w.heap.size,0,none⟩) (Lib.countB s sep+1) (Lib.countB s sep+1))/\w'=w.alloc (.cells ((Lib.splitB sep 0 (Lib.countB s sep) s).map Value.string).toArray 9):=Any.strings_Split Tryz.lays146 κ s sep m w hs hm h1
open Go.RowKit Go.Lib in
def Tryz.lays153_ren:Go.Shelf.Ren:=⟨fun|153=>290|152=>356|226=>357|227=>358|228=>359|137=>401|119=>402|224=>383|225=>382|217=>381|266=>420|n=>n,fun|9=>9|3=>3|4=>4|5=>5|21=>21|117=>408|116=>407|0=>0|46=>229|124=>448|n=>n,fun|n=>n⟩
theorem Tryz.lays153:Go.Proofs.Lays.n153 prog Tryz.lays153_ren:={
 mixed:=κ
 f119:=func402.trans (congrArg some κ)
 f137:=func401.trans (congrArg some κ)
 f152:=func356.trans (congrArg some κ)
 f153:=func290.trans (congrArg some κ)
 f217:=func381.trans (congrArg some κ)
 f224:=func383.trans (congrArg some κ)
 f225:=func382.trans (congrArg some κ)
 f226:=func357.trans (congrArg some κ)
 f227:=func358.trans (congrArg some κ)
 f228:=func359.trans (congrArg some κ)
 f266:=func420.trans (congrArg some κ)
 t0:=underlying0
 a0:=isAgg0
 z0:=sizeOf0
 v0:=zeroValue0
 t3:=underlying3
 a3:=isAgg3
 z3:=sizeOf3
 v3:=zeroValue3
 t4:=underlying4
 a4:=isAgg4
 z4:=sizeOf4
 v4:=zeroValue4
 t5:=underlying5
 a5:=isAgg5
 z5:=sizeOf5
 v5:=zeroValue5
 t9:=underlying9
 a9:=isAgg9
 z9:=sizeOf9
 v9:=zeroValue9
 t21:=underlying21
 a21:=isAgg21
 z21:=sizeOf21
 v21:=zeroValue21
 t46:=underlying229
 a46:=isAgg229
 z46:=sizeOf229
 v46:=zeroValue229
 t116:=underlying407
 a116:=isAgg407
 z116:=sizeOf407
 t117:=underlying408
 a117:=isAgg408
 z117:=sizeOf408
 v117:=zeroValue408
 t124:=underlying448
 a124:=isAgg448
 z124:=sizeOf448
 v124:=zeroValue448}
open Go.RowKit Go.Lib in
theorem Tryz.strings_IndexAny_laid (s chars:ByteArray) (w:World) (hs:s.size<4294967281) (hcs:chars.size<4294967281) (has:∀(j:Nat) b,s.data.toList[j]?=some b->b.toNat<128) (hac:∀(j:Nat) b,chars.data.toList[j]?=some b->b.toNat<128):
  Calls prog 290 #[.string s,.string chars] w λe w'=>e=.returned (.int .i64 (Lib.indexAny s.data.toList chars.data.toList))/\ψ w w':=Any.strings_IndexAny_laid Tryz.lays153 κ s chars w hs hcs has hac
open Go.RowKit Go.Lib in
def Tryz.lays264_ren:Go.Shelf.Ren:=⟨fun|264=>251|n=>n,fun|53=>212|46=>229|n=>n,fun|n=>n⟩
theorem Tryz.lays264:Go.Proofs.Lays.n264 prog Tryz.lays264_ren:={
 mixed:=κ
 f264:=func251.trans (congrArg some κ)
 t46:=underlying229
 a46:=isAgg229
 z46:=sizeOf229
 v46:=zeroValue229
 t53:=underlying212
 a53:=isAgg212
 z53:=sizeOf212
 v53:=zeroValue212}
open Go.RowKit Go.Lib in
theorem Tryz.bits_Mul64 (x y:Nat) (hx:x<18446744073709551616) (hy:y<18446744073709551616) (w:World):
  Calls prog 251 #[.int .u64 x,.int .u64 y] w λe w'=>e=.returned (.tuple #[.int .u64 ((x*y / 18446744073709551616:Nat):Int),.int .u64 ((x*y % 18446744073709551616:Nat):Int)])/\w'=w:=Any.bits_Mul64 Tryz.lays264 x y hx hy w
open Go.RowKit Go.Lib in
def Tryz.lays105_ren:Go.Shelf.Ren:=⟨fun|105=>303|212=>369|99=>235|165=>152|166=>153|170=>370|169=>53|263=>409|264=>251|206=>277|240=>242|241=>243|276=>322|277=>323|n=>n,fun|9=>9|3=>3|4=>4|20=>20|0=>0|46=>229|109=>419|5=>5|72=>127|76=>210|51=>228|146=>455|53=>212|148=>304|70=>124|37=>125|75=>209|127=>194|164=>369|80=>139|n=>n,fun|n=>n⟩
theorem Tryz.lays105:Go.Proofs.Lays.n105 prog Tryz.lays105_ren:={
 mixed:=κ
 f99:=func235.trans (congrArg some κ)
 f105:=func303.trans (congrArg some κ)
 f165:=func152.trans (congrArg some κ)
 f166:=func153.trans (congrArg some κ)
 f169:=func53.trans (congrArg some κ)
 f170:=func370.trans (congrArg some κ)
 f206:=func277.trans (congrArg some κ)
 f212:=func369.trans (congrArg some κ)
 f240:=func242.trans (congrArg some κ)
 f241:=func243.trans (congrArg some κ)
 f263:=func409.trans (congrArg some κ)
 f264:=func251.trans (congrArg some κ)
 f276:=func322.trans (congrArg some κ)
 f277:=func323.trans (congrArg some κ)
 t0:=underlying0
 a0:=isAgg0
 z0:=sizeOf0
 v0:=zeroValue0
 t3:=underlying3
 a3:=isAgg3
 z3:=sizeOf3
 v3:=zeroValue3
 t4:=underlying4
 a4:=isAgg4
 z4:=sizeOf4
 v4:=zeroValue4
 t5:=underlying5
 a5:=isAgg5
 z5:=sizeOf5
 v5:=zeroValue5
 t9:=underlying9
 a9:=isAgg9
 z9:=sizeOf9
 v9:=zeroValue9
 t20:=underlying20
 a20:=isAgg20
 z20:=sizeOf20
 v20:=zeroValue20
 t37:=underlying125
 a37:=isAgg125
 z37:=sizeOf125
 v37:=zeroValue125
 t46:=underlying229
 a46:=isAgg229
 z46:=sizeOf229
 v46:=zeroValue229
 t51:=underlying228
 a51:=isAgg228
 z51:=sizeOf228
 v51:=zeroValue228
 t53:=underlying212
 a53:=isAgg212
 z53:=sizeOf212
 v53:=zeroValue212
 t70:=underlying124
 a70:=isAgg124
 z70:=sizeOf124
 v70:=zeroValue124
 t72:=underlying127
 a72:=isAgg127
 z72:=sizeOf127
 v72:=zeroValue127
 t75:=underlying209
 a75:=isAgg209
 z75:=sizeOf209
 v75:=zeroValue209
 t76:=underlying210
 a76:=isAgg210
 z76:=sizeOf210
 v76:=zeroValue210
 t109:=underlying419
 a109:=isAgg419
 z109:=sizeOf419
 v109:=zeroValue419
 t127:=underlying194
 a127:=isAgg194
 z127:=sizeOf194
 v127:=zeroValue194
 t146:=underlying455
 a146:=isAgg455
 z146:=sizeOf455
 v146:=zeroValue455
 t148:=underlying304
 a148:=isAgg304
 z148:=sizeOf304
 v148:=zeroValue304
 t164:=underlying369
 a164:=isAgg369
 z164:=sizeOf369
 v164:=zeroValue369}
theorem Tryz.Builder_Extra_105:Builder.Extra prog Tryz.lays105_ren:={
 sizeBuilder:=κ
 liesBuilder:=κ
 t5:=underlying5
 a5:=isAgg5
 z5:=sizeOf5
 v5:=zeroValue5
 infoByte:=κ
 cellsByte:=κ
 sizeByte:=κ
 neB5:=δ}
open Go.RowKit Go.Lib in
theorem Tryz.strings_Repeat (s:ByteArray) (c:Nat) (w:World) (hc:c<=9223372036854775807) (hlen:s.size*c<=140737488355328):
  Calls prog 303 #[.string s,.int .i64 c] w λe w'=>e=.returned (.string ⟨(Lib.repeatL s.data.toList c).toArray⟩)/\ψ w w':=Any.strings_Repeat Tryz.lays105 Tryz.Builder_Extra_105 s c w hc hlen
end Go.Proofs
namespace Go.Proofs.BU
open Go.RowKit MM
theorem vC:(prog.info? 127).map (·.size)=some 2:=κ
theorem xO2:(prog.info? 5).map (λi=>(i.zero,i.size,i.bytes))=some (some (.int .u8 0),1,1):=κ
theorem xFu (b:Nat) (w:World) (h0:w.cell? ⟨b,0,none⟩=some (.pointer (some ⟨b,0,none⟩))):
  Calls prog 242 #[.pointer (some ⟨b,0,none⟩)] w λe w'=>e=.returned (.tuple #[])/\w'=w:=by
 obtain⟨j,hj,_⟩:=Option.map_eq_some_iff.1 vC;go_enter func242,ntmps242;go_wp2;rw[Lib.run_neq_ptr_same w _ underlying124 hj];go_wp2
 go_end0
 exact⟨rfl,rfl⟩
theorem xF6 (b:Nat) (w:World) (h0:w.cell? ⟨b,0,none⟩=some (.pointer none)) (hsh:w.shape? b=some (127,2)) (hfz:w.frozen? ⟨b,0,none⟩=false):
  Calls prog 242 #[.pointer (some ⟨b,0,none⟩)] w λe w'=>e=.returned (.tuple #[])/\w'=w.setCell ⟨b,0,none⟩ (.pointer (some ⟨b,0,none⟩)):=by
 obtain⟨j,hj,hjs⟩:=Option.map_eq_some_iff.1 vC;go_enter func242,ntmps242;go_wp2;rw[Lib.run_to_unsafe w ⟨b,0,none⟩ underlying124 underlying369 hj (by rw[hjs];decide) hsh (Nat.zero_lt_succ 1)];simp only[Result.andThen];rw[Oper.upon_value];go_wp2
 rw[run_callFunc_extern func322 κ κ κ (e:=Extern.AbiNoEscape.same) κ];rw[Lib.run_noEscape];simp only[Result.andThen];rw[Oper.upon_value];go_wp2;rw[Lib.run_from_unsafe w ⟨b,0,none⟩ underlying369 underlying124 hj hsh κ];simp only[Result.andThen];rw[Oper.upon_value]
 go_wp2
 go_end0
 exact⟨rfl,rfl⟩
theorem xIh (B b:Nat) (bs:List Value) (w:World) (h:Lib.IsBuilder 127 5 B b bs w):
  Calls prog 242 #[.pointer (some ⟨b,0,none⟩)] w λe w'=>e=.returned (.tuple #[])/\(Lib.BuilderAt 127 5 B b (.pointer (some ⟨b,0,none⟩)) bs w'/\Below B w w'):=by
 rcases h with h|h
 ·refine(xF6 b w h.cell0 h.shape h.frozen0).mono ?_;rintro e w' ⟨rfl,rfl⟩;exact⟨rfl,h.used _,(Below.refl B w).setCell (p:=⟨b,0,none⟩) h.1 _⟩
 ·refine(xFu b w h.cell0).mono ?_;rintro e w' ⟨rfl,rfl⟩;exact⟨rfl,h,Below.refl B _⟩
abbrev Bld (B b:Nat) (l:List UInt8) (w:World):Prop:=Lib.IsBuilder 127 5 B b (Lib.byteCells l) w
theorem xT7 (n:Int):∀u∈[Value.int .u8 n],u.oneCell'=true:=by
 intro u hu;rw[List.mem_singleton.1 hu];rfl
theorem xQt (l:List UInt8) (c:UInt8):Lib.byteCells (l++[c])=Lib.byteCells l++[.int .u8 c.toNat]:=by simp[Lib.byteCells]
theorem xKc (l:List UInt8):(Lib.byteCells l).length=l.length:=by simp[Lib.byteCells]
theorem pF (B b:Nat) (l:List UInt8) (c:UInt8) (w:World) (h:Bld B b l w) (hl:l.length<=1000000000) (hB:B<=w.heap.size):
  Calls prog 289 #[.pointer (some ⟨b,0,none⟩),.int .u8 c.toNat] w λe w'=>e=.returned .nilIface/\Bld B b (l++[c]) w'/\Below B w w':=by
 obtain⟨i0,hi,hz0,hz1,hz2⟩:=info_parts xO2;have Hl:=ι (xKc l);go_enter func289,ntmps289;go_wp2_with fail
 refine(xIh B b _ _ h).mono ?_;rintro e w1 ⟨rfl,⟨hBb,v,hbk,hown,hne⟩,hb1⟩;have hown':=ι hown;have Hne:=ι hne;have Hbk:=ι hbk
 obtain⟨A,cp,e9⟩:∃A cp,v=.slice A (Lib.byteCells l).length cp:=by
  rcases hown.2 with ⟨h1,h2⟩|⟨g,cap,cur,h1,_⟩
  ·exact⟨none,0,by rw[h1,h2]⟩
  ·exact⟨_,_,h1⟩
 subst e9;have k1:w1.cell? ⟨b,1,none⟩=some (.slice A (Lib.byteCells l).length cp):=xA hbk 1;have hlt:=xJ hbk;have HB1:=ι hb1;have hz:=hb1.size;clear hown hne hbk hb1
 go_wp2_with (at_builtin;refine wpList_append_lies _ rfl _ _ 125 rfl B 5 i0 (.int .u8 0) 1 1 underlying125 hi hz0 hz1 hz2 rfl δ _ _ _ rfl (World.ownsRow.alloc hown'.o _) ⟨w1.heap.size,0,none⟩ 1 1 [.int .u8 c.toNat] rfl rfl (cell_one_new _ _ _) (xT7 _) δ (by have:=Hl.o;unfold maxLen;omega) (by have:=Hl.o;omega) (by simp;omega) (w1.heap.size+1) σ ?_;intro g cap w2 hown2 hgrow hat hlt2;have pk:=ι (wR (xM Hbk.o _) hgrow (λe=>Hne.o e.symm));have k2:w2.cell? ⟨b,1,none⟩=some (.slice A (Lib.byteCells l).length cp):=xA pk.o 1;have y2:w2.frozen? ⟨b,1,none⟩=false:=xD pk.o 1;have xW2:=ι hown2;have xFd:=ι hgrow;clear hown2 hgrow)
 go_ret;refine⟨rfl,.inr ?_,?_⟩
 ·have hown3:w2.ownsRow B 5 1 (.slice (some ⟨g,0,none⟩) ((Lib.byteCells l).length+1) cap) (Lib.byteCells (l++[c])).length (Lib.byteCells (l++[c])):=by
   rw[xQt,List.length_append];exact xW2.o
  exact Lib.BuilderAt.put hBb pk.o hown3 δ
 ·refine Below.setCell ?_ (p:=⟨b,1,none⟩) hBb _;exact(HB1.o.alloc (Nat.le_trans hB hz) _).grown xFd.o (by simp;omega) (λk hk=>(World.ownsRow.lt hown'.o k hk).1)
theorem xKd (l k:List UInt8):Lib.byteCells (l++k)=Lib.byteCells l++Lib.byteCells k:=by simp[Lib.byteCells]
end Go.Proofs.BU
namespace Go.Proofs.IM
open Go.RowKit MM BU
abbrev slf (b:Nat):Value:=.pointer (some ⟨b,20,none⟩)
theorem liesC:liesAt prog prog.depth 129 (22 / prog.cellsOf 129) 20 127 1=true:=κ
structure Cmd (b:Nat) (cs:Array Value) (l:List UInt8) (w:World):Prop where
 blk:w.heap[b]?=some (.cells cs 129 (0,0))
 size:cs.size=22
 own:∃p v,cs[20]?=some p/\cs[21]?=some v/\(p=.pointer none∨p=slf b)/\w.ownsRow b 5 1 v l.length (Lib.byteCells l)/\v.ownBlock≠some b/\(l=[]->v=.slice none 0 0)
theorem xF7 (b:Nat) (w:World) (h0:w.cell? ⟨b,20,none⟩=some (slf b)):
  Calls prog 242 #[slf b] w λe w'=>e=.returned (.tuple #[])/\w'=w:=by
 obtain⟨j,hj,_⟩:=Option.map_eq_some_iff.1 vC;go_enter func242,ntmps242;go_wp2;rw[Lib.run_neq_ptr_same w _ underlying124 hj];go_wp2
 go_end0
 exact⟨rfl,rfl⟩
theorem xDd (b:Nat) (w:World) (h0:w.cell? ⟨b,20,none⟩=some (.pointer none)) (hsh:w.shape? b=some (129,22)) (hfz:w.frozen? ⟨b,20,none⟩=false):
  Calls prog 242 #[slf b] w λe w'=>e=.returned (.tuple #[])/\w'=w.setCell ⟨b,20,none⟩ (slf b):=by
 obtain⟨j,hj,hjs⟩:=Option.map_eq_some_iff.1 vC;go_enter func242,ntmps242;go_wp2;rw[Lib.run_to_unsafe w ⟨b,20,none⟩ underlying124 underlying369 hj (by rw[hjs];decide) hsh (show 20<22 by decide)];simp only[Result.andThen];rw[Oper.upon_value];go_wp2
 rw[run_callFunc_extern func322 κ κ κ (e:=Extern.AbiNoEscape.same) κ];rw[Lib.run_noEscape];simp only[Result.andThen];rw[Oper.upon_value];go_wp2;rw[Lib.run_from_unsafe w ⟨b,20,none⟩ underlying369 underlying124 hj hsh liesC];simp only[Result.andThen]
 rw[Oper.upon_value];go_wp2
 go_end0
 exact⟨rfl,rfl⟩
theorem xB9 {cs:Array Value} {i:Nat} (h:cs.size=22) (hi:i<22) (u:Value) (j:Nat):(cs.setIfInBounds i u)[j]?=if i=j then some u else cs[j]?:=by
 rw[Array.getElem?_setIfInBounds]
 by_cases e:i=j
 ·rw[if_pos e,if_pos e,if_pos ω]
 ·rw[if_neg e,if_neg e]
theorem xFv (b:Nat) (cs:Array Value) (l:List UInt8) (w:World) (h:Cmd b cs l w):
  Calls prog 242 #[slf b] w λe w'=>e=.returned (.tuple #[])/\Cmd b (cs.setIfInBounds 20 (slf b)) l w'/\(cs.setIfInBounds 20 (slf b))[20]?=some (slf b)/\Below b w w':=by
 obtain⟨p,v,hp,hv,hor,hown,hne,hnil⟩:=h.own;have h20:(cs.setIfInBounds 20 (slf b))[20]?=some (slf b):=by rw[xB9 h.size δ,if_pos rfl]
 have h21:(cs.setIfInBounds 20 (slf b))[21]?=some v:=by rw[xB9 h.size δ,if_neg δ];exact hv
 rcases hor with rfl|rfl
 ·have hsh:w.shape? b=some (129,22):=by simp[World.shape?,h.blk,h.size]
  refine(xDd b w ((xA h.blk 20).trans hp) hsh (xD h.blk 20)).mono ?_;rintro e w' ⟨rfl,rfl⟩;refine⟨rfl,⟨yC h.blk 20 (slf b),by simp[h.size],slf b,v,h20,h21,.inr rfl,?_,hne,hnil⟩,h20,(Below.refl b w).setCell (p:=⟨b,20,none⟩) ν _⟩;refine⟨hown.1,?_⟩
  rcases hown.2 with hn|⟨g,cap,cur,h1,h2,h3,h4⟩
  ·exact .inl hn
  ·exact .inr ⟨g,cap,cur,h1,h2,zL h3 (λe=>hne (by rw[h1];exact congrArg some e)) _,h4⟩
 ·refine(xF7 b w ((xA h.blk 20).trans hp)).mono ?_;rintro e w' ⟨rfl,rfl⟩
  have hcs:cs.setIfInBounds 20 (slf b)=cs:=by
   apply Array.ext_getElem?;intro j;rw[xB9 h.size δ]
   by_cases e:20=j
   ·rw[if_pos e,<-e];exact hp.symm
   ·rw[if_neg e]
  rw[hcs];exact⟨rfl,h,hp,Below.refl b _⟩
theorem xDb (b:Nat) (cs:Array Value) (l:List UInt8) (s:ByteArray) (w:World) (h:Cmd b cs l w) (hl:l.length+s.size<=1000000000) (hs:0<s.size):
  Calls prog 153 #[slf b,.string s] w λe w'=>e=.returned (.tuple #[.int .i64 s.size,.nilIface])/\∃v,Cmd b ((cs.setIfInBounds 20 (slf b)).setIfInBounds 21 v) (l++s.data.toList) w'/\Below b w w':=by
 obtain⟨i0,hi,hz0,hz1,hz2⟩:=info_parts xO2;have Hl:=ι (xKc l);go_enter func153,ntmps153;go_wp2_with fail
 refine(xFv b cs l _ h).mono ?_;rintro e w1 ⟨rfl,⟨hbk,hsz,p,v,hp,hv,hor,hown,hne,hnil⟩,h20,hb1⟩;have Hown:=ι hown;have Hne:=ι hne;have Hbk:=ι hbk;have k1:w1.cell? ⟨b,21,none⟩=some v:=(xA hbk 21).trans hv;have hlt:=xJ hbk;have HB1:=ι hb1;have hz:=hb1.size;have Hsz:=ι hsz
 have H20:=ι h20;clear hown hne hbk hb1 hp hv hor hnil hsz h20;go_wp2_with (at_builtin;refine Lib.wpList_append_own_string _ rfl _ _ 125 9 rfl b 5 i0 underlying125 underlying9 hi hz0 hz1 hz2 _ _ _ rfl Hown.o s rfl ?c3 ?c4 ?c5 ?_)
 case c3=>have:=Hl.o;unfold maxLen;omega
 case c4=>have:=Hl.o;omega
 case c5=>omega
 intro v' w2 hown' hgrow _;have pk:=ι (wR Hbk.o hgrow (λe=>Hne.o e.symm));have k2:w2.cell? ⟨b,21,none⟩=some v:=(xA pk.o 21).trans ((xA Hbk.o 21).symm.trans k1);have y2:w2.frozen? ⟨b,21,none⟩=false:=xD pk.o 21
 obtain⟨ao,n',cap,rfl,hob⟩:∃ao n' cap,v'=.slice ao n' cap/\v'.ownBlock≠some b:=by
  rcases hown'.2 with ⟨hv,_⟩|⟨g,cap,cur,hv,hg1,hg2,_⟩
  ·exact⟨_,_,_,hv,by rw[hv];simp[Value.ownBlock]⟩
  ·refine⟨_,_,_,hv,?_⟩;rw[hv];intro e;have e':g=b:=by simpa[Value.ownBlock] using e
   subst e';have:=pk.o.symm.trans hg2;injection this with this;injection this with h1 h2;exact absurd h2 δ
 have xW2:=ι hown';have xFd:=ι hgrow;have Hob:=ι hob;clear hown' hgrow hob;go_wp2;go_ret2;refine⟨rfl,_,⟨yC pk.o 21 _,by simpa using Hsz.o,slf b,_,?_,?_,.inr rfl,?_,Hob.o,?_⟩,?_⟩
 ·rw[xB9 Hsz.o δ,if_neg δ];exact H20.o
 ·rw[xB9 Hsz.o δ,if_pos rfl]
 ·have hss:s.data.toList.length=s.size:=Array.length_toList
  have h4:w2.ownsRow b 5 1 (.slice ao n' cap) (l++s.data.toList).length (Lib.byteCells (l++s.data.toList)):=by
   rw[xKd,List.length_append,hss];exact xW2.o
  refine⟨h4.1,?_⟩;rcases h4.2 with hn|⟨g,cap,cur,h1,h2,h3,h5⟩
  ·exact .inl hn
  ·exact .inr ⟨g,cap,cur,h1,h2,zL h3 (λe=>Hob.o (by rw[h1];exact congrArg some e)) _,h5⟩
 ·intro e;have:=congrArg List.length e;rw[List.length_append] at this;have hss:s.data.toList.length=s.size:=Array.length_toList;have h0:l.length+s.data.toList.length=0:=this;omega
 ·refine Below.setCell ?_ (p:=⟨b,21,none⟩) ν _;exact HB1.o.grown xFd.o ω (λk hk=>(World.ownsRow.lt Hown.o k hk).1)
theorem xBe (W:World) (q:Option Addr):(Builtin.unsafeString_ #[194,3] 9 #[.pointer q,.int .i64 0]).run prog W=.ok (.string .empty) W:=
 Lib.run_unsafeString_none W _ _ _ q
theorem xLd (b:Nat) (w:World) (h1:w.cell? ⟨b,21,none⟩=some (.slice none 0 0)):
  Calls prog 53 #[slf b] w λe w'=>e=.returned (.string ⟨#[]⟩)/\w'=w.drew:=by
 have hUS:=xBe;have c1:w.drew.cell? ⟨b,21,none⟩=some (.slice none 0 0):=h1;have hSD:(Builtin.unsafeSliceData_ #[125] 194 #[.slice none 0 0]).run prog w.drew=.ok (.pointer none) w.drew:=rfl;go_enter func53,ntmps53;go_wp2
 go_region
 all_goals (go_wp2;go_ret;exact⟨rfl,rfl⟩)
theorem xLc (b g cap:Nat) (cur:Array Value) (l:List UInt8) (w:World) (h1:w.cell? ⟨b,21,none⟩=some (.slice (some ⟨g,0,none⟩) l.length cap)) (h0:l≠[])
  (hg:w.heap[g]?=some (.cells cur 5 (0,0))) (hnc:l.length<=cap) (hcm:cap<=maxLen) (hcs:cur.size=cap*1) (htake:cur.toList.take (l.length*1)=Lib.byteCells l):
  Calls prog 53 #[slf b] w λe w'=>e=.returned (.string ⟨l.toArray⟩)/\w'=w.drew.freeze ⟨g,0,none⟩ l.length:=by
 have hl0:l.length≠0:=by simpa using h0
 have c1:w.drew.cell? ⟨b,21,none⟩=some (.slice (some ⟨g,0,none⟩) l.length cap):=h1
 have hSD:(Builtin.unsafeSliceData_ #[125] 194 #[.slice (some ⟨g,0,none⟩) l.length cap]).run prog w.drew=.ok (.pointer (some ⟨g,0,none⟩)) w.drew:=
  Lib.run_unsafeSliceData_row _ _ _ _ _ _ ω
 have hUS:(Builtin.unsafeString_ #[194,3] 9 #[.pointer (some ⟨g,0,none⟩),.int .i64 l.length]).run prog w.drew=.ok (.string ⟨l.toArray⟩) (w.drew.freeze ⟨g,0,none⟩ l.length):=by
  refine Lib.run_unsafeString_row w.drew 194 3 9 5 underlying194 κ g cur.size (by have hg':w.drew.heap[g]?=some (.cells cur 5 (0,0)):=hg;simp[World.shape?,hg']) l h0 ω (by unfold maxLen at hcm;omega) ?_;intro j x hx;have hg':w.drew.heap[g]?=some (.cells cur 5 (0,0)):=hg
  have hadd:(⟨g,0,none⟩:Addr).add j=⟨g,j,none⟩:=by unfold Addr.add;split<;>simp_all
  first|rw[hadd]|skip
  rw[xA hg' j];have hj:j<l.length:=(List.getElem?_eq_some_iff.1 hx).1;have h3:(cur.toList.take (l.length*1))[j]?=some (.int .u8 x.toNat):=by rw[htake];simp[Lib.byteCells,hx]
  rw[List.getElem?_take] at h3;rw[if_pos ω] at h3;simpa using h3
 go_enter func53,ntmps53;go_wp2
 go_region
 all_goals (go_wp2;go_ret;exact⟨rfl,rfl⟩)
theorem xQb {w:World} {g b:Nat} (h:g≠b) (n:Nat):(w.freeze ⟨g,0,none⟩ n).heap[b]?=w.heap[b]?:=by
 unfold World.freeze;split
 ·rfl
 ·simp only[Array.getElem?_modify];rw[if_neg h]
end Go.Proofs.IM
namespace Mailsack
abbrev Bs:=List UInt8
theorem xB3 (l sub:Bs):Go.Lib.index l sub=-1∨∃i:Nat,Go.Lib.index l sub=i:=by
 rcases Go.Lib.index_spec l sub with ⟨h,_⟩|⟨i,h,_⟩
 ·exact .inl h
 ·exact .inr ⟨i,h⟩
theorem xOh {l sep:Bs} (h:Go.Lib.index l sep=-1):Go.Lib.cut l sep=(l,[],false):=by
 unfold Go.Lib.cut;rw[if_neg ω]
theorem xV7 {l sep:Bs} {i:Nat} (h:Go.Lib.index l sep=i):Go.Lib.cut l sep=(l.take i,l.drop (i+sep.length),true):=by
 unfold Go.Lib.cut;rw[if_pos ω,h];rfl
theorem index_le {l sub:Bs} {i:Nat} (h:Go.Lib.index l sub=i):i+sub.length<=l.length:=by
 have:=Go.Lib.index_room l sub ω;omega
theorem xUv (s:ByteArray) (a b:Nat):s.extract a b=⟨((s.data.toList.drop a).take (b-a)).toArray⟩:=by
 have h:=Go.Lib.extract_data s a b;generalize s.extract a b=r at h;obtain⟨⟨x⟩⟩:=r;simp at h;subst h
 rfl
theorem xOb (s:ByteArray) (i:Nat):s.extract 0 i=⟨(s.data.toList.take i).toArray⟩:=by
 rw[xUv];simp
theorem xC9 (s:ByteArray) (a:Nat):s.extract a s.size=⟨(s.data.toList.drop a).toArray⟩:=by
 rw[xUv,List.take_of_length_le (by rw[List.length_drop,Array.length_toList];exact Nat.le_refl _)]
theorem yA (s:ByteArray):s.data.toList.length=s.size:=by rw[Array.length_toList];rfl
theorem ext_size (s:ByteArray) (a b:Nat):(s.extract a b).size=min b s.size-a:=by rw[ByteArray.size_extract]
theorem vO {x:UInt8} {n:Nat} (hn:n<256):((x.toNat:Int)=(n:Int))↔x=UInt8.ofNat n:=by
 constructor
 ·intro h;have:x.toNat=n:=ω;subst this;simp
 ·rintro rfl;simp[UInt8.toNat_ofNat_of_lt' (show n<UInt8.size from hn)]
def up (c:UInt8):UInt8:=if 97<=c.toNat/\c.toNat<=122 then UInt8.ofNat (c.toNat-32) else c
def upP (l:Bs):Bs:=l.map up
theorem xHb {c:UInt8} (h1:97<=c.toNat) (h2:c.toNat<=122):(up c).toNat=c.toNat-32:=by
 unfold up;rw[if_pos ⟨h1,h2⟩,UInt8.toNat_ofNat_of_lt' (show c.toNat-32<UInt8.size by have:UInt8.size=256:=rfl;omega)]
theorem xWr {c:UInt8} (h:¬(97<=c.toNat/\c.toNat<=122)):up c=c:=by unfold up;rw[if_neg h]
theorem jB (l:Bs):(upP l).length=l.length:=by simp[upP]
def upTo (l:Bs) (k j:Nat):UInt8:=if j<k then up (l.getD j 0) else l.getD j 0
theorem xE9 (l:Bs) (j:Nat) (h:j<l.length):(upP l)[j]'(by rw[jB];exact h)=upTo l l.length j:=by
 simp[upTo,upP,h,List.getD_eq_getElem?_getD]
theorem xBd {l:Bs} {k j:Nat} (h:j≠k):upTo l (k+1) j=upTo l k j:=by
 unfold upTo
 by_cases h1:j<k
 ·rw[if_pos ω,if_pos h1]
 ·rw[if_neg ω,if_neg h1]
theorem xHc (l:Bs) (k:Nat):upTo l (k+1) k=up (l.getD k 0):=by unfold upTo;rw[if_pos ω]
theorem xDh (l:Bs) (k:Nat):upTo l k k=l.getD k 0:=by unfold upTo;rw[if_neg ω]
theorem xE8 {l:Bs} {k:Nat} (h:¬(97<=(l.getD k 0).toNat/\(l.getD k 0).toNat<=122)) (j:Nat):upTo l (k+1) j=upTo l k j:=by
 by_cases e:j=k
 ·subst e;rw[xHc,xDh,xWr h]
 ·exact xBd e
def xAn (c:UInt8):Bool:=decide (32<=c.toNat)&&decide (c.toNat<=126)
def zN (l:Bs):Bool:=l.all xAn
def uC (c:UInt8):Bool:=c==32||c==40||c==41||c==34
def isWord (l:Bs):Bool:=decide (0<l.length)&&l.all (λc=>!uC c)
theorem xDe (c:UInt8):List.contains [32,40,41,34] c=uC c:=by
 unfold uC;show List.elem c [32,40,41,34]=_;simp only[List.elem];cases c==32<;>cases c==40<;>cases c==41<;>cases c==34<;>rfl
def wX (l:Bs):Nat:=(l.takeWhile (λc=>!uC c)).length
theorem xCj (l:Bs):wX l<=l.length:=(List.takeWhile_sublist _).length_le
theorem xC5:∀l:Bs,Go.Lib.indexAny l [32,40,41,34]=if wX l=l.length then -1 else(wX l:Int)
 |[]=>rfl
 |b::l=>by
  unfold Go.Lib.indexAny wX;rw[xDe,List.takeWhile_cons];have ih:=xC5 l;unfold wX at ih;have hle:=xCj l;unfold wX at hle;cases hb:uC b
  ·simp only[Bool.false_eq_true,if_false,Bool.not_false,if_true,List.length_cons];rw[ih]
   by_cases h:(l.takeWhile λc=>!uC c).length=l.length
   ·simp[h]
   ·have h2:¬(((l.takeWhile λc=>!uC c).length:Int)==-1)=true:=σ;have h3:¬(l.takeWhile λc=>!uC c).length+1=l.length+1:=ω;rw[if_neg h,if_neg h2,if_neg h3]
    rfl
  ·simp
end Mailsack
namespace Go.Proofs.IM
open Go.RowKit MM BU Mailsack
abbrev xIs (b:Nat):Value:=.pointer (some ⟨b,0,none⟩)
theorem xHf (b:Nat) (cs:Array Value) (l:List UInt8) (s:ByteArray) (w:World) (h:Cmd b cs l w) (hl:l.length+s.size<=100000000):
  Calls prog 190 #[xIs b,.string s] w λe w'=>e=.returned (.tuple #[])/\∃v,Cmd b ((cs.setIfInBounds 20 (slf b)).setIfInBounds 21 v) (l++([42,32]++s.data.toList++[13,10])) w'/\Below b w w':=by
 have H:=ι h;have xVp:¬9223372036854775807<2+s.size:=ω;have xVn:¬9223372036854775807<2+s.size+2:=ω;clear h;go_enter func190,ntmps190;go_wp2_with fail
 have hsz:((⟨#[42,32]⟩:ByteArray)++s++⟨#[13,10]⟩).size=s.size+4:=by
  rw[ByteArray.size_append,ByteArray.size_append];show 2+s.size+2=s.size+4;omega
 have hdt:((⟨#[42,32]⟩:ByteArray)++s++⟨#[13,10]⟩).data.toList=[42,32]++s.data.toList++[13,10]:=σ;refine(xDb b cs l _ _ H.o (by rw[hsz];omega) (by rw[hsz];omega)).mono ?_;rw[hdt];rintro e w' ⟨rfl,v,hc,hb⟩;have HC:=ι hc;have HB:=ι hb;clear hc hb hsz hdt;go_wp2
 go_end0
 exact⟨rfl,v,HC.o,HB.o⟩
theorem xGm (b:Nat) (w:World):
  Calls prog 52 #[xIs b,.int .i64 0] w λe w'=>e=.returned (.bool true)/\w'=w:=by
 go_enter func52,ntmps52;go_wp2;go_ret;exact⟨rfl,rfl⟩
theorem xTi (b:Nat) (w:World) (h:w.cell? ⟨b,2,none⟩=some (xK [])):
  Calls prog 52 #[xIs b,.int .i64 3] w λe w'=>e=.returned (.bool false)/\w'=w:=by
 go_enter func52,ntmps52;go_wp2;go_ret;exact⟨rfl,rfl⟩
def wCap:List UInt8:=[67,65,80,65,66,73,76,73,84,89,32,73,77,65,80,52,114,101,118,49]
theorem xFx (b:Nat) (cs:Array Value) (A:Option Addr) (c:Nat) (w:World) (h:Cmd b cs [] w) (ha:cs[18]?=some (.slice A 0 c)):
  Calls prog 107 #[xIs b] w λe w'=>e=.returned (.int .i64 0)/\∃v,Cmd b ((cs.setIfInBounds 20 (slf b)).setIfInBounds 21 v) ([42,32]++wCap++[13,10]) w'/\Below b w w':=by
 have k18:w.cell? ⟨b,18,none⟩=some (.slice A 0 c):=(xA h.blk 18).trans ha;have HT:=ι (xHf b cs [] ⟨#[67,65,80,65,66,73,76,73,84,89,32,73,77,65,80,52,114,101,118,49]⟩ w h δ);clear h ha;go_enter func107,ntmps107;go_wp2_with fail
 refine HT.o.mono ?_;rintro e w' ⟨rfl,v,hc,hb⟩;have HC:=ι hc;have HB:=ι hb;clear hc hb k18;go_wp2;go_ret;exact⟨rfl,v,HC.o,HB.o⟩
theorem xPz (b:Nat) (cs:Array Value) (A:Option Addr) (c:Nat) (w:World) (h:Cmd b cs [] w) (ha:cs[18]?=some (.slice A 0 c)):
  Calls prog 109 #[xIs b] w λe w'=>e=.returned (.int .i64 0)/\∃v,Cmd b (((cs.setIfInBounds 20 (slf b)).setIfInBounds 21 v).setIfInBounds 11 (.bool true)) ([42,32]++[66,89,69]++[13,10]) w'/\Below b w w':=by
 have k18:w.cell? ⟨b,18,none⟩=some (.slice A 0 c):=(xA h.blk 18).trans ha;have HT:=ι (xHf b cs [] ⟨#[66,89,69]⟩ w h δ);clear h ha;go_enter func109,ntmps109;go_wp2_with fail
 refine HT.o.mono ?_;rintro e w' ⟨rfl,v,hc,hb⟩;have HC:=ι hc;have HB:=ι hb;have q1:w'.cell? ⟨b,11,none⟩=((cs.setIfInBounds 20 (slf b)).setIfInBounds 21 v)[11]?:=xA hc.blk 11
 obtain⟨u,hu⟩:∃u,((cs.setIfInBounds 20 (slf b)).setIfInBounds 21 v)[11]?=some u:=⟨_,Array.getElem?_eq_getElem (by have:=hc.size;omega)⟩;rw[hu] at q1;have q2:w'.frozen? ⟨b,11,none⟩=false:=xD hc.blk 11;have hlt:=xJ hc.blk;clear hc hb k18 hu;go_wp2;go_ret
 refine⟨rfl,v,⟨yC HC.o.blk 11 (.bool true),by simpa using HC.o.size,?_⟩,HB.o.setCell (p:=⟨b,11,none⟩) ν _⟩;obtain⟨p,v2,hp,hv,hor,hown,hne,hnil⟩:=HC.o.own;refine⟨p,v2,?_,?_,hor,?_,hne,hnil⟩
 ·rw[xB9 HC.o.size δ,if_neg δ];exact hp
 ·rw[xB9 HC.o.size δ,if_neg δ];exact hv
 ·refine⟨hown.1,?_⟩;rcases hown.2 with hn|⟨g,cap,cur,h1,h2,h3,h5⟩
  ·exact .inl hn
  ·exact .inr ⟨g,cap,cur,h1,h2,zL h3 (λe=>hne (by rw[h1];exact congrArg some e)) _,h5⟩
end Go.Proofs.IM
namespace Go.Proofs.MP
open Go.RowKit MM Go.ChangeMaps Go.WideMaps Go.WideShapes
abbrev Bs:=List UInt8
def yB (w:World) (b:Nat) (tab:List (Bs×Value)):Prop:=
 ∃es clock,w.heap[b]?=some (.map es clock)/\es.toList.map (λe=>(e.key,e.val))=tab.map (λp=>(xK p.1,p.2))
theorem yB.new (w:World):yB (w.alloc (.map #[] 0)) w.heap.size []:=⟨#[],0,xI w _,rfl⟩
theorem yB.kept {w w':World} {b:Nat} {tab:List (Bs×Value)} {row:Option Nat} (h:yB w b tab) (hg:w.grownBy w' row) (hne:some b≠row):yB w' b tab:=by
 obtain⟨es,c,h1,h2⟩:=h;exact⟨es,c,wR h1 hg hne,h2⟩
theorem yB.lt {w:World} {b:Nat} {tab:List (Bs×Value)} (h:yB w b tab):b<w.heap.size:=by
 obtain⟨es,c,h1,_⟩:=h;exact xJ h1
theorem tH:KeyLaw prog 9:=WideMaps.string_law underlying9
theorem xM9 {s:Bs} (h:s.length<=1000000):keyOf prog 9 (xK s)=some (.string s):=
 WideMaps.keyOf_string_mk underlying9 (by show s.length<=_;unfold maxLen;omega)
theorem pG {a b:Bs} (h:xK a=xK b):a=b:=by
 injection h with h;exact xOj.1 h
theorem yB.keys {tab:List (Bs×Value)} {es:Array MapEntry} (h2:es.toList.map (λe=>(e.key,e.val))=tab.map (λp=>(xK p.1,p.2))) (hl:∀p∈tab,p.1.length<=1000000):
  ∀e∈es.toList,∃l,keyOf prog 9 e.key=some l:=by
 intro e he;have:(e.key,e.val)∈es.toList.map (λe=>(e.key,e.val)):=List.mem_map_of_mem (f:=λe:MapEntry=>(e.key,e.val)) he;rw[h2] at this;obtain⟨p,hp,hpe⟩:=List.mem_map.1 this;injection hpe with h3 h4;exact⟨_,by rw[<-h3];exact xM9 (hl p hp)⟩
theorem yB.miss {w:World} {b:Nat} {tab:List (Bs×Value)} {t e:TypeId} {z:Value} (h:yB w b tab) (hl:∀p∈tab,p.1.length<=1000000) (ht:prog.underlying t=some (.map 9 e)) (hz:(zeroValue e).run prog w=.ok z w)
  {s:Bs} (hs:s.length<=1000000) (hno:∀p∈tab,p.1≠s):(Instr.lookup t (.map (some b)) (xK s) true).run prog w=.ok (.tuple #[z,.bool false]) w:=by
 obtain⟨es,clock,hb,h2⟩:=h;rcases tH.find w (xM9 hs) es.toList (yB.keys h2 hl) with ⟨h1,_⟩|⟨j,e0,h1,h3,h4⟩
 ·simp[Instr.lookup,run_underlying ht,MapKept.run_getObj_map hb,tH.check w _ (xM9 hs),h1,hz,Result.andThen]
 ·exfalso
  have:(e0.key,e0.val)∈es.toList.map (λe=>(e.key,e.val)):=List.mem_map_of_mem (f:=λe:MapEntry=>(e.key,e.val)) (List.mem_of_getElem? h3);rw[h2] at this;obtain⟨p,hp,hpe⟩:=List.mem_map.1 this;injection hpe with h5 h6;exact hno p hp (pG (h5.trans h4))
theorem yB.hit {w:World} {b:Nat} {tab:List (Bs×Value)} {t e:TypeId} (h:yB w b tab) (hl:∀p∈tab,p.1.length<=1000000) (ht:prog.underlying t=some (.map 9 e))
  {s:Bs} (hs:s.length<=1000000) {v:Value} (hv:(s,v)∈tab) (uR:∀u,(s,u)∈tab->u=v):(Instr.lookup t (.map (some b)) (xK s) true).run prog w=.ok (.tuple #[v,.bool true]) w:=by
 obtain⟨es,clock,hb,h2⟩:=h;rcases tH.find w (xM9 hs) es.toList (yB.keys h2 hl) with ⟨h1,h3⟩|⟨j,e0,h1,h3,h4⟩
 ·exfalso
  have:(xK s,v)∈tab.map (λp=>(xK p.1,p.2)):=List.mem_map_of_mem (f:=λp:Bs×Value=>(xK p.1,p.2)) hv;rw[<-h2] at this;obtain⟨x,hx,hxe⟩:=List.mem_map.1 this;injection hxe with h5 h6;exact h3 x hx h5
 ·have:(e0.key,e0.val)∈es.toList.map (λe=>(e.key,e.val)):=List.mem_map_of_mem (f:=λe:MapEntry=>(e.key,e.val)) (List.mem_of_getElem? h3);rw[h2] at this;obtain⟨p,hp,hpe⟩:=List.mem_map.1 this;have h5:xK p.1=e0.key:=congrArg Prod.fst hpe;have h6:p.2=e0.val:=congrArg Prod.snd hpe
  have h7:p.1=s:=pG (h5.trans h4);have h8:e0.val=v:=by rw[<-h6];exact uR p.2 (by rw[<-h7];exact hp)
  have e9:(Instr.lookup t (.map (some b)) (xK s) true).run prog w=.ok (.tuple #[e0.val,.bool true]) w:=by
   clear h8 uR hv h6 h7 h5 hp this h2 hl;simp[Instr.lookup,run_underlying ht,MapKept.run_getObj_map hb,tH.check w _ (xM9 hs),h1,Result.andThen]
  rw[e9,h8]
theorem yB.put {w:World} {b:Nat} {tab:List (Bs×Value)} {t e:TypeId} (h:yB w b tab) (hl:∀p∈tab,p.1.length<=1000000) (ht:prog.underlying t=some (.map 9 e))
  {s:Bs} (hs:s.length<=1000000) (v:Value) (hno:∀p∈tab,p.1≠s):∃w',(Instr.mapUpdate t (.map (some b)) (xK s) v).run prog w=.ok () w'/\yB w' b (tab++[(s,v)])/\w.grownBy w' (some b):=by
 obtain⟨es,clock,hb,h2⟩:=h;rcases tH.find w (xM9 hs) es.toList (yB.keys h2 hl) with ⟨h1,_⟩|⟨j,e0,h1,h3,h4⟩
 ·refine⟨setBlock w b (.map (es.push ⟨xK s,v,clock⟩) (clock+1)),?_,⟨es.push ⟨xK s,v,clock⟩,clock+1,heap_setBlock_same hb _,?_⟩,⟨rfl,rfl,rfl,by simp[setBlock],λi _ hi=>heap_setBlock_other hb _ (λe=>hi (by rw[e]))⟩⟩
  ·simp[Instr.mapUpdate,run_underlying ht,MapKept.run_getObj_map hb,tH.check w false (xM9 hs),h1,MapKept.run_setObj_map _ hb,Result.andThen,setBlock]
  ·rw[Array.toList_push,List.map_append,h2,List.map_append];rfl
 ·exfalso
  have:(e0.key,e0.val)∈es.toList.map (λe=>(e.key,e.val)):=List.mem_map_of_mem (f:=λe:MapEntry=>(e.key,e.val)) (List.mem_of_getElem? h3);rw[h2] at this;obtain⟨p,hp,hpe⟩:=List.mem_map.1 this;injection hpe with h5 h6;exact hno p hp (pG (h5.trans h4))
end Go.Proofs.MP
namespace Go.Proofs.IM
open Go.RowKit MM MP
abbrev Bs:=List UInt8
def uF:List (Bs×Value):=[
 ([67,65,80,65,66,73,76,73,84,89],.agg #[.int .i64 0,.func (.func 107) #[] #[]]),
 ([78,79,79,80],.agg #[.int .i64 0,.func (.func 108) #[] #[]]),
 ([76,79,71,79,85,84],.agg #[.int .i64 0,.func (.func 109) #[] #[]]),
 ([76,79,71,73,78],.agg #[.int .i64 1,.func (.func 110) #[] #[]]),
 ([83,69,76,69,67,84],.agg #[.int .i64 2,.func (.func 111) #[] #[]]),
 ([69,88,65,77,73,78,69],.agg #[.int .i64 2,.func (.func 112) #[] #[]]),
 ([67,82,69,65,84,69],.agg #[.int .i64 2,.func (.func 113) #[] #[]]),
 ([68,69,76,69,84,69],.agg #[.int .i64 2,.func (.func 114) #[] #[]]),
 ([82,69,78,65,77,69],.agg #[.int .i64 2,.func (.func 115) #[] #[]]),
 ([83,85,66,83,67,82,73,66,69],.agg #[.int .i64 2,.func (.func 116) #[] #[]]),
 ([85,78,83,85,66,83,67,82,73,66,69],.agg #[.int .i64 2,.func (.func 117) #[] #[]]),
 ([76,73,83,84],.agg #[.int .i64 2,.func (.func 118) #[] #[]]),
 ([76,83,85,66],.agg #[.int .i64 2,.func (.func 119) #[] #[]]),
 ([83,84,65,84,85,83],.agg #[.int .i64 2,.func (.func 120) #[] #[]]),
 ([65,80,80,69,78,68],.agg #[.int .i64 2,.func (.func 121) #[] #[]]),
 ([67,76,79,83,69],.agg #[.int .i64 3,.func (.func 122) #[] #[]]),
 ([69,88,80,85,78,71,69],.agg #[.int .i64 4,.func (.func 123) #[] #[]]),
 ([83,69,65,82,67,72],.agg #[.int .i64 3,.func (.func 124) #[] #[]]),
 ([70,69,84,67,72],.agg #[.int .i64 3,.func (.func 125) #[] #[]]),
 ([83,84,79,82,69],.agg #[.int .i64 4,.func (.func 126) #[] #[]]),
 ([67,79,80,89],.agg #[.int .i64 3,.func (.func 127) #[] #[]]),
 ([85,73,68,32,83,69,65,82,67,72],.agg #[.int .i64 3,.func (.func 124) #[] #[]]),
 ([85,73,68,32,70,69,84,67,72],.agg #[.int .i64 3,.func (.func 125) #[] #[]]),
 ([85,73,68,32,83,84,79,82,69],.agg #[.int .i64 4,.func (.func 126) #[] #[]]),
 ([85,73,68,32,67,79,80,89],.agg #[.int .i64 3,.func (.func 127) #[] #[]]),
 ([88,80,65,83,83,87,68],.agg #[.int .i64 2,.func (.func 128) #[] #[]]),
 ([88,82,79,84,65,84,69],.agg #[.int .i64 2,.func (.func 129) #[] #[]]),
 ([88,83,84,69,80],.agg #[.int .i64 2,.func (.func 130) #[] #[]])]
theorem kV:∀p∈uF,p.1.length<=1000000:=by
 intro p hp;have h:p.1∈uF.map (·.1):=List.mem_map_of_mem (f:=λp:Bs×Value=>p.1) hp
 revert h
 generalize p.1=s
 revert s
 show ∀s∈uF.map (·.1),s.length<=1000000
 decide
theorem xP6:∀n,n<28->∀s∈(uF.map (·.1)).take n,s≠(uF.map (·.1)).getD n []:=δ
theorem zA {w W:World} {b n:Nat} (h:yB W b (uF.take n)) (hb:w.heap.size<=b) (hB:ψ w W) {s:Bs} {v:Value} (he:uF[n]?=some (s,v)):
  ∃W',(Instr.mapUpdate 135 (.map (some b)) (xK s) v).run prog W=.ok () W'/\yB W' b (uF.take (n+1))/\ψ w W':=by
 have hn:n<28:=(List.getElem?_eq_some_iff.1 he).1
 obtain⟨W',h1,h2,h3⟩:=h.put (λp hp=>kV p (List.mem_of_mem_take hp)) underlying135 (kV _ (List.mem_of_getElem? he)) v (λp hp=>by
  have:=xP6 n hn p.1 (by rw[<-List.map_take];exact List.mem_map_of_mem (f:=λp:Bs×Value=>p.1) hp)
  rwa [List.getD_eq_getElem?_getD,List.getElem?_map,he] at this)
 refine⟨W',h1,?_,hB.grown h3 hB.size (λk e=>by injection e with e;omega)⟩;rw[List.take_add_one,he];exact h2
theorem xJ3 (w:World):Calls prog 51 #[] w λe w'=>e=.returned (.map (some w.heap.size))/\yB w' w.heap.size uF/\ψ w w':=by
 have hmm:(Instr.makeMap 135 none).run prog w=.ok (.map (some w.heap.size)) (w.alloc (.map #[] 0)):=rfl;have h0:yB (w.alloc (.map #[] 0)) w.heap.size (uF.take 0):=yB.new w;have b0:=φ w (.map #[] 0)
 obtain⟨w1,r1,h1,b1⟩:∃W',(Instr.mapUpdate 135 (.map (some w.heap.size)) (.string ⟨#[67,65,80,65,66,73,76,73,84,89]⟩) (.agg #[.int .i64 0,.func (.func 107) #[] #[]])).run prog (w.alloc (.map #[] 0))=.ok () W'/\yB W' w.heap.size (uF.take 1)/\ψ w W':=zA h0 ν b0 rfl;clear h0 b0
 obtain⟨w2,r2,h2,b2⟩:∃W',(Instr.mapUpdate 135 (.map (some w.heap.size)) (.string ⟨#[78,79,79,80]⟩) (.agg #[.int .i64 0,.func (.func 108) #[] #[]])).run prog w1=.ok () W'/\yB W' w.heap.size (uF.take 2)/\ψ w W':=zA h1 ν b1 rfl;clear h1 b1
 obtain⟨w3,r3,h3,b3⟩:∃W',(Instr.mapUpdate 135 (.map (some w.heap.size)) (.string ⟨#[76,79,71,79,85,84]⟩) (.agg #[.int .i64 0,.func (.func 109) #[] #[]])).run prog w2=.ok () W'/\yB W' w.heap.size (uF.take 3)/\ψ w W':=zA h2 ν b2 rfl;clear h2 b2
 obtain⟨w4,r4,h4,b4⟩:∃W',(Instr.mapUpdate 135 (.map (some w.heap.size)) (.string ⟨#[76,79,71,73,78]⟩) (.agg #[.int .i64 1,.func (.func 110) #[] #[]])).run prog w3=.ok () W'/\yB W' w.heap.size (uF.take 4)/\ψ w W':=zA h3 ν b3 rfl;clear h3 b3
 obtain⟨w5,r5,h5,b5⟩:∃W',(Instr.mapUpdate 135 (.map (some w.heap.size)) (.string ⟨#[83,69,76,69,67,84]⟩) (.agg #[.int .i64 2,.func (.func 111) #[] #[]])).run prog w4=.ok () W'/\yB W' w.heap.size (uF.take 5)/\ψ w W':=zA h4 ν b4 rfl;clear h4 b4
 obtain⟨w6,r6,h6,b6⟩:∃W',(Instr.mapUpdate 135 (.map (some w.heap.size)) (.string ⟨#[69,88,65,77,73,78,69]⟩) (.agg #[.int .i64 2,.func (.func 112) #[] #[]])).run prog w5=.ok () W'/\yB W' w.heap.size (uF.take 6)/\ψ w W':=zA h5 ν b5 rfl;clear h5 b5
 obtain⟨w7,r7,h7,b7⟩:∃W',(Instr.mapUpdate 135 (.map (some w.heap.size)) (.string ⟨#[67,82,69,65,84,69]⟩) (.agg #[.int .i64 2,.func (.func 113) #[] #[]])).run prog w6=.ok () W'/\yB W' w.heap.size (uF.take 7)/\ψ w W':=zA h6 ν b6 rfl;clear h6 b6
 obtain⟨w8,r8,h8,b8⟩:∃W',(Instr.mapUpdate 135 (.map (some w.heap.size)) (.string ⟨#[68,69,76,69,84,69]⟩) (.agg #[.int .i64 2,.func (.func 114) #[] #[]])).run prog w7=.ok () W'/\yB W' w.heap.size (uF.take 8)/\ψ w W':=zA h7 ν b7 rfl;clear h7 b7
 obtain⟨w9,r9,h9,b9⟩:∃W',(Instr.mapUpdate 135 (.map (some w.heap.size)) (.string ⟨#[82,69,78,65,77,69]⟩) (.agg #[.int .i64 2,.func (.func 115) #[] #[]])).run prog w8=.ok () W'/\yB W' w.heap.size (uF.take 9)/\ψ w W':=zA h8 ν b8 rfl;clear h8 b8
 obtain⟨w10,r10,h10,b10⟩:∃W',(Instr.mapUpdate 135 (.map (some w.heap.size)) (.string ⟨#[83,85,66,83,67,82,73,66,69]⟩) (.agg #[.int .i64 2,.func (.func 116) #[] #[]])).run prog w9=.ok () W'/\yB W' w.heap.size (uF.take 10)/\ψ w W':=zA h9 ν b9 rfl;clear h9 b9
 obtain⟨w11,r11,h11,b11⟩:∃W',(Instr.mapUpdate 135 (.map (some w.heap.size)) (.string ⟨#[85,78,83,85,66,83,67,82,73,66,69]⟩) (.agg #[.int .i64 2,.func (.func 117) #[] #[]])).run prog w10=.ok () W'/\yB W' w.heap.size (uF.take 11)/\ψ w W':=zA h10 ν b10 rfl;clear h10 b10
 obtain⟨w12,r12,h12,b12⟩:∃W',(Instr.mapUpdate 135 (.map (some w.heap.size)) (.string ⟨#[76,73,83,84]⟩) (.agg #[.int .i64 2,.func (.func 118) #[] #[]])).run prog w11=.ok () W'/\yB W' w.heap.size (uF.take 12)/\ψ w W':=zA h11 ν b11 rfl;clear h11 b11
 obtain⟨w13,r13,h13,b13⟩:∃W',(Instr.mapUpdate 135 (.map (some w.heap.size)) (.string ⟨#[76,83,85,66]⟩) (.agg #[.int .i64 2,.func (.func 119) #[] #[]])).run prog w12=.ok () W'/\yB W' w.heap.size (uF.take 13)/\ψ w W':=zA h12 ν b12 rfl;clear h12 b12
 obtain⟨w14,r14,h14,b14⟩:∃W',(Instr.mapUpdate 135 (.map (some w.heap.size)) (.string ⟨#[83,84,65,84,85,83]⟩) (.agg #[.int .i64 2,.func (.func 120) #[] #[]])).run prog w13=.ok () W'/\yB W' w.heap.size (uF.take 14)/\ψ w W':=zA h13 ν b13 rfl;clear h13 b13
 obtain⟨w15,r15,h15,b15⟩:∃W',(Instr.mapUpdate 135 (.map (some w.heap.size)) (.string ⟨#[65,80,80,69,78,68]⟩) (.agg #[.int .i64 2,.func (.func 121) #[] #[]])).run prog w14=.ok () W'/\yB W' w.heap.size (uF.take 15)/\ψ w W':=zA h14 ν b14 rfl;clear h14 b14
 obtain⟨w16,r16,h16,b16⟩:∃W',(Instr.mapUpdate 135 (.map (some w.heap.size)) (.string ⟨#[67,76,79,83,69]⟩) (.agg #[.int .i64 3,.func (.func 122) #[] #[]])).run prog w15=.ok () W'/\yB W' w.heap.size (uF.take 16)/\ψ w W':=zA h15 ν b15 rfl;clear h15 b15
 obtain⟨w17,r17,h17,b17⟩:∃W',(Instr.mapUpdate 135 (.map (some w.heap.size)) (.string ⟨#[69,88,80,85,78,71,69]⟩) (.agg #[.int .i64 4,.func (.func 123) #[] #[]])).run prog w16=.ok () W'/\yB W' w.heap.size (uF.take 17)/\ψ w W':=zA h16 ν b16 rfl;clear h16 b16
 obtain⟨w18,r18,h18,b18⟩:∃W',(Instr.mapUpdate 135 (.map (some w.heap.size)) (.string ⟨#[83,69,65,82,67,72]⟩) (.agg #[.int .i64 3,.func (.func 124) #[] #[]])).run prog w17=.ok () W'/\yB W' w.heap.size (uF.take 18)/\ψ w W':=zA h17 ν b17 rfl;clear h17 b17
 obtain⟨w19,r19,h19,b19⟩:∃W',(Instr.mapUpdate 135 (.map (some w.heap.size)) (.string ⟨#[70,69,84,67,72]⟩) (.agg #[.int .i64 3,.func (.func 125) #[] #[]])).run prog w18=.ok () W'/\yB W' w.heap.size (uF.take 19)/\ψ w W':=zA h18 ν b18 rfl;clear h18 b18
 obtain⟨w20,r20,h20,b20⟩:∃W',(Instr.mapUpdate 135 (.map (some w.heap.size)) (.string ⟨#[83,84,79,82,69]⟩) (.agg #[.int .i64 4,.func (.func 126) #[] #[]])).run prog w19=.ok () W'/\yB W' w.heap.size (uF.take 20)/\ψ w W':=zA h19 ν b19 rfl;clear h19 b19
 obtain⟨w21,r21,h21,b21⟩:∃W',(Instr.mapUpdate 135 (.map (some w.heap.size)) (.string ⟨#[67,79,80,89]⟩) (.agg #[.int .i64 3,.func (.func 127) #[] #[]])).run prog w20=.ok () W'/\yB W' w.heap.size (uF.take 21)/\ψ w W':=zA h20 ν b20 rfl;clear h20 b20
 obtain⟨w22,r22,h22,b22⟩:∃W',(Instr.mapUpdate 135 (.map (some w.heap.size)) (.string ⟨#[85,73,68,32,83,69,65,82,67,72]⟩) (.agg #[.int .i64 3,.func (.func 124) #[] #[]])).run prog w21=.ok () W'/\yB W' w.heap.size (uF.take 22)/\ψ w W':=zA h21 ν b21 rfl;clear h21 b21
 obtain⟨w23,r23,h23,b23⟩:∃W',(Instr.mapUpdate 135 (.map (some w.heap.size)) (.string ⟨#[85,73,68,32,70,69,84,67,72]⟩) (.agg #[.int .i64 3,.func (.func 125) #[] #[]])).run prog w22=.ok () W'/\yB W' w.heap.size (uF.take 23)/\ψ w W':=zA h22 ν b22 rfl;clear h22 b22
 obtain⟨w24,r24,h24,b24⟩:∃W',(Instr.mapUpdate 135 (.map (some w.heap.size)) (.string ⟨#[85,73,68,32,83,84,79,82,69]⟩) (.agg #[.int .i64 4,.func (.func 126) #[] #[]])).run prog w23=.ok () W'/\yB W' w.heap.size (uF.take 24)/\ψ w W':=zA h23 ν b23 rfl;clear h23 b23
 obtain⟨w25,r25,h25,b25⟩:∃W',(Instr.mapUpdate 135 (.map (some w.heap.size)) (.string ⟨#[85,73,68,32,67,79,80,89]⟩) (.agg #[.int .i64 3,.func (.func 127) #[] #[]])).run prog w24=.ok () W'/\yB W' w.heap.size (uF.take 25)/\ψ w W':=zA h24 ν b24 rfl;clear h24 b24
 obtain⟨w26,r26,h26,b26⟩:∃W',(Instr.mapUpdate 135 (.map (some w.heap.size)) (.string ⟨#[88,80,65,83,83,87,68]⟩) (.agg #[.int .i64 2,.func (.func 128) #[] #[]])).run prog w25=.ok () W'/\yB W' w.heap.size (uF.take 26)/\ψ w W':=zA h25 ν b25 rfl;clear h25 b25
 obtain⟨w27,r27,h27,b27⟩:∃W',(Instr.mapUpdate 135 (.map (some w.heap.size)) (.string ⟨#[88,82,79,84,65,84,69]⟩) (.agg #[.int .i64 2,.func (.func 129) #[] #[]])).run prog w26=.ok () W'/\yB W' w.heap.size (uF.take 27)/\ψ w W':=zA h26 ν b26 rfl;clear h26 b26
 obtain⟨w28,r28,h28,b28⟩:∃W',(Instr.mapUpdate 135 (.map (some w.heap.size)) (.string ⟨#[88,83,84,69,80]⟩) (.agg #[.int .i64 2,.func (.func 130) #[] #[]])).run prog w27=.ok () W'/\yB W' w.heap.size (uF.take 28)/\ψ w W':=zA h27 ν b27 rfl;clear h27 b27;have H:=ι h28
 have B:=ι b28;clear h28 b28;go_enter func51,ntmps51;repeat go_step
 go_wp2;go_ret;exact⟨rfl,H.o,B.o⟩
end Go.Proofs.IM
namespace Go.Proofs.IM
open Go.RowKit MM BU Mailsack
abbrev yQ (a b:Value):Obj:=.cells #[a,b] 25
abbrev uO (s0 s1 s2 s3 s4 s5 s6 s7 s8 s9:Value):Obj:=.cells #[s0,s1,s2,s3,s4,s5,s6,s7,s8,s9] 32
abbrev drwO (n0 n1 n2 n3 n4 n5:Value):Obj:=.cells #[n0,n1,n2,n3,n4,n5] 36
abbrev xKs:Obj:=uO (.string ⟨#[]⟩) (.string ⟨#[]⟩) (.string ⟨#[]⟩) (.int .i64 0) (.slice none 0 0) (.slice none 0 0) (.int .i64 0) (.string ⟨#[]⟩) (.bool false) (.bool false)
theorem Cmd.xHi {b:Nat} {cs:Array Value} {l:List UInt8} {w:World} (h:Cmd b cs l w) {p:Addr} (hp:p.block<b) (u:Value):Cmd b cs l (w.setCell p u):=by
 obtain⟨q,v,h1,h2,h3,h4,h5,h6⟩:=h.own;exact⟨zL h.blk ω u,h.size,q,v,h1,h2,h3,ownsRow_setCell_below h4 hp u,h5,h6⟩
theorem Cmd.drew {b:Nat} {cs:Array Value} {l:List UInt8} {w:World} (h:Cmd b cs l w):Cmd b cs l w.drew:=by
 obtain⟨q,v,h1,h2,h3,h4,h5,h6⟩:=h.own;exact⟨h.blk,h.size,q,v,h1,h2,h3,h4,h5,h6⟩
structure kI (w:World) (b g4 g5:Nat) (cs:Array Value) (l:List UInt8) (called st1 st2:Bool) (o4 o5:Obj) (W:World):Prop where
 bel:ψ w W
 cmd:W.heap[b]?=some (.cells cs 129 (0,0))
 bld:called=false->Cmd b cs l W
 r4:W.heap[g4]?=some (if st1 then o4 else yQ (.slice none 0 0) (.slice none 0 0))
 r5:W.heap[g5]?=some (if st2 then o5 else xKs)
theorem kI.drew {w:World} {b g4 g5:Nat} {cs:Array Value} {l:List UInt8} {c s1 s2:Bool} {o4 o5:Obj} {W:World} (h:kI w b g4 g5 cs l c s1 s2 o4 o5 W):kI w b g4 g5 cs l c s1 s2 o4 o5 W.drew:=
 ⟨h.bel.drew,h.cmd,λe=>(h.bld e).drew,h.r4,h.r5⟩
theorem kI.call {w:World} {b g4 g5:Nat} {cs:Array Value} {l:List UInt8} {c s1 s2:Bool} {o4 o5:Obj} {W W':World} (h:kI w b g4 g5 cs l c s1 s2 o4 o5 W) (hb:Below b W W') (he:W'.heap[b]?=W.heap[b]?) (h4:g4<b) (h5:g5<b) (hw:w.heap.size<=b):
  kI w b g4 g5 cs l true s1 s2 o4 o5 W':=
 ⟨h.bel.trans (hb.mono hw),he.trans h.cmd,λe=>(by cases e),xC h.r4 hb h4,xC h.r5 hb h5⟩
theorem kI.st1 {w:World} {b g4 g5:Nat} {cs:Array Value} {l:List UInt8} {c s2:Bool} {a0 a1:Value} {o5:Obj} {W:World} (h:kI w b g4 g5 cs l c false s2 (yQ a0 a1) o5 W) (h4:g4<b) (hne:g5≠g4) (hw:w.heap.size<=g4):
  kI w b g4 g5 cs l c true s2 (yQ a0 a1) o5 ((W.setCell ⟨g4,0,none⟩ a0).setCell ⟨g4,1,none⟩ a1):=by
 refine⟨(h.bel.setCell (p:=⟨g4,0,none⟩) hw _).setCell (p:=⟨g4,1,none⟩) hw _,zL (zL h.cmd (p:=⟨g4,0,none⟩) (by simp;omega) _) (p:=⟨g4,1,none⟩) (by simp;omega) _,
  λe=>((h.bld e).xHi (p:=⟨g4,0,none⟩) h4 _).xHi (p:=⟨g4,1,none⟩) h4 _,?_,zL (zL h.r5 (p:=⟨g4,0,none⟩) hne _) (p:=⟨g4,1,none⟩) hne _⟩
 have r:=h.r4;rw[if_neg σ] at r;exact yC (yC r 0 a0) 1 a1
theorem jV {w:World} {b g g':Nat} {cs:Array Value} {l:List UInt8} {c:Bool} {o:Obj} {W:World} {i:Nat} {u:Value} (hb:ψ w W) (hc:W.heap[b]?=some (.cells cs 129 (0,0))) (hd:c=false->Cmd b cs l W) (ho:W.heap[g']?=some o) (h1:g<b) (h2:g'≠g) (h3:w.heap.size<=g):
  ψ w (W.setCell ⟨g,i,none⟩ u)/\(W.setCell ⟨g,i,none⟩ u).heap[b]?=some (.cells cs 129 (0,0))/\(c=false->Cmd b cs l (W.setCell ⟨g,i,none⟩ u))/\(W.setCell ⟨g,i,none⟩ u).heap[g']?=some o:=
 ⟨hb.setCell (p:=⟨g,i,none⟩) h3 _,zL hc (p:=⟨g,i,none⟩) (by simp;omega) _,λe=>(hd e).xHi (p:=⟨g,i,none⟩) h1 _,zL ho (p:=⟨g,i,none⟩) h2 _⟩
theorem kI.st2 {w:World} {b g4 g5:Nat} {cs:Array Value} {l:List UInt8} {c s1:Bool} {o4:Obj} {s0 s1' s2 s3 s4 s5 s6 s7 s8 s9:Value} {W:World} (h:kI w b g4 g5 cs l c s1 false o4 (uO s0 s1' s2 s3 s4 s5 s6 s7 s8 s9) W) (h5:g5<b) (hne:g4≠g5) (hw:w.heap.size<=g5):
  kI w b g4 g5 cs l c s1 true o4 (uO s0 s1' s2 s3 s4 s5 s6 s7 s8 s9) ((((((((((W.setCell ⟨g5,0,none⟩ s0).setCell ⟨g5,1,none⟩ s1').setCell ⟨g5,2,none⟩ s2).setCell ⟨g5,3,none⟩ s3).setCell ⟨g5,4,none⟩ s4).setCell ⟨g5,5,none⟩ s5).setCell ⟨g5,6,none⟩ s6).setCell ⟨g5,7,none⟩ s7).setCell ⟨g5,8,none⟩ s8).setCell ⟨g5,9,none⟩ s9):=by
 have r:=h.r5;rw[if_neg σ] at r;obtain⟨x1,y1,z1,t1⟩:=jV (i:=0) (u:=s0) h.bel h.cmd h.bld h.r4 h5 hne hw;obtain⟨x2,y2,z2,t2⟩:=jV (i:=1) (u:=s1') x1 y1 z1 t1 h5 hne hw;obtain⟨x3,y3,z3,t3⟩:=jV (i:=2) (u:=s2) x2 y2 z2 t2 h5 hne hw
 obtain⟨x4,y4,z4,t4⟩:=jV (i:=3) (u:=s3) x3 y3 z3 t3 h5 hne hw;obtain⟨x5,y5,z5,t5⟩:=jV (i:=4) (u:=s4) x4 y4 z4 t4 h5 hne hw;obtain⟨x6,y6,z6,t6⟩:=jV (i:=5) (u:=s5) x5 y5 z5 t5 h5 hne hw;obtain⟨x7,y7,z7,t7⟩:=jV (i:=6) (u:=s6) x6 y6 z6 t6 h5 hne hw
 obtain⟨x8,y8,z8,t8⟩:=jV (i:=7) (u:=s7) x7 y7 z7 t7 h5 hne hw;obtain⟨x9,y9,z9,t9⟩:=jV (i:=8) (u:=s8) x8 y8 z8 t8 h5 hne hw;obtain⟨x10,y10,z10,t10⟩:=jV (i:=9) (u:=s9) x9 y9 z9 t9 h5 hne hw;have r0:W.heap[g5]?=some xKs:=r
 have q0:(W.setCell ⟨g5,0,none⟩ s0).heap[g5]?=some (uO (s0) (.string ⟨#[]⟩) (.string ⟨#[]⟩) (.int .i64 0) (.slice none 0 0) (.slice none 0 0) (.int .i64 0) (.string ⟨#[]⟩) (.bool false) (.bool false)):=yC r0 0 s0
 have q1:((W.setCell ⟨g5,0,none⟩ s0).setCell ⟨g5,1,none⟩ s1').heap[g5]?=some (uO (s0) (s1') (.string ⟨#[]⟩) (.int .i64 0) (.slice none 0 0) (.slice none 0 0) (.int .i64 0) (.string ⟨#[]⟩) (.bool false) (.bool false)):=yC q0 1 s1'
 have q2:(((W.setCell ⟨g5,0,none⟩ s0).setCell ⟨g5,1,none⟩ s1').setCell ⟨g5,2,none⟩ s2).heap[g5]?=some (uO (s0) (s1') (s2) (.int .i64 0) (.slice none 0 0) (.slice none 0 0) (.int .i64 0) (.string ⟨#[]⟩) (.bool false) (.bool false)):=yC q1 2 s2
 have q3:((((W.setCell ⟨g5,0,none⟩ s0).setCell ⟨g5,1,none⟩ s1').setCell ⟨g5,2,none⟩ s2).setCell ⟨g5,3,none⟩ s3).heap[g5]?=some (uO (s0) (s1') (s2) (s3) (.slice none 0 0) (.slice none 0 0) (.int .i64 0) (.string ⟨#[]⟩) (.bool false) (.bool false)):=yC q2 3 s3
 have q4:(((((W.setCell ⟨g5,0,none⟩ s0).setCell ⟨g5,1,none⟩ s1').setCell ⟨g5,2,none⟩ s2).setCell ⟨g5,3,none⟩ s3).setCell ⟨g5,4,none⟩ s4).heap[g5]?=some (uO (s0) (s1') (s2) (s3) (s4) (.slice none 0 0) (.int .i64 0) (.string ⟨#[]⟩) (.bool false) (.bool false)):=yC q3 4 s4
 have q5:((((((W.setCell ⟨g5,0,none⟩ s0).setCell ⟨g5,1,none⟩ s1').setCell ⟨g5,2,none⟩ s2).setCell ⟨g5,3,none⟩ s3).setCell ⟨g5,4,none⟩ s4).setCell ⟨g5,5,none⟩ s5).heap[g5]?=some (uO (s0) (s1') (s2) (s3) (s4) (s5) (.int .i64 0) (.string ⟨#[]⟩) (.bool false) (.bool false)):=yC q4 5 s5
 have q6:(((((((W.setCell ⟨g5,0,none⟩ s0).setCell ⟨g5,1,none⟩ s1').setCell ⟨g5,2,none⟩ s2).setCell ⟨g5,3,none⟩ s3).setCell ⟨g5,4,none⟩ s4).setCell ⟨g5,5,none⟩ s5).setCell ⟨g5,6,none⟩ s6).heap[g5]?=some (uO (s0) (s1') (s2) (s3) (s4) (s5) (s6) (.string ⟨#[]⟩) (.bool false) (.bool false)):=yC q5 6 s6
 have q7:((((((((W.setCell ⟨g5,0,none⟩ s0).setCell ⟨g5,1,none⟩ s1').setCell ⟨g5,2,none⟩ s2).setCell ⟨g5,3,none⟩ s3).setCell ⟨g5,4,none⟩ s4).setCell ⟨g5,5,none⟩ s5).setCell ⟨g5,6,none⟩ s6).setCell ⟨g5,7,none⟩ s7).heap[g5]?=some (uO (s0) (s1') (s2) (s3) (s4) (s5) (s6) (s7) (.bool false) (.bool false)):=yC q6 7 s7
 have q8:(((((((((W.setCell ⟨g5,0,none⟩ s0).setCell ⟨g5,1,none⟩ s1').setCell ⟨g5,2,none⟩ s2).setCell ⟨g5,3,none⟩ s3).setCell ⟨g5,4,none⟩ s4).setCell ⟨g5,5,none⟩ s5).setCell ⟨g5,6,none⟩ s6).setCell ⟨g5,7,none⟩ s7).setCell ⟨g5,8,none⟩ s8).heap[g5]?=some (uO (s0) (s1') (s2) (s3) (s4) (s5) (s6) (s7) (s8) (.bool false)):=yC q7 8 s8
 have q9:((((((((((W.setCell ⟨g5,0,none⟩ s0).setCell ⟨g5,1,none⟩ s1').setCell ⟨g5,2,none⟩ s2).setCell ⟨g5,3,none⟩ s3).setCell ⟨g5,4,none⟩ s4).setCell ⟨g5,5,none⟩ s5).setCell ⟨g5,6,none⟩ s6).setCell ⟨g5,7,none⟩ s7).setCell ⟨g5,8,none⟩ s8).setCell ⟨g5,9,none⟩ s9).heap[g5]?=some (uO (s0) (s1') (s2) (s3) (s4) (s5) (s6) (s7) (s8) (s9)):=yC q8 9 s9
 refine⟨?_,?_,?_,?_,?_⟩
 ·with_reducible exact x10
 ·with_reducible exact y10
 ·with_reducible exact z10
 ·with_reducible exact t10
 ·rw[if_pos rfl];with_reducible exact q9
end Go.Proofs.IM
namespace Go.Proofs.VB
open Go.RowKit Mailsack MM
structure wS (s:ByteArray) (w:World) (k:Nat) (wr:World):Prop where
 cells:∀j,j<s.size->wr.cell? ⟨w.heap.size,j,none⟩=some (.int .u8 (upTo s.data.toList k j).toNat)
 free:∀j,j<s.size->wr.frozen? ⟨w.heap.size,j,none⟩=false
 bel:ψ w wr
theorem wS.start (s:ByteArray) (w:World):wS s w 0 (Lib.bytesWorld w 5 s):=by
 refine⟨λj hj=>?_,λj hj=>?_,⟨rfl,rfl,rfl,?_,λk hk=>Lib.bytesWorld_at_old w _ s k hk⟩⟩
 ·rw[Lib.bytesWorld_cell w _ s j hj];simp[upTo]
 ·simp only[World.frozen?,Lib.bytesWorld_at_new];have hz:(Lib.bytesCells w 5 s).size=s.data.size+(grownCap w s.size 0 5-s.size):=by simp[Lib.bytesCells]
  have hs:s.data.size=s.size:=rfl;simp;omega
 ·rw[Lib.bytesWorld_size];omega
theorem wS.keep {s:ByteArray} {w wr:World} {k:Nat} (h:wS s w k wr) (hc:¬(97<=(s.data.toList.getD k 0).toNat/\(s.data.toList.getD k 0).toNat<=122)):wS s w (k+1) wr:=
 ⟨λj hj=>by rw[xE8 hc];exact h.cells j hj,h.free,h.bel⟩
theorem wS.put {s:ByteArray} {w wr:World} {k:Nat} (h:wS s w k wr) (hk:k<s.size) (h1:97<=(s.data.toList.getD k 0).toNat) (h2:(s.data.toList.getD k 0).toNat<=122):
  wS s w (k+1) (wr.setCell ⟨w.heap.size,k,none⟩ (.int .u8 ((s.data.toList.getD k 0).toNat-97+65))):=by
 refine⟨λj hj=>?_,λj hj=>?_,h.bel.setCell σ _⟩
 ·by_cases e:j=k
  ·subst e;rw[World.cell?_setCell_same _ _ _ (h.cells j hj),xHc,xHb h1 h2]
   congr 2;omega
  ·rw[World.cell?_setCell_other _ _ _ _ (λe'=>e (by injection e' with _ e';exact e'.symm)),xBd e];exact h.cells j hj
 ·rw[World.frozen?_setCell];exact h.free j hj
theorem vV (s:ByteArray) (w:World) (hs:s.size<4611686018427387904):
  Calls prog 50 #[.string s] w λe w'=>e=.returned (xK (upP s.data.toList))/\ψ w w':=by
 have xI7:=λW=>Lib.run_convert_string_bytes (P:=prog) W 9 125 5 s underlying9 underlying125 underlying5;have h0:=ι (wS.start s w);go_enter func50,ntmps50;go_wp2;generalize Lib.bytesWorld w 5 s=w0 at h0⊢;generalize grownCap w s.size 0 5=cap;clear xI7
 go_loopw [10] (λiv wr=>∃k:Nat,k<=s.size/\iv=.int .i64 k/\Hid (wS s w k wr)) (λiv _=>s.size- (intOf iv).toNat)
 case atStart=>exact⟨0,Nat.zero_le _,rfl,h0⟩
 case round=>
  obtain⟨k,hk,rfl,hr⟩:=hrel
  by_cases hlt:k<s.size
  ·have hc:=hr.o.cells k hlt;have hf:=hr.o.free k hlt;rw[xDh] at hc
   by_cases hd:97<=(s.data.toList.getD k 0).toNat/\(s.data.toList.getD k 0).toNat<=122
   ·have hp:=ι (hr.o.put hlt hd.1 hd.2);generalize (s.data.toList.getD k 0).toNat=c at hc hd hp;obtain⟨h1,h2⟩:=hd;go_wp2
    go_roundw
    case rel=>exact⟨k+1,ω,by go_num,hp⟩
    case measure=>first|(simp[intOf];done)|(simp[intOf];omega)
   ·have hp:=ι (hr.o.keep hd);have yBt:(s.data.toList.getD k 0).toNat<256:=UInt8.toNat_lt _;generalize (s.data.toList.getD k 0).toNat=c at hc hd yBt;have hd:c<97∨122<c:=ω;rcases hd with hd|hd
    all_goals
     go_wp2
     go_roundw
     case rel=>exact⟨k+1,ω,by go_num,hp⟩
     case measure=>first|(simp[intOf];done)|(simp[intOf];omega)
  ·have hback:=run_convert_bytes_back (P:=prog) wr 125 9 5 ⟨w.heap.size,0,none⟩ cap (upP s.data.toList) underlying125 underlying5 underlying9 (λj hj=>by
    have hj':j<s.size:=by rw[jB,yA] at hj;exact hj
    have hadd:(⟨w.heap.size,0,none⟩:Addr).add j=⟨w.heap.size,j,none⟩:=by unfold Addr.add;split<;>simp_all
    have hks:k=s.size:=ω;rw[hadd,hr.o.cells j hj',xE9 _ j (by rw[yA];exact hj'),yA,hks])
   rw[jB,yA] at hback;go_wp2;go_ret;exact⟨rfl,hr.o.bel⟩
end Go.Proofs.VB