import Derived.Test.YtnocngnlpgikaaaGreatDoorKR111
import Derived.Shelf.Small.Bits
import Derived.Shelf.Small.Strs
import Derived.Shelf.Strconv.Atoi
import Derived.Shelf.Strconv.Itoa0
import Derived.Shelf.Strconv.Itoa1
import Derived.Shelf.LaysM
import Derived.Shelf.Strconv.Itoa2
import Derived.Shelf.Strconv.Itoa3
import Derived.Shelf.Strings.Search1
import Derived.Shelf.Strings.Search2
import Derived.Shelf.Strings.Search3
import Derived.Shelf.Strings.Cut
import Derived.Shelf.Strings.Count
import Derived.Shelf.Strings.Shaped
import Derived.Shelf.Sort.Plain
import Derived.Shelf.Strings.Prefix
import Derived.Shelf.Strings.Split
import Derived.Shelf.Bits.Mul64
import Derived.Shelf.Unicode.DecodeSlow
import Derived.Ground.Names2Prog
import Derived.Shelf.Slices.CompactI
import Derived.Shelf.Slices.In.SortNone
import Derived.Ground.SlgnProg
import Derived.Shelf.SlicesE.Compact
import Derived.Ground.SlgfProg
import Derived.Shelf.SlicesE.IndexFunc
import Derived.Shelf.SlicesE.DeleteFunc
namespace Go.Proofs
open Go.Proofs.Tryz
open Go.Shelf
def Oa:Go.Shelf.Ren:=⟨fun|172=>273|244=>282|245=>283|247=>291|279=>292|280=>293|281=>294|282=>295|287=>300|316=>301|171=>261|205=>302|321=>305|322=>306|243=>272|246=>281|283=>287|284=>288|285=>289|286=>290|129=>220|317=>296|318=>297|319=>298|320=>299|337=>303|338=>304|n=>n,fun|9=>9|3=>3|75=>188|76=>189|4=>4|5=>5|167=>337|37=>120|0=>0|85=>338|2=>2|168=>340|53=>240|175=>345|46=>217|210=>349|127=>195|145=>355|143=>353|21=>21|171=>333|173=>335|212=>343|51=>279|20=>20|213=>344|232=>356|233=>357|80=>133|n=>n,fun|15=>4|16=>5|17=>3|18=>6|19=>7|n=>n⟩
theorem Vd:Go.Proofs.Lays.n172 prog Oa:={
 mixed:=by kernel_rfl
 f129:=func220.trans (aq some kQ)
 f171:=func261.trans (aq some kQ)
 f172:=func273.trans (aq some kQ)
 f205:=func302.trans (aq some kQ)
 f243:=func272.trans (aq some kQ)
 f244:=func282.trans (aq some kQ)
 f245:=func283.trans (aq some kQ)
 f246:=func281.trans (aq some kQ)
 f247:=func291.trans (aq some kQ)
 f279:=func292.trans (aq some kQ)
 f280:=func293.trans (aq some kQ)
 f281:=func294.trans (aq some kQ)
 f282:=func295.trans (aq some kQ)
 f283:=func287.trans (aq some kQ)
 f284:=func288.trans (aq some kQ)
 f285:=func289.trans (aq some kQ)
 f286:=func290.trans (aq some kQ)
 f287:=func300.trans (aq some kQ)
 f316:=func301.trans (aq some kQ)
 f317:=func296.trans (aq some kQ)
 f318:=func297.trans (aq some kQ)
 f319:=func298.trans (aq some kQ)
 f320:=func299.trans (aq some kQ)
 f321:=func305.trans (aq some kQ)
 f322:=func306.trans (aq some kQ)
 f337:=func303.trans (aq some kQ)
 f338:=func304.trans (aq some kQ)
 t0:=underlying0
 a0:=isAgg0
 z0:=sizeOf0
 v0:=zeroValue0
 t2:=underlying2
 a2:=isAgg2
 z2:=sizeOf2
 v2:=zeroValue2
 t3:=jy
 a3:=j_
 z3:=jw
 v3:=j2
 t4:=l1
 a4:=isAgg4
 z4:=km
 v4:=ll
 t5:=k_
 a5:=isAgg5
 z5:=sizeOf5
 v5:=lz
 t9:=j7
 a9:=isAgg9
 z9:=kt
 v9:=ly
 t20:=underlying20
 a20:=isAgg20
 z20:=sizeOf20
 v20:=zeroValue20
 t21:=underlying21
 a21:=isAgg21
 z21:=sizeOf21
 v21:=zeroValue21
 t37:=kl
 a37:=isAgg120
 z37:=sizeOf120
 v37:=zeroValue120
 t46:=ki
 a46:=isAgg217
 z46:=sizeOf217
 v46:=mh
 t51:=mc
 a51:=isAgg279
 z51:=sizeOf279
 v51:=mg
 t53:=l6
 a53:=isAgg240
 z53:=sizeOf240
 v53:=zeroValue240
 t75:=underlying188
 a75:=isAgg188
 z75:=sizeOf188
 v75:=zeroValue188
 t76:=underlying189
 a76:=isAgg189
 z76:=sizeOf189
 v76:=zeroValue189
 t85:=underlying338
 a85:=isAgg338
 z85:=sizeOf338
 v85:=zeroValue338
 t127:=underlying195
 a127:=isAgg195
 z127:=sizeOf195
 v127:=zeroValue195
 t143:=underlying353
 a143:=isAgg353
 z143:=sizeOf353
 v143:=zeroValue353
 t145:=underlying355
 a145:=isAgg355
 z145:=sizeOf355
 v145:=zeroValue355
 t167:=underlying337
 a167:=isAgg337
 z167:=sizeOf337
 v167:=zeroValue337
 t168:=underlying340
 a168:=isAgg340
 z168:=sizeOf340
 v168:=zeroValue340
 t171:=underlying333
 a171:=isAgg333
 z171:=sizeOf333
 v171:=zeroValue333
 t173:=underlying335
 a173:=isAgg335
 z173:=sizeOf335
 v173:=zeroValue335
 t175:=underlying345
 a175:=isAgg345
 z175:=sizeOf345
 v175:=zeroValue345
 t210:=underlying349
 a210:=isAgg349
 z210:=sizeOf349
 v210:=zeroValue349
 t212:=underlying343
 a212:=isAgg343
 z212:=sizeOf343
 v212:=zeroValue343
 t213:=underlying344
 a213:=isAgg344
 z213:=sizeOf344
 t232:=underlying356
 a232:=isAgg356
 z232:=sizeOf356
 v232:=zeroValue356
 t233:=underlying357
 a233:=isAgg357
 z233:=sizeOf357
 v233:=zeroValue357
 g15:=by kernel_rfl
 g16:=by kernel_rfl
 g17:=by kernel_rfl
 g18:=by kernel_rfl
 g19:=by kernel_rfl }
open Go.RowKit in
/-- strconv.Atoi: "Atoi is equivalent to ParseInt(s, 10, 0), converted to type int.": AT A DECIMAL NUMERAL OF AT MOST 18 BYTES: its value, and a nil error. The world behind the call: the one new row that the library's '[]byte(s)' lays. (LAID: no walk: one application.) -/
theorem Tryz.strconv_Atoi(s:ByteArray)(n:Int)(hl:s.size≤18)(h:Lib.atoi s.data.toList=some n)(w:World):
 Calls prog 273 #[.string s] w fun e w'=>e=.returned (.tuple #[.int .i64 n,.nilIface])∧∃t,w'=Lib.bytesWorld w 5 t:=Any.strconv_Atoi Vd s n hl h w
def Oc:Go.Shelf.Ren:=⟨fun|171=>261|243=>272|246=>281|283=>287|284=>288|285=>289|286=>290|129=>220|317=>296|318=>297|319=>298|320=>299|337=>303|338=>304|n=>n,fun|3=>3|9=>9|2=>2|4=>4|171=>333|0=>0|53=>240|37=>120|5=>5|173=>335|212=>343|51=>279|20=>20|213=>344|46=>217|232=>356|233=>357|n=>n,fun|17=>3|18=>6|19=>7|n=>n⟩
theorem Ve:Go.Proofs.Lays.n171 prog Oc:={
 mixed:=by kernel_rfl
 f129:=func220.trans (aq some kQ)
 f171:=func261.trans (aq some kQ)
 f243:=func272.trans (aq some kQ)
 f246:=func281.trans (aq some kQ)
 f283:=func287.trans (aq some kQ)
 f284:=func288.trans (aq some kQ)
 f285:=func289.trans (aq some kQ)
 f286:=func290.trans (aq some kQ)
 f317:=func296.trans (aq some kQ)
 f318:=func297.trans (aq some kQ)
 f319:=func298.trans (aq some kQ)
 f320:=func299.trans (aq some kQ)
 f337:=func303.trans (aq some kQ)
 f338:=func304.trans (aq some kQ)
 t0:=underlying0
 a0:=isAgg0
 z0:=sizeOf0
 v0:=zeroValue0
 t2:=underlying2
 a2:=isAgg2
 z2:=sizeOf2
 v2:=zeroValue2
 t3:=jy
 a3:=j_
 z3:=jw
 v3:=j2
 t4:=l1
 a4:=isAgg4
 z4:=km
 v4:=ll
 t5:=k_
 a5:=isAgg5
 z5:=sizeOf5
 v5:=lz
 t9:=j7
 a9:=isAgg9
 z9:=kt
 v9:=ly
 t20:=underlying20
 a20:=isAgg20
 z20:=sizeOf20
 v20:=zeroValue20
 t37:=kl
 a37:=isAgg120
 z37:=sizeOf120
 v37:=zeroValue120
 t46:=ki
 a46:=isAgg217
 z46:=sizeOf217
 v46:=mh
 t51:=mc
 a51:=isAgg279
 z51:=sizeOf279
 v51:=mg
 t53:=l6
 a53:=isAgg240
 z53:=sizeOf240
 v53:=zeroValue240
 t171:=underlying333
 a171:=isAgg333
 z171:=sizeOf333
 v171:=zeroValue333
 t173:=underlying335
 a173:=isAgg335
 z173:=sizeOf335
 v173:=zeroValue335
 t212:=underlying343
 a212:=isAgg343
 z212:=sizeOf343
 v212:=zeroValue343
 t213:=underlying344
 a213:=isAgg344
 z213:=sizeOf344
 t232:=underlying356
 a232:=isAgg356
 z232:=sizeOf356
 v232:=zeroValue356
 t233:=underlying357
 a233:=isAgg357
 z233:=sizeOf357
 v233:=zeroValue357
 g17:=by kernel_rfl
 g18:=by kernel_rfl
 g19:=by kernel_rfl }
open Go.RowKit Go.Sort Go.Lib in
/-- THE ROAD WITHOUT THE TABLE: 0 <= i < 100: NO PREMISE ON THE WORLD, AND THE WORLD IS AS IT WAS: a row that keeps its argument in that range need list no table ('laid = []'). (LAID: no walk: one application.) -/
theorem Tryz.strconv_Itoa_small(i:Nat)(hi:i<100)(w:World):
 Calls prog 261 #[.int .i64 i] w fun e w'=>e=.returned (.string ⟨(Lib.decDigits i).toArray⟩)∧w'=w:=Any.strconv_Itoa_small Ve i hi w
def Od:Go.Shelf.Ren:=⟨fun|145=>271|220=>280|219=>270|217=>276|225=>277|224=>278|267=>279|266=>285|314=>286|n=>n,fun|9=>9|4=>4|59=>324|3=>3|5=>5|46=>217|146=>306|51=>279|n=>n,fun|1=>0|n=>n⟩
theorem Vf:Go.Proofs.Lays.n145 prog Od:={
 mixed:=by kernel_rfl
 f145:=func271.trans (aq some kQ)
 f217:=func276.trans (aq some kQ)
 f219:=func270.trans (aq some kQ)
 f220:=func280.trans (aq some kQ)
 f224:=func278.trans (aq some kQ)
 f225:=func277.trans (aq some kQ)
 f266:=func285.trans (aq some kQ)
 f267:=func279.trans (aq some kQ)
 f314:=func286.trans (aq some kQ)
 t3:=jy
 a3:=j_
 z3:=jw
 v3:=j2
 t4:=l1
 a4:=isAgg4
 z4:=km
 v4:=ll
 t5:=k_
 a5:=isAgg5
 z5:=sizeOf5
 v5:=lz
 t9:=j7
 a9:=isAgg9
 z9:=kt
 v9:=ly
 t46:=ki
 a46:=isAgg217
 z46:=sizeOf217
 v46:=mh
 t51:=mc
 a51:=isAgg279
 z51:=sizeOf279
 v51:=mg
 t59:=underlying324
 a59:=isAgg324
 z59:=sizeOf324
 v59:=zeroValue324
 t146:=underlying306
 a146:=isAgg306
 z146:=sizeOf306
 v146:=zeroValue306
 g1:=by kernel_rfl }
open Go.RowKit Go.Lib in
/-- strings.Cut: "Cut slices s around the first instance of sep, returning the text before and after sep. The found result reports whether sep appears in s. If sep does not appear in s, cut returns s, "", false.": IT RETURNS 'Lib.cut s sep'; the world is as it was but for the count of draws. (LAID: no walk: one application.) -/
theorem Tryz.strings_Cut(s sep:ByteArray)(m:Int)(w:World)(hs:s.size<4294967281)(hm:w.cell? ⟨0,0,none⟩=some (.int .i64 m)):
 Calls prog 271 #[.string s,.string sep] w fun e w'=>e=.returned (.tuple #[.string ⟨(Lib.cut s.data.toList sep.data.toList).1.toArray⟩,.string ⟨(Lib.cut s.data.toList sep.data.toList).2.1.toArray⟩,.bool (Lib.cut s.data.toList sep.data.toList).2.2])∧∃n,w'=w.drewN n:=Any.strings_Cut Vf s sep m w hs hm
def Oe:Go.Shelf.Ren:=⟨fun|189=>80|125=>164|257=>163|128=>219|129=>220|294=>210|295=>211|296=>212|297=>213|298=>214|299=>215|216=>216|300=>217|301=>218|328=>244|329=>245|330=>246|331=>247|332=>248|215=>139|343=>266|n=>n,fun|28=>43|3=>3|46=>217|0=>0|51=>279|53=>240|4=>4|183=>274|182=>273|131=>163|5=>5|9=>9|218=>299|222=>185|228=>318|229=>40|n=>n,fun|n=>n⟩
theorem Ni:Go.Proofs.Lays.n189 prog Oe:={
 mixed:=by kernel_rfl
 f125:=func164.trans (aq some kQ)
 f128:=func219.trans (aq some kQ)
 f129:=func220.trans (aq some kQ)
 f189:=func80.trans (aq some kQ)
 f215:=func139.trans (aq some kQ)
 f216:=func216.trans (aq some kQ)
 f257:=func163.trans (aq some kQ)
 f294:=func210.trans (aq some kQ)
 f295:=func211.trans (aq some kQ)
 f296:=func212.trans (aq some kQ)
 f297:=func213.trans (aq some kQ)
 f298:=func214.trans (aq some kQ)
 f299:=func215.trans (aq some kQ)
 f300:=func217.trans (aq some kQ)
 f301:=func218.trans (aq some kQ)
 f328:=func244.trans (aq some kQ)
 f329:=func245.trans (aq some kQ)
 f330:=func246.trans (aq some kQ)
 f331:=func247.trans (aq some kQ)
 f332:=func248.trans (aq some kQ)
 f343:=func266.trans (aq some kQ)
 t0:=underlying0
 a0:=isAgg0
 z0:=sizeOf0
 v0:=zeroValue0
 t3:=jy
 a3:=j_
 z3:=jw
 v3:=j2
 t4:=l1
 a4:=isAgg4
 z4:=km
 v4:=ll
 t5:=k_
 a5:=isAgg5
 z5:=sizeOf5
 v5:=lz
 t9:=j7
 a9:=isAgg9
 z9:=kt
 v9:=ly
 t28:=ju
 a28:=isAgg43
 z28:=lh
 v28:=zeroValue43
 t46:=ki
 a46:=isAgg217
 z46:=sizeOf217
 v46:=mh
 t51:=mc
 a51:=isAgg279
 z51:=sizeOf279
 v51:=mg
 t53:=l6
 a53:=isAgg240
 z53:=sizeOf240
 v53:=zeroValue240
 t131:=underlying163
 a131:=isAgg163
 z131:=sizeOf163
 v131:=zeroValue163
 t182:=underlying273
 a182:=isAgg273
 z182:=sizeOf273
 v182:=zeroValue273
 t183:=underlying274
 a183:=isAgg274
 z183:=sizeOf274
 v183:=zeroValue274
 t218:=underlying299
 a218:=isAgg299
 z218:=sizeOf299
 v218:=zeroValue299
 t222:=underlying185
 a222:=isAgg185
 z222:=sizeOf185
 v222:=zeroValue185
 t228:=underlying318
 a228:=isAgg318
 z228:=sizeOf318
 v228:=zeroValue318
 t229:=underlying40
 a229:=isAgg40
 z229:=sizeOf40
 v229:=zeroValue40 }
open Go.Sort Go.RowKit in
theorem Tryz.slices_Sort_int(blk off cap:Nat)(zs:List Int)(w:World)(hH:Holds (Value.int .i64) w blk off zs.toArray)(hblk:blk<w.heap.size)(hsz:zs.length<4611686018427387904):
 Calls prog 80 #[.slice (some ⟨blk,off,none⟩) zs.length cap] w fun e w'=>
   e=.returned (.tuple #[])∧∃n os,w'=grow (putRow (Value.int .i64) (Sort.ahead w n) blk off (zs.mergeSort fun x y=>decide (x≤y)).toArray) os:=Any.slices_Sort_int Ni blk off cap zs w hH hblk hsz
def O9:Go.Shelf.Ren:=⟨fun|99=>194|206=>232|n=>n,fun|9=>9|4=>4|3=>3|n=>n,fun|n=>n⟩
theorem Xr:Go.Proofs.Lays.n99 prog O9:={
 mixed:=by kernel_rfl
 f99:=func194.trans (aq some kQ)
 f206:=func232.trans (aq some kQ)
 t3:=jy
 a3:=j_
 z3:=jw
 v3:=j2
 t4:=l1
 a4:=isAgg4
 z4:=km
 v4:=ll
 t9:=j7
 a9:=isAgg9
 z9:=kt
 v9:=ly }
open Go.RowKit Go.Lib in
/-- strings.HasPrefix: "HasPrefix reports whether the string s begins with prefix.": IT RETURNS 'Lib.hasPrefix s prefix'; the world is as it was. (LAID: no walk: one application.) -/
theorem Tryz.strings_HasPrefix(s p:ByteArray)(w:World):
 Calls prog 194 #[.string s,.string p] w fun e w'=>e=.returned (.bool (Lib.hasPrefix s.data.toList p.data.toList))∧w'=w:=Any.strings_HasPrefix Xr s p w
def Of:Go.Shelf.Ren:=⟨fun|146=>193|221=>231|268=>255|138=>256|143=>257|195=>267|197=>268|218=>269|219=>270|260=>275|217=>276|225=>277|224=>278|267=>279|266=>285|314=>286|n=>n,fun|9=>9|31=>248|3=>3|4=>4|0=>0|105=>320|21=>21|5=>5|46=>217|119=>328|139=>331|138=>330|146=>306|51=>279|n=>n,fun|1=>0|3=>1|4=>2|n=>n⟩
theorem Vg:Go.Proofs.Lays.n146 prog Of:={
 mixed:=by kernel_rfl
 f138:=func256.trans (aq some kQ)
 f143:=func257.trans (aq some kQ)
 f146:=func193.trans (aq some kQ)
 f195:=func267.trans (aq some kQ)
 f197:=func268.trans (aq some kQ)
 f217:=func276.trans (aq some kQ)
 f218:=func269.trans (aq some kQ)
 f219:=func270.trans (aq some kQ)
 f221:=func231.trans (aq some kQ)
 f224:=func278.trans (aq some kQ)
 f225:=func277.trans (aq some kQ)
 f260:=func275.trans (aq some kQ)
 f266:=func285.trans (aq some kQ)
 f267:=func279.trans (aq some kQ)
 f268:=func255.trans (aq some kQ)
 f314:=func286.trans (aq some kQ)
 t0:=underlying0
 a0:=isAgg0
 z0:=sizeOf0
 v0:=zeroValue0
 t3:=jy
 a3:=j_
 z3:=jw
 v3:=j2
 t4:=l1
 a4:=isAgg4
 z4:=km
 v4:=ll
 t5:=k_
 a5:=isAgg5
 z5:=sizeOf5
 v5:=lz
 t9:=j7
 a9:=isAgg9
 z9:=kt
 v9:=ly
 t21:=underlying21
 a21:=isAgg21
 z21:=sizeOf21
 v21:=zeroValue21
 t31:=j1
 a31:=isAgg248
 z31:=sizeOf248
 v31:=zeroValue248
 t46:=ki
 a46:=isAgg217
 z46:=sizeOf217
 v46:=mh
 t51:=mc
 a51:=isAgg279
 z51:=sizeOf279
 v51:=mg
 t105:=underlying320
 a105:=isAgg320
 z105:=sizeOf320
 v105:=zeroValue320
 t119:=underlying328
 a119:=isAgg328
 z119:=sizeOf328
 t138:=underlying330
 a138:=isAgg330
 z138:=sizeOf330
 v138:=zeroValue330
 t139:=underlying331
 a139:=isAgg331
 z139:=sizeOf331
 v139:=zeroValue331
 t146:=underlying306
 a146:=isAgg306
 z146:=sizeOf306
 v146:=zeroValue306
 g1:=by kernel_rfl
 g3:=by kernel_rfl
 g4:=by kernel_rfl }
open Go.RowKit Go.Lib in
/-- strings.Split. (LAID: no walk: one application.) -/
theorem Tryz.strings_Split(s sep:ByteArray)(m:Int)(w:World)(hs:s.size<4294967281)(hm:w.cell? ⟨0,0,none⟩=some (.int .i64 m))(h1:1≤sep.size):
 Calls prog 193 #[.string s,.string sep] w fun e w'=>
   e=.returned (.slice (some ⟨w.heap.size,0,none⟩) (Lib.countB s sep+1) (Lib.countB s sep+1))∧w'=w.alloc (.cells ((Lib.splitB sep 0 (Lib.countB s sep) s).map Value.string).toArray 9):=Any.strings_Split Vg kQ s sep m w hs hm h1
open Go.RowKit Go.Sort in
/-- .. and plain. (LAID: no walk: one application.) -/
theorem Tryz.slices_Sort_int_none(p:Option Addr)(cap:Nat)(w:World):
 Calls prog 80 #[.slice p 0 cap] w fun e w'=>e=.returned (.tuple #[])∧w'=w:=Any.slices_Sort_int_none Ni p cap w
end Go.Proofs
