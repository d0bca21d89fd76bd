import Derived.Test.YthcabjphnacjeaaGreatDoorKR114
import Derived.Shelf.Small.Bits
import Derived.Shelf.Small.Strs
import Derived.Shelf.Strconv.Atoi
import Derived.Shelf.Strconv.Itoa0
import Derived.Shelf.Strconv.Itoa1
import Derived.Shelf.LaysM
import Derived.Shelf.Strconv.Itoa2
import Derived.Shelf.Strconv.Itoa3
import Derived.Shelf.Strings.Search1
import Derived.Shelf.Strings.Search2
import Derived.Shelf.Strings.Search3
import Derived.Shelf.Strings.Cut
import Derived.Shelf.Strings.Count
import Derived.Shelf.Strings.Shaped
import Derived.Shelf.Sort.Plain
import Derived.Shelf.Strings.Prefix
import Derived.Shelf.Strings.Split
import Derived.Shelf.Bits.Mul64
import Derived.Shelf.Unicode.DecodeSlow
import Derived.Ground.Names2Prog
import Derived.Shelf.Slices.CompactI
import Derived.Shelf.Slices.In.SortNone
import Derived.Ground.SlgnProg
import Derived.Shelf.SlicesE.Compact
import Derived.Ground.SlgfProg
import Derived.Shelf.SlicesE.IndexFunc
import Derived.Shelf.SlicesE.DeleteFunc
namespace Go.Proofs
open Go.Proofs.Tryz
open Go.Shelf
def Pj:Go.Shelf.Ren:=⟨fun|172=>272|244=>286|245=>287|247=>296|279=>297|280=>298|281=>299|282=>300|287=>305|316=>306|171=>248|205=>307|321=>310|322=>311|243=>271|246=>285|283=>292|284=>293|285=>294|286=>295|129=>187|317=>301|318=>302|319=>303|320=>304|337=>308|338=>309|n=>n,fun|9=>9|3=>3|75=>192|76=>193|4=>4|5=>5|167=>342|37=>117|0=>0|85=>343|2=>2|168=>345|53=>241|175=>350|46=>156|210=>354|127=>199|145=>360|143=>358|21=>21|171=>338|173=>340|212=>348|51=>239|20=>20|213=>349|232=>361|233=>362|80=>132|n=>n,fun|15=>4|16=>5|17=>3|18=>6|19=>7|n=>n⟩
theorem W7:Go.Proofs.Lays.n172 prog Pj:={
 mixed:=by kernel_rfl
 f129:=func187.trans (bh some kQ)
 f171:=func248.trans (bh some kQ)
 f172:=func272.trans (bh some kQ)
 f205:=func307.trans (bh some kQ)
 f243:=func271.trans (bh some kQ)
 f244:=func286.trans (bh some kQ)
 f245:=func287.trans (bh some kQ)
 f246:=func285.trans (bh some kQ)
 f247:=func296.trans (bh some kQ)
 f279:=func297.trans (bh some kQ)
 f280:=func298.trans (bh some kQ)
 f281:=func299.trans (bh some kQ)
 f282:=func300.trans (bh some kQ)
 f283:=func292.trans (bh some kQ)
 f284:=func293.trans (bh some kQ)
 f285:=func294.trans (bh some kQ)
 f286:=func295.trans (bh some kQ)
 f287:=func305.trans (bh some kQ)
 f316:=func306.trans (bh some kQ)
 f317:=func301.trans (bh some kQ)
 f318:=func302.trans (bh some kQ)
 f319:=func303.trans (bh some kQ)
 f320:=func304.trans (bh some kQ)
 f321:=func310.trans (bh some kQ)
 f322:=func311.trans (bh some kQ)
 f337:=func308.trans (bh some kQ)
 f338:=func309.trans (bh some kQ)
 t0:=underlying0
 a0:=isAgg0
 z0:=sizeOf0
 v0:=zeroValue0
 t2:=underlying2
 a2:=isAgg2
 z2:=sizeOf2
 v2:=zeroValue2
 t3:=k9
 a3:=lv
 z3:=k6
 v3:=lf
 t4:=nh
 a4:=isAgg4
 z4:=l9
 v4:=mw
 t5:=ml
 a5:=isAgg5
 z5:=sizeOf5
 v5:=m8
 t9:=lq
 a9:=isAgg9
 z9:=md
 v9:=m7
 t20:=underlying20
 a20:=isAgg20
 z20:=sizeOf20
 v20:=zeroValue20
 t21:=underlying21
 a21:=isAgg21
 z21:=sizeOf21
 v21:=zeroValue21
 t37:=l8
 a37:=isAgg117
 z37:=sizeOf117
 v37:=zeroValue117
 t46:=l6
 a46:=isAgg156
 z46:=sizeOf156
 v46:=nz
 t51:=np
 a51:=isAgg239
 z51:=sizeOf239
 v51:=ny
 t53:=nd
 a53:=isAgg241
 z53:=sizeOf241
 v53:=zeroValue241
 t75:=underlying192
 a75:=isAgg192
 z75:=sizeOf192
 v75:=zeroValue192
 t76:=underlying193
 a76:=isAgg193
 z76:=sizeOf193
 v76:=zeroValue193
 t85:=underlying343
 a85:=isAgg343
 z85:=sizeOf343
 v85:=zeroValue343
 t127:=underlying199
 a127:=isAgg199
 z127:=sizeOf199
 v127:=zeroValue199
 t143:=underlying358
 a143:=isAgg358
 z143:=sizeOf358
 v143:=zeroValue358
 t145:=underlying360
 a145:=isAgg360
 z145:=sizeOf360
 v145:=zeroValue360
 t167:=underlying342
 a167:=isAgg342
 z167:=sizeOf342
 v167:=zeroValue342
 t168:=underlying345
 a168:=isAgg345
 z168:=sizeOf345
 v168:=zeroValue345
 t171:=underlying338
 a171:=isAgg338
 z171:=sizeOf338
 v171:=zeroValue338
 t173:=underlying340
 a173:=isAgg340
 z173:=sizeOf340
 v173:=zeroValue340
 t175:=underlying350
 a175:=isAgg350
 z175:=sizeOf350
 v175:=zeroValue350
 t210:=underlying354
 a210:=isAgg354
 z210:=sizeOf354
 v210:=zeroValue354
 t212:=underlying348
 a212:=isAgg348
 z212:=sizeOf348
 v212:=zeroValue348
 t213:=underlying349
 a213:=isAgg349
 z213:=sizeOf349
 t232:=underlying361
 a232:=isAgg361
 z232:=sizeOf361
 v232:=zeroValue361
 t233:=underlying362
 a233:=isAgg362
 z233:=sizeOf362
 v233:=zeroValue362
 g15:=by kernel_rfl
 g16:=by kernel_rfl
 g17:=by kernel_rfl
 g18:=by kernel_rfl
 g19:=by kernel_rfl }
open Go.RowKit in
/-- strconv.Atoi: "Atoi is equivalent to ParseInt(s, 10, 0), converted to type int.": AT A DECIMAL NUMERAL OF AT MOST 18 BYTES: its value, and a nil error. The world behind the call: the one new row that the library's '[]byte(s)' lays. (LAID: no walk: one application.) -/
theorem Tryz.strconv_Atoi(s:ByteArray)(n:Int)(hl:s.size≤18)(h:Lib.atoi s.data.toList=some n)(w:World):
 Calls prog 272 #[.string s] w fun e w'=>e=.returned (.tuple #[.int .i64 n,.nilIface])∧∃t,w'=Lib.bytesWorld w 5 t:=Any.strconv_Atoi W7 s n hl h w
def Pk:Go.Shelf.Ren:=⟨fun|171=>248|243=>271|246=>285|283=>292|284=>293|285=>294|286=>295|129=>187|317=>301|318=>302|319=>303|320=>304|337=>308|338=>309|n=>n,fun|3=>3|9=>9|2=>2|4=>4|171=>338|0=>0|53=>241|37=>117|5=>5|173=>340|212=>348|51=>239|20=>20|213=>349|46=>156|232=>361|233=>362|n=>n,fun|17=>3|18=>6|19=>7|n=>n⟩
theorem W8:Go.Proofs.Lays.n171 prog Pk:={
 mixed:=by kernel_rfl
 f129:=func187.trans (bh some kQ)
 f171:=func248.trans (bh some kQ)
 f243:=func271.trans (bh some kQ)
 f246:=func285.trans (bh some kQ)
 f283:=func292.trans (bh some kQ)
 f284:=func293.trans (bh some kQ)
 f285:=func294.trans (bh some kQ)
 f286:=func295.trans (bh some kQ)
 f317:=func301.trans (bh some kQ)
 f318:=func302.trans (bh some kQ)
 f319:=func303.trans (bh some kQ)
 f320:=func304.trans (bh some kQ)
 f337:=func308.trans (bh some kQ)
 f338:=func309.trans (bh some kQ)
 t0:=underlying0
 a0:=isAgg0
 z0:=sizeOf0
 v0:=zeroValue0
 t2:=underlying2
 a2:=isAgg2
 z2:=sizeOf2
 v2:=zeroValue2
 t3:=k9
 a3:=lv
 z3:=k6
 v3:=lf
 t4:=nh
 a4:=isAgg4
 z4:=l9
 v4:=mw
 t5:=ml
 a5:=isAgg5
 z5:=sizeOf5
 v5:=m8
 t9:=lq
 a9:=isAgg9
 z9:=md
 v9:=m7
 t20:=underlying20
 a20:=isAgg20
 z20:=sizeOf20
 v20:=zeroValue20
 t37:=l8
 a37:=isAgg117
 z37:=sizeOf117
 v37:=zeroValue117
 t46:=l6
 a46:=isAgg156
 z46:=sizeOf156
 v46:=nz
 t51:=np
 a51:=isAgg239
 z51:=sizeOf239
 v51:=ny
 t53:=nd
 a53:=isAgg241
 z53:=sizeOf241
 v53:=zeroValue241
 t171:=underlying338
 a171:=isAgg338
 z171:=sizeOf338
 v171:=zeroValue338
 t173:=underlying340
 a173:=isAgg340
 z173:=sizeOf340
 v173:=zeroValue340
 t212:=underlying348
 a212:=isAgg348
 z212:=sizeOf348
 v212:=zeroValue348
 t213:=underlying349
 a213:=isAgg349
 z213:=sizeOf349
 t232:=underlying361
 a232:=isAgg361
 z232:=sizeOf361
 v232:=zeroValue361
 t233:=underlying362
 a233:=isAgg362
 z233:=sizeOf362
 v233:=zeroValue362
 g17:=by kernel_rfl
 g18:=by kernel_rfl
 g19:=by kernel_rfl }
open Go.RowKit Go.Sort Go.Lib in
/-- THE ROAD WITHOUT THE TABLE: 0 <= i < 100: NO PREMISE ON THE WORLD, AND THE WORLD IS AS IT WAS: a row that keeps its argument in that range need list no table ('laid = []'). (LAID: no walk: one application.) -/
theorem Tryz.strconv_Itoa_small(i:Nat)(hi:i<100)(w:World):
 Calls prog 248 #[.int .i64 i] w fun e w'=>e=.returned (.string ⟨(Lib.decDigits i).toArray⟩)∧w'=w:=Any.strconv_Itoa_small W8 i hi w
def Pm:Go.Shelf.Ren:=⟨fun|145=>270|220=>284|219=>269|217=>280|225=>281|224=>282|267=>283|266=>290|314=>291|n=>n,fun|9=>9|4=>4|59=>325|3=>3|5=>5|46=>156|146=>317|51=>239|n=>n,fun|1=>0|n=>n⟩
theorem W9:Go.Proofs.Lays.n145 prog Pm:={
 mixed:=by kernel_rfl
 f145:=func270.trans (bh some kQ)
 f217:=func280.trans (bh some kQ)
 f219:=func269.trans (bh some kQ)
 f220:=func284.trans (bh some kQ)
 f224:=func282.trans (bh some kQ)
 f225:=func281.trans (bh some kQ)
 f266:=func290.trans (bh some kQ)
 f267:=func283.trans (bh some kQ)
 f314:=func291.trans (bh some kQ)
 t3:=k9
 a3:=lv
 z3:=k6
 v3:=lf
 t4:=nh
 a4:=isAgg4
 z4:=l9
 v4:=mw
 t5:=ml
 a5:=isAgg5
 z5:=sizeOf5
 v5:=m8
 t9:=lq
 a9:=isAgg9
 z9:=md
 v9:=m7
 t46:=l6
 a46:=isAgg156
 z46:=sizeOf156
 v46:=nz
 t51:=np
 a51:=isAgg239
 z51:=sizeOf239
 v51:=ny
 t59:=underlying325
 a59:=isAgg325
 z59:=sizeOf325
 v59:=zeroValue325
 t146:=underlying317
 a146:=isAgg317
 z146:=sizeOf317
 v146:=zeroValue317
 g1:=by kernel_rfl }
open Go.RowKit Go.Lib in
/-- strings.Cut: "Cut slices s around the first instance of sep, returning the text before and after sep. The found result reports whether sep appears in s. If sep does not appear in s, cut returns s, "", false.": IT RETURNS 'Lib.cut s sep'; the world is as it was but for the count of draws. (LAID: no walk: one application.) -/
theorem Tryz.strings_Cut(s sep:ByteArray)(m:Int)(w:World)(hs:s.size<4294967281)(hm:w.cell? ⟨0,0,none⟩=some (.int .i64 m)):
 Calls prog 270 #[.string s,.string sep] w fun e w'=>e=.returned (.tuple #[.string ⟨(Lib.cut s.data.toList sep.data.toList).1.toArray⟩,.string ⟨(Lib.cut s.data.toList sep.data.toList).2.1.toArray⟩,.bool (Lib.cut s.data.toList sep.data.toList).2.2])∧∃n,w'=w.drewN n:=Any.strings_Cut W9 s sep m w hs hm
def Pn:Go.Shelf.Ren:=⟨fun|189=>31|125=>90|257=>89|128=>186|129=>187|294=>177|295=>178|296=>179|297=>180|298=>181|299=>182|216=>183|300=>184|301=>185|328=>228|329=>229|330=>230|331=>231|332=>232|215=>148|343=>261|n=>n,fun|28=>23|3=>3|46=>156|0=>0|51=>239|53=>241|4=>4|183=>233|182=>232|131=>165|5=>5|9=>9|218=>283|222=>188|228=>314|229=>139|n=>n,fun|n=>n⟩
theorem Oh:Go.Proofs.Lays.n189 prog Pn:={
 mixed:=by kernel_rfl
 f125:=func90.trans (bh some kQ)
 f128:=func186.trans (bh some kQ)
 f129:=func187.trans (bh some kQ)
 f189:=func31.trans (bh some kQ)
 f215:=func148.trans (bh some kQ)
 f216:=func183.trans (bh some kQ)
 f257:=func89.trans (bh some kQ)
 f294:=func177.trans (bh some kQ)
 f295:=func178.trans (bh some kQ)
 f296:=func179.trans (bh some kQ)
 f297:=func180.trans (bh some kQ)
 f298:=func181.trans (bh some kQ)
 f299:=func182.trans (bh some kQ)
 f300:=func184.trans (bh some kQ)
 f301:=func185.trans (bh some kQ)
 f328:=func228.trans (bh some kQ)
 f329:=func229.trans (bh some kQ)
 f330:=func230.trans (bh some kQ)
 f331:=func231.trans (bh some kQ)
 f332:=func232.trans (bh some kQ)
 f343:=func261.trans (bh some kQ)
 t0:=underlying0
 a0:=isAgg0
 z0:=sizeOf0
 v0:=zeroValue0
 t3:=k9
 a3:=lv
 z3:=k6
 v3:=lf
 t4:=nh
 a4:=isAgg4
 z4:=l9
 v4:=mw
 t5:=ml
 a5:=isAgg5
 z5:=sizeOf5
 v5:=m8
 t9:=lq
 a9:=isAgg9
 z9:=md
 v9:=m7
 t28:=ky
 a28:=isAgg23
 z28:=mr
 v28:=zeroValue23
 t46:=l6
 a46:=isAgg156
 z46:=sizeOf156
 v46:=nz
 t51:=np
 a51:=isAgg239
 z51:=sizeOf239
 v51:=ny
 t53:=nd
 a53:=isAgg241
 z53:=sizeOf241
 v53:=zeroValue241
 t131:=underlying165
 a131:=isAgg165
 z131:=sizeOf165
 v131:=zeroValue165
 t182:=underlying232
 a182:=isAgg232
 z182:=sizeOf232
 v182:=zeroValue232
 t183:=underlying233
 a183:=isAgg233
 z183:=sizeOf233
 v183:=zeroValue233
 t218:=underlying283
 a218:=isAgg283
 z218:=sizeOf283
 v218:=zeroValue283
 t222:=underlying188
 a222:=isAgg188
 z222:=sizeOf188
 v222:=zeroValue188
 t228:=underlying314
 a228:=isAgg314
 z228:=sizeOf314
 v228:=zeroValue314
 t229:=underlying139
 a229:=isAgg139
 z229:=sizeOf139
 v229:=zeroValue139 }
open Go.Sort Go.RowKit in
theorem Tryz.slices_Sort_int(blk off cap:Nat)(zs:List Int)(w:World)(hH:Holds (Value.int .i64) w blk off zs.toArray)(hblk:blk<w.heap.size)(hsz:zs.length<4611686018427387904):
 Calls prog 31 #[.slice (some ⟨blk,off,none⟩) zs.length cap] w fun e w'=>
   e=.returned (.tuple #[])∧∃n os,w'=grow (putRow (Value.int .i64) (Sort.ahead w n) blk off (zs.mergeSort fun x y=>decide (x≤y)).toArray) os:=Any.slices_Sort_int Oh blk off cap zs w hH hblk hsz
def Qn:Go.Shelf.Ren:=⟨fun|99=>152|206=>210|n=>n,fun|9=>9|4=>4|3=>3|n=>n,fun|n=>n⟩
theorem Zv:Go.Proofs.Lays.n99 prog Qn:={
 mixed:=by kernel_rfl
 f99:=func152.trans (bh some kQ)
 f206:=func210.trans (bh some kQ)
 t3:=k9
 a3:=lv
 z3:=k6
 v3:=lf
 t4:=nh
 a4:=isAgg4
 z4:=l9
 v4:=mw
 t9:=lq
 a9:=isAgg9
 z9:=md
 v9:=m7 }
open Go.RowKit Go.Lib in
/-- strings.HasPrefix: "HasPrefix reports whether the string s begins with prefix.": IT RETURNS 'Lib.hasPrefix s prefix'; the world is as it was. (LAID: no walk: one application.) -/
theorem Tryz.strings_HasPrefix(s p:ByteArray)(w:World):
 Calls prog 152 #[.string s,.string p] w fun e w'=>e=.returned (.bool (Lib.hasPrefix s.data.toList p.data.toList))∧w'=w:=Any.strings_HasPrefix Zv s p w
def Po:Go.Shelf.Ren:=⟨fun|146=>151|221=>209|268=>242|138=>243|143=>244|195=>266|197=>267|218=>268|219=>269|260=>279|217=>280|225=>281|224=>282|267=>283|266=>290|314=>291|n=>n,fun|9=>9|31=>204|3=>3|4=>4|0=>0|105=>321|21=>21|5=>5|46=>156|119=>333|139=>336|138=>335|146=>317|51=>239|n=>n,fun|1=>0|3=>1|4=>2|n=>n⟩
theorem Xa:Go.Proofs.Lays.n146 prog Po:={
 mixed:=by kernel_rfl
 f138:=func243.trans (bh some kQ)
 f143:=func244.trans (bh some kQ)
 f146:=func151.trans (bh some kQ)
 f195:=func266.trans (bh some kQ)
 f197:=func267.trans (bh some kQ)
 f217:=func280.trans (bh some kQ)
 f218:=func268.trans (bh some kQ)
 f219:=func269.trans (bh some kQ)
 f221:=func209.trans (bh some kQ)
 f224:=func282.trans (bh some kQ)
 f225:=func281.trans (bh some kQ)
 f260:=func279.trans (bh some kQ)
 f266:=func290.trans (bh some kQ)
 f267:=func283.trans (bh some kQ)
 f268:=func242.trans (bh some kQ)
 f314:=func291.trans (bh some kQ)
 t0:=underlying0
 a0:=isAgg0
 z0:=sizeOf0
 v0:=zeroValue0
 t3:=k9
 a3:=lv
 z3:=k6
 v3:=lf
 t4:=nh
 a4:=isAgg4
 z4:=l9
 v4:=mw
 t5:=ml
 a5:=isAgg5
 z5:=sizeOf5
 v5:=m8
 t9:=lq
 a9:=isAgg9
 z9:=md
 v9:=m7
 t21:=underlying21
 a21:=isAgg21
 z21:=sizeOf21
 v21:=zeroValue21
 t31:=lh
 a31:=isAgg204
 z31:=sizeOf204
 v31:=zeroValue204
 t46:=l6
 a46:=isAgg156
 z46:=sizeOf156
 v46:=nz
 t51:=np
 a51:=isAgg239
 z51:=sizeOf239
 v51:=ny
 t105:=underlying321
 a105:=isAgg321
 z105:=sizeOf321
 v105:=zeroValue321
 t119:=underlying333
 a119:=isAgg333
 z119:=sizeOf333
 t138:=underlying335
 a138:=isAgg335
 z138:=sizeOf335
 v138:=zeroValue335
 t139:=underlying336
 a139:=isAgg336
 z139:=sizeOf336
 v139:=zeroValue336
 t146:=underlying317
 a146:=isAgg317
 z146:=sizeOf317
 v146:=zeroValue317
 g1:=by kernel_rfl
 g3:=by kernel_rfl
 g4:=by kernel_rfl }
open Go.RowKit Go.Lib in
/-- strings.Split. (LAID: no walk: one application.) -/
theorem Tryz.strings_Split(s sep:ByteArray)(m:Int)(w:World)(hs:s.size<4294967281)(hm:w.cell? ⟨0,0,none⟩=some (.int .i64 m))(h1:1≤sep.size):
 Calls prog 151 #[.string s,.string sep] w fun e w'=>
   e=.returned (.slice (some ⟨w.heap.size,0,none⟩) (Lib.countB s sep+1) (Lib.countB s sep+1))∧w'=w.alloc (.cells ((Lib.splitB sep 0 (Lib.countB s sep) s).map Value.string).toArray 9):=Any.strings_Split Xa kQ s sep m w hs hm h1
open Go.RowKit Go.Sort in
/-- .. and plain. (LAID: no walk: one application.) -/
theorem Tryz.slices_Sort_int_none(p:Option Addr)(cap:Nat)(w:World):
 Calls prog 31 #[.slice p 0 cap] w fun e w'=>e=.returned (.tuple #[])∧w'=w:=Any.slices_Sort_int_none Oh p cap w
end Go.Proofs
