import Derived.Test.YtnpgbbaniknpkaaGreatDoorKR114
import Derived.Shelf.Strings.Builder1
import Derived.Shelf.Small.Bits
import Derived.Shelf.Small.Strs
import Derived.Shelf.Utf8.RuneCount
import Derived.Shelf.Strconv.Atoi
import Derived.Shelf.Strconv.Itoa0
import Derived.Shelf.Strconv.Itoa1
import Derived.Shelf.LaysM
import Derived.Shelf.Strconv.Itoa2
import Derived.Shelf.Strconv.Itoa3
import Derived.Shelf.Strings.Search1
import Derived.Shelf.Strings.Search2
import Derived.Shelf.Strings.Search3
import Derived.Shelf.Strings.Cut
import Derived.Shelf.Strings.Count
import Derived.Shelf.Strings.Shaped
import Derived.Shelf.Sort.Plain
import Derived.Shelf.Strings.Prefix
import Derived.Shelf.Strings.Split
import Derived.Shelf.Strings.SplitShaped
import Derived.Shelf.Unicode.Decode
import Derived.Shelf.Strings.RuneCount
import Derived.Shelf.Strings.Explode
import Derived.Shelf.Bits.Mul64
import Derived.Shelf.Unicode.DecodeSlow
import Derived.Shelf.Unicode.DecodeAny
import Derived.Ground.Names2Prog
import Derived.Shelf.Slices.Clone
import Derived.Shelf.Slices.CompactI
import Derived.Shelf.Slices.SearchI
import Derived.Shelf.Slices.Cells
import Derived.Shelf.Slices.In.SortNone
import Derived.Ground.SlgnProg
import Derived.Shelf.SlicesE.Compact
import Derived.Shelf.SlicesE.Clone
import Derived.Ground.SlgfProg
import Derived.Shelf.SlicesE.IndexFunc
import Derived.Shelf.SlicesE.DeleteFunc
namespace Go.Proofs
open Go.Proofs.Tryz
open Go.Shelf
def Qb:Go.Shelf.Ren:=⟨fun|172=>276|244=>290|245=>291|247=>300|279=>301|280=>302|281=>303|282=>304|287=>309|316=>310|171=>252|205=>311|321=>314|322=>315|243=>275|246=>289|283=>296|284=>297|285=>298|286=>299|129=>191|317=>305|318=>306|319=>307|320=>308|337=>312|338=>313|n=>n,fun|9=>9|3=>3|75=>196|76=>197|4=>4|5=>5|167=>343|37=>124|0=>0|85=>344|2=>2|168=>346|53=>243|175=>351|46=>158|210=>355|127=>203|145=>361|143=>359|21=>21|171=>339|173=>341|212=>349|51=>241|20=>20|213=>350|232=>362|233=>363|80=>139|n=>n,fun|15=>4|16=>5|17=>3|18=>6|19=>7|n=>n⟩
theorem X0:Go.Proofs.Lays.n172 prog Qb:={
 mixed:=by kernel_rfl
 f129:=func191.trans (bi some kQ)
 f171:=func252.trans (bi some kQ)
 f172:=func276.trans (bi some kQ)
 f205:=func311.trans (bi some kQ)
 f243:=func275.trans (bi some kQ)
 f244:=func290.trans (bi some kQ)
 f245:=func291.trans (bi some kQ)
 f246:=func289.trans (bi some kQ)
 f247:=func300.trans (bi some kQ)
 f279:=func301.trans (bi some kQ)
 f280:=func302.trans (bi some kQ)
 f281:=func303.trans (bi some kQ)
 f282:=func304.trans (bi some kQ)
 f283:=func296.trans (bi some kQ)
 f284:=func297.trans (bi some kQ)
 f285:=func298.trans (bi some kQ)
 f286:=func299.trans (bi some kQ)
 f287:=func309.trans (bi some kQ)
 f316:=func310.trans (bi some kQ)
 f317:=func305.trans (bi some kQ)
 f318:=func306.trans (bi some kQ)
 f319:=func307.trans (bi some kQ)
 f320:=func308.trans (bi some kQ)
 f321:=func314.trans (bi some kQ)
 f322:=func315.trans (bi some kQ)
 f337:=func312.trans (bi some kQ)
 f338:=func313.trans (bi some kQ)
 t0:=underlying0
 a0:=isAgg0
 z0:=sizeOf0
 v0:=zeroValue0
 t2:=underlying2
 a2:=isAgg2
 z2:=sizeOf2
 v2:=zeroValue2
 t3:=li
 a3:=l7
 z3:=lg
 v3:=lq
 t4:=nq
 a4:=isAgg4
 z4:=mf
 v4:=m7
 t5:=mw
 a5:=isAgg5
 z5:=sizeOf5
 v5:=ng
 t9:=l5
 a9:=isAgg9
 z9:=mj
 v9:=nf
 t20:=underlying20
 a20:=isAgg20
 z20:=sizeOf20
 v20:=zeroValue20
 t21:=underlying21
 a21:=isAgg21
 z21:=sizeOf21
 v21:=zeroValue21
 t37:=md
 a37:=isAgg124
 z37:=sizeOf124
 v37:=zeroValue124
 t46:=mb
 a46:=isAgg158
 z46:=sizeOf158
 v46:=oa
 t51:=ny
 a51:=isAgg241
 z51:=sizeOf241
 v51:=n_
 t53:=nk
 a53:=isAgg243
 z53:=sizeOf243
 v53:=zeroValue243
 t75:=underlying196
 a75:=isAgg196
 z75:=sizeOf196
 v75:=zeroValue196
 t76:=underlying197
 a76:=isAgg197
 z76:=sizeOf197
 v76:=zeroValue197
 t85:=underlying344
 a85:=isAgg344
 z85:=sizeOf344
 v85:=zeroValue344
 t127:=underlying203
 a127:=isAgg203
 z127:=sizeOf203
 v127:=zeroValue203
 t143:=underlying359
 a143:=isAgg359
 z143:=sizeOf359
 v143:=zeroValue359
 t145:=underlying361
 a145:=isAgg361
 z145:=sizeOf361
 v145:=zeroValue361
 t167:=underlying343
 a167:=isAgg343
 z167:=sizeOf343
 v167:=zeroValue343
 t168:=underlying346
 a168:=isAgg346
 z168:=sizeOf346
 v168:=zeroValue346
 t171:=underlying339
 a171:=isAgg339
 z171:=sizeOf339
 v171:=zeroValue339
 t173:=underlying341
 a173:=isAgg341
 z173:=sizeOf341
 v173:=zeroValue341
 t175:=underlying351
 a175:=isAgg351
 z175:=sizeOf351
 v175:=zeroValue351
 t210:=underlying355
 a210:=isAgg355
 z210:=sizeOf355
 v210:=zeroValue355
 t212:=underlying349
 a212:=isAgg349
 z212:=sizeOf349
 v212:=zeroValue349
 t213:=underlying350
 a213:=isAgg350
 z213:=sizeOf350
 t232:=underlying362
 a232:=isAgg362
 z232:=sizeOf362
 v232:=zeroValue362
 t233:=underlying363
 a233:=isAgg363
 z233:=sizeOf363
 v233:=zeroValue363
 g15:=by kernel_rfl
 g16:=by kernel_rfl
 g17:=by kernel_rfl
 g18:=by kernel_rfl
 g19:=by kernel_rfl }
open Go.RowKit in
/-- strconv.Atoi: "Atoi is equivalent to ParseInt(s, 10, 0), converted to type int.": AT A DECIMAL NUMERAL OF AT MOST 18 BYTES: its value, and a nil error. The world behind the call: the one new row that the library's '[]byte(s)' lays. (LAID: no walk: one application.) -/
theorem Tryz.strconv_Atoi(s:ByteArray)(n:Int)(hl:s.size≤18)(h:Lib.atoi s.data.toList=some n)(w:World):
 Calls prog 276 #[.string s] w fun e w'=>e=.returned (.tuple #[.int .i64 n,.nilIface])∧∃t,w'=Lib.bytesWorld w 5 t:=Any.strconv_Atoi X0 s n hl h w
def Qc:Go.Shelf.Ren:=⟨fun|171=>252|243=>275|246=>289|283=>296|284=>297|285=>298|286=>299|129=>191|317=>305|318=>306|319=>307|320=>308|337=>312|338=>313|n=>n,fun|3=>3|9=>9|2=>2|4=>4|171=>339|0=>0|53=>243|37=>124|5=>5|173=>341|212=>349|51=>241|20=>20|213=>350|46=>158|232=>362|233=>363|n=>n,fun|17=>3|18=>6|19=>7|n=>n⟩
theorem X1:Go.Proofs.Lays.n171 prog Qc:={
 mixed:=by kernel_rfl
 f129:=func191.trans (bi some kQ)
 f171:=func252.trans (bi some kQ)
 f243:=func275.trans (bi some kQ)
 f246:=func289.trans (bi some kQ)
 f283:=func296.trans (bi some kQ)
 f284:=func297.trans (bi some kQ)
 f285:=func298.trans (bi some kQ)
 f286:=func299.trans (bi some kQ)
 f317:=func305.trans (bi some kQ)
 f318:=func306.trans (bi some kQ)
 f319:=func307.trans (bi some kQ)
 f320:=func308.trans (bi some kQ)
 f337:=func312.trans (bi some kQ)
 f338:=func313.trans (bi some kQ)
 t0:=underlying0
 a0:=isAgg0
 z0:=sizeOf0
 v0:=zeroValue0
 t2:=underlying2
 a2:=isAgg2
 z2:=sizeOf2
 v2:=zeroValue2
 t3:=li
 a3:=l7
 z3:=lg
 v3:=lq
 t4:=nq
 a4:=isAgg4
 z4:=mf
 v4:=m7
 t5:=mw
 a5:=isAgg5
 z5:=sizeOf5
 v5:=ng
 t9:=l5
 a9:=isAgg9
 z9:=mj
 v9:=nf
 t20:=underlying20
 a20:=isAgg20
 z20:=sizeOf20
 v20:=zeroValue20
 t37:=md
 a37:=isAgg124
 z37:=sizeOf124
 v37:=zeroValue124
 t46:=mb
 a46:=isAgg158
 z46:=sizeOf158
 v46:=oa
 t51:=ny
 a51:=isAgg241
 z51:=sizeOf241
 v51:=n_
 t53:=nk
 a53:=isAgg243
 z53:=sizeOf243
 v53:=zeroValue243
 t171:=underlying339
 a171:=isAgg339
 z171:=sizeOf339
 v171:=zeroValue339
 t173:=underlying341
 a173:=isAgg341
 z173:=sizeOf341
 v173:=zeroValue341
 t212:=underlying349
 a212:=isAgg349
 z212:=sizeOf349
 v212:=zeroValue349
 t213:=underlying350
 a213:=isAgg350
 z213:=sizeOf350
 t232:=underlying362
 a232:=isAgg362
 z232:=sizeOf362
 v232:=zeroValue362
 t233:=underlying363
 a233:=isAgg363
 z233:=sizeOf363
 v233:=zeroValue363
 g17:=by kernel_rfl
 g18:=by kernel_rfl
 g19:=by kernel_rfl }
open Go.RowKit Go.Sort Go.Lib in
/-- THE ROAD WITHOUT THE TABLE: 0 <= i < 100: NO PREMISE ON THE WORLD, AND THE WORLD IS AS IT WAS: a row that keeps its argument in that range need list no table ('laid = []'). (LAID: no walk: one application.) -/
theorem Tryz.strconv_Itoa_small(i:Nat)(hi:i<100)(w:World):
 Calls prog 252 #[.int .i64 i] w fun e w'=>e=.returned (.string ⟨(Lib.decDigits i).toArray⟩)∧w'=w:=Any.strconv_Itoa_small X1 i hi w
def Qd:Go.Shelf.Ren:=⟨fun|145=>274|220=>288|219=>273|217=>284|225=>285|224=>286|267=>287|266=>294|314=>295|n=>n,fun|9=>9|4=>4|59=>326|3=>3|5=>5|46=>158|146=>318|51=>241|n=>n,fun|1=>0|n=>n⟩
theorem X2:Go.Proofs.Lays.n145 prog Qd:={
 mixed:=by kernel_rfl
 f145:=func274.trans (bi some kQ)
 f217:=func284.trans (bi some kQ)
 f219:=func273.trans (bi some kQ)
 f220:=func288.trans (bi some kQ)
 f224:=func286.trans (bi some kQ)
 f225:=func285.trans (bi some kQ)
 f266:=func294.trans (bi some kQ)
 f267:=func287.trans (bi some kQ)
 f314:=func295.trans (bi some kQ)
 t3:=li
 a3:=l7
 z3:=lg
 v3:=lq
 t4:=nq
 a4:=isAgg4
 z4:=mf
 v4:=m7
 t5:=mw
 a5:=isAgg5
 z5:=sizeOf5
 v5:=ng
 t9:=l5
 a9:=isAgg9
 z9:=mj
 v9:=nf
 t46:=mb
 a46:=isAgg158
 z46:=sizeOf158
 v46:=oa
 t51:=ny
 a51:=isAgg241
 z51:=sizeOf241
 v51:=n_
 t59:=underlying326
 a59:=isAgg326
 z59:=sizeOf326
 v59:=zeroValue326
 t146:=underlying318
 a146:=isAgg318
 z146:=sizeOf318
 v146:=zeroValue318
 g1:=by kernel_rfl }
open Go.RowKit Go.Lib in
/-- strings.Cut: "Cut slices s around the first instance of sep, returning the text before and after sep. The found result reports whether sep appears in s. If sep does not appear in s, cut returns s, "", false.": IT RETURNS 'Lib.cut s sep'; the world is as it was but for the count of draws. (LAID: no walk: one application.) -/
theorem Tryz.strings_Cut(s sep:ByteArray)(m:Int)(w:World)(hs:s.size<4294967281)(hm:w.cell? ⟨0,0,none⟩=some (.int .i64 m)):
 Calls prog 274 #[.string s,.string sep] w fun e w'=>e=.returned (.tuple #[.string ⟨(Lib.cut s.data.toList sep.data.toList).1.toArray⟩,.string ⟨(Lib.cut s.data.toList sep.data.toList).2.1.toArray⟩,.bool (Lib.cut s.data.toList sep.data.toList).2.2])∧∃n,w'=w.drewN n:=Any.strings_Cut X2 s sep m w hs hm
def Qe:Go.Shelf.Ren:=⟨fun|189=>32|125=>93|257=>92|128=>190|129=>191|294=>181|295=>182|296=>183|297=>184|298=>185|299=>186|216=>187|300=>188|301=>189|328=>232|329=>233|330=>234|331=>235|332=>236|215=>154|343=>265|n=>n,fun|28=>23|3=>3|46=>158|0=>0|51=>241|53=>243|4=>4|183=>235|182=>234|131=>160|5=>5|9=>9|218=>284|222=>192|228=>315|229=>148|n=>n,fun|n=>n⟩
theorem Pb:Go.Proofs.Lays.n189 prog Qe:={
 mixed:=by kernel_rfl
 f125:=func93.trans (bi some kQ)
 f128:=func190.trans (bi some kQ)
 f129:=func191.trans (bi some kQ)
 f189:=func32.trans (bi some kQ)
 f215:=func154.trans (bi some kQ)
 f216:=func187.trans (bi some kQ)
 f257:=func92.trans (bi some kQ)
 f294:=func181.trans (bi some kQ)
 f295:=func182.trans (bi some kQ)
 f296:=func183.trans (bi some kQ)
 f297:=func184.trans (bi some kQ)
 f298:=func185.trans (bi some kQ)
 f299:=func186.trans (bi some kQ)
 f300:=func188.trans (bi some kQ)
 f301:=func189.trans (bi some kQ)
 f328:=func232.trans (bi some kQ)
 f329:=func233.trans (bi some kQ)
 f330:=func234.trans (bi some kQ)
 f331:=func235.trans (bi some kQ)
 f332:=func236.trans (bi some kQ)
 f343:=func265.trans (bi some kQ)
 t0:=underlying0
 a0:=isAgg0
 z0:=sizeOf0
 v0:=zeroValue0
 t3:=li
 a3:=l7
 z3:=lg
 v3:=lq
 t4:=nq
 a4:=isAgg4
 z4:=mf
 v4:=m7
 t5:=mw
 a5:=isAgg5
 z5:=sizeOf5
 v5:=ng
 t9:=l5
 a9:=isAgg9
 z9:=mj
 v9:=nf
 t28:=k_
 a28:=isAgg23
 z28:=m4
 v28:=zeroValue23
 t46:=mb
 a46:=isAgg158
 z46:=sizeOf158
 v46:=oa
 t51:=ny
 a51:=isAgg241
 z51:=sizeOf241
 v51:=n_
 t53:=nk
 a53:=isAgg243
 z53:=sizeOf243
 v53:=zeroValue243
 t131:=underlying160
 a131:=isAgg160
 z131:=sizeOf160
 v131:=zeroValue160
 t182:=underlying234
 a182:=isAgg234
 z182:=sizeOf234
 v182:=zeroValue234
 t183:=underlying235
 a183:=isAgg235
 z183:=sizeOf235
 v183:=zeroValue235
 t218:=underlying284
 a218:=isAgg284
 z218:=sizeOf284
 v218:=zeroValue284
 t222:=underlying192
 a222:=isAgg192
 z222:=sizeOf192
 v222:=zeroValue192
 t228:=underlying315
 a228:=isAgg315
 z228:=sizeOf315
 v228:=zeroValue315
 t229:=underlying148
 a229:=isAgg148
 z229:=sizeOf148
 v229:=zeroValue148 }
open Go.Sort Go.RowKit in
theorem Tryz.slices_Sort_int(blk off cap:Nat)(zs:List Int)(w:World)(hH:Holds (Value.int .i64) w blk off zs.toArray)(hblk:blk<w.heap.size)(hsz:zs.length<4611686018427387904):
 Calls prog 32 #[.slice (some ⟨blk,off,none⟩) zs.length cap] w fun e w'=>
   e=.returned (.tuple #[])∧∃n os,w'=grow (putRow (Value.int .i64) (Sort.ahead w n) blk off (zs.mergeSort fun x y=>decide (x≤y)).toArray) os:=Any.slices_Sort_int Pb blk off cap zs w hH hblk hsz
def Rj:Go.Shelf.Ren:=⟨fun|99=>158|206=>214|n=>n,fun|9=>9|4=>4|3=>3|n=>n,fun|n=>n⟩
theorem aS:Go.Proofs.Lays.n99 prog Rj:={
 mixed:=by kernel_rfl
 f99:=func158.trans (bi some kQ)
 f206:=func214.trans (bi some kQ)
 t3:=li
 a3:=l7
 z3:=lg
 v3:=lq
 t4:=nq
 a4:=isAgg4
 z4:=mf
 v4:=m7
 t9:=l5
 a9:=isAgg9
 z9:=mj
 v9:=nf }
open Go.RowKit Go.Lib in
/-- strings.HasPrefix: "HasPrefix reports whether the string s begins with prefix.": IT RETURNS 'Lib.hasPrefix s prefix'; the world is as it was. (LAID: no walk: one application.) -/
theorem Tryz.strings_HasPrefix(s p:ByteArray)(w:World):
 Calls prog 158 #[.string s,.string p] w fun e w'=>e=.returned (.bool (Lib.hasPrefix s.data.toList p.data.toList))∧w'=w:=Any.strings_HasPrefix aS s p w
def Qf:Go.Shelf.Ren:=⟨fun|146=>157|221=>213|268=>246|138=>247|143=>248|195=>270|197=>271|218=>272|219=>273|260=>283|217=>284|225=>285|224=>286|267=>287|266=>294|314=>295|n=>n,fun|9=>9|31=>208|3=>3|4=>4|0=>0|105=>322|21=>21|5=>5|46=>158|119=>334|139=>337|138=>336|146=>318|51=>241|n=>n,fun|1=>0|3=>1|4=>2|n=>n⟩
theorem X3:Go.Proofs.Lays.n146 prog Qf:={
 mixed:=by kernel_rfl
 f138:=func247.trans (bi some kQ)
 f143:=func248.trans (bi some kQ)
 f146:=func157.trans (bi some kQ)
 f195:=func270.trans (bi some kQ)
 f197:=func271.trans (bi some kQ)
 f217:=func284.trans (bi some kQ)
 f218:=func272.trans (bi some kQ)
 f219:=func273.trans (bi some kQ)
 f221:=func213.trans (bi some kQ)
 f224:=func286.trans (bi some kQ)
 f225:=func285.trans (bi some kQ)
 f260:=func283.trans (bi some kQ)
 f266:=func294.trans (bi some kQ)
 f267:=func287.trans (bi some kQ)
 f268:=func246.trans (bi some kQ)
 f314:=func295.trans (bi some kQ)
 t0:=underlying0
 a0:=isAgg0
 z0:=sizeOf0
 v0:=zeroValue0
 t3:=li
 a3:=l7
 z3:=lg
 v3:=lq
 t4:=nq
 a4:=isAgg4
 z4:=mf
 v4:=m7
 t5:=mw
 a5:=isAgg5
 z5:=sizeOf5
 v5:=ng
 t9:=l5
 a9:=isAgg9
 z9:=mj
 v9:=nf
 t21:=underlying21
 a21:=isAgg21
 z21:=sizeOf21
 v21:=zeroValue21
 t31:=lv
 a31:=isAgg208
 z31:=sizeOf208
 v31:=zeroValue208
 t46:=mb
 a46:=isAgg158
 z46:=sizeOf158
 v46:=oa
 t51:=ny
 a51:=isAgg241
 z51:=sizeOf241
 v51:=n_
 t105:=underlying322
 a105:=isAgg322
 z105:=sizeOf322
 v105:=zeroValue322
 t119:=underlying334
 a119:=isAgg334
 z119:=sizeOf334
 t138:=underlying336
 a138:=isAgg336
 z138:=sizeOf336
 v138:=zeroValue336
 t139:=underlying337
 a139:=isAgg337
 z139:=sizeOf337
 v139:=zeroValue337
 t146:=underlying318
 a146:=isAgg318
 z146:=sizeOf318
 v146:=zeroValue318
 g1:=by kernel_rfl
 g3:=by kernel_rfl
 g4:=by kernel_rfl }
open Go.RowKit Go.Lib in
/-- strings.Split. (LAID: no walk: one application.) -/
theorem Tryz.strings_Split(s sep:ByteArray)(m:Int)(w:World)(hs:s.size<4294967281)(hm:w.cell? ⟨0,0,none⟩=some (.int .i64 m))(h1:1≤sep.size):
 Calls prog 157 #[.string s,.string sep] w fun e w'=>
   e=.returned (.slice (some ⟨w.heap.size,0,none⟩) (Lib.countB s sep+1) (Lib.countB s sep+1))∧w'=w.alloc (.cells ((Lib.splitB sep 0 (Lib.countB s sep) s).map Value.string).toArray 9):=Any.strings_Split X3 kQ s sep m w hs hm h1
open Go.RowKit Go.Sort in
/-- .. and plain. (LAID: no walk: one application.) -/
theorem Tryz.slices_Sort_int_none(p:Option Addr)(cap:Nat)(w:World):
 Calls prog 32 #[.slice p 0 cap] w fun e w'=>e=.returned (.tuple #[])∧w'=w:=Any.slices_Sort_int_none Pb p cap w
end Go.Proofs
