import Derived.Test.YtnocngnlpgikaaaGreatDoorKR14
import Derived.Test.YtnocngnlpgikaaaGreatDoorProg
namespace Go
abbrev ju:=@Proofs.Tryz.underlying43
abbrev jv:=@Proofs.Tryz.underlying24
abbrev jw:=@Proofs.Tryz.sizeOf3
abbrev jx:=@Proofs.Tryz.zeroValue184
abbrev jy:=@Proofs.Tryz.underlying3
abbrev jz:=@Proofs.Tryz.sizeOf33
abbrev j0:=@Proofs.Tryz.underlying25
abbrev j1:=@Proofs.Tryz.underlying248
abbrev j2:=@Proofs.Tryz.zeroValue3
abbrev j3:=@Proofs.Tryz.underlying128
abbrev j4:=@Proofs.Tryz.zeroValue33
abbrev j5:=@Proofs.Tryz.sizeOf184
abbrev j6:=@Proofs.Tryz.underlying184
abbrev j7:=@Proofs.Tryz.underlying9
abbrev j8:=@Proofs.Tryz.underlying255
abbrev j9:=@Proofs.Tryz.underlying26
abbrev j_:=@Proofs.Tryz.isAgg3
abbrev kc:=@Proofs.Tryz.zeroValue130
abbrev ke:=@Proofs.Tryz.underlying33
abbrev kh:=@Proofs.Tryz.sizeOf49
abbrev ki:=@Proofs.Tryz.underlying217
abbrev kj:=@Proofs.Tryz.underlying130
abbrev kl:=@Proofs.Tryz.underlying120
abbrev km:=@Proofs.Tryz.sizeOf4
abbrev kp:=@Proofs.Tryz.underlying111
abbrev kq:=@Proofs.Tryz.underlying79
abbrev kr:=@Proofs.Tryz.underlying73
abbrev kt:=@Proofs.Tryz.sizeOf9
abbrev ku:=@Proofs.Tryz.underlying227
abbrev ky:=@Proofs.Tryz.underlying222
abbrev kz:=@Proofs.Tryz.zeroValue49
abbrev k6:=@Proofs.Tryz.sizeOf35
abbrev k7:=@Proofs.Tryz.zeroValue136
abbrev k8:=@Proofs.Tryz.zeroValue79
abbrev k9:=@Proofs.Tryz.zeroValue28
abbrev k_:=@Proofs.Tryz.underlying5
abbrev lf:=@Proofs.Tryz.underlying241
abbrev lg:=@Proofs.Tryz.underlying136
abbrev lh:=@Proofs.Tryz.sizeOf43
abbrev li:=@Proofs.Tryz.zeroValue150
abbrev lj:=@Proofs.Tryz.underlying150
abbrev ll:=@Proofs.Tryz.zeroValue4
abbrev lq:=@Proofs.Tryz.isAgg35
abbrev lr:=@Proofs.Tryz.zeroValue202
abbrev lu:=@Proofs.Tryz.underlying61
abbrev lv:=@Proofs.Tryz.sizeOf28
abbrev lw:=@Proofs.Tryz.sizeOf136
abbrev lx:=@Proofs.Tryz.underlying202
abbrev ly:=@Proofs.Tryz.zeroValue9
abbrev lz:=@Proofs.Tryz.zeroValue5
abbrev l1:=@Proofs.Tryz.underlying4
abbrev l4:=@Proofs.Tryz.sizeOf221
abbrev l5:=@Proofs.Tryz.zeroValue128
abbrev l6:=@Proofs.Tryz.underlying240
abbrev l7:=@Proofs.Tryz.underlying221
abbrev l8:=@Proofs.Tryz.sizeOf128
abbrev l9:=@Proofs.Tryz.zeroValue51
abbrev l_:=@Proofs.Tryz.sizeOf51
abbrev ma:=@Proofs.Tryz.sizeOf47
abbrev mb:=@Proofs.Tryz.zeroValue47
abbrev mc:=@Proofs.Tryz.underlying279
abbrev md:=@Proofs.Tryz.underlying226
abbrev me:=@Proofs.Tryz.underlying131
abbrev mf:=@Proofs.Tryz.underlying119
abbrev mg:=@Proofs.Tryz.zeroValue279
abbrev mh:=@Proofs.Tryz.zeroValue217
abbrev mi:=@Proofs.Tryz.underlying69
abbrev mj:=@Proofs.Tryz.underlying54
end Go
namespace Go.Proofs
open Go.Proofs.Tryz
open Go.Wx
theorem Tryz.DG:En prog 4:=C func4 kQ rfl
theorem Tryz.DH:En prog 5:=C func5 kQ rfl
theorem Tryz.zE:En prog 6:=C func6 kQ rfl
theorem Tryz.CY:En prog 7:=C func7 kQ rfl
theorem Tryz.DI:En prog 8:=C func8 kQ rfl
theorem Tryz.zP:En prog 9:=C func9 kQ rfl
theorem Tryz.uI:En prog 10:=C func10 kQ rfl
theorem Tryz.uJ:En prog 11:=C func11 kQ rfl
theorem Tryz.zS:En prog 12:=C func12 kQ rfl
theorem Tryz.zT:En prog 13:=C func13 kQ rfl
theorem Tryz.zV:En prog 14:=C func14 kQ rfl
theorem Tryz.zW:En prog 15:=C func15 kQ rfl
theorem Tryz.zX:En prog 16:=C func16 kQ rfl
theorem Tryz.rN:En prog 17:=C func17 kQ rfl
theorem Tryz.zY:En prog 18:=C func18 kQ rfl
theorem Tryz.zZ:En prog 19:=C func19 kQ rfl
theorem Tryz.AA:En prog 20:=C func20 kQ rfl
theorem Tryz.rO:En prog 21:=C func21 kQ rfl
theorem Tryz.AB:En prog 22:=C func22 kQ rfl
theorem Tryz.AD:En prog 23:=C func23 kQ rfl
theorem Tryz.AE:En prog 24:=C func24 kQ rfl
theorem Tryz.uK:En prog 25:=C func25 kQ rfl
theorem Tryz.AF:En prog 26:=C func26 kQ rfl
theorem Tryz.AG:En prog 27:=C func27 kQ rfl
theorem Tryz.AH:En prog 28:=C func28 kQ rfl
theorem Tryz.rP:En prog 29:=C func29 kQ rfl
theorem Tryz.AI:En prog 30:=C func30 kQ rfl
theorem Tryz.AJ:En prog 31:=C func31 kQ rfl
theorem Tryz.AK:En prog 32:=C func32 kQ rfl
theorem Tryz.O4:En prog 35:=C func35 kQ rfl
theorem Tryz.AL:En prog 37:=C func37 kQ rfl
theorem Tryz.R0:En prog 38:=C func38 kQ rfl
theorem Tryz.AM:En prog 39:=C func39 kQ rfl
theorem Tryz.mZ:En prog 41:=C func41 kQ rfl
theorem Tryz.rQ:En prog 42:=C func42 kQ rfl
theorem Tryz.uL:En prog 43:=C func43 kQ rfl
theorem Tryz.uN:En prog 44:=C func44 kQ rfl
theorem Tryz.nA:En prog 45:=C func45 kQ rfl
theorem Tryz.rR:En prog 46:=C func46 kQ rfl
theorem Tryz.uO:En prog 47:=C func47 kQ rfl
theorem Tryz.AN:En prog 48:=C func48 kQ rfl
theorem Tryz.AO:En prog 49:=C func49 kQ rfl
theorem Tryz.Yz:En prog 50:=C func50 kQ rfl
theorem Tryz.AP:En prog 51:=C func51 kQ rfl
theorem Tryz.AQ:En prog 52:=C func52 kQ rfl
theorem Tryz.AR:En prog 53:=C func53 kQ rfl
theorem Tryz.AU:En prog 54:=C func54 kQ rfl
theorem Tryz.AV:En prog 55:=C func55 kQ rfl
theorem Tryz.AW:En prog 56:=C func56 kQ rfl
theorem Tryz.AX:En prog 57:=C func57 kQ rfl
theorem Tryz.AY:En prog 58:=C func58 kQ rfl
theorem Tryz.AZ:En prog 59:=C func59 kQ rfl
theorem Tryz.BB:En prog 60:=C func60 kQ rfl
theorem Tryz.BC:En prog 61:=C func61 kQ rfl
theorem Tryz.BD:En prog 62:=C func62 kQ rfl
theorem Tryz.BE:En prog 63:=C func63 kQ rfl
theorem Tryz.BF:En prog 64:=C func64 kQ rfl
theorem Tryz.uP:En prog 65:=C func65 kQ rfl
theorem Tryz.BG:En prog 66:=C func66 kQ rfl
theorem Tryz.BH:En prog 67:=C func67 kQ rfl
theorem Tryz.uS:En prog 68:=C func68 kQ rfl
theorem Tryz.BI:En prog 69:=C func69 kQ rfl
theorem Tryz.BJ:En prog 70:=C func70 kQ rfl
theorem Tryz.BL:En prog 71:=C func71 kQ rfl
theorem Tryz.BM:En prog 72:=C func72 kQ rfl
theorem Tryz.BN:En prog 73:=C func73 kQ rfl
theorem Tryz.BO:En prog 75:=C func75 kQ rfl
theorem Tryz.uT:En prog 76:=C func76 kQ rfl
theorem Tryz.uU:En prog 77:=C func77 kQ rfl
theorem Tryz.BP:En prog 78:=C func78 kQ rfl
theorem Tryz.BQ:En prog 79:=C func79 kQ rfl
theorem Tryz.BR:En prog 80:=C func80 kQ rfl
theorem Tryz.BS:En prog 81:=C func81 kQ rfl
theorem Tryz.uV:En prog 82:=C func82 kQ rfl
theorem Tryz.O5:En prog 83:=C func83 kQ rfl
theorem Tryz.BT:En prog 84:=C func84 kQ rfl
theorem Tryz.BU:En prog 85:=C func85 kQ rfl
theorem Tryz.uW:En prog 86:=C func86 kQ rfl
theorem Tryz.BV:En prog 87:=C func87 kQ rfl
theorem Tryz.BW:En prog 88:=C func88 kQ rfl
theorem Tryz.BY:En prog 89:=C func89 kQ rfl
theorem Tryz.BZ:En prog 90:=C func90 kQ rfl
theorem Tryz.CA:En prog 91:=C func91 kQ rfl
theorem Tryz.CB:En prog 92:=C func92 kQ rfl
theorem Tryz.uX:En prog 93:=C func93 kQ rfl
theorem Tryz.CC:En prog 94:=C func94 kQ rfl
theorem Tryz.dR:En prog 96:=C func96 kQ rfl
theorem Tryz.CD:En prog 97:=C func97 kQ rfl
theorem Tryz.CE:En prog 98:=C func98 kQ rfl
theorem Tryz.CF:En prog 99:=C func99 kQ rfl
theorem Tryz.uY:En prog 100:=C func100 kQ rfl
theorem Tryz.uZ:En prog 101:=C func101 kQ rfl
theorem Tryz.vA:En prog 107:=C func107 kQ rfl
theorem Tryz.Mt:En prog 108:=C func108 kQ rfl
theorem Tryz.vB:En prog 109:=C func109 kQ rfl
theorem Tryz.qB:En prog 111:=C func111 kQ rfl
theorem Tryz.qC:En prog 112:=C func112 kQ rfl
theorem Tryz.qD:En prog 113:=C func113 kQ rfl
theorem Tryz.vC:En prog 114:=C func114 kQ rfl
theorem Tryz.Hk:En prog 115:=C func115 kQ rfl
theorem Tryz.vD:En prog 116:=C func116 kQ rfl
theorem Tryz.vE:En prog 117:=C func117 kQ rfl
theorem Tryz.vF:En prog 118:=C func118 kQ rfl
theorem Tryz.vG:En prog 119:=C func119 kQ rfl
theorem Tryz.vH:En prog 120:=C func120 kQ rfl
theorem Tryz.vI:En prog 121:=C func121 kQ rfl
theorem Tryz.vJ:En prog 122:=C func122 kQ rfl
theorem Tryz.vK:En prog 123:=C func123 kQ rfl
theorem Tryz.vL:En prog 124:=C func124 kQ rfl
theorem Tryz.vM:En prog 125:=C func125 kQ rfl
theorem Tryz.vN:En prog 126:=C func126 kQ rfl
theorem Tryz.P8:En prog 127:=C func127 kQ rfl
theorem Tryz.bG:En prog 128:=C func128 kQ rfl
theorem Tryz.bH:En prog 129:=C func129 kQ rfl
theorem Tryz.vO:En prog 130:=C func130 kQ rfl
theorem Tryz.Mv:En prog 131:=C func131 kQ rfl
theorem Tryz.vP:En prog 132:=C func132 kQ rfl
theorem Tryz.vR:En prog 133:=C func133 kQ rfl
theorem Tryz.vS:En prog 134:=C func134 kQ rfl
theorem Tryz.vT:En prog 135:=C func135 kQ rfl
theorem Tryz.vU:En prog 136:=C func136 kQ rfl
theorem Tryz.vV:En prog 137:=C func137 kQ rfl
theorem Tryz.qE:En prog 138:=C func138 kQ rfl
theorem Tryz.qF:En prog 139:=C func139 kQ rfl
theorem Tryz.vW:En prog 140:=C func140 kQ rfl
theorem Tryz.vX:En prog 141:=C func141 kQ rfl
theorem Tryz.vY:En prog 142:=C func142 kQ rfl
theorem Tryz.qG:En prog 143:=C func143 kQ rfl
theorem Tryz.vZ:En prog 144:=C func144 kQ rfl
theorem Tryz.wA:En prog 145:=C func145 kQ rfl
theorem Tryz.wB:En prog 146:=C func146 kQ rfl
theorem Tryz.wC:En prog 147:=C func147 kQ rfl
theorem Tryz.wD:En prog 148:=C func148 kQ rfl
theorem Tryz.wF:En prog 149:=C func149 kQ rfl
theorem Tryz.wG:En prog 150:=C func150 kQ rfl
theorem Tryz.wH:En prog 151:=C func151 kQ rfl
theorem Tryz.wI:En prog 152:=C func152 kQ rfl
theorem Tryz.wJ:En prog 153:=C func153 kQ rfl
theorem Tryz.qH:En prog 154:=C func154 kQ rfl
theorem Tryz.wK:En prog 155:=C func155 kQ rfl
theorem Tryz.qI:En prog 158:=C func158 kQ rfl
theorem Tryz.wL:En prog 159:=C func159 kQ rfl
theorem Tryz.wM:En prog 160:=C func160 kQ rfl
theorem Tryz.wN:En prog 161:=C func161 kQ rfl
theorem Tryz.wO:En prog 162:=C func162 kQ rfl
theorem Tryz.wP:En prog 165:=C func165 kQ rfl
theorem Tryz.bI:En prog 166:=C func166 kQ rfl
theorem Tryz.iJ:En prog 167:=C func167 kQ rfl
theorem Tryz.qJ:En prog 168:=C func168 kQ rfl
theorem Tryz.bJ:En prog 169:=C func169 kQ rfl
theorem Tryz.wR:En prog 170:=C func170 kQ rfl
theorem Tryz.qK:En prog 171:=C func171 kQ rfl
theorem Tryz.wS:En prog 172:=C func172 kQ rfl
theorem Tryz.wU:En prog 173:=C func173 kQ rfl
theorem Tryz.wV:En prog 174:=C func174 kQ rfl
theorem Tryz.qL:En prog 175:=C func175 kQ rfl
theorem Tryz.wW:En prog 176:=C func176 kQ rfl
theorem Tryz.qM:En prog 179:=C func179 kQ rfl
theorem Tryz.wX:En prog 180:=C func180 kQ rfl
theorem Tryz.wY:En prog 181:=C func181 kQ rfl
theorem Tryz.wZ:En prog 182:=C func182 kQ rfl
theorem Tryz.xA:En prog 183:=C func183 kQ rfl
theorem Tryz.iK:En prog 185:=C func185 kQ rfl
theorem Tryz.bK:En prog 186:=C func186 kQ rfl
theorem Tryz.xB:En prog 187:=C func187 kQ rfl
theorem Tryz.qN:En prog 190:=C func190 kQ rfl
theorem Tryz.xC:En prog 191:=C func191 kQ rfl
theorem Tryz.xD:En prog 192:=C func192 kQ rfl
theorem Tryz.iL:En prog 193:=C func193 kQ rfl
theorem Tryz.iM:En prog 194:=C func194 kQ rfl
theorem Tryz.qO:En prog 195:=C func195 kQ rfl
theorem Tryz.qP:En prog 196:=C func196 kQ rfl
theorem Tryz.xE:En prog 197:=C func197 kQ rfl
theorem Tryz.iN:En prog 198:=C func198 kQ rfl
theorem Tryz.xF:En prog 199:=C func199 kQ rfl
theorem Tryz.xG:En prog 200:=C func200 kQ rfl
theorem Tryz.xH:En prog 202:=C func202 kQ rfl
theorem Tryz.xI:En prog 204:=C func204 kQ rfl
theorem Tryz.xJ:En prog 209:=C func209 kQ rfl
theorem Tryz.xK:En prog 221:=C func221 kQ rfl
theorem Tryz.xL:En prog 222:=C func222 kQ rfl
theorem Tryz.iO:En prog 224:=C func224 kQ rfl
theorem Tryz.qQ:En prog 225:=C func225 kQ rfl
theorem Tryz.xM:En prog 226:=C func226 kQ rfl
theorem Tryz.xN:En prog 228:=C func228 kQ rfl
theorem Tryz.xO:En prog 230:=C func230 kQ rfl
theorem Tryz.qR:En prog 233:=C func233 kQ rfl
theorem Tryz.xP:En prog 234:=C func234 kQ rfl
theorem Tryz.xQ:En prog 235:=C func235 kQ rfl
theorem Tryz.xR:En prog 237:=C func237 kQ rfl
theorem Tryz.xS:En prog 238:=C func238 kQ rfl
theorem Tryz.xT:En prog 239:=C func239 kQ rfl
theorem Tryz.qS:En prog 240:=C func240 kQ rfl
theorem Tryz.xU:En prog 241:=C func241 kQ rfl
theorem Tryz.qT:En prog 249:=C func249 kQ rfl
theorem Tryz.qU:En prog 251:=C func251 kQ rfl
theorem Tryz.iP:En prog 254:=C func254 kQ rfl
theorem Tryz.iQ:En prog 258:=C func258 kQ rfl
theorem Tryz.Mw:En prog 259:=C func259 kQ rfl
theorem Tryz.qV:En prog 260:=C func260 kQ rfl
theorem Tryz.qW:En prog 261:=C func261 kQ rfl
theorem Tryz.Sy:En prog 262:=C func262 kQ rfl
theorem Tryz.qX:En prog 263:=C func263 kQ rfl
theorem Tryz.xV:En prog 264:=C func264 kQ rfl
theorem Tryz.xW:En prog 271:=C func271 kQ rfl
theorem Tryz.xX:En prog 273:=C func273 kQ rfl
theorem Ll(w:World):(placesOf 28).run prog w=.ok #[(0,1),(1,1),(2,1),(3,1)] w:=by kernel_rfl
theorem Dy(w:World):(placesOf 33).run prog w=.ok #[(0,1),(1,1),(2,1),(3,1),(4,1),(5,1),(6,1),(7,1),(8,1),(9,1),(10,1),(11,1),(12,1),(13,1),(14,1),(15,1),(16,1),(17,1),(18,1)] w:=by kernel_rfl
theorem R1(w:World):(placesOf 38).run prog w=.ok #[(0,1),(1,1),(2,1),(3,1),(4,1),(5,1),(6,1)] w:=by kernel_rfl
theorem Lm(w:World):(placesOf 47).run prog w=.ok #[(0,1),(1,1),(2,1)] w:=by kernel_rfl
theorem Iu(w:World):(placesOf 49).run prog w=.ok #[(0,1),(1,1),(2,1),(3,1),(4,1),(5,1),(6,1)] w:=by kernel_rfl
theorem Ln(w:World):(placesOf 51).run prog w=.ok #[(0,1),(1,1)] w:=by kernel_rfl
theorem Lo(w:World):(placesOf 54).run prog w=.ok #[(0,1),(1,1)] w:=by kernel_rfl
theorem R3(w:World):(placesOf 56).run prog w=.ok #[(0,1),(1,1),(2,2),(4,2)] w:=by kernel_rfl
theorem R4(w:World):(placesOf 58).run prog w=.ok #[(0,1),(1,1),(2,1),(3,1),(4,1)] w:=by kernel_rfl
theorem R5(w:World):(placesOf 63).run prog w=.ok #[(0,1),(1,1),(2,1),(3,1),(4,1)] w:=by kernel_rfl
theorem Db(w:World):(placesOf 79).run prog w=.ok #[(0,1),(1,1)] w:=by kernel_rfl
theorem R6(w:World):(placesOf 91).run prog w=.ok #[(0,19),(19,1)] w:=by kernel_rfl
theorem R7(w:World):(placesOf 93).run prog w=.ok #[] w:=by kernel_rfl
theorem J5(w:World):(placesOf 124).run prog w=.ok #[(0,2)] w:=by kernel_rfl
theorem C4(w:World):(placesOf 130).run prog w=.ok #[(0,1),(1,1),(2,1),(3,1)] w:=by kernel_rfl
theorem P9(w:World):(placesOf 142).run prog w=.ok #[(0,4),(4,1),(5,1)] w:=by kernel_rfl
theorem Ei(w:World):(placesOf 150).run prog w=.ok #[(0,1),(1,1),(2,1)] w:=by kernel_rfl
theorem Ci(w:World):(placesOf 184).run prog w=.ok #[(0,1),(1,1),(2,1)] w:=by kernel_rfl
theorem E7(w:World):(placesOf 202).run prog w=.ok #[(0,1),(1,1)] w:=by kernel_rfl
theorem Gm(w:World):(placesOf 226).run prog w=.ok #[(0,1),(1,1)] w:=by kernel_rfl
end Go.Proofs
namespace Go.Proofs
open Go.Proofs.Tryz
open Go.Wx Go.ChangeShapes Go.WideShapes Go.RowKit
theorem dS{H:Type}{enc:TypeId×Value→H}{w:World}{b:Nat}{sp:Nat→Bool}{hd:Bool}(n:Nat)(cs:List Value)(x:DataW H×List MemPlace)(hl:cs.length=6)(h:DataW.trod enc prog w b sp hd n 111 cs=some x):∃f:I6,cs=f.cells.toList∧Yy f:=by
 have k_int:Tryz.prog.cellsOf 3=1:=by kernel_rfl
 match cs,hl with
 |[c0,c1,c2,c3,c4,c5],_=>
   obtain⟨xs,m,_,_,_,hlen,hg⟩:=DataW.trod_array underlying111 h
   have hs:∀i,i<6→∃y,xs[i]?=some y:=fun i hi=>⟨_,cj oQ⟩
   obtain⟨y0,z0⟩:=hs 0 cQ
   obtain⟨n0,e0,_,q0⟩:=DataW.trod_int underlying3 (show DataW.trod enc prog w b sp hd m 3 [c0]=some y0 from by rw[←z0];simpa[k_int]using hg 0 cQ)
   obtain⟨y1,z1⟩:=hs 1 cQ
   obtain⟨n1,e1,_,q1⟩:=DataW.trod_int underlying3 (show DataW.trod enc prog w b sp hd m 3 [c1]=some y1 from by rw[←z1];simpa[k_int]using hg 1 cQ)
   obtain⟨y2,z2⟩:=hs 2 cQ
   obtain⟨n2,e2,_,q2⟩:=DataW.trod_int underlying3 (show DataW.trod enc prog w b sp hd m 3 [c2]=some y2 from by rw[←z2];simpa[k_int]using hg 2 cQ)
   obtain⟨y3,z3⟩:=hs 3 cQ
   obtain⟨n3,e3,_,q3⟩:=DataW.trod_int underlying3 (show DataW.trod enc prog w b sp hd m 3 [c3]=some y3 from by rw[←z3];simpa[k_int]using hg 3 cQ)
   obtain⟨y4,z4⟩:=hs 4 cQ
   obtain⟨n4,e4,_,q4⟩:=DataW.trod_int underlying3 (show DataW.trod enc prog w b sp hd m 3 [c4]=some y4 from by rw[←z4];simpa[k_int]using hg 4 cQ)
   obtain⟨y5,z5⟩:=hs 5 cQ
   obtain⟨n5,e5,_,q5⟩:=DataW.trod_int underlying3 (show DataW.trod enc prog w b sp hd m 3 [c5]=some y5 from by rw[←z5];simpa[k_int]using hg 5 cQ)
   cases e0
   cases e1
   cases e2
   cases e3
   cases e4
   cases e5
   exact⟨⟨n0,n1,n2,n3,n4,n5⟩,rfl,⟨It q0,It q1,It q2,It q3,It q4,It q5⟩⟩
end Go.Proofs
namespace Go.Wx
open Go.RowKit
section
variable {R:Option Nat}{m:Nat}{P:Program}{n:Nat}{ds:List Deferred}{Q:Exit→Go.Act→World→Prop}{l:Env}{w:World}{ops:Array Oper}
def iR(o:Oper):Bool:=match o.op with|.move _=>o.guard.isNone|_=>false
def J6(ops:Array Oper)(k j:Nat):Bool:=match ops[j]? with
 |none=>false
 |some o=>iR o&&((o.looksAt ops).all fun t=>(List.range (k+1)).all fun i=>match ops[i]? with|none=>true|some p=> !(p.dst==some t))&&
     (match ops[k]? with|none=>false|some h=>match o.dst with|none=>false|some d=> !Lh (h.looksAt ops) d)
def Y0(ops:Array Oper)(k:Nat):Bool:=
 (List.range k).all fun j=>J6 ops k j||(List.range (k+1)).any fun i=>Nat.ble (j+1) i&&((Nat.beq i k|| !J6 ops k i)&&(match ops[i]? with|none=>false|some o=>o.after.any fun e=>Region.binds .any e&&Nat.beq e.on j))
theorem dU{k:Nat}(hC:Y0 ops k=true){listed:Array Bool}(hD:Dn ops listed){o:Oper}(ho:ops[k]?=some o)(hk:∀e∈o.after,Region.binds .any e=true→listed.getD e.on false=true):∀(c j:Nat),k-j=c→j<k→J6 ops k j=false→listed.getD j false=true:=by
 intro c
 induction c using Nat.strongRecOn with
 |_ c ih=>
   intro j hc hj hl
   have h0:=cn.1 hC j (b_.2 hj)
   rw[hl,fy]at h0
   obtain⟨i,hi,hh⟩:=gp.1 h0
   simp only[bm,fp]at hh
   have hji:j<i:=a_ hh.1
   have hik:i<k+1:=b_.1 hi
   cases hio:ops[i]? with
   |none=>simp[hio]at hh
   |some q=>
     have h2:=hh.2.2
     simp only[hio]at h2
     obtain⟨e,he,hb⟩:=fe.1 h2
     simp only[bm]at hb
     have hon:=ca hb.2
     by_cases hek:i=k
     · subst hek
       rw[ho]at hio
       cases hio
       rw[←hon];exact hk _ (dz he) hb.1
     have hli:J6 ops k i=false:=by
       rcases hh.2.1 with h3|h3
       · exact absurd (ca h3) hek
       simpa using h3
     have:=ih (k-i) oQ i rfl oQ hli
     rw[←hon];exact hD i q hio this _ (dz he) hb.1
theorem Y1{k j:Nat}(h:J6 ops k j=true):∃o x,ops[j]?=some o∧o.op=.move x∧o.guard=none∧(∀t∈o.looksAt ops,∀(i:Nat)(p:Oper),i<k+1→ops[i]?=some p→p.dst≠some t)∧∀(hh:Oper)(d:Nat),ops[k]?=some hh→o.dst=some d→d∉hh.looksAt ops:=by
 unfold J6 at h
 cases ho:ops[j]? with
 |none=>simp[ho]at h
 |some o=>
   simp only[ho,bm]at h
   obtain⟨⟨h1,h2⟩,h3⟩:=h
   unfold iR at h1
   split at h1
   · rename_i x hx
     refine⟨o,x,rfl,hx,by simpa using h1,fun t ht i p hi hp hd=>?_,fun hh d hk hd hm=>?_⟩
     · have:=cn.1 (cn.1 h2 t ht) i (b_.2 hi)
       simp[hp,hd]at this
     simp only[hk,hd]at h3
     rw[H3.2 hm]at h3
     cases h3
   cases h1
def Eo:Env→Env
 |[]=>[]
 |(_,.pred _)::l=>Eo l
 |(i,.eq v)::l=>(i,.eq v)::Eo l
 |(i,.cond b v)::l=>(i,.cond b v)::Eo l
def plainPh:Ph→Prop
 |.pred _=>False
 |_=>True
theorem plainPh.holds{ph:Ph}(h:plainPh ph){v:Value}{w w':World}(k:ph.holds v w):ph.holds v w':=by
 cases ph with
 |eq=>exact k
 |cond=>exact k
 |pred=>exact h.elim
theorem V0{k:Nat}{E:Nat→Env}(hE0:E 0=[])(hE:∀(i:Nat)(o:Oper),i<k→ops[i]?=some o→∃ph d,o.dst=some d∧E (i+1)=(d,ph)::E i)(hks:k≤ops.size):
   ∀c i ph,c≤k→lk (Eo (E c)) i=some ph→∃j o,j<c∧ops[j]?=some o∧o.dst=some i∧E (j+1)=(i,ph)::E j∧plainPh ph:=by
 intro c
 induction c with
 |zero=>intro i ph _ h;rw[hE0]at h;cases h
 |succ c ih=>
   intro i ph hk h
   have hko:ops[c]?=some ops[c]:=by simp[show c<ops.size by omega]
   obtain⟨q,d,hd,he⟩:=hE c _ oQ hko
   rw[he]at h
   have go:lk (Eo (E c)) i=some ph→∃j o,j<c+1∧ops[j]?=some o∧o.dst=some i∧E (j+1)=(i,ph)::E j∧plainPh ph:=fun h=>by
     obtain⟨j,o,h1,h2⟩:=ih i ph oQ h
     exact⟨j,o,by omega,h2⟩
   cases q with
   |pred p=>exact go h
   |eq v=>
     by_cases e:i=d
     · subst e
       have h':lk ((i,Ph.eq v)::Eo (E c)) i=some ph:=h
       rw[A9]at h'
       cases h'
       exact⟨c,_,by omega,hko,hd,he,trivial⟩
     have h':lk ((d,Ph.eq v)::Eo (E c)) i=some ph:=h
     rw[Be e]at h'
     exact go h'
   |cond b v=>
     by_cases e:i=d
     · subst e
       have h':lk ((i,Ph.cond b v)::Eo (E c)) i=some ph:=h
       rw[A9]at h'
       cases h'
       exact⟨c,_,by omega,hko,hd,he,trivial⟩
     have h':lk ((d,Ph.cond b v)::Eo (E c)) i=some ph:=h
     rw[Be e]at h'
     exact go h'
theorem Mx{listed:Array Bool}{i fuel:Nat}(hlt:i<listed.size)(hbi:listed.getD i false=false)(hc:listed.toList.countP (· ==false)≤fuel+1):(listed.setIfInBounds i true).toList.countP (· ==false)≤fuel:=by
 have hbi':listed[i]=false:=by
   rw[ar]at hbi
   simp only[hlt,b6,c6]at hbi
   exact hbi
 rw[gk,jq (by simpa using hlt)]
 have hpos:0<listed.toList.countP (· ==false):=jc.2 ⟨listed[i],by simp,by simp[hbi']⟩
 have e1:(listed.toList[i]'(by simpa using hlt)==false)=true:=by simp[hbi']
 rw[ap e1,am (by simp)]
 omega
theorem Un{listed:Array Bool}{i:Nat}{o:Oper}(hlt:i<listed.size)(hio:ops[i]?=some o)(hed:∀e∈o.after,Region.binds .any e=true→listed.getD e.on false=true)(hD:Dn ops listed):Dn ops (listed.setIfInBounds i true):=by
 intro j p hp hl e he hb
 rw[Dh hlt]at hl⊢
 by_cases e1:e.on=i
 · rw[ap e1]
 rw[am e1]
 by_cases e2:j=i
 · subst e2
   rw[hio]at hp;cases hp
   exact hed e he hb
 rw[am e2]at hl
 exact hD j p hp hl e he hb
theorem Qa{listed:Array Bool}{s fuel:Nat}(hs:listed.size=ops.size)(hc:listed.toList.countP (· ==false)≤fuel)(hno:∀j,s≤j→j<ops.size→listed.getD j false=false):ops.size-s≤fuel:=by
 have h1:(listed.toList.drop s).countP (· ==false)=ops.size-s:=by
   rw[List.countP_eq_length.2]
   · simp[hs]
   intro b hb
   obtain⟨j,hj,he⟩:=er.1 hb
   rw[List.getElem_drop]at he
   have hj':s+j<listed.size:=by simp at hj;omega
   have:=hno (s+j) oQ oQ
   rw[ar]at this
   simp only[hj',b6,c6]at this
   rw[←he]
   simpa using this
 have h2:(listed.toList.drop s).countP (· ==false)≤listed.toList.countP (· ==false):=(jl s _).countP_le
 omega
theorem L3(hA:D6 ops=true){k:Nat}(hks:k≤ops.size){listed:Array Bool}(hs:listed.size=ops.size):∀c,c<k→listed.getD c false=false→∃i,i∈Region.ready .any ops listed:=by
 intro c
 induction c using Nat.strongRecOn with
 |_ c ihc=>
   intro hck hcf
   have hco:ops[c]?=some ops[c]:=by simp[show c<ops.size by omega]
   by_cases hr:∀e∈(ops[c]).after,Region.binds .any e=true→listed.getD e.on false=true
   · exact⟨c,(Fk hs).2 ⟨_,hco,hcf,hr⟩⟩
   simp only[gj]at hr
   obtain⟨e,he,hb,hf⟩:=hr
   have hlt:=Du hA hco e he hb
   exact ihc e.on hlt oQ (by simpa using hf)
theorem Y2{k:Nat}{wp w:World}{w0:World}{base:Env}{dh:Nat}{vh:Value}(hu:Up w0 wp)(hok:Is n ops (k+1)=true)(hT:G3 ops (k+1)=true)(hA:D6 ops=true)(hC:Ft ops (k+1)=true)(hkk:k<ops.size)(E:Nat→Env)(hE0:E 0=[])
   (hE:∀(i:Nat)(o:Oper),i<k→ops[i]?=some o→∃ph d,o.dst=some d∧phUp ph∧tZ P n ds ops w0 (Bn (o.looksAt ops) (E i)++base) o ph∧E (i+1)=(d,ph)::E i)
   (hbp:Ck base=true)(hbase:∀i ph,lk base i=some ph→∀(j:Nat)(o:Oper),j<k+1→ops[j]?=some o→o.dst≠some i)
   (hdh:∀o,ops[k]?=some o→o.dst=some dh)
   (hQ:∀a,Ag n ds ((dh,.eq vh)::(Eo (E k)++base)) a w→wpListIn (FR R) m P ops Q (ops.toList.drop (k+1)) a w):
   ∀(fuel:Nat)(listed:Array Bool)(a:Go.Act),listed.size=ops.size→listed.toList.countP (· ==false)≤fuel→(∀j,k+1≤j→j<ops.size→listed.getD j false=false)→listed.getD k false=true→(∀j,j<k→listed.getD j false=false→J6 ops k j=true)→Dn ops listed→Ag n ds base a w→a.tmps.getD dh undef=vh→
     (∀(j:Nat)(o:Oper)(d:Nat)(ph:Ph),j<k→ops[j]?=some o→o.dst=some d→E (j+1)=(d,ph)::E j→plainPh ph→listed.getD j false=true→ph.holds (a.tmps.getD d undef) w)→
     wpAnyIn (FR R) m P .any ops Q fuel listed a w:=by
 have hE':∀(i:Nat)(o:Oper),i<k→ops[i]?=some o→∃ph d,o.dst=some d∧E (i+1)=(d,ph)::E i:=fun i o hi ho=>let⟨ph,d,h1,_,_,h2⟩:=hE i o hi ho;⟨ph,d,h1,h2⟩
 have hDP:=V0 hE0 hE' oQ
 have hfull:∀(fuel:Nat)(listed:Array Bool)(a:Go.Act),listed.size=ops.size→listed.toList.countP (· ==false)≤fuel→(∀j,k+1≤j→j<ops.size→listed.getD j false=false)→listed.getD k false=true→(∀j,j<k→listed.getD j false=true)→Ag n ds base a w→a.tmps.getD dh undef=vh→
     (∀(j:Nat)(o:Oper)(d:Nat)(ph:Ph),j<k→ops[j]?=some o→o.dst=some d→E (j+1)=(d,ph)::E j→plainPh ph→listed.getD j false=true→ph.holds (a.tmps.getD d undef) w)→
     wpAnyIn (FR R) m P .any ops Q fuel listed a w:=by
   intro fuel listed a hs hc hno hk hall ha hv hI
   refine Fs hT hA (ops.size-(k+1)) (k+1) fuel listed a w rfl oQ (a8 _) (Qa hs hc hno) ⟨hs,fun j hj=>?_⟩ (hQ a ⟨ha.defers,ha.size,fun i ph hi=>?_⟩)
   · by_cases h:j<k+1
     · rw[be h]
       by_cases e:j=k
       · rw[e];exact hk
       exact hall j oQ
     rw[hno j oQ hj,bn h]
   by_cases e:i=dh
   · subst e
     rw[A9]at hi
     cases hi
     exact hv
   rw[Be e]at hi
   rcases Dd hi with h|h
   · obtain⟨j,o,hj,ho,hd,he,hp⟩:=hDP _ _ _ (a8 _) h
     exact hI j o i ph hj ho hd he hp (hall j hj)
   exact ha.val i ph h
 have hEl:∀c i ph,c≤k→lk (E c) i=some ph→∃j o,j<c∧ops[j]?=some o∧o.dst=some i:=by
   intro c
   induction c with
   |zero=>intro i ph _ h;rw[hE0]at h;cases h
   |succ c ih=>
     intro i ph hk h
     have hko:ops[c]?=some ops[c]:=by simp[show c<ops.size by omega]
     obtain⟨q,d,hd,he⟩:=hE' c _ oQ hko
     rw[he]at h
     by_cases e:i=d
     · subst e;exact⟨c,_,by omega,hko,hd⟩
     rw[Be e]at h
     obtain⟨j,o,h1,h2⟩:=ih i ph oQ h
     exact⟨j,o,by omega,h2⟩
 intro fuel
 induction fuel with
 |zero=>
   intro listed a hs hc hno hk hlate hD ha hv hI
   refine hfull 0 listed a hs hc hno hk (fun i hi=>?_) ha hv hI
   have h0:listed.toList.countP (· ==false)=0:=by omega
   rw[f4]at h0
   have hlt:i<listed.size:=by omega
   have:=h0 listed[i] (by simp)
   rw[ar]
   simp only[hlt,b6,c6]
   simpa using this
 |succ fuel ih=>
   intro listed a hs hc hno hk hlate hD ha hv hI
   by_cases hall:∀j,j<k→listed.getD j false=true
   · exact hfull _ listed a hs hc hno hk hall ha hv hI
   refine⟨fun hr=>?_,fun i hi=>?_⟩
   · exfalso
     simp only[gj]at hall
     obtain⟨j,hj,hf⟩:=hall
     obtain⟨i,hi⟩:=L3 hA (k:=k) oQ hs j hj (by simpa using hf)
     rw[hr]at hi
     cases hi
   obtain⟨o,hio,hbi,hed⟩:=(Fk hs).1 hi
   have hi':i<ops.size:=(bx.1 hio).1
   have hlt:i<listed.size:=by omega
   have hik:i<k:=by
     rcases im i k with h|h|h
     · exact h
     · subst h;rw[hk]at hbi;cases hbi
     exfalso
     by_cases e:i=k+1
     · subst e
       exact hall fun j hj=>Mq hC hD hio hed (k+1-j) j rfl oQ
     obtain⟨e',he,hb,hon⟩:=K3 hT hio (show k+1<i by omega)
     have h1:=hed e' he hb
     rw[hon,hno (i-1) oQ (by omega)]at h1
     cases h1
   obtain⟨o',x,ho',hop,hg,hfree,_⟩:=Y1 (hlate i hik hbi)
   rw[hio]at ho'
   cases ho'
   obtain⟨hd0,hpair⟩:=Nv hok (show i<k+1 by omega) hio
   obtain⟨ph,d,hd,hup,hopr,hEi⟩:=hE i o hik hio
   have hdn:d<n:=by obtain⟨d',h1,h2⟩:=hd0;rw[hd]at h1;cases h1;exact h2
   have hag:Ag n ds (Bn (o.looksAt ops) (E i)++base) a wp:=by
     refine⟨ha.defers,ha.size,fun t q ht=>?_⟩
     rcases Dd ht with h|h
     · obtain⟨h1,h2⟩:=Es h
       obtain⟨j,p,hj,hp,hpd⟩:=hEl _ _ _ oQ h2
       exact absurd hpd (hfree t h1 j p oQ hp)
     exact Fi hbp h (ha.val t q h)
   have hne:d≠dh:=by
     intro e
     have hko:ops[k]?=some ops[k]:=by simp[hkk]
     exact(hpair k _ oQ hko).1 oQ (by rw[hd,hdh _ hko,e])
   have hrun:∀ww,(execOp a.eval o).run P ww=.ok (.value (a.eval x)) ww:=fun ww=>by
     simp only[execOp,hop];rfl
   have h2:=hopr a wp hu hag
   have hw:Region.wanted o (yielded ops a.tmps)=true:=by simp[Region.wanted,hg]
   rw[ap hw]at h2
   have hval:ph.holds (a.eval x) wp:=by
     rcases h2 with⟨v,w',h3,h4,h5⟩|⟨f,args,w1,h3,_⟩
     · rw[hrun]at h3;cases h3;exact h5
     rw[hrun]at h3;cases h3
   unfold wpOpIn
   rw[hio]
   dsimp only
   rw[ap hw]
   refine Gf (hrun w) (ih _ _ (by simpa using hs) (Mx hlt hbi hc) ?_ ?_ ?_ (Un hlt hio hed hD) ?_ ?_ ?_)
   · intro j hj hjs
     rw[Dh hlt,am (by omega)]
     exact hno j hj hjs
   · rw[Dh hlt];split<;>first|rfl|exact hk
   · intro j hj hl
     rw[Dh hlt]at hl
     split at hl
     · cases hl
     exact hlate j hj hl
   · refine⟨by rw[hd];exact ha.defers,by rw[hd];simp[Go.Act.put,ha.size],fun t q ht=>?_⟩
     have hne':t≠d:=fun e=>hbase t q ht i o oQ hio (by rw[hd,e])
     rw[hd,Da hne']
     exact ha.val t q ht
   · rw[hd,Da (fun e=>hne e.symm)];exact hv
   intro j p d' q hjk hp hpd hEj hpl hl
   by_cases e:j=i
   · subst e
     rw[hio]at hp
     cases hp
     rw[hd]at hpd
     cases hpd
     rw[hEi]at hEj
     cases hEj
     rw[hd,Ew (by rw[ha.size];exact hdn)]
     exact hpl.holds hval
   have hne':d'≠d:=fun ee=>(hpair j p oQ hp).1 (fun ee=>e ee.symm) (by rw[hd,hpd,ee])
   rw[hd,Da hne']
   rw[Dh hlt,am e]at hl
   exact hI j p d' q hjk hp hpd hEj hpl hl
theorem V1{k:Nat}{w0:World}{base:Env}{dh:Nat}{oh:Oper}{PostH:Value→World→Prop}(hok:Is n ops (k+1)=true)(hT:G3 ops (k+1)=true)(hA:D6 ops=true)(hC:Ft ops (k+1)=true)(hL:Y0 ops k=true)(hkk:k<ops.size)(E:Nat→Env)(hE0:E 0=[])
   (hE:∀(i:Nat)(o:Oper),i<k→ops[i]?=some o→∃ph d,o.dst=some d∧phUp ph∧tZ P n ds ops w0 (Bn (o.looksAt ops) (E i)++base) o ph∧E (i+1)=(d,ph)::E i)
   (hbp:Ck base=true)(hbase:∀i ph,lk base i=some ph→∀(j:Nat)(o:Oper),j<k+1→ops[j]?=some o→o.dst≠some i)
   (hoh:ops[k]?=some oh)(hdh:oh.dst=some dh)(hgh:oh.guard=none)
   (hH:∀a w,Up w0 w→Ag n ds (Bn (oh.looksAt ops) (E k)++base) a w→gV P oh a w PostH)
   (hQ:∀v w a,PostH v w→Ag n ds ((dh,.eq v)::(Eo (E k)++base)) a w→wpListIn (FR R) m P ops Q (ops.toList.drop (k+1)) a w):
   ∀(fuel:Nat)(listed:Array Bool)(a:Go.Act)(w:World),listed.size=ops.size→listed.toList.countP (· ==false)≤fuel→(∀j,k≤j→j<ops.size→listed.getD j false=false)→Dn ops listed→Up w0 w→Ag n ds base a w→
     (∀(j:Nat)(o:Oper)(d:Nat)(ph:Ph),j<k→ops[j]?=some o→o.dst=some d→E (j+1)=(d,ph)::E j→listed.getD j false=true→ph.holds (a.tmps.getD d undef) w)→
     wpAnyIn (FR R) m P .any ops Q fuel listed a w:=by
 have hEl:∀c i ph,c≤k→lk (E c) i=some ph→∃j o,j<c∧ops[j]?=some o∧o.dst=some i∧E (j+1)=(i,ph)::E j:=by
   intro c
   induction c with
   |zero=>intro i ph _ h;rw[hE0]at h;cases h
   |succ c ih=>
     intro i ph hk h
     have hko:ops[c]?=some ops[c]:=by simp[show c<ops.size by omega]
     obtain⟨q,d,hd,_,_,he⟩:=hE c _ oQ hko
     rw[he]at h
     by_cases e:i=d
     · subst e
       rw[A9]at h
       cases h
       exact⟨c,_,by omega,hko,hd,he⟩
     rw[Be e]at h
     obtain⟨j,o,h1,h2⟩:=ih i ph oQ h
     exact⟨j,o,by omega,h2⟩
 intro fuel
 induction fuel with
 |zero=>
   intro listed a w hs hc hno hD hu ha hI
   exfalso
   have h0:listed.toList.countP (· ==false)=0:=by omega
   rw[f4]at h0
   have hlt:k<listed.size:=by omega
   have:=h0 listed[k] (by simp)
   have h1:=hno k (a8 _) hkk
   rw[ar]at h1
   simp only[hlt,b6,c6]at h1
   rw[h1]at this
   simp at this
 |succ fuel ih=>
   intro listed a w hs hc hno hD hu ha hI
   refine⟨fun hr=>?_,fun i hi=>?_⟩
   · exfalso
     obtain⟨i,hi⟩:=L3 hA (k:=k+1) oQ hs k oQ (hno k (a8 _) hkk)
     rw[hr]at hi
     cases hi
   obtain⟨o,hio,hbi,hed⟩:=(Fk hs).1 hi
   have hi':i<ops.size:=(bx.1 hio).1
   have hlt:i<listed.size:=by omega
   have hik:i≤k:=by
     rcases dy k i with h|h
     · exfalso
       by_cases e:i=k+1
       · subst e
         have:=Mq hC hD hio hed 1 k oQ oQ
         rw[hno k (a8 _) hkk]at this
         cases this
       obtain⟨e',he,hb,hon⟩:=K3 hT hio (show k+1<i by omega)
       have h1:=hed e' he hb
       rw[hon,hno (i-1) oQ (by omega)]at h1
       cases h1
     exact h
   obtain⟨hd0,hpair⟩:=Nv hok (show i<k+1 by omega) hio
   by_cases hkI:i=k
   · subst hkI
     rw[hoh]at hio
     cases hio
     have hdn:dh<n:=by obtain⟨d',h1,h2⟩:=hd0;rw[hdh]at h1;cases h1;exact h2
     have hag:Ag n ds (Bn (oh.looksAt ops) (E i)++base) a w:=by
       refine⟨ha.defers,ha.size,fun t q ht=>?_⟩
       rcases Dd ht with h|h
       · obtain⟨h1,h2⟩:=Es h
         obtain⟨j,p,hj,hp,hpd,hEj⟩:=hEl _ _ _ (a8 _) h2
         obtain⟨e,he,hbe,hon'⟩:=(hpair j p oQ hp).2 t hpd h1
         have:=hed e he hbe
         exact hI j p t q hj hp hpd hEj (by rw[←hon'];exact this)
       exact ha.val t q h
     unfold wpOpIn
     rw[hoh]
     dsimp only
     have hw:Region.wanted oh (yielded ops a.tmps)=true:=by simp[Region.wanted,hgh]
     rw[ap hw]
     refine J0 (hH a w hu hag) fun v w' hv=>(Y2 hu hok hT hA hC hkk E hE0 hE hbp hbase (fun o' ho'=>by rw[hoh]at ho';cases ho';exact hdh) (fun a' ha'=>hQ v w' a' hv ha') fuel _ _ (by simpa using hs) (Mx hlt hbi hc) ?_ ?_ ?_ (Un hlt hoh hed hD) ?_ ?_ ?_)
     · intro j hj hjs
       rw[Dh hlt,am (by omega)]
       exact hno j oQ hjs
     · rw[Dh hlt,ap rfl]
     · intro j hj hl
       rw[Dh hlt,am (by omega)]at hl
       cases hla:J6 ops i j with
       |true=>rfl
       |false=>
         have:=dU hL hD hoh hed (i-j) j rfl hj hla
         rw[this]at hl;cases hl
     · refine⟨by rw[hdh];exact ha.defers,by rw[hdh];simp[Go.Act.put,ha.size],fun t q ht=>?_⟩
       have hne':t≠dh:=fun e=>hbase t q ht i _ oQ hoh (by rw[hdh,e])
       rw[hdh,Da hne']
       exact Fi hbp ht (ha.val t q ht)
     · rw[hdh,Ew (by rw[ha.size];exact hdn)]
     intro j p d' q hjk hp hpd hEj hpl hl
     have hne':d'≠dh:=fun ee=>(hpair j p oQ hp).1 oQ (by rw[hdh,hpd,ee])
     rw[hdh,Da hne']
     rw[Dh hlt,am (by omega)]at hl
     exact hpl.holds (hI j p d' q hjk hp hpd hEj hl)
   have hik:i<k:=by omega
   obtain⟨ph,d,hd,hup,hop,hEi⟩:=hE i o hik hio
   have hdn:d<n:=by obtain⟨d',h1,h2⟩:=hd0;rw[hd]at h1;cases h1;exact h2
   have hag:Ag n ds (Bn (o.looksAt ops) (E i)++base) a w:=by
     refine⟨ha.defers,ha.size,fun t q ht=>?_⟩
     rcases Dd ht with h|h
     · obtain⟨h1,h2⟩:=Es h
       obtain⟨j,p,hj,hp,hpd,hEj⟩:=hEl _ _ _ oQ h2
       obtain⟨e,he,hbe,hon'⟩:=(hpair j p oQ hp).2 t hpd h1
       have:=hed e he hbe
       exact hI j p t q oQ hp hpd hEj (by rw[←hon'];exact this)
     exact ha.val t q h
   have step:∀v w',Up w w'→ph.holds v w'→wpAnyIn (FR R) m P .any ops Q fuel (listed.setIfInBounds i true) (a.put o.dst v) w':=by
     intro v w' hu' hv
     refine ih _ _ _ (by simpa using hs) (Mx hlt hbi hc) ?_ (Un hlt hio hed hD) (hu.trans hu') ?_ ?_
     · intro j hj hjs
       rw[Dh hlt,am (by omega)]
       exact hno j hj hjs
     · refine⟨by rw[hd];exact ha.defers,by rw[hd];simp[Go.Act.put,ha.size],fun t q ht=>?_⟩
       have hne:t≠d:=fun e=>hbase t q ht i o oQ hio (by rw[hd,e])
       rw[hd,Da hne]
       exact Fi hbp ht (ha.val t q ht)
     intro j p d' q hjk hp hpd hEj hl
     by_cases e:j=i
     · subst e
       rw[hio]at hp
       cases hp
       rw[hd]at hpd
       cases hpd
       rw[hEi]at hEj
       cases hEj
       rw[hd,Ew (by rw[ha.size];exact hdn)]
       exact hv
     have hne:d'≠d:=fun ee=>(hpair j p oQ hp).1 (fun ee=>e ee.symm) (by rw[hd,hpd,ee])
     rw[hd,Da hne]
     obtain⟨q',d'',hd'',hup',_,hEj'⟩:=hE j p hjk hp
     rw[hEj]at hEj'
     cases hEj'
     rw[Dh hlt,am e]at hl
     exact hup' _ _ _ (hI j p d' q hjk hp hpd hEj hl) hu'
   have h2:=hop a w hu hag
   unfold wpOpIn
   rw[hio]
   dsimp only
   by_cases hw:Region.wanted o (yielded ops a.tmps)=true
   · rw[ap hw]at h2⊢
     exact J0 h2 fun v w'⟨h3,h4⟩=>step v w' h3 h4
   rw[am hw]at h2⊢
   exact⟨fun _ _=>trivial,step _ _ (Up.refl w) h2⟩
theorem H6{id:Nat}{opsL:List Oper}(k:Nat){oh:Oper}{dh:Nat}(PostH:Value→World→Prop)(hm:P.follows .mixedOrders=true)(hok:Is n opsL.toArray (k+1)=true)(hT:G3 opsL.toArray (k+1)=true)(hA:D6 opsL.toArray=true)(hC:Ft opsL.toArray (k+1)=true)(hL:Y0 opsL.toArray k=true)
   (hl:Ck l=true){base:Env}(hb:Dj (P2 (opsL.take (k+1))) l=base)(hoh:opsL[k]?=some oh)(hdh:oh.dst=some dh)(hgh:oh.guard=none)
   (h:HW P n ds opsL.toArray base w [] (opsL.take k) (fun env=>(∀a w',Up w w'→Ag n ds (Bn (oh.looksAt opsL.toArray) env++base) a w'→gV P oh a w' PostH)∧∀v w',PostH v w'→LW R m P n ds opsL.toArray Q (opsL.drop (k+1)) ((dh,.eq v)::(Eo env++base)) w')):CW R m P n ds (.region id opsL.toArray true) Q l w:=by
 intro a ha
 obtain⟨E,hE0,hK,hE⟩:=Uj _ _ h
 subst hb
 have hks:k+1≤opsL.length:=by
   unfold Is at hok
   rw[bm]at hok
   simpa using a_ hok.1
 have hlen:(opsL.take k).length=k:=by rw[cb];omega
 rw[hlen]at hK
 have hbp:Ck (Dj (P2 (opsL.take (k+1))) l)=true:=by
   have:∀(ks:List Nat)(l:Env),Ck l=true→Ck (Dj ks l)=true:=by
     intro ks l
     induction l with
     |nil=>intro _;rfl
     |cons p l ih=>
       obtain⟨i,ph⟩:=p
       cases ph with
       |pred q=>intro h;simp[Ck]at h
       |eq v=>intro h;unfold Dj;cases Lh ks i<;>simp[Ck]at h⊢ <;>exact ih h
       |cond b v=>intro h;unfold Dj;cases Lh ks i<;>simp[Ck]at h⊢ <;>exact ih h
   exact this _ _ hl
 refine wpIn_region_any hm (V1 (w0:=w) (base:=Dj (P2 (opsL.take (k+1))) l) (oh:=oh) hok hT hA hC hL (by rw[io];omega) E hE0 (fun i o hik ho=>hE i o (by rw[di hik];simpa using ho)) hbp ?_ (by simpa using hoh) hdh hgh hK.1 ?_ _ _ _ _ (by simp) ?_ ?_ ?_ (Up.drew w) ?_ ?_)
 · intro i ph hi j o hj ho hd
   obtain⟨h1,h2⟩:=C2 hi
   exact h1 (P3 (by have:=ae (l:=opsL.take (k+1)) (i:=j) (by rw[di hj];simpa using ho);exact this) hd)
 · intro v w' a' hv ha'
   exact hK.2 v w' hv a' ha'
 · have:(Array.replicate opsL.toArray.size false).toList.countP (· ==false)≤(Array.replicate opsL.toArray.size false).toList.length:=g7
   simpa using this
 · intro j _ _
   rw[ar,dx]
   split<;>rfl
 · intro i o _ hli
   rw[ar,dx]at hli
   split at hli<;>simp at hli
 · exact⟨ha.defers,ha.size,fun i ph hi=>Fi hl (C2 hi).2 (ha.val _ _ (C2 hi).2)⟩
 intro j o d ph _ ho hd _ hlj
 rw[ar,dx]at hlj
 split at hlj<;>simp at hlj
theorem REv.y{o:Oper}{a:Go.Act}{Post:Value→World→Prop}(h:REv P n ds l w o Post)(ha:Ag n ds l a w):gV P o a w Post:=.inl (h a ha)
theorem xY{o:Oper}{rest:List Oper}{Post:Value→World→Prop}(h:REv P n ds l w o Post)(hg:o.guard=none)(hd:o.dst=none)(hl:Ck l=true)
   (k:∀v w',Post v w'→LW R m P n ds ops Q rest l w'):LW R m P n ds ops Q (o::rest) l w:=fun a ha=>
 let⟨v,w',hr,hp⟩:=h a ha
 wpListIn_plain hg fun K hK=>Gf hr (hK _ _ (k v w' hp _ (by rw[hd];exact ha.world hl w')))
end
section
variable (R:Option Nat)(m:Nat)(P:Program)(n:Nat)(ds:List Deferred)
def DJ(ops:Array Oper)(Q:Exit→Go.Act→World→Prop)(s:Nat)(l:Env)(w:World):Prop:=∀(fuel:Nat)(listed:Array Bool)(a:Go.Act),ops.size-s≤fuel→rM ops s listed→Ag n ds l a w→wpAnyIn (FR R) m P .any ops Q fuel listed a w
end
def I3(ops:Array Oper)(k:Nat):Bool:=
 (List.range ops.size).all fun i=> !Nat.ble (k+1) i||(match ops[i]? with|none=>false|some o=>o.after.any fun e=>Region.binds .any e&&Nat.ble k e.on)
theorem J7:∀{l:Env}{i:Nat}{ph:Ph},lk l i=some ph→(i,ph)∈l
 |[],_,_,h=>by cases h
 |(j,q)::l,i,ph,h=>by
   by_cases e:i=j
   · subst e;rw[A9]at h;cases h;exact bl
   rw[Be e]at h;exact bu _ (J7 h)
section
variable {R:Option Nat}{m:Nat}{P:Program}{n:Nat}{ds:List Deferred}{Q:Exit→Go.Act→World→Prop}{l:Env}{w:World}{ops:Array Oper}
theorem iS{k:Nat}(h:I3 ops k=true){i:Nat}{o:Oper}(ho:ops[i]?=some o)(hk:k<i):∃e∈o.after,Region.binds .any e=true∧k≤e.on:=by
 have hi:i<ops.size:=(bx.1 ho).1
 have h1:=cn.1 h i (b_.2 hi)
 have hb:Nat.ble (k+1) i=true:=g5 hk
 simp only[ho,hb,ie,fy]at h1
 obtain⟨e,he,hh⟩:=fe.1 h1
 simp only[bm]at hh
 exact⟨_,dz he,hh.1,a_ hh.2⟩
theorem Fu{id:Nat}{opsL:List Oper}(hm:P.follows .mixedOrders=true)(hl:Ck l=true)(h:DJ R m P n ds opsL.toArray Q 0 l w.drew):CW R m P n ds (.region id opsL.toArray true) Q l w:=fun a ha=>
 wpIn_region_any hm (h _ _ a (by simp) ⟨by simp,fun j hj=>by
   rw[ar,dx]
   split<;>rfl⟩ (ha.world hl _))
def allL(p:Nat→Oper→Prop):Nat→List Oper→Prop
 |_,[]=>True
 |i,o::r=>p i o∧allL p (i+1) r
theorem allL.nil{p:Nat→Oper→Prop}{i:Nat}:allL p i []:=trivial
theorem allL.cons{p:Nat→Oper→Prop}{i:Nat}{o:Oper}{r:List Oper}(h:p i o)(k:allL p (i+1) r):allL p i (o::r):=⟨h,k⟩
abbrev aC:=@allL.cons
theorem allL.at{p:Nat→Oper→Prop}:∀{r:List Oper}{i j:Nat}{o:Oper},allL p i r→r[j]?=some o→p (i+j) o
 |[],_,_,_,_,h=>by cases h
 |x::r,i,0,o,hp,h=>by
   rw[List.getElem?_cons_zero]at h
   cases h;exact hp.1
 |x::r,i,j+1,o,hp,h=>by
   rw[d9]at h
   have:=allL.at hp.2 h
   rwa [show i+1+j=i+(j+1)by omega]at this
def J8(base:Env)(r:List Oper):Bool:=r.all fun o=>match o.dst with|none=>true|some d=>(lk base d).isNone
theorem G4{base:Env}{r:List Oper}(h:J8 base r=true){i:Nat}{ph:Ph}(hi:lk base i=some ph){o:Oper}(ho:o∈r):o.dst≠some i:=by
 intro e
 have:=cn.1 h o ho
 simp[e,hi]at this
end
end Go.Wx
namespace Go.Wx
open Go.RowKit Go.MapKept
structure Cel(w w':World):Prop where
 size:w.heap.size≤w'.heap.size
 cell:∀ad v,w.cell? ad=some v→w'.cell? ad=some v
 blk:∀(b:Nat)(cs:Array Value)(T:TypeId)(x:Nat×Nat),w.heap[b]?=some (Obj.cells cs T x)→w'.heap[b]?=some (Obj.cells cs T x)
section
variable (R:Option Nat)(m:Nat)(P:Program)(n:Nat)(ds:List Deferred)
def CZ(o:Oper)(a:Go.Act)(w:World)(Post:Value→World→Prop):Prop:=gV P o a w Post∨(∃w',(execOp a.eval o).run P w=.ok .skip w'∧Post undef w')
def TG(ops:Array Oper)(env:Env)(f:Nat→Value)(w:World)(o:Oper)(Post:Value→World→Prop):Prop:=∀a,Ag n ds env a w→(∀t,a.tmps.getD t undef=f t)→if Region.wanted o (yielded ops a.tmps)=true then CZ P o a w Post else Post undef w
def AWF(ops:Array Oper)(Q:Exit→Go.Act→World→Prop)(s:Nat)(l:Env)(f:Nat→Value)(w:World):Prop:=∀(fuel:Nat)(listed:Array Bool)(a:Go.Act),ops.size-s≤fuel→rM ops s listed→Ag n ds l a w→(∀t,a.tmps.getD t undef=f t)→wpAnyIn (FR R) m P .any ops Q fuel listed a w
end
def G5(n:Nat)(ops:Array Oper)(s k:Nat):Bool:=(List.range k).all fun i=> !Nat.ble s i||(match ops[i]? with
 |none=>false
 |some o=>match o.dst with
   |none=>true
   |some d=>Nat.ble (d+1) n&&(List.range k).all fun j=> !Nat.ble s j||(Nat.beq i j||(match ops[j]? with|none=>true|some p=> !(p.dst==some d))))
def L4(ops:Array Oper)(ph:Nat→Ph)(s:Nat)(o:Oper):Env:=o.after.toList.filterMap fun e=>if(Region.binds .any e&&Nat.ble s e.on)=true then((ops[e.on]?).bind (·.dst)).map fun d=>(d,ph e.on)else none
def Hn(ops:Array Oper)(ph:Nat→Ph)(s k:Nat):Env:=(List.range k).filterMap fun j=>if Nat.ble s j=true then((ops[j]?).bind (·.dst)).map fun d=>(d,ph j)else none
def CG(ops:Array Oper)(L:Nat→Bool):Prop:=∀(i:Nat)(o:Oper),ops[i]?=some o→L i=true→∀e∈o.after,Region.binds .any e=true→L e.on=true
def C6(L:Nat→Bool)(i:Nat):Nat→Bool:=fun j=>if j=i then true else L j
def E3(f:Nat→Value)(d:Option Nat)(v:Value):Nat→Value:=fun t=>if d=some t then v else f t
section
variable {R:Option Nat}{m:Nat}{P:Program}{n:Nat}{ds:List Deferred}{Q:Exit→Go.Act→World→Prop}{l:Env}{w:World}{ops:Array Oper}
theorem De{s k:Nat}(h:G5 n ops s k=true){i:Nat}{o:Oper}{d:Nat}(hs:s≤i)(hk:i<k)(ho:ops[i]?=some o)(hd:o.dst=some d):d<n∧∀(j:Nat)(p:Oper),s≤j→j<k→j≠i→ops[j]?=some p→p.dst≠some d:=by
 have h1:=cn.1 h i (b_.2 hk)
 have hb:Nat.ble s i=true:=g5 hs
 simp only[hb,ie,fy,ho,hd]at h1
 simp only[bm]at h1
 refine⟨a_ h1.1,fun j p hj hjk hne hp=>?_⟩
 have h2:=cn.1 h1.2 j (b_.2 hjk)
 have hb':Nat.ble s j=true:=g5 hj
 have hb2:Nat.beq i j=false:=by
   cases e:Nat.beq i j with
   |false=>rfl
   |true=>exact absurd (ca e).symm hne
 simp only[hb',ie,fy,hb2,hp]at h2
 intro e
 rw[e]at h2
 simp at h2
theorem Y3{ph:Nat→Ph}{s:Nat}{o:Oper}{t:Nat}{q:Ph}(h:lk (L4 ops ph s o) t=some q):∃e∈o.after,Region.binds .any e=true∧s≤e.on∧∃p,ops[e.on]?=some p∧p.dst=some t∧q=ph e.on:=by
 have h1:=J7 h
 unfold L4 at h1
 rw[fi]at h1
 obtain⟨e,he,h2⟩:=h1
 split at h2
 · rename_i hc
   simp only[bm]at hc
   cases hp:ops[e.on]? with
   |none=>rw[hp]at h2;cases h2
   |some p=>
     rw[hp]at h2
     cases hd:p.dst with
     |none=>simp[hd]at h2
     |some d=>
       simp[hd]at h2
       obtain⟨rfl,rfl⟩:=h2
       exact⟨e,by simpa using he,hc.1,a_ hc.2,p,hp,hd,rfl⟩
 cases h2
theorem F1{ph:Nat→Ph}{s k:Nat}{t:Nat}{q:Ph}(h:lk (Hn ops ph s k) t=some q):∃j p,s≤j∧j<k∧ops[j]?=some p∧p.dst=some t∧q=ph j:=by
 have h1:=J7 h
 unfold Hn at h1
 rw[fi]at h1
 obtain⟨j,hj,h2⟩:=h1
 split at h2
 · rename_i hc
   cases hp:ops[j]? with
   |none=>rw[hp]at h2;cases h2
   |some p=>
     rw[hp]at h2
     cases hd:p.dst with
     |none=>simp[hd]at h2
     |some d=>
       simp[hd]at h2
       obtain⟨rfl,rfl⟩:=h2
       exact⟨j,p,a_ hc,b_.1 hj,hp,hd,rfl⟩
 cases h2
theorem iT{o:Oper}{a:Go.Act}{Post:Value→World→Prop}{K:Go.Act→World→Prop}{w:World}(h:CZ P o a w Post)(hk:∀v w',Post v w'→K (a.put o.dst v) w'):o.wpIn (FR R) m P a w K Q:=by
 rcases h with h|⟨w',hr,hp⟩
 · exact J0 h hk
 exact On hr (hk _ w' hp)
theorem Jg{s k:Nat}{base:Env}(ph:Nat→Ph)(Rel:World→World→Prop)(Inv:(Nat→Bool)→(Nat→Value)→World→Prop){f0:Nat→Value}
   (hrefl:∀w,Rel w w)(htr:∀w w1 w2,Rel w w1→Rel w1 w2→Rel w w2)(hph:∀i v w w',(ph i).holds v w→Rel w w'→(ph i).holds v w')
   (hA:D6 ops=true)(hC:(Nat.beq k ops.size||Ft ops k)=true)(hF:I3 ops k=true)(hks:Nat.ble k ops.size=true)(hsk:Nat.ble s k=true)
   (hD:G5 n ops s k=true)(hbp:Ck base=true)(hbd:∀i ph,lk base i=some ph→∀(j:Nat)(o:Oper),s≤j→j<k→ops[j]?=some o→o.dst≠some i)
   (hop:∀i o,s≤i→i<k→ops[i]?=some o→∀L f W,Rel w W→CG ops L→L i=false→(∀e∈o.after,Region.binds .any e=true→L e.on=true)→Inv L f W→
     TG P n ds ops (L4 ops ph s o++base) f W o (fun v W'=>Rel W W'∧(∀d,o.dst=some d→(ph i).holds v W')∧Inv (C6 L i) (E3 f o.dst v) W'))
   (hw:Inv (fun j=>decide (j<s)) f0 w)(hend:∀f W,Rel w W→Inv (fun j=>decide (j<k)) f W→AWF R m P n ds ops Q k (Hn ops ph s k++base) f W):AWF R m P n ds ops Q s base f0 w:=by
 have hks:k≤ops.size:=a_ hks
 have hsk:s≤k:=a_ hsk
 suffices H:∀(fuel:Nat)(listed:Array Bool)(a:Go.Act)(f:Nat→Value)(W:World),listed.size=ops.size→listed.toList.countP (· ==false)≤fuel→(∀j,j<s→listed.getD j false=true)→(∀j,k≤j→j<ops.size→listed.getD j false=false)→Dn ops listed→Ag n ds base a W→(∀t,a.tmps.getD t undef=f t)→Rel w W→
     (∀(j:Nat)(o:Oper)(d:Nat),s≤j→j<k→ops[j]?=some o→o.dst=some d→listed.getD j false=true→(ph j).holds (f d) W)→Inv (fun j=>listed.getD j false) f W→wpAnyIn (FR R) m P .any ops Q fuel listed a W by
   intro fuel listed a hf hu ha hsl
   have hno:∀j,s≤j→j<ops.size→listed.getD j false=false:=fun j h1 h2=>by rw[hu.2 j h2];simpa using h1
   have hyes:∀j,j<s→listed.getD j false=true:=fun j h1=>by rw[hu.2 j (by omega)];simpa using h1
   refine H fuel listed a f0 w hu.1 ?_ hyes (fun j h1 h2=>hno j oQ h2) ?_ ha hsl (hrefl w) ?_ ?_
   · have e:listed.toList=listed.toList.take s++listed.toList.drop s:=(dl s _).symm
     rw[e,List.countP_append]
     have z1:(listed.toList.take s).countP (· ==false)=0:=by
       rw[f4]
       intro b hb
       obtain⟨j,hj,he⟩:=er.1 hb
       rw[List.getElem_take]at he
       have hj':j<s:=by simp at hj;omega
       have hj2:j<listed.size:=by simp at hj;omega
       have:=hyes j hj'
       rw[ar]at this
       simp only[hj2,b6,c6]at this
       rw[←he]
       simp[this]
     have z2:(listed.toList.drop s).countP (· ==false)≤(listed.toList.drop s).length:=g7
     have z3:(listed.toList.drop s).length=ops.size-s:=by simp[hu.1]
     omega
   · intro i o ho hli e he hb
     have hi:i<ops.size:=(bx.1 ho).1
     have his:i<s:=by
       rcases dy i s with h|h
       · exact h
       rw[hno i h hi]at hli;cases hli
     exact hyes _ (by have:=Du hA ho e he hb;omega)
   · intro j o d hj hjk ho _ hlj
     rw[hno j hj (by omega)]at hlj
     cases hlj
   have e:(fun j=>listed.getD j false)=fun j=>decide (j<s):=by
     funext j
     rcases dy j ops.size with h|h
     · exact hu.2 j h
     have:=hu.1
     rw[ar,Array.getElem?_eq_none oQ,bn (by omega)]
     rfl
   rw[e]
   exact hw
 have last:∀(fuel:Nat)(listed:Array Bool)(a:Go.Act)(f:Nat→Value)(W:World),listed.size=ops.size→listed.toList.countP (· ==false)≤fuel→(∀j,k≤j→j<ops.size→listed.getD j false=false)→Ag n ds base a W→(∀t,a.tmps.getD t undef=f t)→Rel w W→
     (∀(j:Nat)(o:Oper)(d:Nat),s≤j→j<k→ops[j]?=some o→o.dst=some d→listed.getD j false=true→(ph j).holds (f d) W)→Inv (fun j=>listed.getD j false) f W→(∀j,j<k→listed.getD j false=true)→wpAnyIn (FR R) m P .any ops Q fuel listed a W:=by
   intro fuel listed a f W hs hc hno ha hsl hR hI hSt hall
   have e:(fun j=>listed.getD j false)=fun j=>decide (j<k):=by
     funext j
     rcases dy j k with h|h
     · rw[hall j h,be h]
     rcases dy j ops.size with h'|h'
     · rw[hno j h h',bn (by omega)]
     rw[ar,Array.getElem?_eq_none oQ,bn (by omega)]
     rfl
   rw[e]at hSt
   refine hend f W hR hSt fuel listed a (Qa hs hc hno) ⟨hs,fun j hj=>congrFun e j⟩ ⟨ha.defers,ha.size,fun t q ht=>?_⟩ hsl
   rcases Dd ht with h|h
   · obtain⟨j,p,hj,hjk,hp,hd,rfl⟩:=F1 h
     rw[hsl]
     exact hI j p t hj hjk hp hd (hall j hjk)
   exact ha.val t q h
 intro fuel
 induction fuel with
 |zero=>
   intro listed a f W hs hc hyes hno hDn ha hsl hR hI hSt
   refine last 0 listed a f W hs hc hno ha hsl hR hI hSt (fun j hj=>?_)
   have h0:listed.toList.countP (· ==false)=0:=by omega
   rw[f4]at h0
   have hlt:j<listed.size:=by omega
   have:=h0 listed[j] (by simp)
   rw[ar]
   simp only[hlt,b6,c6]
   simpa using this
 |succ fuel ih=>
   intro listed a f W hs hc hyes hno hDn ha hsl hR hI hSt
   by_cases hall:∀j,j<k→listed.getD j false=true
   · exact last (fuel+1) listed a f W hs hc hno ha hsl hR hI hSt hall
   simp only[gj]at hall
   obtain⟨c,hck,hcf⟩:=hall
   have hcf:listed.getD c false=false:=by simpa using hcf
   refine⟨fun hr=>?_,fun i hi=>?_⟩
   · exfalso
     obtain⟨i,hi⟩:=L3 hA (k:=k) oQ hs c hck hcf
     rw[hr]at hi
     cases hi
   obtain⟨o,hio,hbi,hed⟩:=(Fk hs).1 hi
   have hi':i<ops.size:=(bx.1 hio).1
   have hlt:i<listed.size:=by omega
   have hsi:s≤i:=by
     rcases dy i s with h|h
     · rw[hyes i h]at hbi;cases hbi
     exact h
   have hik:i<k:=by
     rcases dy i k with h|h
     · exact h
     exfalso
     by_cases e:i=k
     · subst e
       rcases jd.1 hC with hC|hC
       · have:=ca hC;omega
       have:=Mq hC hDn hio hed (i-c) c rfl hck
       rw[hcf]at this;cases this
     obtain⟨e',he,hb,hon⟩:=iS hF hio oQ
     have h1:=hed e' he hb
     have h2:=Du hA hio e' he hb
     rw[hno e'.on hon (by omega)]at h1
     cases h1
   have hag:Ag n ds (L4 ops ph s o++base) a W:=by
     refine⟨ha.defers,ha.size,fun t q ht=>?_⟩
     rcases Dd ht with h|h
     · obtain⟨e,he,hb,hse,p,hp,hpd,rfl⟩:=Y3 h
       rw[hsl]
       exact hI e.on p t hse (by have:=Du hA hio e he hb;omega) hp hpd (hed e he hb)
     exact ha.val t q h
   have eL:(fun j=>(listed.setIfInBounds i true).getD j false)=C6 (fun j=>listed.getD j false) i:=by
     funext j
     rw[Dh hlt]
     rfl
   have key:∀(v:Value)(W':World),Rel W W'∧(∀d,o.dst=some d→(ph i).holds v W')∧Inv (C6 (fun j=>listed.getD j false) i) (E3 f o.dst v) W'→wpAnyIn (FR R) m P .any ops Q fuel (listed.setIfInBounds i true) (a.put o.dst v) W':=by
     rintro v W' ⟨hRel,hv,hSt'⟩
     refine ih _ _ (E3 f o.dst v) W' (by simpa using hs) (Mx hlt hbi hc) ?_ ?_ (Un hlt hio hed hDn) ?_ ?_ (htr _ _ _ hR hRel) ?_ (by rw[eL];exact hSt')
     · intro j hj
       rw[Dh hlt]
       split
       · rfl
       exact hyes j hj
     · intro j hj hjs
       rw[Dh hlt,am (by omega)]
       exact hno j hj hjs
     · cases hd:o.dst with
       |none=>exact ha.world hbp W'
       |some d=>
         refine⟨ha.defers,by simp[Go.Act.put,ha.size],fun t q ht=>?_⟩
         have hne':t≠d:=fun e=>hbd t q ht i o hsi hik hio (by rw[hd,e])
         rw[Da hne']
         exact Fi hbp ht (ha.val t q ht)
     · intro t
       cases hd:o.dst with
       |none=>exact hsl t
       |some d=>
         by_cases e:t=d
         · subst e
           rw[Ew (by rw[ha.size];exact(De hD hsi hik hio hd).1)]
           simp[E3]
         rw[Da e,hsl]
         simp[E3,Ne.symm e]
     intro j p d' hj hjk hp hpd hl
     by_cases e:j=i
     · subst e
       rw[hio]at hp;cases hp
       rw[hpd]
       simp only[E3,if_true]
       exact hv d' hpd
     rw[Dh hlt,am e]at hl
     have hne':o.dst≠some d':=fun ee=>(De hD hsi hik hio ee).2 j p hj hjk e hp hpd
     simp only[E3,am hne']
     exact hph j _ _ _ (hI j p d' hj hjk hp hpd hl) hRel
   have top:=hop i o hsi hik hio _ f W hR (fun i o ho hli e he hb=>hDn i o ho hli e he hb) hbi hed hSt
   have top:=top a hag hsl
   unfold wpOpIn
   rw[hio]
   dsimp only
   split
   · rename_i hw'
     rw[ap hw']at top
     exact iT top key
   rename_i hw'
   rw[am hw']at top
   exact⟨fun _ _=>trivial,key _ W top⟩
theorem Cel.refl(w:World):Cel w w:=⟨a8 _,fun _ _ h=>h,fun _ _ _ _ h=>h⟩
theorem Cel.trans{w w1 w2:World}(h:Cel w w1)(k:Cel w1 w2):Cel w w2:=⟨br h.size k.size,fun ad v hv=>k.cell ad v (h.cell ad v hv),fun b cs T x hb=>k.blk b cs T x (h.blk b cs T x hb)⟩
theorem Up.G0{w w':World}(u:Up w w'):Cel w w':=⟨u.size,fun _ _ h=>Pc h u,fun _ _ _ _ h=>(u.block (lt_of_block h)).trans h⟩
theorem Sto.G0{w w':World}{b:Nat}(u:Sto b w w')(hz:w.heap.size≤w'.heap.size)(hb:∀ad v,ad.block=b→w.cell? ad≠some v)(hk:∀(cs:Array Value)(T:TypeId)(x:Nat×Nat),w.heap[b]?≠some (Obj.cells cs T x)):Cel w w':=⟨hz,fun ad v h=>iF h u (fun e=>hb ad v e h),fun i cs T x h=>(u.block i (lt_of_block h) (fun e=>hk cs T x (e▸h))).trans h⟩
theorem IMap.rS{w:World}{b:Nat}{kv:List (Int×Value)}(h:IMap w b kv):∀ad v,ad.block=b→w.cell? ad≠some v:=by
 intro ad v e hc
 obtain⟨es,clock,h1,_⟩:=h
 unfold World.cell? at hc
 rw[e,h1]at hc
 cases hc
theorem IMap.xZ{w:World}{b:Nat}{kv:List (Int×Value)}(h:IMap w b kv):∀(cs:Array Value)(T:TypeId)(x:Nat×Nat),w.heap[b]?≠some (Obj.cells cs T x):=by
 intro cs T x hc
 obtain⟨es,clock,h1,_⟩:=h
 rw[h1]at hc
 cases hc
theorem AggAt.G0{w w':World}{B o:Nat}{cs:Array Value}(h:AggAt w B o cs)(k:Cel w w'):AggAt w' B o cs:=fun j v hv=>k.cell _ _ (h j v hv)
theorem Els.G0{α:Type}{w w':World}{ad:Option Addr}{k:Nat}{enc:α→Array Value}{xs:List α}(h:Els w ad k enc xs)(u:Cel w w'):Els w' ad k enc xs:=fun i x hx=>let⟨B,o,h1,h2⟩:=h i x hx;⟨B,o,h1,h2.G0 u⟩
theorem Sl.G0{α:Type}{w w':World}{v:Value}{k:Nat}{enc:α→Array Value}{xs:List α}(h:Sl w v k enc xs)(u:Cel w w'):Sl w' v k enc xs:=let⟨ad,c,h1,h2⟩:=h;⟨ad,c,h1,Els.G0 h2 u⟩
theorem SEv.insert{ty:TypeId}{ps:String}{af:Array Edge}{g:Option (Nat×Bool)}{T K E:TypeId}{mo x y:Operand}{b:Nat}{k:Int}{v:Value}{kv:List (Int×Value)}(hT:P.underlying T=some (.map K E))(hK:P.underlying K=some (.int .i64))(hm:Val l mo (.map (some b)))(hx:Val l x (vi k))(hy:Val l y v)(h:IMap w b kv):
   SEv P n ds l w ⟨none,.insert T mo x y,ty,ps,af,g⟩ (fun w'=>IMap w' b (J4 kv k v)∧Sto b w w'∧w'.heap.size=w.heap.size):=fun a ha=>
 SEv.mapUpdate (ty:=ty) (ps:=ps) (af:=af) (g:=g) hT hK hm hx hy h a ha
def yA(m0 ms:Nat)(J:List (Nat×Int×Nat))(w0:World)(L:Nat→Bool)(f:Nat→Value)(W:World):Prop:=
 Up w0 W∧(L m0=true→∃b kv,f ms=.map (some b)∧w0.heap.size≤b∧IMap W b kv∧kv.Perm ((J.filter fun j=>L j.1).map fun j=>(j.2.1,f j.2.2)))
def My(ops:Array Oper)(m0:Nat)(J:List (Nat×Int×Nat)):Bool:=
 J.all fun j=>match ops[j.1]? with
   |none=>false
   |some o=>o.dst.isNone&&(o.after.any fun e=>Region.binds .any e&&Nat.beq e.on m0)&&(o.after.any fun e=>Region.binds .any e&&(match ops[e.on]? with|none=>false|some p=>p.dst==some j.2.2))
theorem Gn{m0:Nat}{J:List (Nat×Int×Nat)}(h:My ops m0 J=true){j:Nat×Int×Nat}(hj:j∈J):∃o,ops[j.1]?=some o∧o.dst=none∧(∃e∈o.after,Region.binds .any e=true∧e.on=m0)∧∃e∈o.after,Region.binds .any e=true∧∃p,ops[e.on]?=some p∧p.dst=some j.2.2:=by
 have h1:=cn.1 h j hj
 cases ho:ops[j.1]? with
 |none=>simp[ho]at h1
 |some o=>
   simp only[ho,bm]at h1
   obtain⟨⟨h2,h3⟩,h4⟩:=h1
   obtain⟨e,he,hh⟩:=fe.1 h3
   simp only[bm]at hh
   obtain⟨e',he',hh'⟩:=fe.1 h4
   simp only[bm]at hh'
   refine⟨o,rfl,by simpa using h2,⟨_,dz he,hh.1,ca hh.2⟩,⟨_,dz he',hh'.1,?_⟩⟩
   have h5:=hh'.2
   split at h5
   · cases h5
   rename_i p hp
   exact⟨p,hp,by simpa using h5⟩
theorem Qb{J:List (Nat×Int×Nat)}{L:Nat→Bool}{i:Nat}(hn:i∉J.map (·.1)):(J.filter fun j=>C6 L i j.1)=J.filter fun j=>L j.1:=by
 apply List.filter_congr
 intro j hj
 have:j.1≠i:=fun e=>hn (e▸bj.2 ⟨j,hj,rfl⟩)
 simp[C6,this]
theorem Qc:∀{J:List (Nat×Int×Nat)}{L:Nat→Bool}{i:Nat}{k:Int}{s:Nat},(J.map (·.1)).Nodup→(i,k,s)∈J→L i=false→(J.filter fun j=>C6 L i j.1).Perm ((i,k,s)::J.filter fun j=>L j.1)
 |[],_,_,_,_,_,h,_=>by cases h
 |x::r,L,i,k,s,hn,h,hL=>by
   obtain⟨h1,h2⟩:=fo.1 (by simpa using hn:(x.1::r.map (·.1)).Nodup)
   rcases bg.1 h with rfl|h
   · rw[dk,dk,ap (by simp[C6]),am (by simp[hL]),Qb h1]
   have hne:x.1≠i:=fun e=>h1 (e▸bj.2 ⟨_,h,rfl⟩)
   have e:C6 L i x.1=L x.1:=by simp[C6,hne]
   have ih:=Qc h2 h hL
   rw[dk,dk,e]
   split
   · exact(List.Perm.cons _ ih).trans (List.Perm.swap _ _ _)
   exact ih
theorem V2{kv:List (Int×Value)}{k:Int}{v:Value}(h:k∉kv.map (·.1)):J4 kv k v=kv++[(k,v)]:=by rw[J4,am h]
theorem nB{J:List (Nat×Int×Nat)}(hn:(J.map (·.2.1)).Nodup){x y:Nat×Int×Nat}(hx:x∈J)(hy:y∈J)(h:x.2.1=y.2.1):x=y:=by
 obtain⟨i,hi,rfl⟩:=er.1 hx
 obtain⟨j,hj,rfl⟩:=er.1 hy
 have:=(jn (i:=i) (j:=j) (h₀:=by simpa using hi) (h₁:=by simpa using hj) hn).1 (by simpa using h)
 subst this;rfl
theorem AWF.Y4{k m0 ms T K E:Nat}{base:Env}{J:List (Nat×Int×Nat)}(ph:Nat→Ph){f0:Nat→Value}(hT:P.underlying T=some (.map K E))(hK:P.underlying K=some (.int .i64))
   (hph:∀i v w w',(ph i).holds v w→Cel w w'→(ph i).holds v w')(hA:D6 ops=true)(hC:(Nat.beq k ops.size||Ft ops k)=true)(hF:I3 ops k=true)(hks:Nat.ble k ops.size=true)
   (hD:G5 n ops 0 k=true)(hbp:Ck base=true)(hbd:∀i ph,lk base i=some ph→∀(j:Nat)(o:Oper),0≤j→j<k→ops[j]?=some o→o.dst≠some i)
   (hlit:My ops m0 J=true)(hJi:(J.map (·.1)).Nodup)(hJk:(J.map (·.2.1)).Nodup)(hJl:∀j∈J,j.1<k)(hm0k:m0<k)
   (hm0:∃ty ps,ops[m0]?=some ⟨some ms,.makeMap T none,ty,ps,#[],none⟩)
   (hins:∀j∈J,∃ty ps af,ops[j.1]?=some ⟨none,.insert T (.tmp ms) (.const (vi j.2.1)) (.tmp j.2.2),ty,ps,af,none⟩)
   (hmp:∀b W,(ph m0).holds (.map (some b)) W)
   (hop:∀i o,i<k→i≠m0→i∉J.map (·.1)→ops[i]?=some o→o.guard=none∧∀W,Cel w W→∀a,Ag n ds (L4 ops ph 0 o++base) a W→gV P o a W (fun v W'=>Up W W'∧(ph i).holds v W'))
   (hend:∀f W b kv,Up w W→f ms=.map (some b)→IMap W b kv→kv.Perm (J.map fun j=>(j.2.1,f j.2.2))→AWF R m P n ds ops Q k (Hn ops ph 0 k++base) f W):AWF R m P n ds ops Q 0 base f0 w:=by
 refine Jg ph Cel (yA m0 ms J w) Cel.refl (fun _ _ _=>Cel.trans) hph hA hC hF hks (by simp) hD hbp hbd ?_ ⟨Up.refl w,fun h=>by simp at h⟩ ?_
 · intro i o _ hik hio L f W hRel hDn hLi hed hInv
   obtain⟨hUp,hInv⟩:=hInv
   by_cases e0:i=m0
   · subst e0
     obtain⟨ty,ps,hm0⟩:=hm0
     rw[hio]at hm0;cases hm0
     intro a ha hsl
     rw[ap (by simp[Region.wanted])]
     obtain⟨v,W',hr,b,rfl,hM,hu,hb,hz⟩:=REv.makeMap (P:=P) (n:=n) (ds:=ds) (l:=L4 ops ph 0 _++base) (w:=W) (d:=some ms) (ty:=ty) (ps:=ps) (af:=#[]) (g:=none) a ha
     refine .inl (.inl ⟨_,W',hr,hu.G0,fun _ _=>hmp b W',hUp.trans hu,fun _=>⟨b,[],?_,?_,hM,?_⟩⟩)
     · simp[E3]
     · have:=hUp.size;omega
     have:(J.filter fun j=>C6 L i j.1)=[]:=by
       rw[f_]
       intro j hj
       obtain⟨oj,hoj,_,⟨e,he,hbe,hon⟩,_⟩:=Gn hlit hj
       intro hLj
       have hne:j.1≠i:=fun e'=>by
         have:=Du hA hoj e he hbe
         omega
       have:L j.1=true:=by simpa[C6,hne]using hLj
       have:=hDn _ _ hoj this e he hbe
       rw[hon,hLi]at this;cases this
     rw[this];exact List.Perm.nil
   by_cases ej:i∈J.map (·.1)
   · obtain⟨⟨i',key,s⟩,hj,rfl⟩:=bj.1 ej
     obtain⟨ty,ps,af,ho⟩:=hins _ hj
     rw[hio]at ho;cases ho
     intro a ha hsl
     rw[ap (by simp[Region.wanted])]
     obtain⟨oj,hoj,_,⟨e,he,hbe,hon⟩,⟨e',he',hbe',p,hp,hpd⟩⟩:=Gn hlit hj
     rw[hio]at hoj;cases hoj
     obtain⟨b,kv,h1,hb,hM,hperm⟩:=hInv (by rw[←hon];exact hed e he hbe)
     have hag:Ag n ds [(s,.eq (f s)),(ms,.eq (.map (some b)))] a W:=by
       refine⟨ha.defers,ha.size,fun t q ht=>?_⟩
       by_cases e1:t=s
       · subst e1;rw[A9]at ht;cases ht;exact hsl _
       rw[Be e1]at ht
       by_cases e2:t=ms
       · subst e2;rw[A9]at ht;cases ht;exact(hsl _).trans h1
       rw[Be e2]at ht;cases ht
     have vm:Val [(s,.eq (f s)),(ms,.eq (.map (some b)))] (.tmp ms) (.map (some b)):=by
       by_cases e1:ms=s
       · subst e1;exact .tmp (by rw[A9,h1])
       exact .tmp (by rw[Be e1,A9])
     obtain⟨W',hr,hM',hsto,hz⟩:=SEv.insert (P:=P) (n:=n) (ds:=ds) (w:=W) (ty:=ty) (ps:=ps) (af:=af) (g:=none) hT hK vm (.const (vi key)) (.tmp A9) hM a hag
     have hnk:key∉kv.map (·.1):=by
       intro hmem
       have:=(hperm.map (·.1)).mem_iff.1 hmem
       rw[fq]at this
       obtain⟨j',hj',hk'⟩:=bj.1 this
       obtain⟨hj1,hj2⟩:=d_.1 hj'
       have:j'=(i',key,s):=nB hJk hj1 hj hk'
       rw[this,hLi]at hj2
       cases hj2
     rw[V2 hnk]at hM'
     refine .inr ⟨W',hr,hsto.G0 oQ hM.rS hM.xZ,(fun d hd=>by cases hd),hUp.sto hsto hb,fun _=>⟨b,_,h1,hb,hM',?_⟩⟩
     have:=((Qc hJi hj hLi).map fun j=>(j.2.1,f j.2.2))
     refine List.Perm.trans ?_ this.symm
     rw[co]
     exact(List.perm_append_comm).trans (List.Perm.cons _ hperm)
   obtain⟨hg,hop⟩:=hop i o hik e0 ej hio
   intro a ha hsl
   rw[ap (by simp[Region.wanted,hg])]
   have done:∀v W',Up W W'∧(ph i).holds v W'→Cel W W'∧(∀d,o.dst=some d→(ph i).holds v W')∧yA m0 ms J w (C6 L i) (E3 f o.dst v) W':=by
     rintro v W' ⟨hu,hv⟩
     refine⟨hu.G0,fun _ _=>hv,hUp.trans hu,fun hm=>?_⟩
     have hm':L m0=true:=by simpa[C6,Ne.symm e0]using hm
     obtain⟨b,kv,h1,hb,hM,hperm⟩:=hInv hm'
     refine⟨b,kv,?_,hb,hM.up hu,?_⟩
     · obtain⟨ty,ps,hm0⟩:=hm0
       have:o.dst≠some ms:=by
         intro ed
         exact(De hD (au _) hik hio ed).2 m0 _ (au _) hm0k (Ne.symm e0) hm0 rfl
       simpa[E3,this]using h1
     rw[Qb ej]
     have:((J.filter fun j=>L j.1).map fun j=>(j.2.1,E3 f o.dst v j.2.2))=(J.filter fun j=>L j.1).map fun j=>(j.2.1,f j.2.2):=by
       refine ff fun j hj=>?_
       obtain⟨hj1,hj2⟩:=d_.1 hj
       obtain⟨oj,hoj,_,_,⟨e',he',hbe',p,hp,hpd⟩⟩:=Gn hlit hj1
       have hne:o.dst≠some j.2.2:=by
         intro ed
         have h2:=hDn _ _ hoj hj2 e' he' hbe'
         have h3:=Du hA hoj e' he' hbe'
         by_cases ee:e'.on=i
         · rw[ee,hLi]at h2;cases h2
         exact(De hD (au _) hik hio ed).2 e'.on p (au _) (by have:=hJl j hj1;omega) ee hp hpd
       simp[E3,hne]
     rw[this]
     exact hperm
   rcases hop W hRel a ha with⟨v,W',hr,hp⟩|⟨fn,args,w1,hr,hc⟩
   · exact .inl (.inl ⟨v,W',hr,done v W' hp⟩)
   exact .inl (.inr ⟨fn,args,w1,hr,hc.mono done⟩)
 intro f W hRel hInv
 obtain⟨hUp,hInv⟩:=hInv
 obtain⟨b,kv,h1,_,h2,h3⟩:=hInv (by simpa using hm0k)
 refine hend f W b kv hUp h1 h2 ?_
 rwa [jb.2 (fun j hj=>by simpa using hJl j hj)]at h3
def PhC(q:Ph):Prop:=∀v w w',q.holds v w→Cel w w'→q.holds v w'
theorem PhC.eq(v:Value):PhC (.eq v):=fun _ _ _ h _=>h
theorem PhC.pred{p:Value→World→Prop}(h:∀v w w',p v w→Cel w w'→p v w'):PhC (.pred p):=h
def allC:List Ph→Prop
 |[]=>True
 |q::r=>PhC q∧allC r
theorem allC.at:∀{l:List Ph},allC l→∀i,PhC (l.getD i (.eq undef))
 |[],_,_=>by simpa using PhC.eq undef
 |_::_,h,0=>by simpa using h.1
 |_::_,h,i+1=>by simpa using allC.at h.2 i
theorem Gp:∀{l r:Env}{t:Nat},lk l t=none→lk (l++r) t=lk r t
 |[],_,_,_=>rfl
 |(j,q)::l,r,t,h=>by
   by_cases e:t=j
   · subst e;rw[A9]at h;cases h
   rw[Be e]at h
   rw[dp,Be e]
   exact Gp h
theorem K4:∀{l r:Env}{t:Nat}{q:Ph},lk l t=some q→lk (l++r) t=some q
 |[],_,_,_,h=>by cases h
 |(j,q')::l,r,t,q,h=>by
   by_cases e:t=j
   · subst e;rw[A9]at h;cases h;rw[dp,A9]
   rw[Be e]at h
   rw[dp,Be e]
   exact K4 h
theorem Hw:∀{l:Env}{t:Nat}{q:Ph},(t,q)∈l→∃q',lk l t=some q'
 |[],_,_,h=>by cases h
 |(j,q')::l,t,q,h=>by
   by_cases e:t=j
   · subst e;exact⟨q',A9⟩
   rw[Be e]
   rcases bg.1 h with h|h
   · cases h;exact absurd rfl e
   exact Hw h
def TU(P:Program)(n:Nat)(ds:List Deferred)(env:Env)(W:World)(o:Oper)(q:Ph):Prop:=∀a,Ag n ds env a W→gV P o a W (fun v W'=>Up W W'∧q.holds v W')
theorem TU.p{env:Env}{o:Oper}{v:Value}{q:Ph}(h:PEv P n ds env w o v)(hx:q.holds v w):TU P n ds env w o q:=fun a ha=>.inl ⟨v,w,h a w ha (Up.refl w),Up.refl w,hx⟩
theorem TU.r{env:Env}{o:Oper}{q:Ph}{Post:Value→World→Prop}(h:REv P n ds env w o Post)(hx:∀v W',Post v W'→Up w W'∧q.holds v W'):TU P n ds env w o q:=fun a ha=>
 let⟨v,W',hr,hp⟩:=h a ha
 .inl ⟨v,W',hr,hx v W' hp⟩
theorem TU.c{env:Env}{o:Oper}{q:Ph}{f:FuncId}{args:Array Value}{Post:Value→World→Prop}(he:∀a,Ag n ds env a w→(execOp a.eval o).run P w=.ok (.enter f args) w)(hc:Ret P f args w Post)(hx:∀v W',Post v W'→Up w W'∧q.holds v W'):TU P n ds env w o q:=fun a ha=>
 .inr ⟨f,args,w,he a ha,hc.mono hx⟩
theorem TU.open{env:Env}{o:Oper}{q:Ph}{d:Nat}{p:Value→World→Prop}(hp:lk env d=some (.pred p))(h:∀v,p v w→TU P n ds ((d,.eq v)::env) w o q):TU P n ds env w o q:=fun a ha=>
 h _ (ha.val d _ hp) a ⟨ha.defers,ha.size,fun i ph hi=>by
   by_cases e:i=d
   · subst e
     rw[A9]at hi
     cases hi
     rfl
   rw[Be e]at hi
   exact ha.val i ph hi⟩
theorem dV{id:Nat}{opsL:List Oper}(k m0 ms:Nat)(J:List (Nat×Int×Nat))(phs:List Ph){T K E:Nat}(hT:P.underlying T=some (.map K E))(hK:P.underlying K=some (.int .i64))(hm:P.follows .mixedOrders=true)(hl:Ck l=true)
   (hA:D6 opsL.toArray=true)(hC:(Nat.beq k opsL.toArray.size||Ft opsL.toArray k)=true)(hF:I3 opsL.toArray k=true)(hks:Nat.ble k opsL.toArray.size=true)(hD:G5 n opsL.toArray 0 k=true)(hlit:My opsL.toArray m0 J=true)(hTl:G3 opsL.toArray k=true)
   (hfree:J8 l (opsL.take k)=true)(hJ:(decide (J.map (·.1)).Nodup&&(decide (J.map (·.2.1)).Nodup&&(J.all fun j=>Nat.ble (j.1+1) k)&&Nat.ble (m0+1) k))=true)
   (hm0:∃ty ps,opsL[m0]?=some ⟨some ms,.makeMap T none,ty,ps,#[],none⟩)(hph:allC phs)(hmp:∀b W,(phs.getD m0 (.eq undef)).holds (.map (some b)) W)
   (hop:∀W,Cel w.drew W→allL (fun i o=>(i=m0∨(J.any fun j=>Nat.beq j.1 i)=true∧∀j∈J,j.1=i→∃ty ps af,o=⟨none,.insert T (.tmp ms) (.const (vi j.2.1)) (.tmp j.2.2),ty,ps,af,none⟩)∨(o.guard=none∧(J.any fun j=>Nat.beq j.1 i)=false∧TU P n ds (L4 opsL.toArray (fun i=>phs.getD i (.eq undef)) 0 o++l) W o (phs.getD i (.eq undef)))) 0 (opsL.take k))
   (hend:∀W b kv(g:Nat→Value),Up w.drew W→IMap W b kv→kv.Perm (J.map fun j=>(j.2.1,g j.2.2))→(∀i o d,i<k→opsL[i]?=some o→o.dst=some d→(phs.getD i (.eq undef)).holds (g d) W)→LW R m P n ds opsL.toArray Q (opsL.drop k) ((ms,.eq (.map (some b)))::l) W):
   CW R m P n ds (.region id opsL.toArray true) Q l w:=by
 simp only[bm,fc]at hJ
 obtain⟨hJi,⟨hJk,hJl⟩,hm0k⟩:=hJ
 have hks':k≤opsL.length:=by have:=a_ hks;simp at this;omega
 have hJl':∀j∈J,j.1<k:=fun j hj=>a_ (cn.1 hJl j hj)
 have sub:∀j o,j<k→opsL.toArray[j]?=some o→(opsL.take k)[j]?=some o:=fun j o hjk ho=>by
   rw[di hjk];simpa using ho
 have hbd:∀i ph,lk l i=some ph→∀(j:Nat)(o:Oper),0≤j→j<k→opsL.toArray[j]?=some o→o.dst≠some i:=fun i ph hi j o _ hjk ho=>G4 hfree hi (ae (sub j o hjk ho))
 have any_iff:∀i,(J.any fun j=>Nat.beq j.1 i)=true↔i∈J.map (·.1):=fun i=>by
   rw[gp,bj]
   exact⟨fun⟨j,hj,h⟩=>⟨j,hj,ca h⟩,fun⟨j,hj,h⟩=>⟨j,hj,by rw[h];simp⟩⟩
 refine Fu hm hl fun fuel listed a hf hu ha=>(AWF.Y4 (T:=T) (K:=K) (E:=E) (m0:=m0) (ms:=ms) (J:=J) (k:=k) (fun i=>phs.getD i (.eq undef)) (f0:=fun t=>a.tmps.getD t undef) hT hK (fun i v w w' h u=>(hph.at i) v w w' h u) hA hC hF hks hD hl hbd hlit hJi hJk hJl' (a_ hm0k) (by simpa using hm0) ?_ hmp ?_ ?_ fuel listed a hf hu ha (fun _=>rfl))
 · intro j hj
   obtain⟨oj,hoj,_⟩:=Gn hlit hj
   have:=(hop w.drew (Cel.refl _)).at (sub j.1 oj (hJl' j hj) hoj)
   rw[c_]at this
   rcases this with(e|⟨_,h⟩)|⟨_,h,_⟩
   · exfalso
     obtain⟨ty,ps,hm0⟩:=hm0
     obtain⟨o',ho',hd',_⟩:=Gn hlit hj
     rw[e]at ho'
     have:opsL[m0]?=some o':=by simpa using ho'
     rw[hm0]at this;cases this;cases hd'
   · obtain⟨ty,ps,af,ho⟩:=h j hj rfl
     exact⟨ty,ps,af,by rw[hoj,ho]⟩
   rw[(any_iff j.1).2 (bj.2 ⟨j,hj,rfl⟩)]at h;cases h
 · intro i o hik hne hnj ho
   have h0:=(hop w.drew (Cel.refl _)).at (sub i o hik ho)
   rw[c_]at h0
   rcases h0 with(e|⟨h,_⟩)|⟨hg,_,_⟩
   · exact absurd e hne
   · exact absurd ((any_iff i).1 h) hnj
   refine⟨hg,fun W hW a ha=>?_⟩
   have h1:=(hop W hW).at (sub i o hik ho)
   rw[c_]at h1
   rcases h1 with(e|⟨h,_⟩)|⟨_,_,h⟩
   · exact absurd e hne
   · exact absurd ((any_iff i).1 h) hnj
   exact h a ha
 intro f W b kv hUp hfm hM hperm fuel' listed' a' hf' hu' ha' hsl'
 have key:∀i o d,i<k→opsL[i]?=some o→o.dst=some d→(phs.getD i (.eq undef)).holds (f d) W:=by
   intro i o d hik ho hd
   have ho':opsL.toArray[i]?=some o:=by simpa using ho
   have hmem:(d,phs.getD i (.eq undef))∈Hn opsL.toArray (fun i=>phs.getD i (.eq undef)) 0 k:=by
     unfold Hn
     rw[fi]
     exact⟨i,b_.2 hik,by rw[ap (by simp),ho'];simp[hd]⟩
   obtain⟨q',hq⟩:=Hw hmem
   obtain⟨j,p,_,hjk,hp,hpd,e⟩:=F1 hq
   have:j=i:=by
     by_cases ee:j=i
     · exact ee
     exact absurd hpd ((De hD (au _) hik ho' hd).2 j p (au _) hjk ee hp)
   subst this
   have:=ha'.val d q' (K4 hq)
   rw[hsl',e]at this
   exact this
 refine Fs hTl hA (opsL.toArray.size-k) k fuel' listed' a' W rfl (by simp;omega) (a8 _) hf' hu' ?_
 have h2:=hend W b kv f hUp hM hperm key
 refine h2 a' ⟨ha'.defers,ha'.size,fun t q ht=>?_⟩
 by_cases e:t=ms
 · subst e;rw[A9]at ht;cases ht
   exact(hsl' _).trans hfm
 rw[Be e]at ht
 refine ha'.val t q ?_
 rw[Gp]
 · exact ht
 cases hq:lk (Hn opsL.toArray (fun i=>phs.getD i (.eq undef)) 0 k) t with
 |none=>rfl
 |some q'=>
   obtain⟨j,p,_,hjk,hp,hpd,_⟩:=F1 hq
   exact absurd hpd (hbd t q ht j p (au _) hjk hp)
theorem PEv.Hx{d:Option Tmp}{ty:TypeId}{ps:String}{af:Array Edge}{g:Option (Nat×Bool)}{T K E:TypeId}{mo x:Operand}{b:Nat}{k:Int}{v:Value}{kv:List (Int×Value)}{ok:Bool}(hT:P.underlying T=some (.map K E))(hK:P.underlying K=some (.int .i64))(hm:Val l mo (.map (some b)))(hx:Val l x (vi k))(h:IMap w b kv)(hkv:(k,v)∈kv):
   PEv P n ds l w ⟨d,.lookup T mo x ok,ty,ps,af,g⟩ (if ok then .tuple #[v,.bool true]else v):=fun a w' ha hu=>by
 obtain⟨es,clock,hb,hs,he⟩:=h.up hu
 have hk:IsKey (.int .i64) (vi k):=rfl
 refine Ct ?_
 rw[ha.ev hm,ha.ev hx]
 rcases findNow_spec hk es.toList 0 (G2 he)with⟨h1,h2⟩|⟨j,e,h1,h2,h3⟩
 · exfalso
   obtain⟨x',hx',hkx,_⟩:=F0 he hkv
   exact h2 x' hx' hkx
 obtain⟨x',hx',hkx,hvx⟩:=F0 he hkv
 have hv:e.val=v:=by
   have:=E6 (jj.1 hs.2.2) (ae h2) hx' (by rw[h3,hkx])
   rw[this];exact hvx
 cases ok<;>simp[Instr.lookup,run_underlying hT,MapKept.run_getObj_map hb,MapKept.run_checkKey hK hk,MapKept.run_findKey hK h1,Result.andThen,hv]
theorem PEv.Qd{d:Option Tmp}{ty:TypeId}{ps:String}{af:Array Edge}{g:Option (Nat×Bool)}{T K E:TypeId}{mo x:Operand}{b:Nat}{k:Int}{z:Value}{kv:List (Int×Value)}{ok:Bool}(hT:P.underlying T=some (.map K E))(hK:P.underlying K=some (.int .i64))(hz:∀w,(zeroValue E).run P w=.ok z w)(hm:Val l mo (.map (some b)))(hx:Val l x (vi k))(h:IMap w b kv)(hkv:k∉kv.map (·.1)):
   PEv P n ds l w ⟨d,.lookup T mo x ok,ty,ps,af,g⟩ (if ok then .tuple #[z,.bool false]else z):=fun a w' ha hu=>by
 obtain⟨es,clock,hb,hs,he⟩:=h.up hu
 have hk:IsKey (.int .i64) (vi k):=rfl
 refine Ct ?_
 rw[ha.ev hm,ha.ev hx]
 rcases findNow_spec hk es.toList 0 (G2 he)with⟨h1,h2⟩|⟨j,e,h1,h2,h3⟩
 · cases ok<;>simp[Instr.lookup,run_underlying hT,MapKept.run_getObj_map hb,MapKept.run_checkKey hK hk,MapKept.run_findKey hK h1,Result.andThen,hz]
 exfalso
 obtain⟨k',hk',hkv'⟩:=H4 he e (ae h2)
 have:k'=k:=Yv (hk'.symm.trans h3)
 exact hkv (bj.2 ⟨_,hkv',this⟩)
theorem bL{base done:Env}{w0:World}{o:Oper}{rest:List Oper}{K:Env→Prop}{d:Nat}{p:Value→World→Prop}{f:FuncId}{args:Array Value}(hp:∀v w w',p v w→Up w w'→p v w')(he:∀a w,Up w0 w→Ag n ds (Bn (o.looksAt ops) done++base) a w→(execOp a.eval o).run P w=.ok (.enter f args) w)(hg:o.guard=none)(hd:o.dst=some d)
   (hc:∀w,Up w0 w→Ret P f args w fun v w'=>Up w w'∧p v w')(k:HW P n ds ops base w0 ((d,.pred p)::done) rest K):HW P n ds ops base w0 done (o::rest) K:=
 ⟨.pred p,d,hd,hp,fun a w hu ha=>by
   rw[ap (by simp[Region.wanted,hg])]
   exact .inr ⟨f,args,w,he a w hu ha,(hc w hu).mono fun v w'⟨h1,h2⟩=>⟨h1,h2⟩⟩,k⟩
def SlT{α:Type}(e:TypeId)(w:World)(v:Value)(k:Nat)(enc:α→Array Value)(xs:List α):Prop:=Sl w v k enc xs∧∀B o n c,v=.slice (some ⟨B,o,none⟩) n c→∃cs x,w.heap[B]?=some (Obj.cells cs e x)
theorem SlT.G0{α:Type}{e:TypeId}{w w':World}{v:Value}{k:Nat}{enc:α→Array Value}{xs:List α}(h:SlT e w v k enc xs)(u:Cel w w'):SlT e w' v k enc xs:=⟨h.1.G0 u,fun B o n c hv=>let⟨cs,x,hb⟩:=h.2 B o n c hv;⟨cs,x,u.blk _ _ _ _ hb⟩⟩
theorem SlT.up{α:Type}{e:TypeId}{w w':World}{v:Value}{k:Nat}{enc:α→Array Value}{xs:List α}(h:SlT e w v k enc xs)(u:Up w w'):SlT e w' v k enc xs:=h.G0 u.G0
theorem SlT.lit{α:Type}{T:TypeId}{w w':World}{k:Nat}{enc:α→Array Value}{xs:List α}{v:Value}(h:NewSl w T k enc xs v w'):SlT T w' v k enc xs:=by
 have h2:=h.q.2
 obtain⟨B,cs,rfl,N,_,_⟩:=h
 exact⟨h2,fun B' o n c hv=>by cases hv;exact⟨cs,_,N.blk⟩⟩
theorem SlT.own{α:Type}{base:Nat}{e:TypeId}{w:World}{v:Value}{k:Nat}{enc:α→Array Value}{xs:List α}(h:OwnS w base e k enc v xs)(hk:∀x,(enc x).size=k):SlT e w v k enc xs:=by
 refine⟨h.sl hk,fun B o n c hv=>?_⟩
 obtain⟨_,h2⟩:=h
 rcases h2 with⟨rfl,_⟩|⟨g,cap,cur,rfl,hb,hg,_⟩
 · cases hv
 cases hv;exact⟨_,_,hg⟩
theorem Cd{α:Type}(e:TypeId)(k:Nat)(enc:α→Array Value)(xs:List α):PhC (.pred fun v w=>SlT e w v k enc xs):=fun _ _ _ h u=>SlT.G0 h u
end
end Go.Wx
namespace Go.Wx
open Go.RowKit
structure KeepT(T:TypeId)(w w':World):Prop where
 size:w.heap.size≤w'.heap.size
 obj:∀(b:Nat)(o:Obj),w.heap[b]?=some o→(∀cs x,o≠Obj.cells cs T x)→w'.heap[b]?=some o
theorem KeepT.refl(T:TypeId)(w:World):KeepT T w w:=⟨a8 _,fun _ _ h _=>h⟩
theorem KeepT.trans{T:TypeId}{w w1 w2:World}(h:KeepT T w w1)(k:KeepT T w1 w2):KeepT T w w2:=⟨br h.size k.size,fun b o hb hn=>k.obj b o (h.obj b o hb hn) hn⟩
theorem Up.C8{T:TypeId}{w w':World}(u:Up w w'):KeepT T w w':=⟨u.size,fun _ _ h _=>(u.block (lt_of_block h)).trans h⟩
theorem Sto.C8{T:TypeId}{w w':World}{B:Nat}{cs:Array Value}(u:Sto B w w')(hz:w.heap.size≤w'.heap.size)(hb:Blk w B cs T):KeepT T w w':=⟨hz,fun b o h hn=>by
 by_cases e:b=B
 · subst e;unfold Blk at hb;rw[hb]at h;cases h;exact absurd rfl (hn _ _)
 exact(u.block b (lt_of_block h) e).trans h⟩
theorem Blk.C8{T e:TypeId}{w w':World}{B:Nat}{cs:Array Value}(h:Blk w B cs e)(hne:Nat.beq e T=false)(u:KeepT T w w'):Blk w' B cs e:=u.obj _ _ h (fun _ _ e'=>by cases e';simp at hne)
theorem IMap.C8{T:TypeId}{w w':World}{b:Nat}{kv:List (Int×Value)}(h:IMap w b kv)(u:KeepT T w w'):IMap w' b kv:=by
 obtain⟨es,clock,h1,h2⟩:=h
 exact⟨es,clock,u.obj _ _ h1 (fun _ _ e=>by cases e),h2⟩
theorem SlT.C8{α:Type}{e T:TypeId}{w w':World}{v:Value}{k:Nat}{enc:α→Array Value}{xs:List α}(h:SlT e w v k enc xs)(hne:Nat.beq e T=false)(u:KeepT T w w'):SlT e w' v k enc xs:=by
 have hne:e≠T:=fun e'=>by rw[e']at hne;simp at hne
 obtain⟨⟨ad,c,rfl,hE⟩,ht⟩:=h
 have keep:∀B o,ad=some ⟨B,o,none⟩→∃cs x,w.heap[B]?=some (Obj.cells cs e x)∧w'.heap[B]?=some (Obj.cells cs e x):=fun B o hB=>by
   obtain⟨cs,x,hb⟩:=ht B o _ _ (by rw[hB])
   exact⟨cs,x,hb,u.obj _ _ hb (fun _ _ e'=>by cases e';exact hne rfl)⟩
 refine⟨⟨ad,c,rfl,fun i x hx=>?_⟩,fun B o n c' hv=>?_⟩
 · obtain⟨B,o,hB,hA⟩:=hE i x hx
   obtain⟨cs,y,h1,h2⟩:=keep B o hB
   refine⟨B,o,hB,fun j v hv=>?_⟩
   have:=hA j v hv
   unfold World.cell? at this⊢
   rw[h1]at this
   rw[h2]
   exact this
 cases hv
 obtain⟨cs,x,h1,h2⟩:=keep B o rfl
 exact⟨cs,x,h2⟩
section
variable {R:Option Nat}{m:Nat}{P:Program}{n:Nat}{ds:List Deferred}{Q:Exit→Go.Act→World→Prop}{l:Env}{w:World}{ops:Array Oper}
def nC(ia is sa sv:Nat)(T:TypeId)(z:Array Value)(w0:World)(L:Nat→Bool)(f:Nat→Value)(W:World):Prop:=
 Up w0 W∧(L is=true→L ia=true)∧(L ia=true→∃B,f sa=.pointer (some ⟨B,0,none⟩)∧w0.heap.size≤B∧Blk W B (if L is=true then(f sv).cells else z) T)
theorem AWF.box{k ia is isv sa sv:Nat}{T:TypeId}{z:Array Value}{base:Env}(ph:Nat→Ph){f0:Nat→Value}(hz:∀w,(zeroValue T).run P w=.ok (.agg z) w)(hs:∀w,(sizeOf T).run P w=.ok z.size w)
   (hph:∀i v w w',(ph i).holds v w→KeepT T w w'→(ph i).holds v w')(hA:D6 ops=true)(hC:(Nat.beq k ops.size||Ft ops k)=true)(hF:I3 ops k=true)(hks:Nat.ble k ops.size=true)
   (hD:G5 n ops 0 k=true)(hbp:Ck base=true)(hbd:∀i ph,lk base i=some ph→∀(j:Nat)(o:Oper),0≤j→j<k→ops[j]?=some o→o.dst≠some i)
   (hlit:My ops ia [(is,0,sv)]=true)(hik:is<k)(hiak:ia<k)(hne:ia≠is)
   (hia:∃ty ps af,ops[ia]?=some ⟨some sa,.alloc T,ty,ps,af,none⟩)(his:∃ty ps af,ops[is]?=some ⟨none,.store T (.tmp sa) (.tmp sv),ty,ps,af,none⟩)
   (hlk:∀o,ops[is]?=some o→lk (L4 ops ph 0 o++base) sv=some (ph isv))(hsv:∀v W,(ph isv).holds v W→∃cs,v=.agg cs∧cs.size=z.size∧cs.all (·.oneCell')=true)
   (hpa:∀B W,(ph ia).holds (.pointer (some ⟨B,0,none⟩)) W)
   (hop:∀i o,i<k→i≠ia→i≠is→ops[i]?=some o→o.guard=none∧∀W,KeepT T w W→∀a,Ag n ds (L4 ops ph 0 o++base) a W→gV P o a W (fun v W'=>Up W W'∧(ph i).holds v W'))
   (hend:∀f W B,Up w W→f sa=.pointer (some ⟨B,0,none⟩)→w.heap.size≤B→Blk W B (f sv).cells T→AWF R m P n ds ops Q k (Hn ops ph 0 k++base) f W):AWF R m P n ds ops Q 0 base f0 w:=by
 obtain⟨os,hos,hods,⟨e,he,hbe,hon⟩,⟨e',he',hbe',pv,hpv,hpvd⟩⟩:=Gn hlit bl
 refine Jg ph (KeepT T) (nC ia is sa sv T z w) (KeepT.refl T) (fun _ _ _=>KeepT.trans) hph hA hC hF hks (by simp) hD hbp hbd ?_ ⟨Up.refl w,fun h=>by simp at h,fun h=>by simp at h⟩ ?_
 · intro i o _ hi hio L f W hRel hDn hLi hed hInv
   obtain⟨hUp,hsa,hInv⟩:=hInv
   by_cases e0:i=ia
   · subst e0
     obtain⟨ty,ps,af,hia⟩:=hia
     rw[hio]at hia;cases hia
     intro a ha hsl
     rw[ap (by simp[Region.wanted])]
     obtain⟨v,W',hr,B,rfl,N⟩:=REv.Bt (P:=P) (n:=n) (ds:=ds) (l:=L4 ops ph 0 _++base) (w:=W) (d:=some sa) (ty:=ty) (ps:=ps) (af:=af) (g:=none) hz a ha
     have hLs:L is=false:=by
       cases h:L is with
       |false=>rfl
       |true=>rw[hsa h]at hLi;cases hLi
     refine .inl (.inl ⟨_,W',hr,N.up.C8,fun _ _=>hpa B W',hUp.trans N.up,fun _=>by simp[C6],fun _=>⟨B,by simp[E3],by rw[N.at_];exact hUp.size,?_⟩⟩)
     have:C6 L i is=false:=by simp[C6,Ne.symm hne,hLs]
     rw[this]
     exact N.blk
   by_cases e1:i=is
   · subst e1
     have hLa:L ia=true:=by rw[hos]at hio;cases hio;rw[←hon];exact hed e he hbe
     obtain⟨ty,ps,af,his⟩:=his
     rw[hio]at his;cases his
     intro a ha hsl
     rw[ap (by simp[Region.wanted])]
     obtain⟨B,h1,hB,hblk⟩:=hInv hLa
     rw[hLi]at hblk
     obtain⟨cs,hcs,hcz,hc1⟩:=hsv _ W (ha.val sv _ (hlk _ hio))
     have hfs:f sv=.agg cs:=by rw[←hsl];exact hcs
     have hag:Ag n ds [(sv,.eq (.agg cs)),(sa,.eq (.pointer (some ⟨B,0,none⟩)))] a W:=by
       refine⟨ha.defers,ha.size,fun t q ht=>?_⟩
       by_cases e1:t=sv
       · subst e1;rw[A9]at ht;cases ht;exact hcs
       rw[Be e1]at ht
       by_cases e2:t=sa
       · subst e2;rw[A9]at ht;cases ht;exact(hsl _).trans h1
       rw[Be e2]at ht;cases ht
     have hsn:sa≠sv:=fun e'=>by rw[e',hfs]at h1;cases h1
     obtain⟨W',hr,hset⟩:=SEv.Ca (P:=P) (n:=n) (ds:=ds) (w:=W) (l:=[(sv,.eq (.agg cs)),(sa,.eq (.pointer (some ⟨B,0,none⟩)))]) (x:=.tmp sa) (y:=.tmp sv) (ty:=ty) (ps:=ps) (af:=af) (g:=none) hs hcz (.tmp (by rw[Be hsn,A9])) (.tmp A9) hc1 hblk (by simp) a hag
     refine .inr ⟨W',hr,hset.sto.C8 (by rw[hset.size];exact a8 _) hblk,(fun d hd=>by cases hd),hUp.sto hset.sto hB,fun _=>by simp[C6,hLa],fun _=>⟨B,h1,hB,?_⟩⟩
     have h2:C6 L i i=true:=by simp[C6]
     rw[h2,ap rfl]
     show Blk W' B (f sv).cells T
     rw[hfs]
     exact hset.blk
   obtain⟨hg,hop⟩:=hop i o hi e0 e1 hio
   intro a ha hsl
   rw[ap (by simp[Region.wanted,hg])]
   have done:∀v W',Up W W'∧(ph i).holds v W'→KeepT T W W'∧(∀d,o.dst=some d→(ph i).holds v W')∧nC ia is sa sv T z w (C6 L i) (E3 f o.dst v) W':=by
     rintro v W' ⟨hu,hv⟩
     have ela:C6 L i ia=L ia:=by simp[C6,Ne.symm e0]
     have els:C6 L i is=L is:=by simp[C6,Ne.symm e1]
     refine⟨hu.C8,fun _ _=>hv,hUp.trans hu,fun h=>by rw[ela];rw[els]at h;exact hsa h,fun hm=>?_⟩
     rw[ela]at hm
     obtain⟨B,h1,hB,hblk⟩:=hInv hm
     have hn1:o.dst≠some sa:=by
       obtain⟨ty,ps,af,hia⟩:=hia
       intro ed
       exact(De hD (au _) hi hio ed).2 ia _ (au _) hiak (Ne.symm e0) hia rfl
     refine⟨B,by simpa[E3,hn1]using h1,hB,?_⟩
     rw[els]
     cases hLs:L is with
     |false=>rw[hLs]at hblk;exact hblk.up hu
     |true=>
       rw[hLs]at hblk
       have hn2:o.dst≠some sv:=by
         intro ed
         have h2:=hDn _ _ hos hLs e' he' hbe'
         have h3:=Du hA hos e' he' hbe'
         by_cases ee:e'.on=i
         · rw[ee,hLi]at h2;cases h2
         exact(De hD (au _) hi hio ed).2 e'.on pv (au _) (by have:e'.on<is:=h3;omega) ee hpv hpvd
       have h4:E3 f o.dst v sv=f sv:=by simp[E3,hn2]
       rw[h4]
       exact hblk.up hu
   rcases hop W hRel a ha with⟨v,W',hr,hp⟩|⟨fn,args,w1,hr,hc⟩
   · exact .inl (.inl ⟨v,W',hr,done v W' hp⟩)
   exact .inl (.inr ⟨fn,args,w1,hr,hc.mono done⟩)
 intro f W hRel hInv
 obtain⟨hUp,_,hInv⟩:=hInv
 obtain⟨B,h1,hB,h2⟩:=hInv (by simpa using hiak)
 rw[ap (by simpa using hik)]at h2
 exact hend f W B hUp h1 hB h2
def PhT(T:TypeId)(q:Ph):Prop:=∀v w w',q.holds v w→KeepT T w w'→q.holds v w'
theorem PhT.eq(T:TypeId)(v:Value):PhT T (.eq v):=fun _ _ _ h _=>h
theorem mp{T:TypeId}{v:Value}:PhT T (.eq v):=PhT.eq _ _
theorem PhT.pred{T:TypeId}{p:Value→World→Prop}(h:∀v w w',p v w→KeepT T w w'→p v w'):PhT T (.pred p):=h
def allT(T:TypeId):List Ph→Prop
 |[]=>True
 |q::r=>PhT T q∧allT T r
theorem allT.at{T:TypeId}:∀{l:List Ph},allT T l→∀i,PhT T (l.getD i (.eq undef))
 |[],_,_=>by simpa using PhT.eq T undef
 |_::_,h,0=>by simpa using h.1
 |_::_,h,i+1=>by simpa using allT.at h.2 i
theorem CW.box{id:Nat}{opsL:List Oper}(k ia is isv sa sv:Nat)(z:Array Value)(phs:List Ph)(keep:List Nat){T:TypeId}(hz:∀w,(zeroValue T).run P w=.ok (.agg z) w)(hs:∀w,(sizeOf T).run P w=.ok z.size w)(hm:P.follows .mixedOrders=true)(hl:Ck l=true)
   (hA:D6 opsL.toArray=true)(hC:(Nat.beq k opsL.toArray.size||Ft opsL.toArray k)=true)(hF:I3 opsL.toArray k=true)(hks:Nat.ble k opsL.toArray.size=true)(hD:G5 n opsL.toArray 0 k=true)(hlit:My opsL.toArray ia [(is,0,sv)]=true)(hTl:G3 opsL.toArray k=true)
   (hfree:J8 l (opsL.take k)=true)(hidx:(Nat.ble (is+1) k&&(Nat.ble (ia+1) k&& !Nat.beq ia is))=true)
   (hia:∃ty ps af,opsL[ia]?=some ⟨some sa,.alloc T,ty,ps,af,none⟩)(os:Oper)(hos:opsL[is]?=some os)(his:∃ty ps af,os=⟨none,.store T (.tmp sa) (.tmp sv),ty,ps,af,none⟩)(hph:allT T phs)
   (hlk:lk (L4 opsL.toArray (fun i=>phs.getD i (.eq undef)) 0 os++l) sv=some (phs.getD isv (.eq undef)))(hsv:∀v W,(phs.getD isv (.eq undef)).holds v W→∃cs,v=.agg cs∧cs.size=z.size∧cs.all (·.oneCell')=true)
   (hpa:∀B W,(phs.getD ia (.eq undef)).holds (.pointer (some ⟨B,0,none⟩)) W)
   (hop:∀W,KeepT T w.drew W→allL (fun i o=>(i=ia∨i=is)∨(o.guard=none∧TU P n ds (L4 opsL.toArray (fun i=>phs.getD i (.eq undef)) 0 o++l) W o (phs.getD i (.eq undef)))) 0 (opsL.take k))
   (hend:∀W B(g:Nat→Value),Up w.drew W→w.drew.heap.size≤B→Blk W B (g sv).cells T→(∀i o d,i<k→opsL[i]?=some o→o.dst=some d→(phs.getD i (.eq undef)).holds (g d) W)→LW R m P n ds opsL.toArray Q (opsL.drop k) ((sa,.eq (.pointer (some ⟨B,0,none⟩)))::(keep.map (fun d=>(d,.eq (g d)))++l)) W):
   CW R m P n ds (.region id opsL.toArray true) Q l w:=by
 simp only[bm]at hidx
 obtain⟨hik,hiak,hne⟩:=hidx
 have hik:is<k:=a_ hik
 have hiak:ia<k:=a_ hiak
 have hne:ia≠is:=fun e=>by subst e;simp at hne
 have hks':k≤opsL.length:=by have:=a_ hks;simp at this;omega
 have sub:∀j o,j<k→opsL.toArray[j]?=some o→(opsL.take k)[j]?=some o:=fun j o hjk ho=>by
   rw[di hjk];simpa using ho
 have hbd:∀i ph,lk l i=some ph→∀(j:Nat)(o:Oper),0≤j→j<k→opsL.toArray[j]?=some o→o.dst≠some i:=fun i ph hi j o _ hjk ho=>G4 hfree hi (ae (sub j o hjk ho))
 refine Fu hm hl fun fuel listed a hf hu ha=>(AWF.box (k:=k) (ia:=ia) (is:=is) (isv:=isv) (sa:=sa) (sv:=sv) (T:=T) (z:=z) (fun i=>phs.getD i (.eq undef)) (f0:=fun t=>a.tmps.getD t undef) hz hs (fun i v w w' h u=>(hph.at i) v w w' h u) hA hC hF hks hD hl hbd hlit hik hiak hne (by simpa using hia) ?_ ?_ hsv hpa ?_ ?_ fuel listed a hf hu ha (fun _=>rfl))
 · obtain⟨ty,ps,af,e⟩:=his
   exact⟨ty,ps,af,by rw[←e];simpa using hos⟩
 · intro o ho
   have:opsL[is]?=some o:=by simpa using ho
   rw[hos]at this;cases this
   exact hlk
 · intro i o hi h1 h2 ho
   have h0:=(hop w.drew (KeepT.refl T _)).at (sub i o hi ho)
   rw[c_]at h0
   rcases h0 with(e|e)|⟨hg,_⟩
   · exact absurd e h1
   · exact absurd e h2
   refine⟨hg,fun W hW a ha=>?_⟩
   have h3:=(hop W hW).at (sub i o hi ho)
   rw[c_]at h3
   rcases h3 with(e|e)|⟨_,h⟩
   · exact absurd e h1
   · exact absurd e h2
   exact h a ha
 intro f W B hUp hfa hB hblk fuel' listed' a' hf' hu' ha' hsl'
 have key:∀i o d,i<k→opsL[i]?=some o→o.dst=some d→(phs.getD i (.eq undef)).holds (f d) W:=by
   intro i o d hik ho hd
   have ho':opsL.toArray[i]?=some o:=by simpa using ho
   have hmem:(d,phs.getD i (.eq undef))∈Hn opsL.toArray (fun i=>phs.getD i (.eq undef)) 0 k:=by
     unfold Hn
     rw[fi]
     exact⟨i,b_.2 hik,by rw[ap (by simp),ho'];simp[hd]⟩
   obtain⟨q',hq⟩:=Hw hmem
   obtain⟨j,p,_,hjk,hp,hpd,e⟩:=F1 hq
   have:j=i:=by
     by_cases ee:j=i
     · exact ee
     exact absurd hpd ((De hD (au _) hik ho' hd).2 j p (au _) hjk ee hp)
   subst this
   have:=ha'.val d q' (K4 hq)
   rw[hsl',e]at this
   exact this
 refine Fs hTl hA (opsL.toArray.size-k) k fuel' listed' a' W rfl (by simp;omega) (a8 _) hf' hu' (hend W B f hUp hB hblk key a' ⟨ha'.defers,ha'.size,fun t q ht=>?_⟩)
 by_cases e:t=sa
 · subst e;rw[A9]at ht;cases ht
   exact(hsl' _).trans hfa
 rw[Be e]at ht
 rcases Dd ht with h|h
 · obtain⟨d,_,he⟩:=bj.1 (J7 h)
   cases he
   exact hsl' _
 refine ha'.val t q ?_
 rw[Gp]
 · exact h
 cases hq:lk (Hn opsL.toArray (fun i=>phs.getD i (.eq undef)) 0 k) t with
 |none=>rfl
 |some q'=>
   obtain⟨j,p,_,hjk,hp,hpd,_⟩:=F1 hq
   exact absurd hpd (hbd t q h j p (au _) hjk hp)
end
end Go.Wx
