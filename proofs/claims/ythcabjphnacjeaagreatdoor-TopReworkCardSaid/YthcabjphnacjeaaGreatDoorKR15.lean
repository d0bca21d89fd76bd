import Derived.Test.YthcabjphnacjeaaGreatDoorKR14
import Derived.Test.YthcabjphnacjeaaGreatDoorProg
namespace Go
abbrev ky:=@Proofs.Tryz.underlying23
abbrev kz:=@Proofs.Tryz.underlying25
abbrev k6:=@Proofs.Tryz.sizeOf3
abbrev k7:=@Proofs.Tryz.sizeOf47
abbrev k8:=@Proofs.Tryz.zeroValue187
abbrev k9:=@Proofs.Tryz.underlying3
abbrev k_:=@Proofs.Tryz.underlying26
abbrev lf:=@Proofs.Tryz.zeroValue3
abbrev lg:=@Proofs.Tryz.zeroValue47
abbrev lh:=@Proofs.Tryz.underlying204
abbrev li:=@Proofs.Tryz.underlying127
abbrev lj:=@Proofs.Tryz.sizeOf187
abbrev ll:=@Proofs.Tryz.underlying187
abbrev lq:=@Proofs.Tryz.underlying9
abbrev lr:=@Proofs.Tryz.sizeOf33
abbrev lv:=@Proofs.Tryz.isAgg3
abbrev lw:=@Proofs.Tryz.underlying211
abbrev ly:=@Proofs.Tryz.underlying27
abbrev lz:=@Proofs.Tryz.sizeOf35
abbrev l4:=@Proofs.Tryz.zeroValue129
abbrev l5:=@Proofs.Tryz.zeroValue33
abbrev l6:=@Proofs.Tryz.underlying156
abbrev l7:=@Proofs.Tryz.underlying129
abbrev l8:=@Proofs.Tryz.underlying117
abbrev l9:=@Proofs.Tryz.sizeOf4
abbrev l_:=@Proofs.Tryz.underlying109
abbrev ma:=@Proofs.Tryz.underlying81
abbrev mb:=@Proofs.Tryz.underlying75
abbrev mc:=@Proofs.Tryz.underlying47
abbrev md:=@Proofs.Tryz.sizeOf9
abbrev me:=@Proofs.Tryz.underlying249
abbrev mf:=@Proofs.Tryz.underlying245
abbrev mg:=@Proofs.Tryz.isAgg35
abbrev mh:=@Proofs.Tryz.zeroValue135
abbrev mi:=@Proofs.Tryz.zeroValue81
abbrev mj:=@Proofs.Tryz.zeroValue29
abbrev ml:=@Proofs.Tryz.underlying5
abbrev mp:=@Proofs.Tryz.underlying262
abbrev mq:=@Proofs.Tryz.underlying135
abbrev mr:=@Proofs.Tryz.sizeOf23
abbrev mt:=@Proofs.Tryz.zeroValue310
abbrev mu:=@Proofs.Tryz.underlying310
abbrev mw:=@Proofs.Tryz.zeroValue4
abbrev mz:=@Proofs.Tryz.zeroValue227
abbrev m3:=@Proofs.Tryz.underlying63
abbrev m4:=@Proofs.Tryz.sizeOf29
abbrev m5:=@Proofs.Tryz.sizeOf135
abbrev m6:=@Proofs.Tryz.underlying227
abbrev m7:=@Proofs.Tryz.zeroValue9
abbrev m8:=@Proofs.Tryz.zeroValue5
abbrev m9:=@Proofs.Tryz.sizeOf244
abbrev m_:=@Proofs.Tryz.zeroValue127
abbrev nb:=@Proofs.Tryz.underlying244
abbrev nd:=@Proofs.Tryz.underlying241
abbrev nf:=@Proofs.Tryz.sizeOf127
abbrev ng:=@Proofs.Tryz.zeroValue53
abbrev nh:=@Proofs.Tryz.underlying4
abbrev ni:=@Proofs.Tryz.sizeOf53
abbrev nj:=@Proofs.Tryz.sizeOf51
abbrev nk:=@Proofs.Tryz.zeroValue51
abbrev nm:=@Proofs.Tryz.underlying248
abbrev np:=@Proofs.Tryz.underlying239
abbrev nq:=@Proofs.Tryz.underlying216
abbrev nr:=@Proofs.Tryz.underlying130
abbrev nt:=@Proofs.Tryz.underlying116
abbrev nu:=@Proofs.Tryz.isAgg47
abbrev nw:=@Proofs.Tryz.sizeOf218
abbrev ny:=@Proofs.Tryz.zeroValue239
abbrev nz:=@Proofs.Tryz.zeroValue156
abbrev n6:=@Proofs.Tryz.underlying71
abbrev n7:=@Proofs.Tryz.underlying56
abbrev n8:=@Proofs.Tryz.underlying22
end Go
namespace Go.Proofs
open Go.Proofs.Tryz
open Go.Wx
theorem Tryz.JR:En prog 4:=C func4 kQ rfl
theorem Tryz.JS:En prog 5:=C func5 kQ rfl
theorem Tryz.JT:En prog 6:=C func6 kQ rfl
theorem Tryz.JU:En prog 7:=C func7 kQ rfl
theorem Tryz.JV:En prog 8:=C func8 kQ rfl
theorem Tryz.JW:En prog 9:=C func9 kQ rfl
theorem Tryz.GK:En prog 10:=C func10 kQ rfl
theorem Tryz.GL:En prog 11:=C func11 kQ rfl
theorem Tryz.GN:En prog 12:=C func12 kQ rfl
theorem Tryz.GO:En prog 13:=C func13 kQ rfl
theorem Tryz.GP:En prog 14:=C func14 kQ rfl
theorem Tryz.GQ:En prog 15:=C func15 kQ rfl
theorem Tryz.GR:En prog 16:=C func16 kQ rfl
theorem Tryz.GS:En prog 17:=C func17 kQ rfl
theorem Tryz.GU:En prog 18:=C func18 kQ rfl
theorem Tryz.xG:En prog 19:=C func19 kQ rfl
theorem Tryz.GV:En prog 20:=C func20 kQ rfl
theorem Tryz.GW:En prog 21:=C func21 kQ rfl
theorem Tryz.GX:En prog 22:=C func22 kQ rfl
theorem Tryz.AP:En prog 23:=C func23 kQ rfl
theorem Tryz.xH:En prog 24:=C func24 kQ rfl
theorem Tryz.AQ:En prog 25:=C func25 kQ rfl
theorem Tryz.AR:En prog 26:=C func26 kQ rfl
theorem Tryz.AU:En prog 27:=C func27 kQ rfl
theorem Tryz.xI:En prog 28:=C func28 kQ rfl
theorem Tryz.GY:En prog 29:=C func29 kQ rfl
theorem Tryz.AV:En prog 30:=C func30 kQ rfl
theorem Tryz.xJ:En prog 31:=C func31 kQ rfl
theorem Tryz.xK:En prog 32:=C func32 kQ rfl
theorem Tryz.xL:En prog 33:=C func33 kQ rfl
theorem Tryz.GZ:En prog 34:=C func34 kQ rfl
theorem Tryz.HA:En prog 35:=C func35 kQ rfl
theorem Tryz.HB:En prog 36:=C func36 kQ rfl
theorem Tryz.Qh:En prog 39:=C func39 kQ rfl
theorem Tryz.HC:En prog 41:=C func41 kQ rfl
theorem Tryz.Tt:En prog 42:=C func42 kQ rfl
theorem Tryz.HD:En prog 43:=C func43 kQ rfl
theorem Tryz.rW:En prog 45:=C func45 kQ rfl
theorem Tryz.xM:En prog 46:=C func46 kQ rfl
theorem Tryz.AW:En prog 47:=C func47 kQ rfl
theorem Tryz.AX:En prog 48:=C func48 kQ rfl
theorem Tryz.rX:En prog 49:=C func49 kQ rfl
theorem Tryz.xN:En prog 50:=C func50 kQ rfl
theorem Tryz.AY:En prog 51:=C func51 kQ rfl
theorem Tryz.HE:En prog 52:=C func52 kQ rfl
theorem Tryz.HF:En prog 53:=C func53 kQ rfl
theorem Tryz.bH:En prog 54:=C func54 kQ rfl
theorem Tryz.HG:En prog 55:=C func55 kQ rfl
theorem Tryz.HH:En prog 56:=C func56 kQ rfl
theorem Tryz.HI:En prog 57:=C func57 kQ rfl
theorem Tryz.HJ:En prog 58:=C func58 kQ rfl
theorem Tryz.HK:En prog 59:=C func59 kQ rfl
theorem Tryz.HL:En prog 60:=C func60 kQ rfl
theorem Tryz.HM:En prog 61:=C func61 kQ rfl
theorem Tryz.HN:En prog 62:=C func62 kQ rfl
theorem Tryz.HO:En prog 63:=C func63 kQ rfl
theorem Tryz.HP:En prog 64:=C func64 kQ rfl
theorem Tryz.HQ:En prog 65:=C func65 kQ rfl
theorem Tryz.HR:En prog 66:=C func66 kQ rfl
theorem Tryz.HS:En prog 67:=C func67 kQ rfl
theorem Tryz.HT:En prog 68:=C func68 kQ rfl
theorem Tryz.AZ:En prog 69:=C func69 kQ rfl
theorem Tryz.HU:En prog 70:=C func70 kQ rfl
theorem Tryz.BB:En prog 71:=C func71 kQ rfl
theorem Tryz.rY:En prog 72:=C func72 kQ rfl
theorem Tryz.BC:En prog 73:=C func73 kQ rfl
theorem Tryz.HV:En prog 74:=C func74 kQ rfl
theorem Tryz.HX:En prog 75:=C func75 kQ rfl
theorem Tryz.HY:En prog 76:=C func76 kQ rfl
theorem Tryz.HZ:En prog 77:=C func77 kQ rfl
theorem Tryz.IA:En prog 78:=C func78 kQ rfl
theorem Tryz.IB:En prog 79:=C func79 kQ rfl
theorem Tryz.xO:En prog 80:=C func80 kQ rfl
theorem Tryz.mT:En prog 81:=C func81 kQ rfl
theorem Tryz.IC:En prog 82:=C func82 kQ rfl
theorem Tryz.iU:En prog 83:=C func83 kQ rfl
theorem Tryz.IE:En prog 84:=C func84 kQ rfl
theorem Tryz.xP:En prog 85:=C func85 kQ rfl
theorem Tryz.BD:En prog 86:=C func86 kQ rfl
theorem Tryz.IF:En prog 87:=C func87 kQ rfl
theorem Tryz.IG:En prog 88:=C func88 kQ rfl
theorem Tryz.BE:En prog 91:=C func91 kQ rfl
theorem Tryz.Qi:En prog 92:=C func92 kQ rfl
theorem Tryz.IH:En prog 93:=C func93 kQ rfl
theorem Tryz.II:En prog 94:=C func94 kQ rfl
theorem Tryz.BF:En prog 95:=C func95 kQ rfl
theorem Tryz.IJ:En prog 96:=C func96 kQ rfl
theorem Tryz.IK:En prog 97:=C func97 kQ rfl
theorem Tryz.IM:En prog 98:=C func98 kQ rfl
theorem Tryz.IN:En prog 99:=C func99 kQ rfl
theorem Tryz.BG:En prog 100:=C func100 kQ rfl
theorem Tryz.BH:En prog 101:=C func101 kQ rfl
theorem Tryz.vP:En prog 102:=C func102 kQ rfl
theorem Tryz.BI:En prog 103:=C func103 kQ rfl
theorem Tryz.Um:En prog 105:=C func105 kQ rfl
theorem Tryz.BJ:En prog 106:=C func106 kQ rfl
theorem Tryz.BL:En prog 107:=C func107 kQ rfl
theorem Tryz.BM:En prog 108:=C func108 kQ rfl
theorem Tryz.BN:En prog 109:=C func109 kQ rfl
theorem Tryz.BO:En prog 110:=C func110 kQ rfl
theorem Tryz.BP:En prog 116:=C func116 kQ rfl
theorem Tryz.Nu:En prog 117:=C func117 kQ rfl
theorem Tryz.BQ:En prog 118:=C func118 kQ rfl
theorem Tryz.vR:En prog 120:=C func120 kQ rfl
theorem Tryz.vS:En prog 121:=C func121 kQ rfl
theorem Tryz.vT:En prog 122:=C func122 kQ rfl
theorem Tryz.BR:En prog 123:=C func123 kQ rfl
theorem Tryz.H7:En prog 124:=C func124 kQ rfl
theorem Tryz.BS:En prog 125:=C func125 kQ rfl
theorem Tryz.BT:En prog 126:=C func126 kQ rfl
theorem Tryz.BU:En prog 127:=C func127 kQ rfl
theorem Tryz.BV:En prog 128:=C func128 kQ rfl
theorem Tryz.BW:En prog 129:=C func129 kQ rfl
theorem Tryz.BY:En prog 130:=C func130 kQ rfl
theorem Tryz.BZ:En prog 131:=C func131 kQ rfl
theorem Tryz.CA:En prog 132:=C func132 kQ rfl
theorem Tryz.CB:En prog 133:=C func133 kQ rfl
theorem Tryz.CC:En prog 134:=C func134 kQ rfl
theorem Tryz.CD:En prog 135:=C func135 kQ rfl
theorem Tryz.Rk:En prog 136:=C func136 kQ rfl
theorem Tryz.fF:En prog 137:=C func137 kQ rfl
theorem Tryz.fG:En prog 138:=C func138 kQ rfl
theorem Tryz.CE:En prog 139:=C func139 kQ rfl
theorem Tryz.Nv:En prog 140:=C func140 kQ rfl
theorem Tryz.CF:En prog 141:=C func141 kQ rfl
theorem Tryz.CG:En prog 142:=C func142 kQ rfl
theorem Tryz.CH:En prog 143:=C func143 kQ rfl
theorem Tryz.CI:En prog 144:=C func144 kQ rfl
theorem Tryz.CJ:En prog 145:=C func145 kQ rfl
theorem Tryz.CK:En prog 146:=C func146 kQ rfl
theorem Tryz.X1:En prog 147:=C func147 kQ rfl
theorem Tryz.vU:En prog 148:=C func148 kQ rfl
theorem Tryz.vV:En prog 149:=C func149 kQ rfl
theorem Tryz.CL:En prog 150:=C func150 kQ rfl
theorem Tryz.mU:En prog 151:=C func151 kQ rfl
theorem Tryz.mV:En prog 152:=C func152 kQ rfl
theorem Tryz.vW:En prog 153:=C func153 kQ rfl
theorem Tryz.vX:En prog 154:=C func154 kQ rfl
theorem Tryz.CM:En prog 155:=C func155 kQ rfl
theorem Tryz.mW:En prog 156:=C func156 kQ rfl
theorem Tryz.CN:En prog 157:=C func157 kQ rfl
theorem Tryz.mX:En prog 158:=C func158 kQ rfl
theorem Tryz.CO:En prog 159:=C func159 kQ rfl
theorem Tryz.CP:En prog 160:=C func160 kQ rfl
theorem Tryz.CQ:En prog 161:=C func161 kQ rfl
theorem Tryz.CR:En prog 162:=C func162 kQ rfl
theorem Tryz.CS:En prog 163:=C func163 kQ rfl
theorem Tryz.CT:En prog 164:=C func164 kQ rfl
theorem Tryz.CU:En prog 165:=C func165 kQ rfl
theorem Tryz.CV:En prog 166:=C func166 kQ rfl
theorem Tryz.CX:En prog 167:=C func167 kQ rfl
theorem Tryz.CY:En prog 168:=C func168 kQ rfl
theorem Tryz.CZ:En prog 169:=C func169 kQ rfl
theorem Tryz.DA:En prog 170:=C func170 kQ rfl
theorem Tryz.DB:En prog 171:=C func171 kQ rfl
theorem Tryz.DC:En prog 172:=C func172 kQ rfl
theorem Tryz.DD:En prog 173:=C func173 kQ rfl
theorem Tryz.DE:En prog 174:=C func174 kQ rfl
theorem Tryz.DF:En prog 175:=C func175 kQ rfl
theorem Tryz.DG:En prog 176:=C func176 kQ rfl
theorem Tryz.DH:En prog 188:=C func188 kQ rfl
theorem Tryz.fH:En prog 189:=C func189 kQ rfl
theorem Tryz.mY:En prog 190:=C func190 kQ rfl
theorem Tryz.vY:En prog 191:=C func191 kQ rfl
theorem Tryz.DI:En prog 192:=C func192 kQ rfl
theorem Tryz.vZ:En prog 193:=C func193 kQ rfl
theorem Tryz.DJ:En prog 194:=C func194 kQ rfl
theorem Tryz.DK:En prog 195:=C func195 kQ rfl
theorem Tryz.DM:En prog 196:=C func196 kQ rfl
theorem Tryz.wA:En prog 197:=C func197 kQ rfl
theorem Tryz.DN:En prog 198:=C func198 kQ rfl
theorem Tryz.wB:En prog 201:=C func201 kQ rfl
theorem Tryz.DO:En prog 202:=C func202 kQ rfl
theorem Tryz.DP:En prog 203:=C func203 kQ rfl
theorem Tryz.DQ:En prog 204:=C func204 kQ rfl
theorem Tryz.DR:En prog 205:=C func205 kQ rfl
theorem Tryz.Un:En prog 207:=C func207 kQ rfl
theorem Tryz.Rl:En prog 208:=C func208 kQ rfl
theorem Tryz.wC:En prog 211:=C func211 kQ rfl
theorem Tryz.DS:En prog 212:=C func212 kQ rfl
theorem Tryz.DT:En prog 213:=C func213 kQ rfl
theorem Tryz.DU:En prog 215:=C func215 kQ rfl
theorem Tryz.DV:En prog 216:=C func216 kQ rfl
theorem Tryz.DX:En prog 217:=C func217 kQ rfl
theorem Tryz.wD:En prog 218:=C func218 kQ rfl
theorem Tryz.wF:En prog 219:=C func219 kQ rfl
theorem Tryz.DY:En prog 220:=C func220 kQ rfl
theorem Tryz.DZ:En prog 221:=C func221 kQ rfl
theorem Tryz.EA:En prog 222:=C func222 kQ rfl
theorem Tryz.EB:En prog 223:=C func223 kQ rfl
theorem Tryz.wG:En prog 224:=C func224 kQ rfl
theorem Tryz.EC:En prog 225:=C func225 kQ rfl
theorem Tryz.ED:En prog 226:=C func226 kQ rfl
theorem Tryz.EE:En prog 227:=C func227 kQ rfl
theorem Tryz.EF:En prog 233:=C func233 kQ rfl
theorem Tryz.EG:En prog 234:=C func234 kQ rfl
theorem Tryz.mZ:En prog 236:=C func236 kQ rfl
theorem Tryz.EH:En prog 237:=C func237 kQ rfl
theorem Tryz.EI:En prog 239:=C func239 kQ rfl
theorem Tryz.nA:En prog 241:=C func241 kQ rfl
theorem Tryz.nB:En prog 245:=C func245 kQ rfl
theorem Tryz.Nw:En prog 246:=C func246 kQ rfl
theorem Tryz.wH:En prog 247:=C func247 kQ rfl
theorem Tryz.wI:En prog 248:=C func248 kQ rfl
theorem Tryz.Uo:En prog 249:=C func249 kQ rfl
theorem Tryz.wJ:En prog 250:=C func250 kQ rfl
theorem Tryz.wK:En prog 251:=C func251 kQ rfl
theorem Tryz.wL:En prog 252:=C func252 kQ rfl
theorem Tryz.EJ:En prog 253:=C func253 kQ rfl
theorem Tryz.EK:En prog 254:=C func254 kQ rfl
theorem Tryz.EL:En prog 255:=C func255 kQ rfl
theorem Tryz.wM:En prog 256:=C func256 kQ rfl
theorem Tryz.wN:En prog 257:=C func257 kQ rfl
theorem Tryz.EM:En prog 258:=C func258 kQ rfl
theorem Tryz.EN:En prog 259:=C func259 kQ rfl
theorem Tryz.EO:En prog 260:=C func260 kQ rfl
theorem Tryz.X2:En prog 265:=C func265 kQ rfl
theorem Tryz.EP:En prog 270:=C func270 kQ rfl
theorem Tryz.EQ:En prog 272:=C func272 kQ rfl
theorem Tryz.ER:En prog 273:=C func273 kQ rfl
theorem Tryz.wO:En prog 274:=C func274 kQ rfl
theorem Tryz.ES:En prog 275:=C func275 kQ rfl
theorem Tryz.ET:En prog 276:=C func276 kQ rfl
theorem Tryz.EU:En prog 277:=C func277 kQ rfl
theorem Tryz.EV:En prog 278:=C func278 kQ rfl
theorem Tryz.EW:En prog 288:=C func288 kQ rfl
theorem Tryz.EX:En prog 289:=C func289 kQ rfl
theorem Ml(w:World):(placesOf 29).run prog w=.ok #[(0,1),(1,1),(2,1),(3,1)] w:=by kernel_rfl
theorem Js(w:World):(placesOf 33).run prog w=.ok #[(0,1),(1,1),(2,1),(3,1),(4,1),(5,1),(6,1)] w:=by kernel_rfl
theorem Mm(w:World):(placesOf 44).run prog w=.ok #[(0,1),(1,1),(2,1),(3,1),(4,1),(5,1),(6,1)] w:=by kernel_rfl
theorem F3(w:World):(placesOf 47).run prog w=.ok #[(0,1),(1,1),(2,1),(3,1),(4,1),(5,1),(6,1),(7,1),(8,1),(9,1),(10,1),(11,1),(12,1),(13,1),(14,1),(15,1),(16,1),(17,1),(18,1)] w:=by kernel_rfl
theorem Mn(w:World):(placesOf 51).run prog w=.ok #[(0,1),(1,1),(2,1)] w:=by kernel_rfl
theorem Mo(w:World):(placesOf 53).run prog w=.ok #[(0,1),(1,1)] w:=by kernel_rfl
theorem Mp(w:World):(placesOf 56).run prog w=.ok #[(0,1),(1,1)] w:=by kernel_rfl
theorem Tv(w:World):(placesOf 58).run prog w=.ok #[(0,1),(1,1),(2,2),(4,2)] w:=by kernel_rfl
theorem Tw(w:World):(placesOf 60).run prog w=.ok #[(0,1),(1,1),(2,1),(3,1),(4,1)] w:=by kernel_rfl
theorem Ty(w:World):(placesOf 65).run prog w=.ok #[(0,1),(1,1),(2,1),(3,1),(4,1)] w:=by kernel_rfl
theorem Dh(w:World):(placesOf 81).run prog w=.ok #[(0,1),(1,1)] w:=by kernel_rfl
theorem Tz(w:World):(placesOf 85).run prog w=.ok #[(0,4),(4,1),(5,1)] w:=by kernel_rfl
theorem K8(w:World):(placesOf 121).run prog w=.ok #[(0,2)] w:=by kernel_rfl
theorem C9(w:World):(placesOf 129).run prog w=.ok #[(0,1),(1,1),(2,1),(3,1)] w:=by kernel_rfl
theorem Cr(w:World):(placesOf 187).run prog w=.ok #[(0,1),(1,1),(2,1)] w:=by kernel_rfl
theorem Fg(w:World):(placesOf 227).run prog w=.ok #[(0,1),(1,1)] w:=by kernel_rfl
theorem G9(w:World):(placesOf 248).run prog w=.ok #[(0,1),(1,1)] w:=by kernel_rfl
theorem Rm(w:World):(placesOf 278).run prog w=.ok #[(0,19),(19,1)] w:=by kernel_rfl
theorem Rn(w:World):(placesOf 280).run prog w=.ok #[] w:=by kernel_rfl
theorem Et(w:World):(placesOf 310).run prog w=.ok #[(0,1),(1,1),(2,1)] w:=by kernel_rfl
end Go.Proofs
namespace Go.Proofs
open Go.Proofs.Tryz
open Go.Wx Go.ChangeShapes Go.WideShapes Go.RowKit
theorem iV{H:Type}{enc:TypeId×Value→H}{w:World}{b:Nat}{sp:Nat→Bool}{hd:Bool}(n:Nat)(cs:List Value)(x:DataW H×List MemPlace)(hl:cs.length=6)(h:DataW.trod enc prog w b sp hd n 109 cs=some x):∃f:I6,cs=f.cells.toList∧bG f:=by
 have k_int:Tryz.prog.cellsOf 3=1:=by kernel_rfl
 match cs,hl with
 |[c0,c1,c2,c3,c4,c5],_=>
   obtain⟨xs,m,_,_,_,hlen,hg⟩:=DataW.trod_array underlying109 h
   have hs:∀i,i<6→∃y,xs[i]?=some y:=fun i hi=>⟨_,cb oQ⟩
   obtain⟨y0,z0⟩:=hs 0 cQ
   obtain⟨n0,e0,_,q0⟩:=DataW.trod_int underlying3 (show DataW.trod enc prog w b sp hd m 3 [c0]=some y0 from by rw[←z0];simpa[k_int]using hg 0 cQ)
   obtain⟨y1,z1⟩:=hs 1 cQ
   obtain⟨n1,e1,_,q1⟩:=DataW.trod_int underlying3 (show DataW.trod enc prog w b sp hd m 3 [c1]=some y1 from by rw[←z1];simpa[k_int]using hg 1 cQ)
   obtain⟨y2,z2⟩:=hs 2 cQ
   obtain⟨n2,e2,_,q2⟩:=DataW.trod_int underlying3 (show DataW.trod enc prog w b sp hd m 3 [c2]=some y2 from by rw[←z2];simpa[k_int]using hg 2 cQ)
   obtain⟨y3,z3⟩:=hs 3 cQ
   obtain⟨n3,e3,_,q3⟩:=DataW.trod_int underlying3 (show DataW.trod enc prog w b sp hd m 3 [c3]=some y3 from by rw[←z3];simpa[k_int]using hg 3 cQ)
   obtain⟨y4,z4⟩:=hs 4 cQ
   obtain⟨n4,e4,_,q4⟩:=DataW.trod_int underlying3 (show DataW.trod enc prog w b sp hd m 3 [c4]=some y4 from by rw[←z4];simpa[k_int]using hg 4 cQ)
   obtain⟨y5,z5⟩:=hs 5 cQ
   obtain⟨n5,e5,_,q5⟩:=DataW.trod_int underlying3 (show DataW.trod enc prog w b sp hd m 3 [c5]=some y5 from by rw[←z5];simpa[k_int]using hg 5 cQ)
   cases e0
   cases e1
   cases e2
   cases e3
   cases e4
   cases e5
   exact⟨⟨n0,n1,n2,n3,n4,n5⟩,rfl,⟨Mz q0,Mz q1,Mz q2,Mz q3,Mz q4,Mz q5⟩⟩
end Go.Proofs
namespace Go.Wx
open Go.RowKit
section
variable {R:Option Nat}{m:Nat}{P:Program}{n:Nat}{ds:List Deferred}{Q:Exit→Go.Act→World→Prop}{l:Env}{w:World}{ops:Array Oper}
def nC(o:Oper):Bool:=match o.op with|.move _=>o.guard.isNone|_=>false
def K9(ops:Array Oper)(k j:Nat):Bool:=match ops[j]? with
 |none=>false
 |some o=>nC o&&((o.looksAt ops).all fun t=>(List.range (k+1)).all fun i=>match ops[i]? with|none=>true|some p=> !(p.dst==some t))&&
     (match ops[k]? with|none=>false|some h=>match o.dst with|none=>false|some d=> !Mg (h.looksAt ops) d)
def bI(ops:Array Oper)(k:Nat):Bool:=
 (List.range k).all fun j=>K9 ops k j||(List.range (k+1)).any fun i=>Nat.ble (j+1) i&&((Nat.beq i k|| !K9 ops k i)&&(match ops[i]? with|none=>false|some o=>o.after.any fun e=>Region.binds .any e&&Nat.beq e.on j))
theorem iW{k:Nat}(hC:bI ops k=true){listed:Array Bool}(hD:Dn ops listed){o:Oper}(ho:ops[k]?=some o)(hk:∀e∈o.after,Region.binds .any e=true→listed.getD e.on false=true):∀(c j:Nat),k-j=c→j<k→K9 ops k j=false→listed.getD j false=true:=by
 intro c
 induction c using Nat.strongRecOn with
 |_ c ih=>
   intro j hc hj hl
   have h0:=db.1 hC j (ck.2 hj)
   rw[hl,gy]at h0
   obtain⟨i,hi,hh⟩:=ij.1 h0
   simp only[bw,gc]at hh
   have hji:j<i:=be hh.1
   have hik:i<k+1:=ck.1 hi
   cases hio:ops[i]? with
   |none=>simp[hio]at hh
   |some q=>
     have h2:=hh.2.2
     simp only[hio]at h2
     obtain⟨e,he,hb⟩:=fg.1 h2
     simp only[bw]at hb
     have hon:=ce hb.2
     by_cases hek:i=k
     · subst hek
       rw[ho]at hio
       cases hio
       rw[←hon];exact hk _ (et he) hb.1
     have hli:K9 ops k i=false:=by
       rcases hh.2.1 with h3|h3
       · exact absurd (ce h3) hek
       simpa using h3
     have:=ih (k-i) oQ i rfl oQ hli
     rw[←hon];exact hD i q hio this _ (et he) hb.1
theorem bJ{k j:Nat}(h:K9 ops k j=true):∃o x,ops[j]?=some o∧o.op=.move x∧o.guard=none∧(∀t∈o.looksAt ops,∀(i:Nat)(p:Oper),i<k+1→ops[i]?=some p→p.dst≠some t)∧∀(hh:Oper)(d:Nat),ops[k]?=some hh→o.dst=some d→d∉hh.looksAt ops:=by
 unfold K9 at h
 cases ho:ops[j]? with
 |none=>simp[ho]at h
 |some o=>
   simp only[ho,bw]at h
   obtain⟨⟨h1,h2⟩,h3⟩:=h
   unfold nC at h1
   split at h1
   · rename_i x hx
     refine⟨o,x,rfl,hx,by simpa using h1,fun t ht i p hi hp hd=>?_,fun hh d hk hd hm=>?_⟩
     · have:=db.1 (db.1 h2 t ht) i (ck.2 hi)
       simp[hp,hd]at this
     simp only[hk,hd]at h3
     rw[Iu.2 hm]at h3
     cases h3
   cases h1
def Ey:Env→Env
 |[]=>[]
 |(_,.pred _)::l=>Ey l
 |(i,.eq v)::l=>(i,.eq v)::Ey l
 |(i,.cond b v)::l=>(i,.cond b v)::Ey l
def plainPh:Ph→Prop
 |.pred _=>False
 |_=>True
theorem plainPh.holds{ph:Ph}(h:plainPh ph){v:Value}{w w':World}(k:ph.holds v w):ph.holds v w':=by
 cases ph with
 |eq=>exact k
 |cond=>exact k
 |pred=>exact h.elim
theorem X3{k:Nat}{E:Nat→Env}(hE0:E 0=[])(hE:∀(i:Nat)(o:Oper),i<k→ops[i]?=some o→∃ph d,o.dst=some d∧E (i+1)=(d,ph)::E i)(hks:k≤ops.size):
   ∀c i ph,c≤k→lk (Ey (E c)) i=some ph→∃j o,j<c∧ops[j]?=some o∧o.dst=some i∧E (j+1)=(i,ph)::E j∧plainPh ph:=by
 intro c
 induction c with
 |zero=>intro i ph _ h;rw[hE0]at h;cases h
 |succ c ih=>
   intro i ph hk h
   have hko:ops[c]?=some ops[c]:=by simp[show c<ops.size by omega]
   obtain⟨q,d,hd,he⟩:=hE c _ oQ hko
   rw[he]at h
   have go:lk (Ey (E c)) i=some ph→∃j o,j<c+1∧ops[j]?=some o∧o.dst=some i∧E (j+1)=(i,ph)::E j∧plainPh ph:=fun h=>by
     obtain⟨j,o,h1,h2⟩:=ih i ph oQ h
     exact⟨j,o,by omega,h2⟩
   cases q with
   |pred p=>exact go h
   |eq v=>
     by_cases e:i=d
     · subst e
       have h':lk ((i,Ph.eq v)::Ey (E c)) i=some ph:=h
       rw[A8]at h'
       cases h'
       exact⟨c,_,by omega,hko,hd,he,trivial⟩
     have h':lk ((d,Ph.eq v)::Ey (E c)) i=some ph:=h
     rw[Be e]at h'
     exact go h'
   |cond b v=>
     by_cases e:i=d
     · subst e
       have h':lk ((i,Ph.cond b v)::Ey (E c)) i=some ph:=h
       rw[A8]at h'
       cases h'
       exact⟨c,_,by omega,hko,hd,he,trivial⟩
     have h':lk ((d,Ph.cond b v)::Ey (E c)) i=some ph:=h
     rw[Be e]at h'
     exact go h'
theorem Nx{listed:Array Bool}{i fuel:Nat}(hlt:i<listed.size)(hbi:listed.getD i false=false)(hc:listed.toList.countP (· ==false)≤fuel+1):(listed.setIfInBounds i true).toList.countP (· ==false)≤fuel:=by
 have hbi':listed[i]=false:=by
   rw[bl]at hbi
   simp only[hlt,cd,dl]at hbi
   exact hbi
 rw[ie,kl (by simpa using hlt)]
 have hpos:0<listed.toList.countP (· ==false):=jy.2 ⟨listed[i],by simp,by simp[hbi']⟩
 have e1:(listed.toList[i]'(by simpa using hlt)==false)=true:=by simp[hbi']
 rw[bg e1,aq (by simp)]
 omega
theorem Wa{listed:Array Bool}{i:Nat}{o:Oper}(hlt:i<listed.size)(hio:ops[i]?=some o)(hed:∀e∈o.after,Region.binds .any e=true→listed.getD e.on false=true)(hD:Dn ops listed):Dn ops (listed.setIfInBounds i true):=by
 intro j p hp hl e he hb
 rw[Du hlt]at hl⊢
 by_cases e1:e.on=i
 · rw[bg e1]
 rw[aq e1]
 by_cases e2:j=i
 · subst e2
   rw[hio]at hp;cases hp
   exact hed e he hb
 rw[aq e2]at hl
 exact hD j p hp hl e he hb
theorem Ro{listed:Array Bool}{s fuel:Nat}(hs:listed.size=ops.size)(hc:listed.toList.countP (· ==false)≤fuel)(hno:∀j,s≤j→j<ops.size→listed.getD j false=false):ops.size-s≤fuel:=by
 have h1:(listed.toList.drop s).countP (· ==false)=ops.size-s:=by
   rw[List.countP_eq_length.2]
   · simp[hs]
   intro b hb
   obtain⟨j,hj,he⟩:=fk.1 hb
   rw[List.getElem_drop]at he
   have hj':s+j<listed.size:=by simp at hj;omega
   have:=hno (s+j) oQ oQ
   rw[bl]at this
   simp only[hj',cd,dl]at this
   rw[←he]
   simpa using this
 have h2:(listed.toList.drop s).countP (· ==false)≤listed.toList.countP (· ==false):=(j7 s _).countP_le
 omega
theorem M0(hA:Dt ops=true){k:Nat}(hks:k≤ops.size){listed:Array Bool}(hs:listed.size=ops.size):∀c,c<k→listed.getD c false=false→∃i,i∈Region.ready .any ops listed:=by
 intro c
 induction c using Nat.strongRecOn with
 |_ c ihc=>
   intro hck hcf
   have hco:ops[c]?=some ops[c]:=by simp[show c<ops.size by omega]
   by_cases hr:∀e∈(ops[c]).after,Region.binds .any e=true→listed.getD e.on false=true
   · exact⟨c,(F2 hs).2 ⟨_,hco,hcf,hr⟩⟩
   simp only[g_]at hr
   obtain⟨e,he,hb,hf⟩:=hr
   have hlt:=D7 hA hco e he hb
   exact ihc e.on hlt oQ (by simpa using hf)
theorem bK{k:Nat}{wp w:World}{w0:World}{base:Env}{dh:Nat}{vh:Value}(hu:Up w0 wp)(hok:Jr n ops (k+1)=true)(hT:Gl ops (k+1)=true)(hA:Dt ops=true)(hC:Ff ops (k+1)=true)(hkk:k<ops.size)(E:Nat→Env)(hE0:E 0=[])
   (hE:∀(i:Nat)(o:Oper),i<k→ops[i]?=some o→∃ph d,o.dst=some d∧phUp ph∧AG P n ds ops w0 (Cd (o.looksAt ops) (E i)++base) o ph∧E (i+1)=(d,ph)::E i)
   (hbp:Cn base=true)(hbase:∀i ph,lk base i=some ph→∀(j:Nat)(o:Oper),j<k+1→ops[j]?=some o→o.dst≠some i)
   (hdh:∀o,ops[k]?=some o→o.dst=some dh)
   (hQ:∀a,Ag n ds ((dh,.eq vh)::(Ey (E k)++base)) a w→wpListIn (FR R) m P ops Q (ops.toList.drop (k+1)) a w):
   ∀(fuel:Nat)(listed:Array Bool)(a:Go.Act),listed.size=ops.size→listed.toList.countP (· ==false)≤fuel→(∀j,k+1≤j→j<ops.size→listed.getD j false=false)→listed.getD k false=true→(∀j,j<k→listed.getD j false=false→K9 ops k j=true)→Dn ops listed→Ag n ds base a w→a.tmps.getD dh undef=vh→
     (∀(j:Nat)(o:Oper)(d:Nat)(ph:Ph),j<k→ops[j]?=some o→o.dst=some d→E (j+1)=(d,ph)::E j→plainPh ph→listed.getD j false=true→ph.holds (a.tmps.getD d undef) w)→
     wpAnyIn (FR R) m P .any ops Q fuel listed a w:=by
 have hE':∀(i:Nat)(o:Oper),i<k→ops[i]?=some o→∃ph d,o.dst=some d∧E (i+1)=(d,ph)::E i:=fun i o hi ho=>let⟨ph,d,h1,_,_,h2⟩:=hE i o hi ho;⟨ph,d,h1,h2⟩
 have hDP:=X3 hE0 hE' oQ
 have hfull:∀(fuel:Nat)(listed:Array Bool)(a:Go.Act),listed.size=ops.size→listed.toList.countP (· ==false)≤fuel→(∀j,k+1≤j→j<ops.size→listed.getD j false=false)→listed.getD k false=true→(∀j,j<k→listed.getD j false=true)→Ag n ds base a w→a.tmps.getD dh undef=vh→
     (∀(j:Nat)(o:Oper)(d:Nat)(ph:Ph),j<k→ops[j]?=some o→o.dst=some d→E (j+1)=(d,ph)::E j→plainPh ph→listed.getD j false=true→ph.holds (a.tmps.getD d undef) w)→
     wpAnyIn (FR R) m P .any ops Q fuel listed a w:=by
   intro fuel listed a hs hc hno hk hall ha hv hI
   refine Es hT hA (ops.size-(k+1)) (k+1) fuel listed a w rfl oQ (bi _) (Ro hs hc hno) ⟨hs,fun j hj=>?_⟩ (hQ a ⟨ha.defers,ha.size,fun i ph hi=>?_⟩)
   · by_cases h:j<k+1
     · rw[bj h]
       by_cases e:j=k
       · rw[e];exact hk
       exact hall j oQ
     rw[hno j oQ hj,bx h]
   by_cases e:i=dh
   · subst e
     rw[A8]at hi
     cases hi
     exact hv
   rw[Be e]at hi
   rcases Dg hi with h|h
   · obtain⟨j,o,hj,ho,hd,he,hp⟩:=hDP _ _ _ (bi _) h
     exact hI j o i ph hj ho hd he hp (hall j hj)
   exact ha.val i ph h
 have hEl:∀c i ph,c≤k→lk (E c) i=some ph→∃j o,j<c∧ops[j]?=some o∧o.dst=some i:=by
   intro c
   induction c with
   |zero=>intro i ph _ h;rw[hE0]at h;cases h
   |succ c ih=>
     intro i ph hk h
     have hko:ops[c]?=some ops[c]:=by simp[show c<ops.size by omega]
     obtain⟨q,d,hd,he⟩:=hE' c _ oQ hko
     rw[he]at h
     by_cases e:i=d
     · subst e;exact⟨c,_,by omega,hko,hd⟩
     rw[Be e]at h
     obtain⟨j,o,h1,h2⟩:=ih i ph oQ h
     exact⟨j,o,by omega,h2⟩
 intro fuel
 induction fuel with
 |zero=>
   intro listed a hs hc hno hk hlate hD ha hv hI
   refine hfull 0 listed a hs hc hno hk (fun i hi=>?_) ha hv hI
   have h0:listed.toList.countP (· ==false)=0:=by omega
   rw[gi]at h0
   have hlt:i<listed.size:=by omega
   have:=h0 listed[i] (by simp)
   rw[bl]
   simp only[hlt,cd,dl]
   simpa using this
 |succ fuel ih=>
   intro listed a hs hc hno hk hlate hD ha hv hI
   by_cases hall:∀j,j<k→listed.getD j false=true
   · exact hfull _ listed a hs hc hno hk hall ha hv hI
   refine⟨fun hr=>?_,fun i hi=>?_⟩
   · exfalso
     simp only[g_]at hall
     obtain⟨j,hj,hf⟩:=hall
     obtain⟨i,hi⟩:=M0 hA (k:=k) oQ hs j hj (by simpa using hf)
     rw[hr]at hi
     cases hi
   obtain⟨o,hio,hbi,hed⟩:=(F2 hs).1 hi
   have hi':i<ops.size:=(b_.1 hio).1
   have hlt:i<listed.size:=by omega
   have hik:i<k:=by
     rcases jc i k with h|h|h
     · exact h
     · subst h;rw[hk]at hbi;cases hbi
     exfalso
     by_cases e:i=k+1
     · subst e
       exact hall fun j hj=>Nt hC hD hio hed (k+1-j) j rfl oQ
     obtain⟨e',he,hb,hon⟩:=L2 hT hio (show k+1<i by omega)
     have h1:=hed e' he hb
     rw[hon,hno (i-1) oQ (by omega)]at h1
     cases h1
   obtain⟨o',x,ho',hop,hg,hfree,_⟩:=bJ (hlate i hik hbi)
   rw[hio]at ho'
   cases ho'
   obtain⟨hd0,hpair⟩:=O1 hok (show i<k+1 by omega) hio
   obtain⟨ph,d,hd,hup,hopr,hEi⟩:=hE i o hik hio
   have hdn:d<n:=by obtain⟨d',h1,h2⟩:=hd0;rw[hd]at h1;cases h1;exact h2
   have hag:Ag n ds (Cd (o.looksAt ops) (E i)++base) a wp:=by
     refine⟨ha.defers,ha.size,fun t q ht=>?_⟩
     rcases Dg ht with h|h
     · obtain⟨h1,h2⟩:=E0 h
       obtain⟨j,p,hj,hp,hpd⟩:=hEl _ _ _ oQ h2
       exact absurd hpd (hfree t h1 j p oQ hp)
     exact Fz hbp h (ha.val t q h)
   have hne:d≠dh:=by
     intro e
     have hko:ops[k]?=some ops[k]:=by simp[hkk]
     exact(hpair k _ oQ hko).1 oQ (by rw[hd,hdh _ hko,e])
   have hrun:∀ww,(execOp a.eval o).run P ww=.ok (.value (a.eval x)) ww:=fun ww=>by
     simp only[execOp,hop];rfl
   have h2:=hopr a wp hu hag
   have hw:Region.wanted o (yielded ops a.tmps)=true:=by simp[Region.wanted,hg]
   rw[bg hw]at h2
   have hval:ph.holds (a.eval x) wp:=by
     rcases h2 with⟨v,w',h3,h4,h5⟩|⟨f,args,w1,h3,_⟩
     · rw[hrun]at h3;cases h3;exact h5
     rw[hrun]at h3;cases h3
   unfold wpOpIn
   rw[hio]
   dsimp only
   rw[bg hw]
   refine Gy (hrun w) (ih _ _ (by simpa using hs) (Nx hlt hbi hc) ?_ ?_ ?_ (Wa hlt hio hed hD) ?_ ?_ ?_)
   · intro j hj hjs
     rw[Du hlt,aq (by omega)]
     exact hno j hj hjs
   · rw[Du hlt];split<;>first|rfl|exact hk
   · intro j hj hl
     rw[Du hlt]at hl
     split at hl
     · cases hl
     exact hlate j hj hl
   · refine⟨by rw[hd];exact ha.defers,by rw[hd];simp[Go.Act.put,ha.size],fun t q ht=>?_⟩
     have hne':t≠d:=fun e=>hbase t q ht i o oQ hio (by rw[hd,e])
     rw[hd,De hne']
     exact ha.val t q ht
   · rw[hd,De (fun e=>hne e.symm)];exact hv
   intro j p d' q hjk hp hpd hEj hpl hl
   by_cases e:j=i
   · subst e
     rw[hio]at hp
     cases hp
     rw[hd]at hpd
     cases hpd
     rw[hEi]at hEj
     cases hEj
     rw[hd,E7 (by rw[ha.size];exact hdn)]
     exact hpl.holds hval
   have hne':d'≠d:=fun ee=>(hpair j p oQ hp).1 (fun ee=>e ee.symm) (by rw[hd,hpd,ee])
   rw[hd,De hne']
   rw[Du hlt,aq e]at hl
   exact hI j p d' q hjk hp hpd hEj hpl hl
theorem X4{k:Nat}{w0:World}{base:Env}{dh:Nat}{oh:Oper}{PostH:Value→World→Prop}(hok:Jr n ops (k+1)=true)(hT:Gl ops (k+1)=true)(hA:Dt ops=true)(hC:Ff ops (k+1)=true)(hL:bI ops k=true)(hkk:k<ops.size)(E:Nat→Env)(hE0:E 0=[])
   (hE:∀(i:Nat)(o:Oper),i<k→ops[i]?=some o→∃ph d,o.dst=some d∧phUp ph∧AG P n ds ops w0 (Cd (o.looksAt ops) (E i)++base) o ph∧E (i+1)=(d,ph)::E i)
   (hbp:Cn base=true)(hbase:∀i ph,lk base i=some ph→∀(j:Nat)(o:Oper),j<k+1→ops[j]?=some o→o.dst≠some i)
   (hoh:ops[k]?=some oh)(hdh:oh.dst=some dh)(hgh:oh.guard=none)
   (hH:∀a w,Up w0 w→Ag n ds (Cd (oh.looksAt ops) (E k)++base) a w→bD P oh a w PostH)
   (hQ:∀v w a,PostH v w→Ag n ds ((dh,.eq v)::(Ey (E k)++base)) a w→wpListIn (FR R) m P ops Q (ops.toList.drop (k+1)) a w):
   ∀(fuel:Nat)(listed:Array Bool)(a:Go.Act)(w:World),listed.size=ops.size→listed.toList.countP (· ==false)≤fuel→(∀j,k≤j→j<ops.size→listed.getD j false=false)→Dn ops listed→Up w0 w→Ag n ds base a w→
     (∀(j:Nat)(o:Oper)(d:Nat)(ph:Ph),j<k→ops[j]?=some o→o.dst=some d→E (j+1)=(d,ph)::E j→listed.getD j false=true→ph.holds (a.tmps.getD d undef) w)→
     wpAnyIn (FR R) m P .any ops Q fuel listed a w:=by
 have hEl:∀c i ph,c≤k→lk (E c) i=some ph→∃j o,j<c∧ops[j]?=some o∧o.dst=some i∧E (j+1)=(i,ph)::E j:=by
   intro c
   induction c with
   |zero=>intro i ph _ h;rw[hE0]at h;cases h
   |succ c ih=>
     intro i ph hk h
     have hko:ops[c]?=some ops[c]:=by simp[show c<ops.size by omega]
     obtain⟨q,d,hd,_,_,he⟩:=hE c _ oQ hko
     rw[he]at h
     by_cases e:i=d
     · subst e
       rw[A8]at h
       cases h
       exact⟨c,_,by omega,hko,hd,he⟩
     rw[Be e]at h
     obtain⟨j,o,h1,h2⟩:=ih i ph oQ h
     exact⟨j,o,by omega,h2⟩
 intro fuel
 induction fuel with
 |zero=>
   intro listed a w hs hc hno hD hu ha hI
   exfalso
   have h0:listed.toList.countP (· ==false)=0:=by omega
   rw[gi]at h0
   have hlt:k<listed.size:=by omega
   have:=h0 listed[k] (by simp)
   have h1:=hno k (bi _) hkk
   rw[bl]at h1
   simp only[hlt,cd,dl]at h1
   rw[h1]at this
   simp at this
 |succ fuel ih=>
   intro listed a w hs hc hno hD hu ha hI
   refine⟨fun hr=>?_,fun i hi=>?_⟩
   · exfalso
     obtain⟨i,hi⟩:=M0 hA (k:=k+1) oQ hs k oQ (hno k (bi _) hkk)
     rw[hr]at hi
     cases hi
   obtain⟨o,hio,hbi,hed⟩:=(F2 hs).1 hi
   have hi':i<ops.size:=(b_.1 hio).1
   have hlt:i<listed.size:=by omega
   have hik:i≤k:=by
     rcases fb k i with h|h
     · exfalso
       by_cases e:i=k+1
       · subst e
         have:=Nt hC hD hio hed 1 k oQ oQ
         rw[hno k (bi _) hkk]at this
         cases this
       obtain⟨e',he,hb,hon⟩:=L2 hT hio (show k+1<i by omega)
       have h1:=hed e' he hb
       rw[hon,hno (i-1) oQ (by omega)]at h1
       cases h1
     exact h
   obtain⟨hd0,hpair⟩:=O1 hok (show i<k+1 by omega) hio
   by_cases hkI:i=k
   · subst hkI
     rw[hoh]at hio
     cases hio
     have hdn:dh<n:=by obtain⟨d',h1,h2⟩:=hd0;rw[hdh]at h1;cases h1;exact h2
     have hag:Ag n ds (Cd (oh.looksAt ops) (E i)++base) a w:=by
       refine⟨ha.defers,ha.size,fun t q ht=>?_⟩
       rcases Dg ht with h|h
       · obtain⟨h1,h2⟩:=E0 h
         obtain⟨j,p,hj,hp,hpd,hEj⟩:=hEl _ _ _ (bi _) h2
         obtain⟨e,he,hbe,hon'⟩:=(hpair j p oQ hp).2 t hpd h1
         have:=hed e he hbe
         exact hI j p t q hj hp hpd hEj (by rw[←hon'];exact this)
       exact ha.val t q h
     unfold wpOpIn
     rw[hoh]
     dsimp only
     have hw:Region.wanted oh (yielded ops a.tmps)=true:=by simp[Region.wanted,hgh]
     rw[bg hw]
     refine K4 (hH a w hu hag) fun v w' hv=>(bK hu hok hT hA hC hkk E hE0 hE hbp hbase (fun o' ho'=>by rw[hoh]at ho';cases ho';exact hdh) (fun a' ha'=>hQ v w' a' hv ha') fuel _ _ (by simpa using hs) (Nx hlt hbi hc) ?_ ?_ ?_ (Wa hlt hoh hed hD) ?_ ?_ ?_)
     · intro j hj hjs
       rw[Du hlt,aq (by omega)]
       exact hno j oQ hjs
     · rw[Du hlt,bg rfl]
     · intro j hj hl
       rw[Du hlt,aq (by omega)]at hl
       cases hla:K9 ops i j with
       |true=>rfl
       |false=>
         have:=iW hL hD hoh hed (i-j) j rfl hj hla
         rw[this]at hl;cases hl
     · refine⟨by rw[hdh];exact ha.defers,by rw[hdh];simp[Go.Act.put,ha.size],fun t q ht=>?_⟩
       have hne':t≠dh:=fun e=>hbase t q ht i _ oQ hoh (by rw[hdh,e])
       rw[hdh,De hne']
       exact Fz hbp ht (ha.val t q ht)
     · rw[hdh,E7 (by rw[ha.size];exact hdn)]
     intro j p d' q hjk hp hpd hEj hpl hl
     have hne':d'≠dh:=fun ee=>(hpair j p oQ hp).1 oQ (by rw[hdh,hpd,ee])
     rw[hdh,De hne']
     rw[Du hlt,aq (by omega)]at hl
     exact hpl.holds (hI j p d' q hjk hp hpd hEj hl)
   have hik:i<k:=by omega
   obtain⟨ph,d,hd,hup,hop,hEi⟩:=hE i o hik hio
   have hdn:d<n:=by obtain⟨d',h1,h2⟩:=hd0;rw[hd]at h1;cases h1;exact h2
   have hag:Ag n ds (Cd (o.looksAt ops) (E i)++base) a w:=by
     refine⟨ha.defers,ha.size,fun t q ht=>?_⟩
     rcases Dg ht with h|h
     · obtain⟨h1,h2⟩:=E0 h
       obtain⟨j,p,hj,hp,hpd,hEj⟩:=hEl _ _ _ oQ h2
       obtain⟨e,he,hbe,hon'⟩:=(hpair j p oQ hp).2 t hpd h1
       have:=hed e he hbe
       exact hI j p t q oQ hp hpd hEj (by rw[←hon'];exact this)
     exact ha.val t q h
   have step:∀v w',Up w w'→ph.holds v w'→wpAnyIn (FR R) m P .any ops Q fuel (listed.setIfInBounds i true) (a.put o.dst v) w':=by
     intro v w' hu' hv
     refine ih _ _ _ (by simpa using hs) (Nx hlt hbi hc) ?_ (Wa hlt hio hed hD) (hu.trans hu') ?_ ?_
     · intro j hj hjs
       rw[Du hlt,aq (by omega)]
       exact hno j hj hjs
     · refine⟨by rw[hd];exact ha.defers,by rw[hd];simp[Go.Act.put,ha.size],fun t q ht=>?_⟩
       have hne:t≠d:=fun e=>hbase t q ht i o oQ hio (by rw[hd,e])
       rw[hd,De hne]
       exact Fz hbp ht (ha.val t q ht)
     intro j p d' q hjk hp hpd hEj hl
     by_cases e:j=i
     · subst e
       rw[hio]at hp
       cases hp
       rw[hd]at hpd
       cases hpd
       rw[hEi]at hEj
       cases hEj
       rw[hd,E7 (by rw[ha.size];exact hdn)]
       exact hv
     have hne:d'≠d:=fun ee=>(hpair j p oQ hp).1 (fun ee=>e ee.symm) (by rw[hd,hpd,ee])
     rw[hd,De hne]
     obtain⟨q',d'',hd'',hup',_,hEj'⟩:=hE j p hjk hp
     rw[hEj]at hEj'
     cases hEj'
     rw[Du hlt,aq e]at hl
     exact hup' _ _ _ (hI j p d' q hjk hp hpd hEj hl) hu'
   have h2:=hop a w hu hag
   unfold wpOpIn
   rw[hio]
   dsimp only
   by_cases hw:Region.wanted o (yielded ops a.tmps)=true
   · rw[bg hw]at h2⊢
     exact K4 h2 fun v w'⟨h3,h4⟩=>step v w' h3 h4
   rw[aq hw]at h2⊢
   exact⟨fun _ _=>trivial,step _ _ (Up.refl w) h2⟩
theorem Iy{id:Nat}{opsL:List Oper}(k:Nat){oh:Oper}{dh:Nat}(PostH:Value→World→Prop)(hm:P.follows .mixedOrders=true)(hok:Jr n opsL.toArray (k+1)=true)(hT:Gl opsL.toArray (k+1)=true)(hA:Dt opsL.toArray=true)(hC:Ff opsL.toArray (k+1)=true)(hL:bI opsL.toArray k=true)
   (hl:Cn l=true){base:Env}(hb:Dw (Rc (opsL.take (k+1))) l=base)(hoh:opsL[k]?=some oh)(hdh:oh.dst=some dh)(hgh:oh.guard=none)
   (h:HW P n ds opsL.toArray base w [] (opsL.take k) (fun env=>(∀a w',Up w w'→Ag n ds (Cd (oh.looksAt opsL.toArray) env++base) a w'→bD P oh a w' PostH)∧∀v w',PostH v w'→LW R m P n ds opsL.toArray Q (opsL.drop (k+1)) ((dh,.eq v)::(Ey env++base)) w')):CW R m P n ds (.region id opsL.toArray true) Q l w:=by
 intro a ha
 obtain⟨E,hE0,hK,hE⟩:=V6 _ _ h
 subst hb
 have hks:k+1≤opsL.length:=by
   unfold Jr at hok
   rw[bw]at hok
   simpa using be hok.1
 have hlen:(opsL.take k).length=k:=by rw[ca];omega
 rw[hlen]at hK
 have hbp:Cn (Dw (Rc (opsL.take (k+1))) l)=true:=by
   have:∀(ks:List Nat)(l:Env),Cn l=true→Cn (Dw ks l)=true:=by
     intro ks l
     induction l with
     |nil=>intro _;rfl
     |cons p l ih=>
       obtain⟨i,ph⟩:=p
       cases ph with
       |pred q=>intro h;simp[Cn]at h
       |eq v=>intro h;unfold Dw;cases Mg ks i<;>simp[Cn]at h⊢ <;>exact ih h
       |cond b v=>intro h;unfold Dw;cases Mg ks i<;>simp[Cn]at h⊢ <;>exact ih h
   exact this _ _ hl
 refine wpIn_region_any hm (X4 (w0:=w) (base:=Dw (Rc (opsL.take (k+1))) l) (oh:=oh) hok hT hA hC hL (by rw[jd];omega) E hE0 (fun i o hik ho=>hE i o (by rw[di hik];simpa using ho)) hbp ?_ (by simpa using hoh) hdh hgh hK.1 ?_ _ _ _ _ (by simp) ?_ ?_ ?_ (Up.drew w) ?_ ?_)
 · intro i ph hi j o hj ho hd
   obtain⟨h1,h2⟩:=C7 hi
   exact h1 (Re (by have:=ai (l:=opsL.take (k+1)) (i:=j) (by rw[di hj];simpa using ho);exact this) hd)
 · intro v w' a' hv ha'
   exact hK.2 v w' hv a' ha'
 · have:(Array.replicate opsL.toArray.size false).toList.countP (· ==false)≤(Array.replicate opsL.toArray.size false).toList.length:=iq
   simpa using this
 · intro j _ _
   rw[bl,e8]
   split<;>rfl
 · intro i o _ hli
   rw[bl,e8]at hli
   split at hli<;>simp at hli
 · exact⟨ha.defers,ha.size,fun i ph hi=>Fz hl (C7 hi).2 (ha.val _ _ (C7 hi).2)⟩
 intro j o d ph _ ho hd _ hlj
 rw[bl,e8]at hlj
 split at hlj<;>simp at hlj
theorem REv.y{o:Oper}{a:Go.Act}{Post:Value→World→Prop}(h:REv P n ds l w o Post)(ha:Ag n ds l a w):bD P o a w Post:=.inl (h a ha)
theorem EY{o:Oper}{rest:List Oper}{Post:Value→World→Prop}(h:REv P n ds l w o Post)(hg:o.guard=none)(hd:o.dst=none)(hl:Cn l=true)
   (k:∀v w',Post v w'→LW R m P n ds ops Q rest l w'):LW R m P n ds ops Q (o::rest) l w:=fun a ha=>
 let⟨v,w',hr,hp⟩:=h a ha
 wpListIn_plain hg fun K hK=>Gy hr (hK _ _ (k v w' hp _ (by rw[hd];exact ha.world hl w')))
end
section
variable (R:Option Nat)(m:Nat)(P:Program)(n:Nat)(ds:List Deferred)
def AWU(ops:Array Oper)(Q:Exit→Go.Act→World→Prop)(s:Nat)(l:Env)(w:World):Prop:=∀(fuel:Nat)(listed:Array Bool)(a:Go.Act),ops.size-s≤fuel→xF ops s listed→Ag n ds l a w→wpAnyIn (FR R) m P .any ops Q fuel listed a w
def TOp(ops:Array Oper)(env:Env)(w:World)(o:Oper)(Post:Value→World→Prop):Prop:=∀a,Ag n ds env a w→if Region.wanted o (yielded ops a.tmps)=true then bD P o a w Post else Post undef w
end
def H8(ops:Array Oper)(k:Nat):Bool:=
 (List.range ops.size).all fun i=> !Nat.ble (k+1) i||(match ops[i]? with|none=>false|some o=>o.after.any fun e=>Region.binds .any e&&Nat.ble k e.on)
theorem Ki:∀{l:Env}{i:Nat}{ph:Ph},lk l i=some ph→(i,ph)∈l
 |[],_,_,h=>by cases h
 |(j,q)::l,i,ph,h=>by
   by_cases e:i=j
   · subst e;rw[A8]at h;cases h;exact bu
   rw[Be e]at h;exact b9 _ (Ki h)
section
variable {R:Option Nat}{m:Nat}{P:Program}{n:Nat}{ds:List Deferred}{Q:Exit→Go.Act→World→Prop}{l:Env}{w:World}{ops:Array Oper}
theorem nD{k:Nat}(h:H8 ops k=true){i:Nat}{o:Oper}(ho:ops[i]?=some o)(hk:k<i):∃e∈o.after,Region.binds .any e=true∧k≤e.on:=by
 have hi:i<ops.size:=(b_.1 ho).1
 have h1:=db.1 h i (ck.2 hi)
 have hb:Nat.ble (k+1) i=true:=gz hk
 simp only[ho,hb,iv,gy]at h1
 obtain⟨e,he,hh⟩:=fg.1 h1
 simp only[bw]at hh
 exact⟨_,et he,hh.1,be hh.2⟩
theorem Em{id:Nat}{opsL:List Oper}(hm:P.follows .mixedOrders=true)(hl:Cn l=true)(h:AWU R m P n ds opsL.toArray Q 0 l w.drew):CW R m P n ds (.region id opsL.toArray true) Q l w:=fun a ha=>
 wpIn_region_any hm (h _ _ a (by simp) ⟨by simp,fun j hj=>by
   rw[bl,e8]
   split<;>rfl⟩ (ha.world hl _))
def allL(p:Nat→Oper→Prop):Nat→List Oper→Prop
 |_,[]=>True
 |i,o::r=>p i o∧allL p (i+1) r
theorem allL.nil{p:Nat→Oper→Prop}{i:Nat}:allL p i []:=trivial
theorem allL.cons{p:Nat→Oper→Prop}{i:Nat}{o:Oper}{r:List Oper}(h:p i o)(k:allL p (i+1) r):allL p i (o::r):=⟨h,k⟩
abbrev aC:=@allL.cons
theorem allL.at{p:Nat→Oper→Prop}:∀{r:List Oper}{i j:Nat}{o:Oper},allL p i r→r[j]?=some o→p (i+j) o
 |[],_,_,_,_,h=>by cases h
 |x::r,i,0,o,hp,h=>by
   rw[List.getElem?_cons_zero]at h
   cases h;exact hp.1
 |x::r,i,j+1,o,hp,h=>by
   rw[fc]at h
   have:=allL.at hp.2 h
   rwa [show i+1+j=i+(j+1)by omega]at this
def Iz(base:Env)(r:List Oper):Bool:=r.all fun o=>match o.dst with|none=>true|some d=>(lk base d).isNone
theorem F4{base:Env}{r:List Oper}(h:Iz base r=true){i:Nat}{ph:Ph}(hi:lk base i=some ph){o:Oper}(ho:o∈r):o.dst≠some i:=by
 intro e
 have:=db.1 h o ho
 simp[e,hi]at this
theorem TOp.p{env:Env}{o:Oper}{v:Value}{X:Value→World→Prop}(h:PEv P n ds env w o v)(hg:o.guard=none)(hx:X v w):TOp P n ds ops env w o X:=fun a ha=>by
 rw[bg (by simp[Region.wanted,hg])]
 exact .inl ⟨v,w,h a w ha (Up.refl w),hx⟩
theorem TOp.py{env:Env}{o:Oper}{v:Value}{X:Value→World→Prop}{j dj:Nat}{oj:Oper}{want:Bool}(hg:o.guard=some (j,want))(hj:ops[j]?=some oj)(hdj:oj.dst=some dj)(hdn:Nat.ble (dj+1) n=true)(hb:lk env dj=some (.eq (.bool want)))
   (h:PEv P n ds env w o v)(hx:X v w):TOp P n ds ops env w o X:=fun a ha=>by
 rw[bg (by rw[D6 (o:=o) (ops:=ops) (a:=a) hg hj hdj (by rw[ha.size];exact be hdn) (ha.val _ _ hb)];cases want<;>rfl)]
 exact .inl ⟨v,w,h a w ha (Up.refl w),hx⟩
theorem nE{env:Env}{o:Oper}{f:FuncId}{args:Array Value}{Post X:Value→World→Prop}{j dj:Nat}{oj:Oper}{want:Bool}(hg:o.guard=some (j,want))(hj:ops[j]?=some oj)(hdj:oj.dst=some dj)(hdn:Nat.ble (dj+1) n=true)(hb:lk env dj=some (.eq (.bool want)))
   (he:∀a,Ag n ds env a w→(execOp a.eval o).run P w=.ok (.enter f args) w)(hc:Ret P f args w Post)(hx:∀r w',Post r w'→X r w'):TOp P n ds ops env w o X:=fun a ha=>by
 rw[bg (by rw[D6 (o:=o) (ops:=ops) (a:=a) hg hj hdj (by rw[ha.size];exact be hdn) (ha.val _ _ hb)];cases want<;>rfl)]
 exact .inr ⟨f,args,w,he a ha,hc.mono hx⟩
end
end Go.Wx
namespace Go.Wx
open Go.RowKit Go.MapKept
structure Cel(w w':World):Prop where
 size:w.heap.size≤w'.heap.size
 cell:∀ad v,w.cell? ad=some v→w'.cell? ad=some v
 blk:∀(b:Nat)(cs:Array Value)(T:TypeId)(x:Nat×Nat),w.heap[b]?=some (Obj.cells cs T x)→w'.heap[b]?=some (Obj.cells cs T x)
section
variable (R:Option Nat)(m:Nat)(P:Program)(n:Nat)(ds:List Deferred)
def JH(o:Oper)(a:Go.Act)(w:World)(Post:Value→World→Prop):Prop:=bD P o a w Post∨(∃w',(execOp a.eval o).run P w=.ok .skip w'∧Post undef w')
def TG(ops:Array Oper)(env:Env)(f:Nat→Value)(w:World)(o:Oper)(Post:Value→World→Prop):Prop:=∀a,Ag n ds env a w→(∀t,a.tmps.getD t undef=f t)→if Region.wanted o (yielded ops a.tmps)=true then JH P o a w Post else Post undef w
def AWF(ops:Array Oper)(Q:Exit→Go.Act→World→Prop)(s:Nat)(l:Env)(f:Nat→Value)(w:World):Prop:=∀(fuel:Nat)(listed:Array Bool)(a:Go.Act),ops.size-s≤fuel→xF ops s listed→Ag n ds l a w→(∀t,a.tmps.getD t undef=f t)→wpAnyIn (FR R) m P .any ops Q fuel listed a w
end
def Gm(n:Nat)(ops:Array Oper)(s k:Nat):Bool:=(List.range k).all fun i=> !Nat.ble s i||(match ops[i]? with
 |none=>false
 |some o=>match o.dst with
   |none=>true
   |some d=>Nat.ble (d+1) n&&(List.range k).all fun j=> !Nat.ble s j||(Nat.beq i j||(match ops[j]? with|none=>true|some p=> !(p.dst==some d))))
def Jb(ops:Array Oper)(ph:Nat→Ph)(s:Nat)(o:Oper):Env:=o.after.toList.filterMap fun e=>if(Region.binds .any e&&Nat.ble s e.on)=true then((ops[e.on]?).bind (·.dst)).map fun d=>(d,ph e.on)else none
def Ha(ops:Array Oper)(ph:Nat→Ph)(s k:Nat):Env:=(List.range k).filterMap fun j=>if Nat.ble s j=true then((ops[j]?).bind (·.dst)).map fun d=>(d,ph j)else none
def GA(ops:Array Oper)(L:Nat→Bool):Prop:=∀(i:Nat)(o:Oper),ops[i]?=some o→L i=true→∀e∈o.after,Region.binds .any e=true→L e.on=true
def Cp(L:Nat→Bool)(i:Nat):Nat→Bool:=fun j=>if j=i then true else L j
def Dl(f:Nat→Value)(d:Option Nat)(v:Value):Nat→Value:=fun t=>if d=some t then v else f t
section
variable {R:Option Nat}{m:Nat}{P:Program}{n:Nat}{ds:List Deferred}{Q:Exit→Go.Act→World→Prop}{l:Env}{w:World}{ops:Array Oper}
theorem C5{s k:Nat}(h:Gm n ops s k=true){i:Nat}{o:Oper}{d:Nat}(hs:s≤i)(hk:i<k)(ho:ops[i]?=some o)(hd:o.dst=some d):d<n∧∀(j:Nat)(p:Oper),s≤j→j<k→j≠i→ops[j]?=some p→p.dst≠some d:=by
 have h1:=db.1 h i (ck.2 hk)
 have hb:Nat.ble s i=true:=gz hs
 simp only[hb,iv,gy,ho,hd]at h1
 simp only[bw]at h1
 refine⟨be h1.1,fun j p hj hjk hne hp=>?_⟩
 have h2:=db.1 h1.2 j (ck.2 hjk)
 have hb':Nat.ble s j=true:=gz hj
 have hb2:Nat.beq i j=false:=by
   cases e:Nat.beq i j with
   |false=>rfl
   |true=>exact absurd (ce e).symm hne
 simp only[hb',iv,gy,hb2,hp]at h2
 intro e
 rw[e]at h2
 simp at h2
theorem bL{ph:Nat→Ph}{s:Nat}{o:Oper}{t:Nat}{q:Ph}(h:lk (Jb ops ph s o) t=some q):∃e∈o.after,Region.binds .any e=true∧s≤e.on∧∃p,ops[e.on]?=some p∧p.dst=some t∧q=ph e.on:=by
 have h1:=Ki h
 unfold Jb at h1
 rw[ft]at h1
 obtain⟨e,he,h2⟩:=h1
 split at h2
 · rename_i hc
   simp only[bw]at hc
   cases hp:ops[e.on]? with
   |none=>rw[hp]at h2;cases h2
   |some p=>
     rw[hp]at h2
     cases hd:p.dst with
     |none=>simp[hd]at h2
     |some d=>
       simp[hd]at h2
       obtain⟨rfl,rfl⟩:=h2
       exact⟨e,by simpa using he,hc.1,be hc.2,p,hp,hd,rfl⟩
 cases h2
theorem E4{ph:Nat→Ph}{s k:Nat}{t:Nat}{q:Ph}(h:lk (Ha ops ph s k) t=some q):∃j p,s≤j∧j<k∧ops[j]?=some p∧p.dst=some t∧q=ph j:=by
 have h1:=Ki h
 unfold Ha at h1
 rw[ft]at h1
 obtain⟨j,hj,h2⟩:=h1
 split at h2
 · rename_i hc
   cases hp:ops[j]? with
   |none=>rw[hp]at h2;cases h2
   |some p=>
     rw[hp]at h2
     cases hd:p.dst with
     |none=>simp[hd]at h2
     |some d=>
       simp[hd]at h2
       obtain⟨rfl,rfl⟩:=h2
       exact⟨j,p,be hc,ck.1 hj,hp,hd,rfl⟩
 cases h2
theorem nG{o:Oper}{a:Go.Act}{Post:Value→World→Prop}{K:Go.Act→World→Prop}{w:World}(h:JH P o a w Post)(hk:∀v w',Post v w'→K (a.put o.dst v) w'):o.wpIn (FR R) m P a w K Q:=by
 rcases h with h|⟨w',hr,hp⟩
 · exact K4 h hk
 exact Px hr (hk _ w' hp)
theorem Hy{s k:Nat}{base:Env}(ph:Nat→Ph)(Rel:World→World→Prop)(Inv:(Nat→Bool)→(Nat→Value)→World→Prop){f0:Nat→Value}
   (hrefl:∀w,Rel w w)(htr:∀w w1 w2,Rel w w1→Rel w1 w2→Rel w w2)(hph:∀i v w w',(ph i).holds v w→Rel w w'→(ph i).holds v w')
   (hA:Dt ops=true)(hC:(Nat.beq k ops.size||Ff ops k)=true)(hF:H8 ops k=true)(hks:Nat.ble k ops.size=true)(hsk:Nat.ble s k=true)
   (hD:Gm n ops s k=true)(hbp:Cn base=true)(hbd:∀i ph,lk base i=some ph→∀(j:Nat)(o:Oper),s≤j→j<k→ops[j]?=some o→o.dst≠some i)
   (hop:∀i o,s≤i→i<k→ops[i]?=some o→∀L f W,Rel w W→GA ops L→L i=false→(∀e∈o.after,Region.binds .any e=true→L e.on=true)→Inv L f W→
     TG P n ds ops (Jb ops ph s o++base) f W o (fun v W'=>Rel W W'∧(∀d,o.dst=some d→(ph i).holds v W')∧Inv (Cp L i) (Dl f o.dst v) W'))
   (hw:Inv (fun j=>decide (j<s)) f0 w)(hend:∀f W,Rel w W→Inv (fun j=>decide (j<k)) f W→AWF R m P n ds ops Q k (Ha ops ph s k++base) f W):AWF R m P n ds ops Q s base f0 w:=by
 have hks:k≤ops.size:=be hks
 have hsk:s≤k:=be hsk
 suffices H:∀(fuel:Nat)(listed:Array Bool)(a:Go.Act)(f:Nat→Value)(W:World),listed.size=ops.size→listed.toList.countP (· ==false)≤fuel→(∀j,j<s→listed.getD j false=true)→(∀j,k≤j→j<ops.size→listed.getD j false=false)→Dn ops listed→Ag n ds base a W→(∀t,a.tmps.getD t undef=f t)→Rel w W→
     (∀(j:Nat)(o:Oper)(d:Nat),s≤j→j<k→ops[j]?=some o→o.dst=some d→listed.getD j false=true→(ph j).holds (f d) W)→Inv (fun j=>listed.getD j false) f W→wpAnyIn (FR R) m P .any ops Q fuel listed a W by
   intro fuel listed a hf hu ha hsl
   have hno:∀j,s≤j→j<ops.size→listed.getD j false=false:=fun j h1 h2=>by rw[hu.2 j h2];simpa using h1
   have hyes:∀j,j<s→listed.getD j false=true:=fun j h1=>by rw[hu.2 j (by omega)];simpa using h1
   refine H fuel listed a f0 w hu.1 ?_ hyes (fun j h1 h2=>hno j oQ h2) ?_ ha hsl (hrefl w) ?_ ?_
   · have e:listed.toList=listed.toList.take s++listed.toList.drop s:=(eg s _).symm
     rw[e,List.countP_append]
     have z1:(listed.toList.take s).countP (· ==false)=0:=by
       rw[gi]
       intro b hb
       obtain⟨j,hj,he⟩:=fk.1 hb
       rw[List.getElem_take]at he
       have hj':j<s:=by simp at hj;omega
       have hj2:j<listed.size:=by simp at hj;omega
       have:=hyes j hj'
       rw[bl]at this
       simp only[hj2,cd,dl]at this
       rw[←he]
       simp[this]
     have z2:(listed.toList.drop s).countP (· ==false)≤(listed.toList.drop s).length:=iq
     have z3:(listed.toList.drop s).length=ops.size-s:=by simp[hu.1]
     omega
   · intro i o ho hli e he hb
     have hi:i<ops.size:=(b_.1 ho).1
     have his:i<s:=by
       rcases fb i s with h|h
       · exact h
       rw[hno i h hi]at hli;cases hli
     exact hyes _ (by have:=D7 hA ho e he hb;omega)
   · intro j o d hj hjk ho _ hlj
     rw[hno j hj (by omega)]at hlj
     cases hlj
   have e:(fun j=>listed.getD j false)=fun j=>decide (j<s):=by
     funext j
     rcases fb j ops.size with h|h
     · exact hu.2 j h
     have:=hu.1
     rw[bl,Array.getElem?_eq_none oQ,bx (by omega)]
     rfl
   rw[e]
   exact hw
 have last:∀(fuel:Nat)(listed:Array Bool)(a:Go.Act)(f:Nat→Value)(W:World),listed.size=ops.size→listed.toList.countP (· ==false)≤fuel→(∀j,k≤j→j<ops.size→listed.getD j false=false)→Ag n ds base a W→(∀t,a.tmps.getD t undef=f t)→Rel w W→
     (∀(j:Nat)(o:Oper)(d:Nat),s≤j→j<k→ops[j]?=some o→o.dst=some d→listed.getD j false=true→(ph j).holds (f d) W)→Inv (fun j=>listed.getD j false) f W→(∀j,j<k→listed.getD j false=true)→wpAnyIn (FR R) m P .any ops Q fuel listed a W:=by
   intro fuel listed a f W hs hc hno ha hsl hR hI hSt hall
   have e:(fun j=>listed.getD j false)=fun j=>decide (j<k):=by
     funext j
     rcases fb j k with h|h
     · rw[hall j h,bj h]
     rcases fb j ops.size with h'|h'
     · rw[hno j h h',bx (by omega)]
     rw[bl,Array.getElem?_eq_none oQ,bx (by omega)]
     rfl
   rw[e]at hSt
   refine hend f W hR hSt fuel listed a (Ro hs hc hno) ⟨hs,fun j hj=>congrFun e j⟩ ⟨ha.defers,ha.size,fun t q ht=>?_⟩ hsl
   rcases Dg ht with h|h
   · obtain⟨j,p,hj,hjk,hp,hd,rfl⟩:=E4 h
     rw[hsl]
     exact hI j p t hj hjk hp hd (hall j hjk)
   exact ha.val t q h
 intro fuel
 induction fuel with
 |zero=>
   intro listed a f W hs hc hyes hno hDn ha hsl hR hI hSt
   refine last 0 listed a f W hs hc hno ha hsl hR hI hSt (fun j hj=>?_)
   have h0:listed.toList.countP (· ==false)=0:=by omega
   rw[gi]at h0
   have hlt:j<listed.size:=by omega
   have:=h0 listed[j] (by simp)
   rw[bl]
   simp only[hlt,cd,dl]
   simpa using this
 |succ fuel ih=>
   intro listed a f W hs hc hyes hno hDn ha hsl hR hI hSt
   by_cases hall:∀j,j<k→listed.getD j false=true
   · exact last (fuel+1) listed a f W hs hc hno ha hsl hR hI hSt hall
   simp only[g_]at hall
   obtain⟨c,hck,hcf⟩:=hall
   have hcf:listed.getD c false=false:=by simpa using hcf
   refine⟨fun hr=>?_,fun i hi=>?_⟩
   · exfalso
     obtain⟨i,hi⟩:=M0 hA (k:=k) oQ hs c hck hcf
     rw[hr]at hi
     cases hi
   obtain⟨o,hio,hbi,hed⟩:=(F2 hs).1 hi
   have hi':i<ops.size:=(b_.1 hio).1
   have hlt:i<listed.size:=by omega
   have hsi:s≤i:=by
     rcases fb i s with h|h
     · rw[hyes i h]at hbi;cases hbi
     exact h
   have hik:i<k:=by
     rcases fb i k with h|h
     · exact h
     exfalso
     by_cases e:i=k
     · subst e
       rcases jz.1 hC with hC|hC
       · have:=ce hC;omega
       have:=Nt hC hDn hio hed (i-c) c rfl hck
       rw[hcf]at this;cases this
     obtain⟨e',he,hb,hon⟩:=nD hF hio oQ
     have h1:=hed e' he hb
     have h2:=D7 hA hio e' he hb
     rw[hno e'.on hon (by omega)]at h1
     cases h1
   have hag:Ag n ds (Jb ops ph s o++base) a W:=by
     refine⟨ha.defers,ha.size,fun t q ht=>?_⟩
     rcases Dg ht with h|h
     · obtain⟨e,he,hb,hse,p,hp,hpd,rfl⟩:=bL h
       rw[hsl]
       exact hI e.on p t hse (by have:=D7 hA hio e he hb;omega) hp hpd (hed e he hb)
     exact ha.val t q h
   have eL:(fun j=>(listed.setIfInBounds i true).getD j false)=Cp (fun j=>listed.getD j false) i:=by
     funext j
     rw[Du hlt]
     rfl
   have key:∀(v:Value)(W':World),Rel W W'∧(∀d,o.dst=some d→(ph i).holds v W')∧Inv (Cp (fun j=>listed.getD j false) i) (Dl f o.dst v) W'→wpAnyIn (FR R) m P .any ops Q fuel (listed.setIfInBounds i true) (a.put o.dst v) W':=by
     rintro v W' ⟨hRel,hv,hSt'⟩
     refine ih _ _ (Dl f o.dst v) W' (by simpa using hs) (Nx hlt hbi hc) ?_ ?_ (Wa hlt hio hed hDn) ?_ ?_ (htr _ _ _ hR hRel) ?_ (by rw[eL];exact hSt')
     · intro j hj
       rw[Du hlt]
       split
       · rfl
       exact hyes j hj
     · intro j hj hjs
       rw[Du hlt,aq (by omega)]
       exact hno j hj hjs
     · cases hd:o.dst with
       |none=>exact ha.world hbp W'
       |some d=>
         refine⟨ha.defers,by simp[Go.Act.put,ha.size],fun t q ht=>?_⟩
         have hne':t≠d:=fun e=>hbd t q ht i o hsi hik hio (by rw[hd,e])
         rw[De hne']
         exact Fz hbp ht (ha.val t q ht)
     · intro t
       cases hd:o.dst with
       |none=>exact hsl t
       |some d=>
         by_cases e:t=d
         · subst e
           rw[E7 (by rw[ha.size];exact(C5 hD hsi hik hio hd).1)]
           simp[Dl]
         rw[De e,hsl]
         simp[Dl,Ne.symm e]
     intro j p d' hj hjk hp hpd hl
     by_cases e:j=i
     · subst e
       rw[hio]at hp;cases hp
       rw[hpd]
       simp only[Dl,if_true]
       exact hv d' hpd
     rw[Du hlt,aq e]at hl
     have hne':o.dst≠some d':=fun ee=>(C5 hD hsi hik hio ee).2 j p hj hjk e hp hpd
     simp only[Dl,aq hne']
     exact hph j _ _ _ (hI j p d' hj hjk hp hpd hl) hRel
   have top:=hop i o hsi hik hio _ f W hR (fun i o ho hli e he hb=>hDn i o ho hli e he hb) hbi hed hSt
   have top:=top a hag hsl
   unfold wpOpIn
   rw[hio]
   dsimp only
   split
   · rename_i hw'
     rw[bg hw']at top
     exact nG top key
   rename_i hw'
   rw[aq hw']at top
   exact⟨fun _ _=>trivial,key _ W top⟩
theorem Cel.refl(w:World):Cel w w:=⟨bi _,fun _ _ h=>h,fun _ _ _ _ h=>h⟩
theorem Cel.trans{w w1 w2:World}(h:Cel w w1)(k:Cel w1 w2):Cel w w2:=⟨b6 h.size k.size,fun ad v hv=>k.cell ad v (h.cell ad v hv),fun b cs T x hb=>k.blk b cs T x (h.blk b cs T x hb)⟩
theorem Up.G0{w w':World}(u:Up w w'):Cel w w':=⟨u.size,fun _ _ h=>Gu h u,fun _ _ _ _ h=>(u.block (lt_of_block h)).trans h⟩
theorem Sto.G0{w w':World}{b:Nat}(u:Sto b w w')(hz:w.heap.size≤w'.heap.size)(hb:∀ad v,ad.block=b→w.cell? ad≠some v)(hk:∀(cs:Array Value)(T:TypeId)(x:Nat×Nat),w.heap[b]?≠some (Obj.cells cs T x)):Cel w w':=⟨hz,fun ad v h=>mP h u (fun e=>hb ad v e h),fun i cs T x h=>(u.block i (lt_of_block h) (fun e=>hk cs T x (e▸h))).trans h⟩
theorem IMap.Rp{w:World}{b:Nat}{kv:List (Int×Value)}(h:IMap w b kv):∀ad v,ad.block=b→w.cell? ad≠some v:=by
 intro ad v e hc
 obtain⟨es,clock,h1,_⟩:=h
 unfold World.cell? at hc
 rw[e,h1]at hc
 cases hc
theorem IMap.X5{w:World}{b:Nat}{kv:List (Int×Value)}(h:IMap w b kv):∀(cs:Array Value)(T:TypeId)(x:Nat×Nat),w.heap[b]?≠some (Obj.cells cs T x):=by
 intro cs T x hc
 obtain⟨es,clock,h1,_⟩:=h
 rw[h1]at hc
 cases hc
theorem AggAt.G0{w w':World}{B o:Nat}{cs:Array Value}(h:AggAt w B o cs)(k:Cel w w'):AggAt w' B o cs:=fun j v hv=>k.cell _ _ (h j v hv)
theorem Els.G0{α:Type}{w w':World}{ad:Option Addr}{k:Nat}{enc:α→Array Value}{xs:List α}(h:Els w ad k enc xs)(u:Cel w w'):Els w' ad k enc xs:=fun i x hx=>let⟨B,o,h1,h2⟩:=h i x hx;⟨B,o,h1,h2.G0 u⟩
theorem Sl.G0{α:Type}{w w':World}{v:Value}{k:Nat}{enc:α→Array Value}{xs:List α}(h:Sl w v k enc xs)(u:Cel w w'):Sl w' v k enc xs:=let⟨ad,c,h1,h2⟩:=h;⟨ad,c,h1,Els.G0 h2 u⟩
theorem SEv.insert{ty:TypeId}{ps:String}{af:Array Edge}{g:Option (Nat×Bool)}{T K E:TypeId}{mo x y:Operand}{b:Nat}{k:Int}{v:Value}{kv:List (Int×Value)}(hT:P.underlying T=some (.map K E))(hK:P.underlying K=some (.int .i64))(hm:Val l mo (.map (some b)))(hx:Val l x (vi k))(hy:Val l y v)(h:IMap w b kv):
   SEv P n ds l w ⟨none,.insert T mo x y,ty,ps,af,g⟩ (fun w'=>IMap w' b (Hp kv k v)∧Sto b w w'∧w'.heap.size=w.heap.size):=fun a ha=>
 SEv.mapUpdate (ty:=ty) (ps:=ps) (af:=af) (g:=g) hT hK hm hx hy h a ha
def EZ(m0 ms:Nat)(J:List (Nat×Int×Nat))(w0:World)(L:Nat→Bool)(f:Nat→Value)(W:World):Prop:=
 Up w0 W∧(L m0=true→∃b kv,f ms=.map (some b)∧w0.heap.size≤b∧IMap W b kv∧kv.Perm ((J.filter fun j=>L j.1).map fun j=>(j.2.1,f j.2.2)))
def Ny(ops:Array Oper)(m0:Nat)(J:List (Nat×Int×Nat)):Bool:=
 J.all fun j=>match ops[j.1]? with
   |none=>false
   |some o=>o.dst.isNone&&(o.after.any fun e=>Region.binds .any e&&Nat.beq e.on m0)&&(o.after.any fun e=>Region.binds .any e&&(match ops[e.on]? with|none=>false|some p=>p.dst==some j.2.2))
theorem Hb{m0:Nat}{J:List (Nat×Int×Nat)}(h:Ny ops m0 J=true){j:Nat×Int×Nat}(hj:j∈J):∃o,ops[j.1]?=some o∧o.dst=none∧(∃e∈o.after,Region.binds .any e=true∧e.on=m0)∧∃e∈o.after,Region.binds .any e=true∧∃p,ops[e.on]?=some p∧p.dst=some j.2.2:=by
 have h1:=db.1 h j hj
 cases ho:ops[j.1]? with
 |none=>simp[ho]at h1
 |some o=>
   simp only[ho,bw]at h1
   obtain⟨⟨h2,h3⟩,h4⟩:=h1
   obtain⟨e,he,hh⟩:=fg.1 h3
   simp only[bw]at hh
   obtain⟨e',he',hh'⟩:=fg.1 h4
   simp only[bw]at hh'
   refine⟨o,rfl,by simpa using h2,⟨_,et he,hh.1,ce hh.2⟩,⟨_,et he',hh'.1,?_⟩⟩
   have h5:=hh'.2
   split at h5
   · cases h5
   rename_i p hp
   exact⟨p,hp,by simpa using h5⟩
theorem Rq{J:List (Nat×Int×Nat)}{L:Nat→Bool}{i:Nat}(hn:i∉J.map (·.1)):(J.filter fun j=>Cp L i j.1)=J.filter fun j=>L j.1:=by
 apply List.filter_congr
 intro j hj
 have:j.1≠i:=fun e=>hn (e▸br.2 ⟨j,hj,rfl⟩)
 simp[Cp,this]
theorem Rr:∀{J:List (Nat×Int×Nat)}{L:Nat→Bool}{i:Nat}{k:Int}{s:Nat},(J.map (·.1)).Nodup→(i,k,s)∈J→L i=false→(J.filter fun j=>Cp L i j.1).Perm ((i,k,s)::J.filter fun j=>L j.1)
 |[],_,_,_,_,_,h,_=>by cases h
 |x::r,L,i,k,s,hn,h,hL=>by
   obtain⟨h1,h2⟩:=gw.1 (by simpa using hn:(x.1::r.map (·.1)).Nodup)
   rcases bm.1 h with rfl|h
   · rw[dr,dr,bg (by simp[Cp]),aq (by simp[hL]),Rq h1]
   have hne:x.1≠i:=fun e=>h1 (e▸br.2 ⟨_,h,rfl⟩)
   have e:Cp L i x.1=L x.1:=by simp[Cp,hne]
   have ih:=Rr h2 h hL
   rw[dr,dr,e]
   split
   · exact(List.Perm.cons _ ih).trans (List.Perm.swap _ _ _)
   exact ih
theorem X6{kv:List (Int×Value)}{k:Int}{v:Value}(h:k∉kv.map (·.1)):Hp kv k v=kv++[(k,v)]:=by rw[Hp,aq h]
theorem rZ{J:List (Nat×Int×Nat)}(hn:(J.map (·.2.1)).Nodup){x y:Nat×Int×Nat}(hx:x∈J)(hy:y∈J)(h:x.2.1=y.2.1):x=y:=by
 obtain⟨i,hi,rfl⟩:=fk.1 hx
 obtain⟨j,hj,rfl⟩:=fk.1 hy
 have:=(j_ (i:=i) (j:=j) (h₀:=by simpa using hi) (h₁:=by simpa using hj) hn).1 (by simpa using h)
 subst this;rfl
theorem AWF.bM{k m0 ms T K E:Nat}{base:Env}{J:List (Nat×Int×Nat)}(ph:Nat→Ph){f0:Nat→Value}(hT:P.underlying T=some (.map K E))(hK:P.underlying K=some (.int .i64))
   (hph:∀i v w w',(ph i).holds v w→Cel w w'→(ph i).holds v w')(hA:Dt ops=true)(hC:(Nat.beq k ops.size||Ff ops k)=true)(hF:H8 ops k=true)(hks:Nat.ble k ops.size=true)
   (hD:Gm n ops 0 k=true)(hbp:Cn base=true)(hbd:∀i ph,lk base i=some ph→∀(j:Nat)(o:Oper),0≤j→j<k→ops[j]?=some o→o.dst≠some i)
   (hlit:Ny ops m0 J=true)(hJi:(J.map (·.1)).Nodup)(hJk:(J.map (·.2.1)).Nodup)(hJl:∀j∈J,j.1<k)(hm0k:m0<k)
   (hm0:∃ty ps,ops[m0]?=some ⟨some ms,.makeMap T none,ty,ps,#[],none⟩)
   (hins:∀j∈J,∃ty ps af,ops[j.1]?=some ⟨none,.insert T (.tmp ms) (.const (vi j.2.1)) (.tmp j.2.2),ty,ps,af,none⟩)
   (hmp:∀b W,(ph m0).holds (.map (some b)) W)
   (hop:∀i o,i<k→i≠m0→i∉J.map (·.1)→ops[i]?=some o→o.guard=none∧∀W,Cel w W→∀a,Ag n ds (Jb ops ph 0 o++base) a W→bD P o a W (fun v W'=>Up W W'∧(ph i).holds v W'))
   (hend:∀f W b kv,Up w W→f ms=.map (some b)→IMap W b kv→kv.Perm (J.map fun j=>(j.2.1,f j.2.2))→AWF R m P n ds ops Q k (Ha ops ph 0 k++base) f W):AWF R m P n ds ops Q 0 base f0 w:=by
 refine Hy ph Cel (EZ m0 ms J w) Cel.refl (fun _ _ _=>Cel.trans) hph hA hC hF hks (by simp) hD hbp hbd ?_ ⟨Up.refl w,fun h=>by simp at h⟩ ?_
 · intro i o _ hik hio L f W hRel hDn hLi hed hInv
   obtain⟨hUp,hInv⟩:=hInv
   by_cases e0:i=m0
   · subst e0
     obtain⟨ty,ps,hm0⟩:=hm0
     rw[hio]at hm0;cases hm0
     intro a ha hsl
     rw[bg (by simp[Region.wanted])]
     obtain⟨v,W',hr,b,rfl,hM,hu,hb,hz⟩:=REv.makeMap (P:=P) (n:=n) (ds:=ds) (l:=Jb ops ph 0 _++base) (w:=W) (d:=some ms) (ty:=ty) (ps:=ps) (af:=#[]) (g:=none) a ha
     refine .inl (.inl ⟨_,W',hr,hu.G0,fun _ _=>hmp b W',hUp.trans hu,fun _=>⟨b,[],?_,?_,hM,?_⟩⟩)
     · simp[Dl]
     · have:=hUp.size;omega
     have:(J.filter fun j=>Cp L i j.1)=[]:=by
       rw[f8]
       intro j hj
       obtain⟨oj,hoj,_,⟨e,he,hbe,hon⟩,_⟩:=Hb hlit hj
       intro hLj
       have hne:j.1≠i:=fun e'=>by
         have:=D7 hA hoj e he hbe
         omega
       have:L j.1=true:=by simpa[Cp,hne]using hLj
       have:=hDn _ _ hoj this e he hbe
       rw[hon,hLi]at this;cases this
     rw[this];exact List.Perm.nil
   by_cases ej:i∈J.map (·.1)
   · obtain⟨⟨i',key,s⟩,hj,rfl⟩:=br.1 ej
     obtain⟨ty,ps,af,ho⟩:=hins _ hj
     rw[hio]at ho;cases ho
     intro a ha hsl
     rw[bg (by simp[Region.wanted])]
     obtain⟨oj,hoj,_,⟨e,he,hbe,hon⟩,⟨e',he',hbe',p,hp,hpd⟩⟩:=Hb hlit hj
     rw[hio]at hoj;cases hoj
     obtain⟨b,kv,h1,hb,hM,hperm⟩:=hInv (by rw[←hon];exact hed e he hbe)
     have hag:Ag n ds [(s,.eq (f s)),(ms,.eq (.map (some b)))] a W:=by
       refine⟨ha.defers,ha.size,fun t q ht=>?_⟩
       by_cases e1:t=s
       · subst e1;rw[A8]at ht;cases ht;exact hsl _
       rw[Be e1]at ht
       by_cases e2:t=ms
       · subst e2;rw[A8]at ht;cases ht;exact(hsl _).trans h1
       rw[Be e2]at ht;cases ht
     have vm:Val [(s,.eq (f s)),(ms,.eq (.map (some b)))] (.tmp ms) (.map (some b)):=by
       by_cases e1:ms=s
       · subst e1;exact .tmp (by rw[A8,h1])
       exact .tmp (by rw[Be e1,A8])
     obtain⟨W',hr,hM',hsto,hz⟩:=SEv.insert (P:=P) (n:=n) (ds:=ds) (w:=W) (ty:=ty) (ps:=ps) (af:=af) (g:=none) hT hK vm (.const (vi key)) (.tmp A8) hM a hag
     have hnk:key∉kv.map (·.1):=by
       intro hmem
       have:=(hperm.map (·.1)).mem_iff.1 hmem
       rw[fi]at this
       obtain⟨j',hj',hk'⟩:=br.1 this
       obtain⟨hj1,hj2⟩:=fd.1 hj'
       have:j'=(i',key,s):=rZ hJk hj1 hj hk'
       rw[this,hLi]at hj2
       cases hj2
     rw[X6 hnk]at hM'
     refine .inr ⟨W',hr,hsto.G0 oQ hM.Rp hM.X5,(fun d hd=>by cases hd),hUp.sto hsto hb,fun _=>⟨b,_,h1,hb,hM',?_⟩⟩
     have:=((Rr hJi hj hLi).map fun j=>(j.2.1,f j.2.2))
     refine List.Perm.trans ?_ this.symm
     rw[c9]
     exact(jr).trans (List.Perm.cons _ hperm)
   obtain⟨hg,hop⟩:=hop i o hik e0 ej hio
   intro a ha hsl
   rw[bg (by simp[Region.wanted,hg])]
   have done:∀v W',Up W W'∧(ph i).holds v W'→Cel W W'∧(∀d,o.dst=some d→(ph i).holds v W')∧EZ m0 ms J w (Cp L i) (Dl f o.dst v) W':=by
     rintro v W' ⟨hu,hv⟩
     refine⟨hu.G0,fun _ _=>hv,hUp.trans hu,fun hm=>?_⟩
     have hm':L m0=true:=by simpa[Cp,Ne.symm e0]using hm
     obtain⟨b,kv,h1,hb,hM,hperm⟩:=hInv hm'
     refine⟨b,kv,?_,hb,hM.up hu,?_⟩
     · obtain⟨ty,ps,hm0⟩:=hm0
       have:o.dst≠some ms:=by
         intro ed
         exact(C5 hD (a_ _) hik hio ed).2 m0 _ (a_ _) hm0k (Ne.symm e0) hm0 rfl
       simpa[Dl,this]using h1
     rw[Rq ej]
     have:((J.filter fun j=>L j.1).map fun j=>(j.2.1,Dl f o.dst v j.2.2))=(J.filter fun j=>L j.1).map fun j=>(j.2.1,f j.2.2):=by
       refine fo fun j hj=>?_
       obtain⟨hj1,hj2⟩:=fd.1 hj
       obtain⟨oj,hoj,_,_,⟨e',he',hbe',p,hp,hpd⟩⟩:=Hb hlit hj1
       have hne:o.dst≠some j.2.2:=by
         intro ed
         have h2:=hDn _ _ hoj hj2 e' he' hbe'
         have h3:=D7 hA hoj e' he' hbe'
         by_cases ee:e'.on=i
         · rw[ee,hLi]at h2;cases h2
         exact(C5 hD (a_ _) hik hio ed).2 e'.on p (a_ _) (by have:=hJl j hj1;omega) ee hp hpd
       simp[Dl,hne]
     rw[this]
     exact hperm
   rcases hop W hRel a ha with⟨v,W',hr,hp⟩|⟨fn,args,w1,hr,hc⟩
   · exact .inl (.inl ⟨v,W',hr,done v W' hp⟩)
   exact .inl (.inr ⟨fn,args,w1,hr,hc.mono done⟩)
 intro f W hRel hInv
 obtain⟨hUp,hInv⟩:=hInv
 obtain⟨b,kv,h1,_,h2,h3⟩:=hInv (by simpa using hm0k)
 refine hend f W b kv hUp h1 h2 ?_
 rwa [ik.2 (fun j hj=>by simpa using hJl j hj)]at h3
def PhC(q:Ph):Prop:=∀v w w',q.holds v w→Cel w w'→q.holds v w'
theorem PhC.eq(v:Value):PhC (.eq v):=fun _ _ _ h _=>h
theorem PhC.pred{p:Value→World→Prop}(h:∀v w w',p v w→Cel w w'→p v w'):PhC (.pred p):=h
def allC:List Ph→Prop
 |[]=>True
 |q::r=>PhC q∧allC r
theorem allC.at:∀{l:List Ph},allC l→∀i,PhC (l.getD i (.eq undef))
 |[],_,_=>by simpa using PhC.eq undef
 |_::_,h,0=>by simpa using h.1
 |_::_,h,i+1=>by simpa using allC.at h.2 i
theorem Fv:∀{l r:Env}{t:Nat},lk l t=none→lk (l++r) t=lk r t
 |[],_,_,_=>rfl
 |(j,q)::l,r,t,h=>by
   by_cases e:t=j
   · subst e;rw[A8]at h;cases h
   rw[Be e]at h
   rw[eu,Be e]
   exact Fv h
theorem Kj:∀{l r:Env}{t:Nat}{q:Ph},lk l t=some q→lk (l++r) t=some q
 |[],_,_,_,h=>by cases h
 |(j,q')::l,r,t,q,h=>by
   by_cases e:t=j
   · subst e;rw[A8]at h;cases h;rw[eu,A8]
   rw[Be e]at h
   rw[eu,Be e]
   exact Kj h
theorem Hq:∀{l:Env}{t:Nat}{q:Ph},(t,q)∈l→∃q',lk l t=some q'
 |[],_,_,h=>by cases h
 |(j,q')::l,t,q,h=>by
   by_cases e:t=j
   · subst e;exact⟨q',A8⟩
   rw[Be e]
   rcases bm.1 h with h|h
   · cases h;exact absurd rfl e
   exact Hq h
def TU(P:Program)(n:Nat)(ds:List Deferred)(env:Env)(W:World)(o:Oper)(q:Ph):Prop:=∀a,Ag n ds env a W→bD P o a W (fun v W'=>Up W W'∧q.holds v W')
theorem TU.p{env:Env}{o:Oper}{v:Value}{q:Ph}(h:PEv P n ds env w o v)(hx:q.holds v w):TU P n ds env w o q:=fun a ha=>.inl ⟨v,w,h a w ha (Up.refl w),Up.refl w,hx⟩
theorem TU.r{env:Env}{o:Oper}{q:Ph}{Post:Value→World→Prop}(h:REv P n ds env w o Post)(hx:∀v W',Post v W'→Up w W'∧q.holds v W'):TU P n ds env w o q:=fun a ha=>
 let⟨v,W',hr,hp⟩:=h a ha
 .inl ⟨v,W',hr,hx v W' hp⟩
theorem TU.c{env:Env}{o:Oper}{q:Ph}{f:FuncId}{args:Array Value}{Post:Value→World→Prop}(he:∀a,Ag n ds env a w→(execOp a.eval o).run P w=.ok (.enter f args) w)(hc:Ret P f args w Post)(hx:∀v W',Post v W'→Up w W'∧q.holds v W'):TU P n ds env w o q:=fun a ha=>
 .inr ⟨f,args,w,he a ha,hc.mono hx⟩
theorem TU.open{env:Env}{o:Oper}{q:Ph}{d:Nat}{p:Value→World→Prop}(hp:lk env d=some (.pred p))(h:∀v,p v w→TU P n ds ((d,.eq v)::env) w o q):TU P n ds env w o q:=fun a ha=>
 h _ (ha.val d _ hp) a ⟨ha.defers,ha.size,fun i ph hi=>by
   by_cases e:i=d
   · subst e
     rw[A8]at hi
     cases hi
     rfl
   rw[Be e]at hi
   exact ha.val i ph hi⟩
theorem iX{id:Nat}{opsL:List Oper}(k m0 ms:Nat)(J:List (Nat×Int×Nat))(phs:List Ph){T K E:Nat}(hT:P.underlying T=some (.map K E))(hK:P.underlying K=some (.int .i64))(hm:P.follows .mixedOrders=true)(hl:Cn l=true)
   (hA:Dt opsL.toArray=true)(hC:(Nat.beq k opsL.toArray.size||Ff opsL.toArray k)=true)(hF:H8 opsL.toArray k=true)(hks:Nat.ble k opsL.toArray.size=true)(hD:Gm n opsL.toArray 0 k=true)(hlit:Ny opsL.toArray m0 J=true)(hTl:Gl opsL.toArray k=true)
   (hfree:Iz l (opsL.take k)=true)(hJ:(decide (J.map (·.1)).Nodup&&(decide (J.map (·.2.1)).Nodup&&(J.all fun j=>Nat.ble (j.1+1) k)&&Nat.ble (m0+1) k))=true)
   (hm0:∃ty ps,opsL[m0]?=some ⟨some ms,.makeMap T none,ty,ps,#[],none⟩)(hph:allC phs)(hmp:∀b W,(phs.getD m0 (.eq undef)).holds (.map (some b)) W)
   (hop:∀W,Cel w.drew W→allL (fun i o=>(i=m0∨(J.any fun j=>Nat.beq j.1 i)=true∧∀j∈J,j.1=i→∃ty ps af,o=⟨none,.insert T (.tmp ms) (.const (vi j.2.1)) (.tmp j.2.2),ty,ps,af,none⟩)∨(o.guard=none∧(J.any fun j=>Nat.beq j.1 i)=false∧TU P n ds (Jb opsL.toArray (fun i=>phs.getD i (.eq undef)) 0 o++l) W o (phs.getD i (.eq undef)))) 0 (opsL.take k))
   (hend:∀W b kv(g:Nat→Value),Up w.drew W→IMap W b kv→kv.Perm (J.map fun j=>(j.2.1,g j.2.2))→(∀i o d,i<k→opsL[i]?=some o→o.dst=some d→(phs.getD i (.eq undef)).holds (g d) W)→LW R m P n ds opsL.toArray Q (opsL.drop k) ((ms,.eq (.map (some b)))::l) W):
   CW R m P n ds (.region id opsL.toArray true) Q l w:=by
 simp only[bw,ge]at hJ
 obtain⟨hJi,⟨hJk,hJl⟩,hm0k⟩:=hJ
 have hks':k≤opsL.length:=by have:=be hks;simp at this;omega
 have hJl':∀j∈J,j.1<k:=fun j hj=>be (db.1 hJl j hj)
 have sub:∀j o,j<k→opsL.toArray[j]?=some o→(opsL.take k)[j]?=some o:=fun j o hjk ho=>by
   rw[di hjk];simpa using ho
 have hbd:∀i ph,lk l i=some ph→∀(j:Nat)(o:Oper),0≤j→j<k→opsL.toArray[j]?=some o→o.dst≠some i:=fun i ph hi j o _ hjk ho=>F4 hfree hi (ai (sub j o hjk ho))
 have any_iff:∀i,(J.any fun j=>Nat.beq j.1 i)=true↔i∈J.map (·.1):=fun i=>by
   rw[ij,br]
   exact⟨fun⟨j,hj,h⟩=>⟨j,hj,ce h⟩,fun⟨j,hj,h⟩=>⟨j,hj,by rw[h];simp⟩⟩
 refine Em hm hl fun fuel listed a hf hu ha=>(AWF.bM (T:=T) (K:=K) (E:=E) (m0:=m0) (ms:=ms) (J:=J) (k:=k) (fun i=>phs.getD i (.eq undef)) (f0:=fun t=>a.tmps.getD t undef) hT hK (fun i v w w' h u=>(hph.at i) v w w' h u) hA hC hF hks hD hl hbd hlit hJi hJk hJl' (be hm0k) (by simpa using hm0) ?_ hmp ?_ ?_ fuel listed a hf hu ha (fun _=>rfl))
 · intro j hj
   obtain⟨oj,hoj,_⟩:=Hb hlit hj
   have:=(hop w.drew (Cel.refl _)).at (sub j.1 oj (hJl' j hj) hoj)
   rw[dm]at this
   rcases this with(e|⟨_,h⟩)|⟨_,h,_⟩
   · exfalso
     obtain⟨ty,ps,hm0⟩:=hm0
     obtain⟨o',ho',hd',_⟩:=Hb hlit hj
     rw[e]at ho'
     have:opsL[m0]?=some o':=by simpa using ho'
     rw[hm0]at this;cases this;cases hd'
   · obtain⟨ty,ps,af,ho⟩:=h j hj rfl
     exact⟨ty,ps,af,by rw[hoj,ho]⟩
   rw[(any_iff j.1).2 (br.2 ⟨j,hj,rfl⟩)]at h;cases h
 · intro i o hik hne hnj ho
   have h0:=(hop w.drew (Cel.refl _)).at (sub i o hik ho)
   rw[dm]at h0
   rcases h0 with(e|⟨h,_⟩)|⟨hg,_,_⟩
   · exact absurd e hne
   · exact absurd ((any_iff i).1 h) hnj
   refine⟨hg,fun W hW a ha=>?_⟩
   have h1:=(hop W hW).at (sub i o hik ho)
   rw[dm]at h1
   rcases h1 with(e|⟨h,_⟩)|⟨_,_,h⟩
   · exact absurd e hne
   · exact absurd ((any_iff i).1 h) hnj
   exact h a ha
 intro f W b kv hUp hfm hM hperm fuel' listed' a' hf' hu' ha' hsl'
 have key:∀i o d,i<k→opsL[i]?=some o→o.dst=some d→(phs.getD i (.eq undef)).holds (f d) W:=by
   intro i o d hik ho hd
   have ho':opsL.toArray[i]?=some o:=by simpa using ho
   have hmem:(d,phs.getD i (.eq undef))∈Ha opsL.toArray (fun i=>phs.getD i (.eq undef)) 0 k:=by
     unfold Ha
     rw[ft]
     exact⟨i,ck.2 hik,by rw[bg (by simp),ho'];simp[hd]⟩
   obtain⟨q',hq⟩:=Hq hmem
   obtain⟨j,p,_,hjk,hp,hpd,e⟩:=E4 hq
   have:j=i:=by
     by_cases ee:j=i
     · exact ee
     exact absurd hpd ((C5 hD (a_ _) hik ho' hd).2 j p (a_ _) hjk ee hp)
   subst this
   have:=ha'.val d q' (Kj hq)
   rw[hsl',e]at this
   exact this
 refine Es hTl hA (opsL.toArray.size-k) k fuel' listed' a' W rfl (by simp;omega) (bi _) hf' hu' ?_
 have h2:=hend W b kv f hUp hM hperm key
 refine h2 a' ⟨ha'.defers,ha'.size,fun t q ht=>?_⟩
 by_cases e:t=ms
 · subst e;rw[A8]at ht;cases ht
   exact(hsl' _).trans hfm
 rw[Be e]at ht
 refine ha'.val t q ?_
 rw[Fv]
 · exact ht
 cases hq:lk (Ha opsL.toArray (fun i=>phs.getD i (.eq undef)) 0 k) t with
 |none=>rfl
 |some q'=>
   obtain⟨j,p,_,hjk,hp,hpd,_⟩:=E4 hq
   exact absurd hpd (hbd t q ht j p (a_ _) hjk hp)
theorem PEv.Hr{d:Option Tmp}{ty:TypeId}{ps:String}{af:Array Edge}{g:Option (Nat×Bool)}{T K E:TypeId}{mo x:Operand}{b:Nat}{k:Int}{v:Value}{kv:List (Int×Value)}{ok:Bool}(hT:P.underlying T=some (.map K E))(hK:P.underlying K=some (.int .i64))(hm:Val l mo (.map (some b)))(hx:Val l x (vi k))(h:IMap w b kv)(hkv:(k,v)∈kv):
   PEv P n ds l w ⟨d,.lookup T mo x ok,ty,ps,af,g⟩ (if ok then .tuple #[v,.bool true]else v):=fun a w' ha hu=>by
 obtain⟨es,clock,hb,hs,he⟩:=h.up hu
 have hk:IsKey (.int .i64) (vi k):=rfl
 refine Cy ?_
 rw[ha.ev hm,ha.ev hx]
 rcases findNow_spec hk es.toList 0 (G4 he)with⟨h1,h2⟩|⟨j,e,h1,h2,h3⟩
 · exfalso
   obtain⟨x',hx',hkx,_⟩:=F1 he hkv
   exact h2 x' hx' hkx
 obtain⟨x',hx',hkx,hvx⟩:=F1 he hkv
 have hv:e.val=v:=by
   have:=Fe (je.1 hs.2.2) (ai h2) hx' (by rw[h3,hkx])
   rw[this];exact hvx
 cases ok<;>simp[Instr.lookup,run_underlying hT,MapKept.run_getObj_map hb,MapKept.run_checkKey hK hk,MapKept.run_findKey hK h1,Result.andThen,hv]
theorem PEv.Nz{d:Option Tmp}{ty:TypeId}{ps:String}{af:Array Edge}{g:Option (Nat×Bool)}{T K E:TypeId}{mo x:Operand}{b:Nat}{k:Int}{z:Value}{kv:List (Int×Value)}{ok:Bool}(hT:P.underlying T=some (.map K E))(hK:P.underlying K=some (.int .i64))(hz:∀w,(zeroValue E).run P w=.ok z w)(hm:Val l mo (.map (some b)))(hx:Val l x (vi k))(h:IMap w b kv)(hkv:k∉kv.map (·.1)):
   PEv P n ds l w ⟨d,.lookup T mo x ok,ty,ps,af,g⟩ (if ok then .tuple #[z,.bool false]else z):=fun a w' ha hu=>by
 obtain⟨es,clock,hb,hs,he⟩:=h.up hu
 have hk:IsKey (.int .i64) (vi k):=rfl
 refine Cy ?_
 rw[ha.ev hm,ha.ev hx]
 rcases findNow_spec hk es.toList 0 (G4 he)with⟨h1,h2⟩|⟨j,e,h1,h2,h3⟩
 · cases ok<;>simp[Instr.lookup,run_underlying hT,MapKept.run_getObj_map hb,MapKept.run_checkKey hK hk,MapKept.run_findKey hK h1,Result.andThen,hz]
 exfalso
 obtain⟨k',hk',hkv'⟩:=Iv he e (ai h2)
 have:k'=k:=bE (hk'.symm.trans h3)
 exact hkv (br.2 ⟨_,hkv',this⟩)
theorem Uq{base done:Env}{w0:World}{o:Oper}{rest:List Oper}{K:Env→Prop}{d:Nat}{p:Value→World→Prop}{f:FuncId}{args:Array Value}(hp:∀v w w',p v w→Up w w'→p v w')(he:∀a w,Up w0 w→Ag n ds (Cd (o.looksAt ops) done++base) a w→(execOp a.eval o).run P w=.ok (.enter f args) w)(hg:o.guard=none)(hd:o.dst=some d)
   (hc:∀w,Up w0 w→Ret P f args w fun v w'=>Up w w'∧p v w')(k:HW P n ds ops base w0 ((d,.pred p)::done) rest K):HW P n ds ops base w0 done (o::rest) K:=
 ⟨.pred p,d,hd,hp,fun a w hu ha=>by
   rw[bg (by simp[Region.wanted,hg])]
   exact .inr ⟨f,args,w,he a w hu ha,(hc w hu).mono fun v w'⟨h1,h2⟩=>⟨h1,h2⟩⟩,k⟩
def SlT{α:Type}(e:TypeId)(w:World)(v:Value)(k:Nat)(enc:α→Array Value)(xs:List α):Prop:=Sl w v k enc xs∧∀B o n c,v=.slice (some ⟨B,o,none⟩) n c→∃cs x,w.heap[B]?=some (Obj.cells cs e x)
theorem SlT.G0{α:Type}{e:TypeId}{w w':World}{v:Value}{k:Nat}{enc:α→Array Value}{xs:List α}(h:SlT e w v k enc xs)(u:Cel w w'):SlT e w' v k enc xs:=⟨h.1.G0 u,fun B o n c hv=>let⟨cs,x,hb⟩:=h.2 B o n c hv;⟨cs,x,u.blk _ _ _ _ hb⟩⟩
theorem SlT.up{α:Type}{e:TypeId}{w w':World}{v:Value}{k:Nat}{enc:α→Array Value}{xs:List α}(h:SlT e w v k enc xs)(u:Up w w'):SlT e w' v k enc xs:=h.G0 u.G0
theorem SlT.lit{α:Type}{T:TypeId}{w w':World}{k:Nat}{enc:α→Array Value}{xs:List α}{v:Value}(h:NewSl w T k enc xs v w'):SlT T w' v k enc xs:=by
 have h2:=h.q.2
 obtain⟨B,cs,rfl,N,_,_⟩:=h
 exact⟨h2,fun B' o n c hv=>by cases hv;exact⟨cs,_,N.blk⟩⟩
theorem SlT.own{α:Type}{base:Nat}{e:TypeId}{w:World}{v:Value}{k:Nat}{enc:α→Array Value}{xs:List α}(h:OwnS w base e k enc v xs)(hk:∀x,(enc x).size=k):SlT e w v k enc xs:=by
 refine⟨h.sl hk,fun B o n c hv=>?_⟩
 obtain⟨_,h2⟩:=h
 rcases h2 with⟨rfl,_⟩|⟨g,cap,cur,rfl,hb,hg,_⟩
 · cases hv
 cases hv;exact⟨_,_,hg⟩
theorem Ci{α:Type}(e:TypeId)(k:Nat)(enc:α→Array Value)(xs:List α):PhC (.pred fun v w=>SlT e w v k enc xs):=fun _ _ _ h u=>SlT.G0 h u
end
end Go.Wx
namespace Go.Wx
open Go.RowKit
structure KeepT(T:TypeId)(w w':World):Prop where
 size:w.heap.size≤w'.heap.size
 obj:∀(b:Nat)(o:Obj),w.heap[b]?=some o→(∀cs x,o≠Obj.cells cs T x)→w'.heap[b]?=some o
theorem KeepT.refl(T:TypeId)(w:World):KeepT T w w:=⟨bi _,fun _ _ h _=>h⟩
theorem KeepT.trans{T:TypeId}{w w1 w2:World}(h:KeepT T w w1)(k:KeepT T w1 w2):KeepT T w w2:=⟨b6 h.size k.size,fun b o hb hn=>k.obj b o (h.obj b o hb hn) hn⟩
theorem Up.Dc{T:TypeId}{w w':World}(u:Up w w'):KeepT T w w':=⟨u.size,fun _ _ h _=>(u.block (lt_of_block h)).trans h⟩
theorem Sto.Dc{T:TypeId}{w w':World}{B:Nat}{cs:Array Value}(u:Sto B w w')(hz:w.heap.size≤w'.heap.size)(hb:Blk w B cs T):KeepT T w w':=⟨hz,fun b o h hn=>by
 by_cases e:b=B
 · subst e;unfold Blk at hb;rw[hb]at h;cases h;exact absurd rfl (hn _ _)
 exact(u.block b (lt_of_block h) e).trans h⟩
theorem Blk.Dc{T e:TypeId}{w w':World}{B:Nat}{cs:Array Value}(h:Blk w B cs e)(hne:Nat.beq e T=false)(u:KeepT T w w'):Blk w' B cs e:=u.obj _ _ h (fun _ _ e'=>by cases e';simp at hne)
theorem IMap.Dc{T:TypeId}{w w':World}{b:Nat}{kv:List (Int×Value)}(h:IMap w b kv)(u:KeepT T w w'):IMap w' b kv:=by
 obtain⟨es,clock,h1,h2⟩:=h
 exact⟨es,clock,u.obj _ _ h1 (fun _ _ e=>by cases e),h2⟩
theorem SlT.Dc{α:Type}{e T:TypeId}{w w':World}{v:Value}{k:Nat}{enc:α→Array Value}{xs:List α}(h:SlT e w v k enc xs)(hne:Nat.beq e T=false)(u:KeepT T w w'):SlT e w' v k enc xs:=by
 have hne:e≠T:=fun e'=>by rw[e']at hne;simp at hne
 obtain⟨⟨ad,c,rfl,hE⟩,ht⟩:=h
 have keep:∀B o,ad=some ⟨B,o,none⟩→∃cs x,w.heap[B]?=some (Obj.cells cs e x)∧w'.heap[B]?=some (Obj.cells cs e x):=fun B o hB=>by
   obtain⟨cs,x,hb⟩:=ht B o _ _ (by rw[hB])
   exact⟨cs,x,hb,u.obj _ _ hb (fun _ _ e'=>by cases e';exact hne rfl)⟩
 refine⟨⟨ad,c,rfl,fun i x hx=>?_⟩,fun B o n c' hv=>?_⟩
 · obtain⟨B,o,hB,hA⟩:=hE i x hx
   obtain⟨cs,y,h1,h2⟩:=keep B o hB
   refine⟨B,o,hB,fun j v hv=>?_⟩
   have:=hA j v hv
   unfold World.cell? at this⊢
   rw[h1]at this
   rw[h2]
   exact this
 cases hv
 obtain⟨cs,x,h1,h2⟩:=keep B o rfl
 exact⟨cs,x,h2⟩
section
variable {R:Option Nat}{m:Nat}{P:Program}{n:Nat}{ds:List Deferred}{Q:Exit→Go.Act→World→Prop}{l:Env}{w:World}{ops:Array Oper}
def sA(ia is sa sv:Nat)(T:TypeId)(z:Array Value)(w0:World)(L:Nat→Bool)(f:Nat→Value)(W:World):Prop:=
 Up w0 W∧(L is=true→L ia=true)∧(L ia=true→∃B,f sa=.pointer (some ⟨B,0,none⟩)∧w0.heap.size≤B∧Blk W B (if L is=true then(f sv).cells else z) T)
theorem AWF.box{k ia is isv sa sv:Nat}{T:TypeId}{z:Array Value}{base:Env}(ph:Nat→Ph){f0:Nat→Value}(hz:∀w,(zeroValue T).run P w=.ok (.agg z) w)(hs:∀w,(sizeOf T).run P w=.ok z.size w)
   (hph:∀i v w w',(ph i).holds v w→KeepT T w w'→(ph i).holds v w')(hA:Dt ops=true)(hC:(Nat.beq k ops.size||Ff ops k)=true)(hF:H8 ops k=true)(hks:Nat.ble k ops.size=true)
   (hD:Gm n ops 0 k=true)(hbp:Cn base=true)(hbd:∀i ph,lk base i=some ph→∀(j:Nat)(o:Oper),0≤j→j<k→ops[j]?=some o→o.dst≠some i)
   (hlit:Ny ops ia [(is,0,sv)]=true)(hik:is<k)(hiak:ia<k)(hne:ia≠is)
   (hia:∃ty ps af,ops[ia]?=some ⟨some sa,.alloc T,ty,ps,af,none⟩)(his:∃ty ps af,ops[is]?=some ⟨none,.store T (.tmp sa) (.tmp sv),ty,ps,af,none⟩)
   (hlk:∀o,ops[is]?=some o→lk (Jb ops ph 0 o++base) sv=some (ph isv))(hsv:∀v W,(ph isv).holds v W→∃cs,v=.agg cs∧cs.size=z.size∧cs.all (·.oneCell')=true)
   (hpa:∀B W,(ph ia).holds (.pointer (some ⟨B,0,none⟩)) W)
   (hop:∀i o,i<k→i≠ia→i≠is→ops[i]?=some o→o.guard=none∧∀W,KeepT T w W→∀a,Ag n ds (Jb ops ph 0 o++base) a W→bD P o a W (fun v W'=>Up W W'∧(ph i).holds v W'))
   (hend:∀f W B,Up w W→f sa=.pointer (some ⟨B,0,none⟩)→w.heap.size≤B→Blk W B (f sv).cells T→AWF R m P n ds ops Q k (Ha ops ph 0 k++base) f W):AWF R m P n ds ops Q 0 base f0 w:=by
 obtain⟨os,hos,hods,⟨e,he,hbe,hon⟩,⟨e',he',hbe',pv,hpv,hpvd⟩⟩:=Hb hlit bu
 refine Hy ph (KeepT T) (sA ia is sa sv T z w) (KeepT.refl T) (fun _ _ _=>KeepT.trans) hph hA hC hF hks (by simp) hD hbp hbd ?_ ⟨Up.refl w,fun h=>by simp at h,fun h=>by simp at h⟩ ?_
 · intro i o _ hi hio L f W hRel hDn hLi hed hInv
   obtain⟨hUp,hsa,hInv⟩:=hInv
   by_cases e0:i=ia
   · subst e0
     obtain⟨ty,ps,af,hia⟩:=hia
     rw[hio]at hia;cases hia
     intro a ha hsl
     rw[bg (by simp[Region.wanted])]
     obtain⟨v,W',hr,B,rfl,N⟩:=REv.Cb (P:=P) (n:=n) (ds:=ds) (l:=Jb ops ph 0 _++base) (w:=W) (d:=some sa) (ty:=ty) (ps:=ps) (af:=af) (g:=none) hz a ha
     have hLs:L is=false:=by
       cases h:L is with
       |false=>rfl
       |true=>rw[hsa h]at hLi;cases hLi
     refine .inl (.inl ⟨_,W',hr,N.up.Dc,fun _ _=>hpa B W',hUp.trans N.up,fun _=>by simp[Cp],fun _=>⟨B,by simp[Dl],by rw[N.at_];exact hUp.size,?_⟩⟩)
     have:Cp L i is=false:=by simp[Cp,Ne.symm hne,hLs]
     rw[this]
     exact N.blk
   by_cases e1:i=is
   · subst e1
     have hLa:L ia=true:=by rw[hos]at hio;cases hio;rw[←hon];exact hed e he hbe
     obtain⟨ty,ps,af,his⟩:=his
     rw[hio]at his;cases his
     intro a ha hsl
     rw[bg (by simp[Region.wanted])]
     obtain⟨B,h1,hB,hblk⟩:=hInv hLa
     rw[hLi]at hblk
     obtain⟨cs,hcs,hcz,hc1⟩:=hsv _ W (ha.val sv _ (hlk _ hio))
     have hfs:f sv=.agg cs:=by rw[←hsl];exact hcs
     have hag:Ag n ds [(sv,.eq (.agg cs)),(sa,.eq (.pointer (some ⟨B,0,none⟩)))] a W:=by
       refine⟨ha.defers,ha.size,fun t q ht=>?_⟩
       by_cases e1:t=sv
       · subst e1;rw[A8]at ht;cases ht;exact hcs
       rw[Be e1]at ht
       by_cases e2:t=sa
       · subst e2;rw[A8]at ht;cases ht;exact(hsl _).trans h1
       rw[Be e2]at ht;cases ht
     have hsn:sa≠sv:=fun e'=>by rw[e',hfs]at h1;cases h1
     obtain⟨W',hr,hset⟩:=SEv.Cc (P:=P) (n:=n) (ds:=ds) (w:=W) (l:=[(sv,.eq (.agg cs)),(sa,.eq (.pointer (some ⟨B,0,none⟩)))]) (x:=.tmp sa) (y:=.tmp sv) (ty:=ty) (ps:=ps) (af:=af) (g:=none) hs hcz (.tmp (by rw[Be hsn,A8])) (.tmp A8) hc1 hblk (by simp) a hag
     refine .inr ⟨W',hr,hset.sto.Dc (by rw[hset.size];exact bi _) hblk,(fun d hd=>by cases hd),hUp.sto hset.sto hB,fun _=>by simp[Cp,hLa],fun _=>⟨B,h1,hB,?_⟩⟩
     have h2:Cp L i i=true:=by simp[Cp]
     rw[h2,bg rfl]
     show Blk W' B (f sv).cells T
     rw[hfs]
     exact hset.blk
   obtain⟨hg,hop⟩:=hop i o hi e0 e1 hio
   intro a ha hsl
   rw[bg (by simp[Region.wanted,hg])]
   have done:∀v W',Up W W'∧(ph i).holds v W'→KeepT T W W'∧(∀d,o.dst=some d→(ph i).holds v W')∧sA ia is sa sv T z w (Cp L i) (Dl f o.dst v) W':=by
     rintro v W' ⟨hu,hv⟩
     have ela:Cp L i ia=L ia:=by simp[Cp,Ne.symm e0]
     have els:Cp L i is=L is:=by simp[Cp,Ne.symm e1]
     refine⟨hu.Dc,fun _ _=>hv,hUp.trans hu,fun h=>by rw[ela];rw[els]at h;exact hsa h,fun hm=>?_⟩
     rw[ela]at hm
     obtain⟨B,h1,hB,hblk⟩:=hInv hm
     have hn1:o.dst≠some sa:=by
       obtain⟨ty,ps,af,hia⟩:=hia
       intro ed
       exact(C5 hD (a_ _) hi hio ed).2 ia _ (a_ _) hiak (Ne.symm e0) hia rfl
     refine⟨B,by simpa[Dl,hn1]using h1,hB,?_⟩
     rw[els]
     cases hLs:L is with
     |false=>rw[hLs]at hblk;exact hblk.up hu
     |true=>
       rw[hLs]at hblk
       have hn2:o.dst≠some sv:=by
         intro ed
         have h2:=hDn _ _ hos hLs e' he' hbe'
         have h3:=D7 hA hos e' he' hbe'
         by_cases ee:e'.on=i
         · rw[ee,hLi]at h2;cases h2
         exact(C5 hD (a_ _) hi hio ed).2 e'.on pv (a_ _) (by have:e'.on<is:=h3;omega) ee hpv hpvd
       have h4:Dl f o.dst v sv=f sv:=by simp[Dl,hn2]
       rw[h4]
       exact hblk.up hu
   rcases hop W hRel a ha with⟨v,W',hr,hp⟩|⟨fn,args,w1,hr,hc⟩
   · exact .inl (.inl ⟨v,W',hr,done v W' hp⟩)
   exact .inl (.inr ⟨fn,args,w1,hr,hc.mono done⟩)
 intro f W hRel hInv
 obtain⟨hUp,_,hInv⟩:=hInv
 obtain⟨B,h1,hB,h2⟩:=hInv (by simpa using hiak)
 rw[bg (by simpa using hik)]at h2
 exact hend f W B hUp h1 hB h2
def PhT(T:TypeId)(q:Ph):Prop:=∀v w w',q.holds v w→KeepT T w w'→q.holds v w'
theorem PhT.eq(T:TypeId)(v:Value):PhT T (.eq v):=fun _ _ _ h _=>h
theorem n_{T:TypeId}{v:Value}:PhT T (.eq v):=PhT.eq _ _
theorem PhT.pred{T:TypeId}{p:Value→World→Prop}(h:∀v w w',p v w→KeepT T w w'→p v w'):PhT T (.pred p):=h
def allT(T:TypeId):List Ph→Prop
 |[]=>True
 |q::r=>PhT T q∧allT T r
theorem allT.at{T:TypeId}:∀{l:List Ph},allT T l→∀i,PhT T (l.getD i (.eq undef))
 |[],_,_=>by simpa using PhT.eq T undef
 |_::_,h,0=>by simpa using h.1
 |_::_,h,i+1=>by simpa using allT.at h.2 i
theorem CW.box{id:Nat}{opsL:List Oper}(k ia is isv sa sv:Nat)(z:Array Value)(phs:List Ph)(keep:List Nat){T:TypeId}(hz:∀w,(zeroValue T).run P w=.ok (.agg z) w)(hs:∀w,(sizeOf T).run P w=.ok z.size w)(hm:P.follows .mixedOrders=true)(hl:Cn l=true)
   (hA:Dt opsL.toArray=true)(hC:(Nat.beq k opsL.toArray.size||Ff opsL.toArray k)=true)(hF:H8 opsL.toArray k=true)(hks:Nat.ble k opsL.toArray.size=true)(hD:Gm n opsL.toArray 0 k=true)(hlit:Ny opsL.toArray ia [(is,0,sv)]=true)(hTl:Gl opsL.toArray k=true)
   (hfree:Iz l (opsL.take k)=true)(hidx:(Nat.ble (is+1) k&&(Nat.ble (ia+1) k&& !Nat.beq ia is))=true)
   (hia:∃ty ps af,opsL[ia]?=some ⟨some sa,.alloc T,ty,ps,af,none⟩)(os:Oper)(hos:opsL[is]?=some os)(his:∃ty ps af,os=⟨none,.store T (.tmp sa) (.tmp sv),ty,ps,af,none⟩)(hph:allT T phs)
   (hlk:lk (Jb opsL.toArray (fun i=>phs.getD i (.eq undef)) 0 os++l) sv=some (phs.getD isv (.eq undef)))(hsv:∀v W,(phs.getD isv (.eq undef)).holds v W→∃cs,v=.agg cs∧cs.size=z.size∧cs.all (·.oneCell')=true)
   (hpa:∀B W,(phs.getD ia (.eq undef)).holds (.pointer (some ⟨B,0,none⟩)) W)
   (hop:∀W,KeepT T w.drew W→allL (fun i o=>(i=ia∨i=is)∨(o.guard=none∧TU P n ds (Jb opsL.toArray (fun i=>phs.getD i (.eq undef)) 0 o++l) W o (phs.getD i (.eq undef)))) 0 (opsL.take k))
   (hend:∀W B(g:Nat→Value),Up w.drew W→w.drew.heap.size≤B→Blk W B (g sv).cells T→(∀i o d,i<k→opsL[i]?=some o→o.dst=some d→(phs.getD i (.eq undef)).holds (g d) W)→LW R m P n ds opsL.toArray Q (opsL.drop k) ((sa,.eq (.pointer (some ⟨B,0,none⟩)))::(keep.map (fun d=>(d,.eq (g d)))++l)) W):
   CW R m P n ds (.region id opsL.toArray true) Q l w:=by
 simp only[bw]at hidx
 obtain⟨hik,hiak,hne⟩:=hidx
 have hik:is<k:=be hik
 have hiak:ia<k:=be hiak
 have hne:ia≠is:=fun e=>by subst e;simp at hne
 have hks':k≤opsL.length:=by have:=be hks;simp at this;omega
 have sub:∀j o,j<k→opsL.toArray[j]?=some o→(opsL.take k)[j]?=some o:=fun j o hjk ho=>by
   rw[di hjk];simpa using ho
 have hbd:∀i ph,lk l i=some ph→∀(j:Nat)(o:Oper),0≤j→j<k→opsL.toArray[j]?=some o→o.dst≠some i:=fun i ph hi j o _ hjk ho=>F4 hfree hi (ai (sub j o hjk ho))
 refine Em hm hl fun fuel listed a hf hu ha=>(AWF.box (k:=k) (ia:=ia) (is:=is) (isv:=isv) (sa:=sa) (sv:=sv) (T:=T) (z:=z) (fun i=>phs.getD i (.eq undef)) (f0:=fun t=>a.tmps.getD t undef) hz hs (fun i v w w' h u=>(hph.at i) v w w' h u) hA hC hF hks hD hl hbd hlit hik hiak hne (by simpa using hia) ?_ ?_ hsv hpa ?_ ?_ fuel listed a hf hu ha (fun _=>rfl))
 · obtain⟨ty,ps,af,e⟩:=his
   exact⟨ty,ps,af,by rw[←e];simpa using hos⟩
 · intro o ho
   have:opsL[is]?=some o:=by simpa using ho
   rw[hos]at this;cases this
   exact hlk
 · intro i o hi h1 h2 ho
   have h0:=(hop w.drew (KeepT.refl T _)).at (sub i o hi ho)
   rw[dm]at h0
   rcases h0 with(e|e)|⟨hg,_⟩
   · exact absurd e h1
   · exact absurd e h2
   refine⟨hg,fun W hW a ha=>?_⟩
   have h3:=(hop W hW).at (sub i o hi ho)
   rw[dm]at h3
   rcases h3 with(e|e)|⟨_,h⟩
   · exact absurd e h1
   · exact absurd e h2
   exact h a ha
 intro f W B hUp hfa hB hblk fuel' listed' a' hf' hu' ha' hsl'
 have key:∀i o d,i<k→opsL[i]?=some o→o.dst=some d→(phs.getD i (.eq undef)).holds (f d) W:=by
   intro i o d hik ho hd
   have ho':opsL.toArray[i]?=some o:=by simpa using ho
   have hmem:(d,phs.getD i (.eq undef))∈Ha opsL.toArray (fun i=>phs.getD i (.eq undef)) 0 k:=by
     unfold Ha
     rw[ft]
     exact⟨i,ck.2 hik,by rw[bg (by simp),ho'];simp[hd]⟩
   obtain⟨q',hq⟩:=Hq hmem
   obtain⟨j,p,_,hjk,hp,hpd,e⟩:=E4 hq
   have:j=i:=by
     by_cases ee:j=i
     · exact ee
     exact absurd hpd ((C5 hD (a_ _) hik ho' hd).2 j p (a_ _) hjk ee hp)
   subst this
   have:=ha'.val d q' (Kj hq)
   rw[hsl',e]at this
   exact this
 refine Es hTl hA (opsL.toArray.size-k) k fuel' listed' a' W rfl (by simp;omega) (bi _) hf' hu' (hend W B f hUp hB hblk key a' ⟨ha'.defers,ha'.size,fun t q ht=>?_⟩)
 by_cases e:t=sa
 · subst e;rw[A8]at ht;cases ht
   exact(hsl' _).trans hfa
 rw[Be e]at ht
 rcases Dg ht with h|h
 · obtain⟨d,_,he⟩:=br.1 (Ki h)
   cases he
   exact hsl' _
 refine ha'.val t q ?_
 rw[Fv]
 · exact h
 cases hq:lk (Ha opsL.toArray (fun i=>phs.getD i (.eq undef)) 0 k) t with
 |none=>rfl
 |some q'=>
   obtain⟨j,p,_,hjk,hp,hpd,_⟩:=E4 hq
   exact absurd hpd (hbd t q h j p (a_ _) hjk hp)
end
end Go.Wx
