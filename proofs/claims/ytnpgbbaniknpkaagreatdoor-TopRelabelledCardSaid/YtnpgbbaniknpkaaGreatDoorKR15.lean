import Derived.Test.YtnpgbbaniknpkaaGreatDoorKR14
import Derived.Test.YtnpgbbaniknpkaaGreatDoorProg
namespace Go
abbrev k_:=@Proofs.Tryz.underlying23
abbrev lf:=@Proofs.Tryz.underlying25
abbrev lg:=@Proofs.Tryz.sizeOf3
abbrev lh:=@Proofs.Tryz.sizeOf35
abbrev li:=@Proofs.Tryz.underlying3
abbrev lj:=@Proofs.Tryz.zeroValue191
abbrev ll:=@Proofs.Tryz.zeroValue35
abbrev lq:=@Proofs.Tryz.zeroValue3
abbrev lr:=@Proofs.Tryz.underlying26
abbrev lv:=@Proofs.Tryz.underlying208
abbrev lw:=@Proofs.Tryz.underlying134
abbrev ly:=@Proofs.Tryz.sizeOf191
abbrev lz:=@Proofs.Tryz.underlying191
abbrev l4:=@Proofs.Tryz.sizeOf49
abbrev l5:=@Proofs.Tryz.underlying9
abbrev l6:=@Proofs.Tryz.sizeOf37
abbrev l7:=@Proofs.Tryz.isAgg3
abbrev l8:=@Proofs.Tryz.underlying215
abbrev l9:=@Proofs.Tryz.underlying27
abbrev l_:=@Proofs.Tryz.zeroValue49
abbrev ma:=@Proofs.Tryz.zeroValue136
abbrev mb:=@Proofs.Tryz.underlying158
abbrev mc:=@Proofs.Tryz.underlying136
abbrev md:=@Proofs.Tryz.underlying124
abbrev me:=@Proofs.Tryz.underlying35
abbrev mf:=@Proofs.Tryz.sizeOf4
abbrev mg:=@Proofs.Tryz.underlying114
abbrev mh:=@Proofs.Tryz.underlying80
abbrev mi:=@Proofs.Tryz.underlying74
abbrev mj:=@Proofs.Tryz.sizeOf9
abbrev ml:=@Proofs.Tryz.isAgg37
abbrev mp:=@Proofs.Tryz.underlying251
abbrev mq:=@Proofs.Tryz.underlying247
abbrev mr:=@Proofs.Tryz.zeroValue142
abbrev mt:=@Proofs.Tryz.zeroValue80
abbrev mu:=@Proofs.Tryz.zeroValue29
abbrev mw:=@Proofs.Tryz.underlying5
abbrev mz:=@Proofs.Tryz.underlying263
abbrev m3:=@Proofs.Tryz.underlying142
abbrev m4:=@Proofs.Tryz.sizeOf23
abbrev m5:=@Proofs.Tryz.zeroValue311
abbrev m6:=@Proofs.Tryz.underlying311
abbrev m7:=@Proofs.Tryz.zeroValue4
abbrev m8:=@Proofs.Tryz.zeroValue229
abbrev m9:=@Proofs.Tryz.underlying61
abbrev m_:=@Proofs.Tryz.sizeOf29
abbrev nb:=@Proofs.Tryz.sizeOf142
abbrev nd:=@Proofs.Tryz.underlying229
abbrev nf:=@Proofs.Tryz.zeroValue9
abbrev ng:=@Proofs.Tryz.zeroValue5
abbrev nh:=@Proofs.Tryz.sizeOf246
abbrev ni:=@Proofs.Tryz.zeroValue134
abbrev nj:=@Proofs.Tryz.underlying246
abbrev nk:=@Proofs.Tryz.underlying243
abbrev nm:=@Proofs.Tryz.sizeOf134
abbrev np:=@Proofs.Tryz.zeroValue51
abbrev nq:=@Proofs.Tryz.underlying4
abbrev nr:=@Proofs.Tryz.sizeOf51
abbrev nt:=@Proofs.Tryz.sizeOf47
abbrev nu:=@Proofs.Tryz.zeroValue47
abbrev nw:=@Proofs.Tryz.underlying250
abbrev ny:=@Proofs.Tryz.underlying241
abbrev nz:=@Proofs.Tryz.underlying218
abbrev n6:=@Proofs.Tryz.underlying137
abbrev n7:=@Proofs.Tryz.underlying123
abbrev n8:=@Proofs.Tryz.isAgg35
abbrev n9:=@Proofs.Tryz.sizeOf220
abbrev n_:=@Proofs.Tryz.zeroValue241
abbrev oa:=@Proofs.Tryz.zeroValue158
abbrev oe:=@Proofs.Tryz.underlying70
abbrev oi:=@Proofs.Tryz.underlying54
end Go
namespace Go.Proofs
open Go.Proofs.Tryz
open Go.Wx
theorem Tryz.LK:En prog 4:=C func4 kQ rfl
theorem Tryz.LL:En prog 5:=C func5 kQ rfl
theorem Tryz.LM:En prog 6:=C func6 kQ rfl
theorem Tryz.KX:En prog 7:=C func7 kQ rfl
theorem Tryz.IC:En prog 8:=C func8 kQ rfl
theorem Tryz.KY:En prog 9:=C func9 kQ rfl
theorem Tryz.oJ:En prog 10:=C func10 kQ rfl
theorem Tryz.CD:En prog 11:=C func11 kQ rfl
theorem Tryz.yU:En prog 12:=C func12 kQ rfl
theorem Tryz.yV:En prog 13:=C func13 kQ rfl
theorem Tryz.IE:En prog 14:=C func14 kQ rfl
theorem Tryz.IF:En prog 15:=C func15 kQ rfl
theorem Tryz.IG:En prog 16:=C func16 kQ rfl
theorem Tryz.IH:En prog 17:=C func17 kQ rfl
theorem Tryz.II:En prog 18:=C func18 kQ rfl
theorem Tryz.IJ:En prog 19:=C func19 kQ rfl
theorem Tryz.IK:En prog 20:=C func20 kQ rfl
theorem Tryz.yW:En prog 21:=C func21 kQ rfl
theorem Tryz.IM:En prog 22:=C func22 kQ rfl
theorem Tryz.IN:En prog 23:=C func23 kQ rfl
theorem Tryz.IP:En prog 24:=C func24 kQ rfl
theorem Tryz.CE:En prog 25:=C func25 kQ rfl
theorem Tryz.CF:En prog 26:=C func26 kQ rfl
theorem Tryz.CG:En prog 27:=C func27 kQ rfl
theorem Tryz.CH:En prog 28:=C func28 kQ rfl
theorem Tryz.yX:En prog 29:=C func29 kQ rfl
theorem Tryz.IQ:En prog 30:=C func30 kQ rfl
theorem Tryz.IR:En prog 31:=C func31 kQ rfl
theorem Tryz.yY:En prog 32:=C func32 kQ rfl
theorem Tryz.yZ:En prog 33:=C func33 kQ rfl
theorem Tryz.kC:En prog 34:=C func34 kQ rfl
theorem Tryz.IU:En prog 35:=C func35 kQ rfl
theorem Tryz.zC:En prog 36:=C func36 kQ rfl
theorem Tryz.zE:En prog 37:=C func37 kQ rfl
theorem Tryz.IV:En prog 38:=C func38 kQ rfl
theorem Tryz.IW:En prog 39:=C func39 kQ rfl
theorem Tryz.IX:En prog 40:=C func40 kQ rfl
theorem Tryz.Re:En prog 43:=C func43 kQ rfl
theorem Tryz.IY:En prog 45:=C func45 kQ rfl
theorem Tryz.Um:En prog 46:=C func46 kQ rfl
theorem Tryz.IZ:En prog 47:=C func47 kQ rfl
theorem Tryz.JA:En prog 49:=C func49 kQ rfl
theorem Tryz.JB:En prog 50:=C func50 kQ rfl
theorem Tryz.tL:En prog 51:=C func51 kQ rfl
theorem Tryz.zF:En prog 52:=C func52 kQ rfl
theorem Tryz.CI:En prog 53:=C func53 kQ rfl
theorem Tryz.CJ:En prog 54:=C func54 kQ rfl
theorem Tryz.tM:En prog 55:=C func55 kQ rfl
theorem Tryz.zG:En prog 56:=C func56 kQ rfl
theorem Tryz.CK:En prog 57:=C func57 kQ rfl
theorem Tryz.JC:En prog 58:=C func58 kQ rfl
theorem Tryz.JD:En prog 59:=C func59 kQ rfl
theorem Tryz.cP:En prog 60:=C func60 kQ rfl
theorem Tryz.JE:En prog 61:=C func61 kQ rfl
theorem Tryz.JF:En prog 62:=C func62 kQ rfl
theorem Tryz.JG:En prog 63:=C func63 kQ rfl
theorem Tryz.JH:En prog 64:=C func64 kQ rfl
theorem Tryz.JI:En prog 65:=C func65 kQ rfl
theorem Tryz.JJ:En prog 66:=C func66 kQ rfl
theorem Tryz.JK:En prog 67:=C func67 kQ rfl
theorem Tryz.JL:En prog 68:=C func68 kQ rfl
theorem Tryz.JM:En prog 69:=C func69 kQ rfl
theorem Tryz.JN:En prog 70:=C func70 kQ rfl
theorem Tryz.JO:En prog 71:=C func71 kQ rfl
theorem Tryz.JP:En prog 72:=C func72 kQ rfl
theorem Tryz.JQ:En prog 73:=C func73 kQ rfl
theorem Tryz.JR:En prog 74:=C func74 kQ rfl
theorem Tryz.CL:En prog 75:=C func75 kQ rfl
theorem Tryz.JS:En prog 76:=C func76 kQ rfl
theorem Tryz.CM:En prog 77:=C func77 kQ rfl
theorem Tryz.tO:En prog 78:=C func78 kQ rfl
theorem Tryz.JT:En prog 79:=C func79 kQ rfl
theorem Tryz.JU:En prog 80:=C func80 kQ rfl
theorem Tryz.JV:En prog 81:=C func81 kQ rfl
theorem Tryz.CN:En prog 82:=C func82 kQ rfl
theorem Tryz.JW:En prog 83:=C func83 kQ rfl
theorem Tryz.JX:En prog 84:=C func84 kQ rfl
theorem Tryz.JY:En prog 85:=C func85 kQ rfl
theorem Tryz.zH:En prog 86:=C func86 kQ rfl
theorem Tryz.oK:En prog 87:=C func87 kQ rfl
theorem Tryz.JZ:En prog 88:=C func88 kQ rfl
theorem Tryz.CO:En prog 89:=C func89 kQ rfl
theorem Tryz.KA:En prog 90:=C func90 kQ rfl
theorem Tryz.KB:En prog 91:=C func91 kQ rfl
theorem Tryz.KC:En prog 94:=C func94 kQ rfl
theorem Tryz.KD:En prog 95:=C func95 kQ rfl
theorem Tryz.CP:En prog 96:=C func96 kQ rfl
theorem Tryz.Rf:En prog 97:=C func97 kQ rfl
theorem Tryz.KE:En prog 98:=C func98 kQ rfl
theorem Tryz.KF:En prog 99:=C func99 kQ rfl
theorem Tryz.xG:En prog 100:=C func100 kQ rfl
theorem Tryz.CQ:En prog 101:=C func101 kQ rfl
theorem Tryz.CR:En prog 102:=C func102 kQ rfl
theorem Tryz.CS:En prog 103:=C func103 kQ rfl
theorem Tryz.CT:En prog 104:=C func104 kQ rfl
theorem Tryz.CU:En prog 105:=C func105 kQ rfl
theorem Tryz.CV:En prog 106:=C func106 kQ rfl
theorem Tryz.xH:En prog 107:=C func107 kQ rfl
theorem Tryz.CX:En prog 108:=C func108 kQ rfl
theorem Tryz.Vg:En prog 110:=C func110 kQ rfl
theorem Tryz.CY:En prog 111:=C func111 kQ rfl
theorem Tryz.CZ:En prog 112:=C func112 kQ rfl
theorem Tryz.DA:En prog 113:=C func113 kQ rfl
theorem Tryz.DB:En prog 114:=C func114 kQ rfl
theorem Tryz.DC:En prog 115:=C func115 kQ rfl
theorem Tryz.DD:En prog 121:=C func121 kQ rfl
theorem Tryz.On:En prog 122:=C func122 kQ rfl
theorem Tryz.DE:En prog 123:=C func123 kQ rfl
theorem Tryz.xI:En prog 125:=C func125 kQ rfl
theorem Tryz.DF:En prog 126:=C func126 kQ rfl
theorem Tryz.xJ:En prog 127:=C func127 kQ rfl
theorem Tryz.xK:En prog 128:=C func128 kQ rfl
theorem Tryz.DG:En prog 129:=C func129 kQ rfl
theorem Tryz.Ij:En prog 130:=C func130 kQ rfl
theorem Tryz.DH:En prog 131:=C func131 kQ rfl
theorem Tryz.DI:En prog 132:=C func132 kQ rfl
theorem Tryz.DJ:En prog 133:=C func133 kQ rfl
theorem Tryz.DK:En prog 134:=C func134 kQ rfl
theorem Tryz.DM:En prog 135:=C func135 kQ rfl
theorem Tryz.DN:En prog 136:=C func136 kQ rfl
theorem Tryz.DO:En prog 137:=C func137 kQ rfl
theorem Tryz.DP:En prog 138:=C func138 kQ rfl
theorem Tryz.DQ:En prog 139:=C func139 kQ rfl
theorem Tryz.DR:En prog 140:=C func140 kQ rfl
theorem Tryz.DS:En prog 141:=C func141 kQ rfl
theorem Tryz.Sb:En prog 142:=C func142 kQ rfl
theorem Tryz.gN:En prog 143:=C func143 kQ rfl
theorem Tryz.gO:En prog 144:=C func144 kQ rfl
theorem Tryz.DT:En prog 145:=C func145 kQ rfl
theorem Tryz.Oo:En prog 146:=C func146 kQ rfl
theorem Tryz.DU:En prog 147:=C func147 kQ rfl
theorem Tryz.DV:En prog 148:=C func148 kQ rfl
theorem Tryz.DX:En prog 149:=C func149 kQ rfl
theorem Tryz.DY:En prog 150:=C func150 kQ rfl
theorem Tryz.DZ:En prog 151:=C func151 kQ rfl
theorem Tryz.EA:En prog 152:=C func152 kQ rfl
theorem Tryz.Yv:En prog 153:=C func153 kQ rfl
theorem Tryz.xL:En prog 154:=C func154 kQ rfl
theorem Tryz.xM:En prog 155:=C func155 kQ rfl
theorem Tryz.EB:En prog 156:=C func156 kQ rfl
theorem Tryz.oL:En prog 157:=C func157 kQ rfl
theorem Tryz.oM:En prog 158:=C func158 kQ rfl
theorem Tryz.xN:En prog 159:=C func159 kQ rfl
theorem Tryz.xO:En prog 160:=C func160 kQ rfl
theorem Tryz.EC:En prog 161:=C func161 kQ rfl
theorem Tryz.oN:En prog 162:=C func162 kQ rfl
theorem Tryz.ED:En prog 163:=C func163 kQ rfl
theorem Tryz.oO:En prog 164:=C func164 kQ rfl
theorem Tryz.EE:En prog 165:=C func165 kQ rfl
theorem Tryz.EF:En prog 166:=C func166 kQ rfl
theorem Tryz.EG:En prog 167:=C func167 kQ rfl
theorem Tryz.EH:En prog 168:=C func168 kQ rfl
theorem Tryz.EI:En prog 169:=C func169 kQ rfl
theorem Tryz.EJ:En prog 170:=C func170 kQ rfl
theorem Tryz.EK:En prog 171:=C func171 kQ rfl
theorem Tryz.EL:En prog 172:=C func172 kQ rfl
theorem Tryz.EM:En prog 173:=C func173 kQ rfl
theorem Tryz.EN:En prog 174:=C func174 kQ rfl
theorem Tryz.EO:En prog 175:=C func175 kQ rfl
theorem Tryz.EP:En prog 176:=C func176 kQ rfl
theorem Tryz.EQ:En prog 177:=C func177 kQ rfl
theorem Tryz.ER:En prog 178:=C func178 kQ rfl
theorem Tryz.ES:En prog 179:=C func179 kQ rfl
theorem Tryz.ET:En prog 180:=C func180 kQ rfl
theorem Tryz.EU:En prog 192:=C func192 kQ rfl
theorem Tryz.gP:En prog 193:=C func193 kQ rfl
theorem Tryz.oP:En prog 194:=C func194 kQ rfl
theorem Tryz.xP:En prog 195:=C func195 kQ rfl
theorem Tryz.EV:En prog 196:=C func196 kQ rfl
theorem Tryz.xQ:En prog 197:=C func197 kQ rfl
theorem Tryz.EW:En prog 198:=C func198 kQ rfl
theorem Tryz.EX:En prog 199:=C func199 kQ rfl
theorem Tryz.EY:En prog 200:=C func200 kQ rfl
theorem Tryz.xR:En prog 201:=C func201 kQ rfl
theorem Tryz.EZ:En prog 202:=C func202 kQ rfl
theorem Tryz.xS:En prog 205:=C func205 kQ rfl
theorem Tryz.FC:En prog 206:=C func206 kQ rfl
theorem Tryz.FD:En prog 207:=C func207 kQ rfl
theorem Tryz.FF:En prog 208:=C func208 kQ rfl
theorem Tryz.FG:En prog 209:=C func209 kQ rfl
theorem Tryz.Vh:En prog 211:=C func211 kQ rfl
theorem Tryz.Sc:En prog 212:=C func212 kQ rfl
theorem Tryz.xT:En prog 215:=C func215 kQ rfl
theorem Tryz.FH:En prog 216:=C func216 kQ rfl
theorem Tryz.FI:En prog 217:=C func217 kQ rfl
theorem Tryz.FJ:En prog 219:=C func219 kQ rfl
theorem Tryz.FK:En prog 220:=C func220 kQ rfl
theorem Tryz.FL:En prog 221:=C func221 kQ rfl
theorem Tryz.xU:En prog 222:=C func222 kQ rfl
theorem Tryz.xV:En prog 223:=C func223 kQ rfl
theorem Tryz.FM:En prog 224:=C func224 kQ rfl
theorem Tryz.FN:En prog 225:=C func225 kQ rfl
theorem Tryz.FO:En prog 226:=C func226 kQ rfl
theorem Tryz.FP:En prog 227:=C func227 kQ rfl
theorem Tryz.xW:En prog 228:=C func228 kQ rfl
theorem Tryz.FQ:En prog 229:=C func229 kQ rfl
theorem Tryz.FT:En prog 230:=C func230 kQ rfl
theorem Tryz.FU:En prog 231:=C func231 kQ rfl
theorem Tryz.FV:En prog 237:=C func237 kQ rfl
theorem Tryz.FW:En prog 238:=C func238 kQ rfl
theorem Tryz.oR:En prog 240:=C func240 kQ rfl
theorem Tryz.FX:En prog 241:=C func241 kQ rfl
theorem Tryz.FY:En prog 243:=C func243 kQ rfl
theorem Tryz.oS:En prog 245:=C func245 kQ rfl
theorem Tryz.oT:En prog 249:=C func249 kQ rfl
theorem Tryz.Oq:En prog 250:=C func250 kQ rfl
theorem Tryz.xX:En prog 251:=C func251 kQ rfl
theorem Tryz.xY:En prog 252:=C func252 kQ rfl
theorem Tryz.Vi:En prog 253:=C func253 kQ rfl
theorem Tryz.xZ:En prog 254:=C func254 kQ rfl
theorem Tryz.yA:En prog 255:=C func255 kQ rfl
theorem Tryz.yB:En prog 256:=C func256 kQ rfl
theorem Tryz.FZ:En prog 257:=C func257 kQ rfl
theorem Tryz.GA:En prog 258:=C func258 kQ rfl
theorem Tryz.GB:En prog 259:=C func259 kQ rfl
theorem Tryz.yC:En prog 260:=C func260 kQ rfl
theorem Tryz.yD:En prog 261:=C func261 kQ rfl
theorem Tryz.GC:En prog 262:=C func262 kQ rfl
theorem Tryz.GD:En prog 263:=C func263 kQ rfl
theorem Tryz.GF:En prog 264:=C func264 kQ rfl
theorem Tryz.Yw:En prog 269:=C func269 kQ rfl
theorem Tryz.GG:En prog 274:=C func274 kQ rfl
theorem Tryz.GH:En prog 276:=C func276 kQ rfl
theorem Tryz.GI:En prog 277:=C func277 kQ rfl
theorem Tryz.yE:En prog 278:=C func278 kQ rfl
theorem Tryz.GJ:En prog 279:=C func279 kQ rfl
theorem Tryz.GK:En prog 280:=C func280 kQ rfl
theorem Tryz.GL:En prog 281:=C func281 kQ rfl
theorem Tryz.GN:En prog 282:=C func282 kQ rfl
theorem Tryz.GO:En prog 292:=C func292 kQ rfl
theorem Tryz.GP:En prog 293:=C func293 kQ rfl
theorem Nd(w:World):(placesOf 29).run prog w=.ok #[(0,1),(1,1),(2,1),(3,1)] w:=by kernel_rfl
theorem Fk(w:World):(placesOf 35).run prog w=.ok #[(0,1),(1,1),(2,1),(3,1),(4,1),(5,1),(6,1),(7,1),(8,1),(9,1),(10,1),(11,1),(12,1),(13,1),(14,1),(15,1),(16,1),(17,1),(18,1)] w:=by kernel_rfl
theorem Nf(w:World):(placesOf 47).run prog w=.ok #[(0,1),(1,1),(2,1)] w:=by kernel_rfl
theorem J9(w:World):(placesOf 49).run prog w=.ok #[(0,1),(1,1),(2,1),(3,1),(4,1),(5,1),(6,1)] w:=by kernel_rfl
theorem Ng(w:World):(placesOf 51).run prog w=.ok #[(0,1),(1,1)] w:=by kernel_rfl
theorem Nh(w:World):(placesOf 54).run prog w=.ok #[(0,1),(1,1)] w:=by kernel_rfl
theorem Un(w:World):(placesOf 56).run prog w=.ok #[(0,1),(1,1),(2,2),(4,2)] w:=by kernel_rfl
theorem Uo(w:World):(placesOf 58).run prog w=.ok #[(0,1),(1,1),(2,1),(3,1),(4,1)] w:=by kernel_rfl
theorem Uq(w:World):(placesOf 63).run prog w=.ok #[(0,1),(1,1),(2,1),(3,1),(4,1)] w:=by kernel_rfl
theorem Dr(w:World):(placesOf 80).run prog w=.ok #[(0,1),(1,1)] w:=by kernel_rfl
theorem Ur(w:World):(placesOf 85).run prog w=.ok #[(0,4),(4,1),(5,1)] w:=by kernel_rfl
theorem Us(w:World):(placesOf 89).run prog w=.ok #[(0,1),(1,1),(2,1),(3,1),(4,1),(5,1),(6,1)] w:=by kernel_rfl
theorem Lx(w:World):(placesOf 128).run prog w=.ok #[(0,2)] w:=by kernel_rfl
theorem De(w:World):(placesOf 136).run prog w=.ok #[(0,1),(1,1),(2,1),(3,1)] w:=by kernel_rfl
theorem Ct(w:World):(placesOf 191).run prog w=.ok #[(0,1),(1,1),(2,1)] w:=by kernel_rfl
theorem Fw(w:World):(placesOf 229).run prog w=.ok #[(0,1),(1,1)] w:=by kernel_rfl
theorem Hf(w:World):(placesOf 250).run prog w=.ok #[(0,1),(1,1)] w:=by kernel_rfl
theorem Sd(w:World):(placesOf 279).run prog w=.ok #[(0,19),(19,1)] w:=by kernel_rfl
theorem Se(w:World):(placesOf 281).run prog w=.ok #[] w:=by kernel_rfl
theorem E5(w:World):(placesOf 311).run prog w=.ok #[(0,1),(1,1),(2,1)] w:=by kernel_rfl
end Go.Proofs
namespace Go.Proofs
open Go.Proofs.Tryz
open Go.Wx Go.ChangeShapes Go.WideShapes Go.RowKit
theorem kD{H:Type}{enc:TypeId×Value→H}{w:World}{b:Nat}{sp:Nat→Bool}{hd:Bool}(n:Nat)(cs:List Value)(x:DataW H×List MemPlace)(hl:cs.length=6)(h:DataW.trod enc prog w b sp hd n 114 cs=some x):∃f:I6,cs=f.cells.toList∧cO f:=by
 have k_int:Tryz.prog.cellsOf 3=1:=by kernel_rfl
 match cs,hl with
 |[c0,c1,c2,c3,c4,c5],_=>
   obtain⟨xs,m,_,_,_,hlen,hg⟩:=DataW.trod_array underlying114 h
   have hs:∀i,i<6→∃y,xs[i]?=some y:=fun i hi=>⟨_,cx oQ⟩
   obtain⟨y0,z0⟩:=hs 0 cQ
   obtain⟨n0,e0,_,q0⟩:=DataW.trod_int underlying3 (show DataW.trod enc prog w b sp hd m 3 [c0]=some y0 from by rw[←z0];simpa[k_int]using hg 0 cQ)
   obtain⟨y1,z1⟩:=hs 1 cQ
   obtain⟨n1,e1,_,q1⟩:=DataW.trod_int underlying3 (show DataW.trod enc prog w b sp hd m 3 [c1]=some y1 from by rw[←z1];simpa[k_int]using hg 1 cQ)
   obtain⟨y2,z2⟩:=hs 2 cQ
   obtain⟨n2,e2,_,q2⟩:=DataW.trod_int underlying3 (show DataW.trod enc prog w b sp hd m 3 [c2]=some y2 from by rw[←z2];simpa[k_int]using hg 2 cQ)
   obtain⟨y3,z3⟩:=hs 3 cQ
   obtain⟨n3,e3,_,q3⟩:=DataW.trod_int underlying3 (show DataW.trod enc prog w b sp hd m 3 [c3]=some y3 from by rw[←z3];simpa[k_int]using hg 3 cQ)
   obtain⟨y4,z4⟩:=hs 4 cQ
   obtain⟨n4,e4,_,q4⟩:=DataW.trod_int underlying3 (show DataW.trod enc prog w b sp hd m 3 [c4]=some y4 from by rw[←z4];simpa[k_int]using hg 4 cQ)
   obtain⟨y5,z5⟩:=hs 5 cQ
   obtain⟨n5,e5,_,q5⟩:=DataW.trod_int underlying3 (show DataW.trod enc prog w b sp hd m 3 [c5]=some y5 from by rw[←z5];simpa[k_int]using hg 5 cQ)
   cases e0
   cases e1
   cases e2
   cases e3
   cases e4
   cases e5
   exact⟨⟨n0,n1,n2,n3,n4,n5⟩,rfl,⟨K6 q0,K6 q1,K6 q2,K6 q3,K6 q4,K6 q5⟩⟩
end Go.Proofs
namespace Go.Wx
open Go.RowKit
section
variable {R:Option Nat}{m:Nat}{P:Program}{n:Nat}{ds:List Deferred}{Q:Exit→Go.Act→World→Prop}{l:Env}{w:World}{ops:Array Oper}
def oU(o:Oper):Bool:=match o.op with|.move _=>o.guard.isNone|_=>false
def Ly(ops:Array Oper)(k j:Nat):Bool:=match ops[j]? with
 |none=>false
 |some o=>oU o&&((o.looksAt ops).all fun t=>(List.range (k+1)).all fun i=>match ops[i]? with|none=>true|some p=> !(p.dst==some t))&&
     (match ops[k]? with|none=>false|some h=>match o.dst with|none=>false|some d=> !M8 (h.looksAt ops) d)
def cR(ops:Array Oper)(k:Nat):Bool:=
 (List.range k).all fun j=>Ly ops k j||(List.range (k+1)).any fun i=>Nat.ble (j+1) i&&((Nat.beq i k|| !Ly ops k i)&&(match ops[i]? with|none=>false|some o=>o.after.any fun e=>Region.binds .any e&&Nat.beq e.on j))
theorem kE{k:Nat}(hC:cR ops k=true){listed:Array Bool}(hD:Dn ops listed){o:Oper}(ho:ops[k]?=some o)(hk:∀e∈o.after,Region.binds .any e=true→listed.getD e.on false=true):∀(c j:Nat),k-j=c→j<k→Ly ops k j=false→listed.getD j false=true:=by
 intro c
 induction c using Nat.strongRecOn with
 |_ c ih=>
   intro j hc hj hl
   have h0:=di.1 hC j (cn.2 hj)
   rw[hl,g7]at h0
   obtain⟨i,hi,hh⟩:=ip.1 h0
   simp only[b6,gi]at hh
   have hji:j<i:=a_ hh.1
   have hik:i<k+1:=cn.1 hi
   cases hio:ops[i]? with
   |none=>simp[hio]at hh
   |some q=>
     have h2:=hh.2.2
     simp only[hio]at h2
     obtain⟨e,he,hb⟩:=fk.1 h2
     simp only[b6]at hb
     have hon:=ci hb.2
     by_cases hek:i=k
     · subst hek
       rw[ho]at hio
       cases hio
       rw[←hon];exact hk _ (ez he) hb.1
     have hli:Ly ops k i=false:=by
       rcases hh.2.1 with h3|h3
       · exact absurd (ci h3) hek
       simpa using h3
     have:=ih (k-i) oQ i rfl oQ hli
     rw[←hon];exact hD i q hio this _ (ez he) hb.1
theorem cU{k j:Nat}(h:Ly ops k j=true):∃o x,ops[j]?=some o∧o.op=.move x∧o.guard=none∧(∀t∈o.looksAt ops,∀(i:Nat)(p:Oper),i<k+1→ops[i]?=some p→p.dst≠some t)∧∀(hh:Oper)(d:Nat),ops[k]?=some hh→o.dst=some d→d∉hh.looksAt ops:=by
 unfold Ly at h
 cases ho:ops[j]? with
 |none=>simp[ho]at h
 |some o=>
   simp only[ho,b6]at h
   obtain⟨⟨h1,h2⟩,h3⟩:=h
   unfold oU at h1
   split at h1
   · rename_i x hx
     refine⟨o,x,rfl,hx,by simpa using h1,fun t ht i p hi hp hd=>?_,fun hh d hk hd hm=>?_⟩
     · have:=di.1 (di.1 h2 t ht) i (cn.2 hi)
       simp[hp,hd]at this
     simp only[hk,hd]at h3
     rw[Jd.2 hm]at h3
     cases h3
   cases h1
def Fa:Env→Env
 |[]=>[]
 |(_,.pred _)::l=>Fa l
 |(i,.eq v)::l=>(i,.eq v)::Fa l
 |(i,.cond b v)::l=>(i,.cond b v)::Fa l
def plainPh:Ph→Prop
 |.pred _=>False
 |_=>True
theorem plainPh.holds{ph:Ph}(h:plainPh ph){v:Value}{w w':World}(k:ph.holds v w):ph.holds v w':=by
 cases ph with
 |eq=>exact k
 |cond=>exact k
 |pred=>exact h.elim
theorem Yx{k:Nat}{E:Nat→Env}(hE0:E 0=[])(hE:∀(i:Nat)(o:Oper),i<k→ops[i]?=some o→∃ph d,o.dst=some d∧E (i+1)=(d,ph)::E i)(hks:k≤ops.size):
   ∀c i ph,c≤k→lk (Fa (E c)) i=some ph→∃j o,j<c∧ops[j]?=some o∧o.dst=some i∧E (j+1)=(i,ph)::E j∧plainPh ph:=by
 intro c
 induction c with
 |zero=>intro i ph _ h;rw[hE0]at h;cases h
 |succ c ih=>
   intro i ph hk h
   have hko:ops[c]?=some ops[c]:=by simp[show c<ops.size by omega]
   obtain⟨q,d,hd,he⟩:=hE c _ oQ hko
   rw[he]at h
   have go:lk (Fa (E c)) i=some ph→∃j o,j<c+1∧ops[j]?=some o∧o.dst=some i∧E (j+1)=(i,ph)::E j∧plainPh ph:=fun h=>by
     obtain⟨j,o,h1,h2⟩:=ih i ph oQ h
     exact⟨j,o,by omega,h2⟩
   cases q with
   |pred p=>exact go h
   |eq v=>
     by_cases e:i=d
     · subst e
       have h':lk ((i,Ph.eq v)::Fa (E c)) i=some ph:=h
       rw[A9]at h'
       cases h'
       exact⟨c,_,by omega,hko,hd,he,trivial⟩
     have h':lk ((d,Ph.eq v)::Fa (E c)) i=some ph:=h
     rw[Be e]at h'
     exact go h'
   |cond b v=>
     by_cases e:i=d
     · subst e
       have h':lk ((i,Ph.cond b v)::Fa (E c)) i=some ph:=h
       rw[A9]at h'
       cases h'
       exact⟨c,_,by omega,hko,hd,he,trivial⟩
     have h':lk ((d,Ph.cond b v)::Fa (E c)) i=some ph:=h
     rw[Be e]at h'
     exact go h'
theorem Ot{listed:Array Bool}{i fuel:Nat}(hlt:i<listed.size)(hbi:listed.getD i false=false)(hc:listed.toList.countP (· ==false)≤fuel+1):(listed.setIfInBounds i true).toList.countP (· ==false)≤fuel:=by
 have hbi':listed[i]=false:=by
   rw[bm]at hbi
   simp only[hlt,ce,dr]at hbi
   exact hbi
 rw[il,ky (by simpa using hlt)]
 have hpos:0<listed.toList.countP (· ==false):=j3.2 ⟨listed[i],by simp,by simp[hbi']⟩
 have e1:(listed.toList[i]'(by simpa using hlt)==false)=true:=by simp[hbi']
 rw[bh e1,aq (by simp)]
 omega
theorem W9{listed:Array Bool}{i:Nat}{o:Oper}(hlt:i<listed.size)(hio:ops[i]?=some o)(hed:∀e∈o.after,Region.binds .any e=true→listed.getD e.on false=true)(hD:Dn ops listed):Dn ops (listed.setIfInBounds i true):=by
 intro j p hp hl e he hb
 rw[D0 hlt]at hl⊢
 by_cases e1:e.on=i
 · rw[bh e1]
 rw[aq e1]
 by_cases e2:j=i
 · subst e2
   rw[hio]at hp;cases hp
   exact hed e he hb
 rw[aq e2]at hl
 exact hD j p hp hl e he hb
theorem Sf{listed:Array Bool}{s fuel:Nat}(hs:listed.size=ops.size)(hc:listed.toList.countP (· ==false)≤fuel)(hno:∀j,s≤j→j<ops.size→listed.getD j false=false):ops.size-s≤fuel:=by
 have h1:(listed.toList.drop s).countP (· ==false)=ops.size-s:=by
   rw[List.countP_eq_length.2]
   · simp[hs]
   intro b hb
   obtain⟨j,hj,he⟩:=fb.1 hb
   rw[List.getElem_drop]at he
   have hj':s+j<listed.size:=by simp at hj;omega
   have:=hno (s+j) oQ oQ
   rw[bm]at this
   simp only[hj',ce,dr]at this
   rw[←he]
   simpa using this
 have h2:(listed.toList.drop s).countP (· ==false)≤listed.toList.countP (· ==false):=(kh s _).countP_le
 omega
theorem Nr(hA:Dz ops=true){k:Nat}(hks:k≤ops.size){listed:Array Bool}(hs:listed.size=ops.size):∀c,c<k→listed.getD c false=false→∃i,i∈Region.ready .any ops listed:=by
 intro c
 induction c using Nat.strongRecOn with
 |_ c ihc=>
   intro hck hcf
   have hco:ops[c]?=some ops[c]:=by simp[show c<ops.size by omega]
   by_cases hr:∀e∈(ops[c]).after,Region.binds .any e=true→listed.getD e.on false=true
   · exact⟨c,(Ge hs).2 ⟨_,hco,hcf,hr⟩⟩
   simp only[ik]at hr
   obtain⟨e,he,hb,hf⟩:=hr
   have hlt:=Ef hA hco e he hb
   exact ihc e.on hlt oQ (by simpa using hf)
theorem cV{k:Nat}{wp w:World}{w0:World}{base:Env}{dh:Nat}{vh:Value}(hu:Up w0 wp)(hok:J8 n ops (k+1)=true)(hT:Gv ops (k+1)=true)(hA:Dz ops=true)(hC:Fv ops (k+1)=true)(hkk:k<ops.size)(E:Nat→Env)(hE0:E 0=[])
   (hE:∀(i:Nat)(o:Oper),i<k→ops[i]?=some o→∃ph d,o.dst=some d∧phUp ph∧BT P n ds ops w0 (Ce (o.looksAt ops) (E i)++base) o ph∧E (i+1)=(d,ph)::E i)
   (hbp:Cq base=true)(hbase:∀i ph,lk base i=some ph→∀(j:Nat)(o:Oper),j<k+1→ops[j]?=some o→o.dst≠some i)
   (hdh:∀o,ops[k]?=some o→o.dst=some dh)
   (hQ:∀a,Ag n ds ((dh,.eq vh)::(Fa (E k)++base)) a w→wpListIn (FR R) m P ops Q (ops.toList.drop (k+1)) a w):
   ∀(fuel:Nat)(listed:Array Bool)(a:Go.Act),listed.size=ops.size→listed.toList.countP (· ==false)≤fuel→(∀j,k+1≤j→j<ops.size→listed.getD j false=false)→listed.getD k false=true→(∀j,j<k→listed.getD j false=false→Ly ops k j=true)→Dn ops listed→Ag n ds base a w→a.tmps.getD dh undef=vh→
     (∀(j:Nat)(o:Oper)(d:Nat)(ph:Ph),j<k→ops[j]?=some o→o.dst=some d→E (j+1)=(d,ph)::E j→plainPh ph→listed.getD j false=true→ph.holds (a.tmps.getD d undef) w)→
     wpAnyIn (FR R) m P .any ops Q fuel listed a w:=by
 have hE':∀(i:Nat)(o:Oper),i<k→ops[i]?=some o→∃ph d,o.dst=some d∧E (i+1)=(d,ph)::E i:=fun i o hi ho=>let⟨ph,d,h1,_,_,h2⟩:=hE i o hi ho;⟨ph,d,h1,h2⟩
 have hDP:=Yx hE0 hE' oQ
 have hfull:∀(fuel:Nat)(listed:Array Bool)(a:Go.Act),listed.size=ops.size→listed.toList.countP (· ==false)≤fuel→(∀j,k+1≤j→j<ops.size→listed.getD j false=false)→listed.getD k false=true→(∀j,j<k→listed.getD j false=true)→Ag n ds base a w→a.tmps.getD dh undef=vh→
     (∀(j:Nat)(o:Oper)(d:Nat)(ph:Ph),j<k→ops[j]?=some o→o.dst=some d→E (j+1)=(d,ph)::E j→plainPh ph→listed.getD j false=true→ph.holds (a.tmps.getD d undef) w)→
     wpAnyIn (FR R) m P .any ops Q fuel listed a w:=by
   intro fuel listed a hs hc hno hk hall ha hv hI
   refine E4 hT hA (ops.size-(k+1)) (k+1) fuel listed a w rfl oQ (bl _) (Sf hs hc hno) ⟨hs,fun j hj=>?_⟩ (hQ a ⟨ha.defers,ha.size,fun i ph hi=>?_⟩)
   · by_cases h:j<k+1
     · rw[bj h]
       by_cases e:j=k
       · rw[e];exact hk
       exact hall j oQ
     rw[hno j oQ hj,br h]
   by_cases e:i=dh
   · subst e
     rw[A9]at hi
     cases hi
     exact hv
   rw[Be e]at hi
   rcases Dq hi with h|h
   · obtain⟨j,o,hj,ho,hd,he,hp⟩:=hDP _ _ _ (bl _) h
     exact hI j o i ph hj ho hd he hp (hall j hj)
   exact ha.val i ph h
 have hEl:∀c i ph,c≤k→lk (E c) i=some ph→∃j o,j<c∧ops[j]?=some o∧o.dst=some i:=by
   intro c
   induction c with
   |zero=>intro i ph _ h;rw[hE0]at h;cases h
   |succ c ih=>
     intro i ph hk h
     have hko:ops[c]?=some ops[c]:=by simp[show c<ops.size by omega]
     obtain⟨q,d,hd,he⟩:=hE' c _ oQ hko
     rw[he]at h
     by_cases e:i=d
     · subst e;exact⟨c,_,by omega,hko,hd⟩
     rw[Be e]at h
     obtain⟨j,o,h1,h2⟩:=ih i ph oQ h
     exact⟨j,o,by omega,h2⟩
 intro fuel
 induction fuel with
 |zero=>
   intro listed a hs hc hno hk hlate hD ha hv hI
   refine hfull 0 listed a hs hc hno hk (fun i hi=>?_) ha hv hI
   have h0:listed.toList.countP (· ==false)=0:=by omega
   rw[gp]at h0
   have hlt:i<listed.size:=by omega
   have:=h0 listed[i] (by simp)
   rw[bm]
   simp only[hlt,ce,dr]
   simpa using this
 |succ fuel ih=>
   intro listed a hs hc hno hk hlate hD ha hv hI
   by_cases hall:∀j,j<k→listed.getD j false=true
   · exact hfull _ listed a hs hc hno hk hall ha hv hI
   refine⟨fun hr=>?_,fun i hi=>?_⟩
   · exfalso
     simp only[ik]at hall
     obtain⟨j,hj,hf⟩:=hall
     obtain⟨i,hi⟩:=Nr hA (k:=k) oQ hs j hj (by simpa using hf)
     rw[hr]at hi
     cases hi
   obtain⟨o,hio,hbi,hed⟩:=(Ge hs).1 hi
   have hi':i<ops.size:=(cb.1 hio).1
   have hlt:i<listed.size:=by omega
   have hik:i<k:=by
     rcases i5 i k with h|h|h
     · exact h
     · subst h;rw[hk]at hbi;cases hbi
     exfalso
     by_cases e:i=k+1
     · subst e
       exact hall fun j hj=>Om hC hD hio hed (k+1-j) j rfl oQ
     obtain⟨e',he,hb,hon⟩:=Mr hT hio (show k+1<i by omega)
     have h1:=hed e' he hb
     rw[hon,hno (i-1) oQ (by omega)]at h1
     cases h1
   obtain⟨o',x,ho',hop,hg,hfree,_⟩:=cU (hlate i hik hbi)
   rw[hio]at ho'
   cases ho'
   obtain⟨hd0,hpair⟩:=Pv hok (show i<k+1 by omega) hio
   obtain⟨ph,d,hd,hup,hopr,hEi⟩:=hE i o hik hio
   have hdn:d<n:=by obtain⟨d',h1,h2⟩:=hd0;rw[hd]at h1;cases h1;exact h2
   have hag:Ag n ds (Ce (o.looksAt ops) (E i)++base) a wp:=by
     refine⟨ha.defers,ha.size,fun t q ht=>?_⟩
     rcases Dq ht with h|h
     · obtain⟨h1,h2⟩:=Fc h
       obtain⟨j,p,hj,hp,hpd⟩:=hEl _ _ _ oQ h2
       exact absurd hpd (hfree t h1 j p oQ hp)
     exact Gb hbp h (ha.val t q h)
   have hne:d≠dh:=by
     intro e
     have hko:ops[k]?=some ops[k]:=by simp[hkk]
     exact(hpair k _ oQ hko).1 oQ (by rw[hd,hdh _ hko,e])
   have hrun:∀ww,(execOp a.eval o).run P ww=.ok (.value (a.eval x)) ww:=fun ww=>by
     simp only[execOp,hop];rfl
   have h2:=hopr a wp hu hag
   have hw:Region.wanted o (yielded ops a.tmps)=true:=by simp[Region.wanted,hg]
   rw[bh hw]at h2
   have hval:ph.holds (a.eval x) wp:=by
     rcases h2 with⟨v,w',h3,h4,h5⟩|⟨f,args,w1,h3,_⟩
     · rw[hrun]at h3;cases h3;exact h5
     rw[hrun]at h3;cases h3
   unfold wpOpIn
   rw[hio]
   dsimp only
   rw[bh hw]
   refine G5 (hrun w) (ih _ _ (by simpa using hs) (Ot hlt hbi hc) ?_ ?_ ?_ (W9 hlt hio hed hD) ?_ ?_ ?_)
   · intro j hj hjs
     rw[D0 hlt,aq (by omega)]
     exact hno j hj hjs
   · rw[D0 hlt];split<;>first|rfl|exact hk
   · intro j hj hl
     rw[D0 hlt]at hl
     split at hl
     · cases hl
     exact hlate j hj hl
   · refine⟨by rw[hd];exact ha.defers,by rw[hd];simp[Go.Act.put,ha.size],fun t q ht=>?_⟩
     have hne':t≠d:=fun e=>hbase t q ht i o oQ hio (by rw[hd,e])
     rw[hd,Dp hne']
     exact ha.val t q ht
   · rw[hd,Dp (fun e=>hne e.symm)];exact hv
   intro j p d' q hjk hp hpd hEj hpl hl
   by_cases e:j=i
   · subst e
     rw[hio]at hp
     cases hp
     rw[hd]at hpd
     cases hpd
     rw[hEi]at hEj
     cases hEj
     rw[hd,Fj (by rw[ha.size];exact hdn)]
     exact hpl.holds hval
   have hne':d'≠d:=fun ee=>(hpair j p oQ hp).1 (fun ee=>e ee.symm) (by rw[hd,hpd,ee])
   rw[hd,Dp hne']
   rw[D0 hlt,aq e]at hl
   exact hI j p d' q hjk hp hpd hEj hpl hl
theorem Yy{k:Nat}{w0:World}{base:Env}{dh:Nat}{oh:Oper}{PostH:Value→World→Prop}(hok:J8 n ops (k+1)=true)(hT:Gv ops (k+1)=true)(hA:Dz ops=true)(hC:Fv ops (k+1)=true)(hL:cR ops k=true)(hkk:k<ops.size)(E:Nat→Env)(hE0:E 0=[])
   (hE:∀(i:Nat)(o:Oper),i<k→ops[i]?=some o→∃ph d,o.dst=some d∧phUp ph∧BT P n ds ops w0 (Ce (o.looksAt ops) (E i)++base) o ph∧E (i+1)=(d,ph)::E i)
   (hbp:Cq base=true)(hbase:∀i ph,lk base i=some ph→∀(j:Nat)(o:Oper),j<k+1→ops[j]?=some o→o.dst≠some i)
   (hoh:ops[k]?=some oh)(hdh:oh.dst=some dh)(hgh:oh.guard=none)
   (hH:∀a w,Up w0 w→Ag n ds (Ce (oh.looksAt ops) (E k)++base) a w→cK P oh a w PostH)
   (hQ:∀v w a,PostH v w→Ag n ds ((dh,.eq v)::(Fa (E k)++base)) a w→wpListIn (FR R) m P ops Q (ops.toList.drop (k+1)) a w):
   ∀(fuel:Nat)(listed:Array Bool)(a:Go.Act)(w:World),listed.size=ops.size→listed.toList.countP (· ==false)≤fuel→(∀j,k≤j→j<ops.size→listed.getD j false=false)→Dn ops listed→Up w0 w→Ag n ds base a w→
     (∀(j:Nat)(o:Oper)(d:Nat)(ph:Ph),j<k→ops[j]?=some o→o.dst=some d→E (j+1)=(d,ph)::E j→listed.getD j false=true→ph.holds (a.tmps.getD d undef) w)→
     wpAnyIn (FR R) m P .any ops Q fuel listed a w:=by
 have hEl:∀c i ph,c≤k→lk (E c) i=some ph→∃j o,j<c∧ops[j]?=some o∧o.dst=some i∧E (j+1)=(i,ph)::E j:=by
   intro c
   induction c with
   |zero=>intro i ph _ h;rw[hE0]at h;cases h
   |succ c ih=>
     intro i ph hk h
     have hko:ops[c]?=some ops[c]:=by simp[show c<ops.size by omega]
     obtain⟨q,d,hd,_,_,he⟩:=hE c _ oQ hko
     rw[he]at h
     by_cases e:i=d
     · subst e
       rw[A9]at h
       cases h
       exact⟨c,_,by omega,hko,hd,he⟩
     rw[Be e]at h
     obtain⟨j,o,h1,h2⟩:=ih i ph oQ h
     exact⟨j,o,by omega,h2⟩
 intro fuel
 induction fuel with
 |zero=>
   intro listed a w hs hc hno hD hu ha hI
   exfalso
   have h0:listed.toList.countP (· ==false)=0:=by omega
   rw[gp]at h0
   have hlt:k<listed.size:=by omega
   have:=h0 listed[k] (by simp)
   have h1:=hno k (bl _) hkk
   rw[bm]at h1
   simp only[hlt,ce,dr]at h1
   rw[h1]at this
   simp at this
 |succ fuel ih=>
   intro listed a w hs hc hno hD hu ha hI
   refine⟨fun hr=>?_,fun i hi=>?_⟩
   · exfalso
     obtain⟨i,hi⟩:=Nr hA (k:=k+1) oQ hs k oQ (hno k (bl _) hkk)
     rw[hr]at hi
     cases hi
   obtain⟨o,hio,hbi,hed⟩:=(Ge hs).1 hi
   have hi':i<ops.size:=(cb.1 hio).1
   have hlt:i<listed.size:=by omega
   have hik:i≤k:=by
     rcases fg k i with h|h
     · exfalso
       by_cases e:i=k+1
       · subst e
         have:=Om hC hD hio hed 1 k oQ oQ
         rw[hno k (bl _) hkk]at this
         cases this
       obtain⟨e',he,hb,hon⟩:=Mr hT hio (show k+1<i by omega)
       have h1:=hed e' he hb
       rw[hon,hno (i-1) oQ (by omega)]at h1
       cases h1
     exact h
   obtain⟨hd0,hpair⟩:=Pv hok (show i<k+1 by omega) hio
   by_cases hkI:i=k
   · subst hkI
     rw[hoh]at hio
     cases hio
     have hdn:dh<n:=by obtain⟨d',h1,h2⟩:=hd0;rw[hdh]at h1;cases h1;exact h2
     have hag:Ag n ds (Ce (oh.looksAt ops) (E i)++base) a w:=by
       refine⟨ha.defers,ha.size,fun t q ht=>?_⟩
       rcases Dq ht with h|h
       · obtain⟨h1,h2⟩:=Fc h
         obtain⟨j,p,hj,hp,hpd,hEj⟩:=hEl _ _ _ (bl _) h2
         obtain⟨e,he,hbe,hon'⟩:=(hpair j p oQ hp).2 t hpd h1
         have:=hed e he hbe
         exact hI j p t q hj hp hpd hEj (by rw[←hon'];exact this)
       exact ha.val t q h
     unfold wpOpIn
     rw[hoh]
     dsimp only
     have hw:Region.wanted oh (yielded ops a.tmps)=true:=by simp[Region.wanted,hgh]
     rw[bh hw]
     refine Lt (hH a w hu hag) fun v w' hv=>(cV hu hok hT hA hC hkk E hE0 hE hbp hbase (fun o' ho'=>by rw[hoh]at ho';cases ho';exact hdh) (fun a' ha'=>hQ v w' a' hv ha') fuel _ _ (by simpa using hs) (Ot hlt hbi hc) ?_ ?_ ?_ (W9 hlt hoh hed hD) ?_ ?_ ?_)
     · intro j hj hjs
       rw[D0 hlt,aq (by omega)]
       exact hno j oQ hjs
     · rw[D0 hlt,bh rfl]
     · intro j hj hl
       rw[D0 hlt,aq (by omega)]at hl
       cases hla:Ly ops i j with
       |true=>rfl
       |false=>
         have:=kE hL hD hoh hed (i-j) j rfl hj hla
         rw[this]at hl;cases hl
     · refine⟨by rw[hdh];exact ha.defers,by rw[hdh];simp[Go.Act.put,ha.size],fun t q ht=>?_⟩
       have hne':t≠dh:=fun e=>hbase t q ht i _ oQ hoh (by rw[hdh,e])
       rw[hdh,Dp hne']
       exact Gb hbp ht (ha.val t q ht)
     · rw[hdh,Fj (by rw[ha.size];exact hdn)]
     intro j p d' q hjk hp hpd hEj hpl hl
     have hne':d'≠dh:=fun ee=>(hpair j p oQ hp).1 oQ (by rw[hdh,hpd,ee])
     rw[hdh,Dp hne']
     rw[D0 hlt,aq (by omega)]at hl
     exact hpl.holds (hI j p d' q hjk hp hpd hEj hl)
   have hik:i<k:=by omega
   obtain⟨ph,d,hd,hup,hop,hEi⟩:=hE i o hik hio
   have hdn:d<n:=by obtain⟨d',h1,h2⟩:=hd0;rw[hd]at h1;cases h1;exact h2
   have hag:Ag n ds (Ce (o.looksAt ops) (E i)++base) a w:=by
     refine⟨ha.defers,ha.size,fun t q ht=>?_⟩
     rcases Dq ht with h|h
     · obtain⟨h1,h2⟩:=Fc h
       obtain⟨j,p,hj,hp,hpd,hEj⟩:=hEl _ _ _ oQ h2
       obtain⟨e,he,hbe,hon'⟩:=(hpair j p oQ hp).2 t hpd h1
       have:=hed e he hbe
       exact hI j p t q oQ hp hpd hEj (by rw[←hon'];exact this)
     exact ha.val t q h
   have step:∀v w',Up w w'→ph.holds v w'→wpAnyIn (FR R) m P .any ops Q fuel (listed.setIfInBounds i true) (a.put o.dst v) w':=by
     intro v w' hu' hv
     refine ih _ _ _ (by simpa using hs) (Ot hlt hbi hc) ?_ (W9 hlt hio hed hD) (hu.trans hu') ?_ ?_
     · intro j hj hjs
       rw[D0 hlt,aq (by omega)]
       exact hno j hj hjs
     · refine⟨by rw[hd];exact ha.defers,by rw[hd];simp[Go.Act.put,ha.size],fun t q ht=>?_⟩
       have hne:t≠d:=fun e=>hbase t q ht i o oQ hio (by rw[hd,e])
       rw[hd,Dp hne]
       exact Gb hbp ht (ha.val t q ht)
     intro j p d' q hjk hp hpd hEj hl
     by_cases e:j=i
     · subst e
       rw[hio]at hp
       cases hp
       rw[hd]at hpd
       cases hpd
       rw[hEi]at hEj
       cases hEj
       rw[hd,Fj (by rw[ha.size];exact hdn)]
       exact hv
     have hne:d'≠d:=fun ee=>(hpair j p oQ hp).1 (fun ee=>e ee.symm) (by rw[hd,hpd,ee])
     rw[hd,Dp hne]
     obtain⟨q',d'',hd'',hup',_,hEj'⟩:=hE j p hjk hp
     rw[hEj]at hEj'
     cases hEj'
     rw[D0 hlt,aq e]at hl
     exact hup' _ _ _ (hI j p d' q hjk hp hpd hEj hl) hu'
   have h2:=hop a w hu hag
   unfold wpOpIn
   rw[hio]
   dsimp only
   by_cases hw:Region.wanted o (yielded ops a.tmps)=true
   · rw[bh hw]at h2⊢
     exact Lt h2 fun v w'⟨h3,h4⟩=>step v w' h3 h4
   rw[aq hw]at h2⊢
   exact⟨fun _ _=>trivial,step _ _ (Up.refl w) h2⟩
theorem Jh{id:Nat}{opsL:List Oper}(k:Nat){oh:Oper}{dh:Nat}(PostH:Value→World→Prop)(hm:P.follows .mixedOrders=true)(hok:J8 n opsL.toArray (k+1)=true)(hT:Gv opsL.toArray (k+1)=true)(hA:Dz opsL.toArray=true)(hC:Fv opsL.toArray (k+1)=true)(hL:cR opsL.toArray k=true)
   (hl:Cq l=true){base:Env}(hb:D7 (R5 (opsL.take (k+1))) l=base)(hoh:opsL[k]?=some oh)(hdh:oh.dst=some dh)(hgh:oh.guard=none)
   (h:HW P n ds opsL.toArray base w [] (opsL.take k) (fun env=>(∀a w',Up w w'→Ag n ds (Ce (oh.looksAt opsL.toArray) env++base) a w'→cK P oh a w' PostH)∧∀v w',PostH v w'→LW R m P n ds opsL.toArray Q (opsL.drop (k+1)) ((dh,.eq v)::(Fa env++base)) w')):CW R m P n ds (.region id opsL.toArray true) Q l w:=by
 intro a ha
 obtain⟨E,hE0,hK,hE⟩:=Wz _ _ h
 subst hb
 have hks:k+1≤opsL.length:=by
   unfold J8 at hok
   rw[b6]at hok
   simpa using a_ hok.1
 have hlen:(opsL.take k).length=k:=by rw[cc];omega
 rw[hlen]at hK
 have hbp:Cq (D7 (R5 (opsL.take (k+1))) l)=true:=by
   have:∀(ks:List Nat)(l:Env),Cq l=true→Cq (D7 ks l)=true:=by
     intro ks l
     induction l with
     |nil=>intro _;rfl
     |cons p l ih=>
       obtain⟨i,ph⟩:=p
       cases ph with
       |pred q=>intro h;simp[Cq]at h
       |eq v=>intro h;unfold D7;cases M8 ks i<;>simp[Cq]at h⊢ <;>exact ih h
       |cond b v=>intro h;unfold D7;cases M8 ks i<;>simp[Cq]at h⊢ <;>exact ih h
   exact this _ _ hl
 refine wpIn_region_any hm (Yy (w0:=w) (base:=D7 (R5 (opsL.take (k+1))) l) (oh:=oh) hok hT hA hC hL (by rw[i6];omega) E hE0 (fun i o hik ho=>hE i o (by rw[dm hik];simpa using ho)) hbp ?_ (by simpa using hoh) hdh hgh hK.1 ?_ _ _ _ _ (by simp) ?_ ?_ ?_ (Up.drew w) ?_ ?_)
 · intro i ph hi j o hj ho hd
   obtain⟨h1,h2⟩:=Dc hi
   exact h1 (R6 (by have:=ai (l:=opsL.take (k+1)) (i:=j) (by rw[dm hj];simpa using ho);exact this) hd)
 · intro v w' a' hv ha'
   exact hK.2 v w' hv a' ha'
 · have:(Array.replicate opsL.toArray.size false).toList.countP (· ==false)≤(Array.replicate opsL.toArray.size false).toList.length:=i8
   simpa using this
 · intro j _ _
   rw[bm,ff]
   split<;>rfl
 · intro i o _ hli
   rw[bm,ff]at hli
   split at hli<;>simp at hli
 · exact⟨ha.defers,ha.size,fun i ph hi=>Gb hl (Dc hi).2 (ha.val _ _ (Dc hi).2)⟩
 intro j o d ph _ ho hd _ hlj
 rw[bm,ff]at hlj
 split at hlj<;>simp at hlj
theorem REv.y{o:Oper}{a:Go.Act}{Post:Value→World→Prop}(h:REv P n ds l w o Post)(ha:Ag n ds l a w):cK P o a w Post:=.inl (h a ha)
theorem GQ{o:Oper}{rest:List Oper}{Post:Value→World→Prop}(h:REv P n ds l w o Post)(hg:o.guard=none)(hd:o.dst=none)(hl:Cq l=true)
   (k:∀v w',Post v w'→LW R m P n ds ops Q rest l w'):LW R m P n ds ops Q (o::rest) l w:=fun a ha=>
 let⟨v,w',hr,hp⟩:=h a ha
 wpListIn_plain hg fun K hK=>G5 hr (hK _ _ (k v w' hp _ (by rw[hd];exact ha.world hl w')))
end
section
variable (R:Option Nat)(m:Nat)(P:Program)(n:Nat)(ds:List Deferred)
def AWU(ops:Array Oper)(Q:Exit→Go.Act→World→Prop)(s:Nat)(l:Env)(w:World):Prop:=∀(fuel:Nat)(listed:Array Bool)(a:Go.Act),ops.size-s≤fuel→yT ops s listed→Ag n ds l a w→wpAnyIn (FR R) m P .any ops Q fuel listed a w
def TOp(ops:Array Oper)(env:Env)(w:World)(o:Oper)(Post:Value→World→Prop):Prop:=∀a,Ag n ds env a w→if Region.wanted o (yielded ops a.tmps)=true then cK P o a w Post else Post undef w
end
def Ik(ops:Array Oper)(k:Nat):Bool:=
 (List.range ops.size).all fun i=> !Nat.ble (k+1) i||(match ops[i]? with|none=>false|some o=>o.after.any fun e=>Region.binds .any e&&Nat.ble k e.on)
theorem K7:∀{l:Env}{i:Nat}{ph:Ph},lk l i=some ph→(i,ph)∈l
 |[],_,_,h=>by cases h
 |(j,q)::l,i,ph,h=>by
   by_cases e:i=j
   · subst e;rw[A9]at h;cases h;exact b7
   rw[Be e]at h;exact b_ _ (K7 h)
section
variable {R:Option Nat}{m:Nat}{P:Program}{n:Nat}{ds:List Deferred}{Q:Exit→Go.Act→World→Prop}{l:Env}{w:World}{ops:Array Oper}
theorem oV{k:Nat}(h:Ik ops k=true){i:Nat}{o:Oper}(ho:ops[i]?=some o)(hk:k<i):∃e∈o.after,Region.binds .any e=true∧k≤e.on:=by
 have hi:i<ops.size:=(cb.1 ho).1
 have h1:=di.1 h i (cn.2 hi)
 have hb:Nat.ble (k+1) i=true:=g8 hk
 simp only[ho,hb,ja,g7]at h1
 obtain⟨e,he,hh⟩:=fk.1 h1
 simp only[b6]at hh
 exact⟨_,ez he,hh.1,a_ hh.2⟩
theorem Db{id:Nat}{opsL:List Oper}(hm:P.follows .mixedOrders=true)(hl:Cq l=true)(h:AWU R m P n ds opsL.toArray Q 0 l w.drew):CW R m P n ds (.region id opsL.toArray true) Q l w:=fun a ha=>
 wpIn_region_any hm (h _ _ a (by simp) ⟨by simp,fun j hj=>by
   rw[bm,ff]
   split<;>rfl⟩ (ha.world hl _))
def allL(p:Nat→Oper→Prop):Nat→List Oper→Prop
 |_,[]=>True
 |i,o::r=>p i o∧allL p (i+1) r
theorem allL.nil{p:Nat→Oper→Prop}{i:Nat}:allL p i []:=trivial
theorem allL.cons{p:Nat→Oper→Prop}{i:Nat}{o:Oper}{r:List Oper}(h:p i o)(k:allL p (i+1) r):allL p i (o::r):=⟨h,k⟩
abbrev aC:=@allL.cons
theorem allL.at{p:Nat→Oper→Prop}:∀{r:List Oper}{i j:Nat}{o:Oper},allL p i r→r[j]?=some o→p (i+j) o
 |[],_,_,_,_,h=>by cases h
 |x::r,i,0,o,hp,h=>by
   rw[List.getElem?_cons_zero]at h
   cases h;exact hp.1
 |x::r,i,j+1,o,hp,h=>by
   rw[fh]at h
   have:=allL.at hp.2 h
   rwa [show i+1+j=i+(j+1)by omega]at this
def Ji(base:Env)(r:List Oper):Bool:=r.all fun o=>match o.dst with|none=>true|some d=>(lk base d).isNone
theorem Gf{base:Env}{r:List Oper}(h:Ji base r=true){i:Nat}{ph:Ph}(hi:lk base i=some ph){o:Oper}(ho:o∈r):o.dst≠some i:=by
 intro e
 have:=di.1 h o ho
 simp[e,hi]at this
theorem TOp.p{env:Env}{o:Oper}{v:Value}{X:Value→World→Prop}(h:PEv P n ds env w o v)(hg:o.guard=none)(hx:X v w):TOp P n ds ops env w o X:=fun a ha=>by
 rw[bh (by simp[Region.wanted,hg])]
 exact .inl ⟨v,w,h a w ha (Up.refl w),hx⟩
theorem TOp.py{env:Env}{o:Oper}{v:Value}{X:Value→World→Prop}{j dj:Nat}{oj:Oper}{want:Bool}(hg:o.guard=some (j,want))(hj:ops[j]?=some oj)(hdj:oj.dst=some dj)(hdn:Nat.ble (dj+1) n=true)(hb:lk env dj=some (.eq (.bool want)))
   (h:PEv P n ds env w o v)(hx:X v w):TOp P n ds ops env w o X:=fun a ha=>by
 rw[bh (by rw[D6 (o:=o) (ops:=ops) (a:=a) hg hj hdj (by rw[ha.size];exact a_ hdn) (ha.val _ _ hb)];cases want<;>rfl)]
 exact .inl ⟨v,w,h a w ha (Up.refl w),hx⟩
theorem TOp.no{env:Env}{o:Oper}{X:Value→World→Prop}{j dj:Nat}{oj:Oper}{want b:Bool}(hg:o.guard=some (j,want))(hj:ops[j]?=some oj)(hdj:oj.dst=some dj)(hdn:Nat.ble (dj+1) n=true)(hb:lk env dj=some (.eq (.bool b)))(hne:(b==want)=false)
   (hx:X undef w):TOp P n ds ops env w o X:=fun a ha=>by
 rw[aq (by rw[D6 (o:=o) (ops:=ops) (a:=a) hg hj hdj (by rw[ha.size];exact a_ hdn) (ha.val _ _ hb),hne];simp)]
 exact hx
theorem TOp.c{env:Env}{o:Oper}{f:FuncId}{args:Array Value}{Post X:Value→World→Prop}(he:∀a,Ag n ds env a w→(execOp a.eval o).run P w=.ok (.enter f args) w)(hg:o.guard=none)(hc:Ret P f args w Post)(hx:∀r w',Post r w'→X r w'):TOp P n ds ops env w o X:=fun a ha=>by
 rw[bh (by simp[Region.wanted,hg])]
 exact .inr ⟨f,args,w,he a ha,hc.mono hx⟩
theorem Jj{env:Env}{o:Oper}{f:FuncId}{args:Array Value}{Post X:Value→World→Prop}{j dj:Nat}{oj:Oper}{want:Bool}(hg:o.guard=some (j,want))(hj:ops[j]?=some oj)(hdj:oj.dst=some dj)(hdn:Nat.ble (dj+1) n=true)(hb:lk env dj=some (.eq (.bool want)))
   (he:∀a,Ag n ds env a w→(execOp a.eval o).run P w=.ok (.enter f args) w)(hc:Ret P f args w Post)(hx:∀r w',Post r w'→X r w'):TOp P n ds ops env w o X:=fun a ha=>by
 rw[bh (by rw[D6 (o:=o) (ops:=ops) (a:=a) hg hj hdj (by rw[ha.size];exact a_ hdn) (ha.val _ _ hb)];cases want<;>rfl)]
 exact .inr ⟨f,args,w,he a ha,hc.mono hx⟩
end
end Go.Wx
namespace Go.Wx
open Go.RowKit Go.MapKept
structure Cel(w w':World):Prop where
 size:w.heap.size≤w'.heap.size
 cell:∀ad v,w.cell? ad=some v→w'.cell? ad=some v
 blk:∀(b:Nat)(cs:Array Value)(T:TypeId)(x:Nat×Nat),w.heap[b]?=some (Obj.cells cs T x)→w'.heap[b]?=some (Obj.cells cs T x)
section
variable (R:Option Nat)(m:Nat)(P:Program)(n:Nat)(ds:List Deferred)
def KZ(o:Oper)(a:Go.Act)(w:World)(Post:Value→World→Prop):Prop:=cK P o a w Post∨(∃w',(execOp a.eval o).run P w=.ok .skip w'∧Post undef w')
def TG(ops:Array Oper)(env:Env)(f:Nat→Value)(w:World)(o:Oper)(Post:Value→World→Prop):Prop:=∀a,Ag n ds env a w→(∀t,a.tmps.getD t undef=f t)→if Region.wanted o (yielded ops a.tmps)=true then KZ P o a w Post else Post undef w
def AWF(ops:Array Oper)(Q:Exit→Go.Act→World→Prop)(s:Nat)(l:Env)(f:Nat→Value)(w:World):Prop:=∀(fuel:Nat)(listed:Array Bool)(a:Go.Act),ops.size-s≤fuel→yT ops s listed→Ag n ds l a w→(∀t,a.tmps.getD t undef=f t)→wpAnyIn (FR R) m P .any ops Q fuel listed a w
end
def Gw(n:Nat)(ops:Array Oper)(s k:Nat):Bool:=(List.range k).all fun i=> !Nat.ble s i||(match ops[i]? with
 |none=>false
 |some o=>match o.dst with
   |none=>true
   |some d=>Nat.ble (d+1) n&&(List.range k).all fun j=> !Nat.ble s j||(Nat.beq i j||(match ops[j]? with|none=>true|some p=> !(p.dst==some d))))
def Jt(ops:Array Oper)(ph:Nat→Ph)(s:Nat)(o:Oper):Env:=o.after.toList.filterMap fun e=>if(Region.binds .any e&&Nat.ble s e.on)=true then((ops[e.on]?).bind (·.dst)).map fun d=>(d,ph e.on)else none
def Hg(ops:Array Oper)(ph:Nat→Ph)(s k:Nat):Env:=(List.range k).filterMap fun j=>if Nat.ble s j=true then((ops[j]?).bind (·.dst)).map fun d=>(d,ph j)else none
def HS(ops:Array Oper)(L:Nat→Bool):Prop:=∀(i:Nat)(o:Oper),ops[i]?=some o→L i=true→∀e∈o.after,Region.binds .any e=true→L e.on=true
def Cs(L:Nat→Bool)(i:Nat):Nat→Bool:=fun j=>if j=i then true else L j
def Dv(f:Nat→Value)(d:Option Nat)(v:Value):Nat→Value:=fun t=>if d=some t then v else f t
section
variable {R:Option Nat}{m:Nat}{P:Program}{n:Nat}{ds:List Deferred}{Q:Exit→Go.Act→World→Prop}{l:Env}{w:World}{ops:Array Oper}
theorem Da{s k:Nat}(h:Gw n ops s k=true){i:Nat}{o:Oper}{d:Nat}(hs:s≤i)(hk:i<k)(ho:ops[i]?=some o)(hd:o.dst=some d):d<n∧∀(j:Nat)(p:Oper),s≤j→j<k→j≠i→ops[j]?=some p→p.dst≠some d:=by
 have h1:=di.1 h i (cn.2 hk)
 have hb:Nat.ble s i=true:=g8 hs
 simp only[hb,ja,g7,ho,hd]at h1
 simp only[b6]at h1
 refine⟨a_ h1.1,fun j p hj hjk hne hp=>?_⟩
 have h2:=di.1 h1.2 j (cn.2 hjk)
 have hb':Nat.ble s j=true:=g8 hj
 have hb2:Nat.beq i j=false:=by
   cases e:Nat.beq i j with
   |false=>rfl
   |true=>exact absurd (ci e).symm hne
 simp only[hb',ja,g7,hb2,hp]at h2
 intro e
 rw[e]at h2
 simp at h2
theorem cW{ph:Nat→Ph}{s:Nat}{o:Oper}{t:Nat}{q:Ph}(h:lk (Jt ops ph s o) t=some q):∃e∈o.after,Region.binds .any e=true∧s≤e.on∧∃p,ops[e.on]?=some p∧p.dst=some t∧q=ph e.on:=by
 have h1:=K7 h
 unfold Jt at h1
 rw[f5]at h1
 obtain⟨e,he,h2⟩:=h1
 split at h2
 · rename_i hc
   simp only[b6]at hc
   cases hp:ops[e.on]? with
   |none=>rw[hp]at h2;cases h2
   |some p=>
     rw[hp]at h2
     cases hd:p.dst with
     |none=>simp[hd]at h2
     |some d=>
       simp[hd]at h2
       obtain⟨rfl,rfl⟩:=h2
       exact⟨e,by simpa using he,hc.1,a_ hc.2,p,hp,hd,rfl⟩
 cases h2
theorem Fg{ph:Nat→Ph}{s k:Nat}{t:Nat}{q:Ph}(h:lk (Hg ops ph s k) t=some q):∃j p,s≤j∧j<k∧ops[j]?=some p∧p.dst=some t∧q=ph j:=by
 have h1:=K7 h
 unfold Hg at h1
 rw[f5]at h1
 obtain⟨j,hj,h2⟩:=h1
 split at h2
 · rename_i hc
   cases hp:ops[j]? with
   |none=>rw[hp]at h2;cases h2
   |some p=>
     rw[hp]at h2
     cases hd:p.dst with
     |none=>simp[hd]at h2
     |some d=>
       simp[hd]at h2
       obtain⟨rfl,rfl⟩:=h2
       exact⟨j,p,a_ hc,cn.1 hj,hp,hd,rfl⟩
 cases h2
theorem oW{o:Oper}{a:Go.Act}{Post:Value→World→Prop}{K:Go.Act→World→Prop}{w:World}(h:KZ P o a w Post)(hk:∀v w',Post v w'→K (a.put o.dst v) w'):o.wpIn (FR R) m P a w K Q:=by
 rcases h with h|⟨w',hr,hp⟩
 · exact Lt h hk
 exact Qs hr (hk _ w' hp)
theorem H3{s k:Nat}{base:Env}(ph:Nat→Ph)(Rel:World→World→Prop)(Inv:(Nat→Bool)→(Nat→Value)→World→Prop){f0:Nat→Value}
   (hrefl:∀w,Rel w w)(htr:∀w w1 w2,Rel w w1→Rel w1 w2→Rel w w2)(hph:∀i v w w',(ph i).holds v w→Rel w w'→(ph i).holds v w')
   (hA:Dz ops=true)(hC:(Nat.beq k ops.size||Fv ops k)=true)(hF:Ik ops k=true)(hks:Nat.ble k ops.size=true)(hsk:Nat.ble s k=true)
   (hD:Gw n ops s k=true)(hbp:Cq base=true)(hbd:∀i ph,lk base i=some ph→∀(j:Nat)(o:Oper),s≤j→j<k→ops[j]?=some o→o.dst≠some i)
   (hop:∀i o,s≤i→i<k→ops[i]?=some o→∀L f W,Rel w W→HS ops L→L i=false→(∀e∈o.after,Region.binds .any e=true→L e.on=true)→Inv L f W→
     TG P n ds ops (Jt ops ph s o++base) f W o (fun v W'=>Rel W W'∧(∀d,o.dst=some d→(ph i).holds v W')∧Inv (Cs L i) (Dv f o.dst v) W'))
   (hw:Inv (fun j=>decide (j<s)) f0 w)(hend:∀f W,Rel w W→Inv (fun j=>decide (j<k)) f W→AWF R m P n ds ops Q k (Hg ops ph s k++base) f W):AWF R m P n ds ops Q s base f0 w:=by
 have hks:k≤ops.size:=a_ hks
 have hsk:s≤k:=a_ hsk
 suffices H:∀(fuel:Nat)(listed:Array Bool)(a:Go.Act)(f:Nat→Value)(W:World),listed.size=ops.size→listed.toList.countP (· ==false)≤fuel→(∀j,j<s→listed.getD j false=true)→(∀j,k≤j→j<ops.size→listed.getD j false=false)→Dn ops listed→Ag n ds base a W→(∀t,a.tmps.getD t undef=f t)→Rel w W→
     (∀(j:Nat)(o:Oper)(d:Nat),s≤j→j<k→ops[j]?=some o→o.dst=some d→listed.getD j false=true→(ph j).holds (f d) W)→Inv (fun j=>listed.getD j false) f W→wpAnyIn (FR R) m P .any ops Q fuel listed a W by
   intro fuel listed a hf hu ha hsl
   have hno:∀j,s≤j→j<ops.size→listed.getD j false=false:=fun j h1 h2=>by rw[hu.2 j h2];simpa using h1
   have hyes:∀j,j<s→listed.getD j false=true:=fun j h1=>by rw[hu.2 j (by omega)];simpa using h1
   refine H fuel listed a f0 w hu.1 ?_ hyes (fun j h1 h2=>hno j oQ h2) ?_ ha hsl (hrefl w) ?_ ?_
   · have e:listed.toList=listed.toList.take s++listed.toList.drop s:=(er s _).symm
     rw[e,List.countP_append]
     have z1:(listed.toList.take s).countP (· ==false)=0:=by
       rw[gp]
       intro b hb
       obtain⟨j,hj,he⟩:=fb.1 hb
       rw[List.getElem_take]at he
       have hj':j<s:=by simp at hj;omega
       have hj2:j<listed.size:=by simp at hj;omega
       have:=hyes j hj'
       rw[bm]at this
       simp only[hj2,ce,dr]at this
       rw[←he]
       simp[this]
     have z2:(listed.toList.drop s).countP (· ==false)≤(listed.toList.drop s).length:=i8
     have z3:(listed.toList.drop s).length=ops.size-s:=by simp[hu.1]
     omega
   · intro i o ho hli e he hb
     have hi:i<ops.size:=(cb.1 ho).1
     have his:i<s:=by
       rcases fg i s with h|h
       · exact h
       rw[hno i h hi]at hli;cases hli
     exact hyes _ (by have:=Ef hA ho e he hb;omega)
   · intro j o d hj hjk ho _ hlj
     rw[hno j hj (by omega)]at hlj
     cases hlj
   have e:(fun j=>listed.getD j false)=fun j=>decide (j<s):=by
     funext j
     rcases fg j ops.size with h|h
     · exact hu.2 j h
     have:=hu.1
     rw[bm,Array.getElem?_eq_none oQ,br (by omega)]
     rfl
   rw[e]
   exact hw
 have last:∀(fuel:Nat)(listed:Array Bool)(a:Go.Act)(f:Nat→Value)(W:World),listed.size=ops.size→listed.toList.countP (· ==false)≤fuel→(∀j,k≤j→j<ops.size→listed.getD j false=false)→Ag n ds base a W→(∀t,a.tmps.getD t undef=f t)→Rel w W→
     (∀(j:Nat)(o:Oper)(d:Nat),s≤j→j<k→ops[j]?=some o→o.dst=some d→listed.getD j false=true→(ph j).holds (f d) W)→Inv (fun j=>listed.getD j false) f W→(∀j,j<k→listed.getD j false=true)→wpAnyIn (FR R) m P .any ops Q fuel listed a W:=by
   intro fuel listed a f W hs hc hno ha hsl hR hI hSt hall
   have e:(fun j=>listed.getD j false)=fun j=>decide (j<k):=by
     funext j
     rcases fg j k with h|h
     · rw[hall j h,bj h]
     rcases fg j ops.size with h'|h'
     · rw[hno j h h',br (by omega)]
     rw[bm,Array.getElem?_eq_none oQ,br (by omega)]
     rfl
   rw[e]at hSt
   refine hend f W hR hSt fuel listed a (Sf hs hc hno) ⟨hs,fun j hj=>congrFun e j⟩ ⟨ha.defers,ha.size,fun t q ht=>?_⟩ hsl
   rcases Dq ht with h|h
   · obtain⟨j,p,hj,hjk,hp,hd,rfl⟩:=Fg h
     rw[hsl]
     exact hI j p t hj hjk hp hd (hall j hjk)
   exact ha.val t q h
 intro fuel
 induction fuel with
 |zero=>
   intro listed a f W hs hc hyes hno hDn ha hsl hR hI hSt
   refine last 0 listed a f W hs hc hno ha hsl hR hI hSt (fun j hj=>?_)
   have h0:listed.toList.countP (· ==false)=0:=by omega
   rw[gp]at h0
   have hlt:j<listed.size:=by omega
   have:=h0 listed[j] (by simp)
   rw[bm]
   simp only[hlt,ce,dr]
   simpa using this
 |succ fuel ih=>
   intro listed a f W hs hc hyes hno hDn ha hsl hR hI hSt
   by_cases hall:∀j,j<k→listed.getD j false=true
   · exact last (fuel+1) listed a f W hs hc hno ha hsl hR hI hSt hall
   simp only[ik]at hall
   obtain⟨c,hck,hcf⟩:=hall
   have hcf:listed.getD c false=false:=by simpa using hcf
   refine⟨fun hr=>?_,fun i hi=>?_⟩
   · exfalso
     obtain⟨i,hi⟩:=Nr hA (k:=k) oQ hs c hck hcf
     rw[hr]at hi
     cases hi
   obtain⟨o,hio,hbi,hed⟩:=(Ge hs).1 hi
   have hi':i<ops.size:=(cb.1 hio).1
   have hlt:i<listed.size:=by omega
   have hsi:s≤i:=by
     rcases fg i s with h|h
     · rw[hyes i h]at hbi;cases hbi
     exact h
   have hik:i<k:=by
     rcases fg i k with h|h
     · exact h
     exfalso
     by_cases e:i=k
     · subst e
       rcases j4.1 hC with hC|hC
       · have:=ci hC;omega
       have:=Om hC hDn hio hed (i-c) c rfl hck
       rw[hcf]at this;cases this
     obtain⟨e',he,hb,hon⟩:=oV hF hio oQ
     have h1:=hed e' he hb
     have h2:=Ef hA hio e' he hb
     rw[hno e'.on hon (by omega)]at h1
     cases h1
   have hag:Ag n ds (Jt ops ph s o++base) a W:=by
     refine⟨ha.defers,ha.size,fun t q ht=>?_⟩
     rcases Dq ht with h|h
     · obtain⟨e,he,hb,hse,p,hp,hpd,rfl⟩:=cW h
       rw[hsl]
       exact hI e.on p t hse (by have:=Ef hA hio e he hb;omega) hp hpd (hed e he hb)
     exact ha.val t q h
   have eL:(fun j=>(listed.setIfInBounds i true).getD j false)=Cs (fun j=>listed.getD j false) i:=by
     funext j
     rw[D0 hlt]
     rfl
   have key:∀(v:Value)(W':World),Rel W W'∧(∀d,o.dst=some d→(ph i).holds v W')∧Inv (Cs (fun j=>listed.getD j false) i) (Dv f o.dst v) W'→wpAnyIn (FR R) m P .any ops Q fuel (listed.setIfInBounds i true) (a.put o.dst v) W':=by
     rintro v W' ⟨hRel,hv,hSt'⟩
     refine ih _ _ (Dv f o.dst v) W' (by simpa using hs) (Ot hlt hbi hc) ?_ ?_ (W9 hlt hio hed hDn) ?_ ?_ (htr _ _ _ hR hRel) ?_ (by rw[eL];exact hSt')
     · intro j hj
       rw[D0 hlt]
       split
       · rfl
       exact hyes j hj
     · intro j hj hjs
       rw[D0 hlt,aq (by omega)]
       exact hno j hj hjs
     · cases hd:o.dst with
       |none=>exact ha.world hbp W'
       |some d=>
         refine⟨ha.defers,by simp[Go.Act.put,ha.size],fun t q ht=>?_⟩
         have hne':t≠d:=fun e=>hbd t q ht i o hsi hik hio (by rw[hd,e])
         rw[Dp hne']
         exact Gb hbp ht (ha.val t q ht)
     · intro t
       cases hd:o.dst with
       |none=>exact hsl t
       |some d=>
         by_cases e:t=d
         · subst e
           rw[Fj (by rw[ha.size];exact(Da hD hsi hik hio hd).1)]
           simp[Dv]
         rw[Dp e,hsl]
         simp[Dv,Ne.symm e]
     intro j p d' hj hjk hp hpd hl
     by_cases e:j=i
     · subst e
       rw[hio]at hp;cases hp
       rw[hpd]
       simp only[Dv,if_true]
       exact hv d' hpd
     rw[D0 hlt,aq e]at hl
     have hne':o.dst≠some d':=fun ee=>(Da hD hsi hik hio ee).2 j p hj hjk e hp hpd
     simp only[Dv,aq hne']
     exact hph j _ _ _ (hI j p d' hj hjk hp hpd hl) hRel
   have top:=hop i o hsi hik hio _ f W hR (fun i o ho hli e he hb=>hDn i o ho hli e he hb) hbi hed hSt
   have top:=top a hag hsl
   unfold wpOpIn
   rw[hio]
   dsimp only
   split
   · rename_i hw'
     rw[bh hw']at top
     exact oW top key
   rename_i hw'
   rw[aq hw']at top
   exact⟨fun _ _=>trivial,key _ W top⟩
theorem Cel.refl(w:World):Cel w w:=⟨bl _,fun _ _ h=>h,fun _ _ _ _ h=>h⟩
theorem Cel.trans{w w1 w2:World}(h:Cel w w1)(k:Cel w1 w2):Cel w w2:=⟨bu h.size k.size,fun ad v hv=>k.cell ad v (h.cell ad v hv),fun b cs T x hb=>k.blk b cs T x (h.blk b cs T x hb)⟩
theorem Up.G7{w w':World}(u:Up w w'):Cel w w':=⟨u.size,fun _ _ h=>G2 h u,fun _ _ _ _ h=>(u.block (lt_of_block h)).trans h⟩
theorem Sto.G7{w w':World}{b:Nat}(u:Sto b w w')(hz:w.heap.size≤w'.heap.size)(hb:∀ad v,ad.block=b→w.cell? ad≠some v)(hk:∀(cs:Array Value)(T:TypeId)(x:Nat×Nat),w.heap[b]?≠some (Obj.cells cs T x)):Cel w w':=⟨hz,fun ad v h=>oF h u (fun e=>hb ad v e h),fun i cs T x h=>(u.block i (lt_of_block h) (fun e=>hk cs T x (e▸h))).trans h⟩
theorem IMap.Sh{w:World}{b:Nat}{kv:List (Int×Value)}(h:IMap w b kv):∀ad v,ad.block=b→w.cell? ad≠some v:=by
 intro ad v e hc
 obtain⟨es,clock,h1,_⟩:=h
 unfold World.cell? at hc
 rw[e,h1]at hc
 cases hc
theorem IMap.Yz{w:World}{b:Nat}{kv:List (Int×Value)}(h:IMap w b kv):∀(cs:Array Value)(T:TypeId)(x:Nat×Nat),w.heap[b]?≠some (Obj.cells cs T x):=by
 intro cs T x hc
 obtain⟨es,clock,h1,_⟩:=h
 rw[h1]at hc
 cases hc
theorem AggAt.G7{w w':World}{B o:Nat}{cs:Array Value}(h:AggAt w B o cs)(k:Cel w w'):AggAt w' B o cs:=fun j v hv=>k.cell _ _ (h j v hv)
theorem Els.G7{α:Type}{w w':World}{ad:Option Addr}{k:Nat}{enc:α→Array Value}{xs:List α}(h:Els w ad k enc xs)(u:Cel w w'):Els w' ad k enc xs:=fun i x hx=>let⟨B,o,h1,h2⟩:=h i x hx;⟨B,o,h1,h2.G7 u⟩
theorem Sl.G7{α:Type}{w w':World}{v:Value}{k:Nat}{enc:α→Array Value}{xs:List α}(h:Sl w v k enc xs)(u:Cel w w'):Sl w' v k enc xs:=let⟨ad,c,h1,h2⟩:=h;⟨ad,c,h1,Els.G7 h2 u⟩
theorem SEv.insert{ty:TypeId}{ps:String}{af:Array Edge}{g:Option (Nat×Bool)}{T K E:TypeId}{mo x y:Operand}{b:Nat}{k:Int}{v:Value}{kv:List (Int×Value)}(hT:P.underlying T=some (.map K E))(hK:P.underlying K=some (.int .i64))(hm:Val l mo (.map (some b)))(hx:Val l x (vi k))(hy:Val l y v)(h:IMap w b kv):
   SEv P n ds l w ⟨none,.insert T mo x y,ty,ps,af,g⟩ (fun w'=>IMap w' b (Hu kv k v)∧Sto b w w'∧w'.heap.size=w.heap.size):=fun a ha=>
 SEv.mapUpdate (ty:=ty) (ps:=ps) (af:=af) (g:=g) hT hK hm hx hy h a ha
def GR(m0 ms:Nat)(J:List (Nat×Int×Nat))(w0:World)(L:Nat→Bool)(f:Nat→Value)(W:World):Prop:=
 Up w0 W∧(L m0=true→∃b kv,f ms=.map (some b)∧w0.heap.size≤b∧IMap W b kv∧kv.Perm ((J.filter fun j=>L j.1).map fun j=>(j.2.1,f j.2.2)))
def Ou(ops:Array Oper)(m0:Nat)(J:List (Nat×Int×Nat)):Bool:=
 J.all fun j=>match ops[j.1]? with
   |none=>false
   |some o=>o.dst.isNone&&(o.after.any fun e=>Region.binds .any e&&Nat.beq e.on m0)&&(o.after.any fun e=>Region.binds .any e&&(match ops[e.on]? with|none=>false|some p=>p.dst==some j.2.2))
theorem Hh{m0:Nat}{J:List (Nat×Int×Nat)}(h:Ou ops m0 J=true){j:Nat×Int×Nat}(hj:j∈J):∃o,ops[j.1]?=some o∧o.dst=none∧(∃e∈o.after,Region.binds .any e=true∧e.on=m0)∧∃e∈o.after,Region.binds .any e=true∧∃p,ops[e.on]?=some p∧p.dst=some j.2.2:=by
 have h1:=di.1 h j hj
 cases ho:ops[j.1]? with
 |none=>simp[ho]at h1
 |some o=>
   simp only[ho,b6]at h1
   obtain⟨⟨h2,h3⟩,h4⟩:=h1
   obtain⟨e,he,hh⟩:=fk.1 h3
   simp only[b6]at hh
   obtain⟨e',he',hh'⟩:=fk.1 h4
   simp only[b6]at hh'
   refine⟨o,rfl,by simpa using h2,⟨_,ez he,hh.1,ci hh.2⟩,⟨_,ez he',hh'.1,?_⟩⟩
   have h5:=hh'.2
   split at h5
   · cases h5
   rename_i p hp
   exact⟨p,hp,by simpa using h5⟩
theorem Si{J:List (Nat×Int×Nat)}{L:Nat→Bool}{i:Nat}(hn:i∉J.map (·.1)):(J.filter fun j=>Cs L i j.1)=J.filter fun j=>L j.1:=by
 apply kc
 intro j hj
 have:j.1≠i:=fun e=>hn (e▸bx.2 ⟨j,hj,rfl⟩)
 simp[Cs,this]
theorem Sj:∀{J:List (Nat×Int×Nat)}{L:Nat→Bool}{i:Nat}{k:Int}{s:Nat},(J.map (·.1)).Nodup→(i,k,s)∈J→L i=false→(J.filter fun j=>Cs L i j.1).Perm ((i,k,s)::J.filter fun j=>L j.1)
 |[],_,_,_,_,_,h,_=>by cases h
 |x::r,L,i,k,s,hn,h,hL=>by
   obtain⟨h1,h2⟩:=g5.1 (by simpa using hn:(x.1::r.map (·.1)).Nodup)
   rcases bp.1 h with rfl|h
   · rw[dz,dz,bh (by simp[Cs]),aq (by simp[hL]),Si h1]
   have hne:x.1≠i:=fun e=>h1 (e▸bx.2 ⟨_,h,rfl⟩)
   have e:Cs L i x.1=L x.1:=by simp[Cs,hne]
   have ih:=Sj h2 h hL
   rw[dz,dz,e]
   split
   · exact(List.Perm.cons _ ih).trans (List.Perm.swap _ _ _)
   exact ih
theorem Y0{kv:List (Int×Value)}{k:Int}{v:Value}(h:k∉kv.map (·.1)):Hu kv k v=kv++[(k,v)]:=by rw[Hu,aq h]
theorem tP{J:List (Nat×Int×Nat)}(hn:(J.map (·.2.1)).Nodup){x y:Nat×Int×Nat}(hx:x∈J)(hy:y∈J)(h:x.2.1=y.2.1):x=y:=by
 obtain⟨i,hi,rfl⟩:=fb.1 hx
 obtain⟨j,hj,rfl⟩:=fb.1 hy
 have:=(km (i:=i) (j:=j) (h₀:=by simpa using hi) (h₁:=by simpa using hj) hn).1 (by simpa using h)
 subst this;rfl
theorem AWF.cX{k m0 ms T K E:Nat}{base:Env}{J:List (Nat×Int×Nat)}(ph:Nat→Ph){f0:Nat→Value}(hT:P.underlying T=some (.map K E))(hK:P.underlying K=some (.int .i64))
   (hph:∀i v w w',(ph i).holds v w→Cel w w'→(ph i).holds v w')(hA:Dz ops=true)(hC:(Nat.beq k ops.size||Fv ops k)=true)(hF:Ik ops k=true)(hks:Nat.ble k ops.size=true)
   (hD:Gw n ops 0 k=true)(hbp:Cq base=true)(hbd:∀i ph,lk base i=some ph→∀(j:Nat)(o:Oper),0≤j→j<k→ops[j]?=some o→o.dst≠some i)
   (hlit:Ou ops m0 J=true)(hJi:(J.map (·.1)).Nodup)(hJk:(J.map (·.2.1)).Nodup)(hJl:∀j∈J,j.1<k)(hm0k:m0<k)
   (hm0:∃ty ps,ops[m0]?=some ⟨some ms,.makeMap T none,ty,ps,#[],none⟩)
   (hins:∀j∈J,∃ty ps af,ops[j.1]?=some ⟨none,.insert T (.tmp ms) (.const (vi j.2.1)) (.tmp j.2.2),ty,ps,af,none⟩)
   (hmp:∀b W,(ph m0).holds (.map (some b)) W)
   (hop:∀i o,i<k→i≠m0→i∉J.map (·.1)→ops[i]?=some o→o.guard=none∧∀W,Cel w W→∀a,Ag n ds (Jt ops ph 0 o++base) a W→cK P o a W (fun v W'=>Up W W'∧(ph i).holds v W'))
   (hend:∀f W b kv,Up w W→f ms=.map (some b)→IMap W b kv→kv.Perm (J.map fun j=>(j.2.1,f j.2.2))→AWF R m P n ds ops Q k (Hg ops ph 0 k++base) f W):AWF R m P n ds ops Q 0 base f0 w:=by
 refine H3 ph Cel (GR m0 ms J w) Cel.refl (fun _ _ _=>Cel.trans) hph hA hC hF hks (by simp) hD hbp hbd ?_ ⟨Up.refl w,fun h=>by simp at h⟩ ?_
 · intro i o _ hik hio L f W hRel hDn hLi hed hInv
   obtain⟨hUp,hInv⟩:=hInv
   by_cases e0:i=m0
   · subst e0
     obtain⟨ty,ps,hm0⟩:=hm0
     rw[hio]at hm0;cases hm0
     intro a ha hsl
     rw[bh (by simp[Region.wanted])]
     obtain⟨v,W',hr,b,rfl,hM,hu,hb,hz⟩:=REv.makeMap (P:=P) (n:=n) (ds:=ds) (l:=Jt ops ph 0 _++base) (w:=W) (d:=some ms) (ty:=ty) (ps:=ps) (af:=#[]) (g:=none) a ha
     refine .inl (.inl ⟨_,W',hr,hu.G7,fun _ _=>hmp b W',hUp.trans hu,fun _=>⟨b,[],?_,?_,hM,?_⟩⟩)
     · simp[Dv]
     · have:=hUp.size;omega
     have:(J.filter fun j=>Cs L i j.1)=[]:=by
       rw[ft]
       intro j hj
       obtain⟨oj,hoj,_,⟨e,he,hbe,hon⟩,_⟩:=Hh hlit hj
       intro hLj
       have hne:j.1≠i:=fun e'=>by
         have:=Ef hA hoj e he hbe
         omega
       have:L j.1=true:=by simpa[Cs,hne]using hLj
       have:=hDn _ _ hoj this e he hbe
       rw[hon,hLi]at this;cases this
     rw[this];exact List.Perm.nil
   by_cases ej:i∈J.map (·.1)
   · obtain⟨⟨i',key,s⟩,hj,rfl⟩:=bx.1 ej
     obtain⟨ty,ps,af,ho⟩:=hins _ hj
     rw[hio]at ho;cases ho
     intro a ha hsl
     rw[bh (by simp[Region.wanted])]
     obtain⟨oj,hoj,_,⟨e,he,hbe,hon⟩,⟨e',he',hbe',p,hp,hpd⟩⟩:=Hh hlit hj
     rw[hio]at hoj;cases hoj
     obtain⟨b,kv,h1,hb,hM,hperm⟩:=hInv (by rw[←hon];exact hed e he hbe)
     have hag:Ag n ds [(s,.eq (f s)),(ms,.eq (.map (some b)))] a W:=by
       refine⟨ha.defers,ha.size,fun t q ht=>?_⟩
       by_cases e1:t=s
       · subst e1;rw[A9]at ht;cases ht;exact hsl _
       rw[Be e1]at ht
       by_cases e2:t=ms
       · subst e2;rw[A9]at ht;cases ht;exact(hsl _).trans h1
       rw[Be e2]at ht;cases ht
     have vm:Val [(s,.eq (f s)),(ms,.eq (.map (some b)))] (.tmp ms) (.map (some b)):=by
       by_cases e1:ms=s
       · subst e1;exact .tmp (by rw[A9,h1])
       exact .tmp (by rw[Be e1,A9])
     obtain⟨W',hr,hM',hsto,hz⟩:=SEv.insert (P:=P) (n:=n) (ds:=ds) (w:=W) (ty:=ty) (ps:=ps) (af:=af) (g:=none) hT hK vm (.const (vi key)) (.tmp A9) hM a hag
     have hnk:key∉kv.map (·.1):=by
       intro hmem
       have:=(hperm.map (·.1)).mem_iff.1 hmem
       rw[fd]at this
       obtain⟨j',hj',hk'⟩:=bx.1 this
       obtain⟨hj1,hj2⟩:=fe.1 hj'
       have:j'=(i',key,s):=tP hJk hj1 hj hk'
       rw[this,hLi]at hj2
       cases hj2
     rw[Y0 hnk]at hM'
     refine .inr ⟨W',hr,hsto.G7 oQ hM.Sh hM.Yz,(fun d hd=>by cases hd),hUp.sto hsto hb,fun _=>⟨b,_,h1,hb,hM',?_⟩⟩
     have:=((Sj hJi hj hLi).map fun j=>(j.2.1,f j.2.2))
     refine List.Perm.trans ?_ this.symm
     rw[c8]
     exact(jw).trans (List.Perm.cons _ hperm)
   obtain⟨hg,hop⟩:=hop i o hik e0 ej hio
   intro a ha hsl
   rw[bh (by simp[Region.wanted,hg])]
   have done:∀v W',Up W W'∧(ph i).holds v W'→Cel W W'∧(∀d,o.dst=some d→(ph i).holds v W')∧GR m0 ms J w (Cs L i) (Dv f o.dst v) W':=by
     rintro v W' ⟨hu,hv⟩
     refine⟨hu.G7,fun _ _=>hv,hUp.trans hu,fun hm=>?_⟩
     have hm':L m0=true:=by simpa[Cs,Ne.symm e0]using hm
     obtain⟨b,kv,h1,hb,hM,hperm⟩:=hInv hm'
     refine⟨b,kv,?_,hb,hM.up hu,?_⟩
     · obtain⟨ty,ps,hm0⟩:=hm0
       have:o.dst≠some ms:=by
         intro ed
         exact(Da hD (a8 _) hik hio ed).2 m0 _ (a8 _) hm0k (Ne.symm e0) hm0 rfl
       simpa[Dv,this]using h1
     rw[Si ej]
     have:((J.filter fun j=>L j.1).map fun j=>(j.2.1,Dv f o.dst v j.2.2))=(J.filter fun j=>L j.1).map fun j=>(j.2.1,f j.2.2):=by
       refine e8 fun j hj=>?_
       obtain⟨hj1,hj2⟩:=fe.1 hj
       obtain⟨oj,hoj,_,_,⟨e',he',hbe',p,hp,hpd⟩⟩:=Hh hlit hj1
       have hne:o.dst≠some j.2.2:=by
         intro ed
         have h2:=hDn _ _ hoj hj2 e' he' hbe'
         have h3:=Ef hA hoj e' he' hbe'
         by_cases ee:e'.on=i
         · rw[ee,hLi]at h2;cases h2
         exact(Da hD (a8 _) hik hio ed).2 e'.on p (a8 _) (by have:=hJl j hj1;omega) ee hp hpd
       simp[Dv,hne]
     rw[this]
     exact hperm
   rcases hop W hRel a ha with⟨v,W',hr,hp⟩|⟨fn,args,w1,hr,hc⟩
   · exact .inl (.inl ⟨v,W',hr,done v W' hp⟩)
   exact .inl (.inr ⟨fn,args,w1,hr,hc.mono done⟩)
 intro f W hRel hInv
 obtain⟨hUp,hInv⟩:=hInv
 obtain⟨b,kv,h1,_,h2,h3⟩:=hInv (by simpa using hm0k)
 refine hend f W b kv hUp h1 h2 ?_
 rwa [ir.2 (fun j hj=>by simpa using hJl j hj)]at h3
def PhC(q:Ph):Prop:=∀v w w',q.holds v w→Cel w w'→q.holds v w'
theorem PhC.eq(v:Value):PhC (.eq v):=fun _ _ _ h _=>h
theorem PhC.pred{p:Value→World→Prop}(h:∀v w w',p v w→Cel w w'→p v w'):PhC (.pred p):=h
def allC:List Ph→Prop
 |[]=>True
 |q::r=>PhC q∧allC r
theorem allC.at:∀{l:List Ph},allC l→∀i,PhC (l.getD i (.eq undef))
 |[],_,_=>by simpa using PhC.eq undef
 |_::_,h,0=>by simpa using h.1
 |_::_,h,i+1=>by simpa using allC.at h.2 i
theorem F8:∀{l r:Env}{t:Nat},lk l t=none→lk (l++r) t=lk r t
 |[],_,_,_=>rfl
 |(j,q)::l,r,t,h=>by
   by_cases e:t=j
   · subst e;rw[A9]at h;cases h
   rw[Be e]at h
   rw[e_,Be e]
   exact F8 h
theorem K8:∀{l r:Env}{t:Nat}{q:Ph},lk l t=some q→lk (l++r) t=some q
 |[],_,_,_,h=>by cases h
 |(j,q')::l,r,t,q,h=>by
   by_cases e:t=j
   · subst e;rw[A9]at h;cases h;rw[e_,A9]
   rw[Be e]at h
   rw[e_,Be e]
   exact K8 h
theorem Hv:∀{l:Env}{t:Nat}{q:Ph},(t,q)∈l→∃q',lk l t=some q'
 |[],_,_,h=>by cases h
 |(j,q')::l,t,q,h=>by
   by_cases e:t=j
   · subst e;exact⟨q',A9⟩
   rw[Be e]
   rcases bp.1 h with h|h
   · cases h;exact absurd rfl e
   exact Hv h
def TU(P:Program)(n:Nat)(ds:List Deferred)(env:Env)(W:World)(o:Oper)(q:Ph):Prop:=∀a,Ag n ds env a W→cK P o a W (fun v W'=>Up W W'∧q.holds v W')
theorem TU.p{env:Env}{o:Oper}{v:Value}{q:Ph}(h:PEv P n ds env w o v)(hx:q.holds v w):TU P n ds env w o q:=fun a ha=>.inl ⟨v,w,h a w ha (Up.refl w),Up.refl w,hx⟩
theorem TU.r{env:Env}{o:Oper}{q:Ph}{Post:Value→World→Prop}(h:REv P n ds env w o Post)(hx:∀v W',Post v W'→Up w W'∧q.holds v W'):TU P n ds env w o q:=fun a ha=>
 let⟨v,W',hr,hp⟩:=h a ha
 .inl ⟨v,W',hr,hx v W' hp⟩
theorem TU.c{env:Env}{o:Oper}{q:Ph}{f:FuncId}{args:Array Value}{Post:Value→World→Prop}(he:∀a,Ag n ds env a w→(execOp a.eval o).run P w=.ok (.enter f args) w)(hc:Ret P f args w Post)(hx:∀v W',Post v W'→Up w W'∧q.holds v W'):TU P n ds env w o q:=fun a ha=>
 .inr ⟨f,args,w,he a ha,hc.mono hx⟩
theorem TU.open{env:Env}{o:Oper}{q:Ph}{d:Nat}{p:Value→World→Prop}(hp:lk env d=some (.pred p))(h:∀v,p v w→TU P n ds ((d,.eq v)::env) w o q):TU P n ds env w o q:=fun a ha=>
 h _ (ha.val d _ hp) a ⟨ha.defers,ha.size,fun i ph hi=>by
   by_cases e:i=d
   · subst e
     rw[A9]at hi
     cases hi
     rfl
   rw[Be e]at hi
   exact ha.val i ph hi⟩
theorem kF{id:Nat}{opsL:List Oper}(k m0 ms:Nat)(J:List (Nat×Int×Nat))(phs:List Ph){T K E:Nat}(hT:P.underlying T=some (.map K E))(hK:P.underlying K=some (.int .i64))(hm:P.follows .mixedOrders=true)(hl:Cq l=true)
   (hA:Dz opsL.toArray=true)(hC:(Nat.beq k opsL.toArray.size||Fv opsL.toArray k)=true)(hF:Ik opsL.toArray k=true)(hks:Nat.ble k opsL.toArray.size=true)(hD:Gw n opsL.toArray 0 k=true)(hlit:Ou opsL.toArray m0 J=true)(hTl:Gv opsL.toArray k=true)
   (hfree:Ji l (opsL.take k)=true)(hJ:(decide (J.map (·.1)).Nodup&&(decide (J.map (·.2.1)).Nodup&&(J.all fun j=>Nat.ble (j.1+1) k)&&Nat.ble (m0+1) k))=true)
   (hm0:∃ty ps,opsL[m0]?=some ⟨some ms,.makeMap T none,ty,ps,#[],none⟩)(hph:allC phs)(hmp:∀b W,(phs.getD m0 (.eq undef)).holds (.map (some b)) W)
   (hop:∀W,Cel w.drew W→allL (fun i o=>(i=m0∨(J.any fun j=>Nat.beq j.1 i)=true∧∀j∈J,j.1=i→∃ty ps af,o=⟨none,.insert T (.tmp ms) (.const (vi j.2.1)) (.tmp j.2.2),ty,ps,af,none⟩)∨(o.guard=none∧(J.any fun j=>Nat.beq j.1 i)=false∧TU P n ds (Jt opsL.toArray (fun i=>phs.getD i (.eq undef)) 0 o++l) W o (phs.getD i (.eq undef)))) 0 (opsL.take k))
   (hend:∀W b kv(g:Nat→Value),Up w.drew W→IMap W b kv→kv.Perm (J.map fun j=>(j.2.1,g j.2.2))→(∀i o d,i<k→opsL[i]?=some o→o.dst=some d→(phs.getD i (.eq undef)).holds (g d) W)→LW R m P n ds opsL.toArray Q (opsL.drop k) ((ms,.eq (.map (some b)))::l) W):
   CW R m P n ds (.region id opsL.toArray true) Q l w:=by
 simp only[b6,gj]at hJ
 obtain⟨hJi,⟨hJk,hJl⟩,hm0k⟩:=hJ
 have hks':k≤opsL.length:=by have:=a_ hks;simp at this;omega
 have hJl':∀j∈J,j.1<k:=fun j hj=>a_ (di.1 hJl j hj)
 have sub:∀j o,j<k→opsL.toArray[j]?=some o→(opsL.take k)[j]?=some o:=fun j o hjk ho=>by
   rw[dm hjk];simpa using ho
 have hbd:∀i ph,lk l i=some ph→∀(j:Nat)(o:Oper),0≤j→j<k→opsL.toArray[j]?=some o→o.dst≠some i:=fun i ph hi j o _ hjk ho=>Gf hfree hi (ai (sub j o hjk ho))
 have any_iff:∀i,(J.any fun j=>Nat.beq j.1 i)=true↔i∈J.map (·.1):=fun i=>by
   rw[ip,bx]
   exact⟨fun⟨j,hj,h⟩=>⟨j,hj,ci h⟩,fun⟨j,hj,h⟩=>⟨j,hj,by rw[h];simp⟩⟩
 refine Db hm hl fun fuel listed a hf hu ha=>(AWF.cX (T:=T) (K:=K) (E:=E) (m0:=m0) (ms:=ms) (J:=J) (k:=k) (fun i=>phs.getD i (.eq undef)) (f0:=fun t=>a.tmps.getD t undef) hT hK (fun i v w w' h u=>(hph.at i) v w w' h u) hA hC hF hks hD hl hbd hlit hJi hJk hJl' (a_ hm0k) (by simpa using hm0) ?_ hmp ?_ ?_ fuel listed a hf hu ha (fun _=>rfl))
 · intro j hj
   obtain⟨oj,hoj,_⟩:=Hh hlit hj
   have:=(hop w.drew (Cel.refl _)).at (sub j.1 oj (hJl' j hj) hoj)
   rw[dp]at this
   rcases this with(e|⟨_,h⟩)|⟨_,h,_⟩
   · exfalso
     obtain⟨ty,ps,hm0⟩:=hm0
     obtain⟨o',ho',hd',_⟩:=Hh hlit hj
     rw[e]at ho'
     have:opsL[m0]?=some o':=by simpa using ho'
     rw[hm0]at this;cases this;cases hd'
   · obtain⟨ty,ps,af,ho⟩:=h j hj rfl
     exact⟨ty,ps,af,by rw[hoj,ho]⟩
   rw[(any_iff j.1).2 (bx.2 ⟨j,hj,rfl⟩)]at h;cases h
 · intro i o hik hne hnj ho
   have h0:=(hop w.drew (Cel.refl _)).at (sub i o hik ho)
   rw[dp]at h0
   rcases h0 with(e|⟨h,_⟩)|⟨hg,_,_⟩
   · exact absurd e hne
   · exact absurd ((any_iff i).1 h) hnj
   refine⟨hg,fun W hW a ha=>?_⟩
   have h1:=(hop W hW).at (sub i o hik ho)
   rw[dp]at h1
   rcases h1 with(e|⟨h,_⟩)|⟨_,_,h⟩
   · exact absurd e hne
   · exact absurd ((any_iff i).1 h) hnj
   exact h a ha
 intro f W b kv hUp hfm hM hperm fuel' listed' a' hf' hu' ha' hsl'
 have key:∀i o d,i<k→opsL[i]?=some o→o.dst=some d→(phs.getD i (.eq undef)).holds (f d) W:=by
   intro i o d hik ho hd
   have ho':opsL.toArray[i]?=some o:=by simpa using ho
   have hmem:(d,phs.getD i (.eq undef))∈Hg opsL.toArray (fun i=>phs.getD i (.eq undef)) 0 k:=by
     unfold Hg
     rw[f5]
     exact⟨i,cn.2 hik,by rw[bh (by simp),ho'];simp[hd]⟩
   obtain⟨q',hq⟩:=Hv hmem
   obtain⟨j,p,_,hjk,hp,hpd,e⟩:=Fg hq
   have:j=i:=by
     by_cases ee:j=i
     · exact ee
     exact absurd hpd ((Da hD (a8 _) hik ho' hd).2 j p (a8 _) hjk ee hp)
   subst this
   have:=ha'.val d q' (K8 hq)
   rw[hsl',e]at this
   exact this
 refine E4 hTl hA (opsL.toArray.size-k) k fuel' listed' a' W rfl (by simp;omega) (bl _) hf' hu' ?_
 have h2:=hend W b kv f hUp hM hperm key
 refine h2 a' ⟨ha'.defers,ha'.size,fun t q ht=>?_⟩
 by_cases e:t=ms
 · subst e;rw[A9]at ht;cases ht
   exact(hsl' _).trans hfm
 rw[Be e]at ht
 refine ha'.val t q ?_
 rw[F8]
 · exact ht
 cases hq:lk (Hg opsL.toArray (fun i=>phs.getD i (.eq undef)) 0 k) t with
 |none=>rfl
 |some q'=>
   obtain⟨j,p,_,hjk,hp,hpd,_⟩:=Fg hq
   exact absurd hpd (hbd t q ht j p (a8 _) hjk hp)
theorem PEv.Hw{d:Option Tmp}{ty:TypeId}{ps:String}{af:Array Edge}{g:Option (Nat×Bool)}{T K E:TypeId}{mo x:Operand}{b:Nat}{k:Int}{v:Value}{kv:List (Int×Value)}{ok:Bool}(hT:P.underlying T=some (.map K E))(hK:P.underlying K=some (.int .i64))(hm:Val l mo (.map (some b)))(hx:Val l x (vi k))(h:IMap w b kv)(hkv:(k,v)∈kv):
   PEv P n ds l w ⟨d,.lookup T mo x ok,ty,ps,af,g⟩ (if ok then .tuple #[v,.bool true]else v):=fun a w' ha hu=>by
 obtain⟨es,clock,hb,hs,he⟩:=h.up hu
 have hk:IsKey (.int .i64) (vi k):=rfl
 refine C0 ?_
 rw[ha.ev hm,ha.ev hx]
 rcases findNow_spec hk es.toList 0 (Hb he)with⟨h1,h2⟩|⟨j,e,h1,h2,h3⟩
 · exfalso
   obtain⟨x',hx',hkx,_⟩:=Gd he hkv
   exact h2 x' hx' hkx
 obtain⟨x',hx',hkx,hvx⟩:=Gd he hkv
 have hv:e.val=v:=by
   have:=Fu (gk.1 hs.2.2) (ai h2) hx' (by rw[h3,hkx])
   rw[this];exact hvx
 cases ok<;>simp[Instr.lookup,run_underlying hT,MapKept.run_getObj_map hb,MapKept.run_checkKey hK hk,MapKept.run_findKey hK h1,Result.andThen,hv]
theorem PEv.Ov{d:Option Tmp}{ty:TypeId}{ps:String}{af:Array Edge}{g:Option (Nat×Bool)}{T K E:TypeId}{mo x:Operand}{b:Nat}{k:Int}{z:Value}{kv:List (Int×Value)}{ok:Bool}(hT:P.underlying T=some (.map K E))(hK:P.underlying K=some (.int .i64))(hz:∀w,(zeroValue E).run P w=.ok z w)(hm:Val l mo (.map (some b)))(hx:Val l x (vi k))(h:IMap w b kv)(hkv:k∉kv.map (·.1)):
   PEv P n ds l w ⟨d,.lookup T mo x ok,ty,ps,af,g⟩ (if ok then .tuple #[z,.bool false]else z):=fun a w' ha hu=>by
 obtain⟨es,clock,hb,hs,he⟩:=h.up hu
 have hk:IsKey (.int .i64) (vi k):=rfl
 refine C0 ?_
 rw[ha.ev hm,ha.ev hx]
 rcases findNow_spec hk es.toList 0 (Hb he)with⟨h1,h2⟩|⟨j,e,h1,h2,h3⟩
 · cases ok<;>simp[Instr.lookup,run_underlying hT,MapKept.run_getObj_map hb,MapKept.run_checkKey hK hk,MapKept.run_findKey hK h1,Result.andThen,hz]
 exfalso
 obtain⟨k',hk',hkv'⟩:=Je he e (ai h2)
 have:k'=k:=cL (hk'.symm.trans h3)
 exact hkv (bx.2 ⟨_,hkv',this⟩)
theorem Sn{base done:Env}{w0:World}{o:Oper}{rest:List Oper}{K:Env→Prop}{d:Nat}{p:Value→World→Prop}{f:FuncId}{args:Array Value}(hp:∀v w w',p v w→Up w w'→p v w')(he:∀a w,Up w0 w→Ag n ds (Ce (o.looksAt ops) done++base) a w→(execOp a.eval o).run P w=.ok (.enter f args) w)(hg:o.guard=none)(hd:o.dst=some d)
   (hc:∀w,Up w0 w→Ret P f args w fun v w'=>Up w w'∧p v w')(k:HW P n ds ops base w0 ((d,.pred p)::done) rest K):HW P n ds ops base w0 done (o::rest) K:=
 ⟨.pred p,d,hd,hp,fun a w hu ha=>by
   rw[bh (by simp[Region.wanted,hg])]
   exact .inr ⟨f,args,w,he a w hu ha,(hc w hu).mono fun v w'⟨h1,h2⟩=>⟨h1,h2⟩⟩,k⟩
def SlT{α:Type}(e:TypeId)(w:World)(v:Value)(k:Nat)(enc:α→Array Value)(xs:List α):Prop:=Sl w v k enc xs∧∀B o n c,v=.slice (some ⟨B,o,none⟩) n c→∃cs x,w.heap[B]?=some (Obj.cells cs e x)
theorem SlT.G7{α:Type}{e:TypeId}{w w':World}{v:Value}{k:Nat}{enc:α→Array Value}{xs:List α}(h:SlT e w v k enc xs)(u:Cel w w'):SlT e w' v k enc xs:=⟨h.1.G7 u,fun B o n c hv=>let⟨cs,x,hb⟩:=h.2 B o n c hv;⟨cs,x,u.blk _ _ _ _ hb⟩⟩
theorem SlT.up{α:Type}{e:TypeId}{w w':World}{v:Value}{k:Nat}{enc:α→Array Value}{xs:List α}(h:SlT e w v k enc xs)(u:Up w w'):SlT e w' v k enc xs:=h.G7 u.G7
theorem SlT.lit{α:Type}{T:TypeId}{w w':World}{k:Nat}{enc:α→Array Value}{xs:List α}{v:Value}(h:NewSl w T k enc xs v w'):SlT T w' v k enc xs:=by
 have h2:=h.q.2
 obtain⟨B,cs,rfl,N,_,_⟩:=h
 exact⟨h2,fun B' o n c hv=>by cases hv;exact⟨cs,_,N.blk⟩⟩
theorem SlT.own{α:Type}{base:Nat}{e:TypeId}{w:World}{v:Value}{k:Nat}{enc:α→Array Value}{xs:List α}(h:OwnS w base e k enc v xs)(hk:∀x,(enc x).size=k):SlT e w v k enc xs:=by
 refine⟨h.sl hk,fun B o n c hv=>?_⟩
 obtain⟨_,h2⟩:=h
 rcases h2 with⟨rfl,_⟩|⟨g,cap,cur,rfl,hb,hg,_⟩
 · cases hv
 cases hv;exact⟨_,_,hg⟩
theorem Cl{α:Type}(e:TypeId)(k:Nat)(enc:α→Array Value)(xs:List α):PhC (.pred fun v w=>SlT e w v k enc xs):=fun _ _ _ h u=>SlT.G7 h u
end
end Go.Wx
namespace Go.Wx
open Go.RowKit
structure KeepT(T:TypeId)(w w':World):Prop where
 size:w.heap.size≤w'.heap.size
 obj:∀(b:Nat)(o:Obj),w.heap[b]?=some o→(∀cs x,o≠Obj.cells cs T x)→w'.heap[b]?=some o
theorem KeepT.refl(T:TypeId)(w:World):KeepT T w w:=⟨bl _,fun _ _ h _=>h⟩
theorem KeepT.trans{T:TypeId}{w w1 w2:World}(h:KeepT T w w1)(k:KeepT T w1 w2):KeepT T w w2:=⟨bu h.size k.size,fun b o hb hn=>k.obj b o (h.obj b o hb hn) hn⟩
theorem Up.Dj{T:TypeId}{w w':World}(u:Up w w'):KeepT T w w':=⟨u.size,fun _ _ h _=>(u.block (lt_of_block h)).trans h⟩
theorem Sto.Dj{T:TypeId}{w w':World}{B:Nat}{cs:Array Value}(u:Sto B w w')(hz:w.heap.size≤w'.heap.size)(hb:Blk w B cs T):KeepT T w w':=⟨hz,fun b o h hn=>by
 by_cases e:b=B
 · subst e;unfold Blk at hb;rw[hb]at h;cases h;exact absurd rfl (hn _ _)
 exact(u.block b (lt_of_block h) e).trans h⟩
theorem Blk.Dj{T e:TypeId}{w w':World}{B:Nat}{cs:Array Value}(h:Blk w B cs e)(hne:Nat.beq e T=false)(u:KeepT T w w'):Blk w' B cs e:=u.obj _ _ h (fun _ _ e'=>by cases e';simp at hne)
theorem IMap.Dj{T:TypeId}{w w':World}{b:Nat}{kv:List (Int×Value)}(h:IMap w b kv)(u:KeepT T w w'):IMap w' b kv:=by
 obtain⟨es,clock,h1,h2⟩:=h
 exact⟨es,clock,u.obj _ _ h1 (fun _ _ e=>by cases e),h2⟩
theorem SlT.Dj{α:Type}{e T:TypeId}{w w':World}{v:Value}{k:Nat}{enc:α→Array Value}{xs:List α}(h:SlT e w v k enc xs)(hne:Nat.beq e T=false)(u:KeepT T w w'):SlT e w' v k enc xs:=by
 have hne:e≠T:=fun e'=>by rw[e']at hne;simp at hne
 obtain⟨⟨ad,c,rfl,hE⟩,ht⟩:=h
 have keep:∀B o,ad=some ⟨B,o,none⟩→∃cs x,w.heap[B]?=some (Obj.cells cs e x)∧w'.heap[B]?=some (Obj.cells cs e x):=fun B o hB=>by
   obtain⟨cs,x,hb⟩:=ht B o _ _ (by rw[hB])
   exact⟨cs,x,hb,u.obj _ _ hb (fun _ _ e'=>by cases e';exact hne rfl)⟩
 refine⟨⟨ad,c,rfl,fun i x hx=>?_⟩,fun B o n c' hv=>?_⟩
 · obtain⟨B,o,hB,hA⟩:=hE i x hx
   obtain⟨cs,y,h1,h2⟩:=keep B o hB
   refine⟨B,o,hB,fun j v hv=>?_⟩
   have:=hA j v hv
   unfold World.cell? at this⊢
   rw[h1]at this
   rw[h2]
   exact this
 cases hv
 obtain⟨cs,x,h1,h2⟩:=keep B o rfl
 exact⟨cs,x,h2⟩
section
variable {R:Option Nat}{m:Nat}{P:Program}{n:Nat}{ds:List Deferred}{Q:Exit→Go.Act→World→Prop}{l:Env}{w:World}{ops:Array Oper}
def tR(ia is sa sv:Nat)(T:TypeId)(z:Array Value)(w0:World)(L:Nat→Bool)(f:Nat→Value)(W:World):Prop:=
 Up w0 W∧(L is=true→L ia=true)∧(L ia=true→∃B,f sa=.pointer (some ⟨B,0,none⟩)∧w0.heap.size≤B∧Blk W B (if L is=true then(f sv).cells else z) T)
theorem AWF.box{k ia is isv sa sv:Nat}{T:TypeId}{z:Array Value}{base:Env}(ph:Nat→Ph){f0:Nat→Value}(hz:∀w,(zeroValue T).run P w=.ok (.agg z) w)(hs:∀w,(sizeOf T).run P w=.ok z.size w)
   (hph:∀i v w w',(ph i).holds v w→KeepT T w w'→(ph i).holds v w')(hA:Dz ops=true)(hC:(Nat.beq k ops.size||Fv ops k)=true)(hF:Ik ops k=true)(hks:Nat.ble k ops.size=true)
   (hD:Gw n ops 0 k=true)(hbp:Cq base=true)(hbd:∀i ph,lk base i=some ph→∀(j:Nat)(o:Oper),0≤j→j<k→ops[j]?=some o→o.dst≠some i)
   (hlit:Ou ops ia [(is,0,sv)]=true)(hik:is<k)(hiak:ia<k)(hne:ia≠is)
   (hia:∃ty ps af,ops[ia]?=some ⟨some sa,.alloc T,ty,ps,af,none⟩)(his:∃ty ps af,ops[is]?=some ⟨none,.store T (.tmp sa) (.tmp sv),ty,ps,af,none⟩)
   (hlk:∀o,ops[is]?=some o→lk (Jt ops ph 0 o++base) sv=some (ph isv))(hsv:∀v W,(ph isv).holds v W→∃cs,v=.agg cs∧cs.size=z.size∧cs.all (·.oneCell')=true)
   (hpa:∀B W,(ph ia).holds (.pointer (some ⟨B,0,none⟩)) W)
   (hop:∀i o,i<k→i≠ia→i≠is→ops[i]?=some o→o.guard=none∧∀W,KeepT T w W→∀a,Ag n ds (Jt ops ph 0 o++base) a W→cK P o a W (fun v W'=>Up W W'∧(ph i).holds v W'))
   (hend:∀f W B,Up w W→f sa=.pointer (some ⟨B,0,none⟩)→w.heap.size≤B→Blk W B (f sv).cells T→AWF R m P n ds ops Q k (Hg ops ph 0 k++base) f W):AWF R m P n ds ops Q 0 base f0 w:=by
 obtain⟨os,hos,hods,⟨e,he,hbe,hon⟩,⟨e',he',hbe',pv,hpv,hpvd⟩⟩:=Hh hlit b7
 refine H3 ph (KeepT T) (tR ia is sa sv T z w) (KeepT.refl T) (fun _ _ _=>KeepT.trans) hph hA hC hF hks (by simp) hD hbp hbd ?_ ⟨Up.refl w,fun h=>by simp at h,fun h=>by simp at h⟩ ?_
 · intro i o _ hi hio L f W hRel hDn hLi hed hInv
   obtain⟨hUp,hsa,hInv⟩:=hInv
   by_cases e0:i=ia
   · subst e0
     obtain⟨ty,ps,af,hia⟩:=hia
     rw[hio]at hia;cases hia
     intro a ha hsl
     rw[bh (by simp[Region.wanted])]
     obtain⟨v,W',hr,B,rfl,N⟩:=REv.Cb (P:=P) (n:=n) (ds:=ds) (l:=Jt ops ph 0 _++base) (w:=W) (d:=some sa) (ty:=ty) (ps:=ps) (af:=af) (g:=none) hz a ha
     have hLs:L is=false:=by
       cases h:L is with
       |false=>rfl
       |true=>rw[hsa h]at hLi;cases hLi
     refine .inl (.inl ⟨_,W',hr,N.up.Dj,fun _ _=>hpa B W',hUp.trans N.up,fun _=>by simp[Cs],fun _=>⟨B,by simp[Dv],by rw[N.at_];exact hUp.size,?_⟩⟩)
     have:Cs L i is=false:=by simp[Cs,Ne.symm hne,hLs]
     rw[this]
     exact N.blk
   by_cases e1:i=is
   · subst e1
     have hLa:L ia=true:=by rw[hos]at hio;cases hio;rw[←hon];exact hed e he hbe
     obtain⟨ty,ps,af,his⟩:=his
     rw[hio]at his;cases his
     intro a ha hsl
     rw[bh (by simp[Region.wanted])]
     obtain⟨B,h1,hB,hblk⟩:=hInv hLa
     rw[hLi]at hblk
     obtain⟨cs,hcs,hcz,hc1⟩:=hsv _ W (ha.val sv _ (hlk _ hio))
     have hfs:f sv=.agg cs:=by rw[←hsl];exact hcs
     have hag:Ag n ds [(sv,.eq (.agg cs)),(sa,.eq (.pointer (some ⟨B,0,none⟩)))] a W:=by
       refine⟨ha.defers,ha.size,fun t q ht=>?_⟩
       by_cases e1:t=sv
       · subst e1;rw[A9]at ht;cases ht;exact hcs
       rw[Be e1]at ht
       by_cases e2:t=sa
       · subst e2;rw[A9]at ht;cases ht;exact(hsl _).trans h1
       rw[Be e2]at ht;cases ht
     have hsn:sa≠sv:=fun e'=>by rw[e',hfs]at h1;cases h1
     obtain⟨W',hr,hset⟩:=SEv.Cc (P:=P) (n:=n) (ds:=ds) (w:=W) (l:=[(sv,.eq (.agg cs)),(sa,.eq (.pointer (some ⟨B,0,none⟩)))]) (x:=.tmp sa) (y:=.tmp sv) (ty:=ty) (ps:=ps) (af:=af) (g:=none) hs hcz (.tmp (by rw[Be hsn,A9])) (.tmp A9) hc1 hblk (by simp) a hag
     refine .inr ⟨W',hr,hset.sto.Dj (by rw[hset.size];exact bl _) hblk,(fun d hd=>by cases hd),hUp.sto hset.sto hB,fun _=>by simp[Cs,hLa],fun _=>⟨B,h1,hB,?_⟩⟩
     have h2:Cs L i i=true:=by simp[Cs]
     rw[h2,bh rfl]
     show Blk W' B (f sv).cells T
     rw[hfs]
     exact hset.blk
   obtain⟨hg,hop⟩:=hop i o hi e0 e1 hio
   intro a ha hsl
   rw[bh (by simp[Region.wanted,hg])]
   have done:∀v W',Up W W'∧(ph i).holds v W'→KeepT T W W'∧(∀d,o.dst=some d→(ph i).holds v W')∧tR ia is sa sv T z w (Cs L i) (Dv f o.dst v) W':=by
     rintro v W' ⟨hu,hv⟩
     have ela:Cs L i ia=L ia:=by simp[Cs,Ne.symm e0]
     have els:Cs L i is=L is:=by simp[Cs,Ne.symm e1]
     refine⟨hu.Dj,fun _ _=>hv,hUp.trans hu,fun h=>by rw[ela];rw[els]at h;exact hsa h,fun hm=>?_⟩
     rw[ela]at hm
     obtain⟨B,h1,hB,hblk⟩:=hInv hm
     have hn1:o.dst≠some sa:=by
       obtain⟨ty,ps,af,hia⟩:=hia
       intro ed
       exact(Da hD (a8 _) hi hio ed).2 ia _ (a8 _) hiak (Ne.symm e0) hia rfl
     refine⟨B,by simpa[Dv,hn1]using h1,hB,?_⟩
     rw[els]
     cases hLs:L is with
     |false=>rw[hLs]at hblk;exact hblk.up hu
     |true=>
       rw[hLs]at hblk
       have hn2:o.dst≠some sv:=by
         intro ed
         have h2:=hDn _ _ hos hLs e' he' hbe'
         have h3:=Ef hA hos e' he' hbe'
         by_cases ee:e'.on=i
         · rw[ee,hLi]at h2;cases h2
         exact(Da hD (a8 _) hi hio ed).2 e'.on pv (a8 _) (by have:e'.on<is:=h3;omega) ee hpv hpvd
       have h4:Dv f o.dst v sv=f sv:=by simp[Dv,hn2]
       rw[h4]
       exact hblk.up hu
   rcases hop W hRel a ha with⟨v,W',hr,hp⟩|⟨fn,args,w1,hr,hc⟩
   · exact .inl (.inl ⟨v,W',hr,done v W' hp⟩)
   exact .inl (.inr ⟨fn,args,w1,hr,hc.mono done⟩)
 intro f W hRel hInv
 obtain⟨hUp,_,hInv⟩:=hInv
 obtain⟨B,h1,hB,h2⟩:=hInv (by simpa using hiak)
 rw[bh (by simpa using hik)]at h2
 exact hend f W B hUp h1 hB h2
def PhT(T:TypeId)(q:Ph):Prop:=∀v w w',q.holds v w→KeepT T w w'→q.holds v w'
theorem PhT.eq(T:TypeId)(v:Value):PhT T (.eq v):=fun _ _ _ h _=>h
theorem ot{T:TypeId}{v:Value}:PhT T (.eq v):=PhT.eq _ _
theorem PhT.pred{T:TypeId}{p:Value→World→Prop}(h:∀v w w',p v w→KeepT T w w'→p v w'):PhT T (.pred p):=h
def allT(T:TypeId):List Ph→Prop
 |[]=>True
 |q::r=>PhT T q∧allT T r
theorem allT.at{T:TypeId}:∀{l:List Ph},allT T l→∀i,PhT T (l.getD i (.eq undef))
 |[],_,_=>by simpa using PhT.eq T undef
 |_::_,h,0=>by simpa using h.1
 |_::_,h,i+1=>by simpa using allT.at h.2 i
theorem CW.box{id:Nat}{opsL:List Oper}(k ia is isv sa sv:Nat)(z:Array Value)(phs:List Ph)(keep:List Nat){T:TypeId}(hz:∀w,(zeroValue T).run P w=.ok (.agg z) w)(hs:∀w,(sizeOf T).run P w=.ok z.size w)(hm:P.follows .mixedOrders=true)(hl:Cq l=true)
   (hA:Dz opsL.toArray=true)(hC:(Nat.beq k opsL.toArray.size||Fv opsL.toArray k)=true)(hF:Ik opsL.toArray k=true)(hks:Nat.ble k opsL.toArray.size=true)(hD:Gw n opsL.toArray 0 k=true)(hlit:Ou opsL.toArray ia [(is,0,sv)]=true)(hTl:Gv opsL.toArray k=true)
   (hfree:Ji l (opsL.take k)=true)(hidx:(Nat.ble (is+1) k&&(Nat.ble (ia+1) k&& !Nat.beq ia is))=true)
   (hia:∃ty ps af,opsL[ia]?=some ⟨some sa,.alloc T,ty,ps,af,none⟩)(os:Oper)(hos:opsL[is]?=some os)(his:∃ty ps af,os=⟨none,.store T (.tmp sa) (.tmp sv),ty,ps,af,none⟩)(hph:allT T phs)
   (hlk:lk (Jt opsL.toArray (fun i=>phs.getD i (.eq undef)) 0 os++l) sv=some (phs.getD isv (.eq undef)))(hsv:∀v W,(phs.getD isv (.eq undef)).holds v W→∃cs,v=.agg cs∧cs.size=z.size∧cs.all (·.oneCell')=true)
   (hpa:∀B W,(phs.getD ia (.eq undef)).holds (.pointer (some ⟨B,0,none⟩)) W)
   (hop:∀W,KeepT T w.drew W→allL (fun i o=>(i=ia∨i=is)∨(o.guard=none∧TU P n ds (Jt opsL.toArray (fun i=>phs.getD i (.eq undef)) 0 o++l) W o (phs.getD i (.eq undef)))) 0 (opsL.take k))
   (hend:∀W B(g:Nat→Value),Up w.drew W→w.drew.heap.size≤B→Blk W B (g sv).cells T→(∀i o d,i<k→opsL[i]?=some o→o.dst=some d→(phs.getD i (.eq undef)).holds (g d) W)→LW R m P n ds opsL.toArray Q (opsL.drop k) ((sa,.eq (.pointer (some ⟨B,0,none⟩)))::(keep.map (fun d=>(d,.eq (g d)))++l)) W):
   CW R m P n ds (.region id opsL.toArray true) Q l w:=by
 simp only[b6]at hidx
 obtain⟨hik,hiak,hne⟩:=hidx
 have hik:is<k:=a_ hik
 have hiak:ia<k:=a_ hiak
 have hne:ia≠is:=fun e=>by subst e;simp at hne
 have hks':k≤opsL.length:=by have:=a_ hks;simp at this;omega
 have sub:∀j o,j<k→opsL.toArray[j]?=some o→(opsL.take k)[j]?=some o:=fun j o hjk ho=>by
   rw[dm hjk];simpa using ho
 have hbd:∀i ph,lk l i=some ph→∀(j:Nat)(o:Oper),0≤j→j<k→opsL.toArray[j]?=some o→o.dst≠some i:=fun i ph hi j o _ hjk ho=>Gf hfree hi (ai (sub j o hjk ho))
 refine Db hm hl fun fuel listed a hf hu ha=>(AWF.box (k:=k) (ia:=ia) (is:=is) (isv:=isv) (sa:=sa) (sv:=sv) (T:=T) (z:=z) (fun i=>phs.getD i (.eq undef)) (f0:=fun t=>a.tmps.getD t undef) hz hs (fun i v w w' h u=>(hph.at i) v w w' h u) hA hC hF hks hD hl hbd hlit hik hiak hne (by simpa using hia) ?_ ?_ hsv hpa ?_ ?_ fuel listed a hf hu ha (fun _=>rfl))
 · obtain⟨ty,ps,af,e⟩:=his
   exact⟨ty,ps,af,by rw[←e];simpa using hos⟩
 · intro o ho
   have:opsL[is]?=some o:=by simpa using ho
   rw[hos]at this;cases this
   exact hlk
 · intro i o hi h1 h2 ho
   have h0:=(hop w.drew (KeepT.refl T _)).at (sub i o hi ho)
   rw[dp]at h0
   rcases h0 with(e|e)|⟨hg,_⟩
   · exact absurd e h1
   · exact absurd e h2
   refine⟨hg,fun W hW a ha=>?_⟩
   have h3:=(hop W hW).at (sub i o hi ho)
   rw[dp]at h3
   rcases h3 with(e|e)|⟨_,h⟩
   · exact absurd e h1
   · exact absurd e h2
   exact h a ha
 intro f W B hUp hfa hB hblk fuel' listed' a' hf' hu' ha' hsl'
 have key:∀i o d,i<k→opsL[i]?=some o→o.dst=some d→(phs.getD i (.eq undef)).holds (f d) W:=by
   intro i o d hik ho hd
   have ho':opsL.toArray[i]?=some o:=by simpa using ho
   have hmem:(d,phs.getD i (.eq undef))∈Hg opsL.toArray (fun i=>phs.getD i (.eq undef)) 0 k:=by
     unfold Hg
     rw[f5]
     exact⟨i,cn.2 hik,by rw[bh (by simp),ho'];simp[hd]⟩
   obtain⟨q',hq⟩:=Hv hmem
   obtain⟨j,p,_,hjk,hp,hpd,e⟩:=Fg hq
   have:j=i:=by
     by_cases ee:j=i
     · exact ee
     exact absurd hpd ((Da hD (a8 _) hik ho' hd).2 j p (a8 _) hjk ee hp)
   subst this
   have:=ha'.val d q' (K8 hq)
   rw[hsl',e]at this
   exact this
 refine E4 hTl hA (opsL.toArray.size-k) k fuel' listed' a' W rfl (by simp;omega) (bl _) hf' hu' (hend W B f hUp hB hblk key a' ⟨ha'.defers,ha'.size,fun t q ht=>?_⟩)
 by_cases e:t=sa
 · subst e;rw[A9]at ht;cases ht
   exact(hsl' _).trans hfa
 rw[Be e]at ht
 rcases Dq ht with h|h
 · obtain⟨d,_,he⟩:=bx.1 (K7 h)
   cases he
   exact hsl' _
 refine ha'.val t q ?_
 rw[F8]
 · exact h
 cases hq:lk (Hg opsL.toArray (fun i=>phs.getD i (.eq undef)) 0 k) t with
 |none=>rfl
 |some q'=>
   obtain⟨j,p,_,hjk,hp,hpd,_⟩:=Fg hq
   exact absurd hpd (hbd t q h j p (a8 _) hjk hp)
end
end Go.Wx
