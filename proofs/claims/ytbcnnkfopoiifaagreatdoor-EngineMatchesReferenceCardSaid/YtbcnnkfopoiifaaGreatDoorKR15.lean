import Derived.Test.YtbcnnkfopoiifaaGreatDoorKR14
import Derived.Test.YtbcnnkfopoiifaaGreatDoorProg
namespace Go
abbrev k6:=@Proofs.Tryz.underlying24
abbrev k7:=@Proofs.Tryz.sizeOf51
abbrev k_:=@Proofs.Tryz.zeroValue51
abbrev lf:=@Proofs.Tryz.sizeOf3
abbrev lg:=@Proofs.Tryz.underlying23
abbrev lh:=@Proofs.Tryz.underlying3
abbrev li:=@Proofs.Tryz.zeroValue158
abbrev lj:=@Proofs.Tryz.sizeOf55
abbrev ll:=@Proofs.Tryz.underlying63
abbrev lm:=@Proofs.Tryz.zeroValue55
abbrev ln:=@Proofs.Tryz.underlying119
abbrev lq:=@Proofs.Tryz.underlying47
abbrev lr:=@Proofs.Tryz.sizeOf57
abbrev ls:=@Proofs.Tryz.zeroValue3
abbrev lu:=@Proofs.Tryz.underlying9
abbrev lw:=@Proofs.Tryz.sizeOf39
abbrev lx:=@Proofs.Tryz.sizeOf158
abbrev ly:=@Proofs.Tryz.isAgg3
abbrev lz:=@Proofs.Tryz.underlying184
abbrev l4:=@Proofs.Tryz.underlying158
abbrev l5:=@Proofs.Tryz.zeroValue57
abbrev l6:=@Proofs.Tryz.zeroValue121
abbrev l7:=@Proofs.Tryz.isAgg39
abbrev l8:=@Proofs.Tryz.underlying121
abbrev l9:=@Proofs.Tryz.underlying88
abbrev l_:=@Proofs.Tryz.underlying109
abbrev ma:=@Proofs.Tryz.zeroValue140
abbrev mb:=@Proofs.Tryz.underlying93
abbrev mc:=@Proofs.Tryz.underlying55
abbrev md:=@Proofs.Tryz.isAgg55
abbrev me:=@Proofs.Tryz.underlying51
abbrev mf:=@Proofs.Tryz.sizeOf24
abbrev mg:=@Proofs.Tryz.zeroValue93
abbrev mh:=@Proofs.Tryz.underlying140
abbrev mi:=@Proofs.Tryz.underlying210
abbrev mj:=@Proofs.Tryz.underlying148
abbrev ml:=@Proofs.Tryz.underlying133
abbrev mn:=@Proofs.Tryz.sizeOf140
abbrev mp:=@Proofs.Tryz.zeroValue39
abbrev mq:=@Proofs.Tryz.underlying80
abbrev mr:=@Proofs.Tryz.underlying60
abbrev mt:=@Proofs.Tryz.underlying59
abbrev mu:=@Proofs.Tryz.underlying31
abbrev mw:=@Proofs.Tryz.underlying83
abbrev mz:=@Proofs.Tryz.underlying43
abbrev m2:=@Proofs.Tryz.isAgg51
abbrev m3:=@Proofs.Tryz.zeroValue119
abbrev m4:=@Proofs.Tryz.eqGuardType51
abbrev m5:=@Proofs.Tryz.sizeOf119
abbrev m6:=@Proofs.Tryz.zeroValue80
abbrev m7:=@Proofs.Tryz.underlying74
abbrev m8:=@Proofs.Tryz.underlying57
abbrev m9:=@Proofs.Tryz.underlying26
abbrev m_:=@Proofs.Tryz.isAgg57
abbrev nb:=@Proofs.Tryz.underlying5
abbrev nf:=@Proofs.Tryz.underlying243
abbrev ng:=@Proofs.Tryz.underlying122
abbrev nh:=@Proofs.Tryz.underlying108
abbrev ni:=@Proofs.Tryz.eqGuardType55
abbrev nj:=@Proofs.Tryz.sizeOf85
abbrev nk:=@Proofs.Tryz.underlying85
abbrev nl:=@Proofs.Tryz.underlying58
end Go
namespace Go.Proofs
open Go.Proofs.Tryz
open Go.Wx
theorem Tryz.OK:En prog 4:=U func4 kQ rfl
theorem Tryz.OH:En prog 5:=U func5 kQ rfl
theorem Tryz.OL:En prog 6:=U func6 kQ rfl
theorem Tryz.OM:En prog 7:=U func7 kQ rfl
theorem Tryz.ON:En prog 8:=U func8 kQ rfl
theorem Tryz.CQ:En prog 9:=U func9 kQ rfl
theorem Tryz.LQ:En prog 10:=U func10 kQ rfl
theorem Tryz.FY:En prog 11:=U func11 kQ rfl
theorem Tryz.LR:En prog 12:=U func12 kQ rfl
theorem Tryz.FZ:En prog 13:=U func13 kQ rfl
theorem Tryz.pL:En prog 14:=U func14 kQ rfl
theorem Tryz.GA:En prog 15:=U func15 kQ rfl
theorem Tryz.CR:En prog 16:=U func16 kQ rfl
theorem Tryz.LS:En prog 17:=U func17 kQ rfl
theorem Tryz.wP:En prog 18:=U func18 kQ rfl
theorem Tryz.LU:En prog 19:=U func19 kQ rfl
theorem Tryz.GB:En prog 20:=U func20 kQ rfl
theorem Tryz.LV:En prog 21:=U func21 kQ rfl
theorem Tryz.GC:En prog 22:=U func22 kQ rfl
theorem Tryz.CS:En prog 23:=U func23 kQ rfl
theorem Tryz.Gn:En prog 24:=U func24 kQ rfl
theorem Tryz.LX:En prog 25:=U func25 kQ rfl
theorem Tryz.LY:En prog 26:=U func26 kQ rfl
theorem Tryz.pM:En prog 27:=U func27 kQ rfl
theorem Tryz.GD:En prog 28:=U func28 kQ rfl
theorem Tryz.GF:En prog 29:=U func29 kQ rfl
theorem Tryz.GG:En prog 30:=U func30 kQ rfl
theorem Tryz.LZ:En prog 31:=U func31 kQ rfl
theorem Tryz.MA:En prog 32:=U func32 kQ rfl
theorem Tryz.GH:En prog 33:=U func33 kQ rfl
theorem Tryz.wR:En prog 34:=U func34 kQ rfl
theorem Tryz.MB:En prog 35:=U func35 kQ rfl
theorem Tryz.MC:En prog 36:=U func36 kQ rfl
theorem Tryz.GI:En prog 37:=U func37 kQ rfl
theorem Tryz.MD:En prog 38:=U func38 kQ rfl
theorem Tryz.ME:En prog 39:=U func39 kQ rfl
theorem Tryz.MF:En prog 40:=U func40 kQ rfl
theorem Tryz.MG:En prog 41:=U func41 kQ rfl
theorem Tryz.MH:En prog 42:=U func42 kQ rfl
theorem Tryz.MI:En prog 43:=U func43 kQ rfl
theorem Tryz.MJ:En prog 44:=U func44 kQ rfl
theorem Tryz.GJ:En prog 45:=U func45 kQ rfl
theorem Tryz.GK:En prog 47:=U func47 kQ rfl
theorem Tryz.wS:En prog 48:=U func48 kQ rfl
theorem Tryz.CT:En prog 49:=U func49 kQ rfl
theorem Tryz.GL:En prog 50:=U func50 kQ rfl
theorem Tryz.GM:En prog 51:=U func51 kQ rfl
theorem Tryz.wU:En prog 52:=U func52 kQ rfl
theorem Tryz.CU:En prog 53:=U func53 kQ rfl
theorem Tryz.GN:En prog 54:=U func54 kQ rfl
theorem Tryz.MK:En prog 55:=U func55 kQ rfl
theorem Tryz.GO:En prog 56:=U func56 kQ rfl
theorem Tryz.GP:En prog 57:=U func57 kQ rfl
theorem Tryz.ML:En prog 58:=U func58 kQ rfl
theorem Tryz.MM:En prog 59:=U func59 kQ rfl
theorem Tryz.GQ:En prog 60:=U func60 kQ rfl
theorem Tryz.MN:En prog 61:=U func61 kQ rfl
theorem Tryz.MO:En prog 62:=U func62 kQ rfl
theorem Tryz.MP:En prog 63:=U func63 kQ rfl
theorem Tryz.MQ:En prog 64:=U func64 kQ rfl
theorem Tryz.GR:En prog 65:=U func65 kQ rfl
theorem Tryz.CV:En prog 66:=U func66 kQ rfl
theorem Tryz.MR:En prog 67:=U func67 kQ rfl
theorem Tryz.eX:En prog 68:=U func68 kQ rfl
theorem Tryz.MS:En prog 69:=U func69 kQ rfl
theorem Tryz.MT:En prog 70:=U func70 kQ rfl
theorem Tryz.MU:En prog 71:=U func71 kQ rfl
theorem Tryz.MV:En prog 72:=U func72 kQ rfl
theorem Tryz.MW:En prog 73:=U func73 kQ rfl
theorem Tryz.MX:En prog 74:=U func74 kQ rfl
theorem Tryz.MY:En prog 75:=U func75 kQ rfl
theorem Tryz.MZ:En prog 76:=U func76 kQ rfl
theorem Tryz.NA:En prog 77:=U func77 kQ rfl
theorem Tryz.NB:En prog 78:=U func78 kQ rfl
theorem Tryz.NC:En prog 79:=U func79 kQ rfl
theorem Tryz.ND:En prog 80:=U func80 kQ rfl
theorem Tryz.NE:En prog 81:=U func81 kQ rfl
theorem Tryz.NF:En prog 82:=U func82 kQ rfl
theorem Tryz.wV:En prog 83:=U func83 kQ rfl
theorem Tryz.NG:En prog 84:=U func84 kQ rfl
theorem Tryz.T2:En prog 85:=U func85 kQ rfl
theorem Tryz.CX:En prog 86:=U func86 kQ rfl
theorem Tryz.NH:En prog 87:=U func87 kQ rfl
theorem Tryz.NI:En prog 88:=U func88 kQ rfl
theorem Tryz.wW:En prog 89:=U func89 kQ rfl
theorem Tryz.pN:En prog 92:=U func92 kQ rfl
theorem Tryz.NJ:En prog 93:=U func93 kQ rfl
theorem Tryz.NK:En prog 94:=U func94 kQ rfl
theorem Tryz.GS:En prog 95:=U func95 kQ rfl
theorem Tryz.NL:En prog 96:=U func96 kQ rfl
theorem Tryz.GU:En prog 97:=U func97 kQ rfl
theorem Tryz.GV:En prog 98:=U func98 kQ rfl
theorem Tryz.NM:En prog 99:=U func99 kQ rfl
theorem Tryz.I7:En prog 100:=U func100 kQ rfl
theorem Tryz.GW:En prog 101:=U func101 kQ rfl
theorem Tryz.GX:En prog 102:=U func102 kQ rfl
theorem Tryz.GY:En prog 103:=U func103 kQ rfl
theorem Tryz.GZ:En prog 104:=U func104 kQ rfl
theorem Tryz.HA:En prog 105:=U func105 kQ rfl
theorem Tryz.HB:En prog 106:=U func106 kQ rfl
theorem Tryz.HC:En prog 107:=U func107 kQ rfl
theorem Tryz.HD:En prog 108:=U func108 kQ rfl
theorem Tryz.HE:En prog 109:=U func109 kQ rfl
theorem Tryz.HF:En prog 110:=U func110 kQ rfl
theorem Tryz.HG:En prog 111:=U func111 kQ rfl
theorem Tryz.T3:En prog 112:=U func112 kQ rfl
theorem Tryz.iZ:En prog 113:=U func113 kQ rfl
theorem Tryz.jA:En prog 114:=U func114 kQ rfl
theorem Tryz.HH:En prog 115:=U func115 kQ rfl
theorem Tryz.P6:En prog 116:=U func116 kQ rfl
theorem Tryz.HI:En prog 117:=U func117 kQ rfl
theorem Tryz.HJ:En prog 118:=U func118 kQ rfl
theorem Tryz.HK:En prog 119:=U func119 kQ rfl
theorem Tryz.AY:En prog 120:=U func120 kQ rfl
theorem Tryz.HL:En prog 121:=U func121 kQ rfl
theorem Tryz.HM:En prog 122:=U func122 kQ rfl
theorem Tryz.pO:En prog 123:=U func123 kQ rfl
theorem Tryz.pP:En prog 124:=U func124 kQ rfl
theorem Tryz.HN:En prog 125:=U func125 kQ rfl
theorem Tryz.HO:En prog 126:=U func126 kQ rfl
theorem Tryz.HP:En prog 127:=U func127 kQ rfl
theorem Tryz.HQ:En prog 128:=U func128 kQ rfl
theorem Tryz.HR:En prog 129:=U func129 kQ rfl
theorem Tryz.HS:En prog 130:=U func130 kQ rfl
theorem Tryz.HT:En prog 131:=U func131 kQ rfl
theorem Tryz.AZ:En prog 132:=U func132 kQ rfl
theorem Tryz.BA:En prog 133:=U func133 kQ rfl
theorem Tryz.aE:En prog 134:=U func134 kQ rfl
theorem Tryz.pQ:En prog 135:=U func135 kQ rfl
theorem Tryz.BB:En prog 136:=U func136 kQ rfl
theorem Tryz.aF:En prog 137:=U func137 kQ rfl
theorem Tryz.HU:En prog 138:=U func138 kQ rfl
theorem Tryz.BC:En prog 139:=U func139 kQ rfl
theorem Tryz.HV:En prog 140:=U func140 kQ rfl
theorem Tryz.BD:En prog 141:=U func141 kQ rfl
theorem Tryz.T4:En prog 142:=U func142 kQ rfl
theorem Tryz.BE:En prog 154:=U func154 kQ rfl
theorem Tryz.Wt:En prog 155:=U func155 kQ rfl
theorem Tryz.HX:En prog 156:=U func156 kQ rfl
theorem Tryz.HY:En prog 157:=U func157 kQ rfl
theorem Tryz.HZ:En prog 158:=U func158 kQ rfl
theorem Tryz.IA:En prog 159:=U func159 kQ rfl
theorem Tryz.BF:En prog 160:=U func160 kQ rfl
theorem Tryz.IB:En prog 161:=U func161 kQ rfl
theorem Tryz.IC:En prog 162:=U func162 kQ rfl
theorem Tryz.IE:En prog 163:=U func163 kQ rfl
theorem Tryz.IF:En prog 164:=U func164 kQ rfl
theorem Tryz.IG:En prog 165:=U func165 kQ rfl
theorem Tryz.IH:En prog 166:=U func166 kQ rfl
theorem Tryz.II:En prog 167:=U func167 kQ rfl
theorem Tryz.IJ:En prog 168:=U func168 kQ rfl
theorem Tryz.IK:En prog 169:=U func169 kQ rfl
theorem Tryz.BG:En prog 170:=U func170 kQ rfl
theorem Tryz.BH:En prog 171:=U func171 kQ rfl
theorem Tryz.pR:En prog 173:=U func173 kQ rfl
theorem Tryz.IL:En prog 174:=U func174 kQ rfl
theorem Tryz.IM:En prog 175:=U func175 kQ rfl
theorem Tryz.IN:En prog 176:=U func176 kQ rfl
theorem Tryz.IP:En prog 177:=U func177 kQ rfl
theorem Tryz.IQ:En prog 178:=U func178 kQ rfl
theorem Tryz.jB:En prog 179:=U func179 kQ rfl
theorem Tryz.IR:En prog 180:=U func180 kQ rfl
theorem Tryz.aG:En prog 181:=U func181 kQ rfl
theorem Tryz.BI:En prog 182:=U func182 kQ rfl
theorem Tryz.IS:En prog 183:=U func183 kQ rfl
theorem Tryz.BJ:En prog 184:=U func184 kQ rfl
theorem Tryz.IT:En prog 185:=U func185 kQ rfl
theorem Tryz.IU:En prog 186:=U func186 kQ rfl
theorem Tryz.aH:En prog 187:=U func187 kQ rfl
theorem Tryz.pS:En prog 188:=U func188 kQ rfl
theorem Tryz.IV:En prog 189:=U func189 kQ rfl
theorem Tryz.BL:En prog 190:=U func190 kQ rfl
theorem Tryz.IW:En prog 191:=U func191 kQ rfl
theorem Tryz.BM:En prog 192:=U func192 kQ rfl
theorem Tryz.BN:En prog 193:=U func193 kQ rfl
theorem Tryz.IX:En prog 199:=U func199 kQ rfl
theorem Tryz.BO:En prog 200:=U func200 kQ rfl
theorem Tryz.jC:En prog 201:=U func201 kQ rfl
theorem Tryz.IY:En prog 202:=U func202 kQ rfl
theorem Tryz.jD:En prog 203:=U func203 kQ rfl
theorem Tryz.IZ:En prog 204:=U func204 kQ rfl
theorem Tryz.BP:En prog 205:=U func205 kQ rfl
theorem Tryz.JA:En prog 207:=U func207 kQ rfl
theorem Tryz.pT:En prog 209:=U func209 kQ rfl
theorem Tryz.jE:En prog 210:=U func210 kQ rfl
theorem Tryz.JB:En prog 213:=U func213 kQ rfl
theorem Tryz.JC:En prog 214:=U func214 kQ rfl
theorem Tryz.JD:En prog 215:=U func215 kQ rfl
theorem Tryz.JE:En prog 216:=U func216 kQ rfl
theorem Tryz.JF:En prog 217:=U func217 kQ rfl
theorem Tryz.JG:En prog 218:=U func218 kQ rfl
theorem Tryz.JH:En prog 219:=U func219 kQ rfl
theorem Tryz.JI:En prog 220:=U func220 kQ rfl
theorem Tryz.BQ:En prog 221:=U func221 kQ rfl
theorem Tryz.BR:En prog 222:=U func222 kQ rfl
theorem Tryz.JJ:En prog 223:=U func223 kQ rfl
theorem Tryz.pU:En prog 224:=U func224 kQ rfl
theorem Tryz.JK:En prog 225:=U func225 kQ rfl
theorem Tryz.Wu:En prog 226:=U func226 kQ rfl
theorem Tryz.BS:En prog 227:=U func227 kQ rfl
theorem Tryz.JL:En prog 228:=U func228 kQ rfl
theorem Tryz.JM:En prog 229:=U func229 kQ rfl
theorem Tryz.JN:En prog 231:=U func231 kQ rfl
theorem Tryz.JO:En prog 232:=U func232 kQ rfl
theorem Tryz.JP:En prog 233:=U func233 kQ rfl
theorem Tryz.JQ:En prog 234:=U func234 kQ rfl
theorem Tryz.pV:En prog 235:=U func235 kQ rfl
theorem V3(w:World):(placesOf 30).run prog w=.ok #[(0,1),(1,1)] w:=by kernel_rfl
theorem V4(w:World):(placesOf 39).run prog w=.ok #[(0,1),(1,1),(2,1),(3,1),(4,1),(5,1),(6,1),(7,1),(8,1),(9,1),(10,1)] w:=by kernel_rfl
theorem Fg(w:World):(placesOf 51).run prog w=.ok #[(0,1),(1,1),(2,1),(3,1),(4,1),(5,1),(6,1),(7,1),(8,1),(9,1),(10,1),(11,1),(12,1),(13,1),(14,1),(15,1),(16,1),(17,1),(18,1)] w:=by kernel_rfl
theorem Ed(w:World):(placesOf 55).run prog w=.ok #[(0,1),(1,1)] w:=by kernel_rfl
theorem G8(w:World):(placesOf 57).run prog w=.ok #[(0,1),(1,2),(3,2),(5,1)] w:=by kernel_rfl
theorem V5(w:World):(placesOf 62).run prog w=.ok #[(0,1),(1,11),(12,1),(13,1)] w:=by kernel_rfl
theorem K1(w:World):(placesOf 67).run prog w=.ok #[] w:=by kernel_rfl
theorem V6(w:World):(placesOf 76).run prog w=.ok #[(0,1),(1,1)] w:=by kernel_rfl
theorem Ov(w:World):(placesOf 80).run prog w=.ok #[(0,1),(1,1),(2,1)] w:=by kernel_rfl
theorem Du(w:World):(placesOf 93).run prog w=.ok #[(0,1),(1,1)] w:=by kernel_rfl
theorem Mz(w:World):(placesOf 113).run prog w=.ok #[(0,2)] w:=by kernel_rfl
theorem Dg(w:World):(placesOf 121).run prog w=.ok #[(0,1),(1,1),(2,1),(3,1)] w:=by kernel_rfl
theorem T5(w:World):(placesOf 136).run prog w=.ok #[(0,11),(11,1),(12,1),(13,1)] w:=by kernel_rfl
theorem Cr(w:World):(placesOf 158).run prog w=.ok #[(0,1),(1,1),(2,1)] w:=by kernel_rfl
theorem T6(w:World):(placesOf 249).run prog w=.ok #[(0,1),(1,1)] w:=by kernel_rfl
end Go.Proofs
namespace Go.Proofs
open Go.Proofs.Tryz
open Go.Wx Go.ChangeShapes Go.WideShapes Go.RowKit
theorem lS{H:Type}{enc:TypeId×Value→H}{w:World}{b:Nat}{sp:Nat→Bool}{hd:Bool}(n:Nat)(cs:List Value)(x:DataW H×List MemPlace)(hl:cs.length=6)(h:DataW.trod enc prog w b sp hd n 63 cs=some x):∃f:I6,cs=f.cells.toList∧FX f:=by
 have k_int:Tryz.prog.cellsOf 3=1:=by kernel_rfl
 match cs,hl with
 |[c0,c1,c2,c3,c4,c5],_=>
   obtain⟨xs,m,_,_,_,hlen,hg⟩:=DataW.trod_array underlying63 h
   have hs:∀i,i<6→∃y,xs[i]?=some y:=fun i hi=>⟨_,b_ oQ⟩
   obtain⟨y0,z0⟩:=hs 0 cQ
   obtain⟨n0,e0,_,q0⟩:=DataW.trod_int underlying3 (show DataW.trod enc prog w b sp hd m 3 [c0]=some y0 from by rw[←z0];simpa[k_int]using hg 0 cQ)
   obtain⟨y1,z1⟩:=hs 1 cQ
   obtain⟨n1,e1,_,q1⟩:=DataW.trod_int underlying3 (show DataW.trod enc prog w b sp hd m 3 [c1]=some y1 from by rw[←z1];simpa[k_int]using hg 1 cQ)
   obtain⟨y2,z2⟩:=hs 2 cQ
   obtain⟨n2,e2,_,q2⟩:=DataW.trod_int underlying3 (show DataW.trod enc prog w b sp hd m 3 [c2]=some y2 from by rw[←z2];simpa[k_int]using hg 2 cQ)
   obtain⟨y3,z3⟩:=hs 3 cQ
   obtain⟨n3,e3,_,q3⟩:=DataW.trod_int underlying3 (show DataW.trod enc prog w b sp hd m 3 [c3]=some y3 from by rw[←z3];simpa[k_int]using hg 3 cQ)
   obtain⟨y4,z4⟩:=hs 4 cQ
   obtain⟨n4,e4,_,q4⟩:=DataW.trod_int underlying3 (show DataW.trod enc prog w b sp hd m 3 [c4]=some y4 from by rw[←z4];simpa[k_int]using hg 4 cQ)
   obtain⟨y5,z5⟩:=hs 5 cQ
   obtain⟨n5,e5,_,q5⟩:=DataW.trod_int underlying3 (show DataW.trod enc prog w b sp hd m 3 [c5]=some y5 from by rw[←z5];simpa[k_int]using hg 5 cQ)
   cases e0
   cases e1
   cases e2
   cases e3
   cases e4
   cases e5
   exact⟨⟨n0,n1,n2,n3,n4,n5⟩,rfl,⟨Ew q0,Ew q1,Ew q2,Ew q3,Ew q4,Ew q5⟩⟩
theorem aI{H:Type}{enc:TypeId×Value→H}{w:World}{b:Nat}{sp:Nat→Bool}{hd:Bool}(n:Nat)(cs:List Value)(x:DataW H×List MemPlace)(hl:cs.length=19)(h:DataW.trod enc prog w b sp hd n 51 cs=some x):∃f:Fact,cs=f.cells.toList∧FOk f:=by
 have k_bool:Tryz.prog.cellsOf 4=1:=by kernel_rfl
 have k_int:Tryz.prog.cellsOf 3=1:=by kernel_rfl
 have k_string:Tryz.prog.cellsOf 9=1:=by kernel_rfl
 match cs,hl with
 |[c0,c1,c2,c3,c4,c5,c6,c7,c8,c9,c10,c11,c12,c13,c14,c15,c16,c17,c18],_=>
   obtain⟨xs,n,_,hx,_,hlen,hg⟩:=DataW.trod_struct underlying51 h
   match xs,hlen with
   |[y0,y1,y2,y3,y4,y5,y6,y7,y8,y9,y10,y11,y12,y13,y14,y15,y16,y17,y18],_=>
     obtain⟨n0,e0,_,q0⟩:=DataW.trod_int underlying3 (show DataW.trod enc prog w b sp hd n 3 [c0]=some y0 from by simpa[k_int]using hg 0 _ rfl)
     obtain⟨n1,e1,_,q1⟩:=DataW.trod_int underlying3 (show DataW.trod enc prog w b sp hd n 3 [c1]=some y1 from by simpa[k_int]using hg 1 _ rfl)
     obtain⟨n2,e2,_,q2⟩:=DataW.trod_int underlying3 (show DataW.trod enc prog w b sp hd n 3 [c2]=some y2 from by simpa[k_int]using hg 2 _ rfl)
     obtain⟨n3,e3,_,q3⟩:=DataW.trod_int underlying3 (show DataW.trod enc prog w b sp hd n 3 [c3]=some y3 from by simpa[k_int]using hg 3 _ rfl)
     obtain⟨n4,e4,_⟩:=DataW.trod_bool underlying4 (show DataW.trod enc prog w b sp hd n 4 [c4]=some y4 from by simpa[k_bool]using hg 4 _ rfl)
     obtain⟨n5,e5,_,q5⟩:=DataW.trod_int underlying3 (show DataW.trod enc prog w b sp hd n 3 [c5]=some y5 from by simpa[k_int]using hg 5 _ rfl)
     obtain⟨n6,e6,_,q6⟩:=DataW.trod_int underlying3 (show DataW.trod enc prog w b sp hd n 3 [c6]=some y6 from by simpa[k_int]using hg 6 _ rfl)
     obtain⟨n7,e7,_,q7⟩:=DataW.trod_int underlying3 (show DataW.trod enc prog w b sp hd n 3 [c7]=some y7 from by simpa[k_int]using hg 7 _ rfl)
     obtain⟨n8,e8,_,q8⟩:=DataW.trod_int underlying3 (show DataW.trod enc prog w b sp hd n 3 [c8]=some y8 from by simpa[k_int]using hg 8 _ rfl)
     obtain⟨n9,e9,_,q9⟩:=DataW.trod_int underlying3 (show DataW.trod enc prog w b sp hd n 3 [c9]=some y9 from by simpa[k_int]using hg 9 _ rfl)
     obtain⟨n10,e10,_,q10⟩:=DataW.trod_int underlying3 (show DataW.trod enc prog w b sp hd n 3 [c10]=some y10 from by simpa[k_int]using hg 10 _ rfl)
     obtain⟨n11,e11,_,q11⟩:=DataW.trod_int underlying3 (show DataW.trod enc prog w b sp hd n 3 [c11]=some y11 from by simpa[k_int]using hg 11 _ rfl)
     obtain⟨n12,e12,_,q12⟩:=DataW.trod_int underlying3 (show DataW.trod enc prog w b sp hd n 3 [c12]=some y12 from by simpa[k_int]using hg 12 _ rfl)
     obtain⟨n13,e13,_,q13⟩:=DataW.trod_int underlying3 (show DataW.trod enc prog w b sp hd n 3 [c13]=some y13 from by simpa[k_int]using hg 13 _ rfl)
     obtain⟨n14,e14,_,q14⟩:=DataW.trod_int underlying3 (show DataW.trod enc prog w b sp hd n 3 [c14]=some y14 from by simpa[k_int]using hg 14 _ rfl)
     obtain⟨n15,e15,_,q15⟩:=DataW.trod_int underlying3 (show DataW.trod enc prog w b sp hd n 3 [c15]=some y15 from by simpa[k_int]using hg 15 _ rfl)
     obtain⟨n16,e16,_,q16⟩:=DataW.trod_int underlying3 (show DataW.trod enc prog w b sp hd n 3 [c16]=some y16 from by simpa[k_int]using hg 16 _ rfl)
     obtain⟨n17,e17,_,q17⟩:=DataW.trod_int underlying3 (show DataW.trod enc prog w b sp hd n 3 [c17]=some y17 from by simpa[k_int]using hg 17 _ rfl)
     obtain⟨n18,e18,_,s18⟩:=DataW.trod_string underlying9 (show DataW.trod enc prog w b sp hd n 9 [c18]=some y18 from by simpa[k_string]using hg 18 _ rfl)
     cases e0
     cases e1
     cases e2
     cases e3
     cases e4
     cases e5
     cases e6
     cases e7
     cases e8
     cases e9
     cases e10
     cases e11
     cases e12
     cases e13
     cases e14
     cases e15
     cases e16
     cases e17
     cases e18
     exact⟨⟨n0,n1,n2,n3,n4,n5,n6,n7,n8,n9,n10,n11,n12,n13,n14,n15,n16,n17,n18⟩,rfl,⟨Ew q0,Ew q1,Ew q2,Ew q3,Ew q5,Ew q6,Ew q7,Ew q8,Ew q9,Ew q10,Ew q11,Ew q12,Ew q13,Ew q14,Ew q15,Ew q16,Ew q17,s18⟩⟩
end Go.Proofs
