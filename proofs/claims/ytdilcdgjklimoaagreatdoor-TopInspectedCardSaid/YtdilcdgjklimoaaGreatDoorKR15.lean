import Derived.Test.YtdilcdgjklimoaaGreatDoorKR14
import Derived.Test.YtdilcdgjklimoaaGreatDoorProg
namespace Go.Proofs
open Go.Proofs.Tryz
open Go.Wx
theorem Tryz.JF:En Tryz.prog 4:=C func4 kQ rfl
theorem Tryz.JG:En Tryz.prog 5:=C func5 kQ rfl
theorem Tryz.JH:En Tryz.prog 6:=C func6 kQ rfl
theorem Tryz.JI:En Tryz.prog 7:=C func7 kQ rfl
theorem Tryz.JJ:En Tryz.prog 8:=C func8 kQ rfl
theorem Tryz.JK:En Tryz.prog 9:=C func9 kQ rfl
theorem Tryz.GG:En Tryz.prog 10:=C func10 kQ rfl
theorem Tryz.GH:En Tryz.prog 11:=C func11 kQ rfl
theorem Tryz.AX:En Tryz.prog 12:=C func12 kQ rfl
theorem Tryz.AY:En Tryz.prog 13:=C func13 kQ rfl
theorem Tryz.GI:En Tryz.prog 14:=C func14 kQ rfl
theorem Tryz.AZ:En Tryz.prog 15:=C func15 kQ rfl
theorem Tryz.Xp:En Tryz.prog 16:=C func16 kQ rfl
theorem Tryz.GJ:En Tryz.prog 17:=C func17 kQ rfl
theorem Tryz.GK:En Tryz.prog 18:=C func18 kQ rfl
theorem Tryz.GL:En Tryz.prog 19:=C func19 kQ rfl
theorem Tryz.GM:En Tryz.prog 20:=C func20 kQ rfl
theorem Tryz.xR:En Tryz.prog 21:=C func21 kQ rfl
theorem Tryz.GN:En Tryz.prog 22:=C func22 kQ rfl
theorem Tryz.GO:En Tryz.prog 23:=C func23 kQ rfl
theorem Tryz.GP:En Tryz.prog 24:=C func24 kQ rfl
theorem Tryz.K0:En Tryz.prog 25:=C func25 kQ rfl
theorem Tryz.GQ:En Tryz.prog 26:=C func26 kQ rfl
theorem Tryz.xS:En Tryz.prog 27:=C func27 kQ rfl
theorem Tryz.GR:En Tryz.prog 28:=C func28 kQ rfl
theorem Tryz.BA:En Tryz.prog 29:=C func29 kQ rfl
theorem Tryz.xT:En Tryz.prog 30:=C func30 kQ rfl
theorem Tryz.BB:En Tryz.prog 31:=C func31 kQ rfl
theorem Tryz.GS:En Tryz.prog 32:=C func32 kQ rfl
theorem Tryz.GU:En Tryz.prog 33:=C func33 kQ rfl
theorem Tryz.GV:En Tryz.prog 34:=C func34 kQ rfl
theorem Tryz.xU:En Tryz.prog 35:=C func35 kQ rfl
theorem Tryz.iL:En Tryz.prog 36:=C func36 kQ rfl
theorem Tryz.GW:En Tryz.prog 37:=C func37 kQ rfl
theorem Tryz.GX:En Tryz.prog 38:=C func38 kQ rfl
theorem Tryz.BC:En Tryz.prog 39:=C func39 kQ rfl
theorem Tryz.GY:En Tryz.prog 40:=C func40 kQ rfl
theorem Tryz.GZ:En Tryz.prog 41:=C func41 kQ rfl
theorem Tryz.HA:En Tryz.prog 42:=C func42 kQ rfl
theorem Tryz.iM:En Tryz.prog 43:=C func43 kQ rfl
theorem Tryz.HB:En Tryz.prog 44:=C func44 kQ rfl
theorem Tryz.HC:En Tryz.prog 45:=C func45 kQ rfl
theorem Tryz.HD:En Tryz.prog 46:=C func46 kQ rfl
theorem Tryz.BD:En Tryz.prog 47:=C func47 kQ rfl
theorem Tryz.xV:En Tryz.prog 48:=C func48 kQ rfl
theorem Tryz.HE:En Tryz.prog 49:=C func49 kQ rfl
theorem Tryz.BF:En Tryz.prog 50:=C func50 kQ rfl
theorem Tryz.HF:En Tryz.prog 51:=C func51 kQ rfl
theorem Tryz.BG:En Tryz.prog 52:=C func52 kQ rfl
theorem Tryz.HG:En Tryz.prog 53:=C func53 kQ rfl
theorem Tryz.HH:En Tryz.prog 54:=C func54 kQ rfl
theorem Tryz.HI:En Tryz.prog 55:=C func55 kQ rfl
theorem Tryz.rX:En Tryz.prog 58:=C func58 kQ rfl
theorem Tryz.xW:En Tryz.prog 59:=C func59 kQ rfl
theorem Tryz.BH:En Tryz.prog 60:=C func60 kQ rfl
theorem Tryz.BI:En Tryz.prog 61:=C func61 kQ rfl
theorem Tryz.rY:En Tryz.prog 62:=C func62 kQ rfl
theorem Tryz.xX:En Tryz.prog 63:=C func63 kQ rfl
theorem Tryz.BL:En Tryz.prog 64:=C func64 kQ rfl
theorem Tryz.HJ:En Tryz.prog 65:=C func65 kQ rfl
theorem Tryz.HK:En Tryz.prog 66:=C func66 kQ rfl
theorem Tryz.aW:En Tryz.prog 67:=C func67 kQ rfl
theorem Tryz.HL:En Tryz.prog 68:=C func68 kQ rfl
theorem Tryz.HM:En Tryz.prog 69:=C func69 kQ rfl
theorem Tryz.HN:En Tryz.prog 70:=C func70 kQ rfl
theorem Tryz.HO:En Tryz.prog 71:=C func71 kQ rfl
theorem Tryz.HP:En Tryz.prog 72:=C func72 kQ rfl
theorem Tryz.HQ:En Tryz.prog 73:=C func73 kQ rfl
theorem Tryz.HR:En Tryz.prog 74:=C func74 kQ rfl
theorem Tryz.HS:En Tryz.prog 75:=C func75 kQ rfl
theorem Tryz.HT:En Tryz.prog 76:=C func76 kQ rfl
theorem Tryz.HU:En Tryz.prog 77:=C func77 kQ rfl
theorem Tryz.HV:En Tryz.prog 78:=C func78 kQ rfl
theorem Tryz.HX:En Tryz.prog 79:=C func79 kQ rfl
theorem Tryz.HY:En Tryz.prog 80:=C func80 kQ rfl
theorem Tryz.HZ:En Tryz.prog 81:=C func81 kQ rfl
theorem Tryz.BM:En Tryz.prog 82:=C func82 kQ rfl
theorem Tryz.IA:En Tryz.prog 83:=C func83 kQ rfl
theorem Tryz.rZ:En Tryz.prog 84:=C func84 kQ rfl
theorem Tryz.xY:En Tryz.prog 85:=C func85 kQ rfl
theorem Tryz.IB:En Tryz.prog 86:=C func86 kQ rfl
theorem Tryz.IC:En Tryz.prog 87:=C func87 kQ rfl
theorem Tryz.IE:En Tryz.prog 88:=C func88 kQ rfl
theorem Tryz.IF:En Tryz.prog 89:=C func89 kQ rfl
theorem Tryz.xZ:En Tryz.prog 90:=C func90 kQ rfl
theorem Tryz.IG:En Tryz.prog 93:=C func93 kQ rfl
theorem Tryz.IH:En Tryz.prog 94:=C func94 kQ rfl
theorem Tryz.II:En Tryz.prog 95:=C func95 kQ rfl
theorem Tryz.IJ:En Tryz.prog 96:=C func96 kQ rfl
theorem Tryz.IK:En Tryz.prog 97:=C func97 kQ rfl
theorem Tryz.IM:En Tryz.prog 98:=C func98 kQ rfl
theorem Tryz.IN:En Tryz.prog 99:=C func99 kQ rfl
theorem Tryz.fF:En Tryz.prog 100:=C func100 kQ rfl
theorem Tryz.BN:En Tryz.prog 101:=C func101 kQ rfl
theorem Tryz.BO:En Tryz.prog 102:=C func102 kQ rfl
theorem Tryz.BP:En Tryz.prog 103:=C func103 kQ rfl
theorem Tryz.BQ:En Tryz.prog 104:=C func104 kQ rfl
theorem Tryz.BR:En Tryz.prog 105:=C func105 kQ rfl
theorem Tryz.BS:En Tryz.prog 106:=C func106 kQ rfl
theorem Tryz.BT:En Tryz.prog 107:=C func107 kQ rfl
theorem Tryz.BU:En Tryz.prog 108:=C func108 kQ rfl
theorem Tryz.wR:En Tryz.prog 109:=C func109 kQ rfl
theorem Tryz.BV:En Tryz.prog 111:=C func111 kQ rfl
theorem Tryz.BW:En Tryz.prog 112:=C func112 kQ rfl
theorem Tryz.Ra:En Tryz.prog 113:=C func113 kQ rfl
theorem Tryz.BX:En Tryz.prog 114:=C func114 kQ rfl
theorem Tryz.BY:En Tryz.prog 115:=C func115 kQ rfl
theorem Tryz.BZ:En Tryz.prog 116:=C func116 kQ rfl
theorem Tryz.CA:En Tryz.prog 117:=C func117 kQ rfl
theorem Tryz.CB:En Tryz.prog 118:=C func118 kQ rfl
theorem Tryz.CC:En Tryz.prog 119:=C func119 kQ rfl
theorem Tryz.CD:En Tryz.prog 120:=C func120 kQ rfl
theorem Tryz.CE:En Tryz.prog 121:=C func121 kQ rfl
theorem Tryz.CF:En Tryz.prog 122:=C func122 kQ rfl
theorem Tryz.wS:En Tryz.prog 123:=C func123 kQ rfl
theorem Tryz.CG:En Tryz.prog 124:=C func124 kQ rfl
theorem Tryz.Ul:En Tryz.prog 126:=C func126 kQ rfl
theorem Tryz.CH:En Tryz.prog 127:=C func127 kQ rfl
theorem Tryz.CI:En Tryz.prog 128:=C func128 kQ rfl
theorem Tryz.CJ:En Tryz.prog 129:=C func129 kQ rfl
theorem Tryz.CK:En Tryz.prog 130:=C func130 kQ rfl
theorem Tryz.CL:En Tryz.prog 131:=C func131 kQ rfl
theorem Tryz.wU:En Tryz.prog 137:=C func137 kQ rfl
theorem Tryz.wV:En Tryz.prog 138:=C func138 kQ rfl
theorem Tryz.CM:En Tryz.prog 139:=C func139 kQ rfl
theorem Tryz.Ho:En Tryz.prog 140:=C func140 kQ rfl
theorem Tryz.CN:En Tryz.prog 141:=C func141 kQ rfl
theorem Tryz.CO:En Tryz.prog 142:=C func142 kQ rfl
theorem Tryz.CP:En Tryz.prog 143:=C func143 kQ rfl
theorem Tryz.CQ:En Tryz.prog 144:=C func144 kQ rfl
theorem Tryz.CR:En Tryz.prog 145:=C func145 kQ rfl
theorem Tryz.CS:En Tryz.prog 146:=C func146 kQ rfl
theorem Tryz.CT:En Tryz.prog 147:=C func147 kQ rfl
theorem Tryz.CU:En Tryz.prog 148:=C func148 kQ rfl
theorem Tryz.CV:En Tryz.prog 149:=C func149 kQ rfl
theorem Tryz.CX:En Tryz.prog 150:=C func150 kQ rfl
theorem Tryz.CY:En Tryz.prog 151:=C func151 kQ rfl
theorem Tryz.Rb:En Tryz.prog 152:=C func152 kQ rfl
theorem Tryz.fG:En Tryz.prog 153:=C func153 kQ rfl
theorem Tryz.fH:En Tryz.prog 154:=C func154 kQ rfl
theorem Tryz.CZ:En Tryz.prog 155:=C func155 kQ rfl
theorem Tryz.Nt:En Tryz.prog 156:=C func156 kQ rfl
theorem Tryz.DA:En Tryz.prog 157:=C func157 kQ rfl
theorem Tryz.DB:En Tryz.prog 158:=C func158 kQ rfl
theorem Tryz.DC:En Tryz.prog 159:=C func159 kQ rfl
theorem Tryz.DD:En Tryz.prog 160:=C func160 kQ rfl
theorem Tryz.DE:En Tryz.prog 161:=C func161 kQ rfl
theorem Tryz.DF:En Tryz.prog 162:=C func162 kQ rfl
theorem Tryz.Xq:En Tryz.prog 163:=C func163 kQ rfl
theorem Tryz.DG:En Tryz.prog 164:=C func164 kQ rfl
theorem Tryz.DH:En Tryz.prog 165:=C func165 kQ rfl
theorem Tryz.DI:En Tryz.prog 166:=C func166 kQ rfl
theorem Tryz.DJ:En Tryz.prog 167:=C func167 kQ rfl
theorem Tryz.DK:En Tryz.prog 179:=C func179 kQ rfl
theorem Tryz.DL:En Tryz.prog 180:=C func180 kQ rfl
theorem Tryz.DM:En Tryz.prog 182:=C func182 kQ rfl
theorem Tryz.DN:En Tryz.prog 183:=C func183 kQ rfl
theorem Tryz.wW:En Tryz.prog 184:=C func184 kQ rfl
theorem Tryz.wX:En Tryz.prog 185:=C func185 kQ rfl
theorem Tryz.wY:En Tryz.prog 186:=C func186 kQ rfl
theorem Tryz.mN:En Tryz.prog 187:=C func187 kQ rfl
theorem Tryz.DO:En Tryz.prog 188:=C func188 kQ rfl
theorem Tryz.wZ:En Tryz.prog 189:=C func189 kQ rfl
theorem Tryz.DP:En Tryz.prog 190:=C func190 kQ rfl
theorem Tryz.DQ:En Tryz.prog 191:=C func191 kQ rfl
theorem Tryz.DR:En Tryz.prog 192:=C func192 kQ rfl
theorem Tryz.xA:En Tryz.prog 193:=C func193 kQ rfl
theorem Tryz.DS:En Tryz.prog 194:=C func194 kQ rfl
theorem Tryz.DT:En Tryz.prog 197:=C func197 kQ rfl
theorem Tryz.DU:En Tryz.prog 198:=C func198 kQ rfl
theorem Tryz.DV:En Tryz.prog 199:=C func199 kQ rfl
theorem Tryz.DW:En Tryz.prog 200:=C func200 kQ rfl
theorem Tryz.Um:En Tryz.prog 202:=C func202 kQ rfl
theorem Tryz.Rc:En Tryz.prog 203:=C func203 kQ rfl
theorem Tryz.DX:En Tryz.prog 204:=C func204 kQ rfl
theorem Tryz.DY:En Tryz.prog 205:=C func205 kQ rfl
theorem Tryz.DZ:En Tryz.prog 206:=C func206 kQ rfl
theorem Tryz.EA:En Tryz.prog 207:=C func207 kQ rfl
theorem Tryz.EB:En Tryz.prog 208:=C func208 kQ rfl
theorem Tryz.EC:En Tryz.prog 209:=C func209 kQ rfl
theorem Tryz.ED:En Tryz.prog 210:=C func210 kQ rfl
theorem Tryz.EE:En Tryz.prog 224:=C func224 kQ rfl
theorem Tryz.EF:En Tryz.prog 225:=C func225 kQ rfl
theorem Tryz.mO:En Tryz.prog 227:=C func227 kQ rfl
theorem Tryz.EG:En Tryz.prog 228:=C func228 kQ rfl
theorem Tryz.EH:En Tryz.prog 229:=C func229 kQ rfl
theorem Tryz.EI:En Tryz.prog 231:=C func231 kQ rfl
theorem Tryz.mP:En Tryz.prog 233:=C func233 kQ rfl
theorem Tryz.EJ:En Tryz.prog 234:=C func234 kQ rfl
theorem Tryz.EK:En Tryz.prog 239:=C func239 kQ rfl
theorem Tryz.EL:En Tryz.prog 241:=C func241 kQ rfl
theorem Tryz.Xr:En Tryz.prog 244:=C func244 kQ rfl
theorem Tryz.EM:En Tryz.prog 245:=C func245 kQ rfl
theorem Tryz.EN:En Tryz.prog 246:=C func246 kQ rfl
theorem Tryz.EO:En Tryz.prog 248:=C func248 kQ rfl
theorem Tryz.EP:En Tryz.prog 249:=C func249 kQ rfl
theorem Tm(w:World):(placesOf 35).run Tryz.prog w=.ok #[(0,1),(1,1),(2,1),(3,1),(4,1)] w:=by kernel_rfl
theorem Mj(w:World):(placesOf 50).run Tryz.prog w=.ok #[(0,1),(1,1),(2,1)] w:=by kernel_rfl
theorem Tn(w:World):(placesOf 54).run Tryz.prog w=.ok #[(0,1),(1,1),(2,1),(3,1)] w:=by kernel_rfl
theorem To(w:World):(placesOf 56).run Tryz.prog w=.ok #[(0,1),(1,1),(2,1),(3,1),(4,1),(5,1),(6,1)] w:=by kernel_rfl
theorem Tp(w:World):(placesOf 58).run Tryz.prog w=.ok #[(0,1),(1,1)] w:=by kernel_rfl
theorem Ml(w:World):(placesOf 61).run Tryz.prog w=.ok #[(0,1),(1,1)] w:=by kernel_rfl
theorem Tq(w:World):(placesOf 63).run Tryz.prog w=.ok #[(0,1),(1,1),(2,2),(4,2)] w:=by kernel_rfl
theorem Tr(w:World):(placesOf 65).run Tryz.prog w=.ok #[(0,1),(1,1),(2,1),(3,1),(4,1)] w:=by kernel_rfl
theorem Tt(w:World):(placesOf 70).run Tryz.prog w=.ok #[(0,1),(1,1),(2,1),(3,1),(4,1)] w:=by kernel_rfl
theorem G5(w:World):(placesOf 74).run Tryz.prog w=.ok #[(0,1),(1,1),(2,1),(3,1),(4,1),(5,1),(6,1),(7,1),(8,1),(9,1),(10,1),(11,1),(12,1),(13,1),(14,1),(15,1),(16,1),(17,1),(18,1)] w:=by kernel_rfl
theorem Dd(w:World):(placesOf 84).run Tryz.prog w=.ok #[(0,1),(1,1)] w:=by kernel_rfl
theorem Jc(w:World):(placesOf 91).run Tryz.prog w=.ok #[(0,1),(1,1)] w:=by kernel_rfl
theorem Re(w:World):(placesOf 101).run Tryz.prog w=.ok #[(0,1),(1,1),(2,1)] w:=by kernel_rfl
theorem K1(w:World):(placesOf 118).run Tryz.prog w=.ok #[(0,1)] w:=by kernel_rfl
theorem K3(w:World):(placesOf 158).run Tryz.prog w=.ok #[(0,2)] w:=by kernel_rfl
theorem C3(w:World):(placesOf 164).run Tryz.prog w=.ok #[(0,1),(1,1),(2,1),(3,1)] w:=by kernel_rfl
theorem Ck(w:World):(placesOf 225).run Tryz.prog w=.ok #[(0,1),(1,1),(2,1)] w:=by kernel_rfl
theorem Gq(w:World):(placesOf 264).run Tryz.prog w=.ok #[(0,1),(1,1)] w:=by kernel_rfl
end Go.Proofs
namespace Go.Wx
open Go.RowKit
section
variable {R:Option Nat}{m:Nat}{P:Program}{n:Nat}{ds:List Deferred}{Q:Exit→Go.Act→World→Prop}{l:Env}{w:World}{ops:Array Oper}
def mQ(o:Oper):Bool:=match o.op with|.move _=>o.guard.isNone|_=>false
def K4(ops:Array Oper)(k j:Nat):Bool:=match ops[j]? with
 |none=>false
 |some o=>mQ o&&((o.looksAt ops).all fun t=>(List.range (k+1)).all fun i=>match ops[i]? with|none=>true|some p=> !(p.dst==some t))&&
     (match ops[k]? with|none=>false|some h=>match o.dst with|none=>false|some d=> !Md (h.looksAt ops) d)
def aX(ops:Array Oper)(k:Nat):Bool:=
 (List.range k).all fun j=>K4 ops k j||(List.range (k+1)).any fun i=>Nat.ble (j+1) i&&((Nat.beq i k|| !K4 ops k i)&&(match ops[i]? with|none=>false|some o=>o.after.any fun e=>Region.binds .any e&&Nat.beq e.on j))
theorem iN{k:Nat}(hC:aX ops k=true){listed:Array Bool}(hD:Dn ops listed){o:Oper}(ho:ops[k]?=some o)(hk:∀e∈o.after,Region.binds .any e=true→listed.getD e.on false=true):∀(c j:Nat),k-j=c→j<k→K4 ops k j=false→listed.getD j false=true:=by
 intro c
 induction c using Nat.strongRecOn with
 |_ c ih=>
   intro j hc hj hl
   have h0:=List.all_eq_true.1 hC j (List.mem_range.2 hj)
   rw[hl,Bool.false_or]at h0
   obtain⟨i,hi,hh⟩:=List.any_eq_true.1 h0
   simp only[Bool.and_eq_true,Bool.or_eq_true]at hh
   have hji:j<i:=Nat.le_of_ble_eq_true hh.1
   have hik:i<k+1:=List.mem_range.1 hi
   cases hio:ops[i]? with
   |none=>simp[hio]at hh
   |some q=>
     have h2:=hh.2.2
     simp only[hio]at h2
     obtain⟨e,he,hb⟩:=Array.any_eq_true.1 h2
     simp only[Bool.and_eq_true]at hb
     have hon:=Nat.eq_of_beq_eq_true hb.2
     by_cases hek:i=k
     · subst hek
       rw[ho]at hio
       cases hio
       rw[←hon];exact hk _ (Array.getElem_mem he) hb.1
     have hli:K4 ops k i=false:=by
       rcases hh.2.1 with h3|h3
       · exact absurd (Nat.eq_of_beq_eq_true h3) hek
       simpa using h3
     have:=ih (k-i) oQ i rfl oQ hli
     rw[←hon];exact hD i q hio this _ (Array.getElem_mem he) hb.1
theorem aY{k j:Nat}(h:K4 ops k j=true):∃o x,ops[j]?=some o∧o.op=.move x∧o.guard=none∧(∀t∈o.looksAt ops,∀(i:Nat)(p:Oper),i<k+1→ops[i]?=some p→p.dst≠some t)∧∀(hh:Oper)(d:Nat),ops[k]?=some hh→o.dst=some d→d∉hh.looksAt ops:=by
 unfold K4 at h
 cases ho:ops[j]? with
 |none=>simp[ho]at h
 |some o=>
   simp only[ho,Bool.and_eq_true]at h
   obtain⟨⟨h1,h2⟩,h3⟩:=h
   unfold mQ at h1
   split at h1
   · rename_i x hx
     refine⟨o,x,rfl,hx,by simpa using h1,fun t ht i p hi hp hd=>?_,fun hh d hk hd hm=>?_⟩
     · have:=List.all_eq_true.1 (List.all_eq_true.1 h2 t ht) i (List.mem_range.2 hi)
       simp[hp,hd]at this
     simp only[hk,hd]at h3
     rw[H7.2 hm]at h3
     cases h3
   cases h1
def Ek:Env→Env
 |[]=>[]
 |(_,.pred _)::l=>Ek l
 |(i,.eq v)::l=>(i,.eq v)::Ek l
 |(i,.cond b v)::l=>(i,.cond b v)::Ek l
def plainPh:Ph→Prop
 |.pred _=>False
 |_=>True
theorem plainPh.holds{ph:Ph}(h:plainPh ph){v:Value}{w w':World}(k:ph.holds v w):ph.holds v w':=by
 cases ph with
 |eq=>exact k
 |cond=>exact k
 |pred=>exact h.elim
theorem Xs{k:Nat}{E:Nat→Env}(hE0:E 0=[])(hE:∀(i:Nat)(o:Oper),i<k→ops[i]?=some o→∃ph d,o.dst=some d∧E (i+1)=(d,ph)::E i)(hks:k≤ops.size):
   ∀c i ph,c≤k→lk (Ek (E c)) i=some ph→∃j o,j<c∧ops[j]?=some o∧o.dst=some i∧E (j+1)=(i,ph)::E j∧plainPh ph:=by
 intro c
 induction c with
 |zero=>intro i ph _ h;rw[hE0]at h;cases h
 |succ c ih=>
   intro i ph hk h
   have hko:ops[c]?=some ops[c]:=by simp[show c<ops.size by omega]
   obtain⟨q,d,hd,he⟩:=hE c _ oQ hko
   rw[he]at h
   have go:lk (Ek (E c)) i=some ph→∃j o,j<c+1∧ops[j]?=some o∧o.dst=some i∧E (j+1)=(i,ph)::E j∧plainPh ph:=fun h=>by
     obtain⟨j,o,h1,h2⟩:=ih i ph oQ h
     exact⟨j,o,by omega,h2⟩
   cases q with
   |pred p=>exact go h
   |eq v=>
     by_cases e:i=d
     · subst e
       have h':lk ((i,Ph.eq v)::Ek (E c)) i=some ph:=h
       rw[A7]at h'
       cases h'
       exact⟨c,_,by omega,hko,hd,he,trivial⟩
     have h':lk ((d,Ph.eq v)::Ek (E c)) i=some ph:=h
     rw[A8 e]at h'
     exact go h'
   |cond b v=>
     by_cases e:i=d
     · subst e
       have h':lk ((i,Ph.cond b v)::Ek (E c)) i=some ph:=h
       rw[A7]at h'
       cases h'
       exact⟨c,_,by omega,hko,hd,he,trivial⟩
     have h':lk ((d,Ph.cond b v)::Ek (E c)) i=some ph:=h
     rw[A8 e]at h'
     exact go h'
theorem Nu{listed:Array Bool}{i fuel:Nat}(hlt:i<listed.size)(hbi:listed.getD i false=false)(hc:listed.toList.countP (· ==false)≤fuel+1):(listed.setIfInBounds i true).toList.countP (· ==false)≤fuel:=by
 have hbi':listed[i]=false:=by
   rw[Array.getD_eq_getD_getElem?]at hbi
   simp only[hlt,Array.getElem?_eq_getElem,Option.getD_some]at hbi
   exact hbi
 rw[Array.toList_setIfInBounds,List.countP_set (by simpa using hlt)]
 have hpos:0<listed.toList.countP (· ==false):=List.countP_pos_iff.2 ⟨listed[i],by simp,by simp[hbi']⟩
 have e1:(listed.toList[i]'(by simpa using hlt)==false)=true:=by simp[hbi']
 rw[if_pos e1,if_neg (by simp)]
 omega
theorem V1{listed:Array Bool}{i:Nat}{o:Oper}(hlt:i<listed.size)(hio:ops[i]?=some o)(hed:∀e∈o.after,Region.binds .any e=true→listed.getD e.on false=true)(hD:Dn ops listed):Dn ops (listed.setIfInBounds i true):=by
 intro j p hp hl e he hb
 rw[Dj hlt]at hl⊢
 by_cases e1:e.on=i
 · rw[if_pos e1]
 rw[if_neg e1]
 by_cases e2:j=i
 · subst e2
   rw[hio]at hp;cases hp
   exact hed e he hb
 rw[if_neg e2]at hl
 exact hD j p hp hl e he hb
theorem Rf{listed:Array Bool}{s fuel:Nat}(hs:listed.size=ops.size)(hc:listed.toList.countP (· ==false)≤fuel)(hno:∀j,s≤j→j<ops.size→listed.getD j false=false):ops.size-s≤fuel:=by
 have h1:(listed.toList.drop s).countP (· ==false)=ops.size-s:=by
   rw[List.countP_eq_length.2]
   · simp[hs]
   intro b hb
   obtain⟨j,hj,he⟩:=List.mem_iff_getElem.1 hb
   rw[List.getElem_drop]at he
   have hj':s+j<listed.size:=by simp at hj;omega
   have:=hno (s+j) oQ oQ
   rw[Array.getD_eq_getD_getElem?]at this
   simp only[hj',Array.getElem?_eq_getElem,Option.getD_some]at this
   rw[←he]
   simpa using this
 have h2:(listed.toList.drop s).countP (· ==false)≤listed.toList.countP (· ==false):=(List.drop_sublist s _).countP_le
 omega
theorem Mt(hA:Dv ops=true){k:Nat}(hks:k≤ops.size){listed:Array Bool}(hs:listed.size=ops.size):∀c,c<k→listed.getD c false=false→∃i,i∈Region.ready .any ops listed:=by
 intro c
 induction c using Nat.strongRecOn with
 |_ c ihc=>
   intro hck hcf
   have hco:ops[c]?=some ops[c]:=by simp[show c<ops.size by omega]
   by_cases hr:∀e∈(ops[c]).after,Region.binds .any e=true→listed.getD e.on false=true
   · exact⟨c,(Fg hs).2 ⟨_,hco,hcf,hr⟩⟩
   simp only[Classical.not_forall]at hr
   obtain⟨e,he,hb,hf⟩:=hr
   have hlt:=Di hA hco e he hb
   exact ihc e.on hlt oQ (by simpa using hf)
theorem aZ{k:Nat}{wp w:World}{w0:World}{base:Env}{dh:Nat}{vh:Value}(hu:Up w0 wp)(hok:Jb n ops (k+1)=true)(hT:Gc ops (k+1)=true)(hA:Dv ops=true)(hC:Fh ops (k+1)=true)(hkk:k<ops.size)(E:Nat→Env)(hE0:E 0=[])
   (hE:∀(i:Nat)(o:Oper),i<k→ops[i]?=some o→∃ph d,o.dst=some d∧phUp ph∧AR P n ds ops w0 (Bk (o.looksAt ops) (E i)++base) o ph∧E (i+1)=(d,ph)::E i)
   (hbp:Cj base=true)(hbase:∀i ph,lk base i=some ph→∀(j:Nat)(o:Oper),j<k+1→ops[j]?=some o→o.dst≠some i)
   (hdh:∀o,ops[k]?=some o→o.dst=some dh)
   (hQ:∀a,Ag n ds ((dh,.eq vh)::(Ek (E k)++base)) a w→wpListIn (FR R) m P ops Q (ops.toList.drop (k+1)) a w):
   ∀(fuel:Nat)(listed:Array Bool)(a:Go.Act),listed.size=ops.size→listed.toList.countP (· ==false)≤fuel→(∀j,k+1≤j→j<ops.size→listed.getD j false=false)→listed.getD k false=true→(∀j,j<k→listed.getD j false=false→K4 ops k j=true)→Dn ops listed→Ag n ds base a w→a.tmps.getD dh undef=vh→
     (∀(j:Nat)(o:Oper)(d:Nat)(ph:Ph),j<k→ops[j]?=some o→o.dst=some d→E (j+1)=(d,ph)::E j→plainPh ph→listed.getD j false=true→ph.holds (a.tmps.getD d undef) w)→
     wpAnyIn (FR R) m P .any ops Q fuel listed a w:=by
 have hE':∀(i:Nat)(o:Oper),i<k→ops[i]?=some o→∃ph d,o.dst=some d∧E (i+1)=(d,ph)::E i:=fun i o hi ho=>let⟨ph,d,h1,_,_,h2⟩:=hE i o hi ho;⟨ph,d,h1,h2⟩
 have hDP:=Xs hE0 hE' oQ
 have hfull:∀(fuel:Nat)(listed:Array Bool)(a:Go.Act),listed.size=ops.size→listed.toList.countP (· ==false)≤fuel→(∀j,k+1≤j→j<ops.size→listed.getD j false=false)→listed.getD k false=true→(∀j,j<k→listed.getD j false=true)→Ag n ds base a w→a.tmps.getD dh undef=vh→
     (∀(j:Nat)(o:Oper)(d:Nat)(ph:Ph),j<k→ops[j]?=some o→o.dst=some d→E (j+1)=(d,ph)::E j→plainPh ph→listed.getD j false=true→ph.holds (a.tmps.getD d undef) w)→
     wpAnyIn (FR R) m P .any ops Q fuel listed a w:=by
   intro fuel listed a hs hc hno hk hall ha hv hI
   refine Et hT hA (ops.size-(k+1)) (k+1) fuel listed a w rfl oQ (Nat.le_refl _) (Rf hs hc hno) ⟨hs,fun j hj=>?_⟩ (hQ a ⟨ha.defers,ha.size,fun i ph hi=>?_⟩)
   · by_cases h:j<k+1
     · rw[decide_eq_true h]
       by_cases e:j=k
       · rw[e];exact hk
       exact hall j oQ
     rw[hno j oQ hj,decide_eq_false h]
   by_cases e:i=dh
   · subst e
     rw[A7]at hi
     cases hi
     exact hv
   rw[A8 e]at hi
   rcases C6 hi with h|h
   · obtain⟨j,o,hj,ho,hd,he,hp⟩:=hDP _ _ _ (Nat.le_refl _) h
     exact hI j o i ph hj ho hd he hp (hall j hj)
   exact ha.val i ph h
 have hEl:∀c i ph,c≤k→lk (E c) i=some ph→∃j o,j<c∧ops[j]?=some o∧o.dst=some i:=by
   intro c
   induction c with
   |zero=>intro i ph _ h;rw[hE0]at h;cases h
   |succ c ih=>
     intro i ph hk h
     have hko:ops[c]?=some ops[c]:=by simp[show c<ops.size by omega]
     obtain⟨q,d,hd,he⟩:=hE' c _ oQ hko
     rw[he]at h
     by_cases e:i=d
     · subst e;exact⟨c,_,by omega,hko,hd⟩
     rw[A8 e]at h
     obtain⟨j,o,h1,h2⟩:=ih i ph oQ h
     exact⟨j,o,by omega,h2⟩
 intro fuel
 induction fuel with
 |zero=>
   intro listed a hs hc hno hk hlate hD ha hv hI
   refine hfull 0 listed a hs hc hno hk (fun i hi=>?_) ha hv hI
   have h0:listed.toList.countP (· ==false)=0:=by omega
   rw[List.countP_eq_zero]at h0
   have hlt:i<listed.size:=by omega
   have:=h0 listed[i] (by simp)
   rw[Array.getD_eq_getD_getElem?]
   simp only[hlt,Array.getElem?_eq_getElem,Option.getD_some]
   simpa using this
 |succ fuel ih=>
   intro listed a hs hc hno hk hlate hD ha hv hI
   by_cases hall:∀j,j<k→listed.getD j false=true
   · exact hfull _ listed a hs hc hno hk hall ha hv hI
   refine⟨fun hr=>?_,fun i hi=>?_⟩
   · exfalso
     simp only[Classical.not_forall]at hall
     obtain⟨j,hj,hf⟩:=hall
     obtain⟨i,hi⟩:=Mt hA (k:=k) oQ hs j hj (by simpa using hf)
     rw[hr]at hi
     cases hi
   obtain⟨o,hio,hbi,hed⟩:=(Fg hs).1 hi
   have hi':i<ops.size:=(Array.getElem?_eq_some_iff.1 hio).1
   have hlt:i<listed.size:=by omega
   have hik:i<k:=by
     rcases Nat.lt_trichotomy i k with h|h|h
     · exact h
     · subst h;rw[hk]at hbi;cases hbi
     exfalso
     by_cases e:i=k+1
     · subst e
       exact hall fun j hj=>Ns hC hD hio hed (k+1-j) j rfl oQ
     obtain⟨e',he,hb,hon⟩:=Lt hT hio (show k+1<i by omega)
     have h1:=hed e' he hb
     rw[hon,hno (i-1) oQ (by omega)]at h1
     cases h1
   obtain⟨o',x,ho',hop,hg,hfree,_⟩:=aY (hlate i hik hbi)
   rw[hio]at ho'
   cases ho'
   obtain⟨hd0,hpair⟩:=Ov hok (show i<k+1 by omega) hio
   obtain⟨ph,d,hd,hup,hopr,hEi⟩:=hE i o hik hio
   have hdn:d<n:=by obtain⟨d',h1,h2⟩:=hd0;rw[hd]at h1;cases h1;exact h2
   have hag:Ag n ds (Bk (o.looksAt ops) (E i)++base) a wp:=by
     refine⟨ha.defers,ha.size,fun t q ht=>?_⟩
     rcases C6 ht with h|h
     · obtain⟨h1,h2⟩:=Em h
       obtain⟨j,p,hj,hp,hpd⟩:=hEl _ _ _ oQ h2
       exact absurd hpd (hfree t h1 j p oQ hp)
     exact Ff hbp h (ha.val t q h)
   have hne:d≠dh:=by
     intro e
     have hko:ops[k]?=some ops[k]:=by simp[hkk]
     exact(hpair k _ oQ hko).1 oQ (by rw[hd,hdh _ hko,e])
   have hrun:∀ww,(execOp a.eval o).run P ww=.ok (.value (a.eval x)) ww:=fun ww=>by
     simp only[execOp,hop];rfl
   have h2:=hopr a wp hu hag
   have hw:Region.wanted o (yielded ops a.tmps)=true:=by simp[Region.wanted,hg]
   rw[if_pos hw]at h2
   have hval:ph.holds (a.eval x) wp:=by
     rcases h2 with⟨v,w',h3,h4,h5⟩|⟨f,args,w1,h3,_⟩
     · rw[hrun]at h3;cases h3;exact h5
     rw[hrun]at h3;cases h3
   unfold wpOpIn
   rw[hio]
   dsimp only
   rw[if_pos hw]
   refine F9 (hrun w) (ih _ _ (by simpa using hs) (Nu hlt hbi hc) ?_ ?_ ?_ (V1 hlt hio hed hD) ?_ ?_ ?_)
   · intro j hj hjs
     rw[Dj hlt,if_neg (by omega)]
     exact hno j hj hjs
   · rw[Dj hlt];split<;>first|rfl|exact hk
   · intro j hj hl
     rw[Dj hlt]at hl
     split at hl
     · cases hl
     exact hlate j hj hl
   · refine⟨by rw[hd];exact ha.defers,by rw[hd];simp[Go.Act.put,ha.size],fun t q ht=>?_⟩
     have hne':t≠d:=fun e=>hbase t q ht i o oQ hio (by rw[hd,e])
     rw[hd,Da hne']
     exact ha.val t q ht
   · rw[hd,Da (fun e=>hne e.symm)];exact hv
   intro j p d' q hjk hp hpd hEj hpl hl
   by_cases e:j=i
   · subst e
     rw[hio]at hp
     cases hp
     rw[hd]at hpd
     cases hpd
     rw[hEi]at hEj
     cases hEj
     rw[hd,Es (by rw[ha.size];exact hdn)]
     exact hpl.holds hval
   have hne':d'≠d:=fun ee=>(hpair j p oQ hp).1 (fun ee=>e ee.symm) (by rw[hd,hpd,ee])
   rw[hd,Da hne']
   rw[Dj hlt,if_neg e]at hl
   exact hI j p d' q hjk hp hpd hEj hpl hl
theorem Xt{k:Nat}{w0:World}{base:Env}{dh:Nat}{oh:Oper}{PostH:Value→World→Prop}(hok:Jb n ops (k+1)=true)(hT:Gc ops (k+1)=true)(hA:Dv ops=true)(hC:Fh ops (k+1)=true)(hL:aX ops k=true)(hkk:k<ops.size)(E:Nat→Env)(hE0:E 0=[])
   (hE:∀(i:Nat)(o:Oper),i<k→ops[i]?=some o→∃ph d,o.dst=some d∧phUp ph∧AR P n ds ops w0 (Bk (o.looksAt ops) (E i)++base) o ph∧E (i+1)=(d,ph)::E i)
   (hbp:Cj base=true)(hbase:∀i ph,lk base i=some ph→∀(j:Nat)(o:Oper),j<k+1→ops[j]?=some o→o.dst≠some i)
   (hoh:ops[k]?=some oh)(hdh:oh.dst=some dh)(hgh:oh.guard=none)
   (hH:∀a w,Up w0 w→Ag n ds (Bk (oh.looksAt ops) (E k)++base) a w→iJ P oh a w PostH)
   (hQ:∀v w a,PostH v w→Ag n ds ((dh,.eq v)::(Ek (E k)++base)) a w→wpListIn (FR R) m P ops Q (ops.toList.drop (k+1)) a w):
   ∀(fuel:Nat)(listed:Array Bool)(a:Go.Act)(w:World),listed.size=ops.size→listed.toList.countP (· ==false)≤fuel→(∀j,k≤j→j<ops.size→listed.getD j false=false)→Dn ops listed→Up w0 w→Ag n ds base a w→
     (∀(j:Nat)(o:Oper)(d:Nat)(ph:Ph),j<k→ops[j]?=some o→o.dst=some d→E (j+1)=(d,ph)::E j→listed.getD j false=true→ph.holds (a.tmps.getD d undef) w)→
     wpAnyIn (FR R) m P .any ops Q fuel listed a w:=by
 have hEl:∀c i ph,c≤k→lk (E c) i=some ph→∃j o,j<c∧ops[j]?=some o∧o.dst=some i∧E (j+1)=(i,ph)::E j:=by
   intro c
   induction c with
   |zero=>intro i ph _ h;rw[hE0]at h;cases h
   |succ c ih=>
     intro i ph hk h
     have hko:ops[c]?=some ops[c]:=by simp[show c<ops.size by omega]
     obtain⟨q,d,hd,_,_,he⟩:=hE c _ oQ hko
     rw[he]at h
     by_cases e:i=d
     · subst e
       rw[A7]at h
       cases h
       exact⟨c,_,by omega,hko,hd,he⟩
     rw[A8 e]at h
     obtain⟨j,o,h1,h2⟩:=ih i ph oQ h
     exact⟨j,o,by omega,h2⟩
 intro fuel
 induction fuel with
 |zero=>
   intro listed a w hs hc hno hD hu ha hI
   exfalso
   have h0:listed.toList.countP (· ==false)=0:=by omega
   rw[List.countP_eq_zero]at h0
   have hlt:k<listed.size:=by omega
   have:=h0 listed[k] (by simp)
   have h1:=hno k (Nat.le_refl _) hkk
   rw[Array.getD_eq_getD_getElem?]at h1
   simp only[hlt,Array.getElem?_eq_getElem,Option.getD_some]at h1
   rw[h1]at this
   simp at this
 |succ fuel ih=>
   intro listed a w hs hc hno hD hu ha hI
   refine⟨fun hr=>?_,fun i hi=>?_⟩
   · exfalso
     obtain⟨i,hi⟩:=Mt hA (k:=k+1) oQ hs k oQ (hno k (Nat.le_refl _) hkk)
     rw[hr]at hi
     cases hi
   obtain⟨o,hio,hbi,hed⟩:=(Fg hs).1 hi
   have hi':i<ops.size:=(Array.getElem?_eq_some_iff.1 hio).1
   have hlt:i<listed.size:=by omega
   have hik:i≤k:=by
     rcases Nat.lt_or_ge k i with h|h
     · exfalso
       by_cases e:i=k+1
       · subst e
         have:=Ns hC hD hio hed 1 k oQ oQ
         rw[hno k (Nat.le_refl _) hkk]at this
         cases this
       obtain⟨e',he,hb,hon⟩:=Lt hT hio (show k+1<i by omega)
       have h1:=hed e' he hb
       rw[hon,hno (i-1) oQ (by omega)]at h1
       cases h1
     exact h
   obtain⟨hd0,hpair⟩:=Ov hok (show i<k+1 by omega) hio
   by_cases hkI:i=k
   · subst hkI
     rw[hoh]at hio
     cases hio
     have hdn:dh<n:=by obtain⟨d',h1,h2⟩:=hd0;rw[hdh]at h1;cases h1;exact h2
     have hag:Ag n ds (Bk (oh.looksAt ops) (E i)++base) a w:=by
       refine⟨ha.defers,ha.size,fun t q ht=>?_⟩
       rcases C6 ht with h|h
       · obtain⟨h1,h2⟩:=Em h
         obtain⟨j,p,hj,hp,hpd,hEj⟩:=hEl _ _ _ (Nat.le_refl _) h2
         obtain⟨e,he,hbe,hon'⟩:=(hpair j p oQ hp).2 t hpd h1
         have:=hed e he hbe
         exact hI j p t q hj hp hpd hEj (by rw[←hon'];exact this)
       exact ha.val t q h
     unfold wpOpIn
     rw[hoh]
     dsimp only
     have hw:Region.wanted oh (yielded ops a.tmps)=true:=by simp[Region.wanted,hgh]
     rw[if_pos hw]
     refine Ky (hH a w hu hag) fun v w' hv=>(aZ hu hok hT hA hC hkk E hE0 hE hbp hbase (fun o' ho'=>by rw[hoh]at ho';cases ho';exact hdh) (fun a' ha'=>hQ v w' a' hv ha') fuel _ _ (by simpa using hs) (Nu hlt hbi hc) ?_ ?_ ?_ (V1 hlt hoh hed hD) ?_ ?_ ?_)
     · intro j hj hjs
       rw[Dj hlt,if_neg (by omega)]
       exact hno j oQ hjs
     · rw[Dj hlt,if_pos rfl]
     · intro j hj hl
       rw[Dj hlt,if_neg (by omega)]at hl
       cases hla:K4 ops i j with
       |true=>rfl
       |false=>
         have:=iN hL hD hoh hed (i-j) j rfl hj hla
         rw[this]at hl;cases hl
     · refine⟨by rw[hdh];exact ha.defers,by rw[hdh];simp[Go.Act.put,ha.size],fun t q ht=>?_⟩
       have hne':t≠dh:=fun e=>hbase t q ht i _ oQ hoh (by rw[hdh,e])
       rw[hdh,Da hne']
       exact Ff hbp ht (ha.val t q ht)
     · rw[hdh,Es (by rw[ha.size];exact hdn)]
     intro j p d' q hjk hp hpd hEj hpl hl
     have hne':d'≠dh:=fun ee=>(hpair j p oQ hp).1 oQ (by rw[hdh,hpd,ee])
     rw[hdh,Da hne']
     rw[Dj hlt,if_neg (by omega)]at hl
     exact hpl.holds (hI j p d' q hjk hp hpd hEj hl)
   have hik:i<k:=by omega
   obtain⟨ph,d,hd,hup,hop,hEi⟩:=hE i o hik hio
   have hdn:d<n:=by obtain⟨d',h1,h2⟩:=hd0;rw[hd]at h1;cases h1;exact h2
   have hag:Ag n ds (Bk (o.looksAt ops) (E i)++base) a w:=by
     refine⟨ha.defers,ha.size,fun t q ht=>?_⟩
     rcases C6 ht with h|h
     · obtain⟨h1,h2⟩:=Em h
       obtain⟨j,p,hj,hp,hpd,hEj⟩:=hEl _ _ _ oQ h2
       obtain⟨e,he,hbe,hon'⟩:=(hpair j p oQ hp).2 t hpd h1
       have:=hed e he hbe
       exact hI j p t q oQ hp hpd hEj (by rw[←hon'];exact this)
     exact ha.val t q h
   have step:∀v w',Up w w'→ph.holds v w'→wpAnyIn (FR R) m P .any ops Q fuel (listed.setIfInBounds i true) (a.put o.dst v) w':=by
     intro v w' hu' hv
     refine ih _ _ _ (by simpa using hs) (Nu hlt hbi hc) ?_ (V1 hlt hio hed hD) (hu.trans hu') ?_ ?_
     · intro j hj hjs
       rw[Dj hlt,if_neg (by omega)]
       exact hno j hj hjs
     · refine⟨by rw[hd];exact ha.defers,by rw[hd];simp[Go.Act.put,ha.size],fun t q ht=>?_⟩
       have hne:t≠d:=fun e=>hbase t q ht i o oQ hio (by rw[hd,e])
       rw[hd,Da hne]
       exact Ff hbp ht (ha.val t q ht)
     intro j p d' q hjk hp hpd hEj hl
     by_cases e:j=i
     · subst e
       rw[hio]at hp
       cases hp
       rw[hd]at hpd
       cases hpd
       rw[hEi]at hEj
       cases hEj
       rw[hd,Es (by rw[ha.size];exact hdn)]
       exact hv
     have hne:d'≠d:=fun ee=>(hpair j p oQ hp).1 (fun ee=>e ee.symm) (by rw[hd,hpd,ee])
     rw[hd,Da hne]
     obtain⟨q',d'',hd'',hup',_,hEj'⟩:=hE j p hjk hp
     rw[hEj]at hEj'
     cases hEj'
     rw[Dj hlt,if_neg e]at hl
     exact hup' _ _ _ (hI j p d' q hjk hp hpd hEj hl) hu'
   have h2:=hop a w hu hag
   unfold wpOpIn
   rw[hio]
   dsimp only
   by_cases hw:Region.wanted o (yielded ops a.tmps)=true
   · rw[if_pos hw]at h2⊢
     exact Ky h2 fun v w'⟨h3,h4⟩=>step v w' h3 h4
   rw[if_neg hw]at h2⊢
   exact⟨fun _ _=>trivial,step _ _ (Up.refl w) h2⟩
theorem Rg{id:Nat}{opsL:List Oper}(k:Nat){oh:Oper}{dh:Nat}(PostH:Value→World→Prop)(hm:P.follows .mixedOrders=true)(hok:Jb n opsL.toArray (k+1)=true)(hT:Gc opsL.toArray (k+1)=true)(hA:Dv opsL.toArray=true)(hC:Fh opsL.toArray (k+1)=true)(hL:aX opsL.toArray k=true)
   (hl:Cj l=true){base:Env}(hb:Dt (Q1 (opsL.take (k+1))) l=base)(hoh:opsL[k]?=some oh)(hdh:oh.dst=some dh)(hgh:oh.guard=none)
   (h:HW P n ds opsL.toArray base w [] (opsL.take k) (fun env=>(∀a w',Up w w'→Ag n ds (Bk (oh.looksAt opsL.toArray) env++base) a w'→iJ P oh a w' PostH)∧∀v w',PostH v w'→LW R m P n ds opsL.toArray Q (opsL.drop (k+1)) ((dh,.eq v)::(Ek env++base)) w')):CW R m P n ds (.region id opsL.toArray true) Q l w:=by
 intro a ha
 obtain⟨E,hE0,hK,hE⟩:=Vy _ _ h
 subst hb
 have hks:k+1≤opsL.length:=by
   unfold Jb at hok
   rw[Bool.and_eq_true]at hok
   simpa using Nat.le_of_ble_eq_true hok.1
 have hlen:(opsL.take k).length=k:=by rw[List.length_take];omega
 rw[hlen]at hK
 have hbp:Cj (Dt (Q1 (opsL.take (k+1))) l)=true:=by
   have:∀(ks:List Nat)(l:Env),Cj l=true→Cj (Dt ks l)=true:=by
     intro ks l
     induction l with
     |nil=>intro _;rfl
     |cons p l ih=>
       obtain⟨i,ph⟩:=p
       cases ph with
       |pred q=>intro h;simp[Cj]at h
       |eq v=>intro h;unfold Dt;cases Md ks i<;>simp[Cj]at h⊢ <;>exact ih h
       |cond b v=>intro h;unfold Dt;cases Md ks i<;>simp[Cj]at h⊢ <;>exact ih h
   exact this _ _ hl
 refine wpIn_region_any hm (Xt (w0:=w) (base:=Dt (Q1 (opsL.take (k+1))) l) (oh:=oh) hok hT hA hC hL (by rw[List.size_toArray];omega) E hE0 (fun i o hik ho=>hE i o (by rw[List.getElem?_take_of_lt hik];simpa using ho)) hbp ?_ (by simpa using hoh) hdh hgh hK.1 ?_ _ _ _ _ (by simp) ?_ ?_ ?_ (Up.drew w) ?_ ?_)
 · intro i ph hi j o hj ho hd
   obtain⟨h1,h2⟩:=C5 hi
   exact h1 (Q2 (by have:=List.mem_of_getElem? (l:=opsL.take (k+1)) (i:=j) (by rw[List.getElem?_take_of_lt hj];simpa using ho);exact this) hd)
 · intro v w' a' hv ha'
   exact hK.2 v w' hv a' ha'
 · have:(Array.replicate opsL.toArray.size false).toList.countP (· ==false)≤(Array.replicate opsL.toArray.size false).toList.length:=List.countP_le_length
   simpa using this
 · intro j _ _
   rw[Array.getD_eq_getD_getElem?,Array.getElem?_replicate]
   split<;>rfl
 · intro i o _ hli
   rw[Array.getD_eq_getD_getElem?,Array.getElem?_replicate]at hli
   split at hli<;>simp at hli
 · exact⟨ha.defers,ha.size,fun i ph hi=>Ff hl (C5 hi).2 (ha.val _ _ (C5 hi).2)⟩
 intro j o d ph _ ho hd _ hlj
 rw[Array.getD_eq_getD_getElem?,Array.getElem?_replicate]at hlj
 split at hlj<;>simp at hlj
theorem REv.y{o:Oper}{a:Go.Act}{Post:Value→World→Prop}(h:REv P n ds l w o Post)(ha:Ag n ds l a w):iJ P o a w Post:=.inl (h a ha)
theorem xB{o:Oper}{rest:List Oper}{Post:Value→World→Prop}(h:REv P n ds l w o Post)(hg:o.guard=none)(hd:o.dst=none)(hl:Cj l=true)
   (k:∀v w',Post v w'→LW R m P n ds ops Q rest l w'):LW R m P n ds ops Q (o::rest) l w:=fun a ha=>
 let⟨v,w',hr,hp⟩:=h a ha
 wpListIn_plain hg fun K hK=>F9 hr (hK _ _ (k v w' hp _ (by rw[hd];exact ha.world hl w')))
end
end Go.Wx
