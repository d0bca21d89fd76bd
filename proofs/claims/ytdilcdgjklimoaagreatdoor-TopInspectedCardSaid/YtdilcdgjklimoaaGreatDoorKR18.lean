import Derived.Test.YtdilcdgjklimoaaGreatDoorKR17
import Derived.Lib.Bytealg
namespace Go.Wx
open Go.RowKit
def PhU(q:Ph):Prop:=∀v w w',q.holds v w→Up w w'→q.holds v w'
theorem PhU.eq(v:Value):PhU (.eq v):=fun _ _ _ h _=>h
theorem PhU.pred{p:Value→World→Prop}(h:∀v w w',p v w→Up w w'→p v w'):PhU (.pred p):=h
def allU:List Ph→Prop
 |[]=>True
 |q::r=>PhU q∧allU r
theorem allU.at:∀{l:List Ph},allU l→∀i,PhU (l.getD i (.eq undef))
 |[],_,_=>by simpa using PhU.eq undef
 |_::_,h,0=>by simpa using h.1
 |_::_,h,i+1=>by simpa using allU.at h.2 i
section
variable {R:Option Nat}{m:Nat}{P:Program}{n:Nat}{ds:List Deferred}{Q:Exit→Go.Act→World→Prop}{l:Env}{w:World}{ops:Array Oper}
theorem Iw{id:Nat}{opsL:List Oper}(k:Nat)(phs:List Ph)(keep:List Nat)(hm:P.follows .mixedOrders=true)(hl:Cj l=true)
   (hA:Dv opsL.toArray=true)(hC:(Nat.beq k opsL.toArray.size||Fh opsL.toArray k)=true)(hF:Iu opsL.toArray k=true)(hks:Nat.ble k opsL.toArray.size=true)(hD:Gr n opsL.toArray 0 k=true)(hTl:Gc opsL.toArray k=true)
   (hfree:Jd l (opsL.take k)=true)(hph:allU phs)
   (hop:∀W,Up w.drew W→allL (fun i o=>o.guard=none∧TU P n ds (Ju opsL.toArray (fun i=>phs.getD i (.eq undef)) 0 o++l) W o (phs.getD i (.eq undef))) 0 (opsL.take k))
   (hend:∀W(g:Nat→Value),Up w.drew W→(∀i o d,i<k→opsL[i]?=some o→o.dst=some d→(phs.getD i (.eq undef)).holds (g d) W)→LW R m P n ds opsL.toArray Q (opsL.drop k) (keep.map (fun d=>(d,.eq (g d)))++l) W):
   CW R m P n ds (.region id opsL.toArray true) Q l w:=by
 have hks':k≤opsL.length:=by have:=Nat.le_of_ble_eq_true hks;simp at this;omega
 have sub:∀j o,j<k→opsL.toArray[j]?=some o→(opsL.take k)[j]?=some o:=fun j o hjk ho=>by
   rw[List.getElem?_take_of_lt hjk];simpa using ho
 have hbd:∀i ph,lk l i=some ph→∀(j:Nat)(o:Oper),0≤j→j<k→opsL.toArray[j]?=some o→o.dst≠some i:=fun i ph hi j o _ hjk ho=>Fw hfree hi (List.mem_of_getElem? (sub j o hjk ho))
 refine Ep hm hl fun fuel listed a hf hu ha=>(Ht (k:=k) (fun i=>phs.getD i (.eq undef)) Up (fun _ _ _=>True) (f0:=fun t=>a.tmps.getD t undef) Up.refl (fun _ _ _=>Up.trans) (fun i v w w' h u=>(hph.at i) v w w' h u) hA hC hF hks (by simp) hD hl hbd ?_ trivial ?_ fuel listed a hf hu ha (fun _=>rfl))
 · intro i o _ hi hio L f W hU hDn hLi hed _ a ha hsl
   have h3:=(hop W hU).at (sub i o hi hio)
   rw[Nat.zero_add]at h3
   obtain⟨hg,h3⟩:=h3
   rw[if_pos (by simp[Region.wanted,hg])]
   have done:∀v W',Up W W'∧(phs.getD i (.eq undef)).holds v W'→Up W W'∧(∀d,o.dst=some d→(phs.getD i (.eq undef)).holds v W')∧True:=fun v W' h=>⟨h.1,fun _ _=>h.2,trivial⟩
   rcases h3 a ha with⟨v,W',hr,hp⟩|⟨fn,args,w1,hr,hc⟩
   · exact .inl (.inl ⟨v,W',hr,done v W' hp⟩)
   exact .inl (.inr ⟨fn,args,w1,hr,hc.mono done⟩)
 intro f W hUp _ fuel' listed' a' hf' hu' ha' hsl'
 have key:∀i o d,i<k→opsL[i]?=some o→o.dst=some d→(phs.getD i (.eq undef)).holds (f d) W:=by
   intro i o d hik ho hd
   have ho':opsL.toArray[i]?=some o:=by simpa using ho
   have hmem:(d,phs.getD i (.eq undef))∈Hj opsL.toArray (fun i=>phs.getD i (.eq undef)) 0 k:=by
     unfold Hj
     rw[List.mem_filterMap]
     exact⟨i,List.mem_range.2 hik,by rw[if_pos (by simp),ho'];simp[hd]⟩
   obtain⟨q',hq⟩:=H3 hmem
   obtain⟨j,p,_,hjk,hp,hpd,e⟩:=E6 hq
   have:j=i:=by
     by_cases ee:j=i
     · exact ee
     exact absurd hpd ((C8 hD (Nat.zero_le _) hik ho' hd).2 j p (Nat.zero_le _) hjk ee hp)
   subst this
   have:=ha'.val d q' (Lw hq)
   rw[hsl',e]at this
   exact this
 refine Et hTl hA (opsL.toArray.size-k) k fuel' listed' a' W rfl (by simp;omega) (Nat.le_refl _) hf' hu' (hend W f hUp key a' ⟨ha'.defers,ha'.size,fun t q ht=>?_⟩)
 rcases C6 ht with h|h
 · obtain⟨d,_,he⟩:=List.mem_map.1 (J0 h)
   cases he
   exact hsl' _
 refine ha'.val t q ?_
 rw[Fb]
 · exact h
 cases hq:lk (Hj opsL.toArray (fun i=>phs.getD i (.eq undef)) 0 k) t with
 |none=>rfl
 |some q'=>
   obtain⟨j,p,_,hjk,hp,hpd,_⟩:=E6 hq
   exact absurd hpd (hbd t q h j p (Nat.zero_le _) hjk hp)
end
section
variable {P:Program}{n:Nat}{ds:List Deferred}{l:Env}{w:World}{d:Option Tmp}{ty:TypeId}{ps:String}{af:Array Edge}{g:Option (Nat×Bool)}
theorem PEv.nB{S i:Nat}{x:Operand}{fs:Array Field}{f:Field}{off:Nat}{cs:Array Value}{v:Value}(hS:P.underlying S=some (.struct fs))(hf:fs[i]?=some f)(ho:f.offset=off)(hA:∀w,(isAgg f.type).run P w=.ok false w)(hx:Val l x (.agg cs))(hv:cs[off]?=some v):
   PEv P n ds l w ⟨d,.field S x i,ty,ps,af,g⟩ v:=fun a w' ha _=>by
 refine Ci ?_
 rw[ha.ev hx]
 simp[Instr.field,run_underlying hS,Sem.run_bind,hf,asAgg,part,hA,ho,hv,Result.andThen]
theorem T0{f:FuncId}{fn:Func}(hf:P.funcs[f]?=some fn)(h1:(fn.name== "runtime.NumGoroutine")=false)(h2:fn.body.isNone=true)(h3:Extern.findNext fn=none)(h4:Extern.find fn=some Extern.BytealgCompare.compare)(a b:ByteArray)(w:World):
   (callFunc f [.string a,.string b].toArray).run P w=.ok (.value (vi (Lib.compareBytes a.data.toList b.data.toList))) w:=by
 rw[run_callFunc_extern hf h1 h2 h3 h4]
 have:=Lib.run_compareString (P:=P) a b w
 show(Sem.run P (Extern.BytealgCompare.compare #[.string a,.string b]) w).andThen _=_
 rw[this]
 rfl
end
end Go.Wx
namespace Go.Wx
def IR(p:UInt8×Bool):Array Go.Value:=#[bv p.1,.bool p.2]
theorem yL(z:Nat):Rp z≠[]:=by unfold Rp Ox;split<;>simp
theorem PEv.val{P:Program}{n:Nat}{ds:List Deferred}{l:Env}{w:World}{o:Oper}{v v':Go.Value}(h:PEv P n ds l w o v)(e:v=v'):PEv P n ds l w o v':=e▸h
theorem nC{pre:List (UInt8×Bool)}{z zz:Nat}{b:Bool}(hb:b=true↔zz<128)(h:Rp z=pre++Rp zz)(hz:b=true):pre++[(UInt8.ofNat (zz%128),b)]=Rp z:=by
 have hz1:=hb.1 hz
 rw[h,iZ hz1,Nat.mod_eq_of_lt hz1,hz]
theorem nD{pre:List (UInt8×Bool)}{z zz:Nat}{b:Bool}(hb:b=true↔zz<128)(h:Rp z=pre++Rp zz)(hz:b=false)(h64:zz<18446744073709551616):Rp z=(pre++[(UInt8.ofNat (zz%128),b)])++Rp (zz/128)∧zz/128<zz:=by
 have hz1:¬zz<128:=fun e=>by rw[hb.2 e]at hz;cases hz
 rw[h,sH hz1 h64,hz]
 exact⟨by simp,by omega⟩
theorem nE{zz:Nat}{b:Bool}(hb:b=decide ((zz:Int)<128)):b=true↔zz<128:=⟨fun h=>by have:=of_decide_eq_true (hb.symm.trans h);omega,fun h=>hb.trans (decide_eq_true oQ)⟩
theorem nG{pre:List (UInt8×Bool)}{z zz:Nat}(h:Rp z=pre++Rp zz):pre.length<10:=by
 have h1:=fM z
 have h2:=List.length_pos_iff.2 (yL zz)
 rw[h,List.length_append]at h1
 omega
theorem sO{x:UInt8×Bool}(h:(!x.2)=true):X1 x=x.1|||128:=if_neg (by simpa using h)
theorem nH{x:UInt8×Bool}(h:(!x.2)=false):X1 x=x.1:=if_pos (by simpa using h)
def yM(n:Int):Int:=if Oy n then 0 else 10
theorem sP{n:Int}(h:Oy n):encI n=(Rp (fL n)).map X1:=by rw[encI,if_pos h];rfl
theorem nJ{n:Int}(h:¬Oy n):encI n=[]:=by rw[encI,if_neg h]
theorem X4(t:List UInt8):(bJ t).length≤10+t.length:=by
 have:=Ny (t.length:Int)
 unfold bJ
 rw[List.length_append]
 omega
theorem V5(t:ByteArray):t.data.toList.length=t.size:=Array.length_toList
theorem Rs(c:List UInt8):(⟨c.toArray⟩:ByteArray).size=c.length:=by simp[ByteArray.size]
theorem sR(k:Int):∀x∈Eu k,Ez x.off=true:=by
 intro x hx
 have h:∀l∈Ro,∀y∈l,Ez y.off=true:=by decide
 unfold Eu at hx
 rw[List.getD_eq_getElem?_getD]at hx
 cases hl:Ro[k.toNat]? with
 |none=>rw[hl]at hx;simp at hx
 |some l=>rw[hl]at hx;exact h l (List.mem_of_getElem? hl) x (by simpa using hx)
theorem X5(k:Int):(Eu k).length≤16:=by
 have h:∀l∈Ro,l.length≤16:=by decide
 unfold Eu
 rw[List.getD_eq_getElem?_getD]
 cases hl:Ro[k.toNat]? with
 |none=>simp
 |some l=>exact h l (List.mem_of_getElem? hl)
def Ej(fs:List Fld)(f:Fact):List Int:=fs.map fun x=>Gk f x.off
theorem My(fs:List Fld)(f:Fact):(Ej fs f).length=fs.length:=by simp[Ej]
theorem Ps{fs:List Fld}{f:Fact}{k:Nat}{x:Fld}(h:fs[k]?=some x):(Ej fs f).take (k+1)=(Ej fs f).take k++[Gk f x.off]:=Ce (by simp[Ej,h])
def Jl(b:Bool):Int:=if b then 1 else 0
def T2(f:Fact):List Int:=f.Kind::Ej (Eu f.Kind) f
def Cm(f:Fact):List UInt8:=if Cf f then Cp (T2 f)else[]
def O0(f:Fact):List Int:=[f.Kind,f.Version,f.Day,Jl f.Gone]++Ej (fieldsOf f.Kind) f
def Hv(f:Fact):List UInt8:=Cp (O0 f)++if Gd f.Kind then bJ f.Text.data.toList else[]
def Rt(f:Fact):List UInt8:=if Cf f then Hv f else[]
def E0(a b:Fact):Bool:=Cf a&&Cf b&&(Cm a==Cm b)&&(decide (b.Version<a.Version)||(decide (a.Version=b.Version)&&decide (0<Go.Lib.compareBytes (Hv a) (Hv b))))
theorem Ew{f:Fact}(h:Cf f=true):1≤f.Kind∧f.Kind≤11:=by
 unfold Cf at h
 simp only[Bool.and_eq_true,decide_eq_true_eq]at h
 exact h.1
theorem Lz{f:Fact}(h:Cf f=true):preB f=false:=by
 unfold Cf at h
 simp only[Bool.and_eq_true]at h
 have:=h.2.1
 simp only[Bool.not_eq_true',Bool.or_eq_false_iff]at this
 exact this.1
theorem Mz{f:Fact}(h:Cf f=true):f.Text.size≤8192:=by
 have:=Lz h
 simp only[preB,Bool.or_eq_false_iff,decide_eq_false_iff_not]at this
 omega
theorem sS{f:Fact}(h:Cf f=true):Cp (T2 f)≠[]:=by
 have hk:=Ew h
 intro e
 unfold T2 Cp at e
 rw[List.flatMap_cons,List.append_eq_nil_iff]at e
 exact fO (by unfold Oy;omega) e.1
theorem fR{f:Fact}(h:Cf f=true):Hv f≠[]:=by
 have hk:=Ew h
 intro e
 unfold Hv O0 Cp at e
 rw[List.append_eq_nil_iff,List.cons_append,List.flatMap_cons,List.append_eq_nil_iff]at e
 exact fO (by unfold Oy;omega) e.1.1
theorem Uw(a b:List Int):Cp (a++b)=Cp a++Cp b:=by simp[Cp]
theorem sT(f:Fact):([]++Cp [f.Kind]).length+10*(Eu f.Kind).length≤10000:=by
 have h1:=X5 f.Kind
 have h2:=G1 [f.Kind]
 rw[List.nil_append]
 simp only[List.length_cons,List.length_nil]at h2
 omega
theorem sU(f:Fact):(Cp (T2 f)).length≤1000000000:=by
 have h1:=X5 f.Kind
 have h2:=G1 (T2 f)
 have h3:(T2 f).length=1+(Eu f.Kind).length:=by simp[T2,Ej];omega
 omega
theorem fS(b:ByteArray):∀(k i:Nat)(r:List UInt8),b.size-i=k→ByteArray.toList.loop b i r=r.reverse++b.data.toList.drop i
 |0,i,r,h=>by
   unfold ByteArray.toList.loop
   rw[if_neg oQ,List.drop_eq_nil_of_le (by rw[Array.length_toList];have:b.data.size=b.size:=rfl;omega),List.append_nil]
 |k+1,i,r,h=>by
   unfold ByteArray.toList.loop
   have hi:i<b.size:=by omega
   rw[if_pos hi,fS b k (i+1) _ (by omega)]
   have hi':i<b.data.toList.length:=by rw[Array.length_toList];exact hi
   rw[List.drop_eq_getElem_cons hi']
   have:b.get! i=b.data.toList[i]:=by
     rw[Array.getElem_toList]
     show b.data[i]! =_
     exact getElem!_pos b.data i hi
   rw[this];simp
theorem H4(b:ByteArray):b.toList=b.data.toList:=by
 unfold ByteArray.toList
 rw[fS b b.size 0 [] rfl];simp
structure ElT{α:Type}(w:World)(ad:Option Addr)(T:TypeId)(k:Nat)(enc:α→Array Value)(xs:List α):Prop where
 els:Els w ad k enc xs
 ty:∀B o,ad=some ⟨B,o,none⟩→∃cs x,w.heap[B]?=some (Obj.cells cs T x)
theorem ElT.up{α:Type}{w w':World}{ad:Option Addr}{T:TypeId}{k:Nat}{enc:α→Array Value}{xs:List α}(h:ElT w ad T k enc xs)(u:Up w w'):ElT w' ad T k enc xs:=⟨Els.up h.els u,fun B o e=>let⟨cs,x,hc⟩:=h.ty B o e;⟨cs,x,(u.block (lt_of_block hc)).trans hc⟩⟩
theorem ElT.fr{α:Type}{S:Nat→Prop}{w w':World}{ad:Option Addr}{T:TypeId}{k:Nat}{enc:α→Array Value}{xs:List α}(h:ElT w ad T k enc xs)(f:Fr S w w')(hn:∀B cs x,w.heap[B]?=some (Obj.cells cs T x)→¬S B):ElT w' ad T k enc xs:=
 ⟨h.els.fr f (fun B o e=>let⟨cs,x,hc⟩:=h.ty B o e;hn B cs x hc),fun B o e=>let⟨cs,x,hc⟩:=h.ty B o e;⟨cs,x,(f.block _ (lt_of_block hc) (hn B cs x hc)).trans hc⟩⟩
theorem sV(f:Fact):([]++Cp [f.Kind,f.Version,f.Day,Jl f.Gone]).length+10*(fieldsOf f.Kind).length≤10000:=by
 have h1:=Mw f.Kind
 have h2:=G1 [f.Kind,f.Version,f.Day,Jl f.Gone]
 rw[List.nil_append]
 simp only[List.length_cons,List.length_nil]at h2
 omega
theorem nK(f:Fact):(Cp (O0 f)).length≤200:=by
 have h1:=Mw f.Kind
 have h2:=G1 (O0 f)
 have h3:(O0 f).length=4+(fieldsOf f.Kind).length:=by simp[O0,Ej];omega
 omega
theorem fT{f:Fact}(h:Cf f=true):(Hv f).length≤9000:=by
 have h1:=nK f
 have h2:=Mz h
 unfold Hv
 rw[List.length_append]
 split
 · have:=X4 f.Text.data.toList
   rw[V5]at this
   omega
 simp;omega
theorem jF{f:Fact}(h:Gd f.Kind=true):Cp (O0 f)++bJ f.Text.data.toList=Hv f:=by rw[Hv,if_pos h]
theorem sW{f:Fact}(h:Gd f.Kind=false):Cp (O0 f)=Hv f:=by rw[Hv,if_neg (by rw[h];exact Bool.false_ne_true),List.append_nil]
def Pt(f:Fact):Int:=if Cf f then 0 else 150
theorem V6(a b:Fact):((⟨(Cm a).toArray⟩:ByteArray).toList==(⟨(Cm b).toArray⟩:ByteArray).toList)=(Cm a==Cm b):=by rw[H4,H4]
theorem X6{a b:Fact}(h:(Cf a&&Cf b)=false):false=E0 a b:=by simp[E0,h]
theorem nL{a b:Fact}(h:(!((⟨(Cm a).toArray⟩:ByteArray).toList==(⟨(Cm b).toArray⟩:ByteArray).toList))=true):false=E0 a b:=by
 rw[V6]at h
 simp only[Bool.not_eq_true']at h
 simp[E0,h]
theorem nM{a b:Fact}(ha:Cf a=true)(hb:Cf b=true)(h:(!((⟨(Cm a).toArray⟩:ByteArray).toList==(⟨(Cm b).toArray⟩:ByteArray).toList))=false)(hv:(!decide (a.Version=b.Version))=true):decide (b.Version<a.Version)=E0 a b:=by
 rw[V6]at h
 simp only[Bool.not_eq_false']at h
 have hv:a.Version≠b.Version:=by simpa using hv
 simp[E0,ha,hb,h,hv]
theorem nN{a b:Fact}(ha:Cf a=true)(hb:Cf b=true)(h:(!((⟨(Cm a).toArray⟩:ByteArray).toList==(⟨(Cm b).toArray⟩:ByteArray).toList))=false)(hv:(!decide (a.Version=b.Version))=false):decide (0<Go.Lib.compareBytes (Rt a) (Rt b))=E0 a b:=by
 rw[V6]at h
 simp only[Bool.not_eq_false']at h
 have hv:a.Version=b.Version:=by simpa using hv
 simp only[E0,ha,hb,h,hv,Rt,if_true,Bool.true_and,decide_true,Bool.and_true,Int.lt_irrefl,decide_false,Bool.false_or]
end Go.Wx
namespace Go.Proofs.YtdilcdgjklimoaaGreatDoor
open Go.Proofs.Tryz
open Go.Wx Go.RowKit
theorem bN(z:Nat)(w:World):Ret prog 197 #[vu z] w fun r w'=>(∃B,r=.func (.func 231) #[] #[.pointer (some ⟨B,0,none⟩)]∧Blk w' B #[vu z] 197∧w.heap.size≤B)∧Up w w':=by
 have hW:=Up.refl w
 refine cT 4 func197 rfl (Af (Ao (.Km (.t rfl) rfl) rfl ?_))
 rintro _ w1 ⟨B1,rfl,NB1⟩
 have eB1:=NB1.at_
 replace hW:=hW.up NB1.up
 have hB1:=NB1.blk
 refine Az (Am (Aa (U (.makeFunc (.cu rfl)) (LW.A rfl (Ai (Al (KW.q ?_)))))))
 exact⟨⟨_,rfl,hB1,by omega⟩,hW⟩
theorem X7(B1 z:Nat)(w:World)(hz:z<18446744073709551616)(hB:Blk w B1 #[vu z] 197):xE Tryz.prog 231 #[.pointer (some ⟨B1,0,none⟩)] IR (fun b=>b=B1) (fun ys=>ys=Rp z) 10 w:=by
 intro lp J w0 hUw hJZ hY hJ
 have hB1:=hB.up hUw
 refine cT 18 func231 rfl (Ae (CW.loop (σ:=List (UInt8×Bool)×Nat) (fun s w=>Rp z=s.1++Rp s.2∧s.2<18446744073709551616∧J s.1 w∧Blk w B1 #[vu s.2] 197) (fun s=>[(0,.eq (.func (.yield lp) #[] #[])),(1,.eq (.pointer (some ⟨B1,0,none⟩)))]) (fun s=>s.2) ([],z) ?_ ?_ ?_))
 ·exact⟨rfl,hz,hJ,hB1⟩
 ·exact tQ
 rintro⟨pre,zz⟩ w1 ⟨hg,h64,hJ,hB1⟩
 obtain⟨lb,hlb⟩:∃b,b=decide ((zz:Int)<128):=⟨_,rfl⟩
 refine Ae (Af (U (.lb rfl ((hB1).Ak rfl)) (U (.val (v':=.bool lb) (PEv.lss (.t rfl) (.const _)) (congrArg Go.Value.bool hlb.symm)) (LW.A rfl (Am (Af (I rfl (U (.lb rfl ((hB1).Ak rfl)) (U (.val (v':=vu (zz%128)) (Jk (.t rfl) (.const _)) (congrArg (Go.Value.int .u64) (yH h64))) (U (.val (v':=bv (UInt8.ofNat (zz%128))) (PEv.conv (k':=.u8) (by rw[underlying197];rfl) underlying5 (.t rfl)) (sJ (z:=zz%128))) (I rfl ?_)))))))))))
 have hY2:=hY pre (UInt8.ofNat (zz%128),lb) _ hJ (nG hg)
 refine LW.y (vs:=[bv (UInt8.ofNat (zz%128)),.bool lb]) (.t rfl) (.ct rfl (.cu rfl)) rfl rfl hY2 ?_
 rintro _ w2 ⟨rfl,hJ2,hkp⟩
 replace hB1:Blk w2 B1 _ _:=(hkp B1 rfl).trans hB1
 refine U (.n1 rfl) (I rfl (Ey rfl rfl (U (.po rfl (fun hp=>(by exact .cond rfl (by simp_all)))) (Ai (CW.b rfl (fun h15=>?_) (fun h15=>?_))))))
 ·refine Al (Ap (Ay (Ap (Ay (Gp rfl ⟨_,rfl,?_⟩)))))
  exact⟨_,nC (nE hlb) hg (by simpa using h15),hJ2⟩
 refine Aj (Ac (Aa (U (.lb rfl ((hB1).Ak rfl)) (U (.val (v':=vu (zz/128)) (PEv.Pr (j:=7) (.t rfl) (.const _)) (congrArg (Go.Value.int .u64) (IQ (z:=zz)))) (A9 (.store sizeOf197 (.t rfl) (.t rfl) rfl hB1 bQ) ?_)))))
 intro w3 Nw3
 replace hB1:=Nw3.blk
 replace hB1:Blk w3 B1 #[vu (zz/128)] _:=hB1
 refine LW.nil (Ad (Ar ?_))
 have hnx:=nD (nE hlb) hg (by simpa using h15) h64
 exact⟨(_,zz/128),⟨hnx.1,by dsimp only;omega,hJZ _ _ _ hJ2 Nw3.sto.fr,hB1⟩,tQ,hnx.2⟩
theorem Ru(n:Int)(w:World):Ret prog 137 #[vi n] w fun r w'=>r=.tuple #[.string ⟨(encI n).toArray⟩,vi (yM n)]∧Up w w':=by
 have hW:=Up.refl w
 obtain⟨w0,rfl,_⟩:=W0 w
 refine E4 (n:=33) func137 rfl rfl rfl (Af (Az (Az (Am (Ah ?_)))))
 cases hq1:decide (Oy n)with
 |true=>
  have hin:=of_decide_eq_true hq1
  obtain⟨hin1,hin2⟩:=hin
  have hin:Oy n:=⟨hin1,hin2⟩
  refine Aa (I rfl (U (.fa (PEv.lss (.t rfl) (.const _)) (decide_eq_false oQ)) (I rfl (Bh (I rfl (Bh (U (.fa (PEv.gtr (.t rfl) (.const _)) (decide_eq_false oQ)) (U (.po rfl (fun hp=>(by exact .tmp rfl))) (Ai (CW.f rfl (Aj (Ac (Af (Ao (.Ga zeroValue154 rfl) rfl ?_))))))))))))))
  rintro _ w1 ⟨B4,rfl,NB4⟩
  have eB4:=NB4.at_
  have zB4:=NB4.size
  replace hW:=hW.up NB4.up
  have hB4:=NB4.blk
  refine Am (Af (I rfl (U (.conv (k':=.u64) (by rw[underlying3];rfl) underlying197 (.t rfl)) (U (.fK (j:=1) (.t rfl) (.const _)) (I rfl (U (.Pr (j:=63) (.t rfl) (.const _)) (U (.conv (k':=.u64) (by rw[underlying3];rfl) underlying197 (.t rfl)) (U (.val (v':=vu (fL n)) (iY (.t rfl) (.t rfl)) (congrArg (Go.Value.int .u64) (nA hin))) (A6 (eC (.o rfl) (DT)) rfl (bN _ _) ?_)))))))))
  rintro _ w2 ⟨⟨B1,rfl,hBz,zz1⟩,uw2⟩
  have zw2:=uw2.size
  replace hW:=hW.up uw2
  replace hB4:=hB4.up uw2
  refine Ai (Ae ?_)
  obtain⟨bq,hbq⟩:∃bq,bq=w2.heap.size:=⟨_,rfl⟩
  have zBz:=hBz.lt
  refine Tz (fun b=>b=B1) (fun pre W=>Sz bq W∧∃v,Blk W B4 #[v] 154∧OwnS W bq 5 1 Qj v (pre.map X1)∧Up w0 W) (fun x=>[(5,.eq (bv x.1)),(6,.eq (.bool x.2)),(4,.eq (.pointer (some ⟨B4,0,none⟩)))]) (.t rfl) (fun args w=>EI args w) (fun W hu=>X7 B1 (fL n) W (bG hin.1 hin.2) (hBz.up hu)) (fun _=>rfl) rfl ?_ ?_ ?_ ?_ ?_ (fun _=>rfl) ?_ ?_
  ·rintro b rfl
   omega
  ·rw[←hbq]
   intro pre W W' row hs hg hr
   obtain⟨hZ,v,hB4,hO,hW⟩:=hs
   exact⟨hZ.ko (Ko.grown hg hr),v,hB4.ko (Ko.grown hg hr),hO.ko (Ko.grown hg hr),hW.ko (Ko.grown hg hr) oQ⟩
  ·intro pre W W' hs hf
   obtain⟨hZ,v,hB4,hO,hW⟩:=hs
   exact⟨hZ.sN hf,v,hB4.sN hf oQ,hO.sN hf (fun b e=>by subst e;omega),hW.sN hf (fun b e=>by subst e;omega)⟩
  ·exact⟨Nat.le_of_eq hbq,_,hB4,OwnS.nil _ _ _ _ _,hW⟩
  ·intro lp x w3
   refine bM rfl rfl (Af (LW.A rfl (Ai (Aa (LW.A rfl (LW.nil ?_))))))
   exact fun a ha=>⟨rfl,ha.sub tQ⟩
  ·rw[←hbq]
   intro lp pre x w4 hs hlt
   obtain⟨hZ,v,hB4,hO,hW⟩:=hs
   have zq:=hZ.le
   have hK:=Kf.refl bq w4
   have hI1:=Zk.refl (B:=B1) (w:=w4) oQ
   refine Ae (Ah (Af (I rfl (U (.n1 rfl) (Ai (CW.b rfl (fun h24=>?_) (fun h24=>?_)))))))
   ·refine Aa (I rfl (U (.val (v':=bv (x.1|||128)) (Kv (.t rfl) (.const _)) (congrArg (Go.Value.int .u8) EW)) (LW.A rfl (Ai (Aa (U (.lb rfl (hB4.Ak rfl)) (I rfl (Ao (.buildSlice (xs:=[_]) (enc:=Qj) (mk:=bv) underlying154 sizeOf5 zeroValue5 rfl cQ (fun _=>rfl) (fun _=>rfl) (.cu rfl) rfl) rfl ?_))))))))
    rintro _ w5 ⟨B29,cB29,rfl,NB29,yB29,xB29⟩
    have eB29:=NB29.at_
    have zB29:=NB29.size
    replace hZ:=hZ.up NB29.up
    replace hB4:=hB4.up NB29.up
    replace hO:=hO.up NB29.up
    replace hW:=hW.up NB29.up
    replace hK:=hK.up NB29.up
    replace hI1:=hI1.up NB29.up
    have hB29:=NB29.blk
    have hE29:=xB29
    refine Ao (.append (enc:=Qj) (base:=bq) (bytes:=1) (i:=Tryz.t5) underlying154 kQ rfl rfl rfl rfl cQ (fun _=>rfl) fP (.t rfl) (.t rfl) hO (Av hE29) (by simp) (by simp[maxLen];omega) (by simp;omega) oQ) rfl ?_
    rintro v30 w6 ⟨Ow6,Gw6⟩
    replace hZ:=hZ.gr Gw6 rfl
    replace hB4:=hB4.gr Gw6 oQ
    replace hW:=hW.gr Gw6 oQ
    replace hK:=hK.gr Gw6
    replace hI1:=hI1.gr Gw6 oQ
    replace hO:=Ow6
    refine A9 (.store sizeOf154 (.t rfl) (.t rfl) hO.one hB4 bQ) ?_
    intro w7 Nw7
    replace hZ:=hZ.sto Nw7.sto oQ
    replace hO:=hO.sto Nw7.sto oQ
    replace hW:=hW.sto Nw7.sto oQ
    replace hK:=hK.sto Nw7.sto (.inr (.inr ⟨_,_,hB4⟩))
    replace hI1:=hI1.sto Nw7.sto oQ
    replace hB4:=Nw7.blk
    replace hB4:Blk w7 B4 #[v30] _:=hB4
    refine LW.nil (Ad ?_)
    exact fun a ha=>⟨hK,fun b e=>by subst e;exact hI1.same,hZ,_,hB4,by rw[List.map_append,List.map_cons,List.map_nil];(rw[sO h24];exact hO),hW⟩
   refine Aj (Ac (Aa (U (.lb rfl (hB4.Ak rfl)) (I rfl (Ao (.buildSlice (xs:=[_]) (enc:=Qj) (mk:=bv) underlying154 sizeOf5 zeroValue5 rfl cQ (fun _=>rfl) (fun _=>rfl) (.cu rfl) rfl) rfl ?_)))))
   rintro _ w8 ⟨B29,cB29,rfl,NB29,yB29,xB29⟩
   have eB29:=NB29.at_
   have zB29:=NB29.size
   replace hZ:=hZ.up NB29.up
   replace hB4:=hB4.up NB29.up
   replace hO:=hO.up NB29.up
   replace hW:=hW.up NB29.up
   replace hK:=hK.up NB29.up
   replace hI1:=hI1.up NB29.up
   have hE29:=xB29
   refine Ao (.append (enc:=Qj) (base:=bq) (bytes:=1) (i:=Tryz.t5) underlying154 kQ rfl rfl rfl rfl cQ (fun _=>rfl) fP (.t rfl) (.t rfl) hO (Av hE29) (by simp) (by simp[maxLen];omega) (by simp;omega) oQ) rfl ?_
   rintro v30 w9 ⟨Ow9,Gw9⟩
   replace hZ:=hZ.gr Gw9 rfl
   replace hB4:=hB4.gr Gw9 oQ
   replace hW:=hW.gr Gw9 oQ
   replace hK:=hK.gr Gw9
   replace hI1:=hI1.gr Gw9 oQ
   replace hO:=Ow9
   refine A9 (.store sizeOf154 (.t rfl) (.t rfl) hO.one hB4 bQ) ?_
   intro w10 Nw10
   replace hZ:=hZ.sto Nw10.sto oQ
   replace hO:=hO.sto Nw10.sto oQ
   replace hW:=hW.sto Nw10.sto oQ
   replace hK:=hK.sto Nw10.sto (.inr (.inr ⟨_,_,hB4⟩))
   replace hI1:=hI1.sto Nw10.sto oQ
   replace hB4:=Nw10.blk
   replace hB4:Blk w10 B4 #[v30] _:=hB4
   refine LW.nil (Ad ?_)
   exact fun a ha=>⟨hK,fun b e=>by subst e;exact hI1.same,hZ,_,hB4,by rw[List.map_append,List.map_cons,List.map_nil];(rw[nH h24];exact hO),hW⟩
  intro D ys w11 hDb hSy hs hD
  rw[←hbq]at hDb
  obtain⟨hZ,v,hB4,hO,hW⟩:=hs
  replace hD:Ob w11 D (.deferred (some [])):=hD
  refine Ad (Ac (Af (U (.lb rfl (hB4.Ak rfl)) (U (.yI underlying154 underlying5 underlying9 (.t rfl) hO) (LW.A rfl (Az (Ai (Al (Ou hD rfl ?_)))))))))
  replace hZ:=hZ.ko (Ko.putObj (.deferred none) hD rfl hDb)
  replace hB4:=hB4.ko (Ko.putObj (.deferred none) hD rfl hDb)
  replace hO:=hO.ko (Ko.putObj (.deferred none) hD rfl hDb)
  replace hW:=hW.putObj (D:=D) (.deferred none) oQ
  refine F5 rfl rfl rfl ⟨_,rfl,?_⟩
  (rw[sP hin,yM,if_pos hin];subst hSy;exact⟨rfl,hW⟩)
 |false=>
  have hin:=of_decide_eq_false hq1
  refine Aa (I rfl (U (.lss (.t rfl) (.const _)) (I rfl (Ey rfl rfl (LW.gr rfl (fun hc=>PEv.gtr vQ (.const _)) (U (.po rfl (fun hp=>(by exact .cond rfl (by simp_all)))) (Ai (CW.b rfl (fun h12=>?_) (fun h12=>?_)))))))))
  ·refine Af (Az (Az (Ai (Al (Ap (Q7 (F5 rfl rfl rfl ⟨_,rfl,?_⟩)))))))
   (rw[nJ hin,yM,if_neg hin];exact⟨rfl,hW⟩)
  exfalso
  apply hin
  unfold Oy
  simp at h12
  omega
theorem T3(t:ByteArray)(w:World)(ht:t.size≤65536):Ret prog 161 #[.string t] w fun r w'=>r=.tuple #[.string ⟨(bJ t.data.toList).toArray⟩,vi 0]∧Up w w':=by
 have hW:=Up.refl w
 refine cT 18 func161 rfl (Af (Az (Az (Am (Af (I rfl (U (.Qz underlying9 (.t rfl)) (U (.fa (PEv.gtr (.t rfl) (.const _)) (decide_eq_false oQ)) (Ai (CW.f rfl (Aj (Ac (Af (I rfl (U (.Qz underlying9 (.t rfl)) (A6 (eC (.o rfl) (wU)) rfl (Ru _ _) ?_))))))))))))))))
 rintro _ w1 ⟨rfl,uw1⟩
 replace hW:=hW.up uw1
 refine I rfl (U (.xt rfl rfl) (U (.xt rfl rfl) (LW.A rfl (LW.A rfl (Am (Aa (I rfl (I rfl (U (.yJ (.t rfl) (.t rfl) (by rw[Rs];have:=Ny (t.size:Int);omega)) (LW.A rfl (Az (Ai (Al (F5 rfl rfl rfl ⟨_,rfl,?_⟩))))))))))))))
 refine⟨?_,hW⟩
 rw[jB,bJ,V5]
theorem T4(D:Wri)(bs:List UInt8)(w:World)(hD:(Dq 158 5 D (bs)).holds w):Ret prog 198 #[.pointer (some ⟨D.bd,0,none⟩)] w fun r w'=>r=.tuple #[]∧Stp (Dq 158 5 D (bs)) (Dq 158 5 ⟨D.bd,true,D.bf⟩ (bs)) w w':=by
 have hS:=Oz hD
 obtain⟨B,us,bf⟩:=D
 refine cT 20 func198 rfl (Ah ?_)
 cases hq0:us with
 |false=>
  subst hq0
  replace hS:Sep _ w w [Bq B #[.pointer none,bf] 158,J 5 1 Qj bf bs]:=hS
  refine Aa (I rfl (U (.nc rfl) (U (.fB 0 rfl) (U (.lb rfl (hS.b0.Ak rfl)) (U (.tr (PEv.Jy underlying153 (.t rfl)) (rfl)) (Ai (CW.v rfl (Aa (I rfl (I rfl (U (.EX (k:=1) underlying153 underlying312 kQ (.t rfl) hS.b0 (by simp)) (U (.ext (.cu rfl) (V4 func232 rfl rfl kQ kQ _)) (U (.sK (k:=2) underlying312 underlying153 kQ (.t rfl) hS.b0 kQ) (U (.nc rfl) (U (.fB 0 rfl) (A9 (.store sizeOf153 (.t rfl) (.t rfl) rfl hS.b0 bQ) ?_))))))))))))))))
  intro w1 Nw1
  replace hS:=hS.Dz 0 rfl (show Set_ _ w1 _ (#[.pointer (some ⟨B,0,none⟩),bf]) _ from Nw1)
  refine LW.nil (Dg rfl ⟨_,rfl,?_⟩)
  exact⟨rfl,J4 (rest:=[]) hS⟩
 |true=>
  subst hq0
  replace hS:Sep _ w w [Bq B #[.pointer (some ⟨B,0,none⟩),bf] 158,J 5 1 Qj bf bs]:=hS
  refine Aa (I rfl (U (.nc rfl) (U (.fB 0 rfl) (U (.lb rfl (hS.b0.Ak rfl)) (U (.fa (PEv.Jy underlying153 (.t rfl)) (rfl)) (Ai (CW.f rfl (Af (I rfl (U (.nc rfl) (U (.fB 0 rfl) (U (.lb rfl (hS.b0.Ak rfl)) (I rfl (U (.fa (X2 (k:=2) underlying153 kQ (.t rfl) (.t rfl)) (rfl)) (Ai (CW.f rfl (Aj (Dg rfl ⟨_,rfl,?_⟩))))))))))))))))))
  exact⟨rfl,J4 (rest:=[]) hS⟩
theorem P7(t:ByteArray)(D:Wri)(bs:List UInt8)(w:World)(hD:(Dq 158 5 D (bs)).holds w)(hlen:bs.length+t.size≤140737488355328):Ret prog 138 #[.pointer (some ⟨D.bd,0,none⟩),.string t] w fun r w'=>r=.tuple #[vi (t.size:Int),.nilIface]∧∃bf,Stp (Dq 158 5 D (bs)) (Dq 158 5 ⟨D.bd,true,bf⟩ (bs++t.data.toList)) w w':=by
 have hS:=Sep.cons hD (fun _ h=>h) (Sep.start _ _) (by simp)
 refine cT 19 func138 rfl (Af (Az (Az (Am (Aa (I rfl (A6 (eC (.o rfl) (DU)) rfl (T4 D bs _ (hS.get 0 rfl)) ?_)))))))
 rintro _ w1 ⟨rfl,uw1⟩
 replace hS:=hS.Dw 0 rfl uw1
 refine Am ?_
 replace hS:=Sep.unfold (Bs:=[]) (rest:=[]) hS
 replace hS:Sep _ _ _ [Bq D.bd #[.pointer (some ⟨D.bd,0,none⟩),D.bf] 158,J 5 1 Qj D.bf bs]:=hS
 refine Aa (I rfl (I rfl (U (.nc rfl) (U (.fB 1 rfl) (U (.lb rfl (hS.b0.Ak rfl)) (I rfl (Ao (.jC (i:=Tryz.t5) underlying154 underlying9 kQ rfl rfl rfl (.t rfl) (.t rfl) (hS.own 1 rfl) oQ) rfl ?_)))))))
 intro v14 w2 Gw2
 replace hS:=hS.Dw 1 rfl Gw2
 refine U (.nc rfl) (U (.fB 1 rfl) (A9 (.store sizeOf154 (.t rfl) (.t rfl) (hS.own 1 rfl).one hS.b0 bQ) ?_))
 intro w3 Nw3
 replace hS:=hS.Dz 0 rfl (show Set_ _ w3 _ (#[.pointer (some ⟨D.bd,0,none⟩),v14]) _ from Nw3)
 refine Am (Aa (I rfl (U (.Qz underlying9 (.t rfl)) (LW.A rfl (Az (Ai (Al (F5 rfl rfl rfl ⟨_,rfl,?_⟩))))))))
 exact⟨rfl,v14,J4 (rest:=[]) hS⟩
theorem bO(D:Wri)(bs:List UInt8)(w:World)(hD:(Dq 158 5 D (bs)).holds w)(hne:bs≠[])(hlen:bs.length≤1000000000):Ret prog 63 #[.pointer (some ⟨D.bd,0,none⟩)] w fun r w'=>r=.string ⟨bs.toArray⟩∧Fr (Dq 158 5 D (bs)).foot w w':=by
 have hS:=Oz hD
 obtain⟨B,us,bf⟩:=D
 obtain⟨g,cp,rfl,hcp⟩:∃g cp,bf=.slice (some ⟨g,0,none⟩) bs.length cp∧cp≠0:=by
   have h0:0<bs.length:=List.length_pos_iff.2 hne
   obtain⟨_,⟨rfl,hn⟩|⟨g,cap,cur,rfl,_,_,hc,_⟩⟩:=Rr hD
   · omega
   exact⟨g,cap,rfl,by omega⟩
 replace hS:Sep _ w w [Bq B #[(⟨B,us,.slice (some ⟨g,0,none⟩) bs.length cp⟩:Wri).ad,.slice (some ⟨g,0,none⟩) bs.length cp] 158,J 5 1 Qj (.slice (some ⟨g,0,none⟩) bs.length cp) bs]:=hS
 refine cT 14 func63 rfl (Af (Az (Am (Dh 10 kQ kQ kQ kQ kQ rfl rfl (Au (.mv rfl) (Au (.nc rfl) (Au (.fB 1 rfl) (Au (.lb rfl (hS.b0.Ak rfl)) (Au (.jD hcp (.t rfl)) (Au (.mv rfl) (Au (.nc rfl) (Au (.fB 1 rfl) (Au (.lb rfl (hS.b0.Ak rfl)) (Au (.Cw underlying154 (.t rfl)) (HW.nil ?_)))))))))))))))
 intro w1 uw1
 replace hS:=hS.up uw1
 refine Ao (.jE underlying237 kQ (.t rfl) (.t rfl) (hS.own 1 rfl) hne oQ) rfl ?_
 rintro _ w2 ⟨rfl,hF⟩
 refine LW.A rfl (Ai (Al (KW.q ?_)))
 exact⟨rfl,hS.fr.next hF (fun i hi=>.inl (bK (.inr hi)))⟩
theorem Mm(b:Nat)(t:ByteArray)(D:Wri)(bs:List UInt8)(w:World)(hD:(Dq 158 5 D (bs)).holds w)(hb:D.bd=b)(hlen:bs.length+t.size≤140737488355328):Ret prog 138 #[.pointer (some ⟨b,0,none⟩),.string t] w fun r w'=>r=.tuple #[vi (t.size:Int),.nilIface]∧∃bf,Stp (Dq 158 5 D (bs)) (Dq 158 5 ⟨b,true,bf⟩ (bs++t.data.toList)) w w':=by subst hb;exact P7 t D bs w hD hlen
theorem sX(ad:Option Addr)(cp:Nat)(l:List Int)(D:Wri)(bs:List UInt8)(w:World)(hD:(Dq 158 5 D (bs)).holds w)(hE0:Els w ad 1 A5 l)(hne:∀B o,ad=some ⟨B,o,none⟩→¬(Dq 158 5 D (bs)).foot B)(hlen:bs.length+10*l.length≤1000000000):Ret prog 59 #[.pointer (some ⟨D.bd,0,none⟩),.slice ad l.length cp] w fun r w'=>r=.tuple #[]∧∃D',D'.bd=D.bd∧Stp (Dq 158 5 D (bs)) (Dq 158 5 D' (bs++Cp l)) w w':=by
 obtain⟨w0,rfl,_⟩:=W0 w
 have hS:=Sep.cons hD (fun _ h=>h) (Sep.start _ _) (by simp)
 refine cT 25 func59 rfl (Af (I rfl (U (.Cw underlying37 (.t rfl)) (U (.move (.const _)) (Ai (Ae (A3 (σ:=Nat×Wri) (fun s w=>(s.1≤l.length)∧(s.2.bd=D.bd)∧(Sep (Dq 158 5 D (bs)).foot w0 w [Dq 158 5 s.2 (bs++Cp (l.take s.1))])) (fun s=>[(10,.eq (vi (s.1:Int)))]) ([(0,.eq _),(8,.eq _),(9,.eq _)]) (fun s=>l.length-s.1) (0,D) ?_ tQ ?_)))))))
 ·exact⟨Nat.zero_le _,rfl,by simpa[Cp]using hS⟩
 rintro⟨k,D1⟩ w1 ⟨hkk,hbd,hS⟩
 dsimp only at hkk hbd hS
 refine Af (U (.l2 rfl rfl) (Am (CW.b rfl (fun h11=>?_) (fun h11=>?_))))
 ·refine Aj (Ac (Ah (Ae (Ah ?_))))
  have hE:=hE0.fr hS.fr hne
  have hkl:k<l.length:=by simp at h11;omega
  refine Aa ?_
  obtain⟨x,hx⟩:=Aq (xs:=l) (i:=k) oQ
  obtain⟨Bx,ox,ax,hcx⟩:=hE _ x hx
  refine U (.Aw underlying37 sizeOf3 (.t rfl) (.t rfl) oQ ax) (U (.lb rfl (hcx.nth (j:=0) rfl)) (LW.A rfl (Am (Aa (I rfl (A6 (eC (.o rfl) (wU)) rfl (Ru x _) ?_))))))
  rintro _ w2 ⟨rfl,uw2⟩
  replace hS:=hS.up uw2
  refine I rfl (U (.xt rfl rfl) (U (.xt rfl rfl) (LW.A rfl (LW.A rfl (Ai (Aa (I rfl (U (.nc rfl) (U (.fB 0 rfl) (I rfl (A6 (eC (.u rfl rfl) (wV)) rfl (Mm D.bd _ D1 _ _ (hS.get 0 rfl) hbd (by rw[Rs,List.length_append];have:=Ny x;have:=G1 (l.take k);have:=List.length_take_le k l;omega)) ?_)))))))))))
  rintro _ w3 ⟨rfl,bf,uw3⟩
  replace hS:=hS.Dw 0 rfl uw3
  refine LW.nil (Ad (Ac (Aa (U (.ic rfl oQ) (I rfl (LW.nil (Ar ?_)))))))
  exact⟨(k+1,⟨D.bd,true,bf⟩),⟨by omega,rfl,by rw[bH hx,←List.append_assoc];exact hS⟩,tQ,by omega⟩
 refine A4 (Ab (Ab (An (Dg rfl ⟨_,rfl,?_⟩))))
 have hk2:l.take k=l:=List.take_of_length_le (by simp at h11;omega)
 rw[hk2]at hS
 exact⟨rfl,D1,hbd,⟨hS.fr,hS.get 0 rfl,hS.foot 0 rfl⟩⟩
theorem nO(b:Nat)(ad:Option Addr)(cp:Nat)(l:List Int)(D:Wri)(bs:List UInt8)(w:World)(hD:(Dq 158 5 D (bs)).holds w)(hb:D.bd=b)(hE0:Els w ad 1 A5 l)(hne:∀B o,ad=some ⟨B,o,none⟩→¬(Dq 158 5 D (bs)).foot B)(hlen:bs.length+10*l.length≤1000000000):Ret prog 59 #[.pointer (some ⟨b,0,none⟩),.slice ad l.length cp] w fun r w'=>r=.tuple #[]∧∃D',D'.bd=b∧Stp (Dq 158 5 D (bs)) (Dq 158 5 D' (bs++Cp l)) w w':=by subst hb;exact sX ad cp l D bs w hD hE0 hne hlen
theorem Rv(b:Nat)(D:Wri)(bs:List UInt8)(w:World)(hD:(Dq 158 5 D (bs)).holds w)(hb:D.bd=b)(hne:bs≠[])(hlen:bs.length≤1000000000):Ret prog 63 #[.pointer (some ⟨b,0,none⟩)] w fun r w'=>r=.string ⟨bs.toArray⟩∧Fr (Dq 158 5 D (bs)).foot w w':=by subst hb;exact bO D bs w hD hne hlen
theorem nP(b:Bool)(w:World):Ret prog 160 #[.bool b] w fun r w'=>r=vi (Jl b)∧Up w w':=by
 have hW:=Up.refl w
 refine cT 4 func160 rfl (Af (Az (Am (Af (I rfl (Ai (CW.b rfl (fun h3=>?_) (fun h3=>?_))))))))
 ·refine Af (Az (Ai (Al (Ap (KW.q ?_)))))
  refine⟨?_,hW⟩
  simp[Jl,h3]
 refine Aj (Ac (Af (Az (Ai (Al (KW.q ?_))))))
 refine⟨?_,hW⟩
 simp[Jl,h3]
theorem Pu(f:Fact)(ad:Option Addr)(k cp:Nat)(w:World):Ret prog 61 #[.agg f.cells,.slice ad k cp] w fun r w'=>(∃Ba Bb,r=.func (.func 139) #[] #[.pointer (some ⟨Ba,0,none⟩),.pointer (some ⟨Bb,0,none⟩)]∧Blk w' Ba #[.slice ad k cp] 162∧Blk w' Bb f.cells 74)∧Up w w':=by
 have hW:=Up.refl w
 refine cT 6 func61 rfl (Af (Ao (.bA rfl) rfl ?_))
 rintro _ w1 ⟨B2,rfl,NB2⟩
 replace hW:=hW.up NB2.up
 have hB2:=NB2.blk
 refine Ao (.Km (.t rfl) rfl) rfl ?_
 rintro _ w2 ⟨B3,rfl,NB3⟩
 replace hW:=hW.up NB3.up
 replace hB2:=hB2.up NB3.up
 have hB3:=NB3.blk
 refine Az (Am (Aa (U (.makeFunc (.ct rfl (.cu rfl))) (LW.A rfl (Ai (Al (KW.q ?_)))))))
 exact⟨⟨_,_,rfl,hB3,hB2⟩,hW⟩
theorem V7(X Y:Nat→Prop)(B3 B2:Nat)(ad:Option Addr)(cp:Nat)(l:List Fld)(f:Fact)(w:World)(hEX:∀B o,ad=some ⟨B,o,none⟩→¬X B)(hQX:¬X B3)(hFX:¬X B2)(hQ0:Blk w B3 #[.slice ad l.length cp] 162)(hF0:Blk w B2 f.cells 74)(hE0:Els w ad 3 Fld.cells l)(hlen:l.length≤1000)(hok:∀x∈l,Ez x.off=true):
   IterS Tryz.prog 139 #[.pointer (some ⟨B3,0,none⟩),.pointer (some ⟨B2,0,none⟩)] A5 X Y (fun ys=>ys=Ej l f) (fun pre=>pre<+:Ej l f) (Ej l f).length w:=by
 refine IterS.of ?_
 intro lp J Jx w0 hUw _ hY hJ
 obtain⟨Bd,hBd⟩:∃Bd,Bd=w0.heap.size:=⟨_,rfl⟩
 rw[←hBd]at hJ hY
 have hQ:=hQ0.up hUw
 have hF:=hF0.up hUw
 have hE:=Els.up hE0 hUw
 refine cT 21 func139 rfl (Af (U (.lb rfl (hQ.Ak rfl)) (U (.Cw underlying162 (.t rfl)) (U (.move (.const _)) (Ai (Ae (CW.loop (σ:=Nat) (fun s w=>s≤l.length∧Jw Bd J ((Ej l f).take s) w∧Els w ad 3 Fld.cells l∧Blk w B3 #[.slice ad l.length cp] 162∧Blk w B2 f.cells 74) (fun s=>[(0,.eq (.func (.yield lp) #[] #[])),(1,.eq (.pointer (some ⟨B3,0,none⟩))),(2,.eq (.pointer (some ⟨B2,0,none⟩))),(6,.eq (.slice ad l.length cp)),(7,.eq (vi (l.length:Int))),(8,.eq (vi (s:Int)))]) (fun s=>l.length-s) 0 ?_ ?_ ?_)))))))
 ·exact⟨Nat.zero_le _,hJ,hE,hQ,hF⟩
 ·exact tQ
 rintro k w1 ⟨hk,hJ,hE,hQ,hF⟩
 refine Af (U (.l2 rfl rfl) (Am (CW.b rfl (fun h9=>?_) (fun h9=>?_))))
 ·refine Aj (Ac (Ah (Ae (Ah ?_))))
  have hkl:k<l.length:=by simp at h9;omega
  refine Aa ?_
  obtain⟨x,hx⟩:=Aq (xs:=l) (i:=k) oQ
  obtain⟨Bx,ox,ax,hcx⟩:=hE _ x hx
  refine U (.Aw underlying162 sizeOf225 (.t rfl) (.t rfl) oQ ax) (U (.lc rfl (hcx)) (Ao (.Br zeroValue225) rfl ?_))
  rintro _ w2 ⟨B5,rfl,MB5⟩
  refine A9 (.Ca sizeOf225 rfl (.t rfl) (.t rfl) (Fld.one _) MB5.blk rfl) ?_
  intro w3 LB5
  have NB5:=MB5.set LB5
  replace hJ:=hJ.up NB5.up
  replace hE:=hE.up NB5.up
  replace hQ:=hQ.up NB5.up
  replace hF:=hF.up NB5.up
  replace hcx:=hcx.up NB5.up
  have hB5:=NB5.blk
  refine Am ?_
  have hox:=hok x (List.mem_of_getElem? hx)
  refine Aa (I rfl (U (.fB 0 rfl) (U (.lb rfl (hB5.Ak rfl)) (A6 (Db (.t rfl) (.cu rfl) (mW x.off hox)) rfl (fJ x.off _ _ hox) ?_))))
  rintro _ w4 ⟨rfl,uw4⟩
  replace hJ:=hJ.up uw4
  replace hE:=hE.up uw4
  replace hQ:=hQ.up uw4
  replace hF:=hF.up uw4
  replace hcx:=hcx.up uw4
  replace hB5:=hB5.up uw4
  refine U (.nc rfl) (U (.lb rfl (hF.Ak (Ow hox))) (LW.y (.t rfl) (.cu rfl) rfl rfl (hY _ (Gk f x.off) _ hJ (by rw[List.length_take,My];omega)) ?_))
  rintro _ w5 ⟨y,rfl,hcase⟩
  refine U (.n1 rfl) (Ai (CW.b rfl (fun h19=>?_) (fun h19=>?_)))
  ·have hy:y=false:=by simpa using h19
   subst hy
   obtain⟨_,hJx⟩:=hcase.resolve_left (by simp)
   refine Al (Ay (Ap (Ap (Ay (Gp rfl ⟨_,rfl,?_⟩)))))
   exact .inr ⟨_,by rw[←Ps hx];exact List.take_prefix _ _,hJx⟩
  have hy:y=true:=by simpa using h19
  subst hy
  obtain⟨_,hJ2,hN⟩:=hcase.resolve_right (by simp)
  replace hE:=hE.kx hN hEX
  replace hQ:=hQ.kx hN hQX
  replace hF:=hF.kx hN hFX
  rw[←Ps hx]at hJ2
  refine Aj (Ad (Ac (Aa (U (.ic rfl oQ) (I rfl (LW.nil (Ar ?_)))))))
  exact⟨k+1,⟨by omega,hJ2,hE,hQ,hF⟩,tQ,by omega⟩
 have hkk:k=l.length:=by simp at h9;omega
 refine A4 (Ab (Ab (An (Dg rfl ⟨_,rfl,?_⟩))))
 exact .inl ⟨_,rfl,by rw[hkk,←My l f,List.take_length]at hJ;exact hJ.j⟩
theorem bP(gf:Nat)(lb:Array Go.Value)(Fc:List Int)(Sp:List Int→Prop)(D:Wri)(bs:List UInt8)(w:World)(hD:(Dq 158 5 D (bs)).holds w)(en:∀args w,(callFunc gf args).run Tryz.prog w=.ok (.enter gf args) w)(hit:∀W(X:Nat→Prop),Up w W→(∀i,X i→(Dq 158 5 D (bs)).foot i∨w.heap.size≤i)→IterS Tryz.prog gf lb A5 X (fun _=>False) (fun ys=>ys=Fc) Sp Fc.length W)(hlen:bs.length+10*Fc.length≤1000000):Ret prog 60 #[.pointer (some ⟨D.bd,0,none⟩),.func (.func gf) #[] lb] w fun r w'=>r=.tuple #[]∧∃D',D'.bd=D.bd∧Stp (Dq 158 5 D (bs)) (Dq 158 5 D' (bs++Cp Fc)) w w':=by
 have hW:=Up.refl w
 obtain⟨w0,rfl,_⟩:=W0 w
 have hU0:Stp (Dq 158 5 D (bs)) (Dq 158 5 D (bs)) w0 w0:=Stp.refl hD
 refine E4 (n:=11) func60 rfl rfl rfl (Af (Ao (.Km (.t rfl) rfl) rfl ?_))
 rintro _ w1 ⟨B2,rfl,NB2⟩
 have eB2:=NB2.at_
 have zB2:=NB2.size
 replace hW:=hW.up NB2.up
 replace hU0:=hU0.up NB2.up
 have hB2:=NB2.blk
 refine Am (Aa (I rfl (Ai (Ae ?_))))
 obtain⟨bq,hbq⟩:∃bq,bq=w1.heap.size:=⟨_,rfl⟩
 refine CW.rangeFunc (fun i=>(Dq 158 5 D (bs)).foot i∨bq≤i) (fun _=>False) (fun pre W=>Sz bq W∧∃D1:Wri,D1.bd=D.bd∧Blk W B2 #[.pointer (some ⟨D.bd,0,none⟩)] 152∧Stp (Dq 158 5 D (bs)) (Dq 158 5 D1 (bs++Cp pre)) w1 W) (fun c pre W=>Sz bq W∧False) (fun x a' W=>Ag 11 [] ([(4,.eq (vi x)),(2,.eq (.pointer (some ⟨B2,0,none⟩)))]) a' W) (.t rfl) en (hit _ _ hW (fun i hi=>hi.imp id (fun h=>by omega))) (fun _=>rfl) rfl ?_ ?_ ?_ ?_ ?_ ?_ ?_ ?_
 ·rw[←hbq]
  intro pre W W' row hs hg hr
  obtain⟨hZ,D1,hbd,hB2,hUp⟩:=hs
  exact⟨hZ.ko (Ko.grown hg hr),D1,hbd,hB2.ko (Ko.grown hg hr),hUp.ko (Ko.grown hg hr) oQ⟩
 ·rw[←hbq]
  intro c pre W W' row hs hg hr
  obtain⟨hZ,hF⟩:=hs
  exact⟨hZ.ko (Ko.grown hg hr),hF⟩
 ·intro x a' u W W' row hs hg hr
  exact hs.world rfl _
 ·exact⟨Nat.le_of_eq hbq,_,rfl,hB2,by simpa[Cp]using Stp.refl hU0.holds⟩
 ·rw[←hbq]
  intro lp pre x w2 K hs hk a ha
  obtain⟨hZ,D1,hbd,hB2,hUp⟩:=hs
  have zq:=hZ.le
  have hK:=Kf.refl bq w2
  have hN:=Kx.refl bq (fun i=>(Dq 158 5 D (bs)).foot i∨bq≤i) (fun _=>False) w2
  revert a
  refine Ia (p:=6) rfl (Aa (LW.A rfl (LW.nil ?_)))
  exact fun a ha=>hk a _ hK hN ⟨hZ,D1,hbd,hB2,hUp⟩ (ha.sub tQ)
 ·rw[←hbq]
  intro lp pre x a' w3 hs hx hlt
  obtain⟨hZ,D1,hbd,hB2,hUp⟩:=hs
  have ha:=hx
  have zq:=hZ.le
  have hK:=Kf.refl bq w3
  have hN:=Kx.refl bq (fun i=>(Dq 158 5 D (bs)).foot i∨bq≤i) (fun _=>False) w3
  refine(show CW (some lp) 8 _ 11 [] _ (ownPostG bq (Kx bq (fun i=>(Dq 158 5 D (bs)).foot i∨bq≤i) (fun _=>False)) _ _ (pre++[x]) w3) ([(4,.eq (vi x)),(2,.eq (.pointer (some ⟨B2,0,none⟩)))]) w3 from ?_) a' ha
  refine Ae (Aa (U (.lb rfl (hB2.Ak rfl)) (I rfl (Ao (.buildSlice (xs:=[x]) (enc:=A5) (mk:=vi) underlying37 sizeOf3 zeroValue3 rfl cQ (fun _=>rfl) (fun _=>rfl) (.cu rfl) rfl) rfl ?_))))
  rintro _ w4 ⟨B9,cB9,rfl,NB9,yB9,xB9⟩
  replace hZ:=hZ.up NB9.up
  replace hB2:=hB2.up NB9.up
  replace hUp:=hUp.up NB9.up
  replace hK:=hK.up NB9.up
  replace hN:=hN.up NB9.up
  have hB9:=NB9.blk
  have hE9:=xB9
  refine A6 (eC (.u rfl rfl) (xW)) rfl (nO D.bd _ _ [x] D1 _ _ hUp.holds hbd hE9 (fun B o e=>by cases e;exact Iv hUp.holds hB9 rfl rfl) (by rw[List.length_append];have:=G1 pre;simp;omega)) ?_
  rintro _ w5 ⟨rfl,D2,hb2,hP2⟩
  have hWc:=bL hUp.holds
  have hXs:∀i,(Dq 158 5 D1 (bs++Cp pre)).foot i→((Dq 158 5 D (bs)).foot i∨bq≤i):=fun i hi=>(hUp.sub i hi).imp id (fun h=>by omega)
  replace hN:=hN.trans (Kx.fr (bq:=bq) (Y:=fun _=>False) hP2.fr hXs hWc)
  replace hK:=hK.trans (Kf.fr (bq:=bq) hP2.fr hWc)
  replace hB2:=hB2.fr hP2.fr (Iv hUp.holds hB2 rfl rfl)
  replace hUp:=hUp.trans hP2
  rw[List.append_assoc,jA,←bI]at hUp
  have hZ2:Sz bq w5:=Nat.le_trans hZ.le hP2.fr.size
  refine LW.nil (Ad ?_)
  exact fun a ha=>⟨hK,hN,hZ2,D2,hb2,hB2,hUp⟩
 ·intro D ys w6 hDb hS hs hD
  rw[←hbq]at hDb
  obtain⟨hZ,D1,hbd,hB2,hUp⟩:=hs
  replace hD:Ob w6 D (.deferred (some [])):=hD
  refine Ad (Ou hD rfl ?_)
  replace hZ:=hZ.ko (Ko.putObj (.deferred none) hD rfl hDb)
  replace hB2:=hB2.ko (Ko.putObj (.deferred none) hD rfl hDb)
  replace hUp:=hUp.ko (Ko.putObj (.deferred none) hD rfl hDb) oQ
  refine Gp rfl ⟨_,rfl,?_⟩
  subst hS
  exact⟨rfl,D1,hbd,hU0.trans hUp⟩
 intro D c pre w7 hDb hpre hs hD
 rw[←hbq]at hDb
 obtain⟨hZ,hF⟩:=hs
 replace hD:Ob w7 D (.deferred (some [])):=hD
 exact hF.elim
theorem Ux(b:Nat)(Ba Bb:Nat)(ad:Option Addr)(cp:Nat)(l:List Fld)(f:Fact)(D:Wri)(bs:List UInt8)(w:World)(hD:(Dq 158 5 D (bs)).holds w)(hb:D.bd=b)(hQ:Blk w Ba #[.slice ad l.length cp] 162)(hF:Blk w Bb f.cells 74)(hE:Els w ad 3 Fld.cells l)(hT:∀B o,ad=some ⟨B,o,none⟩→B<w.heap.size∧¬(Dq 158 5 D (bs)).foot B)(hlen:bs.length+10*l.length≤10000)(hok:∀x∈l,Ez x.off=true):
   Ret Tryz.prog 60 #[.pointer (some ⟨b,0,none⟩),.func (.func 139) #[] #[.pointer (some ⟨Ba,0,none⟩),.pointer (some ⟨Bb,0,none⟩)]] w fun r w'=>r=.tuple #[]∧∃D',D'.bd=b∧Stp (Dq 158 5 D (bs)) (Dq 158 5 D' (bs++Cp (Ej l f))) w w':=by
 subst hb
 refine bP 139 _ (Ej l f) (fun pre=>pre<+:Ej l f) D bs w hD CM ?_ (by rw[My];omega)
 intro W X hU hX
 refine V7 X (fun _=>False) Ba Bb ad cp l f W (fun B o e hx=>?_) (fun hx=>?_) (fun hx=>?_) (hQ.up hU) (hF.up hU) (Els.up hE hU) oQ hok
 · obtain⟨h1,h2⟩:=hT B o e
   exact(hX B hx).elim h2 (fun h=>by omega)
 · have:=hQ.lt
   exact(hX Ba hx).elim (Iv hD hQ rfl rfl) (fun h=>by omega)
 have:=hF.lt
 exact(hX Bb hx).elim (Iv hD hF rfl rfl) (fun h=>by omega)
theorem V8(f:Fact)(w:World):Ret prog 21 #[.agg f.cells] w fun r w'=>r=.string ⟨(Cm f).toArray⟩∧Up w w':=by
 obtain⟨w0,rfl,hS⟩:=W0 w
 refine cT 27 func21 rfl (Af (Ao (.bA rfl) rfl ?_))
 rintro _ w1 ⟨B1,rfl,NB1⟩
 replace hS:=hS.Cg NB1
 refine Az (Am (Ah ?_))
 cases hq1:Cf f with
 |true=>
  have hkn:=Ew hq1
  refine Aa (U (.lc rfl (hS.b0.agg)) (A6 (eC (.o rfl) (rX)) rfl (Ly f _) ?_))
  rintro _ w2 ⟨rfl,uw2⟩
  replace hS:=hS.up uw2
  refine U (.fa (PEv.n1 rfl) (by rw[hq1];rfl)) (Ai (CW.f rfl (Aj (Ac (Af (U (.build (cs:=#[.pointer none,.slice none 0 0]) underlying158 zeroValue158 K3 .nil rfl) (Ao (.bA rfl) rfl ?_)))))))
  rintro _ w3 ⟨B8,rfl,NB8⟩
  replace hS:=hS.Cg NB8
  refine LW.A rfl (Am ?_)
  replace hS:=fQ (Bs:=[_]) (e:=5) hS
  have hA0:=hS.get 1 rfl
  refine Aa (I rfl (U (.fB 0 rfl) (U (.lb rfl (hS.b0.Ak rfl)) (Ao (.buildSlice (xs:=[f.Kind]) (enc:=A5) (mk:=vi) underlying37 sizeOf3 zeroValue3 rfl cQ (fun _=>rfl) (fun _=>rfl) (.cu rfl) rfl) rfl ?_))))
  rintro _ w4 ⟨B12,cB12,rfl,NB12,yB12,xB12⟩
  have eB12:=NB12.at_
  replace hS:=hS.up NB12.up
  have hE12:=xB12
  refine A6 (eC (.u rfl rfl) (xW)) rfl (nO B8 _ _ [f.Kind] ⟨B8,false,.slice none 0 0⟩ _ _ (hS.get 1 rfl) rfl hE12 (fun B o e=>by cases e;intro hf;have:=Asr.lt _ _ hA0 _ hf;omega) (by simp)) ?_
  rintro _ w5 ⟨rfl,D1,hb1,uw5⟩
  replace hS:=hS.Dw 1 rfl uw5
  refine Am (Iw 8 [.eq (.pointer (some ⟨B8,0,none⟩)),.eq (.agg f.cells),.pred ShM,.eq (.pointer (some ⟨B1,0,none⟩)),.eq (vi f.Kind),.pred (shOf f),.pred (fun v w=>SlT 225 w v 3 Fld.cells (Eu f.Kind)),.pred (fun v w=>∃Ba Bb ad cp,v=.func (.func 139) #[] #[.pointer (some ⟨Ba,0,none⟩),.pointer (some ⟨Bb,0,none⟩)]∧Blk w Ba #[.slice ad (Eu f.Kind).length cp] 162∧Blk w Bb f.cells 74∧SlT 225 w (.slice ad (Eu f.Kind).length cp) 3 Fld.cells (Eu f.Kind))] [14,21] kQ rfl kQ kQ kQ kQ kQ kQ kQ ⟨PhU.eq _,PhU.eq _,PhU.pred fun _ _ _ h u=>ShM.Dk h u.Dk,PhU.eq _,PhU.eq _,PhU.pred fun _ _ _ h u=>ShV.Dk h u.Dk,PhU.pred fun _ _ _ h u=>SlT.F1 h u.F1,PhU.pred fun _ _ _ h u=>let⟨Ba,Bb,ad,cp,e,h1,h2,h3⟩:=h;⟨Ba,Bb,ad,cp,e,h1.up u,h2.up u,SlT.F1 h3 u.F1⟩,trivial⟩ ?_ ?_)
  ·intro W hU0
   have hU:=(Up.drew w5).trans hU0
   refine aC ⟨rfl,TU.p (.mv rfl) rfl⟩ (aC ⟨rfl,TU.p (.lc rfl ((hS.b0.up hU).agg)) rfl⟩ (aC ⟨rfl,TU.c (eC .nil (rY)) (J3 _) (fun v W1 h=>let⟨b,e,m,u⟩:=h;⟨u,b,e,m⟩)⟩ (aC ⟨rfl,TU.p (.fB 0 rfl) rfl⟩ (aC ⟨rfl,TU.p (.lb rfl ((hS.b0.up hU).Ak rfl)) rfl⟩ (aC ⟨rfl,TU.open (d:=16) rfl (by rintro _ ⟨b,rfl,kv,hI,hV,hK⟩;obtain⟨⟨k0,sv⟩,hkv,e0⟩:=List.mem_map.1 ((hK f.Kind).2 hkn);cases e0;exact TU.p (.Cx (ok:=false) underlying165 underlying3 (.t rfl) (.t rfl) hI hkv) (hV _ _ hkv))⟩ (aC ⟨rfl,TU.open (d:=19) rfl (by rintro _ ⟨v1,v2,rfl,h1,h2⟩;exact TU.p (.nB (off:=1) underlying164 rfl rfl isAgg162 (.t rfl) rfl) h2)⟩ (aC ⟨rfl,TU.open (d:=20) rfl (by rintro _ ⟨⟨ad,cp,rfl,hE⟩,hT⟩;exact TU.c (eC (.u rfl rfl) (BI)) (Pu f ad _ cp _) (fun v W1 h=>let⟨⟨Ba,Bb,e,h1,h2⟩,u⟩:=h;⟨u,Ba,Bb,ad,cp,e,h1,h2,SlT.F1 ⟨⟨ad,cp,rfl,hE⟩,hT⟩ u.F1⟩))⟩ ?_)))))))
   exact allL.nil
  intro w6 g hU0 hg
  have hU:=(Up.drew w5).trans hU0
  replace hS:=hS.up hU
  have e14:g 14=.pointer (some ⟨B8,0,none⟩):=hg 0 _ 14 cQ rfl rfl
  obtain⟨Ba,Bb,ad,cp2,e21,hBa,hBb,⟨ad1,cp1,e1,hE⟩,hT⟩:=hg 7 _ 21 cQ rfl rfl
  cases e1
  change LW _ _ _ _ _ _ _ _ ((14,.eq (g 14))::(21,.eq (g 21))::_) _
  rw[e14,e21]
  refine A6 (eC (.u rfl rfl) (BH)) rfl (Ux B8 Ba Bb ad cp2 _ f D1 _ _ (hS.get 1 rfl) hb1 hBa hBb hE (fun B o e=>by obtain⟨cs,x,hc⟩:=hT B o _ _ (by rw[e]);exact⟨lt_of_block hc,Iv (hS.get 1 rfl) hc rfl rfl⟩) (sT f) (sR f.Kind)) ?_
  rintro _ w7 ⟨rfl,D2,hb2,uw7⟩
  replace hS:=hS.Dw 1 rfl uw7
  rw[List.nil_append,←Uw]at hS
  have hKL:[f.Kind]++Ej (Eu f.Kind) f=T2 f:=rfl
  rw[hKL]at hS
  refine Am (Aa (I rfl (U (.nc rfl) (U (.fB 0 rfl) (A6 (eC (.o rfl) (xX)) rfl (Rv B8 D2 _ _ (hS.get 1 rfl) hb2 (sS hq1) (sU f)) ?_)))))
  rintro _ w8 ⟨rfl,hF⟩
  refine LW.A rfl (Ai (Al (KW.q ?_)))
  rw[Cm,if_pos hq1]
  exact⟨rfl,(hS.fr.next hF (hS.foot 1 rfl)).sA (fun _ h=>h)⟩
 |false=>
  refine Aa (U (.lc rfl (hS.b0.agg)) (A6 (eC (.o rfl) (rX)) rfl (Ly f _) ?_))
  rintro _ w9 ⟨rfl,uw9⟩
  replace hS:=hS.up uw9
  refine U (.tr (PEv.n1 rfl) (by rw[hq1];rfl)) (Ai (CW.v rfl (Af (Az (Ai (Al (Ap (KW.q ?_))))))))
  rw[Cm,if_neg (by rw[hq1];exact Bool.false_ne_true)]
  exact⟨rfl,hS.Ch⟩
theorem Rw(f:Fact)(w:World):Ret prog 64 #[.agg f.cells] w fun r w'=>r=.tuple #[.string ⟨(Rt f).toArray⟩,vi (Pt f)]∧Up w w':=by
 obtain⟨w0,rfl,hS⟩:=W0 w
 refine cT 52 func64 rfl (Af (Ao (.bA rfl) rfl ?_))
 rintro _ w1 ⟨B1,rfl,NB1⟩
 have eB1:=NB1.at_
 have zB1:=NB1.size
 replace hS:=hS.Cg NB1
 refine Az (Az (Am (Ah ?_)))
 cases hq1:Cf f with
 |true=>
  have hkn:=Ew hq1
  refine Aa (U (.lc rfl (hS.b0.agg)) (A6 (eC (.o rfl) (rX)) rfl (Ly f _) ?_))
  rintro _ w2 ⟨rfl,uw2⟩
  have zw2:=uw2.size
  replace hS:=hS.up uw2
  refine U (.fa (PEv.n1 rfl) (by rw[hq1];rfl)) (Ai (CW.f rfl (Aj (Ac (Ah ?_)))))
  have hB1T:=hS.blk 0 rfl
  have hU0:=hS.Ch
  refine CW.box 6 4 5 3 4 14 #[.slice none 0 0,.slice none 0 0,.nilFunc,.bool false] [.pred ShM,.eq (.pointer (some ⟨B1,0,none⟩)),.eq (vi f.Kind),.pred (shOf f),.pred fun v _=>∃B,v=.pointer (some ⟨B,0,none⟩),.eq undef] [] zeroValue164 sizeOf164 kQ rfl kQ kQ kQ kQ kQ kQ kQ rfl rfl ⟨_,_,_,rfl⟩ _ rfl ⟨_,_,_,rfl⟩ ⟨PhT.pred fun _ _ _ h u=>ShM.Dk h u,PhT.eq _ _,PhT.eq _ _,PhT.pred fun _ _ _ h u=>ShV.Dk h u,PhT.pred fun _ _ _ h _=>h,PhT.eq _ _,trivial⟩ rfl (fun v W h=>shOf.agg h) (fun B W=>⟨B,rfl⟩) ?_ ?_
  ·intro W hK0
   have hK:=(Up.drew w2).Dk.trans hK0
   have hB1W:=Blk.Dk hB1T (T:=164) rfl hK
   refine aC (.inr ⟨rfl,TU.c (eC .nil (rY)) (J3 _) (fun v W1 h=>let⟨b,e,m,u⟩:=h;⟨u,b,e,m⟩)⟩) (aC (.inr ⟨rfl,TU.p (.fB 0 rfl) rfl⟩) (aC (.inr ⟨rfl,TU.p (.lb rfl (hB1W.Ak rfl)) rfl⟩) (aC (.inr ⟨rfl,TU.open (d:=11) rfl (by rintro _ ⟨b,rfl,kv,hI,hV,hK⟩;obtain⟨⟨k0,sv⟩,hkv,e0⟩:=List.mem_map.1 ((hK f.Kind).2 hkn);cases e0;exact TU.p (.Cx (ok:=false) underlying165 underlying3 (.t rfl) (.t rfl) hI hkv) (hV _ _ hkv))⟩) (aC (.inl (.inl rfl)) (aC (.inl (.inr rfl)) ?_)))))
   exact allL.nil
  intro wT B4 g hU hBn hB4 hg
  have hUT:=(Up.drew _).trans hU
  obtain⟨v1,v2,e14,hs1,hs2⟩:=hg 3 _ 14 cQ rfl rfl
  rw[e14]at hB4
  obtain⟨⟨ad,cp,rfl,hE1⟩,hT0⟩:=hs1
  obtain⟨⟨ad2,cp2,rfl,hE2⟩,_⟩:=hs2
  replace hB4:Blk wT B4 #[.slice ad (fieldsOf f.Kind).length cp,.slice ad2 (Eu f.Kind).length cp2,.func (.func (Ev (G0 f.Kind))) #[] #[],.bool (Gd f.Kind)] 164:=hB4
  have hB1X:=hB1T.up hUT
  replace hU0:=hU0.trans hUT
  have hB14:B1≠B4:=fun e=>by have:=hB1T.lt;have:=(Up.drew w2).size;omega
  have zB4:w0.heap.size≤B4:=by have:=hS.size;have:=(Up.drew w2).size;omega
  have hE0:ElT wT ad 225 3 Fld.cells (fieldsOf f.Kind):=⟨hE1,fun B o e=>hT0 B o _ _ (by rw[e])⟩
  replace hS:Wx.Sep no w0 wT [Bq B1 f.cells 74,Bq B4 #[.slice ad (fieldsOf f.Kind).length cp,.slice ad2 (Eu f.Kind).length cp2,.func (.func (Ev (G0 f.Kind))) #[] #[],.bool (Gd f.Kind)] 164]:=⟨hU0.fr _,fun A hA=>by simp only[List.mem_cons,List.mem_nil_iff,or_false]at hA;rcases hA with rfl|rfl;exact⟨hB1X,hS.foot 0 rfl⟩;exact⟨hB4,fun i(e:i=B4)=>.inr oQ⟩,List.Pairwise.cons (fun A hA i(e1:i=B1)=>by simp only[List.mem_singleton]at hA;subst hA;exact fun(e2:i=B4)=>hB14 (e1.symm.trans e2)) (List.pairwise_singleton _ _)⟩
  refine Am (Aa (U (.build (cs:=#[.pointer none,.slice none 0 0]) underlying158 zeroValue158 K3 .nil rfl) (Ao (.bA rfl) rfl ?_)))
  rintro _ w3 ⟨B16,rfl,NB16⟩
  replace hE0:=hE0.up NB16.up
  replace hS:=hS.Cg NB16
  refine LW.A rfl (Am ?_)
  replace hS:=fQ (Bs:=[_,_]) (e:=5) hS
  refine Iw 11 [.eq (.pointer (some ⟨B16,0,none⟩)),.eq (.pointer (some ⟨B1,0,none⟩)),.eq (vi f.Kind),.eq (.pointer (some ⟨B1,2,none⟩)),.eq (vi f.Version),.eq (.pointer (some ⟨B1,3,none⟩)),.eq (vi f.Day),.eq (.pointer (some ⟨B1,4,none⟩)),.eq (.bool f.Gone),.eq (vi (Jl f.Gone)),.pred (fun v w=>SlT 3 w v 1 A5 [f.Kind,f.Version,f.Day,Jl f.Gone])] [17,27] kQ rfl kQ kQ kQ kQ kQ kQ kQ ⟨PhU.eq _,PhU.eq _,PhU.eq _,PhU.eq _,PhU.eq _,PhU.eq _,PhU.eq _,PhU.eq _,PhU.eq _,PhU.eq _,PhU.pred fun _ _ _ h u=>SlT.F1 h u.F1,trivial⟩ ?_ ?_
  ·intro W hU0
   have hU:=(Up.drew w3).trans hU0
   refine aC ⟨rfl,TU.p (.mv rfl) rfl⟩ (aC ⟨rfl,TU.p (.fB 0 rfl) rfl⟩ (aC ⟨rfl,TU.p (.lb rfl ((hS.b0.up hU).Ak rfl)) rfl⟩ (aC ⟨rfl,TU.p (.fB 2 rfl) rfl⟩ (aC ⟨rfl,TU.p (.lb rfl ((hS.b0.up hU).Ak rfl)) rfl⟩ (aC ⟨rfl,TU.p (.fB 3 rfl) rfl⟩ (aC ⟨rfl,TU.p (.lb rfl ((hS.b0.up hU).Ak rfl)) rfl⟩ (aC ⟨rfl,TU.p (.fB 4 rfl) rfl⟩ (aC ⟨rfl,TU.p (.lb rfl ((hS.b0.up hU).Ak rfl)) rfl⟩ (aC ⟨rfl,TU.c (eC (.o rfl) (DD)) (nP f.Gone _) sQ⟩ (aC ⟨rfl,TU.r (REv.buildSlice (xs:=[f.Kind,f.Version,f.Day,Jl f.Gone]) (enc:=A5) (mk:=vi) underlying37 sizeOf3 zeroValue3 rfl cQ (fun _=>rfl) (fun _=>rfl) (.ct rfl (.ct rfl (.ct rfl (.cu rfl)))) rfl) (by rintro _ W1 ⟨B,c,rfl,N,y,x⟩;exact⟨N.up,SlT.lit ⟨B,c,rfl,N,y,x⟩⟩)⟩ ?_))))))))))
   exact allL.nil
  intro w4 g hU0 hg
  have hU:=(Up.drew w3).trans hU0
  replace hS:=hS.up hU
  replace hE0:=hE0.up hU
  have e17:g 17=.pointer (some ⟨B16,0,none⟩):=hg 0 _ 17 cQ rfl rfl
  obtain⟨⟨ad3,cp3,e27,hE27⟩,hT27⟩:=hg 10 _ 27 cQ rfl rfl
  change LW _ _ _ _ _ _ _ _ ((17,.eq (g 17))::(27,.eq (g 27))::_) _
  rw[e17,e27]
  have hA0:=hS.get 2 rfl
  refine A6 (eC (.u rfl rfl) (xW)) rfl (nO B16 ad3 cp3 [f.Kind,f.Version,f.Day,Jl f.Gone] ⟨B16,false,.slice none 0 0⟩ _ _ (hS.get 2 rfl) rfl hE27 (fun B o e=>by obtain⟨cs,x,hc⟩:=hT27 B o _ _ (by rw[e27,e]);exact Iv hA0 hc rfl rfl) (by simp)) ?_
  rintro _ w5 ⟨rfl,D1,hb1,uw5⟩
  replace hS:=hS.Dw 2 rfl uw5
  replace hE0:=hE0.fr uw5.fr (fun B cs x hc=>Iv hA0 hc rfl rfl)
  refine Am (Aa (I rfl (U (.lc rfl (hS.b0.agg)) (U (.fB 0 rfl) (U (.lb rfl (hS.b1.Ak rfl)) (A6 (eC (.u rfl rfl) (BI)) rfl (Pu f ad _ cp _) ?_))))))
  rintro _ w6 ⟨⟨Ba,Bb,rfl,hBa,hBb⟩,uw6⟩
  replace hS:=hS.up uw6
  replace hE0:=hE0.up uw6
  refine A6 (eC (.u rfl rfl) (BH)) rfl (Ux B16 Ba Bb ad cp _ f D1 _ _ (hS.get 2 rfl) hb1 hBa hBb hE0.els (fun B o e=>by obtain⟨cs,x,hc⟩:=hE0.ty B o e;exact⟨lt_of_block hc,Iv (hS.get 2 rfl) hc rfl rfl⟩) (sV f) (Uo f.Kind)) ?_
  rintro _ w7 ⟨rfl,D2,hb2,uw7⟩
  replace hS:=hS.Dw 2 rfl uw7
  rw[List.nil_append,←Uw]at hS
  have hKL:[f.Kind,f.Version,f.Day,Jl f.Gone]++Ej (fieldsOf f.Kind) f=O0 f:=rfl
  rw[hKL]at hS
  refine Am (Af (U (.fB 3 rfl) (U (.lb rfl (hS.b1.Ak rfl)) (Ai (CW.b rfl (fun h36=>?_) (fun h36=>?_))))))
  ·replace h36:=dQ h36
   refine Af (U (.fB 18 rfl) (U (.lb rfl (hS.b0.Ak rfl)) (A6 (eC (.o rfl) (DE)) rfl (T3 f.Text _ (by have:=Mz hq1;omega)) ?_)))
   rintro _ w8 ⟨rfl,uw8⟩
   replace hS:=hS.up uw8
   refine I rfl (U (.xt rfl rfl) (U (.xt rfl rfl) (LW.A rfl (LW.A rfl (Ai (Aa (I rfl (U (.nc rfl) (U (.fB 0 rfl) (I rfl (A6 (eC (.u rfl rfl) (wV)) rfl (Mm B16 _ D2 _ _ (hS.get 2 rfl) hb2 (by rw[Rs];have:=X4 f.Text.data.toList;rw[V5]at this;have:=Mz hq1;have:=nK f;omega)) ?_)))))))))))
   rintro _ w9 ⟨rfl,bf,uw9⟩
   replace hS:=hS.Dw 2 rfl uw9
   refine Am ?_
   obtain⟨D3,hb3,hS3⟩:∃D3:Wri,D3.bd=B16∧Wx.Sep no w0 w9 [Bq B1 f.cells 74,Bq B4 #[.slice ad (fieldsOf f.Kind).length cp,.slice ad2 (Eu f.Kind).length cp2,.func (.func (Ev (G0 f.Kind))) #[] #[],.bool (Gd f.Kind)] 164,Dq 158 5 D3 (Hv f)]:=by exact⟨⟨B16,true,bf⟩,rfl,by rw[←jF (decide_eq_true h36)];exact hS⟩
   replace hS:=hS3
   refine Aa (I rfl (U (.nc rfl) (U (.fB 0 rfl) (A6 (eC (.o rfl) (xX)) rfl (Rv B16 D3 _ _ (hS.get 2 rfl) hb3 (fR hq1) (by have:=fT hq1;omega)) ?_))))
   rintro _ w10 ⟨rfl,hF⟩
   refine LW.A rfl (Az (Ai (Al (F5 rfl rfl rfl ⟨_,rfl,?_⟩))))
   rw[Rt,Pt,if_pos hq1,if_pos hq1]
   exact⟨rfl,(hS.fr.next hF (hS.foot 2 rfl)).sA (fun _ h=>h)⟩
  replace h36:=dQ h36
  refine Aj (Ac (Ah ?_))
  obtain⟨D3,hb3,hS3⟩:∃D3:Wri,D3.bd=B16∧Wx.Sep no w0 w7 [Bq B1 f.cells 74,Bq B4 #[.slice ad (fieldsOf f.Kind).length cp,.slice ad2 (Eu f.Kind).length cp2,.func (.func (Ev (G0 f.Kind))) #[] #[],.bool (Gd f.Kind)] 164,Dq 158 5 D3 (Hv f)]:=by exact⟨D2,hb2,by rw[←sW (decide_eq_false h36)];exact hS⟩
  replace hS:=hS3
  refine Aa (I rfl (U (.nc rfl) (U (.fB 0 rfl) (A6 (eC (.o rfl) (xX)) rfl (Rv B16 D3 _ _ (hS.get 2 rfl) hb3 (fR hq1) (by have:=fT hq1;omega)) ?_))))
  rintro _ w11 ⟨rfl,hF⟩
  refine LW.A rfl (Az (Ai (Al (F5 rfl rfl rfl ⟨_,rfl,?_⟩))))
  rw[Rt,Pt,if_pos hq1,if_pos hq1]
  exact⟨rfl,(hS.fr.next hF (hS.foot 2 rfl)).sA (fun _ h=>h)⟩
 |false=>
  refine Aa (U (.lc rfl (hS.b0.agg)) (A6 (eC (.o rfl) (rX)) rfl (Ly f _) ?_))
  rintro _ w12 ⟨rfl,uw12⟩
  replace hS:=hS.up uw12
  refine U (.tr (PEv.n1 rfl) (by rw[hq1];rfl)) (Ai (CW.v rfl (Af (Az (Az (Ai (Al (Ap (F5 rfl rfl rfl ⟨_,rfl,?_⟩)))))))))
  rw[Rt,Pt,if_neg (by rw[hq1];exact Bool.false_ne_true),if_neg (by rw[hq1];exact Bool.false_ne_true)]
  exact⟨rfl,hS.Ch⟩
theorem N0(a b:ByteArray)(w:World):Ret prog 162 #[.string a,.string b] w fun r w'=>r=vi (Go.Lib.compareBytes a.data.toList b.data.toList)∧Up w w':=by
 have hW:=Up.refl w
 refine cT 8 func162 rfl (Af (Az (Am (Aa (I rfl (I rfl (U (.ext (.ct rfl (.cu rfl)) (T0 func201 rfl rfl kQ kQ _ _)) (LW.A rfl (Ai (Al (KW.q ?_)))))))))))
 exact⟨rfl,hW⟩
theorem X8(a b:ByteArray)(w:World):Ret prog 65 #[.string a,.string b] w fun r w'=>r=vi (Go.Lib.compareBytes a.data.toList b.data.toList)∧Up w w':=by
 have hW:=Up.refl w
 refine cT 8 func65 rfl (Af (Az (Am (Aa (I rfl (I rfl (A6 (eC (.u rfl rfl) (DF)) rfl (N0 a b _) ?_)))))))
 rintro _ w1 ⟨rfl,uw1⟩
 replace hW:=hW.up uw1
 refine LW.A rfl (Ai (Al (KW.q ?_)))
 exact⟨rfl,hW⟩
theorem V9(a b:Fact)(w:World):Ret prog 22 #[.agg a.cells,.agg b.cells] w fun r w'=>r=.bool (E0 a b)∧Up w w':=by
 have hW:=Up.refl w
 refine cT 44 func22 rfl (Af (Ao (.bA rfl) rfl ?_))
 rintro _ w1 ⟨B2,rfl,NB2⟩
 replace hW:=hW.up NB2.up
 have hB2:=NB2.blk
 refine Ao (.bA rfl) rfl ?_
 rintro _ w2 ⟨B3,rfl,NB3⟩
 replace hW:=hW.up NB3.up
 replace hB2:=hB2.up NB3.up
 have hB3:=NB3.blk
 refine Az (Am (Aa (U (.lc rfl (hB2.agg)) (A6 (eC (.o rfl) (BL)) rfl (Rw a _) ?_))))
 rintro _ w3 ⟨rfl,uw3⟩
 replace hW:=hW.up uw3
 replace hB2:=hB2.up uw3
 replace hB3:=hB3.up uw3
 refine I rfl (U (.xt rfl rfl) (U (.xt rfl rfl) (LW.A rfl (LW.A rfl (Am (Aa (U (.lc rfl (hB3.agg)) (A6 (eC (.o rfl) (BL)) rfl (Rw b _) ?_))))))))
 rintro _ w4 ⟨rfl,uw4⟩
 replace hW:=hW.up uw4
 replace hB2:=hB2.up uw4
 replace hB3:=hB3.up uw4
 refine I rfl (U (.xt rfl rfl) (U (.xt rfl rfl) (LW.A rfl (LW.A rfl (Am (Ae (Ah (Ah ?_))))))))
 cases hq3:Cf a with
 |false=>
  refine Aa (I rfl (U (.tr (PEv.neq (.t rfl) (.const _)) (by rw[Pt,if_neg (by rw[hq3];exact Bool.false_ne_true)];rfl)) (LW.A rfl (Ai (CW.v rfl (Aj (Ac (CW.v rfl (Af (Az (Ai (Al (Ay (Ap (KW.q ?_)))))))))))))))
  refine⟨congrArg Go.Value.bool ?_,hW⟩
  exact X6 (by rw[hq3];rfl)
 |true=>
  refine Aa (I rfl (U (.fa (PEv.neq (.t rfl) (.const _)) (by rw[Pt,if_pos hq3];rfl)) (LW.A rfl (Ai (CW.f rfl (Ah ?_))))))
  cases hq4:Cf b with
  |false=>
   refine Aa (I rfl (U (.tr (PEv.neq (.t rfl) (.const _)) (by rw[Pt,if_neg (by rw[hq4];exact Bool.false_ne_true)];rfl)) (LW.A rfl (Ai (CW.v rfl (Aj (Ac (CW.v rfl (Af (Az (Ai (Al (Ay (Ap (KW.q ?_)))))))))))))))
   refine⟨congrArg Go.Value.bool ?_,hW⟩
   exact X6 (by rw[hq3,hq4];rfl)
  |true=>
   refine Aa (I rfl (U (.fa (PEv.neq (.t rfl) (.const _)) (by rw[Pt,if_pos hq4];rfl)) (LW.A rfl (Ai (CW.f rfl (Ea kQ kQ rfl rfl (Au (.lc rfl (hB2.agg)) (HW.c (fun a w _ ha=>Ct (.cu rfl) (xR) a ha) rfl rfl (fun w hu=>V8 a w) (Au (.lc rfl (hB3.agg)) (HW.c (fun a w _ ha=>Ct (.cu rfl) (xR) a ha) rfl rfl (fun w hu=>V8 b w) (Au (.yA (.t rfl) (.t rfl)) (Au (.assign (.t rfl)) (HW.nil ?_)))))))))))))
   intro w5 uw5
   replace hW:=hW.up uw5
   replace hB2:=hB2.up uw5
   replace hB3:=hB3.up uw5
   refine Ac (CW.b rfl (fun h19=>?_) (fun h19=>?_))
   ·refine Af (Az (Ai (Al (Ay (Ap (KW.q ?_))))))
    refine⟨congrArg Go.Value.bool ?_,hW⟩
    exact nL h19
   refine Af (U (.fB 2 rfl) (U (.lb rfl (hB2.Ak rfl)) (U (.fB 2 rfl) (U (.lb rfl (hB3.Ak rfl)) (U (.neq (.t rfl) (.t rfl)) (LW.A rfl (Ai (CW.b rfl (fun h29=>?_) (fun h29=>?_)))))))))
   ·refine Af (U (.fB 2 rfl) (U (.lb rfl (hB2.Ak rfl)) (U (.fB 2 rfl) (U (.lb rfl (hB3.Ak rfl)) (U (.gtr (.t rfl) (.t rfl)) (LW.A rfl (Ai (Al (Ay (Ap (KW.q ?_)))))))))))
    refine⟨congrArg Go.Value.bool ?_,hW⟩
    exact nM hq3 hq4 h19 h29
   refine Aj (Ad (Ac (Af (I rfl (I rfl (A6 (eC (.u rfl rfl) (HJ)) rfl (X8 _ _ _) ?_))))))
   rintro _ w6 ⟨rfl,uw6⟩
   replace hW:=hW.up uw6
   replace hB2:=hB2.up uw6
   replace hB3:=hB3.up uw6
   refine U (.gtr (.t rfl) (.const _)) (LW.A rfl (Ai (Al (KW.q ?_))))
   refine⟨congrArg Go.Value.bool ?_,hW⟩
   exact nN hq3 hq4 h19 h29
end Go.Proofs.YtdilcdgjklimoaaGreatDoor
namespace Go.Wx
open Go.RowKit
theorem Wa{d d':Nat}{p q:Op}{t t':TypeId}{s s':String}{a a':Array Edge}{g g':Option (Nat×Bool)}(h:some (⟨some d,p,t,s,a,g⟩:Oper)=some ⟨some d',q,t',s',a',g'⟩):d=d':=by
 injection h with h
 injection h with h
 injection h
theorem EY{d d':Option Nat}{x x':Operand}{y y':Nat}{T T' t t':TypeId}{s s':String}{a a':Array Edge}{g g':Option (Nat×Bool)}(h:some (⟨d,.store T x (.tmp y),t,s,a,g⟩:Oper)=some ⟨d',.store T' x' (.tmp y'),t',s',a',g'⟩):y=y':=by
 injection h with h
 injection h with _ h
 injection h with _ _ h
 injection h
structure Bv where
 ia:Nat
 is:Nat
 isv:Nat
 sa:Nat
 sv:Nat
def Hp(v:Value)(B:Nat):Prop:=v=.pointer (some ⟨B,0,none⟩)
section
variable {R:Option Nat}{m:Nat}{P:Program}{n:Nat}{ds:List Deferred}{Q:Exit→Go.Act→World→Prop}{l:Env}{w:World}{ops:Array Oper}
def EZ(bs:List Bv)(T:TypeId)(z:Array Value)(w0:World)(L:Nat→Bool)(f:Nat→Value)(W:World):Prop:=
 Up w0 W∧(∀b∈bs,(L b.is=true→L b.ia=true)∧(L b.ia=true→∃B,Hp (f b.sa) B∧w0.heap.size≤B∧Blk W B (if L b.is=true then(f b.sv).cells else z) T))∧
   bs.Pairwise fun b c=>L b.ia=true→L c.ia=true→∀B,Hp (f b.sa) B→¬Hp (f c.sa) B
def bR(bs:List Bv):Bool:=bs.all fun b=>bs.all fun c=>(!Nat.beq b.ia c.is)&&((Nat.beq b.ia c.ia&&Nat.beq b.is c.is)||(!Nat.beq b.ia c.ia&& !Nat.beq b.is c.is&& !Nat.beq b.sa c.sa))
theorem Jm{bs:List Bv}(h:bR bs=true){b c:Bv}(hb:b∈bs)(hc:c∈bs):b.ia≠c.is∧((b.ia=c.ia∧b.is=c.is)∨(b.ia≠c.ia∧b.is≠c.is∧b.sa≠c.sa)):=by
 have h1:=List.all_eq_true.1 (List.all_eq_true.1 h b hb) c hc
 simp only[Bool.and_eq_true,Bool.or_eq_true,Bool.not_eq_true']at h1
 refine⟨fun e=>?_,?_⟩
 · have:=h1.1;rw[e]at this;simp at this
 rcases h1.2 with⟨a,b⟩|⟨⟨a,b⟩,c⟩
 · exact .inl ⟨Nat.eq_of_beq_eq_true a,Nat.eq_of_beq_eq_true b⟩
 exact .inr ⟨fun e=>by rw[e]at a;simp at a,fun e=>by rw[e]at b;simp at b,fun e=>by rw[e]at c;simp at c⟩
theorem AWF.vars{k:Nat}{bs:List Bv}{T:TypeId}{z:Array Value}{base:Env}(ph:Nat→Ph){f0:Nat→Value}(hz:∀w,(zeroValue T).run P w=.ok (.agg z) w)(hs:∀w,(sizeOf T).run P w=.ok z.size w)
   (hph:∀i v w w',(ph i).holds v w→KeepT T w w'→(ph i).holds v w')(hA:Dv ops=true)(hC:(Nat.beq k ops.size||Fh ops k)=true)(hF:Iu ops k=true)(hks:Nat.ble k ops.size=true)
   (hD:Gr n ops 0 k=true)(hbp:Cj base=true)(hbd:∀i ph,lk base i=some ph→∀(j:Nat)(o:Oper),0≤j→j<k→ops[j]?=some o→o.dst≠some i)(hv:bR bs=true)(hnd:bs.Pairwise fun b c=>b.ia≠c.ia)
   (hlit:∀b∈bs,Rk ops b.ia [(b.is,0,b.sv)]=true)(hk:∀b∈bs,b.is<k∧b.ia<k)
   (hia:∀b∈bs,∃ty ps af,ops[b.ia]?=some ⟨some b.sa,.alloc T,ty,ps,af,none⟩)(his:∀b∈bs,∃ty ps af,ops[b.is]?=some ⟨none,.store T (.tmp b.sa) (.tmp b.sv),ty,ps,af,none⟩)
   (hlk:∀b∈bs,∀o,ops[b.is]?=some o→lk (Ju ops ph 0 o++base) b.sv=some (ph b.isv))(hsv:∀b∈bs,∀v W,(ph b.isv).holds v W→∃cs,v=.agg cs∧cs.size=z.size∧cs.all (·.oneCell')=true)
   (hpa:∀b∈bs,∀B W,(ph b.ia).holds (.pointer (some ⟨B,0,none⟩)) W)
   (hop:∀i o,i<k→(∀b∈bs,i≠b.ia∧i≠b.is)→ops[i]?=some o→o.guard=none∧∀W,KeepT T w W→∀a,Ag n ds (Ju ops ph 0 o++base) a W→iJ P o a W (fun v W'=>Up W W'∧(ph i).holds v W'))
   (hend:∀f W,Up w W→(∀b∈bs,∃B,Hp (f b.sa) B∧w.heap.size≤B∧Blk W B (f b.sv).cells T)→(bs.Pairwise fun b c=>∀B,Hp (f b.sa) B→¬Hp (f c.sa) B)→AWF R m P n ds ops Q k (Hj ops ph 0 k++base) f W):AWF R m P n ds ops Q 0 base f0 w:=by
 have ptr1:∀{v:Value}{B B':Nat},Hp v B→Hp v B'→B=B':=fun h1 h2=>by unfold Hp at h1 h2;rw[h1]at h2;cases h2;rfl
 refine Ht ph (KeepT T) (EZ bs T z w) (KeepT.refl T) (fun _ _ _=>KeepT.trans) hph hA hC hF hks (by simp) hD hbp hbd ?_ ⟨Up.refl w,fun b hb=>⟨fun h=>by simp at h,fun h=>by simp at h⟩,List.pairwise_iff_forall_sublist.2 fun _ h=>by simp at h⟩ ?_
 · intro i o _ hi hio L f W hRel hDn hLi hed hInv
   obtain⟨hUp,hB,hP⟩:=hInv
   -- slots of addresses are written by their allocs alone
   have saOf:∀c∈bs,c.ia≠i→o.dst≠some c.sa:=fun c hc hne ed=>by
     obtain⟨ty,ps,af,h⟩:=hia c hc
     exact(C8 hD (Nat.zero_le _) hi hio ed).2 c.ia _ (Nat.zero_le _) (hk c hc).2 hne h rfl
   have svOf:∀c∈bs,L c.is=true→o.dst≠some c.sv:=fun c hc hLs ed=>by
     obtain⟨os,hos,hods,⟨e,he,hbe,hon⟩,⟨e',he',hbe',pv,hpv,hpvd⟩⟩:=Hb (hlit c hc) List.mem_cons_self
     have h2:=hDn _ _ hos hLs e' he' hbe'
     have h3:=Di hA hos e' he' hbe'
     have h4:=(hk c hc).1
     by_cases ee:e'.on=i
     · rw[ee,hLi]at h2;cases h2
     exact(C8 hD (Nat.zero_le _) hi hio ed).2 e'.on pv (Nat.zero_le _) (by have h3':e'.on<c.is:=h3;omega) ee hpv hpvd
   by_cases e0:∃b∈bs,i=b.ia
   · obtain⟨b,hb,rfl⟩:=e0
     obtain⟨ty,ps,af,hia0⟩:=hia b hb
     rw[hio]at hia0;cases hia0
     intro a ha hsl
     rw[if_pos (by simp[Region.wanted])]
     obtain⟨v,W',hr,B,rfl,N⟩:=REv.Br (P:=P) (n:=n) (ds:=ds) (l:=Ju ops ph 0 _++base) (w:=W) (d:=some b.sa) (ty:=ty) (ps:=ps) (af:=af) (g:=none) hz a ha
     have hLs:L b.is=false:=by
       cases h:L b.is with
       |false=>rfl
       |true=>rw[(hB b hb).1 h]at hLi;cases hLi
     have ne:∀c∈bs,c.is≠b.ia:=fun c hc=>Ne.symm (Jm hv hb hc).1
     have old:∀c∈bs,c.ia≠b.ia→Cq L b.ia c.ia=L c.ia∧D0 f (some b.sa) (.pointer (some ⟨B,0,none⟩)) c.sa=f c.sa:=fun c hc hne=>by
       have h1:b.sa≠c.sa:=by
         rcases(Jm hv hb hc).2 with⟨h,_⟩|⟨_,_,h⟩
         · exact absurd h.symm hne
         exact h
       exact⟨by simp[Cq,hne],by simp[D0,h1]⟩
     refine .inl (.inl ⟨_,W',hr,N.up.Dk,fun _ _=>hpa b hb B W',hUp.trans N.up,fun c hc=>?_,?_⟩)
     · have ns:Cq L b.ia c.is=L c.is:=by simp[Cq,ne c hc]
       by_cases hcb:c.ia=b.ia
       · have hsa:c.sa=b.sa:=by
           obtain⟨_,_,_,h⟩:=hia c hc
           rw[hcb,hio]at h;exact(Wa h).symm
         have his':c.is=b.is:=by
           rcases(Jm hv hc hb).2 with⟨_,h⟩|⟨h,_⟩
           · exact h
           exact absurd hcb h
         refine⟨fun _=>by rw[hcb];simp[Cq],fun _=>⟨B,by rw[hsa];simp[Hp,D0],by rw[N.at_];exact hUp.size,?_⟩⟩
         rw[ns,his',hLs]
         exact N.blk
       obtain⟨o1,o2⟩:=old c hc hcb
       refine⟨fun h=>by rw[o1];rw[ns]at h;exact(hB c hc).1 h,fun h=>?_⟩
       rw[o1]at h
       obtain⟨B',h1,h2,h3⟩:=(hB c hc).2 h
       refine⟨B',by rw[o2];exact h1,h2,?_⟩
       rw[ns]
       cases hLc:L c.is with
       |false=>rw[hLc]at h3;exact h3.up N.up
       |true=>
         rw[hLc]at h3
         have h4:D0 f (some b.sa) (.pointer (some ⟨B,0,none⟩)) c.sv=f c.sv:=by
           have h5:=svOf c hc hLc
           have h6:b.sa≠c.sv:=fun e=>h5 (by rw[e])
           simp[D0,h6]
         rw[h4]
         exact h3.up N.up
     refine List.Pairwise.imp_of_mem ?_ (hnd.and hP)
     rintro c c' hc hc' ⟨hne,hp⟩ h1 h2 X hx hx'
     by_cases ec:c.ia=b.ia
     · have ec':c'.ia≠b.ia:=fun e=>hne (ec.trans e.symm)
       obtain⟨q1,q2⟩:=old c' hc' ec'
       rw[q1]at h2;rw[q2]at hx'
       obtain⟨B',h3,_,h5⟩:=(hB c' hc').2 h2
       have hsa:c.sa=b.sa:=by
         obtain⟨_,_,_,h⟩:=hia c hc
         rw[ec,hio]at h;exact(Wa h).symm
       have hxB:X=B:=ptr1 hx (by rw[hsa];simp[Hp,D0])
       have:=ptr1 hx' h3
       have h6:=h5.lt
       rw[N.at_]at hxB
       omega
     obtain⟨q1,q2⟩:=old c hc ec
     rw[q1]at h1;rw[q2]at hx
     by_cases ec':c'.ia=b.ia
     · obtain⟨B',h3,_,h5⟩:=(hB c hc).2 h1
       have hsa:c'.sa=b.sa:=by
         obtain⟨_,_,_,h⟩:=hia c' hc'
         rw[ec',hio]at h;exact(Wa h).symm
       have hxB:X=B:=ptr1 hx' (by rw[hsa];simp[Hp,D0])
       have:=ptr1 hx h3
       have h6:=h5.lt
       rw[N.at_]at hxB
       omega
     obtain⟨q1',q2'⟩:=old c' hc' ec'
     rw[q1']at h2;rw[q2']at hx'
     exact hp h1 h2 X hx hx'
   have e0':∀b∈bs,b.ia≠i:=fun b hb e=>e0 ⟨b,hb,e.symm⟩
   by_cases e1:∃b∈bs,i=b.is
   · obtain⟨b,hb,rfl⟩:=e1
     obtain⟨os,hos,hods,⟨e,he,hbe,hon⟩,_⟩:=Hb (hlit b hb) List.mem_cons_self
     have hLa:L b.ia=true:=by rw[hos]at hio;cases hio;rw[←hon];exact hed e he hbe
     obtain⟨ty,ps,af,his0⟩:=his b hb
     rw[hio]at his0;cases his0
     intro a ha hsl
     rw[if_pos (by simp[Region.wanted])]
     obtain⟨B,h1,hBs,hblk⟩:=(hB b hb).2 hLa
     rw[hLi]at hblk
     obtain⟨cs,hcs,hcz,hc1⟩:=hsv b hb _ W (ha.val b.sv _ (hlk b hb _ hio))
     have hfs:f b.sv=.agg cs:=by rw[←hsl];exact hcs
     have hsn:b.sa≠b.sv:=fun e'=>by unfold Hp at h1;rw[e',hfs]at h1;cases h1
     have hag:Ag n ds [(b.sv,.eq (.agg cs)),(b.sa,.eq (.pointer (some ⟨B,0,none⟩)))] a W:=by
       refine⟨ha.defers,ha.size,fun t q ht=>?_⟩
       by_cases e1:t=b.sv
       · subst e1;rw[A7]at ht;cases ht;exact hcs
       rw[A8 e1]at ht
       by_cases e2:t=b.sa
       · subst e2;rw[A7]at ht;cases ht;exact(hsl _).trans h1
       rw[A8 e2]at ht;cases ht
     obtain⟨W',hr,hset⟩:=SEv.Ca (P:=P) (n:=n) (ds:=ds) (w:=W) (l:=[(b.sv,.eq (.agg cs)),(b.sa,.eq (.pointer (some ⟨B,0,none⟩)))]) (x:=.tmp b.sa) (y:=.tmp b.sv) (ty:=ty) (ps:=ps) (af:=af) (g:=none) hs hcz (.tmp (by rw[A8 hsn,A7])) (.tmp A7) hc1 hblk (by simp) a hag
     have na:∀c∈bs,Cq L b.is c.ia=L c.ia:=fun c hc=>by
       have:=(Jm hv hc hb).1
       simp[Cq,this]
     refine .inr ⟨W',hr,hset.sto.Dk (by rw[hset.size];exact Nat.le_refl _) hblk,(fun d hd=>by cases hd),hUp.sto hset.sto hBs,fun c hc=>?_,?_⟩
     · by_cases hcb:c.is=b.is
       · have hca:c.ia=b.ia∧c.sa=b.sa:=by
           rcases(Jm hv hc hb).2 with⟨h,_⟩|⟨_,h,_⟩
           · refine⟨h,?_⟩
             obtain⟨_,_,_,h1⟩:=hia c hc
             obtain⟨_,_,_,h2⟩:=hia b hb
             rw[h,h2]at h1;exact(Wa h1).symm
           exact absurd hcb h
         have hcv:c.sv=b.sv:=by
           obtain⟨_,_,_,h1⟩:=his c hc
           rw[hcb,hio]at h1;exact(EY h1).symm
         refine⟨fun _=>by rw[na c hc,hca.1];exact hLa,fun _=>⟨B,by rw[hca.2];exact h1,hBs,?_⟩⟩
         have h2:Cq L b.is c.is=true:=by simp[Cq,hcb]
         rw[h2,if_pos rfl,hcv]
         show Blk W' B (f b.sv).cells T
         rw[hfs]
         exact hset.blk
       have ns:Cq L b.is c.is=L c.is:=by simp[Cq,hcb]
       refine⟨fun h=>by rw[na c hc];rw[ns]at h;exact(hB c hc).1 h,fun h=>?_⟩
       rw[na c hc]at h
       obtain⟨B',h3,h4,h5⟩:=(hB c hc).2 h
       have hne:B'≠B:=by
         have hcne:c≠b:=fun e=>hcb (by rw[e])
         intro e
         subst e
         rcases List.mem_iff_getElem.1 hc with⟨ic,hic,ec⟩
         rcases List.mem_iff_getElem.1 hb with⟨ib,hib,eb⟩
         rcases Nat.lt_trichotomy ic ib with q|q|q
         · have:=List.pairwise_iff_getElem.1 hP ic ib hic hib q
           rw[ec,eb]at this
           exact this h hLa B' h3 h1
         · subst q;exact hcne (ec.symm.trans eb)
         have:=List.pairwise_iff_getElem.1 hP ib ic hib hic q
         rw[ec,eb]at this
         exact this hLa h B' h1 h3
       refine⟨B',h3,h4,?_⟩
       rw[ns]
       exact h5.sto hset.sto hne
     refine List.Pairwise.imp_of_mem ?_ hP
     intro c c' hc hc' hp h1 h2 X hx hx'
     rw[na c hc]at h1
     rw[na c' hc']at h2
     exact hp h1 h2 X hx hx'
   have e1':∀b∈bs,b.is≠i:=fun b hb e=>e1 ⟨b,hb,e.symm⟩
   obtain⟨hg,hop⟩:=hop i o hi (fun b hb=>⟨Ne.symm (e0' b hb),Ne.symm (e1' b hb)⟩) hio
   intro a ha hsl
   rw[if_pos (by simp[Region.wanted,hg])]
   have done:∀v W',Up W W'∧(ph i).holds v W'→KeepT T W W'∧(∀d,o.dst=some d→(ph i).holds v W')∧EZ bs T z w (Cq L i) (D0 f o.dst v) W':=by
     rintro v W' ⟨hu,hv'⟩
     have ela:∀c∈bs,Cq L i c.ia=L c.ia:=fun c hc=>by simp[Cq,e0' c hc]
     have els:∀c∈bs,Cq L i c.is=L c.is:=fun c hc=>by simp[Cq,e1' c hc]
     have esa:∀c∈bs,D0 f o.dst v c.sa=f c.sa:=fun c hc=>by simp[D0,saOf c hc (e0' c hc)]
     refine⟨hu.Dk,fun _ _=>hv',hUp.trans hu,fun c hc=>⟨fun h=>by rw[ela c hc];rw[els c hc]at h;exact(hB c hc).1 h,fun h=>?_⟩,?_⟩
     · rw[ela c hc]at h
       obtain⟨B,h1,h2,h3⟩:=(hB c hc).2 h
       refine⟨B,by rw[esa c hc];exact h1,h2,?_⟩
       rw[els c hc]
       cases hLc:L c.is with
       |false=>rw[hLc]at h3;exact h3.up hu
       |true=>
         rw[hLc]at h3
         have h4:D0 f o.dst v c.sv=f c.sv:=by simp[D0,svOf c hc hLc]
         rw[h4]
         exact h3.up hu
     refine List.Pairwise.imp_of_mem ?_ hP
     intro c c' hc hc' hp h1 h2 X hx hx'
     rw[ela c hc]at h1;rw[ela c' hc']at h2
     rw[esa c hc]at hx;rw[esa c' hc']at hx'
     exact hp h1 h2 X hx hx'
   rcases hop W hRel a ha with⟨v,W',hr,hp⟩|⟨fn,args,w1,hr,hc⟩
   · exact .inl (.inl ⟨v,W',hr,done v W' hp⟩)
   exact .inl (.inr ⟨fn,args,w1,hr,hc.mono done⟩)
 intro f W hRel hInv
 obtain⟨hUp,hB,hP⟩:=hInv
 refine hend f W hUp (fun b hb=>?_) ?_
 · obtain⟨B,h1,h2,h3⟩:=(hB b hb).2 (by simpa using(hk b hb).2)
   rw[if_pos (by simpa using(hk b hb).1)]at h3
   exact⟨B,h1,h2,h3⟩
 refine List.Pairwise.imp_of_mem ?_ hP
 intro c c' hc hc' hp X hx hx'
 exact hp (by simpa using(hk c hc).2) (by simpa using(hk c' hc').2) X hx hx'
theorem CW.vars{id:Nat}{opsL:List Oper}(k:Nat)(bs:List Bv)(z:Array Value)(phs:List Ph)(keep:List Nat){T:TypeId}(hz:∀w,(zeroValue T).run P w=.ok (.agg z) w)(hs:∀w,(sizeOf T).run P w=.ok z.size w)(hm:P.follows .mixedOrders=true)(hl:Cj l=true)
   (hA:Dv opsL.toArray=true)(hC:(Nat.beq k opsL.toArray.size||Fh opsL.toArray k)=true)(hF:Iu opsL.toArray k=true)(hks:Nat.ble k opsL.toArray.size=true)(hD:Gr n opsL.toArray 0 k=true)(hTl:Gc opsL.toArray k=true)
   (hfree:Jd l (opsL.take k)=true)(hv:bR bs=true)(hnd:(bs.map (·.ia)).Nodup)(hlit:(bs.all fun b=>Rk opsL.toArray b.ia [(b.is,0,b.sv)])=true)(hk:(bs.all fun b=>Nat.ble (b.is+1) k&&Nat.ble (b.ia+1) k)=true)
   (hia:∀b∈bs,∃ty ps af,opsL[b.ia]?=some ⟨some b.sa,.alloc T,ty,ps,af,none⟩)(his:∀b∈bs,∃ty ps af,opsL[b.is]?=some ⟨none,.store T (.tmp b.sa) (.tmp b.sv),ty,ps,af,none⟩)(hph:allT T phs)
   (hlk:∀b∈bs,∀o,opsL[b.is]?=some o→lk (Ju opsL.toArray (fun i=>phs.getD i (.eq undef)) 0 o++l) b.sv=some (phs.getD b.isv (.eq undef)))(hsv:∀b∈bs,∀v W,(phs.getD b.isv (.eq undef)).holds v W→∃cs,v=.agg cs∧cs.size=z.size∧cs.all (·.oneCell')=true)
   (hpa:∀b∈bs,∀B W,(phs.getD b.ia (.eq undef)).holds (.pointer (some ⟨B,0,none⟩)) W)
   (hop:∀W,KeepT T w.drew W→allL (fun i o=>(∃b∈bs,i=b.ia∨i=b.is)∨(o.guard=none∧TU P n ds (Ju opsL.toArray (fun i=>phs.getD i (.eq undef)) 0 o++l) W o (phs.getD i (.eq undef)))) 0 (opsL.take k))
   (hend:∀W(g:Nat→Value),Up w.drew W→(∀b∈bs,∃B,Hp (g b.sa) B∧w.drew.heap.size≤B∧Blk W B (g b.sv).cells T)→(bs.Pairwise fun b c=>∀B,Hp (g b.sa) B→¬Hp (g c.sa) B)→(∀i o d,i<k→opsL[i]?=some o→o.dst=some d→(phs.getD i (.eq undef)).holds (g d) W)→LW R m P n ds opsL.toArray Q (opsL.drop k) (keep.map (fun d=>(d,.eq (g d)))++l) W):
   CW R m P n ds (.region id opsL.toArray true) Q l w:=by
 have hks':k≤opsL.length:=by have:=Nat.le_of_ble_eq_true hks;simp at this;omega
 have sub:∀j o,j<k→opsL.toArray[j]?=some o→(opsL.take k)[j]?=some o:=fun j o hjk ho=>by
   rw[List.getElem?_take_of_lt hjk];simpa using ho
 have hbd:∀i ph,lk l i=some ph→∀(j:Nat)(o:Oper),0≤j→j<k→opsL.toArray[j]?=some o→o.dst≠some i:=fun i ph hi j o _ hjk ho=>Fw hfree hi (List.mem_of_getElem? (sub j o hjk ho))
 have toL:∀(i:Nat)(o:Oper),opsL.toArray[i]?=some o→opsL[i]?=some o:=fun i o h=>by simpa using h
 refine Ep hm hl fun fuel listed a hf hu ha=>(AWF.vars (k:=k) (bs:=bs) (T:=T) (z:=z) (fun i=>phs.getD i (.eq undef)) (f0:=fun t=>a.tmps.getD t undef) hz hs (fun i v w w' h u=>(hph.at i) v w w' h u) hA hC hF hks hD hl hbd hv (List.pairwise_map.1 hnd) (fun b hb=>List.all_eq_true.1 hlit b hb) ?_ ?_ ?_ (fun b hb o ho=>hlk b hb o (toL _ _ ho)) hsv hpa ?_ ?_ fuel listed a hf hu ha (fun _=>rfl))
 · intro b hb
   have:=List.all_eq_true.1 hk b hb
   simp only[Bool.and_eq_true]at this
   exact⟨Nat.le_of_ble_eq_true this.1,Nat.le_of_ble_eq_true this.2⟩
 · intro b hb
   obtain⟨ty,ps,af,h⟩:=hia b hb
   exact⟨ty,ps,af,by simpa using h⟩
 · intro b hb
   obtain⟨ty,ps,af,h⟩:=his b hb
   exact⟨ty,ps,af,by simpa using h⟩
 · intro i o hi hn ho
   have h0:=(hop w.drew (KeepT.refl T _)).at (sub i o hi ho)
   rw[Nat.zero_add]at h0
   rcases h0 with⟨b,hb,e|e⟩|⟨hg,_⟩
   · exact absurd e (hn b hb).1
   · exact absurd e (hn b hb).2
   refine⟨hg,fun W hW a ha=>?_⟩
   have h3:=(hop W hW).at (sub i o hi ho)
   rw[Nat.zero_add]at h3
   rcases h3 with⟨b,hb,e|e⟩|⟨_,h⟩
   · exact absurd e (hn b hb).1
   · exact absurd e (hn b hb).2
   exact h a ha
 intro f W hUp hblk hpw fuel' listed' a' hf' hu' ha' hsl'
 have key:∀i o d,i<k→opsL[i]?=some o→o.dst=some d→(phs.getD i (.eq undef)).holds (f d) W:=by
   intro i o d hik ho hd
   have ho':opsL.toArray[i]?=some o:=by simpa using ho
   have hmem:(d,phs.getD i (.eq undef))∈Hj opsL.toArray (fun i=>phs.getD i (.eq undef)) 0 k:=by
     unfold Hj
     rw[List.mem_filterMap]
     exact⟨i,List.mem_range.2 hik,by rw[if_pos (by simp),ho'];simp[hd]⟩
   obtain⟨q',hq⟩:=H3 hmem
   obtain⟨j,p,_,hjk,hp,hpd,e⟩:=E6 hq
   have:j=i:=by
     by_cases ee:j=i
     · exact ee
     exact absurd hpd ((C8 hD (Nat.zero_le _) hik ho' hd).2 j p (Nat.zero_le _) hjk ee hp)
   subst this
   have:=ha'.val d q' (Lw hq)
   rw[hsl',e]at this
   exact this
 refine Et hTl hA (opsL.toArray.size-k) k fuel' listed' a' W rfl (by simp;omega) (Nat.le_refl _) hf' hu' (hend W f hUp hblk hpw key a' ⟨ha'.defers,ha'.size,fun t q ht=>?_⟩)
 rcases C6 ht with h|h
 · obtain⟨d,_,he⟩:=List.mem_map.1 (J0 h)
   cases he
   exact hsl' _
 refine ha'.val t q ?_
 rw[Fb]
 · exact h
 cases hq:lk (Hj opsL.toArray (fun i=>phs.getD i (.eq undef)) 0 k) t with
 |none=>rfl
 |some q'=>
   obtain⟨j,p,_,hjk,hp,hpd,_⟩:=E6 hq
   exact absurd hpd (hbd t q h j p (Nat.zero_le _) hjk hp)
end
end Go.Wx
namespace Go.Wx
abbrev K2:=Int×Int
def G6(a b:K2):Bool:=decide (a.1<b.1)||(decide (a.1=b.1)&&decide (a.2<b.2))
theorem Qk{a b:K2}:G6 a b=true↔a.1<b.1∨(a.1=b.1∧a.2<b.2):=by simp[G6]
theorem L0{a b:K2}:G6 a b=false↔¬(a.1<b.1∨(a.1=b.1∧a.2<b.2)):=by rw[←Qk];simp
theorem J5(a:K2):G6 a a=false:=by rw[L0];omega
theorem Jn{a b c:K2}(h:G6 b a=false)(k:G6 c b=false):G6 c a=false:=by rw[L0]at*;omega
theorem O1{a b:K2}(h:G6 a b=true):G6 b a=false:=by rw[Qk]at h;rw[L0];omega
theorem Wb{a b c:K2}(h:G6 a b=true)(k:G6 c b=false):G6 a c=true:=by rw[Qk]at*;rw[L0]at k;omega
theorem fU{a b c:K2}(h:G6 b a=false)(k:G6 b c=true):G6 a c=true:=by rw[Qk]at*;rw[L0]at h;omega
theorem yN{a b:K2}(h:G6 a b=false)(k:G6 b a=false):a=b:=by rw[L0]at*;exact Prod.ext oQ oQ
theorem bS{a b:K2}(h:G6 a b=true):a≠b:=fun e=>by rw[e,J5]at h;cases h
section
variable {α:Type}(key:α→K2)
def Jf(l:List α):Prop:=l.Pairwise fun x y=>G6 (key y) (key x)=false
def sameF(l s:List α):Prop:=∀k,s.filter (fun x=>key x==k)=l.filter (fun x=>key x==k)
structure StS(l s:List α):Prop where
 ord:Jf key s
 same:sameF key l s
end
section
variable {α:Type}{key:α→K2}
theorem sameF.refl(l:List α):sameF key l l:=fun _=>rfl
theorem sameF.trans{a b c:List α}(h:sameF key a b)(k:sameF key b c):sameF key a c:=fun x=>(k x).trans (h x)
theorem sameF.jG{a b c d:List α}(h:sameF key a b)(k:sameF key c d):sameF key (a++c) (b++d):=fun x=>by rw[List.filter_append,List.filter_append,h x,k x]
theorem sameF.mem{a b:List α}(h:sameF key a b)(x:α):x∈b↔x∈a:=by
 have:=h (key x)
 have e:∀l:List α,x∈l.filter (fun y=>key y==key x)↔x∈l:=fun l=>by rw[List.mem_filter];simp
 rw[←e b,←e a,this]
theorem sameF.swap{U V:List α}(h:∀u∈U,∀v∈V,key u≠key v):sameF key (U++V) (V++U):=fun k=>by
 rw[List.filter_append,List.filter_append]
 by_cases e:U.filter (fun x=>key x==k)=[]
 · rw[e];simp
 have e2:V.filter (fun x=>key x==k)=[]:=by
   rw[List.filter_eq_nil_iff]
   intro v hv hk
   apply e
   rw[List.filter_eq_nil_iff]
   intro u hu hk2
   exact h u hu v hv ((eq_of_beq hk2).trans (eq_of_beq hk).symm)
 rw[e2];simp
theorem sameF.perm:∀{a b:List α},sameF key a b→b.Perm a
 |[],b,h=>by
   have:b=[]:=by
     cases b with
     |nil=>rfl
     |cons x b=>exact absurd ((h.mem x).1 List.mem_cons_self) (by simp)
   rw[this]
 |x::a,b,h=>by
   have hx:x∈b:=(h.mem x).2 List.mem_cons_self
   -- the first of b with the key of x is x itself
   have hf:=h (key x)
   rw[List.filter_cons,if_pos (by simp)]at hf
   obtain⟨p,q,e,hp⟩:∃p q,b=p++x::q∧∀y∈p,key y≠key x:=by
     clear hx
     induction b with
     |nil=>simp at hf
     |cons y b ih=>
       by_cases hy:key y=key x
       · rw[List.filter_cons,if_pos (by simp[hy])]at hf
         injection hf with h1 h2
         subst h1
         exact⟨[],b,rfl,by simp⟩
       rw[List.filter_cons,if_neg (by simp[hy])]at hf
       have:∃p q,b=p++x::q∧∀y∈p,key y≠key x:=by
         clear ih h
         induction b with
         |nil=>simp at hf
         |cons z b ih=>
           by_cases hz:key z=key x
           · rw[List.filter_cons,if_pos (by simp[hz])]at hf
             injection hf with h1 h2
             subst h1
             exact⟨[],b,rfl,by simp⟩
           rw[List.filter_cons,if_neg (by simp[hz])]at hf
           obtain⟨p,q,e,hp⟩:=ih hf
           exact⟨z::p,q,by rw[e];rfl,fun w hw=>by
             rcases List.mem_cons.1 hw with rfl|hw
             · exact hz
             exact hp w hw⟩
       obtain⟨p,q,e,hp⟩:=this
       exact⟨y::p,q,by rw[e];rfl,fun w hw=>by
         rcases List.mem_cons.1 hw with rfl|hw
         · exact hy
         exact hp w hw⟩
   subst e
   have h2:sameF key a (p++q):=fun k=>by
     have:=h k
     by_cases hk:key x=k
     · subst hk
       have ep:p.filter (fun y=>key y==key x)=[]:=by rw[List.filter_eq_nil_iff];intro y hy e;exact hp y hy (eq_of_beq e)
       simp only[List.filter_append,List.filter_cons,beq_self_eq_true,if_true,ep,List.nil_append,List.cons.injEq,true_and]at this⊢
       exact this
     have hk':(key x==k)=false:=by simpa using hk
     simpa only[List.filter_append,List.filter_cons,hk',Bool.false_eq_true,if_false]using this
   exact List.perm_middle.trans ((sameF.perm h2).cons x)
theorem sameF.length{a b:List α}(h:sameF key a b):b.length=a.length:=h.perm.length_eq
theorem StS.unique:∀{l s t:List α},StS key l s→StS key l t→s=t
 |l,[],[],_,_=>rfl
 |l,[],y::t,h,k=>by have:=h.same.length.trans k.same.length.symm;simp at this
 |l,x::s,[],h,k=>by have:=h.same.length.trans k.same.length.symm;simp at this
 |l,x::s,y::t,h,k=>by
   have hx:=(List.pairwise_cons.1 h.ord)
   have hy:=(List.pairwise_cons.1 k.ord)
   have mx:x∈y::t:=(k.same.mem x).2 ((h.same.mem x).1 List.mem_cons_self)
   have my:y∈x::s:=(h.same.mem y).2 ((k.same.mem y).1 List.mem_cons_self)
   have a1:G6 (key x) (key y)=false:=by
     rcases List.mem_cons.1 mx with e|e
     · rw[e];exact J5 _
     exact hy.1 x e
   have a2:G6 (key y) (key x)=false:=by
     rcases List.mem_cons.1 my with e|e
     · rw[e];exact J5 _
     exact hx.1 y e
   have ek:=yN a1 a2
   have hf:=(h.same (key x)).trans (k.same (key x)).symm
   rw[List.filter_cons,if_pos (by simp),List.filter_cons,if_pos (by simp[ek])]at hf
   injection hf with h1 h2
   subst h1
   have hst:sameF key t s:=fun q=>by
     have:=(h.same q).trans (k.same q).symm
     simp only[List.filter_cons]at this
     split at this
     · injection this
     exact this
   rw[StS.unique (l:=t) ⟨hx.2,hst⟩ ⟨hy.2,sameF.refl t⟩]
theorem StS.refl{l:List α}(h:Jf key l):StS key l l:=⟨h,sameF.refl l⟩
theorem StS.put{A:List α}{x:α}{j:Nat}(hA:Jf key A)(hj:∀y∈A.drop j,G6 (key x) (key y)=true)(hl:∀y∈A.take j,G6 (key x) (key y)=false):StS key (A++[x]) (A.take j++x::A.drop j):=by
 have h:=List.pairwise_append.1 (show(A.take j++A.drop j).Pairwise fun x y=>G6 (key y) (key x)=false by rw[List.take_append_drop];exact hA)
 refine⟨List.pairwise_append.2 ⟨h.1,List.pairwise_cons.2 ⟨fun y hy=>O1 (hj y hy),h.2.1⟩,fun a ha b hb=>?_⟩,?_⟩
 · rcases List.mem_cons.1 hb with rfl|hb
   · exact hl a ha
   exact h.2.2 a ha b hb
 have:=(sameF.refl (key:=key) (A.take j)).jG (sameF.swap (key:=key) (U:=A.drop j) (V:=[x]) (fun u hu v hv=>by
   simp at hv;subst hv
   exact fun e=>bS (hj u hu) e.symm))
 rw[←List.append_assoc,List.take_append_drop]at this
 simpa using this
theorem nQ{A:List α}{x:α}{j:Nat}(hA:Jf key A)(hj:∀y∈A.take j,G6 (key y) (key x)=true)(hl:∀y∈A.drop j,G6 (key y) (key x)=false):StS key (x::A) (A.take j++x::A.drop j):=by
 have h:=List.pairwise_append.1 (show(A.take j++A.drop j).Pairwise fun x y=>G6 (key y) (key x)=false by rw[List.take_append_drop];exact hA)
 refine⟨List.pairwise_append.2 ⟨h.1,List.pairwise_cons.2 ⟨hl,h.2.1⟩,fun a ha b hb=>?_⟩,?_⟩
 · rcases List.mem_cons.1 hb with rfl|hb
   · exact O1 (hj a ha)
   exact h.2.2 a ha b hb
 have:=(sameF.swap (key:=key) (U:=[x]) (V:=A.take j) (fun u hu v hv=>by
   simp at hu;subst hu
   exact fun e=>bS (hj v hv) e.symm)).jG (sameF.refl (key:=key) (A.drop j))
 rw[List.append_assoc,List.append_assoc,List.take_append_drop]at this
 simpa using this
theorem bT{L1 U V R2 X Y:List α}(hL:Jf key (L1++U))(hR:Jf key (V++R2))(h1:∀x∈L1,∀y∈R2,G6 (key y) (key x)=false)(h2:∀v∈V,∀u∈U,G6 (key v) (key u)=true)
   (hX:StS key (L1++V) X)(hY:StS key (U++R2) Y):StS key (L1++U++(V++R2)) (X++Y):=by
 refine⟨List.pairwise_append.2 ⟨hX.ord,hY.ord,fun x hx y hy=>?_⟩,?_⟩
 · have hx:=(hX.same.mem x).1 hx
   have hy:=(hY.same.mem y).1 hy
   have a:=(List.pairwise_append.1 hL).2.2
   have b:=(List.pairwise_append.1 hR).2.2
   rcases List.mem_append.1 hx with hx|hx<;>rcases List.mem_append.1 hy with hy|hy
   · exact a x hx y hy
   · exact h1 x hx y hy
   · exact O1 (h2 x hx y hy)
   exact b x hx y hy
 have s1:sameF key (U++V) (V++U):=sameF.swap fun u hu v hv e=>bS (h2 v hv u hu) e.symm
 have s2:=((sameF.refl (key:=key) L1).jG s1).jG (sameF.refl (key:=key) R2)
 have s3:=hX.same.jG hY.same
 intro k
 have a:=s3 k
 have b:=s2 k
 simp only[List.filter_append,List.append_assoc]at a b⊢
 rw[a,b]
end
section
variable {α:Type}
def Cz(xs:List α)(a b:Nat):List α:=(xs.take b).drop a
theorem Cd{xs:List α}{a b:Nat}(hb:b≤xs.length):(Cz xs a b).length=b-a:=by simp[Cz];omega
theorem F7{xs:List α}{a b i:Nat}(h:a+i<b):(Cz xs a b)[i]?=xs[a+i]?:=by simp[Cz,List.getElem?_drop,h]
theorem Fx{xs:List α}{a m b:Nat}(h1:a≤m)(h2:m≤b)(hb:b≤xs.length):Cz xs a b=Cz xs a m++Cz xs m b:=by
 unfold Cz
 have:xs.take b=xs.take m++(xs.take b).drop m:=by
   conv=>lhs;rw[←List.take_append_drop m (xs.take b)]
   rw[List.take_take,Nat.min_eq_left h2]
 rw[this,List.drop_append]
 have e:a-(xs.take m).length=0:=by simp;omega
 rw[e,List.drop_zero,←this]
theorem sY{xs:List α}:Cz xs 0 xs.length=xs:=by simp[Cz]
theorem Fy{xs:List α}{a b:Nat}(h:b≤a):Cz xs a b=[]:=by
 unfold Cz
 rw[List.drop_eq_nil_iff]
 simp;omega
theorem fV{xs:List α}{a b:Nat}(h1:a≤b)(hb:b≤xs.length):xs=xs.take a++Cz xs a b++xs.drop b:=by
 have h:=Fx (xs:=xs) (a:=0) (m:=a) (b:=b) (Nat.zero_le _) h1 hb
 have e1:Cz xs 0 a=xs.take a:=by simp[Cz]
 have e2:Cz xs 0 b=xs.take b:=by simp[Cz]
 rw[e1,e2]at h
 rw[←h,List.take_append_drop]
def Ex(xs:List α)(a b:Nat)(ys:List α):List α:=xs.take a++ys++xs.drop b
theorem Dl{xs ys:List α}{a b:Nat}(h1:a≤b)(hb:b≤xs.length)(hy:ys.length=b-a):(Ex xs a b ys).length=xs.length:=by simp[Ex];omega
theorem Gw{xs:List α}{a b:Nat}(h1:a≤b)(hb:b≤xs.length):Ex xs a b (Cz xs a b)=xs:=(fV h1 hb).symm
theorem E7{xs ys:List α}{a b:Nat}(h1:a≤b)(hb:b≤xs.length)(hy:ys.length=b-a)(i:Nat):(Ex xs a b ys)[i]?=if i<a then xs[i]? else if i<b then ys[i-a]? else xs[i]?:=by
 unfold Ex
 by_cases h:i<a
 · rw[if_pos h,List.append_assoc,List.getElem?_append_left (by simp;omega),List.getElem?_take,if_pos h]
 rw[if_neg h]
 by_cases h2:i<b
 · rw[if_pos h2,List.getElem?_append_left (by simp;omega),List.getElem?_append_right (by simp;omega)]
   congr 1;simp;omega
 rw[if_neg h2,List.getElem?_append_right (by simp;omega),List.getElem?_drop]
 congr 1;simp;omega
theorem fW{xs ys:List α}{a b:Nat}(h1:a≤b)(hb:b≤xs.length)(hy:ys.length=b-a):Cz (Ex xs a b ys) a b=ys:=by
 apply List.ext_getElem?
 intro i
 by_cases h:a+i<b
 · rw[F7 h,E7 h1 hb hy,if_neg oQ,if_pos h];congr 1;omega
 rw[List.getElem?_eq_none (by rw[Cd (by rw[Dl h1 hb hy];exact hb)];omega),List.getElem?_eq_none (by omega)]
theorem Er{xs ys:List α}{a b c d:Nat}(h1:a≤b)(hb:b≤xs.length)(hy:ys.length=b-a)(h:d≤a∨b≤c):Cz (Ex xs a b ys) c d=Cz xs c d:=by
 apply List.ext_getElem?
 intro i
 unfold Cz
 rw[List.getElem?_drop,List.getElem?_drop,List.getElem?_take,List.getElem?_take]
 split
 · rw[E7 h1 hb hy]
   split
   · rfl
   split
   · omega
   rfl
 rfl
theorem fX{xs ys zs:List α}{a m b:Nat}(h1:a≤m)(h2:m≤b)(hb:b≤xs.length)(hy:ys.length=m-a)(hz:zs.length=b-m):Ex (Ex xs a m ys) m b zs=Ex xs a b (ys++zs):=by
 apply List.ext_getElem?
 intro i
 rw[E7 h2 (by rw[Dl h1 oQ hy];exact hb) hz,E7 h1 oQ hy,E7 oQ hb (by simp;omega)]
 by_cases c1:i<a
 · rw[if_pos oQ,if_pos c1,if_pos c1]
 by_cases c2:i<m
 · rw[if_pos c2,if_neg c1,if_pos c2,if_neg c1,if_pos oQ,List.getElem?_append_left (by omega)]
 rw[if_neg c2,if_neg c1,if_neg c2]
 by_cases c3:i<b
 · rw[if_pos c3,if_neg c1,if_pos c3,List.getElem?_append_right (by omega)];congr 1;omega
 rw[if_neg c3,if_neg c1,if_neg c3]
variable {key:α→K2}
theorem sameF.Ex{xs ys:List α}{a b:Nat}(h1:a≤b)(hb:b≤xs.length)(h:sameF key (Cz xs a b) ys):sameF key xs (Wx.Ex xs a b ys):=by
 have h2:=((sameF.refl (key:=key) (xs.take a)).jG h).jG (sameF.refl (key:=key) (xs.drop b))
 rw[←fV h1 hb]at h2
 exact h2
end
end Go.Wx
namespace Go.Wx
open Go.RowKit
theorem OwnS.at{α:Type}{enc:α→Array Value}{b k:Nat}{e:TypeId}{w:World}{g m cp:Nat}{xs:List α}(h:OwnS w b e k enc (.slice (some ⟨g,0,none⟩) m cp) xs)(hk:∀x,(enc x).size=k){i:Nat}{x:α}(hx:xs[i]?=some x):AggAt w g (0+i*k) (enc x):=by
 obtain⟨ad,c,e',hE⟩:=h.sl hk
 obtain⟨B,o,h1,h2⟩:=hE i x hx
 cases e'
 cases h1
 exact h2
theorem OwnS.len{α:Type}{enc:α→Array Value}{b k:Nat}{e:TypeId}{w:World}{ad:Option Addr}{m cp:Nat}{xs:List α}(h:OwnS w b e k enc (.slice ad m cp) xs):xs.length=m:=by
 obtain⟨_,⟨e',h1⟩|⟨g,cap,cur,e',_⟩⟩:=h
 · cases e';exact h1
 cases e';rfl
theorem X9{α:Type}(f:α→List Value)(k:Nat)(hf:∀x,(f x).length=k):∀(xs:List α)(i:Nat)(y:α),i<xs.length→(xs.set i y).flatMap f=(xs.flatMap f).take (i*k)++f y++(xs.flatMap f).drop (i*k+k)
 |[],_,_,h=>by simp at h
 |x::xs,0,y,_=>by
   rw[List.set_cons_zero,List.flatMap_cons,List.flatMap_cons,Nat.zero_mul,List.take_zero,List.nil_append,Nat.zero_add,List.drop_left' (hf x)]
 |x::xs,i+1,y,h=>by
   rw[List.set_cons_succ,List.flatMap_cons,List.flatMap_cons,X9 f k hf xs i y (by simpa using h)]
   have e1:(i+1)*k=(f x).length+i*k:=by rw[hf,Nat.add_mul,Nat.one_mul,Nat.add_comm]
   rw[e1,Nat.add_assoc,List.take_length_add_append,List.drop_length_add_append]
   simp[List.append_assoc]
section
variable {P:Program}{n:Nat}{ds:List Deferred}{l:Env}{w:World}{ty:TypeId}{ps:String}{af:Array Edge}{g:Option (Nat×Bool)}
theorem Wc{α:Type}{enc:α→Array Value}{k b:Nat}{e T:TypeId}{x y:Operand}{B m cp i:Nat}{xs:List α}{z:α}(hs:∀w,(sizeOf T).run P w=.ok k w)(hk:∀x,(enc x).size=k)(h1:∀x,(enc x).all (·.oneCell')=true)(hx:Val l x (.pointer (some ⟨B,0+i*k,none⟩)))(hy:Val l y (.agg (enc z)))(ho:OwnS w b e k enc (.slice (some ⟨B,0,none⟩) m cp) xs)(hi:i<m):
   SEv P n ds l w ⟨none,.store T x y,ty,ps,af,g⟩ (fun w'=>OwnS w' b e k enc (.slice (some ⟨B,0,none⟩) m cp) (xs.set i z)∧Fr (· =B) w w'∧w'.heap.size=w.heap.size):=fun a ha=>by
 have hkl:∀x,(enc x).toList.length=k:=fun x=>by rw[Array.length_toList,hk]
 obtain⟨hl,⟨e',_⟩|⟨g',cap,cur,e',hb,hg,hcap,hcm,hcs,htk⟩⟩:=ho
 · cases e'
 cases e'
 have hik:i*k+k≤xs.length*k:=by
   have:(i+1)*k≤xs.length*k:=Nat.mul_le_mul_right k hi
   rw[Nat.add_mul,Nat.one_mul]at this
   exact this
 have hmk:xs.length*k≤cp*k:=Nat.mul_le_mul_right k oQ
 obtain⟨w',hr,hset⟩:=Tv (P:=P) (n:=n) (ds:=ds) (l:=l) (w:=w) (ty:=ty) (ps:=ps) (af:=af) (g:=g) hs (hk z) hx hy (h1 z) (show Blk w B cur e from hg) (by rw[hk,hcs];omega) a ha
 refine⟨w',hr,⟨by rw[List.length_set,Eo _ k hkl,List.length_set],.inr ⟨B,cp,_,by rw[List.length_set],hb,hset.blk,by rw[List.length_set];omega,hcm,?_,?_⟩⟩,hset.sto.fr,hset.size⟩
 · have hz:=hkl z
   simp only[Nw,List.size_toArray,List.length_append,List.length_take,List.length_drop,Array.length_toList]
   rw[Array.length_toList]at hz
   omega
 have hz:=hkl z
 rw[List.length_set,X9 _ k hkl xs i z (by omega)]
 simp only[Nw]
 rw[hz,Nat.zero_add,List.take_append,List.take_append]
 have hcl:cur.toList.length=cp*k:=by rw[Array.length_toList];exact hcs
 have t1:(cur.toList.take (i*k)).take (xs.length*k)=cur.toList.take (i*k):=by rw[List.take_take,Nat.min_eq_right (by omega)]
 have t2:(cur.toList.take (i*k)).length=i*k:=by rw[List.length_take];omega
 have t3:((enc z).toList).take (xs.length*k-i*k)=(enc z).toList:=List.take_of_length_le oQ
 have t4:(cur.toList.take (i*k)++(enc z).toList).length=i*k+k:=by rw[List.length_append,t2,hz]
 rw[t1,t2,t3,t4]
 have s1:(xs.flatMap fun x=>(enc x).toList).take (i*k)=cur.toList.take (i*k):=by rw[←htk,List.take_take,Nat.min_eq_left (by omega)]
 have s2:(xs.flatMap fun x=>(enc x).toList).drop (i*k+k)=(cur.toList.drop (i*k+k)).take (xs.length*k-(i*k+k)):=by rw[←htk,List.drop_take]
 rw[s1,s2]
theorem SEv.Fz{α:Type}{enc:α→Array Value}{k:Nat}{e T:TypeId}{x y:Operand}{B m cp i:Nat}{xs:List α}{z:α}(hs:∀w,(sizeOf T).run P w=.ok k w)(hk:∀x,(enc x).size=k)(h1:∀x,(enc x).all (·.oneCell')=true)(hx:Val l x (.pointer (some ⟨B,0+i*k,none⟩)))(hy:Val l y (.agg (enc z)))(ho:OwnS w 0 e k enc (.slice (some ⟨B,0,none⟩) m cp) xs)(hi:i<m):
   SEv P n ds l w ⟨none,.store T x y,ty,ps,af,g⟩ (fun w'=>Stp (J e k enc (.slice (some ⟨B,0,none⟩) m cp) xs) (J e k enc (.slice (some ⟨B,0,none⟩) m cp) (xs.set i z)) w w'):=fun a ha=>
 let⟨w',hr,h2,h3,_⟩:=Wc (ty:=ty) (ps:=ps) (af:=af) (g:=g) hs hk h1 hx hy ho hi a ha
 ⟨w',hr,⟨h3.mono (fun i(e:i=B)=>by rw[e];rfl),h2,fun _ h=>.inl h⟩⟩
end
section
variable {P:Program}{n:Nat}{ds:List Deferred}{l:Env}{w:World}{d:Option Tmp}{ty:TypeId}{ps:String}{af:Array Edge}{g:Option (Nat×Bool)}
theorem PEv.M0{T T':TypeId}{x y:Operand}{i j:Nat}(hx:Val l x (.int .i64 (i:Int)))(hy:Val l y (.int .i64 (j:Int)))(h:j≤i)(h2:i<9223372036854775807):PEv P n ds l w ⟨d,.binOp .sub T x y T',ty,ps,af,g⟩ (.int .i64 ((i-j:Nat):Int)):=by
 have:=PEv.sub (P:=P) (n:=n) (ds:=ds) (l:=l) (w:=w) (d:=d) (ty:=ty) (ps:=ps) (af:=af) (g:=g) (T:=T) (T':=T') hx hy oQ oQ
 rw[Int.ofNat_sub h];exact this
theorem PEv.Cn{T e k:Nat}{x ix:Operand}{B o size:Nat}{j:Nat}(hT:P.underlying T=some (.array k e))(hs:∀w,(sizeOf e).run P w=.ok size w)(hx:Val l x (.pointer (some ⟨B,o,none⟩)))(hi:Val l ix (.int .i64 (j:Int)))(hj:j<k):
   PEv P n ds l w ⟨d,.indexAddr T x ix,ty,ps,af,g⟩ (.pointer (some ⟨B,o+j*size,none⟩)):=fun a w' ha _=>by
 refine Ci ?_
 rw[ha.ev hx,ha.ev hi]
 simp[Instr.indexAt,asIntOf,run_underlying hT,Sem.run_bind,Instr.sureAddr,hs,Fl,hj]
theorem PEv.dec{T T':TypeId}{x:Operand}{i:Nat}(hx:Val l x (.int .i64 (i:Int)))(h:1≤i)(h2:i<9223372036854775807):PEv P n ds l w ⟨d,.binOp .sub T x (.const (.int .i64 1)) T',ty,ps,af,g⟩ (.int .i64 ((i-1:Nat):Int)):=by
 have:=PEv.sub (P:=P) (n:=n) (ds:=ds) (l:=l) (w:=w) (d:=d) (ty:=ty) (ps:=ps) (af:=af) (g:=g) (T:=T) (T':=T') hx (.const (.int .i64 1)) oQ oQ
 rw[Int.ofNat_sub h];exact this
end
theorem SEv.mono{P:Program}{n:Nat}{ds:List Deferred}{l:Env}{w:World}{o:Oper}{Post Post':World→Prop}(h:SEv P n ds l w o Post)(k:∀w',Post w'→Post' w'):SEv P n ds l w o Post':=fun a ha=>let⟨w',h1,h2⟩:=h a ha;⟨w',h1,k w' h2⟩
def Ql(ops:Array Oper)(i s:Nat):Bool:=match ops[s]? with
 |none=>false
 |some o=>o.after.any fun e=>Region.binds .any e&&Nat.beq e.on i
theorem Rx{ops:Array Oper}{i s:Nat}(h:Ql ops i s=true):∃o,ops[s]?=some o∧∃e∈o.after,Region.binds .any e=true∧e.on=i:=by
 unfold Ql at h
 cases ho:ops[s]? with
 |none=>rw[ho]at h;cases h
 |some o=>
   rw[ho]at h
   obtain⟨q,hq,h2⟩:=Array.any_eq_true.1 h
   simp only[Bool.and_eq_true]at h2
   exact⟨o,rfl,_,Array.getElem_mem hq,h2.1,Nat.eq_of_beq_eq_true h2.2⟩
section
variable {R:Option Nat}{m:Nat}{P:Program}{n:Nat}{ds:List Deferred}{Q:Exit→Go.Act→World→Prop}{l:Env}{w:World}{ops:Array Oper}
theorem J6{id:Nat}{opsL:List Oper}(s1 s2:Nat)(vs:List Value)(A0 A1 A2:World→Prop)(hm:P.follows .mixedOrders=true)(hl:Cj l=true)
   (hA:Dv opsL.toArray=true)(hF:Iu opsL.toArray opsL.toArray.size=true)(hD:Gr n opsL.toArray 0 opsL.toArray.size=true)(hs:Ql opsL.toArray s1 s2=true)(hns:Nat.beq s1 s2=false)
   (hfree:Jd l opsL=true)(h0:A0 w.drew)
   (hop:allL (fun i o=>(i=s1∨i=s2)∨(o.guard=none∧((Ql opsL.toArray i s1=true∧∀W,A0 W→PEv P n ds (Ju opsL.toArray (fun i=>.eq (vs.getD i undef)) 0 o++l) W o (vs.getD i undef))∨∀W,PEv P n ds (Ju opsL.toArray (fun i=>.eq (vs.getD i undef)) 0 o++l) W o (vs.getD i undef)))) 0 opsL)
   (o1 o2:Oper)(ho1:opsL[s1]?=some o1)(ho2:opsL[s2]?=some o2)(hg1:o1.guard=none∧o1.dst=none)(hg2:o2.guard=none∧o2.dst=none)
   (hs1:∀W,A0 W→SEv P n ds (Ju opsL.toArray (fun i=>.eq (vs.getD i undef)) 0 o1++l) W o1 A1)(hs2:∀W,A1 W→SEv P n ds (Ju opsL.toArray (fun i=>.eq (vs.getD i undef)) 0 o2++l) W o2 A2)
   (hend:∀W,A2 W→KW n ds (Q .normal) l W):CW R m P n ds (.region id opsL.toArray true) Q l w:=by
 have hbd:∀i ph,lk l i=some ph→∀(j:Nat)(o:Oper),0≤j→j<opsL.toArray.size→opsL.toArray[j]?=some o→o.dst≠some i:=fun i ph hi j o _ hjk ho=>Fw hfree hi (List.mem_of_getElem? (by simpa using ho))
 obtain⟨p2,hp2,e2,he2,hb2,hon2⟩:=Rx hs
 have ho1':opsL.toArray[s1]?=some o1:=by simpa using ho1
 have ho2':opsL.toArray[s2]?=some o2:=by simpa using ho2
 have:p2=o2:=by rw[ho2']at hp2;cases hp2;rfl
 subst this
 have hl1:s1<opsL.toArray.size:=(Array.getElem?_eq_some_iff.1 ho1').1
 have hl2:s2<opsL.toArray.size:=(Array.getElem?_eq_some_iff.1 ho2').1
 have hne:s1≠s2:=fun e=>by subst e;simp at hns
 refine Ep hm hl fun fuel listed a hf hu ha=>(Ht (s:=0) (k:=opsL.toArray.size) (fun i=>.eq (vs.getD i undef)) (fun _ _=>True) (fun L _ W=>if L s2=true then A2 W else if L s1=true then A1 W else A0 W) (f0:=fun t=>a.tmps.getD t undef) (fun _=>trivial) (fun _ _ _ _ _=>trivial) (fun _ _ _ _ h _=>h) hA (by simp) hF (by simp) (by simp) hD hl hbd ?_ ?_ ?_ fuel listed a hf hu ha (fun _=>rfl))
 · intro i o _ hi hio L f W _ hDn hLi hed hInv a ha hsl
   have hio':opsL[i]?=some o:=by simpa using hio
   by_cases e1:i=s1
   · subst e1
     rw[ho1']at hio;cases hio
     rw[if_pos (by simp[Region.wanted,hg1.1])]
     have n2:L s2=false:=by
       cases h:L s2 with
       |false=>rfl
       |true=>have:=hDn s2 _ ho2' h e2 he2 hb2;rw[hon2,hLi]at this;cases this
     rw[n2,hLi]at hInv
     obtain⟨W',hr,hp⟩:=hs1 W hInv a ha
     refine .inr ⟨W',hr,trivial,(fun d hd=>by rw[hg1.2]at hd;cases hd),?_⟩
     have t1:Cq L i s2=false:=by simp[Cq,Ne.symm hne,n2]
     have t2:Cq L i i=true:=by simp[Cq]
     rw[t1,t2]
     exact hp
   by_cases e3:i=s2
   · subst e3
     rw[ho2']at hio;cases hio
     rw[if_pos (by simp[Region.wanted,hg2.1])]
     have y1:L s1=true:=by have:=hed e2 he2 hb2;rwa [hon2]at this
     rw[hLi,y1]at hInv
     obtain⟨W',hr,hp⟩:=hs2 W hInv a ha
     refine .inr ⟨W',hr,trivial,(fun d hd=>by rw[hg2.2]at hd;cases hd),?_⟩
     have t2:Cq L i i=true:=by simp[Cq]
     rw[t2]
     exact hp
   have h3:=hop.at hio'
   rw[Nat.zero_add]at h3
   rcases h3 with(h|h)|⟨hg,h3⟩
   · exact absurd h e1
   · exact absurd h e3
   rw[if_pos (by simp[Region.wanted,hg])]
   have q1:Cq L i s1=L s1:=by simp[Cq,Ne.symm e1]
   have q2:Cq L i s2=L s2:=by simp[Cq,Ne.symm e3]
   have hr:(execOp a.eval o).run P W=.ok (.value (vs.getD i undef)) W:=by
     rcases h3 with⟨hE,h3⟩|h3
     · obtain⟨p,hp,e,he,hb,hon⟩:=Rx hE
       have n1:L s1=false:=by
         cases h:L s1 with
         |false=>rfl
         |true=>have:=hDn s1 p hp h e he hb;rw[hon,hLi]at this;cases this
       have n2:L s2=false:=by
         cases h:L s2 with
         |false=>rfl
         |true=>have:=hDn s2 _ ho2' h e2 he2 hb2;rw[hon2,n1]at this;cases this
       rw[n1,n2]at hInv
       exact h3 W hInv a W ha (Up.refl W)
     exact h3 W a W ha (Up.refl W)
   refine .inl (.inl ⟨_,W,hr,trivial,fun _ _=>rfl,?_⟩)
   rw[q1,q2]
   exact hInv
 · simpa using h0
 intro f W _ hInv fuel' listed' a' hf' hu' ha' hsl'
 have hInv:A2 W:=by
   rw[if_pos (decide_eq_true hl2)]at hInv
   exact hInv
 have hall:∀j,j<opsL.toArray.size→listed'.getD j false=true:=fun j hj=>by rw[hu'.2 j hj];simpa using hj
 have hrd:Region.ready .any opsL.toArray listed'=[]:=by
   rw[List.eq_nil_iff_forall_not_mem]
   intro i hi
   obtain⟨o,hio,hbi,_⟩:=(Fg hu'.1).1 hi
   have:=hall i (Array.getElem?_eq_some_iff.1 hio).1
   rw[hbi]at this;cases this
 have hq:Q .normal a' W:=hend W hInv a' ⟨ha'.defers,ha'.size,fun t q ht=>by
   refine ha'.val t q ?_
   rw[Fb]
   · exact ht
   cases hq:lk (Hj opsL.toArray (fun i=>.eq (vs.getD i undef)) 0 opsL.toArray.size) t with
   |none=>rfl
   |some q'=>
     obtain⟨j,p,_,hjk,hp,hpd,_⟩:=E6 hq
     exact absurd hpd (hbd t q ht j p (Nat.zero_le _) hjk hp)⟩
 cases fuel' with
 |zero=>exact⟨hrd,hq⟩
 |succ fuel'=>exact⟨fun _=>hq,fun i hi=>by rw[hrd]at hi;cases hi⟩
end
end Go.Wx
namespace Go.Wx
section
variable {α:Type}
def swp(xs:List α)(i j:Nat):List α:=match xs[i]?,xs[j]? with
 |some x,some y=>(xs.set i y).set j x
 |_,_=>xs
theorem M1(xs:List α)(i j:Nat):(swp xs i j).length=xs.length:=by
 unfold swp
 split<;>simp
theorem Wd{xs:List α}{i j:Nat}{x y:α}(hi:xs[i]?=some x)(hj:xs[j]?=some y):swp xs i j=(xs.set i y).set j x:=by
 unfold swp;rw[hi,hj]
theorem swp_get{xs:List α}{i j:Nat}(hi:i<xs.length)(hj:j<xs.length)(q:Nat):(swp xs i j)[q]?=if q=j then xs[i]? else if q=i then xs[j]? else xs[q]?:=by
 rw[Wd (List.getElem?_eq_getElem hi) (List.getElem?_eq_getElem hj),List.getElem?_set]
 by_cases h1:j=q
 · subst h1
   rw[if_pos rfl,if_pos (by simpa using hj),if_pos rfl,List.getElem?_eq_getElem hi]
 rw[if_neg h1,if_neg (Ne.symm h1),List.getElem?_set]
 by_cases h2:i=q
 · subst h2
   rw[if_pos rfl,if_pos hi,if_pos rfl,List.getElem?_eq_getElem hj]
 rw[if_neg h2,if_neg (Ne.symm h2)]
def Tk(xs:List α)(a b:Nat):Nat→List α
 |0=>xs
 |n+1=>swp (Tk xs a b n) (a+n) (b+n)
theorem Fm(xs:List α)(a b:Nat):∀n,(Tk xs a b n).length=xs.length
 |0=>rfl
 |n+1=>by rw[Tk,M1,Fm xs a b n]
theorem L2{xs:List α}{a b:Nat}:∀{n:Nat},a+n≤b→b+n≤xs.length→∀q,(Tk xs a b n)[q]?=if a≤q∧q<a+n then xs[q-a+b]? else if b≤q∧q<b+n then xs[q-b+a]? else xs[q]?
 |0,_,_,q=>by rw[Tk,if_neg oQ,if_neg (by omega)]
 |n+1,h1,h2,q=>by
   rw[Tk,swp_get (by rw[Fm];omega) (by rw[Fm];omega)]
   rw[L2 (n:=n) oQ oQ (a+n),L2 (n:=n) oQ oQ (b+n),L2 (n:=n) oQ oQ q]
   by_cases c1:q=b+n
   · rw[if_pos c1,if_neg oQ,if_neg oQ,if_neg oQ,if_pos (by omega)]
     congr 1;omega
   rw[if_neg c1]
   by_cases c2:q=a+n
   · rw[if_pos c2,if_neg oQ,if_neg oQ,if_pos (by omega)]
     congr 1;omega
   rw[if_neg c2]
   by_cases c3:a≤q∧q<a+n
   · rw[if_pos c3,if_pos (by omega)]
   have e1:¬(a≤q∧q<a+(n+1)):=by omega
   rw[if_neg c3,if_neg e1]
   by_cases c4:b≤q∧q<b+n
   · rw[if_pos c4,if_pos (by omega)]
   have e2:¬(b≤q∧q<b+(n+1)):=by omega
   rw[if_neg c4,if_neg e2]
def Iy(xs:List α)(a m b:Nat):List α:=Ex xs a b (Cz xs m b++Cz xs a m)
theorem We{xs:List α}{a m b:Nat}(h1:a≤m)(h2:m≤b)(hb:b≤xs.length):(Cz xs m b++Cz xs a m).length=b-a:=by
 rw[List.length_append,Cd hb,Cd (by omega)];omega
theorem E8{xs:List α}{a m b:Nat}(h1:a≤m)(h2:m≤b)(hb:b≤xs.length):(Iy xs a m b).length=xs.length:=Dl oQ hb (We h1 h2 hb)
theorem Iz{xs:List α}{a m b:Nat}(h1:a≤m)(h2:m≤b)(hb:b≤xs.length)(q:Nat):(Iy xs a m b)[q]?=if q<a then xs[q]? else if q<a+(b-m)then xs[q-a+m]? else if q<b then xs[q-(b-m)]? else xs[q]?:=by
 unfold Iy
 rw[E7 oQ hb (We h1 h2 hb)]
 by_cases c1:q<a
 · rw[if_pos c1,if_pos c1]
 rw[if_neg c1,if_neg c1]
 by_cases c2:q<a+(b-m)
 · rw[if_pos oQ,if_pos c2,List.getElem?_append_left (by rw[Cd hb];omega),F7 (by omega)]
   congr 1;omega
 rw[if_neg c2]
 by_cases c3:q<b
 · rw[if_pos c3,if_pos c3,List.getElem?_append_right (by rw[Cd hb];omega),Cd hb,F7 (by omega)]
   congr 1;omega
 rw[if_neg c3,if_neg c3]
theorem sZ{xs:List α}{m i j:Nat}(hi:i≤m)(hij:j<i)(hj:0<j)(hb:m+j≤xs.length):Iy (Tk xs (m-i) m j) (m-(i-j)) m (m+j)=Iy xs (m-i) m (m+j):=by
 apply List.ext_getElem?
 intro q
 have hl:=Fm xs (m-i) m j
 rw[Iz oQ oQ (by rw[hl];exact hb),Iz oQ oQ hb]
 have g:∀q,(Tk xs (m-i) m j)[q]?=_:=fun q=>L2 oQ hb q
 rw[g,g,g]
 by_cases c1:q<m-i
 · rw[if_pos oQ,if_neg oQ,if_neg oQ,if_pos c1]
 by_cases c2:q<m-i+j
 · rw[if_pos oQ,if_pos oQ,if_neg c1,if_pos (by omega)]
 by_cases c3:q<m-(i-j)+j
 · rw[if_neg oQ,if_pos oQ,if_neg oQ,if_pos oQ,if_neg c1,if_neg oQ,if_pos (by omega)]
   congr 1;omega
 by_cases c4:q<m+j
 · rw[if_neg oQ,if_neg oQ,if_pos c4,if_neg oQ,if_neg oQ,if_neg c1,if_neg oQ,if_pos c4]
 rw[if_neg oQ,if_neg oQ,if_neg c4,if_neg oQ,if_neg oQ,if_neg c1,if_neg oQ,if_neg c4]
theorem jH{xs:List α}{m i j:Nat}(hi:i≤m)(hij:i<j)(h0:0<i)(hb:m+j≤xs.length):Iy (Tk xs (m-i) (m+j-i) i) (m-i) m (m+(j-i))=Iy xs (m-i) m (m+j):=by
 apply List.ext_getElem?
 intro q
 have hl:=Fm xs (m-i) (m+j-i) i
 rw[Iz oQ oQ (by rw[hl];omega),Iz oQ oQ hb]
 have g:∀q,(Tk xs (m-i) (m+j-i) i)[q]?=_:=fun q=>L2 oQ oQ q
 rw[g,g,g]
 by_cases c1:q<m-i
 · rw[if_pos c1,if_neg oQ,if_neg oQ,if_pos c1]
 by_cases c2:q<m-i+(j-i)
 · rw[if_neg c1,if_pos oQ,if_neg oQ,if_neg oQ,if_neg c1,if_pos (by omega)]
 by_cases c3:q<m+(j-i)
 · rw[if_neg c1,if_neg oQ,if_pos c3,if_pos oQ,if_neg c1,if_pos (by omega)]
   congr 1;omega
 by_cases c4:q<m+j
 · rw[if_neg c1,if_neg oQ,if_neg c3,if_neg oQ,if_pos oQ,if_neg c1,if_neg oQ,if_pos c4]
   congr 1;omega
 rw[if_neg c1,if_neg oQ,if_neg c3,if_neg oQ,if_neg oQ,if_neg c1,if_neg oQ,if_neg c4]
theorem nR{xs:List α}{m i:Nat}(hi:i≤m)(hb:m+i≤xs.length):Tk xs (m-i) m i=Iy xs (m-i) m (m+i):=by
 apply List.ext_getElem?
 intro q
 rw[Iz oQ oQ hb,L2 oQ hb]
 by_cases c1:q<m-i
 · rw[if_neg oQ,if_neg oQ,if_pos c1]
 by_cases c2:q<m
 · rw[if_pos oQ,if_neg c1,if_pos (by omega)]
 by_cases c3:q<m+i
 · rw[if_neg oQ,if_pos oQ,if_neg c1,if_neg oQ,if_pos c3]
   congr 1;omega
 rw[if_neg oQ,if_neg oQ,if_neg c1,if_neg oQ,if_neg c3]
theorem nS{xs:List α}{m b:Nat}(h:m≤b)(hb:b≤xs.length):Iy xs m m b=xs:=by
 rw[Iy,Fy (a:=m) (b:=m) (Nat.le_refl _),List.append_nil,Gw h hb]
theorem jI{xs:List α}{a m:Nat}(h:a≤m)(hb:m≤xs.length):Iy xs a m m=xs:=by
 rw[Iy,Fy (a:=m) (b:=m) (Nat.le_refl _),List.nil_append,Gw h hb]
def C0(A:List α)(x:α)(p:Nat):List α:=A.take p++x::A.drop p
theorem Dx(A:List α)(x:α)(p:Nat):(C0 A x p).length=A.length+1:=by simp[C0];omega
theorem M2{A:List α}{x:α}{p:Nat}(h:p≤A.length):(C0 A x p)[p]?=some x:=by
 rw[C0,List.getElem?_append_right (by simp;omega)]
 have:p-(A.take p).length=0:=by simp;omega
 rw[this];rfl
theorem Hw{A:List α}{x:α}{p q:Nat}(h:p≤A.length)(hq:q<p):(C0 A x p)[q]?=A[q]?:=by
 rw[C0,List.getElem?_append_left (by simp;omega),List.getElem?_take,if_pos hq]
theorem Hx{A:List α}{x:α}{p q:Nat}(h:p≤A.length)(hq:p<q):(C0 A x p)[q]?=A[q-1]?:=by
 rw[C0,List.getElem?_append_right (by simp;omega)]
 have e:q-(A.take p).length=(q-p-1)+1:=by simp;omega
 rw[e,List.getElem?_cons_succ,List.getElem?_drop]
 congr 1;omega
theorem Ry{A:List α}{x:α}{p:Nat}(h:p<A.length):swp (C0 A x p) p (p+1)=C0 A x (p+1):=by
 have hl:=Dx A x p
 apply List.ext_getElem?
 intro q
 rw[swp_get oQ (by omega)]
 by_cases c1:q=p+1
 · rw[if_pos c1,c1,M2 oQ,M2 (by omega)]
 rw[if_neg c1]
 by_cases c2:q=p
 · rw[if_pos c2,c2,Hx oQ oQ,Hw oQ (by omega)];simp
 rw[if_neg c2]
 by_cases c3:q<p
 · rw[Hw oQ c3,Hw oQ (by omega)]
 rw[Hx oQ oQ,Hx oQ (by omega)]
theorem nT{xs:List α}{i j:Nat}(hi:i<xs.length)(hj:j<xs.length)(hne:i≠j):swp xs i j=swp xs j i:=by
 apply List.ext_getElem?
 intro q
 rw[swp_get hi hj,swp_get hj hi]
 by_cases c1:q=j
 · rw[if_pos c1,if_neg oQ,if_pos c1]
 rw[if_neg c1]
 by_cases c2:q=i
 · rw[if_pos c2,if_pos c2]
 rw[if_neg c2,if_neg c2,if_neg c1]
theorem fY{xs ys:List α}{a b i j:Nat}(h1:a≤b)(hb:b≤xs.length)(hy:ys.length=b-a)(hi:i<ys.length)(hj:j<ys.length):swp (Ex xs a b ys) (a+i) (a+j)=Ex xs a b (swp ys i j):=by
 have hl:=Dl h1 hb hy
 have hi':a+i<(Ex xs a b ys).length:=by omega
 have hj':a+j<(Ex xs a b ys).length:=by omega
 have e1:(Ex xs a b ys)[a+i]?=ys[i]?:=by rw[E7 h1 hb hy,if_neg oQ,if_pos (by omega)];congr 1;omega
 have e2:(Ex xs a b ys)[a+j]?=ys[j]?:=by rw[E7 h1 hb hy,if_neg oQ,if_pos (by omega)];congr 1;omega
 apply List.ext_getElem?
 intro q
 rw[swp_get hi' hj' q,e1,e2,E7 h1 hb hy q,E7 h1 hb (by rw[M1];exact hy) q,swp_get hi hj]
 by_cases c0:q<a
 · rw[if_neg oQ,if_neg oQ,if_pos c0,if_pos c0]
 rw[if_neg c0,if_neg c0]
 by_cases c1:q=a+j
 · have d1:q-a=j:=by omega
   rw[if_pos c1,if_pos (show q<b by omega),if_pos d1]
 have d1:¬q-a=j:=by omega
 rw[if_neg c1,if_neg d1]
 by_cases c2:q=a+i
 · have d2:q-a=i:=by omega
   rw[if_pos c2,if_pos (show q<b by omega),if_pos d2]
 have d2:¬q-a=i:=by omega
 rw[if_neg c2,if_neg d2]
theorem Uy(A:List α)(x:α):C0 A x A.length=A++[x]:=by simp[C0]
theorem Ya(A:List α)(x:α):C0 A x 0=x::A:=by simp[C0]
theorem tA{xs:List α}{i j:Nat}(hi:i<xs.length)(hj:j<xs.length):swp (swp xs i j) i j=xs:=by
 have hl:=M1 xs i j
 apply List.ext_getElem?
 intro q
 rw[swp_get (xs:=swp xs i j) oQ oQ q,swp_get hi hj i,swp_get hi hj j,swp_get hi hj q]
 by_cases c1:q=j
 · rw[if_pos c1,c1]
   by_cases c2:i=j
   · rw[if_pos c2,c2]
   rw[if_neg c2,if_pos rfl]
 rw[if_neg c1,if_neg c1]
 by_cases c2:q=i
 · rw[if_pos c2,if_pos rfl,c2]
 rw[if_neg c2,if_neg c2]
end
theorem Yb{α:Type}{xs zs:List α}{a i:Nat}{x:α}(h1:a≤i)(hx:xs[i]?=some x)(hz:zs.length=i-a):Ex xs a (i+1) (zs++[x])=Ex xs a i zs:=by
 obtain⟨hi,e⟩:=List.getElem?_eq_some_iff.1 hx
 have hl:=Dl (ys:=zs) h1 (by omega:i≤xs.length) hz
 rw[←fX (m:=i) h1 oQ oQ hz (by simp)]
 have e2:[x]=Cz (Ex xs a i zs) i (i+1):=by
   rw[Er h1 oQ hz (.inr (Nat.le_refl _))]
   apply List.ext_getElem?
   intro q
   by_cases h:i+q<i+1
   · have:q=0:=by omega
     subst this
     rw[F7 h,Nat.add_zero,hx];rfl
   rw[List.getElem?_eq_none (by simp;omega),List.getElem?_eq_none (by rw[Cd (by omega)];omega)]
 rw[e2,Gw oQ (by omega)]
theorem K5{α:Type}{xs:List α}{a i:Nat}{x:α}(h1:a≤i)(hx:xs[i]?=some x):Cz xs a (i+1)=Cz xs a i++[x]:=by
 obtain⟨hi,e⟩:=List.getElem?_eq_some_iff.1 hx
 rw[Fx h1 oQ (by omega)]
 congr 1
 apply List.ext_getElem?
 intro q
 by_cases h:i+q<i+1
 · have:q=0:=by omega
   subst this
   rw[F7 h,Nat.add_zero,hx];rfl
 rw[List.getElem?_eq_none (by rw[Cd (by omega)];omega),List.getElem?_eq_none (by simp;omega)]
theorem Yc{α:Type}{xs zs:List α}{a b p:Nat}{x:α}(h1:a≤b)(hb:b≤xs.length)(hz:zs.length+1=b-a)(hp:p≤zs.length):(Ex xs a b (C0 zs x p))[a+p]?=some x:=by
 rw[E7 h1 hb (by rw[Dx];exact hz),if_neg oQ,if_pos (by omega)]
 have:a+p-a=p:=by omega
 rw[this,M2 hp]
theorem M3{α:Type}{xs zs:List α}{a b p q:Nat}{x:α}(h1:a≤b)(hb:b≤xs.length)(hz:zs.length+1=b-a)(hp:p≤zs.length)(hq:q<p):(Ex xs a b (C0 zs x p))[a+q]?=zs[q]?:=by
 rw[E7 h1 hb (by rw[Dx];exact hz),if_neg oQ,if_pos (by omega)]
 have:a+q-a=q:=by omega
 rw[this,Hw hp hq]
theorem Rz{α:Type}{xs zs:List α}{a b p q:Nat}{x:α}(h1:a≤b)(hb:b≤xs.length)(hz:zs.length+1=b-a)(hq:p<q)(hqz:q≤zs.length):(Ex xs a b (C0 zs x p))[a+q]?=zs[q-1]?:=by
 rw[E7 h1 hb (by rw[Dx];exact hz),if_neg oQ,if_pos (by omega)]
 have:a+q-a=q:=by omega
 rw[this,Hx oQ hq]
theorem Yd{α:Type}{xs zs:List α}{a b p:Nat}{x y:α}(h1:a≤b)(hb:b≤xs.length)(hz:zs.length+1=b-a)(hp:p<zs.length)(hy:zs[p]?=some y):((Ex xs a b (C0 zs x (p+1))).set (a+(p+1)) y).set (a+p) x=Ex xs a b (C0 zs x p):=by
 have hl:=Dx zs x (p+1)
 rw[←Wd (Yc (p:=p+1) h1 hb hz oQ) ((M3 (p:=p+1) h1 hb hz oQ (show p<p+1 by omega)).trans hy),fY h1 hb (by rw[hl];exact hz) oQ oQ,nT oQ oQ oQ,←Ry hp,tA (by rw[Dx];omega) (by rw[Dx];omega)]
theorem yO{α:Type}{xs zs:List α}{a b p:Nat}{x y:α}(h1:a≤b)(hb:b≤xs.length)(hz:zs.length+1=b-a)(hp:p<zs.length)(hy:zs[p]?=some y):((Ex xs a b (C0 zs x p)).set (a+p) y).set (a+(p+1)) x=Ex xs a b (C0 zs x (p+1)):=by
 have hl:=Dx zs x p
 rw[←Wd (Yc h1 hb hz oQ) ((Rz (q:=p+1) h1 hb hz (show p<p+1 by omega) oQ).trans hy),fY h1 hb (by rw[hl];exact hz) oQ oQ,Ry hp]
theorem StS.snoc{α:Type}{key:α→K2}{L zs:List α}{x:α}{p:Nat}(h:StS key L zs)(hp:p≤zs.length)(hgt:∀y∈zs.drop p,G6 (key x) (key y)=true)(hle:p=0∨∃y,zs[p-1]?=some y∧G6 (key x) (key y)=false):StS key (L++[x]) (C0 zs x p):=by
 have h1:StS key (zs++[x]) (C0 zs x p):=StS.put h.ord hgt (fun y hy=>by
   rcases hle with rfl|⟨z,hz,hzl⟩
   · simp at hy
   obtain⟨q,hq,rfl⟩:=List.mem_iff_getElem.1 hy
   rw[List.getElem_take]
   have hq':q<p:=by simp at hq;omega
   obtain⟨hz1,rfl⟩:=List.getElem?_eq_some_iff.1 hz
   rcases Nat.lt_or_ge q (p-1)with h3|h3
   · exact Jn (List.pairwise_iff_getElem.1 h.ord q (p-1) oQ hz1 h3) hzl
   have:q=p-1:=by omega
   subst this
   exact hzl)
 exact⟨h1.ord,(h.same.jG (sameF.refl [x])).trans h1.same⟩
theorem tB{α:Type}{key:α→K2}{l:List α}(h:l.length≤1):Jf key l:=by
 match l,h with
 |[],_=>exact List.Pairwise.nil
 |[x],_=>exact List.pairwise_singleton _ _
 |_::_::_,h=>simp at h
theorem jJ{α:Type}{zs:List α}{p:Nat}{y:α}{P:α→Prop}(hp:1≤p)(hy:zs[p-1]?=some y)(h:∀z∈zs.drop p,P z)(hP:P y):∀z∈zs.drop (p-1),P z:=by
 obtain⟨h1,rfl⟩:=List.getElem?_eq_some_iff.1 hy
 rw[List.drop_eq_getElem_cons h1,show p-1+1=p by omega]
 intro z hz
 rcases List.mem_cons.1 hz with rfl|hz
 · exact hP
 exact h z hz
section
variable {α:Type}{key:α→K2}
theorem I0{xs:List α}{a b c d:Nat}(h:Jf key (Cz xs a b))(h1:a≤c)(h2:d≤b):Jf key (Cz xs c d):=by
 have e:(xs.take d).drop c=((xs.take d).drop a).drop (c-a):=by rw[List.drop_drop];congr 1;omega
 have p:xs.take d=(xs.take b).take d:=by rw[List.take_take,Nat.min_eq_left h2]
 have q:((xs.take d).drop a).Sublist ((xs.take b).drop a):=by
   rw[p,List.drop_take]
   exact List.take_sublist _ _
 have r:(Cz xs c d).Sublist (Cz xs a b):=by
   unfold Cz
   rw[e]
   exact(List.drop_sublist _ _).trans q
 exact List.Pairwise.sublist r h
theorem I5{xs:List α}{a b p q:Nat}{u v:α}(h:Jf key (Cz xs a b))(h1:a≤p)(h2:p≤q)(h3:q<b)(hu:xs[p]?=some u)(hv:xs[q]?=some v):G6 (key v) (key u)=false:=by
 rcases Nat.lt_or_ge p q with hl|hl
 · have e1:(Cz xs a b)[p-a]?=some u:=by rw[F7 (by omega)];rw[show a+(p-a)=p by omega];exact hu
   have e2:(Cz xs a b)[q-a]?=some v:=by rw[F7 (by omega)];rw[show a+(q-a)=q by omega];exact hv
   obtain⟨i1,rfl⟩:=List.getElem?_eq_some_iff.1 e1
   obtain⟨i2,rfl⟩:=List.getElem?_eq_some_iff.1 e2
   exact List.pairwise_iff_getElem.1 h _ _ i1 i2 oQ
 have:p=q:=by omega
 subst this
 rw[hu]at hv;cases hv
 exact J5 _
theorem I7{xs:List α}{a b:Nat}{x:α}(hb:b≤xs.length)(h:x∈Cz xs a b):∃q,a≤q∧q<b∧xs[q]?=some x:=by
 obtain⟨i,e⟩:=List.mem_iff_getElem?.1 h
 have hi:=(List.getElem?_eq_some_iff.1 e).1
 rw[Cd hb]at hi
 rw[F7 (by omega)]at e
 exact⟨a+i,by omega,by omega,e⟩
theorem nU{xs:List α}{a mm b s e:Nat}(hA:Jf key (Cz xs a mm))(hB:Jf key (Cz xs mm b))(h2:s≤mm)(h3:mm≤e)(hb:b≤xs.length)
   (h:s≤a∨b≤e∨∃u v,xs[e]?=some u∧xs[s-1]?=some v∧G6 (key u) (key v)=false):∀x∈Cz xs a s,∀y∈Cz xs e b,G6 (key y) (key x)=false:=by
 intro x hx y hy
 rcases h with h|h|⟨u,v,hu,hv,hl⟩
 · rw[Fy h]at hx;simp at hx
 · rw[Fy h]at hy;simp at hy
 obtain⟨p,p1,p2,hp⟩:=I7 (by have:=(List.getElem?_eq_some_iff.1 hv).1;omega) hx
 obtain⟨q,q1,q2,hq⟩:=I7 hb hy
 have a1:=I5 hA p1 (show p≤s-1 by omega) oQ hp hv
 have a2:=I5 hB (show mm≤e by omega) q1 q2 hu hq
 exact Jn (Jn a1 hl) a2
theorem nV{xs:List α}{a mm b s e:Nat}(hA:Jf key (Cz xs a mm))(hB:Jf key (Cz xs mm b))(h1:a≤s)(h4:e≤b)(hb:b≤xs.length)(hmb:mm≤b)
   (h:mm≤s∨e≤mm∨∃u v,xs[e-1]?=some u∧xs[s]?=some v∧G6 (key u) (key v)=true):∀v∈Cz xs mm e,∀u∈Cz xs s mm,G6 (key v) (key u)=true:=by
 intro x hx y hy
 rcases h with h|h|⟨u,v,hu,hv,hl⟩
 · rw[Fy h]at hy;simp at hy
 · rw[Fy h]at hx;simp at hx
 obtain⟨p,p1,p2,hp⟩:=I7 oQ hx
 obtain⟨q,q1,q2,hq⟩:=I7 oQ hy
 have a1:=I5 hB p1 (show p≤e-1 by omega) oQ hp hu
 have a2:=I5 hA h1 q1 q2 hv hq
 exact Wb (fU a1 hl) a2
theorem Ye{xs:List α}{s mm e:Nat}(h1:s≤mm)(h2:mm≤e)(hb:e≤xs.length):Cz (Iy xs s mm e) s (s+(e-mm))=Cz xs mm e:=by
 have hl:=E8 h1 h2 hb
 apply List.ext_getElem?
 intro i
 by_cases h:i<e-mm
 · rw[F7 oQ,F7 oQ,Iz h1 h2 hb,if_neg oQ,if_pos (by omega)]
   congr 1;omega
 rw[List.getElem?_eq_none (by rw[Cd (by omega)];omega),List.getElem?_eq_none (by rw[Cd hb];omega)]
theorem Yf{xs:List α}{s mm e:Nat}(h1:s≤mm)(h2:mm≤e)(hb:e≤xs.length):Cz (Iy xs s mm e) (s+(e-mm)) e=Cz xs s mm:=by
 have hl:=E8 h1 h2 hb
 apply List.ext_getElem?
 intro i
 by_cases h:i<mm-s
 · rw[F7 oQ,F7 oQ,Iz h1 h2 hb,if_neg oQ,if_neg oQ,if_pos (by omega)]
   congr 1;omega
 rw[List.getElem?_eq_none (by rw[Cd (by omega)];omega),List.getElem?_eq_none (by rw[Cd (by omega)];omega)]
theorem Qm{xs:List α}{s mm e c d:Nat}(h1:s≤mm)(h2:mm≤e)(hb:e≤xs.length)(h:d≤s∨e≤c):Cz (Iy xs s mm e) c d=Cz xs c d:=Er oQ hb (We h1 h2 hb) h
theorem tC{xs zs:List α}{a b s mm e:Nat}(h0:a≤s)(h1:s≤mm)(h2:mm≤e)(h3:e≤b)(hb:b≤xs.length)(hz:zs.length=b-a):Ex (Iy xs s mm e) a b zs=Ex xs a b zs:=by
 have hl:=E8 h1 h2 (by omega:e≤xs.length)
 apply List.ext_getElem?
 intro q
 rw[E7 oQ oQ hz,E7 oQ hb hz,Iz h1 h2 (by omega)]
 by_cases c1:q<a
 · rw[if_pos c1,if_pos c1,if_pos (by omega)]
 rw[if_neg c1,if_neg c1]
 by_cases c2:q<b
 · rw[if_pos c2,if_pos c2]
 rw[if_neg c2,if_neg c2,if_neg oQ,if_neg oQ,if_neg (by omega)]
theorem Yg{xs:List α}{a s mm e mid:Nat}(h0:a≤s)(h1:s≤mm)(h2:mm≤e)(hb:e≤xs.length)(hm:mid=s+(e-mm)):Cz (Iy xs s mm e) a mid=Cz xs a s++Cz xs mm e:=by
 subst hm
 rw[Fx (m:=s) h0 oQ (by rw[E8 h1 h2 hb];omega),Qm h1 h2 hb (.inl (Nat.le_refl _)),Ye h1 h2 hb]
theorem Uz{xs:List α}{s mm e b mid:Nat}(h1:s≤mm)(h2:mm≤e)(h3:e≤b)(hb:b≤xs.length)(hm:mid=s+(e-mm)):Cz (Iy xs s mm e) mid b=Cz xs s mm++Cz xs e b:=by
 subst hm
 rw[Fx (m:=e) oQ h3 (by rw[E8 h1 h2 (by omega)];omega),Qm h1 h2 oQ (.inr (Nat.le_refl _)),Yf h1 h2 (by omega)]
theorem Yh{xs X Y:List α}{a mm b s e mid:Nat}(h0:a≤s)(h1:s≤mm)(h2:mm≤e)(h3:e≤b)(hb:b≤xs.length)(hm:mid=s+(e-mm))(hA:Jf key (Cz xs a mm))(hB:Jf key (Cz xs mm b))
   (k1:∀x∈Cz xs a s,∀y∈Cz xs e b,G6 (key y) (key x)=false)(k2:∀v∈Cz xs mm e,∀u∈Cz xs s mm,G6 (key v) (key u)=true)
   (hX:StS key (Cz (Iy xs s mm e) a mid) X)(hY:StS key (Cz (Ex (Iy xs s mm e) a mid X) mid b) Y):StS key (Cz xs a b) (X++Y)∧Ex (Ex (Iy xs s mm e) a mid X) mid b Y=Ex xs a b (X++Y):=by
 have hl:=E8 h1 h2 (by omega:e≤xs.length)
 have hXl:X.length=mid-a:=by rw[hX.same.length,Cd (by omega)]
 rw[Er oQ oQ hXl (.inr (Nat.le_refl _))]at hY
 have hYl:Y.length=b-mid:=by rw[hY.same.length,Cd (by omega)]
 rw[Yg h0 h1 h2 oQ hm]at hX
 rw[Uz h1 h2 h3 hb hm]at hY
 have eA:Cz xs a s++Cz xs s mm=Cz xs a mm:=(Fx h0 h1 oQ).symm
 have eB:Cz xs mm e++Cz xs e b=Cz xs mm b:=(Fx h2 h3 hb).symm
 refine⟨?_,?_⟩
 · have:=bT (by rw[eA];exact hA) (by rw[eB];exact hB) k1 k2 hX hY
   rw[eA,eB,←Fx oQ oQ hb]at this
   exact this
 rw[fX oQ oQ oQ hXl hYl,tC h0 h1 h2 h3 hb (by rw[List.length_append];omega)]
theorem tD{xs:List α}{a b i:Nat}{x:α}(hb:b≤xs.length)(hx:xs[a]?=some x)(hab:a+1≤i)(hib:i≤b)(hB:Jf key (Cz xs (a+1) b))(hL:∀q y,a+1≤q→q<i→xs[q]?=some y→G6 (key y) (key x)=true)(hR:∀q y,i≤q→q<b→xs[q]?=some y→G6 (key y) (key x)=false):
   StS key (Cz xs a b) (C0 (Cz xs (a+1) b) x (i-(a+1))):=by
 have e:Cz xs a b=x::Cz xs (a+1) b:=by
   rw[Fx (m:=a+1) oQ oQ hb,K5 (Nat.le_refl a) hx,Fy (Nat.le_refl a)];rfl
 have t:(Cz xs (a+1) b).take (i-(a+1))=Cz xs (a+1) i:=by
   unfold Cz
   rw[List.take_drop,List.take_take,show a+1+(i-(a+1))=i by omega,Nat.min_eq_left hib]
 have d:(Cz xs (a+1) b).drop (i-(a+1))=Cz xs i b:=by
   unfold Cz
   rw[List.drop_drop,show a+1+(i-(a+1))=i by omega]
 rw[e]
 refine nQ hB (fun y hy=>?_) (fun y hy=>?_)
 · rw[t]at hy
   obtain⟨q,q1,q2,hq⟩:=I7 oQ hy
   exact hL q y q1 q2 hq
 rw[d]at hy
 obtain⟨q,q1,q2,hq⟩:=I7 hb hy
 exact hR q y q1 q2 hq
theorem nW{xs:List α}{a m i:Nat}{x:α}(hx:xs[m]?=some x)(h1:a≤i)(h2:i≤m)(hA:Jf key (Cz xs a m))(hL:∀q y,a≤q→q<i→xs[q]?=some y→G6 (key x) (key y)=false)(hR:∀q y,i≤q→q<m→xs[q]?=some y→G6 (key x) (key y)=true):
   StS key (Cz xs a (m+1)) (C0 (Cz xs a m) x (i-a)):=by
 have hm:=(List.getElem?_eq_some_iff.1 hx).1
 have t:(Cz xs a m).take (i-a)=Cz xs a i:=by
   unfold Cz
   rw[List.take_drop,List.take_take,show a+(i-a)=i by omega,Nat.min_eq_left h2]
 have d:(Cz xs a m).drop (i-a)=Cz xs i m:=by
   unfold Cz
   rw[List.drop_drop,show a+(i-a)=i by omega]
 rw[K5 oQ hx]
 refine StS.put hA (fun y hy=>?_) (fun y hy=>?_)
 · rw[d]at hy
   obtain⟨q,q1,q2,hq⟩:=I7 oQ hy
   exact hR q y q1 q2 hq
 rw[t]at hy
 obtain⟨q,q1,q2,hq⟩:=I7 oQ hy
 exact hL q y q1 q2 hq
theorem nX{xs:List α}{s mm e:Nat}(h:¬(s<mm∧mm<e))(h1:s≤mm)(h2:mm≤e)(hb:e≤xs.length):Iy xs s mm e=xs:=by
 rcases Nat.lt_or_ge s mm with h3|h3
 · have:e=mm:=by omega
   subst this
   exact jI h1 hb
 have:s=mm:=by omega
 subst this
 exact nS h2 hb
theorem jK{xs:List α}{a mm b s e mid:Nat}(hA:Jf key (Cz xs a mm))(hB:Jf key (Cz xs mm b))(h0:a≤s)(h1:s≤mm)(h2:mm≤e)(h3:e≤b)(hb:b≤xs.length)(hm:mid=s+(e-mm))(h:¬(a<s∧s<mid)):Jf key (Cz (Iy xs s mm e) a mid):=by
 rw[Yg h0 h1 h2 oQ hm]
 rcases Nat.lt_or_ge a s with h4|h4
 · rw[Fy (show e≤mm by omega),List.append_nil]
   exact I0 hA (Nat.le_refl _) h1
 rw[Fy h4,List.nil_append]
 exact I0 hB (Nat.le_refl _) h3
theorem jL{xs X:List α}{a mm b s e mid:Nat}(hA:Jf key (Cz xs a mm))(hB:Jf key (Cz xs mm b))(h0:a≤s)(h1:s≤mm)(h2:mm≤e)(h3:e≤b)(hb:b≤xs.length)(hm:mid=s+(e-mm))(hX:X.length=mid-a)(h:¬(mid<e∧e<b)):Jf key (Cz (Ex (Iy xs s mm e) a mid X) mid b):=by
 have hl:=E8 h1 h2 (by omega:e≤xs.length)
 rw[Er oQ oQ hX (.inr (Nat.le_refl _)),Uz h1 h2 h3 hb hm]
 rcases Nat.lt_or_ge mid e with h4|h4
 · rw[Fy (show b≤e by omega),List.append_nil]
   exact I0 hA h0 (Nat.le_refl _)
 rw[Fy (show mm≤s by omega),List.nil_append]
 exact I0 hB h2 (Nat.le_refl _)
theorem fZ{xs:List α}{a mm b s e mid:Nat}(hA:Jf key (Cz xs a mm))(hB:Jf key (Cz xs mm b))(h1:s≤mm)(h2:mm≤e)(h3:e≤b)(hb:b≤xs.length)(hm:mid=s+(e-mm)):Jf key (Cz (Iy xs s mm e) a s)∧Jf key (Cz (Iy xs s mm e) s mid):=by
 subst hm
 rw[Qm h1 h2 oQ (.inl (Nat.le_refl _)),Ye h1 h2 (by omega)]
 exact⟨I0 hA (Nat.le_refl _) h1,I0 hB (Nat.le_refl _) h3⟩
theorem gA{xs X:List α}{a mm b s e mid:Nat}(hA:Jf key (Cz xs a mm))(hB:Jf key (Cz xs mm b))(h0:a≤s)(h1:s≤mm)(h2:mm≤e)(h3:e≤b)(hb:b≤xs.length)(hm:mid=s+(e-mm))(hX:X.length=mid-a):Jf key (Cz (Ex (Iy xs s mm e) a mid X) mid e)∧Jf key (Cz (Ex (Iy xs s mm e) a mid X) e b):=by
 have hl:=E8 h1 h2 (by omega:e≤xs.length)
 rw[Er oQ oQ hX (.inr (Nat.le_refl _)),Er oQ oQ hX (.inr oQ),Qm h1 h2 oQ (.inr (Nat.le_refl _))]
 subst hm
 rw[Yf h1 h2 (by omega)]
 exact⟨I0 hA h0 (Nat.le_refl _),I0 hB h2 (Nat.le_refl _)⟩
def Bks(key:α→K2)(ys:List α)(B:Nat):Prop:=∀i,Jf key (Cz ys (B*i) (min (B*i+B) ys.length))
def Ins(key:α→K2)(ys:List α)(B a:Nat):Prop:=(∃q,a=B*q)∧∀i,B*(i+1)≤a→Jf key (Cz ys (B*i) (B*i+B))
def Mrg(key:α→K2)(ys:List α)(B a:Nat):Prop:=Ins key ys (2*B) a∧∀i,a≤B*i→Jf key (Cz ys (B*i) (min (B*i+B) ys.length))
theorem Ins.zero(ys:List α)(B:Nat)(hB:0<B):Ins key ys B 0:=⟨⟨0,rfl⟩,fun i h=>by
 rw[Nat.mul_add,Nat.mul_one]at h
 omega⟩
theorem Ins.step{ys zs:List α}{B a:Nat}(hB:0<B)(h:Ins key ys B a)(hb:a+B≤ys.length)(hz:StS key (Cz ys a (a+B)) zs):Ins key (Ex ys a (a+B) zs) B (a+B):=by
 obtain⟨⟨q,rfl⟩,hs⟩:=h
 have hzl:zs.length=B*q+B-B*q:=by rw[hz.same.length,Cd hb]
 refine⟨⟨q+1,by rw[Nat.mul_add,Nat.mul_one]⟩,fun i hi=>?_⟩
 have hle:i≤q:=by
   have:B*(i+1)≤B*(q+1):=by rw[Nat.mul_add B q 1,Nat.mul_one];exact hi
   have:=Nat.le_of_mul_le_mul_left this hB
   omega
 rcases Nat.lt_or_ge i q with h|h
 · have h1:B*(i+1)≤B*q:=Nat.mul_le_mul_left B h
   rw[Er oQ hb hzl (.inl (by rw[Nat.mul_add,Nat.mul_one]at h1;exact h1))]
   exact hs i h1
 have:i=q:=by omega
 subst this
 rw[fW oQ hb hzl]
 exact hz.ord
theorem Ins.last{ys zs:List α}{B a:Nat}(h:Ins key ys B a)(ha:a≤ys.length)(hb:ys.length<a+B)(hz:StS key (Cz ys a ys.length) zs):Bks key (Ex ys a ys.length zs) B:=by
 obtain⟨⟨q,rfl⟩,hs⟩:=h
 have hzl:zs.length=ys.length-B*q:=by rw[hz.same.length,Cd (Nat.le_refl _)]
 have hl:=Dl ha (Nat.le_refl _) hzl
 intro i
 rw[hl]
 rcases Nat.lt_trichotomy i q with h|h|h
 · have h1:B*(i+1)≤B*q:=Nat.mul_le_mul_left B h
   have h2:B*i+B≤B*q:=by rw[Nat.mul_add,Nat.mul_one]at h1;exact h1
   rw[Nat.min_eq_left oQ,Er ha (Nat.le_refl _) hzl (.inl h2)]
   exact hs i h1
 · subst h
   rw[Nat.min_eq_right oQ,fW ha (Nat.le_refl _) hzl]
   exact hz.ord
 have h1:B*(q+1)≤B*i:=Nat.mul_le_mul_left B h
 rw[Nat.mul_add,Nat.mul_one]at h1
 rw[Fy (by omega)]
 exact List.Pairwise.nil
theorem Mrg.start{ys:List α}{B:Nat}(hB:0<B)(h:Bks key ys B):Mrg key ys B 0:=⟨Ins.zero ys (2*B) oQ,fun i _=>h i⟩
theorem Mrg.pre{ys:List α}{B a:Nat}(h:Mrg key ys B a)(hb:2*B+a≤ys.length):Jf key (Cz ys a (a+B))∧Jf key (Cz ys (a+B) (2*B+a)):=by
 obtain⟨⟨⟨q,hq⟩,_⟩,hs⟩:=h
 have e1:a=B*(2*q):=by rw[hq,Nat.mul_comm 2 B,Nat.mul_assoc]
 have e2:a+B=B*(2*q+1):=by rw[Nat.mul_add,Nat.mul_one,←e1]
 have h1:=hs (2*q) oQ
 have h2:=hs (2*q+1) oQ
 rw[←e1,Nat.min_eq_left (by omega)]at h1
 rw[←e2,Nat.min_eq_left oQ,show a+B+B=2*B+a by omega]at h2
 exact⟨h1,h2⟩
theorem Mrg.step{ys zs:List α}{B a:Nat}(hB:0<B)(h:Mrg key ys B a)(hb:2*B+a≤ys.length)(hz:StS key (Cz ys a (2*B+a)) zs):Mrg key (Ex ys a (2*B+a) zs) B (2*B+a):=by
 have e:2*B+a=a+2*B:=by omega
 rw[e]at hb hz⊢
 have hzl:zs.length=a+2*B-a:=by rw[hz.same.length,Cd hb]
 refine⟨h.1.step oQ hb hz,fun i hi=>?_⟩
 rw[Dl oQ hb hzl,Er oQ hb hzl (.inr hi)]
 exact h.2 i oQ
theorem Mrg.FA{ys:List α}{B a:Nat}(h:Mrg key ys B a)(h1:a+B<ys.length)(hb:ys.length<2*B+a):Jf key (Cz ys a (a+B))∧Jf key (Cz ys (a+B) ys.length):=by
 obtain⟨⟨⟨q,hq⟩,_⟩,hs⟩:=h
 have e1:a=B*(2*q):=by rw[hq,Nat.mul_comm 2 B,Nat.mul_assoc]
 have e2:a+B=B*(2*q+1):=by rw[Nat.mul_add,Nat.mul_one,←e1]
 have k1:=hs (2*q) oQ
 have k2:=hs (2*q+1) oQ
 rw[←e1,Nat.min_eq_left (by omega)]at k1
 rw[←e2,Nat.min_eq_right (by omega)]at k2
 exact⟨k1,k2⟩
theorem Mrg.last{ys zs:List α}{B a:Nat}(h:Mrg key ys B a)(ha:a≤ys.length)(hb:ys.length<2*B+a)(hz:StS key (Cz ys a ys.length) zs):Bks key (Ex ys a ys.length zs) (2*B):=h.1.last ha oQ hz
theorem Mrg.done{ys:List α}{B a:Nat}(h:Mrg key ys B a)(ha:a≤ys.length)(hb:ys.length<2*B+a)(h1:¬a+B<ys.length):Bks key ys (2*B):=by
 have hs:Jf key (Cz ys a ys.length):=by
   obtain⟨⟨⟨q,hq⟩,_⟩,hs⟩:=h
   have e1:a=B*(2*q):=by rw[hq,Nat.mul_comm 2 B,Nat.mul_assoc]
   have k1:=hs (2*q) oQ
   rw[←e1,Nat.min_eq_right (by omega)]at k1
   exact k1
 have:=h.last ha hb (StS.refl hs)
 rwa [Gw ha (Nat.le_refl _)]at this
theorem Bks.all{xs ys:List α}{B:Nat}(h:Bks key ys B)(hB:ys.length≤B)(hs:sameF key xs ys):StS key xs ys:=by
 have:=h 0
 rw[Nat.mul_zero,Nat.zero_add,Nat.min_eq_right hB,sY]at this
 exact⟨this,hs⟩
theorem sameF.step{xs ys zs:List α}{a b:Nat}(h:sameF key xs ys)(h1:a≤b)(hb:b≤ys.length)(hz:StS key (Cz ys a b) zs):sameF key xs (Wx.Ex ys a b zs):=h.trans (sameF.Ex h1 hb hz.same)
def jM(key:α→K2)(x:α):List α→List α
 |[]=>[x]
 |y::l=>if G6 (key x) (key y)=true then x::y::l else y::jM key x l
def I8(key:α→K2)(l:List α):List α:=l.foldl (fun acc x=>jM key x acc) []
theorem Yi(x:α):∀(l:List α),Jf key l→∃p,jM key x l=C0 l x p∧p≤l.length∧(∀y∈l.drop p,G6 (key x) (key y)=true)∧(p=0∨∃y,l[p-1]?=some y∧G6 (key x) (key y)=false)
 |[],_=>⟨0,rfl,Nat.le_refl _,by simp,.inl rfl⟩
 |y::l,h=>by
   unfold jM
   split
   · rename_i hlt
     refine⟨0,by simp[C0],Nat.zero_le _,fun z hz=>?_,.inl rfl⟩
     rcases List.mem_cons.1 (by simpa using hz:z∈y::l)with rfl|hz
     · exact hlt
     exact Wb hlt ((List.pairwise_cons.1 h).1 z hz)
   rename_i hlt
   obtain⟨p,e,hp,h1,h2⟩:=Yi x l (List.pairwise_cons.1 h).2
   refine⟨p+1,by rw[e];rfl,by simpa using hp,by simpa using h1,.inr ?_⟩
   rcases h2 with rfl|⟨z,hz,hl⟩
   · exact⟨y,rfl,by simpa using hlt⟩
   refine⟨z,?_,hl⟩
   have:0<p:=by
     rcases Nat.eq_zero_or_pos p with rfl|h
     · rw[Nat.zero_sub]at hz
       cases l with
       |nil=>simp at hz
       |cons w l=>
         exfalso
         simp at hz;subst hz
         have:=h1 w (by simp)
         rw[hl]at this;cases this
     exact h
   rw[show p+1-1=(p-1)+1 by omega,List.getElem?_cons_succ]
   exact hz
theorem Ge(l:List α):StS key l (I8 key l):=by
 suffices h:∀(r done acc:List α),StS key done acc→StS key (done++r) (r.foldl (fun acc x=>jM key x acc) acc)by
   have:=h l [] [] ⟨List.Pairwise.nil,fun _=>rfl⟩
   simpa[I8]using this
 intro r
 induction r with
 |nil=>intro done acc h;simpa using h
 |cons x r ih=>
   intro done acc h
   obtain⟨p,e,hp,h1,h2⟩:=Yi (key:=key) x acc h.ord
   have:=ih (done++[x]) (jM key x acc) (by rw[e];exact h.snoc hp h1 h2)
   simpa using this
theorem StS.eq{l s:List α}(h:StS key l s):s=I8 key l:=h.unique (Ge l)
end
end Go.Wx
