import Derived.Test.YtbcnnkfopoiifaaGreatDoorKR19
import Derived.Lib.Bytealg
namespace Go.Wx
open Go.RowKit
def PhU(q:Ph):Prop:=∀v w w',q.holds v w→Up w w'→q.holds v w'
theorem PhU.eq(v:Value):PhU (.eq v):=fun _ _ _ h _=>h
theorem nm{v:Value}:PhU (.eq v):=PhU.eq _
theorem PhU.pred{p:Value→World→Prop}(h:∀v w w',p v w→Up w w'→p v w'):PhU (.pred p):=h
def allU:List Ph→Prop
 |[]=>True
 |q::r=>PhU q∧allU r
theorem allU.at:∀{l:List Ph},allU l→∀i,PhU (l.getD i (.eq undef))
 |[],_,_=>by simpa using PhU.eq undef
 |_::_,h,0=>by simpa using h.1
 |_::_,h,i+1=>by simpa using allU.at h.2 i
section
variable {R:Option Nat}{m:Nat}{P:Program}{n:Nat}{ds:List Deferred}{Q:Exit→Go.Act→World→Prop}{l:Env}{w:World}{ops:Array Oper}
theorem Eo{id:Nat}{opsL:List Oper}(k:Nat)(phs:List Ph)(keep:List Nat)(hm:P.follows .mixedOrders=true)(hl:Cf l=true)
   (hA:Ea opsL.toArray=true)(hC:(Nat.beq k opsL.toArray.size||Fm opsL.toArray k)=true)(hF:I8 opsL.toArray k=true)(hks:Nat.ble k opsL.toArray.size=true)(hD:Ht n opsL.toArray 0 k=true)(hTl:Hq opsL.toArray k=true)
   (hfree:K5 l (opsL.take k)=true)(hph:allU phs)
   (hop:∀W,Up w.drew W→allL (fun i o=>o.guard=none∧TU P n ds (Py opsL.toArray (fun i=>phs.getD i (.eq undef)) 0 o++l) W o (phs.getD i (.eq undef))) 0 (opsL.take k))
   (hend:∀W(g:Nat→Value),Up w.drew W→(∀i o d,i<k→opsL[i]?=some o→o.dst=some d→(phs.getD i (.eq undef)).holds (g d) W)→LW R m P n ds opsL.toArray Q (opsL.drop k) (keep.map (fun d=>(d,.eq (g d)))++l) W):
   CW R m P n ds (.region id opsL.toArray true) Q l w:=by
 have hks':k≤opsL.length:=by have:=ah hks;simp at this;omega
 have sub:∀j o,j<k→opsL.toArray[j]?=some o→(opsL.take k)[j]?=some o:=fun j o hjk ho=>by
   rw[cz hjk];simpa using ho
 have hbd:∀i ph,lk l i=some ph→∀(j:Nat)(o:Oper),0≤j→j<k→opsL.toArray[j]?=some o→o.dst≠some i:=fun i ph hi j o _ hjk ho=>Gz hfree hi (am (sub j o hjk ho))
 refine Ga hm hl fun fuel listed a hf hu ha=>(Kl (k:=k) (fun i=>phs.getD i (.eq undef)) Up (fun _ _ _=>True) (f0:=fun t=>a.tmps.getD t undef) Up.refl (fun _ _ _=>Up.trans) (fun i v w w' h u=>(hph.at i) v w w' h u) hA hC hF hks (by simp) hD hl hbd ?_ trivial ?_ fuel listed a hf hu ha (fun _=>rfl))
 · intro i o _ hi hio L f W hU hDn hLi hed _ a ha hsl
   have h3:=(hop W hU).at (sub i o hi hio)
   rw[dp]at h3
   obtain⟨hg,h3⟩:=h3
   rw[ak (by simp[Region.wanted,hg])]
   have done:∀v W',Up W W'∧(phs.getD i (.eq undef)).holds v W'→Up W W'∧(∀d,o.dst=some d→(phs.getD i (.eq undef)).holds v W')∧True:=fun v W' h=>⟨h.1,fun _ _=>h.2,trivial⟩
   rcases h3 a ha with⟨v,W',hr,hp⟩|⟨fn,args,w1,hr,hc⟩
   · exact .inl (.inl ⟨v,W',hr,done v W' hp⟩)
   exact .inl (.inr ⟨fn,args,w1,hr,hc.mono done⟩)
 intro f W hUp _ fuel' listed' a' hf' hu' ha' hsl'
 have key:∀i o d,i<k→opsL[i]?=some o→o.dst=some d→(phs.getD i (.eq undef)).holds (f d) W:=by
   intro i o d hik ho hd
   have ho':opsL.toArray[i]?=some o:=by simpa using ho
   have hmem:(d,phs.getD i (.eq undef))∈Hu opsL.toArray (fun i=>phs.getD i (.eq undef)) 0 k:=by
     unfold Hu
     rw[ef]
     exact⟨i,bl.2 hik,by rw[ak (by simp),ho'];simp[hd]⟩
   obtain⟨q',hq⟩:=Hj hmem
   obtain⟨j,p,_,hjk,hp,hpd,e⟩:=F2 hq
   have:j=i:=by
     by_cases ee:j=i
     · exact ee
     exact absurd hpd ((D7 hD (ao _) hik ho' hd).2 j p (ao _) hjk ee hp)
   subst this
   have:=ha'.val d q' (Km hq)
   rw[hsl',e]at this
   exact this
 refine Gb hTl hA (opsL.toArray.size-k) k fuel' listed' a' W rfl (by simp;omega) (av _) hf' hu' (hend W f hUp key a' ⟨ha'.defers,ha'.size,fun t q ht=>?_⟩)
 rcases C3 ht with h|h
 · obtain⟨d,_,he⟩:=aq.1 (J2 h)
   cases he
   exact hsl' _
 refine ha'.val t q ?_
 rw[Hw]
 · exact h
 cases hq:lk (Hu opsL.toArray (fun i=>phs.getD i (.eq undef)) 0 k) t with
 |none=>rfl
 |some q'=>
   obtain⟨j,p,_,hjk,hp,hpd,_⟩:=F2 hq
   exact absurd hpd (hbd t q h j p (ao _) hjk hp)
end
section
variable {P:Program}{n:Nat}{ds:List Deferred}{l:Env}{w:World}{d:Option Tmp}{ty:TypeId}{ps:String}{af:Array Edge}{g:Option (Nat×Bool)}
theorem PEv.fK{S i:Nat}{x:Operand}{fs:Array Field}{f:Field}{off:Nat}{cs:Array Value}{v:Value}(hS:P.underlying S=some (.struct fs))(hf:fs[i]?=some f)(ho:f.offset=off)(hA:∀w,(isAgg f.type).run P w=.ok false w)(hx:Val l x (.agg cs))(hv:cs[off]?=some v):
   PEv P n ds l w ⟨d,.field S x i,ty,ps,af,g⟩ v:=fun a w' ha _=>by
 refine Cp ?_
 rw[ha.ev hx]
 simp[Instr.field,run_underlying hS,Sem.run_bind,hf,asAgg,part,hA,ho,hv,Result.andThen]
theorem V9{f:FuncId}{fn:Func}(hf:P.funcs[f]?=some fn)(h1:(fn.name== "runtime.NumGoroutine")=false)(h2:fn.body.isNone=true)(h3:Extern.findNext fn=none)(h4:Extern.find fn=some Extern.BytealgCompare.compare)(a b:ByteArray)(w:World):
   (callFunc f [.string a,.string b].toArray).run P w=.ok (.value (vi (Lib.compareBytes a.data.toList b.data.toList))) w:=by
 rw[run_callFunc_extern hf h1 h2 h3 h4]
 have:=Lib.run_compareString (P:=P) a b w
 show(Sem.run P (Extern.BytealgCompare.compare #[.string a,.string b]) w).andThen _=_
 rw[this]
 rfl
end
end Go.Wx
namespace Go.Wx
abbrev K2:=Int×Int
def Gh(a b:K2):Bool:=decide (a.1<b.1)||(decide (a.1=b.1)&&decide (a.2<b.2))
theorem Qf{a b:K2}:Gh a b=true↔a.1<b.1∨(a.1=b.1∧a.2<b.2):=by simp[Gh]
theorem Nu{a b:K2}:Gh a b=false↔¬(a.1<b.1∨(a.1=b.1∧a.2<b.2)):=by rw[←Qf];simp
theorem L3(a:K2):Gh a a=false:=by rw[Nu];omega
theorem Lf{a b c:K2}(h:Gh b a=false)(k:Gh c b=false):Gh c a=false:=by rw[Nu]at*;omega
theorem Rw{a b:K2}(h:Gh a b=true):Gh b a=false:=by rw[Qf]at h;rw[Nu];omega
theorem Yx{a b c:K2}(h:Gh a b=true)(k:Gh c b=false):Gh a c=true:=by rw[Qf]at*;rw[Nu]at k;omega
theorem jX{a b c:K2}(h:Gh b a=false)(k:Gh b c=true):Gh a c=true:=by rw[Qf]at*;rw[Nu]at h;omega
theorem DD{a b:K2}(h:Gh a b=false)(k:Gh b a=false):a=b:=by rw[Nu]at*;exact Prod.ext oQ oQ
theorem fL{a b:K2}(h:Gh a b=true):a≠b:=fun e=>by rw[e,L3]at h;cases h
section
variable {α:Type}(key:α→K2)
def I0(l:List α):Prop:=l.Pairwise fun x y=>Gh (key y) (key x)=false
def sameF(l s:List α):Prop:=∀k,s.filter (fun x=>key x==k)=l.filter (fun x=>key x==k)
structure StS(l s:List α):Prop where
 ord:I0 key s
 same:sameF key l s
end
section
variable {α:Type}{key:α→K2}
theorem sameF.refl(l:List α):sameF key l l:=fun _=>rfl
theorem sameF.trans{a b c:List α}(h:sameF key a b)(k:sameF key b c):sameF key a c:=fun x=>(k x).trans (h x)
theorem sameF.mC{a b c d:List α}(h:sameF key a b)(k:sameF key c d):sameF key (a++c) (b++d):=fun x=>by rw[cj,cj,h x,k x]
theorem sameF.mem{a b:List α}(h:sameF key a b)(x:α):x∈b↔x∈a:=by
 have:=h (key x)
 have e:∀l:List α,x∈l.filter (fun y=>key y==key x)↔x∈l:=fun l=>by rw[bx];simp
 rw[←e b,←e a,this]
theorem sameF.swap{U V:List α}(h:∀u∈U,∀v∈V,key u≠key v):sameF key (U++V) (V++U):=fun k=>by
 rw[cj,cj]
 by_cases e:U.filter (fun x=>key x==k)=[]
 · rw[e];simp
 have e2:V.filter (fun x=>key x==k)=[]:=by
   rw[f_]
   intro v hv hk
   apply e
   rw[f_]
   intro u hu hk2
   exact h u hu v hv ((eq_of_beq hk2).trans (eq_of_beq hk).symm)
 rw[e2];simp
theorem sameF.perm:∀{a b:List α},sameF key a b→b.Perm a
 |[],b,h=>by
   have:b=[]:=by
     cases b with
     |nil=>rfl
     |cons x b=>exact absurd ((h.mem x).1 bp) (by simp)
   rw[this]
 |x::a,b,h=>by
   have hx:x∈b:=(h.mem x).2 bp
   -- the first of b with the key of x is x itself
   have hf:=h (key x)
   rw[de,ak (by simp)]at hf
   obtain⟨p,q,e,hp⟩:∃p q,b=p++x::q∧∀y∈p,key y≠key x:=by
     clear hx
     induction b with
     |nil=>simp at hf
     |cons y b ih=>
       by_cases hy:key y=key x
       · rw[de,ak (by simp[hy])]at hf
         injection hf with h1 h2
         subst h1
         exact⟨[],b,rfl,by simp⟩
       rw[de,ae (by simp[hy])]at hf
       have:∃p q,b=p++x::q∧∀y∈p,key y≠key x:=by
         clear ih h
         induction b with
         |nil=>simp at hf
         |cons z b ih=>
           by_cases hz:key z=key x
           · rw[de,ak (by simp[hz])]at hf
             injection hf with h1 h2
             subst h1
             exact⟨[],b,rfl,by simp⟩
           rw[de,ae (by simp[hz])]at hf
           obtain⟨p,q,e,hp⟩:=ih hf
           exact⟨z::p,q,by rw[e];rfl,fun w hw=>by
             rcases ap.1 hw with rfl|hw
             · exact hz
             exact hp w hw⟩
       obtain⟨p,q,e,hp⟩:=this
       exact⟨y::p,q,by rw[e];rfl,fun w hw=>by
         rcases ap.1 hw with rfl|hw
         · exact hy
         exact hp w hw⟩
   subst e
   have h2:sameF key a (p++q):=fun k=>by
     have:=h k
     by_cases hk:key x=k
     · subst hk
       have ep:p.filter (fun y=>key y==key x)=[]:=by rw[f_];intro y hy e;exact hp y hy (eq_of_beq e)
       simp only[cj,de,beq_self_eq_true,if_true,ep,eo,kj,true_and]at this⊢
       exact this
     have hk':(key x==k)=false:=by simpa using hk
     simpa only[cj,de,hk',jh,if_false]using this
   exact List.perm_middle.trans ((sameF.perm h2).cons x)
theorem sameF.length{a b:List α}(h:sameF key a b):b.length=a.length:=h.perm.length_eq
theorem StS.unique:∀{l s t:List α},StS key l s→StS key l t→s=t
 |l,[],[],_,_=>rfl
 |l,[],y::t,h,k=>by have:=h.same.length.trans k.same.length.symm;simp at this
 |l,x::s,[],h,k=>by have:=h.same.length.trans k.same.length.symm;simp at this
 |l,x::s,y::t,h,k=>by
   have hx:=(d6.1 h.ord)
   have hy:=(d6.1 k.ord)
   have mx:x∈y::t:=(k.same.mem x).2 ((h.same.mem x).1 bp)
   have my:y∈x::s:=(h.same.mem y).2 ((k.same.mem y).1 bp)
   have a1:Gh (key x) (key y)=false:=by
     rcases ap.1 mx with e|e
     · rw[e];exact L3 _
     exact hy.1 x e
   have a2:Gh (key y) (key x)=false:=by
     rcases ap.1 my with e|e
     · rw[e];exact L3 _
     exact hx.1 y e
   have ek:=DD a1 a2
   have hf:=(h.same (key x)).trans (k.same (key x)).symm
   rw[de,ak (by simp),de,ak (by simp[ek])]at hf
   injection hf with h1 h2
   subst h1
   have hst:sameF key t s:=fun q=>by
     have:=(h.same q).trans (k.same q).symm
     simp only[de]at this
     split at this
     · injection this
     exact this
   rw[StS.unique (l:=t) ⟨hx.2,hst⟩ ⟨hy.2,sameF.refl t⟩]
theorem StS.refl{l:List α}(h:I0 key l):StS key l l:=⟨h,sameF.refl l⟩
theorem StS.put{A:List α}{x:α}{j:Nat}(hA:I0 key A)(hj:∀y∈A.drop j,Gh (key x) (key y)=true)(hl:∀y∈A.take j,Gh (key x) (key y)=false):StS key (A++[x]) (A.take j++x::A.drop j):=by
 have h:=cc.1 (show(A.take j++A.drop j).Pairwise fun x y=>Gh (key y) (key x)=false by rw[dg];exact hA)
 refine⟨cc.2 ⟨h.1,d6.2 ⟨fun y hy=>Rw (hj y hy),h.2.1⟩,fun a ha b hb=>?_⟩,?_⟩
 · rcases ap.1 hb with rfl|hb
   · exact hl a ha
   exact h.2.2 a ha b hb
 have:=(sameF.refl (key:=key) (A.take j)).mC (sameF.swap (key:=key) (U:=A.drop j) (V:=[x]) (fun u hu v hv=>by
   simp at hv;subst hv
   exact fun e=>fL (hj u hu) e.symm))
 rw[←dm,dg]at this
 simpa using this
theorem qJ{A:List α}{x:α}{j:Nat}(hA:I0 key A)(hj:∀y∈A.take j,Gh (key y) (key x)=true)(hl:∀y∈A.drop j,Gh (key y) (key x)=false):StS key (x::A) (A.take j++x::A.drop j):=by
 have h:=cc.1 (show(A.take j++A.drop j).Pairwise fun x y=>Gh (key y) (key x)=false by rw[dg];exact hA)
 refine⟨cc.2 ⟨h.1,d6.2 ⟨hl,h.2.1⟩,fun a ha b hb=>?_⟩,?_⟩
 · rcases ap.1 hb with rfl|hb
   · exact Rw (hj a ha)
   exact h.2.2 a ha b hb
 have:=(sameF.swap (key:=key) (U:=[x]) (V:=A.take j) (fun u hu v hv=>by
   simp at hu;subst hu
   exact fun e=>fL (hj v hv) e.symm)).mC (sameF.refl (key:=key) (A.drop j))
 rw[dm,dm,dg]at this
 simpa using this
theorem fM{L1 U V R2 X Y:List α}(hL:I0 key (L1++U))(hR:I0 key (V++R2))(h1:∀x∈L1,∀y∈R2,Gh (key y) (key x)=false)(h2:∀v∈V,∀u∈U,Gh (key v) (key u)=true)
   (hX:StS key (L1++V) X)(hY:StS key (U++R2) Y):StS key (L1++U++(V++R2)) (X++Y):=by
 refine⟨cc.2 ⟨hX.ord,hY.ord,fun x hx y hy=>?_⟩,?_⟩
 · have hx:=(hX.same.mem x).1 hx
   have hy:=(hY.same.mem y).1 hy
   have a:=(cc.1 hL).2.2
   have b:=(cc.1 hR).2.2
   rcases be.1 hx with hx|hx<;>rcases be.1 hy with hy|hy
   · exact a x hx y hy
   · exact h1 x hx y hy
   · exact Rw (h2 x hx y hy)
   exact b x hx y hy
 have s1:sameF key (U++V) (V++U):=sameF.swap fun u hu v hv e=>fL (h2 v hv u hu) e.symm
 have s2:=((sameF.refl (key:=key) L1).mC s1).mC (sameF.refl (key:=key) R2)
 have s3:=hX.same.mC hY.same
 intro k
 have a:=s3 k
 have b:=s2 k
 simp only[cj,dm]at a b⊢
 rw[a,b]
end
section
variable {α:Type}
def C9(xs:List α)(a b:Nat):List α:=(xs.take b).drop a
theorem Cn{xs:List α}{a b:Nat}(hb:b≤xs.length):(C9 xs a b).length=b-a:=by simp[C9];omega
theorem Hd{xs:List α}{a b i:Nat}(h:a+i<b):(C9 xs a b)[i]?=xs[a+i]?:=by simp[C9,h]
theorem G1{xs:List α}{a m b:Nat}(h1:a≤m)(h2:m≤b)(hb:b≤xs.length):C9 xs a b=C9 xs a m++C9 xs m b:=by
 unfold C9
 have:xs.take b=xs.take m++(xs.take b).drop m:=by
   conv=>lhs;rw[←dg m (xs.take b)]
   rw[fq,cv h2]
 rw[this,List.drop_append]
 have e:a-(xs.take m).length=0:=by simp;omega
 rw[e,List.drop_zero,←this]
theorem xI{xs:List α}:C9 xs 0 xs.length=xs:=by simp[C9]
theorem G2{xs:List α}{a b:Nat}(h:b≤a):C9 xs a b=[]:=by
 unfold C9
 rw[List.drop_eq_nil_iff]
 simp;omega
theorem jY{xs:List α}{a b:Nat}(h1:a≤b)(hb:b≤xs.length):xs=xs.take a++C9 xs a b++xs.drop b:=by
 have h:=G1 (xs:=xs) (a:=0) (m:=a) (b:=b) (ao _) h1 hb
 have e1:C9 xs 0 a=xs.take a:=by simp[C9]
 have e2:C9 xs 0 b=xs.take b:=by simp[C9]
 rw[e1,e2]at h
 rw[←h,dg]
def Fz(xs:List α)(a b:Nat)(ys:List α):List α:=xs.take a++ys++xs.drop b
theorem Eh{xs ys:List α}{a b:Nat}(h1:a≤b)(hb:b≤xs.length)(hy:ys.length=b-a):(Fz xs a b ys).length=xs.length:=by simp[Fz];omega
theorem Hx{xs:List α}{a b:Nat}(h1:a≤b)(hb:b≤xs.length):Fz xs a b (C9 xs a b)=xs:=(jY h1 hb).symm
theorem Gc{xs ys:List α}{a b:Nat}(h1:a≤b)(hb:b≤xs.length)(hy:ys.length=b-a)(i:Nat):(Fz xs a b ys)[i]?=if i<a then xs[i]? else if i<b then ys[i-a]? else xs[i]?:=by
 unfold Fz
 by_cases h:i<a
 · rw[ak h,dm,fg (by simp;omega),iu,ak h]
 rw[ae h]
 by_cases h2:i<b
 · rw[ak h2,fg (by simp;omega),d7 (by simp;omega)]
   congr 1;simp;omega
 rw[ae h2,d7 (by simp;omega),eh]
 congr 1;simp;omega
theorem jZ{xs ys:List α}{a b:Nat}(h1:a≤b)(hb:b≤xs.length)(hy:ys.length=b-a):C9 (Fz xs a b ys) a b=ys:=by
 apply ck
 intro i
 by_cases h:a+i<b
 · rw[Hd h,Gc h1 hb hy,ae oQ,ak h];congr 1;omega
 rw[cw (by rw[Cn (by rw[Eh h1 hb hy];exact hb)];omega),cw (by omega)]
theorem Fv{xs ys:List α}{a b c d:Nat}(h1:a≤b)(hb:b≤xs.length)(hy:ys.length=b-a)(h:d≤a∨b≤c):C9 (Fz xs a b ys) c d=C9 xs c d:=by
 apply ck
 intro i
 unfold C9
 rw[eh,eh,iu,iu]
 split
 · rw[Gc h1 hb hy]
   split
   · rfl
   split
   · omega
   rfl
 rfl
theorem kA{xs ys zs:List α}{a m b:Nat}(h1:a≤m)(h2:m≤b)(hb:b≤xs.length)(hy:ys.length=m-a)(hz:zs.length=b-m):Fz (Fz xs a m ys) m b zs=Fz xs a b (ys++zs):=by
 apply ck
 intro i
 rw[Gc h2 (by rw[Eh h1 oQ hy];exact hb) hz,Gc h1 oQ hy,Gc oQ hb (by simp;omega)]
 by_cases c1:i<a
 · rw[ak oQ,ak c1,ak c1]
 by_cases c2:i<m
 · rw[ak c2,ae c1,ak c2,ae c1,ak oQ,fg (by omega)]
 rw[ae c2,ae c1,ae c2]
 by_cases c3:i<b
 · rw[ak c3,ae c1,ak c3,d7 (by omega)];congr 1;omega
 rw[ae c3,ae c1,ae c3]
variable {key:α→K2}
theorem sameF.Fz{xs ys:List α}{a b:Nat}(h1:a≤b)(hb:b≤xs.length)(h:sameF key (C9 xs a b) ys):sameF key xs (Wx.Fz xs a b ys):=by
 have h2:=((sameF.refl (key:=key) (xs.take a)).mC h).mC (sameF.refl (key:=key) (xs.drop b))
 rw[←jY h1 hb]at h2
 exact h2
end
end Go.Wx
namespace Go.Wx
open Go.RowKit
theorem OwnS.at{α:Type}{enc:α→Array Value}{b k:Nat}{e:TypeId}{w:World}{g m cp:Nat}{xs:List α}(h:OwnS w b e k enc (.slice (some ⟨g,0,none⟩) m cp) xs)(hk:∀x,(enc x).size=k){i:Nat}{x:α}(hx:xs[i]?=some x):AggAt w g (0+i*k) (enc x):=by
 obtain⟨ad,c,e',hE⟩:=h.sl hk
 obtain⟨B,o,h1,h2⟩:=hE i x hx
 cases e'
 cases h1
 exact h2
theorem OwnS.len{α:Type}{enc:α→Array Value}{b k:Nat}{e:TypeId}{w:World}{ad:Option Addr}{m cp:Nat}{xs:List α}(h:OwnS w b e k enc (.slice ad m cp) xs):xs.length=m:=by
 obtain⟨_,⟨e',h1⟩|⟨g,cap,cur,e',_⟩⟩:=h
 · cases e';exact h1
 cases e';rfl
theorem aU{α:Type}(f:α→List Value)(k:Nat)(hf:∀x,(f x).length=k):∀(xs:List α)(i:Nat)(y:α),i<xs.length→(xs.set i y).flatMap f=(xs.flatMap f).take (i*k)++f y++(xs.flatMap f).drop (i*k+k)
 |[],_,_,h=>by simp at h
 |x::xs,0,y,_=>by
   rw[List.set_cons_zero,du,du,Nat.zero_mul,jc,eo,dp,List.drop_left' (hf x)]
 |x::xs,i+1,y,h=>by
   rw[jd,du,du,aU f k hf xs i y (by simpa using h)]
   have e1:(i+1)*k=(f x).length+i*k:=by rw[hf,er,Nat.one_mul,Nat.add_comm]
   rw[e1,Nat.add_assoc,List.take_length_add_append,List.drop_length_add_append]
   simp
section
variable {P:Program}{n:Nat}{ds:List Deferred}{l:Env}{w:World}{ty:TypeId}{ps:String}{af:Array Edge}{g:Option (Nat×Bool)}
theorem Yy{α:Type}{enc:α→Array Value}{k b:Nat}{e T:TypeId}{x y:Operand}{B m cp i:Nat}{xs:List α}{z:α}(hs:∀w,(sizeOf T).run P w=.ok k w)(hk:∀x,(enc x).size=k)(h1:∀x,(enc x).all (·.oneCell')=true)(hx:Val l x (.pointer (some ⟨B,0+i*k,none⟩)))(hy:Val l y (.agg (enc z)))(ho:OwnS w b e k enc (.slice (some ⟨B,0,none⟩) m cp) xs)(hi:i<m):
   SEv P n ds l w ⟨none,.store T x y,ty,ps,af,g⟩ (fun w'=>OwnS w' b e k enc (.slice (some ⟨B,0,none⟩) m cp) (xs.set i z)∧Fr (· =B) w w'∧w'.heap.size=w.heap.size):=fun a ha=>by
 have hkl:∀x,(enc x).toList.length=k:=fun x=>by rw[dc,hk]
 obtain⟨hl,⟨e',_⟩|⟨g',cap,cur,e',hb,hg,hcap,hcm,hcs,htk⟩⟩:=ho
 · cases e'
 cases e'
 have hik:i*k+k≤xs.length*k:=by
   have:(i+1)*k≤xs.length*k:=ii k hi
   rw[er,Nat.one_mul]at this
   exact this
 have hmk:xs.length*k≤cp*k:=ii k oQ
 obtain⟨w',hr,hset⟩:=SEv.Ig (P:=P) (n:=n) (ds:=ds) (l:=l) (w:=w) (ty:=ty) (ps:=ps) (af:=af) (g:=g) hs (hk z) hx hy (h1 z) (show Blk w B cur e from hg) (by rw[hk,hcs];omega) a ha
 refine⟨w',hr,⟨by rw[fx,Gm _ k hkl,fx],.inr ⟨B,cp,_,by rw[fx],hb,hset.blk,by rw[fx];omega,hcm,?_,?_⟩⟩,hset.sto.fr,hset.size⟩
 · have hz:=hkl z
   simp only[Nt,i3,au,bu,gd,dc]
   rw[dc]at hz
   omega
 have hz:=hkl z
 rw[fx,aU _ k hkl xs i z (by omega)]
 simp only[Nt]
 rw[hz,dp,List.take_append,List.take_append]
 have hcl:cur.toList.length=cp*k:=by rw[dc];exact hcs
 have t1:(cur.toList.take (i*k)).take (xs.length*k)=cur.toList.take (i*k):=by rw[fq,gc (by omega)]
 have t2:(cur.toList.take (i*k)).length=i*k:=by rw[bu];omega
 have t3:((enc z).toList).take (xs.length*k-i*k)=(enc z).toList:=di oQ
 have t4:(cur.toList.take (i*k)++(enc z).toList).length=i*k+k:=by rw[au,t2,hz]
 rw[t1,t2,t3,t4]
 have s1:(xs.flatMap fun x=>(enc x).toList).take (i*k)=cur.toList.take (i*k):=by rw[←htk,fq,cv (by omega)]
 have s2:(xs.flatMap fun x=>(enc x).toList).drop (i*k+k)=(cur.toList.drop (i*k+k)).take (xs.length*k-(i*k+k)):=by rw[←htk,List.drop_take]
 rw[s1,s2]
theorem SEv.G3{α:Type}{enc:α→Array Value}{k:Nat}{e T:TypeId}{x y:Operand}{B m cp i:Nat}{xs:List α}{z:α}(hs:∀w,(sizeOf T).run P w=.ok k w)(hk:∀x,(enc x).size=k)(h1:∀x,(enc x).all (·.oneCell')=true)(hx:Val l x (.pointer (some ⟨B,0+i*k,none⟩)))(hy:Val l y (.agg (enc z)))(ho:OwnS w 0 e k enc (.slice (some ⟨B,0,none⟩) m cp) xs)(hi:i<m):
   SEv P n ds l w ⟨none,.store T x y,ty,ps,af,g⟩ (fun w'=>Stp (A8 e k enc (.slice (some ⟨B,0,none⟩) m cp) xs) (A8 e k enc (.slice (some ⟨B,0,none⟩) m cp) (xs.set i z)) w w'):=fun a ha=>
 let⟨w',hr,h2,h3,_⟩:=Yy (ty:=ty) (ps:=ps) (af:=af) (g:=g) hs hk h1 hx hy ho hi a ha
 ⟨w',hr,⟨h3.mono (fun i(e:i=B)=>by rw[e];rfl),h2,fun _ h=>.inl h⟩⟩
end
section
variable {P:Program}{n:Nat}{ds:List Deferred}{l:Env}{w:World}{d:Option Tmp}{ty:TypeId}{ps:String}{af:Array Edge}{g:Option (Nat×Bool)}
theorem PEv.Pb{T T':TypeId}{x y:Operand}{i j:Nat}(hx:Val l x (.int .i64 (i:Int)))(hy:Val l y (.int .i64 (j:Int)))(h:j≤i)(h2:i<9223372036854775807):PEv P n ds l w ⟨d,.binOp .sub T x y T',ty,ps,af,g⟩ (.int .i64 ((i-j:Nat):Int)):=by
 have:=PEv.sub (P:=P) (n:=n) (ds:=ds) (l:=l) (w:=w) (d:=d) (ty:=ty) (ps:=ps) (af:=af) (g:=g) (T:=T) (T':=T') hx hy oQ oQ
 rw[Int.ofNat_sub h];exact this
theorem PEv.Bu{T e k:Nat}{x ix:Operand}{B o size:Nat}{j:Nat}(hT:P.underlying T=some (.array k e))(hs:∀w,(sizeOf e).run P w=.ok size w)(hx:Val l x (.pointer (some ⟨B,o,none⟩)))(hi:Val l ix (.int .i64 (j:Int)))(hj:j<k):
   PEv P n ds l w ⟨d,.indexAddr T x ix,ty,ps,af,g⟩ (.pointer (some ⟨B,o+j*size,none⟩)):=fun a w' ha _=>by
 refine Cp ?_
 rw[ha.ev hx,ha.ev hi]
 simp[Instr.indexAt,asIntOf,run_underlying hT,Sem.run_bind,Instr.sureAddr,hs,Ge,hj]
theorem PEv.dec{T T':TypeId}{x:Operand}{i:Nat}(hx:Val l x (.int .i64 (i:Int)))(h:1≤i)(h2:i<9223372036854775807):PEv P n ds l w ⟨d,.binOp .sub T x (.const (.int .i64 1)) T',ty,ps,af,g⟩ (.int .i64 ((i-1:Nat):Int)):=by
 have:=PEv.sub (P:=P) (n:=n) (ds:=ds) (l:=l) (w:=w) (d:=d) (ty:=ty) (ps:=ps) (af:=af) (g:=g) (T:=T) (T':=T') hx (.const (.int .i64 1)) oQ oQ
 rw[Int.ofNat_sub h];exact this
end
theorem SEv.mono{P:Program}{n:Nat}{ds:List Deferred}{l:Env}{w:World}{o:Oper}{Post Post':World→Prop}(h:SEv P n ds l w o Post)(k:∀w',Post w'→Post' w'):SEv P n ds l w o Post':=fun a ha=>let⟨w',h1,h2⟩:=h a ha;⟨w',h1,k w' h2⟩
def Th(ops:Array Oper)(i s:Nat):Bool:=match ops[s]? with
 |none=>false
 |some o=>o.after.any fun e=>Region.binds .any e&&Nat.beq e.on i
theorem Ue{ops:Array Oper}{i s:Nat}(h:Th ops i s=true):∃o,ops[s]?=some o∧∃e∈o.after,Region.binds .any e=true∧e.on=i:=by
 unfold Th at h
 cases ho:ops[s]? with
 |none=>rw[ho]at h;cases h
 |some o=>
   rw[ho]at h
   obtain⟨q,hq,h2⟩:=ft.1 h
   simp only[aw]at h2
   exact⟨o,rfl,_,d9 hq,h2.1,ci h2.2⟩
section
variable {R:Option Nat}{m:Nat}{P:Program}{n:Nat}{ds:List Deferred}{Q:Exit→Go.Act→World→Prop}{l:Env}{w:World}{ops:Array Oper}
theorem L4{id:Nat}{opsL:List Oper}(s1 s2:Nat)(vs:List Value)(A0 A1 A2:World→Prop)(hm:P.follows .mixedOrders=true)(hl:Cf l=true)
   (hA:Ea opsL.toArray=true)(hF:I8 opsL.toArray opsL.toArray.size=true)(hD:Ht n opsL.toArray 0 opsL.toArray.size=true)(hs:Th opsL.toArray s1 s2=true)(hns:Nat.beq s1 s2=false)
   (hfree:K5 l opsL=true)(h0:A0 w.drew)
   (hop:allL (fun i o=>(i=s1∨i=s2)∨(o.guard=none∧((Th opsL.toArray i s1=true∧∀W,A0 W→PEv P n ds (Py opsL.toArray (fun i=>.eq (vs.getD i undef)) 0 o++l) W o (vs.getD i undef))∨∀W,PEv P n ds (Py opsL.toArray (fun i=>.eq (vs.getD i undef)) 0 o++l) W o (vs.getD i undef)))) 0 opsL)
   (o1 o2:Oper)(ho1:opsL[s1]?=some o1)(ho2:opsL[s2]?=some o2)(hg1:o1.guard=none∧o1.dst=none)(hg2:o2.guard=none∧o2.dst=none)
   (hs1:∀W,A0 W→SEv P n ds (Py opsL.toArray (fun i=>.eq (vs.getD i undef)) 0 o1++l) W o1 A1)(hs2:∀W,A1 W→SEv P n ds (Py opsL.toArray (fun i=>.eq (vs.getD i undef)) 0 o2++l) W o2 A2)
   (hend:∀W,A2 W→KW n ds (Q .normal) l W):CW R m P n ds (.region id opsL.toArray true) Q l w:=by
 have hbd:∀i ph,lk l i=some ph→∀(j:Nat)(o:Oper),0≤j→j<opsL.toArray.size→opsL.toArray[j]?=some o→o.dst≠some i:=fun i ph hi j o _ hjk ho=>Gz hfree hi (am (by simpa using ho))
 obtain⟨p2,hp2,e2,he2,hb2,hon2⟩:=Ue hs
 have ho1':opsL.toArray[s1]?=some o1:=by simpa using ho1
 have ho2':opsL.toArray[s2]?=some o2:=by simpa using ho2
 have:p2=o2:=by rw[ho2']at hp2;cases hp2;rfl
 subst this
 have hl1:s1<opsL.toArray.size:=(bh.1 ho1').1
 have hl2:s2<opsL.toArray.size:=(bh.1 ho2').1
 have hne:s1≠s2:=fun e=>by subst e;simp at hns
 refine Ga hm hl fun fuel listed a hf hu ha=>(Kl (s:=0) (k:=opsL.toArray.size) (fun i=>.eq (vs.getD i undef)) (fun _ _=>True) (fun L _ W=>if L s2=true then A2 W else if L s1=true then A1 W else A0 W) (f0:=fun t=>a.tmps.getD t undef) (fun _=>trivial) (fun _ _ _ _ _=>trivial) (fun _ _ _ _ h _=>h) hA (by simp) hF (by simp) (by simp) hD hl hbd ?_ ?_ ?_ fuel listed a hf hu ha (fun _=>rfl))
 · intro i o _ hi hio L f W _ hDn hLi hed hInv a ha hsl
   have hio':opsL[i]?=some o:=by simpa using hio
   by_cases e1:i=s1
   · subst e1
     rw[ho1']at hio;cases hio
     rw[ak (by simp[Region.wanted,hg1.1])]
     have n2:L s2=false:=by
       cases h:L s2 with
       |false=>rfl
       |true=>have:=hDn s2 _ ho2' h e2 he2 hb2;rw[hon2,hLi]at this;cases this
     rw[n2,hLi]at hInv
     obtain⟨W',hr,hp⟩:=hs1 W hInv a ha
     refine .inr ⟨W',hr,trivial,(fun d hd=>by rw[hg1.2]at hd;cases hd),?_⟩
     have t1:Dr L i s2=false:=by simp[Dr,Ne.symm hne,n2]
     have t2:Dr L i i=true:=by simp[Dr]
     rw[t1,t2]
     exact hp
   by_cases e3:i=s2
   · subst e3
     rw[ho2']at hio;cases hio
     rw[ak (by simp[Region.wanted,hg2.1])]
     have y1:L s1=true:=by have:=hed e2 he2 hb2;rwa [hon2]at this
     rw[hLi,y1]at hInv
     obtain⟨W',hr,hp⟩:=hs2 W hInv a ha
     refine .inr ⟨W',hr,trivial,(fun d hd=>by rw[hg2.2]at hd;cases hd),?_⟩
     have t2:Dr L i i=true:=by simp[Dr]
     rw[t2]
     exact hp
   have h3:=hop.at hio'
   rw[dp]at h3
   rcases h3 with(h|h)|⟨hg,h3⟩
   · exact absurd h e1
   · exact absurd h e3
   rw[ak (by simp[Region.wanted,hg])]
   have q1:Dr L i s1=L s1:=by simp[Dr,Ne.symm e1]
   have q2:Dr L i s2=L s2:=by simp[Dr,Ne.symm e3]
   have hr:(execOp a.eval o).run P W=.ok (.value (vs.getD i undef)) W:=by
     rcases h3 with⟨hE,h3⟩|h3
     · obtain⟨p,hp,e,he,hb,hon⟩:=Ue hE
       have n1:L s1=false:=by
         cases h:L s1 with
         |false=>rfl
         |true=>have:=hDn s1 p hp h e he hb;rw[hon,hLi]at this;cases this
       have n2:L s2=false:=by
         cases h:L s2 with
         |false=>rfl
         |true=>have:=hDn s2 _ ho2' h e2 he2 hb2;rw[hon2,n1]at this;cases this
       rw[n1,n2]at hInv
       exact h3 W hInv a W ha (Up.refl W)
     exact h3 W a W ha (Up.refl W)
   refine .inl (.inl ⟨_,W,hr,trivial,fun _ _=>rfl,?_⟩)
   rw[q1,q2]
   exact hInv
 · simpa using h0
 intro f W _ hInv fuel' listed' a' hf' hu' ha' hsl'
 have hInv:A2 W:=by
   rw[ak (a8 hl2)]at hInv
   exact hInv
 have hall:∀j,j<opsL.toArray.size→listed'.getD j false=true:=fun j hj=>by rw[hu'.2 j hj];simpa using hj
 have hrd:Region.ready .any opsL.toArray listed'=[]:=by
   rw[gy]
   intro i hi
   obtain⟨o,hio,hbi,_⟩:=(Fq hu'.1).1 hi
   have:=hall i (bh.1 hio).1
   rw[hbi]at this;cases this
 have hq:Q .normal a' W:=hend W hInv a' ⟨ha'.defers,ha'.size,fun t q ht=>by
   refine ha'.val t q ?_
   rw[Hw]
   · exact ht
   cases hq:lk (Hu opsL.toArray (fun i=>.eq (vs.getD i undef)) 0 opsL.toArray.size) t with
   |none=>rfl
   |some q'=>
     obtain⟨j,p,_,hjk,hp,hpd,_⟩:=F2 hq
     exact absurd hpd (hbd t q ht j p (ao _) hjk hp)⟩
 cases fuel' with
 |zero=>exact⟨hrd,hq⟩
 |succ fuel'=>exact⟨fun _=>hq,fun i hi=>by rw[hrd]at hi;cases hi⟩
theorem AWF.aV{k ia is isv sa sv:Nat}{T:TypeId}{z:Array Value}{base:Env}(ph:Nat→Ph){f0:Nat→Value}(hz:∀w,(zeroValue T).run P w=.ok (.agg z) w)(hs:∀w,(sizeOf T).run P w=.ok z.size w)
   (hph:∀i v w w',(ph i).holds v w→KeepT T w w'→(ph i).holds v w')(hA:Ea ops=true)(hC:(Nat.beq k ops.size||Fm ops k)=true)(hF:I8 ops k=true)(hks:Nat.ble k ops.size=true)
   (hD:Ht n ops 0 k=true)(hbp:Cf base=true)(hbd:∀i ph,lk base i=some ph→∀(j:Nat)(o:Oper),0≤j→j<k→ops[j]?=some o→o.dst≠some i)
   (hlit:Qe ops ia [(is,0,sv)]=true)(hik:is<k)(hiak:ia<k)(hne:ia≠is)
   (hia:∃ty ps af,ops[ia]?=some ⟨some sa,.alloc T,ty,ps,af,none⟩)(his:∃ty ps af,ops[is]?=some ⟨none,.store T (.tmp sa) (.tmp sv),ty,ps,af,none⟩)
   (hlk:∀o,ops[is]?=some o→lk (Py ops ph 0 o++base) sv=some (ph isv))(hsv:∀v W,(ph isv).holds v W→∃cs,v=.agg cs∧cs.size=z.size∧cs.all (·.oneCell')=true)
   (hpa:∀B W,(ph ia).holds (.pointer (some ⟨B,0,none⟩)) W)
   (hop:∀i o,i<k→i≠ia→i≠is→ops[i]?=some o→o.guard=none∧∀W,Up w W→∀a,Ag n ds (Py ops ph 0 o++base) a W→eS P o a W (fun v W'=>Up W W'∧(ph i).holds v W'))
   (hend:∀f W B,Up w W→f sa=.pointer (some ⟨B,0,none⟩)→w.heap.size≤B→Blk W B (f sv).cells T→AWF R m P n ds ops Q k (Hu ops ph 0 k++base) f W):AWF R m P n ds ops Q 0 base f0 w:=by
 obtain⟨os,hos,hods,⟨e,he,hbe,hon⟩,⟨e',he',hbe',pv,hpv,hpvd⟩⟩:=Hv hlit bp
 refine Kl ph (KeepT T) (xH ia is sa sv T z w) (KeepT.refl T) (fun _ _ _=>KeepT.trans) hph hA hC hF hks (by simp) hD hbp hbd ?_ ⟨Up.refl w,fun h=>by simp at h,fun h=>by simp at h⟩ ?_
 · intro i o _ hi hio L f W hRel hDn hLi hed hInv
   obtain⟨hUp,hsa,hInv⟩:=hInv
   by_cases e0:i=ia
   · subst e0
     obtain⟨ty,ps,af,hia⟩:=hia
     rw[hio]at hia;cases hia
     intro a ha hsl
     rw[ak (by simp[Region.wanted])]
     obtain⟨v,W',hr,B,rfl,N⟩:=REv.Bi (P:=P) (n:=n) (ds:=ds) (l:=Py ops ph 0 _++base) (w:=W) (d:=some sa) (ty:=ty) (ps:=ps) (af:=af) (g:=none) hz a ha
     have hLs:L is=false:=by
       cases h:L is with
       |false=>rfl
       |true=>rw[hsa h]at hLi;cases hLi
     refine .inl (.inl ⟨_,W',hr,N.up.Da,fun _ _=>hpa B W',hUp.trans N.up,fun _=>by simp[Dr],fun _=>⟨B,by simp[G0],by rw[N.at_];exact hUp.size,?_⟩⟩)
     have:Dr L i is=false:=by simp[Dr,Ne.symm hne,hLs]
     rw[this]
     exact N.blk
   by_cases e1:i=is
   · subst e1
     have hLa:L ia=true:=by rw[hos]at hio;cases hio;rw[←hon];exact hed e he hbe
     obtain⟨ty,ps,af,his⟩:=his
     rw[hio]at his;cases his
     intro a ha hsl
     rw[ak (by simp[Region.wanted])]
     obtain⟨B,h1,hB,hblk⟩:=hInv hLa
     rw[hLi]at hblk
     obtain⟨cs,hcs,hcz,hc1⟩:=hsv _ W (ha.val sv _ (hlk _ hio))
     have hfs:f sv=.agg cs:=by rw[←hsl];exact hcs
     have hag:Ag n ds [(sv,.eq (.agg cs)),(sa,.eq (.pointer (some ⟨B,0,none⟩)))] a W:=by
       refine⟨ha.defers,ha.size,fun t q ht=>?_⟩
       by_cases e1:t=sv
       · subst e1;rw[Bk]at ht;cases ht;exact hcs
       rw[Bl e1]at ht
       by_cases e2:t=sa
       · subst e2;rw[Bk]at ht;cases ht;exact(hsl _).trans h1
       rw[Bl e2]at ht;cases ht
     have hsn:sa≠sv:=fun e'=>by rw[e',hfs]at h1;cases h1
     obtain⟨W',hr,hset⟩:=SEv.A5 (P:=P) (n:=n) (ds:=ds) (w:=W) (l:=[(sv,.eq (.agg cs)),(sa,.eq (.pointer (some ⟨B,0,none⟩)))]) (x:=.tmp sa) (y:=.tmp sv) (ty:=ty) (ps:=ps) (af:=af) (g:=none) hs hcz (.tmp (by rw[Bl hsn,Bk])) (.tmp Bk) hc1 hblk (by simp) a hag
     refine .inr ⟨W',hr,hset.sto.Da (by rw[hset.size];exact av _) hblk,(fun d hd=>by cases hd),hUp.sto hset.sto hB,fun _=>by simp[Dr,hLa],fun _=>⟨B,h1,hB,?_⟩⟩
     have h2:Dr L i i=true:=by simp[Dr]
     rw[h2,ak rfl]
     show Blk W' B (f sv).cells T
     rw[hfs]
     exact hset.blk
   obtain⟨hg,hop⟩:=hop i o hi e0 e1 hio
   intro a ha hsl
   rw[ak (by simp[Region.wanted,hg])]
   have done:∀v W',Up W W'∧(ph i).holds v W'→KeepT T W W'∧(∀d,o.dst=some d→(ph i).holds v W')∧xH ia is sa sv T z w (Dr L i) (G0 f o.dst v) W':=by
     rintro v W' ⟨hu,hv⟩
     have ela:Dr L i ia=L ia:=by simp[Dr,Ne.symm e0]
     have els:Dr L i is=L is:=by simp[Dr,Ne.symm e1]
     refine⟨hu.Da,fun _ _=>hv,hUp.trans hu,fun h=>by rw[ela];rw[els]at h;exact hsa h,fun hm=>?_⟩
     rw[ela]at hm
     obtain⟨B,h1,hB,hblk⟩:=hInv hm
     have hn1:o.dst≠some sa:=by
       obtain⟨ty,ps,af,hia⟩:=hia
       intro ed
       exact(D7 hD (ao _) hi hio ed).2 ia _ (ao _) hiak (Ne.symm e0) hia rfl
     refine⟨B,by simpa[G0,hn1]using h1,hB,?_⟩
     rw[els]
     cases hLs:L is with
     |false=>rw[hLs]at hblk;exact hblk.up hu
     |true=>
       rw[hLs]at hblk
       have hn2:o.dst≠some sv:=by
         intro ed
         have h2:=hDn _ _ hos hLs e' he' hbe'
         have h3:=D4 hA hos e' he' hbe'
         by_cases ee:e'.on=i
         · rw[ee,hLi]at h2;cases h2
         exact(D7 hD (ao _) hi hio ed).2 e'.on pv (ao _) (by have:e'.on<is:=h3;omega) ee hpv hpvd
       have h4:G0 f o.dst v sv=f sv:=by simp[G0,hn2]
       rw[h4]
       exact hblk.up hu
   rcases hop W hUp a ha with⟨v,W',hr,hp⟩|⟨fn,args,w1,hr,hc⟩
   · exact .inl (.inl ⟨v,W',hr,done v W' hp⟩)
   exact .inl (.inr ⟨fn,args,w1,hr,hc.mono done⟩)
 intro f W hRel hInv
 obtain⟨hUp,_,hInv⟩:=hInv
 obtain⟨B,h1,hB,h2⟩:=hInv (by simpa using hiak)
 rw[ak (by simpa using hik)]at h2
 exact hend f W B hUp h1 hB h2
theorem Nv{id:Nat}{opsL:List Oper}(k ia is isv sa sv:Nat)(z:Array Value)(phs:List Ph)(keep:List Nat){T:TypeId}(hz:∀w,(zeroValue T).run P w=.ok (.agg z) w)(hs:∀w,(sizeOf T).run P w=.ok z.size w)(hm:P.follows .mixedOrders=true)(hl:Cf l=true)
   (hA:Ea opsL.toArray=true)(hC:(Nat.beq k opsL.toArray.size||Fm opsL.toArray k)=true)(hF:I8 opsL.toArray k=true)(hks:Nat.ble k opsL.toArray.size=true)(hD:Ht n opsL.toArray 0 k=true)(hlit:Qe opsL.toArray ia [(is,0,sv)]=true)(hTl:Hq opsL.toArray k=true)
   (hfree:K5 l (opsL.take k)=true)(hidx:(Nat.ble (is+1) k&&(Nat.ble (ia+1) k&& !Nat.beq ia is))=true)
   (hia:∃ty ps af,opsL[ia]?=some ⟨some sa,.alloc T,ty,ps,af,none⟩)(os:Oper)(hos:opsL[is]?=some os)(his:∃ty ps af,os=⟨none,.store T (.tmp sa) (.tmp sv),ty,ps,af,none⟩)(hph:allT T phs)
   (hlk:lk (Py opsL.toArray (fun i=>phs.getD i (.eq undef)) 0 os++l) sv=some (phs.getD isv (.eq undef)))(hsv:∀v W,(phs.getD isv (.eq undef)).holds v W→∃cs,v=.agg cs∧cs.size=z.size∧cs.all (·.oneCell')=true)
   (hpa:∀B W,(phs.getD ia (.eq undef)).holds (.pointer (some ⟨B,0,none⟩)) W)
   (hop:∀W,Up w.drew W→allL (fun i o=>(i=ia∨i=is)∨(o.guard=none∧TU P n ds (Py opsL.toArray (fun i=>phs.getD i (.eq undef)) 0 o++l) W o (phs.getD i (.eq undef)))) 0 (opsL.take k))
   (hend:∀W B(g:Nat→Value),Up w.drew W→w.drew.heap.size≤B→Blk W B (g sv).cells T→(∀i o d,i<k→opsL[i]?=some o→o.dst=some d→(phs.getD i (.eq undef)).holds (g d) W)→LW R m P n ds opsL.toArray Q (opsL.drop k) ((sa,.eq (.pointer (some ⟨B,0,none⟩)))::(keep.map (fun d=>(d,.eq (g d)))++l)) W):
   CW R m P n ds (.region id opsL.toArray true) Q l w:=by
 simp only[aw]at hidx
 obtain⟨hik,hiak,hne⟩:=hidx
 have hik:is<k:=ah hik
 have hiak:ia<k:=ah hiak
 have hne:ia≠is:=fun e=>by subst e;simp at hne
 have hks':k≤opsL.length:=by have:=ah hks;simp at this;omega
 have sub:∀j o,j<k→opsL.toArray[j]?=some o→(opsL.take k)[j]?=some o:=fun j o hjk ho=>by
   rw[cz hjk];simpa using ho
 have hbd:∀i ph,lk l i=some ph→∀(j:Nat)(o:Oper),0≤j→j<k→opsL.toArray[j]?=some o→o.dst≠some i:=fun i ph hi j o _ hjk ho=>Gz hfree hi (am (sub j o hjk ho))
 refine Ga hm hl fun fuel listed a hf hu ha=>(AWF.aV (k:=k) (ia:=ia) (is:=is) (isv:=isv) (sa:=sa) (sv:=sv) (T:=T) (z:=z) (fun i=>phs.getD i (.eq undef)) (f0:=fun t=>a.tmps.getD t undef) hz hs (fun i v w w' h u=>(hph.at i) v w w' h u) hA hC hF hks hD hl hbd hlit hik hiak hne (by simpa using hia) ?_ ?_ hsv hpa ?_ ?_ fuel listed a hf hu ha (fun _=>rfl))
 · obtain⟨ty,ps,af,e⟩:=his
   exact⟨ty,ps,af,by rw[←e];simpa using hos⟩
 · intro o ho
   have:opsL[is]?=some o:=by simpa using ho
   rw[hos]at this;cases this
   exact hlk
 · intro i o hi h1 h2 ho
   have h0:=(hop w.drew (Up.refl _)).at (sub i o hi ho)
   rw[dp]at h0
   rcases h0 with(e|e)|⟨hg,_⟩
   · exact absurd e h1
   · exact absurd e h2
   refine⟨hg,fun W hW a ha=>?_⟩
   have h3:=(hop W hW).at (sub i o hi ho)
   rw[dp]at h3
   rcases h3 with(e|e)|⟨_,h⟩
   · exact absurd e h1
   · exact absurd e h2
   exact h a ha
 intro f W B hUp hfa hB hblk fuel' listed' a' hf' hu' ha' hsl'
 have key:∀i o d,i<k→opsL[i]?=some o→o.dst=some d→(phs.getD i (.eq undef)).holds (f d) W:=by
   intro i o d hik ho hd
   have ho':opsL.toArray[i]?=some o:=by simpa using ho
   have hmem:(d,phs.getD i (.eq undef))∈Hu opsL.toArray (fun i=>phs.getD i (.eq undef)) 0 k:=by
     unfold Hu
     rw[ef]
     exact⟨i,bl.2 hik,by rw[ak (by simp),ho'];simp[hd]⟩
   obtain⟨q',hq⟩:=Hj hmem
   obtain⟨j,p,_,hjk,hp,hpd,e⟩:=F2 hq
   have:j=i:=by
     by_cases ee:j=i
     · exact ee
     exact absurd hpd ((D7 hD (ao _) hik ho' hd).2 j p (ao _) hjk ee hp)
   subst this
   have:=ha'.val d q' (Km hq)
   rw[hsl',e]at this
   exact this
 refine Gb hTl hA (opsL.toArray.size-k) k fuel' listed' a' W rfl (by simp;omega) (av _) hf' hu' (hend W B f hUp hB hblk key a' ⟨ha'.defers,ha'.size,fun t q ht=>?_⟩)
 by_cases e:t=sa
 · subst e;rw[Bk]at ht;cases ht
   exact(hsl' _).trans hfa
 rw[Bl e]at ht
 rcases C3 ht with h|h
 · obtain⟨d,_,he⟩:=aq.1 (J2 h)
   cases he
   exact hsl' _
 refine ha'.val t q ?_
 rw[Hw]
 · exact h
 cases hq:lk (Hu opsL.toArray (fun i=>phs.getD i (.eq undef)) 0 k) t with
 |none=>rfl
 |some q'=>
   obtain⟨j,p,_,hjk,hp,hpd,_⟩:=F2 hq
   exact absurd hpd (hbd t q h j p (ao _) hjk hp)
end
section
variable {R:Option Nat}{m:Nat}{P:Program}{n:Nat}{ds:List Deferred}{Q:Exit→Go.Act→World→Prop}{l:Env}{w:World}
theorem Ag.KC{t:Nat}{v:Value}{a:Go.Act}{env:Env}(ha:Ag n ds env a w)(hv:a.tmps.getD t undef=v):Ag n ds ((t,.eq v)::env) a w:=⟨ha.defers,ha.size,fun s q hs=>by
 by_cases e:s=t
 · subst e;rw[Bk]at hs;cases hs;exact hv
 rw[Bl e]at hs;exact ha.val s q hs⟩
end
section
variable {P:Program}{n:Nat}{ds:List Deferred}{l:Env}{w:World}{d:Option Tmp}{ty:TypeId}{ps:String}{af:Array Edge}{g:Option (Nat×Bool)}
theorem J3{T e:TypeId}{x hi mx:Operand}{ad:Option Addr}{k m cap j:Nat}(hT:P.underlying T=some (.slice e))(hs:∀w,(sizeOf e).run P w=.ok k w)(hx:Val l x (.slice ad m cap))(hl:Val l hi (.int .i64 (j:Int)))(hm:Val l mx (.int .i64 (j:Int)))(hj:j≤cap):
   PEv P n ds l w ⟨d,.slice T x none (some hi) (some mx),ty,ps,af,g⟩ (.slice ad j j):=fun a w' ha _=>by
 refine Cp ?_
 rw[ha.ev hx]
 simp only[i8,el,ha.ev hl,ha.ev hm]
 cases ad with
 |none=>simp[Instr.sliceAt,Instr.slice,Instr.sliceBounds,Instr.sliceBound,asIntOf,run_underlying hT,Result.andThen,hs,hj]
 |some a=>simp[Instr.sliceAt,Instr.slice,Instr.sliceBounds,Instr.sliceBound,asIntOf,run_underlying hT,Result.andThen,hs,Addr.add,hj]
theorem PEv.sliceFrom{T e:TypeId}{x lo:Operand}{ad:Option Addr}{k m cap j:Nat}(hT:P.underlying T=some (.slice e))(hs:∀w,(sizeOf e).run P w=.ok k w)(hx:Val l x (.slice ad m cap))(hl:Val l lo (.int .i64 (j:Int)))(hj:j≤m):
   PEv P n ds l w ⟨d,.slice T x (some lo) none none,ty,ps,af,g⟩ (.slice (if cap=j then ad else ad.map (·.add (j*k))) (m-j) (cap-j)):=fun a w' ha _=>by
 refine Cp ?_
 rw[ha.ev hx]
 simp only[i8,el,ha.ev hl]
 simp[Instr.sliceAt,Instr.slice,Instr.sliceBounds,Instr.sliceBound,asIntOf,run_underlying hT,Result.andThen,hs,hj]
theorem Els.drop{α:Type}{enc:α→Array Value}{ad:Option Addr}{k cap j:Nat}{xs:List α}(h:Els w ad k enc xs)(hc:xs.length≤cap):Sl w (.slice (if cap=j then ad else ad.map (·.add (j*k))) (xs.length-j) (cap-j)) k enc (xs.drop j):=by
 refine⟨_,_,by rw[gd],fun i x hx=>?_⟩
 rw[eh]at hx
 have hlt:=(ai.1 hx).1
 obtain⟨B,o,rfl,hc2⟩:=h _ x hx
 rw[ae (by omega)]
 refine⟨B,o+j*k,by rw[el,Ge],?_⟩
 rw[er,←Nat.add_assoc]at hc2
 exact hc2
theorem Els.take{α:Type}{enc:α→Array Value}{ad:Option Addr}{k j:Nat}{xs:List α}(h:Els w ad k enc xs):Els w ad k enc (xs.take j):=fun i x hx=>by
 rw[iu]at hx
 split at hx
 · exact h i x hx
 cases hx
theorem Fh{α:Type}{enc:α→Array Value}{k bytes:Nat}{e T:TypeId}{i:TypeInfo}{z:Value}{s x:Operand}{xv:Value}{ad:Option Addr}{xs ys:List α}(hT:P.underlying T=some (.slice e))(hi:P.info? e=some i)(hz:i.zero=some z)
   (hsize:i.size=k)(hby:i.bytes=bytes)(hzs:z.cells.size=k)(hk0:0<k)(henc:∀x,(enc x).size=k)(hs:Val l s (.slice ad xs.length xs.length))(hx:Val l x xv)(hE:Els w ad k enc xs)(hy:Sl w xv k enc ys)
   (h63:xs.length+ys.length≤maxLen)(hbytes:(xs.length+ys.length)*bytes≤140737488355328):
   REv P n ds l w ⟨d,.call { callee:=.builtin .append,args:=#[s,x],argTypes:=#[T,T] },ty,ps,af,g⟩ (fun v' w'=>Up w w'∧Sl w' v' k enc (xs++ys)∧(0<ys.length→OwnS w' w.heap.size e k enc v' (xs++ys))):=by
 subst hsize
 subst hby
 obtain⟨ad2,c,rfl,hE2⟩:=hy
 have hfl:∀x,(enc x).toList.length=i.size:=fun x=>by simp[henc]
 have fin:∀v' w',(Builtin.append_ #[T,T] ty #[.slice ad xs.length xs.length,.slice ad2 ys.length c]).run P w=.ok v' w'→Up w w'∧Sl w' v' i.size enc (xs++ys)∧(0<ys.length→OwnS w' w.heap.size e i.size enc v' (xs++ys))→REv P n ds l w ⟨d,.call { callee:=.builtin .append,args:=#[s,x],argTypes:=#[T,T] },ty,ps,af,g⟩ (fun v' w'=>Up w w'∧Sl w' v' i.size enc (xs++ys)∧(0<ys.length→OwnS w' w.heap.size e i.size enc v' (xs++ys))):=fun v' w' hrun hp a ha=>by
   refine⟨v',w',?_,hp⟩
   simp only[execOp,resolve,invoke,builtin,Sem.run_bind,Sem.run_pure,Result.andThen_ok,gw,cy,f4,ha.ev hs,ha.ev hx,hrun]
 have cells:∀{B o:Nat}{zs:List α},Els w (some ⟨B,o,none⟩) i.size enc zs→∀(j:Nat)(u:Value),(zs.flatMap fun x=>(enc x).toList)[j]?=some u→w.cell? ((⟨B,o,none⟩:Addr).add j)=some u:=fun{B o zs}hz j u hu=>by
   obtain⟨y,hy1,hy2⟩:=P5 _ i.size hk0 hfl zs j u hu
   obtain⟨B1,o1,e1,hc⟩:=hz _ y hy1
   cases e1
   have:=hc (j%i.size) u (by simpa using hy2)
   rw[Ge]
   rw[show o+j=o+j/i.size*i.size+j%i.size by have:=jr j i.size;rw[i0]at this;omega]
   exact this
 have hlx:=Gm (fun x=>(enc x).toList) i.size hfl xs
 have hly:=Gm (fun x=>(enc x).toList) i.size hfl ys
 by_cases hne:0<ys.length
 · obtain⟨y0,hy0⟩:=Av (xs:=ys) (i:=0) hne
   obtain⟨B',o,rfl,_⟩:=hE2 0 y0 hy0
   have big:∀v',(Builtin.append_ #[T,T] ty #[.slice ad xs.length xs.length,.slice (some ⟨B',o,none⟩) ys.length c]).run P w=.ok (.slice (some ⟨w.heap.size,0,none⟩) (xs.length+ys.length) (grownCap w (xs.length+ys.length) xs.length e)) (w.drew.alloc (.cells ((xs.flatMap fun x=>(enc x).toList).toArray++(ys.flatMap fun x=>(enc x).toList).toArray++Builtin.zeroCells z.cells (grownCap w (xs.length+ys.length) xs.length e-(xs.length+ys.length))) e))→v'=Value.slice (some ⟨w.heap.size,0,none⟩) (xs.length+ys.length) (grownCap w (xs.length+ys.length) xs.length e)→REv P n ds l w ⟨d,.call { callee:=.builtin .append,args:=#[s,x],argTypes:=#[T,T] },ty,ps,af,g⟩ (fun v' w'=>Up w w'∧Sl w' v' i.size enc (xs++ys)∧(0<ys.length→OwnS w' w.heap.size e i.size enc v' (xs++ys))):=fun v' hr _=>by
     have own:OwnS (w.drew.alloc (.cells ((xs.flatMap fun x=>(enc x).toList).toArray++(ys.flatMap fun x=>(enc x).toList).toArray++Builtin.zeroCells z.cells (grownCap w (xs.length+ys.length) xs.length e-(xs.length+ys.length))) e)) w.heap.size e i.size enc (.slice (some ⟨w.heap.size,0,none⟩) (xs.length+ys.length) (grownCap w (xs.length+ys.length) xs.length e)) (xs++ys):=by
       refine⟨by rw[ip,au,hlx,hly,au,er],.inr ⟨w.heap.size,_,_,by rw[au],av _,heap_alloc_new w.drew _,by rw[au];exact grownCap_ge w _ _ e,grownCap_le_maxLen w _ _ e h63,?_,?_⟩⟩
       · simp only[Array.size_append,i3,size_zeroCells,hzs,hlx,hly,←er]
         congr 1
         have:=grownCap_ge w (xs.length+ys.length) xs.length e
         omega
       simp only[Array.toList_append]
       rw[ip,au,er,←hlx,←hly,←au]
       exact List.take_left
     exact fin _ _ hr ⟨(Up.drew w).trans (Up.alloc _ _),own.sl henc,fun _=>own⟩
   cases ad with
   |none=>
     have hxs:xs=[]:=by
       cases xs with
       |nil=>rfl
       |cons x r=>obtain⟨B,o,e,_⟩:=hE 0 x rfl;cases e
     subst hxs
     refine big _ ?_ rfl
     have hr:=run_append_nil (P:=P) w T ty e i z hT hi hz ⟨B',o,none⟩ ys.length c _ hly (cells hE2) hne (by simp only[maxLen]at h63;simp at h63;omega) (by simp at hbytes;omega)
     simp only[da,dp,List.flatMap_nil]
     rw[hr]
     simp
   |some a=>
     refine big _ ?_ rfl
     refine run_append_grow (P:=P) w T ty e i z hT hi hz a xs.length xs.length _ hlx (fun j u hu=>?_) ⟨B',o,none⟩ ys.length c _ hly (cells hE2) oQ (by simp only[maxLen]at h63;omega) (growslice_fits oQ hbytes)
     have h0:0<xs.length:=by
       rcases Nat.eq_zero_or_pos xs.length with h|h
       · have:xs=[]:=dx h
         subst this;simp at hu
       exact h
     obtain⟨x0,hx0⟩:=Av (xs:=xs) (i:=0) h0
     obtain⟨B,o2,e2,_⟩:=hE 0 x0 hx0
     cases e2
     exact cells hE j u hu
 have hys:ys=[]:=dx oQ
 subst hys
 refine fin (.slice ad xs.length xs.length) w ?_ ⟨Up.refl w,by rw[dy];exact Az hE,fun h=>absurd h hne⟩
 have hsz:∀w,(sizeOf e).run P w=.ok i.size w:=fun w=>by simp[sizeOf,typeInfo,hi]
 cases ad<;>cases ad2<;>simp[Builtin.append_,run_underlying hT,hsz,Builtin.lenOf,Builtin.firstCells,loadCells,loadCellsFrom,storeCells,Result.andThen]
end
theorem OwnS.S8{α:Type}{enc:α→Array Value}{b k:Nat}{e T:TypeId}{w w':World}{v:Value}{xs:List α}{B:Nat}{cs:Array Value}(h:OwnS w b e k enc v xs)(hb:Blk w B cs T)(hT:T≠e)(u:Sto B w w'):OwnS w' b e k enc v xs:=h.keeps fun i hi _=>u.fr.block i (h.lt i hi) (fun(e2:i=B)=>by
 subst e2
 obtain⟨_,⟨rfl,_⟩|⟨g,cap,cur,rfl,_,hg,_⟩⟩:=h
 · cases hi
 cases hi
 have:some (Obj.cells cs T (0,0))=some (Obj.cells cur e (0,0)):=(show w.heap[g]?=_ from hb).symm.trans hg
 injection this with this
 injection this with _ h2
 exact hT h2)
theorem Gi{α:Type}{enc:α→Array Value}{b k n cp:Nat}{e:TypeId}{w:World}{ad:Option Addr}{xs:List α}(h:OwnS w b e k enc (.slice ad n cp) xs):xs.length≤cp:=by
 obtain⟨_,⟨e1,e2⟩|⟨g,cap,cur,e1,_,_,hc,_⟩⟩:=h
 · cases e1;omega
 cases e1;exact hc
section
variable {P:Program}{n:Nat}{ds:List Deferred}{l:Env}{w:World}{d:Option Tmp}{ty:TypeId}{ps:String}{af:Array Edge}{g:Option (Nat×Bool)}
theorem aW{T e:TypeId}{x lo hi:Operand}{ad:Option Addr}{k m cap i j:Nat}(hT:P.underlying T=some (.slice e))(hs:∀w,(sizeOf e).run P w=.ok k w)(hx:Val l x (.slice ad m cap))(hl:Val l lo (.int .i64 (i:Int)))(hh:Val l hi (.int .i64 (j:Int)))(hij:i≤j)(hj:j≤cap):
   PEv P n ds l w ⟨d,.slice T x (some lo) (some hi) none,ty,ps,af,g⟩ (.slice (if cap=i then ad else ad.map (·.add (i*k))) (j-i) (cap-i)):=fun a w' ha _=>by
 refine Cp ?_
 rw[ha.ev hx]
 simp only[i8,el,ha.ev hl,ha.ev hh]
 simp[Instr.sliceAt,Instr.slice,Instr.sliceBounds,Instr.sliceBound,asIntOf,run_underlying hT,Result.andThen,hs,hij,hj]
theorem Els.part{α:Type}{enc:α→Array Value}{ad:Option Addr}{k cap i j:Nat}{xs:List α}(h:Els w ad k enc xs)(hij:i≤j)(hj:j≤xs.length)(hc:xs.length≤cap):Sl w (.slice (if cap=i then ad else ad.map (·.add (i*k))) (j-i) (cap-i)) k enc ((xs.drop i).take (j-i)):=by
 obtain⟨ad',c,e,hE⟩:=Els.drop (j:=i) h hc
 injection e with e1 e2 e3
 subst e1;subst e3
 exact⟨_,_,by rw[bu,gd,cv (by omega)],Els.take hE⟩
end
theorem Sep.mD{α:Type}{S0:Nat→Prop}{w0 w:World}{As:List Asr}{e k:Nat}{enc:α→Array Value}(h:Sep S0 w0 w As)(ho:OwnS w 0 e k enc (.slice none 0 0) ([]:List α)):Sep S0 w0 w (As++[A8 e k enc (.slice none 0 0) ([]:List α)]):=h.add (Up.refl _) ho (fun i h=>by cases h)
theorem Sep.perm{S0:Nat→Prop}{w0 w:World}{As Bs:List Asr}(h:Sep S0 w0 w As)(p:As.Perm Bs):Sep S0 w0 w Bs:=⟨h.fr,fun B hB=>h.each B (p.mem_iff.2 hB),(p.pairwise_iff (fun{_ _}hAB i hi hj=>hAB i hj hi)).1 h.apart⟩
theorem OwnS.OJ{α:Type}{enc:α→Array Value}{b k n cp:Nat}{e:TypeId}{w:World}{ad:Option Addr}{xs:List α}(h:OwnS w b e k enc (.slice ad n cp) xs)(hne:0<xs.length):∃g,ad=some ⟨g,0,none⟩:=by
 obtain⟨_,⟨e1,e2⟩|⟨g,cap,cur,e1,_⟩⟩:=h
 · omega
 cases e1;exact⟨g,rfl⟩
theorem OwnS.I1{α:Type}{enc:α→Array Value}{b e k:Nat}{w:World}{v:Value}{xs:List α}(h:OwnS w 0 e k enc v xs)(hb:∀i,(A8 e k enc v xs).foot i→b≤i):OwnS w b e k enc v xs:=by
 obtain⟨h1,h2⟩:=h
 refine⟨h1,?_⟩
 rcases h2 with h2|⟨g,cap,cur,e,_,rest⟩
 · exact .inl h2
 exact .inr ⟨g,cap,cur,e,hb g (by rw[e];rfl),rest⟩
end Go.Wx
namespace Go.Wx
structure Fld where
 off:Nat
 lo:Int
 hi:Int
def Cz(o:Nat):Fld:=⟨o,1,1000000⟩
def C1:List Fld:=[Cz 1]
def L5:List Fld:=[Cz 14,Cz 15]
def Db:List Fld:=[⟨11,0,59⟩,⟨12,0,3⟩]
def Ct:Fld:=⟨5,0,1000000⟩
def Em:List Fld:=[Ct,⟨6,0,1000000⟩]
def K6:List Fld:=[⟨7,0,1000000⟩,⟨9,0,1000000⟩,⟨11,0,60⟩,⟨12,0,4⟩,⟨13,0,40⟩,⟨14,0,1000000⟩,⟨15,0,1000000⟩]
def Jf:Fld:=⟨17,1,255⟩
def Mq:Fld:=⟨16,-1000000,1000000⟩
theorem Xa{α:Type}{xss:List (List α)}{k:Nat}{ys:List α}(h:xss[k]?=some ys):(xss.take (k+1)).flatten=(xss.take k).flatten++ys:=by
 obtain⟨hk,e⟩:=ai.1 h
 rw[cn,h];simp
theorem Wa{α:Type}(xss:List (List α))(k:Nat):((xss.take k).flatten).length≤xss.flatten.length:=by
 have:xss.flatten=(xss.take k).flatten++(xss.drop k).flatten:=by rw[←List.flatten_append,dg]
 rw[this,au];omega
def Pc:List (List Fld):=[[],C1++[Cz 7]++Db++[⟨13,0,39⟩]++L5++Em++[⟨16,-10000000,10000000⟩],C1++[Ct,Mq],C1++[Cz 7,Cz 8,Ct],[Cz 7,Cz 9,Cz 10,Ct],[Cz 10],C1++Db++L5++Em,C1++K6++Em++[Jf],[Cz 8,Jf,Ct],C1++Db++[Ct],[Cz 14,Ct,Mq],C1++Db++Em]
def Uf:List (List Fld):=[[],C1,C1,C1,[Cz 7,Ct],[Cz 10],C1,C1,[Cz 8,Jf],C1,[Cz 14,Ct],C1]
def fieldsOf(k:Int):List Fld:=Pc.getD k.toNat []
def Fo(k:Int):List Fld:=Uf.getD k.toNat []
def Ei(k:Int):Nat:=[0,1,0,2,0,0,1,1,0,0,0,1].getD k.toNat 0
def Ey(k:Int):Bool:=decide (k=5)
end Go.Wx
namespace Go.Proofs.YtbcnnkfopoiifaaGreatDoor
open Go.Proofs.Tryz
open Go.Wx Go.RowKit
def xJ:Nat→FuncId:=fun o=>match o with
 |1=>101
 |5=>169
 |6=>168
 |7=>105
 |8=>118
 |9=>106
 |10=>119
 |11=>107
 |12=>108
 |13=>109
 |14=>102
 |15=>103
 |16=>111
 |17=>110
 |_=>0
def Fld.cells(x:Fld):Array Go.Value:=#[.func (.func (xJ x.off)) #[] #[],vi x.lo,vi x.hi]
theorem Fld.one(x:Fld):(Fld.cells x).all (·.oneCell')=true:=by simp[Fld.cells,Value.oneCell']
theorem DF(b:Nat)(w:World):Ret prog 101 #[.pointer (some ⟨b,0,none⟩)] w fun r w'=>r=.pointer (some ⟨b,1,none⟩)∧Up w w':=by
 have hW:=Up.refl w
 refine cT 6 func101 rfl (Af (J (Ar (Aa (Ac rfl (I (.nc rfl) (I (.fB 1 rfl) (LW.A rfl (Ai (Aj (KW.q ?_)))))))))))
 exact⟨rfl,hW⟩
theorem qK(b:Nat)(w:World):Ret prog 169 #[.pointer (some ⟨b,0,none⟩)] w fun r w'=>r=.pointer (some ⟨b,5,none⟩)∧Up w w':=by
 have hW:=Up.refl w
 refine cT 6 func169 rfl (Af (J (Ar (Aa (Ac rfl (I (.nc rfl) (I (.fB 5 rfl) (LW.A rfl (Ai (Aj (KW.q ?_)))))))))))
 exact⟨rfl,hW⟩
theorem mE(b:Nat)(w:World):Ret prog 168 #[.pointer (some ⟨b,0,none⟩)] w fun r w'=>r=.pointer (some ⟨b,6,none⟩)∧Up w w':=by
 have hW:=Up.refl w
 refine cT 6 func168 rfl (Af (J (Ar (Aa (Ac rfl (I (.nc rfl) (I (.fB 6 rfl) (LW.A rfl (Ai (Aj (KW.q ?_)))))))))))
 exact⟨rfl,hW⟩
theorem mF(b:Nat)(w:World):Ret prog 105 #[.pointer (some ⟨b,0,none⟩)] w fun r w'=>r=.pointer (some ⟨b,7,none⟩)∧Up w w':=by
 have hW:=Up.refl w
 refine cT 6 func105 rfl (Af (J (Ar (Aa (Ac rfl (I (.nc rfl) (I (.fB 7 rfl) (LW.A rfl (Ai (Aj (KW.q ?_)))))))))))
 exact⟨rfl,hW⟩
theorem mG(b:Nat)(w:World):Ret prog 118 #[.pointer (some ⟨b,0,none⟩)] w fun r w'=>r=.pointer (some ⟨b,8,none⟩)∧Up w w':=by
 have hW:=Up.refl w
 refine cT 6 func118 rfl (Af (J (Ar (Aa (Ac rfl (I (.nc rfl) (I (.fB 8 rfl) (LW.A rfl (Ai (Aj (KW.q ?_)))))))))))
 exact⟨rfl,hW⟩
theorem xK(b:Nat)(w:World):Ret prog 106 #[.pointer (some ⟨b,0,none⟩)] w fun r w'=>r=.pointer (some ⟨b,9,none⟩)∧Up w w':=by
 have hW:=Up.refl w
 refine cT 6 func106 rfl (Af (J (Ar (Aa (Ac rfl (I (.nc rfl) (I (.fB 9 rfl) (LW.A rfl (Ai (Aj (KW.q ?_)))))))))))
 exact⟨rfl,hW⟩
theorem aX(b:Nat)(w:World):Ret prog 119 #[.pointer (some ⟨b,0,none⟩)] w fun r w'=>r=.pointer (some ⟨b,10,none⟩)∧Up w w':=by
 have hW:=Up.refl w
 refine cT 6 func119 rfl (Af (J (Ar (Aa (Ac rfl (I (.nc rfl) (I (.fB 10 rfl) (LW.A rfl (Ai (Aj (KW.q ?_)))))))))))
 exact⟨rfl,hW⟩
theorem qM(b:Nat)(w:World):Ret prog 107 #[.pointer (some ⟨b,0,none⟩)] w fun r w'=>r=.pointer (some ⟨b,11,none⟩)∧Up w w':=by
 have hW:=Up.refl w
 refine cT 6 func107 rfl (Af (J (Ar (Aa (Ac rfl (I (.nc rfl) (I (.fB 11 rfl) (LW.A rfl (Ai (Aj (KW.q ?_)))))))))))
 exact⟨rfl,hW⟩
theorem aY(b:Nat)(w:World):Ret prog 108 #[.pointer (some ⟨b,0,none⟩)] w fun r w'=>r=.pointer (some ⟨b,12,none⟩)∧Up w w':=by
 have hW:=Up.refl w
 refine cT 6 func108 rfl (Af (J (Ar (Aa (Ac rfl (I (.nc rfl) (I (.fB 12 rfl) (LW.A rfl (Ai (Aj (KW.q ?_)))))))))))
 exact⟨rfl,hW⟩
theorem qN(b:Nat)(w:World):Ret prog 109 #[.pointer (some ⟨b,0,none⟩)] w fun r w'=>r=.pointer (some ⟨b,13,none⟩)∧Up w w':=by
 have hW:=Up.refl w
 refine cT 6 func109 rfl (Af (J (Ar (Aa (Ac rfl (I (.nc rfl) (I (.fB 13 rfl) (LW.A rfl (Ai (Aj (KW.q ?_)))))))))))
 exact⟨rfl,hW⟩
theorem fN(b:Nat)(w:World):Ret prog 102 #[.pointer (some ⟨b,0,none⟩)] w fun r w'=>r=.pointer (some ⟨b,14,none⟩)∧Up w w':=by
 have hW:=Up.refl w
 refine cT 6 func102 rfl (Af (J (Ar (Aa (Ac rfl (I (.nc rfl) (I (.fB 14 rfl) (LW.A rfl (Ai (Aj (KW.q ?_)))))))))))
 exact⟨rfl,hW⟩
theorem Yz(b:Nat)(w:World):Ret prog 103 #[.pointer (some ⟨b,0,none⟩)] w fun r w'=>r=.pointer (some ⟨b,15,none⟩)∧Up w w':=by
 have hW:=Up.refl w
 refine cT 6 func103 rfl (Af (J (Ar (Aa (Ac rfl (I (.nc rfl) (I (.fB 15 rfl) (LW.A rfl (Ai (Aj (KW.q ?_)))))))))))
 exact⟨rfl,hW⟩
theorem mH(b:Nat)(w:World):Ret prog 111 #[.pointer (some ⟨b,0,none⟩)] w fun r w'=>r=.pointer (some ⟨b,16,none⟩)∧Up w w':=by
 have hW:=Up.refl w
 refine cT 6 func111 rfl (Af (J (Ar (Aa (Ac rfl (I (.nc rfl) (I (.fB 16 rfl) (LW.A rfl (Ai (Aj (KW.q ?_)))))))))))
 exact⟨rfl,hW⟩
theorem aZ(b:Nat)(w:World):Ret prog 110 #[.pointer (some ⟨b,0,none⟩)] w fun r w'=>r=.pointer (some ⟨b,17,none⟩)∧Up w w':=by
 have hW:=Up.refl w
 refine cT 6 func110 rfl (Af (J (Ar (Aa (Ac rfl (I (.nc rfl) (I (.fB 17 rfl) (LW.A rfl (Ai (Aj (KW.q ?_)))))))))))
 exact⟨rfl,hW⟩
theorem Dp(g:FuncId)(w:World):Ret prog 100 #[.func (.func g) #[] #[]] w fun r w'=>r=.agg #[.func (.func g) #[] #[],vi 1,vi 1000000]∧Up w w':=by
 have hW:=Up.refl w
 refine cT 5 func100 rfl (Af (Ao (.Bi li) rfl ?_))
 rintro _ w1 ⟨B2,rfl,NB2⟩
 have eB2:=NB2.at_
 replace hW:=hW.up NB2.up
 have hB2:=NB2.blk
 refine Ar (Aa (Ac rfl (I (.build (cs:=#[.func (.func g) #[] #[],vi 1,vi 1000000]) l4 li Cr (.ct rfl (.cons (.const _) (.cons (.const _) .nil))) rfl) (Bh (.A5 lx rfl (.t rfl) (.t rfl) eQ hB2 rfl) ?_))))
 intro w2 Nw2
 replace hW:=hW.sto Nw2.sto oQ
 replace hB2:=Nw2.blk
 refine Ai (Aj (Dy rfl rfl isAgg158 lx rfl (hB2.agg) ⟨_,rfl,?_⟩))
 exact⟨rfl,hW⟩
theorem Hy(w:World):Ret prog 116 #[] w fun r w'=>r=.agg (Fld.cells Ct)∧Up w w':=by
 have hW:=Up.refl w
 refine cT 2 func116 rfl (Af (Ao (.Bi li) rfl ?_))
 rintro _ w1 ⟨B0,rfl,NB0⟩
 have eB0:=NB0.at_
 replace hW:=hW.up NB0.up
 have hB0:=NB0.blk
 refine Ar (Aa (I (.build (cs:=(Fld.cells Ct)) l4 li Cr (.cons (.func _) (.cons (.const _) (.cons (.const _) .nil))) rfl) (Bh (.A5 lx rfl (.t rfl) (.t rfl) (Fld.one _) hB0 rfl) ?_)))
 intro w2 Nw2
 replace hW:=hW.sto Nw2.sto oQ
 replace hB0:=Nw2.blk
 refine Ai (Aj (Dy rfl rfl isAgg158 lx rfl (hB0.agg) ⟨_,rfl,?_⟩))
 exact⟨rfl,hW⟩
theorem Nw(w:World):Ret prog 113 #[] w fun r w'=>SlT 158 w' r 3 Fld.cells Db∧Up w w':=by
 have hW:=Up.refl w
 refine cT 4 func113 rfl (Af (J (Ar (Aa (I (.build (cs:=(Fld.cells ⟨11,0,59⟩)) l4 li Cr (.cons (.func _) (.cons (.const _) (.cons (.const _) .nil))) rfl) (I (.build (cs:=(Fld.cells ⟨12,0,3⟩)) l4 li Cr (.cons (.func _) (.cons (.const _) (.cons (.const _) .nil))) rfl) (Ao (.buildSlice (xs:=Db) (enc:=Fld.cells) (mk:=fun x:Fld=>.agg (Fld.cells x)) ln lx li rfl cQ (fun _=>rfl) (fun _=>rfl) (.ct rfl (.cu rfl)) rfl) rfl ?_)))))))
 rintro _ w1 ⟨B3,cB3,rfl,NB3,yB3,xB3⟩
 replace hW:=hW.up NB3.up
 have hB3:=NB3.blk
 have hE3:=xB3
 refine LW.A rfl (Ai (Aj (KW.q ?_)))
 exact⟨SlT.lit ⟨B3,cB3,rfl,NB3,yB3,hE3⟩,hW⟩
theorem Qg(w:World):Ret prog 114 #[] w fun r w'=>SlT 158 w' r 3 Fld.cells Em∧Up w w':=by
 have hW:=Up.refl w
 refine cT 4 func114 rfl (Af (J (Ar (Aa (A3 (eC .nil (P6)) rfl (Hy _) ?_)))))
 rintro _ w1 ⟨rfl,uw1⟩
 replace hW:=hW.up uw1
 refine I (.build (cs:=(Fld.cells ⟨6,0,1000000⟩)) l4 li Cr (.cons (.func _) (.cons (.const _) (.cons (.const _) .nil))) rfl) (Ao (.buildSlice (xs:=Em) (enc:=Fld.cells) (mk:=fun x:Fld=>.agg (Fld.cells x)) ln lx li rfl cQ (fun _=>rfl) (fun _=>rfl) (.ct rfl (.cu rfl)) rfl) rfl ?_)
 rintro _ w2 ⟨B3,cB3,rfl,NB3,yB3,xB3⟩
 replace hW:=hW.up NB3.up
 have hB3:=NB3.blk
 have hE3:=xB3
 refine LW.A rfl (Ai (Aj (KW.q ?_)))
 exact⟨SlT.lit ⟨B3,cB3,rfl,NB3,yB3,hE3⟩,hW⟩
theorem J4(ad:Option Addr)(cp:Nat)(vs:List Go.Value)(xss:List (List Fld))(w:World)(hE0:Els w ad 1 (fun v=>#[v]) vs)(hl:xss.length=vs.length)(hx0:∀(i:Nat)(v:Go.Value)(xs:List Fld),vs[i]?=some v→xss[i]?=some xs→Sl w v 3 Fld.cells xs)(hv:vs.length≤1000)(hb:xss.flatten.length≤1000):Ret prog 112 #[.slice ad vs.length cp] w fun r w'=>SlT 158 w' r 3 Fld.cells xss.flatten∧Up w w':=by
 obtain⟨w0,rfl,hS⟩:=W0 w
 refine cT 16 func112 rfl (Af (J (Ar (Al ?_))))
 replace hS:=hS.add (Up.refl _) (A':=A8 158 3 Fld.cells (.slice none 0 0) ([]:List Fld)) (OwnS.nil _ _ _ _ _) (fun i h=>by cases h)
 refine Aa (Ac rfl (I (.Df mi (.t rfl)) (I (.move (.const _)) (Ai (Ap (A9 (σ:=Nat×Go.Value) (fun s w=>(s.1≤vs.length)∧(Sep no w0 w [A8 158 3 Fld.cells s.2 ((xss.take s.1).flatten)])) (fun s=>[(7,.eq (vi (s.1:Int))),(2,.eq (s.2))]) ([(5,.eq _),(6,.eq _)]) (fun s=>vs.length-s.1) (0,.slice none 0 0) ?_ tQ ?_))))))
 ·exact⟨ao _,hS⟩
 rintro⟨k,v⟩ w1 ⟨hkk,hS⟩
 dsimp only at hkk hS
 refine Af (I (.l2 rfl rfl) (Ar (CW.b rfl (fun h8=>?_) (fun h8=>?_))))
 ·refine Ak (Ab (Al (Ap (Al ?_))))
  have hE:=hE0.up hS.Cj
  have hkl:k<vs.length:=by simp at h8;omega
  refine Aa ?_
  obtain⟨x,hx⟩:=Av (xs:=vs) (i:=k) oQ
  obtain⟨Bx,ox,ax,hcx⟩:=hE _ x hx
  refine I (.Ay mi m5 (.t rfl) (.t rfl) oQ ax) (I (.lb rfl (hcx.nth (j:=0) rfl)) (LW.A rfl (Ai ?_)))
  obtain⟨ys,hys⟩:=Av (xs:=xss) (i:=k) oQ
  have hSl:=((hx0 k x ys hx hys).up hS.Cj)
  have hfl:=Wa xss (k+1)
  rw[Xa hys,au]at hfl
  refine Aa (Ac rfl (Ac rfl (Ao (.Cu (enc:=Fld.cells) (bytes:=24) (i:=Tryz.t158) ln kQ rfl rfl rfl rfl cQ (fun _=>rfl) Fld.one (.t rfl) (.t rfl) (hS.own 0 rfl) hSl (by simp only[maxLen];omega) oQ) rfl ?_)))
  intro v13 w2 Gw2
  replace hS:=hS.E5 0 rfl Gw2
  refine LW.A rfl (LW.nil (Ae (Ab (Aa (I (.ic rfl oQ) (Ac rfl (LW.nil (Aq ?_))))))))
  exact⟨(k+1,v13),⟨by omega,by rw[Xa hys];exact hS⟩,tQ,by omega⟩
 refine A7 (Ad (Ad (Au (Ab (Af (Ac rfl (LW.A rfl (Ai (Aj (KW.q ?_))))))))))
 have hk2:xss.take k=xss:=di (by simp at h8;omega)
 rw[hk2]at hS
 exact⟨SlT.own (hS.own 0 rfl) (fun _=>rfl),hS.Cj⟩
def F0:Nat→FuncId:=fun o=>match o with
 |1=>115
 |2=>104
 |_=>117
def ShV(w:World)(v:Go.Value)(fs ks:List Fld)(r:Nat)(t:Bool):Prop:=∃v1 v2,v=.agg #[v1,v2,.func (.func (F0 r)) #[] #[],.bool t]∧SlT 158 w v1 3 Fld.cells fs∧SlT 158 w v2 3 Fld.cells ks
theorem ShV.H9{w w':World}{v:Go.Value}{fs ks:List Fld}{r:Nat}{t:Bool}(h:ShV w v fs ks r t)(u:Cel w w'):ShV w' v fs ks r t:=let⟨v1,v2,e,h1,h2⟩:=h;⟨v1,v2,e,h1.H9 u,h2.H9 u⟩
def SlS(w:World)(v:Go.Value)(xss:List (List Fld)):Prop:=∃vs:List Go.Value,Sl w v 1 (fun v=>#[v]) vs∧xss.length=vs.length∧∀(i:Nat)(v:Go.Value)(xs:List Fld),vs[i]?=some v→xss[i]?=some xs→Sl w v 3 Fld.cells xs
theorem SlS.H9{w w':World}{v:Go.Value}{xss:List (List Fld)}(h:SlS w v xss)(u:Cel w w'):SlS w' v xss:=let⟨vs,h1,h2,h3⟩:=h;⟨vs,h1.H9 u,h2,fun i v xs a b=>(h3 i v xs a b).H9 u⟩
theorem L6(xss:List (List Fld)):PhC (.pred fun v w=>SlS w v xss):=fun _ _ _ h u=>SlS.H9 h u
theorem Hz(fs ks:List Fld)(r:Nat)(t:Bool):PhC (.pred fun v w=>ShV w v fs ks r t):=fun _ _ _ h u=>ShV.H9 h u
def ShMap(w:World)(b:Nat):Prop:=∃kv,IMap w b kv∧(∀k v,(k,v)∈kv→ShV w v (fieldsOf k) (Fo k) (Ei k) (Ey k))∧∀k,k∈kv.map (·.1)↔1≤k∧k≤11
def AllSl(w:World):List Go.Value→List (List Fld)→Prop
 |[],[]=>True
 |v::vs,xs::xss=>Sl w v 3 Fld.cells xs∧AllSl w vs xss
 |_,_=>False
def Wb(t:Option Addr×Nat×Nat):Go.Value:=.slice t.1 t.2.1 t.2.2
theorem Els.I2{α:Type}{mk:α→Go.Value}{w:World}{ad:Option Addr}{xs:List α}(h:Els w ad 1 (fun x=>#[mk x]) xs):Els w ad 1 (fun v=>#[v]) (xs.map mk):=fun i v hv=>by
 rw[cg]at hv
 cases hx:xs[i]? with
 |none=>rw[hx]at hv;cases hv
 |some x=>rw[hx]at hv;cases hv;exact h i x hx
theorem AllSl.at{w:World}:∀{vs:List Go.Value}{xss:List (List Fld)},AllSl w vs xss→xss.length=vs.length∧∀(i:Nat)(v:Go.Value)(xs:List Fld),vs[i]?=some v→xss[i]?=some xs→Sl w v 3 Fld.cells xs
 |[],[],_=>⟨rfl,fun i v xs h=>by simp at h⟩
 |v::vs,xs::xss,h=>⟨by simp[(AllSl.at h.2).1],fun i v' xs' e1 e2=>by
   match i with
   |0=>cases e1;cases e2;exact h.1
   |i+1=>rw[gx]at e1 e2;exact(AllSl.at h.2).2 i v' xs' e1 e2⟩
 |[],_::_,h=>h.elim
 |_::_,[],h=>h.elim
theorem AllSl.up{w w':World}(u:Up w w'):∀{vs:List Go.Value}{xss:List (List Fld)},AllSl w vs xss→AllSl w' vs xss
 |[],[],_=>trivial
 |_::_,_::_,h=>⟨h.1.H9 u.H9,AllSl.up u h.2⟩
 |[],_::_,h=>h.elim
 |_::_,[],h=>h.elim
set_option maxHeartbeats 8000000 in
theorem L7(w:World):Ret prog 52 #[] w fun r w'=>∃b,r=.map (some b)∧ShMap w' b∧Up w w':=by
 have hW:=Up.refl w
 refine cT 118 func52 rfl (Af (J (Ar (Aa (A3 (eC (.cons (.func _) .nil) (I7)) rfl (Dp _ _) ?_)))))
 rintro _ w1 ⟨rfl,uw1⟩
 replace hW:=hW.up uw1
 refine Ao (.buildSlice (xs:=C1) (enc:=Fld.cells) (mk:=fun x:Fld=>.agg (Fld.cells x)) ln lx li rfl cQ (fun _=>rfl) (fun _=>rfl) (.cu rfl) rfl) rfl ?_
 rintro _ w2 ⟨B8,cB8,rfl,NB8,yB8,xB8⟩
 replace hW:=hW.up NB8.up
 have hB8:=NB8.blk
 have hE8:=xB8
 refine LW.A rfl (Ar ?_)
 have hT8:=SlT.lit ⟨B8,cB8,rfl,NB8,yB8,hE8⟩
 refine Aa (A3 (eC (.cons (.func _) .nil) (I7)) rfl (Dp _ _) ?_)
 rintro _ w3 ⟨rfl,uw3⟩
 replace hW:=hW.up uw3
 replace hB8:=hB8.up uw3
 replace hE8:=hE8.up uw3
 replace hT8:=hT8.up uw3
 refine A3 (eC (.cons (.func _) .nil) (I7)) rfl (Dp _ _) ?_
 rintro _ w4 ⟨rfl,uw4⟩
 replace hW:=hW.up uw4
 replace hB8:=hB8.up uw4
 replace hE8:=hE8.up uw4
 replace hT8:=hT8.up uw4
 refine Ao (.buildSlice (xs:=L5) (enc:=Fld.cells) (mk:=fun x:Fld=>.agg (Fld.cells x)) ln lx li rfl cQ (fun _=>rfl) (fun _=>rfl) (.ct rfl (.cu rfl)) rfl) rfl ?_
 rintro _ w5 ⟨B11,cB11,rfl,NB11,yB11,xB11⟩
 replace hW:=hW.up NB11.up
 replace hB8:=hB8.up NB11.up
 replace hE8:=hE8.up NB11.up
 replace hT8:=hT8.up NB11.up
 have hB11:=NB11.blk
 have hE11:=xB11
 refine LW.A rfl (Ar ?_)
 have hT11:=SlT.lit ⟨B11,cB11,rfl,NB11,yB11,hE11⟩
 refine Aa (I (.assign (.func _)) (Ar (Aa (I (.build (cs:=(Fld.cells ⟨7,0,1000000⟩)) l4 li Cr (.cons (.func _) (.cons (.const _) (.cons (.const _) .nil))) rfl) (I (.build (cs:=(Fld.cells ⟨9,0,1000000⟩)) l4 li Cr (.cons (.func _) (.cons (.const _) (.cons (.const _) .nil))) rfl) (I (.build (cs:=(Fld.cells ⟨11,0,60⟩)) l4 li Cr (.cons (.func _) (.cons (.const _) (.cons (.const _) .nil))) rfl) (I (.build (cs:=(Fld.cells ⟨12,0,4⟩)) l4 li Cr (.cons (.func _) (.cons (.const _) (.cons (.const _) .nil))) rfl) (I (.build (cs:=(Fld.cells ⟨13,0,40⟩)) l4 li Cr (.cons (.func _) (.cons (.const _) (.cons (.const _) .nil))) rfl) (I (.build (cs:=(Fld.cells ⟨14,0,1000000⟩)) l4 li Cr (.cons (.func _) (.cons (.const _) (.cons (.const _) .nil))) rfl) (I (.build (cs:=(Fld.cells ⟨15,0,1000000⟩)) l4 li Cr (.cons (.func _) (.cons (.const _) (.cons (.const _) .nil))) rfl) (Ao (.buildSlice (xs:=K6) (enc:=Fld.cells) (mk:=fun x:Fld=>.agg (Fld.cells x)) ln lx li rfl cQ (fun _=>rfl) (fun _=>rfl) (.ct rfl (.ct rfl (.ct rfl (.ct rfl (.ct rfl (.ct rfl (.cu rfl))))))) rfl) rfl ?_)))))))))))
 rintro _ w6 ⟨B19,cB19,rfl,NB19,yB19,xB19⟩
 replace hW:=hW.up NB19.up
 replace hB8:=hB8.up NB19.up
 replace hE8:=hE8.up NB19.up
 replace hT8:=hT8.up NB19.up
 replace hB11:=hB11.up NB19.up
 replace hE11:=hE11.up NB19.up
 replace hT11:=hT11.up NB19.up
 have hB19:=NB19.blk
 have hE19:=xB19
 refine LW.A rfl (Ar ?_)
 have hT19:=SlT.lit ⟨B19,cB19,rfl,NB19,yB19,hE19⟩
 refine Aa (I (.build (cs:=(Fld.cells Jf)) l4 li Cr (.cons (.func _) (.cons (.const _) (.cons (.const _) .nil))) rfl) (Ao (.Bi li) rfl ?_))
 rintro _ w7 ⟨B5,rfl,MB5⟩
 refine Bh (.A5 lx rfl (.t rfl) (.t rfl) (Fld.one _) MB5.blk rfl) ?_
 intro w8 LB5
 have NB5:=MB5.set LB5
 replace hW:=hW.up NB5.up
 replace hB8:=hB8.up NB5.up
 replace hE8:=hE8.up NB5.up
 replace hT8:=hT8.up NB5.up
 replace hB11:=hB11.up NB5.up
 replace hE11:=hE11.up NB5.up
 replace hT11:=hT11.up NB5.up
 replace hB19:=hB19.up NB5.up
 replace hE19:=hE19.up NB5.up
 replace hT19:=hT19.up NB5.up
 have hB5:=NB5.blk
 refine Ar (Aa (I (.build (cs:=(Fld.cells Mq)) l4 li Cr (.cons (.func _) (.cons (.const _) (.cons (.const _) .nil))) rfl) (Ao (.Bi li) rfl ?_)))
 rintro _ w9 ⟨B6,rfl,MB6⟩
 refine Bh (.A5 lx rfl (.t rfl) (.t rfl) (Fld.one _) MB6.blk rfl) ?_
 intro w10 LB6
 have NB6:=MB6.set LB6
 replace hW:=hW.up NB6.up
 replace hB8:=hB8.up NB6.up
 replace hE8:=hE8.up NB6.up
 replace hT8:=hT8.up NB6.up
 replace hB11:=hB11.up NB6.up
 replace hE11:=hE11.up NB6.up
 replace hT11:=hT11.up NB6.up
 replace hB19:=hB19.up NB6.up
 replace hE19:=hE19.up NB6.up
 replace hT19:=hT19.up NB6.up
 replace hB5:=hB5.up NB6.up
 have hB6:=NB6.blk
 refine Ar (mB 106 0 22 [(15,1,36),(24,2,44),(35,3,54),(45,4,63),(51,5,68),(60,6,76),(70,7,85),(79,8,93),(88,9,101),(97,10,109),(105,11,116)] [(.pred fun v _=>∃b,v=.map (some b)),(.pred fun v w=>SlT 158 w v 3 Fld.cells (C1)),(.eq (.agg (Fld.cells (Cz 7)))),(.pred fun v w=>SlT 158 w v 3 Fld.cells ([Cz 7])),(.pred fun v w=>SlT 158 w v 3 Fld.cells (Db)),(.eq (.agg (Fld.cells (⟨13,0,39⟩)))),(.pred fun v w=>SlT 158 w v 3 Fld.cells ([⟨13,0,39⟩])),(.pred fun v w=>SlT 158 w v 3 Fld.cells (L5)),(.pred fun v w=>SlT 158 w v 3 Fld.cells (Em)),(.eq (.agg (Fld.cells (⟨16,-10000000,10000000⟩)))),(.pred fun v w=>SlT 158 w v 3 Fld.cells ([⟨16,-10000000,10000000⟩])),(.pred fun v w=>SlS w v [C1,[Cz 7],Db,[⟨13,0,39⟩],L5,Em,[⟨16,-10000000,10000000⟩]]),(.pred fun v w=>SlT 158 w v 3 Fld.cells (List.flatten [C1,[Cz 7],Db,[⟨13,0,39⟩],L5,Em,[⟨16,-10000000,10000000⟩]])),(.pred fun v w=>SlT 158 w v 3 Fld.cells (C1)),(.pred fun v w=>ShV w v (List.flatten [C1,[Cz 7],Db,[⟨13,0,39⟩],L5,Em,[⟨16,-10000000,10000000⟩]]) (C1) 1 false),(.eq undef),(.pred fun v w=>SlT 158 w v 3 Fld.cells (C1)),(.eq (.agg (Fld.cells (Ct)))),(.eq (.agg (Fld.cells (Mq)))),(.pred fun v w=>SlT 158 w v 3 Fld.cells ([Ct,Mq])),(.pred fun v w=>SlS w v [C1,[Ct,Mq]]),(.pred fun v w=>SlT 158 w v 3 Fld.cells (List.flatten [C1,[Ct,Mq]])),(.pred fun v w=>SlT 158 w v 3 Fld.cells (C1)),(.pred fun v w=>ShV w v (List.flatten [C1,[Ct,Mq]]) (C1) 0 false),(.eq undef),(.pred fun v w=>SlT 158 w v 3 Fld.cells (C1)),(.eq (.agg (Fld.cells (Cz 7)))),(.eq (.agg (Fld.cells (Cz 8)))),(.eq (.agg (Fld.cells (Ct)))),(.pred fun v w=>SlT 158 w v 3 Fld.cells ([Cz 7,Cz 8,Ct])),(.pred fun v w=>SlS w v [C1,[Cz 7,Cz 8,Ct]]),(.pred fun v w=>SlT 158 w v 3 Fld.cells (List.flatten [C1,[Cz 7,Cz 8,Ct]])),(.pred fun v w=>SlT 158 w v 3 Fld.cells (C1)),(.eq (.func (.func (F0 2)) #[] #[])),(.pred fun v w=>ShV w v (List.flatten [C1,[Cz 7,Cz 8,Ct]]) (C1) 2 false),(.eq undef),(.eq (.agg (Fld.cells (Cz 7)))),(.eq (.agg (Fld.cells (Cz 9)))),(.eq (.agg (Fld.cells (Cz 10)))),(.eq (.agg (Fld.cells (Ct)))),(.pred fun v w=>SlT 158 w v 3 Fld.cells ([Cz 7,Cz 9,Cz 10,Ct])),(.eq (.agg (Fld.cells (Cz 7)))),(.eq (.agg (Fld.cells (Ct)))),(.pred fun v w=>SlT 158 w v 3 Fld.cells ([Cz 7,Ct])),(.pred fun v w=>ShV w v ([Cz 7,Cz 9,Cz 10,Ct]) ([Cz 7,Ct]) 0 false),(.eq undef),(.eq (.agg (Fld.cells (Cz 10)))),(.pred fun v w=>SlT 158 w v 3 Fld.cells ([Cz 10])),(.eq (.agg (Fld.cells (Cz 10)))),(.pred fun v w=>SlT 158 w v 3 Fld.cells ([Cz 10])),(.pred fun v w=>ShV w v ([Cz 10]) ([Cz 10]) 0 true),(.eq undef),(.pred fun v w=>SlT 158 w v 3 Fld.cells (C1)),(.pred fun v w=>SlT 158 w v 3 Fld.cells (Db)),(.pred fun v w=>SlT 158 w v 3 Fld.cells (L5)),(.pred fun v w=>SlT 158 w v 3 Fld.cells (Em)),(.pred fun v w=>SlS w v [C1,Db,L5,Em]),(.pred fun v w=>SlT 158 w v 3 Fld.cells (List.flatten [C1,Db,L5,Em])),(.pred fun v w=>SlT 158 w v 3 Fld.cells (C1)),(.pred fun v w=>ShV w v (List.flatten [C1,Db,L5,Em]) (C1) 1 false),(.eq undef),(.pred fun v w=>SlT 158 w v 3 Fld.cells (C1)),(.pred fun v w=>SlT 158 w v 3 Fld.cells (K6)),(.pred fun v w=>SlT 158 w v 3 Fld.cells (Em)),(.eq (.agg (Fld.cells (Jf)))),(.pred fun v w=>SlT 158 w v 3 Fld.cells ([Jf])),(.pred fun v w=>SlS w v [C1,K6,Em,[Jf]]),(.pred fun v w=>SlT 158 w v 3 Fld.cells (List.flatten [C1,K6,Em,[Jf]])),(.pred fun v w=>SlT 158 w v 3 Fld.cells (C1)),(.pred fun v w=>ShV w v (List.flatten [C1,K6,Em,[Jf]]) (C1) 1 false),(.eq undef),(.eq (.agg (Fld.cells (Cz 8)))),(.eq (.agg (Fld.cells (Jf)))),(.eq (.agg (Fld.cells (Ct)))),(.pred fun v w=>SlT 158 w v 3 Fld.cells ([Cz 8,Jf,Ct])),(.eq (.agg (Fld.cells (Cz 8)))),(.eq (.agg (Fld.cells (Jf)))),(.pred fun v w=>SlT 158 w v 3 Fld.cells ([Cz 8,Jf])),(.pred fun v w=>ShV w v ([Cz 8,Jf,Ct]) ([Cz 8,Jf]) 0 false),(.eq undef),(.pred fun v w=>SlT 158 w v 3 Fld.cells (C1)),(.pred fun v w=>SlT 158 w v 3 Fld.cells (Db)),(.eq (.agg (Fld.cells (Ct)))),(.pred fun v w=>SlT 158 w v 3 Fld.cells ([Ct])),(.pred fun v w=>SlS w v [C1,Db,[Ct]]),(.pred fun v w=>SlT 158 w v 3 Fld.cells (List.flatten [C1,Db,[Ct]])),(.pred fun v w=>SlT 158 w v 3 Fld.cells (C1)),(.pred fun v w=>ShV w v (List.flatten [C1,Db,[Ct]]) (C1) 0 false),(.eq undef),(.eq (.agg (Fld.cells (Cz 14)))),(.eq (.agg (Fld.cells (Ct)))),(.eq (.agg (Fld.cells (Mq)))),(.pred fun v w=>SlT 158 w v 3 Fld.cells ([Cz 14,Ct,Mq])),(.eq (.agg (Fld.cells (Cz 14)))),(.eq (.agg (Fld.cells (Ct)))),(.pred fun v w=>SlT 158 w v 3 Fld.cells ([Cz 14,Ct])),(.pred fun v w=>ShV w v ([Cz 14,Ct,Mq]) ([Cz 14,Ct]) 0 false),(.eq undef),(.pred fun v w=>SlT 158 w v 3 Fld.cells (C1)),(.pred fun v w=>SlT 158 w v 3 Fld.cells (Db)),(.pred fun v w=>SlT 158 w v 3 Fld.cells (Em)),(.pred fun v w=>SlS w v [C1,Db,Em]),(.pred fun v w=>SlT 158 w v 3 Fld.cells (List.flatten [C1,Db,Em])),(.pred fun v w=>SlT 158 w v 3 Fld.cells (C1)),(.pred fun v w=>ShV w v (List.flatten [C1,Db,Em]) (C1) 1 false),(.eq undef)] ng lh kQ rfl kQ kQ kQ kQ kQ kQ kQ rfl cQ ⟨_,_,rfl⟩ ⟨PhC.pred fun _ _ _ h _=>h,Ck _ _ _ _,PhC.eq _,Ck _ _ _ _,Ck _ _ _ _,PhC.eq _,Ck _ _ _ _,Ck _ _ _ _,Ck _ _ _ _,PhC.eq _,Ck _ _ _ _,L6 _,Ck _ _ _ _,Ck _ _ _ _,Hz _ _ _ _,PhC.eq _,Ck _ _ _ _,PhC.eq _,PhC.eq _,Ck _ _ _ _,L6 _,Ck _ _ _ _,Ck _ _ _ _,Hz _ _ _ _,PhC.eq _,Ck _ _ _ _,PhC.eq _,PhC.eq _,PhC.eq _,Ck _ _ _ _,L6 _,Ck _ _ _ _,Ck _ _ _ _,PhC.eq _,Hz _ _ _ _,PhC.eq _,PhC.eq _,PhC.eq _,PhC.eq _,PhC.eq _,Ck _ _ _ _,PhC.eq _,PhC.eq _,Ck _ _ _ _,Hz _ _ _ _,PhC.eq _,PhC.eq _,Ck _ _ _ _,PhC.eq _,Ck _ _ _ _,Hz _ _ _ _,PhC.eq _,Ck _ _ _ _,Ck _ _ _ _,Ck _ _ _ _,Ck _ _ _ _,L6 _,Ck _ _ _ _,Ck _ _ _ _,Hz _ _ _ _,PhC.eq _,Ck _ _ _ _,Ck _ _ _ _,Ck _ _ _ _,PhC.eq _,Ck _ _ _ _,L6 _,Ck _ _ _ _,Ck _ _ _ _,Hz _ _ _ _,PhC.eq _,PhC.eq _,PhC.eq _,PhC.eq _,Ck _ _ _ _,PhC.eq _,PhC.eq _,Ck _ _ _ _,Hz _ _ _ _,PhC.eq _,Ck _ _ _ _,Ck _ _ _ _,PhC.eq _,Ck _ _ _ _,L6 _,Ck _ _ _ _,Ck _ _ _ _,Hz _ _ _ _,PhC.eq _,PhC.eq _,PhC.eq _,PhC.eq _,Ck _ _ _ _,PhC.eq _,PhC.eq _,Ck _ _ _ _,Hz _ _ _ _,PhC.eq _,Ck _ _ _ _,Ck _ _ _ _,Ck _ _ _ _,L6 _,Ck _ _ _ _,Ck _ _ _ _,Hz _ _ _ _,PhC.eq _,trivial⟩ (fun b W=>⟨b,rfl⟩) ?_ ?_)
 ·intro W hC0
  have hC:=(Up.drew w10).H9.trans hC0
  refine aC (.inl (.inl rfl)) (aC (.inr ⟨rfl,rfl,TU.p (.mv rfl) (SlT.H9 hT8 hC)⟩) (aC (.inr ⟨rfl,rfl,TU.c (eC (.cons (.func _) .nil) (I7)) (Dp _ _) sQ⟩) (aC (.inr ⟨rfl,rfl,TU.r (REv.buildSlice (xs:=([Cz 7]:List Fld)) (enc:=Fld.cells) (mk:=fun x:Fld=>.agg (Fld.cells x)) ln lx li rfl cQ (fun _=>rfl) (fun _=>rfl) (.cu rfl) rfl) (by rintro _ W1 ⟨B,c,rfl,N,y,x⟩;exact⟨N.up,SlT.lit ⟨B,c,rfl,N,y,x⟩⟩)⟩) (aC (.inr ⟨rfl,rfl,TU.c (eC .nil (iZ)) (Nw _) (fun v W1 h=>⟨h.2,h.1⟩)⟩) (aC (.inr ⟨rfl,rfl,TU.p (.build (cs:=Fld.cells ⟨13,0,39⟩) l4 li Cr (.cons (.func _) (.cons (.const _) (.cons (.const _) .nil))) rfl) rfl⟩) (aC (.inr ⟨rfl,rfl,TU.r (REv.buildSlice (xs:=([⟨13,0,39⟩]:List Fld)) (enc:=Fld.cells) (mk:=fun x:Fld=>.agg (Fld.cells x)) ln lx li rfl cQ (fun _=>rfl) (fun _=>rfl) (.cu rfl) rfl) (by rintro _ W1 ⟨B,c,rfl,N,y,x⟩;exact⟨N.up,SlT.lit ⟨B,c,rfl,N,y,x⟩⟩)⟩) (aC (.inr ⟨rfl,rfl,TU.p (.mv rfl) (SlT.H9 hT11 hC)⟩) (aC (.inr ⟨rfl,rfl,TU.c (eC .nil (jA)) (Qg _) (fun v W1 h=>⟨h.2,h.1⟩)⟩) (aC (.inr ⟨rfl,rfl,TU.p (.build (cs:=Fld.cells ⟨16,-10000000,10000000⟩) l4 li Cr (.cons (.func _) (.cons (.const _) (.cons (.const _) .nil))) rfl) rfl⟩) (aC (.inr ⟨rfl,rfl,TU.r (REv.buildSlice (xs:=([⟨16,-10000000,10000000⟩]:List Fld)) (enc:=Fld.cells) (mk:=fun x:Fld=>.agg (Fld.cells x)) ln lx li rfl cQ (fun _=>rfl) (fun _=>rfl) (.cu rfl) rfl) (by rintro _ W1 ⟨B,c,rfl,N,y,x⟩;exact⟨N.up,SlT.lit ⟨B,c,rfl,N,y,x⟩⟩)⟩) (aC (.inr ⟨rfl,rfl,TU.open (d:=23) rfl (by rintro _ ⟨⟨a23,c23,rfl,x23⟩,_⟩;exact TU.open (d:=25) rfl (by rintro _ ⟨⟨a25,c25,rfl,x25⟩,_⟩;exact TU.open (d:=26) rfl (by rintro _ ⟨⟨a26,c26,rfl,x26⟩,_⟩;exact TU.open (d:=28) rfl (by rintro _ ⟨⟨a28,c28,rfl,x28⟩,_⟩;exact TU.open (d:=29) rfl (by rintro _ ⟨⟨a29,c29,rfl,x29⟩,_⟩;exact TU.open (d:=30) rfl (by rintro _ ⟨⟨a30,c30,rfl,x30⟩,_⟩;exact TU.open (d:=32) rfl (by rintro _ ⟨⟨a32,c32,rfl,x32⟩,_⟩;exact TU.r (REv.buildSlice (xs:=[(a23,List.length (C1),c23),(a25,List.length ([Cz 7]),c25),(a26,List.length (Db),c26),(a28,List.length ([⟨13,0,39⟩]),c28),(a29,List.length (L5),c29),(a30,List.length (Em),c30),(a32,List.length ([⟨16,-10000000,10000000⟩]),c32)]) (enc:=fun t=>#[Wb t]) (mk:=Wb) mi m5 m3 rfl cQ (fun _=>rfl) (fun _=>rfl) (.ct rfl (.ct rfl (.ct rfl (.ct rfl (.ct rfl (.ct rfl (.cu rfl))))))) rfl) (by rintro _ W1 ⟨B,c,rfl,N,y,x⟩;exact⟨N.up,_,Az (Els.I2 x),(AllSl.up N.up (vs:=List.map Wb [(a23,List.length (C1),c23),(a25,List.length ([Cz 7]),c25),(a26,List.length (Db),c26),(a28,List.length ([⟨13,0,39⟩]),c28),(a29,List.length (L5),c29),(a30,List.length (Em),c30),(a32,List.length ([⟨16,-10000000,10000000⟩]),c32)]) (xss:=[C1,[Cz 7],Db,[⟨13,0,39⟩],L5,Em,[⟨16,-10000000,10000000⟩]]) ⟨Az x23,Az x25,Az x26,Az x28,Az x29,Az x30,Az x32,trivial⟩).at⟩))))))))⟩) (aC (.inr ⟨rfl,rfl,TU.open (d:=33) rfl (by rintro v ⟨vs,⟨ad,cp,rfl,hE⟩,hl,hx⟩;exact TU.c (eC (.o rfl) (T3)) (J4 ad cp vs _ _ hE hl hx (by rw[←hl];decide) cQ) (fun v W1 h=>⟨h.2,h.1⟩))⟩) (aC (.inr ⟨rfl,rfl,TU.p (.mv rfl) (SlT.H9 hT8 hC)⟩) (aC (.inr ⟨rfl,rfl,TU.open (d:=34) rfl (by rintro _ ⟨⟨a34,c34,rfl,x34⟩,p34⟩;exact TU.open (d:=35) rfl (by rintro _ ⟨⟨b35,d35,rfl,y35⟩,q35⟩;exact TU.p (.build (cs:=#[.slice a34 (List.length (List.flatten [C1,[Cz 7],Db,[⟨13,0,39⟩],L5,Em,[⟨16,-10000000,10000000⟩]])) c34,.slice b35 (List.length (C1)) d35,.func (.func (F0 1)) #[] #[],.bool false]) l8 l6 Dg (.ct rfl (.ct rfl (.cons (.func _) (.cons (.const _) .nil)))) rfl) ⟨_,_,rfl,⟨Az x34,p34⟩,⟨Az y35,q35⟩⟩))⟩) (aC (.inl (.inr ⟨rfl,by intro j hj e;simp only[ap,ba,b8]at hj;rcases hj with rfl|rfl|rfl|rfl|rfl|rfl|rfl|rfl|rfl|rfl|rfl<;>first|exact absurd e cQ|exact⟨_,_,_,rfl⟩⟩)) (aC (.inr ⟨rfl,rfl,TU.p (.mv rfl) (SlT.H9 hT8 hC)⟩) (aC (.inr ⟨rfl,rfl,TU.c (eC .nil (P6)) (Hy _) sQ⟩) (aC (.inr ⟨rfl,rfl,TU.p (.lc rfl (AggAt.H9 hB6.agg hC)) rfl⟩) (aC (.inr ⟨rfl,rfl,TU.r (REv.buildSlice (xs:=([Ct,Mq]:List Fld)) (enc:=Fld.cells) (mk:=fun x:Fld=>.agg (Fld.cells x)) ln lx li rfl cQ (fun _=>rfl) (fun _=>rfl) (.ct rfl (.cu rfl)) rfl) (by rintro _ W1 ⟨B,c,rfl,N,y,x⟩;exact⟨N.up,SlT.lit ⟨B,c,rfl,N,y,x⟩⟩)⟩) (aC (.inr ⟨rfl,rfl,TU.open (d:=37) rfl (by rintro _ ⟨⟨a37,c37,rfl,x37⟩,_⟩;exact TU.open (d:=40) rfl (by rintro _ ⟨⟨a40,c40,rfl,x40⟩,_⟩;exact TU.r (REv.buildSlice (xs:=[(a37,List.length (C1),c37),(a40,List.length ([Ct,Mq]),c40)]) (enc:=fun t=>#[Wb t]) (mk:=Wb) mi m5 m3 rfl cQ (fun _=>rfl) (fun _=>rfl) (.ct rfl (.cu rfl)) rfl) (by rintro _ W1 ⟨B,c,rfl,N,y,x⟩;exact⟨N.up,_,Az (Els.I2 x),(AllSl.up N.up (vs:=List.map Wb [(a37,List.length (C1),c37),(a40,List.length ([Ct,Mq]),c40)]) (xss:=[C1,[Ct,Mq]]) ⟨Az x37,Az x40,trivial⟩).at⟩)))⟩) (aC (.inr ⟨rfl,rfl,TU.open (d:=41) rfl (by rintro v ⟨vs,⟨ad,cp,rfl,hE⟩,hl,hx⟩;exact TU.c (eC (.o rfl) (T3)) (J4 ad cp vs _ _ hE hl hx (by rw[←hl];decide) cQ) (fun v W1 h=>⟨h.2,h.1⟩))⟩) (aC (.inr ⟨rfl,rfl,TU.p (.mv rfl) (SlT.H9 hT8 hC)⟩) (aC (.inr ⟨rfl,rfl,TU.open (d:=42) rfl (by rintro _ ⟨⟨a42,c42,rfl,x42⟩,p42⟩;exact TU.open (d:=43) rfl (by rintro _ ⟨⟨b43,d43,rfl,y43⟩,q43⟩;exact TU.p (.build (cs:=#[.slice a42 (List.length (List.flatten [C1,[Ct,Mq]])) c42,.slice b43 (List.length (C1)) d43,.func (.func (F0 0)) #[] #[],.bool false]) l8 l6 Dg (.ct rfl (.ct rfl (.cons (.func _) (.cons (.const _) .nil)))) rfl) ⟨_,_,rfl,⟨Az x42,p42⟩,⟨Az y43,q43⟩⟩))⟩) (aC (.inl (.inr ⟨rfl,by intro j hj e;simp only[ap,ba,b8]at hj;rcases hj with rfl|rfl|rfl|rfl|rfl|rfl|rfl|rfl|rfl|rfl|rfl<;>first|exact absurd e cQ|exact⟨_,_,_,rfl⟩⟩)) (aC (.inr ⟨rfl,rfl,TU.p (.mv rfl) (SlT.H9 hT8 hC)⟩) (aC (.inr ⟨rfl,rfl,TU.c (eC (.cons (.func _) .nil) (I7)) (Dp _ _) sQ⟩) (aC (.inr ⟨rfl,rfl,TU.c (eC (.cons (.func _) .nil) (I7)) (Dp _ _) sQ⟩) (aC (.inr ⟨rfl,rfl,TU.c (eC .nil (P6)) (Hy _) sQ⟩) (aC (.inr ⟨rfl,rfl,TU.r (REv.buildSlice (xs:=([Cz 7,Cz 8,Ct]:List Fld)) (enc:=Fld.cells) (mk:=fun x:Fld=>.agg (Fld.cells x)) ln lx li rfl cQ (fun _=>rfl) (fun _=>rfl) (.ct rfl (.ct rfl (.cu rfl))) rfl) (by rintro _ W1 ⟨B,c,rfl,N,y,x⟩;exact⟨N.up,SlT.lit ⟨B,c,rfl,N,y,x⟩⟩)⟩) (aC (.inr ⟨rfl,rfl,TU.open (d:=45) rfl (by rintro _ ⟨⟨a45,c45,rfl,x45⟩,_⟩;exact TU.open (d:=49) rfl (by rintro _ ⟨⟨a49,c49,rfl,x49⟩,_⟩;exact TU.r (REv.buildSlice (xs:=[(a45,List.length (C1),c45),(a49,List.length ([Cz 7,Cz 8,Ct]),c49)]) (enc:=fun t=>#[Wb t]) (mk:=Wb) mi m5 m3 rfl cQ (fun _=>rfl) (fun _=>rfl) (.ct rfl (.cu rfl)) rfl) (by rintro _ W1 ⟨B,c,rfl,N,y,x⟩;exact⟨N.up,_,Az (Els.I2 x),(AllSl.up N.up (vs:=List.map Wb [(a45,List.length (C1),c45),(a49,List.length ([Cz 7,Cz 8,Ct]),c49)]) (xss:=[C1,[Cz 7,Cz 8,Ct]]) ⟨Az x45,Az x49,trivial⟩).at⟩)))⟩) (aC (.inr ⟨rfl,rfl,TU.open (d:=50) rfl (by rintro v ⟨vs,⟨ad,cp,rfl,hE⟩,hl,hx⟩;exact TU.c (eC (.o rfl) (T3)) (J4 ad cp vs _ _ hE hl hx (by rw[←hl];decide) cQ) (fun v W1 h=>⟨h.2,h.1⟩))⟩) (aC (.inr ⟨rfl,rfl,TU.p (.mv rfl) (SlT.H9 hT8 hC)⟩) (aC (.inr ⟨rfl,rfl,TU.p (.mv rfl) rfl⟩) (aC (.inr ⟨rfl,rfl,TU.open (d:=51) rfl (by rintro _ ⟨⟨a51,c51,rfl,x51⟩,p51⟩;exact TU.open (d:=52) rfl (by rintro _ ⟨⟨b52,d52,rfl,y52⟩,q52⟩;exact TU.p (.build (cs:=#[.slice a51 (List.length (List.flatten [C1,[Cz 7,Cz 8,Ct]])) c51,.slice b52 (List.length (C1)) d52,.func (.func (F0 2)) #[] #[],.bool false]) l8 l6 Dg (.ct rfl (.ct rfl (.ct rfl (.cons (.const _) .nil)))) rfl) ⟨_,_,rfl,⟨Az x51,p51⟩,⟨Az y52,q52⟩⟩))⟩) (aC (.inl (.inr ⟨rfl,by intro j hj e;simp only[ap,ba,b8]at hj;rcases hj with rfl|rfl|rfl|rfl|rfl|rfl|rfl|rfl|rfl|rfl|rfl<;>first|exact absurd e cQ|exact⟨_,_,_,rfl⟩⟩)) (aC (.inr ⟨rfl,rfl,TU.c (eC (.cons (.func _) .nil) (I7)) (Dp _ _) sQ⟩) (aC (.inr ⟨rfl,rfl,TU.c (eC (.cons (.func _) .nil) (I7)) (Dp _ _) sQ⟩) (aC (.inr ⟨rfl,rfl,TU.c (eC (.cons (.func _) .nil) (I7)) (Dp _ _) sQ⟩) (aC (.inr ⟨rfl,rfl,TU.c (eC .nil (P6)) (Hy _) sQ⟩) (aC (.inr ⟨rfl,rfl,TU.r (REv.buildSlice (xs:=([Cz 7,Cz 9,Cz 10,Ct]:List Fld)) (enc:=Fld.cells) (mk:=fun x:Fld=>.agg (Fld.cells x)) ln lx li rfl cQ (fun _=>rfl) (fun _=>rfl) (.ct rfl (.ct rfl (.ct rfl (.cu rfl)))) rfl) (by rintro _ W1 ⟨B,c,rfl,N,y,x⟩;exact⟨N.up,SlT.lit ⟨B,c,rfl,N,y,x⟩⟩)⟩) (aC (.inr ⟨rfl,rfl,TU.c (eC (.cons (.func _) .nil) (I7)) (Dp _ _) sQ⟩) (aC (.inr ⟨rfl,rfl,TU.c (eC .nil (P6)) (Hy _) sQ⟩) (aC (.inr ⟨rfl,rfl,TU.r (REv.buildSlice (xs:=([Cz 7,Ct]:List Fld)) (enc:=Fld.cells) (mk:=fun x:Fld=>.agg (Fld.cells x)) ln lx li rfl cQ (fun _=>rfl) (fun _=>rfl) (.ct rfl (.cu rfl)) rfl) (by rintro _ W1 ⟨B,c,rfl,N,y,x⟩;exact⟨N.up,SlT.lit ⟨B,c,rfl,N,y,x⟩⟩)⟩) (aC (.inr ⟨rfl,rfl,TU.open (d:=59) rfl (by rintro _ ⟨⟨a59,c59,rfl,x59⟩,p59⟩;exact TU.open (d:=62) rfl (by rintro _ ⟨⟨b62,d62,rfl,y62⟩,q62⟩;exact TU.p (.build (cs:=#[.slice a59 (List.length ([Cz 7,Cz 9,Cz 10,Ct])) c59,.slice b62 (List.length ([Cz 7,Ct])) d62,.func (.func (F0 0)) #[] #[],.bool false]) l8 l6 Dg (.ct rfl (.ct rfl (.cons (.func _) (.cons (.const _) .nil)))) rfl) ⟨_,_,rfl,⟨Az x59,p59⟩,⟨Az y62,q62⟩⟩))⟩) (aC (.inl (.inr ⟨rfl,by intro j hj e;simp only[ap,ba,b8]at hj;rcases hj with rfl|rfl|rfl|rfl|rfl|rfl|rfl|rfl|rfl|rfl|rfl<;>first|exact absurd e cQ|exact⟨_,_,_,rfl⟩⟩)) (aC (.inr ⟨rfl,rfl,TU.c (eC (.cons (.func _) .nil) (I7)) (Dp _ _) sQ⟩) (aC (.inr ⟨rfl,rfl,TU.r (REv.buildSlice (xs:=([Cz 10]:List Fld)) (enc:=Fld.cells) (mk:=fun x:Fld=>.agg (Fld.cells x)) ln lx li rfl cQ (fun _=>rfl) (fun _=>rfl) (.cu rfl) rfl) (by rintro _ W1 ⟨B,c,rfl,N,y,x⟩;exact⟨N.up,SlT.lit ⟨B,c,rfl,N,y,x⟩⟩)⟩) (aC (.inr ⟨rfl,rfl,TU.c (eC (.cons (.func _) .nil) (I7)) (Dp _ _) sQ⟩) (aC (.inr ⟨rfl,rfl,TU.r (REv.buildSlice (xs:=([Cz 10]:List Fld)) (enc:=Fld.cells) (mk:=fun x:Fld=>.agg (Fld.cells x)) ln lx li rfl cQ (fun _=>rfl) (fun _=>rfl) (.cu rfl) rfl) (by rintro _ W1 ⟨B,c,rfl,N,y,x⟩;exact⟨N.up,SlT.lit ⟨B,c,rfl,N,y,x⟩⟩)⟩) (aC (.inr ⟨rfl,rfl,TU.open (d:=65) rfl (by rintro _ ⟨⟨a65,c65,rfl,x65⟩,p65⟩;exact TU.open (d:=67) rfl (by rintro _ ⟨⟨b67,d67,rfl,y67⟩,q67⟩;exact TU.p (.build (cs:=#[.slice a65 (List.length ([Cz 10])) c65,.slice b67 (List.length ([Cz 10])) d67,.func (.func (F0 0)) #[] #[],.bool true]) l8 l6 Dg (.ct rfl (.ct rfl (.cons (.func _) (.cons (.const _) .nil)))) rfl) ⟨_,_,rfl,⟨Az x65,p65⟩,⟨Az y67,q67⟩⟩))⟩) (aC (.inl (.inr ⟨rfl,by intro j hj e;simp only[ap,ba,b8]at hj;rcases hj with rfl|rfl|rfl|rfl|rfl|rfl|rfl|rfl|rfl|rfl|rfl<;>first|exact absurd e cQ|exact⟨_,_,_,rfl⟩⟩)) (aC (.inr ⟨rfl,rfl,TU.p (.mv rfl) (SlT.H9 hT8 hC)⟩) (aC (.inr ⟨rfl,rfl,TU.c (eC .nil (iZ)) (Nw _) (fun v W1 h=>⟨h.2,h.1⟩)⟩) (aC (.inr ⟨rfl,rfl,TU.p (.mv rfl) (SlT.H9 hT11 hC)⟩) (aC (.inr ⟨rfl,rfl,TU.c (eC .nil (jA)) (Qg _) (fun v W1 h=>⟨h.2,h.1⟩)⟩) (aC (.inr ⟨rfl,rfl,TU.open (d:=69) rfl (by rintro _ ⟨⟨a69,c69,rfl,x69⟩,_⟩;exact TU.open (d:=70) rfl (by rintro _ ⟨⟨a70,c70,rfl,x70⟩,_⟩;exact TU.open (d:=71) rfl (by rintro _ ⟨⟨a71,c71,rfl,x71⟩,_⟩;exact TU.open (d:=72) rfl (by rintro _ ⟨⟨a72,c72,rfl,x72⟩,_⟩;exact TU.r (REv.buildSlice (xs:=[(a69,List.length (C1),c69),(a70,List.length (Db),c70),(a71,List.length (L5),c71),(a72,List.length (Em),c72)]) (enc:=fun t=>#[Wb t]) (mk:=Wb) mi m5 m3 rfl cQ (fun _=>rfl) (fun _=>rfl) (.ct rfl (.ct rfl (.ct rfl (.cu rfl)))) rfl) (by rintro _ W1 ⟨B,c,rfl,N,y,x⟩;exact⟨N.up,_,Az (Els.I2 x),(AllSl.up N.up (vs:=List.map Wb [(a69,List.length (C1),c69),(a70,List.length (Db),c70),(a71,List.length (L5),c71),(a72,List.length (Em),c72)]) (xss:=[C1,Db,L5,Em]) ⟨Az x69,Az x70,Az x71,Az x72,trivial⟩).at⟩)))))⟩) (aC (.inr ⟨rfl,rfl,TU.open (d:=73) rfl (by rintro v ⟨vs,⟨ad,cp,rfl,hE⟩,hl,hx⟩;exact TU.c (eC (.o rfl) (T3)) (J4 ad cp vs _ _ hE hl hx (by rw[←hl];decide) cQ) (fun v W1 h=>⟨h.2,h.1⟩))⟩) (aC (.inr ⟨rfl,rfl,TU.p (.mv rfl) (SlT.H9 hT8 hC)⟩) (aC (.inr ⟨rfl,rfl,TU.open (d:=74) rfl (by rintro _ ⟨⟨a74,c74,rfl,x74⟩,p74⟩;exact TU.open (d:=75) rfl (by rintro _ ⟨⟨b75,d75,rfl,y75⟩,q75⟩;exact TU.p (.build (cs:=#[.slice a74 (List.length (List.flatten [C1,Db,L5,Em])) c74,.slice b75 (List.length (C1)) d75,.func (.func (F0 1)) #[] #[],.bool false]) l8 l6 Dg (.ct rfl (.ct rfl (.cons (.func _) (.cons (.const _) .nil)))) rfl) ⟨_,_,rfl,⟨Az x74,p74⟩,⟨Az y75,q75⟩⟩))⟩) (aC (.inl (.inr ⟨rfl,by intro j hj e;simp only[ap,ba,b8]at hj;rcases hj with rfl|rfl|rfl|rfl|rfl|rfl|rfl|rfl|rfl|rfl|rfl<;>first|exact absurd e cQ|exact⟨_,_,_,rfl⟩⟩)) (aC (.inr ⟨rfl,rfl,TU.p (.mv rfl) (SlT.H9 hT8 hC)⟩) (aC (.inr ⟨rfl,rfl,TU.p (.mv rfl) (SlT.H9 hT19 hC)⟩) (aC (.inr ⟨rfl,rfl,TU.c (eC .nil (jA)) (Qg _) (fun v W1 h=>⟨h.2,h.1⟩)⟩) (aC (.inr ⟨rfl,rfl,TU.p (.lc rfl (AggAt.H9 hB5.agg hC)) rfl⟩) (aC (.inr ⟨rfl,rfl,TU.r (REv.buildSlice (xs:=([Jf]:List Fld)) (enc:=Fld.cells) (mk:=fun x:Fld=>.agg (Fld.cells x)) ln lx li rfl cQ (fun _=>rfl) (fun _=>rfl) (.cu rfl) rfl) (by rintro _ W1 ⟨B,c,rfl,N,y,x⟩;exact⟨N.up,SlT.lit ⟨B,c,rfl,N,y,x⟩⟩)⟩) (aC (.inr ⟨rfl,rfl,TU.open (d:=77) rfl (by rintro _ ⟨⟨a77,c77,rfl,x77⟩,_⟩;exact TU.open (d:=78) rfl (by rintro _ ⟨⟨a78,c78,rfl,x78⟩,_⟩;exact TU.open (d:=79) rfl (by rintro _ ⟨⟨a79,c79,rfl,x79⟩,_⟩;exact TU.open (d:=81) rfl (by rintro _ ⟨⟨a81,c81,rfl,x81⟩,_⟩;exact TU.r (REv.buildSlice (xs:=[(a77,List.length (C1),c77),(a78,List.length (K6),c78),(a79,List.length (Em),c79),(a81,List.length ([Jf]),c81)]) (enc:=fun t=>#[Wb t]) (mk:=Wb) mi m5 m3 rfl cQ (fun _=>rfl) (fun _=>rfl) (.ct rfl (.ct rfl (.ct rfl (.cu rfl)))) rfl) (by rintro _ W1 ⟨B,c,rfl,N,y,x⟩;exact⟨N.up,_,Az (Els.I2 x),(AllSl.up N.up (vs:=List.map Wb [(a77,List.length (C1),c77),(a78,List.length (K6),c78),(a79,List.length (Em),c79),(a81,List.length ([Jf]),c81)]) (xss:=[C1,K6,Em,[Jf]]) ⟨Az x77,Az x78,Az x79,Az x81,trivial⟩).at⟩)))))⟩) (aC (.inr ⟨rfl,rfl,TU.open (d:=82) rfl (by rintro v ⟨vs,⟨ad,cp,rfl,hE⟩,hl,hx⟩;exact TU.c (eC (.o rfl) (T3)) (J4 ad cp vs _ _ hE hl hx (by rw[←hl];decide) cQ) (fun v W1 h=>⟨h.2,h.1⟩))⟩) (aC (.inr ⟨rfl,rfl,TU.p (.mv rfl) (SlT.H9 hT8 hC)⟩) (aC (.inr ⟨rfl,rfl,TU.open (d:=83) rfl (by rintro _ ⟨⟨a83,c83,rfl,x83⟩,p83⟩;exact TU.open (d:=84) rfl (by rintro _ ⟨⟨b84,d84,rfl,y84⟩,q84⟩;exact TU.p (.build (cs:=#[.slice a83 (List.length (List.flatten [C1,K6,Em,[Jf]])) c83,.slice b84 (List.length (C1)) d84,.func (.func (F0 1)) #[] #[],.bool false]) l8 l6 Dg (.ct rfl (.ct rfl (.cons (.func _) (.cons (.const _) .nil)))) rfl) ⟨_,_,rfl,⟨Az x83,p83⟩,⟨Az y84,q84⟩⟩))⟩) (aC (.inl (.inr ⟨rfl,by intro j hj e;simp only[ap,ba,b8]at hj;rcases hj with rfl|rfl|rfl|rfl|rfl|rfl|rfl|rfl|rfl|rfl|rfl<;>first|exact absurd e cQ|exact⟨_,_,_,rfl⟩⟩)) (aC (.inr ⟨rfl,rfl,TU.c (eC (.cons (.func _) .nil) (I7)) (Dp _ _) sQ⟩) (aC (.inr ⟨rfl,rfl,TU.p (.lc rfl (AggAt.H9 hB5.agg hC)) rfl⟩) (aC (.inr ⟨rfl,rfl,TU.c (eC .nil (P6)) (Hy _) sQ⟩) (aC (.inr ⟨rfl,rfl,TU.r (REv.buildSlice (xs:=([Cz 8,Jf,Ct]:List Fld)) (enc:=Fld.cells) (mk:=fun x:Fld=>.agg (Fld.cells x)) ln lx li rfl cQ (fun _=>rfl) (fun _=>rfl) (.ct rfl (.ct rfl (.cu rfl))) rfl) (by rintro _ W1 ⟨B,c,rfl,N,y,x⟩;exact⟨N.up,SlT.lit ⟨B,c,rfl,N,y,x⟩⟩)⟩) (aC (.inr ⟨rfl,rfl,TU.c (eC (.cons (.func _) .nil) (I7)) (Dp _ _) sQ⟩) (aC (.inr ⟨rfl,rfl,TU.p (.lc rfl (AggAt.H9 hB5.agg hC)) rfl⟩) (aC (.inr ⟨rfl,rfl,TU.r (REv.buildSlice (xs:=([Cz 8,Jf]:List Fld)) (enc:=Fld.cells) (mk:=fun x:Fld=>.agg (Fld.cells x)) ln lx li rfl cQ (fun _=>rfl) (fun _=>rfl) (.ct rfl (.cu rfl)) rfl) (by rintro _ W1 ⟨B,c,rfl,N,y,x⟩;exact⟨N.up,SlT.lit ⟨B,c,rfl,N,y,x⟩⟩)⟩) (aC (.inr ⟨rfl,rfl,TU.open (d:=89) rfl (by rintro _ ⟨⟨a89,c89,rfl,x89⟩,p89⟩;exact TU.open (d:=92) rfl (by rintro _ ⟨⟨b92,d92,rfl,y92⟩,q92⟩;exact TU.p (.build (cs:=#[.slice a89 (List.length ([Cz 8,Jf,Ct])) c89,.slice b92 (List.length ([Cz 8,Jf])) d92,.func (.func (F0 0)) #[] #[],.bool false]) l8 l6 Dg (.ct rfl (.ct rfl (.cons (.func _) (.cons (.const _) .nil)))) rfl) ⟨_,_,rfl,⟨Az x89,p89⟩,⟨Az y92,q92⟩⟩))⟩) (aC (.inl (.inr ⟨rfl,by intro j hj e;simp only[ap,ba,b8]at hj;rcases hj with rfl|rfl|rfl|rfl|rfl|rfl|rfl|rfl|rfl|rfl|rfl<;>first|exact absurd e cQ|exact⟨_,_,_,rfl⟩⟩)) (aC (.inr ⟨rfl,rfl,TU.p (.mv rfl) (SlT.H9 hT8 hC)⟩) (aC (.inr ⟨rfl,rfl,TU.c (eC .nil (iZ)) (Nw _) (fun v W1 h=>⟨h.2,h.1⟩)⟩) (aC (.inr ⟨rfl,rfl,TU.c (eC .nil (P6)) (Hy _) sQ⟩) (aC (.inr ⟨rfl,rfl,TU.r (REv.buildSlice (xs:=([Ct]:List Fld)) (enc:=Fld.cells) (mk:=fun x:Fld=>.agg (Fld.cells x)) ln lx li rfl cQ (fun _=>rfl) (fun _=>rfl) (.cu rfl) rfl) (by rintro _ W1 ⟨B,c,rfl,N,y,x⟩;exact⟨N.up,SlT.lit ⟨B,c,rfl,N,y,x⟩⟩)⟩) (aC (.inr ⟨rfl,rfl,TU.open (d:=94) rfl (by rintro _ ⟨⟨a94,c94,rfl,x94⟩,_⟩;exact TU.open (d:=95) rfl (by rintro _ ⟨⟨a95,c95,rfl,x95⟩,_⟩;exact TU.open (d:=97) rfl (by rintro _ ⟨⟨a97,c97,rfl,x97⟩,_⟩;exact TU.r (REv.buildSlice (xs:=[(a94,List.length (C1),c94),(a95,List.length (Db),c95),(a97,List.length ([Ct]),c97)]) (enc:=fun t=>#[Wb t]) (mk:=Wb) mi m5 m3 rfl cQ (fun _=>rfl) (fun _=>rfl) (.ct rfl (.ct rfl (.cu rfl))) rfl) (by rintro _ W1 ⟨B,c,rfl,N,y,x⟩;exact⟨N.up,_,Az (Els.I2 x),(AllSl.up N.up (vs:=List.map Wb [(a94,List.length (C1),c94),(a95,List.length (Db),c95),(a97,List.length ([Ct]),c97)]) (xss:=[C1,Db,[Ct]]) ⟨Az x94,Az x95,Az x97,trivial⟩).at⟩))))⟩) (aC (.inr ⟨rfl,rfl,TU.open (d:=98) rfl (by rintro v ⟨vs,⟨ad,cp,rfl,hE⟩,hl,hx⟩;exact TU.c (eC (.o rfl) (T3)) (J4 ad cp vs _ _ hE hl hx (by rw[←hl];decide) cQ) (fun v W1 h=>⟨h.2,h.1⟩))⟩) (aC (.inr ⟨rfl,rfl,TU.p (.mv rfl) (SlT.H9 hT8 hC)⟩) (aC (.inr ⟨rfl,rfl,TU.open (d:=99) rfl (by rintro _ ⟨⟨a99,c99,rfl,x99⟩,p99⟩;exact TU.open (d:=100) rfl (by rintro _ ⟨⟨b100,d100,rfl,y100⟩,q100⟩;exact TU.p (.build (cs:=#[.slice a99 (List.length (List.flatten [C1,Db,[Ct]])) c99,.slice b100 (List.length (C1)) d100,.func (.func (F0 0)) #[] #[],.bool false]) l8 l6 Dg (.ct rfl (.ct rfl (.cons (.func _) (.cons (.const _) .nil)))) rfl) ⟨_,_,rfl,⟨Az x99,p99⟩,⟨Az y100,q100⟩⟩))⟩) (aC (.inl (.inr ⟨rfl,by intro j hj e;simp only[ap,ba,b8]at hj;rcases hj with rfl|rfl|rfl|rfl|rfl|rfl|rfl|rfl|rfl|rfl|rfl<;>first|exact absurd e cQ|exact⟨_,_,_,rfl⟩⟩)) (aC (.inr ⟨rfl,rfl,TU.c (eC (.cons (.func _) .nil) (I7)) (Dp _ _) sQ⟩) (aC (.inr ⟨rfl,rfl,TU.c (eC .nil (P6)) (Hy _) sQ⟩) (aC (.inr ⟨rfl,rfl,TU.p (.lc rfl (AggAt.H9 hB6.agg hC)) rfl⟩) (aC (.inr ⟨rfl,rfl,TU.r (REv.buildSlice (xs:=([Cz 14,Ct,Mq]:List Fld)) (enc:=Fld.cells) (mk:=fun x:Fld=>.agg (Fld.cells x)) ln lx li rfl cQ (fun _=>rfl) (fun _=>rfl) (.ct rfl (.ct rfl (.cu rfl))) rfl) (by rintro _ W1 ⟨B,c,rfl,N,y,x⟩;exact⟨N.up,SlT.lit ⟨B,c,rfl,N,y,x⟩⟩)⟩) (aC (.inr ⟨rfl,rfl,TU.c (eC (.cons (.func _) .nil) (I7)) (Dp _ _) sQ⟩) (aC (.inr ⟨rfl,rfl,TU.c (eC .nil (P6)) (Hy _) sQ⟩) (aC (.inr ⟨rfl,rfl,TU.r (REv.buildSlice (xs:=([Cz 14,Ct]:List Fld)) (enc:=Fld.cells) (mk:=fun x:Fld=>.agg (Fld.cells x)) ln lx li rfl cQ (fun _=>rfl) (fun _=>rfl) (.ct rfl (.cu rfl)) rfl) (by rintro _ W1 ⟨B,c,rfl,N,y,x⟩;exact⟨N.up,SlT.lit ⟨B,c,rfl,N,y,x⟩⟩)⟩) (aC (.inr ⟨rfl,rfl,TU.open (d:=105) rfl (by rintro _ ⟨⟨a105,c105,rfl,x105⟩,p105⟩;exact TU.open (d:=108) rfl (by rintro _ ⟨⟨b108,d108,rfl,y108⟩,q108⟩;exact TU.p (.build (cs:=#[.slice a105 (List.length ([Cz 14,Ct,Mq])) c105,.slice b108 (List.length ([Cz 14,Ct])) d108,.func (.func (F0 0)) #[] #[],.bool false]) l8 l6 Dg (.ct rfl (.ct rfl (.cons (.func _) (.cons (.const _) .nil)))) rfl) ⟨_,_,rfl,⟨Az x105,p105⟩,⟨Az y108,q108⟩⟩))⟩) (aC (.inl (.inr ⟨rfl,by intro j hj e;simp only[ap,ba,b8]at hj;rcases hj with rfl|rfl|rfl|rfl|rfl|rfl|rfl|rfl|rfl|rfl|rfl<;>first|exact absurd e cQ|exact⟨_,_,_,rfl⟩⟩)) (aC (.inr ⟨rfl,rfl,TU.p (.mv rfl) (SlT.H9 hT8 hC)⟩) (aC (.inr ⟨rfl,rfl,TU.c (eC .nil (iZ)) (Nw _) (fun v W1 h=>⟨h.2,h.1⟩)⟩) (aC (.inr ⟨rfl,rfl,TU.c (eC .nil (jA)) (Qg _) (fun v W1 h=>⟨h.2,h.1⟩)⟩) (aC (.inr ⟨rfl,rfl,TU.open (d:=110) rfl (by rintro _ ⟨⟨a110,c110,rfl,x110⟩,_⟩;exact TU.open (d:=111) rfl (by rintro _ ⟨⟨a111,c111,rfl,x111⟩,_⟩;exact TU.open (d:=112) rfl (by rintro _ ⟨⟨a112,c112,rfl,x112⟩,_⟩;exact TU.r (REv.buildSlice (xs:=[(a110,List.length (C1),c110),(a111,List.length (Db),c111),(a112,List.length (Em),c112)]) (enc:=fun t=>#[Wb t]) (mk:=Wb) mi m5 m3 rfl cQ (fun _=>rfl) (fun _=>rfl) (.ct rfl (.ct rfl (.cu rfl))) rfl) (by rintro _ W1 ⟨B,c,rfl,N,y,x⟩;exact⟨N.up,_,Az (Els.I2 x),(AllSl.up N.up (vs:=List.map Wb [(a110,List.length (C1),c110),(a111,List.length (Db),c111),(a112,List.length (Em),c112)]) (xss:=[C1,Db,Em]) ⟨Az x110,Az x111,Az x112,trivial⟩).at⟩))))⟩) (aC (.inr ⟨rfl,rfl,TU.open (d:=113) rfl (by rintro v ⟨vs,⟨ad,cp,rfl,hE⟩,hl,hx⟩;exact TU.c (eC (.o rfl) (T3)) (J4 ad cp vs _ _ hE hl hx (by rw[←hl];decide) cQ) (fun v W1 h=>⟨h.2,h.1⟩))⟩) (aC (.inr ⟨rfl,rfl,TU.p (.mv rfl) (SlT.H9 hT8 hC)⟩) (aC (.inr ⟨rfl,rfl,TU.open (d:=114) rfl (by rintro _ ⟨⟨a114,c114,rfl,x114⟩,p114⟩;exact TU.open (d:=115) rfl (by rintro _ ⟨⟨b115,d115,rfl,y115⟩,q115⟩;exact TU.p (.build (cs:=#[.slice a114 (List.length (List.flatten [C1,Db,Em])) c114,.slice b115 (List.length (C1)) d115,.func (.func (F0 1)) #[] #[],.bool false]) l8 l6 Dg (.ct rfl (.ct rfl (.cons (.func _) (.cons (.const _) .nil)))) rfl) ⟨_,_,rfl,⟨Az x114,p114⟩,⟨Az y115,q115⟩⟩))⟩) (aC (.inl (.inr ⟨rfl,by intro j hj e;simp only[ap,ba,b8]at hj;rcases hj with rfl|rfl|rfl|rfl|rfl|rfl|rfl|rfl|rfl|rfl|rfl<;>first|exact absurd e cQ|exact⟨_,_,_,rfl⟩⟩)) ?_)))))))))))))))))))))))))))))))))))))))))))))))))))))))))))))))))))))))))))))))))))))))))))))))))))))))))
  exact allL.nil
 intro W b kv g hU hM hP hg
 have hW:=hW.trans ((Up.drew _).trans hU)
 refine Ac rfl (LW.A rfl (Ai (Aj (KW.q ?_))))
 refine⟨_,rfl,⟨kv,hM,?_,?_⟩,hW⟩
 ·intro k v hm
  have:=hP.mem_iff.1 hm
  simp only[cy,f4,ap,ba,b8,Prod.mk.injEq]at this
  rcases this with⟨rfl,rfl⟩|⟨rfl,rfl⟩|⟨rfl,rfl⟩|⟨rfl,rfl⟩|⟨rfl,rfl⟩|⟨rfl,rfl⟩|⟨rfl,rfl⟩|⟨rfl,rfl⟩|⟨rfl,rfl⟩|⟨rfl,rfl⟩|⟨rfl,rfl⟩
  · exact hg 14 _ 36 cQ rfl rfl
  · exact hg 23 _ 44 cQ rfl rfl
  · exact hg 34 _ 54 cQ rfl rfl
  · exact hg 44 _ 63 cQ rfl rfl
  · exact hg 50 _ 68 cQ rfl rfl
  · exact hg 59 _ 76 cQ rfl rfl
  · exact hg 69 _ 85 cQ rfl rfl
  · exact hg 78 _ 93 cQ rfl rfl
  · exact hg 87 _ 101 cQ rfl rfl
  · exact hg 96 _ 109 cQ rfl rfl
  exact hg 104 _ 116 cQ rfl rfl
 intro k
 rw[(hP.map (·.1)).mem_iff]
 simp
 omega
end Go.Proofs.YtbcnnkfopoiifaaGreatDoor
namespace Go.Proofs
open Go.Proofs.Tryz
open Go.Wx Go.RowKit
set_option maxRecDepth 4000 in
theorem Hk(f g:Fact)(w:World):(Op.equalIn 10000 51 (.agg f.cells) (.agg g.cells)).run prog w=.ok (Cw f g) w:=by
 have hf:Tryz.prog.underlying 51=some (.struct (Tryz.prog.fieldsOf 51)):=by rw[Program.fieldsOf,me]
 rw[run_equalIn_agg w 9999 51 _ _ hf stoodInHeld51]
 have h:(Op.eqFields 9999 f.cells g.cells (Tryz.prog.fieldsOf 51).toList).run prog w=.ok (Cw f g) w:=by
   rw[Program.fieldsOf,me]
   dsimp only
   iterate 4 (refine Rn cQ ly rfl rfl (run_equalIn_int w 9998 _ _ _ _ _ lh) ?_)
   refine Rn cQ isAgg4 rfl rfl (run_equalIn_bool' w 9998 _ _ _ underlying4) ?_
   iterate 13 (refine Rn cQ ly rfl rfl (run_equalIn_int w 9998 _ _ _ _ _ lh) ?_)
   rw[show(f.Text.toList==g.Text.toList)=((f.Text.toList==g.Text.toList)&&true)by simp]
   exact Rn cQ isAgg9 rfl rfl (run_equalIn_string w 9998 _ _ _ lu) rfl
 exact h
end Go.Proofs
namespace Go.Wx
def Fk(f:Fact)(o:Nat):Int:=match o with
 |1=>f.ID
 |5=>f.Time
 |6=>f.Until
 |7=>f.Wafer
 |8=>f.Other
 |9=>f.Lot
 |10=>f.Product
 |11=>f.Tool
 |12=>f.Chamber
 |13=>f.Step
 |14=>f.Recipe
 |15=>f.Revision
 |16=>f.Value
 |17=>f.Parties
 |_=>0
def S9(f:Fact)(o:Nat)(n:Int):Fact:=match o with
 |1=>{ f with ID:=n }
 |5=>{ f with Time:=n }
 |6=>{ f with Until:=n }
 |7=>{ f with Wafer:=n }
 |8=>{ f with Other:=n }
 |9=>{ f with Lot:=n }
 |10=>{ f with Product:=n }
 |11=>{ f with Tool:=n }
 |12=>{ f with Chamber:=n }
 |13=>{ f with Step:=n }
 |14=>{ f with Recipe:=n }
 |15=>{ f with Revision:=n }
 |16=>{ f with Value:=n }
 |17=>{ f with Parties:=n }
 |_=>f
def E6(o:Nat):Bool:=Nat.beq o 1||(Nat.ble 5 o&&Nat.ble o 17)
theorem Dh{o:Nat}(h:E6 o=true):o=1∨o=5∨o=6∨o=7∨o=8∨o=9∨o=10∨o=11∨o=12∨o=13∨o=14∨o=15∨o=16∨o=17:=by
 simp[E6]at h;omega
theorem Nx(k:Int):∀x∈fieldsOf k,E6 x.off=true:=by
 intro x hx
 have h:∀l∈Pc,∀y∈l,E6 y.off=true:=by decide
 unfold fieldsOf at hx
 rw[d8]at hx
 cases hl:Pc[k.toNat]? with
 |none=>rw[hl]at hx;simp at hx
 |some l=>rw[hl]at hx;exact h l (am hl) x (by simpa using hx)
theorem Rx{f:Fact}{o:Nat}(h:E6 o=true):nth f.cells.toList o=some (vi (Fk f o)):=by
 rcases Dh h with rfl|rfl|rfl|rfl|rfl|rfl|rfl|rfl|rfl|rfl|rfl|rfl|rfl|rfl<;>rfl
theorem fO{f:Fact}{o:Nat}{n:Int}(h:E6 o=true):f.cells.setIfInBounds o (vi n)=(S9 f o n).cells:=by
 rcases Dh h with rfl|rfl|rfl|rfl|rfl|rfl|rfl|rfl|rfl|rfl|rfl|rfl|rfl|rfl<;>rfl
def Kn(r:Nat)(f:Fact):Bool:=match r with
 |1=>decide (f.Time≤f.Until)
 |2=> !decide (f.Wafer=f.Other)
 |_=>true
def Ih:List Fld→Fact→Option Fact
 |[],g=>some g
 |x::r,g=>if Fk g x.off<x.lo∨x.hi<Fk g x.off then none else Ih r (S9 g x.off 0)
def Ug(k v d:Int)(g:Bool):Fact:=⟨k,0,v,d,g,0,0,0,0,0,0,0,0,0,0,0,0,0,ByteArray.empty⟩
def preB(f:Fact):Bool:=decide (f.Version<1)||decide (1000000<f.Version)||decide (f.Day<0)||decide (100000<f.Day)||decide (8192<(f.Text.size:Int))
def Bw(f:Fact):Bool:=decide (1≤f.Kind∧f.Kind≤11)&&(!(preB f|| !Kn (Ei f.Kind) f)&&
 match Ih (fieldsOf f.Kind) f with
 |none=>false
 |some g=>Cw (if Ey f.Kind then{ g with Text:=ByteArray.empty }else g) (Ug f.Kind f.Version f.Day f.Gone))
def kB(f:Fact):Fact:=Ug f.Kind f.Version f.Day f.Gone
theorem mI{fs:List Fld}{f g:Fact}{k:Nat}{x:Fld}(hg:Ih fs f=Ih (fs.drop k) g)(hx:fs[k]?=some x)(h:¬(Fk g x.off<x.lo∨x.hi<Fk g x.off)):Ih fs f=Ih (fs.drop (k+1)) (S9 g x.off 0):=by
 obtain⟨hk,e⟩:=ai.1 hx
 rw[hg,ce hk,e]
 simp only[Ih,ae h]
theorem mJ{fs:List Fld}{f g:Fact}{k:Nat}{x:Fld}(hg:Ih fs f=Ih (fs.drop k) g)(hx:fs[k]?=some x)(h:Fk g x.off<x.lo∨x.hi<Fk g x.off):Ih fs f=none:=by
 obtain⟨hk,e⟩:=ai.1 hx
 rw[hg,ce hk,e]
 simp only[Ih,ak h]
theorem Pd(k:Int):(fieldsOf k).length≤16:=by
 have h:∀l∈Pc,l.length≤16:=by decide
 unfold fieldsOf
 rw[d8]
 cases hl:Pc[k.toNat]? with
 |none=>simp
 |some l=>exact h l (am hl)
theorem KD{f:Fact}(h:¬(1≤f.Kind∧f.Kind≤11)):false=Bw f:=by simp[Bw,bg h]
theorem KE{f:Fact}(h:preB f=true):false=Bw f:=by simp[Bw,h]
theorem DG{f:Fact}{r:Nat}(hr:r=Ei f.Kind)(h:Kn r f=false):false=Bw f:=by subst hr;simp[Bw,h]
theorem DH{f:Fact}(h:Ih (fieldsOf f.Kind) f=none):false=Bw f:=by simp[Bw,h]
theorem fP{f:Fact}{o:Nat}(h:E6 o=true):o+1≤f.cells.size:=by
 rcases Dh h with rfl|rfl|rfl|rfl|rfl|rfl|rfl|rfl|rfl|rfl|rfl|rfl|rfl|rfl<;>exact ah rfl
theorem DI{f g:Fact}{r:Nat}{t:Bool}(hk:1≤f.Kind∧f.Kind≤11)(hp:preB f=false)(hr:r=Ei f.Kind)(h:Kn r f=true)(hg:Ih (fieldsOf f.Kind) f=some g)(ht0:t=Ey f.Kind)(ht:t=true):Cw ({ g with Text:=ByteArray.empty }:Fact) (kB f)=Bw f:=by
 subst hr ht0;simp only[Bw,a8 hk,hp,h,hg,ht];rfl
theorem DJ{f g:Fact}{r:Nat}{t:Bool}(hk:1≤f.Kind∧f.Kind≤11)(hp:preB f=false)(hr:r=Ei f.Kind)(h:Kn r f=true)(hg:Ih (fieldsOf f.Kind) f=some g)(ht0:t=Ey f.Kind)(ht:t=false):Cw g (kB f)=Bw f:=by
 subst hr ht0;simp only[Bw,a8 hk,hp,h,hg,ht];rfl
theorem bB{fs:List Fld}{f g:Fact}{k:Nat}(hg:Ih fs f=Ih (fs.drop k) g)(hk:fs.length≤k):Ih fs f=some g:=by
 rw[hg,fc hk]
 rfl
end Go.Wx
namespace Go.Proofs.YtbcnnkfopoiifaaGreatDoor
open Go.Proofs.Tryz
open Go.Wx Go.RowKit
theorem mK(f:Fact)(w:World):Ret prog 117 #[.agg f.cells] w fun r w'=>r=.bool (Kn 0 f)∧Up w w':=by
 have hW:=Up.refl w
 refine cT 3 func117 rfl (Af (Ao (.bA rfl) rfl ?_))
 rintro _ w1 ⟨B1,rfl,NB1⟩
 replace hW:=hW.up NB1.up
 have hB1:=NB1.blk
 refine J (Ar (Aa (J (Ai (Aj (KW.q ?_))))))
 exact⟨rfl,hW⟩
theorem fQ(f:Fact)(w:World):Ret prog 115 #[.agg f.cells] w fun r w'=>r=.bool (Kn 1 f)∧Up w w':=by
 have hW:=Up.refl w
 refine cT 8 func115 rfl (Af (Ao (.bA rfl) rfl ?_))
 rintro _ w1 ⟨B1,rfl,NB1⟩
 replace hW:=hW.up NB1.up
 have hB1:=NB1.blk
 refine J (Ar (Aa (I (.fB 5 rfl) (I (.lb rfl (hB1.An rfl)) (I (.fB 6 rfl) (I (.lb rfl (hB1.An rfl)) (I (.leq (.t rfl) (.t rfl)) (LW.A rfl (Ai (Aj (KW.q ?_)))))))))))
 exact⟨rfl,hW⟩
theorem mL(f:Fact)(w:World):Ret prog 104 #[.agg f.cells] w fun r w'=>r=.bool (Kn 2 f)∧Up w w':=by
 have hW:=Up.refl w
 refine cT 8 func104 rfl (Af (Ao (.bA rfl) rfl ?_))
 rintro _ w1 ⟨B1,rfl,NB1⟩
 replace hW:=hW.up NB1.up
 have hB1:=NB1.blk
 refine J (Ar (Aa (I (.fB 7 rfl) (I (.lb rfl (hB1.An rfl)) (I (.fB 8 rfl) (I (.lb rfl (hB1.An rfl)) (I (.neq (.t rfl) (.t rfl)) (LW.A rfl (Ai (Aj (KW.q ?_)))))))))))
 exact⟨rfl,hW⟩
theorem kC(o b:Nat)(w:World)(ho:E6 o=true):Ret prog (xJ o) #[.pointer (some ⟨b,0,none⟩)] w fun r w'=>r=.pointer (some ⟨b,o,none⟩)∧Up w w':=by
 rcases Dh ho with rfl|rfl|rfl|rfl|rfl|rfl|rfl|rfl|rfl|rfl|rfl|rfl|rfl|rfl
 · exact DF b w
 · exact qK b w
 · exact mE b w
 · exact mF b w
 · exact mG b w
 · exact xK b w
 · exact aX b w
 · exact qM b w
 · exact aY b w
 · exact qN b w
 · exact fN b w
 · exact Yz b w
 · exact mH b w
 exact aZ b w
theorem qO(o:Nat)(ho:E6 o=true):∀(args:Array Go.Value)(w:World),(callFunc (xJ o) args).run prog w=.ok (.enter (xJ o) args) w:=by
 rcases Dh ho with rfl|rfl|rfl|rfl|rfl|rfl|rfl|rfl|rfl|rfl|rfl|rfl|rfl|rfl
 · exact GW
 · exact IK
 · exact IJ
 · exact HA
 · exact HJ
 · exact HB
 · exact HK
 · exact HC
 · exact HD
 · exact HE
 · exact GX
 · exact GY
 · exact HG
 exact HF
theorem qP(r:Nat)(f:Fact)(w:World)(hr:r<3):Ret prog (F0 r) #[.agg f.cells] w fun v w'=>v=.bool (Kn r f)∧Up w w':=by
 match r,hr with
 |0,_=>exact mK f w
 |1,_=>exact fQ f w
 |2,_=>exact mL f w
theorem xL(r:Nat)(hr:r<3):∀(args:Array Go.Value)(w:World),(callFunc (F0 r) args).run prog w=.ok (.enter (F0 r) args) w:=by
 match r,hr with
 |0,_=>exact HI
 |1,_=>exact HH
 |2,_=>exact GZ
theorem xM(k:Int):Ei k<3:=by
 unfold Ei
 rw[d8]
 have h:∀x∈[0,1,0,2,0,0,1,1,0,0,0,1],x<3:=by decide
 cases hl:[0,1,0,2,0,0,1,1,0,0,0,1][k.toNat]? with
 |none=>simp
 |some x=>exact h x (am hl)
theorem ShV.Da{w w':World}{v:Go.Value}{fs ks:List Fld}{r:Nat}{t:Bool}(h:ShV w v fs ks r t)(u:KeepT 121 w w'):ShV w' v fs ks r t:=let⟨v1,v2,e,h1,h2⟩:=h;⟨v1,v2,e,h1.Da rfl u,h2.Da rfl u⟩
theorem ShMap.Da{w w':World}{b:Nat}(h:ShMap w b)(u:KeepT 121 w w'):ShMap w' b:=let⟨kv,h1,h2,h3⟩:=h;⟨kv,h1.Da u,fun k v m=>(h2 k v m).Da u,h3⟩
def ShM(v:Go.Value)(w:World):Prop:=∃b,v=.map (some b)∧ShMap w b
theorem ShM.Da{v:Go.Value}{w w':World}(h:ShM v w)(u:KeepT 121 w w'):ShM v w':=let⟨b,e,m⟩:=h;⟨b,e,m.Da u⟩
def shOf(f:Fact)(v:Go.Value)(w:World):Prop:=ShV w v (fieldsOf f.Kind) (Fo f.Kind) (Ei f.Kind) (Ey f.Kind)
def BV(f:Fact)(v:Go.Value)(w:World):Prop:=∃s,v=.tuple #[s,.bool true]∧shOf f s w
def Y0:Go.Value:=.agg #[.slice none 0 0,.slice none 0 0,.nilFunc,.bool false]
theorem shOf.agg{f:Fact}{v:Go.Value}{w:World}(h:shOf f v w):∃cs,v=.agg cs∧cs.size=4∧cs.all (·.oneCell')=true:=by
 obtain⟨v1,v2,rfl,⟨⟨a1,c1,rfl,_⟩,_⟩,⟨a2,c2,rfl,_⟩,_⟩:=h
 exact⟨_,rfl,rfl,by simp[Value.oneCell']⟩
set_option maxHeartbeats 4000000 in
theorem Ny(f:Fact)(w:World):Ret prog 48 #[.agg f.cells] w fun r w'=>r=.bool (Bw f)∧Up w w':=by
 obtain⟨w0,rfl,hS⟩:=W0 w
 refine cT 93 func48 rfl (Af (Ao (.bA rfl) rfl ?_))
 rintro _ w1 ⟨B1,rfl,NB1⟩
 replace hS:=hS.Bn NB1
 refine J (Ar ?_)
 cases hq1:decide (1≤f.Kind∧f.Kind≤11)with
 |true=>
  have hkn:=bj hq1
  obtain⟨r0,hr0⟩:∃r,r=Ei f.Kind:=⟨_,rfl⟩
  have hr3:r0<3:=by rw[hr0];exact xM _
  obtain⟨t0,ht0⟩:∃t,t=Ey f.Kind:=⟨_,rfl⟩
  have hB1T:=hS.blk 0 rfl
  have hU0:=hS.Cj
  refine CW.box 9 7 8 5 3 14 #[.slice none 0 0,.slice none 0 0,.nilFunc,.bool false] [.pred ShM,.eq (.pointer (some ⟨B1,0,none⟩)),.eq (vi f.Kind),.pred (BV f),.pred (BV f),.pred (shOf f),.eq (.bool true),.pred fun v _=>∃B,v=.pointer (some ⟨B,0,none⟩),.eq undef] [15] l6 sizeOf121 kQ rfl kQ kQ kQ kQ kQ kQ kQ rfl rfl ⟨_,_,_,rfl⟩ _ rfl ⟨_,_,_,rfl⟩ ⟨PhT.pred fun _ _ _ h u=>ShM.Da h u,nn,nn,PhT.pred fun _ _ _ h u=>let⟨s,e,h⟩:=h;⟨s,e,ShV.Da h u⟩,PhT.pred fun _ _ _ h u=>let⟨s,e,h⟩:=h;⟨s,e,ShV.Da h u⟩,PhT.pred fun _ _ _ h u=>ShV.Da h u,nn,PhT.pred fun _ _ _ h _=>h,nn,trivial⟩ rfl (fun v W h=>shOf.agg h) (fun B W=>⟨B,rfl⟩) ?_ ?_
  ·intro W hK0
   have hK:=(Up.drew w1).Da.trans hK0
   have hB1W:=Blk.Da hB1T (T:=121) rfl hK
   refine aC (.inr ⟨rfl,TU.c (eC .nil (wU)) (L7 _) (fun v W1 h=>let⟨b,e,m,u⟩:=h;⟨u,b,e,m⟩)⟩) (aC (.inr ⟨rfl,TU.p (.fB 0 rfl) rfl⟩) (aC (.inr ⟨rfl,TU.p (.lb rfl (hB1W.An rfl)) rfl⟩) (aC (.inr ⟨rfl,TU.open (d:=10) rfl (by rintro _ ⟨b,rfl,kv,hI,hV,hK⟩;obtain⟨⟨k0,sv⟩,hkv,e0⟩:=aq.1 ((hK f.Kind).2 hkn);cases e0;exact TU.p (.Ek ng lh (.t rfl) (.t rfl) hI hkv) ⟨_,rfl,hV _ _ hkv⟩)⟩) (aC (.inr ⟨rfl,TU.open (d:=13) rfl (by rintro _ ⟨s,rfl,h⟩;exact TU.p (.mv rfl) ⟨s,rfl,h⟩)⟩) (aC (.inr ⟨rfl,TU.open (d:=9) rfl (by rintro _ ⟨s,rfl,h⟩;exact TU.p (.xt rfl rfl) h)⟩) (aC (.inr ⟨rfl,TU.open (d:=9) rfl (by rintro _ ⟨s,rfl,h⟩;exact TU.p (.xt rfl rfl) rfl)⟩) (aC (.inl (.inl rfl)) (aC (.inl (.inr rfl)) ?_))))))))
   exact allL.nil
  intro wT B3 g hU hBn hB3 hg
  have h15:g 15=.bool true:=hg 6 _ 15 cQ rfl rfl
  have hUT:=(Up.drew _).trans hU
  have hB1X:=hB1T.up hUT
  replace hB1T:=hB1X
  replace hU0:=hU0.trans hUT
  obtain⟨v1,v2,e14,hs1,hs2⟩:=hg 5 _ 14 cQ rfl rfl
  rw[e14]at hB3
  obtain⟨⟨ad,cp,rfl,hE0⟩,_⟩:=hs1
  obtain⟨⟨ad2,cp2,rfl,hE2⟩,_⟩:=hs2
  rw[←hr0,←ht0]at hB3
  replace hB3:Blk wT B3 #[.slice ad (fieldsOf f.Kind).length cp,.slice ad2 (Fo f.Kind).length cp2,.func (.func (F0 r0)) #[] #[],.bool t0] 121:=hB3
  have hB3T:=hB3
  change LW _ _ _ _ _ _ _ _ ((3,_)::(15,.eq (g 15))::_) _
  rw[h15]
  replace hS:=(Sep.start no wT)
  refine LW.A rfl (Ar (Al ?_))
  cases hq2:preB f with
  |true=>
   refine Aa (I (.tr (PEv.mv rfl) (rfl)) (I (.n1 rfl) (Ac rfl (Cq (I (.fB 2 rfl) (Cq (I (.lb rfl ((hB1T.up hS.Cj).An rfl)) (Cq (I (.lss (.t rfl) (.const _)) (I (.po rfl (fun hp=>(by exact .tmp rfl))) (Ac rfl (LW.gr rfl (fun hc=>PEv.fB 2 rfl) (LW.gr rfl (fun hc=>PEv.load ly vQ ((hB1T.up hS.Cj).An rfl)) (LW.gr rfl (fun hc=>PEv.gtr vQ (.const _)) (I (.po rfl (fun hp=>(by exact .cond rfl (by simp_all)))) (Ac rfl (LW.gr rfl (fun hc=>PEv.fB 3 rfl) (LW.gr rfl (fun hc=>PEv.load ly vQ ((hB1T.up hS.Cj).An rfl)) (LW.gr rfl (fun hc=>PEv.lss vQ (.const _)) (I (.po rfl (fun hp=>(by exact .cond rfl (by simp_all)))) (Ac rfl (LW.gr rfl (fun hc=>PEv.fB 3 rfl) (LW.gr rfl (fun hc=>PEv.load ly vQ ((hB1T.up hS.Cj).An rfl)) (LW.gr rfl (fun hc=>PEv.gtr vQ (.const _)) (I (.po rfl (fun hp=>(by exact .cond rfl (by simp_all)))) (Ac rfl (LW.gr rfl (fun hc=>PEv.fB 18 rfl) (LW.gr rfl (fun hc=>PEv.load isAgg9 vQ ((hB1T.up hS.Cj).An rfl)) (LW.gr rfl (fun hc=>PEv.Lx lu vQ) (LW.gr rfl (fun hc=>PEv.gtr vQ (.const _)) (I (.po rfl (fun hp=>(by exact .cond rfl (by simp_all)))) (I (.tr (PEv.mv rfl) (by simpa[preB]using hq2)) (E4 (E4 (E4 (E4 (E4 (I (.Ee (b:=false) (.t rfl) (fun hp=>absurd (show true=false from hp) cQ)) (Ai (CW.v rfl (Af (J (Ai (Aj (Ah (KW.q ?_))))))))))))))))))))))))))))))))))))))))))))))
   refine⟨a_ Go.Value.bool ?_,hU0.trans hS.Cj⟩
   exact KE hq2
  |false=>
   obtain⟨hp1,hp2,hp3,hp4,hp5⟩:¬f.Version<1∧¬1000000<f.Version∧¬f.Day<0∧¬100000<f.Day∧¬8192<(f.Text.size:Int):=by simp[preB]at hq2;omega
   refine Aa (I (.tr (PEv.mv rfl) (rfl)) (I (.n1 rfl) (Ac rfl (Cq (I (.fB 2 rfl) (Cq (I (.lb rfl ((hB1T.up hS.Cj).An rfl)) (Cq (I (.fa (PEv.lss (.t rfl) (.const _)) (bg hp1)) (I (.po rfl (fun hp=>(by exact .tmp rfl))) (Ac rfl (Cq (I (.fB 2 rfl) (Cq (I (.lb rfl ((hB1T.up hS.Cj).An rfl)) (Cq (I (.fa (PEv.gtr (.t rfl) (.const _)) (bg hp2)) (I (.po rfl (fun hp=>(by exact .tmp rfl))) (Ac rfl (Cq (I (.fB 3 rfl) (Cq (I (.lb rfl ((hB1T.up hS.Cj).An rfl)) (Cq (I (.fa (PEv.lss (.t rfl) (.const _)) (bg hp3)) (I (.po rfl (fun hp=>(by exact .tmp rfl))) (Ac rfl (Cq (I (.fB 3 rfl) (Cq (I (.lb rfl ((hB1T.up hS.Cj).An rfl)) (Cq (I (.fa (PEv.gtr (.t rfl) (.const _)) (bg hp4)) (I (.po rfl (fun hp=>(by exact .tmp rfl))) (Ac rfl (Cq (I (.fB 18 rfl) (Cq (I (.lb rfl ((hB1T.up hS.Cj).An rfl)) (Cq (I (.Lx lu (.t rfl)) (Cq (I (.fa (PEv.gtr (.t rfl) (.const _)) (bg hp5)) (I (.po rfl (fun hp=>(by exact .tmp rfl))) (Ac rfl (Cq (I (.fB 2 rfl) (Cq (I (.lb rfl ((hB3T.up hS.Cj).An rfl)) (Cq (I (.lc rfl ((hB1T.up hS.Cj).agg)) (Cq (A3 (Ft (.t rfl) (.cu rfl) (xL r0 hr3)) rfl (qP r0 f _ hr3) ?_)))))))))))))))))))))))))))))))))))))))))))))))))))))
   rintro _ w2 ⟨rfl,uw2⟩
   replace hS:=hS.up uw2
   refine Cq (I (.n1 rfl) (I (.po rfl (fun hp=>(by exact .tmp rfl))) (Ai (CW.b rfl (fun h50=>?_) (fun h50=>?_)))))
   ·refine Af (J (Ai (Aj (Ah (KW.q ?_)))))
    refine⟨a_ Go.Value.bool ?_,hU0.trans hS.Cj⟩
    exact DG hr0 (by simpa using h50)
   refine Ak (Ab (Af (I (.lc rfl ((hB1T.up hS.Cj).agg)) (Ao (.Bi k_) rfl ?_))))
   rintro _ w3 ⟨B5,rfl,MB5⟩
   refine Bh (.A5 k7 rfl (.t rfl) (.t rfl) eQ MB5.blk rfl) ?_
   intro w4 LB5
   have NB5:=MB5.set LB5
   replace hS:=hS.Bn NB5
   refine Ar (Af (I (.fB 0 rfl) (I (.lb rfl ((hB3T.up hS.Cj).An rfl)) (I (.Df ln (.t rfl)) (I (.move (.const _)) (Ai (Ap (A9 (σ:=Nat×Fact) (fun s w=>(s.1≤(fieldsOf f.Kind).length)∧(Ih (fieldsOf f.Kind) f=Ih ((fieldsOf f.Kind).drop s.1) s.2)∧(Sep no wT w [Ch B5 s.2.cells 51])) (fun s=>[(55,.eq (vi (s.1:Int)))]) ([(1,.eq _),(3,.eq _),(5,.eq _),(53,.eq _),(54,.eq _)]) (fun s=>(fieldsOf f.Kind).length-s.1) (0,f) ?_ tQ ?_))))))))
   ·exact⟨ao _,rfl,hS⟩
   rintro⟨k,g⟩ w5 ⟨hkk,hg,hS⟩
   refine Af (I (.l2 rfl rfl) (Ar (CW.b rfl (fun h56=>?_) (fun h56=>?_))))
   ·refine Ak (Ab (Al (Ap (Al ?_))))
    have hfl:=Pd f.Kind
    have hE:=Els.up hE0 hS.Cj
    have hkl:k<(fieldsOf f.Kind).length:=by simp at h56;omega
    refine Aa ?_
    obtain⟨x,hx⟩:=Av (xs:=fieldsOf f.Kind) (i:=k) oQ
    obtain⟨Bx,ox,ax,hcx⟩:=hE _ x hx
    refine I (.Ay ln lx (.t rfl) (.t rfl) oQ ax) (I (.lc rfl (hcx)) (Ao (.Bi li) rfl ?_))
    rintro _ w6 ⟨B7,rfl,MB7⟩
    refine Bh (.A5 lx rfl (.t rfl) (.t rfl) (Fld.one _) MB7.blk rfl) ?_
    intro w7 LB7
    have NB7:=MB7.set LB7
    replace hcx:=hcx.up NB7.up
    replace hS:=hS.Bn NB7
    refine Ar ?_
    have hox:=Nx _ x (am hx)
    refine Aa (I (.fB 0 rfl) (I (.lb rfl (hS.b1.An rfl)) (A3 (Ft (.t rfl) (.cu rfl) (qO x.off hox)) rfl (kC x.off _ _ hox) ?_)))
    rintro _ w8 ⟨rfl,uw8⟩
    replace hS:=hS.up uw8
    refine LW.A rfl (Ar (Al (Cg kQ kQ rfl rfl (Am (.mv rfl) (Am (.nc rfl) (Am (.lb rfl (hS.b0.An (Rx hox))) (Am (.fB 1 rfl) (Am (.lb rfl (hS.b1.An (v:=vi x.lo) rfl)) (Am (.l2 rfl rfl) (Am (.mv rfl) (Ld rfl rfl rfl rfl rfl rfl (fun hc=>PEv.mv rfl) (Ld rfl rfl rfl rfl rfl rfl (fun hc=>PEv.nilCheck vQ) (Ld rfl rfl rfl rfl rfl rfl (fun hc=>PEv.load ly vQ (hS.b0.An (Rx hox))) (Ld rfl rfl rfl rfl rfl rfl (fun hc=>PEv.fB 2 rfl) (Ld rfl rfl rfl rfl rfl rfl (fun hc=>PEv.load ly vQ (hS.b1.An (v:=vi x.hi) rfl)) (Ld rfl rfl rfl rfl rfl rfl (fun hc=>PEv.gtr vQ vQ) (Am (.po rfl (fun hp=>(by exact .cond rfl (by simp_all)))) (HW.nil ?_))))))))))))))))))
    intro w9 uw9
    replace hS:=hS.up uw9
    refine Ab (CW.b rfl (fun h75=>?_) (fun h75=>?_))
    ·refine Af (J (Ai (Aj (Ah (Aw (Ah (Ah (Aw (Ah (KW.q ?_))))))))))
     refine⟨a_ Go.Value.bool ?_,hU0.trans hS.Cj⟩
     exact DH (mJ hg hx (by simp at h75;omega))
    refine Ak (Ab (Aa (Ac rfl (I (.nc rfl) (Bh (.store lf (.t rfl) (.const _) rfl hS.b0 (fP hox)) ?_)))))
    intro w10 Nw10
    have zw10:=Nw10.size
    replace hS:=hS.Co 0 rfl (by rw[fO hox]at Nw10;exact Nw10)
    refine LW.nil (Ae (Ab (Aa (I (.ic rfl oQ) (Ac rfl (LW.nil (Aq ?_)))))))
    exact⟨(k+1,S9 g x.off 0),⟨by omega,mI hg hx (by simp at h75;omega),hS.take 1⟩,tQ,by omega⟩
   refine A7 (Ad (Ad (Au (Ab (Al (Af (I (.fB 3 rfl) (I (.lb rfl ((hB3T.up hS.Cj).An rfl)) (Ai (CW.b rfl (fun h80=>?_) (fun h80=>?_)))))))))))
   ·refine Aa (I (.fB 18 rfl) (Bh (.store sizeOf9 (.t rfl) (.const _) rfl hS.b0 bQ) ?_))
    intro w11 Nw11
    replace hS:=hS.Co 0 rfl (show Set_ _ w11 _ (({ g with Text:=ByteArray.empty }:Fact).cells) _ from Nw11)
    refine Ar (Aa (I (.lc rfl (hS.b0.agg)) (I (.fB 0 rfl) (I (.lb rfl ((hB1T.up hS.Cj).An rfl)) (I (.fB 2 rfl) (I (.lb rfl ((hB1T.up hS.Cj).An rfl)) (I (.fB 3 rfl) (I (.lb rfl ((hB1T.up hS.Cj).An rfl)) (I (.fB 4 rfl) (I (.lb rfl ((hB1T.up hS.Cj).An rfl)) (I (.build (cs:=(kB f).cells) me k_ Fg (.ct rfl (.ct rfl (.ct rfl (.cu rfl)))) rfl) (I (.Yl m4 (Hk _ _) (.t rfl) (.t rfl)) (LW.A rfl (Ai (Aj (KW.q ?_))))))))))))))))
    refine⟨a_ Go.Value.bool ?_,hU0.trans hS.Cj⟩
    exact DI hkn hq2 hr0 (by simpa using h50) (bB hg (by simp at h56;omega)) ht0 h80
   refine Ak (Ab (Af (I (.lc rfl (hS.b0.agg)) (I (.fB 0 rfl) (I (.lb rfl ((hB1T.up hS.Cj).An rfl)) (I (.fB 2 rfl) (I (.lb rfl ((hB1T.up hS.Cj).An rfl)) (I (.fB 3 rfl) (I (.lb rfl ((hB1T.up hS.Cj).An rfl)) (I (.fB 4 rfl) (I (.lb rfl ((hB1T.up hS.Cj).An rfl)) (I (.build (cs:=(kB f).cells) me k_ Fg (.ct rfl (.ct rfl (.ct rfl (.cu rfl)))) rfl) (I (.Yl m4 (Hk _ _) (.t rfl) (.t rfl)) (LW.A rfl (Ai (Aj (KW.q ?_)))))))))))))))))
   refine⟨a_ Go.Value.bool ?_,hU0.trans hS.Cj⟩
   exact DJ hkn hq2 hr0 (by simpa using h50) (bB hg (by simp at h56;omega)) ht0 h80
 |false=>
  have hkn:=db hq1
  have hB1T:=hS.blk 0 rfl
  have hU0:=hS.Cj
  refine CW.box 9 7 8 5 3 14 #[.slice none 0 0,.slice none 0 0,.nilFunc,.bool false] [.pred ShM,.eq (.pointer (some ⟨B1,0,none⟩)),.eq (vi f.Kind),.eq (.tuple #[Y0,.bool false]),.eq (.tuple #[Y0,.bool false]),.eq Y0,.eq (.bool false),.pred fun v _=>∃B,v=.pointer (some ⟨B,0,none⟩),.eq undef] [15] l6 sizeOf121 kQ rfl kQ kQ kQ kQ kQ kQ kQ rfl rfl ⟨_,_,_,rfl⟩ _ rfl ⟨_,_,_,rfl⟩ ⟨PhT.pred fun _ _ _ h u=>ShM.Da h u,nn,nn,nn,nn,nn,nn,PhT.pred fun _ _ _ h _=>h,nn,trivial⟩ rfl (fun v W h=>⟨_,h,rfl,by simp[Value.oneCell']⟩) (fun B W=>⟨B,rfl⟩) ?_ ?_
  ·intro W hK0
   have hK:=(Up.drew w1).Da.trans hK0
   have hB1W:=Blk.Da hB1T (T:=121) rfl hK
   refine aC (.inr ⟨rfl,TU.c (eC .nil (wU)) (L7 _) (fun v W1 h=>let⟨b,e,m,u⟩:=h;⟨u,b,e,m⟩)⟩) (aC (.inr ⟨rfl,TU.p (.fB 0 rfl) rfl⟩) (aC (.inr ⟨rfl,TU.p (.lb rfl (hB1W.An rfl)) rfl⟩) (aC (.inr ⟨rfl,TU.open (d:=10) rfl (by rintro _ ⟨b,rfl,kv,hI,hV,hK⟩;exact TU.p (.Ha ng lh l6 (.t rfl) (.t rfl) hI (fun h=>hkn ((hK f.Kind).1 h))) rfl)⟩) (aC (.inr ⟨rfl,TU.p (.mv rfl) rfl⟩) (aC (.inr ⟨rfl,TU.p (.xt rfl rfl) rfl⟩) (aC (.inr ⟨rfl,TU.p (.xt rfl rfl) rfl⟩) (aC (.inl (.inl rfl)) (aC (.inl (.inr rfl)) ?_))))))))
   exact allL.nil
  intro wT B3 g hU hBn hB3 hg
  have h15:g 15=.bool false:=hg 6 _ 15 cQ rfl rfl
  have hUT:=(Up.drew _).trans hU
  have hB1X:=hB1T.up hUT
  replace hB1T:=hB1X
  replace hU0:=hU0.trans hUT
  have e14:g 14=Y0:=hg 5 _ 14 cQ rfl rfl
  rw[e14]at hB3
  replace hB3:Blk wT B3 #[.slice none 0 0,.slice none 0 0,.nilFunc,.bool false] 121:=hB3
  change LW _ _ _ _ _ _ _ _ ((3,_)::(15,.eq (g 15))::_) _
  rw[h15]
  replace hS:=(Sep.start no wT)
  refine LW.A rfl (Ar (Af (I (.fa (PEv.mv rfl) (rfl)) (I (.n1 rfl) (Ac rfl (E4 (E4 (E4 (I (.Ee (b:=false) (.t rfl) (fun hp=>absurd (show true=false from hp) cQ)) (Ac rfl (E4 (E4 (E4 (I (.Ee (b:=false) (.t rfl) (fun hp=>absurd (show true=false from hp) cQ)) (Ac rfl (E4 (E4 (E4 (I (.Ee (b:=false) (.t rfl) (fun hp=>absurd (show true=false from hp) cQ)) (Ac rfl (E4 (E4 (E4 (I (.Ee (b:=false) (.t rfl) (fun hp=>absurd (show true=false from hp) cQ)) (Ac rfl (E4 (E4 (E4 (E4 (I (.Ee (b:=false) (.t rfl) (fun hp=>absurd (show true=false from hp) cQ)) (Ac rfl (E4 (E4 (E4 (E4 (E4 (I (.Ee (b:=false) (.t rfl) (fun hp=>absurd (show true=false from hp) cQ)) (Ai (CW.v rfl (Af (J (Ai (Aj (Ah (KW.q ?_)))))))))))))))))))))))))))))))))))))))))))))
  refine⟨a_ Go.Value.bool ?_,hU0.trans hS.Cj⟩
  exact KD hkn
end Go.Proofs.YtbcnnkfopoiifaaGreatDoor
namespace Go.Wx
open Go.RowKit
def DK{α:Type}(bq:Nat)(Z:Nat→Prop)(I:List α→World→Prop)(ys:List α)(W:World):Exit→Go.Act→World→Prop
 |.normal,_,W'=>KeepsFrom bq W W'∧(∀b,Z b→W'.heap[b]?=W.heap[b]?)∧I ys W'
 |_,_,_=>False
def BW{α:Type}(P:Program)(g:Nat)(lb:Array Value)(encs:α→Array Value)(Z:Nat→Prop)(S:List α→Prop)(N:Nat)(w:World):Prop:=
 ∀(lp:Nat)(J:List α→World→Prop)(W:World),Up w W→(∀s A B,J s A→Fr Z A B→J s B)→
   (∀pre x W1,J pre W1→pre.length<N→YieldAt (FR none) 8 P lp (encs x) W1 fun e W'=>∃v,e=.returned v∧v=.bool true∧J (pre++[x]) W'∧∀b,Z b→W'.heap[b]?=W1.heap[b]?)→
   J [] W→Ret P g (#[.func (.yield lp) #[] #[]]++lb) W fun _ W'=>∃ys,S ys∧J ys W'
theorem Sz.Xb{B:Nat}{Z:Nat→Prop}{w w':World}(h:Sz B w)(k:Fr Z w w'):Sz B w':=bb h k.size
theorem Blk.Xb{B:Nat}{cs:Array Value}{T:TypeId}{Z:Nat→Prop}{w w':World}(h:Blk w B cs T)(k:Fr Z w w')(hn:¬Z B):Blk w' B cs T:=(k.block B h.lt hn).trans h
theorem OwnS.Xb{α:Type}{enc:α→Array Value}{base k:Nat}{e:TypeId}{Z:Nat→Prop}{w w':World}{v:Value}{xs:List α}(h:OwnS w base e k enc v xs)(u:Fr Z w w')(hn:∀b,Z b→b<base):OwnS w' base e k enc v xs:=by
 obtain⟨h1,h2⟩:=h
 refine⟨h1,?_⟩
 rcases h2 with h2|⟨g,cap,cur,rfl,hb,hg,rest⟩
 · exact .inl h2
 exact .inr ⟨g,cap,cur,rfl,hb,(u.block g (lt_of_block hg) (fun hz=>by have:=hn g hz;omega)).trans hg,rest⟩
theorem Up.Xb{Z:Nat→Prop}{w0 w w':World}(h:Up w0 w)(k:Fr Z w w')(hn:∀b,Z b→w0.heap.size≤b):Up w0 w':=
 ⟨k.os.trans h.os,k.tape.trans h.tape,k.output.trans h.output,bb (Up.size h) k.size,fun i hi=>(k.block i (fz hi (Up.size h)) (fun hz=>by have:=hn i hz;omega)).trans (h.block hi)⟩
structure Zk(B:Nat)(w w':World):Prop where
 lt:B<w'.heap.size
 same:w'.heap[B]?=w.heap[B]?
theorem Zk.refl{B:Nat}{w:World}(h:B<w.heap.size):Zk B w w:=⟨h,rfl⟩
theorem Zk.up{B:Nat}{w0 w w':World}(h:Zk B w0 w)(u:Up w w'):Zk B w0 w':=⟨fz h.lt u.size,(u.block h.lt).trans h.same⟩
theorem Zk.sto{B B':Nat}{w0 w w':World}(h:Zk B w0 w)(u:Sto B' w w')(hne:B≠B'):Zk B w0 w':=⟨fz h.lt u.size,(u.block _ h.lt hne).trans h.same⟩
theorem Zk.gr{B base:Nat}{w0 w w':World}(h:Zk B w0 w)(u:Grew base w w')(hb:B<base):Zk B w0 w':=⟨fz h.lt u.size,(u.block _ h.lt hb).trans h.same⟩
section
variable {R:Option Nat}{m:Nat}{P:Program}{n:Nat}{ds:List Deferred}{Q:Exit→Go.Act→World→Prop}{l:Env}{w:World}
theorem fR{lp:Nat}{c:Code}{p q:Nat}{v u:Value}(hp:Nat.ble (p+1) n=true)(hq:Nat.ble (q+1) n=true)(h:CW (some lp) m P n [] c Q ((q,.eq u)::(p,.eq v)::l) w):
   ∀a,Ag n ds l a w→c.wpIn (FR (some lp)) m P Q { tmps:=(#[p,q].zip #[v,u]).foldl (fun t(p,v)=>t.setIfInBounds p v) a.tmps,defers:=[] } w:=fun a ha=>by
 have e:(#[p,q].zip #[v,u]).foldl (fun t(p,v)=>t.setIfInBounds p v) a.tmps=(a.tmps.setIfInBounds p v).setIfInBounds q u:=by simp
 rw[e]
 have h1:Ag n [] l { tmps:=a.tmps,defers:=[] } w:=⟨rfl,ha.size,ha.val⟩
 exact h _ ((h1.put hp (ph:=.eq v) rfl).put hq (ph:=.eq u) rfl)
theorem Wc{α:Type}{g:Operand}{ps:Array Tmp}{assign body:Code}{gf:Nat}{lb:Array Value}{encs:α→Array Value}(Z:Nat→Prop){S:List α→Prop}{N:Nat}(I:List α→World→Prop)(env:α→Env)
   (hx:Val l g (.func (.func gf) #[] lb))(en:∀args w,(callFunc gf args).run P w=.ok (.enter gf args) w)(hit:∀W,Up w W→BW P gf lb encs Z S N W)(hps:∀x,(encs x).size=ps.size)(hl:Cf l=true)(hZ:∀b,Z b→b<w.heap.size)
   (hI:OwnFrom w.heap.size I)(hIZ:∀s A B,I s A→Fr Z A B→I s B)(h0:I [] w)
   (hassign:∀(lp:Nat)(x:α)(W:World)(a:Go.Act),Ag n ds l a W→assign.wpIn (FR (some lp)) 8 P (Exit.then (fun a' W'=>W'=W∧Ag n [] (env x) a' W) (fun _ _ _=>False)) { tmps:=(ps.zip (encs x)).foldl (fun t(p,v)=>t.setIfInBounds p v) a.tmps,defers:=[] } W)
   (henv:∀x,Cf (env x)=true)
   (hbody:∀(lp:Nat)(pre:List α)(x:α)(W:World),I pre W→pre.length<N→CW (some lp) 8 P n [] body (DK w.heap.size Z I (pre++[x]) W) (env x) W)
   (hdone:∀(D:Nat)(ys:List α)(W:World),w.heap.size≤D→S ys→I ys W→W.heap[D]?=some (.deferred (some []))→KW n ({ target:=.collected D,args:=#[] }::ds) (Q .normal) l W):
   CW none 10 P n ds (.rangeFunc g ps assign body) Q l w:=fun a ha=>by
 have hg:=ha.ev hx
 refine wpIn_rangeFunc ?_
 intro fn hfn
 -- the loop's record,and the block of what the rounds defer
 let rec_:LoopState→Option Code→Loop:=fun st pe=>{ state:=st,pending:=pe,fn,tmps:=a.tmps,params:=ps,assign,body,defers:=w.heap.size }
 let kd:Nat:=w.heap.size
 let lp:Nat:=w.heap.size+1
 let W1:World:=(w.alloc (.deferred (some []))).alloc (.loop (rec_ .ready none))
 have hU:Up w W1:=(Up.alloc _ _).trans (Up.alloc _ _)
 have rec1:W1.heap[lp]?=some (.loop (rec_ .ready none)):=by
   have:=World.alloc_heap_new (w.alloc (.deferred (some []))) (.loop (rec_ .ready none))
   rw[World.size_alloc]at this
   exact this
 have dfr1:W1.heap[kd]?=some (.deferred (some [])):=(Below.heap_alloc _ _ _ (by simp[kd])).trans (World.alloc_heap_new w _)
 have hne:kd≠lp:=by show w.heap.size≠w.heap.size+1;omega
 have hI1:I [] W1:=hI.alloc _ (hI.alloc _ h0)
 refine⟨lp,[{ target:=.collected kd,args:=#[] }],W1,{ target:=.fn (.func gf) lb,args:=#[.func (.yield lp) #[] #[]] },W1,gf,#[.func (.yield lp) #[] #[]]++lb,W1,run_enterLoop_outer _ _ _ _ _,?_,fun f' hf'=>?_,?_,fun _=>cQ,?_⟩
 · simp only[resolve,hg]
   simp[go_sem]
 · simp[Target.leads]at hf';subst hf';trivial
 · simp[invoke,go_sem,en]
 have fine:∀{A B:World},Fr Z A B→∀(k:Nat)(o:Obj),w.heap.size≤k→A.heap[k]?=some o→B.heap[k]?=some o:=fun hf k o hk ho=>
   (hf.block k (lt_of_block ho) (fun hz=>by have:=hZ k hz;omega)).trans ho
 have all:=hit W1 hU lp (fun pre W=>I pre W∧W.heap[lp]?=some (.loop (rec_ .ready none))∧W.heap[kd]?=some (.deferred (some []))) W1 (Up.refl _)
   (fun s A B hs hf=>⟨hIZ s A B hs.1 hf,fine hf lp _ (by show w.heap.size≤w.heap.size+1;omega) hs.2.1,fine hf kd _ (av _) hs.2.2⟩) ?_ ⟨hI1,rec1,dfr1⟩
 · refine(show CallsIn (FR none) 9 P gf _ W1 _ from callsIn_wide.2 all).mono ?_
   rintro e W2 ⟨v,rfl,xs,hS,hi,hlr,hk⟩
   refine⟨none,W2.putObj lp (.loop (rec_ .exhausted none)),?_,?_⟩
   · exact run_endLoop (P:=P) hlr (by simp[rec_])
   exact hdone kd xs _ (av _) hS (hI.putObj _ hi (by show w.heap.size≤w.heap.size+1;omega) hlr rfl) ((World.putObj_heap_other hne).trans hk) _ ⟨by rw[←ha.defers];rfl,ha.size,(ha.world hl _).val⟩
 -- one round
 rintro pre x W ⟨hi,hlr,hk⟩ hlen
 have hlt:=lt_of_block hlr
 have hy:=run_yield (P:=P) (args:=encs x) hlr (by simp only[rec_];exact hps x)
 refine⟨fn,_,assign,body,hy,roundIn_of_wpIn hfn ?_⟩
 refine wpIn_mono (hassign lp x W a (ha.world hl W)) ?_
 intro e a1 W' hq
 cases e with
 |normal=>
   obtain⟨rfl,ha1⟩:=hq
   refine⟨_,run_beginRound hlr rfl,?_⟩
   have hput:OwnFrom w.heap.size I→I pre (W'.putObj lp (.loop { rec_ .ready none with state:=.busy })):=fun h=>h.putObj _ hi (by show w.heap.size≤w.heap.size+1;omega) hlr rfl
   have l2:(W'.putObj lp (.loop { rec_ .ready none with state:=.busy })).heap[lp]?=some (.loop { rec_ .ready none with state:=.busy }):=World.putObj_heap_same hlt
   have k2:(W'.putObj lp (.loop { rec_ .ready none with state:=.busy })).heap[kd]?=some (.deferred (some [])):=(World.putObj_heap_other hne).trans hk
   refine wpIn_mono (hbody lp pre x _ (hput hI) hlen a1 (ha1.world (henv x) _)) ?_
   intro e2 a2 W3 hp
   cases e2 with
   |normal=>
     obtain⟨hk3,hz3,hi3⟩:=hp
     have l3:=hk3.same _ _ (by show w.heap.size≤w.heap.size+1;omega) l2 rfl
     have k3:=hk3.same _ _ (av _) k2 rfl
     have hr:=run_endRound (P:=P) none l3
     have ne:∀b,Z b→b≠lp:=fun b hb=>by have:=hZ b hb;show b≠w.heap.size+1;omega
     refine⟨_,_,hr,_,rfl,rfl,⟨hI.putObj _ hi3 (by show w.heap.size≤w.heap.size+1;omega) l3 rfl,World.putObj_heap_same (lt_of_block l3),(World.putObj_heap_other hne).trans k3⟩,fun b hb=>?_⟩
     exact(World.putObj_heap_other (ne b hb)).trans ((hz3 b hb).trans (World.putObj_heap_other (ne b hb)))
   |ret=>exact hp.elim
   |exit id=>exact hp.elim
   |goto t=>exact hp.elim
   |panic ch=>exact hp.elim
   |outgrown=>exact hp.elim
 |ret=>exact hq.elim
 |exit id=>exact hq.elim
 |goto t=>exact hq.elim
 |panic ch=>exact hq.elim
 |outgrown=>exact hq.elim
end
end Go.Wx
