import Derived.Test.YthcabjphnacjeaaGreatDoorKR113
import Derived.ChangeKeysEq
namespace Go.Wx
open Go.RowKit in
theorem St{P:Program}{n:Nat}{l:Env}{w:World}{fn:Func}{RR:Ending→World→Prop}{t u:Tmp}{T:TypeId}{B k:Nat}{cs:Array Go.Value}{x:Go.Value}(hr:fn.results=#[.cell t T,.tmp u])(hv:lk l t=some (.eq (.pointer (some ⟨B,0,none⟩))))(hu:lk l u=some (.eq x))(hT:∀w,(isAgg T).run P w=.ok true w)(hs:∀w,(sizeOf T).run P w=.ok k w)(hk:cs.size=k)
   (hc:AggAt w B 0 cs)(hR:RR (.returned (.tuple #[.agg cs,x])) w):KW n [] (bodyPost P fn RR .ret) l w:=fun a ha=>
 ⟨ha.defers,.tuple #[.agg cs,x],by
   have h1:a.tmps.getD t undef=.pointer (some ⟨B,0,none⟩):=ha.val _ _ hv
   have h2:a.tmps.getD u undef=x:=ha.val _ _ hu
   rw[bl]at h1 h2
   simp[results,hr,h1,h2,asAddr,Fl hT hs hk hc],hR⟩
def Jj:Fact:=Kv 0 0 0 false
theorem kN{p:Fact→Bool}{l:List Fact}{k:Nat}{x:Fact}(h:l[k]?=some x)(hk:∀y∈l.take k,p y=false)(hx:p x=false):∀y∈l.take (k+1),p y=false:=fun y hy=>by
 rw[Ct h]at hy
 rcases bt.1 hy with hy|hy
 · exact hk y hy
 cases bn.1 hy;exact hx
theorem tS{p:Fact→Bool}{l:List Fact}{k:Nat}{x:Fact}(h:l[k]?=some x)(hk:∀y∈l.take k,p y=false)(hx:p x=true):l.find? p=some x:=by
 have hlt:=(ak.1 h).1
 have e:l=l.take k++x::l.drop (k+1):=by
   have h1:l.drop k=x::l.drop (k+1):=by
     rw[fe hlt,(ak.1 h).2]
   rw[←h1,eg]
 rw[e,List.find?_append,i_.2 (fun y hy=>by rw[hk y hy];exact cg),List.find?_cons,hx]
 rfl
theorem tT{p:Fact→Bool}{l:List Fact}(h:∀y∈l,p y=false):l.find? p=none:=i_.2 (fun y hy=>by rw[h y hy];exact cg)
def IU(p:Fact→Bool)(l:List Fact)(i:Int):Prop:=(∃k x,i=((k:Nat):Int)∧l[k]?=some x∧p x=true∧∀y∈l.take k,p y=false)∨(i= -1∧∀y∈l,p y=false)
def gN(a c r v t:Int)(f:Fact):Bool:=(f.Tool==a&&(f.Chamber==c&&(f.Recipe==r&&(f.Revision==v&&true))))&&decide (f.Time≤t)&&decide (t≤f.Until)
def Fp(b:Base)(a c r v t:Int):Bool:=(b.Qualified.find? (gN a c r v t)).isSome
theorem pI{p:Fact→Bool}{l:List Fact}{k:Nat}{x:Fact}(h:l[k]?=some x)(hx:p x=true):(l.take (k+1)).filter p=(l.take k).filter p++[x]:=by
 rw[Ct h,df,dr,bg hx];rfl
theorem wV{p:Fact→Bool}{l:List Fact}{k:Nat}{x:Fact}(h:l[k]?=some x)(hx:p x=false):(l.take (k+1)).filter p=(l.take k).filter p:=by
 rw[Ct h,df,dr,aq (by rw[hx];exact cg)];simp
theorem Zm(p:Fact→Bool)(l:List Fact)(k:Nat):((l.take k).filter p).length≤k:=b6 (dy _ _) (by rw[ca];omega)
def Ck(c n:Int):Int:=(if c<0 then IntKind.i64.wrap (-(IntKind.i64.wrap (c+1)))else c).tmod n
def Kw(b:Base)(j:Nat):List Fact:=[b.Processes,b.Measures,b.Swaps,b.Lots,b.Flows,b.Qualified,b.Holds,b.Releases,b.Resets,b.Targets,b.Gaps].getD j []
theorem Od{j:Nat}(h:j<11):j=0∨j=1∨j=2∨j=3∨j=4∨j=5∨j=6∨j=7∨j=8∨j=9∨j=10:=by omega
theorem BaseC.at_{w:World}{bc:Array Go.Value}{b:Base}(h:BaseC w bc b){j:Nat}(hj:j<11):∃v,bc[j]?=some v∧Sl w v 19 Fact.cells (Kw b j):=by
 obtain⟨v0,v1,v2,v3,v4,v5,v6,v7,v8,v9,v10,e,h0,h1,h2,h3,h4,h5,h6,h7,h8,h9,h10⟩:=h
 subst e
 rcases Od hj with rfl|rfl|rfl|rfl|rfl|rfl|rfl|rfl|rfl|rfl|rfl
 · exact⟨v0,rfl,h0⟩
 · exact⟨v1,rfl,h1⟩
 · exact⟨v2,rfl,h2⟩
 · exact⟨v3,rfl,h3⟩
 · exact⟨v4,rfl,h4⟩
 · exact⟨v5,rfl,h5⟩
 · exact⟨v6,rfl,h6⟩
 · exact⟨v7,rfl,h7⟩
 · exact⟨v8,rfl,h8⟩
 · exact⟨v9,rfl,h9⟩
 exact⟨v10,rfl,h10⟩
def short(b:Base):Prop:=∀j,(Kw b j).length≤100000
theorem dL(l:List Fact)(d:Int):(Hh (Hg l d)).length≤l.length:=by unfold Hh;rw[ef];exact(Q5 d l).2
theorem Q7(l:List Fact)(d:Int){j:Nat}(hj:j<11):Kw (Sr l d) j=Ea [((j+1:Nat):Int)] (Hh (Hg l d)) j:=by
 rcases Od hj with rfl|rfl|rfl|rfl|rfl|rfl|rfl|rfl|rfl|rfl|rfl<;>rfl
theorem Vi(b:Base){j:Nat}(hj:¬j<11):Kw b j=[]:=by
 unfold Kw
 rw[cn,cy (by simp;omega)];rfl
theorem kO{l:List Fact}(h:l.length≤100000)(d:Int):short (Sr l d):=fun j=>by
 by_cases hj:j<11
 · rw[Q7 l d hj]
   exact b6 (Q6 _ _ _) (b6 (dL l d) h)
 rw[Vi _ hj];simp
def Ga(f:Fact):K2:=(f.Time,f.ID)
def Jk(n:Int):Bool:=decide (1≤n)&&decide (n≤1000000)
def Oe(p:Fact→Bool)(l:List Fact):List Fact:=Ji Ga (l.filter p)
theorem Su{α:Type}{enc:α→Array Value}{e k:Nat}{w0 w:World}{v:Value}{xs:List α}{rest:List Asr}(h:Wx.Sep no w0 w (Aw e k enc v xs::rest)):OwnS w w0.heap.size e k enc v xs:=by
 have hf:=h.foot 0 rfl
 obtain⟨h1,h2⟩:=h.own 0 rfl
 refine⟨h1,?_⟩
 rcases h2 with h2|⟨g,cap,cur,e,hb,rest⟩
 · exact .inl h2
 exact .inr ⟨g,cap,cur,e,(hf g (by rw[e];rfl)).resolve_left (fun h=>h),rest⟩
theorem Fq{c n:Int}(hc:iS c)(hn:0<n):0≤Ck c n∧Ck c n<n:=by
 unfold Ck
 obtain⟨h1,h2⟩:=hc
 split
 · rw[Dk (i:=c+1) oQ oQ,Dk oQ oQ,kt (by omega)];exact⟨Int.emod_nonneg _ oQ,Int.emod_lt_of_pos _ hn⟩
 rw[kt (by omega)];exact⟨Int.emod_nonneg _ oQ,Int.emod_lt_of_pos _ hn⟩
theorem OwnS.els{α:Type}{enc:α→Array Go.Value}{b k n cp:Nat}{e:TypeId}{w:World}{ad:Option Addr}{xs:List α}(h:OwnS w b e k enc (.slice ad n cp) xs)(hk:∀x,(enc x).size=k):Els w ad k enc xs:=by
 obtain⟨ad',cp',e,hE⟩:=h.sl hk
 injection e with e1
 rw[e1];exact hE
theorem Sv(f:Fact):Fu f f=true:=by simp[Fu]
theorem AJ{f:Fact}(h:Ca f=true):f.Day≤100000:=by
 have:=L9 h
 simp only[preB,i0,jk]at this
 omega
theorem Of{f g:Fact}(hf:Ca f=true)(hg:Ca g=true)(h:Cj f=Cj g):f.Kind=g.Kind:=by
 have kf:=Eu hf
 have kg:=Eu hg
 unfold Cj N8 at h
 rw[bg hf,bg hg]at h
 exact(Rt (r:=Cu (Eh (Eg f.Kind) f)) (s:=Cu (Eh (Eg g.Kind) g)) (a:=f.Kind) (b:=g.Kind) ⟨by omega,by omega⟩ ⟨by omega,by omega⟩ h).1
theorem Wv:∀(a b:List UInt8),Go.Lib.compareBytes b a= - Go.Lib.compareBytes a b
 |[],[]=>rfl
 |[],_::_=>rfl
 |_::_,[]=>rfl
 |x::a,y::b=>by
   unfold Go.Lib.compareBytes
   by_cases h1:x<y
   · have h2:¬y<x:=by rw[ga]at*;omega
     rw[bg h1,aq h2,bg h1];rfl
   by_cases h2:y<x
   · rw[bg h2,aq h1,bg h2]
   rw[aq h2,aq h1,aq h1,aq h2];exact Wv a b
theorem gO:∀{a b:List UInt8},Go.Lib.compareBytes a b=0→a=b
 |[],[],_=>rfl
 |[],_::_,h=>by simp[Go.Lib.compareBytes]at h
 |_::_,[],h=>by simp[Go.Lib.compareBytes]at h
 |x::a,y::b,h=>by
   unfold Go.Lib.compareBytes at h
   by_cases h1:x<y
   · rw[bg h1]at h;cases h
   by_cases h2:y<x
   · rw[aq h1,bg h2]at h;cases h
   rw[aq h1,aq h2]at h
   rw[gO h,show x=y from UInt8.toNat_inj.1 (by rw[ga]at h1 h2;omega)]
theorem tU(a:List UInt8):Go.Lib.compareBytes a a=0:=by have:=Wv a a;omega
theorem Zn:∀{a b c:List UInt8},0<Go.Lib.compareBytes a b→0<Go.Lib.compareBytes b c→0<Go.Lib.compareBytes a c
 |[],[],_,h,_=>by simp[Go.Lib.compareBytes]at h
 |[],_::_,_,h,_=>by simp[Go.Lib.compareBytes]at h
 |_::_,[],[],_,h=>by simp[Go.Lib.compareBytes]at h
 |_::_,[],_::_,_,h=>by simp[Go.Lib.compareBytes]at h
 |_::_,_::_,[],_,_=>by simp[Go.Lib.compareBytes]
 |x::a,y::b,z::c,h,k=>by
   unfold Go.Lib.compareBytes at h k⊢
   by_cases h1:x<y
   · rw[bg h1]at h;omega
   by_cases k1:y<z
   · rw[bg k1]at k;omega
   rw[aq h1]at h
   rw[aq k1]at k
   have e1:¬x<z:=by rw[ga]at*;omega
   rw[aq e1]
   by_cases h2:y<x
   · rw[bg (show z<x by rw[ga]at*;omega)];decide
   by_cases k2:z<y
   · rw[bg (show z<x by rw[ga]at*;omega)];decide
   rw[aq h2]at h
   rw[aq k2]at k
   rw[aq (show ¬z<x by rw[ga]at*;omega)]
   exact Zn h k
theorem I9{a b:Fact}:Ex a b=true↔Ca a=true∧Ca b=true∧Cj a=Cj b∧(b.Version<a.Version∨(a.Version=b.Version∧0<Go.Lib.compareBytes (Ii a) (Ii b))):=by
 unfold Ex
 simp only[bw,gc,ge,beq_iff_eq,and_assoc]
theorem Qa(a:Fact):Ex a a=false:=by
 rw[fm]
 intro h
 have:=(I9.1 h).2.2.2
 rw[tU]at this
 omega
theorem dM{a b c:Fact}(h:Ex a b=true)(k:Ex b c=true):Ex a c=true:=by
 obtain⟨h1,h2,h3,h4⟩:=I9.1 h
 obtain⟨k1,k2,k3,k4⟩:=I9.1 k
 refine I9.2 ⟨h1,k2,h3.trans k3,?_⟩
 rcases h4 with h4|⟨h4,h5⟩<;>rcases k4 with k4|⟨k4,k5⟩
 · exact .inl oQ
 · exact .inl oQ
 · exact .inl oQ
 exact .inr ⟨by omega,Zn h5 k5⟩
theorem Ww{f:Fact}{o o':Nat}{n:Int}(h:Fh o=true)(h':Fh o'=true):G7 (jS f o n) o'=if o=o' then n else G7 f o':=by
 rcases Ed h with rfl|rfl|rfl|rfl|rfl|rfl|rfl|rfl|rfl|rfl|rfl|rfl|rfl|rfl<;>rcases Ed h' with rfl|rfl|rfl|rfl|rfl|rfl|rfl|rfl|rfl|rfl|rfl|rfl|rfl|rfl<;>rfl
theorem pJ{f:Fact}{o:Nat}{n:Int}(h:Fh o=true):(jS f o n).Text=f.Text:=by
 rcases Ed h with rfl|rfl|rfl|rfl|rfl|rfl|rfl|rfl|rfl|rfl|rfl|rfl|rfl|rfl<;>rfl
theorem Zo:∀{fs:List Fld}{f g:Fact},(∀x∈fs,Fh x.off=true∧Oy x.lo∧Oy x.hi)→Ih fs f=some g→(∀o,Fh o=true→G7 g o≠0→G7 f o=G7 g o)∧(∀o,Fh o=true→(∀x∈fs,x.off≠o)→G7 f o=G7 g o)∧g.Text=f.Text∧∀x∈fs,Oy (G7 f x.off)
 |[],f,g,_,h=>by cases h;exact⟨fun _ _ _=>rfl,fun _ _ _=>rfl,rfl,fun x hx=>by cases hx⟩
 |x::fs,f,g,hf,h=>by
   unfold Ih at h
   split at h
   · cases h
   rename_i hx
   have ok:=hf x bu
   obtain⟨h1,h2,h3,h4⟩:=Zo (fun y hy=>hf y (b9 _ hy)) h
   refine⟨fun o ho hne=>?_,fun o ho hn=>?_,h3.trans (pJ ok.1),fun y hy=>?_⟩
   · have:=h1 o ho hne
     rw[Ww ok.1 ho]at this
     by_cases e:x.off=o
     · rw[bg e]at this;exact absurd this.symm hne
     rwa [aq e]at this
   · have:=h2 o ho (fun y hy=>hn y (b9 _ hy))
     rwa [Ww ok.1 ho,aq (hn x bu)]at this
   have hb:Oy (G7 f x.off):=by
     have:=ok.2.1.1
     have:=ok.2.2.2
     exact⟨by omega,by omega⟩
   rcases bm.1 hy with rfl|hy
   · exact hb
   have:=h4 y hy
   rw[Ww ok.1 (hf y (b9 _ hy)).1]at this
   by_cases e:x.off=y.off
   · rw[←e];exact hb
   rwa [aq e]at this
theorem dN(k:Int):∀x∈fieldsOf k,Fh x.off=true∧Oy x.lo∧Oy x.hi:=by
 intro x hx
 have h:∀l∈Lk,∀y∈l,(Fh y.off&&decide (-4611686018427387903≤y.lo)&&decide (y.lo≤4611686018427387903)&&decide (-4611686018427387903≤y.hi)&&decide (y.hi≤4611686018427387903))=true:=by decide
 unfold fieldsOf at hx
 rw[cn]at hx
 cases hl:Lk[k.toNat]? with
 |none=>rw[hl]at hx;simp at hx
 |some l=>
   rw[hl]at hx
   have:=h l (ai hl) x (by simpa using hx)
   simp only[bw,ge]at this
   exact⟨this.1.1.1.1,⟨this.1.1.1.2,this.1.1.2⟩,⟨this.1.2,this.2⟩⟩
theorem tV{f g:Fact}(h:Fu f g=true):(∀o,Fh o=true→G7 f o=G7 g o)∧f.Text.toList=g.Text.toList:=by
 simp only[Fu,bw,beq_iff_eq]at h
 obtain⟨_,h1,_,_,_,h5,h6,h7,h8,h9,h10,h11,h12,h13,h14,h15,h16,h17,h18⟩:=h
 refine⟨fun o ho=>?_,h18⟩
 rcases Ed ho with rfl|rfl|rfl|rfl|rfl|rfl|rfl|rfl|rfl|rfl|rfl|rfl|rfl|rfl
 · exact h1
 · exact h5
 · exact h6
 · exact h7
 · exact h8
 · exact h9
 · exact h10
 · exact h11
 · exact h12
 · exact h13
 · exact h14
 · exact h15
 · exact h16
 exact h17
theorem kP(k v d:Int)(g:Bool){o:Nat}(h:Fh o=true):G7 (Kv k v d g) o=0:=by
 rcases Ed h with rfl|rfl|rfl|rfl|rfl|rfl|rfl|rfl|rfl|rfl|rfl|rfl|rfl|rfl<;>rfl
theorem pK(g:Fact)(t:ByteArray){o:Nat}(h:Fh o=true):G7 { g with Text:=t } o=G7 g o:=by
 rcases Ed h with rfl|rfl|rfl|rfl|rfl|rfl|rfl|rfl|rfl|rfl|rfl|rfl|rfl|rfl<;>rfl
theorem Ls{f:Fact}(h:Ca f=true):(∀o,Fh o=true→(∀x∈fieldsOf f.Kind,x.off≠o)→G7 f o=0)∧(∀x∈fieldsOf f.Kind,Oy (G7 f x.off))∧(G1 f.Kind=false→f.Text.toList=[]):=by
 unfold Ca at h
 rw[bw,bw]at h
 have h3:=h.2.2
 cases hr:Ih (fieldsOf f.Kind) f with
 |none=>rw[hr]at h3;cases h3
 |some g=>
   rw[hr]at h3
   obtain⟨r1,r2,r3,r4⟩:=Zo (dN f.Kind) hr
   obtain⟨e1,e2⟩:=tV h3
   have z:∀o,Fh o=true→G7 g o=0:=fun o ho=>by
     have:=e1 o ho
     rw[kP _ _ _ _ ho]at this
     split at this
     · rwa [pK _ _ ho]at this
     exact this
   refine⟨fun o ho hn=>(r2 o ho hn).trans (z o ho),r4,fun ht=>?_⟩
   rw[ht]at e2
   rw[←r3]
   rw[aq cg]at e2
   rw[e2,ByteArray.toList_eq];rfl
theorem pL{a b:ByteArray}(h:a.toList=b.toList):a=b:=by
 rw[ByteArray.toList_eq,ByteArray.toList_eq]at h
 cases a;cases b
 exact bh ByteArray.mk (Array.toList_inj.1 h)
theorem pM{a b:Fact}(hk:a.Kind=b.Kind)(hv:a.Version=b.Version)(hd:a.Day=b.Day)(hg:a.Gone=b.Gone)(ht:a.Text=b.Text)(h:∀o,Fh o=true→G7 a o=G7 b o):a=b:=by
 have h1:=h 1 rfl
 have h5:=h 5 rfl
 have h6:=h 6 rfl
 have h7:=h 7 rfl
 have h8:=h 8 rfl
 have h9:=h 9 rfl
 have h10:=h 10 rfl
 have h11:=h 11 rfl
 have h12:=h 12 rfl
 have h13:=h 13 rfl
 have h14:=h 14 rfl
 have h15:=h 15 rfl
 have h16:=h 16 rfl
 have h17:=h 17 rfl
 cases a;cases b
 rw[Fact.mk.injEq]
 exact⟨hk,h1,hv,hd,hg,h5,h6,h7,h8,h9,h10,h11,h12,h13,h14,h15,h16,h17,ht⟩
theorem pN{a b:Fact}(ha:Ca a=true)(hb:Ca b=true)(hk:a.Kind=b.Kind)(h:Ii a=Ii b):a=b:=by
 obtain⟨a1,a2,a3⟩:=Ls ha
 obtain⟨b1,b2,b3⟩:=Ls hb
 have pa:=L9 ha
 have pb:=L9 hb
 have ka:=Eu ha
 have kb:=Eu hb
 simp only[preB,i0,jk]at pa pb
 have win:∀(f:Fact),(1≤f.Kind∧f.Kind≤11)→(¬f.Version<1∧¬1000000<f.Version∧¬f.Day<0∧¬100000<f.Day)→(∀x∈fieldsOf f.Kind,Oy (G7 f x.off))→∀x∈Pb f,Oy x:=fun f k p q x hx=>by
   unfold Pb at hx
   rcases bt.1 hx with hx|hx
   · simp only[bm,d9,dw]at hx
     rcases hx with rfl|rfl|rfl|rfl
     · exact⟨by omega,by omega⟩
     · exact⟨by omega,by omega⟩
     · exact⟨by omega,by omega⟩
     unfold J2;split<;>exact⟨by omega,by omega⟩
   obtain⟨y,hy,rfl⟩:=br.1 hx
   exact q y hy
 unfold Ii at h
 obtain⟨e1,e2⟩:=O3 (win a ka ⟨pa.1.1.1.1,pa.1.1.1.2,pa.1.1.2,pa.1.2⟩ a2) (win b kb ⟨pb.1.1.1.1,pb.1.1.1.2,pb.1.1.2,pb.1.2⟩ b2) (by unfold Pb;simp[Eh,hk]) h
 unfold Pb at e1
 simp only[eu,d_,List.cons.injEq]at e1
 obtain⟨_,e3,e4,e5,e6⟩:=e1
 refine pM hk e3 e4 ?_ ?_ fun o ho=>?_
 · revert e5
   unfold J2
   cases a.Gone<;>cases b.Gone<;>simp
 · by_cases ht:G1 a.Kind=true
   · rw[bg ht,bg (by rw[←hk];exact ht)]at e2
     unfold bT at e2
     have:=(Rt (fK (by simp;omega)) (fK (by simp;omega)) e2).2
     cases ea:a.Text;cases eb:b.Text
     rw[ea,eb]at this
     exact bh ByteArray.mk (Array.toList_inj.1 this)
   have ht:=fm.2 ht
   exact pL ((a3 ht).trans (b3 (hk▸ht)).symm)
 by_cases hx:∃x∈fieldsOf a.Kind,x.off=o
 · obtain⟨x,hx,rfl⟩:=hx
   unfold Eh at e6
   rw[←hk]at e6
   exact List.map_inj_left.1 e6 x hx
 have hn:∀x∈fieldsOf a.Kind,x.off≠o:=fun x h1 h2=>hx ⟨x,h1,h2⟩
 rw[a1 o ho hn,b1 o ho (hk▸hn)]
theorem Sw{a b:Fact}(ha:Ca a=true)(hb:Ca b=true)(hk:Cj a=Cj b)(h1:Ex a b=false)(h2:Ex b a=false):a=b:=by
 rw[fm]at h1 h2
 have c1:¬(b.Version<a.Version∨(a.Version=b.Version∧0<Go.Lib.compareBytes (Ii a) (Ii b))):=fun c=>h1 (I9.2 ⟨ha,hb,hk,c⟩)
 have c2:¬(a.Version<b.Version∨(b.Version=a.Version∧0<Go.Lib.compareBytes (Ii b) (Ii a))):=fun c=>h2 (I9.2 ⟨hb,ha,hk.symm,c⟩)
 rw[Wv (Ii a) (Ii b)]at c2
 exact pN ha hb (Of ha hb hk) (gO oQ)
def yY(l:List Fact)(d:Int)(f:Fact):Prop:=f∈l∧Cj f≠[]∧f.Day≤d∧∀g∈l,g.Day≤d→Ex g f=false
structure EInv(l:List Fact)(d:Int)(m:Fx):Prop where
 ok:MOk m
 top:∀p∈m,yY l d p.2
 all:∀f∈l,Cj f≠[]→f.Day≤d→Cj f∈m.map (·.1)
theorem Md{a b:Fact}(h:Ex a b=true):Cj a=Cj b:=(I9.1 h).2.2.1
theorem pO{m:Fx}{c:List UInt8}{x:Fact}{p:List UInt8×Fact}(h:p∈Lr m c x):p=(c,x)∨(p∈m∧p.1≠c):=by
 unfold Lr at h
 split at h
 · obtain⟨q,hq,e⟩:=br.1 h
   split at e
   · exact .inl e.symm
   rename_i hc;subst e;exact .inr ⟨hq,hc⟩
 rename_i hn
 rcases bt.1 h with h|h
 · exact .inr ⟨h,fun e=>hn (br.2 ⟨p,h,e⟩)⟩
 exact .inl (bn.1 h)
theorem pP{m:Fx}{c:List UInt8}{x:Fact}{k:List UInt8}(h:k∈m.map (·.1)∨k=c):k∈(Lr m c x).map (·.1):=by
 rw[Vg]
 split
 · rename_i hc;rcases h with h|rfl
   · exact h
   exact hc
 rcases h with h|rfl
 · exact er _ h
 simp
theorem Sx{l:List Fact}{d:Int}{x f:Fact}(h:yY l d f)(hx:x.Day≤d→Ex x f=false):yY (l++[x]) d f:=by
 refine⟨er _ h.1,h.2.1,h.2.2.1,fun g hg hd=>?_⟩
 rcases bt.1 hg with hg|hg
 · exact h.2.2.2 g hg hd
 cases bn.1 hg;exact hx hd
theorem EInv.step{l:List Fact}{d:Int}{m:Fx}(h:EInv l d m)(x:Fact):EInv (l++[x]) d (Dq d m x):=by
 by_cases hc:Cj x=[]∨d<x.Day
 · rw[Pd hc]
   refine⟨h.ok,fun p hp=>Sx (h.top p hp) fun hd=>?_,fun f hf hk hd=>?_⟩
   · rw[fm]
     intro e
     rcases hc with hc|hc
     · exact(h.top p hp).2.1 ((Md e).symm.trans hc)
     omega
   rcases bt.1 hf with hf|hf
   · exact h.all f hf hk hd
   cases bn.1 hf
   rcases hc with hc|hc
   · exact absurd hc hk
   omega
 have hk:Cj x≠[]:=fun e=>hc (.inl e)
 have hd:x.Day≤d:=by
   by_cases hd:x.Day≤d
   · exact hd
   exact absurd (.inr oQ) hc
 have others:∀p∈m,p.1≠Cj x→yY (l++[x]) d p.2:=fun p hp hne=>Sx (h.top p hp) fun _=>by
   rw[fm]
   intro e
   exact hne ((h.ok p hp).1.trans (Md e).symm)
 have put:(∀g∈l,g.Day≤d→Ex g x=false)→EInv (l++[x]) d (Lr m (Cj x) x):=fun hx=>by
   refine⟨h.ok.set (Nk hk),fun p hp=>?_,fun f hf hkf hdf=>?_⟩
   · rcases pO hp with rfl|⟨h1,h2⟩
     · refine⟨by simp,hk,hd,fun g hg hdg=>?_⟩
       rcases bt.1 hg with hg|hg
       · exact hx g hg hdg
       cases bn.1 hg;exact Qa x
     exact others p h1 h2
   refine pP ?_
   rcases bt.1 hf with hf|hf
   · exact .inl (h.all f hf hkf hdf)
   cases bn.1 hf;exact .inr rfl
 cases hg:Sd m (Cj x)with
 |none=>
   rw[Zd hc hg]
   refine put fun g hgl hgd=>?_
   rw[fm]
   intro e
   have e1:=Md e
   have:=h.all g hgl (by rw[e1];exact hk) hgd
   rw[e1]at this
   have hno:=Vf hg
   rw[Mc]at hno
   exact hno this
 |some old=>
   have hmem:∃p∈m,p.1=Cj x∧p.2=old:=by
     unfold Sd at hg
     rw[io]at hg
     obtain⟨p,hp,e⟩:=hg
     have h2:(p.1==Cj x)=true:=kj (p:=fun p:List UInt8×Fact=>p.1==Cj x) hp
     exact⟨p,ja hp,eq_of_beq h2,e⟩
   obtain⟨p,hp,hpk,rfl⟩:=hmem
   cases hq:Ex x p.2 with
   |true=>
     rw[Ze hc hg hq]
     refine put fun g hgl hgd=>?_
     rw[fm]
     intro e
     have:=(h.top p hp).2.2.2 g hgl hgd
     rw[dM e hq]at this
     cases this
   |false=>
     rw[Zf hc hg hq]
     refine⟨h.ok,fun q hq'=>?_,fun f hf hkf hdf=>?_⟩
     · refine Sx (h.top q hq') fun _=>?_
       rw[fm]
       intro e
       have e1:=Md e
       have e2:=(h.ok q hq').1
       have e3:q.1=p.1:=by rw[e2,←e1,hpk]
       have n:=Nl
       by_cases hqp:q.2=p.2
       · rw[hqp,hq]at e;cases e
       exact absurd (Sw (h.ok q hq').2 (h.ok p hp).2 (by rw[←e2,←(h.ok p hp).1,e3]) ((h.top p hp).2.2.2 _ (h.top q hq').1 (h.top q hq').2.2.1) ((h.top q hq').2.2.2 _ (h.top p hp).1 (h.top p hp).2.2.1)) hqp
     rcases bt.1 hf with hf|hf
     · exact h.all f hf hkf hdf
     cases bn.1 hf
     exact br.2 ⟨p,hp,hpk⟩
theorem Zp(l:List Fact)(d:Int):EInv l d (Hg l d):=by
 have key:∀(r l:List Fact)(m:Fx),EInv l d m→EInv (l++r) d (r.foldl (Dq d) m):=by
   intro r
   induction r with
   |nil=>intro l m h;rw[dq];exact h
   |cons x r ih=>intro l m h;have:=ih (l++[x]) _ (h.step x);rwa [c_]at this
 exact key l [] [] ⟨fun p hp=>(by cases hp),fun p hp=>(by cases hp),fun f hf=>(by cases hf)⟩
theorem pQ{l:List Fact}{d:Int}{f:Fact}:f∈Hh (Hg l d)↔yY l d f:=by
 have h:=Zp l d
 rw[I8 h.ok]
 constructor
 · exact fun hf=>h.top _ hf
 intro hf
 obtain⟨p,hp,e⟩:=br.1 (h.all f hf.1 hf.2.1 hf.2.2.1)
 have e:p.1=Cj f:=e
 have hpe:=h.top p hp
 have:p.2=f:=Sw (h.ok p hp).2 (Nk hf.2.1) ((h.ok p hp).1.symm.trans e) (hf.2.2.2 _ hpe.1 hpe.2.2.1) (hpe.2.2.2 _ hf.1 hf.2.2.1)
 rw[←e,←this];exact hp
theorem Wy(l:List Fact)(d:Int):(Hh (Hg l d)).Nodup:=Io (f:=Cj) (by rw[P8 (Zp l d).ok];exact Nl l d)
def tW(m:List (Int×Int))(k:Int):Option Int:=(m.find? fun p=>decide (p.1=k)).map (·.2)
def gP(m:List (Int×Int)):List (Int×Go.Value):=m.map fun p=>(p.1,vi p.2)
def tX(m:List (Int×Int))(k v:Int):List (Int×Int):=if k∈m.map (·.1)then m.map (fun p=>if p.1=k then(k,v)else p)else m++[(k,v)]
def Uc(m:List (Int×Int))(k:Int):Int:=(tW m k).getD k
def pR(m:List (Int×Int))(f:Fact):List (Int×Int):=tX (tX m f.Wafer (Uc m f.Other)) f.Other (Uc m f.Wafer)
def Qm(t:Int)(f:Fact):Bool:=Jk f.Wafer&&Jk f.Other&&decide (f.Time≤t)
def gQ(l:List Fact)(t:Int):List (Int×Int):=(Oe (Qm t) l).foldl pR []
def Pe(l:List Fact)(t mark:Int):Int:=if Jk mark=true then Uc (gQ l t) mark else 0
theorem pS(p:Fact→Bool)(l:List Fact):(Oe p l).length≤l.length:=by
 unfold Oe
 rw[(Gi _).same.length]
 exact dy _ _
theorem Zq(m:List (Int×Int)):(gP m).map (·.1)=m.map (·.1):=by unfold gP;rw[fi];rfl
theorem Zr(m:List (Int×Int))(k v:Int):Hp (gP m) k (vi v)=gP (tX m k v):=by
 unfold Hp tX
 rw[Zq]
 split
 · unfold gP
   rw[fi,fi]
   refine fo fun p _=>?_
   simp only[Function.comp]
   split<;>rfl
 unfold gP
 rw[cm];rfl
theorem pT{m:List (Int×Int)}{k v:Int}(h:tW m k=some v):(k,v)∈m:=by
 unfold tW at h
 cases hf:m.find? (fun p=>decide (p.1=k))with
 |none=>rw[hf]at h;cases h
 |some p=>
   rw[hf]at h
   have h1:p.1=k:=by simpa using kj hf
   have h2:=ja hf
   simp at h
   rw[←h,←h1]
   exact h2
theorem pU{m:List (Int×Int)}{k:Int}(h:tW m k=none):k∉m.map (·.1):=by
 unfold tW at h
 rw[Option.map_eq_none_iff,i_]at h
 intro hm
 obtain⟨p,hp,e⟩:=br.1 hm
 exact h p hp (bj e)
theorem PEv.tY{P:Program}{n:Nat}{ds:List Deferred}{l:Env}{w:World}{d:Option Tmp}{ty:TypeId}{ps:String}{af:Array Edge}{g:Option (Nat×Bool)}{T K E:TypeId}{mo x:Operand}{b:Nat}{k:Int}{m:List (Int×Int)}(hT:P.underlying T=some (.map K E))(hK:P.underlying K=some (.int .i64))(hz:∀w,(zeroValue E).run P w=.ok (vi 0) w)(hm:Val l mo (.map (some b)))(hx:Val l x (vi k))(h:IMap w b (gP m)):
   PEv P n ds l w ⟨d,.lookup T mo x true,ty,ps,af,g⟩ (.tuple #[vi ((tW m k).getD 0),.bool (tW m k).isSome]):=by
 cases hl:tW m k with
 |none=>exact PEv.Nz (ok:=true) hT hK hz hm hx h (by rw[Zq];exact pU hl)
 |some v=>exact PEv.Hr (ok:=true) (v:=vi v) hT hK hm hx h (br.2 ⟨(k,v),pT hl,rfl⟩)
theorem tZ{b:Nat}{kv kv':List (Int×Go.Value)}{w w':World}(h:IMap w' b kv')(k:Fr (· =b) w w'):Stp (H9 b kv) (H9 b kv') w w':=⟨k,h,fun _ h=>.inl h⟩
def J5(wafer time:Int)(best:Option Fact)(f:Fact):Bool:=Jk wafer&&decide (f.Wafer=wafer)&&decide (f.Time≤time)&&(match best with|none=>true|some g=>decide (g.Time<f.Time))
def Wz(wafer time:Int)(best:Option Fact)(f:Fact):Option Fact:=if J5 wafer time best f=true then some f else best
def Fs(l:List Fact)(wafer time:Int):Option Fact:=l.foldl (Wz wafer time) none
def Ib(l:List Fact)(wafer time:Int):Int×Int:=match Fs l wafer time with|none=>(0,0)|some f=>(f.Lot,f.Product)
theorem Hi(l:List Fact)(f:Fact)(wafer time:Int):Fs (l++[f]) wafer time=Wz wafer time (Fs l wafer time) f:=by simp[Fs]
def Og(ad:Option Addr)(k:Nat):Option Nat→Option Addr
 |none=>none
 |some j=>ad.map fun a=>⟨a.block,a.off+j*k,none⟩
def Hn(ps ss:List Fact)(w:Int):List Fact:=if Jk w=true then Oe (fun f=>decide (Pe ss f.Time f.Wafer=w)) ps else[]
structure Cond where
 want:Int
 shift:Int
 is:Int
def Cond.cells(c:Cond):Array Go.Value:=#[vi c.want,vi c.shift,vi c.is]
def Cond.met(c:Cond):Bool:=decide (c.want=0)||(decide (c.is≤c.want)&&decide (IntKind.i64.wrap (c.want-c.shift)=c.is))
def Ip(f:Fact):Bool:=decide (f.Kind=7)
def dO(f:Fact)(t:Int):Bool:=decide (f.Kind=7)&&decide (f.Time≤t)&&decide (t≤f.Until)
def Sy(f:Fact)(rB:List Fact)(wafer time:Int):Bool:=dO f time&&[Cond.mk f.Wafer 0 wafer,Cond.mk f.Lot 0 (Ib rB wafer time).1].all Cond.met
def S1(f:Fact)(rB:List Fact)(a:GAct):Bool:=Sy f rB a.Wafer a.Time&&[Cond.mk f.Tool 1 a.Tool,Cond.mk f.Chamber 1 a.Chamber,Cond.mk f.Step 1 a.Step,Cond.mk f.Recipe 0 a.Recipe,Cond.mk f.Revision 0 a.Revision].all Cond.met
def JI(x y:Int):Int:=IntKind.i64.wrap (BitVec.ofInt 64 x|||BitVec.ofInt 64 y).toNat
def uA(x y:Int):Int:=IntKind.i64.wrap (BitVec.ofInt 64 x&&& ~~~BitVec.ofInt 64 y).toNat
def gR(id time:Int)(acc:Int)(r:Fact):Int:=if(decide (r.Other=id)&&decide (r.Time≤time))=true then JI acc r.Parties else acc
def F6(l:List Fact)(id time:Int):Int:=l.foldl (gR id time) 0
theorem Lt(l:List Fact)(r:Fact)(id time:Int):F6 (l++[r]) id time=gR id time (F6 l id time) r:=by simp[F6]
def wW(f:Fact)(rels:List Fact)(time:Int):Bool:=decide (uA f.Parties (F6 rels f.ID time)=0)
end Go.Wx
namespace Go.Proofs.YthcabjphnacjeaaGreatDoor
open Go.Proofs.Tryz
open Go.Wx Go.RowKit
theorem Pf(cf:Nat)(lb:Array Go.Value)(p:Fact→Bool)(hen:∀args w,(callFunc cf args).run prog w=.ok (.enter cf args) w)(ad:Option Addr)(cp:Nat)(l:List Fact)(w:World)(hE0:Els w ad 19 Fact.cells l)(hl:l.length≤100000)(hp:∀W,Up w W→∀x,Ret prog cf (#[.agg (Fact.cells x)]++lb) W fun r W'=>r=.bool (p x)∧Up W W'):Ret prog 28 #[.slice ad l.length cp,.func (.func cf) #[] lb] w fun r w'=>∃i,r=vi i∧IU p l i∧Up w w':=by
 have hW:=Up.refl w
 obtain⟨w0,rfl,_⟩:=W0 w
 refine cT 19 func28 rfl ?_
 refine Ae (Az (An (Ae (I rfl ?_))))
 refine U (.Cl kz (.t rfl)) ?_
 refine U (.move (.const _)) ?_
 refine Ah (Ai ?_)
 refine A7 (σ:=Nat) (fun s w=>(s≤l.length)∧(∀y∈l.take s,p y=false)∧(Up w0 w)) (fun s=>[(8,.eq (vi (s:Int)))]) ([(0,.eq _),(1,.eq _),(7,.eq _)]) (fun s=>l.length-s) 0 ?_ tQ ?_
 ·exact⟨a_ _,by simp,hW⟩
 rintro k w1 ⟨hk,hn,hW⟩
 refine Ae ?_
 refine U (.l2 rfl rfl) ?_
 refine An ?_
 refine CW.b rfl (fun h9=>?_) (fun h9=>?_)
 ·replace h9:=dQ h9
  refine Aj (Ab (Ak (Ai (Ae (I rfl (LW.A rfl (An ?_)))))))
  have hE:=Els.up hE0 hW
  refine Aa (I rfl (I rfl (I rfl ?_)))
  obtain⟨x,hx⟩:=Af (xs:=l) (i:=k) oQ
  obtain⟨Bx,ox,ax,hcx⟩:=hE _ x hx
  refine U (.Ao kz k7 (.t rfl) (.t rfl) oQ ax) ?_
  refine U (.lc rfl (hcx)) ?_
  refine A3 (Cs (.t rfl) (.cu rfl) (hen)) rfl (hp _ hW x) ?_
  rintro _ w2 ⟨rfl,uw2⟩
  have zw2:=uw2.size
  replace hW:=hW.up uw2
  replace hcx:=hcx.up uw2
  refine Ah ?_
  refine CW.b rfl (fun h16=>?_) (fun h16=>?_)
  ·replace h16:=dQ h16
   refine Ae (I rfl (LW.A rfl (Ah (Am (A6 (Au (Au (A6 (Au ?_)))))))))
   refine KW.q ?_
   first|exact⟨_,rfl,.inl ⟨k,x,rfl,hx,by simpa using h16,hn⟩,hW⟩|exact⟨_,rfl,.inr ⟨rfl,by rw[show k=l.length by omega,b7]at hn;exact hn⟩,hW⟩
  replace h16:=dQ h16
  refine Aj (Al (Ab (Aa ?_)))
  refine U (.ic rfl oQ) ?_
  refine I rfl (LW.nil (Av ?_))
  exact⟨k+1,⟨by omega,kN hx hn (by simpa using h16),hW⟩,tQ,by first|omega|(dsimp only;omega)⟩
 replace h9:=dQ h9
 refine A9 (Ac (Ac (Aq (Ab (Ae (Az (Ah (Am ?_))))))))
 refine KW.q ?_
 first|exact⟨_,rfl,.inl ⟨k,x,rfl,hx,by simpa using h16,hn⟩,hW⟩|exact⟨_,rfl,.inr ⟨rfl,by rw[show k=l.length by omega,b7]at hn;exact hn⟩,hW⟩
theorem Vj(cf:Nat)(lb:Array Go.Value)(p:Fact→Bool)(hen:∀args w,(callFunc cf args).run prog w=.ok (.enter cf args) w)(ad:Option Addr)(cp:Nat)(l:List Fact)(w:World)(hE0:Els w ad 19 Fact.cells l)(hl:l.length≤100000)(hp:∀W,Up w W→∀x,Ret prog cf (#[.agg (Fact.cells x)]++lb) W fun r W'=>r=.bool (p x)∧Up W W'):Ret prog 149 #[.slice ad l.length cp,.func (.func cf) #[] lb] w fun r w'=>r=.tuple #[.agg ((l.find? p).getD Jj).cells,.bool (l.find? p).isSome]∧Up w w':=by
 obtain⟨w0,rfl,hS⟩:=W0 w
 refine cT 18 func149 rfl (Ae (Ap (.Cb lg) rfl ?_))
 rintro _ w1 ⟨B4,rfl,NB4⟩
 replace hS:=hS.Cf NB4
 refine Az (An (Ae (I rfl (I rfl (A3 (eC (.u rfl rfl) (xI)) rfl (Pf cf lb p hen ad cp l _ (Els.up hE0 hS.Ch) hl (fun W u x=>hp W (hS.Ch.trans u) x)) ?_)))))
 rintro _ w2 ⟨i,rfl,hi,uw2⟩
 replace hS:=hS.up uw2
 refine LW.A rfl (An (Aa (I rfl (U (.geq (.t rfl) (.const _)) (Ah (CW.b rfl (fun h12=>?_) (fun h12=>?_)))))))
 ·replace h12:=dQ h12
  refine Ak ?_
  obtain⟨k,x,rfl,hx,hpx,hn⟩:=hi.resolve_right (fun⟨e,_⟩=>by omega)
  rw[tS hx hn hpx]
  obtain⟨Bx,ox,ax,hcx⟩:=(Els.up hE0 hS.Ch) k x hx
  have hkl:=(ak.1 hx).1
  refine Aa (I rfl (I rfl (U (.Ao kz k7 (.t rfl) (.t rfl) oQ ax) (U (.lc rfl (hcx)) (Ce (.Cc k7 rfl (.t rfl) (.t rfl) eQ hS.b0 rfl) ?_)))))
  intro w3 Nw3
  replace hS:=hS.Ec 0 rfl Nw3
  refine Az (Ah (Am (Au (St rfl rfl rfl nu k7 rfl (hS.b0).agg ⟨_,rfl,?_⟩))))
  exact⟨rfl,hS.Ch⟩
 replace h12:=dQ h12
 refine Aj (Ab (Ak ?_))
 have hn:=(hi.resolve_left (fun⟨k,x,e,_⟩=>by omega)).2
 rw[tT hn]
 refine Aa (Ap (.Cb lg) rfl ?_)
 rintro _ w4 ⟨B7,rfl,NB7⟩
 replace hS:=hS.Cf NB7
 refine An (Aa (U (.lc rfl (hS.b1.agg)) (Ce (.Cc k7 rfl (.t rfl) (.t rfl) eQ hS.b0 rfl) ?_)))
 intro w5 Nw5
 replace hS:=hS.Ec 0 rfl Nw5
 refine Az (Ah (Am (St rfl rfl rfl nu k7 rfl (hS.b0).agg ⟨_,rfl,?_⟩)))
 exact⟨rfl,hS.Ch⟩
theorem Jl{xs ys:Array Go.Value}{i:Nat}{is:List Nat}{x y:Int}{r:Bool}{w:World}(hx:xs[i]?=some (vi x))(hy:ys[i]?=some (vi y))(h:(Op.eqItems 9999 3 1 xs ys is).run prog w=.ok r w):(Op.eqItems 9999 3 1 xs ys (i::is)).run prog w=.ok ((x==y)&&r) w:=by
 have px:(part 3 xs (i*1)).run prog w=.ok (vi x) w:=by simp[part,isAgg,run_underlying k9,hx]
 have py:(part 3 ys (i*1)).run prog w=.ok (vi y) w:=by simp[part,isAgg,run_underlying k9,hy]
 have pe:(Op.equalIn 9999 3 (vi x) (vi y)).run prog w=.ok (x==y) w:=run_equalIn_int w 9998 _ _ _ _ _ k9
 simp only[Op.eqItems,Sem.run_bind,px,py,pe,Result.andThen_ok]
 cases hb:(x==y)<;>simp[h]
theorem Zt(a b c e a' b' c' e':Int)(w:World):(Op.equalIn 10000 272 (.agg #[vi a,vi b,vi c,vi e]) (.agg #[vi a',vi b',vi c',vi e'])).run prog w=.ok (a==a'&&(b==b'&&(c==c'&&(e==e'&&true)))) w:=by
 have hc:Tryz.prog.cellsOf 3=1:=by kernel_rfl
 rw[run_equalIn_array w 9999 _ _ underlying272 (show Tryz.prog.info? 3=some Tryz.t3 from by kernel_rfl),hc]
 exact Jl rfl rfl (Jl rfl rfl (Jl rfl rfl (Jl rfl rfl (by simp[Op.eqItems]))))
theorem S2(f:Fact)(a c r v t:Int)(B B':Nat)(w:World)(hB:Blk w B #[vi a,vi c,vi r,vi v] 272)(hB':Blk w B' #[vi t] 3):Ret prog 222 #[.agg f.cells,.pointer (some ⟨B,0,none⟩),.pointer (some ⟨B',0,none⟩)] w fun r0 w'=>r0=.bool (gN a c r v t f)∧Up w w':=by
 have hW:=Up.refl w
 obtain⟨w0,rfl,_⟩:=W0 w
 refine cT 28 func222 rfl ?_
 refine Ae ?_
 refine Ap (.bA rfl) rfl ?_
 rintro _ w1 ⟨B3,rfl,NB3⟩
 have eB3:=NB3.at_
 have zB3:=NB3.size
 replace hW:=hW.up NB3.up
 have hB3:=NB3.blk
 refine Az (An (Aa ?_))
 refine U (.fB 11 rfl) ?_
 refine U (.lb rfl (hB3.Ad rfl)) ?_
 refine U (.fB 12 rfl) ?_
 refine U (.lb rfl (hB3.Ad rfl)) ?_
 refine U (.fB 14 rfl) ?_
 refine U (.lb rfl (hB3.Ad rfl)) ?_
 refine U (.fB 15 rfl) ?_
 refine U (.lb rfl (hB3.Ad rfl)) ?_
 refine U (.I7 (cs:=#[vi f.Tool,vi f.Chamber,vi f.Recipe,vi f.Revision]) underlying272 zeroValue272 k6 (.ct rfl (.ct rfl (.ct rfl (.cu rfl)))) rfl) ?_
 refine U (.lc rfl ((hB.up hW).agg)) ?_
 refine U (.xD eqGuardType272 (Zt _ _ _ _ _ _ _ _) (.t rfl) (.t rfl)) ?_
 refine I rfl ?_
 refine LW.gr rfl (fun hc=>PEv.fB 5 rfl) ?_
 refine LW.gr rfl (fun hc=>PEv.load lv vQ (hB3.Ad rfl)) ?_
 refine LW.gr rfl (fun hc=>PEv.lb rfl ((hB'.up hW).Ad rfl)) ?_
 refine LW.gr rfl (fun hc=>PEv.leq vQ vQ) ?_
 refine U (.pa rfl (fun hp=>(by first|exact .const _|exact .tmp rfl|exact .cond rfl (by first|assumption|simp_all)))) ?_
 refine I rfl ?_
 refine LW.gr rfl (fun hc=>PEv.lb rfl ((hB'.up hW).Ad rfl)) ?_
 refine LW.gr rfl (fun hc=>PEv.fB 6 rfl) ?_
 refine LW.gr rfl (fun hc=>PEv.load lv vQ (hB3.Ad rfl)) ?_
 refine LW.gr rfl (fun hc=>PEv.leq vQ vQ) ?_
 refine U (.pa rfl (fun hp=>(by first|exact .const _|exact .tmp rfl|exact .cond rfl (by first|assumption|simp_all)))) ?_
 refine LW.A rfl (Ah (Am ?_))
 refine KW.q ?_
 exact⟨bh Go.Value.bool (by first|rfl|(unfold gN;split<;>simp_all)),hW⟩
theorem Ud(bc:Array Go.Value)(b:Base)(a c r v t:Int)(w:World)(hC:BaseC w bc b)(hl:b.Qualified.length≤100000):Ret prog 173 #[.agg bc,vi a,vi c,vi r,vi v,vi t] w fun r0 w'=>r0=.bool (Fp b a c r v t)∧Up w w':=by
 obtain⟨w0,rfl,hS⟩:=W0 w
 obtain⟨v5,h5,hr5⟩:=hC.JO
 obtain⟨ad,cp,rfl,hE0⟩:=hr5
 refine cT 29 func173 rfl ?_
 refine Ae ?_
 refine Ap (.bA rfl) rfl ?_
 rintro _ w1 ⟨B6,rfl,NB6⟩
 have eB6:=NB6.at_
 have zB6:=NB6.size
 replace hS:=hS.Cf NB6
 change Wx.Sep _ _ _ [_]at hS
 refine Ap (.O0 (.t rfl) rfl) rfl ?_
 rintro _ w2 ⟨B11,rfl,NB11⟩
 have eB11:=NB11.at_
 have zB11:=NB11.size
 replace hS:=hS.Cf NB11
 change Wx.Sep _ _ _ [_,_]at hS
 refine Az (An (Aa (I rfl (I rfl (I rfl (I rfl ?_))))))
 refine U (.I7 (cs:=#[vi a,vi c,vi r,vi v]) underlying272 zeroValue272 k6 (.ct rfl (.ct rfl (.ct rfl (.cu rfl)))) rfl) ?_
 refine Ap (.Cb zeroValue272) rfl ?_
 rintro _ w3 ⟨B13,rfl,MB13⟩
 refine Ce (.Cc sizeOf272 rfl (.t rfl) (.t rfl) eQ MB13.blk rfl) ?_
 intro w4 LB13
 have NB13:=MB13.set LB13
 clear LB13 MB13
 have eB13:=NB13.at_
 have zB13:=NB13.size
 replace hS:=hS.Cf NB13
 change Wx.Sep _ _ _ [_,_,_]at hS
 refine An (Aa ?_)
 refine U (.fB 5 rfl) ?_
 refine U (.lb rfl (hS.b0.cell h5)) ?_
 refine U (.makeFunc (.ct rfl (.cu rfl))) ?_
 refine A3 (eC (.u rfl rfl) (vV)) rfl (Vj 222 #[.pointer (some ⟨B13,0,none⟩),.pointer (some ⟨B11,0,none⟩)] (gN a c r v t) EA ad cp b.Qualified _ (Els.up hE0 hS.Ch) hl (fun W u x=>S2 x a c r v t B13 B11 W (hS.b2.up u) (hS.b1.up u))) ?_
 rintro _ w5 ⟨rfl,uw5⟩
 have zw5:=uw5.size
 replace hS:=hS.up uw5
 refine I rfl (U (.xt rfl rfl) (U (.xt rfl rfl) ?_))
 refine Ap (.Cb lg) rfl ?_
 rintro _ w6 ⟨B14,rfl,MB14⟩
 refine Ce (.Cc k7 rfl (.t rfl) (.t rfl) eQ MB14.blk rfl) ?_
 intro w7 LB14
 have NB14:=MB14.set LB14
 clear LB14 MB14
 have eB14:=NB14.at_
 have zB14:=NB14.size
 replace hS:=hS.Cf NB14
 change Wx.Sep _ _ _ [_,_,_,_]at hS
 refine LW.A rfl (An (Aa (I rfl (LW.A rfl (Ah (Am ?_))))))
 refine KW.q ?_
 exact⟨rfl,hS.Ch⟩
theorem W5(a b:Fact)(w:World):Ret prog 164 #[.agg a.cells,.agg b.cells] w fun r w'=>r=vi (Y6 (Ga a) (Ga b))∧Up w w':=by
 have hW:=Up.refl w
 refine cT 17 func164 rfl (Ae (Ap (.bA rfl) rfl ?_))
 rintro _ w1 ⟨B2,rfl,NB2⟩
 replace hW:=hW.up NB2.up
 have hB2:=NB2.blk
 refine Ap (.bA rfl) rfl ?_
 rintro _ w2 ⟨B3,rfl,NB3⟩
 replace hW:=hW.up NB3.up
 replace hB2:=hB2.up NB3.up
 have hB3:=NB3.blk
 refine Az (An (L3 11 [.eq (.pointer (some ⟨B2,5,none⟩)),.eq (vi (Ga a).1),.eq (.pointer (some ⟨B3,5,none⟩)),.eq (vi (Ga b).1),.eq (vi (Ks (Ga a).1 (Ga b).1)),.eq (.pointer (some ⟨B2,1,none⟩)),.eq (vi (Ga a).2),.eq (.pointer (some ⟨B3,1,none⟩)),.eq (vi (Ga b).2),.eq (vi (Ks (Ga a).2 (Ga b).2)),.pred (fun v w=>SlT 3 w v 1 A4 [Ks (Ga a).1 (Ga b).1,Ks (Ga a).2 (Ga b).2])] [15] kQ rfl kQ kQ kQ kQ kQ kQ kQ ⟨n9,n9,n9,n9,n9,n9,n9,n9,n9,n9,PhU.pred fun _ _ _ h u=>SlT.G0 h u.G0,trivial⟩ ?_ ?_))
 ·intro W hU0
  have hU:=(Up.drew w2).trans hU0
  refine aC ⟨rfl,TU.p (.fB 5 rfl) rfl⟩ (aC ⟨rfl,TU.p (.lb rfl ((hB2.up hU).Ad rfl)) rfl⟩ (aC ⟨rfl,TU.p (.fB 5 rfl) rfl⟩ (aC ⟨rfl,TU.p (.lb rfl ((hB3.up hU).Ad rfl)) rfl⟩ (aC ⟨rfl,TU.c (eC (.u rfl rfl) (rY)) (Kt _ _ _) sQ⟩ (aC ⟨rfl,TU.p (.fB 1 rfl) rfl⟩ (aC ⟨rfl,TU.p (.lb rfl ((hB2.up hU).Ad rfl)) rfl⟩ (aC ⟨rfl,TU.p (.fB 1 rfl) rfl⟩ (aC ⟨rfl,TU.p (.lb rfl ((hB3.up hU).Ad rfl)) rfl⟩ (aC ⟨rfl,TU.c (eC (.u rfl rfl) (rY)) (Kt _ _ _) sQ⟩ (aC ⟨rfl,TU.r (REv.buildSlice (xs:=[Ks (Ga a).1 (Ga b).1,Ks (Ga a).2 (Ga b).2]) (enc:=A4) (mk:=vi) ky k6 lf rfl cQ (fun _=>rfl) (fun _=>rfl) (.ct rfl (.cu rfl)) rfl) (by rintro _ W1 ⟨B,c,rfl,N,y,x⟩;exact⟨N.up,SlT.lit ⟨B,c,rfl,N,y,x⟩⟩)⟩ ?_))))))))))
  exact allL.nil
 intro w3 g hU0 hg
 have hU:=(Up.drew w2).trans hU0
 replace hW:=hW.up hU
 replace hB2:=hB2.up hU
 replace hB3:=hB3.up hU
 obtain⟨⟨ad,cp,e15,hE⟩,_⟩:=hg 10 _ 15 cQ rfl rfl
 change LW _ _ _ _ _ _ _ _ ((15,.eq (g 15))::_) _
 rw[e15]
 refine A3 (eC (.o rfl) (BB)) rfl (pA ad cp _ _ hE (by simp)) ?_
 rintro _ w4 ⟨rfl,uw4⟩
 replace hW:=hW.up uw4
 replace hB2:=hB2.up uw4
 replace hB3:=hB3.up uw4
 refine LW.A rfl (Ah (Am (KW.q ?_)))
 exact⟨rfl,hW⟩
theorem uC(x:Fact)(w:World):Ret prog 162 #[.agg x.cells] w fun r w'=>r=.agg x.cells∧Up w w':=by
 have hW:=Up.refl w
 refine cT 4 func162 rfl (Ae (Ap (.bA rfl) rfl ?_))
 rintro _ w1 ⟨B1,rfl,NB1⟩
 have eB1:=NB1.at_
 have zB1:=NB1.size
 replace hW:=hW.up NB1.up
 have hB1:=NB1.blk
 refine Ap (.Cb zeroValue218) rfl ?_
 rintro _ w2 ⟨B2,rfl,NB2⟩
 have eB2:=NB2.at_
 replace hW:=hW.up NB2.up
 replace hB1:=hB1.up NB2.up
 have hB2:=NB2.blk
 refine An (Aa (U (.lc rfl (hB1.agg)) (Ce (.Cc nw rfl (.t rfl) (.t rfl) (Fact.one _) hB2 rfl) ?_)))
 intro w3 Nw3
 replace hW:=hW.sto Nw3.sto oQ
 replace hB1:=hB1.sto Nw3.sto oQ
 replace hB2:=Nw3.blk
 replace hB2:Blk w3 B2 x.cells _:=hB2
 refine Ah (Am (Fb rfl rfl isAgg218 nw rfl (hB2.agg) ⟨_,rfl,?_⟩))
 exact⟨rfl,hW⟩
theorem uD(x:Fact)(w:World):Ret prog 166 #[.agg x.cells] w fun r w'=>r=.agg x.cells∧Up w w':=by
 have hW:=Up.refl w
 refine cT 4 func166 rfl (Ae (Ap (.bA rfl) rfl ?_))
 rintro _ w1 ⟨B1,rfl,NB1⟩
 have eB1:=NB1.at_
 have zB1:=NB1.size
 replace hW:=hW.up NB1.up
 have hB1:=NB1.blk
 refine Ap (.Cb lg) rfl ?_
 rintro _ w2 ⟨B2,rfl,NB2⟩
 have eB2:=NB2.at_
 replace hW:=hW.up NB2.up
 replace hB1:=hB1.up NB2.up
 have hB2:=NB2.blk
 refine An (Aa (U (.lc rfl (hB1.agg)) (Ce (.Cc k7 rfl (.t rfl) (.t rfl) (Fact.one _) hB2 rfl) ?_)))
 intro w3 Nw3
 replace hW:=hW.sto Nw3.sto oQ
 replace hB1:=hB1.sto Nw3.sto oQ
 replace hB2:=Nw3.blk
 replace hB2:Blk w3 B2 x.cells _:=hB2
 refine Ah (Am (Fb rfl rfl nu k7 rfl (hB2.agg) ⟨_,rfl,?_⟩))
 exact⟨rfl,hW⟩
theorem kR(x:Fact)(w:World):Ret prog 167 #[.agg x.cells] w fun r w'=>r=.bool true∧Up w w':=by
 have hW:=Up.refl w
 refine cT 3 func167 rfl (Ae (Ap (.bA rfl) rfl ?_))
 rintro _ w1 ⟨B1,rfl,NB1⟩
 replace hW:=hW.up NB1.up
 have hB1:=NB1.blk
 refine Az (An (Aa (Az (Ah (Am (KW.q ?_))))))
 exact⟨rfl,hW⟩
theorem pV(pf:Nat)(lb:Array Go.Value)(p:Fact→Bool)(hen:∀args w,(callFunc pf args).run prog w=.ok (.enter pf args) w)(ad:Option Addr)(cp:Nat)(l:List Fact)(w:World)(hE0:Els w ad 19 Fact.cells l)(hl:l.length≤1000000000)(hp:∀W,Up w W→∀x∈l,Ret prog pf (#[.agg x.cells]++lb) W fun r W'=>r=.bool (p x)∧Up W W'):Ret prog 161 #[.slice ad l.length cp,.func (.func 162) #[] #[],.func (.func pf) #[] lb] w fun r w'=>OwnS w' w.heap.size 218 19 Fact.cells r (l.filter p)∧Up w w':=by
 obtain⟨w0,rfl,hS⟩:=W0 w
 refine cT 27 func161 rfl (Ae (Az (An (Aa (Az (An (Ak ?_)))))))
 replace hS:=hS.add (Up.refl _) (A':=Aw 218 19 Fact.cells (.slice none 0 0) ([]:List Fact)) (OwnS.nil _ _ _ _ _) (fun i h=>by cases h)
 refine Aa (I rfl (U (.Cl kz (.t rfl)) (U (.move (.const _)) (Ah (Ai (A7 (σ:=Nat×Go.Value) (fun s w=>(s.1≤l.length)∧(Wx.Sep no w0 w [Aw 218 19 Fact.cells s.2 ((l.take s.1).filter p)])) (fun s=>[(12,.eq (vi (s.1:Int))),(7,.eq (s.2))]) ([(1,.eq _),(2,.eq _),(6,.eq _),(10,.eq _),(11,.eq _)]) (fun s=>l.length-s.1) (0,.slice none 0 0) ?_ tQ ?_))))))
 ·exact⟨a_ _,hS⟩
 rintro⟨k,v⟩ w1 ⟨hk,hS⟩
 change CW _ _ _ _ _ _ _ ([(12,.eq (vi (k:Int))),(7,.eq (v))]++_) _
 refine Ae (U (.l2 rfl rfl) (An (CW.b rfl (fun h13=>?_) (fun h13=>?_))))
 ·replace h13:=dQ h13
  refine Aj (Ab (Ak (Ai (Ak ?_))))
  have hE:=hE0.up hS.Ch
  refine Aa ?_
  obtain⟨x,hx⟩:=Af (xs:=l) (i:=k) oQ
  obtain⟨Bx,ox,ax,hcx⟩:=hE _ x hx
  refine U (.Ao kz k7 (.t rfl) (.t rfl) oQ ax) (U (.lc rfl (hcx)) (Ap (.Cb lg) rfl ?_))
  rintro _ w2 ⟨B9,rfl,MB9⟩
  refine Ce (.Cc k7 rfl (.t rfl) (.t rfl) (Fact.one _) MB9.blk rfl) ?_
  intro w3 LB9
  have NB9:=MB9.set LB9
  replace hcx:=hcx.up NB9.up
  replace hS:=hS.Cf NB9
  refine An (Aa (I rfl (U (.lc rfl (hS.b1.agg)) (A3 (Cs (.t rfl) (.cu rfl) (hen)) rfl (hp _ hS.Ch x (ai hx)) ?_))))
  rintro _ w4 ⟨rfl,uw4⟩
  replace hS:=hS.up uw4
  refine Ah (CW.b rfl (fun h18=>?_) (fun h18=>?_))
  ·replace h18:=dQ h18
   have hfl:=Zm p l k
   refine Aa (I rfl (I rfl (U (.lc rfl (hS.b1.agg)) (A3 (El (.t rfl) (.cu rfl) (CR)) rfl (uC _ _) ?_))))
   rintro _ w5 ⟨rfl,uw5⟩
   replace hS:=hS.up uw5
   refine Ap (.buildSlice (xs:=[x]) (enc:=Fact.cells) (mk:=fun f:Fact=>.agg f.cells) nq nw zeroValue218 rfl cQ (fun _=>rfl) (fun _=>rfl) (.cu rfl) rfl) rfl ?_
   rintro _ w6 ⟨B23,cB23,rfl,NB23,yB23,xB23⟩
   replace hS:=hS.up NB23.up
   have hE23:=xB23
   refine Ap (.Df (enc:=Fact.cells) (bytes:=160) (i:=Tryz.t218) nq kQ rfl rfl rfl rfl cQ (fun _=>rfl) Fact.one (.t rfl) (.t rfl) (hS.own 0 rfl) (Ay hE23) (by have:=hfl;simp[maxLen];omega) (by have:=hfl;simp;omega)) rfl ?_
   intro v24 w7 Gw7
   replace hS:=hS.Ft 0 rfl Gw7
   refine LW.A rfl (LW.nil (Al (Ab (Aa (U (.ic rfl oQ) (I rfl (LW.nil (Av ?_))))))))
   exact⟨(k+1,v24),⟨by show k+1≤_;omega,by(rw[pI hx h18];exact hS.take 1)⟩,tQ,by show l.length-(k+1)<l.length-k;omega⟩
  replace h18:=dQ h18
  refine Aj (Al (Ab (Aa (U (.ic rfl oQ) (I rfl (LW.nil (Av ?_)))))))
  exact⟨(k+1,v),⟨by show k+1≤_;omega,by(rw[wV hx h18];exact hS.take 1)⟩,tQ,by show l.length-(k+1)<l.length-k;omega⟩
 replace h13:=dQ h13
 refine A9 (Ac (Ac (Aq (Ab (Ae (I rfl (LW.A rfl (Ah (Am (KW.q ?_))))))))))
 have hkl:k=l.length:=by omega
 rw[hkl,b7]at hS
 exact⟨Su hS,hS.Ch⟩
theorem pW(pf:Nat)(lb:Array Go.Value)(p:Fact→Bool)(hen:∀args w,(callFunc pf args).run prog w=.ok (.enter pf args) w)(ad:Option Addr)(cp:Nat)(l:List Fact)(w:World)(hE0:Els w ad 19 Fact.cells l)(hl:l.length≤1000000000)(hp:∀W,Up w W→∀x∈l,Ret prog pf (#[.agg x.cells]++lb) W fun r W'=>r=.bool (p x)∧Up W W'):Ret prog 165 #[.slice ad l.length cp,.func (.func 166) #[] #[],.func (.func pf) #[] lb] w fun r w'=>OwnS w' w.heap.size 47 19 Fact.cells r (l.filter p)∧Up w w':=by
 obtain⟨w0,rfl,hS⟩:=W0 w
 refine cT 27 func165 rfl (Ae (Az (An (Aa (Az (An (Ak ?_)))))))
 replace hS:=hS.add (Up.refl _) (A':=Aw 47 19 Fact.cells (.slice none 0 0) ([]:List Fact)) (OwnS.nil _ _ _ _ _) (fun i h=>by cases h)
 refine Aa (I rfl (U (.Cl nq (.t rfl)) (U (.move (.const _)) (Ah (Ai (A7 (σ:=Nat×Go.Value) (fun s w=>(s.1≤l.length)∧(Wx.Sep no w0 w [Aw 47 19 Fact.cells s.2 ((l.take s.1).filter p)])) (fun s=>[(12,.eq (vi (s.1:Int))),(7,.eq (s.2))]) ([(1,.eq _),(2,.eq _),(6,.eq _),(10,.eq _),(11,.eq _)]) (fun s=>l.length-s.1) (0,.slice none 0 0) ?_ tQ ?_))))))
 ·exact⟨a_ _,hS⟩
 rintro⟨k,v⟩ w1 ⟨hk,hS⟩
 change CW _ _ _ _ _ _ _ ([(12,.eq (vi (k:Int))),(7,.eq (v))]++_) _
 refine Ae (U (.l2 rfl rfl) (An (CW.b rfl (fun h13=>?_) (fun h13=>?_))))
 ·replace h13:=dQ h13
  refine Aj (Ab (Ak (Ai (Ak ?_))))
  have hE:=hE0.up hS.Ch
  refine Aa ?_
  obtain⟨x,hx⟩:=Af (xs:=l) (i:=k) oQ
  obtain⟨Bx,ox,ax,hcx⟩:=hE _ x hx
  refine U (.Ao nq nw (.t rfl) (.t rfl) oQ ax) (U (.lc rfl (hcx)) (Ap (.Cb zeroValue218) rfl ?_))
  rintro _ w2 ⟨B9,rfl,MB9⟩
  refine Ce (.Cc nw rfl (.t rfl) (.t rfl) (Fact.one _) MB9.blk rfl) ?_
  intro w3 LB9
  have NB9:=MB9.set LB9
  replace hcx:=hcx.up NB9.up
  replace hS:=hS.Cf NB9
  refine An (Aa (I rfl (U (.lc rfl (hS.b1.agg)) (A3 (Cs (.t rfl) (.cu rfl) (hen)) rfl (hp _ hS.Ch x (ai hx)) ?_))))
  rintro _ w4 ⟨rfl,uw4⟩
  replace hS:=hS.up uw4
  refine Ah (CW.b rfl (fun h18=>?_) (fun h18=>?_))
  ·replace h18:=dQ h18
   have hfl:=Zm p l k
   refine Aa (I rfl (I rfl (U (.lc rfl (hS.b1.agg)) (A3 (El (.t rfl) (.cu rfl) (CV)) rfl (uD _ _) ?_))))
   rintro _ w5 ⟨rfl,uw5⟩
   replace hS:=hS.up uw5
   refine Ap (.buildSlice (xs:=[x]) (enc:=Fact.cells) (mk:=fun f:Fact=>.agg f.cells) kz k7 lg rfl cQ (fun _=>rfl) (fun _=>rfl) (.cu rfl) rfl) rfl ?_
   rintro _ w6 ⟨B23,cB23,rfl,NB23,yB23,xB23⟩
   replace hS:=hS.up NB23.up
   have hE23:=xB23
   refine Ap (.Df (enc:=Fact.cells) (bytes:=160) (i:=Tryz.t47) kz kQ rfl rfl rfl rfl cQ (fun _=>rfl) Fact.one (.t rfl) (.t rfl) (hS.own 0 rfl) (Ay hE23) (by have:=hfl;simp[maxLen];omega) (by have:=hfl;simp;omega)) rfl ?_
   intro v24 w7 Gw7
   replace hS:=hS.Ft 0 rfl Gw7
   refine LW.A rfl (LW.nil (Al (Ab (Aa (U (.ic rfl oQ) (I rfl (LW.nil (Av ?_))))))))
   exact⟨(k+1,v24),⟨by show k+1≤_;omega,by(rw[pI hx h18];exact hS.take 1)⟩,tQ,by show l.length-(k+1)<l.length-k;omega⟩
  replace h18:=dQ h18
  refine Aj (Al (Ab (Aa (U (.ic rfl oQ) (I rfl (LW.nil (Av ?_)))))))
  exact⟨(k+1,v),⟨by show k+1≤_;omega,by(rw[wV hx h18];exact hS.take 1)⟩,tQ,by show l.length-(k+1)<l.length-k;omega⟩
 replace h13:=dQ h13
 refine A9 (Ac (Ac (Aq (Ab (Ae (I rfl (LW.A rfl (Ah (Am (KW.q ?_))))))))))
 have hkl:k=l.length:=by omega
 rw[hkl,b7]at hS
 exact⟨Su hS,hS.Ch⟩
theorem J6(n:Int)(w:World):Ret prog 83 #[vi n] w fun r w'=>r=.bool (Jk n)∧Up w w':=by
 have hW:=Up.refl w
 refine cT 9 func83 rfl (Ae (Az (An (Aa (I rfl (U (.geq (.t rfl) (.const _)) (I rfl (G6 rfl rfl (LW.gr rfl (fun hc=>PEv.leq vQ (.const _)) (U (.pa rfl (fun hp=>(by exact .cond rfl (by simp_all)))) (LW.A rfl (Ah (Am (KW.q ?_))))))))))))))
 exact⟨rfl,hW⟩
theorem W6(b:Nat)(m:List (Int×Int))(mark:Int)(w:World)(hM:IMap w b (gP m)):Ret prog 85 #[.map (some b),vi mark] w fun r w'=>r=vi (Uc m mark)∧Up w w':=by
 have hW:=Up.refl w
 refine cT 16 func85 rfl (Ae (Az (An (Ae (I rfl (I rfl (U (.tY underlying151 k9 lf (.t rfl) (.t rfl) hM) (I rfl (U (.xt rfl rfl) (U (.xt rfl rfl) (LW.A rfl (LW.A rfl (An (Aa (I rfl (Ah (CW.b rfl (fun h13=>?_) (fun h13=>?_))))))))))))))))))
 ·obtain⟨v,hv⟩:=fu.1 h13
  refine Ae (I rfl (LW.A rfl (Ah (Am (Au (KW.q ?_))))))
  exact⟨by unfold Uc;rw[hv];rfl,hW⟩
 have hv:tW m mark=none:=by simpa using h13
 refine Aj (Ab (Ae (I rfl (LW.A rfl (Ah (Am (KW.q ?_)))))))
 exact⟨by unfold Uc;rw[hv];rfl,hW⟩
theorem dP(f:Fact)(Bm b:Nat)(m:List (Int×Int))(w:World)(hB:Blk w Bm #[.map (some b)] 151)(hM:IMap w b (gP m)):Ret prog 159 #[.agg f.cells,.pointer (some ⟨Bm,0,none⟩)] w fun r w'=>r=.tuple #[]∧Stp (H9 b (gP m)) (H9 b (gP (pR m f))) w w':=by
 have hW:=Up.refl w
 refine cT 19 func159 rfl (Ae (Ap (.bA rfl) rfl ?_))
 rintro _ w1 ⟨B2,rfl,NB2⟩
 replace hB:=hB.up NB2.up
 replace hM:=hM.up NB2.up
 replace hW:=hW.up NB2.up
 have hB2:=NB2.blk
 refine Ah (cM 18 b 14 15 16 17 13 9 17 18 3 5 12 6 8 16 [.eq (.map (some b)),.eq (.pointer (some ⟨B2,7,none⟩)),.eq (vi (f.Wafer)),.eq (.map (some b)),.eq (.pointer (some ⟨B2,8,none⟩)),.eq (vi (f.Other)),.eq (.map (some b)),.eq (.pointer (some ⟨B2,8,none⟩)),.eq (vi (f.Other)),.eq (vi (Uc m f.Other)),.eq (.map (some b)),.eq (.pointer (some ⟨B2,7,none⟩)),.eq (vi (f.Wafer)),.eq (vi (Uc m f.Wafer)),.pred fun _ _=>True,.pred fun _ _=>True,.eq undef,.eq undef] (k1:=f.Wafer) (k2:=f.Other) (v1:=vi (Uc m f.Other)) (v2:=vi (Uc m f.Wafer)) underlying151 k9 lf kQ rfl kQ kQ kQ kQ kQ kQ kQ kQ kQ ⟨_,_,_,rfl⟩ ⟨_,_,_,rfl⟩ ⟨_,_,_,rfl⟩ ⟨_,_,_,rfl⟩ ⟨PhC.eq _,PhC.eq _,PhC.eq _,PhC.eq _,PhC.eq _,PhC.eq _,PhC.eq _,PhC.eq _,PhC.eq _,PhC.eq _,PhC.eq _,PhC.eq _,PhC.eq _,PhC.eq _,PhC.pred (fun _ _ _ _ _=>trivial),PhC.pred (fun _ _ _ _ _=>trivial),PhC.eq _,PhC.eq _,trivial⟩ (fun _ _=>trivial) (fun _ _=>trivial) (fun _ h=>by cases h;exact⟨rfl,rfl⟩) (fun _ h=>by cases h;exact⟨rfl,rfl⟩) (fun _ h=>by cases h;exact⟨rfl,rfl,rfl⟩) hM ?_ ?_)
 ·intro W hU
  refine aC (.inr ⟨rfl,fun hI=>TU.p (.lb rfl (hU.cell _ _ (Gu (hB.Ad rfl) (Up.drew _)))) rfl⟩) (aC (.inr ⟨rfl,fun hI=>TU.p (.fB 7 rfl) rfl⟩) (aC (.inr ⟨rfl,fun hI=>TU.p (.lb rfl (hU.cell _ _ (Gu (hB2.Ad rfl) (Up.drew _)))) rfl⟩) (aC (.inr ⟨rfl,fun hI=>TU.p (.lb rfl (hU.cell _ _ (Gu (hB.Ad rfl) (Up.drew _)))) rfl⟩) (aC (.inr ⟨rfl,fun hI=>TU.p (.fB 8 rfl) rfl⟩) (aC (.inr ⟨rfl,fun hI=>TU.p (.lb rfl (hU.cell _ _ (Gu (hB2.Ad rfl) (Up.drew _)))) rfl⟩) (aC (.inr ⟨rfl,fun hI=>TU.p (.lb rfl (hU.cell _ _ (Gu (hB.Ad rfl) (Up.drew _)))) rfl⟩) (aC (.inr ⟨rfl,fun hI=>TU.p (.fB 8 rfl) rfl⟩) (aC (.inr ⟨rfl,fun hI=>TU.p (.lb rfl (hU.cell _ _ (Gu (hB2.Ad rfl) (Up.drew _)))) rfl⟩) (aC (.inr ⟨rfl,fun hI=>TU.c (eC (.u rfl rfl) (xP)) (W6 _ _ _ _ (hI (.inr rfl))) sQ⟩) (aC (.inr ⟨rfl,fun hI=>TU.p (.lb rfl (hU.cell _ _ (Gu (hB.Ad rfl) (Up.drew _)))) rfl⟩) (aC (.inr ⟨rfl,fun hI=>TU.p (.fB 7 rfl) rfl⟩) (aC (.inr ⟨rfl,fun hI=>TU.p (.lb rfl (hU.cell _ _ (Gu (hB2.Ad rfl) (Up.drew _)))) rfl⟩) (aC (.inr ⟨rfl,fun hI=>TU.c (eC (.u rfl rfl) (xP)) (W6 _ _ _ _ (hI (.inl rfl))) sQ⟩) (aC (.inl cQ) (aC (.inl cQ) (aC (.inl cQ) (aC (.inl cQ) ?_)))))))))))))))))
  exact allL.nil
 intro w2 hFr hM2
 rw[Zr,Zr]at hM2
 refine LW.nil (Db rfl ⟨_,rfl,?_⟩)
 exact⟨rfl,tZ hM2 ((hW.trans (Up.drew _)).fr _|>.trans hFr)⟩
theorem pX(f:Fact)(Bt:Nat)(t:Int)(w:World)(hB:Blk w Bt #[vi t] 3):Ret prog 160 #[.agg f.cells,.pointer (some ⟨Bt,0,none⟩)] w fun r w'=>r=.bool (Qm t f)∧Up w w':=by
 have hW:=Up.refl w
 refine cT 18 func160 rfl (Ae (Ap (.bA rfl) rfl ?_))
 rintro _ w1 ⟨B2,rfl,NB2⟩
 replace hB:=hB.up NB2.up
 replace hW:=hW.up NB2.up
 have hB2:=NB2.blk
 refine Az (An (Aa (U (.fB 7 rfl) (U (.lb rfl (hB2.Ad rfl)) (A3 (eC (.o rfl) (iU)) rfl (J6 _ _) ?_)))))
 rintro _ w2 ⟨rfl,uw2⟩
 replace hB:=hB.up uw2
 replace hW:=hW.up uw2
 replace hB2:=hB2.up uw2
 refine I rfl (LW.gr rfl (fun hc=>PEv.fB 8 rfl) (LW.gr rfl (fun hc=>PEv.load lv vQ (hB2.Ad rfl)) (eZ rfl rfl rfl rfl rfl rfl rfl rfl (fun hc=>Bh (.cons vQ .nil) (iU)) (fun hc=>J6 _ _) ?_)))
 intro w3 uw3
 replace hB:=hB.up uw3
 replace hW:=hW.up uw3
 replace hB2:=hB2.up uw3
 refine U (.pa rfl (fun hp=>(by exact .cond rfl (by simp_all)))) (I rfl (LW.gr rfl (fun hc=>PEv.fB 5 rfl) (LW.gr rfl (fun hc=>PEv.load lv vQ (hB2.Ad rfl)) (LW.gr rfl (fun hc=>PEv.lb rfl (hB.Ad rfl)) (LW.gr rfl (fun hc=>PEv.leq vQ vQ) (U (.pa rfl (fun hp=>(by exact .cond rfl (by simp_all)))) (LW.A rfl (Ah (Am (KW.q ?_))))))))))
 exact⟨rfl,hW⟩
theorem pY(v:Go.Value)(xs:List Fact)(w:World)(ho:OwnS w 0 218 19 Fact.cells v xs)(h63:xs.length≤1000000000):Ret prog 163 #[v,.func (.func 164) #[] #[]] w fun r w'=>r=.tuple #[]∧Stp (Aw 218 19 Fact.cells v xs) (Aw 218 19 Fact.cells v (Ji Ga xs)) w w':=by
 have h0:=ho
 obtain⟨_,⟨rfl,hn⟩|⟨g,cap,cur,rfl,_⟩⟩:=h0
 · have hx:xs=[]:=dv hn
   subst hx
   exact(Lp false _ w).mono fun r w'⟨e,u⟩=>⟨e,(Stp.refl ho).up u⟩
 refine(Lo false 164 #[] Ga CT g xs.length cap xs w ho h63 (fun W _ x y=>W5 x y W)).mono ?_
 rintro r w' ⟨e,zs,hz,hs⟩
 rw[hz.eq]at hs
 exact⟨e,hs⟩
theorem Qb(pf:Nat)(lb:Array Go.Value)(p:Fact→Bool)(hen:∀args w,(callFunc pf args).run prog w=.ok (.enter pf args) w)(ad:Option Addr)(cp:Nat)(l:List Fact)(w:World)(hE0:Els w ad 19 Fact.cells l)(hl:l.length≤1000000000)(hp:∀W,Up w W→∀x∈l,Ret prog pf (#[.agg x.cells]++lb) W fun r W'=>r=.bool (p x)∧Up W W'):Ret prog 86 #[.slice ad l.length cp,.func (.func pf) #[] lb] w fun r w'=>OwnS w' w.heap.size 47 19 Fact.cells r (Oe p l)∧Up w w':=by
 obtain⟨w0,rfl,hS⟩:=W0 w
 refine cT 13 func86 rfl (Ae (Az (An (Aa (I rfl (I rfl (A3 (eC (.ct rfl (.cons (.func _) (.cu rfl))) (CQ)) rfl (pV pf lb p hen ad cp l _ (Els.up hE0 hS.Ch) hl (fun W hU=>hp W (hS.Ch.trans hU))) ?_)))))))
 rintro v8 w1 ⟨hO8,uw1⟩
 have zw1:=uw1.size
 replace hS:=hS.add uw1 (A':=Aw 218 19 Fact.cells v8 (l.filter p)) (hO8.mono (a_ _)) (fun i h=>hO8.base i h)
 refine LW.A rfl (An (Aa (I rfl (A3 (eC (.ct rfl (.cons (.func _) .nil)) (CS)) rfl (pY v8 (l.filter p) _ (hS.own 0 rfl) (b6 (dy _ _) hl)) ?_))))
 rintro _ w2 ⟨rfl,uw2⟩
 have zw2:=uw2.fr.size
 replace hS:=hS.Ft 0 rfl uw2
 obtain⟨ad9,cp9,rfl,hE9⟩:=(hS.own 0 rfl).sl (fun _=>rfl)
 have hl9:(Ji Ga (l.filter p)).length≤1000000000:=by rw[(Gi _).same.length];exact b6 (dy _ _) hl
 refine An (Aa (I rfl (A3 (eC (.ct rfl (.cons (.func _) (.cons (.func _) .nil))) (CU)) rfl (pW 167 #[] (fun _=>true) CX ad9 cp9 (Ji Ga (l.filter p)) _ hE9 hl9 (fun W _ x _=>kR x W)) ?_)))
 rintro v12 w3 ⟨hO12,uw3⟩
 have zw3:=uw3.size
 replace hS:=hS.up uw3
 rw[ik.2 (fun _ _=>rfl)]at hO12
 replace hO12:=hO12.mono (show w0.heap.size≤_ by omega)
 refine LW.A rfl (Ah (Am (KW.q ?_)))
 exact⟨hO12,hS.Ch⟩
theorem yZ(bc:Array Go.Value)(bs:Base)(time:Int)(w:World)(hC:BaseC w bc bs)(hl:bs.Swaps.length≤1000000000):Ret prog 84 #[.agg bc,vi time] w fun r w'=>∃b,r=.map (some b)∧IMap w' b (gP (gQ bs.Swaps time))∧w.heap.size≤b∧Up w w':=by
 obtain⟨w0,rfl,hS⟩:=W0 w
 refine cT 25 func84 rfl (Ae (Ap (.bA rfl) rfl ?_))
 rintro _ w1 ⟨B2,rfl,NB2⟩
 replace hS:=hS.Cf NB2
 refine Ap (.O0 (.t rfl) rfl) rfl ?_
 rintro _ w2 ⟨B3,rfl,NB3⟩
 replace hS:=hS.Cf NB3
 refine Az (An ?_)
 skip
 refine Aa (LW.r REv.makeMap rfl rfl rfl rfl ?_)
 rintro _ w3 ⟨M9,rfl,hMM9,uw3,eM9,zw3⟩
 replace hS:=hS.add uw3 (A':=H9 M9 (gP [])) hMM9 (fun i(h:i=M9)=>by omega)
 refine Ap (.Gc zeroValue151 rfl) rfl ?_
 rintro _ w4 ⟨B5,rfl,MB5⟩
 refine Ce (.store sizeOf151 (.t rfl) (.t rfl) rfl MB5.blk cQ) ?_
 intro w5 LB5
 have NB5:=MB5.set LB5
 replace hS:=hS.Cf NB5
 refine An (Aa (U (.makeFunc (.cu rfl)) (LW.A rfl (An (Ak ?_)))))
 obtain⟨v2,h2,ad,cp,rfl,hEs⟩:=(hC.up hS.Ch).JL
 refine Aa (U (.fB 2 rfl) (U (.lb rfl (hS.b0.cell h2)) (U (.makeFunc (.cu rfl)) (A3 (eC (.u rfl rfl) (BD)) rfl (Qb 160 #[.pointer (some ⟨B3,0,none⟩)] (Qm time) CP ad cp bs.Swaps _ hEs hl (fun W hU x _=>pX x B3 time W ((hS.b1).up hU))) ?_))))
 rintro v14 w6 ⟨hO14,uw6⟩
 replace hS:=hS.add uw6 (A':=Aw 47 19 Fact.cells v14 ((Oe (Qm time) bs.Swaps))) (hO14.mono (a_ _)) (fun i h=>hO14.base i h)
 obtain⟨ad14,cp14,rfl,_⟩:=(hS.own 4 rfl).sl (fun _=>rfl)
 refine U (.Cl kz (.t rfl)) (U (.move (.const _)) (Ah (Ai (A7 (σ:=Nat) (fun s w=>(s≤(Oe (Qm time) bs.Swaps).length)∧(Wx.Sep no w0 w [A5 B2 bc 35,A5 B3 #[vi time] 3,H9 M9 (gP (((Oe (Qm time) bs.Swaps).take s).foldl pR [])),A5 B5 #[.map (some M9)] 151,Aw 47 19 Fact.cells (.slice ad14 (Oe (Qm time) bs.Swaps).length cp14) ((Oe (Qm time) bs.Swaps))])) (fun s=>[(16,.eq (vi (s:Int)))]) ([(4,.eq _),(5,.eq _),(6,.eq _),(14,.eq _),(15,.eq _)]) (fun s=>(Oe (Qm time) bs.Swaps).length-s) 0 ?_ tQ ?_))))
 ·exact⟨a_ _,hS⟩
 rintro k w7 ⟨hk,hS⟩
 refine Ae (U (.l2 rfl rfl) (An (CW.b rfl (fun h17=>?_) (fun h17=>?_))))
 ·replace h17:=dQ h17
  refine Aj (Ab (Ak (Ai (Ak ?_))))
  have hE:=(hS.own 4 rfl).els (fun _=>rfl)
  have hol:=pS (Qm time) bs.Swaps
  refine Aa ?_
  obtain⟨x,hx⟩:=Af (xs:=(Oe (Qm time) bs.Swaps)) (i:=k) oQ
  obtain⟨Bx,ox,ax,hcx⟩:=hE _ x hx
  refine U (.Ao kz k7 (.t rfl) (.t rfl) oQ ax) (U (.lc rfl (hcx)) (Ap (.Cb lg) rfl ?_))
  rintro _ w8 ⟨B8,rfl,MB8⟩
  refine Ce (.Cc k7 rfl (.t rfl) (.t rfl) (Fact.one _) MB8.blk rfl) ?_
  intro w9 LB8
  have NB8:=MB8.set LB8
  replace hcx:=hcx.up NB8.up
  replace hS:=hS.Cf NB8
  refine Ah (Aa (I rfl (U (.lc rfl (hS.b5.agg)) (A3 (Cs (.t rfl) (.cu rfl) (CO)) rfl (dP x B5 M9 _ _ hS.b3 (hS.get 2 rfl)) ?_))))
  rintro _ w10 ⟨rfl,uw10⟩
  replace hS:=hS.Ft 2 rfl uw10
  refine LW.nil (Al (Ab (Aa (U (.ic rfl oQ) (I rfl (LW.nil (Av ?_)))))))
  exact⟨k+1,⟨by omega,by rw[Ct hx,List.foldl_append];exact hS.take 5⟩,tQ,by omega⟩
 replace h17:=dQ h17
 refine A9 (Ac (Ac (Aq (Ab (Ae (U (.lb rfl (hS.b3.Ad rfl)) (LW.A rfl (Ah (Am (KW.q ?_))))))))))
 have hkl:k=(Oe (Qm time) bs.Swaps).length:=by omega
 rw[hkl,b7]at hS
 exact⟨M9,rfl,hS.get 2 rfl,(hS.foot 2 rfl M9 rfl).resolve_left (fun h=>h),hS.Ch⟩
set_option maxHeartbeats 1000000 in
theorem gS(bc:Array Go.Value)(b:Base)(wafer time:Int)(w:World)(hC:BaseC w bc b)(hlen:b.Lots.length<9223372036854775807):Ret prog 73 #[.agg bc,vi wafer,vi time] w fun r w'=>r=.tuple #[vi (Ib b.Lots wafer time).1,vi (Ib b.Lots wafer time).2]∧Up w w':=by
 have hW:=Up.refl w
 obtain⟨w0,rfl,_⟩:=W0 w
 refine cT 61 func73 rfl (Ae (Ap (.bA rfl) rfl ?_))
 rintro _ w1 ⟨B3,rfl,NB3⟩
 replace hC:=hC.up NB3.up
 replace hW:=hW.up NB3.up
 have hB3:=NB3.blk
 refine Az (Az (An (Aa (Az (An (Ak ?_))))))
 obtain⟨v3,h3,hr⟩:=hC.JM
 obtain⟨ad,cp,rfl,hE⟩:=hr
 refine Aa (U (.fB 3 rfl) (U (.lb rfl (hB3.cell h3)) (U (.Cl kz (.t rfl)) (U (.move (.const _)) (Ah (Ai (CW.loop (σ:=Nat×Option Nat) (fun s w=>(s.1≤b.Lots.length∧(∀j,s.2=some j→j<s.1)∧(s.2.bind fun j=>b.Lots[j]?)=Fs (b.Lots.take s.1) wafer time)∧Els w ad 19 Fact.cells b.Lots∧Blk w B3 bc 35∧Up w0 w) (fun s=>[(8,.eq (.pointer (Og ad 19 s.2))),(14,.eq (vi (s.1:Int))),(1,.eq (vi wafer)),(2,.eq (vi time)),(3,.eq (.pointer (some ⟨B3,0,none⟩))),(12,.eq (.slice ad b.Lots.length cp)),(13,.eq (vi (b.Lots.length:Int)))]) (fun s=>b.Lots.length-s.1) (0,none) ?_ ?_ ?_)))))))
 ·exact⟨⟨a_ _,fun j e=>(by cases e),rfl⟩,hE,hB3,hW⟩
 ·exact tQ
 rintro⟨k,best⟩ w2 ⟨⟨hk,hj,hbest⟩,hE,hB3,hW⟩
 dsimp only at hk hj hbest
 rcases best with _|j
 ·skip
  refine Ae (U (.l2 rfl rfl) (An (CW.b rfl (fun h15=>?_) (fun h15=>?_))))
  ·replace h15:=dQ h15
   refine Aj (Ab (Ak (Ai (Ak ?_))))
   obtain⟨x,hx⟩:=Af (xs:=b.Lots) (i:=k) oQ
   obtain⟨B,o,had,hcell⟩:=hE k x hx
   subst had
   refine Aa (I rfl (U (.indexAddr kz k7 (.t rfl) (.t rfl) oQ) (U (.lc rfl (hcell)) (Ap (.Cb lg) rfl ?_))))
   rintro _ w3 ⟨B10,rfl,MB10⟩
   refine LW.A rfl (Ce (.Cc k7 rfl (.t rfl) (.t rfl) eQ MB10.blk rfl) ?_)
   intro w4 LB10
   have NB10:=MB10.set LB10
   replace hE:=hE.up NB10.up
   replace hB3:=hB3.up NB10.up
   replace hW:=hW.up NB10.up
   have hB10:=NB10.blk
   refine An (C0 kQ kQ rfl rfl (J (.mv rfl) (HW.c (fun a w _ ha=>Bh (.cu rfl) (iU) a ha) rfl rfl (fun w hu=>J6 _ _) (J (.mv rfl) (E1 rfl rfl rfl rfl rfl rfl (fun hc=>PEv.fB 7 rfl) (E1 rfl rfl rfl rfl rfl rfl (fun hc=>PEv.load lv vQ (hB10.Ad rfl)) (E1 rfl rfl rfl rfl rfl rfl (fun hc=>PEv.mv rfl) (E1 rfl rfl rfl rfl rfl rfl (fun hc=>PEv.eql vQ vQ) (J (.pa rfl (fun hp=>(by exact .cond rfl (by simp_all)))) (J (.mv rfl) (E1 rfl rfl rfl rfl rfl rfl (fun hc=>PEv.fB 5 rfl) (E1 rfl rfl rfl rfl rfl rfl (fun hc=>PEv.load lv vQ (hB10.Ad rfl)) (E1 rfl rfl rfl rfl rfl rfl (fun hc=>PEv.mv rfl) (E1 rfl rfl rfl rfl rfl rfl (fun hc=>PEv.leq vQ vQ) (J (.pa rfl (fun hp=>(by exact .cond rfl (by simp_all)))) (J (.mv rfl) (E1 rfl rfl rfl rfl rfl rfl (fun hc=>PEv.mv rfl) (E1 rfl rfl rfl rfl rfl rfl (fun hc=>PEv.Kd underlying189 vQ) (E1 rfl rfl rfl rfl rfl rfl (fun hc=>PEv.move vQ) (My rfl rfl rfl rfl rfl rfl rfl (My rfl rfl rfl rfl rfl rfl rfl (My rfl rfl rfl rfl rfl rfl rfl (My rfl rfl rfl rfl rfl rfl rfl (My rfl rfl rfl rfl rfl rfl rfl (My rfl rfl rfl rfl rfl rfl rfl (My rfl rfl rfl rfl rfl rfl rfl (E1 rfl rfl rfl rfl rfl rfl (fun hc=>PEv.Ej (b:=true) vQ (fun hp=>absurd (show true=false from hp) cQ)) (J (.pa rfl (fun hp=>(by exact .cond rfl (by simp_all)))) (HW.nil ?_)))))))))))))))))))))))))))))
   intro w5 uw5
   replace hE:=hE.up uw5
   replace hB3:=hB3.up uw5
   replace hW:=hW.up uw5
   replace hB10:=hB10.up uw5
   refine Ab (CW.b rfl (fun h45=>?_) (fun h45=>?_))
   ·replace h45:=dQ h45
    have hnew:Fs (b.Lots.take (k+1)) wafer time=some x:=by rw[Ct hx,Hi,←hbest];exact bg (by simpa[J5,Og]using h45)
    have hend:∃s':Nat×Option Nat,s'.2=some k∧s'.1=k+1:=⟨(k+1,some k),rfl,rfl⟩
    refine Aa (U (.fB 3 rfl) (U (.lb rfl (hB3.cell h3)) (I rfl (U (.indexAddr kz k7 (.t rfl) (.t rfl) oQ) (LW.A rfl (LW.nil (Al (Ab (Aa (U (.ic rfl oQ) (I rfl (LW.nil (Av ?_)))))))))))))
    exact⟨(k+1,some k),⟨⟨by omega,fun j e=>(by cases e;omega),by rw[hnew];exact hx⟩,hE,hB3,hW⟩,tQ,by omega⟩
   replace h45:=dQ h45
   have hnew:Fs (b.Lots.take (k+1)) wafer time=none:=by rw[Ct hx,Hi,←hbest];exact aq (by simpa[J5,Og]using h45)
   refine Aj (Al (Ab (Aa (U (.ic rfl oQ) (I rfl (LW.nil (Av ?_)))))))
   exact⟨(k+1,none),⟨⟨by omega,fun j e=>(by cases e),by rw[hnew];rfl⟩,hE,hB3,hW⟩,tQ,by dsimp only;omega⟩
  replace h15:=dQ h15
  have hkk:k=b.Lots.length:=by omega
  subst hkk
  rw[b7]at hbest
  have hres:Ib b.Lots wafer time=(0,0):=by unfold Ib;rw[←hbest];rfl
  refine A9 (Ac (Ac (Aq (Ab (Ak (Ae (I rfl (U (.Kd underlying189 (.t rfl)) (Ah (CW.v rfl (Ae (Az (Az (Ah (Am (Au (F9 rfl rfl rfl ⟨_,rfl,?_⟩)))))))))))))))))
  exact⟨by rw[hres]<;>rfl,hW⟩
 obtain⟨y,hy⟩:=Af (xs:=b.Lots) (i:=j) (by have:=hj j rfl;omega)
 obtain⟨B,o,had,hyc⟩:=hE j y hy
 subst had
 have hby:Fs (b.Lots.take k) wafer time=some y:=by rw[←hbest];exact hy
 refine Ae (U (.l2 rfl rfl) (An (CW.b rfl (fun h15=>?_) (fun h15=>?_))))
 ·replace h15:=dQ h15
  refine Aj (Ab (Ak (Ai (Ak ?_))))
  obtain⟨x,hx⟩:=Af (xs:=b.Lots) (i:=k) oQ
  obtain⟨B',o',e',hcell⟩:=hE k x hx
  cases e'
  refine Aa (I rfl (U (.indexAddr kz k7 (.t rfl) (.t rfl) oQ) (U (.lc rfl (hcell)) (Ap (.Cb lg) rfl ?_))))
  rintro _ w6 ⟨B10,rfl,MB10⟩
  refine LW.A rfl (Ce (.Cc k7 rfl (.t rfl) (.t rfl) eQ MB10.blk rfl) ?_)
  intro w7 LB10
  have NB10:=MB10.set LB10
  replace hE:=hE.up NB10.up
  replace hB3:=hB3.up NB10.up
  replace hW:=hW.up NB10.up
  replace hyc:=hyc.up NB10.up
  have hB10:=NB10.blk
  refine An (C0 kQ kQ rfl rfl (J (.mv rfl) (HW.c (fun a w _ ha=>Bh (.cu rfl) (iU) a ha) rfl rfl (fun w hu=>J6 _ _) (J (.mv rfl) (E1 rfl rfl rfl rfl rfl rfl (fun hc=>PEv.fB 7 rfl) (E1 rfl rfl rfl rfl rfl rfl (fun hc=>PEv.load lv vQ (hB10.Ad rfl)) (E1 rfl rfl rfl rfl rfl rfl (fun hc=>PEv.mv rfl) (E1 rfl rfl rfl rfl rfl rfl (fun hc=>PEv.eql vQ vQ) (J (.pa rfl (fun hp=>(by exact .cond rfl (by simp_all)))) (J (.mv rfl) (E1 rfl rfl rfl rfl rfl rfl (fun hc=>PEv.fB 5 rfl) (E1 rfl rfl rfl rfl rfl rfl (fun hc=>PEv.load lv vQ (hB10.Ad rfl)) (E1 rfl rfl rfl rfl rfl rfl (fun hc=>PEv.mv rfl) (E1 rfl rfl rfl rfl rfl rfl (fun hc=>PEv.leq vQ vQ) (J (.pa rfl (fun hp=>(by exact .cond rfl (by simp_all)))) (J (.mv rfl) (E1 rfl rfl rfl rfl rfl rfl (fun hc=>PEv.mv rfl) (E1 rfl rfl rfl rfl rfl rfl (fun hc=>PEv.Kd underlying189 vQ) (E1 rfl rfl rfl rfl rfl rfl (fun hc=>PEv.move vQ) (Rf rfl rfl rfl rfl rfl rfl (fun hc=>PEv.fB 5 rfl) (Rf rfl rfl rfl rfl rfl rfl (fun hc=>PEv.load lv vQ (hB10.Ad rfl)) (Rf rfl rfl rfl rfl rfl rfl (fun hc=>PEv.mv rfl) (Rf rfl rfl rfl rfl rfl rfl (fun hc=>PEv.nilCheck vQ) (Rf rfl rfl rfl rfl rfl rfl (fun hc=>PEv.fieldAddr (off:=5) mc rfl rfl k6 rfl vQ) (Rf rfl rfl rfl rfl rfl rfl (fun hc=>PEv.load lv vQ (hyc.nth (j:=5) rfl)) (Rf rfl rfl rfl rfl rfl rfl (fun hc=>PEv.gtr vQ vQ) (E1 rfl rfl rfl rfl rfl rfl (fun hc=>PEv.Ej vQ (fun hp=>(by exact .cond rfl (by simp_all)))) (J (.pa rfl (fun hp=>(by exact .cond rfl (by simp_all)))) (HW.nil ?_)))))))))))))))))))))))))))))
  intro w8 uw8
  replace hE:=hE.up uw8
  replace hB3:=hB3.up uw8
  replace hW:=hW.up uw8
  replace hyc:=hyc.up uw8
  replace hB10:=hB10.up uw8
  refine Ab (CW.b rfl (fun h45=>?_) (fun h45=>?_))
  ·replace h45:=dQ h45
   have hnew:Fs (b.Lots.take (k+1)) wafer time=some x:=by rw[Ct hx,Hi,hby];exact bg (by simpa[J5,Og]using h45)
   refine Aa (U (.fB 3 rfl) (U (.lb rfl (hB3.cell h3)) (I rfl (U (.indexAddr kz k7 (.t rfl) (.t rfl) oQ) (LW.A rfl (LW.nil (Al (Ab (Aa (U (.ic rfl oQ) (I rfl (LW.nil (Av ?_)))))))))))))
   exact⟨(k+1,some k),⟨⟨by omega,fun j e=>(by cases e;omega),by rw[hnew];exact hx⟩,hE,hB3,hW⟩,tQ,by omega⟩
  replace h45:=dQ h45
  have hnew:Fs (b.Lots.take (k+1)) wafer time=some y:=by rw[Ct hx,Hi,hby];exact aq (by simpa[J5,Og]using h45)
  refine Aj (Al (Ab (Aa (U (.ic rfl oQ) (I rfl (LW.nil (Av ?_)))))))
  exact⟨(k+1,some j),⟨⟨by omega,fun i e=>(by cases e;have:=hj j rfl;omega),by rw[hnew];exact hy⟩,hE,hB3,hW⟩,tQ,by dsimp only;omega⟩
 replace h15:=dQ h15
 have hkk:k=b.Lots.length:=by omega
 subst hkk
 rw[b7]at hby
 have hres:Ib b.Lots wafer time=(y.Lot,y.Product):=by unfold Ib;rw[hby]
 refine A9 (Ac (Ac (Aq (Ab (Ak (Ae (I rfl (U (.Kd underlying189 (.t rfl)) (Ah (CW.f rfl (Aj (Ab (Ak (C0 kQ kQ rfl rfl (J (.mv rfl) (J (.nc rfl) (J (.fB 9 rfl) (J (.lb rfl (hyc.nth (j:=9) rfl)) (J (.mv rfl) (J (.nc rfl) (J (.fB 10 rfl) (J (.lb rfl (hyc.nth (j:=10) rfl)) (J (.assign (.t rfl)) (J (.assign (.t rfl)) (HW.nil ?_)))))))))))))))))))))))))
 intro w9 uw9
 replace hE:=hE.up uw9
 replace hB3:=hB3.up uw9
 replace hW:=hW.up uw9
 replace hyc:=hyc.up uw9
 refine Ab (Am (F9 rfl rfl rfl ⟨_,rfl,?_⟩))
 exact⟨by rw[hres]<;>rfl,hW⟩
theorem gT(bc:Array Go.Value)(bs:Base)(mark time:Int)(w:World)(hC:BaseC w bc bs)(hl:bs.Swaps.length≤1000000000):Ret prog 26 #[.agg bc,vi mark,vi time] w fun r w'=>r=vi (Pe bs.Swaps time mark)∧Up w w':=by
 have hW:=Up.refl w
 refine cT 15 func26 rfl (Ae (Ap (.bA rfl) rfl ?_))
 rintro _ w1 ⟨B3,rfl,NB3⟩
 replace hC:=hC.up NB3.up
 replace hW:=hW.up NB3.up
 have hB3:=NB3.blk
 refine Az (An (Ae (I rfl (A3 (eC (.o rfl) (iU)) rfl (J6 _ _) ?_))))
 rintro _ w2 ⟨rfl,uw2⟩
 replace hC:=hC.up uw2
 replace hW:=hW.up uw2
 replace hB3:=hB3.up uw2
 refine U (.n1 rfl) (Ah (CW.b rfl (fun h9=>?_) (fun h9=>?_)))
 ·have hi:Jk mark=false:=by simpa using h9
  refine Ae (Az (Ah (Am (Au (KW.q ?_)))))
  exact⟨by rw[Pe,aq (by rw[hi];decide)],hW⟩
 have hi:Jk mark=true:=by simpa using h9
 refine Aj (Ab (Ae (U (.F7 mg lz (hC.size) (.t rfl) (hB3.agg)) (I rfl (A3 (eC (.u rfl rfl) (IE)) rfl (yZ bc bs time _ hC hl) ?_)))))
 rintro _ w3 ⟨b,rfl,hM,zM,uw3⟩
 replace hC:=hC.up uw3
 replace hW:=hW.up uw3
 replace hB3:=hB3.up uw3
 refine I rfl (A3 (eC (.u rfl rfl) (xP)) rfl (W6 b _ mark _ hM) ?_)
 rintro _ w4 ⟨rfl,uw4⟩
 replace hC:=hC.up uw4
 replace hW:=hW.up uw4
 replace hB3:=hB3.up uw4
 replace hM:=hM.up uw4
 refine LW.A rfl (Ah (Am (KW.q ?_)))
 exact⟨by rw[Pe,bg hi],hW⟩
theorem dR(f:Fact)(Bb Bw:Nat)(bc:Array Go.Value)(bs:Base)(wafer:Int)(w:World)(hC:BaseC w bc bs)(hl:bs.Swaps.length≤1000000000)(hBb:Blk w Bb bc 35)(hBw:Blk w Bw #[vi wafer] 3):Ret prog 87 #[.agg f.cells,.pointer (some ⟨Bb,0,none⟩),.pointer (some ⟨Bw,0,none⟩)] w fun r w'=>r=.bool (decide (Pe bs.Swaps f.Time f.Wafer=wafer))∧Up w w':=by
 have hW:=Up.refl w
 refine cT 13 func87 rfl ?_
 refine Ae ?_
 refine Ap (.bA rfl) rfl ?_
 rintro _ w1 ⟨B3,rfl,NB3⟩
 have eB3:=NB3.at_
 have zB3:=NB3.size
 replace hC:=hC.up NB3.up
 replace hBb:=hBb.up NB3.up
 replace hBw:=hBw.up NB3.up
 replace hW:=hW.up NB3.up
 have hB3:=NB3.blk
 refine Az (An ?_)
 refine C0 kQ kQ rfl rfl ?_
 refine J (.F7 mg lz (hC.size) (.t rfl) (hBb.agg)) ?_
 refine J (.fB 7 rfl) ?_
 refine J (.lb rfl (hB3.Ad rfl)) ?_
 refine J (.fB 5 rfl) ?_
 refine J (.lb rfl (hB3.Ad rfl)) ?_
 refine HW.c (fun a w _ ha=>Bh (.ct rfl (.ct rfl (.cu rfl))) (AR) a ha) rfl rfl (fun w hu=>gT bc bs _ _ w (hC.up hu) hl) ?_
 refine J (.lb rfl (hBw.Ad rfl)) ?_
 refine J (.eql (.t rfl) (.t rfl)) ?_
 refine J (.assign (.t rfl)) ?_
 refine HW.nil ?_
 intro w2 uw2
 have zw2:=uw2.size
 replace hC:=hC.up uw2
 replace hBb:=hBb.up uw2
 replace hBw:=hBw.up uw2
 replace hW:=hW.up uw2
 replace hB3:=hB3.up uw2
 refine Ab (Am ?_)
 refine KW.q ?_
 exact⟨rfl,hW⟩
theorem Qc(bc:Array Go.Value)(bs:Base)(wafer:Int)(w:World)(hC:BaseC w bc bs)(hl:bs.Swaps.length≤1000000000)(hp:bs.Processes.length≤1000000000):Ret prog 27 #[.agg bc,vi wafer] w fun r w'=>OwnS w' w.heap.size 47 19 Fact.cells r (Hn bs.Processes bs.Swaps wafer)∧Up w w':=by
 have hW:=Up.refl w
 obtain⟨w0,rfl,_⟩:=W0 w
 refine cT 12 func27 rfl ?_
 refine Ae ?_
 refine Ap (.bA rfl) rfl ?_
 rintro _ w1 ⟨B2,rfl,NB2⟩
 have eB2:=NB2.at_
 have zB2:=NB2.size
 replace hC:=hC.up NB2.up
 replace hW:=hW.up NB2.up
 have hB2:=NB2.blk
 refine Ap (.O0 (.t rfl) rfl) rfl ?_
 rintro _ w2 ⟨B3,rfl,NB3⟩
 have eB3:=NB3.at_
 have zB3:=NB3.size
 replace hC:=hC.up NB3.up
 replace hW:=hW.up NB3.up
 replace hB2:=hB2.up NB3.up
 have hB3:=NB3.blk
 refine Az (An (Ae ?_))
 refine U (.lb rfl (hB3.Ad rfl)) ?_
 refine A3 (eC (.o rfl) (iU)) rfl (J6 _ _) ?_
 rintro _ w3 ⟨rfl,uw3⟩
 have zw3:=uw3.size
 replace hC:=hC.up uw3
 replace hW:=hW.up uw3
 replace hB2:=hB2.up uw3
 replace hB3:=hB3.up uw3
 refine U (.n1 rfl) ?_
 refine Ah ?_
 refine CW.b rfl (fun h7=>?_) (fun h7=>?_)
 ·replace h7:=dQ h7
  have hi:Jk wafer=false:=by simpa using h7
  refine Ae (Az (Ah (Am (Au ?_))))
  refine KW.q ?_
  first|exact⟨by rw[Hn,aq (by rw[hi];decide)];exact OwnS.nil _ _ _ _ _,hW⟩|exact⟨by rw[Hn,bg hi];exact hO11,hW⟩
 replace h7:=dQ h7
 have hi:Jk wafer=true:=by simpa using h7
 refine Aj (Ab (Ak ?_))
 obtain⟨v0,h0,ad,cp,rfl,hEp⟩:=hC.JK
 refine Aa ?_
 refine U (.fB 0 rfl) ?_
 refine U (.lb rfl (hB2.cell h0)) ?_
 refine U (.makeFunc (.ct rfl (.cu rfl))) ?_
 refine A3 (eC (.u rfl rfl) (BD)) rfl (Qb 87 #[.pointer (some ⟨B2,0,none⟩),.pointer (some ⟨B3,0,none⟩)] (fun f=>decide (Pe bs.Swaps f.Time f.Wafer=wafer)) IF ad cp bs.Processes _ hEp hp (fun W hU x _=>dR x B2 B3 bc bs wafer W (hC.up hU) hl (hB2.up hU) (hB3.up hU))) ?_
 rintro v11 w4 ⟨hO11,uw4⟩
 have zw4:=uw4.size
 replace hC:=hC.up uw4
 replace hW:=hW.up uw4
 replace hB2:=hB2.up uw4
 replace hB3:=hB3.up uw4
 replace hO11:=hO11.mono (show w0.heap.size≤_ by omega)
 refine LW.A rfl (Ah (Am ?_))
 refine KW.q ?_
 first|exact⟨by rw[Hn,aq (by rw[hi];decide)];exact OwnS.nil _ _ _ _ _,hW⟩|exact⟨by rw[Hn,bg hi];exact hO11,hW⟩
theorem kS(c:Cond)(w:World):Ret prog 277 #[.agg c.cells] w fun r w'=>r=.bool c.met∧Up w w':=by
 have hW:=Up.refl w
 refine cT 23 func277 rfl ?_
 refine Ae ?_
 refine Ap (.bA rfl) rfl ?_
 rintro _ w1 ⟨B1,rfl,NB1⟩
 have eB1:=NB1.at_
 have zB1:=NB1.size
 replace hW:=hW.up NB1.up
 have hB1:=NB1.blk
 refine Az (An (Aa ?_))
 refine U (.fB 0 rfl) ?_
 refine U (.lb rfl (hB1.Ad rfl)) ?_
 refine U (.eql (.t rfl) (.const _)) ?_
 refine I rfl ?_
 refine LW.gr rfl (fun hc=>PEv.fB 0 rfl) ?_
 refine LW.gr rfl (fun hc=>PEv.load lv vQ (hB1.Ad rfl)) ?_
 refine LW.gr rfl (fun hc=>PEv.fB 2 rfl) ?_
 refine LW.gr rfl (fun hc=>PEv.load lv vQ (hB1.Ad rfl)) ?_
 refine LW.gr rfl (fun hc=>PEv.geq vQ vQ) ?_
 refine LW.gr rfl (fun hc=>PEv.move vQ) ?_
 refine Py rfl rfl rfl rfl rfl rfl rfl (fun hc=>PEv.fB 0 rfl) ?_
 refine Py rfl rfl rfl rfl rfl rfl rfl (fun hc=>PEv.load lv vQ (hB1.Ad rfl)) ?_
 refine Py rfl rfl rfl rfl rfl rfl rfl (fun hc=>PEv.fB 1 rfl) ?_
 refine Py rfl rfl rfl rfl rfl rfl rfl (fun hc=>PEv.load lv vQ (hB1.Ad rfl)) ?_
 refine Py rfl rfl rfl rfl rfl rfl rfl (fun hc=>iQ vQ vQ) ?_
 refine Py rfl rfl rfl rfl rfl rfl rfl (fun hc=>PEv.fB 2 rfl) ?_
 refine Py rfl rfl rfl rfl rfl rfl rfl (fun hc=>PEv.load lv vQ (hB1.Ad rfl)) ?_
 refine Py rfl rfl rfl rfl rfl rfl rfl (fun hc=>PEv.eql vQ vQ) ?_
 refine LW.gr rfl (fun hc=>PEv.C6 vQ (fun hp=>(by first|exact .const _|exact .tmp rfl|exact .cond rfl (by first|assumption|simp_all)))) ?_
 refine U (.po rfl (fun hp=>(by first|exact .const _|exact .tmp rfl|exact .cond rfl (by first|assumption|simp_all)))) ?_
 refine LW.A rfl (Ah (Am ?_))
 refine KW.q ?_
 exact⟨rfl,hW⟩
theorem dS(c:Cond)(w:World):Ret prog 276 #[.agg c.cells] w fun r w'=>r=.bool (!c.met)∧Up w w':=by
 have hW:=Up.refl w
 refine cT 6 func276 rfl ?_
 refine Ae ?_
 refine Ap (.bA rfl) rfl ?_
 rintro _ w1 ⟨B1,rfl,NB1⟩
 have eB1:=NB1.at_
 have zB1:=NB1.size
 replace hW:=hW.up NB1.up
 have hB1:=NB1.blk
 refine Az (An (Aa ?_))
 refine U (.lc rfl (hB1.agg)) ?_
 refine A3 (eC (.o rfl) (EU)) rfl (kS _ _) ?_
 rintro _ w2 ⟨rfl,uw2⟩
 have zw2:=uw2.size
 replace hW:=hW.up uw2
 replace hB1:=hB1.up uw2
 refine U (.n1 rfl) ?_
 refine LW.A rfl (Ah (Am ?_))
 refine KW.q ?_
 exact⟨rfl,hW⟩
theorem Ue(v:Value)(xs:List Cond)(w:World)(h:Sl w v 3 Cond.cells xs)(hlen:xs.length≤1000):Ret prog 289 #[v,.func (.func 276) #[] #[]] w fun r w'=>(∃i:Int,r=vi i∧decide (0≤i)=xs.any fun c=> !c.met)∧Up w w':=by
 have hW:=Up.refl w
 obtain⟨w0,rfl,_⟩:=W0 w
 obtain⟨ad,cp,rfl,hE⟩:=h
 refine cT 19 func289 rfl ?_
 refine Ae (Az (An (Ae (I rfl ?_))))
 refine U (.Cl underlying312 (.t rfl)) ?_
 refine U (.move (.const _)) ?_
 refine Ah (Ai ?_)
 refine CW.loop (σ:=Nat) (fun s w=>(s≤xs.length∧(xs.take s).any (fun c=> !c.met)=false)∧Els w ad 3 Cond.cells xs∧Up w0 w) (fun s=>[(0,.eq (.slice ad xs.length cp)),(1,.eq (.func (.func 276) #[] #[])),(7,.eq (vi (xs.length:Int))),(8,.eq (vi (s:Int)))]) (fun s=>xs.length-s) 0 ?_ ?_ ?_
 ·exact⟨⟨a_ _,by simp⟩,hE,hW⟩
 ·exact tQ
 rintro k w1 ⟨⟨hk,hA⟩,hE,hW⟩
 refine Ae ?_
 refine U (.l2 rfl rfl) ?_
 refine An ?_
 refine CW.b rfl (fun h9=>?_) (fun h9=>?_)
 ·replace h9:=dQ h9
  refine Aj (Ab (Ak (Ai (Ae (I rfl (LW.A rfl (An ?_)))))))
  obtain⟨x,hx⟩:=Af (xs:=xs) (i:=k) oQ
  obtain⟨B,o,had,hcell⟩:=hE k x hx
  refine Aa (I rfl (I rfl (I rfl ?_)))
  refine U (.Ao underlying312 sizeOf310 (.t rfl) (.t rfl) oQ had) ?_
  refine U (.lc rfl (hcell)) ?_
  refine A3 (El (.t rfl) (.cu rfl) (ET)) rfl (dS _ _) ?_
  rintro _ w2 ⟨rfl,uw2⟩
  have zw2:=uw2.size
  replace hE:=hE.up uw2
  replace hW:=hW.up uw2
  refine Ah ?_
  refine CW.b rfl (fun h16=>?_) (fun h16=>?_)
  ·replace h16:=dQ h16
   have hI:xs.any (fun c=> !c.met)=true:=ij.2 ⟨x,ai hx,by simpa using h16⟩
   refine Ae (I rfl (LW.A rfl (Ah (Am (A6 (Au (Au (A6 (Au ?_)))))))))
   refine KW.q ?_
   first|exact⟨⟨_,rfl,by rw[hI];exact bj oQ⟩,hW⟩|exact⟨⟨_,rfl,by rw[hA];rfl⟩,hW⟩
  replace h16:=dQ h16
  refine Aj (Al (Ab (Aa ?_)))
  refine U (.ic rfl oQ) ?_
  refine I rfl (LW.nil (Av ?_))
  exact⟨k+1,⟨⟨by omega,by rw[Ct hx,List.any_append,hA];simpa using h16⟩,hE,hW⟩,tQ,by omega⟩
 replace h9:=dQ h9
 have:k=xs.length:=by omega
 subst this
 rw[b7]at hA
 refine A9 (Ac (Ac (Aq (Ab (Ae (Az (Ah (Am ?_))))))))
 refine KW.q ?_
 first|exact⟨⟨_,rfl,by rw[hI];exact bj oQ⟩,hW⟩|exact⟨⟨_,rfl,by rw[hA];rfl⟩,hW⟩
theorem Pg(v:Value)(xs:List Cond)(w:World)(h:Sl w v 3 Cond.cells xs)(hlen:xs.length≤1000):Ret prog 275 #[v,.func (.func 276) #[] #[]] w fun r w'=>r=.bool (xs.any fun c=> !c.met)∧Up w w':=by
 have hW:=Up.refl w
 refine cT 9 func275 rfl ?_
 refine Ae (Az (An (Aa (I rfl (I rfl ?_)))))
 refine A3 (eC (.u rfl rfl) (EX)) rfl (Ue _ _ _ h hlen) ?_
 rintro _ w1 ⟨⟨i,rfl,hi⟩,uw1⟩
 have zw1:=uw1.size
 replace h:=h.up uw1
 replace hW:=hW.up uw1
 refine U (.geq (.t rfl) (.const _)) ?_
 refine LW.A rfl (Ah (Am ?_))
 refine KW.q ?_
 exact⟨by rw[←hi],hW⟩
theorem S3(v:Value)(xs:List Cond)(w:World)(h:Sl w v 3 Cond.cells xs)(hlen:xs.length≤1000):Ret prog 257 #[v] w fun r w'=>r=.bool (xs.all Cond.met)∧Up w w':=by
 have hW:=Up.refl w
 refine cT 6 func257 rfl ?_
 refine Ae (Az (An (Aa (I rfl ?_))))
 refine A3 (eC (.ct rfl (.cons (.func _) .nil)) (ES)) rfl (Pg _ _ _ h hlen) ?_
 rintro _ w1 ⟨rfl,uw1⟩
 have zw1:=uw1.size
 replace h:=h.up uw1
 replace hW:=hW.up uw1
 refine U (.n1 rfl) ?_
 refine LW.A rfl (Ah (Am ?_))
 refine KW.q ?_
 exact⟨by rw[List.all_eq_not_any_not],hW⟩
theorem Vk(f:Fact)(p:Addr)(t:Int)(w:World):Ret prog 274 #[.agg (F0 f p),vi t] w fun r w'=>r=.bool (dO f t)∧Up w w':=by
 have hW:=Up.refl w
 refine cT 23 func274 rfl ?_
 refine Ae ?_
 refine Ap (.bA rfl) rfl ?_
 rintro _ w1 ⟨B2,rfl,NB2⟩
 have eB2:=NB2.at_
 have zB2:=NB2.size
 replace hW:=hW.up NB2.up
 have hB2:=NB2.blk
 refine Az (An (Aa ?_))
 refine U (.fB 0 rfl) ?_
 refine U (.fB 0 rfl) ?_
 refine U (.lb rfl (hB2.Ad rfl)) ?_
 refine U (.eql (.t rfl) (.const _)) ?_
 refine I rfl ?_
 refine LW.gr rfl (fun hc=>PEv.fB 0 rfl) ?_
 refine LW.gr rfl (fun hc=>PEv.fieldAddr (off:=5) mc rfl rfl k6 rfl vQ) ?_
 refine LW.gr rfl (fun hc=>PEv.load lv vQ (hB2.Ad rfl)) ?_
 refine G6 rfl rfl ?_
 refine LW.gr rfl (fun hc=>PEv.leq vQ vQ) ?_
 refine U (.pa rfl (fun hp=>(by first|exact .const _|exact .tmp rfl|exact .cond rfl (by first|assumption|simp_all)))) ?_
 refine I rfl ?_
 refine G6 rfl rfl ?_
 refine LW.gr rfl (fun hc=>PEv.fB 0 rfl) ?_
 refine LW.gr rfl (fun hc=>PEv.fieldAddr (off:=6) mc rfl rfl k6 rfl vQ) ?_
 refine LW.gr rfl (fun hc=>PEv.load lv vQ (hB2.Ad rfl)) ?_
 refine LW.gr rfl (fun hc=>PEv.leq vQ vQ) ?_
 refine U (.pa rfl (fun hp=>(by first|exact .const _|exact .tmp rfl|exact .cond rfl (by first|assumption|simp_all)))) ?_
 refine LW.A rfl (Ah (Am ?_))
 refine KW.q ?_
 exact⟨rfl,hW⟩
theorem Zu(Bb:Nat)(bc:Array Go.Value)(b:Base)(id t:Int)(w:World)(hb:Blk w Bb bc 35)(hC:BaseC w bc b)(hlen:b.Releases.length<9223372036854775807):Ret prog 258 #[.pointer (some ⟨Bb,0,none⟩),vi id,vi t] w fun r w'=>r=vi (F6 b.Releases id t)∧Up w w':=by
 have hW:=Up.refl w
 obtain⟨w0,rfl,_⟩:=W0 w
 refine cT 34 func258 rfl ?_
 refine Ae (Az (An (Ak ?_)))
 obtain⟨v7,h7,hr⟩:=hC.JQ
 obtain⟨ad,cp,rfl,hE⟩:=hr
 refine Aa (I rfl ?_)
 refine U (.nc rfl) ?_
 refine U (.fB 7 rfl) ?_
 refine U (.lb rfl (hb.cell h7)) ?_
 refine U (.Cl kz (.t rfl)) ?_
 refine U (.move (.const _)) ?_
 refine Ah (Ai ?_)
 refine CW.loop (σ:=Nat) (fun s w=>s≤b.Releases.length∧Els w ad 19 Fact.cells b.Releases∧Up w0 w) (fun s=>[(6,.eq (vi (F6 (b.Releases.take s) id t))),(1,.eq (vi id)),(2,.eq (vi t)),(12,.eq (.slice ad b.Releases.length cp)),(13,.eq (vi (b.Releases.length:Int))),(14,.eq (vi (s:Int)))]) (fun s=>b.Releases.length-s) 0 ?_ ?_ ?_
 ·exact⟨a_ _,hE,hW⟩
 ·exact tQ
 rintro k w1 ⟨hk,hE,hW⟩
 refine Ae ?_
 refine U (.l2 rfl rfl) ?_
 refine An ?_
 refine CW.b rfl (fun h15=>?_) (fun h15=>?_)
 ·replace h15:=dQ h15
  refine Aj (Ab (Ak (Ai (Ak ?_))))
  obtain⟨x,hx⟩:=Af (xs:=b.Releases) (i:=k) oQ
  obtain⟨B,o,had,hcell⟩:=hE k x hx
  subst had
  refine Aa ?_
  refine U (.indexAddr kz k7 (.t rfl) (.t rfl) oQ) ?_
  refine U (.lc rfl (hcell)) ?_
  refine Ap (.Cb lg) rfl ?_
  rintro _ w2 ⟨B8,rfl,MB8⟩
  refine Ce (.Cc k7 rfl (.t rfl) (.t rfl) eQ MB8.blk rfl) ?_
  intro w3 LB8
  have NB8:=MB8.set LB8
  clear LB8 MB8
  have eB8:=NB8.at_
  have zB8:=NB8.size
  replace hE:=hE.up NB8.up
  replace hW:=hW.up NB8.up
  have hB8:=NB8.blk
  refine An (Aa ?_)
  refine U (.fB 8 rfl) ?_
  refine U (.lb rfl (hB8.Ad rfl)) ?_
  refine I rfl ?_
  refine U (.eql (.t rfl) (.t rfl)) ?_
  refine I rfl ?_
  refine LW.gr rfl (fun hc=>PEv.fB 5 rfl) ?_
  refine LW.gr rfl (fun hc=>PEv.load lv vQ (hB8.Ad rfl)) ?_
  refine G6 rfl rfl ?_
  refine LW.gr rfl (fun hc=>PEv.leq vQ vQ) ?_
  refine U (.pa rfl (fun hp=>(by first|exact .const _|exact .tmp rfl|exact .cond rfl (by first|assumption|simp_all)))) ?_
  refine Ah ?_
  refine CW.b rfl (fun h27=>?_) (fun h27=>?_)
  ·replace h27:=dQ h27
   have he:F6 (b.Releases.take (k+1)) id t=JI (F6 (b.Releases.take k) id t) x.Parties:=by rw[Ct hx,Lt];exact bg h27
   refine Aa (I rfl ?_)
   refine U (.fB 17 rfl) ?_
   refine U (.lb rfl (hB8.Ad rfl)) ?_
   refine U (.AM (.t rfl) (.t rfl)) ?_
   refine LW.A rfl (LW.nil (Al (Ab (Aa ?_))))
   refine U (.ic rfl oQ) ?_
   refine I rfl (LW.nil (Av ?_))
   exact⟨k+1,⟨by omega,hE,hW⟩,⟨by rw[he];rfl,rfl,rfl,rfl,rfl,rfl,trivial⟩,by omega⟩
  replace h27:=dQ h27
  have he:F6 (b.Releases.take (k+1)) id t=F6 (b.Releases.take k) id t:=by rw[Ct hx,Lt];exact aq (by rw[h27];exact cg)
  refine Aj (Al (Ab (Aa ?_)))
  refine U (.ic rfl oQ) ?_
  refine I rfl (LW.nil (Av ?_))
  exact⟨k+1,⟨by omega,hE,hW⟩,⟨by rw[he];rfl,rfl,rfl,rfl,rfl,rfl,trivial⟩,by omega⟩
 replace h15:=dQ h15
 refine A9 (Ac (Ac (Aq (Ab (Ae (I rfl (LW.A rfl (Ah (Am ?_)))))))))
 refine KW.q ?_
 exact⟨by rw[show k=b.Releases.length by omega,b7],hW⟩
theorem dU(f:Fact)(Bb:Nat)(bc:Array Go.Value)(b:Base)(t:Int)(w:World)(hb:Blk w Bb bc 35)(hC:BaseC w bc b)(hlen:b.Releases.length<9223372036854775807):Ret prog 225 #[.agg (F0 f ⟨Bb,0,none⟩),vi t] w fun r w'=>r=.bool (wW f b.Releases t)∧Up w w':=by
 have hW:=Up.refl w
 refine cT 17 func225 rfl ?_
 refine Ae ?_
 refine Ap (.bA rfl) rfl ?_
 rintro _ w1 ⟨B2,rfl,NB2⟩
 have eB2:=NB2.at_
 have zB2:=NB2.size
 replace hb:=hb.up NB2.up
 replace hC:=hC.up NB2.up
 replace hW:=hW.up NB2.up
 have hB2:=NB2.blk
 refine Az (An ?_)
 refine C0 kQ kQ rfl rfl ?_
 refine J (.fB 0 rfl) ?_
 refine J (.fB 17 rfl) ?_
 refine J (.lb rfl (hB2.Ad rfl)) ?_
 refine J (.fB 19 rfl) ?_
 refine J (.lb rfl (hB2.Ad rfl)) ?_
 refine J (.fB 0 rfl) ?_
 refine J (.fB 1 rfl) ?_
 refine J (.lb rfl (hB2.Ad rfl)) ?_
 refine J (.mv rfl) ?_
 refine HW.c (fun a w _ ha=>Bh (.ct rfl (.ct rfl (.cu rfl))) (EM) a ha) rfl rfl (fun w hu=>Zu _ _ _ _ _ _ (hb.up hu) (hC.up hu) hlen) ?_
 refine J (.mN (.t rfl) (.t rfl)) ?_
 refine J (.eql (.t rfl) (.const _)) ?_
 refine J (.assign (.t rfl)) ?_
 refine HW.nil ?_
 intro w2 uw2
 have zw2:=uw2.size
 replace hb:=hb.up uw2
 replace hC:=hC.up uw2
 replace hW:=hW.up uw2
 replace hB2:=hB2.up uw2
 refine Ab (Am ?_)
 refine KW.q ?_
 exact⟨rfl,hW⟩
theorem Qd(f:Fact)(Bb:Nat)(bc:Array Go.Value)(b:Base)(wafer time:Int)(w:World)(hb:Blk w Bb bc 35)(hC:BaseC w bc b)(hlen:b.Lots.length<9223372036854775807):Ret prog 256 #[.agg (F0 f ⟨Bb,0,none⟩),vi wafer,vi time] w fun r w'=>r=.bool (Sy f b.Lots wafer time)∧Up w w':=by
 have hW:=Up.refl w
 refine cT 36 func256 rfl ?_
 refine Ae ?_
 refine Ap (.bA rfl) rfl ?_
 rintro _ w1 ⟨B3,rfl,NB3⟩
 have eB3:=NB3.at_
 have zB3:=NB3.size
 replace hb:=hb.up NB3.up
 replace hC:=hC.up NB3.up
 replace hW:=hW.up NB3.up
 have hB3:=NB3.blk
 refine Az (An (Aa ?_))
 refine U (.fB 19 rfl) ?_
 refine U (.lb rfl (hB3.Ad rfl)) ?_
 refine U (.nc rfl) ?_
 refine U (.F7 mg lz (hC.size) (.t rfl) (hb.agg)) ?_
 refine I rfl (I rfl ?_)
 refine A3 (eC (.ct rfl (.ct rfl (.cu rfl))) (BC)) rfl (gS _ _ _ _ _ hC hlen) ?_
 rintro _ w2 ⟨rfl,uw2⟩
 have zw2:=uw2.size
 replace hb:=hb.up uw2
 replace hC:=hC.up uw2
 replace hW:=hW.up uw2
 replace hB3:=hB3.up uw2
 refine I rfl (U (.xt rfl rfl) (U (.xt rfl rfl) (LW.A rfl (LW.A rfl (An ?_)))))
 cases hq2:dO f time with
 |false=>
  refine Aa ?_
  refine U (.lc rfl (hB3.agg)) ?_
  refine I rfl ?_
  refine A3 (eC (.u rfl rfl) (wO)) rfl (Vk _ _ _ _) ?_
  rintro _ w3 ⟨rfl,uw3⟩
  have zw3:=uw3.size
  replace hb:=hb.up uw3
  replace hC:=hC.up uw3
  replace hW:=hW.up uw3
  replace hB3:=hB3.up uw3
  rw[hq2]
  refine I rfl ?_
  refine Bi ?_
  refine Bi ?_
  refine Bi ?_
  refine Bi ?_
  refine Bi ?_
  refine Bi ?_
  refine Bi ?_
  refine Bi ?_
  refine Bi ?_
  refine Bi ?_
  refine Bi ?_
  refine Bi ?_
  refine U (.C6 (b:=false) (.t rfl) (fun hp=>absurd (show false=true from hp) cQ)) ?_
  refine LW.A rfl (Ah (Am ?_))
  refine KW.q ?_
  exact⟨by simp[Sy,hq2],hW⟩
 |true=>
  refine Aa ?_
  refine U (.lc rfl (hB3.agg)) ?_
  refine I rfl ?_
  refine A3 (eC (.u rfl rfl) (wO)) rfl (Vk _ _ _ _) ?_
  rintro _ w4 ⟨rfl,uw4⟩
  have zw4:=uw4.size
  replace hb:=hb.up uw4
  replace hC:=hC.up uw4
  replace hW:=hW.up uw4
  replace hB3:=hB3.up uw4
  rw[hq2]
  refine I rfl ?_
  refine Ar ?_
  refine U (.fB 0 rfl) ?_
  refine Ar ?_
  refine U (.fB 7 rfl) ?_
  refine Ar ?_
  refine U (.lb rfl (hB3.Ad rfl)) ?_
  refine Ar ?_
  refine I rfl ?_
  refine Ar ?_
  refine U (.build (cs:=Cond.cells (Cond.mk f.Wafer 0 wafer)) mu mt Et (.ct rfl (.cons (.const _) (.cu rfl))) rfl) ?_
  refine Ar ?_
  refine U (.fB 0 rfl) ?_
  refine Ar ?_
  refine U (.fB 9 rfl) ?_
  refine Ar ?_
  refine U (.lb rfl (hB3.Ad rfl)) ?_
  refine Ar ?_
  refine I rfl ?_
  refine Ar ?_
  refine U (.build (cs:=Cond.cells (Cond.mk f.Lot 0 (Ib b.Lots wafer time).1)) mu mt Et (.ct rfl (.cons (.const _) (.cu rfl))) rfl) ?_
  refine Ar ?_
  refine Ap (.buildSlice (xs:=[Cond.mk f.Wafer 0 wafer,Cond.mk f.Lot 0 (Ib b.Lots wafer time).1]) (enc:=Cond.cells) (mk:=fun c=>.agg c.cells) underlying312 sizeOf310 mt rfl cQ (fun _=>rfl) (fun _=>rfl) (.ct rfl (.cu rfl)) rfl) rfl ?_
  rintro _ w5 ⟨B33,cB33,rfl,NB33,yB33,xB33⟩
  have eB33:=NB33.at_
  have zB33:=NB33.size
  replace hb:=hb.up NB33.up
  replace hC:=hC.up NB33.up
  replace hW:=hW.up NB33.up
  replace hB3:=hB3.up NB33.up
  have hB33:=NB33.blk
  have hE33:=xB33
  refine Ar ?_
  refine A3 (eC (.o rfl) (wN)) rfl (S3 _ _ _ (Ay hE33) (by simp)) ?_
  rintro _ w6 ⟨rfl,uw6⟩
  have zw6:=uw6.size
  replace hb:=hb.up uw6
  replace hC:=hC.up uw6
  replace hW:=hW.up uw6
  replace hB3:=hB3.up uw6
  replace hB33:=hB33.up uw6
  replace hE33:=hE33.up uw6
  refine U (.pa rfl (fun hp=>(by first|exact .const _|exact .tmp rfl|exact .cond rfl (by first|assumption|simp_all)))) ?_
  refine LW.A rfl (Ah (Am ?_))
  refine KW.q ?_
  exact⟨by simp[Sy,hq2],hW⟩
theorem Vl(f:Fact)(Bb:Nat)(bc:Array Go.Value)(b:Base)(a:GAct)(w:World)(hb:Blk w Bb bc 35)(hC:BaseC w bc b)(hlen:b.Lots.length<9223372036854775807):Ret prog 224 #[.agg (F0 f ⟨Bb,0,none⟩),.agg a.cells] w fun r w'=>r=.bool (S1 f b.Lots a)∧Up w w':=by
 have hW:=Up.refl w
 refine cT 45 func224 rfl ?_
 refine Ae ?_
 refine Ap (.bA rfl) rfl ?_
 rintro _ w1 ⟨B2,rfl,NB2⟩
 have eB2:=NB2.at_
 have zB2:=NB2.size
 replace hb:=hb.up NB2.up
 replace hC:=hC.up NB2.up
 replace hW:=hW.up NB2.up
 have hB2:=NB2.blk
 refine Ap (.bA rfl) rfl ?_
 rintro _ w2 ⟨B3,rfl,NB3⟩
 have eB3:=NB3.at_
 have zB3:=NB3.size
 replace hb:=hb.up NB3.up
 replace hC:=hC.up NB3.up
 replace hW:=hW.up NB3.up
 replace hB2:=hB2.up NB3.up
 have hB3:=NB3.blk
 refine Az (An ?_)
 cases hq1:Sy f b.Lots a.Wafer a.Time with
 |false=>
  refine Aa ?_
  refine U (.lc rfl (hB2.agg)) ?_
  refine U (.fB 0 rfl) ?_
  refine U (.lb rfl (hB3.Ad rfl)) ?_
  refine U (.fB 6 rfl) ?_
  refine U (.lb rfl (hB3.Ad rfl)) ?_
  refine A3 (eC (.ct rfl (.ct rfl (.cu rfl))) (wM)) rfl (Qd _ _ _ _ _ _ _ hb hC hlen) ?_
  rintro _ w3 ⟨rfl,uw3⟩
  have zw3:=uw3.size
  replace hb:=hb.up uw3
  replace hC:=hC.up uw3
  replace hW:=hW.up uw3
  replace hB2:=hB2.up uw3
  replace hB3:=hB3.up uw3
  rw[hq1]
  refine I rfl ?_
  refine Bi ?_
  refine Bi ?_
  refine Bi ?_
  refine Bi ?_
  refine Bi ?_
  refine Bi ?_
  refine Bi ?_
  refine Bi ?_
  refine Bi ?_
  refine Bi ?_
  refine Bi ?_
  refine Bi ?_
  refine Bi ?_
  refine Bi ?_
  refine Bi ?_
  refine Bi ?_
  refine Bi ?_
  refine Bi ?_
  refine Bi ?_
  refine Bi ?_
  refine Bi ?_
  refine Bi ?_
  refine Bi ?_
  refine Bi ?_
  refine Bi ?_
  refine Bi ?_
  refine Bi ?_
  refine Bi ?_
  refine Bi ?_
  refine Bi ?_
  refine Bi ?_
  refine Bi ?_
  refine U (.C6 (b:=false) (.t rfl) (fun hp=>absurd (show false=true from hp) cQ)) ?_
  refine LW.A rfl (Ah (Am ?_))
  refine KW.q ?_
  exact⟨by simp[S1,hq1],hW⟩
 |true=>
  refine Aa ?_
  refine U (.lc rfl (hB2.agg)) ?_
  refine U (.fB 0 rfl) ?_
  refine U (.lb rfl (hB3.Ad rfl)) ?_
  refine U (.fB 6 rfl) ?_
  refine U (.lb rfl (hB3.Ad rfl)) ?_
  refine A3 (eC (.ct rfl (.ct rfl (.cu rfl))) (wM)) rfl (Qd _ _ _ _ _ _ _ hb hC hlen) ?_
  rintro _ w4 ⟨rfl,uw4⟩
  have zw4:=uw4.size
  replace hb:=hb.up uw4
  replace hC:=hC.up uw4
  replace hW:=hW.up uw4
  replace hB2:=hB2.up uw4
  replace hB3:=hB3.up uw4
  rw[hq1]
  refine I rfl ?_
  refine Ar ?_
  refine U (.fB 0 rfl) ?_
  refine Ar ?_
  refine U (.fB 11 rfl) ?_
  refine Ar ?_
  refine U (.lb rfl (hB2.Ad rfl)) ?_
  refine Ar ?_
  refine U (.fB 2 rfl) ?_
  refine Ar ?_
  refine U (.lb rfl (hB3.Ad rfl)) ?_
  refine Ar ?_
  refine U (.build (cs:=Cond.cells (Cond.mk f.Tool 1 a.Tool)) mu mt Et (.ct rfl (.cons (.const _) (.cu rfl))) rfl) ?_
  refine Ar ?_
  refine U (.fB 0 rfl) ?_
  refine Ar ?_
  refine U (.fB 12 rfl) ?_
  refine Ar ?_
  refine U (.lb rfl (hB2.Ad rfl)) ?_
  refine Ar ?_
  refine U (.fB 3 rfl) ?_
  refine Ar ?_
  refine U (.lb rfl (hB3.Ad rfl)) ?_
  refine Ar ?_
  refine U (.build (cs:=Cond.cells (Cond.mk f.Chamber 1 a.Chamber)) mu mt Et (.ct rfl (.cons (.const _) (.cu rfl))) rfl) ?_
  refine Ar ?_
  refine U (.fB 0 rfl) ?_
  refine Ar ?_
  refine U (.fB 13 rfl) ?_
  refine Ar ?_
  refine U (.lb rfl (hB2.Ad rfl)) ?_
  refine Ar ?_
  refine U (.fB 1 rfl) ?_
  refine Ar ?_
  refine U (.lb rfl (hB3.Ad rfl)) ?_
  refine Ar ?_
  refine U (.build (cs:=Cond.cells (Cond.mk f.Step 1 a.Step)) mu mt Et (.ct rfl (.cons (.const _) (.cu rfl))) rfl) ?_
  refine Ar ?_
  refine U (.fB 0 rfl) ?_
  refine Ar ?_
  refine U (.fB 14 rfl) ?_
  refine Ar ?_
  refine U (.lb rfl (hB2.Ad rfl)) ?_
  refine Ar ?_
  refine U (.fB 4 rfl) ?_
  refine Ar ?_
  refine U (.lb rfl (hB3.Ad rfl)) ?_
  refine Ar ?_
  refine U (.build (cs:=Cond.cells (Cond.mk f.Recipe 0 a.Recipe)) mu mt Et (.ct rfl (.cons (.const _) (.cu rfl))) rfl) ?_
  refine Ar ?_
  refine U (.fB 0 rfl) ?_
  refine Ar ?_
  refine U (.fB 15 rfl) ?_
  refine Ar ?_
  refine U (.lb rfl (hB2.Ad rfl)) ?_
  refine Ar ?_
  refine U (.fB 5 rfl) ?_
  refine Ar ?_
  refine U (.lb rfl (hB3.Ad rfl)) ?_
  refine Ar ?_
  refine U (.build (cs:=Cond.cells (Cond.mk f.Revision 0 a.Revision)) mu mt Et (.ct rfl (.cons (.const _) (.cu rfl))) rfl) ?_
  refine Ar ?_
  refine Ap (.buildSlice (xs:=[Cond.mk f.Tool 1 a.Tool,Cond.mk f.Chamber 1 a.Chamber,Cond.mk f.Step 1 a.Step,Cond.mk f.Recipe 0 a.Recipe,Cond.mk f.Revision 0 a.Revision]) (enc:=Cond.cells) (mk:=fun c=>.agg c.cells) underlying312 sizeOf310 mt rfl cQ (fun _=>rfl) (fun _=>rfl) (.ct rfl (.ct rfl (.ct rfl (.ct rfl (.cu rfl))))) rfl) rfl ?_
  rintro _ w5 ⟨B42,cB42,rfl,NB42,yB42,xB42⟩
  have eB42:=NB42.at_
  have zB42:=NB42.size
  replace hb:=hb.up NB42.up
  replace hC:=hC.up NB42.up
  replace hW:=hW.up NB42.up
  replace hB2:=hB2.up NB42.up
  replace hB3:=hB3.up NB42.up
  have hB42:=NB42.blk
  have hE42:=xB42
  refine Ar ?_
  refine A3 (eC (.o rfl) (wN)) rfl (S3 _ _ _ (Ay hE42) (by simp)) ?_
  rintro _ w6 ⟨rfl,uw6⟩
  have zw6:=uw6.size
  replace hb:=hb.up uw6
  replace hC:=hC.up uw6
  replace hW:=hW.up uw6
  replace hB2:=hB2.up uw6
  replace hB3:=hB3.up uw6
  replace hB42:=hB42.up uw6
  replace hE42:=hE42.up uw6
  refine U (.pa rfl (fun hp=>(by first|exact .const _|exact .tmp rfl|exact .cond rfl (by first|assumption|simp_all)))) ?_
  refine LW.A rfl (Ah (Am ?_))
  refine KW.q ?_
  exact⟨by simp[S1,hq1],hW⟩
theorem uE(ad:Addr)(w:World):Ret prog 223 #[.pointer (some ad)] w fun r w'=>(∃B,r=.func (.func 255) #[] #[.pointer (some ⟨B,0,none⟩)]∧Blk w' B #[.pointer (some ad)] 82∧w.heap.size≤B)∧Up w w':=by
 have hW:=Up.refl w
 refine cT 4 func223 rfl ?_
 refine Ae ?_
 refine Ap (.O0 (.t rfl) rfl) rfl ?_
 rintro _ w1 ⟨B1,rfl,NB1⟩
 have eB1:=NB1.at_
 have zB1:=NB1.size
 replace hW:=hW.up NB1.up
 have hB1:=NB1.blk
 refine Az (An (Aa ?_))
 refine U (.makeFunc (.cu rfl)) ?_
 refine LW.A rfl (Ah (Am ?_))
 refine KW.q ?_
 exact⟨⟨_,rfl,hB1,by omega⟩,hW⟩
theorem pZ(X Y:Nat→Prop)(B1 Bb:Nat)(bc:Array Go.Value)(b:Base)(w1 w:World)(hU0:Up w1 w)(hX:∀i,X i→w1.heap.size≤i)(hYY:∀i,Y i→w1.heap.size≤i)(hQX:¬X B1)(hQ0:Blk w B1 #[.pointer (some ⟨Bb,0,none⟩)] 82)(hb1:Blk w1 Bb bc 35)(hC1:BaseC w1 bc b)(hlen:b.Holds.length<9223372036854775807):
   IterS prog 255 #[.pointer (some ⟨B1,0,none⟩)] (fun f=>#[.agg (F0 f ⟨Bb,0,none⟩)]) X Y (fun ys=>ys=b.Holds.filter Ip) (fun pre=>pre<+:b.Holds.filter Ip) (b.Holds.filter Ip).length w:=by
 have z1:=hU0.size
 refine IterS.of ?_
 intro lp J Jx w0 hUw _ hY hJ
 obtain⟨Bd,hBd⟩:∃Bd,Bd=w0.heap.size:=⟨_,rfl⟩
 rw[←hBd]at hJ hY
 clear hBd
 have hQ:=hQ0.up hUw
 have hU:=hU0.trans hUw
 refine cT 26 func255 rfl ?_
 refine Ak ?_
 obtain⟨v6,h6,hr⟩:=hC1.JP
 obtain⟨ad,cp,rfl,hE1⟩:=hr
 refine Aa ?_
 refine U (.lb rfl (hQ.Ad rfl)) ?_
 refine U (.nc rfl) ?_
 refine U (.fB 6 rfl) ?_
 refine U (.lb rfl ((hb1.up hU).cell h6)) ?_
 refine U (.Cl kz (.t rfl)) ?_
 refine U (.move (.const _)) ?_
 refine Ah (Ai ?_)
 refine CW.loop (σ:=Nat) (fun s w=>s≤b.Holds.length∧Jw Bd J ((b.Holds.take s).filter Ip) w∧Up w1 w∧Blk w B1 #[.pointer (some ⟨Bb,0,none⟩)] 82) (fun s=>[(0,.eq (.func (.yield lp) #[] #[])),(1,.eq (.pointer (some ⟨B1,0,none⟩))),(8,.eq (.slice ad b.Holds.length cp)),(9,.eq (vi (b.Holds.length:Int))),(10,.eq (vi (s:Int)))]) (fun s=>b.Holds.length-s) 0 ?_ ?_ ?_
 ·exact⟨a_ _,hJ,hU,hQ⟩
 ·exact tQ
 rintro k w1 ⟨hk,hJ,hU,hQ⟩
 refine Ae ?_
 refine U (.l2 rfl rfl) ?_
 refine An ?_
 refine CW.b rfl (fun h11=>?_) (fun h11=>?_)
 ·replace h11:=dQ h11
  refine Aj (Ab (Ak (Ai (Ak ?_))))
  obtain⟨x,hx⟩:=Af (xs:=b.Holds) (i:=k) oQ
  obtain⟨B,o,had,hc1⟩:=hE1 k x hx
  subst had
  have hcell:=hc1.up hU
  refine Aa ?_
  refine U (.indexAddr kz k7 (.t rfl) (.t rfl) oQ) ?_
  refine U (.lc rfl (hcell)) ?_
  refine Ap (.Cb lg) rfl ?_
  rintro _ w2 ⟨B4,rfl,MB4⟩
  refine Ce (.Cc k7 rfl (.t rfl) (.t rfl) eQ MB4.blk rfl) ?_
  intro w3 LB4
  have NB4:=MB4.set LB4
  clear LB4 MB4
  have eB4:=NB4.at_
  have zB4:=NB4.size
  replace hJ:=hJ.up NB4.up
  replace hU:=hU.up NB4.up
  replace hQ:=hQ.up NB4.up
  have hB4:=NB4.blk
  refine An ?_
  cases hq3:Ip x with
  |false=>
   refine Aa ?_
   refine U (.fB 0 rfl) ?_
   refine U (.lb rfl (hB4.Ad rfl)) ?_
   refine U (.eql (.t rfl) (.const _)) ?_
   refine I rfl ?_
   rw[show decide (x.Kind=7)=false from hq3]
   refine Bi ?_
   refine Bi ?_
   refine Bi ?_
   refine Bi ?_
   refine Bi ?_
   refine Bi ?_
   refine U (.C6 (b:=false) (.t rfl) (fun hp=>absurd (show false=true from hp) cQ)) ?_
   refine Ah ?_
   refine CW.b rfl (fun h24=>?_) (fun h24=>?_)
   ·replace h24:=dQ h24
    cases h24
   replace h24:=dQ h24
   refine Aj (Al (Ab (Aa ?_)))
   refine U (.ic rfl oQ) ?_
   refine I rfl (LW.nil (Av ?_))
   first|exact⟨k+1,⟨by omega,hJ2,hU,hQ⟩,tQ,by omega⟩|exact⟨k+1,⟨by omega,by rw[Qr hx hq3];exact hJ,hU,hQ⟩,tQ,by omega⟩
  |true=>
   refine Aa ?_
   refine U (.fB 0 rfl) ?_
   refine U (.lb rfl (hB4.Ad rfl)) ?_
   refine U (.eql (.t rfl) (.const _)) ?_
   refine I rfl ?_
   rw[show decide (x.Kind=7)=true from hq3]
   refine Ar ?_
   refine I rfl ?_
   refine Ar ?_
   refine U (.lc rfl (hB4.agg)) ?_
   refine Ar ?_
   refine U (.lb rfl (hQ.Ad rfl)) ?_
   refine Ar ?_
   refine U (.build (cs:=F0 x ⟨Bb,0,none⟩) underlying278 zeroValue278 Rm (.ct rfl (.cu rfl)) (iT _ _ rfl)) ?_
   refine Ar ?_
   refine LW.y (.t rfl) (.cu rfl) rfl rfl (hY _ x _ hJ (fC hx hq3)) ?_
   rintro _ w4 ⟨y,rfl,hcase⟩
   refine Ar ?_
   refine U (.n1 rfl) ?_
   refine U (.pa rfl (fun hp=>(by first|exact .const _|exact .tmp rfl|exact .cond rfl (by first|assumption|simp_all)))) ?_
   refine Ah ?_
   refine CW.b rfl (fun h24=>?_) (fun h24=>?_)
   ·replace h24:=dQ h24
    have hy:y=false:=by simpa using h24
    subst hy
    obtain⟨_,hJx⟩:=hcase.resolve_left (by simp)
    refine Am (A6 (Au (Au (A6 ?_))))
    refine F8 rfl ⟨_,rfl,?_⟩
    first|exact .inl ⟨_,rfl,by rw[hkk,b7]at hJ;exact hJ.j⟩|exact .inr ⟨_,by rw[←Jz hx hq3];exact K6 _ _ _,hJx⟩
   replace h24:=dQ h24
   have hy:y=true:=by simpa using h24
   subst hy
   obtain⟨_,hJ2,hN⟩:=hcase.resolve_right (by simp)
   replace hU:=hU.kx hN hX hYY z1
   replace hQ:=hQ.kx hN hQX
   rw[←Jz hx hq3]at hJ2
   refine Aj (Al (Ab (Aa ?_)))
   refine U (.ic rfl oQ) ?_
   refine I rfl (LW.nil (Av ?_))
   first|exact⟨k+1,⟨by omega,hJ2,hU,hQ⟩,tQ,by omega⟩|exact⟨k+1,⟨by omega,by rw[Qr hx hq3];exact hJ,hU,hQ⟩,tQ,by omega⟩
 replace h11:=dQ h11
 have hkk:k=b.Holds.length:=by omega
 refine A9 (Ac (Ac (Aq ?_)))
 refine Db rfl ⟨_,rfl,?_⟩
 first|exact .inl ⟨_,rfl,by rw[hkk,b7]at hJ;exact hJ.j⟩|exact .inr ⟨_,by rw[←Jz hx hq3];exact K6 _ _ _,hJx⟩
end Go.Proofs.YthcabjphnacjeaaGreatDoor
