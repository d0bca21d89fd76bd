import Derived.Test.YtbcnnkfopoiifaaGreatDoorKR112
import Derived.ChangeKeysEq
namespace Go.Wx
open Go.RowKit in
theorem Dx{P:Program}{n:Nat}{l:Env}{w:World}{fn:Func}{RR:Ending→World→Prop}{t u:Tmp}{T:TypeId}{B k:Nat}{cs:Array Go.Value}{x:Go.Value}(hr:fn.results=#[.cell t T,.tmp u])(hv:lk l t=some (.eq (.pointer (some ⟨B,0,none⟩))))(hu:lk l u=some (.eq x))(hT:∀w,(isAgg T).run P w=.ok true w)(hs:∀w,(sizeOf T).run P w=.ok k w)(hk:cs.size=k)
   (hc:AggAt w B 0 cs)(hR:RR (.returned (.tuple #[.agg cs,x])) w):KW n [] (bodyPost P fn RR .ret) l w:=fun a ha=>
 ⟨ha.defers,.tuple #[.agg cs,x],by
   have h1:a.tmps.getD t undef=.pointer (some ⟨B,0,none⟩):=ha.val _ _ hv
   have h2:a.tmps.getD u undef=x:=ha.val _ _ hu
   rw[aj]at h1 h2
   simp[results,hr,h1,h2,asAddr,Ho hT hs hk hc],hR⟩
def Dc:Fact:=Ug 0 0 0 false
def R0(r t:Int)(s:Fact×Bool)(x:Fact):Fact×Bool:=if decide (x.Recipe=r)&&decide (x.Time≤t)&&(!s.2||decide (s.1.Time<x.Time))then(x,true)else s
def Lc(r t:Int)(l:List Fact):Fact×Bool:=l.foldl (R0 r t) (Dc,false)
theorem Qv{r t:Int}{l:List Fact}{k:Nat}{x:Fact}(h:l[k]?=some x):Lc r t (l.take (k+1))=R0 r t (Lc r t (l.take k)) x:=by
 rw[C8 h,Lc,ew];rfl
theorem rP{r t:Int}{s:Fact×Bool}{x:Fact}(h:(decide (x.Recipe=r)&&decide (x.Time≤t)&&(!s.2||decide (s.1.Time<x.Time)))=true):R0 r t s x=(x,true):=ak h
theorem rQ{r t:Int}{s:Fact×Bool}{x:Fact}(h:(decide (x.Recipe=r)&&decide (x.Time≤t)&&(!s.2||decide (s.1.Time<x.Time)))=false):R0 r t s x=s:=ae (by rw[h];exact bi)
theorem mY{p:Fact→Bool}{l:List Fact}{k:Nat}{x:Fact}(h:l[k]?=some x)(hk:∀y∈l.take k,p y=false)(hx:p x=false):∀y∈l.take (k+1),p y=false:=fun y hy=>by
 rw[C8 h]at hy
 rcases be.1 hy with hy|hy
 · exact hk y hy
 cases aa.1 hy;exact hx
theorem kL{p:Fact→Bool}{l:List Fact}{k:Nat}{x:Fact}(h:l[k]?=some x)(hk:∀y∈l.take k,p y=false)(hx:p x=true):l.find? p=some x:=by
 have hlt:=(ai.1 h).1
 have e:l=l.take k++x::l.drop (k+1):=by
   have h1:l.drop k=x::l.drop (k+1):=by
     rw[ce hlt,(ai.1 h).2]
   rw[←h1,dg]
 rw[e,j5,ge.2 (fun y hy=>by rw[hk y hy];exact bi),js,hx]
 rfl
theorem kM{p:Fact→Bool}{l:List Fact}(h:∀y∈l,p y=false):l.find? p=none:=ge.2 (fun y hy=>by rw[h y hy];exact bi)
def NR(p:Fact→Bool)(l:List Fact)(i:Int):Prop:=(∃k x,i=((k:Nat):Int)∧l[k]?=some x∧p x=true∧∀y∈l.take k,p y=false)∨(i= -1∧∀y∈l,p y=false)
def Ec(b:Base)(id:Int):Option Fact:=b.Processes.find? fun f=>decide (f.ID=id)
def U2(b:Base)(id:Int):Option Fact:=b.Measures.find? fun f=>decide (f.ID=id)
def Kh:List Fact→List Fact→Bool
 |[],[]=>true
 |x::xs,y::ys=>Cw x y&&Kh xs ys
 |_,_=>false
theorem bV:∀{l m:List Fact},l.length≠m.length→Kh l m=false
 |[],[],h=>absurd rfl h
 |[],_::_,_=>rfl
 |_::_,[],_=>rfl
 |x::xs,y::ys,h=>by rw[Kh,bV (fun e=>h (by simp[e])),ji]
theorem Xo{l m:List Fact}{k:Nat}{x y:Fact}(hx:l[k]?=some x)(hy:m[k]?=some y):Kh (l.drop k) (m.drop k)=(Cw x y&&Kh (l.drop (k+1)) (m.drop (k+1))):=by
 have h1:=(ai.1 hx)
 have h2:=(ai.1 hy)
 rw[ce h1.1,ce h2.1,h1.2,h2.2];rfl
theorem rR{l m:List Fact}{k:Nat}(h1:l.length≤k)(h2:m.length≤k):Kh (l.drop k) (m.drop k)=true:=by
 rw[fc h1,fc h2];rfl
def runK(f:Fact):K2:=(f.Time,f.ID)
def I3(t c:Int)(f:Fact):Bool:=decide (f.Tool=t)&&decide (f.Chamber=c)
def G6(b:Base)(t c:Int):List Fact:=Hl runK (b.Processes.filter (I3 t c))
theorem M5{p:Fact→Bool}{l:List Fact}{k:Nat}{x:Fact}(h:l[k]?=some x)(hx:p x=true):(l.take (k+1)).filter p=(l.take k).filter p++[x]:=by
 rw[C8 h,cj,de,ak hx];rfl
theorem U3{p:Fact→Bool}{l:List Fact}{k:Nat}{x:Fact}(h:l[k]?=some x)(hx:p x=false):(l.take (k+1)).filter p=(l.take k).filter p:=by
 rw[C8 h,cj,de,ae (by rw[hx];exact bi)];simp
theorem H5(p:Fact→Bool)(l:List Fact)(k:Nat):((l.take k).filter p).length≤k:=bb (cm _ _) (by rw[bu];omega)
def A6(c n:Int):Int:=(if c<0 then IntKind.i64.wrap (-(IntKind.i64.wrap (c+1)))else c).tmod n
def C2(b:Base)(j:Nat):List Fact:=[b.Processes,b.Measures,b.Swaps,b.Lots,b.Flows,b.Qualified,b.Holds,b.Releases,b.Resets,b.Targets,b.Gaps].getD j []
theorem Ma{j:Nat}(h:j<11):j=0∨j=1∨j=2∨j=3∨j=4∨j=5∨j=6∨j=7∨j=8∨j=9∨j=10:=by omega
theorem BaseC.at_{w:World}{bc:Array Go.Value}{b:Base}(h:BaseC w bc b){j:Nat}(hj:j<11):∃v,bc[j]?=some v∧Sl w v 19 Fact.cells (C2 b j):=by
 obtain⟨v0,v1,v2,v3,v4,v5,v6,v7,v8,v9,v10,e,h0,h1,h2,h3,h4,h5,h6,h7,h8,h9,h10⟩:=h
 subst e
 rcases Ma hj with rfl|rfl|rfl|rfl|rfl|rfl|rfl|rfl|rfl|rfl|rfl
 · exact⟨v0,rfl,h0⟩
 · exact⟨v1,rfl,h1⟩
 · exact⟨v2,rfl,h2⟩
 · exact⟨v3,rfl,h3⟩
 · exact⟨v4,rfl,h4⟩
 · exact⟨v5,rfl,h5⟩
 · exact⟨v6,rfl,h6⟩
 · exact⟨v7,rfl,h7⟩
 · exact⟨v8,rfl,h8⟩
 · exact⟨v9,rfl,h9⟩
 exact⟨v10,rfl,h10⟩
def Sv(b c:Base):Bool:=(List.range 11).all fun j=>Kh (C2 b j) (C2 c j)
theorem rS{b c:Base}{j:Nat}(hj:j<11)(h:Kh (C2 b j) (C2 c j)=false):Sv b c=false:=by
 unfold Sv
 rw[List.all_eq_false]
 exact⟨j,bl.2 hj,by rw[h];exact bi⟩
theorem Xp{b c:Base}(h:∀j,j<11→Kh (C2 b j) (C2 c j)=true):Sv b c=true:=by
 unfold Sv
 rw[b7]
 exact fun j hj=>h j (bl.1 hj)
def short(b:Base):Prop:=∀j,(C2 b j).length≤100000
theorem U4(l:List Fact)(d:Int):(Fp (Bj l d)).length≤l.length:=by unfold Fp;rw[cd];exact(Io d l).2
theorem N7(l:List Fact)(d:Int){j:Nat}(hj:j<11):C2 (Dj l d) j=Er [((j+1:Nat):Int)] (Fp (Bj l d)) j:=by
 rcases Ma hj with rfl|rfl|rfl|rfl|rfl|rfl|rfl|rfl|rfl|rfl|rfl<;>rfl
theorem N8(b:Base){j:Nat}(hj:¬j<11):C2 b j=[]:=by
 unfold C2
 rw[d8,cw (by simp;omega)];rfl
theorem mZ{l:List Fact}(h:l.length≤100000)(d:Int):short (Dj l d):=fun j=>by
 by_cases hj:j<11
 · rw[N7 l d hj]
   exact bb (Qu _ _ _) (bb (U4 l d) h)
 rw[N8 _ hj];simp
theorem Rt.ok.neg{a:Rt}(h:a.ok):(Rt.mk (-a.n) a.d).ok:=by
 refine⟨h.pos,h.den,by show(-a.n).natAbs≤_;rw[kw];exact h.num,?_⟩
 show Dd (-a.n) a.d=1
 unfold Dd
 rw[kw];exact h.co
theorem NS{a:Rt}(h:a.ok):IntKind.i64.wrap (-a.n)= -a.n:=by have h1:=h.num;exact Cb oQ oQ
theorem nA{n d:Int}(hd:0<d): -((d-1-n)/d)=n/d:=by
 have h1:=Int.mul_ediv_add_emod n d
 have h2:=jv n (show d≠0 by omega)
 have h3:=jg n hd
 generalize n/d=q at*
 generalize n%d=r at*
 have e:d-1-n=(d-1-r)+d*(-q):=by rw[←h1,Int.mul_neg];omega
 rw[e,Int.add_mul_ediv_left _ _ (show d≠0 by omega),Int.ediv_eq_zero_of_lt oQ (by omega)]
 omega
theorem bW{m d:Int}(hd:0<d)(hm:0≤m):0≤m/d∧m/d≤m:=⟨Int.ediv_nonneg hm oQ,Int.ediv_le_self d hm⟩
def EG(n d:Int):Prop:= -4000000000000000000≤n∧n≤4000000000000000000∧0<d∧d≤4000000000000000000
theorem EH{n d:Int}(h:EG n d)(hn:n<0):IntKind.i64.wrap (-(IntKind.i64.wrap ((IntKind.i64.wrap (IntKind.i64.wrap (d-1)-n)).tdiv d)))=n/d:=by
 obtain⟨h1,h2,h3,h4⟩:=h
 rw[Cb (i:=d-1) oQ oQ,Cb (i:=d-1-n) oQ oQ,ik (by omega)]
 have hb:=bW h3 (show 0≤d-1-n by omega)
 rw[Cb (i:=(d-1-n)/d) oQ oQ,Cb oQ oQ,nA h3]
theorem EI{n d:Int}(h:EG n d)(hn:0≤n):IntKind.i64.wrap (n.tdiv d)=n/d:=by
 obtain⟨h1,h2,h3,h4⟩:=h
 rw[ik hn]
 have hb:=bW h3 hn
 exact Cb oQ oQ
def Tc(a:Rt)(d:Int):Int:=(2*a.n*d+a.d)/(2*a.d)
def gF(a:Rt)(d:Int):Int:=2*a.n*d+a.d
theorem KL{x k:Int}(hx:x.natAbs≤1000000000)(hk:0≤k∧k≤1000000): -2000000000000000≤2*x*k∧2*x*k≤2000000000000000:=by
 have h:(2*x*k).natAbs≤2*1000000000*1000000:=by
   rw[je,je]
   exact kq (kq (av _) hx) oQ
 omega
theorem nB{a:Rt}(ha:a.ok){d:Int}(hd:1≤d∧d≤1000000):IntKind.i64.wrap (IntKind.i64.wrap (IntKind.i64.wrap (2*a.n)*d)+a.d)=gF a d∧IntKind.i64.wrap (2*a.d)=2*a.d∧EG (gF a d) (2*a.d):=by
 have h0:=ha.num
 have h1:=ha.pos
 have h2:=ha.den
 have h3:=KL h0 (k:=d) oQ
 refine⟨?_,Cb oQ oQ,?_⟩
 · rw[Cb (i:=2*a.n) oQ oQ,Cb (i:=2*a.n*d) oQ oQ,Cb oQ (by omega)];rfl
 unfold EG gF;omega
theorem rT{a:Rt}(ha:a.ok){d:Int}(hd:1≤d∧d≤1000000):F8 (Tc a d):=by
 have h0:=ha.num
 have h1:=ha.pos
 have h2:=ha.den
 have h3:=KL h0 (k:=d) oQ
 show F8 ((2*a.n*d+a.d)/(2*a.d))
 generalize 2*a.n*d=m at*
 have hl: -(3000000000000000:Int)≤(m+a.d)/(2*a.d):=by
   refine Int.le_ediv_of_mul_le oQ ?_
   have: -(3000000000000000:Int)*(2*a.d)≤ -(3000000000000000:Int)*2:=by
     refine kc oQ oQ
   omega
 have hu:(m+a.d)/(2*a.d)<4000000000000000:=by
   refine Int.ediv_lt_of_lt_mul oQ ?_
   have:(4000000000000000:Int)*2≤4000000000000000*(2*a.d):=Int.mul_le_mul_of_nonneg_left oQ oQ
   omega
 exact⟨by omega,by omega⟩
def Mb(a lo hi:Rt):Rt:=if L8 (a.n*lo.d) (lo.n*a.d)<0 then lo else if 0<L8 (a.n*hi.d) (hi.n*a.d)then hi else a
theorem nC{a b:Rt}(ha:a.ok)(hb:b.ok):IntKind.i64.wrap (a.n*b.d)=a.n*b.d:=by
 have h:=mA ha.num hb.d'
 exact Cb oQ oQ
theorem Po{c n:Int}(hc:F8 c)(hn:0<n):0≤A6 c n∧A6 c n<n:=by
 unfold A6
 obtain⟨h1,h2⟩:=hc
 split
 · rw[Cb (i:=c+1) oQ oQ,Cb oQ oQ,ku (by omega)];exact⟨jv _ oQ,jg _ hn⟩
 rw[ku (by omega)];exact⟨jv _ oQ,jg _ hn⟩
theorem OwnS.els{α:Type}{enc:α→Array Go.Value}{b k n cp:Nat}{e:TypeId}{w:World}{ad:Option Addr}{xs:List α}(h:OwnS w b e k enc (.slice ad n cp) xs)(hk:∀x,(enc x).size=k):Els w ad k enc xs:=by
 obtain⟨ad',cp',e,hE⟩:=h.sl hk
 injection e with e1
 rw[e1];exact hE
theorem J7(f:Fact):Cw f f=true:=by simp[Cw]
theorem Xq:∀(l:List Fact),Kh l l=true
 |[]=>rfl
 |x::l=>by rw[Kh,J7,Xq l];rfl
theorem gG(b:Base):Sv b b=true:=Xp fun _ _=>Xq _
theorem nD{f:Fact}(h:Bw f=true):f.Day≤100000:=by
 have:=Lg h
 simp only[preB,df,f6]at this
 omega
def BaseV(w:World)(v:Go.Value)(b:Base):Prop:=∃bc,v=.agg bc∧BaseC w bc b
theorem BaseV.up{w w':World}{v:Go.Value}{b:Base}(h:BaseV w v b)(u:Up w w'):BaseV w' v b:=let⟨bc,e,hC⟩:=h;⟨bc,e,hC.up u⟩
theorem rU{f g:Fact}(hf:Bw f=true)(hg:Bw g=true)(h:Bm f=Bm g):f.Kind=g.Kind:=by
 have kf:=Dq hf
 have kg:=Dq hg
 unfold Bm Pf at h
 rw[ak hf,ak hg]at h
 exact(T9 (r:=Cc (Fe (Fo f.Kind) f)) (s:=Cc (Fe (Fo g.Kind) g)) (a:=f.Kind) (b:=g.Kind) ⟨by omega,by omega⟩ ⟨by omega,by omega⟩ h).1
theorem Y7:∀(a b:List UInt8),Go.Lib.compareBytes b a= - Go.Lib.compareBytes a b
 |[],[]=>rfl
 |[],_::_=>rfl
 |_::_,[]=>rfl
 |x::a,y::b=>by
   unfold Go.Lib.compareBytes
   by_cases h1:x<y
   · have h2:¬y<x:=by rw[gh]at*;omega
     rw[ak h1,ae h2,ak h1];rfl
   by_cases h2:y<x
   · rw[ak h2,ae h1,ak h2]
   rw[ae h2,ae h1,ae h1,ae h2];exact Y7 a b
theorem kN:∀{a b:List UInt8},Go.Lib.compareBytes a b=0→a=b
 |[],[],_=>rfl
 |[],_::_,h=>by simp[Go.Lib.compareBytes]at h
 |_::_,[],h=>by simp[Go.Lib.compareBytes]at h
 |x::a,y::b,h=>by
   unfold Go.Lib.compareBytes at h
   by_cases h1:x<y
   · rw[ak h1]at h;cases h
   by_cases h2:y<x
   · rw[ae h1,ak h2]at h;cases h
   rw[ae h1,ae h2]at h
   rw[kN h,show x=y from UInt8.toNat_inj.1 (by rw[gh]at h1 h2;omega)]
theorem yJ(a:List UInt8):Go.Lib.compareBytes a a=0:=by have:=Y7 a a;omega
theorem bX:∀{a b c:List UInt8},0<Go.Lib.compareBytes a b→0<Go.Lib.compareBytes b c→0<Go.Lib.compareBytes a c
 |[],[],_,h,_=>by simp[Go.Lib.compareBytes]at h
 |[],_::_,_,h,_=>by simp[Go.Lib.compareBytes]at h
 |_::_,[],[],_,h=>by simp[Go.Lib.compareBytes]at h
 |_::_,[],_::_,_,h=>by simp[Go.Lib.compareBytes]at h
 |_::_,_::_,[],_,_=>by simp[Go.Lib.compareBytes]
 |x::a,y::b,z::c,h,k=>by
   unfold Go.Lib.compareBytes at h k⊢
   by_cases h1:x<y
   · rw[ak h1]at h;omega
   by_cases k1:y<z
   · rw[ak k1]at k;omega
   rw[ae h1]at h
   rw[ae k1]at k
   have e1:¬x<z:=by rw[gh]at*;omega
   rw[ae e1]
   by_cases h2:y<x
   · rw[ak (show z<x by rw[gh]at*;omega)];decide
   by_cases k2:z<y
   · rw[ak (show z<x by rw[gh]at*;omega)];decide
   rw[ae h2]at h
   rw[ae k2]at k
   rw[ae (show ¬z<x by rw[gh]at*;omega)]
   exact bX h k
theorem Is{a b:Fact}:Dz a b=true↔Bw a=true∧Bw b=true∧Bm a=Bm b∧(b.Version<a.Version∨(a.Version=b.Version∧0<Go.Lib.compareBytes (Hb a) (Hb b))):=by
 unfold Dz
 simp only[aw,f8,fi,beq_iff_eq,and_assoc]
theorem bY(a:Fact):Dz a a=false:=by
 rw[dv]
 intro h
 have:=(Is.1 h).2.2.2
 rw[yJ]at this
 omega
theorem gH{a b c:Fact}(h:Dz a b=true)(k:Dz b c=true):Dz a c=true:=by
 obtain⟨h1,h2,h3,h4⟩:=Is.1 h
 obtain⟨k1,k2,k3,k4⟩:=Is.1 k
 refine Is.2 ⟨h1,k2,h3.trans k3,?_⟩
 rcases h4 with h4|⟨h4,h5⟩<;>rcases k4 with k4|⟨k4,k5⟩
 · exact .inl oQ
 · exact .inl oQ
 · exact .inl oQ
 exact .inr ⟨by omega,bX h5 k5⟩
theorem N9{f:Fact}{o o':Nat}{n:Int}(h:E6 o=true)(h':E6 o'=true):Fk (S9 f o n) o'=if o=o' then n else Fk f o':=by
 rcases Dh h with rfl|rfl|rfl|rfl|rfl|rfl|rfl|rfl|rfl|rfl|rfl|rfl|rfl|rfl<;>rcases Dh h' with rfl|rfl|rfl|rfl|rfl|rfl|rfl|rfl|rfl|rfl|rfl|rfl|rfl|rfl<;>rfl
theorem rV{f:Fact}{o:Nat}{n:Int}(h:E6 o=true):(S9 f o n).Text=f.Text:=by
 rcases Dh h with rfl|rfl|rfl|rfl|rfl|rfl|rfl|rfl|rfl|rfl|rfl|rfl|rfl|rfl<;>rfl
theorem bZ:∀{fs:List Fld}{f g:Fact},(∀x∈fs,E6 x.off=true∧Mm x.lo∧Mm x.hi)→Ih fs f=some g→(∀o,E6 o=true→Fk g o≠0→Fk f o=Fk g o)∧(∀o,E6 o=true→(∀x∈fs,x.off≠o)→Fk f o=Fk g o)∧g.Text=f.Text∧∀x∈fs,Mm (Fk f x.off)
 |[],f,g,_,h=>by cases h;exact⟨fun _ _ _=>rfl,fun _ _ _=>rfl,rfl,fun x hx=>by cases hx⟩
 |x::fs,f,g,hf,h=>by
   unfold Ih at h
   split at h
   · cases h
   rename_i hx
   have ok:=hf x bp
   obtain⟨h1,h2,h3,h4⟩:=bZ (fun y hy=>hf y (bw _ hy)) h
   refine⟨fun o ho hne=>?_,fun o ho hn=>?_,h3.trans (rV ok.1),fun y hy=>?_⟩
   · have:=h1 o ho hne
     rw[N9 ok.1 ho]at this
     by_cases e:x.off=o
     · rw[ak e]at this;exact absurd this.symm hne
     rwa [ae e]at this
   · have:=h2 o ho (fun y hy=>hn y (bw _ hy))
     rwa [N9 ok.1 ho,ae (hn x bp)]at this
   have hb:Mm (Fk f x.off):=by
     have:=ok.2.1.1
     have:=ok.2.2.2
     exact⟨by omega,by omega⟩
   rcases ap.1 hy with rfl|hy
   · exact hb
   have:=h4 y hy
   rw[N9 ok.1 (hf y (bw _ hy)).1]at this
   by_cases e:x.off=y.off
   · rw[←e];exact hb
   rwa [ae e]at this
theorem U5(k:Int):∀x∈fieldsOf k,E6 x.off=true∧Mm x.lo∧Mm x.hi:=by
 intro x hx
 have h:∀l∈Pc,∀y∈l,(E6 y.off&&decide (-4611686018427387903≤y.lo)&&decide (y.lo≤4611686018427387903)&&decide (-4611686018427387903≤y.hi)&&decide (y.hi≤4611686018427387903))=true:=by decide
 unfold fieldsOf at hx
 rw[d8]at hx
 cases hl:Pc[k.toNat]? with
 |none=>rw[hl]at hx;simp at hx
 |some l=>
   rw[hl]at hx
   have:=h l (am hl) x (by simpa using hx)
   simp only[aw,fi]at this
   exact⟨this.1.1.1.1,⟨this.1.1.1.2,this.1.1.2⟩,⟨this.1.2,this.2⟩⟩
theorem kO{f g:Fact}(h:Cw f g=true):(∀o,E6 o=true→Fk f o=Fk g o)∧f.Text.toList=g.Text.toList:=by
 simp only[Cw,aw,beq_iff_eq]at h
 obtain⟨_,h1,_,_,_,h5,h6,h7,h8,h9,h10,h11,h12,h13,h14,h15,h16,h17,h18⟩:=h
 refine⟨fun o ho=>?_,h18⟩
 rcases Dh ho with rfl|rfl|rfl|rfl|rfl|rfl|rfl|rfl|rfl|rfl|rfl|rfl|rfl|rfl
 · exact h1
 · exact h5
 · exact h6
 · exact h7
 · exact h8
 · exact h9
 · exact h10
 · exact h11
 · exact h12
 · exact h13
 · exact h14
 · exact h15
 · exact h16
 exact h17
theorem nE(k v d:Int)(g:Bool){o:Nat}(h:E6 o=true):Fk (Ug k v d g) o=0:=by
 rcases Dh h with rfl|rfl|rfl|rfl|rfl|rfl|rfl|rfl|rfl|rfl|rfl|rfl|rfl|rfl<;>rfl
theorem rW(g:Fact)(t:ByteArray){o:Nat}(h:E6 o=true):Fk { g with Text:=t } o=Fk g o:=by
 rcases Dh h with rfl|rfl|rfl|rfl|rfl|rfl|rfl|rfl|rfl|rfl|rfl|rfl|rfl|rfl<;>rfl
theorem It{f:Fact}(h:Bw f=true):(∀o,E6 o=true→(∀x∈fieldsOf f.Kind,x.off≠o)→Fk f o=0)∧(∀x∈fieldsOf f.Kind,Mm (Fk f x.off))∧(Ey f.Kind=false→f.Text.toList=[]):=by
 unfold Bw at h
 rw[aw,aw]at h
 have h3:=h.2.2
 cases hr:Ih (fieldsOf f.Kind) f with
 |none=>rw[hr]at h3;cases h3
 |some g=>
   rw[hr]at h3
   obtain⟨r1,r2,r3,r4⟩:=bZ (U5 f.Kind) hr
   obtain⟨e1,e2⟩:=kO h3
   have z:∀o,E6 o=true→Fk g o=0:=fun o ho=>by
     have:=e1 o ho
     rw[nE _ _ _ _ ho]at this
     split at this
     · rwa [rW _ _ ho]at this
     exact this
   refine⟨fun o ho hn=>(r2 o ho hn).trans (z o ho),r4,fun ht=>?_⟩
   rw[ht]at e2
   rw[←r3]
   rw[ae bi]at e2
   rw[e2,ByteArray.toList_eq];rfl
theorem U6{a b:ByteArray}(h:a.toList=b.toList):a=b:=by
 rw[ByteArray.toList_eq,ByteArray.toList_eq]at h
 cases a;cases b
 exact a_ ByteArray.mk (Array.toList_inj.1 h)
theorem Qw{a b:Fact}(hk:a.Kind=b.Kind)(hv:a.Version=b.Version)(hd:a.Day=b.Day)(hg:a.Gone=b.Gone)(ht:a.Text=b.Text)(h:∀o,E6 o=true→Fk a o=Fk b o):a=b:=by
 have h1:=h 1 rfl
 have h5:=h 5 rfl
 have h6:=h 6 rfl
 have h7:=h 7 rfl
 have h8:=h 8 rfl
 have h9:=h 9 rfl
 have h10:=h 10 rfl
 have h11:=h 11 rfl
 have h12:=h 12 rfl
 have h13:=h 13 rfl
 have h14:=h 14 rfl
 have h15:=h 15 rfl
 have h16:=h 16 rfl
 have h17:=h 17 rfl
 cases a;cases b
 rw[Fact.mk.injEq]
 exact⟨hk,h1,hv,hd,hg,h5,h6,h7,h8,h9,h10,h11,h12,h13,h14,h15,h16,h17,ht⟩
theorem rX{a b:Fact}(ha:Bw a=true)(hb:Bw b=true)(hk:a.Kind=b.Kind)(h:Hb a=Hb b):a=b:=by
 obtain⟨a1,a2,a3⟩:=It ha
 obtain⟨b1,b2,b3⟩:=It hb
 have pa:=Lg ha
 have pb:=Lg hb
 have ka:=Dq ha
 have kb:=Dq hb
 simp only[preB,df,f6]at pa pb
 have win:∀(f:Fact),(1≤f.Kind∧f.Kind≤11)→(¬f.Version<1∧¬1000000<f.Version∧¬f.Day<0∧¬100000<f.Day)→(∀x∈fieldsOf f.Kind,Mm (Fk f x.off))→∀x∈K7 f,Mm x:=fun f k p q x hx=>by
   unfold K7 at hx
   rcases be.1 hx with hx|hx
   · simp only[ap,j9,b8]at hx
     rcases hx with rfl|rfl|rfl|rfl
     · exact⟨by omega,by omega⟩
     · exact⟨by omega,by omega⟩
     · exact⟨by omega,by omega⟩
     unfold J5;split<;>exact⟨by omega,by omega⟩
   obtain⟨y,hy,rfl⟩:=aq.1 hx
   exact q y hy
 unfold Hb at h
 obtain⟨e1,e2⟩:=W7 (win a ka ⟨pa.1.1.1.1,pa.1.1.1.2,pa.1.1.2,pa.1.2⟩ a2) (win b kb ⟨pb.1.1.1.1,pb.1.1.1.2,pb.1.1.2,pb.1.2⟩ b2) (by unfold K7;simp[Fe,hk]) h
 unfold K7 at e1
 simp only[fl,eo,kj]at e1
 obtain⟨_,e3,e4,e5,e6⟩:=e1
 refine Qw hk e3 e4 ?_ ?_ fun o ho=>?_
 · revert e5
   unfold J5
   cases a.Gone<;>cases b.Gone<;>simp
 · by_cases ht:Ey a.Kind=true
   · rw[ak ht,ak (by rw[←hk];exact ht)]at e2
     unfold Yv at e2
     have:=(T9 (jJ (by simp;omega)) (jJ (by simp;omega)) e2).2
     cases ea:a.Text;cases eb:b.Text
     rw[ea,eb]at this
     exact a_ ByteArray.mk (Array.toList_inj.1 this)
   have ht:=dv.2 ht
   exact U6 ((a3 ht).trans (b3 (hk▸ht)).symm)
 by_cases hx:∃x∈fieldsOf a.Kind,x.off=o
 · obtain⟨x,hx,rfl⟩:=hx
   unfold Fe at e6
   rw[←hk]at e6
   exact List.map_inj_left.1 e6 x hx
 have hn:∀x∈fieldsOf a.Kind,x.off≠o:=fun x h1 h2=>hx ⟨x,h1,h2⟩
 rw[a1 o ho hn,b1 o ho (hk▸hn)]
theorem Mc{a b:Fact}(ha:Bw a=true)(hb:Bw b=true)(hk:Bm a=Bm b)(h1:Dz a b=false)(h2:Dz b a=false):a=b:=by
 rw[dv]at h1 h2
 have c1:¬(b.Version<a.Version∨(a.Version=b.Version∧0<Go.Lib.compareBytes (Hb a) (Hb b))):=fun c=>h1 (Is.2 ⟨ha,hb,hk,c⟩)
 have c2:¬(a.Version<b.Version∨(b.Version=a.Version∧0<Go.Lib.compareBytes (Hb b) (Hb a))):=fun c=>h2 (Is.2 ⟨hb,ha,hk.symm,c⟩)
 rw[Y7 (Hb a) (Hb b)]at c2
 exact rX ha hb (rU ha hb hk) (kN oQ)
def M6(l:List Fact)(d:Int)(f:Fact):Prop:=f∈l∧Bm f≠[]∧f.Day≤d∧∀g∈l,g.Day≤d→Dz g f=false
structure EInv(l:List Fact)(d:Int)(m:Dw):Prop where
 ok:MOk m
 top:∀p∈m,M6 l d p.2
 all:∀f∈l,Bm f≠[]→f.Day≤d→Bm f∈m.map (·.1)
theorem Oa{a b:Fact}(h:Dz a b=true):Bm a=Bm b:=(Is.1 h).2.2.1
theorem rY{m:Dw}{c:List UInt8}{x:Fact}{p:List UInt8×Fact}(h:p∈Kg m c x):p=(c,x)∨(p∈m∧p.1≠c):=by
 unfold Kg at h
 split at h
 · obtain⟨q,hq,e⟩:=aq.1 h
   split at e
   · exact .inl e.symm
   rename_i hc;subst e;exact .inr ⟨hq,hc⟩
 rename_i hn
 rcases be.1 h with h|h
 · exact .inr ⟨h,fun e=>hn (aq.2 ⟨p,h,e⟩)⟩
 exact .inl (aa.1 h)
theorem rZ{m:Dw}{c:List UInt8}{x:Fact}{k:List UInt8}(h:k∈m.map (·.1)∨k=c):k∈(Kg m c x).map (·.1):=by
 rw[Xl]
 split
 · rename_i hc;rcases h with h|rfl
   · exact h
   exact hc
 rcases h with h|rfl
 · exact dw _ h
 simp
theorem U7{l:List Fact}{d:Int}{x f:Fact}(h:M6 l d f)(hx:x.Day≤d→Dz x f=false):M6 (l++[x]) d f:=by
 refine⟨dw _ h.1,h.2.1,h.2.2.1,fun g hg hd=>?_⟩
 rcases be.1 hg with hg|hg
 · exact h.2.2.2 g hg hd
 cases aa.1 hg;exact hx hd
theorem EInv.step{l:List Fact}{d:Int}{m:Dw}(h:EInv l d m)(x:Fact):EInv (l++[x]) d (Cy d m x):=by
 by_cases hc:Bm x=[]∨d<x.Day
 · rw[N6 hc]
   refine⟨h.ok,fun p hp=>U7 (h.top p hp) fun hd=>?_,fun f hf hk hd=>?_⟩
   · rw[dv]
     intro e
     rcases hc with hc|hc
     · exact(h.top p hp).2.1 ((Oa e).symm.trans hc)
     omega
   rcases be.1 hf with hf|hf
   · exact h.all f hf hk hd
   cases aa.1 hf
   rcases hc with hc|hc
   · exact absurd hc hk
   omega
 have hk:Bm x≠[]:=fun e=>hc (.inl e)
 have hd:x.Day≤d:=by
   by_cases hd:x.Day≤d
   · exact hd
   exact absurd (.inr oQ) hc
 have others:∀p∈m,p.1≠Bm x→M6 (l++[x]) d p.2:=fun p hp hne=>U7 (h.top p hp) fun _=>by
   rw[dv]
   intro e
   exact hne ((h.ok p hp).1.trans (Oa e).symm)
 have put:(∀g∈l,g.Day≤d→Dz g x=false)→EInv (l++[x]) d (Kg m (Bm x) x):=fun hx=>by
   refine⟨h.ok.set (Hh hk),fun p hp=>?_,fun f hf hkf hdf=>?_⟩
   · rcases rY hp with rfl|⟨h1,h2⟩
     · refine⟨by simp,hk,hd,fun g hg hdg=>?_⟩
       rcases be.1 hg with hg|hg
       · exact hx g hg hdg
       cases aa.1 hg;exact bY x
     exact others p h1 h2
   refine rZ ?_
   rcases be.1 hf with hf|hf
   · exact .inl (h.all f hf hkf hdf)
   cases aa.1 hf;exact .inr rfl
 cases hg:Fi m (Bm x)with
 |none=>
   rw[Ut hc hg]
   refine put fun g hgl hgd=>?_
   rw[dv]
   intro e
   have e1:=Oa e
   have:=h.all g hgl (by rw[e1];exact hk) hgd
   rw[e1]at this
   have hno:=Lj hg
   rw[Jq]at hno
   exact hno this
 |some old=>
   have hmem:∃p∈m,p.1=Bm x∧p.2=old:=by
     unfold Fi at hg
     rw[fp]at hg
     obtain⟨p,hp,e⟩:=hg
     have h2:(p.1==Bm x)=true:=gz (p:=fun p:List UInt8×Fact=>p.1==Bm x) hp
     exact⟨p,d_ hp,eq_of_beq h2,e⟩
   obtain⟨p,hp,hpk,rfl⟩:=hmem
   cases hq:Dz x p.2 with
   |true=>
     rw[Uu hc hg hq]
     refine put fun g hgl hgd=>?_
     rw[dv]
     intro e
     have:=(h.top p hp).2.2.2 g hgl hgd
     rw[gH e hq]at this
     cases this
   |false=>
     rw[Uv hc hg hq]
     refine⟨h.ok,fun q hq'=>?_,fun f hf hkf hdf=>?_⟩
     · refine U7 (h.top q hq') fun _=>?_
       rw[dv]
       intro e
       have e1:=Oa e
       have e2:=(h.ok q hq').1
       have e3:q.1=p.1:=by rw[e2,←e1,hpk]
       have n:=Hi
       by_cases hqp:q.2=p.2
       · rw[hqp,hq]at e;cases e
       exact absurd (Mc (h.ok q hq').2 (h.ok p hp).2 (by rw[←e2,←(h.ok p hp).1,e3]) ((h.top p hp).2.2.2 _ (h.top q hq').1 (h.top q hq').2.2.1) ((h.top q hq').2.2.2 _ (h.top p hp).1 (h.top p hp).2.2.1)) hqp
     rcases be.1 hf with hf|hf
     · exact h.all f hf hkf hdf
     cases aa.1 hf
     exact aq.2 ⟨p,hp,hpk⟩
theorem M7(l:List Fact)(d:Int):EInv l d (Bj l d):=by
 have key:∀(r l:List Fact)(m:Dw),EInv l d m→EInv (l++r) d (r.foldl (Cy d) m):=by
   intro r
   induction r with
   |nil=>intro l m h;rw[dy];exact h
   |cons x r ih=>intro l m h;have:=ih (l++[x]) _ (h.step x);rwa [dm]at this
 exact key l [] [] ⟨fun p hp=>(by cases hp),fun p hp=>(by cases hp),fun f hf=>(by cases hf)⟩
theorem Ll{l:List Fact}{d:Int}{f:Fact}:f∈Fp (Bj l d)↔M6 l d f:=by
 have h:=M7 l d
 rw[Ii h.ok]
 constructor
 · exact fun hf=>h.top _ hf
 intro hf
 obtain⟨p,hp,e⟩:=aq.1 (h.all f hf.1 hf.2.1 hf.2.2.1)
 have e:p.1=Bm f:=e
 have hpe:=h.top p hp
 have:p.2=f:=Mc (h.ok p hp).2 (Hh hf.2.1) ((h.ok p hp).1.symm.trans e) (hf.2.2.2 _ hpe.1 hpe.2.2.1) (hpe.2.2.2 _ hf.1 hf.2.2.1)
 rw[←e,←this];exact hp
theorem Jl(l:List Fact)(d:Int):(Fp (Bj l d)).Nodup:=Jk (f:=Bm) (by rw[Su (M7 l d).ok];exact Hi l d)
theorem R1{α:Type}{enc:α→Array Go.Value}{k:Nat}(hk:∀x,(enc x).size=k):∀xs:List α,(xs.flatMap fun x=>(enc x).toList).length=xs.length*k
 |[]=>by simp
 |x::xs=>by rw[du,au,R1 hk xs,dc,hk,b9,er];omega
theorem nG{α:Type}{enc:α→Array Go.Value}{k i:Nat}(hk:∀x,(enc x).size=k){xs:List α}(hi:i≤xs.length):(xs.flatMap fun x=>(enc x).toList).take (i*k)=(xs.take i).flatMap fun x=>(enc x).toList:=by
 have hl:((xs.take i).flatMap fun x=>(enc x).toList).length=i*k:=by rw[R1 hk,bu,cv hi]
 rw[show(xs.flatMap fun x=>(enc x).toList)=((xs.take i).flatMap fun x=>(enc x).toList)++((xs.drop i).flatMap fun x=>(enc x).toList)by rw[←ip,dg],←hl,List.take_left']
 rfl
section
variable {P:Program}{n:Nat}{ds:List Deferred}{l:Env}{w:World}{d:Option Tmp}{ty:TypeId}{ps:String}{af:Array Edge}{g:Option (Nat×Bool)}
theorem Wh{α:Type}{enc:α→Array Go.Value}{T e:TypeId}{k i cp:Nat}{x:Operand}{z:Go.Value}{ad:Option Addr}{xs:List α}(hT:P.underlying T=some (.slice e))(hz:∀w,(zeroValue e).run P w=.ok z w)(hzs:z.cells.size=k)(h1:z.cells.all (·.oneCell')=true)(hk:∀x,(enc x).size=k)
   (hx:Val l x (.slice (if cp=i then ad else ad.map (·.add (i*k))) (xs.length-i) (cp-i)))(hi:i≤xs.length)(ho:OwnS w 0 e k enc (.slice ad xs.length cp) xs):
   REv P n ds l w ⟨d,.call { callee:=.builtin .clear,args:=#[x],argTypes:=#[T] },ty,ps,af,g⟩ (fun _ w'=>Stp (A8 e k enc (.slice ad xs.length cp) xs) (A8 e k enc (.slice ad i cp) (xs.take i)) w w'):=fun a ha=>by
 by_cases h0:xs.length-i=0
 · have hie:i=xs.length:=by omega
   subst hie
   refine⟨.tuple #[],w,?_,Fr.refl _ _,(show OwnS w 0 e k enc (.slice ad xs.length cp) (xs.take xs.length)by rw[br];exact ho),fun i h=>.inl h⟩
   have hx':=ha.ev hx
   rw[h0]at hx'
   simp only[execOp,resolve,invoke,builtin,Builtin.clear_]
   split at hx'<;>(try cases ad)<;>simp[hx',run_underlying hT,Result.andThen]
 obtain⟨hlen,⟨he,hn⟩|⟨g',cap',cur,he,_,hg,hcap,hcm,hcs,htake⟩⟩:=ho
 · exact absurd hn oQ
 cases he
 rw[ae (show ¬cp=i by omega)]at hx
 have hzc:(Builtin.zeroCells z.cells (xs.length-i)).size=(xs.length-i)*k:=by rw[←hzs];simp[Builtin.zeroCells]
 have hle:xs.length*k≤cur.size:=by rw[hcs];exact ii k hcap
 have hsum:i*k+(xs.length-i)*k=xs.length*k:=by rw[←er];congr 1;omega
 have hst:=run_storeCells_at P g' (i*k) e (Builtin.zeroCells z.cells (xs.length-i)).toList 0 cur w hg (by rw[dc,hzc];omega) (fun u hu=>by
   simp only[Builtin.zeroCells,Array.toList_map,aq]at hu
   obtain⟨i,_,rfl⟩:=hu
   by_cases hk:z.cells.size=0
   · have:z.cells=#[]:=Array.eq_empty_of_size_eq_zero hk
     simp[this]at*
   have hlt:i%z.cells.size<z.cells.size:=cx _ oQ
   rw[getElem!_pos z.cells _ hlt]
   exact bz.1 h1 _ (d9 hlt))
 refine⟨.tuple #[],w.setRow g' (cur.toList.take (i*k+0)++(Builtin.zeroCells z.cells (xs.length-i)).toList++cur.toList.drop (i*k+0+(Builtin.zeroCells z.cells (xs.length-i)).toList.length)).toArray,?_,⟨rfl,rfl,rfl,by simp,fun i hi hne=>setRow_other w g' i _ (fun e=>hne (by rw[e];rfl))⟩,?_,fun i h=>.inl h⟩
 · obtain⟨m,hm⟩:∃m,xs.length-i=m+1:=⟨xs.length-i-1,by omega⟩
   rw[hm]at hst hx⊢
   have ead:(⟨g',0,none⟩:Addr).add (i*k)=⟨g',i*k,none⟩:=by
     unfold Addr.add
     by_cases h:i*k=0<;>simp[h]
   simp only[el]at hx
   rw[ead]at hx
   simp[execOp,resolve,invoke,builtin,ha.ev hx,Builtin.clear_,run_underlying hT,Result.andThen,hz]
   rw[hst]
   simp
 show OwnS _ 0 e k enc (.slice (some ⟨g',0,none⟩) i cp) (xs.take i)
 have hf:=nG hk hi
 refine⟨by rw[R1 hk,bu,cv hi],.inr ⟨g',cp,_,by rw[bu,cv hi],ao _,setRow_heap w g' cur _ e (0,0) hg,by rw[bu];omega,hcm,?_,?_⟩⟩
 · simp only[i3,au,bu,gd,dc,hzc]
   omega
 rw[bu,cv hi,←hf,←htake]
 simp only[jp,dm]
 rw[List.take_append_of_le_length (by rw[bu,dc];omega),fq,fq]
 congr 1
 omega
theorem PEv.kP{T T' e:TypeId}{x:Operand}{ad:Option Addr}{m c:Nat}(hT:P.underlying T=some (.slice e))(hx:Val l x (.slice ad m c)):PEv P n ds l w ⟨d,.binOp .eql T x (.const (.slice none 0 0)) T',ty,ps,af,g⟩ (.bool ad.isNone):=fun a w' ha _=>by
 refine Cp ?_
 have e1:a.eval (.const (.slice none 0 0))=.slice none 0 0:=rfl
 rw[ha.ev hx,e1,Sem.run_bind]
 have:(eqGuard .eql T x (.const (.slice none 0 0)) (.slice ad m c) (.slice none 0 0)).run P w'=.ok () w':=by unfold eqGuard;rfl
 rw[this]
 exact Lib.run_eql_slice_nil w' T e ad m c 0 0 hT
end
def Ja{α:Type}(p:α→Bool)(l:List α)(j:Nat):List α:=(l.take j).filter fun x=> !p x
theorem R3{α:Type}(p:α→Bool)(l:List α)(j:Nat):(Ja p l j).length≤j:=bb (cm _ _) (by rw[bu];omega)
theorem Sw{α:Type}{p:α→Bool}{l:List α}{k:Nat}{x:α}(hx:l[k]?=some x)(hp:p x=true)(hn:∀y∈l.take k,p y=false):Ja p l (k+1)=l.take k:=by
 unfold Ja
 rw[C8 hx,cj,iz (by rw[hp];decide),ir,dy]
 exact f9.2 fun y hy=>by rw[hn y hy];rfl
theorem Xr{α:Type}{p:α→Bool}{l:List α}{k:Nat}{x:α}(hx:l[k]?=some x)(hp:p x=false):Ja p l (k+1)=Ja p l k++[x]:=by
 unfold Ja
 rw[C8 hx,cj,iy (by rw[hp];rfl),ir]
theorem cA{α:Type}{p:α→Bool}{l:List α}{k:Nat}{x:α}(hx:l[k]?=some x)(hp:p x=true):Ja p l (k+1)=Ja p l k:=by
 unfold Ja
 rw[C8 hx,cj,iz (by rw[hp];decide),ir,dy]
theorem gI{α:Type}{p:α→Bool}{l:List α}(hn:∀y∈l,p y=false):(l.filter fun x=> !p x)=l:=f9.2 fun y hy=>by rw[hn y hy];rfl
structure DelX{α:Type}(p:α→Bool)(l M:List α)(j:Nat):Prop where
 len:M.length=l.length
 kept:M.take (Ja p l j).length=Ja p l j
 rest:∀m,j≤m→M[m]?=l[m]?
theorem DelX.start{α:Type}{p:α→Bool}{l:List α}{k:Nat}{x:α}(hx:l[k]?=some x)(hp:p x=true)(hn:∀y∈l.take k,p y=false):DelX p l l (k+1):=by
 have hk:k<l.length:=(ai.1 hx).1
 refine⟨rfl,?_,fun _ _=>rfl⟩
 rw[Sw hx hp hn,bu,cv (by omega)]
theorem DelX.no{α:Type}{p:α→Bool}{l M:List α}{j:Nat}{x:α}(h:DelX p l M j)(hx:l[j]?=some x)(hp:p x=true):DelX p l M (j+1):=
 ⟨h.len,by rw[cA hx hp];exact h.kept,fun m hm=>h.rest m oQ⟩
theorem DelX.yes{α:Type}{p:α→Bool}{l M:List α}{j:Nat}{x:α}(h:DelX p l M j)(hx:l[j]?=some x)(hp:p x=false):DelX p l (M.set (Ja p l j).length x) (j+1):=by
 have hj:j<l.length:=(ai.1 hx).1
 have hk:=R3 p l j
 have hM:=h.len
 refine⟨by rw[fx,hM],?_,fun m hm=>?_⟩
 · rw[Xr hx hp,au,cl,List.take_succ_eq_append_getElem (by rw[fx];omega),List.getElem_set_self,List.take_set_of_le (av _),h.kept]
 rw[List.getElem?_set_ne (by omega)]
 exact h.rest m oQ
theorem nH{α:Type}{p:α→Bool}{l:List α}:Ja p l l.length=l.filter fun x=> !p x:=by unfold Ja;rw[br]
theorem OwnS.NT{α:Type}{enc:α→Array Go.Value}{b k m cp:Nat}{e:TypeId}{w:World}{ad:Option Addr}{xs:List α}(h:OwnS w b e k enc (.slice ad m cp) xs):xs.length≤cp:=by
 obtain⟨_,⟨he,hn⟩|⟨g',cap,cur,he,_,_,hcap,_⟩⟩:=h
 · cases he;omega
 cases he;exact hcap
section
variable {P:Program}{n:Nat}{ds:List Deferred}{l:Env}{w:World}{d:Option Tmp}{ty:TypeId}{ps:String}{af:Array Edge}{g:Option (Nat×Bool)}
theorem PEv.yK{T T':TypeId}{ms:Array (String×TypeId)}{x:Operand}(hT:P.underlying T=some (.interface ms))(hx:Val l x .nilIface):PEv P n ds l w ⟨d,.binOp .eql T x (.const .nilIface) T',ty,ps,af,g⟩ (.bool true):=fun a w' ha _=>by
 refine Cp ?_
 have e1:a.eval (.const .nilIface)=.nilIface:=rfl
 rw[ha.ev hx,e1,Sem.run_bind]
 have:(eqGuard .eql T x (.const .nilIface) .nilIface .nilIface).run P w'=.ok () w':=by unfold eqGuard;cases x<;>rfl
 rw[this]
 have h:∀d:Nat,(Op.equalIn (d+2) T .nilIface .nilIface).run P w'=.ok true w':=fun d=>by simp[Op.equalIn,run_underlying hT]
 simp only[binOp]
 simp[Op.equal,Op.maxDepth,h 9998]
end
theorem AggAt.pre{w:World}{B o:Nat}{a b:Array Value}(h:AggAt w B o (a++b)):AggAt w B o a:=fun j v hv=>h j v (by
 have hj:=(bh.1 hv).1
 rw[gg hj];exact hv)
def F1(bc:Array Value)(t c r:Int):Array Value:=bc++#[vi t,vi c,vi r]
theorem Iu{w:World}{bc:Array Value}{b:Base}(h:BaseC w bc b)(t c r:Int):(F1 bc t c r).size=14:=by unfold F1;rw[Array.size_append,h.size];rfl
theorem M9{w:World}{B:Nat}{bc:Array Value}{t c r:Int}{T:TypeId}(h:Blk w B (F1 bc t c r) T):AggAt w B 0 bc:=h.agg.pre
theorem Jr{w w0:World}{B:Nat}{bc:Array Value}{b:Base}{t c r:Int}{T:TypeId}(h:Blk w B (F1 bc t c r) T)(hC:BaseC w0 bc b)(j:Nat){v:Value}(hv:(#[vi t,vi c,vi r]:Array Value)[j]?=some v):w.cell? ⟨B,11+j,none⟩=some v:=
 h.cell (by
   unfold F1
   have:=hC.size
   rw[ie oQ,this,Nat.add_sub_cancel_left];exact hv)
theorem gJ{w:World}{B:Nat}{bc:Array Value}{t c r:Int}{T:TypeId}(h:Blk w B (F1 bc t c r) T){j:Nat}{v:Value}(hv:bc[j]?=some v):w.cell? ⟨B,j,none⟩=some v:=
 h.cell (by
   unfold F1
   rw[gg (bh.1 hv).1];exact hv)
def Lm(n:Int):Bool:=decide (-1000000≤n)&&decide (n≤1000000)
def Ez(T:List Fact)(r t:Int):Int:=if(Lc r t T).2&&Lm (Lc r t T).1.Value then(Lc r t T).1.Value else 0
theorem U8{T:List Fact}{r t:Int}(h:((Lc r t T).2&&Lm (Lc r t T).1.Value)=true):Ez T r t=(Lc r t T).1.Value:=ak h
theorem Y8{T:List Fact}{r t:Int}(h:((Lc r t T).2&&Lm (Lc r t T).1.Value)=false):Ez T r t=0:=ae (by rw[h];exact bi)
theorem Qx(T:List Fact)(r t:Int): -1000000≤Ez T r t∧Ez T r t≤1000000:=by
 cases h:(Lc r t T).2&&Lm (Lc r t T).1.Value with
 |false=>rw[Y8 h];omega
 |true=>
   rw[U8 h]
   rw[aw]at h
   have h2:=h.2
   unfold Lm at h2
   rw[aw]at h2
   exact⟨bj h2.1,bj h2.2⟩
def E7(m:Option Fact)(t:Int):Bool:= !m.isSome|| !Lm (m.getD Dc).Value||decide (t<(m.getD Dc).Time)
def E3(M T:List Fact)(r:Int)(x:Fact)(t:Int):Int×Bool:=
 if E7 (M.find? fun y=>decide (y.ID=x.ID)) t then(0,false)else(((M.find? fun y=>decide (y.ID=x.ID)).getD Dc).Value-Ez T r x.Time,true)
theorem Y9{M T:List Fact}{r:Int}{x:Fact}{t:Int}(h:E7 (M.find? fun y=>decide (y.ID=x.ID)) t=true):E3 M T r x t=(0,false):=ak h
theorem U9{M T:List Fact}{r:Int}{x:Fact}{t:Int}(h:E7 (M.find? fun y=>decide (y.ID=x.ID)) t=false):E3 M T r x t=(((M.find? fun y=>decide (y.ID=x.ID)).getD Dc).Value-Ez T r x.Time,true):=ae (by rw[h];exact bi)
theorem gK{m:Option Fact}{t:Int}(h:E7 m t=false): -1000000≤(m.getD Dc).Value∧(m.getD Dc).Value≤1000000:=by
 unfold E7 at h
 simp only[df,iv]at h
 have h2:=h.1.2
 unfold Lm at h2
 rw[aw]at h2
 exact⟨bj h2.1,bj h2.2⟩
theorem Za(M T:List Fact)(r:Int)(x:Fact)(t:Int): -2000000≤(E3 M T r x t).1∧(E3 M T r x t).1≤2000000:=by
 cases h:E7 (M.find? fun y=>decide (y.ID=x.ID)) t with
 |true=>rw[Y9 h];exact⟨by decide,by decide⟩
 |false=>
   rw[U9 h]
   have h1:=gK h
   have h2:=Qx T r x.Time
   show -2000000≤_-_∧_-_≤2000000
   omega
def CondOk(P:Program)(w:World)(v:Value)(p:Fact→Bool):Prop:=∃cf lb,v=.func (.func cf) #[] lb∧(∀args w,(callFunc cf args).run P w=.ok (.enter cf args) w)∧∀W,Up w W→∀x:Fact,Ret P cf (#[.agg x.cells]++lb) W fun r W'=>r=.bool (p x)∧Up W W'
theorem CondOk.up{P:Program}{w w':World}{v:Value}{p:Fact→Bool}(h:CondOk P w v p)(u:Up w w'):CondOk P w' v p:=
 let⟨cf,lb,e,he,hp⟩:=h
 ⟨cf,lb,e,he,fun W k=>hp W (u.trans k)⟩
structure Cnd where
 cf:Nat
 lb:Array Value
 p:Fact→Bool
def Cnd.v(q:Cnd):Value:=.func (.func q.cf) #[] q.lb
def Cnd.cells(q:Cnd):Array Value:=#[q.v]
def CndsOk(P:Program)(w:World)(qs:List Cnd):Prop:=∀q∈qs,CondOk P w q.v q.p
theorem CndsOk.up{P:Program}{w w':World}{qs:List Cnd}(h:CndsOk P w qs)(u:Up w w'):CndsOk P w' qs:=fun q hq=>(h q hq).up u
def Va(qs:List Cnd)(x:Fact):Bool:=qs.all fun q=>q.p x
theorem nJ{qs:List Cnd}{k:Nat}{q:Cnd}{g:Cnd→Bool}(h:qs[k]?=some q)(hk:∀y∈qs.take k,g y=false)(hx:g q=false):∀y∈qs.take (k+1),g y=false:=fun y hy=>by
 rw[cn,h]at hy
 rcases be.1 hy with hy|hy
 · exact hk y hy
 cases aa.1 hy;exact hx
theorem EJ{qs:List Cnd}{k:Nat}{q:Cnd}{g:Cnd→Bool}(h:qs[k]?=some q)(hx:g q=true):qs.any g=true:=fm.2 ⟨q,am h,hx⟩
theorem any_none{qs:List Cnd}{g:Cnd→Bool}(h:∀y∈qs,g y=false):qs.any g=false:=List.any_eq_false.2 fun y hy=>by rw[h y hy];exact bi
theorem sA(qs:List Cnd)(x:Fact):(qs.any fun q=> !q.p x)= !Va qs x:=by
 unfold Va
 rw[List.not_all_eq_any_not]
theorem cB(qs:List Cnd)(l:List Fact):(l.filter fun x=> !(!Va qs x))=l.filter fun x=>Va qs x:=by simp only[Bool.not_not]
theorem CndsOk.cons{P:Program}{w:World}{q:Cnd}{qs:List Cnd}(h:CondOk P w q.v q.p)(hs:CndsOk P w qs):CndsOk P w (q::qs):=fun y hy=>(ap.1 hy).elim (fun e=>e▸h) (fun h=>hs y h)
theorem CndsOk.nil{P:Program}{w:World}:CndsOk P w []:=fun _ h=>by cases h
def Md(b:Base)(t c r:Int):List Fact:=(G6 b t c).filter fun x=>decide (x.Recipe=r)
theorem R4(b:Base)(t c:Int):(G6 b t c).length≤b.Processes.length:=by
 unfold G6
 rw[show(Hl runK (b.Processes.filter (I3 t c))).length=(b.Processes.filter (I3 t c)).length from(El _).same.length]
 exact cm _ _
theorem Iv(b:Base)(t c r:Int):(Md b t c r).length≤b.Processes.length:=bb (cm _ _) (R4 b t c)
theorem NU{a b:Int}:Ce (Fu (Ce a 4) (Ce b 4)) ((Ce a 4).d*(Ce b 4).d)=Ce (a+b) 4:=by
 have h1:=G9 (n:=a) (d:=4) cQ
 have h2:=G9 (n:=b) (d:=4) cQ
 have p1:=K4 (n:=a) (d:=4) cQ
 have p2:=K4 (n:=b) (d:=4) cQ
 generalize Ce a 4=x at*
 generalize Ce b 4=y at*
 refine Tf (Int.mul_pos p1 p2) cQ ?_
 show(x.n*y.d+y.n*x.d)*4=(a+b)*(x.d*y.d)
 calc (x.n*y.d+y.n*x.d)*4=(x.n*4)*y.d+(y.n*4)*x.d:=by rw[ke];ac_rfl
   _=(a*x.d)*y.d+(b*y.d)*x.d:=by rw[h1,h2]
   _=(a+b)*(x.d*y.d):=by rw[ke];ac_rfl
theorem nK{a b:Int}(h:(a+b).natAbs≤1000000000):Ow (Fu (Ce a 4) (Ce b 4)) ((Ce a 4).d*(Ce b 4).d)=true:=by
 have h1:=G9 (n:=a) (d:=4) cQ
 have h2:=G9 (n:=b) (d:=4) cQ
 have p1:=K4 (n:=a) (d:=4) cQ
 have p2:=K4 (n:=b) (d:=4) cQ
 generalize Ce a 4=x at*
 generalize Ce b 4=y at*
 refine jQ (v':=4) (u':=a+b) (Int.mul_pos p1 p2) cQ ?_ (Hf h cQ)
 show(x.n*y.d+y.n*x.d)*4=(a+b)*(x.d*y.d)
 calc (x.n*y.d+y.n*x.d)*4=(x.n*4)*y.d+(y.n*4)*x.d:=by rw[ke];ac_rfl
   _=(a*x.d)*y.d+(b*y.d)*x.d:=by rw[h1,h2]
   _=(a+b)*(x.d*y.d):=by rw[ke];ac_rfl
theorem Zb{a b:Int}(h:(a+b).natAbs≤1000000000):Ia (Fu (Ce a 4) (Ce b 4)) ((Ce a 4).d*(Ce b 4).d)=(Ce (a+b) 4,0):=by rw[Gq (nK h),NU]
def yL(a:Rt):Rt:=⟨-a.n,a.d⟩
theorem KM(T:Int):Ce T 1=Ce (4*T) 4:=Tf cQ cQ oQ
theorem KN(e:Int):yL (Ce e 4)=Ce (-e) 4:=by
 refine jO (K4 cQ) (K4 cQ) ?_ (Qd cQ) ?_
 · show Dd (-(Ce e 4).n) (Ce e 4).d=1
   unfold Dd
   rw[kw];exact Qd cQ
 have h1:=G9 (n:=e) (d:=4) cQ
 have h2:=G9 (n:= -e) (d:=4) cQ
 generalize Ce (-e) 4=y at*
 have p:(Ce e 4).d=(Ce e 4).d:=rfl
 show -(Ce e 4).n*y.d=y.n*(Ce e 4).d
 generalize Ce e 4=x at*
 refine jf (show(4:Int)≠0 by decide) ?_
 calc -x.n*y.d*4= -(x.n*4)*y.d:=by rw[il,il,il];ac_rfl
   _=(-e*y.d)*x.d:=by rw[h1,il,il,il];ac_rfl
   _=y.n*x.d*4:=by rw[←h2];ac_rfl
theorem kR{T e:Int}(h:(4*T-e).natAbs≤1000000000):Ia (Fu (Ce T 1) (yL (Ce e 4))) ((Ce T 1).d*(Ce e 4).d)=(Ce (4*T-e) 4,0):=by
 have hd:(Ce e 4).d=(Ce (-e) 4).d:=by rw[←KN];rfl
 rw[hd,KN,KM,show 4*T-e=4*T+ -e by omega]
 exact Zb (by rw[show 4*T+ -e=4*T-e by omega];exact h)
theorem NV(e:Int):Tc (Ce e 4) 1000=250*e:=by
 have h1:=G9 (n:=e) (d:=4) cQ
 have p1:=K4 (n:=e) (d:=4) cQ
 generalize Ce e 4=x at*
 show(2*x.n*1000+x.d)/(2*x.d)=250*e
 have e1:2*x.n*1000+x.d=x.d+(2*x.d)*(250*e):=by
   have:2*x.n*1000=500*(x.n*4):=by omega
   have h3:2*x.d*(250*e)=(2*250)*(e*x.d):=by ac_rfl
   rw[this,h1,h3]
   omega
 rw[e1,Int.add_mul_ediv_left _ _ oQ,Int.ediv_eq_zero_of_lt oQ (by omega)]
 omega
theorem kS{e:Int}(h:e.natAbs≤1000000000):Ia (Tc (Ce e 4) 1000) 1000=(Ce e 4,0):=by
 rw[NV,Gq (jQ (v':=4) (u':=e) cQ cQ oQ (Hf h cQ)),Tf (u':=e) (v':=4) cQ cQ (by omega)]
theorem Ip{e:Int}(h:e.natAbs≤1000000000):(Ce e 4).ok:=jP cQ (Hf h cQ)
theorem Oc{e:Int}(h:e.natAbs≤1000000000):(Ce e 1).ok:=jP cQ (Hf h cQ)
def G7(d:Int×Bool):Bool:=d.2&&(decide (d.1< -2)||decide (2<d.1))
def Fw(M T:List Fact)(r t:Int)(s:Int×List Int)(x:Fact):Int×List Int:=if G7 (E3 M T r x t)then(s.1+(E3 M T r x t).1,s.2++[x.ID])else s
def Jm(M T:List Fact)(r t:Int)(l:List Fact):Int×List Int:=l.foldl (Fw M T r t) (0,[])
theorem Xs{M T:List Fact}{r t:Int}{l:List Fact}{k:Nat}{x:Fact}(h:l[k]?=some x):Jm M T r t (l.take (k+1))=Fw M T r t (Jm M T r t (l.take k)) x:=by
 rw[C8 h,Jm,ew];rfl
theorem Zc{M T:List Fact}{r t:Int}{s:Int×List Int}{x:Fact}(h:G7 (E3 M T r x t)=true):Fw M T r t s x=(s.1+(E3 M T r x t).1,s.2++[x.ID]):=ak h
theorem gL{M T:List Fact}{r t:Int}{s:Int×List Int}{x:Fact}(h:G7 (E3 M T r x t)=false):Fw M T r t s x=s:=ae (by rw[h];exact bi)
theorem sB(M T:List Fact)(r t:Int):∀(l:List Fact)(s:Int×List Int),-2000000*(l.length:Int)≤(l.foldl (Fw M T r t) s).1-s.1∧(l.foldl (Fw M T r t) s).1-s.1≤2000000*(l.length:Int)∧(l.foldl (Fw M T r t) s).2.length≤s.2.length+l.length
 |[],s=>by simp
 |x::l,s=>by
   have h:=sB M T r t l (Fw M T r t s x)
   have hd:=Za M T r x t
   rw[gl]
   generalize l.foldl (Fw M T r t) (Fw M T r t s x)=q at*
   have hs: -2000000≤(Fw M T r t s x).1-s.1∧(Fw M T r t s x).1-s.1≤2000000∧(Fw M T r t s x).2.length≤s.2.length+1:=by
     cases hc:G7 (E3 M T r x t)with
     |true=>rw[Zc hc];dsimp only;rw[au];simp only[b9,da];omega
     |false=>rw[gL hc];omega
   rw[b9]
   push_cast
   omega
theorem Qy(M T:List Fact)(r t:Int)(l:List Fact): -2000000*(l.length:Int)≤(Jm M T r t l).1∧(Jm M T r t l).1≤2000000*(l.length:Int)∧(Jm M T r t l).2.length≤l.length:=by
 have h:=sB M T r t l (0,[])
 unfold Jm
 simp only[Int.sub_zero,da,dp]at h
 exact h
def D5(rs a:List Fact):List Fact:=rs.foldl (fun a y=>a.filter fun x=>decide (y.Time≤x.Time)) a
theorem cC{rs a:List Fact}{k:Nat}{y:Fact}(h:rs[k]?=some y):D5 (rs.take (k+1)) a=(D5 (rs.take k) a).filter fun x=>decide (y.Time≤x.Time):=by
 rw[C8 h,D5,ew];rfl
theorem Pp(rs:List Fact):∀a:List Fact,(D5 rs a).length≤a.length:=by
 induction rs with
 |nil=>exact fun _=>av _
 |cons y rs ih=>exact fun a=>bb (ih _) (cm _ _)
def Qz(t c time:Int)(x:Fact):Bool:=decide (x.Tool=t)&&decide (x.Chamber=c)&&decide (x.Time≤time)
def Ki(b:Base)(t c time:Int):List Fact:=b.Resets.filter (Qz t c time)
def gM(T E:Int):Rt:=Mb (Ce (4*T-E) 4) (Ce (-10000) 1) (Ce 10000 1)
structure Dec where
 run:Int
 par:Rt
 est:Rt
 uses:List Int
def Fa(b:Base)(t c r time:Int)(ahead:List Fact):Dec:=
 ⟨0,gM (Ez b.Targets r time) (Jm b.Measures b.Targets r time (D5 (Ki b t c time) ahead)).1,Ce (Jm b.Measures b.Targets r time (D5 (Ki b t c time) ahead)).1 4,(Jm b.Measures b.Targets r time (D5 (Ki b t c time) ahead)).2⟩
structure DecV where
 run:Int
 par:Rt
 est:Rt
 uv:Value
def DecV.cells(d:DecV):Array Value:=#[vi d.run,vi d.par.n,vi d.par.d,vi d.est.n,vi d.est.d,d.uv]
def Dec.v(d:Dec)(v:Value):DecV:=⟨d.run,d.par,d.est,v⟩
def rz:Rt:=⟨0,0⟩
theorem Q0{w:World}{B:Nat}{d:DecV}{T:TypeId}(h:Blk w B d.cells T):AggAt w B 3 d.est.cells:=fun j v hv=>h.cell (by
 match j with
 |0=>simpa[Rt.cells,DecV.cells]using hv
 |1=>simpa[Rt.cells,DecV.cells]using hv
 |j+2=>simp[Rt.cells]at hv)
theorem Q1(d:DecV)(h:d.uv.oneCell'=true):d.cells.all (·.oneCell')=true:=by simp[DecV.cells,show ∀i:Int,(vi i).oneCell'=true from fun _=>rfl,h]
def CArg(P:Program)(w:World)(v:Value)(p:Fact→Bool):Prop:=∃ad cp qs,v=.slice ad (List.length qs) cp∧Els w ad 1 Cnd.cells qs∧CndsOk P w qs∧qs.length≤100000∧∀x,Va qs x=p x
theorem CArg.up{P:Program}{w w':World}{v:Value}{p:Fact→Bool}(h:CArg P w v p)(u:Up w w'):CArg P w' v p:=
 let⟨ad,cp,qs,e,hE,hq,hl,hp⟩:=h
 ⟨ad,cp,qs,e,Els.up hE u,hq.up u,hl,hp⟩
theorem filter_eq{p q:Fact→Bool}(h:∀x,p x=q x)(l:List Fact):l.filter p=l.filter q:=by rw[show p=q from funext h]
theorem OwnS.sC{α:Type}{w:World}{b e k:Nat}{enc:α→Array Value}{v:Value}{xs:List α}(h:OwnS w b e k enc v xs)(hk:∀x,(enc x).size=k):v.oneCell'=true:=by
 obtain⟨ad,cp,rfl,_⟩:=h.sl hk
 rfl
def LL(B:Nat)(ad:Option Addr)(xs:List Fact):Prop:=xs=[]∨∀q,ad=some q→q.block≠B
theorem sD{w w':World}{ad:Option Addr}{xs:List Fact}{B:Nat}(h:Els w ad 19 Fact.cells xs)(f:Fr (fun i=>i=B) w w')(hn:LL B ad xs):Els w' ad 19 Fact.cells xs:=
 hn.elim (fun e=>by subst e;exact fun i x hx=>by simp at hx) (fun hn=>h.fr f (fun B o e hb=>hn _ e hb))
theorem yM{w:World}{ad:Option Addr}{xs:List Fact}{B:Nat}(h:Els w ad 19 Fact.cells xs)(hB:w.heap.size≤B):LL B ad xs:=by
 cases xs with
 |nil=>exact .inl rfl
 |cons x r=>
   refine .inr fun q hq=>?_
   obtain⟨B',o,e,hx⟩:=h 0 x rfl
   cases e.symm.trans hq
   have h1:=hx 0 (vi x.Kind) rfl
   unfold World.cell? at h1
   show B'≠B
   cases hb:w.heap[B']? with
   |none=>rw[hb]at h1;cases h1
   |some ob=>have:=lt_of_block hb;omega
theorem yN{w:World}{b e n cp:Nat}{ad:Option Addr}{xs:List Fact}{B:Nat}(h:OwnS w b e 19 Fact.cells (.slice ad n cp) xs)(hB:B<b):LL B ad xs:=by
 cases xs with
 |nil=>exact .inl rfl
 |cons x r=>
   refine .inr fun q hq=>?_
   obtain⟨g,rfl⟩:=h.OJ (by simp)
   cases hq
   have:=h.base g rfl
   show g≠B
   omega
theorem KO{w0 w w':World}{B:Nat}(h:Up w0 w)(f:Fr (fun i=>i=B) w w')(hB:w0.heap.size≤B):Up w0 w':=((h.fr (fun _=>False)).next f (fun i e=>.inr oQ)).fD (fun _ h=>h)
end Go.Wx
namespace Go.Proofs.YtbcnnkfopoiifaaGreatDoor
open Go.Proofs.Tryz
open Go.Wx Go.RowKit
theorem gN(bc:Array Go.Value)(b:Base)(r t:Int)(w:World)(hC:BaseC w bc b)(hl:b.Targets.length≤100000):Ret prog 225 #[.agg bc,vi r,vi t] w fun r0 w'=>r0=.tuple #[vi (Lc r t b.Targets).1.Value,.bool (Lc r t b.Targets).2]∧Up w w':=by
 obtain⟨w0,rfl,hS⟩:=W0 w
 obtain⟨v9,h9,hr9⟩:=hC.at9
 obtain⟨ad,cp,rfl,hE0⟩:=hr9
 refine cT 45 func225 rfl (Af (Ao (.bA rfl) rfl ?_))
 rintro _ w1 ⟨B3,rfl,NB3⟩
 replace hS:=hS.Bn NB3
 refine J (J (Ar (Aa (Ao (.Bi k_) rfl ?_))))
 rintro _ w2 ⟨B8,rfl,NB8⟩
 replace hS:=hS.Bn NB8
 refine Ar (Aa (J (Ar (Af (I (.fB 9 rfl) (I (.lb rfl (hS.b0.cell h9)) (I (.Df k6 (.t rfl)) (I (.move (.const _)) (Ai (Ap (A9 (σ:=Nat×Fact×Bool) (fun s w=>(s.1≤b.Targets.length)∧(s.2=Lc r t (b.Targets.take s.1))∧(Wx.Sep no w0 w [Ch B3 (bc) 39,Ch B8 (s.2.1.cells) 51])) (fun s=>[(15,.eq (vi (s.1:Int))),(9,.eq (.bool s.2.2))]) ([(1,.eq _),(2,.eq _),(6,.eq _),(7,.eq _),(8,.eq _),(13,.eq _),(14,.eq _)]) (fun s=>b.Targets.length-s.1) (0,Dc,false) ?_ tQ ?_)))))))))))
 ·exact⟨ao _,rfl,hS⟩
 rintro⟨k,f,fd⟩ w3 ⟨hk,ht,hS⟩
 change CW _ _ _ _ _ _ _ ([(15,.eq (vi (k:Int))),(9,.eq (.bool fd))]++_) _
 refine Af (I (.l2 rfl rfl) (Ar (CW.b rfl (fun h16=>?_) (fun h16=>?_))))
 ·replace h16:=dQ h16
  refine Ak (Ab (Al (Ap (Al ?_))))
  have hE:=Els.up hE0 hS.Cj
  refine Aa ?_
  obtain⟨x,hx⟩:=Av (xs:=b.Targets) (i:=k) oQ
  obtain⟨Bx,ox,ax,hcx⟩:=hE _ x hx
  refine I (.Ay k6 k7 (.t rfl) (.t rfl) oQ ax) (I (.lc rfl (hcx)) (Ao (.Bi k_) rfl ?_))
  rintro _ w4 ⟨B11,rfl,MB11⟩
  refine Bh (.A5 k7 rfl (.t rfl) (.t rfl) eQ MB11.blk rfl) ?_
  intro w5 LB11
  have NB11:=MB11.set LB11
  replace hcx:=hcx.up NB11.up
  replace hS:=hS.Bn NB11
  refine Ar (Aa (I (.fB 14 rfl) (I (.lb rfl (hS.b2.An rfl)) (Ac rfl (I (.eql (.t rfl) (.t rfl)) (Ac rfl (LW.gr rfl (fun hc=>PEv.fB 5 rfl) (LW.gr rfl (fun hc=>PEv.load ly vQ (hS.b2.An rfl)) (Dk rfl rfl (LW.gr rfl (fun hc=>PEv.leq vQ vQ) (I (.pa rfl (fun hp=>(by exact .cond rfl (by simp_all)))) (Ac rfl (Dk rfl rfl (LW.gr rfl (fun hc=>PEv.not vQ) (LW.gr rfl (fun hc=>PEv.move vQ) (E0 rfl rfl rfl rfl rfl rfl rfl (fun hc=>PEv.fB 5 rfl) (E0 rfl rfl rfl rfl rfl rfl rfl (fun hc=>PEv.load ly vQ (hS.b2.An rfl)) (E0 rfl rfl rfl rfl rfl rfl rfl (fun hc=>PEv.fB 5 rfl) (E0 rfl rfl rfl rfl rfl rfl rfl (fun hc=>PEv.load ly vQ (hS.b1.An rfl)) (E0 rfl rfl rfl rfl rfl rfl rfl (fun hc=>PEv.gtr vQ vQ) (LW.gr rfl (fun hc=>PEv.Ee vQ (fun hp=>(by exact .cond rfl (by simp_all)))) (I (.pa rfl (fun hp=>(by exact .cond rfl (by simp_all)))) (Ai (CW.b rfl (fun h39=>?_) (fun h39=>?_)))))))))))))))))))))))))
  ·replace h39:=dQ h39
   refine Aa (I (.lc rfl (hS.b2.agg)) (Bh (.A5 k7 rfl (.t rfl) (.t rfl) eQ hS.b1 rfl) ?_))
   intro w6 Nw6
   replace hS:=hS.Co 1 rfl Nw6
   refine J (LW.nil (Ae (Ab (Aa (I (.ic rfl oQ) (Ac rfl (LW.nil (Aq ?_))))))))
   exact⟨(k+1,x,true),⟨by show k+1≤_;omega,by rw[Qv hx,←ht];exact(rP (by simpa using h39)).symm,hS.take 2⟩,tQ,by show b.Targets.length-(k+1)<b.Targets.length-k;omega⟩
  replace h39:=dQ h39
  refine Ak (Ae (Ab (Aa (I (.ic rfl oQ) (Ac rfl (LW.nil (Aq ?_)))))))
  exact⟨(k+1,f,fd),⟨by show k+1≤_;omega,by rw[Qv hx,←ht];exact(rQ (by simpa using h39)).symm,hS.take 2⟩,tQ,by show b.Targets.length-(k+1)<b.Targets.length-k;omega⟩
 replace h16:=dQ h16
 refine A7 (Ad (Ad (Au (Ab (Af (I (.fB 16 rfl) (I (.lb rfl (hS.b1.An rfl)) (Ac rfl (LW.A rfl (LW.A rfl (Ai (Aj (Br rfl rfl rfl ⟨_,rfl,?_⟩)))))))))))))
 have hkl:k=b.Targets.length:=by omega
 rw[hkl,br]at ht
 rw[←ht]
 exact⟨rfl,hS.Cj⟩
theorem Xt(cf:Nat)(lb:Array Go.Value)(p:Fact→Bool)(hen:∀args w,(callFunc cf args).run prog w=.ok (.enter cf args) w)(ad:Option Addr)(cp:Nat)(l:List Fact)(w:World)(hE0:Els w ad 19 Fact.cells l)(hl:l.length≤100000)(hp:∀W,Up w W→∀x,Ret prog cf (#[.agg (Fact.cells x)]++lb) W fun r W'=>r=.bool (p x)∧Up W W'):Ret prog 193 #[.slice ad l.length cp,.func (.func cf) #[] lb] w fun r w'=>∃i,r=vi i∧NR p l i∧Up w w':=by
 have hW:=Up.refl w
 obtain⟨w0,rfl,_⟩:=W0 w
 refine cT 19 func193 rfl (Af (J (Ar (Af (Ac rfl (I (.Df k6 (.t rfl)) (I (.move (.const _)) (Ai (Ap (A9 (σ:=Nat) (fun s w=>(s≤l.length)∧(∀y∈l.take s,p y=false)∧(Up w0 w)) (fun s=>[(8,.eq (vi (s:Int)))]) ([(0,.eq _),(1,.eq _),(7,.eq _)]) (fun s=>l.length-s) 0 ?_ tQ ?_))))))))))
 ·exact⟨ao _,by simp,hW⟩
 rintro k w1 ⟨hk,hn,hW⟩
 refine Af (I (.l2 rfl rfl) (Ar (CW.b rfl (fun h9=>?_) (fun h9=>?_))))
 ·replace h9:=dQ h9
  refine Ak (Ab (Al (Ap (Af (Ac rfl (LW.A rfl (Ar ?_)))))))
  have hE:=Els.up hE0 hW
  refine Aa (Ac rfl (Ac rfl (Ac rfl ?_)))
  obtain⟨x,hx⟩:=Av (xs:=l) (i:=k) oQ
  obtain⟨Bx,ox,ax,hcx⟩:=hE _ x hx
  refine I (.Ay k6 k7 (.t rfl) (.t rfl) oQ ax) (I (.lc rfl (hcx)) (A3 (D0 (.t rfl) (.cu rfl) (hen)) rfl (hp _ hW x) ?_))
  rintro _ w2 ⟨rfl,uw2⟩
  replace hW:=hW.up uw2
  replace hcx:=hcx.up uw2
  refine Ai (CW.b rfl (fun h16=>?_) (fun h16=>?_))
  ·replace h16:=dQ h16
   refine Af (Ac rfl (LW.A rfl (Ai (Aj (Aw (Ah (Ah (Aw (Ah (KW.q ?_))))))))))
   exact⟨_,rfl,.inl ⟨k,x,rfl,hx,by simpa using h16,hn⟩,hW⟩
  replace h16:=dQ h16
  refine Ak (Ae (Ab (Aa (I (.ic rfl oQ) (Ac rfl (LW.nil (Aq ?_)))))))
  exact⟨k+1,⟨by omega,mY hx hn (by simpa using h16),hW⟩,tQ,by omega⟩
 replace h9:=dQ h9
 refine A7 (Ad (Ad (Au (Ab (Af (J (Ai (Aj (KW.q ?_)))))))))
 exact⟨-1,rfl,.inr ⟨rfl,by rw[show k=l.length by omega,br]at hn;exact hn⟩,hW⟩
theorem Xu(cf:Nat)(lb:Array Go.Value)(p:Fact→Bool)(hen:∀args w,(callFunc cf args).run prog w=.ok (.enter cf args) w)(ad:Option Addr)(cp:Nat)(l:List Fact)(w:World)(hE0:Els w ad 19 Fact.cells l)(hl:l.length≤100000)(hp:∀W,Up w W→∀x,Ret prog cf (#[.agg (Fact.cells x)]++lb) W fun r W'=>r=.bool (p x)∧Up W W'):Ret prog 139 #[.slice ad l.length cp,.func (.func cf) #[] lb] w fun r w'=>r=.tuple #[.agg ((l.find? p).getD Dc).cells,.bool (l.find? p).isSome]∧Up w w':=by
 obtain⟨w0,rfl,hS⟩:=W0 w
 refine cT 18 func139 rfl (Af (Ao (.Bi k_) rfl ?_))
 rintro _ w1 ⟨B4,rfl,NB4⟩
 replace hS:=hS.Bn NB4
 refine J (Ar (Af (Ac rfl (Ac rfl (A3 (eC (.u rfl rfl) (BN)) rfl (Xt cf lb p hen ad cp l _ (Els.up hE0 hS.Cj) hl (fun W u x=>hp W (hS.Cj.trans u) x)) ?_)))))
 rintro _ w2 ⟨i,rfl,hi,uw2⟩
 replace hS:=hS.up uw2
 refine LW.A rfl (Ar (Aa (Ac rfl (I (.geq (.t rfl) (.const _)) (Ai (CW.b rfl (fun h12=>?_) (fun h12=>?_)))))))
 ·replace h12:=dQ h12
  refine Al ?_
  obtain⟨k,x,rfl,hx,hpx,hn⟩:=hi.resolve_right (fun⟨e,_⟩=>by omega)
  rw[kL hx hn hpx]
  obtain⟨Bx,ox,ax,hcx⟩:=(Els.up hE0 hS.Cj) k x hx
  have hkl:=(ai.1 hx).1
  refine Aa (Ac rfl (Ac rfl (I (.Ay k6 k7 (.t rfl) (.t rfl) oQ ax) (I (.lc rfl (hcx)) (Bh (.A5 k7 rfl (.t rfl) (.t rfl) eQ hS.b0 rfl) ?_)))))
  intro w3 Nw3
  replace hS:=hS.Co 0 rfl Nw3
  refine J (Ai (Aj (Ah (Dx rfl rfl rfl m2 k7 rfl (hS.b0).agg ⟨_,rfl,?_⟩))))
  exact⟨rfl,hS.Cj⟩
 replace h12:=dQ h12
 refine Ak (Ab (Al ?_))
 have hn:=(hi.resolve_left (fun⟨k,x,e,_⟩=>by omega)).2
 rw[kM hn]
 refine Aa (Ao (.Bi k_) rfl ?_)
 rintro _ w4 ⟨B7,rfl,NB7⟩
 replace hS:=hS.Bn NB7
 refine Ar (Aa (I (.lc rfl (hS.b1.agg)) (Bh (.A5 k7 rfl (.t rfl) (.t rfl) eQ hS.b0 rfl) ?_)))
 intro w5 Nw5
 replace hS:=hS.Co 0 rfl Nw5
 refine J (Ai (Aj (Dx rfl rfl rfl m2 k7 rfl (hS.b0).agg ⟨_,rfl,?_⟩)))
 exact⟨rfl,hS.Cj⟩
theorem Zd(f:Fact)(id:Int)(B:Nat)(w:World)(hB:Blk w B #[vi id] 3):Ret prog 140 #[.agg f.cells,.pointer (some ⟨B,0,none⟩)] w fun r w'=>r=.bool (decide (f.ID=id))∧Up w w':=by
 have hW:=Up.refl w
 obtain⟨w0,rfl,_⟩:=W0 w
 refine cT 8 func140 rfl (Af (Ao (.bA rfl) rfl ?_))
 rintro _ w1 ⟨B2,rfl,NB2⟩
 replace hW:=hW.up NB2.up
 have hB2:=NB2.blk
 refine J (Ar (Aa (I (.fB 1 rfl) (I (.lb rfl (hB2.An rfl)) (I (.lb rfl ((hB.up hW).An rfl)) (I (.eql (.t rfl) (.t rfl)) (LW.A rfl (Ai (Aj (KW.q ?_))))))))))
 exact⟨rfl,hW⟩
theorem Na(bc:Array Go.Value)(b:Base)(id:Int)(w:World)(hC:BaseC w bc b)(hl:b.Processes.length≤100000):Ret prog 86 #[.agg bc,vi id] w fun r w'=>r=.tuple #[.agg ((Ec b id).getD Dc).cells,.bool (Ec b id).isSome]∧Up w w':=by
 obtain⟨w0,rfl,hS⟩:=W0 w
 obtain⟨v0,h0,hr0⟩:=hC.CO
 obtain⟨ad,cp,rfl,hE0⟩:=hr0
 refine cT 12 func86 rfl (Af (Ao (.bA rfl) rfl ?_))
 rintro _ w1 ⟨B2,rfl,NB2⟩
 replace hS:=hS.Bn NB2
 refine Ao (.Ro (.t rfl) rfl) rfl ?_
 rintro _ w2 ⟨B3,rfl,NB3⟩
 replace hS:=hS.Bn NB3
 refine Ao (.Bi k_) rfl ?_
 rintro _ w3 ⟨B4,rfl,NB4⟩
 replace hS:=hS.Bn NB4
 refine J (Ar (Aa (I (.fB 0 rfl) (I (.lb rfl (hS.b0.cell h0)) (I (.makeFunc (.cu rfl)) (A3 (eC (.u rfl rfl) (BC)) rfl (Xu 140 #[.pointer (some ⟨B3,0,none⟩)] (fun f=>decide (f.ID=id)) HV ad cp b.Processes _ (Els.up hE0 hS.Cj) hl (fun W u x=>Zd x id B3 W (hS.b1.up u))) ?_))))))
 rintro _ w4 ⟨rfl,uw4⟩
 replace hS:=hS.up uw4
 refine I (.xt rfl rfl) (I (.xt rfl rfl) (Bh (.A5 k7 rfl (.t rfl) (.t rfl) eQ hS.b2 rfl) ?_))
 intro w5 Nw5
 replace hS:=hS.Co 2 rfl Nw5
 refine LW.A rfl (Ai (Aj (Dx rfl rfl rfl m2 k7 rfl (hS.b2).agg ⟨_,rfl,?_⟩)))
 exact⟨rfl,hS.Cj⟩
theorem Ze(f:Fact)(id:Int)(B:Nat)(w:World)(hB:Blk w B #[vi id] 3):Ret prog 233 #[.agg f.cells,.pointer (some ⟨B,0,none⟩)] w fun r w'=>r=.bool (decide (f.ID=id))∧Up w w':=by
 have hW:=Up.refl w
 obtain⟨w0,rfl,_⟩:=W0 w
 refine cT 8 func233 rfl (Af (Ao (.bA rfl) rfl ?_))
 rintro _ w1 ⟨B2,rfl,NB2⟩
 replace hW:=hW.up NB2.up
 have hB2:=NB2.blk
 refine J (Ar (Aa (I (.fB 1 rfl) (I (.lb rfl (hB2.An rfl)) (I (.lb rfl ((hB.up hW).An rfl)) (I (.eql (.t rfl) (.t rfl)) (LW.A rfl (Ai (Aj (KW.q ?_))))))))))
 exact⟨rfl,hW⟩
theorem cD(bc:Array Go.Value)(b:Base)(id:Int)(w:World)(hC:BaseC w bc b)(hl:b.Measures.length≤100000):Ret prog 220 #[.agg bc,vi id] w fun r w'=>r=.tuple #[.agg ((U2 b id).getD Dc).cells,.bool (U2 b id).isSome]∧Up w w':=by
 obtain⟨w0,rfl,hS⟩:=W0 w
 obtain⟨v1,h1,hr1⟩:=hC.LK
 obtain⟨ad,cp,rfl,hE0⟩:=hr1
 refine cT 12 func220 rfl (Af (Ao (.bA rfl) rfl ?_))
 rintro _ w1 ⟨B2,rfl,NB2⟩
 replace hS:=hS.Bn NB2
 refine Ao (.Ro (.t rfl) rfl) rfl ?_
 rintro _ w2 ⟨B3,rfl,NB3⟩
 replace hS:=hS.Bn NB3
 refine Ao (.Bi k_) rfl ?_
 rintro _ w3 ⟨B4,rfl,NB4⟩
 replace hS:=hS.Bn NB4
 refine J (Ar (Aa (I (.fB 1 rfl) (I (.lb rfl (hS.b0.cell h1)) (I (.makeFunc (.cu rfl)) (A3 (eC (.u rfl rfl) (BC)) rfl (Xu 233 #[.pointer (some ⟨B3,0,none⟩)] (fun f=>decide (f.ID=id)) JP ad cp b.Measures _ (Els.up hE0 hS.Cj) hl (fun W u x=>Ze x id B3 W (hS.b1.up u))) ?_))))))
 rintro _ w4 ⟨rfl,uw4⟩
 replace hS:=hS.up uw4
 refine I (.xt rfl rfl) (I (.xt rfl rfl) (Bh (.A5 k7 rfl (.t rfl) (.t rfl) eQ hS.b2 rfl) ?_))
 intro w5 Nw5
 replace hS:=hS.Co 2 rfl Nw5
 refine LW.A rfl (Ai (Aj (Dx rfl rfl rfl m2 k7 rfl (hS.b2).agg ⟨_,rfl,?_⟩)))
 exact⟨rfl,hS.Cj⟩
theorem nL(f:Fact)(w:World):Ret prog 218 #[.agg f.cells] w fun r w'=>r=.agg #[vi (runK f).1,vi (runK f).2]∧Up w w':=by
 have hW:=Up.refl w
 obtain⟨w0,rfl,_⟩:=W0 w
 refine cT 8 func218 rfl (Af (Ao (.bA rfl) rfl ?_))
 rintro _ w1 ⟨B1,rfl,NB1⟩
 have eB1:=NB1.at_
 have zB1:=NB1.size
 replace hW:=hW.up NB1.up
 have hB1:=NB1.blk
 refine Ao (.Bi ma) rfl ?_
 rintro _ w2 ⟨B2,rfl,NB2⟩
 have eB2:=NB2.at_
 replace hW:=hW.up NB2.up
 replace hB1:=hB1.up NB2.up
 have hB2:=NB2.blk
 refine Ar (Aa (I (.fB 5 rfl) (I (.lb rfl (hB1.An rfl)) (I (.fB 1 rfl) (I (.lb rfl (hB1.An rfl)) (I (.H2 (cs:=#[vi f.Time,vi f.ID]) mh ma lf (.ct rfl (.cu rfl)) rfl) (Bh (.A5 mn rfl (.t rfl) (.t rfl) eQ hB2 rfl) ?_)))))))
 intro w3 Nw3
 replace hW:=hW.sto Nw3.sto oQ
 replace hB1:=hB1.sto Nw3.sto oQ
 replace hB2:=Nw3.blk
 refine Ai (Aj (Dy rfl rfl isAgg140 mn rfl (hB2.agg) ⟨_,rfl,?_⟩))
 exact⟨rfl,hW⟩
theorem sE(bc:Array Go.Value)(b:Base)(t c:Int)(w:World)(hC:BaseC w bc b)(hl:b.Processes.length≤100000):Ret prog 174 #[.agg bc,vi t,vi c] w fun r w'=>OwnS w' 0 51 19 Fact.cells r (G6 b t c)∧Up w w':=by
 obtain⟨w0,rfl,hS⟩:=W0 w
 obtain⟨v0,h0,hr0⟩:=hC.CO
 obtain⟨ad,cp,rfl,hE0⟩:=hr0
 refine cT 35 func174 rfl (Af (Ao (.bA rfl) rfl ?_))
 rintro _ w1 ⟨B3,rfl,NB3⟩
 replace hS:=hS.Bn NB3
 refine J (Ar (Aa (J (Ar (Al ?_)))))
 replace hS:=hS.add (Up.refl _) (A':=A8 51 19 Fact.cells (.slice none 0 0) ([]:List Fact)) (OwnS.nil _ _ _ _ _) (fun i h=>by cases h)
 refine Aa (I (.fB 0 rfl) (I (.lb rfl (hS.b0.cell h0)) (I (.Df k6 (.t rfl)) (I (.move (.const _)) (Ai (Ap (A9 (σ:=Nat×Go.Value) (fun s w=>(s.1≤b.Processes.length)∧(Wx.Sep no w0 w [Ch B3 (bc) 39,A8 51 19 Fact.cells s.2 ((b.Processes.take s.1).filter (I3 t c))])) (fun s=>[(13,.eq (vi (s.1:Int))),(7,.eq (s.2))]) ([(1,.eq _),(2,.eq _),(6,.eq _),(11,.eq _),(12,.eq _)]) (fun s=>b.Processes.length-s.1) (0,.slice none 0 0) ?_ tQ ?_)))))))
 ·exact⟨ao _,hS⟩
 rintro⟨k,v⟩ w2 ⟨hk,hS⟩
 dsimp only at hk hS
 change CW _ _ _ _ _ _ _ ([(13,.eq (vi (k:Int))),(7,.eq (v))]++_) _
 refine Af (I (.l2 rfl rfl) (Ar (CW.b rfl (fun h14=>?_) (fun h14=>?_))))
 ·replace h14:=dQ h14
  refine Ak (Ab (Al (Ap (Al ?_))))
  have hE:=Els.up hE0 hS.Cj
  have hfl:=H5 (I3 t c) b.Processes k
  refine Aa ?_
  obtain⟨x,hx⟩:=Av (xs:=b.Processes) (i:=k) oQ
  obtain⟨Bx,ox,ax,hcx⟩:=hE _ x hx
  refine I (.Ay k6 k7 (.t rfl) (.t rfl) oQ ax) (I (.lc rfl (hcx)) (Ao (.Bi k_) rfl ?_))
  rintro _ w3 ⟨B9,rfl,MB9⟩
  refine Bh (.A5 k7 rfl (.t rfl) (.t rfl) eQ MB9.blk rfl) ?_
  intro w4 LB9
  have NB9:=MB9.set LB9
  replace hcx:=hcx.up NB9.up
  replace hS:=hS.Bn NB9
  refine Ar (Aa (I (.fB 11 rfl) (I (.lb rfl (hS.b2.An rfl)) (Ac rfl (I (.eql (.t rfl) (.t rfl)) (Ac rfl (LW.gr rfl (fun hc=>PEv.fB 12 rfl) (LW.gr rfl (fun hc=>PEv.load ly vQ (hS.b2.An rfl)) (Dk rfl rfl (LW.gr rfl (fun hc=>PEv.eql vQ vQ) (I (.pa rfl (fun hp=>(by exact .cond rfl (by simp_all)))) (Ai (CW.b rfl (fun h26=>?_) (fun h26=>?_))))))))))))))
  ·replace h26:=dQ h26
   refine Aa (Ac rfl (I (.lc rfl (hS.b2.agg)) (Ao (.buildSlice (xs:=[x]) (enc:=Fact.cells) (mk:=fun f:Fact=>.agg f.cells) k6 k7 k_ rfl cQ (fun _=>rfl) (fun _=>rfl) (.cu rfl) rfl) rfl ?_)))
   rintro _ w5 ⟨B29,cB29,rfl,NB29,yB29,xB29⟩
   replace hS:=hS.up NB29.up
   have hE29:=xB29
   refine Ao (.Cu (enc:=Fact.cells) (bytes:=160) (i:=Tryz.t51) k6 kQ rfl rfl rfl rfl cQ (fun _=>rfl) Fact.one (.t rfl) (.t rfl) (hS.own 1 rfl) (Az hE29) (by simp only[b9,da,maxLen];omega) (by simp only[b9,da];omega)) rfl ?_
   intro v30 w6 Gw6
   replace hS:=hS.E5 1 rfl Gw6
   refine LW.A rfl (LW.nil (Ae (Ab (Aa (I (.ic rfl oQ) (Ac rfl (LW.nil (Aq ?_))))))))
   exact⟨(k+1,v30),⟨by show k+1≤_;omega,by(rw[M5 hx (show I3 t c x=true from h26)];exact hS.take 2)⟩,tQ,by show b.Processes.length-(k+1)<b.Processes.length-k;omega⟩
  replace h26:=dQ h26
  refine Ak (Ae (Ab (Aa (I (.ic rfl oQ) (Ac rfl (LW.nil (Aq ?_)))))))
  exact⟨(k+1,v),⟨by show k+1≤_;omega,by(rw[U3 hx (show I3 t c x=false from h26)];exact hS.take 2)⟩,tQ,by show b.Processes.length-(k+1)<b.Processes.length-k;omega⟩
 replace h14:=dQ h14
 refine A7 (Ad (Ad (Au (Ab (Af (Ac rfl (A3 (eC (.ct rfl (.cons (.func _) .nil)) (GN)) rfl (Uq 218 runK JG (fun W x=>nL x W) v _ _ (hS.own 1 rfl) (by have:=H5 (I3 t c) b.Processes k;omega)) ?_)))))))
 rintro _ w7 ⟨rfl,uw7⟩
 replace hS:=hS.E5 1 rfl uw7
 refine Ar (Aa (Ac rfl (LW.A rfl (Ai (Aj (KW.q ?_))))))
 have hkl:k=b.Processes.length:=by omega
 rw[hkl,br]at hS
 exact⟨hS.own 1 rfl,hS.Cj⟩
theorem nM(ad ad':Option Addr)(cp cp':Nat)(l m:List Fact)(w:World)(hE1:Els w ad 19 Fact.cells l)(hE2:Els w ad' 19 Fact.cells m)(hl:l.length≤100000):Ret prog 38 #[.slice ad l.length cp,.slice ad' m.length cp'] w fun r w'=>r=.bool (Kh l m)∧Up w w':=by
 have hW:=Up.refl w
 obtain⟨w0,rfl,_⟩:=W0 w
 refine cT 26 func38 rfl (Af (J (Ar (Af (Ac rfl (I (.Df k6 (.t rfl)) (Ac rfl (I (.Df k6 (.t rfl)) (I (.neq (.t rfl) (.t rfl)) (Ai (CW.b rfl (fun h10=>?_) (fun h10=>?_))))))))))))
 ·replace h10:=dQ h10
  have hr:Kh l m=false:=bV (fun e=>by simp[e]at h10)
  refine Af (J (Ai (Aj (Ah (KW.q ?_)))))
  exact⟨by rw[hr],hW⟩
 replace h10:=dQ h10
 have hlen:l.length=m.length:=Int.ofNat.inj (show Int.ofNat _=Int.ofNat _ from(by simpa using h10:(l.length:Int)=m.length))
 refine Ak (Ab (Al (Af (Ac rfl (I (.Df k6 (.t rfl)) (I (.move (.const _)) (Ai (Ap (A9 (σ:=Nat) (fun s w=>(s≤l.length)∧(Kh (l.drop s) (m.drop s)=Kh l m)∧(Up w0 w)) (fun s=>[(13,.eq (vi (s:Int)))]) ([(0,.eq _),(1,.eq _),(12,.eq _)]) (fun s=>l.length-s) 0 ?_ tQ ?_)))))))))
 ·exact⟨ao _,rfl,hW⟩
 rintro k w1 ⟨hk,hn,hW⟩
 refine Af (I (.l2 rfl rfl) (Ar (CW.b rfl (fun h14=>?_) (fun h14=>?_))))
 ·replace h14:=dQ h14
  refine Ak (Ab (Al (Ap (Af (Ac rfl (LW.A rfl (Ar ?_)))))))
  obtain⟨x,hx⟩:=Av (xs:=l) (i:=k) oQ
  obtain⟨y,hy⟩:=Av (xs:=m) (i:=k) oQ
  obtain⟨B,o,had,hcx⟩:=(Els.up hE1 hW) k x hx
  obtain⟨B',o',had',hcy⟩:=(Els.up hE2 hW) k y hy
  refine Cg kQ kQ rfl rfl (Am (.mv rfl) (Am (.mv rfl) (Am (.Ay k6 k7 (.t rfl) (.t rfl) oQ had) (Am (.lc rfl (hcx)) (Am (.mv rfl) (Am (.mv rfl) (Am (.Ay k6 k7 (.t rfl) (.t rfl) oQ had') (Am (.lc rfl (hcy)) (Am (.wJ m4 (Hk _ _) (.t rfl) (.t rfl)) (HW.nil ?_))))))))))
  intro w2 uw2
  replace hW:=hW.up uw2
  refine Ab (CW.b rfl (fun h24=>?_) (fun h24=>?_))
  ·replace h24:=dQ h24
   have hr:Kh l m=false:=by rw[←hn,Xo hx hy,show Cw x y=false by simpa using h24];rfl
   refine Af (J (Ai (Aj (Aw (Ah (Ah (Aw (Ah (KW.q ?_)))))))))
   exact⟨by rw[hr],hW⟩
  replace h24:=dQ h24
  refine Ak (Ae (Ab (Aa (I (.ic rfl oQ) (Ac rfl (LW.nil (Aq ?_)))))))
  exact⟨k+1,⟨by omega,by rw[←hn,Xo hx hy,show Cw x y=true by simpa using h24];rfl,hW⟩,tQ,by omega⟩
 replace h14:=dQ h14
 have hr:Kh l m=true:=by rw[←hn];exact rR oQ oQ
 refine A7 (Ad (Ad (Au (Ab (Af (J (Ai (Aj (KW.q ?_)))))))))
 exact⟨by rw[hr],hW⟩
set_option maxHeartbeats 2000000 in
theorem sF(bc bc':Array Go.Value)(b c:Base)(w:World)(hC:BaseC w bc b)(hC':BaseC w bc' c)(hlb:short b):Ret prog 12 #[.agg bc,.agg bc'] w fun r w'=>r=.bool (Sv b c)∧Up w w':=by
 obtain⟨w0,rfl,hS⟩:=W0 w
 refine cT 25 func12 rfl (Af (Ao (.bA rfl) rfl ?_))
 rintro _ w1 ⟨B2,rfl,NB2⟩
 replace hS:=hS.Bn NB2
 refine Ao (.bA rfl) rfl ?_
 rintro _ w2 ⟨B3,rfl,NB3⟩
 replace hS:=hS.Bn NB3
 refine J (Ar (Af (A3 (eC .nil (GI)) rfl (Xi _) ?_)))
 rintro _ w3 ⟨bk,rfl,hKm,hKb,uw3⟩
 replace hS:=hS.add uw3 (A':=Be bk (Qq Wg 11)) (hKm) (fun i(e:i=bk)=>by omega)
 refine Ao (.range l9 (.t rfl) (hS.get 2 rfl)) rfl ?_
 rintro _ w4 ⟨r8,rfl,hR_,uR,eR,zR⟩
 replace hS:=hS.E5 2 rfl (G4 hR_ uR eR)
 refine Ai (Ap (A9 (σ:=List Int) (fun s w=>(s.Nodup∧∀k∈s,1≤k∧k≤11)∧(∀j:Nat,((j+1:Nat):Int)∈s→Kh (C2 b j) (C2 c j)=true)∧(Wx.Sep no w0 w [Ch B2 (bc) 39,Ch B3 (bc') 39,Gg bk r8 (Qq Wg 11) s])) (fun s=>[]) ([(2,.eq _),(3,.eq _),(8,.eq _)]) (fun s=>11-s.length) [] ?_ tQ ?_))
 ·exact⟨⟨dz,fun k h=>by simp at h⟩,fun j h=>by simp at h,hS⟩
 rintro dn w5 ⟨hdk,hall,hS⟩
 refine Af (Ao (.next (.t rfl) (hS.get 2 rfl)) rfl ?_)
 rintro _ w6 (⟨rfl,rfl,hPm⟩|⟨kk,u0,rfl,hNx⟩)
 ·skip
  refine I (.xt rfl rfl) (Ar (CW.f rfl (A7 (Ad (Ad (Au (Ab (Af (J (Ai (Aj (KW.q ?_))))))))))))
  exact⟨by rw[show Sv b c=true from Xp (fun k hk=>hall k (hPm.symm.subset (aq.2 ⟨(((k+1:Nat):Int),Wg ((k+1:Nat):Int)),J6.2 ⟨by omega,by omega,rfl⟩,rfl⟩)))],hS.Cj⟩
 skip
 have zw6:=hNx.size
 replace hS:=hS.E5 2 rfl (H3 hNx)
 obtain⟨hk1,hk2,hu0⟩:=J6.1 hNx.mem
 subst hu0
 have hfr2:=hNx.fresh
 have hkk1:1≤kk∧kk≤11:=⟨hk1,by omega⟩
 replace hk2:kk≤11:=by omega
 obtain⟨j,hj⟩:∃j,j=(kk-1).toNat:=⟨_,rfl⟩
 have hj11:j<11:=by omega
 have hkk2:kk=((j+1:Nat):Int):=by omega
 have hdk2:(dn++[kk]).Nodup∧∀k∈dn++[kk],1≤k∧k≤11:=⟨dl.2 ⟨hdk.1,by simp,fun a ha c hc=>by simp at hc;subst hc;exact fun e=>hfr2 (e▸ha)⟩,fun k hk=>(be.1 hk).elim (hdk.2 k) (fun h=>by cases aa.1 h;exact hkk1)⟩
 obtain⟨_,hv1,ad1,cp1,rfl,hE1⟩:=hC.at_ hj11
 obtain⟨_,hv2,ad2,cp2,rfl,hE2⟩:=hC'.at_ hj11
 refine I (.xt rfl rfl) (Ar (CW.v rfl (Ak (Ab (Ap (Af (Ao (.entry (.t rfl) hNx.entry) rfl ?_)))))))
 rintro _ _ ⟨rfl,rfl⟩
 refine I (.val (v':=.agg #[.func (.func (K9 kk)) #[] #[],.func (.func (Oz kk)) #[] #[]]) (PEv.xt rfl rfl) rfl) (Ao (.Bi mg) rfl ?_)
 rintro _ w7 ⟨B6,rfl,MB6⟩
 refine Bh (.A5 sizeOf93 rfl (.t rfl) (.t rfl) eQ MB6.blk rfl) ?_
 intro w8 LB6
 have NB6:=MB6.set LB6
 replace hS:=hS.Bn NB6
 refine Ar (Eo 12 [.eq (.pointer (some ⟨B6,0,none⟩)),.eq (.func (.func (K9 kk)) #[] #[]),.eq (.pointer (some ⟨B2,j,none⟩)),.eq (.pointer (some ⟨B2,j,none⟩)),.eq (.slice ad1 (C2 b j).length cp1),.eq (.pointer (some ⟨B6,0,none⟩)),.eq (.func (.func (K9 kk)) #[] #[]),.eq (.pointer (some ⟨B3,j,none⟩)),.eq (.pointer (some ⟨B3,j,none⟩)),.eq (.slice ad2 (C2 c j).length cp2),.eq (.bool (Kh (C2 b j) (C2 c j))),.eq (.bool (!Kh (C2 b j) (C2 c j)))] [24] kQ rfl kQ kQ kQ kQ kQ kQ kQ uQ ?_ ?_)
 ·intro W hU0
  have hU:=(Up.drew w8).trans hU0
  refine aC ⟨rfl,TU.p (.fB 0 rfl) rfl⟩ (aC ⟨rfl,TU.p (.lb rfl ((hS.b3.up hU).An rfl)) rfl⟩ (aC ⟨rfl,TU.c (Ft (.t rfl) (.cu rfl) (Tl kk hk1 hk2)) (Qr kk hk1 hk2 B2 _) (by rintro _ W1 ⟨rfl,u⟩;exact⟨u,by rw[hj];rfl⟩)⟩ (aC ⟨rfl,TU.p (.nc rfl) rfl⟩ (aC ⟨rfl,TU.p (.lb rfl ((hS.b0.up hU).cell hv1)) rfl⟩ (aC ⟨rfl,TU.p (.fB 0 rfl) rfl⟩ (aC ⟨rfl,TU.p (.lb rfl ((hS.b3.up hU).An rfl)) rfl⟩ (aC ⟨rfl,TU.c (Ft (.t rfl) (.cu rfl) (Tl kk hk1 hk2)) (Qr kk hk1 hk2 B3 _) (by rintro _ W1 ⟨rfl,u⟩;exact⟨u,by rw[hj];rfl⟩)⟩ (aC ⟨rfl,TU.p (.nc rfl) rfl⟩ (aC ⟨rfl,TU.p (.lb rfl ((hS.b1.up hU).cell hv2)) rfl⟩ (aC ⟨rfl,TU.c (eC (.u rfl rfl) (MD)) (nM ad1 ad2 cp1 cp2 _ _ _ (Els.up hE1 (hS.Cj.trans hU)) (Els.up hE2 (hS.Cj.trans hU)) (hlb j)) sQ⟩ (aC ⟨rfl,TU.p (.n1 rfl) rfl⟩ ?_)))))))))))
  exact allL.nil
 intro w9 g hU0 hg
 have hU:=(Up.drew w8).trans hU0
 replace hS:=hS.up hU
 have e24:g 24=.bool (!Kh (C2 b j) (C2 c j)):=hg 11 _ 24 cQ rfl rfl
 change LW _ _ _ _ _ _ _ _ ((24,.eq (g 24))::_) _
 rw[e24]
 refine Ai (CW.b rfl (fun h24=>?_) (fun h24=>?_))
 ·have hr:Sv b c=false:=rS hj11 (by simpa using h24)
  refine Af (J (Ai (Aj (Aw (Ah (Aw (Ah (KW.q ?_))))))))
  exact⟨by rw[hr],hS.Cj⟩
 have hq:Kh (C2 b j) (C2 c j)=true:=by simpa using h24
 refine Ak (Ae (Aq ?_))
 exact⟨dn++[kk],⟨hdk2,fun i hi=>(be.1 hi).elim (hall i) (fun h=>by have h:=aa.1 h;rw[show i=j by omega];exact hq),hS.take 3⟩,tQ,by have:=Xk hdk hkk1 hfr2;simp;omega⟩
theorem Q2(n d:Int)(w:World)(hn:F8 n)(hd:0<d)(hdi:F8 d):Ret prog 89 #[vi n,vi d] w fun r w'=>r=.tuple #[.agg (Ia n d).1.cells,vi (Ia n d).2]∧Up w w':=by
 obtain⟨w0,rfl,hS⟩:=W0 w
 refine cT 46 func89 rfl (Af (Ao (.Bi lm) rfl ?_))
 rintro _ w1 ⟨B4,rfl,NB4⟩
 replace hS:=hS.Bn NB4
 refine J (Ar (Af (Ac rfl (I (.fa (PEv.eql (.t rfl) (.const _)) (bg oQ)) (Ai (CW.f rfl (Ak (Ab (Af (Ac rfl (A3 (eC (.o rfl) (T4)) rfl (L2 n _ hn) ?_)))))))))))
 rintro _ w2 ⟨rfl,uw2⟩
 replace hS:=hS.up uw2
 refine Ac rfl (A3 (eC (.o rfl) (T4)) rfl (L2 d _ hdi) ?_)
 rintro _ w3 ⟨rfl,uw3⟩
 replace hS:=hS.up uw3
 refine A3 (eC (.u rfl rfl) (BD)) rfl (jW n.natAbs d.natAbs _) ?_
 rintro _ w4 ⟨rfl,uw4⟩
 replace hS:=hS.up uw4
 refine LW.A rfl (Ar (Cg kQ kQ rfl rfl (Am (.mv rfl) (HW.c (fun a w _ ha=>Bq (.cu rfl) (T4) a ha) rfl rfl (fun w hu=>L2 n w hn) (Am (.mv rfl) (Am (.vl (v':=vu (n.natAbs/Dd n d)) (PEv.quo (.t rfl) (.t rfl) (by have:=Le (n:=n) hd;unfold Dd at this;omega)) (xB _ _ (by have h1:=hn.1;have h2:=hn.2;omega))) (Am (.mv rfl) (HW.c (fun a w _ ha=>Bq (.cu rfl) (T4) a ha) rfl rfl (fun w hu=>L2 d w hdi) (Am (.mv rfl) (Am (.vl (v':=vu (d.natAbs/Dd n d)) (PEv.quo (.t rfl) (.t rfl) (by have:=Le (n:=n) hd;unfold Dd at this;omega)) (xB _ _ (by have h1:=hdi.1;have h2:=hdi.2;omega))) (Am (.assign (.t rfl)) (Am (.assign (.t rfl)) (HW.nil ?_)))))))))))))
 intro w5 uw5
 replace hS:=hS.up uw5
 refine Ab (Al (Af (Ac rfl (Ac rfl (I (.JV (.t rfl) (.t rfl)) (I (.gtr (.t rfl) (.const _)) (Ai (CW.b rfl (fun h29=>?_) (fun h29=>?_)))))))))
 ·replace h29:=dQ h29
  have hmx:=qC h29
  refine Af (I (.build (cs:=DA.cells) mc lm Ed .nil rfl) (Bh (.A5 lj rfl (.t rfl) (.t rfl) (Rt.one _) hS.b0 rfl) ?_))
  intro w6 Nw6
  replace hS:=hS.Co 0 rfl (show Set_ _ w6 _ (DA.cells) _ from Nw6)
  refine J (Ai (Aj (Ah (Dx rfl rfl rfl md lj rfl (hS.b0).agg ⟨_,rfl,?_⟩))))
  exact⟨by rw[qD hmx],hS.Cj⟩
 replace h29:=dQ h29
 have hmx:=xC h29
 refine Ak (Ab (Af (Ac rfl (I (.vl (v':=vi ((n.natAbs/Dd n d:Nat):Int)) (PEv.conv (k':=.i64) (by rw[lz];rfl) lh (.t rfl)) (jS hmx.1)) (Ac rfl (I (.vl (v':=vi ((d.natAbs/Dd n d:Nat):Int)) (PEv.conv (k':=.i64) (by rw[lz];rfl) lh (.t rfl)) (jS hmx.2)) (I (.build (cs:=(Rt.mk ((n.natAbs/Dd n d:Nat):Int) ((d.natAbs/Dd n d:Nat):Int)).cells) mc lm Ed (.ct rfl (.cu rfl)) rfl) (Ao (.Bi lm) rfl ?_))))))))
 rintro _ w7 ⟨B9,rfl,MB9⟩
 refine Bh (.A5 lj rfl (.t rfl) (.t rfl) (Rt.one _) MB9.blk rfl) ?_
 intro w8 LB9
 have NB9:=MB9.set LB9
 replace hS:=hS.Bn NB9
 refine Ar (Af (Ac rfl (I (.lss (.t rfl) (.const _)) (Ac rfl (I (.fa (PEv.lss (.t rfl) (.const _)) (bg oQ)) (I (.FT underlying4 (.t rfl) (.t rfl)) (Ai (CW.b rfl (fun h40=>?_) (fun h40=>?_)))))))))
 ·have hng:n<0:=by revert h40;by_cases h:n<0<;>simp[h]
  refine Aa (I (.fB 0 rfl) (I (.lb rfl (hS.b1.An rfl)) (I (.vl (v':=vi (-((n.natAbs/Dd n d:Nat):Int))) (PEv.neg lh (.t rfl)) (a_ (Go.Value.int .i64) (JX hmx.1))) (I (.fB 0 rfl) (Bh (.store lf (.t rfl) (.t rfl) rfl hS.b1 bQ) ?_)))))
  intro w9 Nw9
  replace hS:=hS.Co 1 rfl (show Set_ _ w9 _ ((Rt.mk (-((n.natAbs/Dd n d:Nat):Int)) ((d.natAbs/Dd n d:Nat):Int)).cells) _ from Nw9)
  refine Ar (Aa (I (.lc rfl (hS.b1.agg)) (Bh (.A5 lj rfl (.t rfl) (.t rfl) (Rt.one _) hS.b0 rfl) ?_)))
  intro w10 Nw10
  replace hS:=hS.Co 0 rfl Nw10
  refine J (Ai (Aj (Dx rfl rfl rfl md lj rfl (hS.b0).agg ⟨_,rfl,?_⟩)))
  exact⟨by rw[jT hmx hng],hS.Cj⟩
 have hng:¬n<0:=by revert h40;by_cases h:n<0<;>simp[h]
 refine Ak (Ab (Af (I (.lc rfl (hS.b1.agg)) (Bh (.A5 lj rfl (.t rfl) (.t rfl) (Rt.one _) hS.b0 rfl) ?_))))
 intro w11 Nw11
 replace hS:=hS.Co 0 rfl Nw11
 refine J (Ai (Aj (Dx rfl rfl rfl md lj rfl (hS.b0).agg ⟨_,rfl,?_⟩)))
 exact⟨by rw[jU hmx hng],hS.Cj⟩
theorem Ij(a:Rt)(w:World)(h:a.ok):Ret prog 226 #[.agg a.cells] w fun r w'=>r=.bool true∧Up w w':=by
 have hW:=Up.refl w
 refine cT 27 func226 rfl (Af (Ao (.bA rfl) rfl ?_))
 rintro _ w1 ⟨B1,rfl,NB1⟩
 replace hW:=hW.up NB1.up
 have hB1:=NB1.blk
 refine J (Ar (Cg kQ kQ rfl rfl (Am (.fB 1 rfl) (Am (.lb rfl (hB1.An rfl)) (Am (.tr (PEv.gtr (.t rfl) (.const _)) (a8 h.pos)) (Am (.mv rfl) (A4 (.fB 1 rfl) (A4 (.lb rfl (hB1.An rfl)) (A4 (.tr (PEv.leq (.t rfl) (.const _)) (a8 h.den)) (Am (.pa rfl (fun hp=>(by exact .tmp rfl))) (Am (.mv rfl) (A4 (.fB 0 rfl) (A4 (.lb rfl (hB1.An rfl)) (Mv rfl rfl rfl rfl rfl (fun a w _ ha=>Bq (.cu rfl) (T4) a ha) rfl (fun w hu=>L2 a.n w h.nI) (A4 (.tr (PEv.leq (.t rfl) (.const _)) (a8 (by have:=h.num;omega))) (Am (.pa rfl (fun hp=>(by exact .tmp rfl))) (Am (.mv rfl) (A4 (.fB 0 rfl) (A4 (.lb rfl (hB1.An rfl)) (Mv rfl rfl rfl rfl rfl (fun a w _ ha=>Bq (.cu rfl) (T4) a ha) rfl (fun w hu=>L2 a.n w h.nI) (A4 (.fB 1 rfl) (A4 (.lb rfl (hB1.An rfl)) (Mv rfl rfl rfl rfl rfl (fun a w _ ha=>Bq (.cu rfl) (T4) a ha) rfl (fun w hu=>L2 a.d w h.dI) (Mv rfl rfl rfl rfl rfl (fun a w _ ha=>Bq (.ct rfl (.cu rfl)) (BD) a ha) rfl (fun w hu=>jW a.n.natAbs a.d.natAbs w) (A4 (.tr (PEv.eql (.t rfl) (.const _)) (a8 (by have:=h.co;unfold Dd at this;omega))) (Am (.pa rfl (fun hp=>(by exact .tmp rfl))) (Am (.assign (.t rfl)) (HW.nil ?_))))))))))))))))))))))))))))
 intro w2 uw2
 replace hW:=hW.up uw2
 replace hB1:=hB1.up uw2
 refine Ab (Aj (KW.q ?_))
 exact⟨rfl,hW⟩
theorem Zf(a:Rt)(w:World)(h:a.ok):Ret prog 224 #[.agg a.cells] w fun r w'=>r=.agg a.cells∧Up w w':=by
 obtain⟨w0,rfl,hS⟩:=W0 w
 refine cT 12 func224 rfl (Af (Ao (.bA rfl) rfl ?_))
 rintro _ w1 ⟨B1,rfl,NB1⟩
 replace hS:=hS.Bn NB1
 refine Ao (.Bi zeroValue249) rfl ?_
 rintro _ w2 ⟨B2,rfl,NB2⟩
 replace hS:=hS.Bn NB2
 refine Ar (Af (I (.lc rfl (hS.b0.agg)) (A3 (eC (.o rfl) (Wu)) rfl (Ij a _ h) ?_)))
 rintro _ w3 ⟨rfl,uw3⟩
 replace hS:=hS.up uw3
 refine I (.n1 rfl) (Ai (CW.f rfl (Ak (Ab (Af (I (.fB 0 rfl) (I (.lb rfl (hS.b0.An rfl)) (I (.fB 1 rfl) (I (.lb rfl (hS.b0.An rfl)) (I (.build (cs:=a.cells) underlying249 zeroValue249 T6 (.ct rfl (.cu rfl)) rfl) (Bh (.A5 sizeOf249 rfl (.t rfl) (.t rfl) (Rt.one _) hS.b1 rfl) ?_)))))))))))
 intro w4 Nw4
 replace hS:=hS.Co 1 rfl Nw4
 refine Ai (Aj (Dy rfl rfl isAgg249 sizeOf249 rfl (hS.b1.agg) ⟨_,rfl,?_⟩))
 exact⟨rfl,hS.Cj⟩
theorem kT(cf:Nat)(lb:Array Go.Value)(hen:∀args w,(callFunc cf args).run prog w=.ok (.enter cf args) w)(n d:Int)(w:World)(hn:F8 n)(hd:0<d)(hdi:F8 d)(hp:∀W,Up w W→Ret prog cf (#[]++lb) W fun r W'=>r=.tuple #[vi n,vi d]∧Up W W'):Ret prog 222 #[.func (.func cf) #[] lb] w fun r w'=>r=.tuple #[.agg (Ia n d).1.cells,vi (Ia n d).2]∧Up w w':=by
 obtain⟨w0,rfl,hS⟩:=W0 w
 refine P7 (n:=12) (m:=9) func222 rfl rfl rfl (Af (Ao (.Bi lm) rfl ?_))
 rintro _ w1 ⟨B2,rfl,NB2⟩
 replace hS:=hS.Bn NB2
 refine Ao (.Tv zeroValue97 rfl) rfl ?_
 rintro _ w2 ⟨B3,rfl,NB3⟩
 replace hS:=hS.Bn NB3
 refine Ar (Aa (I (.makeFunc (.ct rfl (.cu rfl))) (Wv (.t rfl) (Ar (Aa (Ac rfl (A3 (D0 (.t rfl) .nil (hen)) rfl (hp _ hS.Cj) ?_)))))))
 rintro _ w3 ⟨rfl,uw3⟩
 replace hS:=hS.up uw3
 refine I (.xt rfl rfl) (I (.xt rfl rfl) (A3 (eC (.u rfl rfl) (wW)) rfl (Q2 n d _ hn hd hdi) ?_))
 rintro _ w4 ⟨rfl,uw4⟩
 replace hS:=hS.up uw4
 refine I (.xt rfl rfl) (I (.xt rfl rfl) (Bh (.A5 lj rfl (.t rfl) (.t rfl) (Rt.one _) hS.b0 rfl) ?_))
 intro w5 Nw5
 replace hS:=hS.Co 0 rfl (show Set_ _ w5 _ ((Ia n d).1.cells) _ from Nw5)
 refine Bh (.store sizeOf97 (.t rfl) (.t rfl) rfl hS.b1 bQ) ?_
 intro w6 Nw6
 replace hS:=hS.Co 1 rfl Nw6
 refine Ai (Aj (jG (f:=234) (args:=#[.pointer (some ⟨B2,0,none⟩),.pointer (some ⟨B3,0,none⟩)]) (by exact(JQ _ _)) rfl (qE B2 B3 _) (fun w9 u9=>?_)))
 replace hS:=hS.up u9
 refine pK rfl rfl rfl md lj rfl hS.b0.agg isAgg97 (hS.b1.An rfl) ⟨_,rfl,?_⟩
 exact⟨rfl,hS.Cj⟩
theorem sG(Ba Bb:Nat)(a b:Rt)(w:World)(hBa:Blk w Ba a.cells 55)(hBb:Blk w Bb b.cells 55)(ha:a.ok)(hb:b.ok):Ret prog 223 #[.pointer (some ⟨Ba,0,none⟩),.pointer (some ⟨Bb,0,none⟩)] w fun r w'=>r=.tuple #[vi (Fu a b),vi (a.d*b.d)]∧Up w w':=by
 have hW:=Up.refl w
 refine cT 26 func223 rfl (Af (J (J (Ar (CW.vars 8 [⟨4,6,1,4,7⟩,⟨5,7,3,5,9⟩] #[vi 0,vi 0] [.eq (.agg (Rt.cells a)),.eq (.agg (Rt.cells a)),.eq (.agg (Rt.cells b)),.eq (.agg (Rt.cells b)),.pred fun v _=>∃B,v=.pointer (some ⟨B,0,none⟩),.pred fun v _=>∃B,v=.pointer (some ⟨B,0,none⟩),.eq undef,.eq undef] [4,5] zeroValue249 sizeOf249 kQ rfl kQ kQ kQ kQ kQ kQ kQ kQ cQ kQ kQ ?_ ?_ ⟨nn,nn,nn,nn,PhT.pred fun _ _ _ h _=>h,PhT.pred fun _ _ _ h _=>h,nn,nn,trivial⟩ ?_ ?_ ?_ ?_ ?_)))))
 ·intro v hv;simp only[ap,ba,b8]at hv;rcases hv with rfl|rfl<;>exact⟨_,_,_,rfl⟩
 ·intro v hv;simp only[ap,ba,b8]at hv;rcases hv with rfl|rfl<;>exact⟨_,_,_,rfl⟩
 ·intro v hv;simp only[ap,ba,b8]at hv;rcases hv with rfl|rfl<;>(intro o ho;cases ho;rfl)
 ·intro v hv;simp only[ap,ba,b8]at hv;rcases hv with rfl|rfl
  ·exact fun v W h=>⟨_,h,rfl,(jV a).2⟩
  exact fun v W h=>⟨_,h,rfl,(jV b).2⟩
 ·intro v hv;simp only[ap,ba,b8]at hv;rcases hv with rfl|rfl<;>exact fun B W=>⟨B,rfl⟩
 ·intro W hK0
  have hK:=(Up.drew w).Da.trans hK0
  have hBaW:=Blk.Da hBa (T:=249) cQ hK
  have hBbW:=Blk.Da hBb (T:=249) cQ hK
  refine aC (.inr ⟨rfl,TU.p (.lc rfl (hBaW.agg)) rfl⟩) (aC (.inr ⟨rfl,TU.c (eC (.o rfl) (pU)) (Zf a _ ha) sQ⟩) (aC (.inr ⟨rfl,TU.p (.lc rfl (hBbW.agg)) rfl⟩) (aC (.inr ⟨rfl,TU.c (eC (.o rfl) (pU)) (Zf b _ hb) sQ⟩) (aC (.inl (by simp)) (aC (.inl (by simp)) (aC (.inl (by simp)) (aC (.inl (by simp)) ?_)))))))
  exact allL.nil
 intro wT g hU0 hbl hpw hg
 have hU:=(Up.drew w).trans hU0
 obtain⟨B4,e4,z4,hB4⟩:=hbl ⟨4,6,1,4,7⟩ (by simp)
 obtain⟨B5,e5,z5,hB5⟩:=hbl ⟨5,7,3,5,9⟩ (by simp)
 have e7:g 7=.agg (Rt.cells a):=hg 1 _ 7 cQ rfl rfl
 have e9:g 9=.agg (Rt.cells b):=hg 3 _ 9 cQ rfl rfl
 replace e4:g 4=.pointer (some ⟨B4,0,none⟩):=e4
 replace e5:g 5=.pointer (some ⟨B5,0,none⟩):=e5
 change LW _ _ _ _ _ _ _ _ ((4,.eq (g 4))::(5,.eq (g 5))::_) _
 rw[e4,e5]
 rw[e7]at hB4
 rw[e9]at hB5
 replace hB4:Blk wT B4 a.cells 249:=hB4
 replace hB5:Blk wT B5 b.cells 249:=hB5
 replace hW:=hW.trans hU
 refine Ar (Cg kQ kQ rfl rfl (Am (.fB 0 rfl) (Am (.lb rfl (hB4.An rfl)) (Am (.fB 1 rfl) (Am (.lb rfl (hB5.An rfl)) (Am (.F4 (.t rfl) (.t rfl)) (Am (.fB 0 rfl) (Am (.lb rfl (hB5.An rfl)) (Am (.fB 1 rfl) (Am (.lb rfl (hB4.An rfl)) (Am (.F4 (.t rfl) (.t rfl)) (Am (.Gk (.t rfl) (.t rfl)) (Am (.fB 1 rfl) (Am (.lb rfl (hB4.An rfl)) (Am (.fB 1 rfl) (Am (.lb rfl (hB5.An rfl)) (Am (.F4 (.t rfl) (.t rfl)) (Am (.assign (.t rfl)) (Am (.assign (.t rfl)) (HW.nil ?_))))))))))))))))))))
 intro w1 uw1
 replace hW:=hW.up uw1
 replace hB4:=hB4.up uw1
 replace hB5:=hB5.up uw1
 refine Ab (Aj (Br rfl rfl rfl ⟨_,rfl,?_⟩))
 exact⟨by rw[JW ha hb,NP ha hb],hW⟩
theorem kU(a b:Rt)(w:World)(ha:a.ok)(hb:b.ok):Ret prog 182 #[.agg a.cells,.agg b.cells] w fun r w'=>r=.tuple #[.agg (Ia (Fu a b) (a.d*b.d)).1.cells,vi (Ia (Fu a b) (a.d*b.d)).2]∧Up w w':=by
 obtain⟨w0,rfl,hS⟩:=W0 w
 refine cT 10 func182 rfl (Af (Ao (.bA rfl) rfl ?_))
 rintro _ w1 ⟨B2,rfl,NB2⟩
 replace hS:=hS.Bn NB2
 refine Ao (.bA rfl) rfl ?_
 rintro _ w2 ⟨B3,rfl,NB3⟩
 replace hS:=hS.Bn NB3
 refine Ao (.Bi lm) rfl ?_
 rintro _ w3 ⟨B4,rfl,NB4⟩
 replace hS:=hS.Bn NB4
 refine J (Ar (Aa (I (.makeFunc (.ct rfl (.cu rfl))) (A3 (eC (.o rfl) (BR)) rfl (kT 223 #[.pointer (some ⟨B2,0,none⟩),.pointer (some ⟨B3,0,none⟩)] JJ (Fu a b) (a.d*b.d) _ (by have h:=Tg ha hb;exact⟨by omega,by omega⟩) ((Ub ha hb).1) (by have h:=Ub ha hb;exact⟨by omega,by omega⟩) (fun W u=>sG B2 B3 a b W (hS.b0.up u) (hS.b1.up u) ha hb)) ?_))))
 rintro _ w4 ⟨rfl,uw4⟩
 replace hS:=hS.up uw4
 refine I (.xt rfl rfl) (I (.xt rfl rfl) (Bh (.A5 lj rfl (.t rfl) (.t rfl) (Rt.one _) hS.b2 rfl) ?_))
 intro w5 Nw5
 replace hS:=hS.Co 2 rfl (show Set_ _ w5 _ ((Ia (Fu a b) (a.d*b.d)).1.cells) _ from Nw5)
 refine LW.A rfl (Ai (Aj (Dx rfl rfl rfl md lj rfl (hS.b2).agg ⟨_,rfl,?_⟩)))
 exact⟨rfl,hS.Cj⟩
theorem yO(a b:Rt)(w:World)(ha:a.ok)(hb:b.ok):Ret prog 183 #[.agg a.cells,.agg b.cells] w fun r w'=>r=.tuple #[.agg (Ia (Fu a (Rt.mk (-b.n) b.d)) (a.d*b.d)).1.cells,vi (Ia (Fu a (Rt.mk (-b.n) b.d)) (a.d*b.d)).2]∧Up w w':=by
 obtain⟨w0,rfl,hS⟩:=W0 w
 refine cT 16 func183 rfl (Af (Ao (.bA rfl) rfl ?_))
 rintro _ w1 ⟨B2,rfl,NB2⟩
 replace hS:=hS.Bn NB2
 refine Ao (.bA rfl) rfl ?_
 rintro _ w2 ⟨B3,rfl,NB3⟩
 replace hS:=hS.Bn NB3
 refine Ao (.Bi lm) rfl ?_
 rintro _ w3 ⟨B4,rfl,NB4⟩
 replace hS:=hS.Bn NB4
 refine J (Ar (Aa (I (.lc rfl (hS.b0.agg)) (I (.fB 0 rfl) (I (.lb rfl (hS.b1.An rfl)) (I (.vl (v':=vi (-b.n)) (PEv.neg lh (.t rfl)) (a_ (Go.Value.int .i64) (NS hb))) (I (.fB 1 rfl) (I (.lb rfl (hS.b1.An rfl)) (I (.build (cs:=(Rt.mk (-b.n) b.d).cells) mc lm Ed (.ct rfl (.cu rfl)) rfl) (A3 (eC (.u rfl rfl) (BI)) rfl (kU a (Rt.mk (-b.n) b.d) _ ha hb.neg) ?_))))))))))
 rintro _ w4 ⟨rfl,uw4⟩
 replace hS:=hS.up uw4
 refine I (.xt rfl rfl) (I (.xt rfl rfl) (Bh (.A5 lj rfl (.t rfl) (.t rfl) (Rt.one _) hS.b2 rfl) ?_))
 intro w5 Nw5
 replace hS:=hS.Co 2 rfl (show Set_ _ w5 _ ((Ia (Fu a (Rt.mk (-b.n) b.d)) (a.d*b.d)).1.cells) _ from Nw5)
 refine LW.A rfl (Ai (Aj (Dx rfl rfl rfl md lj rfl (hS.b2).agg ⟨_,rfl,?_⟩)))
 exact⟨rfl,hS.Cj⟩
theorem nN(n d:Int)(w:World)(h:EG n d):Ret prog 229 #[vi n,vi d] w fun r w'=>r=vi (n/d)∧Up w w':=by
 have hW:=Up.refl w
 refine cT 17 func229 rfl (Af (J (Ar (Af (Ac rfl (I (.lss (.t rfl) (.const _)) (Ai (CW.b rfl (fun h6=>?_) (fun h6=>?_)))))))))
 ·replace h6:=dQ h6
  have hng:=h6
  refine Af (Ac rfl (I (.Si (.t rfl) (.const _)) (Ac rfl (I (.Si (.t rfl) (.t rfl)) (Ac rfl (I (.quo (.t rfl) (.t rfl) (by have:=h.2.2.1;omega)) (I (.neg lh (.t rfl)) (LW.A rfl (Ai (Aj (Ah (KW.q ?_))))))))))))
  exact⟨a_ vi (EH h hng),hW⟩
 replace h6:=dQ h6
 have hng:0≤n:=by omega
 refine Ak (Ab (Af (Ac rfl (Ac rfl (I (.quo (.t rfl) (.t rfl) (by have:=h.2.2.1;omega)) (LW.A rfl (Ai (Aj (KW.q ?_)))))))))
 exact⟨a_ vi (EI h hng),hW⟩
theorem gO(Ba Bd:Nat)(a:Rt)(d:Int)(w:World)(hBa:Blk w Ba a.cells 55)(hBd:Blk w Bd #[vi d] 3)(ha:a.ok)(hd:1≤d∧d≤1000000):Ret prog 228 #[.pointer (some ⟨Ba,0,none⟩),.pointer (some ⟨Bd,0,none⟩)] w fun r w'=>r=.tuple #[vi (Tc a d),vi d]∧Up w w':=by
 have hW:=Up.refl w
 refine cT 20 func228 rfl (Af (J (J (Ar (Aa (I (.lc rfl (hBa.agg)) (A3 (eC (.o rfl) (pU)) rfl (Zf a _ ha) ?_)))))))
 rintro _ w1 ⟨rfl,uw1⟩
 replace hBa:=hBa.up uw1
 replace hBd:=hBd.up uw1
 replace hW:=hW.up uw1
 refine Ao (.Bi zeroValue249) rfl ?_
 rintro _ w2 ⟨B4,rfl,MB4⟩
 refine Bh (.A5 sizeOf249 rfl (.t rfl) (.t rfl) (Rt.one _) MB4.blk rfl) ?_
 intro w3 LB4
 have NB4:=MB4.set LB4
 replace hBa:=hBa.up NB4.up
 replace hBd:=hBd.up NB4.up
 replace hW:=hW.up NB4.up
 have hB4:=NB4.blk
 refine Ar (Cg kQ kQ rfl rfl (Am (.fB 0 rfl) (Am (.lb rfl (hB4.An rfl)) (Am (.F4 (.const _) (.t rfl)) (Am (.lb rfl (hBd.An rfl)) (Am (.F4 (.t rfl) (.t rfl)) (Am (.fB 1 rfl) (Am (.lb rfl (hB4.An rfl)) (Am (.vl (v':=vi (gF a d)) (PEv.Gk (.t rfl) (.t rfl)) (a_ (Go.Value.int .i64) (nB ha hd).1)) (Am (.fB 1 rfl) (Am (.lb rfl (hB4.An rfl)) (Am (.vl (v':=vi (2*a.d)) (PEv.F4 (.const _) (.t rfl)) (a_ (Go.Value.int .i64) (nB ha hd).2.1)) (HW.c (fun a w _ ha=>Bq (.ct rfl (.cu rfl)) (JM) a ha) rfl rfl (fun w hu=>nN (gF a d) (2*a.d) w (nB ha hd).2.2) (Am (.lb rfl (hBd.An rfl)) (Am (.assign (.t rfl)) (Am (.assign (.t rfl)) (HW.nil ?_)))))))))))))))))
 intro w4 uw4
 replace hBa:=hBa.up uw4
 replace hBd:=hBd.up uw4
 replace hW:=hW.up uw4
 replace hB4:=hB4.up uw4
 refine Ab (Aj (Br rfl rfl rfl ⟨_,rfl,?_⟩))
 exact⟨rfl,hW⟩
theorem nO(a:Rt)(d:Int)(w:World)(ha:a.ok)(hd:1≤d∧d≤1000000):Ret prog 186 #[.agg a.cells,vi d] w fun r w'=>r=.tuple #[.agg (Ia (Tc a d) d).1.cells,vi (Ia (Tc a d) d).2]∧Up w w':=by
 obtain⟨w0,rfl,hS⟩:=W0 w
 refine cT 17 func186 rfl (Af (Ao (.bA rfl) rfl ?_))
 rintro _ w1 ⟨B2,rfl,NB2⟩
 replace hS:=hS.Bn NB2
 refine Ao (.Ro (.t rfl) rfl) rfl ?_
 rintro _ w2 ⟨B3,rfl,NB3⟩
 replace hS:=hS.Bn NB3
 refine Ao (.Bi lm) rfl ?_
 rintro _ w3 ⟨B4,rfl,NB4⟩
 replace hS:=hS.Bn NB4
 refine J (Ar (Af (I (.lb rfl (hS.b1.An rfl)) (I (.fa (PEv.lss (.t rfl) (.const _)) (bg oQ)) (Ac rfl (Cq (I (.lb rfl (hS.b1.An rfl)) (Cq (I (.fa (PEv.gtr (.t rfl) (.const _)) (bg oQ)) (I (.po rfl (fun hp=>(by exact .tmp rfl))) (Ai (CW.f rfl (Ak (Ab (Af (I (.makeFunc (.ct rfl (.cu rfl))) (A3 (eC (.o rfl) (BR)) rfl (kT 228 #[.pointer (some ⟨B2,0,none⟩),.pointer (some ⟨B3,0,none⟩)] JL (Tc a d) (d) _ (rT ha hd) oQ (⟨by omega,by omega⟩) (fun W u=>gO B2 B3 a d W (hS.b0.up u) (hS.b1.up u) ha hd)) ?_)))))))))))))))))
 rintro _ w4 ⟨rfl,uw4⟩
 replace hS:=hS.up uw4
 refine I (.xt rfl rfl) (I (.xt rfl rfl) (Bh (.A5 lj rfl (.t rfl) (.t rfl) (Rt.one _) hS.b2 rfl) ?_))
 intro w5 Nw5
 replace hS:=hS.Co 2 rfl (show Set_ _ w5 _ ((Ia (Tc a d) d).1.cells) _ from Nw5)
 refine LW.A rfl (Ai (Aj (Dx rfl rfl rfl md lj rfl (hS.b2).agg ⟨_,rfl,?_⟩)))
 exact⟨rfl,hS.Cj⟩
theorem Q3(a b:Rt)(w:World)(ha:a.ok)(hb:b.ok):Ret prog 227 #[.agg a.cells,.agg b.cells] w fun r w'=>r=vi (L8 (a.n*b.d) (b.n*a.d))∧Up w w':=by
 obtain⟨w0,rfl,hS⟩:=W0 w
 refine cT 24 func227 rfl (Af (Ao (.bA rfl) rfl ?_))
 rintro _ w1 ⟨B2,rfl,NB2⟩
 replace hS:=hS.Bn NB2
 refine Ao (.bA rfl) rfl ?_
 rintro _ w2 ⟨B3,rfl,NB3⟩
 replace hS:=hS.Bn NB3
 refine J (Ar (Af (I (.lc rfl (hS.b0.agg)) (A3 (eC (.o rfl) (Wu)) rfl (Ij a _ ha) ?_))))
 rintro _ w3 ⟨rfl,uw3⟩
 replace hS:=hS.up uw3
 refine I (.n1 rfl) (Ac rfl (Cq (I (.lc rfl (hS.b1.agg)) (Cq (A3 (eC (.o rfl) (Wu)) rfl (Ij b _ hb) ?_)))))
 rintro _ w4 ⟨rfl,uw4⟩
 replace hS:=hS.up uw4
 refine Cq (I (.n1 rfl) (I (.po rfl (fun hp=>(by exact .tmp rfl))) (Ai (CW.f rfl (Ak (Ab (Af (I (.fB 0 rfl) (I (.lb rfl (hS.b0.An rfl)) (I (.fB 1 rfl) (I (.lb rfl (hS.b1.An rfl)) (I (.F4 (.t rfl) (.t rfl)) (I (.fB 0 rfl) (I (.lb rfl (hS.b1.An rfl)) (I (.fB 1 rfl) (I (.lb rfl (hS.b0.An rfl)) (I (.F4 (.t rfl) (.t rfl)) (A3 (eC (.u rfl rfl) (pO)) rfl (Pm _ _ _) ?_))))))))))))))))))
 rintro _ w5 ⟨rfl,uw5⟩
 replace hS:=hS.up uw5
 refine LW.A rfl (Ai (Aj (KW.q ?_)))
 exact⟨by rw[nC ha hb,nC hb ha],hS.Cj⟩
theorem nP(a lo hi:Rt)(w:World)(ha:a.ok)(hlo:lo.ok)(hhi:hi.ok):Ret prog 185 #[.agg a.cells,.agg lo.cells,.agg hi.cells] w fun r w'=>r=.agg (Mb a lo hi).cells∧Up w w':=by
 obtain⟨w0,rfl,hS⟩:=W0 w
 refine cT 31 func185 rfl (Af (Ao (.bA rfl) rfl ?_))
 rintro _ w1 ⟨B3,rfl,NB3⟩
 replace hS:=hS.Bn NB3
 refine Ao (.bA rfl) rfl ?_
 rintro _ w2 ⟨B4,rfl,NB4⟩
 replace hS:=hS.Bn NB4
 refine Ao (.bA rfl) rfl ?_
 rintro _ w3 ⟨B5,rfl,NB5⟩
 replace hS:=hS.Bn NB5
 refine Ao (.Bi lm) rfl ?_
 rintro _ w4 ⟨B6,rfl,NB6⟩
 replace hS:=hS.Bn NB6
 refine Ar (Ap (Al (Af (I (.lc rfl (hS.b0.agg)) (A3 (eC (.o rfl) (Wu)) rfl (Ij a _ ha) ?_)))))
 rintro _ w5 ⟨rfl,uw5⟩
 replace hS:=hS.up uw5
 refine I (.n1 rfl) (LW.A rfl (Ai (CW.f rfl (Af (I (.lc rfl (hS.b1.agg)) (A3 (eC (.o rfl) (Wu)) rfl (Ij lo _ hlo) ?_))))))
 rintro _ w6 ⟨rfl,uw6⟩
 replace hS:=hS.up uw6
 refine I (.n1 rfl) (LW.A rfl (Ai (CW.f rfl (Aa (I (.lc rfl (hS.b2.agg)) (A3 (eC (.o rfl) (Wu)) rfl (Ij hi _ hhi) ?_))))))
 rintro _ w7 ⟨rfl,uw7⟩
 replace hS:=hS.up uw7
 refine I (.n1 rfl) (LW.A rfl (Ai (CW.f rfl (Af (I (.lc rfl (hS.b0.agg)) (I (.lc rfl (hS.b1.agg)) (A3 (eC (.u rfl rfl) (BS)) rfl (Q3 a lo _ ha hlo) ?_)))))))
 rintro _ w8 ⟨rfl,uw8⟩
 replace hS:=hS.up uw8
 refine I (.lss (.t rfl) (.const _)) (LW.A rfl (Ai (CW.b rfl (fun h18=>?_) (fun h18=>?_))))
 ·replace h18:=dQ h18
  have h1:=h18
  refine Af (I (.lc rfl (hS.b1.agg)) (Bh (.A5 lj rfl (.t rfl) (.t rfl) (Rt.one _) hS.b3 rfl) ?_))
  intro w9 Nw9
  replace hS:=hS.Co 3 rfl Nw9
  refine Ai (Aj (Aw (Ah (Dy rfl rfl md lj rfl (hS.b3.agg) ⟨_,rfl,?_⟩))))
  exact⟨by unfold Mb;rw[ak h1],hS.Cj⟩
 replace h18:=dQ h18
 have h1:=h18
 refine Af (I (.lc rfl (hS.b0.agg)) (I (.lc rfl (hS.b2.agg)) (A3 (eC (.u rfl rfl) (BS)) rfl (Q3 a hi _ ha hhi) ?_)))
 rintro _ w10 ⟨rfl,uw10⟩
 replace hS:=hS.up uw10
 refine I (.gtr (.t rfl) (.const _)) (LW.A rfl (Ai (CW.b rfl (fun h24=>?_) (fun h24=>?_))))
 ·replace h24:=dQ h24
  have h2:=h24
  refine Af (I (.lc rfl (hS.b2.agg)) (Bh (.A5 lj rfl (.t rfl) (.t rfl) (Rt.one _) hS.b3 rfl) ?_))
  intro w11 Nw11
  replace hS:=hS.Co 3 rfl Nw11
  refine Ai (Aj (Aw (Ah (Dy rfl rfl md lj rfl (hS.b3.agg) ⟨_,rfl,?_⟩))))
  exact⟨by unfold Mb;rw[ae h1,ak h2],hS.Cj⟩
 replace h24:=dQ h24
 have h2:=h24
 refine Ak (Ae (Ab (Af (I (.lc rfl (hS.b0.agg)) (Bh (.A5 lj rfl (.t rfl) (.t rfl) (Rt.one _) hS.b3 rfl) ?_)))))
 intro w12 Nw12
 replace hS:=hS.Co 3 rfl Nw12
 refine Ai (Aj (Dy rfl rfl md lj rfl (hS.b3.agg) ⟨_,rfl,?_⟩))
 exact⟨by unfold Mb;rw[ae h1,ae h2],hS.Cj⟩
theorem cE(cf:Nat)(lb:Array Go.Value)(p:Fact→Bool)(hen:∀args w,(callFunc cf args).run prog w=.ok (.enter cf args) w)(ad:Option Addr)(cp:Nat)(l:List Fact)(w:World)(ho:OwnS w 0 51 19 Fact.cells (.slice ad l.length cp) l)(hl:l.length≤100000)(hp:∀W,Fr (A8 51 19 Fact.cells (.slice ad l.length cp) (l)).foot w W→∀x,Ret prog cf (#[.agg (Fact.cells x)]++lb) W fun r W'=>r=.bool (p x)∧Up W W'):Ret prog 216 #[.slice ad l.length cp,.func (.func cf) #[] lb] w fun r w'=>Stp (A8 51 19 Fact.cells (.slice ad l.length cp) (l)) (A8 51 19 Fact.cells (r) (l.filter fun x=> !p x)) w w':=by
 obtain⟨w0,rfl,_⟩:=W0 w
 have hS:Wx.Sep (A8 51 19 Fact.cells (.slice ad l.length cp) (l)).foot w0 w0 [A8 51 19 Fact.cells (.slice ad l.length cp) (l)]:=Sep.cons ho (fun _ h=>h) (Sep.start _ _) (by simp)
 refine cT 42 func216 rfl (Af (J (Ar (Aa (Ac rfl (Ac rfl (A3 (eC (.u rfl rfl) (BN)) rfl (Xt cf lb p hen ad cp l _ ((hS.own 0 rfl).els (fun _=>rfl)) hl (fun W u x=>hp W (hS.fr.trans (u.fr _)) x)) ?_)))))))
 rintro _ w1 ⟨i,rfl,hi,uw1⟩
 replace hS:=hS.up uw1
 refine LW.A rfl (Ar (Af (Ac rfl (I (.eql (.t rfl) (.const _)) (Ai (CW.b rfl (fun h12=>?_) (fun h12=>?_)))))))
 ·replace h12:=dQ h12
  have hn:=(hi.resolve_left (fun⟨k,x,e,_⟩=>by omega)).2
  refine Af (Ac rfl (LW.A rfl (Ai (Aj (Ah (KW.q ?_))))))
  exact⟨hS.fr,by rw[gI hn];exact hS.get 0 rfl,fun _ h=>.inl h⟩
 replace h12:=dQ h12
 refine Ak (Ab (Al (Al ?_)))
 obtain⟨k,x,rfl,hx,hpx,hn⟩:=hi.resolve_right (fun⟨e,_⟩=>h12 e)
 have hkl:=(ai.1 hx).1
 obtain⟨g,rfl⟩:=(hS.own 0 rfl).OJ oQ
 have hD0:=DelX.start hx hpx hn
 have hk0:k=(Ja p l (k+1)).length:=by rw[Sw hx hpx hn,bu];omega
 refine Aa (Ac rfl (I (.ic rfl oQ) (LW.A rfl (Ai (Ap (A9 (σ:=Nat×Nat×List Fact) (fun s w=>(s.1≤l.length)∧(s.2.1=(Ja p l s.1).length)∧(DelX p l s.2.2 s.1)∧(Wx.Sep (A8 51 19 Fact.cells (.slice (some ⟨g,0,none⟩) l.length cp) l).foot w0 w [A8 51 19 Fact.cells (.slice (some ⟨g,0,none⟩) l.length cp) s.2.2])) (fun s=>[(6,.eq (vi (s.1:Int))),(5,.eq (vi (s.2.1:Int)))]) ([(0,.eq _),(1,.eq _),(4,.eq _)]) (fun s=>l.length-s.1) (k+1,k,l) ?_ tQ ?_))))))
 ·exact⟨by show k+1≤_;omega,hk0,hD0,hS⟩
 rintro⟨j,i,M⟩ w2 ⟨hj,hi2,hD,hS⟩
 dsimp only at hj hi2 hD hS
 change CW _ _ _ _ _ _ _ ([(6,.eq (vi (j:Int))),(5,.eq (vi (i:Int)))]++_) _
 refine Al (Af (Ac rfl (Ac rfl (I (.Df k6 (.t rfl)) (I (.l2 rfl rfl) (Ai (CW.b rfl (fun h19=>?_) (fun h19=>?_))))))))
 ·replace h19:=dQ h19
  refine Ak (Ab (Al (Ap (Al ?_))))
  have hjl:j<l.length:=by omega
  obtain⟨x,hx⟩:=Av (xs:=l) (i:=j) hjl
  have hxM:=(hD.rest j (av _)).trans hx
  obtain⟨Bx,ox,ax,hcx⟩:=((hS.own 0 rfl).els (fun _=>rfl)) j x hxM
  cases ax
  refine Aa (Ac rfl (Ac rfl (I (.Ay k6 k7 (.t rfl) (.t rfl) oQ rfl) (I (.lc rfl (hcx)) (Ao (.Bi k_) rfl ?_)))))
  rintro _ w3 ⟨B7,rfl,MB7⟩
  refine Bh (.A5 k7 rfl (.t rfl) (.t rfl) (Fact.one _) MB7.blk rfl) ?_
  intro w4 LB7
  have NB7:=MB7.set LB7
  have eB7:=NB7.at_
  replace hS:=hS.Bn NB7
  refine Ar (Aa (Ac rfl (I (.lc rfl (hS.b1.agg)) (A3 (D0 (.t rfl) (.cu rfl) (hen)) rfl (hp _ hS.fr x) ?_))))
  rintro _ w5 ⟨rfl,uw5⟩
  replace hS:=hS.up uw5
  refine I (.n1 rfl) (Ai (CW.b rfl (fun h29=>?_) (fun h29=>?_)))
  ·replace h29:=dQ h29
   refine Al ?_
   have hkj:=R3 p l j
   have hMl:=hD.len
   have hpn:p x=false:=by simpa using h29
   have hky:=Xr hx hpn
   refine Aa (Ac rfl (Ac rfl (I (.lc rfl (hS.b1.agg)) (I (.Ay k6 k7 (.t rfl) (.t rfl) oQ rfl) (Bh (.G3 (enc:=Fact.cells) (k:=19) (z:=x) (i:=i) k7 (fun _=>rfl) Fact.one (.t rfl) (.t rfl) (hS.own 0 rfl) oQ) ?_)))))
   intro w6 Gw6
   replace hS:=hS.E5 0 rfl Gw6
   refine Ai (Aa (Ac rfl (I (.ic rfl oQ) (LW.A rfl (LW.nil (Ae (Ab (Aa (Ac rfl (I (.ic rfl oQ) (LW.A rfl (LW.nil (Aq ?_)))))))))))))
   exact⟨(j+1,i+1,M.set i x),⟨by show j+1≤_;omega,by show i+1=_;rw[hky,hi2];simp,by show DelX p l (M.set i x) (j+1);rw[hi2];exact hD.yes hx hpn,hS.take 1⟩,tQ,by show l.length-(j+1)<l.length-j;omega⟩
  replace h29:=dQ h29
  refine Ak (Ae (Ab (Aa (Ac rfl (I (.ic rfl oQ) (LW.A rfl (LW.nil (Aq ?_))))))))
  exact⟨(j+1,i,M),⟨by show j+1≤_;omega,by show i=_;rw[cA hx (by simpa using h29)];exact hi2,hD.no hx (by simpa using h29),hS.take 1⟩,tQ,by show l.length-(j+1)<l.length-j;omega⟩
 replace h19:=dQ h19
 refine A7 (Ad (Ad (Au (Ab (Al ?_)))))
 have hjl:j=l.length:=by omega
 have hkj:=R3 p l j
 have hMl:=hD.len
 have hcl:=(hS.own 0 rfl).NT
 refine Aa (Ac rfl (Ac rfl (I (.sliceFrom k6 k7 (.t rfl) (.t rfl) oQ) (BT (Wh (enc:=Fact.cells) (k:=19) k6 k_ rfl (by simp[Value.cells,Value.oneCell']) (fun _=>rfl) (xs:=M) (i:=i) (by rw[hD.len];exact .tmp rfl) oQ (by rw[hD.len];exact hS.own 0 rfl)) rfl rfl rfl ?_))))
 intro v_ w7 Gw7
 rw[hD.len]at Gw7
 replace hS:=hS.E5 0 rfl Gw7
 refine Ar (Aa (Ac rfl (Ac rfl (I (.Yr k6 k7 (.t rfl) (.t rfl) oQ) (LW.A rfl (Ai (Aj (KW.q ?_))))))))
 exact⟨hS.fr,by rw[←nH,←hjl,←hD.kept,←hi2];exact hS.get 0 rfl,fun _ h=>.inl h⟩
theorem gP(ad:Option Addr)(cp:Nat)(l:List Fact)(w:World)(hE0:Els w ad 19 Fact.cells l)(hl:l.length≤100000):Ret prog 217 #[.slice ad l.length cp] w fun r w'=>OwnS w' w.heap.size 51 19 Fact.cells r l∧Up w w':=by
 obtain⟨w0,rfl,hS⟩:=W0 w
 refine cT 8 func217 rfl (Af (J (Ar (Af (Ac rfl (I (.kP k6 (.t rfl)) (Ai (CW.b rfl (fun h4=>?_) (fun h4=>?_)))))))))
 ·have hnil:l=[]:=by cases l with|nil=>rfl|cons x r=>(obtain⟨B,o,e,_⟩:=hE0 0 x rfl;rw[e]at h4;cases h4)
  refine Af (J (Ai (Aj (Ah (KW.q ?_)))))
  (subst hnil;exact⟨OwnS.nil _ _ _ _ _,hS.Cj⟩)
 refine Ak (Ab (Af (Ao (.buildSlice (xs:=([]:List Fact)) (enc:=Fact.cells) (mk:=fun f=>.agg f.cells) k6 k7 k_ rfl cQ (fun _=>rfl) (fun _=>rfl) .nil rfl) rfl ?_)))
 intro v5 w1 hN5
 obtain⟨uw1,B5,rfl,hO5⟩:=T0 hN5 (av _)
 replace hS:=hS.add uw1 (A':=A8 51 19 Fact.cells (.slice (some ⟨B5,0,none⟩) 0 0) ([]:List Fact)) (hO5.mono (ao _)) (fun i h=>hO5.base i h)
 refine Ac rfl (Ao (.Cu (enc:=Fact.cells) (bytes:=160) (i:=Tryz.t51) k6 kQ rfl rfl rfl rfl cQ (fun _=>rfl) Fact.one (.t rfl) (.t rfl) (hS.own 0 rfl) (Az (Els.up hE0 hS.Cj)) (by simp[maxLen];omega) (by simp;omega)) rfl ?_)
 intro v7 w2 Gw2
 replace hS:=hS.E5 0 rfl Gw2
 refine LW.A rfl (Ai (Aj (KW.q ?_)))
 exact⟨(hS.own 0 rfl).I1 (fun i h=>(hS.foot 0 rfl i h).resolve_left (fun h=>h)),hS.Cj⟩
theorem Nb(a:Rt)(w:World):Ret prog 181 #[.agg a.cells,vi 0] w fun r w'=>r=.agg a.cells∧Up w w':=by
 obtain⟨w0,rfl,hS⟩:=W0 w
 refine cT 9 func181 rfl (Af (Ao (.bA rfl) rfl ?_))
 rintro _ w1 ⟨B2,rfl,NB2⟩
 replace hS:=hS.Bn NB2
 refine Ao (.Bi lm) rfl ?_
 rintro _ w2 ⟨B4,rfl,NB4⟩
 replace hS:=hS.Bn NB4
 refine Ar (Af (Ac rfl (I (.neq (.t rfl) (.const _)) (Ai (CW.f rfl (Ak (Ab (Af (I (.lc rfl (hS.b0.agg)) (Bh (.A5 lj rfl (.t rfl) (.t rfl) (Rt.one _) hS.b1 rfl) ?_))))))))))
 intro w3 Nw3
 replace hS:=hS.Co 1 rfl Nw3
 refine Ai (Aj (Dy rfl rfl md lj rfl (hS.b1.agg) ⟨_,rfl,?_⟩))
 exact⟨rfl,hS.Cj⟩
theorem Od(n:Int)(w:World)(hn:n.natAbs≤1000000000):Ret prog 179 #[vi n] w fun r w'=>r=.agg (Ce n 1).cells∧Up w w':=by
 obtain⟨w0,rfl,hS⟩:=W0 w
 refine cT 8 func179 rfl (Af (Ao (.Bi lm) rfl ?_))
 rintro _ w1 ⟨B2,rfl,NB2⟩
 replace hS:=hS.Bn NB2
 refine Ar (Aa (Ac rfl (A3 (eC (.ct rfl (.cons (.const _) .nil)) (wW)) rfl (Q2 n 1 _ ⟨by omega,by omega⟩ cQ ⟨by decide,by decide⟩) ?_)))
 rintro _ w2 ⟨rfl,uw2⟩
 replace hS:=hS.up uw2
 rw[Gq (Hf hn cQ)]
 refine I (.xt rfl rfl) (I (.xt rfl rfl) (A3 (eC (.u rfl rfl) (aG)) rfl (Nb (Ce n 1) _) ?_))
 rintro _ w3 ⟨rfl,uw3⟩
 replace hS:=hS.up uw3
 refine Bh (.A5 lj rfl (.t rfl) (.t rfl) (Rt.one _) hS.b0 rfl) ?_
 intro w4 Nw4
 replace hS:=hS.Co 0 rfl (show Set_ _ w4 _ ((Ce n 1).cells) _ from Nw4)
 refine Ai (Aj (Dy rfl rfl md lj rfl (hS.b0.agg) ⟨_,rfl,?_⟩))
 exact⟨rfl,hS.Cj⟩
theorem Sx(n:Int)(w:World):Ret prog 221 #[vi n] w fun r w'=>r=.bool (Lm n)∧Up w w':=by
 have hW:=Up.refl w
 refine cT 9 func221 rfl (Af (J (Ar (Aa (Ac rfl (I (.geq (.t rfl) (.const _)) (Ac rfl (Dk rfl rfl (LW.gr rfl (fun hc=>PEv.leq vQ (.const _)) (I (.pa rfl (fun hp=>(by exact .cond rfl (by(rw[hp];rfl))))) (LW.A rfl (Ai (Aj (KW.q ?_))))))))))))))
 exact⟨rfl,hW⟩
theorem cF(w:World):Ret prog 129 #[Value.nilIface] w fun r w'=>r=vi 0∧Up w w':=by
 have hW:=Up.refl w
 refine cT 19 func129 rfl (Af (J (Ar (Af (Ac rfl (I (.yK underlying20 (.t rfl)) (Ai (CW.v rfl (Af (J (Ai (Aj (Ah (KW.q ?_))))))))))))))
 exact⟨rfl,hW⟩
theorem Sy(bc:Array Go.Value)(b:Base)(t c r time:Int)(w:World)(hC:BaseC w bc b)(hl:b.Targets.length≤100000):Ret prog 184 #[.agg (F1 bc t c r),vi time] w fun r0 w'=>r0=vi (Ez b.Targets r time)∧Up w w':=by
 obtain⟨w0,rfl,hS⟩:=W0 w
 refine cT 22 func184 rfl (Af (Ao (.bA rfl) rfl ?_))
 rintro _ w1 ⟨B2,rfl,NB2⟩
 replace hS:=hS.Bn NB2
 refine J (Ar (Af (I (.fB 0 rfl) (I (.Ef l7 lw (hC.size) (.t rfl) (M9 hS.b0)) (I (.fB 13 rfl) (I (.lb rfl (Jr hS.b0 hC 2 rfl)) (Ac rfl (A3 (eC (.ct rfl (.ct rfl (.cu rfl))) (JK)) rfl (gN bc b r time _ (hC.up hS.Cj) hl) ?_))))))))
 rintro _ w2 ⟨rfl,uw2⟩
 replace hS:=hS.up uw2
 refine Ac rfl (I (.xt rfl rfl) (I (.xt rfl rfl) (LW.A rfl (LW.A rfl (Ar (Aa (Ac rfl (Ac rfl (Dk rfl rfl (Z5 rfl rfl rfl rfl rfl rfl rfl rfl (fun hc=>Bq (.cons vQ .nil) (BQ)) (fun hc=>Sx (Lc r time b.Targets).1.Value _) ?_))))))))))
 intro w3 uw3
 replace hS:=hS.up uw3
 refine I (.pa rfl (fun hp=>(by exact .cond rfl (by(rw[hp];rfl))))) (Ai (CW.b rfl (fun h20=>?_) (fun h20=>?_)))
 ·have hv:=h20
  refine Af (Ac rfl (LW.A rfl (Ai (Aj (Ah (KW.q ?_))))))
  exact⟨by rw[U8 (by simpa using hv)],hS.Cj⟩
 have hv:=h20
 refine Ak (Ab (Af (J (Ai (Aj (KW.q ?_))))))
 exact⟨by rw[Y8 (by simpa using hv)],hS.Cj⟩
theorem Wi(bc:Array Go.Value)(b:Base)(t c r:Int)(x:Fact)(time:Int)(w:World)(hC:BaseC w bc b)(hlM:b.Measures.length≤100000)(hlT:b.Targets.length≤100000):Ret prog 180 #[.agg (F1 bc t c r),.agg x.cells,vi time] w fun r0 w'=>r0=.tuple #[vi (E3 b.Measures b.Targets r x time).1,.bool (E3 b.Measures b.Targets r x time).2]∧Up w w':=by
 obtain⟨w0,rfl,hS⟩:=W0 w
 refine cT 39 func180 rfl (Af (Ao (.bA rfl) rfl ?_))
 rintro _ w1 ⟨B3,rfl,NB3⟩
 replace hS:=hS.Bn NB3
 refine Ao (.bA rfl) rfl ?_
 rintro _ w2 ⟨B4,rfl,NB4⟩
 replace hS:=hS.Bn NB4
 refine J (J (Ar (Aa (I (.fB 0 rfl) (I (.Ef l7 lw (hC.size) (.t rfl) (M9 hS.b0)) (I (.fB 1 rfl) (I (.lb rfl (hS.b1.An rfl)) (A3 (eC (.u rfl rfl) (JI)) rfl (cD bc b x.ID _ (hC.up hS.Cj) hlM) ?_))))))))
 rintro _ w3 ⟨rfl,uw3⟩
 replace hS:=hS.up uw3
 generalize hm:U2 b x.ID=m
 refine Ac rfl (I (.xt rfl rfl) (I (.xt rfl rfl) (Ao (.Bi k_) rfl ?_)))
 rintro _ w4 ⟨B8,rfl,MB8⟩
 refine Bh (.A5 k7 rfl (.t rfl) (.t rfl) eQ MB8.blk rfl) ?_
 intro w5 LB8
 have NB8:=MB8.set LB8
 replace hS:=hS.Bn NB8
 refine LW.A rfl (Ar (Af (Ac rfl (I (.n1 rfl) (Ac rfl (LW.gr rfl (fun hc=>PEv.fB 16 rfl) (LW.gr rfl (fun hc=>PEv.load ly vQ (hS.b2.An rfl)) (Z5 rfl rfl rfl rfl rfl rfl rfl rfl (fun hc=>Bq (.cons vQ .nil) (BQ)) (fun hc=>Sx (m.getD Dc).Value _) ?_))))))))
 intro w6 uw6
 replace hS:=hS.up uw6
 refine LW.gr rfl (fun hc=>PEv.not vQ) (I (.po rfl (fun hp=>(by exact .cond rfl (by(rw[hp];rfl))))) (Ac rfl (LW.gr rfl (fun hc=>PEv.fB 5 rfl) (LW.gr rfl (fun hc=>PEv.load ly vQ (hS.b2.An rfl)) (Dk rfl rfl (LW.gr rfl (fun hc=>PEv.gtr vQ vQ) (I (.po rfl (fun hp=>(by exact .cond rfl (by(rw[hp];rfl))))) (Ai (CW.b rfl (fun h31=>?_) (fun h31=>?_))))))))))
 ·have hv:E7 m time=true:=by simpa[E7]using h31
  refine Af (J (J (Ai (Aj (Ah (Br rfl rfl rfl ⟨_,rfl,?_⟩))))))
  exact⟨by subst hm;rw[Y9 hv],hS.Cj⟩
 have hv:E7 m time=false:=by simpa[E7]using h31
 refine Ak (Ab (Al ?_))
 have hvi:=gK hv
 have hti:=Qx b.Targets r x.Time
 refine Eo 7 [.eq (.pointer (some ⟨B8,16,none⟩)),.eq (vi (m.getD Dc).Value),.eq (.agg (F1 bc t c r)),.eq (.pointer (some ⟨B4,5,none⟩)),.eq (vi x.Time),.eq (vi (Ez b.Targets r x.Time)),.eq (vi ((m.getD Dc).Value-Ez b.Targets r x.Time))] [38] kQ rfl kQ kQ kQ kQ kQ kQ kQ uQ ?_ ?_
 ·intro W hU0
  have hU:=(Up.drew w6).trans hU0
  have hSW:=hS.up hU
  refine aC ⟨rfl,TU.p (.fB 16 rfl) rfl⟩ (aC ⟨rfl,TU.p (.lb rfl (hSW.b2.An rfl)) rfl⟩ (aC ⟨rfl,TU.p (.Ef isAgg136 sizeOf136 (Iu hC t c r) (.t rfl) hSW.b0.agg) rfl⟩ (aC ⟨rfl,TU.p (.fB 5 rfl) rfl⟩ (aC ⟨rfl,TU.p (.lb rfl (hSW.b1.An rfl)) rfl⟩ (aC ⟨rfl,TU.c (eC (.u rfl rfl) (BJ)) (Sy bc b t c r x.Time W (hC.up (hS.Cj.trans hU)) hlT) sQ⟩ (aC ⟨rfl,TU.p (.vl (v':=vi ((m.getD Dc).Value-Ez b.Targets r x.Time)) (PEv.Si (.t rfl) (.t rfl)) (a_ (Go.Value.int .i64) (Cb oQ oQ))) rfl⟩ ?_))))))
  exact allL.nil
 intro w7 g hU0 hg
 have hU:=(Up.drew w6).trans hU0
 replace hS:=hS.up hU
 have e38:g 38=_:=hg 6 _ 38 cQ rfl rfl
 dsimp only[List.map]
 rw[e38]
 refine LW.A rfl (J (Ai (Aj (Br rfl rfl rfl ⟨_,rfl,?_⟩))))
 exact⟨by subst hm;rw[U9 hv];rfl,hS.Cj⟩
theorem gQ(x:Fact)(time:Int)(B:Nat)(w:World)(hB:Blk w B #[vi time] 3):Ret prog 219 #[.agg x.cells,.pointer (some ⟨B,0,none⟩)] w fun r w'=>r=.bool (decide (x.Time≤time))∧Up w w':=by
 have hW:=Up.refl w
 refine cT 8 func219 rfl (Af (Ao (.bA rfl) rfl ?_))
 rintro _ w1 ⟨B2,rfl,NB2⟩
 replace hB:=hB.up NB2.up
 replace hW:=hW.up NB2.up
 have hB2:=NB2.blk
 refine J (Ar (Aa (I (.fB 5 rfl) (I (.lb rfl (hB2.An rfl)) (I (.lb rfl (hB.An rfl)) (I (.leq (.t rfl) (.t rfl)) (LW.A rfl (Ai (Aj (KW.q ?_))))))))))
 exact⟨rfl,hW⟩
theorem nQ(bc:Array Go.Value)(b:Base)(t c r:Int)(x:Fact)(Bp:Nat)(w0 w:World)(hC:BaseC w0 bc b)(hBp:Blk w Bp (F1 bc t c r) 136):Ret prog 175 #[.agg x.cells,.pointer (some ⟨Bp,0,none⟩)] w fun r0 w'=>r0=.bool (decide (x.Recipe=r))∧Up w w':=by
 have hW:=Up.refl w
 refine cT 9 func175 rfl (Af (Ao (.bA rfl) rfl ?_))
 rintro _ w1 ⟨B2,rfl,NB2⟩
 replace hBp:=hBp.up NB2.up
 replace hW:=hW.up NB2.up
 have hB2:=NB2.blk
 refine J (Ar (Aa (I (.fB 14 rfl) (I (.lb rfl (hB2.An rfl)) (I (.fB 13 rfl) (I (.lb rfl (Jr hBp hC 2 rfl)) (I (.eql (.t rfl) (.t rfl)) (LW.A rfl (Ai (Aj (KW.q ?_)))))))))))
 exact⟨rfl,hW⟩
theorem sH(bc:Array Go.Value)(b:Base)(t c r:Int)(x:Fact)(Bp:Nat)(w0 w:World)(hC:BaseC w0 bc b)(hBp:Blk w Bp (F1 bc t c r) 136):Ret prog 176 #[.agg x.cells,.pointer (some ⟨Bp,0,none⟩)] w fun r0 w'=>r0=.bool (decide (x.Tool=t)&&decide (x.Chamber=c))∧Up w w':=by
 have hW:=Up.refl w
 refine cT 16 func176 rfl (Af (Ao (.bA rfl) rfl ?_))
 rintro _ w1 ⟨B2,rfl,NB2⟩
 replace hBp:=hBp.up NB2.up
 replace hW:=hW.up NB2.up
 have hB2:=NB2.blk
 refine J (Ar (Aa (I (.fB 11 rfl) (I (.lb rfl (hB2.An rfl)) (I (.fB 11 rfl) (I (.lb rfl (Jr hBp hC 0 rfl)) (I (.eql (.t rfl) (.t rfl)) (Ac rfl (LW.gr rfl (fun hc=>PEv.fB 12 rfl) (LW.gr rfl (fun hc=>PEv.load ly vQ (hB2.An rfl)) (LW.gr rfl (fun hc=>PEv.fB 12 rfl) (LW.gr rfl (fun hc=>PEv.load ly vQ (Jr hBp hC 1 rfl)) (LW.gr rfl (fun hc=>PEv.eql vQ vQ) (I (.pa rfl (fun hp=>(by exact .cond rfl (by(rw[hp];rfl))))) (LW.A rfl (Ai (Aj (KW.q ?_))))))))))))))))))
 exact⟨by simp,hW⟩
theorem nR(x y:Fact)(B:Nat)(w:World)(hB:Blk w B y.cells 51):Ret prog 178 #[.agg x.cells,.pointer (some ⟨B,0,none⟩)] w fun r w'=>r=.bool (decide (y.Time≤x.Time))∧Up w w':=by
 have hW:=Up.refl w
 refine cT 9 func178 rfl (Af (Ao (.bA rfl) rfl ?_))
 rintro _ w1 ⟨B2,rfl,NB2⟩
 replace hB:=hB.up NB2.up
 replace hW:=hW.up NB2.up
 have hB2:=NB2.blk
 refine J (Ar (Aa (I (.fB 5 rfl) (I (.lb rfl (hB2.An rfl)) (I (.fB 5 rfl) (I (.lb rfl (hB.An rfl)) (I (.geq (.t rfl) (.t rfl)) (LW.A rfl (Ai (Aj (KW.q ?_)))))))))))
 exact⟨by rfl,hW⟩
theorem nS(time:Int)(w:World):Ret prog 177 #[vi time] w fun r w'=>CondOk prog w' r (fun x=>decide (x.Time≤time))∧Up w w':=by
 obtain⟨w0,rfl,hS⟩:=W0 w
 refine cT 4 func177 rfl (Af (Ao (.Ro (.t rfl) rfl) rfl ?_))
 rintro _ w1 ⟨B1,rfl,NB1⟩
 replace hS:=hS.Bn NB1
 refine J (Ar (Aa (I (.makeFunc (.cu rfl)) (LW.A rfl (Ai (Aj (KW.q ?_)))))))
 exact⟨⟨219,#[.pointer (some ⟨B1,0,none⟩)],rfl,JH,fun W u x=>gQ x time B1 W (hS.b0.up u)⟩,hS.Cj⟩
theorem yP(v:Go.Value)(p:Fact→Bool)(x:Fact)(B:Nat)(w:World)(hc:CondOk prog w v p)(hB:Blk w B x.cells 51):Ret prog 215 #[v,.pointer (some ⟨B,0,none⟩)] w fun r w'=>r=.bool (!p x)∧Up w w':=by
 have hW:=Up.refl w
 obtain⟨cf,lb,rfl,hen,hp⟩:=hc
 refine cT 8 func215 rfl (Af (J (Ar (Aa (Ac rfl (I (.lc rfl (hB.agg)) (A3 (D0 (.t rfl) (.cu rfl) (hen)) rfl (hp _ hW x) ?_)))))))
 rintro _ w1 ⟨rfl,uw1⟩
 replace hB:=hB.up uw1
 replace hW:=hW.up uw1
 refine I (.n1 rfl) (LW.A rfl (Ai (Aj (KW.q ?_))))
 exact⟨rfl,hW⟩
theorem gR(cf:Nat)(lb:Array Go.Value)(g:Cnd→Bool)(hen:∀args w,(callFunc cf args).run prog w=.ok (.enter cf args) w)(ad:Option Addr)(cp:Nat)(l:List Cnd)(w:World)(hE0:Els w ad 1 Cnd.cells l)(hl:l.length≤100000)(hp:∀W,Up w W→∀q∈l,Ret prog cf (#[q.v]++lb) W fun r W'=>r=.bool (g q)∧Up W W'):Ret prog 232 #[.slice ad l.length cp,.func (.func cf) #[] lb] w fun r w'=>∃i,r=vi i∧decide (0≤i)=l.any g∧Up w w':=by
 have hW:=Up.refl w
 obtain⟨w0,rfl,_⟩:=W0 w
 refine cT 19 func232 rfl (Af (J (Ar (Af (Ac rfl (I (.Df nf (.t rfl)) (I (.move (.const _)) (Ai (Ap (A9 (σ:=Nat) (fun s w=>(s≤l.length)∧(∀y∈l.take s,g y=false)∧(Up w0 w)) (fun s=>[(8,.eq (vi (s:Int)))]) ([(0,.eq _),(1,.eq _),(7,.eq _)]) (fun s=>l.length-s) 0 ?_ tQ ?_))))))))))
 ·exact⟨ao _,by simp,hW⟩
 rintro k w1 ⟨hk,hn,hW⟩
 refine Af (I (.l2 rfl rfl) (Ar (CW.b rfl (fun h9=>?_) (fun h9=>?_))))
 ·replace h9:=dQ h9
  refine Ak (Ab (Al (Ap (Af (Ac rfl (LW.A rfl (Ar ?_)))))))
  have hE:=Els.up hE0 hW
  refine Aa (Ac rfl (Ac rfl (Ac rfl ?_)))
  obtain⟨x,hx⟩:=Av (xs:=l) (i:=k) oQ
  obtain⟨Bx,ox,ax,hcx⟩:=hE _ x hx
  refine I (.Ay nf sizeOf106 (.t rfl) (.t rfl) oQ ax) (I (.lb rfl ((hcx 0 _ rfl))) (A3 (D0 (.t rfl) (.cu rfl) (hen)) rfl (hp _ hW x (am hx)) ?_))
  rintro _ w2 ⟨rfl,uw2⟩
  replace hW:=hW.up uw2
  replace hcx:=hcx.up uw2
  refine Ai (CW.b rfl (fun h16=>?_) (fun h16=>?_))
  ·replace h16:=dQ h16
   refine Af (Ac rfl (LW.A rfl (Ai (Aj (Aw (Ah (Ah (Aw (Ah (KW.q ?_))))))))))
   exact⟨_,rfl,by rw[EJ hx (by simpa using h16)];exact a8 oQ,hW⟩
  replace h16:=dQ h16
  refine Ak (Ae (Ab (Aa (I (.ic rfl oQ) (Ac rfl (LW.nil (Aq ?_)))))))
  exact⟨k+1,⟨by omega,nJ hx hn (by simpa using h16),hW⟩,tQ,by omega⟩
 replace h9:=dQ h9
 refine A7 (Ad (Ad (Au (Ab (Af (J (Ai (Aj (KW.q ?_)))))))))
 exact⟨-1,rfl,by rw[any_none (by rw[show k=l.length by omega,br]at hn;exact hn)];rfl,hW⟩
theorem Wj(cf:Nat)(lb:Array Go.Value)(g:Cnd→Bool)(hen:∀args w,(callFunc cf args).run prog w=.ok (.enter cf args) w)(ad:Option Addr)(cp:Nat)(l:List Cnd)(w:World)(hE0:Els w ad 1 Cnd.cells l)(hl:l.length≤100000)(hp:∀W,Up w W→∀q∈l,Ret prog cf (#[q.v]++lb) W fun r W'=>r=.bool (g q)∧Up W W'):Ret prog 214 #[.slice ad l.length cp,.func (.func cf) #[] lb] w fun r w'=>r=.bool (l.any g)∧Up w w':=by
 have hW:=Up.refl w
 obtain⟨w0,rfl,_⟩:=W0 w
 refine cT 9 func214 rfl (Af (J (Ar (Aa (Ac rfl (Ac rfl (A3 (eC (.u rfl rfl) (JO)) rfl (gR cf lb g hen ad cp l _ (Els.up hE0 hW) hl (fun W u q hq=>hp W (hW.trans u) q hq)) ?_)))))))
 rintro _ w1 ⟨i,rfl,hi,uw1⟩
 replace hW:=hW.up uw1
 refine I (.geq (.t rfl) (.const _)) (LW.A rfl (Ai (Aj (KW.q ?_))))
 exact⟨by rw[hi],hW⟩
theorem sI(x:Fact)(B:Nat)(ad:Option Addr)(cp:Nat)(qs:List Cnd)(w:World)(hB:Blk w B #[.slice ad qs.length cp] 243)(hE0:Els w ad 1 Cnd.cells qs)(hl:qs.length≤100000)(hq:CndsOk prog w qs):Ret prog 213 #[.agg x.cells,.pointer (some ⟨B,0,none⟩)] w fun r w'=>r=.bool (!Va qs x)∧Up w w':=by
 obtain⟨w0,rfl,hS⟩:=W0 w
 refine cT 7 func213 rfl (Af (Ao (.bA rfl) rfl ?_))
 rintro _ w1 ⟨B2,rfl,NB2⟩
 replace hS:=hS.Bn NB2
 refine J (Ar (Aa (I (.lb rfl ((hB.up hS.Cj).An rfl)) (I (.makeFunc (.cu rfl)) (A3 (eC (.u rfl rfl) (JC)) rfl (Wj 215 #[.pointer (some ⟨B2,0,none⟩)] (fun q=> !q.p x) JD ad cp qs _ (Els.up hE0 hS.Cj) hl (fun W u q hm=>yP q.v q.p x B2 W ((hq q hm).up (hS.Cj.trans u)) (hS.b0.up u))) ?_)))))
 rintro _ w2 ⟨rfl,uw2⟩
 replace hS:=hS.up uw2
 refine LW.A rfl (Ai (Aj (KW.q ?_)))
 exact⟨by rw[sA],hS.Cj⟩
theorem Zg(ad:Option Addr)(cp:Nat)(l:List Fact)(adf:Option Addr)(cpf:Nat)(qs:List Cnd)(w:World)(hE0:Els w ad 19 Fact.cells l)(hl:l.length≤100000)(hEf:Els w adf 1 Cnd.cells qs)(hlf:qs.length≤100000)(hq:CndsOk prog w qs):Ret prog 173 #[.slice ad l.length cp,.slice adf qs.length cpf] w fun r w'=>OwnS w' w.heap.size 51 19 Fact.cells r (l.filter fun x=>Va qs x)∧Up w w':=by
 obtain⟨w0,rfl,hS⟩:=W0 w
 refine cT 11 func173 rfl (Af (Ao (.Ro (.t rfl) rfl) rfl ?_))
 rintro _ w1 ⟨B3,rfl,NB3⟩
 replace hS:=hS.Bn NB3
 refine J (Ar (Aa (I (.makeFunc (.cu rfl)) (LW.A rfl (Ar (Aa (Ac rfl (A3 (eC (.o rfl) (JF)) rfl (gP ad cp l _ (Els.up hE0 hS.Cj) hl) ?_))))))))
 rintro v8 w2 ⟨hO8,uw2⟩
 replace hS:=hS.add uw2 (A':=A8 51 19 Fact.cells v8 l) (hO8.mono (ao _)) (fun i h=>(hO8.base i h))
 obtain⟨ad8,cp8,rfl,_⟩:=(hS.own 1 rfl).sl (fun _=>rfl)
 have hB3k:=hS.ne (i:=0) (j:=1) cQ rfl rfl
 have hBk:=hS.blk 0 rfl
 have hftk:=hS.foot 1 rfl
 have hfrk:=hS.fr
 refine Ac rfl (A3 (eC (.u rfl rfl) (JE)) rfl (cE 213 #[.pointer (some ⟨B3,0,none⟩)] (fun x=> !Va qs x) JB ad8 cp8 l _ (hS.own 1 rfl) hl (fun W f x=>sI x B3 adf cpf qs W ((f.block B3 hBk.lt (hB3k B3 rfl)).trans hBk) (Els.up hEf ((hfrk.next f hftk).fD (fun _ h=>h))) hlf (hq.up ((hfrk.next f hftk).fD (fun _ h=>h))))) ?_)
 rintro v10 w3 uw3
 replace hS:=hS.E5 1 rfl uw3
 refine LW.A rfl (Ai (Aj (KW.q ?_)))
 exact⟨by rw[←cB];exact(hS.own 1 rfl).I1 (fun i h=>(hS.foot 1 rfl i h).resolve_left (fun h=>h)),hS.Cj⟩
theorem sJ(bc:Array Go.Value)(b:Base)(t c r:Int)(w:World)(hC:BaseC w bc b)(hl:b.Processes.length≤100000):Ret prog 130 #[.agg (F1 bc t c r)] w fun r0 w'=>OwnS w' w.heap.size 51 19 Fact.cells r0 (Md b t c r)∧Up w w':=by
 obtain⟨w0,rfl,hS⟩:=W0 w
 refine cT 13 func130 rfl (Af (Ao (.bA rfl) rfl ?_))
 rintro _ w1 ⟨B1,rfl,NB1⟩
 have eB1:=NB1.at_
 have zB1:=NB1.size
 replace hS:=hS.Bn NB1
 refine J (Ar (Aa (I (.fB 0 rfl) (I (.Ef l7 lw (hC.size) (.t rfl) (M9 hS.b0)) (I (.fB 11 rfl) (I (.lb rfl (Jr hS.b0 hC 0 rfl)) (I (.fB 12 rfl) (I (.lb rfl (Jr hS.b0 hC 1 rfl)) (A3 (eC (.ct rfl (.ct rfl (.cu rfl))) (IL)) rfl (sE bc b t c _ (hC.up hS.Cj) hl) ?_)))))))))
 rintro v9 w2 ⟨hO9,uw2⟩
 have zw2:=uw2.size
 replace hS:=hS.up uw2
 obtain⟨ad9,cp9,rfl,hE9_⟩:=hO9.sl (fun _=>rfl)
 have hE9:Els w2 ad9 19 Fact.cells (G6 b t c):=hE9_
 have hrl:=R4 b t c
 refine I (.makeFunc (.cu rfl)) (Ao (.buildSlice (xs:=[(⟨175,#[.pointer (some ⟨B1,0,none⟩)],fun x=>decide (x.Recipe=r)⟩:Cnd)]) (enc:=Cnd.cells) (mk:=Cnd.v) nf sizeOf106 zeroValue106 rfl cQ (fun _=>rfl) (fun _=>rfl) (.cu rfl) rfl) rfl ?_)
 rintro _ w3 ⟨B11,cB11,rfl,NB11,yB11,xB11⟩
 have eB11:=NB11.at_
 have zB11:=NB11.size
 replace hS:=hS.up NB11.up
 replace hE9:=hE9.up NB11.up
 have hE11:=xB11
 refine A3 (eC (.u rfl rfl) (pR)) rfl (Zg ad9 cp9 (G6 b t c) _ _ _ _ hE9 oQ hE11 (by simp) (CndsOk.cons ⟨175,#[.pointer (some ⟨B1,0,none⟩)],rfl,IM,fun W u x=>nQ bc b t c r x B1 _ W hC (hS.b0.up u)⟩ CndsOk.nil)) ?_
 rintro v12 w4 ⟨hO12,uw4⟩
 replace hS:=hS.up uw4
 replace hE9:=hE9.up uw4
 simp only[Va,List.all_cons,List.all_nil,Bool.and_true]at hO12
 refine LW.A rfl (Ai (Aj (KW.q ?_)))
 exact⟨hO12.mono oQ,hS.Cj⟩
theorem gS(bc:Array Go.Value)(b:Base)(t c r time:Int)(ada0:Option Addr)(cpa0:Nat)(ahead:List Fact)(w:World)(hC:BaseC w bc b)(hE0:Els w ada0 19 Fact.cells ahead)(hlA:ahead.length≤400)(hlR:b.Resets.length≤100000)(hlM:b.Measures.length≤100000)(hlT:b.Targets.length≤100000):Ret prog 131 #[.agg (F1 bc t c r),vi time,.slice ada0 ahead.length cpa0] w fun r0 w'=>∃v,r0=.agg ((Fa b t c r time ahead).v v).cells∧OwnS w' w.heap.size 3 1 Cm v (Fa b t c r time ahead).uses∧Up w w':=by
 obtain⟨w0,rfl,hS⟩:=W0 w
 obtain⟨v8,h8,adR,cpR,rfl,hER⟩:=hC.at8
 refine cT 98 func131 rfl (Af (Ao (.bA rfl) rfl ?_))
 rintro _ w1 ⟨B3,rfl,NB3⟩
 have eB3:=NB3.at_
 have zB3:=NB3.size
 replace hS:=hS.Bn NB3
 refine Ao (.Bi l5) rfl ?_
 rintro _ w2 ⟨B6,rfl,NB6⟩
 have eB6:=NB6.at_
 have zB6:=NB6.size
 replace hS:=hS.Bn NB6
 refine Ar (Aa (I (.makeFunc (.cu rfl)) (LW.A rfl (Ar (Al (Eo 10 [.eq (.pointer (some ⟨B3,0,none⟩)),.eq (.pointer (some ⟨B3,8,none⟩)),.eq (.slice adR b.Resets.length cpR),.eq (.func (.func 176) #[] #[.pointer (some ⟨B3,0,none⟩)]),.eq (vi time),.pred fun v W=>CondOk prog W v (fun x=>decide (x.Time≤time)),.pred fun v W=>CArg prog W v (Qz t c time),.pred fun v W=>Sl W v 19 Fact.cells (Ki b t c time),.eq (vi ((Ki b t c time).length:Int)),.eq (vi 0)] [23,24,25] kQ rfl kQ kQ kQ kQ kQ kQ kQ ⟨nm,nm,nm,nm,nm,PhU.pred fun _ _ _ h u=>h.up u,PhU.pred fun _ _ _ h u=>h.up u,PhU.pred fun _ _ _ h u=>Sl.up h u,nm,nm,trivial⟩ ?_ ?_))))))
 ·intro W hU0
  have hU:=(Up.drew w2).trans hU0
  have hSW:=hS.up hU
  refine aC ⟨rfl,TU.p (.fB 0 rfl) rfl⟩ (aC ⟨rfl,TU.p (.fB 8 rfl) rfl⟩ (aC ⟨rfl,TU.p (.lb rfl (gJ hSW.b0 h8)) rfl⟩ (aC ⟨rfl,TU.p (.mv rfl) rfl⟩ (aC ⟨rfl,TU.p (.mv rfl) rfl⟩ (aC ⟨rfl,TU.c (eC (.o rfl) (IP)) (nS time W) (by rintro _ W1 ⟨h,u⟩;exact⟨u,h⟩)⟩ (aC ⟨rfl,TU.open (d:=21) rfl (by rintro _ ⟨cf,lb,rfl,he,hp⟩;exact TU.r (REv.buildSlice (xs:=[(⟨176,#[.pointer (some ⟨B3,0,none⟩)],fun x=>decide (x.Tool=t)&&decide (x.Chamber=c)⟩:Cnd),(⟨cf,lb,fun x=>decide (x.Time≤time)⟩:Cnd)]) (enc:=Cnd.cells) (mk:=Cnd.v) nf sizeOf106 zeroValue106 rfl cQ (fun _=>rfl) (fun _=>rfl) (.ct rfl (.cu rfl)) rfl) (by rintro _ W1 ⟨B,c_,rfl,N,y,x_⟩;exact⟨N.up,_,_,_,rfl,x_,CndsOk.cons (⟨176,#[.pointer (some ⟨B3,0,none⟩)],rfl,IN,fun W2 u x=>sH bc b t c r x B3 _ W2 hC (hSW.b0.up (N.up.trans u))⟩:CondOk prog W1 (⟨176,#[.pointer (some ⟨B3,0,none⟩)],fun x=>decide (x.Tool=t)&&decide (x.Chamber=c)⟩:Cnd).v (⟨176,#[.pointer (some ⟨B3,0,none⟩)],fun x=>decide (x.Tool=t)&&decide (x.Chamber=c)⟩:Cnd).p) (CndsOk.cons (⟨cf,lb,rfl,he,fun W2 u x=>hp W2 (N.up.trans u) x⟩:CondOk prog W1 (Cnd.v ⟨cf,lb,fun x=>decide (x.Time≤time)⟩) (fun x=>decide (x.Time≤time))) CndsOk.nil),by simp,fun x=>by simp[Va,Qz]⟩))⟩ (aC ⟨rfl,TU.open (d:=22) rfl (by rintro _ ⟨ad,cp_,qs,rfl,hE,hq,hlq,hpq⟩;exact TU.c (eC (.u rfl rfl) (pR)) (Zg adR cpR b.Resets ad cp_ qs W (Els.up hER (hS.Cj.trans hU)) hlR hE hlq hq) (by rintro v W1 ⟨h,u⟩;rw[filter_eq hpq]at h;exact⟨u,h.sl (fun _=>rfl)⟩))⟩ (aC ⟨rfl,TU.open (d:=23) rfl (by rintro _ ⟨ad,cp_,rfl,h⟩;exact TU.p (.Df k6 (.t rfl)) rfl)⟩ (aC ⟨rfl,TU.p (.move (.const _)) rfl⟩ ?_)))))))))
  exact allL.nil
 intro w3 g hU0 hg
 have hU:=(Up.drew w2).trans hU0
 replace hS:=hS.up hU
 obtain⟨RS,eRS⟩:∃R,R=Ki b t c time:=⟨_,rfl⟩
 rw[←eRS]at hg
 obtain⟨ad23,cp23,e23,hR⟩:Sl w3 (g 23) 19 Fact.cells RS:=hg 7 _ 23 cQ rfl rfl
 have e24:g 24=vi (RS.length:Int):=hg 8 _ 24 cQ rfl rfl
 have e25:g 25=vi 0:=hg 9 _ 25 cQ rfl rfl
 replace hR:Els w3 ad23 19 Fact.cells RS:=hR
 change LW _ _ _ _ _ _ _ _ ((23,.eq (g 23))::(24,.eq (g 24))::(25,.eq (g 25))::_) _
 rw[e23,e24,e25]
 have hA:=Els.up hE0 hS.Cj
 have hRl:RS.length≤100000:=by rw[eRS];exact bb (cm _ _) hlR
 refine Ai (Ap (A9 (σ:=Nat×List Fact×Option Addr×Nat) (fun s w=>(s.1≤RS.length)∧(s.2.1=D5 (RS.take s.1) ahead)∧(s.2.1.length≤ahead.length)∧(LL B6 s.2.2.1 s.2.1)∧(Wx.Sep no w0 w [Ch B3 (F1 bc t c r) 136,Ch B6 (DecV.cells ⟨0,rz,rz,.slice none 0 0⟩) 57])∧(Els w ad23 19 Fact.cells RS)∧(Els w s.2.2.1 19 Fact.cells s.2.1)) (fun s=>[(25,.eq (vi (s.1:Int))),(2,.eq (.slice s.2.2.1 s.2.1.length s.2.2.2))]) ([(1,.eq _),(3,.eq _),(6,.eq _),(23,.eq _),(24,.eq _)]) (fun s=>RS.length-s.1) (0,ahead,ada0,cpa0) ?_ tQ ?_))
 ·exact⟨ao _,rfl,av _,yM hE0 oQ,hS,hR,hA⟩
 rintro⟨k,a,ada,cpa⟩ w4 ⟨hk,ha,hla,hna,hS,hR,hA⟩
 dsimp only at hk ha hla hna hS hA
 change CW _ _ _ _ _ _ _ ([(25,.eq (vi (k:Int))),(2,.eq (.slice ada a.length cpa))]++_) _
 refine Af (I (.l2 rfl rfl) (Ar (CW.b rfl (fun h26=>?_) (fun h26=>?_))))
 ·replace h26:=dQ h26
  refine Ak (Ab (Al (Ap (Af ?_))))
  obtain⟨y,hy⟩:=Av (xs:=RS) (i:=k) oQ
  obtain⟨By,oy,ay,hcy⟩:=hR _ y hy
  refine I (.Ay k6 k7 (.t rfl) (.t rfl) oQ ay) (I (.lc rfl (hcy)) (Ao (.Bi k_) rfl ?_))
  rintro _ w5 ⟨B9,rfl,MB9⟩
  refine Bh (.A5 k7 rfl (.t rfl) (.t rfl) (Fact.one _) MB9.blk rfl) ?_
  intro w6 LB9
  have NB9:=MB9.set LB9
  replace hR:=hR.up NB9.up
  replace hA:=hA.up NB9.up
  replace hcy:=hcy.up NB9.up
  replace hS:=hS.Bn NB9
  refine Ai ?_
  have hlt6:=hS.b1.lt
  refine Aa (Ac rfl (I (.makeFunc (.cu rfl)) (Ao (.buildSlice (xs:=[(⟨178,#[.pointer (some ⟨B9,0,none⟩)],fun x=>decide (y.Time≤x.Time)⟩:Cnd)]) (enc:=Cnd.cells) (mk:=Cnd.v) nf sizeOf106 zeroValue106 rfl cQ (fun _=>rfl) (fun _=>rfl) (.cu rfl) rfl) rfl ?_)))
  rintro _ w7 ⟨B31,cB31,rfl,NB31,yB31,xB31⟩
  have eB31:=NB31.at_
  have zB31:=NB31.size
  replace hS:=hS.up NB31.up
  replace hR:=hR.up NB31.up
  replace hA:=hA.up NB31.up
  have hE31:=xB31
  refine A3 (eC (.u rfl rfl) (pR)) rfl (Zg ada cpa a _ _ _ _ hA oQ hE31 (by simp) (CndsOk.cons ⟨178,#[.pointer (some ⟨B9,0,none⟩)],rfl,IQ,fun W u x=>nR x y B9 W (hS.b2.up u)⟩ CndsOk.nil)) ?_
  rintro v32 w8 ⟨hO32,uw8⟩
  replace hS:=hS.up uw8
  replace hR:=hR.up uw8
  replace hA:=hA.up uw8
  simp only[Va,List.all_cons,List.all_nil,Bool.and_true]at hO32
  obtain⟨ad32,cp32,rfl,hE32_⟩:=hO32.sl (fun _=>rfl)
  have hA2:Els w8 ad32 19 Fact.cells (a.filter fun x=>decide (y.Time≤x.Time)):=hE32_
  have hna2:=yN (B:=B6) hO32 oQ
  refine LW.A rfl (LW.nil (Ae (Ab (Aa (I (.ic rfl oQ) (Ac rfl (LW.nil (Aq ?_))))))))
  exact⟨(k+1,(a.filter fun x=>decide (y.Time≤x.Time)),ad32,cp32),⟨by show k+1≤_;omega,by rw[cC hy,←ha],bb (cm _ _) hla,hna2,hS.take 2,hR,hA2⟩,tQ,by show RS.length-(k+1)<RS.length-k;omega⟩
 replace h26:=dQ h26
 refine A7 (Ad (Ad (Au (Ab (Af (A3 (eC (.cons (.const _) .nil) (jB)) rfl (Od (0) _ cQ) ?_))))))
 rintro _ w9 ⟨rfl,uw9⟩
 have zw9:=uw9.size
 replace hS:=hS.up uw9
 replace hA:=hA.up uw9
 refine I (.fB 3 rfl) (Bh (.Ig lj rfl (.t rfl) (.t rfl) (Rt.one _) hS.b1 bQ) ?_)
 intro w10 Nw10
 have zw10:=Nw10.size
 replace hS:=hS.Co 1 rfl (show Set_ _ w10 _ (DecV.cells ⟨0,rz,Ce (0) 4,.slice none 0 0⟩) _ from Nw10)
 replace hA:=sD hA (Nw10.sto).fr hna
 refine Ar (Al ?_)
 have hk0:k=RS.length:=by omega
 rw[hk0,br]at ha
 have hUL:=hS.Cj
 have hB3L:=hS.blk 0 rfl
 have hne6:B3≠B6:=by omega
 have hUp:∀W,Fr (fun i=>i=B6) w10 W→Up w0 W:=fun W f=>KO hUL f oQ
 have hAf:∀W,Fr (fun i=>i=B6) w10 W→Els W ada 19 Fact.cells a:=fun W f=>sD hA f hna
 have hB3f:∀W,Fr (fun i=>i=B6) w10 W→Blk W B3 (F1 bc t c r) 136:=fun W f=>hB3L.fr f hne6
 obtain⟨wL,ewL⟩:∃W,W=w10:=⟨_,rfl⟩
 rw[←ewL]at hUp hAf hB3f
 replace hS:Wx.Sep (fun i=>i=B6) wL w10 [Ch B6 (DecV.cells ⟨0,rz,Ce (0) 4,.slice none 0 0⟩) 57]:=by rw[ewL];exact Sep.cons hS.b1 (fun _ h=>h) (Sep.start _ _) (by simp)
 replace hS:=hS.add (Up.refl _) (A':=A8 3 1 Cm (.slice none 0 0) ([]:List Int)) (OwnS.nil _ _ _ _ _) (by intro i h;cases h)
 refine Aa (Ac rfl (I (.Df k6 (.t rfl)) (I (.move (.const _)) (Ai (Ap (A9 (σ:=Nat×Go.Value×Int×List Int) (fun s w=>(s.1≤a.length)∧(s.2.2=Jm b.Measures b.Targets r time (a.take s.1))∧(Wx.Sep (fun i=>i=B6) wL w [Ch B6 (DecV.cells ⟨0,rz,Ce (s.2.2.1) 4,s.2.1⟩) 57,A8 3 1 Cm (s.2.1) s.2.2.2])) (fun s=>[(38,.eq (vi (s.1:Int)))]) ([(1,.eq _),(3,.eq _),(6,.eq _),(36,.eq _),(37,.eq _)]) (fun s=>a.length-s.1) (0,.slice none 0 0,0,[]) ?_ tQ ?_))))))
 ·exact⟨ao _,rfl,hS⟩
 rintro⟨k,v,E,U⟩ w11 ⟨hk,hEU,hS⟩
 dsimp only at hk hEU hS
 change CW _ _ _ _ _ _ _ ([(38,.eq (vi (k:Int)))]++_) _
 refine Af (I (.l2 rfl rfl) (Ar (CW.b rfl (fun h39=>?_) (fun h39=>?_))))
 ·replace h39:=dQ h39
  refine Ak (Ab (Al (Ap (Al ?_))))
  have hA:=hAf _ hS.fr
  refine Aa ?_
  obtain⟨x,hx⟩:=Av (xs:=a) (i:=k) oQ
  obtain⟨Bx,ox,ax,hcx⟩:=hA _ x hx
  refine I (.Ay k6 k7 (.t rfl) (.t rfl) oQ ax) (I (.lc rfl (hcx)) (Ao (.Bi k_) rfl ?_))
  rintro _ w12 ⟨B11,rfl,MB11⟩
  refine Bh (.A5 k7 rfl (.t rfl) (.t rfl) (Fact.one _) MB11.blk rfl) ?_
  intro w13 LB11
  have NB11:=MB11.set LB11
  replace hcx:=hcx.up NB11.up
  replace hS:=hS.Bn NB11
  refine Ar (Aa (I (.Ef isAgg136 sizeOf136 ((Iu hC t c r)) (.t rfl) ((hB3f _ hS.fr).agg)) (I (.lc rfl (hS.b2.agg)) (Ac rfl (A3 (eC (.ct rfl (.ct rfl (.cu rfl))) (IR)) rfl (Wi bc b t c r x time _ (hC.up (hUp _ hS.fr)) hlM hlT) ?_)))))
  rintro _ w14 ⟨rfl,uw14⟩
  replace hS:=hS.up uw14
  refine Ac rfl (I (.xt rfl rfl) (I (.xt rfl rfl) (LW.A rfl (LW.A rfl (Ar (Aa (Ac rfl (Ac rfl (Dk rfl rfl (LW.gr rfl (fun hc=>PEv.lss vQ (.const _)) (LW.gr rfl (fun hc=>PEv.move vQ) (E0 rfl rfl rfl rfl rfl rfl rfl (fun hc=>PEv.mv rfl) (E0 rfl rfl rfl rfl rfl rfl rfl (fun hc=>PEv.gtr vQ (.const _)) (LW.gr rfl (fun hc=>PEv.Ee vQ (fun hp=>(by exact .cond rfl (by(rw[hc,hp];rfl))))) (I (.pa rfl (fun hp=>(by exact .cond rfl (by(rw[hp];rfl))))) (Ai (CW.b rfl (fun h57=>?_) (fun h57=>?_))))))))))))))))))
  ·replace h57:=dQ h57
   have hcl:G7 (E3 b.Measures b.Targets r x time)=true:=by simpa[G7]using h57
   have hdi:=Za b.Measures b.Targets r x time
   have hbd:=Qy b.Measures b.Targets r time (a.take k)
   rw[←hEU]at hbd
   dsimp only at hbd
   rw[bu]at hbd
   refine Al (Eo 12 [.eq (.pointer (some ⟨B6,3,none⟩)),.eq (.agg (Ce E 4).cells),.eq (vi (E3 b.Measures b.Targets r x time).1),.eq (.tuple #[.agg (Ce (E3 b.Measures b.Targets r x time).1 4).cells,vi 0]),.eq (.agg (Ce (E3 b.Measures b.Targets r x time).1 4).cells),.eq (vi 0),.eq (.agg (Ce (E3 b.Measures b.Targets r x time).1 4).cells),.eq (.tuple #[.agg (Ce (E+(E3 b.Measures b.Targets r x time).1) 4).cells,vi 0]),.eq (.agg (Ce (E+(E3 b.Measures b.Targets r x time).1) 4).cells),.eq (vi 0),.eq (.agg (Ce (E+(E3 b.Measures b.Targets r x time).1) 4).cells),.eq (.pointer (some ⟨B6,3,none⟩))] [69,68] kQ rfl kQ kQ kQ kQ kQ kQ kQ uQ ?_ ?_)
   ·intro W hU0
    have hU:=(Up.drew w14).trans hU0
    have hSW:=hS.up hU
    refine aC ⟨rfl,TU.p (.fB 3 rfl) rfl⟩ (aC ⟨rfl,TU.p (.lc rfl (Q0 hSW.b0)) rfl⟩ (aC ⟨rfl,TU.p (.mv rfl) rfl⟩ (aC ⟨rfl,TU.c (eC (.ct rfl (.cons (.const _) .nil)) (wW)) (Q2 (E3 b.Measures b.Targets r x time).1 4 W ⟨by omega,by omega⟩ cQ ⟨by decide,by decide⟩) (by rintro _ W1 ⟨rfl,u⟩;rw[Gq (Hf oQ cQ)];exact⟨u,rfl⟩)⟩ (aC ⟨rfl,TU.p (.xt rfl rfl) rfl⟩ (aC ⟨rfl,TU.p (.xt rfl rfl) rfl⟩ (aC ⟨rfl,TU.c (eC (.u rfl rfl) (aG)) (Nb (Ce (E3 b.Measures b.Targets r x time).1 4) W) sQ⟩ (aC ⟨rfl,TU.c (eC (.u rfl rfl) (BI)) (kU (Ce E 4) (Ce (E3 b.Measures b.Targets r x time).1 4) W (Ip oQ) (Ip oQ)) (by rintro _ W1 ⟨rfl,u⟩;rw[Zb (by omega)];exact⟨u,rfl⟩)⟩ (aC ⟨rfl,TU.p (.xt rfl rfl) rfl⟩ (aC ⟨rfl,TU.p (.xt rfl rfl) rfl⟩ (aC ⟨rfl,TU.c (eC (.u rfl rfl) (aG)) (Nb (Ce (E+(E3 b.Measures b.Targets r x time).1) 4) W) sQ⟩ (aC ⟨rfl,TU.p (.fB 3 rfl) rfl⟩ ?_)))))))))))
    exact allL.nil
   intro w15 g hU0 hg
   have hU:=(Up.drew w14).trans hU0
   replace hS:=hS.up hU
   have e69:g 69=.pointer (some ⟨B6,3,none⟩):=hg 11 _ 69 cQ rfl rfl
   have e68:g 68=.agg (Ce (E+(E3 b.Measures b.Targets r x time).1) 4).cells:=hg 10 _ 68 cQ rfl rfl
   change LW _ _ _ _ _ _ _ _ ((69,.eq (g 69))::(68,.eq (g 68))::_) _
   rw[e69,e68]
   refine Bh (.Ig lj rfl (.t rfl) (.t rfl) (Rt.one _) hS.b0 bQ) ?_
   intro w16 Nw16
   replace hS:=hS.Co 0 rfl (show Set_ _ w16 _ (DecV.cells ⟨0,rz,Ce (E+(E3 b.Measures b.Targets r x time).1) 4,v⟩) _ from Nw16)
   refine Ai (Aa (I (.fB 5 rfl) (I (.lb rfl (hS.b0.An rfl)) (I (.fB 1 rfl) (I (.lb rfl (hS.b2.An rfl)) (Ao (.buildSlice (xs:=[x.ID]) (enc:=Cm) (mk:=vi) lg lf ls rfl cQ (fun _=>rfl) (fun _=>rfl) (.cu rfl) rfl) rfl ?_))))))
   rintro _ w17 ⟨B74,cB74,rfl,NB74,yB74,xB74⟩
   replace hS:=hS.up NB74.up
   have hE74:=xB74
   refine Ao (.Cu (enc:=Cm) (bytes:=8) (i:=Tryz.t3) lg kQ rfl rfl rfl rfl cQ (fun _=>rfl) My (.t rfl) (.t rfl) (hS.own 1 rfl) (Az hE74) (by simp[maxLen];omega) (by simp;omega)) rfl ?_
   intro v75 w18 Gw18
   replace hS:=hS.E5 1 rfl Gw18
   refine I (.fB 5 rfl) (Bh (.store sizeOf23 (.t rfl) (.t rfl) ((hS.own 1 rfl).sC (fun _=>rfl)) hS.b0 bQ) ?_)
   intro w19 Nw19
   replace hS:=hS.Co 0 rfl (show Set_ _ w19 _ (DecV.cells ⟨0,rz,Ce (E+(E3 b.Measures b.Targets r x time).1) 4,v75⟩) _ from Nw19)
   refine LW.nil (Ae (Ab (Aa (I (.ic rfl oQ) (Ac rfl (LW.nil (Aq ?_)))))))
   exact⟨(k+1,v75,E+(E3 b.Measures b.Targets r x time).1,U++[x.ID]),⟨by show k+1≤_;omega,by rw[Xs hx,←hEU,Zc hcl],hS.take 2⟩,tQ,by show a.length-(k+1)<a.length-k;omega⟩
  replace h57:=dQ h57
  have hcl:G7 (E3 b.Measures b.Targets r x time)=false:=by simpa[G7]using h57
  refine Ak (Ae (Ab (Aa (I (.ic rfl oQ) (Ac rfl (LW.nil (Aq ?_)))))))
  exact⟨(k+1,v,E,U),⟨by show k+1≤_;omega,by rw[Xs hx,←hEU,gL hcl],hS.take 2⟩,tQ,by show a.length-(k+1)<a.length-k;omega⟩
 replace h39:=dQ h39
 refine A7 (Ad (Ad (Au (Ab (Al ?_)))))
 have hti:=Qx b.Targets r time
 have hkl:k=a.length:=by omega
 rw[hkl,br]at hEU
 have hbd:=Qy b.Measures b.Targets r time a
 rw[←hEU]at hbd
 dsimp only at hbd
 refine Eo 11 [.eq (.agg (F1 bc t c r)),.eq (vi time),.eq (vi (Ez b.Targets r time)),.eq (.agg (Ce (Ez b.Targets r time) 1).cells),.eq (.pointer (some ⟨B6,3,none⟩)),.eq (.agg (Ce E 4).cells),.eq (.tuple #[.agg (Ce (4*Ez b.Targets r time-E) 4).cells,vi 0]),.eq (.agg (Ce (4*Ez b.Targets r time-E) 4).cells),.eq (vi 0),.eq (.agg (Ce (4*Ez b.Targets r time-E) 4).cells),.pred fun v W=>∃B,v=.pointer (some ⟨B,0,none⟩)∧w11.drew.heap.size≤B∧Blk W B rz.cells 55] [14,87] kQ rfl kQ kQ kQ kQ kQ kQ kQ ⟨nm,nm,nm,nm,nm,nm,nm,nm,nm,nm,PhU.pred fun _ _ _ h u=>let⟨B,e,hz,hb⟩:=h;⟨B,e,hz,hb.up u⟩,trivial⟩ ?_ ?_
 ·intro W hU0
  have hU:=(Up.drew w11).trans hU0
  have hSW:=hS.up hU
  have zU0:=hU0.size
  refine aC ⟨rfl,TU.p (.Ef isAgg136 sizeOf136 (Iu hC t c r) (.t rfl) ((hB3f W hSW.fr).agg)) rfl⟩ (aC ⟨rfl,TU.p (.mv rfl) rfl⟩ (aC ⟨rfl,TU.c (eC (.u rfl rfl) (BJ)) (Sy bc b t c r time W (hC.up (hUp W hSW.fr)) hlT) sQ⟩ (aC ⟨rfl,TU.c (eC (.o rfl) (jB)) (Od (Ez b.Targets r time) W oQ) sQ⟩ (aC ⟨rfl,TU.p (.fB 3 rfl) rfl⟩ (aC ⟨rfl,TU.p (.lc rfl (Q0 hSW.b0)) rfl⟩ (aC ⟨rfl,TU.c (eC (.u rfl rfl) (IS)) (yO (Ce (Ez b.Targets r time) 1) (Ce E 4) W (Oc oQ) (Ip oQ)) (by rintro _ W1 ⟨rfl,u⟩;refine⟨u,?_⟩;have e:=kR (T:=Ez b.Targets r time) (e:=E) (by omega);unfold yL at e;rw[e];rfl)⟩ ?_))))))
  refine aC ⟨rfl,TU.p (.xt rfl rfl) rfl⟩ (aC ⟨rfl,TU.p (.xt rfl rfl) rfl⟩ (aC ⟨rfl,TU.c (eC (.u rfl rfl) (aG)) (Nb (Ce (4*Ez b.Targets r time-E) 4) W) sQ⟩ (aC ⟨rfl,TU.r (REv.Bi lm) (fun v W' h=>let⟨B,e,N⟩:=h;⟨N.up,B,e,by rw[N.at_];exact zU0,N.blk⟩)⟩ ?_)))
  exact allL.nil
 intro w20 g hU0 hg
 have hU:=(Up.drew w11).trans hU0
 have zw20:=hU.size
 obtain⟨B14,e14,z14,hB14⟩:∃B,g 14=.pointer (some ⟨B,0,none⟩)∧w11.drew.heap.size≤B∧Blk w20 B rz.cells 55:=hg 10 _ 14 cQ rfl rfl
 have e87:g 87=.agg (Ce (4*Ez b.Targets r time-E) 4).cells:=hg 9 _ 87 cQ rfl rfl
 change LW _ _ _ _ _ _ _ _ ((14,.eq (g 14))::(87,.eq (g 87))::_) _
 rw[e14,e87]
 replace hS:=(hS.up (Up.drew _)).add hU0 (A':=Ch B14 rz.cells 55) hB14 (fun i(e:i=B14)=>by omega)
 refine Bh (.A5 lj rfl (.t rfl) (.t rfl) (Rt.one _) hS.b2 rfl) ?_
 intro w21 Nw21
 have zw21:=Nw21.size
 replace hS:=hS.Co 2 rfl (show Set_ _ w21 _ ((Ce (4*Ez b.Targets r time-E) 4).cells) _ from Nw21)
 refine Ar (Aa (I (.lc rfl (hS.b2.agg)) (A3 (eC (.ct rfl (.cons (.const _) .nil)) (IU)) rfl (nO (Ce (4*Ez b.Targets r time-E) 4) 1000 _ (Ip oQ) cQ) ?_)))
 rintro _ w22 ⟨rfl,uw22⟩
 have zw22:=uw22.size
 replace hS:=hS.up uw22
 rw[kS (by omega)]
 refine I (.xt rfl rfl) (I (.xt rfl rfl) (A3 (eC (.u rfl rfl) (aG)) rfl (Nb (Ce (4*Ez b.Targets r time-E) 4) _) ?_))
 rintro _ w23 ⟨rfl,uw23⟩
 have zw23:=uw23.size
 replace hS:=hS.up uw23
 refine A3 (eC (.cons (.const _) .nil) (jB)) rfl (Od (-10000) _ cQ) ?_
 rintro _ w24 ⟨rfl,uw24⟩
 have zw24:=uw24.size
 replace hS:=hS.up uw24
 refine A3 (eC (.cons (.const _) .nil) (jB)) rfl (Od (10000) _ cQ) ?_
 rintro _ w25 ⟨rfl,uw25⟩
 have zw25:=uw25.size
 replace hS:=hS.up uw25
 refine A3 (eC (.ct rfl (.ct rfl (.cu rfl))) (IT)) rfl (nP (Ce (4*Ez b.Targets r time-E) 4) _ _ _ (Ip oQ) (Oc cQ) (Oc cQ)) ?_
 rintro _ w26 ⟨rfl,uw26⟩
 have zw26:=uw26.size
 replace hS:=hS.up uw26
 refine I (.fB 1 rfl) (Bh (.Ig lj rfl (.t rfl) (.t rfl) (Rt.one _) hS.b0 bQ) ?_)
 intro w27 Nw27
 have zw27:=Nw27.size
 replace hS:=hS.Co 0 rfl (show Set_ _ w27 _ (DecV.cells ⟨0,gM (Ez b.Targets r time) E,Ce E 4,v⟩) _ from Nw27)
 refine Ar (Aa (I (.lc rfl (hS.b0.agg)) (Bh (.A5 lr rfl (.t rfl) (.t rfl) (Q1 _ ((hS.own 1 rfl).sC (fun _=>rfl))) hS.b0 rfl) ?_)))
 intro w28 Nw28
 have zw28:=Nw28.size
 replace hS:=hS.Co 0 rfl (show Set_ _ w28 _ (DecV.cells ⟨0,gM (Ez b.Targets r time) E,Ce E 4,v⟩) _ from Nw28)
 refine Ai (Aj (Dy rfl rfl m_ lr rfl (hS.b0.agg) ⟨_,rfl,?_⟩))
 subst eRS
 rw[ha]at hEU
 have e1:Fa b t c r time ahead=⟨0,gM (Ez b.Targets r time) E,Ce E 4,U⟩:=by unfold Fa;rw[←hEU]
 rw[e1]
 have huz:=(hUp _ hS.fr)
 exact⟨v,rfl,(hS.own 1 rfl).I1 (fun i h=>(hS.foot 1 rfl i h).elim (fun e=>by omega) (fun h=>bb (by rw[ewL];exact hUL.size) h)),huz⟩
end Go.Proofs.YtbcnnkfopoiifaaGreatDoor
