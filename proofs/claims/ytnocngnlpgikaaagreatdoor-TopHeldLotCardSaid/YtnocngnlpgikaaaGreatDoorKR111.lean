import Derived.Test.YtnocngnlpgikaaaGreatDoorKR110
import Derived.ChangeKeysEq
namespace Go.Wx
open Go.RowKit in
theorem Q8{P:Program}{n:Nat}{l:Env}{w:World}{fn:Func}{RR:Ending→World→Prop}{t u:Tmp}{T:TypeId}{B k:Nat}{cs:Array Go.Value}{x:Go.Value}(hr:fn.results=#[.cell t T,.tmp u])(hv:lk l t=some (.eq (.pointer (some ⟨B,0,none⟩))))(hu:lk l u=some (.eq x))(hT:∀w,(isAgg T).run P w=.ok true w)(hs:∀w,(sizeOf T).run P w=.ok k w)(hk:cs.size=k)
   (hc:AggAt w B 0 cs)(hR:RR (.returned (.tuple #[.agg cs,x])) w):KW n [] (bodyPost P fn RR .ret) l w:=fun a ha=>
 ⟨ha.defers,.tuple #[.agg cs,x],by
   have h1:a.tmps.getD t undef=.pointer (some ⟨B,0,none⟩):=ha.val _ _ hv
   have h2:a.tmps.getD u undef=x:=ha.val _ _ hu
   rw[ar]at h1 h2
   simp[results,hr,h1,h2,asAddr,Fc hT hs hk hc],hR⟩
def Lv:Fact:=H8 0 0 0 false
theorem fR{p:Fact→Bool}{l:List Fact}{k:Nat}{x:Fact}(h:l[k]?=some x)(hk:∀y∈l.take k,p y=false)(hx:p x=false):∀y∈l.take (k+1),p y=false:=fun y hy=>by
 rw[Cs h]at hy
 rcases bp.1 hy with hy|hy
 · exact hk y hy
 cases bh.1 hy;exact hx
theorem oU{p:Fact→Bool}{l:List Fact}{k:Nat}{x:Fact}(h:l[k]?=some x)(hk:∀y∈l.take k,p y=false)(hx:p x=true):l.find? p=some x:=by
 have hlt:=(ak.1 h).1
 have e:l=l.take k++x::l.drop (k+1):=by
   have h1:l.drop k=x::l.drop (k+1):=by
     rw[ef hlt,(ak.1 h).2]
   rw[←h1,dl]
 rw[e,List.find?_append,jg.2 (fun y hy=>by rw[hk y hy];exact b7),List.find?_cons,hx]
 rfl
theorem oV{p:Fact→Bool}{l:List Fact}(h:∀y∈l,p y=false):l.find? p=none:=jg.2 (fun y hy=>by rw[h y hy];exact b7)
def CK(p:Fact→Bool)(l:List Fact)(i:Int):Prop:=(∃k x,i=((k:Nat):Int)∧l[k]?=some x∧p x=true∧∀y∈l.take k,p y=false)∨(i= -1∧∀y∈l,p y=false)
def cX(a c r v t:Int)(f:Fact):Bool:=(f.Tool==a&&(f.Chamber==c&&(f.Recipe==r&&(f.Revision==v&&true))))&&decide (f.Time≤t)&&decide (t≤f.Until)
def Ha(b:Base)(a c r v t:Int):Bool:=(b.Qualified.find? (cX a c r v t)).isSome
def Ce(c n:Int):Int:=(if c<0 then IntKind.i64.wrap (-(IntKind.i64.wrap (c+1)))else c).tmod n
def Ib(b:Base)(j:Nat):List Fact:=[b.Processes,b.Measures,b.Swaps,b.Lots,b.Flows,b.Qualified,b.Holds,b.Releases,b.Resets,b.Targets,b.Gaps].getD j []
theorem Nd{j:Nat}(h:j<11):j=0∨j=1∨j=2∨j=3∨j=4∨j=5∨j=6∨j=7∨j=8∨j=9∨j=10:=by omega
theorem BaseC.at_{w:World}{bc:Array Go.Value}{b:Base}(h:BaseC w bc b){j:Nat}(hj:j<11):∃v,bc[j]?=some v∧Sl w v 19 Fact.cells (Ib b j):=by
 obtain⟨v0,v1,v2,v3,v4,v5,v6,v7,v8,v9,v10,e,h0,h1,h2,h3,h4,h5,h6,h7,h8,h9,h10⟩:=h
 subst e
 rcases Nd hj with rfl|rfl|rfl|rfl|rfl|rfl|rfl|rfl|rfl|rfl|rfl
 · exact⟨v0,rfl,h0⟩
 · exact⟨v1,rfl,h1⟩
 · exact⟨v2,rfl,h2⟩
 · exact⟨v3,rfl,h3⟩
 · exact⟨v4,rfl,h4⟩
 · exact⟨v5,rfl,h5⟩
 · exact⟨v6,rfl,h6⟩
 · exact⟨v7,rfl,h7⟩
 · exact⟨v8,rfl,h8⟩
 · exact⟨v9,rfl,h9⟩
 exact⟨v10,rfl,h10⟩
def short(b:Base):Prop:=∀j,(Ib b j).length≤100000
theorem aG(l:List Fact)(d:Int):(Gv (Gu l d)).length≤l.length:=by unfold Gv;rw[dm];exact(Pt d l).2
theorem U7(l:List Fact)(d:Int){j:Nat}(hj:j<11):Ib (Lk l d) j=D4 [((j+1:Nat):Int)] (Gv (Gu l d)) j:=by
 rcases Nd hj with rfl|rfl|rfl|rfl|rfl|rfl|rfl|rfl|rfl|rfl|rfl<;>rfl
theorem Tt(b:Base){j:Nat}(hj:¬j<11):Ib b j=[]:=by
 unfold Ib
 rw[cy,ck (by simp;omega)];rfl
theorem Tv{l:List Fact}(h:l.length≤100000)(d:Int):short (Lk l d):=fun j=>by
 by_cases hj:j<11
 · rw[U7 l d hj]
   exact br (Pu _ _ _) (br (aG l d) h)
 rw[Tt _ hj];simp
def Tw(n:Int):Bool:=decide (1≤n)&&decide (n≤1000000)
theorem Ed{c n:Int}(hc:Yu c)(hn:0<n):0≤Ce c n∧Ce c n<n:=by
 unfold Ce
 obtain⟨h1,h2⟩:=hc
 split
 · rw[Eg (i:=c+1) oQ oQ,Eg oQ oQ,jt (by omega)];exact⟨Int.emod_nonneg _ oQ,Int.emod_lt_of_pos _ hn⟩
 rw[jt (by omega)];exact⟨Int.emod_nonneg _ oQ,Int.emod_lt_of_pos _ hn⟩
theorem OwnS.els{α:Type}{enc:α→Array Go.Value}{b k n cp:Nat}{e:TypeId}{w:World}{ad:Option Addr}{xs:List α}(h:OwnS w b e k enc (.slice ad n cp) xs)(hk:∀x,(enc x).size=k):Els w ad k enc xs:=by
 obtain⟨ad',cp',e,hE⟩:=h.sl hk
 injection e with e1
 rw[e1];exact hE
theorem Nf(f:Fact):E5 f f=true:=by simp[E5]
theorem uC{f:Fact}(h:Bi f=true):f.Day≤100000:=by
 have:=K9 h
 simp only[preB,ig,gx]at this
 omega
theorem Ng{f g:Fact}(hf:Bi f=true)(hg:Bi g=true)(h:Cf f=Cf g):f.Kind=g.Kind:=by
 have kf:=Ej hf
 have kg:=Ej hg
 unfold Cf M8 at h
 rw[ap hf,ap hg]at h
 exact(Qf (r:=Co (Ec (Eb f.Kind) f)) (s:=Co (Ec (Eb g.Kind) g)) (a:=f.Kind) (b:=g.Kind) ⟨by omega,by omega⟩ ⟨by omega,by omega⟩ h).1
theorem U8:∀(a b:List UInt8),Go.Lib.compareBytes b a= - Go.Lib.compareBytes a b
 |[],[]=>rfl
 |[],_::_=>rfl
 |_::_,[]=>rfl
 |x::a,y::b=>by
   unfold Go.Lib.compareBytes
   by_cases h1:x<y
   · have h2:¬y<x:=by rw[fj]at*;omega
     rw[ap h1,am h2,ap h1];rfl
   by_cases h2:y<x
   · rw[ap h2,am h1,ap h2]
   rw[am h2,am h1,am h1,am h2];exact U8 a b
theorem cY:∀{a b:List UInt8},Go.Lib.compareBytes a b=0→a=b
 |[],[],_=>rfl
 |[],_::_,h=>by simp[Go.Lib.compareBytes]at h
 |_::_,[],h=>by simp[Go.Lib.compareBytes]at h
 |x::a,y::b,h=>by
   unfold Go.Lib.compareBytes at h
   by_cases h1:x<y
   · rw[ap h1]at h;cases h
   by_cases h2:y<x
   · rw[am h1,ap h2]at h;cases h
   rw[am h1,am h2]at h
   rw[cY h,show x=y from UInt8.toNat_inj.1 (by rw[fj]at h1 h2;omega)]
theorem oW(a:List UInt8):Go.Lib.compareBytes a a=0:=by have:=U8 a a;omega
theorem Xm:∀{a b c:List UInt8},0<Go.Lib.compareBytes a b→0<Go.Lib.compareBytes b c→0<Go.Lib.compareBytes a c
 |[],[],_,h,_=>by simp[Go.Lib.compareBytes]at h
 |[],_::_,_,h,_=>by simp[Go.Lib.compareBytes]at h
 |_::_,[],[],_,h=>by simp[Go.Lib.compareBytes]at h
 |_::_,[],_::_,_,h=>by simp[Go.Lib.compareBytes]at h
 |_::_,_::_,[],_,_=>by simp[Go.Lib.compareBytes]
 |x::a,y::b,z::c,h,k=>by
   unfold Go.Lib.compareBytes at h k⊢
   by_cases h1:x<y
   · rw[ap h1]at h;omega
   by_cases k1:y<z
   · rw[ap k1]at k;omega
   rw[am h1]at h
   rw[am k1]at k
   have e1:¬x<z:=by rw[fj]at*;omega
   rw[am e1]
   by_cases h2:y<x
   · rw[ap (show z<x by rw[fj]at*;omega)];decide
   by_cases k2:z<y
   · rw[ap (show z<x by rw[fj]at*;omega)];decide
   rw[am h2]at h
   rw[am k2]at k
   rw[am (show ¬z<x by rw[fj]at*;omega)]
   exact Xm h k
theorem Ic{a b:Fact}:Dx a b=true↔Bi a=true∧Bi b=true∧Cf a=Cf b∧(b.Version<a.Version∨(a.Version=b.Version∧0<Go.Lib.compareBytes (Hq a) (Hq b))):=by
 unfold Dx
 simp only[bm,fp,fc,beq_iff_eq,and_assoc]
theorem Il(a:Fact):Dx a a=false:=by
 rw[eu]
 intro h
 have:=(Ic.1 h).2.2.2
 rw[oW]at this
 omega
theorem aH{a b c:Fact}(h:Dx a b=true)(k:Dx b c=true):Dx a c=true:=by
 obtain⟨h1,h2,h3,h4⟩:=Ic.1 h
 obtain⟨k1,k2,k3,k4⟩:=Ic.1 k
 refine Ic.2 ⟨h1,k2,h3.trans k3,?_⟩
 rcases h4 with h4|⟨h4,h5⟩<;>rcases k4 with k4|⟨k4,k5⟩
 · exact .inl oQ
 · exact .inl oQ
 · exact .inl oQ
 exact .inr ⟨by omega,Xm h5 k5⟩
theorem U9{f:Fact}{o o':Nat}{n:Int}(h:E8 o=true)(h':E8 o'=true):Gk (eV f o n) o'=if o=o' then n else Gk f o':=by
 rcases D0 h with rfl|rfl|rfl|rfl|rfl|rfl|rfl|rfl|rfl|rfl|rfl|rfl|rfl|rfl<;>rcases D0 h' with rfl|rfl|rfl|rfl|rfl|rfl|rfl|rfl|rfl|rfl|rfl|rfl|rfl|rfl<;>rfl
theorem kU{f:Fact}{o:Nat}{n:Int}(h:E8 o=true):(eV f o n).Text=f.Text:=by
 rcases D0 h with rfl|rfl|rfl|rfl|rfl|rfl|rfl|rfl|rfl|rfl|rfl|rfl|rfl|rfl<;>rfl
theorem Xn:∀{fs:List Fld}{f g:Fact},(∀x∈fs,E8 x.off=true∧Nt x.lo∧Nt x.hi)→Hi fs f=some g→(∀o,E8 o=true→Gk g o≠0→Gk f o=Gk g o)∧(∀o,E8 o=true→(∀x∈fs,x.off≠o)→Gk f o=Gk g o)∧g.Text=f.Text∧∀x∈fs,Nt (Gk f x.off)
 |[],f,g,_,h=>by cases h;exact⟨fun _ _ _=>rfl,fun _ _ _=>rfl,rfl,fun x hx=>by cases hx⟩
 |x::fs,f,g,hf,h=>by
   unfold Hi at h
   split at h
   · cases h
   rename_i hx
   have ok:=hf x bl
   obtain⟨h1,h2,h3,h4⟩:=Xn (fun y hy=>hf y (bu _ hy)) h
   refine⟨fun o ho hne=>?_,fun o ho hn=>?_,h3.trans (kU ok.1),fun y hy=>?_⟩
   · have:=h1 o ho hne
     rw[U9 ok.1 ho]at this
     by_cases e:x.off=o
     · rw[ap e]at this;exact absurd this.symm hne
     rwa [am e]at this
   · have:=h2 o ho (fun y hy=>hn y (bu _ hy))
     rwa [U9 ok.1 ho,am (hn x bl)]at this
   have hb:Nt (Gk f x.off):=by
     have:=ok.2.1.1
     have:=ok.2.2.2
     exact⟨by omega,by omega⟩
   rcases bg.1 hy with rfl|hy
   · exact hb
   have:=h4 y hy
   rw[U9 ok.1 (hf y (bu _ hy)).1]at this
   by_cases e:x.off=y.off
   · rw[←e];exact hb
   rwa [am e]at this
theorem aI(k:Int):∀x∈fieldsOf k,E8 x.off=true∧Nt x.lo∧Nt x.hi:=by
 intro x hx
 have h:∀l∈Kj,∀y∈l,(E8 y.off&&decide (-4611686018427387903≤y.lo)&&decide (y.lo≤4611686018427387903)&&decide (-4611686018427387903≤y.hi)&&decide (y.hi≤4611686018427387903))=true:=by decide
 unfold fieldsOf at hx
 rw[cy]at hx
 cases hl:Kj[k.toNat]? with
 |none=>rw[hl]at hx;simp at hx
 |some l=>
   rw[hl]at hx
   have:=h l (ae hl) x (by simpa using hx)
   simp only[bm,fc]at this
   exact⟨this.1.1.1.1,⟨this.1.1.1.2,this.1.1.2⟩,⟨this.1.2,this.2⟩⟩
theorem oX{f g:Fact}(h:E5 f g=true):(∀o,E8 o=true→Gk f o=Gk g o)∧f.Text.toList=g.Text.toList:=by
 simp only[E5,bm,beq_iff_eq]at h
 obtain⟨_,h1,_,_,_,h5,h6,h7,h8,h9,h10,h11,h12,h13,h14,h15,h16,h17,h18⟩:=h
 refine⟨fun o ho=>?_,h18⟩
 rcases D0 ho with rfl|rfl|rfl|rfl|rfl|rfl|rfl|rfl|rfl|rfl|rfl|rfl|rfl|rfl
 · exact h1
 · exact h5
 · exact h6
 · exact h7
 · exact h8
 · exact h9
 · exact h10
 · exact h11
 · exact h12
 · exact h13
 · exact h14
 · exact h15
 · exact h16
 exact h17
theorem fS(k v d:Int)(g:Bool){o:Nat}(h:E8 o=true):Gk (H8 k v d g) o=0:=by
 rcases D0 h with rfl|rfl|rfl|rfl|rfl|rfl|rfl|rfl|rfl|rfl|rfl|rfl|rfl|rfl<;>rfl
theorem kV(g:Fact)(t:ByteArray){o:Nat}(h:E8 o=true):Gk { g with Text:=t } o=Gk g o:=by
 rcases D0 h with rfl|rfl|rfl|rfl|rfl|rfl|rfl|rfl|rfl|rfl|rfl|rfl|rfl|rfl<;>rfl
theorem Kq{f:Fact}(h:Bi f=true):(∀o,E8 o=true→(∀x∈fieldsOf f.Kind,x.off≠o)→Gk f o=0)∧(∀x∈fieldsOf f.Kind,Nt (Gk f x.off))∧(Gg f.Kind=false→f.Text.toList=[]):=by
 unfold Bi at h
 rw[bm,bm]at h
 have h3:=h.2.2
 cases hr:Hi (fieldsOf f.Kind) f with
 |none=>rw[hr]at h3;cases h3
 |some g=>
   rw[hr]at h3
   obtain⟨r1,r2,r3,r4⟩:=Xn (aI f.Kind) hr
   obtain⟨e1,e2⟩:=oX h3
   have z:∀o,E8 o=true→Gk g o=0:=fun o ho=>by
     have:=e1 o ho
     rw[fS _ _ _ _ ho]at this
     split at this
     · rwa [kV _ _ ho]at this
     exact this
   refine⟨fun o ho hn=>(r2 o ho hn).trans (z o ho),r4,fun ht=>?_⟩
   rw[ht]at e2
   rw[←r3]
   rw[am b7]at e2
   rw[e2,ByteArray.toList_eq];rfl
theorem kW{a b:ByteArray}(h:a.toList=b.toList):a=b:=by
 rw[ByteArray.toList_eq,ByteArray.toList_eq]at h
 cases a;cases b
 exact aq ByteArray.mk (Array.toList_inj.1 h)
theorem kX{a b:Fact}(hk:a.Kind=b.Kind)(hv:a.Version=b.Version)(hd:a.Day=b.Day)(hg:a.Gone=b.Gone)(ht:a.Text=b.Text)(h:∀o,E8 o=true→Gk a o=Gk b o):a=b:=by
 have h1:=h 1 rfl
 have h5:=h 5 rfl
 have h6:=h 6 rfl
 have h7:=h 7 rfl
 have h8:=h 8 rfl
 have h9:=h 9 rfl
 have h10:=h 10 rfl
 have h11:=h 11 rfl
 have h12:=h 12 rfl
 have h13:=h 13 rfl
 have h14:=h 14 rfl
 have h15:=h 15 rfl
 have h16:=h 16 rfl
 have h17:=h 17 rfl
 cases a;cases b
 rw[Fact.mk.injEq]
 exact⟨hk,h1,hv,hd,hg,h5,h6,h7,h8,h9,h10,h11,h12,h13,h14,h15,h16,h17,ht⟩
theorem kY{a b:Fact}(ha:Bi a=true)(hb:Bi b=true)(hk:a.Kind=b.Kind)(h:Hq a=Hq b):a=b:=by
 obtain⟨a1,a2,a3⟩:=Kq ha
 obtain⟨b1,b2,b3⟩:=Kq hb
 have pa:=K9 ha
 have pb:=K9 hb
 have ka:=Ej ha
 have kb:=Ej hb
 simp only[preB,ig,gx]at pa pb
 have win:∀(f:Fact),(1≤f.Kind∧f.Kind≤11)→(¬f.Version<1∧¬1000000<f.Version∧¬f.Day<0∧¬100000<f.Day)→(∀x∈fieldsOf f.Kind,Nt (Gk f x.off))→∀x∈N5 f,Nt x:=fun f k p q x hx=>by
   unfold N5 at hx
   rcases bp.1 hx with hx|hx
   · simp only[bg,c9,db]at hx
     rcases hx with rfl|rfl|rfl|rfl
     · exact⟨by omega,by omega⟩
     · exact⟨by omega,by omega⟩
     · exact⟨by omega,by omega⟩
     unfold I7;split<;>exact⟨by omega,by omega⟩
   obtain⟨y,hy,rfl⟩:=bj.1 hx
   exact q y hy
 unfold Hq at h
 obtain⟨e1,e2⟩:=Nx (win a ka ⟨pa.1.1.1.1,pa.1.1.1.2,pa.1.1.2,pa.1.2⟩ a2) (win b kb ⟨pb.1.1.1.1,pb.1.1.1.2,pb.1.1.2,pb.1.2⟩ b2) (by unfold N5;simp[Ec,hk]) h
 unfold N5 at e1
 simp only[dp,df,List.cons.injEq]at e1
 obtain⟨_,e3,e4,e5,e6⟩:=e1
 refine kX hk e3 e4 ?_ ?_ fun o ho=>?_
 · revert e5
   unfold I7
   cases a.Gone<;>cases b.Gone<;>simp
 · by_cases ht:Gg a.Kind=true
   · rw[ap ht,ap (by rw[←hk];exact ht)]at e2
     unfold Za at e2
     have:=(Qf (bO (by simp;omega)) (bO (by simp;omega)) e2).2
     cases ea:a.Text;cases eb:b.Text
     rw[ea,eb]at this
     exact aq ByteArray.mk (Array.toList_inj.1 this)
   have ht:=eu.2 ht
   exact kW ((a3 ht).trans (b3 (hk▸ht)).symm)
 by_cases hx:∃x∈fieldsOf a.Kind,x.off=o
 · obtain⟨x,hx,rfl⟩:=hx
   unfold Ec at e6
   rw[←hk]at e6
   exact List.map_inj_left.1 e6 x hx
 have hn:∀x∈fieldsOf a.Kind,x.off≠o:=fun x h1 h2=>hx ⟨x,h1,h2⟩
 rw[a1 o ho hn,b1 o ho (hk▸hn)]
theorem Q9{a b:Fact}(ha:Bi a=true)(hb:Bi b=true)(hk:Cf a=Cf b)(h1:Dx a b=false)(h2:Dx b a=false):a=b:=by
 rw[eu]at h1 h2
 have c1:¬(b.Version<a.Version∨(a.Version=b.Version∧0<Go.Lib.compareBytes (Hq a) (Hq b))):=fun c=>h1 (Ic.2 ⟨ha,hb,hk,c⟩)
 have c2:¬(a.Version<b.Version∨(b.Version=a.Version∧0<Go.Lib.compareBytes (Hq b) (Hq a))):=fun c=>h2 (Ic.2 ⟨hb,ha,hk.symm,c⟩)
 rw[U8 (Hq a) (Hq b)]at c2
 exact kY ha hb (Ng ha hb hk) (cY oQ)
def rC(l:List Fact)(d:Int)(f:Fact):Prop:=f∈l∧Cf f≠[]∧f.Day≤d∧∀g∈l,g.Day≤d→Dx g f=false
structure EInv(l:List Fact)(d:Int)(m:Fh):Prop where
 ok:MOk m
 top:∀p∈m,rC l d p.2
 all:∀f∈l,Cf f≠[]→f.Day≤d→Cf f∈m.map (·.1)
theorem Le{a b:Fact}(h:Dx a b=true):Cf a=Cf b:=(Ic.1 h).2.2.1
theorem kZ{m:Fh}{c:List UInt8}{x:Fact}{p:List UInt8×Fact}(h:p∈Kn m c x):p=(c,x)∨(p∈m∧p.1≠c):=by
 unfold Kn at h
 split at h
 · obtain⟨q,hq,e⟩:=bj.1 h
   split at e
   · exact .inl e.symm
   rename_i hc;subst e;exact .inr ⟨hq,hc⟩
 rename_i hn
 rcases bp.1 h with h|h
 · exact .inr ⟨h,fun e=>hn (bj.2 ⟨p,h,e⟩)⟩
 exact .inl (bh.1 h)
theorem lA{m:Fh}{c:List UInt8}{x:Fact}{k:List UInt8}(h:k∈m.map (·.1)∨k=c):k∈(Kn m c x).map (·.1):=by
 rw[Tp]
 split
 · rename_i hc;rcases h with h|rfl
   · exact h
   exact hc
 rcases h with h|rfl
 · exact et _ h
 simp
theorem Ra{l:List Fact}{d:Int}{x f:Fact}(h:rC l d f)(hx:x.Day≤d→Dx x f=false):rC (l++[x]) d f:=by
 refine⟨et _ h.1,h.2.1,h.2.2.1,fun g hg hd=>?_⟩
 rcases bp.1 hg with hg|hg
 · exact h.2.2.2 g hg hd
 cases bh.1 hg;exact hx hd
theorem EInv.step{l:List Fact}{d:Int}{m:Fh}(h:EInv l d m)(x:Fact):EInv (l++[x]) d (Dg d m x):=by
 by_cases hc:Cf x=[]∨d<x.Day
 · rw[N8 hc]
   refine⟨h.ok,fun p hp=>Ra (h.top p hp) fun hd=>?_,fun f hf hk hd=>?_⟩
   · rw[eu]
     intro e
     rcases hc with hc|hc
     · exact(h.top p hp).2.1 ((Le e).symm.trans hc)
     omega
   rcases bp.1 hf with hf|hf
   · exact h.all f hf hk hd
   cases bh.1 hf
   rcases hc with hc|hc
   · exact absurd hc hk
   omega
 have hk:Cf x≠[]:=fun e=>hc (.inl e)
 have hd:x.Day≤d:=by
   by_cases hd:x.Day≤d
   · exact hd
   exact absurd (.inr oQ) hc
 have others:∀p∈m,p.1≠Cf x→rC (l++[x]) d p.2:=fun p hp hne=>Ra (h.top p hp) fun _=>by
   rw[eu]
   intro e
   exact hne ((h.ok p hp).1.trans (Le e).symm)
 have put:(∀g∈l,g.Day≤d→Dx g x=false)→EInv (l++[x]) d (Kn m (Cf x) x):=fun hx=>by
   refine⟨h.ok.set (Mh hk),fun p hp=>?_,fun f hf hkf hdf=>?_⟩
   · rcases kZ hp with rfl|⟨h1,h2⟩
     · refine⟨by simp,hk,hd,fun g hg hdg=>?_⟩
       rcases bp.1 hg with hg|hg
       · exact hx g hg hdg
       cases bh.1 hg;exact Il x
     exact others p h1 h2
   refine lA ?_
   rcases bp.1 hf with hf|hf
   · exact .inl (h.all f hf hkf hdf)
   cases bh.1 hf;exact .inr rfl
 cases hg:Qv m (Cf x)with
 |none=>
   rw[Xc hc hg]
   refine put fun g hgl hgd=>?_
   rw[eu]
   intro e
   have e1:=Le e
   have:=h.all g hgl (by rw[e1];exact hk) hgd
   rw[e1]at this
   have hno:=To hg
   rw[Ld]at hno
   exact hno this
 |some old=>
   have hmem:∃p∈m,p.1=Cf x∧p.2=old:=by
     unfold Qv at hg
     rw[gy]at hg
     obtain⟨p,hp,e⟩:=hg
     have h2:(p.1==Cf x)=true:=List.find?_some (p:=fun p:List UInt8×Fact=>p.1==Cf x) hp
     exact⟨p,List.mem_of_find?_eq_some hp,eq_of_beq h2,e⟩
   obtain⟨p,hp,hpk,rfl⟩:=hmem
   cases hq:Dx x p.2 with
   |true=>
     rw[Xd hc hg hq]
     refine put fun g hgl hgd=>?_
     rw[eu]
     intro e
     have:=(h.top p hp).2.2.2 g hgl hgd
     rw[aH e hq]at this
     cases this
   |false=>
     rw[Xe hc hg hq]
     refine⟨h.ok,fun q hq'=>?_,fun f hf hkf hdf=>?_⟩
     · refine Ra (h.top q hq') fun _=>?_
       rw[eu]
       intro e
       have e1:=Le e
       have e2:=(h.ok q hq').1
       have e3:q.1=p.1:=by rw[e2,←e1,hpk]
       have n:=Mi
       by_cases hqp:q.2=p.2
       · rw[hqp,hq]at e;cases e
       exact absurd (Q9 (h.ok q hq').2 (h.ok p hp).2 (by rw[←e2,←(h.ok p hp).1,e3]) ((h.top p hp).2.2.2 _ (h.top q hq').1 (h.top q hq').2.2.1) ((h.top q hq').2.2.2 _ (h.top p hp).1 (h.top p hp).2.2.1)) hqp
     rcases bp.1 hf with hf|hf
     · exact h.all f hf hkf hdf
     cases bh.1 hf
     exact bj.2 ⟨p,hp,hpk⟩
theorem Xo(l:List Fact)(d:Int):EInv l d (Gu l d):=by
 have key:∀(r l:List Fact)(m:Fh),EInv l d m→EInv (l++r) d (r.foldl (Dg d) m):=by
   intro r
   induction r with
   |nil=>intro l m h;rw[dv];exact h
   |cons x r ih=>intro l m h;have:=ih (l++[x]) _ (h.step x);rwa [cx]at this
 exact key l [] [] ⟨fun p hp=>(by cases hp),fun p hp=>(by cases hp),fun f hf=>(by cases hf)⟩
theorem lB{l:List Fact}{d:Int}{f:Fact}:f∈Gv (Gu l d)↔rC l d f:=by
 have h:=Xo l d
 rw[H9 h.ok]
 constructor
 · exact fun hf=>h.top _ hf
 intro hf
 obtain⟨p,hp,e⟩:=bj.1 (h.all f hf.1 hf.2.1 hf.2.2.1)
 have e:p.1=Cf f:=e
 have hpe:=h.top p hp
 have:p.2=f:=Q9 (h.ok p hp).2 (Mh hf.2.1) ((h.ok p hp).1.symm.trans e) (hf.2.2.2 _ hpe.1 hpe.2.2.1) (hpe.2.2.2 _ hf.1 hf.2.2.1)
 rw[←e,←this];exact hp
theorem Va(l:List Fact)(d:Int):(Gv (Gu l d)).Nodup:=Hv (f:=Cf) (by rw[Oz (Xo l d).ok];exact Mi l d)
def Ja(wafer time:Int)(best:Option Fact)(f:Fact):Bool:=Tw wafer&&decide (f.Wafer=wafer)&&decide (f.Time≤time)&&(match best with|none=>true|some g=>decide (g.Time<f.Time))
def Vb(wafer time:Int)(best:Option Fact)(f:Fact):Option Fact:=if Ja wafer time best f=true then some f else best
def Fg(l:List Fact)(wafer time:Int):Option Fact:=l.foldl (Vb wafer time) none
def Gb(l:List Fact)(wafer time:Int):Int×Int:=match Fg l wafer time with|none=>(0,0)|some f=>(f.Lot,f.Product)
theorem Gw(l:List Fact)(f:Fact)(wafer time:Int):Fg (l++[f]) wafer time=Vb wafer time (Fg l wafer time) f:=by simp[Fg]
def Nh(ad:Option Addr)(k:Nat):Option Nat→Option Addr
 |none=>none
 |some j=>ad.map fun a=>⟨a.block,a.off+j*k,none⟩
structure Cond where
 want:Int
 shift:Int
 is:Int
def Cond.cells(c:Cond):Array Go.Value:=#[vi c.want,vi c.shift,vi c.is]
def Cond.met(c:Cond):Bool:=decide (c.want=0)||(decide (c.is≤c.want)&&decide (IntKind.i64.wrap (c.want-c.shift)=c.is))
def Gx(f:Fact):Bool:=decide (f.Kind=7)
def aJ(f:Fact)(t:Int):Bool:=decide (f.Kind=7)&&decide (f.Time≤t)&&decide (t≤f.Until)
def Rb(f:Fact)(lots:List Fact)(wafer time:Int):Bool:=aJ f time&&[Cond.mk f.Wafer 0 wafer,Cond.mk f.Lot 0 (Gb lots wafer time).1].all Cond.met
def Kr(f:Fact)(lots:List Fact)(a:GAct):Bool:=Rb f lots a.Wafer a.Time&&[Cond.mk f.Tool 1 a.Tool,Cond.mk f.Chamber 1 a.Chamber,Cond.mk f.Step 1 a.Step,Cond.mk f.Recipe 0 a.Recipe,Cond.mk f.Revision 0 a.Revision].all Cond.met
def uD(x y:Int):Int:=IntKind.i64.wrap (BitVec.ofInt 64 x|||BitVec.ofInt 64 y).toNat
def cZ(x y:Int):Int:=IntKind.i64.wrap (BitVec.ofInt 64 x&&& ~~~BitVec.ofInt 64 y).toNat
def Im(id time:Int)(acc:Int)(r:Fact):Int:=if(decide (r.Other=id)&&decide (r.Time≤time))=true then uD acc r.Parties else acc
def Ep(l:List Fact)(id time:Int):Int:=l.foldl (Im id time) 0
theorem Ks(l:List Fact)(r:Fact)(id time:Int):Ep (l++[r]) id time=Im id time (Ep l id time) r:=by simp[Ep]
def lC(f:Fact)(rels:List Fact)(time:Int):Bool:=decide (cZ f.Parties (Ep rels f.ID time)=0)
end Go.Wx
namespace Go.Proofs.YtnocngnlpgikaaaGreatDoor
open Go.Proofs.Tryz
open Go.Wx Go.RowKit
theorem fT(cf:Nat)(lb:Array Go.Value)(p:Fact→Bool)(hen:∀args w,(callFunc cf args).run prog w=.ok (.enter cf args) w)(ad:Option Addr)(cp:Nat)(l:List Fact)(w:World)(hE0:Els w ad 19 Fact.cells l)(hl:l.length≤100000)(hp:∀W,Up w W→∀x,Ret prog cf (#[.agg (Fact.cells x)]++lb) W fun r W'=>r=.bool (p x)∧Up W W'):Ret prog 154 #[.slice ad l.length cp,.func (.func cf) #[] lb] w fun r w'=>∃i,r=vi i∧CK p l i∧Up w w':=by
 have hW:=Up.refl w
 obtain⟨w0,rfl,_⟩:=W0 w
 refine cT 19 func154 rfl ?_
 refine Ae (Ay (Am (Ae (I rfl ?_))))
 refine U (.Cn jv (.t rfl)) ?_
 refine U (.move (.const _)) ?_
 refine Af (Ah ?_)
 refine A5 (σ:=Nat) (fun s w=>(s≤l.length)∧(∀y∈l.take s,p y=false)∧(Up w0 w)) (fun s=>[(8,.eq (vi (s:Int)))]) ([(0,.eq _),(1,.eq _),(7,.eq _)]) (fun s=>l.length-s) 0 ?_ tQ ?_
 ·exact⟨au _,by simp,hW⟩
 rintro k w1 ⟨hk,hn,hW⟩
 refine Ae ?_
 refine U (.l2 rfl rfl) ?_
 refine Am ?_
 refine CW.b rfl (fun h9=>?_) (fun h9=>?_)
 ·replace h9:=dQ h9
  refine Ai (Ac (Ak (Ah (Ae (I rfl (LW.A rfl (Am ?_)))))))
  have hE:=Els.up hE0 hW
  refine Aa (I rfl (I rfl (I rfl ?_)))
  obtain⟨x,hx⟩:=An (xs:=l) (i:=k) oQ
  obtain⟨Bx,ox,ax,hcx⟩:=hE _ x hx
  refine U (.Ar jv jz (.t rfl) (.t rfl) oQ ax) ?_
  refine U (.lc rfl (hcx)) ?_
  refine A3 (Cr (.t rfl) (.cu rfl) (hen)) rfl (hp _ hW x) ?_
  rintro _ w2 ⟨rfl,uw2⟩
  have zw2:=uw2.size
  replace hW:=hW.up uw2
  replace hcx:=hcx.up uw2
  refine Af ?_
  refine CW.b rfl (fun h16=>?_) (fun h16=>?_)
  ·replace h16:=dQ h16
   refine Ae (I rfl (LW.A rfl (Af (Al (A7 (Au (Au (A7 (Au ?_)))))))))
   refine KW.q ?_
   first|exact⟨_,rfl,.inl ⟨k,x,rfl,hx,by simpa using h16,hn⟩,hW⟩|exact⟨_,rfl,.inr ⟨rfl,by rw[show k=l.length by omega,bt]at hn;exact hn⟩,hW⟩
  replace h16:=dQ h16
  refine Ai (Aj (Ac (Aa ?_)))
  refine U (.ic rfl oQ) ?_
  refine I rfl (LW.nil (Av ?_))
  exact⟨k+1,⟨by omega,fR hx hn (by simpa using h16),hW⟩,tQ,by first|omega|(dsimp only;omega)⟩
 replace h9:=dQ h9
 refine A8 (Ab (Ab (Ao (Ac (Ae (Ay (Af (Al ?_))))))))
 refine KW.q ?_
 first|exact⟨_,rfl,.inl ⟨k,x,rfl,hx,by simpa using h16,hn⟩,hW⟩|exact⟨_,rfl,.inr ⟨rfl,by rw[show k=l.length by omega,bt]at hn;exact hn⟩,hW⟩
theorem Ty(cf:Nat)(lb:Array Go.Value)(p:Fact→Bool)(hen:∀args w,(callFunc cf args).run prog w=.ok (.enter cf args) w)(ad:Option Addr)(cp:Nat)(l:List Fact)(w:World)(hE0:Els w ad 19 Fact.cells l)(hl:l.length≤100000)(hp:∀W,Up w W→∀x,Ret prog cf (#[.agg (Fact.cells x)]++lb) W fun r W'=>r=.bool (p x)∧Up W W'):Ret prog 190 #[.slice ad l.length cp,.func (.func cf) #[] lb] w fun r w'=>r=.tuple #[.agg ((l.find? p).getD Lv).cells,.bool (l.find? p).isSome]∧Up w w':=by
 obtain⟨w0,rfl,hS⟩:=W0 w
 refine cT 18 func190 rfl (Ae (Aq (.Bt j4) rfl ?_))
 rintro _ w1 ⟨B4,rfl,NB4⟩
 replace hS:=hS.Cc NB4
 refine Ay (Am (Ae (I rfl (I rfl (A3 (eC (.u rfl rfl) (qH)) rfl (fT cf lb p hen ad cp l _ (Els.up hE0 hS.Cl) hl (fun W u x=>hp W (hS.Cl.trans u) x)) ?_)))))
 rintro _ w2 ⟨i,rfl,hi,uw2⟩
 replace hS:=hS.up uw2
 refine LW.A rfl (Am (Aa (I rfl (U (.geq (.t rfl) (.const _)) (Af (CW.b rfl (fun h12=>?_) (fun h12=>?_)))))))
 ·replace h12:=dQ h12
  refine Ak ?_
  obtain⟨k,x,rfl,hx,hpx,hn⟩:=hi.resolve_right (fun⟨e,_⟩=>by omega)
  rw[oU hx hn hpx]
  obtain⟨Bx,ox,ax,hcx⟩:=(Els.up hE0 hS.Cl) k x hx
  have hkl:=(ak.1 hx).1
  refine Aa (I rfl (I rfl (U (.Ar jv jz (.t rfl) (.t rfl) oQ ax) (U (.lc rfl (hcx)) (Cb (.Ca jz rfl (.t rfl) (.t rfl) eQ hS.b0 rfl) ?_)))))
  intro w3 Nw3
  replace hS:=hS.D9 0 rfl Nw3
  refine Ay (Af (Al (Au (Q8 rfl rfl rfl isAgg33 jz rfl (hS.b0).agg ⟨_,rfl,?_⟩))))
  exact⟨rfl,hS.Cl⟩
 replace h12:=dQ h12
 refine Ai (Ac (Ak ?_))
 have hn:=(hi.resolve_left (fun⟨k,x,e,_⟩=>by omega)).2
 rw[oV hn]
 refine Aa (Aq (.Bt j4) rfl ?_)
 rintro _ w4 ⟨B7,rfl,NB7⟩
 replace hS:=hS.Cc NB7
 refine Am (Aa (U (.lc rfl (hS.b1.agg)) (Cb (.Ca jz rfl (.t rfl) (.t rfl) eQ hS.b0 rfl) ?_)))
 intro w5 Nw5
 replace hS:=hS.D9 0 rfl Nw5
 refine Ay (Af (Al (Q8 rfl rfl rfl isAgg33 jz rfl (hS.b0).agg ⟨_,rfl,?_⟩)))
 exact⟨rfl,hS.Cl⟩
theorem Io{xs ys:Array Go.Value}{i:Nat}{is:List Nat}{x y:Int}{r:Bool}{w:World}(hx:xs[i]?=some (vi x))(hy:ys[i]?=some (vi y))(h:(Op.eqItems 9999 3 1 xs ys is).run prog w=.ok r w):(Op.eqItems 9999 3 1 xs ys (i::is)).run prog w=.ok ((x==y)&&r) w:=by
 have px:(part 3 xs (i*1)).run prog w=.ok (vi x) w:=by simp[part,isAgg,run_underlying jy,hx]
 have py:(part 3 ys (i*1)).run prog w=.ok (vi y) w:=by simp[part,isAgg,run_underlying jy,hy]
 have pe:(Op.equalIn 9999 3 (vi x) (vi y)).run prog w=.ok (x==y) w:=run_equalIn_int w 9998 _ _ _ _ _ jy
 simp only[Op.eqItems,Sem.run_bind,px,py,pe,Result.andThen_ok]
 cases hb:(x==y)<;>simp[h]
theorem Xp(a b c e a' b' c' e':Int)(w:World):(Op.equalIn 10000 246 (.agg #[vi a,vi b,vi c,vi e]) (.agg #[vi a',vi b',vi c',vi e'])).run prog w=.ok (a==a'&&(b==b'&&(c==c'&&(e==e'&&true)))) w:=by
 have hc:Tryz.prog.cellsOf 3=1:=by kernel_rfl
 rw[run_equalIn_array w 9999 _ _ underlying246 (show Tryz.prog.info? 3=some Tryz.t3 from by kernel_rfl),hc]
 exact Io rfl rfl (Io rfl rfl (Io rfl rfl (Io rfl rfl (by simp[Op.eqItems]))))
theorem Rc(f:Fact)(a c r v t:Int)(B B':Nat)(w:World)(hB:Blk w B #[vi a,vi c,vi r,vi v] 246)(hB':Blk w B' #[vi t] 3):Ret prog 191 #[.agg f.cells,.pointer (some ⟨B,0,none⟩),.pointer (some ⟨B',0,none⟩)] w fun r0 w'=>r0=.bool (cX a c r v t f)∧Up w w':=by
 have hW:=Up.refl w
 obtain⟨w0,rfl,_⟩:=W0 w
 refine cT 28 func191 rfl ?_
 refine Ae ?_
 refine Aq (.bA rfl) rfl ?_
 rintro _ w1 ⟨B3,rfl,NB3⟩
 have eB3:=NB3.at_
 have zB3:=NB3.size
 replace hW:=hW.up NB3.up
 have hB3:=NB3.blk
 refine Ay (Am (Aa ?_))
 refine U (.fB 11 rfl) ?_
 refine U (.lb rfl (hB3.Ad rfl)) ?_
 refine U (.fB 12 rfl) ?_
 refine U (.lb rfl (hB3.Ad rfl)) ?_
 refine U (.fB 14 rfl) ?_
 refine U (.lb rfl (hB3.Ad rfl)) ?_
 refine U (.fB 15 rfl) ?_
 refine U (.lb rfl (hB3.Ad rfl)) ?_
 refine U (.Ia (cs:=#[vi f.Tool,vi f.Chamber,vi f.Recipe,vi f.Revision]) underlying246 zeroValue246 jw (.ct rfl (.ct rfl (.ct rfl (.cu rfl)))) rfl) ?_
 refine U (.lc rfl ((hB.up hW).agg)) ?_
 refine U (.rK eqGuardType246 (Xp _ _ _ _ _ _ _ _) (.t rfl) (.t rfl)) ?_
 refine I rfl ?_
 refine LW.gr rfl (fun hc=>PEv.fB 5 rfl) ?_
 refine LW.gr rfl (fun hc=>PEv.load j_ vQ (hB3.Ad rfl)) ?_
 refine LW.gr rfl (fun hc=>PEv.lb rfl ((hB'.up hW).Ad rfl)) ?_
 refine LW.gr rfl (fun hc=>PEv.leq vQ vQ) ?_
 refine U (.pa rfl (fun hp=>(by first|exact .const _|exact .tmp rfl|exact .cond rfl (by first|assumption|simp_all)))) ?_
 refine I rfl ?_
 refine LW.gr rfl (fun hc=>PEv.lb rfl ((hB'.up hW).Ad rfl)) ?_
 refine LW.gr rfl (fun hc=>PEv.fB 6 rfl) ?_
 refine LW.gr rfl (fun hc=>PEv.load j_ vQ (hB3.Ad rfl)) ?_
 refine LW.gr rfl (fun hc=>PEv.leq vQ vQ) ?_
 refine U (.pa rfl (fun hp=>(by first|exact .const _|exact .tmp rfl|exact .cond rfl (by first|assumption|simp_all)))) ?_
 refine LW.A rfl (Af (Al ?_))
 refine KW.q ?_
 exact⟨aq Go.Value.bool (by first|rfl|(unfold cX;split<;>simp_all)),hW⟩
theorem Sq(bc:Array Go.Value)(b:Base)(a c r v t:Int)(w:World)(hC:BaseC w bc b)(hl:b.Qualified.length≤100000):Ret prog 148 #[.agg bc,vi a,vi c,vi r,vi v,vi t] w fun r0 w'=>r0=.bool (Ha b a c r v t)∧Up w w':=by
 obtain⟨w0,rfl,hS⟩:=W0 w
 obtain⟨v5,h5,hr5⟩:=hC.DD
 obtain⟨ad,cp,rfl,hE0⟩:=hr5
 refine cT 29 func148 rfl ?_
 refine Ae ?_
 refine Aq (.bA rfl) rfl ?_
 rintro _ w1 ⟨B6,rfl,NB6⟩
 have eB6:=NB6.at_
 have zB6:=NB6.size
 replace hS:=hS.Cc NB6
 change Wx.Sep _ _ _ [_]at hS
 refine Aq (.O3 (.t rfl) rfl) rfl ?_
 rintro _ w2 ⟨B11,rfl,NB11⟩
 have eB11:=NB11.at_
 have zB11:=NB11.size
 replace hS:=hS.Cc NB11
 change Wx.Sep _ _ _ [_,_]at hS
 refine Ay (Am (Aa (I rfl (I rfl (I rfl (I rfl ?_))))))
 refine U (.Ia (cs:=#[vi a,vi c,vi r,vi v]) underlying246 zeroValue246 jw (.ct rfl (.ct rfl (.ct rfl (.cu rfl)))) rfl) ?_
 refine Aq (.Bt zeroValue246) rfl ?_
 rintro _ w3 ⟨B13,rfl,MB13⟩
 refine Cb (.Ca sizeOf246 rfl (.t rfl) (.t rfl) eQ MB13.blk rfl) ?_
 intro w4 LB13
 have NB13:=MB13.set LB13
 clear LB13 MB13
 have eB13:=NB13.at_
 have zB13:=NB13.size
 replace hS:=hS.Cc NB13
 change Wx.Sep _ _ _ [_,_,_]at hS
 refine Am (Aa ?_)
 refine U (.fB 5 rfl) ?_
 refine U (.lb rfl (hS.b0.cell h5)) ?_
 refine U (.makeFunc (.ct rfl (.cu rfl))) ?_
 refine A3 (eC (.u rfl rfl) (qN)) rfl (Ty 191 #[.pointer (some ⟨B13,0,none⟩),.pointer (some ⟨B11,0,none⟩)] (cX a c r v t) xC ad cp b.Qualified _ (Els.up hE0 hS.Cl) hl (fun W u x=>Rc x a c r v t B13 B11 W (hS.b2.up u) (hS.b1.up u))) ?_
 rintro _ w5 ⟨rfl,uw5⟩
 have zw5:=uw5.size
 replace hS:=hS.up uw5
 refine I rfl (U (.xt rfl rfl) (U (.xt rfl rfl) ?_))
 refine Aq (.Bt j4) rfl ?_
 rintro _ w6 ⟨B14,rfl,MB14⟩
 refine Cb (.Ca jz rfl (.t rfl) (.t rfl) eQ MB14.blk rfl) ?_
 intro w7 LB14
 have NB14:=MB14.set LB14
 clear LB14 MB14
 have eB14:=NB14.at_
 have zB14:=NB14.size
 replace hS:=hS.Cc NB14
 change Wx.Sep _ _ _ [_,_,_,_]at hS
 refine LW.A rfl (Am (Aa (I rfl (LW.A rfl (Af (Al ?_))))))
 refine KW.q ?_
 exact⟨rfl,hS.Cl⟩
theorem Re(n:Int)(w:World):Ret prog 21 #[vi n] w fun r w'=>r=.bool (Tw n)∧Up w w':=by
 have hW:=Up.refl w
 refine cT 9 func21 rfl (Ae (Ay (Am (Aa (I rfl (U (.geq (.t rfl) (.const _)) (I rfl (F5 rfl rfl (LW.gr rfl (fun hc=>PEv.leq vQ (.const _)) (U (.pa rfl (fun hp=>(by exact .cond rfl (by simp_all)))) (LW.A rfl (Af (Al (KW.q ?_))))))))))))))
 exact⟨rfl,hW⟩
set_option maxHeartbeats 1000000 in
theorem Vc(bc:Array Go.Value)(b:Base)(wafer time:Int)(w:World)(hC:BaseC w bc b)(hlen:b.Lots.length<9223372036854775807):Ret prog 9 #[.agg bc,vi wafer,vi time] w fun r w'=>r=.tuple #[vi (Gb b.Lots wafer time).1,vi (Gb b.Lots wafer time).2]∧Up w w':=by
 have hW:=Up.refl w
 obtain⟨w0,rfl,_⟩:=W0 w
 refine cT 61 func9 rfl (Ae (Aq (.bA rfl) rfl ?_))
 rintro _ w1 ⟨B3,rfl,NB3⟩
 replace hC:=hC.up NB3.up
 replace hW:=hW.up NB3.up
 have hB3:=NB3.blk
 refine Ay (Ay (Am (Aa (Ay (Am (Ak ?_))))))
 obtain⟨v3,h3,hr⟩:=hC.DB
 obtain⟨ad,cp,rfl,hE⟩:=hr
 refine Aa (U (.fB 3 rfl) (U (.lb rfl (hB3.cell h3)) (U (.Cn jv (.t rfl)) (U (.move (.const _)) (Af (Ah (CW.loop (σ:=Nat×Option Nat) (fun s w=>(s.1≤b.Lots.length∧(∀j,s.2=some j→j<s.1)∧(s.2.bind fun j=>b.Lots[j]?)=Fg (b.Lots.take s.1) wafer time)∧Els w ad 19 Fact.cells b.Lots∧Blk w B3 bc 35∧Up w0 w) (fun s=>[(8,.eq (.pointer (Nh ad 19 s.2))),(14,.eq (vi (s.1:Int))),(1,.eq (vi wafer)),(2,.eq (vi time)),(3,.eq (.pointer (some ⟨B3,0,none⟩))),(12,.eq (.slice ad b.Lots.length cp)),(13,.eq (vi (b.Lots.length:Int)))]) (fun s=>b.Lots.length-s.1) (0,none) ?_ ?_ ?_)))))))
 ·exact⟨⟨au _,fun j e=>(by cases e),rfl⟩,hE,hB3,hW⟩
 ·exact tQ
 rintro⟨k,best⟩ w2 ⟨⟨hk,hj,hbest⟩,hE,hB3,hW⟩
 dsimp only at hk hj hbest
 rcases best with _|j
 ·skip
  refine Ae (U (.l2 rfl rfl) (Am (CW.b rfl (fun h15=>?_) (fun h15=>?_))))
  ·replace h15:=dQ h15
   refine Ai (Ac (Ak (Ah (Ak ?_))))
   obtain⟨x,hx⟩:=An (xs:=b.Lots) (i:=k) oQ
   obtain⟨B,o,had,hcell⟩:=hE k x hx
   subst had
   refine Aa (I rfl (U (.indexAddr jv jz (.t rfl) (.t rfl) oQ) (U (.lc rfl (hcell)) (Aq (.Bt j4) rfl ?_))))
   rintro _ w3 ⟨B10,rfl,MB10⟩
   refine LW.A rfl (Cb (.Ca jz rfl (.t rfl) (.t rfl) eQ MB10.blk rfl) ?_)
   intro w4 LB10
   have NB10:=MB10.set LB10
   replace hE:=hE.up NB10.up
   replace hB3:=hB3.up NB10.up
   replace hW:=hW.up NB10.up
   have hB10:=NB10.blk
   refine Am (C7 kQ kQ rfl rfl (J (.mv rfl) (HW.c (fun a w _ ha=>Bm (.cu rfl) (rO) a ha) rfl rfl (fun w hu=>Re _ _) (J (.mv rfl) (Gi rfl rfl rfl rfl rfl rfl (fun hc=>PEv.fB 7 rfl) (Gi rfl rfl rfl rfl rfl rfl (fun hc=>PEv.load j_ vQ (hB10.Ad rfl)) (Gi rfl rfl rfl rfl rfl rfl (fun hc=>PEv.mv rfl) (Gi rfl rfl rfl rfl rfl rfl (fun hc=>PEv.eql vQ vQ) (J (.pa rfl (fun hp=>(by exact .cond rfl (by simp_all)))) (J (.mv rfl) (Gi rfl rfl rfl rfl rfl rfl (fun hc=>PEv.fB 5 rfl) (Gi rfl rfl rfl rfl rfl rfl (fun hc=>PEv.load j_ vQ (hB10.Ad rfl)) (Gi rfl rfl rfl rfl rfl rfl (fun hc=>PEv.mv rfl) (Gi rfl rfl rfl rfl rfl rfl (fun hc=>PEv.leq vQ vQ) (J (.pa rfl (fun hp=>(by exact .cond rfl (by simp_all)))) (J (.mv rfl) (Gi rfl rfl rfl rfl rfl rfl (fun hc=>PEv.mv rfl) (Gi rfl rfl rfl rfl rfl rfl (fun hc=>PEv.Je underlying82 vQ) (Gi rfl rfl rfl rfl rfl rfl (fun hc=>PEv.move vQ) (Lz rfl rfl rfl rfl rfl rfl rfl (Lz rfl rfl rfl rfl rfl rfl rfl (Lz rfl rfl rfl rfl rfl rfl rfl (Lz rfl rfl rfl rfl rfl rfl rfl (Lz rfl rfl rfl rfl rfl rfl rfl (Lz rfl rfl rfl rfl rfl rfl rfl (Lz rfl rfl rfl rfl rfl rfl rfl (Gi rfl rfl rfl rfl rfl rfl (fun hc=>PEv.D5 (b:=true) vQ (fun hp=>absurd (show true=false from hp) cQ)) (J (.pa rfl (fun hp=>(by exact .cond rfl (by simp_all)))) (HW.nil ?_)))))))))))))))))))))))))))))
   intro w5 uw5
   replace hE:=hE.up uw5
   replace hB3:=hB3.up uw5
   replace hW:=hW.up uw5
   replace hB10:=hB10.up uw5
   refine Ac (CW.b rfl (fun h45=>?_) (fun h45=>?_))
   ·replace h45:=dQ h45
    have hnew:Fg (b.Lots.take (k+1)) wafer time=some x:=by rw[Cs hx,Gw,←hbest];exact ap (by simpa[Ja,Nh]using h45)
    have hend:∃s':Nat×Option Nat,s'.2=some k∧s'.1=k+1:=⟨(k+1,some k),rfl,rfl⟩
    refine Aa (U (.fB 3 rfl) (U (.lb rfl (hB3.cell h3)) (I rfl (U (.indexAddr jv jz (.t rfl) (.t rfl) oQ) (LW.A rfl (LW.nil (Aj (Ac (Aa (U (.ic rfl oQ) (I rfl (LW.nil (Av ?_)))))))))))))
    exact⟨(k+1,some k),⟨⟨by omega,fun j e=>(by cases e;omega),by rw[hnew];exact hx⟩,hE,hB3,hW⟩,tQ,by omega⟩
   replace h45:=dQ h45
   have hnew:Fg (b.Lots.take (k+1)) wafer time=none:=by rw[Cs hx,Gw,←hbest];exact am (by simpa[Ja,Nh]using h45)
   refine Ai (Aj (Ac (Aa (U (.ic rfl oQ) (I rfl (LW.nil (Av ?_)))))))
   exact⟨(k+1,none),⟨⟨by omega,fun j e=>(by cases e),by rw[hnew];rfl⟩,hE,hB3,hW⟩,tQ,by dsimp only;omega⟩
  replace h15:=dQ h15
  have hkk:k=b.Lots.length:=by omega
  subst hkk
  rw[bt]at hbest
  have hres:Gb b.Lots wafer time=(0,0):=by unfold Gb;rw[←hbest];rfl
  refine A8 (Ab (Ab (Ao (Ac (Ak (Ae (I rfl (U (.Je underlying82 (.t rfl)) (Af (CW.v rfl (Ae (Ay (Ay (Af (Al (Au (Fy rfl rfl rfl ⟨_,rfl,?_⟩)))))))))))))))))
  exact⟨by rw[hres]<;>rfl,hW⟩
 obtain⟨y,hy⟩:=An (xs:=b.Lots) (i:=j) (by have:=hj j rfl;omega)
 obtain⟨B,o,had,hyc⟩:=hE j y hy
 subst had
 have hby:Fg (b.Lots.take k) wafer time=some y:=by rw[←hbest];exact hy
 refine Ae (U (.l2 rfl rfl) (Am (CW.b rfl (fun h15=>?_) (fun h15=>?_))))
 ·replace h15:=dQ h15
  refine Ai (Ac (Ak (Ah (Ak ?_))))
  obtain⟨x,hx⟩:=An (xs:=b.Lots) (i:=k) oQ
  obtain⟨B',o',e',hcell⟩:=hE k x hx
  cases e'
  refine Aa (I rfl (U (.indexAddr jv jz (.t rfl) (.t rfl) oQ) (U (.lc rfl (hcell)) (Aq (.Bt j4) rfl ?_))))
  rintro _ w6 ⟨B10,rfl,MB10⟩
  refine LW.A rfl (Cb (.Ca jz rfl (.t rfl) (.t rfl) eQ MB10.blk rfl) ?_)
  intro w7 LB10
  have NB10:=MB10.set LB10
  replace hE:=hE.up NB10.up
  replace hB3:=hB3.up NB10.up
  replace hW:=hW.up NB10.up
  replace hyc:=hyc.up NB10.up
  have hB10:=NB10.blk
  refine Am (C7 kQ kQ rfl rfl (J (.mv rfl) (HW.c (fun a w _ ha=>Bm (.cu rfl) (rO) a ha) rfl rfl (fun w hu=>Re _ _) (J (.mv rfl) (Gi rfl rfl rfl rfl rfl rfl (fun hc=>PEv.fB 7 rfl) (Gi rfl rfl rfl rfl rfl rfl (fun hc=>PEv.load j_ vQ (hB10.Ad rfl)) (Gi rfl rfl rfl rfl rfl rfl (fun hc=>PEv.mv rfl) (Gi rfl rfl rfl rfl rfl rfl (fun hc=>PEv.eql vQ vQ) (J (.pa rfl (fun hp=>(by exact .cond rfl (by simp_all)))) (J (.mv rfl) (Gi rfl rfl rfl rfl rfl rfl (fun hc=>PEv.fB 5 rfl) (Gi rfl rfl rfl rfl rfl rfl (fun hc=>PEv.load j_ vQ (hB10.Ad rfl)) (Gi rfl rfl rfl rfl rfl rfl (fun hc=>PEv.mv rfl) (Gi rfl rfl rfl rfl rfl rfl (fun hc=>PEv.leq vQ vQ) (J (.pa rfl (fun hp=>(by exact .cond rfl (by simp_all)))) (J (.mv rfl) (Gi rfl rfl rfl rfl rfl rfl (fun hc=>PEv.mv rfl) (Gi rfl rfl rfl rfl rfl rfl (fun hc=>PEv.Je underlying82 vQ) (Gi rfl rfl rfl rfl rfl rfl (fun hc=>PEv.move vQ) (P4 rfl rfl rfl rfl rfl rfl (fun hc=>PEv.fB 5 rfl) (P4 rfl rfl rfl rfl rfl rfl (fun hc=>PEv.load j_ vQ (hB10.Ad rfl)) (P4 rfl rfl rfl rfl rfl rfl (fun hc=>PEv.mv rfl) (P4 rfl rfl rfl rfl rfl rfl (fun hc=>PEv.nilCheck vQ) (P4 rfl rfl rfl rfl rfl rfl (fun hc=>PEv.fieldAddr (off:=5) ke rfl rfl jw rfl vQ) (P4 rfl rfl rfl rfl rfl rfl (fun hc=>PEv.load j_ vQ (hyc.nth (j:=5) rfl)) (P4 rfl rfl rfl rfl rfl rfl (fun hc=>PEv.gtr vQ vQ) (Gi rfl rfl rfl rfl rfl rfl (fun hc=>PEv.D5 vQ (fun hp=>(by exact .cond rfl (by simp_all)))) (J (.pa rfl (fun hp=>(by exact .cond rfl (by simp_all)))) (HW.nil ?_)))))))))))))))))))))))))))))
  intro w8 uw8
  replace hE:=hE.up uw8
  replace hB3:=hB3.up uw8
  replace hW:=hW.up uw8
  replace hyc:=hyc.up uw8
  replace hB10:=hB10.up uw8
  refine Ac (CW.b rfl (fun h45=>?_) (fun h45=>?_))
  ·replace h45:=dQ h45
   have hnew:Fg (b.Lots.take (k+1)) wafer time=some x:=by rw[Cs hx,Gw,hby];exact ap (by simpa[Ja,Nh]using h45)
   refine Aa (U (.fB 3 rfl) (U (.lb rfl (hB3.cell h3)) (I rfl (U (.indexAddr jv jz (.t rfl) (.t rfl) oQ) (LW.A rfl (LW.nil (Aj (Ac (Aa (U (.ic rfl oQ) (I rfl (LW.nil (Av ?_)))))))))))))
   exact⟨(k+1,some k),⟨⟨by omega,fun j e=>(by cases e;omega),by rw[hnew];exact hx⟩,hE,hB3,hW⟩,tQ,by omega⟩
  replace h45:=dQ h45
  have hnew:Fg (b.Lots.take (k+1)) wafer time=some y:=by rw[Cs hx,Gw,hby];exact am (by simpa[Ja,Nh]using h45)
  refine Ai (Aj (Ac (Aa (U (.ic rfl oQ) (I rfl (LW.nil (Av ?_)))))))
  exact⟨(k+1,some j),⟨⟨by omega,fun i e=>(by cases e;have:=hj j rfl;omega),by rw[hnew];exact hy⟩,hE,hB3,hW⟩,tQ,by dsimp only;omega⟩
 replace h15:=dQ h15
 have hkk:k=b.Lots.length:=by omega
 subst hkk
 rw[bt]at hby
 have hres:Gb b.Lots wafer time=(y.Lot,y.Product):=by unfold Gb;rw[hby]
 refine A8 (Ab (Ab (Ao (Ac (Ak (Ae (I rfl (U (.Je underlying82 (.t rfl)) (Af (CW.f rfl (Ai (Ac (Ak (C7 kQ kQ rfl rfl (J (.mv rfl) (J (.nc rfl) (J (.fB 9 rfl) (J (.lb rfl (hyc.nth (j:=9) rfl)) (J (.mv rfl) (J (.nc rfl) (J (.fB 10 rfl) (J (.lb rfl (hyc.nth (j:=10) rfl)) (J (.assign (.t rfl)) (J (.assign (.t rfl)) (HW.nil ?_)))))))))))))))))))))))))
 intro w9 uw9
 replace hE:=hE.up uw9
 replace hB3:=hB3.up uw9
 replace hW:=hW.up uw9
 replace hyc:=hyc.up uw9
 refine Ac (Al (Fy rfl rfl rfl ⟨_,rfl,?_⟩))
 exact⟨by rw[hres]<;>rfl,hW⟩
theorem fU(c:Cond)(w:World):Ret prog 161 #[.agg c.cells] w fun r w'=>r=.bool c.met∧Up w w':=by
 have hW:=Up.refl w
 refine cT 23 func161 rfl ?_
 refine Ae ?_
 refine Aq (.bA rfl) rfl ?_
 rintro _ w1 ⟨B1,rfl,NB1⟩
 have eB1:=NB1.at_
 have zB1:=NB1.size
 replace hW:=hW.up NB1.up
 have hB1:=NB1.blk
 refine Ay (Am (Aa ?_))
 refine U (.fB 0 rfl) ?_
 refine U (.lb rfl (hB1.Ad rfl)) ?_
 refine U (.eql (.t rfl) (.const _)) ?_
 refine I rfl ?_
 refine LW.gr rfl (fun hc=>PEv.fB 0 rfl) ?_
 refine LW.gr rfl (fun hc=>PEv.load j_ vQ (hB1.Ad rfl)) ?_
 refine LW.gr rfl (fun hc=>PEv.fB 2 rfl) ?_
 refine LW.gr rfl (fun hc=>PEv.load j_ vQ (hB1.Ad rfl)) ?_
 refine LW.gr rfl (fun hc=>PEv.geq vQ vQ) ?_
 refine LW.gr rfl (fun hc=>PEv.move vQ) ?_
 refine Jz rfl rfl rfl rfl rfl rfl rfl (fun hc=>PEv.fB 0 rfl) ?_
 refine Jz rfl rfl rfl rfl rfl rfl rfl (fun hc=>PEv.load j_ vQ (hB1.Ad rfl)) ?_
 refine Jz rfl rfl rfl rfl rfl rfl rfl (fun hc=>PEv.fB 1 rfl) ?_
 refine Jz rfl rfl rfl rfl rfl rfl rfl (fun hc=>PEv.load j_ vQ (hB1.Ad rfl)) ?_
 refine Jz rfl rfl rfl rfl rfl rfl rfl (fun hc=>dN vQ vQ) ?_
 refine Jz rfl rfl rfl rfl rfl rfl rfl (fun hc=>PEv.fB 2 rfl) ?_
 refine Jz rfl rfl rfl rfl rfl rfl rfl (fun hc=>PEv.load j_ vQ (hB1.Ad rfl)) ?_
 refine Jz rfl rfl rfl rfl rfl rfl rfl (fun hc=>PEv.eql vQ vQ) ?_
 refine LW.gr rfl (fun hc=>PEv.C0 vQ (fun hp=>(by first|exact .const _|exact .tmp rfl|exact .cond rfl (by first|assumption|simp_all)))) ?_
 refine U (.po rfl (fun hp=>(by first|exact .const _|exact .tmp rfl|exact .cond rfl (by first|assumption|simp_all)))) ?_
 refine LW.A rfl (Af (Al ?_))
 refine KW.q ?_
 exact⟨rfl,hW⟩
theorem aK(c:Cond)(w:World):Ret prog 160 #[.agg c.cells] w fun r w'=>r=.bool (!c.met)∧Up w w':=by
 have hW:=Up.refl w
 refine cT 6 func160 rfl ?_
 refine Ae ?_
 refine Aq (.bA rfl) rfl ?_
 rintro _ w1 ⟨B1,rfl,NB1⟩
 have eB1:=NB1.at_
 have zB1:=NB1.size
 replace hW:=hW.up NB1.up
 have hB1:=NB1.blk
 refine Ay (Am (Aa ?_))
 refine U (.lc rfl (hB1.agg)) ?_
 refine A3 (eC (.o rfl) (wN)) rfl (fU _ _) ?_
 rintro _ w2 ⟨rfl,uw2⟩
 have zw2:=uw2.size
 replace hW:=hW.up uw2
 replace hB1:=hB1.up uw2
 refine U (.n1 rfl) ?_
 refine LW.A rfl (Af (Al ?_))
 refine KW.q ?_
 exact⟨rfl,hW⟩
theorem Sr(v:Value)(xs:List Cond)(w:World)(h:Sl w v 3 Cond.cells xs)(hlen:xs.length≤1000):Ret prog 209 #[v,.func (.func 160) #[] #[]] w fun r w'=>(∃i:Int,r=vi i∧decide (0≤i)=xs.any fun c=> !c.met)∧Up w w':=by
 have hW:=Up.refl w
 obtain⟨w0,rfl,_⟩:=W0 w
 obtain⟨ad,cp,rfl,hE⟩:=h
 refine cT 19 func209 rfl ?_
 refine Ae (Ay (Am (Ae (I rfl ?_))))
 refine U (.Cn underlying152 (.t rfl)) ?_
 refine U (.move (.const _)) ?_
 refine Af (Ah ?_)
 refine CW.loop (σ:=Nat) (fun s w=>(s≤xs.length∧(xs.take s).any (fun c=> !c.met)=false)∧Els w ad 3 Cond.cells xs∧Up w0 w) (fun s=>[(0,.eq (.slice ad xs.length cp)),(1,.eq (.func (.func 160) #[] #[])),(7,.eq (vi (xs.length:Int))),(8,.eq (vi (s:Int)))]) (fun s=>xs.length-s) 0 ?_ ?_ ?_
 ·exact⟨⟨au _,by simp⟩,hE,hW⟩
 ·exact tQ
 rintro k w1 ⟨⟨hk,hA⟩,hE,hW⟩
 refine Ae ?_
 refine U (.l2 rfl rfl) ?_
 refine Am ?_
 refine CW.b rfl (fun h9=>?_) (fun h9=>?_)
 ·replace h9:=dQ h9
  refine Ai (Ac (Ak (Ah (Ae (I rfl (LW.A rfl (Am ?_)))))))
  obtain⟨x,hx⟩:=An (xs:=xs) (i:=k) oQ
  obtain⟨B,o,had,hcell⟩:=hE k x hx
  refine Aa (I rfl (I rfl (I rfl ?_)))
  refine U (.Ar underlying152 sizeOf150 (.t rfl) (.t rfl) oQ had) ?_
  refine U (.lc rfl (hcell)) ?_
  refine A3 (Fa (.t rfl) (.cu rfl) (wM)) rfl (aK _ _) ?_
  rintro _ w2 ⟨rfl,uw2⟩
  have zw2:=uw2.size
  replace hE:=hE.up uw2
  replace hW:=hW.up uw2
  refine Af ?_
  refine CW.b rfl (fun h16=>?_) (fun h16=>?_)
  ·replace h16:=dQ h16
   have hI:xs.any (fun c=> !c.met)=true:=gp.2 ⟨x,ae hx,by simpa using h16⟩
   refine Ae (I rfl (LW.A rfl (Af (Al (A7 (Au (Au (A7 (Au ?_)))))))))
   refine KW.q ?_
   first|exact⟨⟨_,rfl,by rw[hI];exact be oQ⟩,hW⟩|exact⟨⟨_,rfl,by rw[hA];rfl⟩,hW⟩
  replace h16:=dQ h16
  refine Ai (Aj (Ac (Aa ?_)))
  refine U (.ic rfl oQ) ?_
  refine I rfl (LW.nil (Av ?_))
  exact⟨k+1,⟨⟨by omega,by rw[Cs hx,List.any_append,hA];simpa using h16⟩,hE,hW⟩,tQ,by omega⟩
 replace h9:=dQ h9
 have:k=xs.length:=by omega
 subst this
 rw[bt]at hA
 refine A8 (Ab (Ab (Ao (Ac (Ae (Ay (Af (Al ?_))))))))
 refine KW.q ?_
 first|exact⟨⟨_,rfl,by rw[hI];exact be oQ⟩,hW⟩|exact⟨⟨_,rfl,by rw[hA];rfl⟩,hW⟩
theorem N9(v:Value)(xs:List Cond)(w:World)(h:Sl w v 3 Cond.cells xs)(hlen:xs.length≤1000):Ret prog 159 #[v,.func (.func 160) #[] #[]] w fun r w'=>r=.bool (xs.any fun c=> !c.met)∧Up w w':=by
 have hW:=Up.refl w
 refine cT 9 func159 rfl ?_
 refine Ae (Ay (Am (Aa (I rfl (I rfl ?_)))))
 refine A3 (eC (.u rfl rfl) (xJ)) rfl (Sr _ _ _ h hlen) ?_
 rintro _ w1 ⟨⟨i,rfl,hi⟩,uw1⟩
 have zw1:=uw1.size
 replace h:=h.up uw1
 replace hW:=hW.up uw1
 refine U (.geq (.t rfl) (.const _)) ?_
 refine LW.A rfl (Af (Al ?_))
 refine KW.q ?_
 exact⟨by rw[←hi],hW⟩
theorem Rf(v:Value)(xs:List Cond)(w:World)(h:Sl w v 3 Cond.cells xs)(hlen:xs.length≤1000):Ret prog 77 #[v] w fun r w'=>r=.bool (xs.all Cond.met)∧Up w w':=by
 have hW:=Up.refl w
 refine cT 6 func77 rfl ?_
 refine Ae (Ay (Am (Aa (I rfl ?_))))
 refine A3 (eC (.ct rfl (.cons (.func _) .nil)) (wL)) rfl (N9 _ _ _ h hlen) ?_
 rintro _ w1 ⟨rfl,uw1⟩
 have zw1:=uw1.size
 replace h:=h.up uw1
 replace hW:=hW.up uw1
 refine U (.n1 rfl) ?_
 refine LW.A rfl (Af (Al ?_))
 refine KW.q ?_
 exact⟨by rw[List.all_eq_not_any_not],hW⟩
theorem Tz(f:Fact)(p:Addr)(t:Int)(w:World):Ret prog 158 #[.agg (Fj f p),vi t] w fun r w'=>r=.bool (aJ f t)∧Up w w':=by
 have hW:=Up.refl w
 refine cT 23 func158 rfl ?_
 refine Ae ?_
 refine Aq (.bA rfl) rfl ?_
 rintro _ w1 ⟨B2,rfl,NB2⟩
 have eB2:=NB2.at_
 have zB2:=NB2.size
 replace hW:=hW.up NB2.up
 have hB2:=NB2.blk
 refine Ay (Am (Aa ?_))
 refine U (.fB 0 rfl) ?_
 refine U (.fB 0 rfl) ?_
 refine U (.lb rfl (hB2.Ad rfl)) ?_
 refine U (.eql (.t rfl) (.const _)) ?_
 refine I rfl ?_
 refine LW.gr rfl (fun hc=>PEv.fB 0 rfl) ?_
 refine LW.gr rfl (fun hc=>PEv.fieldAddr (off:=5) ke rfl rfl jw rfl vQ) ?_
 refine LW.gr rfl (fun hc=>PEv.load j_ vQ (hB2.Ad rfl)) ?_
 refine F5 rfl rfl ?_
 refine LW.gr rfl (fun hc=>PEv.leq vQ vQ) ?_
 refine U (.pa rfl (fun hp=>(by first|exact .const _|exact .tmp rfl|exact .cond rfl (by first|assumption|simp_all)))) ?_
 refine I rfl ?_
 refine F5 rfl rfl ?_
 refine LW.gr rfl (fun hc=>PEv.fB 0 rfl) ?_
 refine LW.gr rfl (fun hc=>PEv.fieldAddr (off:=6) ke rfl rfl jw rfl vQ) ?_
 refine LW.gr rfl (fun hc=>PEv.load j_ vQ (hB2.Ad rfl)) ?_
 refine LW.gr rfl (fun hc=>PEv.leq vQ vQ) ?_
 refine U (.pa rfl (fun hp=>(by first|exact .const _|exact .tmp rfl|exact .cond rfl (by first|assumption|simp_all)))) ?_
 refine LW.A rfl (Af (Al ?_))
 refine KW.q ?_
 exact⟨rfl,hW⟩
theorem Xq(Bb:Nat)(bc:Array Go.Value)(b:Base)(id t:Int)(w:World)(hb:Blk w Bb bc 35)(hC:BaseC w bc b)(hlen:b.Releases.length<9223372036854775807):Ret prog 78 #[.pointer (some ⟨Bb,0,none⟩),vi id,vi t] w fun r w'=>r=vi (Ep b.Releases id t)∧Up w w':=by
 have hW:=Up.refl w
 obtain⟨w0,rfl,_⟩:=W0 w
 refine cT 34 func78 rfl ?_
 refine Ae (Ay (Am (Ak ?_)))
 obtain⟨v7,h7,hr⟩:=hC.DF
 obtain⟨ad,cp,rfl,hE⟩:=hr
 refine Aa (I rfl ?_)
 refine U (.nc rfl) ?_
 refine U (.fB 7 rfl) ?_
 refine U (.lb rfl (hb.cell h7)) ?_
 refine U (.Cn jv (.t rfl)) ?_
 refine U (.move (.const _)) ?_
 refine Af (Ah ?_)
 refine CW.loop (σ:=Nat) (fun s w=>s≤b.Releases.length∧Els w ad 19 Fact.cells b.Releases∧Up w0 w) (fun s=>[(6,.eq (vi (Ep (b.Releases.take s) id t))),(1,.eq (vi id)),(2,.eq (vi t)),(12,.eq (.slice ad b.Releases.length cp)),(13,.eq (vi (b.Releases.length:Int))),(14,.eq (vi (s:Int)))]) (fun s=>b.Releases.length-s) 0 ?_ ?_ ?_
 ·exact⟨au _,hE,hW⟩
 ·exact tQ
 rintro k w1 ⟨hk,hE,hW⟩
 refine Ae ?_
 refine U (.l2 rfl rfl) ?_
 refine Am ?_
 refine CW.b rfl (fun h15=>?_) (fun h15=>?_)
 ·replace h15:=dQ h15
  refine Ai (Ac (Ak (Ah (Ak ?_))))
  obtain⟨x,hx⟩:=An (xs:=b.Releases) (i:=k) oQ
  obtain⟨B,o,had,hcell⟩:=hE k x hx
  subst had
  refine Aa ?_
  refine U (.indexAddr jv jz (.t rfl) (.t rfl) oQ) ?_
  refine U (.lc rfl (hcell)) ?_
  refine Aq (.Bt j4) rfl ?_
  rintro _ w2 ⟨B8,rfl,MB8⟩
  refine Cb (.Ca jz rfl (.t rfl) (.t rfl) eQ MB8.blk rfl) ?_
  intro w3 LB8
  have NB8:=MB8.set LB8
  clear LB8 MB8
  have eB8:=NB8.at_
  have zB8:=NB8.size
  replace hE:=hE.up NB8.up
  replace hW:=hW.up NB8.up
  have hB8:=NB8.blk
  refine Am (Aa ?_)
  refine U (.fB 8 rfl) ?_
  refine U (.lb rfl (hB8.Ad rfl)) ?_
  refine I rfl ?_
  refine U (.eql (.t rfl) (.t rfl)) ?_
  refine I rfl ?_
  refine LW.gr rfl (fun hc=>PEv.fB 5 rfl) ?_
  refine LW.gr rfl (fun hc=>PEv.load j_ vQ (hB8.Ad rfl)) ?_
  refine F5 rfl rfl ?_
  refine LW.gr rfl (fun hc=>PEv.leq vQ vQ) ?_
  refine U (.pa rfl (fun hp=>(by first|exact .const _|exact .tmp rfl|exact .cond rfl (by first|assumption|simp_all)))) ?_
  refine Af ?_
  refine CW.b rfl (fun h27=>?_) (fun h27=>?_)
  ·replace h27:=dQ h27
   have he:Ep (b.Releases.take (k+1)) id t=uD (Ep (b.Releases.take k) id t) x.Parties:=by rw[Cs hx,Ks];exact ap h27
   refine Aa (I rfl ?_)
   refine U (.fB 17 rfl) ?_
   refine U (.lb rfl (hB8.Ad rfl)) ?_
   refine U (.uG (.t rfl) (.t rfl)) ?_
   refine LW.A rfl (LW.nil (Aj (Ac (Aa ?_))))
   refine U (.ic rfl oQ) ?_
   refine I rfl (LW.nil (Av ?_))
   exact⟨k+1,⟨by omega,hE,hW⟩,⟨by rw[he];rfl,rfl,rfl,rfl,rfl,rfl,trivial⟩,by omega⟩
  replace h27:=dQ h27
  have he:Ep (b.Releases.take (k+1)) id t=Ep (b.Releases.take k) id t:=by rw[Cs hx,Ks];exact am (by rw[h27];exact b7)
  refine Ai (Aj (Ac (Aa ?_)))
  refine U (.ic rfl oQ) ?_
  refine I rfl (LW.nil (Av ?_))
  exact⟨k+1,⟨by omega,hE,hW⟩,⟨by rw[he];rfl,rfl,rfl,rfl,rfl,rfl,trivial⟩,by omega⟩
 replace h15:=dQ h15
 refine A8 (Ab (Ab (Ao (Ac (Ae (I rfl (LW.A rfl (Af (Al ?_)))))))))
 refine KW.q ?_
 exact⟨by rw[show k=b.Releases.length by omega,bt],hW⟩
theorem aL(f:Fact)(Bb:Nat)(bc:Array Go.Value)(b:Base)(t:Int)(w:World)(hb:Blk w Bb bc 35)(hC:BaseC w bc b)(hlen:b.Releases.length<9223372036854775807):Ret prog 26 #[.agg (Fj f ⟨Bb,0,none⟩),vi t] w fun r w'=>r=.bool (lC f b.Releases t)∧Up w w':=by
 have hW:=Up.refl w
 refine cT 17 func26 rfl ?_
 refine Ae ?_
 refine Aq (.bA rfl) rfl ?_
 rintro _ w1 ⟨B2,rfl,NB2⟩
 have eB2:=NB2.at_
 have zB2:=NB2.size
 replace hb:=hb.up NB2.up
 replace hC:=hC.up NB2.up
 replace hW:=hW.up NB2.up
 have hB2:=NB2.blk
 refine Ay (Am ?_)
 refine C7 kQ kQ rfl rfl ?_
 refine J (.fB 0 rfl) ?_
 refine J (.fB 17 rfl) ?_
 refine J (.lb rfl (hB2.Ad rfl)) ?_
 refine J (.fB 19 rfl) ?_
 refine J (.lb rfl (hB2.Ad rfl)) ?_
 refine J (.fB 0 rfl) ?_
 refine J (.fB 1 rfl) ?_
 refine J (.lb rfl (hB2.Ad rfl)) ?_
 refine J (.mv rfl) ?_
 refine HW.c (fun a w _ ha=>Bm (.ct rfl (.ct rfl (.cu rfl))) (BP) a ha) rfl rfl (fun w hu=>Xq _ _ _ _ _ _ (hb.up hu) (hC.up hu) hlen) ?_
 refine J (.iB (.t rfl) (.t rfl)) ?_
 refine J (.eql (.t rfl) (.const _)) ?_
 refine J (.assign (.t rfl)) ?_
 refine HW.nil ?_
 intro w2 uw2
 have zw2:=uw2.size
 replace hb:=hb.up uw2
 replace hC:=hC.up uw2
 replace hW:=hW.up uw2
 replace hB2:=hB2.up uw2
 refine Ac (Al ?_)
 refine KW.q ?_
 exact⟨rfl,hW⟩
theorem O0(f:Fact)(Bb:Nat)(bc:Array Go.Value)(b:Base)(wafer time:Int)(w:World)(hb:Blk w Bb bc 35)(hC:BaseC w bc b)(hlen:b.Lots.length<9223372036854775807):Ret prog 76 #[.agg (Fj f ⟨Bb,0,none⟩),vi wafer,vi time] w fun r w'=>r=.bool (Rb f b.Lots wafer time)∧Up w w':=by
 have hW:=Up.refl w
 refine cT 36 func76 rfl ?_
 refine Ae ?_
 refine Aq (.bA rfl) rfl ?_
 rintro _ w1 ⟨B3,rfl,NB3⟩
 have eB3:=NB3.at_
 have zB3:=NB3.size
 replace hb:=hb.up NB3.up
 replace hC:=hC.up NB3.up
 replace hW:=hW.up NB3.up
 have hB3:=NB3.blk
 refine Ay (Am (Aa ?_))
 refine U (.fB 19 rfl) ?_
 refine U (.lb rfl (hB3.Ad rfl)) ?_
 refine U (.nc rfl) ?_
 refine U (.Hj lq k6 (hC.size) (.t rfl) (hb.agg)) ?_
 refine I rfl (I rfl ?_)
 refine A3 (eC (.ct rfl (.ct rfl (.cu rfl))) (zP)) rfl (Vc _ _ _ _ _ hC hlen) ?_
 rintro _ w2 ⟨rfl,uw2⟩
 have zw2:=uw2.size
 replace hb:=hb.up uw2
 replace hC:=hC.up uw2
 replace hW:=hW.up uw2
 replace hB3:=hB3.up uw2
 refine I rfl (U (.xt rfl rfl) (U (.xt rfl rfl) (LW.A rfl (LW.A rfl (Am ?_)))))
 cases hq2:aJ f time with
 |false=>
  refine Aa ?_
  refine U (.lc rfl (hB3.agg)) ?_
  refine I rfl ?_
  refine A3 (eC (.u rfl rfl) (qI)) rfl (Tz _ _ _ _) ?_
  rintro _ w3 ⟨rfl,uw3⟩
  have zw3:=uw3.size
  replace hb:=hb.up uw3
  replace hC:=hC.up uw3
  replace hW:=hW.up uw3
  replace hB3:=hB3.up uw3
  rw[hq2]
  refine I rfl ?_
  refine Bh ?_
  refine Bh ?_
  refine Bh ?_
  refine Bh ?_
  refine Bh ?_
  refine Bh ?_
  refine Bh ?_
  refine Bh ?_
  refine Bh ?_
  refine Bh ?_
  refine Bh ?_
  refine Bh ?_
  refine U (.C0 (b:=false) (.t rfl) (fun hp=>absurd (show false=true from hp) cQ)) ?_
  refine LW.A rfl (Af (Al ?_))
  refine KW.q ?_
  exact⟨by simp[Rb,hq2],hW⟩
 |true=>
  refine Aa ?_
  refine U (.lc rfl (hB3.agg)) ?_
  refine I rfl ?_
  refine A3 (eC (.u rfl rfl) (qI)) rfl (Tz _ _ _ _) ?_
  rintro _ w4 ⟨rfl,uw4⟩
  have zw4:=uw4.size
  replace hb:=hb.up uw4
  replace hC:=hC.up uw4
  replace hW:=hW.up uw4
  replace hB3:=hB3.up uw4
  rw[hq2]
  refine I rfl ?_
  refine Ap ?_
  refine U (.fB 0 rfl) ?_
  refine Ap ?_
  refine U (.fB 7 rfl) ?_
  refine Ap ?_
  refine U (.lb rfl (hB3.Ad rfl)) ?_
  refine Ap ?_
  refine I rfl ?_
  refine Ap ?_
  refine U (.build (cs:=Cond.cells (Cond.mk f.Wafer 0 wafer)) lj li Ei (.ct rfl (.cons (.const _) (.cu rfl))) rfl) ?_
  refine Ap ?_
  refine U (.fB 0 rfl) ?_
  refine Ap ?_
  refine U (.fB 9 rfl) ?_
  refine Ap ?_
  refine U (.lb rfl (hB3.Ad rfl)) ?_
  refine Ap ?_
  refine I rfl ?_
  refine Ap ?_
  refine U (.build (cs:=Cond.cells (Cond.mk f.Lot 0 (Gb b.Lots wafer time).1)) lj li Ei (.ct rfl (.cons (.const _) (.cu rfl))) rfl) ?_
  refine Ap ?_
  refine Aq (.buildSlice (xs:=[Cond.mk f.Wafer 0 wafer,Cond.mk f.Lot 0 (Gb b.Lots wafer time).1]) (enc:=Cond.cells) (mk:=fun c=>.agg c.cells) underlying152 sizeOf150 li rfl cQ (fun _=>rfl) (fun _=>rfl) (.ct rfl (.cu rfl)) rfl) rfl ?_
  rintro _ w5 ⟨B33,cB33,rfl,NB33,yB33,xB33⟩
  have eB33:=NB33.at_
  have zB33:=NB33.size
  replace hb:=hb.up NB33.up
  replace hC:=hC.up NB33.up
  replace hW:=hW.up NB33.up
  replace hB3:=hB3.up NB33.up
  have hB33:=NB33.blk
  have hE33:=xB33
  refine Ap ?_
  refine A3 (eC (.o rfl) (uU)) rfl (Rf _ _ _ (Aw hE33) (by simp)) ?_
  rintro _ w6 ⟨rfl,uw6⟩
  have zw6:=uw6.size
  replace hb:=hb.up uw6
  replace hC:=hC.up uw6
  replace hW:=hW.up uw6
  replace hB3:=hB3.up uw6
  replace hB33:=hB33.up uw6
  replace hE33:=hE33.up uw6
  refine U (.pa rfl (fun hp=>(by first|exact .const _|exact .tmp rfl|exact .cond rfl (by first|assumption|simp_all)))) ?_
  refine LW.A rfl (Af (Al ?_))
  refine KW.q ?_
  exact⟨by simp[Rb,hq2],hW⟩
theorem T0(f:Fact)(Bb:Nat)(bc:Array Go.Value)(b:Base)(a:GAct)(w:World)(hb:Blk w Bb bc 35)(hC:BaseC w bc b)(hlen:b.Lots.length<9223372036854775807):Ret prog 25 #[.agg (Fj f ⟨Bb,0,none⟩),.agg a.cells] w fun r w'=>r=.bool (Kr f b.Lots a)∧Up w w':=by
 have hW:=Up.refl w
 refine cT 45 func25 rfl ?_
 refine Ae ?_
 refine Aq (.bA rfl) rfl ?_
 rintro _ w1 ⟨B2,rfl,NB2⟩
 have eB2:=NB2.at_
 have zB2:=NB2.size
 replace hb:=hb.up NB2.up
 replace hC:=hC.up NB2.up
 replace hW:=hW.up NB2.up
 have hB2:=NB2.blk
 refine Aq (.bA rfl) rfl ?_
 rintro _ w2 ⟨B3,rfl,NB3⟩
 have eB3:=NB3.at_
 have zB3:=NB3.size
 replace hb:=hb.up NB3.up
 replace hC:=hC.up NB3.up
 replace hW:=hW.up NB3.up
 replace hB2:=hB2.up NB3.up
 have hB3:=NB3.blk
 refine Ay (Am ?_)
 cases hq1:Rb f b.Lots a.Wafer a.Time with
 |false=>
  refine Aa ?_
  refine U (.lc rfl (hB2.agg)) ?_
  refine U (.fB 0 rfl) ?_
  refine U (.lb rfl (hB3.Ad rfl)) ?_
  refine U (.fB 6 rfl) ?_
  refine U (.lb rfl (hB3.Ad rfl)) ?_
  refine A3 (eC (.ct rfl (.ct rfl (.cu rfl))) (uT)) rfl (O0 _ _ _ _ _ _ _ hb hC hlen) ?_
  rintro _ w3 ⟨rfl,uw3⟩
  have zw3:=uw3.size
  replace hb:=hb.up uw3
  replace hC:=hC.up uw3
  replace hW:=hW.up uw3
  replace hB2:=hB2.up uw3
  replace hB3:=hB3.up uw3
  rw[hq1]
  refine I rfl ?_
  refine Bh ?_
  refine Bh ?_
  refine Bh ?_
  refine Bh ?_
  refine Bh ?_
  refine Bh ?_
  refine Bh ?_
  refine Bh ?_
  refine Bh ?_
  refine Bh ?_
  refine Bh ?_
  refine Bh ?_
  refine Bh ?_
  refine Bh ?_
  refine Bh ?_
  refine Bh ?_
  refine Bh ?_
  refine Bh ?_
  refine Bh ?_
  refine Bh ?_
  refine Bh ?_
  refine Bh ?_
  refine Bh ?_
  refine Bh ?_
  refine Bh ?_
  refine Bh ?_
  refine Bh ?_
  refine Bh ?_
  refine Bh ?_
  refine Bh ?_
  refine Bh ?_
  refine Bh ?_
  refine U (.C0 (b:=false) (.t rfl) (fun hp=>absurd (show false=true from hp) cQ)) ?_
  refine LW.A rfl (Af (Al ?_))
  refine KW.q ?_
  exact⟨by simp[Kr,hq1],hW⟩
 |true=>
  refine Aa ?_
  refine U (.lc rfl (hB2.agg)) ?_
  refine U (.fB 0 rfl) ?_
  refine U (.lb rfl (hB3.Ad rfl)) ?_
  refine U (.fB 6 rfl) ?_
  refine U (.lb rfl (hB3.Ad rfl)) ?_
  refine A3 (eC (.ct rfl (.ct rfl (.cu rfl))) (uT)) rfl (O0 _ _ _ _ _ _ _ hb hC hlen) ?_
  rintro _ w4 ⟨rfl,uw4⟩
  have zw4:=uw4.size
  replace hb:=hb.up uw4
  replace hC:=hC.up uw4
  replace hW:=hW.up uw4
  replace hB2:=hB2.up uw4
  replace hB3:=hB3.up uw4
  rw[hq1]
  refine I rfl ?_
  refine Ap ?_
  refine U (.fB 0 rfl) ?_
  refine Ap ?_
  refine U (.fB 11 rfl) ?_
  refine Ap ?_
  refine U (.lb rfl (hB2.Ad rfl)) ?_
  refine Ap ?_
  refine U (.fB 2 rfl) ?_
  refine Ap ?_
  refine U (.lb rfl (hB3.Ad rfl)) ?_
  refine Ap ?_
  refine U (.build (cs:=Cond.cells (Cond.mk f.Tool 1 a.Tool)) lj li Ei (.ct rfl (.cons (.const _) (.cu rfl))) rfl) ?_
  refine Ap ?_
  refine U (.fB 0 rfl) ?_
  refine Ap ?_
  refine U (.fB 12 rfl) ?_
  refine Ap ?_
  refine U (.lb rfl (hB2.Ad rfl)) ?_
  refine Ap ?_
  refine U (.fB 3 rfl) ?_
  refine Ap ?_
  refine U (.lb rfl (hB3.Ad rfl)) ?_
  refine Ap ?_
  refine U (.build (cs:=Cond.cells (Cond.mk f.Chamber 1 a.Chamber)) lj li Ei (.ct rfl (.cons (.const _) (.cu rfl))) rfl) ?_
  refine Ap ?_
  refine U (.fB 0 rfl) ?_
  refine Ap ?_
  refine U (.fB 13 rfl) ?_
  refine Ap ?_
  refine U (.lb rfl (hB2.Ad rfl)) ?_
  refine Ap ?_
  refine U (.fB 1 rfl) ?_
  refine Ap ?_
  refine U (.lb rfl (hB3.Ad rfl)) ?_
  refine Ap ?_
  refine U (.build (cs:=Cond.cells (Cond.mk f.Step 1 a.Step)) lj li Ei (.ct rfl (.cons (.const _) (.cu rfl))) rfl) ?_
  refine Ap ?_
  refine U (.fB 0 rfl) ?_
  refine Ap ?_
  refine U (.fB 14 rfl) ?_
  refine Ap ?_
  refine U (.lb rfl (hB2.Ad rfl)) ?_
  refine Ap ?_
  refine U (.fB 4 rfl) ?_
  refine Ap ?_
  refine U (.lb rfl (hB3.Ad rfl)) ?_
  refine Ap ?_
  refine U (.build (cs:=Cond.cells (Cond.mk f.Recipe 0 a.Recipe)) lj li Ei (.ct rfl (.cons (.const _) (.cu rfl))) rfl) ?_
  refine Ap ?_
  refine U (.fB 0 rfl) ?_
  refine Ap ?_
  refine U (.fB 15 rfl) ?_
  refine Ap ?_
  refine U (.lb rfl (hB2.Ad rfl)) ?_
  refine Ap ?_
  refine U (.fB 5 rfl) ?_
  refine Ap ?_
  refine U (.lb rfl (hB3.Ad rfl)) ?_
  refine Ap ?_
  refine U (.build (cs:=Cond.cells (Cond.mk f.Revision 0 a.Revision)) lj li Ei (.ct rfl (.cons (.const _) (.cu rfl))) rfl) ?_
  refine Ap ?_
  refine Aq (.buildSlice (xs:=[Cond.mk f.Tool 1 a.Tool,Cond.mk f.Chamber 1 a.Chamber,Cond.mk f.Step 1 a.Step,Cond.mk f.Recipe 0 a.Recipe,Cond.mk f.Revision 0 a.Revision]) (enc:=Cond.cells) (mk:=fun c=>.agg c.cells) underlying152 sizeOf150 li rfl cQ (fun _=>rfl) (fun _=>rfl) (.ct rfl (.ct rfl (.ct rfl (.ct rfl (.cu rfl))))) rfl) rfl ?_
  rintro _ w5 ⟨B42,cB42,rfl,NB42,yB42,xB42⟩
  have eB42:=NB42.at_
  have zB42:=NB42.size
  replace hb:=hb.up NB42.up
  replace hC:=hC.up NB42.up
  replace hW:=hW.up NB42.up
  replace hB2:=hB2.up NB42.up
  replace hB3:=hB3.up NB42.up
  have hB42:=NB42.blk
  have hE42:=xB42
  refine Ap ?_
  refine A3 (eC (.o rfl) (uU)) rfl (Rf _ _ _ (Aw hE42) (by simp)) ?_
  rintro _ w6 ⟨rfl,uw6⟩
  have zw6:=uw6.size
  replace hb:=hb.up uw6
  replace hC:=hC.up uw6
  replace hW:=hW.up uw6
  replace hB2:=hB2.up uw6
  replace hB3:=hB3.up uw6
  replace hB42:=hB42.up uw6
  replace hE42:=hE42.up uw6
  refine U (.pa rfl (fun hp=>(by first|exact .const _|exact .tmp rfl|exact .cond rfl (by first|assumption|simp_all)))) ?_
  refine LW.A rfl (Af (Al ?_))
  refine KW.q ?_
  exact⟨by simp[Kr,hq1],hW⟩
theorem oY(ad:Addr)(w:World):Ret prog 24 #[.pointer (some ad)] w fun r w'=>(∃B,r=.func (.func 75) #[] #[.pointer (some ⟨B,0,none⟩)]∧Blk w' B #[.pointer (some ad)] 80∧w.heap.size≤B)∧Up w w':=by
 have hW:=Up.refl w
 refine cT 4 func24 rfl ?_
 refine Ae ?_
 refine Aq (.O3 (.t rfl) rfl) rfl ?_
 rintro _ w1 ⟨B1,rfl,NB1⟩
 have eB1:=NB1.at_
 have zB1:=NB1.size
 replace hW:=hW.up NB1.up
 have hB1:=NB1.blk
 refine Ay (Am (Aa ?_))
 refine U (.makeFunc (.cu rfl)) ?_
 refine LW.A rfl (Af (Al ?_))
 refine KW.q ?_
 exact⟨⟨_,rfl,hB1,by omega⟩,hW⟩
theorem lD(X Y:Nat→Prop)(B1 Bb:Nat)(bc:Array Go.Value)(b:Base)(w1 w:World)(hU0:Up w1 w)(hX:∀i,X i→w1.heap.size≤i)(hYY:∀i,Y i→w1.heap.size≤i)(hQX:¬X B1)(hQ0:Blk w B1 #[.pointer (some ⟨Bb,0,none⟩)] 80)(hb1:Blk w1 Bb bc 35)(hC1:BaseC w1 bc b)(hlen:b.Holds.length<9223372036854775807):
   IterS prog 75 #[.pointer (some ⟨B1,0,none⟩)] (fun f=>#[.agg (Fj f ⟨Bb,0,none⟩)]) X Y (fun ys=>ys=b.Holds.filter Gx) (fun pre=>pre<+:b.Holds.filter Gx) (b.Holds.filter Gx).length w:=by
 have z1:=hU0.size
 refine IterS.of ?_
 intro lp J Jx w0 hUw _ hY hJ
 obtain⟨Bd,hBd⟩:∃Bd,Bd=w0.heap.size:=⟨_,rfl⟩
 rw[←hBd]at hJ hY
 clear hBd
 have hQ:=hQ0.up hUw
 have hU:=hU0.trans hUw
 refine cT 26 func75 rfl ?_
 refine Ak ?_
 obtain⟨v6,h6,hr⟩:=hC1.DE
 obtain⟨ad,cp,rfl,hE1⟩:=hr
 refine Aa ?_
 refine U (.lb rfl (hQ.Ad rfl)) ?_
 refine U (.nc rfl) ?_
 refine U (.fB 6 rfl) ?_
 refine U (.lb rfl ((hb1.up hU).cell h6)) ?_
 refine U (.Cn jv (.t rfl)) ?_
 refine U (.move (.const _)) ?_
 refine Af (Ah ?_)
 refine CW.loop (σ:=Nat) (fun s w=>s≤b.Holds.length∧Jw Bd J ((b.Holds.take s).filter Gx) w∧Up w1 w∧Blk w B1 #[.pointer (some ⟨Bb,0,none⟩)] 80) (fun s=>[(0,.eq (.func (.yield lp) #[] #[])),(1,.eq (.pointer (some ⟨B1,0,none⟩))),(8,.eq (.slice ad b.Holds.length cp)),(9,.eq (vi (b.Holds.length:Int))),(10,.eq (vi (s:Int)))]) (fun s=>b.Holds.length-s) 0 ?_ ?_ ?_
 ·exact⟨au _,hJ,hU,hQ⟩
 ·exact tQ
 rintro k w1 ⟨hk,hJ,hU,hQ⟩
 refine Ae ?_
 refine U (.l2 rfl rfl) ?_
 refine Am ?_
 refine CW.b rfl (fun h11=>?_) (fun h11=>?_)
 ·replace h11:=dQ h11
  refine Ai (Ac (Ak (Ah (Ak ?_))))
  obtain⟨x,hx⟩:=An (xs:=b.Holds) (i:=k) oQ
  obtain⟨B,o,had,hc1⟩:=hE1 k x hx
  subst had
  have hcell:=hc1.up hU
  refine Aa ?_
  refine U (.indexAddr jv jz (.t rfl) (.t rfl) oQ) ?_
  refine U (.lc rfl (hcell)) ?_
  refine Aq (.Bt j4) rfl ?_
  rintro _ w2 ⟨B4,rfl,MB4⟩
  refine Cb (.Ca jz rfl (.t rfl) (.t rfl) eQ MB4.blk rfl) ?_
  intro w3 LB4
  have NB4:=MB4.set LB4
  clear LB4 MB4
  have eB4:=NB4.at_
  have zB4:=NB4.size
  replace hJ:=hJ.up NB4.up
  replace hU:=hU.up NB4.up
  replace hQ:=hQ.up NB4.up
  have hB4:=NB4.blk
  refine Am ?_
  cases hq3:Gx x with
  |false=>
   refine Aa ?_
   refine U (.fB 0 rfl) ?_
   refine U (.lb rfl (hB4.Ad rfl)) ?_
   refine U (.eql (.t rfl) (.const _)) ?_
   refine I rfl ?_
   rw[show decide (x.Kind=7)=false from hq3]
   refine Bh ?_
   refine Bh ?_
   refine Bh ?_
   refine Bh ?_
   refine Bh ?_
   refine Bh ?_
   refine U (.C0 (b:=false) (.t rfl) (fun hp=>absurd (show false=true from hp) cQ)) ?_
   refine Af ?_
   refine CW.b rfl (fun h24=>?_) (fun h24=>?_)
   ·replace h24:=dQ h24
    cases h24
   replace h24:=dQ h24
   refine Ai (Aj (Ac (Aa ?_)))
   refine U (.ic rfl oQ) ?_
   refine I rfl (LW.nil (Av ?_))
   first|exact⟨k+1,⟨by omega,hJ2,hU,hQ⟩,tQ,by omega⟩|exact⟨k+1,⟨by omega,by rw[Pd hx hq3];exact hJ,hU,hQ⟩,tQ,by omega⟩
  |true=>
   refine Aa ?_
   refine U (.fB 0 rfl) ?_
   refine U (.lb rfl (hB4.Ad rfl)) ?_
   refine U (.eql (.t rfl) (.const _)) ?_
   refine I rfl ?_
   rw[show decide (x.Kind=7)=true from hq3]
   refine Ap ?_
   refine I rfl ?_
   refine Ap ?_
   refine U (.lc rfl (hB4.agg)) ?_
   refine Ap ?_
   refine U (.lb rfl (hQ.Ad rfl)) ?_
   refine Ap ?_
   refine U (.build (cs:=Fj x ⟨Bb,0,none⟩) underlying91 zeroValue91 R6 (.ct rfl (.cu rfl)) (dP _ _ rfl)) ?_
   refine Ap ?_
   refine LW.y (.t rfl) (.cu rfl) rfl rfl (hY _ x _ hJ (bE hx hq3)) ?_
   rintro _ w4 ⟨y,rfl,hcase⟩
   refine Ap ?_
   refine U (.n1 rfl) ?_
   refine U (.pa rfl (fun hp=>(by first|exact .const _|exact .tmp rfl|exact .cond rfl (by first|assumption|simp_all)))) ?_
   refine Af ?_
   refine CW.b rfl (fun h24=>?_) (fun h24=>?_)
   ·replace h24:=dQ h24
    have hy:y=false:=by simpa using h24
    subst hy
    obtain⟨_,hJx⟩:=hcase.resolve_left (by simp)
    refine Al (A7 (Au (Au (A7 ?_))))
    refine Fm rfl ⟨_,rfl,?_⟩
    first|exact .inl ⟨_,rfl,by rw[hkk,bt]at hJ;exact hJ.j⟩|exact .inr ⟨_,by rw[←I1 hx hq3];exact J2 _ _ _,hJx⟩
   replace h24:=dQ h24
   have hy:y=true:=by simpa using h24
   subst hy
   obtain⟨_,hJ2,hN⟩:=hcase.resolve_right (by simp)
   replace hU:=hU.kx hN hX hYY z1
   replace hQ:=hQ.kx hN hQX
   rw[←I1 hx hq3]at hJ2
   refine Ai (Aj (Ac (Aa ?_)))
   refine U (.ic rfl oQ) ?_
   refine I rfl (LW.nil (Av ?_))
   first|exact⟨k+1,⟨by omega,hJ2,hU,hQ⟩,tQ,by omega⟩|exact⟨k+1,⟨by omega,by rw[Pd hx hq3];exact hJ,hU,hQ⟩,tQ,by omega⟩
 replace h11:=dQ h11
 have hkk:k=b.Holds.length:=by omega
 refine A8 (Ab (Ab (Ao ?_)))
 refine C1 rfl ⟨_,rfl,?_⟩
 first|exact .inl ⟨_,rfl,by rw[hkk,bt]at hJ;exact hJ.j⟩|exact .inr ⟨_,by rw[←I1 hx hq3];exact J2 _ _ _,hJx⟩
end Go.Proofs.YtnocngnlpgikaaaGreatDoor
