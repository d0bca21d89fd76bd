import Derived.Test.YtnpgbbaniknpkaaGreatDoorKR113
import Derived.ChangeKeysEq
namespace Go.Wx
open Go.RowKit in
theorem Tm{P:Program}{n:Nat}{l:Env}{w:World}{fn:Func}{RR:Ending→World→Prop}{t u:Tmp}{T:TypeId}{B k:Nat}{cs:Array Go.Value}{x:Go.Value}(hr:fn.results=#[.cell t T,.tmp u])(hv:lk l t=some (.eq (.pointer (some ⟨B,0,none⟩))))(hu:lk l u=some (.eq x))(hT:∀w,(isAgg T).run P w=.ok true w)(hs:∀w,(sizeOf T).run P w=.ok k w)(hk:cs.size=k)
   (hc:AggAt w B 0 cs)(hR:RR (.returned (.tuple #[.agg cs,x])) w):KW n [] (bodyPost P fn RR .ret) l w:=fun a ha=>
 ⟨ha.defers,.tuple #[.agg cs,x],by
   have h1:a.tmps.getD t undef=.pointer (some ⟨B,0,none⟩):=ha.val _ _ hv
   have h2:a.tmps.getD u undef=x:=ha.val _ _ hu
   rw[bm]at h1 h2
   simp[results,hr,h1,h2,asAddr,F2 hT hs hk hc],hR⟩
def Io:Fact:=Jm 0 0 0 false
theorem lW{p:Fact→Bool}{l:List Fact}{k:Nat}{x:Fact}(h:l[k]?=some x)(hk:∀y∈l.take k,p y=false)(hx:p x=false):∀y∈l.take (k+1),p y=false:=fun y hy=>by
 rw[Cr h]at hy
 rcases bt.1 hy with hy|hy
 · exact hk y hy
 cases bn.1 hy;exact hx
theorem vL{p:Fact→Bool}{l:List Fact}{k:Nat}{x:Fact}(h:l[k]?=some x)(hk:∀y∈l.take k,p y=false)(hx:p x=true):l.find? p=some x:=by
 have hlt:=(am.1 h).1
 have e:l=l.take k++x::l.drop (k+1):=by
   have h1:l.drop k=x::l.drop (k+1):=by
     rw[fj hlt,(am.1 h).2]
   rw[←h1,er]
 rw[e,List.find?_append,jh.2 (fun y hy=>by rw[hk y hy];exact ca),List.find?_cons,hx]
 rfl
theorem vM{p:Fact→Bool}{l:List Fact}(h:∀y∈l,p y=false):l.find? p=none:=jh.2 (fun y hy=>by rw[h y hy];exact ca)
def KJ(p:Fact→Bool)(l:List Fact)(i:Int):Prop:=(∃k x,i=((k:Nat):Int)∧l[k]?=some x∧p x=true∧∀y∈l.take k,p y=false)∨(i= -1∧∀y∈l,p y=false)
def iU(a c r v t:Int)(f:Fact):Bool:=(f.Tool==a&&(f.Chamber==c&&(f.Recipe==r&&(f.Revision==v&&true))))&&decide (f.Time≤t)&&decide (t≤f.Until)
def Fo(b:Base)(a c r v t:Int):Bool:=(b.Qualified.find? (iU a c r v t)).isSome
theorem qX{p:Fact→Bool}{l:List Fact}{k:Nat}{x:Fact}(h:l[k]?=some x)(hx:p x=true):(l.take (k+1)).filter p=(l.take k).filter p++[x]:=by
 rw[Cr h,cz,dz,bh hx];rfl
theorem yJ{p:Fact→Bool}{l:List Fact}{k:Nat}{x:Fact}(h:l[k]?=some x)(hx:p x=false):(l.take (k+1)).filter p=(l.take k).filter p:=by
 rw[Cr h,cz,dz,aq (by rw[hx];exact ca)];simp
theorem aJ(p:Fact→Bool)(l:List Fact)(k:Nat):((l.take k).filter p).length≤k:=bu (ef _ _) (by rw[cc];omega)
def Cj(c n:Int):Int:=(if c<0 then IntKind.i64.wrap (-(IntKind.i64.wrap (c+1)))else c).tmod n
def Ip(b:Base)(j:Nat):List Fact:=[b.Processes,b.Measures,b.Swaps,b.Lots,b.Flows,b.Qualified,b.Holds,b.Releases,b.Resets,b.Targets,b.Gaps].getD j []
theorem O8{j:Nat}(h:j<11):j=0∨j=1∨j=2∨j=3∨j=4∨j=5∨j=6∨j=7∨j=8∨j=9∨j=10:=by omega
theorem BaseC.at_{w:World}{bc:Array Go.Value}{b:Base}(h:BaseC w bc b){j:Nat}(hj:j<11):∃v,bc[j]?=some v∧Sl w v 19 Fact.cells (Ip b j):=by
 obtain⟨v0,v1,v2,v3,v4,v5,v6,v7,v8,v9,v10,e,h0,h1,h2,h3,h4,h5,h6,h7,h8,h9,h10⟩:=h
 subst e
 rcases O8 hj with rfl|rfl|rfl|rfl|rfl|rfl|rfl|rfl|rfl|rfl|rfl
 · exact⟨v0,rfl,h0⟩
 · exact⟨v1,rfl,h1⟩
 · exact⟨v2,rfl,h2⟩
 · exact⟨v3,rfl,h3⟩
 · exact⟨v4,rfl,h4⟩
 · exact⟨v5,rfl,h5⟩
 · exact⟨v6,rfl,h6⟩
 · exact⟨v7,rfl,h7⟩
 · exact⟨v8,rfl,h8⟩
 · exact⟨v9,rfl,h9⟩
 exact⟨v10,rfl,h10⟩
def short(b:Base):Prop:=∀j,(Ip b j).length≤100000
theorem fC(l:List Fact)(d:Int):(Hm (Hl l d)).length≤l.length:=by unfold Hm;rw[dv];exact(Ry d l).2
theorem R0(l:List Fact)(d:Int){j:Nat}(hj:j<11):Ip (Ll l d) j=Ei [((j+1:Nat):Int)] (Hm (Hl l d)) j:=by
 rcases O8 hj with rfl|rfl|rfl|rfl|rfl|rfl|rfl|rfl|rfl|rfl|rfl<;>rfl
theorem Wa(b:Base){j:Nat}(hj:¬j<11):Ip b j=[]:=by
 unfold Ip
 rw[cg,cy (by simp;omega)];rfl
theorem lX{l:List Fact}(h:l.length≤100000)(d:Int):short (Ll l d):=fun j=>by
 by_cases hj:j<11
 · rw[R0 l d hj]
   exact bu (Rz _ _ _) (bu (fC l d) h)
 rw[Wa _ hj];simp
def E7(f:Fact):K2:=(f.Time,f.ID)
def Iq(n:Int):Bool:=decide (1≤n)&&decide (n≤1000000)
def Mi(p:Fact→Bool)(l:List Fact):List Fact:=H9 E7 (l.filter p)
theorem Tn{α:Type}{enc:α→Array Value}{e k:Nat}{w0 w:World}{v:Value}{xs:List α}{rest:List Asr}(h:Wx.Sep no w0 w (Aw e k enc v xs::rest)):OwnS w w0.heap.size e k enc v xs:=by
 have hf:=h.foot 0 rfl
 obtain⟨h1,h2⟩:=h.own 0 rfl
 refine⟨h1,?_⟩
 rcases h2 with h2|⟨g,cap,cur,e,hb,rest⟩
 · exact .inl h2
 exact .inr ⟨g,cap,cur,e,(hf g (by rw[e];rfl)).resolve_left (fun h=>h),rest⟩
theorem Fp{c n:Int}(hc:Yq c)(hn:0<n):0≤Cj c n∧Cj c n<n:=by
 unfold Cj
 obtain⟨h1,h2⟩:=hc
 split
 · rw[Ex (i:=c+1) oQ oQ,Ex oQ oQ,k9 (by omega)];exact⟨Int.emod_nonneg _ oQ,Int.emod_lt_of_pos _ hn⟩
 rw[k9 (by omega)];exact⟨Int.emod_nonneg _ oQ,Int.emod_lt_of_pos _ hn⟩
theorem OwnS.els{α:Type}{enc:α→Array Go.Value}{b k n cp:Nat}{e:TypeId}{w:World}{ad:Option Addr}{xs:List α}(h:OwnS w b e k enc (.slice ad n cp) xs)(hk:∀x,(enc x).size=k):Els w ad k enc xs:=by
 obtain⟨ad',cp',e,hE⟩:=h.sl hk
 injection e with e1
 rw[e1];exact hE
theorem O9(f:Fact):Ft f f=true:=by simp[Ft]
theorem BW{f:Fact}(h:Ca f=true):f.Day≤100000:=by
 have:=Mz h
 simp only[preB,jc,jo]at this
 omega
theorem Kl{f g:Fact}(hf:Ca f=true)(hg:Ca g=true)(h:Cm f=Cm g):f.Kind=g.Kind:=by
 have kf:=E6 hf
 have kg:=E6 hg
 unfold Cm O4 at h
 rw[bh hf,bh hg]at h
 exact(Ss (r:=Cw (Es (Er f.Kind) f)) (s:=Cw (Es (Er g.Kind) g)) (a:=f.Kind) (b:=g.Kind) ⟨by omega,by omega⟩ ⟨by omega,by omega⟩ h).1
theorem Xs:∀(a b:List UInt8),Go.Lib.compareBytes b a= - Go.Lib.compareBytes a b
 |[],[]=>rfl
 |[],_::_=>rfl
 |_::_,[]=>rfl
 |x::a,y::b=>by
   unfold Go.Lib.compareBytes
   by_cases h1:x<y
   · have h2:¬y<x:=by rw[gg]at*;omega
     rw[bh h1,aq h2,bh h1];rfl
   by_cases h2:y<x
   · rw[bh h2,aq h1,bh h2]
   rw[aq h2,aq h1,aq h1,aq h2];exact Xs a b
theorem iV:∀{a b:List UInt8},Go.Lib.compareBytes a b=0→a=b
 |[],[],_=>rfl
 |[],_::_,h=>by simp[Go.Lib.compareBytes]at h
 |_::_,[],h=>by simp[Go.Lib.compareBytes]at h
 |x::a,y::b,h=>by
   unfold Go.Lib.compareBytes at h
   by_cases h1:x<y
   · rw[bh h1]at h;cases h
   by_cases h2:y<x
   · rw[aq h1,bh h2]at h;cases h
   rw[aq h1,aq h2]at h
   rw[iV h,show x=y from UInt8.toNat_inj.1 (by rw[gg]at h1 h2;omega)]
theorem vN(a:List UInt8):Go.Lib.compareBytes a a=0:=by have:=Xs a a;omega
theorem aK:∀{a b c:List UInt8},0<Go.Lib.compareBytes a b→0<Go.Lib.compareBytes b c→0<Go.Lib.compareBytes a c
 |[],[],_,h,_=>by simp[Go.Lib.compareBytes]at h
 |[],_::_,_,h,_=>by simp[Go.Lib.compareBytes]at h
 |_::_,[],[],_,h=>by simp[Go.Lib.compareBytes]at h
 |_::_,[],_::_,_,h=>by simp[Go.Lib.compareBytes]at h
 |_::_,_::_,[],_,_=>by simp[Go.Lib.compareBytes]
 |x::a,y::b,z::c,h,k=>by
   unfold Go.Lib.compareBytes at h k⊢
   by_cases h1:x<y
   · rw[bh h1]at h;omega
   by_cases k1:y<z
   · rw[bh k1]at k;omega
   rw[aq h1]at h
   rw[aq k1]at k
   have e1:¬x<z:=by rw[gg]at*;omega
   rw[aq e1]
   by_cases h2:y<x
   · rw[bh (show z<x by rw[gg]at*;omega)];decide
   by_cases k2:z<y
   · rw[bh (show z<x by rw[gg]at*;omega)];decide
   rw[aq h2]at h
   rw[aq k2]at k
   rw[aq (show ¬z<x by rw[gg]at*;omega)]
   exact aK h k
theorem Jp{a b:Fact}:E0 a b=true↔Ca a=true∧Ca b=true∧Cm a=Cm b∧(b.Version<a.Version∨(a.Version=b.Version∧0<Go.Lib.compareBytes (Iu a) (Iu b))):=by
 unfold E0
 simp only[b6,gi,gj,beq_iff_eq,and_assoc]
theorem Q6(a:Fact):E0 a a=false:=by
 rw[fu]
 intro h
 have:=(Jp.1 h).2.2.2
 rw[vN]at this
 omega
theorem fD{a b c:Fact}(h:E0 a b=true)(k:E0 b c=true):E0 a c=true:=by
 obtain⟨h1,h2,h3,h4⟩:=Jp.1 h
 obtain⟨k1,k2,k3,k4⟩:=Jp.1 k
 refine Jp.2 ⟨h1,k2,h3.trans k3,?_⟩
 rcases h4 with h4|⟨h4,h5⟩<;>rcases k4 with k4|⟨k4,k5⟩
 · exact .inl oQ
 · exact .inl oQ
 · exact .inl oQ
 exact .inr ⟨by omega,aK h5 k5⟩
theorem Xt{f:Fact}{o o':Nat}{n:Int}(h:Fx o=true)(h':Fx o'=true):Hd (lC f o n) o'=if o=o' then n else Hd f o':=by
 rcases El h with rfl|rfl|rfl|rfl|rfl|rfl|rfl|rfl|rfl|rfl|rfl|rfl|rfl|rfl<;>rcases El h' with rfl|rfl|rfl|rfl|rfl|rfl|rfl|rfl|rfl|rfl|rfl|rfl|rfl|rfl<;>rfl
theorem qY{f:Fact}{o:Nat}{n:Int}(h:Fx o=true):(lC f o n).Text=f.Text:=by
 rcases El h with rfl|rfl|rfl|rfl|rfl|rfl|rfl|rfl|rfl|rfl|rfl|rfl|rfl|rfl<;>rfl
theorem aL:∀{fs:List Fld}{f g:Fact},(∀x∈fs,Fx x.off=true∧Ps x.lo∧Ps x.hi)→Ih fs f=some g→(∀o,Fx o=true→Hd g o≠0→Hd f o=Hd g o)∧(∀o,Fx o=true→(∀x∈fs,x.off≠o)→Hd f o=Hd g o)∧g.Text=f.Text∧∀x∈fs,Ps (Hd f x.off)
 |[],f,g,_,h=>by cases h;exact⟨fun _ _ _=>rfl,fun _ _ _=>rfl,rfl,fun x hx=>by cases hx⟩
 |x::fs,f,g,hf,h=>by
   unfold Ih at h
   split at h
   · cases h
   rename_i hx
   have ok:=hf x b7
   obtain⟨h1,h2,h3,h4⟩:=aL (fun y hy=>hf y (b_ _ hy)) h
   refine⟨fun o ho hne=>?_,fun o ho hn=>?_,h3.trans (qY ok.1),fun y hy=>?_⟩
   · have:=h1 o ho hne
     rw[Xt ok.1 ho]at this
     by_cases e:x.off=o
     · rw[bh e]at this;exact absurd this.symm hne
     rwa [aq e]at this
   · have:=h2 o ho (fun y hy=>hn y (b_ _ hy))
     rwa [Xt ok.1 ho,aq (hn x b7)]at this
   have hb:Ps (Hd f x.off):=by
     have:=ok.2.1.1
     have:=ok.2.2.2
     exact⟨by omega,by omega⟩
   rcases bp.1 hy with rfl|hy
   · exact hb
   have:=h4 y hy
   rw[Xt ok.1 (hf y (b_ _ hy)).1]at this
   by_cases e:x.off=y.off
   · rw[←e];exact hb
   rwa [aq e]at this
theorem fE(k:Int):∀x∈fieldsOf k,Fx x.off=true∧Ps x.lo∧Ps x.hi:=by
 intro x hx
 have h:∀l∈L9,∀y∈l,(Fx y.off&&decide (-4611686018427387903≤y.lo)&&decide (y.lo≤4611686018427387903)&&decide (-4611686018427387903≤y.hi)&&decide (y.hi≤4611686018427387903))=true:=by decide
 unfold fieldsOf at hx
 rw[cg]at hx
 cases hl:L9[k.toNat]? with
 |none=>rw[hl]at hx;simp at hx
 |some l=>
   rw[hl]at hx
   have:=h l (ai hl) x (by simpa using hx)
   simp only[b6,gj]at this
   exact⟨this.1.1.1.1,⟨this.1.1.1.2,this.1.1.2⟩,⟨this.1.2,this.2⟩⟩
theorem vO{f g:Fact}(h:Ft f g=true):(∀o,Fx o=true→Hd f o=Hd g o)∧f.Text.toList=g.Text.toList:=by
 simp only[Ft,b6,beq_iff_eq]at h
 obtain⟨_,h1,_,_,_,h5,h6,h7,h8,h9,h10,h11,h12,h13,h14,h15,h16,h17,h18⟩:=h
 refine⟨fun o ho=>?_,h18⟩
 rcases El ho with rfl|rfl|rfl|rfl|rfl|rfl|rfl|rfl|rfl|rfl|rfl|rfl|rfl|rfl
 · exact h1
 · exact h5
 · exact h6
 · exact h7
 · exact h8
 · exact h9
 · exact h10
 · exact h11
 · exact h12
 · exact h13
 · exact h14
 · exact h15
 · exact h16
 exact h17
theorem lY(k v d:Int)(g:Bool){o:Nat}(h:Fx o=true):Hd (Jm k v d g) o=0:=by
 rcases El h with rfl|rfl|rfl|rfl|rfl|rfl|rfl|rfl|rfl|rfl|rfl|rfl|rfl|rfl<;>rfl
theorem qZ(g:Fact)(t:ByteArray){o:Nat}(h:Fx o=true):Hd { g with Text:=t } o=Hd g o:=by
 rcases El h with rfl|rfl|rfl|rfl|rfl|rfl|rfl|rfl|rfl|rfl|rfl|rfl|rfl|rfl<;>rfl
theorem Mj{f:Fact}(h:Ca f=true):(∀o,Fx o=true→(∀x∈fieldsOf f.Kind,x.off≠o)→Hd f o=0)∧(∀x∈fieldsOf f.Kind,Ps (Hd f x.off))∧(G9 f.Kind=false→f.Text.toList=[]):=by
 unfold Ca at h
 rw[b6,b6]at h
 have h3:=h.2.2
 cases hr:Ih (fieldsOf f.Kind) f with
 |none=>rw[hr]at h3;cases h3
 |some g=>
   rw[hr]at h3
   obtain⟨r1,r2,r3,r4⟩:=aL (fE f.Kind) hr
   obtain⟨e1,e2⟩:=vO h3
   have z:∀o,Fx o=true→Hd g o=0:=fun o ho=>by
     have:=e1 o ho
     rw[lY _ _ _ _ ho]at this
     split at this
     · rwa [qZ _ _ ho]at this
     exact this
   refine⟨fun o ho hn=>(r2 o ho hn).trans (z o ho),r4,fun ht=>?_⟩
   rw[ht]at e2
   rw[←r3]
   rw[aq ca]at e2
   rw[e2,ByteArray.toList_eq];rfl
theorem rA{a b:ByteArray}(h:a.toList=b.toList):a=b:=by
 rw[ByteArray.toList_eq,ByteArray.toList_eq]at h
 cases a;cases b
 exact bi ByteArray.mk (Array.toList_inj.1 h)
theorem rB{a b:Fact}(hk:a.Kind=b.Kind)(hv:a.Version=b.Version)(hd:a.Day=b.Day)(hg:a.Gone=b.Gone)(ht:a.Text=b.Text)(h:∀o,Fx o=true→Hd a o=Hd b o):a=b:=by
 have h1:=h 1 rfl
 have h5:=h 5 rfl
 have h6:=h 6 rfl
 have h7:=h 7 rfl
 have h8:=h 8 rfl
 have h9:=h 9 rfl
 have h10:=h 10 rfl
 have h11:=h 11 rfl
 have h12:=h 12 rfl
 have h13:=h 13 rfl
 have h14:=h 14 rfl
 have h15:=h 15 rfl
 have h16:=h 16 rfl
 have h17:=h 17 rfl
 cases a;cases b
 rw[Fact.mk.injEq]
 exact⟨hk,h1,hv,hd,hg,h5,h6,h7,h8,h9,h10,h11,h12,h13,h14,h15,h16,h17,ht⟩
theorem rC{a b:Fact}(ha:Ca a=true)(hb:Ca b=true)(hk:a.Kind=b.Kind)(h:Iu a=Iu b):a=b:=by
 obtain⟨a1,a2,a3⟩:=Mj ha
 obtain⟨b1,b2,b3⟩:=Mj hb
 have pa:=Mz ha
 have pb:=Mz hb
 have ka:=E6 ha
 have kb:=E6 hb
 simp only[preB,jc,jo]at pa pb
 have win:∀(f:Fact),(1≤f.Kind∧f.Kind≤11)→(¬f.Version<1∧¬1000000<f.Version∧¬f.Day<0∧¬100000<f.Day)→(∀x∈fieldsOf f.Kind,Ps (Hd f x.off))→∀x∈P5 f,Ps x:=fun f k p q x hx=>by
   unfold P5 at hx
   rcases bt.1 hx with hx|hx
   · simp only[bp,ei,d_]at hx
     rcases hx with rfl|rfl|rfl|rfl
     · exact⟨by omega,by omega⟩
     · exact⟨by omega,by omega⟩
     · exact⟨by omega,by omega⟩
     unfold Ki;split<;>exact⟨by omega,by omega⟩
   obtain⟨y,hy,rfl⟩:=bx.1 hx
   exact q y hy
 unfold Iu at h
 obtain⟨e1,e2⟩:=Px (win a ka ⟨pa.1.1.1.1,pa.1.1.1.2,pa.1.1.2,pa.1.2⟩ a2) (win b kb ⟨pb.1.1.1.1,pb.1.1.1.2,pb.1.1.2,pb.1.2⟩ b2) (by unfold P5;simp[Es,hk]) h
 unfold P5 at e1
 simp only[e_,du,List.cons.injEq]at e1
 obtain⟨_,e3,e4,e5,e6⟩:=e1
 refine rB hk e3 e4 ?_ ?_ fun o ho=>?_
 · revert e5
   unfold Ki
   cases a.Gone<;>cases b.Gone<;>simp
 · by_cases ht:G9 a.Kind=true
   · rw[bh ht,bh (by rw[←hk];exact ht)]at e2
     unfold dD at e2
     have:=(Ss (gS (by simp;omega)) (gS (by simp;omega)) e2).2
     cases ea:a.Text;cases eb:b.Text
     rw[ea,eb]at this
     exact bi ByteArray.mk (Array.toList_inj.1 this)
   have ht:=fu.2 ht
   exact rA ((a3 ht).trans (b3 (hk▸ht)).symm)
 by_cases hx:∃x∈fieldsOf a.Kind,x.off=o
 · obtain⟨x,hx,rfl⟩:=hx
   unfold Es at e6
   rw[←hk]at e6
   exact List.map_inj_left.1 e6 x hx
 have hn:∀x∈fieldsOf a.Kind,x.off≠o:=fun x h1 h2=>hx ⟨x,h1,h2⟩
 rw[a1 o ho hn,b1 o ho (hk▸hn)]
theorem Od{a b:Fact}(ha:Ca a=true)(hb:Ca b=true)(hk:Cm a=Cm b)(h1:E0 a b=false)(h2:E0 b a=false):a=b:=by
 rw[fu]at h1 h2
 have c1:¬(b.Version<a.Version∨(a.Version=b.Version∧0<Go.Lib.compareBytes (Iu a) (Iu b))):=fun c=>h1 (Jp.2 ⟨ha,hb,hk,c⟩)
 have c2:¬(a.Version<b.Version∨(b.Version=a.Version∧0<Go.Lib.compareBytes (Iu b) (Iu a))):=fun c=>h2 (Jp.2 ⟨hb,ha,hk.symm,c⟩)
 rw[Xs (Iu a) (Iu b)]at c2
 exact rC ha hb (Kl ha hb hk) (iV oQ)
def iW(l:List Fact)(d:Int)(f:Fact):Prop:=f∈l∧Cm f≠[]∧f.Day≤d∧∀g∈l,g.Day≤d→E0 g f=false
structure EInv(l:List Fact)(d:Int)(m:Ga):Prop where
 ok:MOk m
 top:∀p∈m,iW l d p.2
 all:∀f∈l,Cm f≠[]→f.Day≤d→Cm f∈m.map (·.1)
theorem M3{a b:Fact}(h:E0 a b=true):Cm a=Cm b:=(Jp.1 h).2.2.1
theorem rD{m:Ga}{c:List UInt8}{x:Fact}{p:List UInt8×Fact}(h:p∈Mg m c x):p=(c,x)∨(p∈m∧p.1≠c):=by
 unfold Mg at h
 split at h
 · obtain⟨q,hq,e⟩:=bx.1 h
   split at e
   · exact .inl e.symm
   rename_i hc;subst e;exact .inr ⟨hq,hc⟩
 rename_i hn
 rcases bt.1 h with h|h
 · exact .inr ⟨h,fun e=>hn (bx.2 ⟨p,h,e⟩)⟩
 exact .inl (bn.1 h)
theorem rE{m:Ga}{c:List UInt8}{x:Fact}{k:List UInt8}(h:k∈m.map (·.1)∨k=c):k∈(Mg m c x).map (·.1):=by
 rw[V8]
 split
 · rename_i hc;rcases h with h|rfl
   · exact h
   exact hc
 rcases h with h|rfl
 · exact eh _ h
 simp
theorem To{l:List Fact}{d:Int}{x f:Fact}(h:iW l d f)(hx:x.Day≤d→E0 x f=false):iW (l++[x]) d f:=by
 refine⟨eh _ h.1,h.2.1,h.2.2.1,fun g hg hd=>?_⟩
 rcases bt.1 hg with hg|hg
 · exact h.2.2.2 g hg hd
 cases bn.1 hg;exact hx hd
theorem EInv.step{l:List Fact}{d:Int}{m:Ga}(h:EInv l d m)(x:Fact):EInv (l++[x]) d (Dx d m x):=by
 by_cases hc:Cm x=[]∨d<x.Day
 · rw[P7 hc]
   refine⟨h.ok,fun p hp=>To (h.top p hp) fun hd=>?_,fun f hf hk hd=>?_⟩
   · rw[fu]
     intro e
     rcases hc with hc|hc
     · exact(h.top p hp).2.1 ((M3 e).symm.trans hc)
     omega
   rcases bt.1 hf with hf|hf
   · exact h.all f hf hk hd
   cases bn.1 hf
   rcases hc with hc|hc
   · exact absurd hc hk
   omega
 have hk:Cm x≠[]:=fun e=>hc (.inl e)
 have hd:x.Day≤d:=by
   by_cases hd:x.Day≤d
   · exact hd
   exact absurd (.inr oQ) hc
 have others:∀p∈m,p.1≠Cm x→iW (l++[x]) d p.2:=fun p hp hne=>To (h.top p hp) fun _=>by
   rw[fu]
   intro e
   exact hne ((h.ok p hp).1.trans (M3 e).symm)
 have put:(∀g∈l,g.Day≤d→E0 g x=false)→EInv (l++[x]) d (Mg m (Cm x) x):=fun hx=>by
   refine⟨h.ok.set (Li hk),fun p hp=>?_,fun f hf hkf hdf=>?_⟩
   · rcases rD hp with rfl|⟨h1,h2⟩
     · refine⟨by simp,hk,hd,fun g hg hdg=>?_⟩
       rcases bt.1 hg with hg|hg
       · exact hx g hg hdg
       cases bn.1 hg;exact Q6 x
     exact others p h1 h2
   refine rE ?_
   rcases bt.1 hf with hf|hf
   · exact .inl (h.all f hf hkf hdf)
   cases bn.1 hf;exact .inr rfl
 cases hg:Te m (Cm x)with
 |none=>
   rw[aA hc hg]
   refine put fun g hgl hgd=>?_
   rw[fu]
   intro e
   have e1:=M3 e
   have:=h.all g hgl (by rw[e1];exact hk) hgd
   rw[e1]at this
   have hno:=V7 hg
   rw[M2]at hno
   exact hno this
 |some old=>
   have hmem:∃p∈m,p.1=Cm x∧p.2=old:=by
     unfold Te at hg
     rw[iz]at hg
     obtain⟨p,hp,e⟩:=hg
     have h2:(p.1==Cm x)=true:=kt (p:=fun p:List UInt8×Fact=>p.1==Cm x) hp
     exact⟨p,ji hp,eq_of_beq h2,e⟩
   obtain⟨p,hp,hpk,rfl⟩:=hmem
   cases hq:E0 x p.2 with
   |true=>
     rw[aB hc hg hq]
     refine put fun g hgl hgd=>?_
     rw[fu]
     intro e
     have:=(h.top p hp).2.2.2 g hgl hgd
     rw[fD e hq]at this
     cases this
   |false=>
     rw[aD hc hg hq]
     refine⟨h.ok,fun q hq'=>?_,fun f hf hkf hdf=>?_⟩
     · refine To (h.top q hq') fun _=>?_
       rw[fu]
       intro e
       have e1:=M3 e
       have e2:=(h.ok q hq').1
       have e3:q.1=p.1:=by rw[e2,←e1,hpk]
       have n:=Oa
       by_cases hqp:q.2=p.2
       · rw[hqp,hq]at e;cases e
       exact absurd (Od (h.ok q hq').2 (h.ok p hp).2 (by rw[←e2,←(h.ok p hp).1,e3]) ((h.top p hp).2.2.2 _ (h.top q hq').1 (h.top q hq').2.2.1) ((h.top q hq').2.2.2 _ (h.top p hp).1 (h.top p hp).2.2.1)) hqp
     rcases bt.1 hf with hf|hf
     · exact h.all f hf hkf hdf
     cases bn.1 hf
     exact bx.2 ⟨p,hp,hpk⟩
theorem aM(l:List Fact)(d:Int):EInv l d (Hl l d):=by
 have key:∀(r l:List Fact)(m:Ga),EInv l d m→EInv (l++r) d (r.foldl (Dx d) m):=by
   intro r
   induction r with
   |nil=>intro l m h;rw[dk];exact h
   |cons x r ih=>intro l m h;have:=ih (l++[x]) _ (h.step x);rwa [c6]at this
 exact key l [] [] ⟨fun p hp=>(by cases hp),fun p hp=>(by cases hp),fun f hf=>(by cases hf)⟩
theorem rF{l:List Fact}{d:Int}{f:Fact}:f∈Hm (Hl l d)↔iW l d f:=by
 have h:=aM l d
 rw[Jo h.ok]
 constructor
 · exact fun hf=>h.top _ hf
 intro hf
 obtain⟨p,hp,e⟩:=bx.1 (h.all f hf.1 hf.2.1 hf.2.2.1)
 have e:p.1=Cm f:=e
 have hpe:=h.top p hp
 have:p.2=f:=Od (h.ok p hp).2 (Li hf.2.1) ((h.ok p hp).1.symm.trans e) (hf.2.2.2 _ hpe.1 hpe.2.2.1) (hpe.2.2.2 _ hf.1 hf.2.2.1)
 rw[←e,←this];exact hp
theorem Xu(l:List Fact)(d:Int):(Hm (Hl l d)).Nodup:=I0 (f:=Cm) (by rw[Q5 (aM l d).ok];exact Oa l d)
def vP(m:List (Int×Int))(k:Int):Option Int:=(m.find? fun p=>decide (p.1=k)).map (·.2)
def iX(m:List (Int×Int)):List (Int×Go.Value):=m.map fun p=>(p.1,vi p.2)
def vR(m:List (Int×Int))(k v:Int):List (Int×Int):=if k∈m.map (·.1)then m.map (fun p=>if p.1=k then(k,v)else p)else m++[(k,v)]
def U4(m:List (Int×Int))(k:Int):Int:=(vP m k).getD k
def rG(m:List (Int×Int))(f:Fact):List (Int×Int):=vR (vR m f.Wafer (U4 m f.Other)) f.Other (U4 m f.Wafer)
def P8(t:Int)(f:Fact):Bool:=Iq f.Wafer&&Iq f.Other&&decide (f.Time≤t)
def Xv(l:List Fact)(t:Int):List (Int×Int):=(Mi (P8 t) l).foldl rG []
def Ib(l:List Fact)(t mark:Int):Int:=if Iq mark=true then U4 (Xv l t) mark else 0
theorem aN(p:Fact→Bool)(l:List Fact):(Mi p l).length≤l.length:=by
 unfold Mi
 rw[(D8 _).same.length]
 exact ef _ _
theorem aO(m:List (Int×Int)):(iX m).map (·.1)=m.map (·.1):=by unfold iX;rw[fd];rfl
theorem aP(m:List (Int×Int))(k v:Int):Hu (iX m) k (vi v)=iX (vR m k v):=by
 unfold Hu vR
 rw[aO]
 split
 · unfold iX
   rw[fd,fd]
   refine e8 fun p _=>?_
   simp only[Function.comp]
   split<;>rfl
 unfold iX
 rw[co];rfl
theorem rH{m:List (Int×Int)}{k v:Int}(h:vP m k=some v):(k,v)∈m:=by
 unfold vP at h
 cases hf:m.find? (fun p=>decide (p.1=k))with
 |none=>rw[hf]at h;cases h
 |some p=>
   rw[hf]at h
   have h1:p.1=k:=by simpa using kt hf
   have h2:=ji hf
   simp at h
   rw[←h,←h1]
   exact h2
theorem rI{m:List (Int×Int)}{k:Int}(h:vP m k=none):k∉m.map (·.1):=by
 unfold vP at h
 rw[Option.map_eq_none_iff,jh]at h
 intro hm
 obtain⟨p,hp,e⟩:=bx.1 hm
 exact h p hp (bj e)
theorem PEv.vS{P:Program}{n:Nat}{ds:List Deferred}{l:Env}{w:World}{d:Option Tmp}{ty:TypeId}{ps:String}{af:Array Edge}{g:Option (Nat×Bool)}{T K E:TypeId}{mo x:Operand}{b:Nat}{k:Int}{m:List (Int×Int)}(hT:P.underlying T=some (.map K E))(hK:P.underlying K=some (.int .i64))(hz:∀w,(zeroValue E).run P w=.ok (vi 0) w)(hm:Val l mo (.map (some b)))(hx:Val l x (vi k))(h:IMap w b (iX m)):
   PEv P n ds l w ⟨d,.lookup T mo x true,ty,ps,af,g⟩ (.tuple #[vi ((vP m k).getD 0),.bool (vP m k).isSome]):=by
 cases hl:vP m k with
 |none=>exact PEv.Ov (ok:=true) hT hK hz hm hx h (by rw[aO];exact rI hl)
 |some v=>exact PEv.Hw (ok:=true) (v:=vi v) hT hK hm hx h (bx.2 ⟨(k,v),rH hl,rfl⟩)
theorem vT{b:Nat}{kv kv':List (Int×Go.Value)}{w w':World}(h:IMap w' b kv')(k:Fr (· =b) w w'):Stp (Il b kv) (Il b kv') w w':=⟨k,h,fun _ h=>.inl h⟩
def Km(wafer time:Int)(best:Option Fact)(f:Fact):Bool:=Iq wafer&&decide (f.Wafer=wafer)&&decide (f.Time≤time)&&(match best with|none=>true|some g=>decide (g.Time<f.Time))
def Xw(wafer time:Int)(best:Option Fact)(f:Fact):Option Fact:=if Km wafer time best f=true then some f else best
def F7(l:List Fact)(wafer time:Int):Option Fact:=l.foldl (Xw wafer time) none
def Hr(l:List Fact)(wafer time:Int):Int×Int:=match F7 l wafer time with|none=>(0,0)|some f=>(f.Lot,f.Product)
theorem Hn(l:List Fact)(f:Fact)(wafer time:Int):F7 (l++[f]) wafer time=Xw wafer time (F7 l wafer time) f:=by simp[F7]
def Pa(ad:Option Addr)(k:Nat):Option Nat→Option Addr
 |none=>none
 |some j=>ad.map fun a=>⟨a.block,a.off+j*k,none⟩
def Dg(ps ss:List Fact)(w:Int):List Fact:=if Iq w=true then Mi (fun f=>decide (Ib ss f.Time f.Wafer=w)) ps else[]
structure Cond where
 want:Int
 shift:Int
 is:Int
def Cond.cells(c:Cond):Array Go.Value:=#[vi c.want,vi c.shift,vi c.is]
def Cond.met(c:Cond):Bool:=decide (c.want=0)||(decide (c.is≤c.want)&&decide (IntKind.i64.wrap (c.want-c.shift)=c.is))
def I5(f:Fact):Bool:=decide (f.Kind=7)
def fF(f:Fact)(t:Int):Bool:=decide (f.Kind=7)&&decide (f.Time≤t)&&decide (t≤f.Until)
def Tp(f:Fact)(mX:List Fact)(wafer time:Int):Bool:=fF f time&&[Cond.mk f.Wafer 0 wafer,Cond.mk f.Lot 0 (Hr mX wafer time).1].all Cond.met
def Tq(f:Fact)(mX:List Fact)(a:GAct):Bool:=Tp f mX a.Wafer a.Time&&[Cond.mk f.Tool 1 a.Tool,Cond.mk f.Chamber 1 a.Chamber,Cond.mk f.Step 1 a.Step,Cond.mk f.Recipe 0 a.Recipe,Cond.mk f.Revision 0 a.Revision].all Cond.met
def LA(x y:Int):Int:=IntKind.i64.wrap (BitVec.ofInt 64 x|||BitVec.ofInt 64 y).toNat
def vU(x y:Int):Int:=IntKind.i64.wrap (BitVec.ofInt 64 x&&& ~~~BitVec.ofInt 64 y).toNat
def iY(id time:Int)(acc:Int)(r:Fact):Int:=if(decide (r.Other=id)&&decide (r.Time≤time))=true then LA acc r.Parties else acc
def Gh(l:List Fact)(id time:Int):Int:=l.foldl (iY id time) 0
theorem Mk(l:List Fact)(r:Fact)(id time:Int):Gh (l++[r]) id time=iY id time (Gh l id time) r:=by simp[Gh]
def yK(f:Fact)(rels:List Fact)(time:Int):Bool:=decide (vU f.Parties (Gh rels f.ID time)=0)
end Go.Wx
namespace Go.Proofs.YtnpgbbaniknpkaaGreatDoor
open Go.Proofs.Tryz
open Go.Wx Go.RowKit
theorem P9(cf:Nat)(lb:Array Go.Value)(p:Fact→Bool)(hen:∀args w,(callFunc cf args).run prog w=.ok (.enter cf args) w)(ad:Option Addr)(cp:Nat)(l:List Fact)(w:World)(hE0:Els w ad 19 Fact.cells l)(hl:l.length≤100000)(hp:∀W,Up w W→∀x,Ret prog cf (#[.agg (Fact.cells x)]++lb) W fun r W'=>r=.bool (p x)∧Up W W'):Ret prog 29 #[.slice ad l.length cp,.func (.func cf) #[] lb] w fun r w'=>∃i,r=vi i∧KJ p l i∧Up w w':=by
 have hW:=Up.refl w
 obtain⟨w0,rfl,_⟩:=W0 w
 refine cT 19 func29 rfl ?_
 refine Af (Az (An (Af (I rfl ?_))))
 refine U (.Ck lf (.t rfl)) ?_
 refine U (.move (.const _)) ?_
 refine Ah (Ak ?_)
 refine A6 (σ:=Nat) (fun s w=>(s≤l.length)∧(∀y∈l.take s,p y=false)∧(Up w0 w)) (fun s=>[(8,.eq (vi (s:Int)))]) ([(0,.eq _),(1,.eq _),(7,.eq _)]) (fun s=>l.length-s) 0 ?_ tQ ?_
 ·exact⟨a8 _,by simp,hW⟩
 rintro k w1 ⟨hk,hn,hW⟩
 refine Af ?_
 refine U (.l2 rfl rfl) ?_
 refine An ?_
 refine CW.b rfl (fun h9=>?_) (fun h9=>?_)
 ·replace h9:=dQ h9
  refine Aj (Ac (Ai (Ak (Af (I rfl (LW.A rfl (An ?_)))))))
  have hE:=Els.up hE0 hW
  refine Aa (I rfl (I rfl (I rfl ?_)))
  obtain⟨x,hx⟩:=Ae (xs:=l) (i:=k) oQ
  obtain⟨Bx,ox,ax,hcx⟩:=hE _ x hx
  refine U (.Ao lf lh (.t rfl) (.t rfl) oQ ax) ?_
  refine U (.lc rfl (hcx)) ?_
  refine A4 (Cu (.t rfl) (.cu rfl) (hen)) rfl (hp _ hW x) ?_
  rintro _ w2 ⟨rfl,uw2⟩
  have zw2:=uw2.size
  replace hW:=hW.up uw2
  replace hcx:=hcx.up uw2
  refine Ah ?_
  refine CW.b rfl (fun h16=>?_) (fun h16=>?_)
  ·replace h16:=dQ h16
   refine Af (I rfl (LW.A rfl (Ah (Am (A7 (Ar (Ar (A7 (Ar ?_)))))))))
   refine KW.q ?_
   first|exact⟨_,rfl,.inl ⟨k,x,rfl,hx,by simpa using h16,hn⟩,hW⟩|exact⟨_,rfl,.inr ⟨rfl,by rw[show k=l.length by omega,b8]at hn;exact hn⟩,hW⟩
  replace h16:=dQ h16
  refine Aj (Al (Ac (Aa ?_)))
  refine U (.ic rfl oQ) ?_
  refine I rfl (LW.nil (Av ?_))
  exact⟨k+1,⟨by omega,lW hx hn (by simpa using h16),hW⟩,tQ,by first|omega|(dsimp only;omega)⟩
 replace h9:=dQ h9
 refine A8 (Ab (Ab (Aq (Ac (Af (Az (Ah (Am ?_))))))))
 refine KW.q ?_
 first|exact⟨_,rfl,.inl ⟨k,x,rfl,hx,by simpa using h16,hn⟩,hW⟩|exact⟨_,rfl,.inr ⟨rfl,by rw[show k=l.length by omega,b8]at hn;exact hn⟩,hW⟩
theorem Wb(cf:Nat)(lb:Array Go.Value)(p:Fact→Bool)(hen:∀args w,(callFunc cf args).run prog w=.ok (.enter cf args) w)(ad:Option Addr)(cp:Nat)(l:List Fact)(w:World)(hE0:Els w ad 19 Fact.cells l)(hl:l.length≤100000)(hp:∀W,Up w W→∀x,Ret prog cf (#[.agg (Fact.cells x)]++lb) W fun r W'=>r=.bool (p x)∧Up W W'):Ret prog 155 #[.slice ad l.length cp,.func (.func cf) #[] lb] w fun r w'=>r=.tuple #[.agg ((l.find? p).getD Io).cells,.bool (l.find? p).isSome]∧Up w w':=by
 obtain⟨w0,rfl,hS⟩:=W0 w
 refine cT 18 func155 rfl (Af (Ap (.Cb ll) rfl ?_))
 rintro _ w1 ⟨B4,rfl,NB4⟩
 replace hS:=hS.Cg NB4
 refine Az (An (Af (I rfl (I rfl (A4 (eC (.u rfl rfl) (yX)) rfl (P9 cf lb p hen ad cp l _ (Els.up hE0 hS.Ch) hl (fun W u x=>hp W (hS.Ch.trans u) x)) ?_)))))
 rintro _ w2 ⟨i,rfl,hi,uw2⟩
 replace hS:=hS.up uw2
 refine LW.A rfl (An (Aa (I rfl (U (.geq (.t rfl) (.const _)) (Ah (CW.b rfl (fun h12=>?_) (fun h12=>?_)))))))
 ·replace h12:=dQ h12
  refine Ai ?_
  obtain⟨k,x,rfl,hx,hpx,hn⟩:=hi.resolve_right (fun⟨e,_⟩=>by omega)
  rw[vL hx hn hpx]
  obtain⟨Bx,ox,ax,hcx⟩:=(Els.up hE0 hS.Ch) k x hx
  have hkl:=(am.1 hx).1
  refine Aa (I rfl (I rfl (U (.Ao lf lh (.t rfl) (.t rfl) oQ ax) (U (.lc rfl (hcx)) (Cd (.Cc lh rfl (.t rfl) (.t rfl) eQ hS.b0 rfl) ?_)))))
  intro w3 Nw3
  replace hS:=hS.Ek 0 rfl Nw3
  refine Az (Ah (Am (Ar (Tm rfl rfl rfl n8 lh rfl (hS.b0).agg ⟨_,rfl,?_⟩))))
  exact⟨rfl,hS.Ch⟩
 replace h12:=dQ h12
 refine Aj (Ac (Ai ?_))
 have hn:=(hi.resolve_left (fun⟨k,x,e,_⟩=>by omega)).2
 rw[vM hn]
 refine Aa (Ap (.Cb ll) rfl ?_)
 rintro _ w4 ⟨B7,rfl,NB7⟩
 replace hS:=hS.Cg NB7
 refine An (Aa (U (.lc rfl (hS.b1.agg)) (Cd (.Cc lh rfl (.t rfl) (.t rfl) eQ hS.b0 rfl) ?_)))
 intro w5 Nw5
 replace hS:=hS.Ek 0 rfl Nw5
 refine Az (Ah (Am (Tm rfl rfl rfl n8 lh rfl (hS.b0).agg ⟨_,rfl,?_⟩)))
 exact⟨rfl,hS.Ch⟩
theorem J4{xs ys:Array Go.Value}{i:Nat}{is:List Nat}{x y:Int}{r:Bool}{w:World}(hx:xs[i]?=some (vi x))(hy:ys[i]?=some (vi y))(h:(Op.eqItems 9999 3 1 xs ys is).run prog w=.ok r w):(Op.eqItems 9999 3 1 xs ys (i::is)).run prog w=.ok ((x==y)&&r) w:=by
 have px:(part 3 xs (i*1)).run prog w=.ok (vi x) w:=by simp[part,isAgg,run_underlying li,hx]
 have py:(part 3 ys (i*1)).run prog w=.ok (vi y) w:=by simp[part,isAgg,run_underlying li,hy]
 have pe:(Op.equalIn 9999 3 (vi x) (vi y)).run prog w=.ok (x==y) w:=run_equalIn_int w 9998 _ _ _ _ _ li
 simp only[Op.eqItems,Sem.run_bind,px,py,pe,Result.andThen_ok]
 cases hb:(x==y)<;>simp[h]
theorem aQ(a b c e a' b' c' e':Int)(w:World):(Op.equalIn 10000 273 (.agg #[vi a,vi b,vi c,vi e]) (.agg #[vi a',vi b',vi c',vi e'])).run prog w=.ok (a==a'&&(b==b'&&(c==c'&&(e==e'&&true)))) w:=by
 have hc:Tryz.prog.cellsOf 3=1:=by kernel_rfl
 rw[run_equalIn_array w 9999 _ _ underlying273 (show Tryz.prog.info? 3=some Tryz.t3 from by kernel_rfl),hc]
 exact J4 rfl rfl (J4 rfl rfl (J4 rfl rfl (J4 rfl rfl (by simp[Op.eqItems]))))
theorem Tr(f:Fact)(a c r v t:Int)(B B':Nat)(w:World)(hB:Blk w B #[vi a,vi c,vi r,vi v] 273)(hB':Blk w B' #[vi t] 3):Ret prog 226 #[.agg f.cells,.pointer (some ⟨B,0,none⟩),.pointer (some ⟨B',0,none⟩)] w fun r0 w'=>r0=.bool (iU a c r v t f)∧Up w w':=by
 have hW:=Up.refl w
 obtain⟨w0,rfl,_⟩:=W0 w
 refine cT 28 func226 rfl ?_
 refine Af ?_
 refine Ap (.bA rfl) rfl ?_
 rintro _ w1 ⟨B3,rfl,NB3⟩
 have eB3:=NB3.at_
 have zB3:=NB3.size
 replace hW:=hW.up NB3.up
 have hB3:=NB3.blk
 refine Az (An (Aa ?_))
 refine U (.fB 11 rfl) ?_
 refine U (.lb rfl (hB3.Ad rfl)) ?_
 refine U (.fB 12 rfl) ?_
 refine U (.lb rfl (hB3.Ad rfl)) ?_
 refine U (.fB 14 rfl) ?_
 refine U (.lb rfl (hB3.Ad rfl)) ?_
 refine U (.fB 15 rfl) ?_
 refine U (.lb rfl (hB3.Ad rfl)) ?_
 refine U (.Jn (cs:=#[vi f.Tool,vi f.Chamber,vi f.Recipe,vi f.Revision]) underlying273 zeroValue273 lg (.ct rfl (.ct rfl (.ct rfl (.cu rfl)))) rfl) ?_
 refine U (.lc rfl ((hB.up hW).agg)) ?_
 refine U (.yR eqGuardType273 (aQ _ _ _ _ _ _ _ _) (.t rfl) (.t rfl)) ?_
 refine I rfl ?_
 refine LW.gr rfl (fun hc=>PEv.fB 5 rfl) ?_
 refine LW.gr rfl (fun hc=>PEv.load l7 vQ (hB3.Ad rfl)) ?_
 refine LW.gr rfl (fun hc=>PEv.lb rfl ((hB'.up hW).Ad rfl)) ?_
 refine LW.gr rfl (fun hc=>PEv.leq vQ vQ) ?_
 refine U (.pa rfl (fun hp=>(by first|exact .const _|exact .tmp rfl|exact .cond rfl (by first|assumption|simp_all)))) ?_
 refine I rfl ?_
 refine LW.gr rfl (fun hc=>PEv.lb rfl ((hB'.up hW).Ad rfl)) ?_
 refine LW.gr rfl (fun hc=>PEv.fB 6 rfl) ?_
 refine LW.gr rfl (fun hc=>PEv.load l7 vQ (hB3.Ad rfl)) ?_
 refine LW.gr rfl (fun hc=>PEv.leq vQ vQ) ?_
 refine U (.pa rfl (fun hp=>(by first|exact .const _|exact .tmp rfl|exact .cond rfl (by first|assumption|simp_all)))) ?_
 refine LW.A rfl (Ah (Am ?_))
 refine KW.q ?_
 exact⟨bi Go.Value.bool (by first|rfl|(unfold iU;split<;>simp_all)),hW⟩
theorem U5(bc:Array Go.Value)(b:Base)(a c r v t:Int)(w:World)(hC:BaseC w bc b)(hl:b.Qualified.length≤100000):Ret prog 177 #[.agg bc,vi a,vi c,vi r,vi v,vi t] w fun r0 w'=>r0=.bool (Fo b a c r v t)∧Up w w':=by
 obtain⟨w0,rfl,hS⟩:=W0 w
 obtain⟨v5,h5,hr5⟩:=hC.LH
 obtain⟨ad,cp,rfl,hE0⟩:=hr5
 refine cT 29 func177 rfl ?_
 refine Af ?_
 refine Ap (.bA rfl) rfl ?_
 rintro _ w1 ⟨B6,rfl,NB6⟩
 have eB6:=NB6.at_
 have zB6:=NB6.size
 replace hS:=hS.Cg NB6
 change Wx.Sep _ _ _ [_]at hS
 refine Ap (.Pu (.t rfl) rfl) rfl ?_
 rintro _ w2 ⟨B11,rfl,NB11⟩
 have eB11:=NB11.at_
 have zB11:=NB11.size
 replace hS:=hS.Cg NB11
 change Wx.Sep _ _ _ [_,_]at hS
 refine Az (An (Aa (I rfl (I rfl (I rfl (I rfl ?_))))))
 refine U (.Jn (cs:=#[vi a,vi c,vi r,vi v]) underlying273 zeroValue273 lg (.ct rfl (.ct rfl (.ct rfl (.cu rfl)))) rfl) ?_
 refine Ap (.Cb zeroValue273) rfl ?_
 rintro _ w3 ⟨B13,rfl,MB13⟩
 refine Cd (.Cc sizeOf273 rfl (.t rfl) (.t rfl) eQ MB13.blk rfl) ?_
 intro w4 LB13
 have NB13:=MB13.set LB13
 clear LB13 MB13
 have eB13:=NB13.at_
 have zB13:=NB13.size
 replace hS:=hS.Cg NB13
 change Wx.Sep _ _ _ [_,_,_]at hS
 refine An (Aa ?_)
 refine U (.fB 5 rfl) ?_
 refine U (.lb rfl (hS.b0.cell h5)) ?_
 refine U (.makeFunc (.ct rfl (.cu rfl))) ?_
 refine A4 (eC (.u rfl rfl) (xM)) rfl (Wb 226 #[.pointer (some ⟨B13,0,none⟩),.pointer (some ⟨B11,0,none⟩)] (iU a c r v t) FO ad cp b.Qualified _ (Els.up hE0 hS.Ch) hl (fun W u x=>Tr x a c r v t B13 B11 W (hS.b2.up u) (hS.b1.up u))) ?_
 rintro _ w5 ⟨rfl,uw5⟩
 have zw5:=uw5.size
 replace hS:=hS.up uw5
 refine I rfl (U (.xt rfl rfl) (U (.xt rfl rfl) ?_))
 refine Ap (.Cb ll) rfl ?_
 rintro _ w6 ⟨B14,rfl,MB14⟩
 refine Cd (.Cc lh rfl (.t rfl) (.t rfl) eQ MB14.blk rfl) ?_
 intro w7 LB14
 have NB14:=MB14.set LB14
 clear LB14 MB14
 have eB14:=NB14.at_
 have zB14:=NB14.size
 replace hS:=hS.Cg NB14
 change Wx.Sep _ _ _ [_,_,_,_]at hS
 refine LW.A rfl (An (Aa (I rfl (LW.A rfl (Ah (Am ?_))))))
 refine KW.q ?_
 exact⟨rfl,hS.Ch⟩
theorem Xx(a b:Fact)(w:World):Ret prog 168 #[.agg a.cells,.agg b.cells] w fun r w'=>r=vi (Z3 (E7 a) (E7 b))∧Up w w':=by
 have hW:=Up.refl w
 refine cT 17 func168 rfl (Af (Ap (.bA rfl) rfl ?_))
 rintro _ w1 ⟨B2,rfl,NB2⟩
 replace hW:=hW.up NB2.up
 have hB2:=NB2.blk
 refine Ap (.bA rfl) rfl ?_
 rintro _ w2 ⟨B3,rfl,NB3⟩
 replace hW:=hW.up NB3.up
 replace hB2:=hB2.up NB3.up
 have hB3:=NB3.blk
 refine Az (An (Ju 11 [.eq (.pointer (some ⟨B2,5,none⟩)),.eq (vi (E7 a).1),.eq (.pointer (some ⟨B3,5,none⟩)),.eq (vi (E7 b).1),.eq (vi (Lg (E7 a).1 (E7 b).1)),.eq (.pointer (some ⟨B2,1,none⟩)),.eq (vi (E7 a).2),.eq (.pointer (some ⟨B3,1,none⟩)),.eq (vi (E7 b).2),.eq (vi (Lg (E7 a).2 (E7 b).2)),.pred (fun v w=>SlT 3 w v 1 A3 [Lg (E7 a).1 (E7 b).1,Lg (E7 a).2 (E7 b).2])] [15] kQ rfl kQ kQ kQ kQ kQ kQ kQ ⟨om,om,om,om,om,om,om,om,om,om,PhU.pred fun _ _ _ h u=>SlT.G7 h u.G7,trivial⟩ ?_ ?_))
 ·intro W hU0
  have hU:=(Up.drew w2).trans hU0
  refine aC ⟨rfl,TU.p (.fB 5 rfl) rfl⟩ (aC ⟨rfl,TU.p (.lb rfl ((hB2.up hU).Ad rfl)) rfl⟩ (aC ⟨rfl,TU.p (.fB 5 rfl) rfl⟩ (aC ⟨rfl,TU.p (.lb rfl ((hB3.up hU).Ad rfl)) rfl⟩ (aC ⟨rfl,TU.c (eC (.u rfl rfl) (tO)) (Lh _ _ _) sQ⟩ (aC ⟨rfl,TU.p (.fB 1 rfl) rfl⟩ (aC ⟨rfl,TU.p (.lb rfl ((hB2.up hU).Ad rfl)) rfl⟩ (aC ⟨rfl,TU.p (.fB 1 rfl) rfl⟩ (aC ⟨rfl,TU.p (.lb rfl ((hB3.up hU).Ad rfl)) rfl⟩ (aC ⟨rfl,TU.c (eC (.u rfl rfl) (tO)) (Lh _ _ _) sQ⟩ (aC ⟨rfl,TU.r (REv.buildSlice (xs:=[Lg (E7 a).1 (E7 b).1,Lg (E7 a).2 (E7 b).2]) (enc:=A3) (mk:=vi) k_ lg lq rfl cQ (fun _=>rfl) (fun _=>rfl) (.ct rfl (.cu rfl)) rfl) (by rintro _ W1 ⟨B,c,rfl,N,y,x⟩;exact⟨N.up,SlT.lit ⟨B,c,rfl,N,y,x⟩⟩)⟩ ?_))))))))))
  exact allL.nil
 intro w3 g hU0 hg
 have hU:=(Up.drew w2).trans hU0
 replace hW:=hW.up hU
 replace hB2:=hB2.up hU
 replace hB3:=hB3.up hU
 obtain⟨⟨ad,cp,e15,hE⟩,_⟩:=hg 10 _ 15 cQ rfl rfl
 change LW _ _ _ _ _ _ _ _ ((15,.eq (g 15))::_) _
 rw[e15]
 refine A4 (eC (.o rfl) (CM)) rfl (qP ad cp _ _ hE (by simp)) ?_
 rintro _ w4 ⟨rfl,uw4⟩
 replace hW:=hW.up uw4
 replace hB2:=hB2.up uw4
 replace hB3:=hB3.up uw4
 refine LW.A rfl (Ah (Am (KW.q ?_)))
 exact⟨rfl,hW⟩
theorem vV(x:Fact)(w:World):Ret prog 166 #[.agg x.cells] w fun r w'=>r=.agg x.cells∧Up w w':=by
 have hW:=Up.refl w
 refine cT 4 func166 rfl (Af (Ap (.bA rfl) rfl ?_))
 rintro _ w1 ⟨B1,rfl,NB1⟩
 have eB1:=NB1.at_
 have zB1:=NB1.size
 replace hW:=hW.up NB1.up
 have hB1:=NB1.blk
 refine Ap (.Cb zeroValue220) rfl ?_
 rintro _ w2 ⟨B2,rfl,NB2⟩
 have eB2:=NB2.at_
 replace hW:=hW.up NB2.up
 replace hB1:=hB1.up NB2.up
 have hB2:=NB2.blk
 refine An (Aa (U (.lc rfl (hB1.agg)) (Cd (.Cc n9 rfl (.t rfl) (.t rfl) (Fact.one _) hB2 rfl) ?_)))
 intro w3 Nw3
 replace hW:=hW.sto Nw3.sto oQ
 replace hB1:=hB1.sto Nw3.sto oQ
 replace hB2:=Nw3.blk
 replace hB2:Blk w3 B2 x.cells _:=hB2
 refine Ah (Am (F3 rfl rfl isAgg220 n9 rfl (hB2.agg) ⟨_,rfl,?_⟩))
 exact⟨rfl,hW⟩
theorem vW(x:Fact)(w:World):Ret prog 170 #[.agg x.cells] w fun r w'=>r=.agg x.cells∧Up w w':=by
 have hW:=Up.refl w
 refine cT 4 func170 rfl (Af (Ap (.bA rfl) rfl ?_))
 rintro _ w1 ⟨B1,rfl,NB1⟩
 have eB1:=NB1.at_
 have zB1:=NB1.size
 replace hW:=hW.up NB1.up
 have hB1:=NB1.blk
 refine Ap (.Cb ll) rfl ?_
 rintro _ w2 ⟨B2,rfl,NB2⟩
 have eB2:=NB2.at_
 replace hW:=hW.up NB2.up
 replace hB1:=hB1.up NB2.up
 have hB2:=NB2.blk
 refine An (Aa (U (.lc rfl (hB1.agg)) (Cd (.Cc lh rfl (.t rfl) (.t rfl) (Fact.one _) hB2 rfl) ?_)))
 intro w3 Nw3
 replace hW:=hW.sto Nw3.sto oQ
 replace hB1:=hB1.sto Nw3.sto oQ
 replace hB2:=Nw3.blk
 replace hB2:Blk w3 B2 x.cells _:=hB2
 refine Ah (Am (F3 rfl rfl n8 lh rfl (hB2.agg) ⟨_,rfl,?_⟩))
 exact⟨rfl,hW⟩
theorem lZ(x:Fact)(w:World):Ret prog 171 #[.agg x.cells] w fun r w'=>r=.bool true∧Up w w':=by
 have hW:=Up.refl w
 refine cT 3 func171 rfl (Af (Ap (.bA rfl) rfl ?_))
 rintro _ w1 ⟨B1,rfl,NB1⟩
 replace hW:=hW.up NB1.up
 have hB1:=NB1.blk
 refine Az (An (Aa (Az (Ah (Am (KW.q ?_))))))
 exact⟨rfl,hW⟩
theorem rJ(pf:Nat)(lb:Array Go.Value)(p:Fact→Bool)(hen:∀args w,(callFunc pf args).run prog w=.ok (.enter pf args) w)(ad:Option Addr)(cp:Nat)(l:List Fact)(w:World)(hE0:Els w ad 19 Fact.cells l)(hl:l.length≤1000000000)(hp:∀W,Up w W→∀x∈l,Ret prog pf (#[.agg x.cells]++lb) W fun r W'=>r=.bool (p x)∧Up W W'):Ret prog 165 #[.slice ad l.length cp,.func (.func 166) #[] #[],.func (.func pf) #[] lb] w fun r w'=>OwnS w' w.heap.size 220 19 Fact.cells r (l.filter p)∧Up w w':=by
 obtain⟨w0,rfl,hS⟩:=W0 w
 refine cT 27 func165 rfl (Af (Az (An (Aa (Az (An (Ai ?_)))))))
 replace hS:=hS.add (Up.refl _) (A':=Aw 220 19 Fact.cells (.slice none 0 0) ([]:List Fact)) (OwnS.nil _ _ _ _ _) (fun i h=>by cases h)
 refine Aa (I rfl (U (.Ck lf (.t rfl)) (U (.move (.const _)) (Ah (Ak (A6 (σ:=Nat×Go.Value) (fun s w=>(s.1≤l.length)∧(Wx.Sep no w0 w [Aw 220 19 Fact.cells s.2 ((l.take s.1).filter p)])) (fun s=>[(12,.eq (vi (s.1:Int))),(7,.eq (s.2))]) ([(1,.eq _),(2,.eq _),(6,.eq _),(10,.eq _),(11,.eq _)]) (fun s=>l.length-s.1) (0,.slice none 0 0) ?_ tQ ?_))))))
 ·exact⟨a8 _,hS⟩
 rintro⟨k,v⟩ w1 ⟨hk,hS⟩
 change CW _ _ _ _ _ _ _ ([(12,.eq (vi (k:Int))),(7,.eq (v))]++_) _
 refine Af (U (.l2 rfl rfl) (An (CW.b rfl (fun h13=>?_) (fun h13=>?_))))
 ·replace h13:=dQ h13
  refine Aj (Ac (Ai (Ak (Ai ?_))))
  have hE:=hE0.up hS.Ch
  refine Aa ?_
  obtain⟨x,hx⟩:=Ae (xs:=l) (i:=k) oQ
  obtain⟨Bx,ox,ax,hcx⟩:=hE _ x hx
  refine U (.Ao lf lh (.t rfl) (.t rfl) oQ ax) (U (.lc rfl (hcx)) (Ap (.Cb ll) rfl ?_))
  rintro _ w2 ⟨B9,rfl,MB9⟩
  refine Cd (.Cc lh rfl (.t rfl) (.t rfl) (Fact.one _) MB9.blk rfl) ?_
  intro w3 LB9
  have NB9:=MB9.set LB9
  replace hcx:=hcx.up NB9.up
  replace hS:=hS.Cg NB9
  refine An (Aa (I rfl (U (.lc rfl (hS.b1.agg)) (A4 (Cu (.t rfl) (.cu rfl) (hen)) rfl (hp _ hS.Ch x (ai hx)) ?_))))
  rintro _ w4 ⟨rfl,uw4⟩
  replace hS:=hS.up uw4
  refine Ah (CW.b rfl (fun h18=>?_) (fun h18=>?_))
  ·replace h18:=dQ h18
   have hfl:=aJ p l k
   refine Aa (I rfl (I rfl (U (.lc rfl (hS.b1.agg)) (A4 (Ey (.t rfl) (.cu rfl) (EF)) rfl (vV _ _) ?_))))
   rintro _ w5 ⟨rfl,uw5⟩
   replace hS:=hS.up uw5
   refine Ap (.buildSlice (xs:=[x]) (enc:=Fact.cells) (mk:=fun f:Fact=>.agg f.cells) nz n9 zeroValue220 rfl cQ (fun _=>rfl) (fun _=>rfl) (.cu rfl) rfl) rfl ?_
   rintro _ w6 ⟨B23,cB23,rfl,NB23,yB23,xB23⟩
   replace hS:=hS.up NB23.up
   have hE23:=xB23
   refine Ap (.C3 (enc:=Fact.cells) (bytes:=160) (i:=Tryz.t220) nz kQ rfl rfl rfl rfl cQ (fun _=>rfl) Fact.one (.t rfl) (.t rfl) (hS.own 0 rfl) (Ay hE23) (by have:=hfl;simp[maxLen];omega) (by have:=hfl;simp;omega)) rfl ?_
   intro v24 w7 Gw7
   replace hS:=hS.Fs 0 rfl Gw7
   refine LW.A rfl (LW.nil (Al (Ac (Aa (U (.ic rfl oQ) (I rfl (LW.nil (Av ?_))))))))
   exact⟨(k+1,v24),⟨by show k+1≤_;omega,by(rw[qX hx h18];exact hS.take 1)⟩,tQ,by show l.length-(k+1)<l.length-k;omega⟩
  replace h18:=dQ h18
  refine Aj (Al (Ac (Aa (U (.ic rfl oQ) (I rfl (LW.nil (Av ?_)))))))
  exact⟨(k+1,v),⟨by show k+1≤_;omega,by(rw[yJ hx h18];exact hS.take 1)⟩,tQ,by show l.length-(k+1)<l.length-k;omega⟩
 replace h13:=dQ h13
 refine A8 (Ab (Ab (Aq (Ac (Af (I rfl (LW.A rfl (Ah (Am (KW.q ?_))))))))))
 have hkl:k=l.length:=by omega
 rw[hkl,b8]at hS
 exact⟨Tn hS,hS.Ch⟩
theorem rK(pf:Nat)(lb:Array Go.Value)(p:Fact→Bool)(hen:∀args w,(callFunc pf args).run prog w=.ok (.enter pf args) w)(ad:Option Addr)(cp:Nat)(l:List Fact)(w:World)(hE0:Els w ad 19 Fact.cells l)(hl:l.length≤1000000000)(hp:∀W,Up w W→∀x∈l,Ret prog pf (#[.agg x.cells]++lb) W fun r W'=>r=.bool (p x)∧Up W W'):Ret prog 169 #[.slice ad l.length cp,.func (.func 170) #[] #[],.func (.func pf) #[] lb] w fun r w'=>OwnS w' w.heap.size 35 19 Fact.cells r (l.filter p)∧Up w w':=by
 obtain⟨w0,rfl,hS⟩:=W0 w
 refine cT 27 func169 rfl (Af (Az (An (Aa (Az (An (Ai ?_)))))))
 replace hS:=hS.add (Up.refl _) (A':=Aw 35 19 Fact.cells (.slice none 0 0) ([]:List Fact)) (OwnS.nil _ _ _ _ _) (fun i h=>by cases h)
 refine Aa (I rfl (U (.Ck nz (.t rfl)) (U (.move (.const _)) (Ah (Ak (A6 (σ:=Nat×Go.Value) (fun s w=>(s.1≤l.length)∧(Wx.Sep no w0 w [Aw 35 19 Fact.cells s.2 ((l.take s.1).filter p)])) (fun s=>[(12,.eq (vi (s.1:Int))),(7,.eq (s.2))]) ([(1,.eq _),(2,.eq _),(6,.eq _),(10,.eq _),(11,.eq _)]) (fun s=>l.length-s.1) (0,.slice none 0 0) ?_ tQ ?_))))))
 ·exact⟨a8 _,hS⟩
 rintro⟨k,v⟩ w1 ⟨hk,hS⟩
 change CW _ _ _ _ _ _ _ ([(12,.eq (vi (k:Int))),(7,.eq (v))]++_) _
 refine Af (U (.l2 rfl rfl) (An (CW.b rfl (fun h13=>?_) (fun h13=>?_))))
 ·replace h13:=dQ h13
  refine Aj (Ac (Ai (Ak (Ai ?_))))
  have hE:=hE0.up hS.Ch
  refine Aa ?_
  obtain⟨x,hx⟩:=Ae (xs:=l) (i:=k) oQ
  obtain⟨Bx,ox,ax,hcx⟩:=hE _ x hx
  refine U (.Ao nz n9 (.t rfl) (.t rfl) oQ ax) (U (.lc rfl (hcx)) (Ap (.Cb zeroValue220) rfl ?_))
  rintro _ w2 ⟨B9,rfl,MB9⟩
  refine Cd (.Cc n9 rfl (.t rfl) (.t rfl) (Fact.one _) MB9.blk rfl) ?_
  intro w3 LB9
  have NB9:=MB9.set LB9
  replace hcx:=hcx.up NB9.up
  replace hS:=hS.Cg NB9
  refine An (Aa (I rfl (U (.lc rfl (hS.b1.agg)) (A4 (Cu (.t rfl) (.cu rfl) (hen)) rfl (hp _ hS.Ch x (ai hx)) ?_))))
  rintro _ w4 ⟨rfl,uw4⟩
  replace hS:=hS.up uw4
  refine Ah (CW.b rfl (fun h18=>?_) (fun h18=>?_))
  ·replace h18:=dQ h18
   have hfl:=aJ p l k
   refine Aa (I rfl (I rfl (U (.lc rfl (hS.b1.agg)) (A4 (Ey (.t rfl) (.cu rfl) (EJ)) rfl (vW _ _) ?_))))
   rintro _ w5 ⟨rfl,uw5⟩
   replace hS:=hS.up uw5
   refine Ap (.buildSlice (xs:=[x]) (enc:=Fact.cells) (mk:=fun f:Fact=>.agg f.cells) lf lh ll rfl cQ (fun _=>rfl) (fun _=>rfl) (.cu rfl) rfl) rfl ?_
   rintro _ w6 ⟨B23,cB23,rfl,NB23,yB23,xB23⟩
   replace hS:=hS.up NB23.up
   have hE23:=xB23
   refine Ap (.C3 (enc:=Fact.cells) (bytes:=160) (i:=Tryz.t35) lf kQ rfl rfl rfl rfl cQ (fun _=>rfl) Fact.one (.t rfl) (.t rfl) (hS.own 0 rfl) (Ay hE23) (by have:=hfl;simp[maxLen];omega) (by have:=hfl;simp;omega)) rfl ?_
   intro v24 w7 Gw7
   replace hS:=hS.Fs 0 rfl Gw7
   refine LW.A rfl (LW.nil (Al (Ac (Aa (U (.ic rfl oQ) (I rfl (LW.nil (Av ?_))))))))
   exact⟨(k+1,v24),⟨by show k+1≤_;omega,by(rw[qX hx h18];exact hS.take 1)⟩,tQ,by show l.length-(k+1)<l.length-k;omega⟩
  replace h18:=dQ h18
  refine Aj (Al (Ac (Aa (U (.ic rfl oQ) (I rfl (LW.nil (Av ?_)))))))
  exact⟨(k+1,v),⟨by show k+1≤_;omega,by(rw[yJ hx h18];exact hS.take 1)⟩,tQ,by show l.length-(k+1)<l.length-k;omega⟩
 replace h13:=dQ h13
 refine A8 (Ab (Ab (Aq (Ac (Af (I rfl (LW.A rfl (Ah (Am (KW.q ?_))))))))))
 have hkl:k=l.length:=by omega
 rw[hkl,b8]at hS
 exact⟨Tn hS,hS.Ch⟩
theorem Kn(n:Int)(w:World):Ret prog 34 #[vi n] w fun r w'=>r=.bool (Iq n)∧Up w w':=by
 have hW:=Up.refl w
 refine cT 9 func34 rfl (Af (Az (An (Aa (I rfl (U (.geq (.t rfl) (.const _)) (I rfl (Hc rfl rfl (LW.gr rfl (fun hc=>PEv.leq vQ (.const _)) (U (.pa rfl (fun hp=>(by exact .cond rfl (by simp_all)))) (LW.A rfl (Ah (Am (KW.q ?_))))))))))))))
 exact⟨rfl,hW⟩
theorem Xy(b:Nat)(m:List (Int×Int))(mark:Int)(w:World)(hM:IMap w b (iX m)):Ret prog 36 #[.map (some b),vi mark] w fun r w'=>r=vi (U4 m mark)∧Up w w':=by
 have hW:=Up.refl w
 refine cT 16 func36 rfl (Af (Az (An (Af (I rfl (I rfl (U (.vS underlying98 li lq (.t rfl) (.t rfl) hM) (I rfl (U (.xt rfl rfl) (U (.xt rfl rfl) (LW.A rfl (LW.A rfl (An (Aa (I rfl (Ah (CW.b rfl (fun h13=>?_) (fun h13=>?_))))))))))))))))))
 ·obtain⟨v,hv⟩:=f7.1 h13
  refine Af (I rfl (LW.A rfl (Ah (Am (Ar (KW.q ?_))))))
  exact⟨by unfold U4;rw[hv];rfl,hW⟩
 have hv:vP m mark=none:=by simpa using h13
 refine Aj (Ac (Af (I rfl (LW.A rfl (Ah (Am (KW.q ?_)))))))
 exact⟨by unfold U4;rw[hv];rfl,hW⟩
theorem fG(f:Fact)(Bm b:Nat)(m:List (Int×Int))(w:World)(hB:Blk w Bm #[.map (some b)] 98)(hM:IMap w b (iX m)):Ret prog 94 #[.agg f.cells,.pointer (some ⟨Bm,0,none⟩)] w fun r w'=>r=.tuple #[]∧Stp (Il b (iX m)) (Il b (iX (rG m f))) w w':=by
 have hW:=Up.refl w
 refine cT 19 func94 rfl (Af (Ap (.bA rfl) rfl ?_))
 rintro _ w1 ⟨B2,rfl,NB2⟩
 replace hB:=hB.up NB2.up
 replace hM:=hM.up NB2.up
 replace hW:=hW.up NB2.up
 have hB2:=NB2.blk
 refine Ah (dZ 18 b 14 15 16 17 13 9 17 18 3 5 12 6 8 16 [.eq (.map (some b)),.eq (.pointer (some ⟨B2,7,none⟩)),.eq (vi (f.Wafer)),.eq (.map (some b)),.eq (.pointer (some ⟨B2,8,none⟩)),.eq (vi (f.Other)),.eq (.map (some b)),.eq (.pointer (some ⟨B2,8,none⟩)),.eq (vi (f.Other)),.eq (vi (U4 m f.Other)),.eq (.map (some b)),.eq (.pointer (some ⟨B2,7,none⟩)),.eq (vi (f.Wafer)),.eq (vi (U4 m f.Wafer)),.pred fun _ _=>True,.pred fun _ _=>True,.eq undef,.eq undef] (k1:=f.Wafer) (k2:=f.Other) (v1:=vi (U4 m f.Other)) (v2:=vi (U4 m f.Wafer)) underlying98 li lq kQ rfl kQ kQ kQ kQ kQ kQ kQ kQ kQ ⟨_,_,_,rfl⟩ ⟨_,_,_,rfl⟩ ⟨_,_,_,rfl⟩ ⟨_,_,_,rfl⟩ ⟨PhC.eq _,PhC.eq _,PhC.eq _,PhC.eq _,PhC.eq _,PhC.eq _,PhC.eq _,PhC.eq _,PhC.eq _,PhC.eq _,PhC.eq _,PhC.eq _,PhC.eq _,PhC.eq _,PhC.pred (fun _ _ _ _ _=>trivial),PhC.pred (fun _ _ _ _ _=>trivial),PhC.eq _,PhC.eq _,trivial⟩ (fun _ _=>trivial) (fun _ _=>trivial) (fun _ h=>by cases h;exact⟨rfl,rfl⟩) (fun _ h=>by cases h;exact⟨rfl,rfl⟩) (fun _ h=>by cases h;exact⟨rfl,rfl,rfl⟩) hM ?_ ?_)
 ·intro W hU
  refine aC (.inr ⟨rfl,fun hI=>TU.p (.lb rfl (hU.cell _ _ (G2 (hB.Ad rfl) (Up.drew _)))) rfl⟩) (aC (.inr ⟨rfl,fun hI=>TU.p (.fB 7 rfl) rfl⟩) (aC (.inr ⟨rfl,fun hI=>TU.p (.lb rfl (hU.cell _ _ (G2 (hB2.Ad rfl) (Up.drew _)))) rfl⟩) (aC (.inr ⟨rfl,fun hI=>TU.p (.lb rfl (hU.cell _ _ (G2 (hB.Ad rfl) (Up.drew _)))) rfl⟩) (aC (.inr ⟨rfl,fun hI=>TU.p (.fB 8 rfl) rfl⟩) (aC (.inr ⟨rfl,fun hI=>TU.p (.lb rfl (hU.cell _ _ (G2 (hB2.Ad rfl) (Up.drew _)))) rfl⟩) (aC (.inr ⟨rfl,fun hI=>TU.p (.lb rfl (hU.cell _ _ (G2 (hB.Ad rfl) (Up.drew _)))) rfl⟩) (aC (.inr ⟨rfl,fun hI=>TU.p (.fB 8 rfl) rfl⟩) (aC (.inr ⟨rfl,fun hI=>TU.p (.lb rfl (hU.cell _ _ (G2 (hB2.Ad rfl) (Up.drew _)))) rfl⟩) (aC (.inr ⟨rfl,fun hI=>TU.c (eC (.u rfl rfl) (zC)) (Xy _ _ _ _ (hI (.inr rfl))) sQ⟩) (aC (.inr ⟨rfl,fun hI=>TU.p (.lb rfl (hU.cell _ _ (G2 (hB.Ad rfl) (Up.drew _)))) rfl⟩) (aC (.inr ⟨rfl,fun hI=>TU.p (.fB 7 rfl) rfl⟩) (aC (.inr ⟨rfl,fun hI=>TU.p (.lb rfl (hU.cell _ _ (G2 (hB2.Ad rfl) (Up.drew _)))) rfl⟩) (aC (.inr ⟨rfl,fun hI=>TU.c (eC (.u rfl rfl) (zC)) (Xy _ _ _ _ (hI (.inl rfl))) sQ⟩) (aC (.inl cQ) (aC (.inl cQ) (aC (.inl cQ) (aC (.inl cQ) ?_)))))))))))))))))
  exact allL.nil
 intro w2 hFr hM2
 rw[aP,aP]at hM2
 refine LW.nil (Dh rfl ⟨_,rfl,?_⟩)
 exact⟨rfl,vT hM2 ((hW.trans (Up.drew _)).fr _|>.trans hFr)⟩
theorem rL(f:Fact)(Bt:Nat)(t:Int)(w:World)(hB:Blk w Bt #[vi t] 3):Ret prog 95 #[.agg f.cells,.pointer (some ⟨Bt,0,none⟩)] w fun r w'=>r=.bool (P8 t f)∧Up w w':=by
 have hW:=Up.refl w
 refine cT 18 func95 rfl (Af (Ap (.bA rfl) rfl ?_))
 rintro _ w1 ⟨B2,rfl,NB2⟩
 replace hB:=hB.up NB2.up
 replace hW:=hW.up NB2.up
 have hB2:=NB2.blk
 refine Az (An (Aa (U (.fB 7 rfl) (U (.lb rfl (hB2.Ad rfl)) (A4 (eC (.o rfl) (kC)) rfl (Kn _ _) ?_)))))
 rintro _ w2 ⟨rfl,uw2⟩
 replace hB:=hB.up uw2
 replace hW:=hW.up uw2
 replace hB2:=hB2.up uw2
 refine I rfl (LW.gr rfl (fun hc=>PEv.fB 8 rfl) (LW.gr rfl (fun hc=>PEv.load l7 vQ (hB2.Ad rfl)) (gK rfl rfl rfl rfl rfl rfl rfl rfl (fun hc=>Bi (.cons vQ .nil) (kC)) (fun hc=>Kn _ _) ?_)))
 intro w3 uw3
 replace hB:=hB.up uw3
 replace hW:=hW.up uw3
 replace hB2:=hB2.up uw3
 refine U (.pa rfl (fun hp=>(by exact .cond rfl (by simp_all)))) (I rfl (LW.gr rfl (fun hc=>PEv.fB 5 rfl) (LW.gr rfl (fun hc=>PEv.load l7 vQ (hB2.Ad rfl)) (LW.gr rfl (fun hc=>PEv.lb rfl (hB.Ad rfl)) (LW.gr rfl (fun hc=>PEv.leq vQ vQ) (U (.pa rfl (fun hp=>(by exact .cond rfl (by simp_all)))) (LW.A rfl (Ah (Am (KW.q ?_))))))))))
 exact⟨rfl,hW⟩
theorem rM(v:Go.Value)(xs:List Fact)(w:World)(ho:OwnS w 0 220 19 Fact.cells v xs)(h63:xs.length≤1000000000):Ret prog 167 #[v,.func (.func 168) #[] #[]] w fun r w'=>r=.tuple #[]∧Stp (Aw 220 19 Fact.cells v xs) (Aw 220 19 Fact.cells v (H9 E7 xs)) w w':=by
 have h0:=ho
 obtain⟨_,⟨rfl,hn⟩|⟨g,cap,cur,rfl,_⟩⟩:=h0
 · have hx:xs=[]:=dl hn
   subst hx
   exact(Me false _ w).mono fun r w'⟨e,u⟩=>⟨e,(Stp.refl ho).up u⟩
 refine(Md false 168 #[] E7 EH g xs.length cap xs w ho h63 (fun W _ x y=>Xx x y W)).mono ?_
 rintro r w' ⟨e,zs,hz,hs⟩
 rw[hz.eq]at hs
 exact⟨e,hs⟩
theorem Q7(pf:Nat)(lb:Array Go.Value)(p:Fact→Bool)(hen:∀args w,(callFunc pf args).run prog w=.ok (.enter pf args) w)(ad:Option Addr)(cp:Nat)(l:List Fact)(w:World)(hE0:Els w ad 19 Fact.cells l)(hl:l.length≤1000000000)(hp:∀W,Up w W→∀x∈l,Ret prog pf (#[.agg x.cells]++lb) W fun r W'=>r=.bool (p x)∧Up W W'):Ret prog 89 #[.slice ad l.length cp,.func (.func pf) #[] lb] w fun r w'=>OwnS w' w.heap.size 35 19 Fact.cells r (Mi p l)∧Up w w':=by
 obtain⟨w0,rfl,hS⟩:=W0 w
 refine cT 13 func89 rfl (Af (Az (An (Aa (I rfl (I rfl (A4 (eC (.ct rfl (.cons (.func _) (.cu rfl))) (EE)) rfl (rJ pf lb p hen ad cp l _ (Els.up hE0 hS.Ch) hl (fun W hU=>hp W (hS.Ch.trans hU))) ?_)))))))
 rintro v8 w1 ⟨hO8,uw1⟩
 have zw1:=uw1.size
 replace hS:=hS.add uw1 (A':=Aw 220 19 Fact.cells v8 (l.filter p)) (hO8.mono (a8 _)) (fun i h=>hO8.base i h)
 refine LW.A rfl (An (Aa (I rfl (A4 (eC (.ct rfl (.cons (.func _) .nil)) (EG)) rfl (rM v8 (l.filter p) _ (hS.own 0 rfl) (bu (ef _ _) hl)) ?_))))
 rintro _ w2 ⟨rfl,uw2⟩
 have zw2:=uw2.fr.size
 replace hS:=hS.Fs 0 rfl uw2
 obtain⟨ad9,cp9,rfl,hE9⟩:=(hS.own 0 rfl).sl (fun _=>rfl)
 have hl9:(H9 E7 (l.filter p)).length≤1000000000:=by rw[(D8 _).same.length];exact bu (ef _ _) hl
 refine An (Aa (I rfl (A4 (eC (.ct rfl (.cons (.func _) (.cons (.func _) .nil))) (EI)) rfl (rK 171 #[] (fun _=>true) EK ad9 cp9 (H9 E7 (l.filter p)) _ hE9 hl9 (fun W _ x _=>lZ x W)) ?_)))
 rintro v12 w3 ⟨hO12,uw3⟩
 have zw3:=uw3.size
 replace hS:=hS.up uw3
 rw[ir.2 (fun _ _=>rfl)]at hO12
 replace hO12:=hO12.mono (show w0.heap.size≤_ by omega)
 refine LW.A rfl (Ah (Am (KW.q ?_)))
 exact⟨hO12,hS.Ch⟩
theorem AY(bc:Array Go.Value)(bs:Base)(time:Int)(w:World)(hC:BaseC w bc bs)(hl:bs.Swaps.length≤1000000000):Ret prog 35 #[.agg bc,vi time] w fun r w'=>∃b,r=.map (some b)∧IMap w' b (iX (Xv bs.Swaps time))∧w.heap.size≤b∧Up w w':=by
 obtain⟨w0,rfl,hS⟩:=W0 w
 refine cT 25 func35 rfl (Af (Ap (.bA rfl) rfl ?_))
 rintro _ w1 ⟨B2,rfl,NB2⟩
 replace hS:=hS.Cg NB2
 refine Ap (.Pu (.t rfl) rfl) rfl ?_
 rintro _ w2 ⟨B3,rfl,NB3⟩
 replace hS:=hS.Cg NB3
 refine Az (An ?_)
 skip
 refine Aa (LW.r REv.makeMap rfl rfl rfl rfl ?_)
 rintro _ w3 ⟨M9,rfl,hMM9,uw3,eM9,zw3⟩
 replace hS:=hS.add uw3 (A':=Il M9 (iX [])) hMM9 (fun i(h:i=M9)=>by omega)
 refine Ap (.Gl zeroValue98 rfl) rfl ?_
 rintro _ w4 ⟨B5,rfl,MB5⟩
 refine Cd (.store sizeOf98 (.t rfl) (.t rfl) rfl MB5.blk cQ) ?_
 intro w5 LB5
 have NB5:=MB5.set LB5
 replace hS:=hS.Cg NB5
 refine An (Aa (U (.makeFunc (.cu rfl)) (LW.A rfl (An (Ai ?_)))))
 obtain⟨v2,h2,ad,cp,rfl,hEs⟩:=(hC.up hS.Ch).LD
 refine Aa (U (.fB 2 rfl) (U (.lb rfl (hS.b0.cell h2)) (U (.makeFunc (.cu rfl)) (A4 (eC (.u rfl rfl) (CO)) rfl (Q7 95 #[.pointer (some ⟨B3,0,none⟩)] (P8 time) KD ad cp bs.Swaps _ hEs hl (fun W hU x _=>rL x B3 time W ((hS.b1).up hU))) ?_))))
 rintro v14 w6 ⟨hO14,uw6⟩
 replace hS:=hS.add uw6 (A':=Aw 35 19 Fact.cells v14 ((Mi (P8 time) bs.Swaps))) (hO14.mono (a8 _)) (fun i h=>hO14.base i h)
 obtain⟨ad14,cp14,rfl,_⟩:=(hS.own 4 rfl).sl (fun _=>rfl)
 refine U (.Ck lf (.t rfl)) (U (.move (.const _)) (Ah (Ak (A6 (σ:=Nat) (fun s w=>(s≤(Mi (P8 time) bs.Swaps).length)∧(Wx.Sep no w0 w [A5 B2 bc 37,A5 B3 #[vi time] 3,Il M9 (iX (((Mi (P8 time) bs.Swaps).take s).foldl rG [])),A5 B5 #[.map (some M9)] 98,Aw 35 19 Fact.cells (.slice ad14 (Mi (P8 time) bs.Swaps).length cp14) ((Mi (P8 time) bs.Swaps))])) (fun s=>[(16,.eq (vi (s:Int)))]) ([(4,.eq _),(5,.eq _),(6,.eq _),(14,.eq _),(15,.eq _)]) (fun s=>(Mi (P8 time) bs.Swaps).length-s) 0 ?_ tQ ?_))))
 ·exact⟨a8 _,hS⟩
 rintro k w7 ⟨hk,hS⟩
 refine Af (U (.l2 rfl rfl) (An (CW.b rfl (fun h17=>?_) (fun h17=>?_))))
 ·replace h17:=dQ h17
  refine Aj (Ac (Ai (Ak (Ai ?_))))
  have hE:=(hS.own 4 rfl).els (fun _=>rfl)
  have hol:=aN (P8 time) bs.Swaps
  refine Aa ?_
  obtain⟨x,hx⟩:=Ae (xs:=(Mi (P8 time) bs.Swaps)) (i:=k) oQ
  obtain⟨Bx,ox,ax,hcx⟩:=hE _ x hx
  refine U (.Ao lf lh (.t rfl) (.t rfl) oQ ax) (U (.lc rfl (hcx)) (Ap (.Cb ll) rfl ?_))
  rintro _ w8 ⟨B8,rfl,MB8⟩
  refine Cd (.Cc lh rfl (.t rfl) (.t rfl) (Fact.one _) MB8.blk rfl) ?_
  intro w9 LB8
  have NB8:=MB8.set LB8
  replace hcx:=hcx.up NB8.up
  replace hS:=hS.Cg NB8
  refine Ah (Aa (I rfl (U (.lc rfl (hS.b5.agg)) (A4 (Cu (.t rfl) (.cu rfl) (KC)) rfl (fG x B5 M9 _ _ hS.b3 (hS.get 2 rfl)) ?_))))
  rintro _ w10 ⟨rfl,uw10⟩
  replace hS:=hS.Fs 2 rfl uw10
  refine LW.nil (Al (Ac (Aa (U (.ic rfl oQ) (I rfl (LW.nil (Av ?_)))))))
  exact⟨k+1,⟨by omega,by rw[Cr hx,List.foldl_append];exact hS.take 5⟩,tQ,by omega⟩
 replace h17:=dQ h17
 refine A8 (Ab (Ab (Aq (Ac (Af (U (.lb rfl (hS.b3.Ad rfl)) (LW.A rfl (Ah (Am (KW.q ?_))))))))))
 have hkl:k=(Mi (P8 time) bs.Swaps).length:=by omega
 rw[hkl,b8]at hS
 exact⟨M9,rfl,hS.get 2 rfl,(hS.foot 2 rfl M9 rfl).resolve_left (fun h=>h),hS.Ch⟩
set_option maxHeartbeats 1000000 in
theorem iZ(bc:Array Go.Value)(b:Base)(wafer time:Int)(w:World)(hC:BaseC w bc b)(hlen:b.Lots.length<9223372036854775807):Ret prog 82 #[.agg bc,vi wafer,vi time] w fun r w'=>r=.tuple #[vi (Hr b.Lots wafer time).1,vi (Hr b.Lots wafer time).2]∧Up w w':=by
 have hW:=Up.refl w
 obtain⟨w0,rfl,_⟩:=W0 w
 refine cT 61 func82 rfl (Af (Ap (.bA rfl) rfl ?_))
 rintro _ w1 ⟨B3,rfl,NB3⟩
 replace hC:=hC.up NB3.up
 replace hW:=hW.up NB3.up
 have hB3:=NB3.blk
 refine Az (Az (An (Aa (Az (An (Ai ?_))))))
 obtain⟨v3,h3,hr⟩:=hC.LF
 obtain⟨ad,cp,rfl,hE⟩:=hr
 refine Aa (U (.fB 3 rfl) (U (.lb rfl (hB3.cell h3)) (U (.Ck lf (.t rfl)) (U (.move (.const _)) (Ah (Ak (CW.loop (σ:=Nat×Option Nat) (fun s w=>(s.1≤b.Lots.length∧(∀j,s.2=some j→j<s.1)∧(s.2.bind fun j=>b.Lots[j]?)=F7 (b.Lots.take s.1) wafer time)∧Els w ad 19 Fact.cells b.Lots∧Blk w B3 bc 37∧Up w0 w) (fun s=>[(8,.eq (.pointer (Pa ad 19 s.2))),(14,.eq (vi (s.1:Int))),(1,.eq (vi wafer)),(2,.eq (vi time)),(3,.eq (.pointer (some ⟨B3,0,none⟩))),(12,.eq (.slice ad b.Lots.length cp)),(13,.eq (vi (b.Lots.length:Int)))]) (fun s=>b.Lots.length-s.1) (0,none) ?_ ?_ ?_)))))))
 ·exact⟨⟨a8 _,fun j e=>(by cases e),rfl⟩,hE,hB3,hW⟩
 ·exact tQ
 rintro⟨k,best⟩ w2 ⟨⟨hk,hj,hbest⟩,hE,hB3,hW⟩
 dsimp only at hk hj hbest
 rcases best with _|j
 ·skip
  refine Af (U (.l2 rfl rfl) (An (CW.b rfl (fun h15=>?_) (fun h15=>?_))))
  ·replace h15:=dQ h15
   refine Aj (Ac (Ai (Ak (Ai ?_))))
   obtain⟨x,hx⟩:=Ae (xs:=b.Lots) (i:=k) oQ
   obtain⟨B,o,had,hcell⟩:=hE k x hx
   subst had
   refine Aa (I rfl (U (.indexAddr lf lh (.t rfl) (.t rfl) oQ) (U (.lc rfl (hcell)) (Ap (.Cb ll) rfl ?_))))
   rintro _ w3 ⟨B10,rfl,MB10⟩
   refine LW.A rfl (Cd (.Cc lh rfl (.t rfl) (.t rfl) eQ MB10.blk rfl) ?_)
   intro w4 LB10
   have NB10:=MB10.set LB10
   replace hE:=hE.up NB10.up
   replace hB3:=hB3.up NB10.up
   replace hW:=hW.up NB10.up
   have hB10:=NB10.blk
   refine An (C5 kQ kQ rfl rfl (J (.mv rfl) (HW.c (fun a w _ ha=>Bi (.cu rfl) (kC) a ha) rfl rfl (fun w hu=>Kn _ _) (J (.mv rfl) (Fe rfl rfl rfl rfl rfl rfl (fun hc=>PEv.fB 7 rfl) (Fe rfl rfl rfl rfl rfl rfl (fun hc=>PEv.load l7 vQ (hB10.Ad rfl)) (Fe rfl rfl rfl rfl rfl rfl (fun hc=>PEv.mv rfl) (Fe rfl rfl rfl rfl rfl rfl (fun hc=>PEv.eql vQ vQ) (J (.pa rfl (fun hp=>(by exact .cond rfl (by simp_all)))) (J (.mv rfl) (Fe rfl rfl rfl rfl rfl rfl (fun hc=>PEv.fB 5 rfl) (Fe rfl rfl rfl rfl rfl rfl (fun hc=>PEv.load l7 vQ (hB10.Ad rfl)) (Fe rfl rfl rfl rfl rfl rfl (fun hc=>PEv.mv rfl) (Fe rfl rfl rfl rfl rfl rfl (fun hc=>PEv.leq vQ vQ) (J (.pa rfl (fun hp=>(by exact .cond rfl (by simp_all)))) (J (.mv rfl) (Fe rfl rfl rfl rfl rfl rfl (fun hc=>PEv.mv rfl) (Fe rfl rfl rfl rfl rfl rfl (fun hc=>PEv.K3 underlying193 vQ) (Fe rfl rfl rfl rfl rfl rfl (fun hc=>PEv.move vQ) (Nq rfl rfl rfl rfl rfl rfl rfl (Nq rfl rfl rfl rfl rfl rfl rfl (Nq rfl rfl rfl rfl rfl rfl rfl (Nq rfl rfl rfl rfl rfl rfl rfl (Nq rfl rfl rfl rfl rfl rfl rfl (Nq rfl rfl rfl rfl rfl rfl rfl (Nq rfl rfl rfl rfl rfl rfl rfl (Fe rfl rfl rfl rfl rfl rfl (fun hc=>PEv.Ev (b:=true) vQ (fun hp=>absurd (show true=false from hp) cQ)) (J (.pa rfl (fun hp=>(by exact .cond rfl (by simp_all)))) (HW.nil ?_)))))))))))))))))))))))))))))
   intro w5 uw5
   replace hE:=hE.up uw5
   replace hB3:=hB3.up uw5
   replace hW:=hW.up uw5
   replace hB10:=hB10.up uw5
   refine Ac (CW.b rfl (fun h45=>?_) (fun h45=>?_))
   ·replace h45:=dQ h45
    have hnew:F7 (b.Lots.take (k+1)) wafer time=some x:=by rw[Cr hx,Hn,←hbest];exact bh (by simpa[Km,Pa]using h45)
    have hend:∃s':Nat×Option Nat,s'.2=some k∧s'.1=k+1:=⟨(k+1,some k),rfl,rfl⟩
    refine Aa (U (.fB 3 rfl) (U (.lb rfl (hB3.cell h3)) (I rfl (U (.indexAddr lf lh (.t rfl) (.t rfl) oQ) (LW.A rfl (LW.nil (Al (Ac (Aa (U (.ic rfl oQ) (I rfl (LW.nil (Av ?_)))))))))))))
    exact⟨(k+1,some k),⟨⟨by omega,fun j e=>(by cases e;omega),by rw[hnew];exact hx⟩,hE,hB3,hW⟩,tQ,by omega⟩
   replace h45:=dQ h45
   have hnew:F7 (b.Lots.take (k+1)) wafer time=none:=by rw[Cr hx,Hn,←hbest];exact aq (by simpa[Km,Pa]using h45)
   refine Aj (Al (Ac (Aa (U (.ic rfl oQ) (I rfl (LW.nil (Av ?_)))))))
   exact⟨(k+1,none),⟨⟨by omega,fun j e=>(by cases e),by rw[hnew];rfl⟩,hE,hB3,hW⟩,tQ,by dsimp only;omega⟩
  replace h15:=dQ h15
  have hkk:k=b.Lots.length:=by omega
  subst hkk
  rw[b8]at hbest
  have hres:Hr b.Lots wafer time=(0,0):=by unfold Hr;rw[←hbest];rfl
  refine A8 (Ab (Ab (Aq (Ac (Ai (Af (I rfl (U (.K3 underlying193 (.t rfl)) (Ah (CW.v rfl (Af (Az (Az (Ah (Am (Ar (Gj rfl rfl rfl ⟨_,rfl,?_⟩)))))))))))))))))
  exact⟨by rw[hres]<;>rfl,hW⟩
 obtain⟨y,hy⟩:=Ae (xs:=b.Lots) (i:=j) (by have:=hj j rfl;omega)
 obtain⟨B,o,had,hyc⟩:=hE j y hy
 subst had
 have hby:F7 (b.Lots.take k) wafer time=some y:=by rw[←hbest];exact hy
 refine Af (U (.l2 rfl rfl) (An (CW.b rfl (fun h15=>?_) (fun h15=>?_))))
 ·replace h15:=dQ h15
  refine Aj (Ac (Ai (Ak (Ai ?_))))
  obtain⟨x,hx⟩:=Ae (xs:=b.Lots) (i:=k) oQ
  obtain⟨B',o',e',hcell⟩:=hE k x hx
  cases e'
  refine Aa (I rfl (U (.indexAddr lf lh (.t rfl) (.t rfl) oQ) (U (.lc rfl (hcell)) (Ap (.Cb ll) rfl ?_))))
  rintro _ w6 ⟨B10,rfl,MB10⟩
  refine LW.A rfl (Cd (.Cc lh rfl (.t rfl) (.t rfl) eQ MB10.blk rfl) ?_)
  intro w7 LB10
  have NB10:=MB10.set LB10
  replace hE:=hE.up NB10.up
  replace hB3:=hB3.up NB10.up
  replace hW:=hW.up NB10.up
  replace hyc:=hyc.up NB10.up
  have hB10:=NB10.blk
  refine An (C5 kQ kQ rfl rfl (J (.mv rfl) (HW.c (fun a w _ ha=>Bi (.cu rfl) (kC) a ha) rfl rfl (fun w hu=>Kn _ _) (J (.mv rfl) (Fe rfl rfl rfl rfl rfl rfl (fun hc=>PEv.fB 7 rfl) (Fe rfl rfl rfl rfl rfl rfl (fun hc=>PEv.load l7 vQ (hB10.Ad rfl)) (Fe rfl rfl rfl rfl rfl rfl (fun hc=>PEv.mv rfl) (Fe rfl rfl rfl rfl rfl rfl (fun hc=>PEv.eql vQ vQ) (J (.pa rfl (fun hp=>(by exact .cond rfl (by simp_all)))) (J (.mv rfl) (Fe rfl rfl rfl rfl rfl rfl (fun hc=>PEv.fB 5 rfl) (Fe rfl rfl rfl rfl rfl rfl (fun hc=>PEv.load l7 vQ (hB10.Ad rfl)) (Fe rfl rfl rfl rfl rfl rfl (fun hc=>PEv.mv rfl) (Fe rfl rfl rfl rfl rfl rfl (fun hc=>PEv.leq vQ vQ) (J (.pa rfl (fun hp=>(by exact .cond rfl (by simp_all)))) (J (.mv rfl) (Fe rfl rfl rfl rfl rfl rfl (fun hc=>PEv.mv rfl) (Fe rfl rfl rfl rfl rfl rfl (fun hc=>PEv.K3 underlying193 vQ) (Fe rfl rfl rfl rfl rfl rfl (fun hc=>PEv.move vQ) (R7 rfl rfl rfl rfl rfl rfl (fun hc=>PEv.fB 5 rfl) (R7 rfl rfl rfl rfl rfl rfl (fun hc=>PEv.load l7 vQ (hB10.Ad rfl)) (R7 rfl rfl rfl rfl rfl rfl (fun hc=>PEv.mv rfl) (R7 rfl rfl rfl rfl rfl rfl (fun hc=>PEv.nilCheck vQ) (R7 rfl rfl rfl rfl rfl rfl (fun hc=>PEv.fieldAddr (off:=5) me rfl rfl lg rfl vQ) (R7 rfl rfl rfl rfl rfl rfl (fun hc=>PEv.load l7 vQ (hyc.nth (j:=5) rfl)) (R7 rfl rfl rfl rfl rfl rfl (fun hc=>PEv.gtr vQ vQ) (Fe rfl rfl rfl rfl rfl rfl (fun hc=>PEv.Ev vQ (fun hp=>(by exact .cond rfl (by simp_all)))) (J (.pa rfl (fun hp=>(by exact .cond rfl (by simp_all)))) (HW.nil ?_)))))))))))))))))))))))))))))
  intro w8 uw8
  replace hE:=hE.up uw8
  replace hB3:=hB3.up uw8
  replace hW:=hW.up uw8
  replace hyc:=hyc.up uw8
  replace hB10:=hB10.up uw8
  refine Ac (CW.b rfl (fun h45=>?_) (fun h45=>?_))
  ·replace h45:=dQ h45
   have hnew:F7 (b.Lots.take (k+1)) wafer time=some x:=by rw[Cr hx,Hn,hby];exact bh (by simpa[Km,Pa]using h45)
   refine Aa (U (.fB 3 rfl) (U (.lb rfl (hB3.cell h3)) (I rfl (U (.indexAddr lf lh (.t rfl) (.t rfl) oQ) (LW.A rfl (LW.nil (Al (Ac (Aa (U (.ic rfl oQ) (I rfl (LW.nil (Av ?_)))))))))))))
   exact⟨(k+1,some k),⟨⟨by omega,fun j e=>(by cases e;omega),by rw[hnew];exact hx⟩,hE,hB3,hW⟩,tQ,by omega⟩
  replace h45:=dQ h45
  have hnew:F7 (b.Lots.take (k+1)) wafer time=some y:=by rw[Cr hx,Hn,hby];exact aq (by simpa[Km,Pa]using h45)
  refine Aj (Al (Ac (Aa (U (.ic rfl oQ) (I rfl (LW.nil (Av ?_)))))))
  exact⟨(k+1,some j),⟨⟨by omega,fun i e=>(by cases e;have:=hj j rfl;omega),by rw[hnew];exact hy⟩,hE,hB3,hW⟩,tQ,by dsimp only;omega⟩
 replace h15:=dQ h15
 have hkk:k=b.Lots.length:=by omega
 subst hkk
 rw[b8]at hby
 have hres:Hr b.Lots wafer time=(y.Lot,y.Product):=by unfold Hr;rw[hby]
 refine A8 (Ab (Ab (Aq (Ac (Ai (Af (I rfl (U (.K3 underlying193 (.t rfl)) (Ah (CW.f rfl (Aj (Ac (Ai (C5 kQ kQ rfl rfl (J (.mv rfl) (J (.nc rfl) (J (.fB 9 rfl) (J (.lb rfl (hyc.nth (j:=9) rfl)) (J (.mv rfl) (J (.nc rfl) (J (.fB 10 rfl) (J (.lb rfl (hyc.nth (j:=10) rfl)) (J (.assign (.t rfl)) (J (.assign (.t rfl)) (HW.nil ?_)))))))))))))))))))))))))
 intro w9 uw9
 replace hE:=hE.up uw9
 replace hB3:=hB3.up uw9
 replace hW:=hW.up uw9
 replace hyc:=hyc.up uw9
 refine Ac (Am (Gj rfl rfl rfl ⟨_,rfl,?_⟩))
 exact⟨by rw[hres]<;>rfl,hW⟩
theorem Xz(bc:Array Go.Value)(bs:Base)(mark time:Int)(w:World)(hC:BaseC w bc bs)(hl:bs.Swaps.length≤1000000000):Ret prog 13 #[.agg bc,vi mark,vi time] w fun r w'=>r=vi (Ib bs.Swaps time mark)∧Up w w':=by
 have hW:=Up.refl w
 refine cT 15 func13 rfl (Af (Ap (.bA rfl) rfl ?_))
 rintro _ w1 ⟨B3,rfl,NB3⟩
 replace hC:=hC.up NB3.up
 replace hW:=hW.up NB3.up
 have hB3:=NB3.blk
 refine Az (An (Af (I rfl (A4 (eC (.o rfl) (kC)) rfl (Kn _ _) ?_))))
 rintro _ w2 ⟨rfl,uw2⟩
 replace hC:=hC.up uw2
 replace hW:=hW.up uw2
 replace hB3:=hB3.up uw2
 refine U (.n1 rfl) (Ah (CW.b rfl (fun h9=>?_) (fun h9=>?_)))
 ·have hi:Iq mark=false:=by simpa using h9
  refine Af (Az (Ah (Am (Ar (KW.q ?_)))))
  exact⟨by rw[Ib,aq (by rw[hi];decide)],hW⟩
 have hi:Iq mark=true:=by simpa using h9
 refine Aj (Ac (Af (U (.Fz ml l6 (hC.size) (.t rfl) (hB3.agg)) (I rfl (A4 (eC (.u rfl rfl) (IU)) rfl (AY bc bs time _ hC hl) ?_)))))
 rintro _ w3 ⟨b,rfl,hM,zM,uw3⟩
 replace hC:=hC.up uw3
 replace hW:=hW.up uw3
 replace hB3:=hB3.up uw3
 refine I rfl (A4 (eC (.u rfl rfl) (zC)) rfl (Xy b _ mark _ hM) ?_)
 rintro _ w4 ⟨rfl,uw4⟩
 replace hC:=hC.up uw4
 replace hW:=hW.up uw4
 replace hB3:=hB3.up uw4
 replace hM:=hM.up uw4
 refine LW.A rfl (Ah (Am (KW.q ?_)))
 exact⟨by rw[Ib,bh hi],hW⟩
theorem fH(f:Fact)(Bb Bw:Nat)(bc:Array Go.Value)(bs:Base)(wafer:Int)(w:World)(hC:BaseC w bc bs)(hl:bs.Swaps.length≤1000000000)(hBb:Blk w Bb bc 37)(hBw:Blk w Bw #[vi wafer] 3):Ret prog 90 #[.agg f.cells,.pointer (some ⟨Bb,0,none⟩),.pointer (some ⟨Bw,0,none⟩)] w fun r w'=>r=.bool (decide (Ib bs.Swaps f.Time f.Wafer=wafer))∧Up w w':=by
 have hW:=Up.refl w
 refine cT 13 func90 rfl ?_
 refine Af ?_
 refine Ap (.bA rfl) rfl ?_
 rintro _ w1 ⟨B3,rfl,NB3⟩
 have eB3:=NB3.at_
 have zB3:=NB3.size
 replace hC:=hC.up NB3.up
 replace hBb:=hBb.up NB3.up
 replace hBw:=hBw.up NB3.up
 replace hW:=hW.up NB3.up
 have hB3:=NB3.blk
 refine Az (An ?_)
 refine C5 kQ kQ rfl rfl ?_
 refine J (.Fz ml l6 (hC.size) (.t rfl) (hBb.agg)) ?_
 refine J (.fB 7 rfl) ?_
 refine J (.lb rfl (hB3.Ad rfl)) ?_
 refine J (.fB 5 rfl) ?_
 refine J (.lb rfl (hB3.Ad rfl)) ?_
 refine HW.c (fun a w _ ha=>Bi (.ct rfl (.ct rfl (.cu rfl))) (yV) a ha) rfl rfl (fun w hu=>Xz bc bs _ _ w (hC.up hu) hl) ?_
 refine J (.lb rfl (hBw.Ad rfl)) ?_
 refine J (.eql (.t rfl) (.t rfl)) ?_
 refine J (.assign (.t rfl)) ?_
 refine HW.nil ?_
 intro w2 uw2
 have zw2:=uw2.size
 replace hC:=hC.up uw2
 replace hBb:=hBb.up uw2
 replace hBw:=hBw.up uw2
 replace hW:=hW.up uw2
 replace hB3:=hB3.up uw2
 refine Ac (Am ?_)
 refine KW.q ?_
 exact⟨rfl,hW⟩
theorem Q8(bc:Array Go.Value)(bs:Base)(wafer:Int)(w:World)(hC:BaseC w bc bs)(hl:bs.Swaps.length≤1000000000)(hp:bs.Processes.length≤1000000000):Ret prog 28 #[.agg bc,vi wafer] w fun r w'=>OwnS w' w.heap.size 35 19 Fact.cells r (Dg bs.Processes bs.Swaps wafer)∧Up w w':=by
 have hW:=Up.refl w
 obtain⟨w0,rfl,_⟩:=W0 w
 refine cT 12 func28 rfl ?_
 refine Af ?_
 refine Ap (.bA rfl) rfl ?_
 rintro _ w1 ⟨B2,rfl,NB2⟩
 have eB2:=NB2.at_
 have zB2:=NB2.size
 replace hC:=hC.up NB2.up
 replace hW:=hW.up NB2.up
 have hB2:=NB2.blk
 refine Ap (.Pu (.t rfl) rfl) rfl ?_
 rintro _ w2 ⟨B3,rfl,NB3⟩
 have eB3:=NB3.at_
 have zB3:=NB3.size
 replace hC:=hC.up NB3.up
 replace hW:=hW.up NB3.up
 replace hB2:=hB2.up NB3.up
 have hB3:=NB3.blk
 refine Az (An (Af ?_))
 refine U (.lb rfl (hB3.Ad rfl)) ?_
 refine A4 (eC (.o rfl) (kC)) rfl (Kn _ _) ?_
 rintro _ w3 ⟨rfl,uw3⟩
 have zw3:=uw3.size
 replace hC:=hC.up uw3
 replace hW:=hW.up uw3
 replace hB2:=hB2.up uw3
 replace hB3:=hB3.up uw3
 refine U (.n1 rfl) ?_
 refine Ah ?_
 refine CW.b rfl (fun h7=>?_) (fun h7=>?_)
 ·replace h7:=dQ h7
  have hi:Iq wafer=false:=by simpa using h7
  refine Af (Az (Ah (Am (Ar ?_))))
  refine KW.q ?_
  first|exact⟨by rw[Dg,aq (by rw[hi];decide)];exact OwnS.nil _ _ _ _ _,hW⟩|exact⟨by rw[Dg,bh hi];exact hO11,hW⟩
 replace h7:=dQ h7
 have hi:Iq wafer=true:=by simpa using h7
 refine Aj (Ac (Ai ?_))
 obtain⟨v0,h0,ad,cp,rfl,hEp⟩:=hC.tJ
 refine Aa ?_
 refine U (.fB 0 rfl) ?_
 refine U (.lb rfl (hB2.cell h0)) ?_
 refine U (.makeFunc (.ct rfl (.cu rfl))) ?_
 refine A4 (eC (.u rfl rfl) (CO)) rfl (Q7 90 #[.pointer (some ⟨B2,0,none⟩),.pointer (some ⟨B3,0,none⟩)] (fun f=>decide (Ib bs.Swaps f.Time f.Wafer=wafer)) KA ad cp bs.Processes _ hEp hp (fun W hU x _=>fH x B2 B3 bc bs wafer W (hC.up hU) hl (hB2.up hU) (hB3.up hU))) ?_
 rintro v11 w4 ⟨hO11,uw4⟩
 have zw4:=uw4.size
 replace hC:=hC.up uw4
 replace hW:=hW.up uw4
 replace hB2:=hB2.up uw4
 replace hB3:=hB3.up uw4
 replace hO11:=hO11.mono (show w0.heap.size≤_ by omega)
 refine LW.A rfl (Ah (Am ?_))
 refine KW.q ?_
 first|exact⟨by rw[Dg,aq (by rw[hi];decide)];exact OwnS.nil _ _ _ _ _,hW⟩|exact⟨by rw[Dg,bh hi];exact hO11,hW⟩
theorem mA(c:Cond)(w:World):Ret prog 281 #[.agg c.cells] w fun r w'=>r=.bool c.met∧Up w w':=by
 have hW:=Up.refl w
 refine cT 23 func281 rfl ?_
 refine Af ?_
 refine Ap (.bA rfl) rfl ?_
 rintro _ w1 ⟨B1,rfl,NB1⟩
 have eB1:=NB1.at_
 have zB1:=NB1.size
 replace hW:=hW.up NB1.up
 have hB1:=NB1.blk
 refine Az (An (Aa ?_))
 refine U (.fB 0 rfl) ?_
 refine U (.lb rfl (hB1.Ad rfl)) ?_
 refine U (.eql (.t rfl) (.const _)) ?_
 refine I rfl ?_
 refine LW.gr rfl (fun hc=>PEv.fB 0 rfl) ?_
 refine LW.gr rfl (fun hc=>PEv.load l7 vQ (hB1.Ad rfl)) ?_
 refine LW.gr rfl (fun hc=>PEv.fB 2 rfl) ?_
 refine LW.gr rfl (fun hc=>PEv.load l7 vQ (hB1.Ad rfl)) ?_
 refine LW.gr rfl (fun hc=>PEv.geq vQ vQ) ?_
 refine LW.gr rfl (fun hc=>PEv.move vQ) ?_
 refine Qt rfl rfl rfl rfl rfl rfl rfl (fun hc=>PEv.fB 0 rfl) ?_
 refine Qt rfl rfl rfl rfl rfl rfl rfl (fun hc=>PEv.load l7 vQ (hB1.Ad rfl)) ?_
 refine Qt rfl rfl rfl rfl rfl rfl rfl (fun hc=>PEv.fB 1 rfl) ?_
 refine Qt rfl rfl rfl rfl rfl rfl rfl (fun hc=>PEv.load l7 vQ (hB1.Ad rfl)) ?_
 refine Qt rfl rfl rfl rfl rfl rfl rfl (fun hc=>jZ vQ vQ) ?_
 refine Qt rfl rfl rfl rfl rfl rfl rfl (fun hc=>PEv.fB 2 rfl) ?_
 refine Qt rfl rfl rfl rfl rfl rfl rfl (fun hc=>PEv.load l7 vQ (hB1.Ad rfl)) ?_
 refine Qt rfl rfl rfl rfl rfl rfl rfl (fun hc=>PEv.eql vQ vQ) ?_
 refine LW.gr rfl (fun hc=>PEv.Cv vQ (fun hp=>(by first|exact .const _|exact .tmp rfl|exact .cond rfl (by first|assumption|simp_all)))) ?_
 refine U (.po rfl (fun hp=>(by first|exact .const _|exact .tmp rfl|exact .cond rfl (by first|assumption|simp_all)))) ?_
 refine LW.A rfl (Ah (Am ?_))
 refine KW.q ?_
 exact⟨rfl,hW⟩
theorem fI(c:Cond)(w:World):Ret prog 280 #[.agg c.cells] w fun r w'=>r=.bool (!c.met)∧Up w w':=by
 have hW:=Up.refl w
 refine cT 6 func280 rfl ?_
 refine Af ?_
 refine Ap (.bA rfl) rfl ?_
 rintro _ w1 ⟨B1,rfl,NB1⟩
 have eB1:=NB1.at_
 have zB1:=NB1.size
 replace hW:=hW.up NB1.up
 have hB1:=NB1.blk
 refine Az (An (Aa ?_))
 refine U (.lc rfl (hB1.agg)) ?_
 refine A4 (eC (.o rfl) (GL)) rfl (mA _ _) ?_
 rintro _ w2 ⟨rfl,uw2⟩
 have zw2:=uw2.size
 replace hW:=hW.up uw2
 replace hB1:=hB1.up uw2
 refine U (.n1 rfl) ?_
 refine LW.A rfl (Ah (Am ?_))
 refine KW.q ?_
 exact⟨rfl,hW⟩
theorem U6(v:Value)(xs:List Cond)(w:World)(h:Sl w v 3 Cond.cells xs)(hlen:xs.length≤1000):Ret prog 293 #[v,.func (.func 280) #[] #[]] w fun r w'=>(∃i:Int,r=vi i∧decide (0≤i)=xs.any fun c=> !c.met)∧Up w w':=by
 have hW:=Up.refl w
 obtain⟨w0,rfl,_⟩:=W0 w
 obtain⟨ad,cp,rfl,hE⟩:=h
 refine cT 19 func293 rfl ?_
 refine Af (Az (An (Af (I rfl ?_))))
 refine U (.Ck underlying313 (.t rfl)) ?_
 refine U (.move (.const _)) ?_
 refine Ah (Ak ?_)
 refine CW.loop (σ:=Nat) (fun s w=>(s≤xs.length∧(xs.take s).any (fun c=> !c.met)=false)∧Els w ad 3 Cond.cells xs∧Up w0 w) (fun s=>[(0,.eq (.slice ad xs.length cp)),(1,.eq (.func (.func 280) #[] #[])),(7,.eq (vi (xs.length:Int))),(8,.eq (vi (s:Int)))]) (fun s=>xs.length-s) 0 ?_ ?_ ?_
 ·exact⟨⟨a8 _,by simp⟩,hE,hW⟩
 ·exact tQ
 rintro k w1 ⟨⟨hk,hA⟩,hE,hW⟩
 refine Af ?_
 refine U (.l2 rfl rfl) ?_
 refine An ?_
 refine CW.b rfl (fun h9=>?_) (fun h9=>?_)
 ·replace h9:=dQ h9
  refine Aj (Ac (Ai (Ak (Af (I rfl (LW.A rfl (An ?_)))))))
  obtain⟨x,hx⟩:=Ae (xs:=xs) (i:=k) oQ
  obtain⟨B,o,had,hcell⟩:=hE k x hx
  refine Aa (I rfl (I rfl (I rfl ?_)))
  refine U (.Ao underlying313 sizeOf311 (.t rfl) (.t rfl) oQ had) ?_
  refine U (.lc rfl (hcell)) ?_
  refine A4 (Ey (.t rfl) (.cu rfl) (GK)) rfl (fI _ _) ?_
  rintro _ w2 ⟨rfl,uw2⟩
  have zw2:=uw2.size
  replace hE:=hE.up uw2
  replace hW:=hW.up uw2
  refine Ah ?_
  refine CW.b rfl (fun h16=>?_) (fun h16=>?_)
  ·replace h16:=dQ h16
   have hI:xs.any (fun c=> !c.met)=true:=ip.2 ⟨x,ai hx,by simpa using h16⟩
   refine Af (I rfl (LW.A rfl (Ah (Am (A7 (Ar (Ar (A7 (Ar ?_)))))))))
   refine KW.q ?_
   first|exact⟨⟨_,rfl,by rw[hI];exact bj oQ⟩,hW⟩|exact⟨⟨_,rfl,by rw[hA];rfl⟩,hW⟩
  replace h16:=dQ h16
  refine Aj (Al (Ac (Aa ?_)))
  refine U (.ic rfl oQ) ?_
  refine I rfl (LW.nil (Av ?_))
  exact⟨k+1,⟨⟨by omega,by rw[Cr hx,List.any_append,hA];simpa using h16⟩,hE,hW⟩,tQ,by omega⟩
 replace h9:=dQ h9
 have:k=xs.length:=by omega
 subst this
 rw[b8]at hA
 refine A8 (Ab (Ab (Aq (Ac (Af (Az (Ah (Am ?_))))))))
 refine KW.q ?_
 first|exact⟨⟨_,rfl,by rw[hI];exact bj oQ⟩,hW⟩|exact⟨⟨_,rfl,by rw[hA];rfl⟩,hW⟩
theorem Qa(v:Value)(xs:List Cond)(w:World)(h:Sl w v 3 Cond.cells xs)(hlen:xs.length≤1000):Ret prog 279 #[v,.func (.func 280) #[] #[]] w fun r w'=>r=.bool (xs.any fun c=> !c.met)∧Up w w':=by
 have hW:=Up.refl w
 refine cT 9 func279 rfl ?_
 refine Af (Az (An (Aa (I rfl (I rfl ?_)))))
 refine A4 (eC (.u rfl rfl) (GP)) rfl (U6 _ _ _ h hlen) ?_
 rintro _ w1 ⟨⟨i,rfl,hi⟩,uw1⟩
 have zw1:=uw1.size
 replace h:=h.up uw1
 replace hW:=hW.up uw1
 refine U (.geq (.t rfl) (.const _)) ?_
 refine LW.A rfl (Ah (Am ?_))
 refine KW.q ?_
 exact⟨by rw[←hi],hW⟩
theorem Tt(v:Value)(xs:List Cond)(w:World)(h:Sl w v 3 Cond.cells xs)(hlen:xs.length≤1000):Ret prog 261 #[v] w fun r w'=>r=.bool (xs.all Cond.met)∧Up w w':=by
 have hW:=Up.refl w
 refine cT 6 func261 rfl ?_
 refine Af (Az (An (Aa (I rfl ?_))))
 refine A4 (eC (.ct rfl (.cons (.func _) .nil)) (GJ)) rfl (Qa _ _ _ h hlen) ?_
 rintro _ w1 ⟨rfl,uw1⟩
 have zw1:=uw1.size
 replace h:=h.up uw1
 replace hW:=hW.up uw1
 refine U (.n1 rfl) ?_
 refine LW.A rfl (Ah (Am ?_))
 refine KW.q ?_
 exact⟨by rw[List.all_eq_not_any_not],hW⟩
theorem Wc(f:Fact)(p:Addr)(t:Int)(w:World):Ret prog 278 #[.agg (Gc f p),vi t] w fun r w'=>r=.bool (fF f t)∧Up w w':=by
 have hW:=Up.refl w
 refine cT 23 func278 rfl ?_
 refine Af ?_
 refine Ap (.bA rfl) rfl ?_
 rintro _ w1 ⟨B2,rfl,NB2⟩
 have eB2:=NB2.at_
 have zB2:=NB2.size
 replace hW:=hW.up NB2.up
 have hB2:=NB2.blk
 refine Az (An (Aa ?_))
 refine U (.fB 0 rfl) ?_
 refine U (.fB 0 rfl) ?_
 refine U (.lb rfl (hB2.Ad rfl)) ?_
 refine U (.eql (.t rfl) (.const _)) ?_
 refine I rfl ?_
 refine LW.gr rfl (fun hc=>PEv.fB 0 rfl) ?_
 refine LW.gr rfl (fun hc=>PEv.fieldAddr (off:=5) me rfl rfl lg rfl vQ) ?_
 refine LW.gr rfl (fun hc=>PEv.load l7 vQ (hB2.Ad rfl)) ?_
 refine Hc rfl rfl ?_
 refine LW.gr rfl (fun hc=>PEv.leq vQ vQ) ?_
 refine U (.pa rfl (fun hp=>(by first|exact .const _|exact .tmp rfl|exact .cond rfl (by first|assumption|simp_all)))) ?_
 refine I rfl ?_
 refine Hc rfl rfl ?_
 refine LW.gr rfl (fun hc=>PEv.fB 0 rfl) ?_
 refine LW.gr rfl (fun hc=>PEv.fieldAddr (off:=6) me rfl rfl lg rfl vQ) ?_
 refine LW.gr rfl (fun hc=>PEv.load l7 vQ (hB2.Ad rfl)) ?_
 refine LW.gr rfl (fun hc=>PEv.leq vQ vQ) ?_
 refine U (.pa rfl (fun hp=>(by first|exact .const _|exact .tmp rfl|exact .cond rfl (by first|assumption|simp_all)))) ?_
 refine LW.A rfl (Ah (Am ?_))
 refine KW.q ?_
 exact⟨rfl,hW⟩
theorem aR(Bb:Nat)(bc:Array Go.Value)(b:Base)(id t:Int)(w:World)(hb:Blk w Bb bc 37)(hC:BaseC w bc b)(hlen:b.Releases.length<9223372036854775807):Ret prog 262 #[.pointer (some ⟨Bb,0,none⟩),vi id,vi t] w fun r w'=>r=vi (Gh b.Releases id t)∧Up w w':=by
 have hW:=Up.refl w
 obtain⟨w0,rfl,_⟩:=W0 w
 refine cT 34 func262 rfl ?_
 refine Af (Az (An (Ai ?_)))
 obtain⟨v7,h7,hr⟩:=hC.LJ
 obtain⟨ad,cp,rfl,hE⟩:=hr
 refine Aa (I rfl ?_)
 refine U (.nc rfl) ?_
 refine U (.fB 7 rfl) ?_
 refine U (.lb rfl (hb.cell h7)) ?_
 refine U (.Ck lf (.t rfl)) ?_
 refine U (.move (.const _)) ?_
 refine Ah (Ak ?_)
 refine CW.loop (σ:=Nat) (fun s w=>s≤b.Releases.length∧Els w ad 19 Fact.cells b.Releases∧Up w0 w) (fun s=>[(6,.eq (vi (Gh (b.Releases.take s) id t))),(1,.eq (vi id)),(2,.eq (vi t)),(12,.eq (.slice ad b.Releases.length cp)),(13,.eq (vi (b.Releases.length:Int))),(14,.eq (vi (s:Int)))]) (fun s=>b.Releases.length-s) 0 ?_ ?_ ?_
 ·exact⟨a8 _,hE,hW⟩
 ·exact tQ
 rintro k w1 ⟨hk,hE,hW⟩
 refine Af ?_
 refine U (.l2 rfl rfl) ?_
 refine An ?_
 refine CW.b rfl (fun h15=>?_) (fun h15=>?_)
 ·replace h15:=dQ h15
  refine Aj (Ac (Ai (Ak (Ai ?_))))
  obtain⟨x,hx⟩:=Ae (xs:=b.Releases) (i:=k) oQ
  obtain⟨B,o,had,hcell⟩:=hE k x hx
  subst had
  refine Aa ?_
  refine U (.indexAddr lf lh (.t rfl) (.t rfl) oQ) ?_
  refine U (.lc rfl (hcell)) ?_
  refine Ap (.Cb ll) rfl ?_
  rintro _ w2 ⟨B8,rfl,MB8⟩
  refine Cd (.Cc lh rfl (.t rfl) (.t rfl) eQ MB8.blk rfl) ?_
  intro w3 LB8
  have NB8:=MB8.set LB8
  clear LB8 MB8
  have eB8:=NB8.at_
  have zB8:=NB8.size
  replace hE:=hE.up NB8.up
  replace hW:=hW.up NB8.up
  have hB8:=NB8.blk
  refine An (Aa ?_)
  refine U (.fB 8 rfl) ?_
  refine U (.lb rfl (hB8.Ad rfl)) ?_
  refine I rfl ?_
  refine U (.eql (.t rfl) (.t rfl)) ?_
  refine I rfl ?_
  refine LW.gr rfl (fun hc=>PEv.fB 5 rfl) ?_
  refine LW.gr rfl (fun hc=>PEv.load l7 vQ (hB8.Ad rfl)) ?_
  refine Hc rfl rfl ?_
  refine LW.gr rfl (fun hc=>PEv.leq vQ vQ) ?_
  refine U (.pa rfl (fun hp=>(by first|exact .const _|exact .tmp rfl|exact .cond rfl (by first|assumption|simp_all)))) ?_
  refine Ah ?_
  refine CW.b rfl (fun h27=>?_) (fun h27=>?_)
  ·replace h27:=dQ h27
   have he:Gh (b.Releases.take (k+1)) id t=LA (Gh (b.Releases.take k) id t) x.Parties:=by rw[Cr hx,Mk];exact bh h27
   refine Aa (I rfl ?_)
   refine U (.fB 17 rfl) ?_
   refine U (.lb rfl (hB8.Ad rfl)) ?_
   refine U (.CA (.t rfl) (.t rfl)) ?_
   refine LW.A rfl (LW.nil (Al (Ac (Aa ?_))))
   refine U (.ic rfl oQ) ?_
   refine I rfl (LW.nil (Av ?_))
   exact⟨k+1,⟨by omega,hE,hW⟩,⟨by rw[he];rfl,rfl,rfl,rfl,rfl,rfl,trivial⟩,by omega⟩
  replace h27:=dQ h27
  have he:Gh (b.Releases.take (k+1)) id t=Gh (b.Releases.take k) id t:=by rw[Cr hx,Mk];exact aq (by rw[h27];exact ca)
  refine Aj (Al (Ac (Aa ?_)))
  refine U (.ic rfl oQ) ?_
  refine I rfl (LW.nil (Av ?_))
  exact⟨k+1,⟨by omega,hE,hW⟩,⟨by rw[he];rfl,rfl,rfl,rfl,rfl,rfl,trivial⟩,by omega⟩
 replace h15:=dQ h15
 refine A8 (Ab (Ab (Aq (Ac (Af (I rfl (LW.A rfl (Ah (Am ?_)))))))))
 refine KW.q ?_
 exact⟨by rw[show k=b.Releases.length by omega,b8],hW⟩
theorem fJ(f:Fact)(Bb:Nat)(bc:Array Go.Value)(b:Base)(t:Int)(w:World)(hb:Blk w Bb bc 37)(hC:BaseC w bc b)(hlen:b.Releases.length<9223372036854775807):Ret prog 229 #[.agg (Gc f ⟨Bb,0,none⟩),vi t] w fun r w'=>r=.bool (yK f b.Releases t)∧Up w w':=by
 have hW:=Up.refl w
 refine cT 17 func229 rfl ?_
 refine Af ?_
 refine Ap (.bA rfl) rfl ?_
 rintro _ w1 ⟨B2,rfl,NB2⟩
 have eB2:=NB2.at_
 have zB2:=NB2.size
 replace hb:=hb.up NB2.up
 replace hC:=hC.up NB2.up
 replace hW:=hW.up NB2.up
 have hB2:=NB2.blk
 refine Az (An ?_)
 refine C5 kQ kQ rfl rfl ?_
 refine J (.fB 0 rfl) ?_
 refine J (.fB 17 rfl) ?_
 refine J (.lb rfl (hB2.Ad rfl)) ?_
 refine J (.fB 19 rfl) ?_
 refine J (.lb rfl (hB2.Ad rfl)) ?_
 refine J (.fB 0 rfl) ?_
 refine J (.fB 1 rfl) ?_
 refine J (.lb rfl (hB2.Ad rfl)) ?_
 refine J (.mv rfl) ?_
 refine HW.c (fun a w _ ha=>Bi (.ct rfl (.ct rfl (.cu rfl))) (GC) a ha) rfl rfl (fun w hu=>aR _ _ _ _ _ _ (hb.up hu) (hC.up hu) hlen) ?_
 refine J (.oC (.t rfl) (.t rfl)) ?_
 refine J (.eql (.t rfl) (.const _)) ?_
 refine J (.assign (.t rfl)) ?_
 refine HW.nil ?_
 intro w2 uw2
 have zw2:=uw2.size
 replace hb:=hb.up uw2
 replace hC:=hC.up uw2
 replace hW:=hW.up uw2
 replace hB2:=hB2.up uw2
 refine Ac (Am ?_)
 refine KW.q ?_
 exact⟨rfl,hW⟩
theorem Q9(f:Fact)(Bb:Nat)(bc:Array Go.Value)(b:Base)(wafer time:Int)(w:World)(hb:Blk w Bb bc 37)(hC:BaseC w bc b)(hlen:b.Lots.length<9223372036854775807):Ret prog 260 #[.agg (Gc f ⟨Bb,0,none⟩),vi wafer,vi time] w fun r w'=>r=.bool (Tp f b.Lots wafer time)∧Up w w':=by
 have hW:=Up.refl w
 refine cT 36 func260 rfl ?_
 refine Af ?_
 refine Ap (.bA rfl) rfl ?_
 rintro _ w1 ⟨B3,rfl,NB3⟩
 have eB3:=NB3.at_
 have zB3:=NB3.size
 replace hb:=hb.up NB3.up
 replace hC:=hC.up NB3.up
 replace hW:=hW.up NB3.up
 have hB3:=NB3.blk
 refine Az (An (Aa ?_))
 refine U (.fB 19 rfl) ?_
 refine U (.lb rfl (hB3.Ad rfl)) ?_
 refine U (.nc rfl) ?_
 refine U (.Fz ml l6 (hC.size) (.t rfl) (hb.agg)) ?_
 refine I rfl (I rfl ?_)
 refine A4 (eC (.ct rfl (.ct rfl (.cu rfl))) (CN)) rfl (iZ _ _ _ _ _ hC hlen) ?_
 rintro _ w2 ⟨rfl,uw2⟩
 have zw2:=uw2.size
 replace hb:=hb.up uw2
 replace hC:=hC.up uw2
 replace hW:=hW.up uw2
 replace hB3:=hB3.up uw2
 refine I rfl (U (.xt rfl rfl) (U (.xt rfl rfl) (LW.A rfl (LW.A rfl (An ?_)))))
 cases hq2:fF f time with
 |false=>
  refine Aa ?_
  refine U (.lc rfl (hB3.agg)) ?_
  refine I rfl ?_
  refine A4 (eC (.u rfl rfl) (yE)) rfl (Wc _ _ _ _) ?_
  rintro _ w3 ⟨rfl,uw3⟩
  have zw3:=uw3.size
  replace hb:=hb.up uw3
  replace hC:=hC.up uw3
  replace hW:=hW.up uw3
  replace hB3:=hB3.up uw3
  rw[hq2]
  refine I rfl ?_
  refine Bh ?_
  refine Bh ?_
  refine Bh ?_
  refine Bh ?_
  refine Bh ?_
  refine Bh ?_
  refine Bh ?_
  refine Bh ?_
  refine Bh ?_
  refine Bh ?_
  refine Bh ?_
  refine Bh ?_
  refine U (.Cv (b:=false) (.t rfl) (fun hp=>absurd (show false=true from hp) cQ)) ?_
  refine LW.A rfl (Ah (Am ?_))
  refine KW.q ?_
  exact⟨by simp[Tp,hq2],hW⟩
 |true=>
  refine Aa ?_
  refine U (.lc rfl (hB3.agg)) ?_
  refine I rfl ?_
  refine A4 (eC (.u rfl rfl) (yE)) rfl (Wc _ _ _ _) ?_
  rintro _ w4 ⟨rfl,uw4⟩
  have zw4:=uw4.size
  replace hb:=hb.up uw4
  replace hC:=hC.up uw4
  replace hW:=hW.up uw4
  replace hB3:=hB3.up uw4
  rw[hq2]
  refine I rfl ?_
  refine Au ?_
  refine U (.fB 0 rfl) ?_
  refine Au ?_
  refine U (.fB 7 rfl) ?_
  refine Au ?_
  refine U (.lb rfl (hB3.Ad rfl)) ?_
  refine Au ?_
  refine I rfl ?_
  refine Au ?_
  refine U (.build (cs:=Cond.cells (Cond.mk f.Wafer 0 wafer)) m6 m5 E5 (.ct rfl (.cons (.const _) (.cu rfl))) rfl) ?_
  refine Au ?_
  refine U (.fB 0 rfl) ?_
  refine Au ?_
  refine U (.fB 9 rfl) ?_
  refine Au ?_
  refine U (.lb rfl (hB3.Ad rfl)) ?_
  refine Au ?_
  refine I rfl ?_
  refine Au ?_
  refine U (.build (cs:=Cond.cells (Cond.mk f.Lot 0 (Hr b.Lots wafer time).1)) m6 m5 E5 (.ct rfl (.cons (.const _) (.cu rfl))) rfl) ?_
  refine Au ?_
  refine Ap (.buildSlice (xs:=[Cond.mk f.Wafer 0 wafer,Cond.mk f.Lot 0 (Hr b.Lots wafer time).1]) (enc:=Cond.cells) (mk:=fun c=>.agg c.cells) underlying313 sizeOf311 m5 rfl cQ (fun _=>rfl) (fun _=>rfl) (.ct rfl (.cu rfl)) rfl) rfl ?_
  rintro _ w5 ⟨B33,cB33,rfl,NB33,yB33,xB33⟩
  have eB33:=NB33.at_
  have zB33:=NB33.size
  replace hb:=hb.up NB33.up
  replace hC:=hC.up NB33.up
  replace hW:=hW.up NB33.up
  replace hB3:=hB3.up NB33.up
  have hB33:=NB33.blk
  have hE33:=xB33
  refine Au ?_
  refine A4 (eC (.o rfl) (yD)) rfl (Tt _ _ _ (Ay hE33) (by simp)) ?_
  rintro _ w6 ⟨rfl,uw6⟩
  have zw6:=uw6.size
  replace hb:=hb.up uw6
  replace hC:=hC.up uw6
  replace hW:=hW.up uw6
  replace hB3:=hB3.up uw6
  replace hB33:=hB33.up uw6
  replace hE33:=hE33.up uw6
  refine U (.pa rfl (fun hp=>(by first|exact .const _|exact .tmp rfl|exact .cond rfl (by first|assumption|simp_all)))) ?_
  refine LW.A rfl (Ah (Am ?_))
  refine KW.q ?_
  exact⟨by simp[Tp,hq2],hW⟩
theorem Wd(f:Fact)(Bb:Nat)(bc:Array Go.Value)(b:Base)(a:GAct)(w:World)(hb:Blk w Bb bc 37)(hC:BaseC w bc b)(hlen:b.Lots.length<9223372036854775807):Ret prog 228 #[.agg (Gc f ⟨Bb,0,none⟩),.agg a.cells] w fun r w'=>r=.bool (Tq f b.Lots a)∧Up w w':=by
 have hW:=Up.refl w
 refine cT 45 func228 rfl ?_
 refine Af ?_
 refine Ap (.bA rfl) rfl ?_
 rintro _ w1 ⟨B2,rfl,NB2⟩
 have eB2:=NB2.at_
 have zB2:=NB2.size
 replace hb:=hb.up NB2.up
 replace hC:=hC.up NB2.up
 replace hW:=hW.up NB2.up
 have hB2:=NB2.blk
 refine Ap (.bA rfl) rfl ?_
 rintro _ w2 ⟨B3,rfl,NB3⟩
 have eB3:=NB3.at_
 have zB3:=NB3.size
 replace hb:=hb.up NB3.up
 replace hC:=hC.up NB3.up
 replace hW:=hW.up NB3.up
 replace hB2:=hB2.up NB3.up
 have hB3:=NB3.blk
 refine Az (An ?_)
 cases hq1:Tp f b.Lots a.Wafer a.Time with
 |false=>
  refine Aa ?_
  refine U (.lc rfl (hB2.agg)) ?_
  refine U (.fB 0 rfl) ?_
  refine U (.lb rfl (hB3.Ad rfl)) ?_
  refine U (.fB 6 rfl) ?_
  refine U (.lb rfl (hB3.Ad rfl)) ?_
  refine A4 (eC (.ct rfl (.ct rfl (.cu rfl))) (yC)) rfl (Q9 _ _ _ _ _ _ _ hb hC hlen) ?_
  rintro _ w3 ⟨rfl,uw3⟩
  have zw3:=uw3.size
  replace hb:=hb.up uw3
  replace hC:=hC.up uw3
  replace hW:=hW.up uw3
  replace hB2:=hB2.up uw3
  replace hB3:=hB3.up uw3
  rw[hq1]
  refine I rfl ?_
  refine Bh ?_
  refine Bh ?_
  refine Bh ?_
  refine Bh ?_
  refine Bh ?_
  refine Bh ?_
  refine Bh ?_
  refine Bh ?_
  refine Bh ?_
  refine Bh ?_
  refine Bh ?_
  refine Bh ?_
  refine Bh ?_
  refine Bh ?_
  refine Bh ?_
  refine Bh ?_
  refine Bh ?_
  refine Bh ?_
  refine Bh ?_
  refine Bh ?_
  refine Bh ?_
  refine Bh ?_
  refine Bh ?_
  refine Bh ?_
  refine Bh ?_
  refine Bh ?_
  refine Bh ?_
  refine Bh ?_
  refine Bh ?_
  refine Bh ?_
  refine Bh ?_
  refine Bh ?_
  refine U (.Cv (b:=false) (.t rfl) (fun hp=>absurd (show false=true from hp) cQ)) ?_
  refine LW.A rfl (Ah (Am ?_))
  refine KW.q ?_
  exact⟨by simp[Tq,hq1],hW⟩
 |true=>
  refine Aa ?_
  refine U (.lc rfl (hB2.agg)) ?_
  refine U (.fB 0 rfl) ?_
  refine U (.lb rfl (hB3.Ad rfl)) ?_
  refine U (.fB 6 rfl) ?_
  refine U (.lb rfl (hB3.Ad rfl)) ?_
  refine A4 (eC (.ct rfl (.ct rfl (.cu rfl))) (yC)) rfl (Q9 _ _ _ _ _ _ _ hb hC hlen) ?_
  rintro _ w4 ⟨rfl,uw4⟩
  have zw4:=uw4.size
  replace hb:=hb.up uw4
  replace hC:=hC.up uw4
  replace hW:=hW.up uw4
  replace hB2:=hB2.up uw4
  replace hB3:=hB3.up uw4
  rw[hq1]
  refine I rfl ?_
  refine Au ?_
  refine U (.fB 0 rfl) ?_
  refine Au ?_
  refine U (.fB 11 rfl) ?_
  refine Au ?_
  refine U (.lb rfl (hB2.Ad rfl)) ?_
  refine Au ?_
  refine U (.fB 2 rfl) ?_
  refine Au ?_
  refine U (.lb rfl (hB3.Ad rfl)) ?_
  refine Au ?_
  refine U (.build (cs:=Cond.cells (Cond.mk f.Tool 1 a.Tool)) m6 m5 E5 (.ct rfl (.cons (.const _) (.cu rfl))) rfl) ?_
  refine Au ?_
  refine U (.fB 0 rfl) ?_
  refine Au ?_
  refine U (.fB 12 rfl) ?_
  refine Au ?_
  refine U (.lb rfl (hB2.Ad rfl)) ?_
  refine Au ?_
  refine U (.fB 3 rfl) ?_
  refine Au ?_
  refine U (.lb rfl (hB3.Ad rfl)) ?_
  refine Au ?_
  refine U (.build (cs:=Cond.cells (Cond.mk f.Chamber 1 a.Chamber)) m6 m5 E5 (.ct rfl (.cons (.const _) (.cu rfl))) rfl) ?_
  refine Au ?_
  refine U (.fB 0 rfl) ?_
  refine Au ?_
  refine U (.fB 13 rfl) ?_
  refine Au ?_
  refine U (.lb rfl (hB2.Ad rfl)) ?_
  refine Au ?_
  refine U (.fB 1 rfl) ?_
  refine Au ?_
  refine U (.lb rfl (hB3.Ad rfl)) ?_
  refine Au ?_
  refine U (.build (cs:=Cond.cells (Cond.mk f.Step 1 a.Step)) m6 m5 E5 (.ct rfl (.cons (.const _) (.cu rfl))) rfl) ?_
  refine Au ?_
  refine U (.fB 0 rfl) ?_
  refine Au ?_
  refine U (.fB 14 rfl) ?_
  refine Au ?_
  refine U (.lb rfl (hB2.Ad rfl)) ?_
  refine Au ?_
  refine U (.fB 4 rfl) ?_
  refine Au ?_
  refine U (.lb rfl (hB3.Ad rfl)) ?_
  refine Au ?_
  refine U (.build (cs:=Cond.cells (Cond.mk f.Recipe 0 a.Recipe)) m6 m5 E5 (.ct rfl (.cons (.const _) (.cu rfl))) rfl) ?_
  refine Au ?_
  refine U (.fB 0 rfl) ?_
  refine Au ?_
  refine U (.fB 15 rfl) ?_
  refine Au ?_
  refine U (.lb rfl (hB2.Ad rfl)) ?_
  refine Au ?_
  refine U (.fB 5 rfl) ?_
  refine Au ?_
  refine U (.lb rfl (hB3.Ad rfl)) ?_
  refine Au ?_
  refine U (.build (cs:=Cond.cells (Cond.mk f.Revision 0 a.Revision)) m6 m5 E5 (.ct rfl (.cons (.const _) (.cu rfl))) rfl) ?_
  refine Au ?_
  refine Ap (.buildSlice (xs:=[Cond.mk f.Tool 1 a.Tool,Cond.mk f.Chamber 1 a.Chamber,Cond.mk f.Step 1 a.Step,Cond.mk f.Recipe 0 a.Recipe,Cond.mk f.Revision 0 a.Revision]) (enc:=Cond.cells) (mk:=fun c=>.agg c.cells) underlying313 sizeOf311 m5 rfl cQ (fun _=>rfl) (fun _=>rfl) (.ct rfl (.ct rfl (.ct rfl (.ct rfl (.cu rfl))))) rfl) rfl ?_
  rintro _ w5 ⟨B42,cB42,rfl,NB42,yB42,xB42⟩
  have eB42:=NB42.at_
  have zB42:=NB42.size
  replace hb:=hb.up NB42.up
  replace hC:=hC.up NB42.up
  replace hW:=hW.up NB42.up
  replace hB2:=hB2.up NB42.up
  replace hB3:=hB3.up NB42.up
  have hB42:=NB42.blk
  have hE42:=xB42
  refine Au ?_
  refine A4 (eC (.o rfl) (yD)) rfl (Tt _ _ _ (Ay hE42) (by simp)) ?_
  rintro _ w6 ⟨rfl,uw6⟩
  have zw6:=uw6.size
  replace hb:=hb.up uw6
  replace hC:=hC.up uw6
  replace hW:=hW.up uw6
  replace hB2:=hB2.up uw6
  replace hB3:=hB3.up uw6
  replace hB42:=hB42.up uw6
  replace hE42:=hE42.up uw6
  refine U (.pa rfl (fun hp=>(by first|exact .const _|exact .tmp rfl|exact .cond rfl (by first|assumption|simp_all)))) ?_
  refine LW.A rfl (Ah (Am ?_))
  refine KW.q ?_
  exact⟨by simp[Tq,hq1],hW⟩
theorem vX(ad:Addr)(w:World):Ret prog 227 #[.pointer (some ad)] w fun r w'=>(∃B,r=.func (.func 259) #[] #[.pointer (some ⟨B,0,none⟩)]∧Blk w' B #[.pointer (some ad)] 81∧w.heap.size≤B)∧Up w w':=by
 have hW:=Up.refl w
 refine cT 4 func227 rfl ?_
 refine Af ?_
 refine Ap (.Pu (.t rfl) rfl) rfl ?_
 rintro _ w1 ⟨B1,rfl,NB1⟩
 have eB1:=NB1.at_
 have zB1:=NB1.size
 replace hW:=hW.up NB1.up
 have hB1:=NB1.blk
 refine Az (An (Aa ?_))
 refine U (.makeFunc (.cu rfl)) ?_
 refine LW.A rfl (Ah (Am ?_))
 refine KW.q ?_
 exact⟨⟨_,rfl,hB1,by omega⟩,hW⟩
theorem rN(X Y:Nat→Prop)(B1 Bb:Nat)(bc:Array Go.Value)(b:Base)(w1 w:World)(hU0:Up w1 w)(hX:∀i,X i→w1.heap.size≤i)(hYY:∀i,Y i→w1.heap.size≤i)(hQX:¬X B1)(hQ0:Blk w B1 #[.pointer (some ⟨Bb,0,none⟩)] 81)(hb1:Blk w1 Bb bc 37)(hC1:BaseC w1 bc b)(hlen:b.Holds.length<9223372036854775807):
   IterS prog 259 #[.pointer (some ⟨B1,0,none⟩)] (fun f=>#[.agg (Gc f ⟨Bb,0,none⟩)]) X Y (fun ys=>ys=b.Holds.filter I5) (fun pre=>pre<+:b.Holds.filter I5) (b.Holds.filter I5).length w:=by
 have z1:=hU0.size
 refine IterS.of ?_
 intro lp J Jx w0 hUw _ hY hJ
 obtain⟨Bd,hBd⟩:∃Bd,Bd=w0.heap.size:=⟨_,rfl⟩
 rw[←hBd]at hJ hY
 clear hBd
 have hQ:=hQ0.up hUw
 have hU:=hU0.trans hUw
 refine cT 26 func259 rfl ?_
 refine Ai ?_
 obtain⟨v6,h6,hr⟩:=hC1.LI
 obtain⟨ad,cp,rfl,hE1⟩:=hr
 refine Aa ?_
 refine U (.lb rfl (hQ.Ad rfl)) ?_
 refine U (.nc rfl) ?_
 refine U (.fB 6 rfl) ?_
 refine U (.lb rfl ((hb1.up hU).cell h6)) ?_
 refine U (.Ck lf (.t rfl)) ?_
 refine U (.move (.const _)) ?_
 refine Ah (Ak ?_)
 refine CW.loop (σ:=Nat) (fun s w=>s≤b.Holds.length∧Jw Bd J ((b.Holds.take s).filter I5) w∧Up w1 w∧Blk w B1 #[.pointer (some ⟨Bb,0,none⟩)] 81) (fun s=>[(0,.eq (.func (.yield lp) #[] #[])),(1,.eq (.pointer (some ⟨B1,0,none⟩))),(8,.eq (.slice ad b.Holds.length cp)),(9,.eq (vi (b.Holds.length:Int))),(10,.eq (vi (s:Int)))]) (fun s=>b.Holds.length-s) 0 ?_ ?_ ?_
 ·exact⟨a8 _,hJ,hU,hQ⟩
 ·exact tQ
 rintro k w1 ⟨hk,hJ,hU,hQ⟩
 refine Af ?_
 refine U (.l2 rfl rfl) ?_
 refine An ?_
 refine CW.b rfl (fun h11=>?_) (fun h11=>?_)
 ·replace h11:=dQ h11
  refine Aj (Ac (Ai (Ak (Ai ?_))))
  obtain⟨x,hx⟩:=Ae (xs:=b.Holds) (i:=k) oQ
  obtain⟨B,o,had,hc1⟩:=hE1 k x hx
  subst had
  have hcell:=hc1.up hU
  refine Aa ?_
  refine U (.indexAddr lf lh (.t rfl) (.t rfl) oQ) ?_
  refine U (.lc rfl (hcell)) ?_
  refine Ap (.Cb ll) rfl ?_
  rintro _ w2 ⟨B4,rfl,MB4⟩
  refine Cd (.Cc lh rfl (.t rfl) (.t rfl) eQ MB4.blk rfl) ?_
  intro w3 LB4
  have NB4:=MB4.set LB4
  clear LB4 MB4
  have eB4:=NB4.at_
  have zB4:=NB4.size
  replace hJ:=hJ.up NB4.up
  replace hU:=hU.up NB4.up
  replace hQ:=hQ.up NB4.up
  have hB4:=NB4.blk
  refine An ?_
  cases hq3:I5 x with
  |false=>
   refine Aa ?_
   refine U (.fB 0 rfl) ?_
   refine U (.lb rfl (hB4.Ad rfl)) ?_
   refine U (.eql (.t rfl) (.const _)) ?_
   refine I rfl ?_
   rw[show decide (x.Kind=7)=false from hq3]
   refine Bh ?_
   refine Bh ?_
   refine Bh ?_
   refine Bh ?_
   refine Bh ?_
   refine Bh ?_
   refine U (.Cv (b:=false) (.t rfl) (fun hp=>absurd (show false=true from hp) cQ)) ?_
   refine Ah ?_
   refine CW.b rfl (fun h24=>?_) (fun h24=>?_)
   ·replace h24:=dQ h24
    cases h24
   replace h24:=dQ h24
   refine Aj (Al (Ac (Aa ?_)))
   refine U (.ic rfl oQ) ?_
   refine I rfl (LW.nil (Av ?_))
   first|exact⟨k+1,⟨by omega,hJ2,hU,hQ⟩,tQ,by omega⟩|exact⟨k+1,⟨by omega,by rw[Rn hx hq3];exact hJ,hU,hQ⟩,tQ,by omega⟩
  |true=>
   refine Aa ?_
   refine U (.fB 0 rfl) ?_
   refine U (.lb rfl (hB4.Ad rfl)) ?_
   refine U (.eql (.t rfl) (.const _)) ?_
   refine I rfl ?_
   rw[show decide (x.Kind=7)=true from hq3]
   refine Au ?_
   refine I rfl ?_
   refine Au ?_
   refine U (.lc rfl (hB4.agg)) ?_
   refine Au ?_
   refine U (.lb rfl (hQ.Ad rfl)) ?_
   refine Au ?_
   refine U (.build (cs:=Gc x ⟨Bb,0,none⟩) underlying279 zeroValue279 Sd (.ct rfl (.cu rfl)) (kB _ _ rfl)) ?_
   refine Au ?_
   refine LW.y (.t rfl) (.cu rfl) rfl rfl (hY _ x _ hJ (gL hx hq3)) ?_
   rintro _ w4 ⟨y,rfl,hcase⟩
   refine Au ?_
   refine U (.n1 rfl) ?_
   refine U (.pa rfl (fun hp=>(by first|exact .const _|exact .tmp rfl|exact .cond rfl (by first|assumption|simp_all)))) ?_
   refine Ah ?_
   refine CW.b rfl (fun h24=>?_) (fun h24=>?_)
   ·replace h24:=dQ h24
    have hy:y=false:=by simpa using h24
    subst hy
    obtain⟨_,hJx⟩:=hcase.resolve_left (by simp)
    refine Am (A7 (Ar (Ar (A7 ?_))))
    refine Gi rfl ⟨_,rfl,?_⟩
    first|exact .inl ⟨_,rfl,by rw[hkk,b8]at hJ;exact hJ.j⟩|exact .inr ⟨_,by rw[←Ke hx hq3];exact Lv _ _ _,hJx⟩
   replace h24:=dQ h24
   have hy:y=true:=by simpa using h24
   subst hy
   obtain⟨_,hJ2,hN⟩:=hcase.resolve_right (by simp)
   replace hU:=hU.kx hN hX hYY z1
   replace hQ:=hQ.kx hN hQX
   rw[←Ke hx hq3]at hJ2
   refine Aj (Al (Ac (Aa ?_)))
   refine U (.ic rfl oQ) ?_
   refine I rfl (LW.nil (Av ?_))
   first|exact⟨k+1,⟨by omega,hJ2,hU,hQ⟩,tQ,by omega⟩|exact⟨k+1,⟨by omega,by rw[Rn hx hq3];exact hJ,hU,hQ⟩,tQ,by omega⟩
 replace h11:=dQ h11
 have hkk:k=b.Holds.length:=by omega
 refine A8 (Ab (Ab (Aq ?_)))
 refine Dh rfl ⟨_,rfl,?_⟩
 first|exact .inl ⟨_,rfl,by rw[hkk,b8]at hJ;exact hJ.j⟩|exact .inr ⟨_,by rw[←Ke hx hq3];exact Lv _ _ _,hJx⟩
end Go.Proofs.YtnpgbbaniknpkaaGreatDoor
