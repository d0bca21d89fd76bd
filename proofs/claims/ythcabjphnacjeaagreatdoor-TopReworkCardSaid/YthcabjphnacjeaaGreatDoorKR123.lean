import Derived.Test.YthcabjphnacjeaaGreatDoorKR122
namespace Go.Wx
open Go.RowKit
section
variable {R:Option Nat}{m:Nat}{P:Program}{n:Nat}{ds:List Deferred}{Q:Exit→Go.Act→World→Prop}{l:Env}{w:World}
theorem vM{id:Nat}{opsL:List Oper}(k h1 h2 d1 d2:Nat)(phs:List Ph)(Rel:World→World→Prop)(G:Bool→Bool→Value→Value→World→Prop)(hm:P.follows .mixedOrders=true)(hl:Cn l=true)
   (hA:Dt opsL.toArray=true)(hC:(Nat.beq k opsL.toArray.size||Ff opsL.toArray k)=true)(hF:H8 opsL.toArray k=true)(hks:Nat.ble k opsL.toArray.size=true)(hD:Gm n opsL.toArray 0 k=true)(hTl:Gl opsL.toArray k=true)
   (hfree:Iz l (opsL.take k)=true)(hd1:(opsL[h1]?).bind (·.dst)=some d1)(hd2:(opsL[h2]?).bind (·.dst)=some d2)(hh:(Nat.ble (h1+1) k&&(Nat.ble (h2+1) k&& !Nat.beq h1 h2))=true)
   (hrefl:∀w,Rel w w)(htr:∀w w1 w2,Rel w w1→Rel w1 w2→Rel w w2)(hup:∀w w',Up w w'→Rel w w')(hph:∀i v w w',(phs.getD i (.eq undef)).holds v w→Rel w w'→(phs.getD i (.eq undef)).holds v w')
   (hGU:∀b1 b2 u1 u2 W W',G b1 b2 u1 u2 W→Up W W'→G b1 b2 u1 u2 W')(hG0:∀u1 u2,G false false u1 u2 w.drew)
   (hop:∀b1 b2 u1 u2 W,Rel w.drew W→G b1 b2 u1 u2 W→allL (fun i o=>o.guard=none∧(i≠h1→i≠h2→TU P n ds (Jb opsL.toArray (fun i=>phs.getD i (.eq undef)) 0 o++l) W o (phs.getD i (.eq undef)))∧
     (i=h1→b1=false→∀a,Ag n ds (Jb opsL.toArray (fun i=>phs.getD i (.eq undef)) 0 o++l) a W→bD P o a W (fun v W'=>Rel W W'∧(phs.getD i (.eq undef)).holds v W'∧G true b2 v u2 W'))∧
     (i=h2→b2=false→∀a,Ag n ds (Jb opsL.toArray (fun i=>phs.getD i (.eq undef)) 0 o++l) a W→bD P o a W (fun v W'=>Rel W W'∧(phs.getD i (.eq undef)).holds v W'∧G b1 true u1 v W'))) 0 (opsL.take k))
   (hend:∀W u1 u2,G true true u1 u2 W→LW R m P n ds opsL.toArray Q (opsL.drop k) ((d1,.eq u1)::(d2,.eq u2)::l) W):
   CW R m P n ds (.region id opsL.toArray true) Q l w:=by
 simp only[bw,jh]at hh
 have hks':k≤opsL.length:=by have:=be hks;simp at this;omega
 have hk1:h1<k:=be hh.1
 have hk2:h2<k:=be hh.2.1
 have hne:h1≠h2:=fun e=>by rw[e]at hh;simp at hh
 have sub:∀j o,j<k→opsL.toArray[j]?=some o→(opsL.take k)[j]?=some o:=fun j o hjk ho=>by
   rw[di hjk];simpa using ho
 have hbd:∀i ph,lk l i=some ph→∀(j:Nat)(o:Oper),0≤j→j<k→opsL.toArray[j]?=some o→o.dst≠some i:=fun i ph hi j o _ hjk ho=>F4 hfree hi (ai (sub j o hjk ho))
 have dst:∀{h d:Nat},(opsL[h]?).bind (·.dst)=some d→∃o,opsL.toArray[h]?=some o∧o.dst=some d:=fun{h d}e=>by
   cases ho:opsL[h]? with
   |none=>rw[ho]at e;cases e
   |some o=>rw[ho]at e;exact⟨o,by simpa using ho,e⟩
 obtain⟨o1,ho1,e1⟩:=dst hd1
 obtain⟨o2,ho2,e2⟩:=dst hd2
 refine Em hm hl fun fuel listed a hf hu ha=>?_
 refine Hy (k:=k) (fun i=>phs.getD i (.eq undef)) Rel (fun L f W=>G (L h1) (L h2) (f d1) (f d2) W) (f0:=fun t=>a.tmps.getD t undef) hrefl htr hph hA hC hF hks (by simp) hD hl hbd ?_ (by simpa using hG0 _ _) ?_ fuel listed a hf hu ha (fun _=>rfl)
 · intro i o _ hi hio L f W hW hDn hLi hed hG a ha hsl
   have h3:=(hop _ _ _ _ W hW hG).at (sub i o hi hio)
   rw[dm]at h3
   obtain⟨hg,h3,h4,h5⟩:=h3
   rw[bg (by simp[Region.wanted,hg])]
   have other:∀{h d:Nat}{p:Oper}(v:Value),h<k→opsL.toArray[h]?=some p→p.dst=some d→i≠h→Dl f o.dst v d=f d:=fun{h d p}v hk hp hd hih=>by
     have:=(C5 hD (a_ _) hk hp hd).2 i o (a_ _) hi hih hio
     simp[Dl,this]
   have lis:∀{h:Nat},i≠h→Cp L i h=L h:=fun{h}e=>by simp[Cp,Ne.symm e]
   by_cases i1:i=h1
   · subst i1
     cases hio.symm.trans ho1
     have done:∀v W',Rel W W'∧(phs.getD i (.eq undef)).holds v W'∧G true (L h2) v (f d2) W'→Rel W W'∧(∀d,o1.dst=some d→(phs.getD i (.eq undef)).holds v W')∧G (Cp L i i) (Cp L i h2) (Dl f o1.dst v d1) (Dl f o1.dst v d2) W':=fun v W' h=>by
       refine⟨h.1,fun _ _=>h.2.1,?_⟩
       rw[other v hk2 ho2 e2 hne,lis hne,show Cp L i i=true by simp[Cp],show Dl f o1.dst v d1=v by simp[Dl,e1]]
       exact h.2.2
     rcases h4 rfl hLi a ha with⟨v,W',hr,hp⟩|⟨fn,args,w1,hr,hc⟩
     · exact .inl (.inl ⟨v,W',hr,done v W' hp⟩)
     exact .inl (.inr ⟨fn,args,w1,hr,hc.mono done⟩)
   by_cases i2:i=h2
   · subst i2
     cases hio.symm.trans ho2
     have done:∀v W',Rel W W'∧(phs.getD i (.eq undef)).holds v W'∧G (L h1) true (f d1) v W'→Rel W W'∧(∀d,o2.dst=some d→(phs.getD i (.eq undef)).holds v W')∧G (Cp L i h1) (Cp L i i) (Dl f o2.dst v d1) (Dl f o2.dst v d2) W':=fun v W' h=>by
       refine⟨h.1,fun _ _=>h.2.1,?_⟩
       rw[other v hk1 ho1 e1 i1,lis i1,show Cp L i i=true by simp[Cp],show Dl f o2.dst v d2=v by simp[Dl,e2]]
       exact h.2.2
     rcases h5 rfl hLi a ha with⟨v,W',hr,hp⟩|⟨fn,args,w1,hr,hc⟩
     · exact .inl (.inl ⟨v,W',hr,done v W' hp⟩)
     exact .inl (.inr ⟨fn,args,w1,hr,hc.mono done⟩)
   have done:∀v W',Up W W'∧(phs.getD i (.eq undef)).holds v W'→Rel W W'∧(∀d,o.dst=some d→(phs.getD i (.eq undef)).holds v W')∧G (Cp L i h1) (Cp L i h2) (Dl f o.dst v d1) (Dl f o.dst v d2) W':=fun v W' h=>by
     refine⟨hup _ _ h.1,fun _ _=>h.2,?_⟩
     rw[other v hk1 ho1 e1 i1,other v hk2 ho2 e2 i2,lis i1,lis i2]
     exact hGU _ _ _ _ _ _ hG h.1
   rcases h3 i1 i2 a ha with⟨v,W',hr,hp⟩|⟨fn,args,w1,hr,hc⟩
   · exact .inl (.inl ⟨v,W',hr,done v W' hp⟩)
   exact .inl (.inr ⟨fn,args,w1,hr,hc.mono done⟩)
 intro f W _ hG fuel' listed' a' hf' hu' ha' hsl'
 refine Es hTl hA (opsL.toArray.size-k) k fuel' listed' a' W rfl (by simp;omega) (bi _) hf' hu' ?_
 dsimp only at hG
 rw[bj hk1,bj hk2]at hG
 refine hend W _ _ hG a' ⟨ha'.defers,ha'.size,fun t q ht=>?_⟩
 by_cases t1:t=d1
 · subst t1
   rw[A8]at ht
   cases ht
   exact hsl' _
 rw[Be t1]at ht
 by_cases t2:t=d2
 · subst t2
   rw[A8]at ht
   cases ht
   exact hsl' _
 rw[Be t2]at ht
 refine ha'.val t q ?_
 rw[Fv]
 · exact ht
 cases hq:lk (Ha opsL.toArray (fun i=>phs.getD i (.eq undef)) 0 k) t with
 |none=>rfl
 |some q'=>
   obtain⟨j,p,_,hjk,hp,hpd,_⟩:=E4 hq
   exact absurd hpd (hbd t q ht j p (a_ _) hjk hp)
end
end Go.Wx
namespace Go.Wx
structure Above(B0:Nat)(W W':World):Prop where
 size:W.heap.size≤W'.heap.size
 same:∀i,B0≤i→i<W.heap.size→W'.heap[i]?=W.heap[i]?
theorem Above.refl(B0:Nat)(W:World):Above B0 W W:=⟨bi _,fun _ _ _=>rfl⟩
theorem Above.trans{B0:Nat}{a b c:World}(h:Above B0 a b)(k:Above B0 b c):Above B0 a c:=⟨b6 h.size k.size,fun i h1 h2=>(k.same i h1 (ez h2 h.size)).trans (h.same i h1 h2)⟩
theorem Above.up{B0:Nat}{a b:World}(u:Up a b):Above B0 a b:=⟨u.size,fun _ _ hi=>u.block hi⟩
theorem Above.Ft{B0:Nat}{A A':Asr}{a b:World}(h:Stp A A' a b)(hl:∀i,A.foot i→i<B0):Above B0 a b:=⟨h.fr.size,fun i h1 h2=>h.fr.block i h2 fun hf=>by have:=hl i hf;omega⟩
def litP(B0:Nat)(x:Int)(v:Value)(W:World):Prop:=∃B,v=.slice (some ⟨B,0,none⟩) 1 1∧B0≤B∧B<W.heap.size∧Els W (some ⟨B,0,none⟩) 1 A4 [x]
theorem litP.keep{B0:Nat}{x:Int}{v:Value}{W W':World}(h:litP B0 x v W)(k:Above B0 W W'):litP B0 x v W':=by
 obtain⟨B,e,h1,h2,h3⟩:=h
 exact⟨B,e,h1,ez h2 k.size,Ot h3 fun i hi hl=>by
   obtain⟨_,o,eo⟩:=hi
   cases eo
   exact k.same _ h1 hl⟩
theorem litP.sl{B0:Nat}{x:Int}{v:Value}{W:World}(h:litP B0 x v W):Sl W v 1 A4 [x]:=by
 obtain⟨B,e,_,_,h3⟩:=h
 exact⟨_,_,e,h3⟩
theorem litP.new{B0:Nat}{x:Int}{v:Value}{T:TypeId}{W W':World}(h:NewSl W T 1 A4 [x] v W')(hb:B0≤W.heap.size):Up W W'∧litP B0 x v W':=by
 obtain⟨u,B,rfl,eb,ho⟩:=NewSl.own h (fun _=>rfl) cQ (by simp[maxLen])
 have he:=Cg ho (fun _=>rfl)
 obtain⟨B',o,e,hc⟩:=he 0 x rfl
 cases e
 have hl:B<W'.heap.size:=World.block_lt_of_cell? _ _ (hc 0 (vi x) rfl)
 exact⟨u,B,rfl,by omega,hl,he⟩
def allR(Rel:World→World→Prop):List Ph→Prop
 |[]=>True
 |q::r=>(∀v w w',q.holds v w→Rel w w'→q.holds v w')∧allR Rel r
theorem allR.at{Rel:World→World→Prop}:∀{l:List Ph},allR Rel l→∀i v w w',(l.getD i (.eq undef)).holds v w→Rel w w'→(l.getD i (.eq undef)).holds v w'
 |[],_,_,_,_,_,h,_=>by simpa[Ph.holds]using h
 |_::_,h,0,v,w,w',hv,hr=>by simpa using h.1 v w w' (by simpa using hv) hr
 |_::_,h,i+1,v,w,w',hv,hr=>by simpa using allR.at h.2 i v w w' (by simpa using hv) hr
theorem V1{α β:Type}{f:α→β}{l:List α}{k:Nat}{x:α}(hx:l[k]?=some x):(l.take (k+1)).map f=(l.take k).map f++[f x]:=by
 rw[fz,hx,cm];rfl
theorem mG{w:World}{ad:Option Addr}{l:List Fact}{id:Int}(h:Els w ad 19 Fact.cells l):Els w ad 19 Fact.cells (Hm l id):=fun i x hx=>by
 obtain⟨t,ht⟩:Hm l id<+:l:=List.takeWhile_prefix _
 refine h i x ?_
 rw[←ht,cz (ak.1 hx).1]
 exact hx
theorem rL{α:Type}{w:World}{ad:Option Addr}{k n:Nat}{enc:α→Array Value}{l:List α}(h:Els w ad k enc l):Els w ad k enc (l.take n):=fun i x hx=>by
 rw[fj]at hx
 split at hx
 · exact h i x hx
 cases hx
def mH(L:List Sk)(i j:Nat)(m:Int):Fact:={ Jj with Kind:=1,ID:=((i+1:Nat):Int),Version:=1,Time:=((20*i:Nat):Int),Until:=((20*i:Nat):Int)+m,Wafer:=1,Tool:=Th L j,Step:=(j:Int),Recipe:=Xl L j,Revision:=1 }
structure RwX(L:List Sk)(ss:List Nat)(b:Base):Prop where
 hist:Hn b.Processes b.Swaps 1=Di L ss
 tm:∀x∈Di L ss,x.Time≤((20*ss.length:Nat):Int)
 tmx:∀x∈Di L ss,x.Time≤1000000
 sw:b.Swaps.length≤100000
 pr:b.Processes.length≤100000
 aud:zZ b L∧Lz b L b.Processes=[]
 id:b.Processes.Pairwise fun x y=>x.ID<y.ID
 wh:∀j:Nat,j<L.length→WhyH b (Pu L ss.length j) L (Di L ss)
 why:∀j:Nat,j<L.length→(j:Int)∈Nq L (Di L ss)→aN b (Pu L ss.length j) L (Di L ss)=0
 len:ss.length≤200
 pos:Nq L (Di L ss)=[]→0<ss.length
theorem V2{L:List Sk}(hM:MkS L.length L)(hl:L.length≤8):(1+Ka (aP L) L.length)*L.length≤200:=by
 have h1:=eS hM L.length (bi _)
 have h2:(1+Ka (aP L) L.length)*L.length≤25*8:=km oQ hl
 exact h2
theorem AF{L:List Sk}(hM:MkS L.length L)(hl:1≤L.length∧L.length≤8){ss:List Nat}(h:Wlk L ss):RwX L ss (Sr (Gk (bs (Fj L))++Di L ss) 0):=by
 have hlen:ss.length≤200:=b6 (iK (hM.rT hl) h) (V2 hM hl.2)
 have hst:=(Xn (hM.rT hl) h).st
 have hB:RwB (bs (Fj L)) L ss (Sr (Gk (bs (Fj L))++Di L ss) 0):=AA (by rw[Me];exact qY (hM.GD hl) hl.2) hM hl.2 hst oQ
 have ht:∀x∈Di L ss,x.Time≤((20*ss.length:Nat):Int):=fun x hx=>by
   obtain⟨i,j,hj,rfl⟩:=Fy hx
   have:=(ak.1 hj).1
   show((20*i:Nat):Int)≤_
   omega
 refine⟨hB.hist,ht,fun x hx=>by have:=ht x hx;omega,by rw[hB.sw];exact a_ _,by rw[hB.pr,D5];omega,AB hB hM hl h oQ,by rw[hB.pr];exact Xp.imp fun h=>h.1,fun j hj=>aV hB hM hl hj hst oQ,fun j hj hn=>iN hB hM hj oQ hn,hlen,fun hn=>?_⟩
 cases ss with
 |nil=>rw[show Nq L (Di L [])=[0]from rfl]at hn;cases hn
 |cons=>exact Nat.succ_pos _
end Go.Wx
namespace Go.Proofs.YthcabjphnacjeaaGreatDoor
open Go.Proofs.Tryz
open Go.Wx Go.RowKit
theorem rM(bc:Array Go.Value)(b:Base)(a:GAct)(L:List Sk)(l:List Fact)(w:World)(hC:BaseC w bc b)(hM_:WhyH b a L l)(hG:GM w)(hh:Hn b.Processes b.Swaps a.Wafer=l)(ht:∀x∈l,x.Time≤a.Time)(hsw:b.Swaps.length≤100000)(hpr:b.Processes.length≤100000):Ret prog 11 #[.agg bc,.agg (GAct.cells a)] w fun r w'=>r=vi (aN b a L l)∧Up w w':=by
 obtain⟨w0,rfl,hS⟩:=W0 w
 refine cT 14 func11 rfl ?_
 refine Ae ?_
 refine Ap (.bA rfl) rfl ?_
 rintro _ w1 ⟨B2,rfl,NB2⟩
 have eB2:=NB2.at_
 have zB2:=NB2.size
 replace hS:=hS.Cf NB2
 change Wx.Sep _ _ _ [_]at hS
 refine Ap (.bA rfl) rfl ?_
 rintro _ w2 ⟨B3,rfl,NB3⟩
 have eB3:=NB3.at_
 have zB3:=NB3.size
 replace hS:=hS.Cf NB3
 change Wx.Sep _ _ _ [_,_]at hS
 refine Az (An ?_)
 refine Cz 8 kQ kQ kQ kQ kQ rfl rfl ?_
 refine J (.F7 mg lz (hC.size) (.t rfl) (hS.b0.agg)) ?_
 refine J (.lc rfl (hS.b1.agg)) ?_
 refine J (.F7 mg lz (hC.size) (.t rfl) (hS.b0.agg)) ?_
 refine J (.fB 0 rfl) ?_
 refine J (.lb rfl (hS.b1.Ad rfl)) ?_
 refine J (.fB 6 rfl) ?_
 refine J (.lb rfl (hS.b1.Ad rfl)) ?_
 refine Uq (p:=fun v W=>Sl W v 19 Fact.cells l) (fun _ _ _ h u=>Sl.up h u) (fun a w _ ha=>Bh (.ct rfl (.ct rfl (.cu rfl))) (xH) a ha) rfl rfl (fun w hu=>(Np bc b a.Wafer a.Time w (hC.up (hS.Ch.trans hu)) hsw hpr (by rw[hh];exact ht) (by rw[hh];exact hM_.hl)).mono fun _ _⟨h1,h2⟩=>⟨h2,by rw[←hh];exact h1.sl (fun _=>rfl)⟩) ?_
 refine HW.nil ?_
 intro w3 uw3
 have zw3:=uw3.size
 replace hS:=hS.up uw3
 refine Kh (d:=12) rfl fun v12 hp12=>?_
 obtain⟨ah,ch,rfl,hE12⟩:=hp12
 refine A3 (eC (.ct rfl (.ct rfl (.cu rfl))) (AV)) rfl (Ox bc b a L ah ch l _ (hC.up hS.Ch) hE12 hM_ (hG.up hS.Ch)) ?_
 rintro _ w4 ⟨rfl,uw4⟩
 have zw4:=uw4.size
 replace hS:=hS.up uw4
 refine LW.A rfl (Ah (Am ?_))
 refine KW.q ?_
 exact⟨rfl,hS.Ch⟩
theorem rN(bc:Array Go.Value)(b:Base)(a:GAct)(L:List Sk)(l:List Fact)(w:World)(hC:BaseC w bc b)(hM_:WhyH b a L l)(hG:GM w)(hh:Hn b.Processes b.Swaps a.Wafer=l)(ht:∀x∈l,x.Time≤a.Time)(hsw:b.Swaps.length≤100000)(hpr:b.Processes.length≤100000):Ret prog 7 #[.agg bc,vi a.Wafer,vi a.Time] w fun r w'=>Sl w' r 1 A4 (Nq L l)∧(Nq L l).length≤5∧Up w w':=by
 obtain⟨w0,rfl,hS⟩:=W0 w
 refine cT 16 func7 rfl ?_
 refine Ae ?_
 refine Ap (.bA rfl) rfl ?_
 rintro _ w1 ⟨B3,rfl,NB3⟩
 have eB3:=NB3.at_
 have zB3:=NB3.size
 replace hS:=hS.Cf NB3
 change Wx.Sep _ _ _ [_]at hS
 refine Az (An ?_)
 refine Cz 7 kQ kQ kQ kQ kQ rfl rfl ?_
 refine J (.F7 mg lz (hC.size) (.t rfl) (hS.b0.agg)) ?_
 refine J (.mv rfl) ?_
 refine J (.mv rfl) ?_
 refine J (.F7 mg lz (hC.size) (.t rfl) (hS.b0.agg)) ?_
 refine J (.mv rfl) ?_
 refine J (.mv rfl) ?_
 refine Uq (p:=fun v W=>Sl W v 19 Fact.cells l) (fun _ _ _ h u=>Sl.up h u) (fun a w _ ha=>Bh (.ct rfl (.ct rfl (.cu rfl))) (xH) a ha) rfl rfl (fun w hu=>(Np bc b a.Wafer a.Time w (hC.up (hS.Ch.trans hu)) hsw hpr (by rw[hh];exact ht) (by rw[hh];exact hM_.hl)).mono fun _ _⟨h1,h2⟩=>⟨h2,by rw[←hh];exact h1.sl (fun _=>rfl)⟩) ?_
 refine HW.nil ?_
 intro w2 uw2
 have zw2:=uw2.size
 replace hS:=hS.up uw2
 refine Kh (d:=13) rfl fun v13 hp13=>?_
 obtain⟨ah,ch,rfl,hE13_⟩:=hp13
 have hE13:Els w2 ah 19 Fact.cells l:=hE13_
 clear hE13_
 obtain⟨f_,hf_,hT_⟩:=hM_.flow
 refine A3 (eC (.ct rfl (.ct rfl (.ct rfl (.cu rfl)))) (AP)) rfl (iP bc b a.Wafer a.Time ah l.length ch f_ L _ (hC.up hS.Ch) (by have:=hM_.hLo;omega) hM_.hFl hM_.lot hf_ hT_ hM_.fl hM_.fw (hG.up hS.Ch)) ?_
 rintro _ w3 ⟨av,cv,M,rfl,hM,hFk,uw3⟩
 have zw3:=uw3.size
 replace hS:=hS.up uw3
 replace hE13:=hE13.up uw3
 refine A3 (eC (.o rfl) (AQ)) rfl (V0 av cv M ah ch l _ hFk.g (hM.rT hM_.fw) hE13 hM_.hl (fun p hp=>by rw[hM.len];exact hM_.hst p hp)) ?_
 rintro v15 w4 ⟨hS15,hn15,uw4⟩
 have zw4:=uw4.size
 replace hS:=hS.up uw4
 replace hE13:=hE13.up uw4
 refine LW.A rfl (Ah (Am ?_))
 refine KW.q ?_
 rw[aO hM]at hS15 hn15
 exact⟨hS15,hn15,hS.Ch⟩
theorem rO(bc:Array Go.Value)(b:Base)(wafer time:Int)(l:List Fact)(w:World)(hC:BaseC w bc b)(hl:l.length≤100000)(hh:Hn b.Processes b.Swaps wafer=l)(ht:∀x∈l,x.Time≤time)(hsw:b.Swaps.length≤100000)(hpr:b.Processes.length≤100000):Ret prog 8 #[.agg bc,vi wafer,vi time] w fun r w'=>∃v1 v2,r=.tuple #[v1,v2]∧Sl w' v1 1 A4 (l.map Fact.Step)∧Sl w' v2 1 A4 (l.map Fact.ID)∧Up w w':=by
 obtain⟨w0,rfl,hS⟩:=W0 w
 refine cT 34 func8 rfl ?_
 refine Ae ?_
 refine Ap (.bA rfl) rfl ?_
 rintro _ w1 ⟨B3,rfl,NB3⟩
 have eB3:=NB3.at_
 have zB3:=NB3.size
 replace hS:=hS.Cf NB3
 change Wx.Sep _ _ _ [_]at hS
 refine Az (Az (An (Aa (Az (Az (An (Ak ?_)))))))
 replace hS:=(hS.Lb (OwnS.nil _ 0 3 1 A4)).Lb (OwnS.nil _ 0 3 1 A4)
 change Wx.Sep _ _ _ [_,_,_]at hS
 refine Aa ?_
 refine U (.F7 mg lz (hC.size) (.t rfl) (hS.b0.agg)) ?_
 refine I rfl (I rfl ?_)
 refine A3 (eC (.ct rfl (.ct rfl (.cu rfl))) (xH)) rfl (Np bc b wafer time _ (hC.up hS.Ch) hsw hpr (by rw[hh];exact ht) (by rw[hh];exact hl)) ?_
 rintro v15 w2 ⟨hO15,uw2⟩
 have zw2:=uw2.size
 replace hS:=hS.add uw2 (A':=Aw 47 19 Fact.cells v15 l) ((hh▸hO15).mono (a_ _)) (fun i h=>hO15.base i h)
 change Wx.Sep _ _ _ [_,_,_,_]at hS
 clear hO15
 obtain⟨ah,ch,rfl,_⟩:=(hS.own 3 rfl).sl (fun _=>rfl)
 refine U (.Cl kz (.t rfl)) ?_
 refine U (.move (.const _)) ?_
 refine Ah (Ai ?_)
 refine A7 (σ:=Nat×Go.Value×Go.Value) (fun s w=>(s.1≤l.length)∧(Wx.Sep no w0 w [A5 B3 bc 35,Aw 3 1 A4 s.2.1 ((l.take s.1).map Fact.Step),Aw 3 1 A4 s.2.2 ((l.take s.1).map Fact.ID),Aw 47 19 Fact.cells (.slice ah l.length ch) l])) (fun s=>[(17,.eq (vi (s.1:Int))),(8,.eq (s.2.1)),(9,.eq (s.2.2))]) ([(6,.eq _),(7,.eq _),(15,.eq _),(16,.eq _)]) (fun s=>l.length-s.1) (0,.slice none 0 0,.slice none 0 0) ?_ tQ ?_
 ·exact⟨a_ _,hS⟩
 rintro⟨k,v1,v2⟩ w3 ⟨hk,hS⟩
 dsimp only at hk hS
 change Wx.Sep _ _ _ [_,_,_,_]at hS
 change CW _ _ _ _ _ _ _ ([(17,.eq (vi (k:Int))),(8,.eq (v1)),(9,.eq (v2))]++_) _
 refine Ae ?_
 refine U (.l2 rfl rfl) ?_
 refine An ?_
 refine CW.b rfl (fun h18=>?_) (fun h18=>?_)
 ·replace h18:=dQ h18
  refine Aj (Ab (Ak (Ai (Ak ?_))))
  have hkl:k<l.length:=co.1 h18
  obtain⟨x,hx⟩:=Af (xs:=l) (i:=k) hkl
  obtain⟨Bx,ox,ax,hcx⟩:=(Cg (hS.own 3 rfl) (fun _=>rfl)) k x hx
  refine Aa ?_
  refine U (.Ao kz k7 (j:=k) (.t rfl) (.t rfl) oQ ax) ?_
  refine U (.lc rfl (hcx)) ?_
  refine Ap (.Cb lg) rfl ?_
  rintro _ w4 ⟨B11,rfl,MB11⟩
  refine Ce (.Cc k7 rfl (.t rfl) (.t rfl) (Fact.one _) MB11.blk rfl) ?_
  intro w5 LB11
  have NB11:=MB11.set LB11
  clear LB11 MB11
  have eB11:=NB11.at_
  have zB11:=NB11.size
  replace hS:=hS.Cf NB11
  change Wx.Sep _ _ _ [_,_,_,_,_]at hS
  refine Ah ?_
  refine vM 10 4 9 25 30 [.eq (v1),.eq (.pointer (some ⟨B11,13,none⟩)),.eq (vi x.Step),.pred (litP w5.heap.size x.Step),.pred fun _ _=>True,.eq (v2),.eq (.pointer (some ⟨B11,1,none⟩)),.eq (vi x.ID),.pred (litP w5.heap.size x.ID),.pred fun _ _=>True] (Above w5.heap.size) (fun b1 b2 u1 u2 W=>Wx.Sep no w0 W [A5 B3 bc 35,Aw 3 1 A4 (cond b1 u1 v1) (cond b1 ((l.take k).map Fact.Step++[x.Step]) ((l.take k).map Fact.Step)),Aw 3 1 A4 (cond b2 u2 v2) (cond b2 ((l.take k).map Fact.ID++[x.ID]) ((l.take k).map Fact.ID)),Aw 47 19 Fact.cells (.slice ah l.length ch) l,A5 B11 (Fact.cells x) 47]) kQ rfl kQ kQ kQ kQ kQ kQ kQ rfl rfl cQ (Above.refl _) (fun _ _ _=>Above.trans) (fun _ _=>Above.up) (fun i v w w' h u=>allR.at (Rel:=Above w5.heap.size) (l:=[.eq (v1),.eq (.pointer (some ⟨B11,13,none⟩)),.eq (vi x.Step),.pred (litP w5.heap.size x.Step),.pred fun _ _=>True,.eq (v2),.eq (.pointer (some ⟨B11,1,none⟩)),.eq (vi x.ID),.pred (litP w5.heap.size x.ID),.pred fun _ _=>True]) ⟨fun _ _ _ h _=>h,fun _ _ _ h _=>h,fun _ _ _ h _=>h,fun _ _ _ h u=>litP.keep h u,fun _ _ _ _ _=>trivial,fun _ _ _ h _=>h,fun _ _ _ h _=>h,fun _ _ _ h _=>h,fun _ _ _ h u=>litP.keep h u,fun _ _ _ _ _=>trivial,trivial⟩ i v w w' h u) (fun _ _ _ _ _ _ h u=>Sep.up h u) (fun _ _=>hS.up (Up.drew _)) ?_ ?_
  ·intro b1 b2 u1 u2 W hR hG
   have hRz:=hR.size
   have zdr_:w5.drew.heap.size=w5.heap.size:=rfl
   refine aC ⟨rfl,fun _ _=>TU.p (.mv rfl) rfl,fun h=>absurd h cQ,fun h=>absurd h cQ⟩ ?_
   refine aC ⟨rfl,fun _ _=>TU.p (.fB 13 rfl) rfl,fun h=>absurd h cQ,fun h=>absurd h cQ⟩ ?_
   refine aC ⟨rfl,fun _ _=>TU.p (.lb rfl (hG.b4.Ad rfl)) rfl,fun h=>absurd h cQ,fun h=>absurd h cQ⟩ ?_
   refine aC ⟨rfl,fun _ _=>TU.r (REv.buildSlice (xs:=[x.Step]) (enc:=A4) (mk:=vi) ky k6 lf rfl cQ (fun _=>rfl) (fun _=>rfl) (.cu rfl) rfl) (fun _ _ h=>litP.new h oQ),fun h=>absurd h cQ,fun h=>absurd h cQ⟩ ?_
   refine aC ⟨rfl,fun h g=>absurd rfl h,fun h=>?_,fun h=>absurd h cQ⟩ ?_
   ·intro hb a ha
    subst hb
    replace hG:Wx.Sep no w0 W [A5 B3 bc 35,Aw 3 1 A4 v1 ((l.take k).map Fact.Step),Aw 3 1 A4 (cond b2 u2 v2) (cond b2 ((l.take k).map Fact.ID++[x.ID]) ((l.take k).map Fact.ID)),Aw 47 19 Fact.cells (.slice ah l.length ch) l,A5 B11 (Fact.cells x) 47]:=hG
    have hlt:=(hS.own 1 rfl).lt
    exact(REv.open (d:=24) (p:=litP w5.heap.size x.Step) rfl fun vv hv=>(REv.Df (enc:=A4) (bytes:=8) (i:=Tryz.t3) ky kQ rfl rfl rfl rfl cQ (fun _=>rfl) Er (.t rfl) (.t rfl) (hG.own 1 rfl) hv.sl (by simp[maxLen];omega) (by simp;omega)).mono fun v' w'' h=>⟨Above.Ft h hlt,trivial,hG.Ft 1 rfl h⟩).y ha
   refine aC ⟨rfl,fun _ _=>TU.p (.mv rfl) rfl,fun h=>absurd h cQ,fun h=>absurd h cQ⟩ ?_
   refine aC ⟨rfl,fun _ _=>TU.p (.fB 1 rfl) rfl,fun h=>absurd h cQ,fun h=>absurd h cQ⟩ ?_
   refine aC ⟨rfl,fun _ _=>TU.p (.lb rfl (hG.b4.Ad rfl)) rfl,fun h=>absurd h cQ,fun h=>absurd h cQ⟩ ?_
   refine aC ⟨rfl,fun _ _=>TU.r (REv.buildSlice (xs:=[x.ID]) (enc:=A4) (mk:=vi) ky k6 lf rfl cQ (fun _=>rfl) (fun _=>rfl) (.cu rfl) rfl) (fun _ _ h=>litP.new h oQ),fun h=>absurd h cQ,fun h=>absurd h cQ⟩ ?_
   refine aC ⟨rfl,fun h g=>absurd rfl g,fun h=>absurd h cQ,fun h=>?_⟩ ?_
   ·intro hb a ha
    subst hb
    replace hG:Wx.Sep no w0 W [A5 B3 bc 35,Aw 3 1 A4 (cond b1 u1 v1) (cond b1 ((l.take k).map Fact.Step++[x.Step]) ((l.take k).map Fact.Step)),Aw 3 1 A4 v2 ((l.take k).map Fact.ID),Aw 47 19 Fact.cells (.slice ah l.length ch) l,A5 B11 (Fact.cells x) 47]:=hG
    have hlt:=(hS.own 2 rfl).lt
    exact(REv.open (d:=29) (p:=litP w5.heap.size x.ID) rfl fun vv hv=>(REv.Df (enc:=A4) (bytes:=8) (i:=Tryz.t3) ky kQ rfl rfl rfl rfl cQ (fun _=>rfl) Er (.t rfl) (.t rfl) (hG.own 2 rfl) hv.sl (by simp[maxLen];omega) (by simp;omega)).mono fun v' w'' h=>⟨Above.Ft h hlt,trivial,hG.Ft 2 rfl h⟩).y ha
   exact allL.nil
  intro w6 u1 u2 hG
  replace hS:=hG
  replace hS:Wx.Sep no w0 w6 [A5 B3 bc 35,Aw 3 1 A4 u1 ((l.take k).map Fact.Step++[x.Step]),Aw 3 1 A4 u2 ((l.take k).map Fact.ID++[x.ID]),Aw 47 19 Fact.cells (.slice ah l.length ch) l,A5 B11 (Fact.cells x) 47]:=hS
  refine LW.A rfl (LW.A rfl (LW.nil (Al (Ab (Aa ?_)))))
  refine U (.ic rfl oQ) ?_
  refine I rfl (LW.nil (Av ?_))
  exact⟨(k+1,u1,u2),⟨by show k+1≤l.length;omega,by show Wx.Sep _ _ _ [_,Aw _ _ _ _ ((l.take (k+1)).map _),Aw _ _ _ _ ((l.take (k+1)).map _),_];rw[V1 hx,V1 hx];exact hS.take 4⟩,tQ,by show l.length-(k+1)<l.length-k;omega⟩
 replace h18:=dQ h18
 have hkl:k=l.length:=by have:¬k<l.length:=fun h=>h18 (co.2 h);omega
 refine A9 (Ac (Ac (Aq (Ab (Ae (I rfl (I rfl (LW.A rfl (LW.A rfl (Ah (Am ?_)))))))))))
 refine F9 rfl rfl rfl ⟨_,rfl,?_⟩
 subst hkl
 rw[b7]at hS
 exact⟨v1,v2,rfl,(hS.own 1 rfl).sl (fun _=>rfl),(hS.own 2 rfl).sl (fun _=>rfl),hS.Ch⟩
theorem rP(x p:Fact)(B:Nat)(w:World)(hB:Blk w B (Fact.cells p) 47):Ret prog 29 #[.agg (Fact.cells x),.pointer (some ⟨B,0,none⟩)] w fun r w'=>r=.bool (Vx p.ID x)∧Up w w':=by
 have hW:=Up.refl w
 obtain⟨w0,rfl,_⟩:=W0 w
 refine cT 9 func29 rfl ?_
 refine Ae ?_
 refine Ap (.bA rfl) rfl ?_
 rintro _ w1 ⟨B2,rfl,NB2⟩
 have eB2:=NB2.at_
 have zB2:=NB2.size
 replace hW:=hW.up NB2.up
 have hB2:=NB2.blk
 refine Az (An (Aa ?_))
 refine U (.fB 1 rfl) ?_
 refine U (.lb rfl (hB2.Ad rfl)) ?_
 refine U (.fB 1 rfl) ?_
 refine U (.lb rfl ((hB.up hW).Ad rfl)) ?_
 refine U (.eql (.t rfl) (.t rfl)) ?_
 refine LW.A rfl (Ah (Am ?_))
 refine KW.q ?_
 exact⟨rfl,hW⟩
set_option maxHeartbeats 1000000 in
theorem mI(bc:Array Go.Value)(b:Base)(L:List Sk)(w:World)(hC:BaseC w bc b)(hA:zZ b L)(hG:GM w)(hsw:b.Swaps.length≤100000)(hpr:b.Processes.length≤100000)(hid:b.Processes.Pairwise fun x y=>x.ID<y.ID):Ret prog 9 #[.agg bc] w fun r w'=>Sl w' r 1 A4 (Lz b L b.Processes)∧Up w w':=by
 obtain⟨w0,rfl,hS⟩:=W0 w
 obtain⟨v_,h_,ad,cp,rfl,hE_⟩:=hC.at_ (j:=0) cQ
 replace h_:bc[0]?=some (.slice ad b.Processes.length cp):=h_
 replace hE_:Els w0 ad 19 Fact.cells b.Processes:=hE_
 refine cT 62 func9 rfl ?_
 refine Ae ?_
 refine Ap (.bA rfl) rfl ?_
 rintro _ w1 ⟨B1,rfl,NB1⟩
 have eB1:=NB1.at_
 have zB1:=NB1.size
 replace hS:=hS.Cf NB1
 change Wx.Sep _ _ _ [_]at hS
 refine Az (An (Aa (Az (An (Ak ?_)))))
 replace hS:=hS.Lb (OwnS.nil _ 0 3 1 A4)
 change Wx.Sep _ _ _ [_,_]at hS
 refine Aa ?_
 refine U (.fB 0 rfl) ?_
 refine U (.lb rfl (hS.b0.cell h_)) ?_
 refine U (.Cl kz (.t rfl)) ?_
 refine U (.move (.const _)) ?_
 refine Ah (Ai ?_)
 refine A7 (σ:=Nat×Go.Value) (fun s w=>(s.1≤b.Processes.length)∧(Wx.Sep no w0 w [A5 B1 bc 35,Aw 3 1 A4 s.2 (Lz b L (b.Processes.take s.1))])) (fun s=>[(12,.eq (vi (s.1:Int))),(3,.eq (s.2))]) ([(1,.eq _),(2,.eq _),(10,.eq _),(11,.eq _)]) (fun s=>b.Processes.length-s.1) (0,.slice none 0 0) ?_ tQ ?_
 ·exact⟨a_ _,hS⟩
 rintro⟨k,v⟩ w2 ⟨hk,hS⟩
 dsimp only at hk hS
 change Wx.Sep _ _ _ [_,_]at hS
 change CW _ _ _ _ _ _ _ ([(12,.eq (vi (k:Int))),(3,.eq (v))]++_) _
 refine Ae ?_
 refine U (.l2 rfl rfl) ?_
 refine An ?_
 refine CW.b rfl (fun h13=>?_) (fun h13=>?_)
 ·replace h13:=dQ h13
  refine Aj (Ab (Ak (Ai (Ak ?_))))
  have hkl:k<b.Processes.length:=co.1 h13
  obtain⟨p,hp⟩:=Af (xs:=b.Processes) (i:=k) hkl
  have hpm:=ai hp
  have hAp:=hA p hpm
  obtain⟨Bx,ox,ax,hcx⟩:=(Els.up hE_ hS.Ch) k p hp
  refine Aa ?_
  refine U (.Ao kz k7 (j:=k) (.t rfl) (.t rfl) oQ ax) ?_
  refine U (.lc rfl (hcx)) ?_
  refine Ap (.Cb lg) rfl ?_
  rintro _ w3 ⟨B5,rfl,MB5⟩
  refine Ce (.Cc k7 rfl (.t rfl) (.t rfl) (Fact.one _) MB5.blk rfl) ?_
  intro w4 LB5
  have NB5:=MB5.set LB5
  clear LB5 MB5
  have eB5:=NB5.at_
  have zB5:=NB5.size
  replace hS:=hS.Cf NB5
  change Wx.Sep _ _ _ [_,_,_]at hS
  refine An ?_
  refine Qv 21 19 20 18 6 34 (GAct.cells ⟨0,0,0,0,0,0,0⟩) [.eq (.agg bc),.eq (.pointer (some ⟨B5,7,none⟩)),.eq (vi p.Wafer),.eq (.pointer (some ⟨B5,5,none⟩)),.eq (vi p.Time),.eq (vi (Pe b.Swaps p.Time p.Wafer)),.eq (.pointer (some ⟨B5,13,none⟩)),.eq (vi p.Step),.eq (.pointer (some ⟨B5,11,none⟩)),.eq (vi p.Tool),.eq (.pointer (some ⟨B5,12,none⟩)),.eq (vi p.Chamber),.eq (.pointer (some ⟨B5,14,none⟩)),.eq (vi p.Recipe),.eq (.pointer (some ⟨B5,15,none⟩)),.eq (vi p.Revision),.eq (.pointer (some ⟨B5,5,none⟩)),.eq (vi p.Time),.eq (.agg (GAct.cells (Tl b p))),.pred fun v _=>∃B,v=.pointer (some ⟨B,0,none⟩),.eq (undef)] [] zeroValue44 sizeOf44 kQ rfl kQ kQ kQ kQ kQ kQ kQ rfl rfl ⟨_,_,_,rfl⟩ _ rfl ⟨_,_,_,rfl⟩ ⟨n_,n_,n_,n_,n_,n_,n_,n_,n_,n_,n_,n_,n_,n_,n_,n_,n_,n_,n_,PhT.pred fun _ _ _ h _=>h,n_,trivial⟩ rfl (fun v W h=>⟨_,h,rfl,GAct.one _⟩) (fun B W=>⟨B,rfl⟩) ?_ ?_
  ·intro W hU0
   have hU:=(Up.drew w4).trans hU0
   have hSW:=hS.up hU
   refine aC (.inr ⟨rfl,TU.p (.F7 mg lz hC.size (.t rfl) hSW.b0.agg) rfl⟩) ?_
   refine aC (.inr ⟨rfl,TU.p (.fB 7 rfl) rfl⟩) ?_
   refine aC (.inr ⟨rfl,TU.p (.lb rfl (hSW.b2.Ad rfl)) rfl⟩) ?_
   refine aC (.inr ⟨rfl,TU.p (.fB 5 rfl) rfl⟩) ?_
   refine aC (.inr ⟨rfl,TU.p (.lb rfl (hSW.b2.Ad rfl)) rfl⟩) ?_
   refine aC (.inr ⟨rfl,TU.c (eC (.ct rfl (.ct rfl (.cu rfl))) (AR)) (gT bc b p.Wafer p.Time W (hC.up hSW.Ch) oQ) sQ⟩) ?_
   refine aC (.inr ⟨rfl,TU.p (.fB 13 rfl) rfl⟩) ?_
   refine aC (.inr ⟨rfl,TU.p (.lb rfl (hSW.b2.Ad rfl)) rfl⟩) ?_
   refine aC (.inr ⟨rfl,TU.p (.fB 11 rfl) rfl⟩) ?_
   refine aC (.inr ⟨rfl,TU.p (.lb rfl (hSW.b2.Ad rfl)) rfl⟩) ?_
   refine aC (.inr ⟨rfl,TU.p (.fB 12 rfl) rfl⟩) ?_
   refine aC (.inr ⟨rfl,TU.p (.lb rfl (hSW.b2.Ad rfl)) rfl⟩) ?_
   refine aC (.inr ⟨rfl,TU.p (.fB 14 rfl) rfl⟩) ?_
   refine aC (.inr ⟨rfl,TU.p (.lb rfl (hSW.b2.Ad rfl)) rfl⟩) ?_
   refine aC (.inr ⟨rfl,TU.p (.fB 15 rfl) rfl⟩) ?_
   refine aC (.inr ⟨rfl,TU.p (.lb rfl (hSW.b2.Ad rfl)) rfl⟩) ?_
   refine aC (.inr ⟨rfl,TU.p (.fB 5 rfl) rfl⟩) ?_
   refine aC (.inr ⟨rfl,TU.p (.lb rfl (hSW.b2.Ad rfl)) rfl⟩) ?_
   refine aC (.inr ⟨rfl,TU.p (.build (cs:=(GAct.cells (Tl b p))) underlying44 zeroValue44 Mm (.ct rfl (.ct rfl (.ct rfl (.ct rfl (.ct rfl (.ct rfl (.cu rfl))))))) kQ) rfl⟩) ?_
   refine aC (.inl (.inl rfl)) ?_
   refine aC (.inl (.inr rfl)) ?_
   exact allL.nil
  intro w5 B6 g hU0 zB6_ hB6 hg
  have hU:=(Up.drew w4).trans hU0
  have zw5:=hU.size
  have zdr:w4.drew.heap.size=w4.heap.size:=rfl
  have g34_:g 34=.agg (GAct.cells (Tl b p)):=hg 18 _ 34 cQ rfl rfl
  rw[g34_]at hB6
  replace hB6:Blk w5 B6 (GAct.cells (Tl b p)) 44:=hB6
  change LW _ _ _ _ _ _ _ _ ((6,_)::_) _
  clear hg
  replace hS:=(hS.up (Up.drew _)).add hU0 (A':=A5 B6 (GAct.cells (Tl b p)) 44) hB6 (fun i(e:i=B6)=>by omega)
  change Wx.Sep _ _ _ [_,_,_,_]at hS
  clear hB6
  refine An (Aa ?_)
  refine U (.F7 mg lz (hC.size) (.t rfl) (hS.b0.agg)) ?_
  refine U (.fB 0 rfl) ?_
  refine U (.lb rfl (hS.b3.Ad rfl)) ?_
  refine A3 (eC (.u rfl rfl) (AU)) rfl (Qc bc b (Pe b.Swaps p.Time p.Wafer) _ (hC.up hS.Ch) oQ oQ) ?_
  rintro v38 w6 ⟨hO38,uw6⟩
  have zw6:=uw6.size
  replace hS:=hS.add uw6 (A':=Aw 47 19 Fact.cells v38 (Mj b p)) (hO38.mono (a_ _)) (fun i h=>hO38.base i h)
  change Wx.Sep _ _ _ [_,_,_,_,_]at hS
  clear hO38
  obtain⟨ad38,cp38,rfl,_⟩:=(hS.own 4 rfl).sl (fun _=>rfl)
  refine LW.A rfl (Ah ?_)
  refine Ep (fun a1 W=>Ag 62 [] ([(1,.eq (.pointer (some ⟨B1,0,none⟩))),(2,.eq (.slice none 0 0)),(3,.eq (v)),(5,.eq (.pointer (some ⟨B5,0,none⟩))),(6,.eq (.pointer (some ⟨B6,0,none⟩))),(7,.eq (.slice ad38 (Hm (Mj b p) p.ID).length cp38)),(10,.eq (.slice ad b.Processes.length cp)),(11,.eq (vi (b.Processes.length:Int))),(12,.eq (vi (k:Int)))]) a1 W∧Wx.Sep no w0 W [A5 B1 bc 35,Aw 3 1 A4 v (Lz b L (b.Processes.take k)),A5 B5 (Fact.cells p) 47,A5 B6 (GAct.cells (Tl b p)) 44,Aw 47 19 Fact.cells (.slice ad38 (Mj b p).length cp38) (Mj b p)]) ?_ ?_
  ·skip
   refine Ae (I rfl ?_)
   refine U (.makeFunc (.cu rfl)) ?_
   refine A3 (eC (.u rfl rfl) (xI)) rfl (Pf 29 #[.pointer (some ⟨B5,0,none⟩)] (Vx p.ID) GY ad38 cp38 (Mj b p) _ (Cg (hS.own 4 rfl) (fun _=>rfl)) hAp.2 (fun W u x=>rP x p B5 W (hS.b2.up u))) ?_
   rintro _ w7 ⟨i,rfl,hi,uw7⟩
   have zw7:=uw7.size
   replace hS:=hS.up uw7
   refine LW.A rfl (An (Aa (I rfl ?_)))
   refine U (.geq (.t rfl) (.const _)) ?_
   refine Ah ?_
   refine CW.b rfl (fun h43=>?_) (fun h43=>?_)
   ·replace h43:=dQ h43
    obtain⟨m,xm,rfl,hmx,hme,hmn⟩:=hi.resolve_right (fun⟨e,_⟩=>by rw[e]at h43;exact absurd h43 cQ)
    have hml:=(ak.1 hmx).1
    refine Aa (I rfl (I rfl ?_))
    refine U (.Dr (v':=.slice ad38 (Hm (Mj b p) p.ID).length cp38) (PEv.L4 (j:=m) kz k7 (.t rfl) (.t rfl) (by have:=(hS.own 4 rfl).cap;omega)) (by rw[aS hmx hme hmn,ca,dk (by omega)])) ?_
    refine LW.A rfl (LW.nil ?_)
    exact fun a ha=>⟨ha.sub tQ,(by first|exact hS|(rw[Tm hno];exact hS))⟩
   replace h43:=dQ h43
   have hno:=(hi.resolve_left (fun⟨m,_,e,_⟩=>h43 (by rw[e];exact gp m))).2
   rw[show Value.slice ad38 (Mj b p).length cp38=.slice ad38 (Hm (Mj b p) p.ID).length cp38 by rw[Tm hno]]
   refine Aj ?_
   exact fun a ha=>⟨ha.sub tQ,(by first|exact hS|(rw[Tm hno];exact hS))⟩
  rintro a1 w8 ⟨ha,hS⟩
  revert a1
  show CW none _ _ _ _ _ _ _ _
  refine Ae ?_
  refine U (.F7 mg lz (hC.size) (.t rfl) (hS.b0.agg)) ?_
  refine U (.lc rfl (hS.b3.agg)) ?_
  refine I rfl ?_
  refine A3 (eC (.ct rfl (.ct rfl (.cu rfl))) (AV)) rfl (Ox bc b (Tl b p) L ad38 cp38 (Hm (Mj b p) p.ID) _ (hC.up hS.Ch) (mG (Cg (hS.own 4 rfl) (fun _=>rfl))) hAp.1 (hG.up hS.Ch)) ?_
  rintro _ w9 ⟨rfl,uw9⟩
  have zw9:=uw9.size
  replace hS:=hS.up uw9
  refine U (.neq (.t rfl) (.const _)) ?_
  refine Ah ?_
  refine CW.b rfl (fun h51=>?_) (fun h51=>?_)
  ·replace h51:=dQ h51
   have hb51:Xo b L p=true:=by unfold Xo;simpa using h51
   refine Aa (I rfl ?_)
   refine U (.fB 1 rfl) ?_
   refine U (.lb rfl (hS.b2.Ad rfl)) ?_
   refine Ap (.buildSlice (xs:=[p.ID]) (enc:=A4) (mk:=vi) ky k6 lf rfl cQ (fun _=>rfl) (fun _=>rfl) (.cu rfl) rfl) rfl ?_
   rintro _ w10 ⟨B55,cB55,rfl,NB55,yB55,xB55⟩
   have eB55:=NB55.at_
   have zB55:=NB55.size
   replace hS:=hS.up NB55.up
   have hE55:=xB55
   refine Ap (.Df (enc:=A4) (bytes:=8) (i:=Tryz.t3) ky kQ rfl rfl rfl rfl cQ (fun _=>rfl) Er (.t rfl) (.t rfl) (hS.own 1 rfl) (Ay hE55) (by have:=Ow (b:=b) (L:=L) (l:=b.Processes.take k);simp[maxLen];simp at this;omega) (by have:=Ow (b:=b) (L:=L) (l:=b.Processes.take k);simp;simp at this;omega)) rfl ?_
   intro v56 w11 Gw11
   have zw11:=Gw11.fr.size
   replace hS:=hS.Ft 1 rfl Gw11
   change Wx.Sep _ _ _ [_,_,_,_,_]at hS
   refine LW.A rfl (LW.nil (Al (Ab (Aa ?_))))
   refine U (.ic rfl oQ) ?_
   refine I rfl (LW.nil (Av ?_))
   first|exact⟨(k+1,v56),⟨by show k+1≤b.Processes.length;omega,by show Wx.Sep _ _ _ [_,Aw _ _ _ _ (Lz b L (b.Processes.take (k+1)))];rw[Mf hp,hb51];first|exact hS.take 2|(rw[aq cQ,dq];exact hS.take 2)⟩,tQ,by show b.Processes.length-(k+1)<b.Processes.length-k;omega⟩|exact⟨(k+1,v),⟨by show k+1≤b.Processes.length;omega,by show Wx.Sep _ _ _ [_,Aw _ _ _ _ (Lz b L (b.Processes.take (k+1)))];rw[Mf hp,hb51];first|exact hS.take 2|(rw[aq cQ,dq];exact hS.take 2)⟩,tQ,by show b.Processes.length-(k+1)<b.Processes.length-k;omega⟩
  replace h51:=dQ h51
  have hb51:Xo b L p=false:=by unfold Xo;simpa using h51
  refine Aj (Al (Ab (Aa ?_)))
  refine U (.ic rfl oQ) ?_
  refine I rfl (LW.nil (Av ?_))
  first|exact⟨(k+1,v56),⟨by show k+1≤b.Processes.length;omega,by show Wx.Sep _ _ _ [_,Aw _ _ _ _ (Lz b L (b.Processes.take (k+1)))];rw[Mf hp,hb51];first|exact hS.take 2|(rw[aq cQ,dq];exact hS.take 2)⟩,tQ,by show b.Processes.length-(k+1)<b.Processes.length-k;omega⟩|exact⟨(k+1,v),⟨by show k+1≤b.Processes.length;omega,by show Wx.Sep _ _ _ [_,Aw _ _ _ _ (Lz b L (b.Processes.take (k+1)))];rw[Mf hp,hb51];first|exact hS.take 2|(rw[aq cQ,dq];exact hS.take 2)⟩,tQ,by show b.Processes.length-(k+1)<b.Processes.length-k;omega⟩
 replace h13:=dQ h13
 refine A9 (Ac (Ac (Aq (Ab (Ak ?_)))))
 have hkl:k=b.Processes.length:=by have:¬k<b.Processes.length:=fun h=>h13 (co.2 h);omega
 subst hkl
 rw[b7]at hS
 refine Aa (I rfl ?_)
 refine A3 (eC (.o rfl) (xJ)) rfl (Vz _ _ _ (hS.own 1 rfl) (by have:=Ow (b:=b) (L:=L) (l:=b.Processes);omega)) ?_
 rintro _ w12 uw12
 have zw12:=uw12.fr.size
 replace hS:=hS.Ft 1 rfl uw12
 change Wx.Sep _ _ _ [_,_]at hS
 rw[rC (aT hid)]at hS
 change Wx.Sep _ _ _ [_,_]at hS
 obtain⟨ad3,cp3,rfl,_⟩:=(hS.own 1 rfl).sl (fun _=>rfl)
 refine An (Aa (I rfl ?_))
 refine A3 (eC (.o rfl) (xK)) rfl (Pv ad3 cp3 _ _ (Cg (hS.own 1 rfl) (fun _=>rfl)) (by have:=Ow (b:=b) (L:=L) (l:=b.Processes);omega) (aT hid)) ?_
 rintro _ w13 ⟨rfl,uw13⟩
 have zw13:=uw13.size
 replace hS:=hS.up uw13
 refine LW.A rfl (Ah (Am ?_))
 refine KW.q ?_
 exact⟨(hS.own 1 rfl).sl (fun _=>rfl),hS.Ch⟩
end Go.Proofs.YthcabjphnacjeaaGreatDoor
namespace Go.Wx
open Go.RowKit
section
variable {R:Option Nat}{m:Nat}{P:Program}{n:Nat}{ds:List Deferred}{Q:Exit→Go.Act→World→Prop}{w:World}
theorem AWU.free{opsL:List Oper}(s k:Nat)(phs:List Ph)(keep:List Nat){base:Env}(hl:Cn base=true)
   (hA:Dt opsL.toArray=true)(hC:(Nat.beq k opsL.toArray.size||Ff opsL.toArray k)=true)(hF:H8 opsL.toArray k=true)(hks:Nat.ble k opsL.toArray.size=true)(hsk:Nat.ble s k=true)(hD:Gm n opsL.toArray s k=true)(hTl:Gl opsL.toArray k=true)
   (hfree:Iz base ((opsL.take k).drop s)=true)(hph:allU phs)
   (hop:∀W,Up w W→allL (fun i o=>TOp P n ds opsL.toArray (Jb opsL.toArray (fun i=>phs.getD (i-s) (.eq undef)) s o++base) W o (fun v W'=>Up W W'∧(phs.getD (i-s) (.eq undef)).holds v W')) s ((opsL.take k).drop s))
   (hend:∀W(g:Nat→Value),Up w W→(∀i o d,s≤i→i<k→opsL[i]?=some o→o.dst=some d→(phs.getD (i-s) (.eq undef)).holds (g d) W)→LW R m P n ds opsL.toArray Q (opsL.drop k) (keep.map (fun d=>(d,.eq (g d)))++base) W):
   AWU R m P n ds opsL.toArray Q s base w:=by
 have hks':k≤opsL.length:=by have:=be hks;simp at this;omega
 have hsk':s≤k:=be hsk
 have sub:∀j o,s≤j→j<k→opsL.toArray[j]?=some o→((opsL.take k).drop s)[j-s]?=some o:=fun j o hj hjk ho=>by
   rw[gn,show s+(j-s)=j by omega,di hjk];simpa using ho
 have hbd:∀i ph,lk base i=some ph→∀(j:Nat)(o:Oper),s≤j→j<k→opsL.toArray[j]?=some o→o.dst≠some i:=fun i ph hi j o hj hjk ho=>F4 hfree hi (ai (sub j o hj hjk ho))
 intro fuel listed a hf hu ha
 refine Hy (k:=k) (fun i=>phs.getD (i-s) (.eq undef)) Up (fun _ _ _=>True) (f0:=fun t=>a.tmps.getD t undef) Up.refl (fun _ _ _=>Up.trans) (fun i v w w' h u=>(hph.at (i-s)) v w w' h u) hA hC hF hks hsk hD hl hbd ?_ trivial ?_ fuel listed a hf hu ha (fun _=>rfl)
 · intro i o hs hi hio L f W hU _ _ _ _ a ha _
   have h3:=(hop W hU).at (sub i o hs hi hio)
   rw[show s+(i-s)=i by omega]at h3
   have h4:=h3 a ha
   have done:∀v W',Up W W'∧(phs.getD (i-s) (.eq undef)).holds v W'→Up W W'∧(∀d,o.dst=some d→(phs.getD (i-s) (.eq undef)).holds v W')∧True:=fun v W' h=>⟨h.1,fun _ _=>h.2,trivial⟩
   by_cases hw:Region.wanted o (yielded opsL.toArray a.tmps)=true
   · rw[bg hw]at h4⊢
     rcases h4 with⟨v,W',hr,hp⟩|⟨fn,args,w1,hr,hc⟩
     · exact .inl (.inl ⟨v,W',hr,done v W' hp⟩)
     exact .inl (.inr ⟨fn,args,w1,hr,hc.mono done⟩)
   rw[aq hw]at h4⊢
   exact done _ _ h4
 intro f W hUp _ fuel' listed' a' hf' hu' ha' hsl'
 have key:∀i o d,s≤i→i<k→opsL[i]?=some o→o.dst=some d→(phs.getD (i-s) (.eq undef)).holds (f d) W:=by
   intro i o d hsi hik ho hd
   have ho':opsL.toArray[i]?=some o:=by simpa using ho
   have hmem:(d,phs.getD (i-s) (.eq undef))∈Ha opsL.toArray (fun i=>phs.getD (i-s) (.eq undef)) s k:=by
     unfold Ha
     rw[ft]
     exact⟨i,ck.2 hik,by rw[bg (gz hsi),ho'];simp[hd]⟩
   obtain⟨q',hq⟩:=Hq hmem
   obtain⟨j,p,hsj,hjk,hp,hpd,e⟩:=E4 hq
   have:j=i:=by
     by_cases ee:j=i
     · exact ee
     exact absurd hpd ((C5 hD hsi hik ho' hd).2 j p hsj hjk ee hp)
   subst this
   have:=ha'.val d q' (Kj hq)
   rw[hsl',e]at this
   exact this
 refine Es hTl hA (opsL.toArray.size-k) k fuel' listed' a' W rfl (by simp;omega) (bi _) hf' hu' ?_
 refine hend W f hUp key a' ⟨ha'.defers,ha'.size,fun t q ht=>?_⟩
 rcases Dg ht with h|h
 · obtain⟨d,_,he⟩:=br.1 (Ki h)
   cases he
   exact hsl' _
 refine ha'.val t q ?_
 rw[Fv]
 · exact h
 cases hq:lk (Ha opsL.toArray (fun i=>phs.getD (i-s) (.eq undef)) s k) t with
 |none=>rfl
 |some q'=>
   obtain⟨j,p,hsj,hjk,hp,hpd,_⟩:=E4 hq
   exact absurd hpd (hbd t q h j p hsj hjk hp)
end
end Go.Wx
namespace Go.Proofs.YthcabjphnacjeaaGreatDoor
open Go.Proofs.Tryz
open Go.Wx Go.RowKit
theorem rQ(av:Option Addr)(cv:Nat)(L:List Sk)(i j:Nat)(s:Sk)(w:World)(hF:FlG w av none L [])(hs:L[j]?=some s)(hM:MkS L.length L):Ret prog 12 #[.agg (Cx av L.length cv none 0 0),vi 1,vi (j:Int),vi ((20*i:Nat):Int)] w fun r w'=>r=.agg (GAct.cells (Pu L i j))∧Up w w':=by
 obtain⟨h1,h2,_⟩:=iM hM hs
 have h:=vL av cv L 1 ((20*i:Nat):Int) j s (Th L j) w hF hs h2
 unfold Pu
 rw[h1]
 exact h
theorem rR(av:Option Addr)(cv:Nat)(L:List Sk)(i j:Nat)(s:Sk)(w:World)(hF:FlG w av none L [])(hs:L[j]?=some s)(hM:MkS L.length L)(hi:i≤1000):Ret prog 13 #[.agg (Cx av L.length cv none 0 0),vi ((i+1:Nat):Int),vi 1,vi (j:Int),vi ((20*i:Nat):Int)] w fun r w'=>r=.agg (Fact.cells (mH L i j s.mn))∧Up w w':=by
 obtain⟨h1,h2,_⟩:=iM hM hs
 have hm:=(hM j s hs).mn
 have h:=aZ av cv L ((i+1:Nat):Int) 1 ((20*i:Nat):Int) j s (Th L j) w hF hs h2 oQ oQ
 unfold mH
 rw[h1]
 exact h
set_option maxHeartbeats 1000000 in
theorem eY(ad:Option Addr)(cp:Nat)(xs:List I6)(hxs:∀y∈xs,bG y)(hcp:xs.length≤cp)(ac:Option Addr)(cc:Nat)(cs:List Int)(hcs:∀y∈cs,iS y)(_:cs.length≤maxLen)(w:World)(hE:Els w ad 6 I6.cells xs)(hEc:Els w ac 1 A4 cs)(hG:GM w):Ret prog 3 #[.slice ad xs.length cp,.slice ac cs.length cc] w fun r w'=>r=.bool true∧Up w w':=by
 obtain⟨w0,rfl,hS⟩:=W0 w
 refine cT 145 func3 rfl ?_
 refine Ae (Az (An (Aa ?_)))
 refine A3 (eC .nil (JR)) rfl (lW _) ?_
 rintro _ w1 ⟨rfl,uw1⟩
 have zw1:=uw1.size
 replace hS:=hS.up uw1
 refine LW.A rfl (An (Aa (I rfl (I rfl ?_))))
 refine U (.Cl n8 (.t rfl)) ?_
 refine U (.Dr (v':=vi ((min xs.length 4:Nat):Int)) (Xu (.t rfl) (.const _)) (bh vi oQ)) ?_
 refine U (.Dr (v':=.slice ad (xs.take 4).length cp) (PEv.L4 (j:=min xs.length 4) n8 sizeOf109 (.t rfl) (.t rfl) oQ) (by rw[ca,Nat.min_comm])) ?_
 refine A3 (eC (.o rfl) (JS)) rfl (vK ad cp (xs.take 4) (fun y hy=>hxs y (iw hy)) _ (rL (Els.up hE hS.Ch))) ?_
 rintro _ w2 ⟨av,cv,L,v0,rfl,hlr,hMk,hNs⟩
 have zN:=hNs.size
 replace hS:=hS.join hNs
 change Wx.Sep _ _ _ [_,_]at hS
 have hbsm:=V2 hMk hlr.2
 obtain⟨bd,ebd⟩:∃m,m=(1+Ka (aP L) L.length)*L.length:=⟨_,rfl⟩
 rw[←ebd]at hbsm
 refine I rfl (U (.xt rfl rfl) (U (.xt rfl rfl) ?_))
 refine Ap (.Cb mj) rfl ?_
 rintro _ w3 ⟨B7,rfl,MB7⟩
 refine LW.A rfl ?_
 refine Ce (.Cc m4 rfl (.t rfl) (.t rfl) (Hu _ _ _ _ _ _) MB7.blk rfl) ?_
 intro w4 LB7
 have NB7:=MB7.set LB7
 clear LB7 MB7
 have eB7:=NB7.at_
 have zB7:=NB7.size
 replace hS:=hS.Cf NB7
 change Wx.Sep _ _ _ [_,_,_]at hS
 refine An (Aa (Az (An (Ae (Az (Ah (Ai ?_)))))))
 refine A7 (σ:=Nat) (fun s w=>(s≤L.length)∧(Wx.Sep no w0 w [lL av L,Aw 47 19 Fact.cells (v0) (Gk (bs (Fj L))),A5 B7 (Cx av L.length cv none 0 0) 29])) (fun s=>[(9,.eq (vi (s:Int))),(8,.eq (vi ((1+Ka (aP L) s:Nat):Int)))]) ([(1,.eq _),(4,.eq _),(5,.eq _),(6,.eq _),(7,.eq _)]) (fun s=>L.length-s) 0 ?_ tQ ?_
 ·exact⟨a_ _,hS⟩
 rintro k w5 ⟨hk,hS⟩
 refine Ak (Ae (I rfl ?_))
 refine U (.fB 2 rfl) ?_
 refine U (.lb rfl (hS.b2.Ad rfl)) ?_
 refine U (.Cl k_ (.t rfl)) ?_
 refine U (.l2 rfl rfl) ?_
 refine Ah ?_
 refine CW.b rfl (fun h31=>?_) (fun h31=>?_)
 ·replace h31:=dQ h31
  refine Aj (Ab (Ak (Ai ?_)))
  have hkl:k<L.length:=co.1 h31
  obtain⟨s,hs⟩:=Af (xs:=L) (i:=k) hkl
  have hFg:FlG w5 av none L []:=hS.get 0 rfl
  obtain⟨Bs,os,as_,hcs⟩:=hFg.E k s hs
  have hlm:=iO hMk hs
  have hsm:=eS hMk k oQ
  refine Aa (I rfl ?_)
  refine U (.fB 2 rfl) ?_
  refine U (.lb rfl (hS.b2.Ad rfl)) ?_
  refine I rfl ?_
  refine U (.Ao k_ lr (j:=k) (.t rfl) (.t rfl) oQ as_) ?_
  refine U (.fB 6 rfl) ?_
  refine U (.lb rfl (hcs.nth (j:=6) rfl)) ?_
  refine U (.Dr (v':=vi ((1+Ka (aP L) (k+1):Nat):Int)) (PEv.add (.t rfl) (.t rfl) oQ oQ) (bh vi (by show _=((1+(Ka (aP L) k+aP L k):Nat):Int);omega))) ?_
  refine LW.A rfl (LW.nil (Al (Ab (Aa (I rfl ?_)))))
  refine U (.ic rfl oQ) ?_
  refine LW.A rfl (LW.nil (Av ?_))
  exact⟨k+1,⟨by omega,hS⟩,tQ,by first|omega|(dsimp only;omega)⟩
 replace h31:=dQ h31
 have hkl:k=L.length:=by have:¬k<L.length:=fun h=>h31 (co.2 h);omega
 subst hkl
 refine A9 (Ac (Ac (Aq (Ab (Ak ?_)))))
 have hbw:IntKind.i64.wrap (((1+Ka (aP L) L.length:Nat):Int)*(L.length:Int))=(bd:Int):=by rw[←Int.natCast_mul,←ebd];exact Dk oQ oQ
 refine Aa (I rfl ?_)
 refine U (.fB 2 rfl) ?_
 refine U (.lb rfl (hS.b2.Ad rfl)) ?_
 refine U (.Cl k_ (.t rfl)) ?_
 refine U (.Dr (v':=vi (bd:Int)) (G3 (.t rfl) (.t rfl)) (bh vi hbw)) ?_
 refine LW.A rfl (An (Ae (Az (Ah (Ai ?_)))))
 refine A7 (σ:=List Nat×Go.Value) (fun s w=>(Wlk L s.1)∧(Wx.Sep no w0 w [lL av L,Aw 47 19 Fact.cells (s.2) (Gk (bs (Fj L))++Di L s.1),A5 B7 (Cx av L.length cv none 0 0) 29])) (fun s=>[(10,.eq (vi (s.1.length:Int))),(6,.eq (s.2))]) ([(1,.eq _),(5,.eq _),(7,.eq _),(8,.eq _)]) (fun s=>bd+1-s.1.length) ([],v0) ?_ tQ ?_
 ·exact⟨Wlk.nil,(by show Wx.Sep _ _ _ [_,Aw _ _ _ _ (_++[]),_];rw[dq];exact hS)⟩
 rintro⟨ss,v⟩ w6 ⟨hw,hS⟩
 dsimp only at hw hS
 change Wx.Sep _ _ _ [_,_,_]at hS
 change CW _ _ _ _ _ _ _ ([(10,.eq (vi (ss.length:Int))),(6,.eq (v))]++_) _
 refine Ak (Ae (I rfl (I rfl ?_)))
 refine U (.leq (.t rfl) (.t rfl)) ?_
 refine Ah ?_
 refine CW.b rfl (fun h49=>?_) (fun h49=>?_)
 ·replace h49:=dQ h49
  have hbd49:ss.length≤bd:=by omega
  refine Aj (Ab (Ak (Ai (Ak ?_))))
  obtain⟨adv,cpv,rfl,_⟩:=(hS.own 1 rfl).sl (fun _=>rfl)
  have hX:=AF hMk hlr hw
  have hXl:=hX.len
  refine Aa (I rfl ?_)
  refine A3 (eC (.ct rfl (.cons (.const _) .nil)) (JT)) rfl (yX adv cpv (Gk (bs (Fj L))++Di L ss) 0 _ (Cg (hS.own 1 rfl) (fun _=>rfl)) (by rw[am,Ov,D5];omega)) ?_
  rintro _ w7 ⟨bcx,rfl,hC53,hb53,uw7⟩
  have zw7:=uw7.size
  replace hS:=hS.add uw7 (A':=qR bcx (Sr (Gk (bs (Fj L))++Di L ss) 0)) (hC53) (lM hb53)
  change Wx.Sep _ _ _ [_,_,_,_]at hS
  have hsz53:bcx.size=11:=BaseC.size hC53
  have hon53:=BaseC.one hC53
  clear hC53
  refine Ap (.Cb zeroValue35) rfl ?_
  rintro _ w8 ⟨B11,rfl,MB11⟩
  refine Ce (.Cc lz hsz53 (.t rfl) (.t rfl) hon53 MB11.blk rfl) ?_
  intro w9 LB11
  have NB11:=MB11.set LB11
  clear LB11 MB11
  have eB11:=NB11.at_
  have zB11:=NB11.size
  replace hS:=hS.Cf NB11
  change Wx.Sep _ _ _ [_,_,_,_,_]at hS
  refine An (Aa ?_)
  refine U (.F7 mg lz (hsz53) (.t rfl) (hS.b4.agg)) ?_
  refine I rfl ?_
  refine U (.Dr (v':=vi ((20*ss.length:Nat):Int)) (G3 (.const _) (.t rfl)) (bh vi (by rw[Dk oQ (by omega)];omega))) ?_
  refine A3 (eC (.ct rfl (.cons (.const _) (.cu rfl))) (JU)) rfl (rN bcx (Sr (Gk (bs (Fj L))++Di L ss) 0) (Pu L ss.length 0) L (Di L ss) _ (hS.get 3 rfl) (hX.wh 0 oQ) (hG.up hS.Ch) hX.hist hX.tm hX.sw hX.pr) ?_
  rintro v57 w10 ⟨hSl57,hn57,uw10⟩
  have zw10:=uw10.size
  replace hS:=hS.up uw10
  obtain⟨nx,enx⟩:∃n,n=Nq L (Di L ss):=⟨_,rfl⟩
  rw[←enx]at hSl57 hn57
  obtain⟨adn,cpn,rfl,hEn_⟩:=hSl57
  have hEn:Els w10 adn 1 A4 nx:=hEn_
  clear hEn_
  refine LW.A rfl (An (Ae (I rfl ?_)))
  refine U (.Cl ky (.t rfl)) ?_
  refine U (.eql (.t rfl) (.const _)) ?_
  refine Ah ?_
  refine CW.b rfl (fun h60=>?_) (fun h60=>?_)
  ·replace h60:=dQ h60
   have hnx0:nx=[]:=dv oQ
   have hpos:=hX.pos (enx▸hnx0)
   refine Ae ?_
   refine U (.F7 mg lz (hsz53) (.t rfl) (hS.b4.agg)) ?_
   refine A3 (eC (.ct rfl (.cons (.const _) (.cons (.const _) .nil))) (JV)) rfl (rO bcx (Sr (Gk (bs (Fj L))++Di L ss) 0) 1 1000000 (Di L ss) _ (hS.get 3 rfl) (by rw[D5];omega) hX.hist hX.tmx hX.sw hX.pr) ?_
   rintro _ w11 ⟨v1,v2,rfl,hd1,hd2,uw11⟩
   have zw11:=uw11.size
   replace hS:=hS.up uw11
   obtain⟨ad1,cp1,rfl,_⟩:=hd1
   refine I rfl (U (.xt rfl rfl) (U (.xt rfl rfl) (LW.A rfl (LW.A rfl (An (Aa (I rfl (I rfl ?_))))))))
   refine Ar ?_
   refine I rfl ?_
   refine Ar ?_
   refine U (.tr (PEv.gtr (.t rfl) (.const _)) (bj oQ)) ?_
   refine U (.pa rfl (fun hp=>wQ)) ?_
   refine I rfl ?_
   refine Ar ?_
   refine I rfl ?_
   refine Ar ?_
   refine U (.Cl ky (.t rfl)) ?_
   refine Ar ?_
   refine I rfl ?_
   refine Ar ?_
   refine U (.tr (PEv.eql (.t rfl) (.t rfl)) (bj (by rw[ef,D5]))) ?_
   refine U (.pa rfl (fun hp=>wQ)) ?_
   refine I rfl ?_
   refine Ar ?_
   refine U (.F7 mg lz (hsz53) (.t rfl) (hS.b4.agg)) ?_
   refine Ar ?_
   refine A3 (eC (.o rfl) (JW)) rfl (mI bcx (Sr (Gk (bs (Fj L))++Di L ss) 0) L _ (hS.get 3 rfl) hX.aud.1 (hG.up hS.Ch) hX.sw hX.pr hX.id) ?_
   rintro v79 w12 ⟨hSl79,uw12⟩
   have zw12:=uw12.size
   replace hS:=hS.up uw12
   rw[hX.aud.2]at hSl79
   obtain⟨ad79,cp79,rfl,_⟩:=hSl79
   refine Ar ?_
   refine U (.Cl ky (.t rfl)) ?_
   refine Ar ?_
   refine U (.tr (PEv.eql (.t rfl) (.const _)) (rfl)) ?_
   refine U (.pa rfl (fun hp=>wQ)) ?_
   refine LW.A rfl (Ah (Am (Au (A6 (Au (Au (A6 (Au ?_))))))))
   refine KW.q ?_
   exact⟨rfl,hS.Ch⟩
  replace h60:=dQ h60
  have hnx1:1≤nx.length:=by omega
  refine Aj (Ab (Ae (I rfl ?_)))
  refine U (.Cl ky (.t rfl)) ?_
  refine U (.Dr (v':=vi ((nx.length-1:Nat):Int)) (PEv.sub (.t rfl) (.const _) oQ oQ) (bh vi oQ)) ?_
  refine LW.A rfl (Ah ?_)
  refine Ep (fun a1 W=>∃k:Nat,Ag 145 [] ([(1,.eq (.slice ac cs.length cc)),(5,.eq (.bool true)),(6,.eq (.slice adv (Gk (bs (Fj L))++Di L ss).length cpv)),(7,.eq (.pointer (some ⟨B7,0,none⟩))),(8,.eq (vi (bd:Int))),(10,.eq (vi (ss.length:Int))),(11,.eq (.pointer (some ⟨B11,0,none⟩))),(12,.eq (.slice adn nx.length cpn)),(15,.eq (vi (k:Int)))]) a1 W∧k<nx.length∧Wx.Sep no w0 W [lL av L,Aw 47 19 Fact.cells (.slice adv (Gk (bs (Fj L))++Di L ss).length cpv) (Gk (bs (Fj L))++Di L ss),A5 B7 (Cx av L.length cv none 0 0) 29,qR bcx (Sr (Gk (bs (Fj L))++Di L ss) 0),A5 B11 bcx 35]∧Els W adn 1 A4 nx) ?_ ?_
  ·skip
   refine Ae (I rfl ?_)
   refine U (.Cl ky (.t rfl)) ?_
   refine U (.gtr (.t rfl) (.const _)) ?_
   refine Ah ?_
   refine CW.b rfl (fun h88=>?_) (fun h88=>?_)
   ·replace h88:=dQ h88
    have hcl1:1≤cs.length:=by omega
    obtain⟨c,hc⟩:=Af (xs:=cs) (i:=ss.length%cs.length) (j2 _ oQ)
    obtain⟨Bc,oc,ac_,hcc⟩:=(Els.up hEc hS.Ch) _ c hc
    have hci:=hcs c (ai hc)
    refine Aa (I rfl (I rfl (I rfl ?_)))
    refine U (.Cl ky (.t rfl)) ?_
    refine U (.Dr (v':=vi ((ss.length%cs.length:Nat):Int)) (PEv.rem (.t rfl) (.t rfl) oQ) (bh vi (Int.ofNat_tmod _ _).symm)) ?_
    refine U (.Ao ky k6 (j:=ss.length%cs.length) (.t rfl) (.t rfl) (j2 _ oQ) ac_) ?_
    refine U (.lb rfl (hcc.nth (j:=0) rfl)) ?_
    refine I rfl ?_
    refine U (.Cl ky (.t rfl)) ?_
    refine A3 (eC (.u rfl rfl) (GK)) rfl (lX c (nx.length:Int) _ oQ) ?_
    rintro _ w13 ⟨rfl,uw13⟩
    have zw13:=uw13.size
    replace hS:=hS.up uw13
    replace hEn:=hEn.up uw13
    have hpk:=Fq (c:=c) (n:=(nx.length:Int)) hci oQ
    obtain⟨kk,ekk⟩:∃k:Nat,(k:Int)=Ck c nx.length:=⟨_,Int.toNat_of_nonneg hpk.1⟩
    rw[←ekk]at hpk⊢
    refine LW.A rfl (LW.nil ?_)
    exact fun a ha=>⟨_,ha.sub tQ,(by first|exact⟨by omega,hS,hEn⟩|exact⟨(by omega:nx.length-1<nx.length),hS,hEn⟩)⟩
   replace h88:=dQ h88
   refine Aj ?_
   exact fun a ha=>⟨_,ha.sub tQ,(by first|exact⟨by omega,hS,hEn⟩|exact⟨(by omega:nx.length-1<nx.length),hS,hEn⟩)⟩
  rintro a1 w14 ⟨k,ha,hk,hS,hEn⟩
  revert a1
  show CW none _ _ _ _ _ _ _ _
  refine Ak (Ak ?_)
  obtain⟨y,hy⟩:=Af (xs:=nx) (i:=k) hk
  have hyr:=qX (hMk.rT hlr) hw (enx▸ai hy)
  obtain⟨c,rfl⟩:∃c:Nat,y=(c:Int):=⟨y.toNat,by omega⟩
  have hcL:c<L.length:=by omega
  have hcm:(c:Int)∈Nq L (Di L ss):=enx▸ai hy
  obtain⟨s,hs⟩:=Af (xs:=L) (i:=c) hcL
  refine Em kQ rfl ?_
  obtain⟨w15,hdr⟩:∃W,W=w14.drew:=⟨_,rfl⟩
  have uw15:Up w14 w15:=by rw[hdr];exact Up.drew _
  rw[←hdr]
  clear hdr
  have zw15:=uw15.size
  replace hS:=hS.up uw15
  replace hEn:=hEn.up uw15
  obtain⟨Bn,on_,an,hcn⟩:=hEn k (c:Int) hy
  refine AWU.free 0 28 [.eq (.slice adn nx.length cpn),.eq (vi (k:Int)),.eq (.pointer (some ⟨Bn,on_+k*1,none⟩)),.eq (vi (c:Int)),.eq (.bool false),.eq (.bool false),.eq (.slice adn nx.length cpn),.eq (vi (k:Int)),.eq (.pointer (some ⟨Bn,on_+k*1,none⟩)),.eq (vi (c:Int)),.eq (.pointer (some ⟨B7,2,none⟩)),.eq (.slice av L.length cv),.eq (vi (L.length:Int)),.eq (.bool false),.eq (.bool false),.eq (.bool false),.eq (.agg bcx),.eq (.agg (Cx av L.length cv none 0 0)),.eq (.slice adn nx.length cpn),.eq (vi (k:Int)),.eq (.pointer (some ⟨Bn,on_+k*1,none⟩)),.eq (vi (c:Int)),.eq (vi (ss.length:Int)),.eq (vi ((20*ss.length:Nat):Int)),.eq (.agg (GAct.cells (Pu L ss.length c))),.eq (vi 0),.eq (.bool false),.eq (.bool false)] [126] rfl kQ kQ kQ kQ kQ kQ kQ kQ uQ ?_ ?_
  ·intro W hU
   have hSW:=hS.up hU
   have hFW:FlG W av none L []:=hSW.get 0 rfl
   refine aC (TOp.p (PEv.mv rfl) rfl ⟨Up.refl _,rfl⟩) ?_
   refine aC (TOp.p (PEv.mv rfl) rfl ⟨Up.refl _,rfl⟩) ?_
   refine aC (TOp.p (PEv.Ao ky k6 (j:=k) (.t rfl) (.t rfl) oQ an) rfl ⟨Up.refl _,rfl⟩) ?_
   refine aC (TOp.p (PEv.lb rfl (AggAt.nth (j:=0) (AggAt.up hcn hU) rfl)) rfl ⟨Up.refl _,rfl⟩) ?_
   refine aC (TOp.p (PEv.Dr (v':=.bool false) (PEv.lss (.t rfl) (.const _)) (bh Value.bool (bx oQ))) rfl ⟨Up.refl _,rfl⟩) ?_
   refine aC (TOp.p (PEv.mv rfl) rfl ⟨Up.refl _,rfl⟩) ?_
   refine aC (TOp.py rfl rfl rfl rfl rfl (PEv.mv rfl) ⟨Up.refl _,rfl⟩) ?_
   refine aC (TOp.py rfl rfl rfl rfl rfl (PEv.mv rfl) ⟨Up.refl _,rfl⟩) ?_
   refine aC (TOp.py rfl rfl rfl rfl rfl (PEv.Ao ky k6 (j:=k) (.t rfl) (.t rfl) oQ an) ⟨Up.refl _,rfl⟩) ?_
   refine aC (TOp.py rfl rfl rfl rfl rfl (PEv.lb rfl (AggAt.nth (j:=0) (AggAt.up hcn hU) rfl)) ⟨Up.refl _,rfl⟩) ?_
   refine aC (TOp.py rfl rfl rfl rfl rfl (PEv.fB 2 rfl) ⟨Up.refl _,rfl⟩) ?_
   refine aC (TOp.py rfl rfl rfl rfl rfl (PEv.lb rfl (hSW.b2.Ad rfl)) ⟨Up.refl _,rfl⟩) ?_
   refine aC (TOp.py rfl rfl rfl rfl rfl (PEv.Cl k_ (.t rfl)) ⟨Up.refl _,rfl⟩) ?_
   refine aC (TOp.py rfl rfl rfl rfl rfl (PEv.fa (PEv.geq (.t rfl) (.t rfl)) (bx oQ)) ⟨Up.refl _,rfl⟩) ?_
   refine aC (TOp.p (PEv.po rfl (fun hp=>wQ)) rfl ⟨Up.refl _,rfl⟩) ?_
   refine aC (TOp.p (PEv.mv rfl) rfl ⟨Up.refl _,rfl⟩) ?_
   refine aC (TOp.py rfl rfl rfl rfl rfl (PEv.F7 mg lz hsz53 (.t rfl) hSW.b4.agg) ⟨Up.refl _,rfl⟩) ?_
   refine aC (TOp.py rfl rfl rfl rfl rfl (PEv.lc rfl hSW.b2.agg) ⟨Up.refl _,rfl⟩) ?_
   refine aC (TOp.py rfl rfl rfl rfl rfl (PEv.mv rfl) ⟨Up.refl _,rfl⟩) ?_
   refine aC (TOp.py rfl rfl rfl rfl rfl (PEv.mv rfl) ⟨Up.refl _,rfl⟩) ?_
   refine aC (TOp.py rfl rfl rfl rfl rfl (PEv.Ao ky k6 (j:=k) (.t rfl) (.t rfl) oQ an) ⟨Up.refl _,rfl⟩) ?_
   refine aC (TOp.py rfl rfl rfl rfl rfl (PEv.lb rfl (AggAt.nth (j:=0) (AggAt.up hcn hU) rfl)) ⟨Up.refl _,rfl⟩) ?_
   refine aC (TOp.py rfl rfl rfl rfl rfl (PEv.mv rfl) ⟨Up.refl _,rfl⟩) ?_
   refine aC (TOp.py rfl rfl rfl rfl rfl (PEv.Dr (v':=vi ((20*ss.length:Nat):Int)) (G3 (.const _) (.t rfl)) (bh vi (by rw[Dk oQ (by omega)];omega))) ⟨Up.refl _,rfl⟩) ?_
   refine aC (nE rfl rfl rfl rfl rfl (eC (.ct rfl (.cons (.const _) (.ct rfl (.cu rfl)))) GN) (rQ av cv L ss.length c s W hFW hs hMk) sQ) ?_
   refine aC (nE rfl rfl rfl rfl rfl (eC (.u rfl rfl) GL) (rM bcx (Sr (Gk (bs (Fj L))++Di L ss) 0) (Pu L ss.length c) L (Di L ss) W (hSW.get 3 rfl) (hX.wh c hcL) (hG.up hSW.Ch) hX.hist hX.tm hX.sw hX.pr) (by rintro _ W1 ⟨rfl,u⟩;exact⟨u,by rw[hX.why c hcL hcm];rfl⟩)) ?_
   refine aC (TOp.py rfl rfl rfl rfl rfl (PEv.fa (PEv.neq (.t rfl) (.const _)) (rfl)) ⟨Up.refl _,rfl⟩) ?_
   refine aC (TOp.p (PEv.po rfl (fun hp=>wQ)) rfl ⟨Up.refl _,rfl⟩) ?_
   exact allL.nil
  intro w16 g hU hg
  have zw16:=hU.size
  replace hS:=hS.up hU
  replace hEn:=hEn.up hU
  have e126:g 126=.bool false:=hg 27 _ 126 cQ cQ rfl rfl
  change LW _ _ _ _ _ _ _ _ ((126,.eq (g 126))::_) _
  rw[e126]
  clear e126 hg
  refine Ah ?_
  refine CW.b rfl (fun h126=>?_) (fun h126=>?_)
  ·replace h126:=dQ h126
   exact absurd h126 cQ
  replace h126:=dQ h126
  refine Aj (Ab (Ak ?_))
  obtain⟨Bn,on_,an,hcn⟩:=hEn k (c:Int) hy
  refine Qv 12 10 11 9 16 136 (Fact.cells Jj) [.eq (.agg (Cx av L.length cv none 0 0)),.eq (vi (ss.length:Int)),.eq (vi ((ss.length+1:Nat):Int)),.eq (.slice adn nx.length cpn),.eq (vi (k:Int)),.eq (.pointer (some ⟨Bn,on_+k*1,none⟩)),.eq (vi (c:Int)),.eq (vi (ss.length:Int)),.eq (vi ((20*ss.length:Nat):Int)),.eq (.agg (Fact.cells (mH L ss.length c s.mn))),.pred fun v _=>∃B,v=.pointer (some ⟨B,0,none⟩),.eq (undef)] [] lg k7 kQ rfl kQ kQ kQ kQ kQ kQ kQ rfl rfl ⟨_,_,_,rfl⟩ _ rfl ⟨_,_,_,rfl⟩ ⟨n_,n_,n_,n_,n_,n_,n_,n_,n_,n_,PhT.pred fun _ _ _ h _=>h,n_,trivial⟩ rfl (fun v W h=>⟨_,h,rfl,Fact.one _⟩) (fun B W=>⟨B,rfl⟩) ?_ ?_
  ·intro W hU0
   have hU:=(Up.drew w16).trans hU0
   have hSW:=hS.up hU
   have hFW:FlG W av none L []:=hSW.get 0 rfl
   refine aC (.inr ⟨rfl,TU.p (.lc rfl hSW.b2.agg) rfl⟩) ?_
   refine aC (.inr ⟨rfl,TU.p (.mv rfl) rfl⟩) ?_
   refine aC (.inr ⟨rfl,TU.p (.Dr (v':=vi ((ss.length+1:Nat):Int)) (PEv.add (.const _) (.t rfl) oQ oQ) (bh vi oQ)) rfl⟩) ?_
   refine aC (.inr ⟨rfl,TU.p (.mv rfl) rfl⟩) ?_
   refine aC (.inr ⟨rfl,TU.p (.mv rfl) rfl⟩) ?_
   refine aC (.inr ⟨rfl,TU.p (.Ao ky k6 (j:=k) (.t rfl) (.t rfl) oQ an) rfl⟩) ?_
   refine aC (.inr ⟨rfl,TU.p (.lb rfl (AggAt.nth (j:=0) (AggAt.up hcn hU) rfl)) rfl⟩) ?_
   refine aC (.inr ⟨rfl,TU.p (.mv rfl) rfl⟩) ?_
   refine aC (.inr ⟨rfl,TU.p (.Dr (v':=vi ((20*ss.length:Nat):Int)) (G3 (.const _) (.t rfl)) (bh vi (by rw[Dk oQ (by omega)];omega))) rfl⟩) ?_
   refine aC (.inr ⟨rfl,TU.c (eC (.ct rfl (.ct rfl (.cons (.const _) (.ct rfl (.cu rfl))))) (GO)) (rR av cv L ss.length c s W hFW hs hMk oQ) sQ⟩) ?_
   refine aC (.inl (.inl rfl)) ?_
   refine aC (.inl (.inr rfl)) ?_
   exact allL.nil
  intro w17 B16 g hU0 zB16_ hB16 hg
  have hU:=(Up.drew w16).trans hU0
  have zw17:=hU.size
  have zdr:w16.drew.heap.size=w16.heap.size:=rfl
  have g136_:g 136=.agg (Fact.cells (mH L ss.length c s.mn)):=hg 9 _ 136 cQ rfl rfl
  rw[g136_]at hB16
  replace hB16:Blk w17 B16 (Fact.cells (mH L ss.length c s.mn)) 47:=hB16
  change LW _ _ _ _ _ _ _ _ ((16,_)::_) _
  clear hg
  replace hEn:=hEn.up hU
  replace hS:=(hS.up (Up.drew _)).add hU0 (A':=A5 B16 (Fact.cells (mH L ss.length c s.mn)) 47) hB16 (fun i(e:i=B16)=>by omega)
  change Wx.Sep _ _ _ [_,_,_,_,_,_]at hS
  clear hB16
  refine An (Aa ?_)
  refine U (.fB 5 rfl) ?_
  refine U (.Dr (v':=vi ((20*ss.length:Nat):Int)) (PEv.lb rfl (hS.b5.Ad rfl)) rfl) ?_
  refine U (.Dr (v':=vi ((20*ss.length+5:Nat):Int)) (PEv.add (.t rfl) (.const _) oQ oQ) (bh vi oQ)) ?_
  refine U (.fB 6 rfl) ?_
  refine Ce (.store k6 (.t rfl) (.t rfl) rfl hS.b5 bQ) ?_
  intro w18 Nw18
  have zw18:=Nw18.size
  replace hS:=hS.Ec 5 rfl (show Set_ _ w18 _ (Fact.cells (Jv L ss.length c)) _ from Nw18)
  change Wx.Sep _ _ _ [_,_,_,_,_,_]at hS
  refine Ah (Aa (I rfl ?_))
  refine U (.lc rfl (hS.b5.agg)) ?_
  refine Ap (.buildSlice (xs:=[Jv L ss.length c]) (enc:=Fact.cells) (mk:=fun f=>.agg f.cells) kz k7 lg rfl cQ (fun _=>rfl) (fun _=>rfl) (.cu rfl) rfl) rfl ?_
  rintro _ w19 ⟨B143,cB143,rfl,NB143,yB143,xB143⟩
  have eB143:=NB143.at_
  have zB143:=NB143.size
  replace hS:=hS.up NB143.up
  have hE143:=xB143
  refine Ap (.Df (enc:=Fact.cells) (bytes:=160) (i:=Tryz.t47) kz kQ rfl rfl rfl rfl cQ (fun _=>rfl) Fact.one (.t rfl) (.t rfl) (hS.own 1 rfl) (Ay hE143) (by have:=Ov (bs (Fj L));have:=D5 L ss;simp[maxLen];omega) (by have:=Ov (bs (Fj L));have:=D5 L ss;simp;omega)) rfl ?_
  intro v144 w20 Gw20
  have zw20:=Gw20.fr.size
  replace hS:=hS.Ft 1 rfl Gw20
  change Wx.Sep _ _ _ [_,_,_,_,_,_]at hS
  refine LW.A rfl (LW.nil (Al (Ab (Aa (I rfl ?_)))))
  refine U (.Dr (v':=vi ((ss++[c]).length:Int)) (PEv.add (.t rfl) (.const _) oQ oQ) (bh vi (by rw[am,dp];omega))) ?_
  refine LW.A rfl (LW.nil (Av ?_))
  exact⟨(ss++[c],v144),⟨Wlk.snoc ss c hw hcL hcm,by show Wx.Sep _ _ _ [_,Aw _ _ _ _ (_++Di L (ss++[c])),_];rw[Vw,←c_];exact hS.take 3⟩,tQ,by show bd+1-(ss++[c]).length<bd+1-ss.length;rw[am,dp];omega⟩
 replace h49:=dQ h49
 exfalso
 have h1:=iK (hMk.rT hlr) hw
 rw[←ebd]at h1
 omega
end Go.Proofs.YthcabjphnacjeaaGreatDoor
