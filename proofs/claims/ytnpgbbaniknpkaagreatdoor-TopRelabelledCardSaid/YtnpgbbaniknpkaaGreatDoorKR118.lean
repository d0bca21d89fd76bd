import Derived.Test.YtnpgbbaniknpkaaGreatDoorKR117
import Derived.ArgAppend
namespace Go.Wx
def aPart(e:TypeId)(B:Nat)(v:Value)(xs:List Value):Asr:=
 ⟨(· =B),fun w=>∃o cp cs,v=.slice (some ⟨B,o,none⟩) xs.length cp∧xs.length≤cp∧o+cp≤cs.size∧Blk w B cs e∧∀(i:Nat)(u:Value),xs[i]?=some u→cs[o+i]?=some u,
  fun _ _⟨o,cp,cs,h1,h2,h3,h4,h5⟩k _=>⟨o,cp,cs,h1,h2,h3,(k B rfl h4.lt).trans h4,h5⟩,fun _⟨_,_,_,_,_,_,h,_⟩_ e=>by subst e;exact h.lt⟩
theorem aPart.of{α:Type}{enc:α→Array Value}{w:World}{B m cp e:Nat}{xs:List α}(val:α→Value)(hv:∀x,enc x=#[val x])(h:OwnS w 0 e 1 enc (.slice (some ⟨B,0,none⟩) m cp) xs):(aPart e B (.slice (some ⟨B,0,none⟩) m cp) (xs.map val)).holds w:=by
 have hf:(xs.flatMap fun x=>(enc x).toList)=xs.map val:=by
   clear h
   induction xs with
   |nil=>rfl
   |cons x l ih=>rw[cw,ih,hv];rfl
 obtain⟨hl,⟨e1,_⟩|⟨g,cap,cur,e1,_,hg,hcap,_,hcs,htk⟩⟩:=h
 · cases e1
 cases e1
 rw[hf]at htk
 refine⟨0,cp,cur,by rw[dv],by rw[dv];exact hcap,by omega,hg,fun i u hu=>?_⟩
 rw[←htk,fp]at hu
 split at hu
 · rw[dp];simpa using hu
 cases hu
theorem aPart.at_{w:World}{B e:Nat}{v:Value}{xs:List Value}{i:Nat}{u:Value}(h:(aPart e B v xs).holds w)(hu:xs[i]?=some u):∃o cp,v=.slice (some ⟨B,o,none⟩) xs.length cp∧AggAt w B (o+i*1) #[u]:=by
 obtain⟨o,cp,cs,h1,_,_,h4,h5⟩:=h
 refine⟨o,cp,h1,fun j x hj=>?_⟩
 match j,hj with
 |0,hj=>
   cases(show u=x by simpa using hj)
   rw[fz,fo]
   exact h4.cell (h5 i u hu)
 |j+1,hj=>simp at hj
theorem fM{w:World}{B e:Nat}{ad:Option Addr}{m cp:Nat}{x:Value}{xs:List Value}(h:(aPart e B (.slice ad m cp) (x::xs)).holds w):(aPart e B (.slice (if cp=1 then ad else ad.map (·.add (1*1))) (m-1) (cp-1)) xs).holds w:=by
 obtain⟨o,cp',cs,h1,h2,h3,h4,h5⟩:=h
 cases h1
 rw[bg]at h2⊢
 by_cases hc:cp=1
 · subst hc
   rw[bh rfl]
   have:xs=[]:=dl oQ
   subst this
   exact⟨o,0,cs,rfl,bl _,by omega,h4,fun i u hu=>by simp at hu⟩
 rw[aq hc]
 exact⟨o+1,cp-1,cs,by simp[Addr.add],by omega,by omega,h4,fun i u hu=>by rw[show o+1+i=o+(i+1)by omega];exact h5 (i+1) u (by simpa using hu)⟩
section
variable {P:Program}{n:Nat}{ds:List Deferred}{l:Env}{w:World}{d:Option Tmp}{ty:TypeId}{ps:String}{af:Array Edge}{g:Option (Nat×Bool)}
theorem REv.vZ{e T B:TypeId}{i:TypeInfo}{z:Value}{s x:Operand}{v u:Value}{ad:Option Addr}{c:Nat}{xs:List Value}(hT:P.underlying T=some (.slice e))(hi:P.info? e=some i)(hz:i.zero=some z)
   (hsize:i.size=1)(hby:i.bytes≤100)(hzs:z.cells.size=1)(h1:u.oneCell'=true)(hs:Val l s v)(hx:Val l x (.slice ad 1 c))(ho:(aPart e B v xs).holds w)(hE:∃Bu ou,ad=some ⟨Bu,ou,none⟩∧AggAt w Bu ou #[u])(hl:xs.length≤1000):
   REv P n ds l w ⟨d,.call { callee:=.builtin .append,args:=#[s,x],argTypes:=#[T,T] },ty,ps,af,g⟩ (fun v' w'=>∃B',Stp (aPart e B v xs) (aPart e B' v' (xs++[u])) w w'):=fun a ha=>by
 obtain⟨Bu,ou,rfl,hu⟩:=hE
 obtain⟨o,cp,cs,rfl,h2,h3,h4,h5⟩:=ho
 have hn:∀(j:Nat)(y:Value),[u][j]?=some y→w.cell? ((⟨Bu,ou,none⟩:Addr).add j)=some y:=fun j y hj=>by
   match j,hj with
   |0,hj=>
     cases(show u=y by simpa using hj)
     rw[E3]
     have:=hu 0 u rfl
     simpa using this
 have run:∀{v':Value}{w':World},(Builtin.append_ #[T,T] ty #[.slice (some ⟨B,o,none⟩) xs.length cp,.slice (some ⟨Bu,ou,none⟩) 1 c]).run P w=.ok v' w'→(execOp a.eval ⟨d,.call { callee:=.builtin .append,args:=#[s,x],argTypes:=#[T,T] },ty,ps,af,g⟩).run P w=.ok (.value v') w':=fun hr=>by
   simp only[execOp,resolve,invoke,builtin,Sem.run_bind,Sem.run_pure,Result.andThen_ok,f6,c8,fq,ha.ev hs,ha.ev hx,hr]
 by_cases hroom:xs.length+1≤cp
 · have hlt:o+xs.length<cs.size:=by omega
   have hcl:∀j,j<[u].length→(w.cell? ⟨B,o+xs.length*i.size+j,none⟩).isSome=true:=fun j hj=>by
     have:j=0:=by simpa using hj
     subst this
     rw[hsize,fz,fo,h4.cell (ce hlt)]
     rfl
   have hr:=run_append_room_cells (P:=P) w T ty e i hT hi B o xs.length cp ⟨Bu,ou,none⟩ 1 c [u] (by rw[hsize];rfl) hn (fun y hy=>by rw[bn.1 hy];exact h1) hroom hcl (fun j _=>frozen_of_row w B _ cs e h4)
   rw[hsize,fz]at hr
   have e2:w.setCells B (o+xs.length) [u]=w.setRow B (cs.setIfInBounds (o+xs.length) u):=setCell_eq_setRow w B (o+xs.length) cs e (0,0) u h4
   rw[e2]at hr
   have S:=Set_.setRow (cs:=cs.setIfInBounds (o+xs.length) u) h4
   refine⟨_,_,run hr,B,S.sto.fr,⟨o,cp,_,by rw[ak];rfl,by rw[ak];exact hroom,by rw[jn];exact h3,S.blk,fun j y hj=>?_⟩,fun _ h=>.inl h⟩
   rw[g6]
   by_cases e3:o+xs.length=o+j
   · rw[bh e3,bh hlt]
     have:j=xs.length:=by omega
     subst this
     simpa using hj
   rw[aq e3]
   refine h5 j y ?_
   have hj2:=(am.1 hj).1
   rw[ak,dy]at hj2
   rwa [c7 (by omega)]at hj
 have hcp:cp=xs.length:=by omega
 subst hcp
 obtain⟨v',w',hr,hown,hgr⟩:=run_append_arg_grows (P:=P) w T ty e i z 1 i.bytes hT hi hz hsize rfl hzs cQ ⟨B,o,none⟩ xs.length xs.length xs oQ (fun j y hj=>by rw[E3];exact h4.cell (h5 j y hj)) ⟨Bu,ou,none⟩ 1 c [u] rfl hn oQ (by unfold maxLen;omega) (by have:=Nat.mul_le_mul (show xs.length+1≤1001 by omega) hby;omega)
 obtain⟨hl2,⟨_,h0⟩|⟨g',cap,cur,rfl,hb,hg,hcap,_,hcs,htk⟩⟩:=hown
 · omega
 refine⟨_,_,run hr,g',⟨hgr.os,hgr.tape,hgr.output,hgr.size,fun j hj _=>hgr.block j hj (by simp)⟩,⟨0,cap,cur,by rw[ak];rfl,by rw[ak];exact hcap,by omega,hg,fun j y hj=>?_⟩,fun j hj=>.inr (by rw[show j=g' from hj];exact hb)⟩
 rw[←htk,fp]at hj
 split at hj
 · rw[dp];simpa using hj
 cases hj
end
def IL.val(s:IL):Value:=.slice s.ad s.l.length s.cp
def jB(e:TypeId)(s:IL):Asr:=Aw e 1 A3 s.val s.l
structure IL.Ok(f n:Nat)(s:IL):Prop where
 j:∃j:Nat,s.l[s.l.length-1]?=some (j:Int)∧f≤j∧j<n
 p:1≤s.l.length
structure QuO(f n:Nat)(Q:List IL)(D:List Bool):Prop where
 s:∀s∈Q,s.Ok f n∧s.l.length+Vw D≤n+1
 l:Q.length+Vw D≤n+1
 d:D.length=n
theorem QuO.start{f n:Nat}(hf:f<n)(ad:Option Addr)(cp:Nat):QuO f n [⟨ad,[(f:Int)],cp⟩] (List.replicate n false):=by
 have hu:Vw (List.replicate n false)=n:=by unfold Vw;simp
 refine⟨fun s hs=>?_,by rw[hu,dy];omega,gh⟩
 rw[bn.1 hs]
 exact⟨⟨⟨f,rfl,bl _,hf⟩,bl _⟩,by rw[hu];show 1+n≤n+1;omega⟩
theorem QuO.add{f n x:Nat}{Q:List IL}{D:List Bool}{s:IL}(h:QuO f n Q D)(hs:s.l.length+Vw D≤n+1)(hx:x<n)(hD:It D x=false)(hf:f≤x)(ad:Option Addr)(cp:Nat):QuO f n (Q++[⟨ad,s.l++[(x:Int)],cp⟩]) (D.set x true):=by
 have hu:=Mw (by rw[h.d];exact hx) hD
 refine⟨fun t ht=>?_,by have:=h.l;rw[ak,dy];omega,by rw[d9];exact h.d⟩
 rcases bt.1 ht with ht|ht
 · have:=h.s t ht
   exact⟨this.1,by omega⟩
 rw[bn.1 ht]
 refine⟨⟨⟨x,?_,hf,hx⟩,by simp⟩,?_⟩
 · show(s.l++[(x:Int)])[(s.l++[(x:Int)]).length-1]?=_
   simp
 show(s.l++[(x:Int)]).length+_≤_
 rw[ak,dy]
 omega
def wA(Q:List IL)(D:List Bool):Nat:=Q.length+2*Vw D
theorem wB{Q:List IL}{D:List Bool}{x m:Nat}{s:IL}(hx:x<D.length)(hD:It D x=false)(h:wA Q D<m):wA (Q++[s]) (D.set x true)<m:=by
 have hu:=Mw hx hD
 unfold wA at h⊢
 rw[ak,dy]
 omega
def wC(i:Nat):List Int:=if i<2 then[(i:Int)+1]else[]
def Lm(e:TypeId)(s:Sk):List Asr:=[Aw e 1 A3 s.tv s.tl,Aw e 1 A3 s.nv s.nx]
structure StQ(L:List Sk)(k:Nat):Prop where
 len:L.length=k
 at_:∀i s,L[i]?=some s→s.Good∧s.nx=wC i
theorem StQ.nil:StQ [] 0:=⟨rfl,fun i s h=>by simp at h⟩
theorem StQ.snoc{L:List Sk}{k:Nat}{s:Sk}(h:StQ L k)(hg:s.Good)(hn:s.nx=wC k):StQ (L++[s]) (k+1):=by
 refine⟨by rw[ak,h.len];rfl,fun i x hx=>?_⟩
 by_cases hi:i<L.length
 · rw[c7 hi]at hx
   exact h.at_ i x hx
 rw[db (by omega)]at hx
 have h0:i-L.length=0:=by
   have:=(am.1 hx).1
   simp at this
   omega
 rw[h0]at hx
 cases hx
 have:i=k:=by have:=h.len;omega
 subst this
 exact⟨hg,hn⟩
theorem StQ.three{L:List Sk}(h:StQ L 3):∃s0 s1 s2,L=[s0,s1,s2]:=by
 obtain⟨h,_⟩:=h
 match L,h with
 |[s0,s1,s2],_=>exact⟨s0,s1,s2,rfl⟩
theorem jC{k:Nat}(hk:k<3)(ta:Option Addr)(tc:Nat)(nx:List Int)(na:Option Addr)(nc:Nat)(hn:nx=wC k):(⟨1,[(k:Int)],ta,tc,10,20,nx,na,nc,-1,0⟩:Sk).Good:=by
 subst hn
 refine⟨rfl,rfl,rfl,rfl,rfl,⟨rfl,?_⟩,?_⟩
 · intro x hx
   rw[bn.1 hx]
   unfold kR
   rw[bj (show(0:Int)≤(k:Int)by omega),bj (show(k:Int)≤59 by omega)]
   rfl
 show(wC k).length≤1∧∀x∈wC k,kR x 0 2=true
 match k,hk with
 |0,_=>exact⟨bl _,fun x hx=>by rw[bn.1 hx];rfl⟩
 |1,_=>exact⟨bl _,fun x hx=>by rw[bn.1 hx];rfl⟩
 |2,_=>exact⟨a8 _,fun x hx=>by cases hx⟩
theorem jD{e:TypeId}{L:List Sk}{w:World}(h:(Dw (L.flatMap (Lm e))).holds w){s:Sk}(hs:s∈L):Els w s.ta 1 A3 s.tl∧Els w s.na 1 A3 s.nx:=
 ⟨Cf (show OwnS w 0 e 1 A3 (.slice s.ta s.tl.length s.tc) s.tl from h.1 _ (io.2 ⟨s,hs,b7⟩)) (fun _=>rfl),
   Cf (show OwnS w 0 e 1 A3 (.slice s.na s.nx.length s.nc) s.nx from h.1 _ (io.2 ⟨s,hs,b_ _ b7⟩)) (fun _=>rfl)⟩
theorem R1{e:TypeId}{L:List Sk}{S0:Nat→Prop}{w0 w:World}{Bs:List Asr}{s:Sk}(h:Wx.Sep S0 w0 w (Bs++[Dw (L.flatMap (Lm e)),Aw e 1 A3 s.tv s.tl,Aw e 1 A3 s.nv s.nx])):Wx.Sep S0 w0 w (Bs++[Dw ((L++[s]).flatMap (Lm e))]):=by
 have h1:=Sep.unfold (Bs:=Bs) (As:=L.flatMap (Lm e)) (rest:=[_,_]) h
 have h2:=Lz (Bs:=Bs) (As:=L.flatMap (Lm e)++[Aw e 1 A3 s.tv s.tl,Aw e 1 A3 s.nv s.nx]) (rest:=[]) (by simpa only[c6,dk]using h1)
 rw[iq]
 simpa[Lm]using h2
theorem FlE.of{w:World}{sa wa:Option Addr}{sc e:Nat}{s0 s1 s2:Sk}(hQ:StQ [s0,s1,s2] 3)(h1:OwnS w 0 sc 7 Sk.cells (.slice sa 3 e) [s0,s1,s2]){T c:Nat}(h2:OwnS w 0 T 3 Wn.cells (.slice wa 1 c) [nY]){ti:TypeId}(h3:(Dw ([s0,s1,s2].flatMap (Lm ti))).holds w):FlE w sa wa s0 s1 s2:=
 ⟨Cf h1 (fun _=>rfl),fun s hs=>by
   obtain⟨i,hi⟩:=et.1 hs
   exact(hQ.at_ i s hi).1,(hQ.at_ 0 s0 rfl).2,(hQ.at_ 1 s1 rfl).2,(hQ.at_ 2 s2 rfl).2,fun s hs=>jD h3 hs,Cf h2 (fun _=>rfl)⟩
section
variable {P:Program}{n:Nat}{l:Env}{w:World}{fn:Func}{RR:Ending→World→Prop}
theorem aW{t u:Tmp}{T:TypeId}{B k:Nat}{cs:Array Value}{x:Value}(hr:fn.results=#[.cell t T,.tmp u])(hv:lk l t=some (.eq (.pointer (some ⟨B,0,none⟩))))(hu:lk l u=some (.eq x))(hT:∀w,(isAgg T).run P w=.ok true w)(hs:∀w,(sizeOf T).run P w=.ok k w)(hk:cs.size=k)(hc:AggAt w B 0 cs)
   (hR:RR (.returned (.tuple #[.agg cs,x])) w):KW n [] (bodyPost P fn RR .ret) l w:=fun a ha=>
 ⟨ha.defers,.tuple #[.agg cs,x],by
   have h1:a.tmps.getD t undef=.pointer (some ⟨B,0,none⟩):=ha.val _ _ hv
   have h2:a.tmps.getD u undef=x:=ha.val _ _ hu
   rw[bm]at h1 h2
   simp[results,hr,h1,h2,asAddr,F2 hT hs hk hc],hR⟩
end
def J5(k:Int)(v:Value):Array Value:=#[vi k,v]
theorem wD{xs ys:List Int}{k:Nat}{x y:Int}(h:xs.take k=ys.take k)(hx:xs[k]?=some x)(hy:ys[k]?=some y)(e:x=y):xs.take (k+1)=ys.take (k+1):=by
 rw[f8,f8,h,hx,hy,e]
theorem HI{xs ys:List Int}{k:Nat}{x y:Int}(hx:xs[k]?=some x)(hy:ys[k]?=some y)(e:¬x=y):¬xs=ys:=fun h=>e (by subst h;exact dc (hx.symm.trans hy))
end Go.Wx
namespace Go.Proofs.YtnpgbbaniknpkaaGreatDoor
open Go.Proofs.Tryz
open Go.Wx Go.RowKit
theorem mG(s:Sk)(w:World):Ret prog 221 #[.agg s.cells] w fun r w'=>r=.bool (decide (s.nx.length=0))∧Up w w':=by
 obtain⟨w0,rfl,hS⟩:=W0 w
 refine cT 7 func221 rfl ?_
 refine Af ?_
 refine Ap (.bA rfl) rfl ?_
 rintro _ w1 ⟨B1,rfl,NB1⟩
 have eB1:=NB1.at_
 have zB1:=NB1.size
 replace hS:=hS.Cg NB1
 change Wx.Sep _ _ _ [_]at hS
 refine Az (An (Aa ?_))
 refine U (.fB 4 rfl) ?_
 refine U (.lb rfl (hS.b0.Ad rfl)) ?_
 refine U (.Ck k_ (.t rfl)) ?_
 refine U (.eql (.t rfl) (.const _)) ?_
 refine LW.A rfl (Ah (Am ?_))
 refine KW.q ?_
 exact⟨by simp,hS.Ch⟩
theorem mH(x:Int)(b B:Nat)(sa wa:Option Addr)(sc m wc:Nat)(L:List Sk)(w:World)(hB:Blk w B (Cx sa L.length sc wa m wc) 29)(hR:FlR b w sa L)(hx:0≤x∧x<L.length):Ret prog 220 #[vi x,.pointer (some ⟨B,0,none⟩)] w fun r w'=>r=.bool (!Nb L x)∧Up w w':=by
 have hW:=Up.refl w
 refine cT 11 func220 rfl ?_
 refine Af (Az (An ?_))
 obtain⟨s,hs⟩:=Ae (xs:=L) (i:=x.toNat) oQ
 obtain⟨Bs,os,as_,hcs⟩:=hR.E _ s hs
 refine Aa ?_
 refine U (.fB 2 rfl) ?_
 refine U (.lb rfl (hB.Ad rfl)) ?_
 refine U (.Dt (v':=vi (x.toNat:Int)) (PEv.mv rfl) (bi vi oQ)) ?_
 refine U (.Ao lr l4 (j:=x.toNat) (.t rfl) (.t rfl) oQ as_) ?_
 refine U (.lc rfl (hcs)) ?_
 refine A4 (eC (.o rfl) (FL)) rfl (mG s _) ?_
 rintro _ w1 ⟨rfl,uw1⟩
 have zw1:=uw1.size
 replace hW:=hW.up uw1
 refine U (.n1 rfl) ?_
 refine LW.A rfl (Ah (Am ?_))
 refine KW.q ?_
 exact⟨by unfold Nb;rw[hs],hW⟩
theorem rP(sa wa:Option Addr)(sc wc:Nat)(L:List Sk)(Ws:List Wn)(w:World)(hF:FlG w sa wa L Ws)(hFw:Fwd L):Ret prog 161 #[.agg (Cx sa L.length sc wa Ws.length wc)] w fun r w'=>∃E,Vis (Zh L) (List.replicate L.length false) E 0∧OwnS w' w.heap.size 3 1 A3 r ((Gk E L.length).filter (Nb L))∧Up w w':=by
 obtain⟨w0,rfl,hS⟩:=W0 w
 have hlen:=hF.len
 refine cT 7 func161 rfl ?_
 refine Af ?_
 refine Ap (.bA rfl) rfl ?_
 rintro _ w1 ⟨B1,rfl,NB1⟩
 have eB1:=NB1.at_
 have zB1:=NB1.size
 replace hS:=hS.Cg NB1
 change Wx.Sep _ _ _ [_]at hS
 refine Az (An (Aa ?_))
 refine U (.lc rfl (hS.b0.agg)) ?_
 refine A4 (eC (.ct rfl (.cons (.const _) .nil)) (xO)) rfl (Vy sa wa sc wc L Ws _ (hF.up hS.Ch) hFw 0 oQ) ?_
 rintro v4 w2 ⟨E,hV,hO4,uw2⟩
 have zw2:=uw2.size
 replace hS:=hS.add uw2 (A':=Aw 3 1 A3 v4 (Gk E L.length)) (hO4.mono (a8 _)) (fun i h=>hO4.base i h)
 change Wx.Sep _ _ _ [_,_]at hS
 clear hO4
 obtain⟨ad4,cp4,rfl,_⟩:=(hS.own 1 rfl).sl (fun _=>rfl)
 have hBk:=hS.blk 0 rfl
 have hBn:=hS.ne (i:=0) (j:=1) cQ rfl rfl
 have hup:=hS.Ch
 have hft:=fun i h=>(hS.foot 1 rfl i h).resolve_left (fun h=>h)
 have hil:=L7 E L.length
 refine U (.makeFunc (.cu rfl)) ?_
 refine A4 (eC (.u rfl rfl) (FJ)) rfl (aU 220 #[.pointer (some ⟨B1,0,none⟩)] (fun x=> !Nb L x) FK ad4 cp4 (Gk E L.length) _ (hS.own 1 rfl) oQ (fun W f x hx=>by obtain⟨i,rfl,hi,_⟩:=L8.1 hx;exact mH _ w0.heap.size B1 sa wa sc Ws.length wc L W (hBk.fr f (hBn B1 rfl)) ((hF.R.fr (hup.fr no) (fun i h=>h.elim)).fr f hft) oQ)) ?_
 rintro v6 w3 uw3
 have zw3:=uw3.fr.size
 replace hS:=hS.Fs 1 rfl uw3
 change Wx.Sep _ _ _ [_,_]at hS
 simp only[Bool.not_not]at hS
 refine LW.A rfl (Ah (Am ?_))
 refine KW.q ?_
 exact⟨E,hV,(hS.own 1 rfl).F5 (fun i h=>(hS.foot 1 rfl i h).resolve_left (fun h=>h)),hS.Ch⟩
theorem mI(sa wa:Option Addr)(sc wc:Nat)(L:List Sk)(Ws:List Wn)(w:World)(hF:FlG w sa wa L Ws)(hFw:Fwd L)(gl first:Nat)(E:List Bool)(hEn:E.length=L.length)(hEl:Els w (some ⟨gl,0,none⟩) 1 Ls E)(hf:first<L.length):Ret prog 163 #[.agg (Cx sa L.length sc wa Ws.length wc),.slice (some ⟨gl,0,none⟩) L.length L.length,vi (first:Int)] w fun r w'=>r=.slice none 0 0∧Up w w':=by
 obtain⟨w0,rfl,hS⟩:=W0 w
 have hlen:=hF.len
 refine cT 75 func163 rfl ?_
 refine Af ?_
 refine Ap (.bA rfl) rfl ?_
 rintro _ w1 ⟨B3,rfl,NB3⟩
 have eB3:=NB3.at_
 have zB3:=NB3.size
 replace hS:=hS.Cg NB3
 change Wx.Sep _ _ _ [_]at hS
 refine Az (An (Aa (I rfl ?_)))
 refine Ap (.buildSlice (xs:=([(first:Int)]:List Int)) (enc:=A3) (mk:=vi) k_ lg lq rfl cQ (fun _=>rfl) (fun _=>rfl) (.cu rfl) rfl) rfl ?_
 intro v13 w2 hN13
 obtain⟨uw2,B13,rfl,e13,hO13⟩:=NewSl.own hN13 (fun _=>rfl) cQ (by simp[maxLen])
 have zw2:=uw2.size
 replace hS:=hS.add uw2 (A':=Aw 3 1 A3 (.slice (some ⟨B13,0,none⟩) 1 1) ([(first:Int)]:List Int)) hO13 (fun i h=>by cases h;exact fm e13.symm)
 change Wx.Sep _ _ _ [_,_]at hS
 refine Ap (.buildSlice (xs:=([⟨some ⟨B13,0,none⟩,[(first:Int)],1⟩]:List IL)) (enc:=IL.cells) (mk:=IL.val) mp m4 zeroValue23 rfl cQ (fun _=>rfl) (fun _=>rfl) (.cu rfl) rfl) rfl ?_
 intro v14 w3 hN14
 obtain⟨uw3,B14,rfl,e14,hO14⟩:=NewSl.own hN14 (fun _=>rfl) cQ (by simp[maxLen])
 have zw3:=uw3.size
 replace hS:=hS.add uw3 (A':=Aw 23 1 IL.cells (.slice (some ⟨B14,0,none⟩) 1 1) ([⟨some ⟨B13,0,none⟩,[(first:Int)],1⟩]:List IL)) hO14 (fun i h=>by cases h;exact fm e14.symm)
 change Wx.Sep _ _ _ [_,_,_]at hS
 refine LW.A rfl (An (Aa ?_))
 refine U (.fB 2 rfl) ?_
 refine U (.lb rfl (hS.b0.Ad rfl)) ?_
 refine U (.Ck lr (.t rfl)) ?_
 refine Ap (.pK (m:=L.length) (enc:=Ls) (x0:=false) (i:=Tryz.t4) rfl rfl l8 kQ rfl rfl cQ (.t rfl) (.t rfl) (by have:=hF.len;omega)) rfl ?_
 rintro _ w4 ⟨uM,go,zM,rfl,hOM⟩
 have zw4:=uM.size
 replace hS:=hS.add uM (A':=Aw 4 1 Ls (.slice (some ⟨go,0,none⟩) L.length L.length) (List.replicate L.length false)) hOM (fun i h=>by cases h;exact zM)
 clear hOM
 change Wx.Sep _ _ _ [_,_,_,_]at hS
 replace hS:=hS.Fs (A':=aPart 23 B14 (.slice (some ⟨B14,0,none⟩) 1 1) (([⟨some ⟨B13,0,none⟩,[(first:Int)],1⟩]:List IL).map IL.val)) 2 rfl ⟨Fr.refl _ _,aPart.of IL.val (fun _=>rfl) (hS.own 2 rfl),fun i h=>.inl (by rw[show i=B14 from h];rfl)⟩
 change Wx.Sep _ _ _ [_,_,_,_]at hS
 replace hS:=(((hS.Ep 1 rfl).Ep 1 rfl).Ep 2 rfl)
 change Wx.Sep _ _ _ [_,_,_,_]at hS
 replace hS:=Lz (Bs:=[_,_,_]) (As:=([⟨some ⟨B13,0,none⟩,[(first:Int)],1⟩]:List IL).map (jB 3)) (rest:=[]) hS
 refine LW.A rfl (An (Ak ?_))
 refine A6 (σ:=List IL×Nat×Go.Value×List Bool) (fun s w=>(QuO first L.length s.1 s.2.2.2)∧(Wx.Sep no w0 w [A5 B3 (Cx sa L.length sc wa Ws.length wc) 29,Aw 4 1 Ls (.slice (some ⟨go,0,none⟩) L.length L.length) (s.2.2.2),aPart 23 (s.2.1) (s.2.2.1) ((s.1).map IL.val),Dw ((s.1).map (jB 3))])) (fun s=>[(7,.eq (s.2.2.1))]) ([(1,.eq _),(2,.eq _),(3,.eq _),(8,.eq _)]) (fun s=>wA s.1 s.2.2.2) ([⟨some ⟨B13,0,none⟩,[(first:Int)],1⟩],B14,.slice (some ⟨B14,0,none⟩) 1 1,List.replicate L.length false) ?_ tQ ?_
 ·exact⟨QuO.start hf _ _,hS⟩
 rintro⟨Q,Bq,v,D⟩ w5 ⟨hQ,hS⟩
 dsimp only at hQ hS
 change Wx.Sep _ _ _ [_,_,_,_]at hS
 change CW _ _ _ _ _ _ _ ([(7,.eq (v))]++_) _
 refine Ai (Ai ?_)
 obtain⟨oq,cq,_,ev,hcq,_⟩:=hS.get 2 rfl
 rw[dv]at ev hcq
 subst ev
 refine Aa (I rfl ?_)
 refine U (.Ck mp (.t rfl)) ?_
 refine U (.gtr (.t rfl) (.const _)) ?_
 refine Ah ?_
 refine CW.b rfl (fun h21=>?_) (fun h21=>?_)
 ·replace h21:=dQ h21
  refine Aj (Ac (Ak (Ai ?_)))
  obtain⟨hd,Q,rfl⟩:∃s Q1,Q=s::Q1:=by cases Q with|nil=>(exfalso;simp at h21)|cons s Q1=>exact⟨s,Q1,rfl⟩
  obtain⟨_,_,e0,hcq0⟩:=aPart.at_ (i:=0) (hS.get 2 rfl) rfl
  cases(Value.slice.inj e0).1
  obtain⟨⟨⟨j,hj,hj1,hj2⟩,hp1⟩,hh⟩:=hQ.s hd b7
  refine Aa (I rfl ?_)
  refine U (.Ao mp m4 (j:=0) (.t rfl) (.const _) (by simp) rfl) ?_
  refine U (.lb rfl (hcq0.nth (j:=0) rfl)) ?_
  refine LW.A rfl (An (Aa (I rfl ?_)))
  refine U (.sliceFrom mp m4 (j:=1) (.t rfl) (.const _) (by simp)) ?_
  replace hS:=hS.Fs (A':=aPart 23 Bq (.slice (if cq=1 then some (⟨Bq,oq,none⟩:Addr)else(some (⟨Bq,oq,none⟩:Addr)).map (·.add (1*1))) (Q.length+1-1) (cq-1)) (Q.map IL.val)) 2 rfl ⟨Fr.refl _ _,fM (hS.get 2 rfl),fun i h=>.inl h⟩
  replace hS:=Sep.unfold (Bs:=[_,_,_]) (As:=jB 3 hd::Q.map (jB 3)) (rest:=[]) hS
  replace hS:=Lz (Bs:=[_,_,_,_]) (As:=Q.map (jB 3)) (rest:=[]) (by simpa only[c6,dk,e_,du]using hS)
  change Wx.Sep _ _ _ [_,_,_,_,_]at hS
  refine LW.A rfl (An ?_)
  obtain⟨Bj,oj,aj,hcj⟩:=(Cf (show OwnS _ 0 3 1 A3 (.slice hd.ad hd.l.length hd.cp) hd.l from hS.own 3 rfl) (fun _=>rfl)) _ _ hj
  obtain⟨sk,hsk⟩:=Ae (xs:=L) (i:=j) hj2
  have hsm:=ai hsk
  have hnl:=hFw.l sk hsm
  obtain⟨Bs,os,as_,hcs⟩:=(hF.up hS.Ch).E _ sk hsk
  refine C5 kQ kQ rfl rfl ?_
  refine J (.fB 2 rfl) ?_
  refine J (.lb rfl (hS.b0.Ad rfl)) ?_
  refine J (.mv rfl) ?_
  refine J (.mv rfl) ?_
  refine J (.Ck k_ (.t rfl)) ?_
  refine J (.Dt (v':=vi ((hd.l.length-1:Nat):Int)) (PEv.sub (.t rfl) (.const _) oQ oQ) (bi vi oQ)) ?_
  refine J (.Ao k_ lg (j:=hd.l.length-1) (.t rfl) (.t rfl) oQ aj) ?_
  refine J (.lb rfl (hcj.nth (j:=0) rfl)) ?_
  refine J (.Ao lr l4 (j:=j) (.t rfl) (.t rfl) oQ as_) ?_
  refine J (.fB 4 rfl) ?_
  refine J (.lb rfl (hcs.nth (j:=4) rfl)) ?_
  refine J (.Ck k_ (.t rfl)) ?_
  refine J (.move (.const _)) ?_
  refine HW.nil ?_
  intro w6 uw6
  have zw6:=uw6.size
  replace hS:=hS.up uw6
  refine Ac (Ak ?_)
  refine A6 (σ:=Nat×List IL×Nat×Go.Value×List Bool) (fun s w=>(s.1≤sk.nx.length)∧(QuO first L.length s.2.1 s.2.2.2.2)∧(wA s.2.1 s.2.2.2.2<wA (hd::Q) D)∧(hd.l.length+Vw s.2.2.2.2≤L.length+1)∧(Wx.Sep no w0 w [A5 B3 (Cx sa L.length sc wa Ws.length wc) 29,Aw 4 1 Ls (.slice (some ⟨go,0,none⟩) L.length L.length) (s.2.2.2.2),aPart 23 (s.2.2.1) (s.2.2.2.1) ((s.2.1).map IL.val),jB 3 hd,Dw ((s.2.1).map (jB 3))])) (fun s=>[(39,.eq (vi (s.1:Int))),(7,.eq (s.2.2.2.1))]) ([(1,.eq _),(2,.eq _),(3,.eq _),(8,.eq _),(9,.eq _),(37,.eq _),(38,.eq _)]) (fun s=>sk.nx.length-s.1) (0,Q,Bq,.slice (if cq=1 then some (⟨Bq,oq,none⟩:Addr)else(some (⟨Bq,oq,none⟩:Addr)).map (·.add (1*1))) (Q.length+1-1) (cq-1),D) ?_ tQ ?_
  ·exact⟨a8 _,(show QuO first L.length Q D from⟨fun s hs=>hQ.s s (b_ _ hs),by have:=hQ.l;rw[bg]at this;omega,hQ.d⟩),(show wA Q D<wA (hd::Q) D by unfold wA;rw[bg];omega),hh,hS⟩
  rintro⟨k,Q2,B2,v2,D2⟩ w7 ⟨hk,hQ,hm,hh,hS⟩
  dsimp only at hk hQ hm hh hS
  change Wx.Sep _ _ _ [_,_,_,_,_]at hS
  change CW _ _ _ _ _ _ _ ([(39,.eq (vi (k:Int))),(7,.eq (v2))]++_) _
  refine Af ?_
  refine U (.l2 rfl rfl) ?_
  refine An ?_
  refine CW.b rfl (fun h40=>?_) (fun h40=>?_)
  ·replace h40:=dQ h40
   refine Aj (Ac (Ai (Ak (Ai ?_))))
   have hkx:k<sk.nx.length:=cm.1 h40
   refine Aa ?_
   obtain⟨x,hx⟩:=Ae (xs:=sk.nx) (i:=k) oQ
   obtain⟨Bx,ox,ax,hcx⟩:=((hF.up hS.Ch).p sk hsm).2 _ x hx
   refine U (.Ao k_ lg (.t rfl) (.t rfl) oQ ax) ?_
   refine U (.lb rfl (hcx.nth (j:=0) rfl)) ?_
   refine LW.A rfl (An (Ai ?_))
   have hxr:=hFw.n j sk hsk x (ai hx)
   obtain⟨Bl,ol,al,hcl⟩:=(hEl.up hS.Ch) x.toNat _ (Lc oQ)
   cases al
   obtain⟨Bd,od,ad_,hcd⟩:=(Cf (hS.own 1 rfl) (fun _=>rfl)) x.toNat _ (Lc (by rw[hQ.d];omega))
   cases ad_
   refine Aa (I rfl (I rfl ?_))
   refine U (.fa (PEv.eql (.t rfl) (.t rfl)) (br oQ)) ?_
   refine Ah ?_
   refine CW.f rfl ?_
   refine Aj (Ac (Ai ?_))
   cases hq11:It E x.toNat with
   |true=>
    refine Aa (I rfl (I rfl ?_))
    refine U (.tr (PEv.gtr (.t rfl) (.t rfl)) (bj oQ)) ?_
    refine I rfl ?_
    refine Au ?_
    refine I rfl ?_
    refine Au ?_
    refine U (.Dt (v':=vi (x.toNat:Int)) (PEv.mv rfl) (bi vi oQ)) ?_
    refine Au ?_
    refine U (.Ao l8 mf (j:=x.toNat) (.t rfl) (.t rfl) oQ rfl) ?_
    refine Au ?_
    refine U (.tr (PEv.lb rfl (hcl.nth (j:=0) rfl)) (hq11)) ?_
    refine U (.pa rfl (fun hp=>wQ)) ?_
    refine I rfl ?_
    refine Au ?_
    refine I rfl ?_
    refine Au ?_
    refine U (.Dt (v':=vi (x.toNat:Int)) (PEv.mv rfl) (bi vi oQ)) ?_
    refine Au ?_
    refine U (.Ao l8 mf (j:=x.toNat) (.t rfl) (.t rfl) oQ rfl) ?_
    refine Au ?_
    refine U (.lb rfl (hcd.nth (j:=0) rfl)) ?_
    refine Au ?_
    refine U (.n1 rfl) ?_
    refine U (.pa rfl (fun hp=>wQ)) ?_
    refine Ah ?_
    refine CW.b rfl (fun h62=>?_) (fun h62=>?_)
    ·replace h62:=dQ h62
     refine Ai ?_
     have hDx:It D2 x.toNat=false:=by simpa using h62
     have hD0:D2[x.toNat]?=some false:=by rw[Lc (by rw[hQ.d];omega),hDx]
     refine Aa (I rfl ?_)
     refine U (.Dt (v':=vi (x.toNat:Int)) (PEv.mv rfl) (bi vi oQ)) ?_
     refine U (.Ao l8 mf (j:=x.toNat) (.t rfl) (.t rfl) oQ rfl) ?_
     refine Cd (.I9 (enc:=Ls) (k:=1) (z:=true) (i:=x.toNat) (j:=0) mf (fun _=>rfl) rfl (.t rfl) (.const _) (hS.own 1 rfl) hD0 cQ rfl) ?_
     intro w8 Gw8
     have zw8:=Gw8.fr.size
     replace hS:=hS.Fs 1 rfl Gw8
     change Wx.Sep _ _ _ [_,_,_,_,_]at hS
     refine Ah (Aa (I rfl (I rfl ?_)))
     refine A4 (eC (.o rfl) (oK)) rfl (Jk hd.ad hd.cp hd.l _ (Cf (show OwnS _ 0 3 1 A3 (.slice hd.ad hd.l.length hd.cp) hd.l from hS.own 3 rfl) (fun _=>rfl)) oQ) ?_
     rintro v68 w9 ⟨hO68,uw9⟩
     have zw9:=uw9.size
     replace hS:=hS.add uw9 (A':=Aw 3 1 A3 v68 hd.l) (hO68.mono (a8 _)) (fun i h=>hO68.base i h)
     change Wx.Sep _ _ _ [_,_,_,_,_,_]at hS
     clear hO68
     refine U (.Dt (v':=vi (x.toNat:Int)) (PEv.mv rfl) (bi vi oQ)) ?_
     refine Ap (.buildSlice (xs:=([(x.toNat:Int)]:List Int)) (enc:=A3) (mk:=vi) k_ lg lq rfl cQ (fun _=>rfl) (fun _=>rfl) (.cu rfl) rfl) rfl ?_
     rintro _ w10 ⟨B70,cB70,rfl,NB70,yB70,xB70⟩
     have eB70:=NB70.at_
     have zB70:=NB70.size
     replace hS:=hS.up NB70.up
     have hE70:=xB70
     refine Ap (.C3 (enc:=A3) (bytes:=8) (i:=Tryz.t3) k_ kQ rfl rfl rfl rfl cQ (fun _=>rfl) Et (.t rfl) (.t rfl) (hS.own 5 rfl) (Ay hE70) (by simp[maxLen];omega) (by simp;omega)) rfl ?_
     intro v71 w11 Gw11
     have zw11:=Gw11.fr.size
     replace hS:=hS.Fs 5 rfl Gw11
     change Wx.Sep _ _ _ [_,_,_,_,_,_]at hS
     obtain⟨ad71,cp71,rfl,_⟩:=(hS.own 5 rfl).sl (fun _=>rfl)
     refine Ap (.buildSlice (xs:=([⟨ad71,hd.l++[(x.toNat:Int)],cp71⟩]:List IL)) (enc:=IL.cells) (mk:=IL.val) mp m4 zeroValue23 rfl cQ (fun _=>rfl) (fun _=>rfl) (.cu rfl) rfl) rfl ?_
     rintro _ w12 ⟨B72,cB72,rfl,NB72,yB72,xB72⟩
     have eB72:=NB72.at_
     have zB72:=NB72.size
     replace hS:=hS.up NB72.up
     have hE72:=xB72
     refine Ap (.vZ (i:=Tryz.t23) mp kQ rfl rfl cQ rfl rfl (.t rfl) (.t rfl) (hS.get 2 rfl) (hE72 0 _ rfl) (by rw[dv];have:=hQ.l;omega)) rfl ?_
     rintro v73 w13 ⟨B73,Gw13⟩
     have zw13:=Gw13.fr.size
     replace hS:=hS.Fs 2 rfl Gw13
     change Wx.Sep _ _ _ [_,_,_,_,_,_]at hS
     change Wx.Sep _ _ _ [_,_,_,_,_,jB 3 (⟨ad71,hd.l++[(x.toNat:Int)],cp71⟩:IL)]at hS
     replace hS:=Sep.unfold (Bs:=[_,_,_,_]) (As:=Q2.map (jB 3)) (rest:=[_]) hS
     replace hS:=Lz (Bs:=[_,_,_,_]) (As:=Q2.map (jB 3)++[jB 3 (⟨ad71,hd.l++[(x.toNat:Int)],cp71⟩:IL)]) (rest:=[]) (by simpa only[c6,dk]using hS)
     rw[show Q2.map (jB 3)++[jB 3 (⟨ad71,hd.l++[(x.toNat:Int)],cp71⟩:IL)]=(Q2++[(⟨ad71,hd.l++[(x.toNat:Int)],cp71⟩:IL)]).map (jB 3)by rw[co];rfl]at hS
     have hm2:=wB (s:=(⟨ad71,hd.l++[(x.toNat:Int)],cp71⟩:IL)) (by rw[hQ.d];omega) hDx hm
     have hQ2:=hQ.add (x:=x.toNat) hh oQ hDx oQ ad71 cp71
     have hh2:hd.l.length+Vw (D2.set x.toNat true)≤L.length+1:=by have:=Mw (by rw[hQ.d];omega) hDx;omega
     change Wx.Sep _ _ _ [_,_,_,_,_]at hS
     refine LW.A rfl (LW.nil (Al (Ac (Aa ?_))))
     refine U (.ic rfl oQ) ?_
     refine I rfl (LW.nil (Av ?_))
     first|exact⟨(k+1,Q2++[⟨ad71,hd.l++[(x.toNat:Int)],cp71⟩],B73,v73,D2.set x.toNat true),⟨by show k+1≤_;omega,hQ2,hm2,hh2,by first|exact hS|(show Wx.Sep _ _ _ [_,_,aPart _ _ _ ((Q2++[_]).map IL.val),_,_];rw[co];exact hS)⟩,tQ,by show sk.nx.length-(k+1)<sk.nx.length-k;omega⟩|exact⟨(k+1,Q2,B2,v2,D2),⟨by show k+1≤_;omega,hQ,hm,hh,by first|exact hS|(show Wx.Sep _ _ _ [_,_,aPart _ _ _ ((Q2++[_]).map IL.val),_,_];rw[co];exact hS)⟩,tQ,by show sk.nx.length-(k+1)<sk.nx.length-k;omega⟩
    replace h62:=dQ h62
    refine Aj (Al (Ac (Aa ?_)))
    refine U (.ic rfl oQ) ?_
    refine I rfl (LW.nil (Av ?_))
    first|exact⟨(k+1,Q2++[⟨ad71,hd.l++[(x.toNat:Int)],cp71⟩],B73,v73,D2.set x.toNat true),⟨by show k+1≤_;omega,hQ2,hm2,hh2,by first|exact hS|(show Wx.Sep _ _ _ [_,_,aPart _ _ _ ((Q2++[_]).map IL.val),_,_];rw[co];exact hS)⟩,tQ,by show sk.nx.length-(k+1)<sk.nx.length-k;omega⟩|exact⟨(k+1,Q2,B2,v2,D2),⟨by show k+1≤_;omega,hQ,hm,hh,by first|exact hS|(show Wx.Sep _ _ _ [_,_,aPart _ _ _ ((Q2++[_]).map IL.val),_,_];rw[co];exact hS)⟩,tQ,by show sk.nx.length-(k+1)<sk.nx.length-k;omega⟩
   |false=>
    refine Aa (I rfl (I rfl ?_))
    refine U (.tr (PEv.gtr (.t rfl) (.t rfl)) (bj oQ)) ?_
    refine I rfl ?_
    refine Au ?_
    refine I rfl ?_
    refine Au ?_
    refine U (.Dt (v':=vi (x.toNat:Int)) (PEv.mv rfl) (bi vi oQ)) ?_
    refine Au ?_
    refine U (.Ao l8 mf (j:=x.toNat) (.t rfl) (.t rfl) oQ rfl) ?_
    refine Au ?_
    refine U (.fa (PEv.lb rfl (hcl.nth (j:=0) rfl)) (hq11)) ?_
    refine U (.pa rfl (fun hp=>wQ)) ?_
    refine I rfl ?_
    refine Bh ?_
    refine Bh ?_
    refine Bh ?_
    refine Bh ?_
    refine Bh ?_
    refine U (.Cv (b:=false) (.t rfl) (fun hp=>absurd (show false=true from hp) cQ)) ?_
    refine Ah ?_
    refine CW.f rfl ?_
    refine Aj (Al (Ac (Aa ?_)))
    refine U (.ic rfl oQ) ?_
    refine I rfl (LW.nil (Av ?_))
    first|exact⟨(k+1,Q2++[⟨ad71,hd.l++[(x.toNat:Int)],cp71⟩],B73,v73,D2.set x.toNat true),⟨by show k+1≤_;omega,hQ2,hm2,hh2,by first|exact hS|(show Wx.Sep _ _ _ [_,_,aPart _ _ _ ((Q2++[_]).map IL.val),_,_];rw[co];exact hS)⟩,tQ,by show sk.nx.length-(k+1)<sk.nx.length-k;omega⟩|exact⟨(k+1,Q2,B2,v2,D2),⟨by show k+1≤_;omega,hQ,hm,hh,by first|exact hS|(show Wx.Sep _ _ _ [_,_,aPart _ _ _ ((Q2++[_]).map IL.val),_,_];rw[co];exact hS)⟩,tQ,by show sk.nx.length-(k+1)<sk.nx.length-k;omega⟩
  replace h40:=dQ h40
  refine A8 (Ab (Ab (Aq (Al (Av ?_)))))
  exact⟨(Q2,B2,v2,D2),⟨hQ,hS.sub (.cons_cons _ (.cons_cons _ (.cons_cons _ (.cons _ (List.Sublist.refl _)))))⟩,tQ,hm⟩
 replace h21:=dQ h21
 refine A8 (Ab (Ab (Aq (Ac (Af (Az (Ah (Am ?_))))))))
 refine KW.q ?_
 exact⟨rfl,hS.Ch⟩
theorem wF(sa wa:Option Addr)(sc wc:Nat)(s0 s1 s2:Sk)(w:World)(hF:FlE w sa wa s0 s1 s2):Ret prog 103 #[.agg (Ni sa sc wa wc),vi 0,vi 2] w fun r w'=>∃ad c,r=.tuple #[.slice ad 1 c,.bool true]∧Els w' ad 1 A3 [1]∧Up w w':=by
 obtain⟨w0,rfl,hS⟩:=W0 w
 refine cT 28 func103 rfl (Af (Ap (.bA rfl) rfl ?_))
 rintro _ w1 ⟨B3,rfl,NB3⟩
 replace hS:=hS.Cg NB3
 refine Az (Az (An (Af (U (.lc rfl (hS.b0.agg)) (I rfl (I rfl (Ap (.buildSlice (xs:=([0,2]:List Int)) (enc:=A3) (mk:=vi) k_ lg lq rfl cQ (fun _=>rfl) (fun _=>rfl) (.ct rfl (.cu rfl)) rfl) rfl ?_)))))))
 rintro _ w2 ⟨B12,cB12,rfl,NB12,yB12,xB12⟩
 replace hS:=hS.up NB12.up
 have hE12:=xB12
 refine A4 (eC (.u rfl rfl) (oP)) rfl (Vs sa wa sc wc s0 s1 s2 _ (hF.up hS.Ch) _ _ ([0,2]:List Int) hE12 cQ cQ) ?_
 rintro _ w3 ⟨rfl,uw3⟩
 replace hS:=hS.up uw3
 replace hE12:=hE12.up uw3
 refine U (.n1 rfl) (Ah (CW.f rfl (Aj (Ac (Af (U (.lc rfl (hS.b0.agg)) (I rfl (A4 (eC (.u rfl rfl) (xP)) rfl (Zi sa wa sc wc s0 s1 s2 _ (hF.up hS.Ch)) ?_))))))))
 rintro _ w4 ⟨go,b1,b2,a,c,rfl,hEo,hBl,hEa,uw4⟩
 replace hS:=hS.up uw4
 replace hE12:=hE12.up uw4
 obtain⟨Bo,oo,ao,hco⟩:=hEo 2 (some b2) rfl
 cases ao
 refine I rfl (U (.Ao (j:=2) mq nh (.t rfl) (.t rfl) cQ rfl) (U (.lb rfl (AggAt.nth (j:=0) hco rfl)) (LW.A rfl (An (Af (I rfl (U (.fa (PEv.K3 nj (.t rfl)) (rfl)) (Ah (CW.f rfl (Aj (Ac (Af (I rfl (U (.nc rfl) (U (.fB 1 rfl) (U (.lb rfl (hBl.Ad rfl)) (A4 (eC (.o rfl) (oK)) rfl (Jk a c [1] _ hEa cQ) ?_)))))))))))))))))
 rintro v27 w5 ⟨hO27,uw5⟩
 replace hS:=hS.up uw5
 replace hE12:=hE12.up uw5
 obtain⟨ad,cp,rfl,hE27⟩:=hO27.sl (fun _=>rfl)
 refine LW.A rfl (Az (Ah (Am (Gj rfl rfl rfl ⟨_,rfl,?_⟩))))
 exact⟨_,_,rfl,hE27,hS.Ch⟩
theorem X5(sa wa:Option Addr)(sc wc:Nat)(s0 s1 s2:Sk)(w:World)(hF:FlE w sa wa s0 s1 s2):Ret prog 104 #[.agg (Ni sa sc wa wc),vi 0,vi 2] w fun r w'=>r=.tuple #[vi 14,.bool true]∧Up w w':=by
 obtain⟨w0,rfl,hS⟩:=W0 w
 refine cT 27 func104 rfl (Af (Ap (.bA rfl) rfl ?_))
 rintro _ w1 ⟨B3,rfl,NB3⟩
 replace hS:=hS.Cg NB3
 refine Az (Az (An (Af (U (.lc rfl (hS.b0.agg)) (I rfl (I rfl (Ap (.buildSlice (xs:=([0,2]:List Int)) (enc:=A3) (mk:=vi) k_ lg lq rfl cQ (fun _=>rfl) (fun _=>rfl) (.ct rfl (.cu rfl)) rfl) rfl ?_)))))))
 rintro _ w2 ⟨B12,cB12,rfl,NB12,yB12,xB12⟩
 replace hS:=hS.up NB12.up
 have hE12:=xB12
 refine A4 (eC (.u rfl rfl) (oP)) rfl (Vs sa wa sc wc s0 s1 s2 _ (hF.up hS.Ch) _ _ ([0,2]:List Int) hE12 cQ cQ) ?_
 rintro _ w3 ⟨rfl,uw3⟩
 replace hS:=hS.up uw3
 replace hE12:=hE12.up uw3
 refine U (.n1 rfl) (Ah (CW.f rfl (Aj (Ac (Af (U (.lc rfl (hS.b0.agg)) (I rfl (A4 (eC (.u rfl rfl) (xP)) rfl (Zi sa wa sc wc s0 s1 s2 _ (hF.up hS.Ch)) ?_))))))))
 rintro _ w4 ⟨go,b1,b2,a,c,rfl,hEo,hBl,hEa,uw4⟩
 replace hS:=hS.up uw4
 replace hE12:=hE12.up uw4
 obtain⟨Bo,oo,ao,hco⟩:=hEo 2 (some b2) rfl
 cases ao
 refine I rfl (U (.Ao (j:=2) mq nh (.t rfl) (.t rfl) cQ rfl) (U (.lb rfl (AggAt.nth (j:=0) hco rfl)) (LW.A rfl (An (Af (I rfl (U (.fa (PEv.K3 nj (.t rfl)) (rfl)) (Ah (CW.f rfl (Aj (Ac (Af (I rfl (U (.nc rfl) (U (.fB 0 rfl) (U (.lb rfl (hBl.Ad rfl)) (LW.A rfl (Az (Ah (Am (Gj rfl rfl rfl ⟨_,rfl,?_⟩)))))))))))))))))))))
 exact⟨rfl,hS.Ch⟩
theorem aX(sa wa:Option Addr)(sc wc:Nat)(s0 s1 s2:Sk)(w:World)(hF:FlE w sa wa s0 s1 s2):Ret prog 38 #[.agg (Ni sa sc wa wc),.agg nY.cells] w fun r w'=>∃ad cp,r=.tuple #[.agg (J5 3 (.slice ad 3 cp)),.bool true]∧OwnS w' w.heap.size 3 1 A3 (.slice ad 3 cp) [0,1,2]∧Up w w':=by
 obtain⟨w0,rfl,hS⟩:=W0 w
 refine cT 51 func38 rfl (Af (Ap (.bA rfl) rfl ?_))
 rintro _ w1 ⟨B2,rfl,NB2⟩
 replace hS:=hS.Cg NB2
 refine Ap (.bA rfl) rfl ?_
 rintro _ w2 ⟨B3,rfl,NB3⟩
 replace hS:=hS.Cg NB3
 refine Ap (.Cb np) rfl ?_
 rintro _ w3 ⟨B4,rfl,NB4⟩
 replace hS:=hS.Cg NB4
 refine Az (An (Aa (U (.lc rfl (hS.b0.agg)) (U (.fB 0 rfl) (U (.lb rfl (hS.b1.Ad rfl)) (U (.fB 1 rfl) (U (.lb rfl (hS.b1.Ad rfl)) (A4 (eC (.ct rfl (.ct rfl (.cu rfl))) (CS)) rfl (wF sa wa sc wc s0 s1 s2 _ (hF.up hS.Ch)) ?_))))))))
 rintro _ w4 ⟨ad16,cp16,rfl,hE16,uw4⟩
 replace hS:=hS.up uw4
 refine I rfl (U (.xt rfl rfl) (U (.xt rfl rfl) (LW.A rfl (LW.A rfl (An (Af (I rfl (U (.fa (PEv.n1 rfl) (rfl)) (Ah (CW.f rfl (Aj (Ac (Ai (Af (U (.lc rfl (hS.b0.agg)) (U (.fB 0 rfl) (U (.lb rfl (hS.b1.Ad rfl)) (U (.fB 1 rfl) (U (.lb rfl (hS.b1.Ad rfl)) (A4 (eC (.ct rfl (.ct rfl (.cu rfl))) (CT)) rfl (X5 sa wa sc wc s0 s1 s2 _ (hF.up hS.Ch)) ?_))))))))))))))))))))
 rintro _ w5 ⟨rfl,uw5⟩
 replace hS:=hS.up uw5
 replace hE16:=hE16.up uw5
 refine I rfl (U (.xt rfl rfl) (U (.xt rfl rfl) (LW.A rfl (LW.A rfl (An (Aa (U (.fB 2 rfl) (U (.lb rfl (hS.b1.Ad rfl)) (I rfl (U (.tr (PEv.l2 rfl rfl) (rfl)) (Ah (CW.v rfl (Af (U (.fB 0 rfl) (U (.lb rfl (hS.b1.Ad rfl)) (Ap (.buildSlice (xs:=([0]:List Int)) (enc:=A3) (mk:=vi) k_ lg lq rfl cQ (fun _=>rfl) (fun _=>rfl) (.cu rfl) rfl) rfl ?_))))))))))))))))
 rintro _ w6 ⟨B42,cB42,rfl,NB42,yB42,xB42⟩
 replace hS:=hS.up NB42.up
 replace hE16:=hE16.up NB42.up
 have hE42:=xB42
 refine I rfl (U (.fB 1 rfl) (U (.lb rfl (hS.b1.Ad rfl)) (Ap (.buildSlice (xs:=([2]:List Int)) (enc:=A3) (mk:=vi) k_ lg lq rfl cQ (fun _=>rfl) (fun _=>rfl) (.cu rfl) rfl) rfl ?_)))
 rintro _ w7 ⟨B46,cB46,rfl,NB46,yB46,xB46⟩
 replace hS:=hS.up NB46.up
 replace hE16:=hE16.up NB46.up
 replace hE42:=hE42.up NB46.up
 have hE46:=xB46
 refine Ap (.buildSlice (xs:=([⟨some ⟨B42,0,none⟩,[0],1⟩,⟨ad16,[1],cp16⟩,⟨some ⟨B46,0,none⟩,[2],1⟩]:List IL)) (enc:=IL.cells) (mk:=fun s=>.slice s.ad s.l.length s.cp) mp m4 zeroValue23 rfl cQ (fun _=>rfl) (fun _=>rfl) (.ct rfl (.ct rfl (.cu rfl))) rfl) rfl ?_
 rintro _ w8 ⟨B47,cB47,rfl,NB47,yB47,xB47⟩
 replace hS:=hS.up NB47.up
 replace hE16:=hE16.up NB47.up
 replace hE42:=hE42.up NB47.up
 replace hE46:=hE46.up NB47.up
 have hE47:=xB47
 refine A4 (eC (.o rfl) (CU)) rfl (aV _ _ ([⟨some ⟨B42,0,none⟩,[0],1⟩,⟨ad16,[1],cp16⟩,⟨some ⟨B46,0,none⟩,[2],1⟩]:List IL) _ hE47 rfl (fun s hs=>by simp only[bp,df,d_]at hs;rcases hs with rfl|rfl|rfl<;>first|exact⟨rfl,hE42⟩|exact⟨rfl,hE16⟩|exact⟨rfl,hE46⟩)) ?_
 rintro v48 w9 ⟨hO48,uw9⟩
 replace hE16:=hE16.up uw9
 replace hE42:=hE42.up uw9
 replace hE46:=hE46.up uw9
 replace hE47:=hE47.up uw9
 replace hS:=hS.add uw9 (A':=Aw 3 1 A3 v48 [0,1,2]) (hO48.mono (a8 _)) (fun i h=>hO48.base i h)
 obtain⟨ad48,cp48,rfl,_⟩:=(hS.own 3 rfl).sl (fun _=>rfl)
 refine U (.build (cs:=(J5 3 (.slice ad48 3 cp48))) underlying51 np Ng (.cons (.const _) (.cu rfl)) rfl) (Cd (.Cc nr rfl (.t rfl) (.t rfl) (by simp[J5,Value.oneCell']) hS.b2 rfl) ?_)
 intro w10 Nw10
 replace hS:=hS.Ek 2 rfl Nw10
 skip
 skip
 skip
 skip
 refine Az (Ah (Am (Ar (aW rfl rfl rfl isAgg51 nr rfl hS.b2.agg ⟨_,rfl,?_⟩))))
 exact⟨_,_,rfl,(hS.own 3 rfl).F5 (fun i h=>(hS.foot 3 rfl i h).resolve_left (fun h=>h)),hS.Ch⟩
theorem fN(sa wa:Option Addr)(sc wc:Nat)(s0 s1 s2:Sk)(w:World)(hF:FlE w sa wa s0 s1 s2):Ret prog 14 #[.agg (Ni sa sc wa wc)] w fun r w'=>∃ad cp,r=.agg (J5 3 (.slice ad 3 cp))∧Els w' ad 1 A3 [0,1,2]∧Up w w':=by
 obtain⟨w0,rfl,hS⟩:=W0 w
 refine cT 28 func14 rfl (Af (Ap (.bA rfl) rfl ?_))
 rintro _ w1 ⟨B1,rfl,NB1⟩
 replace hS:=hS.Cg NB1
 refine Ap (.Cb np) rfl ?_
 rintro _ w2 ⟨B2,rfl,NB2⟩
 replace hS:=hS.Cg NB2
 refine An (Af (U (.lc rfl (hS.b0.agg)) (A4 (eC (.o rfl) (zE)) rfl (dR sa wa sc wc s0 s1 s2 _ (hF.up hS.Ch)) ?_)))
 rintro _ w3 ⟨rfl,uw3⟩
 replace hS:=hS.up uw3
 refine U (.n1 rfl) (Ah (CW.f rfl (Aj (Ac (Ai (Af (U (.fB 3 rfl) (U (.lb rfl (hS.b0.Ad rfl)) (U (.Ck l9 (.t rfl)) (U (.move (.const _)) (Ah (Ak (A6 (σ:=Nat) (fun s w=>(s=0)∧(Wx.Sep no w0 w [A5 B1 (Ni sa sc wa wc) 29,A5 B2 (J5 0 (.slice none 0 0)) 51])) (fun s=>[(14,.eq (vi (s:Int)))]) ([(1,.eq _),(2,.eq _),(12,.eq _),(13,.eq _)]) (fun s=>1-s) 0 ?_ tQ ?_)))))))))))))
 ·exact⟨rfl,hS⟩
 rintro k w4 ⟨hk,hS⟩
 subst hk
 refine Af (U (.tr (PEv.l2 rfl rfl) (rfl)) (An (CW.v rfl (Aj (Ac (Ai (Ak (Ai ?_))))))))
 obtain⟨Bw,ow,aw_,hcw⟩:=hF.W 0 nY rfl
 refine Aa (U (.Ao (j:=0) l9 nt (.t rfl) (.t rfl) cQ aw_) (U (.lc rfl ((hcw.up hS.Ch))) (Ap (.Cb nu) rfl ?_)))
 rintro _ w5 ⟨B4,rfl,MB4⟩
 refine Cd (.Cc nt rfl (.t rfl) (.t rfl) (Wn.one _) MB4.blk rfl) ?_
 intro w6 LB4
 have NB4:=MB4.set LB4
 replace hS:=hS.Cg NB4
 refine An (Aa (U (.lc rfl (hS.b0.agg)) (U (.lc rfl (hS.b2.agg)) (A4 (eC (.u rfl rfl) (IV)) rfl (aX sa wa sc wc s0 s1 s2 _ (hF.up hS.Ch)) ?_))))
 rintro _ w7 ⟨ad21,cp21,rfl,hO21,uw7⟩
 replace hS:=hS.add uw7 (A':=Aw 3 1 A3 (.slice ad21 3 cp21) [0,1,2]) (hO21.mono (a8 _)) (fun i h=>hO21.base i h)
 refine I rfl (U (.xt rfl rfl) (U (.xt rfl rfl) (Ap (.Cb np) rfl ?_)))
 rintro _ w8 ⟨B5,rfl,MB5⟩
 refine Cd (.Cc nr rfl (.t rfl) (.t rfl) (by simp[J5,Value.oneCell']) MB5.blk rfl) ?_
 intro w9 LB5
 have NB5:=MB5.set LB5
 replace hS:=hS.Cg NB5
 refine LW.A rfl (An (Aa (I rfl (Ah (CW.v rfl (Af (U (.lc rfl (hS.b4.agg)) (Cd (.Cc nr rfl (.t rfl) (.t rfl) (by simp[J5,Value.oneCell']) hS.b1 rfl) ?_))))))))
 intro w10 Nw10
 replace hS:=hS.Ek 1 rfl Nw10
 refine Ah (Am (A7 (Ar (Ar (A7 (Ar (F3 rfl rfl isAgg51 nr rfl (hS.b1.agg) ⟨_,rfl,?_⟩)))))))
 exact⟨_,_,rfl,Cf (hS.own 3 rfl) (fun _=>rfl),hS.Ch⟩
theorem Ic(v1 v2:Value)(xs ys:List Int)(w:World)(h1:Sl w v1 1 A3 xs)(h2:Sl w v2 1 A3 ys)(hx0:xs.length≤1000000000)(hy0:ys.length≤1000000000):Ret prog 10 #[v1,v2] w fun r w'=>r=.bool (decide (xs=ys))∧Up w w':=by
 have hW:=Up.refl w
 obtain⟨w0,rfl,_⟩:=W0 w
 obtain⟨ad,cp,rfl,hE1⟩:=h1
 obtain⟨ad',cp',rfl,hE2⟩:=h2
 refine cT 26 func10 rfl (Af (Az (An (Af (I rfl (U (.Ck k_ (.t rfl)) (I rfl (U (.Ck k_ (.t rfl)) (U (.neq (.t rfl) (.t rfl)) (Ah (CW.b rfl (fun h10=>?_) (fun h10=>?_))))))))))))
 ·replace h10:=dQ h10
  have hr:decide (xs=ys)=false:=br (fun h=>by subst h;simp at h10)
  refine Af (Az (Ah (Am (Ar (KW.q ?_)))))
  exact⟨by rw[hr],hW⟩
 replace h10:=dQ h10
 have hlen:xs.length=ys.length:=Int.ofNat.inj (show Int.ofNat _=Int.ofNat _ from(by simpa using h10:(xs.length:Int)=ys.length))
 refine Aj (Ac (Ai (Af (Az (Ah (Ak (CW.loop (σ:=Nat) (fun s w=>(s≤xs.length∧xs.take s=ys.take s)∧Els w ad 1 A3 xs∧Els w ad' 1 A3 ys∧Up w0 w) (fun s=>[(0,.eq (.slice ad xs.length cp)),(1,.eq (.slice ad' ys.length cp')),(5,.eq (vi (s:Int)))]) (fun s=>xs.length-s) 0 ?_ ?_ ?_)))))))
 ·exact⟨⟨a8 _,rfl⟩,hE1,hE2,hW⟩
 ·exact tQ
 rintro k w1 ⟨⟨hk,hT⟩,hE1,hE2,hW⟩
 refine Ai (Af (I rfl (I rfl (U (.Ck k_ (.t rfl)) (U (.l2 rfl rfl) (Ah (CW.b rfl (fun h14=>?_) (fun h14=>?_))))))))
 ·replace h14:=dQ h14
  refine Aj (Ac (Ai (Ak (Ai ?_))))
  obtain⟨x,hx⟩:=Ae (xs:=xs) (i:=k) oQ
  obtain⟨y,hy⟩:=Ae (xs:=ys) (i:=k) oQ
  obtain⟨B,o,had,hcell⟩:=hE1 k x hx
  obtain⟨B',o',had',hcell'⟩:=hE2 k y hy
  refine C5 kQ kQ rfl rfl (J (.mv rfl) (J (.mv rfl) (J (.Ao k_ lg (.t rfl) (.t rfl) oQ had) (J (.lb rfl (hcell.nth (j:=0) rfl)) (J (.mv rfl) (J (.mv rfl) (J (.Ao k_ lg (.t rfl) (.t rfl) oQ had') (J (.lb rfl (hcell'.nth (j:=0) rfl)) (J (.neq (.t rfl) (.t rfl)) (HW.nil ?_))))))))))
  intro w2 uw2
  replace hE1:=hE1.up uw2
  replace hE2:=hE2.up uw2
  replace hW:=hW.up uw2
  refine Ac (CW.b rfl (fun h25=>?_) (fun h25=>?_))
  ·replace h25:=dQ h25
   have hr:decide (xs=ys)=false:=br (HI hx hy (by simpa using h25))
   refine Af (Az (Ah (Am (A7 (Ar (Ar (A7 (Ar (KW.q ?_)))))))))
   exact⟨by rw[hr],hW⟩
  replace h25:=dQ h25
  refine Aj (Al (Ac (Aa (I rfl (U (.ic rfl oQ) (LW.A rfl (LW.nil (Av ?_))))))))
  exact⟨k+1,⟨⟨by omega,wD hT hx hy (by simpa using h25)⟩,hE1,hE2,hW⟩,tQ,by omega⟩
 replace h14:=dQ h14
 have hr:decide (xs=ys)=true:=bj (by have:=hT;rw[show k=xs.length by omega,b8,hlen,b8]at this;exact this)
 refine A8 (Ab (Ab (Aq (Ac (Af (Az (Ah (Am (KW.q ?_)))))))))
 exact⟨by rw[hr],hW⟩
end Go.Proofs.YtnpgbbaniknpkaaGreatDoor
