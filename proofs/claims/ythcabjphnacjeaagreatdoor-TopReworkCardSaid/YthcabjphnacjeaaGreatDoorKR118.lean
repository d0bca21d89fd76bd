import Derived.Test.YthcabjphnacjeaaGreatDoorKR117
import Derived.ArgAppend
namespace Go.Wx
def aPart(e:TypeId)(B:Nat)(v:Value)(xs:List Value):Asr:=
 ⟨(· =B),fun w=>∃o cp cs,v=.slice (some ⟨B,o,none⟩) xs.length cp∧xs.length≤cp∧o+cp≤cs.size∧Blk w B cs e∧∀(i:Nat)(u:Value),xs[i]?=some u→cs[o+i]?=some u,
  fun _ _⟨o,cp,cs,h1,h2,h3,h4,h5⟩k _=>⟨o,cp,cs,h1,h2,h3,(k B rfl h4.lt).trans h4,h5⟩,fun _⟨_,_,_,_,_,_,h,_⟩_ e=>by subst e;exact h.lt⟩
theorem aPart.of{α:Type}{enc:α→Array Value}{w:World}{B m cp e:Nat}{xs:List α}(val:α→Value)(hv:∀x,enc x=#[val x])(h:OwnS w 0 e 1 enc (.slice (some ⟨B,0,none⟩) m cp) xs):(aPart e B (.slice (some ⟨B,0,none⟩) m cp) (xs.map val)).holds w:=by
 have hf:(xs.flatMap fun x=>(enc x).toList)=xs.map val:=by
   clear h
   induction xs with
   |nil=>rfl
   |cons x l ih=>rw[cw,ih,hv];rfl
 obtain⟨hl,⟨e1,_⟩|⟨g,cap,cur,e1,_,hg,hcap,_,hcs,htk⟩⟩:=h
 · cases e1
 cases e1
 rw[hf]at htk
 refine⟨0,cp,cur,by rw[ef],by rw[ef];exact hcap,by omega,hg,fun i u hu=>?_⟩
 rw[←htk,fj]at hu
 split at hu
 · rw[dm];simpa using hu
 cases hu
theorem aPart.at_{w:World}{B e:Nat}{v:Value}{xs:List Value}{i:Nat}{u:Value}(h:(aPart e B v xs).holds w)(hu:xs[i]?=some u):∃o cp,v=.slice (some ⟨B,o,none⟩) xs.length cp∧AggAt w B (o+i*1) #[u]:=by
 obtain⟨o,cp,cs,h1,_,_,h4,h5⟩:=h
 refine⟨o,cp,h1,fun j x hj=>?_⟩
 match j,hj with
 |0,hj=>
   cases(show u=x by simpa using hj)
   rw[fq,f6]
   exact h4.cell (h5 i u hu)
 |j+1,hj=>simp at hj
theorem dX{w:World}{B e:Nat}{ad:Option Addr}{m cp:Nat}{x:Value}{xs:List Value}(h:(aPart e B (.slice ad m cp) (x::xs)).holds w):(aPart e B (.slice (if cp=1 then ad else ad.map (·.add (1*1))) (m-1) (cp-1)) xs).holds w:=by
 obtain⟨o,cp',cs,h1,h2,h3,h4,h5⟩:=h
 cases h1
 rw[a8]at h2⊢
 by_cases hc:cp=1
 · subst hc
   rw[bg rfl]
   have:xs=[]:=dv oQ
   subst this
   exact⟨o,0,cs,rfl,bi _,by omega,h4,fun i u hu=>by simp at hu⟩
 rw[aq hc]
 exact⟨o+1,cp-1,cs,by simp[Addr.add],by omega,by omega,h4,fun i u hu=>by rw[show o+1+i=o+(i+1)by omega];exact h5 (i+1) u (by simpa using hu)⟩
section
variable {P:Program}{n:Nat}{ds:List Deferred}{l:Env}{w:World}{d:Option Tmp}{ty:TypeId}{ps:String}{af:Array Edge}{g:Option (Nat×Bool)}
theorem REv.uG{e T B:TypeId}{i:TypeInfo}{z:Value}{s x:Operand}{v u:Value}{ad:Option Addr}{c:Nat}{xs:List Value}(hT:P.underlying T=some (.slice e))(hi:P.info? e=some i)(hz:i.zero=some z)
   (hsize:i.size=1)(hby:i.bytes≤100)(hzs:z.cells.size=1)(h1:u.oneCell'=true)(hs:Val l s v)(hx:Val l x (.slice ad 1 c))(ho:(aPart e B v xs).holds w)(hE:∃Bu ou,ad=some ⟨Bu,ou,none⟩∧AggAt w Bu ou #[u])(hl:xs.length≤1000):
   REv P n ds l w ⟨d,.call { callee:=.builtin .append,args:=#[s,x],argTypes:=#[T,T] },ty,ps,af,g⟩ (fun v' w'=>∃B',Stp (aPart e B v xs) (aPart e B' v' (xs++[u])) w w'):=fun a ha=>by
 obtain⟨Bu,ou,rfl,hu⟩:=hE
 obtain⟨o,cp,cs,rfl,h2,h3,h4,h5⟩:=ho
 have hn:∀(j:Nat)(y:Value),[u][j]?=some y→w.cell? ((⟨Bu,ou,none⟩:Addr).add j)=some y:=fun j y hj=>by
   match j,hj with
   |0,hj=>
     cases(show u=y by simpa using hj)
     rw[Fc]
     have:=hu 0 u rfl
     simpa using this
 have run:∀{v':Value}{w':World},(Builtin.append_ #[T,T] ty #[.slice (some ⟨B,o,none⟩) xs.length cp,.slice (some ⟨Bu,ou,none⟩) 1 c]).run P w=.ok v' w'→(execOp a.eval ⟨d,.call { callee:=.builtin .append,args:=#[s,x],argTypes:=#[T,T] },ty,ps,af,g⟩).run P w=.ok (.value v') w':=fun hr=>by
   simp only[execOp,resolve,invoke,builtin,Sem.run_bind,Sem.run_pure,Result.andThen_ok,f9,c9,fy,ha.ev hs,ha.ev hx,hr]
 by_cases hroom:xs.length+1≤cp
 · have hlt:o+xs.length<cs.size:=by omega
   have hcl:∀j,j<[u].length→(w.cell? ⟨B,o+xs.length*i.size+j,none⟩).isSome=true:=fun j hj=>by
     have:j=0:=by simpa using hj
     subst this
     rw[hsize,fq,f6,h4.cell (cd hlt)]
     rfl
   have hr:=run_append_room_cells (P:=P) w T ty e i hT hi B o xs.length cp ⟨Bu,ou,none⟩ 1 c [u] (by rw[hsize];rfl) hn (fun y hy=>by rw[bn.1 hy];exact h1) hroom hcl (fun j _=>frozen_of_row w B _ cs e h4)
   rw[hsize,fq]at hr
   have e2:w.setCells B (o+xs.length) [u]=w.setRow B (cs.setIfInBounds (o+xs.length) u):=setCell_eq_setRow w B (o+xs.length) cs e (0,0) u h4
   rw[e2]at hr
   have S:=Set_.setRow (cs:=cs.setIfInBounds (o+xs.length) u) h4
   refine⟨_,_,run hr,B,S.sto.fr,⟨o,cp,_,by rw[am];rfl,by rw[am];exact hroom,by rw[jj];exact h3,S.blk,fun j y hj=>?_⟩,fun _ h=>.inl h⟩
   rw[gx]
   by_cases e3:o+xs.length=o+j
   · rw[bg e3,bg hlt]
     have:j=xs.length:=by omega
     subst this
     simpa using hj
   rw[aq e3]
   refine h5 j y ?_
   have hj2:=(ak.1 hj).1
   rw[am,dp]at hj2
   rwa [cz (by omega)]at hj
 have hcp:cp=xs.length:=by omega
 subst hcp
 obtain⟨v',w',hr,hown,hgr⟩:=run_append_arg_grows (P:=P) w T ty e i z 1 i.bytes hT hi hz hsize rfl hzs cQ ⟨B,o,none⟩ xs.length xs.length xs oQ (fun j y hj=>by rw[Fc];exact h4.cell (h5 j y hj)) ⟨Bu,ou,none⟩ 1 c [u] rfl hn oQ (by unfold maxLen;omega) (by have:=km (show xs.length+1≤1001 by omega) hby;omega)
 obtain⟨hl2,⟨_,h0⟩|⟨g',cap,cur,rfl,hb,hg,hcap,_,hcs,htk⟩⟩:=hown
 · omega
 refine⟨_,_,run hr,g',⟨hgr.os,hgr.tape,hgr.output,hgr.size,fun j hj _=>hgr.block j hj (by simp)⟩,⟨0,cap,cur,by rw[am];rfl,by rw[am];exact hcap,by omega,hg,fun j y hj=>?_⟩,fun j hj=>.inr (by rw[show j=g' from hj];exact hb)⟩
 rw[←htk,fj]at hj
 split at hj
 · rw[dm];simpa using hj
 cases hj
end
def IL.val(s:IL):Value:=.slice s.ad s.l.length s.cp
def gV(e:TypeId)(s:IL):Asr:=Aw e 1 A4 s.val s.l
structure IL.Ok(f n:Nat)(s:IL):Prop where
 j:∃j:Nat,s.l[s.l.length-1]?=some (j:Int)∧f≤j∧j<n
 p:1≤s.l.length
structure QuO(f n:Nat)(Q:List IL)(D:List Bool):Prop where
 s:∀s∈Q,s.Ok f n∧s.l.length+U4 D≤n+1
 l:Q.length+U4 D≤n+1
 d:D.length=n
theorem QuO.start{f n:Nat}(hf:f<n)(ad:Option Addr)(cp:Nat):QuO f n [⟨ad,[(f:Int)],cp⟩] (List.replicate n false):=by
 have hu:U4 (List.replicate n false)=n:=by unfold U4;simp
 refine⟨fun s hs=>?_,by rw[hu,dp];omega,gb⟩
 rw[bn.1 hs]
 exact⟨⟨⟨f,rfl,bi _,hf⟩,bi _⟩,by rw[hu];show 1+n≤n+1;omega⟩
theorem QuO.add{f n x:Nat}{Q:List IL}{D:List Bool}{s:IL}(h:QuO f n Q D)(hs:s.l.length+U4 D≤n+1)(hx:x<n)(hD:Ig D x=false)(hf:f≤x)(ad:Option Addr)(cp:Nat):QuO f n (Q++[⟨ad,s.l++[(x:Int)],cp⟩]) (D.set x true):=by
 have hu:=L6 (by rw[h.d];exact hx) hD
 refine⟨fun t ht=>?_,by have:=h.l;rw[am,dp];omega,by rw[du];exact h.d⟩
 rcases bt.1 ht with ht|ht
 · have:=h.s t ht
   exact⟨this.1,by omega⟩
 rw[bn.1 ht]
 refine⟨⟨⟨x,?_,hf,hx⟩,by simp⟩,?_⟩
 · show(s.l++[(x:Int)])[(s.l++[(x:Int)]).length-1]?=_
   simp
 show(s.l++[(x:Int)]).length+_≤_
 rw[am,dp]
 omega
def uH(Q:List IL)(D:List Bool):Nat:=Q.length+2*U4 D
theorem uI{Q:List IL}{D:List Bool}{x m:Nat}{s:IL}(hx:x<D.length)(hD:Ig D x=false)(h:uH Q D<m):uH (Q++[s]) (D.set x true)<m:=by
 have hu:=L6 hx hD
 unfold uH at h⊢
 rw[am,dp]
 omega
def uJ(i:Nat):List Int:=if i<2 then[(i:Int)+1]else[]
def Ky(e:TypeId)(s:Sk):List Asr:=[Aw e 1 A4 s.tv s.tl,Aw e 1 A4 s.nv s.nx]
structure StQ(L:List Sk)(k:Nat):Prop where
 len:L.length=k
 at_:∀i s,L[i]?=some s→s.Good∧s.nx=uJ i
theorem StQ.nil:StQ [] 0:=⟨rfl,fun i s h=>by simp at h⟩
theorem StQ.snoc{L:List Sk}{k:Nat}{s:Sk}(h:StQ L k)(hg:s.Good)(hn:s.nx=uJ k):StQ (L++[s]) (k+1):=by
 refine⟨by rw[am,h.len];rfl,fun i x hx=>?_⟩
 by_cases hi:i<L.length
 · rw[cz hi]at hx
   exact h.at_ i x hx
 rw[c8 (by omega)]at hx
 have h0:i-L.length=0:=by
   have:=(ak.1 hx).1
   simp at this
   omega
 rw[h0]at hx
 cases hx
 have:i=k:=by have:=h.len;omega
 subst this
 exact⟨hg,hn⟩
theorem StQ.three{L:List Sk}(h:StQ L 3):∃s0 s1 s2,L=[s0,s1,s2]:=by
 obtain⟨h,_⟩:=h
 match L,h with
 |[s0,s1,s2],_=>exact⟨s0,s1,s2,rfl⟩
theorem gW{k:Nat}(hk:k<3)(ta:Option Addr)(tc:Nat)(nx:List Int)(na:Option Addr)(nc:Nat)(hn:nx=uJ k):(⟨1,[(k:Int)],ta,tc,10,20,nx,na,nc,-1,0⟩:Sk).Good:=by
 subst hn
 refine⟨rfl,rfl,rfl,rfl,rfl,⟨rfl,?_⟩,?_⟩
 · intro x hx
   rw[bn.1 hx]
   unfold jH
   rw[bj (show(0:Int)≤(k:Int)by omega),bj (show(k:Int)≤59 by omega)]
   rfl
 show(uJ k).length≤1∧∀x∈uJ k,jH x 0 2=true
 match k,hk with
 |0,_=>exact⟨bi _,fun x hx=>by rw[bn.1 hx];rfl⟩
 |1,_=>exact⟨bi _,fun x hx=>by rw[bn.1 hx];rfl⟩
 |2,_=>exact⟨a_ _,fun x hx=>by cases hx⟩
theorem gX{e:TypeId}{L:List Sk}{w:World}(h:(Dp (L.flatMap (Ky e))).holds w){s:Sk}(hs:s∈L):Els w s.ta 1 A4 s.tl∧Els w s.na 1 A4 s.nx:=
 ⟨Cg (show OwnS w 0 e 1 A4 (.slice s.ta s.tl.length s.tc) s.tl from h.1 _ (ii.2 ⟨s,hs,bu⟩)) (fun _=>rfl),
   Cg (show OwnS w 0 e 1 A4 (.slice s.na s.nx.length s.nc) s.nx from h.1 _ (ii.2 ⟨s,hs,b9 _ bu⟩)) (fun _=>rfl)⟩
theorem Q8{e:TypeId}{L:List Sk}{S0:Nat→Prop}{w0 w:World}{Bs:List Asr}{s:Sk}(h:Wx.Sep S0 w0 w (Bs++[Dp (L.flatMap (Ky e)),Aw e 1 A4 s.tv s.tl,Aw e 1 A4 s.nv s.nx])):Wx.Sep S0 w0 w (Bs++[Dp ((L++[s]).flatMap (Ky e))]):=by
 have h1:=Sep.unfold (Bs:=Bs) (As:=L.flatMap (Ky e)) (rest:=[_,_]) h
 have h2:=La (Bs:=Bs) (As:=L.flatMap (Ky e)++[Aw e 1 A4 s.tv s.tl,Aw e 1 A4 s.nv s.nx]) (rest:=[]) (by simpa only[c_,dq]using h1)
 rw[jx]
 simpa[Ky]using h2
theorem FlE.of{w:World}{sa wa:Option Addr}{sc e:Nat}{s0 s1 s2:Sk}(hQ:StQ [s0,s1,s2] 3)(h1:OwnS w 0 sc 7 Sk.cells (.slice sa 3 e) [s0,s1,s2]){T c:Nat}(h2:OwnS w 0 T 3 Wn.cells (.slice wa 1 c) [mK]){ti:TypeId}(h3:(Dp ([s0,s1,s2].flatMap (Ky ti))).holds w):FlE w sa wa s0 s1 s2:=
 ⟨Cg h1 (fun _=>rfl),fun s hs=>by
   obtain⟨i,hi⟩:=eh.1 hs
   exact(hQ.at_ i s hi).1,(hQ.at_ 0 s0 rfl).2,(hQ.at_ 1 s1 rfl).2,(hQ.at_ 2 s2 rfl).2,fun s hs=>gX h3 hs,Cg h2 (fun _=>rfl)⟩
section
variable {P:Program}{n:Nat}{l:Env}{w:World}{fn:Func}{RR:Ending→World→Prop}
theorem Zz{t u:Tmp}{T:TypeId}{B k:Nat}{cs:Array Value}{x:Value}(hr:fn.results=#[.cell t T,.tmp u])(hv:lk l t=some (.eq (.pointer (some ⟨B,0,none⟩))))(hu:lk l u=some (.eq x))(hT:∀w,(isAgg T).run P w=.ok true w)(hs:∀w,(sizeOf T).run P w=.ok k w)(hk:cs.size=k)(hc:AggAt w B 0 cs)
   (hR:RR (.returned (.tuple #[.agg cs,x])) w):KW n [] (bodyPost P fn RR .ret) l w:=fun a ha=>
 ⟨ha.defers,.tuple #[.agg cs,x],by
   have h1:a.tmps.getD t undef=.pointer (some ⟨B,0,none⟩):=ha.val _ _ hv
   have h2:a.tmps.getD u undef=x:=ha.val _ _ hu
   rw[bl]at h1 h2
   simp[results,hr,h1,h2,asAddr,Fl hT hs hk hc],hR⟩
end
def Jm(k:Int)(v:Value):Array Value:=#[vi k,v]
theorem uK{xs ys:List Int}{k:Nat}{x y:Int}(h:xs.take k=ys.take k)(hx:xs[k]?=some x)(hy:ys[k]?=some y)(e:x=y):xs.take (k+1)=ys.take (k+1):=by
 rw[fz,fz,h,hx,hy,e]
theorem FP{xs ys:List Int}{k:Nat}{x y:Int}(hx:xs[k]?=some x)(hy:ys[k]?=some y)(e:¬x=y):¬xs=ys:=fun h=>e (by subst h;exact dc (hx.symm.trans hy))
end Go.Wx
namespace Go.Proofs.YthcabjphnacjeaaGreatDoor
open Go.Proofs.Tryz
open Go.Wx Go.RowKit
theorem kY(s:Sk)(w:World):Ret prog 217 #[.agg s.cells] w fun r w'=>r=.bool (decide (s.nx.length=0))∧Up w w':=by
 obtain⟨w0,rfl,hS⟩:=W0 w
 refine cT 7 func217 rfl ?_
 refine Ae ?_
 refine Ap (.bA rfl) rfl ?_
 rintro _ w1 ⟨B1,rfl,NB1⟩
 have eB1:=NB1.at_
 have zB1:=NB1.size
 replace hS:=hS.Cf NB1
 change Wx.Sep _ _ _ [_]at hS
 refine Az (An (Aa ?_))
 refine U (.fB 4 rfl) ?_
 refine U (.lb rfl (hS.b0.Ad rfl)) ?_
 refine U (.Cl ky (.t rfl)) ?_
 refine U (.eql (.t rfl) (.const _)) ?_
 refine LW.A rfl (Ah (Am ?_))
 refine KW.q ?_
 exact⟨by simp,hS.Ch⟩
theorem kZ(x:Int)(b B:Nat)(sa wa:Option Addr)(sc m wc:Nat)(L:List Sk)(w:World)(hB:Blk w B (Cx sa L.length sc wa m wc) 29)(hR:FlR b w sa L)(hx:0≤x∧x<L.length):Ret prog 216 #[vi x,.pointer (some ⟨B,0,none⟩)] w fun r w'=>r=.bool (!Mi L x)∧Up w w':=by
 have hW:=Up.refl w
 refine cT 11 func216 rfl ?_
 refine Ae (Az (An ?_))
 obtain⟨s,hs⟩:=Af (xs:=L) (i:=x.toNat) oQ
 obtain⟨Bs,os,as_,hcs⟩:=hR.E _ s hs
 refine Aa ?_
 refine U (.fB 2 rfl) ?_
 refine U (.lb rfl (hB.Ad rfl)) ?_
 refine U (.Dr (v':=vi (x.toNat:Int)) (PEv.mv rfl) (bh vi oQ)) ?_
 refine U (.Ao k_ lr (j:=x.toNat) (.t rfl) (.t rfl) oQ as_) ?_
 refine U (.lc rfl (hcs)) ?_
 refine A3 (eC (.o rfl) (DX)) rfl (kY s _) ?_
 rintro _ w1 ⟨rfl,uw1⟩
 have zw1:=uw1.size
 replace hW:=hW.up uw1
 refine U (.n1 rfl) ?_
 refine LW.A rfl (Ah (Am ?_))
 refine KW.q ?_
 exact⟨by unfold Mi;rw[hs],hW⟩
theorem qB(sa wa:Option Addr)(sc wc:Nat)(L:List Sk)(Ws:List Wn)(w:World)(hF:FlG w sa wa L Ws)(hFw:Fwd L):Ret prog 155 #[.agg (Cx sa L.length sc wa Ws.length wc)] w fun r w'=>∃E,Vis (Ym L) (List.replicate L.length false) E 0∧OwnS w' w.heap.size 3 1 A4 r ((Gb E L.length).filter (Mi L))∧Up w w':=by
 obtain⟨w0,rfl,hS⟩:=W0 w
 have hlen:=hF.len
 refine cT 7 func155 rfl ?_
 refine Ae ?_
 refine Ap (.bA rfl) rfl ?_
 rintro _ w1 ⟨B1,rfl,NB1⟩
 have eB1:=NB1.at_
 have zB1:=NB1.size
 replace hS:=hS.Cf NB1
 change Wx.Sep _ _ _ [_]at hS
 refine Az (An (Aa ?_))
 refine U (.lc rfl (hS.b0.agg)) ?_
 refine A3 (eC (.ct rfl (.cons (.const _) .nil)) (vX)) rfl (U6 sa wa sc wc L Ws _ (hF.up hS.Ch) hFw 0 oQ) ?_
 rintro v4 w2 ⟨E,hV,hO4,uw2⟩
 have zw2:=uw2.size
 replace hS:=hS.add uw2 (A':=Aw 3 1 A4 v4 (Gb E L.length)) (hO4.mono (a_ _)) (fun i h=>hO4.base i h)
 change Wx.Sep _ _ _ [_,_]at hS
 clear hO4
 obtain⟨ad4,cp4,rfl,_⟩:=(hS.own 1 rfl).sl (fun _=>rfl)
 have hBk:=hS.blk 0 rfl
 have hBn:=hS.ne (i:=0) (j:=1) cQ rfl rfl
 have hup:=hS.Ch
 have hft:=fun i h=>(hS.foot 1 rfl i h).resolve_left (fun h=>h)
 have hil:=Li E L.length
 refine U (.makeFunc (.cu rfl)) ?_
 refine A3 (eC (.u rfl rfl) (DU)) rfl (Zx 216 #[.pointer (some ⟨B1,0,none⟩)] (fun x=> !Mi L x) DV ad4 cp4 (Gb E L.length) _ (hS.own 1 rfl) oQ (fun W f x hx=>by obtain⟨i,rfl,hi,_⟩:=Lj.1 hx;exact kZ _ w0.heap.size B1 sa wa sc Ws.length wc L W (hBk.fr f (hBn B1 rfl)) ((hF.R.fr (hup.fr no) (fun i h=>h.elim)).fr f hft) oQ)) ?_
 rintro v6 w3 uw3
 have zw3:=uw3.fr.size
 replace hS:=hS.Ft 1 rfl uw3
 change Wx.Sep _ _ _ [_,_]at hS
 simp only[Bool.not_not]at hS
 refine LW.A rfl (Ah (Am ?_))
 refine KW.q ?_
 exact⟨E,hV,(hS.own 1 rfl).Gn (fun i h=>(hS.foot 1 rfl i h).resolve_left (fun h=>h)),hS.Ch⟩
theorem lA(sa wa:Option Addr)(sc wc:Nat)(L:List Sk)(Ws:List Wn)(w:World)(hF:FlG w sa wa L Ws)(hFw:Fwd L)(gl first:Nat)(E:List Bool)(hEn:E.length=L.length)(hEl:Els w (some ⟨gl,0,none⟩) 1 K3 E)(hf:first<L.length):Ret prog 157 #[.agg (Cx sa L.length sc wa Ws.length wc),.slice (some ⟨gl,0,none⟩) L.length L.length,vi (first:Int)] w fun r w'=>r=.slice none 0 0∧Up w w':=by
 obtain⟨w0,rfl,hS⟩:=W0 w
 have hlen:=hF.len
 refine cT 75 func157 rfl ?_
 refine Ae ?_
 refine Ap (.bA rfl) rfl ?_
 rintro _ w1 ⟨B3,rfl,NB3⟩
 have eB3:=NB3.at_
 have zB3:=NB3.size
 replace hS:=hS.Cf NB3
 change Wx.Sep _ _ _ [_]at hS
 refine Az (An (Aa (I rfl ?_)))
 refine Ap (.buildSlice (xs:=([(first:Int)]:List Int)) (enc:=A4) (mk:=vi) ky k6 lf rfl cQ (fun _=>rfl) (fun _=>rfl) (.cu rfl) rfl) rfl ?_
 intro v13 w2 hN13
 obtain⟨uw2,B13,rfl,e13,hO13⟩:=NewSl.own hN13 (fun _=>rfl) cQ (by simp[maxLen])
 have zw2:=uw2.size
 replace hS:=hS.add uw2 (A':=Aw 3 1 A4 (.slice (some ⟨B13,0,none⟩) 1 1) ([(first:Int)]:List Int)) hO13 (fun i h=>by cases h;exact fh e13.symm)
 change Wx.Sep _ _ _ [_,_]at hS
 refine Ap (.buildSlice (xs:=([⟨some ⟨B13,0,none⟩,[(first:Int)],1⟩]:List IL)) (enc:=IL.cells) (mk:=IL.val) me mr zeroValue23 rfl cQ (fun _=>rfl) (fun _=>rfl) (.cu rfl) rfl) rfl ?_
 intro v14 w3 hN14
 obtain⟨uw3,B14,rfl,e14,hO14⟩:=NewSl.own hN14 (fun _=>rfl) cQ (by simp[maxLen])
 have zw3:=uw3.size
 replace hS:=hS.add uw3 (A':=Aw 23 1 IL.cells (.slice (some ⟨B14,0,none⟩) 1 1) ([⟨some ⟨B13,0,none⟩,[(first:Int)],1⟩]:List IL)) hO14 (fun i h=>by cases h;exact fh e14.symm)
 change Wx.Sep _ _ _ [_,_,_]at hS
 refine LW.A rfl (An (Aa ?_))
 refine U (.fB 2 rfl) ?_
 refine U (.lb rfl (hS.b0.Ad rfl)) ?_
 refine U (.Cl k_ (.t rfl)) ?_
 refine Ap (.nU (m:=L.length) (enc:=K3) (x0:=false) (i:=Tryz.t4) rfl rfl lw kQ rfl rfl cQ (.t rfl) (.t rfl) (by have:=hF.len;omega)) rfl ?_
 rintro _ w4 ⟨uM,go,zM,rfl,hOM⟩
 have zw4:=uM.size
 replace hS:=hS.add uM (A':=Aw 4 1 K3 (.slice (some ⟨go,0,none⟩) L.length L.length) (List.replicate L.length false)) hOM (fun i h=>by cases h;exact zM)
 clear hOM
 change Wx.Sep _ _ _ [_,_,_,_]at hS
 replace hS:=hS.Ft (A':=aPart 23 B14 (.slice (some ⟨B14,0,none⟩) 1 1) (([⟨some ⟨B13,0,none⟩,[(first:Int)],1⟩]:List IL).map IL.val)) 2 rfl ⟨Fr.refl _ _,aPart.of IL.val (fun _=>rfl) (hS.own 2 rfl),fun i h=>.inl (by rw[show i=B14 from h];rfl)⟩
 change Wx.Sep _ _ _ [_,_,_,_]at hS
 replace hS:=(((hS.Ef 1 rfl).Ef 1 rfl).Ef 2 rfl)
 change Wx.Sep _ _ _ [_,_,_,_]at hS
 replace hS:=La (Bs:=[_,_,_]) (As:=([⟨some ⟨B13,0,none⟩,[(first:Int)],1⟩]:List IL).map (gV 3)) (rest:=[]) hS
 refine LW.A rfl (An (Ai ?_))
 refine A7 (σ:=List IL×Nat×Go.Value×List Bool) (fun s w=>(QuO first L.length s.1 s.2.2.2)∧(Wx.Sep no w0 w [A5 B3 (Cx sa L.length sc wa Ws.length wc) 29,Aw 4 1 K3 (.slice (some ⟨go,0,none⟩) L.length L.length) (s.2.2.2),aPart 23 (s.2.1) (s.2.2.1) ((s.1).map IL.val),Dp ((s.1).map (gV 3))])) (fun s=>[(7,.eq (s.2.2.1))]) ([(1,.eq _),(2,.eq _),(3,.eq _),(8,.eq _)]) (fun s=>uH s.1 s.2.2.2) ([⟨some ⟨B13,0,none⟩,[(first:Int)],1⟩],B14,.slice (some ⟨B14,0,none⟩) 1 1,List.replicate L.length false) ?_ tQ ?_
 ·exact⟨QuO.start hf _ _,hS⟩
 rintro⟨Q,Bq,v,D⟩ w5 ⟨hQ,hS⟩
 dsimp only at hQ hS
 change Wx.Sep _ _ _ [_,_,_,_]at hS
 change CW _ _ _ _ _ _ _ ([(7,.eq (v))]++_) _
 refine Ak (Ak ?_)
 obtain⟨oq,cq,_,ev,hcq,_⟩:=hS.get 2 rfl
 rw[ef]at ev hcq
 subst ev
 refine Aa (I rfl ?_)
 refine U (.Cl me (.t rfl)) ?_
 refine U (.gtr (.t rfl) (.const _)) ?_
 refine Ah ?_
 refine CW.b rfl (fun h21=>?_) (fun h21=>?_)
 ·replace h21:=dQ h21
  refine Aj (Ab (Ai (Ak ?_)))
  obtain⟨hd,Q,rfl⟩:∃s Q1,Q=s::Q1:=by cases Q with|nil=>(exfalso;simp at h21)|cons s Q1=>exact⟨s,Q1,rfl⟩
  obtain⟨_,_,e0,hcq0⟩:=aPart.at_ (i:=0) (hS.get 2 rfl) rfl
  cases(Value.slice.inj e0).1
  obtain⟨⟨⟨j,hj,hj1,hj2⟩,hp1⟩,hh⟩:=hQ.s hd bu
  refine Aa (I rfl ?_)
  refine U (.Ao me mr (j:=0) (.t rfl) (.const _) (by simp) rfl) ?_
  refine U (.lb rfl (hcq0.nth (j:=0) rfl)) ?_
  refine LW.A rfl (An (Aa (I rfl ?_)))
  refine U (.sliceFrom me mr (j:=1) (.t rfl) (.const _) (by simp)) ?_
  replace hS:=hS.Ft (A':=aPart 23 Bq (.slice (if cq=1 then some (⟨Bq,oq,none⟩:Addr)else(some (⟨Bq,oq,none⟩:Addr)).map (·.add (1*1))) (Q.length+1-1) (cq-1)) (Q.map IL.val)) 2 rfl ⟨Fr.refl _ _,dX (hS.get 2 rfl),fun i h=>.inl h⟩
  replace hS:=Sep.unfold (Bs:=[_,_,_]) (As:=gV 3 hd::Q.map (gV 3)) (rest:=[]) hS
  replace hS:=La (Bs:=[_,_,_,_]) (As:=Q.map (gV 3)) (rest:=[]) (by simpa only[c_,dq,eu,d_]using hS)
  change Wx.Sep _ _ _ [_,_,_,_,_]at hS
  refine LW.A rfl (An ?_)
  obtain⟨Bj,oj,aj,hcj⟩:=(Cg (show OwnS _ 0 3 1 A4 (.slice hd.ad hd.l.length hd.cp) hd.l from hS.own 3 rfl) (fun _=>rfl)) _ _ hj
  obtain⟨sk,hsk⟩:=Af (xs:=L) (i:=j) hj2
  have hsm:=ai hsk
  have hnl:=hFw.l sk hsm
  obtain⟨Bs,os,as_,hcs⟩:=(hF.up hS.Ch).E _ sk hsk
  refine C0 kQ kQ rfl rfl ?_
  refine J (.fB 2 rfl) ?_
  refine J (.lb rfl (hS.b0.Ad rfl)) ?_
  refine J (.mv rfl) ?_
  refine J (.mv rfl) ?_
  refine J (.Cl ky (.t rfl)) ?_
  refine J (.Dr (v':=vi ((hd.l.length-1:Nat):Int)) (PEv.sub (.t rfl) (.const _) oQ oQ) (bh vi oQ)) ?_
  refine J (.Ao ky k6 (j:=hd.l.length-1) (.t rfl) (.t rfl) oQ aj) ?_
  refine J (.lb rfl (hcj.nth (j:=0) rfl)) ?_
  refine J (.Ao k_ lr (j:=j) (.t rfl) (.t rfl) oQ as_) ?_
  refine J (.fB 4 rfl) ?_
  refine J (.lb rfl (hcs.nth (j:=4) rfl)) ?_
  refine J (.Cl ky (.t rfl)) ?_
  refine J (.move (.const _)) ?_
  refine HW.nil ?_
  intro w6 uw6
  have zw6:=uw6.size
  replace hS:=hS.up uw6
  refine Ab (Ai ?_)
  refine A7 (σ:=Nat×List IL×Nat×Go.Value×List Bool) (fun s w=>(s.1≤sk.nx.length)∧(QuO first L.length s.2.1 s.2.2.2.2)∧(uH s.2.1 s.2.2.2.2<uH (hd::Q) D)∧(hd.l.length+U4 s.2.2.2.2≤L.length+1)∧(Wx.Sep no w0 w [A5 B3 (Cx sa L.length sc wa Ws.length wc) 29,Aw 4 1 K3 (.slice (some ⟨go,0,none⟩) L.length L.length) (s.2.2.2.2),aPart 23 (s.2.2.1) (s.2.2.2.1) ((s.2.1).map IL.val),gV 3 hd,Dp ((s.2.1).map (gV 3))])) (fun s=>[(39,.eq (vi (s.1:Int))),(7,.eq (s.2.2.2.1))]) ([(1,.eq _),(2,.eq _),(3,.eq _),(8,.eq _),(9,.eq _),(37,.eq _),(38,.eq _)]) (fun s=>sk.nx.length-s.1) (0,Q,Bq,.slice (if cq=1 then some (⟨Bq,oq,none⟩:Addr)else(some (⟨Bq,oq,none⟩:Addr)).map (·.add (1*1))) (Q.length+1-1) (cq-1),D) ?_ tQ ?_
  ·exact⟨a_ _,(show QuO first L.length Q D from⟨fun s hs=>hQ.s s (b9 _ hs),by have:=hQ.l;rw[a8]at this;omega,hQ.d⟩),(show uH Q D<uH (hd::Q) D by unfold uH;rw[a8];omega),hh,hS⟩
  rintro⟨k,Q2,B2,v2,D2⟩ w7 ⟨hk,hQ,hm,hh,hS⟩
  dsimp only at hk hQ hm hh hS
  change Wx.Sep _ _ _ [_,_,_,_,_]at hS
  change CW _ _ _ _ _ _ _ ([(39,.eq (vi (k:Int))),(7,.eq (v2))]++_) _
  refine Ae ?_
  refine U (.l2 rfl rfl) ?_
  refine An ?_
  refine CW.b rfl (fun h40=>?_) (fun h40=>?_)
  ·replace h40:=dQ h40
   refine Aj (Ab (Ak (Ai (Ak ?_))))
   have hkx:k<sk.nx.length:=co.1 h40
   refine Aa ?_
   obtain⟨x,hx⟩:=Af (xs:=sk.nx) (i:=k) oQ
   obtain⟨Bx,ox,ax,hcx⟩:=((hF.up hS.Ch).p sk hsm).2 _ x hx
   refine U (.Ao ky k6 (.t rfl) (.t rfl) oQ ax) ?_
   refine U (.lb rfl (hcx.nth (j:=0) rfl)) ?_
   refine LW.A rfl (An (Ak ?_))
   have hxr:=hFw.n j sk hsk x (ai hx)
   obtain⟨Bl,ol,al,hcl⟩:=(hEl.up hS.Ch) x.toNat _ (Kn oQ)
   cases al
   obtain⟨Bd,od,ad_,hcd⟩:=(Cg (hS.own 1 rfl) (fun _=>rfl)) x.toNat _ (Kn (by rw[hQ.d];omega))
   cases ad_
   refine Aa (I rfl (I rfl ?_))
   refine U (.fa (PEv.eql (.t rfl) (.t rfl)) (bx oQ)) ?_
   refine Ah ?_
   refine CW.f rfl ?_
   refine Aj (Ab (Ak ?_))
   cases hq11:Ig E x.toNat with
   |true=>
    refine Aa (I rfl (I rfl ?_))
    refine U (.tr (PEv.gtr (.t rfl) (.t rfl)) (bj oQ)) ?_
    refine I rfl ?_
    refine Ar ?_
    refine I rfl ?_
    refine Ar ?_
    refine U (.Dr (v':=vi (x.toNat:Int)) (PEv.mv rfl) (bh vi oQ)) ?_
    refine Ar ?_
    refine U (.Ao lw l9 (j:=x.toNat) (.t rfl) (.t rfl) oQ rfl) ?_
    refine Ar ?_
    refine U (.tr (PEv.lb rfl (hcl.nth (j:=0) rfl)) (hq11)) ?_
    refine U (.pa rfl (fun hp=>wQ)) ?_
    refine I rfl ?_
    refine Ar ?_
    refine I rfl ?_
    refine Ar ?_
    refine U (.Dr (v':=vi (x.toNat:Int)) (PEv.mv rfl) (bh vi oQ)) ?_
    refine Ar ?_
    refine U (.Ao lw l9 (j:=x.toNat) (.t rfl) (.t rfl) oQ rfl) ?_
    refine Ar ?_
    refine U (.lb rfl (hcd.nth (j:=0) rfl)) ?_
    refine Ar ?_
    refine U (.n1 rfl) ?_
    refine U (.pa rfl (fun hp=>wQ)) ?_
    refine Ah ?_
    refine CW.b rfl (fun h62=>?_) (fun h62=>?_)
    ·replace h62:=dQ h62
     refine Ak ?_
     have hDx:Ig D2 x.toNat=false:=by simpa using h62
     have hD0:D2[x.toNat]?=some false:=by rw[Kn (by rw[hQ.d];omega),hDx]
     refine Aa (I rfl ?_)
     refine U (.Dr (v':=vi (x.toNat:Int)) (PEv.mv rfl) (bh vi oQ)) ?_
     refine U (.Ao lw l9 (j:=x.toNat) (.t rfl) (.t rfl) oQ rfl) ?_
     refine Ce (.Ir (enc:=K3) (k:=1) (z:=true) (i:=x.toNat) (j:=0) l9 (fun _=>rfl) rfl (.t rfl) (.const _) (hS.own 1 rfl) hD0 cQ rfl) ?_
     intro w8 Gw8
     have zw8:=Gw8.fr.size
     replace hS:=hS.Ft 1 rfl Gw8
     change Wx.Sep _ _ _ [_,_,_,_,_]at hS
     refine Ah (Aa (I rfl (I rfl ?_)))
     refine A3 (eC (.o rfl) (mT)) rfl (I0 hd.ad hd.cp hd.l _ (Cg (show OwnS _ 0 3 1 A4 (.slice hd.ad hd.l.length hd.cp) hd.l from hS.own 3 rfl) (fun _=>rfl)) oQ) ?_
     rintro v68 w9 ⟨hO68,uw9⟩
     have zw9:=uw9.size
     replace hS:=hS.add uw9 (A':=Aw 3 1 A4 v68 hd.l) (hO68.mono (a_ _)) (fun i h=>hO68.base i h)
     change Wx.Sep _ _ _ [_,_,_,_,_,_]at hS
     clear hO68
     refine U (.Dr (v':=vi (x.toNat:Int)) (PEv.mv rfl) (bh vi oQ)) ?_
     refine Ap (.buildSlice (xs:=([(x.toNat:Int)]:List Int)) (enc:=A4) (mk:=vi) ky k6 lf rfl cQ (fun _=>rfl) (fun _=>rfl) (.cu rfl) rfl) rfl ?_
     rintro _ w10 ⟨B70,cB70,rfl,NB70,yB70,xB70⟩
     have eB70:=NB70.at_
     have zB70:=NB70.size
     replace hS:=hS.up NB70.up
     have hE70:=xB70
     refine Ap (.Df (enc:=A4) (bytes:=8) (i:=Tryz.t3) ky kQ rfl rfl rfl rfl cQ (fun _=>rfl) Er (.t rfl) (.t rfl) (hS.own 5 rfl) (Ay hE70) (by simp[maxLen];omega) (by simp;omega)) rfl ?_
     intro v71 w11 Gw11
     have zw11:=Gw11.fr.size
     replace hS:=hS.Ft 5 rfl Gw11
     change Wx.Sep _ _ _ [_,_,_,_,_,_]at hS
     obtain⟨ad71,cp71,rfl,_⟩:=(hS.own 5 rfl).sl (fun _=>rfl)
     refine Ap (.buildSlice (xs:=([⟨ad71,hd.l++[(x.toNat:Int)],cp71⟩]:List IL)) (enc:=IL.cells) (mk:=IL.val) me mr zeroValue23 rfl cQ (fun _=>rfl) (fun _=>rfl) (.cu rfl) rfl) rfl ?_
     rintro _ w12 ⟨B72,cB72,rfl,NB72,yB72,xB72⟩
     have eB72:=NB72.at_
     have zB72:=NB72.size
     replace hS:=hS.up NB72.up
     have hE72:=xB72
     refine Ap (.uG (i:=Tryz.t23) me kQ rfl rfl cQ rfl rfl (.t rfl) (.t rfl) (hS.get 2 rfl) (hE72 0 _ rfl) (by rw[ef];have:=hQ.l;omega)) rfl ?_
     rintro v73 w13 ⟨B73,Gw13⟩
     have zw13:=Gw13.fr.size
     replace hS:=hS.Ft 2 rfl Gw13
     change Wx.Sep _ _ _ [_,_,_,_,_,_]at hS
     change Wx.Sep _ _ _ [_,_,_,_,_,gV 3 (⟨ad71,hd.l++[(x.toNat:Int)],cp71⟩:IL)]at hS
     replace hS:=Sep.unfold (Bs:=[_,_,_,_]) (As:=Q2.map (gV 3)) (rest:=[_]) hS
     replace hS:=La (Bs:=[_,_,_,_]) (As:=Q2.map (gV 3)++[gV 3 (⟨ad71,hd.l++[(x.toNat:Int)],cp71⟩:IL)]) (rest:=[]) (by simpa only[c_,dq]using hS)
     rw[show Q2.map (gV 3)++[gV 3 (⟨ad71,hd.l++[(x.toNat:Int)],cp71⟩:IL)]=(Q2++[(⟨ad71,hd.l++[(x.toNat:Int)],cp71⟩:IL)]).map (gV 3)by rw[cm];rfl]at hS
     have hm2:=uI (s:=(⟨ad71,hd.l++[(x.toNat:Int)],cp71⟩:IL)) (by rw[hQ.d];omega) hDx hm
     have hQ2:=hQ.add (x:=x.toNat) hh oQ hDx oQ ad71 cp71
     have hh2:hd.l.length+U4 (D2.set x.toNat true)≤L.length+1:=by have:=L6 (by rw[hQ.d];omega) hDx;omega
     change Wx.Sep _ _ _ [_,_,_,_,_]at hS
     refine LW.A rfl (LW.nil (Al (Ab (Aa ?_))))
     refine U (.ic rfl oQ) ?_
     refine I rfl (LW.nil (Av ?_))
     first|exact⟨(k+1,Q2++[⟨ad71,hd.l++[(x.toNat:Int)],cp71⟩],B73,v73,D2.set x.toNat true),⟨by show k+1≤_;omega,hQ2,hm2,hh2,by first|exact hS|(show Wx.Sep _ _ _ [_,_,aPart _ _ _ ((Q2++[_]).map IL.val),_,_];rw[cm];exact hS)⟩,tQ,by show sk.nx.length-(k+1)<sk.nx.length-k;omega⟩|exact⟨(k+1,Q2,B2,v2,D2),⟨by show k+1≤_;omega,hQ,hm,hh,by first|exact hS|(show Wx.Sep _ _ _ [_,_,aPart _ _ _ ((Q2++[_]).map IL.val),_,_];rw[cm];exact hS)⟩,tQ,by show sk.nx.length-(k+1)<sk.nx.length-k;omega⟩
    replace h62:=dQ h62
    refine Aj (Al (Ab (Aa ?_)))
    refine U (.ic rfl oQ) ?_
    refine I rfl (LW.nil (Av ?_))
    first|exact⟨(k+1,Q2++[⟨ad71,hd.l++[(x.toNat:Int)],cp71⟩],B73,v73,D2.set x.toNat true),⟨by show k+1≤_;omega,hQ2,hm2,hh2,by first|exact hS|(show Wx.Sep _ _ _ [_,_,aPart _ _ _ ((Q2++[_]).map IL.val),_,_];rw[cm];exact hS)⟩,tQ,by show sk.nx.length-(k+1)<sk.nx.length-k;omega⟩|exact⟨(k+1,Q2,B2,v2,D2),⟨by show k+1≤_;omega,hQ,hm,hh,by first|exact hS|(show Wx.Sep _ _ _ [_,_,aPart _ _ _ ((Q2++[_]).map IL.val),_,_];rw[cm];exact hS)⟩,tQ,by show sk.nx.length-(k+1)<sk.nx.length-k;omega⟩
   |false=>
    refine Aa (I rfl (I rfl ?_))
    refine U (.tr (PEv.gtr (.t rfl) (.t rfl)) (bj oQ)) ?_
    refine I rfl ?_
    refine Ar ?_
    refine I rfl ?_
    refine Ar ?_
    refine U (.Dr (v':=vi (x.toNat:Int)) (PEv.mv rfl) (bh vi oQ)) ?_
    refine Ar ?_
    refine U (.Ao lw l9 (j:=x.toNat) (.t rfl) (.t rfl) oQ rfl) ?_
    refine Ar ?_
    refine U (.fa (PEv.lb rfl (hcl.nth (j:=0) rfl)) (hq11)) ?_
    refine U (.pa rfl (fun hp=>wQ)) ?_
    refine I rfl ?_
    refine Bi ?_
    refine Bi ?_
    refine Bi ?_
    refine Bi ?_
    refine Bi ?_
    refine U (.C6 (b:=false) (.t rfl) (fun hp=>absurd (show false=true from hp) cQ)) ?_
    refine Ah ?_
    refine CW.f rfl ?_
    refine Aj (Al (Ab (Aa ?_)))
    refine U (.ic rfl oQ) ?_
    refine I rfl (LW.nil (Av ?_))
    first|exact⟨(k+1,Q2++[⟨ad71,hd.l++[(x.toNat:Int)],cp71⟩],B73,v73,D2.set x.toNat true),⟨by show k+1≤_;omega,hQ2,hm2,hh2,by first|exact hS|(show Wx.Sep _ _ _ [_,_,aPart _ _ _ ((Q2++[_]).map IL.val),_,_];rw[cm];exact hS)⟩,tQ,by show sk.nx.length-(k+1)<sk.nx.length-k;omega⟩|exact⟨(k+1,Q2,B2,v2,D2),⟨by show k+1≤_;omega,hQ,hm,hh,by first|exact hS|(show Wx.Sep _ _ _ [_,_,aPart _ _ _ ((Q2++[_]).map IL.val),_,_];rw[cm];exact hS)⟩,tQ,by show sk.nx.length-(k+1)<sk.nx.length-k;omega⟩
  replace h40:=dQ h40
  refine A9 (Ac (Ac (Aq (Al (Av ?_)))))
  exact⟨(Q2,B2,v2,D2),⟨hQ,hS.sub (.cons_cons _ (.cons_cons _ (.cons_cons _ (.cons _ (List.Sublist.refl _)))))⟩,tQ,hm⟩
 replace h21:=dQ h21
 refine A9 (Ac (Ac (Aq (Ab (Ae (Az (Ah (Am ?_))))))))
 refine KW.q ?_
 exact⟨rfl,hS.Ch⟩
theorem uL(sa wa:Option Addr)(sc wc:Nat)(s0 s1 s2:Sk)(w:World)(hF:FlE w sa wa s0 s1 s2):Ret prog 98 #[.agg (Mq sa sc wa wc),vi 0,vi 2] w fun r w'=>∃ad c,r=.tuple #[.slice ad 1 c,.bool true]∧Els w' ad 1 A4 [1]∧Up w w':=by
 obtain⟨w0,rfl,hS⟩:=W0 w
 refine cT 28 func98 rfl (Ae (Ap (.bA rfl) rfl ?_))
 rintro _ w1 ⟨B3,rfl,NB3⟩
 replace hS:=hS.Cf NB3
 refine Az (Az (An (Ae (U (.lc rfl (hS.b0.agg)) (I rfl (I rfl (Ap (.buildSlice (xs:=([0,2]:List Int)) (enc:=A4) (mk:=vi) ky k6 lf rfl cQ (fun _=>rfl) (fun _=>rfl) (.ct rfl (.cu rfl)) rfl) rfl ?_)))))))
 rintro _ w2 ⟨B12,cB12,rfl,NB12,yB12,xB12⟩
 replace hS:=hS.up NB12.up
 have hE12:=xB12
 refine A3 (eC (.u rfl rfl) (mY)) rfl (U0 sa wa sc wc s0 s1 s2 _ (hF.up hS.Ch) _ _ ([0,2]:List Int) hE12 cQ cQ) ?_
 rintro _ w3 ⟨rfl,uw3⟩
 replace hS:=hS.up uw3
 replace hE12:=hE12.up uw3
 refine U (.n1 rfl) (Ah (CW.f rfl (Aj (Ab (Ae (U (.lc rfl (hS.b0.agg)) (I rfl (A3 (eC (.u rfl rfl) (vY)) rfl (Yn sa wa sc wc s0 s1 s2 _ (hF.up hS.Ch)) ?_))))))))
 rintro _ w4 ⟨go,b1,b2,a,c,rfl,hEo,hBl,hEa,uw4⟩
 replace hS:=hS.up uw4
 replace hE12:=hE12.up uw4
 obtain⟨Bo,oo,ao,hco⟩:=hEo 2 (some b2) rfl
 cases ao
 refine I rfl (U (.Ao (j:=2) mf m9 (.t rfl) (.t rfl) cQ rfl) (U (.lb rfl (AggAt.nth (j:=0) hco rfl)) (LW.A rfl (An (Ae (I rfl (U (.fa (PEv.Kd nb (.t rfl)) (rfl)) (Ah (CW.f rfl (Aj (Ab (Ae (I rfl (U (.nc rfl) (U (.fB 1 rfl) (U (.lb rfl (hBl.Ad rfl)) (A3 (eC (.o rfl) (mT)) rfl (I0 a c [1] _ hEa cQ) ?_)))))))))))))))))
 rintro v27 w5 ⟨hO27,uw5⟩
 replace hS:=hS.up uw5
 replace hE12:=hE12.up uw5
 obtain⟨ad,cp,rfl,hE27⟩:=hO27.sl (fun _=>rfl)
 refine LW.A rfl (Az (Ah (Am (F9 rfl rfl rfl ⟨_,rfl,?_⟩))))
 exact⟨_,_,rfl,hE27,hS.Ch⟩
theorem Xc(sa wa:Option Addr)(sc wc:Nat)(s0 s1 s2:Sk)(w:World)(hF:FlE w sa wa s0 s1 s2):Ret prog 99 #[.agg (Mq sa sc wa wc),vi 0,vi 2] w fun r w'=>r=.tuple #[vi 14,.bool true]∧Up w w':=by
 obtain⟨w0,rfl,hS⟩:=W0 w
 refine cT 27 func99 rfl (Ae (Ap (.bA rfl) rfl ?_))
 rintro _ w1 ⟨B3,rfl,NB3⟩
 replace hS:=hS.Cf NB3
 refine Az (Az (An (Ae (U (.lc rfl (hS.b0.agg)) (I rfl (I rfl (Ap (.buildSlice (xs:=([0,2]:List Int)) (enc:=A4) (mk:=vi) ky k6 lf rfl cQ (fun _=>rfl) (fun _=>rfl) (.ct rfl (.cu rfl)) rfl) rfl ?_)))))))
 rintro _ w2 ⟨B12,cB12,rfl,NB12,yB12,xB12⟩
 replace hS:=hS.up NB12.up
 have hE12:=xB12
 refine A3 (eC (.u rfl rfl) (mY)) rfl (U0 sa wa sc wc s0 s1 s2 _ (hF.up hS.Ch) _ _ ([0,2]:List Int) hE12 cQ cQ) ?_
 rintro _ w3 ⟨rfl,uw3⟩
 replace hS:=hS.up uw3
 replace hE12:=hE12.up uw3
 refine U (.n1 rfl) (Ah (CW.f rfl (Aj (Ab (Ae (U (.lc rfl (hS.b0.agg)) (I rfl (A3 (eC (.u rfl rfl) (vY)) rfl (Yn sa wa sc wc s0 s1 s2 _ (hF.up hS.Ch)) ?_))))))))
 rintro _ w4 ⟨go,b1,b2,a,c,rfl,hEo,hBl,hEa,uw4⟩
 replace hS:=hS.up uw4
 replace hE12:=hE12.up uw4
 obtain⟨Bo,oo,ao,hco⟩:=hEo 2 (some b2) rfl
 cases ao
 refine I rfl (U (.Ao (j:=2) mf m9 (.t rfl) (.t rfl) cQ rfl) (U (.lb rfl (AggAt.nth (j:=0) hco rfl)) (LW.A rfl (An (Ae (I rfl (U (.fa (PEv.Kd nb (.t rfl)) (rfl)) (Ah (CW.f rfl (Aj (Ab (Ae (I rfl (U (.nc rfl) (U (.fB 0 rfl) (U (.lb rfl (hBl.Ad rfl)) (LW.A rfl (Az (Ah (Am (F9 rfl rfl rfl ⟨_,rfl,?_⟩)))))))))))))))))))))
 exact⟨rfl,hS.Ch⟩
theorem Z0(sa wa:Option Addr)(sc wc:Nat)(s0 s1 s2:Sk)(w:World)(hF:FlE w sa wa s0 s1 s2):Ret prog 34 #[.agg (Mq sa sc wa wc),.agg mK.cells] w fun r w'=>∃ad cp,r=.tuple #[.agg (Jm 3 (.slice ad 3 cp)),.bool true]∧OwnS w' w.heap.size 3 1 A4 (.slice ad 3 cp) [0,1,2]∧Up w w':=by
 obtain⟨w0,rfl,hS⟩:=W0 w
 refine cT 51 func34 rfl (Ae (Ap (.bA rfl) rfl ?_))
 rintro _ w1 ⟨B2,rfl,NB2⟩
 replace hS:=hS.Cf NB2
 refine Ap (.bA rfl) rfl ?_
 rintro _ w2 ⟨B3,rfl,NB3⟩
 replace hS:=hS.Cf NB3
 refine Ap (.Cb ng) rfl ?_
 rintro _ w3 ⟨B4,rfl,NB4⟩
 replace hS:=hS.Cf NB4
 refine Az (An (Aa (U (.lc rfl (hS.b0.agg)) (U (.fB 0 rfl) (U (.lb rfl (hS.b1.Ad rfl)) (U (.fB 1 rfl) (U (.lb rfl (hS.b1.Ad rfl)) (A3 (eC (.ct rfl (.ct rfl (.cu rfl))) (IM)) rfl (uL sa wa sc wc s0 s1 s2 _ (hF.up hS.Ch)) ?_))))))))
 rintro _ w4 ⟨ad16,cp16,rfl,hE16,uw4⟩
 replace hS:=hS.up uw4
 refine I rfl (U (.xt rfl rfl) (U (.xt rfl rfl) (LW.A rfl (LW.A rfl (An (Ae (I rfl (U (.fa (PEv.n1 rfl) (rfl)) (Ah (CW.f rfl (Aj (Ab (Ak (Ae (U (.lc rfl (hS.b0.agg)) (U (.fB 0 rfl) (U (.lb rfl (hS.b1.Ad rfl)) (U (.fB 1 rfl) (U (.lb rfl (hS.b1.Ad rfl)) (A3 (eC (.ct rfl (.ct rfl (.cu rfl))) (IN)) rfl (Xc sa wa sc wc s0 s1 s2 _ (hF.up hS.Ch)) ?_))))))))))))))))))))
 rintro _ w5 ⟨rfl,uw5⟩
 replace hS:=hS.up uw5
 replace hE16:=hE16.up uw5
 refine I rfl (U (.xt rfl rfl) (U (.xt rfl rfl) (LW.A rfl (LW.A rfl (An (Aa (U (.fB 2 rfl) (U (.lb rfl (hS.b1.Ad rfl)) (I rfl (U (.tr (PEv.l2 rfl rfl) (rfl)) (Ah (CW.v rfl (Ae (U (.fB 0 rfl) (U (.lb rfl (hS.b1.Ad rfl)) (Ap (.buildSlice (xs:=([0]:List Int)) (enc:=A4) (mk:=vi) ky k6 lf rfl cQ (fun _=>rfl) (fun _=>rfl) (.cu rfl) rfl) rfl ?_))))))))))))))))
 rintro _ w6 ⟨B42,cB42,rfl,NB42,yB42,xB42⟩
 replace hS:=hS.up NB42.up
 replace hE16:=hE16.up NB42.up
 have hE42:=xB42
 refine I rfl (U (.fB 1 rfl) (U (.lb rfl (hS.b1.Ad rfl)) (Ap (.buildSlice (xs:=([2]:List Int)) (enc:=A4) (mk:=vi) ky k6 lf rfl cQ (fun _=>rfl) (fun _=>rfl) (.cu rfl) rfl) rfl ?_)))
 rintro _ w7 ⟨B46,cB46,rfl,NB46,yB46,xB46⟩
 replace hS:=hS.up NB46.up
 replace hE16:=hE16.up NB46.up
 replace hE42:=hE42.up NB46.up
 have hE46:=xB46
 refine Ap (.buildSlice (xs:=([⟨some ⟨B42,0,none⟩,[0],1⟩,⟨ad16,[1],cp16⟩,⟨some ⟨B46,0,none⟩,[2],1⟩]:List IL)) (enc:=IL.cells) (mk:=fun s=>.slice s.ad s.l.length s.cp) me mr zeroValue23 rfl cQ (fun _=>rfl) (fun _=>rfl) (.ct rfl (.ct rfl (.cu rfl))) rfl) rfl ?_
 rintro _ w8 ⟨B47,cB47,rfl,NB47,yB47,xB47⟩
 replace hS:=hS.up NB47.up
 replace hE16:=hE16.up NB47.up
 replace hE42:=hE42.up NB47.up
 replace hE46:=hE46.up NB47.up
 have hE47:=xB47
 refine A3 (eC (.o rfl) (BG)) rfl (Zy _ _ ([⟨some ⟨B42,0,none⟩,[0],1⟩,⟨ad16,[1],cp16⟩,⟨some ⟨B46,0,none⟩,[2],1⟩]:List IL) _ hE47 rfl (fun s hs=>by simp only[bm,da,dw]at hs;rcases hs with rfl|rfl|rfl<;>first|exact⟨rfl,hE42⟩|exact⟨rfl,hE16⟩|exact⟨rfl,hE46⟩)) ?_
 rintro v48 w9 ⟨hO48,uw9⟩
 replace hE16:=hE16.up uw9
 replace hE42:=hE42.up uw9
 replace hE46:=hE46.up uw9
 replace hE47:=hE47.up uw9
 replace hS:=hS.add uw9 (A':=Aw 3 1 A4 v48 [0,1,2]) (hO48.mono (a_ _)) (fun i h=>hO48.base i h)
 obtain⟨ad48,cp48,rfl,_⟩:=(hS.own 3 rfl).sl (fun _=>rfl)
 refine U (.build (cs:=(Jm 3 (.slice ad48 3 cp48))) underlying53 ng Mo (.cons (.const _) (.cu rfl)) rfl) (Ce (.Cc ni rfl (.t rfl) (.t rfl) (by simp[Jm,Value.oneCell']) hS.b2 rfl) ?_)
 intro w10 Nw10
 replace hS:=hS.Ec 2 rfl Nw10
 skip
 skip
 skip
 skip
 refine Az (Ah (Am (Au (Zz rfl rfl rfl isAgg53 ni rfl hS.b2.agg ⟨_,rfl,?_⟩))))
 exact⟨_,_,rfl,(hS.own 3 rfl).Gn (fun i h=>(hS.foot 3 rfl i h).resolve_left (fun h=>h)),hS.Ch⟩
theorem dY(sa wa:Option Addr)(sc wc:Nat)(s0 s1 s2:Sk)(w:World)(hF:FlE w sa wa s0 s1 s2):Ret prog 14 #[.agg (Mq sa sc wa wc)] w fun r w'=>∃ad cp,r=.agg (Jm 3 (.slice ad 3 cp))∧Els w' ad 1 A4 [0,1,2]∧Up w w':=by
 obtain⟨w0,rfl,hS⟩:=W0 w
 refine cT 28 func14 rfl (Ae (Ap (.bA rfl) rfl ?_))
 rintro _ w1 ⟨B1,rfl,NB1⟩
 replace hS:=hS.Cf NB1
 refine Ap (.Cb ng) rfl ?_
 rintro _ w2 ⟨B2,rfl,NB2⟩
 replace hS:=hS.Cf NB2
 refine An (Ae (U (.lc rfl (hS.b0.agg)) (A3 (eC (.o rfl) (xL)) rfl (cF sa wa sc wc s0 s1 s2 _ (hF.up hS.Ch)) ?_)))
 rintro _ w3 ⟨rfl,uw3⟩
 replace hS:=hS.up uw3
 refine U (.n1 rfl) (Ah (CW.f rfl (Aj (Ab (Ak (Ae (U (.fB 3 rfl) (U (.lb rfl (hS.b0.Ad rfl)) (U (.Cl ly (.t rfl)) (U (.move (.const _)) (Ah (Ai (A7 (σ:=Nat) (fun s w=>(s=0)∧(Wx.Sep no w0 w [A5 B1 (Mq sa sc wa wc) 29,A5 B2 (Jm 0 (.slice none 0 0)) 53])) (fun s=>[(14,.eq (vi (s:Int)))]) ([(1,.eq _),(2,.eq _),(12,.eq _),(13,.eq _)]) (fun s=>1-s) 0 ?_ tQ ?_)))))))))))))
 ·exact⟨rfl,hS⟩
 rintro k w4 ⟨hk,hS⟩
 subst hk
 refine Ae (U (.tr (PEv.l2 rfl rfl) (rfl)) (An (CW.v rfl (Aj (Ab (Ak (Ai (Ak ?_))))))))
 obtain⟨Bw,ow,aw_,hcw⟩:=hF.W 0 mK rfl
 refine Aa (U (.Ao (j:=0) ly nj (.t rfl) (.t rfl) cQ aw_) (U (.lc rfl ((hcw.up hS.Ch))) (Ap (.Cb nk) rfl ?_)))
 rintro _ w5 ⟨B4,rfl,MB4⟩
 refine Ce (.Cc nj rfl (.t rfl) (.t rfl) (Wn.one _) MB4.blk rfl) ?_
 intro w6 LB4
 have NB4:=MB4.set LB4
 replace hS:=hS.Cf NB4
 refine An (Aa (U (.lc rfl (hS.b0.agg)) (U (.lc rfl (hS.b2.agg)) (A3 (eC (.u rfl rfl) (GZ)) rfl (Z0 sa wa sc wc s0 s1 s2 _ (hF.up hS.Ch)) ?_))))
 rintro _ w7 ⟨ad21,cp21,rfl,hO21,uw7⟩
 replace hS:=hS.add uw7 (A':=Aw 3 1 A4 (.slice ad21 3 cp21) [0,1,2]) (hO21.mono (a_ _)) (fun i h=>hO21.base i h)
 refine I rfl (U (.xt rfl rfl) (U (.xt rfl rfl) (Ap (.Cb ng) rfl ?_)))
 rintro _ w8 ⟨B5,rfl,MB5⟩
 refine Ce (.Cc ni rfl (.t rfl) (.t rfl) (by simp[Jm,Value.oneCell']) MB5.blk rfl) ?_
 intro w9 LB5
 have NB5:=MB5.set LB5
 replace hS:=hS.Cf NB5
 refine LW.A rfl (An (Aa (I rfl (Ah (CW.v rfl (Ae (U (.lc rfl (hS.b4.agg)) (Ce (.Cc ni rfl (.t rfl) (.t rfl) (by simp[Jm,Value.oneCell']) hS.b1 rfl) ?_))))))))
 intro w10 Nw10
 replace hS:=hS.Ec 1 rfl Nw10
 refine Ah (Am (A6 (Au (Au (A6 (Au (Fb rfl rfl isAgg53 ni rfl (hS.b1.agg) ⟨_,rfl,?_⟩)))))))
 exact⟨_,_,rfl,Cg (hS.own 3 rfl) (fun _=>rfl),hS.Ch⟩
theorem Z1(v1 v2:Value)(xs ys:List Int)(w:World)(h1:Sl w v1 1 A4 xs)(h2:Sl w v2 1 A4 ys)(hx0:xs.length≤1000000000)(hy0:ys.length≤1000000000):Ret prog 16 #[v1,v2] w fun r w'=>r=.bool (decide (xs=ys))∧Up w w':=by
 have hW:=Up.refl w
 obtain⟨w0,rfl,_⟩:=W0 w
 obtain⟨ad,cp,rfl,hE1⟩:=h1
 obtain⟨ad',cp',rfl,hE2⟩:=h2
 refine cT 26 func16 rfl (Ae (Az (An (Ae (I rfl (U (.Cl ky (.t rfl)) (I rfl (U (.Cl ky (.t rfl)) (U (.neq (.t rfl) (.t rfl)) (Ah (CW.b rfl (fun h10=>?_) (fun h10=>?_))))))))))))
 ·replace h10:=dQ h10
  have hr:decide (xs=ys)=false:=bx (fun h=>by subst h;simp at h10)
  refine Ae (Az (Ah (Am (Au (KW.q ?_)))))
  exact⟨by rw[hr],hW⟩
 replace h10:=dQ h10
 have hlen:xs.length=ys.length:=Int.ofNat.inj (show Int.ofNat _=Int.ofNat _ from(by simpa using h10:(xs.length:Int)=ys.length))
 refine Aj (Ab (Ak (Ae (Az (Ah (Ai (CW.loop (σ:=Nat) (fun s w=>(s≤xs.length∧xs.take s=ys.take s)∧Els w ad 1 A4 xs∧Els w ad' 1 A4 ys∧Up w0 w) (fun s=>[(0,.eq (.slice ad xs.length cp)),(1,.eq (.slice ad' ys.length cp')),(5,.eq (vi (s:Int)))]) (fun s=>xs.length-s) 0 ?_ ?_ ?_)))))))
 ·exact⟨⟨a_ _,rfl⟩,hE1,hE2,hW⟩
 ·exact tQ
 rintro k w1 ⟨⟨hk,hT⟩,hE1,hE2,hW⟩
 refine Ak (Ae (I rfl (I rfl (U (.Cl ky (.t rfl)) (U (.l2 rfl rfl) (Ah (CW.b rfl (fun h14=>?_) (fun h14=>?_))))))))
 ·replace h14:=dQ h14
  refine Aj (Ab (Ak (Ai (Ak ?_))))
  obtain⟨x,hx⟩:=Af (xs:=xs) (i:=k) oQ
  obtain⟨y,hy⟩:=Af (xs:=ys) (i:=k) oQ
  obtain⟨B,o,had,hcell⟩:=hE1 k x hx
  obtain⟨B',o',had',hcell'⟩:=hE2 k y hy
  refine C0 kQ kQ rfl rfl (J (.mv rfl) (J (.mv rfl) (J (.Ao ky k6 (.t rfl) (.t rfl) oQ had) (J (.lb rfl (hcell.nth (j:=0) rfl)) (J (.mv rfl) (J (.mv rfl) (J (.Ao ky k6 (.t rfl) (.t rfl) oQ had') (J (.lb rfl (hcell'.nth (j:=0) rfl)) (J (.neq (.t rfl) (.t rfl)) (HW.nil ?_))))))))))
  intro w2 uw2
  replace hE1:=hE1.up uw2
  replace hE2:=hE2.up uw2
  replace hW:=hW.up uw2
  refine Ab (CW.b rfl (fun h25=>?_) (fun h25=>?_))
  ·replace h25:=dQ h25
   have hr:decide (xs=ys)=false:=bx (FP hx hy (by simpa using h25))
   refine Ae (Az (Ah (Am (A6 (Au (Au (A6 (Au (KW.q ?_)))))))))
   exact⟨by rw[hr],hW⟩
  replace h25:=dQ h25
  refine Aj (Al (Ab (Aa (I rfl (U (.ic rfl oQ) (LW.A rfl (LW.nil (Av ?_))))))))
  exact⟨k+1,⟨⟨by omega,uK hT hx hy (by simpa using h25)⟩,hE1,hE2,hW⟩,tQ,by omega⟩
 replace h14:=dQ h14
 have hr:decide (xs=ys)=true:=bj (by have:=hT;rw[show k=xs.length by omega,b7,hlen,b7]at this;exact this)
 refine A9 (Ac (Ac (Aq (Ab (Ae (Az (Ah (Am (KW.q ?_)))))))))
 exact⟨by rw[hr],hW⟩
end Go.Proofs.YthcabjphnacjeaaGreatDoor
