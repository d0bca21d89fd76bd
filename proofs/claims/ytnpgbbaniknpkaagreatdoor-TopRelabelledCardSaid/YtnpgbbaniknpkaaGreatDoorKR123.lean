import Derived.Test.YtnpgbbaniknpkaaGreatDoorKR122
namespace Go.Wx
def Ky(L:List Sk)(m i0 t0:Int)(i j:Nat):Fact:={ Io with Kind:=1,ID:=i0+(i:Int),Version:=1,Time:=t0+10*(i:Int),Until:=t0+10*(i:Int)+5,Wafer:=m,Tool:=Ve L j,Step:=(j:Int),Recipe:=Yd L j,Revision:=1 }
def Di(L:List Sk)(m i0 t0:Int)(ss:List Nat):List Fact:=ss.mapIdx fun i j=>Ky L m i0 t0 i j
theorem Pp(l:List Fact)(i:Nat):T9 l i=(l.map Fact.Step).getD i 0:=by
 unfold T9
 rw[cg,cg,ew]
 cases l[i]?<;>rfl
theorem tA{l l':List Fact}(h:l.map Fact.Step=l'.map Fact.Step)(j bk:Int):∀k,Jb l j bk k=Jb l' j bk k
 |0=>rfl
 |k+1=>by rw[Jb,Jb,tA h j bk k,Pp,Pp,h,←Pp,←Pp]
theorem gD{L:List Sk}{l l':List Fact}(h:l.map Fact.Step=l'.map Fact.Step):K1 L l=K1 L l':=by
 have hl:l.length=l'.length:=by simpa using bi List.length h
 have hg:l.getLast?.map Fact.Step=l'.getLast?.map Fact.Step:=by rw[←List.getLast?_map,←List.getLast?_map,h]
 unfold K1
 cases e:l.getLast? with
 |none=>
   cases e':l'.getLast? with
   |none=>rfl
   |some q=>rw[e,e']at hg;cases hg
 |some p=>
   cases e':l'.getLast? with
   |none=>rw[e,e']at hg;cases hg
   |some q=>
     rw[e,e']at hg
     have hs:p.Step=q.Step:=by simpa using hg
     dsimp only
     rw[hs]
     cases L[q.Step.toNat]? with
     |none=>rfl
     |some s=>
       dsimp only
       unfold G1
       rw[tA h,hl]
section
variable {L:List Sk}{m i0 t0:Int}{ss:List Nat}
theorem Ci:(Di L m i0 t0 ss).length=ss.length:=iw
theorem nL(j:Nat):Di L m i0 t0 (ss++[j])=Di L m i0 t0 ss++[Ky L m i0 t0 ss.length j]:=List.mapIdx_concat
theorem Kz(i:Nat):(Di L m i0 t0 ss)[i]?=ss[i]?.map (Ky L m i0 t0 i):=ii
theorem Hq{p:Fact}(h:p∈Di L m i0 t0 ss):∃i j,ss[i]?=some j∧p=Ky L m i0 t0 i j:=by
 obtain⟨i,hi⟩:=et.1 h
 rw[Kz]at hi
 cases e:ss[i]? with
 |none=>rw[e]at hi;cases hi
 |some j=>rw[e]at hi;cases hi;exact⟨i,j,e,rfl⟩
theorem Wu(k:Nat):(Di L m i0 t0 ss).take k=Di L m i0 t0 (ss.take k):=by
 refine cr fun i=>?_
 rw[fp,Kz,Kz,fp]
 split<;>rfl
theorem xB:(Di L m i0 t0 ss).map Fact.Step=(Kt L ss).map Fact.Step:=by
 refine cr fun i=>?_
 rw[ew,ew,Kz,Ub]
 cases ss[i]?<;>rfl
theorem jT:K1 L (Di L m i0 t0 ss)=K1 L (Kt L ss):=gD xB
theorem Yi:(Di L m i0 t0 ss).Pairwise fun x y=>x.ID<y.ID∧x.Time<y.Time:=by
 rw[dw]
 intro i k hi hk hik
 have at_:∀n(hn:n<(Di L m i0 t0 ss).length),∃b,(Di L m i0 t0 ss)[n]=Ky L m i0 t0 n b:=fun n hn=>by
   have h:=cx hn
   rw[Kz]at h
   cases e:ss[n]? with
   |none=>rw[e]at h;cases h
   |some b=>rw[e]at h;exact⟨b,(dc h).symm⟩
 obtain⟨a,ea⟩:=at_ i hi
 obtain⟨b,eb⟩:=at_ k hk
 rw[ea,eb]
 exact⟨by show i0+(i:Int)<i0+(k:Int);omega,by show t0+10*(i:Int)<t0+10*(k:Int);omega⟩
theorem nM{i j:Nat}(hj:ss[i]?=some j):Gy (Di L m i0 t0 ss) (i0+(i:Int))=Di L m i0 t0 (ss.take i):=by
 rw[←Wu]
 refine bX (x:=Ky L m i0 t0 i j) (by rw[Kz,hj];rfl) (bj rfl) fun q hq=>?_
 rw[Wu]at hq
 obtain⟨a,c,ha,rfl⟩:=Hq hq
 have h1:=(am.1 ha).1
 rw[cc]at h1
 exact br (show ¬i0+(a:Int)=i0+(i:Int)by omega)
end
def IsW(L:List Sk)(p:Fact):Prop:=∃(m i0 t0:Int)(i j:Nat),(m=1∨m=2)∧(1≤i0∧i0≤200)∧(0≤t0∧t0≤200)∧i≤10∧j<L.length∧p=Ky L m i0 t0 i j
def Dy(at_:Int)(p:Fact):Fact:=if at_≤p.Time then{ p with Wafer:=3-p.Wafer }else p
def Lj(at_:Int):Fact:={ Io with Kind:=3,Version:=1,Day:=5,ID:=1,Wafer:=1,Other:=2,Time:=at_ }
theorem H8(at_:Int)(p:Fact):(Dy at_ p).ID=p.ID∧(Dy at_ p).Time=p.Time∧(Dy at_ p).Step=p.Step∧(Dy at_ p).Tool=p.Tool∧(Dy at_ p).Chamber=p.Chamber∧(Dy at_ p).Recipe=p.Recipe∧(Dy at_ p).Revision=p.Revision∧(Dy at_ p).Kind=p.Kind∧(Dy at_ p).Day=p.Day:=by
 unfold Dy
 split<;>exact⟨rfl,rfl,rfl,rfl,rfl,rfl,rfl,rfl,rfl⟩
theorem IsW.rel{L:List Sk}{p:Fact}(h:IsW L p)(at_:Int):IsW L (Dy at_ p):=by
 obtain⟨m,i0,t0,i,j,hm,h0,ht,hi,hj,rfl⟩:=h
 unfold Dy
 split
 · exact⟨3-m,i0,t0,i,j,by omega,h0,ht,hi,hj,rfl⟩
 exact⟨m,i0,t0,i,j,hm,h0,ht,hi,hj,rfl⟩
theorem IsW.valid{L:List Sk}(hM:MkS L.length L)(hl:L.length≤8){p:Fact}(h:IsW L p):Ca p=true:=by
 obtain⟨m,i0,t0,i,j,hm,h0,ht,hi,hj,rfl⟩:=h
 obtain⟨s,hs⟩:=Ae (xs:=L) (i:=j) hj
 obtain⟨h1,_,htl,hr⟩:=sT hM hs
 rw[←h1]at hr
 have hv:Nk (G8 (Ky L m i0 t0 i j).Kind) (Ky L m i0 t0 i j)=true:=bj (show t0+10*(i:Int)≤t0+10*(i:Int)+5 by omega)
 have hn:Ih (fieldsOf 1) (Ky L m i0 t0 i j)=some (Jm 1 1 0 false):=by
   rw[show fieldsOf 1=[Co 1,Co 7,⟨11,0,59⟩,⟨12,0,3⟩,⟨13,0,39⟩,Co 14,Co 15,Cp,⟨6,0,1000000⟩,⟨16,-10000000,10000000⟩]from rfl]
   refine(aq (show ¬(i0+(i:Int)<1∨(1000000:Int)<i0+(i:Int))by omega)).trans ?_
   refine(aq (show ¬(m<1∨(1000000:Int)<m)by omega)).trans ?_
   refine(aq (show ¬(Ve L j<0∨(59:Int)<Ve L j)by omega)).trans ?_
   refine(aq (show ¬((0:Int)<0∨(3:Int)<0)by decide)).trans ?_
   refine(aq (show ¬((j:Int)<0∨(39:Int)<j)by omega)).trans ?_
   refine(aq (show ¬(Yd L j<1∨(1000000:Int)<Yd L j)by omega)).trans ?_
   refine(aq (show ¬((1:Int)<1∨(1000000:Int)<1)by decide)).trans ?_
   refine(aq (show ¬(t0+10*(i:Int)<0∨(1000000:Int)<t0+10*(i:Int))by omega)).trans ?_
   refine(aq (show ¬(t0+10*(i:Int)+5<0∨(1000000:Int)<t0+10*(i:Int)+5)by omega)).trans ?_
   refine(aq (show ¬((0:Int)< -10000000∨(10000000:Int)<0)by decide)).trans ?_
   rfl
 unfold Ca
 rw[hv,show(Ky L m i0 t0 i j).Kind=1 from rfl,hn]
 show(true&&(!(false|| !true)&&Ft (Jm 1 1 0 false) (Jm 1 1 0 false)))=true
 rw[O9];rfl
theorem IsW.plain{L:List Sk}{p:Fact}(h:IsW L p):p.Kind=1∧p.Gone=false∧p.Day=0∧(p.Wafer=1∨p.Wafer=2)∧(0≤p.Time∧p.Time≤300)∧(0≤p.Step∧p.Step<L.length):=by
 obtain⟨m,i0,t0,i,j,hm,h0,ht,hi,hj,rfl⟩:=h
 exact⟨rfl,rfl,rfl,hm,⟨by show(0:Int)≤t0+10*(i:Int);omega,by show t0+10*(i:Int)≤300;omega⟩,by show(0:Int)≤j;omega,by show(j:Int)<L.length;omega⟩
theorem nN{at_:Int}(h:0≤at_∧at_<120):Ca (Lj at_)=true:=by
 have hr:Nk (G8 (Lj at_).Kind) (Lj at_)=true:=rfl
 have hp:preB (Lj at_)=false:=rfl
 have hn:Ih (fieldsOf 3) (Lj at_)=some (Jm 3 1 5 false):=by
   rw[show fieldsOf 3=[Co 1,Co 7,Co 8,Cp]from rfl]
   refine(aq (show ¬((1:Int)<1∨(1000000:Int)<1)by decide)).trans ?_
   refine(aq (show ¬((1:Int)<1∨(1000000:Int)<1)by decide)).trans ?_
   refine(aq (show ¬((2:Int)<1∨(1000000:Int)<2)by decide)).trans ?_
   refine(aq (show ¬(at_<0∨(1000000:Int)<at_)by omega)).trans ?_
   rfl
 unfold Ca
 rw[hr,hp,show(Lj at_).Kind=3 from rfl,hn]
 show(true&&(!(false|| !true)&&Ft (Jm 3 1 5 false) (Jm 3 1 5 false)))=true
 rw[O9];rfl
theorem cD{Q:List Fact}(h:Q.Pairwise fun x y=>x.ID<y.ID){p q:Fact}(hp:p∈Q)(hq:q∈Q)(e:p.ID=q.ID):p=q:=by
 obtain⟨i,hi,rfl⟩:=fb.1 hp
 obtain⟨k,hk,rfl⟩:=fb.1 hq
 rcases i5 i k with hl|hl|hl
 · have:=dw.1 h i k hi hk hl;omega
 · subst hl;rfl
 have:=dw.1 h k i hk hi hl;omega
theorem tB{L:List Sk}(hM:MkS L.length L)(hl:L.length≤8){at_:Int}(hat:0≤at_∧at_<120){Q S:List Fact}(hQ:∀p∈Q,IsW L p)(hid:Q.Pairwise fun x y=>x.ID<y.ID)(hS:∀p∈S,p=Lj at_):ExtP (Q++S):=by
 have cs:∀{p:Fact},p∈Q++S→p∈Q∧IsW L p∨p=Lj at_:=fun{p}h=>by
   rcases bt.1 h with h|h
   · exact .inl ⟨h,hQ p h⟩
   exact .inr (hS p h)
 have hv:∀p∈Q++S,Ca p=true:=fun p hp=>by
   rcases cs hp with h|rfl
   · exact h.2.valid hM hl
   exact nN hat
 refine⟨hv,fun p hp=>?_,fun p hp=>?_,fun p hp q hq e=>?_⟩
 · rcases cs hp with h|rfl
   · exact .inl h.2.plain.1
   exact .inr rfl
 · rcases cs hp with h|rfl
   · exact h.2.plain.2.1
   rfl
 have hk:=Kl (hv p hp) (hv q hq) e
 have h1:=hv p hp
 have h2:=hv q hq
 rcases cs hp with h|rfl<;>rcases cs hq with k|rfl
 · exact cD hid h.1 k.1 (KT h1 h2 h.2.plain.1 e)
 · rw[h.2.plain.1]at hk;exact absurd (show(1:Int)=3 from hk) cQ
 · rw[k.2.plain.1]at hk;exact absurd (show(3:Int)=1 from hk) cQ
 rfl
theorem Lk{t k:Int}(hk:k=1∨k=2):Ib [] t k=k:=by rcases hk with rfl|rfl<;>rfl
theorem jU{at_ t k:Int}(hk:k=1∨k=2):Ib [Lj at_] t k=if at_≤t then 3-k else k:=by
 have e3:P8 t (Lj at_)=decide (at_≤t):=by show(Iq 1&&Iq 2&&decide (at_≤t))=_;rfl
 unfold Ib Xv Mi
 by_cases e:at_≤t
 · rw[iy (by rw[e3];exact bj e),bh e]
   rcases hk with rfl|rfl<;>rfl
 rw[gv (by rw[e3,br e];exact ca),aq e]
 rcases hk with rfl|rfl<;>rfl
theorem Yj{L:List Sk}{at_:Int}{p:Fact}(h:IsW L p):Ib [Lj at_] p.Time p.Wafer=(Dy at_ p).Wafer:=by
 rw[jU h.plain.2.2.2.1]
 unfold Dy
 split<;>rfl
theorem tC{at_:Int}{l:List Fact}(hid:l.Pairwise fun x y=>x.ID<y.ID):H9 E7 (l.map (Dy at_))=(H9 E7 l).map (Dy at_):=by
 have hk:∀x,E7 (Dy at_ x)=E7 x:=fun x=>by
   obtain⟨h1,h2,_⟩:=H8 at_ x
   show((Dy at_ x).Time,(Dy at_ x).ID)=_
   rw[h1,h2];rfl
 have hid':(l.map (Dy at_)).Pairwise fun x y=>x.ID<y.ID:=gk.2 (hid.imp fun{x y}h=>by rw[(H8 at_ x).1,(H8 at_ y).1];exact h)
 refine Qm (D8 _).ord (gk.2 ((D8 (key:=E7) l).ord.imp fun{x y}h=>by rw[hk,hk];exact h)) ((D8 _).same.perm.trans ((D8 (key:=E7) l).same.perm.symm.map _)) fun x hx y hy e=>?_
 exact cD hid' (((D8 _).same.mem _).1 hx) (((D8 _).same.mem _).1 hy) (bi Prod.snd e)
theorem tD{L:List Sk}{at_:Int}{W:List Fact}(hW:∀p∈W,IsW L p)(hid:W.Pairwise fun x y=>x.ID<y.ID)(w:Int):Dg (W.map (Dy at_)) [] w=(Dg W [Lj at_] w).map (Dy at_):=by
 unfold Dg
 split
 · unfold Mi
   rw[List.filter_map,show W.filter ((fun f=>decide (Ib [] f.Time f.Wafer=w)) ∘ Dy at_)=W.filter (fun f=>decide (Ib [Lj at_] f.Time f.Wafer=w))from kc fun p hp=>by
     show decide (Ib [] (Dy at_ p).Time (Dy at_ p).Wafer=w)=_
     rw[Lk ((hW p hp).rel at_).plain.2.2.2.1,Yj (hW p hp)]]
   exact tC (hid.sublist List.filter_sublist)
 rfl
theorem Pq{P S:List Fact}{w:Int}{p:Fact}(h:p∈Dg P S w):p∈P:=by
 unfold Dg at h
 split at h
 · unfold Mi at h
   exact(fe.1 (((D8 _).same.mem _).1 h)).1
 cases h
theorem Pr{P S:List Fact}{w:Int}:(Dg P S w).length≤P.length:=by
 unfold Dg
 split
 · exact aN _ _
 exact a8 _
theorem nO{at_:Int}{l:List Fact}{id:Int}:Gy (l.map (Dy at_)) id=(Gy l id).map (Dy at_):=by
 unfold Gy
 rw[List.takeWhile_map]
 congr 1
 refine bi (fun f=>l.takeWhile f) (funext fun q=>?_)
 show(!Rc id (Dy at_ q))=_
 unfold Rc
 rw[(H8 at_ q).1]
theorem step_map{at_:Int}(l:List Fact):(l.map (Dy at_)).map Fact.Step=l.map Fact.Step:=by
 rw[fd]
 exact e8 fun x _=>(H8 at_ x).2.2.1
theorem id_map{at_:Int}(l:List Fact):(l.map (Dy at_)).map Fact.ID=l.map Fact.ID:=by
 rw[fd]
 exact e8 fun x _=>(H8 at_ x).1
theorem Yk{L:List Sk}{b:Base}(hB:FabB (bs (C4 L)) b)(hM:MkS L.length L)(hl:1≤L.length∧L.length≤8)(hP:∀p∈b.Processes,IsW L p)(hw:∀p∈b.Processes,Ib b.Swaps p.Time p.Wafer=1∨Ib b.Swaps p.Time p.Wafer=2):sS b L:=fun p hp=>by
 have hk:=(hP p hp).plain
 have h5:(Lr b p).length≤100000:=bu Pr (hB.le 0 cQ)
 obtain⟨k,hk3,ek⟩:∃k:Nat,(1≤k∧k≤3)∧Ib b.Swaps p.Time p.Wafer=(k:Int):=by
   rcases hw p hp with e|e
   · exact⟨1,by decide,e⟩
   exact⟨2,by decide,e⟩
 have hlo:Hr b.Lots (Og b p).Wafer (Og b p).Time=(((1+k/3:Nat):Int),1):=by
   show Hr b.Lots (Ib b.Swaps p.Time p.Wafer) p.Time=_
   rw[ek]
   exact hB.mX hk3 hk.2.2.2.2.1.1
 refine⟨⟨by rw[hlo];exact(by decide:(1:Int)≠0),⟨Vc (bs (C4 L)),by rw[hlo];unfold Wo;rw[hB.fl];rfl,rfl⟩,hB.le 3 cQ,hB.le 4 cQ,hB.le 5 cQ,hB.le 6 cQ,hB.le 7 cQ,hM.HN hl,hM.rX hl,hk.2.2.2.2.2,fun q hq=>?_,bu (jv _).length_le h5⟩,h5⟩
 exact(hP q (Pq ((jv _).subset hq))).plain.2.2.2.2.2
def gE(w:Nat):GAct:=⟨(w:Int),0,0,0,0,0,500⟩
theorem cE{L:List Sk}{b:Base}(hB:FabB (bs (C4 L)) b)(hM:MkS L.length L)(hl:1≤L.length∧L.length≤8)(hP:∀p∈b.Processes,IsW L p){w:Nat}(hw:1≤w∧w≤3):WhyH b (gE w) L (Dg b.Processes b.Swaps (w:Int)):=by
 have hlo:Hr b.Lots (gE w).Wafer (gE w).Time=(((1+w/3:Nat):Int),1):=hB.mX hw (show(0:Int)≤500 by decide)
 exact⟨by rw[hlo];exact(by decide:(1:Int)≠0),⟨Vc (bs (C4 L)),by rw[hlo];unfold Wo;rw[hB.fl];rfl,rfl⟩,hB.le 3 cQ,hB.le 4 cQ,hB.le 5 cQ,hB.le 6 cQ,hB.le 7 cQ,hM.HN hl,hM.rX hl,⟨(show(0:Int)≤0 by decide),(show(0:Int)<L.length by omega)⟩,
   fun q hq=>(hP q (Pq hq)).plain.2.2.2.2.2,bu Pr (hB.le 0 cQ)⟩
theorem nP{L:List Sk}{a b:Base}{x:GAct}{l m:List Fact}(hq:b.Qualified=a.Qualified)(ha:a.Holds=[])(hb:b.Holds=[])(h:m.map Fact.Step=l.map Fact.Step):bS b x L m=bS a x L l:=by
 unfold bS
 rw[gD h,Of x ha,Of x hb]
 unfold Fo
 rw[hq]
def C1(L:List Sk)(sa sb:List Nat):List Fact:=Di L 1 1 0 sa++Di L 2 101 3 sb
structure RelX(L:List Sk)(at_:Int)(a b e:Base):Prop where
 da:∀w:Nat,1≤w→w≤3→(Dg b.Processes b.Swaps (w:Int)).map Fact.Step=(Dg a.Processes a.Swaps (w:Int)).map Fact.Step∧(Dg b.Processes b.Swaps (w:Int)).map Fact.ID=(Dg a.Processes a.Swaps (w:Int)).map Fact.ID
 nx:∀w:Nat,1≤w→w≤3→K1 L (Dg b.Processes b.Swaps (w:Int))=K1 L (Dg a.Processes a.Swaps (w:Int))
 ta:∀(w:Int),∀x∈Dg a.Processes a.Swaps w,x.Time≤500
 tb:∀(w:Int),∀x∈Dg b.Processes b.Swaps w,x.Time≤500
 la:∀(w:Int),(Dg a.Processes a.Swaps w).length≤100000
 lb:∀(w:Int),(Dg b.Processes b.Swaps w).length≤100000
 wa:∀w:Nat,1≤w→w≤3→WhyH a (gE w) L (Dg a.Processes a.Swaps (w:Int))
 wb:∀w:Nat,1≤w→w≤3→WhyH b (gE w) L (Dg b.Processes b.Swaps (w:Int))
 ha:sS a L
 hb:sS b L
 he:sS e L
 ab:Ii b L b.Processes=Ii a L a.Processes
 ae:Ii e L e.Processes=[]
 ia:a.Processes.Pairwise fun x y=>x.ID<y.ID
 ib:b.Processes.Pairwise fun x y=>x.ID<y.ID
 ie:e.Processes.Pairwise fun x y=>x.ID<y.ID
 pa:a.Processes.length≤100000∧a.Swaps.length≤100000
 pb:b.Processes.length≤100000∧b.Swaps.length≤100000
 pe:e.Processes.length≤100000∧e.Swaps.length≤100000
 who:Ib a.Swaps at_ 1=2
theorem jV{L:List Sk}{sa sb:List Nat}(ha:∀j∈sa,j<L.length)(hb:∀j∈sb,j<L.length)(la:sa.length≤8)(lb:sb.length≤8):∀p∈C1 L sa sb,IsW L p:=fun p hp=>by
 rcases bt.1 hp with h|h
 · obtain⟨i,j,hj,rfl⟩:=Hq h
   have:=(am.1 hj).1
   exact⟨1,1,0,i,j,.inl rfl,by decide,by decide,by omega,ha j (ai hj),rfl⟩
 obtain⟨i,j,hj,rfl⟩:=Hq h
 have:=(am.1 hj).1
 exact⟨2,101,3,i,j,.inr rfl,by decide,by decide,by omega,hb j (ai hj),rfl⟩
theorem xC{L:List Sk}{sa sb:List Nat}(la:sa.length≤8):(C1 L sa sb).Pairwise fun x y=>x.ID<y.ID:=by
 refine cj.2 ⟨Yi.imp fun h=>h.1,Yi.imp fun h=>h.1,fun x hx y hy=>?_⟩
 obtain⟨i,j,hj,rfl⟩:=Hq hx
 obtain⟨i',j',hj',rfl⟩:=Hq hy
 have:=(am.1 hj).1
 show(1:Int)+(i:Int)<101+(i':Int)
 omega
theorem gF{L:List Sk}{sa sb:List Nat}:Dg (C1 L sa sb) [] 1=Di L 1 1 0 sa∧Dg (C1 L sa sb) [] 2=Di L 2 101 3 sb:=by
 have f1:∀(m i0 t0 w:Int)(ss:List Nat),(m=1∨m=2)→(Di L m i0 t0 ss).filter (fun f=>decide (Ib [] f.Time f.Wafer=w))=if m=w then Di L m i0 t0 ss else[]:=fun m i0 t0 w ss hm=>by
   by_cases e:m=w
   · rw[bh e]
     refine ir.2 fun p hp=>?_
     obtain⟨i,j,hj,rfl⟩:=Hq hp
     rw[show(Ky L m i0 t0 i j).Wafer=m from rfl,Lk hm]
     exact bj e
   rw[aq e]
   refine ft.2 fun p hp=>?_
   obtain⟨i,j,hj,rfl⟩:=Hq hp
   rw[show(Ky L m i0 t0 i j).Wafer=m from rfl,Lk hm,br e]
   exact ca
 have f2:∀(m i0 t0:Int)(ss:List Nat),H9 E7 (Di L m i0 t0 ss)=Di L m i0 t0 ss:=fun m i0 t0 ss=>by
   refine((StS.refl (key:=E7) (Yi.imp fun{x y}hxy=>?_)).eq).symm
   rw[Jz]
   show ¬(y.Time<x.Time∨(y.Time=x.Time∧y.ID<x.ID))
   omega
 unfold Dg C1 Mi
 constructor
 · rw[bh cQ,cz,f1 _ _ _ _ _ (.inl rfl),f1 _ _ _ _ _ (.inr rfl),bh rfl,aq cQ,dk]
   exact f2 _ _ _ _
 rw[bh cQ,cz,f1 _ _ _ _ _ (.inl rfl),f1 _ _ _ _ _ (.inr rfl),aq cQ,bh rfl,du]
 exact f2 _ _ _ _
theorem jW{L:List Sk}{b:Base}(hB:FabB (bs (C4 L)) b)(hM:MkS L.length L)(hs:b.Swaps=[]){m i0 t0:Int}(hm:m=1∨m=2)(ht0:0≤t0∧t0≤200){ss:List Nat}(hw:Wlk L ss)(hl:ss.length≤8)(hh:Dg b.Processes b.Swaps m=Di L m i0 t0 ss){p:Fact}(hp:p∈Di L m i0 t0 ss):Oh b L p=false:=by
 obtain⟨i,j,hj,rfl⟩:=Hq hp
 have hi:=(am.1 hj).1
 obtain⟨hjl,hn⟩:=BQ hw i j hj
 obtain⟨s,hs'⟩:=Ae (xs:=L) (i:=j) hjl
 obtain⟨h1,h2,h3,h4⟩:=sT hM hs'
 have hwh:Ib b.Swaps (Ky L m i0 t0 i j).Time (Ky L m i0 t0 i j).Wafer=m:=by rw[hs];exact Lk hm
 have hhis:Lr b (Ky L m i0 t0 i j)=Di L m i0 t0 ss:=by unfold Lr;rw[hwh,hh]
 unfold Oh
 rw[hhis,show(Ky L m i0 t0 i j).ID=i0+(i:Int)from rfl,nM hj,KV hB (a:=Og b (Ky L m i0 t0 i j)) (s:=s) (show L[((j:Nat):Int).toNat]?=some s from hs') (by rw[jT];exact hn) (ai h2) h1.symm h3 (show 1≤Yd L j∧Yd L j≤5 by rw[h1];exact h4) rfl rfl (show 0≤t0+10*(i:Int)∧t0+10*(i:Int)≤1000000 by omega)]
 decide
theorem xD{L:List Sk}{at_:Int}{sa sb:List Nat}(hM:MkS L.length L)(hl:1≤L.length∧L.length≤8)(hat:0≤at_∧at_<120)(ha:Wlk L sa)(hb:Wlk L sb)(la:sa.length≤8)(lb:sb.length≤8):
   RelX L at_ (Ll (Ee (bs (C4 L))++(C1 L sa sb++[Lj at_])) 5) (Ll (Ee (bs (C4 L))++(C1 L sa sb).map (Dy at_)) 5) (Ll (Ee (bs (C4 L))++(C1 L sa sb++[Lj at_])) 4):=by
 have hT:(bs (C4 L)).size≤8000:=by rw[M4];exact sO (hM.HN hl) hl.2
 have hsa:=(Qn (hM.rX hl) ha).st
 have hsb:=(Qn (hM.rX hl) hb).st
 have hW:=jV hsa hsb la lb
 have hid:=xC (L:=L) (sb:=sb) la
 have hWr:∀p∈(C1 L sa sb).map (Dy at_),IsW L p:=fun p hp=>by
   obtain⟨q,hq,rfl⟩:=bx.1 hp
   exact(hW q hq).rel at_
 have hidr:((C1 L sa sb).map (Dy at_)).Pairwise fun x y=>x.ID<y.ID:=gk.2 (hid.imp fun{x y}h=>by rw[(H8 at_ x).1,(H8 at_ y).1];exact h)
 have hlen:(C1 L sa sb).length≤16:=by unfold C1;rw[ak,Ci,Ci];omega
 have hE:=tB hM hl.2 hat (S:=[Lj at_]) hW hid fun p hp=>bn.1 hp
 have hEr:=tB hM hl.2 hat (S:=[]) hWr hidr fun p hp=>by cases hp
 rw[dk]at hEr
 have Fd:∀d:Int,0≤d→FabB (bs (C4 L)) (Ll (Ee (bs (C4 L))++(C1 L sa sb++[Lj at_])) d):=fun d hd=>jR hT hE hd (by rw[ak];simp;omega)
 have FB:FabB (bs (C4 L)) (Ll (Ee (bs (C4 L))++(C1 L sa sb).map (Dy at_)) 5):=jR hT hEr cQ (by rw[dv];omega)
 have Pd:∀d:Int,0≤d→(Ll (Ee (bs (C4 L))++(C1 L sa sb++[Lj at_])) d).Processes=C1 L sa sb:=fun d hd=>bW hT hE (fun x=>⟨fun hx=>⟨eh _ hx,(hW x hx).plain.1,by rw[(hW x hx).plain.2.2.1];exact hd⟩,fun⟨h1,h2,_⟩=>by
   rcases bt.1 h1 with h|h
   · exact h
   rw[bn.1 h]at h2;exact absurd (show(3:Int)=1 from h2) cQ⟩) hid
 have PB:(Ll (Ee (bs (C4 L))++(C1 L sa sb).map (Dy at_)) 5).Processes=(C1 L sa sb).map (Dy at_):=bW hT hEr (fun x=>⟨fun hx=>⟨hx,(hWr x hx).plain.1,by rw[(hWr x hx).plain.2.2.1];decide⟩,fun h=>h.1⟩) hidr
 have SA:(Ll (Ee (bs (C4 L))++(C1 L sa sb++[Lj at_])) 5).Swaps=[Lj at_]:=by
   refine sJ (Ks _ _ (show 2<11 by decide)) fun y=>(I8 hT hE (j:=2) cQ).trans ⟨fun⟨h1,_,h3⟩=>?_,?_⟩
   · rcases bt.1 h1 with h|h
     · have:=(Gu.1 h).plain;omega
     rcases bt.1 h with h|h
     · have:=(hW y h).plain.1;omega
     exact bn.1 h
   rintro rfl
   exact⟨f4 _ (f4 _ (bn.2 rfl)),jb _,rfl⟩
 have SB:(Ll (Ee (bs (C4 L))++(C1 L sa sb).map (Dy at_)) 5).Swaps=[]:=Wq hT hEr fun p hp h3=>by have:=(hWr p hp).plain.1;omega
 have SE:(Ll (Ee (bs (C4 L))++(C1 L sa sb++[Lj at_])) 4).Swaps=[]:=Wq hT hE fun p hp h3=>by
   rcases bt.1 hp with h|h
   · have:=(hW p h).plain.1;omega
   rw[bn.1 h];exact(by decide:(4:Int)<5)
 have FA:=Fd 5 cQ
 have FE:=Fd 4 cQ
 have PA:=Pd 5 cQ
 have PE:=Pd 4 cQ
 have QQ:(Ll (Ee (bs (C4 L))++(C1 L sa sb).map (Dy at_)) 5).Qualified=(Ll (Ee (bs (C4 L))++(C1 L sa sb++[Lj at_])) 5).Qualified:=sI (j:=5) cQ fun x hx=>by
   replace hx:x.Kind=6:=hx
   rw[bt,bt]
   refine or_congr Iff.rfl ⟨fun h=>?_,fun h=>?_⟩
   · have:=(hWr x h).plain.1;omega
   rcases hE.k x h with h|h<;>omega
 have hH:∀w:Int,Dg (Ll (Ee (bs (C4 L))++(C1 L sa sb).map (Dy at_)) 5).Processes (Ll (Ee (bs (C4 L))++(C1 L sa sb).map (Dy at_)) 5).Swaps w=(Dg (Ll (Ee (bs (C4 L))++(C1 L sa sb++[Lj at_])) 5).Processes (Ll (Ee (bs (C4 L))++(C1 L sa sb++[Lj at_])) 5).Swaps w).map (Dy at_):=fun w=>by
   rw[PA,PB,SA,SB]
   exact tD hW hid w
 generalize hA:Ll (Ee (bs (C4 L))++(C1 L sa sb++[Lj at_])) 5=a at*
 generalize hB:Ll (Ee (bs (C4 L))++(C1 L sa sb).map (Dy at_)) 5=b at*
 generalize hEe:Ll (Ee (bs (C4 L))++(C1 L sa sb++[Lj at_])) 4=e at*
 have bad:∀p∈C1 L sa sb,Oh b L (Dy at_ p)=Oh a L p:=fun p hp=>by
   have hw:Ib b.Swaps (Dy at_ p).Time (Dy at_ p).Wafer=Ib a.Swaps p.Time p.Wafer:=by
     rw[SA,SB,Lk ((hW p hp).rel at_).plain.2.2.2.1,Yj (hW p hp)]
   obtain⟨h1,h2,h3,h4,h5,h6,h7,_⟩:=H8 at_ p
   have hact:Og b (Dy at_ p)=Og a p:=by unfold Og;rw[hw,h2,h3,h4,h5,h6,h7]
   have hhis:Lr b (Dy at_ p)=(Lr a p).map (Dy at_):=by unfold Lr;rw[hw,hH]
   unfold Oh
   rw[hact,hhis,h1,nO,nP QQ FA.ho FB.ho (step_map _)]
 refine⟨fun w _ _=>⟨by rw[hH,step_map],by rw[hH,id_map]⟩,fun w _ _=>by rw[hH];exact gD (step_map _),fun w x hx=>?_,fun w x hx=>?_,fun w=>bu Pr (FA.le 0 cQ),fun w=>bu Pr (FB.le 0 cQ),fun w h1 h3=>cE FA hM hl (by rw[PA];exact hW) ⟨h1,h3⟩,fun w h1 h3=>cE FB hM hl (by rw[PB];exact hWr) ⟨h1,h3⟩,Yk FA hM hl (by rw[PA];exact hW) fun p hp=>?_,Yk FB hM hl (by rw[PB];exact hWr) fun p hp=>?_,Yk FE hM hl (by rw[PE];exact hW) fun p hp=>?_,?_,?_,by rw[PA];exact hid,by rw[PB];exact hidr,by rw[PE];exact hid,⟨FA.le 0 cQ,FA.le 2 cQ⟩,⟨FB.le 0 cQ,FB.le 2 cQ⟩,⟨FE.le 0 cQ,FE.le 2 cQ⟩,?_⟩
 · have h:=Pq hx
   rw[PA]at h
   have:=(hW x h).plain.2.2.2.2.1
   omega
 · have h:=Pq hx
   rw[PB]at h
   have:=(hWr x h).plain.2.2.2.2.1
   omega
 · rw[PA]at hp
   rw[SA,Yj (hW p hp)]
   exact((hW p hp).rel at_).plain.2.2.2.1
 · rw[PB]at hp
   rw[SB,Lk (hWr p hp).plain.2.2.2.1]
   exact(hWr p hp).plain.2.2.2.1
 · rw[PE]at hp
   rw[SE,Lk (hW p hp).plain.2.2.2.1]
   exact(hW p hp).plain.2.2.2.1
 · unfold Ii
   rw[PA,PB,List.filter_map,fd,show(C1 L sa sb).filter (Oh b L ∘ Dy at_)=(C1 L sa sb).filter (Oh a L)from kc bad]
   exact e8 fun x _=>(H8 at_ x).1
 · unfold Ii
   rw[ft.2 fun p hp=>?_]
   · rfl
   rw[PE]at hp
   have h1:=gF (L:=L) (sa:=sa) (sb:=sb)
   rcases bt.1 hp with hp|hp
   · rw[jW FE hM SE (.inl rfl) cQ ha la (by rw[PE,SE];exact h1.1) hp];exact ca
   rw[jW FE hM SE (.inr rfl) cQ hb lb (by rw[PE,SE];exact h1.2) hp];exact ca
 rw[SA,jU (.inl rfl),bh (jb _)]
 rfl
structure Above(B0:Nat)(W W':World):Prop where
 size:W.heap.size≤W'.heap.size
 same:∀i,B0≤i→i<W.heap.size→W'.heap[i]?=W.heap[i]?
theorem Above.refl(B0:Nat)(W:World):Above B0 W W:=⟨bl _,fun _ _ _=>rfl⟩
theorem Above.trans{B0:Nat}{a b c:World}(h:Above B0 a b)(k:Above B0 b c):Above B0 a c:=⟨bu h.size k.size,fun i h1 h2=>(k.same i h1 (fc h2 h.size)).trans (h.same i h1 h2)⟩
theorem Above.up{B0:Nat}{a b:World}(u:Up a b):Above B0 a b:=⟨u.size,fun _ _ hi=>u.block hi⟩
theorem Above.Fs{B0:Nat}{A A':Asr}{a b:World}(h:Stp A A' a b)(hl:∀i,A.foot i→i<B0):Above B0 a b:=⟨h.fr.size,fun i h1 h2=>h.fr.block i h2 fun hf=>by have:=hl i hf;omega⟩
def litP(B0:Nat)(x:Int)(v:Value)(W:World):Prop:=∃B,v=.slice (some ⟨B,0,none⟩) 1 1∧B0≤B∧B<W.heap.size∧Els W (some ⟨B,0,none⟩) 1 A3 [x]
theorem litP.keep{B0:Nat}{x:Int}{v:Value}{W W':World}(h:litP B0 x v W)(k:Above B0 W W'):litP B0 x v W':=by
 obtain⟨B,e,h1,h2,h3⟩:=h
 exact⟨B,e,h1,fc h2 k.size,Pn h3 fun i hi hl=>by
   obtain⟨_,o,eo⟩:=hi
   cases eo
   exact k.same _ h1 hl⟩
theorem litP.sl{B0:Nat}{x:Int}{v:Value}{W:World}(h:litP B0 x v W):Sl W v 1 A3 [x]:=by
 obtain⟨B,e,_,_,h3⟩:=h
 exact⟨_,_,e,h3⟩
theorem litP.new{B0:Nat}{x:Int}{v:Value}{T:TypeId}{W W':World}(h:NewSl W T 1 A3 [x] v W')(hb:B0≤W.heap.size):Up W W'∧litP B0 x v W':=by
 obtain⟨u,B,rfl,eb,ho⟩:=NewSl.own h (fun _=>rfl) cQ (by simp[maxLen])
 have he:=Cf ho (fun _=>rfl)
 obtain⟨B',o,e,hc⟩:=he 0 x rfl
 cases e
 have hl:B<W'.heap.size:=World.block_lt_of_cell? _ _ (hc 0 (vi x) rfl)
 exact⟨u,B,rfl,by omega,hl,he⟩
def allR(Rel:World→World→Prop):List Ph→Prop
 |[]=>True
 |q::r=>(∀v w w',q.holds v w→Rel w w'→q.holds v w')∧allR Rel r
theorem allR.at{Rel:World→World→Prop}:∀{l:List Ph},allR Rel l→∀i v w w',(l.getD i (.eq undef)).holds v w→Rel w w'→(l.getD i (.eq undef)).holds v w'
 |[],_,_,_,_,_,h,_=>by simpa[Ph.holds]using h
 |_::_,h,0,v,w,w',hv,hr=>by simpa using h.1 v w w' (by simpa using hv) hr
 |_::_,h,i+1,v,w,w',hv,hr=>by simpa using allR.at h.2 i v w w' (by simpa using hv) hr
theorem Qq{α β:Type}{f:α→β}{l:List α}{k:Nat}{x:α}(hx:l[k]?=some x):(l.take (k+1)).map f=(l.take k).map f++[f x]:=by
 rw[f8,hx,co];rfl
theorem nQ{w:World}{ad:Option Addr}{l:List Fact}{id:Int}(h:Els w ad 19 Fact.cells l):Els w ad 19 Fact.cells (Gy l id):=fun i x hx=>by
 obtain⟨t,ht⟩:Gy l id<+:l:=jv _
 refine h i x ?_
 rw[←ht,c7 (am.1 hx).1]
 exact hx
theorem jX{l:List Int}{n:Int}(h:∀y∈l,y≠n):decide (n∈l)=false:=br fun hm=>h n hm rfl
def nR(L:List Sk)(m i0 t0:Int)(i j:Nat)(u:Int):Fact:={ Io with Kind:=1,ID:=i0+(i:Int),Version:=1,Time:=t0+10*(i:Int),Until:=t0+10*(i:Int)+u,Wafer:=m,Tool:=Ve L j,Step:=(j:Int),Recipe:=Yd L j,Revision:=1 }
theorem gG{L:List Sk}{m i0 t0:Int}{ss:List Nat}(hst:∀j∈ss,j<L.length):M5 L (Di L m i0 t0 ss):=fun p hp=>by
 obtain⟨i,j,hj,rfl⟩:=Hq hp
 have:=hst j (ai hj)
 exact⟨show(0:Int)≤j by omega,show(j:Int)<L.length by omega⟩
end Go.Wx
namespace Go.Proofs.YtnpgbbaniknpkaaGreatDoor
open Go.Proofs.Tryz
open Go.Wx Go.RowKit
theorem gH(ad:Option Addr)(cp:Nat)(l:List Fact)(w:World)(hE0:Els w ad 19 Fact.cells l)(hl:l.length≤100000):Ret prog 80 #[.slice ad l.length cp] w fun r w'=>OwnS w' w.heap.size 35 19 Fact.cells r l∧Up w w':=by
 obtain⟨w0,rfl,hS⟩:=W0 w
 refine cT 8 func80 rfl ?_
 refine Af (Az (An (Af (I rfl ?_))))
 refine U (.Xg lf (.t rfl)) ?_
 refine Ah ?_
 refine CW.b rfl (fun h4=>?_) (fun h4=>?_)
 ·replace h4:=dQ h4
  have hnil:l=[]:=by cases l with|nil=>rfl|cons x r=>(obtain⟨B,o,e,_⟩:=hE0 0 x rfl;rw[e]at h4;cases h4)
  refine Af (Az (Ah (Am (Ar ?_))))
  refine KW.q ?_
  first|(subst hnil;exact⟨OwnS.nil _ _ _ _ _,hS.Ch⟩)|exact⟨(hS.own 0 rfl).F5 (fun i h=>(hS.foot 0 rfl i h).resolve_left (fun h=>h)),hS.Ch⟩
 replace h4:=dQ h4
 refine Aj (Ac (Af ?_))
 refine Ap (.buildSlice (xs:=([]:List Fact)) (enc:=Fact.cells) (mk:=fun f=>.agg f.cells) lf lh ll rfl cQ (fun _=>rfl) (fun _=>rfl) .nil rfl) rfl ?_
 intro v5 w1 hN5
 obtain⟨uw1,B5,rfl,hO5⟩:=Jg hN5 (bl _)
 have zw1:=uw1.size
 replace hS:=hS.add uw1 (A':=Aw 35 19 Fact.cells (.slice (some ⟨B5,0,none⟩) 0 0) ([]:List Fact)) (hO5.mono (a8 _)) (fun i h=>hO5.base i h)
 change Wx.Sep _ _ _ [_]at hS
 refine I rfl ?_
 refine Ap (.C3 (enc:=Fact.cells) (bytes:=160) (i:=Tryz.t35) lf kQ rfl rfl rfl rfl cQ (fun _=>rfl) Fact.one (.t rfl) (.t rfl) (hS.own 0 rfl) (Ay (Els.up hE0 hS.Ch)) (by simp[maxLen];omega) (by simp;omega)) rfl ?_
 intro v7 w2 Gw2
 have zw2:=Gw2.fr.size
 replace hS:=hS.Fs 0 rfl Gw2
 change Wx.Sep _ _ _ [_]at hS
 refine LW.A rfl (Ah (Am ?_))
 refine KW.q ?_
 first|(subst hnil;exact⟨OwnS.nil _ _ _ _ _,hS.Ch⟩)|exact⟨(hS.own 0 rfl).F5 (fun i h=>(hS.foot 0 rfl i h).resolve_left (fun h=>h)),hS.Ch⟩
theorem gI(f:Fact)(t:Int)(B:Nat)(w:World)(hB:Blk w B #[vi t] 3):Ret prog 81 #[.agg f.cells,.pointer (some ⟨B,0,none⟩)] w fun r w'=>r=.bool (decide (f.Time>t))∧Up w w':=by
 have hW:=Up.refl w
 obtain⟨w0,rfl,_⟩:=W0 w
 refine cT 8 func81 rfl ?_
 refine Af ?_
 refine Ap (.bA rfl) rfl ?_
 rintro _ w1 ⟨B2,rfl,NB2⟩
 have eB2:=NB2.at_
 have zB2:=NB2.size
 replace hW:=hW.up NB2.up
 have hB2:=NB2.blk
 refine Az (An (Aa ?_))
 refine U (.fB 5 rfl) ?_
 refine U (.lb rfl (hB2.Ad rfl)) ?_
 refine U (.lb rfl ((hB.up hW).Ad rfl)) ?_
 refine U (.gtr (.t rfl) (.t rfl)) ?_
 refine LW.A rfl (Ah (Am ?_))
 refine KW.q ?_
 exact⟨rfl,hW⟩
theorem nS(cf:Nat)(lb:Array Go.Value)(p:Fact→Bool)(hen:∀args w,(callFunc cf args).run prog w=.ok (.enter cf args) w)(ad:Option Addr)(cp:Nat)(l:List Fact)(w:World)(hE0:Els w ad 19 Fact.cells l)(hl:l.length≤100000)(hp:∀W,Up w W→∀x,Ret prog cf (#[.agg (Fact.cells x)]++lb) W fun r W'=>r=.bool (p x)∧Up W W')(hno:∀x∈l,p x=false):Ret prog 79 #[.slice ad l.length cp,.func (.func cf) #[] lb] w fun r w'=>r=.slice ad l.length cp∧Up w w':=by
 have hW:=Up.refl w
 obtain⟨w0,rfl,_⟩:=W0 w
 refine cT 42 func79 rfl ?_
 refine Af (Az (An (Aa (I rfl (I rfl ?_)))))
 refine A4 (eC (.u rfl rfl) (yX)) rfl (P9 cf lb p hen ad cp l _ (Els.up hE0 hW) hl (fun W u x=>hp W (hW.trans u) x)) ?_
 rintro _ w1 ⟨i,rfl,hi,uw1⟩
 have zw1:=uw1.size
 replace hW:=hW.up uw1
 have hi1:i= -1:=hi.elim (fun⟨k,x,_,hx,h1,_⟩=>by rw[hno x (ai hx)]at h1;cases h1) (fun h=>h.1)
 subst hi1
 refine LW.A rfl (An (Af (I rfl ?_)))
 refine U (.tr (PEv.eql (.t rfl) (.const _)) (rfl)) ?_
 refine Ah ?_
 refine CW.v rfl ?_
 refine Af (I rfl (LW.A rfl (Ah (Am (Ar ?_)))))
 refine KW.q ?_
 exact⟨rfl,hW⟩
theorem Ui(bc:Array Go.Value)(b:Base)(wafer time:Int)(w:World)(hC:BaseC w bc b)(hl:b.Swaps.length≤100000)(hp:b.Processes.length≤100000)(ht:∀x∈(Dg b.Processes b.Swaps wafer),x.Time≤time)(hll:(Dg b.Processes b.Swaps wafer).length≤100000):Ret prog 25 #[.agg bc,vi wafer,vi time] w fun r w'=>OwnS w' w.heap.size 35 19 Fact.cells r (Dg b.Processes b.Swaps wafer)∧Up w w':=by
 obtain⟨w0,rfl,hS⟩:=W0 w
 refine cT 13 func25 rfl ?_
 refine Af ?_
 refine Ap (.bA rfl) rfl ?_
 rintro _ w1 ⟨B3,rfl,NB3⟩
 have eB3:=NB3.at_
 have zB3:=NB3.size
 replace hS:=hS.Cg NB3
 change Wx.Sep _ _ _ [_]at hS
 refine Ap (.Pu (.t rfl) rfl) rfl ?_
 rintro _ w2 ⟨B5,rfl,NB5⟩
 have eB5:=NB5.at_
 have zB5:=NB5.size
 replace hS:=hS.Cg NB5
 change Wx.Sep _ _ _ [_,_]at hS
 refine Az (An (Aa ?_))
 refine U (.Fz ml l6 (hC.size) (.t rfl) (hS.b0.agg)) ?_
 refine I rfl ?_
 refine A4 (eC (.u rfl rfl) (CH)) rfl (Q8 bc b wafer _ (hC.up hS.Ch) oQ oQ) ?_
 rintro v9 w3 ⟨hO9,uw3⟩
 have zw3:=uw3.size
 replace hS:=hS.up uw3
 obtain⟨ad9,cp9,rfl,hE9⟩:=hO9.sl (fun _=>rfl)
 refine A4 (eC (.o rfl) (JU)) rfl (gH ad9 cp9 _ _ hE9 hll) ?_
 rintro v10 w4 ⟨hO10,uw4⟩
 have zw4:=uw4.size
 replace hS:=hS.add uw4 (A':=Aw 35 19 Fact.cells v10 (Dg b.Processes b.Swaps wafer)) (hO10.mono (a8 _)) (fun i h=>hO10.base i h)
 change Wx.Sep _ _ _ [_,_,_]at hS
 clear hO10
 obtain⟨ad10,cp10,rfl,_⟩:=(hS.own 2 rfl).sl (fun _=>rfl)
 refine U (.makeFunc (.cu rfl)) ?_
 refine A4 (eC (.u rfl rfl) (JT)) rfl (nS 81 #[.pointer (some ⟨B5,0,none⟩)] (fun f=>decide (f.Time>time)) JV ad10 cp10 (Dg b.Processes b.Swaps wafer) _ (Cf (hS.own 2 rfl) (fun _=>rfl)) hll (fun W u x=>gI x time B5 W (hS.b1.up u)) (fun x hx=>br (by have:=ht x hx;omega))) ?_
 rintro _ w5 ⟨rfl,uw5⟩
 have zw5:=uw5.size
 replace hS:=hS.up uw5
 refine LW.A rfl (Ah (Am ?_))
 refine KW.q ?_
 exact⟨(hS.own 2 rfl).F5 (fun i h=>(hS.foot 2 rfl i h).resolve_left (fun h=>h)),hS.Ch⟩
end Go.Proofs.YtnpgbbaniknpkaaGreatDoor
namespace Go.Wx
open Go.RowKit
section
variable {R:Option Nat}{m:Nat}{P:Program}{n:Nat}{ds:List Deferred}{Q:Exit→Go.Act→World→Prop}{l:Env}{w:World}
theorem xE{id:Nat}{opsL:List Oper}(k h1 h2 d1 d2:Nat)(phs:List Ph)(Rel:World→World→Prop)(G:Bool→Bool→Value→Value→World→Prop)(hm:P.follows .mixedOrders=true)(hl:Cq l=true)
   (hA:Dz opsL.toArray=true)(hC:(Nat.beq k opsL.toArray.size||Fv opsL.toArray k)=true)(hF:Ik opsL.toArray k=true)(hks:Nat.ble k opsL.toArray.size=true)(hD:Gw n opsL.toArray 0 k=true)(hTl:Gv opsL.toArray k=true)
   (hfree:Ji l (opsL.take k)=true)(hd1:(opsL[h1]?).bind (·.dst)=some d1)(hd2:(opsL[h2]?).bind (·.dst)=some d2)(hh:(Nat.ble (h1+1) k&&(Nat.ble (h2+1) k&& !Nat.beq h1 h2))=true)
   (hrefl:∀w,Rel w w)(htr:∀w w1 w2,Rel w w1→Rel w1 w2→Rel w w2)(hup:∀w w',Up w w'→Rel w w')(hph:∀i v w w',(phs.getD i (.eq undef)).holds v w→Rel w w'→(phs.getD i (.eq undef)).holds v w')
   (hGU:∀b1 b2 u1 u2 W W',G b1 b2 u1 u2 W→Up W W'→G b1 b2 u1 u2 W')(hG0:∀u1 u2,G false false u1 u2 w.drew)
   (hop:∀b1 b2 u1 u2 W,Rel w.drew W→G b1 b2 u1 u2 W→allL (fun i o=>o.guard=none∧(i≠h1→i≠h2→TU P n ds (Jt opsL.toArray (fun i=>phs.getD i (.eq undef)) 0 o++l) W o (phs.getD i (.eq undef)))∧
     (i=h1→b1=false→∀a,Ag n ds (Jt opsL.toArray (fun i=>phs.getD i (.eq undef)) 0 o++l) a W→cK P o a W (fun v W'=>Rel W W'∧(phs.getD i (.eq undef)).holds v W'∧G true b2 v u2 W'))∧
     (i=h2→b2=false→∀a,Ag n ds (Jt opsL.toArray (fun i=>phs.getD i (.eq undef)) 0 o++l) a W→cK P o a W (fun v W'=>Rel W W'∧(phs.getD i (.eq undef)).holds v W'∧G b1 true u1 v W'))) 0 (opsL.take k))
   (hend:∀W u1 u2,G true true u1 u2 W→LW R m P n ds opsL.toArray Q (opsL.drop k) ((d1,.eq u1)::(d2,.eq u2)::l) W):
   CW R m P n ds (.region id opsL.toArray true) Q l w:=by
 simp only[b6,jl]at hh
 have hks':k≤opsL.length:=by have:=a_ hks;simp at this;omega
 have hk1:h1<k:=a_ hh.1
 have hk2:h2<k:=a_ hh.2.1
 have hne:h1≠h2:=fun e=>by rw[e]at hh;simp at hh
 have sub:∀j o,j<k→opsL.toArray[j]?=some o→(opsL.take k)[j]?=some o:=fun j o hjk ho=>by
   rw[dm hjk];simpa using ho
 have hbd:∀i ph,lk l i=some ph→∀(j:Nat)(o:Oper),0≤j→j<k→opsL.toArray[j]?=some o→o.dst≠some i:=fun i ph hi j o _ hjk ho=>Gf hfree hi (ai (sub j o hjk ho))
 have dst:∀{h d:Nat},(opsL[h]?).bind (·.dst)=some d→∃o,opsL.toArray[h]?=some o∧o.dst=some d:=fun{h d}e=>by
   cases ho:opsL[h]? with
   |none=>rw[ho]at e;cases e
   |some o=>rw[ho]at e;exact⟨o,by simpa using ho,e⟩
 obtain⟨o1,ho1,e1⟩:=dst hd1
 obtain⟨o2,ho2,e2⟩:=dst hd2
 refine Db hm hl fun fuel listed a hf hu ha=>?_
 refine H3 (k:=k) (fun i=>phs.getD i (.eq undef)) Rel (fun L f W=>G (L h1) (L h2) (f d1) (f d2) W) (f0:=fun t=>a.tmps.getD t undef) hrefl htr hph hA hC hF hks (by simp) hD hl hbd ?_ (by simpa using hG0 _ _) ?_ fuel listed a hf hu ha (fun _=>rfl)
 · intro i o _ hi hio L f W hW hDn hLi hed hG a ha hsl
   have h3:=(hop _ _ _ _ W hW hG).at (sub i o hi hio)
   rw[dp]at h3
   obtain⟨hg,h3,h4,h5⟩:=h3
   rw[bh (by simp[Region.wanted,hg])]
   have other:∀{h d:Nat}{p:Oper}(v:Value),h<k→opsL.toArray[h]?=some p→p.dst=some d→i≠h→Dv f o.dst v d=f d:=fun{h d p}v hk hp hd hih=>by
     have:=(Da hD (a8 _) hk hp hd).2 i o (a8 _) hi hih hio
     simp[Dv,this]
   have lis:∀{h:Nat},i≠h→Cs L i h=L h:=fun{h}e=>by simp[Cs,Ne.symm e]
   by_cases i1:i=h1
   · subst i1
     cases hio.symm.trans ho1
     have done:∀v W',Rel W W'∧(phs.getD i (.eq undef)).holds v W'∧G true (L h2) v (f d2) W'→Rel W W'∧(∀d,o1.dst=some d→(phs.getD i (.eq undef)).holds v W')∧G (Cs L i i) (Cs L i h2) (Dv f o1.dst v d1) (Dv f o1.dst v d2) W':=fun v W' h=>by
       refine⟨h.1,fun _ _=>h.2.1,?_⟩
       rw[other v hk2 ho2 e2 hne,lis hne,show Cs L i i=true by simp[Cs],show Dv f o1.dst v d1=v by simp[Dv,e1]]
       exact h.2.2
     rcases h4 rfl hLi a ha with⟨v,W',hr,hp⟩|⟨fn,args,w1,hr,hc⟩
     · exact .inl (.inl ⟨v,W',hr,done v W' hp⟩)
     exact .inl (.inr ⟨fn,args,w1,hr,hc.mono done⟩)
   by_cases i2:i=h2
   · subst i2
     cases hio.symm.trans ho2
     have done:∀v W',Rel W W'∧(phs.getD i (.eq undef)).holds v W'∧G (L h1) true (f d1) v W'→Rel W W'∧(∀d,o2.dst=some d→(phs.getD i (.eq undef)).holds v W')∧G (Cs L i h1) (Cs L i i) (Dv f o2.dst v d1) (Dv f o2.dst v d2) W':=fun v W' h=>by
       refine⟨h.1,fun _ _=>h.2.1,?_⟩
       rw[other v hk1 ho1 e1 i1,lis i1,show Cs L i i=true by simp[Cs],show Dv f o2.dst v d2=v by simp[Dv,e2]]
       exact h.2.2
     rcases h5 rfl hLi a ha with⟨v,W',hr,hp⟩|⟨fn,args,w1,hr,hc⟩
     · exact .inl (.inl ⟨v,W',hr,done v W' hp⟩)
     exact .inl (.inr ⟨fn,args,w1,hr,hc.mono done⟩)
   have done:∀v W',Up W W'∧(phs.getD i (.eq undef)).holds v W'→Rel W W'∧(∀d,o.dst=some d→(phs.getD i (.eq undef)).holds v W')∧G (Cs L i h1) (Cs L i h2) (Dv f o.dst v d1) (Dv f o.dst v d2) W':=fun v W' h=>by
     refine⟨hup _ _ h.1,fun _ _=>h.2,?_⟩
     rw[other v hk1 ho1 e1 i1,other v hk2 ho2 e2 i2,lis i1,lis i2]
     exact hGU _ _ _ _ _ _ hG h.1
   rcases h3 i1 i2 a ha with⟨v,W',hr,hp⟩|⟨fn,args,w1,hr,hc⟩
   · exact .inl (.inl ⟨v,W',hr,done v W' hp⟩)
   exact .inl (.inr ⟨fn,args,w1,hr,hc.mono done⟩)
 intro f W _ hG fuel' listed' a' hf' hu' ha' hsl'
 refine E4 hTl hA (opsL.toArray.size-k) k fuel' listed' a' W rfl (by simp;omega) (bl _) hf' hu' ?_
 dsimp only at hG
 rw[bj hk1,bj hk2]at hG
 refine hend W _ _ hG a' ⟨ha'.defers,ha'.size,fun t q ht=>?_⟩
 by_cases t1:t=d1
 · subst t1
   rw[A9]at ht
   cases ht
   exact hsl' _
 rw[Be t1]at ht
 by_cases t2:t=d2
 · subst t2
   rw[A9]at ht
   cases ht
   exact hsl' _
 rw[Be t2]at ht
 refine ha'.val t q ?_
 rw[F8]
 · exact ht
 cases hq:lk (Hg opsL.toArray (fun i=>phs.getD i (.eq undef)) 0 k) t with
 |none=>rfl
 |some q'=>
   obtain⟨j,p,_,hjk,hp,hpd,_⟩:=Fg hq
   exact absurd hpd (hbd t q ht j p (a8 _) hjk hp)
end
section
variable {R:Option Nat}{m:Nat}{P:Program}{n:Nat}{ds:List Deferred}{Q:Exit→Go.Act→World→Prop}{w:World}
theorem AWU.free{opsL:List Oper}(s k:Nat)(phs:List Ph)(keep:List Nat){base:Env}(hl:Cq base=true)
   (hA:Dz opsL.toArray=true)(hC:(Nat.beq k opsL.toArray.size||Fv opsL.toArray k)=true)(hF:Ik opsL.toArray k=true)(hks:Nat.ble k opsL.toArray.size=true)(hsk:Nat.ble s k=true)(hD:Gw n opsL.toArray s k=true)(hTl:Gv opsL.toArray k=true)
   (hfree:Ji base ((opsL.take k).drop s)=true)(hph:allU phs)
   (hop:∀W,Up w W→allL (fun i o=>TOp P n ds opsL.toArray (Jt opsL.toArray (fun i=>phs.getD (i-s) (.eq undef)) s o++base) W o (fun v W'=>Up W W'∧(phs.getD (i-s) (.eq undef)).holds v W')) s ((opsL.take k).drop s))
   (hend:∀W(g:Nat→Value),Up w W→(∀i o d,s≤i→i<k→opsL[i]?=some o→o.dst=some d→(phs.getD (i-s) (.eq undef)).holds (g d) W)→LW R m P n ds opsL.toArray Q (opsL.drop k) (keep.map (fun d=>(d,.eq (g d)))++base) W):
   AWU R m P n ds opsL.toArray Q s base w:=by
 have hks':k≤opsL.length:=by have:=a_ hks;simp at this;omega
 have hsk':s≤k:=a_ hsk
 have sub:∀j o,s≤j→j<k→opsL.toArray[j]?=some o→((opsL.take k).drop s)[j-s]?=some o:=fun j o hj hjk ho=>by
   rw[ge,show s+(j-s)=j by omega,dm hjk];simpa using ho
 have hbd:∀i ph,lk base i=some ph→∀(j:Nat)(o:Oper),s≤j→j<k→opsL.toArray[j]?=some o→o.dst≠some i:=fun i ph hi j o hj hjk ho=>Gf hfree hi (ai (sub j o hj hjk ho))
 intro fuel listed a hf hu ha
 refine H3 (k:=k) (fun i=>phs.getD (i-s) (.eq undef)) Up (fun _ _ _=>True) (f0:=fun t=>a.tmps.getD t undef) Up.refl (fun _ _ _=>Up.trans) (fun i v w w' h u=>(hph.at (i-s)) v w w' h u) hA hC hF hks hsk hD hl hbd ?_ trivial ?_ fuel listed a hf hu ha (fun _=>rfl)
 · intro i o hs hi hio L f W hU _ _ _ _ a ha _
   have h3:=(hop W hU).at (sub i o hs hi hio)
   rw[show s+(i-s)=i by omega]at h3
   have h4:=h3 a ha
   have done:∀v W',Up W W'∧(phs.getD (i-s) (.eq undef)).holds v W'→Up W W'∧(∀d,o.dst=some d→(phs.getD (i-s) (.eq undef)).holds v W')∧True:=fun v W' h=>⟨h.1,fun _ _=>h.2,trivial⟩
   by_cases hw:Region.wanted o (yielded opsL.toArray a.tmps)=true
   · rw[bh hw]at h4⊢
     rcases h4 with⟨v,W',hr,hp⟩|⟨fn,args,w1,hr,hc⟩
     · exact .inl (.inl ⟨v,W',hr,done v W' hp⟩)
     exact .inl (.inr ⟨fn,args,w1,hr,hc.mono done⟩)
   rw[aq hw]at h4⊢
   exact done _ _ h4
 intro f W hUp _ fuel' listed' a' hf' hu' ha' hsl'
 have key:∀i o d,s≤i→i<k→opsL[i]?=some o→o.dst=some d→(phs.getD (i-s) (.eq undef)).holds (f d) W:=by
   intro i o d hsi hik ho hd
   have ho':opsL.toArray[i]?=some o:=by simpa using ho
   have hmem:(d,phs.getD (i-s) (.eq undef))∈Hg opsL.toArray (fun i=>phs.getD (i-s) (.eq undef)) s k:=by
     unfold Hg
     rw[f5]
     exact⟨i,cn.2 hik,by rw[bh (g8 hsi),ho'];simp[hd]⟩
   obtain⟨q',hq⟩:=Hv hmem
   obtain⟨j,p,hsj,hjk,hp,hpd,e⟩:=Fg hq
   have:j=i:=by
     by_cases ee:j=i
     · exact ee
     exact absurd hpd ((Da hD hsi hik ho' hd).2 j p hsj hjk ee hp)
   subst this
   have:=ha'.val d q' (K8 hq)
   rw[hsl',e]at this
   exact this
 refine E4 hTl hA (opsL.toArray.size-k) k fuel' listed' a' W rfl (by simp;omega) (bl _) hf' hu' ?_
 refine hend W f hUp key a' ⟨ha'.defers,ha'.size,fun t q ht=>?_⟩
 rcases Dq ht with h|h
 · obtain⟨d,_,he⟩:=bx.1 (K7 h)
   cases he
   exact hsl' _
 refine ha'.val t q ?_
 rw[F8]
 · exact h
 cases hq:lk (Hg opsL.toArray (fun i=>phs.getD (i-s) (.eq undef)) s k) t with
 |none=>rfl
 |some q'=>
   obtain⟨j,p,hsj,hjk,hp,hpd,_⟩:=Fg hq
   exact absurd hpd (hbd t q h j p hsj hjk hp)
end
section
variable {P:Program}{n:Nat}{ds:List Deferred}{w:World}{ops:Array Oper}
theorem TOp.open{env:Env}{o:Oper}{X:Value→World→Prop}{d:Nat}{p:Value→World→Prop}(hd:lk env d=some (.pred p))(h:∀v,p v w→TOp P n ds ops ((d,.eq v)::env) w o X):TOp P n ds ops env w o X:=fun a ha=>
 h _ (ha.val d _ hd) a (ha.Y8 rfl)
end
end Go.Wx
namespace Go.Proofs.YtnpgbbaniknpkaaGreatDoor
open Go.Proofs.Tryz
open Go.Wx Go.RowKit
theorem cF(bc:Array Go.Value)(b:Base)(a:GAct)(L:List Sk)(l:List Fact)(w:World)(hC:BaseC w bc b)(hM_:WhyH b a L l)(hG:GM w)(hh:Dg b.Processes b.Swaps a.Wafer=l)(ht:∀x∈l,x.Time≤a.Time)(hsw:b.Swaps.length≤100000)(hpr:b.Processes.length≤100000):Ret prog 11 #[.agg bc,vi a.Wafer,vi a.Time] w fun r w'=>Sl w' r 1 A3 (K1 L l)∧(K1 L l).length≤5∧Up w w':=by
 obtain⟨w0,rfl,hS⟩:=W0 w
 refine cT 16 func11 rfl ?_
 refine Af ?_
 refine Ap (.bA rfl) rfl ?_
 rintro _ w1 ⟨B3,rfl,NB3⟩
 have eB3:=NB3.at_
 have zB3:=NB3.size
 replace hS:=hS.Cg NB3
 change Wx.Sep _ _ _ [_]at hS
 refine Az (An ?_)
 refine C9 7 kQ kQ kQ kQ kQ rfl rfl ?_
 refine J (.Fz ml l6 (hC.size) (.t rfl) (hS.b0.agg)) ?_
 refine J (.mv rfl) ?_
 refine J (.mv rfl) ?_
 refine J (.Fz ml l6 (hC.size) (.t rfl) (hS.b0.agg)) ?_
 refine J (.mv rfl) ?_
 refine J (.mv rfl) ?_
 refine Sn (p:=fun v W=>Sl W v 19 Fact.cells l) (fun _ _ _ h u=>Sl.up h u) (fun a w _ ha=>Bi (.ct rfl (.ct rfl (.cu rfl))) (CE) a ha) rfl rfl (fun w hu=>(Ui bc b a.Wafer a.Time w (hC.up (hS.Ch.trans hu)) hsw hpr (by rw[hh];exact ht) (by rw[hh];exact hM_.hl)).mono fun _ _⟨h1,h2⟩=>⟨h2,by rw[←hh];exact h1.sl (fun _=>rfl)⟩) ?_
 refine HW.nil ?_
 intro w2 uw2
 have zw2:=uw2.size
 replace hS:=hS.up uw2
 refine Js (d:=13) rfl fun v13 hp13=>?_
 obtain⟨ah,ch,rfl,hE13_⟩:=hp13
 have hE13:Els w2 ah 19 Fact.cells l:=hE13_
 clear hE13_
 obtain⟨f_,hf_,hT_⟩:=hM_.flow
 refine A4 (eC (.ct rfl (.ct rfl (.ct rfl (.cu rfl)))) (CF)) rfl (jS bc b a.Wafer a.Time ah l.length ch f_ L _ (hC.up hS.Ch) (by have:=hM_.hLo;omega) hM_.hFl hM_.lot hf_ hT_ hM_.fl hM_.fw (hG.up hS.Ch)) ?_
 rintro _ w3 ⟨av,cv,M,rfl,hM,hFk,uw3⟩
 have zw3:=uw3.size
 replace hS:=hS.up uw3
 replace hE13:=hE13.up uw3
 refine A4 (eC (.o rfl) (CG)) rfl (Wt av cv M ah ch l _ hFk.g (hM.rX hM_.fw) hE13 hM_.hl (fun p hp=>by rw[hM.len];exact hM_.hst p hp)) ?_
 rintro v15 w4 ⟨hS15,hn15,uw4⟩
 have zw4:=uw4.size
 replace hS:=hS.up uw4
 replace hE13:=hE13.up uw4
 refine LW.A rfl (Ah (Am ?_))
 refine KW.q ?_
 rw[bT hM]at hS15 hn15
 exact⟨hS15,hn15,hS.Ch⟩
theorem cG(bc:Array Go.Value)(b:Base)(wafer time:Int)(l:List Fact)(w:World)(hC:BaseC w bc b)(hl:l.length≤100000)(hh:Dg b.Processes b.Swaps wafer=l)(ht:∀x∈l,x.Time≤time)(hsw:b.Swaps.length≤100000)(hpr:b.Processes.length≤100000):Ret prog 9 #[.agg bc,vi wafer,vi time] w fun r w'=>∃v1 v2,r=.tuple #[v1,v2]∧Sl w' v1 1 A3 (l.map Fact.Step)∧Sl w' v2 1 A3 (l.map Fact.ID)∧Up w w':=by
 obtain⟨w0,rfl,hS⟩:=W0 w
 refine cT 34 func9 rfl ?_
 refine Af ?_
 refine Ap (.bA rfl) rfl ?_
 rintro _ w1 ⟨B3,rfl,NB3⟩
 have eB3:=NB3.at_
 have zB3:=NB3.size
 replace hS:=hS.Cg NB3
 change Wx.Sep _ _ _ [_]at hS
 refine Az (Az (An (Aa (Az (Az (An (Ai ?_)))))))
 replace hS:=(hS.Ln (OwnS.nil _ 0 3 1 A3)).Ln (OwnS.nil _ 0 3 1 A3)
 change Wx.Sep _ _ _ [_,_,_]at hS
 refine Aa ?_
 refine U (.Fz ml l6 (hC.size) (.t rfl) (hS.b0.agg)) ?_
 refine I rfl (I rfl ?_)
 refine A4 (eC (.ct rfl (.ct rfl (.cu rfl))) (CE)) rfl (Ui bc b wafer time _ (hC.up hS.Ch) hsw hpr (by rw[hh];exact ht) (by rw[hh];exact hl)) ?_
 rintro v15 w2 ⟨hO15,uw2⟩
 have zw2:=uw2.size
 replace hS:=hS.add uw2 (A':=Aw 35 19 Fact.cells v15 l) ((hh▸hO15).mono (a8 _)) (fun i h=>hO15.base i h)
 change Wx.Sep _ _ _ [_,_,_,_]at hS
 clear hO15
 obtain⟨ah,ch,rfl,_⟩:=(hS.own 3 rfl).sl (fun _=>rfl)
 refine U (.Ck lf (.t rfl)) ?_
 refine U (.move (.const _)) ?_
 refine Ah (Ak ?_)
 refine A6 (σ:=Nat×Go.Value×Go.Value) (fun s w=>(s.1≤l.length)∧(Wx.Sep no w0 w [A5 B3 bc 37,Aw 3 1 A3 s.2.1 ((l.take s.1).map Fact.Step),Aw 3 1 A3 s.2.2 ((l.take s.1).map Fact.ID),Aw 35 19 Fact.cells (.slice ah l.length ch) l])) (fun s=>[(17,.eq (vi (s.1:Int))),(8,.eq (s.2.1)),(9,.eq (s.2.2))]) ([(6,.eq _),(7,.eq _),(15,.eq _),(16,.eq _)]) (fun s=>l.length-s.1) (0,.slice none 0 0,.slice none 0 0) ?_ tQ ?_
 ·exact⟨a8 _,hS⟩
 rintro⟨k,v1,v2⟩ w3 ⟨hk,hS⟩
 dsimp only at hk hS
 change Wx.Sep _ _ _ [_,_,_,_]at hS
 change CW _ _ _ _ _ _ _ ([(17,.eq (vi (k:Int))),(8,.eq (v1)),(9,.eq (v2))]++_) _
 refine Af ?_
 refine U (.l2 rfl rfl) ?_
 refine An ?_
 refine CW.b rfl (fun h18=>?_) (fun h18=>?_)
 ·replace h18:=dQ h18
  refine Aj (Ac (Ai (Ak (Ai ?_))))
  have hkl:k<l.length:=cm.1 h18
  obtain⟨x,hx⟩:=Ae (xs:=l) (i:=k) hkl
  obtain⟨Bx,ox,ax,hcx⟩:=(Cf (hS.own 3 rfl) (fun _=>rfl)) k x hx
  refine Aa ?_
  refine U (.Ao lf lh (j:=k) (.t rfl) (.t rfl) oQ ax) ?_
  refine U (.lc rfl (hcx)) ?_
  refine Ap (.Cb ll) rfl ?_
  rintro _ w4 ⟨B11,rfl,MB11⟩
  refine Cd (.Cc lh rfl (.t rfl) (.t rfl) (Fact.one _) MB11.blk rfl) ?_
  intro w5 LB11
  have NB11:=MB11.set LB11
  clear LB11 MB11
  have eB11:=NB11.at_
  have zB11:=NB11.size
  replace hS:=hS.Cg NB11
  change Wx.Sep _ _ _ [_,_,_,_,_]at hS
  refine Ah ?_
  refine xE 10 4 9 25 30 [.eq (v1),.eq (.pointer (some ⟨B11,13,none⟩)),.eq (vi x.Step),.pred (litP w5.heap.size x.Step),.pred fun _ _=>True,.eq (v2),.eq (.pointer (some ⟨B11,1,none⟩)),.eq (vi x.ID),.pred (litP w5.heap.size x.ID),.pred fun _ _=>True] (Above w5.heap.size) (fun b1 b2 u1 u2 W=>Wx.Sep no w0 W [A5 B3 bc 37,Aw 3 1 A3 (cond b1 u1 v1) (cond b1 ((l.take k).map Fact.Step++[x.Step]) ((l.take k).map Fact.Step)),Aw 3 1 A3 (cond b2 u2 v2) (cond b2 ((l.take k).map Fact.ID++[x.ID]) ((l.take k).map Fact.ID)),Aw 35 19 Fact.cells (.slice ah l.length ch) l,A5 B11 (Fact.cells x) 35]) kQ rfl kQ kQ kQ kQ kQ kQ kQ rfl rfl cQ (Above.refl _) (fun _ _ _=>Above.trans) (fun _ _=>Above.up) (fun i v w w' h u=>allR.at (Rel:=Above w5.heap.size) (l:=[.eq (v1),.eq (.pointer (some ⟨B11,13,none⟩)),.eq (vi x.Step),.pred (litP w5.heap.size x.Step),.pred fun _ _=>True,.eq (v2),.eq (.pointer (some ⟨B11,1,none⟩)),.eq (vi x.ID),.pred (litP w5.heap.size x.ID),.pred fun _ _=>True]) ⟨fun _ _ _ h _=>h,fun _ _ _ h _=>h,fun _ _ _ h _=>h,fun _ _ _ h u=>litP.keep h u,fun _ _ _ _ _=>trivial,fun _ _ _ h _=>h,fun _ _ _ h _=>h,fun _ _ _ h _=>h,fun _ _ _ h u=>litP.keep h u,fun _ _ _ _ _=>trivial,trivial⟩ i v w w' h u) (fun _ _ _ _ _ _ h u=>Sep.up h u) (fun _ _=>hS.up (Up.drew _)) ?_ ?_
  ·intro b1 b2 u1 u2 W hR hG
   have hRz:=hR.size
   have zdr_:w5.drew.heap.size=w5.heap.size:=rfl
   refine aC ⟨rfl,fun _ _=>TU.p (.mv rfl) rfl,fun h=>absurd h cQ,fun h=>absurd h cQ⟩ ?_
   refine aC ⟨rfl,fun _ _=>TU.p (.fB 13 rfl) rfl,fun h=>absurd h cQ,fun h=>absurd h cQ⟩ ?_
   refine aC ⟨rfl,fun _ _=>TU.p (.lb rfl (hG.b4.Ad rfl)) rfl,fun h=>absurd h cQ,fun h=>absurd h cQ⟩ ?_
   refine aC ⟨rfl,fun _ _=>TU.r (REv.buildSlice (xs:=[x.Step]) (enc:=A3) (mk:=vi) k_ lg lq rfl cQ (fun _=>rfl) (fun _=>rfl) (.cu rfl) rfl) (fun _ _ h=>litP.new h oQ),fun h=>absurd h cQ,fun h=>absurd h cQ⟩ ?_
   refine aC ⟨rfl,fun h g=>absurd rfl h,fun h=>?_,fun h=>absurd h cQ⟩ ?_
   ·intro hb a ha
    subst hb
    replace hG:Wx.Sep no w0 W [A5 B3 bc 37,Aw 3 1 A3 v1 ((l.take k).map Fact.Step),Aw 3 1 A3 (cond b2 u2 v2) (cond b2 ((l.take k).map Fact.ID++[x.ID]) ((l.take k).map Fact.ID)),Aw 35 19 Fact.cells (.slice ah l.length ch) l,A5 B11 (Fact.cells x) 35]:=hG
    have hlt:=(hS.own 1 rfl).lt
    exact(REv.open (d:=24) (p:=litP w5.heap.size x.Step) rfl fun vv hv=>(REv.C3 (enc:=A3) (bytes:=8) (i:=Tryz.t3) k_ kQ rfl rfl rfl rfl cQ (fun _=>rfl) Et (.t rfl) (.t rfl) (hG.own 1 rfl) hv.sl (by simp[maxLen];omega) (by simp;omega)).mono fun v' w'' h=>⟨Above.Fs h hlt,trivial,hG.Fs 1 rfl h⟩).y ha
   refine aC ⟨rfl,fun _ _=>TU.p (.mv rfl) rfl,fun h=>absurd h cQ,fun h=>absurd h cQ⟩ ?_
   refine aC ⟨rfl,fun _ _=>TU.p (.fB 1 rfl) rfl,fun h=>absurd h cQ,fun h=>absurd h cQ⟩ ?_
   refine aC ⟨rfl,fun _ _=>TU.p (.lb rfl (hG.b4.Ad rfl)) rfl,fun h=>absurd h cQ,fun h=>absurd h cQ⟩ ?_
   refine aC ⟨rfl,fun _ _=>TU.r (REv.buildSlice (xs:=[x.ID]) (enc:=A3) (mk:=vi) k_ lg lq rfl cQ (fun _=>rfl) (fun _=>rfl) (.cu rfl) rfl) (fun _ _ h=>litP.new h oQ),fun h=>absurd h cQ,fun h=>absurd h cQ⟩ ?_
   refine aC ⟨rfl,fun h g=>absurd rfl g,fun h=>absurd h cQ,fun h=>?_⟩ ?_
   ·intro hb a ha
    subst hb
    replace hG:Wx.Sep no w0 W [A5 B3 bc 37,Aw 3 1 A3 (cond b1 u1 v1) (cond b1 ((l.take k).map Fact.Step++[x.Step]) ((l.take k).map Fact.Step)),Aw 3 1 A3 v2 ((l.take k).map Fact.ID),Aw 35 19 Fact.cells (.slice ah l.length ch) l,A5 B11 (Fact.cells x) 35]:=hG
    have hlt:=(hS.own 2 rfl).lt
    exact(REv.open (d:=29) (p:=litP w5.heap.size x.ID) rfl fun vv hv=>(REv.C3 (enc:=A3) (bytes:=8) (i:=Tryz.t3) k_ kQ rfl rfl rfl rfl cQ (fun _=>rfl) Et (.t rfl) (.t rfl) (hG.own 2 rfl) hv.sl (by simp[maxLen];omega) (by simp;omega)).mono fun v' w'' h=>⟨Above.Fs h hlt,trivial,hG.Fs 2 rfl h⟩).y ha
   exact allL.nil
  intro w6 u1 u2 hG
  replace hS:=hG
  replace hS:Wx.Sep no w0 w6 [A5 B3 bc 37,Aw 3 1 A3 u1 ((l.take k).map Fact.Step++[x.Step]),Aw 3 1 A3 u2 ((l.take k).map Fact.ID++[x.ID]),Aw 35 19 Fact.cells (.slice ah l.length ch) l,A5 B11 (Fact.cells x) 35]:=hS
  refine LW.A rfl (LW.A rfl (LW.nil (Al (Ac (Aa ?_)))))
  refine U (.ic rfl oQ) ?_
  refine I rfl (LW.nil (Av ?_))
  exact⟨(k+1,u1,u2),⟨by show k+1≤l.length;omega,by show Wx.Sep _ _ _ [_,Aw _ _ _ _ ((l.take (k+1)).map _),Aw _ _ _ _ ((l.take (k+1)).map _),_];rw[Qq hx,Qq hx];exact hS.take 4⟩,tQ,by show l.length-(k+1)<l.length-k;omega⟩
 replace h18:=dQ h18
 have hkl:k=l.length:=by have:¬k<l.length:=fun h=>h18 (cm.2 h);omega
 refine A8 (Ab (Ab (Aq (Ac (Af (I rfl (I rfl (LW.A rfl (LW.A rfl (Ah (Am ?_)))))))))))
 refine Gj rfl rfl rfl ⟨_,rfl,?_⟩
 subst hkl
 rw[b8]at hS
 exact⟨v1,v2,rfl,(hS.own 1 rfl).sl (fun _=>rfl),(hS.own 2 rfl).sl (fun _=>rfl),hS.Ch⟩
theorem tE(x p:Fact)(B:Nat)(w:World)(hB:Blk w B (Fact.cells p) 35):Ret prog 30 #[.agg (Fact.cells x),.pointer (some ⟨B,0,none⟩)] w fun r w'=>r=.bool (Rc p.ID x)∧Up w w':=by
 have hW:=Up.refl w
 obtain⟨w0,rfl,_⟩:=W0 w
 refine cT 9 func30 rfl ?_
 refine Af ?_
 refine Ap (.bA rfl) rfl ?_
 rintro _ w1 ⟨B2,rfl,NB2⟩
 have eB2:=NB2.at_
 have zB2:=NB2.size
 replace hW:=hW.up NB2.up
 have hB2:=NB2.blk
 refine Az (An (Aa ?_))
 refine U (.fB 1 rfl) ?_
 refine U (.lb rfl (hB2.Ad rfl)) ?_
 refine U (.fB 1 rfl) ?_
 refine U (.lb rfl ((hB.up hW).Ad rfl)) ?_
 refine U (.eql (.t rfl) (.t rfl)) ?_
 refine LW.A rfl (Ah (Am ?_))
 refine KW.q ?_
 exact⟨rfl,hW⟩
set_option maxHeartbeats 1000000 in
theorem Qr(bc:Array Go.Value)(b:Base)(L:List Sk)(w:World)(hC:BaseC w bc b)(hA:sS b L)(hG:GM w)(hsw:b.Swaps.length≤100000)(hpr:b.Processes.length≤100000)(hid:b.Processes.Pairwise fun x y=>x.ID<y.ID):Ret prog 12 #[.agg bc] w fun r w'=>Sl w' r 1 A3 (Ii b L b.Processes)∧Up w w':=by
 obtain⟨w0,rfl,hS⟩:=W0 w
 obtain⟨v_,h_,ad,cp,rfl,hE_⟩:=hC.at_ (j:=0) cQ
 replace h_:bc[0]?=some (.slice ad b.Processes.length cp):=h_
 replace hE_:Els w0 ad 19 Fact.cells b.Processes:=hE_
 refine cT 62 func12 rfl ?_
 refine Af ?_
 refine Ap (.bA rfl) rfl ?_
 rintro _ w1 ⟨B1,rfl,NB1⟩
 have eB1:=NB1.at_
 have zB1:=NB1.size
 replace hS:=hS.Cg NB1
 change Wx.Sep _ _ _ [_]at hS
 refine Az (An (Aa (Az (An (Ai ?_)))))
 replace hS:=hS.Ln (OwnS.nil _ 0 3 1 A3)
 change Wx.Sep _ _ _ [_,_]at hS
 refine Aa ?_
 refine U (.fB 0 rfl) ?_
 refine U (.lb rfl (hS.b0.cell h_)) ?_
 refine U (.Ck lf (.t rfl)) ?_
 refine U (.move (.const _)) ?_
 refine Ah (Ak ?_)
 refine A6 (σ:=Nat×Go.Value) (fun s w=>(s.1≤b.Processes.length)∧(Wx.Sep no w0 w [A5 B1 bc 37,Aw 3 1 A3 s.2 (Ii b L (b.Processes.take s.1))])) (fun s=>[(12,.eq (vi (s.1:Int))),(3,.eq (s.2))]) ([(1,.eq _),(2,.eq _),(10,.eq _),(11,.eq _)]) (fun s=>b.Processes.length-s.1) (0,.slice none 0 0) ?_ tQ ?_
 ·exact⟨a8 _,hS⟩
 rintro⟨k,v⟩ w2 ⟨hk,hS⟩
 dsimp only at hk hS
 change Wx.Sep _ _ _ [_,_]at hS
 change CW _ _ _ _ _ _ _ ([(12,.eq (vi (k:Int))),(3,.eq (v))]++_) _
 refine Af ?_
 refine U (.l2 rfl rfl) ?_
 refine An ?_
 refine CW.b rfl (fun h13=>?_) (fun h13=>?_)
 ·replace h13:=dQ h13
  refine Aj (Ac (Ai (Ak (Ai ?_))))
  have hkl:k<b.Processes.length:=cm.1 h13
  obtain⟨p,hp⟩:=Ae (xs:=b.Processes) (i:=k) hkl
  have hpm:=ai hp
  have hAp:=hA p hpm
  obtain⟨Bx,ox,ax,hcx⟩:=(Els.up hE_ hS.Ch) k p hp
  refine Aa ?_
  refine U (.Ao lf lh (j:=k) (.t rfl) (.t rfl) oQ ax) ?_
  refine U (.lc rfl (hcx)) ?_
  refine Ap (.Cb ll) rfl ?_
  rintro _ w3 ⟨B5,rfl,MB5⟩
  refine Cd (.Cc lh rfl (.t rfl) (.t rfl) (Fact.one _) MB5.blk rfl) ?_
  intro w4 LB5
  have NB5:=MB5.set LB5
  clear LB5 MB5
  have eB5:=NB5.at_
  have zB5:=NB5.size
  replace hS:=hS.Cg NB5
  change Wx.Sep _ _ _ [_,_,_]at hS
  refine An ?_
  refine Rq 21 19 20 18 6 34 (GAct.cells ⟨0,0,0,0,0,0,0⟩) [.eq (.agg bc),.eq (.pointer (some ⟨B5,7,none⟩)),.eq (vi p.Wafer),.eq (.pointer (some ⟨B5,5,none⟩)),.eq (vi p.Time),.eq (vi (Ib b.Swaps p.Time p.Wafer)),.eq (.pointer (some ⟨B5,13,none⟩)),.eq (vi p.Step),.eq (.pointer (some ⟨B5,11,none⟩)),.eq (vi p.Tool),.eq (.pointer (some ⟨B5,12,none⟩)),.eq (vi p.Chamber),.eq (.pointer (some ⟨B5,14,none⟩)),.eq (vi p.Recipe),.eq (.pointer (some ⟨B5,15,none⟩)),.eq (vi p.Revision),.eq (.pointer (some ⟨B5,5,none⟩)),.eq (vi p.Time),.eq (.agg (GAct.cells (Og b p))),.pred fun v _=>∃B,v=.pointer (some ⟨B,0,none⟩),.eq (undef)] [] zeroValue89 sizeOf89 kQ rfl kQ kQ kQ kQ kQ kQ kQ rfl rfl ⟨_,_,_,rfl⟩ _ rfl ⟨_,_,_,rfl⟩ ⟨ot,ot,ot,ot,ot,ot,ot,ot,ot,ot,ot,ot,ot,ot,ot,ot,ot,ot,ot,PhT.pred fun _ _ _ h _=>h,ot,trivial⟩ rfl (fun v W h=>⟨_,h,rfl,GAct.one _⟩) (fun B W=>⟨B,rfl⟩) ?_ ?_
  ·intro W hU0
   have hU:=(Up.drew w4).trans hU0
   have hSW:=hS.up hU
   refine aC (.inr ⟨rfl,TU.p (.Fz ml l6 hC.size (.t rfl) hSW.b0.agg) rfl⟩) ?_
   refine aC (.inr ⟨rfl,TU.p (.fB 7 rfl) rfl⟩) ?_
   refine aC (.inr ⟨rfl,TU.p (.lb rfl (hSW.b2.Ad rfl)) rfl⟩) ?_
   refine aC (.inr ⟨rfl,TU.p (.fB 5 rfl) rfl⟩) ?_
   refine aC (.inr ⟨rfl,TU.p (.lb rfl (hSW.b2.Ad rfl)) rfl⟩) ?_
   refine aC (.inr ⟨rfl,TU.c (eC (.ct rfl (.ct rfl (.cu rfl))) (yV)) (Xz bc b p.Wafer p.Time W (hC.up hSW.Ch) oQ) sQ⟩) ?_
   refine aC (.inr ⟨rfl,TU.p (.fB 13 rfl) rfl⟩) ?_
   refine aC (.inr ⟨rfl,TU.p (.lb rfl (hSW.b2.Ad rfl)) rfl⟩) ?_
   refine aC (.inr ⟨rfl,TU.p (.fB 11 rfl) rfl⟩) ?_
   refine aC (.inr ⟨rfl,TU.p (.lb rfl (hSW.b2.Ad rfl)) rfl⟩) ?_
   refine aC (.inr ⟨rfl,TU.p (.fB 12 rfl) rfl⟩) ?_
   refine aC (.inr ⟨rfl,TU.p (.lb rfl (hSW.b2.Ad rfl)) rfl⟩) ?_
   refine aC (.inr ⟨rfl,TU.p (.fB 14 rfl) rfl⟩) ?_
   refine aC (.inr ⟨rfl,TU.p (.lb rfl (hSW.b2.Ad rfl)) rfl⟩) ?_
   refine aC (.inr ⟨rfl,TU.p (.fB 15 rfl) rfl⟩) ?_
   refine aC (.inr ⟨rfl,TU.p (.lb rfl (hSW.b2.Ad rfl)) rfl⟩) ?_
   refine aC (.inr ⟨rfl,TU.p (.fB 5 rfl) rfl⟩) ?_
   refine aC (.inr ⟨rfl,TU.p (.lb rfl (hSW.b2.Ad rfl)) rfl⟩) ?_
   refine aC (.inr ⟨rfl,TU.p (.build (cs:=(GAct.cells (Og b p))) underlying89 zeroValue89 Us (.ct rfl (.ct rfl (.ct rfl (.ct rfl (.ct rfl (.ct rfl (.cu rfl))))))) kQ) rfl⟩) ?_
   refine aC (.inl (.inl rfl)) ?_
   refine aC (.inl (.inr rfl)) ?_
   exact allL.nil
  intro w5 B6 g hU0 zB6_ hB6 hg
  have hU:=(Up.drew w4).trans hU0
  have zw5:=hU.size
  have zdr:w4.drew.heap.size=w4.heap.size:=rfl
  have g34_:g 34=.agg (GAct.cells (Og b p)):=hg 18 _ 34 cQ rfl rfl
  rw[g34_]at hB6
  replace hB6:Blk w5 B6 (GAct.cells (Og b p)) 89:=hB6
  change LW _ _ _ _ _ _ _ _ ((6,_)::_) _
  clear hg
  replace hS:=(hS.up (Up.drew _)).add hU0 (A':=A5 B6 (GAct.cells (Og b p)) 89) hB6 (fun i(e:i=B6)=>by omega)
  change Wx.Sep _ _ _ [_,_,_,_]at hS
  clear hB6
  refine An (Aa ?_)
  refine U (.Fz ml l6 (hC.size) (.t rfl) (hS.b0.agg)) ?_
  refine U (.fB 0 rfl) ?_
  refine U (.lb rfl (hS.b3.Ad rfl)) ?_
  refine A4 (eC (.u rfl rfl) (CH)) rfl (Q8 bc b (Ib b.Swaps p.Time p.Wafer) _ (hC.up hS.Ch) oQ oQ) ?_
  rintro v38 w6 ⟨hO38,uw6⟩
  have zw6:=uw6.size
  replace hS:=hS.add uw6 (A':=Aw 35 19 Fact.cells v38 (Lr b p)) (hO38.mono (a8 _)) (fun i h=>hO38.base i h)
  change Wx.Sep _ _ _ [_,_,_,_,_]at hS
  clear hO38
  obtain⟨ad38,cp38,rfl,_⟩:=(hS.own 4 rfl).sl (fun _=>rfl)
  refine LW.A rfl (Ah ?_)
  refine E1 (fun a1 W=>Ag 62 [] ([(1,.eq (.pointer (some ⟨B1,0,none⟩))),(2,.eq (.slice none 0 0)),(3,.eq (v)),(5,.eq (.pointer (some ⟨B5,0,none⟩))),(6,.eq (.pointer (some ⟨B6,0,none⟩))),(7,.eq (.slice ad38 (Gy (Lr b p) p.ID).length cp38)),(10,.eq (.slice ad b.Processes.length cp)),(11,.eq (vi (b.Processes.length:Int))),(12,.eq (vi (k:Int)))]) a1 W∧Wx.Sep no w0 W [A5 B1 bc 37,Aw 3 1 A3 v (Ii b L (b.Processes.take k)),A5 B5 (Fact.cells p) 35,A5 B6 (GAct.cells (Og b p)) 89,Aw 35 19 Fact.cells (.slice ad38 (Lr b p).length cp38) (Lr b p)]) ?_ ?_
  ·skip
   refine Af (I rfl ?_)
   refine U (.makeFunc (.cu rfl)) ?_
   refine A4 (eC (.u rfl rfl) (yX)) rfl (P9 30 #[.pointer (some ⟨B5,0,none⟩)] (Rc p.ID) IQ ad38 cp38 (Lr b p) _ (Cf (hS.own 4 rfl) (fun _=>rfl)) hAp.2 (fun W u x=>tE x p B5 W (hS.b2.up u))) ?_
   rintro _ w7 ⟨i,rfl,hi,uw7⟩
   have zw7:=uw7.size
   replace hS:=hS.up uw7
   refine LW.A rfl (An (Aa (I rfl ?_)))
   refine U (.geq (.t rfl) (.const _)) ?_
   refine Ah ?_
   refine CW.b rfl (fun h43=>?_) (fun h43=>?_)
   ·replace h43:=dQ h43
    obtain⟨m,xm,rfl,hmx,hme,hmn⟩:=hi.resolve_right (fun⟨e,_⟩=>by rw[e]at h43;exact absurd h43 cQ)
    have hml:=(am.1 hmx).1
    refine Aa (I rfl (I rfl ?_))
    refine U (.Dt (v':=.slice ad38 (Gy (Lr b p) p.ID).length cp38) (PEv.Ow (j:=m) lf lh (.t rfl) (.t rfl) (by have:=(hS.own 4 rfl).cap;omega)) (by rw[bX hmx hme hmn,cc,dq (by omega)])) ?_
    refine LW.A rfl (LW.nil ?_)
    exact fun a ha=>⟨ha.sub tQ,(by first|exact hS|(rw[Uf hno];exact hS))⟩
   replace h43:=dQ h43
   have hno:=(hi.resolve_left (fun⟨m,_,e,_⟩=>h43 (by rw[e];exact gy m))).2
   rw[show Value.slice ad38 (Lr b p).length cp38=.slice ad38 (Gy (Lr b p) p.ID).length cp38 by rw[Uf hno]]
   refine Aj ?_
   exact fun a ha=>⟨ha.sub tQ,(by first|exact hS|(rw[Uf hno];exact hS))⟩
  rintro a1 w8 ⟨ha,hS⟩
  revert a1
  show CW none _ _ _ _ _ _ _ _
  refine Af ?_
  refine U (.Fz ml l6 (hC.size) (.t rfl) (hS.b0.agg)) ?_
  refine U (.lc rfl (hS.b3.agg)) ?_
  refine I rfl ?_
  refine A4 (eC (.ct rfl (.ct rfl (.cu rfl))) (IR)) rfl (Yh bc b (Og b p) L ad38 cp38 (Gy (Lr b p) p.ID) _ (hC.up hS.Ch) (nQ (Cf (hS.own 4 rfl) (fun _=>rfl))) hAp.1 (hG.up hS.Ch)) ?_
  rintro _ w9 ⟨rfl,uw9⟩
  have zw9:=uw9.size
  replace hS:=hS.up uw9
  refine U (.neq (.t rfl) (.const _)) ?_
  refine Ah ?_
  refine CW.b rfl (fun h51=>?_) (fun h51=>?_)
  ·replace h51:=dQ h51
   have hb51:Oh b L p=true:=by unfold Oh;simpa using h51
   refine Aa (I rfl ?_)
   refine U (.fB 1 rfl) ?_
   refine U (.lb rfl (hS.b2.Ad rfl)) ?_
   refine Ap (.buildSlice (xs:=[p.ID]) (enc:=A3) (mk:=vi) k_ lg lq rfl cQ (fun _=>rfl) (fun _=>rfl) (.cu rfl) rfl) rfl ?_
   rintro _ w10 ⟨B55,cB55,rfl,NB55,yB55,xB55⟩
   have eB55:=NB55.at_
   have zB55:=NB55.size
   replace hS:=hS.up NB55.up
   have hE55:=xB55
   refine Ap (.C3 (enc:=A3) (bytes:=8) (i:=Tryz.t3) k_ kQ rfl rfl rfl rfl cQ (fun _=>rfl) Et (.t rfl) (.t rfl) (hS.own 1 rfl) (Ay hE55) (by have:=Kw (b:=b) (L:=L) (l:=b.Processes.take k);simp[maxLen];simp at this;omega) (by have:=Kw (b:=b) (L:=L) (l:=b.Processes.take k);simp;simp at this;omega)) rfl ?_
   intro v56 w11 Gw11
   have zw11:=Gw11.fr.size
   replace hS:=hS.Fs 1 rfl Gw11
   change Wx.Sep _ _ _ [_,_,_,_,_]at hS
   refine LW.A rfl (LW.nil (Al (Ac (Aa ?_))))
   refine U (.ic rfl oQ) ?_
   refine I rfl (LW.nil (Av ?_))
   first|exact⟨(k+1,v56),⟨by show k+1≤b.Processes.length;omega,by show Wx.Sep _ _ _ [_,Aw _ _ _ _ (Ii b L (b.Processes.take (k+1)))];rw[M7 hp,hb51];first|exact hS.take 2|(rw[aq cQ,dk];exact hS.take 2)⟩,tQ,by show b.Processes.length-(k+1)<b.Processes.length-k;omega⟩|exact⟨(k+1,v),⟨by show k+1≤b.Processes.length;omega,by show Wx.Sep _ _ _ [_,Aw _ _ _ _ (Ii b L (b.Processes.take (k+1)))];rw[M7 hp,hb51];first|exact hS.take 2|(rw[aq cQ,dk];exact hS.take 2)⟩,tQ,by show b.Processes.length-(k+1)<b.Processes.length-k;omega⟩
  replace h51:=dQ h51
  have hb51:Oh b L p=false:=by unfold Oh;simpa using h51
  refine Aj (Al (Ac (Aa ?_)))
  refine U (.ic rfl oQ) ?_
  refine I rfl (LW.nil (Av ?_))
  first|exact⟨(k+1,v56),⟨by show k+1≤b.Processes.length;omega,by show Wx.Sep _ _ _ [_,Aw _ _ _ _ (Ii b L (b.Processes.take (k+1)))];rw[M7 hp,hb51];first|exact hS.take 2|(rw[aq cQ,dk];exact hS.take 2)⟩,tQ,by show b.Processes.length-(k+1)<b.Processes.length-k;omega⟩|exact⟨(k+1,v),⟨by show k+1≤b.Processes.length;omega,by show Wx.Sep _ _ _ [_,Aw _ _ _ _ (Ii b L (b.Processes.take (k+1)))];rw[M7 hp,hb51];first|exact hS.take 2|(rw[aq cQ,dk];exact hS.take 2)⟩,tQ,by show b.Processes.length-(k+1)<b.Processes.length-k;omega⟩
 replace h13:=dQ h13
 refine A8 (Ab (Ab (Aq (Ac (Ai ?_)))))
 have hkl:k=b.Processes.length:=by have:¬k<b.Processes.length:=fun h=>h13 (cm.2 h);omega
 subst hkl
 rw[b8]at hS
 refine Aa (I rfl ?_)
 refine A4 (eC (.o rfl) (yY)) rfl (Wr _ _ _ (hS.own 1 rfl) (by have:=Kw (b:=b) (L:=L) (l:=b.Processes);omega)) ?_
 rintro _ w12 uw12
 have zw12:=uw12.fr.size
 replace hS:=hS.Fs 1 rfl uw12
 change Wx.Sep _ _ _ [_,_]at hS
 rw[sR (bY hid)]at hS
 change Wx.Sep _ _ _ [_,_]at hS
 obtain⟨ad3,cp3,rfl,_⟩:=(hS.own 1 rfl).sl (fun _=>rfl)
 refine An (Aa (I rfl ?_))
 refine A4 (eC (.o rfl) (yZ)) rfl (Qo ad3 cp3 _ _ (Cf (hS.own 1 rfl) (fun _=>rfl)) (by have:=Kw (b:=b) (L:=L) (l:=b.Processes);omega) (bY hid)) ?_
 rintro _ w13 ⟨rfl,uw13⟩
 have zw13:=uw13.size
 replace hS:=hS.up uw13
 refine LW.A rfl (Ah (Am ?_))
 refine KW.q ?_
 exact⟨(hS.own 1 rfl).sl (fun _=>rfl),hS.Ch⟩
theorem nT(ad:Option Addr)(cp:Nat)(l:List Int)(n:Int)(w:World)(hE0:Els w ad 1 A3 l)(hl:l.length≤1000000000):Ret prog 126 #[.slice ad l.length cp,vi n] w fun r w'=>r=.bool (decide (n∈l))∧Up w w':=by
 have hW:=Up.refl w
 obtain⟨w0,rfl,_⟩:=W0 w
 refine cT 18 func126 rfl ?_
 refine Af (Az (An (Af (Az (Ah (Ak ?_))))))
 refine A6 (σ:=Nat) (fun s w=>(s≤l.length)∧(∀y∈l.take s,y≠n)∧(Up w0 w)) (fun s=>[(5,.eq (vi (s:Int)))]) ([(0,.eq _),(1,.eq _)]) (fun s=>l.length-s) 0 ?_ tQ ?_
 ·exact⟨a8 _,by simp,hW⟩
 rintro k w1 ⟨hk,hn,hW⟩
 refine Ai (Af (I rfl (I rfl ?_)))
 refine U (.Ck k_ (.t rfl)) ?_
 refine U (.l2 rfl rfl) ?_
 refine Ah ?_
 refine CW.b rfl (fun h9=>?_) (fun h9=>?_)
 ·replace h9:=dQ h9
  refine Aj (Ac (Ai (Ak (Ai ?_))))
  have hE:=Els.up hE0 hW
  refine Aa (I rfl (I rfl ?_))
  obtain⟨x,hx⟩:=Ae (xs:=l) (i:=k) oQ
  obtain⟨Bx,ox,ax,hcx⟩:=hE _ x hx
  refine U (.Ao k_ lg (.t rfl) (.t rfl) oQ ax) ?_
  refine U (.lb rfl (hcx.nth (j:=0) rfl)) ?_
  refine I rfl ?_
  refine U (.eql (.t rfl) (.t rfl)) ?_
  refine Ah ?_
  refine CW.b rfl (fun h17=>?_) (fun h17=>?_)
  ·replace h17:=dQ h17
   refine Af (Az (Ah (Am (A7 (Ar (Ar (A7 (Ar ?_))))))))
   refine KW.q ?_
   first|exact⟨bi Go.Value.bool (bj (h17▸ai hx)).symm,hW⟩|exact⟨bi Go.Value.bool (jX (by rw[show k=l.length by omega,b8]at hn;exact hn)).symm,hW⟩
  replace h17:=dQ h17
  refine Aj (Al (Ac (Aa (I rfl ?_))))
  refine U (.ic rfl oQ) ?_
  refine LW.A rfl (LW.nil (Av ?_))
  exact⟨k+1,⟨by omega,fun y hy=>by rw[Cr hx,bt,bn]at hy;rcases hy with h|h;exact hn y h;rw[h];exact h17,hW⟩,tQ,by first|omega|(dsimp only;omega)⟩
 replace h9:=dQ h9
 refine A8 (Ab (Ab (Aq (Ac (Af (Az (Ah (Am ?_))))))))
 refine KW.q ?_
 first|exact⟨bi Go.Value.bool (bj (h17▸ai hx)).symm,hW⟩|exact⟨bi Go.Value.bool (jX (by rw[show k=l.length by omega,b8]at hn;exact hn)).symm,hW⟩
theorem nU(ad:Option Addr)(cp:Nat)(ks:List Int)(n:Int)(w:World)(ho:OwnS w 0 3 1 A3 (.slice ad ks.length cp) ks)(hks:ks.length≤10000)(hlt:∀y∈ks,n<y):Ret prog 50 #[.slice ad ks.length cp,vi n] w fun r w'=>OwnS w' w.heap.size 3 1 A3 r (n::ks)∧Up w w':=by
 have hW:=Up.refl w
 have hE:Els w ad 1 A3 ks:=Cf ho (fun _=>rfl)
 have hcp:=tT ho
 obtain⟨w0,rfl,_⟩:=W0 w
 refine cT 44 func50 rfl ?_
 refine Af (Az (An (Aa (Az (An (Ak ?_))))))
 refine A6 (σ:=Nat) (fun s w=>(s=0)∧(Up w0 w)) (fun s=>[(5,.eq (vi (s:Int)))]) ([(0,.eq _),(1,.eq _),(4,.eq _)]) (fun s=>1-s) 0 ?_ tQ ?_
 ·exact⟨rfl,hW⟩
 rintro k w1 ⟨hj,hW⟩
 refine Ai (Ai ?_)
 cases hq2:decide (0<ks.length)with
 |true=>
  have hq:=b9 hq2
  obtain⟨y,hy⟩:=Ae (xs:=ks) (i:=0) hq
  obtain⟨Bu,ou,au,hcu⟩:=(Els.up hE hW) 0 y hy
  have hny:=hlt y (ai hy)
  subst hj
  refine Aa (I rfl (I rfl ?_))
  refine U (.Ck k_ (.t rfl)) ?_
  refine U (.tr (PEv.l2 rfl rfl) (bj oQ)) ?_
  refine I rfl ?_
  refine Au ?_
  refine I rfl ?_
  refine Au ?_
  refine I rfl ?_
  refine Au ?_
  refine U (.Ao k_ lg (j:=0) (.t rfl) (.t rfl) oQ au) ?_
  refine Au ?_
  refine U (.lb rfl (hcu.nth (j:=0) rfl)) ?_
  refine Au ?_
  refine I rfl ?_
  refine Au ?_
  refine U (.fa (PEv.l2 rfl rfl) (br oQ)) ?_
  refine U (.pa rfl (fun hp=>wQ)) ?_
  refine Ah ?_
  refine CW.f rfl ?_
  refine A8 (Ab (Ab (Aq (Ac (Ai (Af (I rfl (I rfl ?_))))))))
  refine U (.Ck k_ (.t rfl)) ?_
  refine U (.tr (PEv.l2 rfl rfl) (bj oQ)) ?_
  refine I rfl ?_
  refine Au ?_
  refine I rfl ?_
  refine Au ?_
  refine I rfl ?_
  refine Au ?_
  refine U (.Ao k_ lg (j:=0) (.t rfl) (.t rfl) oQ au) ?_
  refine Au ?_
  refine U (.lb rfl (hcu.nth (j:=0) rfl)) ?_
  refine Au ?_
  refine I rfl ?_
  refine Au ?_
  refine U (.fa (PEv.eql (.t rfl) (.t rfl)) (br oQ)) ?_
  refine U (.pa rfl (fun hp=>wQ)) ?_
  refine Ah ?_
  refine CW.f rfl ?_
  refine Aj (Ac (Ai ?_))
  have zw_:=hW.size
  refine Ju 11 [.eq (.slice ad ks.length cp),.eq (vi (0:Int)),.eq (vi (0:Int)),.eq (.slice ad (ks.take 0).length (ks.take 0).length),.eq (vi n),.pred fun v W=>∃B,v=.slice (some ⟨B,0,none⟩) [n].length [n].length∧Els W (some ⟨B,0,none⟩) 1 A3 [n],.eq (.slice ad ks.length cp),.eq (vi (0:Int)),.eq (.slice (if cp=0 then ad else ad.map (·.add (0*1))) (ks.length-0) (cp-0)),.pred fun v W=>Sl W v 1 A3 ([n]++(ks.drop 0)),.pred fun v W=>OwnS W w1.drew.heap.size 3 1 A3 v (C2 ks n 0)] [43] kQ rfl kQ kQ kQ kQ kQ kQ kQ ⟨om,om,om,om,om,PhU.pred fun _ _ _ h u=>let⟨B,e,hE⟩:=h;⟨B,e,hE.up u⟩,om,om,om,PhU.pred fun _ _ _ h u=>Sl.up h u,PhU.pred fun _ _ _ h u=>OwnS.up h u,trivial⟩ ?_ ?_
  ·intro W hU0
   have hU:=(Up.drew w1).trans hU0
   have hEW:=Els.up hE (hW.trans hU)
   have zU0:=hU0.size
   have hlk:(ks.take 0).length=0:=by rw[cc];omega
   refine aC ⟨rfl,TU.p (.mv rfl) rfl⟩ ?_
   refine aC ⟨rfl,TU.p (.mv rfl) rfl⟩ ?_
   refine aC ⟨rfl,TU.p (.mv rfl) rfl⟩ ?_
   refine aC ⟨rfl,TU.p (.val (v':=.slice ad (ks.take 0).length (ks.take 0).length) (Sq k_ lg (.t rfl) (.t rfl) (.t rfl) (by first|omega|exact a8 _)) (by rw[hlk])) rfl⟩ ?_
   refine aC ⟨rfl,TU.p (.mv rfl) rfl⟩ ?_
   refine aC ⟨rfl,TU.r (REv.buildSlice (xs:=[n]) (enc:=A3) (mk:=vi) k_ lg lq rfl bQ (fun _=>rfl) (fun _=>rfl) (.cu rfl) rfl) (fun v W' h=>let⟨B,cs,e,N,_,hE1⟩:=h;⟨N.up,B,e,hE1⟩)⟩ ?_
   refine aC ⟨rfl,TU.p (.mv rfl) rfl⟩ ?_
   refine aC ⟨rfl,TU.p (.mv rfl) rfl⟩ ?_
   refine aC ⟨rfl,TU.p (.sliceFrom k_ lg (.t rfl) (.t rfl) (by first|omega|exact a8 _)) rfl⟩ ?_
   refine aC ⟨rfl,TU.open (d:=38) rfl fun v hv=>by obtain⟨B,rfl,hE5⟩:=hv;exact TU.r (Jv (enc:=A3) (k:=1) (bytes:=8) (i:=Tryz.t3) (xs:=[n]) (ys:=(ks.drop 0)) k_ kQ rfl rfl rfl rfl cQ (fun _=>rfl) (.t rfl) (.t rfl) hE5 (Els.drop hEW hcp) (by simp[maxLen];omega) (by simp;omega)) (fun _ _ h=>⟨h.1,h.2.1⟩)⟩ ?_
   refine aC ⟨rfl,TU.open (d:=42) rfl fun v hv=>TU.r (Jv (enc:=A3) (k:=1) (bytes:=8) (i:=Tryz.t3) (xs:=(ks.take 0)) (ys:=([n]++(ks.drop 0))) k_ kQ rfl rfl rfl rfl cQ (fun _=>rfl) (.t rfl) (.t rfl) (Els.take hEW) hv (by simp[maxLen];omega) (by simp;omega)) (fun _ _ h=>⟨h.1,(h.2.2 (by simp)).mono zU0⟩)⟩ ?_
   exact allL.nil
  intro w2 g hU0 hg
  have hU:=(Up.drew w1).trans hU0
  have zw2:=hU.size
  replace hW:=hW.up hU
  have hO:OwnS w2 w1.drew.heap.size 3 1 A3 (g 43) (C2 ks n 0):=hg 10 _ 43 cQ rfl rfl
  replace hO:=hO.mono (show w0.heap.size≤w1.drew.heap.size from zw_)
  refine LW.A rfl (Ah (Am ?_))
  refine KW.q ?_
  exact⟨hO,hW⟩
 |false=>
  have hq:=cd hq2
  subst hj
  refine Aa (I rfl (I rfl ?_))
  refine U (.Ck k_ (.t rfl)) ?_
  refine U (.fa (PEv.l2 rfl rfl) (br oQ)) ?_
  refine I rfl ?_
  refine Bh ?_
  refine Bh ?_
  refine Bh ?_
  refine Bh ?_
  refine Bh ?_
  refine Bh ?_
  refine U (.Cv (b:=false) (.t rfl) (fun hp=>absurd (show false=true from hp) cQ)) ?_
  refine Ah ?_
  refine CW.f rfl ?_
  refine A8 (Ab (Ab (Aq (Ac (Ai (Af (I rfl (I rfl ?_))))))))
  refine U (.Ck k_ (.t rfl)) ?_
  refine U (.fa (PEv.l2 rfl rfl) (br oQ)) ?_
  refine I rfl ?_
  refine Bh ?_
  refine Bh ?_
  refine Bh ?_
  refine Bh ?_
  refine Bh ?_
  refine Bh ?_
  refine U (.Cv (b:=false) (.t rfl) (fun hp=>absurd (show false=true from hp) cQ)) ?_
  refine Ah ?_
  refine CW.f rfl ?_
  refine Aj (Ac (Ai ?_))
  have zw_:=hW.size
  refine Ju 11 [.eq (.slice ad ks.length cp),.eq (vi (0:Int)),.eq (vi (0:Int)),.eq (.slice ad (ks.take 0).length (ks.take 0).length),.eq (vi n),.pred fun v W=>∃B,v=.slice (some ⟨B,0,none⟩) [n].length [n].length∧Els W (some ⟨B,0,none⟩) 1 A3 [n],.eq (.slice ad ks.length cp),.eq (vi (0:Int)),.eq (.slice (if cp=0 then ad else ad.map (·.add (0*1))) (ks.length-0) (cp-0)),.pred fun v W=>Sl W v 1 A3 ([n]++(ks.drop 0)),.pred fun v W=>OwnS W w1.drew.heap.size 3 1 A3 v (C2 ks n 0)] [43] kQ rfl kQ kQ kQ kQ kQ kQ kQ ⟨om,om,om,om,om,PhU.pred fun _ _ _ h u=>let⟨B,e,hE⟩:=h;⟨B,e,hE.up u⟩,om,om,om,PhU.pred fun _ _ _ h u=>Sl.up h u,PhU.pred fun _ _ _ h u=>OwnS.up h u,trivial⟩ ?_ ?_
  ·intro W hU0
   have hU:=(Up.drew w1).trans hU0
   have hEW:=Els.up hE (hW.trans hU)
   have zU0:=hU0.size
   have hlk:(ks.take 0).length=0:=by rw[cc];omega
   refine aC ⟨rfl,TU.p (.mv rfl) rfl⟩ ?_
   refine aC ⟨rfl,TU.p (.mv rfl) rfl⟩ ?_
   refine aC ⟨rfl,TU.p (.mv rfl) rfl⟩ ?_
   refine aC ⟨rfl,TU.p (.val (v':=.slice ad (ks.take 0).length (ks.take 0).length) (Sq k_ lg (.t rfl) (.t rfl) (.t rfl) (by first|omega|exact a8 _)) (by rw[hlk])) rfl⟩ ?_
   refine aC ⟨rfl,TU.p (.mv rfl) rfl⟩ ?_
   refine aC ⟨rfl,TU.r (REv.buildSlice (xs:=[n]) (enc:=A3) (mk:=vi) k_ lg lq rfl bQ (fun _=>rfl) (fun _=>rfl) (.cu rfl) rfl) (fun v W' h=>let⟨B,cs,e,N,_,hE1⟩:=h;⟨N.up,B,e,hE1⟩)⟩ ?_
   refine aC ⟨rfl,TU.p (.mv rfl) rfl⟩ ?_
   refine aC ⟨rfl,TU.p (.mv rfl) rfl⟩ ?_
   refine aC ⟨rfl,TU.p (.sliceFrom k_ lg (.t rfl) (.t rfl) (by first|omega|exact a8 _)) rfl⟩ ?_
   refine aC ⟨rfl,TU.open (d:=38) rfl fun v hv=>by obtain⟨B,rfl,hE5⟩:=hv;exact TU.r (Jv (enc:=A3) (k:=1) (bytes:=8) (i:=Tryz.t3) (xs:=[n]) (ys:=(ks.drop 0)) k_ kQ rfl rfl rfl rfl cQ (fun _=>rfl) (.t rfl) (.t rfl) hE5 (Els.drop hEW hcp) (by simp[maxLen];omega) (by simp;omega)) (fun _ _ h=>⟨h.1,h.2.1⟩)⟩ ?_
   refine aC ⟨rfl,TU.open (d:=42) rfl fun v hv=>TU.r (Jv (enc:=A3) (k:=1) (bytes:=8) (i:=Tryz.t3) (xs:=(ks.take 0)) (ys:=([n]++(ks.drop 0))) k_ kQ rfl rfl rfl rfl cQ (fun _=>rfl) (.t rfl) (.t rfl) (Els.take hEW) hv (by simp[maxLen];omega) (by simp;omega)) (fun _ _ h=>⟨h.1,(h.2.2 (by simp)).mono zU0⟩)⟩ ?_
   exact allL.nil
  intro w3 g hU0 hg
  have hU:=(Up.drew w1).trans hU0
  have zw3:=hU.size
  replace hW:=hW.up hU
  have hO:OwnS w3 w1.drew.heap.size 3 1 A3 (g 43) (C2 ks n 0):=hg 10 _ 43 cQ rfl rfl
  replace hO:=hO.mono (show w0.heap.size≤w1.drew.heap.size from zw_)
  refine LW.A rfl (Ah (Am ?_))
  refine KW.q ?_
  exact⟨hO,hW⟩
theorem tF(av:Option Addr)(cv:Nat)(L:List Sk)(ah:Option Addr)(ch:Nat)(l:List Fact)(j:Nat)(sk:Sk)(w:World)(hF:FlG w av none L [])(hFw:Fwd L)(hH:Els w ah 19 Fact.cells l)(hl:l.length≤100000)(hs:L[j]?=some sk)(hl1:1≤l.length):Ret prog 49 #[.agg (Cx av L.length cv none 0 0),.slice ah l.length ch,vi (j:Int)] w fun r w'=>r=vi (Jb l j sk.bk l.length:Int)∧Up w w':=by
 obtain⟨w0,rfl,hS⟩:=W0 w
 have hlen:=hF.len
 have hjl:=(am.1 hs).1
 have hnb:¬sk.bk∈sk.nx:=fun h=>by have h1:=(hFw.b j sk hs).2;have h2:=(hFw.n j sk hs _ h).1;omega
 have hEn:=(hF.p sk (ai hs)).2
 have hnl:=(hF.g sk (ai hs)).nl
 refine cT 50 func49 rfl ?_
 refine Af ?_
 refine Ap (.bA rfl) rfl ?_
 rintro _ w1 ⟨B3,rfl,NB3⟩
 have eB3:=NB3.at_
 have zB3:=NB3.size
 replace hS:=hS.Cg NB3
 change Wx.Sep _ _ _ [_]at hS
 refine Az (An (Aa (Az (An (Af (Az (Ah ?_)))))))
 refine Ak ?_
 refine A6 (σ:=Nat×Nat) (fun s w=>(s.1+1≤l.length)∧(s.2=Jb l j sk.bk (s.1+1))∧(Wx.Sep no w0 w [A5 B3 (Cx av L.length cv none 0 0) 29])) (fun s=>[(8,.eq (vi ((s.1+1:Nat):Int))),(7,.eq (vi (s.2:Int)))]) ([(1,.eq _),(2,.eq _),(3,.eq _),(6,.eq _)]) (fun s=>l.length-s.1) (0,0) ?_ tQ ?_
 ·exact⟨hl1,rfl,hS⟩
 rintro⟨k,m⟩ w2 ⟨hk,hm,hS⟩
 dsimp only at hk hm
 refine Ai (Af (I rfl (I rfl ?_)))
 refine U (.Ck lf (.t rfl)) ?_
 refine U (.l2 rfl rfl) ?_
 refine Ah ?_
 refine CW.b rfl (fun h13=>?_) (fun h13=>?_)
 ·replace h13:=dQ h13
  refine Aj (Ac (Ai (Ak (Ai ?_))))
  have hmle:=fV l j sk.bk (k+1)
  have hkl:k+1<l.length:=cm.1 h13
  obtain⟨x,hx⟩:=Ae (xs:=l) (i:=k) oQ
  obtain⟨y,hy⟩:=Ae (xs:=l) (i:=k+1) oQ
  obtain⟨Bs,os,as_,hcs⟩:=(hF.up hS.Ch).E j sk hs
  refine Aa ?_
  refine U (.fB 2 rfl) ?_
  refine U (.lb rfl (hS.b0.Ad rfl)) ?_
  refine I rfl ?_
  refine U (.Ao lr l4 (j:=j) (.t rfl) (.t rfl) oQ as_) ?_
  refine U (.lc rfl (hcs)) ?_
  refine Ap (.Cb l_) rfl ?_
  rintro _ w3 ⟨B9,rfl,MB9⟩
  refine Cd (.Cc l4 rfl (.t rfl) (.t rfl) (Sk.one _) MB9.blk rfl) ?_
  intro w4 LB9
  have NB9:=MB9.set LB9
  clear LB9 MB9
  have eB9:=NB9.at_
  have zB9:=NB9.size
  replace hS:=hS.Cg NB9
  change Wx.Sep _ _ _ [_,_]at hS
  refine An ?_
  cases hq6:decide (x.Step=(j:Int))with
  |false=>
   have hxj:=cd hq6
   have hno:¬(x.Step=j∧y.Step=sk.bk):=fun h=>hxj h.1
   obtain⟨Bx,ox,ax,hcx⟩:=(Els.up hH hS.Ch) _ x hx
   obtain⟨By,oy,ay,hcy⟩:=(Els.up hH hS.Ch) _ y hy
   cases ax.symm.trans ay
   refine Db kQ rfl ?_
   obtain⟨w5,hdr⟩:∃W,W=w4.drew:=⟨_,rfl⟩
   have uw5:Up w4 w5:=by rw[hdr];exact Up.drew _
   rw[←hdr]
   clear hdr
   have zw5:=uw5.size
   replace hS:=hS.up uw5
   replace hcx:=hcx.up uw5
   replace hcy:=hcy.up uw5
   refine AWU.free 0 26 [.eq (.slice ah l.length ch),.eq (vi ((k+1:Nat):Int)),.eq (vi (k:Int)),.eq (.pointer (some ⟨Bx,ox+k*19,none⟩)),.eq (.pointer (some ⟨Bx,ox+k*19+13,none⟩)),.eq (vi x.Step),.eq (vi (j:Int)),.eq (.bool false),.eq (.bool false),.eq undef,.eq undef,.eq undef,.eq undef,.eq undef,.eq undef,.eq undef,.eq undef,.eq (.bool false),.eq (.bool false),.eq undef,.eq undef,.eq undef,.eq undef,.eq undef,.eq undef,.eq (.bool false)] [46] rfl kQ kQ kQ kQ kQ kQ kQ kQ uQ ?_ ?_
   ·intro W hU
    have hSW:=hS.up hU
    refine aC (TOp.p (PEv.mv rfl) rfl ⟨Up.refl _,rfl⟩) ?_
    refine aC (TOp.p (PEv.mv rfl) rfl ⟨Up.refl _,rfl⟩) ?_
    refine aC (TOp.p (PEv.Dt (v':=vi (k:Int)) (PEv.sub (.t rfl) (.const _) oQ oQ) (bi vi oQ)) rfl ⟨Up.refl _,rfl⟩) ?_
    refine aC (TOp.p (PEv.Ao lf lh (j:=k) (.t rfl) (.t rfl) oQ ax) rfl ⟨Up.refl _,rfl⟩) ?_
    refine aC (TOp.p (PEv.fB 13 rfl) rfl ⟨Up.refl _,rfl⟩) ?_
    refine aC (TOp.p (PEv.lb rfl (AggAt.nth (j:=13) (AggAt.up hcx hU) rfl)) rfl ⟨Up.refl _,rfl⟩) ?_
    refine aC (TOp.p (PEv.mv rfl) rfl ⟨Up.refl _,rfl⟩) ?_
    refine aC (TOp.p (PEv.fa (PEv.eql (.t rfl) (.t rfl)) (br hxj)) rfl ⟨Up.refl _,rfl⟩) ?_
    refine aC (TOp.p (PEv.mv rfl) rfl ⟨Up.refl _,rfl⟩) ?_
    refine aC (TOp.no rfl rfl rfl rfl rfl rfl ⟨Up.refl _,rfl⟩) ?_
    refine aC (TOp.no rfl rfl rfl rfl rfl rfl ⟨Up.refl _,rfl⟩) ?_
    refine aC (TOp.no rfl rfl rfl rfl rfl rfl ⟨Up.refl _,rfl⟩) ?_
    refine aC (TOp.no rfl rfl rfl rfl rfl rfl ⟨Up.refl _,rfl⟩) ?_
    refine aC (TOp.no rfl rfl rfl rfl rfl rfl ⟨Up.refl _,rfl⟩) ?_
    refine aC (TOp.no rfl rfl rfl rfl rfl rfl ⟨Up.refl _,rfl⟩) ?_
    refine aC (TOp.no rfl rfl rfl rfl rfl rfl ⟨Up.refl _,rfl⟩) ?_
    refine aC (TOp.no rfl rfl rfl rfl rfl rfl ⟨Up.refl _,rfl⟩) ?_
    refine aC (TOp.p (PEv.Cv (b:=false) (.t rfl) (fun hp=>by cases hp)) rfl ⟨Up.refl _,rfl⟩) ?_
    refine aC (TOp.p (PEv.mv rfl) rfl ⟨Up.refl _,rfl⟩) ?_
    refine aC (TOp.no rfl rfl rfl rfl rfl rfl ⟨Up.refl _,rfl⟩) ?_
    refine aC (TOp.no rfl rfl rfl rfl rfl rfl ⟨Up.refl _,rfl⟩) ?_
    refine aC (TOp.no rfl rfl rfl rfl rfl rfl ⟨Up.refl _,rfl⟩) ?_
    refine aC (TOp.no rfl rfl rfl rfl rfl rfl ⟨Up.refl _,rfl⟩) ?_
    refine aC (TOp.no rfl rfl rfl rfl rfl rfl ⟨Up.refl _,rfl⟩) ?_
    refine aC (TOp.no rfl rfl rfl rfl rfl rfl ⟨Up.refl _,rfl⟩) ?_
    refine aC (TOp.p (PEv.Cv (b:=false) (.t rfl) (fun hp=>by cases hp)) rfl ⟨Up.refl _,rfl⟩) ?_
    exact allL.nil
   intro w6 g hU hg
   have zw6:=hU.size
   replace hS:=hS.up hU
   replace hcx:=hcx.up hU
   replace hcy:=hcy.up hU
   have e46:g 46=.bool false:=hg 25 _ 46 cQ cQ rfl rfl
   change LW _ _ _ _ _ _ _ _ ((46,.eq (g 46))::_) _
   rw[e46]
   clear e46 hg
   refine Ah ?_
   refine CW.b rfl (fun h46=>?_) (fun h46=>?_)
   ·replace h46:=dQ h46
    exact absurd h46 cQ
   replace h46:=dQ h46
   refine Aj (Al (Ac (Aa (I rfl ?_))))
   refine U (.Dt (v':=vi ((k+1+1:Nat):Int)) (PEv.add (.t rfl) (.const _) oQ oQ) (bi vi oQ)) ?_
   refine LW.A rfl (LW.nil (Av ?_))
   first|exact⟨(k+1,m+1),⟨by omega,by show m+1=Jb l j sk.bk (k+1+1);rw[Jb,bh ⟨by omega,by rw[iv,Dk hx];exact hyes.1,by rw[Dk hy];exact hyes.2⟩,hm],hS.take 1⟩,tQ,by show l.length-(k+1)<l.length-k;omega⟩|exact⟨(k+1,m),⟨by omega,by show m=Jb l j sk.bk (k+1+1);rw[Jb,aq (fun h=>hno ⟨by rw[←Dk hx];exact h.2.1,by rw[←Dk hy];exact h.2.2⟩),fo];exact hm,hS.take 1⟩,tQ,by show l.length-(k+1)<l.length-k;omega⟩
  |true=>
   have hxj:=b9 hq6
   cases hq6:decide (y.Step=sk.bk)with
   |false=>
    have hyb:=cd hq6
    have hno:¬(x.Step=j∧y.Step=sk.bk):=fun h=>hyb h.2
    obtain⟨Bx,ox,ax,hcx⟩:=(Els.up hH hS.Ch) _ x hx
    obtain⟨By,oy,ay,hcy⟩:=(Els.up hH hS.Ch) _ y hy
    cases ax.symm.trans ay
    refine Db kQ rfl ?_
    obtain⟨w7,hdr⟩:∃W,W=w4.drew:=⟨_,rfl⟩
    have uw7:Up w4 w7:=by rw[hdr];exact Up.drew _
    rw[←hdr]
    clear hdr
    have zw7:=uw7.size
    replace hS:=hS.up uw7
    replace hcx:=hcx.up uw7
    replace hcy:=hcy.up uw7
    refine AWU.free 0 26 [.eq (.slice ah l.length ch),.eq (vi ((k+1:Nat):Int)),.eq (vi (k:Int)),.eq (.pointer (some ⟨Bx,ox+k*19,none⟩)),.eq (.pointer (some ⟨Bx,ox+k*19+13,none⟩)),.eq (vi x.Step),.eq (vi (j:Int)),.eq (.bool true),.eq (.bool true),.eq (.slice ah l.length ch),.eq (vi ((k+1:Nat):Int)),.eq (.pointer (some ⟨Bx,ox+(k+1)*19,none⟩)),.eq (.pointer (some ⟨Bx,ox+(k+1)*19+13,none⟩)),.eq (vi y.Step),.eq (.pointer (some ⟨B9,5,none⟩)),.eq (vi sk.bk),.eq (.bool false),.eq (.bool false),.eq (.bool false),.eq undef,.eq undef,.eq undef,.eq undef,.eq undef,.eq undef,.eq (.bool false)] [46] rfl kQ kQ kQ kQ kQ kQ kQ kQ uQ ?_ ?_
    ·intro W hU
     have hSW:=hS.up hU
     refine aC (TOp.p (PEv.mv rfl) rfl ⟨Up.refl _,rfl⟩) ?_
     refine aC (TOp.p (PEv.mv rfl) rfl ⟨Up.refl _,rfl⟩) ?_
     refine aC (TOp.p (PEv.Dt (v':=vi (k:Int)) (PEv.sub (.t rfl) (.const _) oQ oQ) (bi vi oQ)) rfl ⟨Up.refl _,rfl⟩) ?_
     refine aC (TOp.p (PEv.Ao lf lh (j:=k) (.t rfl) (.t rfl) oQ ax) rfl ⟨Up.refl _,rfl⟩) ?_
     refine aC (TOp.p (PEv.fB 13 rfl) rfl ⟨Up.refl _,rfl⟩) ?_
     refine aC (TOp.p (PEv.lb rfl (AggAt.nth (j:=13) (AggAt.up hcx hU) rfl)) rfl ⟨Up.refl _,rfl⟩) ?_
     refine aC (TOp.p (PEv.mv rfl) rfl ⟨Up.refl _,rfl⟩) ?_
     refine aC (TOp.p (PEv.tr (PEv.eql (.t rfl) (.t rfl)) (bj hxj)) rfl ⟨Up.refl _,rfl⟩) ?_
     refine aC (TOp.p (PEv.mv rfl) rfl ⟨Up.refl _,rfl⟩) ?_
     refine aC (TOp.py rfl rfl rfl rfl rfl (PEv.mv rfl) ⟨Up.refl _,rfl⟩) ?_
     refine aC (TOp.py rfl rfl rfl rfl rfl (PEv.mv rfl) ⟨Up.refl _,rfl⟩) ?_
     refine aC (TOp.py rfl rfl rfl rfl rfl (PEv.Ao lf lh (j:=k+1) (.t rfl) (.t rfl) oQ ay) ⟨Up.refl _,rfl⟩) ?_
     refine aC (TOp.py rfl rfl rfl rfl rfl (PEv.fB 13 rfl) ⟨Up.refl _,rfl⟩) ?_
     refine aC (TOp.py rfl rfl rfl rfl rfl (PEv.lb rfl (AggAt.nth (j:=13) (AggAt.up hcy hU) rfl)) ⟨Up.refl _,rfl⟩) ?_
     refine aC (TOp.py rfl rfl rfl rfl rfl (PEv.fB 5 rfl) ⟨Up.refl _,rfl⟩) ?_
     refine aC (TOp.py rfl rfl rfl rfl rfl (PEv.lb rfl (hSW.b1.Ad rfl)) ⟨Up.refl _,rfl⟩) ?_
     refine aC (TOp.py rfl rfl rfl rfl rfl (PEv.fa (PEv.eql (.t rfl) (.t rfl)) (br hyb)) ⟨Up.refl _,rfl⟩) ?_
     refine aC (TOp.p (PEv.pa rfl (fun hp=>wQ)) rfl ⟨Up.refl _,rfl⟩) ?_
     refine aC (TOp.p (PEv.mv rfl) rfl ⟨Up.refl _,rfl⟩) ?_
     refine aC (TOp.no rfl rfl rfl rfl rfl rfl ⟨Up.refl _,rfl⟩) ?_
     refine aC (TOp.no rfl rfl rfl rfl rfl rfl ⟨Up.refl _,rfl⟩) ?_
     refine aC (TOp.no rfl rfl rfl rfl rfl rfl ⟨Up.refl _,rfl⟩) ?_
     refine aC (TOp.no rfl rfl rfl rfl rfl rfl ⟨Up.refl _,rfl⟩) ?_
     refine aC (TOp.no rfl rfl rfl rfl rfl rfl ⟨Up.refl _,rfl⟩) ?_
     refine aC (TOp.no rfl rfl rfl rfl rfl rfl ⟨Up.refl _,rfl⟩) ?_
     refine aC (TOp.p (PEv.Cv (b:=false) (.t rfl) (fun hp=>by cases hp)) rfl ⟨Up.refl _,rfl⟩) ?_
     exact allL.nil
    intro w8 g hU hg
    have zw8:=hU.size
    replace hS:=hS.up hU
    replace hcx:=hcx.up hU
    replace hcy:=hcy.up hU
    have e46:g 46=.bool false:=hg 25 _ 46 cQ cQ rfl rfl
    change LW _ _ _ _ _ _ _ _ ((46,.eq (g 46))::_) _
    rw[e46]
    clear e46 hg
    refine Ah ?_
    refine CW.b rfl (fun h46=>?_) (fun h46=>?_)
    ·replace h46:=dQ h46
     exact absurd h46 cQ
    replace h46:=dQ h46
    refine Aj (Al (Ac (Aa (I rfl ?_))))
    refine U (.Dt (v':=vi ((k+1+1:Nat):Int)) (PEv.add (.t rfl) (.const _) oQ oQ) (bi vi oQ)) ?_
    refine LW.A rfl (LW.nil (Av ?_))
    first|exact⟨(k+1,m+1),⟨by omega,by show m+1=Jb l j sk.bk (k+1+1);rw[Jb,bh ⟨by omega,by rw[iv,Dk hx];exact hyes.1,by rw[Dk hy];exact hyes.2⟩,hm],hS.take 1⟩,tQ,by show l.length-(k+1)<l.length-k;omega⟩|exact⟨(k+1,m),⟨by omega,by show m=Jb l j sk.bk (k+1+1);rw[Jb,aq (fun h=>hno ⟨by rw[←Dk hx];exact h.2.1,by rw[←Dk hy];exact h.2.2⟩),fo];exact hm,hS.take 1⟩,tQ,by show l.length-(k+1)<l.length-k;omega⟩
   |true=>
    have hyb:=b9 hq6
    have hyes:x.Step=j∧y.Step=sk.bk:=⟨hxj,hyb⟩
    obtain⟨Bx,ox,ax,hcx⟩:=(Els.up hH hS.Ch) _ x hx
    obtain⟨By,oy,ay,hcy⟩:=(Els.up hH hS.Ch) _ y hy
    cases ax.symm.trans ay
    refine Db kQ rfl ?_
    obtain⟨w9,hdr⟩:∃W,W=w4.drew:=⟨_,rfl⟩
    have uw9:Up w4 w9:=by rw[hdr];exact Up.drew _
    rw[←hdr]
    clear hdr
    have zw9:=uw9.size
    replace hS:=hS.up uw9
    replace hcx:=hcx.up uw9
    replace hcy:=hcy.up uw9
    refine AWU.free 0 26 [.eq (.slice ah l.length ch),.eq (vi ((k+1:Nat):Int)),.eq (vi (k:Int)),.eq (.pointer (some ⟨Bx,ox+k*19,none⟩)),.eq (.pointer (some ⟨Bx,ox+k*19+13,none⟩)),.eq (vi x.Step),.eq (vi (j:Int)),.eq (.bool true),.eq (.bool true),.eq (.slice ah l.length ch),.eq (vi ((k+1:Nat):Int)),.eq (.pointer (some ⟨Bx,ox+(k+1)*19,none⟩)),.eq (.pointer (some ⟨Bx,ox+(k+1)*19+13,none⟩)),.eq (vi y.Step),.eq (.pointer (some ⟨B9,5,none⟩)),.eq (vi sk.bk),.eq (.bool true),.eq (.bool true),.eq (.bool true),.eq (.pointer (some ⟨B9,4,none⟩)),.eq (.slice sk.na sk.nx.length sk.nc),.eq (.pointer (some ⟨B9,5,none⟩)),.eq (vi sk.bk),.eq (.bool false),.eq (.bool true),.eq (.bool true)] [46] rfl kQ kQ kQ kQ kQ kQ kQ kQ uQ ?_ ?_
    ·intro W hU
     have hSW:=hS.up hU
     refine aC (TOp.p (PEv.mv rfl) rfl ⟨Up.refl _,rfl⟩) ?_
     refine aC (TOp.p (PEv.mv rfl) rfl ⟨Up.refl _,rfl⟩) ?_
     refine aC (TOp.p (PEv.Dt (v':=vi (k:Int)) (PEv.sub (.t rfl) (.const _) oQ oQ) (bi vi oQ)) rfl ⟨Up.refl _,rfl⟩) ?_
     refine aC (TOp.p (PEv.Ao lf lh (j:=k) (.t rfl) (.t rfl) oQ ax) rfl ⟨Up.refl _,rfl⟩) ?_
     refine aC (TOp.p (PEv.fB 13 rfl) rfl ⟨Up.refl _,rfl⟩) ?_
     refine aC (TOp.p (PEv.lb rfl (AggAt.nth (j:=13) (AggAt.up hcx hU) rfl)) rfl ⟨Up.refl _,rfl⟩) ?_
     refine aC (TOp.p (PEv.mv rfl) rfl ⟨Up.refl _,rfl⟩) ?_
     refine aC (TOp.p (PEv.tr (PEv.eql (.t rfl) (.t rfl)) (bj hxj)) rfl ⟨Up.refl _,rfl⟩) ?_
     refine aC (TOp.p (PEv.mv rfl) rfl ⟨Up.refl _,rfl⟩) ?_
     refine aC (TOp.py rfl rfl rfl rfl rfl (PEv.mv rfl) ⟨Up.refl _,rfl⟩) ?_
     refine aC (TOp.py rfl rfl rfl rfl rfl (PEv.mv rfl) ⟨Up.refl _,rfl⟩) ?_
     refine aC (TOp.py rfl rfl rfl rfl rfl (PEv.Ao lf lh (j:=k+1) (.t rfl) (.t rfl) oQ ay) ⟨Up.refl _,rfl⟩) ?_
     refine aC (TOp.py rfl rfl rfl rfl rfl (PEv.fB 13 rfl) ⟨Up.refl _,rfl⟩) ?_
     refine aC (TOp.py rfl rfl rfl rfl rfl (PEv.lb rfl (AggAt.nth (j:=13) (AggAt.up hcy hU) rfl)) ⟨Up.refl _,rfl⟩) ?_
     refine aC (TOp.py rfl rfl rfl rfl rfl (PEv.fB 5 rfl) ⟨Up.refl _,rfl⟩) ?_
     refine aC (TOp.py rfl rfl rfl rfl rfl (PEv.lb rfl (hSW.b1.Ad rfl)) ⟨Up.refl _,rfl⟩) ?_
     refine aC (TOp.py rfl rfl rfl rfl rfl (PEv.tr (PEv.eql (.t rfl) (.t rfl)) (bj hyb)) ⟨Up.refl _,rfl⟩) ?_
     refine aC (TOp.p (PEv.pa rfl (fun hp=>wQ)) rfl ⟨Up.refl _,rfl⟩) ?_
     refine aC (TOp.p (PEv.mv rfl) rfl ⟨Up.refl _,rfl⟩) ?_
     refine aC (TOp.py rfl rfl rfl rfl rfl (PEv.fB 4 rfl) ⟨Up.refl _,rfl⟩) ?_
     refine aC (TOp.py rfl rfl rfl rfl rfl (PEv.lb rfl (hSW.b1.Ad rfl)) ⟨Up.refl _,rfl⟩) ?_
     refine aC (TOp.py rfl rfl rfl rfl rfl (PEv.fB 5 rfl) ⟨Up.refl _,rfl⟩) ?_
     refine aC (TOp.py rfl rfl rfl rfl rfl (PEv.lb rfl (hSW.b1.Ad rfl)) ⟨Up.refl _,rfl⟩) ?_
     refine aC (Jj rfl rfl rfl rfl rfl (eC (.u rfl rfl) DF) (nT sk.na sk.nc sk.nx sk.bk W (Els.up hEn hSW.Ch) oQ) (by rintro _ W1 ⟨rfl,u⟩;exact⟨u,by rw[br hnb];rfl⟩)) ?_
     refine aC (TOp.py rfl rfl rfl rfl rfl (PEv.n1 rfl) ⟨Up.refl _,rfl⟩) ?_
     refine aC (TOp.p (PEv.pa rfl (fun hp=>wQ)) rfl ⟨Up.refl _,rfl⟩) ?_
     exact allL.nil
    intro w10 g hU hg
    have zw10:=hU.size
    replace hS:=hS.up hU
    replace hcx:=hcx.up hU
    replace hcy:=hcy.up hU
    have e46:g 46=.bool true:=hg 25 _ 46 cQ cQ rfl rfl
    change LW _ _ _ _ _ _ _ _ ((46,.eq (g 46))::_) _
    rw[e46]
    clear e46 hg
    refine Ah ?_
    refine CW.b rfl (fun h46=>?_) (fun h46=>?_)
    ·replace h46:=dQ h46
     refine Aa (I rfl ?_)
     refine U (.Dt (v':=vi ((m+1:Nat):Int)) (PEv.add (.t rfl) (.const _) oQ oQ) (bi vi oQ)) ?_
     refine LW.A rfl (LW.nil (Al (Ac (Aa (I rfl ?_)))))
     refine U (.Dt (v':=vi ((k+1+1:Nat):Int)) (PEv.add (.t rfl) (.const _) oQ oQ) (bi vi oQ)) ?_
     refine LW.A rfl (LW.nil (Av ?_))
     first|exact⟨(k+1,m+1),⟨by omega,by show m+1=Jb l j sk.bk (k+1+1);rw[Jb,bh ⟨by omega,by rw[iv,Dk hx];exact hyes.1,by rw[Dk hy];exact hyes.2⟩,hm],hS.take 1⟩,tQ,by show l.length-(k+1)<l.length-k;omega⟩|exact⟨(k+1,m),⟨by omega,by show m=Jb l j sk.bk (k+1+1);rw[Jb,aq (fun h=>hno ⟨by rw[←Dk hx];exact h.2.1,by rw[←Dk hy];exact h.2.2⟩),fo];exact hm,hS.take 1⟩,tQ,by show l.length-(k+1)<l.length-k;omega⟩
    replace h46:=dQ h46
    exact absurd h46 cQ
 replace h13:=dQ h13
 have hkl:k+1=l.length:=by have:¬k+1<l.length:=fun h=>h13 (cm.2 h);omega
 refine A8 (Ab (Ab (Aq (Ac (Af (I rfl (LW.A rfl (Ah (Am ?_)))))))))
 refine KW.q ?_
 rw[hkl]at hm
 exact⟨bi (fun m:Nat=>vi (m:Int)) hm,hS.Ch⟩
theorem nV(av:Option Addr)(cv:Nat)(L:List Sk)(ah:Option Addr)(ch:Nat)(l:List Fact)(w:World)(hF:FlG w av none L [])(hFw:Fwd L)(hH:Els w ah 19 Fact.cells l)(hl:l.length≤100000)(hst:M5 L l):Ret prog 18 #[.agg (Cx av L.length cv none 0 0),.slice ah l.length ch] w fun r w'=>Sl w' r 1 A3 (K1 L l)∧(K1 L l).length≤5∧Up w w':=by
 obtain⟨w0,rfl,hS⟩:=W0 w
 have hlen:=hF.len
 refine cT 54 func18 rfl ?_
 refine Af ?_
 refine Ap (.bA rfl) rfl ?_
 rintro _ w1 ⟨B2,rfl,NB2⟩
 have eB2:=NB2.at_
 have zB2:=NB2.size
 replace hS:=hS.Cg NB2
 change Wx.Sep _ _ _ [_]at hS
 refine Az (An (Af (I rfl ?_)))
 refine U (.Ck lf (.t rfl)) ?_
 refine U (.eql (.t rfl) (.const _)) ?_
 refine Ah ?_
 refine CW.b rfl (fun h10=>?_) (fun h10=>?_)
 ·replace h10:=dQ h10
  have hl0:l=[]:=dl oQ
  refine Af ?_
  refine Ap (.buildSlice (xs:=([0]:List Int)) (enc:=A3) (mk:=vi) k_ lg lq rfl cQ (fun _=>rfl) (fun _=>rfl) (.cons (.const _) .nil) rfl) rfl ?_
  rintro _ w2 ⟨B11,cB11,rfl,NB11,yB11,xB11⟩
  have eB11:=NB11.at_
  have zB11:=NB11.size
  replace hS:=hS.up NB11.up
  have hE11:=xB11
  refine LW.A rfl (Ah (Am (Ar ?_)))
  refine KW.q ?_
  first|(subst hl0;exact⟨⟨_,_,rfl,hE11⟩,a_ rfl,hS.Ch⟩)|exact⟨by rw[D5 hp hl1 hj hs,hnx];exact hO52.sl (fun _=>rfl),by rw[D5 hp hl1 hj hs,hnx];simp;omega,hS.Ch⟩|exact⟨by rw[D5 hp hl1 hj hs,hnx];exact(hS.own 2 rfl).sl (fun _=>rfl),by rw[D5 hp hl1 hj hs,hnx];omega,hS.Ch⟩
 replace h10:=dQ h10
 have hl1:1≤l.length:=by omega
 obtain⟨p,hp⟩:=Ae (xs:=l) (i:=l.length-1) oQ
 have hr:=hst p (ai hp)
 obtain⟨j,hj⟩:∃j:Nat,p.Step=(j:Int):=⟨p.Step.toNat,by omega⟩
 obtain⟨sk,hs⟩:=Ae (xs:=L) (i:=j) oQ
 have hjl:=(am.1 hs).1
 have hEn:=(hF.p sk (ai hs)).2
 have hnl:=(hF.g sk (ai hs)).nl
 have hbn:∀y∈sk.nx,sk.bk<y:=fun y hy=>by have h1:=(hFw.b j sk hs).2;have h2:=(hFw.n j sk hs y hy).1;omega
 refine Aj (Ac (Ai ?_))
 obtain⟨Bp,op,ap,hcp⟩:=(Els.up hH hS.Ch) _ p hp
 refine Aa (I rfl (I rfl ?_))
 refine U (.Ck lf (.t rfl)) ?_
 refine U (.Dt (v':=vi ((l.length-1:Nat):Int)) (PEv.sub (.t rfl) (.const _) oQ oQ) (bi vi oQ)) ?_
 refine U (.Ao lf lh (j:=l.length-1) (.t rfl) (.t rfl) oQ ap) ?_
 refine U (.fB 13 rfl) ?_
 refine U (.Dt (v':=vi (j:Int)) (PEv.lb rfl (hcp.nth (j:=13) rfl)) (bi vi hj)) ?_
 refine LW.A rfl (An (Af (I rfl ?_)))
 refine U (.fa (PEv.lss (.t rfl) (.const _)) (br oQ)) ?_
 refine I rfl ?_
 refine Au ?_
 refine I rfl ?_
 refine Au ?_
 refine U (.fB 2 rfl) ?_
 refine Au ?_
 refine U (.lb rfl (hS.b0.Ad rfl)) ?_
 refine Au ?_
 refine U (.Ck lr (.t rfl)) ?_
 refine Au ?_
 refine U (.fa (PEv.geq (.t rfl) (.t rfl)) (br oQ)) ?_
 refine U (.po rfl (fun hp=>wQ)) ?_
 refine Ah ?_
 refine CW.f rfl ?_
 refine Aj (Ac (Ai ?_))
 obtain⟨Bs,os,as_,hcs⟩:=(hF.up hS.Ch).E j sk hs
 refine Aa ?_
 refine U (.fB 2 rfl) ?_
 refine U (.lb rfl (hS.b0.Ad rfl)) ?_
 refine I rfl ?_
 refine U (.Ao lr l4 (j:=j) (.t rfl) (.t rfl) oQ as_) ?_
 refine U (.lc rfl (hcs)) ?_
 refine Ap (.Cb l_) rfl ?_
 rintro _ w3 ⟨B6,rfl,MB6⟩
 refine Cd (.Cc l4 rfl (.t rfl) (.t rfl) (Sk.one _) MB6.blk rfl) ?_
 intro w4 LB6
 have NB6:=MB6.set LB6
 clear LB6 MB6
 have eB6:=NB6.at_
 have zB6:=NB6.size
 replace hS:=hS.Cg NB6
 change Wx.Sep _ _ _ [_,_]at hS
 refine An (Aa ?_)
 refine Ap (.buildSlice (xs:=([]:List Int)) (enc:=A3) (mk:=vi) k_ lg lq rfl cQ (fun _=>rfl) (fun _=>rfl) .nil rfl) rfl ?_
 intro v33 w5 hN33
 obtain⟨uw5,B33,rfl,hO33⟩:=Jg hN33 (bl _)
 have zw5:=uw5.size
 replace hS:=hS.add uw5 (A':=Aw 3 1 A3 (.slice (some ⟨B33,0,none⟩) 0 0) ([]:List Int)) (hO33.mono (a8 _)) (fun i h=>hO33.base i h)
 clear hN33 hO33
 change Wx.Sep _ _ _ [_,_,_]at hS
 refine U (.fB 4 rfl) ?_
 refine U (.lb rfl (hS.b1.Ad rfl)) ?_
 refine Ap (.C3 (enc:=A3) (bytes:=8) (i:=Tryz.t3) k_ kQ rfl rfl rfl rfl cQ (fun _=>rfl) Et (.t rfl) (.t rfl) (hS.own 2 rfl) (Ay (Els.up hEn hS.Ch)) (by simp[maxLen];omega) (by simp;omega)) rfl ?_
 intro v36 w6 Gw6
 have zw6:=Gw6.fr.size
 replace hS:=hS.Fs 2 rfl Gw6
 change Wx.Sep _ _ _ [_,_,_]at hS
 obtain⟨ad36,cp36,rfl,_⟩:=(hS.own 2 rfl).sl (fun _=>rfl)
 rw[du]at hS⊢
 refine LW.A rfl (An (Ai ?_))
 cases hq8:decide (0≤sk.bk)with
 |true=>
  have hbk:=b9 hq8
  refine Db kQ rfl ?_
  obtain⟨w7,hdr⟩:∃W,W=w6.drew:=⟨_,rfl⟩
  have uw7:Up w6 w7:=by rw[hdr];exact Up.drew _
  rw[←hdr]
  clear hdr
  have zw7:=uw7.size
  replace hS:=hS.up uw7
  refine AWU.free 0 12 [.eq (.pointer (some ⟨B6,5,none⟩)),.eq (vi sk.bk),.eq (.bool true),.eq (.bool true),.eq (.agg (Cx av L.length cv none 0 0)),.eq (.slice ah l.length ch),.eq (vi (j:Int)),.eq (vi (Jb l j sk.bk l.length:Int)),.eq (.pointer (some ⟨B6,6,none⟩)),.eq (vi sk.lm),.eq (.bool (decide ((Jb l j sk.bk l.length:Int)<sk.lm))),.eq (.bool (decide ((Jb l j sk.bk l.length:Int)<sk.lm)))] [48] rfl kQ kQ kQ kQ kQ kQ kQ kQ uQ ?_ ?_
  ·intro W hU
   have hSW:=hS.up hU
   refine aC (TOp.p (PEv.fB 5 rfl) rfl ⟨Up.refl _,rfl⟩) ?_
   refine aC (TOp.p (PEv.lb rfl (hSW.b1.Ad rfl)) rfl ⟨Up.refl _,rfl⟩) ?_
   refine aC (TOp.p (PEv.tr (PEv.geq (.t rfl) (.const _)) (bj hbk)) rfl ⟨Up.refl _,rfl⟩) ?_
   refine aC (TOp.p (PEv.mv rfl) rfl ⟨Up.refl _,rfl⟩) ?_
   refine aC (TOp.py rfl rfl rfl rfl rfl (PEv.lc rfl hSW.b0.agg) ⟨Up.refl _,rfl⟩) ?_
   refine aC (TOp.py rfl rfl rfl rfl rfl (PEv.mv rfl) ⟨Up.refl _,rfl⟩) ?_
   refine aC (TOp.py rfl rfl rfl rfl rfl (PEv.mv rfl) ⟨Up.refl _,rfl⟩) ?_
   refine aC (Jj rfl rfl rfl rfl rfl (eC (.ct rfl (.ct rfl (.cu rfl))) JA) (tF av cv L ah ch l j sk W (hF.up hSW.Ch) hFw (Els.up hH hSW.Ch) hl hs hl1) sQ) ?_
   refine aC (TOp.py rfl rfl rfl rfl rfl (PEv.fB 6 rfl) ⟨Up.refl _,rfl⟩) ?_
   refine aC (TOp.py rfl rfl rfl rfl rfl (PEv.lb rfl (hSW.b1.Ad rfl)) ⟨Up.refl _,rfl⟩) ?_
   refine aC (TOp.py rfl rfl rfl rfl rfl (PEv.l2 rfl rfl) ⟨Up.refl _,rfl⟩) ?_
   refine aC (TOp.p (PEv.pa rfl (fun hp=>wQ)) rfl ⟨Up.refl _,rfl⟩) ?_
   exact allL.nil
  intro w8 g hU hg
  have zw8:=hU.size
  replace hS:=hS.up hU
  have e48:g 48=.bool (decide ((Jb l j sk.bk l.length:Int)<sk.lm)):=hg 11 _ 48 cQ cQ rfl rfl
  change LW _ _ _ _ _ _ _ _ ((48,.eq (g 48))::_) _
  rw[e48]
  clear e48 hg
  refine Ah ?_
  refine CW.b rfl (fun h48=>?_) (fun h48=>?_)
  ·replace h48:=dQ h48
   have hnx:G1 sk l j=sk.bk::sk.nx:=by unfold G1;rw[bh ⟨hbk,h48⟩]
   refine Aa (I rfl ?_)
   refine U (.fB 5 rfl) ?_
   refine U (.lb rfl (hS.b1.Ad rfl)) ?_
   refine A4 (eC (.u rfl rfl) (JB)) rfl (nU ad36 cp36 sk.nx sk.bk _ (hS.own 2 rfl) oQ hbn) ?_
   rintro v52 w9 ⟨hO52,uw9⟩
   have zw9:=uw9.size
   replace hS:=hS.up uw9
   refine LW.A rfl (An (Aa (I rfl (LW.A rfl (Ah (Am ?_))))))
   refine KW.q ?_
   first|(subst hl0;exact⟨⟨_,_,rfl,hE11⟩,a_ rfl,hS.Ch⟩)|exact⟨by rw[D5 hp hl1 hj hs,hnx];exact hO52.sl (fun _=>rfl),by rw[D5 hp hl1 hj hs,hnx];simp;omega,hS.Ch⟩|exact⟨by rw[D5 hp hl1 hj hs,hnx];exact(hS.own 2 rfl).sl (fun _=>rfl),by rw[D5 hp hl1 hj hs,hnx];omega,hS.Ch⟩
  replace h48:=dQ h48
  have hnx:G1 sk l j=sk.nx:=by unfold G1;rw[aq (fun h=>h48 h.2)]
  refine Aj (Ac (Af (I rfl (LW.A rfl (Ah (Am ?_))))))
  refine KW.q ?_
  first|(subst hl0;exact⟨⟨_,_,rfl,hE11⟩,a_ rfl,hS.Ch⟩)|exact⟨by rw[D5 hp hl1 hj hs,hnx];exact hO52.sl (fun _=>rfl),by rw[D5 hp hl1 hj hs,hnx];simp;omega,hS.Ch⟩|exact⟨by rw[D5 hp hl1 hj hs,hnx];exact(hS.own 2 rfl).sl (fun _=>rfl),by rw[D5 hp hl1 hj hs,hnx];omega,hS.Ch⟩
 |false=>
  have hbk:=cd hq8
  have hnx:G1 sk l j=sk.nx:=by unfold G1;rw[aq (fun h=>hbk h.1)]
  refine Db kQ rfl ?_
  obtain⟨w10,hdr⟩:∃W,W=w6.drew:=⟨_,rfl⟩
  have uw10:Up w6 w10:=by rw[hdr];exact Up.drew _
  rw[←hdr]
  clear hdr
  have zw10:=uw10.size
  replace hS:=hS.up uw10
  refine AWU.free 0 12 [.eq (.pointer (some ⟨B6,5,none⟩)),.eq (vi sk.bk),.eq (.bool false),.eq (.bool false),.eq undef,.eq undef,.eq undef,.eq undef,.eq undef,.eq undef,.eq undef,.eq (.bool false)] [48] rfl kQ kQ kQ kQ kQ kQ kQ kQ uQ ?_ ?_
  ·intro W hU
   have hSW:=hS.up hU
   refine aC (TOp.p (PEv.fB 5 rfl) rfl ⟨Up.refl _,rfl⟩) ?_
   refine aC (TOp.p (PEv.lb rfl (hSW.b1.Ad rfl)) rfl ⟨Up.refl _,rfl⟩) ?_
   refine aC (TOp.p (PEv.fa (PEv.geq (.t rfl) (.const _)) (br hbk)) rfl ⟨Up.refl _,rfl⟩) ?_
   refine aC (TOp.p (PEv.mv rfl) rfl ⟨Up.refl _,rfl⟩) ?_
   refine aC (TOp.no rfl rfl rfl rfl rfl rfl ⟨Up.refl _,rfl⟩) ?_
   refine aC (TOp.no rfl rfl rfl rfl rfl rfl ⟨Up.refl _,rfl⟩) ?_
   refine aC (TOp.no rfl rfl rfl rfl rfl rfl ⟨Up.refl _,rfl⟩) ?_
   refine aC (TOp.no rfl rfl rfl rfl rfl rfl ⟨Up.refl _,rfl⟩) ?_
   refine aC (TOp.no rfl rfl rfl rfl rfl rfl ⟨Up.refl _,rfl⟩) ?_
   refine aC (TOp.no rfl rfl rfl rfl rfl rfl ⟨Up.refl _,rfl⟩) ?_
   refine aC (TOp.no rfl rfl rfl rfl rfl rfl ⟨Up.refl _,rfl⟩) ?_
   refine aC (TOp.p (PEv.Cv (b:=false) (.t rfl) (fun hp=>by cases hp)) rfl ⟨Up.refl _,rfl⟩) ?_
   exact allL.nil
  intro w11 g hU hg
  have zw11:=hU.size
  replace hS:=hS.up hU
  have e48:g 48=.bool false:=hg 11 _ 48 cQ cQ rfl rfl
  change LW _ _ _ _ _ _ _ _ ((48,.eq (g 48))::_) _
  rw[e48]
  clear e48 hg
  refine Ah ?_
  refine CW.b rfl (fun h48=>?_) (fun h48=>?_)
  ·replace h48:=dQ h48
   exact absurd h48 cQ
  replace h48:=dQ h48
  refine Aj (Ac (Af (I rfl (LW.A rfl (Ah (Am ?_))))))
  refine KW.q ?_
  first|(subst hl0;exact⟨⟨_,_,rfl,hE11⟩,a_ rfl,hS.Ch⟩)|exact⟨by rw[D5 hp hl1 hj hs,hnx];exact hO52.sl (fun _=>rfl),by rw[D5 hp hl1 hj hs,hnx];simp;omega,hS.Ch⟩|exact⟨by rw[D5 hp hl1 hj hs,hnx];exact(hS.own 2 rfl).sl (fun _=>rfl),by rw[D5 hp hl1 hj hs,hnx];omega,hS.Ch⟩
theorem gJ(c n:Int)(w:World)(hn:n≠0):Ret prog 20 #[vi c,vi n] w fun r w'=>r=vi (Cj c n)∧Up w w':=by
 have hW:=Up.refl w
 refine cT 13 func20 rfl ?_
 refine Af (Az (An (Af (I rfl ?_))))
 refine U (.lss (.t rfl) (.const _)) ?_
 refine Ah ?_
 refine CW.b rfl (fun h6=>?_) (fun h6=>?_)
 ·replace h6:=dQ h6
  refine Aa (I rfl ?_)
  refine U (.oB (.t rfl) (.const _)) ?_
  refine U (.neg li (.t rfl)) ?_
  refine LW.A rfl (An (Aa (I rfl (I rfl ?_))))
  refine U (.rem (.t rfl) (.t rfl) oQ) ?_
  refine LW.A rfl (Ah (Am ?_))
  refine KW.q ?_
  exact⟨by first|(rw[Cj,bh h6])|(rw[Cj,aq (by omega)]),hW⟩
 replace h6:=dQ h6
 refine Aj (Ac (Af (I rfl (I rfl ?_))))
 refine U (.rem (.t rfl) (.t rfl) oQ) ?_
 refine LW.A rfl (Ah (Am ?_))
 refine KW.q ?_
 exact⟨by first|(rw[Cj,bh h6])|(rw[Cj,aq (by omega)]),hW⟩
theorem tG(av:Option Addr)(cv:Nat)(L:List Sk)(m i0 t0:Int)(i j:Nat)(s:Sk)(w:World)(hF:FlG w av none L [])(hs:L[j]?=some s)(hM:MkS L.length L)(hi:i≤100)(ht:0≤t0∧t0≤1000):Ret prog 19 #[.agg (Cx av L.length cv none 0 0),vi (i0+(i:Int)),vi m,vi (j:Int),vi (t0+10*(i:Int))] w fun r w'=>r=.agg (Fact.cells (nR L m i0 t0 i j s.mn))∧Up w w':=by
 obtain⟨h1,h2,_⟩:=sT hM hs
 have hm:=(hM j s hs).mn
 have h:=cC av cv L (i0+(i:Int)) m (t0+10*(i:Int)) j s (Ve L j) w hF hs h2 oQ oQ
 unfold nR
 rw[h1]
 exact h
set_option maxHeartbeats 1000000 in
theorem cH(av:Option Addr)(cv:Nat)(L:List Sk)(ad:Option Addr)(cp:Nat)(xs:List Int)(m i0 t0:Int)(w:World)(hF:FlG w av none L [])(hM:MkS L.length L)(hlr:1≤L.length∧L.length≤8)(hE:Els w ad 1 A3 xs)(hxs:∀y∈xs,Yq y)(hxl:xs.length≤maxLen)(hi0:0≤i0∧i0≤1000)(ht:0≤t0∧t0≤1000):Ret prog 7 #[.agg (Cx av L.length cv none 0 0),.slice ad xs.length cp,vi 8,vi m,vi i0,vi t0] w fun r w'=>∃ss:List Nat,Wlk L ss∧ss.length≤8∧OwnS w' w.heap.size 35 19 Fact.cells r (Di L m i0 t0 ss)∧Up w w':=by
 obtain⟨w0,rfl,hS⟩:=W0 w
 have hFw:=hM.rX hlr
 have hmx:xs.length≤9223372036854775807:=hxl
 refine cT 67 func7 rfl ?_
 refine Af ?_
 refine Ap (.bA rfl) rfl ?_
 rintro _ w1 ⟨B6,rfl,NB6⟩
 have eB6:=NB6.at_
 have zB6:=NB6.size
 replace hS:=hS.Cg NB6
 change Wx.Sep _ _ _ [_]at hS
 refine Az (An (Aa (Az (An (Ai ?_)))))
 replace hS:=hS.Ln (OwnS.nil _ 0 35 19 Fact.cells)
 change Wx.Sep _ _ _ [_,_]at hS
 refine Aa (Az (Ah (Ak ?_)))
 refine A6 (σ:=Nat×List Nat×Go.Value) (fun s w=>(s.1≤xs.length)∧(Wlk L s.2.1)∧(s.2.1.length≤8)∧(Wx.Sep no w0 w [A5 B6 (Cx av L.length cv none 0 0) 29,Aw 35 19 Fact.cells (s.2.2) (Di L m i0 t0 s.2.1)])) (fun s=>[(14,.eq (vi (s.1:Int))),(13,.eq (s.2.2))]) ([(1,.eq _),(2,.eq _),(3,.eq _),(4,.eq _),(5,.eq _),(6,.eq _)]) (fun s=>xs.length-s.1) (0,[],.slice none 0 0) ?_ tQ ?_
 ·exact⟨a8 _,Wlk.nil,a8 _,hS⟩
 rintro⟨k,ss,v⟩ w2 ⟨hk,hw,hn,hS⟩
 dsimp only at hk hw hn hS
 change Wx.Sep _ _ _ [_,_]at hS
 change CW _ _ _ _ _ _ _ ([(14,.eq (vi (k:Int))),(13,.eq (v))]++_) _
 refine Ai (Ai ?_)
 cases hq3:decide (k<xs.length)with
 |true=>
  have hkl:=b9 hq3
  obtain⟨adv,cpv,rfl,_⟩:=(hS.own 1 rfl).sl (fun _=>rfl)
  refine Aa (I rfl (I rfl ?_))
  refine U (.Ck k_ (.t rfl)) ?_
  refine U (.tr (PEv.l2 rfl rfl) (bj oQ)) ?_
  refine I rfl ?_
  refine Au ?_
  refine I rfl ?_
  refine Au ?_
  refine U (.Ck lf (.t rfl)) ?_
  refine Au ?_
  refine I rfl ?_
  refine Au ?_
  refine U (.l2 rfl rfl) ?_
  refine U (.pa rfl (fun hp=>wQ)) ?_
  refine Ah ?_
  refine CW.b rfl (fun h26=>?_) (fun h26=>?_)
  ·replace h26:=dQ h26
   have hl8:ss.length<8:=by rw[Ci]at h26;omega
   refine Aj (Ac (Ai (Ak (Af ?_))))
   refine U (.lc rfl (hS.b0.agg)) ?_
   refine I rfl ?_
   refine A4 (eC (.u rfl rfl) (II)) rfl (nV av cv L adv cpv (Di L m i0 t0 ss) _ (hF.up hS.Ch) hFw (Cf (hS.own 1 rfl) (fun _=>rfl)) (by rw[Ci];omega) (gG (Qn hFw hw).st)) ?_
   rintro v31 w3 ⟨hSl31,hn31,uw3⟩
   have zw3:=uw3.size
   replace hS:=hS.up uw3
   rw[jT]at hSl31 hn31
   obtain⟨nx,enx⟩:∃n,n=K1 L (Kt L ss):=⟨_,rfl⟩
   rw[←enx]at hSl31 hn31
   obtain⟨adn,cpn,rfl,hEn_⟩:=hSl31
   have hEn:Els w3 adn 1 A3 nx:=hEn_
   clear hEn_
   refine LW.A rfl (An (Af (I rfl ?_)))
   refine U (.Ck k_ (.t rfl)) ?_
   refine U (.eql (.t rfl) (.const _)) ?_
   refine Ah ?_
   refine CW.b rfl (fun h34=>?_) (fun h34=>?_)
   ·replace h34:=dQ h34
    refine Af (I rfl (LW.A rfl (Ah (Am (Ar (A7 (Ar (Ar (A7 (Ar ?_))))))))))
    refine KW.q ?_
    exact⟨ss,hw,hn,(hS.own 1 rfl).F5 (fun i h=>(hS.foot 1 rfl i h).resolve_left (fun h=>h)),hS.Ch⟩
   replace h34:=dQ h34
   have hnx1:1≤nx.length:=by omega
   refine Aj (Ac (Ai ?_))
   obtain⟨x,hx⟩:=Ae (xs:=xs) (i:=k) hkl
   obtain⟨Bc,oc,ac_,hcc⟩:=(Els.up hE hS.Ch) k x hx
   have hpk:=Fp (c:=x) (n:=(nx.length:Int)) (hxs x (ai hx)) oQ
   obtain⟨kk,ekk⟩:∃k:Nat,(k:Int)=Cj x nx.length:=⟨_,Int.toNat_of_nonneg hpk.1⟩
   have hkk:kk<nx.length:=by omega
   obtain⟨y,hy⟩:=Ae (xs:=nx) (i:=kk) hkk
   have hyr:=sN hFw hw (enx▸ai hy)
   obtain⟨c,rfl⟩:∃c:Nat,y=(c:Int):=⟨y.toNat,by omega⟩
   have hcL:c<L.length:=by omega
   have hcm:(c:Int)∈K1 L (Kt L ss):=enx▸ai hy
   obtain⟨s,hs⟩:=Ae (xs:=L) (i:=c) hcL
   obtain⟨Bn,on_,an,hcn⟩:=hEn kk (c:Int) hy
   refine Rq 24 22 23 21 16 57 (Fact.cells Io) [.eq (.agg (Cx av L.length cv none 0 0)),.eq (vi i0),.eq (.slice adv (Di L m i0 t0 ss).length cpv),.eq (vi ((Di L m i0 t0 ss).length:Int)),.eq (vi (i0+(ss.length:Int))),.eq (vi m),.eq (.slice adn nx.length cpn),.eq (.slice ad xs.length cp),.eq (vi (k:Int)),.eq (.pointer (some ⟨Bc,oc+k*1,none⟩)),.eq (vi x),.eq (.slice adn nx.length cpn),.eq (vi (nx.length:Int)),.eq (vi (kk:Int)),.eq (.pointer (some ⟨Bn,on_+kk*1,none⟩)),.eq (vi (c:Int)),.eq (vi t0),.eq (.slice adv (Di L m i0 t0 ss).length cpv),.eq (vi ((Di L m i0 t0 ss).length:Int)),.eq (vi (10*(ss.length:Int))),.eq (vi (t0+10*(ss.length:Int))),.eq (.agg (Fact.cells (nR L m i0 t0 ss.length c s.mn))),.pred fun v _=>∃B,v=.pointer (some ⟨B,0,none⟩),.eq (undef)] [] ll lh kQ rfl kQ kQ kQ kQ kQ kQ kQ rfl rfl ⟨_,_,_,rfl⟩ _ rfl ⟨_,_,_,rfl⟩ ⟨ot,ot,ot,ot,ot,ot,ot,ot,ot,ot,ot,ot,ot,ot,ot,ot,ot,ot,ot,ot,ot,ot,PhT.pred fun _ _ _ h _=>h,ot,trivial⟩ rfl (fun v W h=>⟨_,h,rfl,Fact.one _⟩) (fun B W=>⟨B,rfl⟩) ?_ ?_
   ·intro W hU0
    have hU:=(Up.drew w3).trans hU0
    have hSW:=hS.up hU
    refine aC (.inr ⟨rfl,TU.p (.lc rfl hSW.b0.agg) rfl⟩) ?_
    refine aC (.inr ⟨rfl,TU.p (.mv rfl) rfl⟩) ?_
    refine aC (.inr ⟨rfl,TU.p (.mv rfl) rfl⟩) ?_
    refine aC (.inr ⟨rfl,TU.p (.Ck lf (.t rfl)) rfl⟩) ?_
    refine aC (.inr ⟨rfl,TU.p (.Dt (v':=vi (i0+(ss.length:Int))) (PEv.add (.t rfl) (.t rfl) (by rw[Ci];omega) (by rw[Ci];omega)) (by rw[Ci])) rfl⟩) ?_
    refine aC (.inr ⟨rfl,TU.p (.mv rfl) rfl⟩) ?_
    refine aC (.inr ⟨rfl,TU.p (.mv rfl) rfl⟩) ?_
    refine aC (.inr ⟨rfl,TU.p (.mv rfl) rfl⟩) ?_
    refine aC (.inr ⟨rfl,TU.p (.mv rfl) rfl⟩) ?_
    refine aC (.inr ⟨rfl,TU.p (.Ao k_ lg (j:=k) (.t rfl) (.t rfl) oQ ac_) rfl⟩) ?_
    refine aC (.inr ⟨rfl,TU.p (.lb rfl (AggAt.nth (j:=0) (AggAt.up hcc hU) rfl)) rfl⟩) ?_
    refine aC (.inr ⟨rfl,TU.p (.mv rfl) rfl⟩) ?_
    refine aC (.inr ⟨rfl,TU.p (.Ck k_ (.t rfl)) rfl⟩) ?_
    refine aC (.inr ⟨rfl,TU.c (eC (.u rfl rfl) (IK)) (gJ x (nx.length:Int) W oQ) (by rintro _ W1 ⟨rfl,u⟩;exact⟨u,by rw[←ekk];rfl⟩)⟩) ?_
    refine aC (.inr ⟨rfl,TU.p (.Ao k_ lg (j:=kk) (.t rfl) (.t rfl) oQ an) rfl⟩) ?_
    refine aC (.inr ⟨rfl,TU.p (.lb rfl (AggAt.nth (j:=0) (AggAt.up hcn hU) rfl)) rfl⟩) ?_
    refine aC (.inr ⟨rfl,TU.p (.mv rfl) rfl⟩) ?_
    refine aC (.inr ⟨rfl,TU.p (.mv rfl) rfl⟩) ?_
    refine aC (.inr ⟨rfl,TU.p (.Ck lf (.t rfl)) rfl⟩) ?_
    refine aC (.inr ⟨rfl,TU.p (.Dt (v':=vi (10*(ss.length:Int))) (Kd (.const _) (.t rfl)) (by rw[Ci];exact bi vi (Ex oQ oQ))) rfl⟩) ?_
    refine aC (.inr ⟨rfl,TU.p (.add (.t rfl) (.t rfl) oQ oQ) rfl⟩) ?_
    refine aC (.inr ⟨rfl,TU.c (eC (.ct rfl (.ct rfl (.ct rfl (.ct rfl (.cu rfl))))) (IJ)) (tG av cv L m i0 t0 ss.length c s W (hF.up hSW.Ch) hs hM oQ ht) sQ⟩) ?_
    refine aC (.inl (.inl rfl)) ?_
    refine aC (.inl (.inr rfl)) ?_
    exact allL.nil
   intro w4 B16 g hU0 zB16_ hB16 hg
   have hU:=(Up.drew w3).trans hU0
   have zw4:=hU.size
   have zdr:w3.drew.heap.size=w3.heap.size:=rfl
   have g57_:g 57=.agg (Fact.cells (nR L m i0 t0 ss.length c s.mn)):=hg 21 _ 57 cQ rfl rfl
   rw[g57_]at hB16
   replace hB16:Blk w4 B16 (Fact.cells (nR L m i0 t0 ss.length c s.mn)) 35:=hB16
   change LW _ _ _ _ _ _ _ _ ((16,_)::_) _
   clear hg
   replace hEn:=hEn.up hU
   replace hS:=(hS.up (Up.drew _)).add hU0 (A':=A5 B16 (Fact.cells (nR L m i0 t0 ss.length c s.mn)) 35) hB16 (fun i(e:i=B16)=>by omega)
   change Wx.Sep _ _ _ [_,_,_]at hS
   clear hB16
   refine An (Aa ?_)
   refine U (.fB 5 rfl) ?_
   refine U (.Dt (v':=vi (t0+10*(ss.length:Int))) (PEv.lb rfl (hS.b2.Ad rfl)) rfl) ?_
   refine U (.Dt (v':=vi (t0+10*(ss.length:Int)+5)) (PEv.add (.t rfl) (.const _) oQ oQ) rfl) ?_
   refine U (.fB 6 rfl) ?_
   refine Cd (.store lg (.t rfl) (.t rfl) rfl hS.b2 bQ) ?_
   intro w5 Nw5
   have zw5:=Nw5.size
   replace hS:=hS.Ek 2 rfl (show Set_ _ w5 _ (Fact.cells (Ky L m i0 t0 ss.length c)) _ from Nw5)
   change Wx.Sep _ _ _ [_,_,_]at hS
   refine Ah (Aa (I rfl ?_))
   refine U (.lc rfl (hS.b2.agg)) ?_
   refine Ap (.buildSlice (xs:=[Ky L m i0 t0 ss.length c]) (enc:=Fact.cells) (mk:=fun f=>.agg f.cells) lf lh ll rfl cQ (fun _=>rfl) (fun _=>rfl) (.cu rfl) rfl) rfl ?_
   rintro _ w6 ⟨B64,cB64,rfl,NB64,yB64,xB64⟩
   have eB64:=NB64.at_
   have zB64:=NB64.size
   replace hS:=hS.up NB64.up
   have hE64:=xB64
   refine Ap (.C3 (enc:=Fact.cells) (bytes:=160) (i:=Tryz.t35) lf kQ rfl rfl rfl rfl cQ (fun _=>rfl) Fact.one (.t rfl) (.t rfl) (hS.own 1 rfl) (Ay hE64) (by have:=Ci (L:=L) (m:=m) (i0:=i0) (t0:=t0) (ss:=ss);simp[maxLen];omega) (by have:=Ci (L:=L) (m:=m) (i0:=i0) (t0:=t0) (ss:=ss);simp;omega)) rfl ?_
   intro v65 w7 Gw7
   have zw7:=Gw7.fr.size
   replace hS:=hS.Fs 1 rfl Gw7
   change Wx.Sep _ _ _ [_,_,_]at hS
   refine LW.A rfl (LW.nil (Al (Ac (Aa (I rfl ?_)))))
   refine U (.ic rfl oQ) ?_
   refine LW.A rfl (LW.nil (Av ?_))
   exact⟨(k+1,ss++[c],v65),⟨by show k+1≤xs.length;omega,Wlk.snoc ss c hw hcL hcm,by show(ss++[c]).length≤8;rw[ak,dy];omega,by show Wx.Sep _ _ _ [_,Aw _ _ _ _ (Di _ _ _ _ (ss++[c]))];rw[nL];exact hS.take 2⟩,tQ,by show xs.length-(k+1)<xs.length-k;omega⟩
  replace h26:=dQ h26
  refine A8 (Ab (Ab (Aq (Ac (Af (I rfl (LW.A rfl (Ah (Am ?_)))))))))
  refine KW.q ?_
  exact⟨ss,hw,hn,(hS.own 1 rfl).F5 (fun i h=>(hS.foot 1 rfl i h).resolve_left (fun h=>h)),hS.Ch⟩
 |false=>
  have hkl:=cd hq3
  refine Aa (I rfl (I rfl ?_))
  refine U (.Ck k_ (.t rfl)) ?_
  refine U (.fa (PEv.l2 rfl rfl) (br oQ)) ?_
  refine I rfl ?_
  refine Bh ?_
  refine Bh ?_
  refine Bh ?_
  refine Bh ?_
  refine U (.Cv (b:=false) (.t rfl) (fun hp=>absurd (show false=true from hp) cQ)) ?_
  refine Ah ?_
  refine CW.f rfl ?_
  refine A8 (Ab (Ab (Aq (Ac (Af (I rfl (LW.A rfl (Ah (Am ?_)))))))))
  refine KW.q ?_
  exact⟨ss,hw,hn,(hS.own 1 rfl).F5 (fun i h=>(hS.foot 1 rfl i h).resolve_left (fun h=>h)),hS.Ch⟩
theorem jY{b:Base}{a:GAct}{L:List Sk}{l:List Fact}(h:WhyH b a L l):(K1 L l).length≤1000000000:=by
 by_cases h0:l=[]
 · subst h0;exact a_ rfl
 have hl1:1≤l.length:=gb.2 h0
 obtain⟨p,hp⟩:=Ae (xs:=l) (i:=l.length-1) oQ
 have hr:=h.hst p (ai hp)
 obtain⟨j,hj⟩:∃j:Nat,p.Step=(j:Int):=⟨p.Step.toNat,by omega⟩
 obtain⟨s,hs⟩:=Ae (xs:=L) (i:=j) oQ
 rw[D5 hp hl1 hj hs]
 have h1:=Wp s l j
 have h2:=h.fw.l s (ai hs)
 omega
set_option maxHeartbeats 1000000 in
theorem nW(ad:Option Addr)(cp:Nat)(xs:List I6)(hxs:∀y∈xs,cO y)(ad1:Option Addr)(cp1:Nat)(one:List Int)(hone:∀y∈one,Yq y)(hol:one.length≤maxLen)(ad2:Option Addr)(cp2:Nat)(two:List Int)(htwo:∀y∈two,Yq y)(htl:two.length≤maxLen)(tJ:Int)(hat0:Yq tJ)(w:World)(hE:Els w ad 6 I6.cells xs)(hE1:Els w ad1 1 A3 one)(hE2:Els w ad2 1 A3 two)(hG:GM w):Ret prog 3 #[.slice ad xs.length cp,.slice ad1 one.length cp1,.slice ad2 two.length cp2,vi tJ] w fun r w'=>r=.bool true∧Up w w':=by
 obtain⟨w0,rfl,hS⟩:=W0 w
 refine cT 137 func3 rfl ?_
 refine Af (Az (An (Aa ?_)))
 refine A4 (eC .nil (LK)) rfl (nB _) ?_
 rintro _ w1 ⟨rfl,uw1⟩
 have zw1:=uw1.size
 replace hS:=hS.up uw1
 refine LW.A rfl (An (Aa (I rfl ?_)))
 refine A4 (eC (.o rfl) (LL)) rfl (xA ad cp xs hxs _ (Els.up hE hS.Ch)) ?_
 rintro _ w2 ⟨av,cv,L,v0,rfl,hlr,hMk,hNs⟩
 have zN:=hNs.size
 replace hS:=hS.join hNs
 change Wx.Sep _ _ _ [_,_]at hS
 refine I rfl (U (.xt rfl rfl) (U (.xt rfl rfl) ?_))
 refine Ap (.Cb mu) rfl ?_
 rintro _ w3 ⟨B11,rfl,MB11⟩
 refine LW.A rfl ?_
 refine Cd (.Cc m_ rfl (.t rfl) (.t rfl) (Hy _ _ _ _ _ _) MB11.blk rfl) ?_
 intro w4 LB11
 have NB11:=MB11.set LB11
 clear LB11 MB11
 have eB11:=NB11.at_
 have zB11:=NB11.size
 replace hS:=hS.Cg NB11
 change Wx.Sep _ _ _ [_,_,_]at hS
 refine An (Aa (I rfl ?_))
 refine A4 (eC (.ct rfl (.cons (.const _) .nil)) (LM)) rfl (nC tJ 120 _ cQ) ?_
 rintro _ w5 ⟨rfl,uw5⟩
 have zw5:=uw5.size
 replace hS:=hS.up uw5
 have hat:=Fp (c:=tJ) (n:=120) hat0 cQ
 obtain⟨at_,eat⟩:∃z,z=Cj tJ 120:=⟨_,rfl⟩
 rw[←eat]at hat⊢
 refine LW.A rfl (An ?_)
 have hS0_:=hS
 obtain⟨bz,ebz⟩:∃b,b=w5.heap.size:=⟨_,rfl⟩
 refine C9 6 kQ kQ kQ kQ kQ rfl rfl ?_
 refine J (.lc rfl (hS.b2.agg)) ?_
 refine J (.mv rfl) ?_
 refine Sn (p:=fun v W=>∃ss:List Nat,Wlk L ss∧ss.length≤8∧OwnS W bz 35 19 Fact.cells v (Di L 1 1 0 ss)) (fun _ _ _⟨ss,h1,h2,h3⟩u=>⟨ss,h1,h2,h3.up u⟩) (fun a w _ ha=>Bi (.ct rfl (.ct rfl (.cons (.const _) (.cons (.const _) (.cons (.const _) (.cons (.const _) .nil)))))) (KX) a ha) rfl rfl (fun w hu=>(cH av cv L ad1 cp1 one 1 1 0 w (FlG.up (hS.get 0 rfl) hu) hMk hlr (Els.up hE1 (hS.Ch.trans hu)) hone hol cQ cQ).mono fun _ _⟨ss,h1,h2,h3,h4⟩=>⟨h4,ss,h1,h2,h3.mono (by rw[ebz];exact hu.size)⟩) ?_
 refine J (.lc rfl (hS.b2.agg)) ?_
 refine J (.mv rfl) ?_
 refine Sn (p:=fun v W=>∃ss:List Nat,Wlk L ss∧ss.length≤8∧OwnS W bz 35 19 Fact.cells v (Di L 2 101 3 ss)) (fun _ _ _⟨ss,h1,h2,h3⟩u=>⟨ss,h1,h2,h3.up u⟩) (fun a w _ ha=>Bi (.ct rfl (.ct rfl (.cons (.const _) (.cons (.const _) (.cons (.const _) (.cons (.const _) .nil)))))) (KX) a ha) rfl rfl (fun w hu=>(cH av cv L ad2 cp2 two 2 101 3 w (FlG.up (hS.get 0 rfl) hu) hMk hlr (Els.up hE2 (hS.Ch.trans hu)) htwo htl cQ cQ).mono fun _ _⟨ss,h1,h2,h3,h4⟩=>⟨h4,ss,h1,h2,h3.mono (by rw[ebz];exact hu.size)⟩) ?_
 refine HW.nil ?_
 intro w6 uw6
 have zw6:=uw6.size
 replace hS:=hS.up uw6
 refine Js (d:=35) rfl fun v35 hp35=>?_
 obtain⟨sa,hwa,hla,hOa⟩:=hp35
 refine Js (d:=38) rfl fun v38 hp38=>?_
 obtain⟨sb,hwb,hlb,hOb⟩:=hp38
 replace hS:=hS0_.add uw6 (A':=Aw 35 19 Fact.cells (v35) (Di L 1 1 0 sa)) (hOa.mono (a8 _)) (fun i h=>by rw[←ebz];exact hOa.base i h)
 change Wx.Sep _ _ _ [_,_,_,_]at hS
 refine Ap (.C3 (enc:=Fact.cells) (bytes:=160) (i:=Tryz.t35) lf kQ rfl rfl rfl rfl cQ (fun _=>rfl) Fact.one (.t rfl) (.t rfl) (hS.own 3 rfl) (hOb.sl (fun _=>rfl)) (by have q1:=Em (bs (C4 L));have q2:=Ci (L:=L) (m:=1) (i0:=1) (t0:=0) (ss:=sa);have q3:=Ci (L:=L) (m:=2) (i0:=101) (t0:=3) (ss:=sb);have q4:(C1 L sa sb).length=(Di L 1 1 0 sa).length+(Di L 2 101 3 sb).length:=ak;simp[maxLen];omega) (by have q1:=Em (bs (C4 L));have q2:=Ci (L:=L) (m:=1) (i0:=1) (t0:=0) (ss:=sa);have q3:=Ci (L:=L) (m:=2) (i0:=101) (t0:=3) (ss:=sb);have q4:(C1 L sa sb).length=(Di L 1 1 0 sa).length+(Di L 2 101 3 sb).length:=ak;simp;omega)) rfl ?_
 intro v39 w7 Gw7
 have zw7:=Gw7.fr.size
 replace hS:=hS.Fs 3 rfl Gw7
 change Wx.Sep _ _ _ [_,_,_,_]at hS
 obtain⟨adw,cpw,rfl,_⟩:=(hS.own 3 rfl).sl (fun _=>rfl)
 change Wx.Sep _ _ _ [_,_,_,Aw 35 19 Fact.cells (.slice adw (C1 L sa sb).length cpw) (C1 L sa sb)]at hS
 refine LW.A rfl (An (Aa ?_))
 refine Ap (.buildSlice (xs:=([]:List Fact)) (enc:=Fact.cells) (mk:=fun f=>.agg f.cells) lf lh ll rfl cQ (fun _=>rfl) (fun _=>rfl) .nil rfl) rfl ?_
 intro v40 w8 hN40
 obtain⟨uw8,B40,rfl,hO40⟩:=Jg hN40 (bl _)
 have zw8:=uw8.size
 replace hS:=hS.add uw8 (A':=Aw 35 19 Fact.cells (.slice (some ⟨B40,0,none⟩) 0 0) ([]:List Fact)) (hO40.mono (a8 _)) (fun i h=>hO40.base i h)
 clear hN40 hO40
 change Wx.Sep _ _ _ [_,_,_,_,_]at hS
 refine I rfl ?_
 refine Ap (.C3 (enc:=Fact.cells) (bytes:=160) (i:=Tryz.t35) lf kQ rfl rfl rfl rfl cQ (fun _=>rfl) Fact.one (.t rfl) (.t rfl) (hS.own 4 rfl) ((hS.own 1 rfl).sl (fun _=>rfl)) (by have q1:=Em (bs (C4 L));have q2:=Ci (L:=L) (m:=1) (i0:=1) (t0:=0) (ss:=sa);have q3:=Ci (L:=L) (m:=2) (i0:=101) (t0:=3) (ss:=sb);have q4:(C1 L sa sb).length=(Di L 1 1 0 sa).length+(Di L 2 101 3 sb).length:=ak;simp[maxLen];omega) (by have q1:=Em (bs (C4 L));have q2:=Ci (L:=L) (m:=1) (i0:=1) (t0:=0) (ss:=sa);have q3:=Ci (L:=L) (m:=2) (i0:=101) (t0:=3) (ss:=sb);have q4:(C1 L sa sb).length=(Di L 1 1 0 sa).length+(Di L 2 101 3 sb).length:=ak;simp;omega)) rfl ?_
 intro v42 w9 Gw9
 have zw9:=Gw9.fr.size
 replace hS:=hS.Fs 4 rfl Gw9
 change Wx.Sep _ _ _ [_,_,_,_,_]at hS
 rw[du]at hS
 change Wx.Sep _ _ _ [_,_,_,_,_]at hS
 refine I rfl ?_
 refine Ap (.C3 (enc:=Fact.cells) (bytes:=160) (i:=Tryz.t35) lf kQ rfl rfl rfl rfl cQ (fun _=>rfl) Fact.one (.t rfl) (.t rfl) (hS.own 4 rfl) ((hS.own 3 rfl).sl (fun _=>rfl)) (by have q1:=Em (bs (C4 L));have q2:=Ci (L:=L) (m:=1) (i0:=1) (t0:=0) (ss:=sa);have q3:=Ci (L:=L) (m:=2) (i0:=101) (t0:=3) (ss:=sb);have q4:(C1 L sa sb).length=(Di L 1 1 0 sa).length+(Di L 2 101 3 sb).length:=ak;simp[maxLen];omega) (by have q1:=Em (bs (C4 L));have q2:=Ci (L:=L) (m:=1) (i0:=1) (t0:=0) (ss:=sa);have q3:=Ci (L:=L) (m:=2) (i0:=101) (t0:=3) (ss:=sb);have q4:(C1 L sa sb).length=(Di L 1 1 0 sa).length+(Di L 2 101 3 sb).length:=ak;simp;omega)) rfl ?_
 intro v44 w10 Gw10
 have zw10:=Gw10.fr.size
 replace hS:=hS.Fs 4 rfl Gw10
 change Wx.Sep _ _ _ [_,_,_,_,_]at hS
 refine LW.A rfl (An (Aa (I rfl (I rfl ?_))))
 refine U (.build (cs:=(Lj at_).cells) me ll Fk (.cons (.const _) (.cons (.const _) (.cons (.const _) (.cons (.const _) (.cons (.const _) (.cons (.const _) (.cu rfl))))))) kQ) ?_
 refine Ap (.buildSlice (xs:=[Lj at_]) (enc:=Fact.cells) (mk:=fun f=>.agg f.cells) lf lh ll rfl cQ (fun _=>rfl) (fun _=>rfl) (.cu rfl) rfl) rfl ?_
 rintro _ w11 ⟨B48,cB48,rfl,NB48,yB48,xB48⟩
 have eB48:=NB48.at_
 have zB48:=NB48.size
 replace hS:=hS.up NB48.up
 have hE48:=xB48
 refine Ap (.C3 (enc:=Fact.cells) (bytes:=160) (i:=Tryz.t35) lf kQ rfl rfl rfl rfl cQ (fun _=>rfl) Fact.one (.t rfl) (.t rfl) (hS.own 4 rfl) (Ay hE48) (by have q1:=Em (bs (C4 L));have q2:=Ci (L:=L) (m:=1) (i0:=1) (t0:=0) (ss:=sa);have q3:=Ci (L:=L) (m:=2) (i0:=101) (t0:=3) (ss:=sb);have q4:(C1 L sa sb).length=(Di L 1 1 0 sa).length+(Di L 2 101 3 sb).length:=ak;simp[maxLen];omega) (by have q1:=Em (bs (C4 L));have q2:=Ci (L:=L) (m:=1) (i0:=1) (t0:=0) (ss:=sa);have q3:=Ci (L:=L) (m:=2) (i0:=101) (t0:=3) (ss:=sb);have q4:(C1 L sa sb).length=(Di L 1 1 0 sa).length+(Di L 2 101 3 sb).length:=ak;simp;omega)) rfl ?_
 intro v49 w12 Gw12
 have zw12:=Gw12.fr.size
 replace hS:=hS.Fs 4 rfl Gw12
 change Wx.Sep _ _ _ [_,_,_,_,_]at hS
 rw[c6]at hS
 change Wx.Sep _ _ _ [_,_,_,_,_]at hS
 obtain⟨adk,cpk,rfl,_⟩:=(hS.own 4 rfl).sl (fun _=>rfl)
 refine LW.A rfl (An (Aa ?_))
 refine Ap (.buildSlice (xs:=([]:List Fact)) (enc:=Fact.cells) (mk:=fun f=>.agg f.cells) lf lh ll rfl cQ (fun _=>rfl) (fun _=>rfl) .nil rfl) rfl ?_
 intro v50 w13 hN50
 obtain⟨uw13,B50,rfl,hO50⟩:=Jg hN50 (bl _)
 have zw13:=uw13.size
 replace hS:=hS.add uw13 (A':=Aw 35 19 Fact.cells (.slice (some ⟨B50,0,none⟩) 0 0) ([]:List Fact)) (hO50.mono (a8 _)) (fun i h=>hO50.base i h)
 clear hN50 hO50
 change Wx.Sep _ _ _ [_,_,_,_,_,_]at hS
 refine I rfl ?_
 refine Ap (.C3 (enc:=Fact.cells) (bytes:=160) (i:=Tryz.t35) lf kQ rfl rfl rfl rfl cQ (fun _=>rfl) Fact.one (.t rfl) (.t rfl) (hS.own 5 rfl) ((hS.own 1 rfl).sl (fun _=>rfl)) (by have q1:=Em (bs (C4 L));have q2:=Ci (L:=L) (m:=1) (i0:=1) (t0:=0) (ss:=sa);have q3:=Ci (L:=L) (m:=2) (i0:=101) (t0:=3) (ss:=sb);have q4:(C1 L sa sb).length=(Di L 1 1 0 sa).length+(Di L 2 101 3 sb).length:=ak;simp[maxLen];omega) (by have q1:=Em (bs (C4 L));have q2:=Ci (L:=L) (m:=1) (i0:=1) (t0:=0) (ss:=sa);have q3:=Ci (L:=L) (m:=2) (i0:=101) (t0:=3) (ss:=sb);have q4:(C1 L sa sb).length=(Di L 1 1 0 sa).length+(Di L 2 101 3 sb).length:=ak;simp;omega)) rfl ?_
 intro v52 w14 Gw14
 have zw14:=Gw14.fr.size
 replace hS:=hS.Fs 5 rfl Gw14
 change Wx.Sep _ _ _ [_,_,_,_,_,_]at hS
 rw[du]at hS
 change Wx.Sep _ _ _ [_,_,_,_,_,_]at hS
 refine LW.A rfl (An (Ai ?_))
 have hWis:=jV (Qn (hMk.rX hlr) hwa).st (Qn (hMk.rX hlr) hwb).st hla hlb
 have hWlen:(C1 L sa sb).length≤16:=by have q1:=Em (bs (C4 L));have q2:=Ci (L:=L) (m:=1) (i0:=1) (t0:=0) (ss:=sa);have q3:=Ci (L:=L) (m:=2) (i0:=101) (t0:=3) (ss:=sb);have q4:(C1 L sa sb).length=(Di L 1 1 0 sa).length+(Di L 2 101 3 sb).length:=ak;omega
 refine Aa (Az (Ah (Ak ?_)))
 refine A6 (σ:=Nat×Go.Value) (fun s w=>(s.1≤(C1 L sa sb).length)∧(Wx.Sep no w0 w [mT av L,Aw 35 19 Fact.cells (v0) (Ee (bs (C4 L))),A5 B11 (Cx av L.length cv none 0 0) 29,Aw 35 19 Fact.cells (.slice adw (C1 L sa sb).length cpw) (C1 L sa sb),Aw 35 19 Fact.cells (.slice adk (Ee (bs (C4 L))++(C1 L sa sb++[Lj at_])).length cpk) (Ee (bs (C4 L))++(C1 L sa sb++[Lj at_])),Aw 35 19 Fact.cells (s.2) (Ee (bs (C4 L))++((C1 L sa sb).take s.1).map (Dy at_))])) (fun s=>[(15,.eq (vi (s.1:Int))),(14,.eq (s.2))]) ([(3,.eq _),(8,.eq _),(9,.eq _),(12,.eq _),(13,.eq _)]) (fun s=>(C1 L sa sb).length-s.1) (0,v52) ?_ tQ ?_
 ·exact⟨a8 _,(by show Wx.Sep _ _ _ [_,_,_,_,_,Aw _ _ _ _ (_++[])];rw[dk];exact hS)⟩
 rintro⟨k,v⟩ w15 ⟨hk,hS⟩
 dsimp only at hk hS
 change Wx.Sep _ _ _ [_,_,_,_,_,_]at hS
 change CW _ _ _ _ _ _ _ ([(15,.eq (vi (k:Int))),(14,.eq (v))]++_) _
 refine Ai (Af (I rfl (I rfl ?_)))
 refine U (.Ck lf (.t rfl)) ?_
 refine U (.l2 rfl rfl) ?_
 refine Ah ?_
 refine CW.b rfl (fun h56=>?_) (fun h56=>?_)
 ·replace h56:=dQ h56
  refine Aj (Ac (Ai (Ak (Ai ?_))))
  have hkl:k<(C1 L sa sb).length:=cm.1 h56
  obtain⟨p,hp⟩:=Ae (xs:=C1 L sa sb) (i:=k) hkl
  obtain⟨Bp,op,ap,hcp⟩:=(Cf (hS.own 3 rfl) (fun _=>rfl)) k p hp
  have hpw:=(hWis p (ai hp)).plain.2.2.2.1
  refine Aa (I rfl (I rfl ?_))
  refine U (.Ao lf lh (j:=k) (.t rfl) (.t rfl) oQ ap) ?_
  refine U (.lc rfl (hcp)) ?_
  refine Ap (.Cb ll) rfl ?_
  rintro _ w16 ⟨B16,rfl,MB16⟩
  refine Cd (.Cc lh rfl (.t rfl) (.t rfl) (Fact.one _) MB16.blk rfl) ?_
  intro w17 LB16
  have NB16:=MB16.set LB16
  clear LB16 MB16
  have eB16:=NB16.at_
  have zB16:=NB16.size
  replace hS:=hS.Cg NB16
  change Wx.Sep _ _ _ [_,_,_,_,_,_,_]at hS
  refine Ah ?_
  refine E1 (fun a1 W=>Ag 137 [] ([(3,.eq (vi at_)),(8,.eq (.bool false)),(9,.eq (.bool true)),(12,.eq (.slice adw (C1 L sa sb).length cpw)),(13,.eq (.slice adk (Ee (bs (C4 L))++(C1 L sa sb++[Lj at_])).length cpk)),(14,.eq (v)),(15,.eq (vi (k:Int))),(16,.eq (.pointer (some ⟨B16,0,none⟩)))]) a1 W∧Wx.Sep no w0 W [mT av L,Aw 35 19 Fact.cells (v0) (Ee (bs (C4 L))),A5 B11 (Cx av L.length cv none 0 0) 29,Aw 35 19 Fact.cells (.slice adw (C1 L sa sb).length cpw) (C1 L sa sb),Aw 35 19 Fact.cells (.slice adk (Ee (bs (C4 L))++(C1 L sa sb++[Lj at_])).length cpk) (Ee (bs (C4 L))++(C1 L sa sb++[Lj at_])),Aw 35 19 Fact.cells (v) (Ee (bs (C4 L))++((C1 L sa sb).take k).map (Dy at_)),A5 B16 (Fact.cells (Dy at_ p)) 35]) ?_ ?_
  ·skip
   refine Af ?_
   refine U (.fB 5 rfl) ?_
   refine U (.lb rfl ((hS.blk 6 rfl).Ad rfl)) ?_
   refine I rfl ?_
   refine U (.geq (.t rfl) (.t rfl)) ?_
   refine Ah ?_
   refine CW.b rfl (fun h66=>?_) (fun h66=>?_)
   ·replace h66:=dQ h66
    refine Aa ?_
    refine U (.fB 7 rfl) ?_
    refine U (.lb rfl ((hS.blk 6 rfl).Ad rfl)) ?_
    refine U (.Dt (v':=vi (3-p.Wafer)) (PEv.sub (.const _) (.t rfl) oQ oQ) rfl) ?_
    refine U (.fB 7 rfl) ?_
    refine Cd (.store lg (.t rfl) (.t rfl) rfl (hS.blk 6 rfl) bQ) ?_
    intro w18 Nw18
    have zw18:=Nw18.size
    replace hS:=hS.Ek 6 rfl (show Set_ _ w18 _ (Fact.cells { p with Wafer:=3-p.Wafer }) _ from Nw18)
    change Wx.Sep _ _ _ [_,_,_,_,_,_,_]at hS
    refine LW.nil ?_
    exact fun a ha=>⟨ha.sub tQ,(by first|(rw[Dy,bh h66];exact hS)|(rw[Dy,aq h66];exact hS))⟩
   replace h66:=dQ h66
   refine Aj ?_
   exact fun a ha=>⟨ha.sub tQ,(by first|(rw[Dy,bh h66];exact hS)|(rw[Dy,aq h66];exact hS))⟩
  rintro a1 w19 ⟨ha,hS⟩
  revert a1
  show CW none _ _ _ _ _ _ _ _
  refine Aa (I rfl ?_)
  refine U (.lc rfl ((hS.blk 6 rfl).agg)) ?_
  refine Ap (.buildSlice (xs:=[Dy at_ p]) (enc:=Fact.cells) (mk:=fun f=>.agg f.cells) lf lh ll rfl cQ (fun _=>rfl) (fun _=>rfl) (.cu rfl) rfl) rfl ?_
  rintro _ w20 ⟨B73,cB73,rfl,NB73,yB73,xB73⟩
  have eB73:=NB73.at_
  have zB73:=NB73.size
  replace hS:=hS.up NB73.up
  have hE73:=xB73
  refine Ap (.C3 (enc:=Fact.cells) (bytes:=160) (i:=Tryz.t35) lf kQ rfl rfl rfl rfl cQ (fun _=>rfl) Fact.one (.t rfl) (.t rfl) (hS.own 5 rfl) (Ay hE73) (by have q1:=Em (bs (C4 L));have q2:=Ci (L:=L) (m:=1) (i0:=1) (t0:=0) (ss:=sa);have q3:=Ci (L:=L) (m:=2) (i0:=101) (t0:=3) (ss:=sb);have q4:(C1 L sa sb).length=(Di L 1 1 0 sa).length+(Di L 2 101 3 sb).length:=ak;simp[maxLen];omega) (by have q1:=Em (bs (C4 L));have q2:=Ci (L:=L) (m:=1) (i0:=1) (t0:=0) (ss:=sa);have q3:=Ci (L:=L) (m:=2) (i0:=101) (t0:=3) (ss:=sb);have q4:(C1 L sa sb).length=(Di L 1 1 0 sa).length+(Di L 2 101 3 sb).length:=ak;simp;omega)) rfl ?_
  intro v74 w21 Gw21
  have zw21:=Gw21.fr.size
  replace hS:=hS.Fs 5 rfl Gw21
  change Wx.Sep _ _ _ [_,_,_,_,_,_,_]at hS
  refine LW.A rfl (LW.nil (Al (Ac (Aa (I rfl ?_)))))
  refine U (.ic rfl oQ) ?_
  refine LW.A rfl (LW.nil (Av ?_))
  exact⟨(k+1,v74),⟨by show k+1≤_;omega,by show Wx.Sep _ _ _ [_,_,_,_,_,Aw _ _ _ _ (_++((C1 L sa sb).take (k+1)).map (Dy at_))];rw[Qq hp,←c6];exact hS.take 6⟩,tQ,by show(C1 L sa sb).length-(k+1)<(C1 L sa sb).length-k;omega⟩
 replace h56:=dQ h56
 have hkl:k=(C1 L sa sb).length:=by have:¬k<(C1 L sa sb).length:=fun h=>h56 (cm.2 h);omega
 subst hkl
 refine A8 (Ab (Ab (Aq (Ac (Ai ?_)))))
 rw[b8]at hS
 obtain⟨HT,cpr,rfl,_⟩:=(hS.own 5 rfl).sl (fun _=>rfl)
 have hX:=xD hMk hlr hat hwa hwb hla hlb
 obtain⟨ba,eba⟩:∃b,b=Ll (Ee (bs (C4 L))++(C1 L sa sb++[Lj at_])) 5:=⟨_,rfl⟩
 obtain⟨bb,ebb⟩:∃b,b=Ll (Ee (bs (C4 L))++(C1 L sa sb).map (Dy at_)) 5:=⟨_,rfl⟩
 obtain⟨be,ebe⟩:∃b,b=Ll (Ee (bs (C4 L))++(C1 L sa sb++[Lj at_])) 4:=⟨_,rfl⟩
 rw[←eba,←ebb,←ebe]at hX
 refine Aa (I rfl ?_)
 refine A4 (eC (.ct rfl (.cons (.const _) .nil)) (IC)) rfl (eZ adk cpk (Ee (bs (C4 L))++(C1 L sa sb++[Lj at_])) 5 _ (Cf (hS.own 4 rfl) (fun _=>rfl)) (by have q1:=Em (bs (C4 L));have q2:=Ci (L:=L) (m:=1) (i0:=1) (t0:=0) (ss:=sa);have q3:=Ci (L:=L) (m:=2) (i0:=101) (t0:=3) (ss:=sb);have q4:(C1 L sa sb).length=(Di L 1 1 0 sa).length+(Di L 2 101 3 sb).length:=ak;simp;omega)) ?_
 rintro _ w22 ⟨bca,rfl,hC76,hb76,uw22⟩
 have zw22:=uw22.size
 replace hS:=hS.add uw22 (A':=T8 bca ba) ((eba▸hC76:BaseC _ bca ba)) (Ql hb76)
 change Wx.Sep _ _ _ [_,_,_,_,_,_,_]at hS
 have hsz76:bca.size=11:=BaseC.size hC76
 have hon76:=BaseC.one hC76
 clear hC76
 refine Ap (.Cb zeroValue37) rfl ?_
 rintro _ w23 ⟨B17,rfl,MB17⟩
 refine Cd (.Cc l6 hsz76 (.t rfl) (.t rfl) hon76 MB17.blk rfl) ?_
 intro w24 LB17
 have NB17:=MB17.set LB17
 clear LB17 MB17
 have eB17:=NB17.at_
 have zB17:=NB17.size
 replace hS:=hS.Cg NB17
 change Wx.Sep _ _ _ [_,_,_,_,_,_,_,_]at hS
 refine An (Aa (I rfl ?_))
 refine A4 (eC (.ct rfl (.cons (.const _) .nil)) (IC)) rfl (eZ HT cpr (Ee (bs (C4 L))++(C1 L sa sb).map (Dy at_)) 5 _ (Cf (hS.own 5 rfl) (fun _=>rfl)) (by have q1:=Em (bs (C4 L));have q2:=Ci (L:=L) (m:=1) (i0:=1) (t0:=0) (ss:=sa);have q3:=Ci (L:=L) (m:=2) (i0:=101) (t0:=3) (ss:=sb);have q4:(C1 L sa sb).length=(Di L 1 1 0 sa).length+(Di L 2 101 3 sb).length:=ak;simp;omega)) ?_
 rintro _ w25 ⟨bcb,rfl,hC78,hb78,uw25⟩
 have zw25:=uw25.size
 replace hS:=hS.add uw25 (A':=T8 bcb bb) ((ebb▸hC78:BaseC _ bcb bb)) (Ql hb78)
 change Wx.Sep _ _ _ [_,_,_,_,_,_,_,_,_]at hS
 have hsz78:bcb.size=11:=BaseC.size hC78
 have hon78:=BaseC.one hC78
 clear hC78
 refine Ap (.Cb zeroValue37) rfl ?_
 rintro _ w26 ⟨B18,rfl,MB18⟩
 refine Cd (.Cc l6 hsz78 (.t rfl) (.t rfl) hon78 MB18.blk rfl) ?_
 intro w27 LB18
 have NB18:=MB18.set LB18
 clear LB18 MB18
 have eB18:=NB18.at_
 have zB18:=NB18.size
 replace hS:=hS.Cg NB18
 change Wx.Sep _ _ _ [_,_,_,_,_,_,_,_,_,_]at hS
 refine An (Aa (I rfl ?_))
 refine A4 (eC (.ct rfl (.cons (.const _) .nil)) (IC)) rfl (eZ adk cpk (Ee (bs (C4 L))++(C1 L sa sb++[Lj at_])) 4 _ (Cf (hS.own 4 rfl) (fun _=>rfl)) (by have q1:=Em (bs (C4 L));have q2:=Ci (L:=L) (m:=1) (i0:=1) (t0:=0) (ss:=sa);have q3:=Ci (L:=L) (m:=2) (i0:=101) (t0:=3) (ss:=sb);have q4:(C1 L sa sb).length=(Di L 1 1 0 sa).length+(Di L 2 101 3 sb).length:=ak;simp;omega)) ?_
 rintro _ w28 ⟨bce,rfl,hC80,hb80,uw28⟩
 have zw28:=uw28.size
 replace hS:=hS.add uw28 (A':=T8 bce be) ((ebe▸hC80:BaseC _ bce be)) (Ql hb80)
 change Wx.Sep _ _ _ [_,_,_,_,_,_,_,_,_,_,_]at hS
 have hsz80:bce.size=11:=BaseC.size hC80
 have hon80:=BaseC.one hC80
 clear hC80
 refine Ap (.Cb zeroValue37) rfl ?_
 rintro _ w29 ⟨B19,rfl,MB19⟩
 refine Cd (.Cc l6 hsz80 (.t rfl) (.t rfl) hon80 MB19.blk rfl) ?_
 intro w30 LB19
 have NB19:=MB19.set LB19
 clear LB19 MB19
 have eB19:=NB19.at_
 have zB19:=NB19.size
 replace hS:=hS.Cg NB19
 change Wx.Sep _ _ _ [_,_,_,_,_,_,_,_,_,_,_,_]at hS
 refine An (Af (Az (Ah (Ak ?_))))
 refine A6 (σ:=Nat) (fun s w=>(1≤s∧s≤4)∧(Wx.Sep no w0 w [mT av L,Aw 35 19 Fact.cells (v0) (Ee (bs (C4 L))),A5 B11 (Cx av L.length cv none 0 0) 29,Aw 35 19 Fact.cells (.slice adw (C1 L sa sb).length cpw) (C1 L sa sb),Aw 35 19 Fact.cells (.slice adk (Ee (bs (C4 L))++(C1 L sa sb++[Lj at_])).length cpk) (Ee (bs (C4 L))++(C1 L sa sb++[Lj at_])),Aw 35 19 Fact.cells (.slice HT (Ee (bs (C4 L))++(C1 L sa sb).map (Dy at_)).length cpr) (Ee (bs (C4 L))++(C1 L sa sb).map (Dy at_)),T8 bca ba,A5 B17 bca 37,T8 bcb bb,A5 B18 bcb 37,T8 bce be,A5 B19 bce 37])) (fun s=>[(20,.eq (vi (s:Int)))]) ([(3,.eq _),(9,.eq _),(17,.eq _),(18,.eq _),(19,.eq _)]) (fun s=>4-s) 1 ?_ tQ ?_
 ·exact⟨cQ,hS⟩
 rintro k w31 ⟨hk,hS⟩
 refine Ai (Af (I rfl ?_))
 refine U (.leq (.t rfl) (.const _)) ?_
 refine Ah ?_
 refine CW.b rfl (fun h82=>?_) (fun h82=>?_)
 ·replace h82:=dQ h82
  refine Aj (Ac (Ai (Ak (Af ?_))))
  refine U (.Fz ml l6 (hsz76) (.t rfl) ((hS.blk 7 rfl).agg)) ?_
  refine I rfl ?_
  refine A4 (eC (.ct rfl (.ct rfl (.cons (.const _) .nil))) (KY)) rfl (cG bca ba (k:Int) 1000000 (Dg ba.Processes ba.Swaps (k:Int)) _ (hS.get 6 rfl) (hX.la _) rfl (fun x hx=>by have:=hX.ta _ x hx;omega) hX.pa.2 hX.pa.1) ?_
  rintro _ w32 ⟨s1,s2,rfl,hd1,hd2,uw32⟩
  have zw32:=uw32.size
  replace hS:=hS.up uw32
  refine I rfl (U (.xt rfl rfl) (U (.xt rfl rfl) (LW.A rfl (LW.A rfl (An (Aa ?_))))))
  refine U (.Fz ml l6 (hsz78) (.t rfl) ((hS.blk 9 rfl).agg)) ?_
  refine I rfl ?_
  refine A4 (eC (.ct rfl (.ct rfl (.cons (.const _) .nil))) (KY)) rfl (cG bcb bb (k:Int) 1000000 (Dg bb.Processes bb.Swaps (k:Int)) _ (hS.get 8 rfl) (hX.lb _) rfl (fun x hx=>by have:=hX.tb _ x hx;omega) hX.pb.2 hX.pb.1) ?_
  rintro _ w33 ⟨s3,s4,rfl,hd3,hd4,uw33⟩
  have zw33:=uw33.size
  replace hS:=hS.up uw33
  replace hd1:=hd1.up uw33
  replace hd2:=hd2.up uw33
  refine I rfl (U (.xt rfl rfl) (U (.xt rfl rfl) (LW.A rfl (LW.A rfl (An ?_)))))
  refine Db kQ rfl ?_
  obtain⟨w34,hdr⟩:∃W,W=w33.drew:=⟨_,rfl⟩
  have uw34:Up w33 w34:=by rw[hdr];exact Up.drew _
  rw[←hdr]
  clear hdr
  have zw34:=uw34.size
  replace hS:=hS.up uw34
  replace hd1:=hd1.up uw34
  replace hd2:=hd2.up uw34
  replace hd3:=hd3.up uw34
  replace hd4:=hd4.up uw34
  refine AWU.free 0 20 [.eq (s1),.eq (s3),.eq (.bool true),.eq (.bool false),.eq (.bool false),.eq (s2),.eq (s4),.eq (.bool true),.eq (.bool false),.eq (.bool false),.eq (.bool false),.eq (.agg bca),.eq (vi (k:Int)),.pred fun v W=>Sl W v 1 A3 (K1 L (Dg ba.Processes ba.Swaps (k:Int))),.eq (.agg bcb),.eq (vi (k:Int)),.pred fun v W=>Sl W v 1 A3 (K1 L (Dg bb.Processes bb.Swaps (k:Int))),.eq (.bool true),.eq (.bool false),.eq (.bool false)] [116] rfl kQ kQ kQ kQ kQ kQ kQ kQ ⟨om,om,om,om,om,om,om,om,om,om,om,om,om,PhU.pred fun _ _ _ h u=>Sl.up h u,om,om,PhU.pred fun _ _ _ h u=>Sl.up h u,om,om,om,trivial⟩ ?_ ?_
  ·intro W hU
   have hSW:=hS.up hU
   refine aC (TOp.p (PEv.mv rfl) rfl ⟨Up.refl _,rfl⟩) ?_
   refine aC (TOp.p (PEv.mv rfl) rfl ⟨Up.refl _,rfl⟩) ?_
   refine aC (TOp.c (eC (.u rfl rfl) oJ) rfl (Ic s1 s3 _ _ W (Sl.up hd1 hU) (Sl.up hd3 hU) (bu (by rw[dv];exact hX.la _) cQ) (bu (by rw[dv];exact hX.lb _) cQ)) (by rintro _ W1 ⟨rfl,u⟩;exact⟨u,bi Go.Value.bool (bj (hX.da k hk.1 oQ).1.symm)⟩)) ?_
   refine aC (TOp.p (PEv.Dt (v':=.bool false) (PEv.n1 rfl) rfl) rfl ⟨Up.refl _,rfl⟩) ?_
   refine aC (TOp.p (PEv.mv rfl) rfl ⟨Up.refl _,rfl⟩) ?_
   refine aC (TOp.py rfl rfl rfl rfl rfl (PEv.mv rfl) ⟨Up.refl _,rfl⟩) ?_
   refine aC (TOp.py rfl rfl rfl rfl rfl (PEv.mv rfl) ⟨Up.refl _,rfl⟩) ?_
   refine aC (Jj rfl rfl rfl rfl rfl (eC (.u rfl rfl) oJ) (Ic s2 s4 _ _ W (Sl.up hd2 hU) (Sl.up hd4 hU) (bu (by rw[dv];exact hX.la _) cQ) (bu (by rw[dv];exact hX.lb _) cQ)) (by rintro _ W1 ⟨rfl,u⟩;exact⟨u,bi Go.Value.bool (bj (hX.da k hk.1 oQ).2.symm)⟩)) ?_
   refine aC (TOp.py rfl rfl rfl rfl rfl (PEv.Dt (v':=.bool false) (PEv.n1 rfl) rfl) ⟨Up.refl _,rfl⟩) ?_
   refine aC (TOp.p (PEv.po rfl (fun hp=>wQ)) rfl ⟨Up.refl _,rfl⟩) ?_
   refine aC (TOp.p (PEv.mv rfl) rfl ⟨Up.refl _,rfl⟩) ?_
   refine aC (TOp.py rfl rfl rfl rfl rfl (PEv.Fz ml l6 hsz76 (.t rfl) (hSW.blk 7 rfl).agg) ⟨Up.refl _,rfl⟩) ?_
   refine aC (TOp.py rfl rfl rfl rfl rfl (PEv.mv rfl) ⟨Up.refl _,rfl⟩) ?_
   refine aC (Jj rfl rfl rfl rfl rfl (eC (.ct rfl (.ct rfl (.cons (.const _) .nil))) CD) (cF bca ba (gE k) L (Dg ba.Processes ba.Swaps (k:Int)) W (hSW.get 6 rfl) (hX.wa k hk.1 oQ) (hG.up hSW.Ch) rfl (hX.ta _) hX.pa.2 hX.pa.1) (fun v W' h=>⟨h.2.2,h.1⟩)) ?_
   refine aC (TOp.py rfl rfl rfl rfl rfl (PEv.Fz ml l6 hsz78 (.t rfl) (hSW.blk 9 rfl).agg) ⟨Up.refl _,rfl⟩) ?_
   refine aC (TOp.py rfl rfl rfl rfl rfl (PEv.mv rfl) ⟨Up.refl _,rfl⟩) ?_
   refine aC (Jj rfl rfl rfl rfl rfl (eC (.ct rfl (.ct rfl (.cons (.const _) .nil))) CD) (cF bcb bb (gE k) L (Dg bb.Processes bb.Swaps (k:Int)) W (hSW.get 8 rfl) (hX.wb k hk.1 oQ) (hG.up hSW.Ch) rfl (hX.tb _) hX.pb.2 hX.pb.1) (fun v W' h=>⟨h.2.2,h.1⟩)) ?_
   refine aC (TOp.open (d:=110) (p:=fun v W=>Sl W v 1 A3 (K1 L (Dg ba.Processes ba.Swaps (k:Int)))) rfl fun v1 k1=>TOp.open (d:=113) (p:=fun v W=>Sl W v 1 A3 (K1 L (Dg bb.Processes bb.Swaps (k:Int)))) rfl fun v2 k2=>Jj rfl rfl rfl rfl rfl (eC (.u rfl rfl) oJ) (Ic v1 v2 _ _ W k1 k2 (by rw[←hX.nx k hk.1 (by omega)];exact jY (hX.wb k hk.1 oQ)) (jY (hX.wb k hk.1 oQ))) (by rintro _ W1 ⟨rfl,u⟩;exact⟨u,bi Go.Value.bool (bj (hX.nx k hk.1 oQ).symm)⟩)) ?_
   refine aC (TOp.py rfl rfl rfl rfl rfl (PEv.Dt (v':=.bool false) (PEv.n1 rfl) rfl) ⟨Up.refl _,rfl⟩) ?_
   refine aC (TOp.p (PEv.po rfl (fun hp=>wQ)) rfl ⟨Up.refl _,rfl⟩) ?_
   exact allL.nil
  intro w35 g hU hg
  have zw35:=hU.size
  replace hS:=hS.up hU
  replace hd1:=hd1.up hU
  replace hd2:=hd2.up hU
  replace hd3:=hd3.up hU
  replace hd4:=hd4.up hU
  have e116:g 116=.bool false:=hg 19 _ 116 cQ cQ rfl rfl
  change LW _ _ _ _ _ _ _ _ ((116,.eq (g 116))::_) _
  rw[e116]
  clear e116 hg
  refine Ah ?_
  refine CW.b rfl (fun h116=>?_) (fun h116=>?_)
  ·replace h116:=dQ h116
   exact absurd h116 cQ
  replace h116:=dQ h116
  refine Aj (Al (Ac (Aa (I rfl ?_))))
  refine U (.ic rfl oQ) ?_
  refine LW.A rfl (LW.nil (Av ?_))
  exact⟨k+1,⟨by omega,hS⟩,tQ,by first|omega|(dsimp only;omega)⟩
 replace h82:=dQ h82
 refine A8 (Ab (Ab (Aq (Ac (Ai ?_)))))
 refine Db kQ rfl ?_
 obtain⟨w36,hdr⟩:∃W,W=w31.drew:=⟨_,rfl⟩
 have uw36:Up w31 w36:=by rw[hdr];exact Up.drew _
 rw[←hdr]
 clear hdr
 have zw36:=uw36.size
 replace hS:=hS.up uw36
 refine AWU.free 0 20 [.eq (.bool true),.eq (.bool true),.eq (.agg bca),.pred fun v W=>Sl W v 1 A3 (Ii ba L ba.Processes),.eq (.agg bcb),.pred fun v W=>Sl W v 1 A3 (Ii bb L bb.Processes),.eq (.bool true),.eq (.bool true),.eq (.bool true),.eq (.agg bce),.pred fun v W=>Sl W v 1 A3 (Ii be L be.Processes),.eq (vi 0),.eq (.bool true),.eq (.bool true),.eq (.bool true),.eq (.agg bca),.eq (vi at_),.eq (vi 2),.eq (.bool true),.eq (.bool true)] [136] rfl kQ kQ kQ kQ kQ kQ kQ kQ ⟨om,om,om,PhU.pred fun _ _ _ h u=>Sl.up h u,om,PhU.pred fun _ _ _ h u=>Sl.up h u,om,om,om,om,PhU.pred fun _ _ _ h u=>Sl.up h u,om,om,om,om,om,om,om,om,om,trivial⟩ ?_ ?_
 ·intro W hU
  have hSW:=hS.up hU
  refine aC (TOp.p (PEv.mv rfl) rfl ⟨Up.refl _,rfl⟩) ?_
  refine aC (TOp.p (PEv.mv rfl) rfl ⟨Up.refl _,rfl⟩) ?_
  refine aC (TOp.py rfl rfl rfl rfl rfl (PEv.Fz ml l6 hsz76 (.t rfl) (hSW.blk 7 rfl).agg) ⟨Up.refl _,rfl⟩) ?_
  refine aC (Jj rfl rfl rfl rfl rfl (eC (.o rfl) yU) (Qr bca ba L W (hSW.get 6 rfl) hX.ha (hG.up hSW.Ch) hX.pa.2 hX.pa.1 hX.ia) (fun v W' h=>⟨h.2,h.1⟩)) ?_
  refine aC (TOp.py rfl rfl rfl rfl rfl (PEv.Fz ml l6 hsz78 (.t rfl) (hSW.blk 9 rfl).agg) ⟨Up.refl _,rfl⟩) ?_
  refine aC (Jj rfl rfl rfl rfl rfl (eC (.o rfl) yU) (Qr bcb bb L W (hSW.get 8 rfl) hX.hb (hG.up hSW.Ch) hX.pb.2 hX.pb.1 hX.ib) (fun v W' h=>⟨h.2,h.1⟩)) ?_
  refine aC (TOp.open (d:=120) (p:=fun v W=>Sl W v 1 A3 (Ii ba L ba.Processes)) rfl fun v1 k1=>TOp.open (d:=122) (p:=fun v W=>Sl W v 1 A3 (Ii bb L bb.Processes)) rfl fun v2 k2=>Jj rfl rfl rfl rfl rfl (eC (.u rfl rfl) oJ) (Ic v1 v2 _ _ W k1 k2 (bu Kw (bu hX.pa.1 cQ)) (bu Kw (bu hX.pb.1 cQ))) (by rintro _ W1 ⟨rfl,u⟩;exact⟨u,bi Go.Value.bool (bj hX.ab.symm)⟩)) ?_
  refine aC (TOp.p (PEv.pa rfl (fun hp=>wQ)) rfl ⟨Up.refl _,rfl⟩) ?_
  refine aC (TOp.p (PEv.mv rfl) rfl ⟨Up.refl _,rfl⟩) ?_
  refine aC (TOp.py rfl rfl rfl rfl rfl (PEv.Fz ml l6 hsz80 (.t rfl) (hSW.blk 11 rfl).agg) ⟨Up.refl _,rfl⟩) ?_
  refine aC (Jj rfl rfl rfl rfl rfl (eC (.o rfl) yU) (Qr bce be L W (hSW.get 10 rfl) hX.he (hG.up hSW.Ch) hX.pe.2 hX.pe.1 hX.ie) (fun v W' h=>⟨h.2,h.1⟩)) ?_
  refine aC (TOp.open (d:=127) (p:=fun v W=>Sl W v 1 A3 (Ii be L be.Processes)) rfl fun v1 k1=>by obtain⟨a1,c1,rfl,_⟩:=k1;exact TOp.py rfl rfl rfl rfl rfl (PEv.Dt (v':=vi 0) (PEv.Ck k_ (.t rfl)) (by rw[hX.ae];rfl)) ⟨Up.refl _,rfl⟩) ?_
  refine aC (TOp.py rfl rfl rfl rfl rfl (PEv.tr (PEv.eql (.t rfl) (.const _)) (rfl)) ⟨Up.refl _,rfl⟩) ?_
  refine aC (TOp.p (PEv.pa rfl (fun hp=>wQ)) rfl ⟨Up.refl _,rfl⟩) ?_
  refine aC (TOp.p (PEv.mv rfl) rfl ⟨Up.refl _,rfl⟩) ?_
  refine aC (TOp.py rfl rfl rfl rfl rfl (PEv.Fz ml l6 hsz76 (.t rfl) (hSW.blk 7 rfl).agg) ⟨Up.refl _,rfl⟩) ?_
  refine aC (TOp.py rfl rfl rfl rfl rfl (PEv.mv rfl) ⟨Up.refl _,rfl⟩) ?_
  refine aC (Jj rfl rfl rfl rfl rfl (eC (.ct rfl (.cons (.const _) (.cu rfl))) yV) (Xz bca ba 1 at_ W (hSW.get 6 rfl) (by have:=hX.pa.2;omega)) (by rintro _ W1 ⟨rfl,u⟩;exact⟨u,bi vi hX.who⟩)) ?_
  refine aC (TOp.py rfl rfl rfl rfl rfl (PEv.tr (PEv.eql (.t rfl) (.const _)) (rfl)) ⟨Up.refl _,rfl⟩) ?_
  refine aC (TOp.p (PEv.pa rfl (fun hp=>wQ)) rfl ⟨Up.refl _,rfl⟩) ?_
  exact allL.nil
 intro w37 g hU hg
 have zw37:=hU.size
 replace hS:=hS.up hU
 have e136:g 136=.bool true:=hg 19 _ 136 cQ cQ rfl rfl
 change LW _ _ _ _ _ _ _ _ ((136,.eq (g 136))::_) _
 rw[e136]
 clear e136 hg
 refine LW.A rfl (Ah (Am ?_))
 refine KW.q ?_
 exact⟨rfl,hS.Ch⟩
end Go.Proofs.YtnpgbbaniknpkaaGreatDoor
