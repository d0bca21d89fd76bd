import Derived.Test.YthcabjphnacjeaaGreatDoorKR112
namespace Go.Wx
def K0(k:Int)(f:Fact):K2:=match k with
 |4=>(f.Wafer,f.Time)
 |5=>(f.Product,0)
 |8=>(f.Other,f.Parties)
 |10=>(f.Recipe,f.Time)
 |_=>(f.ID,0)
abbrev Fx:=List (List UInt8×Fact)
def Sd(m:Fx)(k:List UInt8):Option Fact:=(m.find? fun p=>p.1==k).map (·.2)
def Lr(m:Fx)(k:List UInt8)(f:Fact):Fx:=if k∈m.map (·.1)then m.map (fun p=>if p.1=k then(k,f)else p)else m++[(k,f)]
def Pc(m:Fx):List (List UInt8×Go.Value):=m.map fun p=>(p.1,.agg p.2.cells)
theorem Mc(m:Fx):(Pc m).map (·.1)=m.map (·.1):=by simp[Pc]
theorem Zc(m:Fx)(k:List UInt8)(f:Fact):Ms.Hp (Pc m) k (.agg f.cells)=Pc (Lr m k f):=by
 unfold Ms.Hp Lr
 rw[Mc]
 split
 · simp only[Pc,fi]
   apply fo
   intro p _
   simp only[Function.comp]
   split<;>rfl
 simp[Pc]
theorem kG{m:Fx}{k:List UInt8}{f:Fact}(h:Sd m k=some f):(k,.agg f.cells)∈Pc m:=by
 unfold Sd at h
 cases hf:m.find? (fun p=>p.1==k)with
 |none=>rw[hf]at h;cases h
 |some p=>
   rw[hf]at h
   have h1:=ja hf
   have h2:(p.1==k)=true:=kj (p:=fun p:List UInt8×Fact=>p.1==k) hf
   have h3:=eq_of_beq h2
   simp at h
   refine br.2 ⟨p,h1,?_⟩
   rw[h3,h]
theorem Vf{m:Fx}{k:List UInt8}(h:Sd m k=none):k∉(Pc m).map (·.1):=by
 rw[Mc]
 intro hm
 obtain⟨p,hp,e⟩:=br.1 hm
 unfold Sd at h
 rw[Option.map_eq_none_iff,i_]at h
 exact h p hp (by simp[e])
def Dq(day:Int)(m:Fx)(f:Fact):Fx:=if Cj f=[]∨day<f.Day then m else match Sd m (Cj f)with
 |none=>Lr m (Cj f) f
 |some old=>if Ex f old=true then Lr m (Cj f) f else m
def Hg(l:List Fact)(day:Int):Fx:=l.foldl (Dq day) []
theorem J4{l:List Fact}{day:Int}{k:Nat}{x:Fact}(h:l[k]?=some x):Hg (l.take (k+1)) day=Dq day (Hg (l.take k) day) x:=by
 rw[Ct h,Hg,List.foldl_append];rfl
theorem Pd{day:Int}{m:Fx}{x:Fact}(h:Cj x=[]∨day<x.Day):Dq day m x=m:=by rw[Dq,bg h]
theorem Zd{day:Int}{m:Fx}{x:Fact}(h:¬(Cj x=[]∨day<x.Day))(hg:Sd m (Cj x)=none):Dq day m x=Lr m (Cj x) x:=by rw[Dq,aq h,hg]
theorem Ze{day:Int}{m:Fx}{x old:Fact}(h:¬(Cj x=[]∨day<x.Day))(hg:Sd m (Cj x)=some old)(hp:Ex x old=true):Dq day m x=Lr m (Cj x) x:=by rw[Dq,aq h,hg];simp[hp]
theorem Zf{day:Int}{m:Fx}{x old:Fact}(h:¬(Cj x=[]∨day<x.Day))(hg:Sd m (Cj x)=some old)(hp:Ex x old=false):Dq day m x=m:=by rw[Dq,aq h,hg];simp[hp]
def MOk(m:Fx):Prop:=∀p∈m,p.1=Cj p.2∧Ca p.2=true
theorem Nk{f:Fact}(h:Cj f≠[]):Ca f=true:=by
 cases hv:Ca f with
 |true=>rfl
 |false=>rw[Cj,aq (by rw[hv];exact cg)]at h;exact absurd rfl h
theorem MOk.set{m:Fx}{f:Fact}(h:MOk m)(hf:Ca f=true):MOk (Lr m (Cj f) f):=by
 intro p hp
 unfold Lr at hp
 split at hp
 · obtain⟨q,hq,e⟩:=br.1 hp
   split at e
   · rw[←e];exact⟨rfl,hf⟩
   rw[←e];exact h q hq
 rcases bt.1 hp with hp|hp
 · exact h p hp
 simp at hp;rw[hp];exact⟨rfl,hf⟩
theorem Zg(m:Fx)(k:List UInt8)(f:Fact):(Lr m k f).length≤m.length+1:=by
 unfold Lr
 split<;>simp
theorem MOk.step{m:Fx}(h:MOk m)(day:Int)(f:Fact):MOk (Dq day m f)∧(Dq day m f).length≤m.length+1:=by
 unfold Dq
 split
 · exact⟨h,by omega⟩
 rename_i hk
 have hv:Ca f=true:=Nk fun e=>hk (.inl e)
 split
 · exact⟨h.set hv,Zg _ _ _⟩
 split
 · exact⟨h.set hv,Zg _ _ _⟩
 exact⟨h,by omega⟩
theorem Q5(day:Int):∀(l:List Fact),MOk (Hg l day)∧(Hg l day).length≤l.length:=by
 have:∀(l:List Fact)(m:Fx),MOk m→MOk (l.foldl (Dq day) m)∧(l.foldl (Dq day) m).length≤m.length+l.length:=by
   intro l
   induction l with
   |nil=>intro m h;exact⟨h,by simp⟩
   |cons x l ih=>
     intro m h
     have h1:=h.step day x
     have h2:=ih _ h1.1
     exact⟨h2.1,by have:=h2.2;simp only[ki,a8];omega⟩
 intro l
 have h:=this l [] (fun p hp=>by simp at hp)
 exact⟨h.1,by have:=h.2;simp only[bp,dm]at this;exact this⟩
def Ea(dn:List Int)(ds:List Fact)(j:Nat):List Fact:=
 if((j+1:Nat):Int)∈dn then Ji (K0 ((j+1:Nat):Int)) (ds.filter fun f=> !f.Gone&&decide (f.Kind=((j+1:Nat):Int)))else ds.filter fun f=> !f.Gone&&decide (f.Kind=((j+1:Nat):Int))
def Zh(dn:List Int)(ds:List Fact):List (List Fact):=(List.range 11).map (Ea dn ds)
theorem Im(dn:List Int)(ds:List Fact):(Zh dn ds).length=11:=by simp[Zh]
theorem Gw(dn:List Int)(ds:List Fact){j:Nat}(hj:j<11):(Zh dn ds)[j]?=some (Ea dn ds j):=by simp[Zh,hj]
theorem pD{ds:List Fact}{x:Fact}(h:x.Gone=true):Zh [] (ds++[x])=Zh [] ds:=by
 unfold Zh
 apply fo
 intro j _
 simp[Ea,h]
theorem tI{ds:List Fact}{x:Fact}{j:Nat}(h:x.Gone=false)(hj:j<11)(hk:x.Kind=((j+1:Nat):Int)):Zh [] (ds++[x])=(Zh [] ds).set j (Ea [] ds j++[x]):=by
 apply cx
 intro i
 rw[gg]
 by_cases e:j=i
 · subst e
   rw[bg rfl,bg (by rw[Im];exact hj),Gw _ _ hj]
   simp[Ea,h,hk]
 rw[aq e]
 by_cases hi:i<11
 · rw[Gw _ _ hi,Gw _ _ hi]
   have:decide (x.Kind=((i+1:Nat):Int))=false:=bx oQ
   simp only[Ea,d9,if_false,df]
   rw[dr,aq (by rw[this,Bool.and_false];exact cg)]
   simp
 rw[cy (by rw[Im];omega),cy (by rw[Im];omega)]
theorem pE{dn:List Int}{ds:List Fact}{j:Nat}(hj:j<11)(hn:((j+1:Nat):Int)∉dn):(Zh dn ds).set j (Ji (K0 ((j+1:Nat):Int)) (Ea dn ds j))=Zh (dn++[((j+1:Nat):Int)]) ds:=by
 apply cx
 intro i
 rw[gg]
 by_cases e:j=i
 · subst e
   rw[bg rfl,bg (by rw[Im];exact hj),Gw _ _ hj]
   unfold Ea
   rw[aq hn,bg (g5 _ (bn.2 rfl))]
 rw[aq e]
 by_cases hi:i<11
 · rw[Gw _ _ hi,Gw _ _ hi]
   have:((i+1:Nat):Int)≠((j+1:Nat):Int):=by omega
   simp only[Ea,bt,bn,this,dw]
 rw[cy (by rw[Im];omega),cy (by rw[Im];omega)]
theorem Q6(dn:List Int)(ds:List Fact)(j:Nat):(Ea dn ds j).length≤ds.length:=by
 unfold Ea
 split
 · rw[(Gi _).same.length];exact dy _ _
 exact dy _ _
theorem tJ:Zh [] []=List.replicate 11 ([]:List Fact):=by
 rfl
theorem tK(vs:List Go.Value)(j:Nat)(v:Go.Value):vs.toArray.setIfInBounds j v=(vs.set j v).toArray:=by simp
theorem kH{x:Fact}(h:Cj x=[]):((⟨(Cj x).toArray⟩:ByteArray).toList==(⟨#[]⟩:ByteArray).toList)=true:=by rw[Is,Is,h];rfl
theorem pF{x:Fact}(h:Cj x≠[]):((⟨(Cj x).toArray⟩:ByteArray).toList==(⟨#[]⟩:ByteArray).toList)=false:=by
 rw[Is,Is]
 simpa using h
theorem Wu{vs:List Go.Value}(h:vs.length=11):∃v0 v1 v2 v3 v4 v5 v6 v7 v8 v9 v10,vs=[v0,v1,v2,v3,v4,v5,v6,v7,v8,v9,v10]:=by
 match vs,h with
 |[v0,v1,v2,v3,v4,v5,v6,v7,v8,v9,v10],_=>exact⟨v0,v1,v2,v3,v4,v5,v6,v7,v8,v9,v10,rfl⟩
def Zi(ds:List Fact):Base:=⟨Ea [1] ds 0,Ea [2] ds 1,Ea [3] ds 2,Ea [4] ds 3,Ea [5] ds 4,Ea [6] ds 5,Ea [7] ds 6,Ea [8] ds 7,Ea [9] ds 8,Ea [10] ds 9,Ea [11] ds 10⟩
theorem Zj{dn:List Int}{ds:List Fact}{j:Nat}(h:((j+1:Nat):Int)∈dn):Ea dn ds j=Ea [((j+1:Nat):Int)] ds j:=by
 unfold Ea
 rw[bg h,bg (bn.2 rfl)]
theorem Se{ds:List Fact}{x:Fact}(h:(ds.map Cj).Nodup)(hf:Cj x∉ds.map Cj):((ds++[x]).map Cj).Nodup:=by
 rw[cm,g6]
 exact⟨h,by simp,fun a ha c hc=>by simp at hc;subst hc;exact fun e=>hf (e▸ha)⟩
theorem Sf{ds:List Fact}{M:Fx}(h:∀f∈ds,(Cj f,f)∈M)(hn:(ds.map Cj).Nodup):ds.length≤M.length:=by
 have:=hn.length_le_of_subset (l₂:=M.map (·.1)) (fun k hk=>by
   obtain⟨f,hf,rfl⟩:=br.1 hk
   exact br.2 ⟨_,h f hf,rfl⟩)
 simpa using this
theorem Sh{ds:List Fact}{M:Fx}{x:Fact}(h:∀f∈ds,(Cj f,f)∈M)(hn:(ds.map Cj).Nodup)(hx:(Cj x,x)∈M)(hf:Cj x∉ds.map Cj):ds.length+1≤M.length:=by
 have:=Sf (ds:=ds++[x]) (M:=M) (fun f hf=>by rcases bt.1 hf with hf|hf;exact h f hf;simp at hf;rw[hf];exact hx) (Se hn hf)
 simpa using this
theorem kJ{dn:List Int}(h:dn.Nodup∧∀k∈dn,1≤k∧k≤11):dn.length≤11:=by
 have:=h.1.length_le_of_subset (l₂:=[1,2,3,4,5,6,7,8,9,10,11]) (fun k hk=>by
   have:=h.2 k hk
   simp;omega)
 simpa using this
theorem kK{dn:List Int}{k:Int}(h:dn.Nodup∧∀k∈dn,1≤k∧k≤11)(hk:1≤k∧k≤11)(hf:k∉dn):dn.length+1≤11:=by
 have:=kJ (dn:=dn++[k]) ⟨g6.2 ⟨h.1,by simp,fun a ha c hc=>by simp at hc;subst hc;exact fun e=>hf (e▸ha)⟩,fun q hq=>by rcases bt.1 hq with hq|hq;exact h.2 q hq;simp at hq;rw[hq];exact hk⟩
 simpa using this
theorem pG{α:Type}{vs:List α}{j:Nat}{v:α}(h:vs[j]?=some v):vs.set j v=vs:=by
 apply cx
 intro i
 rw[gg]
 by_cases e:j=i
 · subst e
   rw[bg rfl,bg (ak.1 h).1,h]
 rw[aq e]
theorem Ge{e:Nat}{dn:List Int}{ds:List Fact}{vs:List Go.Value}{w:World}(h:(Dp (lists e 19 Fact.cells vs (Zh dn ds))).holds w){j:Nat}{v:Go.Value}(hv:vs[j]?=some v)(hj:j<11)(hin:((j+1:Nat):Int)∈dn):Sl w v 19 Fact.cells (Ea [((j+1:Nat):Int)] ds j):=by
 have:=(J1 h hv (Gw _ _ hj)).sl (fun _=>rfl)
 rwa [Zj hin]at this
theorem pH{e:Nat}{dn:List Int}{ds:List Fact}{vs:List Go.Value}{w:World}(h:(Dp (lists e 19 Fact.cells vs (Zh dn ds))).holds w){j:Nat}{v:Go.Value}(hv:vs[j]?=some v)(hj:j<11)(hin:((j+1:Nat):Int)∈dn):OwnS w 0 e 19 Fact.cells v (Ea [((j+1:Nat):Int)] ds j):=by
 have:=J1 h hv (Gw _ _ hj)
 rwa [Zj hin]at this
def gL(base:Nat)(bc:Array Go.Value):Prop:=∀(j:Nat)(v:Go.Value),bc[j]?=some v→∀i,v.ownBlock=some i→base≤i
theorem dJ{α:Type}{e k base:Nat}{enc:α→Array Go.Value}{vs:List Go.Value}{xss:List (List α)}(hl:vs.length=xss.length)(h:∀i,(Dp (lists e k enc vs xss)).foot i→base≤i):gL base vs.toArray:=fun j v hv i hi=>by
 have hv2:vs[j]?=some v:=by simpa using hv
 have hlt:=(ak.1 hv2).1
 obtain⟨xs,hx⟩:=Af (xs:=xss) (i:=j) oQ
 exact h i ⟨_,ai (L5 hv2 hx),hi⟩
theorem tL{vs:List Go.Value}(h:∀v∈vs,v.oneCell'=true):vs.toArray.all (·.oneCell')=true:=by
 rw[cj]
 intro v hv
 exact h v (by simpa using hv)
theorem Si{α:Type}{key:α→K2}{l s:List α}(h:l.Perm s)(hd:∀x∈l,∀y∈l,key x=key y→x=y):Ji key l=Ji key s:=by
 have hs:sameF key l s:=fun k=>by
   have hp:=h.filter (fun x=>key x==k)
   cases e:l.filter (fun x=>key x==k)with
   |nil=>rw[e]at hp;exact hp.symm.eq_nil
   |cons x r=>
     have all:∀y∈l.filter (fun x=>key x==k),y=x:=fun y hy=>by
       have hx:x∈l.filter (fun x=>key x==k):=by rw[e];exact bu
       rw[fd]at hx hy
       exact hd _ hy.1 _ hx.1 ((eq_of_beq hy.2).trans (eq_of_beq hx.2).symm)
     have h1:l.filter (fun x=>key x==k)=List.replicate (l.filter (fun x=>key x==k)).length x:=List.eq_replicate_iff.2 ⟨rfl,all⟩
     have h2:s.filter (fun x=>key x==k)=List.replicate (l.filter (fun x=>key x==k)).length x:=List.eq_replicate_iff.2 ⟨hp.length_eq.symm,fun y hy=>all y (hp.symm.subset hy)⟩
     rw[h2,←h1,e]
 have:StS key l (Ji key s):=⟨(Gi s).ord,hs.trans (Gi s).same⟩
 exact this.eq.symm
theorem Sj{k:Int}{f g:Fact}(hf:Ca f=true)(hg:Ca g=true)(hkf:f.Kind=k)(hkg:g.Kind=k)(h:K0 k f=K0 k g):Cj f=Cj g:=by
 have hk:=Eu hf
 rw[hkf]at hk
 unfold Cj N8
 rw[bg hf,bg hg,hkf,hkg]
 have hc:k=1∨k=2∨k=3∨k=4∨k=5∨k=6∨k=7∨k=8∨k=9∨k=10∨k=11:=by omega
 rcases hc with rfl|rfl|rfl|rfl|rfl|rfl|rfl|rfl|rfl|rfl|rfl
 · replace h:(f.ID,(0:Int))=(g.ID,(0:Int)):=h
   show Cu [1,f.ID]=Cu [1,g.ID]
   rw[(fp h).1]
 · replace h:(f.ID,(0:Int))=(g.ID,(0:Int)):=h
   show Cu [2,f.ID]=Cu [2,g.ID]
   rw[(fp h).1]
 · replace h:(f.ID,(0:Int))=(g.ID,(0:Int)):=h
   show Cu [3,f.ID]=Cu [3,g.ID]
   rw[(fp h).1]
 · replace h:(f.Wafer,f.Time)=(g.Wafer,g.Time):=h
   show Cu [4,f.Wafer,f.Time]=Cu [4,g.Wafer,g.Time]
   rw[(fp h).1,(fp h).2]
 · replace h:(f.Product,(0:Int))=(g.Product,(0:Int)):=h
   show Cu [5,f.Product]=Cu [5,g.Product]
   rw[(fp h).1]
 · replace h:(f.ID,(0:Int))=(g.ID,(0:Int)):=h
   show Cu [6,f.ID]=Cu [6,g.ID]
   rw[(fp h).1]
 · replace h:(f.ID,(0:Int))=(g.ID,(0:Int)):=h
   show Cu [7,f.ID]=Cu [7,g.ID]
   rw[(fp h).1]
 · replace h:(f.Other,f.Parties)=(g.Other,g.Parties):=h
   show Cu [8,f.Other,f.Parties]=Cu [8,g.Other,g.Parties]
   rw[(fp h).1,(fp h).2]
 · replace h:(f.ID,(0:Int))=(g.ID,(0:Int)):=h
   show Cu [9,f.ID]=Cu [9,g.ID]
   rw[(fp h).1]
 · replace h:(f.Recipe,f.Time)=(g.Recipe,g.Time):=h
   show Cu [10,f.Recipe,f.Time]=Cu [10,g.Recipe,g.Time]
   rw[(fp h).1,(fp h).2]
 replace h:(f.ID,(0:Int))=(g.ID,(0:Int)):=h
 show Cu [11,f.ID]=Cu [11,g.ID]
 rw[(fp h).1]
theorem Vg(m:Fx)(k:List UInt8)(f:Fact):(Lr m k f).map (·.1)=if k∈m.map (·.1)then m.map (·.1)else m.map (·.1)++[k]:=by
 unfold Lr
 split
 · rw[fi]
   apply fo
   intro p _
   simp only[Function.comp]
   split
   · rename_i e;exact e.symm
   rfl
 simp
theorem Sn{m:Fx}(h:(m.map (·.1)).Nodup)(k:List UInt8)(f:Fact):((Lr m k f).map (·.1)).Nodup:=by
 rw[Vg]
 split
 · exact h
 rename_i hn
 rw[g6]
 exact⟨h,by simp,fun a ha c hc=>by cases bn.1 hc;exact fun e=>hn (e▸ha)⟩
theorem Sq{m:Fx}(h:(m.map (·.1)).Nodup)(day:Int)(f:Fact):((Dq day m f).map (·.1)).Nodup:=by
 unfold Dq
 split
 · exact h
 split
 · exact Sn h _ _
 split
 · exact Sn h _ _
 exact h
theorem Nl(l:List Fact)(day:Int):((Hg l day).map (·.1)).Nodup:=by
 have:∀(l:List Fact)(m:Fx),(m.map (·.1)).Nodup→((l.foldl (Dq day) m).map (·.1)).Nodup:=by
   intro l
   induction l with
   |nil=>exact fun m h=>h
   |cons x l ih=>exact fun m h=>ih _ (Sq h day x)
 exact this l [] g8
theorem Vh{m:Fx}(h:(m.map (·.1)).Nodup){k:List UInt8}{f g:Fact}(hf:(k,f)∈m)(hg:(k,g)∈m):f=g:=by
 induction m with
 |nil=>cases hf
 |cons p m ih=>
   rw[c9,gw]at h
   rcases bm.1 hf with e|hf'<;>rcases bm.1 hg with e'|hg'
   · rw[←e']at e;cases e;rfl
   · exact absurd (br.2 ⟨_,hg',by rw[←e]⟩) h.1
   · exact absurd (br.2 ⟨_,hf',by rw[←e']⟩) h.1
   exact ih h.2 hf' hg'
def Hh(m:Fx):List Fact:=m.map (·.2)
theorem I8{m:Fx}(h:MOk m){f:Fact}:f∈Hh m↔(Cj f,f)∈m:=by
 constructor
 · intro hf
   obtain⟨⟨k,g⟩,hp,e⟩:=br.1 hf
   have e:g=f:=e
   subst e
   have:=(h _ hp).1
   have this:k=Cj g:=this
   rw[←this];exact hp
 exact fun hf=>br.2 ⟨_,hf,rfl⟩
theorem P8{m:Fx}(h:MOk m):(Hh m).map Cj=m.map (·.1):=by
 unfold Hh
 rw[fi]
 apply fo
 intro p hp
 exact(h p hp).1.symm
theorem Io{α β:Type}{f:α→β}:∀{l:List α},(l.map f).Nodup→l.Nodup
 |[],_=>g8
 |x::l,h=>by
   rw[c9,gw]at h
   exact gw.2 ⟨fun hm=>h.1 (br.2 ⟨x,hm,rfl⟩),Io h.2⟩
theorem P9{α:Type}{l s:List α}(hl:l.Nodup)(hs:s.Nodup)(h:∀x,x∈l↔x∈s):l.Perm s:=(i8 hl hs).2 h
theorem kL{ds:List Fact}{m:Fx}(hm:MOk m)(hn:(m.map (·.1)).Nodup)(h:∀f∈ds,(Cj f,f)∈m)(hp:(ds.map Cj).Perm (m.map (·.1))):ds.Perm (Hh m):=by
 refine P9 (Io (f:=Cj) (hp.nodup_iff.2 hn)) (Io (f:=Cj) (by rw[P8 hm];exact hn)) fun x=>?_
 rw[I8 hm]
 refine⟨h x,fun hx=>?_⟩
 obtain⟨y,hy,e⟩:=br.1 (hp.symm.subset (br.2 ⟨_,hx,rfl⟩))
 have e:Cj y=Cj x:=e
 have:=h y hy
 rw[e]at this
 rw[Vh hn hx this];exact hy
theorem dK{m:Fx}(hm:MOk m)(hn:(m.map (·.1)).Nodup){f g:Fact}(hf:f∈Hh m)(hg:g∈Hh m)(e:Cj f=Cj g):f=g:=by
 rw[I8 hm]at hf hg
 rw[e]at hf
 exact Vh hn hf hg
theorem Gf{m:Fx}(hm:MOk m)(hn:(m.map (·.1)).Nodup){ds:List Fact}(h:ds.Perm (Hh m))(dn:List Int)(j:Nat)(hj:((j+1:Nat):Int)∈dn):Ea dn ds j=Ea dn (Hh m) j:=by
 unfold Ea
 rw[bg hj,bg hj]
 refine Si (h.filter _) fun x hx y hy e=>?_
 rw[fd]at hx hy
 have hxm:=h.subset hx.1
 have hym:=h.subset hy.1
 have vx:=(hm _ ((I8 hm).1 hxm)).2
 have vy:=(hm _ ((I8 hm).1 hym)).2
 simp only[bw,ge]at hx hy
 exact dK hm hn hxm hym (Sj vx vy hx.2.2 hy.2.2 e)
def Sr(l:List Fact)(day:Int):Base:=Zi (Hh (Hg l day))
theorem yL{ds:List Fact}{l:List Fact}{day:Int}(h:∀f∈ds,(Cj f,f)∈Hg l day)(hp:(ds.map Cj).Perm ((Hg l day).map (·.1))):Zi ds=Sr l day:=by
 have hm:=(Q5 day l).1
 have hn:=Nl l day
 have h1:=kL hm hn h hp
 unfold Sr Zi
 rw[Gf hm hn h1 [1] 0 cQ,Gf hm hn h1 [2] 1 cQ,Gf hm hn h1 [3] 2 cQ,Gf hm hn h1 [4] 3 cQ,Gf hm hn h1 [5] 4 cQ,Gf hm hn h1 [6] 5 cQ,Gf hm hn h1 [7] 6 cQ,Gf hm hn h1 [8] 7 cQ,Gf hm hn h1 [9] 8 cQ,Gf hm hn h1 [10] 9 cQ,Gf hm hn h1 [11] 10 (by decide)]
end Go.Wx
namespace Go.Proofs.YthcabjphnacjeaaGreatDoor
open Go.Proofs.Tryz
open Go.Wx Go.RowKit
def Nn(k:Int):Nat:=match k with
 |1=>53
 |2=>55
 |3=>56
 |4=>57
 |5=>59
 |6=>61
 |7=>62
 |8=>63
 |9=>65
 |10=>66
 |11=>68
 |_=>0
def Oc(k:Int):Nat:=match k with
 |1=>54
 |2=>54
 |3=>54
 |4=>58
 |5=>60
 |6=>54
 |7=>54
 |8=>64
 |9=>54
 |10=>67
 |11=>54
 |_=>0
def Xr(k:Int):Go.Value:=.agg #[.func (.func (Nn k)) #[] #[],.func (.func (Oc k)) #[] #[]]
theorem yM(B:Nat)(w:World):Ret prog 53 #[.pointer (some ⟨B,0,none⟩)] w fun r w'=>r=.pointer (some ⟨B,0,none⟩)∧Up w w':=by
 have hW:=Up.refl w
 refine cT 6 func53 rfl (Ae (Az (An (Aa (I rfl (U (.nc rfl) (U (.fB 0 rfl) (LW.A rfl (Ah (Am (KW.q ?_)))))))))))
 exact⟨rfl,hW⟩
theorem yN(B:Nat)(w:World):Ret prog 55 #[.pointer (some ⟨B,0,none⟩)] w fun r w'=>r=.pointer (some ⟨B,1,none⟩)∧Up w w':=by
 have hW:=Up.refl w
 refine cT 6 func55 rfl (Ae (Az (An (Aa (I rfl (U (.nc rfl) (U (.fB 1 rfl) (LW.A rfl (Ah (Am (KW.q ?_)))))))))))
 exact⟨rfl,hW⟩
theorem yO(B:Nat)(w:World):Ret prog 56 #[.pointer (some ⟨B,0,none⟩)] w fun r w'=>r=.pointer (some ⟨B,2,none⟩)∧Up w w':=by
 have hW:=Up.refl w
 refine cT 6 func56 rfl (Ae (Az (An (Aa (I rfl (U (.nc rfl) (U (.fB 2 rfl) (LW.A rfl (Ah (Am (KW.q ?_)))))))))))
 exact⟨rfl,hW⟩
theorem yP(B:Nat)(w:World):Ret prog 57 #[.pointer (some ⟨B,0,none⟩)] w fun r w'=>r=.pointer (some ⟨B,3,none⟩)∧Up w w':=by
 have hW:=Up.refl w
 refine cT 6 func57 rfl (Ae (Az (An (Aa (I rfl (U (.nc rfl) (U (.fB 3 rfl) (LW.A rfl (Ah (Am (KW.q ?_)))))))))))
 exact⟨rfl,hW⟩
theorem yQ(B:Nat)(w:World):Ret prog 59 #[.pointer (some ⟨B,0,none⟩)] w fun r w'=>r=.pointer (some ⟨B,4,none⟩)∧Up w w':=by
 have hW:=Up.refl w
 refine cT 6 func59 rfl (Ae (Az (An (Aa (I rfl (U (.nc rfl) (U (.fB 4 rfl) (LW.A rfl (Ah (Am (KW.q ?_)))))))))))
 exact⟨rfl,hW⟩
theorem yR(B:Nat)(w:World):Ret prog 61 #[.pointer (some ⟨B,0,none⟩)] w fun r w'=>r=.pointer (some ⟨B,5,none⟩)∧Up w w':=by
 have hW:=Up.refl w
 refine cT 6 func61 rfl (Ae (Az (An (Aa (I rfl (U (.nc rfl) (U (.fB 5 rfl) (LW.A rfl (Ah (Am (KW.q ?_)))))))))))
 exact⟨rfl,hW⟩
theorem yS(B:Nat)(w:World):Ret prog 62 #[.pointer (some ⟨B,0,none⟩)] w fun r w'=>r=.pointer (some ⟨B,6,none⟩)∧Up w w':=by
 have hW:=Up.refl w
 refine cT 6 func62 rfl (Ae (Az (An (Aa (I rfl (U (.nc rfl) (U (.fB 6 rfl) (LW.A rfl (Ah (Am (KW.q ?_)))))))))))
 exact⟨rfl,hW⟩
theorem yT(B:Nat)(w:World):Ret prog 63 #[.pointer (some ⟨B,0,none⟩)] w fun r w'=>r=.pointer (some ⟨B,7,none⟩)∧Up w w':=by
 have hW:=Up.refl w
 refine cT 6 func63 rfl (Ae (Az (An (Aa (I rfl (U (.nc rfl) (U (.fB 7 rfl) (LW.A rfl (Ah (Am (KW.q ?_)))))))))))
 exact⟨rfl,hW⟩
theorem yU(B:Nat)(w:World):Ret prog 65 #[.pointer (some ⟨B,0,none⟩)] w fun r w'=>r=.pointer (some ⟨B,8,none⟩)∧Up w w':=by
 have hW:=Up.refl w
 refine cT 6 func65 rfl (Ae (Az (An (Aa (I rfl (U (.nc rfl) (U (.fB 8 rfl) (LW.A rfl (Ah (Am (KW.q ?_)))))))))))
 exact⟨rfl,hW⟩
theorem tM(B:Nat)(w:World):Ret prog 66 #[.pointer (some ⟨B,0,none⟩)] w fun r w'=>r=.pointer (some ⟨B,9,none⟩)∧Up w w':=by
 have hW:=Up.refl w
 refine cT 6 func66 rfl (Ae (Az (An (Aa (I rfl (U (.nc rfl) (U (.fB 9 rfl) (LW.A rfl (Ah (Am (KW.q ?_)))))))))))
 exact⟨rfl,hW⟩
theorem tO(B:Nat)(w:World):Ret prog 68 #[.pointer (some ⟨B,0,none⟩)] w fun r w'=>r=.pointer (some ⟨B,10,none⟩)∧Up w w':=by
 have hW:=Up.refl w
 refine cT 6 func68 rfl (Ae (Az (An (Aa (I rfl (U (.nc rfl) (U (.fB 10 rfl) (LW.A rfl (Ah (Am (KW.q ?_)))))))))))
 exact⟨rfl,hW⟩
theorem Zl(k:Int)(h1:1≤k)(h2:k≤11)(B:Nat)(w:World):Ret prog (Nn k) #[.pointer (some ⟨B,0,none⟩)] w fun r w'=>r=.pointer (some ⟨B,(k-1).toNat,none⟩)∧Up w w':=by
 obtain rfl|rfl|rfl|rfl|rfl|rfl|rfl|rfl|rfl|rfl|rfl:k=1∨k=2∨k=3∨k=4∨k=5∨k=6∨k=7∨k=8∨k=9∨k=10∨k=11:=by omega
 · exact yM B w
 · exact yN B w
 · exact yO B w
 · exact yP B w
 · exact yQ B w
 · exact yR B w
 · exact yS B w
 · exact yT B w
 · exact yU B w
 · exact tM B w
 exact tO B w
theorem gM(k:Int)(h1:1≤k)(h2:k≤11):∀(args:Array Go.Value)(w:World),(callFunc (Nn k) args).run prog w=.ok (.enter (Nn k) args) w:=by
 obtain rfl|rfl|rfl|rfl|rfl|rfl|rfl|rfl|rfl|rfl|rfl:k=1∨k=2∨k=3∨k=4∨k=5∨k=6∨k=7∨k=8∨k=9∨k=10∨k=11:=by omega
 · exact HF
 · exact HG
 · exact HH
 · exact HI
 · exact HK
 · exact HM
 · exact HN
 · exact HO
 · exact HQ
 · exact HR
 exact HT
theorem Ss(x:Fact)(w:World):Ret prog 54 #[.agg x.cells] w fun r w'=>r=.agg #[vi (K0 1 x).1,vi (K0 1 x).2]∧Up w w':=by
 have hW:=Up.refl w
 refine cT 6 func54 rfl (Ae (Ap (.bA rfl) rfl ?_))
 rintro _ w1 ⟨B1,rfl,NB1⟩
 have eB1:=NB1.at_
 have zB1:=NB1.size
 replace hW:=hW.up NB1.up
 have hB1:=NB1.blk
 refine Ap (.Cb mh) rfl ?_
 rintro _ w2 ⟨B2,rfl,NB2⟩
 have eB2:=NB2.at_
 replace hW:=hW.up NB2.up
 replace hB1:=hB1.up NB2.up
 have hB2:=NB2.blk
 refine An (Aa (U (.fB 1 rfl) (U (.lb rfl (hB1.Ad rfl)) (U (.I7 (cs:=#[vi x.ID,vi 0]) mq mh k6 (.ct rfl (.cons (.const _) .nil)) rfl) (Ce (.Cc m5 rfl (.t rfl) (.t rfl) eQ hB2 rfl) ?_)))))
 intro w3 Nw3
 replace hW:=hW.sto Nw3.sto oQ
 replace hB1:=hB1.sto Nw3.sto oQ
 replace hB2:=Nw3.blk
 refine Ah (Am (Fb rfl rfl isAgg135 m5 rfl (hB2.agg) ⟨_,rfl,?_⟩))
 exact⟨rfl,hW⟩
theorem FL(x:Fact)(w:World):Ret prog 58 #[.agg x.cells] w fun r w'=>r=.agg #[vi (K0 4 x).1,vi (K0 4 x).2]∧Up w w':=by
 have hW:=Up.refl w
 refine cT 8 func58 rfl (Ae (Ap (.bA rfl) rfl ?_))
 rintro _ w1 ⟨B1,rfl,NB1⟩
 have eB1:=NB1.at_
 have zB1:=NB1.size
 replace hW:=hW.up NB1.up
 have hB1:=NB1.blk
 refine Ap (.Cb mh) rfl ?_
 rintro _ w2 ⟨B2,rfl,NB2⟩
 have eB2:=NB2.at_
 replace hW:=hW.up NB2.up
 replace hB1:=hB1.up NB2.up
 have hB2:=NB2.blk
 refine An (Aa (U (.fB 7 rfl) (U (.lb rfl (hB1.Ad rfl)) (U (.fB 5 rfl) (U (.lb rfl (hB1.Ad rfl)) (U (.I7 (cs:=#[vi x.Wafer,vi x.Time]) mq mh k6 (.ct rfl (.cu rfl)) rfl) (Ce (.Cc m5 rfl (.t rfl) (.t rfl) eQ hB2 rfl) ?_)))))))
 intro w3 Nw3
 replace hW:=hW.sto Nw3.sto oQ
 replace hB1:=hB1.sto Nw3.sto oQ
 replace hB2:=Nw3.blk
 refine Ah (Am (Fb rfl rfl isAgg135 m5 rfl (hB2.agg) ⟨_,rfl,?_⟩))
 exact⟨rfl,hW⟩
theorem FM(x:Fact)(w:World):Ret prog 60 #[.agg x.cells] w fun r w'=>r=.agg #[vi (K0 5 x).1,vi (K0 5 x).2]∧Up w w':=by
 have hW:=Up.refl w
 refine cT 6 func60 rfl (Ae (Ap (.bA rfl) rfl ?_))
 rintro _ w1 ⟨B1,rfl,NB1⟩
 have eB1:=NB1.at_
 have zB1:=NB1.size
 replace hW:=hW.up NB1.up
 have hB1:=NB1.blk
 refine Ap (.Cb mh) rfl ?_
 rintro _ w2 ⟨B2,rfl,NB2⟩
 have eB2:=NB2.at_
 replace hW:=hW.up NB2.up
 replace hB1:=hB1.up NB2.up
 have hB2:=NB2.blk
 refine An (Aa (U (.fB 10 rfl) (U (.lb rfl (hB1.Ad rfl)) (U (.I7 (cs:=#[vi x.Product,vi 0]) mq mh k6 (.ct rfl (.cons (.const _) .nil)) rfl) (Ce (.Cc m5 rfl (.t rfl) (.t rfl) eQ hB2 rfl) ?_)))))
 intro w3 Nw3
 replace hW:=hW.sto Nw3.sto oQ
 replace hB1:=hB1.sto Nw3.sto oQ
 replace hB2:=Nw3.blk
 refine Ah (Am (Fb rfl rfl isAgg135 m5 rfl (hB2.agg) ⟨_,rfl,?_⟩))
 exact⟨rfl,hW⟩
theorem FN(x:Fact)(w:World):Ret prog 64 #[.agg x.cells] w fun r w'=>r=.agg #[vi (K0 8 x).1,vi (K0 8 x).2]∧Up w w':=by
 have hW:=Up.refl w
 refine cT 8 func64 rfl (Ae (Ap (.bA rfl) rfl ?_))
 rintro _ w1 ⟨B1,rfl,NB1⟩
 have eB1:=NB1.at_
 have zB1:=NB1.size
 replace hW:=hW.up NB1.up
 have hB1:=NB1.blk
 refine Ap (.Cb mh) rfl ?_
 rintro _ w2 ⟨B2,rfl,NB2⟩
 have eB2:=NB2.at_
 replace hW:=hW.up NB2.up
 replace hB1:=hB1.up NB2.up
 have hB2:=NB2.blk
 refine An (Aa (U (.fB 8 rfl) (U (.lb rfl (hB1.Ad rfl)) (U (.fB 17 rfl) (U (.lb rfl (hB1.Ad rfl)) (U (.I7 (cs:=#[vi x.Other,vi x.Parties]) mq mh k6 (.ct rfl (.cu rfl)) rfl) (Ce (.Cc m5 rfl (.t rfl) (.t rfl) eQ hB2 rfl) ?_)))))))
 intro w3 Nw3
 replace hW:=hW.sto Nw3.sto oQ
 replace hB1:=hB1.sto Nw3.sto oQ
 replace hB2:=Nw3.blk
 refine Ah (Am (Fb rfl rfl isAgg135 m5 rfl (hB2.agg) ⟨_,rfl,?_⟩))
 exact⟨rfl,hW⟩
theorem yV(x:Fact)(w:World):Ret prog 67 #[.agg x.cells] w fun r w'=>r=.agg #[vi (K0 10 x).1,vi (K0 10 x).2]∧Up w w':=by
 have hW:=Up.refl w
 refine cT 8 func67 rfl (Ae (Ap (.bA rfl) rfl ?_))
 rintro _ w1 ⟨B1,rfl,NB1⟩
 have eB1:=NB1.at_
 have zB1:=NB1.size
 replace hW:=hW.up NB1.up
 have hB1:=NB1.blk
 refine Ap (.Cb mh) rfl ?_
 rintro _ w2 ⟨B2,rfl,NB2⟩
 have eB2:=NB2.at_
 replace hW:=hW.up NB2.up
 replace hB1:=hB1.up NB2.up
 have hB2:=NB2.blk
 refine An (Aa (U (.fB 14 rfl) (U (.lb rfl (hB1.Ad rfl)) (U (.fB 5 rfl) (U (.lb rfl (hB1.Ad rfl)) (U (.I7 (cs:=#[vi x.Recipe,vi x.Time]) mq mh k6 (.ct rfl (.cu rfl)) rfl) (Ce (.Cc m5 rfl (.t rfl) (.t rfl) eQ hB2 rfl) ?_)))))))
 intro w3 Nw3
 replace hW:=hW.sto Nw3.sto oQ
 replace hB1:=hB1.sto Nw3.sto oQ
 replace hB2:=Nw3.blk
 refine Ah (Am (Fb rfl rfl isAgg135 m5 rfl (hB2.agg) ⟨_,rfl,?_⟩))
 exact⟨rfl,hW⟩
theorem tP(k:Int)(h1:1≤k)(h2:k≤11)(x:Fact)(w:World):Ret prog (Oc k) #[.agg x.cells] w fun r w'=>r=.agg #[vi (K0 k x).1,vi (K0 k x).2]∧Up w w':=by
 obtain rfl|rfl|rfl|rfl|rfl|rfl|rfl|rfl|rfl|rfl|rfl:k=1∨k=2∨k=3∨k=4∨k=5∨k=6∨k=7∨k=8∨k=9∨k=10∨k=11:=by omega
 · exact Ss x w
 · exact Ss x w
 · exact Ss x w
 · exact FL x w
 · exact FM x w
 · exact Ss x w
 · exact Ss x w
 · exact FN x w
 · exact Ss x w
 · exact yV x w
 exact Ss x w
theorem yW(k:Int)(h1:1≤k)(h2:k≤11):∀(args:Array Go.Value)(w:World),(callFunc (Oc k) args).run prog w=.ok (.enter (Oc k) args) w:=by
 obtain rfl|rfl|rfl|rfl|rfl|rfl|rfl|rfl|rfl|rfl|rfl:k=1∨k=2∨k=3∨k=4∨k=5∨k=6∨k=7∨k=8∨k=9∨k=10∨k=11:=by omega
 · exact bH
 · exact bH
 · exact bH
 · exact HJ
 · exact HL
 · exact bH
 · exact bH
 · exact HP
 · exact bH
 · exact HS
 exact bH
theorem kM(w:World):Ret prog 21 #[] w fun r w'=>∃b,r=.map (some b)∧IMap w' b (Ql Xr 11)∧w.heap.size≤b∧Up w w':=by
 have hW:=Up.refl w
 refine cT 14 func21 rfl (Ae (Az (An ?_)))
 skip
 refine Aa (LW.r REv.makeMap rfl rfl rfl rfl ?_)
 rintro _ w1 ⟨B1,rfl,MB1,uB1,eB1,zB1⟩
 replace hW:=hW.up uB1
 have hM1:=MB1
 refine U (.build (cs:=#[.func (.func 53) #[] #[],.func (.func 54) #[] #[]]) ma mi Dh (.cons (.func _) (.cons (.func _) .nil)) rfl) ?_
 replace hM1:IMap _ B1 (Ql Xr 0):=hM1
 refine Ce (.insert (k:=((0+1:Nat):Int)) (v:=Xr ((0+1:Nat):Int)) mb k9 (.t rfl) (.const _) (.t rfl) hM1) ?_
 rintro w2 ⟨Mw2,Kw2,zw2⟩
 rw[Fi]at Mw2
 replace hM1:=Mw2
 replace hW:=hW.sto Kw2 oQ
 refine U (.build (cs:=#[.func (.func 55) #[] #[],.func (.func 54) #[] #[]]) ma mi Dh (.cons (.func _) (.cons (.func _) .nil)) rfl) (Ce (.insert (k:=((1+1:Nat):Int)) (v:=Xr ((1+1:Nat):Int)) mb k9 (.t rfl) (.const _) (.t rfl) hM1) ?_)
 rintro w3 ⟨Mw3,Kw3,zw3⟩
 rw[Fi]at Mw3
 replace hM1:=Mw3
 replace hW:=hW.sto Kw3 oQ
 refine U (.build (cs:=#[.func (.func 56) #[] #[],.func (.func 54) #[] #[]]) ma mi Dh (.cons (.func _) (.cons (.func _) .nil)) rfl) (Ce (.insert (k:=((2+1:Nat):Int)) (v:=Xr ((2+1:Nat):Int)) mb k9 (.t rfl) (.const _) (.t rfl) hM1) ?_)
 rintro w4 ⟨Mw4,Kw4,zw4⟩
 rw[Fi]at Mw4
 replace hM1:=Mw4
 replace hW:=hW.sto Kw4 oQ
 refine U (.build (cs:=#[.func (.func 57) #[] #[],.func (.func 58) #[] #[]]) ma mi Dh (.cons (.func _) (.cons (.func _) .nil)) rfl) (Ce (.insert (k:=((3+1:Nat):Int)) (v:=Xr ((3+1:Nat):Int)) mb k9 (.t rfl) (.const _) (.t rfl) hM1) ?_)
 rintro w5 ⟨Mw5,Kw5,zw5⟩
 rw[Fi]at Mw5
 replace hM1:=Mw5
 replace hW:=hW.sto Kw5 oQ
 refine U (.build (cs:=#[.func (.func 59) #[] #[],.func (.func 60) #[] #[]]) ma mi Dh (.cons (.func _) (.cons (.func _) .nil)) rfl) (Ce (.insert (k:=((4+1:Nat):Int)) (v:=Xr ((4+1:Nat):Int)) mb k9 (.t rfl) (.const _) (.t rfl) hM1) ?_)
 rintro w6 ⟨Mw6,Kw6,zw6⟩
 rw[Fi]at Mw6
 replace hM1:=Mw6
 replace hW:=hW.sto Kw6 oQ
 refine U (.build (cs:=#[.func (.func 61) #[] #[],.func (.func 54) #[] #[]]) ma mi Dh (.cons (.func _) (.cons (.func _) .nil)) rfl) (Ce (.insert (k:=((5+1:Nat):Int)) (v:=Xr ((5+1:Nat):Int)) mb k9 (.t rfl) (.const _) (.t rfl) hM1) ?_)
 rintro w7 ⟨Mw7,Kw7,zw7⟩
 rw[Fi]at Mw7
 replace hM1:=Mw7
 replace hW:=hW.sto Kw7 oQ
 refine U (.build (cs:=#[.func (.func 62) #[] #[],.func (.func 54) #[] #[]]) ma mi Dh (.cons (.func _) (.cons (.func _) .nil)) rfl) (Ce (.insert (k:=((6+1:Nat):Int)) (v:=Xr ((6+1:Nat):Int)) mb k9 (.t rfl) (.const _) (.t rfl) hM1) ?_)
 rintro w8 ⟨Mw8,Kw8,zw8⟩
 rw[Fi]at Mw8
 replace hM1:=Mw8
 replace hW:=hW.sto Kw8 oQ
 refine U (.build (cs:=#[.func (.func 63) #[] #[],.func (.func 64) #[] #[]]) ma mi Dh (.cons (.func _) (.cons (.func _) .nil)) rfl) (Ce (.insert (k:=((7+1:Nat):Int)) (v:=Xr ((7+1:Nat):Int)) mb k9 (.t rfl) (.const _) (.t rfl) hM1) ?_)
 rintro w9 ⟨Mw9,Kw9,zw9⟩
 rw[Fi]at Mw9
 replace hM1:=Mw9
 replace hW:=hW.sto Kw9 oQ
 refine U (.build (cs:=#[.func (.func 65) #[] #[],.func (.func 54) #[] #[]]) ma mi Dh (.cons (.func _) (.cons (.func _) .nil)) rfl) (Ce (.insert (k:=((8+1:Nat):Int)) (v:=Xr ((8+1:Nat):Int)) mb k9 (.t rfl) (.const _) (.t rfl) hM1) ?_)
 rintro w10 ⟨Mw10,Kw10,zw10⟩
 rw[Fi]at Mw10
 replace hM1:=Mw10
 replace hW:=hW.sto Kw10 oQ
 refine U (.build (cs:=#[.func (.func 66) #[] #[],.func (.func 67) #[] #[]]) ma mi Dh (.cons (.func _) (.cons (.func _) .nil)) rfl) (Ce (.insert (k:=((9+1:Nat):Int)) (v:=Xr ((9+1:Nat):Int)) mb k9 (.t rfl) (.const _) (.t rfl) hM1) ?_)
 rintro w11 ⟨Mw11,Kw11,zw11⟩
 rw[Fi]at Mw11
 replace hM1:=Mw11
 replace hW:=hW.sto Kw11 oQ
 refine U (.build (cs:=#[.func (.func 68) #[] #[],.func (.func 54) #[] #[]]) ma mi Dh (.cons (.func _) (.cons (.func _) .nil)) rfl) (Ce (.insert (k:=((10+1:Nat):Int)) (v:=Xr ((10+1:Nat):Int)) mb k9 (.t rfl) (.const _) (.t rfl) hM1) ?_)
 rintro w12 ⟨Mw12,Kw12,zw12⟩
 rw[Fi]at Mw12
 replace hM1:=Mw12
 replace hW:=hW.sto Kw12 oQ
 refine I rfl (LW.A rfl (Ah (Am (KW.q ?_))))
 exact⟨_,rfl,hM1,by omega,hW⟩
set_option maxHeartbeats 8000000 in
theorem tR(ad:Option Addr)(cp:Nat)(l:List Fact)(day:Int)(w:World)(hE0:Els w ad 19 Fact.cells l)(hl:l.length≤100000):Ret prog 6 #[.slice ad l.length cp,vi day] w fun r w'=>∃bc ds,r=.agg bc∧BaseC w' bc (Zi ds)∧(∀f∈ds,(Cj f,f)∈Hg l day)∧(ds.map Cj).Perm ((Hg l day).map (·.1))∧gL w.heap.size bc∧(∃v,bc[0]?=some v∧OwnS w' 0 47 19 Fact.cells v (Zi ds).Processes)∧Up w w':=by
 obtain⟨w0,rfl,hS⟩:=W0 w
 refine cT 91 func6 rfl (Ae (Ap (.Cb zeroValue35) rfl ?_))
 rintro _ w1 ⟨B4,rfl,NB4⟩
 replace hS:=hS.Cf NB4
 refine An (Aa (LW.r Ms.REv.makeMap rfl rfl rfl rfl ?_))
 rintro _ w2 ⟨B18,rfl,M18,u18,e18,z18⟩
 replace hS:=hS.add u18 (A':=Ms.H9 B18 (Pc [])) M18 (fun i(e:i=B18)=>by omega)
 refine LW.A rfl (An (Ae (I rfl (U (.Cl kz (.t rfl)) (U (.move (.const _)) (Ah (Ai (A7 (σ:=Nat) (fun s w=>(s≤l.length)∧(Wx.Sep no w0 w [A5 B4 #[.slice none 0 0,.slice none 0 0,.slice none 0 0,.slice none 0 0,.slice none 0 0,.slice none 0 0,.slice none 0 0,.slice none 0 0,.slice none 0 0,.slice none 0 0,.slice none 0 0] 35,Ms.H9 B18 (Pc (Hg (l.take s) day))])) (fun s=>[(21,.eq (vi (s:Int)))]) ([(1,.eq _),(4,.eq _),(5,.eq _),(19,.eq _),(20,.eq _)]) (fun s=>l.length-s) 0 ?_ tQ ?_))))))))
 ·exact⟨a_ _,hS⟩
 rintro k w3 ⟨hkk,hS⟩
 refine Ae (U (.l2 rfl rfl) (An (CW.b rfl (fun h22=>?_) (fun h22=>?_))))
 ·replace h22:=dQ h22
  refine Aj (Ab (Ak (Ai (Ak ?_))))
  have hE:=Els.up hE0 hS.Ch
  have hkl:k<l.length:=by simp at h22;omega
  refine Aa ?_
  obtain⟨x,hx⟩:=Af (xs:=l) (i:=k) oQ
  obtain⟨Bx,ox,ax,hcx⟩:=hE _ x hx
  refine U (.Ao kz k7 (.t rfl) (.t rfl) oQ ax) (U (.lc rfl (hcx)) (Ap (.Cb lg) rfl ?_))
  rintro _ w4 ⟨B7,rfl,MB7⟩
  refine Ce (.Cc k7 rfl (.t rfl) (.t rfl) eQ MB7.blk rfl) ?_
  intro w5 LB7
  have NB7:=MB7.set LB7
  replace hcx:=hcx.up NB7.up
  replace hS:=hS.Cf NB7
  refine An (Aa (U (.lc rfl (hS.b2.agg)) (A3 (eC (.o rfl) (xG)) rfl (Wq x _) ?_)))
  rintro _ w6 ⟨rfl,uw6⟩
  replace hS:=hS.up uw6
  refine LW.A rfl (An (Ak ?_))
  cases hq6:decide (Cj x=[])with
  |true=>
   replace hq6:=b8 hq6
   refine Aa (I rfl (U (.tr (D8 (.t rfl) (.const _)) (kH hq6)) (I rfl (Bi (Bi (Bi (Bi (U (.tr (PEv.Ej (b:=false) (.t rfl) (fun hp=>absurd (show true=false from hp) cQ)) (rfl)) (Ah (CW.v rfl (A9 (Ac (Aq (Ab (Aa (U (.ic rfl oQ) (I rfl (LW.nil (Av ?_)))))))))))))))))))
   exact⟨k+1,⟨by omega,by rw[J4 hx];(rw[Pd (.inl hq6)];exact hS.take 2)⟩,tQ,by omega⟩
  |false=>
   replace hq6:=cr hq6
   refine Aa (I rfl (U (.fa (D8 (.t rfl) (.const _)) (pF hq6)) (I rfl (Ar (U (.fB 3 rfl) (Ar (U (.lb rfl (hS.b2.Ad rfl)) (Ar (I rfl (Ar (U (.gtr (.t rfl) (.t rfl)) (U (.po rfl (fun hp=>(by exact .tmp rfl))) (Ah (CW.b rfl (fun h34=>?_) (fun h34=>?_)))))))))))))))
   ·replace h34:=dQ h34
    skip
    refine A9 (Ac (Aq (Ab (Aa (U (.ic rfl oQ) (I rfl (LW.nil (Av ?_))))))))
    exact⟨k+1,⟨by omega,by rw[J4 hx];(rw[Pd (.inr h34)];exact hS.take 2)⟩,tQ,by omega⟩
   replace h34:=dQ h34
   have hno:¬(Cj x=[]∨day<x.Day):=fun h=>h.elim hq6 (fun h2=>by simp at h34;omega)
   refine Aj (Ab (Ak ?_))
   cases hq7:Sd (Hg (l.take k) day) (Cj x)with
   |none=>
    refine Aa (I rfl (I rfl (U (Ms.PEv.Nz n6 lq lg (.t rfl) (.t rfl) (hS.get 1 rfl) (Vf hq7)) (I rfl (U (.xt rfl rfl) (U (.xt rfl rfl) (Ap (.Cb lg) rfl ?_)))))))
    rintro _ w7 ⟨B9,rfl,MB9⟩
    refine Ce (.Cc k7 rfl (.t rfl) (.t rfl) eQ MB9.blk rfl) ?_
    intro w8 LB9
    have NB9:=MB9.set LB9
    replace hS:=hS.Cf NB9
    refine LW.A rfl (An (Aa (I rfl (U (.tr (PEv.n1 rfl) (rfl)) (I rfl (Bi (Bi (Bi (U (.tr (PEv.Ej (b:=false) (.t rfl) (fun hp=>absurd (show true=false from hp) cQ)) (rfl)) (Ah (CW.v rfl (Aa (I rfl (I rfl (U (.lc rfl (hS.b2.agg)) (Ce (Ms.SEv.mapUpdate n6 lq (.t rfl) (.t rfl) (.t rfl) (hS.get 1 rfl)) ?_))))))))))))))))
    rintro w9 ⟨Mu,Ku,zu⟩
    rw[Zc]at Mu
    replace hS:=hS.Ft 1 rfl (Ms.fY Mu Ku)
    refine LW.nil (Al (Ab (Aa (U (.ic rfl oQ) (I rfl (LW.nil (Av ?_)))))))
    exact⟨k+1,⟨by omega,by rw[J4 hx];(rw[Zd hno hq7];exact hS.take 2)⟩,tQ,by omega⟩
   |some old=>
    refine Aa (I rfl (I rfl (U (Ms.PEv.Hr n6 lq (.t rfl) (.t rfl) (hS.get 1 rfl) (kG hq7)) (I rfl (U (.xt rfl rfl) (U (.xt rfl rfl) (Ap (.Cb lg) rfl ?_)))))))
    rintro _ w10 ⟨B9,rfl,MB9⟩
    refine Ce (.Cc k7 rfl (.t rfl) (.t rfl) eQ MB9.blk rfl) ?_
    intro w11 LB9
    have NB9:=MB9.set LB9
    replace hS:=hS.Cf NB9
    refine LW.A rfl (An (Aa (I rfl (U (.fa (PEv.n1 rfl) (rfl)) (I rfl (Ar (U (.lc rfl (hS.b2.agg)) (Ar (U (.lc rfl (hS.b3.agg)) (Ar (A3 (eC (.u rfl rfl) (GV)) rfl (Wr x old _) ?_)))))))))))
    rintro _ w12 ⟨rfl,uw12⟩
    replace hS:=hS.up uw12
    refine U (.po rfl (fun hp=>(by exact .tmp rfl))) (Ah (CW.b rfl (fun h47=>?_) (fun h47=>?_)))
    ·replace h47:Ex x old=true:=by simpa using h47
     refine Aa (I rfl (I rfl (U (.lc rfl (hS.b2.agg)) (Ce (Ms.SEv.mapUpdate n6 lq (.t rfl) (.t rfl) (.t rfl) (hS.get 1 rfl)) ?_))))
     rintro w13 ⟨Mu,Ku,zu⟩
     rw[Zc]at Mu
     replace hS:=hS.Ft 1 rfl (Ms.fY Mu Ku)
     refine LW.nil (Al (Ab (Aa (U (.ic rfl oQ) (I rfl (LW.nil (Av ?_)))))))
     exact⟨k+1,⟨by omega,by rw[J4 hx];(rw[Ze hno hq7 h47];exact hS.take 2)⟩,tQ,by omega⟩
    replace h47:Ex x old=false:=by simpa using h47
    refine Aj (Al (Ab (Aa (U (.ic rfl oQ) (I rfl (LW.nil (Av ?_)))))))
    exact⟨k+1,⟨by omega,by rw[J4 hx];(rw[Zf hno hq7 h47];exact hS.take 2)⟩,tQ,by omega⟩
 refine A9 (Ac (Ac (Aq (Ab (Ak ?_)))))
 have hkl:k=l.length:=by simp at h22;omega
 subst hkl
 rw[b7]at hS
 obtain⟨M,hM⟩:∃M,M=Hg l day:=⟨_,rfl⟩
 rw[←hM]at hS
 have hMo:=(Q5 day l).1
 have hMl:=(Q5 day l).2
 rw[←hM]at hMo hMl
 refine Aa (Ap (.Cb zeroValue35) rfl ?_)
 rintro _ w14 ⟨B11,rfl,NB11⟩
 replace hS:=hS.Cf NB11
 refine An (Aa (A3 (eC .nil (GW)) rfl (kM _) ?_))
 rintro _ w15 ⟨bk,rfl,hKm,hKb,uw15⟩
 replace hS:=hS.add uw15 (A':=H9 bk (Ql Xr 11)) (hKm) (fun i(e:i=bk)=>by omega)
 refine LW.A rfl (An (Ak ?_))
 have hLn:=jK 47 19 Fact.cells 11 w15
 replace hS:=hS.add (Up.refl _) (A':=Dp (lists 47 19 Fact.cells (List.replicate 11 (.slice none 0 0)) (List.replicate 11 ([]:List Fact)))) hLn.1 (fun i h=>absurd h (hLn.2 i))
 rw[←tJ]at hS
 refine Aa (I rfl (Ap (Ms.REv.range n6 (.t rfl) (hS.get 1 rfl)) rfl ?_))
 rintro _ w16 ⟨r54,rfl,hR_,uR,eR,zR⟩
 replace hS:=hS.Ft 1 rfl (Ms.O7 hR_ uR eR)
 refine Ah (Ai (A7 (σ:=List Fact×List Go.Value) (fun s w=>(∀f∈s.1,(Cj f,f)∈M)∧((s.1.map Cj).Nodup)∧(s.2.length=11)∧(Wx.Sep no w0 w [A5 B4 #[.slice none 0 0,.slice none 0 0,.slice none 0 0,.slice none 0 0,.slice none 0 0,.slice none 0 0,.slice none 0 0,.slice none 0 0,.slice none 0 0,.slice none 0 0,.slice none 0 0] 35,Ms.Lh B18 r54 (Pc M) (s.1.map Cj),A5 B11 s.2.toArray 35,H9 bk (Ql Xr 11),Dp (lists 47 19 Fact.cells s.2 (Zh [] s.1))])) (fun s=>[]) ([(4,.eq _),(11,.eq _),(12,.eq _),(54,.eq _)]) (fun s=>M.length-s.1.length) ([],List.replicate 11 (.slice none 0 0)) ?_ tQ ?_))
 ·exact⟨fun f h=>by simp at h,g8,rfl,hS⟩
 rintro⟨ds,vs⟩ w17 ⟨hds,hdn,hvl,hS⟩
 dsimp only at hds hdn hvl hS
 refine Ae (Ap (Ms.REv.next (.t rfl) (hS.get 1 rfl)) rfl ?_)
 rintro _ w18 (⟨rfl,rfl,hPm⟩|⟨k0,u0,rfl,hNx⟩)
 ·skip
  refine U (.xt rfl rfl) (An (CW.f rfl (A9 (Ac (Ac (Aq (Ab (Ak (Ak ?_)))))))))
  have hPd:=hPm
  refine Aa (I rfl (Ap (.range mb (.t rfl) (hS.get 3 rfl)) rfl ?_))
  rintro _ w19 ⟨r77,rfl,hR_,uR,eR,zR⟩
  replace hS:=hS.Ft 3 rfl (O7 hR_ uR eR)
  refine Ah (Ai (A7 (σ:=List Int) (fun s w=>(s.Nodup∧∀k∈s,1≤k∧k≤11)∧(Wx.Sep no w0 w [A5 B4 #[.slice none 0 0,.slice none 0 0,.slice none 0 0,.slice none 0 0,.slice none 0 0,.slice none 0 0,.slice none 0 0,.slice none 0 0,.slice none 0 0,.slice none 0 0,.slice none 0 0] 35,Ms.Lh B18 r54 (Pc M) (ds.map Cj),A5 B11 vs.toArray 35,Lh bk r77 (Ql Xr 11) s,Dp (lists 47 19 Fact.cells vs (Zh s ds))])) (fun s=>[]) ([(4,.eq _),(11,.eq _),(77,.eq _)]) (fun s=>11-s.length) [] ?_ tQ ?_))
  ·exact⟨⟨g8,fun k h=>by simp at h⟩,hS⟩
  rintro dn w20 ⟨hdk,hS⟩
  refine Ae (Ap (.next (.t rfl) (hS.get 3 rfl)) rfl ?_)
  rintro _ w21 (⟨rfl,rfl,hPm⟩|⟨kk,u0,rfl,hNx⟩)
  ·skip
   refine U (.xt rfl rfl) (An (CW.f rfl (A9 (Ac (Ac (Aq (Ab (Ak ?_))))))))
   obtain⟨v0,v1,v2,v3,v4,v5,v6,v7,v8,v9,v10,rfl⟩:=Wu hvl
   have hv1:=U3 (hS.get 4 rfl) (by rw[hvl,Im])
   refine Aa (U (.lc rfl (hS.b2.agg)) (Ce (.Cc lz rfl (.t rfl) (.t rfl) (tL hv1) hS.b0 rfl) ?_))
   intro w22 Nw22
   have zw22:=Nw22.size
   replace hS:=hS.Ec 0 rfl Nw22
   refine Ah (Am (Fb rfl rfl mg lz rfl (hS.b0.agg) ⟨_,rfl,?_⟩))
   have hOw:=hS.get 4 rfl
   have hin:∀k:Nat,k<11→((k+1:Nat):Int)∈dn:=fun k hk=>hPm.symm.subset (br.2 ⟨(((k+1:Nat):Int),Xr ((k+1:Nat):Int)),Lq.2 ⟨by omega,by omega,rfl⟩,rfl⟩)
   exact⟨_,ds,rfl,⟨v0,v1,v2,v3,v4,v5,v6,v7,v8,v9,v10,rfl,Ge hOw (j:=0) rfl cQ (hin 0 cQ),Ge hOw (j:=1) rfl cQ (hin 1 cQ),Ge hOw (j:=2) rfl cQ (hin 2 cQ),Ge hOw (j:=3) rfl cQ (hin 3 cQ),Ge hOw (j:=4) rfl cQ (hin 4 cQ),Ge hOw (j:=5) rfl cQ (hin 5 cQ),Ge hOw (j:=6) rfl cQ (hin 6 cQ),Ge hOw (j:=7) rfl cQ (hin 7 cQ),Ge hOw (j:=8) rfl cQ (hin 8 cQ),Ge hOw (j:=9) rfl cQ (hin 9 cQ),Ge hOw (j:=10) rfl cQ (hin 10 cQ)⟩,fun f hf=>hM▸hds f hf,by rw[Mc]at hPd;exact hM▸hPd,dJ (by rw[Im];rfl) (fun i hi=>(hS.foot 4 rfl i hi).resolve_left fun h=>h),⟨v0,rfl,pH hOw (j:=0) rfl cQ (hin 0 cQ)⟩,hS.Ch⟩
  skip
  have zw21:=hNx.size
  replace hS:=hS.Ft 3 rfl (R0 hNx)
  obtain⟨hk1,hk2,hu0⟩:=Lq.1 hNx.mem
  subst hu0
  have hfr2:=hNx.fresh
  have hkk1:1≤kk∧kk≤11:=⟨hk1,by omega⟩
  replace hk2:kk≤11:=by omega
  obtain⟨j,hj⟩:∃j,j=(kk-1).toNat:=⟨_,rfl⟩
  have hj11:j<11:=by omega
  have hkk2:kk=((j+1:Nat):Int):=by omega
  have hdl:=Sf hds hdn
  obtain⟨v,hvj⟩:=Af (xs:=vs) (i:=j) oQ
  have hdk2:(dn++[kk]).Nodup∧∀k∈dn++[kk],1≤k∧k≤11:=⟨g6.2 ⟨hdk.1,by simp,fun a ha c hc=>by simp at hc;subst hc;exact fun e=>hfr2 (e▸ha)⟩,fun k hk=>(bt.1 hk).elim (hdk.2 k) (fun h=>by cases bn.1 h;exact hkk1)⟩
  refine U (.xt rfl rfl) (An (CW.v rfl (Aj (Ab (Ai (Ak ?_))))))
  skip
  refine Aa (Ap (.entry (.t rfl) hNx.entry) rfl ?_)
  rintro _ _ ⟨rfl,rfl⟩
  refine U (.val (v':=.agg #[.func (.func (Nn kk)) #[] #[],.func (.func (Oc kk)) #[] #[]]) (PEv.xt rfl rfl) rfl) (Ap (.Cb mi) rfl ?_)
  rintro _ w23 ⟨B17,rfl,MB17⟩
  refine Ce (.Cc sizeOf81 rfl (.t rfl) (.t rfl) eQ MB17.blk rfl) ?_
  intro w24 LB17
  have NB17:=MB17.set LB17
  replace hS:=hS.Cf NB17
  refine Ah (L3 7 [.eq (.pointer (some ⟨B17,0,none⟩)),.eq (.func (.func (Nn kk)) #[] #[]),.eq (.pointer (some ⟨B11,j,none⟩)),.eq (.pointer (some ⟨B11,j,none⟩)),.eq (v),.eq (.pointer (some ⟨B17,1,none⟩)),.eq (.func (.func (Oc kk)) #[] #[])] [86,88] kQ rfl kQ kQ kQ kQ kQ kQ kQ uQ ?_ ?_)
  ·intro W hU0
   have hU:=(Up.drew w24).trans hU0
   refine aC ⟨rfl,TU.p (.fB 0 rfl) rfl⟩ (aC ⟨rfl,TU.p (.lb rfl ((hS.b5.up hU).Ad rfl)) rfl⟩ (aC ⟨rfl,TU.c (El (.t rfl) (.cu rfl) (gM kk hk1 hk2)) (Zl kk hk1 hk2 B11 _) (by rintro _ W1 ⟨rfl,u⟩;exact⟨u,by rw[hj];rfl⟩)⟩ (aC ⟨rfl,TU.p (.nc rfl) rfl⟩ (aC ⟨rfl,TU.p (.lb rfl ((hS.b2.up hU).cell (by simpa using hvj))) rfl⟩ (aC ⟨rfl,TU.p (.fB 1 rfl) rfl⟩ (aC ⟨rfl,TU.p (.lb rfl ((hS.b5.up hU).Ad rfl)) rfl⟩ ?_))))))
   exact allL.nil
  intro w25 g hU0 hg
  have hU:=(Up.drew w24).trans hU0
  replace hS:=hS.up hU
  have e86:g 86=v:=hg 4 _ 86 cQ rfl rfl
  have e88:g 88=.func (.func (Oc kk)) #[] #[]:=hg 6 _ 88 cQ rfl rfl
  change LW _ _ _ _ _ _ _ _ ((86,.eq (g 86))::(88,.eq (g 88))::_) _
  rw[e86,e88]
  refine A3 (eC (.u rfl rfl) (GX)) rfl (Nj (Oc kk) (K0 kk) (yW kk hk1 hk2) (fun W x=>tP kk hk1 hk2 x W) v (Ea dn ds j) _ (J1 (hS.get 4 rfl) hvj (Gw _ _ hj11)) (by have:=Q6 dn ds j;omega)) ?_
  rintro _ w26 ⟨rfl,hSo⟩
  replace hS:=hS.Ft 4 rfl (Yk (hS.get 4 rfl) (L5 hvj (Gw _ _ hj11)) hSo)
  rw[O8,pG hvj,hkk2]at hS
  refine LW.nil (Al (Av ?_))
  exact⟨dn++[kk],⟨hdk2,by rw[hkk2,←pE hj11 (by rw[←hkk2];exact hfr2)];exact hS.take 5⟩,tQ,by have:=kK hdk hkk1 hfr2;simp;omega⟩
 skip
 have zw18:=hNx.size
 replace hS:=hS.Ft 1 rfl (Ms.R0 hNx)
 obtain⟨⟨kx,x⟩,hmem0,he0⟩:=br.1 hNx.mem
 cases he0
 obtain⟨hkx,hxv⟩:=hMo _ hmem0
 dsimp only at hkx hxv
 subst hkx
 have hmem:=hmem0
 have hfr:=hNx.fresh
 have hk12:1≤x.Kind∧x.Kind≤11:=Eu hxv
 have hds2:∀f∈ds++[x],(Cj f,f)∈M:=fun f hf=>(bt.1 hf).elim (hds f) (fun h=>by cases bn.1 h;exact hmem)
 have hdn2:((ds++[x]).map Cj).Nodup:=Se hdn hfr
 obtain⟨j,hj⟩:∃j,j=(x.Kind-1).toNat:=⟨_,rfl⟩
 have hj11:j<11:=by omega
 have hkj:x.Kind=((j+1:Nat):Int):=by omega
 have hdl:=Sf hds hdn
 have hdl2:=Sh hds hdn hmem hfr
 refine U (.xt rfl rfl) (An (CW.v rfl (Aj (Ab (Ai (Ae (Ap (Ms.REv.entry (.t rfl) hNx.entry) rfl ?_)))))))
 rintro _ _ ⟨rfl,rfl⟩
 refine U (.xt rfl rfl) (Ap (.Cb lg) rfl ?_)
 rintro _ w27 ⟨B14,rfl,MB14⟩
 refine Ce (.Cc k7 rfl (.t rfl) (.t rfl) eQ MB14.blk rfl) ?_
 intro w28 LB14
 have NB14:=MB14.set LB14
 replace hS:=hS.Cf NB14
 refine An ?_
 cases hq16:x.Gone with
 |true=>
  have hgn:=hq16
  refine Aa (U (.fB 4 rfl) (U (.lb rfl (hS.b5.Ad rfl)) (U (.fa (PEv.n1 rfl) (by rw[hq16];rfl)) (Ah (CW.f rfl (Aj (Al (Av ?_))))))))
  exact⟨(ds++[x],vs),⟨hds2,hdn2,hvl,by(rw[pD hgn,cm];exact hS.take 5)⟩,tQ,by show M.length-(ds++[x]).length<M.length-ds.length;have:=Sh hds hdn hmem hfr;simp;omega⟩
 |false=>
  have hgn:=hq16
  refine Aa (U (.fB 4 rfl) (U (.lb rfl (hS.b5.Ad rfl)) (U (.tr (PEv.n1 rfl) (by rw[hq16];rfl)) (Ah (CW.v rfl (Ae (I rfl (U (.fB 0 rfl) (U (.lb rfl (hS.b5.Ad rfl)) (U (.val (v':=.agg #[.func (.func (Nn x.Kind)) #[] #[],.func (.func (Oc x.Kind)) #[] #[]]) (PEv.Hr (ok:=false) mb k9 (.t rfl) (.t rfl) (hS.get 3 rfl) (Lq.2 ⟨hk12.1,(show x.Kind≤((11:Nat):Int)from by omega),rfl⟩)) rfl) (U (.bN (off:=0) ma rfl rfl isAgg78 (.t rfl) rfl) (A3 (El (.t rfl) (.cu rfl) (gM x.Kind hk12.1 hk12.2)) rfl (Zl x.Kind hk12.1 hk12.2 B11 _) ?_))))))))))))
  rintro _ w29 ⟨rfl,uw29⟩
  replace hS:=hS.up uw29
  rw[←hj]
  refine LW.A rfl (Ah ?_)
  obtain⟨v,hvj⟩:=Af (xs:=vs) (i:=j) oQ
  refine Iy 6 (fun v w''=>Wx.Sep no w0 w'' [A5 B4 #[.slice none 0 0,.slice none 0 0,.slice none 0 0,.slice none 0 0,.slice none 0 0,.slice none 0 0,.slice none 0 0,.slice none 0 0,.slice none 0 0,.slice none 0 0,.slice none 0 0] 35,Ms.Lh B18 r54 (Pc M) (ds.map Cj++[Cj x]),A5 B11 vs.toArray 35,H9 bk (Ql Xr 11),Dp ((lists 47 19 Fact.cells vs (Zh [] ds)).set j (Aw 47 19 Fact.cells v (Ea [] ds j++[x]))),A5 B14 x.cells 47]) kQ kQ kQ kQ kQ kQ rfl rfl rfl rfl rfl (J (.mv rfl) (J (.mv rfl) (J (.nc rfl) (J (.lb rfl (hS.b2.cell (by simpa using hvj))) (J (.lc rfl (hS.b5.agg)) (HW.r (p:=fun v w=>Sl w v 19 (Fact.cells) [x]) (fun _ _ _ h u=>Sl.up h u) rfl (fun w hu a ha=>let⟨v,w',h1,h2⟩:=REv.buildSlice (xs:=[x]) (enc:=Fact.cells) (mk:=fun f:Fact=>.agg f.cells) kz k7 lg rfl bQ (fun _=>rfl) (fun _=>rfl) (.cu rfl) rfl a ha;⟨v,w',h1,h2.q⟩) rfl (HW.nil ⟨fun a w' hu ha=>?_,?_⟩)))))))
  ·exact(REv.open (d:=73) (p:=fun v w=>Sl w v 19 Fact.cells [x]) rfl fun vv hv=>(REv.Df (bytes:=160) (i:=Tryz.t47) kz kQ rfl rfl rfl rfl cQ (fun _=>rfl) Fact.one (.t rfl) (.t rfl) (J1 ((hS.up hu).get 4 rfl) hvj (Gw _ _ hj11)) hv (by have:=Q6 [] ds j;simp only[a8,bp,maxLen];omega) (by have:=Q6 [] ds j;simp only[a8,bp];omega)).mono fun v' w'' h=>(hS.up hu).Ft 4 rfl (Yk ((hS.up hu).get 4 rfl) (L5 hvj (Gw _ _ hj11)) h)).y ha
  intro v74 w30 hS
  have hv1:v74.oneCell'=true:=by
   have h:=hS.get 4 rfl
   rw[O8]at h
   exact U3 h (by rw[du,du,hvl,Im]) v74 (ai (i:=j) (by rw[List.getElem?_set_self (by omega)]))
  refine U (.nc rfl) (Ce (.store sizeOf25 (.t rfl) (.t rfl) hv1 hS.b2 (by simp;omega)) ?_)
  intro w31 Nw31
  have zw31:=Nw31.size
  replace hS:=hS.Ec 2 rfl (by rw[tK]at Nw31;exact Nw31)
  refine LW.nil (Al (Av ?_))
  exact⟨(ds++[x],vs.set j v74),⟨hds2,hdn2,by show(vs.set j v74).length=11;rw[du];exact hvl,by(rw[tI hgn hj11 hkj,←O8,cm];exact hS.take 5)⟩,tQ,by show M.length-(ds++[x]).length<M.length-ds.length;have:=Sh hds hdn hmem hfr;simp;omega⟩
theorem yX(ad:Option Addr)(cp:Nat)(l:List Fact)(day:Int)(w:World)(hE0:Els w ad 19 Fact.cells l)(hl:l.length≤100000):Ret prog 6 #[.slice ad l.length cp,vi day] w fun r w'=>∃bc,r=.agg bc∧BaseC w' bc (Sr l day)∧gL w.heap.size bc∧Up w w':=
 (tR ad cp l day w hE0 hl).mono fun _ _⟨bc,_,e,hB,h1,h2,h3,_,u⟩=>⟨bc,e,yL h1 h2▸hB,h3,u⟩
end Go.Proofs.YthcabjphnacjeaaGreatDoor
