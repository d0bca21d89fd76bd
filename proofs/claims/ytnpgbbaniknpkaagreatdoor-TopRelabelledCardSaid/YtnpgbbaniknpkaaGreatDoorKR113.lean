import Derived.Test.YtnpgbbaniknpkaaGreatDoorKR112
namespace Go.Wx
def Lp(k:Int)(f:Fact):K2:=match k with
 |4=>(f.Wafer,f.Time)
 |5=>(f.Product,0)
 |8=>(f.Other,f.Parties)
 |10=>(f.Recipe,f.Time)
 |_=>(f.ID,0)
abbrev Ga:=List (List UInt8×Fact)
def Te(m:Ga)(k:List UInt8):Option Fact:=(m.find? fun p=>p.1==k).map (·.2)
def Mg(m:Ga)(k:List UInt8)(f:Fact):Ga:=if k∈m.map (·.1)then m.map (fun p=>if p.1=k then(k,f)else p)else m++[(k,f)]
def P6(m:Ga):List (List UInt8×Go.Value):=m.map fun p=>(p.1,.agg p.2.cells)
theorem M2(m:Ga):(P6 m).map (·.1)=m.map (·.1):=by simp[P6]
theorem Z9(m:Ga)(k:List UInt8)(f:Fact):Ms.Hu (P6 m) k (.agg f.cells)=P6 (Mg m k f):=by
 unfold Ms.Hu Mg
 rw[M2]
 split
 · simp only[P6,fd]
   apply e8
   intro p _
   simp only[Function.comp]
   split<;>rfl
 simp[P6]
theorem lQ{m:Ga}{k:List UInt8}{f:Fact}(h:Te m k=some f):(k,.agg f.cells)∈P6 m:=by
 unfold Te at h
 cases hf:m.find? (fun p=>p.1==k)with
 |none=>rw[hf]at h;cases h
 |some p=>
   rw[hf]at h
   have h1:=ji hf
   have h2:(p.1==k)=true:=kt (p:=fun p:List UInt8×Fact=>p.1==k) hf
   have h3:=eq_of_beq h2
   simp at h
   refine bx.2 ⟨p,h1,?_⟩
   rw[h3,h]
theorem V7{m:Ga}{k:List UInt8}(h:Te m k=none):k∉(P6 m).map (·.1):=by
 rw[M2]
 intro hm
 obtain⟨p,hp,e⟩:=bx.1 hm
 unfold Te at h
 rw[Option.map_eq_none_iff,jh]at h
 exact h p hp (by simp[e])
def Dx(day:Int)(m:Ga)(f:Fact):Ga:=if Cm f=[]∨day<f.Day then m else match Te m (Cm f)with
 |none=>Mg m (Cm f) f
 |some old=>if E0 f old=true then Mg m (Cm f) f else m
def Hl(l:List Fact)(day:Int):Ga:=l.foldl (Dx day) []
theorem Kk{l:List Fact}{day:Int}{k:Nat}{x:Fact}(h:l[k]?=some x):Hl (l.take (k+1)) day=Dx day (Hl (l.take k) day) x:=by
 rw[Cr h,Hl,List.foldl_append];rfl
theorem P7{day:Int}{m:Ga}{x:Fact}(h:Cm x=[]∨day<x.Day):Dx day m x=m:=by rw[Dx,bh h]
theorem aA{day:Int}{m:Ga}{x:Fact}(h:¬(Cm x=[]∨day<x.Day))(hg:Te m (Cm x)=none):Dx day m x=Mg m (Cm x) x:=by rw[Dx,aq h,hg]
theorem aB{day:Int}{m:Ga}{x old:Fact}(h:¬(Cm x=[]∨day<x.Day))(hg:Te m (Cm x)=some old)(hp:E0 x old=true):Dx day m x=Mg m (Cm x) x:=by rw[Dx,aq h,hg];simp[hp]
theorem aD{day:Int}{m:Ga}{x old:Fact}(h:¬(Cm x=[]∨day<x.Day))(hg:Te m (Cm x)=some old)(hp:E0 x old=false):Dx day m x=m:=by rw[Dx,aq h,hg];simp[hp]
def MOk(m:Ga):Prop:=∀p∈m,p.1=Cm p.2∧Ca p.2=true
theorem Li{f:Fact}(h:Cm f≠[]):Ca f=true:=by
 cases hv:Ca f with
 |true=>rfl
 |false=>rw[Cm,aq (by rw[hv];exact ca)]at h;exact absurd rfl h
theorem MOk.set{m:Ga}{f:Fact}(h:MOk m)(hf:Ca f=true):MOk (Mg m (Cm f) f):=by
 intro p hp
 unfold Mg at hp
 split at hp
 · obtain⟨q,hq,e⟩:=bx.1 hp
   split at e
   · rw[←e];exact⟨rfl,hf⟩
   rw[←e];exact h q hq
 rcases bt.1 hp with hp|hp
 · exact h p hp
 simp at hp;rw[hp];exact⟨rfl,hf⟩
theorem aE(m:Ga)(k:List UInt8)(f:Fact):(Mg m k f).length≤m.length+1:=by
 unfold Mg
 split<;>simp
theorem MOk.step{m:Ga}(h:MOk m)(day:Int)(f:Fact):MOk (Dx day m f)∧(Dx day m f).length≤m.length+1:=by
 unfold Dx
 split
 · exact⟨h,by omega⟩
 rename_i hk
 have hv:Ca f=true:=Li fun e=>hk (.inl e)
 split
 · exact⟨h.set hv,aE _ _ _⟩
 split
 · exact⟨h.set hv,aE _ _ _⟩
 exact⟨h,by omega⟩
theorem Ry(day:Int):∀(l:List Fact),MOk (Hl l day)∧(Hl l day).length≤l.length:=by
 have:∀(l:List Fact)(m:Ga),MOk m→MOk (l.foldl (Dx day) m)∧(l.foldl (Dx day) m).length≤m.length+l.length:=by
   intro l
   induction l with
   |nil=>intro m h;exact⟨h,by simp⟩
   |cons x l ih=>
     intro m h
     have h1:=h.step day x
     have h2:=ih _ h1.1
     exact⟨h2.1,by have:=h2.2;simp only[kr,bg];omega⟩
 intro l
 have h:=this l [] (fun p hp=>by simp at hp)
 exact⟨h.1,by have:=h.2;simp only[bw,dp]at this;exact this⟩
def Ei(dn:List Int)(ds:List Fact)(j:Nat):List Fact:=
 if((j+1:Nat):Int)∈dn then H9 (Lp ((j+1:Nat):Int)) (ds.filter fun f=> !f.Gone&&decide (f.Kind=((j+1:Nat):Int)))else ds.filter fun f=> !f.Gone&&decide (f.Kind=((j+1:Nat):Int))
def aF(dn:List Int)(ds:List Fact):List (List Fact):=(List.range 11).map (Ei dn ds)
theorem Iz(dn:List Int)(ds:List Fact):(aF dn ds).length=11:=by simp[aF]
theorem G4(dn:List Int)(ds:List Fact){j:Nat}(hj:j<11):(aF dn ds)[j]?=some (Ei dn ds j):=by simp[aF,hj]
theorem qS{ds:List Fact}{x:Fact}(h:x.Gone=true):aF [] (ds++[x])=aF [] ds:=by
 unfold aF
 apply e8
 intro j _
 simp[Ei,h]
theorem vD{ds:List Fact}{x:Fact}{j:Nat}(h:x.Gone=false)(hj:j<11)(hk:x.Kind=((j+1:Nat):Int)):aF [] (ds++[x])=(aF [] ds).set j (Ei [] ds j++[x]):=by
 apply cr
 intro i
 rw[gm]
 by_cases e:j=i
 · subst e
   rw[bh rfl,bh (by rw[Iz];exact hj),G4 _ _ hj]
   simp[Ei,h,hk]
 rw[aq e]
 by_cases hi:i<11
 · rw[G4 _ _ hi,G4 _ _ hi]
   have:decide (x.Kind=((i+1:Nat):Int))=false:=br oQ
   simp only[Ei,ei,if_false,cz]
   rw[dz,aq (by rw[this,Bool.and_false];exact ca)]
   simp
 rw[cy (by rw[Iz];omega),cy (by rw[Iz];omega)]
theorem qT{dn:List Int}{ds:List Fact}{j:Nat}(hj:j<11)(hn:((j+1:Nat):Int)∉dn):(aF dn ds).set j (H9 (Lp ((j+1:Nat):Int)) (Ei dn ds j))=aF (dn++[((j+1:Nat):Int)]) ds:=by
 apply cr
 intro i
 rw[gm]
 by_cases e:j=i
 · subst e
   rw[bh rfl,bh (by rw[Iz];exact hj),G4 _ _ hj]
   unfold Ei
   rw[aq hn,bh (f4 _ (bn.2 rfl))]
 rw[aq e]
 by_cases hi:i<11
 · rw[G4 _ _ hi,G4 _ _ hi]
   have:((i+1:Nat):Int)≠((j+1:Nat):Int):=by omega
   simp only[Ei,bt,bn,this,d_]
 rw[cy (by rw[Iz];omega),cy (by rw[Iz];omega)]
theorem Rz(dn:List Int)(ds:List Fact)(j:Nat):(Ei dn ds j).length≤ds.length:=by
 unfold Ei
 split
 · rw[(D8 _).same.length];exact ef _ _
 exact ef _ _
theorem vE:aF [] []=List.replicate 11 ([]:List Fact):=by
 rfl
theorem vF(vs:List Go.Value)(j:Nat)(v:Go.Value):vs.toArray.setIfInBounds j v=(vs.set j v).toArray:=by simp
theorem lR{x:Fact}(h:Cm x=[]):((⟨(Cm x).toArray⟩:ByteArray).toList==(⟨#[]⟩:ByteArray).toList)=true:=by rw[Ja,Ja,h];rfl
theorem qU{x:Fact}(h:Cm x≠[]):((⟨(Cm x).toArray⟩:ByteArray).toList==(⟨#[]⟩:ByteArray).toList)=false:=by
 rw[Ja,Ja]
 simpa using h
theorem Xr{vs:List Go.Value}(h:vs.length=11):∃v0 v1 v2 v3 v4 v5 v6 v7 v8 v9 v10,vs=[v0,v1,v2,v3,v4,v5,v6,v7,v8,v9,v10]:=by
 match vs,h with
 |[v0,v1,v2,v3,v4,v5,v6,v7,v8,v9,v10],_=>exact⟨v0,v1,v2,v3,v4,v5,v6,v7,v8,v9,v10,rfl⟩
def aG(ds:List Fact):Base:=⟨Ei [1] ds 0,Ei [2] ds 1,Ei [3] ds 2,Ei [4] ds 3,Ei [5] ds 4,Ei [6] ds 5,Ei [7] ds 6,Ei [8] ds 7,Ei [9] ds 8,Ei [10] ds 9,Ei [11] ds 10⟩
theorem aH{dn:List Int}{ds:List Fact}{j:Nat}(h:((j+1:Nat):Int)∈dn):Ei dn ds j=Ei [((j+1:Nat):Int)] ds j:=by
 unfold Ei
 rw[bh h,bh (bn.2 rfl)]
theorem Tf{ds:List Fact}{x:Fact}(h:(ds.map Cm).Nodup)(hf:Cm x∉ds.map Cm):((ds++[x]).map Cm).Nodup:=by
 rw[co,g9]
 exact⟨h,by simp,fun a ha c hc=>by simp at hc;subst hc;exact fun e=>hf (e▸ha)⟩
theorem Tg{ds:List Fact}{M:Ga}(h:∀f∈ds,(Cm f,f)∈M)(hn:(ds.map Cm).Nodup):ds.length≤M.length:=by
 have:=hn.length_le_of_subset (l₂:=M.map (·.1)) (fun k hk=>by
   obtain⟨f,hf,rfl⟩:=bx.1 hk
   exact bx.2 ⟨_,h f hf,rfl⟩)
 simpa using this
theorem Th{ds:List Fact}{M:Ga}{x:Fact}(h:∀f∈ds,(Cm f,f)∈M)(hn:(ds.map Cm).Nodup)(hx:(Cm x,x)∈M)(hf:Cm x∉ds.map Cm):ds.length+1≤M.length:=by
 have:=Tg (ds:=ds++[x]) (M:=M) (fun f hf=>by rcases bt.1 hf with hf|hf;exact h f hf;simp at hf;rw[hf];exact hx) (Tf hn hf)
 simpa using this
theorem lS{dn:List Int}(h:dn.Nodup∧∀k∈dn,1≤k∧k≤11):dn.length≤11:=by
 have:=h.1.length_le_of_subset (l₂:=[1,2,3,4,5,6,7,8,9,10,11]) (fun k hk=>by
   have:=h.2 k hk
   simp;omega)
 simpa using this
theorem lT{dn:List Int}{k:Int}(h:dn.Nodup∧∀k∈dn,1≤k∧k≤11)(hk:1≤k∧k≤11)(hf:k∉dn):dn.length+1≤11:=by
 have:=lS (dn:=dn++[k]) ⟨g9.2 ⟨h.1,by simp,fun a ha c hc=>by simp at hc;subst hc;exact fun e=>hf (e▸ha)⟩,fun q hq=>by rcases bt.1 hq with hq|hq;exact h.2 q hq;simp at hq;rw[hq];exact hk⟩
 simpa using this
theorem qV{α:Type}{vs:List α}{j:Nat}{v:α}(h:vs[j]?=some v):vs.set j v=vs:=by
 apply cr
 intro i
 rw[gm]
 by_cases e:j=i
 · subst e
   rw[bh rfl,bh (am.1 h).1,h]
 rw[aq e]
theorem Gn{e:Nat}{dn:List Int}{ds:List Fact}{vs:List Go.Value}{w:World}(h:(Dw (lists e 19 Fact.cells vs (aF dn ds))).holds w){j:Nat}{v:Go.Value}(hv:vs[j]?=some v)(hj:j<11)(hin:((j+1:Nat):Int)∈dn):Sl w v 19 Fact.cells (Ei [((j+1:Nat):Int)] ds j):=by
 have:=(Kh h hv (G4 _ _ hj)).sl (fun _=>rfl)
 rwa [aH hin]at this
theorem qW{e:Nat}{dn:List Int}{ds:List Fact}{vs:List Go.Value}{w:World}(h:(Dw (lists e 19 Fact.cells vs (aF dn ds))).holds w){j:Nat}{v:Go.Value}(hv:vs[j]?=some v)(hj:j<11)(hin:((j+1:Nat):Int)∈dn):OwnS w 0 e 19 Fact.cells v (Ei [((j+1:Nat):Int)] ds j):=by
 have:=Kh h hv (G4 _ _ hj)
 rwa [aH hin]at this
def iS(base:Nat)(bc:Array Go.Value):Prop:=∀(j:Nat)(v:Go.Value),bc[j]?=some v→∀i,v.ownBlock=some i→base≤i
theorem eX{α:Type}{e k base:Nat}{enc:α→Array Go.Value}{vs:List Go.Value}{xss:List (List α)}(hl:vs.length=xss.length)(h:∀i,(Dw (lists e k enc vs xss)).foot i→base≤i):iS base vs.toArray:=fun j v hv i hi=>by
 have hv2:vs[j]?=some v:=by simpa using hv
 have hlt:=(am.1 hv2).1
 obtain⟨xs,hx⟩:=Ae (xs:=xss) (i:=j) oQ
 exact h i ⟨_,ai (Mv hv2 hx),hi⟩
theorem vG{vs:List Go.Value}(h:∀v∈vs,v.oneCell'=true):vs.toArray.all (·.oneCell')=true:=by
 rw[ck]
 intro v hv
 exact h v (by simpa using hv)
theorem Ti{α:Type}{key:α→K2}{l s:List α}(h:l.Perm s)(hd:∀x∈l,∀y∈l,key x=key y→x=y):H9 key l=H9 key s:=by
 have hs:sameF key l s:=fun k=>by
   have hp:=h.filter (fun x=>key x==k)
   cases e:l.filter (fun x=>key x==k)with
   |nil=>rw[e]at hp;exact hp.symm.eq_nil
   |cons x r=>
     have all:∀y∈l.filter (fun x=>key x==k),y=x:=fun y hy=>by
       have hx:x∈l.filter (fun x=>key x==k):=by rw[e];exact b7
       rw[fe]at hx hy
       exact hd _ hy.1 _ hx.1 ((eq_of_beq hy.2).trans (eq_of_beq hx.2).symm)
     have h1:l.filter (fun x=>key x==k)=List.replicate (l.filter (fun x=>key x==k)).length x:=List.eq_replicate_iff.2 ⟨rfl,all⟩
     have h2:s.filter (fun x=>key x==k)=List.replicate (l.filter (fun x=>key x==k)).length x:=List.eq_replicate_iff.2 ⟨hp.length_eq.symm,fun y hy=>all y (hp.symm.subset hy)⟩
     rw[h2,←h1,e]
 have:StS key l (H9 key s):=⟨(D8 s).ord,hs.trans (D8 s).same⟩
 exact this.eq.symm
theorem N9{k:Int}{f g:Fact}(hf:Ca f=true)(hg:Ca g=true)(hkf:f.Kind=k)(hkg:g.Kind=k)(h:Lp k f=Lp k g):Cm f=Cm g:=by
 have hk:=E6 hf
 rw[hkf]at hk
 unfold Cm O4
 rw[bh hf,bh hg,hkf,hkg]
 have hc:k=1∨k=2∨k=3∨k=4∨k=5∨k=6∨k=7∨k=8∨k=9∨k=10∨k=11:=by omega
 rcases hc with rfl|rfl|rfl|rfl|rfl|rfl|rfl|rfl|rfl|rfl|rfl
 · replace h:(f.ID,(0:Int))=(g.ID,(0:Int)):=h
   show Cw [1,f.ID]=Cw [1,g.ID]
   rw[(fy h).1]
 · replace h:(f.ID,(0:Int))=(g.ID,(0:Int)):=h
   show Cw [2,f.ID]=Cw [2,g.ID]
   rw[(fy h).1]
 · replace h:(f.ID,(0:Int))=(g.ID,(0:Int)):=h
   show Cw [3,f.ID]=Cw [3,g.ID]
   rw[(fy h).1]
 · replace h:(f.Wafer,f.Time)=(g.Wafer,g.Time):=h
   show Cw [4,f.Wafer,f.Time]=Cw [4,g.Wafer,g.Time]
   rw[(fy h).1,(fy h).2]
 · replace h:(f.Product,(0:Int))=(g.Product,(0:Int)):=h
   show Cw [5,f.Product]=Cw [5,g.Product]
   rw[(fy h).1]
 · replace h:(f.ID,(0:Int))=(g.ID,(0:Int)):=h
   show Cw [6,f.ID]=Cw [6,g.ID]
   rw[(fy h).1]
 · replace h:(f.ID,(0:Int))=(g.ID,(0:Int)):=h
   show Cw [7,f.ID]=Cw [7,g.ID]
   rw[(fy h).1]
 · replace h:(f.Other,f.Parties)=(g.Other,g.Parties):=h
   show Cw [8,f.Other,f.Parties]=Cw [8,g.Other,g.Parties]
   rw[(fy h).1,(fy h).2]
 · replace h:(f.ID,(0:Int))=(g.ID,(0:Int)):=h
   show Cw [9,f.ID]=Cw [9,g.ID]
   rw[(fy h).1]
 · replace h:(f.Recipe,f.Time)=(g.Recipe,g.Time):=h
   show Cw [10,f.Recipe,f.Time]=Cw [10,g.Recipe,g.Time]
   rw[(fy h).1,(fy h).2]
 replace h:(f.ID,(0:Int))=(g.ID,(0:Int)):=h
 show Cw [11,f.ID]=Cw [11,g.ID]
 rw[(fy h).1]
theorem V8(m:Ga)(k:List UInt8)(f:Fact):(Mg m k f).map (·.1)=if k∈m.map (·.1)then m.map (·.1)else m.map (·.1)++[k]:=by
 unfold Mg
 split
 · rw[fd]
   apply e8
   intro p _
   simp only[Function.comp]
   split
   · rename_i e;exact e.symm
   rfl
 simp
theorem Tj{m:Ga}(h:(m.map (·.1)).Nodup)(k:List UInt8)(f:Fact):((Mg m k f).map (·.1)).Nodup:=by
 rw[V8]
 split
 · exact h
 rename_i hn
 rw[g9]
 exact⟨h,by simp,fun a ha c hc=>by cases bn.1 hc;exact fun e=>hn (e▸ha)⟩
theorem Tk{m:Ga}(h:(m.map (·.1)).Nodup)(day:Int)(f:Fact):((Dx day m f).map (·.1)).Nodup:=by
 unfold Dx
 split
 · exact h
 split
 · exact Tj h _ _
 split
 · exact Tj h _ _
 exact h
theorem Oa(l:List Fact)(day:Int):((Hl l day).map (·.1)).Nodup:=by
 have:∀(l:List Fact)(m:Ga),(m.map (·.1)).Nodup→((l.foldl (Dx day) m).map (·.1)).Nodup:=by
   intro l
   induction l with
   |nil=>exact fun m h=>h
   |cons x l ih=>exact fun m h=>ih _ (Tk h day x)
 exact this l [] ig
theorem V9{m:Ga}(h:(m.map (·.1)).Nodup){k:List UInt8}{f g:Fact}(hf:(k,f)∈m)(hg:(k,g)∈m):f=g:=by
 induction m with
 |nil=>cases hf
 |cons p m ih=>
   rw[c8,g5]at h
   rcases bp.1 hf with e|hf'<;>rcases bp.1 hg with e'|hg'
   · rw[←e']at e;cases e;rfl
   · exact absurd (bx.2 ⟨_,hg',by rw[←e]⟩) h.1
   · exact absurd (bx.2 ⟨_,hf',by rw[←e']⟩) h.1
   exact ih h.2 hf' hg'
def Hm(m:Ga):List Fact:=m.map (·.2)
theorem Jo{m:Ga}(h:MOk m){f:Fact}:f∈Hm m↔(Cm f,f)∈m:=by
 constructor
 · intro hf
   obtain⟨⟨k,g⟩,hp,e⟩:=bx.1 hf
   have e:g=f:=e
   subst e
   have:=(h _ hp).1
   have this:k=Cm g:=this
   rw[←this];exact hp
 exact fun hf=>bx.2 ⟨_,hf,rfl⟩
theorem Q5{m:Ga}(h:MOk m):(Hm m).map Cm=m.map (·.1):=by
 unfold Hm
 rw[fd]
 apply e8
 intro p hp
 exact(h p hp).1.symm
theorem I0{α β:Type}{f:α→β}:∀{l:List α},(l.map f).Nodup→l.Nodup
 |[],_=>ig
 |x::l,h=>by
   rw[c8,g5]at h
   exact g5.2 ⟨fun hm=>h.1 (bx.2 ⟨x,hm,rfl⟩),I0 h.2⟩
theorem Mh{α:Type}{l s:List α}(hl:l.Nodup)(hs:s.Nodup)(h:∀x,x∈l↔x∈s):l.Perm s:=(jg hl hs).2 h
theorem lU{ds:List Fact}{m:Ga}(hm:MOk m)(hn:(m.map (·.1)).Nodup)(h:∀f∈ds,(Cm f,f)∈m)(hp:(ds.map Cm).Perm (m.map (·.1))):ds.Perm (Hm m):=by
 refine Mh (I0 (f:=Cm) (hp.nodup_iff.2 hn)) (I0 (f:=Cm) (by rw[Q5 hm];exact hn)) fun x=>?_
 rw[Jo hm]
 refine⟨h x,fun hx=>?_⟩
 obtain⟨y,hy,e⟩:=bx.1 (hp.symm.subset (bx.2 ⟨_,hx,rfl⟩))
 have e:Cm y=Cm x:=e
 have:=h y hy
 rw[e]at this
 rw[V9 hn hx this];exact hy
theorem eY{m:Ga}(hm:MOk m)(hn:(m.map (·.1)).Nodup){f g:Fact}(hf:f∈Hm m)(hg:g∈Hm m)(e:Cm f=Cm g):f=g:=by
 rw[Jo hm]at hf hg
 rw[e]at hf
 exact V9 hn hf hg
theorem Gp{m:Ga}(hm:MOk m)(hn:(m.map (·.1)).Nodup){ds:List Fact}(h:ds.Perm (Hm m))(dn:List Int)(j:Nat)(hj:((j+1:Nat):Int)∈dn):Ei dn ds j=Ei dn (Hm m) j:=by
 unfold Ei
 rw[bh hj,bh hj]
 refine Ti (h.filter _) fun x hx y hy e=>?_
 rw[fe]at hx hy
 have hxm:=h.subset hx.1
 have hym:=h.subset hy.1
 have vx:=(hm _ ((Jo hm).1 hxm)).2
 have vy:=(hm _ ((Jo hm).1 hym)).2
 simp only[b6,gj]at hx hy
 exact eY hm hn hxm hym (N9 vx vy hx.2.2 hy.2.2 e)
def Ll(l:List Fact)(day:Int):Base:=aG (Hm (Hl l day))
theorem AK{ds:List Fact}{l:List Fact}{day:Int}(h:∀f∈ds,(Cm f,f)∈Hl l day)(hp:(ds.map Cm).Perm ((Hl l day).map (·.1))):aG ds=Ll l day:=by
 have hm:=(Ry day l).1
 have hn:=Oa l day
 have h1:=lU hm hn h hp
 unfold Ll aG
 rw[Gp hm hn h1 [1] 0 cQ,Gp hm hn h1 [2] 1 cQ,Gp hm hn h1 [3] 2 cQ,Gp hm hn h1 [4] 3 cQ,Gp hm hn h1 [5] 4 cQ,Gp hm hn h1 [6] 5 cQ,Gp hm hn h1 [7] 6 cQ,Gp hm hn h1 [8] 7 cQ,Gp hm hn h1 [9] 8 cQ,Gp hm hn h1 [10] 9 cQ,Gp hm hn h1 [11] 10 (by decide)]
end Go.Wx
namespace Go.Proofs.YtnpgbbaniknpkaaGreatDoor
open Go.Proofs.Tryz
open Go.Wx Go.RowKit
def Oc(k:Int):Nat:=match k with
 |1=>59
 |2=>61
 |3=>62
 |4=>63
 |5=>65
 |6=>67
 |7=>68
 |8=>69
 |9=>71
 |10=>72
 |11=>74
 |_=>0
def O7(k:Int):Nat:=match k with
 |1=>60
 |2=>60
 |3=>60
 |4=>64
 |5=>66
 |6=>60
 |7=>60
 |8=>70
 |9=>60
 |10=>73
 |11=>60
 |_=>0
def Yl(k:Int):Go.Value:=.agg #[.func (.func (Oc k)) #[] #[],.func (.func (O7 k)) #[] #[]]
theorem AL(B:Nat)(w:World):Ret prog 59 #[.pointer (some ⟨B,0,none⟩)] w fun r w'=>r=.pointer (some ⟨B,0,none⟩)∧Up w w':=by
 have hW:=Up.refl w
 refine cT 6 func59 rfl (Af (Az (An (Aa (I rfl (U (.nc rfl) (U (.fB 0 rfl) (LW.A rfl (Ah (Am (KW.q ?_)))))))))))
 exact⟨rfl,hW⟩
theorem AM(B:Nat)(w:World):Ret prog 61 #[.pointer (some ⟨B,0,none⟩)] w fun r w'=>r=.pointer (some ⟨B,1,none⟩)∧Up w w':=by
 have hW:=Up.refl w
 refine cT 6 func61 rfl (Af (Az (An (Aa (I rfl (U (.nc rfl) (U (.fB 1 rfl) (LW.A rfl (Ah (Am (KW.q ?_)))))))))))
 exact⟨rfl,hW⟩
theorem AN(B:Nat)(w:World):Ret prog 62 #[.pointer (some ⟨B,0,none⟩)] w fun r w'=>r=.pointer (some ⟨B,2,none⟩)∧Up w w':=by
 have hW:=Up.refl w
 refine cT 6 func62 rfl (Af (Az (An (Aa (I rfl (U (.nc rfl) (U (.fB 2 rfl) (LW.A rfl (Ah (Am (KW.q ?_)))))))))))
 exact⟨rfl,hW⟩
theorem AO(B:Nat)(w:World):Ret prog 63 #[.pointer (some ⟨B,0,none⟩)] w fun r w'=>r=.pointer (some ⟨B,3,none⟩)∧Up w w':=by
 have hW:=Up.refl w
 refine cT 6 func63 rfl (Af (Az (An (Aa (I rfl (U (.nc rfl) (U (.fB 3 rfl) (LW.A rfl (Ah (Am (KW.q ?_)))))))))))
 exact⟨rfl,hW⟩
theorem AP(B:Nat)(w:World):Ret prog 65 #[.pointer (some ⟨B,0,none⟩)] w fun r w'=>r=.pointer (some ⟨B,4,none⟩)∧Up w w':=by
 have hW:=Up.refl w
 refine cT 6 func65 rfl (Af (Az (An (Aa (I rfl (U (.nc rfl) (U (.fB 4 rfl) (LW.A rfl (Ah (Am (KW.q ?_)))))))))))
 exact⟨rfl,hW⟩
theorem AQ(B:Nat)(w:World):Ret prog 67 #[.pointer (some ⟨B,0,none⟩)] w fun r w'=>r=.pointer (some ⟨B,5,none⟩)∧Up w w':=by
 have hW:=Up.refl w
 refine cT 6 func67 rfl (Af (Az (An (Aa (I rfl (U (.nc rfl) (U (.fB 5 rfl) (LW.A rfl (Ah (Am (KW.q ?_)))))))))))
 exact⟨rfl,hW⟩
theorem AR(B:Nat)(w:World):Ret prog 68 #[.pointer (some ⟨B,0,none⟩)] w fun r w'=>r=.pointer (some ⟨B,6,none⟩)∧Up w w':=by
 have hW:=Up.refl w
 refine cT 6 func68 rfl (Af (Az (An (Aa (I rfl (U (.nc rfl) (U (.fB 6 rfl) (LW.A rfl (Ah (Am (KW.q ?_)))))))))))
 exact⟨rfl,hW⟩
theorem AU(B:Nat)(w:World):Ret prog 69 #[.pointer (some ⟨B,0,none⟩)] w fun r w'=>r=.pointer (some ⟨B,7,none⟩)∧Up w w':=by
 have hW:=Up.refl w
 refine cT 6 func69 rfl (Af (Az (An (Aa (I rfl (U (.nc rfl) (U (.fB 7 rfl) (LW.A rfl (Ah (Am (KW.q ?_)))))))))))
 exact⟨rfl,hW⟩
theorem AV(B:Nat)(w:World):Ret prog 71 #[.pointer (some ⟨B,0,none⟩)] w fun r w'=>r=.pointer (some ⟨B,8,none⟩)∧Up w w':=by
 have hW:=Up.refl w
 refine cT 6 func71 rfl (Af (Az (An (Aa (I rfl (U (.nc rfl) (U (.fB 8 rfl) (LW.A rfl (Ah (Am (KW.q ?_)))))))))))
 exact⟨rfl,hW⟩
theorem vH(B:Nat)(w:World):Ret prog 72 #[.pointer (some ⟨B,0,none⟩)] w fun r w'=>r=.pointer (some ⟨B,9,none⟩)∧Up w w':=by
 have hW:=Up.refl w
 refine cT 6 func72 rfl (Af (Az (An (Aa (I rfl (U (.nc rfl) (U (.fB 9 rfl) (LW.A rfl (Ah (Am (KW.q ?_)))))))))))
 exact⟨rfl,hW⟩
theorem vI(B:Nat)(w:World):Ret prog 74 #[.pointer (some ⟨B,0,none⟩)] w fun r w'=>r=.pointer (some ⟨B,10,none⟩)∧Up w w':=by
 have hW:=Up.refl w
 refine cT 6 func74 rfl (Af (Az (An (Aa (I rfl (U (.nc rfl) (U (.fB 10 rfl) (LW.A rfl (Ah (Am (KW.q ?_)))))))))))
 exact⟨rfl,hW⟩
theorem aI(k:Int)(h1:1≤k)(h2:k≤11)(B:Nat)(w:World):Ret prog (Oc k) #[.pointer (some ⟨B,0,none⟩)] w fun r w'=>r=.pointer (some ⟨B,(k-1).toNat,none⟩)∧Up w w':=by
 obtain rfl|rfl|rfl|rfl|rfl|rfl|rfl|rfl|rfl|rfl|rfl:k=1∨k=2∨k=3∨k=4∨k=5∨k=6∨k=7∨k=8∨k=9∨k=10∨k=11:=by omega
 · exact AL B w
 · exact AM B w
 · exact AN B w
 · exact AO B w
 · exact AP B w
 · exact AQ B w
 · exact AR B w
 · exact AU B w
 · exact AV B w
 · exact vH B w
 exact vI B w
theorem iT(k:Int)(h1:1≤k)(h2:k≤11):∀(args:Array Go.Value)(w:World),(callFunc (Oc k) args).run prog w=.ok (.enter (Oc k) args) w:=by
 obtain rfl|rfl|rfl|rfl|rfl|rfl|rfl|rfl|rfl|rfl|rfl:k=1∨k=2∨k=3∨k=4∨k=5∨k=6∨k=7∨k=8∨k=9∨k=10∨k=11:=by omega
 · exact JD
 · exact JE
 · exact JF
 · exact JG
 · exact JI
 · exact JK
 · exact JL
 · exact JM
 · exact JO
 · exact JP
 exact JR
theorem Tl(x:Fact)(w:World):Ret prog 60 #[.agg x.cells] w fun r w'=>r=.agg #[vi (Lp 1 x).1,vi (Lp 1 x).2]∧Up w w':=by
 have hW:=Up.refl w
 refine cT 6 func60 rfl (Af (Ap (.bA rfl) rfl ?_))
 rintro _ w1 ⟨B1,rfl,NB1⟩
 have eB1:=NB1.at_
 have zB1:=NB1.size
 replace hW:=hW.up NB1.up
 have hB1:=NB1.blk
 refine Ap (.Cb mr) rfl ?_
 rintro _ w2 ⟨B2,rfl,NB2⟩
 have eB2:=NB2.at_
 replace hW:=hW.up NB2.up
 replace hB1:=hB1.up NB2.up
 have hB2:=NB2.blk
 refine An (Aa (U (.fB 1 rfl) (U (.lb rfl (hB1.Ad rfl)) (U (.Jn (cs:=#[vi x.ID,vi 0]) m3 mr lg (.ct rfl (.cons (.const _) .nil)) rfl) (Cd (.Cc nb rfl (.t rfl) (.t rfl) eQ hB2 rfl) ?_)))))
 intro w3 Nw3
 replace hW:=hW.sto Nw3.sto oQ
 replace hB1:=hB1.sto Nw3.sto oQ
 replace hB2:=Nw3.blk
 refine Ah (Am (F3 rfl rfl isAgg142 nb rfl (hB2.agg) ⟨_,rfl,?_⟩))
 exact⟨rfl,hW⟩
theorem HE(x:Fact)(w:World):Ret prog 64 #[.agg x.cells] w fun r w'=>r=.agg #[vi (Lp 4 x).1,vi (Lp 4 x).2]∧Up w w':=by
 have hW:=Up.refl w
 refine cT 8 func64 rfl (Af (Ap (.bA rfl) rfl ?_))
 rintro _ w1 ⟨B1,rfl,NB1⟩
 have eB1:=NB1.at_
 have zB1:=NB1.size
 replace hW:=hW.up NB1.up
 have hB1:=NB1.blk
 refine Ap (.Cb mr) rfl ?_
 rintro _ w2 ⟨B2,rfl,NB2⟩
 have eB2:=NB2.at_
 replace hW:=hW.up NB2.up
 replace hB1:=hB1.up NB2.up
 have hB2:=NB2.blk
 refine An (Aa (U (.fB 7 rfl) (U (.lb rfl (hB1.Ad rfl)) (U (.fB 5 rfl) (U (.lb rfl (hB1.Ad rfl)) (U (.Jn (cs:=#[vi x.Wafer,vi x.Time]) m3 mr lg (.ct rfl (.cu rfl)) rfl) (Cd (.Cc nb rfl (.t rfl) (.t rfl) eQ hB2 rfl) ?_)))))))
 intro w3 Nw3
 replace hW:=hW.sto Nw3.sto oQ
 replace hB1:=hB1.sto Nw3.sto oQ
 replace hB2:=Nw3.blk
 refine Ah (Am (F3 rfl rfl isAgg142 nb rfl (hB2.agg) ⟨_,rfl,?_⟩))
 exact⟨rfl,hW⟩
theorem HF(x:Fact)(w:World):Ret prog 66 #[.agg x.cells] w fun r w'=>r=.agg #[vi (Lp 5 x).1,vi (Lp 5 x).2]∧Up w w':=by
 have hW:=Up.refl w
 refine cT 6 func66 rfl (Af (Ap (.bA rfl) rfl ?_))
 rintro _ w1 ⟨B1,rfl,NB1⟩
 have eB1:=NB1.at_
 have zB1:=NB1.size
 replace hW:=hW.up NB1.up
 have hB1:=NB1.blk
 refine Ap (.Cb mr) rfl ?_
 rintro _ w2 ⟨B2,rfl,NB2⟩
 have eB2:=NB2.at_
 replace hW:=hW.up NB2.up
 replace hB1:=hB1.up NB2.up
 have hB2:=NB2.blk
 refine An (Aa (U (.fB 10 rfl) (U (.lb rfl (hB1.Ad rfl)) (U (.Jn (cs:=#[vi x.Product,vi 0]) m3 mr lg (.ct rfl (.cons (.const _) .nil)) rfl) (Cd (.Cc nb rfl (.t rfl) (.t rfl) eQ hB2 rfl) ?_)))))
 intro w3 Nw3
 replace hW:=hW.sto Nw3.sto oQ
 replace hB1:=hB1.sto Nw3.sto oQ
 replace hB2:=Nw3.blk
 refine Ah (Am (F3 rfl rfl isAgg142 nb rfl (hB2.agg) ⟨_,rfl,?_⟩))
 exact⟨rfl,hW⟩
theorem HG(x:Fact)(w:World):Ret prog 70 #[.agg x.cells] w fun r w'=>r=.agg #[vi (Lp 8 x).1,vi (Lp 8 x).2]∧Up w w':=by
 have hW:=Up.refl w
 refine cT 8 func70 rfl (Af (Ap (.bA rfl) rfl ?_))
 rintro _ w1 ⟨B1,rfl,NB1⟩
 have eB1:=NB1.at_
 have zB1:=NB1.size
 replace hW:=hW.up NB1.up
 have hB1:=NB1.blk
 refine Ap (.Cb mr) rfl ?_
 rintro _ w2 ⟨B2,rfl,NB2⟩
 have eB2:=NB2.at_
 replace hW:=hW.up NB2.up
 replace hB1:=hB1.up NB2.up
 have hB2:=NB2.blk
 refine An (Aa (U (.fB 8 rfl) (U (.lb rfl (hB1.Ad rfl)) (U (.fB 17 rfl) (U (.lb rfl (hB1.Ad rfl)) (U (.Jn (cs:=#[vi x.Other,vi x.Parties]) m3 mr lg (.ct rfl (.cu rfl)) rfl) (Cd (.Cc nb rfl (.t rfl) (.t rfl) eQ hB2 rfl) ?_)))))))
 intro w3 Nw3
 replace hW:=hW.sto Nw3.sto oQ
 replace hB1:=hB1.sto Nw3.sto oQ
 replace hB2:=Nw3.blk
 refine Ah (Am (F3 rfl rfl isAgg142 nb rfl (hB2.agg) ⟨_,rfl,?_⟩))
 exact⟨rfl,hW⟩
theorem AW(x:Fact)(w:World):Ret prog 73 #[.agg x.cells] w fun r w'=>r=.agg #[vi (Lp 10 x).1,vi (Lp 10 x).2]∧Up w w':=by
 have hW:=Up.refl w
 refine cT 8 func73 rfl (Af (Ap (.bA rfl) rfl ?_))
 rintro _ w1 ⟨B1,rfl,NB1⟩
 have eB1:=NB1.at_
 have zB1:=NB1.size
 replace hW:=hW.up NB1.up
 have hB1:=NB1.blk
 refine Ap (.Cb mr) rfl ?_
 rintro _ w2 ⟨B2,rfl,NB2⟩
 have eB2:=NB2.at_
 replace hW:=hW.up NB2.up
 replace hB1:=hB1.up NB2.up
 have hB2:=NB2.blk
 refine An (Aa (U (.fB 14 rfl) (U (.lb rfl (hB1.Ad rfl)) (U (.fB 5 rfl) (U (.lb rfl (hB1.Ad rfl)) (U (.Jn (cs:=#[vi x.Recipe,vi x.Time]) m3 mr lg (.ct rfl (.cu rfl)) rfl) (Cd (.Cc nb rfl (.t rfl) (.t rfl) eQ hB2 rfl) ?_)))))))
 intro w3 Nw3
 replace hW:=hW.sto Nw3.sto oQ
 replace hB1:=hB1.sto Nw3.sto oQ
 replace hB2:=Nw3.blk
 refine Ah (Am (F3 rfl rfl isAgg142 nb rfl (hB2.agg) ⟨_,rfl,?_⟩))
 exact⟨rfl,hW⟩
theorem vJ(k:Int)(h1:1≤k)(h2:k≤11)(x:Fact)(w:World):Ret prog (O7 k) #[.agg x.cells] w fun r w'=>r=.agg #[vi (Lp k x).1,vi (Lp k x).2]∧Up w w':=by
 obtain rfl|rfl|rfl|rfl|rfl|rfl|rfl|rfl|rfl|rfl|rfl:k=1∨k=2∨k=3∨k=4∨k=5∨k=6∨k=7∨k=8∨k=9∨k=10∨k=11:=by omega
 · exact Tl x w
 · exact Tl x w
 · exact Tl x w
 · exact HE x w
 · exact HF x w
 · exact Tl x w
 · exact Tl x w
 · exact HG x w
 · exact Tl x w
 · exact AW x w
 exact Tl x w
theorem AX(k:Int)(h1:1≤k)(h2:k≤11):∀(args:Array Go.Value)(w:World),(callFunc (O7 k) args).run prog w=.ok (.enter (O7 k) args) w:=by
 obtain rfl|rfl|rfl|rfl|rfl|rfl|rfl|rfl|rfl|rfl|rfl:k=1∨k=2∨k=3∨k=4∨k=5∨k=6∨k=7∨k=8∨k=9∨k=10∨k=11:=by omega
 · exact cP
 · exact cP
 · exact cP
 · exact JH
 · exact JJ
 · exact cP
 · exact cP
 · exact JN
 · exact cP
 · exact JQ
 exact cP
theorem lV(w:World):Ret prog 23 #[] w fun r w'=>∃b,r=.map (some b)∧IMap w' b (Ri Yl 11)∧w.heap.size≤b∧Up w w':=by
 have hW:=Up.refl w
 refine cT 14 func23 rfl (Af (Az (An ?_)))
 skip
 refine Aa (LW.r REv.makeMap rfl rfl rfl rfl ?_)
 rintro _ w1 ⟨B1,rfl,MB1,uB1,eB1,zB1⟩
 replace hW:=hW.up uB1
 have hM1:=MB1
 refine U (.build (cs:=#[.func (.func 59) #[] #[],.func (.func 60) #[] #[]]) mh mt Dr (.cons (.func _) (.cons (.func _) .nil)) rfl) ?_
 replace hM1:IMap _ B1 (Ri Yl 0):=hM1
 refine Cd (.insert (k:=((0+1:Nat):Int)) (v:=Yl ((0+1:Nat):Int)) mi li (.t rfl) (.const _) (.t rfl) hM1) ?_
 rintro w2 ⟨Mw2,Kw2,zw2⟩
 rw[Fy]at Mw2
 replace hM1:=Mw2
 replace hW:=hW.sto Kw2 oQ
 refine U (.build (cs:=#[.func (.func 61) #[] #[],.func (.func 60) #[] #[]]) mh mt Dr (.cons (.func _) (.cons (.func _) .nil)) rfl) (Cd (.insert (k:=((1+1:Nat):Int)) (v:=Yl ((1+1:Nat):Int)) mi li (.t rfl) (.const _) (.t rfl) hM1) ?_)
 rintro w3 ⟨Mw3,Kw3,zw3⟩
 rw[Fy]at Mw3
 replace hM1:=Mw3
 replace hW:=hW.sto Kw3 oQ
 refine U (.build (cs:=#[.func (.func 62) #[] #[],.func (.func 60) #[] #[]]) mh mt Dr (.cons (.func _) (.cons (.func _) .nil)) rfl) (Cd (.insert (k:=((2+1:Nat):Int)) (v:=Yl ((2+1:Nat):Int)) mi li (.t rfl) (.const _) (.t rfl) hM1) ?_)
 rintro w4 ⟨Mw4,Kw4,zw4⟩
 rw[Fy]at Mw4
 replace hM1:=Mw4
 replace hW:=hW.sto Kw4 oQ
 refine U (.build (cs:=#[.func (.func 63) #[] #[],.func (.func 64) #[] #[]]) mh mt Dr (.cons (.func _) (.cons (.func _) .nil)) rfl) (Cd (.insert (k:=((3+1:Nat):Int)) (v:=Yl ((3+1:Nat):Int)) mi li (.t rfl) (.const _) (.t rfl) hM1) ?_)
 rintro w5 ⟨Mw5,Kw5,zw5⟩
 rw[Fy]at Mw5
 replace hM1:=Mw5
 replace hW:=hW.sto Kw5 oQ
 refine U (.build (cs:=#[.func (.func 65) #[] #[],.func (.func 66) #[] #[]]) mh mt Dr (.cons (.func _) (.cons (.func _) .nil)) rfl) (Cd (.insert (k:=((4+1:Nat):Int)) (v:=Yl ((4+1:Nat):Int)) mi li (.t rfl) (.const _) (.t rfl) hM1) ?_)
 rintro w6 ⟨Mw6,Kw6,zw6⟩
 rw[Fy]at Mw6
 replace hM1:=Mw6
 replace hW:=hW.sto Kw6 oQ
 refine U (.build (cs:=#[.func (.func 67) #[] #[],.func (.func 60) #[] #[]]) mh mt Dr (.cons (.func _) (.cons (.func _) .nil)) rfl) (Cd (.insert (k:=((5+1:Nat):Int)) (v:=Yl ((5+1:Nat):Int)) mi li (.t rfl) (.const _) (.t rfl) hM1) ?_)
 rintro w7 ⟨Mw7,Kw7,zw7⟩
 rw[Fy]at Mw7
 replace hM1:=Mw7
 replace hW:=hW.sto Kw7 oQ
 refine U (.build (cs:=#[.func (.func 68) #[] #[],.func (.func 60) #[] #[]]) mh mt Dr (.cons (.func _) (.cons (.func _) .nil)) rfl) (Cd (.insert (k:=((6+1:Nat):Int)) (v:=Yl ((6+1:Nat):Int)) mi li (.t rfl) (.const _) (.t rfl) hM1) ?_)
 rintro w8 ⟨Mw8,Kw8,zw8⟩
 rw[Fy]at Mw8
 replace hM1:=Mw8
 replace hW:=hW.sto Kw8 oQ
 refine U (.build (cs:=#[.func (.func 69) #[] #[],.func (.func 70) #[] #[]]) mh mt Dr (.cons (.func _) (.cons (.func _) .nil)) rfl) (Cd (.insert (k:=((7+1:Nat):Int)) (v:=Yl ((7+1:Nat):Int)) mi li (.t rfl) (.const _) (.t rfl) hM1) ?_)
 rintro w9 ⟨Mw9,Kw9,zw9⟩
 rw[Fy]at Mw9
 replace hM1:=Mw9
 replace hW:=hW.sto Kw9 oQ
 refine U (.build (cs:=#[.func (.func 71) #[] #[],.func (.func 60) #[] #[]]) mh mt Dr (.cons (.func _) (.cons (.func _) .nil)) rfl) (Cd (.insert (k:=((8+1:Nat):Int)) (v:=Yl ((8+1:Nat):Int)) mi li (.t rfl) (.const _) (.t rfl) hM1) ?_)
 rintro w10 ⟨Mw10,Kw10,zw10⟩
 rw[Fy]at Mw10
 replace hM1:=Mw10
 replace hW:=hW.sto Kw10 oQ
 refine U (.build (cs:=#[.func (.func 72) #[] #[],.func (.func 73) #[] #[]]) mh mt Dr (.cons (.func _) (.cons (.func _) .nil)) rfl) (Cd (.insert (k:=((9+1:Nat):Int)) (v:=Yl ((9+1:Nat):Int)) mi li (.t rfl) (.const _) (.t rfl) hM1) ?_)
 rintro w11 ⟨Mw11,Kw11,zw11⟩
 rw[Fy]at Mw11
 replace hM1:=Mw11
 replace hW:=hW.sto Kw11 oQ
 refine U (.build (cs:=#[.func (.func 74) #[] #[],.func (.func 60) #[] #[]]) mh mt Dr (.cons (.func _) (.cons (.func _) .nil)) rfl) (Cd (.insert (k:=((10+1:Nat):Int)) (v:=Yl ((10+1:Nat):Int)) mi li (.t rfl) (.const _) (.t rfl) hM1) ?_)
 rintro w12 ⟨Mw12,Kw12,zw12⟩
 rw[Fy]at Mw12
 replace hM1:=Mw12
 replace hW:=hW.sto Kw12 oQ
 refine I rfl (LW.A rfl (Ah (Am (KW.q ?_))))
 exact⟨_,rfl,hM1,by omega,hW⟩
set_option maxHeartbeats 8000000 in
theorem vK(ad:Option Addr)(cp:Nat)(l:List Fact)(day:Int)(w:World)(hE0:Els w ad 19 Fact.cells l)(hl:l.length≤100000):Ret prog 8 #[.slice ad l.length cp,vi day] w fun r w'=>∃bc ds,r=.agg bc∧BaseC w' bc (aG ds)∧(∀f∈ds,(Cm f,f)∈Hl l day)∧(ds.map Cm).Perm ((Hl l day).map (·.1))∧iS w.heap.size bc∧(∃v,bc[0]?=some v∧OwnS w' 0 35 19 Fact.cells v (aG ds).Processes)∧Up w w':=by
 obtain⟨w0,rfl,hS⟩:=W0 w
 refine cT 91 func8 rfl (Af (Ap (.Cb zeroValue37) rfl ?_))
 rintro _ w1 ⟨B4,rfl,NB4⟩
 replace hS:=hS.Cg NB4
 refine An (Aa (LW.r Ms.REv.makeMap rfl rfl rfl rfl ?_))
 rintro _ w2 ⟨B18,rfl,M18,u18,e18,z18⟩
 replace hS:=hS.add u18 (A':=Ms.Il B18 (P6 [])) M18 (fun i(e:i=B18)=>by omega)
 refine LW.A rfl (An (Af (I rfl (U (.Ck lf (.t rfl)) (U (.move (.const _)) (Ah (Ak (A6 (σ:=Nat) (fun s w=>(s≤l.length)∧(Wx.Sep no w0 w [A5 B4 #[.slice none 0 0,.slice none 0 0,.slice none 0 0,.slice none 0 0,.slice none 0 0,.slice none 0 0,.slice none 0 0,.slice none 0 0,.slice none 0 0,.slice none 0 0,.slice none 0 0] 37,Ms.Il B18 (P6 (Hl (l.take s) day))])) (fun s=>[(21,.eq (vi (s:Int)))]) ([(1,.eq _),(4,.eq _),(5,.eq _),(19,.eq _),(20,.eq _)]) (fun s=>l.length-s) 0 ?_ tQ ?_))))))))
 ·exact⟨a8 _,hS⟩
 rintro k w3 ⟨hkk,hS⟩
 refine Af (U (.l2 rfl rfl) (An (CW.b rfl (fun h22=>?_) (fun h22=>?_))))
 ·replace h22:=dQ h22
  refine Aj (Ac (Ai (Ak (Ai ?_))))
  have hE:=Els.up hE0 hS.Ch
  have hkl:k<l.length:=by simp at h22;omega
  refine Aa ?_
  obtain⟨x,hx⟩:=Ae (xs:=l) (i:=k) oQ
  obtain⟨Bx,ox,ax,hcx⟩:=hE _ x hx
  refine U (.Ao lf lh (.t rfl) (.t rfl) oQ ax) (U (.lc rfl (hcx)) (Ap (.Cb ll) rfl ?_))
  rintro _ w4 ⟨B7,rfl,MB7⟩
  refine Cd (.Cc lh rfl (.t rfl) (.t rfl) eQ MB7.blk rfl) ?_
  intro w5 LB7
  have NB7:=MB7.set LB7
  replace hcx:=hcx.up NB7.up
  replace hS:=hS.Cg NB7
  refine An (Aa (U (.lc rfl (hS.b2.agg)) (A4 (eC (.o rfl) (yW)) rfl (Xo x _) ?_)))
  rintro _ w6 ⟨rfl,uw6⟩
  replace hS:=hS.up uw6
  refine LW.A rfl (An (Ai ?_))
  cases hq6:decide (Cm x=[])with
  |true=>
   replace hq6:=b9 hq6
   refine Aa (I rfl (U (.tr (Eg (.t rfl) (.const _)) (lR hq6)) (I rfl (Bh (Bh (Bh (Bh (U (.tr (PEv.Ev (b:=false) (.t rfl) (fun hp=>absurd (show true=false from hp) cQ)) (rfl)) (Ah (CW.v rfl (A8 (Ab (Aq (Ac (Aa (U (.ic rfl oQ) (I rfl (LW.nil (Av ?_)))))))))))))))))))
   exact⟨k+1,⟨by omega,by rw[Kk hx];(rw[P7 (.inl hq6)];exact hS.take 2)⟩,tQ,by omega⟩
  |false=>
   replace hq6:=cd hq6
   refine Aa (I rfl (U (.fa (Eg (.t rfl) (.const _)) (qU hq6)) (I rfl (Au (U (.fB 3 rfl) (Au (U (.lb rfl (hS.b2.Ad rfl)) (Au (I rfl (Au (U (.gtr (.t rfl) (.t rfl)) (U (.po rfl (fun hp=>(by exact .tmp rfl))) (Ah (CW.b rfl (fun h34=>?_) (fun h34=>?_)))))))))))))))
   ·replace h34:=dQ h34
    skip
    refine A8 (Ab (Aq (Ac (Aa (U (.ic rfl oQ) (I rfl (LW.nil (Av ?_))))))))
    exact⟨k+1,⟨by omega,by rw[Kk hx];(rw[P7 (.inr h34)];exact hS.take 2)⟩,tQ,by omega⟩
   replace h34:=dQ h34
   have hno:¬(Cm x=[]∨day<x.Day):=fun h=>h.elim hq6 (fun h2=>by simp at h34;omega)
   refine Aj (Ac (Ai ?_))
   cases hq7:Te (Hl (l.take k) day) (Cm x)with
   |none=>
    refine Aa (I rfl (I rfl (U (Ms.PEv.Ov oe l5 ll (.t rfl) (.t rfl) (hS.get 1 rfl) (V7 hq7)) (I rfl (U (.xt rfl rfl) (U (.xt rfl rfl) (Ap (.Cb ll) rfl ?_)))))))
    rintro _ w7 ⟨B9,rfl,MB9⟩
    refine Cd (.Cc lh rfl (.t rfl) (.t rfl) eQ MB9.blk rfl) ?_
    intro w8 LB9
    have NB9:=MB9.set LB9
    replace hS:=hS.Cg NB9
    refine LW.A rfl (An (Aa (I rfl (U (.tr (PEv.n1 rfl) (rfl)) (I rfl (Bh (Bh (Bh (U (.tr (PEv.Ev (b:=false) (.t rfl) (fun hp=>absurd (show true=false from hp) cQ)) (rfl)) (Ah (CW.v rfl (Aa (I rfl (I rfl (U (.lc rfl (hS.b2.agg)) (Cd (Ms.SEv.mapUpdate oe l5 (.t rfl) (.t rfl) (.t rfl) (hS.get 1 rfl)) ?_))))))))))))))))
    rintro w9 ⟨Mu,Ku,zu⟩
    rw[Z9]at Mu
    replace hS:=hS.Fs 1 rfl (Ms.iF Mu Ku)
    refine LW.nil (Al (Ac (Aa (U (.ic rfl oQ) (I rfl (LW.nil (Av ?_)))))))
    exact⟨k+1,⟨by omega,by rw[Kk hx];(rw[aA hno hq7];exact hS.take 2)⟩,tQ,by omega⟩
   |some old=>
    refine Aa (I rfl (I rfl (U (Ms.PEv.Hw oe l5 (.t rfl) (.t rfl) (hS.get 1 rfl) (lQ hq7)) (I rfl (U (.xt rfl rfl) (U (.xt rfl rfl) (Ap (.Cb ll) rfl ?_)))))))
    rintro _ w10 ⟨B9,rfl,MB9⟩
    refine Cd (.Cc lh rfl (.t rfl) (.t rfl) eQ MB9.blk rfl) ?_
    intro w11 LB9
    have NB9:=MB9.set LB9
    replace hS:=hS.Cg NB9
    refine LW.A rfl (An (Aa (I rfl (U (.fa (PEv.n1 rfl) (rfl)) (I rfl (Au (U (.lc rfl (hS.b2.agg)) (Au (U (.lc rfl (hS.b3.agg)) (Au (A4 (eC (.u rfl rfl) (IM)) rfl (Xp x old _) ?_)))))))))))
    rintro _ w12 ⟨rfl,uw12⟩
    replace hS:=hS.up uw12
    refine U (.po rfl (fun hp=>(by exact .tmp rfl))) (Ah (CW.b rfl (fun h47=>?_) (fun h47=>?_)))
    ·replace h47:E0 x old=true:=by simpa using h47
     refine Aa (I rfl (I rfl (U (.lc rfl (hS.b2.agg)) (Cd (Ms.SEv.mapUpdate oe l5 (.t rfl) (.t rfl) (.t rfl) (hS.get 1 rfl)) ?_))))
     rintro w13 ⟨Mu,Ku,zu⟩
     rw[Z9]at Mu
     replace hS:=hS.Fs 1 rfl (Ms.iF Mu Ku)
     refine LW.nil (Al (Ac (Aa (U (.ic rfl oQ) (I rfl (LW.nil (Av ?_)))))))
     exact⟨k+1,⟨by omega,by rw[Kk hx];(rw[aB hno hq7 h47];exact hS.take 2)⟩,tQ,by omega⟩
    replace h47:E0 x old=false:=by simpa using h47
    refine Aj (Al (Ac (Aa (U (.ic rfl oQ) (I rfl (LW.nil (Av ?_)))))))
    exact⟨k+1,⟨by omega,by rw[Kk hx];(rw[aD hno hq7 h47];exact hS.take 2)⟩,tQ,by omega⟩
 refine A8 (Ab (Ab (Aq (Ac (Ai ?_)))))
 have hkl:k=l.length:=by simp at h22;omega
 subst hkl
 rw[b8]at hS
 obtain⟨M,hM⟩:∃M,M=Hl l day:=⟨_,rfl⟩
 rw[←hM]at hS
 have hMo:=(Ry day l).1
 have hMl:=(Ry day l).2
 rw[←hM]at hMo hMl
 refine Aa (Ap (.Cb zeroValue37) rfl ?_)
 rintro _ w14 ⟨B11,rfl,NB11⟩
 replace hS:=hS.Cg NB11
 refine An (Aa (A4 (eC .nil (IN)) rfl (lV _) ?_))
 rintro _ w15 ⟨bk,rfl,hKm,hKb,uw15⟩
 replace hS:=hS.add uw15 (A':=Il bk (Ri Yl 11)) (hKm) (fun i(e:i=bk)=>by omega)
 refine LW.A rfl (An (Ai ?_))
 have hLn:=kU 35 19 Fact.cells 11 w15
 replace hS:=hS.add (Up.refl _) (A':=Dw (lists 35 19 Fact.cells (List.replicate 11 (.slice none 0 0)) (List.replicate 11 ([]:List Fact)))) hLn.1 (fun i h=>absurd h (hLn.2 i))
 rw[←vE]at hS
 refine Aa (I rfl (Ap (Ms.REv.range oe (.t rfl) (hS.get 1 rfl)) rfl ?_))
 rintro _ w16 ⟨r54,rfl,hR_,uR,eR,zR⟩
 replace hS:=hS.Fs 1 rfl (Ms.P1 hR_ uR eR)
 refine Ah (Ak (A6 (σ:=List Fact×List Go.Value) (fun s w=>(∀f∈s.1,(Cm f,f)∈M)∧((s.1.map Cm).Nodup)∧(s.2.length=11)∧(Wx.Sep no w0 w [A5 B4 #[.slice none 0 0,.slice none 0 0,.slice none 0 0,.slice none 0 0,.slice none 0 0,.slice none 0 0,.slice none 0 0,.slice none 0 0,.slice none 0 0,.slice none 0 0,.slice none 0 0] 37,Ms.L6 B18 r54 (P6 M) (s.1.map Cm),A5 B11 s.2.toArray 37,Il bk (Ri Yl 11),Dw (lists 35 19 Fact.cells s.2 (aF [] s.1))])) (fun s=>[]) ([(4,.eq _),(11,.eq _),(12,.eq _),(54,.eq _)]) (fun s=>M.length-s.1.length) ([],List.replicate 11 (.slice none 0 0)) ?_ tQ ?_))
 ·exact⟨fun f h=>by simp at h,ig,rfl,hS⟩
 rintro⟨ds,vs⟩ w17 ⟨hds,hdn,hvl,hS⟩
 dsimp only at hds hdn hvl hS
 refine Af (Ap (Ms.REv.next (.t rfl) (hS.get 1 rfl)) rfl ?_)
 rintro _ w18 (⟨rfl,rfl,hPm⟩|⟨k0,u0,rfl,hNx⟩)
 ·skip
  refine U (.xt rfl rfl) (An (CW.f rfl (A8 (Ab (Ab (Aq (Ac (Ai (Ai ?_)))))))))
  have hPd:=hPm
  refine Aa (I rfl (Ap (.range mi (.t rfl) (hS.get 3 rfl)) rfl ?_))
  rintro _ w19 ⟨r77,rfl,hR_,uR,eR,zR⟩
  replace hS:=hS.Fs 3 rfl (P1 hR_ uR eR)
  refine Ah (Ak (A6 (σ:=List Int) (fun s w=>(s.Nodup∧∀k∈s,1≤k∧k≤11)∧(Wx.Sep no w0 w [A5 B4 #[.slice none 0 0,.slice none 0 0,.slice none 0 0,.slice none 0 0,.slice none 0 0,.slice none 0 0,.slice none 0 0,.slice none 0 0,.slice none 0 0,.slice none 0 0,.slice none 0 0] 37,Ms.L6 B18 r54 (P6 M) (ds.map Cm),A5 B11 vs.toArray 37,L6 bk r77 (Ri Yl 11) s,Dw (lists 35 19 Fact.cells vs (aF s ds))])) (fun s=>[]) ([(4,.eq _),(11,.eq _),(77,.eq _)]) (fun s=>11-s.length) [] ?_ tQ ?_))
  ·exact⟨⟨ig,fun k h=>by simp at h⟩,hS⟩
  rintro dn w20 ⟨hdk,hS⟩
  refine Af (Ap (.next (.t rfl) (hS.get 3 rfl)) rfl ?_)
  rintro _ w21 (⟨rfl,rfl,hPm⟩|⟨kk,u0,rfl,hNx⟩)
  ·skip
   refine U (.xt rfl rfl) (An (CW.f rfl (A8 (Ab (Ab (Aq (Ac (Ai ?_))))))))
   obtain⟨v0,v1,v2,v3,v4,v5,v6,v7,v8,v9,v10,rfl⟩:=Xr hvl
   have hv1:=Vv (hS.get 4 rfl) (by rw[hvl,Iz])
   refine Aa (U (.lc rfl (hS.b2.agg)) (Cd (.Cc l6 rfl (.t rfl) (.t rfl) (vG hv1) hS.b0 rfl) ?_))
   intro w22 Nw22
   have zw22:=Nw22.size
   replace hS:=hS.Ek 0 rfl Nw22
   refine Ah (Am (F3 rfl rfl ml l6 rfl (hS.b0.agg) ⟨_,rfl,?_⟩))
   have hOw:=hS.get 4 rfl
   have hin:∀k:Nat,k<11→((k+1:Nat):Int)∈dn:=fun k hk=>hPm.symm.subset (bx.2 ⟨(((k+1:Nat):Int),Yl ((k+1:Nat):Int)),Mf.2 ⟨by omega,by omega,rfl⟩,rfl⟩)
   exact⟨_,ds,rfl,⟨v0,v1,v2,v3,v4,v5,v6,v7,v8,v9,v10,rfl,Gn hOw (j:=0) rfl cQ (hin 0 cQ),Gn hOw (j:=1) rfl cQ (hin 1 cQ),Gn hOw (j:=2) rfl cQ (hin 2 cQ),Gn hOw (j:=3) rfl cQ (hin 3 cQ),Gn hOw (j:=4) rfl cQ (hin 4 cQ),Gn hOw (j:=5) rfl cQ (hin 5 cQ),Gn hOw (j:=6) rfl cQ (hin 6 cQ),Gn hOw (j:=7) rfl cQ (hin 7 cQ),Gn hOw (j:=8) rfl cQ (hin 8 cQ),Gn hOw (j:=9) rfl cQ (hin 9 cQ),Gn hOw (j:=10) rfl cQ (hin 10 cQ)⟩,fun f hf=>hM▸hds f hf,by rw[M2]at hPd;exact hM▸hPd,eX (by rw[Iz];rfl) (fun i hi=>(hS.foot 4 rfl i hi).resolve_left fun h=>h),⟨v0,rfl,qW hOw (j:=0) rfl cQ (hin 0 cQ)⟩,hS.Ch⟩
  skip
  have zw21:=hNx.size
  replace hS:=hS.Fs 3 rfl (S1 hNx)
  obtain⟨hk1,hk2,hu0⟩:=Mf.1 hNx.mem
  subst hu0
  have hfr2:=hNx.fresh
  have hkk1:1≤kk∧kk≤11:=⟨hk1,by omega⟩
  replace hk2:kk≤11:=by omega
  obtain⟨j,hj⟩:∃j,j=(kk-1).toNat:=⟨_,rfl⟩
  have hj11:j<11:=by omega
  have hkk2:kk=((j+1:Nat):Int):=by omega
  have hdl:=Tg hds hdn
  obtain⟨v,hvj⟩:=Ae (xs:=vs) (i:=j) oQ
  have hdk2:(dn++[kk]).Nodup∧∀k∈dn++[kk],1≤k∧k≤11:=⟨g9.2 ⟨hdk.1,by simp,fun a ha c hc=>by simp at hc;subst hc;exact fun e=>hfr2 (e▸ha)⟩,fun k hk=>(bt.1 hk).elim (hdk.2 k) (fun h=>by cases bn.1 h;exact hkk1)⟩
  refine U (.xt rfl rfl) (An (CW.v rfl (Aj (Ac (Ak (Ai ?_))))))
  skip
  refine Aa (Ap (.entry (.t rfl) hNx.entry) rfl ?_)
  rintro _ _ ⟨rfl,rfl⟩
  refine U (.val (v':=.agg #[.func (.func (Oc kk)) #[] #[],.func (.func (O7 kk)) #[] #[]]) (PEv.xt rfl rfl) rfl) (Ap (.Cb mt) rfl ?_)
  rintro _ w23 ⟨B17,rfl,MB17⟩
  refine Cd (.Cc sizeOf80 rfl (.t rfl) (.t rfl) eQ MB17.blk rfl) ?_
  intro w24 LB17
  have NB17:=MB17.set LB17
  replace hS:=hS.Cg NB17
  refine Ah (Ju 7 [.eq (.pointer (some ⟨B17,0,none⟩)),.eq (.func (.func (Oc kk)) #[] #[]),.eq (.pointer (some ⟨B11,j,none⟩)),.eq (.pointer (some ⟨B11,j,none⟩)),.eq (v),.eq (.pointer (some ⟨B17,1,none⟩)),.eq (.func (.func (O7 kk)) #[] #[])] [86,88] kQ rfl kQ kQ kQ kQ kQ kQ kQ uQ ?_ ?_)
  ·intro W hU0
   have hU:=(Up.drew w24).trans hU0
   refine aC ⟨rfl,TU.p (.fB 0 rfl) rfl⟩ (aC ⟨rfl,TU.p (.lb rfl ((hS.b5.up hU).Ad rfl)) rfl⟩ (aC ⟨rfl,TU.c (Ey (.t rfl) (.cu rfl) (iT kk hk1 hk2)) (aI kk hk1 hk2 B11 _) (by rintro _ W1 ⟨rfl,u⟩;exact⟨u,by rw[hj];rfl⟩)⟩ (aC ⟨rfl,TU.p (.nc rfl) rfl⟩ (aC ⟨rfl,TU.p (.lb rfl ((hS.b2.up hU).cell (by simpa using hvj))) rfl⟩ (aC ⟨rfl,TU.p (.fB 1 rfl) rfl⟩ (aC ⟨rfl,TU.p (.lb rfl ((hS.b5.up hU).Ad rfl)) rfl⟩ ?_))))))
   exact allL.nil
  intro w25 g hU0 hg
  have hU:=(Up.drew w24).trans hU0
  replace hS:=hS.up hU
  have e86:g 86=v:=hg 4 _ 86 cQ rfl rfl
  have e88:g 88=.func (.func (O7 kk)) #[] #[]:=hg 6 _ 88 cQ rfl rfl
  change LW _ _ _ _ _ _ _ _ ((86,.eq (g 86))::(88,.eq (g 88))::_) _
  rw[e86,e88]
  refine A4 (eC (.u rfl rfl) (IP)) rfl (N8 (O7 kk) (Lp kk) (AX kk hk1 hk2) (fun W x=>vJ kk hk1 hk2 x W) v (Ei dn ds j) _ (Kh (hS.get 4 rfl) hvj (G4 _ _ hj11)) (by have:=Rz dn ds j;omega)) ?_
  rintro _ w26 ⟨rfl,hSo⟩
  replace hS:=hS.Fs 4 rfl (Zf (hS.get 4 rfl) (Mv hvj (G4 _ _ hj11)) hSo)
  rw[P2,qV hvj,hkk2]at hS
  refine LW.nil (Al (Av ?_))
  exact⟨dn++[kk],⟨hdk2,by rw[hkk2,←qT hj11 (by rw[←hkk2];exact hfr2)];exact hS.take 5⟩,tQ,by have:=lT hdk hkk1 hfr2;simp;omega⟩
 skip
 have zw18:=hNx.size
 replace hS:=hS.Fs 1 rfl (Ms.S1 hNx)
 obtain⟨⟨kx,x⟩,hmem0,he0⟩:=bx.1 hNx.mem
 cases he0
 obtain⟨hkx,hxv⟩:=hMo _ hmem0
 dsimp only at hkx hxv
 subst hkx
 have hmem:=hmem0
 have hfr:=hNx.fresh
 have hk12:1≤x.Kind∧x.Kind≤11:=E6 hxv
 have hds2:∀f∈ds++[x],(Cm f,f)∈M:=fun f hf=>(bt.1 hf).elim (hds f) (fun h=>by cases bn.1 h;exact hmem)
 have hdn2:((ds++[x]).map Cm).Nodup:=Tf hdn hfr
 obtain⟨j,hj⟩:∃j,j=(x.Kind-1).toNat:=⟨_,rfl⟩
 have hj11:j<11:=by omega
 have hkj:x.Kind=((j+1:Nat):Int):=by omega
 have hdl:=Tg hds hdn
 have hdl2:=Th hds hdn hmem hfr
 refine U (.xt rfl rfl) (An (CW.v rfl (Aj (Ac (Ak (Af (Ap (Ms.REv.entry (.t rfl) hNx.entry) rfl ?_)))))))
 rintro _ _ ⟨rfl,rfl⟩
 refine U (.xt rfl rfl) (Ap (.Cb ll) rfl ?_)
 rintro _ w27 ⟨B14,rfl,MB14⟩
 refine Cd (.Cc lh rfl (.t rfl) (.t rfl) eQ MB14.blk rfl) ?_
 intro w28 LB14
 have NB14:=MB14.set LB14
 replace hS:=hS.Cg NB14
 refine An ?_
 cases hq16:x.Gone with
 |true=>
  have hgn:=hq16
  refine Aa (U (.fB 4 rfl) (U (.lb rfl (hS.b5.Ad rfl)) (U (.fa (PEv.n1 rfl) (by rw[hq16];rfl)) (Ah (CW.f rfl (Aj (Al (Av ?_))))))))
  exact⟨(ds++[x],vs),⟨hds2,hdn2,hvl,by(rw[qS hgn,co];exact hS.take 5)⟩,tQ,by show M.length-(ds++[x]).length<M.length-ds.length;have:=Th hds hdn hmem hfr;simp;omega⟩
 |false=>
  have hgn:=hq16
  refine Aa (U (.fB 4 rfl) (U (.lb rfl (hS.b5.Ad rfl)) (U (.tr (PEv.n1 rfl) (by rw[hq16];rfl)) (Ah (CW.v rfl (Af (I rfl (U (.fB 0 rfl) (U (.lb rfl (hS.b5.Ad rfl)) (U (.val (v':=.agg #[.func (.func (Oc x.Kind)) #[] #[],.func (.func (O7 x.Kind)) #[] #[]]) (PEv.Hw (ok:=false) mi li (.t rfl) (.t rfl) (hS.get 3 rfl) (Mf.2 ⟨hk12.1,(show x.Kind≤((11:Nat):Int)from by omega),rfl⟩)) rfl) (U (.cY (off:=0) mh rfl rfl isAgg77 (.t rfl) rfl) (A4 (Ey (.t rfl) (.cu rfl) (iT x.Kind hk12.1 hk12.2)) rfl (aI x.Kind hk12.1 hk12.2 B11 _) ?_))))))))))))
  rintro _ w29 ⟨rfl,uw29⟩
  replace hS:=hS.up uw29
  rw[←hj]
  refine LW.A rfl (Ah ?_)
  obtain⟨v,hvj⟩:=Ae (xs:=vs) (i:=j) oQ
  refine Jh 6 (fun v w''=>Wx.Sep no w0 w'' [A5 B4 #[.slice none 0 0,.slice none 0 0,.slice none 0 0,.slice none 0 0,.slice none 0 0,.slice none 0 0,.slice none 0 0,.slice none 0 0,.slice none 0 0,.slice none 0 0,.slice none 0 0] 37,Ms.L6 B18 r54 (P6 M) (ds.map Cm++[Cm x]),A5 B11 vs.toArray 37,Il bk (Ri Yl 11),Dw ((lists 35 19 Fact.cells vs (aF [] ds)).set j (Aw 35 19 Fact.cells v (Ei [] ds j++[x]))),A5 B14 x.cells 35]) kQ kQ kQ kQ kQ kQ rfl rfl rfl rfl rfl (J (.mv rfl) (J (.mv rfl) (J (.nc rfl) (J (.lb rfl (hS.b2.cell (by simpa using hvj))) (J (.lc rfl (hS.b5.agg)) (HW.r (p:=fun v w=>Sl w v 19 (Fact.cells) [x]) (fun _ _ _ h u=>Sl.up h u) rfl (fun w hu a ha=>let⟨v,w',h1,h2⟩:=REv.buildSlice (xs:=[x]) (enc:=Fact.cells) (mk:=fun f:Fact=>.agg f.cells) lf lh ll rfl bQ (fun _=>rfl) (fun _=>rfl) (.cu rfl) rfl a ha;⟨v,w',h1,h2.q⟩) rfl (HW.nil ⟨fun a w' hu ha=>?_,?_⟩)))))))
  ·exact(REv.open (d:=73) (p:=fun v w=>Sl w v 19 Fact.cells [x]) rfl fun vv hv=>(REv.C3 (bytes:=160) (i:=Tryz.t35) lf kQ rfl rfl rfl rfl cQ (fun _=>rfl) Fact.one (.t rfl) (.t rfl) (Kh ((hS.up hu).get 4 rfl) hvj (G4 _ _ hj11)) hv (by have:=Rz [] ds j;simp only[bg,bw,maxLen];omega) (by have:=Rz [] ds j;simp only[bg,bw];omega)).mono fun v' w'' h=>(hS.up hu).Fs 4 rfl (Zf ((hS.up hu).get 4 rfl) (Mv hvj (G4 _ _ hj11)) h)).y ha
  intro v74 w30 hS
  have hv1:v74.oneCell'=true:=by
   have h:=hS.get 4 rfl
   rw[P2]at h
   exact Vv h (by rw[d9,d9,hvl,Iz]) v74 (ai (i:=j) (by rw[List.getElem?_set_self (by omega)]))
  refine U (.nc rfl) (Cd (.store sizeOf25 (.t rfl) (.t rfl) hv1 hS.b2 (by simp;omega)) ?_)
  intro w31 Nw31
  have zw31:=Nw31.size
  replace hS:=hS.Ek 2 rfl (by rw[vF]at Nw31;exact Nw31)
  refine LW.nil (Al (Av ?_))
  exact⟨(ds++[x],vs.set j v74),⟨hds2,hdn2,by show(vs.set j v74).length=11;rw[d9];exact hvl,by(rw[vD hgn hj11 hkj,←P2,co];exact hS.take 5)⟩,tQ,by show M.length-(ds++[x]).length<M.length-ds.length;have:=Th hds hdn hmem hfr;simp;omega⟩
theorem eZ(ad:Option Addr)(cp:Nat)(l:List Fact)(day:Int)(w:World)(hE0:Els w ad 19 Fact.cells l)(hl:l.length≤100000):Ret prog 8 #[.slice ad l.length cp,vi day] w fun r w'=>∃bc,r=.agg bc∧BaseC w' bc (Ll l day)∧iS w.heap.size bc∧Up w w':=
 (vK ad cp l day w hE0 hl).mono fun _ _⟨bc,_,e,hB,h1,h2,h3,_,u⟩=>⟨bc,e,AK h1 h2▸hB,h3,u⟩
end Go.Proofs.YtnpgbbaniknpkaaGreatDoor
