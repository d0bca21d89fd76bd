import Derived.Test.YtnocngnlpgikaaaGreatDoorKR19
namespace Go.Wx
def N6(a b:Int):Int:=if a<b then -1 else if b<a then 1 else 0
def mV:List Int→Int
 |[]=>0
 |x::l=>if x=0 then mV l else x
def Z6(p q:K2):Int:=mV [N6 p.1 q.1,N6 p.2 q.2]
theorem He(p q:K2):decide (Z6 p q<0)=Hc p q:=by
 unfold Z6 mV mV mV N6 Hc
 by_cases h1:p.1<q.1
 · simp[h1]
 by_cases h2:q.1<p.1
 · have:¬p.1=q.1:=by omega
   simp[h1,h2,this]
 have e:p.1=q.1:=by omega
 by_cases h3:p.2<q.2
 · simp[e,h3]
 by_cases h4:q.2<p.2
 · simp[e,h3,h4]
 simp[e,h3,h4]
theorem Xa{l:List Int}{k:Nat}{x:Int}(h:l[k]?=some x):mV (l.drop k)=if x=0 then mV (l.drop (k+1))else x:=by
 obtain⟨hk,e⟩:=ak.1 h
 rw[ef hk,e];rfl
theorem kL(p:K2):(#[vi p.1,vi p.2]:Array Go.Value).size=2∧(#[vi p.1,vi p.2]:Array Go.Value).all (·.oneCell')=true:=by simp[Value.oneCell']
theorem Lc{p q r t:Nat}(h:(decide ((p:Int)<(q:Int))&&decide ((r:Int)<(t:Int)))=true):p<q∧r<t:=by
 obtain⟨h1,h2⟩:=Bool.and_eq_true_iff.1 h
 have h1:=bw h1
 have h2:=bw h2
 omega
theorem Z7{p q r t:Nat}(h:(decide ((p:Int)<(q:Int))&&decide ((r:Int)<(t:Int)))=false):¬(p<q∧r<t):=fun⟨h1,h2⟩=>by
 rw[be oQ,be (by omega)]at h
 cases h
theorem kM{α:Type}{xs:List α}{a b:Nat}{x:α}(hx:xs[a]?=some x)(h:a<b)(hb:b≤xs.length):Cw xs a b=x::Cw xs (a+1) b:=by
 rw[F2 (m:=a+1) oQ oQ hb,Kl (a8 a) hx,F3 (a8 a)];rfl
theorem Pr{z:Nat}(h:z<18446744073709551616):Go.Value.int .u64 (IntKind.u64.wrap (z:Int))=vu z:=by
 rw[Ga]
 unfold vu
 congr 1
 omega
theorem Ps{z:Nat}(h:z<9223372036854775808):Go.Value.int .i64 (IntKind.i64.wrap (z:Int))=vi (z:Int):=by
 rw[Eg oQ (by omega)]
theorem Na{z:Nat}:Go.Value.int .u64 ((z:Int).fdiv (2^(min 1 IntKind.u64.bits)))=vu (z/2):=by
 have e1:min 1 IntKind.u64.bits=1:=rfl
 rw[e1,gi _ (by decide)]
 unfold vu
 congr 1
theorem Qu{z:Nat}(h:2*z<9223372036854775808):Go.Value.int .i64 (IntKind.i64.wrap (2*(z:Int)))=vi ((2*z:Nat):Int):=by
 rw[Eg oQ oQ,Int.natCast_mul];rfl
theorem Tn{z:Nat}(h:2*z<9223372036854775808):Go.Value.int .i64 (IntKind.i64.wrap ((z:Int)*2))=vi ((2*z:Nat):Int):=by
 rw[Int.mul_comm];exact Qu h
theorem sN{a b:Nat}(h:a=b):vi (a:Int)=vi (b:Int):=by rw[h]
def Km(k:Int)(f:Fact):K2:=match k with
 |4=>(f.Wafer,f.Time)
 |5=>(f.Product,0)
 |8=>(f.Other,f.Parties)
 |10=>(f.Recipe,f.Time)
 |_=>(f.ID,0)
abbrev Fh:=List (List UInt8×Fact)
def Qv(m:Fh)(k:List UInt8):Option Fact:=(m.find? fun p=>p.1==k).map (·.2)
def Kn(m:Fh)(k:List UInt8)(f:Fact):Fh:=if k∈m.map (·.1)then m.map (fun p=>if p.1=k then(k,f)else p)else m++[(k,f)]
def N7(m:Fh):List (List UInt8×Go.Value):=m.map fun p=>(p.1,.agg p.2.cells)
theorem Ld(m:Fh):(N7 m).map (·.1)=m.map (·.1):=by simp[N7]
theorem Xb(m:Fh)(k:List UInt8)(f:Fact):Ms.J4 (N7 m) k (.agg f.cells)=N7 (Kn m k f):=by
 unfold Ms.J4 Kn
 rw[Ld]
 split
 · simp only[N7,fq]
   apply ff
   intro p _
   simp only[Function.comp]
   split<;>rfl
 simp[N7]
theorem fJ{m:Fh}{k:List UInt8}{f:Fact}(h:Qv m k=some f):(k,.agg f.cells)∈N7 m:=by
 unfold Qv at h
 cases hf:m.find? (fun p=>p.1==k)with
 |none=>rw[hf]at h;cases h
 |some p=>
   rw[hf]at h
   have h1:=List.mem_of_find?_eq_some hf
   have h2:(p.1==k)=true:=List.find?_some (p:=fun p:List UInt8×Fact=>p.1==k) hf
   have h3:=eq_of_beq h2
   simp at h
   refine bj.2 ⟨p,h1,?_⟩
   rw[h3,h]
theorem To{m:Fh}{k:List UInt8}(h:Qv m k=none):k∉(N7 m).map (·.1):=by
 rw[Ld]
 intro hm
 obtain⟨p,hp,e⟩:=bj.1 hm
 unfold Qv at h
 rw[Option.map_eq_none_iff,jg]at h
 exact h p hp (by simp[e])
def Dg(day:Int)(m:Fh)(f:Fact):Fh:=if Cf f=[]∨day<f.Day then m else match Qv m (Cf f)with
 |none=>Kn m (Cf f) f
 |some old=>if Dx f old=true then Kn m (Cf f) f else m
def Gu(l:List Fact)(day:Int):Fh:=l.foldl (Dg day) []
theorem I9{l:List Fact}{day:Int}{k:Nat}{x:Fact}(h:l[k]?=some x):Gu (l.take (k+1)) day=Dg day (Gu (l.take k) day) x:=by
 rw[Cs h,Gu,List.foldl_append];rfl
theorem N8{day:Int}{m:Fh}{x:Fact}(h:Cf x=[]∨day<x.Day):Dg day m x=m:=by rw[Dg,ap h]
theorem Xc{day:Int}{m:Fh}{x:Fact}(h:¬(Cf x=[]∨day<x.Day))(hg:Qv m (Cf x)=none):Dg day m x=Kn m (Cf x) x:=by rw[Dg,am h,hg]
theorem Xd{day:Int}{m:Fh}{x old:Fact}(h:¬(Cf x=[]∨day<x.Day))(hg:Qv m (Cf x)=some old)(hp:Dx x old=true):Dg day m x=Kn m (Cf x) x:=by rw[Dg,am h,hg];simp[hp]
theorem Xe{day:Int}{m:Fh}{x old:Fact}(h:¬(Cf x=[]∨day<x.Day))(hg:Qv m (Cf x)=some old)(hp:Dx x old=false):Dg day m x=m:=by rw[Dg,am h,hg];simp[hp]
def MOk(m:Fh):Prop:=∀p∈m,p.1=Cf p.2∧Bi p.2=true
theorem Mh{f:Fact}(h:Cf f≠[]):Bi f=true:=by
 cases hv:Bi f with
 |true=>rfl
 |false=>rw[Cf,am (by rw[hv];exact b7)]at h;exact absurd rfl h
theorem MOk.set{m:Fh}{f:Fact}(h:MOk m)(hf:Bi f=true):MOk (Kn m (Cf f) f):=by
 intro p hp
 unfold Kn at hp
 split at hp
 · obtain⟨q,hq,e⟩:=bj.1 hp
   split at e
   · rw[←e];exact⟨rfl,hf⟩
   rw[←e];exact h q hq
 rcases bp.1 hp with hp|hp
 · exact h p hp
 simp at hp;rw[hp];exact⟨rfl,hf⟩
theorem Xf(m:Fh)(k:List UInt8)(f:Fact):(Kn m k f).length≤m.length+1:=by
 unfold Kn
 split<;>simp
theorem MOk.step{m:Fh}(h:MOk m)(day:Int)(f:Fact):MOk (Dg day m f)∧(Dg day m f).length≤m.length+1:=by
 unfold Dg
 split
 · exact⟨h,by omega⟩
 rename_i hk
 have hv:Bi f=true:=Mh fun e=>hk (.inl e)
 split
 · exact⟨h.set hv,Xf _ _ _⟩
 split
 · exact⟨h.set hv,Xf _ _ _⟩
 exact⟨h,by omega⟩
theorem Pt(day:Int):∀(l:List Fact),MOk (Gu l day)∧(Gu l day).length≤l.length:=by
 have:∀(l:List Fact)(m:Fh),MOk m→MOk (l.foldl (Dg day) m)∧(l.foldl (Dg day) m).length≤m.length+l.length:=by
   intro l
   induction l with
   |nil=>intro m h;exact⟨h,by simp⟩
   |cons x l ih=>
     intro m h
     have h1:=h.step day x
     have h2:=ih _ h1.1
     exact⟨h2.1,by have:=h2.2;simp only[iz,ai];omega⟩
 intro l
 have h:=this l [] (fun p hp=>by simp at hp)
 exact⟨h.1,by have:=h.2;simp only[bi,c_]at this;exact this⟩
def D4(dn:List Int)(ds:List Fact)(j:Nat):List Fact:=
 if((j+1:Nat):Int)∈dn then Ls (Km ((j+1:Nat):Int)) (ds.filter fun f=> !f.Gone&&decide (f.Kind=((j+1:Nat):Int)))else ds.filter fun f=> !f.Gone&&decide (f.Kind=((j+1:Nat):Int))
def Xg(dn:List Int)(ds:List Fact):List (List Fact):=(List.range 11).map (D4 dn ds)
theorem Hu(dn:List Int)(ds:List Fact):(Xg dn ds).length=11:=by simp[Xg]
theorem Ge(dn:List Int)(ds:List Fact){j:Nat}(hj:j<11):(Xg dn ds)[j]?=some (D4 dn ds j):=by simp[Xg,hj]
theorem kN{ds:List Fact}{x:Fact}(h:x.Gone=true):Xg [] (ds++[x])=Xg [] ds:=by
 unfold Xg
 apply ff
 intro j _
 simp[D4,h]
theorem oL{ds:List Fact}{x:Fact}{j:Nat}(h:x.Gone=false)(hj:j<11)(hk:x.Kind=((j+1:Nat):Int)):Xg [] (ds++[x])=(Xg [] ds).set j (D4 [] ds j++[x]):=by
 apply ce
 intro i
 rw[ft]
 by_cases e:j=i
 · subst e
   rw[ap rfl,ap (by rw[Hu];exact hj),Ge _ _ hj]
   simp[D4,h,hk]
 rw[am e]
 by_cases hi:i<11
 · rw[Ge _ _ hi,Ge _ _ hi]
   have:decide (x.Kind=((i+1:Nat):Int))=false:=bn oQ
   simp only[D4,c9,if_false,dc]
   rw[dk,am (by rw[this,Bool.and_false];exact b7)]
   simp
 rw[ck (by rw[Hu];omega),ck (by rw[Hu];omega)]
theorem kO{dn:List Int}{ds:List Fact}{j:Nat}(hj:j<11)(hn:((j+1:Nat):Int)∉dn):(Xg dn ds).set j (Ls (Km ((j+1:Nat):Int)) (D4 dn ds j))=Xg (dn++[((j+1:Nat):Int)]) ds:=by
 apply ce
 intro i
 rw[ft]
 by_cases e:j=i
 · subst e
   rw[ap rfl,ap (by rw[Hu];exact hj),Ge _ _ hj]
   unfold D4
   rw[am hn,ap (g6 _ (bh.2 rfl))]
 rw[am e]
 by_cases hi:i<11
 · rw[Ge _ _ hi,Ge _ _ hi]
   have:((i+1:Nat):Int)≠((j+1:Nat):Int):=by omega
   simp only[D4,bp,bh,this,db]
 rw[ck (by rw[Hu];omega),ck (by rw[Hu];omega)]
theorem Pu(dn:List Int)(ds:List Fact)(j:Nat):(D4 dn ds j).length≤ds.length:=by
 unfold D4
 split
 · rw[(H0 _).same.length];exact fm _ _
 exact fm _ _
theorem oM:Xg [] []=List.replicate 11 ([]:List Fact):=by
 rfl
theorem oN(vs:List Go.Value)(j:Nat)(v:Go.Value):vs.toArray.setIfInBounds j v=(vs.set j v).toArray:=by simp
theorem fK{x:Fact}(h:Cf x=[]):((⟨(Cf x).toArray⟩:ByteArray).toList==(⟨#[]⟩:ByteArray).toList)=true:=by rw[Hz,Hz,h];rfl
theorem kP{x:Fact}(h:Cf x≠[]):((⟨(Cf x).toArray⟩:ByteArray).toList==(⟨#[]⟩:ByteArray).toList)=false:=by
 rw[Hz,Hz]
 simpa using h
theorem U6{vs:List Go.Value}(h:vs.length=11):∃v0 v1 v2 v3 v4 v5 v6 v7 v8 v9 v10,vs=[v0,v1,v2,v3,v4,v5,v6,v7,v8,v9,v10]:=by
 match vs,h with
 |[v0,v1,v2,v3,v4,v5,v6,v7,v8,v9,v10],_=>exact⟨v0,v1,v2,v3,v4,v5,v6,v7,v8,v9,v10,rfl⟩
def Xh(ds:List Fact):Base:=⟨D4 [1] ds 0,D4 [2] ds 1,D4 [3] ds 2,D4 [4] ds 3,D4 [5] ds 4,D4 [6] ds 5,D4 [7] ds 6,D4 [8] ds 7,D4 [9] ds 8,D4 [10] ds 9,D4 [11] ds 10⟩
theorem Xi{dn:List Int}{ds:List Fact}{j:Nat}(h:((j+1:Nat):Int)∈dn):D4 dn ds j=D4 [((j+1:Nat):Int)] ds j:=by
 unfold D4
 rw[ap h,ap (bh.2 rfl)]
theorem Qw{ds:List Fact}{x:Fact}(h:(ds.map Cf).Nodup)(hf:Cf x∉ds.map Cf):((ds++[x]).map Cf).Nodup:=by
 rw[cg,ge]
 exact⟨h,by simp,fun a ha c hc=>by simp at hc;subst hc;exact fun e=>hf (e▸ha)⟩
theorem Qx{ds:List Fact}{M:Fh}(h:∀f∈ds,(Cf f,f)∈M)(hn:(ds.map Cf).Nodup):ds.length≤M.length:=by
 have:=hn.length_le_of_subset (l₂:=M.map (·.1)) (fun k hk=>by
   obtain⟨f,hf,rfl⟩:=bj.1 hk
   exact bj.2 ⟨_,h f hf,rfl⟩)
 simpa using this
theorem Qy{ds:List Fact}{M:Fh}{x:Fact}(h:∀f∈ds,(Cf f,f)∈M)(hn:(ds.map Cf).Nodup)(hx:(Cf x,x)∈M)(hf:Cf x∉ds.map Cf):ds.length+1≤M.length:=by
 have:=Qx (ds:=ds++[x]) (M:=M) (fun f hf=>by rcases bp.1 hf with hf|hf;exact h f hf;simp at hf;rw[hf];exact hx) (Qw hn hf)
 simpa using this
theorem fL{dn:List Int}(h:dn.Nodup∧∀k∈dn,1≤k∧k≤11):dn.length≤11:=by
 have:=h.1.length_le_of_subset (l₂:=[1,2,3,4,5,6,7,8,9,10,11]) (fun k hk=>by
   have:=h.2 k hk
   simp;omega)
 simpa using this
theorem fM{dn:List Int}{k:Int}(h:dn.Nodup∧∀k∈dn,1≤k∧k≤11)(hk:1≤k∧k≤11)(hf:k∉dn):dn.length+1≤11:=by
 have:=fL (dn:=dn++[k]) ⟨ge.2 ⟨h.1,by simp,fun a ha c hc=>by simp at hc;subst hc;exact fun e=>hf (e▸ha)⟩,fun q hq=>by rcases bp.1 hq with hq|hq;exact h.2 q hq;simp at hq;rw[hq];exact hk⟩
 simpa using this
theorem kR{α:Type}{vs:List α}{j:Nat}{v:α}(h:vs[j]?=some v):vs.set j v=vs:=by
 apply ce
 intro i
 rw[ft]
 by_cases e:j=i
 · subst e
   rw[ap rfl,ap (ak.1 h).1,h]
 rw[am e]
theorem Fw{e:Nat}{dn:List Int}{ds:List Fact}{vs:List Go.Value}{w:World}(h:(Df (lists e 19 Fact.cells vs (Xg dn ds))).holds w){j:Nat}{v:Go.Value}(hv:vs[j]?=some v)(hj:j<11)(hin:((j+1:Nat):Int)∈dn):Sl w v 19 Fact.cells (D4 [((j+1:Nat):Int)] ds j):=by
 have:=(I5 h hv (Ge _ _ hj)).sl (fun _=>rfl)
 rwa [Xi hin]at this
theorem kS{e:Nat}{dn:List Int}{ds:List Fact}{vs:List Go.Value}{w:World}(h:(Df (lists e 19 Fact.cells vs (Xg dn ds))).holds w){j:Nat}{v:Go.Value}(hv:vs[j]?=some v)(hj:j<11)(hin:((j+1:Nat):Int)∈dn):OwnS w 0 e 19 Fact.cells v (D4 [((j+1:Nat):Int)] ds j):=by
 have:=I5 h hv (Ge _ _ hj)
 rwa [Xi hin]at this
def cV(base:Nat)(bc:Array Go.Value):Prop:=∀(j:Nat)(v:Go.Value),bc[j]?=some v→∀i,v.ownBlock=some i→base≤i
theorem Z8{α:Type}{e k base:Nat}{enc:α→Array Go.Value}{vs:List Go.Value}{xss:List (List α)}(hl:vs.length=xss.length)(h:∀i,(Df (lists e k enc vs xss)).foot i→base≤i):cV base vs.toArray:=fun j v hv i hi=>by
 have hv2:vs[j]?=some v:=by simpa using hv
 have hlt:=(ak.1 hv2).1
 obtain⟨xs,hx⟩:=An (xs:=xss) (i:=j) oQ
 exact h i ⟨_,ae (K6 hv2 hx),hi⟩
theorem oO{vs:List Go.Value}(h:∀v∈vs,v.oneCell'=true):vs.toArray.all (·.oneCell')=true:=by
 rw[b9]
 intro v hv
 exact h v (by simpa using hv)
theorem Z9{α:Type}{key:α→K2}{l s:List α}(h:l.Perm s)(hd:∀x∈l,∀y∈l,key x=key y→x=y):Ls key l=Ls key s:=by
 have hs:sameF key l s:=fun k=>by
   have hp:=h.filter (fun x=>key x==k)
   cases e:l.filter (fun x=>key x==k)with
   |nil=>rw[e]at hp;exact hp.symm.eq_nil
   |cons x r=>
     have all:∀y∈l.filter (fun x=>key x==k),y=x:=fun y hy=>by
       have hx:x∈l.filter (fun x=>key x==k):=by rw[e];exact bl
       rw[d_]at hx hy
       exact hd _ hy.1 _ hx.1 ((eq_of_beq hy.2).trans (eq_of_beq hx.2).symm)
     have h1:l.filter (fun x=>key x==k)=List.replicate (l.filter (fun x=>key x==k)).length x:=List.eq_replicate_iff.2 ⟨rfl,all⟩
     have h2:s.filter (fun x=>key x==k)=List.replicate (l.filter (fun x=>key x==k)).length x:=List.eq_replicate_iff.2 ⟨hp.length_eq.symm,fun y hy=>all y (hp.symm.subset hy)⟩
     rw[h2,←h1,e]
 have:StS key l (Ls key s):=⟨(H0 s).ord,hs.trans (H0 s).same⟩
 exact this.eq.symm
theorem Qz{k:Int}{f g:Fact}(hf:Bi f=true)(hg:Bi g=true)(hkf:f.Kind=k)(hkg:g.Kind=k)(h:Km k f=Km k g):Cf f=Cf g:=by
 have hk:=Ej hf
 rw[hkf]at hk
 unfold Cf M8
 rw[ap hf,ap hg,hkf,hkg]
 have hc:k=1∨k=2∨k=3∨k=4∨k=5∨k=6∨k=7∨k=8∨k=9∨k=10∨k=11:=by omega
 rcases hc with rfl|rfl|rfl|rfl|rfl|rfl|rfl|rfl|rfl|rfl|rfl
 · replace h:(f.ID,(0:Int))=(g.ID,(0:Int)):=h
   show Co [1,f.ID]=Co [1,g.ID]
   rw[(ew h).1]
 · replace h:(f.ID,(0:Int))=(g.ID,(0:Int)):=h
   show Co [2,f.ID]=Co [2,g.ID]
   rw[(ew h).1]
 · replace h:(f.ID,(0:Int))=(g.ID,(0:Int)):=h
   show Co [3,f.ID]=Co [3,g.ID]
   rw[(ew h).1]
 · replace h:(f.Wafer,f.Time)=(g.Wafer,g.Time):=h
   show Co [4,f.Wafer,f.Time]=Co [4,g.Wafer,g.Time]
   rw[(ew h).1,(ew h).2]
 · replace h:(f.Product,(0:Int))=(g.Product,(0:Int)):=h
   show Co [5,f.Product]=Co [5,g.Product]
   rw[(ew h).1]
 · replace h:(f.ID,(0:Int))=(g.ID,(0:Int)):=h
   show Co [6,f.ID]=Co [6,g.ID]
   rw[(ew h).1]
 · replace h:(f.ID,(0:Int))=(g.ID,(0:Int)):=h
   show Co [7,f.ID]=Co [7,g.ID]
   rw[(ew h).1]
 · replace h:(f.Other,f.Parties)=(g.Other,g.Parties):=h
   show Co [8,f.Other,f.Parties]=Co [8,g.Other,g.Parties]
   rw[(ew h).1,(ew h).2]
 · replace h:(f.ID,(0:Int))=(g.ID,(0:Int)):=h
   show Co [9,f.ID]=Co [9,g.ID]
   rw[(ew h).1]
 · replace h:(f.Recipe,f.Time)=(g.Recipe,g.Time):=h
   show Co [10,f.Recipe,f.Time]=Co [10,g.Recipe,g.Time]
   rw[(ew h).1,(ew h).2]
 replace h:(f.ID,(0:Int))=(g.ID,(0:Int)):=h
 show Co [11,f.ID]=Co [11,g.ID]
 rw[(ew h).1]
theorem Tp(m:Fh)(k:List UInt8)(f:Fact):(Kn m k f).map (·.1)=if k∈m.map (·.1)then m.map (·.1)else m.map (·.1)++[k]:=by
 unfold Kn
 split
 · rw[fq]
   apply ff
   intro p _
   simp only[Function.comp]
   split
   · rename_i e;exact e.symm
   rfl
 simp
theorem Q0{m:Fh}(h:(m.map (·.1)).Nodup)(k:List UInt8)(f:Fact):((Kn m k f).map (·.1)).Nodup:=by
 rw[Tp]
 split
 · exact h
 rename_i hn
 rw[ge]
 exact⟨h,by simp,fun a ha c hc=>by cases bh.1 hc;exact fun e=>hn (e▸ha)⟩
theorem Q3{m:Fh}(h:(m.map (·.1)).Nodup)(day:Int)(f:Fact):((Dg day m f).map (·.1)).Nodup:=by
 unfold Dg
 split
 · exact h
 split
 · exact Q0 h _ _
 split
 · exact Q0 h _ _
 exact h
theorem Mi(l:List Fact)(day:Int):((Gu l day).map (·.1)).Nodup:=by
 have:∀(l:List Fact)(m:Fh),(m.map (·.1)).Nodup→((l.foldl (Dg day) m).map (·.1)).Nodup:=by
   intro l
   induction l with
   |nil=>exact fun m h=>h
   |cons x l ih=>exact fun m h=>ih _ (Q3 h day x)
 exact this l [] gh
theorem Tq{m:Fh}(h:(m.map (·.1)).Nodup){k:List UInt8}{f g:Fact}(hf:(k,f)∈m)(hg:(k,g)∈m):f=g:=by
 induction m with
 |nil=>cases hf
 |cons p m ih=>
   rw[co,fo]at h
   rcases bg.1 hf with e|hf'<;>rcases bg.1 hg with e'|hg'
   · rw[←e']at e;cases e;rfl
   · exact absurd (bj.2 ⟨_,hg',by rw[←e]⟩) h.1
   · exact absurd (bj.2 ⟨_,hf',by rw[←e']⟩) h.1
   exact ih h.2 hf' hg'
def Gv(m:Fh):List Fact:=m.map (·.2)
theorem H9{m:Fh}(h:MOk m){f:Fact}:f∈Gv m↔(Cf f,f)∈m:=by
 constructor
 · intro hf
   obtain⟨⟨k,g⟩,hp,e⟩:=bj.1 hf
   have e:g=f:=e
   subst e
   have:=(h _ hp).1
   have this:k=Cf g:=this
   rw[←this];exact hp
 exact fun hf=>bj.2 ⟨_,hf,rfl⟩
theorem Oz{m:Fh}(h:MOk m):(Gv m).map Cf=m.map (·.1):=by
 unfold Gv
 rw[fq]
 apply ff
 intro p hp
 exact(h p hp).1.symm
theorem Hv{α β:Type}{f:α→β}:∀{l:List α},(l.map f).Nodup→l.Nodup
 |[],_=>gh
 |x::l,h=>by
   rw[co,fo]at h
   exact fo.2 ⟨fun hm=>h.1 (bj.2 ⟨x,hm,rfl⟩),Hv h.2⟩
theorem Xj{α:Type}{l s:List α}(hl:l.Nodup)(hs:s.Nodup)(h:∀x,x∈l↔x∈s):l.Perm s:=(il hl hs).2 h
theorem fN{ds:List Fact}{m:Fh}(hm:MOk m)(hn:(m.map (·.1)).Nodup)(h:∀f∈ds,(Cf f,f)∈m)(hp:(ds.map Cf).Perm (m.map (·.1))):ds.Perm (Gv m):=by
 refine Xj (Hv (f:=Cf) (hp.nodup_iff.2 hn)) (Hv (f:=Cf) (by rw[Oz hm];exact hn)) fun x=>?_
 rw[H9 hm]
 refine⟨h x,fun hx=>?_⟩
 obtain⟨y,hy,e⟩:=bj.1 (hp.symm.subset (bj.2 ⟨_,hx,rfl⟩))
 have e:Cf y=Cf x:=e
 have:=h y hy
 rw[e]at this
 rw[Tq hn hx this];exact hy
theorem aA{m:Fh}(hm:MOk m)(hn:(m.map (·.1)).Nodup){f g:Fact}(hf:f∈Gv m)(hg:g∈Gv m)(e:Cf f=Cf g):f=g:=by
 rw[H9 hm]at hf hg
 rw[e]at hf
 exact Tq hn hf hg
theorem Fx{m:Fh}(hm:MOk m)(hn:(m.map (·.1)).Nodup){ds:List Fact}(h:ds.Perm (Gv m))(dn:List Int)(j:Nat)(hj:((j+1:Nat):Int)∈dn):D4 dn ds j=D4 dn (Gv m) j:=by
 unfold D4
 rw[ap hj,ap hj]
 refine Z9 (h.filter _) fun x hx y hy e=>?_
 rw[d_]at hx hy
 have hxm:=h.subset hx.1
 have hym:=h.subset hy.1
 have vx:=(hm _ ((H9 hm).1 hxm)).2
 have vy:=(hm _ ((H9 hm).1 hym)).2
 simp only[bm,fc]at hx hy
 exact aA hm hn hxm hym (Qz vx vy hx.2.2 hy.2.2 e)
def Lk(l:List Fact)(day:Int):Base:=Xh (Gv (Gu l day))
theorem sO{ds:List Fact}{l:List Fact}{day:Int}(h:∀f∈ds,(Cf f,f)∈Gu l day)(hp:(ds.map Cf).Perm ((Gu l day).map (·.1))):Xh ds=Lk l day:=by
 have hm:=(Pt day l).1
 have hn:=Mi l day
 have h1:=fN hm hn h hp
 unfold Lk Xh
 rw[Fx hm hn h1 [1] 0 cQ,Fx hm hn h1 [2] 1 cQ,Fx hm hn h1 [3] 2 cQ,Fx hm hn h1 [4] 3 cQ,Fx hm hn h1 [5] 4 cQ,Fx hm hn h1 [6] 5 cQ,Fx hm hn h1 [7] 6 cQ,Fx hm hn h1 [8] 7 cQ,Fx hm hn h1 [9] 8 cQ,Fx hm hn h1 [10] 9 cQ,Fx hm hn h1 [11] 10 (by decide)]
end Go.Wx
namespace Go.Proofs.YtnocngnlpgikaaaGreatDoor
open Go.Proofs.Tryz
open Go.Wx Go.RowKit
theorem Tr(a:Int)(w:World):Ret prog 139 #[vi a] w fun r w'=>r=.bool false∧Up w w':=by
 have hW:=Up.refl w
 refine cT 6 func139 rfl (Ae (Ay (Am (Aa (I rfl (I rfl (U (.fa (PEv.neq (.t rfl) (.t rfl)) (by simp)) (LW.A rfl (Af (Al (KW.q ?_)))))))))))
 exact⟨rfl,hW⟩
theorem Q4(a b:Int)(w:World):Ret prog 68 #[vi a,vi b] w fun r w'=>r=vi (N6 a b)∧Up w w':=by
 have hW:=Up.refl w
 refine cT 20 func68 rfl (Ae (Ay (Am (Aa (I rfl (A3 (eC (.o rfl) (qF)) rfl (Tr _ _) ?_))))))
 rintro _ w1 ⟨rfl,uw1⟩
 replace hW:=hW.up uw1
 refine LW.A rfl (Am (Aa (I rfl (A3 (eC (.o rfl) (qF)) rfl (Tr _ _) ?_))))
 rintro _ w2 ⟨rfl,uw2⟩
 replace hW:=hW.up uw2
 refine LW.A rfl (Am (Ae (I rfl (Af (CW.f rfl (Ai (Ac (Ak (Ae (I rfl (Af (CW.f rfl (Ai (Ac (Ak (Ae (I rfl (I rfl (U (.l2 rfl rfl) (Af (CW.b rfl (fun h16=>?_) (fun h16=>?_))))))))))))))))))))))
 ·replace h16:=dQ h16
  refine Ae (Ay (Af (Al (Au (KW.q ?_)))))
  refine⟨aq vi ?_,hW⟩
  unfold N6
  (rw[ap (by omega)])
 replace h16:=dQ h16
 refine Ai (Ac (Ak (Ae (I rfl (I rfl (U (.gtr (.t rfl) (.t rfl)) (Af (CW.b rfl (fun h19=>?_) (fun h19=>?_)))))))))
 ·replace h19:=dQ h19
  refine Ae (Ay (Af (Al (Au (KW.q ?_)))))
  refine⟨aq vi ?_,hW⟩
  unfold N6
  (rw[am oQ,ap (by omega)])
 replace h19:=dQ h19
 refine Ai (Ac (Ae (Ay (Af (Al (KW.q ?_))))))
 refine⟨aq vi ?_,hW⟩
 unfold N6
 (rw[am oQ,am (by omega)])
theorem sP(ad:Option Addr)(cp:Nat)(l:List Int)(w:World)(hE0:Els w ad 1 A6 l)(hl:l.length≤1000):Ret prog 67 #[.slice ad l.length cp] w fun r w'=>r=vi (mV l)∧Up w w':=by
 have hW:=Up.refl w
 obtain⟨w0,rfl,_⟩:=W0 w
 refine cT 18 func67 rfl (Ae (Ay (Am (Aa (Ay (Am (Ae (I rfl (U (.Cn ju (.t rfl)) (U (.move (.const _)) (Af (Ah (A5 (σ:=Nat) (fun s w=>(s≤l.length)∧(mV l=mV (l.drop s))∧(Up w0 w)) (fun s=>[(8,.eq (vi (s:Int)))]) ([(3,.eq _),(6,.eq _),(7,.eq _)]) (fun s=>l.length-s) 0 ?_ tQ ?_)))))))))))))
 ·exact⟨au _,rfl,Up.refl _⟩
 rintro k w1 ⟨hkk,hor,hL1⟩
 replace hW:=hW.up hL1
 refine Ae (U (.l2 rfl rfl) (Am (CW.b rfl (fun h9=>?_) (fun h9=>?_))))
 ·refine Ai (Ac (Ak (Ah (Ak ?_))))
  have hE:=Els.up hE0 hW
  have hkl:k<l.length:=by simp at h9;omega
  refine Aa ?_
  obtain⟨x,hx⟩:=An (xs:=l) (i:=k) oQ
  obtain⟨Bx,ox,ax,hcx⟩:=hE _ x hx
  refine U (.Ar ju jw (.t rfl) (.t rfl) oQ ax) (U (.lb rfl (hcx.nth (j:=0) rfl)) (LW.A rfl (Am (Aa (I rfl (I rfl (U (.neq (.t rfl) (.t rfl)) (Af (CW.b rfl (fun h14=>?_) (fun h14=>?_))))))))))
  ·refine Ae (I rfl (LW.A rfl (Af (Al (A7 (Au (Au (A7 (Au (KW.q ?_))))))))))
   refine⟨aq vi ?_,hW⟩
   rw[hor]
   (rw[Xa hx,am (by simpa using h14)])
  refine Ai (Aj (Ac (Aa (U (.ic rfl oQ) (I rfl (LW.nil (Av ?_)))))))
  exact⟨k+1,⟨by omega,by rw[hor,Xa hx,ap (by simpa using h14)],hL1⟩,tQ,by omega⟩
 refine A8 (Ab (Ab (Ao (Ac (Ae (I rfl (LW.A rfl (Af (Al (KW.q ?_))))))))))
 refine⟨aq vi ?_,hW⟩
 rw[hor]
 (rw[gz (by simp at h9;omega)];rfl)
theorem fO(of:Nat)(key:Fact→K2)(hen:∀args w,(callFunc of args).run prog w=.ok (.enter of args) w)(hord:∀W x,Ret prog of #[.agg x.cells] W fun r W'=>r=.agg #[vi (key x).1,vi (key x).2]∧Up W W')(a b:Fact)(Bc:Nat)(w:World)(hC0:Blk w Bc #[.func (.func of) #[] #[]] 77):Ret prog 66 #[.agg a.cells,.agg b.cells,.pointer (some ⟨Bc,0,none⟩)] w fun r w'=>r=vi (Z6 (key a) (key b))∧Up w w':=by
 have hW:=Up.refl w
 have hC:=hC0
 refine cT 26 func66 rfl (Ae (Aq (.bA rfl) rfl ?_))
 rintro _ w1 ⟨B3,rfl,NB3⟩
 replace hW:=hW.up NB3.up
 replace hC:=hC.up NB3.up
 have hB3:=NB3.blk
 refine Aq (.bA rfl) rfl ?_
 rintro _ w2 ⟨B4,rfl,NB4⟩
 replace hW:=hW.up NB4.up
 replace hC:=hC.up NB4.up
 replace hB3:=hB3.up NB4.up
 have hB4:=NB4.blk
 refine Ay (Am (CW.vars 10 [⟨6,8,2,6,10⟩,⟨7,9,5,7,13⟩] #[vi 0,vi 0] [.eq (.func (.func of) #[] #[]),.eq (.agg a.cells),.eq (.agg #[vi (key a).1,vi (key a).2]),.eq (.func (.func of) #[] #[]),.eq (.agg b.cells),.eq (.agg #[vi (key b).1,vi (key b).2]),.pred fun v _=>∃B,v=.pointer (some ⟨B,0,none⟩),.pred fun v _=>∃B,v=.pointer (some ⟨B,0,none⟩),.eq undef,.eq undef] [6,7] k7 lw kQ rfl kQ kQ kQ kQ kQ kQ kQ kQ cQ kQ kQ ?_ ?_ ⟨mp,mp,mp,mp,mp,mp,PhT.pred fun _ _ _ h _=>h,PhT.pred fun _ _ _ h _=>h,mp,mp,trivial⟩ ?_ ?_ ?_ ?_ ?_))
 ·intro v hv;simp only[bg,cm,db]at hv;rcases hv with rfl|rfl<;>exact⟨_,_,_,rfl⟩
 ·intro v hv;simp only[bg,cm,db]at hv;rcases hv with rfl|rfl<;>exact⟨_,_,_,rfl⟩
 ·intro v hv;simp only[bg,cm,db]at hv;rcases hv with rfl|rfl<;>(intro o ho;cases ho;rfl)
 ·intro v hv;simp only[bg,cm,db]at hv;rcases hv with rfl|rfl
  ·exact fun v W h=>⟨_,h,rfl,(kL (key a)).2⟩
  exact fun v W h=>⟨_,h,rfl,(kL (key b)).2⟩
 ·intro v hv;simp only[bg,cm,db]at hv;rcases hv with rfl|rfl<;>exact fun B W=>⟨B,rfl⟩
 ·intro W hK0
  have hK:=(Up.drew w2).C8.trans hK0
  have hCW:=Blk.C8 hC (T:=136) rfl hK
  have hB3W:=Blk.C8 hB3 (T:=136) rfl hK
  have hB4W:=Blk.C8 hB4 (T:=136) rfl hK
  refine aC (.inr ⟨rfl,TU.p (.lb rfl (hCW.Ad rfl)) rfl⟩) (aC (.inr ⟨rfl,TU.p (.lc rfl (hB3W.agg)) rfl⟩) (aC (.inr ⟨rfl,TU.c (Fa (.t rfl) (.cu rfl) hen) (hord _ a) sQ⟩) (aC (.inr ⟨rfl,TU.p (.lb rfl (hCW.Ad rfl)) rfl⟩) (aC (.inr ⟨rfl,TU.p (.lc rfl (hB4W.agg)) rfl⟩) (aC (.inr ⟨rfl,TU.c (Fa (.t rfl) (.cu rfl) hen) (hord _ b) sQ⟩) (aC (.inl (by simp)) (aC (.inl (by simp)) (aC (.inl (by simp)) (aC (.inl (by simp)) ?_)))))))))
  exact allL.nil
 intro wT g hU0 hbl hpw hg
 have hU:=(Up.drew w2).trans hU0
 obtain⟨B6,e6,z6,hB6⟩:=hbl ⟨6,8,2,6,10⟩ (by simp)
 obtain⟨B7,e7,z7,hB7⟩:=hbl ⟨7,9,5,7,13⟩ (by simp)
 have e10:g 10=.agg #[vi (key a).1,vi (key a).2]:=hg 2 _ 10 cQ rfl rfl
 have e13:g 13=.agg #[vi (key b).1,vi (key b).2]:=hg 5 _ 13 cQ rfl rfl
 replace e6:g 6=.pointer (some ⟨B6,0,none⟩):=e6
 replace e7:g 7=.pointer (some ⟨B7,0,none⟩):=e7
 change LW _ _ _ _ _ _ _ _ ((6,.eq (g 6))::(7,.eq (g 7))::_) _
 rw[e6,e7]
 rw[e10]at hB6
 rw[e13]at hB7
 replace hB6:Blk wT B6 #[vi (key a).1,vi (key a).2] 136:=hB6
 replace hB7:Blk wT B7 #[vi (key b).1,vi (key b).2] 136:=hB7
 replace hW:=hW.trans hU
 refine Am (Pf 11 [.eq (.pointer (some ⟨B6,0,none⟩)),.eq (vi (key a).1),.eq (.pointer (some ⟨B7,0,none⟩)),.eq (vi (key b).1),.eq (vi (N6 (key a).1 (key b).1)),.eq (.pointer (some ⟨B6,1,none⟩)),.eq (vi (key a).2),.eq (.pointer (some ⟨B7,1,none⟩)),.eq (vi (key b).2),.eq (vi (N6 (key a).2 (key b).2)),.pred (fun v w=>SlT 3 w v 1 A6 [N6 (key a).1 (key b).1,N6 (key a).2 (key b).2])] [24] kQ rfl kQ kQ kQ kQ kQ kQ kQ ⟨ml,ml,ml,ml,ml,ml,ml,ml,ml,ml,PhU.pred fun _ _ _ h u=>SlT.G0 h u.G0,trivial⟩ ?_ ?_)
 ·intro W hU0
  have hU:=(Up.drew wT).trans hU0
  refine aC ⟨rfl,TU.p (.Ee (j:=0) lg jw (.t rfl) (.const _) cQ) rfl⟩ (aC ⟨rfl,TU.p (.lb rfl ((hB6.up hU).Ad rfl)) rfl⟩ (aC ⟨rfl,TU.p (.Ee (j:=0) lg jw (.t rfl) (.const _) cQ) rfl⟩ (aC ⟨rfl,TU.p (.lb rfl ((hB7.up hU).Ad rfl)) rfl⟩ (aC ⟨rfl,TU.c (eC (.u rfl rfl) (uS)) (Q4 _ _ _) sQ⟩ (aC ⟨rfl,TU.p (.Ee (j:=1) lg jw (.t rfl) (.const _) cQ) rfl⟩ (aC ⟨rfl,TU.p (.lb rfl ((hB6.up hU).Ad rfl)) rfl⟩ (aC ⟨rfl,TU.p (.Ee (j:=1) lg jw (.t rfl) (.const _) cQ) rfl⟩ (aC ⟨rfl,TU.p (.lb rfl ((hB7.up hU).Ad rfl)) rfl⟩ (aC ⟨rfl,TU.c (eC (.u rfl rfl) (uS)) (Q4 _ _ _) sQ⟩ (aC ⟨rfl,TU.r (REv.buildSlice (xs:=[N6 (key a).1 (key b).1,N6 (key a).2 (key b).2]) (enc:=A6) (mk:=vi) ju jw j2 rfl cQ (fun _=>rfl) (fun _=>rfl) (.ct rfl (.cu rfl)) rfl) (by rintro _ W1 ⟨B,c,rfl,N,y,x⟩;exact⟨N.up,SlT.lit ⟨B,c,rfl,N,y,x⟩⟩)⟩ ?_))))))))))
  exact allL.nil
 intro w3 g hU0 hg
 have hU:=(Up.drew wT).trans hU0
 replace hW:=hW.up hU
 replace hB6:=hB6.up hU
 replace hB7:=hB7.up hU
 obtain⟨⟨ad,cp,e24,hE⟩,_⟩:=hg 10 _ 24 cQ rfl rfl
 change LW _ _ _ _ _ _ _ _ ((24,.eq (g 24))::_) _
 rw[e24]
 refine A3 (eC (.o rfl) (BH)) rfl (sP ad cp _ _ hE (by simp)) ?_
 rintro _ w4 ⟨rfl,uw4⟩
 replace hW:=hW.up uw4
 replace hB6:=hB6.up uw4
 replace hB7:=hB7.up uw4
 refine LW.A rfl (Af (Al (KW.q ?_)))
 exact⟨rfl,hW⟩
theorem Iy(a b n:Nat)(fv:Go.Value)(g m cp:Nat)(xs:List Fact)(w:World)(ho:OwnS w 0 33 19 Fact.cells (.slice (some ⟨g,0,none⟩) m cp) xs)(h63:m≤1000000000)(h1:a+n≤b)(h2:b+n≤m):Ret prog 254 #[.slice (some ⟨g,0,none⟩) m cp,vi (a:Int),vi (b:Int),vi (n:Int),fv] w fun r w'=>r=.tuple #[]∧Stp (Az 33 19 Fact.cells (.slice (some ⟨g,0,none⟩) m cp) (xs)) (Az 33 19 Fact.cells (.slice (some ⟨g,0,none⟩) m cp) (Rx xs a b n)) w w':=by
 obtain⟨w0,rfl,_⟩:=W0 w
 have hxl:=ho.len
 have hS:Wx.Sep (Az 33 19 Fact.cells (.slice (some ⟨g,0,none⟩) m cp) (xs)).foot w0 w0 [Az 33 19 Fact.cells (.slice (some ⟨g,0,none⟩) m cp) (xs)]:=Sep.cons ho (fun _ h=>h) (Sep.start _ _) (by simp)
 refine cT 38 func254 rfl (Ae (Ay (Af (Ah (A5 (σ:=Nat) (fun s w=>(s≤n)∧(Wx.Sep (Az 33 19 Fact.cells (.slice (some ⟨g,0,none⟩) m cp) (xs)).foot w0 w [Az 33 19 Fact.cells (.slice (some ⟨g,0,none⟩) m cp) (Rx xs a b s)])) (fun s=>[(10,.eq (vi (s:Int)))]) ([(0,.eq _),(1,.eq _),(2,.eq _),(3,.eq _)]) (fun s=>n-s) 0 ?_ tQ ?_)))))
 ·exact⟨au _,hS⟩
 rintro i w1 ⟨hin,hS⟩
 refine Ak (Ae (I rfl (I rfl (U (.l2 rfl rfl) (Af (CW.b rfl (fun h13=>?_) (fun h13=>?_)))))))
 ·refine Ai (Ac (Ak (Ah ?_)))
  have hil:i<n:=by simp at h13;omega
  have hsl:=Fv xs a b i
  obtain⟨x,hx⟩:=An (xs:=Rx xs a b i) (i:=a+i) oQ
  obtain⟨y,hy⟩:=An (xs:=Rx xs a b i) (i:=b+i) oQ
  refine Jj 21 23 [.slice (some ⟨g,0,none⟩) m cp,vi ((a:Nat):Int),vi ((i:Nat):Int),vi ((a+i:Nat):Int),.slice (some ⟨g,0,none⟩) m cp,vi ((b:Nat):Int),vi ((i:Nat):Int),vi ((b+i:Nat):Int),.slice (some ⟨g,0,none⟩) m cp,vi ((b:Nat):Int),vi ((i:Nat):Int),vi ((b+i:Nat):Int),.pointer (some ⟨g,0+(b+i)*19,none⟩),.agg (Fact.cells y),.slice (some ⟨g,0,none⟩) m cp,vi ((a:Nat):Int),vi ((i:Nat):Int),vi ((a+i:Nat):Int),.pointer (some ⟨g,0+(a+i)*19,none⟩),.agg (Fact.cells x),.pointer (some ⟨g,0+(a+i)*19,none⟩),undef,.pointer (some ⟨g,0+(b+i)*19,none⟩),undef] (fun W=>Wx.Sep (Az 33 19 Fact.cells (.slice (some ⟨g,0,none⟩) m cp) (xs)).foot w0 W [Az 33 19 Fact.cells (.slice (some ⟨g,0,none⟩) m cp) (Rx xs a b i)]) (fun W=>Wx.Sep (Az 33 19 Fact.cells (.slice (some ⟨g,0,none⟩) m cp) (xs)).foot w0 W [Az 33 19 Fact.cells (.slice (some ⟨g,0,none⟩) m cp) ((Rx xs a b i).set (a+i) y)]) (fun W=>Wx.Sep (Az 33 19 Fact.cells (.slice (some ⟨g,0,none⟩) m cp) (xs)).foot w0 W [Az 33 19 Fact.cells (.slice (some ⟨g,0,none⟩) m cp) (((Rx xs a b i).set (a+i) y).set (b+i) x)]) kQ rfl kQ kQ kQ kQ kQ kQ (hS.up (Up.drew _)) ?_ _ _ rfl rfl ⟨rfl,rfl⟩ ⟨rfl,rfl⟩ ?_ ?_ ?_
  ·refine aC (.inr ⟨rfl,.inr fun W=>PEv.mv rfl⟩) (aC (.inr ⟨rfl,.inr fun W=>PEv.mv rfl⟩) (aC (.inr ⟨rfl,.inr fun W=>PEv.mv rfl⟩) (aC (.inr ⟨rfl,.inr fun W=>PEv.addN (.t rfl) (.t rfl) oQ⟩) (aC (.inr ⟨rfl,.inr fun W=>PEv.mv rfl⟩) (aC (.inr ⟨rfl,.inr fun W=>PEv.mv rfl⟩) (aC (.inr ⟨rfl,.inr fun W=>PEv.mv rfl⟩) (aC (.inr ⟨rfl,.inr fun W=>PEv.addN (.t rfl) (.t rfl) oQ⟩) (aC (.inr ⟨rfl,.inr fun W=>PEv.mv rfl⟩) (aC (.inr ⟨rfl,.inr fun W=>PEv.mv rfl⟩) (aC (.inr ⟨rfl,.inr fun W=>PEv.mv rfl⟩) (aC (.inr ⟨rfl,.inr fun W=>PEv.addN (.t rfl) (.t rfl) oQ⟩) (aC (.inr ⟨rfl,.inr fun W=>PEv.indexAddr jv jz (.t rfl) (.t rfl) oQ⟩) (aC (.inr ⟨rfl,.inl ⟨by kernel_rfl,fun W hS=>PEv.lc rfl ((hS.own 0 rfl).at (fun _=>rfl) hy)⟩⟩) (aC (.inr ⟨rfl,.inr fun W=>PEv.mv rfl⟩) (aC (.inr ⟨rfl,.inr fun W=>PEv.mv rfl⟩) (aC (.inr ⟨rfl,.inr fun W=>PEv.mv rfl⟩) (aC (.inr ⟨rfl,.inr fun W=>PEv.addN (.t rfl) (.t rfl) oQ⟩) (aC (.inr ⟨rfl,.inr fun W=>PEv.indexAddr jv jz (.t rfl) (.t rfl) oQ⟩) (aC (.inr ⟨rfl,.inl ⟨by kernel_rfl,fun W hS=>PEv.lc rfl ((hS.own 0 rfl).at (fun _=>rfl) hx)⟩⟩) (aC (.inr ⟨rfl,.inr fun W=>PEv.indexAddr jv jz (.t rfl) (.t rfl) oQ⟩) (aC (.inl (by simp)) (aC (.inr ⟨rfl,.inr fun W=>PEv.indexAddr jv jz (.t rfl) (.t rfl) oQ⟩) (aC (.inl (by simp)) ?_)))))))))))))))))))))))
   exact allL.nil
  ·intro W hS
   exact SEv.mono (Eh (i:=a+i) (z:=y) jz (fun _=>rfl) Fact.one (.t rfl) (.t rfl) (hS.own 0 rfl) oQ) (fun _ h=>hS.F9 0 rfl h)
  ·intro W hS
   exact SEv.mono (Eh (i:=b+i) (z:=x) jz (fun _=>rfl) Fact.one (.t rfl) (.t rfl) (hS.own 0 rfl) oQ) (fun _ h=>hS.F9 0 rfl h)
  intro w2 hS
  have hS:Wx.Sep (Az 33 19 Fact.cells (.slice (some ⟨g,0,none⟩) m cp) (xs)).foot w0 w2 [Az 33 19 Fact.cells (.slice (some ⟨g,0,none⟩) m cp) (((Rx xs a b i).set (a+i) y).set (b+i) x)]:=hS
  refine Aj (Ac (Aa (I rfl (U (.ic rfl oQ) (LW.A rfl (LW.nil (Av ?_)))))))
  exact⟨i+1,⟨by omega,by rw[Rx,Uz hx hy];exact hS⟩,tQ,by omega⟩
 refine A8 (Ab (Ab (Ao (C1 rfl ⟨_,rfl,?_⟩))))
 have hin2:i=n:=by simp at h13;omega
 subst hin2
 exact⟨rfl,⟨hS.fr,hS.get 0 rfl,fun _ h=>.inl h⟩⟩
theorem aB(a mm b:Nat)(fv:Go.Value)(g m cp:Nat)(xs:List Fact)(w:World)(ho:OwnS w 0 33 19 Fact.cells (.slice (some ⟨g,0,none⟩) m cp) xs)(h63:m≤1000000000)(h1:a<mm)(h2:mm<b)(h3:b≤m):Ret prog 230 #[.slice (some ⟨g,0,none⟩) m cp,vi (a:Int),vi (mm:Int),vi (b:Int),fv] w fun r w'=>r=.tuple #[]∧Stp (Az 33 19 Fact.cells (.slice (some ⟨g,0,none⟩) m cp) (xs)) (Az 33 19 Fact.cells (.slice (some ⟨g,0,none⟩) m cp) (I0 xs a mm b)) w w':=by
 obtain⟨w0,rfl,_⟩:=W0 w
 have hxl:=ho.len
 have hS:Wx.Sep (Az 33 19 Fact.cells (.slice (some ⟨g,0,none⟩) m cp) (xs)).foot w0 w0 [Az 33 19 Fact.cells (.slice (some ⟨g,0,none⟩) m cp) (xs)]:=Sep.cons ho (fun _ h=>h) (Sep.start _ _) (by simp)
 refine cT 58 func230 rfl (Ae (I rfl (I rfl (U (.L6 (.t rfl) (.t rfl) oQ oQ) (LW.A rfl (Am (Aa (I rfl (I rfl (U (.L6 (.t rfl) (.t rfl) oQ oQ) (LW.A rfl (Am (Ah (A5 (σ:=Nat×Nat×List Fact) (fun s w=>(0<s.1∧0<s.2.1∧s.1≤mm-a∧s.2.1≤b-mm)∧(s.2.2.length=m)∧(I0 s.2.2 (mm-s.1) mm (mm+s.2.1)=I0 xs a mm b)∧(Wx.Sep (Az 33 19 Fact.cells (.slice (some ⟨g,0,none⟩) m cp) (xs)).foot w0 w [Az 33 19 Fact.cells (.slice (some ⟨g,0,none⟩) m cp) (s.2.2)])) (fun s=>[(10,.eq (vi (s.1:Int))),(11,.eq (vi (s.2.1:Int)))]) ([(0,.eq _),(2,.eq _),(4,.eq _)]) (fun s=>s.1+s.2.1) (mm-a,b-mm,xs) ?_ tQ ?_))))))))))))))
 ·exact⟨⟨by show 0<mm-a;omega,by show 0<b-mm;omega,a8 _,a8 _⟩,hxl,by rw[show mm-(mm-a)=a by omega,show mm+(b-mm)=b by omega],hS⟩
 rintro⟨i,j,ys⟩ w1 ⟨hij,hyl,hrt,hS⟩
 dsimp only at hij hyl hrt hS
 change CW _ _ _ _ _ _ _ ([(10,.eq (vi (i:Int))),(11,.eq (vi (j:Int)))]++_) _
 refine Ak (Ae (I rfl (I rfl (U (.neq (.t rfl) (.t rfl)) (Af (CW.b rfl (fun h20=>?_) (fun h20=>?_)))))))
 ·replace h20:=dQ h20
  have hne0:¬((i:Int)=j):=by simpa using h20
  have hne:i≠j:=by omega
  refine Ai (Ac (Ah (Ae (I rfl (I rfl (U (.gtr (.t rfl) (.t rfl)) (Af (CW.b rfl (fun h23=>?_) (fun h23=>?_)))))))))
  ·replace h23:=dQ h23
   refine Ae (I rfl (I rfl (I rfl (U (.L6 (.t rfl) (.t rfl) oQ oQ) (I rfl (I rfl (I rfl (A3 (eC (.ct rfl (.ct rfl (.ct rfl (.ct rfl (.cu rfl))))) (iP)) rfl (Iy (mm-i) mm j _ g m cp ys _ (hS.own 0 rfl) h63 oQ oQ) ?_))))))))
   rintro _ w2 ⟨rfl,uw2⟩
   replace hS:=hS.F9 0 rfl uw2
   refine Af (Aa (I rfl (I rfl (U (.L6 (.t rfl) (.t rfl) oQ oQ) (LW.A rfl (LW.nil (Aj (Av ?_))))))))
   exact⟨(i-j,j,Rx ys (mm-i) mm j),⟨⟨by show 0<i-j;omega,by show 0<j;omega,by show i-j≤mm-a;omega,by show j≤b-mm;omega⟩,by rw[Fv];exact hyl,by rw[←hrt];exact oD oQ oQ oQ oQ,hS⟩,tQ,by(dsimp only;omega)⟩
  replace h23:=dQ h23
  refine Ae (I rfl (I rfl (I rfl (U (.L6 (.t rfl) (.t rfl) oQ oQ) (I rfl (I rfl (U (.addN (.t rfl) (.t rfl) oQ) (I rfl (U (.L6 (.t rfl) (.t rfl) oQ oQ) (I rfl (I rfl (A3 (eC (.ct rfl (.ct rfl (.ct rfl (.ct rfl (.cu rfl))))) (iP)) rfl (Iy (mm-i) (mm+j-i) i _ g m cp ys _ (hS.own 0 rfl) h63 oQ oQ) ?_))))))))))))
  rintro _ w3 ⟨rfl,uw3⟩
  replace hS:=hS.F9 0 rfl uw3
  refine Af (Aa (I rfl (I rfl (U (.L6 (.t rfl) (.t rfl) oQ oQ) (LW.A rfl (LW.nil (Aj (Av ?_))))))))
  exact⟨(i,j-i,Rx ys (mm-i) (mm+j-i) i),⟨⟨by show 0<i;omega,by show 0<j-i;omega,by show i≤mm-a;omega,by show j-i≤b-mm;omega⟩,by rw[Fv];exact hyl,by rw[←hrt];exact eZ oQ oQ oQ oQ,hS⟩,tQ,by(dsimp only;omega)⟩
 replace h20:=dQ h20
 have heq0:((i:Int)=j):=by simpa using h20
 have heq:i=j:=by omega
 subst heq
 refine A8 (Ab (Ab (Ao (Ac (Aa (I rfl (I rfl (I rfl (U (.L6 (.t rfl) (.t rfl) oQ oQ) (I rfl (I rfl (I rfl (A3 (eC (.ct rfl (.ct rfl (.ct rfl (.ct rfl (.cu rfl))))) (iP)) rfl (Iy (mm-i) mm i _ g m cp ys _ (hS.own 0 rfl) h63 oQ oQ) ?_)))))))))))))
 rintro _ w4 ⟨rfl,uw4⟩
 replace hS:=hS.F9 0 rfl uw4
 refine LW.nil (C1 rfl ⟨_,rfl,?_⟩)
 rw[jZ oQ oQ,hrt]at hS
 exact⟨rfl,⟨hS.fr,hS.get 0 rfl,fun _ h=>.inl h⟩⟩
theorem Lu(a b:Nat)(cf:Nat)(lb:Array Go.Value)(key:Fact→K2)(hen:∀args w,(callFunc cf args).run prog w=.ok (.enter cf args) w)(g m cp:Nat)(xs:List Fact)(w:World)(ho:OwnS w 0 33 19 Fact.cells (.slice (some ⟨g,0,none⟩) m cp) xs)(h63:m≤1000000000)(hcmp:∀W,Fr (Az 33 19 Fact.cells (.slice (some ⟨g,0,none⟩) m cp) (xs)).foot w W→∀x y,Ret prog cf (#[.agg (Fact.cells x),.agg (Fact.cells y)]++lb) W fun r W'=>r=vi (Z6 (key x) (key y))∧Up W W')(h1:a≤b)(h2:b≤m):Ret prog 185 #[.slice (some ⟨g,0,none⟩) m cp,vi (a:Int),vi (b:Int),.func (.func cf) #[] lb] w fun r w'=>r=.tuple #[]∧∃zs,StS key (Cw xs a b) zs∧Stp (Az 33 19 Fact.cells (.slice (some ⟨g,0,none⟩) m cp) (xs)) (Az 33 19 Fact.cells (.slice (some ⟨g,0,none⟩) m cp) (Ey xs a b zs)) w w':=by
 obtain⟨w0,rfl,_⟩:=W0 w
 have hxl:=ho.len
 have hS:Wx.Sep (Az 33 19 Fact.cells (.slice (some ⟨g,0,none⟩) m cp) (xs)).foot w0 w0 [Az 33 19 Fact.cells (.slice (some ⟨g,0,none⟩) m cp) (xs)]:=Sep.cons ho (fun _ h=>h) (Sep.start _ _) (by simp)
 refine cT 53 func185 rfl (Ae (I rfl (U (.ic rfl oQ) (LW.A rfl (Af (Ah (A5 (σ:=Nat×List Fact) (fun s w=>(a+1≤s.1∧(s.1≤b∨s.1=a+1))∧(StS key (Cw xs a (min s.1 b)) s.2)∧(Wx.Sep (Az 33 19 Fact.cells (.slice (some ⟨g,0,none⟩) m cp) (xs)).foot w0 w [Az 33 19 Fact.cells (.slice (some ⟨g,0,none⟩) m cp) (Ey xs a (min s.1 b) s.2)])) (fun s=>[(8,.eq (vi (s.1:Int)))]) ([(0,.eq _),(1,.eq _),(2,.eq _),(3,.eq _)]) (fun s=>b-s.1) (a+1,Cw xs a (min (a+1) b)) ?_ tQ ?_)))))))
 ·exact⟨⟨a8 _,.inr rfl⟩,StS.refl (oF (by rw[Cg (by omega)];omega)),by rw[Gq oQ (by omega)];exact hS⟩
 rintro⟨i,zs⟩ w1 ⟨hi,hz,hS⟩
 dsimp only at hi hz hS
 change CW _ _ _ _ _ _ _ ([(8,.eq (vi (i:Int)))]++_) _
 refine Ak (Ae (I rfl (I rfl (U (.l2 rfl rfl) (Af (CW.b rfl (fun h14=>?_) (fun h14=>?_)))))))
 ·refine Ai (Ac (Ak (Ah (Ak ?_))))
  have hib:i<b:=by simp at h14;omega
  rw[c7 (by omega)]at hz hS
  have hzl:zs.length=i-a:=by rw[hz.same.length,Cg (by omega)]
  obtain⟨x,hx⟩:=An (xs:=xs) (i:=i) oQ
  refine Aa (I rfl (LW.A rfl (Af (Ah (A5 (σ:=Nat) (fun s w=>(a≤s∧s≤i)∧(∀y∈zs.drop (s-a),Hc (key x) (key y)=true)∧(Wx.Sep (Az 33 19 Fact.cells (.slice (some ⟨g,0,none⟩) m cp) (xs)).foot w0 w [Az 33 19 Fact.cells (.slice (some ⟨g,0,none⟩) m cp) (Ey xs a (i+1) (Cx zs x (s-a)))])) (fun s=>[(9,.eq (vi (s:Int)))]) ([(0,.eq _),(1,.eq _),(2,.eq _),(3,.eq _),(8,.eq _)]) (fun s=>s) i ?_ tQ ?_)))))
  ·exact⟨⟨by omega,a8 _⟩,by rw[gz (by omega)];simp,by rw[←hzl,Tk,Wu oQ hx hzl];exact hS⟩
  rintro j w2 ⟨hj,hgt,hS⟩
  refine Ak (Ak ?_)
  skip
  cases hq4:decide (a<j)with
  |true=>
   have haj:=bw hq4
   obtain⟨y,hy⟩:=An (xs:=zs) (i:=j-a-1) oQ
   have hjx:(Ey xs a (i+1) (Cx zs x (j-a)))[j]?=some x:=by have:=Wv (xs:=xs) (a:=a) (b:=i+1) (zs:=zs) (x:=x) (p:=j-a) oQ oQ oQ (by omega);rwa [show a+(j-a)=j by omega]at this
   have hjy:(Ey xs a (i+1) (Cx zs x (j-a)))[j-1]?=some y:=by have:=Mg (xs:=xs) (a:=a) (b:=i+1) (zs:=zs) (x:=x) (p:=j-a) (q:=j-a-1) oQ oQ oQ oQ (by omega);rw[show a+(j-a-1)=j-1 by omega]at this;exact this.trans hy
   refine C7 kQ kQ rfl rfl (J (.mv rfl) (J (.mv rfl) (J (.tr (PEv.gtr (.t rfl) (.t rfl)) (be oQ)) (J (.mv rfl) (Cv (.mv rfl) (Cv (.mv rfl) (Cv (.mv rfl) (Cv (.indexAddr jv jz (.t rfl) (.t rfl) oQ) (Cv (.lc rfl ((hS.own 0 rfl).at (fun _=>rfl) hjx)) (Cv (.mv rfl) (Cv (.mv rfl) (Cv (.dec (.t rfl) oQ oQ) (Cv (.indexAddr jv jz (.t rfl) (.t rfl) oQ) (Cv (.lc rfl ((hS.own 0 rfl).at (fun _=>rfl) hjy)) (qA rfl rfl rfl rfl rfl (fun a w _ ha=>Cr (.t rfl) (.ct rfl (.cu rfl)) (hen) a ha) rfl (fun w hu=>hcmp w (hS.fr.trans (hu.fr _)) x y) (Cv (.lss (.t rfl) (.const _)) (J (.pa rfl (fun hp=>(by exact .tmp rfl))) (HW.nil ?_))))))))))))))))))
   intro w3 uw3
   replace hS:=hS.up uw3
   refine Ac (CW.b rfl (fun h34=>?_) (fun h34=>?_))
   ·refine Ai (Ac (Ak (Ah (Jj 15 17 [.slice (some ⟨g,0,none⟩) m cp,vi ((j:Nat):Int),.slice (some ⟨g,0,none⟩) m cp,vi ((j:Nat):Int),vi ((j-1:Nat):Int),.slice (some ⟨g,0,none⟩) m cp,vi ((j:Nat):Int),vi ((j-1:Nat):Int),.pointer (some ⟨g,0+(j-1)*19,none⟩),.agg (Fact.cells y),.slice (some ⟨g,0,none⟩) m cp,vi ((j:Nat):Int),.pointer (some ⟨g,0+(j)*19,none⟩),.agg (Fact.cells x),.pointer (some ⟨g,0+(j)*19,none⟩),undef,.pointer (some ⟨g,0+(j-1)*19,none⟩),undef] (fun W=>Wx.Sep (Az 33 19 Fact.cells (.slice (some ⟨g,0,none⟩) m cp) (xs)).foot w0 W [Az 33 19 Fact.cells (.slice (some ⟨g,0,none⟩) m cp) (Ey xs a (i+1) (Cx zs x (j-a)))]) (fun W=>Wx.Sep (Az 33 19 Fact.cells (.slice (some ⟨g,0,none⟩) m cp) (xs)).foot w0 W [Az 33 19 Fact.cells (.slice (some ⟨g,0,none⟩) m cp) ((Ey xs a (i+1) (Cx zs x (j-a))).set (j) y)]) (fun W=>Wx.Sep (Az 33 19 Fact.cells (.slice (some ⟨g,0,none⟩) m cp) (xs)).foot w0 W [Az 33 19 Fact.cells (.slice (some ⟨g,0,none⟩) m cp) (((Ey xs a (i+1) (Cx zs x (j-a))).set (j) y).set (j-1) x)]) kQ rfl kQ kQ kQ kQ kQ kQ (hS.up (Up.drew _)) ?_ _ _ rfl rfl ⟨rfl,rfl⟩ ⟨rfl,rfl⟩ ?_ ?_ ?_))))
    ·refine aC (.inr ⟨rfl,.inr fun W=>PEv.mv rfl⟩) (aC (.inr ⟨rfl,.inr fun W=>PEv.mv rfl⟩) (aC (.inr ⟨rfl,.inr fun W=>PEv.mv rfl⟩) (aC (.inr ⟨rfl,.inr fun W=>PEv.mv rfl⟩) (aC (.inr ⟨rfl,.inr fun W=>PEv.dec (.t rfl) oQ oQ⟩) (aC (.inr ⟨rfl,.inr fun W=>PEv.mv rfl⟩) (aC (.inr ⟨rfl,.inr fun W=>PEv.mv rfl⟩) (aC (.inr ⟨rfl,.inr fun W=>PEv.dec (.t rfl) oQ oQ⟩) (aC (.inr ⟨rfl,.inr fun W=>PEv.indexAddr jv jz (.t rfl) (.t rfl) oQ⟩) (aC (.inr ⟨rfl,.inl ⟨by kernel_rfl,fun W hS=>PEv.lc rfl ((hS.own 0 rfl).at (fun _=>rfl) hjy)⟩⟩) (aC (.inr ⟨rfl,.inr fun W=>PEv.mv rfl⟩) (aC (.inr ⟨rfl,.inr fun W=>PEv.mv rfl⟩) (aC (.inr ⟨rfl,.inr fun W=>PEv.indexAddr jv jz (.t rfl) (.t rfl) oQ⟩) (aC (.inr ⟨rfl,.inl ⟨by kernel_rfl,fun W hS=>PEv.lc rfl ((hS.own 0 rfl).at (fun _=>rfl) hjx)⟩⟩) (aC (.inr ⟨rfl,.inr fun W=>PEv.indexAddr jv jz (.t rfl) (.t rfl) oQ⟩) (aC (.inl (by simp)) (aC (.inr ⟨rfl,.inr fun W=>PEv.indexAddr jv jz (.t rfl) (.t rfl) oQ⟩) (aC (.inl (by simp)) ?_)))))))))))))))))
     exact allL.nil
    ·intro W hS
     exact SEv.mono (Eh (i:=j) (z:=y) jz (fun _=>rfl) Fact.one (.t rfl) (.t rfl) (hS.own 0 rfl) oQ) (fun _ h=>hS.F9 0 rfl h)
    ·intro W hS
     exact SEv.mono (Eh (i:=j-1) (z:=x) jz (fun _=>rfl) Fact.one (.t rfl) (.t rfl) (hS.own 0 rfl) oQ) (fun _ h=>hS.F9 0 rfl h)
    intro w4 hS
    have hS:Wx.Sep (Az 33 19 Fact.cells (.slice (some ⟨g,0,none⟩) m cp) (xs)).foot w0 w4 [Az 33 19 Fact.cells (.slice (some ⟨g,0,none⟩) m cp) (((Ey xs a (i+1) (Cx zs x (j-a))).set (j) y).set (j-1) x)]:=hS
    refine Aj (Ac (Aa (I rfl (U (.dec (.t rfl) oQ oQ) (LW.A rfl (LW.nil (Av ?_)))))))
    exact⟨j-1,⟨⟨by omega,by omega⟩,by rw[show j-1-a=j-a-1 by omega];exact fD oQ hy hgt (by rw[←He];simpa using h34),by have:=Ww (xs:=xs) (a:=a) (b:=i+1) (x:=x) (p:=j-a-1) (y:=y) oQ oQ oQ oQ hy;rw[show j-a-1+1=j-a by omega,show a+(j-a)=j by omega,show a+(j-a-1)=j-1 by omega]at this;rw[show j-1-a=j-a-1 by omega,←this];exact hS⟩,tQ,by omega⟩
   refine A8 (Ab (Ab (Ao (Aj (Ac (Aa (I rfl (U (.ic rfl oQ) (LW.A rfl (LW.nil (Av ?_)))))))))))
   exact⟨(i+1,Cx zs x (j-a)),⟨⟨by omega,by omega⟩,by rw[c7 oQ,Kl oQ hx];exact hz.snoc oQ hgt (.inr ⟨y,hy,by rw[←He];simpa using h34⟩),by rw[c7 (by omega)];exact hS⟩,tQ,by omega⟩
  |false=>
   refine C7 kQ kQ rfl rfl (J (.mv rfl) (J (.mv rfl) (J (.fa (PEv.gtr (.t rfl) (.t rfl)) (bn (by have:=cc hq4;omega))) (J (.mv rfl) (Dq (Dq (Dq (Dq (Dq (Dq (Dq (Dq (Dq (Dq (Dq (Dq (J (.C0 (b:=false) (.t rfl) (fun hp=>absurd (show false=true from hp) cQ)) (HW.nil ?_))))))))))))))))))
   intro w5 uw5
   replace hS:=hS.up uw5
   refine Ac (CW.f rfl (A8 (Ab (Ab (Ao (Aj (Ac (Aa (I rfl (U (.ic rfl oQ) (LW.A rfl (LW.nil (Av ?_)))))))))))))
   exact⟨(i+1,Cx zs x (j-a)),⟨⟨by omega,by omega⟩,by rw[c7 oQ,Kl oQ hx];exact hz.snoc oQ hgt (.inl (by have:=cc hq4;omega)),by rw[c7 (by omega)];exact hS⟩,tQ,by omega⟩
 refine A8 (Ab (Ab (Ao (C1 rfl ⟨_,rfl,?_⟩))))
 have hbi:min i b=b:=by simp at h14;omega
 rw[hbi]at hz hS
 exact⟨rfl,zs,hz,⟨hS.fr,hS.get 0 rfl,fun _ h=>.inl h⟩⟩
set_option maxHeartbeats 8000000 in
theorem Nb(cf:Nat)(lb:Array Go.Value)(key:Fact→K2)(hen:∀args w,(callFunc cf args).run prog w=.ok (.enter cf args) w)(g m cp:Nat)(h63:m≤1000000000):∀(N a mm b:Nat)(xs:List Fact)(w:World),b-a≤N→OwnS w 0 33 19 Fact.cells (.slice (some ⟨g,0,none⟩) m cp) xs→(∀W,Fr (Az 33 19 Fact.cells (.slice (some ⟨g,0,none⟩) m cp) (xs)).foot w W→∀x y,Ret prog cf (#[.agg (Fact.cells x),.agg (Fact.cells y)]++lb) W fun r W'=>r=vi (Z6 (key x) (key y))∧Up W W')→a<mm→mm<b→b≤m→Iv key (Cw xs a mm)→Iv key (Cw xs mm b)→
   Ret prog 186 #[.slice (some ⟨g,0,none⟩) m cp,vi (a:Int),vi (mm:Int),vi (b:Int),.func (.func cf) #[] lb] w fun r w'=>r=.tuple #[]∧∃zs,StS key (Cw xs a b) zs∧Stp (Az 33 19 Fact.cells (.slice (some ⟨g,0,none⟩) m cp) (xs)) (Az 33 19 Fact.cells (.slice (some ⟨g,0,none⟩) m cp) (Ey xs a b zs)) w w':=by
 intro N
 induction N with
 |zero=>intro a mm b xs w hN _ _ h1 h2;omega
 |succ N ih=>
 intro a mm b xs w hN ho hcmp h1 h2 h3 hsA hsB
 obtain⟨w0,rfl,_⟩:=W0 w
 have hxl:=ho.len
 have hS:Wx.Sep (Az 33 19 Fact.cells (.slice (some ⟨g,0,none⟩) m cp) (xs)).foot w0 w0 [Az 33 19 Fact.cells (.slice (some ⟨g,0,none⟩) m cp) (xs)]:=Sep.cons ho (fun _ h=>h) (Sep.start _ _) (by simp)
 refine cT 220 func186 rfl (Ak (Ak ?_))
 cases hq0:decide (mm-a=1)with
 |true=>
  have hq0:=bw hq0
  obtain rfl:mm=a+1:=by omega
  obtain⟨x,hx⟩:=An (xs:=xs) (i:=a) oQ
  refine Aa (I rfl (I rfl (U (.L6 (.t rfl) (.t rfl) oQ oQ) (U (.tr (PEv.eql (.t rfl) (.const _)) (be oQ)) (Af (CW.v rfl (Ae (I rfl (LW.A rfl (Am (Aa (I rfl (LW.A rfl (Am (Ah (A5 (σ:=Nat×Nat) (fun s w=>(a+1≤s.1∧s.1≤s.2∧s.2≤b)∧(∀q y,a+1≤q→q<s.1→xs[q]?=some y→Hc (key y) (key x)=true)∧(∀q y,s.2≤q→q<b→xs[q]?=some y→Hc (key y) (key x)=false)∧(Wx.Sep (Az 33 19 Fact.cells (.slice (some ⟨g,0,none⟩) m cp) (xs)).foot w0 w [Az 33 19 Fact.cells (.slice (some ⟨g,0,none⟩) m cp) (xs)])) (fun s=>[(10,.eq (vi (s.1:Int))),(11,.eq (vi (s.2:Int)))]) ([(0,.eq _),(1,.eq _),(2,.eq _),(3,.eq _),(4,.eq _)]) (fun s=>s.2-s.1) (a+1,b) ?_ tQ ?_))))))))))))))))
  ·exact⟨⟨a8 _,by show a+1≤b;omega,a8 _⟩,fun q y h1 h2=>absurd (show q<a+1 from h2) oQ,fun q y h1 h2=>absurd (show b≤q from h1) oQ,hS⟩
  rintro⟨i,j⟩ w1 ⟨hij,hL,hR,hS⟩
  dsimp only at hij hL hR hS
  change CW _ _ _ _ _ _ _ ([(10,.eq (vi (i:Int))),(11,.eq (vi (j:Int)))]++_) _
  refine Ak (Ae (I rfl (I rfl (U (.l2 rfl rfl) (Af (CW.b rfl (fun h33=>?_) (fun h33=>?_)))))))
  ·replace h33:=dQ h33
   refine Ai (Ac (Ah (Ae (I rfl (I rfl (U (.addN (.t rfl) (.t rfl) oQ) (U (.val (v':=vu (i+j)) (PEv.conv (k':=.u64) (by rw[jy];rfl) ki (.t rfl)) (Pr oQ)) (U (.val (v':=vu ((i+j)/2)) (PEv.S2 (j:=1) (.t rfl) (.const _)) Na) (U (.val (v':=vi (((i+j)/2:Nat):Int)) (PEv.conv (k':=.i64) (by rw[ki];rfl) jy (.t rfl)) (Ps oQ)) (LW.A rfl (Am ?_)))))))))))
   have hlt:i<j:=by simp at h33;omega
   obtain⟨y,hy⟩:=An (xs:=xs) (i:=(i+j)/2) oQ
   refine C7 kQ kQ rfl rfl (J (.mv rfl) (J (.mv rfl) (J (.mv rfl) (J (.indexAddr jv jz (.t rfl) (.t rfl) oQ) (J (.lc rfl ((hS.own 0 rfl).at (fun _=>rfl) hy)) (J (.mv rfl) (J (.mv rfl) (J (.indexAddr jv jz (.t rfl) (.t rfl) oQ) (J (.lc rfl ((hS.own 0 rfl).at (fun _=>rfl) hx)) (HW.c (fun a w _ ha=>Cr (.t rfl) (.ct rfl (.cu rfl)) (hen) a ha) rfl rfl (fun w hu=>hcmp w (hS.fr.trans (hu.fr _)) y x) (J (.lss (.t rfl) (.const _)) (HW.nil ?_))))))))))))
   intro w2 uw2
   replace hS:=hS.up uw2
   refine Ac (CW.b rfl (fun h50=>?_) (fun h50=>?_))
   ·replace h50:=dQ h50
    refine Aa (I rfl (U (.ic rfl oQ) (LW.A rfl (LW.nil (Aj (Av ?_))))))
    exact⟨((i+j)/2+1,j),⟨⟨by show a+1≤(i+j)/2+1;omega,by show(i+j)/2+1≤j;omega,by show j≤b;omega⟩,fun q z q1 q2 hz=>bT (Ij hsB q1 (show q≤(i+j)/2 from Nat.le_of_lt_succ q2) oQ hz hy) (by rw[←He];exact be h50),hR,hS⟩,tQ,by omega⟩
   replace h50:=dQ h50
   refine Aa (I rfl (LW.A rfl (LW.nil (Aj (Av ?_)))))
   exact⟨(i,(i+j)/2),⟨⟨by show a+1≤i;omega,by show i≤(i+j)/2;omega,by show(i+j)/2≤b;omega⟩,hL,fun q z q1 q2 hz=>I4 (by rw[←He];exact bn h50) (Ij hsB oQ (show(i+j)/2≤q from q1) q2 hy hz),hS⟩,tQ,by omega⟩
  replace h33:=dQ h33
  refine A8 (Ab (Ab (Ao (Ac (Ak (Ak ?_))))))
  have hij2:i=j:=by simp at h33;omega
  have hzl:(Cw xs (a+1) b).length=b-(a+1):=Cg oQ
  have hsx:x::Cw xs (a+1) b=Cw xs a b:=(kM hx oQ oQ).symm
  refine Aa (I rfl (LW.A rfl (Af (Ah (A5 (σ:=Nat) (fun s w=>(a≤s∧s≤i-1)∧(Wx.Sep (Az 33 19 Fact.cells (.slice (some ⟨g,0,none⟩) m cp) (xs)).foot w0 w [Az 33 19 Fact.cells (.slice (some ⟨g,0,none⟩) m cp) (Ey xs a b (Cx (Cw xs (a+1) b) x (s-a)))])) (fun s=>[(13,.eq (vi (s:Int)))]) ([(0,.eq _),(1,.eq _),(2,.eq _),(3,.eq _),(4,.eq _),(10,.eq _)]) (fun s=>i-s) a ?_ tQ ?_)))))
  ·exact⟨⟨a8 _,by omega⟩,by rw[Nat.sub_self,Wt,hsx,Gq oQ (by omega)];exact hS⟩
  rintro k w3 ⟨hk,hS⟩
  refine Ak (Ae (I rfl (I rfl (U (.dec (.t rfl) oQ oQ) (U (.l2 rfl rfl) (Af (CW.b rfl (fun h58=>?_) (fun h58=>?_))))))))
  ·replace h58:=dQ h58
   refine Ai (Ac (Ak (Ah ?_)))
   have hki:k<i-1:=by simp at h58;omega
   obtain⟨y,hy⟩:=An (xs:=Cw xs (a+1) b) (i:=k-a) oQ
   have hrl:(Ey xs a b (Cx (Cw xs (a+1) b) x (k-a))).length=m:=by rw[Di oQ oQ (by rw[Dz];omega)];exact hxl
   have hkx:(Ey xs a b (Cx (Cw xs (a+1) b) x (k-a)))[k]?=some x:=by have:=Wv (xs:=xs) (a:=a) (b:=b) (zs:=Cw xs (a+1) b) (x:=x) (p:=k-a) oQ oQ oQ (by omega);rwa [show a+(k-a)=k by omega]at this
   have hky:(Ey xs a b (Cx (Cw xs (a+1) b) x (k-a)))[k+1]?=some y:=by have:=Qq (xs:=xs) (a:=a) (b:=b) (zs:=Cw xs (a+1) b) (x:=x) (p:=k-a) (q:=k-a+1) oQ oQ oQ oQ (by omega);rw[show a+(k-a+1)=k+1 by omega]at this;exact this.trans hy
   refine Jj 15 17 [.slice (some ⟨g,0,none⟩) m cp,vi ((k:Nat):Int),.slice (some ⟨g,0,none⟩) m cp,vi ((k:Nat):Int),vi ((k+1:Nat):Int),.slice (some ⟨g,0,none⟩) m cp,vi ((k:Nat):Int),vi ((k+1:Nat):Int),.pointer (some ⟨g,0+(k+1)*19,none⟩),.agg (Fact.cells y),.slice (some ⟨g,0,none⟩) m cp,vi ((k:Nat):Int),.pointer (some ⟨g,0+(k)*19,none⟩),.agg (Fact.cells x),.pointer (some ⟨g,0+(k)*19,none⟩),undef,.pointer (some ⟨g,0+(k+1)*19,none⟩),undef] (fun W=>Wx.Sep (Az 33 19 Fact.cells (.slice (some ⟨g,0,none⟩) m cp) (xs)).foot w0 W [Az 33 19 Fact.cells (.slice (some ⟨g,0,none⟩) m cp) (Ey xs a b (Cx (Cw xs (a+1) b) x (k-a)))]) (fun W=>Wx.Sep (Az 33 19 Fact.cells (.slice (some ⟨g,0,none⟩) m cp) (xs)).foot w0 W [Az 33 19 Fact.cells (.slice (some ⟨g,0,none⟩) m cp) ((Ey xs a b (Cx (Cw xs (a+1) b) x (k-a))).set (k) y)]) (fun W=>Wx.Sep (Az 33 19 Fact.cells (.slice (some ⟨g,0,none⟩) m cp) (xs)).foot w0 W [Az 33 19 Fact.cells (.slice (some ⟨g,0,none⟩) m cp) (((Ey xs a b (Cx (Cw xs (a+1) b) x (k-a))).set (k) y).set (k+1) x)]) kQ rfl kQ kQ kQ kQ kQ kQ (hS.up (Up.drew _)) ?_ _ _ rfl rfl ⟨rfl,rfl⟩ ⟨rfl,rfl⟩ ?_ ?_ ?_
   ·refine aC (.inr ⟨rfl,.inr fun W=>PEv.mv rfl⟩) (aC (.inr ⟨rfl,.inr fun W=>PEv.mv rfl⟩) (aC (.inr ⟨rfl,.inr fun W=>PEv.mv rfl⟩) (aC (.inr ⟨rfl,.inr fun W=>PEv.mv rfl⟩) (aC (.inr ⟨rfl,.inr fun W=>PEv.ic rfl oQ⟩) (aC (.inr ⟨rfl,.inr fun W=>PEv.mv rfl⟩) (aC (.inr ⟨rfl,.inr fun W=>PEv.mv rfl⟩) (aC (.inr ⟨rfl,.inr fun W=>PEv.ic rfl oQ⟩) (aC (.inr ⟨rfl,.inr fun W=>PEv.indexAddr jv jz (.t rfl) (.t rfl) oQ⟩) (aC (.inr ⟨rfl,.inl ⟨by kernel_rfl,fun W hS=>PEv.lc rfl ((hS.own 0 rfl).at (fun _=>rfl) hky)⟩⟩) (aC (.inr ⟨rfl,.inr fun W=>PEv.mv rfl⟩) (aC (.inr ⟨rfl,.inr fun W=>PEv.mv rfl⟩) (aC (.inr ⟨rfl,.inr fun W=>PEv.indexAddr jv jz (.t rfl) (.t rfl) oQ⟩) (aC (.inr ⟨rfl,.inl ⟨by kernel_rfl,fun W hS=>PEv.lc rfl ((hS.own 0 rfl).at (fun _=>rfl) hkx)⟩⟩) (aC (.inr ⟨rfl,.inr fun W=>PEv.indexAddr jv jz (.t rfl) (.t rfl) oQ⟩) (aC (.inl (by simp)) (aC (.inr ⟨rfl,.inr fun W=>PEv.indexAddr jv jz (.t rfl) (.t rfl) oQ⟩) (aC (.inl (by simp)) ?_)))))))))))))))))
    exact allL.nil
   ·intro W hS
    exact SEv.mono (Eh (i:=k) (z:=y) jz (fun _=>rfl) Fact.one (.t rfl) (.t rfl) (hS.own 0 rfl) oQ) (fun _ h=>hS.F9 0 rfl h)
   ·intro W hS
    exact SEv.mono (Eh (i:=k+1) (z:=x) jz (fun _=>rfl) Fact.one (.t rfl) (.t rfl) (hS.own 0 rfl) oQ) (fun _ h=>hS.F9 0 rfl h)
   intro w4 hS
   have hS:Wx.Sep (Az 33 19 Fact.cells (.slice (some ⟨g,0,none⟩) m cp) (xs)).foot w0 w4 [Az 33 19 Fact.cells (.slice (some ⟨g,0,none⟩) m cp) (((Ey xs a b (Cx (Cw xs (a+1) b) x (k-a))).set (k) y).set (k+1) x)]:=hS
   refine Aj (Ac (Aa (I rfl (U (.ic rfl oQ) (LW.A rfl (LW.nil (Av ?_)))))))
   exact⟨k+1,⟨⟨by omega,by omega⟩,by have:=sM (xs:=xs) (a:=a) (b:=b) (x:=x) (p:=k-a) (y:=y) oQ oQ oQ oQ hy;rw[show a+(k-a)=k by omega,show a+(k-a+1)=k+1 by omega]at this;rw[show k+1-a=k-a+1 by omega,←this];exact hS⟩,tQ,by omega⟩
  replace h58:=dQ h58
  refine A8 (Ab (Ab (Ao (Ac (Al (Au (Fm rfl ⟨_,rfl,?_⟩)))))))
  have hk2:k-a=i-(a+1):=by simp at h58;omega
  rw[hk2]at hS
  exact⟨rfl,_,oH oQ hx oQ oQ hsB hL (by rw[hij2];exact hR),⟨hS.fr,hS.get 0 rfl,fun _ h=>.inl h⟩⟩
 |false=>
  have hq0:=cc hq0
  refine Aa (I rfl (I rfl (U (.L6 (.t rfl) (.t rfl) oQ oQ) (U (.fa (PEv.eql (.t rfl) (.const _)) (bn oQ)) (Af (CW.f rfl (Ai (Ac (Ak (Ak ?_))))))))))
  cases hq12:decide (b-mm=1)with
  |true=>
   have hq12:=bw hq12
   obtain rfl:b=mm+1:=by omega
   obtain⟨x,hx⟩:=An (xs:=xs) (i:=mm) oQ
   refine Aa (I rfl (I rfl (U (.L6 (.t rfl) (.t rfl) oQ oQ) (U (.tr (PEv.eql (.t rfl) (.const _)) (be oQ)) (Af (CW.v rfl (Ae (I rfl (LW.A rfl (Am (Aa (I rfl (LW.A rfl (Am (Ah (A5 (σ:=Nat×Nat) (fun s w=>(a≤s.1∧s.1≤s.2∧s.2≤mm)∧(∀q y,a≤q→q<s.1→xs[q]?=some y→Hc (key x) (key y)=false)∧(∀q y,s.2≤q→q<mm→xs[q]?=some y→Hc (key x) (key y)=true)∧(Wx.Sep (Az 33 19 Fact.cells (.slice (some ⟨g,0,none⟩) m cp) (xs)).foot w0 w [Az 33 19 Fact.cells (.slice (some ⟨g,0,none⟩) m cp) (xs)])) (fun s=>[(14,.eq (vi (s.1:Int))),(15,.eq (vi (s.2:Int)))]) ([(0,.eq _),(1,.eq _),(2,.eq _),(3,.eq _),(4,.eq _)]) (fun s=>s.2-s.1) (a,mm) ?_ tQ ?_))))))))))))))))
   ·exact⟨⟨a8 _,by show a≤mm;omega,a8 _⟩,fun q y h1 h2=>absurd (show q<a from h2) oQ,fun q y h1 h2=>absurd (show mm≤q from h1) oQ,hS⟩
   rintro⟨i,j⟩ w5 ⟨hij,hL,hR,hS⟩
   dsimp only at hij hL hR hS
   change CW _ _ _ _ _ _ _ ([(14,.eq (vi (i:Int))),(15,.eq (vi (j:Int)))]++_) _
   refine Ak (Ae (I rfl (I rfl (U (.l2 rfl rfl) (Af (CW.b rfl (fun h85=>?_) (fun h85=>?_)))))))
   ·refine Ai (Ac (Ah (Ae (I rfl (I rfl (U (.addN (.t rfl) (.t rfl) oQ) (U (.val (v':=vu (i+j)) (PEv.conv (k':=.u64) (by rw[jy];rfl) ki (.t rfl)) (Pr oQ)) (U (.val (v':=vu ((i+j)/2)) (PEv.S2 (j:=1) (.t rfl) (.const _)) Na) (U (.val (v':=vi (((i+j)/2:Nat):Int)) (PEv.conv (k':=.i64) (by rw[ki];rfl) jy (.t rfl)) (Ps oQ)) (LW.A rfl (Am ?_)))))))))))
    have hlt:i<j:=by simp at h85;omega
    obtain⟨y,hy⟩:=An (xs:=xs) (i:=(i+j)/2) oQ
    refine C7 kQ kQ rfl rfl (J (.mv rfl) (J (.mv rfl) (J (.mv rfl) (J (.indexAddr jv jz (.t rfl) (.t rfl) oQ) (J (.lc rfl ((hS.own 0 rfl).at (fun _=>rfl) hx)) (J (.mv rfl) (J (.mv rfl) (J (.indexAddr jv jz (.t rfl) (.t rfl) oQ) (J (.lc rfl ((hS.own 0 rfl).at (fun _=>rfl) hy)) (HW.c (fun a w _ ha=>Cr (.t rfl) (.ct rfl (.cu rfl)) (hen) a ha) rfl rfl (fun w hu=>hcmp w (hS.fr.trans (hu.fr _)) x y) (J (.lss (.t rfl) (.const _)) (J (.n1 rfl) (HW.nil ?_)))))))))))))
    intro w6 uw6
    replace hS:=hS.up uw6
    refine Ac (CW.b rfl (fun h103=>?_) (fun h103=>?_))
    ·refine Aa (I rfl (U (.ic rfl oQ) (LW.A rfl (LW.nil (Aj (Av ?_))))))
     exact⟨((i+j)/2+1,j),⟨⟨by show a≤(i+j)/2+1;omega,by show(i+j)/2+1≤j;omega,by show j≤mm;omega⟩,fun q z q1 q2 hz=>I4 (Ij hsA q1 (show q≤(i+j)/2 from Nat.le_of_lt_succ q2) oQ hz hy) (by rw[←He];simpa using h103),hR,hS⟩,tQ,by omega⟩
    refine Aa (I rfl (LW.A rfl (LW.nil (Aj (Av ?_)))))
    exact⟨(i,(i+j)/2),⟨⟨by show a≤i;omega,by show i≤(i+j)/2;omega,by show(i+j)/2≤mm;omega⟩,hL,fun q z q1 q2 hz=>Uq (by rw[←He];simpa using h103) (Ij hsA oQ (show(i+j)/2≤q from q1) q2 hy hz),hS⟩,tQ,by omega⟩
   refine A8 (Ab (Ab (Ao (Ac (Ak (Ak ?_))))))
   have hij2:i=j:=by simp at h85;omega
   have hzl:(Cw xs a mm).length=mm-a:=Cg oQ
   refine Aa (I rfl (LW.A rfl (Af (Ah (A5 (σ:=Nat) (fun s w=>(i≤s∧s≤mm)∧(Wx.Sep (Az 33 19 Fact.cells (.slice (some ⟨g,0,none⟩) m cp) (xs)).foot w0 w [Az 33 19 Fact.cells (.slice (some ⟨g,0,none⟩) m cp) (Ey xs a (mm+1) (Cx (Cw xs a mm) x (s-a)))])) (fun s=>[(17,.eq (vi (s:Int)))]) ([(0,.eq _),(1,.eq _),(2,.eq _),(3,.eq _),(4,.eq _),(14,.eq _)]) (fun s=>s) mm ?_ tQ ?_)))))
   ·exact⟨⟨by omega,a8 _⟩,by rw[←hzl,Tk,Wu oQ hx hzl,Gq oQ (by omega)];exact hS⟩
   rintro k w7 ⟨hk,hS⟩
   refine Ak (Ae (I rfl (I rfl (U (.gtr (.t rfl) (.t rfl)) (Af (CW.b rfl (fun h110=>?_) (fun h110=>?_)))))))
   ·refine Ai (Ac (Ak (Ah ?_)))
    have hki:i<k:=by simp at h110;omega
    obtain⟨y,hy⟩:=An (xs:=Cw xs a mm) (i:=k-a-1) oQ
    have hrl:(Ey xs a (mm+1) (Cx (Cw xs a mm) x (k-a))).length=m:=by rw[Di oQ oQ (by rw[Dz];omega)];exact hxl
    have hkx:(Ey xs a (mm+1) (Cx (Cw xs a mm) x (k-a)))[k]?=some x:=by have:=Wv (xs:=xs) (a:=a) (b:=mm+1) (zs:=Cw xs a mm) (x:=x) (p:=k-a) oQ oQ oQ (by omega);rwa [show a+(k-a)=k by omega]at this
    have hky:(Ey xs a (mm+1) (Cx (Cw xs a mm) x (k-a)))[k-1]?=some y:=by have:=Mg (xs:=xs) (a:=a) (b:=mm+1) (zs:=Cw xs a mm) (x:=x) (p:=k-a) (q:=k-a-1) oQ oQ oQ oQ (by omega);rw[show a+(k-a-1)=k-1 by omega]at this;exact this.trans hy
    refine Jj 15 17 [.slice (some ⟨g,0,none⟩) m cp,vi ((k:Nat):Int),.slice (some ⟨g,0,none⟩) m cp,vi ((k:Nat):Int),vi ((k-1:Nat):Int),.slice (some ⟨g,0,none⟩) m cp,vi ((k:Nat):Int),vi ((k-1:Nat):Int),.pointer (some ⟨g,0+(k-1)*19,none⟩),.agg (Fact.cells y),.slice (some ⟨g,0,none⟩) m cp,vi ((k:Nat):Int),.pointer (some ⟨g,0+(k)*19,none⟩),.agg (Fact.cells x),.pointer (some ⟨g,0+(k)*19,none⟩),undef,.pointer (some ⟨g,0+(k-1)*19,none⟩),undef] (fun W=>Wx.Sep (Az 33 19 Fact.cells (.slice (some ⟨g,0,none⟩) m cp) (xs)).foot w0 W [Az 33 19 Fact.cells (.slice (some ⟨g,0,none⟩) m cp) (Ey xs a (mm+1) (Cx (Cw xs a mm) x (k-a)))]) (fun W=>Wx.Sep (Az 33 19 Fact.cells (.slice (some ⟨g,0,none⟩) m cp) (xs)).foot w0 W [Az 33 19 Fact.cells (.slice (some ⟨g,0,none⟩) m cp) ((Ey xs a (mm+1) (Cx (Cw xs a mm) x (k-a))).set (k) y)]) (fun W=>Wx.Sep (Az 33 19 Fact.cells (.slice (some ⟨g,0,none⟩) m cp) (xs)).foot w0 W [Az 33 19 Fact.cells (.slice (some ⟨g,0,none⟩) m cp) (((Ey xs a (mm+1) (Cx (Cw xs a mm) x (k-a))).set (k) y).set (k-1) x)]) kQ rfl kQ kQ kQ kQ kQ kQ (hS.up (Up.drew _)) ?_ _ _ rfl rfl ⟨rfl,rfl⟩ ⟨rfl,rfl⟩ ?_ ?_ ?_
    ·refine aC (.inr ⟨rfl,.inr fun W=>PEv.mv rfl⟩) (aC (.inr ⟨rfl,.inr fun W=>PEv.mv rfl⟩) (aC (.inr ⟨rfl,.inr fun W=>PEv.mv rfl⟩) (aC (.inr ⟨rfl,.inr fun W=>PEv.mv rfl⟩) (aC (.inr ⟨rfl,.inr fun W=>PEv.dec (.t rfl) oQ oQ⟩) (aC (.inr ⟨rfl,.inr fun W=>PEv.mv rfl⟩) (aC (.inr ⟨rfl,.inr fun W=>PEv.mv rfl⟩) (aC (.inr ⟨rfl,.inr fun W=>PEv.dec (.t rfl) oQ oQ⟩) (aC (.inr ⟨rfl,.inr fun W=>PEv.indexAddr jv jz (.t rfl) (.t rfl) oQ⟩) (aC (.inr ⟨rfl,.inl ⟨by kernel_rfl,fun W hS=>PEv.lc rfl ((hS.own 0 rfl).at (fun _=>rfl) hky)⟩⟩) (aC (.inr ⟨rfl,.inr fun W=>PEv.mv rfl⟩) (aC (.inr ⟨rfl,.inr fun W=>PEv.mv rfl⟩) (aC (.inr ⟨rfl,.inr fun W=>PEv.indexAddr jv jz (.t rfl) (.t rfl) oQ⟩) (aC (.inr ⟨rfl,.inl ⟨by kernel_rfl,fun W hS=>PEv.lc rfl ((hS.own 0 rfl).at (fun _=>rfl) hkx)⟩⟩) (aC (.inr ⟨rfl,.inr fun W=>PEv.indexAddr jv jz (.t rfl) (.t rfl) oQ⟩) (aC (.inl (by simp)) (aC (.inr ⟨rfl,.inr fun W=>PEv.indexAddr jv jz (.t rfl) (.t rfl) oQ⟩) (aC (.inl (by simp)) ?_)))))))))))))))))
     exact allL.nil
    ·intro W hS
     exact SEv.mono (Eh (i:=k) (z:=y) jz (fun _=>rfl) Fact.one (.t rfl) (.t rfl) (hS.own 0 rfl) oQ) (fun _ h=>hS.F9 0 rfl h)
    ·intro W hS
     exact SEv.mono (Eh (i:=k-1) (z:=x) jz (fun _=>rfl) Fact.one (.t rfl) (.t rfl) (hS.own 0 rfl) oQ) (fun _ h=>hS.F9 0 rfl h)
    intro w8 hS
    have hS:Wx.Sep (Az 33 19 Fact.cells (.slice (some ⟨g,0,none⟩) m cp) (xs)).foot w0 w8 [Az 33 19 Fact.cells (.slice (some ⟨g,0,none⟩) m cp) (((Ey xs a (mm+1) (Cx (Cw xs a mm) x (k-a))).set (k) y).set (k-1) x)]:=hS
    refine Aj (Ac (Aa (I rfl (U (.dec (.t rfl) oQ oQ) (LW.A rfl (LW.nil (Av ?_)))))))
    exact⟨k-1,⟨⟨by omega,by omega⟩,by have:=Ww (xs:=xs) (a:=a) (b:=mm+1) (x:=x) (p:=k-a-1) (y:=y) oQ oQ oQ oQ hy;rw[show k-a-1+1=k-a by omega,show a+(k-a)=k by omega,show a+(k-a-1)=k-1 by omega]at this;rw[show k-1-a=k-a-1 by omega,←this];exact hS⟩,tQ,by omega⟩
   refine A8 (Ab (Ab (Ao (Ac (Al (Au (Fm rfl ⟨_,rfl,?_⟩)))))))
   have hk2:k=i:=by simp at h110;omega
   subst hk2
   exact⟨rfl,_,kE hx oQ oQ hsA hL (by rw[hij2];exact hR),⟨hS.fr,hS.get 0 rfl,fun _ h=>.inl h⟩⟩
  |false=>
   have hq12:=cc hq12
   obtain⟨mid,hmid⟩:∃mid,mid=(a+b)/2:=⟨_,rfl⟩
   refine Aa (I rfl (I rfl (U (.L6 (.t rfl) (.t rfl) oQ oQ) (U (.fa (PEv.eql (.t rfl) (.const _)) (bn oQ)) (Af (CW.f rfl (Ai (Ac (Ae (I rfl (I rfl (U (.addN (.t rfl) (.t rfl) oQ) (U (.val (v':=vu (a+b)) (PEv.conv (k':=.u64) (by rw[jy];rfl) ki (.t rfl)) (Pr oQ)) (U (.val (v':=vu ((a+b)/2)) (PEv.S2 (j:=1) (.t rfl) (.const _)) Na) (U (.val (v':=vi ((mid:Nat):Int)) (PEv.conv (k':=.i64) (by rw[ki];rfl) jy (.t rfl)) (by rw[hmid];exact Ps oQ)) (LW.A rfl (Am (Aa (I rfl (I rfl (U (.addN (.t rfl) (.t rfl) oQ) (LW.A rfl (Am (Aa (Ay (Ay (Af (Ex (fun a1 W=>∃s0 r0:Nat,Ag 220 [] ([(0,.eq (.slice (some ⟨g,0,none⟩) m cp)),(1,.eq (vi (a:Int))),(2,.eq (vi (mm:Int))),(3,.eq (vi (b:Int))),(4,.eq (.func (.func cf) #[] lb)),(18,.eq (vi (mid:Int))),(19,.eq (vi ((mid+mm:Nat):Int))),(20,.eq (vi (s0:Int))),(21,.eq (vi (r0:Int)))]) a1 W∧((s0=mid+mm-b∧r0=mid∧mid<mm)∨(s0=a∧r0=mm∧mm≤mid))∧Wx.Sep (Az 33 19 Fact.cells (.slice (some ⟨g,0,none⟩) m cp) (xs)).foot w0 W [Az 33 19 Fact.cells (.slice (some ⟨g,0,none⟩) m cp) (xs)]) ?_ ?_))))))))))))))))))))))))))))
   ·skip
    refine Ae (I rfl (I rfl (U (.gtr (.t rfl) (.t rfl)) (Af (CW.b rfl (fun h140=>?_) (fun h140=>?_))))))
    ·replace h140:=dQ h140
     refine Ae (I rfl (I rfl (U (.L6 (.t rfl) (.t rfl) oQ oQ) (LW.A rfl (Af (Aa (I rfl (LW.A rfl (LW.nil ?_)))))))))
     exact fun a ha=>⟨_,_,ha.sub tQ,(by exact .inl ⟨rfl,rfl,by omega⟩),hS⟩
    replace h140:=dQ h140
    refine Ae (I rfl (LW.A rfl (Af (Aa (I rfl (LW.A rfl (LW.nil ?_)))))))
    exact fun a ha=>⟨_,_,ha.sub tQ,(by exact .inr ⟨rfl,rfl,by omega⟩),hS⟩
   rintro a1 w9 ⟨s0,r0,ha,hsr,hS⟩
   revert a1
   show CW none _ _ _ _ _ _ _ _
   refine Ae (I rfl (U (.dec (.t rfl) oQ oQ) (LW.A rfl (Am (Ah (A5 (σ:=Nat×Nat) (fun s w=>(s0≤s.1∧s.1≤s.2∧s.2≤r0)∧(s.1=s0∨∃u v,xs[mid+mm-s.1]?=some u∧xs[s.1-1]?=some v∧Hc (key u) (key v)=false)∧(s.2=r0∨∃u v,xs[mid+mm-1-s.2]?=some u∧xs[s.2]?=some v∧Hc (key u) (key v)=true)∧(Wx.Sep (Az 33 19 Fact.cells (.slice (some ⟨g,0,none⟩) m cp) (xs)).foot w0 w [Az 33 19 Fact.cells (.slice (some ⟨g,0,none⟩) m cp) (xs)])) (fun s=>[(20,.eq (vi (s.1:Int))),(21,.eq (vi (s.2:Int)))]) ([(0,.eq _),(1,.eq _),(2,.eq _),(3,.eq _),(4,.eq _),(18,.eq _),(19,.eq _),(22,.eq _)]) (fun s=>s.2-s.1) (s0,r0) ?_ tQ ?_))))))
   ·exact⟨⟨a8 _,by show s0≤r0;omega,a8 _⟩,.inl rfl,.inl rfl,hS⟩
   rintro⟨s,r⟩ w10 ⟨hq,hs,hr,hS⟩
   dsimp only at hq hs hr hS
   change CW _ _ _ _ _ _ _ ([(20,.eq (vi (s:Int))),(21,.eq (vi (r:Int)))]++_) _
   refine Ak (Ae (I rfl (I rfl (U (.l2 rfl rfl) (Af (CW.b rfl (fun h151=>?_) (fun h151=>?_)))))))
   ·replace h151:=dQ h151
    refine Ai (Ac (Ah (Ae (I rfl (I rfl (U (.addN (.t rfl) (.t rfl) oQ) (U (.val (v':=vu (s+r)) (PEv.conv (k':=.u64) (by rw[jy];rfl) ki (.t rfl)) (Pr oQ)) (U (.val (v':=vu ((s+r)/2)) (PEv.S2 (j:=1) (.t rfl) (.const _)) Na) (U (.val (v':=vi (((s+r)/2:Nat):Int)) (PEv.conv (k':=.i64) (by rw[ki];rfl) jy (.t rfl)) (Ps oQ)) (LW.A rfl (Am ?_)))))))))))
    have hlt:s<r:=by simp at h151;omega
    obtain⟨u,hu_⟩:=An (xs:=xs) (i:=mid+mm-1-(s+r)/2) oQ
    obtain⟨v,hv_⟩:=An (xs:=xs) (i:=(s+r)/2) oQ
    refine C7 kQ kQ rfl rfl (J (.mv rfl) (J (.mv rfl) (J (.mv rfl) (J (.mv rfl) (J (.L6 (.t rfl) (.t rfl) oQ oQ) (J (.indexAddr jv jz (.t rfl) (.t rfl) oQ) (J (.lc rfl ((hS.own 0 rfl).at (fun _=>rfl) hu_)) (J (.mv rfl) (J (.mv rfl) (J (.indexAddr jv jz (.t rfl) (.t rfl) oQ) (J (.lc rfl ((hS.own 0 rfl).at (fun _=>rfl) hv_)) (HW.c (fun a w _ ha=>Cr (.t rfl) (.ct rfl (.cu rfl)) (hen) a ha) rfl rfl (fun w hu=>hcmp w (hS.fr.trans (hu.fr _)) u v) (J (.lss (.t rfl) (.const _)) (J (.n1 rfl) (HW.nil ?_)))))))))))))))
    intro w11 uw11
    replace hS:=hS.up uw11
    refine Ac (CW.b rfl (fun h171=>?_) (fun h171=>?_))
    ·replace h171:=dQ h171
     refine Aa (I rfl (U (.ic rfl oQ) (LW.A rfl (LW.nil (Aj (Av ?_))))))
     exact⟨((s+r)/2+1,r),⟨⟨by show s0≤(s+r)/2+1;omega,by show(s+r)/2+1≤r;omega,by show r≤r0;omega⟩,.inr ⟨u,v,by show xs[mid+mm-((s+r)/2+1)]?=some u;rw[show mid+mm-((s+r)/2+1)=mid+mm-1-(s+r)/2 by omega];exact hu_,hv_,by rw[←He];simpa using h171⟩,hr,hS⟩,tQ,by omega⟩
    replace h171:=dQ h171
    refine Aa (I rfl (LW.A rfl (LW.nil (Aj (Av ?_)))))
    exact⟨(s,(s+r)/2),⟨⟨by show s0≤s;omega,by show s≤(s+r)/2;omega,by show(s+r)/2≤r0;omega⟩,hs,.inr ⟨u,v,hu_,hv_,by rw[←He];simpa using h171⟩,hS⟩,tQ,by omega⟩
   replace h151:=dQ h151
   refine A8 (Ab (Ab (Ao (Ac (Ak ?_)))))
   have hsr2:s=r:=by simp at h151;omega
   obtain⟨e,he⟩:∃e,e=mid+mm-s:=⟨_,rfl⟩
   have hsm:s≤mm:=by omega
   have hme:mm≤e:=by omega
   have has:a≤s:=by omega
   have heb:e≤b:=by omega
   have hmd:mid=s+(e-mm):=by omega
   have hrl:(I0 xs s mm e).length=m:=by rw[Ff hsm hme (by omega)];exact hxl
   refine Aa (I rfl (I rfl (U (.val (v':=vi (e:Int)) (PEv.L6 (.t rfl) (.t rfl) oQ oQ) (by rw[he])) (LW.A rfl (Af (Ex (fun a1 W=>Ag 220 [] ([(0,.eq (.slice (some ⟨g,0,none⟩) m cp)),(1,.eq (vi (a:Int))),(3,.eq (vi (b:Int))),(4,.eq (.func (.func cf) #[] lb)),(18,.eq (vi (mid:Int))),(20,.eq (vi (s:Int))),(24,.eq (vi (e:Int)))]) a1 W∧Wx.Sep (Az 33 19 Fact.cells (.slice (some ⟨g,0,none⟩) m cp) (xs)).foot w0 W [Az 33 19 Fact.cells (.slice (some ⟨g,0,none⟩) m cp) (I0 xs s mm e)]) ?_ ?_))))))
   ·skip
    refine Ae (I rfl (I rfl (U (.l2 rfl rfl) (I rfl (F5 rfl rfl (F5 rfl rfl (LW.gr rfl (fun hc=>PEv.lss vQ vQ) (U (.pa rfl (fun hp=>.cond rfl (by rw[hp];rfl))) (Af (CW.b rfl (fun h185=>?_) (fun h185=>?_)))))))))))
    ·refine Aa (I rfl (I rfl (I rfl (I rfl (I rfl (A3 (eC (.ct rfl (.ct rfl (.ct rfl (.ct rfl (.cu rfl))))) (xO)) rfl (aB s mm e _ g m cp xs _ (hS.own 0 rfl) h63 (by have:=Lc h185;omega) (by have:=Lc h185;omega) oQ) ?_))))))
     rintro _ w12 ⟨rfl,uw12⟩
     replace hS:=hS.F9 0 rfl uw12
     change Wx.Sep _ _ _ [_]at hS
     refine LW.nil ?_
     exact fun a ha=>⟨ha.sub tQ,(by exact hS)⟩
    refine Ai ?_
    exact fun a ha=>⟨ha.sub tQ,(by(rw[kF (Z7 h185) hsm hme (by omega)];exact hS))⟩
   rintro a1 w13 ⟨ha,hS⟩
   revert a1
   show CW none _ _ _ _ _ _ _ _
   refine Ex (fun a1 W=>Ag 220 [] ([(0,.eq (.slice (some ⟨g,0,none⟩) m cp)),(3,.eq (vi (b:Int))),(4,.eq (.func (.func cf) #[] lb)),(18,.eq (vi (mid:Int))),(24,.eq (vi (e:Int)))]) a1 W∧∃X,StS key (Cw (I0 xs s mm e) a mid) X∧Wx.Sep (Az 33 19 Fact.cells (.slice (some ⟨g,0,none⟩) m cp) (xs)).foot w0 W [Az 33 19 Fact.cells (.slice (some ⟨g,0,none⟩) m cp) (Ey (I0 xs s mm e) a mid X)]) ?_ ?_
   ·skip
    refine Ae (I rfl (I rfl (U (.l2 rfl rfl) (I rfl (F5 rfl rfl (F5 rfl rfl (LW.gr rfl (fun hc=>PEv.lss vQ vQ) (U (.pa rfl (fun hp=>.cond rfl (by rw[hp];rfl))) (Af (CW.b rfl (fun h199=>?_) (fun h199=>?_)))))))))))
    ·refine Aa (I rfl (I rfl (I rfl (I rfl (I rfl (A3 (eC (.ct rfl (.ct rfl (.ct rfl (.ct rfl (.cu rfl))))) (bK)) rfl (ih a s mid (I0 xs s mm e) _ oQ (hS.own 0 rfl) (fun W hF x y=>hcmp W (hS.fr.trans hF) x y) (by have:=Lc h199;omega) (by have:=Lc h199;omega) oQ (cP hsA hsB oQ oQ oQ oQ oQ).1 (cP hsA hsB oQ oQ oQ oQ oQ).2) ?_))))))
     rintro _ w14 ⟨rfl,X,hX,uw14⟩
     replace hS:=hS.F9 0 rfl uw14
     change Wx.Sep _ _ _ [_]at hS
     refine LW.nil ?_
     exact fun a ha=>⟨ha.sub tQ,(by exact⟨X,hX,hS⟩)⟩
    refine Ai ?_
    exact fun a ha=>⟨ha.sub tQ,(by exact⟨_,StS.refl (fE hsA hsB has hsm hme heb oQ hmd (Z7 h199)),by rw[Gq oQ (by omega)];exact hS⟩)⟩
   rintro a1 w15 ⟨ha,X,hX,hS⟩
   revert a1
   show CW none _ _ _ _ _ _ _ _
   refine Ak ?_
   have hXl:X.length=mid-a:=by rw[hX.same.length,Cg (by omega)]
   have hrl2:(Ey (I0 xs s mm e) a mid X).length=m:=by rw[Di oQ oQ hXl];exact hrl
   refine Aa (I rfl (I rfl (U (.l2 rfl rfl) (I rfl (F5 rfl rfl (F5 rfl rfl (LW.gr rfl (fun hc=>PEv.lss vQ vQ) (U (.pa rfl (fun hp=>.cond rfl (by rw[hp];rfl))) (Af (CW.b rfl (fun h213=>?_) (fun h213=>?_)))))))))))
   ·refine Aa (I rfl (I rfl (I rfl (I rfl (I rfl (A3 (eC (.ct rfl (.ct rfl (.ct rfl (.ct rfl (.cu rfl))))) (bK)) rfl (ih mid e b (Ey (I0 xs s mm e) a mid X) _ oQ (hS.own 0 rfl) (fun W hF x y=>hcmp W (hS.fr.trans hF) x y) (by have:=Lc h213;omega) (by have:=Lc h213;omega) oQ (cR hsA hsB oQ oQ oQ oQ oQ oQ hXl).1 (cR hsA hsB oQ oQ oQ oQ oQ oQ hXl).2) ?_))))))
    rintro _ w16 ⟨rfl,Y,hY,uw16⟩
    replace hS:=hS.F9 0 rfl uw16
    change Wx.Sep _ _ _ [_]at hS
    refine LW.nil (C1 rfl ⟨_,rfl,?_⟩)
    obtain⟨Y,hY,hS2⟩:∃Y,StS key (Cw (Ey (I0 xs s mm e) a mid X) mid b) Y∧Wx.Sep (Az 33 19 Fact.cells (.slice (some ⟨g,0,none⟩) m cp) (xs)).foot w0 w16 [Az 33 19 Fact.cells (.slice (some ⟨g,0,none⟩) m cp) (Ey (Ey (I0 xs s mm e) a mid X) mid b Y)]:=by exact⟨Y,hY,hS⟩
    have hd:=W6 has hsm hme heb oQ hmd hsA hsB (kC hsA hsB hsm hme oQ (hs.elim (fun h=>hsr.elim (fun q=>.inr (.inl oQ)) (fun q=>.inl oQ)) (fun⟨u,v,e1,e2,e3⟩=>.inr (.inr ⟨u,v,by rw[he];exact e1,e2,e3⟩)))) (kD hsA hsB has heb oQ oQ (hr.elim (fun h=>hsr.elim (fun q=>.inr (.inl oQ)) (fun q=>.inl oQ)) (fun⟨u,v,e1,e2,e3⟩=>.inr (.inr ⟨u,v,by rw[he,hsr2,show mid+mm-r-1=mid+mm-1-r by omega];exact e1,by rw[hsr2];exact e2,e3⟩)))) hX hY
    rw[hd.2]at hS2
    exact⟨rfl,X++Y,hd.1,⟨hS2.fr,hS2.get 0 rfl,fun _ h=>.inl h⟩⟩
   refine Ai (C1 rfl ⟨_,rfl,?_⟩)
   obtain⟨Y,hY,hS2⟩:∃Y,StS key (Cw (Ey (I0 xs s mm e) a mid X) mid b) Y∧Wx.Sep (Az 33 19 Fact.cells (.slice (some ⟨g,0,none⟩) m cp) (xs)).foot w0 w15 [Az 33 19 Fact.cells (.slice (some ⟨g,0,none⟩) m cp) (Ey (Ey (I0 xs s mm e) a mid X) mid b Y)]:=by exact⟨_,StS.refl (fF hsA hsB has hsm hme heb oQ hmd hXl (Z7 h213)),by rw[Gq oQ (by omega)];exact hS⟩
   have hd:=W6 has hsm hme heb oQ hmd hsA hsB (kC hsA hsB hsm hme oQ (hs.elim (fun h=>hsr.elim (fun q=>.inr (.inl oQ)) (fun q=>.inl oQ)) (fun⟨u,v,e1,e2,e3⟩=>.inr (.inr ⟨u,v,by rw[he];exact e1,e2,e3⟩)))) (kD hsA hsB has heb oQ oQ (hr.elim (fun h=>hsr.elim (fun q=>.inr (.inl oQ)) (fun q=>.inl oQ)) (fun⟨u,v,e1,e2,e3⟩=>.inr (.inr ⟨u,v,by rw[he,hsr2,show mid+mm-r-1=mid+mm-1-r by omega];exact e1,by rw[hsr2];exact e2,e3⟩)))) hX hY
   rw[hd.2]at hS2
   exact⟨rfl,X++Y,hd.1,⟨hS2.fr,hS2.get 0 rfl,fun _ h=>.inl h⟩⟩
set_option maxHeartbeats 2000000 in
theorem aD(cf:Nat)(lb:Array Go.Value)(key:Fact→K2)(hen:∀args w,(callFunc cf args).run prog w=.ok (.enter cf args) w)(g m cp:Nat)(xs:List Fact)(w:World)(ho:OwnS w 0 33 19 Fact.cells (.slice (some ⟨g,0,none⟩) m cp) xs)(h63:m≤1000000000)(hcmp:∀W,Fr (Az 33 19 Fact.cells (.slice (some ⟨g,0,none⟩) m cp) (xs)).foot w W→∀x y,Ret prog cf (#[.agg (Fact.cells x),.agg (Fact.cells y)]++lb) W fun r W'=>r=vi (Z6 (key x) (key y))∧Up W W'):Ret prog 138 #[.slice (some ⟨g,0,none⟩) m cp,vi (m:Int),.func (.func cf) #[] lb] w fun r w'=>r=.tuple #[]∧∃zs,StS key xs zs∧Stp (Az 33 19 Fact.cells (.slice (some ⟨g,0,none⟩) m cp) (xs)) (Az 33 19 Fact.cells (.slice (some ⟨g,0,none⟩) m cp) (zs)) w w':=by
 obtain⟨w0,rfl,_⟩:=W0 w
 have hxl:=ho.len
 have hS:Wx.Sep (Az 33 19 Fact.cells (.slice (some ⟨g,0,none⟩) m cp) (xs)).foot w0 w0 [Az 33 19 Fact.cells (.slice (some ⟨g,0,none⟩) m cp) (xs)]:=Sep.cons ho (fun _ h=>h) (Sep.start _ _) (by simp)
 refine cT 63 func138 rfl (Ae (U (.val (v':=vi ((20:Nat):Int)) (PEv.assign (.const _)) rfl) (Am (Aa (I rfl (Ay (LW.A rfl (Am (Ah (A5 (σ:=Nat×List Fact) (fun s w=>(s.1≤m)∧(s.2.length=m)∧(Ins key s.2 20 s.1)∧(sameF key xs s.2)∧(Wx.Sep (Az 33 19 Fact.cells (.slice (some ⟨g,0,none⟩) m cp) (xs)).foot w0 w [Az 33 19 Fact.cells (.slice (some ⟨g,0,none⟩) m cp) (s.2)])) (fun s=>[(7,.eq (vi (s.1:Int))),(8,.eq (vi ((s.1+20:Nat):Int)))]) ([(0,.eq _),(1,.eq _),(2,.eq _),(6,.eq _)]) (fun s=>m-s.1) (0,xs) ?_ tQ ?_))))))))))
 ·exact⟨au _,hxl,Ins.zero xs 20 cQ,sameF.refl xs,hS⟩
 rintro⟨a,ys⟩ w1 ⟨ha,hyl,hI,hsf,hS⟩
 dsimp only at ha hyl hI hsf hS
 change CW _ _ _ _ _ _ _ ([(7,.eq (vi (a:Int))),(8,.eq (vi ((a+20:Nat):Int)))]++_) _
 refine Ak (Ae (I rfl (I rfl (U (.leq (.t rfl) (.t rfl)) (Af (CW.b rfl (fun h13=>?_) (fun h13=>?_)))))))
 ·refine Ai (Ac (Ah (Ak ?_)))
  have hal:a+20≤m:=by simp at h13;omega
  refine Aa (I rfl (I rfl (I rfl (I rfl (A3 (eC (.ct rfl (.ct rfl (.ct rfl (.cu rfl)))) (iK)) rfl (Lu a (a+20) cf lb key hen g m cp ys _ (hS.own 0 rfl) h63 (fun W hF x y=>hcmp W (hS.fr.trans hF) x y) oQ oQ) ?_)))))
  rintro _ w2 ⟨rfl,zs,hz,uw2⟩
  replace hS:=hS.F9 0 rfl uw2
  refine Am (Aa (I rfl (LW.A rfl (Af (Aa (I rfl (I rfl (U (.addN (.t rfl) (.t rfl) oQ) (LW.A rfl (LW.nil (Aj (Av ?_))))))))))))
  exact⟨(a+20,Ey ys a (a+20) zs),⟨by show a+20≤m;omega,by show(Ey ys a (a+20) zs).length=m;rw[Di oQ oQ (by rw[hz.same.length,Cg (by omega)])];exact hyl,hI.step cQ oQ hz,hsf.step oQ oQ hz,hS⟩,tQ,by show m-(a+20)<m-a;omega⟩
 refine A8 (Ab (Ab (Ao (Ac (Ak ?_)))))
 have hal:m<a+20:=by simp at h13;omega
 refine Aa (I rfl (I rfl (I rfl (I rfl (A3 (eC (.ct rfl (.ct rfl (.ct rfl (.cu rfl)))) (iK)) rfl (Lu a m cf lb key hen g m cp ys _ (hS.own 0 rfl) h63 (fun W hF x y=>hcmp W (hS.fr.trans hF) x y) oQ oQ) ?_)))))
 rintro _ w3 ⟨rfl,zs,hz,uw3⟩
 replace hS:=hS.F9 0 rfl uw3
 refine Af (Ah (A5 (σ:=Nat×List Fact) (fun s w=>(0<s.1)∧(s.2.length=m)∧(Bks key s.2 s.1)∧(sameF key xs s.2)∧(Wx.Sep (Az 33 19 Fact.cells (.slice (some ⟨g,0,none⟩) m cp) (xs)).foot w0 w [Az 33 19 Fact.cells (.slice (some ⟨g,0,none⟩) m cp) (s.2)])) (fun s=>[(6,.eq (vi (s.1:Int)))]) ([(0,.eq _),(1,.eq _),(2,.eq _)]) (fun s=>m-s.1) (20,Ey ys a m zs) ?_ tQ ?_))
 ·exact⟨by show 0<20;omega,by show(Ey ys a m zs).length=m;rw[Di oQ oQ (by rw[hz.same.length,Cg (by omega)])];exact hyl,by have:=hI.last (zs:=zs) oQ oQ (by rw[hyl];exact hz);rw[hyl]at this;exact this,hsf.step oQ oQ hz,hS⟩
 rintro⟨B,ys⟩ w4 ⟨hB,hyl,hI,hsf,hS⟩
 dsimp only at hB hyl hI hsf hS
 change CW _ _ _ _ _ _ _ ([(6,.eq (vi (B:Int)))]++_) _
 refine Ak (Ae (I rfl (I rfl (U (.l2 rfl rfl) (Af (CW.b rfl (fun h30=>?_) (fun h30=>?_)))))))
 ·refine Ai (Ac (Ah (Ak ?_)))
  have hBm:B<m:=by simp at h30;omega
  refine Aa (I rfl (U (.val (v':=vi ((2*B:Nat):Int)) (K0 (.const _) (.t rfl)) (Qu oQ)) (Ay (LW.A rfl (Am (Ah (A5 (σ:=Nat×List Fact) (fun s w=>(s.1≤m)∧(s.2.length=m)∧(Mrg key s.2 B s.1)∧(sameF key xs s.2)∧(Wx.Sep (Az 33 19 Fact.cells (.slice (some ⟨g,0,none⟩) m cp) (xs)).foot w0 w [Az 33 19 Fact.cells (.slice (some ⟨g,0,none⟩) m cp) (s.2)])) (fun s=>[(7,.eq (vi (s.1:Int))),(8,.eq (vi ((2*B+s.1:Nat):Int)))]) ([(0,.eq _),(1,.eq _),(2,.eq _),(6,.eq _)]) (fun s=>m-s.1) (0,ys) ?_ tQ ?_)))))))
  ·exact⟨au _,hyl,Mrg.start hB hI,hsf,hS⟩
  rintro⟨a,ys⟩ w5 ⟨ha,hyl,hM,hsf,hS⟩
  dsimp only at ha hyl hM hsf hS
  change CW _ _ _ _ _ _ _ ([(7,.eq (vi (a:Int))),(8,.eq (vi ((2*B+a:Nat):Int)))]++_) _
  refine Ak (Ae (I rfl (I rfl (U (.leq (.t rfl) (.t rfl)) (Af (CW.b rfl (fun h35=>?_) (fun h35=>?_)))))))
  ·refine Ai (Ac (Ah (Ak ?_)))
   have hal:2*B+a≤m:=by simp at h35;omega
   refine Aa (I rfl (I rfl (I rfl (I rfl (U (.addN (.t rfl) (.t rfl) oQ) (I rfl (I rfl (A3 (eC (.ct rfl (.ct rfl (.ct rfl (.ct rfl (.cu rfl))))) (bK)) rfl (Nb cf lb key hen g m cp h63 m a (a+B) (2*B+a) ys _ oQ (hS.own 0 rfl) (fun W hF x y=>hcmp W (hS.fr.trans hF) x y) oQ oQ oQ (hM.pre oQ).1 (hM.pre oQ).2) ?_))))))))
   rintro _ w6 ⟨rfl,zs,hz,uw6⟩
   replace hS:=hS.F9 0 rfl uw6
   refine Am (Aa (I rfl (LW.A rfl (Af (Aa (I rfl (I rfl (U (.val (v':=vi ((2*B:Nat):Int)) (K0 (.const _) (.t rfl)) (Qu oQ)) (U (.val (v':=vi ((2*B+(2*B+a):Nat):Int)) (PEv.addN (.t rfl) (.t rfl) oQ) (sN oQ)) (LW.A rfl (LW.nil (Aj (Av ?_)))))))))))))
   exact⟨(2*B+a,Ey ys a (2*B+a) zs),⟨by show 2*B+a≤m;omega,by show(Ey ys a (2*B+a) zs).length=m;rw[Di oQ oQ (by rw[hz.same.length,Cg (by omega)])];exact hyl,hM.step hB oQ hz,hsf.step oQ oQ hz,hS⟩,tQ,by show m-(2*B+a)<m-a;omega⟩
  refine A8 (Ab (Ab (Ao (Ac (Ak (Ak ?_))))))
  have hal:m<2*B+a:=by simp at h35;omega
  refine Aa (I rfl (I rfl (U (.addN (.t rfl) (.t rfl) oQ) (LW.A rfl (Am (Aa (I rfl (I rfl (U (.l2 rfl rfl) (Af (CW.b rfl (fun h54=>?_) (fun h54=>?_))))))))))))
  ·have ham:a+B<m:=by simp at h54;omega
   refine Aa (I rfl (I rfl (I rfl (I rfl (I rfl (A3 (eC (.ct rfl (.ct rfl (.ct rfl (.ct rfl (.cu rfl))))) (bK)) rfl (Nb cf lb key hen g m cp h63 m a (a+B) m ys _ oQ (hS.own 0 rfl) (fun W hF x y=>hcmp W (hS.fr.trans hF) x y) oQ oQ (a8 _) (hM.yJ oQ oQ).1 (by have:=(hM.yJ oQ oQ).2;rw[hyl]at this;exact this)) ?_))))))
   rintro _ w7 ⟨rfl,zs,hz,uw7⟩
   replace hS:=hS.F9 0 rfl uw7
   refine Af (Aa (I rfl (U (.val (v':=vi ((2*B:Nat):Int)) (K0 (.t rfl) (.const _)) (Tn oQ)) (LW.A rfl (LW.nil (Aj (Av ?_)))))))
   exact⟨(2*B,Ey ys a m zs),⟨by show 0<2*B;omega,by show(Ey ys a m zs).length=m;rw[Di oQ oQ (by rw[hz.same.length,Cg (by omega)])];exact hyl,by have:=hM.last (zs:=zs) oQ oQ (by rw[hyl];exact hz);rw[hyl]at this;exact this,hsf.step oQ oQ hz,hS⟩,tQ,by show m-2*B<m-B;omega⟩
  have ham:¬a+B<m:=by simp at h54;omega
  refine Ai (Ac (Aa (I rfl (U (.val (v':=vi ((2*B:Nat):Int)) (K0 (.t rfl) (.const _)) (Tn oQ)) (LW.A rfl (LW.nil (Aj (Av ?_))))))))
  exact⟨(2*B,ys),⟨by show 0<2*B;omega,hyl,hM.done oQ oQ oQ,hsf,hS⟩,tQ,by show m-2*B<m-B;omega⟩
 refine A8 (Ab (Ab (Ao (C1 rfl ⟨_,rfl,?_⟩))))
 exact⟨rfl,ys,hI.all (by simp at h30;omega) hsf,⟨hS.fr,hS.get 0 rfl,fun _ h=>.inl h⟩⟩
theorem Q5(cf:Nat)(lb:Array Go.Value)(key:Fact→K2)(hen:∀args w,(callFunc cf args).run prog w=.ok (.enter cf args) w)(g m cp:Nat)(xs:List Fact)(w:World)(ho:OwnS w 0 33 19 Fact.cells (.slice (some ⟨g,0,none⟩) m cp) xs)(h63:m≤1000000000)(hcmp:∀W,Fr (Az 33 19 Fact.cells (.slice (some ⟨g,0,none⟩) m cp) (xs)).foot w W→∀x y,Ret prog cf (#[.agg (Fact.cells x),.agg (Fact.cells y)]++lb) W fun r W'=>r=vi (Z6 (key x) (key y))∧Up W W'):Ret prog 65 #[.slice (some ⟨g,0,none⟩) m cp,.func (.func cf) #[] lb] w fun r w'=>r=.tuple #[]∧∃zs,StS key xs zs∧Stp (Az 33 19 Fact.cells (.slice (some ⟨g,0,none⟩) m cp) (xs)) (Az 33 19 Fact.cells (.slice (some ⟨g,0,none⟩) m cp) (zs)) w w':=by
 obtain⟨w0,rfl,_⟩:=W0 w
 have hS:Wx.Sep (Az 33 19 Fact.cells (.slice (some ⟨g,0,none⟩) m cp) (xs)).foot w0 w0 [Az 33 19 Fact.cells (.slice (some ⟨g,0,none⟩) m cp) (xs)]:=Sep.cons ho (fun _ h=>h) (Sep.start _ _) (by simp)
 refine cT 9 func65 rfl (Aa (I rfl (I rfl (U (.Cn jv (.t rfl)) (I rfl (A3 (eC (.ct rfl (.ct rfl (.cu rfl))) (qE)) rfl (aD cf lb key hen g m cp xs _ (hS.own 0 rfl) h63 (fun W hF x y=>hcmp W (hS.fr.trans hF) x y)) ?_))))))
 rintro _ w1 ⟨rfl,zs,hz,uw1⟩
 replace hS:=hS.F9 0 rfl uw1
 refine LW.nil (C1 rfl ⟨_,rfl,?_⟩)
 exact⟨rfl,zs,hz,⟨hS.fr,hS.get 0 rfl,fun _ h=>.inl h⟩⟩
theorem Sn(fv:Go.Value)(w:World):Ret prog 185 #[.slice none 0 0,vi 0,vi 0,fv] w fun r w'=>r=.tuple #[]∧Up w w':=by
 have hW:=Up.refl w
 obtain⟨w0,rfl,_⟩:=W0 w
 refine cT 53 func185 rfl (Ae (I rfl (U (.val (v':=vi 1) (PEv.add (.t rfl) (.const _) oQ oQ) rfl) (LW.A rfl (Af (Ah (A5 (σ:=Unit) (fun s w=>(True)∧(Up w0 w)) (fun s=>[(8,.eq (vi 1))]) ([(0,.eq _),(1,.eq _),(2,.eq _),(3,.eq _)]) (fun s=>0) () ?_ tQ ?_)))))))
 ·exact⟨trivial,hW⟩
 rintro _ w1 ⟨ht,hW⟩
 refine Ak (Ae (I rfl (I rfl (U (.fa (PEv.l2 rfl rfl) cQ) (Af (CW.f rfl (A8 (Ab (Ab (Ao (C1 rfl ⟨_,rfl,?_⟩)))))))))))
 exact⟨rfl,hW⟩
theorem aE(fv:Go.Value)(w:World):Ret prog 138 #[.slice none 0 0,vi 0,fv] w fun r w'=>r=.tuple #[]∧Up w w':=by
 have hW:=Up.refl w
 obtain⟨w0,rfl,_⟩:=W0 w
 refine cT 63 func138 rfl (Ae (Ay (Am (Aa (I rfl (Ay (LW.A rfl (Am (Ah (A5 (σ:=Unit) (fun s w=>(True)∧(Up w0 w)) (fun s=>[(7,.eq (vi 0)),(8,.eq (vi 20))]) ([(0,.eq _),(1,.eq _),(2,.eq _),(6,.eq _)]) (fun s=>0) () ?_ tQ ?_))))))))))
 ·exact⟨trivial,hW⟩
 rintro _ w1 ⟨ht,hW⟩
 refine Ak (Ae (I rfl (I rfl (U (.fa (PEv.leq (.t rfl) (.t rfl)) cQ) (Af (CW.f rfl (A8 (Ab (Ab (Ao (Ac (Ae (I rfl (I rfl (I rfl (I rfl (A3 (eC (.ct rfl (.ct rfl (.ct rfl (.cu rfl)))) (iK)) rfl (Sn _ _) ?_)))))))))))))))))
 rintro _ w2 ⟨rfl,uw2⟩
 replace hW:=hW.up uw2
 refine Af (Ah (A5 (σ:=Unit) (fun s w=>(True)∧(Up w0 w)) (fun s=>[(6,.eq (vi 20))]) ([(0,.eq _),(1,.eq _),(2,.eq _)]) (fun s=>0) () ?_ tQ ?_))
 ·exact⟨trivial,hW⟩
 rintro _ w3 ⟨ht,hW⟩
 refine Ak (Ae (I rfl (I rfl (U (.fa (PEv.l2 rfl rfl) cQ) (Af (CW.f rfl (A8 (Ab (Ab (Ao (C1 rfl ⟨_,rfl,?_⟩)))))))))))
 exact⟨rfl,hW⟩
theorem Q6(fv:Go.Value)(w:World):Ret prog 65 #[.slice none 0 0,fv] w fun r w'=>r=.tuple #[]∧Up w w':=by
 have hW:=Up.refl w
 obtain⟨w0,rfl,_⟩:=W0 w
 refine cT 9 func65 rfl (Aa (I rfl (I rfl (U (.Cn jv (.t rfl)) (I rfl (A3 (eC (.ct rfl (.ct rfl (.cu rfl))) (qE)) rfl (aE _ _) ?_))))))
 rintro _ w1 ⟨rfl,uw1⟩
 replace hW:=hW.up uw1
 refine LW.nil (C1 rfl ⟨_,rfl,?_⟩)
 exact⟨rfl,hW⟩
theorem aF(of:Nat)(w:World):Ret prog 20 #[.slice none 0 0,.func (.func of) #[] #[]] w fun r w'=>r=.tuple #[]∧Up w w':=by
 have hW:=Up.refl w
 obtain⟨w0,rfl,_⟩:=W0 w
 refine cT 7 func20 rfl (Ae (Aq (.O3 (.t rfl) rfl) rfl ?_))
 rintro _ w1 ⟨B3,rfl,NB3⟩
 replace hW:=hW.up NB3.up
 have hB3:=NB3.blk
 refine Af (Aa (I rfl (U (.makeFunc (.cu rfl)) (A3 (eC (.u rfl rfl) (uP)) rfl (Q6 _ _) ?_))))
 rintro _ w2 ⟨rfl,uw2⟩
 replace hW:=hW.up uw2
 replace hB3:=hB3.up uw2
 refine LW.nil (C1 rfl ⟨_,rfl,?_⟩)
 exact⟨rfl,hW⟩
theorem Xk(of:Nat)(key:Fact→K2)(hen:∀args w,(callFunc of args).run prog w=.ok (.enter of args) w)(hord:∀W x,Ret prog of #[.agg x.cells] W fun r W'=>r=.agg #[vi (key x).1,vi (key x).2]∧Up W W')(g m cp:Nat)(xs:List Fact)(w:World)(ho:OwnS w 0 33 19 Fact.cells (.slice (some ⟨g,0,none⟩) m cp) xs)(h63:m≤1000000000):Ret prog 20 #[.slice (some ⟨g,0,none⟩) m cp,.func (.func of) #[] #[]] w fun r w'=>r=.tuple #[]∧Stp (Az 33 19 Fact.cells (.slice (some ⟨g,0,none⟩) m cp) (xs)) (Az 33 19 Fact.cells (.slice (some ⟨g,0,none⟩) m cp) (Ls key xs)) w w':=by
 obtain⟨w0,rfl,_⟩:=W0 w
 have hS:Wx.Sep (Az 33 19 Fact.cells (.slice (some ⟨g,0,none⟩) m cp) (xs)).foot w0 w0 [Az 33 19 Fact.cells (.slice (some ⟨g,0,none⟩) m cp) (xs)]:=Sep.cons ho (fun _ h=>h) (Sep.start _ _) (by simp)
 refine cT 7 func20 rfl (Ae (Aq (.O3 (.t rfl) rfl) rfl ?_))
 rintro _ w1 ⟨B3,rfl,NB3⟩
 have eB3:=NB3.at_
 have zB3:=NB3.size
 replace hS:=hS.Cc NB3
 refine Af ?_
 have hB3:=NB3.blk
 have hg:=ho.lt g rfl
 replace hS:Wx.Sep (Az 33 19 Fact.cells (.slice (some ⟨g,0,none⟩) m cp) (xs)).foot w0 w1 [Az 33 19 Fact.cells (.slice (some ⟨g,0,none⟩) m cp) (xs)]:=hS.take 1
 refine Aa (I rfl (U (.makeFunc (.cu rfl)) (A3 (eC (.u rfl rfl) (uP)) rfl (Q5 66 #[.pointer (some ⟨B3,0,none⟩)] key BG g m cp xs _ (hS.own 0 rfl) h63 (fun W hF x y=>fO of key hen hord x y B3 W (hB3.fr hF (fun(e:some g=some B3)=>by cases e;omega)))) ?_)))
 rintro _ w2 ⟨rfl,zs,hz,uw2⟩
 replace hS:=hS.F9 0 rfl uw2
 refine LW.nil (C1 rfl ⟨_,rfl,?_⟩)
 rw[hz.eq]at hS
 exact⟨rfl,⟨hS.fr,hS.get 0 rfl,fun _ h=>.inl h⟩⟩
theorem Mj(of:Nat)(key:Fact→K2)(hen:∀args w,(callFunc of args).run prog w=.ok (.enter of args) w)(hord:∀W x,Ret prog of #[.agg x.cells] W fun r W'=>r=.agg #[vi (key x).1,vi (key x).2]∧Up W W')(v:Go.Value)(xs:List Fact)(w:World)(ho:OwnS w 0 33 19 Fact.cells v xs)(h63:xs.length≤1000000000):Ret prog 20 #[v,.func (.func of) #[] #[]] w fun r w'=>r=.tuple #[]∧Stp (Az 33 19 Fact.cells v xs) (Az 33 19 Fact.cells v (Ls key xs)) w w':=by
 have h0:=ho
 obtain⟨_,⟨rfl,hn⟩|⟨g,cap,cur,rfl,_⟩⟩:=h0
 · have hx:xs=[]:=ei hn
   subst hx
   exact(aF of w).mono fun r w'⟨e,u⟩=>⟨e,(Stp.refl ho).up u⟩
 exact Xk of key hen hord g xs.length cap xs w ho h63
end Go.Proofs.YtnocngnlpgikaaaGreatDoor
namespace Go.Wx
open Go.RowKit
section
variable {P:Program}{n:Nat}{ds:List Deferred}{l:Env}{w:World}{d:Option Tmp}{ty:TypeId}{ps:String}{af:Array Edge}{g:Option (Nat×Bool)}
theorem PEv.Ia{T e k size:Nat}{z cs:Array Value}{xs:Array (Nat×Operand)}{vs:List (Nat×Value)}(hu:P.underlying T=some (.array k e))(hz:∀w,(zeroValue T).run P w=.ok (.agg z) w)(hs:∀w,(sizeOf e).run P w=.ok size w)
   (hv:Parts l xs.toList vs)(hf:Instr.fill (fun i=>some (i*size,size)) z vs=some cs):PEv P n ds l w ⟨d,.build T xs,ty,ps,af,g⟩ (.agg cs):=fun a w' ha _=>by
 refine Ct ?_
 have e:(xs.map fun(i,x)=>(i,a.eval x))=vs.toArray:=by apply g_;rw[←hv.map ha];simp
 rw[e]
 simp only[Instr.build,Sem.run_bind,hz,Result.andThen,run_underlying hu,hs,Value.cells,hf]
 rfl
end
def O8(f:Int→Value)(i:Nat):List (Int×Value):=(List.range i).map fun j=>(((j+1:Nat):Int),f ((j+1:Nat):Int))
theorem Kp{f:Int→Value}{i:Nat}{k:Int}{v:Value}:(k,v)∈O8 f i↔1≤k∧k≤i∧v=f k:=by
 unfold O8
 rw[bj]
 constructor
 · rintro⟨j,hj,e⟩
   have:=b_.1 hj
   cases e
   exact⟨by omega,by omega,rfl⟩
 rintro⟨h1,h2,rfl⟩
 refine⟨(k-1).toNat,b_.2 oQ,?_⟩
 have:(((k-1).toNat+1:Nat):Int)=k:=by omega
 rw[this]
theorem fP{f:Int→Value}{i:Nat}{k:Int}:k∈(O8 f i).map (·.1)↔1≤k∧k≤i:=by
 rw[bj]
 constructor
 · rintro⟨⟨k',v⟩,h,rfl⟩
   have:=Kp.1 h
   exact⟨this.1,this.2.1⟩
 rintro⟨h1,h2⟩
 exact⟨(k,f k),Kp.2 ⟨h1,h2,rfl⟩,rfl⟩
theorem E9(f:Int→Value)(i:Nat):J4 (O8 f i) ((i+1:Nat):Int) (f ((i+1:Nat):Int))=O8 f (i+1):=by
 rw[V2 (fun h=>by have:=fP.1 h;omega)]
 simp[O8,ii]
end Go.Wx
namespace Go.Proofs.YtnocngnlpgikaaaGreatDoor
open Go.Proofs.Tryz
open Go.Wx Go.RowKit
def Mk(k:Int):Nat:=match k with
 |1=>49
 |2=>51
 |3=>52
 |4=>53
 |5=>55
 |6=>57
 |7=>58
 |8=>59
 |9=>61
 |10=>62
 |11=>64
 |_=>0
def Nc(k:Int):Nat:=match k with
 |1=>50
 |2=>50
 |3=>50
 |4=>54
 |5=>56
 |6=>50
 |7=>50
 |8=>60
 |9=>50
 |10=>63
 |11=>50
 |_=>0
def Vr(k:Int):Go.Value:=.agg #[.func (.func (Mk k)) #[] #[],.func (.func (Nc k)) #[] #[]]
theorem sR(B:Nat)(w:World):Ret prog 49 #[.pointer (some ⟨B,0,none⟩)] w fun r w'=>r=.pointer (some ⟨B,0,none⟩)∧Up w w':=by
 have hW:=Up.refl w
 refine cT 6 func49 rfl (Ae (Ay (Am (Aa (I rfl (U (.nc rfl) (U (.fB 0 rfl) (LW.A rfl (Af (Al (KW.q ?_)))))))))))
 exact⟨rfl,hW⟩
theorem sS(B:Nat)(w:World):Ret prog 51 #[.pointer (some ⟨B,0,none⟩)] w fun r w'=>r=.pointer (some ⟨B,1,none⟩)∧Up w w':=by
 have hW:=Up.refl w
 refine cT 6 func51 rfl (Ae (Ay (Am (Aa (I rfl (U (.nc rfl) (U (.fB 1 rfl) (LW.A rfl (Af (Al (KW.q ?_)))))))))))
 exact⟨rfl,hW⟩
theorem sT(B:Nat)(w:World):Ret prog 52 #[.pointer (some ⟨B,0,none⟩)] w fun r w'=>r=.pointer (some ⟨B,2,none⟩)∧Up w w':=by
 have hW:=Up.refl w
 refine cT 6 func52 rfl (Ae (Ay (Am (Aa (I rfl (U (.nc rfl) (U (.fB 2 rfl) (LW.A rfl (Af (Al (KW.q ?_)))))))))))
 exact⟨rfl,hW⟩
theorem sU(B:Nat)(w:World):Ret prog 53 #[.pointer (some ⟨B,0,none⟩)] w fun r w'=>r=.pointer (some ⟨B,3,none⟩)∧Up w w':=by
 have hW:=Up.refl w
 refine cT 6 func53 rfl (Ae (Ay (Am (Aa (I rfl (U (.nc rfl) (U (.fB 3 rfl) (LW.A rfl (Af (Al (KW.q ?_)))))))))))
 exact⟨rfl,hW⟩
theorem sV(B:Nat)(w:World):Ret prog 55 #[.pointer (some ⟨B,0,none⟩)] w fun r w'=>r=.pointer (some ⟨B,4,none⟩)∧Up w w':=by
 have hW:=Up.refl w
 refine cT 6 func55 rfl (Ae (Ay (Am (Aa (I rfl (U (.nc rfl) (U (.fB 4 rfl) (LW.A rfl (Af (Al (KW.q ?_)))))))))))
 exact⟨rfl,hW⟩
theorem sW(B:Nat)(w:World):Ret prog 57 #[.pointer (some ⟨B,0,none⟩)] w fun r w'=>r=.pointer (some ⟨B,5,none⟩)∧Up w w':=by
 have hW:=Up.refl w
 refine cT 6 func57 rfl (Ae (Ay (Am (Aa (I rfl (U (.nc rfl) (U (.fB 5 rfl) (LW.A rfl (Af (Al (KW.q ?_)))))))))))
 exact⟨rfl,hW⟩
theorem sX(B:Nat)(w:World):Ret prog 58 #[.pointer (some ⟨B,0,none⟩)] w fun r w'=>r=.pointer (some ⟨B,6,none⟩)∧Up w w':=by
 have hW:=Up.refl w
 refine cT 6 func58 rfl (Ae (Ay (Am (Aa (I rfl (U (.nc rfl) (U (.fB 6 rfl) (LW.A rfl (Af (Al (KW.q ?_)))))))))))
 exact⟨rfl,hW⟩
theorem sY(B:Nat)(w:World):Ret prog 59 #[.pointer (some ⟨B,0,none⟩)] w fun r w'=>r=.pointer (some ⟨B,7,none⟩)∧Up w w':=by
 have hW:=Up.refl w
 refine cT 6 func59 rfl (Ae (Ay (Am (Aa (I rfl (U (.nc rfl) (U (.fB 7 rfl) (LW.A rfl (Af (Al (KW.q ?_)))))))))))
 exact⟨rfl,hW⟩
theorem sZ(B:Nat)(w:World):Ret prog 61 #[.pointer (some ⟨B,0,none⟩)] w fun r w'=>r=.pointer (some ⟨B,8,none⟩)∧Up w w':=by
 have hW:=Up.refl w
 refine cT 6 func61 rfl (Ae (Ay (Am (Aa (I rfl (U (.nc rfl) (U (.fB 8 rfl) (LW.A rfl (Af (Al (KW.q ?_)))))))))))
 exact⟨rfl,hW⟩
theorem oP(B:Nat)(w:World):Ret prog 62 #[.pointer (some ⟨B,0,none⟩)] w fun r w'=>r=.pointer (some ⟨B,9,none⟩)∧Up w w':=by
 have hW:=Up.refl w
 refine cT 6 func62 rfl (Ae (Ay (Am (Aa (I rfl (U (.nc rfl) (U (.fB 9 rfl) (LW.A rfl (Af (Al (KW.q ?_)))))))))))
 exact⟨rfl,hW⟩
theorem oR(B:Nat)(w:World):Ret prog 64 #[.pointer (some ⟨B,0,none⟩)] w fun r w'=>r=.pointer (some ⟨B,10,none⟩)∧Up w w':=by
 have hW:=Up.refl w
 refine cT 6 func64 rfl (Ae (Ay (Am (Aa (I rfl (U (.nc rfl) (U (.fB 10 rfl) (LW.A rfl (Af (Al (KW.q ?_)))))))))))
 exact⟨rfl,hW⟩
theorem Xl(k:Int)(h1:1≤k)(h2:k≤11)(B:Nat)(w:World):Ret prog (Mk k) #[.pointer (some ⟨B,0,none⟩)] w fun r w'=>r=.pointer (some ⟨B,(k-1).toNat,none⟩)∧Up w w':=by
 obtain rfl|rfl|rfl|rfl|rfl|rfl|rfl|rfl|rfl|rfl|rfl:k=1∨k=2∨k=3∨k=4∨k=5∨k=6∨k=7∨k=8∨k=9∨k=10∨k=11:=by omega
 · exact sR B w
 · exact sS B w
 · exact sT B w
 · exact sU B w
 · exact sV B w
 · exact sW B w
 · exact sX B w
 · exact sY B w
 · exact sZ B w
 · exact oP B w
 exact oR B w
theorem cW(k:Int)(h1:1≤k)(h2:k≤11):∀(args:Array Go.Value)(w:World),(callFunc (Mk k) args).run prog w=.ok (.enter (Mk k) args) w:=by
 obtain rfl|rfl|rfl|rfl|rfl|rfl|rfl|rfl|rfl|rfl|rfl:k=1∨k=2∨k=3∨k=4∨k=5∨k=6∨k=7∨k=8∨k=9∨k=10∨k=11:=by omega
 · exact AO
 · exact AP
 · exact AQ
 · exact AR
 · exact AV
 · exact AX
 · exact AY
 · exact AZ
 · exact BC
 · exact BD
 exact BF
theorem Q7(x:Fact)(w:World):Ret prog 50 #[.agg x.cells] w fun r w'=>r=.agg #[vi (Km 1 x).1,vi (Km 1 x).2]∧Up w w':=by
 have hW:=Up.refl w
 refine cT 6 func50 rfl (Ae (Aq (.bA rfl) rfl ?_))
 rintro _ w1 ⟨B1,rfl,NB1⟩
 have eB1:=NB1.at_
 have zB1:=NB1.size
 replace hW:=hW.up NB1.up
 have hB1:=NB1.blk
 refine Aq (.Bt k7) rfl ?_
 rintro _ w2 ⟨B2,rfl,NB2⟩
 have eB2:=NB2.at_
 replace hW:=hW.up NB2.up
 replace hB1:=hB1.up NB2.up
 have hB2:=NB2.blk
 refine Am (Aa (U (.fB 1 rfl) (U (.lb rfl (hB1.Ad rfl)) (U (.Ia (cs:=#[vi x.ID,vi 0]) lg k7 jw (.ct rfl (.cons (.const _) .nil)) rfl) (Cb (.Ca lw rfl (.t rfl) (.t rfl) eQ hB2 rfl) ?_)))))
 intro w3 Nw3
 replace hW:=hW.sto Nw3.sto oQ
 replace hB1:=hB1.sto Nw3.sto oQ
 replace hB2:=Nw3.blk
 refine Af (Al (Fz rfl rfl isAgg136 lw rfl (hB2.agg) ⟨_,rfl,?_⟩))
 exact⟨rfl,hW⟩
theorem yM(x:Fact)(w:World):Ret prog 54 #[.agg x.cells] w fun r w'=>r=.agg #[vi (Km 4 x).1,vi (Km 4 x).2]∧Up w w':=by
 have hW:=Up.refl w
 refine cT 8 func54 rfl (Ae (Aq (.bA rfl) rfl ?_))
 rintro _ w1 ⟨B1,rfl,NB1⟩
 have eB1:=NB1.at_
 have zB1:=NB1.size
 replace hW:=hW.up NB1.up
 have hB1:=NB1.blk
 refine Aq (.Bt k7) rfl ?_
 rintro _ w2 ⟨B2,rfl,NB2⟩
 have eB2:=NB2.at_
 replace hW:=hW.up NB2.up
 replace hB1:=hB1.up NB2.up
 have hB2:=NB2.blk
 refine Am (Aa (U (.fB 7 rfl) (U (.lb rfl (hB1.Ad rfl)) (U (.fB 5 rfl) (U (.lb rfl (hB1.Ad rfl)) (U (.Ia (cs:=#[vi x.Wafer,vi x.Time]) lg k7 jw (.ct rfl (.cu rfl)) rfl) (Cb (.Ca lw rfl (.t rfl) (.t rfl) eQ hB2 rfl) ?_)))))))
 intro w3 Nw3
 replace hW:=hW.sto Nw3.sto oQ
 replace hB1:=hB1.sto Nw3.sto oQ
 replace hB2:=Nw3.blk
 refine Af (Al (Fz rfl rfl isAgg136 lw rfl (hB2.agg) ⟨_,rfl,?_⟩))
 exact⟨rfl,hW⟩
theorem yN(x:Fact)(w:World):Ret prog 56 #[.agg x.cells] w fun r w'=>r=.agg #[vi (Km 5 x).1,vi (Km 5 x).2]∧Up w w':=by
 have hW:=Up.refl w
 refine cT 6 func56 rfl (Ae (Aq (.bA rfl) rfl ?_))
 rintro _ w1 ⟨B1,rfl,NB1⟩
 have eB1:=NB1.at_
 have zB1:=NB1.size
 replace hW:=hW.up NB1.up
 have hB1:=NB1.blk
 refine Aq (.Bt k7) rfl ?_
 rintro _ w2 ⟨B2,rfl,NB2⟩
 have eB2:=NB2.at_
 replace hW:=hW.up NB2.up
 replace hB1:=hB1.up NB2.up
 have hB2:=NB2.blk
 refine Am (Aa (U (.fB 10 rfl) (U (.lb rfl (hB1.Ad rfl)) (U (.Ia (cs:=#[vi x.Product,vi 0]) lg k7 jw (.ct rfl (.cons (.const _) .nil)) rfl) (Cb (.Ca lw rfl (.t rfl) (.t rfl) eQ hB2 rfl) ?_)))))
 intro w3 Nw3
 replace hW:=hW.sto Nw3.sto oQ
 replace hB1:=hB1.sto Nw3.sto oQ
 replace hB2:=Nw3.blk
 refine Af (Al (Fz rfl rfl isAgg136 lw rfl (hB2.agg) ⟨_,rfl,?_⟩))
 exact⟨rfl,hW⟩
theorem yO(x:Fact)(w:World):Ret prog 60 #[.agg x.cells] w fun r w'=>r=.agg #[vi (Km 8 x).1,vi (Km 8 x).2]∧Up w w':=by
 have hW:=Up.refl w
 refine cT 8 func60 rfl (Ae (Aq (.bA rfl) rfl ?_))
 rintro _ w1 ⟨B1,rfl,NB1⟩
 have eB1:=NB1.at_
 have zB1:=NB1.size
 replace hW:=hW.up NB1.up
 have hB1:=NB1.blk
 refine Aq (.Bt k7) rfl ?_
 rintro _ w2 ⟨B2,rfl,NB2⟩
 have eB2:=NB2.at_
 replace hW:=hW.up NB2.up
 replace hB1:=hB1.up NB2.up
 have hB2:=NB2.blk
 refine Am (Aa (U (.fB 8 rfl) (U (.lb rfl (hB1.Ad rfl)) (U (.fB 17 rfl) (U (.lb rfl (hB1.Ad rfl)) (U (.Ia (cs:=#[vi x.Other,vi x.Parties]) lg k7 jw (.ct rfl (.cu rfl)) rfl) (Cb (.Ca lw rfl (.t rfl) (.t rfl) eQ hB2 rfl) ?_)))))))
 intro w3 Nw3
 replace hW:=hW.sto Nw3.sto oQ
 replace hB1:=hB1.sto Nw3.sto oQ
 replace hB2:=Nw3.blk
 refine Af (Al (Fz rfl rfl isAgg136 lw rfl (hB2.agg) ⟨_,rfl,?_⟩))
 exact⟨rfl,hW⟩
theorem tA(x:Fact)(w:World):Ret prog 63 #[.agg x.cells] w fun r w'=>r=.agg #[vi (Km 10 x).1,vi (Km 10 x).2]∧Up w w':=by
 have hW:=Up.refl w
 refine cT 8 func63 rfl (Ae (Aq (.bA rfl) rfl ?_))
 rintro _ w1 ⟨B1,rfl,NB1⟩
 have eB1:=NB1.at_
 have zB1:=NB1.size
 replace hW:=hW.up NB1.up
 have hB1:=NB1.blk
 refine Aq (.Bt k7) rfl ?_
 rintro _ w2 ⟨B2,rfl,NB2⟩
 have eB2:=NB2.at_
 replace hW:=hW.up NB2.up
 replace hB1:=hB1.up NB2.up
 have hB2:=NB2.blk
 refine Am (Aa (U (.fB 14 rfl) (U (.lb rfl (hB1.Ad rfl)) (U (.fB 5 rfl) (U (.lb rfl (hB1.Ad rfl)) (U (.Ia (cs:=#[vi x.Recipe,vi x.Time]) lg k7 jw (.ct rfl (.cu rfl)) rfl) (Cb (.Ca lw rfl (.t rfl) (.t rfl) eQ hB2 rfl) ?_)))))))
 intro w3 Nw3
 replace hW:=hW.sto Nw3.sto oQ
 replace hB1:=hB1.sto Nw3.sto oQ
 replace hB2:=Nw3.blk
 refine Af (Al (Fz rfl rfl isAgg136 lw rfl (hB2.agg) ⟨_,rfl,?_⟩))
 exact⟨rfl,hW⟩
theorem oS(k:Int)(h1:1≤k)(h2:k≤11)(x:Fact)(w:World):Ret prog (Nc k) #[.agg x.cells] w fun r w'=>r=.agg #[vi (Km k x).1,vi (Km k x).2]∧Up w w':=by
 obtain rfl|rfl|rfl|rfl|rfl|rfl|rfl|rfl|rfl|rfl|rfl:k=1∨k=2∨k=3∨k=4∨k=5∨k=6∨k=7∨k=8∨k=9∨k=10∨k=11:=by omega
 · exact Q7 x w
 · exact Q7 x w
 · exact Q7 x w
 · exact yM x w
 · exact yN x w
 · exact Q7 x w
 · exact Q7 x w
 · exact yO x w
 · exact Q7 x w
 · exact tA x w
 exact Q7 x w
theorem tB(k:Int)(h1:1≤k)(h2:k≤11):∀(args:Array Go.Value)(w:World),(callFunc (Nc k) args).run prog w=.ok (.enter (Nc k) args) w:=by
 obtain rfl|rfl|rfl|rfl|rfl|rfl|rfl|rfl|rfl|rfl|rfl:k=1∨k=2∨k=3∨k=4∨k=5∨k=6∨k=7∨k=8∨k=9∨k=10∨k=11:=by omega
 · exact Yz
 · exact Yz
 · exact Yz
 · exact AU
 · exact AW
 · exact Yz
 · exact Yz
 · exact BB
 · exact Yz
 · exact BE
 exact Yz
theorem fQ(w:World):Ret prog 19 #[] w fun r w'=>∃b,r=.map (some b)∧IMap w' b (O8 Vr 11)∧w.heap.size≤b∧Up w w':=by
 have hW:=Up.refl w
 refine cT 14 func19 rfl (Ae (Ay (Am ?_)))
 skip
 refine Aa (LW.r REv.makeMap rfl rfl rfl rfl ?_)
 rintro _ w1 ⟨B1,rfl,MB1,uB1,eB1,zB1⟩
 replace hW:=hW.up uB1
 have hM1:=MB1
 refine U (.build (cs:=#[.func (.func 49) #[] #[],.func (.func 50) #[] #[]]) kq k8 Db (.cons (.func _) (.cons (.func _) .nil)) rfl) ?_
 replace hM1:IMap _ B1 (O8 Vr 0):=hM1
 refine Cb (.insert (k:=((0+1:Nat):Int)) (v:=Vr ((0+1:Nat):Int)) kr jy (.t rfl) (.const _) (.t rfl) hM1) ?_
 rintro w2 ⟨Mw2,Kw2,zw2⟩
 rw[E9]at Mw2
 replace hM1:=Mw2
 replace hW:=hW.sto Kw2 oQ
 refine U (.build (cs:=#[.func (.func 51) #[] #[],.func (.func 50) #[] #[]]) kq k8 Db (.cons (.func _) (.cons (.func _) .nil)) rfl) (Cb (.insert (k:=((1+1:Nat):Int)) (v:=Vr ((1+1:Nat):Int)) kr jy (.t rfl) (.const _) (.t rfl) hM1) ?_)
 rintro w3 ⟨Mw3,Kw3,zw3⟩
 rw[E9]at Mw3
 replace hM1:=Mw3
 replace hW:=hW.sto Kw3 oQ
 refine U (.build (cs:=#[.func (.func 52) #[] #[],.func (.func 50) #[] #[]]) kq k8 Db (.cons (.func _) (.cons (.func _) .nil)) rfl) (Cb (.insert (k:=((2+1:Nat):Int)) (v:=Vr ((2+1:Nat):Int)) kr jy (.t rfl) (.const _) (.t rfl) hM1) ?_)
 rintro w4 ⟨Mw4,Kw4,zw4⟩
 rw[E9]at Mw4
 replace hM1:=Mw4
 replace hW:=hW.sto Kw4 oQ
 refine U (.build (cs:=#[.func (.func 53) #[] #[],.func (.func 54) #[] #[]]) kq k8 Db (.cons (.func _) (.cons (.func _) .nil)) rfl) (Cb (.insert (k:=((3+1:Nat):Int)) (v:=Vr ((3+1:Nat):Int)) kr jy (.t rfl) (.const _) (.t rfl) hM1) ?_)
 rintro w5 ⟨Mw5,Kw5,zw5⟩
 rw[E9]at Mw5
 replace hM1:=Mw5
 replace hW:=hW.sto Kw5 oQ
 refine U (.build (cs:=#[.func (.func 55) #[] #[],.func (.func 56) #[] #[]]) kq k8 Db (.cons (.func _) (.cons (.func _) .nil)) rfl) (Cb (.insert (k:=((4+1:Nat):Int)) (v:=Vr ((4+1:Nat):Int)) kr jy (.t rfl) (.const _) (.t rfl) hM1) ?_)
 rintro w6 ⟨Mw6,Kw6,zw6⟩
 rw[E9]at Mw6
 replace hM1:=Mw6
 replace hW:=hW.sto Kw6 oQ
 refine U (.build (cs:=#[.func (.func 57) #[] #[],.func (.func 50) #[] #[]]) kq k8 Db (.cons (.func _) (.cons (.func _) .nil)) rfl) (Cb (.insert (k:=((5+1:Nat):Int)) (v:=Vr ((5+1:Nat):Int)) kr jy (.t rfl) (.const _) (.t rfl) hM1) ?_)
 rintro w7 ⟨Mw7,Kw7,zw7⟩
 rw[E9]at Mw7
 replace hM1:=Mw7
 replace hW:=hW.sto Kw7 oQ
 refine U (.build (cs:=#[.func (.func 58) #[] #[],.func (.func 50) #[] #[]]) kq k8 Db (.cons (.func _) (.cons (.func _) .nil)) rfl) (Cb (.insert (k:=((6+1:Nat):Int)) (v:=Vr ((6+1:Nat):Int)) kr jy (.t rfl) (.const _) (.t rfl) hM1) ?_)
 rintro w8 ⟨Mw8,Kw8,zw8⟩
 rw[E9]at Mw8
 replace hM1:=Mw8
 replace hW:=hW.sto Kw8 oQ
 refine U (.build (cs:=#[.func (.func 59) #[] #[],.func (.func 60) #[] #[]]) kq k8 Db (.cons (.func _) (.cons (.func _) .nil)) rfl) (Cb (.insert (k:=((7+1:Nat):Int)) (v:=Vr ((7+1:Nat):Int)) kr jy (.t rfl) (.const _) (.t rfl) hM1) ?_)
 rintro w9 ⟨Mw9,Kw9,zw9⟩
 rw[E9]at Mw9
 replace hM1:=Mw9
 replace hW:=hW.sto Kw9 oQ
 refine U (.build (cs:=#[.func (.func 61) #[] #[],.func (.func 50) #[] #[]]) kq k8 Db (.cons (.func _) (.cons (.func _) .nil)) rfl) (Cb (.insert (k:=((8+1:Nat):Int)) (v:=Vr ((8+1:Nat):Int)) kr jy (.t rfl) (.const _) (.t rfl) hM1) ?_)
 rintro w10 ⟨Mw10,Kw10,zw10⟩
 rw[E9]at Mw10
 replace hM1:=Mw10
 replace hW:=hW.sto Kw10 oQ
 refine U (.build (cs:=#[.func (.func 62) #[] #[],.func (.func 63) #[] #[]]) kq k8 Db (.cons (.func _) (.cons (.func _) .nil)) rfl) (Cb (.insert (k:=((9+1:Nat):Int)) (v:=Vr ((9+1:Nat):Int)) kr jy (.t rfl) (.const _) (.t rfl) hM1) ?_)
 rintro w11 ⟨Mw11,Kw11,zw11⟩
 rw[E9]at Mw11
 replace hM1:=Mw11
 replace hW:=hW.sto Kw11 oQ
 refine U (.build (cs:=#[.func (.func 64) #[] #[],.func (.func 50) #[] #[]]) kq k8 Db (.cons (.func _) (.cons (.func _) .nil)) rfl) (Cb (.insert (k:=((10+1:Nat):Int)) (v:=Vr ((10+1:Nat):Int)) kr jy (.t rfl) (.const _) (.t rfl) hM1) ?_)
 rintro w12 ⟨Mw12,Kw12,zw12⟩
 rw[E9]at Mw12
 replace hM1:=Mw12
 replace hW:=hW.sto Kw12 oQ
 refine I rfl (LW.A rfl (Af (Al (KW.q ?_))))
 exact⟨_,rfl,hM1,by omega,hW⟩
set_option maxHeartbeats 8000000 in
theorem oT(ad:Option Addr)(cp:Nat)(l:List Fact)(day:Int)(w:World)(hE0:Els w ad 19 Fact.cells l)(hl:l.length≤100000):Ret prog 7 #[.slice ad l.length cp,vi day] w fun r w'=>∃bc ds,r=.agg bc∧BaseC w' bc (Xh ds)∧(∀f∈ds,(Cf f,f)∈Gu l day)∧(ds.map Cf).Perm ((Gu l day).map (·.1))∧cV w.heap.size bc∧(∃v,bc[0]?=some v∧OwnS w' 0 33 19 Fact.cells v (Xh ds).Processes)∧Up w w':=by
 obtain⟨w0,rfl,hS⟩:=W0 w
 refine cT 91 func7 rfl (Ae (Aq (.Bt zeroValue35) rfl ?_))
 rintro _ w1 ⟨B4,rfl,NB4⟩
 replace hS:=hS.Cc NB4
 refine Am (Aa (LW.r Ms.REv.makeMap rfl rfl rfl rfl ?_))
 rintro _ w2 ⟨B18,rfl,M18,u18,e18,z18⟩
 replace hS:=hS.add u18 (A':=Ms.Lr B18 (N7 [])) M18 (fun i(e:i=B18)=>by omega)
 refine LW.A rfl (Am (Ae (I rfl (U (.Cn jv (.t rfl)) (U (.move (.const _)) (Af (Ah (A5 (σ:=Nat) (fun s w=>(s≤l.length)∧(Wx.Sep no w0 w [A4 B4 #[.slice none 0 0,.slice none 0 0,.slice none 0 0,.slice none 0 0,.slice none 0 0,.slice none 0 0,.slice none 0 0,.slice none 0 0,.slice none 0 0,.slice none 0 0,.slice none 0 0] 35,Ms.Lr B18 (N7 (Gu (l.take s) day))])) (fun s=>[(21,.eq (vi (s:Int)))]) ([(1,.eq _),(4,.eq _),(5,.eq _),(19,.eq _),(20,.eq _)]) (fun s=>l.length-s) 0 ?_ tQ ?_))))))))
 ·exact⟨au _,hS⟩
 rintro k w3 ⟨hkk,hS⟩
 refine Ae (U (.l2 rfl rfl) (Am (CW.b rfl (fun h22=>?_) (fun h22=>?_))))
 ·replace h22:=dQ h22
  refine Ai (Ac (Ak (Ah (Ak ?_))))
  have hE:=Els.up hE0 hS.Cl
  have hkl:k<l.length:=by simp at h22;omega
  refine Aa ?_
  obtain⟨x,hx⟩:=An (xs:=l) (i:=k) oQ
  obtain⟨Bx,ox,ax,hcx⟩:=hE _ x hx
  refine U (.Ar jv jz (.t rfl) (.t rfl) oQ ax) (U (.lc rfl (hcx)) (Aq (.Bt j4) rfl ?_))
  rintro _ w4 ⟨B7,rfl,MB7⟩
  refine Cb (.Ca jz rfl (.t rfl) (.t rfl) eQ MB7.blk rfl) ?_
  intro w5 LB7
  have NB7:=MB7.set LB7
  replace hcx:=hcx.up NB7.up
  replace hS:=hS.Cc NB7
  refine Am (Aa (U (.lc rfl (hS.b2.agg)) (A3 (eC (.o rfl) (rN)) rfl (U3 x _) ?_)))
  rintro _ w6 ⟨rfl,uw6⟩
  replace hS:=hS.up uw6
  refine LW.A rfl (Am (Ak ?_))
  cases hq6:decide (Cf x=[])with
  |true=>
   replace hq6:=bw hq6
   refine Aa (I rfl (U (.tr (Dv (.t rfl) (.const _)) (fK hq6)) (I rfl (Bh (Bh (Bh (Bh (U (.tr (PEv.D5 (b:=false) (.t rfl) (fun hp=>absurd (show true=false from hp) cQ)) (rfl)) (Af (CW.v rfl (A8 (Ab (Ao (Ac (Aa (U (.ic rfl oQ) (I rfl (LW.nil (Av ?_)))))))))))))))))))
   exact⟨k+1,⟨by omega,by rw[I9 hx];(rw[N8 (.inl hq6)];exact hS.take 2)⟩,tQ,by omega⟩
  |false=>
   replace hq6:=cc hq6
   refine Aa (I rfl (U (.fa (Dv (.t rfl) (.const _)) (kP hq6)) (I rfl (Ap (U (.fB 3 rfl) (Ap (U (.lb rfl (hS.b2.Ad rfl)) (Ap (I rfl (Ap (U (.gtr (.t rfl) (.t rfl)) (U (.po rfl (fun hp=>(by exact .tmp rfl))) (Af (CW.b rfl (fun h34=>?_) (fun h34=>?_)))))))))))))))
   ·replace h34:=dQ h34
    skip
    refine A8 (Ab (Ao (Ac (Aa (U (.ic rfl oQ) (I rfl (LW.nil (Av ?_))))))))
    exact⟨k+1,⟨by omega,by rw[I9 hx];(rw[N8 (.inr h34)];exact hS.take 2)⟩,tQ,by omega⟩
   replace h34:=dQ h34
   have hno:¬(Cf x=[]∨day<x.Day):=fun h=>h.elim hq6 (fun h2=>by simp at h34;omega)
   refine Ai (Ac (Ak ?_))
   cases hq7:Qv (Gu (l.take k) day) (Cf x)with
   |none=>
    refine Aa (I rfl (I rfl (U (Ms.PEv.Qd mi j7 j4 (.t rfl) (.t rfl) (hS.get 1 rfl) (To hq7)) (I rfl (U (.xt rfl rfl) (U (.xt rfl rfl) (Aq (.Bt j4) rfl ?_)))))))
    rintro _ w7 ⟨B9,rfl,MB9⟩
    refine Cb (.Ca jz rfl (.t rfl) (.t rfl) eQ MB9.blk rfl) ?_
    intro w8 LB9
    have NB9:=MB9.set LB9
    replace hS:=hS.Cc NB9
    refine LW.A rfl (Am (Aa (I rfl (U (.tr (PEv.n1 rfl) (rfl)) (I rfl (Bh (Bh (Bh (U (.tr (PEv.D5 (b:=false) (.t rfl) (fun hp=>absurd (show true=false from hp) cQ)) (rfl)) (Af (CW.v rfl (Aa (I rfl (I rfl (U (.lc rfl (hS.b2.agg)) (Cb (Ms.SEv.mapUpdate mi j7 (.t rfl) (.t rfl) (.t rfl) (hS.get 1 rfl)) ?_))))))))))))))))
    rintro w9 ⟨Mu,Ku,zu⟩
    rw[Xb]at Mu
    replace hS:=hS.F9 1 rfl (Ms.cE Mu Ku)
    refine LW.nil (Aj (Ac (Aa (U (.ic rfl oQ) (I rfl (LW.nil (Av ?_)))))))
    exact⟨k+1,⟨by omega,by rw[I9 hx];(rw[Xc hno hq7];exact hS.take 2)⟩,tQ,by omega⟩
   |some old=>
    refine Aa (I rfl (I rfl (U (Ms.PEv.Hx mi j7 (.t rfl) (.t rfl) (hS.get 1 rfl) (fJ hq7)) (I rfl (U (.xt rfl rfl) (U (.xt rfl rfl) (Aq (.Bt j4) rfl ?_)))))))
    rintro _ w10 ⟨B9,rfl,MB9⟩
    refine Cb (.Ca jz rfl (.t rfl) (.t rfl) eQ MB9.blk rfl) ?_
    intro w11 LB9
    have NB9:=MB9.set LB9
    replace hS:=hS.Cc NB9
    refine LW.A rfl (Am (Aa (I rfl (U (.fa (PEv.n1 rfl) (rfl)) (I rfl (Ap (U (.lc rfl (hS.b2.agg)) (Ap (U (.lc rfl (hS.b3.agg)) (Ap (A3 (eC (.u rfl rfl) (zY)) rfl (U4 x old _) ?_)))))))))))
    rintro _ w12 ⟨rfl,uw12⟩
    replace hS:=hS.up uw12
    refine U (.po rfl (fun hp=>(by exact .tmp rfl))) (Af (CW.b rfl (fun h47=>?_) (fun h47=>?_)))
    ·replace h47:Dx x old=true:=by simpa using h47
     refine Aa (I rfl (I rfl (U (.lc rfl (hS.b2.agg)) (Cb (Ms.SEv.mapUpdate mi j7 (.t rfl) (.t rfl) (.t rfl) (hS.get 1 rfl)) ?_))))
     rintro w13 ⟨Mu,Ku,zu⟩
     rw[Xb]at Mu
     replace hS:=hS.F9 1 rfl (Ms.cE Mu Ku)
     refine LW.nil (Aj (Ac (Aa (U (.ic rfl oQ) (I rfl (LW.nil (Av ?_)))))))
     exact⟨k+1,⟨by omega,by rw[I9 hx];(rw[Xd hno hq7 h47];exact hS.take 2)⟩,tQ,by omega⟩
    replace h47:Dx x old=false:=by simpa using h47
    refine Ai (Aj (Ac (Aa (U (.ic rfl oQ) (I rfl (LW.nil (Av ?_)))))))
    exact⟨k+1,⟨by omega,by rw[I9 hx];(rw[Xe hno hq7 h47];exact hS.take 2)⟩,tQ,by omega⟩
 refine A8 (Ab (Ab (Ao (Ac (Ak ?_)))))
 have hkl:k=l.length:=by simp at h22;omega
 subst hkl
 rw[bt]at hS
 obtain⟨M,hM⟩:∃M,M=Gu l day:=⟨_,rfl⟩
 rw[←hM]at hS
 have hMo:=(Pt day l).1
 have hMl:=(Pt day l).2
 rw[←hM]at hMo hMl
 refine Aa (Aq (.Bt zeroValue35) rfl ?_)
 rintro _ w14 ⟨B11,rfl,NB11⟩
 replace hS:=hS.Cc NB11
 refine Am (Aa (A3 (eC .nil (zZ)) rfl (fQ _) ?_))
 rintro _ w15 ⟨bk,rfl,hKm,hKb,uw15⟩
 replace hS:=hS.add uw15 (A':=Lr bk (O8 Vr 11)) (hKm) (fun i(e:i=bk)=>by omega)
 refine LW.A rfl (Am (Ak ?_))
 have hLn:=eK 33 19 Fact.cells 11 w15
 replace hS:=hS.add (Up.refl _) (A':=Df (lists 33 19 Fact.cells (List.replicate 11 (.slice none 0 0)) (List.replicate 11 ([]:List Fact)))) hLn.1 (fun i h=>absurd h (hLn.2 i))
 rw[←oM]at hS
 refine Aa (I rfl (Aq (Ms.REv.range mi (.t rfl) (hS.get 1 rfl)) rfl ?_))
 rintro _ w16 ⟨r54,rfl,hR_,uR,eR,zR⟩
 replace hS:=hS.F9 1 rfl (Ms.N1 hR_ uR eR)
 refine Af (Ah (A5 (σ:=List Fact×List Go.Value) (fun s w=>(∀f∈s.1,(Cf f,f)∈M)∧((s.1.map Cf).Nodup)∧(s.2.length=11)∧(Wx.Sep no w0 w [A4 B4 #[.slice none 0 0,.slice none 0 0,.slice none 0 0,.slice none 0 0,.slice none 0 0,.slice none 0 0,.slice none 0 0,.slice none 0 0,.slice none 0 0,.slice none 0 0,.slice none 0 0] 35,Ms.Kg B18 r54 (N7 M) (s.1.map Cf),A4 B11 s.2.toArray 35,Lr bk (O8 Vr 11),Df (lists 33 19 Fact.cells s.2 (Xg [] s.1))])) (fun s=>[]) ([(4,.eq _),(11,.eq _),(12,.eq _),(54,.eq _)]) (fun s=>M.length-s.1.length) ([],List.replicate 11 (.slice none 0 0)) ?_ tQ ?_))
 ·exact⟨fun f h=>by simp at h,gh,rfl,hS⟩
 rintro⟨ds,vs⟩ w17 ⟨hds,hdn,hvl,hS⟩
 dsimp only at hds hdn hvl hS
 refine Ae (Aq (Ms.REv.next (.t rfl) (hS.get 1 rfl)) rfl ?_)
 rintro _ w18 (⟨rfl,rfl,hPm⟩|⟨k0,u0,rfl,hNx⟩)
 ·skip
  refine U (.xt rfl rfl) (Am (CW.f rfl (A8 (Ab (Ab (Ao (Ac (Ak (Ak ?_)))))))))
  have hPd:=hPm
  refine Aa (I rfl (Aq (.range kr (.t rfl) (hS.get 3 rfl)) rfl ?_))
  rintro _ w19 ⟨r77,rfl,hR_,uR,eR,zR⟩
  replace hS:=hS.F9 3 rfl (N1 hR_ uR eR)
  refine Af (Ah (A5 (σ:=List Int) (fun s w=>(s.Nodup∧∀k∈s,1≤k∧k≤11)∧(Wx.Sep no w0 w [A4 B4 #[.slice none 0 0,.slice none 0 0,.slice none 0 0,.slice none 0 0,.slice none 0 0,.slice none 0 0,.slice none 0 0,.slice none 0 0,.slice none 0 0,.slice none 0 0,.slice none 0 0] 35,Ms.Kg B18 r54 (N7 M) (ds.map Cf),A4 B11 vs.toArray 35,Kg bk r77 (O8 Vr 11) s,Df (lists 33 19 Fact.cells vs (Xg s ds))])) (fun s=>[]) ([(4,.eq _),(11,.eq _),(77,.eq _)]) (fun s=>11-s.length) [] ?_ tQ ?_))
  ·exact⟨⟨gh,fun k h=>by simp at h⟩,hS⟩
  rintro dn w20 ⟨hdk,hS⟩
  refine Ae (Aq (.next (.t rfl) (hS.get 3 rfl)) rfl ?_)
  rintro _ w21 (⟨rfl,rfl,hPm⟩|⟨kk,u0,rfl,hNx⟩)
  ·skip
   refine U (.xt rfl rfl) (Am (CW.f rfl (A8 (Ab (Ab (Ao (Ac (Ak ?_))))))))
   obtain⟨v0,v1,v2,v3,v4,v5,v6,v7,v8,v9,v10,rfl⟩:=U6 hvl
   have hv1:=Te (hS.get 4 rfl) (by rw[hvl,Hu])
   refine Aa (U (.lc rfl (hS.b2.agg)) (Cb (.Ca k6 rfl (.t rfl) (.t rfl) (oO hv1) hS.b0 rfl) ?_))
   intro w22 Nw22
   have zw22:=Nw22.size
   replace hS:=hS.D9 0 rfl Nw22
   refine Af (Al (Fz rfl rfl lq k6 rfl (hS.b0.agg) ⟨_,rfl,?_⟩))
   have hOw:=hS.get 4 rfl
   have hin:∀k:Nat,k<11→((k+1:Nat):Int)∈dn:=fun k hk=>hPm.symm.subset (bj.2 ⟨(((k+1:Nat):Int),Vr ((k+1:Nat):Int)),Kp.2 ⟨by omega,by omega,rfl⟩,rfl⟩)
   exact⟨_,ds,rfl,⟨v0,v1,v2,v3,v4,v5,v6,v7,v8,v9,v10,rfl,Fw hOw (j:=0) rfl cQ (hin 0 cQ),Fw hOw (j:=1) rfl cQ (hin 1 cQ),Fw hOw (j:=2) rfl cQ (hin 2 cQ),Fw hOw (j:=3) rfl cQ (hin 3 cQ),Fw hOw (j:=4) rfl cQ (hin 4 cQ),Fw hOw (j:=5) rfl cQ (hin 5 cQ),Fw hOw (j:=6) rfl cQ (hin 6 cQ),Fw hOw (j:=7) rfl cQ (hin 7 cQ),Fw hOw (j:=8) rfl cQ (hin 8 cQ),Fw hOw (j:=9) rfl cQ (hin 9 cQ),Fw hOw (j:=10) rfl cQ (hin 10 cQ)⟩,fun f hf=>hM▸hds f hf,by rw[Ld]at hPd;exact hM▸hPd,Z8 (by rw[Hu];rfl) (fun i hi=>(hS.foot 4 rfl i hi).resolve_left fun h=>h),⟨v0,rfl,kS hOw (j:=0) rfl cQ (hin 0 cQ)⟩,hS.Cl⟩
  skip
  have zw21:=hNx.size
  replace hS:=hS.F9 3 rfl (Qm hNx)
  obtain⟨hk1,hk2,hu0⟩:=Kp.1 hNx.mem
  subst hu0
  have hfr2:=hNx.fresh
  have hkk1:1≤kk∧kk≤11:=⟨hk1,by omega⟩
  replace hk2:kk≤11:=by omega
  obtain⟨j,hj⟩:∃j,j=(kk-1).toNat:=⟨_,rfl⟩
  have hj11:j<11:=by omega
  have hkk2:kk=((j+1:Nat):Int):=by omega
  have hdl:=Qx hds hdn
  obtain⟨v,hvj⟩:=An (xs:=vs) (i:=j) oQ
  have hdk2:(dn++[kk]).Nodup∧∀k∈dn++[kk],1≤k∧k≤11:=⟨ge.2 ⟨hdk.1,by simp,fun a ha c hc=>by simp at hc;subst hc;exact fun e=>hfr2 (e▸ha)⟩,fun k hk=>(bp.1 hk).elim (hdk.2 k) (fun h=>by cases bh.1 h;exact hkk1)⟩
  refine U (.xt rfl rfl) (Am (CW.v rfl (Ai (Ac (Ah (Ak ?_))))))
  skip
  refine Aa (Aq (.entry (.t rfl) hNx.entry) rfl ?_)
  rintro _ _ ⟨rfl,rfl⟩
  refine U (.val (v':=.agg #[.func (.func (Mk kk)) #[] #[],.func (.func (Nc kk)) #[] #[]]) (PEv.xt rfl rfl) rfl) (Aq (.Bt k8) rfl ?_)
  rintro _ w23 ⟨B17,rfl,MB17⟩
  refine Cb (.Ca sizeOf79 rfl (.t rfl) (.t rfl) eQ MB17.blk rfl) ?_
  intro w24 LB17
  have NB17:=MB17.set LB17
  replace hS:=hS.Cc NB17
  refine Af (Pf 7 [.eq (.pointer (some ⟨B17,0,none⟩)),.eq (.func (.func (Mk kk)) #[] #[]),.eq (.pointer (some ⟨B11,j,none⟩)),.eq (.pointer (some ⟨B11,j,none⟩)),.eq (v),.eq (.pointer (some ⟨B17,1,none⟩)),.eq (.func (.func (Nc kk)) #[] #[])] [86,88] kQ rfl kQ kQ kQ kQ kQ kQ kQ uQ ?_ ?_)
  ·intro W hU0
   have hU:=(Up.drew w24).trans hU0
   refine aC ⟨rfl,TU.p (.fB 0 rfl) rfl⟩ (aC ⟨rfl,TU.p (.lb rfl ((hS.b5.up hU).Ad rfl)) rfl⟩ (aC ⟨rfl,TU.c (Fa (.t rfl) (.cu rfl) (cW kk hk1 hk2)) (Xl kk hk1 hk2 B11 _) (by rintro _ W1 ⟨rfl,u⟩;exact⟨u,by rw[hj];rfl⟩)⟩ (aC ⟨rfl,TU.p (.nc rfl) rfl⟩ (aC ⟨rfl,TU.p (.lb rfl ((hS.b2.up hU).cell (by simpa using hvj))) rfl⟩ (aC ⟨rfl,TU.p (.fB 1 rfl) rfl⟩ (aC ⟨rfl,TU.p (.lb rfl ((hS.b5.up hU).Ad rfl)) rfl⟩ ?_))))))
   exact allL.nil
  intro w25 g hU0 hg
  have hU:=(Up.drew w24).trans hU0
  replace hS:=hS.up hU
  have e86:g 86=v:=hg 4 _ 86 cQ rfl rfl
  have e88:g 88=.func (.func (Nc kk)) #[] #[]:=hg 6 _ 88 cQ rfl rfl
  change LW _ _ _ _ _ _ _ _ ((86,.eq (g 86))::(88,.eq (g 88))::_) _
  rw[e86,e88]
  refine A3 (eC (.u rfl rfl) (AA)) rfl (Mj (Nc kk) (Km kk) (tB kk hk1 hk2) (fun W x=>oS kk hk1 hk2 x W) v (D4 dn ds j) _ (I5 (hS.get 4 rfl) hvj (Ge _ _ hj11)) (by have:=Pu dn ds j;omega)) ?_
  rintro _ w26 ⟨rfl,hSo⟩
  replace hS:=hS.F9 4 rfl (Wg (hS.get 4 rfl) (K6 hvj (Ge _ _ hj11)) hSo)
  rw[N2,kR hvj,hkk2]at hS
  refine LW.nil (Aj (Av ?_))
  exact⟨dn++[kk],⟨hdk2,by rw[hkk2,←kO hj11 (by rw[←hkk2];exact hfr2)];exact hS.take 5⟩,tQ,by have:=fM hdk hkk1 hfr2;simp;omega⟩
 skip
 have zw18:=hNx.size
 replace hS:=hS.F9 1 rfl (Ms.Qm hNx)
 obtain⟨⟨kx,x⟩,hmem0,he0⟩:=bj.1 hNx.mem
 cases he0
 obtain⟨hkx,hxv⟩:=hMo _ hmem0
 dsimp only at hkx hxv
 subst hkx
 have hmem:=hmem0
 have hfr:=hNx.fresh
 have hk12:1≤x.Kind∧x.Kind≤11:=Ej hxv
 have hds2:∀f∈ds++[x],(Cf f,f)∈M:=fun f hf=>(bp.1 hf).elim (hds f) (fun h=>by cases bh.1 h;exact hmem)
 have hdn2:((ds++[x]).map Cf).Nodup:=Qw hdn hfr
 obtain⟨j,hj⟩:∃j,j=(x.Kind-1).toNat:=⟨_,rfl⟩
 have hj11:j<11:=by omega
 have hkj:x.Kind=((j+1:Nat):Int):=by omega
 have hdl:=Qx hds hdn
 have hdl2:=Qy hds hdn hmem hfr
 refine U (.xt rfl rfl) (Am (CW.v rfl (Ai (Ac (Ah (Ae (Aq (Ms.REv.entry (.t rfl) hNx.entry) rfl ?_)))))))
 rintro _ _ ⟨rfl,rfl⟩
 refine U (.xt rfl rfl) (Aq (.Bt j4) rfl ?_)
 rintro _ w27 ⟨B14,rfl,MB14⟩
 refine Cb (.Ca jz rfl (.t rfl) (.t rfl) eQ MB14.blk rfl) ?_
 intro w28 LB14
 have NB14:=MB14.set LB14
 replace hS:=hS.Cc NB14
 refine Am ?_
 cases hq16:x.Gone with
 |true=>
  have hgn:=hq16
  refine Aa (U (.fB 4 rfl) (U (.lb rfl (hS.b5.Ad rfl)) (U (.fa (PEv.n1 rfl) (by rw[hq16];rfl)) (Af (CW.f rfl (Ai (Aj (Av ?_))))))))
  exact⟨(ds++[x],vs),⟨hds2,hdn2,hvl,by(rw[kN hgn,cg];exact hS.take 5)⟩,tQ,by show M.length-(ds++[x]).length<M.length-ds.length;have:=Qy hds hdn hmem hfr;simp;omega⟩
 |false=>
  have hgn:=hq16
  refine Aa (U (.fB 4 rfl) (U (.lb rfl (hS.b5.Ad rfl)) (U (.tr (PEv.n1 rfl) (by rw[hq16];rfl)) (Af (CW.v rfl (Ae (I rfl (U (.fB 0 rfl) (U (.lb rfl (hS.b5.Ad rfl)) (U (.val (v':=.agg #[.func (.func (Mk x.Kind)) #[] #[],.func (.func (Nc x.Kind)) #[] #[]]) (PEv.Hx (ok:=false) kr jy (.t rfl) (.t rfl) (hS.get 3 rfl) (Kp.2 ⟨hk12.1,(show x.Kind≤((11:Nat):Int)from by omega),rfl⟩)) rfl) (U (.Y5 (off:=0) kq rfl rfl isAgg76 (.t rfl) rfl) (A3 (Fa (.t rfl) (.cu rfl) (cW x.Kind hk12.1 hk12.2)) rfl (Xl x.Kind hk12.1 hk12.2 B11 _) ?_))))))))))))
  rintro _ w29 ⟨rfl,uw29⟩
  replace hS:=hS.up uw29
  rw[←hj]
  refine LW.A rfl (Af ?_)
  obtain⟨v,hvj⟩:=An (xs:=vs) (i:=j) oQ
  refine H6 6 (fun v w''=>Wx.Sep no w0 w'' [A4 B4 #[.slice none 0 0,.slice none 0 0,.slice none 0 0,.slice none 0 0,.slice none 0 0,.slice none 0 0,.slice none 0 0,.slice none 0 0,.slice none 0 0,.slice none 0 0,.slice none 0 0] 35,Ms.Kg B18 r54 (N7 M) (ds.map Cf++[Cf x]),A4 B11 vs.toArray 35,Lr bk (O8 Vr 11),Df ((lists 33 19 Fact.cells vs (Xg [] ds)).set j (Az 33 19 Fact.cells v (D4 [] ds j++[x]))),A4 B14 x.cells 33]) kQ kQ kQ kQ kQ kQ rfl rfl rfl rfl rfl (J (.mv rfl) (J (.mv rfl) (J (.nc rfl) (J (.lb rfl (hS.b2.cell (by simpa using hvj))) (J (.lc rfl (hS.b5.agg)) (HW.r (p:=fun v w=>Sl w v 19 (Fact.cells) [x]) (fun _ _ _ h u=>Sl.up h u) rfl (fun w hu a ha=>let⟨v,w',h1,h2⟩:=REv.buildSlice (xs:=[x]) (enc:=Fact.cells) (mk:=fun f:Fact=>.agg f.cells) jv jz j4 rfl bQ (fun _=>rfl) (fun _=>rfl) (.cu rfl) rfl a ha;⟨v,w',h1,h2.q⟩) rfl (HW.nil ⟨fun a w' hu ha=>?_,?_⟩)))))))
  ·exact(REv.open (d:=73) (p:=fun v w=>Sl w v 19 Fact.cells [x]) rfl fun vv hv=>(REv.D7 (bytes:=160) (i:=Tryz.t33) jv kQ rfl rfl rfl rfl cQ (fun _=>rfl) Fact.one (.t rfl) (.t rfl) (I5 ((hS.up hu).get 4 rfl) hvj (Ge _ _ hj11)) hv (by have:=Pu [] ds j;simp only[ai,bi,maxLen];omega) (by have:=Pu [] ds j;simp only[ai,bi];omega)).mono fun v' w'' h=>(hS.up hu).F9 4 rfl (Wg ((hS.up hu).get 4 rfl) (K6 hvj (Ge _ _ hj11)) h)).y ha
  intro v74 w30 hS
  have hv1:v74.oneCell'=true:=by
   have h:=hS.get 4 rfl
   rw[N2]at h
   exact Te h (by rw[de,de,hvl,Hu]) v74 (ae (i:=j) (by rw[List.getElem?_set_self (by omega)]))
  refine U (.nc rfl) (Cb (.store sizeOf24 (.t rfl) (.t rfl) hv1 hS.b2 (by simp;omega)) ?_)
  intro w31 Nw31
  have zw31:=Nw31.size
  replace hS:=hS.D9 2 rfl (by rw[oN]at Nw31;exact Nw31)
  refine LW.nil (Aj (Av ?_))
  exact⟨(ds++[x],vs.set j v74),⟨hds2,hdn2,by show(vs.set j v74).length=11;rw[de];exact hvl,by(rw[oL hgn hj11 hkj,←N2,cg];exact hS.take 5)⟩,tQ,by show M.length-(ds++[x]).length<M.length-ds.length;have:=Qy hds hdn hmem hfr;simp;omega⟩
theorem kT(ad:Option Addr)(cp:Nat)(l:List Fact)(day:Int)(w:World)(hE0:Els w ad 19 Fact.cells l)(hl:l.length≤100000):Ret prog 7 #[.slice ad l.length cp,vi day] w fun r w'=>∃bc,r=.agg bc∧BaseC w' bc (Lk l day)∧cV w.heap.size bc∧Up w w':=
 (oT ad cp l day w hE0 hl).mono fun _ _⟨bc,_,e,hB,h1,h2,h3,_,u⟩=>⟨bc,e,sO h1 h2▸hB,h3,u⟩
end Go.Proofs.YtnocngnlpgikaaaGreatDoor
