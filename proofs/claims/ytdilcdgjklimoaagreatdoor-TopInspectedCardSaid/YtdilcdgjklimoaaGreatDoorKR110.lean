import Derived.Test.YtdilcdgjklimoaaGreatDoorKR19
namespace Go.Wx
open Go.RowKit
def Bu(b:Nat)(kv:List (Int×Value)):Asr:=⟨(· =b),fun w=>IMap w b kv,fun _ _ h k _=>by
 have:=h.lt
 obtain⟨es,clock,h1,h2⟩:=h
 exact⟨es,clock,(k b rfl this).trans h1,h2⟩,fun _ h _ e=>by rw[e];exact h.lt⟩
def Fi(b r:Nat)(kv:List (Int×Value))(done:List Int):Asr:=⟨fun i=>i=b∨i=r,fun w=>IRng w b r kv done,fun _ _ h k _=>by
 obtain⟨es,clock,since,seen,c0,h1,h2,h3,h4,h5⟩:=h
 exact⟨es,clock,since,seen,c0,(k b (.inl rfl) (lt_of_block h1)).trans h1,h2,h3,(k r (.inr rfl) (lt_of_block h4)).trans h4,h5⟩,fun _ h i e=>by
 obtain⟨es,clock,since,seen,c0,h1,h2,h3,h4,h5⟩:=h
 rcases e with rfl|rfl
 · exact lt_of_block h1
 exact lt_of_block h4⟩
theorem Gf{b r:Nat}{kv:List (Int×Value)}{w w':World}(h:IRng w' b r kv [])(u:Up w w')(hr:r=w.heap.size):Stp (Bu b kv) (Fi b r kv []) w w':=⟨u.fr _,h,fun i hi=>hi.elim (fun e=>.inl e) (fun e=>.inr oQ)⟩
theorem Hd{P:Program}{b r:Nat}{kv:List (Int×Value)}{done:List Int}{k:Int}{u:Value}{w w':World}(h:NextTo P w w' b r kv done k u):Stp (Fi b r kv done) (Fi b r kv (done++[k])) w w':=⟨h.sto.fr.mono (fun i(e:i=r)=>.inr e),h.rng,fun _ h=>.inl h⟩
namespace Ms
def Bu(b:Nat)(kv:List (List UInt8×Value)):Asr:=⟨(· =b),fun w=>Ms.IMap w b kv,fun _ _ h k _=>by
 have:=h.lt
 obtain⟨es,clock,h1,h2⟩:=h
 exact⟨es,clock,(k b rfl this).trans h1,h2⟩,fun _ h _ e=>by rw[e];exact h.lt⟩
def Fi(b r:Nat)(kv:List (List UInt8×Value))(done:List (List UInt8)):Asr:=⟨fun i=>i=b∨i=r,fun w=>Ms.IRng w b r kv done,fun _ _ h k _=>by
 obtain⟨es,clock,since,seen,c0,h1,h2,h3,h4,h5⟩:=h
 exact⟨es,clock,since,seen,c0,(k b (.inl rfl) (lt_of_block h1)).trans h1,h2,h3,(k r (.inr rfl) (lt_of_block h4)).trans h4,h5⟩,fun _ h i e=>by
 obtain⟨es,clock,since,seen,c0,h1,h2,h3,h4,h5⟩:=h
 rcases e with rfl|rfl
 · exact lt_of_block h1
 exact lt_of_block h4⟩
theorem Ka{b:Nat}{kv kv':List (List UInt8×Value)}{w w':World}(h:Ms.IMap w' b kv')(k:Sto b w w'):Stp (Bu b kv) (Bu b kv') w w':=⟨k.fr,h,fun _ h=>.inl h⟩
theorem Gf{b r:Nat}{kv:List (List UInt8×Value)}{w w':World}(h:Ms.IRng w' b r kv [])(u:Up w w')(hr:r=w.heap.size):Stp (Bu b kv) (Fi b r kv []) w w':=⟨u.fr _,h,fun i hi=>hi.elim (fun e=>.inl e) (fun e=>.inr oQ)⟩
theorem Hd{P:Program}{b r:Nat}{kv:List (List UInt8×Value)}{done:List (List UInt8)}{k:List UInt8}{u:Value}{w w':World}(h:Ms.NextTo P w w' b r kv done k u):Stp (Fi b r kv done) (Fi b r kv (done++[k])) w w':=⟨h.sto.fr.mono (fun i(e:i=r)=>.inr e),h.rng,fun _ h=>.inl h⟩
end Ms
theorem La{As:List Asr}{A A':Asr}{w w':World}{j:Nat}(h:(D5 As).holds w)(hj:As[j]?=some A)(s:Stp A A' w w'):Stp (D5 As) (D5 (As.set j A')) w w':=by
 have:=(Oz h).Dw j hj s
 rw[←List.append_nil (As.set j A')]at this
 exact J4 this
theorem Yp{α β:Type}(a:α)(b:β):∀(l:List α)(r:List β)(j:Nat),(l.set j a).zip (r.set j b)=(l.zip r).set j (a,b)
 |[],r,j=>by simp
 |x::l,[],j=>by cases j<;>simp
 |x::l,y::r,0=>rfl
 |x::l,y::r,j+1=>by
   rw[List.set_cons_succ,List.set_cons_succ,List.zip_cons_cons,List.zip_cons_cons,List.set_cons_succ,Yp a b l r j]
def lists{α:Type}(e k:Nat)(enc:α→Array Value)(vs:List Value)(xss:List (List α)):List Asr:=(vs.zip xss).map fun p=>J e k enc p.1 p.2
theorem L4{α:Type}{e k:Nat}{enc:α→Array Value}{vs:List Value}{xss:List (List α)}{j:Nat}{v:Value}{xs:List α}(hv:vs[j]?=some v)(hx:xss[j]?=some xs):(lists e k enc vs xss)[j]?=some (J e k enc v xs):=by
 unfold lists
 rw[List.getElem?_map]
 have:(vs.zip xss)[j]?=some (v,xs):=by rw[List.getElem?_zip_eq_some];exact⟨hv,hx⟩
 rw[this];rfl
theorem O2{α:Type}{e k:Nat}{enc:α→Array Value}{vs:List Value}{xss:List (List α)}{j:Nat}{v:Value}{xs:List α}:(lists e k enc vs xss).set j (J e k enc v xs)=lists e k enc (vs.set j v) (xss.set j xs):=by
 unfold lists
 have:(vs.set j v).zip (xss.set j xs)=(vs.zip xss).set j (v,xs):=Yp v xs vs xss j
 rw[this,List.map_set]
theorem Jp{α:Type}{e k:Nat}{enc:α→Array Value}{vs:List Value}{xss:List (List α)}{w:World}{j:Nat}{v:Value}{xs:List α}(h:(D5 (lists e k enc vs xss)).holds w)(hv:vs[j]?=some v)(hx:xss[j]?=some xs):OwnS w 0 e k enc v xs:=h.1 _ (List.mem_of_getElem? (L4 hv hx))
theorem U3{α:Type}{e k:Nat}{enc:α→Array Value}{vs:List Value}{xss:List (List α)}{w:World}(h:(D5 (lists e k enc vs xss)).holds w)(hl:vs.length=xss.length):∀v∈vs,v.oneCell'=true:=fun v hv=>by
 obtain⟨j,hj⟩:=List.mem_iff_getElem?.1 hv
 have hlt:=(List.getElem?_eq_some_iff.1 hj).1
 obtain⟨xs,hx⟩:=Aq (xs:=xss) (i:=j) oQ
 exact(Jp h hj hx).one
theorem jP{α:Type}(e k:Nat)(enc:α→Array Value)(n:Nat)(w:World):(D5 (lists e k enc (List.replicate n (.slice none 0 0)) (List.replicate n ([]:List α)))).holds w∧∀i,¬(D5 (lists e k enc (List.replicate n (.slice none 0 0)) (List.replicate n ([]:List α)))).foot i:=by
 have key:∀A∈lists e k enc (List.replicate n (.slice none 0 0)) (List.replicate n ([]:List α)),A=J e k enc (.slice none 0 0) []:=fun A hA=>by
   unfold lists at hA
   obtain⟨⟨v,xs⟩,hp,rfl⟩:=List.mem_map.1 hA
   have:=List.of_mem_zip hp
   rw[List.eq_of_mem_replicate this.1,List.eq_of_mem_replicate this.2]
 refine⟨⟨fun A hA=>by rw[key A hA];exact OwnS.nil _ _ _ _ _,List.pairwise_iff_getElem.2 fun i j hi hj _ x hx=>by
   rw[key _ (List.getElem_mem hi)]at hx;cases hx⟩,fun i⟨A,hA,hi⟩=>by rw[key A hA]at hi;cases hi⟩
end Go.Wx
namespace Go.Wx
def Lb(k:Int)(f:Fact):K2:=match k with
 |4=>(f.Wafer,f.Time)
 |5=>(f.Product,0)
 |8=>(f.Other,f.Parties)
 |10=>(f.Recipe,f.Time)
 |_=>(f.ID,0)
abbrev E9:=List (List UInt8×Fact)
def R4(m:E9)(k:List UInt8):Option Fact:=(m.find? fun p=>p.1==k).map (·.2)
def Lc(m:E9)(k:List UInt8)(f:Fact):E9:=if k∈m.map (·.1)then m.map (fun p=>if p.1=k then(k,f)else p)else m++[(k,f)]
def O3(m:E9):List (List UInt8×Go.Value):=m.map fun p=>(p.1,.agg p.2.cells)
theorem L5(m:E9):(O3 m).map (·.1)=m.map (·.1):=by simp[O3]
theorem Yq(m:E9)(k:List UInt8)(f:Fact):Ms.D8 (O3 m) k (.agg f.cells)=O3 (Lc m k f):=by
 unfold Ms.D8 Lc
 rw[L5]
 split
 · simp only[O3,List.map_map]
   apply List.map_congr_left
   intro p _
   simp only[Function.comp]
   split<;>rfl
 simp[O3]
theorem jQ{m:E9}{k:List UInt8}{f:Fact}(h:R4 m k=some f):(k,.agg f.cells)∈O3 m:=by
 unfold R4 at h
 cases hf:m.find? (fun p=>p.1==k)with
 |none=>rw[hf]at h;cases h
 |some p=>
   rw[hf]at h
   have h1:=List.mem_of_find?_eq_some hf
   have h2:(p.1==k)=true:=List.find?_some (p:=fun p:List UInt8×Fact=>p.1==k) hf
   have h3:=eq_of_beq h2
   simp at h
   refine List.mem_map.2 ⟨p,h1,?_⟩
   rw[h3,h]
theorem U4{m:E9}{k:List UInt8}(h:R4 m k=none):k∉(O3 m).map (·.1):=by
 rw[L5]
 intro hm
 obtain⟨p,hp,e⟩:=List.mem_map.1 hm
 unfold R4 at h
 rw[Option.map_eq_none_iff,List.find?_eq_none]at h
 exact h p hp (by simp[e])
def C4(day:Int)(m:E9)(f:Fact):E9:=if Cm f=[]∨day<f.Day then m else match R4 m (Cm f)with
 |none=>Lc m (Cm f) f
 |some old=>if E0 f old=true then Lc m (Cm f) f else m
def Gg(l:List Fact)(day:Int):E9:=l.foldl (C4 day) []
theorem Jq{l:List Fact}{day:Int}{k:Nat}{x:Fact}(h:l[k]?=some x):Gg (l.take (k+1)) day=C4 day (Gg (l.take k) day) x:=by
 rw[Ce h,Gg,List.foldl_append];rfl
theorem H5{day:Int}{m:E9}{x:Fact}(h:Cm x=[]∨day<x.Day):C4 day m x=m:=by rw[C4,if_pos h]
theorem Yr{day:Int}{m:E9}{x:Fact}(h:¬(Cm x=[]∨day<x.Day))(hg:R4 m (Cm x)=none):C4 day m x=Lc m (Cm x) x:=by rw[C4,if_neg h,hg]
theorem Ys{day:Int}{m:E9}{x old:Fact}(h:¬(Cm x=[]∨day<x.Day))(hg:R4 m (Cm x)=some old)(hp:E0 x old=true):C4 day m x=Lc m (Cm x) x:=by rw[C4,if_neg h,hg];simp[hp]
theorem Yt{day:Int}{m:E9}{x old:Fact}(h:¬(Cm x=[]∨day<x.Day))(hg:R4 m (Cm x)=some old)(hp:E0 x old=false):C4 day m x=m:=by rw[C4,if_neg h,hg];simp[hp]
def MOk(m:E9):Prop:=∀p∈m,p.1=Cm p.2∧Cf p.2=true
theorem Kb{f:Fact}(h:Cm f≠[]):Cf f=true:=by
 cases hv:Cf f with
 |true=>rfl
 |false=>rw[Cm,if_neg (by rw[hv];exact Bool.false_ne_true)]at h;exact absurd rfl h
theorem MOk.set{m:E9}{f:Fact}(h:MOk m)(hf:Cf f=true):MOk (Lc m (Cm f) f):=by
 intro p hp
 unfold Lc at hp
 split at hp
 · obtain⟨q,hq,e⟩:=List.mem_map.1 hp
   split at e
   · rw[←e];exact⟨rfl,hf⟩
   rw[←e];exact h q hq
 rcases List.mem_append.1 hp with hp|hp
 · exact h p hp
 simp at hp;rw[hp];exact⟨rfl,hf⟩
theorem Yu(m:E9)(k:List UInt8)(f:Fact):(Lc m k f).length≤m.length+1:=by
 unfold Lc
 split<;>simp
theorem MOk.step{m:E9}(h:MOk m)(day:Int)(f:Fact):MOk (C4 day m f)∧(C4 day m f).length≤m.length+1:=by
 unfold C4
 split
 · exact⟨h,by omega⟩
 rename_i hk
 have hv:Cf f=true:=Kb fun e=>hk (.inl e)
 split
 · exact⟨h.set hv,Yu _ _ _⟩
 split
 · exact⟨h.set hv,Yu _ _ _⟩
 exact⟨h,by omega⟩
theorem Wf(day:Int):∀(l:List Fact),MOk (Gg l day)∧(Gg l day).length≤l.length:=by
 have:∀(l:List Fact)(m:E9),MOk m→MOk (l.foldl (C4 day) m)∧(l.foldl (C4 day) m).length≤m.length+l.length:=by
   intro l
   induction l with
   |nil=>intro m h;exact⟨h,by simp⟩
   |cons x l ih=>
     intro m h
     have h1:=h.step day x
     have h2:=ih _ h1.1
     exact⟨h2.1,by have:=h2.2;simp only[List.foldl_cons,List.length_cons];omega⟩
 intro l
 have h:=this l [] (fun p hp=>by simp at hp)
 exact⟨h.1,by have:=h.2;simp only[List.length_nil,Nat.zero_add]at this;exact this⟩
def D6(dn:List Int)(ds:List Fact)(j:Nat):List Fact:=
 if((j+1:Nat):Int)∈dn then I8 (Lb ((j+1:Nat):Int)) (ds.filter fun f=> !f.Gone&&decide (f.Kind=((j+1:Nat):Int)))else ds.filter fun f=> !f.Gone&&decide (f.Kind=((j+1:Nat):Int))
def Yv(dn:List Int)(ds:List Fact):List (List Fact):=(List.range 11).map (D6 dn ds)
theorem Hz(dn:List Int)(ds:List Fact):(Yv dn ds).length=11:=by simp[Yv]
theorem F8(dn:List Int)(ds:List Fact){j:Nat}(hj:j<11):(Yv dn ds)[j]?=some (D6 dn ds j):=by simp[Yv,hj]
theorem oD{ds:List Fact}{x:Fact}(h:x.Gone=true):Yv [] (ds++[x])=Yv [] ds:=by
 unfold Yv
 apply List.map_congr_left
 intro j _
 simp[D6,h]
theorem tE{ds:List Fact}{x:Fact}{j:Nat}(h:x.Gone=false)(hj:j<11)(hk:x.Kind=((j+1:Nat):Int)):Yv [] (ds++[x])=(Yv [] ds).set j (D6 [] ds j++[x]):=by
 apply List.ext_getElem?
 intro i
 rw[List.getElem?_set]
 by_cases e:j=i
 · subst e
   rw[if_pos rfl,if_pos (by rw[Hz];exact hj),F8 _ _ hj]
   simp[D6,h,hk]
 rw[if_neg e]
 by_cases hi:i<11
 · rw[F8 _ _ hi,F8 _ _ hi]
   have:decide (x.Kind=((i+1:Nat):Int))=false:=decide_eq_false oQ
   simp only[D6,List.not_mem_nil,if_false,List.filter_append]
   rw[List.filter_cons,if_neg (by rw[this,Bool.and_false];exact Bool.false_ne_true)]
   simp
 rw[List.getElem?_eq_none (by rw[Hz];omega),List.getElem?_eq_none (by rw[Hz];omega)]
theorem oE{dn:List Int}{ds:List Fact}{j:Nat}(hj:j<11)(hn:((j+1:Nat):Int)∉dn):(Yv dn ds).set j (I8 (Lb ((j+1:Nat):Int)) (D6 dn ds j))=Yv (dn++[((j+1:Nat):Int)]) ds:=by
 apply List.ext_getElem?
 intro i
 rw[List.getElem?_set]
 by_cases e:j=i
 · subst e
   rw[if_pos rfl,if_pos (by rw[Hz];exact hj),F8 _ _ hj]
   unfold D6
   rw[if_neg hn,if_pos (List.mem_append_right _ (List.mem_singleton.2 rfl))]
 rw[if_neg e]
 by_cases hi:i<11
 · rw[F8 _ _ hi,F8 _ _ hi]
   have:((i+1:Nat):Int)≠((j+1:Nat):Int):=by omega
   simp only[D6,List.mem_append,List.mem_singleton,this,or_false]
 rw[List.getElem?_eq_none (by rw[Hz];omega),List.getElem?_eq_none (by rw[Hz];omega)]
theorem Wg(dn:List Int)(ds:List Fact)(j:Nat):(D6 dn ds j).length≤ds.length:=by
 unfold D6
 split
 · rw[(Ge _).same.length];exact List.length_filter_le _ _
 exact List.length_filter_le _ _
theorem tF:Yv [] []=List.replicate 11 ([]:List Fact):=by
 rfl
theorem tG(vs:List Go.Value)(j:Nat)(v:Go.Value):vs.toArray.setIfInBounds j v=(vs.set j v).toArray:=by simp
theorem jR{x:Fact}(h:Cm x=[]):((⟨(Cm x).toArray⟩:ByteArray).toList==(⟨#[]⟩:ByteArray).toList)=true:=by rw[H4,H4,h];rfl
theorem oF{x:Fact}(h:Cm x≠[]):((⟨(Cm x).toArray⟩:ByteArray).toList==(⟨#[]⟩:ByteArray).toList)=false:=by
 rw[H4,H4]
 simpa using h
theorem Wh{vs:List Go.Value}(h:vs.length=11):∃v0 v1 v2 v3 v4 v5 v6 v7 v8 v9 v10,vs=[v0,v1,v2,v3,v4,v5,v6,v7,v8,v9,v10]:=by
 match vs,h with
 |[v0,v1,v2,v3,v4,v5,v6,v7,v8,v9,v10],_=>exact⟨v0,v1,v2,v3,v4,v5,v6,v7,v8,v9,v10,rfl⟩
def Yw(ds:List Fact):Base:=⟨D6 [1] ds 0,D6 [2] ds 1,D6 [3] ds 2,D6 [4] ds 3,D6 [5] ds 4,D6 [6] ds 5,D6 [7] ds 6,D6 [8] ds 7,D6 [9] ds 8,D6 [10] ds 9,D6 [11] ds 10⟩
theorem Yx{dn:List Int}{ds:List Fact}{j:Nat}(h:((j+1:Nat):Int)∈dn):D6 dn ds j=D6 [((j+1:Nat):Int)] ds j:=by
 unfold D6
 rw[if_pos h,if_pos (List.mem_singleton.2 rfl)]
theorem R5{ds:List Fact}{x:Fact}(h:(ds.map Cm).Nodup)(hf:Cm x∉ds.map Cm):((ds++[x]).map Cm).Nodup:=by
 rw[List.map_append,List.nodup_append]
 exact⟨h,by simp,fun a ha c hc=>by simp at hc;subst hc;exact fun e=>hf (e▸ha)⟩
theorem R6{ds:List Fact}{M:E9}(h:∀f∈ds,(Cm f,f)∈M)(hn:(ds.map Cm).Nodup):ds.length≤M.length:=by
 have:=hn.length_le_of_subset (l₂:=M.map (·.1)) (fun k hk=>by
   obtain⟨f,hf,rfl⟩:=List.mem_map.1 hk
   exact List.mem_map.2 ⟨_,h f hf,rfl⟩)
 simpa using this
theorem R7{ds:List Fact}{M:E9}{x:Fact}(h:∀f∈ds,(Cm f,f)∈M)(hn:(ds.map Cm).Nodup)(hx:(Cm x,x)∈M)(hf:Cm x∉ds.map Cm):ds.length+1≤M.length:=by
 have:=R6 (ds:=ds++[x]) (M:=M) (fun f hf=>by rcases List.mem_append.1 hf with hf|hf;exact h f hf;simp at hf;rw[hf];exact hx) (R5 hn hf)
 simpa using this
theorem jS{dn:List Int}(h:dn.Nodup∧∀k∈dn,1≤k∧k≤11):dn.length≤11:=by
 have:=h.1.length_le_of_subset (l₂:=[1,2,3,4,5,6,7,8,9,10,11]) (fun k hk=>by
   have:=h.2 k hk
   simp;omega)
 simpa using this
theorem jT{dn:List Int}{k:Int}(h:dn.Nodup∧∀k∈dn,1≤k∧k≤11)(hk:1≤k∧k≤11)(hf:k∉dn):dn.length+1≤11:=by
 have:=jS (dn:=dn++[k]) ⟨List.nodup_append.2 ⟨h.1,by simp,fun a ha c hc=>by simp at hc;subst hc;exact fun e=>hf (e▸ha)⟩,fun q hq=>by rcases List.mem_append.1 hq with hq|hq;exact h.2 q hq;simp at hq;rw[hq];exact hk⟩
 simpa using this
theorem N2{α:Type}{vs:List α}{j:Nat}{v:α}(h:vs[j]?=some v):vs.set j v=vs:=by
 apply List.ext_getElem?
 intro i
 rw[List.getElem?_set]
 by_cases e:j=i
 · subst e
   rw[if_pos rfl,if_pos (List.getElem?_eq_some_iff.1 h).1,h]
 rw[if_neg e]
theorem Fo{e:Nat}{dn:List Int}{ds:List Fact}{vs:List Go.Value}{w:World}(h:(D5 (lists e 19 Fact.cells vs (Yv dn ds))).holds w){j:Nat}{v:Go.Value}(hv:vs[j]?=some v)(hj:j<11)(hin:((j+1:Nat):Int)∈dn):Sl w v 19 Fact.cells (D6 [((j+1:Nat):Int)] ds j):=by
 have:=(Jp h hv (F8 _ _ hj)).sl (fun _=>rfl)
 rwa [Yx hin]at this
theorem oG{e:Nat}{dn:List Int}{ds:List Fact}{vs:List Go.Value}{w:World}(h:(D5 (lists e 19 Fact.cells vs (Yv dn ds))).holds w){j:Nat}{v:Go.Value}(hv:vs[j]?=some v)(hj:j<11)(hin:((j+1:Nat):Int)∈dn):OwnS w 0 e 19 Fact.cells v (D6 [((j+1:Nat):Int)] ds j):=by
 have:=Jp h hv (F8 _ _ hj)
 rwa [Yx hin]at this
def xF(base:Nat)(bc:Array Go.Value):Prop:=∀(j:Nat)(v:Go.Value),bc[j]?=some v→∀i,v.ownBlock=some i→base≤i
theorem cA{α:Type}{e k base:Nat}{enc:α→Array Go.Value}{vs:List Go.Value}{xss:List (List α)}(hl:vs.length=xss.length)(h:∀i,(D5 (lists e k enc vs xss)).foot i→base≤i):xF base vs.toArray:=fun j v hv i hi=>by
 have hv2:vs[j]?=some v:=by simpa using hv
 have hlt:=(List.getElem?_eq_some_iff.1 hv2).1
 obtain⟨xs,hx⟩:=Aq (xs:=xss) (i:=j) oQ
 exact h i ⟨_,List.mem_of_getElem? (L4 hv2 hx),hi⟩
theorem tH{vs:List Go.Value}(h:∀v∈vs,v.oneCell'=true):vs.toArray.all (·.oneCell')=true:=by
 rw[Array.all_eq_true_iff_forall_mem]
 intro v hv
 exact h v (by simpa using hv)
theorem cB{α:Type}{key:α→K2}{l s:List α}(h:l.Perm s)(hd:∀x∈l,∀y∈l,key x=key y→x=y):I8 key l=I8 key s:=by
 have hs:sameF key l s:=fun k=>by
   have hp:=h.filter (fun x=>key x==k)
   cases e:l.filter (fun x=>key x==k)with
   |nil=>rw[e]at hp;exact hp.symm.eq_nil
   |cons x r=>
     have all:∀y∈l.filter (fun x=>key x==k),y=x:=fun y hy=>by
       have hx:x∈l.filter (fun x=>key x==k):=by rw[e];exact List.mem_cons_self
       rw[List.mem_filter]at hx hy
       exact hd _ hy.1 _ hx.1 ((eq_of_beq hy.2).trans (eq_of_beq hx.2).symm)
     have h1:l.filter (fun x=>key x==k)=List.replicate (l.filter (fun x=>key x==k)).length x:=List.eq_replicate_iff.2 ⟨rfl,all⟩
     have h2:s.filter (fun x=>key x==k)=List.replicate (l.filter (fun x=>key x==k)).length x:=List.eq_replicate_iff.2 ⟨hp.length_eq.symm,fun y hy=>all y (hp.symm.subset hy)⟩
     rw[h2,←h1,e]
 have:StS key l (I8 key s):=⟨(Ge s).ord,hs.trans (Ge s).same⟩
 exact this.eq.symm
theorem cC{k:Int}{f g:Fact}(hf:Cf f=true)(hg:Cf g=true)(hkf:f.Kind=k)(hkg:g.Kind=k)(h:Lb k f=Lb k g):Cm f=Cm g:=by
 have hk:=Ew hf
 rw[hkf]at hk
 unfold Cm T2
 rw[if_pos hf,if_pos hg,hkf,hkg]
 have hc:k=1∨k=2∨k=3∨k=4∨k=5∨k=6∨k=7∨k=8∨k=9∨k=10∨k=11:=by omega
 rcases hc with rfl|rfl|rfl|rfl|rfl|rfl|rfl|rfl|rfl|rfl|rfl
 · replace h:(f.ID,(0:Int))=(g.ID,(0:Int)):=h
   show Cp [1,f.ID]=Cp [1,g.ID]
   rw[(Prod.mk.inj h).1]
 · replace h:(f.ID,(0:Int))=(g.ID,(0:Int)):=h
   show Cp [2,f.ID]=Cp [2,g.ID]
   rw[(Prod.mk.inj h).1]
 · replace h:(f.ID,(0:Int))=(g.ID,(0:Int)):=h
   show Cp [3,f.ID]=Cp [3,g.ID]
   rw[(Prod.mk.inj h).1]
 · replace h:(f.Wafer,f.Time)=(g.Wafer,g.Time):=h
   show Cp [4,f.Wafer,f.Time]=Cp [4,g.Wafer,g.Time]
   rw[(Prod.mk.inj h).1,(Prod.mk.inj h).2]
 · replace h:(f.Product,(0:Int))=(g.Product,(0:Int)):=h
   show Cp [5,f.Product]=Cp [5,g.Product]
   rw[(Prod.mk.inj h).1]
 · replace h:(f.ID,(0:Int))=(g.ID,(0:Int)):=h
   show Cp [6,f.ID]=Cp [6,g.ID]
   rw[(Prod.mk.inj h).1]
 · replace h:(f.ID,(0:Int))=(g.ID,(0:Int)):=h
   show Cp [7,f.ID]=Cp [7,g.ID]
   rw[(Prod.mk.inj h).1]
 · replace h:(f.Other,f.Parties)=(g.Other,g.Parties):=h
   show Cp [8,f.Other,f.Parties]=Cp [8,g.Other,g.Parties]
   rw[(Prod.mk.inj h).1,(Prod.mk.inj h).2]
 · replace h:(f.ID,(0:Int))=(g.ID,(0:Int)):=h
   show Cp [9,f.ID]=Cp [9,g.ID]
   rw[(Prod.mk.inj h).1]
 · replace h:(f.Recipe,f.Time)=(g.Recipe,g.Time):=h
   show Cp [10,f.Recipe,f.Time]=Cp [10,g.Recipe,g.Time]
   rw[(Prod.mk.inj h).1,(Prod.mk.inj h).2]
 replace h:(f.ID,(0:Int))=(g.ID,(0:Int)):=h
 show Cp [11,f.ID]=Cp [11,g.ID]
 rw[(Prod.mk.inj h).1]
theorem U5(m:E9)(k:List UInt8)(f:Fact):(Lc m k f).map (·.1)=if k∈m.map (·.1)then m.map (·.1)else m.map (·.1)++[k]:=by
 unfold Lc
 split
 · rw[List.map_map]
   apply List.map_congr_left
   intro p _
   simp only[Function.comp]
   split
   · rename_i e;exact e.symm
   rfl
 simp
theorem R8{m:E9}(h:(m.map (·.1)).Nodup)(k:List UInt8)(f:Fact):((Lc m k f).map (·.1)).Nodup:=by
 rw[U5]
 split
 · exact h
 rename_i hn
 rw[List.nodup_append]
 exact⟨h,by simp,fun a ha c hc=>by cases List.mem_singleton.1 hc;exact fun e=>hn (e▸ha)⟩
theorem R9{m:E9}(h:(m.map (·.1)).Nodup)(day:Int)(f:Fact):((C4 day m f).map (·.1)).Nodup:=by
 unfold C4
 split
 · exact h
 split
 · exact R8 h _ _
 split
 · exact R8 h _ _
 exact h
theorem Na(l:List Fact)(day:Int):((Gg l day).map (·.1)).Nodup:=by
 have:∀(l:List Fact)(m:E9),(m.map (·.1)).Nodup→((l.foldl (C4 day) m).map (·.1)).Nodup:=by
   intro l
   induction l with
   |nil=>exact fun m h=>h
   |cons x l ih=>exact fun m h=>ih _ (R9 h day x)
 exact this l [] List.nodup_nil
theorem U6{m:E9}(h:(m.map (·.1)).Nodup){k:List UInt8}{f g:Fact}(hf:(k,f)∈m)(hg:(k,g)∈m):f=g:=by
 induction m with
 |nil=>cases hf
 |cons p m ih=>
   rw[List.map_cons,List.nodup_cons]at h
   rcases List.mem_cons.1 hf with e|hf'<;>rcases List.mem_cons.1 hg with e'|hg'
   · rw[←e']at e;cases e;rfl
   · exact absurd (List.mem_map.2 ⟨_,hg',by rw[←e]⟩) h.1
   · exact absurd (List.mem_map.2 ⟨_,hf',by rw[←e']⟩) h.1
   exact ih h.2 hf' hg'
def Hl(m:E9):List Fact:=m.map (·.2)
theorem Ig{m:E9}(h:MOk m){f:Fact}:f∈Hl m↔(Cm f,f)∈m:=by
 constructor
 · intro hf
   obtain⟨⟨k,g⟩,hp,e⟩:=List.mem_map.1 hf
   have e:g=f:=e
   subst e
   have:=(h _ hp).1
   have this:k=Cm g:=this
   rw[←this];exact hp
 exact fun hf=>List.mem_map.2 ⟨_,hf,rfl⟩
theorem Pv{m:E9}(h:MOk m):(Hl m).map Cm=m.map (·.1):=by
 unfold Hl
 rw[List.map_map]
 apply List.map_congr_left
 intro p hp
 exact(h p hp).1.symm
theorem H0{α β:Type}{f:α→β}:∀{l:List α},(l.map f).Nodup→l.Nodup
 |[],_=>List.nodup_nil
 |x::l,h=>by
   rw[List.map_cons,List.nodup_cons]at h
   exact List.nodup_cons.2 ⟨fun hm=>h.1 (List.mem_map.2 ⟨x,hm,rfl⟩),H0 h.2⟩
theorem Yy{α:Type}{l s:List α}(hl:l.Nodup)(hs:s.Nodup)(h:∀x,x∈l↔x∈s):l.Perm s:=(List.perm_ext_iff_of_nodup hl hs).2 h
theorem jU{ds:List Fact}{m:E9}(hm:MOk m)(hn:(m.map (·.1)).Nodup)(h:∀f∈ds,(Cm f,f)∈m)(hp:(ds.map Cm).Perm (m.map (·.1))):ds.Perm (Hl m):=by
 refine Yy (H0 (f:=Cm) (hp.nodup_iff.2 hn)) (H0 (f:=Cm) (by rw[Pv hm];exact hn)) fun x=>?_
 rw[Ig hm]
 refine⟨h x,fun hx=>?_⟩
 obtain⟨y,hy,e⟩:=List.mem_map.1 (hp.symm.subset (List.mem_map.2 ⟨_,hx,rfl⟩))
 have e:Cm y=Cm x:=e
 have:=h y hy
 rw[e]at this
 rw[U6 hn hx this];exact hy
theorem cD{m:E9}(hm:MOk m)(hn:(m.map (·.1)).Nodup){f g:Fact}(hf:f∈Hl m)(hg:g∈Hl m)(e:Cm f=Cm g):f=g:=by
 rw[Ig hm]at hf hg
 rw[e]at hf
 exact U6 hn hf hg
theorem Fp{m:E9}(hm:MOk m)(hn:(m.map (·.1)).Nodup){ds:List Fact}(h:ds.Perm (Hl m))(dn:List Int)(j:Nat)(hj:((j+1:Nat):Int)∈dn):D6 dn ds j=D6 dn (Hl m) j:=by
 unfold D6
 rw[if_pos hj,if_pos hj]
 refine cB (h.filter _) fun x hx y hy e=>?_
 rw[List.mem_filter]at hx hy
 have hxm:=h.subset hx.1
 have hym:=h.subset hy.1
 have vx:=(hm _ ((Ig hm).1 hxm)).2
 have vy:=(hm _ ((Ig hm).1 hym)).2
 simp only[Bool.and_eq_true,decide_eq_true_eq]at hx hy
 exact cD hm hn hxm hym (cC vx vy hx.2.2 hy.2.2 e)
def tI(l:List Fact)(day:Int):Base:=Yw (Hl (Gg l day))
theorem yQ{ds:List Fact}{l:List Fact}{day:Int}(h:∀f∈ds,(Cm f,f)∈Gg l day)(hp:(ds.map Cm).Perm ((Gg l day).map (·.1))):Yw ds=tI l day:=by
 have hm:=(Wf day l).1
 have hn:=Na l day
 have h1:=jU hm hn h hp
 unfold tI Yw
 rw[Fp hm hn h1 [1] 0 cQ,Fp hm hn h1 [2] 1 cQ,Fp hm hn h1 [3] 2 cQ,Fp hm hn h1 [4] 3 cQ,Fp hm hn h1 [5] 4 cQ,Fp hm hn h1 [6] 5 cQ,Fp hm hn h1 [7] 6 cQ,Fp hm hn h1 [8] 7 cQ,Fp hm hn h1 [9] 8 cQ,Fp hm hn h1 [10] 9 cQ,Fp hm hn h1 [11] 10 (by decide)]
end Go.Wx
namespace Go.Proofs.YtdilcdgjklimoaaGreatDoor
open Go.Proofs.Tryz
open Go.Wx Go.RowKit
def Nb(k:Int):Nat:=match k with
 |1=>66
 |2=>68
 |3=>69
 |4=>70
 |5=>72
 |6=>74
 |7=>75
 |8=>76
 |9=>78
 |10=>79
 |11=>81
 |_=>0
def N3(k:Int):Nat:=match k with
 |1=>67
 |2=>67
 |3=>67
 |4=>71
 |5=>73
 |6=>67
 |7=>67
 |8=>77
 |9=>67
 |10=>80
 |11=>67
 |_=>0
def Xb(k:Int):Go.Value:=.agg #[.func (.func (Nb k)) #[] #[],.func (.func (N3 k)) #[] #[]]
theorem yR(B:Nat)(w:World):Ret prog 66 #[.pointer (some ⟨B,0,none⟩)] w fun r w'=>r=.pointer (some ⟨B,0,none⟩)∧Up w w':=by
 have hW:=Up.refl w
 refine cT 6 func66 rfl (Af (Az (Am (Aa (I rfl (U (.nc rfl) (U (.fB 0 rfl) (LW.A rfl (Ai (Al (KW.q ?_)))))))))))
 exact⟨rfl,hW⟩
theorem yS(B:Nat)(w:World):Ret prog 68 #[.pointer (some ⟨B,0,none⟩)] w fun r w'=>r=.pointer (some ⟨B,1,none⟩)∧Up w w':=by
 have hW:=Up.refl w
 refine cT 6 func68 rfl (Af (Az (Am (Aa (I rfl (U (.nc rfl) (U (.fB 1 rfl) (LW.A rfl (Ai (Al (KW.q ?_)))))))))))
 exact⟨rfl,hW⟩
theorem yT(B:Nat)(w:World):Ret prog 69 #[.pointer (some ⟨B,0,none⟩)] w fun r w'=>r=.pointer (some ⟨B,2,none⟩)∧Up w w':=by
 have hW:=Up.refl w
 refine cT 6 func69 rfl (Af (Az (Am (Aa (I rfl (U (.nc rfl) (U (.fB 2 rfl) (LW.A rfl (Ai (Al (KW.q ?_)))))))))))
 exact⟨rfl,hW⟩
theorem yU(B:Nat)(w:World):Ret prog 70 #[.pointer (some ⟨B,0,none⟩)] w fun r w'=>r=.pointer (some ⟨B,3,none⟩)∧Up w w':=by
 have hW:=Up.refl w
 refine cT 6 func70 rfl (Af (Az (Am (Aa (I rfl (U (.nc rfl) (U (.fB 3 rfl) (LW.A rfl (Ai (Al (KW.q ?_)))))))))))
 exact⟨rfl,hW⟩
theorem yV(B:Nat)(w:World):Ret prog 72 #[.pointer (some ⟨B,0,none⟩)] w fun r w'=>r=.pointer (some ⟨B,4,none⟩)∧Up w w':=by
 have hW:=Up.refl w
 refine cT 6 func72 rfl (Af (Az (Am (Aa (I rfl (U (.nc rfl) (U (.fB 4 rfl) (LW.A rfl (Ai (Al (KW.q ?_)))))))))))
 exact⟨rfl,hW⟩
theorem yW(B:Nat)(w:World):Ret prog 74 #[.pointer (some ⟨B,0,none⟩)] w fun r w'=>r=.pointer (some ⟨B,5,none⟩)∧Up w w':=by
 have hW:=Up.refl w
 refine cT 6 func74 rfl (Af (Az (Am (Aa (I rfl (U (.nc rfl) (U (.fB 5 rfl) (LW.A rfl (Ai (Al (KW.q ?_)))))))))))
 exact⟨rfl,hW⟩
theorem yX(B:Nat)(w:World):Ret prog 75 #[.pointer (some ⟨B,0,none⟩)] w fun r w'=>r=.pointer (some ⟨B,6,none⟩)∧Up w w':=by
 have hW:=Up.refl w
 refine cT 6 func75 rfl (Af (Az (Am (Aa (I rfl (U (.nc rfl) (U (.fB 6 rfl) (LW.A rfl (Ai (Al (KW.q ?_)))))))))))
 exact⟨rfl,hW⟩
theorem yY(B:Nat)(w:World):Ret prog 76 #[.pointer (some ⟨B,0,none⟩)] w fun r w'=>r=.pointer (some ⟨B,7,none⟩)∧Up w w':=by
 have hW:=Up.refl w
 refine cT 6 func76 rfl (Af (Az (Am (Aa (I rfl (U (.nc rfl) (U (.fB 7 rfl) (LW.A rfl (Ai (Al (KW.q ?_)))))))))))
 exact⟨rfl,hW⟩
theorem yZ(B:Nat)(w:World):Ret prog 78 #[.pointer (some ⟨B,0,none⟩)] w fun r w'=>r=.pointer (some ⟨B,8,none⟩)∧Up w w':=by
 have hW:=Up.refl w
 refine cT 6 func78 rfl (Af (Az (Am (Aa (I rfl (U (.nc rfl) (U (.fB 8 rfl) (LW.A rfl (Ai (Al (KW.q ?_)))))))))))
 exact⟨rfl,hW⟩
theorem tJ(B:Nat)(w:World):Ret prog 79 #[.pointer (some ⟨B,0,none⟩)] w fun r w'=>r=.pointer (some ⟨B,9,none⟩)∧Up w w':=by
 have hW:=Up.refl w
 refine cT 6 func79 rfl (Af (Az (Am (Aa (I rfl (U (.nc rfl) (U (.fB 9 rfl) (LW.A rfl (Ai (Al (KW.q ?_)))))))))))
 exact⟨rfl,hW⟩
theorem tK(B:Nat)(w:World):Ret prog 81 #[.pointer (some ⟨B,0,none⟩)] w fun r w'=>r=.pointer (some ⟨B,10,none⟩)∧Up w w':=by
 have hW:=Up.refl w
 refine cT 6 func81 rfl (Af (Az (Am (Aa (I rfl (U (.nc rfl) (U (.fB 10 rfl) (LW.A rfl (Ai (Al (KW.q ?_)))))))))))
 exact⟨rfl,hW⟩
theorem Yz(k:Int)(h1:1≤k)(h2:k≤11)(B:Nat)(w:World):Ret Tryz.prog (Nb k) #[.pointer (some ⟨B,0,none⟩)] w fun r w'=>r=.pointer (some ⟨B,(k-1).toNat,none⟩)∧Up w w':=by
 obtain rfl|rfl|rfl|rfl|rfl|rfl|rfl|rfl|rfl|rfl|rfl:k=1∨k=2∨k=3∨k=4∨k=5∨k=6∨k=7∨k=8∨k=9∨k=10∨k=11:=by omega
 · exact yR B w
 · exact yS B w
 · exact yT B w
 · exact yU B w
 · exact yV B w
 · exact yW B w
 · exact yX B w
 · exact yY B w
 · exact yZ B w
 · exact tJ B w
 exact tK B w
theorem gB(k:Int)(h1:1≤k)(h2:k≤11):∀(args:Array Go.Value)(w:World),(callFunc (Nb k) args).run Tryz.prog w=.ok (.enter (Nb k) args) w:=by
 obtain rfl|rfl|rfl|rfl|rfl|rfl|rfl|rfl|rfl|rfl|rfl:k=1∨k=2∨k=3∨k=4∨k=5∨k=6∨k=7∨k=8∨k=9∨k=10∨k=11:=by omega
 · exact HK
 · exact HL
 · exact HM
 · exact HN
 · exact HP
 · exact HR
 · exact HS
 · exact HT
 · exact HV
 · exact HX
 exact HZ
theorem Sa(x:Fact)(w:World):Ret prog 67 #[.agg x.cells] w fun r w'=>r=.agg #[vi (Lb 1 x).1,vi (Lb 1 x).2]∧Up w w':=by
 have hW:=Up.refl w
 refine cT 6 func67 rfl (Af (Ao (.bA rfl) rfl ?_))
 rintro _ w1 ⟨B1,rfl,NB1⟩
 have eB1:=NB1.at_
 have zB1:=NB1.size
 replace hW:=hW.up NB1.up
 have hB1:=NB1.blk
 refine Ao (.Br zeroValue108) rfl ?_
 rintro _ w2 ⟨B2,rfl,NB2⟩
 have eB2:=NB2.at_
 replace hW:=hW.up NB2.up
 replace hB1:=hB1.up NB2.up
 have hB2:=NB2.blk
 refine Am (Aa (U (.fB 1 rfl) (U (.lb rfl (hB1.Ak rfl)) (U (.Jo (cs:=#[vi x.ID,vi 0]) underlying108 zeroValue108 sizeOf3 (.ct rfl (.cons (.const _) .nil)) rfl) (A9 (.Ca sizeOf108 rfl (.t rfl) (.t rfl) eQ hB2 rfl) ?_)))))
 intro w3 Nw3
 replace hW:=hW.sto Nw3.sto oQ
 replace hB1:=hB1.sto Nw3.sto oQ
 replace hB2:=Nw3.blk
 refine Ai (Al (F6 rfl rfl isAgg108 sizeOf108 rfl (hB2.agg) ⟨_,rfl,?_⟩))
 exact⟨rfl,hW⟩
theorem FB(x:Fact)(w:World):Ret prog 71 #[.agg x.cells] w fun r w'=>r=.agg #[vi (Lb 4 x).1,vi (Lb 4 x).2]∧Up w w':=by
 have hW:=Up.refl w
 refine cT 8 func71 rfl (Af (Ao (.bA rfl) rfl ?_))
 rintro _ w1 ⟨B1,rfl,NB1⟩
 have eB1:=NB1.at_
 have zB1:=NB1.size
 replace hW:=hW.up NB1.up
 have hB1:=NB1.blk
 refine Ao (.Br zeroValue108) rfl ?_
 rintro _ w2 ⟨B2,rfl,NB2⟩
 have eB2:=NB2.at_
 replace hW:=hW.up NB2.up
 replace hB1:=hB1.up NB2.up
 have hB2:=NB2.blk
 refine Am (Aa (U (.fB 7 rfl) (U (.lb rfl (hB1.Ak rfl)) (U (.fB 5 rfl) (U (.lb rfl (hB1.Ak rfl)) (U (.Jo (cs:=#[vi x.Wafer,vi x.Time]) underlying108 zeroValue108 sizeOf3 (.ct rfl (.cu rfl)) rfl) (A9 (.Ca sizeOf108 rfl (.t rfl) (.t rfl) eQ hB2 rfl) ?_)))))))
 intro w3 Nw3
 replace hW:=hW.sto Nw3.sto oQ
 replace hB1:=hB1.sto Nw3.sto oQ
 replace hB2:=Nw3.blk
 refine Ai (Al (F6 rfl rfl isAgg108 sizeOf108 rfl (hB2.agg) ⟨_,rfl,?_⟩))
 exact⟨rfl,hW⟩
theorem FC(x:Fact)(w:World):Ret prog 73 #[.agg x.cells] w fun r w'=>r=.agg #[vi (Lb 5 x).1,vi (Lb 5 x).2]∧Up w w':=by
 have hW:=Up.refl w
 refine cT 6 func73 rfl (Af (Ao (.bA rfl) rfl ?_))
 rintro _ w1 ⟨B1,rfl,NB1⟩
 have eB1:=NB1.at_
 have zB1:=NB1.size
 replace hW:=hW.up NB1.up
 have hB1:=NB1.blk
 refine Ao (.Br zeroValue108) rfl ?_
 rintro _ w2 ⟨B2,rfl,NB2⟩
 have eB2:=NB2.at_
 replace hW:=hW.up NB2.up
 replace hB1:=hB1.up NB2.up
 have hB2:=NB2.blk
 refine Am (Aa (U (.fB 10 rfl) (U (.lb rfl (hB1.Ak rfl)) (U (.Jo (cs:=#[vi x.Product,vi 0]) underlying108 zeroValue108 sizeOf3 (.ct rfl (.cons (.const _) .nil)) rfl) (A9 (.Ca sizeOf108 rfl (.t rfl) (.t rfl) eQ hB2 rfl) ?_)))))
 intro w3 Nw3
 replace hW:=hW.sto Nw3.sto oQ
 replace hB1:=hB1.sto Nw3.sto oQ
 replace hB2:=Nw3.blk
 refine Ai (Al (F6 rfl rfl isAgg108 sizeOf108 rfl (hB2.agg) ⟨_,rfl,?_⟩))
 exact⟨rfl,hW⟩
theorem FD(x:Fact)(w:World):Ret prog 77 #[.agg x.cells] w fun r w'=>r=.agg #[vi (Lb 8 x).1,vi (Lb 8 x).2]∧Up w w':=by
 have hW:=Up.refl w
 refine cT 8 func77 rfl (Af (Ao (.bA rfl) rfl ?_))
 rintro _ w1 ⟨B1,rfl,NB1⟩
 have eB1:=NB1.at_
 have zB1:=NB1.size
 replace hW:=hW.up NB1.up
 have hB1:=NB1.blk
 refine Ao (.Br zeroValue108) rfl ?_
 rintro _ w2 ⟨B2,rfl,NB2⟩
 have eB2:=NB2.at_
 replace hW:=hW.up NB2.up
 replace hB1:=hB1.up NB2.up
 have hB2:=NB2.blk
 refine Am (Aa (U (.fB 8 rfl) (U (.lb rfl (hB1.Ak rfl)) (U (.fB 17 rfl) (U (.lb rfl (hB1.Ak rfl)) (U (.Jo (cs:=#[vi x.Other,vi x.Parties]) underlying108 zeroValue108 sizeOf3 (.ct rfl (.cu rfl)) rfl) (A9 (.Ca sizeOf108 rfl (.t rfl) (.t rfl) eQ hB2 rfl) ?_)))))))
 intro w3 Nw3
 replace hW:=hW.sto Nw3.sto oQ
 replace hB1:=hB1.sto Nw3.sto oQ
 replace hB2:=Nw3.blk
 refine Ai (Al (F6 rfl rfl isAgg108 sizeOf108 rfl (hB2.agg) ⟨_,rfl,?_⟩))
 exact⟨rfl,hW⟩
theorem zA(x:Fact)(w:World):Ret prog 80 #[.agg x.cells] w fun r w'=>r=.agg #[vi (Lb 10 x).1,vi (Lb 10 x).2]∧Up w w':=by
 have hW:=Up.refl w
 refine cT 8 func80 rfl (Af (Ao (.bA rfl) rfl ?_))
 rintro _ w1 ⟨B1,rfl,NB1⟩
 have eB1:=NB1.at_
 have zB1:=NB1.size
 replace hW:=hW.up NB1.up
 have hB1:=NB1.blk
 refine Ao (.Br zeroValue108) rfl ?_
 rintro _ w2 ⟨B2,rfl,NB2⟩
 have eB2:=NB2.at_
 replace hW:=hW.up NB2.up
 replace hB1:=hB1.up NB2.up
 have hB2:=NB2.blk
 refine Am (Aa (U (.fB 14 rfl) (U (.lb rfl (hB1.Ak rfl)) (U (.fB 5 rfl) (U (.lb rfl (hB1.Ak rfl)) (U (.Jo (cs:=#[vi x.Recipe,vi x.Time]) underlying108 zeroValue108 sizeOf3 (.ct rfl (.cu rfl)) rfl) (A9 (.Ca sizeOf108 rfl (.t rfl) (.t rfl) eQ hB2 rfl) ?_)))))))
 intro w3 Nw3
 replace hW:=hW.sto Nw3.sto oQ
 replace hB1:=hB1.sto Nw3.sto oQ
 replace hB2:=Nw3.blk
 refine Ai (Al (F6 rfl rfl isAgg108 sizeOf108 rfl (hB2.agg) ⟨_,rfl,?_⟩))
 exact⟨rfl,hW⟩
theorem tL(k:Int)(h1:1≤k)(h2:k≤11)(x:Fact)(w:World):Ret Tryz.prog (N3 k) #[.agg x.cells] w fun r w'=>r=.agg #[vi (Lb k x).1,vi (Lb k x).2]∧Up w w':=by
 obtain rfl|rfl|rfl|rfl|rfl|rfl|rfl|rfl|rfl|rfl|rfl:k=1∨k=2∨k=3∨k=4∨k=5∨k=6∨k=7∨k=8∨k=9∨k=10∨k=11:=by omega
 · exact Sa x w
 · exact Sa x w
 · exact Sa x w
 · exact FB x w
 · exact FC x w
 · exact Sa x w
 · exact Sa x w
 · exact FD x w
 · exact Sa x w
 · exact zA x w
 exact Sa x w
theorem zC(k:Int)(h1:1≤k)(h2:k≤11):∀(args:Array Go.Value)(w:World),(callFunc (N3 k) args).run Tryz.prog w=.ok (.enter (N3 k) args) w:=by
 obtain rfl|rfl|rfl|rfl|rfl|rfl|rfl|rfl|rfl|rfl|rfl:k=1∨k=2∨k=3∨k=4∨k=5∨k=6∨k=7∨k=8∨k=9∨k=10∨k=11:=by omega
 · exact aW
 · exact aW
 · exact aW
 · exact HO
 · exact HQ
 · exact aW
 · exact aW
 · exact HU
 · exact aW
 · exact HY
 exact aW
theorem jV(w:World):Ret prog 23 #[] w fun r w'=>∃b,r=.map (some b)∧IMap w' b (P8 Xb 11)∧w.heap.size≤b∧Up w w':=by
 have hW:=Up.refl w
 refine cT 14 func23 rfl (Af (Az (Am ?_)))
 skip
 refine Aa (LW.r REv.makeMap rfl rfl rfl rfl ?_)
 rintro _ w1 ⟨B1,rfl,MB1,uB1,eB1,zB1⟩
 replace hW:=hW.up uB1
 have hM1:=MB1
 refine U (.build (cs:=#[.func (.func 66) #[] #[],.func (.func 67) #[] #[]]) underlying84 zeroValue84 Dd (.cons (.func _) (.cons (.func _) .nil)) rfl) ?_
 replace hM1:IMap _ B1 (P8 Xb 0):=hM1
 refine A9 (.insert (k:=((0+1:Nat):Int)) (v:=Xb ((0+1:Nat):Int)) underlying78 underlying3 (.t rfl) (.const _) (.t rfl) hM1) ?_
 rintro w2 ⟨Mw2,Kw2,zw2⟩
 rw[E2]at Mw2
 replace hM1:=Mw2
 replace hW:=hW.sto Kw2 oQ
 refine U (.build (cs:=#[.func (.func 68) #[] #[],.func (.func 67) #[] #[]]) underlying84 zeroValue84 Dd (.cons (.func _) (.cons (.func _) .nil)) rfl) (A9 (.insert (k:=((1+1:Nat):Int)) (v:=Xb ((1+1:Nat):Int)) underlying78 underlying3 (.t rfl) (.const _) (.t rfl) hM1) ?_)
 rintro w3 ⟨Mw3,Kw3,zw3⟩
 rw[E2]at Mw3
 replace hM1:=Mw3
 replace hW:=hW.sto Kw3 oQ
 refine U (.build (cs:=#[.func (.func 69) #[] #[],.func (.func 67) #[] #[]]) underlying84 zeroValue84 Dd (.cons (.func _) (.cons (.func _) .nil)) rfl) (A9 (.insert (k:=((2+1:Nat):Int)) (v:=Xb ((2+1:Nat):Int)) underlying78 underlying3 (.t rfl) (.const _) (.t rfl) hM1) ?_)
 rintro w4 ⟨Mw4,Kw4,zw4⟩
 rw[E2]at Mw4
 replace hM1:=Mw4
 replace hW:=hW.sto Kw4 oQ
 refine U (.build (cs:=#[.func (.func 70) #[] #[],.func (.func 71) #[] #[]]) underlying84 zeroValue84 Dd (.cons (.func _) (.cons (.func _) .nil)) rfl) (A9 (.insert (k:=((3+1:Nat):Int)) (v:=Xb ((3+1:Nat):Int)) underlying78 underlying3 (.t rfl) (.const _) (.t rfl) hM1) ?_)
 rintro w5 ⟨Mw5,Kw5,zw5⟩
 rw[E2]at Mw5
 replace hM1:=Mw5
 replace hW:=hW.sto Kw5 oQ
 refine U (.build (cs:=#[.func (.func 72) #[] #[],.func (.func 73) #[] #[]]) underlying84 zeroValue84 Dd (.cons (.func _) (.cons (.func _) .nil)) rfl) (A9 (.insert (k:=((4+1:Nat):Int)) (v:=Xb ((4+1:Nat):Int)) underlying78 underlying3 (.t rfl) (.const _) (.t rfl) hM1) ?_)
 rintro w6 ⟨Mw6,Kw6,zw6⟩
 rw[E2]at Mw6
 replace hM1:=Mw6
 replace hW:=hW.sto Kw6 oQ
 refine U (.build (cs:=#[.func (.func 74) #[] #[],.func (.func 67) #[] #[]]) underlying84 zeroValue84 Dd (.cons (.func _) (.cons (.func _) .nil)) rfl) (A9 (.insert (k:=((5+1:Nat):Int)) (v:=Xb ((5+1:Nat):Int)) underlying78 underlying3 (.t rfl) (.const _) (.t rfl) hM1) ?_)
 rintro w7 ⟨Mw7,Kw7,zw7⟩
 rw[E2]at Mw7
 replace hM1:=Mw7
 replace hW:=hW.sto Kw7 oQ
 refine U (.build (cs:=#[.func (.func 75) #[] #[],.func (.func 67) #[] #[]]) underlying84 zeroValue84 Dd (.cons (.func _) (.cons (.func _) .nil)) rfl) (A9 (.insert (k:=((6+1:Nat):Int)) (v:=Xb ((6+1:Nat):Int)) underlying78 underlying3 (.t rfl) (.const _) (.t rfl) hM1) ?_)
 rintro w8 ⟨Mw8,Kw8,zw8⟩
 rw[E2]at Mw8
 replace hM1:=Mw8
 replace hW:=hW.sto Kw8 oQ
 refine U (.build (cs:=#[.func (.func 76) #[] #[],.func (.func 77) #[] #[]]) underlying84 zeroValue84 Dd (.cons (.func _) (.cons (.func _) .nil)) rfl) (A9 (.insert (k:=((7+1:Nat):Int)) (v:=Xb ((7+1:Nat):Int)) underlying78 underlying3 (.t rfl) (.const _) (.t rfl) hM1) ?_)
 rintro w9 ⟨Mw9,Kw9,zw9⟩
 rw[E2]at Mw9
 replace hM1:=Mw9
 replace hW:=hW.sto Kw9 oQ
 refine U (.build (cs:=#[.func (.func 78) #[] #[],.func (.func 67) #[] #[]]) underlying84 zeroValue84 Dd (.cons (.func _) (.cons (.func _) .nil)) rfl) (A9 (.insert (k:=((8+1:Nat):Int)) (v:=Xb ((8+1:Nat):Int)) underlying78 underlying3 (.t rfl) (.const _) (.t rfl) hM1) ?_)
 rintro w10 ⟨Mw10,Kw10,zw10⟩
 rw[E2]at Mw10
 replace hM1:=Mw10
 replace hW:=hW.sto Kw10 oQ
 refine U (.build (cs:=#[.func (.func 79) #[] #[],.func (.func 80) #[] #[]]) underlying84 zeroValue84 Dd (.cons (.func _) (.cons (.func _) .nil)) rfl) (A9 (.insert (k:=((9+1:Nat):Int)) (v:=Xb ((9+1:Nat):Int)) underlying78 underlying3 (.t rfl) (.const _) (.t rfl) hM1) ?_)
 rintro w11 ⟨Mw11,Kw11,zw11⟩
 rw[E2]at Mw11
 replace hM1:=Mw11
 replace hW:=hW.sto Kw11 oQ
 refine U (.build (cs:=#[.func (.func 81) #[] #[],.func (.func 67) #[] #[]]) underlying84 zeroValue84 Dd (.cons (.func _) (.cons (.func _) .nil)) rfl) (A9 (.insert (k:=((10+1:Nat):Int)) (v:=Xb ((10+1:Nat):Int)) underlying78 underlying3 (.t rfl) (.const _) (.t rfl) hM1) ?_)
 rintro w12 ⟨Mw12,Kw12,zw12⟩
 rw[E2]at Mw12
 replace hM1:=Mw12
 replace hW:=hW.sto Kw12 oQ
 refine I rfl (LW.A rfl (Ai (Al (KW.q ?_))))
 exact⟨_,rfl,hM1,by omega,hW⟩
set_option maxHeartbeats 8000000 in
theorem tM(ad:Option Addr)(cp:Nat)(l:List Fact)(day:Int)(w:World)(hE0:Els w ad 19 Fact.cells l)(hl:l.length≤100000):Ret prog 5 #[.slice ad l.length cp,vi day] w fun r w'=>∃bc ds,r=.agg bc∧BaseC w' bc (Yw ds)∧(∀f∈ds,(Cm f,f)∈Gg l day)∧(ds.map Cm).Perm ((Gg l day).map (·.1))∧xF w.heap.size bc∧(∃v,bc[0]?=some v∧OwnS w' 0 74 19 Fact.cells v (Yw ds).Processes)∧Up w w':=by
 obtain⟨w0,rfl,hS⟩:=W0 w
 refine cT 91 func5 rfl (Af (Ao (.Br zeroValue28) rfl ?_))
 rintro _ w1 ⟨B4,rfl,NB4⟩
 replace hS:=hS.Cg NB4
 refine Am (Aa (LW.r Ms.REv.makeMap rfl rfl rfl rfl ?_))
 rintro _ w2 ⟨B18,rfl,M18,u18,e18,z18⟩
 replace hS:=hS.add u18 (A':=Ms.Bu B18 (O3 [])) M18 (fun i(e:i=B18)=>by omega)
 refine LW.A rfl (Am (Af (I rfl (U (.Cw underlying26 (.t rfl)) (U (.move (.const _)) (Ai (Ae (A3 (σ:=Nat) (fun s w=>(s≤l.length)∧(Wx.Sep no w0 w [Bq B4 #[.slice none 0 0,.slice none 0 0,.slice none 0 0,.slice none 0 0,.slice none 0 0,.slice none 0 0,.slice none 0 0,.slice none 0 0,.slice none 0 0,.slice none 0 0,.slice none 0 0] 28,Ms.Bu B18 (O3 (Gg (l.take s) day))])) (fun s=>[(21,.eq (vi (s:Int)))]) ([(1,.eq _),(4,.eq _),(5,.eq _),(19,.eq _),(20,.eq _)]) (fun s=>l.length-s) 0 ?_ tQ ?_))))))))
 ·exact⟨Nat.zero_le _,hS⟩
 rintro k w3 ⟨hkk,hS⟩
 refine Af (U (.l2 rfl rfl) (Am (CW.b rfl (fun h22=>?_) (fun h22=>?_))))
 ·replace h22:=dQ h22
  refine Aj (Ac (Ah (Ae (Ah ?_))))
  have hE:=Els.up hE0 hS.Ch
  have hkl:k<l.length:=by simp at h22;omega
  refine Aa ?_
  obtain⟨x,hx⟩:=Aq (xs:=l) (i:=k) oQ
  obtain⟨Bx,ox,ax,hcx⟩:=hE _ x hx
  refine U (.Aw underlying26 sizeOf74 (.t rfl) (.t rfl) oQ ax) (U (.lc rfl (hcx)) (Ao (.Br zeroValue74) rfl ?_))
  rintro _ w4 ⟨B7,rfl,MB7⟩
  refine A9 (.Ca sizeOf74 rfl (.t rfl) (.t rfl) eQ MB7.blk rfl) ?_
  intro w5 LB7
  have NB7:=MB7.set LB7
  replace hcx:=hcx.up NB7.up
  replace hS:=hS.Cg NB7
  refine Am (Aa (U (.lc rfl (hS.b2.agg)) (A6 (eC (.o rfl) (xR)) rfl (V8 x _) ?_)))
  rintro _ w6 ⟨rfl,uw6⟩
  replace hS:=hS.up uw6
  refine LW.A rfl (Am (Ah ?_))
  cases hq6:decide (Cm x=[])with
  |true=>
   replace hq6:=of_decide_eq_true hq6
   refine Aa (I rfl (U (.tr (Rh (.t rfl) (.const _)) (jR hq6)) (I rfl (C7 (C7 (C7 (C7 (U (.tr (PEv.El (b:=false) (.t rfl) (fun hp=>absurd (show true=false from hp) cQ)) (rfl)) (Ai (CW.v rfl (A4 (Ab (An (Ac (Aa (U (.ic rfl oQ) (I rfl (LW.nil (Ar ?_)))))))))))))))))))
   exact⟨k+1,⟨by omega,by rw[Jq hx];(rw[H5 (.inl hq6)];exact hS.take 2)⟩,tQ,by omega⟩
  |false=>
   replace hq6:=of_decide_eq_false hq6
   refine Aa (I rfl (U (.fa (Rh (.t rfl) (.const _)) (oF hq6)) (I rfl (Bh (U (.fB 3 rfl) (Bh (U (.lb rfl (hS.b2.Ak rfl)) (Bh (I rfl (Bh (U (.gtr (.t rfl) (.t rfl)) (U (.po rfl (fun hp=>(by exact .tmp rfl))) (Ai (CW.b rfl (fun h34=>?_) (fun h34=>?_)))))))))))))))
   ·replace h34:=dQ h34
    skip
    refine A4 (Ab (An (Ac (Aa (U (.ic rfl oQ) (I rfl (LW.nil (Ar ?_))))))))
    exact⟨k+1,⟨by omega,by rw[Jq hx];(rw[H5 (.inr h34)];exact hS.take 2)⟩,tQ,by omega⟩
   replace h34:=dQ h34
   have hno:¬(Cm x=[]∨day<x.Day):=fun h=>h.elim hq6 (fun h2=>by simp at h34;omega)
   refine Aj (Ac (Ah ?_))
   cases hq7:R4 (Gg (l.take k) day) (Cm x)with
   |none=>
    refine Aa (I rfl (I rfl (U (Ms.PEv.Gt underlying72 underlying9 zeroValue74 (.t rfl) (.t rfl) (hS.get 1 rfl) (U4 hq7)) (I rfl (U (.xt rfl rfl) (U (.xt rfl rfl) (Ao (.Br zeroValue74) rfl ?_)))))))
    rintro _ w7 ⟨B9,rfl,MB9⟩
    refine A9 (.Ca sizeOf74 rfl (.t rfl) (.t rfl) eQ MB9.blk rfl) ?_
    intro w8 LB9
    have NB9:=MB9.set LB9
    replace hS:=hS.Cg NB9
    refine LW.A rfl (Am (Aa (I rfl (U (.tr (PEv.n1 rfl) (rfl)) (I rfl (C7 (C7 (C7 (U (.tr (PEv.El (b:=false) (.t rfl) (fun hp=>absurd (show true=false from hp) cQ)) (rfl)) (Ai (CW.v rfl (Aa (I rfl (I rfl (U (.lc rfl (hS.b2.agg)) (A9 (Ms.SEv.mapUpdate underlying72 underlying9 (.t rfl) (.t rfl) (.t rfl) (hS.get 1 rfl)) ?_))))))))))))))))
    rintro w9 ⟨Mu,Ku,zu⟩
    rw[Yq]at Mu
    replace hS:=hS.Dw 1 rfl (Ms.Ka Mu Ku)
    refine LW.nil (Ad (Ac (Aa (U (.ic rfl oQ) (I rfl (LW.nil (Ar ?_)))))))
    exact⟨k+1,⟨by omega,by rw[Jq hx];(rw[Yr hno hq7];exact hS.take 2)⟩,tQ,by omega⟩
   |some old=>
    refine Aa (I rfl (I rfl (U (Ms.PEv.Cx underlying72 underlying9 (.t rfl) (.t rfl) (hS.get 1 rfl) (jQ hq7)) (I rfl (U (.xt rfl rfl) (U (.xt rfl rfl) (Ao (.Br zeroValue74) rfl ?_)))))))
    rintro _ w10 ⟨B9,rfl,MB9⟩
    refine A9 (.Ca sizeOf74 rfl (.t rfl) (.t rfl) eQ MB9.blk rfl) ?_
    intro w11 LB9
    have NB9:=MB9.set LB9
    replace hS:=hS.Cg NB9
    refine LW.A rfl (Am (Aa (I rfl (U (.fa (PEv.n1 rfl) (rfl)) (I rfl (Bh (U (.lc rfl (hS.b2.agg)) (Bh (U (.lc rfl (hS.b3.agg)) (Bh (A6 (eC (.u rfl rfl) (GN)) rfl (V9 x old _) ?_)))))))))))
    rintro _ w12 ⟨rfl,uw12⟩
    replace hS:=hS.up uw12
    refine U (.po rfl (fun hp=>(by exact .tmp rfl))) (Ai (CW.b rfl (fun h47=>?_) (fun h47=>?_)))
    ·replace h47:E0 x old=true:=by simpa using h47
     refine Aa (I rfl (I rfl (U (.lc rfl (hS.b2.agg)) (A9 (Ms.SEv.mapUpdate underlying72 underlying9 (.t rfl) (.t rfl) (.t rfl) (hS.get 1 rfl)) ?_))))
     rintro w13 ⟨Mu,Ku,zu⟩
     rw[Yq]at Mu
     replace hS:=hS.Dw 1 rfl (Ms.Ka Mu Ku)
     refine LW.nil (Ad (Ac (Aa (U (.ic rfl oQ) (I rfl (LW.nil (Ar ?_)))))))
     exact⟨k+1,⟨by omega,by rw[Jq hx];(rw[Ys hno hq7 h47];exact hS.take 2)⟩,tQ,by omega⟩
    replace h47:E0 x old=false:=by simpa using h47
    refine Aj (Ad (Ac (Aa (U (.ic rfl oQ) (I rfl (LW.nil (Ar ?_)))))))
    exact⟨k+1,⟨by omega,by rw[Jq hx];(rw[Yt hno hq7 h47];exact hS.take 2)⟩,tQ,by omega⟩
 refine A4 (Ab (Ab (An (Ac (Ah ?_)))))
 have hkl:k=l.length:=by simp at h22;omega
 subst hkl
 rw[List.take_length]at hS
 obtain⟨M,hM⟩:∃M,M=Gg l day:=⟨_,rfl⟩
 rw[←hM]at hS
 have hMo:=(Wf day l).1
 have hMl:=(Wf day l).2
 rw[←hM]at hMo hMl
 refine Aa (Ao (.Br zeroValue28) rfl ?_)
 rintro _ w14 ⟨B11,rfl,NB11⟩
 replace hS:=hS.Cg NB11
 refine Am (Aa (A6 (eC .nil (GO)) rfl (jV _) ?_))
 rintro _ w15 ⟨bk,rfl,hKm,hKb,uw15⟩
 replace hS:=hS.add uw15 (A':=Bu bk (P8 Xb 11)) (hKm) (fun i(e:i=bk)=>by omega)
 refine LW.A rfl (Am (Ah ?_))
 have hLn:=jP 74 19 Fact.cells 11 w15
 replace hS:=hS.add (Up.refl _) (A':=D5 (lists 74 19 Fact.cells (List.replicate 11 (.slice none 0 0)) (List.replicate 11 ([]:List Fact)))) hLn.1 (fun i h=>absurd h (hLn.2 i))
 rw[←tF]at hS
 refine Aa (I rfl (Ao (Ms.REv.range underlying72 (.t rfl) (hS.get 1 rfl)) rfl ?_))
 rintro _ w16 ⟨r54,rfl,hR_,uR,eR,zR⟩
 replace hS:=hS.Dw 1 rfl (Ms.Gf hR_ uR eR)
 refine Ai (Ae (A3 (σ:=List Fact×List Go.Value) (fun s w=>(∀f∈s.1,(Cm f,f)∈M)∧((s.1.map Cm).Nodup)∧(s.2.length=11)∧(Wx.Sep no w0 w [Bq B4 #[.slice none 0 0,.slice none 0 0,.slice none 0 0,.slice none 0 0,.slice none 0 0,.slice none 0 0,.slice none 0 0,.slice none 0 0,.slice none 0 0,.slice none 0 0,.slice none 0 0] 28,Ms.Fi B18 r54 (O3 M) (s.1.map Cm),Bq B11 s.2.toArray 28,Bu bk (P8 Xb 11),D5 (lists 74 19 Fact.cells s.2 (Yv [] s.1))])) (fun s=>[]) ([(4,.eq _),(11,.eq _),(12,.eq _),(54,.eq _)]) (fun s=>M.length-s.1.length) ([],List.replicate 11 (.slice none 0 0)) ?_ tQ ?_))
 ·exact⟨fun f h=>by simp at h,List.nodup_nil,rfl,hS⟩
 rintro⟨ds,vs⟩ w17 ⟨hds,hdn,hvl,hS⟩
 dsimp only at hds hdn hvl hS
 refine Af (Ao (Ms.REv.next (.t rfl) (hS.get 1 rfl)) rfl ?_)
 rintro _ w18 (⟨rfl,rfl,hPm⟩|⟨k0,u0,rfl,hNx⟩)
 ·skip
  refine U (.xt rfl rfl) (Am (CW.f rfl (A4 (Ab (Ab (An (Ac (Ah (Ah ?_)))))))))
  have hPd:=hPm
  refine Aa (I rfl (Ao (.range underlying78 (.t rfl) (hS.get 3 rfl)) rfl ?_))
  rintro _ w19 ⟨r77,rfl,hR_,uR,eR,zR⟩
  replace hS:=hS.Dw 3 rfl (Gf hR_ uR eR)
  refine Ai (Ae (A3 (σ:=List Int) (fun s w=>(s.Nodup∧∀k∈s,1≤k∧k≤11)∧(Wx.Sep no w0 w [Bq B4 #[.slice none 0 0,.slice none 0 0,.slice none 0 0,.slice none 0 0,.slice none 0 0,.slice none 0 0,.slice none 0 0,.slice none 0 0,.slice none 0 0,.slice none 0 0,.slice none 0 0] 28,Ms.Fi B18 r54 (O3 M) (ds.map Cm),Bq B11 vs.toArray 28,Fi bk r77 (P8 Xb 11) s,D5 (lists 74 19 Fact.cells vs (Yv s ds))])) (fun s=>[]) ([(4,.eq _),(11,.eq _),(77,.eq _)]) (fun s=>11-s.length) [] ?_ tQ ?_))
  ·exact⟨⟨List.nodup_nil,fun k h=>by simp at h⟩,hS⟩
  rintro dn w20 ⟨hdk,hS⟩
  refine Af (Ao (.next (.t rfl) (hS.get 3 rfl)) rfl ?_)
  rintro _ w21 (⟨rfl,rfl,hPm⟩|⟨kk,u0,rfl,hNx⟩)
  ·skip
   refine U (.xt rfl rfl) (Am (CW.f rfl (A4 (Ab (Ab (An (Ac (Ah ?_))))))))
   obtain⟨v0,v1,v2,v3,v4,v5,v6,v7,v8,v9,v10,rfl⟩:=Wh hvl
   have hv1:=U3 (hS.get 4 rfl) (by rw[hvl,Hz])
   refine Aa (U (.lc rfl (hS.b2.agg)) (A9 (.Ca sizeOf28 rfl (.t rfl) (.t rfl) (tH hv1) hS.b0 rfl) ?_))
   intro w22 Nw22
   have zw22:=Nw22.size
   replace hS:=hS.Dz 0 rfl Nw22
   refine Ai (Al (F6 rfl rfl isAgg28 sizeOf28 rfl (hS.b0.agg) ⟨_,rfl,?_⟩))
   have hOw:=hS.get 4 rfl
   have hin:∀k:Nat,k<11→((k+1:Nat):Int)∈dn:=fun k hk=>hPm.symm.subset (List.mem_map.2 ⟨(((k+1:Nat):Int),Xb ((k+1:Nat):Int)),K9.2 ⟨by omega,by omega,rfl⟩,rfl⟩)
   exact⟨_,ds,rfl,⟨v0,v1,v2,v3,v4,v5,v6,v7,v8,v9,v10,rfl,Fo hOw (j:=0) rfl cQ (hin 0 cQ),Fo hOw (j:=1) rfl cQ (hin 1 cQ),Fo hOw (j:=2) rfl cQ (hin 2 cQ),Fo hOw (j:=3) rfl cQ (hin 3 cQ),Fo hOw (j:=4) rfl cQ (hin 4 cQ),Fo hOw (j:=5) rfl cQ (hin 5 cQ),Fo hOw (j:=6) rfl cQ (hin 6 cQ),Fo hOw (j:=7) rfl cQ (hin 7 cQ),Fo hOw (j:=8) rfl cQ (hin 8 cQ),Fo hOw (j:=9) rfl cQ (hin 9 cQ),Fo hOw (j:=10) rfl cQ (hin 10 cQ)⟩,fun f hf=>hM▸hds f hf,by rw[L5]at hPd;exact hM▸hPd,cA (by rw[Hz];rfl) (fun i hi=>(hS.foot 4 rfl i hi).resolve_left fun h=>h),⟨v0,rfl,oG hOw (j:=0) rfl cQ (hin 0 cQ)⟩,hS.Ch⟩
  skip
  have zw21:=hNx.size
  replace hS:=hS.Dw 3 rfl (Hd hNx)
  obtain⟨hk1,hk2,hu0⟩:=K9.1 hNx.mem
  subst hu0
  have hfr2:=hNx.fresh
  have hkk1:1≤kk∧kk≤11:=⟨hk1,by omega⟩
  replace hk2:kk≤11:=by omega
  obtain⟨j,hj⟩:∃j,j=(kk-1).toNat:=⟨_,rfl⟩
  have hj11:j<11:=by omega
  have hkk2:kk=((j+1:Nat):Int):=by omega
  have hdl:=R6 hds hdn
  obtain⟨v,hvj⟩:=Aq (xs:=vs) (i:=j) oQ
  have hdk2:(dn++[kk]).Nodup∧∀k∈dn++[kk],1≤k∧k≤11:=⟨List.nodup_append.2 ⟨hdk.1,by simp,fun a ha c hc=>by simp at hc;subst hc;exact fun e=>hfr2 (e▸ha)⟩,fun k hk=>(List.mem_append.1 hk).elim (hdk.2 k) (fun h=>by cases List.mem_singleton.1 h;exact hkk1)⟩
  refine U (.xt rfl rfl) (Am (CW.v rfl (Aj (Ac (Ae (Ah ?_))))))
  skip
  refine Aa (Ao (.entry (.t rfl) hNx.entry) rfl ?_)
  rintro _ _ ⟨rfl,rfl⟩
  refine U (.val (v':=.agg #[.func (.func (Nb kk)) #[] #[],.func (.func (N3 kk)) #[] #[]]) (PEv.xt rfl rfl) rfl) (Ao (.Br zeroValue84) rfl ?_)
  rintro _ w23 ⟨B17,rfl,MB17⟩
  refine A9 (.Ca sizeOf84 rfl (.t rfl) (.t rfl) eQ MB17.blk rfl) ?_
  intro w24 LB17
  have NB17:=MB17.set LB17
  replace hS:=hS.Cg NB17
  refine Ai (Iw 7 [.eq (.pointer (some ⟨B17,0,none⟩)),.eq (.func (.func (Nb kk)) #[] #[]),.eq (.pointer (some ⟨B11,j,none⟩)),.eq (.pointer (some ⟨B11,j,none⟩)),.eq (v),.eq (.pointer (some ⟨B17,1,none⟩)),.eq (.func (.func (N3 kk)) #[] #[])] [86,88] kQ rfl kQ kQ kQ kQ kQ kQ kQ uQ ?_ ?_)
  ·intro W hU0
   have hU:=(Up.drew w24).trans hU0
   refine aC ⟨rfl,TU.p (.fB 0 rfl) rfl⟩ (aC ⟨rfl,TU.p (.lb rfl ((hS.b5.up hU).Ak rfl)) rfl⟩ (aC ⟨rfl,TU.c (Db (.t rfl) (.cu rfl) (gB kk hk1 hk2)) (Yz kk hk1 hk2 B11 _) (by rintro _ W1 ⟨rfl,u⟩;exact⟨u,by rw[hj];rfl⟩)⟩ (aC ⟨rfl,TU.p (.nc rfl) rfl⟩ (aC ⟨rfl,TU.p (.lb rfl ((hS.b2.up hU).cell (by simpa using hvj))) rfl⟩ (aC ⟨rfl,TU.p (.fB 1 rfl) rfl⟩ (aC ⟨rfl,TU.p (.lb rfl ((hS.b5.up hU).Ak rfl)) rfl⟩ ?_))))))
   exact allL.nil
  intro w25 g hU0 hg
  have hU:=(Up.drew w24).trans hU0
  replace hS:=hS.up hU
  have e86:g 86=v:=hg 4 _ 86 cQ rfl rfl
  have e88:g 88=.func (.func (N3 kk)) #[] #[]:=hg 6 _ 88 cQ rfl rfl
  change LW _ _ _ _ _ _ _ _ ((86,.eq (g 86))::(88,.eq (g 88))::_) _
  rw[e86,e88]
  refine A6 (eC (.u rfl rfl) (GP)) rfl (J9 (N3 kk) (Lb kk) (zC kk hk1 hk2) (fun W x=>tL kk hk1 hk2 x W) v (D6 dn ds j) _ (Jp (hS.get 4 rfl) hvj (F8 _ _ hj11)) (by have:=Wg dn ds j;omega)) ?_
  rintro _ w26 ⟨rfl,hSo⟩
  replace hS:=hS.Dw 4 rfl (La (hS.get 4 rfl) (L4 hvj (F8 _ _ hj11)) hSo)
  rw[O2,N2 hvj,hkk2]at hS
  refine LW.nil (Ad (Ar ?_))
  exact⟨dn++[kk],⟨hdk2,by rw[hkk2,←oE hj11 (by rw[←hkk2];exact hfr2)];exact hS.take 5⟩,tQ,by have:=jT hdk hkk1 hfr2;simp;omega⟩
 skip
 have zw18:=hNx.size
 replace hS:=hS.Dw 1 rfl (Ms.Hd hNx)
 obtain⟨⟨kx,x⟩,hmem0,he0⟩:=List.mem_map.1 hNx.mem
 cases he0
 obtain⟨hkx,hxv⟩:=hMo _ hmem0
 dsimp only at hkx hxv
 subst hkx
 have hmem:=hmem0
 have hfr:=hNx.fresh
 have hk12:1≤x.Kind∧x.Kind≤11:=Ew hxv
 have hds2:∀f∈ds++[x],(Cm f,f)∈M:=fun f hf=>(List.mem_append.1 hf).elim (hds f) (fun h=>by cases List.mem_singleton.1 h;exact hmem)
 have hdn2:((ds++[x]).map Cm).Nodup:=R5 hdn hfr
 obtain⟨j,hj⟩:∃j,j=(x.Kind-1).toNat:=⟨_,rfl⟩
 have hj11:j<11:=by omega
 have hkj:x.Kind=((j+1:Nat):Int):=by omega
 have hdl:=R6 hds hdn
 have hdl2:=R7 hds hdn hmem hfr
 refine U (.xt rfl rfl) (Am (CW.v rfl (Aj (Ac (Ae (Af (Ao (Ms.REv.entry (.t rfl) hNx.entry) rfl ?_)))))))
 rintro _ _ ⟨rfl,rfl⟩
 refine U (.xt rfl rfl) (Ao (.Br zeroValue74) rfl ?_)
 rintro _ w27 ⟨B14,rfl,MB14⟩
 refine A9 (.Ca sizeOf74 rfl (.t rfl) (.t rfl) eQ MB14.blk rfl) ?_
 intro w28 LB14
 have NB14:=MB14.set LB14
 replace hS:=hS.Cg NB14
 refine Am ?_
 cases hq16:x.Gone with
 |true=>
  have hgn:=hq16
  refine Aa (U (.fB 4 rfl) (U (.lb rfl (hS.b5.Ak rfl)) (U (.fa (PEv.n1 rfl) (by rw[hq16];rfl)) (Ai (CW.f rfl (Aj (Ad (Ar ?_))))))))
  exact⟨(ds++[x],vs),⟨hds2,hdn2,hvl,by(rw[oD hgn,List.map_append];exact hS.take 5)⟩,tQ,by show M.length-(ds++[x]).length<M.length-ds.length;have:=R7 hds hdn hmem hfr;simp;omega⟩
 |false=>
  have hgn:=hq16
  refine Aa (U (.fB 4 rfl) (U (.lb rfl (hS.b5.Ak rfl)) (U (.tr (PEv.n1 rfl) (by rw[hq16];rfl)) (Ai (CW.v rfl (Af (I rfl (U (.fB 0 rfl) (U (.lb rfl (hS.b5.Ak rfl)) (U (.val (v':=.agg #[.func (.func (Nb x.Kind)) #[] #[],.func (.func (N3 x.Kind)) #[] #[]]) (PEv.Cx (ok:=false) underlying78 underlying3 (.t rfl) (.t rfl) (hS.get 3 rfl) (K9.2 ⟨hk12.1,(show x.Kind≤((11:Nat):Int)from by omega),rfl⟩)) rfl) (U (.nB (off:=0) underlying84 rfl rfl isAgg81 (.t rfl) rfl) (A6 (Db (.t rfl) (.cu rfl) (gB x.Kind hk12.1 hk12.2)) rfl (Yz x.Kind hk12.1 hk12.2 B11 _) ?_))))))))))))
  rintro _ w29 ⟨rfl,uw29⟩
  replace hS:=hS.up uw29
  rw[←hj]
  refine LW.A rfl (Ai ?_)
  obtain⟨v,hvj⟩:=Aq (xs:=vs) (i:=j) oQ
  refine Rg 6 (fun v w''=>Wx.Sep no w0 w'' [Bq B4 #[.slice none 0 0,.slice none 0 0,.slice none 0 0,.slice none 0 0,.slice none 0 0,.slice none 0 0,.slice none 0 0,.slice none 0 0,.slice none 0 0,.slice none 0 0,.slice none 0 0] 28,Ms.Fi B18 r54 (O3 M) (ds.map Cm++[Cm x]),Bq B11 vs.toArray 28,Bu bk (P8 Xb 11),D5 ((lists 74 19 Fact.cells vs (Yv [] ds)).set j (J 74 19 Fact.cells v (D6 [] ds j++[x]))),Bq B14 x.cells 74]) kQ kQ kQ kQ kQ kQ rfl rfl rfl rfl rfl (Au (.mv rfl) (Au (.mv rfl) (Au (.nc rfl) (Au (.lb rfl (hS.b2.cell (by simpa using hvj))) (Au (.lc rfl (hS.b5.agg)) (HW.r (p:=fun v w=>Sl w v 19 (Fact.cells) [x]) (fun _ _ _ h u=>Sl.up h u) rfl (fun w hu a ha=>let⟨v,w',h1,h2⟩:=REv.buildSlice (xs:=[x]) (enc:=Fact.cells) (mk:=fun f:Fact=>.agg f.cells) underlying26 sizeOf74 zeroValue74 rfl bQ (fun _=>rfl) (fun _=>rfl) (.cu rfl) rfl a ha;⟨v,w',h1,h2.q⟩) rfl (HW.nil ⟨fun a w' hu ha=>?_,?_⟩)))))))
  ·exact(REv.open (d:=73) (p:=fun v w=>Sl w v 19 Fact.cells [x]) rfl fun vv hv=>(REv.Cu (bytes:=160) (i:=Tryz.t74) underlying26 kQ rfl rfl rfl rfl cQ (fun _=>rfl) Fact.one (.t rfl) (.t rfl) (Jp ((hS.up hu).get 4 rfl) hvj (F8 _ _ hj11)) hv (by have:=Wg [] ds j;simp only[List.length_cons,List.length_nil,maxLen];omega) (by have:=Wg [] ds j;simp only[List.length_cons,List.length_nil];omega)).mono fun v' w'' h=>(hS.up hu).Dw 4 rfl (La ((hS.up hu).get 4 rfl) (L4 hvj (F8 _ _ hj11)) h)).y ha
  intro v74 w30 hS
  have hv1:v74.oneCell'=true:=by
   have h:=hS.get 4 rfl
   rw[O2]at h
   exact U3 h (by rw[List.length_set,List.length_set,hvl,Hz]) v74 (List.mem_of_getElem? (i:=j) (by rw[List.getElem?_set_self (by omega)]))
  refine U (.nc rfl) (A9 (.store sizeOf26 (.t rfl) (.t rfl) hv1 hS.b2 (by simp;omega)) ?_)
  intro w31 Nw31
  have zw31:=Nw31.size
  replace hS:=hS.Dz 2 rfl (by rw[tG]at Nw31;exact Nw31)
  refine LW.nil (Ad (Ar ?_))
  exact⟨(ds++[x],vs.set j v74),⟨hds2,hdn2,by show(vs.set j v74).length=11;rw[List.length_set];exact hvl,by(rw[tE hgn hj11 hkj,←O2,List.map_append];exact hS.take 5)⟩,tQ,by show M.length-(ds++[x]).length<M.length-ds.length;have:=R7 hds hdn hmem hfr;simp;omega⟩
theorem zD(ad:Option Addr)(cp:Nat)(l:List Fact)(day:Int)(w:World)(hE0:Els w ad 19 Fact.cells l)(hl:l.length≤100000):Ret prog 5 #[.slice ad l.length cp,vi day] w fun r w'=>∃bc,r=.agg bc∧BaseC w' bc (tI l day)∧Up w w':=
 (tM ad cp l day w hE0 hl).mono fun _ _⟨bc,_,e,hB,h1,h2,_,_,u⟩=>⟨bc,e,yQ h1 h2▸hB,u⟩
end Go.Proofs.YtdilcdgjklimoaaGreatDoor
