import Derived.Test.YtbcnnkfopoiifaaGreatDoorKR115
import Derived.WideKeyArr
namespace Go.Wx.Mk
open Go.RowKit Go.MapKept Go.Wx
open Go.ChangeMaps (setBlock)
structure KT(κ:Type) where
 vk:κ→Value
 ok:κ→Prop
 inj:∀{a b:κ},vk a=vk b→a=b
structure KT.Law{κ:Type}(Q:KT κ)(P:Program)(K:TypeId):Prop where
 check:∀(w:World)(em:Bool){k:κ},Q.ok k→(Instr.checkKey em 10000 K (Q.vk k)).run P w=.ok () w
 find:∀(w:World){x:κ},Q.ok x→∀es:List MapEntry,(∀e∈es,∃k,Q.ok k∧e.key=Q.vk k)→
   ((Instr.findKey K (Q.vk x) es).run P w=.ok none w∧∀e∈es,e.key≠Q.vk x)∨∃j e,(Instr.findKey K (Q.vk x) es).run P w=.ok (some (j,e.val)) w∧es[j]?=some e∧e.key=Q.vk x
 stays:∀(w:World){k:κ},Q.ok k→(Instr.keyThatStays (Q.vk k) (Q.vk k)).run P w=.ok (Q.vk k) w
theorem KT.Law.of{κ:Type}{Q:KT κ}{P:Program}{K:TypeId}(L:WideMaps.KeyLaw P K)(h:∀k,Q.ok k→∃l,keyOf P K (Q.vk k)=some l):Q.Law P K where
 check w em k hk:=(h k hk).elim fun _ e=>L.check w em e
 find w x hx es hes:=(h x hx).elim fun _ e=>L.find w e es fun y hy=>by
   obtain⟨k,hk,ek⟩:=hes y hy
   rw[ek];exact h k hk
 stays w k hk:=(h k hk).elim fun _ e=>L.stays w e
variable {κ:Type}{Q:KT κ}
def Je(Q:KT κ)(p:κ×Value):Value×Value:=(Q.vk p.1,p.2)
def IMap(Q:KT κ)(w:World)(b:Nat)(kv:List (κ×Value)):Prop:=
 ∃es clock,w.heap[b]?=some (.map es clock)∧Stamped es clock∧es.toList.map Fc=kv.map (Je Q)∧∀p∈kv,Q.ok p.1
theorem IMap.lt{w:World}{b:Nat}{kv:List (κ×Value)}(h:IMap Q w b kv):b<w.heap.size:=let⟨_,_,h1,_⟩:=h;lt_of_block h1
theorem IMap.up{w w':World}{b:Nat}{kv:List (κ×Value)}(h:IMap Q w b kv)(u:Up w w'):IMap Q w' b kv:=by
 have:=h.lt
 obtain⟨es,clock,h1,h2⟩:=h
 exact⟨es,clock,(u.block this).trans h1,h2⟩
theorem Gf{es:Array MapEntry}{kv:List (κ×Value)}(h:es.toList.map Fc=kv.map (Je Q)):∀x∈es.toList,∃k,x.key=Q.vk k∧(k,x.val)∈kv:=by
 intro x hx
 have h1:Fc x∈kv.map (Je Q):=by rw[←h];exact aq.2 ⟨x,hx,rfl⟩
 obtain⟨p,hp,he⟩:=aq.1 h1
 have e1:Q.vk p.1=x.key:=a_ Prod.fst he
 have e2:p.2=x.val:=a_ Prod.snd he
 exact⟨p.1,e1.symm,by rw[←e2];exact hp⟩
theorem Eu{es:Array MapEntry}{kv:List (κ×Value)}(h:es.toList.map Fc=kv.map (Je Q)){p:κ×Value}(hp:p∈kv):∃x∈es.toList,x.key=Q.vk p.1∧x.val=p.2:=by
 have h1:Je Q p∈es.toList.map Fc:=by rw[h];exact aq.2 ⟨p,hp,rfl⟩
 obtain⟨x,hx,he⟩:=aq.1 h1
 exact⟨x,hx,a_ Prod.fst he,a_ Prod.snd he⟩
theorem Fx{es:Array MapEntry}{clock:Nat}{kv:List (κ×Value)}(hs:Stamped es clock)(h:es.toList.map Fc=kv.map (Je Q)):(kv.map (·.1)).Nodup:=by
 have h1:es.toList.map (·.key)=(kv.map (·.1)).map Q.vk:=by
   have:=a_ (List.map Prod.fst) h
   simpa[f5,j8,Fc,Je]using this
 have h2:=hs.2.2
 rw[h1]at h2
 exact List.Pairwise.of_map Q.vk (fun a b hab e=>hab (by rw[e])) h2
def Hn[DecidableEq κ](kv:List (κ×Value))(k:κ)(v:Value):List (κ×Value):=if k∈kv.map (·.1)then kv.map (fun p=>if p.1=k then(k,v)else p)else kv++[(k,v)]
theorem IMap.nodup{w:World}{b:Nat}{kv:List (κ×Value)}(h:IMap Q w b kv):(kv.map (·.1)).Nodup:=let⟨_,_,_,h2,h3,_⟩:=h;Fx h2 h3
theorem Jy[DecidableEq κ]{es:Array MapEntry}{clock:Nat}{kv:List (κ×Value)}(hs:Stamped es clock)(h:es.toList.map Fc=kv.map (Je Q)){j:Nat}{e:MapEntry}{k:κ}{v:Value}(hj:es[j]?=some e)(hk:e.key=Q.vk k):
   (es.modify j fun e=>{ e with key:=Q.vk k,val:=v }).toList.map Fc=(Hn kv k v).map (Je Q):=by
 have hn:=Fx hs h
 have hat:∀i:Nat,(es.toList.map Fc)[i]?=(kv.map (Je Q))[i]?:=fun i=>by rw[h]
 simp only[cg,gj]at hat
 have hkj:∃p,kv[j]?=some p∧p.1=k:=by
   have:=hat j
   rw[hj]at this
   cases hp:kv[j]? with
   |none=>rw[hp]at this;cases this
   |some p=>
     rw[hp]at this
     have h1:Fc e=Je Q p:=by simpa using this
     have h2:e.key=Q.vk p.1:=a_ Prod.fst h1
     exact⟨p,rfl,Q.inj (h2.symm.trans hk)⟩
 obtain⟨p,hp,hpk⟩:=hkj
 have hmem:k∈kv.map (·.1):=aq.2 ⟨p,am hp,hpk⟩
 rw[Hn,ak hmem]
 apply ck
 intro i
 simp only[cg,gj,i5]
 by_cases hij:j=i
 · subst hij
   rw[ak rfl,hj,hp]
   simp[Fc,Je,hpk]
 rw[ae hij,hat i]
 cases hq:kv[i]? with
 |none=>rfl
 |some q=>
   have hne:q.1≠k:=fun e'=>by
     have h1:(kv.map (·.1))[i]?=some k:=by simp[hq,e']
     have h2:(kv.map (·.1))[j]?=some k:=by simp[hp,hpk]
     obtain⟨hi,h3⟩:=ai.1 h1
     obtain⟨hj',h4⟩:=ai.1 h2
     exact hij ((jn hn).1 (h4.trans h3.symm))
   simp[hne]
theorem lF{es:Array MapEntry}{kv:List (κ×Value)}(h:es.toList.map Fc=kv.map (Je Q))(ho:∀p∈kv,Q.ok p.1):∀x∈es.toList,∃k,Q.ok k∧x.key=Q.vk k:=fun x hx=>by
 obtain⟨k,hk,hm⟩:=Gf h x hx
 exact⟨k,ho _ hm,hk⟩
theorem lG[DecidableEq κ]{kv:List (κ×Value)}{k:κ}{v:Value}(ho:∀p∈kv,Q.ok p.1)(hk:Q.ok k):∀p∈Hn kv k v,Q.ok p.1:=fun p hp=>by
 unfold Hn at hp
 split at hp
 · obtain⟨q,hq,rfl⟩:=aq.1 hp
   split
   · exact hk
   exact ho q hq
 rcases be.1 hp with hp|hp
 · exact ho p hp
 rw[aa.1 hp];exact hk
section
variable {P:Program}{n:Nat}{ds:List Deferred}{l:Env}{w:World}{d:Option Tmp}{ty:TypeId}{ps:String}{af:Array Edge}{g:Option (Nat×Bool)}
theorem SEv.mapUpdate[DecidableEq κ]{T K E:TypeId}{m x y:Operand}{b:Nat}{k:κ}{v:Value}{kv:List (κ×Value)}(hT:P.underlying T=some (.map K E))(hK:Q.Law P K)(hko:Q.ok k)(hm:Val l m (.map (some b)))(hx:Val l x (Q.vk k))(hy:Val l y v)(h:IMap Q w b kv):
   SEv P n ds l w ⟨none,.mapUpdate T m x y,ty,ps,af,g⟩ (fun w'=>IMap Q w' b (Hn kv k v)∧Sto b w w'∧w'.heap.size=w.heap.size):=fun a ha=>by
 obtain⟨es,clock,hb,hs,he,ho⟩:=h
 have fin:∀o:Obj,Sto b w { w with heap:=w.heap.setIfInBounds b o }:=fun o=>⟨rfl,rfl,rfl,by simp,fun i _ hne=>(heap_set hb).2 i hne⟩
 rcases hK.find w hko es.toList (lF he ho)with⟨h1,h2⟩|⟨j,e,h1,h2,h3⟩
 · refine⟨_,Pz (w':={ w with heap:=w.heap.setIfInBounds b (.map (es.push { key:=Q.vk k,val:=v,born:=clock }) (clock+1)) }) ?_,⟨_,_,(heap_set hb).1,stamped_push hs h2,?_,lG ho hko⟩,fin _,by simp⟩
   · rw[ha.ev hm,ha.ev hx,ha.ev hy]
     simp[Instr.mapUpdate,run_underlying hT,MapKept.run_getObj_map hb,hK.check w _ hko,h1,MapKept.run_setObj_map _ hb,Result.andThen]
   have hni:k∉kv.map (·.1):=fun hmem=>by
     obtain⟨p,hp,hpk⟩:=aq.1 hmem
     obtain⟨x',hx',hkx,_⟩:=Eu he hp
     exact h2 x' hx' (by rw[hkx,hpk])
   rw[Hn,ae hni]
   simp[he,Fc,Je]
 have hj:es[j]?=some e:=by simpa using h2
 have hkey:∀e',es[j]?=some e'→({ e' with key:=Q.vk k,val:=v }:MapEntry).key=e'.key:=fun e' he'=>by rw[hj]at he';cases he';exact h3.symm
 refine⟨_,Pz (w':={ w with heap:=w.heap.setIfInBounds b (.map (es.modify j fun e=>{ e with key:=Q.vk k,val:=v }) clock) }) ?_,⟨_,_,(heap_set hb).1,stamped_modify hs _ _ (fun _ _=>rfl) (fun e' _ he'=>hkey e' he'),Jy hs he hj h3,lG ho hko⟩,fin _,by simp⟩
 rw[ha.ev hm,ha.ev hx,ha.ev hy]
 simp[Instr.mapUpdate,run_underlying hT,MapKept.run_getObj_map hb,hK.check w _ hko,h1,hj,h3,hK.stays w hko,MapKept.run_setObj_map _ hb,Result.andThen]
theorem REv.makeMap{T:TypeId}:REv P n ds l w ⟨d,.makeMap T none,ty,ps,af,g⟩ (fun v w'=>∃b,v=.map (some b)∧IMap Q w' b []∧Up w w'∧b=w.heap.size∧w'.heap.size=b+1):=fun a ha=>by
 refine⟨_,_,Cp (v:=.map (some w.heap.size)) (w':=w.alloc (.map #[] 0)) ?_,_,rfl,⟨_,_,(heap_alloc w _).1,stamped_empty 0,rfl,fun _ h=>(by cases h)⟩,Up.alloc w _,rfl,by simp⟩
 simp[Instr.makeMap,Result.andThen]
def IRng(Q:KT κ)(w:World)(b r:Nat)(kv:List (κ×Value))(done:List κ):Prop:=
 ∃es clock since seen c0,w.heap[b]?=some (.map es clock)∧Stamped es clock∧es.toList.map Fc=kv.map (Je Q)∧w.heap[r]?=some (.mapIter (some b) since seen c0)∧(∀x∈es.toList,x.born<since)∧since≤c0∧since≤clock∧
   (∀x∈es.toList,∀k,x.key=Q.vk k→(seen.contains x.born=true↔k∈done))∧done.Nodup∧(∀k∈done,k∈kv.map (·.1))∧∀p∈kv,Q.ok p.1
theorem IRng.map{w:World}{b r:Nat}{kv:List (κ×Value)}{done:List κ}(h:IRng Q w b r kv done):IMap Q w b kv:=let⟨es,clock,_,_,_,h1,h2,h3,_,_,_,_,_,_,_,ho⟩:=h;⟨es,clock,h1,h2,h3,ho⟩
theorem REv.range{T K E:TypeId}{m:Operand}{b:Nat}{kv:List (κ×Value)}(hT:P.underlying T=some (.map K E))(hm:Val l m (.map (some b)))(h:IMap Q w b kv):
   REv P n ds l w ⟨d,.range T m,ty,ps,af,g⟩ (fun v w'=>∃r,v=.pointer (some ⟨r,0,none⟩)∧IRng Q w' b r kv []∧Up w w'∧r=w.heap.size∧w'.heap.size=r+1):=fun a ha=>by
 obtain⟨es,clock,hb,hs,he,ho⟩:=h
 refine⟨_,_,Cp (v:=.pointer (some ⟨w.heap.size,0,none⟩)) (w':=w.alloc (.mapIter (some b) clock #[] clock)) ?_,_,rfl,⟨es,clock,clock,#[],clock,((heap_alloc w _).2 b (lt_of_block hb)).trans hb,hs,he,(heap_alloc w _).1,hs.1,av _,av _,?_,dz,by simp,ho⟩,Up.alloc w _,rfl,by simp⟩
 · rw[ha.ev hm];exact run_range_map w T K E b es clock hT hb
 intro x _ k _;simp
theorem P4{b r:Nat}{kv:List (κ×Value)}{done:List κ}(ty:TypeId)(h:IRng Q w b r kv done):
   ((Instr.next (.pointer (some ⟨r,0,none⟩)) false ty).run P w=.ok (.tuple #[.bool false]) w∧done.Perm (kv.map (·.1)))∨
   ∃k u w',(Instr.next (.pointer (some ⟨r,0,none⟩)) false ty).run P w=.ok (.tuple #[.bool true,Q.vk k,u]) w'∧(k,u)∈kv∧k∉done∧IRng Q w' b r kv (done++[k])∧w.grownBy w' (some r)∧w'.heap.size=w.heap.size∧(Instr.entry (.pointer (some ⟨r,0,none⟩))).run P w'=.ok (.tuple #[Q.vk k,u]) w'∧Sto r w w'∧∃o:Obj,w.heap[r]?=some o∧o.isWalk=true:=by
 obtain⟨es,clock,since,seen,c0,hb,hs,he,hr,hold,hsc,hsk,hd,hdn,hdk,ho⟩:=h
 have hne:b≠r:=fun e=>by rw[e,hr]at hb;cases hb
 have hst:=(stamped_iff es clock).1 hs
 rcases run_next_at (P:=P) w ty r b since c0 seen es clock hr hb hold hsc with⟨h0,hrun⟩|⟨e,hel,w1,hal,hrun⟩
 · refine .inl ⟨hrun,(ij hdn (Fx hs he)).2 fun k=>⟨hdk k,fun hk=>?_⟩⟩
   obtain⟨p,hp,rfl⟩:=aq.1 hk
   obtain⟨x,hx,hxk,_⟩:=Eu he hp
   exact(hd x hx _ hxk).1 (all_seen es seen h0 x hx)
 obtain⟨hem,hes⟩:=mem_left hel
 obtain⟨k,hk,hkv⟩:=Gf he e hem
 have hr1:w1.heap[r]?=some (.mapIter (some b) since seen c0):=by rcases hal with rfl|rfl<;>exact hr
 have hb1:w1.heap[b]?=some (.map es clock):=by rcases hal with rfl|rfl<;>exact hb
 have hset:=heap_set (o':=.mapIter (some b) since (seen.push e.born) clock) hr1
 have hb':(setBlock w1 r (.mapIter (some b) since (seen.push e.born) clock)).heap[b]?=some (.map es clock):=(hset.2 b hne).trans hb1
 have hnd:k∉done:=fun hm=>by have:=(hd e hem k hk).2 hm;rw[hes]at this;cases this
 have hgr:w.grownBy (setBlock w1 r (.mapIter (some b) since (seen.push e.born) clock)) (some r):=by rcases hal with rfl|rfl<;>exact⟨rfl,rfl,rfl,by simp[setBlock],fun i _ hi=>hset.2 i (fun e1=>hi (by rw[e1]))⟩
 refine .inr ⟨k,e.val,_,by rw[hrun,hk],hkv,hnd,⟨es,clock,since,seen.push e.born,clock,hb',hs,he,hset.1,hold,hsk,hsk,fun x hx k' hk'=>?_,?_,fun k' hk'=>?_,ho⟩,hgr,?_,?_,⟨hgr.os,hgr.tape,hgr.output,hgr.size,fun i hi hne=>hgr.block i hi (fun e=>hne (by cases e;rfl))⟩,_,hr,rfl⟩
 · rw[contains_push,f8,hd x hx k' hk',be,aa]
   refine or_congr km ⟨fun h1=>?_,fun h1=>?_⟩
   · have h2:x.born=e.born:=by simpa using h1
     have h3:=born_inj hst.2.1 hx hem h2
     rw[h3,hk]at hk'
     exact(Q.inj hk').symm
   subst h1
   have:=Ev hst.2.2 hx hem (hk'.trans hk.symm)
   rw[this];simp
 · exact dl.2 ⟨hdn,by simp,fun a ha c hc=>by simp at hc;subst hc;exact fun e'=>hnd (e'▸ha)⟩
 · rcases be.1 hk' with h1|h1
   · exact hdk k' h1
   simp at h1;subst h1;exact aq.2 ⟨_,hkv,rfl⟩
 · rcases hal with rfl|rfl<;>simp[setBlock]
 rw[←hk];exact run_entry_at _ r b since seen es clock e hset.1 hb' hem hst.2.1
structure NextTo(Q:KT κ)(P:Program)(w w':World)(b r:Nat)(kv:List (κ×Value))(done:List κ)(k:κ)(u:Value):Prop where
 mem:(k,u)∈kv
 fresh:k∉done
 rng:IRng Q w' b r kv (done++[k])
 grown:w.grownBy w' (some r)
 size:w'.heap.size=w.heap.size
 entry:(Instr.entry (.pointer (some ⟨r,0,none⟩))).run P w'=.ok (.tuple #[Q.vk k,u]) w'
 sto:Sto r w w'
 walk:∃o:Obj,w.heap[r]?=some o∧o.isWalk=true
theorem REv.next{it:Operand}{b r:Nat}{kv:List (κ×Value)}{done:List κ}(hx:Val l it (.pointer (some ⟨r,0,none⟩)))(h:IRng Q w b r kv done):
   REv P n ds l w ⟨d,.next it false,ty,ps,af,g⟩ (fun v w'=>(v=.tuple #[.bool false]∧w'=w∧done.Perm (kv.map (·.1)))∨∃k u,v=.tuple #[.bool true,Q.vk k,u]∧NextTo Q P w w' b r kv done k u):=fun a ha=>by
 rcases P4 (P:=P) ty h with⟨h1,h2⟩|⟨k,u,w',h1,h2,h3,h4,h5,h6,h7,h8,h9⟩
 · exact⟨_,_,Cp (by rw[ha.ev hx];exact h1),.inl ⟨rfl,rfl,h2⟩⟩
 exact⟨_,_,Cp (by rw[ha.ev hx];exact h1),.inr ⟨k,u,rfl,h2,h3,h4,h5,h6,h7,h8,h9⟩⟩
theorem PEv.Ek{d:Option Tmp}{ty:TypeId}{ps:String}{af:Array Edge}{g:Option (Nat×Bool)}{T K E:TypeId}{mo x:Operand}{b:Nat}{k:κ}{v:Value}{kv:List (κ×Value)}{ok:Bool}(hT:P.underlying T=some (.map K E))(hK:Q.Law P K)(hko:Q.ok k)(hm:Val l mo (.map (some b)))(hx:Val l x (Q.vk k))(h:IMap Q w b kv)(hkv:(k,v)∈kv):
   PEv P n ds l w ⟨d,.lookup T mo x ok,ty,ps,af,g⟩ (if ok then .tuple #[v,.bool true]else v):=fun a w' ha hu=>by
 obtain⟨es,clock,hb,hs,he,ho⟩:=h.up hu
 refine Cp ?_
 rw[ha.ev hm,ha.ev hx]
 rcases hK.find w' hko es.toList (lF he ho)with⟨h1,h2⟩|⟨j,e,h1,h2,h3⟩
 · exfalso
   obtain⟨x',hx',hkx,_⟩:=Eu he hkv
   exact h2 x' hx' hkx
 obtain⟨x',hx',hkx,hvx⟩:=Eu he hkv
 have hv:e.val=v:=by
   have:=Ev (g_.1 hs.2.2) (am h2) hx' (by rw[h3,hkx])
   rw[this];exact hvx
 cases ok<;>simp[Instr.lookup,run_underlying hT,MapKept.run_getObj_map hb,hK.check w' _ hko,h1,Result.andThen,hv]
theorem PEv.Ha{d:Option Tmp}{ty:TypeId}{ps:String}{af:Array Edge}{g:Option (Nat×Bool)}{T K E:TypeId}{mo x:Operand}{b:Nat}{k:κ}{z:Value}{kv:List (κ×Value)}{ok:Bool}(hT:P.underlying T=some (.map K E))(hK:Q.Law P K)(hko:Q.ok k)(hz:∀w,(zeroValue E).run P w=.ok z w)(hm:Val l mo (.map (some b)))(hx:Val l x (Q.vk k))(h:IMap Q w b kv)(hkv:k∉kv.map (·.1)):
   PEv P n ds l w ⟨d,.lookup T mo x ok,ty,ps,af,g⟩ (if ok then .tuple #[z,.bool false]else z):=fun a w' ha hu=>by
 obtain⟨es,clock,hb,hs,he,ho⟩:=h.up hu
 refine Cp ?_
 rw[ha.ev hm,ha.ev hx]
 rcases hK.find w' hko es.toList (lF he ho)with⟨h1,h2⟩|⟨j,e,h1,h2,h3⟩
 · cases ok<;>simp[Instr.lookup,run_underlying hT,MapKept.run_getObj_map hb,hK.check w' _ hko,h1,Result.andThen,hz]
 exfalso
 obtain⟨k',hk',hkv'⟩:=Gf he e (am h2)
 have:k'=k:=Q.inj (hk'.symm.trans h3)
 exact hkv (aq.2 ⟨_,hkv',this⟩)
end
end Go.Wx.Mk
namespace Go.Wx
open Go.RowKit Go.MapKept
section
variable {P:Program}{n:Nat}{ds:List Deferred}{l:Env}{w:World}{d:Option Tmp}{ty:TypeId}{ps:String}{af:Array Edge}{g:Option (Nat×Bool)}
theorem R9{α β:Type}(f:α→β):∀(l:List α)(j:Nat),(l.eraseIdx j).map f=(l.map f).eraseIdx j
 |[],_=>rfl
 |_::_,0=>rfl
 |a::l,j+1=>by rw[List.eraseIdx_cons_succ,cy,R9 f l j,cy,List.eraseIdx_cons_succ]
end
end Go.Wx
