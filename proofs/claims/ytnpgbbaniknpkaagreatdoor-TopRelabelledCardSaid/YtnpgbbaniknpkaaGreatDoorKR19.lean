import Derived.Test.YtnpgbbaniknpkaaGreatDoorKR18
namespace Go.Proofs.YtnpgbbaniknpkaaGreatDoor
open Go.Proofs.Tryz
open Go.Wx Go.RowKit
theorem Nw(Bo g cp:Nat)(xs:List (Option Nat))(t:Int)(ad:Option Addr)(m c:Nat)(sk:Sk)(n:Nat)(Bf:Nat)(w:World)(hE:Els w sk.na 1 A3 sk.nx)(hb:sk.bk= -1)(hl:sk.nx.length≤1)(hx:∀x∈sk.nx,x=(n:Int))(hn:n<3)(hnil:xs[n]?=some .none)(hna:sk.nx≠[]→∀B o,sk.na=some ⟨B,o,none⟩→¬Cy [A5 Bo #[.slice (some ⟨g,0,none⟩) 3 cp] 247,Aw 246 1 nZ (.slice (some ⟨g,0,none⟩) 3 cp) (xs)] B)(hS0:Wx.Sep (Cy [A5 Bo #[.slice (some ⟨g,0,none⟩) 3 cp] 247,Aw 246 1 nZ (.slice (some ⟨g,0,none⟩) 3 cp) (xs)]) w w [A5 Bo #[.slice (some ⟨g,0,none⟩) 3 cp] 247,Aw 246 1 nZ (.slice (some ⟨g,0,none⟩) 3 cp) (xs)]):Ret prog 240 #[.agg (Nv t ad m c),.agg sk.cells,.pointer (some ⟨Bo,0,none⟩),.pointer (some ⟨Bf,0,none⟩)] w fun _ w'=>∃z,Wx.Sep (Cy [A5 Bo #[.slice (some ⟨g,0,none⟩) 3 cp] 247,Aw 246 1 nZ (.slice (some ⟨g,0,none⟩) 3 cp) (xs)]) w w' [A5 Bo #[.slice (some ⟨g,0,none⟩) 3 cp] 247,Aw 246 1 nZ (.slice (some ⟨g,0,none⟩) 3 cp) (GX xs n z),uE (Nv t ad m c) 250 z]∧(sk.nx=[]∧z=.none∨sk.nx≠[]∧z.isSome=true):=by
 obtain⟨w0,rfl,_⟩:=W0 w
 have hS:=(hS0.dW.Ep 0 rfl).Ep 0 rfl
 change Wx.Sep _ _ _ [_,_,_]at hS
 refine Ff (n:=36) func240 rfl rfl rfl ?_
 refine Af ?_
 refine Ap (.bA rfl) rfl ?_
 rintro _ w1 ⟨B4,rfl,NB4⟩
 have eB4:=NB4.at_
 have zB4:=NB4.size
 replace hS:=hS.Cg NB4
 change Wx.Sep _ _ _ [_,_,_,_]at hS
 refine Ap (.bA rfl) rfl ?_
 rintro _ w2 ⟨B5,rfl,NB5⟩
 have eB5:=NB5.at_
 have zB5:=NB5.size
 replace hS:=hS.Cg NB5
 change Wx.Sep _ _ _ [_,_,_,_,_]at hS
 refine An (Aa ?_)
 refine U (.lc rfl (hS.b4.agg)) ?_
 refine A4 (eC (.o rfl) (xV)) rfl (Vu sk _) ?_
 rintro _ w3 ⟨⟨B8,rfl,hK8,hn8⟩,uw3⟩
 have zw3:=uw3.size
 replace hS:=hS.add uw3 (A':=A5 B8 sk.cells 49) (hK8) (fun i h=>by cases h;exact hn8)
 change Wx.Sep _ _ _ [_,_,_,_,_,_]at hS
 replace hS:=((hS.Ep 1 rfl).Ep 2 rfl).Ep 1 rfl
 change Wx.Sep _ _ _ [_,_,_,_,_,_]at hS
 replace hS:=hS.add (Up.refl _) (A':=kT) trivial (fun i h=>h.elim)
 change Wx.Sep _ _ _ [_,_,_,_,_,_,_]at hS
 refine Ah (Ak ?_)
 obtain⟨bq,hbq⟩:∃bq,bq=w3.heap.size:=⟨_,rfl⟩
 refine L5 (Zs:=[_,_,_]) (σ:=Option Nat) (fun s=>[A5 Bo #[.slice (some ⟨g,0,none⟩) 3 cp] 247,A5 B4 (Nv t ad m c) 250,Aw 246 1 nZ (.slice (some ⟨g,0,none⟩) 3 cp) (GX xs n s),uE (Nv t ad m c) 250 s]) (fun pre s=>((pre=[]∧s=.none)∨(pre.length=1∧s.isSome=true))) (fun _ _ _=>False) (fun x b=>[]) (fun x b=>[(6,.eq (vi x.1)),(2,.eq (.pointer (some ⟨Bo,0,none⟩))),(4,.eq (.pointer (some ⟨B4,0,none⟩))),(3,.eq (.pointer (some ⟨Bf,0,none⟩)))]) .none (.t rfl) (fun args w=>yB args w) (dX _ _ B8 sk _ (fun hne B o e h=>h.1.elim (hna hne B o e) (fun h2=>absurd (Rt hE hne e) oQ)) (fun h=>h.2 ⟨_,b_ _ (b_ _ b7),rfl⟩) hS.b2 (fun i x hx=>Els.fr hE hS.fr (hna fun e=>by rw[e]at hx;cases hx) i x hx) hb hl (fun x h=>by rw[hx x h];omega)) (fun _=>rfl) rfl (fun _ _=>rfl) (show Wx.Sep _ _ _ ([_,_,_]++[_,_,_,_])from hS) (.inl ⟨rfl,rfl⟩) ?_ ?_ ?_ ?_
 ·intro lp x w4
  have hS:=Sep.start no w4
  refine Ht rfl ?_
  refine Aa (LW.A rfl (LW.nil ?_))
  exact fun a ha=>⟨0,hS,.nil _ _,ha.sub tQ⟩
 ·rintro lp pre x z b w5 hJ hlt hqw hS0 hS
  rw[←hbq]at hqw⊢
  have zq:=hqw
  change Wx.Sep _ _ _ [_,_,_,_]at hS
  obtain⟨rfl,rfl⟩:=hJ.resolve_right (fun h=>by omega)
  have hxn:=hx x.1 x.2
  obtain⟨Bz,oz,az,hcz⟩:=(Cf (hS.own 2 rfl) (fun _=>rfl)) n .none hnil
  cases az
  refine Ak (Ai ?_)
  refine C5 kQ kQ rfl rfl ?_
  refine J (.lb rfl (hS.b0.Ad rfl)) ?_
  refine J (.Dt (v':=vi (n:Int)) (PEv.mv rfl) (by rw[hxn])) ?_
  refine J (.Ao mq nh (j:=n) (.t rfl) (.t rfl) oQ rfl) ?_
  refine J (.lb rfl (hcz.nth (j:=0) rfl)) ?_
  refine J (.tr (PEv.K3 nj (.t rfl)) (rfl)) ?_
  refine J (.mv rfl) ?_
  refine Ec ?_
  refine Ec ?_
  refine Ec ?_
  refine Ec ?_
  refine Ec ?_
  refine Ec ?_
  refine Ec ?_
  refine Ec ?_
  refine Ec ?_
  refine Ec ?_
  refine J (.Ev (b:=false) (.t rfl) (fun hp=>absurd (show true=false from hp) cQ)) ?_
  refine HW.nil ?_
  intro w6 uw6
  have zw6:=uw6.size
  replace hS:=hS.up uw6
  refine Ac ?_
  refine CW.v rfl ?_
  refine Aa ?_
  refine U (.lb rfl (hS.b0.Ad rfl)) ?_
  refine U (.Dt (v':=vi (n:Int)) (PEv.mv rfl) (by rw[hxn])) ?_
  refine U (.fB 0 rfl) ?_
  refine U (.lb rfl (hS.b1.Ad rfl)) ?_
  refine U (.fB 1 rfl) ?_
  refine U (.lb rfl (hS.b1.Ad rfl)) ?_
  refine U (.build (cs:=(Nv t ad m c)) nw zeroValue250 Hf (.ct rfl (.cu rfl)) rfl) ?_
  refine Ap (.bA rfl) rfl ?_
  rintro _ w7 ⟨B34,rfl,NB34⟩
  have eB34:=NB34.at_
  have zB34:=NB34.size
  replace hS:=hS.Cg NB34
  change Wx.Sep _ _ _ [_,_,_,_,_]at hS
  refine U (.Ao mq nh (j:=n) (.t rfl) (.t rfl) oQ rfl) ?_
  refine Cd (.I9 (enc:=nZ) (k:=1) (z:=some B34) (i:=n) (j:=0) nh (fun _=>rfl) rfl (.t rfl) (.t rfl) (hS.own 2 rfl) hnil cQ rfl) ?_
  intro w8 Gw8
  have zw8:=Gw8.fr.size
  replace hS:=hS.Fs 2 rfl Gw8
  change Wx.Sep _ _ _ [_,_,_,_,_]at hS
  refine LW.nil (Al ?_)
  exact fun _ _=>⟨some B34,[_],.inr ⟨rfl,rfl⟩,hS.Ep 3 rfl,.cons (Na hS.b0) (.cons (Na hS.b1) (.cons (pG (hS.own 2 rfl)) (.cons (Na hS.b4) (.nil _ _))))⟩
 ·rintro Dm ys z w9 hDq hYs hJ hqw hS
  rw[←hbq]at hDq hqw
  have zq:=hqw
  replace hS:=Xe (Ds:=[]) (As:=[_,_]) (Bs:=[_,_,_,_]) hS
  change Wx.Sep _ _ _ [_,_,_,_,_,_,_]at hS
  refine Al ?_
  refine Nu rfl (Dm::[]) _ (hS.get 0 rfl).1 (hS.get 0 rfl).2 ?_
  intro w10 hF_
  replace hS:=hS.step 0 rfl (A':=kT) hF_ trivial (fun _ h=>h.elim)
  change Wx.Sep _ _ _ [_,_,_,_,_,_,_]at hS
  have zw10:=hF_.size
  refine Gi rfl ⟨_,rfl,?_⟩
  refine⟨z,hS.sub (.cons _ (.cons _ (.cons _ (.cons_cons _ (.cons _ (.cons_cons _ (.cons_cons _ .slnil))))))),?_⟩
  subst hYs
  rcases hJ with⟨h1,h2⟩|⟨h1,h2⟩
  ·exact .inl ⟨List.attach_eq_nil_iff.1 h1,h2⟩
  exact .inr ⟨fun e=>(by rw[c_,e]at h1;cases h1),h2⟩
 exact fun _ _ _ _ _ _ _ h=>h.elim
end Go.Proofs.YtnpgbbaniknpkaaGreatDoor
namespace Go.Wx.Ms
open Go.RowKit Go.MapKept Go.Wx
open Go.ChangeMaps (setBlock)
def vs(s:List UInt8):Value:=.string ⟨s.toArray⟩
def Nc(p:List UInt8×Value):Value×Value:=(vs p.1,p.2)
def IMap(w:World)(b:Nat)(kv:List (List UInt8×Value)):Prop:=
 ∃es clock,w.heap[b]?=some (.map es clock)∧Stamped es clock∧es.toList.map G6=kv.map Nc
theorem IMap.lt{w:World}{b:Nat}{kv:List (List UInt8×Value)}(h:IMap w b kv):b<w.heap.size:=let⟨_,_,h1,_⟩:=h;lt_of_block h1
theorem IMap.up{w w':World}{b:Nat}{kv:List (List UInt8×Value)}(h:IMap w b kv)(u:Up w w'):IMap w' b kv:=by
 have:=h.lt
 obtain⟨es,clock,h1,h2⟩:=h
 exact⟨es,clock,(u.block this).trans h1,h2⟩
theorem Je{es:Array MapEntry}{kv:List (List UInt8×Value)}(h:es.toList.map G6=kv.map Nc):∀x∈es.toList,∃k,x.key=vs k∧(k,x.val)∈kv:=by
 intro x hx
 have h1:G6 x∈kv.map Nc:=by rw[←h];exact bx.2 ⟨x,hx,rfl⟩
 obtain⟨p,hp,he⟩:=bx.1 h1
 have e1:vs p.1=x.key:=bi Prod.fst he
 have e2:p.2=x.val:=bi Prod.snd he
 exact⟨p.1,e1.symm,by rw[←e2];exact hp⟩
theorem Gd{es:Array MapEntry}{kv:List (List UInt8×Value)}(h:es.toList.map G6=kv.map Nc){p:List UInt8×Value}(hp:p∈kv):∃x∈es.toList,x.key=vs p.1∧x.val=p.2:=by
 have h1:Nc p∈es.toList.map G6:=by rw[h];exact bx.2 ⟨p,hp,rfl⟩
 obtain⟨x,hx,he⟩:=bx.1 h1
 exact⟨x,hx,bi Prod.fst he,bi Prod.snd he⟩
theorem dY{a b:List UInt8}(h:vs a=vs b):a=b:=by
 have h1:(⟨a.toArray⟩:ByteArray)=⟨b.toArray⟩:=by injection h
 have h2:a.toArray=b.toArray:=bi ByteArray.data h1
 simpa using h2
theorem Jf{es:Array MapEntry}{clock:Nat}{kv:List (List UInt8×Value)}(hs:Stamped es clock)(h:es.toList.map G6=kv.map Nc):(kv.map (·.1)).Nodup:=by
 have h1:es.toList.map (·.key)=(kv.map (·.1)).map vs:=by
   have:=bi (List.map Prod.fst) h
   simpa[fd,jk,G6,Nc]using this
 have h2:=hs.2.2
 rw[h1]at h2
 exact List.Pairwise.of_map vs (fun a b hab e=>hab (by rw[e])) h2
def Hu(kv:List (List UInt8×Value))(k:List UInt8)(v:Value):List (List UInt8×Value):=if k∈kv.map (·.1)then kv.map (fun p=>if p.1=k then(k,v)else p)else kv++[(k,v)]
theorem K5{es:Array MapEntry}{clock:Nat}{kv:List (List UInt8×Value)}(hs:Stamped es clock)(h:es.toList.map G6=kv.map Nc){j:Nat}{e:MapEntry}{k:List UInt8}{v:Value}(hj:es[j]?=some e)(hk:e.key=vs k):
   (es.modify j fun e=>{ e with key:=vs k,val:=v }).toList.map G6=(Hu kv k v).map Nc:=by
 have hn:=Jf hs h
 have hat:∀i:Nat,(es.toList.map G6)[i]?=(kv.map Nc)[i]?:=fun i=>by rw[h]
 simp only[ew,i9]at hat
 have hkj:∃p,kv[j]?=some p∧p.1=k:=by
   have:=hat j
   rw[hj]at this
   cases hp:kv[j]? with
   |none=>rw[hp]at this;cases this
   |some p=>
     rw[hp]at this
     have h1:G6 e=Nc p:=by simpa using this
     have h2:e.key=vs p.1:=bi Prod.fst h1
     exact⟨p,rfl,dY (h2.symm.trans hk)⟩
 obtain⟨p,hp,hpk⟩:=hkj
 have hmem:k∈kv.map (·.1):=bx.2 ⟨p,ai hp,hpk⟩
 rw[Hu,bh hmem]
 apply cr
 intro i
 simp only[ew,i9,jy]
 by_cases hij:j=i
 · subst hij
   rw[bh rfl,hj,hp]
   simp[G6,Nc,hpk]
 rw[aq hij,hat i]
 cases hq:kv[i]? with
 |none=>rfl
 |some q=>
   have hne:q.1≠k:=fun e'=>by
     have h1:(kv.map (·.1))[i]?=some k:=by simp[hq,e']
     have h2:(kv.map (·.1))[j]?=some k:=by simp[hp,hpk]
     obtain⟨hi,h3⟩:=am.1 h1
     obtain⟨hj',h4⟩:=am.1 h2
     exact hij ((km hn).1 (h4.trans h3.symm))
   simp[hne]
theorem Hb{es:Array MapEntry}{kv:List (List UInt8×Value)}(h:es.toList.map G6=kv.map Nc):∀x∈es.toList,IsKey .string x.key:=fun x hx=>by
 obtain⟨k,hk,_⟩:=Je h x hx
 rw[hk];trivial
section
variable {P:Program}{n:Nat}{ds:List Deferred}{l:Env}{w:World}{d:Option Tmp}{ty:TypeId}{ps:String}{af:Array Edge}{g:Option (Nat×Bool)}
theorem SEv.mapUpdate{T K E:TypeId}{m x y:Operand}{b:Nat}{k:List UInt8}{v:Value}{kv:List (List UInt8×Value)}(hT:P.underlying T=some (.map K E))(hK:P.underlying K=some .string)(hm:Val l m (.map (some b)))(hx:Val l x (vs k))(hy:Val l y v)(h:IMap w b kv):
   SEv P n ds l w ⟨none,.mapUpdate T m x y,ty,ps,af,g⟩ (fun w'=>IMap w' b (Hu kv k v)∧Sto b w w'∧w'.heap.size=w.heap.size):=fun a ha=>by
 obtain⟨es,clock,hb,hs,he⟩:=h
 have hk:IsKey .string (vs k):=trivial
 have fin:∀o:Obj,Sto b w { w with heap:=w.heap.setIfInBounds b o }:=fun o=>⟨rfl,rfl,rfl,by simp,fun i _ hne=>(heap_set hb).2 i hne⟩
 rcases findNow_spec hk es.toList 0 (Hb he)with⟨h1,h2⟩|⟨j,e,h1,h2,h3⟩
 · refine⟨_,Qu (w':={ w with heap:=w.heap.setIfInBounds b (.map (es.push { key:=vs k,val:=v,born:=clock }) (clock+1)) }) ?_,⟨_,_,(heap_set hb).1,stamped_push hs h2,?_⟩,fin _,by simp⟩
   · rw[ha.ev hm,ha.ev hx,ha.ev hy]
     simp[Instr.mapUpdate,run_underlying hT,MapKept.run_getObj_map hb,MapKept.run_checkKey hK hk,MapKept.run_findKey hK h1,MapKept.run_setObj_map _ hb,Result.andThen]
   have hni:k∉kv.map (·.1):=fun hmem=>by
     obtain⟨p,hp,hpk⟩:=bx.1 hmem
     obtain⟨x',hx',hkx,_⟩:=Gd he hp
     exact h2 x' hx' (by rw[hkx,hpk])
   rw[Hu,aq hni]
   simp[he,G6,Nc]
 have hj:es[j]?=some e:=by simpa using h2
 have hkey:∀e',es[j]?=some e'→({ e' with key:=vs k,val:=v }:MapEntry).key=e'.key:=fun e' he'=>by rw[hj]at he';cases he';exact h3.symm
 refine⟨_,Qu (w':={ w with heap:=w.heap.setIfInBounds b (.map (es.modify j fun e=>{ e with key:=vs k,val:=v }) clock) }) ?_,⟨_,_,(heap_set hb).1,stamped_modify hs _ _ (fun _ _=>rfl) (fun e' _ he'=>hkey e' he'),K5 hs he hj h3⟩,fin _,by simp⟩
 rw[ha.ev hm,ha.ev hx,ha.ev hy]
 simp[Instr.mapUpdate,run_underlying hT,MapKept.run_getObj_map hb,MapKept.run_checkKey hK hk,MapKept.run_findKey hK h1,hj,h3,run_keyThatStays hk,MapKept.run_setObj_map _ hb,Result.andThen]
theorem REv.makeMap{T:TypeId}:REv P n ds l w ⟨d,.makeMap T none,ty,ps,af,g⟩ (fun v w'=>∃b,v=.map (some b)∧IMap w' b []∧Up w w'∧b=w.heap.size∧w'.heap.size=b+1):=fun a ha=>by
 refine⟨_,_,C0 (v:=.map (some w.heap.size)) (w':=w.alloc (.map #[] 0)) ?_,_,rfl,⟨_,_,(heap_alloc w _).1,stamped_empty 0,rfl⟩,Up.alloc w _,rfl,by simp⟩
 simp[Instr.makeMap,Result.andThen]
def IRng(w:World)(b r:Nat)(kv:List (List UInt8×Value))(done:List (List UInt8)):Prop:=
 ∃es clock since seen c0,w.heap[b]?=some (.map es clock)∧Stamped es clock∧es.toList.map G6=kv.map Nc∧w.heap[r]?=some (.mapIter (some b) since seen c0)∧(∀x∈es.toList,x.born<since)∧since≤c0∧since≤clock∧
   (∀x∈es.toList,∀k,x.key=vs k→(seen.contains x.born=true↔k∈done))∧done.Nodup∧∀k∈done,k∈kv.map (·.1)
theorem REv.range{T K E:TypeId}{m:Operand}{b:Nat}{kv:List (List UInt8×Value)}(hT:P.underlying T=some (.map K E))(hm:Val l m (.map (some b)))(h:IMap w b kv):
   REv P n ds l w ⟨d,.range T m,ty,ps,af,g⟩ (fun v w'=>∃r,v=.pointer (some ⟨r,0,none⟩)∧IRng w' b r kv []∧Up w w'∧r=w.heap.size∧w'.heap.size=r+1):=fun a ha=>by
 obtain⟨es,clock,hb,hs,he⟩:=h
 refine⟨_,_,C0 (v:=.pointer (some ⟨w.heap.size,0,none⟩)) (w':=w.alloc (.mapIter (some b) clock #[] clock)) ?_,_,rfl,⟨es,clock,clock,#[],clock,((heap_alloc w _).2 b (lt_of_block hb)).trans hb,hs,he,(heap_alloc w _).1,hs.1,bl _,bl _,?_,ig,by simp⟩,Up.alloc w _,rfl,by simp⟩
 · rw[ha.ev hm];exact run_range_map w T K E b es clock hT hb
 intro x _ k _;simp
theorem W6{b r:Nat}{kv:List (List UInt8×Value)}{done:List (List UInt8)}(ty:TypeId)(h:IRng w b r kv done):
   ((Instr.next (.pointer (some ⟨r,0,none⟩)) false ty).run P w=.ok (.tuple #[.bool false]) w∧done.Perm (kv.map (·.1)))∨
   ∃k u w',(Instr.next (.pointer (some ⟨r,0,none⟩)) false ty).run P w=.ok (.tuple #[.bool true,vs k,u]) w'∧(k,u)∈kv∧k∉done∧IRng w' b r kv (done++[k])∧w.grownBy w' (some r)∧w'.heap.size=w.heap.size∧(Instr.entry (.pointer (some ⟨r,0,none⟩))).run P w'=.ok (.tuple #[vs k,u]) w'∧Sto r w w'∧∃o:Obj,w.heap[r]?=some o∧o.isWalk=true:=by
 obtain⟨es,clock,since,seen,c0,hb,hs,he,hr,hold,hsc,hsk,hd,hdn,hdk⟩:=h
 have hne:b≠r:=fun e=>by rw[e,hr]at hb;cases hb
 have hst:=(stamped_iff es clock).1 hs
 rcases run_next_at (P:=P) w ty r b since c0 seen es clock hr hb hold hsc with⟨h0,hrun⟩|⟨e,hel,w1,hal,hrun⟩
 · refine .inl ⟨hrun,(jg hdn (Jf hs he)).2 fun k=>⟨hdk k,fun hk=>?_⟩⟩
   obtain⟨p,hp,rfl⟩:=bx.1 hk
   obtain⟨x,hx,hxk,_⟩:=Gd he hp
   exact(hd x hx _ hxk).1 (all_seen es seen h0 x hx)
 obtain⟨hem,hes⟩:=mem_left hel
 obtain⟨k,hk,hkv⟩:=Je he e hem
 have hr1:w1.heap[r]?=some (.mapIter (some b) since seen c0):=by rcases hal with rfl|rfl<;>exact hr
 have hb1:w1.heap[b]?=some (.map es clock):=by rcases hal with rfl|rfl<;>exact hb
 have hset:=heap_set (o':=.mapIter (some b) since (seen.push e.born) clock) hr1
 have hb':(setBlock w1 r (.mapIter (some b) since (seen.push e.born) clock)).heap[b]?=some (.map es clock):=(hset.2 b hne).trans hb1
 have hnd:k∉done:=fun hm=>by have:=(hd e hem k hk).2 hm;rw[hes]at this;cases this
 have hgr:w.grownBy (setBlock w1 r (.mapIter (some b) since (seen.push e.born) clock)) (some r):=by rcases hal with rfl|rfl<;>exact⟨rfl,rfl,rfl,by simp[setBlock],fun i _ hi=>hset.2 i (fun e1=>hi (by rw[e1]))⟩
 refine .inr ⟨k,e.val,_,by rw[hrun,hk],hkv,hnd,⟨es,clock,since,seen.push e.born,clock,hb',hs,he,hset.1,hold,hsk,hsk,fun x hx k' hk'=>?_,?_,fun k' hk'=>?_⟩,hgr,?_,?_,⟨hgr.os,hgr.tape,hgr.output,hgr.size,fun i hi hne=>hgr.block i hi (fun e=>hne (by cases e;rfl))⟩,_,hr,rfl⟩
 · rw[contains_push,gi,hd x hx k' hk',bt,bn]
   refine or_congr Iff.rfl ⟨fun h1=>?_,fun h1=>?_⟩
   · have h2:x.born=e.born:=by simpa using h1
     have h3:=born_inj hst.2.1 hx hem h2
     rw[h3,hk]at hk'
     exact(dY hk').symm
   subst h1
   have:=Fu hst.2.2 hx hem (hk'.trans hk.symm)
   rw[this];simp
 · exact g9.2 ⟨hdn,by simp,fun a ha c hc=>by simp at hc;subst hc;exact fun e'=>hnd (e'▸ha)⟩
 · rcases bt.1 hk' with h1|h1
   · exact hdk k' h1
   simp at h1;subst h1;exact bx.2 ⟨_,hkv,rfl⟩
 · rcases hal with rfl|rfl<;>simp[setBlock]
 rw[←hk];exact run_entry_at _ r b since seen es clock e hset.1 hb' hem hst.2.1
structure NextTo(P:Program)(w w':World)(b r:Nat)(kv:List (List UInt8×Value))(done:List (List UInt8))(k:List UInt8)(u:Value):Prop where
 mem:(k,u)∈kv
 fresh:k∉done
 rng:IRng w' b r kv (done++[k])
 grown:w.grownBy w' (some r)
 size:w'.heap.size=w.heap.size
 entry:(Instr.entry (.pointer (some ⟨r,0,none⟩))).run P w'=.ok (.tuple #[vs k,u]) w'
 sto:Sto r w w'
 walk:∃o:Obj,w.heap[r]?=some o∧o.isWalk=true
theorem REv.next{it:Operand}{b r:Nat}{kv:List (List UInt8×Value)}{done:List (List UInt8)}(hx:Val l it (.pointer (some ⟨r,0,none⟩)))(h:IRng w b r kv done):
   REv P n ds l w ⟨d,.next it false,ty,ps,af,g⟩ (fun v w'=>(v=.tuple #[.bool false]∧w'=w∧done.Perm (kv.map (·.1)))∨∃k u,v=.tuple #[.bool true,vs k,u]∧NextTo P w w' b r kv done k u):=fun a ha=>by
 rcases W6 (P:=P) ty h with⟨h1,h2⟩|⟨k,u,w',h1,h2,h3,h4,h5,h6,h7,h8,h9⟩
 · exact⟨_,_,C0 (by rw[ha.ev hx];exact h1),.inl ⟨rfl,rfl,h2⟩⟩
 exact⟨_,_,C0 (by rw[ha.ev hx];exact h1),.inr ⟨k,u,rfl,h2,h3,h4,h5,h6,h7,h8,h9⟩⟩
theorem REv.entry{it:Operand}{r:Nat}{t:Value}(hx:Val l it (.pointer (some ⟨r,0,none⟩)))(h:(Instr.entry (.pointer (some ⟨r,0,none⟩))).run P w=.ok t w):
 REv P n ds l w ⟨d,.entry it,ty,ps,af,g⟩ (fun v w'=>v=t∧w'=w):=fun a ha=>⟨_,_,C0 (by rw[ha.ev hx];exact h),rfl,rfl⟩
theorem PEv.Hw{d:Option Tmp}{ty:TypeId}{ps:String}{af:Array Edge}{g:Option (Nat×Bool)}{T K E:TypeId}{mo x:Operand}{b:Nat}{k:List UInt8}{v:Value}{kv:List (List UInt8×Value)}{ok:Bool}(hT:P.underlying T=some (.map K E))(hK:P.underlying K=some .string)(hm:Val l mo (.map (some b)))(hx:Val l x (vs k))(h:IMap w b kv)(hkv:(k,v)∈kv):
   PEv P n ds l w ⟨d,.lookup T mo x ok,ty,ps,af,g⟩ (if ok then .tuple #[v,.bool true]else v):=fun a w' ha hu=>by
 obtain⟨es,clock,hb,hs,he⟩:=h.up hu
 have hk:IsKey .string (vs k):=trivial
 refine C0 ?_
 rw[ha.ev hm,ha.ev hx]
 rcases findNow_spec hk es.toList 0 (Hb he)with⟨h1,h2⟩|⟨j,e,h1,h2,h3⟩
 · exfalso
   obtain⟨x',hx',hkx,_⟩:=Gd he hkv
   exact h2 x' hx' hkx
 obtain⟨x',hx',hkx,hvx⟩:=Gd he hkv
 have hv:e.val=v:=by
   have:=Fu (gk.1 hs.2.2) (ai h2) hx' (by rw[h3,hkx])
   rw[this];exact hvx
 cases ok<;>simp[Instr.lookup,run_underlying hT,MapKept.run_getObj_map hb,MapKept.run_checkKey hK hk,MapKept.run_findKey hK h1,Result.andThen,hv]
theorem PEv.Ov{d:Option Tmp}{ty:TypeId}{ps:String}{af:Array Edge}{g:Option (Nat×Bool)}{T K E:TypeId}{mo x:Operand}{b:Nat}{k:List UInt8}{z:Value}{kv:List (List UInt8×Value)}{ok:Bool}(hT:P.underlying T=some (.map K E))(hK:P.underlying K=some .string)(hz:∀w,(zeroValue E).run P w=.ok z w)(hm:Val l mo (.map (some b)))(hx:Val l x (vs k))(h:IMap w b kv)(hkv:k∉kv.map (·.1)):
   PEv P n ds l w ⟨d,.lookup T mo x ok,ty,ps,af,g⟩ (if ok then .tuple #[z,.bool false]else z):=fun a w' ha hu=>by
 obtain⟨es,clock,hb,hs,he⟩:=h.up hu
 have hk:IsKey .string (vs k):=trivial
 refine C0 ?_
 rw[ha.ev hm,ha.ev hx]
 rcases findNow_spec hk es.toList 0 (Hb he)with⟨h1,h2⟩|⟨j,e,h1,h2,h3⟩
 · cases ok<;>simp[Instr.lookup,run_underlying hT,MapKept.run_getObj_map hb,MapKept.run_checkKey hK hk,MapKept.run_findKey hK h1,Result.andThen,hz]
 exfalso
 obtain⟨k',hk',hkv'⟩:=Je he e (ai h2)
 have:k'=k:=dY (hk'.symm.trans h3)
 exact hkv (bx.2 ⟨_,hkv',this⟩)
end
end Go.Wx.Ms
namespace Go.Wx
open Go.RowKit
def Il(b:Nat)(kv:List (Int×Value)):Asr:=⟨(· =b),fun w=>IMap w b kv,fun _ _ h k _=>by
 have:=h.lt
 obtain⟨es,clock,h1,h2⟩:=h
 exact⟨es,clock,(k b rfl this).trans h1,h2⟩,fun _ h _ e=>by rw[e];exact h.lt⟩
def L6(b r:Nat)(kv:List (Int×Value))(done:List Int):Asr:=⟨fun i=>i=b∨i=r,fun w=>IRng w b r kv done,fun _ _ h k _=>by
 obtain⟨es,clock,since,seen,c0,h1,h2,h3,h4,h5⟩:=h
 exact⟨es,clock,since,seen,c0,(k b (.inl rfl) (lt_of_block h1)).trans h1,h2,h3,(k r (.inr rfl) (lt_of_block h4)).trans h4,h5⟩,fun _ h i e=>by
 obtain⟨es,clock,since,seen,c0,h1,h2,h3,h4,h5⟩:=h
 rcases e with rfl|rfl
 · exact lt_of_block h1
 exact lt_of_block h4⟩
theorem P1{b r:Nat}{kv:List (Int×Value)}{w w':World}(h:IRng w' b r kv [])(u:Up w w')(hr:r=w.heap.size):Stp (Il b kv) (L6 b r kv []) w w':=⟨u.fr _,h,fun i hi=>hi.elim (fun e=>.inl e) (fun e=>.inr oQ)⟩
theorem S1{P:Program}{b r:Nat}{kv:List (Int×Value)}{done:List Int}{k:Int}{u:Value}{w w':World}(h:NextTo P w w' b r kv done k u):Stp (L6 b r kv done) (L6 b r kv (done++[k])) w w':=⟨h.sto.fr.mono (fun i(e:i=r)=>.inr e),h.rng,fun _ h=>.inl h⟩
namespace Ms
def Il(b:Nat)(kv:List (List UInt8×Value)):Asr:=⟨(· =b),fun w=>Ms.IMap w b kv,fun _ _ h k _=>by
 have:=h.lt
 obtain⟨es,clock,h1,h2⟩:=h
 exact⟨es,clock,(k b rfl this).trans h1,h2⟩,fun _ h _ e=>by rw[e];exact h.lt⟩
def L6(b r:Nat)(kv:List (List UInt8×Value))(done:List (List UInt8)):Asr:=⟨fun i=>i=b∨i=r,fun w=>Ms.IRng w b r kv done,fun _ _ h k _=>by
 obtain⟨es,clock,since,seen,c0,h1,h2,h3,h4,h5⟩:=h
 exact⟨es,clock,since,seen,c0,(k b (.inl rfl) (lt_of_block h1)).trans h1,h2,h3,(k r (.inr rfl) (lt_of_block h4)).trans h4,h5⟩,fun _ h i e=>by
 obtain⟨es,clock,since,seen,c0,h1,h2,h3,h4,h5⟩:=h
 rcases e with rfl|rfl
 · exact lt_of_block h1
 exact lt_of_block h4⟩
theorem iF{b:Nat}{kv kv':List (List UInt8×Value)}{w w':World}(h:Ms.IMap w' b kv')(k:Sto b w w'):Stp (Il b kv) (Il b kv') w w':=⟨k.fr,h,fun _ h=>.inl h⟩
theorem P1{b r:Nat}{kv:List (List UInt8×Value)}{w w':World}(h:Ms.IRng w' b r kv [])(u:Up w w')(hr:r=w.heap.size):Stp (Il b kv) (L6 b r kv []) w w':=⟨u.fr _,h,fun i hi=>hi.elim (fun e=>.inl e) (fun e=>.inr oQ)⟩
theorem S1{P:Program}{b r:Nat}{kv:List (List UInt8×Value)}{done:List (List UInt8)}{k:List UInt8}{u:Value}{w w':World}(h:Ms.NextTo P w w' b r kv done k u):Stp (L6 b r kv done) (L6 b r kv (done++[k])) w w':=⟨h.sto.fr.mono (fun i(e:i=r)=>.inr e),h.rng,fun _ h=>.inl h⟩
end Ms
theorem Zf{As:List Asr}{A A':Asr}{w w':World}{j:Nat}(h:(Dw As).holds w)(hj:As[j]?=some A)(s:Stp A A' w w'):Stp (Dw As) (Dw (As.set j A')) w w':=by
 have:=(Py h).Fs j hj s
 rw[←dk (As.set j A')]at this
 exact K9 this
theorem Zg{α β:Type}(a:α)(b:β):∀(l:List α)(r:List β)(j:Nat),(l.set j a).zip (r.set j b)=(l.zip r).set j (a,b)
 |[],r,j=>by simp
 |x::l,[],j=>by cases j<;>simp
 |x::l,y::r,0=>rfl
 |x::l,y::r,j+1=>by
   rw[gx,gx,List.zip_cons_cons,List.zip_cons_cons,gx,Zg a b l r j]
def lists{α:Type}(e k:Nat)(enc:α→Array Value)(vs:List Value)(xss:List (List α)):List Asr:=(vs.zip xss).map fun p=>Aw e k enc p.1 p.2
theorem Mv{α:Type}{e k:Nat}{enc:α→Array Value}{vs:List Value}{xss:List (List α)}{j:Nat}{v:Value}{xs:List α}(hv:vs[j]?=some v)(hx:xss[j]?=some xs):(lists e k enc vs xss)[j]?=some (Aw e k enc v xs):=by
 unfold lists
 rw[ew]
 have:(vs.zip xss)[j]?=some (v,xs):=by rw[List.getElem?_zip_eq_some];exact⟨hv,hx⟩
 rw[this];rfl
theorem P2{α:Type}{e k:Nat}{enc:α→Array Value}{vs:List Value}{xss:List (List α)}{j:Nat}{v:Value}{xs:List α}:(lists e k enc vs xss).set j (Aw e k enc v xs)=lists e k enc (vs.set j v) (xss.set j xs):=by
 unfold lists
 have:(vs.set j v).zip (xss.set j xs)=(vs.zip xss).set j (v,xs):=Zg v xs vs xss j
 rw[this,List.map_set]
theorem Kh{α:Type}{e k:Nat}{enc:α→Array Value}{vs:List Value}{xss:List (List α)}{w:World}{j:Nat}{v:Value}{xs:List α}(h:(Dw (lists e k enc vs xss)).holds w)(hv:vs[j]?=some v)(hx:xss[j]?=some xs):OwnS w 0 e k enc v xs:=h.1 _ (ai (Mv hv hx))
theorem Vv{α:Type}{e k:Nat}{enc:α→Array Value}{vs:List Value}{xss:List (List α)}{w:World}(h:(Dw (lists e k enc vs xss)).holds w)(hl:vs.length=xss.length):∀v∈vs,v.oneCell'=true:=fun v hv=>by
 obtain⟨j,hj⟩:=et.1 hv
 have hlt:=(am.1 hj).1
 obtain⟨xs,hx⟩:=Ae (xs:=xss) (i:=j) oQ
 exact(Kh h hj hx).one
theorem kU{α:Type}(e k:Nat)(enc:α→Array Value)(n:Nat)(w:World):(Dw (lists e k enc (List.replicate n (.slice none 0 0)) (List.replicate n ([]:List α)))).holds w∧∀i,¬(Dw (lists e k enc (List.replicate n (.slice none 0 0)) (List.replicate n ([]:List α)))).foot i:=by
 have key:∀A∈lists e k enc (List.replicate n (.slice none 0 0)) (List.replicate n ([]:List α)),A=Aw e k enc (.slice none 0 0) []:=fun A hA=>by
   unfold lists at hA
   obtain⟨⟨v,xs⟩,hp,rfl⟩:=bx.1 hA
   have:=List.of_mem_zip hp
   rw[List.eq_of_mem_replicate this.1,List.eq_of_mem_replicate this.2]
 refine⟨⟨fun A hA=>by rw[key A hA];exact OwnS.nil _ _ _ _ _,dw.2 fun i j hi hj _ x hx=>by
   rw[key _ (List.getElem_mem hi)]at hx;cases hx⟩,fun i⟨A,hA,hi⟩=>by rw[key A hA]at hi;cases hi⟩
end Go.Wx
