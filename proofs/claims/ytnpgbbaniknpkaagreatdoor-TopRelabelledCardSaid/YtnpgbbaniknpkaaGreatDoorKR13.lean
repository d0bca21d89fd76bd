import Derived.Test.YtnpgbbaniknpkaaGreatDoorKR12
import Derived.Maps.RangeRun
namespace Go.Wx
open Go.RowKit Go.MapKept
open Go.ChangeMaps (setBlock)
def G6(e:MapEntry):Value×Value:=(e.key,e.val)
def Nc(p:Int×Value):Value×Value:=(vi p.1,p.2)
def IMap(w:World)(b:Nat)(kv:List (Int×Value)):Prop:=
 ∃es clock,w.heap[b]?=some (.map es clock)∧Stamped es clock∧es.toList.map G6=kv.map Nc
theorem IMap.lt{w:World}{b:Nat}{kv:List (Int×Value)}(h:IMap w b kv):b<w.heap.size:=let⟨_,_,h1,_⟩:=h;lt_of_block h1
theorem IMap.up{w w':World}{b:Nat}{kv:List (Int×Value)}(h:IMap w b kv)(u:Up w w'):IMap w' b kv:=by
 have:=h.lt
 obtain⟨es,clock,h1,h2⟩:=h
 exact⟨es,clock,(u.block this).trans h1,h2⟩
theorem IMap.ko{bq:Nat}{w w':World}{b:Nat}{kv:List (Int×Value)}(h:IMap w b kv)(k:Ko bq w w')(hb:b<bq):IMap w' b kv:=by
 obtain⟨es,clock,h1,h2⟩:=h
 exact⟨es,clock,k.same b _ h1 (.inl hb),h2⟩
theorem IMap.obj{w:World}{b:Nat}{kv:List (Int×Value)}(h:IMap w b kv):∃o:Obj,w.heap[b]?=some o∧o.isCells=false:=let⟨_,_,h1,_⟩:=h;⟨_,h1,rfl⟩
theorem Je{es:Array MapEntry}{kv:List (Int×Value)}(h:es.toList.map G6=kv.map Nc):∀x∈es.toList,∃k,x.key=vi k∧(k,x.val)∈kv:=by
 intro x hx
 have h1:G6 x∈kv.map Nc:=by rw[←h];exact bx.2 ⟨x,hx,rfl⟩
 obtain⟨p,hp,he⟩:=bx.1 h1
 have e1:vi p.1=x.key:=bi Prod.fst he
 have e2:p.2=x.val:=bi Prod.snd he
 exact⟨p.1,e1.symm,by rw[←e2];exact hp⟩
theorem Gd{es:Array MapEntry}{kv:List (Int×Value)}(h:es.toList.map G6=kv.map Nc){p:Int×Value}(hp:p∈kv):∃x∈es.toList,x.key=vi p.1∧x.val=p.2:=by
 have h1:Nc p∈es.toList.map G6:=by rw[h];exact bx.2 ⟨p,hp,rfl⟩
 obtain⟨x,hx,he⟩:=bx.1 h1
 exact⟨x,hx,bi Prod.fst he,bi Prod.snd he⟩
theorem Fu:∀{l:List MapEntry},l.Pairwise (fun x y=>x.key≠y.key)→∀{x y:MapEntry},x∈l→y∈l→x.key=y.key→x=y
 |[],_,_,_,hx,_,_=>by simp at hx
 |a::r,hp,x,y,hx,hy,h=>by
   obtain⟨h1,h2⟩:=eg.1 hp
   rcases bp.1 hx with ex|hx'
   · rcases bp.1 hy with ey|hy'
     · rw[ex,ey]
     exact absurd (ex▸h) (h1 y hy')
   rcases bp.1 hy with ey|hy'
   · exact absurd (ey▸h).symm (h1 x hx')
   exact Fu h2 hx' hy' h
theorem cL{a b:Int}(h:vi a=vi b):a=b:=by cases h;rfl
theorem Jf{es:Array MapEntry}{clock:Nat}{kv:List (Int×Value)}(hs:Stamped es clock)(h:es.toList.map G6=kv.map Nc):(kv.map (·.1)).Nodup:=by
 have h1:es.toList.map (·.key)=(kv.map (·.1)).map vi:=by
   have:=bi (List.map Prod.fst) h
   simpa[fd,jk,G6,Nc]using this
 have h2:=hs.2.2
 rw[h1]at h2
 exact List.Pairwise.of_map vi (fun a b hab e=>hab (by rw[e])) h2
def Hu(kv:List (Int×Value))(k:Int)(v:Value):List (Int×Value):=if k∈kv.map (·.1)then kv.map (fun p=>if p.1=k then(k,v)else p)else kv++[(k,v)]
theorem K5{es:Array MapEntry}{clock:Nat}{kv:List (Int×Value)}(hs:Stamped es clock)(h:es.toList.map G6=kv.map Nc){j:Nat}{e:MapEntry}{k:Int}{v:Value}(hj:es[j]?=some e)(hk:e.key=vi k):
   (es.modify j fun e=>{ e with key:=vi k,val:=v }).toList.map G6=(Hu kv k v).map Nc:=by
 have hn:=Jf hs h
 have hat:∀i:Nat,(es.toList.map G6)[i]?=(kv.map Nc)[i]?:=fun i=>by rw[h]
 simp only[ew,i9]at hat
 have hkj:∃p,kv[j]?=some p∧p.1=k:=by
   have:=hat j
   rw[hj]at this
   cases hp:kv[j]? with
   |none=>rw[hp]at this;cases this
   |some p=>
     rw[hp]at this
     have h1:G6 e=Nc p:=by simpa using this
     have h2:e.key=vi p.1:=bi Prod.fst h1
     exact⟨p,rfl,cL (h2.symm.trans hk)⟩
 obtain⟨p,hp,hpk⟩:=hkj
 have hmem:k∈kv.map (·.1):=bx.2 ⟨p,ai hp,hpk⟩
 rw[Hu,bh hmem]
 apply cr
 intro i
 simp only[ew,i9,jy]
 by_cases hij:j=i
 · subst hij
   rw[bh rfl,hj,hp]
   simp[G6,Nc,hpk]
 rw[aq hij,hat i]
 cases hq:kv[i]? with
 |none=>rfl
 |some q=>
   have hne:q.1≠k:=fun e'=>by
     have h1:(kv.map (·.1))[i]?=some k:=by simp[hq,e']
     have h2:(kv.map (·.1))[j]?=some k:=by simp[hp,hpk]
     obtain⟨hi,h3⟩:=am.1 h1
     obtain⟨hj',h4⟩:=am.1 h2
     exact hij ((km hn).1 (h4.trans h3.symm))
   simp[hne]
theorem Hb{es:Array MapEntry}{kv:List (Int×Value)}(h:es.toList.map G6=kv.map Nc):∀x∈es.toList,IsKey (.int .i64) x.key:=fun x hx=>by
 obtain⟨k,hk,_⟩:=Je h x hx
 rw[hk];rfl
section
variable {P:Program}{n:Nat}{ds:List Deferred}{l:Env}{w:World}{d:Option Tmp}{ty:TypeId}{ps:String}{af:Array Edge}{g:Option (Nat×Bool)}
theorem SEv.mapUpdate{T K E:TypeId}{m x y:Operand}{b:Nat}{k:Int}{v:Value}{kv:List (Int×Value)}(hT:P.underlying T=some (.map K E))(hK:P.underlying K=some (.int .i64))(hm:Val l m (.map (some b)))(hx:Val l x (vi k))(hy:Val l y v)(h:IMap w b kv):
   SEv P n ds l w ⟨none,.mapUpdate T m x y,ty,ps,af,g⟩ (fun w'=>IMap w' b (Hu kv k v)∧Sto b w w'∧w'.heap.size=w.heap.size):=fun a ha=>by
 obtain⟨es,clock,hb,hs,he⟩:=h
 have hk:IsKey (.int .i64) (vi k):=rfl
 have fin:∀o:Obj,Sto b w { w with heap:=w.heap.setIfInBounds b o }:=fun o=>⟨rfl,rfl,rfl,by simp,fun i _ hne=>(heap_set hb).2 i hne⟩
 rcases findNow_spec hk es.toList 0 (Hb he)with⟨h1,h2⟩|⟨j,e,h1,h2,h3⟩
 · refine⟨_,Qu (w':={ w with heap:=w.heap.setIfInBounds b (.map (es.push { key:=vi k,val:=v,born:=clock }) (clock+1)) }) ?_,⟨_,_,(heap_set hb).1,stamped_push hs h2,?_⟩,fin _,by simp⟩
   · rw[ha.ev hm,ha.ev hx,ha.ev hy]
     simp[Instr.mapUpdate,run_underlying hT,MapKept.run_getObj_map hb,MapKept.run_checkKey hK hk,MapKept.run_findKey hK h1,MapKept.run_setObj_map _ hb,Result.andThen]
   have hni:k∉kv.map (·.1):=fun hmem=>by
     obtain⟨p,hp,hpk⟩:=bx.1 hmem
     obtain⟨x',hx',hkx,_⟩:=Gd he hp
     exact h2 x' hx' (by rw[hkx,hpk])
   rw[Hu,aq hni]
   simp[he,G6,Nc]
 have hj:es[j]?=some e:=by simpa using h2
 have hkey:∀e',es[j]?=some e'→({ e' with key:=vi k,val:=v }:MapEntry).key=e'.key:=fun e' he'=>by rw[hj]at he';cases he';exact h3.symm
 refine⟨_,Qu (w':={ w with heap:=w.heap.setIfInBounds b (.map (es.modify j fun e=>{ e with key:=vi k,val:=v }) clock) }) ?_,⟨_,_,(heap_set hb).1,stamped_modify hs _ _ (fun _ _=>rfl) (fun e' _ he'=>hkey e' he'),K5 hs he hj h3⟩,fin _,by simp⟩
 rw[ha.ev hm,ha.ev hx,ha.ev hy]
 simp[Instr.mapUpdate,run_underlying hT,MapKept.run_getObj_map hb,MapKept.run_checkKey hK hk,MapKept.run_findKey hK h1,hj,h3,run_keyThatStays hk,MapKept.run_setObj_map _ hb,Result.andThen]
theorem REv.makeMap{T:TypeId}:REv P n ds l w ⟨d,.makeMap T none,ty,ps,af,g⟩ (fun v w'=>∃b,v=.map (some b)∧IMap w' b []∧Up w w'∧b=w.heap.size∧w'.heap.size=b+1):=fun a ha=>by
 refine⟨_,_,C0 (v:=.map (some w.heap.size)) (w':=w.alloc (.map #[] 0)) ?_,_,rfl,⟨_,_,(heap_alloc w _).1,stamped_empty 0,rfl⟩,Up.alloc w _,rfl,by simp⟩
 simp[Instr.makeMap,Result.andThen]
def IRng(w:World)(b r:Nat)(kv:List (Int×Value))(done:List Int):Prop:=
 ∃es clock since seen c0,w.heap[b]?=some (.map es clock)∧Stamped es clock∧es.toList.map G6=kv.map Nc∧w.heap[r]?=some (.mapIter (some b) since seen c0)∧(∀x∈es.toList,x.born<since)∧since≤c0∧since≤clock∧
   (∀x∈es.toList,∀k,x.key=vi k→(seen.contains x.born=true↔k∈done))∧done.Nodup∧∀k∈done,k∈kv.map (·.1)
theorem IRng.length{w:World}{b r:Nat}{kv:List (Int×Value)}{done:List Int}(h:IRng w b r kv done):done.length≤kv.length:=by
 obtain⟨es,clock,since,seen,c0,h1,h2,h3,h4,h5,h6,h7,h8,h9,h10⟩:=h
 have:=h9.length_le_of_subset h10
 simpa using this
theorem IRng.sub{w:World}{b r:Nat}{kv:List (Int×Value)}{done:List Int}(h:IRng w b r kv done):done.Nodup∧∀k∈done,k∈kv.map (·.1):=by
 obtain⟨es,clock,since,seen,c0,h1,h2,h3,h4,h5,h6,h7,h8,h9,h10⟩:=h
 exact⟨h9,h10⟩
theorem IRng.kx{bq:Nat}{X Y:Nat→Prop}{w w':World}{b r:Nat}{kv:List (Int×Value)}{done:List Int}(h:IRng w b r kv done)(k:Kx bq X Y w w')(hb:¬Y b)(hr:¬Y r):IRng w' b r kv done:=by
 obtain⟨es,clock,since,seen,c0,h1,h2,h3,h4,h5⟩:=h
 exact⟨es,clock,since,seen,c0,k.same b _ h1 (.inr ⟨rfl,hb,.inr rfl⟩),h2,h3,k.same r _ h4 (.inr ⟨rfl,hr,.inr rfl⟩),h5⟩
theorem REv.range{T K E:TypeId}{m:Operand}{b:Nat}{kv:List (Int×Value)}(hT:P.underlying T=some (.map K E))(hm:Val l m (.map (some b)))(h:IMap w b kv):
   REv P n ds l w ⟨d,.range T m,ty,ps,af,g⟩ (fun v w'=>∃r,v=.pointer (some ⟨r,0,none⟩)∧IRng w' b r kv []∧Up w w'∧r=w.heap.size∧w'.heap.size=r+1):=fun a ha=>by
 obtain⟨es,clock,hb,hs,he⟩:=h
 refine⟨_,_,C0 (v:=.pointer (some ⟨w.heap.size,0,none⟩)) (w':=w.alloc (.mapIter (some b) clock #[] clock)) ?_,_,rfl,⟨es,clock,clock,#[],clock,((heap_alloc w _).2 b (lt_of_block hb)).trans hb,hs,he,(heap_alloc w _).1,hs.1,bl _,bl _,?_,ig,by simp⟩,Up.alloc w _,rfl,by simp⟩
 · rw[ha.ev hm];exact run_range_map w T K E b es clock hT hb
 intro x _ k _;simp
theorem W6{b r:Nat}{kv:List (Int×Value)}{done:List Int}(ty:TypeId)(h:IRng w b r kv done):
   ((Instr.next (.pointer (some ⟨r,0,none⟩)) false ty).run P w=.ok (.tuple #[.bool false]) w∧done.Perm (kv.map (·.1)))∨
   ∃k u w',(Instr.next (.pointer (some ⟨r,0,none⟩)) false ty).run P w=.ok (.tuple #[.bool true,vi k,u]) w'∧(k,u)∈kv∧k∉done∧IRng w' b r kv (done++[k])∧w.grownBy w' (some r)∧w'.heap.size=w.heap.size∧(Instr.entry (.pointer (some ⟨r,0,none⟩))).run P w'=.ok (.tuple #[vi k,u]) w'∧Sto r w w'∧∃o:Obj,w.heap[r]?=some o∧o.isWalk=true:=by
 obtain⟨es,clock,since,seen,c0,hb,hs,he,hr,hold,hsc,hsk,hd,hdn,hdk⟩:=h
 have hne:b≠r:=fun e=>by rw[e,hr]at hb;cases hb
 have hst:=(stamped_iff es clock).1 hs
 rcases run_next_at (P:=P) w ty r b since c0 seen es clock hr hb hold hsc with⟨h0,hrun⟩|⟨e,hel,w1,hal,hrun⟩
 · refine .inl ⟨hrun,(jg hdn (Jf hs he)).2 fun k=>⟨hdk k,fun hk=>?_⟩⟩
   obtain⟨p,hp,rfl⟩:=bx.1 hk
   obtain⟨x,hx,hxk,_⟩:=Gd he hp
   exact(hd x hx _ hxk).1 (all_seen es seen h0 x hx)
 obtain⟨hem,hes⟩:=mem_left hel
 obtain⟨k,hk,hkv⟩:=Je he e hem
 have hr1:w1.heap[r]?=some (.mapIter (some b) since seen c0):=by rcases hal with rfl|rfl<;>exact hr
 have hb1:w1.heap[b]?=some (.map es clock):=by rcases hal with rfl|rfl<;>exact hb
 have hset:=heap_set (o':=.mapIter (some b) since (seen.push e.born) clock) hr1
 have hb':(setBlock w1 r (.mapIter (some b) since (seen.push e.born) clock)).heap[b]?=some (.map es clock):=(hset.2 b hne).trans hb1
 have hnd:k∉done:=fun hm=>by have:=(hd e hem k hk).2 hm;rw[hes]at this;cases this
 have hgr:w.grownBy (setBlock w1 r (.mapIter (some b) since (seen.push e.born) clock)) (some r):=by rcases hal with rfl|rfl<;>exact⟨rfl,rfl,rfl,by simp[setBlock],fun i _ hi=>hset.2 i (fun e1=>hi (by rw[e1]))⟩
 refine .inr ⟨k,e.val,_,by rw[hrun,hk],hkv,hnd,⟨es,clock,since,seen.push e.born,clock,hb',hs,he,hset.1,hold,hsk,hsk,fun x hx k' hk'=>?_,?_,fun k' hk'=>?_⟩,hgr,?_,?_,⟨hgr.os,hgr.tape,hgr.output,hgr.size,fun i hi hne=>hgr.block i hi (fun e=>hne (by cases e;rfl))⟩,_,hr,rfl⟩
 · rw[contains_push,gi,hd x hx k' hk',bt,bn]
   refine or_congr Iff.rfl ⟨fun h1=>?_,fun h1=>?_⟩
   · have h2:x.born=e.born:=by simpa using h1
     have h3:=born_inj hst.2.1 hx hem h2
     rw[h3,hk]at hk'
     exact(cL hk').symm
   subst h1
   have:=Fu hst.2.2 hx hem (hk'.trans hk.symm)
   rw[this];simp
 · exact g9.2 ⟨hdn,by simp,fun a ha c hc=>by simp at hc;subst hc;exact fun e'=>hnd (e'▸ha)⟩
 · rcases bt.1 hk' with h1|h1
   · exact hdk k' h1
   simp at h1;subst h1;exact bx.2 ⟨_,hkv,rfl⟩
 · rcases hal with rfl|rfl<;>simp[setBlock]
 rw[←hk];exact run_entry_at _ r b since seen es clock e hset.1 hb' hem hst.2.1
structure NextTo(P:Program)(w w':World)(b r:Nat)(kv:List (Int×Value))(done:List Int)(k:Int)(u:Value):Prop where
 mem:(k,u)∈kv
 fresh:k∉done
 rng:IRng w' b r kv (done++[k])
 grown:w.grownBy w' (some r)
 size:w'.heap.size=w.heap.size
 entry:(Instr.entry (.pointer (some ⟨r,0,none⟩))).run P w'=.ok (.tuple #[vi k,u]) w'
 sto:Sto r w w'
 walk:∃o:Obj,w.heap[r]?=some o∧o.isWalk=true
theorem REv.next{it:Operand}{b r:Nat}{kv:List (Int×Value)}{done:List Int}(hx:Val l it (.pointer (some ⟨r,0,none⟩)))(h:IRng w b r kv done):
   REv P n ds l w ⟨d,.next it false,ty,ps,af,g⟩ (fun v w'=>(v=.tuple #[.bool false]∧w'=w∧done.Perm (kv.map (·.1)))∨∃k u,v=.tuple #[.bool true,vi k,u]∧NextTo P w w' b r kv done k u):=fun a ha=>by
 rcases W6 (P:=P) ty h with⟨h1,h2⟩|⟨k,u,w',h1,h2,h3,h4,h5,h6,h7,h8,h9⟩
 · exact⟨_,_,C0 (by rw[ha.ev hx];exact h1),.inl ⟨rfl,rfl,h2⟩⟩
 exact⟨_,_,C0 (by rw[ha.ev hx];exact h1),.inr ⟨k,u,rfl,h2,h3,h4,h5,h6,h7,h8,h9⟩⟩
theorem REv.entry{it:Operand}{r:Nat}{t:Value}(hx:Val l it (.pointer (some ⟨r,0,none⟩)))(h:(Instr.entry (.pointer (some ⟨r,0,none⟩))).run P w=.ok t w):
 REv P n ds l w ⟨d,.entry it,ty,ps,af,g⟩ (fun v w'=>v=t∧w'=w):=fun a ha=>⟨_,_,C0 (by rw[ha.ev hx];exact h),rfl,rfl⟩
end
end Go.Wx
namespace Go.Wx
open Go.RowKit
section
variable {α:Type}{enc:α→Array Value}{base k:Nat}{e:TypeId}
def OwnS(w:World)(base:Nat)(e:TypeId)(k:Nat)(enc:α→Array Value)(v:Value)(xs:List α):Prop:=w.ownsRow base e k v xs.length (xs.flatMap fun x=>(enc x).toList)
structure Grew(base:Nat)(w w':World):Prop where
 os:w'.os=w.os
 tape:w'.tape=w.tape
 output:w'.output=w.output
 size:w.heap.size≤w'.heap.size
 block:∀i,i<w.heap.size→i<base→w'.heap[i]?=w.heap[i]?
 others:∀(i:Nat)(o:Obj),w.heap[i]?=some o→o.isCells=false→w'.heap[i]?=some o
theorem OwnS.nil(w:World)(base:Nat)(e:TypeId)(k:Nat)(enc:α→Array Value):OwnS w base e k enc (.slice none 0 0) ([]:List α):=World.ownsRow_nil w base e k
theorem OwnS.up{w w':World}{v:Value}{xs:List α}(h:OwnS w base e k enc v xs)(u:Up w w'):OwnS w' base e k enc v xs:=World.ownsRow.kept h (Ys u) (by cases v.ownBlock<;>simp)
theorem OwnS.sto{w w':World}{v:Value}{xs:List α}{B:Nat}(h:OwnS w base e k enc v xs)(u:Sto B w w')(hB:B<base):OwnS w' base e k enc v xs:=
 World.ownsRow.kept h (row:=some B) ⟨u.os,u.tape,u.output,u.size,fun i hi hne=>u.block i hi (fun e=>hne (by rw[e]))⟩ (.inr fun e=>by have:=(World.ownsRow.lt h B e).1;omega)
theorem OwnS.ko{bq:Nat}{w w':World}{v:Value}{xs:List α}(h:OwnS w base e k enc v xs)(u:Ko bq w w'):OwnS w' base e k enc v xs:=by
 obtain⟨h1,h2⟩:=h
 refine⟨h1,?_⟩
 rcases h2 with h2|⟨g,cap,cur,rfl,hb,hg,rest⟩
 · exact .inl h2
 exact .inr ⟨g,cap,cur,rfl,hb,u.same g _ hg (.inr rfl),rest⟩
theorem OwnS.one{w:World}{v:Value}{xs:List α}(h:OwnS w base e k enc v xs):v.oneCell'=true:=by
 obtain⟨_,⟨rfl,_⟩|⟨g,cap,cur,rfl,_⟩⟩:=h<;>rfl
theorem OwnS.mono{w:World}{b':Nat}{v:Value}{xs:List α}(h:OwnS w base e k enc v xs)(hb:b'≤base):OwnS w b' e k enc v xs:=by
 obtain⟨h1,h2⟩:=h
 refine⟨h1,?_⟩
 rcases h2 with h2|⟨g,cap,cur,rfl,hg,rest⟩
 · exact .inl h2
 exact .inr ⟨g,cap,cur,rfl,bu hb hg,rest⟩
def A3(k:Int):Array Value:=#[vi k]
theorem Et(x:Int):(A3 x).all (·.oneCell')=true:=by simp[A3,Value.oneCell']
theorem Ol(f:α→List Value)(k:Nat)(hk:0<k)(hf:∀x,(f x).length=k):∀(xs:List α)(j:Nat)(u:Value),(xs.flatMap f)[j]?=some u→∃x,xs[j/k]?=some x∧(f x)[j%k]?=some u
 |[],j,u,h=>by simp at h
 |x::xs,j,u,h=>by
   rw[cw,List.getElem?_append,hf x]at h
   by_cases hj:j<k
   · rw[bh hj]at h
     exact⟨x,by rw[Nat.div_eq_of_lt hj];rfl,by rw[im hj];exact h⟩
   rw[aq hj]at h
   obtain⟨y,h1,h2⟩:=Ol f k hk hf xs (j-k) u h
   have e1:j=(j-k)+k:=by omega
   refine⟨y,?_,?_⟩
   · rw[e1,Nat.add_div_right _ hk];exact h1
   rw[e1,Nat.add_mod_right];exact h2
theorem F0(f:α→List Value)(k:Nat)(hf:∀x,(f x).length=k)(xs:List α):(xs.flatMap f).length=xs.length*k:=by
 induction xs with
 |nil=>simp
 |cons x xs ih=>rw[cw,ak,ih,hf,bg,eu];omega
theorem gM(f:α→List Value)(k:Nat)(hf:∀x,(f x).length=k):∀(xs:List α)(i q:Nat)(x:α)(u:Value),xs[i]?=some x→(f x)[q]?=some u→(xs.flatMap f)[i*k+q]?=some u
 |[],i,q,x,u,h,_=>by simp at h
 |y::xs,0,q,x,u,h,hu=>by
   have:y=x:=by simpa using h
   subst this
   have hq:q<(f y).length:=(am.1 hu).1
   rw[cw,Nat.zero_mul,dp,c7 hq]
   exact hu
 |y::xs,i+1,q,x,u,h,hu=>by
   have:=gM f k hf xs i q x u (by simpa using h) hu
   rw[cw,db (by rw[hf,eu];omega),hf]
   rw[show(i+1)*k+q-k=i*k+q by rw[eu];omega]
   exact this
theorem OwnS.sl{w:World}{v:Value}{xs:List α}(h:OwnS w base e k enc v xs)(hk:∀x,(enc x).size=k):Sl w v k enc xs:=by
 have hc:=fun g hg=>World.ownsRow.cells h (g:=g) hg
 obtain⟨h1,h2⟩:=h
 rcases h2 with⟨rfl,hn⟩|⟨g,cap,cur,rfl,hb,hg,rest⟩
 · have:xs=[]:=dl hn
   subst this
   exact Sl.nil w k enc
 refine⟨some ⟨g,0,none⟩,cap,rfl,fun i x hx=>⟨g,0,rfl,fun j u hu=>?_⟩⟩
 have h3:=hc g rfl (i*k+j) u (gM _ k (fun x=>by simp[hk]) xs i j x u hx (by simpa using hu))
 rw[dp]
 simpa[E3]using h3
end
section
variable {base:Nat}
theorem Blk.gr{w w':World}{B:Nat}{cs:Array Value}{T:TypeId}(h:Blk w B cs T)(k:Grew base w w')(hB:B<base):Blk w' B cs T:=(k.block B h.lt hB).trans h
theorem Up.gr{w0 w w':World}(h:Up w0 w)(k:Grew base w w')(hB:w0.heap.size≤base):Up w0 w':=
 ⟨k.os.trans h.os,k.tape.trans h.tape,k.output.trans h.output,bu (Up.size h) k.size,fun i hi=>(k.block i (fc hi (Up.size h)) oQ).trans (h.block hi)⟩
theorem Sz.gr{B:Nat}{w w':World}(h:Sz B w)(k:Grew base w w')(_:B=B):Sz B w':=bu h k.size
theorem Kf.gr{B:Nat}{w0 w w':World}(h:Kf B w0 w)(k:Grew base w w'):Kf B w0 w':=⟨bu h.size k.size,fun i o hB hi ho=>k.others i o (h.same i o hB hi ho) ho⟩
theorem Kx.gr{bq:Nat}{X Y:Nat→Prop}{w0 w w':World}(h:Kx bq X Y w0 w)(k:Grew base w w')(hX:∀i,base≤i→X i∨w0.heap.size≤i):Kx bq X Y w0 w':=
 ⟨k.os.trans h.os,k.tape.trans h.tape,k.output.trans h.output,bu h.size k.size,fun i o hi ho=>by
   have h1:=h.same i o hi ho
   cases hc:o.isCells
   · exact k.others i o h1 hc
   by_cases hb:i<base
   · exact(k.block i (lt_of_block h1) hb).trans h1
   exfalso
   rcases hX i oQ with hx|hx
   · rcases ho with ho|ho
     · exact ho.2 hx
     rw[hc]at ho;cases ho.1
   have:=lt_of_block hi;omega⟩
end
section
variable {P:Program}{n:Nat}{ds:List Deferred}{l:Env}{w:World}{d:Option Tmp}{ty:TypeId}{ps:String}{af:Array Edge}{g:Option (Nat×Bool)}
theorem REv.append{α:Type}{enc:α→Array Value}{base k bytes:Nat}{e T:TypeId}{i:TypeInfo}{z:Value}{s x:Operand}{v xv:Value}{xs ys:List α}(hT:P.underlying T=some (.slice e))(hi:P.info? e=some i)(hz:i.zero=some z)
   (hsize:i.size=k)(hby:i.bytes=bytes)(hzs:z.cells.size=k)(hk0:0<k)(henc:∀x,(enc x).size=k)(h1:∀x,(enc x).all (·.oneCell')=true)(hs:Val l s v)(hx:Val l x xv)(ho:OwnS w base e k enc v xs)(hy:Sl w xv k enc ys)(hne:0<ys.length)
   (h63:xs.length+ys.length≤maxLen)(hbytes:(xs.length+ys.length)*bytes≤140737488355328)(hbase:base≤w.heap.size):
   REv P n ds l w ⟨d,.call { callee:=.builtin .append,args:=#[s,x],argTypes:=#[T,T] },ty,ps,af,g⟩ (fun v' w'=>OwnS w' base e k enc v' (xs++ys)∧Grew base w w'):=fun a ha=>by
 obtain⟨ad,c,rfl,hE⟩:=hy
 obtain⟨y0,hy0⟩:=Ae (xs:=ys) (i:=0) hne
 obtain⟨B,o,rfl,_⟩:=hE 0 y0 hy0
 have hfl:∀x,(enc x).toList.length=k:=fun x=>by simp[henc]
 obtain⟨v',w',hr,h2,h3,_⟩:=run_append_own (P:=P) w base T ty e i z k bytes hT hi hz hsize hby hzs hk0 v xs.length _ ho ⟨B,o,none⟩ ys.length c (ys.flatMap fun x=>(enc x).toList) (F0 _ k hfl ys)
   (fun j u hu=>by
     obtain⟨y,hy1,hy2⟩:=Ol _ k hk0 hfl ys j u hu
     obtain⟨B',o',e',hc⟩:=hE _ y hy1
     cases e'
     have:=hc (j%k) u (by simpa using hy2)
     rw[E3]
     rw[show o+j=o+j/k*k+j%k by have:=js j k;rw[i4]at this;omega]
     exact this)
   (fun u hu=>by
     obtain⟨y,_,hy2⟩:=io.1 hu
     exact(ck.1 (h1 y)) u (by simpa using hy2)) h63 hbytes hbase
 refine⟨v',w',?_,?_,⟨h3.os,h3.tape,h3.output,h3.size,fun i hi hb=>h3.block i hi (fun e=>by have:=(World.ownsRow.lt ho i e.symm).1;omega),fun i o hio hc=>?_⟩⟩
 · simp only[execOp,resolve,invoke,builtin,Sem.run_bind,Sem.run_pure,Result.andThen_ok,f6,c8,fq,ha.ev hs,ha.ev hx,hr]
 · simpa[OwnS]using h2
 refine(h3.block i (lt_of_block hio) (fun e=>?_)).trans hio
 obtain⟨_,hn|⟨g',cap,cur,rfl,_,hg,_⟩⟩:=ho
 · rw[hn.1]at e;cases e
 have e2:i=g':=by cases e;rfl
 subst e2
 rw[hg]at hio;cases hio;cases hc
end
section
variable {R:Option Nat}{m:Nat}{P:Program}{n:Nat}{ds:List Deferred}{Q:Exit→Go.Act→World→Prop}{l:Env}{w:World}{ops:Array Oper}
def yT(ops:Array Oper)(s:Nat)(listed:Array Bool):Prop:=listed.size=ops.size∧∀j,j<ops.size→listed.getD j false=decide (j<s)
def Gv(ops:Array Oper)(k:Nat):Bool:=
 (List.range ops.size).all fun i=> !Nat.ble (k+1) i||(match ops[i]? with|none=>false|some o=>o.after.any fun e=>Region.binds .any e&&Nat.beq e.on (i-1))
def Dz(ops:Array Oper):Bool:=
 (List.range ops.size).all fun i=>match ops[i]? with|none=>false|some o=>o.after.all fun e=> !Region.binds .any e||Nat.ble (e.on+1) i
theorem Mr{k:Nat}(h:Gv ops k=true){i:Nat}{o:Oper}(ho:ops[i]?=some o)(hk:k<i):∃e∈o.after,Region.binds .any e=true∧e.on=i-1:=by
 have hi:i<ops.size:=(cb.1 ho).1
 have h1:=di.1 h i (cn.2 hi)
 have hb:Nat.ble (k+1) i=true:=g8 hk
 simp only[ho,hb,ja,g7]at h1
 obtain⟨e,he,hh⟩:=fk.1 h1
 simp only[b6]at hh
 exact⟨_,ez he,hh.1,ci hh.2⟩
theorem Ef(h:Dz ops=true){i:Nat}{o:Oper}(ho:ops[i]?=some o):∀e∈o.after,Region.binds .any e=true→e.on<i:=by
 have hi:i<ops.size:=(cb.1 ho).1
 have h1:=di.1 h i (cn.2 hi)
 simp only[ho]at h1
 intro e he hb
 have:=ck.1 h1 e he
 rw[hb]at this
 exact a_ (by simpa using this)
theorem Ge{listed:Array Bool}{i:Nat}(hs:listed.size=ops.size):i∈Region.ready .any ops listed↔∃o,ops[i]?=some o∧listed.getD i false=false∧∀e∈o.after,Region.binds .any e=true→listed.getD e.on false=true:=by
 unfold Region.ready
 rw[fe,cn]
 constructor
 · rintro⟨hi,h⟩
   have hio:ops[i]?=some ops[i]:=by simp[hi]
   have hlt:i<listed.size:=by omega
   simp only[b6,hio,ga,dr]at h
   refine⟨_,hio,?_,fun e he hb=>?_⟩
   · have h1:=h.1
     rw[bm]at h1⊢
     simp only[hlt,ce,dr]at h1⊢
     simpa using h1
   have:=ck.1 h.2 e he
   rw[hb]at this
   simpa using this
 rintro⟨o,ho,h1,h2⟩
 have hi:i<ops.size:=(cb.1 ho).1
 have hlt:i<listed.size:=by omega
 refine⟨hi,?_⟩
 simp only[b6,ho,ga,dr]
 refine⟨?_,ck.2 fun e he=>?_⟩
 · rw[bm]at h1⊢
   simp only[hlt,ce,dr]at h1⊢
   simpa using h1
 cases hb:Region.binds .any e with
 |false=>rfl
 |true=>simpa using h2 e he hb
theorem D0{listed:Array Bool}{i j:Nat}(hi:i<listed.size):(listed.setIfInBounds i true).getD j false=if j=i then true else listed.getD j false:=by
 rw[bm,g6,bm]
 by_cases e:i=j
 · subst e;simp[hi]
 rw[aq e,aq (fun h=>e h.symm)]
theorem E4{k:Nat}(hT:Gv ops k=true)(hA:Dz ops=true):∀(c s fuel:Nat)(listed:Array Bool)(a:Go.Act)(w:World),ops.size-s=c→s≤ops.size→k≤s→c≤fuel→yT ops s listed→
   wpListIn (FR R) m P ops Q (ops.toList.drop s) a w→wpAnyIn (FR R) m P .any ops Q fuel listed a w:=by
 intro c
 induction c with
 |zero=>
   intro s fuel listed a w hc hs _ _ hl h
   have e:s=ops.size:=by omega
   subst e
   have hd:ops.toList.drop ops.size=[]:=by simp
   rw[hd]at h
   have hr:Region.ready .any ops listed=[]:=by
     rw[gw]
     intro i hi
     obtain⟨o,ho,h1,_⟩:=(Ge hl.1).1 hi
     have hi':i<ops.size:=(cb.1 ho).1
     rw[hl.2 i hi',bj hi']at h1
     cases h1
   cases fuel with
   |zero=>exact⟨hr,h⟩
   |succ fuel=>exact⟨fun _=>h,fun i hi=>by rw[hr]at hi;cases hi⟩
 |succ c ih=>
   intro s fuel listed a w hc hs hk hf hl h
   have hlt:s<ops.size:=by omega
   have hso:ops[s]?=some ops[s]:=by simp[hlt]
   obtain⟨fuel,rfl⟩:∃f,fuel=f+1:=⟨fuel-1,by omega⟩
   have hd:ops.toList.drop s=ops[s]::ops.toList.drop (s+1):=by
     rw[fj (by simpa using hlt)];simp
   rw[hd]at h
   have hin:s∈Region.ready .any ops listed:=(Ge hl.1).2 ⟨_,hso,by rw[hl.2 s hlt];simp,fun e he hb=>by
     have:=Ef hA hso e he hb
     rw[hl.2 _ (by omega)];simpa using this⟩
   refine⟨fun hr=>(by rw[hr]at hin;cases hin),fun i hi=>?_⟩
   obtain⟨o,ho,h1,h2⟩:=(Ge hl.1).1 hi
   have hi':i<ops.size:=(cb.1 ho).1
   have his:i=s:=by
     rw[hl.2 i hi']at h1
     have h3:¬i<s:=cd h1
     rcases fg s i with h4|h4
     · obtain⟨e,he,hb,hon⟩:=Mr hT ho (show k<i by omega)
       have:=h2 e he hb
       rw[hon,hl.2 (i-1) (by omega)]at this
       have:=b9 this
       omega
     omega
   subst his
   rw[hso]at ho
   cases ho
   have step:∀a' w',wpListIn (FR R) m P ops Q (ops.toList.drop (i+1)) a' w'→wpAnyIn (FR R) m P .any ops Q fuel (listed.setIfInBounds i true) a' w':=fun a' w' h'=>
     ih (i+1) fuel _ a' w' oQ oQ oQ oQ ⟨by simp[hl.1],fun j hj=>by
       rw[D0 (by rw[hl.1];exact hlt),hl.2 j hj]
       by_cases e:j=i
       · subst e;simp
       rw[aq e]
       by_cases h5:j<i
       · rw[bj h5,bj (by omega)]
       rw[br h5,br (by omega)]⟩ h'
   unfold wpOpIn
   rw[hso]
   dsimp only
   unfold wpListIn at h
   split
   · rename_i hw
     rw[bh hw]at h
     exact Oper.wpIn_mono step h
   rename_i hw
   rw[aq hw]at h
   exact⟨h.1,step _ _ h.2⟩
def J8(n:Nat)(ops:Array Oper)(k:Nat):Bool:=
 Nat.ble k ops.size&&(List.range k).all fun i=>
   match ops[i]? with
   |none=>false
   |some o=>
     (match o.dst with|some d=>Nat.ble (d+1) n|none=>false)&&
     ((List.range k).all fun j=>
       match ops[j]? with
       |none=>true
       |some p=>
         (Nat.beq i j|| !(o.dst==p.dst))&&
         (match p.dst with
           |none=>true
           |some t=> !M8 (o.looksAt ops) t||(o.after.any fun e=>Region.binds .any e&&Nat.beq e.on j)))
theorem Pv{k:Nat}(h:J8 n ops k=true){i:Nat}{o:Oper}(hik:i<k)(ho:ops[i]?=some o):
   (∃d,o.dst=some d∧d<n)∧
   (∀(j:Nat)(p:Oper),j<k→ops[j]?=some p→(i≠j→o.dst≠p.dst)∧(∀t,p.dst=some t→t∈o.looksAt ops→∃e∈o.after,Region.binds .any e=true∧e.on=j)):=by
 unfold J8 at h
 rw[b6]at h
 have h1:=di.1 h.2 i (cn.2 hik)
 simp only[ho,b6]at h1
 obtain⟨h2,h4⟩:=h1
 refine⟨?_,?_⟩
 · cases hd:o.dst with
   |none=>rw[hd]at h2;cases h2
   |some d=>rw[hd]at h2;exact⟨d,rfl,a_ h2⟩
 intro j p hj hp
 have h5:=di.1 h4 j (cn.2 hj)
 simp only[hp,b6]at h5
 refine⟨fun hne he=>?_,fun t ht hl=>?_⟩
 · have:Nat.beq i j=false:=by
     cases hb:Nat.beq i j with
     |false=>rfl
     |true=>exact absurd (ci hb) hne
   simp[this,he]at h5
 have h6:=h5.2
 rw[ht]at h6
 simp only[Jd.2 hl,ja,g7]at h6
 obtain⟨e,he,hh⟩:=fk.1 h6
 simp only[b6]at hh
 exact⟨_,ez he,hh.1,ci hh.2⟩
def Fv(ops:Array Oper)(k:Nat):Bool:=
 (List.range k).all fun j=>(List.range (k+1)).any fun i=>Nat.ble (j+1) i&&(match ops[i]? with|none=>false|some o=>o.after.any fun e=>Region.binds .any e&&Nat.beq e.on j)
def Dn(ops:Array Oper)(listed:Array Bool):Prop:=∀(i:Nat)(o:Oper),ops[i]?=some o→listed.getD i false=true→∀e∈o.after,Region.binds .any e=true→listed.getD e.on false=true
theorem Om{k:Nat}(hC:Fv ops k=true){listed:Array Bool}(hD:Dn ops listed){o:Oper}(ho:ops[k]?=some o)(hk:∀e∈o.after,Region.binds .any e=true→listed.getD e.on false=true):∀(c j:Nat),k-j=c→j<k→listed.getD j false=true:=by
 intro c
 induction c using Nat.strongRecOn with
 |_ c ih=>
   intro j hc hj
   obtain⟨i,hi,hh⟩:=ip.1 (di.1 hC j (cn.2 hj))
   simp only[b6]at hh
   have hji:j<i:=a_ hh.1
   have hik:i<k+1:=cn.1 hi
   cases hio:ops[i]? with
   |none=>simp[hio]at hh
   |some q=>
     have h2:=hh.2
     simp only[hio]at h2
     obtain⟨e,he,hb⟩:=fk.1 h2
     simp only[b6]at hb
     have hon:=ci hb.2
     by_cases hek:i=k
     · subst hek
       rw[ho]at hio
       cases hio
       rw[←hon];exact hk _ (ez he) hb.1
     have:=ih (k-i) oQ i rfl oQ
     rw[←hon];exact hD i q hio this _ (ez he) hb.1
theorem W7{k:Nat}{w0:World}{base:Env}(hok:J8 n ops k=true)(hT:Gv ops k=true)(hA:Dz ops=true)(hC:Fv ops k=true)(E:Nat→Env)(hE0:E 0=[])
   (hE:∀(i:Nat)(o:Oper),i<k→ops[i]?=some o→∃ph d,o.dst=some d∧phUp ph∧BT P n ds ops w0 (Ce (o.looksAt ops) (E i)++base) o ph∧E (i+1)=(d,ph)::E i)
   (hbase:∀i ph,lk base i=some ph→phUp ph∧∀(j:Nat)(o:Oper),j<k→ops[j]?=some o→o.dst≠some i)
   (hQ:∀a w,Up w0 w→Ag n ds (E k++base) a w→wpListIn (FR R) m P ops Q (ops.toList.drop k) a w):
   ∀(fuel:Nat)(listed:Array Bool)(a:Go.Act)(w:World),listed.size=ops.size→listed.toList.countP (· ==false)≤fuel→(∀j,k≤j→j<ops.size→listed.getD j false=false)→Dn ops listed→Up w0 w→Ag n ds base a w→
     (∀(j:Nat)(o:Oper)(d:Nat)(ph:Ph),j<k→ops[j]?=some o→o.dst=some d→E (j+1)=(d,ph)::E j→listed.getD j false=true→ph.holds (a.tmps.getD d undef) w)→
     wpAnyIn (FR R) m P .any ops Q fuel listed a w:=by
 have hks:k≤ops.size:=by
   unfold J8 at hok
   rw[b6]at hok
   exact a_ hok.1
 have hEl:∀c i ph,c≤k→lk (E c) i=some ph→∃j o,j<c∧ops[j]?=some o∧o.dst=some i∧E (j+1)=(i,ph)::E j:=by
   intro c
   induction c with
   |zero=>intro i ph _ h;rw[hE0]at h;cases h
   |succ c ih=>
     intro i ph hk h
     have hko:ops[c]?=some ops[c]:=by simp[show c<ops.size by omega]
     obtain⟨q,d,hd,_,_,he⟩:=hE c _ oQ hko
     rw[he]at h
     by_cases e:i=d
     · subst e
       rw[A9]at h
       cases h
       exact⟨c,_,by omega,hko,hd,he⟩
     rw[Be e]at h
     obtain⟨j,o,h1,h2⟩:=ih i ph oQ h
     exact⟨j,o,by omega,h2⟩
 have hfull:∀(fuel:Nat)(listed:Array Bool)(a:Go.Act)(w:World),listed.size=ops.size→listed.toList.countP (· ==false)≤fuel→(∀j,k≤j→j<ops.size→listed.getD j false=false)→(∀j,j<k→listed.getD j false=true)→Up w0 w→Ag n ds base a w→
     (∀(j:Nat)(o:Oper)(d:Nat)(ph:Ph),j<k→ops[j]?=some o→o.dst=some d→E (j+1)=(d,ph)::E j→listed.getD j false=true→ph.holds (a.tmps.getD d undef) w)→
     wpAnyIn (FR R) m P .any ops Q fuel listed a w:=by
   intro fuel listed a w hs hc hno hall hu ha hI
   refine E4 hT hA (ops.size-k) k fuel listed a w rfl hks (bl _) ?_ ⟨hs,fun j hj=>?_⟩ (hQ a w hu ⟨ha.defers,ha.size,fun i ph hi=>?_⟩)
   · have h1:(listed.toList.drop k).countP (· ==false)=ops.size-k:=by
       rw[List.countP_eq_length.2]
       · simp[hs]
       intro b hb
       obtain⟨j,hj,he⟩:=fb.1 hb
       rw[List.getElem_drop]at he
       have hj':k+j<listed.size:=by simp at hj;omega
       have:=hno (k+j) oQ oQ
       rw[bm]at this
       simp only[hj',ce,dr]at this
       rw[←he]
       simpa using this
     have h2:(listed.toList.drop k).countP (· ==false)≤listed.toList.countP (· ==false):=(kh k _).countP_le
     omega
   · by_cases h:j<k
     · rw[hall j h,bj h]
     rw[hno j oQ hj,br h]
   rcases Dq hi with h|h
   · obtain⟨j,o,hj,ho,hd,he⟩:=hEl _ _ _ (bl _) h
     exact hI j o i ph hj ho hd he (hall j hj)
   exact ha.val i ph h
 intro fuel
 induction fuel with
 |zero=>
   intro listed a w hs hc hno hD hu ha hI
   refine hfull 0 listed a w hs hc hno (fun i hi=>?_) hu ha hI
   have h0:listed.toList.countP (· ==false)=0:=by omega
   rw[gp]at h0
   have hlt:i<listed.size:=by omega
   have:=h0 listed[i] (by simp)
   rw[bm]
   simp only[hlt,ce,dr]
   simpa using this
 |succ fuel ih=>
   intro listed a w hs hc hno hD hu ha hI
   by_cases hall:∀j,j<k→listed.getD j false=true
   · exact hfull _ listed a w hs hc hno hall hu ha hI
   have hinc:∀c,c<k→listed.getD c false=false→∃i,i∈Region.ready .any ops listed:=by
     intro c
     induction c using Nat.strongRecOn with
     |_ c ihc=>
       intro hck hcf
       have hco:ops[c]?=some ops[c]:=by simp[show c<ops.size by omega]
       by_cases hr:∀e∈(ops[c]).after,Region.binds .any e=true→listed.getD e.on false=true
       · exact⟨c,(Ge hs).2 ⟨_,hco,hcf,hr⟩⟩
       simp only[ik]at hr
       obtain⟨e,he,hb,hf⟩:=hr
       have hlt:=Ef hA hco e he hb
       exact ihc e.on hlt oQ (by simpa using hf)
   refine⟨fun hr=>?_,fun i hi=>?_⟩
   · exfalso
     simp only[ik]at hall
     obtain⟨j,hj,hf⟩:=hall
     obtain⟨i,hi⟩:=hinc j hj (by simpa using hf)
     rw[hr]at hi
     cases hi
   obtain⟨o,hio,hbi,hed⟩:=(Ge hs).1 hi
   have hi':i<ops.size:=(cb.1 hio).1
   have hlt:i<listed.size:=by omega
   have hik:i<k:=by
     rcases fg i k with h|h
     · exact h
     exfalso
     by_cases e:i=k
     · subst e
       exact hall fun j hj=>Om hC hD hio hed (i-j) j rfl hj
     obtain⟨e',he,hb,hon⟩:=Mr hT hio (show k<i by omega)
     have h1:=hed e' he hb
     rw[hon,hno (i-1) oQ (by omega)]at h1
     cases h1
   obtain⟨hd0,hpair⟩:=Pv hok hik hio
   obtain⟨ph,d,hd,hup,hop,hEi⟩:=hE i o hik hio
   have hdn:d<n:=by obtain⟨d',h1,h2⟩:=hd0;rw[hd]at h1;cases h1;exact h2
   have hag:Ag n ds (Ce (o.looksAt ops) (E i)++base) a w:=by
     refine⟨ha.defers,ha.size,fun t q ht=>?_⟩
     rcases Dq ht with h|h
     · obtain⟨h1,h2⟩:=Fc h
       obtain⟨j,p,hj,hp,hpd,hEj⟩:=hEl _ _ _ oQ h2
       obtain⟨e,he,hbe,hon'⟩:=(hpair j p oQ hp).2 t hpd h1
       have:=hed e he hbe
       exact hI j p t q oQ hp hpd hEj (by rw[←hon'];exact this)
     exact ha.val t q h
   have step:∀v w',Up w w'→ph.holds v w'→wpAnyIn (FR R) m P .any ops Q fuel (listed.setIfInBounds i true) (a.put o.dst v) w':=by
     intro v w' hu' hv
     have hcnt:(listed.setIfInBounds i true).toList.countP (· ==false)≤fuel:=by
       have hbi':listed[i]=false:=by
         rw[bm]at hbi
         simp only[hlt,ce,dr]at hbi
         exact hbi
       rw[il,ky (by simpa using hlt)]
       have hpos:0<listed.toList.countP (· ==false):=j3.2 ⟨listed[i],by simp,by simp[hbi']⟩
       have e1:(listed.toList[i]'(by simpa using hlt)==false)=true:=by simp[hbi']
       rw[bh e1,aq (by simp)]
       omega
     refine ih _ _ _ (by simpa using hs) hcnt ?_ ?_ (hu.trans hu') ?_ ?_
     · intro j hj hjs
       rw[D0 hlt,aq (by omega)]
       exact hno j hj hjs
     · intro j p hp hl e he hb
       rw[D0 hlt]at hl⊢
       by_cases e1:e.on=i
       · rw[bh e1]
       rw[aq e1]
       by_cases e2:j=i
       · subst e2
         rw[hio]at hp;cases hp
         exact hed e he hb
       rw[aq e2]at hl
       exact hD j p hp hl e he hb
     · refine⟨by rw[hd];exact ha.defers,by rw[hd];simp[Go.Act.put,ha.size],fun t q ht=>?_⟩
       have hne:t≠d:=fun e=>(hbase t q ht).2 i o hik hio (by rw[hd,e])
       rw[hd,Dp hne]
       exact(hbase t q ht).1 _ _ _ (ha.val t q ht) hu'
     intro j p d' q hjk hp hpd hEj hl
     by_cases e:j=i
     · subst e
       rw[hio]at hp
       cases hp
       rw[hd]at hpd
       cases hpd
       rw[hEi]at hEj
       cases hEj
       rw[hd,Fj (by rw[ha.size];exact hdn)]
       exact hv
     have hne:d'≠d:=fun ee=>(hpair j p hjk hp).1 (fun ee=>e ee.symm) (by rw[hd,hpd,ee])
     rw[hd,Dp hne]
     obtain⟨q',d'',hd'',hup',_,hEj'⟩:=hE j p hjk hp
     rw[hEj]at hEj'
     cases hEj'
     rw[D0 hlt,aq e]at hl
     exact hup' _ _ _ (hI j p d' q hjk hp hpd hEj hl) hu'
   have h2:=hop a w hu hag
   unfold wpOpIn
   rw[hio]
   dsimp only
   by_cases hw:Region.wanted o (yielded ops a.tmps)=true
   · rw[bh hw]at h2⊢
     exact Lt h2 fun v w'⟨h3,h4⟩=>step v w' h3 h4
   rw[aq hw]at h2⊢
   exact⟨fun _ _=>trivial,step _ _ (Up.refl w) h2⟩
theorem C9{id:Nat}{opsL:List Oper}(k:Nat)(hm:P.follows .mixedOrders=true)(hok:J8 n opsL.toArray k=true)(hT:Gv opsL.toArray k=true)(hA:Dz opsL.toArray=true)(hC:Fv opsL.toArray k=true)(hl:Cq l=true){base:Env}(hb:D7 (R5 (opsL.take k)) l=base)
   (h:HW P n ds opsL.toArray base w [] (opsL.take k) (fun env=>∀w',Up w w'→LW R m P n ds opsL.toArray Q (opsL.drop k) (env++base) w')):CW R m P n ds (.region id opsL.toArray true) Q l w:=by
 intro a ha
 obtain⟨E,hE0,hK,hE⟩:=Wz _ _ h
 subst hb
 have hks:k≤opsL.length:=by
   unfold J8 at hok
   rw[b6]at hok
   simpa using a_ hok.1
 have hlen:(opsL.take k).length=k:=by rw[cc];omega
 rw[hlen]at hK
 refine wpIn_region_any hm (W7 (w0:=w) (base:=D7 (R5 (opsL.take k)) l) hok hT hA hC E hE0 (fun i o hik ho=>hE i o (by rw[dm hik];simpa using ho)) ?_ ?_ _ _ _ _ (by simp) ?_ ?_ ?_ (Up.drew w) ?_ ?_)
 · intro i ph hi
   obtain⟨h1,h2⟩:=Dc hi
   refine⟨fun v w1 w2 hv _=>Gb hl h2 hv,fun j o hj ho hd=>h1 (R6 (by have:=ai (l:=opsL.take k) (i:=j) (by rw[dm hj];simpa using ho);exact this) hd)⟩
 · intro a' w' hu ha'
   exact hK w' hu a' ha'
 · have:(Array.replicate opsL.toArray.size false).toList.countP (· ==false)≤(Array.replicate opsL.toArray.size false).toList.length:=i8
   simpa using this
 · intro j _ _
   rw[bm,ff]
   split<;>rfl
 · intro i o _ hli
   rw[bm,ff]at hli
   split at hli<;>simp at hli
 · exact⟨ha.defers,ha.size,fun i ph hi=>Gb hl (Dc hi).2 (ha.val _ _ (Dc hi).2)⟩
 intro j o d ph _ ho hd _ hlj
 rw[bm,ff]at hlj
 split at hlj<;>simp at hlj
theorem Js{rest:List Oper}{d:Nat}{p:Value→World→Prop}(hp:lk l d=some (.pred p))(h:∀v,p v w→LW R m P n ds ops Q rest ((d,.eq v)::D7 [d] l) w):LW R m P n ds ops Q rest l w:=fun a ha=>
 h _ (ha.val d _ hp) a ⟨ha.defers,ha.size,fun i ph hi=>by
   by_cases e:i=d
   · subst e
     rw[A9]at hi
     cases hi
     rfl
   rw[Be e]at hi
   exact ha.val i ph (Dc hi).2⟩
theorem REv.open{o:Oper}{d:Nat}{p:Value→World→Prop}{Post:Value→World→Prop}(hp:lk l d=some (.pred p))(h:∀v,p v w→REv P n ds ((d,.eq v)::D7 [d] l) w o Post):REv P n ds l w o Post:=fun a ha=>
 h _ (ha.val d _ hp) a ⟨ha.defers,ha.size,fun i ph hi=>by
   by_cases e:i=d
   · subst e
     rw[A9]at hi
     cases hi
     rfl
   rw[Be e]at hi
   exact ha.val i ph (Dc hi).2⟩
theorem HW.r{base done:Env}{w0:World}{o:Oper}{rest:List Oper}{K:Env→Prop}{d:Nat}{p:Value→World→Prop}(hp:∀v w w',p v w→Up w w'→p v w')(hg:o.guard=none)
   (h:∀w,Up w0 w→REv P n ds (Ce (o.looksAt ops) done++base) w o fun v w'=>Up w w'∧p v w')(hd:o.dst=some d)(k:HW P n ds ops base w0 ((d,.pred p)::done) rest K):HW P n ds ops base w0 done (o::rest) K:=
 ⟨.pred p,d,hd,hp,fun a w hu ha=>by
   rw[bh (by simp[Region.wanted,hg])]
   obtain⟨v,w',h1,h2,h3⟩:=h w hu a ha
   exact .inl ⟨v,w',h1,h2,h3⟩,k⟩
theorem Jg{α:Type}{enc:α→Array Value}{base k:Nat}{e:TypeId}{w':World}{v:Value}(h:NewSl w e k enc ([]:List α) v w')(hb:base≤w.heap.size):Up w w'∧∃B,v=.slice (some ⟨B,0,none⟩) 0 0∧OwnS w' base e k enc (.slice (some ⟨B,0,none⟩) 0 0) ([]:List α):=by
 obtain⟨B,cs,rfl,N,hc,_⟩:=h
 refine⟨N.up,B,rfl,by simp,.inr ⟨B,0,cs,rfl,by rw[N.at_];exact hb,N.blk,bl _,a8 _,by simpa using hc,by simp⟩⟩
end
theorem A6{R:Option Nat}{m:Nat}{P:Program}{n:Nat}{ds:List Deferred}{Q:Exit→Go.Act→World→Prop}{l:Env}{w:World}{σ:Type}{c:Code}(I:σ→World→Prop)(Ig:σ→Env)(base:Env)(μ:σ→Nat)(s0:σ)(h0:I s0 w)(hl:Sub l (Ig s0++base))
   (round:∀s w,I s w→CW R m P n ds c (Exit.then (fun a' w'=>∃s',I s' w'∧Ag n ds (Ig s'++base) a' w'∧μ s'<μ s) Q) (Ig s++base) w):CW R m P n ds (.loop c) Q l w:=
 CW.loop I (fun s=>Ig s++base) μ s0 h0 hl round
end Go.Wx
