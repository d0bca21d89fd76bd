import Derived.Test.YtbcnnkfopoiifaaGreatDoorKR117
import Derived.DeepKeys4
namespace Go.Wx
structure Grp where
 t:Int
 c:Int
 r:Int
deriving DecidableEq
def Grp.cells(g:Grp):Array Go.Value:=#[vi g.t,vi g.c,vi g.r]
theorem Grp.one(g:Grp):g.cells.all (·.oneCell')=true:=by simp[Grp.cells,Value.oneCell']
def Grp.ok(g:Grp):Prop:=F8 g.t∧F8 g.c∧F8 g.r
def Ca:Mk.KT Grp where
 vk g:=.agg g.cells
 ok g:=g.ok
 inj {a b} h:=by
   obtain⟨a1,a2,a3⟩:=a
   obtain⟨b1,b2,b3⟩:=b
   simp only[Grp.cells,Value.agg.injEq,Array.mk.injEq,kj,Value.int.injEq,true_and,and_true]at h
   obtain⟨rfl,rfl,rfl⟩:=h
   rfl
def H6(f:Fact):Grp:=⟨f.Tool,f.Chamber,f.Recipe⟩
def Zq(a b:Grp):Bool:=(a.t==b.t)&&((a.c==b.c)&&((a.r==b.r)&&true))
theorem X3(a b:Grp):Zq a b=decide (a=b):=by
 obtain⟨a1,a2,a3⟩:=a
 obtain⟨b1,b2,b3⟩:=b
 unfold Zq
 rw[fy]
 simp
theorem CE(k:Int):(k=1∨k=2∨k=9∨k=10)∨(k≠1∧k≠2∧k≠9∧k≠10):=by omega
def Ka(s:Grp):Grp×Value:=(s,.agg #[])
def Q7(L:List Grp)(s:Grp):List Grp:=if s∈L then L else L++[s]
theorem Q8(L:List Grp):(L.map Ka).map (·.1)=L:=by rw[f5];exact List.map_id _
theorem zB{L:List Grp}{s:Grp}{v:Value}(h:(s,v)∈L.map Ka):s∈L∧v=.agg #[]:=by
 obtain⟨x,hx,e⟩:=aq.1 h
 cases e
 exact⟨hx,rfl⟩
theorem cZ(L:List Grp)(s:Grp):Mk.Hn (L.map Ka) s (.agg #[])=(Q7 L s).map Ka:=by
 unfold Mk.Hn Q7
 rw[Q8]
 split
 · rw[f5]
   refine fu fun x _=>?_
   show(if x=s then(s,Value.agg #[])else Ka x)=Ka x
   split
   · rename_i e;rw[e];rfl
   rfl
 rw[cq];rfl
theorem PEv.zC{P:Program}{n:Nat}{ds:List Deferred}{l:Env}{w:World}{d:Option Tmp}{ty:TypeId}{ps:String}{af:Array Edge}{g:Option (Nat×Bool)}{T K E:TypeId}{mo x:Operand}{b:Nat}{s:Grp}{L:List Grp}(hT:P.underlying T=some (.map K E))(hK:Ca.Law P K)(hko:s.ok)(hz:∀w,(zeroValue E).run P w=.ok (.agg #[]) w)(hm:Val l mo (.map (some b)))(hx:Val l x (.agg s.cells))(h:Mk.IMap Ca w b (L.map Ka)):
   PEv P n ds l w ⟨d,.lookup T mo x true,ty,ps,af,g⟩ (.tuple #[.agg #[],.bool (decide (s∈L))]):=by
 by_cases hs:s∈L
 · rw[a8 hs]
   exact Mk.PEv.Ek (Q:=Ca) (ok:=true) (v:=.agg #[]) hT hK hko hm hx h (aq.2 ⟨s,hs,rfl⟩)
 rw[bg hs]
 exact Mk.PEv.Ha (Q:=Ca) (ok:=true) hT hK hko hz hm hx h (by rw[Q8];exact hs)
def EC(bf:Nat)(bc:Array Go.Value)(bd:Nat)(n:Int):Array Go.Value:=#[.map (some bf)]++bc++#[.map (some bd),vi n]
theorem Pu{bf bd:Nat}{bc:Array Go.Value}{n:Int}(h:bc.size=11):(EC bf bc bd n)[12]?=some (.map (some bd)):=by
 unfold EC
 rw[ie (by simp[h])]
 simp[h]
theorem lH{bf bd:Nat}{bc:Array Go.Value}{n:Int}(h:bc.size=11):(EC bf bc bd n)[13]?=some (vi n):=by
 unfold EC
 rw[ie (by simp[h])]
 simp[h]
theorem Ng{bf bd:Nat}{bc:Array Go.Value}{n:Int}:(EC bf bc bd n)[0]?=some (.map (some bf)):=by
 unfold EC
 rw[gg (by simp;omega),gg (by simp)]
 rfl
theorem lI{bf bd:Nat}{bc:Array Go.Value}{n:Int}(h:bc.size=11):(EC bf bc bd n).size=14:=by unfold EC;simp[h]
theorem Q9{w:World}{E bf bd:Nat}{bc:Array Go.Value}{n:Int}{T:TypeId}(hE:Blk w E (EC bf bc bd n) T):AggAt w E 1 bc:=fun j v hv=>by
 have hj:=(bh.1 hv).1
 refine hE.cell (o:=1+j) ?_
 unfold EC
 rw[gg (by simp;omega),ie (by simp)]
 simpa using hv
theorem tL{w:World}{E bf bd:Nat}{bc:Array Go.Value}{n:Int}{T:TypeId}(hE:Blk w E (EC bf bc bd n) T){j:Nat}{v:Go.Value}(hv:bc[j]?=some v):w.cell? ⟨E,1+j,none⟩=some v:=Q9 hE j v hv
theorem OB{w:World}{b:Nat}{kv:List (Grp×Go.Value)}(h:Mk.IMap Ca w b kv){p:Grp×Go.Value}(hp:p∈kv):p.1.ok:=by
 obtain⟨es,clock,h1,h2,h3,ho⟩:=h
 exact ho p hp
theorem dA(L:List Grp)(s v:Grp):v∈Q7 L s↔v∈L∨v=s:=by
 unfold Q7
 split
 · rename_i h
   exact⟨.inl,fun e=>e.elim id fun e=>e▸h⟩
 rw[be,aa]
theorem tM{T St V:List Grp}{p:Grp→Bool}{k:Grp}(h:∀g,g∈T↔g∈St∨(g∈V∧p g=true))(hp:p k=true):∀g,g∈Q7 T k↔g∈St∨(g∈V++[k]∧p g=true):=fun g=>by
 rw[dA,h g,be,aa]
 constructor
 · rintro((h1|h1)|rfl)
   · exact .inl h1
   · exact .inr ⟨.inl h1.1,h1.2⟩
   exact .inr ⟨.inr rfl,hp⟩
 rintro(h1|⟨h1|rfl,h2⟩)
 · exact .inl (.inl h1)
 · exact .inl (.inr ⟨h1,h2⟩)
 exact .inr rfl
theorem zD{T St V:List Grp}{p:Grp→Bool}{k:Grp}(h:∀g,g∈T↔g∈St∨(g∈V∧p g=true))(hp:p k=false):∀g,g∈T↔g∈St∨(g∈V++[k]∧p g=true):=fun g=>by
 rw[h g,be,aa]
 constructor
 · rintro(h1|h1)
   · exact .inl h1
   exact .inr ⟨.inl h1.1,h1.2⟩
 rintro(h1|⟨h1|rfl,h2⟩)
 · exact .inl h1
 · exact .inr ⟨h1,h2⟩
 rw[hp]at h2;cases h2
def zF(kb:Base)(f:Fact)(g:Grp):Bool:=(Ec kb f.ID).any fun p=>decide (g=H6 p)
theorem tN{kb:Base}{f p:Fact}(h:Ec kb f.ID=some p)(g:Grp):zF kb f g=decide (g=H6 p):=by unfold zF;rw[h];rfl
theorem KX{kb:Base}{f:Fact}(h:Ec kb f.ID=none)(g:Grp):zF kb f g=false:=by unfold zF;rw[h];rfl
theorem oC{St:List Grp}{p:Grp→Bool}{K:List Grp}(h:∀g,p g=false):∀g,g∈St↔g∈St∨(g∈K∧p g=true):=fun g=>⟨.inl,fun k=>k.elim id fun e=>by rw[h g]at e;cases e.2⟩
def Nh(m:Dw)(f:Fact):Bool:= !decide (Bm f=[])&&(match Fi m (Bm f)with
 |none=> !f.Gone
 |some old=>Dz f old&&(!old.Gone|| !f.Gone))
theorem iC{f:Fact}(h:Bm f≠[]):¬(Bm f=[]∨100000<f.Day):=by
 have:=nD (Hh h)
 exact fun e=>e.elim h oQ
theorem Lp{m:Dw}{f:Fact}(h:Bm f=[]):Nh m f=false∧Cy 100000 m f=m:=⟨by unfold Nh;rw[a8 h];rfl,N6 (.inl h)⟩
theorem Zr{m:Dw}{f old:Fact}(h:Bm f≠[])(hg:Fi m (Bm f)=some old)(hp:Dz f old=false):Nh m f=false∧Cy 100000 m f=m:=⟨by unfold Nh;rw[hg];simp[hp],Uv (iC h) hg hp⟩
theorem Ra{m:Dw}{f:Fact}(h:Bm f≠[])(hg:Fi m (Bm f)=none):Nh m f= !f.Gone∧Cy 100000 m f=Kg m (Bm f) f:=⟨by unfold Nh;rw[hg,bg h];rfl,Ut (iC h) hg⟩
theorem H7{m:Dw}{f old:Fact}(h:Bm f≠[])(hg:Fi m (Bm f)=some old)(hp:Dz f old=true):Nh m f=(!old.Gone|| !f.Gone)∧Cy 100000 m f=Kg m (Bm f) f:=⟨by unfold Nh;rw[hg,bg h];simp[hp],Uu (iC h) hg hp⟩
def EP(f:Fact):Array Go.Value:=#[.agg f.cells]
open Go.RowKit Go.MapKept in
theorem zG{P:Program}{n:Nat}{ds:List Deferred}{l:Env}{w:World}{d:Option Tmp}{ty:TypeId}{ps:String}{af:Array Edge}{g:Option (Nat×Bool)}{T:TypeId}{f:FuncId}{fn:Func}{x:Operand}{ts:Array TypeId}{b:Nat}{kv:List (List UInt8×Go.Value)}(hf:P.funcs[f]?=some fn)(h1:(fn.name== "runtime.NumGoroutine")=false)(h2:fn.body.isNone=true)(h3:Extern.findNext fn=none)(h4:Extern.find fn=some Extern.MapsClone.clone)(hx:Val l x (.iface T (.map (some b))))(h:Ms.IMap w b kv):
   REv P n ds l w ⟨d,.call { callee:=.value (.func f),args:=#[x],argTypes:=ts },ty,ps,af,g⟩ (fun v w'=>∃b',v=.iface T (.map (some b'))∧Ms.IMap w' b' kv∧Up w w'∧b'=w.heap.size∧w'.heap.size=b'+1):=fun a ha=>by
 obtain⟨es,clock,hb,hs,he⟩:=h
 refine⟨.iface T (.map (some w.heap.size)),w.alloc (.map es clock),?_,_,rfl,⟨es,clock,(heap_alloc w _).1,hs,he⟩,Up.alloc w _,rfl,by simp⟩
 have e2:(Extern.MapsClone.clone #[.iface T (.map (some b))]).run P w=.ok (.iface T (.map (some w.heap.size))) (w.alloc (.map es clock)):=by
   have e:Extern.MapsClone.clone #[.iface T (.map (some b))]=(getObj b >>= fun o=>match o with
       |.map entries clock=>(newObj (.map entries clock) >>= fun n=>pure (.iface T (.map (some n))))
       |_=>stuck "maps.clone: a map expected"):=rfl
   rw[e]
   simp[MapKept.run_getObj_map hb,Result.andThen,go_sem]
 have e:a.eval (.func f)=.func (.func f) #[] #[]:=rfl
 have e1:(#[x]:Array Operand).map a.eval=#[.iface T (.map (some b))]:=by simp[ha.ev hx]
 simp only[execOp,resolve,e,e1,Deferred.ofValue,Sem.run_bind,Sem.run_pure,Result.andThen,invoke]
 have:=run_callFunc_extern (args:=#[.iface T (.map (some b))]) (w:=w) hf h1 h2 h3 h4
 rw[show(#[]++#[Value.iface T (.map (some b))]++#[]:Array Value)=#[.iface T (.map (some b))]from rfl,this,e2]
 rfl
theorem zH{l m:List Fact}{d d':Int}(h:∀f,M6 l d f↔M6 m d' f):Dj l d=Dj m d':=by
 have hp:(Fp (Bj l d)).Perm (Fp (Bj m d')):=Ir (Jl l d) (Jl m d') fun x=>by rw[Ll,Ll,h]
 have hm:=(M7 m d').ok
 have hn:=Hi m d'
 unfold Dj Xj
 rw[Dl hm hn hp [1] 0 cQ,Dl hm hn hp [2] 1 cQ,Dl hm hn hp [3] 2 cQ,Dl hm hn hp [4] 3 cQ,Dl hm hn hp [5] 4 cQ,Dl hm hn hp [6] 5 cQ,Dl hm hn hp [7] 6 cQ,Dl hm hn hp [8] 7 cQ,Dl hm hn hp [9] 8 cQ,Dl hm hn hp [10] 9 cQ,Dl hm hn hp [11] 10 (by decide)]
theorem X4{ks all:List Fact}{d:Int}(h:ks.Perm (Fp (Bj all d))):Dj ks d=Dj all d:=by
 refine zH fun f=>?_
 have hm:∀g,g∈ks↔M6 all d g:=fun g=>by rw[h.mem_iff,Ll]
 unfold M6
 rw[hm f]
 constructor
 · exact fun e=>e.1
 intro e
 have e0:M6 all d f:=e
 exact⟨e0,e0.2.1,e0.2.2.1,fun g hg hd=>e0.2.2.2 g ((hm g).1 hg).1 hd⟩
theorem BaseB.mono{a b:Nat}{bc:Array Go.Value}(h:BaseB b bc)(hl:a≤b):BaseB a bc:=fun j v hv i hi=>bb hl (h j v hv i hi)
def Td(p:Grp→Bool)(kv:List (Grp×Go.Value))(V:List Grp):List (Grp×Go.Value):=kv.filter fun q=>p q.1|| !decide (q.1∈V)
theorem tO(p:Grp→Bool)(kv:List (Grp×Go.Value)):Td p kv []=kv:=f9.2 fun k _=>by simp
theorem tP{p:Grp→Bool}(kv:List (Grp×Go.Value))(V:List Grp){k:Grp}(h:p k=true):Td p kv (V++[k])=Td p kv V:=by
 refine h_ fun x _=>?_
 by_cases e:x.1=k
 · rw[e,h];rfl
 simp[e]
theorem zI{p:Grp→Bool}(kv:List (Grp×Go.Value))(V:List Grp){k:Grp}(h:p k=false):Td p kv (V++[k])=(Td p kv V).filter fun q=> !decide (q.1=k):=by
 rw[Td,Td,ei]
 refine h_ fun x _=>?_
 by_cases e:x.1=k
 · simp[e,h]
 simp[e]
theorem zJ{p:Grp→Bool}(V:List Grp){k:Grp}(h:p k=true):(V++[k]).filter p=V.filter p++[k]:=by rw[cj];simp[h]
theorem EQ{p:Grp→Bool}(V:List Grp){k:Grp}(h:p k=false):(V++[k]).filter p=V.filter p:=by rw[cj];simp[h]
theorem iD{p:Grp→Bool}{kv:List (Grp×Go.Value)}{V:List Grp}{k:Grp}{u:Go.Value}(h:(k,u)∈Td p kv V)(hf:k∉V.filter p):k∉V∧(k,u)∈kv:=by
 obtain⟨h1,h2⟩:=bx.1 h
 refine⟨fun hV=>?_,h1⟩
 cases hi:p k with
 |true=>exact hf (bx.2 ⟨hV,hi⟩)
 |false=>dsimp only at h2;rw[hi]at h2;simp[hV]at h2
theorem tR{p:Grp→Bool}{kv:List (Grp×Go.Value)}{V:List Grp}(h:(V.filter p).Perm ((Td p kv V).map (·.1))):Td p kv V=kv.filter fun q=>p q.1:=by
 refine h_ fun q hq=>?_
 cases hi:p q.1 with
 |true=>rfl
 |false=>
   cases hc:decide (q.1∈V)with
   |true=>rfl
   |false=>
     exfalso
     have h1:q∈Td p kv V:=bx.2 ⟨hq,by rw[hc];simp⟩
     have:=(bx.1 (h.symm.subset (aq.2 ⟨q,h1,rfl⟩))).2
     rw[hi]at this;cases this
theorem tS{S0:Nat→Prop}{w0 w:World}{As:List Asr}(h:Wx.Sep S0 w0 w As){i j:Nat}(hij:i<j){A B:Asr}(hA:As[i]?=some A)(hB:As[j]?=some B)(b:Nat)(ha:A.foot b):¬B.foot b:=Hr h.apart hij hA hB b ha
theorem tT{S:Nat→Prop}{w w':World}{b:Nat}{kv:List (Grp×Go.Value)}(h:Mk.IMap Ca w b kv)(f:Fr S w w')(hn:¬S b):Mk.IMap Ca w' b kv:=(Mk.Be Ca b kv).keep w w' h (fun i(hi:i=b)hl=>f.block i hl (by rw[hi];exact hn)) f.size
structure DE where
 g:Grp
 v:Go.Value
 L:List DP
def DE.kv(e:DE):Grp×Go.Value:=(e.g,e.v)
def ER(g:Grp):DE:=⟨g,.slice none 0 0,[]⟩
def Pv(D:List DE)(g:Grp):List DE:=if g∈D.map (·.g)then D else D++[ER g]
theorem Rb(D:List DE):(D.map DE.kv).map (·.1)=D.map (·.g):=by rw[f5];rfl
theorem oD{D:List DE}{g:Grp}(h:g∉D.map (·.g)):Mk.Hn (D.map DE.kv) g (.slice none 0 0)=(Pv D g).map DE.kv:=by
 unfold Mk.Hn Pv
 rw[Rb,ae h,ae h,cq]
 rfl
theorem tU{D:List DE}{g:Grp}(h:g∈D.map (·.g)):Pv D g=D:=ak h
def C6(l:List Fact):List Grp:=l.foldl (fun L p=>Q7 L (H6 p)) []
def Rc(D:List DE)(l:List Fact):List DE:=l.foldl (fun D p=>Pv D (H6 p)) D
theorem Mg{l:List Fact}{i:Nat}{x:Fact}(h:l[i]?=some x):C6 (l.take (i+1))=Q7 (C6 (l.take i)) (H6 x):=by
 unfold C6
 rw[cn,h,ez,ew]
 rfl
theorem X5{D:List DE}{l:List Fact}{i:Nat}{x:Fact}(h:l[i]?=some x):Rc D (l.take (i+1))=Pv (Rc D (l.take i)) (H6 x):=by
 unfold Rc
 rw[cn,h,ez,ew]
 rfl
def Re(D:List DE)(l:List Fact):List DE:=(Rc D l).filter fun e=>decide (e.g∈C6 l)
theorem zL(D:List DE)(l:List Fact):((Rc D l).map DE.kv).filter (fun q=>decide (q.1∈C6 l))=(Re D l).map DE.kv:=by
 unfold Re
 rw[List.filter_map]
 rfl
theorem Sl.kept{α:Type}{w w':World}{v:Go.Value}{k:Nat}{enc:α→Array Go.Value}{xs:List α}(h:Sl w v k enc xs)(hk:∀i,v.ownBlock=some i→xs≠[]→i<w.heap.size→w'.heap[i]?=w.heap[i]?):Sl w' v k enc xs:=by
 obtain⟨ad,c,rfl,he⟩:=h
 refine⟨ad,c,rfl,fun i x hx=>?_⟩
 obtain⟨B,o,e,ha⟩:=he i x hx
 refine⟨B,o,e,fun j v hv=>?_⟩
 have hc:=ha j v hv
 have hl:B<w.heap.size:=block_lt_of_cell hc
 have hb:=hk B (by rw[e];rfl) (fun e=>by rw[e]at hx;simp at hx) hl
 unfold World.cell? at hc⊢
 rw[hb];exact hc
def lJ(bc:Array Go.Value)(b:Base)(i:Nat):Prop:=∃(j:Nat)(v:Go.Value),bc[j]?=some v∧v.ownBlock=some i∧C2 b j≠[]
theorem BaseC.kept{w w':World}{bc:Array Go.Value}{b:Base}(h:BaseC w bc b)(hk:∀i,lJ bc b i→i<w.heap.size→w'.heap[i]?=w.heap[i]?):BaseC w' bc b:=by
 obtain⟨v0,v1,v2,v3,v4,v5,v6,v7,v8,v9,v10,rfl,h0,h1,h2,h3,h4,h5,h6,h7,h8,h9,h10⟩:=h
 exact⟨v0,v1,v2,v3,v4,v5,v6,v7,v8,v9,v10,rfl,Sl.kept h0 fun i hi hn=>hk i ⟨0,v0,rfl,hi,hn⟩,Sl.kept h1 fun i hi hn=>hk i ⟨1,v1,rfl,hi,hn⟩,Sl.kept h2 fun i hi hn=>hk i ⟨2,v2,rfl,hi,hn⟩,Sl.kept h3 fun i hi hn=>hk i ⟨3,v3,rfl,hi,hn⟩,Sl.kept h4 fun i hi hn=>hk i ⟨4,v4,rfl,hi,hn⟩,Sl.kept h5 fun i hi hn=>hk i ⟨5,v5,rfl,hi,hn⟩,Sl.kept h6 fun i hi hn=>hk i ⟨6,v6,rfl,hi,hn⟩,Sl.kept h7 fun i hi hn=>hk i ⟨7,v7,rfl,hi,hn⟩,Sl.kept h8 fun i hi hn=>hk i ⟨8,v8,rfl,hi,hn⟩,Sl.kept h9 fun i hi hn=>hk i ⟨9,v9,rfl,hi,hn⟩,Sl.kept h10 fun i hi hn=>hk i ⟨10,v10,rfl,hi,hn⟩⟩
theorem BaseC.OQ{w:World}{bc:Array Go.Value}{b:Base}(h:BaseC w bc b):∀i,lJ bc b i→i<w.heap.size:=by
 rintro i ⟨j,v,hv,hi,hn⟩
 by_cases hj:j<11
 · obtain⟨v',hv',ad,c,rfl,he⟩:=h.at_ hj
   rw[hv]at hv'
   cases hv'
   obtain⟨x,hx⟩:∃x,(C2 b j)[0]?=some x:=⟨_,b_ (jy.2 hn)⟩
   obtain⟨B,o,e,ha⟩:=he 0 x hx
   subst e
   have hB:B=i:=kh hi
   have hc:=ha 0 (vi x.Kind) rfl
   have:=block_lt_of_cell hc
   exact hB▸this
 exact absurd (N8 b hj) hn
def Hc(bc:Array Go.Value)(b:Base):Asr:=⟨lJ bc b,fun w=>BaseC w bc b,fun _ _ h k _=>h.kept k,fun _ h=>h.OQ⟩
theorem oE{bc:Array Go.Value}{b:Base}{base:Nat}(h:BaseB base bc):∀i,(Hc bc b).foot i→base≤i:=fun i⟨j,v,hv,hi,_⟩=>h j v hv i hi
theorem KY{P:Program}{n:Nat}{ds:List Deferred}{l:Env}{w:World}{d:Option Tmp}{ty:TypeId}{ps:String}{af:Array Edge}{g:Option (Nat×Bool)}{T K E:TypeId}{x:Operand}{b:Nat}{kv:List (List UInt8×Go.Value)}(hT:P.underlying T=some (.map K E))(hx:Val l x (.map (some b)))(h:Ms.IMap w b kv):PEv P n ds l w ⟨d,.call { callee:=.builtin .len,args:=#[x],argTypes:=#[T] },ty,ps,af,g⟩ (vi (kv.length:Int)):=fun a w' ha hu=>by
 obtain⟨es,clock,hb,hs,he⟩:=h.up hu
 have hl:es.size=kv.length:=by
   have:=a_ List.length he
   simpa using this
 rw[BigFrame.execOp_builtin,BigFrame.builtin_len]
 refine Cp ?_
 simp[Builtin.len_,run_underlying hT,MapKept.run_getObj_map hb,Sem.run_bind,Result.andThen,goInt,ha.ev hx,hl]
theorem lK{P:Program}{n:Nat}{ds:List Deferred}{l:Env}{w:World}{d:Option Tmp}{ty:TypeId}{ps:String}{af:Array Edge}{g:Option (Nat×Bool)}{T T':TypeId}{x:Operand}{v:Go.Value}{b:Bool}{pa ra:Array TypeId}{va:Bool}(hT:P.underlying T=some (.func pa ra va))(hx:Val l x v)(hv:(v=.nilFunc∧b=false)∨∃f,v=.func f #[] #[]∧b=true):PEv P n ds l w ⟨d,.binOp .neq T x (.const .nilFunc) T',ty,ps,af,g⟩ (.bool b):=fun a w' ha _=>by
 refine Cp ?_
 have e1:a.eval (.const .nilFunc)=.nilFunc:=rfl
 rw[ha.ev hx,e1,Sem.run_bind]
 have:(eqGuard .neq T x (.const .nilFunc) v .nilFunc).run P w'=.ok () w':=by
   unfold eqGuard
   rcases hv with⟨rfl,rfl⟩|⟨f,rfl,rfl⟩<;>rfl
 rw[this]
 show(binOp .neq T v .nilFunc).run P w'=_
 have h0:∀m:Nat,(Op.equalIn (m+1) T v .nilFunc).run P w'=.ok (!b) w':=fun m=>by
   rcases hv with⟨rfl,rfl⟩|⟨f,rfl,rfl⟩<;>simp[Op.equalIn,run_underlying hT]
 have h1:=h0 9999
 rcases hv with⟨rfl,rfl⟩|⟨f,rfl,rfl⟩
 · simp only[binOp]
   simp[show Op.equal T Go.Value.nilFunc Go.Value.nilFunc=Op.equalIn (9999+1) T Go.Value.nilFunc Go.Value.nilFunc from rfl,h1]
 simp only[binOp]
 simp[show Op.equal T (Go.Value.func f #[] #[]) Go.Value.nilFunc=Op.equalIn (9999+1) T (Go.Value.func f #[] #[]) Go.Value.nilFunc from rfl,h1]
theorem dB{T:TypeId}{w w':World}{b:Nat}{kv:List (List UInt8×Go.Value)}(h:Ms.IMap w b kv)(u:KeepT T w w'):Ms.IMap w' b kv:=by
 obtain⟨es,clock,h1,h2⟩:=h
 exact⟨es,clock,u.obj _ _ h1 (fun _ _ e=>by cases e),h2⟩
def oF(k:List UInt8):List UInt8×Go.Value:=(k,.agg #[])
def oG(L:List (List UInt8))(k:List UInt8):List (List UInt8):=if k∈L then L else L++[k]
theorem dC(L:List (List UInt8)):(L.map oF).map (·.1)=L:=by rw[f5];exact List.map_id _
theorem tV(L:List (List UInt8))(k:List UInt8):Ms.Hn (L.map oF) k (.agg #[])=(oG L k).map oF:=by
 unfold Ms.Hn oG
 rw[dC]
 split
 · rw[f5]
   refine fu fun x _=>?_
   show(if x=k then(k,Go.Value.agg #[])else oF x)=oF x
   split
   · rename_i e;rw[e];rfl
   rfl
 rw[cq];rfl
def Kv(m:Dw)(k:List UInt8):Fact:=(Fi m k).getD Dc
def Fl(kb:Base)(f:Fact)(g:Grp):Bool:= !f.Gone&&(if f.Kind=1 then decide (g=H6 f)else if f.Kind=2 then zF kb f g else if f.Kind=9 then(decide (g.t=f.Tool)&&decide (g.c=f.Chamber))else if f.Kind=10 then decide (g.r=f.Recipe)else false)
def Wm(s:Dw×List (List UInt8))(f:Fact):Dw×List (List UInt8):=(Cy 100000 s.1 f,if Nh s.1 f=true then oG s.2 (Bm f)else s.2)
def I5(m:Dw)(l:List Fact):Dw×List (List UInt8):=l.foldl Wm (m,[])
theorem X6{m:Dw}{l:List Fact}{i:Nat}{x:Fact}(h:l[i]?=some x):I5 m (l.take (i+1))=Wm (I5 m (l.take i)) x:=by
 unfold I5
 rw[cn,h,ez,ew]
 rfl
theorem Vj{s:Dw×List (List UInt8)}{f:Fact}(h:Nh s.1 f=true):Wm s f=(Cy 100000 s.1 f,oG s.2 (Bm f)):=by unfold Wm;rw[ak h]
theorem Zt{s:Dw×List (List UInt8)}{f:Fact}(h:Nh s.1 f=false):Wm s f=(Cy 100000 s.1 f,s.2):=by unfold Wm;rw[h];rfl
theorem Vk(all l:List Fact):(I5 (Bj all 100000) l).1=Bj (all++l) 100000:=by
 have key:∀(l:List Fact)(s:Dw×List (List UInt8)),(l.foldl Wm s).1=l.foldl (Cy 100000) s.1:=by
   intro l
   induction l with
   |nil=>exact fun _=>rfl
   |cons x l ih=>exact fun s=>ih _
 unfold I5 Bj
 rw[key,ew]
theorem ES{f:Fact}(h:Bw f=true):(H6 f).ok:=by
 obtain⟨h1,h2,_⟩:=It h
 have key:∀o,E6 o=true→F8 (Fk f o):=fun o ho=>by
   by_cases e:∃x∈fieldsOf f.Kind,x.off=o
   · obtain⟨x,hx,rfl⟩:=e
     have:=h2 x hx
     unfold Mm at this
     unfold F8
     omega
   rw[h1 o ho fun x hx e'=>e ⟨x,hx,e'⟩]
   exact⟨by decide,by decide⟩
 exact⟨key 11 cQ,key 12 cQ,key 14 cQ⟩
theorem X7(D:List DE)(g v:Grp):v∈(Pv D g).map (·.g)↔v∈D.map (·.g)∨v=g:=by
 unfold Pv
 split
 · rename_i h
   exact⟨.inl,fun e=>e.elim id fun e=>e▸h⟩
 rw[cq,be]
 exact or_congr km aa
theorem iE{D:List DE}(h:(D.map (·.g)).Nodup)(g:Grp):((Pv D g).map (·.g)).Nodup:=by
 unfold Pv
 split
 · exact h
 rename_i hg
 rw[cq]
 exact dl.2 ⟨h,by simp,fun a ha c hc=>by simp[ER]at hc;subst hc;exact fun e=>hg (e▸ha)⟩
theorem oH(l:List Fact)(D:List DE)(v:Grp):v∈(Rc D l).map (·.g)↔v∈D.map (·.g)∨∃p∈l,H6 p=v:=by
 induction l generalizing D with
 |nil=>exact⟨.inl,fun e=>e.elim id fun⟨_,h,_⟩=>(by cases h)⟩
 |cons x l ih=>
   have:=ih (Pv D (H6 x))
   rw[X7]at this
   show v∈(Rc (Pv D (H6 x)) l).map (·.g)↔_
   rw[this,or_assoc]
   refine or_congr km ⟨?_,?_⟩
   · rintro(rfl|⟨p,hp,e⟩)
     · exact⟨x,bp,rfl⟩
     exact⟨p,bw _ hp,e⟩
   rintro⟨p,hp,e⟩
   rcases ap.1 hp with rfl|hp
   · exact .inl e.symm
   exact .inr ⟨p,hp,e⟩
theorem Lq(l:List Fact)(v:Grp):v∈C6 l↔∃p∈l,H6 p=v:=by
 have key:∀(l:List Fact)(L:List Grp),v∈l.foldl (fun L p=>Q7 L (H6 p)) L↔v∈L∨∃p∈l,H6 p=v:=by
   intro l
   induction l with
   |nil=>exact fun L=>⟨.inl,fun e=>e.elim id fun⟨_,h,_⟩=>(by cases h)⟩
   |cons x l ih=>
     intro L
     rw[gl,ih,dA,or_assoc]
     refine or_congr km ⟨?_,?_⟩
     · rintro(rfl|⟨p,hp,e⟩)
       · exact⟨x,bp,rfl⟩
       exact⟨p,bw _ hp,e⟩
     rintro⟨p,hp,e⟩
     rcases ap.1 hp with rfl|hp
     · exact .inl e.symm
     exact .inr ⟨p,hp,e⟩
 unfold C6
 rw[key]
 exact⟨fun e=>e.elim (fun h=>by cases h) id,.inr⟩
theorem Oj(l:List Fact)(D:List DE)(v:Grp):v∈(Re D l).map (·.g)↔∃p∈l,H6 p=v:=by
 rw[←Lq]
 constructor
 · intro h
   obtain⟨e,he,rfl⟩:=aq.1 h
   exact bj (bx.1 he).2
 intro h
 obtain⟨e,he,rfl⟩:=aq.1 ((oH l D v).2 (.inr ((Lq l v).1 h)))
 exact aq.2 ⟨e,bx.2 ⟨he,a8 h⟩,rfl⟩
theorem Vl{D:List DE}(l:List Fact)(h:(D.map (·.g)).Nodup):((Re D l).map (·.g)).Nodup:=by
 have key:∀(l:List Fact)(D:List DE),(D.map (·.g)).Nodup→((Rc D l).map (·.g)).Nodup:=by
   intro l
   induction l with
   |nil=>exact fun _ h=>h
   |cons x l ih=>exact fun D h=>ih _ (iE h _)
 exact(key l D h).sublist (fh.map _)
theorem ET{St:List Grp}{l:List Fact}{D:List DE}(hn:St.Nodup)(h:∀g∈St,g∈(Re D l).map (·.g)):St.length≤l.length:=by
 have:=hn.length_le_of_subset (l₂:=l.map H6) fun g hg=>by
   obtain⟨p,hp,e⟩:=(Oj l D g).1 (h g hg)
   exact aq.2 ⟨p,hp,e⟩
 rwa [cd]at this
def V0(m0 m1:Dw)(kb:Base)(k:List UInt8)(g:Grp):Bool:= !Cw (Kv m0 k) (Kv m1 k)&&(Fl kb (Kv m0 k) g||Fl kb (Kv m1 k) g)
theorem EU{bf bd:Nat}{bc bc':Array Go.Value}{n:Int}(h:bc.size=11)(h':bc'.size=11):Nt (EC bf bc bd n) 1 bc'.toList=EC bf bc' bd n:=by
 obtain⟨v0,v1,v2,v3,v4,v5,v6,v7,v8,v9,v10,e⟩:=Jj (vs:=bc.toList) (by simpa using h)
 obtain⟨u0,u1,u2,u3,u4,u5,u6,u7,u8,u9,u10,e'⟩:=Jj (vs:=bc'.toList) (by simpa using h')
 obtain⟨l⟩:=bc
 obtain⟨l'⟩:=bc'
 dsimp only at e e'
 subst e
 subst e'
 rfl
theorem zN{bf bd:Nat}{bc:Array Go.Value}{n x:Int}(h:bc.size=11):(EC bf bc bd n).setIfInBounds 13 (vi x)=EC bf bc bd x:=by
 obtain⟨v0,v1,v2,v3,v4,v5,v6,v7,v8,v9,v10,e⟩:=Jj (vs:=bc.toList) (by simpa using h)
 obtain⟨l⟩:=bc
 subst e
 rfl
theorem zO{al:List Fact}{d:Int}:∀p∈(Dj al d).Processes,(H6 p).ok:=fun p hp=>by
 have h:=(F3 (j:=0) cQ).1 hp
 exact ES (G5 h.1)
theorem zP{w w':World}{a b:Nat}{ca cb:Array Go.Value}{T:TypeId}(u:Up w w')(ha:Blk w' a ca T)(hb:Blk w' b cb T)(la:w.heap.size≤a)(lb:w.heap.size≤b)(hne:a≠b):Wx.Sep no w w' [Ch a ca T,Ch b cb T]:=
 ⟨u.fr _,fun A hA=>by
   simp only[ap,ba,b8]at hA
   rcases hA with rfl|rfl
   · exact⟨ha,fun i(e:i=a)=>.inr oQ⟩
   exact⟨hb,fun i(e:i=b)=>.inr oQ⟩,j0.2 fun i(e1:i=a)(e2:i=b)=>hne (e1.symm.trans e2)⟩
theorem oI{D:List DE}{j:Nat}{e:DE}(hj:D[j]?=some e)(hn:(D.map (·.g)).Nodup)(v:Go.Value)(L:List DP):Mk.Hn (D.map DE.kv) e.g v=(D.set j ⟨e.g,v,L⟩).map DE.kv:=by
 have hm:e.g∈(D.map DE.kv).map (·.1):=by rw[Rb];exact aq.2 ⟨e,am hj,rfl⟩
 unfold Mk.Hn
 rw[ak hm]
 apply ck
 intro i
 rw[cg,cg,cg,f7]
 have hjl:=(ai.1 hj).1
 by_cases e1:j=i
 · subst e1
   rw[ak rfl,ak hjl,hj]
   show some (if e.g=e.g then(e.g,v)else e.kv)=some (e.g,v)
   rw[ak rfl]
 rw[ae e1]
 cases hi:D[i]? with
 |none=>rfl
 |some f=>
   show some (if f.g=e.g then(e.g,v)else f.kv)=some f.kv
   rw[ae fun eg=>?_]
   have h1:(D.map (·.g))[i]?=some f.g:=by rw[cg,hi];rfl
   have h2:(D.map (·.g))[j]?=some e.g:=by rw[cg,hj];rfl
   exact e1 ((j4 (by simpa using hjl) hn).1 (by rw[h1,h2,eg]))
theorem zS{T:List (List UInt8)}(h:(((T.map oF).length:Nat):Int)=0):T=[]:=dx (by rw[cd]at h;omega)
theorem zV{L:List (List UInt8)}{s:List UInt8}{v:Go.Value}(h:(s,v)∈L.map oF):s∈L:=by
 obtain⟨x,hx,e⟩:=aq.1 h
 cases e
 exact hx
theorem Tn{P:List UInt8→Grp→Bool}{S S1 K:List Grp}{V:List (List UInt8)}{k:List UInt8}(h:∀g,g∈S↔g∈K∧∃k∈V,P k g=true)(h1:∀g,g∈S1↔g∈S∨(g∈K∧P k g=true)):∀g,g∈S1↔g∈K∧∃k'∈V++[k],P k' g=true:=fun g=>by
 rw[h1 g,h g]
 constructor
 · rintro(⟨hk,q,hq,hp⟩|⟨hk,hp⟩)
   · exact⟨hk,q,dw _ hq,hp⟩
   exact⟨hk,k,fk _ (aa.2 rfl),hp⟩
 rintro⟨hk,q,hq,hp⟩
 rcases be.1 hq with hq|hq
 · exact .inl ⟨hk,q,hq,hp⟩
 rw[aa.1 hq]at hp;exact .inr ⟨hk,hp⟩
theorem tW{kb:Base}{a b:Fact}{S S1 K:List Grp}(h:∀g,g∈S1↔g∈S∨(g∈K∧(([a,b].take 2).any fun f=>Fl kb f g)=true))(hne:Cw a b=false):∀g,g∈S1↔g∈S∨(g∈K∧(!Cw a b&&(Fl kb a g||Fl kb b g))=true):=fun g=>by
 rw[h g,hne]
 simp
theorem Sa{kb:Base}{fs:List Fact}{S S1 S2 K:List Grp}{j:Nat}{x:Fact}(hx:fs[j]?=some x)(h:∀g,g∈S1↔g∈S∨(g∈K∧((fs.take j).any fun f=>Fl kb f g)=true))(h2:∀g,g∈S2↔g∈S1∨(g∈K∧Fl kb x g=true)):∀g,g∈S2↔g∈S∨(g∈K∧((fs.take (j+1)).any fun f=>Fl kb f g)=true):=fun g=>by
 rw[h2 g,h g,cn,hx,ju]
 simp only[ez,List.any_cons,List.any_nil,Bool.or_false,f8]
 constructor
 · rintro((h|⟨h,h'⟩)|⟨h,h'⟩)
   · exact .inl h
   · exact .inr ⟨h,.inl h'⟩
   exact .inr ⟨h,.inr h'⟩
 rintro(h|⟨h,h'|h'⟩)
 · exact .inl (.inl h)
 · exact .inl (.inr ⟨h,h'⟩)
 exact .inr ⟨h,h'⟩
theorem Ol{S K:List Grp}{p:Grp→Bool}(h:∀g,p g=false):∀g,g∈S↔g∈S∨(g∈K∧p g=true):=fun g=>⟨.inl,fun e=>e.elim id fun⟨_,e⟩=>by rw[h g]at e;cases e⟩
theorem Om{kb:Base}{f:Fact}(h:f.Gone=true)(g:Grp):Fl kb f g=false:=by unfold Fl;rw[h];rfl
def dk(kb:Base)(e:DE):Prop:=e.L.map DP.dec=Gt kb e.g.t e.g.c e.g.r
theorem EV{kb:Base}{D D1:List DE}{V:List Grp}{j:Nat}{e:DE}{v:Go.Value}{L:List DP}(h:∀e∈D,(e.g∈V→dk kb e)∧(e.g∉V→e∈D1))(hj:D[j]?=some e)(hn:(D.map (·.g)).Nodup)(hL:L.map DP.dec=Gt kb e.g.t e.g.c e.g.r):∀f∈D.set j ⟨e.g,v,L⟩,(f.g∈V++[e.g]→dk kb f)∧(f.g∉V++[e.g]→f∈D1):=fun f hf=>by
 have hjl:=(ai.1 hj).1
 obtain⟨i,hi⟩:=i7 hf
 rw[f7]at hi
 by_cases e1:j=i
 · subst e1
   rw[ak rfl,ak hjl]at hi
   cases hi
   exact⟨fun _=>hL,fun h=>absurd (fk _ (aa.2 rfl)) h⟩
 rw[ae e1]at hi
 have hfD:=am hi
 have hfe:f.g≠e.g:=fun eg=>by
   have h1:(D.map (·.g))[i]?=some f.g:=by rw[cg,hi];rfl
   have h2:(D.map (·.g))[j]?=some e.g:=by rw[cg,hj];rfl
   exact e1 ((j4 (by simpa using hjl) hn).1 (by rw[h1,h2,eg]))
 obtain⟨a,b⟩:=h f hfD
 refine⟨fun hm=>?_,fun hm=>b fun hV=>hm (dw _ hV)⟩
 rcases be.1 hm with hm|hm
 · exact a hm
 exact absurd (aa.1 hm) hfe
theorem zX{D D1:List DE}{k:Grp}(h:D.map (·.g)=D1.map (·.g))(hk:k∈D1.map (·.g)):∃(j:Nat)(e:DE),D[j]?=some e∧e.g=k:=by
 rw[←h]at hk
 obtain⟨e,he,hg⟩:=aq.1 hk
 obtain⟨j,hj⟩:=i7 he
 exact⟨j,e,hj,hg⟩
theorem zY{D:List DE}{j:Nat}{e:DE}{v:Go.Value}{L:List DP}(hj:D[j]?=some e):(D.set j ⟨e.g,v,L⟩).map (·.g)=D.map (·.g):=by
 rw[List.map_set]
 have h2:(D.map (·.g))[j]?=some e.g:=by rw[cg,hj];rfl
 obtain⟨hl,e2⟩:=ai.1 h2
 show(D.map (·.g)).set j e.g=_
 rw[←e2]
 exact List.set_getElem_self hl
theorem tX{f g:Fact}(h:Cw f g=true):f=g:=by
 obtain⟨h1,h2⟩:=kO h
 simp only[Cw,aw,beq_iff_eq]at h
 obtain⟨a0,_,a2,a3,a4,_⟩:=h
 exact Qw a0 a2 a3 a4 (U6 h2) h1
theorem Kw{f g:Fact}:Cw f g=true↔f=g:=⟨tX,fun e=>by rw[e];exact J7 g⟩
theorem oJ{l:List Fact}{d:Int}{x:Fact}(h:x∈(Dj l d).Processes):Ec (Dj l d) x.ID=some x:=by
 unfold Ec
 cases e:(Dj l d).Processes.find? (fun f=>decide (f.ID=x.ID))with
 |none=>
   have:=ge.1 e x h
   simp at this
 |some y=>
   have h2:=gz e
   have h2:y.ID=x.ID:=bj h2
   have hy:=(F3 (j:=0) cQ).1 (show y∈C2 (Dj l d) 0 from d_ e)
   have hx:=(F3 (j:=0) cQ).1 (show x∈C2 (Dj l d) 0 from h)
   rw[lC hy.1 hx.1 (L9 (k:=1) (G5 hy.1) (G5 hx.1) hy.2.2 hx.2.2 (by show(y.ID,(0:Int))=(x.ID,0);rw[h2]))]
theorem dD{m:Dw}(hn:(m.map (·.1)).Nodup){p q:List UInt8×Fact}(hp:p∈m)(hq:q∈m)(e:p.1=q.1):p=q:=by
 obtain⟨i,hi⟩:=i7 hp
 obtain⟨j,hj⟩:=i7 hq
 have h1:(m.map (·.1))[i]?=some p.1:=by rw[cg,hi];rfl
 have h2:(m.map (·.1))[j]?=some q.1:=by rw[cg,hj];rfl
 have hil:=(ai.1 h1).1
 have:i=j:=(j4 hil hn).1 (h1.trans ((a_ some e).trans h2.symm))
 subst this
 rw[hi]at hj
 exact kh hj
theorem tY(m:Dw)(k:List UInt8)(f:Fact)(k':List UInt8):Fi (Kg m k f) k'=if k'=k then some f else Fi m k':=by
 have key:∀m:Dw,(m.map fun p=>if p.1=k then(k,f)else p).find? (fun p=>p.1==k')=if k'=k then(if k∈m.map (·.1)then some (k,f)else none)else m.find? fun p=>p.1==k':=by
   intro m
   induction m with
   |nil=>simp
   |cons p m ih=>
     rw[cy,js,js,ih]
     by_cases h1:k'=k
     · subst h1
       by_cases h2:p.1=k'
       · simp[h2]
       have h5:(p.1==k')=false:=by simpa using h2
       simp only[ae h2,h5]
       have h6:¬k'=p.1:=fun e=>h2 e.symm
       simp only[cy,ap,h6,false_or,if_true]
     by_cases h2:p.1=k
     · have h3:(k==k')=false:=by simpa using fun e=>h1 (kp e)
       simp[h1,h2,h3]
     simp[h1,h2]
 unfold Fi Kg
 by_cases hk:k∈m.map (·.1)
 · rw[ak hk,key m]
   split
   · rfl
   rfl
 rw[ae hk,j5]
 by_cases h1:k'=k
 · subst h1
   have:(m.find? fun p=>p.1==k')=none:=ge.2 fun p hp e=>hk (aq.2 ⟨p,hp,by simpa using e⟩)
   rw[this];simp
 have h3:(k==k')=false:=by simpa using fun e=>h1 (kp e)
 rw[ae h1]
 simp[h3]
def inv(a:Option Fact):Prop:=∀x,a=some x→x.Gone=true
def sameV(a b:Option Fact):Prop:=a=b∨(inv a∧inv b)
theorem sameV.trans{a b c:Option Fact}(h:sameV a b)(k:sameV b c):sameV a c:=by
 rcases h with rfl|⟨h1,h2⟩
 · exact k
 rcases k with rfl|⟨_,k2⟩
 · exact .inr ⟨h1,h2⟩
 exact .inr ⟨h1,k2⟩
theorem X8{m:Dw}{f:Fact}{k:List UInt8}(h:Nh m f=false∨k≠Bm f):sameV (Fi m k) (Fi (Cy 100000 m f) k):=by
 by_cases hk0:Bm f=[]
 · rw[(Lp (m:=m) hk0).2];exact .inl rfl
 have hset:∀{m':Dw},Cy 100000 m f=m'→m'=Kg m (Bm f) f→(Nh m f=false→inv (Fi m (Bm f))∧f.Gone=true)→sameV (Fi m k) (Fi m' k):=fun{m'}e1 e2 h2=>by
   rw[e2,tY]
   by_cases e:k=Bm f
   · rw[ak e,e]
     obtain⟨h3,h4⟩:=h2 (h.resolve_right fun h=>h e)
     exact .inr ⟨h3,fun x hx=>by cases hx;exact h4⟩
   rw[ae e];exact .inl rfl
 cases hg:Fi m (Bm f)with
 |none=>
   obtain⟨h1,h2⟩:=Ra hk0 hg
   refine hset rfl h2 fun hc=>⟨fun x hx=>(by rw[hg]at hx;cases hx),?_⟩
   rw[h1]at hc;simpa using hc
 |some old=>
   cases hp:Dz f old with
   |false=>rw[(Zr hk0 hg hp).2];exact .inl rfl
   |true=>
     obtain⟨h1,h2⟩:=H7 hk0 hg hp
     refine hset rfl h2 fun hc=>?_
     rw[h1,df]at hc
     exact⟨fun x hx=>by rw[hg]at hx;cases hx;simpa using hc.1,by simpa using hc.2⟩
theorem tZ(L:List (List UInt8))(s v:List UInt8):v∈oG L s↔v∈L∨v=s:=by
 unfold oG
 split
 · rename_i h
   exact⟨.inl,fun e=>e.elim id fun e=>e▸h⟩
 rw[be,aa]
theorem X9(m:Dw)(l:List Fact):∀k,k∉(I5 m l).2→sameV (Fi m k) (Fi (I5 m l).1 k):=by
 have key:∀(l:List Fact)(s:Dw×List (List UInt8)),(∀k,k∉s.2→sameV (Fi m k) (Fi s.1 k))→∀k,k∉(l.foldl Wm s).2→sameV (Fi m k) (Fi (l.foldl Wm s).1 k):=by
   intro l
   induction l with
   |nil=>exact fun _ h=>h
   |cons x l ih=>
     intro s h
     refine ih (Wm s x) fun k hk=>?_
     cases hc:Nh s.1 x with
     |false=>
       rw[Zt hc]at hk⊢
       exact(h k hk).trans (X8 (.inl hc))
     |true=>
       rw[Vj hc]at hk⊢
       dsimp only at hk⊢
       rw[tZ,not_or]at hk
       exact(h k hk.1).trans (X8 (.inr hk.2))
 exact key l (m,[]) fun _ _=>.inl rfl
theorem dE{kb:Base}{m:Dw}{k:List UInt8}(h:inv (Fi m k))(g:Grp):Fl kb (Kv m k) g=false:=by
 unfold Kv
 cases hg:Fi m k with
 |none=>rfl
 |some x=>exact Om (h x hg) g
theorem KZ{all l:List Fact}{kb:Base}{g:Grp}:(∃k∈(I5 (Bj all 100000) l).2,V0 (Bj all 100000) (Bj (all++l) 100000) kb k g=true)↔∃k,V0 (Bj all 100000) (Bj (all++l) 100000) kb k g=true:=by
 refine⟨fun⟨k,_,h⟩=>⟨k,h⟩,fun⟨k,h⟩=>⟨k,?_,h⟩⟩
 by_cases hk:k∈(I5 (Bj all 100000) l).2
 · exact hk
 exfalso
 have:=X9 (Bj all 100000) l k hk
 rw[Vk]at this
 unfold V0 at h
 rcases this with e|⟨h1,h2⟩
 · have e2:Kv (Bj all 100000) k=Kv (Bj (all++l) 100000) k:=by unfold Kv;rw[e]
   rw[e2,J7]at h
   cases h
 rw[dE h1,dE h2]at h
 simp at h
theorem On{l:List Fact}{d:Int}{x:Fact}:M6 l d x↔Fi (Bj l d) (Bm x)=some x:=by
 have hn:=Hi l d
 have ho:=(M7 l d).ok
 rw[←Ll,Ii ho]
 constructor
 · intro h
   cases hg:Fi (Bj l d) (Bm x)with
   |none=>exact absurd (by rw[Jq];exact aq.2 ⟨_,h,rfl⟩) (Lj hg)
   |some y=>
     have h1:=N5 hg
     obtain⟨p,hp,e⟩:=aq.1 h1
     have e1:p.1=Bm x:=by injection e
     have hxy:p=(Bm x,x):=by
       exact dD hn hp h e1
     have hy:y=x:=by
       unfold Fi at hg
       obtain⟨q,hq,hqy⟩:=fp.1 hg
       have hq1:=d_ hq
       have hq2:(q.1==Bm x)=true:=gz (p:=fun p:List UInt8×Fact=>p.1==Bm x) hq
       have:=dD hn hq1 h (by simpa using hq2)
       rw[←hqy,this]
     rw[hy]
 intro h
 unfold Fi at h
 obtain⟨q,hq,hqy⟩:=fp.1 h
 have hq1:=d_ hq
 have hq2:(q.1==Bm x)=true:=gz (p:=fun p:List UInt8×Fact=>p.1==Bm x) hq
 have:q=(Bm x,x):=Prod.ext (by simpa using hq2) hqy
 rw[←this];exact hq1
theorem lL{a b:List Fact}{d:Int}{x:Fact}(hx:M6 a d x)(hg:x.Gone=false)(h:∀k,sameV (Fi (Bj a d) k) (Fi (Bj b d) k)):M6 b d x:=by
 have h1:=On.1 hx
 rw[On]
 rcases h (Bm x)with e|⟨h2,_⟩
 · rw[←e];exact h1
 have:=h2 x h1
 rw[hg]at this;cases this
theorem sameV.symm{a b:Option Fact}(h:sameV a b):sameV b a:=h.elim (fun e=>.inl e.symm) fun⟨h1,h2⟩=>.inr ⟨h2,h1⟩
theorem zZ{l:List Fact}{d:Int}{j:Nat}(hj:j<11):∀x∈C2 (Dj l d) j,∀y∈C2 (Dj l d) j,Ff ((j+1:Nat):Int) x=Ff ((j+1:Nat):Int) y→x=y:=fun x hx y hy e=>by
 have hx:=(F3 hj).1 hx
 have hy:=(F3 hj).1 hy
 exact lC hx.1 hy.1 (L9 (G5 hx.1) (G5 hy.1) hx.2.2 hy.2.2 e)
theorem dG{a b:List Fact}{d:Int}{j:Nat}(hj:j<11){p q:Fact→Bool}(h:∀x,(x∈C2 (Dj a d) j∧p x=true)↔(x∈C2 (Dj b d) j∧q x=true)):(C2 (Dj a d) j).filter p=(C2 (Dj b d) j).filter q:=by
 refine nW ((Zi a d hj).sublist fh) ((Zi b d hj).sublist fh) (Ir ((R7 a d hj).sublist fh) ((R7 b d hj).sublist fh) fun x=>by rw[bx,bx];exact h x) fun x hx y hy e=>zZ hj x (bx.1 hx).1 y (bx.1 hy).1 e
theorem AA{a b:List Fact}{d:Int}(h:∀k,sameV (Fi (Bj a d) k) (Fi (Bj b d) k)){j:Nat}(hj:j<11):C2 (Dj a d) j=C2 (Dj b d) j:=by
 have:=dG (a:=a) (b:=b) (d:=d) hj (p:=fun _=>true) (q:=fun _=>true) fun x=>by
   rw[F3 hj,F3 hj]
   exact⟨fun⟨⟨h1,h2,h3⟩,_⟩=>⟨⟨lL h1 h2 h,h2,h3⟩,rfl⟩,fun⟨⟨h1,h2,h3⟩,_⟩=>⟨⟨lL h1 h2 fun k=>(h k).symm,h2,h3⟩,rfl⟩⟩
 rwa [f9.2 (fun _ _=>rfl),f9.2 (fun _ _=>rfl)]at this
theorem AB{a b:List Fact}{d:Int}(h:∀k,sameV (Fi (Bj a d) k) (Fi (Bj b d) k)):Dj a d=Dj b d:=by
 have k:=fun j(hj:j<11)=>AA h hj
 have e:∀x y:Base,(∀j,j<11→C2 x j=C2 y j)→x=y:=fun x y hxy=>by
   obtain⟨x0,x1,x2,x3,x4,x5,x6,x7,x8,x9,x10⟩:=x
   obtain⟨y0,y1,y2,y3,y4,y5,y6,y7,y8,y9,y10⟩:=y
   have g0:x0=y0:=hxy 0 cQ
   have g1:x1=y1:=hxy 1 cQ
   have g2:x2=y2:=hxy 2 cQ
   have g3:x3=y3:=hxy 3 cQ
   have g4:x4=y4:=hxy 4 cQ
   have g5:x5=y5:=hxy 5 cQ
   have g6:x6=y6:=hxy 6 cQ
   have g7:x7=y7:=hxy 7 cQ
   have g8:x8=y8:=hxy 8 cQ
   have g9:x9=y9:=hxy 9 cQ
   have g10:x10=y10:=hxy 10 cQ
   rw[g0,g1,g2,g3,g4,g5,g6,g7,g8,g9,g10]
 exact e _ _ k
theorem oK{all l:List Fact}(h:(I5 (Bj all 100000) l).2=[]):Dj all 100000=Dj (all++l) 100000:=AB fun k=>by
 have:=X9 (Bj all 100000) l k (by rw[h];exact fun e=>by cases e)
 rwa [Vk]at this
theorem uA{a b:List Fact}{kb:Base}{x:Fact}{g:Grp}(hx:M6 a 100000 x)(hn:¬M6 b 100000 x)(hc:Fl kb x g=true):V0 (Bj a 100000) (Bj b 100000) kb (Bm x) g=true:=by
 have e1:Kv (Bj a 100000) (Bm x)=x:=by unfold Kv;rw[On.1 hx];rfl
 have e2:Cw x (Kv (Bj b 100000) (Bm x))=false:=by
   cases he:Cw x (Kv (Bj b 100000) (Bm x))with
   |false=>rfl
   |true=>
     exfalso
     have e:=Kw.1 he
     unfold Kv at e
     cases hg:Fi (Bj b 100000) (Bm x)with
     |some y=>rw[hg]at e;exact hn (On.2 (by rw[hg,e];rfl))
     |none=>
       rw[hg]at e
       have h1:=Dq (G5 hx)
       rw[e]at h1
       exact absurd h1.1 cQ
 unfold V0
 rw[e1,e2,hc]
 rfl
theorem uB(x y:Fact):Cw x y=Cw y x:=by rw[fy,Kw,Kw];exact eq_comm
theorem dH(m m':Dw)(kb:Base)(k:List UInt8)(g:Grp):V0 m m' kb k g=V0 m' m kb k g:=by
 unfold V0
 rw[uB,Bool.or_comm]
theorem uC{g:Grp}{x:Fact}:p3 g.t g.c g.r x=true↔H6 x=g:=by
 obtain⟨t,c,r⟩:=g
 unfold p3 H6
 simp[and_assoc]
theorem Mh{a b:List Fact}{kb:Base}{g:Grp}(hst:¬∃k,V0 (Bj a 100000) (Bj b 100000) kb k g=true){j:Nat}(hj:j<11){p:Fact→Bool}(hp:∀x,x.Kind=((j+1:Nat):Int)→x.Gone=false→p x=true→Fl kb x g=true):(C2 (Dj a 100000) j).filter p=(C2 (Dj b 100000) j).filter p:=by
 refine dG hj fun x=>?_
 rw[F3 hj,F3 hj]
 constructor
 · rintro⟨⟨h1,h2,h3⟩,h4⟩
   refine⟨⟨?_,h2,h3⟩,h4⟩
   by_cases hb:M6 b 100000 x
   · exact hb
   exact absurd ⟨_,uA h1 hb (hp x h3 h2 h4)⟩ hst
 rintro⟨⟨h1,h2,h3⟩,h4⟩
 refine⟨⟨?_,h2,h3⟩,h4⟩
 by_cases hb:M6 a 100000 x
 · exact hb
 exact absurd ⟨_,by rw[dH];exact uA h1 hb (hp x h3 h2 h4)⟩ hst
theorem Lr{kb:Base}{x:Fact}{g:Grp}(hg:x.Gone=false):(x.Kind=1→H6 x=g→Fl kb x g=true)∧(x.Kind=2→zF kb x g=true→Fl kb x g=true)∧(x.Kind=9→I3 g.t g.c x=true→Fl kb x g=true)∧(x.Kind=10→x.Recipe=g.r→Fl kb x g=true):=by
 unfold Fl
 rw[hg]
 refine⟨fun h e=>?_,fun h e=>?_,fun h e=>?_,fun h e=>?_⟩
 · rw[ak h,a8 e.symm];rfl
 · rw[ae oQ,ak h,e];rfl
 · rw[ae oQ,ae oQ,ak h]
   unfold I3 at e
   simp only[aw,fi]at e
   rw[a8 e.1.symm,a8 e.2.symm];rfl
 rw[ae oQ,ae oQ,ae oQ,ak h,a8 e.symm];rfl
theorem oL{a b:List Fact}{g:Grp}(hst:¬∃k,V0 (Bj a 100000) (Bj b 100000) (Dj b 100000) k g=true):Gt (Dj a 100000) g.t g.c g.r=Gt (Dj b 100000) g.t g.c g.r:=by
 have hP:(Dj a 100000).Processes.filter (p3 g.t g.c g.r)=(Dj b 100000).Processes.filter (p3 g.t g.c g.r):=Mh hst (j:=0) cQ fun x hk hg hp=>(Lr hg).1 hk (uC.1 hp)
 have hR:(Dj a 100000).Resets.filter (I3 g.t g.c)=(Dj b 100000).Resets.filter (I3 g.t g.c):=Mh hst (j:=8) cQ fun x hk hg hp=>(Lr hg).2.2.1 hk hp
 have hT:(Dj a 100000).Targets.filter (fun f=>decide (f.Recipe=g.r))=(Dj b 100000).Targets.filter (fun f=>decide (f.Recipe=g.r)):=Mh hst (j:=9) cQ fun x hk hg hp=>(Lr hg).2.2.2 hk (bj hp)
 have hM:(Dj a 100000).Measures.filter (fun m=>FN ((Dj b 100000).Processes.filter (p3 g.t g.c g.r)) m.ID)=(Dj b 100000).Measures.filter (fun m=>FN ((Dj b 100000).Processes.filter (p3 g.t g.c g.r)) m.ID):=Mh hst (j:=1) cQ fun x hk hg hp=>by
   refine(Lr hg).2.1 hk ?_
   unfold FN at hp
   obtain⟨y,hy⟩:=jl.1 hp
   have hy1:=d_ hy
   have hy2:y.ID=x.ID:=bj (gz (p:=fun z:Fact=>decide (z.ID=x.ID)) hy)
   obtain⟨hy3,hy4⟩:=bx.1 hy1
   have:=oJ hy3
   rw[hy2]at this
   rw[tN this,a8 (uC.1 hy4).symm]
 rw[←X1 (Dj a 100000),←X1 (Dj b 100000)]
 unfold tB
 rw[hP,hR,hT,hM]
theorem iF{a b:List Fact}{p:Fact}(hp:p∈(Dj b 100000).Processes)(hn:∀q∈(Dj a 100000).Processes,H6 q≠H6 p):∃k,V0 (Bj a 100000) (Bj b 100000) (Dj b 100000) k (H6 p)=true:=by
 have h:=(F3 (j:=0) cQ).1 hp
 refine⟨Bm p,?_⟩
 rw[dH]
 refine uA h.1 (fun ha=>?_) ((Lr h.2.1).1 h.2.2 rfl)
 have:p∈(Dj a 100000).Processes:=(F3 (j:=0) cQ).2 ⟨ha,h.2⟩
 exact hn p this rfl
end Go.Wx
namespace Go.Proofs.YtbcnnkfopoiifaaGreatDoor
open Go.Proofs.Tryz
open Go.Wx Go.RowKit
theorem uD:laidOutB prog=true:=by kernel_rfl
theorem EW:(80:TypeId)<Tryz.prog.types.size:=bj kQ
theorem EX:Tryz.prog.keyType 80=true:=by kernel_rfl
theorem AD:3≤Tryz.prog.types.size:=bj kQ
theorem dJ:Tryz.prog.cellsOf 80=3:=by kernel_rfl
theorem dK:Tryz.prog.cellsOf 3=1:=by kernel_rfl
theorem iG{i:Int}(h:F8 i):(Lit.int .i64 i).wf=true:=by
 obtain⟨h1,h2⟩:=h
 have e1:IntKind.i64.min= -9223372036854775808:=by decide
 have e2:IntKind.i64.max=9223372036854775807:=by decide
 show(decide (IntKind.i64.min≤i)&&decide (i≤IntKind.i64.max))=true
 rw[e1,e2,a8 h1,a8 h2]
 rfl
theorem uE(s:Grp)(h:s.ok):∃l,keyOf prog 80 (Ca.vk s)=some l:=by
 obtain⟨l,r,p⟩:=s
 obtain⟨h1,h2,h3⟩:=h
 have e1:=iG h1
 have e2:=iG h2
 have e3:=iG h3
 obtain⟨m,hm⟩:∃m,Tryz.prog.types.size+1=m+4:=⟨Tryz.prog.types.size-3,by have:=AD;omega⟩
 unfold keyOf
 simp only[mq]
 rw[ak (by simp[EX,Value.formed,dJ,Ca,Grp.cells]),hm]
 simp[Program.keyLits,dJ,dK,Ca,Grp.cells,Value.cells,e1,e2,e3]
 try rw[ak (fun i hi=>match i,hi with|0,_=>by simp|1,_=>by simp|2,_=>by simp)]
 try exact⟨_,rfl⟩
theorem La:Ca.Law prog 80:=Mk.KT.Law.of (deep_law_laid uD (m:=3) oQ EW kQ (by rw[mq])) uE
set_option maxRecDepth 4000 in
theorem iH(a b:Grp)(w:World):(Op.equalIn 10000 80 (.agg a.cells) (.agg b.cells)).run prog w=.ok (decide (a=b)) w:=by
 have hf:Tryz.prog.underlying 80=some (.struct (Tryz.prog.fieldsOf 80)):=by rw[Program.fieldsOf,mq]
 rw[run_equalIn_agg w 9999 80 _ _ hf stoodInHeld80,←X3]
 have h:(Op.eqFields 9999 a.cells b.cells (Tryz.prog.fieldsOf 80).toList).run prog w=.ok (Zq a b) w:=by
   rw[Program.fieldsOf,mq]
   dsimp only
   iterate 3 (refine Rn cQ ly rfl rfl (run_equalIn_int w 9998 _ _ _ _ _ lh) ?_)
   rfl
 exact h
theorem lM(f:Fact)(w:World):Ret prog 57 #[.agg f.cells] w fun r w'=>r=.agg (H6 f).cells∧Up w w':=by
 obtain⟨w0,rfl,hS⟩:=W0 w
 refine cT 10 func57 rfl (Af (Ao (.bA rfl) rfl ?_))
 rintro _ w1 ⟨B1,rfl,NB1⟩
 replace hS:=hS.Bn NB1
 refine Ao (.Bi m6) rfl ?_
 rintro _ w2 ⟨B2,rfl,NB2⟩
 replace hS:=hS.Bn NB2
 refine Ar (Aa (I (.fB 11 rfl) (I (.lb rfl (hS.b0.An rfl)) (I (.fB 12 rfl) (I (.lb rfl (hS.b0.An rfl)) (I (.fB 14 rfl) (I (.lb rfl (hS.b0.An rfl)) (I (.build (cs:=(H6 f).cells) mq m6 Ov (.ct rfl (.ct rfl (.cu rfl))) rfl) (Bh (.A5 sizeOf80 rfl (.t rfl) (.t rfl) (Grp.one _) hS.b1 rfl) ?_)))))))))
 intro w3 Nw3
 replace hS:=hS.Co 1 rfl Nw3
 refine Ai (Aj (Dy rfl rfl isAgg80 sizeOf80 rfl (hS.b1.agg) ⟨_,rfl,?_⟩))
 exact⟨rfl,hS.Cj⟩
theorem uF(g:Grp)(Bf:Nat)(f:Fact)(w:World)(hF:Blk w Bf f.cells 51):Ret prog 125 #[.agg g.cells,.pointer (some ⟨Bf,0,none⟩)] w fun r w'=>r=.bool (decide (g=H6 f))∧Up w w':=by
 have hW:=Up.refl w
 refine cT 8 func125 rfl (Af (Ao (.bA rfl) rfl ?_))
 rintro _ w1 ⟨B2,rfl,NB2⟩
 replace hF:=hF.up NB2.up
 replace hW:=hW.up NB2.up
 have hB2:=NB2.blk
 refine J (Ar (Cg kQ kQ rfl rfl (Am (.lc rfl (hB2.agg)) (Am (.lc rfl (hF.agg)) (HW.c (fun a w _ ha=>Bq (.cu rfl) (GP) a ha) rfl rfl (fun w hu=>lM f w) (Am (.Yl eqGuardType80 (iH _ _) (.t rfl) (.t rfl)) (Am (.assign (.t rfl)) (HW.nil ?_))))))))
 intro w2 uw2
 replace hF:=hF.up uw2
 replace hW:=hW.up uw2
 replace hB2:=hB2.up uw2
 refine Ab (Aj (KW.q ?_))
 exact⟨rfl,hW⟩
theorem uG(g:Grp)(Bf:Nat)(f:Fact)(w:World)(hF:Blk w Bf f.cells 51):Ret prog 126 #[.agg g.cells,.pointer (some ⟨Bf,0,none⟩)] w fun r w'=>r=.bool (decide (g.t=f.Tool)&&decide (g.c=f.Chamber))∧Up w w':=by
 have hW:=Up.refl w
 refine cT 16 func126 rfl (Af (Ao (.bA rfl) rfl ?_))
 rintro _ w1 ⟨B2,rfl,NB2⟩
 replace hF:=hF.up NB2.up
 replace hW:=hW.up NB2.up
 have hB2:=NB2.blk
 refine J (Ar (Aa (I (.fB 0 rfl) (I (.lb rfl (hB2.An rfl)) (I (.fB 11 rfl) (I (.lb rfl (hF.An rfl)) (I (.eql (.t rfl) (.t rfl)) (Ac rfl (LW.gr rfl (fun hc=>PEv.fB 1 rfl) (LW.gr rfl (fun hc=>PEv.load ly vQ (hB2.An rfl)) (LW.gr rfl (fun hc=>PEv.fB 12 rfl) (LW.gr rfl (fun hc=>PEv.load ly vQ (hF.An rfl)) (LW.gr rfl (fun hc=>PEv.eql vQ vQ) (I (.pa rfl (fun hp=>(by exact .cond rfl (by simp_all)))) (LW.A rfl (Ai (Aj (KW.q ?_))))))))))))))))))
 exact⟨rfl,hW⟩
theorem uH(g:Grp)(Bf:Nat)(f:Fact)(w:World)(hF:Blk w Bf f.cells 51):Ret prog 127 #[.agg g.cells,.pointer (some ⟨Bf,0,none⟩)] w fun r w'=>r=.bool (decide (g.r=f.Recipe))∧Up w w':=by
 have hW:=Up.refl w
 refine cT 9 func127 rfl (Af (Ao (.bA rfl) rfl ?_))
 rintro _ w1 ⟨B2,rfl,NB2⟩
 replace hF:=hF.up NB2.up
 replace hW:=hW.up NB2.up
 have hB2:=NB2.blk
 refine J (Ar (Aa (I (.fB 2 rfl) (I (.lb rfl (hB2.An rfl)) (I (.fB 14 rfl) (I (.lb rfl (hF.An rfl)) (I (.eql (.t rfl) (.t rfl)) (LW.A rfl (Ai (Aj (KW.q ?_)))))))))))
 exact⟨rfl,hW⟩
def uI(k:Int):Go.Value:=if k=1 then .func (.func 60) #[] #[]else if k=2 then .func (.func 61) #[] #[]else if k=9 then .func (.func 62) #[] #[]else if k=10 then .func (.func 63) #[] #[]else .nilFunc
theorem lN{k:Int}(h:k≠1∧k≠2∧k≠9∧k≠10):uI k=.nilFunc:=by
 obtain⟨h1,h2,h3,h4⟩:=h
 unfold uI
 rw[ae h1,ae h2,ae h3,ae h4]
theorem iI(k:Int)(w:World):Ret prog 32 #[vi k] w fun r w'=>r=uI k∧Up w w':=by
 have hW:=Up.refl w
 refine cT 7 func32 rfl (Af (J (Ar (Aa (LW.r REv.makeMap rfl rfl rfl rfl ?_)))))
 rintro _ w1 ⟨B3,rfl,MB3,uB3,eB3,zB3⟩
 replace hW:=hW.up uB3
 have hM3:=MB3
 refine Bh (.insert (k:=1) (v:=.func (.func 60) #[] #[]) ml lh (.t rfl) (.const _) (.func _) hM3) ?_
 rintro w2 ⟨Mw2,Kw2,zw2⟩
 replace hM3:IMap w2 B3 [(1,.func (.func 60) #[] #[])]:=Mw2
 replace hW:=hW.sto Kw2 oQ
 refine Bh (.insert (k:=2) (v:=.func (.func 61) #[] #[]) ml lh (.t rfl) (.const _) (.func _) hM3) ?_
 rintro w3 ⟨Mw3,Kw3,zw3⟩
 replace hM3:IMap w3 B3 [(1,.func (.func 60) #[] #[]),(2,.func (.func 61) #[] #[])]:=Mw3
 replace hW:=hW.sto Kw3 oQ
 refine Bh (.insert (k:=9) (v:=.func (.func 62) #[] #[]) ml lh (.t rfl) (.const _) (.func _) hM3) ?_
 rintro w4 ⟨Mw4,Kw4,zw4⟩
 replace hM3:IMap w4 B3 [(1,.func (.func 60) #[] #[]),(2,.func (.func 61) #[] #[]),(9,.func (.func 62) #[] #[])]:=Mw4
 replace hW:=hW.sto Kw4 oQ
 refine Bh (.insert (k:=10) (v:=.func (.func 63) #[] #[]) ml lh (.t rfl) (.const _) (.func _) hM3) ?_
 rintro w5 ⟨Mw5,Kw5,zw5⟩
 replace hM3:IMap w5 B3 [(1,.func (.func 60) #[] #[]),(2,.func (.func 61) #[] #[]),(9,.func (.func 62) #[] #[]),(10,.func (.func 63) #[] #[])]:=Mw5
 replace hW:=hW.sto Kw5 oQ
 refine Ac rfl (Ac rfl ?_)
 rcases CE k with(rfl|rfl|rfl|rfl)|hkn
 ·skip
  refine I (.Ek (ok:=false) (v:=.func (.func 60) #[] #[]) ml lh (.t rfl) (.t rfl) hM3 (by simp)) (LW.A rfl (Ai (Aj (KW.q ?_))))
  exact⟨rfl,hW⟩
 ·skip
  refine I (.Ek (ok:=false) (v:=.func (.func 61) #[] #[]) ml lh (.t rfl) (.t rfl) hM3 (by simp)) (LW.A rfl (Ai (Aj (KW.q ?_))))
  exact⟨rfl,hW⟩
 ·skip
  refine I (.Ek (ok:=false) (v:=.func (.func 62) #[] #[]) ml lh (.t rfl) (.t rfl) hM3 (by simp)) (LW.A rfl (Ai (Aj (KW.q ?_))))
  exact⟨rfl,hW⟩
 ·skip
  refine I (.Ek (ok:=false) (v:=.func (.func 63) #[] #[]) ml lh (.t rfl) (.t rfl) hM3 (by simp)) (LW.A rfl (Ai (Aj (KW.q ?_))))
  exact⟨rfl,hW⟩
 skip
 refine I (.Ha (ok:=false) ml lh zeroValue77 (.t rfl) (.t rfl) hM3 (by obtain⟨h1,h2,h3,h4⟩:=hkn;simp only[cy,f4,ap,j9,b8];omega)) (LW.A rfl (Ai (Aj (KW.q ?_))))
 exact⟨(lN hkn).symm,hW⟩
theorem Vm(cf:Nat)(lb:Array Go.Value)(p:Grp→Bool)(hen:∀args w,(callFunc cf args).run prog w=.ok (.enter cf args) w)(E bf bd bs:Nat)(bc:Array Go.Value)(n:Int)(kv:List (Grp×Go.Value))(St:List Grp)(w:World)(hE:Blk w E (EC bf bc bd n) 62)(hbc:bc.size=11)(hEn:¬Cl [Mk.Be Ca bd kv,Mk.Be Ca bs (List.map Ka St)] E)(hS0:Wx.Sep (Cl [Mk.Be Ca bd kv,Mk.Be Ca bs (List.map Ka St)]) w w [Mk.Be Ca bd kv,Mk.Be Ca bs (List.map Ka St)])(hp:∀W,Fr (Cl [Mk.Be Ca bd kv,Mk.Be Ca bs (List.map Ka St)]) w W→∀g,Ret prog cf (#[.agg (Grp.cells g)]++lb) W fun r W'=>r=.bool (p g)∧Up W W'):Ret prog 124 #[.agg #[.pointer (some ⟨E,0,none⟩),.map (some bs)],.func (.func cf) #[] lb] w fun r w'=>∃St',r=.tuple #[]∧Wx.Sep (Cl [Mk.Be Ca bd kv,Mk.Be Ca bs (List.map Ka St)]) w w' [Mk.Be Ca bd kv,Mk.Be Ca bs (List.map Ka St')]∧∀g,g∈St'↔g∈St∨(g∈kv.map (·.1)∧p g=true):=by
 obtain⟨w0,rfl,_⟩:=W0 w
 have hS:=hS0
 refine cT 22 func124 rfl (Af (Ao (.bA rfl) rfl ?_))
 rintro _ w1 ⟨B2,rfl,NB2⟩
 replace hS:=hS.Bn NB2
 refine Ar (Aa (I (.fB 0 rfl) (I (.lb rfl (hS.b2.An rfl)) (I (.nc rfl) (I (.fB 12 rfl) (I (.lb rfl ((hE.Xb hS.fr hEn).cell (Pu hbc))) (Ao (Mk.REv.range (Q:=Ca) mr (.t rfl) (hS.get 0 rfl)) rfl ?_)))))))
 rintro _ w2 ⟨r10,rfl,hR_,uR,eR,zR⟩
 replace hS:=hS.E5 0 rfl (Mk.G4 hR_ uR eR)
 refine Ai (Ap (A9 (σ:=List Grp×List Grp) (fun s w=>(s.1.Nodup∧∀k∈s.1,k∈kv.map (·.1))∧(∀g,g∈s.2↔g∈St∨(g∈s.1∧p g=true))∧(Wx.Sep (Cl [Mk.Be Ca bd kv,Mk.Be Ca bs (List.map Ka St)]) w0 w [Mk.Gg Ca bd r10 kv s.1,Mk.Be Ca bs (s.2.map Ka),Ch B2 #[.pointer (some ⟨E,0,none⟩),.map (some bs)] 76])) (fun s=>[]) ([(1,.eq _),(2,.eq _),(10,.eq _)]) (fun s=>kv.length-s.1.length) ([],St) ?_ tQ ?_))
 ·exact⟨⟨dz,fun _ h=>(by cases h)⟩,fun g=>⟨.inl,fun h=>h.elim id (fun h=>(by cases h.1))⟩,hS⟩
 rintro⟨V,T⟩ w3 ⟨hV,hTm,hS⟩
 refine Af (Ao (Mk.REv.next (.t rfl) (hS.get 0 rfl)) rfl ?_)
 rintro _ w4 (⟨rfl,rfl,hPm⟩|⟨k0,u0,rfl,hNx⟩)
 ·skip
  refine I (.xt rfl rfl) (Ar (CW.f rfl (A7 (Ad (Ad (Au (Di rfl ⟨_,rfl,?_⟩)))))))
  have hS2:=hS.E5 0 rfl (Mk.Vh (hS.get 0 rfl))
  exact⟨T,rfl,hS2.take 2,fun g=>by rw[hTm g,hPm.mem_iff]⟩
 skip
 have zw4:=hNx.size
 replace hS:=hS.E5 0 rfl (Mk.H3 hNx)
 have hk0m:k0∈kv.map (·.1):=aq.2 ⟨_,hNx.mem,rfl⟩
 have hko:=OB hNx.rng.map hNx.mem
 have hf0:=hNx.fresh
 have hV2:(V++[k0]).Nodup∧∀k∈V++[k0],k∈kv.map (·.1):=⟨dl.2 ⟨hV.1,by simp,fun a ha c hc=>by simp at hc;subst hc;exact fun e=>hf0 (e▸ha)⟩,fun k hk=>(be.1 hk).elim (hV.2 k) (fun h=>by cases aa.1 h;exact hk0m)⟩
 have hVl:=hV2.1.length_le_of_subset hV2.2
 rw[au,cl,cd]at hVl
 refine I (.xt rfl rfl) (Ar (CW.v rfl (Ak (Ab (Ap (Af (Ao (.entry (.t rfl) hNx.entry) rfl ?_)))))))
 rintro _ _ ⟨rfl,rfl⟩
 refine I (.xt rfl rfl) (Ao (.Bi m6) rfl ?_)
 rintro _ w5 ⟨B4,rfl,MB4⟩
 refine Bh (.A5 sizeOf80 rfl (.t rfl) (.t rfl) (Grp.one _) MB4.blk rfl) ?_
 intro w6 LB4
 have NB4:=MB4.set LB4
 replace hS:=hS.Bn NB4
 refine Ar (Aa (Ac rfl (I (.lc rfl (hS.b3.agg)) (A3 (D0 (.t rfl) (.cu rfl) (hen)) rfl (hp _ hS.fr k0) ?_))))
 rintro _ w7 ⟨rfl,uw7⟩
 replace hS:=hS.up uw7
 refine Ai (CW.b rfl (fun h17=>?_) (fun h17=>?_))
 ·have hpk:p k0=true:=by simpa using h17
  refine Aa (I (.fB 1 rfl) (I (.lb rfl (hS.b2.An rfl)) (I (.lc rfl (hS.b3.agg)) (I (.build (cs:=#[]) underlying67 zeroValue67 K1 .nil rfl) (Bh (Mk.SEv.mapUpdate (Q:=Ca) m7 La hko (.t rfl) (.t rfl) (.t rfl) (hS.get 1 rfl)) ?_)))))
  rintro w8 ⟨Mu,Ku,zu⟩
  rw[cZ]at Mu
  replace hS:=hS.E5 1 rfl (Mk.Im Mu Ku)
  refine LW.nil (Ae (Aq ?_))
  exact⟨(V++[k0],Q7 T k0),⟨hV2,tM hTm hpk,hS.take 3⟩,tQ,by show kv.length-(V++[k0]).length<kv.length-V.length;rw[au,cl];omega⟩
 have hpk:p k0=false:=by simpa using h17
 refine Ak (Ae (Aq ?_))
 exact⟨(V++[k0],T),⟨hV2,zD hTm hpk,hS.take 3⟩,tQ,by show kv.length-(V++[k0]).length<kv.length-V.length;rw[au,cl];omega⟩
theorem S5(f:Fact)(E bf bd bs:Nat)(bc:Array Go.Value)(n:Int)(kv:List (Grp×Go.Value))(St:List Grp)(w:World)(hE:Blk w E (EC bf bc bd n) 62)(hbc:bc.size=11)(hEn:¬Cl [Mk.Be Ca bd kv,Mk.Be Ca bs (List.map Ka St)] E)(hS0:Wx.Sep (Cl [Mk.Be Ca bd kv,Mk.Be Ca bs (List.map Ka St)]) w w [Mk.Be Ca bd kv,Mk.Be Ca bs (List.map Ka St)]):Ret prog 60 #[.agg #[.pointer (some ⟨E,0,none⟩),.map (some bs)],.agg f.cells] w fun r w'=>∃St',r=.tuple #[]∧Wx.Sep (Cl [Mk.Be Ca bd kv,Mk.Be Ca bs (List.map Ka St)]) w w' [Mk.Be Ca bd kv,Mk.Be Ca bs (List.map Ka St')]∧∀g,g∈St'↔g∈St∨(g∈kv.map (·.1)∧decide (g=H6 f)=true):=by
 obtain⟨w0,rfl,_⟩:=W0 w
 have hS:=hS0
 refine cT 7 func60 rfl (Af (Ao (.bA rfl) rfl ?_))
 rintro _ w1 ⟨B2,rfl,NB2⟩
 replace hS:=hS.Bn NB2
 refine Ao (.bA rfl) rfl ?_
 rintro _ w2 ⟨B3,rfl,NB3⟩
 replace hS:=hS.Bn NB3
 refine Ai (Aa (I (.lc rfl (hS.b2.agg)) (I (.makeFunc (.cu rfl)) ?_)))
 replace hS:=hS.Eb 0 rfl
 replace hS:=hS.Eb 0 rfl
 have hq_:=(show Wx.Sep _ _ _ ([_,_]++[_,_])from hS)
 refine A3 (eC (.u rfl rfl) (pP)) rfl (Vm 125 _ (fun g=>decide (g=H6 f)) HN E bf bd bs bc n kv St _ (hE.Xb hS.fr hEn) hbc hEn hq_.right.self (fun W hW g=>uF g B3 f W (hS.b1.Xb hW (hq_.oB ⟨_,bw _ bp,rfl⟩)))) ?_
 rintro _ w3 ⟨St2,rfl,uw3,hmem⟩
 replace hS:=hq_.frame uw3
 refine LW.nil (Di rfl ⟨_,rfl,?_⟩)
 exact⟨St2,rfl,hS.sub (.cons _ (.cons _ (List.Sublist.refl _))),hmem⟩
theorem oM(f:Fact)(E bf bd bs:Nat)(bc:Array Go.Value)(n:Int)(kv:List (Grp×Go.Value))(St:List Grp)(w:World)(hE:Blk w E (EC bf bc bd n) 62)(hbc:bc.size=11)(hEn:¬Cl [Mk.Be Ca bd kv,Mk.Be Ca bs (List.map Ka St)] E)(hS0:Wx.Sep (Cl [Mk.Be Ca bd kv,Mk.Be Ca bs (List.map Ka St)]) w w [Mk.Be Ca bd kv,Mk.Be Ca bs (List.map Ka St)]):Ret prog 62 #[.agg #[.pointer (some ⟨E,0,none⟩),.map (some bs)],.agg f.cells] w fun r w'=>∃St',r=.tuple #[]∧Wx.Sep (Cl [Mk.Be Ca bd kv,Mk.Be Ca bs (List.map Ka St)]) w w' [Mk.Be Ca bd kv,Mk.Be Ca bs (List.map Ka St')]∧∀g,g∈St'↔g∈St∨(g∈kv.map (·.1)∧(decide (g.t=f.Tool)&&decide (g.c=f.Chamber))=true):=by
 obtain⟨w0,rfl,_⟩:=W0 w
 have hS:=hS0
 refine cT 7 func62 rfl (Af (Ao (.bA rfl) rfl ?_))
 rintro _ w1 ⟨B2,rfl,NB2⟩
 replace hS:=hS.Bn NB2
 refine Ao (.bA rfl) rfl ?_
 rintro _ w2 ⟨B3,rfl,NB3⟩
 replace hS:=hS.Bn NB3
 refine Ai (Aa (I (.lc rfl (hS.b2.agg)) (I (.makeFunc (.cu rfl)) ?_)))
 replace hS:=hS.Eb 0 rfl
 replace hS:=hS.Eb 0 rfl
 have hq_:=(show Wx.Sep _ _ _ ([_,_]++[_,_])from hS)
 refine A3 (eC (.u rfl rfl) (pP)) rfl (Vm 126 _ (fun g=>(decide (g.t=f.Tool)&&decide (g.c=f.Chamber))) HO E bf bd bs bc n kv St _ (hE.Xb hS.fr hEn) hbc hEn hq_.right.self (fun W hW g=>uG g B3 f W (hS.b1.Xb hW (hq_.oB ⟨_,bw _ bp,rfl⟩)))) ?_
 rintro _ w3 ⟨St2,rfl,uw3,hmem⟩
 replace hS:=hq_.frame uw3
 refine LW.nil (Di rfl ⟨_,rfl,?_⟩)
 exact⟨St2,rfl,hS.sub (.cons _ (.cons _ (List.Sublist.refl _))),hmem⟩
theorem iJ(f:Fact)(E bf bd bs:Nat)(bc:Array Go.Value)(n:Int)(kv:List (Grp×Go.Value))(St:List Grp)(w:World)(hE:Blk w E (EC bf bc bd n) 62)(hbc:bc.size=11)(hEn:¬Cl [Mk.Be Ca bd kv,Mk.Be Ca bs (List.map Ka St)] E)(hS0:Wx.Sep (Cl [Mk.Be Ca bd kv,Mk.Be Ca bs (List.map Ka St)]) w w [Mk.Be Ca bd kv,Mk.Be Ca bs (List.map Ka St)]):Ret prog 63 #[.agg #[.pointer (some ⟨E,0,none⟩),.map (some bs)],.agg f.cells] w fun r w'=>∃St',r=.tuple #[]∧Wx.Sep (Cl [Mk.Be Ca bd kv,Mk.Be Ca bs (List.map Ka St)]) w w' [Mk.Be Ca bd kv,Mk.Be Ca bs (List.map Ka St')]∧∀g,g∈St'↔g∈St∨(g∈kv.map (·.1)∧decide (g.r=f.Recipe)=true):=by
 obtain⟨w0,rfl,_⟩:=W0 w
 have hS:=hS0
 refine cT 7 func63 rfl (Af (Ao (.bA rfl) rfl ?_))
 rintro _ w1 ⟨B2,rfl,NB2⟩
 replace hS:=hS.Bn NB2
 refine Ao (.bA rfl) rfl ?_
 rintro _ w2 ⟨B3,rfl,NB3⟩
 replace hS:=hS.Bn NB3
 refine Ai (Aa (I (.lc rfl (hS.b2.agg)) (I (.makeFunc (.cu rfl)) ?_)))
 replace hS:=hS.Eb 0 rfl
 replace hS:=hS.Eb 0 rfl
 have hq_:=(show Wx.Sep _ _ _ ([_,_]++[_,_])from hS)
 refine A3 (eC (.u rfl rfl) (pP)) rfl (Vm 127 _ (fun g=>decide (g.r=f.Recipe)) HP E bf bd bs bc n kv St _ (hE.Xb hS.fr hEn) hbc hEn hq_.right.self (fun W hW g=>uH g B3 f W (hS.b1.Xb hW (hq_.oB ⟨_,bw _ bp,rfl⟩)))) ?_
 rintro _ w3 ⟨St2,rfl,uw3,hmem⟩
 replace hS:=hq_.frame uw3
 refine LW.nil (Di rfl ⟨_,rfl,?_⟩)
 exact⟨St2,rfl,hS.sub (.cons _ (.cons _ (List.Sublist.refl _))),hmem⟩
theorem dL(f:Fact)(E bf bd bs:Nat)(bc:Array Go.Value)(n:Int)(kv:List (Grp×Go.Value))(St:List Grp)(w:World)(hE:Blk w E (EC bf bc bd n) 62)(hbc:bc.size=11)(hEn:¬Cl [Mk.Be Ca bd kv,Mk.Be Ca bs (List.map Ka St)] E)(hS0:Wx.Sep (Cl [Mk.Be Ca bd kv,Mk.Be Ca bs (List.map Ka St)]) w w [Mk.Be Ca bd kv,Mk.Be Ca bs (List.map Ka St)])(kb:Base)(hC:BaseC w bc kb)(hkb:kb.Processes.length≤100000):Ret prog 61 #[.agg #[.pointer (some ⟨E,0,none⟩),.map (some bs)],.agg f.cells] w fun r w'=>∃St',r=.tuple #[]∧Wx.Sep (Cl [Mk.Be Ca bd kv,Mk.Be Ca bs (List.map Ka St)]) w w' [Mk.Be Ca bd kv,Mk.Be Ca bs (List.map Ka St')]∧∀g,g∈St'↔g∈St∨(g∈kv.map (·.1)∧zF kb f g=true):=by
 obtain⟨w0,rfl,_⟩:=W0 w
 have hS:=hS0
 refine cT 21 func61 rfl (Af (Ao (.bA rfl) rfl ?_))
 rintro _ w1 ⟨B2,rfl,NB2⟩
 replace hE:=hE.up NB2.up
 replace hC:=hC.up NB2.up
 replace hS:=hS.Bn NB2
 refine Ao (.bA rfl) rfl ?_
 rintro _ w2 ⟨B3,rfl,NB3⟩
 replace hE:=hE.up NB3.up
 replace hC:=hC.up NB3.up
 replace hS:=hS.Bn NB3
 refine Ar (Nv 14 11 12 9 4 15 (Fact.cells Dc) [.eq (.pointer (some ⟨B2,0,none⟩)),.eq (.pointer (some ⟨E,0,none⟩)),.eq (.pointer (some ⟨E,0,none⟩)),.eq (.pointer (some ⟨E,1,none⟩)),.eq (.agg bc),.eq (.pointer (some ⟨B3,1,none⟩)),.eq (vi f.ID),.eq (.tuple #[.agg (Fact.cells ((Ec kb f.ID).getD Dc)),.bool (Ec kb f.ID).isSome]),.eq (.tuple #[.agg (Fact.cells ((Ec kb f.ID).getD Dc)),.bool (Ec kb f.ID).isSome]),.eq (.agg (Fact.cells ((Ec kb f.ID).getD Dc))),.eq (.bool (Ec kb f.ID).isSome),.pred fun v _=>∃B,v=.pointer (some ⟨B,0,none⟩),.eq (undef),.eq (.bool (Ec kb f.ID).isSome)] [5] k_ k7 kQ rfl kQ kQ kQ kQ kQ kQ kQ rfl rfl ⟨_,_,_,rfl⟩ _ rfl ⟨_,_,_,rfl⟩ ⟨nn,nn,nn,nn,nn,nn,nn,nn,nn,nn,nn,PhT.pred fun _ _ _ h _=>h,nn,nn,trivial⟩ rfl (fun v W h=>⟨_,h,rfl,Fact.one _⟩) (fun B W=>⟨B,rfl⟩) ?_ ?_)
 ·intro W hU0
  have hU:=(Up.drew w2).trans hU0
  have hSW:=hS.up hU
  have hEW:=hE.up hU
  have hCW:=hC.up hU
  refine aC (.inr ⟨rfl,TU.p (.fB 0 rfl) rfl⟩) (aC (.inr ⟨rfl,TU.p (.lb rfl (hSW.b2.An rfl)) rfl⟩) (aC (.inr ⟨rfl,TU.p (.nc rfl) rfl⟩) (aC (.inr ⟨rfl,TU.p (.fB 1 rfl) rfl⟩) (aC (.inr ⟨rfl,TU.p (.Ef l7 lw hbc (.t rfl) (Q9 hEW)) rfl⟩) (aC (.inr ⟨rfl,TU.p (.fB 1 rfl) rfl⟩) (aC (.inr ⟨rfl,TU.p (.lb rfl (hSW.b3.An rfl)) rfl⟩) (aC (.inr ⟨rfl,TU.c (eC (.u rfl rfl) (CX)) (Na bc kb f.ID W hCW hkb) sQ⟩) (aC (.inr ⟨rfl,TU.p (.mv rfl) rfl⟩) (aC (.inr ⟨rfl,TU.p (.xt rfl rfl) rfl⟩) (aC (.inr ⟨rfl,TU.p (.xt rfl rfl) rfl⟩) (aC (.inl (.inl rfl)) (aC (.inl (.inr rfl)) (aC (.inr ⟨rfl,TU.p (.assign (.t rfl)) rfl⟩) ?_)))))))))))))
  exact allL.nil
 intro w3 B4 g hU0 zB4_ hB4 hg
 have hU:=(Up.drew w2).trans hU0
 have zw3:=hU.size
 have zdr:w2.drew.heap.size=w2.heap.size:=rfl
 have g15_:g 15=.agg (Fact.cells ((Ec kb f.ID).getD Dc)):=hg 9 _ 15 cQ rfl rfl
 have g5_:g 5=.bool (Ec kb f.ID).isSome:=hg 13 _ 5 cQ rfl rfl
 rw[g15_]at hB4
 replace hB4:Blk w3 B4 (Fact.cells ((Ec kb f.ID).getD Dc)) 51:=hB4
 change LW _ _ _ _ _ _ _ _ ((4,_)::(5,.eq (g 5))::_) _
 rw[g5_]
 replace hE:=hE.up hU
 replace hC:=hC.up hU
 replace hS:=(hS.up (Up.drew _)).add hU0 (A':=Ch B4 (Fact.cells ((Ec kb f.ID).getD Dc)) 51) hB4 (fun i(e:i=B4)=>by omega)
 refine Ar (Aa (Ac rfl (Ai (CW.b rfl (fun h17=>?_) (fun h17=>?_)))))
 ·obtain⟨p,hp⟩:=jl.1 h17
  rw[hp]at hS
  refine Aa (I (.lc rfl (hS.b2.agg)) (I (.lc rfl (hS.b4.agg)) ?_))
  replace hS:=hS.Eb 0 rfl
  replace hS:=hS.Eb 0 rfl
  have hq_:=(show Wx.Sep _ _ _ ([_,_,_]++[_,_])from hS)
  refine A3 (eC (.u rfl rfl) (GQ)) rfl (S5 p E bf bd bs bc n kv St _ hE hbc hEn hq_.right.self) ?_
  rintro _ w4 ⟨St2,rfl,uw4,hmem⟩
  replace hS:=hq_.frame uw4
  refine LW.nil (Di rfl ⟨_,rfl,?_⟩)
  exact⟨St2,rfl,hS.sub (.cons _ (.cons _ (.cons _ (List.Sublist.refl _)))),fun g=>by rw[tN hp];exact hmem g⟩
 have hp:Ec kb f.ID=none:=by simpa using h17
 refine Ak (Di rfl ⟨_,rfl,?_⟩)
 exact⟨St,rfl,hS.take 2,oC (KX hp)⟩
theorem uJ(bf:Nat)(m:Dw)(f:Fact)(w:World)(hM:Ms.IMap w bf (E9 m)):Ret prog 26 #[.map (some bf),.agg f.cells] w fun r w'=>∃ad k cp,r=.slice ad k cp∧decide ((k:Int)>0)=Nh m f∧Stp (Ms.Be bf (E9 m)) (Ms.Be bf (E9 (Cy 100000 m f))) w w':=by
 obtain⟨w0,rfl,_⟩:=W0 w
 have hS:Wx.Sep (Ms.Be bf (E9 m)).foot w0 w0 [Ms.Be bf (E9 m)]:=Sep.cons (A:=Ms.Be bf (E9 m)) hM (fun _ h=>h) (Sep.start _ _) (by simp)
 refine cT 48 func26 rfl (Af (Ao (.bA rfl) rfl ?_))
 rintro _ w1 ⟨B3,rfl,NB3⟩
 replace hS:=hS.Bn NB3
 refine J (Ar (Aa (I (.lc rfl (hS.b1.agg)) (A3 (eC (.o rfl) (pM)) rfl (Ql f _) ?_))))
 rintro _ w2 ⟨rfl,uw2⟩
 replace hS:=hS.up uw2
 refine LW.A rfl (Ar ?_)
 cases hq2:Fi m (Bm f)with
 |none=>
  refine Aa (Ac rfl (Ac rfl (I (Ms.PEv.Ha mt lu k_ (.t rfl) (.t rfl) (hS.get 0 rfl) (Lj hq2)) (Ac rfl (I (.xt rfl rfl) (I (.fa (PEv.xt rfl rfl) (rfl)) (Ao (.Bi k_) rfl ?_)))))))
  rintro _ w3 ⟨B6,rfl,MB6⟩
  refine Bh (.A5 k7 rfl (.t rfl) (.t rfl) eQ MB6.blk rfl) ?_
  intro w4 LB6
  have NB6:=MB6.set LB6
  replace hS:=hS.Bn NB6
  refine LW.A rfl (Ar (Al ?_))
  cases hq3:decide (Bm f=[])with
  |true=>
   replace hq3:=bj hq3
   refine Aa (Ac rfl (I (.tr (Gp (.t rfl) (.const _)) (Rz hq3)) (Ac rfl (E4 (E4 (Mr rfl rfl rfl rfl rfl rfl (Mr rfl rfl rfl rfl rfl rfl (Mr rfl rfl rfl rfl rfl rfl (Mr rfl rfl rfl rfl rfl rfl (E4 (I (.Ee (b:=false) (.t rfl) (fun hp=>absurd (show true=false from hp) cQ)) (Ai (CW.v rfl (Af (J (Ai (Aj (Ah (KW.q ?_)))))))))))))))))))
   exact⟨none,0,0,rfl,by rw[(Lp hq3).1];rfl,by rw[(Lp hq3).2];exact⟨hS.fr,hS.get 0 rfl,fun _ h=>.inl h⟩⟩
  |false=>
   replace hq3:=db hq3
   refine Aa (Ac rfl (I (.fa (Gp (.t rfl) (.const _)) (Uw hq3)) (Ac rfl (Cq (Ac rfl (Cq (Ac rfl (E4 (E4 (E4 (E4 (Cq (I (.De (b:=false) (.t rfl) (fun hp=>absurd (show false=true from hp) cQ)) (I (.po rfl (fun hp=>(by exact .tmp rfl))) (Ai (CW.f rfl (Ak (Ab (Al ?_)))))))))))))))))))
   replace hS:=hS.mD (OwnS.nil _ 0 51 19 Fact.cells)
   refine Aa (Ac rfl (Ac rfl (I (.lc rfl (hS.b1.agg)) (Bh (Ms.SEv.mapUpdate mt lu (.t rfl) (.t rfl) (.t rfl) (hS.get 0 rfl)) ?_))))
   rintro w5 ⟨Mu,Ku,zu⟩
   rw[Qt]at Mu
   replace hS:=hS.E5 0 rfl (Ms.Im Mu Ku)
   refine Ar (Af (Ac rfl (Ac rfl (E4 (E4 (E4 (I (.De (b:=false) (.t rfl) (fun hp=>absurd (show false=true from hp) cQ)) (Ai (CW.f rfl (Ak (Ab (Al (Al ?_)))))))))))))
   cases hq8:f.Gone with
   |true=>
    refine Aa (I (.fB 4 rfl) (I (.lb rfl (hS.b1.An rfl)) (I (.fa (PEv.n1 rfl) (by rw[hq8];rfl)) (Ai (CW.f rfl (Ak (Ab (Af (Ac rfl (LW.A rfl (Ai (Aj (KW.q ?_)))))))))))))
    (obtain⟨ad,cp,e_,_⟩:=(hS.own 3 rfl).sl (fun _=>rfl);exact⟨ad,_,cp,e_,by rw[(Ra hq3 hq2).1,hq8];rfl,by rw[(Ra hq3 hq2).2];exact⟨hS.fr,hS.get 0 rfl,fun _ h=>.inl h⟩⟩)
   |false=>
    refine Aa (I (.fB 4 rfl) (I (.lb rfl (hS.b1.An rfl)) (I (.tr (PEv.n1 rfl) (by rw[hq8];rfl)) (Ai (CW.v rfl (Aa (Ac rfl (I (.lc rfl (hS.b1.agg)) (Ao (.buildSlice (xs:=[f]) (enc:=Fact.cells) (mk:=fun f:Fact=>.agg f.cells) k6 k7 k_ rfl cQ (fun _=>rfl) (fun _=>rfl) (.cu rfl) rfl) rfl ?_)))))))))
    rintro _ w6 ⟨B45,cB45,rfl,NB45,yB45,xB45⟩
    replace hS:=hS.up NB45.up
    have hE45:=xB45
    refine Ao (.Cu (enc:=Fact.cells) (bytes:=160) (i:=Tryz.t51) k6 kQ rfl rfl rfl rfl cQ (fun _=>rfl) Fact.one (.t rfl) (.t rfl) (hS.own 3 rfl) (Az hE45) (by simp[maxLen]) (by simp)) rfl ?_
    intro v46 w7 Gw7
    replace hS:=hS.E5 3 rfl Gw7
    refine LW.A rfl (Ar (Aa (Ac rfl (LW.A rfl (Ai (Aj (KW.q ?_)))))))
    (obtain⟨ad,cp,e_,_⟩:=(hS.own 3 rfl).sl (fun _=>rfl);exact⟨ad,_,cp,e_,by rw[(Ra hq3 hq2).1,hq8];rfl,by rw[(Ra hq3 hq2).2];exact⟨hS.fr,hS.get 0 rfl,fun _ h=>.inl h⟩⟩)
 |some old=>
  refine Aa (Ac rfl (Ac rfl (I (Ms.PEv.Ek mt lu (.t rfl) (.t rfl) (hS.get 0 rfl) (N5 hq2)) (Ac rfl (I (.xt rfl rfl) (I (.tr (PEv.xt rfl rfl) (rfl)) (Ao (.Bi k_) rfl ?_)))))))
  rintro _ w8 ⟨B6,rfl,MB6⟩
  refine Bh (.A5 k7 rfl (.t rfl) (.t rfl) eQ MB6.blk rfl) ?_
  intro w9 LB6
  have NB6:=MB6.set LB6
  replace hS:=hS.Bn NB6
  refine LW.A rfl (Ar (Al ?_))
  cases hq3:decide (Bm f=[])with
  |true=>
   replace hq3:=bj hq3
   refine Aa (Ac rfl (I (.tr (Gp (.t rfl) (.const _)) (Rz hq3)) (Ac rfl (E4 (E4 (Mr rfl rfl rfl rfl rfl rfl (Mr rfl rfl rfl rfl rfl rfl (Mr rfl rfl rfl rfl rfl rfl (Mr rfl rfl rfl rfl rfl rfl (E4 (I (.Ee (b:=false) (.t rfl) (fun hp=>absurd (show true=false from hp) cQ)) (Ai (CW.v rfl (Af (J (Ai (Aj (Ah (KW.q ?_)))))))))))))))))))
   exact⟨none,0,0,rfl,by rw[(Lp hq3).1];rfl,by rw[(Lp hq3).2];exact⟨hS.fr,hS.get 0 rfl,fun _ h=>.inl h⟩⟩
  |false=>
   replace hq3:=db hq3
   refine Aa (Ac rfl (I (.fa (Gp (.t rfl) (.const _)) (Uw hq3)) (Ac rfl (Cq (Ac rfl (Cq (Ac rfl (Cq (I (.lc rfl (hS.b1.agg)) (Cq (I (.lc rfl (hS.b2.agg)) (Cq (A3 (eC (.u rfl rfl) (GK)) rfl (Qn f old _) ?_)))))))))))))
   rintro _ w10 ⟨rfl,uw10⟩
   replace hS:=hS.up uw10
   refine Cq (I (.n1 rfl) (Cq (I (.pa rfl (fun hp=>(by exact .tmp rfl))) (I (.po rfl (fun hp=>(by exact .tmp rfl))) (Ai (CW.b rfl (fun h26=>?_) (fun h26=>?_)))))))
   ·replace h26:Dz f old=false:=by simpa using h26
    refine Af (J (Ai (Aj (Ah (KW.q ?_)))))
    exact⟨none,0,0,rfl,by rw[(Zr hq3 hq2 h26).1];rfl,by rw[(Zr hq3 hq2 h26).2];exact⟨hS.fr,hS.get 0 rfl,fun _ h=>.inl h⟩⟩
   replace h26:Dz f old=true:=by simpa using h26
   refine Ak (Ab (Al ?_))
   replace hS:=hS.mD (OwnS.nil _ 0 51 19 Fact.cells)
   refine Aa (Ac rfl (Ac rfl (I (.lc rfl (hS.b1.agg)) (Bh (Ms.SEv.mapUpdate mt lu (.t rfl) (.t rfl) (.t rfl) (hS.get 0 rfl)) ?_))))
   rintro w11 ⟨Mu,Ku,zu⟩
   rw[Qt]at Mu
   replace hS:=hS.E5 0 rfl (Ms.Im Mu Ku)
   refine Ar (Al ?_)
   cases hq6:old.Gone with
   |true=>
    refine Aa (Ac rfl (Ac rfl (Cq (I (.fB 4 rfl) (Cq (I (.lb rfl (hS.b2.An rfl)) (Cq (I (.fa (PEv.n1 rfl) (by rw[hq6];rfl)) (I (.pa rfl (fun hp=>(by exact .tmp rfl))) (Ai (CW.f rfl (Ak (Ab (Al (Al ?_)))))))))))))))
    cases hq8:f.Gone with
    |true=>
     refine Aa (I (.fB 4 rfl) (I (.lb rfl (hS.b1.An rfl)) (I (.fa (PEv.n1 rfl) (by rw[hq8];rfl)) (Ai (CW.f rfl (Ak (Ab (Af (Ac rfl (LW.A rfl (Ai (Aj (KW.q ?_)))))))))))))
     (obtain⟨ad,cp,e_,_⟩:=(hS.own 3 rfl).sl (fun _=>rfl);exact⟨ad,_,cp,e_,by rw[(H7 hq3 hq2 h26).1,hq6,hq8];rfl,by rw[(H7 hq3 hq2 h26).2];exact⟨hS.fr,hS.get 0 rfl,fun _ h=>.inl h⟩⟩)
    |false=>
     refine Aa (I (.fB 4 rfl) (I (.lb rfl (hS.b1.An rfl)) (I (.tr (PEv.n1 rfl) (by rw[hq8];rfl)) (Ai (CW.v rfl (Aa (Ac rfl (I (.lc rfl (hS.b1.agg)) (Ao (.buildSlice (xs:=[f]) (enc:=Fact.cells) (mk:=fun f:Fact=>.agg f.cells) k6 k7 k_ rfl cQ (fun _=>rfl) (fun _=>rfl) (.cu rfl) rfl) rfl ?_)))))))))
     rintro _ w12 ⟨B45,cB45,rfl,NB45,yB45,xB45⟩
     replace hS:=hS.up NB45.up
     have hE45:=xB45
     refine Ao (.Cu (enc:=Fact.cells) (bytes:=160) (i:=Tryz.t51) k6 kQ rfl rfl rfl rfl cQ (fun _=>rfl) Fact.one (.t rfl) (.t rfl) (hS.own 3 rfl) (Az hE45) (by simp[maxLen]) (by simp)) rfl ?_
     intro v46 w13 Gw13
     replace hS:=hS.E5 3 rfl Gw13
     refine LW.A rfl (Ar (Aa (Ac rfl (LW.A rfl (Ai (Aj (KW.q ?_)))))))
     (obtain⟨ad,cp,e_,_⟩:=(hS.own 3 rfl).sl (fun _=>rfl);exact⟨ad,_,cp,e_,by rw[(H7 hq3 hq2 h26).1,hq6,hq8];rfl,by rw[(H7 hq3 hq2 h26).2];exact⟨hS.fr,hS.get 0 rfl,fun _ h=>.inl h⟩⟩)
   |false=>
    refine Aa (Ac rfl (Ac rfl (Cq (I (.fB 4 rfl) (Cq (I (.lb rfl (hS.b2.An rfl)) (Cq (I (.tr (PEv.n1 rfl) (by rw[hq6];rfl)) (I (.pa rfl (fun hp=>(by exact .tmp rfl))) (Ai (CW.v rfl (Aa (Ac rfl (I (.lc rfl (hS.b2.agg)) (Ao (.buildSlice (xs:=[old]) (enc:=Fact.cells) (mk:=fun f:Fact=>.agg f.cells) k6 k7 k_ rfl cQ (fun _=>rfl) (fun _=>rfl) (.cu rfl) rfl) rfl ?_)))))))))))))))
    rintro _ w14 ⟨B38,cB38,rfl,NB38,yB38,xB38⟩
    replace hS:=hS.up NB38.up
    have hE38:=xB38
    refine Ao (.Cu (enc:=Fact.cells) (bytes:=160) (i:=Tryz.t51) k6 kQ rfl rfl rfl rfl cQ (fun _=>rfl) Fact.one (.t rfl) (.t rfl) (hS.own 3 rfl) (Az hE38) (by simp[maxLen]) (by simp)) rfl ?_
    intro v39 w15 Gw15
    replace hS:=hS.E5 3 rfl Gw15
    refine LW.A rfl (Ar (Al ?_))
    cases hq8:f.Gone with
    |true=>
     refine Aa (I (.fB 4 rfl) (I (.lb rfl (hS.b1.An rfl)) (I (.fa (PEv.n1 rfl) (by rw[hq8];rfl)) (Ai (CW.f rfl (Ak (Ab (Af (Ac rfl (LW.A rfl (Ai (Aj (KW.q ?_)))))))))))))
     (obtain⟨ad,cp,e_,_⟩:=(hS.own 3 rfl).sl (fun _=>rfl);exact⟨ad,_,cp,e_,by rw[(H7 hq3 hq2 h26).1,hq6,hq8];rfl,by rw[(H7 hq3 hq2 h26).2];exact⟨hS.fr,hS.get 0 rfl,fun _ h=>.inl h⟩⟩)
    |false=>
     refine Aa (I (.fB 4 rfl) (I (.lb rfl (hS.b1.An rfl)) (I (.tr (PEv.n1 rfl) (by rw[hq8];rfl)) (Ai (CW.v rfl (Aa (Ac rfl (I (.lc rfl (hS.b1.agg)) (Ao (.buildSlice (xs:=[f]) (enc:=Fact.cells) (mk:=fun f:Fact=>.agg f.cells) k6 k7 k_ rfl cQ (fun _=>rfl) (fun _=>rfl) (.cu rfl) rfl) rfl ?_)))))))))
     rintro _ w16 ⟨B45,cB45,rfl,NB45,yB45,xB45⟩
     replace hS:=hS.up NB45.up
     have hE45:=xB45
     refine Ao (.Cu (enc:=Fact.cells) (bytes:=160) (i:=Tryz.t51) k6 kQ rfl rfl rfl rfl cQ (fun _=>rfl) Fact.one (.t rfl) (.t rfl) (hS.own 3 rfl) (Az hE45) (by simp[maxLen]) (by simp)) rfl ?_
     intro v46 w17 Gw17
     replace hS:=hS.E5 3 rfl Gw17
     refine LW.A rfl (Ar (Aa (Ac rfl (LW.A rfl (Ai (Aj (KW.q ?_)))))))
     (obtain⟨ad,cp,e_,_⟩:=(hS.own 3 rfl).sl (fun _=>rfl);exact⟨ad,_,cp,e_,by rw[(H7 hq3 hq2 h26).1,hq6,hq8];rfl,by rw[(H7 hq3 hq2 h26).2];exact⟨hS.fr,hS.get 0 rfl,fun _ h=>.inl h⟩⟩)
theorem S6(b:Nat)(w:World):Ret prog 30 #[.map (some b)] w fun r w'=>(∃B,r=.func (.func 56) #[] #[.pointer (some ⟨B,0,none⟩)]∧Blk w' B #[.map (some b)] 59∧w.heap.size≤B)∧Up w w':=by
 have hW:=Up.refl w
 refine cT 4 func30 rfl (Af (Ao (.Ro (.t rfl) rfl) rfl ?_))
 rintro _ w1 ⟨B1,rfl,NB1⟩
 have eB1:=NB1.at_
 replace hW:=hW.up NB1.up
 have hB1:=NB1.blk
 refine J (Ar (Aa (I (.makeFunc (.cu rfl)) (LW.A rfl (Ai (Aj (KW.q ?_)))))))
 exact⟨⟨_,rfl,hB1,by omega⟩,hW⟩
theorem Rf(X Y:Nat→Prop)(B1 b:Nat)(m:Dw)(w:World)(hYY:∀i,Y i→i<w.heap.size)(hQX:¬X B1)(hbY:¬Y b)(hMo:MOk m)(hNd:(m.map (·.1)).Nodup)(hQ0:Blk w B1 #[.map (some b)] 59)(hM0:Ms.IMap w b (E9 m)):
   IterS prog 56 #[.pointer (some ⟨B1,0,none⟩)] EP X Y (fun ys=>ys.Perm (Fp m)) (fun _=>True) m.length w:=by
 refine IterS.of ?_
 intro lp J Jx w0 hUw _ hY hJ
 obtain⟨Bd,hBd⟩:∃Bd,Bd=w0.heap.size:=⟨_,rfl⟩
 rw[←hBd]at hJ hY
 have zU:=hUw.size
 have hQ:=hQ0.up hUw
 have hM:=hM0.up hUw
 have zQ0:=hQ.lt
 refine cT 15 func56 rfl (Af (I (.lb rfl (hQ.An rfl)) (Ao (Ms.REv.range mt (.t rfl) hM) rfl ?_)))
 rintro _ w1 ⟨r6,rfl,hR6,uw1,ew1,zw1⟩
 replace hQ:=hQ.up uw1
 replace hM:=hM.up uw1
 replace hJ:=hJ.up uw1
 refine Ai (Ap (CW.loop (σ:=List Fact) (fun s w=>Jw Bd J s w∧Blk w B1 #[.map (some b)] 59∧Ms.IRng w b r6 (E9 m) (s.map Bm)∧∀f∈s,(Bm f,f)∈m) (fun s=>[(0,.eq (.func (.yield lp) #[] #[])),(6,.eq (.pointer (some ⟨r6,0,none⟩)))]) (fun s=>m.length-s.length) [] ?_ ?_ ?_))
 ·exact⟨hJ,hQ,hR6,fun _ h=>by cases h⟩
 ·exact tQ
 rintro ds w2 ⟨hJ,hQ,hR6,hds⟩
 have zQ:=hQ.lt
 refine Af (Ao (Ms.REv.next (.t rfl) hR6) rfl ?_)
 rintro _ w3 (⟨rfl,rfl,hPm⟩|⟨k,u,rfl,hNx⟩)
 ·skip
  refine I (.xt rfl rfl) (Ar (CW.f rfl (A7 (Ad (Ad (Au (Di rfl ⟨_,rfl,?_⟩)))))))
  exact .inl ⟨_,Xn hMo hNd hds (by rw[Jq]at hPm;exact hPm),hJ.j⟩
 skip
 obtain⟨_,ho,hwk⟩:=hNx.walk
 replace hJ:=hJ.walk hNx.grown oQ ho hwk
 replace hQ:=hQ.sto hNx.sto oQ
 replace hR6:=hNx.rng
 have zw3:=hNx.size
 obtain⟨⟨kx,x⟩,hmem0,he0⟩:=aq.1 hNx.mem
 cases he0
 have hkx:=(hMo _ hmem0).1
 dsimp only at hkx
 subst hkx
 refine I (.xt rfl rfl) (Ar (CW.v rfl (Ak (Ab (Ap (Af (Ao (.entry (.t rfl) hNx.entry) rfl ?_)))))))
 rintro _ _ ⟨rfl,rfl⟩
 refine I (.xt rfl rfl) (Ao (.Bi k_) rfl ?_)
 rintro _ w4 ⟨B4,rfl,MB4⟩
 refine Bh (.A5 k7 rfl (.t rfl) (.t rfl) (Fact.one _) MB4.blk rfl) ?_
 intro w5 LB4
 have NB4:=MB4.set LB4
 replace hJ:=hJ.up NB4.up
 replace hQ:=hQ.up NB4.up
 replace hR6:=hR6.up NB4.up
 have hB4:=NB4.blk
 refine Ar (Aa (Ac rfl (I (.lc rfl (hB4.agg)) (LW.y (.t rfl) (.cu rfl) rfl rfl (hY ds x _ hJ (by have:=hR6.length;simp[E9]at this;omega)) ?_))))
 rintro _ w6 ⟨y,rfl,hcase⟩
 refine I (.n1 rfl) (Ai (CW.b rfl (fun h14=>?_) (fun h14=>?_)))
 ·have hy:y=false:=by simpa using h14
  subst hy
  obtain⟨_,hJx⟩:=hcase.resolve_left (by simp)
  refine Aj (Aw (Ah (Aw (Nr rfl ⟨_,rfl,?_⟩))))
  exact .inr ⟨_,trivial,hJx⟩
 have hy:y=true:=by simpa using h14
 subst hy
 obtain⟨_,hJ2,hN⟩:=hcase.resolve_right (by simp)
 replace hQ:=hQ.kx hN hQX
 replace hR6:=hR6.kx hN hbY (fun h=>by have:=hYY _ h;omega)
 have hds2:∀f∈ds++[x],(Bm f,f)∈m:=fun f hf=>(be.1 hf).elim (hds f) (fun h=>by cases aa.1 h;exact hmem0)
 refine Ak (Ae (Aq ?_))
 exact⟨ds++[x],⟨hJ2,hQ,by rw[cq];exact hR6,hds2⟩,tQ,by have:=hR6.length;simp[E9]at this⊢;omega⟩
theorem Vn(g:Nat)(lb:Array Go.Value)(S Sp:List Fact→Prop)(N:Nat)(w:World)(en:∀args w,(callFunc g args).run prog w=.ok (.enter g args) w)(hit:∀W(X Y:Nat→Prop),Up w W→(∀i,X i→w.heap.size≤i)→(∀i,Y i→w.heap.size≤i∧i<W.heap.size)→IterS prog g lb EP X Y S Sp N W)(hN0:N≤1000000000):Ret prog 55 #[.slice none 0 0,.func (.func g) #[] lb] w fun r w'=>∃ks,S ks∧(A8 51 19 Fact.cells r ks).holds w'∧(∀i,(A8 51 19 Fact.cells r ks).foot i→w.heap.size≤i)∧Up w w':=by
 obtain⟨w0,rfl,_⟩:=W0 w
 have hS:=(Sep.start no w0).EO
 refine Ly (n:=13) func55 rfl rfl rfl (Af (Ao (.Ro (.t rfl) rfl) rfl ?_))
 rintro _ w1 ⟨B2,rfl,NB2⟩
 replace hS:=hS.Bn NB2
 refine J (Ar (Af (Ac rfl (Ai (Ap ?_)))))
 obtain⟨bq,hbq⟩:∃bq,bq=w1.heap.size:=⟨_,rfl⟩
 replace hS:=hS.add (Up.refl _) (A':=A8 51 19 Fact.cells (.slice none 0 0) ([]:List Fact)) (OwnS.nil _ _ _ _ _) (fun i h=>by cases h)
 refine cY (Zs:=[_]) (σ:=Go.Value×List Fact) (fun s=>[Ch B2 #[s.1] 24,A8 51 19 Fact.cells s.1 s.2]) (fun pre s=>(s.2=pre)) (fun _ _ _=>False) (fun x b=>[Ch b x.cells 51]) (fun x b=>[(5,.eq (.pointer (some ⟨b,0,none⟩))),(2,.eq (.pointer (some ⟨B2,0,none⟩)))]) (.slice none 0 0,[]) (.t rfl) en (hit _ _ _ hS.Cj (fun i h=>h.1.elim (fun h=>h.elim) id) (fun i h=>⟨h.1.elim (fun h=>h.elim) id,h.2.1⟩)) (fun _=>rfl) rfl (fun _ _=>rfl) (show Wx.Sep _ _ _ ([_]++[_,_])from hS) rfl ?_ ?_ ?_ ?_
 ·intro lp x w2
  have hS:=Sep.start no w2
  refine Tz rfl (Aa (Ao (.Bi k_) rfl ?_))
  rintro _ w3 ⟨B5,rfl,MB5⟩
  refine Bh (.A5 k7 rfl (.t rfl) (.t rfl) (Fact.one _) MB5.blk rfl) ?_
  intro w4 LB5
  have NB5:=MB5.set LB5
  replace hS:=hS.Bn NB5
  refine LW.nil ?_
  exact fun a ha=>⟨_,hS,.cons (KV hS.b0) (.nil _ _),ha.sub tQ⟩
 ·rintro lp pre x ⟨v,ks⟩ b w5 hJ hlt hqw hS0 hS
  rw[←hbq]at hqw⊢
  subst hJ
  dsimp only at hlt
  refine Ap (Aa (I (.lb rfl (hS.b0.An rfl)) (I (.lc rfl (hS.b2.agg)) (Ao (.buildSlice (xs:=[x]) (enc:=Fact.cells) (mk:=fun s:Fact=>.agg s.cells) k6 k7 k_ rfl cQ (fun _=>rfl) (fun _=>rfl) (.cu rfl) rfl) rfl ?_))))
  rintro _ w6 ⟨B10,cB10,rfl,NB10,yB10,xB10⟩
  replace hS:=hS.up NB10.up
  have hE10:=xB10
  refine Ao (.Cu (enc:=Fact.cells) (bytes:=160) (i:=Tryz.t51) k6 kQ rfl rfl rfl rfl cQ (fun _=>rfl) Fact.one (.t rfl) (.t rfl) (hS.own 1 rfl) (Az hE10) (by simp only[maxLen,b9,da];omega) (by simp only[b9,da];omega)) rfl ?_
  intro v11 w7 Gw7
  replace hS:=hS.E5 1 rfl Gw7
  refine Bh (.store mf (.t rfl) (.t rfl) (hS.own 1 rfl).one hS.b0 bQ) ?_
  intro w8 Nw8
  replace hS:=hS.Co 0 rfl Nw8
  refine LW.nil (Ae ?_)
  exact fun _ _=>⟨(v11,ks++[x]),_,rfl,hS,.cons (KV hS.b0) (.cons (NZ (hS.own 1 rfl)) (.nil _ _))⟩
 ·rintro Dm ys ⟨v,ks⟩ w9 hDq hYs hJ hqw hS
  rw[←hbq]at hDq hqw
  replace hS:=zA (Ds:=[]) (As:=[]) (Bs:=[_,_]) hS
  refine Ae (Ab (Af (I (.lb rfl (hS.b1.An rfl)) (LW.A rfl (Ai (Aj (iB rfl (Dm::[]) _ (hS.get 0 rfl).1 (hS.get 0 rfl).2 ?_)))))))
  intro w10 hF_
  replace hS:=hS.step 0 rfl (A':=OA) hF_ trivial (fun _ h=>h.elim)
  refine KW.q ?_
  obtain⟨rfl⟩:=hJ
  exact⟨ks,hYs,hS.get 2 rfl,fun i hi=>(hS.foot 2 rfl i hi).elim (fun h=>h.elim) id,hS.Cj⟩
 exact fun _ _ _ _ _ _ _ h=>h.elim
theorem Rg(g:Nat)(lb:Array Go.Value)(S Sp:List Fact→Prop)(N:Nat)(w:World)(en:∀args w,(callFunc g args).run prog w=.ok (.enter g args) w)(hit:∀W(X Y:Nat→Prop),Up w W→(∀i,X i→w.heap.size≤i)→(∀i,Y i→w.heap.size≤i∧i<W.heap.size)→IterS prog g lb EP X Y S Sp N W)(hN0:N≤1000000000):Ret prog 29 #[.func (.func g) #[] lb] w fun r w'=>∃ks,S ks∧(A8 51 19 Fact.cells r ks).holds w'∧(∀i,(A8 51 19 Fact.cells r ks).foot i→w.heap.size≤i)∧Up w w':=by
 have hW:=Up.refl w
 refine cT 5 func29 rfl (Af (J (Ar (Aa (Ac rfl (A3 (eC (.cons (.const _) (.cu rfl)) (MK)) rfl (Vn _ _ _ _ _ _ en hit hN0) ?_))))))
 rintro _ w1 ⟨ks,hS,hO,hF,uw1⟩
 replace hW:=hW.up uw1
 refine LW.A rfl (Ai (Aj (KW.q ?_)))
 exact⟨ks,hS,hO,hF,hW⟩
theorem iK(b:Nat)(kv:List (List UInt8×Go.Value))(w:World)(hM:Ms.IMap w b kv):Ret prog 25 #[.map (some b)] w fun r w'=>∃b',r=.map (some b')∧Ms.IMap w' b' kv∧w.heap.size≤b'∧Up w w':=by
 have hW:=Up.refl w
 refine cT 9 func25 rfl (Af (J (Ar (Af (Ac rfl (I (.fa (PEv.fa (Mk.PEv.oA mt (.t rfl)) rfl) (rfl)) (Ai (CW.f rfl (Ak (Ab (Af (Ac rfl (I (Mk.PEv.yZ kQ (.t rfl)) (Ao (zG func46 rfl rfl kQ kQ (.t rfl) hM) rfl ?_))))))))))))))
 rintro _ w1 ⟨b',rfl,hM2,uw1,ew1,zw1⟩
 replace hW:=hW.up uw1
 replace hM:=hM.up uw1
 refine I (Mk.PEv.nZ mt (.t rfl)) (LW.A rfl (Ai (Aj (KW.q ?_))))
 exact⟨b',rfl,hM2,by omega,hW⟩
theorem Ya(E bf bd:Nat)(bc:Array Go.Value)(nw:Int)(all:List Fact)(w:World)(hE:Blk w E (EC bf bc bd nw) 62)(hM:Ms.IMap w bf (E9 (Bj all 100000)))(hl:all.length≤100000):Ret prog 13 #[.pointer (some ⟨E,0,none⟩)] w fun r w'=>∃bc',r=.agg bc'∧BaseC w' bc' (Dj all 100000)∧BaseB w.heap.size bc'∧Up w w':=by
 have zE:=hE.lt
 have zM:=Ms.IMap.lt hM
 obtain⟨w0,rfl,hS⟩:=W0 w
 refine cT 13 func13 rfl (Af (Ao (.Bi mp) rfl ?_))
 rintro _ w1 ⟨B2,rfl,NB2⟩
 have eB2:=NB2.at_
 have zB2:=NB2.size
 replace hE:=hE.up NB2.up
 replace hM:=hM.up NB2.up
 replace hS:=hS.Bn NB2
 refine Ar (Af (Ac rfl (I (.fa (Gl m9 (.t rfl)) (rfl)) (Ai (CW.f rfl (Ak (Ab (Af (Ac rfl (I (.nc rfl) (I (.fB 0 rfl) (I (.lb rfl (hE.cell Ng)) (A3 (eC (.o rfl) (GG)) rfl (S6 bf _) ?_)))))))))))))
 rintro _ w2 ⟨⟨BK,rfl,hBK,zK⟩,uw2⟩
 have zw2:=uw2.size
 replace hS:=hS.up uw2
 replace hE:=hE.up uw2
 replace hM:=hM.up uw2
 have zBK:=hBK.lt
 have hMk2:=hM
 refine A3 (eC (.o rfl) (GF)) rfl (Rg _ _ _ _ _ _ GO (fun W X Y u hX hY=>Rf X Y BK bf (Bj all 100000) W (fun i h=>(hY i h).2) (fun h=>by have:=hX _ h;omega) (fun h=>by have:=(hY _ h).1;omega) (Io 100000 all).1 (Hi all 100000) (hBK.up u) (Ms.IMap.up hMk2 u)) (by have:=(Io 100000 all).2;omega)) ?_
 rintro v11 w3 ⟨ks,hks,hO,hOn,uw3⟩
 have zw3:=uw3.size
 replace hE:=hE.up uw3
 replace hM:=hM.up uw3
 replace hS:=hS.add uw3 (A':=A8 51 19 Fact.cells v11 ks) (hO) (hOn)
 obtain⟨ad,cp,rfl,_⟩:=(hS.own 1 rfl).sl (fun _=>rfl)
 have hkl:ks.length≤100000:=by have:=(Io 100000 all).2;have e:=hks.length_eq;simp only[Fp,cd]at e;omega
 refine A3 (eC (.ct rfl (.cons (.const _) .nil)) (GD)) rfl (rO ad cp ks 100000 _ ((hS.own 1 rfl).els (fun _=>rfl)) hkl) ?_
 rintro _ w4 ⟨bc',rfl,hC,hb,uw4⟩
 have zw4:=uw4.size
 replace hS:=hS.up uw4
 replace hE:=hE.up uw4
 replace hM:=hM.up uw4
 rw[X4 hks]at hC
 refine Bh (.A5 lw hC.size (.t rfl) (.t rfl) hC.one hS.b0 rfl) ?_
 intro w5 Nw5
 replace hS:=hS.Co 0 rfl Nw5
 replace hE:=hE.sto Nw5.sto oQ
 replace hM:=hM.sto Nw5.sto oQ
 replace hC:=hC.mX hb Nw5.sto.fr (fun i(e:i=B2)=>by omega)
 refine Ai (Aj (Dy rfl rfl l7 lw hC.size (hS.b0.agg) ⟨_,rfl,?_⟩))
 exact⟨bc',rfl,hC,hb.mono oQ,hS.Cj⟩
theorem uK(cf:Nat)(lb:Array Go.Value)(p:Grp→Bool)(hen:∀args w,(callFunc cf args).run prog w=.ok (.enter cf args) w)(b:Nat)(kv:List (Grp×Go.Value))(w:World)(hM:Mk.IMap Ca w b kv)(hp:∀W,Fr (· =b) w W→∀g,g∈kv.map (·.1)→∀u,Ret prog cf (#[.agg (Grp.cells g),u]++lb) W fun r W'=>r=.bool (!p g)∧Up W W'):Ret prog 58 #[.map (some b),.func (.func cf) #[] lb] w fun r w'=>r=.tuple #[]∧Stp (Mk.Be Ca b (kv)) (Mk.Be Ca b (kv.filter fun q=>p q.1)) w w':=by
 obtain⟨w0,rfl,_⟩:=W0 w
 have hS:Wx.Sep (Mk.Be Ca b (kv)).foot w0 w0 [Mk.Be Ca b (kv)]:=Sep.cons (A:=Mk.Be Ca b (kv)) hM (fun _ h=>h) (Sep.start _ _) (by simp)
 refine cT 19 func58 rfl (Af (Ac rfl (Ao (Mk.REv.range (Q:=Ca) mr (.t rfl) (hS.get 0 rfl)) rfl ?_)))
 rintro _ w1 ⟨r7,rfl,hR_,uR,eR,zR⟩
 replace hS:=hS.E5 0 rfl (Mk.G4 hR_ uR eR)
 refine Ai (Ap (A9 (σ:=List Grp) (fun s w=>(s.Nodup∧∀k∈s,k∈kv.map (·.1))∧(Wx.Sep (Mk.Be Ca b (kv)).foot w0 w [Mk.Gg Ca b r7 (Td p kv s) (s.filter p)])) (fun s=>[]) ([(0,.eq _),(1,.eq _),(7,.eq _)]) (fun s=>kv.length-s.length) [] ?_ tQ ?_))
 ·exact⟨⟨dz,fun _ h=>(by cases h)⟩,by rw[tO];exact hS⟩
 rintro V w2 ⟨hV,hS⟩
 refine Af (Ao (Mk.REv.next (.t rfl) (hS.get 0 rfl)) rfl ?_)
 rintro _ w3 (⟨rfl,rfl,hPm⟩|⟨k0,u0,rfl,hNx⟩)
 ·skip
  refine I (.xt rfl rfl) (Ar (CW.f rfl (A7 (Ad (Ad (Au (Di rfl ⟨_,rfl,?_⟩)))))))
  rw[tR hPm]at hS
  have hS2:=hS.E5 0 rfl (Mk.Vh (hS.get 0 rfl))
  exact⟨rfl,hS2.fr,hS2.get 0 rfl,fun _ h=>.inl h⟩
 skip
 have zw3:=hNx.size
 replace hS:=hS.E5 0 rfl (Mk.H3 hNx)
 obtain⟨hk0V,hk0⟩:=iD hNx.mem hNx.fresh
 have hk0m:k0∈kv.map (·.1):=aq.2 ⟨_,hk0,rfl⟩
 have hV2:(V++[k0]).Nodup∧∀k∈V++[k0],k∈kv.map (·.1):=⟨dl.2 ⟨hV.1,by simp,fun a ha c hc=>by simp at hc;subst hc;exact fun e=>hk0V (e▸ha)⟩,fun k hk=>(be.1 hk).elim (hV.2 k) (fun h=>by cases aa.1 h;exact hk0m)⟩
 have hVl:=hV2.1.length_le_of_subset hV2.2
 rw[au,cl,cd]at hVl
 refine I (.xt rfl rfl) (Ar (CW.v rfl (Ak (Ab (Ap (Af (Ao (.entry (.t rfl) hNx.entry) rfl ?_)))))))
 rintro _ _ ⟨rfl,rfl⟩
 refine I (.xt rfl rfl) (I (.xt rfl rfl) (Ao (.Bi m6) rfl ?_))
 rintro _ w4 ⟨B4,rfl,MB4⟩
 refine Bh (.A5 sizeOf80 rfl (.t rfl) (.t rfl) (Grp.one _) MB4.blk rfl) ?_
 intro w5 LB4
 have NB4:=MB4.set LB4
 replace hS:=hS.Bn NB4
 refine LW.A rfl (Ar (Aa (Ac rfl (I (.lc rfl (hS.b1.agg)) (Ac rfl (A3 (D0 (.t rfl) (.ct rfl (.cu rfl)) (hen)) rfl (hp _ hS.fr k0 hk0m u0) ?_))))))
 rintro _ w6 ⟨rfl,uw6⟩
 replace hS:=hS.up uw6
 refine Ai (CW.b rfl (fun h16=>?_) (fun h16=>?_))
 ·have hid:p k0=false:=by simpa using h16
  refine Aa (Ac rfl (I (.lc rfl (hS.b1.agg)) (BT (Mk.REv.yY (Q:=Ca) mr La (.t rfl) (.t rfl) (hS.get 0 rfl)) rfl rfl rfl ?_)))
  rintro _ w7 ⟨hR2,Kd,zd⟩
  replace hS:=hS.E5 0 rfl (Mk.yX hR2 Kd)
  refine LW.nil (Ae (Aq ?_))
  exact⟨V++[k0],⟨hV2,by(rw[zI kv V hid,EQ V hid];exact hS.take 1)⟩,tQ,by rw[au,cl];omega⟩
 have hid:p k0=true:=by simpa using h16
 refine Ak (Ae (Aq ?_))
 exact⟨V++[k0],⟨hV2,by(rw[tP kv V hid,zJ V hid];exact hS.take 1)⟩,tQ,by rw[au,cl];omega⟩
theorem uL(g:Grp)(u:Go.Value)(Bt bt:Nat)(L:List Grp)(w:World)(hg:g.ok)(hT:Blk w Bt #[.map (some bt)] 74)(hM:Mk.IMap Ca w bt (L.map Ka)):Ret prog 59 #[.agg g.cells,u,.pointer (some ⟨Bt,0,none⟩)] w fun r w'=>r=.bool (!decide (g∈L))∧Up w w':=by
 have hW:=Up.refl w
 refine cT 16 func59 rfl (Af (Ao (.bA rfl) rfl ?_))
 rintro _ w1 ⟨B3,rfl,NB3⟩
 replace hT:=hT.up NB3.up
 replace hM:=hM.up NB3.up
 replace hW:=hW.up NB3.up
 have hB3:=NB3.blk
 refine J (Ar (Aa (I (.lb rfl (hT.An rfl)) (I (.lc rfl (hB3.agg)) (I (.zC m7 La hg zeroValue67 (.t rfl) (.t rfl) hM) (Ac rfl (I (.xt rfl rfl) (I (.xt rfl rfl) (Ao (.Bi zeroValue67) rfl ?_)))))))))
 rintro _ w2 ⟨B6,rfl,MB6⟩
 refine Bh (.A5 sizeOf67 rfl (.t rfl) (.t rfl) (by simp[Value.oneCell']) MB6.blk rfl) ?_
 intro w3 LB6
 have NB6:=MB6.set LB6
 replace hT:=hT.up NB6.up
 replace hM:=hM.up NB6.up
 replace hW:=hW.up NB6.up
 replace hB3:=hB3.up NB6.up
 have hB6:=NB6.blk
 refine LW.A rfl (Ar (Aa (Ac rfl (I (.n1 rfl) (LW.A rfl (Ai (Aj (KW.q ?_))))))))
 exact⟨rfl,hW⟩
theorem dM(E bf bd:Nat)(bc:Array Go.Value)(nw:Int)(kb:Base)(ad:Option Addr)(cp:Nat)(D:List DE)(w:World)(hE:Blk w E (EC bf bc bd nw) 62)(hbc:bc.size=11)(h0:bc[0]?=some (.slice ad kb.Processes.length cp))(hEp:Els w ad 19 Fact.cells kb.Processes)(hPb:kb.Processes≠[]→∀B o,ad=some ⟨B,o,none⟩→B≠bd)(hok:∀p∈kb.Processes,(H6 p).ok)(hl:kb.Processes.length≤100000)(hEn:¬Cl [Mk.Be Ca bd (D.map DE.kv)] E)(hS0:Wx.Sep (Cl [Mk.Be Ca bd (D.map DE.kv)]) w w [Mk.Be Ca bd (D.map DE.kv)]):Ret prog 31 #[.pointer (some ⟨E,0,none⟩)] w fun r w'=>r=.tuple #[]∧Wx.Sep (Cl [Mk.Be Ca bd (D.map DE.kv)]) w w' [Mk.Be Ca bd ((Re D kb.Processes).map DE.kv)]:=by
 obtain⟨w0,rfl,_⟩:=W0 w
 have hS:=hS0
 refine cT 47 func31 rfl (Af (Ao (Mk.REv.makeMap (Q:=Ca)) rfl ?_))
 rintro _ w1 ⟨M8,rfl,hMM8,uw1,eM8,zM8⟩
 replace hS:=hS.add uw1 (A':=Mk.Be Ca M8 ((C6 (kb.Processes.take 0)).map Ka)) hMM8 (fun i(h:i=M8)=>by omega)
 refine Ao (.Tv zeroValue74 rfl) rfl ?_
 rintro _ w2 ⟨B2,rfl,MB2⟩
 refine Bh (.store sizeOf74 (.t rfl) (.t rfl) rfl MB2.blk cQ) ?_
 intro w3 LB2
 have NB2:=MB2.set LB2
 replace hS:=hS.Bn NB2
 refine Ar (Af (Ac rfl (I (.nc rfl) (I (.fB 1 rfl) (I (.fB 0 rfl) (I (.lb rfl (tL (hE.Xb hS.fr hEn) h0)) (I (.Df k6 (.t rfl)) (I (.move (.const _)) (Ai (Ap (A9 (σ:=Nat) (fun s w=>(s≤kb.Processes.length)∧(Wx.Sep (Cl [Mk.Be Ca bd (D.map DE.kv)]) w0 w [Mk.Be Ca bd ((Rc D (kb.Processes.take s)).map DE.kv),Mk.Be Ca M8 ((C6 (kb.Processes.take s)).map Ka),Ch B2 #[.map (some M8)] 74])) (fun s=>[(15,.eq (vi (s:Int)))]) ([(0,.eq _),(2,.eq _),(13,.eq _),(14,.eq _)]) (fun s=>kb.Processes.length-s) 0 ?_ tQ ?_)))))))))))
 ·exact⟨ao _,hS⟩
 rintro i w4 ⟨hi,hS⟩
 refine Af (I (.l2 rfl rfl) (Ar (CW.b rfl (fun h16=>?_) (fun h16=>?_))))
 ·replace h16:=dQ h16
  refine Ak (Ab (Al (Ap (Al ?_))))
  have hil:i<kb.Processes.length:=by omega
  obtain⟨x,hx⟩:∃x,kb.Processes[i]?=some x:=⟨_,b_ hil⟩
  obtain⟨Bx,ox,ax,hcx⟩:=(Els.fr hEp hS.fr (fun B o ea hs=>by obtain⟨A_,hA_,hf_⟩:=hs;cases aa.1 hA_;exact hPb (fun e=>by rw[e]at hil;simp at hil) B o ea hf_)) i x hx
  have hgo:=hok x (am hx)
  refine Aa (I (.Ay k6 k7 (j:=i) (.t rfl) (.t rfl) oQ ax) (I (.lc rfl (hcx)) (Ao (.Bi k_) rfl ?_)))
  rintro _ w5 ⟨B4,rfl,MB4⟩
  refine Bh (.A5 k7 rfl (.t rfl) (.t rfl) (Fact.one _) MB4.blk rfl) ?_
  intro w6 LB4
  have NB4:=MB4.set LB4
  replace hS:=hS.Bn NB4
  refine Ar (Aa (I (.lc rfl (hS.b3.agg)) (A3 (eC (.o rfl) (GP)) rfl (lM x _) ?_)))
  rintro _ w7 ⟨rfl,uw7⟩
  replace hS:=hS.up uw7
  refine Ao (.Bi m6) rfl ?_
  rintro _ w8 ⟨B5,rfl,MB5⟩
  refine Bh (.A5 sizeOf80 rfl (.t rfl) (.t rfl) (Grp.one _) MB5.blk rfl) ?_
  intro w9 LB5
  have NB5:=MB5.set LB5
  replace hS:=hS.Bn NB5
  refine Ar (Aa (I (.lb rfl (hS.b2.An rfl)) (I (.lc rfl (hS.b4.agg)) (I (.build (cs:=#[]) underlying67 zeroValue67 K1 .nil rfl) (Bh (Mk.SEv.mapUpdate (Q:=Ca) m7 La hgo (.t rfl) (.t rfl) (.t rfl) (hS.get 1 rfl)) ?_)))))
  rintro w10 ⟨Mu,Ku,zu⟩
  rw[cZ]at Mu
  replace hS:=hS.E5 1 rfl (Mk.Im Mu Ku)
  refine Ar ?_
  cases hq6:decide (H6 x∈(Rc D (kb.Processes.take i)).map (·.g))with
  |true=>
   replace hq6:=bj hq6
   obtain⟨e6,he6,hg6⟩:=aq.1 hq6
   refine Cg kQ kQ rfl rfl (Am (.mv rfl) (Am (.nc rfl) (Am (.fB 12 rfl) (Am (.lb rfl ((hE.Xb hS.fr hEn).cell (Pu hbc))) (Am (.lc rfl (hS.b4.agg)) (Am (Mk.PEv.Ek (Q:=Ca) (ok:=true) (v:=e6.v) mr La hgo (.t rfl) (.t rfl) (hS.get 0 rfl) (aq.2 ⟨e6,he6,by unfold DE.kv;rw[hg6]⟩)) (Am (.mv rfl) (Am (.xt rfl rfl) (Am (.tr (PEv.xt rfl rfl) (rfl)) (Am (.assign (.t rfl)) (Am (.assign (.t rfl)) (HW.nil ?_))))))))))))
   intro w11 uw11
   replace hS:=hS.up uw11
   refine Ab (Af (Ac rfl (I (.n1 rfl) (Ai (CW.f rfl (Ak (Ae (Ab (Aa (I (.ic rfl oQ) (Ac rfl (LW.nil (Aq ?_)))))))))))))
   exact⟨i+1,⟨by omega,by rw[Mg hx,X5 hx];(rw[tU hq6];exact hS.take 3)⟩,tQ,by omega⟩
  |false=>
   replace hq6:=db hq6
   refine Cg kQ kQ rfl rfl (Am (.mv rfl) (Am (.nc rfl) (Am (.fB 12 rfl) (Am (.lb rfl ((hE.Xb hS.fr hEn).cell (Pu hbc))) (Am (.lc rfl (hS.b4.agg)) (Am (Mk.PEv.Ha (Q:=Ca) (ok:=true) mr La hgo zeroValue47 (.t rfl) (.t rfl) (hS.get 0 rfl) (by rw[Rb];exact hq6)) (Am (.mv rfl) (Am (.xt rfl rfl) (Am (.fa (PEv.xt rfl rfl) (rfl)) (Am (.assign (.t rfl)) (Am (.assign (.t rfl)) (HW.nil ?_))))))))))))
   intro w12 uw12
   replace hS:=hS.up uw12
   refine Ab (Af (Ac rfl (I (.n1 rfl) (Ai (CW.v rfl (Fy 5 kQ kQ kQ kQ kQ rfl rfl (Am (.mv rfl) (Am (.nc rfl) (Am (.fB 12 rfl) (Am (.lb rfl ((hE.Xb hS.fr hEn).cell (Pu hbc))) (Am (.lc rfl (hS.b4.agg)) (HW.nil ?_))))))))))))
   intro w13 uw13
   replace hS:=hS.up uw13
   refine Bh (Mk.SEv.mapUpdate (Q:=Ca) mr La hgo (.t rfl) (.t rfl) (.const _) (hS.get 0 rfl)) ?_
   rintro w14 ⟨Mu,Ku,zu⟩
   rw[oD hq6]at Mu
   replace hS:=hS.E5 0 rfl (Mk.Im Mu Ku)
   refine LW.nil (Ae (Ab (Aa (I (.ic rfl oQ) (Ac rfl (LW.nil (Aq ?_)))))))
   exact⟨i+1,⟨by omega,by rw[Mg hx,X5 hx];exact hS.take 3⟩,tQ,by omega⟩
 replace h16:=dQ h16
 refine A7 (Ad (Ad (Au (Ab ?_))))
 have hie:i=kb.Processes.length:=by omega
 rw[hie,br]at hS
 have okR:∀g,g∈((Rc D kb.Processes).map DE.kv).map (·.1)→g.ok:=fun g hg=>by obtain⟨q,hq,rfl⟩:=aq.1 hg;exact OB (hS.get 0 rfl) hq
 refine Aa (Ac rfl (I (.nc rfl) (I (.fB 12 rfl) (I (.lb rfl ((hE.Xb hS.fr hEn).cell (Pu hbc))) (I (.makeFunc (.cu rfl)) (A3 (eC (.u rfl rfl) (ML)) rfl (uK 59 _ (fun g=>decide (g∈C6 kb.Processes)) MM bd _ _ (hS.get 0 rfl) (fun W hW g hg u=>uL g u B2 M8 _ W (okR g hg) (hS.b2.Xb hW (fun e=>tS hS (show 0<2 by decide) rfl rfl bd rfl (kp e))) (tT (hS.get 1 rfl) hW (fun e=>tS hS (show 0<1 by decide) rfl rfl bd rfl (kp e))))) ?_))))))
 rintro _ w15 ⟨rfl,uw15⟩
 replace hS:=hS.E5 0 rfl uw15
 refine LW.nil (Di rfl ⟨_,rfl,?_⟩)
 rw[zL]at hS
 exact⟨rfl,hS.take 1⟩
theorem Yb{n:Nat}{ds:List Deferred}{l:Env}{w:World}{d:Option Tmp}{ty:TypeId}{ps:String}{af:Array Edge}{g:Option (Nat×Bool)}{mo x:Operand}{b:Nat}{k:List UInt8}{m:Dw}(hm:Val l mo (.map (some b)))(hx:Val l x (Ms.vs k))(h:Ms.IMap w b (E9 m)):
   PEv prog n ds l w ⟨d,.lookup 59 mo x false,ty,ps,af,g⟩ (.agg (Kv m k).cells):=by
 unfold Kv
 cases hg:Fi m k with
 |some f=>exact Ms.PEv.Ek (ok:=false) (v:=.agg f.cells) mt lu hm hx h (N5 hg)
 |none=>exact Ms.PEv.Ha (ok:=false) mt lu k_ hm hx h (Lj hg)
theorem oN(k:Int):(uI k=.nilFunc∧∀kb f g,f.Kind=k→Fl kb f g=false)∨∃cf,uI k=.func (.func cf) #[] #[]∧(∀args w,(callFunc cf args).run prog w=.ok (.enter cf args) w)∧∀(f:Fact)(E bf bd bs:Nat)(bc:Array Go.Value)(n:Int)(kv:List (Grp×Go.Value))(St:List Grp)(w:World)(_:Blk w E (EC bf bc bd n) 62)(_:bc.size=11)(_:¬Cl [Mk.Be Ca bd kv,Mk.Be Ca bs (List.map Ka St)] E)(_:Wx.Sep (Cl [Mk.Be Ca bd kv,Mk.Be Ca bs (List.map Ka St)]) w w [Mk.Be Ca bd kv,Mk.Be Ca bs (List.map Ka St)])(kb:Base)(_:BaseC w bc kb)(_:kb.Processes.length≤100000),f.Kind=k→f.Gone=false→Ret prog cf (#[.agg #[.pointer (some ⟨E,0,none⟩),.map (some bs)],.agg f.cells]++#[]) w fun r w'=>∃St',r=.tuple #[]∧Wx.Sep (Cl [Mk.Be Ca bd kv,Mk.Be Ca bs (List.map Ka St)]) w w' [Mk.Be Ca bd kv,Mk.Be Ca bs (List.map Ka St')]∧∀g,g∈St'↔g∈St∨(g∈kv.map (·.1)∧Fl kb f g=true):=by
 rcases CE k with(rfl|rfl|rfl|rfl)|hkn
 · refine .inr ⟨60,rfl,GQ,fun f E bf bd bs bc n kv St w hE hbc hEn hS0 kb hC hkb hk hg=>(S5 f E bf bd bs bc n kv St w hE hbc hEn hS0).mono fun r w' h=>?_⟩
   obtain⟨St',h1,h2,h3⟩:=h
   exact⟨St',h1,h2,fun g=>by rw[h3 g];unfold Fl;rw[hk,hg];rfl⟩
 · refine .inr ⟨61,rfl,MN,fun f E bf bd bs bc n kv St w hE hbc hEn hS0 kb hC hkb hk hg=>(dL f E bf bd bs bc n kv St w hE hbc hEn hS0 kb hC hkb).mono fun r w' h=>?_⟩
   obtain⟨St',h1,h2,h3⟩:=h
   exact⟨St',h1,h2,fun g=>by rw[h3 g];unfold Fl;rw[hk,hg];rfl⟩
 · refine .inr ⟨62,rfl,MO,fun f E bf bd bs bc n kv St w hE hbc hEn hS0 kb hC hkb hk hg=>(oM f E bf bd bs bc n kv St w hE hbc hEn hS0).mono fun r w' h=>?_⟩
   obtain⟨St',h1,h2,h3⟩:=h
   exact⟨St',h1,h2,fun g=>by rw[h3 g];unfold Fl;rw[hk,hg];rfl⟩
 · refine .inr ⟨63,rfl,MP,fun f E bf bd bs bc n kv St w hE hbc hEn hS0 kb hC hkb hk hg=>(iJ f E bf bd bs bc n kv St w hE hbc hEn hS0).mono fun r w' h=>?_⟩
   obtain⟨St',h1,h2,h3⟩:=h
   exact⟨St',h1,h2,fun g=>by rw[h3 g];unfold Fl;rw[hk,hg];rfl⟩
 refine .inl ⟨lN hkn,fun kb f g hk=>?_⟩
 obtain⟨h1,h2,h3,h4⟩:=hkn
 unfold Fl
 rw[hk,ae h1,ae h2,ae h3,ae h4,ji]
def eN(e:DE):Asr:=E8 [A8 57 6 DP.cells e.v e.L,E8 (Fb 3 e.L)]
def Mn(D:List DE):Asr:=E8 (D.map eN)
theorem uM(g:Grp):∀i,¬(eN (ER g)).foot i:=by
 rintro i ⟨A,hA,hi⟩
 simp only[ap,ba,b8]at hA
 rcases hA with rfl|rfl
 · cases hi
 obtain⟨B,hB,_⟩:=hi
 cases hB
theorem oO(g:Grp)(w:World):(eN (ER g)).holds w:=by
 refine⟨fun A hA=>?_,?_⟩
 · simp only[ap,ba,b8]at hA
   rcases hA with rfl|rfl
   · exact OwnS.nil _ _ _ _ _
   exact⟨fun _ h=>(by cases h),List.Pairwise.nil⟩
 refine j0.2 fun _ hi=>by cases hi
theorem AE{D D':List DE}{w:World}(h:D'.Sublist D)(hD:(Mn D).holds w):Stp (Mn D) (Mn D') w w:=
 ⟨Fr.refl _ _,⟨fun A hA=>hD.1 A ((h.map eN).subset hA),hD.2.sublist (h.map eN)⟩,fun _⟨A,hA,hi⟩=>.inl ⟨A,(h.map eN).subset hA,hi⟩⟩
theorem lO{D:List DE}{w:World}(g:Grp)(hD:(Mn D).holds w):Stp (Mn D) (Mn (Pv D g)) w w:=by
 unfold Pv
 split
 · exact Stp.refl hD
 refine⟨Fr.refl _ _,⟨fun A hA=>?_,?_⟩,fun i⟨A,hA,hi⟩=>?_⟩
 · rw[cq]at hA
   rcases be.1 hA with h|h
   · exact hD.1 A h
   rw[j1,aa]at h;subst h;exact oO g w
 · rw[cq]
   refine cc.2 ⟨hD.2,gv _ _,fun A _ B hB i _ hi=>?_⟩
   rw[j1,aa]at hB
   subst hB
   exact uM g i hi
 rw[cq]at hA
 rcases be.1 hA with h|h
 · exact .inl ⟨A,h,hi⟩
 rw[j1,aa]at h;subst h;exact absurd hi (uM g i)
theorem AF{D:List DE}{w:World}(l:List Fact)(hD:(Mn D).holds w):Stp (Mn D) (Mn (Re D l)) w w:=by
 have key:∀(l:List Fact)(D:List DE),(Mn D).holds w→Stp (Mn D) (Mn (Rc D l)) w w:=by
   intro l
   induction l with
   |nil=>exact fun D h=>Stp.refl h
   |cons x l ih=>exact fun D h=>(lO (H6 x) h).trans (ih _ (lO (H6 x) h).holds)
 exact(key l D hD).trans (AE fh (key l D hD).holds)
theorem AG{D:List DE}{w w':World}{j:Nat}{e e':DE}(hD:(Mn D).holds w)(hj:D[j]?=some e)(u:Up w w')(h:(eN e').holds w')(hn:∀i,(eN e').foot i→w.heap.size≤i):Stp (Mn D) (Mn (D.set j e')) w w':=by
 have:=Ur hD (j:=j) (A:=eN e) (by rw[cg,hj];rfl) (A':=eN e') ⟨u.fr _,h,fun i hi=>.inr (hn i hi)⟩
 rwa [←List.map_set]at this
end Go.Proofs.YtbcnnkfopoiifaaGreatDoor
namespace Go.Wx
open Go.RowKit
section
variable {R:Option Nat}{m:Nat}{P:Program}{n:Nat}{ds:List Deferred}{Q:Exit→Go.Act→World→Prop}{l:Env}{w:World}{ops:Array Oper}
def Vo(ops:Array Oper)(k:Nat):Bool:=
 (List.range ops.size).all fun i=> !Nat.ble (k+1) i||(match ops[i]? with|none=>false|some o=>o.after.any fun e=>Region.binds .any e&&Nat.ble k e.on)
theorem dN{k:Nat}(h:Vo ops k=true){i:Nat}{o:Oper}(ho:ops[i]?=some o)(hk:k<i):∃e∈o.after,Region.binds .any e=true∧k≤e.on:=by
 have hi:i<ops.size:=(bh.1 ho).1
 have h1:=b7.1 h i (bl.2 hi)
 have hb:Nat.ble (k+1) i=true:=eu hk
 simp only[ho,hb,gt,fo]at h1
 obtain⟨e,he,hh⟩:=ft.1 h1
 simp only[aw]at hh
 exact⟨_,d9 he,hh.1,ah hh.2⟩
theorem iL{w0:World}{base:Env}(s:Nat)(hss:s≤ops.size)(hok:Wr n ops=true)(E:Nat→Env)(hE0:E s=[])
   (hE:∀(i:Nat)(o:Oper),s≤i→ops[i]?=some o→∃ph d,o.dst=some d∧phUp ph∧wM P n ds ops w0 (Bo (o.looksAt ops) (E i)++base) o ph∧E (i+1)=(d,ph)::E i)
   (hbase:∀i ph,lk base i=some ph→phUp ph∧∀(j:Nat)(o:Oper),s≤j→ops[j]?=some o→o.dst≠some i)
   (hQ:∀a w,Up w0 w→Ag n ds (E ops.size++base) a w→Q .normal a w):
   ∀(fuel:Nat)(listed:Array Bool)(a:Act)(w:World),listed.size=ops.size→listed.toList.countP (· ==false)≤fuel→(∀j,j<s→listed.getD j false=true)→Up w0 w→Ag n ds base a w→
     (∀(j:Nat)(o:Oper)(d:Nat)(ph:Ph),s≤j→ops[j]?=some o→o.dst=some d→E (j+1)=(d,ph)::E j→listed.getD j false=true→ph.holds (a.tmps.getD d undef) w)→
     wpAnyIn (FR R) m P .any ops Q fuel listed a w:=by
 -- a slot of a part of E comes of an operation ahead
 have hEl:∀k i ph,s≤k→k≤ops.size→lk (E k) i=some ph→∃j o,s≤j∧j<k∧ops[j]?=some o∧o.dst=some i∧E (j+1)=(i,ph)::E j:=by
   intro k
   induction k with
   |zero=>intro i ph hs0 _ h;rw[show 0=s by omega,hE0]at h;cases h
   |succ k ih=>
     intro i ph hsk hk h
     by_cases es:s=k+1
     · rw[←es,hE0]at h;cases h
     have hko:ops[k]?=some ops[k]:=by simp[show k<ops.size by omega]
     obtain⟨q,d,hd,_,_,he⟩:=hE k _ oQ hko
     rw[he]at h
     by_cases e:i=d
     · subst e
       rw[Bk]at h
       cases h
       exact⟨k,_,by omega,by omega,hko,hd,he⟩
     rw[Bl e]at h
     obtain⟨j,o,h0,h1,h2⟩:=ih i ph oQ oQ h
     exact⟨j,o,h0,by omega,h2⟩
 have hall:∀(listed:Array Bool),listed.size=ops.size→Region.ready .any ops listed=[]→∀i,i<ops.size→listed.getD i false=true:=by
   intro listed hs hr i
   induction i using Nat.strongRecOn with
   |_ i ih=>
     intro hi
     cases hb:listed.getD i false with
     |true=>rfl
     |false=>
       exfalso
       have hmem:i∈Region.ready .any ops listed:=by
         unfold Region.ready
         rw[bx]
         refine⟨bl.2 hi,?_⟩
         have hio:ops[i]?=some ops[i]:=by simp[hi]
         have hlt:i<listed.size:=by omega
         have hb':listed.getD i true=false:=by
           rw[aj]at hb⊢
           simp only[hlt,bm,b6]at hb⊢
           exact hb
         simp only[hb',Bool.not_false,hio,el,b6,gp]
         refine bz.2 fun e he=>?_
         cases hbe:Region.binds .any e with
         |false=>rfl
         |true=>
           have:=(Jv hok hio).2.1 e he hbe
           simp[ih e.on this (by omega)]
       rw[hr]at hmem
       cases hmem
 have hdone:∀(listed:Array Bool)(a:Act)(w:World),listed.size=ops.size→Region.ready .any ops listed=[]→Up w0 w→Ag n ds base a w→
     (∀(j:Nat)(o:Oper)(d:Nat)(ph:Ph),s≤j→ops[j]?=some o→o.dst=some d→E (j+1)=(d,ph)::E j→listed.getD j false=true→ph.holds (a.tmps.getD d undef) w)→Q .normal a w:=by
   intro listed a w hs hr hu ha hI
   refine hQ a w hu ⟨ha.defers,ha.size,fun i ph hi=>?_⟩
   rcases C3 hi with h|h
   · obtain⟨j,o,hsj,hj,ho,hd,he⟩:=hEl _ _ _ hss (av _) h
     exact hI j o i ph hsj ho hd he (hall listed hs hr j hj)
   exact ha.val i ph h
 intro fuel
 induction fuel with
 |zero=>
   intro listed a w hs hc hlo hu ha hI
   have hnone:∀i,i<ops.size→listed.getD i false=true:=by
     intro i hi
     have h0:listed.toList.countP (· ==false)=0:=by omega
     rw[et]at h0
     have hlt:i<listed.size:=by omega
     have:=h0 listed[i] (by simp)
     rw[aj]
     simp only[hlt,bm,b6]
     simpa using this
   have hr:Region.ready .any ops listed=[]:=by
     unfold Region.ready
     rw[f_]
     intro i hi
     have hi':=bl.1 hi
     have h1:=hnone i hi'
     have hlt:i<listed.size:=by omega
     have:listed.getD i true=true:=by
       rw[aj]at h1⊢
       simp only[hlt,bm,b6]at h1⊢
       exact h1
     simp[this]
   exact⟨hr,hdone listed a w hs hr hu ha hI⟩
 |succ fuel ih=>
   intro listed a w hs hc hlo hu ha hI
   refine⟨fun hr=>hdone listed a w hs hr hu ha hI,fun i hi=>?_⟩
   unfold Region.ready at hi
   rw[bx]at hi
   obtain⟨hir,hi2⟩:=hi
   have hi':i<ops.size:=bl.1 hir
   have hio:ops[i]?=some ops[i]:=by simp[hi']
   generalize ops[i]=o at hio
   simp only[aw,hio,el,b6]at hi2
   obtain⟨hb,hed⟩:=hi2
   have hlt:i<listed.size:=by omega
   have hbi:listed[i]=false:=by
     rw[aj]at hb
     simp only[hlt,bm,b6]at hb
     simpa using hb
   have hsi:s≤i:=by
     rcases dq i s with h|h
     · have h1:=hlo i h
       rw[aj]at h1
       simp only[hlt,bm,b6]at h1
       rw[hbi]at h1;cases h1
     exact h
   obtain⟨hd0,hon,hpair⟩:=Jv hok hio
   obtain⟨ph,d,hd,hup,hop,hEi⟩:=hE i o hsi hio
   have hdn:d<n:=by obtain⟨d',h1,h2⟩:=hd0;rw[hd]at h1;cases h1;exact h2
   -- what the operation looks at is known
   have hag:Ag n ds (Bo (o.looksAt ops) (E i)++base) a w:=by
     refine⟨ha.defers,ha.size,fun t q ht=>?_⟩
     rcases C3 ht with h|h
     · obtain⟨h1,h2⟩:=Eg h
       obtain⟨j,p,hsj,hj,hp,hpd,hEj⟩:=hEl _ _ _ hsi oQ h2
       obtain⟨e,he,hbe,hon'⟩:=(hpair j p hp).2 t hpd h1
       have:=bz.1 hed e he
       rw[hbe,hon']at this
       exact hI j p t q hsj hp hpd hEj (by simpa using this)
     exact ha.val t q h
   have step:∀v w',Up w w'→ph.holds v w'→wpAnyIn (FR R) m P .any ops Q fuel (listed.setIfInBounds i true) (a.put o.dst v) w':=by
     intro v w' hu' hv
     have hcnt:(listed.setIfInBounds i true).toList.countP (· ==false)≤fuel:=by
       rw[io,jt (by simpa using hlt)]
       have hpos:0<listed.toList.countP (· ==false):=ja.2 ⟨listed[i],by simp,by simp[hbi]⟩
       have e1:(listed.toList[i]'(by simpa using hlt)==false)=true:=by simp[hbi]
       rw[ak e1,ae (by simp)]
       omega
     refine ih _ _ _ (by simpa using hs) hcnt (fun j hj=>by rw[C5 hlt,ae (by omega)];exact hlo j hj) (hu.trans hu') ?_ ?_
     · refine⟨by rw[hd];exact ha.defers,by rw[hd];simp[Act.put,ha.size],fun t q ht=>?_⟩
       have hne:t≠d:=fun e=>(hbase t q ht).2 i o hsi hio (by rw[hd,e])
       rw[hd,Cv hne]
       exact(hbase t q ht).1 _ _ _ (ha.val t q ht) hu'
     intro j p d' q hsj hp hpd hEj hl
     by_cases e:j=i
     · subst e
       rw[hio]at hp
       cases hp
       rw[hd]at hpd
       cases hpd
       rw[hEi]at hEj
       cases hEj
       rw[hd,Dt (by rw[ha.size];exact hdn)]
       exact hv
     have hne:d'≠d:=fun ee=>(hpair j p hp).1 (fun ee=>e ee.symm) (by rw[hd,hpd,ee])
     rw[hd,Cv hne]
     obtain⟨q',d'',hd'',hup',_,hEj'⟩:=hE j p hsj hp
     rw[hEj]at hEj'
     cases hEj'
     have hl':listed.getD j false=true:=by
       rw[aj,gu (fun ee=>e ee.symm)]at hl
       rw[aj];exact hl
     exact hup' _ _ _ (hI j p d' q hsj hp hpd hEj hl') hu'
   have h2:=hop a w hu hag
   unfold wpOpIn
   rw[hio]
   dsimp only
   by_cases hw:Region.wanted o (yielded ops a.tmps)=true
   · rw[ak hw]at h2⊢
     exact Hp h2 fun v w'⟨h3,h4⟩=>step v w' h3 h4
   rw[ae hw]at h2⊢
   exact⟨fun _ _=>trivial,step _ _ (Up.refl w) h2⟩
theorem oP{k:Nat}{w0:World}{base:Env}{dh:Nat}{oh:Oper}{PostH:Value→World→Prop}(hok:Wr n ops=true)(hC:Fm ops k=true)(hB:Vo ops k=true)(hkk:k<ops.size)(E:Nat→Env)(hE0:E 0=[])
   (hE:∀(i:Nat)(o:Oper),i<k→ops[i]?=some o→∃ph d,o.dst=some d∧phUp ph∧wM P n ds ops w0 (Bo (o.looksAt ops) (E i)++base) o ph∧E (i+1)=(d,ph)::E i)
   (hbp:Cf base=true)(hbase:∀i ph,lk base i=some ph→∀(j:Nat)(o:Oper),ops[j]?=some o→o.dst≠some i)
   (hoh:ops[k]?=some oh)(hdh:oh.dst=some dh)(hgh:oh.guard=none)
   (hH:∀a w,Up w0 w→Ag n ds (Bo (oh.looksAt ops) (E k)++base) a w→eS P oh a w PostH)
   (hQ:∀v w1,PostH v w1→∃E2:Nat→Env,E2 (k+1)=[]∧(∀(i:Nat)(o:Oper),k+1≤i→ops[i]?=some o→∃ph d,o.dst=some d∧phUp ph∧wM P n ds ops w1 (Bo (o.looksAt ops) (E2 i)++((dh,.eq v)::(Ej (E k)++base))) o ph∧E2 (i+1)=(d,ph)::E2 i)∧
     ∀a w,Up w1 w→Ag n ds (E2 ops.size++((dh,.eq v)::(Ej (E k)++base))) a w→Q .normal a w):
   ∀(fuel:Nat)(listed:Array Bool)(a:Go.Act)(w:World),listed.size=ops.size→listed.toList.countP (· ==false)≤fuel→(∀j,k≤j→j<ops.size→listed.getD j false=false)→Dn ops listed→Up w0 w→Ag n ds base a w→
     (∀(j:Nat)(o:Oper)(d:Nat)(ph:Ph),j<k→ops[j]?=some o→o.dst=some d→E (j+1)=(d,ph)::E j→listed.getD j false=true→ph.holds (a.tmps.getD d undef) w)→
     wpAnyIn (FR R) m P .any ops Q fuel listed a w:=by
 have hA:Ea ops=true:=by
   refine b7.2 fun i hi=>?_
   have hi':=bl.1 hi
   have hio:ops[i]?=some ops[i]:=by simp[hi']
   rw[hio]
   dsimp only
   refine bz.2 fun e he=>?_
   cases hb:Region.binds .any e with
   |false=>rfl
   |true=>simpa using eu ((Jv hok hio).2.1 e he hb)
 have hE':∀(i:Nat)(o:Oper),i<k→ops[i]?=some o→∃ph d,o.dst=some d∧E (i+1)=(d,ph)::E i:=fun i o hi ho=>let⟨ph,d,h1,_,_,h2⟩:=hE i o hi ho;⟨ph,d,h1,h2⟩
 have hDP:=Sn hE0 hE' oQ
 have hEl:∀c i ph,c≤k→lk (E c) i=some ph→∃j o,j<c∧ops[j]?=some o∧o.dst=some i∧E (j+1)=(i,ph)::E j:=by
   intro c
   induction c with
   |zero=>intro i ph _ h;rw[hE0]at h;cases h
   |succ c ih=>
     intro i ph hk h
     have hko:ops[c]?=some ops[c]:=by simp[show c<ops.size by omega]
     obtain⟨q,d,hd,_,_,he⟩:=hE c _ oQ hko
     rw[he]at h
     by_cases e:i=d
     · subst e
       rw[Bk]at h
       cases h
       exact⟨c,_,by omega,hko,hd,he⟩
     rw[Bl e]at h
     obtain⟨j,o,h1,h2⟩:=ih i ph oQ h
     exact⟨j,o,by omega,h2⟩
 intro fuel
 induction fuel with
 |zero=>
   intro listed a w hs hc hno hD hu ha hI
   exfalso
   have h0:listed.toList.countP (· ==false)=0:=by omega
   rw[et]at h0
   have hlt:k<listed.size:=by omega
   have:=h0 listed[k] (by simp)
   have h1:=hno k (av _) hkk
   rw[aj]at h1
   simp only[hlt,bm,b6]at h1
   rw[h1]at this
   simp at this
 |succ fuel ih=>
   intro listed a w hs hc hno hD hu ha hI
   refine⟨fun hr=>?_,fun i hi=>?_⟩
   · exfalso
     obtain⟨i,hi⟩:=J1 hA (k:=k+1) oQ hs k oQ (hno k (av _) hkk)
     rw[hr]at hi
     cases hi
   obtain⟨o,hio,hbi,hed⟩:=(Fq hs).1 hi
   have hi':i<ops.size:=(bh.1 hio).1
   have hlt:i<listed.size:=by omega
   have hik:i≤k:=by
     rcases dq k i with h|h
     · exfalso
       obtain⟨e',he,hb,hon⟩:=dN hB hio h
       have h1:=hed e' he hb
       have h2:=D4 hA hio e' he hb
       rw[hno e'.on hon (by omega)]at h1
       cases h1
     exact h
   obtain⟨hd0,_,hpair⟩:=Jv hok hio
   by_cases hkI:i=k
   · subst hkI
     rw[hoh]at hio
     cases hio
     have hdn:dh<n:=by obtain⟨d',h1,h2⟩:=hd0;rw[hdh]at h1;cases h1;exact h2
     have hag:Ag n ds (Bo (oh.looksAt ops) (E i)++base) a w:=by
       refine⟨ha.defers,ha.size,fun t q ht=>?_⟩
       rcases C3 ht with h|h
       · obtain⟨h1,h2⟩:=Eg h
         obtain⟨j,p,hj,hp,hpd,hEj⟩:=hEl _ _ _ (av _) h2
         obtain⟨e,he,hbe,hon'⟩:=(hpair j p hp).2 t hpd h1
         have:=hed e he hbe
         exact hI j p t q hj hp hpd hEj (by rw[←hon'];exact this)
       exact ha.val t q h
     unfold wpOpIn
     rw[hoh]
     dsimp only
     have hw:Region.wanted oh (yielded ops a.tmps)=true:=by simp[Region.wanted,hgh]
     rw[ak hw]
     refine Hp (hH a w hu hag) fun v w' hv=>?_
     obtain⟨E2,h20,h2E,h2Q⟩:=hQ v w' hv
     have hne:∀t,(∃j p,j≠i∧ops[j]?=some p∧p.dst=some t)→t≠dh:=fun t⟨j,p,hj,hp,hpd⟩e=>(hpair j p hp).1 (Ne.symm hj) (by rw[hdh,hpd,e])
     refine iL (w0:=w') (i+1) oQ hok E2 h20 h2E (fun t ph ht=>?_) h2Q fuel _ _ _ (by simpa using hs) (J0 hlt hbi hc) (fun j hj=>?_) (Up.refl _) ⟨by rw[hdh];exact ha.defers,by rw[hdh];simp[Go.Act.put,ha.size],fun t q ht=>?_⟩ (fun j o d ph hsj hj _ _ hl=>?_)
     · by_cases e:t=dh
       · subst e
         rw[Bk]at ht
         cases ht
         exact⟨fun _ _ _ h _=>h,fun j p hj hp hd=>(hpair j p hp).1 oQ (by rw[hdh,hd])⟩
       rw[Bl e]at ht
       rcases C3 ht with h|h
       · obtain⟨j,p,hj,hp,hpd,_,hpl⟩:=hDP _ _ _ (av _) h
         exact⟨fun _ _ _ h _=>hpl.holds h,fun j2 p2 hj2 hp2 hd2=>((Jv hok hp).2.2 j2 p2 hp2).1 oQ (by rw[hpd,hd2])⟩
       exact⟨fun _ _ _ hv _=>Es hbp h hv,fun j2 p2 _ hp2=>hbase t ph h j2 p2 hp2⟩
     · rw[C5 hlt]
       split
       · rfl
       exact Jz hC hD hoh hed (i-j) j rfl oQ
     · by_cases e:t=dh
       · subst e
         rw[Bk]at ht
         cases ht
         show(((a.put oh.dst v).tmps.getD t undef)=v)
         rw[hdh,Dt (by rw[ha.size];exact hdn)]
       rw[Bl e]at ht
       rw[hdh,Cv e]
       rcases C3 ht with h|h
       · obtain⟨j,p,hj,hp,hpd,hEj,hpl⟩:=hDP _ _ _ (av _) h
         exact hpl.holds (hI j p t q hj hp hpd hEj (Jz hC hD hoh hed (i-j) j rfl oQ))
       exact Es hbp h (ha.val t q h)
     rw[C5 hlt,ae oQ,hno j oQ (bh.1 hj).1]at hl
     cases hl
   have hik:i<k:=by omega
   obtain⟨ph,d,hd,hup,hop,hEi⟩:=hE i o hik hio
   have hdn:d<n:=by obtain⟨d',h1,h2⟩:=hd0;rw[hd]at h1;cases h1;exact h2
   have hag:Ag n ds (Bo (o.looksAt ops) (E i)++base) a w:=by
     refine⟨ha.defers,ha.size,fun t q ht=>?_⟩
     rcases C3 ht with h|h
     · obtain⟨h1,h2⟩:=Eg h
       obtain⟨j,p,hj,hp,hpd,hEj⟩:=hEl _ _ _ oQ h2
       obtain⟨e,he,hbe,hon'⟩:=(hpair j p hp).2 t hpd h1
       have:=hed e he hbe
       exact hI j p t q oQ hp hpd hEj (by rw[←hon'];exact this)
     exact ha.val t q h
   have step:∀v w',Up w w'→ph.holds v w'→wpAnyIn (FR R) m P .any ops Q fuel (listed.setIfInBounds i true) (a.put o.dst v) w':=by
     intro v w' hu' hv
     refine ih _ _ _ (by simpa using hs) (J0 hlt hbi hc) ?_ (Rr hlt hio hed hD) (hu.trans hu') ?_ ?_
     · intro j hj hjs
       rw[C5 hlt,ae (by omega)]
       exact hno j hj hjs
     · refine⟨by rw[hd];exact ha.defers,by rw[hd];simp[Go.Act.put,ha.size],fun t q ht=>?_⟩
       have hne:t≠d:=fun e=>hbase t q ht i o hio (by rw[hd,e])
       rw[hd,Cv hne]
       exact Es hbp ht (ha.val t q ht)
     intro j p d' q hjk hp hpd hEj hl
     by_cases e:j=i
     · subst e
       rw[hio]at hp
       cases hp
       rw[hd]at hpd
       cases hpd
       rw[hEi]at hEj
       cases hEj
       rw[hd,Dt (by rw[ha.size];exact hdn)]
       exact hv
     have hne:d'≠d:=fun ee=>(hpair j p hp).1 (fun ee=>e ee.symm) (by rw[hd,hpd,ee])
     rw[hd,Cv hne]
     obtain⟨q',d'',hd'',hup',_,hEj'⟩:=hE j p hjk hp
     rw[hEj]at hEj'
     cases hEj'
     rw[C5 hlt,ae e]at hl
     exact hup' _ _ _ (hI j p d' q hjk hp hpd hEj hl) hu'
   have h2:=hop a w hu hag
   unfold wpOpIn
   rw[hio]
   dsimp only
   by_cases hw:Region.wanted o (yielded ops a.tmps)=true
   · rw[ak hw]at h2⊢
     exact Hp h2 fun v w'⟨h3,h4⟩=>step v w' h3 h4
   rw[ae hw]at h2⊢
   exact⟨fun _ _=>trivial,step _ _ (Up.refl w) h2⟩
theorem Zu{id:Nat}{opsL:List Oper}(k:Nat){oh:Oper}{dh:Nat}(PostH:Value→World→Prop)(hm:P.follows .mixedOrders=true)(hok:Wr n opsL.toArray=true)(hC:Fm opsL.toArray k=true)(hB:Vo opsL.toArray k=true)
   (hl:Cf l=true){base:Env}(hb:C7 (P1 opsL) l=base)(hoh:opsL[k]?=some oh)(hdh:oh.dst=some dh)(hgh:oh.guard=none)
   (h:HW P n ds opsL.toArray base w [] (opsL.take k) (fun env=>(∀a w',Up w w'→Ag n ds (Bo (oh.looksAt opsL.toArray) env++base) a w'→eS P oh a w' PostH)∧
     ∀v w1,PostH v w1→HW P n ds opsL.toArray ((dh,.eq v)::(Ej env++base)) w1 [] (opsL.drop (k+1)) (fun env2=>∀w',Up w1 w'→KW n ds (Q .normal) (env2++((dh,.eq v)::(Ej env++base))) w'))):CW R m P n ds (.region id opsL.toArray true) Q l w:=by
 intro a ha
 obtain⟨E,hE0,hK,hE⟩:=Rp _ _ h
 subst hb
 have hkl:k<opsL.length:=(ai.1 hoh).1
 have hlen:(opsL.take k).length=k:=by rw[bu];omega
 rw[hlen]at hK
 have hbp:Cf (C7 (P1 opsL) l)=true:=by
   have:∀(ks:List Nat)(l:Env),Cf l=true→Cf (C7 ks l)=true:=by
     intro ks l
     induction l with
     |nil=>intro _;rfl
     |cons p l ih=>
       obtain⟨i,ph⟩:=p
       cases ph with
       |pred q=>intro h;simp[Cf]at h
       |eq v=>intro h;unfold C7;cases Mp ks i<;>simp[Cf]at h⊢ <;>exact ih h
       |cond b v=>intro h;unfold C7;cases Mp ks i<;>simp[Cf]at h⊢ <;>exact ih h
   exact this _ _ hl
 refine wpIn_region_any hm (oP (w0:=w) (base:=C7 (P1 opsL) l) (oh:=oh) (PostH:=PostH) hok hC hB (by rw[i3];omega) E hE0 (fun i o hik ho=>hE i o (by rw[cz hik];simpa using ho)) hbp ?_ (by simpa using hoh) hdh hgh hK.1 ?_ _ _ _ _ (by simp) ?_ ?_ ?_ (Up.drew w) ?_ ?_)
 · intro i ph hi j o ho hd
   obtain⟨h1,h2⟩:=C4 hi
   exact h1 (P2 (by have:=am (l:=opsL) (i:=j) (by simpa using ho);exact this) hd)
 · intro v w1 hv
   obtain⟨E2,h0,h1,h2⟩:=Rp _ _ (hK.2 v w1 hv)
   refine⟨fun i=>E2 (i-(k+1)),by simpa using h0,fun i o hki ho=>?_,fun a' w' hu' ha'=>?_⟩
   · obtain⟨ph,d,h3,h4,h5,h6⟩:=h2 (i-(k+1)) o (by rw[eh,Nat.add_sub_cancel' hki];simpa using ho)
     exact⟨ph,d,h3,h4,h5,by show E2 (i+1-(k+1))=(d,ph)::E2 (i-(k+1));rw[←h6,show i+1-(k+1)=i-(k+1)+1 by omega]⟩
   refine h1 w' hu' a' ?_
   rw[gd]
   simpa using ha'
 · have:(Array.replicate opsL.toArray.size false).toList.countP (· ==false)≤(Array.replicate opsL.toArray.size false).toList.length:=gi
   simpa using this
 · intro j _ _
   rw[aj,dr]
   split<;>rfl
 · intro i o _ hli
   rw[aj,dr]at hli
   split at hli<;>simp at hli
 · exact⟨ha.defers,ha.size,fun i ph hi=>Es hl (C4 hi).2 (ha.val _ _ (C4 hi).2)⟩
 intro j o d ph _ ho hd _ hlj
 rw[aj,dr]at hlj
 split at hlj<;>simp at hlj
end
end Go.Wx
namespace Go.Proofs.YtbcnnkfopoiifaaGreatDoor
open Go.Proofs.Tryz
open Go.Wx Go.RowKit
theorem EY{g:Grp}{v:Go.Value}{L:List DP}{w w':World}(h:Wx.Sep no w w' [A8 57 6 DP.cells v L,E8 (Fb 3 L)]):(eN ⟨g,v,L⟩).holds w':=⟨fun A hA=>(h.each A hA).1,h.apart⟩
theorem AH{g:Grp}{v:Go.Value}{L:List DP}{w w':World}(h:Wx.Sep no w w' [A8 57 6 DP.cells v L,E8 (Fb 3 L)]):∀i,(eN ⟨g,v,L⟩).foot i→w.heap.size≤i:=fun i⟨A,hA,hi⟩=>((h.each A hA).2 i hi).resolve_left (fun h=>h)
set_option maxHeartbeats 4000000 in
theorem uN(E bf bd:Nat)(bc:Array Go.Value)(nw:Int)(all:List Fact)(kb:Base)(D:List DE)(ad:Option Addr)(cp:Nat)(l:List Fact)(w:World)(hbc:bc.size=11)(hnw:0≤nw∧nw≤100000)(hl:(all++l).length≤100)(hDg:(D.map (·.g)).Nodup)(hEl:Els w ad 19 Fact.cells l)(hLb:l≠[]→∀B o,ad=some ⟨B,o,none⟩→¬Cl [Ch E (EC bf bc bd (nw)) 62,Ms.Be bf (E9 (Bj all 100000)),Hc bc kb,Mk.Be Ca bd ((D).map DE.kv),Mn (D)] B)(hS0:Wx.Sep (Cl [Ch E (EC bf bc bd (nw)) 62,Ms.Be bf (E9 (Bj all 100000)),Hc bc kb,Mk.Be Ca bd ((D).map DE.kv),Mn (D)]) w w [Ch E (EC bf bc bd (nw)) 62,Ms.Be bf (E9 (Bj all 100000)),Hc bc kb,Mk.Be Ca bd ((D).map DE.kv),Mn (D)]):Ret prog 9 #[.pointer (some ⟨E,0,none⟩),.slice ad l.length cp] w fun r w'=>((I5 (Bj all 100000) l).2=[]∧r=vi 0∧Wx.Sep (Cl [Ch E (EC bf bc bd (nw)) 62,Ms.Be bf (E9 (Bj all 100000)),Hc bc kb,Mk.Be Ca bd ((D).map DE.kv),Mn (D)]) w w' [Ch E (EC bf bc bd (nw)) 62,Ms.Be bf (E9 (Bj (all++l) 100000)),Hc bc kb,Mk.Be Ca bd ((D).map DE.kv),Mn (D)])∨(∃(bc1:Array Go.Value)(St:List Grp)(D2:List DE),(I5 (Bj all 100000) l).2≠[]∧r=vi ((St.length:Nat):Int)∧St.Nodup∧(∀g,g∈St↔g∈(Re D (Dj (all++l) 100000).Processes).map (·.g)∧∃k∈(I5 (Bj all 100000) l).2,V0 (Bj all 100000) (Bj (all++l) 100000) (Dj (all++l) 100000) k g=true)∧D2.map (·.g)=(Re D (Dj (all++l) 100000).Processes).map (·.g)∧(∀e∈D2,(e.g∈St→dk (Dj (all++l) 100000) e)∧(e.g∉St→e∈Re D (Dj (all++l) 100000).Processes))∧bc1.size=11∧Wx.Sep (Cl [Ch E (EC bf bc bd (nw)) 62,Ms.Be bf (E9 (Bj all 100000)),Hc bc kb,Mk.Be Ca bd ((D).map DE.kv),Mn (D)]) w w' [Ch E (EC bf bc1 bd (nw+((St.length:Nat):Int))) 62,Ms.Be bf (E9 (Bj (all++l) 100000)),Hc bc1 (Dj (all++l) 100000),Mk.Be Ca bd ((D2).map DE.kv),Mn (D2)]):=by
 have hll:l.length≤100:=by rw[au]at hl;omega
 obtain⟨w0,rfl,_⟩:=W0 w
 have hS:=hS0
 refine cT 139 func9 rfl ?_
 refine Af (J (Ar (Af (Ac rfl ?_))))
 refine I (.fa (Gl m9 (.t rfl)) (rfl)) ?_
 refine Ai ?_
 refine CW.f rfl ?_
 refine Ak (Ab (Af (Ac rfl ?_)))
 refine I (.nc rfl) ?_
 refine I (.fB 0 rfl) ?_
 refine I (.lb rfl (hS.b0.cell Ng)) ?_
 refine A3 (eC (.o rfl) (LX)) rfl (iK bf _ _ (hS.get 1 rfl)) ?_
 rintro _ w1 ⟨b5,rfl,hBf,zb5,uw1⟩
 have zw1:=uw1.size
 replace hS:=hS.add uw1 (A':=Ms.Be b5 (E9 (Bj all 100000))) (hBf) (fun i(e:i=b5)=>by rw[e];exact zb5)
 change Wx.Sep _ _ _ [_,_,_,_,_,_]at hS
 refine LW.A rfl (Ar (Aa ?_))
 refine LW.r Ms.REv.makeMap rfl rfl rfl rfl ?_
 rintro _ w2 ⟨M24,rfl,hMM,uw2,eM,zM⟩
 replace hS:=hS.add uw2 (A':=Ms.Be M24 ((I5 (Bj all 100000) (l.take 0)).2.map oF)) hMM (fun i(e:i=M24)=>by omega)
 change Wx.Sep _ _ _ [_,_,_,_,_,_,_]at hS
 refine LW.A rfl (Ar (Af (Ac rfl ?_)))
 refine I (.Df k6 (.t rfl)) ?_
 refine I (.move (.const _)) ?_
 refine Ai (Ap ?_)
 refine A9 (σ:=Nat) (fun s w=>(s≤l.length)∧(Wx.Sep (Cl [Ch E (EC bf bc bd (nw)) 62,Ms.Be bf (E9 (Bj all 100000)),Hc bc kb,Mk.Be Ca bd ((D).map DE.kv),Mn (D)]) w0 w [Ch E (EC bf bc bd (nw)) 62,Ms.Be bf (E9 (I5 (Bj all 100000) (l.take s)).1),Hc bc kb,Mk.Be Ca bd ((D).map DE.kv),Mn (D),Ms.Be b5 (E9 (Bj all 100000)),Ms.Be M24 (((I5 (Bj all 100000) (l.take s)).2).map oF)])) (fun s=>[(27,.eq (vi (s:Int)))]) ([(0,.eq _),(4,.eq _),(5,.eq _),(6,.eq _),(25,.eq _),(26,.eq _)]) (fun s=>l.length-s) 0 ?_ tQ ?_
 ·exact⟨ao _,hS⟩
 rintro i w3 ⟨hi,hS⟩
 refine Af ?_
 refine I (.l2 rfl rfl) ?_
 refine Ar ?_
 refine CW.b rfl (fun h28=>?_) (fun h28=>?_)
 ·replace h28:=dQ h28
  refine Ak (Ab (Al (Ap (Al ?_))))
  have hil:i<l.length:=by omega
  obtain⟨x,hx⟩:∃x,l[i]?=some x:=⟨_,b_ hil⟩
  obtain⟨Bx,ox,ax,hcx⟩:=(Els.fr hEl hS.fr (fun B o ea=>hLb (fun e=>by rw[e]at hil;simp at hil) B o ea)) i x hx
  refine Aa ?_
  refine I (.Ay k6 k7 (j:=i) (.t rfl) (.t rfl) oQ ax) ?_
  refine I (.lc rfl (hcx)) ?_
  refine Ao (.Bi k_) rfl ?_
  rintro _ w4 ⟨B8,rfl,MB8⟩
  refine Bh (.A5 k7 rfl (.t rfl) (.t rfl) (Fact.one _) MB8.blk rfl) ?_
  intro w5 LB8
  have NB8:=MB8.set LB8
  clear LB8 MB8
  have eB8:=NB8.at_
  have zB8:=NB8.size
  replace hS:=hS.Bn NB8
  change Wx.Sep _ _ _ [_,_,_,_,_,_,_,_]at hS
  refine Ar ?_
  refine Zu 5 (fun v W=>∃ad3 k3 cp3,v=.slice ad3 k3 cp3∧decide ((k3:Int)>0)=Nh (I5 (Bj all 100000) (l.take i)).1 x∧Wx.Sep (Cl [Ch E (EC bf bc bd (nw)) 62,Ms.Be bf (E9 (Bj all 100000)),Hc bc kb,Mk.Be Ca bd ((D).map DE.kv),Mn (D)]) w0 W [Ch E (EC bf bc bd (nw)) 62,Ms.Be bf (E9 (Cy 100000 (I5 (Bj all 100000) (l.take i)).1 x)),Hc bc kb,Mk.Be Ca bd ((D).map DE.kv),Mn (D),Ms.Be b5 (E9 (Bj all 100000)),Ms.Be M24 (((I5 (Bj all 100000) (l.take i)).2).map oF),Ch B8 x.cells 51]) kQ kQ kQ kQ rfl rfl rfl rfl rfl ?_
  refine Am (.mv rfl) ?_
  refine Am (.nc rfl) ?_
  refine Am (.fB 0 rfl) ?_
  refine Am (.lb rfl (hS.b0.cell Ng)) ?_
  refine Am (.lc rfl ((hS.blk 7 rfl).agg)) ?_
  refine HW.nil ⟨fun a w' hu ha=>?_,?_⟩
  ·skip
   refine .inr ⟨_,_,w',Bq (.ct rfl (.cu rfl)) (LY) a ha,(uJ bf _ x _ ((hS.up hu).get 1 rfl)).mono fun v w'' h=>?_⟩
   obtain⟨ad3,k3,cp3,h1,h2,h3⟩:=h
   exact⟨ad3,k3,cp3,h1,h2,(hS.up hu).E5 1 rfl h3⟩
  intro v36 w6
  rintro⟨ad3,k3,cp3,rfl,hk3,hS⟩
  refine Am (.Df k6 (.t rfl)) ?_
  refine Am (.as (v':=.bool (Nh (I5 (Bj all 100000) (l.take i)).1 x)) (PEv.gtr (.t rfl) (.const _)) (a_ Go.Value.bool hk3)) ?_
  refine HW.nil ?_
  intro w7 uw7
  have zw7:=uw7.size
  replace hS:=hS.up uw7
  refine Ab ?_
  refine CW.b rfl (fun h38=>?_) (fun h38=>?_)
  ·replace h38:=dQ h38
   refine Aa (Ac rfl ?_)
   refine I (.lc rfl ((hS.blk 7 rfl).agg)) ?_
   refine A3 (eC (.o rfl) (pM)) rfl (Ql x _) ?_
   rintro _ w8 ⟨rfl,uw8⟩
   have zw8:=uw8.size
   replace hS:=hS.up uw8
   refine I (.build (cs:=#[]) underlying67 zeroValue67 K1 .nil rfl) ?_
   refine Bh (Ms.SEv.mapUpdate underlying65 lu (.t rfl) (.t rfl) (.t rfl) (hS.get 6 rfl)) ?_
   rintro w9 ⟨Mu,Ku,zu⟩
   rw[tV]at Mu
   replace hS:=hS.E5 6 rfl (Ms.Im Mu Ku)
   change Wx.Sep _ _ _ [_,_,_,_,_,_,_,_]at hS
   clear Mu Ku
   refine LW.nil (Ae (Ab (Aa ?_)))
   refine I (.ic rfl oQ) ?_
   refine Ac rfl (LW.nil (Aq ?_))
   exact⟨i+1,⟨by omega,by rw[X6 hx];first|(rw[Vj h38];exact hS.take 7)|(rw[Zt (by simpa using h38)];exact hS.take 7)⟩,tQ,by first|omega|(dsimp only;omega)⟩
  replace h38:=dQ h38
  refine Ak (Ae (Ab (Aa ?_)))
  refine I (.ic rfl oQ) ?_
  refine Ac rfl (LW.nil (Aq ?_))
  exact⟨i+1,⟨by omega,by rw[X6 hx];first|(rw[Vj h38];exact hS.take 7)|(rw[Zt (by simpa using h38)];exact hS.take 7)⟩,tQ,by first|omega|(dsimp only;omega)⟩
 replace h28:=dQ h28
 refine A7 (Ad (Ad (Au (Ab (Al (Al ?_))))))
 have hie:i=l.length:=by omega
 rw[hie,br]at hS
 obtain⟨T,eT⟩:∃T,T=(I5 (Bj all 100000) l).2:=⟨_,rfl⟩
 rw[←eT,Vk]at hS
 obtain⟨al2,e2⟩:∃x,x=all++l:=⟨_,rfl⟩
 have hal2:al2.length≤100:=by rw[e2];exact hl
 rw[←e2]at hS
 refine Aa (Ac rfl ?_)
 refine I (KY underlying65 (.t rfl) (hS.get 6 rfl)) ?_
 refine I (.eql (.t rfl) (.const _)) ?_
 refine Ai ?_
 refine CW.b rfl (fun h46=>?_) (fun h46=>?_)
 ·replace h46:=dQ h46
  have hT0:=zS h46
  refine Af (J (Ai (Aj (Ah ?_))))
  refine KW.q ?_
  have hSz:=hS
  first|(subst e2 eT;exact .inl ⟨hT0,rfl,hSz.take 5⟩)|(subst eD1 ek1 e2 eT;replace hSz:=hSz.Eb 5 rfl;replace hSz:=hSz.Eb 6 rfl;replace hSz:=hSz.Eb 2 rfl;exact .inr ⟨bc1,St,DV,hT0,rfl,hStN,hStm,hDk,hDv,hsz1,hSz.sub (.cons_cons _ (.cons_cons _ (.cons _ (.cons _ (.cons _ (.cons _ (.cons_cons _ (.cons_cons _ (.cons_cons _ .slnil)))))))))⟩)
 replace h46:=dQ h46
 have hT0:T≠[]:=fun e=>h46 (by rw[e];rfl)
 refine Ak (Ab (Af (Ac rfl (Ac rfl ?_))))
 refine I (.nc rfl) ?_
 refine I (.fB 0 rfl) ?_
 refine I (.lb rfl (hS.b0.cell Ng)) ?_
 refine A3 (eC (.o rfl) (GG)) rfl (S6 bf _) ?_
 rintro _ w10 ⟨⟨BK,rfl,hBK,zK⟩,uw10⟩
 have zw10:=uw10.size
 replace hS:=hS.up uw10
 have zBK:=hBK.lt
 have hMk2:=hS.get 1 rfl
 have zMk:=Ms.IMap.lt hMk2
 refine A3 (eC (.o rfl) (GF)) rfl (Rg _ _ _ _ _ _ GO (fun W X Y u hX hY=>Rf X Y BK bf (Bj al2 100000) W (fun i h=>(hY i h).2) (fun h=>by have:=hX _ h;omega) (fun h=>by have:=(hY _ h).1;omega) (Io 100000 al2).1 (Hi al2 100000) (hBK.up u) (Ms.IMap.up hMk2 u)) (by have:=(Io 100000 al2).2;omega)) ?_
 rintro v53 w11 ⟨ks,hks,hO,hOn,uw11⟩
 have zw11:=uw11.size
 replace hS:=hS.add uw11 (A':=A8 51 19 Fact.cells v53 ks) (hO) (hOn)
 change Wx.Sep _ _ _ [_,_,_,_,_,_,_,_]at hS
 obtain⟨adk,cpk,rfl,_⟩:=(hS.own 7 rfl).sl (fun _=>rfl)
 have hkl:ks.length≤100000:=by have:=(Io 100000 al2).2;have e:=hks.length_eq;simp only[Fp,cd]at e;omega
 refine A3 (eC (.ct rfl (.cons (.const _) .nil)) (GD)) rfl (rO adk cpk ks 100000 _ ((hS.own 7 rfl).els (fun _=>rfl)) hkl) ?_
 rintro _ w12 ⟨bc1,rfl,hC1,hb1,uw12⟩
 have zw12:=uw12.size
 replace hS:=hS.add uw12 (A':=Hc bc1 (Dj al2 100000)) (by rw[X4 hks]at hC1;exact hC1) (oE hb1)
 change Wx.Sep _ _ _ [_,_,_,_,_,_,_,_,_]at hS
 have hsz1:bc1.size=11:=BaseC.size hC1
 have hon1:=BaseC.one hC1
 have hpk:∀p∈(Dj al2 100000).Processes,(H6 p).ok:=zO
 have hsh:=Pr (l:=al2) (n:=100) hal2 100000
 obtain⟨kb1,ek1⟩:∃b,b=Dj al2 100000:=⟨_,rfl⟩
 rw[←ek1]at hS hpk hsh
 clear hC1
 have hlP:kb1.Processes.length≤100:=hsh 0
 have hlM:kb1.Measures.length≤100:=hsh 1
 have hlR:kb1.Resets.length≤100:=hsh 8
 have hlT:kb1.Targets.length≤100:=hsh 9
 refine I (.nc rfl) ?_
 refine I (.fB 1 rfl) ?_
 refine Bh (.Ig lw hsz1 (.t rfl) (.t rfl) hon1 hS.b0 (by rw[lI hbc,hsz1];decide)) ?_
 intro w13 Nw13
 rw[EU hbc hsz1]at Nw13
 have zw13:=Nw13.size
 replace hS:=hS.Co 0 rfl Nw13
 change Wx.Sep _ _ _ [_,_,_,_,_,_,_,_,_]at hS
 refine Ar (Aa (Ac rfl ?_))
 replace hS:=hS.Eb 3 rfl
 change Wx.Sep _ _ _ [_,_,_,_,_,_,_,_,_]at hS
 have hq_:=(show Wx.Sep _ _ _ ([_,_,_,_,_,_,_,_]++[_])from hS)
 obtain⟨_,hvp,adp,cpp,rfl,hEp⟩:=BaseC.at_ (hS.get 7 rfl) (j:=0) cQ
 replace hvp:bc1[0]?=some (.slice adp kb1.Processes.length cpp):=hvp
 have hPb:kb1.Processes≠[]→∀B o,adp=some ⟨B,o,none⟩→B≠bd:=fun hne B o ea=>tS hS (show 7<8 by decide) rfl rfl B ⟨0,_,hvp,by rw[ea];rfl,hne⟩
 refine A3 (eC (.o rfl) (LZ)) rfl (dM E bf bd bc1 nw kb1 adp cpp D _ hS.b0 hsz1 hvp hEp hPb hpk oQ (hq_.oB ⟨_,bp,rfl⟩) hq_.right.self) ?_
 rintro _ w14 ⟨rfl,uw14⟩
 replace hS:=hq_.frame uw14
 change Wx.Sep _ _ _ [_,_,_,_,_,_,_,_,_]at hS
 have zw14:=uw14.fr.size
 clear hq_
 replace hS:=hS.E5 3 rfl (AF kb1.Processes (hS.get 3 rfl))
 change Wx.Sep _ _ _ [_,_,_,_,_,_,_,_,_]at hS
 have hD1n:=Vl kb1.Processes hDg
 obtain⟨D1,eD1⟩:∃x,x=Re D kb1.Processes:=⟨_,rfl⟩
 rw[←eD1]at hS hD1n
 replace hS:=hS.sub (.cons_cons _ (.cons_cons _ (.cons _ (.cons_cons _ (.cons_cons _ (.cons_cons _ (.cons _ (.cons_cons _ (.cons_cons _ .slnil)))))))))
 change Wx.Sep _ _ _ [_,_,_,_,_,_,_]at hS
 refine Ar (Aa (Ac rfl ?_))
 refine Ao (Mk.REv.makeMap (Q:=Ca)) rfl ?_
 rintro _ w15 ⟨M60,rfl,hMM,uw15,eM60,zM60⟩
 replace hS:=hS.add uw15 (A':=Mk.Be Ca M60 (([]:List Grp).map Ka)) hMM (fun i(e:i=M60)=>by omega)
 change Wx.Sep _ _ _ [_,_,_,_,_,_,_,_]at hS
 refine I (.build (cs:=#[.pointer (some ⟨E,0,none⟩),.map (some M60)]) underlying76 zeroValue76 V6 (.ct rfl (.cu rfl)) rfl) ?_
 refine Ao (.Bi zeroValue76) rfl ?_
 rintro _ w16 ⟨B9,rfl,MB9⟩
 refine Bh (.A5 sizeOf76 rfl (.t rfl) (.t rfl) (by simp[Value.oneCell']) MB9.blk rfl) ?_
 intro w17 LB9
 have NB9:=MB9.set LB9
 clear LB9 MB9
 have eB9:=NB9.at_
 have zB9:=NB9.size
 replace hS:=hS.Bn NB9
 change Wx.Sep _ _ _ [_,_,_,_,_,_,_,_,_]at hS
 refine LW.nil ?_
 replace hS:=hS.Eb 6 rfl
 replace hS:=hS.Eb 6 rfl
 change Wx.Sep _ _ _ [_,_,_,_,_,_,_,_,_]at hS
 refine Ab (Al (Af (Ac rfl ?_)))
 refine Ao (Ms.REv.range underlying65 (.t rfl) (hS.get 4 rfl)) rfl ?_
 rintro _ w18 ⟨r63,rfl,hR_,uR,eR,zR⟩
 replace hS:=hS.E5 4 rfl (Ms.G4 hR_ uR eR)
 change Wx.Sep _ _ _ [_,_,_,_,_,_,_,_,_]at hS
 clear hR_
 refine Ai (Ap ?_)
 refine A9 (σ:=List (List UInt8)×List Grp) (fun s w=>(s.1.Nodup∧∀k∈s.1,k∈T)∧(∀g,g∈s.2↔g∈D1.map (·.g)∧∃k∈s.1,V0 (Bj all 100000) (Bj al2 100000) kb1 k g=true)∧(Wx.Sep (Cl [Ch E (EC bf bc bd (nw)) 62,Ms.Be bf (E9 (Bj all 100000)),Hc bc kb,Mk.Be Ca bd ((D).map DE.kv),Mn (D)]) w0 w [Ch E (EC bf bc1 bd (nw)) 62,Ms.Be bf (E9 (Bj al2 100000)),Mn (D1),Ms.Be b5 (E9 (Bj all 100000)),Ms.Gg M24 r63 (T.map oF) s.1,Hc bc1 kb1,Ch B9 #[.pointer (some ⟨E,0,none⟩),.map (some M60)] 76,Mk.Be Ca bd ((D1).map DE.kv),Mk.Be Ca M60 ((s.2).map Ka)])) (fun s=>[]) ([(0,.eq _),(4,.eq _),(5,.eq _),(9,.eq _),(63,.eq _)]) (fun s=>T.length-s.1.length) ([],[]) ?_ tQ ?_
 ·exact⟨⟨dz,fun _ h=>(by cases h)⟩,fun g=>⟨fun h=>(by cases h),fun⟨_,_,h,_⟩=>(by cases h)⟩,hS⟩
 rintro⟨V,St⟩ w19 ⟨hV,hStm,hS⟩
 dsimp only at hV hStm hS
 refine Af ?_
 refine Ao (Ms.REv.next (.t rfl) (hS.get 4 rfl)) rfl ?_
 rintro _ w20 (⟨rfl,rfl,hPm⟩|⟨k0,u0,rfl,hNx⟩)
 ·skip
  refine I (.xt rfl rfl) (Ar ?_)
  refine CW.f rfl ?_
  refine A7 (Ad (Ad (Au (Ab (Al (Al ?_))))))
  have hStN:=Mk.IMap.nodup (hS.get 8 rfl)
  rw[Q8]at hStN
  have hVT:∀k,k∈V↔k∈T:=fun k=>by have:=hPm.mem_iff (a:=k);rwa [dC]at this
  simp only[hVT]at hStm
  refine Aa ?_
  refine I (.fB 1 rfl) ?_
  refine I (.lb rfl ((hS.blk 6 rfl).An rfl)) ?_
  refine Ao (Mk.REv.range (Q:=Ca) m7 (.t rfl) (hS.get 8 rfl)) rfl ?_
  rintro _ w21 ⟨r105,rfl,hR_,uR,eR,zR⟩
  replace hS:=hS.E5 8 rfl (Mk.G4 hR_ uR eR)
  change Wx.Sep _ _ _ [_,_,_,_,_,_,_,_,_]at hS
  clear hR_
  refine Ai (Ap ?_)
  refine A9 (σ:=List Grp×List DE) (fun s w=>(s.1.Nodup∧∀k∈s.1,k∈St)∧(s.2.map (·.g)=D1.map (·.g))∧(∀e∈s.2,(e.g∈s.1→dk kb1 e)∧(e.g∉s.1→e∈D1))∧(Wx.Sep (Cl [Ch E (EC bf bc bd (nw)) 62,Ms.Be bf (E9 (Bj all 100000)),Hc bc kb,Mk.Be Ca bd ((D).map DE.kv),Mn (D)]) w0 w [Ch E (EC bf bc1 bd (nw)) 62,Ms.Be bf (E9 (Bj al2 100000)),Mn (s.2),Ms.Be b5 (E9 (Bj all 100000)),Ms.Gg M24 r63 (T.map oF) V,Hc bc1 kb1,Ch B9 #[.pointer (some ⟨E,0,none⟩),.map (some M60)] 76,Mk.Be Ca bd ((s.2).map DE.kv),Mk.Gg Ca M60 r105 (St.map Ka) s.1])) (fun s=>[]) ([(0,.eq _),(4,.eq _),(9,.eq _),(105,.eq _)]) (fun s=>St.length-s.1.length) ([],D1) ?_ tQ ?_
  ·exact⟨⟨dz,fun _ h=>(by cases h)⟩,rfl,fun e he=>⟨fun h=>(by cases h),fun _=>he⟩,hS⟩
  rintro⟨V2,DV⟩ w22 ⟨hVV,hDk,hDv,hS⟩
  dsimp only at hVV hDk hDv hS
  refine Al ?_
  skip
  refine Aa ?_
  refine Ao (Mk.REv.next (.t rfl) (hS.get 8 rfl)) rfl ?_
  rintro _ w23 (⟨rfl,rfl,hPm⟩|⟨k1,u1,rfl,hNx⟩)
  ·skip
   refine I (.xt rfl rfl) (Ar ?_)
   refine CW.f rfl ?_
   refine A7 (Ad (Ad (Au (Ab (Al ?_)))))
   have hVS:∀k,k∈V2↔k∈St:=fun k=>by have:=hPm.mem_iff (a:=k);rwa [Q8]at this
   simp only[hVS]at hDv
   have hStl:St.length≤100:=bb (ET (D:=D) (l:=kb1.Processes) hStN (fun g hg=>by rw[←eD1];exact((hStm g).1 hg).1)) hlP
   refine Fy 10 kQ kQ kQ kQ kQ rfl rfl ?_
   refine Am (.mv rfl) ?_
   refine Am (.nc rfl) ?_
   refine Am (.fB 13 rfl) ?_
   refine Am (.lb rfl (hS.b0.cell (lH hsz1))) ?_
   refine Am (.fB 1 rfl) ?_
   refine Am (.lb rfl ((hS.blk 6 rfl).An rfl)) ?_
   refine Am (.as (v':=vi ((St.length:Nat):Int)) (Mk.PEv.KU m7 (.t rfl) (Mk.IRng.map (hS.get 8 rfl))) (by rw[cd])) ?_
   refine Am (.add (.t rfl) (.t rfl) oQ oQ) ?_
   refine Am (.nc rfl) ?_
   refine Am (.fB 13 rfl) ?_
   refine HW.nil ?_
   intro w24 uw24
   have zw24:=uw24.size
   replace hS:=hS.up uw24
   refine Bh (.store lf (.t rfl) (.t rfl) rfl hS.b0 (by rw[lI hsz1];decide)) ?_
   intro w25 Nw25
   have zw25:=Nw25.size
   replace hS:=hS.Co 0 rfl (by rw[zN hsz1]at Nw25;exact Nw25)
   change Wx.Sep _ _ _ [_,_,_,_,_,_,_,_,_]at hS
   refine Ar (Aa ?_)
   refine I (.fB 1 rfl) ?_
   refine I (.lb rfl ((hS.blk 6 rfl).An rfl)) ?_
   refine I (.as (v':=vi ((St.length:Nat):Int)) (Mk.PEv.KU m7 (.t rfl) (Mk.IRng.map (hS.get 8 rfl))) (by rw[cd])) ?_
   refine LW.A rfl (Ai (Aj ?_))
   refine KW.q ?_
   have hSz:=hS
   first|(subst e2 eT;exact .inl ⟨hT0,rfl,hSz.take 5⟩)|(subst eD1 ek1 e2 eT;replace hSz:=hSz.Eb 5 rfl;replace hSz:=hSz.Eb 6 rfl;replace hSz:=hSz.Eb 2 rfl;exact .inr ⟨bc1,St,DV,hT0,rfl,hStN,hStm,hDk,hDv,hsz1,hSz.sub (.cons_cons _ (.cons_cons _ (.cons _ (.cons _ (.cons _ (.cons _ (.cons_cons _ (.cons_cons _ (.cons_cons _ .slnil)))))))))⟩)
  skip
  have zw23:=hNx.size
  replace hS:=hS.E5 8 rfl (Mk.H3 hNx)
  change Wx.Sep _ _ _ [_,_,_,_,_,_,_,_,_]at hS
  have hk1S:=(zB hNx.mem).1
  have hf1:=hNx.fresh
  have hk1o:k1.ok:=OB hNx.rng.map hNx.mem
  have hW2:(V2++[k1]).Nodup∧∀k∈V2++[k1],k∈St:=⟨dl.2 ⟨hVV.1,by simp,fun a ha c hc=>by simp at hc;subst hc;exact fun e=>hf1 (e▸ha)⟩,fun k hk=>(be.1 hk).elim (hVV.2 k) (fun h=>by cases aa.1 h;exact hk1S)⟩
  have hWl:=hW2.1.length_le_of_subset hW2.2
  rw[au,cl]at hWl
  obtain⟨j,e1,hj1,hg1⟩:=zX hDk ((hStm k1).1 hk1S).1
  subst hg1
  refine I (.xt rfl rfl) (Ar ?_)
  refine CW.v rfl ?_
  refine Ak (Ab (Ap (Af ?_)))
  refine Ao (.entry (.t rfl) hNx.entry) rfl ?_
  rintro _ wE ⟨rfl,hwE⟩
  rw[hwE]
  clear hwE wE
  refine I (.xt rfl rfl) ?_
  refine Ao (.Bi m6) rfl ?_
  rintro _ w26 ⟨B16,rfl,MB16⟩
  refine Bh (.A5 sizeOf80 rfl (.t rfl) (.t rfl) (Grp.one _) MB16.blk rfl) ?_
  intro w27 LB16
  have NB16:=MB16.set LB16
  clear LB16 MB16
  have eB16:=NB16.at_
  have zB16:=NB16.size
  replace hS:=hS.Bn NB16
  change Wx.Sep _ _ _ [_,_,_,_,_,_,_,_,_,_]at hS
  refine Ai ?_
  obtain⟨wq,ewq⟩:∃W,W=w27:=⟨_,rfl⟩
  refine Fy 16 kQ kQ kQ kQ kQ rfl rfl ?_
  have hSq:=hS
  refine Am (.mv rfl) ?_
  refine Am (.nc rfl) ?_
  refine Am (.fB 12 rfl) ?_
  refine Am (.lb rfl (hS.b0.cell (Pu hsz1))) ?_
  refine Am (.lc rfl ((hS.blk 9 rfl).agg)) ?_
  refine Am (.mv rfl) ?_
  refine Am (.nc rfl) ?_
  refine Am (.fB 1 rfl) ?_
  refine Am (.Ef l7 lw (hsz1) (.t rfl) (Q9 hS.b0)) ?_
  refine Am (.fB 0 rfl) ?_
  refine Am (.lb rfl ((hS.blk 9 rfl).An rfl)) ?_
  refine Am (.fB 1 rfl) ?_
  refine Am (.lb rfl ((hS.blk 9 rfl).An rfl)) ?_
  refine Am (.fB 2 rfl) ?_
  refine Am (.lb rfl ((hS.blk 9 rfl).An rfl)) ?_
  refine KB (p:=fun v W=>∃L:List DP,L.map DP.dec=Gt kb1 e1.g.t e1.g.c e1.g.r∧(eN ⟨e1.g,v,L⟩).holds W∧∀i,(eN ⟨e1.g,v,L⟩).foot i→wq.heap.size≤i) (fun v W W2 h u=>let⟨L,h1,h2,h3⟩:=h;⟨L,h1,(eN _).keep _ _ h2 (fun _ _ hl=>u.block hl) u.size,h3⟩) (fun a w _ ha=>Bq (.ct rfl (.ct rfl (.ct rfl (.cu rfl)))) (GH) a ha) rfl rfl (fun w hu=>(O0 bc1 kb1 e1.g.t e1.g.c e1.g.r w (BaseC.up (hS.get 5 rfl) hu) oQ oQ oQ oQ).mono fun r w2 h=>by obtain⟨v,L,rfl,h1,h2⟩:=h;exact⟨h2.Cj,L,h1,EY h2,fun i hi=>by rw[ewq];exact bb hu.size (AH h2 i hi)⟩) ?_
  refine HW.nil ?_
  intro w28 uw28
  have zw28:=uw28.size
  replace hS:=hS.up uw28
  refine wO (d:=125) rfl fun v125 hp125=>?_
  obtain⟨L125,hL1,hL2,hL3⟩:=hp125
  replace hS:=hSq.E5 2 rfl (AG (hSq.get 2 rfl) hj1 uw28 hL2 (fun i hi=>by rw[←ewq];exact hL3 i hi))
  change Wx.Sep _ _ _ [_,_,_,_,_,_,_,_,_,_]at hS
  have hDn:(DV.map (·.g)).Nodup:=by rw[hDk];exact hD1n
  refine Bh (Mk.SEv.mapUpdate (Q:=Ca) mr La hk1o (.t rfl) (.t rfl) (.t rfl) (hS.get 7 rfl)) ?_
  rintro w29 ⟨Mu,Ku,zu⟩
  rw[oI hj1 hDn v125 L125]at Mu
  replace hS:=hS.E5 7 rfl (Mk.Im Mu Ku)
  change Wx.Sep _ _ _ [_,_,_,_,_,_,_,_,_,_]at hS
  clear Mu Ku
  refine LW.nil (Ae (Aq ?_))
  exact⟨(V2++[e1.g],DV.set j ⟨e1.g,v125,L125⟩),⟨hW2,(zY hj1).trans hDk,EV hDv hj1 hDn hL1,hS.take 9⟩,tQ,by show St.length-(V2++[e1.g]).length<St.length-V2.length;rw[au,cl];omega⟩
 skip
 have zw20:=hNx.size
 replace hS:=hS.E5 4 rfl (Ms.H3 hNx)
 change Wx.Sep _ _ _ [_,_,_,_,_,_,_,_,_]at hS
 have hk0T:=zV hNx.mem
 have hf0:=hNx.fresh
 have hV2:(V++[k0]).Nodup∧∀k∈V++[k0],k∈T:=⟨dl.2 ⟨hV.1,by simp,fun a ha c hc=>by simp at hc;subst hc;exact fun e=>hf0 (e▸ha)⟩,fun k hk=>(be.1 hk).elim (hV.2 k) (fun h=>by cases aa.1 h;exact hk0T)⟩
 have hVl:=hV2.1.length_le_of_subset hV2.2
 rw[au,cl]at hVl
 refine I (.xt rfl rfl) (Ar ?_)
 refine CW.v rfl ?_
 refine Ak (Ab (Ap (Af ?_)))
 refine Ao (.entry (.t rfl) hNx.entry) rfl ?_
 rintro _ wE ⟨rfl,hwE⟩
 rw[hwE]
 clear hwE wE
 refine I (.xt rfl rfl) (LW.A rfl (Ar ?_))
 refine CW.vars 13 [⟨9,11,2,11,70⟩,⟨10,12,8,12,76⟩] (Fact.cells Dc) [.eq (.map (some b5)),.eq (Ms.vs k0),.eq (.agg (Fact.cells (Kv (Bj all 100000) k0))),.eq (.pointer (some ⟨E,0,none⟩)),.eq (.pointer (some ⟨E,0,none⟩)),.eq (.pointer (some ⟨E,0,none⟩)),.eq (.map (some bf)),.eq (Ms.vs k0),.eq (.agg (Fact.cells (Kv (Bj al2 100000) k0))),.pred fun v _=>∃B,v=.pointer (some ⟨B,0,none⟩),.pred fun v _=>∃B,v=.pointer (some ⟨B,0,none⟩),.eq undef,.eq undef] [11,12] k_ k7 kQ rfl kQ kQ kQ kQ kQ kQ kQ kQ cQ kQ kQ ?_ ?_ ⟨nn,nn,nn,nn,nn,nn,nn,nn,nn,PhT.pred fun _ _ _ h _=>h,PhT.pred fun _ _ _ h _=>h,nn,nn,trivial⟩ ?_ ?_ ?_ ?_ ?_
 ·intro v hv;simp only[ap,ba,b8]at hv;rcases hv with rfl|rfl<;>exact⟨_,_,_,rfl⟩
 ·intro v hv;simp only[ap,ba,b8]at hv;rcases hv with rfl|rfl<;>exact⟨_,_,_,rfl⟩
 ·intro v hv;simp only[ap,ba,b8]at hv;rcases hv with rfl|rfl<;>(intro o ho;cases ho;rfl)
 ·intro v hv;simp only[ap,ba,b8]at hv;rcases hv with rfl|rfl<;>exact fun v W h=>⟨_,h,rfl,Fact.one _⟩
 ·intro v hv;simp only[ap,ba,b8]at hv;rcases hv with rfl|rfl<;>exact fun B W=>⟨B,rfl⟩
 ·intro W hK0
  have hK:=(Up.drew w20).Da.trans hK0
  have hEW:=Blk.Da hS.b0 (T:=51) rfl hK
  have hMW:=dB (hS.get 1 rfl) hK
  have hBW:=dB (hS.get 3 rfl) hK
  refine aC (.inr ⟨rfl,TU.p (.mv rfl) rfl⟩) ?_
  refine aC (.inr ⟨rfl,TU.p (.mv rfl) rfl⟩) ?_
  refine aC (.inr ⟨rfl,TU.p (Yb (.t rfl) (.t rfl) hBW) rfl⟩) ?_
  refine aC (.inr ⟨rfl,TU.p (.mv rfl) rfl⟩) ?_
  refine aC (.inr ⟨rfl,TU.p (.nc rfl) rfl⟩) ?_
  refine aC (.inr ⟨rfl,TU.p (.fB 0 rfl) rfl⟩) ?_
  refine aC (.inr ⟨rfl,TU.p (.lb rfl (hEW.cell Ng)) rfl⟩) ?_
  refine aC (.inr ⟨rfl,TU.p (.mv rfl) rfl⟩) ?_
  refine aC (.inr ⟨rfl,TU.p (Yb (.t rfl) (.t rfl) hMW) rfl⟩) ?_
  refine aC (.inl (by simp)) ?_
  refine aC (.inl (by simp)) ?_
  refine aC (.inl (by simp)) ?_
  refine aC (.inl (by simp)) ?_
  exact allL.nil
 intro wT g hU0 hbl hpw hg
 have hU:=(Up.drew w20).trans hU0
 obtain⟨B11,e11,z11,hB11⟩:=hbl ⟨9,11,2,11,70⟩ (by simp)
 obtain⟨B12,e12,z12,hB12⟩:=hbl ⟨10,12,8,12,76⟩ (by simp)
 have e70:g 70=.agg (Fact.cells (Kv (Bj all 100000) k0)):=hg 2 _ 70 cQ rfl rfl
 have e76:g 76=.agg (Fact.cells (Kv (Bj al2 100000) k0)):=hg 8 _ 76 cQ rfl rfl
 replace e11:g 11=.pointer (some ⟨B11,0,none⟩):=e11
 replace e12:g 12=.pointer (some ⟨B12,0,none⟩):=e12
 have hne12:B11≠B12:=fun e=>(j0.1 hpw) B11 e11 (by rw[e];exact e12)
 change LW _ _ _ _ _ _ _ _ ((11,.eq (g 11))::(12,.eq (g 12))::_) _
 rw[e11,e12]
 dsimp only at hB11 hB12
 rw[e70]at hB11
 rw[e76]at hB12
 replace hB11:Blk wT B11 (Fact.cells (Kv (Bj all 100000) k0)) 51:=hB11
 replace hB12:Blk wT B12 (Fact.cells (Kv (Bj al2 100000) k0)) 51:=hB12
 have zT:=hU.size
 have zdr:w20.drew.heap.size=w20.heap.size:=rfl
 replace hS:=hS.join (zP hU hB11 hB12 oQ oQ hne12)
 change Wx.Sep _ _ _ [_,_,_,_,_,_,_,_,_,_,_]at hS
 refine Ar (Af ?_)
 refine I (.lc rfl ((hS.blk 9 rfl).agg)) ?_
 refine I (.lc rfl ((hS.blk 10 rfl).agg)) ?_
 refine I (.Yl m4 (Hk _ _) (.t rfl) (.t rfl)) ?_
 refine Ai ?_
 refine CW.b rfl (fun h79=>?_) (fun h79=>?_)
 ·replace h79:=dQ h79
  have h79a:=h79
  refine A7 (Ad (Au (Aq ?_)))
  first|exact⟨(V++[k0],S1),⟨hV2,Tn hStm (tW hSi2 h79b),by first|exact hS.take 9|exact hS.sub (.cons_cons _ (.cons_cons _ (.cons_cons _ (.cons_cons _ (.cons_cons _ (.cons_cons _ (.cons_cons _ (.cons _ (.cons_cons _ (.cons_cons _ .slnil))))))))))⟩,tQ,by show T.length-(V++[k0]).length<T.length-V.length;rw[au,cl];omega⟩|exact⟨(V++[k0],St),⟨hV2,Tn hStm (Ol fun g=>by unfold V0;rw[h79a];rfl),by first|exact hS.take 9|exact hS.sub (.cons_cons _ (.cons_cons _ (.cons_cons _ (.cons_cons _ (.cons_cons _ (.cons_cons _ (.cons_cons _ (.cons _ (.cons_cons _ (.cons_cons _ .slnil))))))))))⟩,tQ,by show T.length-(V++[k0]).length<T.length-V.length;rw[au,cl];omega⟩
 replace h79:=dQ h79
 have h79b:Cw (Kv (Bj all 100000) k0) (Kv (Bj al2 100000) k0)=false:=by simpa using h79
 refine Ak (Ab (Af ?_))
 refine I (.lc rfl ((hS.blk 9 rfl).agg)) ?_
 refine I (.lc rfl ((hS.blk 10 rfl).agg)) ?_
 refine Ao (.buildSlice (xs:=[Kv (Bj all 100000) k0,Kv (Bj al2 100000) k0]) (enc:=Fact.cells) (mk:=fun f:Fact=>.agg f.cells) k6 k7 k_ rfl cQ (fun _=>rfl) (fun _=>rfl) (.ct rfl (.cu rfl)) rfl) rfl ?_
 intro v82 w30 hN82
 obtain⟨u82,B82,rfl,e82,hO82⟩:=NewSl.own hN82 (fun _=>rfl) cQ (by simp[maxLen])
 have z82:=u82.size
 replace hS:=hS.add u82 (A':=A8 51 19 Fact.cells (.slice (some ⟨B82,0,none⟩) 2 2) [Kv (Bj all 100000) k0,Kv (Bj al2 100000) k0]) hO82 (fun i h=>by cases h;exact jb e82.symm)
 change Wx.Sep _ _ _ [_,_,_,_,_,_,_,_,_,_,_,_]at hS
 refine I (.as (v':=vi 2) (PEv.Df k6 (.t rfl)) rfl) ?_
 refine I (.move (.const _)) ?_
 refine LW.nil ?_
 replace hS:=hS.Eb 7 rfl
 replace hS:=hS.Eb 7 rfl
 replace hS:=hS.sub (.cons_cons _ (.cons_cons _ (.cons_cons _ (.cons_cons _ (.cons_cons _ (.cons_cons _ (.cons_cons _ (.cons _ (.cons _ (.cons_cons _ (.cons_cons _ (.cons_cons _ .slnil))))))))))))
 change Wx.Sep _ _ _ [_,_,_,_,_,_,_,_,_,_]at hS
 refine Ab (Ap ?_)
 refine A9 (σ:=Nat×List Grp) (fun s w=>(s.1≤2)∧(∀g,g∈s.2↔g∈St∨(g∈D1.map (·.g)∧(([Kv (Bj all 100000) k0,Kv (Bj al2 100000) k0].take s.1).any fun f=>Fl kb1 f g)=true))∧(Wx.Sep (Cl [Ch E (EC bf bc bd (nw)) 62,Ms.Be bf (E9 (Bj all 100000)),Hc bc kb,Mk.Be Ca bd ((D).map DE.kv),Mn (D)]) w0 w [Ch E (EC bf bc1 bd (nw)) 62,Ms.Be bf (E9 (Bj al2 100000)),Mn (D1),Ms.Be b5 (E9 (Bj all 100000)),Ms.Gg M24 r63 (T.map oF) (V++[k0]),Hc bc1 kb1,Ch B9 #[.pointer (some ⟨E,0,none⟩),.map (some M60)] 76,A8 51 19 Fact.cells (.slice (some ⟨B82,0,none⟩) 2 2) [Kv (Bj all 100000) k0,Kv (Bj al2 100000) k0],Mk.Be Ca bd ((D1).map DE.kv),Mk.Be Ca M60 ((s.2).map Ka)])) (fun s=>[(84,.eq (vi (s.1:Int)))]) ([(0,.eq _),(4,.eq _),(5,.eq _),(9,.eq _),(63,.eq _),(82,.eq _),(83,.eq _)]) (fun s=>2-s.1) (0,St) ?_ tQ ?_
 ·exact⟨ao _,Ol fun _=>rfl,hS⟩
 rintro⟨j,S1⟩ w31 ⟨hj2,hSi,hS⟩
 dsimp only at hj2 hSi hS
 change CW _ _ _ _ _ _ _ ([(84,.eq (vi (j:Int)))]++_) _
 refine Af ?_
 refine I (.l2 rfl rfl) ?_
 refine Ar ?_
 refine CW.b rfl (fun h85=>?_) (fun h85=>?_)
 ·replace h85:=dQ h85
  refine Ak (Ab (Al (Ap (Al ?_))))
  obtain⟨y,hy⟩:∃y,[Kv (Bj all 100000) k0,Kv (Bj al2 100000) k0][j]?=some y:=⟨_,b_ (by show j<2;omega)⟩
  obtain⟨By,oy,ay,hcy⟩:=(D9 (hS.own 7 rfl) (fun _=>rfl)) j y hy
  refine Aa ?_
  refine I (.Ay k6 k7 (j:=j) (.t rfl) (.t rfl) (by show j<2;omega) ay) ?_
  refine I (.lc rfl (hcy)) ?_
  refine Ao (.Bi k_) rfl ?_
  rintro _ w32 ⟨B14,rfl,MB14⟩
  refine Bh (.A5 k7 rfl (.t rfl) (.t rfl) (Fact.one _) MB14.blk rfl) ?_
  intro w33 LB14
  have NB14:=MB14.set LB14
  clear LB14 MB14
  have eB14:=NB14.at_
  have zB14:=NB14.size
  replace hS:=hS.Bn NB14
  change Wx.Sep _ _ _ [_,_,_,_,_,_,_,_,_,_,_]at hS
  refine Ar (Aa ?_)
  refine I (.fB 0 rfl) ?_
  refine I (.lb rfl ((hS.blk 10 rfl).An rfl)) ?_
  refine A3 (eC (.o rfl) (MA)) rfl (iI y.Kind _) ?_
  rintro _ w34 ⟨rfl,uw34⟩
  have zw34:=uw34.size
  replace hS:=hS.up uw34
  refine LW.A rfl (Ar ?_)
  cases oN y.Kind with
  |inl hk0=>
   obtain⟨hk1,hkc⟩:=hk0
   refine Aa (Ac rfl ?_)
   refine I (.fa (lK underlying77 (.t rfl) (.inl ⟨hk1,rfl⟩)) (rfl)) ?_
   refine Ac rfl ?_
   refine E4 ?_
   refine E4 ?_
   refine E4 ?_
   refine I (.De (b:=false) (.t rfl) (fun hp=>absurd (show false=true from hp) cQ)) ?_
   refine Ai ?_
   refine CW.f rfl ?_
   refine Ak (Ae (Ab (Aa ?_)))
   refine I (.ic rfl oQ) ?_
   refine Ac rfl (LW.nil (Aq ?_))
   first|exact⟨(j+1,S2),⟨by show j+1≤2;omega,Sa hy hSi hS2m,by first|exact hS.take 10|exact hS.sub (.cons_cons _ (.cons_cons _ (.cons_cons _ (.cons_cons _ (.cons_cons _ (.cons_cons _ (.cons_cons _ (.cons_cons _ (.cons _ (.cons_cons _ (.cons_cons _ .slnil)))))))))))⟩,tQ,by show 2-(j+1)<2-j;omega⟩|exact⟨(j+1,S1),⟨by show j+1≤2;omega,Sa hy hSi (Ol fun g=>by first|exact Om hgn g|exact hkc kb1 y g rfl),by first|exact hS.take 10|exact hS.sub (.cons_cons _ (.cons_cons _ (.cons_cons _ (.cons_cons _ (.cons_cons _ (.cons_cons _ (.cons_cons _ (.cons_cons _ (.cons _ (.cons_cons _ (.cons_cons _ .slnil)))))))))))⟩,tQ,by show 2-(j+1)<2-j;omega⟩
  |inr hk0=>
   obtain⟨cf,hk1,hen,hcl⟩:=hk0
   rw[hk1]
   refine Aa (Ac rfl ?_)
   refine I (.tr (lK underlying77 (.t rfl) (.inr ⟨_,rfl,rfl⟩)) (rfl)) ?_
   refine Ac rfl ?_
   refine Cq ?_
   refine I (.fB 4 rfl) ?_
   refine Cq ?_
   refine I (.lb rfl ((hS.blk 10 rfl).An rfl)) ?_
   refine Cq ?_
   refine I (.n1 rfl) ?_
   refine I (.pa rfl (fun hp=>(by first|exact .const _|exact .tmp rfl|exact .cond rfl (by first|assumption|simp_all)))) ?_
   refine Ai ?_
   refine CW.b rfl (fun h97=>?_) (fun h97=>?_)
   ·replace h97:=dQ h97
    have hgn:y.Gone=false:=by simpa using h97
    refine Aa (Ac rfl ?_)
    refine I (.lc rfl ((hS.blk 6 rfl).agg)) ?_
    refine I (.lc rfl ((hS.blk 10 rfl).agg)) ?_
    replace hS:=hS.Eb 8 rfl
    change Wx.Sep _ _ _ [_,_,_,_,_,_,_,_,_,_,_]at hS
    replace hS:=hS.Eb 8 rfl
    change Wx.Sep _ _ _ [_,_,_,_,_,_,_,_,_,_,_]at hS
    have hq_:=(show Wx.Sep _ _ _ ([_,_,_,_,_,_,_,_,_]++[_,_])from hS)
    refine A3 (D0 (.t rfl) (.ct rfl (.cu rfl)) (hen)) rfl (hcl y E bf bd M60 bc1 nw _ S1 _ hS.b0 hsz1 (hq_.oB ⟨_,bp,rfl⟩) hq_.right.self kb1 (hS.get 5 rfl) oQ rfl hgn) ?_
    rintro _ w35 ⟨S2,rfl,uw35,hS2m⟩
    replace hS:=hq_.frame uw35
    change Wx.Sep _ _ _ [_,_,_,_,_,_,_,_,_,_,_]at hS
    have zw35:=uw35.fr.size
    clear hq_
    simp only[Rb]at hS2m
    refine LW.nil (Ae (Ab (Aa ?_)))
    refine I (.ic rfl oQ) ?_
    refine Ac rfl (LW.nil (Aq ?_))
    first|exact⟨(j+1,S2),⟨by show j+1≤2;omega,Sa hy hSi hS2m,by first|exact hS.take 10|exact hS.sub (.cons_cons _ (.cons_cons _ (.cons_cons _ (.cons_cons _ (.cons_cons _ (.cons_cons _ (.cons_cons _ (.cons_cons _ (.cons _ (.cons_cons _ (.cons_cons _ .slnil)))))))))))⟩,tQ,by show 2-(j+1)<2-j;omega⟩|exact⟨(j+1,S1),⟨by show j+1≤2;omega,Sa hy hSi (Ol fun g=>by first|exact Om hgn g|exact hkc kb1 y g rfl),by first|exact hS.take 10|exact hS.sub (.cons_cons _ (.cons_cons _ (.cons_cons _ (.cons_cons _ (.cons_cons _ (.cons_cons _ (.cons_cons _ (.cons_cons _ (.cons _ (.cons_cons _ (.cons_cons _ .slnil)))))))))))⟩,tQ,by show 2-(j+1)<2-j;omega⟩
   replace h97:=dQ h97
   have hgn:y.Gone=true:=by simpa using h97
   refine Ak (Ae (Ab (Aa ?_)))
   refine I (.ic rfl oQ) ?_
   refine Ac rfl (LW.nil (Aq ?_))
   first|exact⟨(j+1,S2),⟨by show j+1≤2;omega,Sa hy hSi hS2m,by first|exact hS.take 10|exact hS.sub (.cons_cons _ (.cons_cons _ (.cons_cons _ (.cons_cons _ (.cons_cons _ (.cons_cons _ (.cons_cons _ (.cons_cons _ (.cons _ (.cons_cons _ (.cons_cons _ .slnil)))))))))))⟩,tQ,by show 2-(j+1)<2-j;omega⟩|exact⟨(j+1,S1),⟨by show j+1≤2;omega,Sa hy hSi (Ol fun g=>by first|exact Om hgn g|exact hkc kb1 y g rfl),by first|exact hS.take 10|exact hS.sub (.cons_cons _ (.cons_cons _ (.cons_cons _ (.cons_cons _ (.cons_cons _ (.cons_cons _ (.cons_cons _ (.cons_cons _ (.cons _ (.cons_cons _ (.cons_cons _ .slnil)))))))))))⟩,tQ,by show 2-(j+1)<2-j;omega⟩
 replace h85:=dQ h85
 have hj2e:j=2:=by omega
 subst hj2e
 have hSi2:=hSi
 refine A7 (Ad (Ad (Au (Ae (Aq ?_)))))
 first|exact⟨(V++[k0],S1),⟨hV2,Tn hStm (tW hSi2 h79b),by first|exact hS.take 9|exact hS.sub (.cons_cons _ (.cons_cons _ (.cons_cons _ (.cons_cons _ (.cons_cons _ (.cons_cons _ (.cons_cons _ (.cons _ (.cons_cons _ (.cons_cons _ .slnil))))))))))⟩,tQ,by show T.length-(V++[k0]).length<T.length-V.length;rw[au,cl];omega⟩|exact⟨(V++[k0],St),⟨hV2,Tn hStm (Ol fun g=>by unfold V0;rw[h79a];rfl),by first|exact hS.take 9|exact hS.sub (.cons_cons _ (.cons_cons _ (.cons_cons _ (.cons_cons _ (.cons_cons _ (.cons_cons _ (.cons_cons _ (.cons _ (.cons_cons _ (.cons_cons _ .slnil))))))))))⟩,tQ,by show T.length-(V++[k0]).length<T.length-V.length;rw[au,cl];omega⟩
end Go.Proofs.YtbcnnkfopoiifaaGreatDoor
