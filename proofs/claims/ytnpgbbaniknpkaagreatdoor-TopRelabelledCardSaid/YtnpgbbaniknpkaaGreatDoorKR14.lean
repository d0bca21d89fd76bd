import Derived.Test.YtnpgbbaniknpkaaGreatDoorKR13
import Derived.ProofKit
import Derived.OpenShut
import Derived.Carry
import Derived.ChangeMaps5
import Derived.Deep.Slices
import Derived.ChangeSlices
namespace Go.Wx
open Go.ChangeShapes Go.WideShapes Go.RowKit
theorem K6{n:Int}(h:(Lit.int .i64 n).wf=true):Yq n:=by
 have h2:IntKind.i64.min≤n∧n≤IntKind.i64.max:=by simpa[Lit.wf]using h
 exact h2
section
variable {H:Type}{enc:TypeId×Value→H}{P:Program}
theorem cM{f:Func}{s:ChangeSpec}{apart fresh handsOn again:Bool}{W W':World}{args:Array Value}{v:Value}{ds gs:List (DataW H)}{before pa pv:List MemPlace}(hW:DataW.Whole enc P f.params.toList s.vars apart W args.toList ds gs before)
   (hres:∀(b:Nat)(sp:Nat→Bool)(hd:Bool),DataW.TrodAll enc P W' b sp hd f.resultTypes.toList (v.resultList f.resultTypes.size) (s.fn H (ds++gs)).results [])
   (hargs:∀sp:Nat→Bool,(∀p∈before,sp p.block=true)→DataW.TrodAll enc P W' 0 sp true f.params.toList args.toList (s.fn H (ds++gs)).args pa)(hvars:∀sp:Nat→Bool,(∀p∈before,sp p.block=true)→DataW.TrodVars enc P W' sp s.vars (s.fn H (ds++gs)).vars pv)
   (hps:before=pa++pv)(hu:Up W W')(hok:∀(j:Nat)(t:TypeId)(r:Value),f.resultTypes[j]?=some t→(v.resultList f.resultTypes.size)[j]?=some r→Value.okWide P W' .any 0 t r):
   s.post enc P f apart fresh handsOn again W args v W':=by
 have hlt:∀p∈before,p.block<W.heap.size:=fun p hp=>hW.lt p hp
 have hold:∀p∈before,(fun b=>decide (b<W.heap.size)) p.block=true:=fun p hp=>by simpa using hlt p hp
 refine⟨ds,gs,before,[],pa,pv,hW,hres _ _ _,hargs _ hold,hvars _ hold,Below.frame hu _,fun _=>?_⟩
 obtain⟨_,_,_,_,_,hz,hn⟩:=hW
 refine⟨hok,_,_,([]++pa)++pv,⟨[]++pa,pv,trodAll_append (hargs _ (fun _ _=>rfl)) (hres _ _ _),hvars _ (fun _ _=>rfl),rfl,?_,?_⟩,?_⟩
 · intro b off hp
   rw[Below.frozen hu (p:=⟨b,off,none⟩) (hlt (.cell b off) (by rw[hps];simpa using hp))]
   exact hz b off (by rw[hps];simpa using hp)
 · intro ha
   have:=hn ha
   rw[hps]at this
   simpa using this
 intro p hp _
 rw[hps]
 simpa using hp
theorem Mt{t:TypeId}(hl:laidOutB P=true)(hr:P.readableRec t=true)(hrow:t<P.types.size){W W':World}{v:Value}{d:DataW H}{ps:List MemPlace}(h:DataW.Trod enc P W 0 (fun _=>true) true t v d ps)(hu:Up W W')(hlt:∀x∈ps,x.block<W.heap.size)
 (sp:Nat→Bool)(hsp:∀x∈ps,sp x.block=true):DataW.Trod enc P W' 0 sp true t v d ps:=WideElems.Trod_stays hl hr hrow h (fun x hx=>Below.same hu (hlt x hx)) hsp
theorem Qw{α:Type}(p:Nat→α→Prop):∀(n:Nat),(∀i,i<n→∃a,p i a)→∃xs:List α,xs.length=n∧∀i x,xs[i]?=some x→p i x
 |0,_=>⟨[],rfl,fun i x h=>by simp at h⟩
 |n+1,h=>by
   obtain⟨xs,h1,h2⟩:=Qw p n (fun i hi=>h i oQ)
   obtain⟨a,ha⟩:=h n oQ
   refine⟨xs++[a],by simp[h1],fun i x hx=>?_⟩
   rcases i5 i n with h3|h3|h3
   · rw[c7 (by omega)]at hx
     exact h2 i x hx
   · subst h3
     rw[db oQ,h1]at hx
     simp at hx
     subst hx;exact ha
   rw[cy (by simp;omega)]at hx
   cases hx
theorem Yu{W:World}{r:Reach}{b0:Nat}{t e:TypeId}{v:Value}(ht:P.underlying t=some (.slice e))(hv:Value.okWide P W r b0 t v):v=.slice none 0 0∨∃B o n c,v=.slice (some ⟨B,o,none⟩) n c:=by
 unfold Value.okWide at hv
 rw[ht]at hv
 simp only[Cell.okWide,ht,Cell.ok]at hv
 cases v with
 |slice ad n c=>
   cases ad with
   |none=>
     left
     cases n with
     |zero=>cases c with
       |zero=>rfl
       |succ c=>simp at hv
     |succ n=>simp at hv
   |some a=>
     right
     obtain⟨B,o,s⟩:=a
     have h3:W.has P r b0 ⟨B,o,s⟩ e c:=(show n≤c∧(c:Int)≤IntKind.i64.max∧_ from by simpa using hv).2.2
     have:s=none:=h3.2.1
     subst this
     exact⟨B,o,n,c,rfl⟩
 |_=>simp at hv
theorem W8{α:Type}{W:World}{b b0:Nat}{sp:Nat→Bool}{hd:Bool}{r:Reach}{t e:TypeId}{k:Nat}(ea:α→Array Value)(good:α→Prop){v:Value}{d:DataW H}{ps:List MemPlace}(ht:P.underlying t=some (.slice e))(hk:P.cellsOf e=k)(hv:Value.okWide P W r b0 t v)(h:DataW.Trod enc P W b sp hd t v d ps)
   (hel:∀n cs' x,cs'.length=k→DataW.trod enc P W b sp hd n e cs'=some x→∃a:α,cs'=(ea a).toList∧good a):
   ∃ad cp,∃xs:List α,v=.slice ad xs.length cp∧Els W ad k ea xs∧(∀x∈xs,good x)∧xs.length≤maxLen∧xs.length≤cp:=by
 obtain⟨fuel,hf⟩:=h
 rcases Yu ht hv with rfl|⟨B,o,n0,c0,rfl⟩
 · exact⟨none,0,[],rfl,fun i x hx=>by simp at hx,fun x hx=>by simp at hx,by simp[maxLen],bl _⟩
 rcases Go.Deep.open_slice ht hf with⟨hcs,_⟩|⟨a,len,cap,m,n,D,Pl,hcs,hb,hl,hm,hmm,_,hE⟩
 · simp[Value.cells]at hcs
 have hcs':(⟨B,o,none⟩:Addr)=a∧n0=len∧c0=cap:=by simpa[Value.cells]using hcs
 obtain⟨rfl,rfl,rfl⟩:=hcs'
 have hle:n0≤m:=by rw[hmm];split<;>omega
 obtain⟨xs,hlen,hxs⟩:=Qw (fun i(x:α)=>AggAt W B (o+i*k) (ea x)∧good x) n0 (fun i hi=>by
   obtain⟨cs',h1,h2⟩:=hE i oQ
   rw[hk]at h1
   unfold World.cells? at h1
   split at h1
   · have hlen:=mapM_some_length h1
     rw[j_]at hlen
     obtain⟨x,hx,hg⟩:=hel n cs' _ hlen h2
     refine⟨x,fun j u hu=>?_,hg⟩
     have hu':cs'[j]?=some u:=by rw[hx];simpa using hu
     have hj:j<cs'.length:=(am.1 hu').1
     have:=mapM_some_get h1 j j (List.getElem?_range oQ)
     rw[hu',E3,E3]at this
     exact this
   cases h1)
 exact⟨_,_,xs,by rw[hlen],fun i x hx=>⟨B,o,rfl,(hxs i x hx).1⟩,fun x hx=>by obtain⟨i,hi⟩:=et.1 hx;exact(hxs i x hi).2,by rw[hlen];omega,by rw[hlen];exact hl⟩
end
end Go.Wx
namespace Go.Wx
structure I6 where
 a:Int
 b:Int
 c:Int
 d:Int
 e:Int
 f:Int
def I6.cells(x:I6):Array Value:=#[vi x.a,vi x.b,vi x.c,vi x.d,vi x.e,vi x.f]
def cO(x:I6):Prop:=Yq x.a∧Yq x.b∧Yq x.c∧Yq x.d∧Yq x.e∧Yq x.f
theorem I6.one(x:I6):x.cells.all (·.oneCell')=true:=by simp[I6.cells,Value.oneCell']
end Go.Wx
