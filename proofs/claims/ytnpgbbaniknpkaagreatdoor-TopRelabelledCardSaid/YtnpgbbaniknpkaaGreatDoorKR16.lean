import Derived.Test.YtnpgbbaniknpkaaGreatDoorKR15
import Derived.Lib.Bytealg
import Derived.Laws.Externs
namespace Go.Wx
open Go.RowKit
def PhU(q:Ph):Prop:=∀v w w',q.holds v w→Up w w'→q.holds v w'
theorem PhU.eq(v:Value):PhU (.eq v):=fun _ _ _ h _=>h
theorem om{v:Value}:PhU (.eq v):=PhU.eq _
theorem PhU.pred{p:Value→World→Prop}(h:∀v w w',p v w→Up w w'→p v w'):PhU (.pred p):=h
def allU:List Ph→Prop
 |[]=>True
 |q::r=>PhU q∧allU r
theorem allU.at:∀{l:List Ph},allU l→∀i,PhU (l.getD i (.eq undef))
 |[],_,_=>by simpa using PhU.eq undef
 |_::_,h,0=>by simpa using h.1
 |_::_,h,i+1=>by simpa using allU.at h.2 i
section
variable {R:Option Nat}{m:Nat}{P:Program}{n:Nat}{ds:List Deferred}{Q:Exit→Go.Act→World→Prop}{l:Env}{w:World}{ops:Array Oper}
theorem Ju{id:Nat}{opsL:List Oper}(k:Nat)(phs:List Ph)(keep:List Nat)(hm:P.follows .mixedOrders=true)(hl:Cq l=true)
   (hA:Dz opsL.toArray=true)(hC:(Nat.beq k opsL.toArray.size||Fv opsL.toArray k)=true)(hF:Ik opsL.toArray k=true)(hks:Nat.ble k opsL.toArray.size=true)(hD:Gw n opsL.toArray 0 k=true)(hTl:Gv opsL.toArray k=true)
   (hfree:Ji l (opsL.take k)=true)(hph:allU phs)
   (hop:∀W,Up w.drew W→allL (fun i o=>o.guard=none∧TU P n ds (Jt opsL.toArray (fun i=>phs.getD i (.eq undef)) 0 o++l) W o (phs.getD i (.eq undef))) 0 (opsL.take k))
   (hend:∀W(g:Nat→Value),Up w.drew W→(∀i o d,i<k→opsL[i]?=some o→o.dst=some d→(phs.getD i (.eq undef)).holds (g d) W)→LW R m P n ds opsL.toArray Q (opsL.drop k) (keep.map (fun d=>(d,.eq (g d)))++l) W):
   CW R m P n ds (.region id opsL.toArray true) Q l w:=by
 have hks':k≤opsL.length:=by have:=a_ hks;simp at this;omega
 have sub:∀j o,j<k→opsL.toArray[j]?=some o→(opsL.take k)[j]?=some o:=fun j o hjk ho=>by
   rw[dm hjk];simpa using ho
 have hbd:∀i ph,lk l i=some ph→∀(j:Nat)(o:Oper),0≤j→j<k→opsL.toArray[j]?=some o→o.dst≠some i:=fun i ph hi j o _ hjk ho=>Gf hfree hi (ai (sub j o hjk ho))
 refine Db hm hl fun fuel listed a hf hu ha=>(H3 (k:=k) (fun i=>phs.getD i (.eq undef)) Up (fun _ _ _=>True) (f0:=fun t=>a.tmps.getD t undef) Up.refl (fun _ _ _=>Up.trans) (fun i v w w' h u=>(hph.at i) v w w' h u) hA hC hF hks (by simp) hD hl hbd ?_ trivial ?_ fuel listed a hf hu ha (fun _=>rfl))
 · intro i o _ hi hio L f W hU hDn hLi hed _ a ha hsl
   have h3:=(hop W hU).at (sub i o hi hio)
   rw[dp]at h3
   obtain⟨hg,h3⟩:=h3
   rw[bh (by simp[Region.wanted,hg])]
   have done:∀v W',Up W W'∧(phs.getD i (.eq undef)).holds v W'→Up W W'∧(∀d,o.dst=some d→(phs.getD i (.eq undef)).holds v W')∧True:=fun v W' h=>⟨h.1,fun _ _=>h.2,trivial⟩
   rcases h3 a ha with⟨v,W',hr,hp⟩|⟨fn,args,w1,hr,hc⟩
   · exact .inl (.inl ⟨v,W',hr,done v W' hp⟩)
   exact .inl (.inr ⟨fn,args,w1,hr,hc.mono done⟩)
 intro f W hUp _ fuel' listed' a' hf' hu' ha' hsl'
 have key:∀i o d,i<k→opsL[i]?=some o→o.dst=some d→(phs.getD i (.eq undef)).holds (f d) W:=by
   intro i o d hik ho hd
   have ho':opsL.toArray[i]?=some o:=by simpa using ho
   have hmem:(d,phs.getD i (.eq undef))∈Hg opsL.toArray (fun i=>phs.getD i (.eq undef)) 0 k:=by
     unfold Hg
     rw[f5]
     exact⟨i,cn.2 hik,by rw[bh (by simp),ho'];simp[hd]⟩
   obtain⟨q',hq⟩:=Hv hmem
   obtain⟨j,p,_,hjk,hp,hpd,e⟩:=Fg hq
   have:j=i:=by
     by_cases ee:j=i
     · exact ee
     exact absurd hpd ((Da hD (a8 _) hik ho' hd).2 j p (a8 _) hjk ee hp)
   subst this
   have:=ha'.val d q' (K8 hq)
   rw[hsl',e]at this
   exact this
 refine E4 hTl hA (opsL.toArray.size-k) k fuel' listed' a' W rfl (by simp;omega) (bl _) hf' hu' (hend W f hUp key a' ⟨ha'.defers,ha'.size,fun t q ht=>?_⟩)
 rcases Dq ht with h|h
 · obtain⟨d,_,he⟩:=bx.1 (K7 h)
   cases he
   exact hsl' _
 refine ha'.val t q ?_
 rw[F8]
 · exact h
 cases hq:lk (Hg opsL.toArray (fun i=>phs.getD i (.eq undef)) 0 k) t with
 |none=>rfl
 |some q'=>
   obtain⟨j,p,_,hjk,hp,hpd,_⟩:=Fg hq
   exact absurd hpd (hbd t q h j p (a8 _) hjk hp)
end
section
variable {P:Program}{n:Nat}{ds:List Deferred}{l:Env}{w:World}{d:Option Tmp}{ty:TypeId}{ps:String}{af:Array Edge}{g:Option (Nat×Bool)}
theorem PEv.cY{S i:Nat}{x:Operand}{fs:Array Field}{f:Field}{off:Nat}{cs:Array Value}{v:Value}(hS:P.underlying S=some (.struct fs))(hf:fs[i]?=some f)(ho:f.offset=off)(hA:∀w,(isAgg f.type).run P w=.ok false w)(hx:Val l x (.agg cs))(hv:cs[off]?=some v):
   PEv P n ds l w ⟨d,.field S x i,ty,ps,af,g⟩ v:=fun a w' ha _=>by
 refine C0 ?_
 rw[ha.ev hx]
 simp[Instr.field,run_underlying hS,Sem.run_bind,hf,asAgg,part,hA,ho,hv,Result.andThen]
theorem Ut{f:FuncId}{fn:Func}(hf:P.funcs[f]?=some fn)(h1:(fn.name== "runtime.NumGoroutine")=false)(h2:fn.body.isNone=true)(h3:Extern.findNext fn=none)(h4:Extern.find fn=some Extern.BytealgCompare.compare)(a b:ByteArray)(w:World):
   (callFunc f [.string a,.string b].toArray).run P w=.ok (.value (vi (Lib.compareBytes a.data.toList b.data.toList))) w:=by
 rw[run_callFunc_extern hf h1 h2 h3 h4]
 have:=Lib.run_compareString (P:=P) a b w
 show(Sem.run P (Extern.BytealgCompare.compare #[.string a,.string b]) w).andThen _=_
 rw[this]
 rfl
end
end Go.Wx
