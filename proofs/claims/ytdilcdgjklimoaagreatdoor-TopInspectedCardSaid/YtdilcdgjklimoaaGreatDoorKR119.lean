import Derived.Test.YtdilcdgjklimoaaGreatDoorKR118
import Derived.Sort.Grow
namespace Go.Wx
open Go.RowKit
structure Dr(w w':World):Prop where
 up:Up w w'
 dr:w.drawn≤w'.drawn
theorem Dr.refl(w:World):Dr w w:=⟨Up.refl w,Nat.le_refl _⟩
theorem Dr.trans{a b c:World}(h:Dr a b)(k:Dr b c):Dr a c:=⟨h.up.trans k.up,Nat.le_trans h.dr k.dr⟩
theorem Dr.drew(w:World):Dr w w.drew:=⟨Up.drew w,Nat.le_succ _⟩
theorem Dr.same{w w':World}(u:Up w w')(h:w'.drawn=w.drawn):Dr w w':=⟨u,Nat.le_of_eq h.symm⟩
theorem Dr.grow{w w':World}(h:Dr w w'):∃q os',w'=Go.Sort.grow (w.drewN q) os':=by
 obtain⟨⟨h1,h2,h3,h4,h5⟩,h6⟩:=h
 refine⟨w'.drawn-w.drawn,w'.heap.extract w.heap.size w'.heap.size,?_⟩
 have e1:w'.heap=w.heap++w'.heap.extract w.heap.size w'.heap.size:=by
   apply Array.ext_getElem?
   intro k
   rw[Array.getElem?_append]
   split
   · rename_i hk;exact h5 k hk
   rename_i hk
   rw[Array.getElem?_extract]
   by_cases hk2:k<w'.heap.size
   · rw[if_pos (by omega)]
     congr 1
     omega
   rw[if_neg oQ,Array.getElem?_eq_none (by omega)]
 have e2:w'.drawn=w.drawn+(w'.drawn-w.drawn):=by omega
 cases w'
 cases w
 simp only at h1 h2 h3 e1 e2
 subst h1
 subst h2
 subst h3
 unfold Go.Sort.grow World.drewN
 simp only[World.mk.injEq,and_true,true_and]
 exact⟨e1,e2⟩
def PhD(q:Ph):Prop:=∀v w w',q.holds v w→Dr w w'→q.holds v w'
theorem PhD.eq(v:Value):PhD (.eq v):=fun _ _ _ h _=>h
theorem PhD.pred{p:Value→World→Prop}(h:∀v w w',p v w→Up w w'→p v w'):PhD (.pred p):=fun v w w' h1 u=>h v w w' h1 u.up
def allD:List Ph→Prop
 |[]=>True
 |q::r=>PhD q∧allD r
theorem allD.at:∀{l:List Ph},allD l→∀i,PhD (l.getD i (.eq undef))
 |[],_,_=>by simpa using PhD.eq undef
 |_::_,h,0=>by simpa using h.1
 |_::_,h,i+1=>by simpa using allD.at h.2 i
section
variable {P:Program}{n:Nat}{ds:List Deferred}{w:World}
def TD(P:Program)(n:Nat)(ds:List Deferred)(env:Env)(W:World)(o:Oper)(q:Ph):Prop:=∀a,Ag n ds env a W→iJ P o a W (fun v W'=>Dr W W'∧q.holds v W')
theorem TD.p{env:Env}{o:Oper}{v:Value}{q:Ph}(h:PEv P n ds env w o v)(hx:q.holds v w):TD P n ds env w o q:=fun a ha=>.inl ⟨v,w,h a w ha (Up.refl w),Dr.refl w,hx⟩
theorem TD.r{env:Env}{o:Oper}{q:Ph}{Post:Value→World→Prop}(h:REv P n ds env w o Post)(hx:∀v W',Post v W'→Dr w W'∧q.holds v W'):TD P n ds env w o q:=fun a ha=>
 let⟨v,W',hr,hp⟩:=h a ha
 .inl ⟨v,W',hr,hx v W' hp⟩
theorem TD.c{env:Env}{o:Oper}{q:Ph}{f:FuncId}{args:Array Value}{Post:Value→World→Prop}(he:∀a,Ag n ds env a w→(execOp a.eval o).run P w=.ok (.enter f args) w)(hc:Ret P f args w Post)(hx:∀v W',Post v W'→Dr w W'∧q.holds v W'):TD P n ds env w o q:=fun a ha=>
 .inr ⟨f,args,w,he a ha,hc.mono hx⟩
theorem TD.open{env:Env}{o:Oper}{q:Ph}{d:Nat}{p:Value→World→Prop}(hp:lk env d=some (.pred p))(h:∀v,p v w→TD P n ds ((d,.eq v)::env) w o q):TD P n ds env w o q:=fun a ha=>
 h _ (ha.val d _ hp) a ⟨ha.defers,ha.size,fun i ph hi=>by
   by_cases e:i=d
   · subst e
     rw[A7]at hi
     cases hi
     rfl
   rw[A8 e]at hi
   exact ha.val i ph hi⟩
end
section
variable {R:Option Nat}{m:Nat}{P:Program}{n:Nat}{ds:List Deferred}{Q:Exit→Go.Act→World→Prop}{l:Env}{w:World}{ops:Array Oper}
theorem qA{id:Nat}{opsL:List Oper}(k:Nat)(phs:List Ph)(keep:List Nat)(hm:P.follows .mixedOrders=true)(hl:Cj l=true)
   (hA:Dv opsL.toArray=true)(hC:(Nat.beq k opsL.toArray.size||Fh opsL.toArray k)=true)(hF:Iu opsL.toArray k=true)(hks:Nat.ble k opsL.toArray.size=true)(hD:Gr n opsL.toArray 0 k=true)(hTl:Gc opsL.toArray k=true)
   (hfree:Jd l (opsL.take k)=true)(hph:allD phs)
   (hop:∀W,Dr w.drew W→allL (fun i o=>o.guard=none∧TD P n ds (Ju opsL.toArray (fun i=>phs.getD i (.eq undef)) 0 o++l) W o (phs.getD i (.eq undef))) 0 (opsL.take k))
   (hend:∀W(g:Nat→Value),Dr w.drew W→(∀i o d,i<k→opsL[i]?=some o→o.dst=some d→(phs.getD i (.eq undef)).holds (g d) W)→LW R m P n ds opsL.toArray Q (opsL.drop k) (keep.map (fun d=>(d,.eq (g d)))++l) W):
   CW R m P n ds (.region id opsL.toArray true) Q l w:=by
 have hks':k≤opsL.length:=by have:=Nat.le_of_ble_eq_true hks;simp at this;omega
 have sub:∀j o,j<k→opsL.toArray[j]?=some o→(opsL.take k)[j]?=some o:=fun j o hjk ho=>by
   rw[List.getElem?_take_of_lt hjk];simpa using ho
 have hbd:∀i ph,lk l i=some ph→∀(j:Nat)(o:Oper),0≤j→j<k→opsL.toArray[j]?=some o→o.dst≠some i:=fun i ph hi j o _ hjk ho=>Fw hfree hi (List.mem_of_getElem? (sub j o hjk ho))
 refine Ep hm hl fun fuel listed a hf hu ha=>(Ht (k:=k) (fun i=>phs.getD i (.eq undef)) Dr (fun _ _ _=>True) (f0:=fun t=>a.tmps.getD t undef) Dr.refl (fun _ _ _=>Dr.trans) (fun i v w w' h u=>(hph.at i) v w w' h u) hA hC hF hks (by simp) hD hl hbd ?_ trivial ?_ fuel listed a hf hu ha (fun _=>rfl))
 · intro i o _ hi hio L f W hU hDn hLi hed _ a ha hsl
   have h3:=(hop W hU).at (sub i o hi hio)
   rw[Nat.zero_add]at h3
   obtain⟨hg,h3⟩:=h3
   rw[if_pos (by simp[Region.wanted,hg])]
   have done:∀v W',Dr W W'∧(phs.getD i (.eq undef)).holds v W'→Dr W W'∧(∀d,o.dst=some d→(phs.getD i (.eq undef)).holds v W')∧True:=fun v W' h=>⟨h.1,fun _ _=>h.2,trivial⟩
   rcases h3 a ha with⟨v,W',hr,hp⟩|⟨fn,args,w1,hr,hc⟩
   · exact .inl (.inl ⟨v,W',hr,done v W' hp⟩)
   exact .inl (.inr ⟨fn,args,w1,hr,hc.mono done⟩)
 intro f W hUp _ fuel' listed' a' hf' hu' ha' hsl'
 have key:∀i o d,i<k→opsL[i]?=some o→o.dst=some d→(phs.getD i (.eq undef)).holds (f d) W:=by
   intro i o d hik ho hd
   have ho':opsL.toArray[i]?=some o:=by simpa using ho
   have hmem:(d,phs.getD i (.eq undef))∈Hj opsL.toArray (fun i=>phs.getD i (.eq undef)) 0 k:=by
     unfold Hj
     rw[List.mem_filterMap]
     exact⟨i,List.mem_range.2 hik,by rw[if_pos (by simp),ho'];simp[hd]⟩
   obtain⟨q',hq⟩:=H3 hmem
   obtain⟨j,p,_,hjk,hp,hpd,e⟩:=E6 hq
   have:j=i:=by
     by_cases ee:j=i
     · exact ee
     exact absurd hpd ((C8 hD (Nat.zero_le _) hik ho' hd).2 j p (Nat.zero_le _) hjk ee hp)
   subst this
   have:=ha'.val d q' (Lw hq)
   rw[hsl',e]at this
   exact this
 refine Et hTl hA (opsL.toArray.size-k) k fuel' listed' a' W rfl (by simp;omega) (Nat.le_refl _) hf' hu' (hend W f hUp key a' ⟨ha'.defers,ha'.size,fun t q ht=>?_⟩)
 rcases C6 ht with h|h
 · obtain⟨d,_,he⟩:=List.mem_map.1 (J0 h)
   cases he
   exact hsl' _
 refine ha'.val t q ?_
 rw[Fb]
 · exact h
 cases hq:lk (Hj opsL.toArray (fun i=>phs.getD i (.eq undef)) 0 k) t with
 |none=>rfl
 |some q'=>
   obtain⟨j,p,_,hjk,hp,hpd,_⟩:=E6 hq
   exact absurd hpd (hbd t q h j p (Nat.zero_le _) hjk hp)
end
section
variable {P:Program}{n:Nat}{ds:List Deferred}{l:Env}{w:World}{d:Option Tmp}{ty:TypeId}{ps:String}{af:Array Edge}{g:Option (Nat×Bool)}
theorem Qe{α:Type}{T e:TypeId}{k N:Nat}{enc:α→Array Value}{mk:α→Value}{xs:List α}{vs:List (Nat×Value)}{z:Value}(hu:P.underlying T=some (.slice e))(hs:∀w,(sizeOf e).run P w=.ok k w)(hz:∀w,(zeroValue e).run P w=.ok z w)
   (hN:xs.length=N)(hsmall:N*k≤16777216)(hmk:∀x,(mk x).cells=enc x)(hk:∀x,(enc x).size=k)(hv:vs=H9 (xs.map mk) 0)(w:World):
   ∃v w',(Instr.buildSlice T N vs.toArray).run P w=.ok v w'∧NewSl w e k enc xs v w'∧w'.drawn=w.drawn:=by
 subst hN
 obtain⟨out,h1,h2,_,h4⟩:=Q5 k (xs.map mk) 0 ((Array.range (xs.length*k)).map fun i=>(if xs.length*k=0 then(#[]:Array Value)else z.cells)[i%(if xs.length*k=0 then(#[]:Array Value)else z.cells).size]!) (by intro v hv;obtain⟨x,_,rfl⟩:=List.mem_map.1 hv;rw[hmk,hk]) (by simp)
 have hel:Els (w.alloc (.cells out e)) (some ⟨w.heap.size,0,none⟩) k enc xs:=Np (Ot w out e) fun i x hx j v hj=>by
   have:=h4 i (mk x) (by simp[hx]) j v (by rw[hmk];exact hj)
   simpa using this
 refine⟨.slice (some ⟨w.heap.size,0,none⟩) xs.length xs.length,w.alloc (.cells out e),?_,⟨w.heap.size,out,rfl,New.alloc w out e,by rw[h2];simp,hel⟩,rfl⟩
 subst hv
 have hlim:¬(xs.length*k>2^24):=by omega
 simp only[Instr.buildSlice,Sem.run_bind,run_underlying hu,Result.andThen,hs,if_neg hlim]
 by_cases h0:xs.length*k=0
 · simp only[h0]at h1⊢
   simp at h1⊢
   simp[h1,newRow]
 simp only[if_neg h0]at h1⊢
 simp[h1,hz,Sem.run_bind,newRow]
theorem Qf{α:Type}{T e:TypeId}{k N:Nat}{enc:α→Array Value}{mk:α→Value}{xs:List α}{po:Array (Nat×Operand)}{vs:List (Nat×Value)}{z:Value}(hu:P.underlying T=some (.slice e))(hs:∀w,(sizeOf e).run P w=.ok k w)(hz:∀w,(zeroValue e).run P w=.ok z w)
   (hN:xs.length=N)(hsmall:N*k≤16777216)(hmk:∀x,(mk x).cells=enc x)(hk:∀x,(enc x).size=k)(hp:Parts l po.toList vs)(hv:vs=H9 (xs.map mk) 0):REv P n ds l w ⟨d,.buildSlice T N po,ty,ps,af,g⟩ (fun v w'=>NewSl w e k enc xs v w'∧w'.drawn=w.drawn):=fun a ha=>by
 obtain⟨v,w',h1,h2⟩:=Qe (P:=P) hu hs hz hN hsmall hmk hk hv w
 refine⟨v,w',Ci ?_,h2⟩
 have e1:(po.map fun(i,x)=>(i,a.eval x))=vs.toArray:=by apply Array.ext';rw[←hp.map ha];simp
 rw[e1];exact h1
theorem REv.FL{T:TypeId}{x:Operand}{cs:Array Value}(hx:Val l x (.agg cs)):REv P n ds l w ⟨d,.box T x,ty,ps,af,g⟩ (fun v w'=>∃B,v=.pointer (some ⟨B,0,none⟩)∧New w w' B cs T∧w'.drawn=w.drawn):=fun a ha=>by
 refine⟨_,_,Ci (v:=.pointer (some ⟨w.heap.size,0,none⟩)) (w':=w.alloc (.cells cs T)) ?_,_,rfl,New.alloc w cs T,rfl⟩
 rw[ha.ev hx]
 rfl
end
end Go.Wx
