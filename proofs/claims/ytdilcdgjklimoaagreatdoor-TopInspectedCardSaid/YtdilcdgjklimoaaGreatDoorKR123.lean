import Derived.Test.YtdilcdgjklimoaaGreatDoorKR122
import Derived.Lib.AppendZerosOnto
import Derived.Laws.AppendOwn
namespace Go.Wx
section
open Go.Lib
variable {P:Program}{n:Nat}{ds:List Deferred}{l:Env}{w:World}{d:Option Tmp}{ty:TypeId}{ps:String}{af:Array Edge}{g:Option (Nat×Bool)}
theorem PEv.FQ{T e:TypeId}{x:Operand}{ad:Option Addr}{k c:Nat}(hT:P.underlying T=some (.slice e))(hx:Val l x (.slice ad k c)):
   PEv P n ds l w ⟨d,.call { callee:=.builtin .cap,args:=#[x],argTypes:=#[T] },ty,ps,af,g⟩ (.int .i64 (c:Int)):=fun a w' ha _=>by
 rw[BigFrame.execOp_builtin,BigFrame.builtin_cap]
 refine Ci ?_
 simp[Builtin.cap_,run_underlying hT,Sem.run_bind,goInt,ha.ev hx]
theorem REv.vT{T tn e:TypeId}{i:TypeInfo}{s x:Operand}{kn:IntKind}(hT:P.underlying T=some (.slice e))(hn:P.underlying tn=some (.int kn))(hi:P.info? e=some i)(hz:i.zero=some (vi 0))(hsz:i.size=1)(hb:i.bytes=8)(hs:Val l s (.slice none 0 0))(hx:Val l x (vi 3)):
   REv P n ds l w ⟨d,.call { callee:=.builtin .append,args:=#[s,x],argTypes:=#[T,tn] },ty,ps,af,g⟩ (fun v w'=>∃B cp,v=.slice (some ⟨B,0,none⟩) 3 cp∧w.heap.size≤B∧OwnS w' 0 e 1 A5 (.slice (some ⟨B,0,none⟩) 0 cp) ([]:List Int)∧Up w w'):=fun a ha=>by
 have hold:(Builtin.firstCells i.size 0 (.slice none 0 0)).run P w.drew=.ok ([]:List Value).toArray w.drew:=run_firstCells_none w.drew i.size 0 0 0
 have hr:=run_append_grow_zeros (P:=P) w T tn ty e i (vi 0) .i64 kn hT hn hi hz none 0 0 [] hold 3 cQ oQ cQ cQ (by rw[hb];decide) (by rw[hb];decide)
 have N:=New.alloc w.drew (([]:List Value).toArray++Builtin.zeroCells (vi 0).cells 3++Builtin.zeroCells (vi 0).cells (grownCap w (0+3) 0 e-(0+3))) e
 have hc:=grownCap_ge w (0+3) 0 e
 have hm:=grownCap_le_maxLen w (0+3) 0 e cQ
 refine⟨_,_,?_,w.heap.size,grownCap w (0+3) 0 e,rfl,Nat.le_refl _,⟨rfl,.inr ⟨w.heap.size,grownCap w (0+3) 0 e,_,rfl,Nat.zero_le _,N.blk,Nat.zero_le _,hm,?_,by simp⟩⟩,(Up.drew w).trans N.up⟩
 · simp only[execOp,resolve,invoke,builtin,Sem.run_bind,Sem.run_pure,Result.andThen_ok,List.map_toArray,List.map_cons,List.map_nil,ha.ev hs,ha.ev hx]
   rw[show(Builtin.append_ #[T,tn] ty #[.slice none 0 0,vi 3]).run P w=_ from hr]
   rfl
 simp only[Array.size_append,size_zeroCells,show(vi 0).cells.size=1 from rfl,List.size_toArray,List.length_nil]
 omega
end
structure IL where
 ad:Option Addr
 l:List Int
 cp:Nat
def IL.cells(s:IL):Array Value:=#[.slice s.ad s.l.length s.cp]
theorem xM{L:List IL}(h:∀s∈L,s.l.length=1){k:Nat}:((L.take k).flatMap (·.l)).length=(L.take k).length:=by
 have:∀M:List IL,(∀s∈M,s.l.length=1)→(M.flatMap (·.l)).length=M.length:=by
   intro M hM
   induction M with
   |nil=>rfl
   |cons s M ih=>rw[List.flatMap_cons,List.length_append,hM s List.mem_cons_self,ih fun t ht=>hM t (List.mem_cons_of_mem _ ht),List.length_cons,Nat.add_comm]
 exact this _ fun s hs=>h s (List.mem_of_mem_take hs)
def vU(i:Nat):List Int:=if i<2 then[(i:Int)+1]else[]
def vV(e:TypeId)(s:Sk):List Asr:=[J e 1 A5 s.tv s.tl,J e 1 A5 s.nv s.nx]
structure StQ(L:List Sk)(k:Nat):Prop where
 len:L.length=k
 at_:∀i s,L[i]?=some s→s.Good∧s.nx=vU i
theorem StQ.nil:StQ [] 0:=⟨rfl,fun i s h=>by simp at h⟩
theorem StQ.snoc{L:List Sk}{k:Nat}{s:Sk}(h:StQ L k)(hg:s.Good)(hn:s.nx=vU k):StQ (L++[s]) (k+1):=by
 refine⟨by rw[List.length_append,h.len];rfl,fun i x hx=>?_⟩
 by_cases hi:i<L.length
 · rw[List.getElem?_append_left hi]at hx
   exact h.at_ i x hx
 rw[List.getElem?_append_right (by omega)]at hx
 have h0:i-L.length=0:=by
   have:=(List.getElem?_eq_some_iff.1 hx).1
   simp at this
   omega
 rw[h0]at hx
 cases hx
 have:i=k:=by have:=h.len;omega
 subst this
 exact⟨hg,hn⟩
theorem StQ.three{L:List Sk}(h:StQ L 3):∃s0 s1 s2,L=[s0,s1,s2]:=by
 obtain⟨h,_⟩:=h
 match L,h with
 |[s0,s1,s2],_=>exact⟨s0,s1,s2,rfl⟩
theorem iG{k:Nat}(hk:k<3)(ta:Option Addr)(tc:Nat)(nx:List Int)(na:Option Addr)(nc:Nat)(hn:nx=vU k):(⟨1,[(k:Int)],ta,tc,10,20,nx,na,nc,-1,0⟩:Sk).Good:=by
 subst hn
 refine⟨rfl,rfl,rfl,rfl,rfl,⟨rfl,?_⟩,?_⟩
 · intro x hx
   rw[List.mem_singleton.1 hx]
   unfold rB
   rw[decide_eq_true (show(0:Int)≤(k:Int)by omega),decide_eq_true (show(k:Int)≤59 by omega)]
   rfl
 show(vU k).length≤1∧∀x∈vU k,rB x 0 2=true
 match k,hk with
 |0,_=>exact⟨Nat.le_refl _,fun x hx=>by rw[List.mem_singleton.1 hx];rfl⟩
 |1,_=>exact⟨Nat.le_refl _,fun x hx=>by rw[List.mem_singleton.1 hx];rfl⟩
 |2,_=>exact⟨Nat.zero_le _,fun x hx=>by cases hx⟩
theorem vW{e:TypeId}{L:List Sk}{w:World}(h:(D5 (L.flatMap (vV e))).holds w){s:Sk}(hs:s∈L):Els w s.ta 1 A5 s.tl∧Els w s.na 1 A5 s.nx:=
 ⟨Cy (show OwnS w 0 e 1 A5 (.slice s.ta s.tl.length s.tc) s.tl from h.1 _ (List.mem_flatMap.2 ⟨s,hs,List.mem_cons_self⟩)) (fun _=>rfl),
   Cy (show OwnS w 0 e 1 A5 (.slice s.na s.nx.length s.nc) s.nx from h.1 _ (List.mem_flatMap.2 ⟨s,hs,List.mem_cons_of_mem _ List.mem_cons_self⟩)) (fun _=>rfl)⟩
theorem iH{e:TypeId}{L:List Sk}{S0:Nat→Prop}{w0 w:World}{Bs:List Asr}{s:Sk}(h:Wx.Sep S0 w0 w (Bs++[D5 (L.flatMap (vV e)),J e 1 A5 s.tv s.tl,J e 1 A5 s.nv s.nx])):Wx.Sep S0 w0 w (Bs++[D5 ((L++[s]).flatMap (vV e))]):=by
 have h1:=Sep.unfold (Bs:=Bs) (As:=L.flatMap (vV e)) (rest:=[_,_]) h
 have h2:=Ie (Bs:=Bs) (As:=L.flatMap (vV e)++[J e 1 A5 s.tv s.tl,J e 1 A5 s.nv s.nx]) (rest:=[]) (by simpa only[List.append_assoc,List.append_nil]using h1)
 rw[List.flatMap_append]
 simpa[vV]using h2
theorem FlE.of{w:World}{sa wa:Option Addr}{sc e:Nat}{s0 s1 s2:Sk}(hQ:StQ [s0,s1,s2] 3)(h1:OwnS w 0 sc 7 Sk.cells (.slice sa 3 e) [s0,s1,s2]){T c:Nat}(h2:OwnS w 0 T 3 Wn.cells (.slice wa 1 c) [rE]){ti:TypeId}(h3:(D5 ([s0,s1,s2].flatMap (vV ti))).holds w):FlE w sa wa s0 s1 s2:=
 ⟨Cy h1 (fun _=>rfl),fun s hs=>by
   obtain⟨i,hi⟩:=List.mem_iff_getElem?.1 hs
   exact(hQ.at_ i s hi).1,(hQ.at_ 0 s0 rfl).2,(hQ.at_ 1 s1 rfl).2,(hQ.at_ 2 s2 rfl).2,fun s hs=>vW h3 hs,Cy h2 (fun _=>rfl)⟩
section
variable {P:Program}{n:Nat}{l:Env}{w:World}{fn:Func}{RR:Ending→World→Prop}
theorem rH{t u:Tmp}{T:TypeId}{B k:Nat}{cs:Array Value}{x:Value}(hr:fn.results=#[.cell t T,.tmp u])(hv:lk l t=some (.eq (.pointer (some ⟨B,0,none⟩))))(hu:lk l u=some (.eq x))(hT:∀w,(isAgg T).run P w=.ok true w)(hs:∀w,(sizeOf T).run P w=.ok k w)(hk:cs.size=k)(hc:AggAt w B 0 cs)
   (hR:RR (.returned (.tuple #[.agg cs,x])) w):KW n [] (bodyPost P fn RR .ret) l w:=fun a ha=>
 ⟨ha.defers,.tuple #[.agg cs,x],by
   have h1:a.tmps.getD t undef=.pointer (some ⟨B,0,none⟩):=ha.val _ _ hv
   have h2:a.tmps.getD u undef=x:=ha.val _ _ hu
   rw[Array.getD_eq_getD_getElem?]at h1 h2
   simp[results,hr,h1,h2,asAddr,Hr hT hs hk hc],hR⟩
end
def P6(k:Int)(v:Value):Array Value:=#[vi k,v]
theorem vX{xs ys:List Int}{k:Nat}{x y:Int}(h:xs.take k=ys.take k)(hx:xs[k]?=some x)(hy:ys[k]?=some y)(e:x=y):xs.take (k+1)=ys.take (k+1):=by
 rw[List.take_add_one,List.take_add_one,h,hx,hy,e]
theorem FT{xs ys:List Int}{k:Nat}{x y:Int}(hx:xs[k]?=some x)(hy:ys[k]?=some y)(e:¬x=y):¬xs=ys:=fun h=>e (by subst h;exact Option.some.inj (hx.symm.trans hy))
theorem rI(L:List VP):xI L=((L.map (·.vd)).filter fun v=>decide (v.t=1)).map (·.w):=by
 rw[←gU,List.map_map]
 rfl
def TsOk(w:World)(Ts:List TP):Prop:=∀t∈Ts,Sl w t.v 1 A5 t.l
theorem TsOk.up{w w':World}{Ts:List TP}(h:TsOk w Ts)(u:Up w w'):TsOk w' Ts:=fun t ht=>Sl.up (h t ht) u
theorem eP(D:List (Int×List (Int×Bool)))(w id:Int)(s:Bool)(v:Int):lookW (Sq D w id s) v=if v=w then G3 (lookW D w) id s else lookW D v:=by
 unfold Sq
 split
 · rename_i hm
   unfold lookW
   rw[List.find?_map]
   have hp:((fun e:Int×List (Int×Bool)=>decide (e.1=v)) ∘ fun e=>if e.1=w then(w,G3 e.2 id s)else e)=fun e=>decide (e.1=v):=funext fun e=>by
     simp only[Function.comp]
     split
     · rename_i h;rw[h]
     rfl
   rw[hp]
   by_cases hv:v=w
   · rw[if_pos hv,hv]
     cases hf:D.find? fun e=>decide (e.1=w)with
     |none=>
       obtain⟨e,he,ew⟩:=List.mem_map.1 hm
       exact absurd (List.find?_eq_none.1 hf e he) (by simp[ew])
     |some e=>
       have he:e.1=w:=of_decide_eq_true (List.find?_some (p:=fun e:Int×List (Int×Bool)=>decide (e.1=w)) hf)
       simp[he]
   rw[if_neg hv]
   cases hf:D.find? fun e=>decide (e.1=v)with
   |none=>rfl
   |some e=>
     have he:e.1=v:=of_decide_eq_true (List.find?_some (p:=fun e:Int×List (Int×Bool)=>decide (e.1=v)) hf)
     have hn:¬e.1=w:=by rw[he];exact hv
     simp[hn]
 rename_i hm
 have hf:D.find? (fun e=>decide (e.1=w))=none:=List.find?_eq_none.2 fun e he h=>hm (List.mem_map.2 ⟨e,he,of_decide_eq_true h⟩)
 unfold lookW
 rw[List.find?_append]
 by_cases hv:v=w
 · rw[if_pos hv,hv,hf];simp
 rw[if_neg hv]
 have:[(w,G3 [] id s)].find? (fun e=>decide (e.1=v))=none:=by
   rw[List.find?_cons,decide_eq_false (fun h=>hv h.symm)];rfl
 rw[this,Option.or_none]
theorem rJ(L:List (Int×Bool))(id:Int)(s:Bool):(G3 L id s).any (·.2)=(L.any (·.2)||s):=by
 unfold G3
 split
 · rename_i hm
   obtain⟨q,hq,hi⟩:=List.mem_map.1 hm
   rw[Bool.eq_iff_iff,List.any_map,List.any_eq_true,Bool.or_eq_true,List.any_eq_true]
   constructor
   · rintro⟨x,hx,h⟩
     simp only[Function.comp]at h
     split at h
     · rw[Bool.or_eq_true]at h
       exact h.imp (fun h=>⟨x,hx,h⟩) _root_.id
     exact .inl ⟨x,hx,h⟩
   rintro(⟨x,hx,h⟩|h)
   · refine⟨x,hx,?_⟩
     simp only[Function.comp]
     split
     · simp[h]
     exact h
   refine⟨q,hq,?_⟩
   simp only[Function.comp]
   rw[if_pos hi]
   simp[h]
 simp
def Mf(ss gs:List Fact)(x:Exc)(w:Int)(p:Fact):Bool:=He x p&&Sf gs x p&&decide (Me ss p.Time p.Wafer=w)
def Ti(ss gs:List Fact)(x:Exc)(w:Int)(l:List Fact):List (Int×Bool):=l.foldl (fun L p=>if Mf ss gs x w p then G3 L p.ID (Gi x p)else L) []
theorem Oo(ss gs:List Fact)(x:Exc)(w:Int)(l:List Fact)(p:Fact):Ti ss gs x w (l++[p])=if Mf ss gs x w p then G3 (Ti ss gs x w l) p.ID (Gi x p)else Ti ss gs x w l:=by
 unfold Ti
 rw[List.foldl_append]
 rfl
theorem lU(ss gs:List Fact)(x:Exc)(l:List Fact)(p:Fact):Nd ss gs x (l++[p])=if He x p&&Sf gs x p then Sq (Nd ss gs x l) (Me ss p.Time p.Wafer) p.ID (Gi x p)else Nd ss gs x l:=by
 unfold Nd
 rw[List.foldl_append]
 rfl
theorem Pj(ss gs:List Fact)(x:Exc)(w:Int)(l:List Fact):lookW (Nd ss gs x l) w=Ti ss gs x w l:=by
 refine Kk (p:=fun l=>lookW (Nd ss gs x l) w=Ti ss gs x w l) rfl (fun l p h=>?_) l
 rw[lU,Oo]
 unfold Mf
 cases h1:He x p&&Sf gs x p with
 |false=>simpa using h
 |true=>
   rw[if_pos rfl,eP,Bool.true_and]
   by_cases e:w=Me ss p.Time p.Wafer
   · rw[if_pos e,←e,h];simp
   rw[if_neg e,h,if_neg]
   simpa using fun h':Me ss p.Time p.Wafer=w=>e h'.symm
theorem vY(ss gs:List Fact)(x:Exc)(w:Int)(l:List Fact):(Ti ss gs x w l).any (·.2)=l.any fun p=>Mf ss gs x w p&&Gi x p:=by
 refine Kk (p:=fun l=>(Ti ss gs x w l).any (·.2)=l.any fun p=>Mf ss gs x w p&&Gi x p) rfl (fun l p h=>?_) l
 rw[Oo,List.any_append,←h]
 cases h1:Mf ss gs x w p with
 |false=>simp[h1]
 |true=>rw[if_pos rfl,rJ];simp[h1]
theorem W8(ss gs:List Fact)(x:Exc)(w:Int)(l:List Fact)(k:Int):k∈(Ti ss gs x w l).map (·.1)↔∃p∈l,Mf ss gs x w p=true∧p.ID=k:=by
 refine Kk (p:=fun l=>k∈(Ti ss gs x w l).map (·.1)↔∃p∈l,Mf ss gs x w p=true∧p.ID=k) (by simp[Ti]) (fun l p h=>?_) l
 rw[Oo]
 have e:(∃q∈l++[p],Mf ss gs x w q=true∧q.ID=k)↔(∃q∈l,Mf ss gs x w q=true∧q.ID=k)∨(Mf ss gs x w p=true∧p.ID=k):=by
   simp only[List.mem_append,List.mem_singleton]
   constructor
   · rintro⟨f,hf|rfl,h2⟩
     · exact .inl ⟨f,hf,h2⟩
     exact .inr h2
   rintro(⟨f,hf,h2⟩|h2)
   · exact⟨f,.inl hf,h2⟩
   exact⟨p,.inr rfl,h2⟩
 rw[e]
 cases h1:Mf ss gs x w p with
 |false=>rw[if_neg Bool.false_ne_true,h];simp
 |true=>rw[if_pos rfl,kF,h];exact or_congr Iff.rfl ⟨fun e=>⟨rfl,e.symm⟩,fun e=>e.2.symm⟩
def AP(b:Base)(x:Exc)(w:Int):Int:=if b.Processes.any (fun p=>Mf b.Swaps b.Gaps x w p&&Gi x p)then 2 else if b.Processes.any (Mf b.Swaps b.Gaps x w)then 1 else 0
theorem iI{ss gs:List Fact}{x:Exc}{w:Int}{l:List Fact}:Ti ss gs x w l=[]↔l.any (Mf ss gs x w)=false:=by
 rw[List.any_eq_false]
 constructor
 · intro h p hp h1
   have:=(W8 ss gs x w l p.ID).2 ⟨p,hp,h1,rfl⟩
   rw[h]at this
   cases this
 intro h
 cases e:Ti ss gs x w l with
 |nil=>rfl
 |cons q r=>
   have h1:q.1∈(Ti ss gs x w l).map (·.1):=by rw[e];exact List.mem_map.2 ⟨q,List.mem_cons_self,rfl⟩
   obtain⟨p,hp,h2,_⟩:=(W8 ss gs x w l q.1).1 h1
   exact absurd h2 (h p hp)
theorem Vv(b:Base)(x:Exc)(w:Int):(C2 (Ti b.Swaps b.Gaps x w b.Processes)).1=AP b x w:=by
 unfold C2 AP
 rw[vY]
 split
 · rfl
 cases h:b.Processes.any (Mf b.Swaps b.Gaps x w)with
 |false=>rw[if_pos (iI.2 h)];rfl
 |true=>rw[if_neg (fun e=>by rw[iI.1 e]at h;cases h)];rfl
theorem vZ{b:Base}{x:Exc}(hx:I9 x=true){i:Nat}{w:Int}(hw:(Cv b.Lots b.Processes b.Swaps)[i]?=some w):∃v,(Im b x)[i]?=some v∧v.w=w∧v.t=AP b x w∧v.why=F3 (C2 (Ti b.Swaps b.Gaps x w b.Processes)).2:=by
 refine⟨_,by unfold Im;rw[if_pos hx,List.getElem?_map,hw];rfl,rfl,?_,?_⟩
 · show(C2 (lookW _ _)).1=_
   rw[Pj,Vv]
 show F3 (C2 (lookW _ _)).2=_
 rw[Pj]
theorem aI{b:Base}{x:Exc}(hx:I9 x=true):(Im b x).length=(Cv b.Lots b.Processes b.Swaps).length:=by
 unfold Im
 rw[if_pos hx,List.length_map]
theorem xN{n:Int}(h0: -9223372036854775808≤n)(h1:n<9223372036854775808):wI n=n:=Dy h0 oQ
theorem W9(l:List Fact)(d:Int){j:Nat}(hj:j<11):(Y1 (tI l d) j).length≤l.length:=
 (kD l d hj).length_le_of_subset fun _ hx=>((gI hj).1 hx).1.1
theorem eS{ks:List Int}{k:Int}(h:ks.Nodup):(Lf ks k).Nodup:=by
 unfold Lf
 split
 · exact h
 rename_i e
 exact List.nodup_append.2 ⟨h,by simp,fun a ha c hc=>by rw[List.mem_singleton]at hc;subst hc;exact fun e2=>e (e2▸ha)⟩
theorem Oq{α:Type}(g:α→Int):∀(l:List α)(ks:List Int),(ks.Nodup→(l.foldl (fun ks x=>Lf ks (g x)) ks).Nodup)∧∀k,k∈l.foldl (fun ks x=>Lf ks (g x)) ks↔k∈ks∨∃x∈l,g x=k
 |[],ks=>⟨fun h=>h,fun k=>by simp⟩
 |x::l,ks=>by
   have ih:=Oq g l (Lf ks (g x))
   rw[List.foldl_cons]
   refine⟨fun h=>ih.1 (eS h),fun k=>?_⟩
   rw[ih.2 k,pC]
   constructor
   · rintro((h|h)|⟨y,hy,e⟩)
     · exact .inl h
     · exact .inr ⟨x,List.mem_cons_self,h.symm⟩
     exact .inr ⟨y,List.mem_cons_of_mem _ hy,e⟩
   rintro(h|⟨y,hy,e⟩)
   · exact .inl (.inl h)
   rcases List.mem_cons.1 hy with rfl|hy
   · exact .inl (.inr e.symm)
   exact .inr ⟨y,hy,e⟩
theorem lV{ks:List Int}{k:Int}:k∈F3 ks↔k∈ks:=(List.mergeSort_perm ks _).mem_iff
theorem aJ{lots ps ss:List Fact}{k:Int}:k∈Cv lots ps ss↔Ei k=true∧((∃f∈lots,f.Wafer=k)∨∃f∈ps,Me ss f.Time f.Wafer=k):=by
 unfold Cv Zc Qb
 rw[lV,List.mem_filter,(Oq (fun f:Fact=>Me ss f.Time f.Wafer) ps _).2,(Oq (fun f:Fact=>f.Wafer) lots _).2]
 constructor
 · rintro⟨(h|h)|h,hi⟩
   · cases h
   · exact⟨hi,.inl h⟩
   exact⟨hi,.inr h⟩
 rintro⟨hi,h|h⟩
 · exact⟨.inl (.inr h),hi⟩
 exact⟨.inr h,hi⟩
theorem rK{ks:List Int}(h:ks.Nodup):(F3 ks).Pairwise (· <·):=by
 have h1:(F3 ks).Pairwise fun x y=>decide (x≤y)=true:=List.pairwise_mergeSort (fun a b c h1 h2=>by simp at h1 h2⊢;omega) (fun a b=>by simp;omega) ks
 have h2:(F3 ks).Pairwise (· ≠·):=((List.mergeSort_perm ks _).nodup_iff).2 h
 exact(h1.and h2).imp fun{a b}h=>by have:=of_decide_eq_true h.1;have:=h.2;omega
theorem eT(lots ps ss:List Fact):(Cv lots ps ss).Pairwise (· <·):=by
 unfold Cv Zc Qb
 exact rK (((Oq (fun f:Fact=>Me ss f.Time f.Wafer) ps _).1 ((Oq (fun f:Fact=>f.Wafer) lots _).1 List.nodup_nil)).filter _)
theorem rL(P:List Fact)(O:List Vd)(g:Ar2):(Ji P O g).Sublist (O.map (·.w)):=List.Sublist.map _ List.filter_sublist
theorem lW(b:Base)(O:List Vd)(n:Int):(Fk b O n).Sublist (O.map (·.w)):=List.Sublist.map _ List.filter_sublist
theorem eU{b:Base}{O:List Vd}{d:List Int}(h:d∈Pg b O):d≠[]∧d.Sublist (O.map (·.w)):=by
 unfold Pg at h
 rcases List.mem_append.1 h with h|h
 · obtain⟨g,hg,rfl⟩:=List.mem_map.1 h
   unfold F4 at hg
   rw[List.mem_mergeSort,Hg]at hg
   exact⟨Qs.2 hg,rL _ _ _⟩
 obtain⟨n,hn,rfl⟩:=List.mem_map.1 h
 unfold Ip at hn
 rw[List.mem_mergeSort,Hg]at hn
 exact⟨Of.2 hn,lW _ _ _⟩
theorem eV{b:Base}{O:List Vd}{v:Vd}{p:Fact}(hv:v∈O)(hp:p∈b.Processes)(hi:p.ID∈v.why):∃d∈Pg b O,v.w∈d:=by
 have hg:gR p∈Hm b.Processes v.why:=Sw.2 ⟨p,hp,hi,rfl⟩
 refine⟨Ji b.Processes O (gR p),List.mem_append_left _ (List.mem_map.2 ⟨gR p,?_,rfl⟩),List.mem_map.2 ⟨v,List.mem_filter.2 ⟨hv,decide_eq_true hg⟩,rfl⟩⟩
 unfold F4
 rw[List.mem_mergeSort,Hg]
 exact List.mem_flatMap.2 ⟨v,hv,hg⟩
theorem rM{b:Base}{x:Exc}(hx:I9 x=true){v:Vd}(hv:v∈Im b x)(ht:v.t=1):∃p∈b.Processes,p.ID∈v.why:=by
 obtain⟨i,hi⟩:=List.getElem?_of_mem hv
 have hl:=(List.getElem?_eq_some_iff.1 hi).1
 rw[aI hx]at hl
 obtain⟨u,hu,h1,h2,h3⟩:=vZ hx (List.getElem?_eq_getElem hl)
 rw[hi]at hu
 cases hu
 have hlk:(C2 (Ti b.Swaps b.Gaps x v.w b.Processes)).1=1:=by rw[Vv,h1,←h2,ht]
 rw[←h1]at h3
 have e:(C2 (Ti b.Swaps b.Gaps x v.w b.Processes)).2=(Ti b.Swaps b.Gaps x v.w b.Processes).map (·.1)∧Ti b.Swaps b.Gaps x v.w b.Processes≠[]:=by
   unfold C2 at hlk⊢
   split at hlk
   · exact absurd (show(2:Int)=1 from hlk) cQ
   rename_i h4
   rw[if_neg h4]
   split at hlk
   · exact absurd (show(0:Int)=1 from hlk) cQ
   rename_i h5
   rw[if_neg h5]
   exact⟨rfl,h5⟩
 obtain⟨q,hq⟩:=List.exists_mem_of_ne_nil _ e.2
 have hk:q.1∈(Ti b.Swaps b.Gaps x v.w b.Processes).map (·.1):=List.mem_map.2 ⟨q,hq,rfl⟩
 obtain⟨p,hp,_,hpk⟩:=(W8 _ _ _ _ _ _).1 hk
 refine⟨p,hp,?_⟩
 rw[h3,e.1,hpk]
 exact(List.mergeSort_perm _ _).mem_iff.2 hk
theorem AQ{b:Base}{x:Exc}(hx:I9 x=true):(Im b x).map (·.w)=Cv b.Lots b.Processes b.Swaps:=by
 unfold Im
 rw[if_pos hx,List.map_map]
 exact List.map_id _
theorem lX{b:Base}{x:Exc}(hx:I9 x=true)(h:(Lo b (Im b x)).length<16):∀w∈((Im b x).filter fun v=>decide (v.t=1)).map (·.w),∃d∈Lo b (Im b x),w∈d:=fun w hw=>by
 obtain⟨v,hv,rfl⟩:=List.mem_map.1 hw
 obtain⟨h1,h2⟩:=List.mem_filter.1 hv
 obtain⟨p,hp,hi⟩:=rM hx h1 (of_decide_eq_true h2)
 obtain⟨d,hd,hwd⟩:=eV (b:=b) hv hp hi
 have e:Lo b (Im b x)=Pg b ((Im b x).filter fun v=>decide (v.t=1)):=by
   unfold Lo at h⊢
   rw[List.length_take]at h
   exact List.take_of_length_le oQ
 exact⟨d,by rw[e];exact hd,hwd⟩
def VdsE(w:World)(v:Go.Value)(Lv:List Vd):Prop:=∃ad cp L,v=.slice ad L.length cp∧L.map VP.vd=Lv∧Els w ad 3 VP.cells L∧∀p∈L,Sl w p.uv 1 A5 p.vd.why
theorem VdsE.up{w w':World}{v:Go.Value}{Lv:List Vd}(h:VdsE w v Lv)(u:Up w w'):VdsE w' v Lv:=let⟨ad,cp,L,e,hm,hE,hw⟩:=h;⟨ad,cp,L,e,hm,Els.up hE u,fun p hp=>Sl.up (hw p hp) u⟩
theorem wA{b:Base}{x:Exc}{L:List VP}(hm:L.map VP.vd=Im b x):∀p∈L,p.vd∈Im b x:=fun p hp=>by
 rw[←hm]
 exact List.mem_map.2 ⟨p,hp,rfl⟩
theorem wB(ss gs:List Fact)(x:Exc)(w:Int)(l:List Fact):(Ti ss gs x w l).length≤l.length:=by
 refine Kk (p:=fun l=>(Ti ss gs x w l).length≤l.length) (Nat.le_refl _) (fun l p h=>?_) l
 rw[Oo,List.length_append]
 split
 · exact Nat.le_trans (Sr _ _ _) (Nat.succ_le_succ h)
 exact Nat.le_succ_of_le h
theorem wC{b:Base}{x:Exc}{v:Vd}(h:v∈Im b x):v.why.length≤b.Processes.length:=by
 unfold Im at h
 split at h
 · obtain⟨w,_,rfl⟩:=List.mem_map.1 h
   show(F3 (C2 (lookW _ _)).2).length≤_
   rw[H6,Pj]
   exact Nat.le_trans (Od _) (wB _ _ _ _ _)
 cases h
def WhyS(w:World)(L:List VP):Prop:=∀p∈L,Sl w p.uv 1 A5 p.vd.why
theorem WhyS.up{w w':World}{L:List VP}(h:WhyS w L)(u:Up w w'):WhyS w' L:=fun p hp=>Sl.up (h p hp) u
def wD(y:I4):Prop:=Q4 y.a∧Q4 y.b∧Q4 y.c∧Q4 y.d
theorem rN{y:I4}(h:wD y):I9 (Ln y)=true:=by
 obtain⟨ha,hb,hc,hd⟩:=h
 have p1:=Ii (c:=y.a) (n:=3) ha cQ
 have p2:=Ii (c:=y.b) (n:=60) hb cQ
 have p3:=Ii (c:=y.c) (n:=30) hc cQ
 have p4:=Ii (c:=y.d) (n:=6) hd cQ
 have q1:=xN (n:=Bi y.b 60+Bi y.c 30) oQ oQ
 refine(U8 _).2 ?_
 unfold Ln
 dsimp only
 rw[q1]
 omega
theorem wE(c:Int){n:Int}(hn:0<n): -n<c.tmod n∧c.tmod n<n:=by
 have h1:=Int.tmod_lt_of_pos c hn
 have h2:=Int.tmod_lt_of_pos (-c) hn
 rw[Int.neg_tmod]at h2
 omega
theorem rO(y:I6):Qd (Ik y):=by
 have h1: -50<Bi y.e 50∧Bi y.e 50<50:=wE _ cQ
 have h2:=xN (n:=Bi y.e 50+5) oQ oQ
 unfold Ik
 split
 · unfold Qd Dc
   dsimp only
   rw[h2]
   omega
 split<;>(unfold Qd Dc;simp only[Pw,Xy];omega)
def aK(xs:List I6)(ys:List I3):List Fact:=Jr xs++Zn ys
theorem rP(xs:List I6)(ys:List I3):(aK xs ys).length≤35:=by
 have h1:=Gh xs
 have h2:=Vh ys
 unfold aK
 rw[List.length_append]
 omega
theorem eW{ys:List I3}{k:Nat}{f:Fact}(h:f∈Io ys k):f.Kind=11:=by
 induction k with
 |zero=>cases h
 |succ k ih=>
   rcases List.mem_append.1 (show f∈Io ys k++_ from h)with h|h
   · exact ih h
   cases e:ys[k]? with
   |none=>rw[e]at h;cases h
   |some y=>rw[e]at h;rw[List.mem_singleton.1 h];rfl
theorem wF(xs:List I6)(ys:List I3)(d:Int):∀p∈(tI (aK xs ys) d).Processes,Qd p:=fun p hp=>by
 have h:=(gI (l:=aK xs ys) (d:=d) (j:=0) cQ).1 hp
 rcases List.mem_append.1 (show p∈Jr xs++Zn ys from h.1.1)with h1|h1
 · obtain⟨y,_,rfl⟩:=List.mem_map.1 h1
   exact rO y
 have h2:=eW h1
 rw[h.2.2]at h2
 exact absurd h2 cQ
theorem wG{l:List Int}{s:Int}(hp:l.Pairwise (· <·))(h:∀x∈l,s<x∧x≤1000000):Kq s l=true:=by
 induction l generalizing s with
 |nil=>rfl
 |cons x l ih=>
   obtain⟨h1,h2⟩:=List.pairwise_cons.1 hp
   have hx:=h x List.mem_cons_self
   unfold Kq
   rw[decide_eq_true hx.1,decide_eq_true hx.2,ih h2 fun y hy=>⟨h1 y hy,(h y (List.mem_cons_of_mem _ hy)).2⟩]
   rfl
theorem aL{b:Base}(hl:b.Lots.length+b.Processes.length≤100){l:List Int}(hs:l.Sublist (Cv b.Lots b.Processes b.Swaps)):Iq l=true:=by
 unfold Iq
 rw[wG ((eT _ _ _).sublist hs) fun x hx=>by
   have h1:=(aJ.1 (hs.subset hx)).1
   unfold Ei at h1
   simp only[Bool.and_eq_true,decide_eq_true_eq]at h1
   omega]
 exact decide_eq_true (Nat.le_trans hs.length_le (Nat.le_trans (Lm _ _ _) hl))
theorem rQ{b:Base}{x:Exc}(hx:I9 x=true):(((Im b x).filter fun v=>decide (v.t=1)).map (·.w)).Sublist (Cv b.Lots b.Processes b.Swaps):=by
 rw[←AQ hx]
 exact List.Sublist.map _ List.filter_sublist
section
variable {os:List Int}{Ts:List TP}{b:Bool}{ns:List Nat}
theorem FewR.JQ{n:Nat}{p:Nat→Bool}(h:FewR n p b ns):Asc n ns:=by
 rcases h with⟨_,rfl,_⟩|⟨_,_,h⟩
 · exact⟨List.Pairwise.nil,fun x hx=>by cases hx⟩
 exact h
theorem rR{f:Int→Nat}{n:Nat}(h:FewR n (Gx os f) b ns):b=true→Gx os f (Ec ns)=true∧(∀ms,Asc n ms→Gx os f (Ec ms)=true→ns.length≤ms.length)∧(Hn f os).2.length≤ns.length∧ns.length≤os.length:=fun hb=>by
 rcases h with⟨h,_⟩|⟨_,h1,h2⟩
 · rw[hb]at h;cases h
 obtain⟨l,e1,e2,e3,e4,e5⟩:=lL h1
 obtain rfl:=iB h2.1 e1.1 e2.symm
 exact⟨e3,e4,e5⟩
theorem wH(h:FewR Ts.length (Gx os (E3 Ts Ts.length)) b ns)(ha:Ts.length<16→∀w∈os,∃t∈Ts,w∈t.l):Ts.length<16→b=true:=fun hl=>by
 rcases h with⟨_,_,h⟩|⟨h,_⟩
 · exact absurd h (qV fun w hw=>by obtain⟨t,ht,hwt⟩:=ha hl w hw;exact vL ht hwt)
 exact h
theorem wJ{f:Int→Nat}{n:Nat}(h:FewR n (Gx os f) b ns){ms:List Nat}(hm:Asc n ms)(hd:Gx os f (Ec ms)=true):b=true∧ns.length≤ms.length:=by
 cases b with
 |false=>
   rcases h with⟨_,_,h⟩|⟨h,_⟩
   · rw[Vs h ms hm]at hd;cases hd
   cases h
 |true=>exact⟨rfl,(rR h rfl).2.1 ms hm hd⟩
end
theorem IX(a:Nat):vi ((a:Int).tmod 2)=vi ((a%2:Nat):Int):=by rw[Int.tmod_eq_emod_of_nonneg (Int.natCast_nonneg a)];rfl
theorem FU{a b d:Bool}(h1:a=true→b=true)(h2:b=true→d=true):((a&& !b)||(b&& !d))=false:=by cases a<;>cases b<;>cases d<;>simp_all
theorem FV{d b l:Bool}(h:d=true→b=true∧l=false):(d&&(!b||l))=false:=by cases d<;>cases b<;>cases l<;>simp_all
theorem wK{a j:Nat}(hj:j≤16):Go.Value.int .i64 ((a:Int).fdiv (2^(min j IntKind.i64.bits)))=vi ((a/2^j:Nat):Int):=by
 rw[show min j IntKind.i64.bits=j by show min j 64=j;omega,Int.fdiv_eq_ediv_of_nonneg _ (Int.le_of_lt (Int.pow_pos cQ))]
 show vi _=_
 congr 1
end Go.Wx
namespace Go.Proofs.YtdilcdgjklimoaaGreatDoor
open Go.Proofs.Tryz
open Go.Wx Go.RowKit
theorem lY(w:World):Ret prog 188 #[.slice none 0 0,vi 3] w fun r w'=>∃B cp,r=.slice (some ⟨B,0,none⟩) 0 cp∧w.heap.size≤B∧OwnS w' 0 3 1 A5 (.slice (some ⟨B,0,none⟩) 0 cp) ([]:List Int)∧Up w w':=by
 have hW:=Up.refl w
 refine cT 27 func188 rfl (Af (Az (Am (Af (I rfl (U (.fa (PEv.lss (.t rfl) (.const _)) (rfl)) (Ai (CW.f rfl (Aj (Ac (Ah (Af (I rfl (I rfl (U (.FQ underlying37 (.t rfl)) (I rfl (U (.Cw underlying37 (.t rfl)) (U (.sub (.t rfl) (.t rfl) oQ oQ) (U (.sub (.t rfl) (.t rfl) oQ oQ) (LW.A rfl (Am (Aa (I rfl (U (.tr (PEv.gtr (.t rfl) (.const _)) (rfl)) (Ai (CW.v rfl (Aa (I rfl (I rfl (U (.FQ underlying37 (.t rfl)) (U (.Nv underlying37 sizeOf3 (.t rfl) (.t rfl) oQ) (I rfl (Ao (.vT (i:=Tryz.t3) underlying37 underlying3 kQ rfl rfl rfl (.t rfl) (.t rfl)) rfl ?_)))))))))))))))))))))))))))))))))
 rintro _ w1 ⟨B,cpB,rfl,zB,hO,uB⟩
 replace hW:=hW.up uB
 refine I rfl (U (.Cw underlying37 (.t rfl)) (U (.Nv underlying37 sizeOf3 (.t rfl) (.t rfl) oQ) (LW.A rfl (Am (Aa (I rfl (LW.A rfl (Ai (Al (KW.q ?_))))))))))
 exact⟨_,_,rfl,zB,hO,hW⟩
theorem aM(ad:Option Addr)(cp:Nat)(L:List IL)(w:World)(hE:Els w ad 1 IL.cells L)(hl:L.length=3)(hL:∀s∈L,s.l.length=1∧Els w s.ad 1 A5 s.l):Ret prog 121 #[.slice ad 3 cp] w fun r w'=>OwnS w' w.heap.size 3 1 A5 r (L.flatMap (·.l))∧Up w w':=by
 obtain⟨w0,rfl,hS⟩:=W0 w
 refine cT 36 func121 rfl (Af (Az (Am (Aa (Az (Am (Af (I rfl (U (.Cw underlying265 (.t rfl)) (U (.move (.const _)) (Ai (Ae (A3 (σ:=Nat) (fun s w=>(s≤3)∧(Wx.Sep no w0 w [])) (fun s=>[(11,.eq (vi (s:Int))),(3,.eq (vi (s:Int)))]) ([(0,.eq _),(2,.eq _),(9,.eq _),(10,.eq _)]) (fun s=>3-s) 0 ?_ tQ ?_)))))))))))))
 ·exact⟨Nat.zero_le _,hS⟩
 rintro k w1 ⟨hk,hS⟩
 refine Af (U (.l2 rfl rfl) (Am (CW.b rfl (fun h12=>?_) (fun h12=>?_))))
 ·replace h12:=dQ h12
  refine Aj (Ac (Ah (Ae (Ah ?_))))
  have hk3:k<3:=Int.ofNat_lt.1 h12
  obtain⟨s,hs⟩:=Aq (xs:=L) (i:=k) oQ
  obtain⟨Bs,os,as_,hcs⟩:=hE k s hs
  obtain⟨hs1,hsE⟩:=hL s (List.mem_of_getElem? hs)
  refine Aa (U (.Aw underlying265 sizeOf37 (j:=k) (.t rfl) (.t rfl) oQ as_) (U (.lb rfl (((hcs.up hS.Ch).nth (j:=0) rfl))) (LW.A rfl (Am (Aa (I rfl (I rfl (U (.Cw underlying37 (.t rfl)) (U (.eH (v':=vi ((k+1:Nat):Int)) (PEv.add (.t rfl) (.t rfl) (by rw[hs1];omega) (by rw[hs1];omega)) (by rw[hs1];rfl)) (LW.A rfl (Am (Aa (I rfl (U (.fa (PEv.lss (.t rfl) (.const _)) (decide_eq_false oQ)) (Ai (CW.f rfl (Aj (Ad (Ac (Aa (U (.ic rfl oQ) (I rfl (LW.nil (Ar ?_))))))))))))))))))))))))
  exact⟨k+1,⟨by omega,hS⟩,tQ,by omega⟩
 replace h12:=dQ h12
 refine A4 (Ab (Ab (An (Ac (Ah ?_)))))
 have hk3:k=3:=by have:¬k<3:=fun h=>h12 (Int.ofNat_lt.2 h);omega
 subst hk3
 refine Aa (I rfl (A6 (eC (.cons (.const _) (.cu rfl)) (DO)) rfl (lY _) ?_))
 rintro _ w2 ⟨B,cpB,rfl,zB,hOB,uw2⟩
 replace hS:=hS.add uw2 (A':=J 3 1 A5 (.slice (some ⟨B,0,none⟩) 0 cpB) ([]:List Int)) (hOB) (fun i h=>by cases h;exact zB)
 refine LW.A rfl (Am (Af (I rfl (U (.Cw underlying265 (.t rfl)) (U (.move (.const _)) (Ai (Ae (A3 (σ:=Nat×Go.Value) (fun s w=>(s.1≤3)∧(Wx.Sep no w0 w [J 3 1 A5 s.2 ((L.take s.1).flatMap (·.l))])) (fun s=>[(27,.eq (vi (s.1:Int))),(6,.eq (s.2))]) ([(2,.eq _),(25,.eq _),(26,.eq _)]) (fun s=>3-s.1) (0,.slice (some ⟨B,0,none⟩) 0 cpB) ?_ tQ ?_))))))))
 ·exact⟨Nat.zero_le _,hS⟩
 rintro⟨k,v⟩ w3 ⟨hk,hS⟩
 change CW _ _ _ _ _ _ _ ([(27,.eq (vi (k:Int))),(6,.eq (v))]++_) _
 refine Af (U (.l2 rfl rfl) (Am (CW.b rfl (fun h28=>?_) (fun h28=>?_))))
 ·replace h28:=dQ h28
  refine Aj (Ac (Ah (Ae (Ah ?_))))
  have hk3:k<3:=Int.ofNat_lt.1 h28
  obtain⟨s,hs⟩:=Aq (xs:=L) (i:=k) oQ
  obtain⟨Bs,os,as_,hcs⟩:=hE k s hs
  obtain⟨hs1,hsE⟩:=hL s (List.mem_of_getElem? hs)
  refine Aa (U (.Aw underlying265 sizeOf37 (j:=k) (.t rfl) (.t rfl) oQ as_) (U (.lb rfl (((hcs.up hS.Ch).nth (j:=0) rfl))) (LW.A rfl (Ai (Aa (I rfl (I rfl (Ao (.Cu (enc:=A5) (bytes:=8) (i:=Tryz.t3) underlying37 kQ rfl rfl rfl rfl cQ (fun _=>rfl) Eh (.t rfl) (.t rfl) (hS.own 0 rfl) (Av (Els.up hsE hS.Ch)) (by rw[xM (fun s h=>(hL s h).1),List.length_take,hs1];simp[maxLen];omega) (by rw[xM (fun s h=>(hL s h).1),List.length_take,hs1];omega)) rfl ?_))))))))
  intro v33 w4 Gw4
  replace hS:=hS.Dw 0 rfl Gw4
  refine LW.A rfl (LW.nil (Ad (Ac (Aa (U (.ic rfl oQ) (I rfl (LW.nil (Ar ?_))))))))
  exact⟨(k+1,v33),⟨by show k+1≤3;omega,by rw[Ni hs,List.flatMap_append,show[s].flatMap (·.l)=s.l by simp];exact hS⟩,tQ,by show 3-(k+1)<3-k;omega⟩
 replace h28:=dQ h28
 refine A4 (Ab (Ab (An (Ac (Af (I rfl (LW.A rfl (Ai (Al (KW.q ?_))))))))))
 have hk3:k=L.length:=by have:¬k<3:=fun h=>h28 (Int.ofNat_lt.2 h);omega
 rw[hk3,List.take_length]at hS
 exact⟨(hS.own 0 rfl).Il (fun i h=>(hS.foot 0 rfl i h).resolve_left (fun h=>h)),hS.Ch⟩
theorem wL(sa wa:Option Addr)(sc wc:Nat)(s0 s1 s2:Sk)(w:World)(hF:FlE w sa wa s0 s1 s2):Ret prog 119 #[.agg (Jt sa sc wa wc),vi 0,vi 2] w fun r w'=>∃ad c,r=.tuple #[.slice ad 1 c,.bool true]∧Els w' ad 1 A5 [1]∧Up w w':=by
 obtain⟨w0,rfl,hS⟩:=W0 w
 refine cT 28 func119 rfl (Af (Ao (.bA rfl) rfl ?_))
 rintro _ w1 ⟨B3,rfl,NB3⟩
 replace hS:=hS.Cg NB3
 refine Az (Az (Am (Af (U (.lc rfl (hS.b0.agg)) (I rfl (I rfl (Ao (.buildSlice (xs:=([0,2]:List Int)) (enc:=A5) (mk:=vi) underlying37 sizeOf3 zeroValue3 rfl cQ (fun _=>rfl) (fun _=>rfl) (.ct rfl (.cu rfl)) rfl) rfl ?_)))))))
 rintro _ w2 ⟨B12,cB12,rfl,NB12,yB12,xB12⟩
 replace hS:=hS.up NB12.up
 have hE12:=xB12
 refine A6 (eC (.u rfl rfl) (wX)) rfl (Vu sa wa sc wc s0 s1 s2 _ (hF.up hS.Ch) _ _ ([0,2]:List Int) hE12 cQ cQ) ?_
 rintro _ w3 ⟨rfl,uw3⟩
 replace hS:=hS.up uw3
 replace hE12:=hE12.up uw3
 refine U (.n1 rfl) (Ai (CW.f rfl (Aj (Ac (Af (U (.lc rfl (hS.b0.agg)) (I rfl (A6 (eC (.u rfl rfl) (wY)) rfl (aH sa wa sc wc s0 s1 s2 _ (hF.up hS.Ch)) ?_))))))))
 rintro _ w4 ⟨go,b1,b2,a,c,rfl,hEo,hBl,hEa,uw4⟩
 replace hS:=hS.up uw4
 replace hE12:=hE12.up uw4
 obtain⟨Bo,oo,ao,hco⟩:=hEo 2 (some b2) rfl
 cases ao
 refine I rfl (U (.Aw (j:=2) underlying260 sizeOf259 (.t rfl) (.t rfl) cQ rfl) (U (.lb rfl (AggAt.nth (j:=0) hco rfl)) (LW.A rfl (Am (Af (I rfl (U (.fa (PEv.Jy underlying259 (.t rfl)) (rfl)) (Ai (CW.f rfl (Aj (Ac (Af (I rfl (U (.nc rfl) (U (.fB 1 rfl) (U (.lb rfl (hBl.Ak rfl)) (A6 (eC (.o rfl) (mN)) rfl (Nn a c [1] _ hEa cQ) ?_)))))))))))))))))
 rintro v27 w5 ⟨hO27,uw5⟩
 replace hS:=hS.up uw5
 replace hE12:=hE12.up uw5
 obtain⟨ad,cp,rfl,hE27⟩:=hO27.sl (fun _=>rfl)
 refine LW.A rfl (Az (Ai (Al (F5 rfl rfl rfl ⟨_,rfl,?_⟩))))
 exact⟨_,_,rfl,hE27,hS.Ch⟩
theorem Xa(sa wa:Option Addr)(sc wc:Nat)(s0 s1 s2:Sk)(w:World)(hF:FlE w sa wa s0 s1 s2):Ret prog 120 #[.agg (Jt sa sc wa wc),vi 0,vi 2] w fun r w'=>r=.tuple #[vi 14,.bool true]∧Up w w':=by
 obtain⟨w0,rfl,hS⟩:=W0 w
 refine cT 27 func120 rfl (Af (Ao (.bA rfl) rfl ?_))
 rintro _ w1 ⟨B3,rfl,NB3⟩
 replace hS:=hS.Cg NB3
 refine Az (Az (Am (Af (U (.lc rfl (hS.b0.agg)) (I rfl (I rfl (Ao (.buildSlice (xs:=([0,2]:List Int)) (enc:=A5) (mk:=vi) underlying37 sizeOf3 zeroValue3 rfl cQ (fun _=>rfl) (fun _=>rfl) (.ct rfl (.cu rfl)) rfl) rfl ?_)))))))
 rintro _ w2 ⟨B12,cB12,rfl,NB12,yB12,xB12⟩
 replace hS:=hS.up NB12.up
 have hE12:=xB12
 refine A6 (eC (.u rfl rfl) (wX)) rfl (Vu sa wa sc wc s0 s1 s2 _ (hF.up hS.Ch) _ _ ([0,2]:List Int) hE12 cQ cQ) ?_
 rintro _ w3 ⟨rfl,uw3⟩
 replace hS:=hS.up uw3
 replace hE12:=hE12.up uw3
 refine U (.n1 rfl) (Ai (CW.f rfl (Aj (Ac (Af (U (.lc rfl (hS.b0.agg)) (I rfl (A6 (eC (.u rfl rfl) (wY)) rfl (aH sa wa sc wc s0 s1 s2 _ (hF.up hS.Ch)) ?_))))))))
 rintro _ w4 ⟨go,b1,b2,a,c,rfl,hEo,hBl,hEa,uw4⟩
 replace hS:=hS.up uw4
 replace hE12:=hE12.up uw4
 obtain⟨Bo,oo,ao,hco⟩:=hEo 2 (some b2) rfl
 cases ao
 refine I rfl (U (.Aw (j:=2) underlying260 sizeOf259 (.t rfl) (.t rfl) cQ rfl) (U (.lb rfl (AggAt.nth (j:=0) hco rfl)) (LW.A rfl (Am (Af (I rfl (U (.fa (PEv.Jy underlying259 (.t rfl)) (rfl)) (Ai (CW.f rfl (Aj (Ac (Af (I rfl (U (.nc rfl) (U (.fB 0 rfl) (U (.lb rfl (hBl.Ak rfl)) (LW.A rfl (Az (Ai (Al (F5 rfl rfl rfl ⟨_,rfl,?_⟩)))))))))))))))))))))
 exact⟨rfl,hS.Ch⟩
theorem aN(sa wa:Option Addr)(sc wc:Nat)(s0 s1 s2:Sk)(w:World)(hF:FlE w sa wa s0 s1 s2):Ret prog 53 #[.agg (Jt sa sc wa wc),.agg rE.cells] w fun r w'=>∃ad cp,r=.tuple #[.agg (P6 3 (.slice ad 3 cp)),.bool true]∧OwnS w' w.heap.size 3 1 A5 (.slice ad 3 cp) [0,1,2]∧Up w w':=by
 obtain⟨w0,rfl,hS⟩:=W0 w
 refine cT 51 func53 rfl (Af (Ao (.bA rfl) rfl ?_))
 rintro _ w1 ⟨B2,rfl,NB2⟩
 replace hS:=hS.Cg NB2
 refine Ao (.bA rfl) rfl ?_
 rintro _ w2 ⟨B3,rfl,NB3⟩
 replace hS:=hS.Cg NB3
 refine Ao (.Br zeroValue58) rfl ?_
 rintro _ w3 ⟨B4,rfl,NB4⟩
 replace hS:=hS.Cg NB4
 refine Az (Am (Aa (U (.lc rfl (hS.b0.agg)) (U (.fB 0 rfl) (U (.lb rfl (hS.b1.Ak rfl)) (U (.fB 1 rfl) (U (.lb rfl (hS.b1.Ak rfl)) (A6 (eC (.ct rfl (.ct rfl (.cu rfl))) (CC)) rfl (wL sa wa sc wc s0 s1 s2 _ (hF.up hS.Ch)) ?_))))))))
 rintro _ w4 ⟨ad16,cp16,rfl,hE16,uw4⟩
 replace hS:=hS.up uw4
 refine I rfl (U (.xt rfl rfl) (U (.xt rfl rfl) (LW.A rfl (LW.A rfl (Am (Af (I rfl (U (.fa (PEv.n1 rfl) (rfl)) (Ai (CW.f rfl (Aj (Ac (Ah (Af (U (.lc rfl (hS.b0.agg)) (U (.fB 0 rfl) (U (.lb rfl (hS.b1.Ak rfl)) (U (.fB 1 rfl) (U (.lb rfl (hS.b1.Ak rfl)) (A6 (eC (.ct rfl (.ct rfl (.cu rfl))) (CD)) rfl (Xa sa wa sc wc s0 s1 s2 _ (hF.up hS.Ch)) ?_))))))))))))))))))))
 rintro _ w5 ⟨rfl,uw5⟩
 replace hS:=hS.up uw5
 replace hE16:=hE16.up uw5
 refine I rfl (U (.xt rfl rfl) (U (.xt rfl rfl) (LW.A rfl (LW.A rfl (Am (Aa (U (.fB 2 rfl) (U (.lb rfl (hS.b1.Ak rfl)) (I rfl (U (.tr (PEv.l2 rfl rfl) (rfl)) (Ai (CW.v rfl (Af (U (.fB 0 rfl) (U (.lb rfl (hS.b1.Ak rfl)) (Ao (.buildSlice (xs:=([0]:List Int)) (enc:=A5) (mk:=vi) underlying37 sizeOf3 zeroValue3 rfl cQ (fun _=>rfl) (fun _=>rfl) (.cu rfl) rfl) rfl ?_))))))))))))))))
 rintro _ w6 ⟨B42,cB42,rfl,NB42,yB42,xB42⟩
 replace hS:=hS.up NB42.up
 replace hE16:=hE16.up NB42.up
 have hE42:=xB42
 refine I rfl (U (.fB 1 rfl) (U (.lb rfl (hS.b1.Ak rfl)) (Ao (.buildSlice (xs:=([2]:List Int)) (enc:=A5) (mk:=vi) underlying37 sizeOf3 zeroValue3 rfl cQ (fun _=>rfl) (fun _=>rfl) (.cu rfl) rfl) rfl ?_)))
 rintro _ w7 ⟨B46,cB46,rfl,NB46,yB46,xB46⟩
 replace hS:=hS.up NB46.up
 replace hE16:=hE16.up NB46.up
 replace hE42:=hE42.up NB46.up
 have hE46:=xB46
 refine Ao (.buildSlice (xs:=([⟨some ⟨B42,0,none⟩,[0],1⟩,⟨ad16,[1],cp16⟩,⟨some ⟨B46,0,none⟩,[2],1⟩]:List IL)) (enc:=IL.cells) (mk:=fun s=>.slice s.ad s.l.length s.cp) underlying265 sizeOf37 zeroValue37 rfl cQ (fun _=>rfl) (fun _=>rfl) (.ct rfl (.ct rfl (.cu rfl))) rfl) rfl ?_
 rintro _ w8 ⟨B47,cB47,rfl,NB47,yB47,xB47⟩
 replace hS:=hS.up NB47.up
 replace hE16:=hE16.up NB47.up
 replace hE42:=hE42.up NB47.up
 replace hE46:=hE46.up NB47.up
 have hE47:=xB47
 refine A6 (eC (.o rfl) (CE)) rfl (aM _ _ ([⟨some ⟨B42,0,none⟩,[0],1⟩,⟨ad16,[1],cp16⟩,⟨some ⟨B46,0,none⟩,[2],1⟩]:List IL) _ hE47 rfl (fun s hs=>by simp only[List.mem_cons,List.mem_nil_iff,or_false]at hs;rcases hs with rfl|rfl|rfl<;>first|exact⟨rfl,hE42⟩|exact⟨rfl,hE16⟩|exact⟨rfl,hE46⟩)) ?_
 rintro v48 w9 ⟨hO48,uw9⟩
 replace hE16:=hE16.up uw9
 replace hE42:=hE42.up uw9
 replace hE46:=hE46.up uw9
 replace hE47:=hE47.up uw9
 replace hS:=hS.add uw9 (A':=J 3 1 A5 v48 [0,1,2]) (hO48.mono (Nat.zero_le _)) (fun i h=>hO48.base i h)
 obtain⟨ad48,cp48,rfl,_⟩:=(hS.own 3 rfl).sl (fun _=>rfl)
 refine U (.build (cs:=(P6 3 (.slice ad48 3 cp48))) underlying58 zeroValue58 Tp (.cons (.const _) (.cu rfl)) rfl) (A9 (.Ca sizeOf58 rfl (.t rfl) (.t rfl) (by simp[P6,Value.oneCell']) hS.b2 rfl) ?_)
 intro w10 Nw10
 replace hS:=hS.Dz 2 rfl Nw10
 skip
 skip
 skip
 skip
 refine Az (Ai (Al (Ap (rH rfl rfl rfl isAgg58 sizeOf58 rfl hS.b2.agg ⟨_,rfl,?_⟩))))
 exact⟨_,_,rfl,(hS.own 3 rfl).Il (fun i h=>(hS.foot 3 rfl i h).resolve_left (fun h=>h)),hS.Ch⟩
theorem eX(sa wa:Option Addr)(sc wc:Nat)(s0 s1 s2:Sk)(w:World)(hF:FlE w sa wa s0 s1 s2):Ret prog 18 #[.agg (Jt sa sc wa wc)] w fun r w'=>∃ad cp,r=.agg (P6 3 (.slice ad 3 cp))∧Els w' ad 1 A5 [0,1,2]∧Up w w':=by
 obtain⟨w0,rfl,hS⟩:=W0 w
 refine cT 28 func18 rfl (Af (Ao (.bA rfl) rfl ?_))
 rintro _ w1 ⟨B1,rfl,NB1⟩
 replace hS:=hS.Cg NB1
 refine Ao (.Br zeroValue58) rfl ?_
 rintro _ w2 ⟨B2,rfl,NB2⟩
 replace hS:=hS.Cg NB2
 refine Am (Af (U (.lc rfl (hS.b0.agg)) (A6 (eC (.o rfl) (BG)) rfl (Th sa wa sc wc s0 s1 s2 _ (hF.up hS.Ch)) ?_)))
 rintro _ w3 ⟨rfl,uw3⟩
 replace hS:=hS.up uw3
 refine U (.n1 rfl) (Ai (CW.f rfl (Aj (Ac (Ah (Af (U (.fB 3 rfl) (U (.lb rfl (hS.b0.Ak rfl)) (U (.Cw underlying51 (.t rfl)) (U (.move (.const _)) (Ai (Ae (A3 (σ:=Nat) (fun s w=>(s=0)∧(Wx.Sep no w0 w [Bq B1 (Jt sa sc wa wc) 54,Bq B2 (P6 0 (.slice none 0 0)) 58])) (fun s=>[(14,.eq (vi (s:Int)))]) ([(1,.eq _),(2,.eq _),(12,.eq _),(13,.eq _)]) (fun s=>1-s) 0 ?_ tQ ?_)))))))))))))
 ·exact⟨rfl,hS⟩
 rintro k w4 ⟨hk,hS⟩
 subst hk
 refine Af (U (.tr (PEv.l2 rfl rfl) (rfl)) (Am (CW.v rfl (Aj (Ac (Ah (Ae (Ah ?_))))))))
 obtain⟨Bw,ow,aw_,hcw⟩:=hF.W 0 rE rfl
 refine Aa (U (.Aw (j:=0) underlying51 sizeOf50 (.t rfl) (.t rfl) cQ aw_) (U (.lc rfl ((hcw.up hS.Ch))) (Ao (.Br zeroValue50) rfl ?_)))
 rintro _ w5 ⟨B4,rfl,MB4⟩
 refine A9 (.Ca sizeOf50 rfl (.t rfl) (.t rfl) (Wn.one _) MB4.blk rfl) ?_
 intro w6 LB4
 have NB4:=MB4.set LB4
 replace hS:=hS.Cg NB4
 refine Am (Aa (U (.lc rfl (hS.b0.agg)) (U (.lc rfl (hS.b2.agg)) (A6 (eC (.u rfl rfl) (HG)) rfl (aN sa wa sc wc s0 s1 s2 _ (hF.up hS.Ch)) ?_))))
 rintro _ w7 ⟨ad21,cp21,rfl,hO21,uw7⟩
 replace hS:=hS.add uw7 (A':=J 3 1 A5 (.slice ad21 3 cp21) [0,1,2]) (hO21.mono (Nat.zero_le _)) (fun i h=>hO21.base i h)
 refine I rfl (U (.xt rfl rfl) (U (.xt rfl rfl) (Ao (.Br zeroValue58) rfl ?_)))
 rintro _ w8 ⟨B5,rfl,MB5⟩
 refine A9 (.Ca sizeOf58 rfl (.t rfl) (.t rfl) (by simp[P6,Value.oneCell']) MB5.blk rfl) ?_
 intro w9 LB5
 have NB5:=MB5.set LB5
 replace hS:=hS.Cg NB5
 refine LW.A rfl (Am (Aa (I rfl (Ai (CW.v rfl (Af (U (.lc rfl (hS.b4.agg)) (A9 (.Ca sizeOf58 rfl (.t rfl) (.t rfl) (by simp[P6,Value.oneCell']) hS.b1 rfl) ?_))))))))
 intro w10 Nw10
 replace hS:=hS.Dz 1 rfl Nw10
 refine Ai (Al (Ay (Ap (Ap (Ay (Ap (F6 rfl rfl isAgg58 sizeOf58 rfl (hS.b1.agg) ⟨_,rfl,?_⟩)))))))
 exact⟨_,_,rfl,Cy (hS.own 3 rfl) (fun _=>rfl),hS.Ch⟩
theorem aO(v1 v2:Value)(xs ys:List Int)(w:World)(h1:Sl w v1 1 A5 xs)(h2:Sl w v2 1 A5 ys)(hx0:xs.length≤1000000000)(hy0:ys.length≤1000000000):Ret prog 20 #[v1,v2] w fun r w'=>r=.bool (decide (xs=ys))∧Up w w':=by
 have hW:=Up.refl w
 obtain⟨w0,rfl,_⟩:=W0 w
 obtain⟨ad,cp,rfl,hE1⟩:=h1
 obtain⟨ad',cp',rfl,hE2⟩:=h2
 refine cT 26 func20 rfl (Af (Az (Am (Af (I rfl (U (.Cw underlying37 (.t rfl)) (I rfl (U (.Cw underlying37 (.t rfl)) (U (.neq (.t rfl) (.t rfl)) (Ai (CW.b rfl (fun h10=>?_) (fun h10=>?_))))))))))))
 ·replace h10:=dQ h10
  have hr:decide (xs=ys)=false:=decide_eq_false (fun h=>by subst h;simp at h10)
  refine Af (Az (Ai (Al (Ap (KW.q ?_)))))
  exact⟨by rw[hr],hW⟩
 replace h10:=dQ h10
 have hlen:xs.length=ys.length:=Int.ofNat.inj (show Int.ofNat _=Int.ofNat _ from(by simpa using h10:(xs.length:Int)=ys.length))
 refine Aj (Ac (Ah (Af (Az (Ai (Ae (CW.loop (σ:=Nat) (fun s w=>(s≤xs.length∧xs.take s=ys.take s)∧Els w ad 1 A5 xs∧Els w ad' 1 A5 ys∧Up w0 w) (fun s=>[(0,.eq (.slice ad xs.length cp)),(1,.eq (.slice ad' ys.length cp')),(5,.eq (vi (s:Int)))]) (fun s=>xs.length-s) 0 ?_ ?_ ?_)))))))
 ·exact⟨⟨Nat.zero_le _,rfl⟩,hE1,hE2,hW⟩
 ·exact tQ
 rintro k w1 ⟨⟨hk,hT⟩,hE1,hE2,hW⟩
 refine Ah (Af (I rfl (I rfl (U (.Cw underlying37 (.t rfl)) (U (.l2 rfl rfl) (Ai (CW.b rfl (fun h14=>?_) (fun h14=>?_))))))))
 ·replace h14:=dQ h14
  refine Aj (Ac (Ah (Ae (Ah ?_))))
  obtain⟨x,hx⟩:=Aq (xs:=xs) (i:=k) oQ
  obtain⟨y,hy⟩:=Aq (xs:=ys) (i:=k) oQ
  obtain⟨B,o,had,hcell⟩:=hE1 k x hx
  obtain⟨B',o',had',hcell'⟩:=hE2 k y hy
  refine Ea kQ kQ rfl rfl (Au (.mv rfl) (Au (.mv rfl) (Au (.Aw underlying37 sizeOf3 (.t rfl) (.t rfl) oQ had) (Au (.lb rfl (hcell.nth (j:=0) rfl)) (Au (.mv rfl) (Au (.mv rfl) (Au (.Aw underlying37 sizeOf3 (.t rfl) (.t rfl) oQ had') (Au (.lb rfl (hcell'.nth (j:=0) rfl)) (Au (.neq (.t rfl) (.t rfl)) (HW.nil ?_))))))))))
  intro w2 uw2
  replace hE1:=hE1.up uw2
  replace hE2:=hE2.up uw2
  replace hW:=hW.up uw2
  refine Ac (CW.b rfl (fun h25=>?_) (fun h25=>?_))
  ·replace h25:=dQ h25
   have hr:decide (xs=ys)=false:=decide_eq_false (FT hx hy (by simpa using h25))
   refine Af (Az (Ai (Al (Ay (Ap (Ap (Ay (Ap (KW.q ?_)))))))))
   exact⟨by rw[hr],hW⟩
  replace h25:=dQ h25
  refine Aj (Ad (Ac (Aa (I rfl (U (.ic rfl oQ) (LW.A rfl (LW.nil (Ar ?_))))))))
  exact⟨k+1,⟨⟨by omega,vX hT hx hy (by simpa using h25)⟩,hE1,hE2,hW⟩,tQ,by omega⟩
 replace h14:=dQ h14
 have hr:decide (xs=ys)=true:=decide_eq_true (by have:=hT;rw[show k=xs.length by omega,List.take_length,hlen,List.take_length]at this;exact this)
 refine A4 (Ab (Ab (An (Ac (Af (Az (Ai (Al (KW.q ?_)))))))))
 exact⟨by rw[hr],hW⟩
theorem aP(w:World):Ret prog 129 #[.agg mH.cells] w fun r w'=>r=.bool true∧Up w w':=by
 obtain⟨w0,rfl,hS⟩:=W0 w
 refine cT 35 func129 rfl (Af (Ao (.bA rfl) rfl ?_))
 rintro _ w1 ⟨B1,rfl,NB1⟩
 replace hS:=hS.Cg NB1
 refine Az (Am (Af (U (.fB 0 rfl) (U (.lb rfl (hS.b0.Ak rfl)) (U (.fB 1 rfl) (U (.lb rfl (hS.b0.Ak rfl)) (A6 (eC (.ct rfl (.cons (.const _) (.cu rfl))) (Ul)) rfl (G4 _ _ _ _) ?_)))))))
 rintro _ w2 ⟨rfl,uw2⟩
 replace hS:=hS.up uw2
 refine U (.n1 rfl) (I rfl (LW.gr rfl (fun hc=>PEv.fB 1 rfl) (LW.gr rfl (fun hc=>PEv.load isAgg3 vQ (hS.b0.Ak rfl)) (LW.gr rfl (fun hc=>PEv.gtr vQ (.const _)) (U (.fa (PEv.po rfl (fun hp=>(by exact .cond rfl (by(rw[hp];rfl))))) (rfl)) (Ai (CW.f rfl (Aj (Ac (Af (U (.fB 2 rfl) (U (.lc rfl ((iD (ds:=#[vi 1,vi 5]) (k:=2) hS.b0 (fun j hj=>by match j,hj with|0,_=>rfl|1,_=>rfl)))) (U (.fB 1 rfl) (U (.lb rfl (hS.b0.Ak rfl)) (A6 (eC (.u rfl rfl) (xA)) rfl (Te _ _ _ _ cQ) ?_)))))))))))))))
 rintro _ w3 ⟨rfl,uw3⟩
 replace hS:=hS.up uw3
 refine I rfl (LW.gr rfl (fun hc=>PEv.fB 4 rfl) (LW.gr rfl (fun hc=>PEv.Kw isAgg61 sizeOf61 rfl vQ ((iD (ds:=#[vi 2,vi 29]) (k:=4) hS.b0 (fun j hj=>by match j,hj with|0,_=>rfl|1,_=>rfl)))) (LW.gr rfl (fun hc=>PEv.fB 1 rfl) (LW.gr rfl (fun hc=>PEv.load isAgg3 vQ (hS.b0.Ak rfl)) (Mh rfl rfl rfl rfl rfl rfl rfl rfl (fun hc=>Ct (.cons vQ (.cons vQ .nil)) (xA)) (fun hc=>Te _ _ _ _ cQ) ?_)))))
 intro w4 uw4
 replace hS:=hS.up uw4
 refine U (.pa rfl (fun hp=>(by exact .cond rfl (by assumption)))) (I rfl (LW.gr rfl (fun hc=>PEv.fB 2 rfl) (LW.gr rfl (fun hc=>PEv.fieldAddr (off:=0) underlying61 rfl rfl sizeOf3 rfl vQ) (LW.gr rfl (fun hc=>PEv.load isAgg3 vQ (hS.b0.Ak rfl)) (LW.gr rfl (fun hc=>PEv.fB 4 rfl) (LW.gr rfl (fun hc=>PEv.fieldAddr (off:=0) underlying61 rfl rfl sizeOf3 rfl vQ) (LW.gr rfl (fun hc=>PEv.load isAgg3 vQ (hS.b0.Ak rfl)) (LW.gr rfl (fun hc=>PEv.neq vQ vQ) (U (.pa rfl (fun hp=>(by exact .cond rfl (by assumption)))) (LW.A rfl (Ai (Al (KW.q ?_)))))))))))))
 exact⟨rfl,hS.Ch⟩
theorem eY(w:World):Ret prog 128 #[.agg mH.cells] w fun r w'=>r=.bool false∧Up w w':=by
 obtain⟨w0,rfl,hS⟩:=W0 w
 refine cT 6 func128 rfl (Af (Ao (.bA rfl) rfl ?_))
 rintro _ w1 ⟨B1,rfl,NB1⟩
 replace hS:=hS.Cg NB1
 refine Az (Am (Aa (U (.lc rfl (hS.b0.agg)) (A6 (eC (.o rfl) (CJ)) rfl (aP _) ?_))))
 rintro _ w2 ⟨rfl,uw2⟩
 replace hS:=hS.up uw2
 refine U (.n1 rfl) (LW.A rfl (Ai (Al (KW.q ?_))))
 exact⟨rfl,hS.Ch⟩
theorem eZ(ad:Option Addr)(cp:Nat)(w:World)(hE:Els w ad 6 Sg.cells [mH]):Ret prog 55 #[.agg (P3 ad cp)] w fun r w'=>r=.bool true∧Up w w':=by
 obtain⟨w0,rfl,hS⟩:=W0 w
 refine cT 48 func55 rfl (Af (Ao (.bA rfl) rfl ?_))
 rintro _ w1 ⟨B1,rfl,NB1⟩
 replace hS:=hS.Cg NB1
 refine Az (Am (Aa (U (.build (cs:=(⟨-1,0,0⟩:Wn).cells) underlying50 zeroValue50 Mj (.cons (.const _) .nil) rfl) (Ao (.Br zeroValue50) rfl ?_))))
 rintro _ w2 ⟨B3,rfl,MB3⟩
 refine A9 (.Ca sizeOf50 rfl (.t rfl) (.t rfl) (Wn.one _) MB3.blk rfl) ?_
 intro w3 LB3
 have NB3:=MB3.set LB3
 replace hS:=hS.Cg NB3
 refine Am (Aa (U (.makeFunc (.ct rfl (.cu rfl))) (Ao (.Ga zeroValue210 rfl) rfl ?_)))
 rintro _ w4 ⟨B4,rfl,MB4⟩
 refine A9 (.store sizeOf210 (.t rfl) (.t rfl) rfl MB4.blk cQ) ?_
 intro w5 LB4
 have NB4:=MB4.set LB4
 replace hS:=hS.Cg NB4
 refine Am (Ae (Af (U (.fB 0 rfl) (U (.lb rfl (hS.b0.Ak rfl)) (A6 (eC (.ct rfl (.cons (.const _) (.cons (.const _) .nil))) (Ul)) rfl (G4 _ _ _ _) ?_)))))
 rintro _ w6 ⟨rfl,uw6⟩
 replace hS:=hS.up uw6
 refine U (.n1 rfl) (I rfl (LW.gr rfl (fun hc=>PEv.fB 1 rfl) (LW.gr rfl (fun hc=>PEv.load isAgg3 vQ (hS.b0.Ak rfl)) (LW.gr rfl (fun hc=>PEv.fB 2 rfl) (LW.gr rfl (fun hc=>PEv.load isAgg3 vQ (hS.b0.Ak rfl)) (Mh rfl rfl rfl rfl rfl rfl rfl rfl (fun hc=>Ct (.cons vQ (.cons (.const _) (.cons vQ .nil))) (Ul)) (fun hc=>G4 _ _ _ _) ?_))))))
 intro w7 uw7
 replace hS:=hS.up uw7
 refine LW.gr rfl (fun hc=>PEv.not vQ) (U (.po rfl (fun hp=>(by exact .cond rfl (by(rw[hp];rfl))))) (I rfl (LW.gr rfl (fun hc=>PEv.fB 2 rfl) (LW.gr rfl (fun hc=>PEv.load isAgg3 vQ (hS.b0.Ak rfl)) (LW.gr rfl (fun hc=>PEv.gtr vQ (.const _)) (U (.fa (PEv.po rfl (fun hp=>(by exact .cond rfl (by(rw[hp];rfl))))) (rfl)) (LW.A rfl (Ai (CW.f rfl (Af (U (.fB 3 rfl) (U (.lb rfl (hS.b0.Ak rfl)) (U (.Cw underlying68 (.t rfl)) (A6 (eC (.ct rfl (.cons (.const _) (.cons (.const _) .nil))) (Ul)) rfl (G4 _ _ _ _) ?_))))))))))))))
 rintro _ w8 ⟨rfl,uw8⟩
 replace hS:=hS.up uw8
 refine U (.n1 rfl) (I rfl (LW.gr rfl (fun hc=>PEv.fB 4 rfl) (LW.gr rfl (fun hc=>PEv.load isAgg51 vQ (hS.b0.Ak rfl)) (LW.gr rfl (fun hc=>PEv.Cw underlying51 vQ) (LW.gr rfl (fun hc=>PEv.gtr vQ (.const _)) (U (.fa (PEv.po rfl (fun hp=>(by exact .cond rfl (by(rw[hp];rfl))))) (rfl)) (LW.A rfl (Ai (CW.f rfl (Aj (Ad (Ac (Af (U (.fB 3 rfl) (U (.lb rfl (hS.b0.Ak rfl)) (A6 (eC (.ct rfl (.cons (.func _) .nil)) (CH)) rfl (Ue 128 #[] CI ad cp [mH] _ (Els.up hE hS.Ch) cQ (fun W u x hx=>by rw[List.mem_singleton.1 hx];exact eY W)) ?_))))))))))))))))
 rintro _ w9 ⟨rfl,uw9⟩
 replace hS:=hS.up uw9
 refine U (.n1 rfl) (I rfl (Bh (U (.fB 4 rfl) (Bh (U (.lb rfl (hS.b0.Ak rfl)) (Bh (U (.makeFunc (.cu rfl)) (Bh (A6 (eC (.u rfl rfl) (CK)) rfl (Uf _ _ CL none 0 [] _ (fun i x h=>by simp at h) cQ (fun W u x hx=>by simp at hx)) ?_)))))))))
 rintro _ w10 ⟨rfl,uw10⟩
 replace hS:=hS.up uw10
 refine Bh (U (.n1 rfl) (U (.pa rfl (fun hp=>(by exact .tmp rfl))) (LW.A rfl (Ai (Al (KW.q ?_))))))
 exact⟨rfl,hS.Ch⟩
theorem aQ(B:Nat)(v:Go.Value)(L:List Int)(ov by_:Int)(w:World)(hl:L.length≤1000)(hsub: -1000000000≤by_-ov∧by_-ov≤1000000000)(hS0:Wx.Sep (D7 [Bq B #[v] 208,J 3 1 A5 (v) (L)]) w w [Bq B #[v] 208,J 3 1 A5 (v) (L)]):Ret prog 189 #[.pointer (some ⟨B,0,none⟩),vi ov,vi by_] w fun _ w'=>∃v',Wx.Sep (D7 [Bq B #[v] 208,J 3 1 A5 (v) (L)]) w w' [Bq B #[v'] 208,J 3 1 A5 (v') (L++[by_-ov])]:=by
 obtain⟨w0,rfl,_⟩:=W0 w
 have hS:=hS0
 refine cT 16 func189 rfl (Aa (I rfl (I rfl (U (.nc rfl) (U (.lb rfl (hS.b0.Ak rfl)) (I rfl (I rfl (U (.sub (.t rfl) (.t rfl) oQ oQ) (Ao (.buildSlice (xs:=[by_-ov]) (enc:=A5) (mk:=vi) underlying208 sizeOf3 zeroValue3 rfl cQ (fun _=>rfl) (fun _=>rfl) (.cu rfl) rfl) rfl ?_)))))))))
 rintro _ w1 ⟨B13,cB13,rfl,NB13,yB13,xB13⟩
 replace hS:=hS.up NB13.up
 have hE13:=xB13
 refine Ao (.Cu (enc:=A5) (bytes:=8) (i:=Tryz.t3) underlying208 kQ rfl rfl rfl rfl cQ (fun _=>rfl) Eh (.t rfl) (.t rfl) (hS.own 1 rfl) (Av hE13) (by simp[maxLen];omega) (by simp;omega)) rfl ?_
 intro v14 w2 Gw2
 replace hS:=hS.Dw 1 rfl Gw2
 refine U (.nc rfl) (A9 (.store sizeOf208 (.t rfl) (.t rfl) (hS.own 1 rfl).one hS.b0 bQ) ?_)
 intro w3 Nw3
 replace hS:=hS.Dz 0 rfl Nw3
 refine LW.nil (Dg rfl ⟨_,rfl,?_⟩)
 exact⟨_,hS⟩
theorem aR(n:Int)(w:World)(hn:0≤n):Ret prog 191 #[vi n] w fun r w'=>r=.bool false∧Up w w':=by
 have hW:=Up.refl w
 refine cT 5 func191 rfl (Af (Az (Am (Aa (I rfl (U (.fa (PEv.lss (.t rfl) (.const _)) (decide_eq_false oQ)) (LW.A rfl (Ai (Al (KW.q ?_))))))))))
 exact⟨rfl,hW⟩
theorem Tj(ad:Option Addr)(cp:Nat)(l:List Int)(w:World)(hE:Els w ad 1 A5 l)(hl:l.length≤1000)(hn:∀x∈l,0≤x):Ret prog 123 #[.slice ad l.length cp] w fun r w'=>r=.bool false∧Up w w':=by
 have hW:=Up.refl w
 refine cT 5 func123 rfl (Af (Az (Am (Aa (I rfl (A6 (eC (.ct rfl (.cons (.func _) .nil)) (DP)) rfl (Ug 191 #[] DQ ad cp l _ (Els.up hE hW) oQ (fun W u x hx=>aR x W (hn x hx))) ?_))))))
 rintro _ w1 ⟨rfl,uw1⟩
 replace hW:=hW.up uw1
 refine LW.A rfl (Ai (Al (KW.q ?_)))
 exact⟨rfl,hW⟩
theorem lZ(ad:Option Addr)(cp:Nat)(w:World)(hE:Els w ad 6 Sg.cells [mH]):Ret prog 122 #[.agg (P3 ad cp)] w fun r w'=>Sl w' r 1 A5 [0,0]∧Up w w':=by
 obtain⟨w0,rfl,hS⟩:=W0 w
 refine cT 91 func122 rfl (Af (Ao (.bA rfl) rfl ?_))
 rintro _ w1 ⟨B1,rfl,NB1⟩
 replace hS:=hS.Cg NB1
 refine Ao (.Ga zeroValue208 rfl) rfl ?_
 rintro _ w2 ⟨B2,rfl,NB2⟩
 replace hS:=hS.Cg NB2
 refine Am ?_
 replace hS:=hS.Y2 (OwnS.nil _ 0 3 1 A5)
 obtain⟨Bs,os,as_,hcs⟩:=hE 0 mH rfl
 refine Dh 11 kQ kQ kQ kQ kQ rfl rfl (Au (.fB 0 rfl) (Au (.lb rfl (hS.b0.Ak rfl)) (Au (.fB 2 rfl) (Au (.lb rfl (hS.b0.Ak rfl)) (Au (.add (.t rfl) (.t rfl) oQ oQ) (Au (.fB 3 rfl) (Au (.lb rfl (hS.b0.Ak rfl)) (Au (.Aw underlying68 sizeOf63 (j:=0) (.t rfl) (.const _) cQ as_) (Au (.fB 2 rfl) (Au (.fB 1 rfl) (Au (.lb rfl (((hcs.up hS.Ch).nth (j:=3) rfl))) (HW.nil ?_))))))))))))
 intro w3 uw3
 replace hS:=hS.up uw3
 replace hS:=hS.Gl 1 rfl
 replace hS:=hS.Gl 1 rfl
 have hq_:=(show Wx.Sep _ _ _ ([_]++[_,_])from hS)
 refine A6 (eC (.ct rfl (.ct rfl (.cu rfl))) (wZ)) rfl (aQ B2 _ _ _ _ _ cQ cQ hq_.right.self) ?_
 rintro _ w4 ⟨v18,uw4⟩
 replace hS:=hq_.frame uw4
 refine Am (Af (U (.fB 3 rfl) (U (.lb rfl (hS.b0.Ak rfl)) (U (.Cw underlying68 (.t rfl)) (U (.move (.const _)) (Ai (Ae (A3 (σ:=Nat) (fun s w=>(s=0)∧(Wx.Sep no w0 w [Bq B1 (P3 ad cp) 70,Bq B2 #[v18] 208,J 3 1 A5 v18 ([]++[5-(0+5)])])) (fun s=>[(22,.eq (vi (s:Int)))]) ([(1,.eq _),(2,.eq _),(20,.eq _),(21,.eq _)]) (fun s=>1-s) 0 ?_ tQ ?_))))))))
 ·exact⟨rfl,hS⟩
 rintro k w5 ⟨hk,hS⟩
 subst hk
 refine Af (U (.tr (PEv.l2 rfl rfl) (rfl)) (Am (CW.v rfl (Aj (Ac (Ah (Ae (Af (I rfl (U (.Aw underlying68 sizeOf63 (j:=0) (.t rfl) (.t rfl) cQ as_) (U (.lc rfl ((hcs.up hS.Ch))) (Ao (.Br zeroValue63) rfl ?_))))))))))))
 rintro _ w6 ⟨B4,rfl,MB4⟩
 refine LW.A rfl (A9 (.Ca sizeOf63 rfl (.t rfl) (.t rfl) (Sg.one _) MB4.blk rfl) ?_)
 intro w7 LB4
 have NB4:=MB4.set LB4
 replace hS:=hS.Cg NB4
 refine Am ?_
 have hs1:mH.s1=5:=rfl
 have hs2:mH.mx=20:=rfl
 refine Aa (U (.fB 2 rfl) (U (.fB 1 rfl) (U (.lb rfl (hS.b3.Ak rfl)) (U (.fB 1 rfl) (U (.lb rfl (hS.b3.Ak rfl)) (U (.add (.t rfl) (.t rfl) oQ oQ) (U (.sub (.t rfl) (.const _) oQ oQ) (U (.fB 2 rfl) (U (.lb rfl (hS.b0.Ak rfl)) (U (.add (.t rfl) (.t rfl) oQ oQ) (U (.fB 4 rfl) (U (.fB 1 rfl) (U (.lb rfl (hS.b3.Ak rfl)) ?_)))))))))))))
 replace hS:=hS.Gl 1 rfl
 replace hS:=hS.Gl 1 rfl
 have hq_:=(show Wx.Sep _ _ _ ([_,_]++[_,_])from hS)
 refine A6 (eC (.ct rfl (.ct rfl (.cu rfl))) (wZ)) rfl (aQ B2 _ _ _ _ _ cQ cQ hq_.right.self) ?_
 rintro _ w8 ⟨v40,uw8⟩
 replace hS:=hq_.frame uw8
 refine Am (Af (I rfl (U (.ic rfl oQ) (U (.fB 3 rfl) (U (.lb rfl (hS.b0.Ak rfl)) (U (.Cw underlying68 (.t rfl)) (U (.tr (PEv.eql (.t rfl) (.t rfl)) (rfl)) (Ai (CW.v rfl (A4 (Ab (Mi cQ (Ab (Ab (An (Ac (Af (U (.lb rfl (hS.b2.Ak rfl)) (A9 (.store sizeOf208 (.t rfl) (.t rfl) (hS.own 3 rfl).one hS.b2 bQ) ?_)))))))))))))))))))
 intro w9 Nw9
 replace hS:=hS.Dz 2 rfl Nw9
 refine Ai (Al (iE rfl rfl isAgg208 (hS.b2.Ak rfl) ⟨_,rfl,?_⟩))
 exact⟨(hS.own 3 rfl).sl (fun _=>rfl),hS.Ch⟩
theorem rS(ad:Option Addr)(cp:Nat)(w:World):Ret prog 124 #[.agg (P3 ad cp)] w fun r w'=>r=.slice none 0 0∧Up w w':=by
 obtain⟨w0,rfl,hS⟩:=W0 w
 refine cT 39 func124 rfl (Af (Ao (.bA rfl) rfl ?_))
 rintro _ w1 ⟨B1,rfl,NB1⟩
 replace hS:=hS.Cg NB1
 refine Ao (.Ga zeroValue208 rfl) rfl ?_
 rintro _ w2 ⟨B2,rfl,NB2⟩
 replace hS:=hS.Cg NB2
 refine Am (Af (U (.fB 4 rfl) (U (.lb rfl (hS.b0.Ak rfl)) (U (.Cw underlying51 (.t rfl)) (U (.move (.const _)) (Ai (Ae (A3 (σ:=Nat) (fun s w=>(s=0)∧(Wx.Sep no w0 w [Bq B1 (P3 ad cp) 70,Bq B2 #[.slice none 0 0] 208])) (fun s=>[(9,.eq (vi (s:Int)))]) ([(1,.eq _),(2,.eq _),(7,.eq _),(8,.eq _)]) (fun s=>1-s) 0 ?_ tQ ?_))))))))
 ·exact⟨rfl,hS⟩
 rintro k w3 ⟨hk,hS⟩
 subst hk
 refine Af (U (.fa (PEv.l2 rfl rfl) (rfl)) (Am (CW.f rfl (A4 (Ab (Ab (An (Ac (Af (U (.lb rfl (hS.b1.Ak rfl)) (A9 (.store sizeOf208 (.t rfl) (.t rfl) rfl hS.b1 bQ) ?_)))))))))))
 intro w4 Nw4
 replace hS:=hS.Dz 1 rfl Nw4
 refine Ai (Al (iE rfl rfl isAgg208 (hS.b1.Ak rfl) ⟨_,rfl,?_⟩))
 exact⟨rfl,hS.Ch⟩
theorem fC(ad:Option Addr)(cp:Nat)(w:World)(hE:Els w ad 6 Sg.cells [mH]):Ret prog 54 #[.agg (P3 ad cp)] w fun r w'=>r=.bool true∧Up w w':=by
 obtain⟨w0,rfl,hS⟩:=W0 w
 refine cT 17 func54 rfl (Af (Ao (.bA rfl) rfl ?_))
 rintro _ w1 ⟨B1,rfl,NB1⟩
 replace hS:=hS.Cg NB1
 refine Az (Am (Aa (U (.lc rfl (hS.b0.agg)) (A6 (eC (.o rfl) (HI)) rfl (eZ ad cp _ (Els.up hE hS.Ch)) ?_))))
 rintro _ w2 ⟨rfl,uw2⟩
 replace hS:=hS.up uw2
 refine I rfl (Bh (U (.lc rfl (hS.b0.agg)) (Bh (A6 (eC (.o rfl) (CF)) rfl (lZ ad cp _ (Els.up hE hS.Ch)) ?_))))
 rintro _ w3 ⟨⟨ad7,cp7,rfl,hE7⟩,uw3⟩
 replace hS:=hS.up uw3
 refine Bh (A6 (eC (.o rfl) (wS)) rfl (Tj _ _ [0,0] _ hE7 cQ cQ) ?_)
 rintro _ w4 ⟨rfl,uw4⟩
 replace hS:=hS.up uw4
 refine Bh (U (.n1 rfl) (U (.pa rfl (fun hp=>(by exact .tmp rfl))) (I rfl (Bh (U (.lc rfl (hS.b0.agg)) (Bh (A6 (eC (.o rfl) (CG)) rfl (rS ad cp _) ?_)))))))
 rintro _ w5 ⟨rfl,uw5⟩
 replace hS:=hS.up uw5
 refine Bh (A6 (eC (.o rfl) (wS)) rfl (Tj none 0 [] _ (fun i x h=>by simp at h) cQ cQ) ?_)
 rintro _ w6 ⟨rfl,uw6⟩
 replace hS:=hS.up uw6
 refine Bh (U (.n1 rfl) (U (.pa rfl (fun hp=>(by exact .tmp rfl))) (LW.A rfl (Ai (Al (KW.q ?_))))))
 exact⟨rfl,hS.Ch⟩
theorem mA(ad:Option Addr)(cp:Nat)(w:World)(hE:Els w ad 6 Sg.cells [mH]):Ret prog 19 #[.agg (P3 ad cp)] w fun r w'=>∃sc:Array Go.Value,sc.size=5∧sc.all (·.oneCell')=true∧r=.tuple #[.agg sc,.bool true]∧Up w w':=by
 obtain⟨w0,rfl,hS⟩:=W0 w
 refine E4 (n:=28) func19 rfl rfl rfl (Af (Ao (.bA rfl) rfl ?_))
 rintro _ w1 ⟨B1,rfl,NB1⟩
 replace hS:=hS.Cg NB1
 refine Ao (.Br zeroValue65) rfl ?_
 rintro _ w2 ⟨B2,rfl,NB2⟩
 replace hS:=hS.Cg NB2
 refine Ao (.Ga zeroValue4 rfl) rfl ?_
 rintro _ w3 ⟨B3,rfl,NB3⟩
 replace hS:=hS.Cg NB3
 refine Am (Af (U (.lc rfl (hS.b0.agg)) (A6 (eC (.o rfl) (HH)) rfl (fC ad cp _ (Els.up hE hS.Ch)) ?_)))
 rintro _ w4 ⟨rfl,uw4⟩
 replace hS:=hS.up uw4
 refine Ai (CW.v rfl (Af (U (.build (cs:=#[.slice none 0 0,.slice none 0 0,vi 0,vi 0,vi 0]) underlying65 zeroValue65 Tr .nil rfl) (A9 (.Ca sizeOf65 rfl (.t rfl) (.t rfl) (by simp[Value.oneCell']) hS.b1 rfl) ?_))))
 intro w5 Nw5
 replace hS:=hS.Dz 1 rfl Nw5
 refine A9 (.store sizeOf4 (.t rfl) (.const _) rfl hS.b2 bQ) ?_
 intro w6 Nw6
 replace hS:=hS.Dz 2 rfl Nw6
 refine Ai (Al (Ap (Q7 (mL rfl rfl rfl isAgg65 sizeOf65 rfl hS.b1.agg isAgg4 (hS.b2.Ak rfl) ⟨_,rfl,?_⟩))))
 exact⟨_,rfl,by simp[Value.oneCell'],rfl,hS.Ch⟩
theorem mB(w:World):Ret prog 4 #[] w fun r w'=>r=.bool true∧Up w w':=by
 obtain⟨w0,rfl,hS⟩:=W0 w
 refine cT 54 func4 rfl (Af (Az (Am (Aa (U (.build (cs:=rE.cells) underlying50 zeroValue50 Mj (.cons (.const _) (.cons (.const _) (.cons (.const _) .nil))) rfl) (Ao (.buildSlice (xs:=([rE]:List Wn)) (enc:=Wn.cells) (mk:=fun x=>.agg x.cells) underlying51 sizeOf50 zeroValue50 rfl cQ (fun _=>rfl) (fun _=>rfl) (.cu rfl) rfl) rfl ?_))))))
 intro v9 w1 hN9
 obtain⟨uw1,B9,rfl,e9,hO9⟩:=NewSl.own hN9 (fun _=>rfl) cQ (by simp[maxLen])
 replace hS:=hS.add uw1 (A':=J 50 3 Wn.cells (.slice (some ⟨B9,0,none⟩) 1 1) ([rE]:List Wn)) hO9 (fun i h=>by cases h;exact Nat.le_of_eq e9.symm)
 refine U (.build (cs:=#[vi 2,vi 5,.slice none 0 0,.slice (some ⟨B9,0,none⟩) 1 1]) underlying54 zeroValue54 Tn (.cons (.const _) (.cons (.const _) (.cu rfl))) rfl) (Ao (.Br zeroValue54) rfl ?_)
 rintro _ w2 ⟨B1,rfl,MB1⟩
 refine A9 (.Ca sizeOf54 rfl (.t rfl) (.t rfl) (by simp[Value.oneCell']) MB1.blk rfl) ?_
 intro w3 LB1
 have NB1:=MB1.set LB1
 replace hS:=hS.Cg NB1
 refine Am (Ah ?_)
 replace hS:=hS.Y2 (OwnS.nil _ 0 56 7 Sk.cells)
 replace hS:=hS.add (Up.refl _) (A':=D5 (([]:List Sk).flatMap (vV 3))) ⟨fun A h=>by simp at h,List.Pairwise.nil⟩ (fun i h=>by obtain⟨A,h,_⟩:=h;simp at h)
 refine Aa (Az (Ai (Ae (A3 (σ:=Nat×Go.Value×List Sk) (fun s w=>(s.1≤3)∧(StQ s.2.2 s.1)∧(Wx.Sep no w0 w [J 50 3 Wn.cells (.slice (some ⟨B9,0,none⟩) 1 1) [rE],Bq B1 #[vi 2,vi 5,s.2.1,.slice (some ⟨B9,0,none⟩) 1 1] 54,J 56 7 Sk.cells s.2.1 s.2.2,D5 (s.2.2.flatMap (vV 3))])) (fun s=>[(2,.eq (vi (s.1:Int)))]) ([(0,.eq _),(1,.eq _)]) (fun s=>3-s.1) (0,.slice none 0 0,[]) ?_ tQ ?_))))
 ·exact⟨Nat.zero_le _,StQ.nil,hS⟩
 rintro⟨k,v,L⟩ w4 ⟨hk,hL,hS⟩
 dsimp only at hk hL hS
 change CW _ _ _ _ _ _ _ ([(2,.eq (vi (k:Int)))]++_) _
 refine Ah (Af (I rfl (U (.lss (.t rfl) (.const _)) (Ai (CW.b rfl (fun h12=>?_) (fun h12=>?_))))))
 ·replace h12:=dQ h12
  refine Aj (Ac (Ah (Ae (Ah ?_))))
  have hk3:k<3:=Int.ofNat_lt.1 h12
  refine Aa (I rfl (Ao (.buildSlice (xs:=([(k:Int)]:List Int)) (enc:=A5) (mk:=vi) underlying37 sizeOf3 zeroValue3 rfl cQ (fun _=>rfl) (fun _=>rfl) (.cu rfl) rfl) rfl ?_))
  intro v16 w5 hN16
  obtain⟨uw5,B16,rfl,e16,hO16⟩:=NewSl.own hN16 (fun _=>rfl) cQ (by simp[maxLen])
  replace hS:=hS.add uw5 (A':=J 3 1 A5 (.slice (some ⟨B16,0,none⟩) 1 1) ([(k:Int)]:List Int)) hO16 (fun i h=>by cases h;exact Nat.le_of_eq e16.symm)
  refine U (.build (cs:=(⟨1,[(k:Int)],some ⟨B16,0,none⟩,1,10,20,[],none,0,-1,0⟩:Sk).cells) underlying56 zeroValue56 To (.cons (.const _) (.ct rfl (.cons (.const _) (.cons (.const _) (.cons (.const _) .nil))))) rfl) (Ao (.Br zeroValue56) rfl ?_)
  rintro _ w6 ⟨B3,rfl,MB3⟩
  refine A9 (.Ca sizeOf56 rfl (.t rfl) (.t rfl) (Sk.one _) MB3.blk rfl) ?_
  intro w7 LB3
  have NB3:=MB3.set LB3
  replace hS:=hS.Cg NB3
  refine Am (Af (I rfl (U (.lss (.t rfl) (.const _)) (Ai (CW.b rfl (fun h19=>?_) (fun h19=>?_))))))
  ·replace h19:=dQ h19
   have hnx:[(k:Int)+1]=vU k:=by unfold vU;rw[if_pos (by omega)]
   refine Aa (I rfl (U (.add (.t rfl) (.const _) oQ oQ) (Ao (.buildSlice (xs:=([(k:Int)+1]:List Int)) (enc:=A5) (mk:=vi) underlying37 sizeOf3 zeroValue3 rfl cQ (fun _=>rfl) (fun _=>rfl) (.cu rfl) rfl) rfl ?_)))
   intro v22 w8 hN22
   obtain⟨uw8,B22,rfl,e22,hO22⟩:=NewSl.own hN22 (fun _=>rfl) cQ (by simp[maxLen])
   replace hS:=hS.add uw8 (A':=J 3 1 A5 (.slice (some ⟨B22,0,none⟩) 1 1) ([(k:Int)+1]:List Int)) hO22 (fun i h=>by cases h;exact Nat.le_of_eq e22.symm)
   refine U (.fB 4 rfl) (A9 (.store sizeOf37 (.t rfl) (.t rfl) rfl hS.b5 bQ) ?_)
   intro w9 Nw9
   replace hS:=hS.Dz 5 rfl (show Set_ _ w9 _ ((⟨1,[(k:Int)],some ⟨B16,0,none⟩,1,10,20,[(k:Int)+1],some ⟨B22,0,none⟩,1,-1,0⟩:Sk).cells) _ from Nw9)
   refine Ai (Aa (U (.fB 2 rfl) (U (.lb rfl (hS.b1.Ak rfl)) (U (.lc rfl (hS.b5.agg)) (Ao (.buildSlice (xs:=[(⟨1,[(k:Int)],some ⟨B16,0,none⟩,1,10,20,[(k:Int)+1],some ⟨B22,0,none⟩,1,-1,0⟩:Sk)]) (enc:=Sk.cells) (mk:=fun s=>.agg s.cells) underlying52 sizeOf56 zeroValue56 rfl cQ (fun _=>rfl) (fun _=>rfl) (.cu rfl) rfl) rfl ?_)))))
   rintro _ w10 ⟨B27,cB27,rfl,NB27,yB27,xB27⟩
   replace hS:=hS.up NB27.up
   have hE27:=xB27
   refine Ao (.Cu (enc:=Sk.cells) (bytes:=88) (i:=Tryz.t56) underlying52 kQ rfl rfl rfl rfl cQ (fun _=>rfl) Sk.one (.t rfl) (.t rfl) (hS.own 2 rfl) (Av hE27) (by rw[hL.len];simp[maxLen];omega) (by rw[hL.len];simp;omega)) rfl ?_
   intro v28 w11 Gw11
   replace hS:=hS.Dw 2 rfl Gw11
   refine U (.fB 2 rfl) (A9 (.store sizeOf52 (.t rfl) (.t rfl) (hS.own 2 rfl).one hS.b1 bQ) ?_)
   intro w12 Nw12
   replace hS:=hS.Dz 1 rfl (show Set_ _ w12 _ (#[vi 2,vi 5,v28,.slice (some ⟨B9,0,none⟩) 1 1]) _ from Nw12)
   refine LW.nil (Ad (Ac (Aa (I rfl (U (.ic rfl oQ) (LW.A rfl (LW.nil (Ar ?_))))))))
   exact⟨(k+1,v28,L++[(⟨1,[(k:Int)],some ⟨B16,0,none⟩,1,10,20,[(k:Int)+1],some ⟨B22,0,none⟩,1,-1,0⟩:Sk)]),⟨by show k+1≤3;omega,hL.snoc (iG hk3 _ _ _ _ _ hnx) hnx,iH (Bs:=[_,_,_]) (s:=(⟨1,[(k:Int)],some ⟨B16,0,none⟩,1,10,20,[(k:Int)+1],some ⟨B22,0,none⟩,1,-1,0⟩:Sk)) (hS.sub (.cons_cons _ (.cons_cons _ (.cons_cons _ (.cons_cons _ (.cons_cons _ (.cons _ (.cons_cons _ .slnil))))))))⟩,tQ,by show 3-(k+1)<3-k;omega⟩
  replace h19:=dQ h19
  have hnx:([]:List Int)=vU k:=by unfold vU;rw[if_neg (by omega)]
  refine Aj (Ac (Aa (U (.fB 2 rfl) (U (.lb rfl (hS.b1.Ak rfl)) (U (.lc rfl (hS.b5.agg)) (Ao (.buildSlice (xs:=[(⟨1,[(k:Int)],some ⟨B16,0,none⟩,1,10,20,[],none,0,-1,0⟩:Sk)]) (enc:=Sk.cells) (mk:=fun s=>.agg s.cells) underlying52 sizeOf56 zeroValue56 rfl cQ (fun _=>rfl) (fun _=>rfl) (.cu rfl) rfl) rfl ?_))))))
  rintro _ w13 ⟨B27,cB27,rfl,NB27,yB27,xB27⟩
  replace hS:=hS.up NB27.up
  have hE27:=xB27
  refine Ao (.Cu (enc:=Sk.cells) (bytes:=88) (i:=Tryz.t56) underlying52 kQ rfl rfl rfl rfl cQ (fun _=>rfl) Sk.one (.t rfl) (.t rfl) (hS.own 2 rfl) (Av hE27) (by rw[hL.len];simp[maxLen];omega) (by rw[hL.len];simp;omega)) rfl ?_
  intro v28 w14 Gw14
  replace hS:=hS.Dw 2 rfl Gw14
  refine U (.fB 2 rfl) (A9 (.store sizeOf52 (.t rfl) (.t rfl) (hS.own 2 rfl).one hS.b1 bQ) ?_)
  intro w15 Nw15
  replace hS:=hS.Dz 1 rfl (show Set_ _ w15 _ (#[vi 2,vi 5,v28,.slice (some ⟨B9,0,none⟩) 1 1]) _ from Nw15)
  refine LW.nil (Ad (Ac (Aa (I rfl (U (.ic rfl oQ) (LW.A rfl (LW.nil (Ar ?_))))))))
  exact⟨(k+1,v28,L++[(⟨1,[(k:Int)],some ⟨B16,0,none⟩,1,10,20,[],none,0,-1,0⟩:Sk)]),⟨by show k+1≤3;omega,hL.snoc (iG hk3 _ _ _ _ _ hnx) hnx,iH (Bs:=[_,_,_]) (s:=(⟨1,[(k:Int)],some ⟨B16,0,none⟩,1,10,20,[],none,0,-1,0⟩:Sk)) ((hS.Y2 (OwnS.nil _ 0 3 1 A5)).sub (.cons_cons _ (.cons_cons _ (.cons_cons _ (.cons_cons _ (.cons_cons _ (.cons _ (.cons_cons _ .slnil))))))))⟩,tQ,by show 3-(k+1)<3-k;omega⟩
 replace h12:=dQ h12
 refine A4 (Ab (Ab (An (Ac (Ah ?_)))))
 have hk3:k=3:=by have:¬k<3:=fun h=>h12 (Int.ofNat_lt.2 h);omega
 subst hk3
 obtain⟨s0,s1,s2,rfl⟩:=hL.three
 obtain⟨sa,sc,rfl,_⟩:=(hS.own 2 rfl).sl (fun _=>rfl)
 have hF:=FlE.of hL (hS.own 2 rfl) (hS.own 0 rfl) (hS.get 3 rfl)
 refine Aa (U (.lc rfl (hS.b1.agg)) (A6 (eC (.o rfl) (GK)) rfl (eX sa (some ⟨B9,0,none⟩) sc 1 s0 s1 s2 _ hF) ?_))
 rintro _ w16 ⟨ad31,cp31,rfl,hE31,uw16⟩
 replace hS:=hS.up uw16
 refine Ao (.Br zeroValue58) rfl ?_
 rintro _ w17 ⟨B4,rfl,MB4⟩
 refine A9 (.Ca sizeOf58 rfl (.t rfl) (.t rfl) (by simp[P6,Value.oneCell']) MB4.blk rfl) ?_
 intro w18 LB4
 have NB4:=MB4.set LB4
 replace hE31:=hE31.up NB4.up
 replace hS:=hS.Cg NB4
 refine Am (Aa (U (.build (cs:=#[vi 1,vi 5]) underlying61 zeroValue61 Ml (.cons (.const _) (.cons (.const _) .nil)) rfl) (U (.build (cs:=#[vi 2,vi 29]) underlying61 zeroValue61 Ml (.cons (.const _) (.cons (.const _) .nil)) rfl) (U (.build (cs:=mH.cells) underlying63 zeroValue63 Tq (.cons (.const _) (.cons (.const _) (.ct rfl (.cu rfl)))) kQ) (Ao (.Br zeroValue63) rfl ?_)))))
 rintro _ w19 ⟨B5,rfl,MB5⟩
 refine A9 (.Ca sizeOf63 rfl (.t rfl) (.t rfl) (Sg.one _) MB5.blk rfl) ?_
 intro w20 LB5
 have NB5:=MB5.set LB5
 replace hE31:=hE31.up NB5.up
 replace hS:=hS.Cg NB5
 refine Am (Aa (U (.lc rfl (hS.b5.agg)) (Ao (.buildSlice (xs:=[mH]) (enc:=Sg.cells) (mk:=fun s=>.agg s.cells) underlying68 sizeOf63 zeroValue63 rfl cQ (fun _=>rfl) (fun _=>rfl) (.cu rfl) rfl) rfl ?_)))
 rintro _ w21 ⟨B37,cB37,rfl,NB37,yB37,xB37⟩
 replace hS:=hS.up NB37.up
 replace hE31:=hE31.up NB37.up
 have hE37:=xB37
 refine U (.build (cs:=(P3 (some ⟨B37,0,none⟩) 1)) underlying70 zeroValue70 Tt (.cons (.const _) (.cons (.const _) (.cu rfl))) rfl) (A6 (eC (.o rfl) (GL)) rfl (mA (some ⟨B37,0,none⟩) 1 _ hE37) ?_)
 rintro _ w22 ⟨sc39,hsz,hone,rfl,uw22⟩
 replace hS:=hS.up uw22
 replace hE31:=hE31.up uw22
 refine I rfl (U (.xt rfl rfl) (U (.xt rfl rfl) (Ao (.Br zeroValue65) rfl ?_)))
 rintro _ w23 ⟨B6,rfl,MB6⟩
 refine A9 (.Ca sizeOf65 hsz (.t rfl) (.t rfl) hone MB6.blk rfl) ?_
 intro w24 LB6
 have NB6:=MB6.set LB6
 replace hE31:=hE31.up NB6.up
 replace hS:=hS.Cg NB6
 refine LW.A rfl (Am (Aa (U (.fB 0 rfl) (U (.lb rfl (hS.b4.Ak rfl)) (U (.tr (PEv.eql (.t rfl) (.const _)) (rfl)) (I rfl (Bh (U (.fB 1 rfl) (Bh (U (.lb rfl (hS.b4.Ak rfl)) (Bh (Ao (.buildSlice (xs:=([0,1,2]:List Int)) (enc:=A5) (mk:=vi) underlying37 sizeOf3 zeroValue3 rfl cQ (fun _=>rfl) (fun _=>rfl) (.cons (.const _) (.cons (.const _) (.cons (.const _) .nil))) rfl) rfl ?_))))))))))))
 rintro _ w25 ⟨B48,cB48,rfl,NB48,yB48,xB48⟩
 replace hS:=hS.up NB48.up
 replace hE31:=hE31.up NB48.up
 have hE48:=xB48
 refine Bh (A6 (eC (.u rfl rfl) (GM)) rfl (aO _ _ [0,1,2] [0,1,2] _ (Av hE31) (Av hE48) cQ cQ) ?_)
 rintro _ w26 ⟨rfl,uw26⟩
 replace hS:=hS.up uw26
 replace hE31:=hE31.up uw26
 replace hE48:=hE48.up uw26
 refine U (.pa rfl (fun hp=>(by exact .tmp rfl))) (I rfl (Bh (I rfl (U (.pa rfl (fun hp=>(by exact .tmp rfl))) (LW.A rfl (Ai (Al (KW.q ?_))))))))
 exact⟨rfl,hS.Ch⟩
set_option maxHeartbeats 4000000 in
theorem Pk(ad:Option Addr)(cp:Nat)(xs:List I6)(ady:Option Addr)(cpy:Nat)(ys:List I3)(y:I4)(st:Int)(w:World)(hE1:Els w ad 6 I6.cells xs)(hE2:Els w ady 3 I3.cells ys)(hy:wD y)(hst:Q4 st){Tg:TypeId}(hG:Blk w 1 S7 Tg):Ret prog 3 #[.slice ad xs.length cp,.slice ady ys.length cpy,.agg y.cells,vi st] w fun r w'=>r=.bool true∧Up w w':=by
 obtain⟨w0,rfl,hS⟩:=W0 w
 refine cT 120 func3 rfl ?_
 refine Af ?_
 refine Ao (.bA rfl) rfl ?_
 rintro _ w1 ⟨B6,rfl,NB6⟩
 have eB6:=NB6.at_
 have zB6:=NB6.size
 replace hS:=hS.Cg NB6
 change Wx.Sep _ _ _ [_]at hS
 refine Az (Am (Aa ?_))
 refine A6 (eC .nil (JF)) rfl (mB _) ?_
 rintro _ w2 ⟨rfl,uw2⟩
 have zw2:=uw2.size
 replace hS:=hS.up uw2
 refine LW.A rfl (Am (Aa (I rfl ?_)))
 refine A6 (eC (.o rfl) (JH)) rfl (pB ad cp xs _ (Els.up hE1 hS.Ch)) ?_
 rintro v20 w3 ⟨hO20,uw3⟩
 have zw3:=uw3.size
 replace hS:=hS.add uw3 (A':=J 74 19 Fact.cells v20 (Jr xs)) (hO20.mono (Nat.zero_le _)) (fun i h=>hO20.base i h)
 change Wx.Sep _ _ _ [_,_]at hS
 clear hO20
 have hlx:=Gh xs
 refine I rfl ?_
 refine A6 (eC (.o rfl) (JI)) rfl (pT ady cpy ys _ (Els.up hE2 hS.Ch)) ?_
 rintro v22 w4 ⟨hO22,uw4⟩
 have zw4:=uw4.size
 replace hS:=hS.add uw4 (A':=J 74 19 Fact.cells v22 (Zn ys)) (hO22.mono (Nat.zero_le _)) (fun i h=>hO22.base i h)
 change Wx.Sep _ _ _ [_,_,_]at hS
 clear hO22
 have hly:=Vh ys
 refine Ao (.Cu (enc:=Fact.cells) (bytes:=160) (i:=Tryz.t74) underlying26 kQ rfl rfl rfl rfl cQ (fun _=>rfl) Fact.one (.t rfl) (.t rfl) (hS.own 1 rfl) ((hS.own 2 rfl).sl (fun _=>rfl)) (by simp[maxLen];omega) oQ) rfl ?_
 intro v23 w5 Gw5
 have zw5:=Gw5.fr.size
 replace hS:=hS.Dw 1 rfl Gw5
 change Wx.Sep _ _ _ [_,_,_]at hS
 obtain⟨ad23,cp23,rfl,_⟩:=(hS.own 1 rfl).sl (fun _=>rfl)
 have hal:=rP xs ys
 change Wx.Sep _ _ _ [_,J 74 19 Fact.cells (.slice ad23 (aK xs ys).length cp23) (aK xs ys),_]at hS
 refine A6 (eC (.ct rfl (.cons (.const _) .nil)) (JG)) rfl (zD ad23 cp23 (aK xs ys) 10 _ (Cy (hS.own 1 rfl) (fun _=>rfl)) oQ) ?_
 rintro _ w6 ⟨bc,rfl,hC,uw6⟩
 have zw6:=uw6.size
 replace hS:=hS.up uw6
 obtain⟨b,hb⟩:∃b,b=tI (aK xs ys) 10:=⟨_,rfl⟩
 rw[←hb]at hC
 have hT:∀p∈b.Processes,Qd p:=by rw[hb];exact wF xs ys 10
 obtain⟨hlP,hlG,hlL,hls⟩:b.Processes.length≤35∧b.Gaps.length≤35∧b.Lots.length≤35∧b.Swaps.length≤35:=by rw[hb];exact⟨Nat.le_trans (W9 _ _ (j:=0) cQ) hal,Nat.le_trans (W9 _ _ (j:=10) cQ) hal,Nat.le_trans (W9 _ _ (j:=3) cQ) hal,Nat.le_trans (W9 _ _ (j:=2) cQ) hal⟩
 clear hb
 refine Ao (.Br zeroValue28) rfl ?_
 rintro _ w7 ⟨B10,rfl,MB10⟩
 refine A9 (.Ca sizeOf28 hC.size (.t rfl) (.t rfl) hC.one MB10.blk rfl) ?_
 intro w8 LB10
 have NB10:=MB10.set LB10
 clear LB10 MB10
 have eB10:=NB10.at_
 have zB10:=NB10.size
 replace hC:=hC.up NB10.up
 replace hS:=hS.Cg NB10
 change Wx.Sep _ _ _ [_,_,_,_]at hS
 refine Am ?_
 have hxo:=rN hy
 have hwl:=Lm b.Lots b.Processes b.Swaps
 refine Iw 4 [.eq (.agg bc),.eq (.agg y.cells),.eq (.agg (Ln y).cells),.pred fun v W=>VdsE W v (Im b (Ln y))] [28] kQ rfl kQ kQ kQ kQ kQ kQ kQ ⟨PhU.eq _,PhU.eq _,PhU.eq _,PhU.pred fun _ _ _ h u=>h.up u,trivial⟩ ?_ ?_
 ·intro W hU0
  have hU:=(Up.drew w8).trans hU0
  have hSW:=hS.up hU
  refine aC ⟨rfl,TU.p (.Kw isAgg28 sizeOf28 hC.size (.t rfl) hSW.b3.agg) rfl⟩ ?_
  refine aC ⟨rfl,TU.p (.lc rfl hSW.b0.agg) rfl⟩ ?_
  refine aC ⟨rfl,TU.c (eC (.o rfl) (JK)) (Zr y _) sQ⟩ ?_
  refine aC ⟨rfl,TU.c (eC (.u rfl rfl) (JJ)) (kS bc b (Ln y) _ (hC.up hU) hT oQ oQ oQ oQ) (by rintro _ W1 ⟨v,L,rfl,hm,hS2⟩;obtain⟨a1,c1,rfl,_⟩:=(hS2.own 0 rfl).sl (fun _=>rfl);exact⟨hS2.Ch,⟨a1,c1,L,rfl,hm,(hS2.own 0 rfl).els (fun _=>rfl),pM (hS2.get 1 rfl)⟩⟩)⟩ ?_
  exact allL.nil
 intro w9 g hU0 hg
 have hU:=(Up.drew w8).trans hU0
 have zw9:=hU.size
 replace hS:=hS.up hU
 replace hC:=hC.up hU
 obtain⟨ad7,cp7,L7,e7,hm7,hE7,hw7⟩:VdsE w9 (g 28) (Im b (Ln y)):=hg 3 _ 28 cQ rfl rfl
 change LW _ _ _ _ _ _ _ _ ((28,.eq (g 28))::_) _
 rw[e7]
 clear hg e7
 replace hw7:WhyS w9 L7:=hw7
 have hn7:L7.length=(Cv b.Lots b.Processes b.Swaps).length:=by rw[←aI hxo,←hm7,List.length_map]
 have hy7:=wA hm7
 have hsz7:=hS.Ch.size
 refine LW.A rfl (Am (Aa (I rfl ?_)))
 refine A6 (eC (.o rfl) (GG)) rfl (pU ad7 cp7 L7 _ hE7 oQ) ?_
 rintro v30 w10 ⟨hO30,uw10⟩
 have zw10:=uw10.size
 replace hS:=hS.up uw10
 replace hC:=hC.up uw10
 replace hE7:=hE7.up uw10
 replace hw7:=hw7.up uw10
 obtain⟨ado,cpo,rfl,hEo⟩:=hO30.sl (fun _=>rfl)
 clear hO30
 rw[rI,hm7]at hEo⊢
 obtain⟨ow,how⟩:∃ow,ow=((Im b (Ln y)).filter fun v=>decide (v.t=1)).map (·.w):=⟨_,rfl⟩
 rw[←how]at hEo⊢
 replace hEo:Els w10 ado 1 A5 ow:=hEo
 refine LW.A rfl (Am (Aa ?_))
 refine U (.Kw isAgg28 sizeOf28 (hC.size) (.t rfl) (hS.b3.agg)) ?_
 refine I rfl ?_
 refine A6 (eC (.u rfl rfl) (GH)) rfl (lO bc b ad7 cp7 L7 _ hC hT hE7 hw7 (fun p hp=>Nat.le_trans (wC (hy7 p hp)) oQ) oQ oQ oQ) ?_
 rintro _ w11 ⟨Ts,hTl,hTs,hTw,uw11⟩
 have zw11:=uw11.size
 replace hS:=hS.up uw11
 replace hC:=hC.up uw11
 replace hE7:=hE7.up uw11
 replace hw7:=hw7.up uw11
 replace hEo:=hEo.up uw11
 rw[hm7]at hTl
 obtain⟨ad33,cp33,rfl,hE33⟩:=hTs
 replace hE33:Els w11 ad33 1 TP.cells Ts:=hE33
 replace hTw:TsOk w11 Ts:=hTw
 refine LW.A rfl (Am (Ah ?_))
 have hT16:Ts.length≤16:=by have h5:=congrArg List.length hTl;rw[List.length_map]at h5;rw[h5];unfold Lo;rw[List.length_take];omega
 have how2:ow.Sublist (Cv b.Lots b.Processes b.Swaps):=by rw[how];exact rQ hxo
 have hvo:Iq ow=true:=aL oQ how2
 have hvT:∀t∈Ts,Iq t.l=true:=fun t ht=>aL (b:=b) oQ (List.Sublist.trans (by rw[how];exact(eU (List.mem_of_mem_take (show t.l∈Lo b _ from hTl▸List.mem_map.2 ⟨t,ht,rfl⟩))).2) how2)
 have hTa:Ts.length<16→∀w∈ow,∃t∈Ts,w∈t.l:=fun h w hw=>by
  obtain⟨d,hd,hwd⟩:=lX (b:=b) (x:=Ln y) hxo (by rw[←hTl,List.length_map];exact h) w (by rw[←how];exact hw)
  rw[←hTl]at hd
  obtain⟨t,ht,rfl⟩:=List.mem_map.1 hd
  exact⟨t,ht,hwd⟩
 refine Aa (I rfl ?_)
 refine U (.Cw underlying32 (.t rfl)) ?_
 refine U (.Kw isAgg28 sizeOf28 (hC.size) (.t rfl) (hS.b3.agg)) ?_
 refine A6 (eC (.o rfl) (AX)) rfl (Si bc b _ hC oQ oQ) ?_
 rintro v37 w12 ⟨hO37,uw12⟩
 have zw12:=uw12.size
 replace hS:=hS.up uw12
 replace hC:=hC.up uw12
 replace hEo:=hEo.up uw12
 replace hE33:=hE33.up uw12
 replace hTw:=hTw.up uw12
 obtain⟨ad37,cp37,rfl,_⟩:=hO37.sl (fun _=>rfl)
 clear hO37
 refine U (.Cw underlying37 (.t rfl)) ?_
 refine U (.fa (PEv.neq (.t rfl) (.t rfl)) (by simp[hn7])) ?_
 refine I rfl ?_
 refine Bh ?_
 refine I rfl ?_
 refine Bh ?_
 refine A6 (eC (.o rfl) (AY)) rfl (Td ad33 cp33 Ts _ hE33 hTw hvT hT16) ?_
 rintro _ w13 ⟨rfl,uw13⟩
 have zw13:=uw13.size
 replace hS:=hS.up uw13
 replace hC:=hC.up uw13
 replace hEo:=hEo.up uw13
 replace hE33:=hE33.up uw13
 replace hTw:=hTw.up uw13
 refine Bh ?_
 refine U (.n1 rfl) ?_
 refine U (.po rfl (fun hp=>wQ)) ?_
 refine Ai ?_
 refine CW.f rfl ?_
 refine Aj (Ac (Ah ?_))
 have hU0:=hS.Ch
 clear hS
 have hS:=Sep.start no w13
 refine Aa (I rfl (I rfl ?_))
 refine A6 (eC (.u rfl rfl) (GI)) rfl (eD ado cpo ow ad33 cp33 Ts _ (Els.up hEo hS.Ch) hvo (Els.up hE33 hS.Ch) (fun t ht=>Sl.up (hTw t ht) hS.Ch) hvT hT16 (hG.up (hU0.trans hS.Ch))) ?_
 rintro _ w14 ⟨v48,bk,ns,rfl,hO48,uw14,hFw⟩
 have zw14:=uw14.size
 replace hS:=hS.up uw14
 obtain⟨adn,cpn,rfl,hEn⟩:=hO48.sl (fun _=>rfl)
 clear hO48
 replace hEn:Els w14 adn 1 A5 (nI ns):=hEn
 have hnl:=S4 ns
 have hna:=hFw.JQ
 have hfk:=rR hFw
 have hfa:=wH hFw hTa
 refine I rfl (U (.xt rfl rfl) (U (.xt rfl rfl) (LW.A rfl (LW.A rfl (Am (Af (I rfl ?_)))))))
 refine U (.Cw underlying39 (.t rfl)) ?_
 refine U (.lss (.t rfl) (.const _)) ?_
 refine I rfl ?_
 refine Ey rfl rfl ?_
 refine LW.gr rfl (fun hc=>PEv.not vQ) ?_
 refine U (.pa rfl (fun hp=>wQ)) ?_
 refine I rfl ?_
 refine Ey rfl rfl ?_
 refine LW.gr rfl (fun hc=>PEv.move vQ) ?_
 refine No rfl rfl rfl rfl rfl rfl rfl (fun hc=>PEv.mv rfl) ?_
 refine No rfl rfl rfl rfl rfl rfl rfl (fun hc=>PEv.mv rfl) ?_
 refine No rfl rfl rfl rfl rfl rfl rfl (fun hc=>PEv.mv rfl) ?_
 refine xO rfl rfl rfl rfl rfl rfl rfl rfl (fun hc=>Ct (.cons vQ (.cons vQ (.cons vQ .nil))) (AZ)) (fun hc=>P5 ado cpo ow ad33 cp33 Ts adn cpn ns _ (Els.up hEo hS.Ch) hvo (Els.up hE33 hS.Ch) (fun t ht=>Sl.up (hTw t ht) hS.Ch) hvT hT16 hEn hna.2 hna.1 (Nat.le_trans hna.len hT16)) ?_
 intro w15 uw15
 have zw15:=uw15.size
 replace hS:=hS.up uw15
 refine No rfl rfl rfl rfl rfl rfl rfl (fun hc=>PEv.not vQ) ?_
 refine LW.gr rfl (fun hc=>PEv.F0 vQ (fun hp=>wQ)) ?_
 refine U (.fa (PEv.po rfl (fun hp=>wQ)) (FU (fun h=>hfa (by have:=of_decide_eq_true h;omega)) (fun h=>(hfk h).1))) ?_
 refine Ai ?_
 refine CW.f rfl ?_
 refine Aj (Ac (Af (Az (Am (Ah ?_)))))
 obtain⟨bs,hbs⟩:∃k:Nat,Bi st 65536=(k:Int):=⟨_,(Int.toNat_of_nonneg (Ii hst cQ).1).symm⟩
 replace hS:=hS.add (Up.refl _) (A':=J 3 1 A5 (.slice none 0 0) ([]:List Int)) (OwnS.nil _ _ _ _ _) (fun i h=>by cases h)
 change Wx.Sep _ _ _ [_]at hS
 refine Aa (Az (Ai (Ae ?_)))
 refine A3 (σ:=Nat×Go.Value) (fun s w=>(s.1≤Ts.length)∧(Wx.Sep no w13 w [J 3 1 A5 s.2 (nI (Ls s.1 bs))])) (fun s=>[(17,.eq (vi (s.1:Int))),(16,.eq (s.2))]) ([(3,.eq _),(8,.eq _),(9,.eq _),(12,.eq _),(13,.eq _),(14,.eq _),(15,.eq _)]) (fun s=>Ts.length-s.1) (0,.slice none 0 0) ?_ tQ ?_
 ·exact⟨Nat.zero_le _,hS⟩
 rintro⟨i,v⟩ w16 ⟨hi,hS⟩
 dsimp only at hi hS
 change Wx.Sep _ _ _ [_]at hS
 change CW _ _ _ _ _ _ _ ([(17,.eq (vi (i:Int))),(16,.eq (v))]++_) _
 refine Ah (Af (I rfl (I rfl ?_)))
 refine U (.Cw underlying39 (.t rfl)) ?_
 refine U (.l2 rfl rfl) ?_
 refine Ai ?_
 refine CW.b rfl (fun h71=>?_) (fun h71=>?_)
 ·replace h71:=dQ h71
  refine Aj (Ac (Ah (Ae (Ah ?_))))
  have hoi:=(Ir i bs).len
  have hoj:=S4 (Ls i bs)
  refine Aa (I rfl ?_)
  refine A6 (eC (.ct rfl (.cons (.const _) .nil)) (Xp)) rfl (Gj _ _ _ cQ) ?_
  rintro _ w17 ⟨rfl,uw17⟩
  have zw17:=uw17.size
  replace hS:=hS.up uw17
  rw[hbs]
  refine I rfl ?_
  refine U (.val (v':=vi ((bs/2^i:Nat):Int)) (PEv.Pr (j:=i) (.t rfl) (.t rfl)) (wK oQ)) ?_
  refine U (.val (v':=vi ((bs/2^i%2:Nat):Int)) (PEv.rem (.t rfl) (.const _) cQ) (IX _)) ?_
  refine U (.eql (.t rfl) (.const _)) ?_
  refine Ai ?_
  refine CW.b rfl (fun h79=>?_) (fun h79=>?_)
  ·replace h79:=dQ h79
   have hbt:bs/2^i%2=1:=by omega
   refine Aa (I rfl (I rfl ?_))
   refine Ao (.buildSlice (xs:=[(i:Int)]) (enc:=A5) (mk:=vi) underlying37 sizeOf3 zeroValue3 rfl cQ (fun _=>rfl) (fun _=>rfl) (.cu rfl) rfl) rfl ?_
   rintro _ w18 ⟨B82,cB82,rfl,NB82,yB82,xB82⟩
   have eB82:=NB82.at_
   have zB82:=NB82.size
   replace hS:=hS.up NB82.up
   have hE82:=xB82
   refine Ao (.Cu (enc:=A5) (bytes:=8) (i:=Tryz.t3) underlying37 kQ rfl rfl rfl rfl cQ (fun _=>rfl) Eh (.t rfl) (.t rfl) (hS.own 0 rfl) (Av hE82) (by simp[maxLen];omega) (by simp;omega)) rfl ?_
   intro v83 w19 Gw19
   have zw19:=Gw19.fr.size
   replace hS:=hS.Dw 0 rfl Gw19
   change Wx.Sep _ _ _ [_]at hS
   refine LW.A rfl (LW.nil (Ad (Ac (Aa (I rfl ?_)))))
   refine U (.ic rfl oQ) ?_
   refine LW.A rfl (LW.nil (Ar ?_))
   first|exact⟨(i+1,v83),⟨by show i+1≤_;omega,by first|(rw[On hbt,←Tb];exact hS.take 1)|(rw[Qw hbt];exact hS.take 1)⟩,tQ,by show Ts.length-(i+1)<Ts.length-i;omega⟩|exact⟨(i+1,v),⟨by show i+1≤_;omega,by first|(rw[On hbt,←Tb];exact hS.take 1)|(rw[Qw hbt];exact hS.take 1)⟩,tQ,by show Ts.length-(i+1)<Ts.length-i;omega⟩
  replace h79:=dQ h79
  have hbt:¬bs/2^i%2=1:=by omega
  refine Aj (Ad (Ac (Aa (I rfl ?_))))
  refine U (.ic rfl oQ) ?_
  refine LW.A rfl (LW.nil (Ar ?_))
  first|exact⟨(i+1,v83),⟨by show i+1≤_;omega,by first|(rw[On hbt,←Tb];exact hS.take 1)|(rw[Qw hbt];exact hS.take 1)⟩,tQ,by show Ts.length-(i+1)<Ts.length-i;omega⟩|exact⟨(i+1,v),⟨by show i+1≤_;omega,by first|(rw[On hbt,←Tb];exact hS.take 1)|(rw[Qw hbt];exact hS.take 1)⟩,tQ,by show Ts.length-(i+1)<Ts.length-i;omega⟩
 replace h71:=dQ h71
 refine A4 (Ab (Ab (An (Ac (Ah (Ah ?_))))))
 have hil:i=Ts.length:=by omega
 subst hil
 obtain⟨adv,cpv,rfl,_⟩:=(hS.own 0 rfl).sl (fun _=>rfl)
 have hfm:=wJ hFw (Ir Ts.length bs)
 have hol:=S4 (Ls Ts.length bs)
 refine Aa (I rfl (I rfl (I rfl ?_)))
 refine A6 (eC (.ct rfl (.ct rfl (.cu rfl))) (AZ)) rfl (P5 ado cpo ow ad33 cp33 Ts adv cpv (Ls Ts.length bs) _ (Els.up hEo hS.Ch) hvo (Els.up hE33 hS.Ch) (fun t ht=>Sl.up (hTw t ht) hS.Ch) hvT hT16 (Cy (hS.own 0 rfl) (fun _=>rfl)) (Ir Ts.length bs).2 (Ir Ts.length bs).1 (Nat.le_trans (Ir Ts.length bs).len hT16)) ?_
 rintro _ w20 ⟨rfl,uw20⟩
 have zw20:=uw20.size
 replace hS:=hS.up uw20
 refine I rfl ?_
 refine Ey rfl rfl ?_
 refine LW.gr rfl (fun hc=>PEv.not vQ) ?_
 refine LW.gr rfl (fun hc=>PEv.move vQ) ?_
 refine No rfl rfl rfl rfl rfl rfl rfl (fun hc=>PEv.mv rfl) ?_
 refine No rfl rfl rfl rfl rfl rfl rfl (fun hc=>PEv.Cw underlying37 vQ) ?_
 refine No rfl rfl rfl rfl rfl rfl rfl (fun hc=>PEv.mv rfl) ?_
 refine No rfl rfl rfl rfl rfl rfl rfl (fun hc=>PEv.Cw underlying37 vQ) ?_
 refine No rfl rfl rfl rfl rfl rfl rfl (fun hc=>PEv.lss vQ vQ) ?_
 refine LW.gr rfl (fun hc=>PEv.El vQ (fun hp=>wQ)) ?_
 refine U (.fa (PEv.pa rfl (fun hp=>wQ)) (FV (fun h=>⟨(hfm h).1,decide_eq_false (by have:=(hfm h).2;omega)⟩))) ?_
 refine Ai ?_
 refine CW.f rfl ?_
 refine Aj (Ac (Ah ?_))
 cases hq19:bk with
 |true=>
  obtain⟨_,_,hf1,hf2⟩:=hfk hq19
  refine Aa (I rfl (I rfl ?_))
  refine Bh ?_
  refine U (.tr (PEv.mv rfl) (rfl)) ?_
  refine Bh ?_
  refine U (.fa (PEv.n1 rfl) (rfl)) ?_
  refine Bh ?_
  refine I rfl ?_
  refine Bh ?_
  refine I rfl ?_
  refine Bh ?_
  refine U (.Cw underlying37 (.t rfl)) ?_
  refine Bh ?_
  refine I rfl ?_
  refine Bh ?_
  refine I rfl ?_
  refine Bh ?_
  refine A6 (eC (.u rfl rfl) (GJ)) rfl (lP ado cpo ow ad33 cp33 Ts _ (Els.up hEo hS.Ch) hvo (Els.up hE33 hS.Ch) (fun t ht=>Sl.up (hTw t ht) hS.Ch) hvT hT16) ?_
  rintro v108 w21 ⟨hO108,uw21⟩
  have zw21:=uw21.size
  replace hS:=hS.up uw21
  obtain⟨adb,cpb,rfl,_⟩:=hO108.sl (fun _=>rfl)
  clear hO108
  refine Bh ?_
  refine U (.Cw underlying37 (.t rfl)) ?_
  refine Bh ?_
  refine U (.tr (PEv.geq (.t rfl) (.t rfl)) (decide_eq_true oQ)) ?_
  refine Bh ?_
  refine I rfl ?_
  refine Bh ?_
  refine I rfl ?_
  refine Bh ?_
  refine U (.Cw underlying37 (.t rfl)) ?_
  refine Bh ?_
  refine I rfl ?_
  refine Bh ?_
  refine U (.Cw underlying37 (.t rfl)) ?_
  refine Bh ?_
  refine U (.tr (PEv.leq (.t rfl) (.t rfl)) (decide_eq_true oQ)) ?_
  refine Bh ?_
  refine U (.pa rfl (fun hp=>wQ)) ?_
  refine Bh ?_
  refine U (.po rfl (fun hp=>wQ)) ?_
  refine U (.pa rfl (fun hp=>wQ)) ?_
  refine LW.A rfl (Ai (Al ?_))
  refine KW.q ?_
  exact⟨rfl,hU0.trans hS.Ch⟩
 |false=>
  refine Aa (I rfl (I rfl ?_))
  refine Bh ?_
  refine U (.fa (PEv.mv rfl) (rfl)) ?_
  refine Bh ?_
  refine U (.tr (PEv.n1 rfl) (rfl)) ?_
  refine Bh ?_
  refine I rfl ?_
  refine C7 ?_
  refine C7 ?_
  refine C7 ?_
  refine C7 ?_
  refine C7 ?_
  refine C7 ?_
  refine C7 ?_
  refine C7 ?_
  refine Kr rfl rfl rfl rfl rfl rfl ?_
  refine Kr rfl rfl rfl rfl rfl rfl ?_
  refine Kr rfl rfl rfl rfl rfl rfl ?_
  refine Kr rfl rfl rfl rfl rfl rfl ?_
  refine Kr rfl rfl rfl rfl rfl rfl ?_
  refine C7 ?_
  refine Bh ?_
  refine U (.El (b:=false) (.t rfl) (fun hp=>absurd (show true=false from hp) cQ)) ?_
  refine U (.pa rfl (fun hp=>wQ)) ?_
  refine LW.A rfl (Ai (Al ?_))
  refine KW.q ?_
  exact⟨rfl,hU0.trans hS.Ch⟩
end Go.Proofs.YtdilcdgjklimoaaGreatDoor
namespace Go.Proofs
open Go.Proofs.Tryz
open Go.Wx Go.ChangeShapes Go.WideShapes Go.RowKit
theorem mC{H:Type}{enc:TypeId×Value→H}{w:World}{b:Nat}{sp:Nat→Bool}{hd:Bool}(n:Nat)(cs:List Value)(x:DataW H×List MemPlace)(hl:cs.length=6)(h:DataW.trod enc Tryz.prog w b sp hd n 87 cs=some x):∃f:I6,cs=f.cells.toList∧FE f:=by
 have k_int:Tryz.prog.cellsOf 3=1:=by kernel_rfl
 match cs,hl with
 |[c0,c1,c2,c3,c4,c5],_=>
   obtain⟨xs,m,_,_,_,hlen,hg⟩:=DataW.trod_array underlying87 h
   have hs:∀i,i<6→∃y,xs[i]?=some y:=fun i hi=>⟨_,List.getElem?_eq_getElem oQ⟩
   obtain⟨y0,z0⟩:=hs 0 cQ
   obtain⟨n0,e0,_,q0⟩:=DataW.trod_int underlying3 (show DataW.trod enc Tryz.prog w b sp hd m 3 [c0]=some y0 from by rw[←z0];simpa[k_int]using hg 0 cQ)
   obtain⟨y1,z1⟩:=hs 1 cQ
   obtain⟨n1,e1,_,q1⟩:=DataW.trod_int underlying3 (show DataW.trod enc Tryz.prog w b sp hd m 3 [c1]=some y1 from by rw[←z1];simpa[k_int]using hg 1 cQ)
   obtain⟨y2,z2⟩:=hs 2 cQ
   obtain⟨n2,e2,_,q2⟩:=DataW.trod_int underlying3 (show DataW.trod enc Tryz.prog w b sp hd m 3 [c2]=some y2 from by rw[←z2];simpa[k_int]using hg 2 cQ)
   obtain⟨y3,z3⟩:=hs 3 cQ
   obtain⟨n3,e3,_,q3⟩:=DataW.trod_int underlying3 (show DataW.trod enc Tryz.prog w b sp hd m 3 [c3]=some y3 from by rw[←z3];simpa[k_int]using hg 3 cQ)
   obtain⟨y4,z4⟩:=hs 4 cQ
   obtain⟨n4,e4,_,q4⟩:=DataW.trod_int underlying3 (show DataW.trod enc Tryz.prog w b sp hd m 3 [c4]=some y4 from by rw[←z4];simpa[k_int]using hg 4 cQ)
   obtain⟨y5,z5⟩:=hs 5 cQ
   obtain⟨n5,e5,_,q5⟩:=DataW.trod_int underlying3 (show DataW.trod enc Tryz.prog w b sp hd m 3 [c5]=some y5 from by rw[←z5];simpa[k_int]using hg 5 cQ)
   cases e0
   cases e1
   cases e2
   cases e3
   cases e4
   cases e5
   exact⟨⟨n0,n1,n2,n3,n4,n5⟩,rfl,⟨Ib q0,Ib q1,Ib q2,Ib q3,Ib q4,Ib q5⟩⟩
theorem mD{H:Type}{enc:TypeId×Value→H}{w:World}{b:Nat}{sp:Nat→Bool}{hd:Bool}(n:Nat)(cs:List Value)(x:DataW H×List MemPlace)(hl:cs.length=3)(h:DataW.trod enc Tryz.prog w b sp hd n 88 cs=some x):∃f:I3,cs=f.cells.toList∧(fun _=>True) f:=by
 have k_int:Tryz.prog.cellsOf 3=1:=by kernel_rfl
 match cs,hl with
 |[c0,c1,c2],_=>
   obtain⟨xs,m,_,_,_,hlen,hg⟩:=DataW.trod_array underlying88 h
   have hs:∀i,i<3→∃y,xs[i]?=some y:=fun i hi=>⟨_,List.getElem?_eq_getElem oQ⟩
   obtain⟨y0,z0⟩:=hs 0 cQ
   obtain⟨n0,e0,_,q0⟩:=DataW.trod_int underlying3 (show DataW.trod enc Tryz.prog w b sp hd m 3 [c0]=some y0 from by rw[←z0];simpa[k_int]using hg 0 cQ)
   obtain⟨y1,z1⟩:=hs 1 cQ
   obtain⟨n1,e1,_,q1⟩:=DataW.trod_int underlying3 (show DataW.trod enc Tryz.prog w b sp hd m 3 [c1]=some y1 from by rw[←z1];simpa[k_int]using hg 1 cQ)
   obtain⟨y2,z2⟩:=hs 2 cQ
   obtain⟨n2,e2,_,q2⟩:=DataW.trod_int underlying3 (show DataW.trod enc Tryz.prog w b sp hd m 3 [c2]=some y2 from by rw[←z2];simpa[k_int]using hg 2 cQ)
   cases e0
   cases e1
   cases e2
   exact⟨⟨n0,n1,n2⟩,rfl,trivial⟩
theorem mE{H:Type}{enc:TypeId×Value→H}{w:World}{b:Nat}{sp:Nat→Bool}{hd:Bool}(n:Nat)(cs:List Value)(x:DataW H×List MemPlace)(hl:cs.length=4)(h:DataW.trod enc Tryz.prog w b sp hd n 24 cs=some x):∃f:I4,cs=f.cells.toList∧wD f:=by
 have k_int:Tryz.prog.cellsOf 3=1:=by kernel_rfl
 match cs,hl with
 |[c0,c1,c2,c3],_=>
   obtain⟨xs,m,_,_,_,hlen,hg⟩:=DataW.trod_array underlying24 h
   have hs:∀i,i<4→∃y,xs[i]?=some y:=fun i hi=>⟨_,List.getElem?_eq_getElem oQ⟩
   obtain⟨y0,z0⟩:=hs 0 cQ
   obtain⟨n0,e0,_,q0⟩:=DataW.trod_int underlying3 (show DataW.trod enc Tryz.prog w b sp hd m 3 [c0]=some y0 from by rw[←z0];simpa[k_int]using hg 0 cQ)
   obtain⟨y1,z1⟩:=hs 1 cQ
   obtain⟨n1,e1,_,q1⟩:=DataW.trod_int underlying3 (show DataW.trod enc Tryz.prog w b sp hd m 3 [c1]=some y1 from by rw[←z1];simpa[k_int]using hg 1 cQ)
   obtain⟨y2,z2⟩:=hs 2 cQ
   obtain⟨n2,e2,_,q2⟩:=DataW.trod_int underlying3 (show DataW.trod enc Tryz.prog w b sp hd m 3 [c2]=some y2 from by rw[←z2];simpa[k_int]using hg 2 cQ)
   obtain⟨y3,z3⟩:=hs 3 cQ
   obtain⟨n3,e3,_,q3⟩:=DataW.trod_int underlying3 (show DataW.trod enc Tryz.prog w b sp hd m 3 [c3]=some y3 from by rw[←z3];simpa[k_int]using hg 3 cQ)
   cases e0
   cases e1
   cases e2
   cases e3
   exact⟨⟨n0,n1,n2,n3⟩,rfl,⟨Ib q0,Ib q1,Ib q2,Ib q3⟩⟩
set_option maxRecDepth 100000 in
theorem fD{H:Type}{enc:TypeId×Value→H}{w:World}{b b0:Nat}{sp:Nat→Bool}{hd:Bool}{r:Reach}{v:Value}{d:DataW H}{p:List MemPlace}(hv:Value.okWide Tryz.prog w r b0 24 v)(h:DataW.Trod enc Tryz.prog w b sp hd 24 v d p):∃f:I4,v=.agg f.cells∧wD f:=by
 simp only[Value.okWide,underlying24]at hv
 obtain⟨cs,rfl,hsz,_⟩:=hv
 obtain⟨fuel,hf⟩:=h
 have hc:Tryz.prog.cellsOf 24=4:=by kernel_rfl
 obtain⟨f,e,g⟩:=mE fuel cs.toList _ (by rw[Array.length_toList,hsz,hc]) hf
 exact⟨f,by rw[Array.toList_inj.1 e],g⟩
end Go.Proofs
