import Derived.Test.YtnpgbbaniknpkaaGreatDoorKR115
import Derived.Sort.OwnSortedInts
namespace Go.Wx
theorem Pc(ks:List Int):ks.flatMap (fun x=>(A3 x).toList)=ks.map vi:=by
 induction ks with
 |nil=>rfl
 |cons k ks ih=>rw[cw,ih];rfl
theorem mB{a b:List Int}(h:a.Perm b):(a.mergeSort fun x y=>decide (x≤y))=b.mergeSort fun x y=>decide (x≤y):=
 List.Perm.eq_of_pairwise (le:=fun x y=>decide (x≤y)=true) (fun x y _ _ h1 h2=>by have h3:=b9 h1;have h4:=b9 h2;omega)
   (jp (fun a b c h1 h2=>by have h3:=b9 h1;have h4:=b9 h2;exact bj oQ) (fun a b=>by simp;omega) a)
   (jp (fun a b c h1 h2=>by have h3:=b9 h1;have h4:=b9 h2;exact bj oQ) (fun a b=>by simp;omega) b)
   ((j1 a _).trans (h.trans (j1 b _).symm))
def Nn(k:Int):Int×Value:=(k,.agg #[])
def Qg(ks:List Int)(k:Int):List Int:=if k∈ks then ks else ks++[k]
theorem mC(ks:List Int)(k:Int):Hu (ks.map Nn) k (.agg #[])=(Qg ks k).map Nn:=by
 have e:(ks.map Nn).map (·.1)=ks:=by simp[jk,Nn]
 unfold Hu Qg
 rw[e]
 by_cases h:k∈ks
 · rw[bh h,bh h,fd]
   refine e8 fun x _=>?_
   show(if x=k then(k,Value.agg #[])else Nn x)=Nn x
   by_cases hx:x=k
   · subst hx;rw[bh rfl];rfl
   rw[aq hx]
 rw[aq h,aq h];simp[Nn]
def jA(b:Base)(a:GAct)(f:Fact):Bool:=Tq f b.Lots a&& !yK f b.Releases a.Time
def Kp(b:Base)(a:GAct)(ks:List Int)(f:Fact):List Int:=if jA b a f=true then Qg ks f.ID else ks
def Ha(b:Base)(a:GAct)(l:List Fact):List Int:=l.foldl (Kp b a) []
def I7(b:Base)(a:GAct):List Int:=(Ha b a (b.Holds.filter I5)).mergeSort fun x y=>decide (x≤y)
theorem Ml(b:Base)(a:GAct)(l:List Fact)(f:Fact):Ha b a (l++[f])=Kp b a (Ha b a l) f:=by simp[Ha]
theorem U7(ks:List Int)(k:Int):(Qg ks k).length≤ks.length+1:=by unfold Qg;split<;>simp
theorem Pe(b:Base)(a:GAct):∀(l:List Fact)(ks:List Int),(l.foldl (Kp b a) ks).length≤ks.length+l.length
 |[],_=>bl _
 |f::l,ks=>by
   rw[kr,bg]
   have h1:=Pe b a l (Kp b a ks f)
   have h2:(Kp b a ks f).length≤ks.length+1:=by unfold Kp;split;exact U7 _ _;omega
   omega
theorem U8(b:Base)(a:GAct)(l:List Fact):(Ha b a l).length≤l.length:=by have:=Pe b a l [];simpa[Ha]using this
theorem Tv(ks:List Int):(ks.map Nn).map (·.1)=ks:=by simp[jk,Nn]
theorem Qh{α:Type}{enc:α→Array Go.Value}{k:Nat}(hk:∀x,(enc x).size=k):∀xs:List α,(xs.flatMap fun x=>(enc x).toList).length=xs.length*k
 |[]=>by simp
 |x::xs=>by rw[cw,ak,Qh hk xs,c9,hk,bg,eu];omega
theorem mD{α:Type}{enc:α→Array Go.Value}{k i:Nat}(hk:∀x,(enc x).size=k){xs:List α}(hi:i≤xs.length):(xs.flatMap fun x=>(enc x).toList).take (i*k)=(xs.take i).flatMap fun x=>(enc x).toList:=by
 have hl:((xs.take i).flatMap fun x=>(enc x).toList).length=i*k:=by rw[Qh hk,cc,dq hi]
 rw[show(xs.flatMap fun x=>(enc x).toList)=((xs.take i).flatMap fun x=>(enc x).toList)++((xs.drop i).flatMap fun x=>(enc x).toList)by rw[←iq,er],←hl,List.take_left']
 rfl
section
variable {P:Program}{n:Nat}{ds:List Deferred}{l:Env}{w:World}{d:Option Tmp}{ty:TypeId}{ps:String}{af:Array Edge}{g:Option (Nat×Bool)}
theorem U9{α:Type}{enc:α→Array Go.Value}{T e:TypeId}{k i cp:Nat}{x:Operand}{z:Go.Value}{ad:Option Addr}{xs:List α}(hT:P.underlying T=some (.slice e))(hz:∀w,(zeroValue e).run P w=.ok z w)(hzs:z.cells.size=k)(h1:z.cells.all (·.oneCell')=true)(hk:∀x,(enc x).size=k)
   (hx:Val l x (.slice (if cp=i then ad else ad.map (·.add (i*k))) (xs.length-i) (cp-i)))(hi:i≤xs.length)(ho:OwnS w 0 e k enc (.slice ad xs.length cp) xs):
   REv P n ds l w ⟨d,.call { callee:=.builtin .clear,args:=#[x],argTypes:=#[T] },ty,ps,af,g⟩ (fun _ w'=>Stp (Aw e k enc (.slice ad xs.length cp) xs) (Aw e k enc (.slice ad i cp) (xs.take i)) w w'):=fun a ha=>by
 by_cases h0:xs.length-i=0
 · have hie:i=xs.length:=by omega
   subst hie
   refine⟨.tuple #[],w,?_,Fr.refl _ _,(show OwnS w 0 e k enc (.slice ad xs.length cp) (xs.take xs.length)by rw[b8];exact ho),fun i h=>.inl h⟩
   have hx':=ha.ev hx
   rw[h0]at hx'
   simp only[execOp,resolve,invoke,builtin,Builtin.clear_]
   split at hx'<;>(try cases ad)<;>simp[hx',run_underlying hT,Result.andThen]
 obtain⟨hlen,⟨he,hn⟩|⟨g',cap',cur,he,_,hg,hcap,hcm,hcs,htake⟩⟩:=ho
 · exact absurd hn oQ
 cases he
 rw[aq (show ¬cp=i by omega)]at hx
 have hzc:(Builtin.zeroCells z.cells (xs.length-i)).size=(xs.length-i)*k:=by rw[←hzs];simp[Builtin.zeroCells]
 have hle:xs.length*k≤cur.size:=by rw[hcs];exact fi k hcap
 have hsum:i*k+(xs.length-i)*k=xs.length*k:=by rw[←eu];congr 1;omega
 have hst:=run_storeCells_at P g' (i*k) e (Builtin.zeroCells z.cells (xs.length-i)).toList 0 cur w hg (by rw[c9,hzc];omega) (fun u hu=>by
   simp only[Builtin.zeroCells,Array.toList_map,bx]at hu
   obtain⟨i,_,rfl⟩:=hu
   by_cases hk:z.cells.size=0
   · have:z.cells=#[]:=Array.eq_empty_of_size_eq_zero hk
     simp[this]at*
   have hlt:i%z.cells.size<z.cells.size:=Nat.mod_lt _ oQ
   rw[getElem!_pos z.cells _ hlt]
   exact ck.1 h1 _ (ez hlt))
 refine⟨.tuple #[],w.setRow g' (cur.toList.take (i*k+0)++(Builtin.zeroCells z.cells (xs.length-i)).toList++cur.toList.drop (i*k+0+(Builtin.zeroCells z.cells (xs.length-i)).toList.length)).toArray,?_,⟨rfl,rfl,rfl,by simp,fun i hi hne=>setRow_other w g' i _ (fun e=>hne (by rw[e];rfl))⟩,?_,fun i h=>.inl h⟩
 · obtain⟨m,hm⟩:∃m,xs.length-i=m+1:=⟨xs.length-i-1,by omega⟩
   rw[hm]at hst hx⊢
   have ead:(⟨g',0,none⟩:Addr).add (i*k)=⟨g',i*k,none⟩:=by
     unfold Addr.add
     by_cases h:i*k=0<;>simp[h]
   simp only[ga]at hx
   rw[ead]at hx
   simp[execOp,resolve,invoke,builtin,ha.ev hx,Builtin.clear_,run_underlying hT,Result.andThen,hz]
   rw[hst]
   simp
 show OwnS _ 0 e k enc (.slice (some ⟨g',0,none⟩) i cp) (xs.take i)
 have hf:=mD hk hi
 refine⟨by rw[Qh hk,cc,dq hi],.inr ⟨g',cp,_,by rw[cc,dq hi],a8 _,setRow_heap w g' cur _ e (0,0) hg,by rw[cc];omega,hcm,?_,?_⟩⟩
 · simp only[i6,ak,cc,kl,c9,hzc]
   omega
 rw[cc,dq hi,←hf,←htake]
 simp only[fo,c6]
 rw[kp (by rw[cc,c9];omega),gu,gu]
 congr 1
 omega
end
def KK(p:Int→Bool)(l:List Int)(i:Int):Prop:=(∃(k:Nat)(x:Int),i=(k:Int)∧l[k]?=some x∧p x=true∧∀y∈l.take k,p y=false)∨(i= -1∧∀y∈l,p y=false)
theorem fK{p:Int→Bool}{l:List Int}{k:Nat}{x:Int}(hx:l[k]?=some x)(hn:∀y∈l.take k,p y=false)(h:p x=false):∀y∈l.take (k+1),p y=false:=fun y hy=>by
 rw[Cr hx]at hy
 rcases bt.1 hy with hy|hy
 · exact hn y hy
 rw[bn.1 hy];exact h
def Ir(p:Int→Bool)(l:List Int)(j:Nat):List Int:=(l.take j).filter fun x=> !p x
theorem Qi(p:Int→Bool)(l:List Int)(j:Nat):(Ir p l j).length≤j:=bu (ef _ _) (by rw[cc];omega)
theorem Ra{p:Int→Bool}{l:List Int}{k:Nat}{x:Int}(hx:l[k]?=some x)(hp:p x=true)(hn:∀y∈l.take k,p y=false):Ir p l (k+1)=l.take k:=by
 unfold Ir
 rw[Cr hx,cz,gv (by rw[hp];decide),je,dk]
 exact ir.2 fun y hy=>by rw[hn y hy];rfl
theorem We{p:Int→Bool}{l:List Int}{k:Nat}{x:Int}(hx:l[k]?=some x)(hp:p x=false):Ir p l (k+1)=Ir p l k++[x]:=by
 unfold Ir
 rw[Cr hx,cz,iy (by rw[hp];rfl),je]
theorem Tw{p:Int→Bool}{l:List Int}{k:Nat}{x:Int}(hx:l[k]?=some x)(hp:p x=true):Ir p l (k+1)=Ir p l k:=by
 unfold Ir
 rw[Cr hx,cz,gv (by rw[hp];decide),je,dk]
theorem Ty{p:Int→Bool}{l:List Int}(hn:∀y∈l,p y=false):(l.filter fun x=> !p x)=l:=ir.2 fun y hy=>by rw[hn y hy];rfl
structure DelI(p:Int→Bool)(l M:List Int)(j:Nat):Prop where
 len:M.length=l.length
 kept:M.take (Ir p l j).length=Ir p l j
 rest:∀m,j≤m→M[m]?=l[m]?
theorem DelI.start{p:Int→Bool}{l:List Int}{k:Nat}{x:Int}(hx:l[k]?=some x)(hp:p x=true)(hn:∀y∈l.take k,p y=false):DelI p l l (k+1):=by
 have hk:k<l.length:=(am.1 hx).1
 refine⟨rfl,?_,fun _ _=>rfl⟩
 rw[Ra hx hp hn,cc,dq (by omega)]
theorem DelI.no{p:Int→Bool}{l M:List Int}{j:Nat}{x:Int}(h:DelI p l M j)(hx:l[j]?=some x)(hp:p x=true):DelI p l M (j+1):=
 ⟨h.len,by rw[Tw hx hp];exact h.kept,fun m hm=>h.rest m oQ⟩
theorem DelI.yes{p:Int→Bool}{l M:List Int}{j:Nat}{x:Int}(h:DelI p l M j)(hx:l[j]?=some x)(hp:p x=false):DelI p l (M.set (Ir p l j).length x) (j+1):=by
 have hj:j<l.length:=(am.1 hx).1
 have hk:=Qi p l j
 have hM:=h.len
 refine⟨by rw[d9,hM],?_,fun m hm=>?_⟩
 · rw[We hx hp,ak,dy,List.take_succ_eq_append_getElem (by rw[d9];omega),List.getElem_set_self,List.take_set_of_le (bl _),h.kept]
 rw[List.getElem?_set_ne (by omega)]
 exact h.rest m oQ
theorem Wf{p:Int→Bool}{l:List Int}:Ir p l l.length=l.filter fun x=> !p x:=by unfold Ir;rw[b8]
theorem OwnS.LO{α:Type}{enc:α→Array Go.Value}{b k m cp:Nat}{e:TypeId}{w:World}{ad:Option Addr}{xs:List α}(h:OwnS w b e k enc (.slice ad m cp) xs):xs.length≤cp:=by
 obtain⟨_,⟨he,hn⟩|⟨g',cap,cur,he,_,_,hcap,_⟩⟩:=h
 · cases he;omega
 cases he;exact hcap
end Go.Wx
namespace Go.Proofs.YtnpgbbaniknpkaaGreatDoor
open Go.Proofs.Tryz
open Go.Wx Go.RowKit
namespace Hs
theorem Va(g:Nat)(lb:Array Go.Value)(S Sp:List Int→Prop)(N:Nat)(w:World)(en:∀args w,(callFunc g args).run Tryz.prog w=.ok (.enter g args) w)(hit:∀W(X:Nat→Prop),Up w W→(∀i,X i→w.heap.size≤i)→IterS Tryz.prog g lb A3 X (fun _=>False) S Sp N W)(hN0:N≤1000000000):Ret prog 282 #[.slice none 0 0,.func (.func g) #[] lb] w fun r w'=>∃ks,S ks∧OwnS w' w.heap.size 3 1 A3 r ks∧Up w w':=by
 have hW:=Up.refl w
 obtain⟨w0,rfl,_⟩:=W0 w
 refine Ff (n:=13) func282 rfl rfl rfl (Af (Ap (.Pu (.t rfl) rfl) rfl ?_))
 rintro _ w1 ⟨B2,rfl,NB2⟩
 have eB2:=NB2.at_
 have zB2:=NB2.size
 replace hW:=hW.up NB2.up
 have hB2:=NB2.blk
 refine Az (An (Af (I rfl (Ah (Ak ?_)))))
 obtain⟨bq,hbq⟩:∃bq,bq=w1.heap.size:=⟨_,rfl⟩
 refine CW.rangeFunc (fun i=>B2≤i) (fun _=>False) (fun pre W=>Sz bq W∧∃v,Blk W B2 #[v] 23∧OwnS W (B2+1) 3 1 A3 v pre∧Up w0 W) (fun c pre W=>Sz bq W∧False) (fun x a' W=>Ag 13 [] ([(5,.eq (vi x)),(2,.eq (.pointer (some ⟨B2,0,none⟩)))]) a' W) (.t rfl) en (hit _ _ hW (fun i(hi:B2≤i)=>by omega)) (fun _=>rfl) rfl ?_ ?_ ?_ ?_ ?_ ?_ ?_ ?_
 ·rw[←hbq]
  intro pre W W' row hs hg hr
  obtain⟨hZ,v,hB2,hO,hW⟩:=hs
  exact⟨hZ.ko (Ko.grown hg hr),v,hB2.ko (Ko.grown hg hr),hO.ko (Ko.grown hg hr),hW.ko (Ko.grown hg hr) oQ⟩
 ·rw[←hbq]
  intro c pre W W' row hs hg hr
  obtain⟨hZ,hF⟩:=hs
  exact⟨hZ.ko (Ko.grown hg hr),hF⟩
 ·intro x a' u W W' row hs hg hr
  exact hs.world rfl _
 ·exact⟨fm hbq,_,hB2,OwnS.nil _ _ _ _ _,hW⟩
 ·rw[←hbq]
  intro lp pre x w2 K hs hk a ha
  obtain⟨hZ,v,hB2,hO,hW⟩:=hs
  have zq:=hZ.le
  have hK:=Kf.refl bq w2
  have hN:=Kx.refl bq (fun i=>B2≤i) (fun _=>False) w2
  revert a
  refine Ht (p:=7) rfl (Aa (LW.A rfl (LW.nil ?_)))
  exact fun a ha=>hk a _ hK hN ⟨hZ,v,hB2,hO,hW⟩ (ha.sub tQ)
 ·rw[←hbq]
  intro lp pre x a' w3 hs hx hlt
  obtain⟨hZ,v,hB2,hO,hW⟩:=hs
  have ha:=hx
  have zq:=hZ.le
  have hK:=Kf.refl bq w3
  have hN:=Kx.refl bq (fun i=>B2≤i) (fun _=>False) w3
  refine(show CW (some lp) 8 _ 13 [] _ (ownPostG bq (Kx bq (fun i=>B2≤i) (fun _=>False)) _ _ (pre++[x]) w3) ([(5,.eq (vi x)),(2,.eq (.pointer (some ⟨B2,0,none⟩)))]) w3 from ?_) a' ha
  refine Ak (Aa (U (.lb rfl (hB2.Ad rfl)) (I rfl (Ap (.buildSlice (xs:=[x]) (enc:=A3) (mk:=vi) k_ lg lq rfl cQ (fun _=>rfl) (fun _=>rfl) (.cu rfl) rfl) rfl ?_))))
  rintro _ w4 ⟨B10,cB10,rfl,NB10,yB10,xB10⟩
  have eB10:=NB10.at_
  have zB10:=NB10.size
  replace hZ:=hZ.up NB10.up
  replace hB2:=hB2.up NB10.up
  replace hO:=hO.up NB10.up
  replace hW:=hW.up NB10.up
  replace hK:=hK.up NB10.up
  replace hN:=hN.up NB10.up
  have hB10:=NB10.blk
  have hE10:=xB10
  refine Ap (.append (enc:=A3) (base:=B2+1) (bytes:=8) (i:=Tryz.t3) k_ kQ rfl rfl rfl rfl cQ (fun _=>rfl) Et (.t rfl) (.t rfl) hO (Ay hE10) (by simp) (by simp[maxLen];omega) (by simp;omega) oQ) rfl ?_
  rintro v11 w5 ⟨Ow5,Gw5⟩
  replace hZ:=hZ.gr Gw5 rfl
  replace hB2:=hB2.gr Gw5 oQ
  replace hW:=hW.gr Gw5 oQ
  replace hK:=hK.gr Gw5
  replace hN:=hN.gr Gw5 (fun i hi=>by exact .inl (by show _≤_;omega))
  replace hO:=Ow5
  refine Cd (.store m4 (.t rfl) (.t rfl) hO.one hB2 (by simp)) ?_
  intro w6 Nw6
  replace hZ:=hZ.sto Nw6.sto oQ
  replace hO:=hO.sto Nw6.sto oQ
  replace hW:=hW.sto Nw6.sto oQ
  replace hK:=hK.sto Nw6.sto (.inr (.inr ⟨_,_,hB2⟩))
  replace hN:=hN.HZ Nw6.sto (⟨_,_,hB2⟩) (by exact .inl (by show _≤_;omega))
  replace hB2:=Nw6.blk
  replace hB2:Blk w6 B2 #[v11] _:=hB2
  refine LW.nil (Al ?_)
  exact fun a ha=>⟨hK,hN,hZ,_,hB2,hO,hW⟩
 ·intro D ys w7 hDb hS hs hD
  rw[←hbq]at hDb
  obtain⟨hZ,v,hB2,hO,hW⟩:=hs
  replace hD:Ob w7 D (.deferred (some [])):=hD
  refine Al (Ac (Af (U (.lb rfl (hB2.Ad rfl)) (LW.A rfl (Ah (Am (Mq hD rfl ?_)))))))
  replace hZ:=hZ.ko (Ko.putObj (.deferred none) hD rfl hDb)
  replace hB2:=hB2.ko (Ko.putObj (.deferred none) hD rfl hDb)
  replace hO:=hO.ko (Ko.putObj (.deferred none) hD rfl hDb)
  replace hW:=hW.putObj (D:=D) (.deferred none) oQ
  refine KW.q ?_
  exact⟨ys,hS,hO.mono oQ,hW⟩
 intro D c pre w8 hDb hpre hs hD
 rw[←hbq]at hDb
 obtain⟨hZ,hF⟩:=hs
 replace hD:Ob w8 D (.deferred (some [])):=hD
 exact hF.elim
theorem rO(base e:Nat)(v:Value)(ks:List Int)(w:World)(h:OwnS w base e 1 A3 v ks)(hlen:ks.length<4611686018427387904):Ret prog 32 #[v] w fun r w'=>r=.tuple #[]∧OwnS w' base e 1 A3 v (ks.mergeSort fun x y=>decide (x≤y))∧Grew base w w':=by
 have h0:=h
 obtain⟨h1,⟨rfl,hn⟩|⟨g,cap,cur,rfl,hg,hb,h2,h3,h4,h5⟩⟩:=h
 · have hks:ks=[]:=dl hn
   subst hks
   refine Calls.mono (Tryz.slices_Sort_int_none none 0 w) ?_
   rintro e' w' ⟨rfl,rfl⟩
   exact⟨_,rfl,rfl,by simpa using h0,⟨rfl,rfl,rfl,bl _,fun _ _ _=>rfl,fun _ _ h _=>h⟩⟩
 rw[Pc]at h5
 have hl:g<w.heap.size:=lt_of_block hb
 refine Calls.mono (Tryz.slices_Sort_int g 0 cap ks w (holds_of_blockI hb (by simpa using h5)) hl hlen) ?_
 rintro e' w' ⟨rfl,n,os,rfl⟩
 have hg2:=Go.grownBy_sortedI (w:=w) (g:=g) (n:=n) (os:=os) (ks.mergeSort fun x y=>decide (x≤y)).toArray
 have ho:=Go.ownsRow_sortedI (w:=w) (n:=n) (os:=os) (ss:=ks) (ts:=ks.mergeSort fun x y=>decide (x≤y)) (by simp) hg hb h2 h3 h4
 refine⟨_,rfl,rfl,?_,⟨hg2.os,hg2.tape,hg2.output,hg2.size,fun i hi hi2=>hg2.block i hi (fun e=>by cases e;omega),fun i o hi ho=>(hg2.block i (lt_of_block hi) (fun e=>by cases e;rw[hb]at hi;cases hi;cases ho)).trans hi⟩⟩
 show World.ownsRow _ _ _ _ _ _ _
 rw[Pc,List.length_mergeSort]
 exact ho
theorem aT(g:Nat)(lb:Array Go.Value)(S Sp:List Int→Prop)(N:Nat)(w:World)(en:∀args w,(callFunc g args).run Tryz.prog w=.ok (.enter g args) w)(hit:∀W(X:Nat→Prop),Up w W→(∀i,X i→w.heap.size≤i)→IterS Tryz.prog g lb A3 X (fun _=>False) S Sp N W)(hN0:N≤1000000000):Ret prog 263 #[.func (.func g) #[] lb] w fun r w'=>∃ks,S ks∧OwnS w' w.heap.size 3 1 A3 r ks∧Up w w':=by
 have hW:=Up.refl w
 refine cT 5 func263 rfl (Af (Az (An (Aa (I rfl (A4 (eC (.cons (.const _) (.cu rfl)) (GN)) rfl (Va _ _ _ _ _ _ en hit hN0) ?_))))))
 rintro _ w1 ⟨ks,hS,hO,uw1⟩
 replace hW:=hW.up uw1
 refine LW.A rfl (Ah (Am (KW.q ?_)))
 exact⟨ks,hS,hO,hW⟩
theorem N8(g:Nat)(lb:Array Go.Value)(S Sp:List Int→Prop)(N:Nat)(w:World)(en:∀args w,(callFunc g args).run Tryz.prog w=.ok (.enter g args) w)(hit:∀W(X:Nat→Prop),Up w W→(∀i,X i→w.heap.size≤i)→IterS Tryz.prog g lb A3 X (fun _=>False) S Sp N W)(hN0:N≤1000000000)(hS0:∀ks,S ks→ks.length≤1000000000):Ret prog 230 #[.func (.func g) #[] lb] w fun r w'=>∃ks,S ks∧OwnS w' w.heap.size 3 1 A3 r (ks.mergeSort fun x y=>decide (x≤y))∧Up w w':=by
 have hW:=Up.refl w
 refine cT 9 func230 rfl (Af (Az (An (Aa (I rfl (A4 (eC (.o rfl) (GD)) rfl (aT _ _ _ _ _ _ en hit hN0) ?_))))))
 rintro v w1 ⟨ks,hS,hO,uw1⟩
 replace hW:=hW.up uw1
 refine LW.A rfl (An (Aa (I rfl (A4 (eC (.o rfl) (yY)) rfl (rO _ _ _ _ _ hO (by have:=hS0 ks hS;omega)) ?_))))
 rintro _ w2 ⟨rfl,hO2,uw2⟩
 replace hW:=hW.gr uw2 oQ
 replace hO:=hO2
 refine An (Aa (I rfl (LW.A rfl (Ah (Am (KW.q ?_))))))
 exact⟨ks,hS,hO,hW⟩
end Hs
theorem X4(b:Nat)(w:World):Ret prog 231 #[.map (some b)] w fun r w'=>(∃B,r=.func (.func 264) #[] #[.pointer (some ⟨B,0,none⟩)]∧Blk w' B #[.map (some b)] 274∧w.heap.size≤B)∧Up w w':=by
 have hW:=Up.refl w
 refine cT 4 func231 rfl (Af (Ap (.Pu (.t rfl) rfl) rfl ?_))
 rintro _ w1 ⟨B1,rfl,NB1⟩
 have eB1:=NB1.at_
 replace hW:=hW.up NB1.up
 have hB1:=NB1.blk
 refine Az (An (Aa (U (.makeFunc (.cu rfl)) (LW.A rfl (Ah (Am (KW.q ?_)))))))
 exact⟨⟨_,rfl,hB1,by omega⟩,hW⟩
theorem Vb(X Y:Nat→Prop)(B1 b:Nat)(kv:List (Int×Value))(w:World)(hYY:∀i,Y i→i<w.heap.size)(hQX:¬X B1)(hbY:¬Y b)(hQ0:Blk w B1 #[.map (some b)] 274)(hM0:IMap w b kv):
   IterS Tryz.prog 264 #[.pointer (some ⟨B1,0,none⟩)] A3 X Y (fun ys=>ys.Perm (kv.map (·.1))) (fun pre=>pre.Nodup∧∀k∈pre,k∈kv.map (·.1)) kv.length w:=by
 refine IterS.of ?_
 intro lp J Jx w0 hUw _ hY hJ
 obtain⟨Bd,hBd⟩:∃Bd,Bd=w0.heap.size:=⟨_,rfl⟩
 rw[←hBd]at hJ hY
 have zU:=hUw.size
 have hQ:=hQ0.up hUw
 have hM:=hM0.up hUw
 have zQ0:=hQ.lt
 refine cT 14 func264 rfl (Af (U (.lb rfl (hQ.Ad rfl)) (Ap (.range underlying274 (.t rfl) hM) rfl ?_)))
 rintro _ w1 ⟨r5,rfl,hR5,uw1,ew1,zw1⟩
 replace hQ:=hQ.up uw1
 replace hM:=hM.up uw1
 replace hJ:=hJ.up uw1
 refine Ah (Ak (CW.loop (σ:=List Int) (fun s w=>Jw Bd J s w∧Blk w B1 #[.map (some b)] 274∧IRng w b r5 kv s) (fun s=>[(0,.eq (.func (.yield lp) #[] #[])),(5,.eq (.pointer (some ⟨r5,0,none⟩)))]) (fun s=>kv.length-s.length) [] ?_ ?_ ?_))
 ·exact⟨hJ,hQ,hR5⟩
 ·exact tQ
 rintro done w2 ⟨hJ,hQ,hR5⟩
 have zQ:=hQ.lt
 refine Af (Ap (.next (.t rfl) hR5) rfl ?_)
 rintro _ w3 (⟨rfl,rfl,hPm⟩|⟨k,u,rfl,hNx⟩)
 ·skip
  refine U (.xt rfl rfl) (An (CW.f rfl (A8 (Ab (Ab (Aq (Dh rfl ⟨_,rfl,?_⟩)))))))
  exact .inl ⟨_,hPm,hJ.j⟩
 skip
 obtain⟨_,ho,hwk⟩:=hNx.walk
 replace hJ:=hJ.walk hNx.grown oQ ho hwk
 replace hQ:=hQ.sto hNx.sto oQ
 replace hR5:=hNx.rng
 have zw3:=hNx.size
 refine U (.xt rfl rfl) (An (CW.v rfl (Aj (Ac (Ak (Af (Ap (.entry (.t rfl) hNx.entry) rfl ?_)))))))
 rintro _ _ ⟨rfl,rfl⟩
 refine U (.xt rfl rfl) (LW.A rfl (An (Aa (I rfl (I rfl (LW.y (.t rfl) (.cu rfl) rfl rfl (hY done k _ hJ (by have:=hR5.length;simp at this;omega)) ?_))))))
 rintro _ w4 ⟨y,rfl,hcase⟩
 refine U (.n1 rfl) (Ah (CW.b rfl (fun h13=>?_) (fun h13=>?_)))
 ·have hy:y=false:=by simpa using h13
  subst hy
  obtain⟨_,hJx⟩:=hcase.resolve_left (by simp)
  refine Am (A7 (Ar (A7 (Gi rfl ⟨_,rfl,?_⟩))))
  exact .inr ⟨_,hR5.sub,hJx⟩
 have hy:y=true:=by simpa using h13
 subst hy
 obtain⟨_,hJ2,hN⟩:=hcase.resolve_right (by simp)
 replace hQ:=hQ.kx hN hQX
 replace hR5:=hR5.kx hN hbY (fun h=>by have:=hYY _ h;omega)
 refine Aj (Al (Av ?_))
 exact⟨done++[k],⟨hJ2,hQ,hR5⟩,tQ,by have:=hR5.length;simp at this⊢;omega⟩
theorem mE(bc:Array Go.Value)(b:Base)(a:GAct)(w:World)(hC:BaseC w bc b)(hH:b.Holds.length≤1000000000)(hR:b.Releases.length<9223372036854775807)(hL:b.Lots.length<9223372036854775807):Ret prog 179 #[.agg bc,.agg a.cells] w fun r w'=>OwnS w' w.heap.size 3 1 A3 r (I7 b a)∧Up w w':=by
 have hW:=Up.refl w
 obtain⟨w0,rfl,_⟩:=W0 w
 refine Ff (n:=28) func179 rfl rfl rfl ?_
 refine Af ?_
 refine Ap (.bA rfl) rfl ?_
 rintro _ w1 ⟨B2,rfl,NB2⟩
 have eB2:=NB2.at_
 have zB2:=NB2.size
 replace hC:=hC.up NB2.up
 replace hW:=hW.up NB2.up
 have hB2:=NB2.blk
 refine Ap (.bA rfl) rfl ?_
 rintro _ w2 ⟨B3,rfl,NB3⟩
 have eB3:=NB3.at_
 have zB3:=NB3.size
 replace hC:=hC.up NB3.up
 replace hW:=hW.up NB3.up
 replace hB2:=hB2.up NB3.up
 have hB3:=NB3.blk
 refine Az (An ?_)
 have hU1:=Up.refl w2
 have hBs:=hB2
 have hCs:=hC
 refine Aa ?_
 refine LW.r REv.makeMap rfl rfl rfl rfl ?_
 rintro _ w3 ⟨B7,rfl,MB7,uB7,eB7,zB7⟩
 replace hW:=hW.up uB7
 replace hB3:=hB3.up uB7
 replace hU1:=hU1.up uB7
 have hM7:=MB7
 refine Ap (.Gl zeroValue274 rfl) rfl ?_
 rintro _ w4 ⟨B5,rfl,MB5⟩
 refine Cd (.store sizeOf274 (.t rfl) (.t rfl) rfl MB5.blk cQ) ?_
 intro w5 LB5
 have NB5:=MB5.set LB5
 clear LB5 MB5
 have eB5:=NB5.at_
 have zB5:=NB5.size
 replace hW:=hW.up NB5.up
 replace hB3:=hB3.up NB5.up
 replace hU1:=hU1.up NB5.up
 replace hM7:=hM7.up NB5.up
 have hB5:=NB5.blk
 refine An (Af ?_)
 refine A4 (eC (.o rfl) (FP)) rfl (vX _ _) ?_
 rintro _ w6 ⟨⟨BA,rfl,hA,zA⟩,uw6⟩
 have zw6:=uw6.size
 replace hW:=hW.up uw6
 replace hB3:=hB3.up uw6
 replace hU1:=hU1.up uw6
 replace hM7:=hM7.up uw6
 replace hB5:=hB5.up uw6
 refine Ah (Ak ?_)
 obtain⟨bq,hbq⟩:∃bq,bq=w6.heap.size:=⟨_,rfl⟩
 refine CW.rangeFunc (fun _=>False) (fun i=>i=B7) (fun pre W=>Sz bq W∧Blk W B3 a.cells 89∧Blk W B5 #[.map (some B7)] 274∧IMap W B7 ((Ha b a pre).map Nn)∧Up w2 W∧Up w0 W) (fun c pre W=>Sz bq W∧False) (fun x a' W=>∃BX,Ag 28 [] ([(6,.eq (.pointer (some ⟨BX,0,none⟩))),(3,.eq (.pointer (some ⟨B3,0,none⟩))),(5,.eq (.pointer (some ⟨B5,0,none⟩))),(2,.eq (.pointer (some ⟨B2,0,none⟩)))]) a' W∧bq≤BX∧Blk W BX (Gc x ⟨B2,0,none⟩) 279) (.t rfl) (fun args w=>GB args w) (rN _ _ _ _ _ _ _ _ hU1 (fun _ h=>h.elim) (fun i h=>by omega) (fun h=>h.elim) hA hBs hCs oQ) (fun _=>rfl) rfl ?_ ?_ ?_ ?_ ?_ ?_ ?_ ?_
 ·rw[←hbq]
  intro pre W W' row hs hg hr
  obtain⟨hZ,hB3,hB5,hM7,hU1,hW⟩:=hs
  exact⟨hZ.ko (Ko.grown hg hr),hB3.ko (Ko.grown hg hr),hB5.ko (Ko.grown hg hr),hM7.ko (Ko.grown hg hr) oQ,hU1.ko (Ko.grown hg hr) oQ,hW.ko (Ko.grown hg hr) oQ⟩
 ·rw[←hbq]
  intro c pre W W' row hs hg hr
  obtain⟨hZ,hF⟩:=hs
  exact⟨hZ.ko (Ko.grown hg hr),hF⟩
 ·rw[←hbq]
  intro x a' u W W' row hs hg hr
  obtain⟨BX,ha,hBX,hBX6⟩:=hs
  exact⟨BX,ha.world rfl _,hBX,hBX6.ko (Ko.grown hg hr)⟩
 ·exact⟨fm hbq,hB3,hB5,hM7,hU1,hW⟩
 ·rw[←hbq]
  intro lp pre x w7 K hs hk a ha
  obtain⟨hZ,hB3,hB5,hM7,hU1,hW⟩:=hs
  have zq:=hZ.le
  have hK:=Kf.refl bq w7
  have hN:=Kx.refl bq (fun _=>False) (fun i=>i=B7) w7
  revert a
  refine Ht (p:=9) rfl ?_
  refine Aa ?_
  refine Ap (.Cb zeroValue279) rfl ?_
  rintro _ w8 ⟨B6,rfl,MB6⟩
  refine Cd (.Cc sizeOf279 rfl (.t rfl) (.t rfl) eQ MB6.blk rfl) ?_
  intro w9 LB6
  have NB6:=MB6.set LB6
  clear LB6 MB6
  have eB6:=NB6.at_
  have zB6:=NB6.size
  replace hZ:=hZ.up NB6.up
  replace hB3:=hB3.up NB6.up
  replace hB5:=hB5.up NB6.up
  replace hM7:=hM7.up NB6.up
  replace hU1:=hU1.up NB6.up
  replace hW:=hW.up NB6.up
  replace hK:=hK.up NB6.up
  replace hN:=hN.up NB6.up
  have hB6:=NB6.blk
  refine LW.nil ?_
  exact fun a ha=>hk a _ hK hN ⟨hZ,hB3,hB5,hM7,hU1,hW⟩ ⟨_,ha.sub tQ,by omega,hB6⟩
 ·rw[←hbq]
  intro lp pre x a' w10 hs hx hlt
  obtain⟨hZ,hB3,hB5,hM7,hU1,hW⟩:=hs
  obtain⟨BX,ha,hBX,hBX6⟩:=hx
  have zq:=hZ.le
  have hK:=Kf.refl bq w10
  have hN:=Kx.refl bq (fun _=>False) (fun i=>i=B7) w10
  refine(show CW (some lp) 8 _ 28 [] _ (ownPostG bq (Kx bq (fun _=>False) (fun i=>i=B7)) _ _ (pre++[x]) w10) ([(6,.eq (.pointer (some ⟨BX,0,none⟩))),(3,.eq (.pointer (some ⟨B3,0,none⟩))),(5,.eq (.pointer (some ⟨B5,0,none⟩))),(2,.eq (.pointer (some ⟨B2,0,none⟩)))]) w10 from ?_) a' ha
  refine Ak (Ai ?_)
  cases hq4:Tq x b.Lots a with
  |false=>
   refine Aa ?_
   refine U (.lc rfl (hBX6.agg)) ?_
   refine U (.lc rfl (hB3.agg)) ?_
   refine A4 (eC (.u rfl rfl) (xW)) rfl (Wd _ _ _ _ _ _ (hBs.up hU1) (hCs.up hU1) hL) ?_
   rintro _ w11 ⟨rfl,uw11⟩
   have zw11:=uw11.size
   replace hZ:=hZ.up uw11
   replace hB3:=hB3.up uw11
   replace hB5:=hB5.up uw11
   replace hM7:=hM7.up uw11
   replace hU1:=hU1.up uw11
   replace hW:=hW.up uw11
   replace hBX6:=hBX6.up uw11
   replace hK:=hK.up uw11
   replace hN:=hN.up uw11
   rw[hq4]
   refine I rfl ?_
   refine Bh ?_
   refine Bh ?_
   refine Bh ?_
   refine Bh ?_
   refine Bh ?_
   refine U (.Cv (b:=false) (.t rfl) (fun hp=>absurd (show false=true from hp) cQ)) ?_
   refine Ah ?_
   refine CW.b rfl (fun h19=>?_) (fun h19=>?_)
   ·replace h19:=dQ h19
    cases h19
   replace h19:=dQ h19
   have hk:Ha b a (pre++[x])=Ha b a pre:=by rw[Ml];exact aq (by simp[jA,hq4])
   refine Aj (Al ?_)
   exact fun a ha=>⟨hK,hN,hZ,hB3,hB5,by rw[hk];exact hM7,hU1,hW⟩
  |true=>
   refine Aa ?_
   refine U (.lc rfl (hBX6.agg)) ?_
   refine U (.lc rfl (hB3.agg)) ?_
   refine A4 (eC (.u rfl rfl) (xW)) rfl (Wd _ _ _ _ _ _ (hBs.up hU1) (hCs.up hU1) hL) ?_
   rintro _ w12 ⟨rfl,uw12⟩
   have zw12:=uw12.size
   replace hZ:=hZ.up uw12
   replace hB3:=hB3.up uw12
   replace hB5:=hB5.up uw12
   replace hM7:=hM7.up uw12
   replace hU1:=hU1.up uw12
   replace hW:=hW.up uw12
   replace hBX6:=hBX6.up uw12
   replace hK:=hK.up uw12
   replace hN:=hN.up uw12
   rw[hq4]
   refine I rfl ?_
   refine Au ?_
   refine U (.lc rfl (hBX6.agg)) ?_
   refine Au ?_
   refine U (.fB 6 rfl) ?_
   refine Au ?_
   refine U (.lb rfl (hB3.Ad rfl)) ?_
   refine Au ?_
   refine A4 (eC (.u rfl rfl) (FQ)) rfl (fJ _ _ _ _ _ _ (hBs.up hU1) (hCs.up hU1) hR) ?_
   rintro _ w13 ⟨rfl,uw13⟩
   have zw13:=uw13.size
   replace hZ:=hZ.up uw13
   replace hB3:=hB3.up uw13
   replace hB5:=hB5.up uw13
   replace hM7:=hM7.up uw13
   replace hU1:=hU1.up uw13
   replace hW:=hW.up uw13
   replace hBX6:=hBX6.up uw13
   replace hK:=hK.up uw13
   replace hN:=hN.up uw13
   refine Au ?_
   refine U (.n1 rfl) ?_
   refine U (.pa rfl (fun hp=>(by first|exact .const _|exact .tmp rfl|exact .cond rfl (by first|assumption|simp_all)))) ?_
   refine Ah ?_
   refine CW.b rfl (fun h19=>?_) (fun h19=>?_)
   ·replace h19:=dQ h19
    have hk:Ha b a (pre++[x])=Qg (Ha b a pre) x.ID:=by rw[Ml];exact bh (by simpa[jA,hq4]using h19)
    refine Aa ?_
    refine U (.lb rfl (hB5.Ad rfl)) ?_
    refine U (.fB 0 rfl) ?_
    refine U (.fB 1 rfl) ?_
    refine U (.lb rfl (hBX6.Ad rfl)) ?_
    refine U (.build (cs:=#[]) underlying281 zeroValue281 Se .nil rfl) ?_
    refine Cd (.mapUpdate underlying274 li (.t rfl) (.t rfl) (.t rfl) hM7) ?_
    rintro w14 ⟨Mw14,Kw14,zw14⟩
    replace hZ:=hZ.sto Kw14 oQ
    replace hB3:=hB3.sto Kw14 oQ
    replace hB5:=hB5.sto Kw14 oQ
    replace hU1:=hU1.sto Kw14 oQ
    replace hW:=hW.sto Kw14 oQ
    replace hBX6:=hBX6.sto Kw14 oQ
    replace hK:=hK.sto Kw14 (.inl oQ)
    replace hN:=hN.IA Kw14 (hM7.obj) (by first|exact .inr oQ|exact .inl rfl|exact .inl (by show _≤_;omega))
    replace hM7:=Mw14
    refine LW.nil ?_
    rw[mC]at hM7
    refine Al ?_
    exact fun a ha=>⟨hK,hN,hZ,hB3,hB5,by rw[hk];exact hM7,hU1,hW⟩
   replace h19:=dQ h19
   have hk:Ha b a (pre++[x])=Ha b a pre:=by rw[Ml];exact aq (by simpa[jA,hq4]using h19)
   refine Aj (Al ?_)
   exact fun a ha=>⟨hK,hN,hZ,hB3,hB5,by rw[hk];exact hM7,hU1,hW⟩
 ·intro D ys w15 hDb hS hs hD
  rw[←hbq]at hDb
  obtain⟨hZ,hB3,hB5,hM7,hU1,hW⟩:=hs
  replace hD:Ob w15 D (.deferred (some [])):=hD
  have zD:=hD.lt
  have zq:=hZ.le
  subst hS
  refine Al (Ac (Ai ?_))
  have hKl:=U8 b a (b.Holds.filter I5)
  have hFl:=ef I5 b.Holds
  have zBA:=hB5.lt
  refine Aa ?_
  refine U (.lb rfl (hB5.Ad rfl)) ?_
  refine A4 (eC (.o rfl) (FU)) rfl (X4 _ _) ?_
  rintro _ w16 ⟨⟨BK,rfl,hBK,zK⟩,uw16⟩
  have zw16:=uw16.size
  replace hZ:=hZ.up uw16
  replace hB3:=hB3.up uw16
  replace hB5:=hB5.up uw16
  replace hM7:=hM7.up uw16
  replace hU1:=hU1.up uw16
  replace hW:=hW.up uw16
  replace hD:=hD.up uw16
  have zBK:=hBK.lt
  refine A4 (eC (.o rfl) (FT)) rfl (Hs.N8 _ _ _ _ _ _ GF (fun W X u hX=>Vb X _ BK B7 _ W (fun i h=>h.elim) (fun h=>by have:=hX _ h;omega) (fun h=>h.elim) (hBK.up u) (hM7.up u)) (by rw[dv];omega) (fun ks h=>by have:=h.length_eq;rw[Tv]at this;omega)) ?_
  rintro v w17 ⟨ks,hS,hO,uw17⟩
  have zw17:=uw17.size
  replace hZ:=hZ.up uw17
  replace hB3:=hB3.up uw17
  replace hB5:=hB5.up uw17
  replace hM7:=hM7.up uw17
  replace hU1:=hU1.up uw17
  replace hW:=hW.up uw17
  replace hD:=hD.up uw17
  replace hBK:=hBK.up uw17
  refine LW.A rfl (Ah (Am ?_))
  refine Mq hD rfl ?_
  replace hZ:=hZ.ko (Ko.putObj (.deferred none) hD rfl hDb)
  replace hB3:=hB3.ko (Ko.putObj (.deferred none) hD rfl hDb)
  replace hB5:=hB5.ko (Ko.putObj (.deferred none) hD rfl hDb)
  replace hM7:=hM7.ko (Ko.putObj (.deferred none) hD rfl hDb) oQ
  replace hU1:=hU1.ko (Ko.putObj (.deferred none) hD rfl hDb) oQ
  replace hW:=hW.putObj (D:=D) (.deferred none) oQ
  replace hBK:=hBK.ko (Ko.putObj (.deferred none) hD rfl hDb)
  replace hO:=hO.ko (Ko.putObj (.deferred none) hD rfl hDb)
  refine KW.q ?_
  have hp:ks.Perm (Ha b a (b.Holds.filter I5)):=by rw[Tv]at hS;exact hS
  rw[mB hp]at hO
  exact⟨hO.mono oQ,hW⟩
 intro D c pre w18 hDb hpre hs hD
 rw[←hbq]at hDb
 obtain⟨hZ,hF⟩:=hs
 replace hD:Ob w18 D (.deferred (some [])):=hD
 have zD:=hD.lt
 have zq:=hZ.le
 exact hF.elim
theorem fL(cf:Nat)(lb:Array Go.Value)(p:Int→Bool)(hen:∀args w,(callFunc cf args).run Tryz.prog w=.ok (.enter cf args) w)(ad:Option Addr)(cp:Nat)(l:List Int)(w:World)(hE0:Els w ad 1 A3 l)(hl:l.length≤1000000000)(hp:∀W,Up w W→∀x∈l,Ret Tryz.prog cf (#[vi x]++lb) W fun r W'=>r=.bool (p x)∧Up W W'):Ret prog 255 #[.slice ad l.length cp,.func (.func cf) #[] lb] w fun r w'=>∃i,r=vi i∧KK p l i∧Up w w':=by
 have hW:=Up.refl w
 obtain⟨w0,rfl,_⟩:=W0 w
 refine cT 19 func255 rfl ?_
 refine Af (Az (An (Af (I rfl ?_))))
 refine U (.Ck k_ (.t rfl)) ?_
 refine U (.move (.const _)) ?_
 refine Ah (Ak ?_)
 refine A6 (σ:=Nat) (fun s w=>(s≤l.length)∧(∀y∈l.take s,p y=false)∧(Up w0 w)) (fun s=>[(8,.eq (vi (s:Int)))]) ([(0,.eq _),(1,.eq _),(7,.eq _)]) (fun s=>l.length-s) 0 ?_ tQ ?_
 ·exact⟨a8 _,by simp,hW⟩
 rintro k w1 ⟨hk,hn,hW⟩
 refine Af ?_
 refine U (.l2 rfl rfl) ?_
 refine An ?_
 refine CW.b rfl (fun h9=>?_) (fun h9=>?_)
 ·replace h9:=dQ h9
  refine Aj (Ac (Ai (Ak (Af (I rfl (LW.A rfl (An ?_)))))))
  have hE:=Els.up hE0 hW
  refine Aa (I rfl (I rfl (I rfl ?_)))
  obtain⟨x,hx⟩:=Ae (xs:=l) (i:=k) oQ
  obtain⟨Bx,ox,ax,hcx⟩:=hE _ x hx
  refine U (.Ao k_ lg (.t rfl) (.t rfl) oQ ax) ?_
  refine U (.lb rfl (hcx.nth (j:=0) rfl)) ?_
  refine A4 (Cu (.t rfl) (.cu rfl) (hen)) rfl (hp _ hW x (ai hx)) ?_
  rintro _ w2 ⟨rfl,uw2⟩
  have zw2:=uw2.size
  replace hW:=hW.up uw2
  replace hcx:=hcx.up uw2
  refine Ah ?_
  refine CW.b rfl (fun h16=>?_) (fun h16=>?_)
  ·replace h16:=dQ h16
   refine Af (I rfl (LW.A rfl (Ah (Am (A7 (Ar (Ar (A7 (Ar ?_)))))))))
   refine KW.q ?_
   first|exact⟨_,rfl,.inl ⟨k,x,rfl,hx,by simpa using h16,hn⟩,hW⟩|exact⟨-1,rfl,.inr ⟨rfl,by rw[show k=l.length by omega,b8]at hn;exact hn⟩,hW⟩
  replace h16:=dQ h16
  refine Aj (Al (Ac (Aa ?_)))
  refine U (.ic rfl oQ) ?_
  refine I rfl (LW.nil (Av ?_))
  exact⟨k+1,⟨by omega,fK hx hn (by simpa using h16),hW⟩,tQ,by first|omega|(dsimp only;omega)⟩
 replace h9:=dQ h9
 refine A8 (Ab (Ab (Aq (Ac (Af (Az (Ah (Am ?_))))))))
 refine KW.q ?_
 first|exact⟨_,rfl,.inl ⟨k,x,rfl,hx,by simpa using h16,hn⟩,hW⟩|exact⟨-1,rfl,.inr ⟨rfl,by rw[show k=l.length by omega,b8]at hn;exact hn⟩,hW⟩
theorem aU(cf:Nat)(lb:Array Go.Value)(p:Int→Bool)(hen:∀args w,(callFunc cf args).run Tryz.prog w=.ok (.enter cf args) w)(ad:Option Addr)(cp:Nat)(l:List Int)(w:World)(ho:OwnS w 0 3 1 A3 (.slice ad l.length cp) l)(hl:l.length≤1000000000)(hp:∀W,Fr (Aw 3 1 A3 (.slice ad l.length cp) (l)).foot w W→∀x∈l,Ret Tryz.prog cf (#[vi x]++lb) W fun r W'=>r=.bool (p x)∧Up W W'):Ret prog 219 #[.slice ad l.length cp,.func (.func cf) #[] lb] w fun r w'=>Stp (Aw 3 1 A3 (.slice ad l.length cp) (l)) (Aw 3 1 A3 (r) (l.filter fun x=> !p x)) w w':=by
 obtain⟨w0,rfl,_⟩:=W0 w
 have hS:Wx.Sep (Aw 3 1 A3 (.slice ad l.length cp) (l)).foot w0 w0 [Aw 3 1 A3 (.slice ad l.length cp) (l)]:=Sep.cons ho (fun _ h=>h) (Sep.start _ _) (by simp)
 refine cT 42 func219 rfl ?_
 refine Af (Az (An (Aa (I rfl (I rfl ?_)))))
 refine A4 (eC (.u rfl rfl) (yA)) rfl (fL cf lb p hen ad cp l _ ((hS.own 0 rfl).els (fun _=>rfl)) hl (fun W u x hx=>hp W (hS.fr.trans (u.fr _)) x hx)) ?_
 rintro _ w1 ⟨i,rfl,hi,uw1⟩
 have zw1:=uw1.size
 replace hS:=hS.up uw1
 refine LW.A rfl (An (Af (I rfl ?_)))
 refine U (.eql (.t rfl) (.const _)) ?_
 refine Ah ?_
 refine CW.b rfl (fun h12=>?_) (fun h12=>?_)
 ·replace h12:=dQ h12
  have hn:=(hi.resolve_left (fun⟨k,x,e,_⟩=>by omega)).2
  refine Af (I rfl (LW.A rfl (Ah (Am (Ar ?_)))))
  refine KW.q ?_
  first|exact⟨hS.fr,by rw[Ty hn];exact hS.get 0 rfl,fun _ h=>.inl h⟩|exact⟨hS.fr,by rw[←Wf,←hjl,←hD.kept,←hi2];exact hS.get 0 rfl,fun _ h=>.inl h⟩
 replace h12:=dQ h12
 refine Aj (Ac (Ai (Ai ?_)))
 obtain⟨k,x,rfl,hx,hpx,hn⟩:=hi.resolve_right (fun⟨e,_⟩=>h12 e)
 have hkl:=(am.1 hx).1
 obtain⟨g,rfl⟩:=(hS.own 0 rfl).HT oQ
 have hD0:=DelI.start hx hpx hn
 have hk0:k=(Ir p l (k+1)).length:=by rw[Ra hx hpx hn,cc];omega
 refine Aa (I rfl ?_)
 refine U (.ic rfl oQ) ?_
 refine LW.A rfl (Ah (Ak ?_))
 refine A6 (σ:=Nat×Nat×List Int) (fun s w=>(s.1≤l.length)∧(s.2.1=(Ir p l s.1).length)∧(DelI p l s.2.2 s.1)∧(Wx.Sep (Aw 3 1 A3 (.slice (some ⟨g,0,none⟩) l.length cp) l).foot w0 w [Aw 3 1 A3 (.slice (some ⟨g,0,none⟩) l.length cp) s.2.2])) (fun s=>[(6,.eq (vi (s.1:Int))),(5,.eq (vi (s.2.1:Int)))]) ([(0,.eq _),(1,.eq _),(4,.eq _)]) (fun s=>l.length-s.1) (k+1,k,l) ?_ tQ ?_
 ·exact⟨by show k+1≤_;omega,hk0,hD0,hS⟩
 rintro⟨j,i,M⟩ w2 ⟨hj,hi2,hD,hS⟩
 dsimp only at hj hi2 hD hS
 change CW _ _ _ _ _ _ _ ([(6,.eq (vi (j:Int))),(5,.eq (vi (i:Int)))]++_) _
 refine Ai (Af (I rfl (I rfl ?_)))
 refine U (.Ck k_ (.t rfl)) ?_
 refine U (.l2 rfl rfl) ?_
 refine Ah ?_
 refine CW.b rfl (fun h19=>?_) (fun h19=>?_)
 ·replace h19:=dQ h19
  refine Aj (Ac (Ai (Ak (Ai ?_))))
  have hjl:j<l.length:=by omega
  obtain⟨x,hx⟩:=Ae (xs:=l) (i:=j) hjl
  have hxM:=(hD.rest j (bl _)).trans hx
  obtain⟨Bx,ox,ax,hcx⟩:=((hS.own 0 rfl).els (fun _=>rfl)) j x hxM
  cases ax
  refine Aa (I rfl (I rfl ?_))
  refine U (.Ao k_ lg (.t rfl) (.t rfl) oQ rfl) ?_
  refine U (.lb rfl (hcx.nth (j:=0) rfl)) ?_
  refine LW.A rfl (An (Aa (I rfl (I rfl ?_))))
  refine A4 (Cu (.t rfl) (.cu rfl) (hen)) rfl (hp _ hS.fr x (ai hx)) ?_
  rintro _ w3 ⟨rfl,uw3⟩
  have zw3:=uw3.size
  replace hS:=hS.up uw3
  refine U (.n1 rfl) ?_
  refine Ah ?_
  refine CW.b rfl (fun h29=>?_) (fun h29=>?_)
  ·replace h29:=dQ h29
   refine Ai ?_
   have hkj:=Qi p l j
   have hMl:=hD.len
   obtain⟨y,hy⟩:=Ae (xs:=M) (i:=i) oQ
   have hpn:p x=false:=by simpa using h29
   have hky:=We hx hpn
   refine Aa (I rfl (I rfl (I rfl ?_)))
   refine U (.Ao k_ lg (.t rfl) (.t rfl) oQ rfl) ?_
   refine Cd (.I9 (enc:=A3) (k:=1) (z:=x) (i:=i) (j:=0) lg (fun _=>rfl) rfl (.t rfl) (.t rfl) (hS.own 0 rfl) hy cQ rfl) ?_
   intro w4 Gw4
   have zw4:=Gw4.fr.size
   replace hS:=hS.Fs 0 rfl Gw4
   change Wx.Sep _ _ _ [_]at hS
   refine Ah (Aa (I rfl ?_))
   refine U (.ic rfl oQ) ?_
   refine LW.A rfl (LW.nil (Al (Ac (Aa (I rfl ?_)))))
   refine U (.ic rfl oQ) ?_
   refine LW.A rfl (LW.nil (Av ?_))
   first|exact⟨(j+1,i+1,M.set i x),⟨by show j+1≤_;omega,by show i+1=_;rw[hky,hi2];simp,by show DelI p l (M.set i x) (j+1);rw[hi2];exact hD.yes hx hpn,hS⟩,tQ,by show l.length-(j+1)<l.length-j;omega⟩|exact⟨(j+1,i,M),⟨by show j+1≤_;omega,by show i=_;rw[Tw hx (by simpa using h29)];exact hi2,hD.no hx (by simpa using h29),hS⟩,tQ,by show l.length-(j+1)<l.length-j;omega⟩
  replace h29:=dQ h29
  refine Aj (Al (Ac (Aa (I rfl ?_))))
  refine U (.ic rfl oQ) ?_
  refine LW.A rfl (LW.nil (Av ?_))
  first|exact⟨(j+1,i+1,M.set i x),⟨by show j+1≤_;omega,by show i+1=_;rw[hky,hi2];simp,by show DelI p l (M.set i x) (j+1);rw[hi2];exact hD.yes hx hpn,hS⟩,tQ,by show l.length-(j+1)<l.length-j;omega⟩|exact⟨(j+1,i,M),⟨by show j+1≤_;omega,by show i=_;rw[Tw hx (by simpa using h29)];exact hi2,hD.no hx (by simpa using h29),hS⟩,tQ,by show l.length-(j+1)<l.length-j;omega⟩
 replace h19:=dQ h19
 refine A8 (Ab (Ab (Aq (Ac (Ai ?_)))))
 have hjl:j=l.length:=by omega
 have hkj:=Qi p l j
 have hMl:=hD.len
 have hcl:=(hS.own 0 rfl).LO
 refine Aa (I rfl (I rfl ?_))
 refine U (.sliceFrom k_ lg (.t rfl) (.t rfl) oQ) ?_
 refine GQ (U9 (enc:=A3) (k:=1) k_ lq rfl (by simp[Value.cells,Value.oneCell']) (fun _=>rfl) (xs:=M) (i:=i) (by rw[hD.len];exact .tmp rfl) oQ (by rw[hD.len];exact hS.own 0 rfl)) rfl rfl rfl ?_
 intro v_ w5 Gw5
 rw[hD.len]at Gw5
 have zw5:=Gw5.fr.size
 replace hS:=hS.Fs 0 rfl Gw5
 change Wx.Sep _ _ _ [_]at hS
 refine An (Aa (I rfl (I rfl ?_)))
 refine U (.Ow k_ lg (.t rfl) (.t rfl) oQ) ?_
 refine LW.A rfl (Ah (Am ?_))
 refine KW.q ?_
 first|exact⟨hS.fr,by rw[Ty hn];exact hS.get 0 rfl,fun _ h=>.inl h⟩|exact⟨hS.fr,by rw[←Wf,←hjl,←hD.kept,←hi2];exact hS.get 0 rfl,fun _ h=>.inl h⟩
end Go.Proofs.YtnpgbbaniknpkaaGreatDoor
