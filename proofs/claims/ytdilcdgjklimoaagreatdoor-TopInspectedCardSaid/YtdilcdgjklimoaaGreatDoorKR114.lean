import Derived.Test.YtdilcdgjklimoaaGreatDoorKR113
import Derived.Sort.OwnSortedInts
namespace Go.Wx
theorem N7(ks:List Int):ks.flatMap (fun x=>(A5 x).toList)=ks.map vi:=by
 induction ks with
 |nil=>rfl
 |cons k ks ih=>rw[List.flatMap_cons,ih];rfl
theorem O7{a b:List Int}(h:a.Perm b):(a.mergeSort fun x y=>decide (x≤y))=b.mergeSort fun x y=>decide (x≤y):=
 List.Perm.eq_of_pairwise (le:=fun x y=>decide (x≤y)=true) (fun x y _ _ h1 h2=>by have h3:=of_decide_eq_true h1;have h4:=of_decide_eq_true h2;omega)
   (List.pairwise_mergeSort (fun a b c h1 h2=>by have h3:=of_decide_eq_true h1;have h4:=of_decide_eq_true h2;exact decide_eq_true oQ) (fun a b=>by simp;omega) a)
   (List.pairwise_mergeSort (fun a b c h1 h2=>by have h3:=of_decide_eq_true h1;have h4:=of_decide_eq_true h2;exact decide_eq_true oQ) (fun a b=>by simp;omega) b)
   ((List.mergeSort_perm a _).trans (h.trans (List.mergeSort_perm b _).symm))
def Fj(k:Int):Int×Go.Value:=(k,.bool true)
def Lf(ks:List Int)(k:Int):List Int:=if k∈ks then ks else ks++[k]
def F3(ks:List Int):List Int:=ks.mergeSort fun x y=>decide (x≤y)
theorem Kc(ks:List Int):(ks.map Fj).map (·.1)=ks:=by simp[List.map_map,Function.comp_def,Fj]
theorem Se(ks:List Int)(k:Int):D8 (ks.map Fj) k (.bool true)=(Lf ks k).map Fj:=by
 unfold D8 Lf
 rw[Kc]
 by_cases h:k∈ks
 · rw[if_pos h,if_pos h,List.map_map]
   refine List.map_congr_left fun x _=>?_
   show(if x=k then(k,Go.Value.bool true)else Fj x)=Fj x
   by_cases hx:x=k
   · subst hx;rw[if_pos rfl];rfl
   rw[if_neg hx]
 rw[if_neg h,if_neg h];simp[Fj]
theorem Zb(ks:List Int)(k:Int):(Lf ks k).length≤ks.length+1:=by unfold Lf;split<;>simp
theorem pC{ks:List Int}{k x:Int}:x∈Lf ks k↔x∈ks∨x=k:=by
 unfold Lf
 split
 · exact⟨.inl,fun h=>h.elim id (fun e=>by rw[e];assumption)⟩
 rw[List.mem_append,List.mem_singleton]
theorem kA{ks:List Int}{k:Int}{u:Go.Value}(h:(k,u)∈ks.map Fj):k∈ks∧u=.bool true:=by
 obtain⟨x,hx,e⟩:=List.mem_map.1 h
 cases e
 exact⟨hx,rfl⟩
theorem Lg{α:Type}(g:List Int→α→List Int)(hg:∀ks x,(g ks x).length≤ks.length+1):∀(l:List α)(ks:List Int),(l.foldl g ks).length≤ks.length+l.length
 |[],_=>Nat.le_refl _
 |x::l,ks=>by
   rw[List.foldl_cons,List.length_cons]
   have h1:=Lg g hg l (g ks x)
   have h2:=hg ks x
   omega
def Qb(l:List Fact):List Int:=l.foldl (fun ks f=>Lf ks f.Wafer) []
def Zc(ss:List Fact)(ks:List Int)(l:List Fact):List Int:=l.foldl (fun ks f=>Lf ks (Me ss f.Time f.Wafer)) ks
def Cv(lots ps ss:List Fact):List Int:=F3 ((Zc ss (Qb lots) ps).filter Ei)
theorem kB{l:List Fact}{k:Nat}{x:Fact}(hx:l[k]?=some x):Qb (l.take (k+1))=Lf (Qb (l.take k)) x.Wafer:=by rw[Ce hx];unfold Qb;rw[List.foldl_append];rfl
theorem kC{ss l:List Fact}{ks:List Int}{k:Nat}{x:Fact}(hx:l[k]?=some x):Zc ss ks (l.take (k+1))=Lf (Zc ss ks (l.take k)) (Me ss x.Time x.Wafer):=by rw[Ce hx];unfold Zc;rw[List.foldl_append];rfl
theorem Zd(l:List Fact):(Qb l).length≤l.length:=by have:=Lg (fun ks(f:Fact)=>Lf ks f.Wafer) (fun _ _=>Zb _ _) l [];simpa[Qb]using this
theorem Ze(ss:List Fact)(ks:List Int)(l:List Fact):(Zc ss ks l).length≤ks.length+l.length:=Lg (fun ks(f:Fact)=>Lf ks (Me ss f.Time f.Wafer)) (fun _ _=>Zb _ _) l ks
def Qc(ks V:List Int):List Int:=ks.filter fun k=>Ei k|| !decide (k∈V)
theorem pD(ks:List Int):Qc ks []=ks:=List.filter_eq_self.2 fun k _=>by simp
theorem pE(ks V:List Int){k:Int}(h:Ei k=true):Qc ks (V++[k])=Qc ks V:=by
 refine List.filter_congr fun x _=>?_
 by_cases e:x=k
 · rw[e,h];rfl
 simp[e]
theorem uA(ks V:List Int){k:Int}(h:Ei k=false):(Qc ks (V++[k])).map Fj=((Qc ks V).map Fj).filter fun p=> !decide (p.1=k):=by
 rw[List.filter_map,Qc,Qc,List.filter_filter]
 congr 1
 refine List.filter_congr fun x _=>?_
 by_cases e:x=k
 · simp[e,h,Fj]
 simp[e,Fj]
theorem T6(V:List Int){k:Int}(h:Ei k=true):(V++[k]).filter Ei=V.filter Ei++[k]:=by rw[List.filter_append];simp[h]
theorem Wo(V:List Int){k:Int}(h:Ei k=false):(V++[k]).filter Ei=V.filter Ei:=by rw[List.filter_append];simp[h]
theorem cK{ks V:List Int}{k:Int}(h:k∈Qc ks V)(hf:k∉V.filter Ei):k∉V∧k∈ks:=by
 obtain⟨h1,h2⟩:=List.mem_filter.1 h
 refine⟨fun hV=>?_,h1⟩
 cases hi:Ei k with
 |true=>exact hf (List.mem_filter.2 ⟨hV,hi⟩)
 |false=>rw[hi]at h2;simp[hV]at h2
theorem pF{ks V:List Int}(h:(V.filter Ei).Perm (((Qc ks V).map Fj).map (·.1))):Qc ks V=ks.filter Ei:=by
 rw[Kc]at h
 refine List.filter_congr fun k hk=>?_
 cases hi:Ei k with
 |true=>rfl
 |false=>
   cases hc:decide (k∈V)with
   |true=>rfl
   |false=>
     exfalso
     have h1:k∈Qc ks V:=List.mem_filter.2 ⟨hk,by rw[hc];simp⟩
     have:=(List.mem_filter.1 (h.symm.subset h1)).2
     rw[hi]at this;cases this
theorem gI{l:List Fact}{d:Int}{j:Nat}(hj:j<11){x:Fact}:x∈Y1 (tI l d) j↔AT l d x∧x.Gone=false∧x.Kind=((j+1:Nat):Int):=by
 rw[gC l d hj]
 unfold D6
 rw[if_pos (List.mem_singleton.2 rfl),(Ge _).same.mem,List.mem_filter,oU]
 simp
theorem kD(l:List Fact)(d:Int){j:Nat}(hj:j<11):(Y1 (tI l d) j).Nodup:=by
 rw[gC l d hj]
 unfold D6
 rw[if_pos (List.mem_singleton.2 rfl)]
 exact((Ge _).same.perm.nodup_iff).2 ((Wl l d).filter _)
def CondOk(P:Program)(w:World)(v:Value)(p:Fact→Bool):Prop:=∃cf lb,v=.func (.func cf) #[] lb∧(∀args w,(callFunc cf args).run P w=.ok (.enter cf args) w)∧∀W,Up w W→∀x:Fact,Ret P cf (#[.agg x.cells]++lb) W fun r W'=>r=.bool (p x)∧Up W W'
theorem CondOk.up{P:Program}{w w':World}{v:Value}{p:Fact→Bool}(h:CondOk P w v p)(u:Up w w'):CondOk P w' v p:=
 let⟨cf,lb,e,he,hp⟩:=h
 ⟨cf,lb,e,he,fun W k=>hp W (u.trans k)⟩
structure Cnd where
 cf:Nat
 lb:Array Value
 p:Fact→Bool
def Cnd.v(q:Cnd):Value:=.func (.func q.cf) #[] q.lb
def Cnd.cells(q:Cnd):Array Value:=#[q.v]
def pG(P:Program)(w:World)(qs:List Cnd):Prop:=∀q∈qs,CondOk P w q.v q.p
theorem kE{qs:List Cnd}{k:Nat}{q:Cnd}{g:Cnd→Bool}(h:qs[k]?=some q)(hk:∀y∈qs.take k,g y=false)(hx:g q=false):∀y∈qs.take (k+1),g y=false:=fun y hy=>by
 rw[List.take_add_one,h]at hy
 rcases List.mem_append.1 hy with hy|hy
 · exact hk y hy
 cases List.mem_singleton.1 hy;exact hx
theorem zG{qs:List Cnd}{k:Nat}{q:Cnd}{g:Cnd→Bool}(h:qs[k]?=some q)(hx:g q=true):qs.any g=true:=List.any_eq_true.2 ⟨q,List.mem_of_getElem? h,hx⟩
theorem any_none{qs:List Cnd}{g:Cnd→Bool}(h:∀y∈qs,g y=false):qs.any g=false:=List.any_eq_false.2 fun y hy=>by rw[h y hy];exact Bool.false_ne_true
structure Exc where
 tool:Int
 chamber:Int
 frm:Int
 to:Int
 err:Int
def Exc.cells(x:Exc):Array Value:=#[vi x.tool,vi x.chamber,vi x.frm,vi x.to,vi x.err]
theorem Exc.one(x:Exc):x.cells.all (·.oneCell')=true:=by simp[Exc.cells,show ∀i:Int,(vi i).oneCell'=true from fun _=>rfl]
def zH(n high:Int):Bool:=decide (0≤n)&&decide (n≤high)
def I9(x:Exc):Bool:=zH x.tool 59&&zH x.chamber 3&&zH x.frm x.to&&decide (x.to≤1000000)&&zH x.err 10000
theorem U8(x:Exc):I9 x=true↔(0≤x.tool∧x.tool≤59)∧(0≤x.chamber∧x.chamber≤3)∧(0≤x.frm∧x.frm≤x.to)∧x.to≤1000000∧0≤x.err∧x.err≤10000:=by
 unfold I9 zH
 simp only[Bool.and_eq_true,decide_eq_true_eq]
 constructor
 · rintro⟨⟨⟨⟨h1,h2⟩,h3⟩,h4⟩,h5⟩
   exact⟨h1,h2,h3,h4,h5⟩
 rintro⟨h1,h2,h3,h4,h5⟩
 exact⟨⟨⟨⟨h1,h2⟩,h3⟩,h4⟩,h5⟩
def AU(f t l:Int)(p:Fact):Bool:=decide (p.Time-l≤t)&&decide (f≤p.Until+l)
def mG(f t l:Int)(p:Fact):Bool:=decide (IntKind.i64.wrap (p.Time-l)≤t)&&decide (f≤IntKind.i64.wrap (p.Until+l))
def Qd(p:Fact):Prop:= -1000000000≤p.Time∧p.Time≤1000000000∧ -1000000000≤p.Until∧p.Until≤1000000000
theorem Zf{f t l:Int}{p:Fact}(hp:Qd p)(hl: -10000≤l∧l≤10000):mG f t l p=AU f t l p:=by
 unfold Qd at hp
 unfold mG AU
 rw[Dy oQ oQ,Dy oQ (by omega)]
def He(x:Exc)(p:Fact):Bool:=decide (x.tool=p.Tool)&&decide (x.chamber=p.Chamber)
def Gi(x:Exc)(p:Fact):Bool:=AU x.frm x.to (-x.err) p
def Lh(l:List Fact)(x:Exc):List Fact:=l.filter (He x)
def Sf(gs:List Fact)(x:Exc)(p:Fact):Bool:=Gi x p||(AU x.frm x.to x.err p||(Lh gs x).any fun g=>AU g.Time g.Until x.err p)
def G3(L:List (Int×Bool))(id:Int)(s:Bool):List (Int×Bool):=if id∈L.map (·.1)then L.map (fun q=>if q.1=id then(id,q.2||s)else q)else L++[(id,s)]
theorem kF(L:List (Int×Bool))(id:Int)(s:Bool)(v:Int):v∈(G3 L id s).map (·.1)↔v∈L.map (·.1)∨v=id:=by
 unfold G3
 split
 · rename_i h
   have e:(L.map fun q=>if q.1=id then(id,q.2||s)else q).map (·.1)=L.map (·.1):=by
     rw[List.map_map]
     refine List.map_congr_left fun q _=>?_
     show(if q.1=id then(id,q.2||s)else q).1=q.1
     split
     · rename_i e;exact e.symm
     rfl
   rw[e]
   exact⟨.inl,fun e=>e.elim _root_.id fun e=>e▸h⟩
 rw[List.map_append,List.mem_append];simp
theorem Sh{L:List (Int×Bool)}(h:(L.map (·.1)).Nodup)(id:Int)(s:Bool):((G3 L id s).map (·.1)).Nodup:=by
 unfold G3
 split
 · have e:(L.map fun q=>if q.1=id then(id,q.2||s)else q).map (·.1)=L.map (·.1):=by
     rw[List.map_map]
     refine List.map_congr_left fun q _=>?_
     show(if q.1=id then(id,q.2||s)else q).1=q.1
     split
     · rename_i e;exact e.symm
     rfl
   rw[e];exact h
 rename_i hn
 rw[List.map_append]
 exact List.nodup_append.2 ⟨h,by simp,fun a ha c hc=>by simp at hc;subst hc;exact fun e=>hn (e▸ha)⟩
def Li(L:List (Int×Bool))(id:Int):Bool:=L.any fun q=>decide (q.1=id)&&q.2
structure Vd where
 w:Int
 t:Int
 why:List Int
def C2(V:List (Int×Bool)):Int×List Int:=if V.any (·.2)then(2,(V.filter (·.2)).map (·.1))else if V=[]then(0,[])else(1,V.map (·.1))
theorem cL{V:List (Int×Bool)}{id:Int}(h:(C2 V).1≠2):C2 (V++[(id,true)])=(2,[id]):=by
 have hn:V.any (·.2)=false:=by
   cases e:V.any (·.2)with
   |false=>rfl
   |true=>unfold C2 at h;rw[if_pos e]at h;exact absurd rfl h
 have hf:V.filter (·.2)=[]:=List.filter_eq_nil_iff.2 fun q hq e=>by rw[List.any_eq_false]at hn;exact hn q hq e
 unfold C2
 rw[List.any_append,if_pos (by simp),List.filter_append,hf]
 rfl
theorem cM{V:List (Int×Bool)}{id:Int}(h:(C2 V).1=2):C2 (V++[(id,true)])=(2,(C2 V).2++[id]):=by
 have hn:V.any (·.2)=true:=by
   cases e:V.any (·.2)with
   |true=>rfl
   |false=>
     unfold C2 at h;rw[if_neg (by rw[e];exact Bool.false_ne_true)]at h
     split at h<;>cases h
 unfold C2
 rw[List.any_append,if_pos (by simp),if_pos hn,List.filter_append,List.map_append]
 rfl
theorem cO{V:List (Int×Bool)}{id:Int}(h:(C2 V).1=2):C2 (V++[(id,false)])=C2 V:=by
 have hn:V.any (·.2)=true:=by
   cases e:V.any (·.2)with
   |true=>rfl
   |false=>
     unfold C2 at h;rw[if_neg (by rw[e];exact Bool.false_ne_true)]at h
     split at h<;>cases h
 unfold C2
 rw[List.any_append,if_pos (by rw[hn];rfl),if_pos hn,List.filter_append]
 simp
theorem cP{V:List (Int×Bool)}{id:Int}(h:(C2 V).1≠2):C2 (V++[(id,false)])=(1,(C2 V).2++[id]):=by
 have hn:V.any (·.2)=false:=by
   cases e:V.any (·.2)with
   |false=>rfl
   |true=>unfold C2 at h;rw[if_pos e]at h;exact absurd rfl h
 unfold C2
 rw[List.any_append,if_neg (by rw[hn];exact Bool.false_ne_true),if_neg (by simp),if_neg (by rw[hn];exact Bool.false_ne_true),List.map_append]
 split
 · rename_i e;rw[e];rfl
 rfl
theorem U9{V L:List (Int×Bool)}(h:V.Perm L):(C2 V).1=(C2 L).1∧(C2 V).2.Perm (C2 L).2:=by
 have e1:V.any (·.2)=L.any (·.2):=by
   rw[Bool.eq_iff_iff,List.any_eq_true,List.any_eq_true]
   exact⟨fun⟨q,hq,e⟩=>⟨q,h.subset hq,e⟩,fun⟨q,hq,e⟩=>⟨q,h.symm.subset hq,e⟩⟩
 unfold C2
 rw[e1]
 split
 · exact⟨rfl,(h.filter _).map _⟩
 by_cases e:L=[]
 · subst e;rw[h.eq_nil];exact⟨rfl,.refl _⟩
 rw[if_neg e,if_neg fun e2=>e (by subst e2;exact h.symm.eq_nil)]
 exact⟨rfl,h.map _⟩
end Go.Wx
namespace Go.Proofs.YtdilcdgjklimoaaGreatDoor
open Go.Proofs.Tryz
open Go.Wx Go.RowKit
namespace Hs
theorem Ke(b:Nat)(w:World):Ret prog 44 #[.map (some b)] w fun r w'=>(∃B,r=.func (.func 106) #[] #[.pointer (some ⟨B,0,none⟩)]∧Blk w' B #[.map (some b)] 99∧w.heap.size≤B)∧Up w w':=by
 have hW:=Up.refl w
 refine cT 4 func44 rfl (Af (Ao (.Km (.t rfl) rfl) rfl ?_))
 rintro _ w1 ⟨B1,rfl,NB1⟩
 have eB1:=NB1.at_
 replace hW:=hW.up NB1.up
 have hB1:=NB1.blk
 refine Az (Am (Aa (U (.makeFunc (.cu rfl)) (LW.A rfl (Ai (Al (KW.q ?_)))))))
 exact⟨⟨_,rfl,hB1,by omega⟩,hW⟩
theorem Jh(X Y:Nat→Prop)(B1 b:Nat)(kv:List (Int×Value))(w:World)(hYY:∀i,Y i→i<w.heap.size)(hQX:¬X B1)(hbY:¬Y b)(hQ0:Blk w B1 #[.map (some b)] 99)(hM0:IMap w b kv):
   IterS Tryz.prog 106 #[.pointer (some ⟨B1,0,none⟩)] A5 X Y (fun ys=>ys.Perm (kv.map (·.1))) (fun pre=>pre.Nodup∧∀k∈pre,k∈kv.map (·.1)) kv.length w:=by
 refine IterS.of ?_
 intro lp J Jx w0 hUw _ hY hJ
 obtain⟨Bd,hBd⟩:∃Bd,Bd=w0.heap.size:=⟨_,rfl⟩
 rw[←hBd]at hJ hY
 have zU:=hUw.size
 have hQ:=hQ0.up hUw
 have hM:=hM0.up hUw
 have zQ0:=hQ.lt
 refine cT 14 func106 rfl (Af (U (.lb rfl (hQ.Ak rfl)) (Ao (.range underlying99 (.t rfl) hM) rfl ?_)))
 rintro _ w1 ⟨r5,rfl,hR5,uw1,ew1,zw1⟩
 replace hQ:=hQ.up uw1
 replace hM:=hM.up uw1
 replace hJ:=hJ.up uw1
 refine Ai (Ae (CW.loop (σ:=List Int) (fun s w=>Jw Bd J s w∧Blk w B1 #[.map (some b)] 99∧IRng w b r5 kv s) (fun s=>[(0,.eq (.func (.yield lp) #[] #[])),(5,.eq (.pointer (some ⟨r5,0,none⟩)))]) (fun s=>kv.length-s.length) [] ?_ ?_ ?_))
 ·exact⟨hJ,hQ,hR5⟩
 ·exact tQ
 rintro done w2 ⟨hJ,hQ,hR5⟩
 have zQ:=hQ.lt
 refine Af (Ao (.next (.t rfl) hR5) rfl ?_)
 rintro _ w3 (⟨rfl,rfl,hPm⟩|⟨k,u,rfl,hNx⟩)
 ·skip
  refine U (.xt rfl rfl) (Am (CW.f rfl (A4 (Ab (Ab (An (Dg rfl ⟨_,rfl,?_⟩)))))))
  exact .inl ⟨_,hPm,hJ.j⟩
 skip
 obtain⟨_,ho,hwk⟩:=hNx.walk
 replace hJ:=hJ.walk hNx.grown oQ ho hwk
 replace hQ:=hQ.sto hNx.sto oQ
 replace hR5:=hNx.rng
 have zw3:=hNx.size
 refine U (.xt rfl rfl) (Am (CW.v rfl (Aj (Ac (Ae (Af (Ao (.entry (.t rfl) hNx.entry) rfl ?_)))))))
 rintro _ _ ⟨rfl,rfl⟩
 refine U (.xt rfl rfl) (LW.A rfl (Am (Aa (I rfl (I rfl (LW.y (.t rfl) (.cu rfl) rfl rfl (hY done k _ hJ (by have:=hR5.length;simp at this;omega)) ?_))))))
 rintro _ w4 ⟨y,rfl,hcase⟩
 refine U (.n1 rfl) (Ai (CW.b rfl (fun h13=>?_) (fun h13=>?_)))
 ·have hy:y=false:=by simpa using h13
  subst hy
  obtain⟨_,hJx⟩:=hcase.resolve_left (by simp)
  refine Al (Ay (Ap (Ay (Gp rfl ⟨_,rfl,?_⟩))))
  exact .inr ⟨_,hR5.sub,hJx⟩
 have hy:y=true:=by simpa using h13
 subst hy
 obtain⟨_,hJ2,hN⟩:=hcase.resolve_right (by simp)
 replace hQ:=hQ.kx hN hQX
 replace hR5:=hR5.kx hN hbY (fun h=>by have:=hYY _ h;omega)
 refine Aj (Ad (Ar ?_))
 exact⟨done++[k],⟨hJ2,hQ,hR5⟩,tQ,by have:=hR5.length;simp at this⊢;omega⟩
theorem T7(g:Nat)(lb:Array Go.Value)(S Sp:List Int→Prop)(N:Nat)(w:World)(en:∀args w,(callFunc g args).run Tryz.prog w=.ok (.enter g args) w)(hit:∀W(X:Nat→Prop),Up w W→(∀i,X i→w.heap.size≤i)→IterS Tryz.prog g lb A5 X (fun _=>False) S Sp N W)(hN0:N≤1000000000):Ret prog 182 #[.slice none 0 0,.func (.func g) #[] lb] w fun r w'=>∃ks,S ks∧OwnS w' w.heap.size 3 1 A5 r ks∧Up w w':=by
 have hW:=Up.refl w
 obtain⟨w0,rfl,_⟩:=W0 w
 refine E4 (n:=13) func182 rfl rfl rfl (Af (Ao (.Km (.t rfl) rfl) rfl ?_))
 rintro _ w1 ⟨B2,rfl,NB2⟩
 have eB2:=NB2.at_
 have zB2:=NB2.size
 replace hW:=hW.up NB2.up
 have hB2:=NB2.blk
 refine Az (Am (Af (I rfl (Ai (Ae ?_)))))
 obtain⟨bq,hbq⟩:∃bq,bq=w1.heap.size:=⟨_,rfl⟩
 refine CW.rangeFunc (fun i=>B2≤i) (fun _=>False) (fun pre W=>Sz bq W∧∃v,Blk W B2 #[v] 37∧OwnS W (B2+1) 3 1 A5 v pre∧Up w0 W) (fun c pre W=>Sz bq W∧False) (fun x a' W=>Ag 13 [] ([(5,.eq (vi x)),(2,.eq (.pointer (some ⟨B2,0,none⟩)))]) a' W) (.t rfl) en (hit _ _ hW (fun i(hi:B2≤i)=>by omega)) (fun _=>rfl) rfl ?_ ?_ ?_ ?_ ?_ ?_ ?_ ?_
 ·rw[←hbq]
  intro pre W W' row hs hg hr
  obtain⟨hZ,v,hB2,hO,hW⟩:=hs
  exact⟨hZ.ko (Ko.grown hg hr),v,hB2.ko (Ko.grown hg hr),hO.ko (Ko.grown hg hr),hW.ko (Ko.grown hg hr) oQ⟩
 ·rw[←hbq]
  intro c pre W W' row hs hg hr
  obtain⟨hZ,hF⟩:=hs
  exact⟨hZ.ko (Ko.grown hg hr),hF⟩
 ·intro x a' u W W' row hs hg hr
  exact hs.world rfl _
 ·exact⟨Nat.le_of_eq hbq,_,hB2,OwnS.nil _ _ _ _ _,hW⟩
 ·rw[←hbq]
  intro lp pre x w2 K hs hk a ha
  obtain⟨hZ,v,hB2,hO,hW⟩:=hs
  have zq:=hZ.le
  have hK:=Kf.refl bq w2
  have hN:=Kx.refl bq (fun i=>B2≤i) (fun _=>False) w2
  revert a
  refine Ia (p:=7) rfl (Aa (LW.A rfl (LW.nil ?_)))
  exact fun a ha=>hk a _ hK hN ⟨hZ,v,hB2,hO,hW⟩ (ha.sub tQ)
 ·rw[←hbq]
  intro lp pre x a' w3 hs hx hlt
  obtain⟨hZ,v,hB2,hO,hW⟩:=hs
  have ha:=hx
  have zq:=hZ.le
  have hK:=Kf.refl bq w3
  have hN:=Kx.refl bq (fun i=>B2≤i) (fun _=>False) w3
  refine(show CW (some lp) 8 _ 13 [] _ (ownPostG bq (Kx bq (fun i=>B2≤i) (fun _=>False)) _ _ (pre++[x]) w3) ([(5,.eq (vi x)),(2,.eq (.pointer (some ⟨B2,0,none⟩)))]) w3 from ?_) a' ha
  refine Ae (Aa (U (.lb rfl (hB2.Ak rfl)) (I rfl (Ao (.buildSlice (xs:=[x]) (enc:=A5) (mk:=vi) underlying37 sizeOf3 zeroValue3 rfl cQ (fun _=>rfl) (fun _=>rfl) (.cu rfl) rfl) rfl ?_))))
  rintro _ w4 ⟨B10,cB10,rfl,NB10,yB10,xB10⟩
  have eB10:=NB10.at_
  have zB10:=NB10.size
  replace hZ:=hZ.up NB10.up
  replace hB2:=hB2.up NB10.up
  replace hO:=hO.up NB10.up
  replace hW:=hW.up NB10.up
  replace hK:=hK.up NB10.up
  replace hN:=hN.up NB10.up
  have hB10:=NB10.blk
  have hE10:=xB10
  refine Ao (.append (enc:=A5) (base:=B2+1) (bytes:=8) (i:=Tryz.t3) underlying37 kQ rfl rfl rfl rfl cQ (fun _=>rfl) Eh (.t rfl) (.t rfl) hO (Av hE10) (by simp) (by simp[maxLen];omega) (by simp;omega) oQ) rfl ?_
  rintro v11 w5 ⟨Ow5,Gw5⟩
  replace hZ:=hZ.gr Gw5 rfl
  replace hB2:=hB2.gr Gw5 oQ
  replace hW:=hW.gr Gw5 oQ
  replace hK:=hK.gr Gw5
  replace hN:=hN.gr Gw5 (fun i hi=>by exact .inl (by show _≤_;omega))
  replace hO:=Ow5
  refine A9 (.store sizeOf37 (.t rfl) (.t rfl) hO.one hB2 (by simp)) ?_
  intro w6 Nw6
  replace hZ:=hZ.sto Nw6.sto oQ
  replace hO:=hO.sto Nw6.sto oQ
  replace hW:=hW.sto Nw6.sto oQ
  replace hK:=hK.sto Nw6.sto (.inr (.inr ⟨_,_,hB2⟩))
  replace hN:=hN.GD Nw6.sto (⟨_,_,hB2⟩) (by exact .inl (by show _≤_;omega))
  replace hB2:=Nw6.blk
  replace hB2:Blk w6 B2 #[v11] _:=hB2
  refine LW.nil (Ad ?_)
  exact fun a ha=>⟨hK,hN,hZ,_,hB2,hO,hW⟩
 ·intro D ys w7 hDb hS hs hD
  rw[←hbq]at hDb
  obtain⟨hZ,v,hB2,hO,hW⟩:=hs
  replace hD:Ob w7 D (.deferred (some [])):=hD
  refine Ad (Ac (Af (U (.lb rfl (hB2.Ak rfl)) (LW.A rfl (Ai (Al (Ou hD rfl ?_)))))))
  replace hZ:=hZ.ko (Ko.putObj (.deferred none) hD rfl hDb)
  replace hB2:=hB2.ko (Ko.putObj (.deferred none) hD rfl hDb)
  replace hO:=hO.ko (Ko.putObj (.deferred none) hD rfl hDb)
  replace hW:=hW.putObj (D:=D) (.deferred none) oQ
  refine KW.q ?_
  exact⟨ys,hS,hO.mono oQ,hW⟩
 intro D c pre w8 hDb hpre hs hD
 rw[←hbq]at hDb
 obtain⟨hZ,hF⟩:=hs
 replace hD:Ob w8 D (.deferred (some [])):=hD
 exact hF.elim
theorem pH(base e:Nat)(v:Value)(ks:List Int)(w:World)(h:OwnS w base e 1 A5 v ks)(hlen:ks.length<4611686018427387904):Ret prog 30 #[v] w fun r w'=>r=.tuple #[]∧OwnS w' base e 1 A5 v (ks.mergeSort fun x y=>decide (x≤y))∧Grew base w w':=by
 have h0:=h
 obtain⟨h1,⟨rfl,hn⟩|⟨g,cap,cur,rfl,hg,hb,h2,h3,h4,h5⟩⟩:=h
 · have hks:ks=[]:=List.eq_nil_of_length_eq_zero hn
   subst hks
   refine Calls.mono (Tryz.slices_Sort_int_none none 0 w) ?_
   rintro e' w' ⟨rfl,rfl⟩
   exact⟨_,rfl,rfl,by simpa using h0,⟨rfl,rfl,rfl,Nat.le_refl _,fun _ _ _=>rfl,fun _ _ h _=>h⟩⟩
 rw[N7]at h5
 have hl:g<w.heap.size:=lt_of_block hb
 refine Calls.mono (Tryz.slices_Sort_int g 0 cap ks w (holds_of_blockI hb (by simpa using h5)) hl hlen) ?_
 rintro e' w' ⟨rfl,n,os,rfl⟩
 have hg2:=Go.grownBy_sortedI (w:=w) (g:=g) (n:=n) (os:=os) (ks.mergeSort fun x y=>decide (x≤y)).toArray
 have ho:=Go.ownsRow_sortedI (w:=w) (n:=n) (os:=os) (ss:=ks) (ts:=ks.mergeSort fun x y=>decide (x≤y)) (by simp) hg hb h2 h3 h4
 refine⟨_,rfl,rfl,?_,⟨hg2.os,hg2.tape,hg2.output,hg2.size,fun i hi hi2=>hg2.block i hi (fun e=>by cases e;omega),fun i o hi ho=>(hg2.block i (lt_of_block hi) (fun e=>by cases e;rw[hb]at hi;cases hi;cases ho)).trans hi⟩⟩
 show World.ownsRow _ _ _ _ _ _ _
 rw[N7,List.length_mergeSort]
 exact ho
theorem Zg(g:Nat)(lb:Array Go.Value)(S Sp:List Int→Prop)(N:Nat)(w:World)(en:∀args w,(callFunc g args).run Tryz.prog w=.ok (.enter g args) w)(hit:∀W(X:Nat→Prop),Up w W→(∀i,X i→w.heap.size≤i)→IterS Tryz.prog g lb A5 X (fun _=>False) S Sp N W)(hN0:N≤1000000000):Ret prog 104 #[.func (.func g) #[] lb] w fun r w'=>∃ks,S ks∧OwnS w' w.heap.size 3 1 A5 r ks∧Up w w':=by
 have hW:=Up.refl w
 refine cT 5 func104 rfl (Af (Az (Am (Aa (I rfl (A6 (eC (.cons (.const _) (.cu rfl)) (DM)) rfl (T7 _ _ _ _ _ _ en hit hN0) ?_))))))
 rintro _ w1 ⟨ks,hS,hO,uw1⟩
 replace hW:=hW.up uw1
 refine LW.A rfl (Ai (Al (KW.q ?_)))
 exact⟨ks,hS,hO,hW⟩
theorem J9(g:Nat)(lb:Array Go.Value)(S Sp:List Int→Prop)(N:Nat)(w:World)(en:∀args w,(callFunc g args).run Tryz.prog w=.ok (.enter g args) w)(hit:∀W(X:Nat→Prop),Up w W→(∀i,X i→w.heap.size≤i)→IterS Tryz.prog g lb A5 X (fun _=>False) S Sp N W)(hN0:N≤1000000000)(hS0:∀ks,S ks→ks.length≤1000000000):Ret prog 39 #[.func (.func g) #[] lb] w fun r w'=>∃ks,S ks∧OwnS w' w.heap.size 3 1 A5 r (ks.mergeSort fun x y=>decide (x≤y))∧Up w w':=by
 have hW:=Up.refl w
 refine cT 9 func39 rfl (Af (Az (Am (Aa (I rfl (A6 (eC (.o rfl) (BQ)) rfl (Zg _ _ _ _ _ _ en hit hN0) ?_))))))
 rintro v w1 ⟨ks,hS,hO,uw1⟩
 replace hW:=hW.up uw1
 refine LW.A rfl (Am (Aa (I rfl (A6 (eC (.o rfl) (xT)) rfl (pH _ _ _ _ _ hO (by have:=hS0 ks hS;omega)) ?_))))
 rintro _ w2 ⟨rfl,hO2,uw2⟩
 replace hW:=hW.gr uw2 oQ
 replace hO:=hO2
 refine Am (Aa (I rfl (LW.A rfl (Ai (Al (KW.q ?_))))))
 exact⟨ks,hS,hO,hW⟩
end Hs
theorem cR(n:Int)(v:Go.Value)(w:World):Ret prog 42 #[vi n,v] w fun r w'=>r=.bool (!Ei n)∧Up w w':=by
 have hW:=Up.refl w
 refine cT 8 func42 rfl (Af (Az (Am (Aa (I rfl (A6 (eC (.o rfl) (iM)) rfl (Js _ _) ?_))))))
 rintro _ w1 ⟨rfl,uw1⟩
 replace hW:=hW.up uw1
 refine U (.n1 rfl) (LW.A rfl (Ai (Al (KW.q ?_))))
 exact⟨rfl,hW⟩
theorem pI(b:Nat)(ks:List Int)(w:World)(hM:IMap w b (ks.map Fj)):Ret prog 41 #[.map (some b),.func (.func 42) #[] #[]] w fun r w'=>r=.tuple #[]∧Stp (Bu b (ks.map Fj)) (Bu b ((ks.filter Ei).map Fj)) w w':=by
 obtain⟨w0,rfl,_⟩:=W0 w
 have hS:Wx.Sep (Bu b (ks.map Fj)).foot w0 w0 [Bu b (ks.map Fj)]:=Sep.cons (A:=Bu b (ks.map Fj)) hM (fun _ h=>h) (Sep.start _ _) (by simp)
 refine cT 19 func41 rfl (Af (I rfl (Ao (.range underlying99 (.t rfl) (hS.get 0 rfl)) rfl ?_)))
 rintro _ w1 ⟨r7,rfl,hR_,uR,eR,zR⟩
 replace hS:=hS.Dw 0 rfl (Gf hR_ uR eR)
 refine Ai (Ae (A3 (σ:=List Int) (fun s w=>(s.Nodup∧∀k∈s,k∈ks)∧(Wx.Sep (Bu b (ks.map Fj)).foot w0 w [Fi b r7 ((Qc ks s).map Fj) (s.filter Ei)])) (fun s=>[]) ([(0,.eq _),(1,.eq _),(7,.eq _)]) (fun s=>ks.length-s.length) [] ?_ tQ ?_))
 ·exact⟨⟨List.nodup_nil,fun _ h=>by cases h⟩,by rw[pD];exact hS⟩
 rintro V w2 ⟨hV,hS⟩
 refine Af (Ao (.next (.t rfl) (hS.get 0 rfl)) rfl ?_)
 rintro _ w3 (⟨rfl,rfl,hPm⟩|⟨k0,u0,rfl,hNx⟩)
 ·skip
  refine U (.xt rfl rfl) (Am (CW.f rfl (A4 (Ab (Ab (An (Dg rfl ⟨_,rfl,?_⟩)))))))
  rw[pF hPm]at hS
  have hS2:=hS.Dw 0 rfl (cJ (hS.get 0 rfl))
  exact⟨rfl,hS2.fr,hS2.get 0 rfl,fun _ h=>.inl h⟩
 skip
 have zw3:=hNx.size
 replace hS:=hS.Dw 0 rfl (Hd hNx)
 obtain⟨hk0c,hu0⟩:=kA hNx.mem
 subst hu0
 obtain⟨hk0V,hk0k⟩:=cK hk0c hNx.fresh
 have hV2:(V++[k0]).Nodup∧∀k∈V++[k0],k∈ks:=⟨List.nodup_append.2 ⟨hV.1,by simp,fun a ha c hc=>by simp at hc;subst hc;exact fun e=>hk0V (e▸ha)⟩,fun k hk=>(List.mem_append.1 hk).elim (hV.2 k) (fun h=>by cases List.mem_singleton.1 h;exact hk0k)⟩
 have hVl:=hV2.1.length_le_of_subset hV2.2
 rw[List.length_append,List.length_singleton]at hVl
 refine U (.xt rfl rfl) (Am (CW.v rfl (Aj (Ac (Ae (Af (Ao (.entry (.t rfl) hNx.entry) rfl ?_)))))))
 rintro _ _ ⟨rfl,rfl⟩
 refine U (.xt rfl rfl) (U (.xt rfl rfl) (LW.A rfl (LW.A rfl (Am (Aa (I rfl (I rfl (I rfl (A6 (Db (.t rfl) (.ct rfl (.cu rfl)) (HA)) rfl (cR _ _ _) ?_)))))))))
 rintro _ w4 ⟨rfl,uw4⟩
 replace hS:=hS.up uw4
 refine Ai (CW.b rfl (fun h16=>?_) (fun h16=>?_))
 ·have hid:Ei k0=false:=by simpa using h16
  refine Aa (I rfl (I rfl (xB (Za underlying99 underlying3 (.t rfl) (.t rfl) (hS.get 0 rfl)) rfl rfl rfl ?_)))
  rintro _ w5 ⟨hR2,Kd,zd⟩
  replace hS:=hS.Dw 0 rfl (tZ hR2 Kd)
  refine LW.nil (Ad (Ar ?_))
  exact⟨V++[k0],⟨hV2,by(rw[uA ks V hid,Wo V hid];exact hS)⟩,tQ,by rw[List.length_append,List.length_singleton];omega⟩
 have hid:Ei k0=true:=by simpa using h16
 refine Aj (Ad (Ar ?_))
 exact⟨V++[k0],⟨hV2,by(rw[pE ks V hid,T6 V hid];exact hS)⟩,tQ,by rw[List.length_append,List.length_singleton];omega⟩
theorem Si(bc:Array Go.Value)(bs:Base)(w:World)(hC:BaseC w bc bs)(hs:bs.Swaps.length≤1000000000)(hsum:bs.Lots.length+bs.Processes.length≤1000000000):Ret prog 12 #[.agg bc] w fun r w'=>OwnS w' w.heap.size 3 1 A5 r (Cv bs.Lots bs.Processes bs.Swaps)∧Up w w':=by
 obtain⟨w0,rfl,hS⟩:=W0 w
 refine cT 40 func12 rfl (Af (Ao (.bA rfl) rfl ?_))
 rintro _ w1 ⟨B1,rfl,NB1⟩
 replace hS:=hS.Cg NB1
 refine Az (Am (Aa (LW.r REv.makeMap rfl rfl rfl rfl ?_)))
 rintro _ w2 ⟨M8,rfl,hMM8,uw2,eM8,zw2⟩
 replace hS:=hS.add uw2 (A':=Bu M8 (([]:List Int).map Fj)) hMM8 (fun i(h:i=M8)=>by omega)
 refine LW.A rfl (Am (Ah ?_))
 obtain⟨v3,h3,ad,cp,rfl,hE0⟩:=hC.IZ
 refine Aa (U (.fB 3 rfl) (U (.lb rfl (hS.b0.cell h3)) (U (.Cw underlying26 (.t rfl)) (U (.move (.const _)) (Ai (Ae (A3 (σ:=Nat) (fun s w=>(s≤bs.Lots.length)∧(Wx.Sep no w0 w [Bq B1 bc 28,Bu M8 ((Qb (bs.Lots.take s)).map Fj)])) (fun s=>[(12,.eq (vi (s:Int)))]) ([(1,.eq _),(2,.eq _),(3,.eq _),(10,.eq _),(11,.eq _)]) (fun s=>bs.Lots.length-s) 0 ?_ tQ ?_)))))))
 ·exact⟨Nat.zero_le _,hS⟩
 rintro k w3 ⟨hk,hS⟩
 refine Af (U (.l2 rfl rfl) (Am (CW.b rfl (fun h13=>?_) (fun h13=>?_))))
 ·replace h13:=dQ h13
  refine Aj (Ac (Ah (Ae (Ah ?_))))
  have hE:=Els.up hE0 hS.Ch
  refine Aa ?_
  obtain⟨x,hx⟩:=Aq (xs:=bs.Lots) (i:=k) oQ
  obtain⟨Bx,ox,ax,hcx⟩:=hE _ x hx
  refine U (.Aw underlying26 sizeOf74 (.t rfl) (.t rfl) oQ ax) (U (.lc rfl (hcx)) (Ao (.Br zeroValue74) rfl ?_))
  rintro _ w4 ⟨B5,rfl,MB5⟩
  refine A9 (.Ca sizeOf74 rfl (.t rfl) (.t rfl) (Fact.one _) MB5.blk rfl) ?_
  intro w5 LB5
  have NB5:=MB5.set LB5
  replace hcx:=hcx.up NB5.up
  replace hS:=hS.Cg NB5
  refine Ai (Aa (I rfl (U (.fB 7 rfl) (U (.lb rfl (hS.b2.Ak rfl)) (A9 (.mapUpdate underlying99 underlying3 (.t rfl) (.t rfl) (.const _) (hS.get 1 rfl)) ?_)))))
  rintro w6 ⟨Mu,Ku,zu⟩
  rw[Se]at Mu
  replace hS:=hS.Dw 1 rfl (Ka Mu Ku)
  refine LW.nil (Ad (Ac (Aa (U (.ic rfl oQ) (I rfl (LW.nil (Ar ?_)))))))
  exact⟨k+1,⟨by omega,by rw[kB hx];exact hS.take 2⟩,tQ,by omega⟩
 replace h13:=dQ h13
 refine A4 (Ab (Ab (An (Ac (Ah (Ah ?_))))))
 obtain⟨v0,h0,ad',cp',rfl,hE1⟩:=hC.JD
 have hkl:k=bs.Lots.length:=by omega
 rw[hkl,List.take_length]at hS
 refine Aa (U (.fB 0 rfl) (U (.lb rfl (hS.b0.cell h0)) (U (.Cw underlying26 (.t rfl)) (U (.move (.const _)) (Ai (Ae (A3 (σ:=Nat) (fun s w=>(s≤bs.Processes.length)∧(Wx.Sep no w0 w [Bq B1 bc 28,Bu M8 ((Zc bs.Swaps (Qb bs.Lots) (bs.Processes.take s)).map Fj)])) (fun s=>[(23,.eq (vi (s:Int)))]) ([(1,.eq _),(2,.eq _),(3,.eq _),(21,.eq _),(22,.eq _)]) (fun s=>bs.Processes.length-s) 0 ?_ tQ ?_)))))))
 ·exact⟨Nat.zero_le _,hS⟩
 rintro j w7 ⟨hj,hS⟩
 refine Af (U (.l2 rfl rfl) (Am (CW.b rfl (fun h24=>?_) (fun h24=>?_))))
 ·replace h24:=dQ h24
  refine Aj (Ac (Ah (Ae (Ah ?_))))
  have hE:=Els.up hE1 hS.Ch
  refine Aa ?_
  obtain⟨x,hx⟩:=Aq (xs:=bs.Processes) (i:=j) oQ
  obtain⟨Bx,ox,ax,hcx⟩:=hE _ x hx
  refine U (.Aw underlying26 sizeOf74 (.t rfl) (.t rfl) oQ ax) (U (.lc rfl (hcx)) (Ao (.Br zeroValue74) rfl ?_))
  rintro _ w8 ⟨B7,rfl,MB7⟩
  refine A9 (.Ca sizeOf74 rfl (.t rfl) (.t rfl) (Fact.one _) MB7.blk rfl) ?_
  intro w9 LB7
  have NB7:=MB7.set LB7
  replace hcx:=hcx.up NB7.up
  replace hS:=hS.Cg NB7
  refine Ai (Aa (I rfl (U (.Kw isAgg28 sizeOf28 (hC.size) (.t rfl) (hS.b0.agg)) (U (.fB 7 rfl) (U (.lb rfl (hS.b2.Ak rfl)) (U (.fB 5 rfl) (U (.lb rfl (hS.b2.Ak rfl)) (A6 (eC (.ct rfl (.ct rfl (.cu rfl))) (BA)) rfl (gH bc bs _ _ _ (hC.up hS.Ch) hs) ?_))))))))
  rintro _ w10 ⟨rfl,uw10⟩
  replace hS:=hS.up uw10
  refine A9 (.mapUpdate underlying99 underlying3 (.t rfl) (.t rfl) (.const _) (hS.get 1 rfl)) ?_
  rintro w11 ⟨Mu,Ku,zu⟩
  rw[Se]at Mu
  replace hS:=hS.Dw 1 rfl (Ka Mu Ku)
  refine LW.nil (Ad (Ac (Aa (U (.ic rfl oQ) (I rfl (LW.nil (Ar ?_)))))))
  exact⟨j+1,⟨by omega,by rw[kC hx];exact hS.take 2⟩,tQ,by omega⟩
 replace h24:=dQ h24
 refine A4 (Ab (Ab (An (Ac (Ah ?_)))))
 have hjl:j=bs.Processes.length:=by omega
 rw[hjl,List.take_length]at hS
 have hml:=Nat.le_trans (List.length_filter_le Ei _) (Nat.le_trans (Ze bs.Swaps (Qb bs.Lots) bs.Processes) (Nat.add_le_add_right (Zd bs.Lots) _))
 refine Aa (I rfl (A6 (eC (.ct rfl (.cons (.func _) .nil)) (GZ)) rfl (pI M8 _ _ (hS.get 1 rfl)) ?_))
 rintro _ w12 ⟨rfl,uw12⟩
 replace hS:=hS.Dw 1 rfl uw12
 refine Am (Aa (I rfl (A6 (eC (.o rfl) (HB)) rfl (Hs.Ke _ _) ?_)))
 rintro _ w13 ⟨⟨BK,rfl,hBK,zK⟩,uw13⟩
 replace hS:=hS.up uw13
 have zBK:=hBK.lt
 have zz:=hS.Ch.size
 refine A6 (eC (.o rfl) (BC)) rfl (Hs.J9 _ _ _ _ _ _ BS (fun W X u hX=>Hs.Jh X _ BK M8 _ W (fun i h=>h.elim) (fun h=>by have:=hX _ h;omega) (fun h=>h.elim) (hBK.up u) (((hS.get 1 rfl:IMap _ _ _)).up u)) (by rw[List.length_map];omega) (fun ks h=>by have:=h.length_eq;rw[Kc]at this;omega)) ?_
 rintro v w14 ⟨ks,hP,hO,uw14⟩
 have zw14:=uw14.size
 replace hS:=hS.up uw14
 replace hBK:=hBK.up uw14
 rw[Kc]at hP
 rw[O7 hP]at hO
 replace hO:=hO.mono (show w0.heap.size≤_ by omega)
 refine LW.A rfl (Ai (Al (KW.q ?_)))
 exact⟨hO,hS.Ch⟩
theorem Kg(a h:Int)(w:World):Ret prog 84 #[vi a,vi h] w fun r w'=>r=.bool (zH a h)∧Up w w':=by
 have hW:=Up.refl w
 refine cT 12 func84 rfl (Af (Az (Am (Aa (I rfl (U (.geq (.t rfl) (.const _)) (I rfl (Ey rfl rfl (Ey rfl rfl (LW.gr rfl (fun hc=>PEv.leq vQ vQ) (U (.pa rfl (fun hp=>(by exact .cond rfl (by(rw[hp];rfl))))) (LW.A rfl (Ai (Al (KW.q ?_)))))))))))))))
 exact⟨by unfold zH;simp,hW⟩
theorem cU(x:Exc)(w:World):Ret prog 26 #[.agg x.cells] w fun r w'=>r=.bool (I9 x)∧Up w w':=by
 obtain⟨w0,rfl,hS⟩:=W0 w
 refine cT 33 func26 rfl (Af (Ao (.bA rfl) rfl ?_))
 rintro _ w1 ⟨B1,rfl,NB1⟩
 replace hS:=hS.Cg NB1
 refine Az (Am (Aa (U (.assign (.func _)) (Am (Aa (I rfl (U (.fB 0 rfl) (U (.lb rfl (hS.b0.Ak rfl)) (A6 (Db (.t rfl) (.ct rfl (.cons (.const _) .nil)) (rZ)) rfl (Kg x.tool 59 _) ?_)))))))))
 rintro _ w2 ⟨rfl,uw2⟩
 replace hS:=hS.up uw2
 refine I rfl (Ey rfl rfl (LW.gr rfl (fun hc=>PEv.fB 1 rfl) (LW.gr rfl (fun hc=>PEv.load isAgg3 vQ (hS.b0.Ak rfl)) (Mh rfl rfl rfl rfl rfl rfl rfl rfl (fun hc=>Db vQ (.cons vQ (.cons (.const _) .nil)) (rZ)) (fun hc=>Kg x.chamber 3 _) ?_))))
 intro w3 uw3
 replace hS:=hS.up uw3
 refine U (.pa rfl (fun hp=>(by exact .cond rfl (by(rw[hp];rfl))))) (I rfl (Ey rfl rfl (LW.gr rfl (fun hc=>PEv.fB 2 rfl) (LW.gr rfl (fun hc=>PEv.load isAgg3 vQ (hS.b0.Ak rfl)) (LW.gr rfl (fun hc=>PEv.fB 3 rfl) (LW.gr rfl (fun hc=>PEv.load isAgg3 vQ (hS.b0.Ak rfl)) (Mh rfl rfl rfl rfl rfl rfl rfl rfl (fun hc=>Db vQ (.cons vQ (.cons vQ .nil)) (rZ)) (fun hc=>Kg x.frm x.to _) ?_)))))))
 intro w4 uw4
 replace hS:=hS.up uw4
 refine U (.pa rfl (fun hp=>(by exact .cond rfl (by(rw[hp];rfl))))) (I rfl (LW.gr rfl (fun hc=>PEv.fB 3 rfl) (LW.gr rfl (fun hc=>PEv.load isAgg3 vQ (hS.b0.Ak rfl)) (LW.gr rfl (fun hc=>PEv.leq vQ (.const _)) (U (.pa rfl (fun hp=>(by exact .cond rfl (by(rw[hp];rfl))))) (I rfl (Ey rfl rfl (LW.gr rfl (fun hc=>PEv.fB 4 rfl) (LW.gr rfl (fun hc=>PEv.load isAgg3 vQ (hS.b0.Ak rfl)) (Mh rfl rfl rfl rfl rfl rfl rfl rfl (fun hc=>Db vQ (.cons vQ (.cons (.const _) .nil)) (rZ)) (fun hc=>Kg x.err 10000 _) ?_))))))))))
 intro w5 uw5
 replace hS:=hS.up uw5
 refine U (.pa rfl (fun hp=>(by exact .cond rfl (by(rw[hp];rfl))))) (LW.A rfl (Ai (Al (KW.q ?_))))
 exact⟨by unfold I9;simp,hS.Ch⟩
theorem Nc(p:Fact)(f t l:Int)(Bl Bt Bf:Nat)(w:World)(hl:Blk w Bl #[vi l] 3)(ht:Blk w Bt #[vi t] 3)(hf:Blk w Bf #[vi f] 3):Ret prog 85 #[.agg p.cells,.pointer (some ⟨Bl,0,none⟩),.pointer (some ⟨Bt,0,none⟩),.pointer (some ⟨Bf,0,none⟩)] w fun r0 w'=>r0=.bool (mG f t l p)∧Up w w':=by
 obtain⟨w0,rfl,hS⟩:=W0 w
 refine cT 20 func85 rfl (Af (Ao (.bA rfl) rfl ?_))
 rintro _ w1 ⟨B4,rfl,NB4⟩
 replace hS:=hS.Cg NB4
 refine Az (Am (Aa (U (.fB 5 rfl) (U (.lb rfl (hS.b0.Ak rfl)) (U (.lb rfl ((hl.up hS.Ch).Ak rfl)) (U (.wN (.t rfl) (.t rfl)) (U (.lb rfl ((ht.up hS.Ch).Ak rfl)) (U (.leq (.t rfl) (.t rfl)) (I rfl (LW.gr rfl (fun hc=>PEv.fB 6 rfl) (LW.gr rfl (fun hc=>PEv.load isAgg3 vQ (hS.b0.Ak rfl)) (LW.gr rfl (fun hc=>PEv.lb rfl ((hl.up hS.Ch).Ak rfl)) (LW.gr rfl (fun hc=>PEv.Gy vQ vQ) (LW.gr rfl (fun hc=>PEv.lb rfl ((hf.up hS.Ch).Ak rfl)) (LW.gr rfl (fun hc=>PEv.geq vQ vQ) (U (.pa rfl (fun hp=>(by exact .cond rfl (by(rw[hp];rfl))))) (LW.A rfl (Ai (Al (KW.q ?_))))))))))))))))))))
 exact⟨by unfold mG;simp,hS.Ch⟩
theorem kG(v:Go.Value)(p:Fact→Bool)(x:Fact)(B:Nat)(w:World)(hc:CondOk Tryz.prog w v p)(hB:Blk w B x.cells 74):Ret prog 88 #[v,.pointer (some ⟨B,0,none⟩)] w fun r w'=>r=.bool (p x)∧Up w w':=by
 have hW:=Up.refl w
 obtain⟨cf,lb,rfl,hen,hp⟩:=hc
 refine cT 7 func88 rfl (Af (Az (Am (Aa (I rfl (U (.lc rfl (hB.agg)) (A6 (Cc (.t rfl) (.cu rfl) (hen)) rfl (hp _ hW x) ?_)))))))
 rintro _ w1 ⟨rfl,uw1⟩
 replace hB:=hB.up uw1
 replace hW:=hW.up uw1
 refine LW.A rfl (Ai (Al (KW.q ?_)))
 exact⟨rfl,hW⟩
theorem cV(cf:Nat)(lb:Array Go.Value)(g:Cnd→Bool)(hen:∀args w,(callFunc cf args).run Tryz.prog w=.ok (.enter cf args) w)(ad:Option Addr)(cp:Nat)(l:List Cnd)(w:World)(hE0:Els w ad 1 Cnd.cells l)(hl:l.length≤100000)(hp:∀W,Up w W→∀q∈l,Ret Tryz.prog cf (#[q.v]++lb) W fun r W'=>r=.bool (g q)∧Up W W'):Ret prog 164 #[.slice ad l.length cp,.func (.func cf) #[] lb] w fun r w'=>∃i,r=vi i∧decide (0≤i)=l.any g∧Up w w':=by
 have hW:=Up.refl w
 obtain⟨w0,rfl,_⟩:=W0 w
 refine cT 19 func164 rfl (Af (Az (Am (Af (I rfl (U (.Cw underlying95 (.t rfl)) (U (.move (.const _)) (Ai (Ae (A3 (σ:=Nat) (fun s w=>(s≤l.length)∧(∀y∈l.take s,g y=false)∧(Up w0 w)) (fun s=>[(8,.eq (vi (s:Int)))]) ([(0,.eq _),(1,.eq _),(7,.eq _)]) (fun s=>l.length-s) 0 ?_ tQ ?_))))))))))
 ·exact⟨Nat.zero_le _,by simp,hW⟩
 rintro k w1 ⟨hk,hn,hW⟩
 refine Af (U (.l2 rfl rfl) (Am (CW.b rfl (fun h9=>?_) (fun h9=>?_))))
 ·replace h9:=dQ h9
  refine Aj (Ac (Ah (Ae (Af (I rfl (LW.A rfl (Am ?_)))))))
  have hE:=Els.up hE0 hW
  refine Aa (I rfl (I rfl (I rfl ?_)))
  obtain⟨x,hx⟩:=Aq (xs:=l) (i:=k) oQ
  obtain⟨Bx,ox,ax,hcx⟩:=hE _ x hx
  refine U (.Aw underlying95 sizeOf93 (.t rfl) (.t rfl) oQ ax) (U (.lb rfl ((hcx 0 _ rfl))) (A6 (Cc (.t rfl) (.cu rfl) (hen)) rfl (hp _ hW x (List.mem_of_getElem? hx)) ?_))
  rintro _ w2 ⟨rfl,uw2⟩
  replace hW:=hW.up uw2
  replace hcx:=hcx.up uw2
  refine Ai (CW.b rfl (fun h16=>?_) (fun h16=>?_))
  ·replace h16:=dQ h16
   refine Af (I rfl (LW.A rfl (Ai (Al (Ay (Ap (Ap (Ay (Ap (KW.q ?_))))))))))
   exact⟨_,rfl,by rw[zG hx (by simpa using h16)];exact decide_eq_true oQ,hW⟩
  replace h16:=dQ h16
  refine Aj (Ad (Ac (Aa (U (.ic rfl oQ) (I rfl (LW.nil (Ar ?_)))))))
  exact⟨k+1,⟨by omega,kE hx hn (by simpa using h16),hW⟩,tQ,by omega⟩
 replace h9:=dQ h9
 refine A4 (Ab (Ab (An (Ac (Af (Az (Ai (Al (KW.q ?_)))))))))
 exact⟨-1,rfl,by rw[any_none (by rw[show k=l.length by omega,List.take_length]at hn;exact hn)];rfl,hW⟩
theorem T8(cf:Nat)(lb:Array Go.Value)(g:Cnd→Bool)(hen:∀args w,(callFunc cf args).run Tryz.prog w=.ok (.enter cf args) w)(ad:Option Addr)(cp:Nat)(l:List Cnd)(w:World)(hE0:Els w ad 1 Cnd.cells l)(hl:l.length≤100000)(hp:∀W,Up w W→∀q∈l,Ret Tryz.prog cf (#[q.v]++lb) W fun r W'=>r=.bool (g q)∧Up W W'):Ret prog 87 #[.slice ad l.length cp,.func (.func cf) #[] lb] w fun r w'=>r=.bool (l.any g)∧Up w w':=by
 have hW:=Up.refl w
 obtain⟨w0,rfl,_⟩:=W0 w
 refine cT 9 func87 rfl (Af (Az (Am (Aa (I rfl (I rfl (A6 (eC (.u rfl rfl) (DG)) rfl (cV cf lb g hen ad cp l _ (Els.up hE0 hW) hl (fun W u q hq=>hp W (hW.trans u) q hq)) ?_)))))))
 rintro _ w1 ⟨i,rfl,hi,uw1⟩
 replace hW:=hW.up uw1
 refine U (.geq (.t rfl) (.const _)) (LW.A rfl (Ai (Al (KW.q ?_))))
 exact⟨by rw[hi],hW⟩
theorem Zh(x:Fact)(B:Nat)(ad:Option Addr)(cp:Nat)(qs:List Cnd)(w:World)(hB:Blk w B #[.slice ad qs.length cp] 95)(hE0:Els w ad 1 Cnd.cells qs)(hl:qs.length≤100000)(hq:pG Tryz.prog w qs):Ret prog 86 #[.agg x.cells,.pointer (some ⟨B,0,none⟩)] w fun r w'=>r=.bool (qs.any fun q=>q.p x)∧Up w w':=by
 obtain⟨w0,rfl,hS⟩:=W0 w
 refine cT 7 func86 rfl (Af (Ao (.bA rfl) rfl ?_))
 rintro _ w1 ⟨B2,rfl,NB2⟩
 replace hS:=hS.Cg NB2
 refine Az (Am (Aa (U (.lb rfl ((hB.up hS.Ch).Ak rfl)) (U (.makeFunc (.cu rfl)) (A6 (eC (.u rfl rfl) (IC)) rfl (T8 88 #[.pointer (some ⟨B2,0,none⟩)] (fun q=>q.p x) IE ad cp qs _ (Els.up hE0 hS.Ch) hl (fun W u q hm=>kG q.v q.p x B2 W ((hq q hm).up (hS.Ch.trans u)) (hS.b0.up u))) ?_)))))
 rintro _ w2 ⟨rfl,uw2⟩
 replace hS:=hS.up uw2
 refine LW.A rfl (Ai (Al (KW.q ?_)))
 exact⟨rfl,hS.Ch⟩
end Go.Proofs.YtdilcdgjklimoaaGreatDoor
