import Derived.Test.YtdilcdgjklimoaaGreatDoorKR117
import Derived.DeepKeys4
namespace Go.Wx
structure Ar2 where
 a:Int
 b:Int
deriving DecidableEq
def Ar2.cells(g:Ar2):Array Go.Value:=#[vi g.a,vi g.b]
theorem Ar2.one(g:Ar2):g.cells.all (·.oneCell')=true:=by simp[Ar2.cells,Value.oneCell']
def Ar2.ok(g:Ar2):Prop:=Q4 g.a∧Q4 g.b
def Tl:Mk.KT Ar2 where
 vk g:=.agg g.cells
 ok g:=g.ok
 inj {a b} h:=by
   obtain⟨a1,a2⟩:=a
   obtain⟨b1,b2⟩:=b
   simp only[Ar2.cells,Value.agg.injEq,Array.mk.injEq,List.cons.injEq,Value.int.injEq,true_and,and_true]at h
   obtain⟨rfl,rfl⟩:=h
   rfl
end Go.Wx
namespace Go.Proofs.YtdilcdgjklimoaaGreatDoor
open Go.Proofs.Tryz
open Go.Wx Go.RowKit
theorem pW:laidOutB Tryz.prog=true:=by kernel_rfl
theorem FJ:(108:TypeId)<Tryz.prog.types.size:=of_decide_eq_true kQ
theorem FK:Tryz.prog.keyType 108=true:=by kernel_rfl
theorem zW:3≤Tryz.prog.types.size:=of_decide_eq_true kQ
theorem Zu:Tryz.prog.cellsOf 108=2:=by kernel_rfl
theorem pX:Tryz.prog.cellsOf 3=1:=by kernel_rfl
theorem pY{i:Int}(h:Q4 i):(Lit.int .i64 i).wf=true:=by
 obtain⟨h1,h2⟩:=h
 have e1:IntKind.i64.min= -9223372036854775808:=by decide
 have e2:IntKind.i64.max=9223372036854775807:=by decide
 show(decide (IntKind.i64.min≤i)&&decide (i≤IntKind.i64.max))=true
 rw[e1,e2,decide_eq_true h1,decide_eq_true h2]
 rfl
theorem uL(s:Ar2)(h:s.ok):∃l,keyOf Tryz.prog 108 (Tl.vk s)=some l:=by
 obtain⟨l,r⟩:=s
 obtain⟨h1,h2⟩:=h
 have e1:=pY h1
 have e2:=pY h2
 obtain⟨m,hm⟩:∃m,Tryz.prog.types.size+1=m+4:=⟨Tryz.prog.types.size-3,by have:=zW;omega⟩
 unfold keyOf
 simp only[underlying108]
 rw[if_pos (by simp[FK,Value.formed,underlying108,Zu,Tl,Ar2.cells]),hm]
 simp[Program.keyLits,underlying108,underlying3,Zu,pX,Tl,Ar2.cells,Value.cells,e1,e2,List.range_succ]
theorem pZ:Tl.Law Tryz.prog 108:=Mk.KT.Law.of (deep_law_laid pW (m:=3) oQ FJ kQ (by rw[underlying108])) uL
end Go.Proofs.YtdilcdgjklimoaaGreatDoor
namespace Go.Wx
open Go.Wx.Mk
def uN(s:Ar2):Array Go.Value:=#[.agg s.cells]
end Go.Wx
namespace Go.Proofs.YtdilcdgjklimoaaGreatDoor
open Go.Proofs.Tryz
open Go.Wx Go.RowKit
namespace Hk
theorem Ke(b:Nat)(w:World):Ret prog 40 #[.map (some b)] w fun r w'=>(∃B,r=.func (.func 105) #[] #[.pointer (some ⟨B,0,none⟩)]∧Blk w' B #[.map (some b)] 105∧w.heap.size≤B)∧Up w w':=by
 have hW:=Up.refl w
 refine cT 4 func40 rfl (Af (Ao (.Km (.t rfl) rfl) rfl ?_))
 rintro _ w1 ⟨B1,rfl,NB1⟩
 have eB1:=NB1.at_
 replace hW:=hW.up NB1.up
 have hB1:=NB1.blk
 refine Az (Am (Aa (U (.makeFunc (.cu rfl)) (LW.A rfl (Ai (Al (KW.q ?_)))))))
 exact⟨⟨_,rfl,hB1,by omega⟩,hW⟩
theorem Jh(X Y:Nat→Prop)(B1 b:Nat)(kv:List (Int×Value))(w:World)(hYY:∀i,Y i→i<w.heap.size)(hQX:¬X B1)(hbY:¬Y b)(hQ0:Blk w B1 #[.map (some b)] 105)(hM0:IMap w b kv):
   IterS Tryz.prog 105 #[.pointer (some ⟨B1,0,none⟩)] A5 X Y (fun ys=>ys.Perm (kv.map (·.1))) (fun pre=>pre.Nodup∧∀k∈pre,k∈kv.map (·.1)) kv.length w:=by
 refine IterS.of ?_
 intro lp J Jx w0 hUw _ hY hJ
 obtain⟨Bd,hBd⟩:∃Bd,Bd=w0.heap.size:=⟨_,rfl⟩
 rw[←hBd]at hJ hY
 have zU:=hUw.size
 have hQ:=hQ0.up hUw
 have hM:=hM0.up hUw
 have zQ0:=hQ.lt
 refine cT 14 func105 rfl (Af (U (.lb rfl (hQ.Ak rfl)) (Ao (.range underlying105 (.t rfl) hM) rfl ?_)))
 rintro _ w1 ⟨r5,rfl,hR5,uw1,ew1,zw1⟩
 replace hQ:=hQ.up uw1
 replace hM:=hM.up uw1
 replace hJ:=hJ.up uw1
 refine Ai (Ae (CW.loop (σ:=List Int) (fun s w=>Jw Bd J s w∧Blk w B1 #[.map (some b)] 105∧IRng w b r5 kv s) (fun s=>[(0,.eq (.func (.yield lp) #[] #[])),(5,.eq (.pointer (some ⟨r5,0,none⟩)))]) (fun s=>kv.length-s.length) [] ?_ ?_ ?_))
 ·exact⟨hJ,hQ,hR5⟩
 ·exact tQ
 rintro done w2 ⟨hJ,hQ,hR5⟩
 have zQ:=hQ.lt
 refine Af (Ao (.next (.t rfl) hR5) rfl ?_)
 rintro _ w3 (⟨rfl,rfl,hPm⟩|⟨k,u,rfl,hNx⟩)
 ·skip
  refine U (.xt rfl rfl) (Am (CW.f rfl (A4 (Ab (Ab (An (Dg rfl ⟨_,rfl,?_⟩)))))))
  exact .inl ⟨_,hPm,hJ.j⟩
 skip
 obtain⟨_,ho,hwk⟩:=hNx.walk
 replace hJ:=hJ.walk hNx.grown oQ ho hwk
 replace hQ:=hQ.sto hNx.sto oQ
 replace hR5:=hNx.rng
 have zw3:=hNx.size
 refine U (.xt rfl rfl) (Am (CW.v rfl (Aj (Ac (Ae (Af (Ao (.entry (.t rfl) hNx.entry) rfl ?_)))))))
 rintro _ _ ⟨rfl,rfl⟩
 refine U (.xt rfl rfl) (LW.A rfl (Am (Aa (I rfl (I rfl (LW.y (.t rfl) (.cu rfl) rfl rfl (hY done k _ hJ (by have:=hR5.length;simp at this;omega)) ?_))))))
 rintro _ w4 ⟨y,rfl,hcase⟩
 refine U (.n1 rfl) (Ai (CW.b rfl (fun h13=>?_) (fun h13=>?_)))
 ·have hy:y=false:=by simpa using h13
  subst hy
  obtain⟨_,hJx⟩:=hcase.resolve_left (by simp)
  refine Al (Ay (Ap (Ay (Gp rfl ⟨_,rfl,?_⟩))))
  exact .inr ⟨_,hR5.sub,hJx⟩
 have hy:y=true:=by simpa using h13
 subst hy
 obtain⟨_,hJ2,hN⟩:=hcase.resolve_right (by simp)
 replace hQ:=hQ.kx hN hQX
 replace hR5:=hR5.kx hN hbY (fun h=>by have:=hYY _ h;omega)
 refine Aj (Ad (Ar ?_))
 exact⟨done++[k],⟨hJ2,hQ,hR5⟩,tQ,by have:=hR5.length;simp at this⊢;omega⟩
end Hk
theorem kU(b:Nat)(w:World):Ret prog 38 #[.map (some b)] w fun r w'=>(∃B,r=.func (.func 103) #[] #[.pointer (some ⟨B,0,none⟩)]∧Blk w' B #[.map (some b)] 104∧w.heap.size≤B)∧Up w w':=by
 have hW:=Up.refl w
 refine cT 4 func38 rfl (Af (Ao (.Km (.t rfl) rfl) rfl ?_))
 rintro _ w1 ⟨B1,rfl,NB1⟩
 have eB1:=NB1.at_
 replace hW:=hW.up NB1.up
 have hB1:=NB1.blk
 refine Az (Am (Aa (U (.makeFunc (.cu rfl)) (LW.A rfl (Ai (Al (KW.q ?_)))))))
 exact⟨⟨_,rfl,hB1,by omega⟩,hW⟩
theorem dO(X Y:Nat→Prop)(B1 b:Nat)(kv:List (Ar2×Go.Value))(w:World)(hYY:∀i,Y i→i<w.heap.size)(hQX:¬X B1)(hbY:¬Y b)(hQ0:Blk w B1 #[.map (some b)] 104)(hM0:Mk.IMap Tl w b kv):
   IterS Tryz.prog 103 #[.pointer (some ⟨B1,0,none⟩)] uN X Y (fun ys=>ys.Perm (kv.map (·.1))) (fun pre=>pre.Nodup∧∀k∈pre,k∈kv.map (·.1)) kv.length w:=by
 refine IterS.of ?_
 intro lp J Jx w0 hUw _ hY hJ
 obtain⟨Bd,hBd⟩:∃Bd,Bd=w0.heap.size:=⟨_,rfl⟩
 rw[←hBd]at hJ hY
 have zU:=hUw.size
 have hQ:=hQ0.up hUw
 have hM:=hM0.up hUw
 have zQ0:=hQ.lt
 refine cT 14 func103 rfl (Af (U (.lb rfl (hQ.Ak rfl)) (Ao (Mk.REv.range (Q:=Tl) underlying104 (.t rfl) hM) rfl ?_)))
 rintro _ w1 ⟨r5,rfl,hR5,uw1,ew1,zw1⟩
 replace hQ:=hQ.up uw1
 replace hM:=hM.up uw1
 replace hJ:=hJ.up uw1
 refine Ai (Ae (CW.loop (σ:=List Ar2) (fun s w=>Jw Bd J s w∧Blk w B1 #[.map (some b)] 104∧Mk.IRng Tl w b r5 kv s) (fun s=>[(0,.eq (.func (.yield lp) #[] #[])),(5,.eq (.pointer (some ⟨r5,0,none⟩)))]) (fun s=>kv.length-s.length) [] ?_ ?_ ?_))
 ·exact⟨hJ,hQ,hR5⟩
 ·exact tQ
 rintro done w2 ⟨hJ,hQ,hR5⟩
 have zQ:=hQ.lt
 refine Af (Ao (Mk.REv.next (.t rfl) hR5) rfl ?_)
 rintro _ w3 (⟨rfl,rfl,hPm⟩|⟨k,u,rfl,hNx⟩)
 ·skip
  refine U (.xt rfl rfl) (Am (CW.f rfl (A4 (Ab (Ab (An (Dg rfl ⟨_,rfl,?_⟩)))))))
  exact .inl ⟨_,hPm,hJ.j⟩
 skip
 obtain⟨_,ho,hwk⟩:=hNx.walk
 replace hJ:=hJ.walk hNx.grown oQ ho hwk
 replace hQ:=hQ.sto hNx.sto oQ
 replace hR5:=hNx.rng
 have zw3:=hNx.size
 refine U (.xt rfl rfl) (Am (CW.v rfl (Aj (Ac (Ae (Af (Ao (.entry (.t rfl) hNx.entry) rfl ?_)))))))
 rintro _ _ ⟨rfl,rfl⟩
 refine U (.xt rfl rfl) (Ao (.Br zeroValue108) rfl ?_)
 rintro _ w4 ⟨B3,rfl,MB3⟩
 refine A9 (.Ca sizeOf108 rfl (.t rfl) (.t rfl) (Ar2.one _) MB3.blk rfl) ?_
 intro w5 LB3
 have NB3:=MB3.set LB3
 replace hJ:=hJ.up NB3.up
 replace hQ:=hQ.up NB3.up
 replace hR5:=hR5.up NB3.up
 have hB3:=NB3.blk
 refine Am (Aa (I rfl (U (.lc rfl (hB3.agg)) (LW.y (.t rfl) (.cu rfl) rfl rfl (hY done k _ hJ (by have:=hR5.length;simp at this;omega)) ?_))))
 rintro _ w6 ⟨y,rfl,hcase⟩
 refine U (.n1 rfl) (Ai (CW.b rfl (fun h13=>?_) (fun h13=>?_)))
 ·have hy:y=false:=by simpa using h13
  subst hy
  obtain⟨_,hJx⟩:=hcase.resolve_left (by simp)
  refine Al (Ay (Ap (Ay (Gp rfl ⟨_,rfl,?_⟩))))
  exact .inr ⟨_,hR5.sub,hJx⟩
 have hy:y=true:=by simpa using h13
 subst hy
 obtain⟨_,hJ2,hN⟩:=hcase.resolve_right (by simp)
 replace hQ:=hQ.kx hN hQX
 replace hR5:=hR5.kx hN hbY (fun h=>by have:=hYY _ h;omega)
 refine Aj (Ad (Ar ?_))
 exact⟨done++[k],⟨hJ2,hQ,hR5⟩,tQ,by have:=hR5.length;simp at this⊢;omega⟩
theorem Su(g:Nat)(lb:Array Go.Value)(S Sp:List Ar2→Prop)(N:Nat)(w:World)(en:∀args w,(callFunc g args).run Tryz.prog w=.ok (.enter g args) w)(hit:∀W(X Y:Nat→Prop),Up w W→(∀i,X i→w.heap.size≤i)→(∀i,Y i→w.heap.size≤i∧i<W.heap.size)→IterS Tryz.prog g lb uN X Y S Sp N W)(hN0:N≤1000000000):Ret prog 180 #[.slice none 0 0,.func (.func g) #[] lb] w fun r w'=>∃ks,S ks∧(J 108 2 Ar2.cells r ks).holds w'∧(∀i,(J 108 2 Ar2.cells r ks).foot i→w.heap.size≤i)∧Up w w':=by
 obtain⟨w0,rfl,_⟩:=W0 w
 have hS:=(Sep.start no w0).dB
 refine E4 (n:=13) func180 rfl rfl rfl (Af (Ao (.Km (.t rfl) rfl) rfl ?_))
 rintro _ w1 ⟨B2,rfl,NB2⟩
 replace hS:=hS.Cg NB2
 refine Az (Am (Af (I rfl (Ai (Ae ?_)))))
 obtain⟨bq,hbq⟩:∃bq,bq=w1.heap.size:=⟨_,rfl⟩
 replace hS:=hS.add (Up.refl _) (A':=J 108 2 Ar2.cells (.slice none 0 0) ([]:List Ar2)) (OwnS.nil _ _ _ _ _) (fun i h=>by cases h)
 refine P0 (Zs:=[_]) (σ:=Go.Value×List Ar2) (fun s=>[Bq B2 #[s.1] 112,J 108 2 Ar2.cells s.1 s.2]) (fun pre s=>(s.2=pre)) (fun _ _ _=>False) (fun x b=>[Bq b x.cells 108]) (fun x b=>[(5,.eq (.pointer (some ⟨b,0,none⟩))),(2,.eq (.pointer (some ⟨B2,0,none⟩)))]) (.slice none 0 0,[]) (.t rfl) en (hit _ _ _ hS.Ch (fun i h=>h.1.elim (fun h=>h.elim) id) (fun i h=>⟨h.1.elim (fun h=>h.elim) id,h.2.1⟩)) (fun _=>rfl) rfl (fun _ _=>rfl) (show Wx.Sep _ _ _ ([_]++[_,_])from hS) rfl ?_ ?_ ?_ ?_
 ·intro lp x w2
  have hS:=Sep.start no w2
  refine Ia rfl (Aa (Ao (.Br zeroValue108) rfl ?_))
  rintro _ w3 ⟨B5,rfl,MB5⟩
  refine A9 (.Ca sizeOf108 rfl (.t rfl) (.t rfl) (Ar2.one _) MB5.blk rfl) ?_
  intro w4 LB5
  have NB5:=MB5.set LB5
  replace hS:=hS.Cg NB5
  refine LW.nil ?_
  exact fun a ha=>⟨_,hS,.cons (O9 hS.b0) (.nil _ _),ha.sub tQ⟩
 ·rintro lp pre x ⟨v,ks⟩ b w5 hJ hlt hqw hS0 hS
  rw[←hbq]at hqw⊢
  subst hJ
  dsimp only at hlt
  refine Ae (Aa (U (.lb rfl (hS.b0.Ak rfl)) (U (.lc rfl (hS.b2.agg)) (Ao (.buildSlice (xs:=[x]) (enc:=Ar2.cells) (mk:=fun s:Ar2=>.agg s.cells) underlying112 sizeOf108 zeroValue108 rfl cQ (fun _=>rfl) (fun _=>rfl) (.cu rfl) rfl) rfl ?_))))
  rintro _ w6 ⟨B10,cB10,rfl,NB10,yB10,xB10⟩
  replace hS:=hS.up NB10.up
  have hE10:=xB10
  refine Ao (.Cu (enc:=Ar2.cells) (bytes:=16) (i:=Tryz.t108) underlying112 kQ rfl rfl rfl rfl cQ (fun _=>rfl) Ar2.one (.t rfl) (.t rfl) (hS.own 1 rfl) (Av hE10) (by simp only[maxLen,List.length_cons,List.length_nil];omega) (by simp only[List.length_cons,List.length_nil];omega)) rfl ?_
  intro v11 w7 Gw7
  replace hS:=hS.Dw 1 rfl Gw7
  refine A9 (.store sizeOf112 (.t rfl) (.t rfl) (hS.own 1 rfl).one hS.b0 bQ) ?_
  intro w8 Nw8
  replace hS:=hS.Dz 0 rfl Nw8
  refine LW.nil (Ad ?_)
  exact fun _ _=>⟨(v11,ks++[x]),_,rfl,hS,.cons (O9 hS.b0) (.cons (uF (hS.own 1 rfl)) (.nil _ _))⟩
 ·rintro Dm ys ⟨v,ks⟩ w9 hDq hYs hJ hqw hS
  rw[←hbq]at hDq hqw
  replace hS:=Qr (Ds:=[]) (As:=[]) (Bs:=[_,_]) hS
  refine Ad (Ac (Af (U (.lb rfl (hS.b1.Ak rfl)) (LW.A rfl (Ai (Al (Kh rfl (Dm::[]) _ (hS.get 0 rfl).1 (hS.get 0 rfl).2 ?_)))))))
  intro w10 hF_
  replace hS:=hS.step 0 rfl (A':=dC) hF_ trivial (fun _ h=>h.elim)
  refine KW.q ?_
  obtain⟨rfl⟩:=hJ
  exact⟨ks,hYs,hS.get 2 rfl,fun i hi=>(hS.foot 2 rfl i hi).elim (fun h=>h.elim) id,hS.Ch⟩
 exact fun _ _ _ _ _ _ _ h=>h.elim
theorem Ws(g:Nat)(lb:Array Go.Value)(S Sp:List Ar2→Prop)(N:Nat)(w:World)(en:∀args w,(callFunc g args).run Tryz.prog w=.ok (.enter g args) w)(hit:∀W(X Y:Nat→Prop),Up w W→(∀i,X i→w.heap.size≤i)→(∀i,Y i→w.heap.size≤i∧i<W.heap.size)→IterS Tryz.prog g lb uN X Y S Sp N W)(hN0:N≤1000000000):Ret prog 101 #[.func (.func g) #[] lb] w fun r w'=>∃ks,S ks∧(J 108 2 Ar2.cells r ks).holds w'∧(∀i,(J 108 2 Ar2.cells r ks).foot i→w.heap.size≤i)∧Up w w':=by
 have hW:=Up.refl w
 refine cT 5 func101 rfl (Af (Az (Am (Aa (I rfl (A6 (eC (.cons (.const _) (.cu rfl)) (DL)) rfl (Su _ _ _ _ _ _ en hit hN0) ?_))))))
 rintro _ w1 ⟨ks,hS,hO,hF,uw1⟩
 replace hW:=hW.up uw1
 refine LW.A rfl (Ai (Al (KW.q ?_)))
 exact⟨ks,hS,hO,hF,hW⟩
end Go.Proofs.YtdilcdgjklimoaaGreatDoor
