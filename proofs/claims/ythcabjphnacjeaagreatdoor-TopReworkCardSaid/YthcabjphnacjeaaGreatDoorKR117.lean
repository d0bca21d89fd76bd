import Derived.Test.YthcabjphnacjeaaGreatDoorKR116
import Derived.Lib.AppendZerosOnto
import Derived.Laws.AppendOwn
namespace Go.Wx
section
open Go.Lib
variable {P:Program}{n:Nat}{ds:List Deferred}{l:Env}{w:World}{d:Option Tmp}{ty:TypeId}{ps:String}{af:Array Edge}{g:Option (Nat×Bool)}
theorem PEv.FO{T e:TypeId}{x:Operand}{ad:Option Addr}{k c:Nat}(hT:P.underlying T=some (.slice e))(hx:Val l x (.slice ad k c)):
   PEv P n ds l w ⟨d,.call { callee:=.builtin .cap,args:=#[x],argTypes:=#[T] },ty,ps,af,g⟩ (.int .i64 (c:Int)):=fun a w' ha _=>by
 rw[BigFrame.execOp_builtin,BigFrame.builtin_cap]
 refine Cy ?_
 simp[Builtin.cap_,run_underlying hT,Sem.run_bind,goInt,ha.ev hx]
theorem REv.uF{T tn e:TypeId}{i:TypeInfo}{s x:Operand}{kn:IntKind}(hT:P.underlying T=some (.slice e))(hn:P.underlying tn=some (.int kn))(hi:P.info? e=some i)(hz:i.zero=some (vi 0))(hsz:i.size=1)(hb:i.bytes=8)(hs:Val l s (.slice none 0 0))(hx:Val l x (vi 3)):
   REv P n ds l w ⟨d,.call { callee:=.builtin .append,args:=#[s,x],argTypes:=#[T,tn] },ty,ps,af,g⟩ (fun v w'=>∃B cp,v=.slice (some ⟨B,0,none⟩) 3 cp∧w.heap.size≤B∧OwnS w' 0 e 1 A4 (.slice (some ⟨B,0,none⟩) 0 cp) ([]:List Int)∧Up w w'):=fun a ha=>by
 have hold:(Builtin.firstCells i.size 0 (.slice none 0 0)).run P w.drew=.ok ([]:List Value).toArray w.drew:=run_firstCells_none w.drew i.size 0 0 0
 have hr:=run_append_grow_zeros (P:=P) w T tn ty e i (vi 0) .i64 kn hT hn hi hz none 0 0 [] hold 3 cQ oQ cQ cQ (by rw[hb];decide) (by rw[hb];decide)
 have N:=New.alloc w.drew (([]:List Value).toArray++Builtin.zeroCells (vi 0).cells 3++Builtin.zeroCells (vi 0).cells (grownCap w (0+3) 0 e-(0+3))) e
 have hc:=grownCap_ge w (0+3) 0 e
 have hm:=grownCap_le_maxLen w (0+3) 0 e cQ
 refine⟨_,_,?_,w.heap.size,grownCap w (0+3) 0 e,rfl,bi _,⟨rfl,.inr ⟨w.heap.size,grownCap w (0+3) 0 e,_,rfl,a_ _,N.blk,a_ _,hm,?_,by simp⟩⟩,(Up.drew w).trans N.up⟩
 · simp only[execOp,resolve,invoke,builtin,Sem.run_bind,Sem.run_pure,Result.andThen_ok,f9,c9,fy,ha.ev hs,ha.ev hx]
   rw[show(Builtin.append_ #[T,tn] ty #[.slice none 0 0,vi 3]).run P w=_ from hr]
   rfl
 simp only[Array.size_append,size_zeroCells,show(vi 0).cells.size=1 from rfl,jd,bp]
 omega
end
structure IL where
 ad:Option Addr
 l:List Int
 cp:Nat
def IL.cells(s:IL):Array Value:=#[.slice s.ad s.l.length s.cp]
theorem wX{L:List IL}(h:∀s∈L,s.l.length=1){k:Nat}:((L.take k).flatMap (·.l)).length=(L.take k).length:=by
 have:∀M:List IL,(∀s∈M,s.l.length=1)→(M.flatMap (·.l)).length=M.length:=by
   intro M hM
   induction M with
   |nil=>rfl
   |cons s M ih=>rw[cw,am,hM s bu,ih fun t ht=>hM t (b9 _ ht),a8,j5]
 exact this _ fun s hs=>h s (iw hs)
end Go.Wx
namespace Go.Proofs.YthcabjphnacjeaaGreatDoor
open Go.Proofs.Tryz
open Go.Wx Go.RowKit
theorem kX(w:World):Ret prog 192 #[.slice none 0 0,vi 3] w fun r w'=>∃B cp,r=.slice (some ⟨B,0,none⟩) 0 cp∧w.heap.size≤B∧OwnS w' 0 3 1 A4 (.slice (some ⟨B,0,none⟩) 0 cp) ([]:List Int)∧Up w w':=by
 have hW:=Up.refl w
 refine cT 27 func192 rfl (Ae (Az (An (Ae (I rfl (U (.fa (PEv.lss (.t rfl) (.const _)) (rfl)) (Ah (CW.f rfl (Aj (Ab (Ak (Ae (I rfl (I rfl (U (.FO ky (.t rfl)) (I rfl (U (.Cl ky (.t rfl)) (U (.sub (.t rfl) (.t rfl) oQ oQ) (U (.sub (.t rfl) (.t rfl) oQ oQ) (LW.A rfl (An (Aa (I rfl (U (.tr (PEv.gtr (.t rfl) (.const _)) (rfl)) (Ah (CW.v rfl (Aa (I rfl (I rfl (U (.FO ky (.t rfl)) (U (.L4 ky k6 (.t rfl) (.t rfl) oQ) (I rfl (Ap (.uF (i:=Tryz.t3) ky k9 kQ rfl rfl rfl (.t rfl) (.t rfl)) rfl ?_)))))))))))))))))))))))))))))))))
 rintro _ w1 ⟨B,cpB,rfl,zB,hO,uB⟩
 replace hW:=hW.up uB
 refine I rfl (U (.Cl ky (.t rfl)) (U (.L4 ky k6 (.t rfl) (.t rfl) oQ) (LW.A rfl (An (Aa (I rfl (LW.A rfl (Ah (Am (KW.q ?_))))))))))
 exact⟨_,_,rfl,zB,hO,hW⟩
theorem Zy(ad:Option Addr)(cp:Nat)(L:List IL)(w:World)(hE:Els w ad 1 IL.cells L)(hl:L.length=3)(hL:∀s∈L,s.l.length=1∧Els w s.ad 1 A4 s.l):Ret prog 100 #[.slice ad 3 cp] w fun r w'=>OwnS w' w.heap.size 3 1 A4 r (L.flatMap (·.l))∧Up w w':=by
 obtain⟨w0,rfl,hS⟩:=W0 w
 refine cT 36 func100 rfl (Ae (Az (An (Aa (Az (An (Ae (I rfl (U (.Cl me (.t rfl)) (U (.move (.const _)) (Ah (Ai (A7 (σ:=Nat) (fun s w=>(s≤3)∧(Wx.Sep no w0 w [])) (fun s=>[(11,.eq (vi (s:Int))),(3,.eq (vi (s:Int)))]) ([(0,.eq _),(2,.eq _),(9,.eq _),(10,.eq _)]) (fun s=>3-s) 0 ?_ tQ ?_)))))))))))))
 ·exact⟨a_ _,hS⟩
 rintro k w1 ⟨hk,hS⟩
 refine Ae (U (.l2 rfl rfl) (An (CW.b rfl (fun h12=>?_) (fun h12=>?_))))
 ·replace h12:=dQ h12
  refine Aj (Ab (Ak (Ai (Ak ?_))))
  have hk3:k<3:=co.1 h12
  obtain⟨s,hs⟩:=Af (xs:=L) (i:=k) oQ
  obtain⟨Bs,os,as_,hcs⟩:=hE k s hs
  obtain⟨hs1,hsE⟩:=hL s (ai hs)
  refine Aa (U (.Ao me mr (j:=k) (.t rfl) (.t rfl) oQ as_) (U (.lb rfl (((hcs.up hS.Ch).nth (j:=0) rfl))) (LW.A rfl (An (Aa (I rfl (I rfl (U (.Cl ky (.t rfl)) (U (.Dr (v':=vi ((k+1:Nat):Int)) (PEv.add (.t rfl) (.t rfl) (by rw[hs1];omega) (by rw[hs1];omega)) (by rw[hs1];rfl)) (LW.A rfl (An (Aa (I rfl (U (.fa (PEv.lss (.t rfl) (.const _)) (bx oQ)) (Ah (CW.f rfl (Aj (Al (Ab (Aa (U (.ic rfl oQ) (I rfl (LW.nil (Av ?_))))))))))))))))))))))))
  exact⟨k+1,⟨by omega,hS⟩,tQ,by omega⟩
 replace h12:=dQ h12
 refine A9 (Ac (Ac (Aq (Ab (Ak ?_)))))
 have hk3:k=3:=by have:¬k<3:=fun h=>h12 (co.2 h);omega
 subst hk3
 refine Aa (I rfl (A3 (eC (.cons (.const _) (.cu rfl)) (DI)) rfl (kX _) ?_))
 rintro _ w2 ⟨B,cpB,rfl,zB,hOB,uw2⟩
 replace hS:=hS.add uw2 (A':=Aw 3 1 A4 (.slice (some ⟨B,0,none⟩) 0 cpB) ([]:List Int)) (hOB) (fun i h=>by cases h;exact zB)
 refine LW.A rfl (An (Ae (I rfl (U (.Cl me (.t rfl)) (U (.move (.const _)) (Ah (Ai (A7 (σ:=Nat×Go.Value) (fun s w=>(s.1≤3)∧(Wx.Sep no w0 w [Aw 3 1 A4 s.2 ((L.take s.1).flatMap (·.l))])) (fun s=>[(27,.eq (vi (s.1:Int))),(6,.eq (s.2))]) ([(2,.eq _),(25,.eq _),(26,.eq _)]) (fun s=>3-s.1) (0,.slice (some ⟨B,0,none⟩) 0 cpB) ?_ tQ ?_))))))))
 ·exact⟨a_ _,hS⟩
 rintro⟨k,v⟩ w3 ⟨hk,hS⟩
 change CW _ _ _ _ _ _ _ ([(27,.eq (vi (k:Int))),(6,.eq (v))]++_) _
 refine Ae (U (.l2 rfl rfl) (An (CW.b rfl (fun h28=>?_) (fun h28=>?_))))
 ·replace h28:=dQ h28
  refine Aj (Ab (Ak (Ai (Ak ?_))))
  have hk3:k<3:=co.1 h28
  obtain⟨s,hs⟩:=Af (xs:=L) (i:=k) oQ
  obtain⟨Bs,os,as_,hcs⟩:=hE k s hs
  obtain⟨hs1,hsE⟩:=hL s (ai hs)
  refine Aa (U (.Ao me mr (j:=k) (.t rfl) (.t rfl) oQ as_) (U (.lb rfl (((hcs.up hS.Ch).nth (j:=0) rfl))) (LW.A rfl (Ah (Aa (I rfl (I rfl (Ap (.Df (enc:=A4) (bytes:=8) (i:=Tryz.t3) ky kQ rfl rfl rfl rfl cQ (fun _=>rfl) Er (.t rfl) (.t rfl) (hS.own 0 rfl) (Ay (Els.up hsE hS.Ch)) (by rw[wX (fun s h=>(hL s h).1),ca,hs1];simp[maxLen];omega) (by rw[wX (fun s h=>(hL s h).1),ca,hs1];omega)) rfl ?_))))))))
  intro v33 w4 Gw4
  replace hS:=hS.Ft 0 rfl Gw4
  refine LW.A rfl (LW.nil (Al (Ab (Aa (U (.ic rfl oQ) (I rfl (LW.nil (Av ?_))))))))
  exact⟨(k+1,v33),⟨by show k+1≤3;omega,by rw[Da hs,jx,show[s].flatMap (·.l)=s.l by simp];exact hS⟩,tQ,by show 3-(k+1)<3-k;omega⟩
 replace h28:=dQ h28
 refine A9 (Ac (Ac (Aq (Ab (Ae (I rfl (LW.A rfl (Ah (Am (KW.q ?_))))))))))
 have hk3:k=L.length:=by have:¬k<3:=fun h=>h28 (co.2 h);omega
 rw[hk3,b7]at hS
 exact⟨(hS.own 0 rfl).Gn (fun i h=>(hS.foot 0 rfl i h).resolve_left (fun h=>h)),hS.Ch⟩
end Go.Proofs.YthcabjphnacjeaaGreatDoor
