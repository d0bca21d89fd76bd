import Derived.Test.YtnpgbbaniknpkaaGreatDoorKR116
import Derived.Lib.AppendZerosOnto
import Derived.Laws.AppendOwn
namespace Go.Wx
section
open Go.Lib
variable {P:Program}{n:Nat}{ds:List Deferred}{l:Env}{w:World}{d:Option Tmp}{ty:TypeId}{ps:String}{af:Array Edge}{g:Option (Nat×Bool)}
theorem PEv.HH{T e:TypeId}{x:Operand}{ad:Option Addr}{k c:Nat}(hT:P.underlying T=some (.slice e))(hx:Val l x (.slice ad k c)):
   PEv P n ds l w ⟨d,.call { callee:=.builtin .cap,args:=#[x],argTypes:=#[T] },ty,ps,af,g⟩ (.int .i64 (c:Int)):=fun a w' ha _=>by
 rw[BigFrame.execOp_builtin,BigFrame.builtin_cap]
 refine C0 ?_
 simp[Builtin.cap_,run_underlying hT,Sem.run_bind,goInt,ha.ev hx]
theorem REv.vY{T tn e:TypeId}{i:TypeInfo}{s x:Operand}{kn:IntKind}(hT:P.underlying T=some (.slice e))(hn:P.underlying tn=some (.int kn))(hi:P.info? e=some i)(hz:i.zero=some (vi 0))(hsz:i.size=1)(hb:i.bytes=8)(hs:Val l s (.slice none 0 0))(hx:Val l x (vi 3)):
   REv P n ds l w ⟨d,.call { callee:=.builtin .append,args:=#[s,x],argTypes:=#[T,tn] },ty,ps,af,g⟩ (fun v w'=>∃B cp,v=.slice (some ⟨B,0,none⟩) 3 cp∧w.heap.size≤B∧OwnS w' 0 e 1 A3 (.slice (some ⟨B,0,none⟩) 0 cp) ([]:List Int)∧Up w w'):=fun a ha=>by
 have hold:(Builtin.firstCells i.size 0 (.slice none 0 0)).run P w.drew=.ok ([]:List Value).toArray w.drew:=run_firstCells_none w.drew i.size 0 0 0
 have hr:=run_append_grow_zeros (P:=P) w T tn ty e i (vi 0) .i64 kn hT hn hi hz none 0 0 [] hold 3 cQ oQ cQ cQ (by rw[hb];decide) (by rw[hb];decide)
 have N:=New.alloc w.drew (([]:List Value).toArray++Builtin.zeroCells (vi 0).cells 3++Builtin.zeroCells (vi 0).cells (grownCap w (0+3) 0 e-(0+3))) e
 have hc:=grownCap_ge w (0+3) 0 e
 have hm:=grownCap_le_maxLen w (0+3) 0 e cQ
 refine⟨_,_,?_,w.heap.size,grownCap w (0+3) 0 e,rfl,bl _,⟨rfl,.inr ⟨w.heap.size,grownCap w (0+3) 0 e,_,rfl,a8 _,N.blk,a8 _,hm,?_,by simp⟩⟩,(Up.drew w).trans N.up⟩
 · simp only[execOp,resolve,invoke,builtin,Sem.run_bind,Sem.run_pure,Result.andThen_ok,f6,c8,fq,ha.ev hs,ha.ev hx]
   rw[show(Builtin.append_ #[T,tn] ty #[.slice none 0 0,vi 3]).run P w=_ from hr]
   rfl
 simp only[Array.size_append,size_zeroCells,show(vi 0).cells.size=1 from rfl,i6,bw]
 omega
end
structure IL where
 ad:Option Addr
 l:List Int
 cp:Nat
def IL.cells(s:IL):Array Value:=#[.slice s.ad s.l.length s.cp]
theorem yL{L:List IL}(h:∀s∈L,s.l.length=1){k:Nat}:((L.take k).flatMap (·.l)).length=(L.take k).length:=by
 have:∀M:List IL,(∀s∈M,s.l.length=1)→(M.flatMap (·.l)).length=M.length:=by
   intro M hM
   induction M with
   |nil=>rfl
   |cons s M ih=>rw[cw,ak,hM s b7,ih fun t ht=>hM t (b_ _ ht),bg,j9]
 exact this _ fun s hs=>h s (List.mem_of_mem_take hs)
end Go.Wx
namespace Go.Proofs.YtnpgbbaniknpkaaGreatDoor
open Go.Proofs.Tryz
open Go.Wx Go.RowKit
theorem mF(w:World):Ret prog 196 #[.slice none 0 0,vi 3] w fun r w'=>∃B cp,r=.slice (some ⟨B,0,none⟩) 0 cp∧w.heap.size≤B∧OwnS w' 0 3 1 A3 (.slice (some ⟨B,0,none⟩) 0 cp) ([]:List Int)∧Up w w':=by
 have hW:=Up.refl w
 refine cT 27 func196 rfl (Af (Az (An (Af (I rfl (U (.fa (PEv.lss (.t rfl) (.const _)) (rfl)) (Ah (CW.f rfl (Aj (Ac (Ai (Af (I rfl (I rfl (U (.HH k_ (.t rfl)) (I rfl (U (.Ck k_ (.t rfl)) (U (.sub (.t rfl) (.t rfl) oQ oQ) (U (.sub (.t rfl) (.t rfl) oQ oQ) (LW.A rfl (An (Aa (I rfl (U (.tr (PEv.gtr (.t rfl) (.const _)) (rfl)) (Ah (CW.v rfl (Aa (I rfl (I rfl (U (.HH k_ (.t rfl)) (U (.Ow k_ lg (.t rfl) (.t rfl) oQ) (I rfl (Ap (.vY (i:=Tryz.t3) k_ li kQ rfl rfl rfl (.t rfl) (.t rfl)) rfl ?_)))))))))))))))))))))))))))))))))
 rintro _ w1 ⟨B,cpB,rfl,zB,hO,uB⟩
 replace hW:=hW.up uB
 refine I rfl (U (.Ck k_ (.t rfl)) (U (.Ow k_ lg (.t rfl) (.t rfl) oQ) (LW.A rfl (An (Aa (I rfl (LW.A rfl (Ah (Am (KW.q ?_))))))))))
 exact⟨_,_,rfl,zB,hO,hW⟩
theorem aV(ad:Option Addr)(cp:Nat)(L:List IL)(w:World)(hE:Els w ad 1 IL.cells L)(hl:L.length=3)(hL:∀s∈L,s.l.length=1∧Els w s.ad 1 A3 s.l):Ret prog 105 #[.slice ad 3 cp] w fun r w'=>OwnS w' w.heap.size 3 1 A3 r (L.flatMap (·.l))∧Up w w':=by
 obtain⟨w0,rfl,hS⟩:=W0 w
 refine cT 36 func105 rfl (Af (Az (An (Aa (Az (An (Af (I rfl (U (.Ck mp (.t rfl)) (U (.move (.const _)) (Ah (Ak (A6 (σ:=Nat) (fun s w=>(s≤3)∧(Wx.Sep no w0 w [])) (fun s=>[(11,.eq (vi (s:Int))),(3,.eq (vi (s:Int)))]) ([(0,.eq _),(2,.eq _),(9,.eq _),(10,.eq _)]) (fun s=>3-s) 0 ?_ tQ ?_)))))))))))))
 ·exact⟨a8 _,hS⟩
 rintro k w1 ⟨hk,hS⟩
 refine Af (U (.l2 rfl rfl) (An (CW.b rfl (fun h12=>?_) (fun h12=>?_))))
 ·replace h12:=dQ h12
  refine Aj (Ac (Ai (Ak (Ai ?_))))
  have hk3:k<3:=cm.1 h12
  obtain⟨s,hs⟩:=Ae (xs:=L) (i:=k) oQ
  obtain⟨Bs,os,as_,hcs⟩:=hE k s hs
  obtain⟨hs1,hsE⟩:=hL s (ai hs)
  refine Aa (U (.Ao mp m4 (j:=k) (.t rfl) (.t rfl) oQ as_) (U (.lb rfl (((hcs.up hS.Ch).nth (j:=0) rfl))) (LW.A rfl (An (Aa (I rfl (I rfl (U (.Ck k_ (.t rfl)) (U (.Dt (v':=vi ((k+1:Nat):Int)) (PEv.add (.t rfl) (.t rfl) (by rw[hs1];omega) (by rw[hs1];omega)) (by rw[hs1];rfl)) (LW.A rfl (An (Aa (I rfl (U (.fa (PEv.lss (.t rfl) (.const _)) (br oQ)) (Ah (CW.f rfl (Aj (Al (Ac (Aa (U (.ic rfl oQ) (I rfl (LW.nil (Av ?_))))))))))))))))))))))))
  exact⟨k+1,⟨by omega,hS⟩,tQ,by omega⟩
 replace h12:=dQ h12
 refine A8 (Ab (Ab (Aq (Ac (Ai ?_)))))
 have hk3:k=3:=by have:¬k<3:=fun h=>h12 (cm.2 h);omega
 subst hk3
 refine Aa (I rfl (A4 (eC (.cons (.const _) (.cu rfl)) (EV)) rfl (mF _) ?_))
 rintro _ w2 ⟨B,cpB,rfl,zB,hOB,uw2⟩
 replace hS:=hS.add uw2 (A':=Aw 3 1 A3 (.slice (some ⟨B,0,none⟩) 0 cpB) ([]:List Int)) (hOB) (fun i h=>by cases h;exact zB)
 refine LW.A rfl (An (Af (I rfl (U (.Ck mp (.t rfl)) (U (.move (.const _)) (Ah (Ak (A6 (σ:=Nat×Go.Value) (fun s w=>(s.1≤3)∧(Wx.Sep no w0 w [Aw 3 1 A3 s.2 ((L.take s.1).flatMap (·.l))])) (fun s=>[(27,.eq (vi (s.1:Int))),(6,.eq (s.2))]) ([(2,.eq _),(25,.eq _),(26,.eq _)]) (fun s=>3-s.1) (0,.slice (some ⟨B,0,none⟩) 0 cpB) ?_ tQ ?_))))))))
 ·exact⟨a8 _,hS⟩
 rintro⟨k,v⟩ w3 ⟨hk,hS⟩
 change CW _ _ _ _ _ _ _ ([(27,.eq (vi (k:Int))),(6,.eq (v))]++_) _
 refine Af (U (.l2 rfl rfl) (An (CW.b rfl (fun h28=>?_) (fun h28=>?_))))
 ·replace h28:=dQ h28
  refine Aj (Ac (Ai (Ak (Ai ?_))))
  have hk3:k<3:=cm.1 h28
  obtain⟨s,hs⟩:=Ae (xs:=L) (i:=k) oQ
  obtain⟨Bs,os,as_,hcs⟩:=hE k s hs
  obtain⟨hs1,hsE⟩:=hL s (ai hs)
  refine Aa (U (.Ao mp m4 (j:=k) (.t rfl) (.t rfl) oQ as_) (U (.lb rfl (((hcs.up hS.Ch).nth (j:=0) rfl))) (LW.A rfl (Ah (Aa (I rfl (I rfl (Ap (.C3 (enc:=A3) (bytes:=8) (i:=Tryz.t3) k_ kQ rfl rfl rfl rfl cQ (fun _=>rfl) Et (.t rfl) (.t rfl) (hS.own 0 rfl) (Ay (Els.up hsE hS.Ch)) (by rw[yL (fun s h=>(hL s h).1),cc,hs1];simp[maxLen];omega) (by rw[yL (fun s h=>(hL s h).1),cc,hs1];omega)) rfl ?_))))))))
  intro v33 w4 Gw4
  replace hS:=hS.Fs 0 rfl Gw4
  refine LW.A rfl (LW.nil (Al (Ac (Aa (U (.ic rfl oQ) (I rfl (LW.nil (Av ?_))))))))
  exact⟨(k+1,v33),⟨by show k+1≤3;omega,by rw[Df hs,iq,show[s].flatMap (·.l)=s.l by simp];exact hS⟩,tQ,by show 3-(k+1)<3-k;omega⟩
 replace h28:=dQ h28
 refine A8 (Ab (Ab (Aq (Ac (Af (I rfl (LW.A rfl (Ah (Am (KW.q ?_))))))))))
 have hk3:k=L.length:=by have:¬k<3:=fun h=>h28 (cm.2 h);omega
 rw[hk3,b8]at hS
 exact⟨(hS.own 0 rfl).F5 (fun i h=>(hS.foot 0 rfl i h).resolve_left (fun h=>h)),hS.Ch⟩
end Go.Proofs.YtnpgbbaniknpkaaGreatDoor
