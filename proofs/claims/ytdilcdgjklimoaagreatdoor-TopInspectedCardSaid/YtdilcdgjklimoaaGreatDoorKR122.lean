import Derived.Test.YtdilcdgjklimoaaGreatDoorKR121
namespace Go.Wx
structure Sk where
 rc:Int
 tl:List Int
 ta:Option Addr
 tc:Nat
 mn:Int
 mx:Int
 nx:List Int
 na:Option Addr
 nc:Nat
 bk:Int
 lm:Int
def Sk.tv(s:Sk):Value:=.slice s.ta s.tl.length s.tc
def Sk.nv(s:Sk):Value:=.slice s.na s.nx.length s.nc
def Sk.cells(s:Sk):Array Value:=#[vi s.rc,s.tv,vi s.mn,vi s.mx,s.nv,vi s.bk,vi s.lm]
theorem Sk.one(s:Sk):s.cells.all (·.oneCell')=true:=by simp[Sk.cells,Sk.tv,Sk.nv,Value.oneCell']
structure Sk.Good(s:Sk):Prop where
 rc:s.rc=1
 mn:s.mn=10
 mx:s.mx=20
 bk:s.bk= -1
 lm:s.lm=0
 tl:s.tl.length=1∧∀x∈s.tl,rB x 0 59=true
 nx:s.nx.length≤1∧∀x∈s.nx,rB x 0 2=true
def rE:Wn:=⟨0,2,13⟩
structure FlE(w:World)(sa wa:Option Addr)(s0 s1 s2:Sk):Prop where
 E:Els w sa 7 Sk.cells [s0,s1,s2]
 g:∀s∈[s0,s1,s2],s.Good
 n0:s0.nx=[1]
 n1:s1.nx=[2]
 n2:s2.nx=[]
 p:∀s∈[s0,s1,s2],Els w s.ta 1 A5 s.tl∧Els w s.na 1 A5 s.nx
 W:Els w wa 3 Wn.cells [rE]
theorem FlE.up{w w':World}{sa wa:Option Addr}{s0 s1 s2:Sk}(h:FlE w sa wa s0 s1 s2)(u:Up w w'):FlE w' sa wa s0 s1 s2:=⟨Els.up h.E u,h.g,h.n0,h.n1,h.n2,fun s hs=>⟨Els.up (h.p s hs).1 u,Els.up (h.p s hs).2 u⟩,Els.up h.W u⟩
def Jt(sa:Option Addr)(sc:Nat)(wa:Option Addr)(wc:Nat):Array Value:=#[vi 2,vi 5,.slice sa 3 sc,.slice wa 1 wc]
theorem PEv.eH{P:Program}{n:Nat}{ds:List Deferred}{l:Env}{w:World}{o:Oper}{v v':Value}(h:PEv P n ds l w o v)(e:v=v'):PEv P n ds l w o v':=e▸h
theorem Ni{α:Type}{l:List α}{k:Nat}{x:α}(h:l[k]?=some x):l.take (k+1)=l.take k++[x]:=by rw[List.take_add_one,h];rfl
theorem Vt{l:List Int}{k:Nat}{x:Int}(h:l[k]?=some x):l.attach[k]?=some ⟨x,List.mem_of_getElem? h⟩:=by
 obtain⟨hk,rfl⟩:=List.getElem?_eq_some_iff.1 h
 rw[List.getElem?_eq_getElem (by rw[List.length_attach];exact hk)]
 simp
def mI(o:Option Nat):Array Value:=#[.pointer (o.map fun b=>(⟨b,0,none⟩:Addr))]
def Nj(t:Int)(ad:Option Addr)(m cp:Nat):Array Value:=#[vi t,.slice ad m cp]
def FO(xs:List (Option Nat))(n:Nat):Option Nat→List (Option Nat)
 |.none=>xs
 |some b=>xs.set n (some b)
def vP(cs:Array Value)(T:TypeId):Option Nat→Asr
 |.none=>dC
 |some b=>Bq b cs T
theorem Qx{w:World}{ad:Option Addr}{l:List Int}(hE:Els w ad 1 A5 l)(hne:l≠[]){B o:Nat}(e:ad=some ⟨B,o,none⟩):B<w.heap.size:=by
 cases l with
 |nil=>exact absurd rfl hne
 |cons x l=>
   obtain⟨B',o',e',hc⟩:=hE 0 x rfl
   rw[e]at e'
   cases e'
   exact block_lt_of_cell (hc 0 _ rfl)
def AV(b:Bool):Array Value:=#[.bool b]
theorem rF{α:Type}{enc:α→Array Value}{x0:α}{u:Value}{w:World}{B:Nat}{e:TypeId}{m:Nat}(h1:enc x0=#[u])(hB:Blk w B (List.replicate m u).toArray e)(hm:m≤maxLen):OwnS w 0 e 1 enc (.slice (some ⟨B,0,none⟩) m m) (List.replicate m x0):=by
 have hf:((List.replicate m x0).flatMap fun x=>(enc x).toList)=List.replicate m u:=by
   clear hB hm
   induction m with
   |zero=>rfl
   |succ m ih=>rw[List.replicate_succ,List.flatMap_cons,ih,h1,List.replicate_succ];rfl
 have h:OwnS w 0 e 1 enc (.slice (some ⟨B,0,none⟩) (List.replicate m x0).length m) (List.replicate m x0):=by
   refine⟨by rw[hf];simp,.inr ⟨B,m,(List.replicate m u).toArray,rfl,Nat.zero_le _,hB,by simp,hm,by simp,?_⟩⟩
   rw[hf]
   simp
 rw[List.length_replicate]at h
 exact h
section
variable {P:Program}{n:Nat}{ds:List Deferred}{l:Env}{w:World}{d:Option Tmp}{ty:TypeId}{ps:String}{af:Array Edge}{g:Option (Nat×Bool)}
theorem REv.xL{α:Type}{enc:α→Array Value}{x0:α}{u:Value}{T e:TypeId}{i:TypeInfo}{x y:Operand}(h1:enc x0=#[u])(hc:u.cells=#[u])(hT:P.underlying T=some (.slice e))(hi:P.info? e=some i)(hz:i.zero=some u)(hs:i.size=1)(hb:i.bytes≤8)(hx:Val l x (vi 3))(hy:Val l y (vi 3)):
   REv P n ds l w ⟨d,.makeSlice T x y,ty,ps,af,g⟩ (fun v w'=>Up w w'∧∃B,w.heap.size≤B∧v=.slice (some ⟨B,0,none⟩) 3 3∧OwnS w' 0 e 1 enc (.slice (some ⟨B,0,none⟩) 3 3) (List.replicate 3 x0)):=fun a ha=>by
 have hr2:=run_make (P:=P) w T e i u hT hi hz .i64 .i64 3 3 oQ (Int.le_refl _) oQ oQ
 rw[hs,Nat.mul_one,show(3:Int).toNat=3 from rfl]at hr2
 have e1:madeCells u.cells 3=(List.replicate 3 u).toArray:=by
   apply Array.ext'
   rw[hc,toList_madeCells_one]
 rw[e1]at hr2
 have N:=New.alloc w (List.replicate 3 u).toArray e
 exact⟨_,_,Ci (by rw[ha.ev hx,ha.ev hy];exact hr2),N.up,_,by rw[N.at_];exact Nat.le_refl _,rfl,rF h1 N.blk cQ⟩
end
def iF(k:Nat):List Bool:=[false,decide (1≤k),decide (2≤k)]
theorem Nk{P:Program}{n:Nat}{ds:List Deferred}{l:Env}{w:World}{d:Option Tmp}{ty:TypeId}{ps:String}{af:Array Edge}{g:Option (Nat×Bool)}{T T' e:TypeId}{x:Operand}{p:Option Addr}(hT:P.underlying T=some (.pointer e))(hx:Val l x (.pointer p)):PEv P n ds l w ⟨d,.binOp .neq T x (.const (.pointer none)) T',ty,ps,af,g⟩ (.bool p.isSome):=fun a w' ha _=>by
 refine Ci ?_
 have e1:a.eval (.const (.pointer none))=.pointer none:=rfl
 rw[ha.ev hx,e1,Sem.run_bind]
 have:(eqGuard .neq T x (.const (.pointer none)) (.pointer p) (.pointer none)).run P w'=.ok () w':=by unfold eqGuard;rfl
 rw[this]
 have hp:P.pointee T=e:=by unfold Program.pointee;rw[hT]
 have h:=run_neq_pointer_nil w' T p (by rw[hp];exact hT)
 cases p<;>exact h
def eI(k j:Nat):Ordering:=if j=0∨(k=0∧j=2)then .lt else if(k=0∧j=1)∨(k=1∧j=2)then .eq else .gt
def lS(k j:Nat):Int:=if k=0∧2≤j then 1 else if k=1∧3≤j then 2 else -1
def rG(b1 k:Nat)(b2:Nat):List (Option Nat):=[.none,some b1,if k=0 then .none else some b2]
theorem AK{b1 b2 k j:Nat}(hj:j<3)(h:eI k j=.lt):(rG b1 k b2)[j]?=some .none∧lS k (j+1)=lS k j:=by
 unfold eI at h
 split at h
 · rename_i h1
   rcases h1 with rfl|⟨rfl,rfl⟩
   · refine⟨rfl,?_⟩
     unfold lS
     rw[if_neg oQ,if_neg oQ,if_neg oQ,if_neg (by omega)]
   exact⟨rfl,rfl⟩
 split at h<;>cases h
theorem AL{b1 b2 k j:Nat}(h:eI k j=.eq):(∃b,(rG b1 k b2)[j]?=some (some b))∧(iF k)[j]?=some false∧lS k j= -1∧lS k (j+1)=(j:Int):=by
 unfold eI at h
 split at h
 · cases h
 split at h
 · rename_i h1
   rcases h1 with⟨rfl,rfl⟩|⟨rfl,rfl⟩
   · exact⟨⟨_,rfl⟩,rfl,rfl,rfl⟩
   exact⟨⟨_,rfl⟩,rfl,rfl,rfl⟩
 cases h
theorem AM{b1 b2 k j:Nat}(hj:j<3)(hk:k≤2)(h:eI k j=.gt):(∃b,(rG b1 k b2)[j]?=some (some b))∧(iF k)[j]?=some true∧lS k (j+1)=lS k j:=by
 have:(k=1∧j=1)∨(k=2∧j=1)∨(k=2∧j=2):=by
   unfold eI at h
   split at h
   · cases h
   split at h
   · cases h
   omega
 rcases this with⟨rfl,rfl⟩|⟨rfl,rfl⟩|⟨rfl,rfl⟩<;>exact⟨⟨_,rfl⟩,rfl,rfl⟩
def eJ(b1:Nat)(z:Option Nat):List (Option Nat):=[.none,some b1,z]
theorem AN{b1 k:Nat}{z:Option Nat}(hz:(k=0∧z=.none)∨(1≤k∧z.isSome=true)):∃b2,eJ b1 z=rG b1 k b2:=by
 rcases hz with⟨rfl,rfl⟩|⟨h,hz⟩
 · exact⟨0,rfl⟩
 obtain⟨b2,rfl⟩:=Option.isSome_iff_exists.1 hz
 exact⟨b2,by unfold eJ rG;rw[if_neg (by omega)]⟩
theorem vR{k:Nat}(hk:k≤2)(h:lS k 3<0):k=2:=match k,hk,h with
 |0,_,h=>absurd h cQ
 |1,_,h=>absurd h cQ
 |2,_,_=>rfl
 |k+3,h,_=>by omega
theorem AO{k:Nat}(hk:k≤2)(h:¬lS k 3<0):k<2:=match k,hk,h with
 |0,_,_=>by decide
 |1,_,_=>by decide
 |2,_,h=>absurd cQ h
 |k+3,h,_=>by omega
theorem PEv.vS{P:Program}{n:Nat}{ds:List Deferred}{l:Env}{w:World}{d:Option Tmp}{ty:TypeId}{ps:String}{af:Array Edge}{g:Option (Nat×Bool)}{T T' e:TypeId}{x:Operand}{ad:Option Addr}{m c:Nat}(hT:P.underlying T=some (.slice e))(hx:Val l x (.slice ad m c)):PEv P n ds l w ⟨d,.binOp .eql T x (.const (.slice none 0 0)) T',ty,ps,af,g⟩ (.bool ad.isNone):=fun a w' ha _=>by
 refine Ci ?_
 have e1:a.eval (.const (.slice none 0 0))=.slice none 0 0:=rfl
 rw[ha.ev hx,e1,Sem.run_bind]
 have:(eqGuard .eql T x (.const (.slice none 0 0)) (.slice ad m c) (.slice none 0 0)).run P w'=.ok () w':=by unfold eqGuard;rfl
 rw[this]
 exact Lib.run_eql_slice_nil w' T e ad m c 0 0 hT
theorem FP(k:Nat):lS k 0= -1:=by
 unfold lS
 rw[if_neg oQ,if_neg (by omega)]
end Go.Wx
namespace Go.Proofs.YtdilcdgjklimoaaGreatDoor
open Go.Proofs.Tryz
open Go.Wx Go.RowKit
theorem Fs(n lo hi:Int)(w:World):Ret prog 113 #[vi n,vi lo,vi hi] w fun r w'=>r=.bool (rB n lo hi)∧Up w w':=by
 have hW:=Up.refl w
 refine cT 15 func113 rfl (Af (Az (Am (Aa (I rfl (I rfl (U (.geq (.t rfl) (.t rfl)) (I rfl (Ey rfl rfl (Ey rfl rfl (LW.gr rfl (fun hc=>PEv.leq vQ vQ) (U (.pa rfl (fun hp=>(by exact .cond rfl (by(rw[hp];rfl))))) (LW.A rfl (Ai (Al (KW.q ?_))))))))))))))))
 exact⟨by unfold rB;simp,hW⟩
theorem Mp(ad:Option Addr)(cp:Nat)(l:List Int)(lo hi:Int)(w:World)(hE:Els w ad 1 A5 l)(hl:l.length≤1)(hr:∀x∈l,rB x lo hi=true):Ret prog 184 #[.slice ad l.length cp,vi lo,vi hi] w fun r w'=>r=.bool true∧Up w w':=by
 have hW:=Up.refl w
 obtain⟨w0,rfl,_⟩:=W0 w
 refine cT 35 func184 rfl (Af (Az (Am (Af (I rfl (U (.Cw underlying37 (.t rfl)) (U (.move (.const _)) (Ai (Ae (A3 (σ:=Nat) (fun s w=>(s≤l.length)∧(Up w0 w)) (fun s=>[(11,.eq (vi (s:Int)))]) ([(0,.eq _),(1,.eq _),(2,.eq _),(9,.eq _),(10,.eq _)]) (fun s=>l.length-s) 0 ?_ tQ ?_))))))))))
 ·exact⟨Nat.zero_le _,hW⟩
 rintro k w1 ⟨hk,hW⟩
 refine Af (U (.l2 rfl rfl) (Am (CW.b rfl (fun h12=>?_) (fun h12=>?_))))
 ·replace h12:=dQ h12
  refine Aj (Ac (Ah (Ae (Af (I rfl ?_)))))
  obtain⟨x,hx⟩:=Aq (xs:=l) (i:=k) oQ
  obtain⟨Bx,ox,ax,hcx⟩:=(Els.up hE hW) _ x hx
  refine U (.Aw underlying37 sizeOf3 (.t rfl) (.t rfl) oQ ax) (U (.lb rfl (hcx.nth (j:=0) rfl)) (LW.A rfl (LW.A rfl (Am (Aa (I rfl (I rfl (I rfl (A6 (eC (.ct rfl (.ct rfl (.cu rfl))) (Ra)) rfl (Fs _ _ _ _) ?_)))))))))
  rintro _ w2 ⟨rfl,uw2⟩
  replace hW:=hW.up uw2
  replace hcx:=hcx.up uw2
  have hrx:=hr x (List.mem_of_getElem? hx)
  refine U (.fa (PEv.n1 rfl) (by rw[hrx];rfl)) (I rfl (Bh (I rfl (Bh (U (.fa (PEv.gtr (.t rfl) (.const _)) (decide_eq_false oQ)) (Bh (I rfl (C7 (C7 (C7 (C7 (C7 (C7 (C7 (Bh (U (.F0 (b:=false) (.t rfl) (fun hp=>absurd (show false=true from hp) cQ)) (U (.fa (PEv.po rfl (fun hp=>(by exact .tmp rfl))) (by rfl)) (Ai (CW.f rfl (Aj (Ad (Ac (Aa (U (.ic rfl oQ) (I rfl (LW.nil (Ar ?_)))))))))))))))))))))))))))
  exact⟨k+1,⟨by omega,hW⟩,tQ,by omega⟩
 replace h12:=dQ h12
 refine A4 (Ab (Ab (An (Ac (Af (Az (Ai (Al (KW.q ?_)))))))))
 exact⟨rfl,hW⟩
theorem Tf(sa wa:Option Addr)(sc wc:Nat)(w:World):Ret prog 112 #[.agg (Jt sa sc wa wc)] w fun r w'=>r=.bool true∧Up w w':=by
 obtain⟨w0,rfl,hS⟩:=W0 w
 refine cT 18 func112 rfl (Af (Ao (.bA rfl) rfl ?_))
 rintro _ w1 ⟨B1,rfl,NB1⟩
 replace hS:=hS.Cg NB1
 refine Az (Am (Aa (U (.fB 0 rfl) (U (.lb rfl (hS.b0.Ak rfl)) (U (.leq (.const _) (.t rfl)) (I rfl (LW.gr rfl (fun hc=>PEv.fB 0 rfl) (LW.gr rfl (fun hc=>PEv.load isAgg3 vQ (hS.b0.Ak rfl)) (LW.gr rfl (fun hc=>PEv.fB 1 rfl) (LW.gr rfl (fun hc=>PEv.load isAgg3 vQ (hS.b0.Ak rfl)) (LW.gr rfl (fun hc=>PEv.leq vQ vQ) (U (.pa rfl (fun hp=>(by exact .cond rfl (by assumption)))) (I rfl (LW.gr rfl (fun hc=>PEv.fB 1 rfl) (LW.gr rfl (fun hc=>PEv.load isAgg3 vQ (hS.b0.Ak rfl)) (LW.gr rfl (fun hc=>PEv.leq vQ (.const _)) (U (.pa rfl (fun hp=>(by exact .cond rfl (by assumption)))) (LW.A rfl (Ai (Al (KW.q ?_)))))))))))))))))))))
 exact⟨rfl,hS.Ch⟩
theorem Uh(s:Sk)(w:World)(hg:s.Good)(h1:Els w s.ta 1 A5 s.tl)(h2:Els w s.na 1 A5 s.nx):Ret prog 116 #[.agg s.cells,vi 3] w fun r w'=>r=.bool true∧Up w w':=by
 obtain⟨w0,rfl,hS⟩:=W0 w
 refine cT 75 func116 rfl (Af (Ao (.bA rfl) rfl ?_))
 rintro _ w1 ⟨B2,rfl,NB2⟩
 replace hS:=hS.Cg NB2
 refine Az (Am (Aa (U (.fB 5 rfl) (U (.lb rfl (hS.b0.Ak rfl)) (U (.tr (PEv.eql (.t rfl) (.const _)) (decide_eq_true hg.bk)) (I rfl (Bh (U (.fB 6 rfl) (Bh (U (.lb rfl (hS.b0.Ak rfl)) (Bh (U (.tr (PEv.eql (.t rfl) (.const _)) (decide_eq_true hg.lm)) (U (.pa rfl (fun hp=>(by exact .tmp rfl))) (I rfl (C7 (C7 (C7 (C7 (C7 (C7 (Kr rfl rfl rfl rfl rfl rfl (Kr rfl rfl rfl rfl rfl rfl (Kr rfl rfl rfl rfl rfl rfl (C7 (U (.tr (PEv.El (b:=false) (.t rfl) (fun hp=>absurd (show true=false from hp) cQ)) (rfl)) (LW.A rfl (Am (Aa (U (.fB 1 rfl) (U (.lb rfl (hS.b0.Ak rfl)) (U (.Cw underlying37 (.t rfl)) (A6 (eC (.ct rfl (.cons (.const _) (.cons (.const _) .nil))) (Ra)) rfl (Fs _ _ _ _) ?_))))))))))))))))))))))))))))))))
 rintro _ w2 ⟨rfl,uw2⟩
 replace hS:=hS.up uw2
 refine I rfl (LW.gr rfl (fun hc=>PEv.fB 4 rfl) (LW.gr rfl (fun hc=>PEv.load isAgg37 vQ (hS.b0.Ak rfl)) (LW.gr rfl (fun hc=>PEv.Cw underlying37 vQ) (LW.gr rfl (fun hc=>PEv.tr (PEv.leq vQ (.const _)) (decide_eq_true (by have:=hg.nx.1;omega))) (U (.tr (PEv.pa rfl (fun hp=>(by exact .cond rfl (by(rw[hp];rfl))))) (by rw[hg.tl.1];rfl)) (LW.A rfl (Am (Aa (I rfl (I rfl (Bh (I rfl (U (.pa rfl (fun hp=>(by exact .tmp rfl))) (I rfl (Bh (U (.fB 0 rfl) (Bh (U (.lb rfl (hS.b0.Ak rfl)) (Bh (A6 (eC (.ct rfl (.cons (.const _) (.cons (.const _) .nil))) (Ra)) rfl (Fs _ _ _ _) ?_))))))))))))))))))))
 rintro _ w3 ⟨rfl,uw3⟩
 replace hS:=hS.up uw3
 refine U (.tr (PEv.pa rfl (fun hp=>(by exact .tmp rfl))) (by rw[hg.rc];rfl)) (I rfl (Bh (U (.fB 1 rfl) (Bh (U (.lb rfl (hS.b0.Ak rfl)) (Bh (A6 (eC (.ct rfl (.cons (.const _) (.cons (.const _) .nil))) (wW)) rfl (Mp s.ta s.tc s.tl 0 59 _ (Els.up h1 hS.Ch) (by have:=hg.tl.1;omega) hg.tl.2) ?_)))))))
 rintro _ w4 ⟨rfl,uw4⟩
 replace hS:=hS.up uw4
 refine U (.pa rfl (fun hp=>(by exact .tmp rfl))) (I rfl (Bh (U (.fB 4 rfl) (Bh (U (.lb rfl (hS.b0.Ak rfl)) (Bh (I rfl (Bh (U (.sub (.t rfl) (.const _) oQ oQ) (Bh (A6 (eC (.ct rfl (.cons (.const _) (.cu rfl))) (wW)) rfl (Mp s.na s.nc s.nx 0 2 _ (Els.up h2 hS.Ch) hg.nx.1 hg.nx.2) ?_)))))))))))
 rintro _ w5 ⟨rfl,uw5⟩
 replace hS:=hS.up uw5
 refine U (.pa rfl (fun hp=>(by exact .tmp rfl))) (I rfl (Bh (U (.fB 2 rfl) (Bh (U (.lb rfl (hS.b0.Ak rfl)) (Bh (U (.tr (PEv.leq (.const _) (.t rfl)) (decide_eq_true (by have:=hg.mn;omega))) (U (.pa rfl (fun hp=>(by exact .tmp rfl))) (I rfl (Bh (U (.fB 2 rfl) (Bh (U (.lb rfl (hS.b0.Ak rfl)) (Bh (U (.fB 3 rfl) (Bh (U (.lb rfl (hS.b0.Ak rfl)) (Bh (U (.tr (PEv.leq (.t rfl) (.t rfl)) (decide_eq_true (by have:=hg.mn;have:=hg.mx;omega))) (U (.pa rfl (fun hp=>(by exact .tmp rfl))) (I rfl (Bh (U (.fB 3 rfl) (Bh (U (.lb rfl (hS.b0.Ak rfl)) (Bh (U (.tr (PEv.leq (.t rfl) (.const _)) (decide_eq_true (by have:=hg.mx;omega))) (U (.pa rfl (fun hp=>(by exact .tmp rfl))) (LW.A rfl (Ai (Al (KW.q ?_))))))))))))))))))))))))))))))))
 exact⟨rfl,hS.Ch⟩
theorem aF(s:Sk)(B:Nat)(w:World)(hB:Blk w B #[vi 3] 3)(hg:s.Good)(h1:Els w s.ta 1 A5 s.tl)(h2:Els w s.na 1 A5 s.nx):Ret prog 115 #[.agg s.cells,.pointer (some ⟨B,0,none⟩)] w fun r w'=>r=.bool false∧Up w w':=by
 obtain⟨w0,rfl,hS⟩:=W0 w
 refine cT 8 func115 rfl (Af (Ao (.bA rfl) rfl ?_))
 rintro _ w1 ⟨B2,rfl,NB2⟩
 replace hS:=hS.Cg NB2
 refine Az (Am (Aa (U (.lc rfl (hS.b0.agg)) (U (.lb rfl ((hB.up hS.Ch).Ak rfl)) (A6 (eC (.u rfl rfl) (BZ)) rfl (Uh s _ hg (Els.up h1 hS.Ch) (Els.up h2 hS.Ch)) ?_)))))
 rintro _ w2 ⟨rfl,uw2⟩
 replace hS:=hS.up uw2
 refine U (.n1 rfl) (LW.A rfl (Ai (Al (KW.q ?_))))
 exact⟨rfl,hS.Ch⟩
theorem eK(cf:Nat)(lb:Array Go.Value)(hen:∀args w,(callFunc cf args).run Tryz.prog w=.ok (.enter cf args) w)(ad:Option Addr)(cp:Nat)(l:List Sk)(w:World)(hE0:Els w ad 7 Sk.cells l)(hl:l.length≤100000)(hp:∀W,Up w W→∀x∈l,Ret Tryz.prog cf (#[.agg (Sk.cells x)]++lb) W fun r W'=>r=.bool false∧Up W W'):Ret prog 183 #[.slice ad l.length cp,.func (.func cf) #[] lb] w fun r w'=>r=vi (-1)∧Up w w':=by
 have hW:=Up.refl w
 obtain⟨w0,rfl,_⟩:=W0 w
 refine cT 19 func183 rfl (Af (Az (Am (Af (I rfl (U (.Cw underlying52 (.t rfl)) (U (.move (.const _)) (Ai (Ae (A3 (σ:=Nat) (fun s w=>(s≤l.length)∧(Up w0 w)) (fun s=>[(8,.eq (vi (s:Int)))]) ([(0,.eq _),(1,.eq _),(7,.eq _)]) (fun s=>l.length-s) 0 ?_ tQ ?_))))))))))
 ·exact⟨Nat.zero_le _,hW⟩
 rintro k w1 ⟨hk,hW⟩
 refine Af (U (.l2 rfl rfl) (Am (CW.b rfl (fun h9=>?_) (fun h9=>?_))))
 ·replace h9:=dQ h9
  refine Aj (Ac (Ah (Ae (Af (I rfl (LW.A rfl (Am ?_)))))))
  have hE:=Els.up hE0 hW
  refine Aa (I rfl (I rfl (I rfl ?_)))
  obtain⟨x,hx⟩:=Aq (xs:=l) (i:=k) oQ
  obtain⟨Bx,ox,ax,hcx⟩:=hE _ x hx
  refine U (.Aw underlying52 sizeOf56 (.t rfl) (.t rfl) oQ ax) (U (.lc rfl (hcx)) (A6 (Cc (.t rfl) (.cu rfl) (hen)) rfl (hp _ hW x (List.mem_of_getElem? hx)) ?_))
  rintro _ w2 ⟨rfl,uw2⟩
  replace hW:=hW.up uw2
  replace hcx:=hcx.up uw2
  refine Ai (CW.f rfl (Aj (Ad (Ac (Aa (U (.ic rfl oQ) (I rfl (LW.nil (Ar ?_)))))))))
  exact⟨k+1,⟨by omega,hW⟩,tQ,by omega⟩
 replace h9:=dQ h9
 refine A4 (Ab (Ab (An (Ac (Af (Az (Ai (Al (KW.q ?_)))))))))
 exact⟨rfl,hW⟩
theorem Ui(cf:Nat)(lb:Array Go.Value)(hen:∀args w,(callFunc cf args).run Tryz.prog w=.ok (.enter cf args) w)(ad:Option Addr)(cp:Nat)(l:List Sk)(w:World)(hE0:Els w ad 7 Sk.cells l)(hl:l.length≤100000)(hp:∀W,Up w W→∀x∈l,Ret Tryz.prog cf (#[.agg (Sk.cells x)]++lb) W fun r W'=>r=.bool false∧Up W W'):Ret prog 114 #[.slice ad l.length cp,.func (.func cf) #[] lb] w fun r w'=>r=.bool false∧Up w w':=by
 have hW:=Up.refl w
 refine cT 9 func114 rfl (Af (Az (Am (Aa (I rfl (I rfl (A6 (eC (.u rfl rfl) (DN)) rfl (eK cf lb hen ad cp l _ (Els.up hE0 hW) hl (fun W u x hx=>hp W (hW.trans u) x hx)) ?_)))))))
 rintro _ w1 ⟨rfl,uw1⟩
 replace hW:=hW.up uw1
 refine U (.geq (.t rfl) (.const _)) (LW.A rfl (Ai (Al (KW.q ?_))))
 exact⟨rfl,hW⟩
theorem Qh(w:World):Ret prog 117 #[.agg rE.cells,vi 3] w fun r w'=>r=.bool true∧Up w w':=by
 obtain⟨w0,rfl,hS⟩:=W0 w
 refine cT 29 func117 rfl (Af (Ao (.bA rfl) rfl ?_))
 rintro _ w1 ⟨B2,rfl,NB2⟩
 replace hS:=hS.Cg NB2
 refine Az (Am (Aa (U (.fB 0 rfl) (U (.lb rfl (hS.b0.Ak rfl)) (I rfl (U (.sub (.t rfl) (.const _) oQ oQ) (A6 (eC (.ct rfl (.cons (.const _) (.cu rfl))) (Ra)) rfl (Fs _ _ _ _) ?_)))))))
 rintro _ w2 ⟨rfl,uw2⟩
 replace hS:=hS.up uw2
 refine I rfl (LW.gr rfl (fun hc=>PEv.fB 1 rfl) (LW.gr rfl (fun hc=>PEv.load isAgg3 vQ (hS.b0.Ak rfl)) (Ey rfl rfl (LW.gr rfl (fun hc=>PEv.sub vQ (.const _) oQ oQ) (Mh rfl rfl rfl rfl rfl rfl rfl rfl (fun hc=>Ct (.cons vQ (.cons (.const _) (.cons vQ .nil))) (Ra)) (fun hc=>Fs _ _ _ _) ?_)))))
 intro w3 uw3
 replace hS:=hS.up uw3
 refine U (.pa rfl (fun hp=>(by exact .cond rfl (by assumption)))) (I rfl (LW.gr rfl (fun hc=>PEv.fB 0 rfl) (LW.gr rfl (fun hc=>PEv.load isAgg3 vQ (hS.b0.Ak rfl)) (LW.gr rfl (fun hc=>PEv.fB 1 rfl) (LW.gr rfl (fun hc=>PEv.load isAgg3 vQ (hS.b0.Ak rfl)) (LW.gr rfl (fun hc=>PEv.neq vQ vQ) (U (.pa rfl (fun hp=>(by exact .cond rfl (by assumption)))) (I rfl (LW.gr rfl (fun hc=>PEv.fB 2 rfl) (LW.gr rfl (fun hc=>PEv.load isAgg3 vQ (hS.b0.Ak rfl)) (Mh rfl rfl rfl rfl rfl rfl rfl rfl (fun hc=>Ct (.cons vQ (.cons (.const _) (.cons (.const _) .nil))) (Ra)) (fun hc=>Fs _ _ _ _) ?_)))))))))))
 intro w4 uw4
 replace hS:=hS.up uw4
 refine U (.pa rfl (fun hp=>(by exact .cond rfl (by assumption)))) (LW.A rfl (Ai (Al (KW.q ?_))))
 exact⟨rfl,hS.Ch⟩
theorem aG(ad:Option Addr)(cp:Nat)(w:World):Ret prog 118 #[.slice ad 0 cp,.agg rE.cells] w fun r w'=>r=.bool true∧Up w w':=by
 obtain⟨w0,rfl,hS⟩:=W0 w
 refine cT 34 func118 rfl (Af (Ao (.bA rfl) rfl ?_))
 rintro _ w1 ⟨B3,rfl,NB3⟩
 replace hS:=hS.Cg NB3
 refine Az (Am (Af (I rfl (U (.Cw underlying51 (.t rfl)) (U (.tr (PEv.eql (.t rfl) (.const _)) (rfl)) (Ai (CW.v rfl (Af (Az (Ai (Al (Ap (KW.q ?_)))))))))))))
 exact⟨rfl,hS.Ch⟩
theorem Th(sa wa:Option Addr)(sc wc:Nat)(s0 s1 s2:Sk)(w:World)(hF:FlE w sa wa s0 s1 s2):Ret prog 52 #[.agg (Jt sa sc wa wc)] w fun r w'=>r=.bool true∧Up w w':=by
 obtain⟨w0,rfl,hS⟩:=W0 w
 refine cT 49 func52 rfl (Af (Ao (.bA rfl) rfl ?_))
 rintro _ w1 ⟨B1,rfl,NB1⟩
 replace hS:=hS.Cg NB1
 refine Az (Am (Aa (U (.fB 2 rfl) (U (.lb rfl (hS.b0.Ak rfl)) (U (.Cw underlying52 (.t rfl)) (Ao (.Ga zeroValue3 rfl) rfl ?_))))))
 rintro _ w2 ⟨B3,rfl,MB3⟩
 refine A9 (.store sizeOf3 (.t rfl) (.t rfl) rfl MB3.blk cQ) ?_
 intro w3 LB3
 have NB3:=MB3.set LB3
 replace hS:=hS.Cg NB3
 refine Am (Af (U (.lc rfl (hS.b0.agg)) (A6 (eC (.o rfl) (BW)) rfl (Tf sa wa sc wc _) ?_)))
 rintro _ w4 ⟨rfl,uw4⟩
 replace hS:=hS.up uw4
 refine U (.n1 rfl) (I rfl (Bh (U (.lb rfl (hS.b1.Ak rfl)) (Bh (A6 (eC (.ct rfl (.cons (.const _) (.cons (.const _) .nil))) (Ra)) rfl (Fs _ _ _ _) ?_)))))
 rintro _ w5 ⟨rfl,uw5⟩
 replace hS:=hS.up uw5
 refine Bh (U (.fa (PEv.n1 rfl) (rfl)) (U (.po rfl (fun hp=>(by exact .tmp rfl))) (I rfl (Bh (U (.fB 3 rfl) (Bh (U (.lb rfl (hS.b0.Ak rfl)) (Bh (U (.Cw underlying51 (.t rfl)) (Bh (U (.fa (PEv.gtr (.t rfl) (.const _)) (rfl)) (U (.po rfl (fun hp=>(by exact .tmp rfl))) (Ai (CW.f rfl (Aj (Ac (Ah (Af (U (.fB 2 rfl) (U (.lb rfl (hS.b0.Ak rfl)) (U (.makeFunc (.cu rfl)) (A6 (eC (.u rfl rfl) (BX)) rfl (Ui 115 #[.pointer (some ⟨B3,0,none⟩)] BY sa sc [s0,s1,s2] _ (Els.up hF.E hS.Ch) (by simp) (fun W u x hx=>aF x B3 W (hS.b1.up u) (hF.g x hx) (Els.up (hF.p x hx).1 (hS.Ch.trans u)) (Els.up (hF.p x hx).2 (hS.Ch.trans u)))) ?_))))))))))))))))))))))
 rintro _ w6 ⟨rfl,uw6⟩
 replace hS:=hS.up uw6
 refine Ai (CW.f rfl (Aj (Ac (Ah (Af (U (.fB 3 rfl) (U (.lb rfl (hS.b0.Ak rfl)) (U (.Cw underlying51 (.t rfl)) (U (.move (.const _)) (Ai (Ae (A3 (σ:=Nat) (fun s w=>(s≤1)∧(Wx.Sep no w0 w [Bq B1 (Jt sa sc wa wc) 54,Bq B3 #[vi 3] 3])) (fun s=>[(30,.eq (vi (s:Int)))]) ([(1,.eq _),(3,.eq _),(28,.eq _),(29,.eq _)]) (fun s=>1-s) 0 ?_ tQ ?_))))))))))))
 ·exact⟨Nat.zero_le _,hS⟩
 rintro k w7 ⟨hk,hS⟩
 refine Af (U (.l2 rfl rfl) (Am (CW.b rfl (fun h31=>?_) (fun h31=>?_))))
 ·replace h31:=dQ h31
  refine Aj (Ac (Ah (Ae (Ah ?_))))
  have hk0:k=0:=by have:=Int.ofNat_lt.1 h31;omega
  subst hk0
  obtain⟨Bw,ow,aw,hcw⟩:=hF.W 0 rE rfl
  refine Aa (I rfl (U (.Aw underlying51 sizeOf50 (j:=0) (.t rfl) (.t rfl) cQ aw) (U (.lc rfl ((hcw.up hS.Ch))) (Ao (.Br zeroValue50) rfl ?_))))
  rintro _ w8 ⟨B5,rfl,MB5⟩
  refine LW.A rfl (A9 (.Ca sizeOf50 rfl (.t rfl) (.t rfl) (Wn.one _) MB5.blk rfl) ?_)
  intro w9 LB5
  have NB5:=MB5.set LB5
  replace hS:=hS.Cg NB5
  refine Am (Ea kQ kQ rfl rfl (Au (.lc rfl (hS.b2.agg)) (Au (.lb rfl (hS.b1.Ak rfl)) (HW.c (fun a w _ ha=>Ct (.ct rfl (.cu rfl)) (CA) a ha) rfl rfl (fun w hu=>Qh w) (Au (.fa (PEv.n1 rfl) (rfl)) (Au (.mv rfl) (Ef (.fB 3 rfl) (Ef (.lb rfl (hS.b0.Ak rfl)) (Ef (.mv rfl) (Ef (.Nv underlying51 sizeOf50 (.t rfl) (.t rfl) oQ) (Ef (.lc rfl (hS.b2.agg)) (wP rfl rfl rfl rfl rfl (fun a w _ ha=>Ct (.ct rfl (.cu rfl)) (CB) a ha) rfl (fun w hu=>aG wa wc w) (Ef (.fa (PEv.n1 rfl) (rfl)) (Au (.fa (PEv.po rfl (fun hp=>(by exact .tmp rfl))) (rfl)) (HW.nil ?_)))))))))))))))
  intro w10 uw10
  replace hS:=hS.up uw10
  refine Ac (CW.f rfl (Aj (Ad (Ac (Aa (U (.ic rfl oQ) (I rfl (LW.nil (Ar ?_)))))))))
  exact⟨1,⟨Nat.le_refl _,hS.take 2⟩,tQ,by omega⟩
 replace h31:=dQ h31
 refine A4 (Ab (Ab (An (Ac (Af (Az (Ai (Al (KW.q ?_)))))))))
 exact⟨rfl,hS.Ch⟩
theorem eM(cf:Nat)(lb:Array Go.Value)(hen:∀args w,(callFunc cf args).run Tryz.prog w=.ok (.enter cf args) w)(ad:Option Addr)(cp:Nat)(l:List Int)(w:World)(hE0:Els w ad 1 A5 l)(hl:l.length≤100000)(hp:∀W,Up w W→∀x∈l,Ret Tryz.prog cf (#[vi x]++lb) W fun r W'=>r=.bool false∧Up W W'):Ret prog 239 #[.slice ad l.length cp,.func (.func cf) #[] lb] w fun r w'=>r=vi (-1)∧Up w w':=by
 have hW:=Up.refl w
 obtain⟨w0,rfl,_⟩:=W0 w
 refine cT 19 func239 rfl (Af (Az (Am (Af (I rfl (U (.Cw underlying37 (.t rfl)) (U (.move (.const _)) (Ai (Ae (A3 (σ:=Nat) (fun s w=>(s≤l.length)∧(Up w0 w)) (fun s=>[(8,.eq (vi (s:Int)))]) ([(0,.eq _),(1,.eq _),(7,.eq _)]) (fun s=>l.length-s) 0 ?_ tQ ?_))))))))))
 ·exact⟨Nat.zero_le _,hW⟩
 rintro k w1 ⟨hk,hW⟩
 refine Af (U (.l2 rfl rfl) (Am (CW.b rfl (fun h9=>?_) (fun h9=>?_))))
 ·replace h9:=dQ h9
  refine Aj (Ac (Ah (Ae (Af (I rfl (LW.A rfl (Am ?_)))))))
  have hE:=Els.up hE0 hW
  refine Aa (I rfl (I rfl (I rfl ?_)))
  obtain⟨x,hx⟩:=Aq (xs:=l) (i:=k) oQ
  obtain⟨Bx,ox,ax,hcx⟩:=hE _ x hx
  refine U (.Aw underlying37 sizeOf3 (.t rfl) (.t rfl) oQ ax) (U (.lb rfl (hcx.nth (j:=0) rfl)) (A6 (Cc (.t rfl) (.cu rfl) (hen)) rfl (hp _ hW x (List.mem_of_getElem? hx)) ?_))
  rintro _ w2 ⟨rfl,uw2⟩
  replace hW:=hW.up uw2
  replace hcx:=hcx.up uw2
  refine Ai (CW.f rfl (Aj (Ad (Ac (Aa (U (.ic rfl oQ) (I rfl (LW.nil (Ar ?_)))))))))
  exact⟨k+1,⟨by omega,hW⟩,tQ,by omega⟩
 replace h9:=dQ h9
 refine A4 (Ab (Ab (An (Ac (Af (Az (Ai (Al (KW.q ?_)))))))))
 exact⟨rfl,hW⟩
theorem Uj(cf:Nat)(lb:Array Go.Value)(hen:∀args w,(callFunc cf args).run Tryz.prog w=.ok (.enter cf args) w)(ad:Option Addr)(cp:Nat)(l:List Int)(w:World)(hE0:Els w ad 1 A5 l)(hl:l.length≤100000)(hp:∀W,Up w W→∀x∈l,Ret Tryz.prog cf (#[vi x]++lb) W fun r W'=>r=.bool false∧Up W W'):Ret prog 224 #[.slice ad l.length cp,.func (.func cf) #[] lb] w fun r w'=>r=.bool false∧Up w w':=by
 have hW:=Up.refl w
 refine cT 9 func224 rfl (Af (Az (Am (Aa (I rfl (I rfl (A6 (eC (.u rfl rfl) (EK)) rfl (eM cf lb hen ad cp l _ (Els.up hE0 hW) hl (fun W u x hx=>hp W (hW.trans u) x hx)) ?_)))))))
 rintro _ w1 ⟨rfl,uw1⟩
 replace hW:=hW.up uw1
 refine U (.geq (.t rfl) (.const _)) (LW.A rfl (Ai (Al (KW.q ?_))))
 exact⟨rfl,hW⟩
theorem eN(n:Int)(B:Nat)(sa wa:Option Addr)(sc wc:Nat)(w:World)(hB:Blk w B (Jt sa sc wa wc) 54)(hn:0≤n∧n<3):Ret prog 225 #[vi n,.pointer (some ⟨B,0,none⟩)] w fun r w'=>r=.bool false∧Up w w':=by
 have hW:=Up.refl w
 refine cT 13 func225 rfl (Af (Az (Am (Aa (I rfl (U (.fa (PEv.lss (.t rfl) (.const _)) (decide_eq_false oQ)) (I rfl (Bh (I rfl (Bh (U (.fB 2 rfl) (Bh (U (.lb rfl (hB.Ak rfl)) (Bh (U (.Cw underlying52 (.t rfl)) (Bh (U (.fa (PEv.geq (.t rfl) (.t rfl)) (decide_eq_false oQ)) (U (.fa (PEv.po rfl (fun hp=>(by exact .tmp rfl))) (rfl)) (LW.A rfl (Ai (Al (KW.q ?_))))))))))))))))))))))
 exact⟨rfl,hW⟩
theorem Vu(sa wa:Option Addr)(sc wc:Nat)(s0 s1 s2:Sk)(w:World)(hF:FlE w sa wa s0 s1 s2)(ad:Option Addr)(cp:Nat)(l:List Int)(hE:Els w ad 1 A5 l)(hl:l.length≤1000)(hn:∀x∈l,0≤x∧x<3):Ret prog 185 #[.agg (Jt sa sc wa wc),.slice ad l.length cp] w fun r w'=>r=.bool true∧Up w w':=by
 obtain⟨w0,rfl,hS⟩:=W0 w
 refine cT 13 func185 rfl (Af (Ao (.bA rfl) rfl ?_))
 rintro _ w1 ⟨B2,rfl,NB2⟩
 replace hS:=hS.Cg NB2
 refine Az (Am (Aa (U (.lc rfl (hS.b0.agg)) (A6 (eC (.o rfl) (BG)) rfl (Th sa wa sc wc s0 s1 s2 _ (hF.up hS.Ch)) ?_))))
 rintro _ w2 ⟨rfl,uw2⟩
 replace hS:=hS.up uw2
 refine I rfl (Bh (I rfl (Bh (U (.makeFunc (.cu rfl)) (Bh (A6 (eC (.u rfl rfl) (EE)) rfl (Uj 225 #[.pointer (some ⟨B2,0,none⟩)] EF ad cp l _ (Els.up hE hS.Ch) oQ (fun W u x hx=>eN x B2 sa wa sc wc W (hS.b0.up u) (hn x hx))) ?_))))))
 rintro _ w3 ⟨rfl,uw3⟩
 replace hS:=hS.up uw3
 refine Bh (U (.n1 rfl) (U (.pa rfl (fun hp=>(by exact .tmp rfl))) (LW.A rfl (Ai (Al (KW.q ?_))))))
 exact⟨rfl,hS.Ch⟩
theorem eO(X Y:Nat→Prop)(B1:Nat)(sk:Sk)(w:World)(hEX:sk.nx≠[]→∀B o,sk.na=some ⟨B,o,none⟩→¬X B)(hFX:¬X B1)(hF0:Blk w B1 sk.cells 56)(hE0:Els w sk.na 1 A5 sk.nx)(hb:sk.bk= -1)(hl:sk.nx.length≤1):
   IterS Tryz.prog 241 #[.pointer (some ⟨B1,0,none⟩)] (fun x:{x:Int//x∈sk.nx}=>#[vi x.1]) X Y (fun ys=>ys=sk.nx.attach) (fun _=>True) sk.nx.length w:=by
 refine IterS.of ?_
 intro lp J Jx w0 hUw _ hY hJ
 obtain⟨Bd,hBd⟩:∃Bd,Bd=w0.heap.size:=⟨_,rfl⟩
 rw[←hBd]at hJ hY
 have hF:=hF0.up hUw
 have hE:=Els.up hE0 hUw
 refine cT 41 func241 rfl (Af (U (.fB 5 rfl) (U (.eH (v':=vi (-1)) (PEv.lb rfl (hF.Ak rfl)) (by rw[hb])) (LW.A rfl (Am (Af (U (.fB 4 rfl) (U (.lb rfl (hF.Ak rfl)) (U (.Cw underlying37 (.t rfl)) (U (.move (.const _)) (Ai (Ae (CW.loop (σ:=Nat) (fun s w=>s≤sk.nx.length∧Jw Bd J (sk.nx.attach.take s) w∧Els w sk.na 1 A5 sk.nx∧Blk w B1 sk.cells 56) (fun s=>[(0,.eq (.func (.yield lp) #[] #[])),(3,.eq (vi (-1))),(9,.eq (.slice sk.na sk.nx.length sk.nc)),(10,.eq (vi (sk.nx.length:Int))),(11,.eq (vi (s:Int)))]) (fun s=>sk.nx.length-s) 0 ?_ ?_ ?_)))))))))))))
 ·exact⟨Nat.zero_le _,hJ,hE,hF⟩
 ·exact tQ
 rintro k w1 ⟨hk,hJ,hE,hF⟩
 refine Af (U (.l2 rfl rfl) (Am (CW.b rfl (fun h12=>?_) (fun h12=>?_))))
 ·refine Aj (Ac (Ah (Ae (Ah ?_))))
  have hkl:k<sk.nx.length:=by simp at h12;omega
  refine Aa ?_
  obtain⟨x,hx⟩:=Aq (xs:=sk.nx) (i:=k) oQ
  obtain⟨Bx,ox,ax,hcx⟩:=hE _ x hx
  refine U (.Aw underlying37 sizeOf3 (.t rfl) (.t rfl) oQ ax) (U (.lb rfl (hcx.nth (j:=0) rfl)) (LW.A rfl (Am (Af (I rfl (U (.fa (PEv.geq (.t rfl) (.const _)) (rfl)) (I rfl (C7 (C7 (C7 (U (.F0 (b:=false) (.t rfl) (fun hp=>absurd (show false=true from hp) cQ)) (I rfl (C7 (C7 (C7 (C7 (U (.F0 (b:=false) (.t rfl) (fun hp=>absurd (show false=true from hp) cQ)) (Ai (CW.f rfl (Aj (Ac (Ah (Af (I rfl (I rfl (U (.leq (.t rfl) (.t rfl)) (Ai (CW.b rfl (fun h30=>?_) (fun h30=>?_)))))))))))))))))))))))))))))
  ·refine Aa (Az (Am (Aa (I rfl (I rfl (LW.y (.t rfl) (.cu rfl) rfl rfl (hY _ ⟨x,List.mem_of_getElem? hx⟩ _ hJ (by rw[List.length_take,List.length_attach];omega)) ?_))))))
   rintro _ w2 ⟨y,rfl,hcase⟩
   refine U (.n1 rfl) (Ai (CW.b rfl (fun h34=>?_) (fun h34=>?_)))
   ·have hy:y=false:=by simpa using h34
    subst hy
    obtain⟨_,hJx⟩:=hcase.resolve_left (by simp)
    refine Al (Ay (Ap (Ap (Ay (Ap (Gp rfl ⟨_,rfl,?_⟩))))))
    exact .inr ⟨_,trivial,hJx⟩
   have hy:y=true:=by simpa using h34
   subst hy
   obtain⟨_,hJ2,hN⟩:=hcase.resolve_right (by simp)
   replace hE:=hE.kx hN (hEX fun e=>by rw[e]at hx;cases hx)
   replace hF:=hF.kx hN hFX
   rw[←Ni (Vt hx)]at hJ2
   refine Aj (Ad (Ac (Aa (U (.ic rfl oQ) (I rfl (LW.nil (Ar ?_)))))))
   exact⟨k+1,⟨by omega,hJ2,hE,hF⟩,tQ,by omega⟩
  refine Aj (Ac (Af (I rfl (I rfl (LW.y (.t rfl) (.cu rfl) rfl rfl (hY _ ⟨x,List.mem_of_getElem? hx⟩ _ hJ (by rw[List.length_take,List.length_attach];omega)) ?_)))))
  rintro _ w3 ⟨y,rfl,hcase⟩
  refine U (.n1 rfl) (Ai (CW.b rfl (fun h34=>?_) (fun h34=>?_)))
  ·have hy:y=false:=by simpa using h34
   subst hy
   obtain⟨_,hJx⟩:=hcase.resolve_left (by simp)
   refine Al (Ay (Ap (Ap (Ay (Ap (Gp rfl ⟨_,rfl,?_⟩))))))
   exact .inr ⟨_,trivial,hJx⟩
  have hy:y=true:=by simpa using h34
  subst hy
  obtain⟨_,hJ2,hN⟩:=hcase.resolve_right (by simp)
  replace hE:=hE.kx hN (hEX fun e=>by rw[e]at hx;cases hx)
  replace hF:=hF.kx hN hFX
  rw[←Ni (Vt hx)]at hJ2
  refine Aj (Ad (Ac (Aa (U (.ic rfl oQ) (I rfl (LW.nil (Ar ?_)))))))
  exact⟨k+1,⟨by omega,hJ2,hE,hF⟩,tQ,by omega⟩
 have hkk:k=sk.nx.length:=by simp at h12;omega
 refine A4 (Ab (Ab (An (Ac (Af (I rfl (U (.fa (PEv.geq (.t rfl) (.const _)) (rfl)) (Ai (CW.f rfl (Aj (Dg rfl ⟨_,rfl,?_⟩)))))))))))
 exact .inl ⟨_,rfl,by rw[hkk,←List.length_attach (l:=sk.nx),List.take_length]at hJ;exact hJ.j⟩
theorem lT(sk:Sk)(w:World):Ret prog 228 #[.agg sk.cells] w fun r w'=>(∃B,r=.func (.func 241) #[] #[.pointer (some ⟨B,0,none⟩)]∧Blk w' B sk.cells 56∧w.heap.size≤B)∧Up w w':=by
 have hW:=Up.refl w
 refine cT 4 func228 rfl (Af (Ao (.bA rfl) rfl ?_))
 rintro _ w1 ⟨B1,rfl,NB1⟩
 have eB1:=NB1.at_
 replace hW:=hW.up NB1.up
 have hB1:=NB1.blk
 refine Az (Am (Aa (U (.makeFunc (.cu rfl)) (LW.A rfl (Ai (Al (KW.q ?_)))))))
 exact⟨⟨_,rfl,hB1,Nat.le_of_eq eB1.symm⟩,hW⟩
theorem Nl(Bo g cp:Nat)(xs:List (Option Nat))(t:Int)(ad:Option Addr)(m c:Nat)(sk:Sk)(n:Nat)(Bf:Nat)(w:World)(hE:Els w sk.na 1 A5 sk.nx)(hb:sk.bk= -1)(hl:sk.nx.length≤1)(hx:∀x∈sk.nx,x=(n:Int))(hn:n<3)(hnil:xs[n]?=some .none)(hna:sk.nx≠[]→∀B o,sk.na=some ⟨B,o,none⟩→¬D7 [Bq Bo #[.slice (some ⟨g,0,none⟩) 3 cp] 260,J 259 1 mI (.slice (some ⟨g,0,none⟩) 3 cp) (xs)] B)(hS0:Wx.Sep (D7 [Bq Bo #[.slice (some ⟨g,0,none⟩) 3 cp] 260,J 259 1 mI (.slice (some ⟨g,0,none⟩) 3 cp) (xs)]) w w [Bq Bo #[.slice (some ⟨g,0,none⟩) 3 cp] 260,J 259 1 mI (.slice (some ⟨g,0,none⟩) 3 cp) (xs)]):Ret prog 227 #[.agg (Nj t ad m c),.agg sk.cells,.pointer (some ⟨Bo,0,none⟩),.pointer (some ⟨Bf,0,none⟩)] w fun _ w'=>∃z,Wx.Sep (D7 [Bq Bo #[.slice (some ⟨g,0,none⟩) 3 cp] 260,J 259 1 mI (.slice (some ⟨g,0,none⟩) 3 cp) (xs)]) w w' [Bq Bo #[.slice (some ⟨g,0,none⟩) 3 cp] 260,J 259 1 mI (.slice (some ⟨g,0,none⟩) 3 cp) (FO xs n z),vP (Nj t ad m c) 264 z]∧(sk.nx=[]∧z=.none∨sk.nx≠[]∧z.isSome=true):=by
 obtain⟨w0,rfl,_⟩:=W0 w
 have hS:=(hS0.dB.Gl 0 rfl).Gl 0 rfl
 refine E4 (n:=36) func227 rfl rfl rfl (Af (Ao (.bA rfl) rfl ?_))
 rintro _ w1 ⟨B4,rfl,NB4⟩
 have eB4:=NB4.at_
 have zB4:=NB4.size
 replace hS:=hS.Cg NB4
 refine Ao (.bA rfl) rfl ?_
 rintro _ w2 ⟨B5,rfl,NB5⟩
 have eB5:=NB5.at_
 have zB5:=NB5.size
 replace hS:=hS.Cg NB5
 refine Am (Aa (U (.lc rfl (hS.b4.agg)) (A6 (eC (.o rfl) (EG)) rfl (lT sk _) ?_)))
 rintro _ w3 ⟨⟨B8,rfl,hK8,hn8⟩,uw3⟩
 replace hS:=hS.add uw3 (A':=Bq B8 sk.cells 56) (hK8) (fun i h=>by cases h;exact hn8)
 replace hS:=((hS.Gl 1 rfl).Gl 2 rfl).Gl 1 rfl
 replace hS:=hS.add (Up.refl _) (A':=dC) trivial (fun i h=>h.elim)
 refine Ai (Ae ?_)
 obtain⟨bq,hbq⟩:∃bq,bq=w3.heap.size:=⟨_,rfl⟩
 refine P0 (Zs:=[_,_,_]) (σ:=Option Nat) (fun s=>[Bq Bo #[.slice (some ⟨g,0,none⟩) 3 cp] 260,Bq B4 (Nj t ad m c) 264,J 259 1 mI (.slice (some ⟨g,0,none⟩) 3 cp) (FO xs n s),vP (Nj t ad m c) 264 s]) (fun pre s=>((pre=[]∧s=.none)∨(pre.length=1∧s.isSome=true))) (fun _ _ _=>False) (fun x b=>[]) (fun x b=>[(6,.eq (vi x.1)),(2,.eq (.pointer (some ⟨Bo,0,none⟩))),(4,.eq (.pointer (some ⟨B4,0,none⟩))),(3,.eq (.pointer (some ⟨Bf,0,none⟩)))]) .none (.t rfl) (fun args w=>EL args w) (eO _ _ B8 sk _ (fun hne B o e h=>h.1.elim (hna hne B o e) (fun h2=>absurd (Qx hE hne e) oQ)) (fun h=>h.2 ⟨_,List.mem_cons_of_mem _ (List.mem_cons_of_mem _ List.mem_cons_self),rfl⟩) hS.b2 (fun i x hx=>Els.fr hE hS.fr (hna fun e=>by rw[e]at hx;cases hx) i x hx) hb hl) (fun _=>rfl) rfl (fun _ _=>rfl) (show Wx.Sep _ _ _ ([_,_,_]++[_,_,_,_])from hS) (.inl ⟨rfl,rfl⟩) ?_ ?_ ?_ ?_
 ·intro lp x w4
  have hS:=Sep.start no w4
  refine Ia rfl (Aa (LW.A rfl (LW.nil ?_)))
  exact fun a ha=>⟨0,hS,.nil _ _,ha.sub tQ⟩
 ·rintro lp pre x z b w5 hJ hlt hqw hS0 hS
  rw[←hbq]at hqw⊢
  obtain⟨rfl,rfl⟩:=hJ.resolve_right (fun h=>by omega)
  have hxn:=hx x.1 x.2
  obtain⟨Bz,oz,az,hcz⟩:=(Cy (hS.own 2 rfl) (fun _=>rfl)) n .none hnil
  cases az
  refine Ae (Ah (Ea kQ kQ rfl rfl (Au (.lb rfl (hS.b0.Ak rfl)) (Au (.eH (v':=vi (n:Int)) (PEv.mv rfl) (by rw[hxn])) (Au (.Aw underlying260 sizeOf259 (j:=n) (.t rfl) (.t rfl) oQ rfl) (Au (.lb rfl (hcz.nth (j:=0) rfl)) (Au (.tr (PEv.Jy underlying259 (.t rfl)) (rfl)) (Au (.mv rfl) (Eg (Eg (Eg (Eg (Eg (Eg (Eg (Eg (Eg (Eg (Au (.El (b:=false) (.t rfl) (fun hp=>absurd (show true=false from hp) cQ)) (HW.nil ?_))))))))))))))))))))
  intro w6 uw6
  replace hS:=hS.up uw6
  refine Ac (CW.v rfl (Aa (U (.lb rfl (hS.b0.Ak rfl)) (U (.eH (v':=vi (n:Int)) (PEv.mv rfl) (by rw[hxn])) (U (.fB 0 rfl) (U (.lb rfl (hS.b1.Ak rfl)) (U (.fB 1 rfl) (U (.lb rfl (hS.b1.Ak rfl)) (U (.build (cs:=(Nj t ad m c)) underlying264 zeroValue264 Gq (.ct rfl (.cu rfl)) rfl) (Ao (.bA rfl) rfl ?_))))))))))
  rintro _ w7 ⟨B34,rfl,NB34⟩
  replace hS:=hS.Cg NB34
  refine U (.Aw underlying260 sizeOf259 (j:=n) (.t rfl) (.t rfl) oQ rfl) (A9 (.O4 (enc:=mI) (k:=1) (z:=some B34) (i:=n) (j:=0) sizeOf259 (fun _=>rfl) rfl (.t rfl) (.t rfl) (hS.own 2 rfl) hnil cQ rfl) ?_)
  intro w8 Gw8
  replace hS:=hS.Dw 2 rfl Gw8
  refine LW.nil (Ad ?_)
  exact fun _ _=>⟨some B34,[_],.inr ⟨rfl,rfl⟩,hS.Gl 3 rfl,.cons (O9 hS.b0) (.cons (O9 hS.b1) (.cons (uF (hS.own 2 rfl)) (.cons (O9 hS.b4) (.nil _ _))))⟩
 ·rintro Dm ys z w9 hDq hYs hJ hqw hS
  rw[←hbq]at hDq hqw
  replace hS:=Qr (Ds:=[]) (As:=[_,_]) (Bs:=[_,_,_,_]) hS
  refine Ad (Kh rfl (Dm::[]) _ (hS.get 0 rfl).1 (hS.get 0 rfl).2 ?_)
  intro w10 hF_
  replace hS:=hS.step 0 rfl (A':=dC) hF_ trivial (fun _ h=>h.elim)
  refine Gp rfl ⟨_,rfl,?_⟩
  refine⟨z,hS.sub (.cons _ (.cons _ (.cons _ (.cons_cons _ (.cons _ (.cons_cons _ (.cons_cons _ .slnil))))))),?_⟩
  subst hYs
  rcases hJ with⟨h1,h2⟩|⟨h1,h2⟩
  ·exact .inl ⟨List.attach_eq_nil_iff.1 h1,h2⟩
  exact .inr ⟨fun e=>(by rw[List.length_attach,e]at h1;cases h1),h2⟩
 exact fun _ _ _ _ _ _ _ h=>h.elim
theorem Nn(ad:Option Addr)(cp:Nat)(l:List Int)(w:World)(hE0:Els w ad 1 A5 l)(hl:l.length≤1000000000):Ret prog 187 #[.slice ad l.length cp] w fun r w'=>OwnS w' w.heap.size 3 1 A5 r l∧Up w w':=by
 obtain⟨w0,rfl,hS⟩:=W0 w
 refine cT 8 func187 rfl (Af (Az (Am (Af (I rfl (U (.vS underlying37 (.t rfl)) (Ai (CW.b rfl (fun h4=>?_) (fun h4=>?_)))))))))
 ·have hnil:l=[]:=by cases l with|nil=>rfl|cons x r=>(obtain⟨B,o,e,_⟩:=hE0 0 x rfl;rw[e]at h4;cases h4)
  refine Af (Az (Ai (Al (Ap (KW.q ?_)))))
  (subst hnil;exact⟨OwnS.nil _ _ _ _ _,hS.Ch⟩)
 refine Aj (Ac (Af (Ao (.buildSlice (xs:=([]:List Int)) (enc:=A5) (mk:=vi) underlying37 sizeOf3 zeroValue3 rfl cQ (fun _=>rfl) (fun _=>rfl) .nil rfl) rfl ?_)))
 intro v5 w1 hN5
 obtain⟨uw1,B5,rfl,hO5⟩:=Q9 hN5 (Nat.le_refl _)
 replace hS:=hS.add uw1 (A':=J 3 1 A5 (.slice (some ⟨B5,0,none⟩) 0 0) ([]:List Int)) (hO5.mono (Nat.zero_le _)) (fun i h=>hO5.base i h)
 refine I rfl (Ao (.Cu (enc:=A5) (bytes:=8) (i:=Tryz.t3) underlying37 kQ rfl rfl rfl rfl cQ (fun _=>rfl) Eh (.t rfl) (.t rfl) (hS.own 0 rfl) (Av (Els.up hE0 hS.Ch)) (by simp[maxLen];omega) (by simp;omega)) rfl ?_)
 intro v7 w2 Gw2
 replace hS:=hS.Dw 0 rfl Gw2
 refine LW.A rfl (Ai (Al (KW.q ?_)))
 exact⟨(hS.own 0 rfl).Il (fun i h=>(hS.foot 0 rfl i h).resolve_left (fun h=>h)),hS.Ch⟩
theorem aH(sa wa:Option Addr)(sc wc:Nat)(s0 s1 s2:Sk)(w:World)(hF:FlE w sa wa s0 s1 s2):Ret prog 186 #[.agg (Jt sa sc wa wc),vi 0] w fun r w'=>∃go b1 b2 a c,r=.slice (some ⟨go,0,none⟩) 3 3∧Els w' (some ⟨go,0,none⟩) 1 mI [.none,some b1,some b2]∧Blk w' b2 (Nj 14 a 1 c) 264∧Els w' a 1 A5 [1]∧Up w w':=by
 obtain⟨w0,rfl,hS⟩:=W0 w
 refine cT 109 func186 rfl (Af (Ao (.bA rfl) rfl ?_))
 rintro _ w1 ⟨B2,rfl,NB2⟩
 have eB2:=NB2.at_
 have zB2:=NB2.size
 replace hS:=hS.Cg NB2
 refine Az (Am (Aa (U (.fB 2 rfl) (U (.lb rfl (hS.b0.Ak rfl)) (U (.Cw underlying52 (.t rfl)) (Ao (.xL (enc:=mI) (x0:=.none) (i:=Tryz.t259) rfl rfl underlying260 kQ rfl rfl cQ (.t rfl) (.t rfl)) rfl ?_))))))
 rintro _ w2 ⟨uM,go,zM,rfl,hOM⟩
 replace hS:=hS.add uM (A':=J 259 1 mI (.slice (some ⟨go,0,none⟩) 3 3) (List.replicate 3 .none)) hOM (fun i h=>by cases h;exact zM)
 refine Ao (.Ga zeroValue260 rfl) rfl ?_
 rintro _ w3 ⟨B5,rfl,MB5⟩
 refine A9 (.store sizeOf260 (.t rfl) (.t rfl) rfl MB5.blk cQ) ?_
 intro w4 LB5
 have NB5:=MB5.set LB5
 replace hS:=hS.Cg NB5
 refine Am (Aa (U (.fB 2 rfl) (U (.lb rfl (hS.b0.Ak rfl)) (U (.Cw underlying52 (.t rfl)) (Ao (.xL (enc:=AV) (x0:=false) (i:=Tryz.t4) rfl rfl underlying302 kQ rfl rfl cQ (.t rfl) (.t rfl)) rfl ?_)))))
 rintro _ w5 ⟨uM,gd,zM,rfl,hOM⟩
 replace hS:=hS.add uM (A':=J 4 1 AV (.slice (some ⟨gd,0,none⟩) 3 3) (List.replicate 3 false)) hOM (fun i h=>by cases h;exact zM)
 refine LW.A rfl (Am (Aa (Ao (.Ga zeroValue303 rfl) rfl ?_)))
 rintro _ w6 ⟨B7,rfl,MB7⟩
 refine A9 (.store sizeOf303 (.t rfl) (.func _) rfl MB7.blk cQ) ?_
 intro w7 LB7
 have NB7:=MB7.set LB7
 replace hS:=hS.Cg NB7
 refine Am (Aa (U (.makeFunc (.ct rfl (.cu rfl))) (LW.A rfl (Am ?_))))
 obtain⟨Bs,os,as_,hcs⟩:=hF.E 0 s0 rfl
 refine Dh 9 kQ kQ kQ kQ kQ rfl rfl (Au (.mv rfl) (Au (.fB 0 rfl) (Au (.lb rfl (hS.b0.Ak rfl)) (Au (.build (cs:=(Nj 2 none 0 0)) underlying264 zeroValue264 Gq (.cu rfl) rfl) (Au (.fB 2 rfl) (Au (.lb rfl (hS.b0.Ak rfl)) (Au (.mv rfl) (Au (.Aw underlying52 sizeOf56 (j:=0) (.t rfl) (.t rfl) cQ as_) (Au (.lc rfl ((hcs.up hS.Ch))) (HW.nil ?_))))))))))
 intro w8 uw8
 replace hS:=hS.up uw8
 replace hS:=hS.Gl 2 rfl
 replace hS:=hS.Gl 1 rfl
 have hq_:=(show Wx.Sep _ _ _ ([_,_,_]++[_,_])from hS)
 refine A6 (Cc (f:=227) (lb:=#[.pointer (some ⟨B5,0,none⟩),.pointer (some ⟨B7,0,none⟩)]) (.t rfl) (.ct rfl (.cu rfl)) (mO)) rfl (Nl B5 go 3 _ 2 none 0 0 s0 1 B7 _ (Els.up (hF.p s0 (by simp)).2 hS.Ch) (hF.g s0 (by simp)).bk (hF.g s0 (by simp)).nx.1 (by rw[hF.n0];simp) cQ rfl (fun hne B o e h=>by obtain⟨A_,hA_,hi_⟩:=h;have h1_:=((hq_.right.each A_ hA_).2 B hi_).resolve_left (fun h=>h);have h2_:=Qx (hF.p s0 (by simp)).2 hne e;omega) hq_.right.self) ?_
 rintro _ w9 ⟨z1,uw9,hz1⟩
 replace hS:=hq_.frame uw9
 obtain⟨_,hz1⟩:=hz1.resolve_left (fun h=>by rw[hF.n0]at h;cases h.1)
 obtain⟨b1,rfl⟩:=Option.isSome_iff_exists.1 hz1
 replace hS:=(hS.add (Up.refl _) (A':=dC) trivial (fun i h=>h.elim)).Y2 (OwnS.nil _ 0 3 1 A5)
 refine Ai (Ae (A3 (σ:=Nat×Option Nat×Option Addr×Nat) (fun s w=>(s.1≤2)∧((s.1=0∧s.2.1=.none)∨(1≤s.1∧s.2.1.isSome=true))∧(Wx.Sep no w0 w [Bq B2 (Jt sa sc wa wc) 54,J 4 1 AV (.slice (some ⟨gd,0,none⟩) 3 3) (iF s.1),Bq B7 #[.func (.func 226) #[] #[]] 303,Bq B5 #[.slice (some ⟨go,0,none⟩) 3 3] 260,J 259 1 mI (.slice (some ⟨go,0,none⟩) 3 3) (eJ b1 (s.2.1)),Bq b1 (Nj 2 none 0 0) 264,vP (Nj 14 (s.2.2.1) 1 (s.2.2.2)) 264 (s.2.1),J 3 1 A5 (if s.1=0 then .slice none 0 0 else .slice (s.2.2.1) 1 (s.2.2.2)) (if s.1=0 then[]else[1])])) (fun s=>[]) ([(2,.eq _),(5,.eq _),(6,.eq _),(7,.eq _),(8,.eq _)]) (fun s=>3-s.1) (0,.none,.none,0) ?_ tQ ?_))
 ·exact⟨Nat.zero_le _,.inl ⟨rfl,rfl⟩,hS⟩
 rintro⟨k,z,a,c⟩ w10 ⟨hk,hz,hS⟩
 dsimp only at hk hz hS
 refine Ae (Af (U (.eH (v':=vi (lS k 0)) (PEv.assign (.const _)) (by rw[FP])) (Am (Af (U (.lb rfl (hS.b3.Ak rfl)) (U (.Cw underlying260 (.t rfl)) (U (.move (.const _)) (Ai (Ae (A3 (σ:=Nat) (fun s w=>(s≤3)∧(Wx.Sep no w0 w [Bq B2 (Jt sa sc wa wc) 54,J 4 1 AV (.slice (some ⟨gd,0,none⟩) 3 3) (iF k),Bq B7 #[.func (.func 226) #[] #[]] 303,Bq B5 #[.slice (some ⟨go,0,none⟩) 3 3] 260,J 259 1 mI (.slice (some ⟨go,0,none⟩) 3 3) (eJ b1 (z)),Bq b1 (Nj 2 none 0 0) 264,vP (Nj 14 (a) 1 (c)) 264 (z),J 3 1 A5 (if k=0 then .slice none 0 0 else .slice (a) 1 (c)) (if k=0 then[]else[1])])) (fun s=>[(33,.eq (vi (s:Int))),(9,.eq (vi (lS k s)))]) ([(2,.eq _),(5,.eq _),(6,.eq _),(7,.eq _),(8,.eq _),(31,.eq _),(32,.eq _)]) (fun s=>3-s) 0 ?_ tQ ?_))))))))))
 ·exact⟨Nat.zero_le _,hS⟩
 rintro j w11 ⟨hj,hS⟩
 refine Af (U (.l2 rfl rfl) (Am (CW.b rfl (fun h34=>?_) (fun h34=>?_))))
 ·replace h34:=dQ h34
  refine Aj (Ac (Ah (Ae (Ah ?_))))
  have hj3:j<3:=Int.ofNat_lt.1 h34
  obtain⟨b2,hb2⟩:=AN (b1:=b1) hz
  obtain⟨x,hxj⟩:=Aq (xs:=eJ b1 z) (i:=j) hj3
  obtain⟨Bo,oo,ao,hco⟩:=(Cy (hS.own 4 rfl) (fun _=>rfl)) j x hxj
  cases ao
  refine Aa (I rfl (U (.Aw underlying260 sizeOf259 (j:=j) (.t rfl) (.t rfl) oQ rfl) (U (.lb rfl (hco.nth (j:=0) rfl)) (LW.A rfl (LW.A rfl (Am ?_))))))
  cases hq10:eI k j with
  |lt=>
   obtain⟨e1,e2⟩:=AK (b1:=b1) (b2:=b2) hj3 hq10
   rw[←hb2]at e1
   cases Option.some.inj (hxj.symm.trans e1)
   refine Ea kQ kQ rfl rfl (Au (.mv rfl) (Au (.fa (Nk underlying259 (.t rfl)) (rfl)) (Au (.mv rfl) (Eg (Eg (Eg (Eg (Eg (Au (.fa (PEv.F0 (b:=false) (.t rfl) (fun hp=>absurd (show false=true from hp) cQ)) (rfl)) (Au (.mv rfl) (Eg (Eg (Eg (Ed rfl rfl rfl rfl rfl (Ed rfl rfl rfl rfl rfl (Ed rfl rfl rfl rfl rfl (Ed rfl rfl rfl rfl rfl (Ed rfl rfl rfl rfl rfl (Ed rfl rfl rfl rfl rfl (Ed rfl rfl rfl rfl rfl (Ed rfl rfl rfl rfl rfl (Ed rfl rfl rfl rfl rfl (Ed rfl rfl rfl rfl rfl (Ed rfl rfl rfl rfl rfl (Ed rfl rfl rfl rfl rfl (Eg (Au (.fa (PEv.F0 (b:=false) (.t rfl) (fun hp=>absurd (show false=true from hp) cQ)) (rfl)) (HW.nil ?_))))))))))))))))))))))))))))
   intro w12 uw12
   replace hS:=hS.up uw12
   refine Ac (CW.f rfl (Aj (Ad (Ac (Aa (U (.ic rfl oQ) (I rfl (LW.nil (Ar ?_)))))))))
   exact⟨j+1,⟨by omega,hS.take 8⟩,⟨rfl,by rw[e2];rfl,rfl,rfl,rfl,rfl,rfl,rfl,rfl,trivial⟩,by omega⟩
  |eq=>
   obtain⟨⟨b,e1⟩,ed,e0,e2⟩:=AL (b1:=b1) (b2:=b2)  hq10
   rw[←hb2]at e1
   cases Option.some.inj (hxj.symm.trans e1)
   obtain⟨Bd,od,ad_,hcd⟩:=(Cy (hS.own 1 rfl) (fun _=>rfl)) j _ ed
   cases ad_
   refine Ea kQ kQ rfl rfl (Au (.mv rfl) (Au (.tr (Nk underlying259 (.t rfl)) (rfl)) (Au (.mv rfl) (Ef (.mv rfl) (Ef (.mv rfl) (Ef (.Aw underlying302 sizeOf4 (j:=j) (.t rfl) (.t rfl) oQ rfl) (Ef (.lb rfl (hcd.nth (j:=0) rfl)) (Ef (.tr (PEv.n1 rfl) (rfl)) (Au (.tr (PEv.pa rfl (fun hp=>(by exact .tmp rfl))) (rfl)) (Au (.mv rfl) (Ef (.mv rfl) (Ef (.tr (PEv.lss (.t rfl) (.const _)) (by rw[e0];rfl)) (Ef (.mv rfl) (Eg (Eg (Eg (Eg (Eg (Eg (Eg (Eg (Eg (Eg (Eg (Eg (Ef (.tr (PEv.El (b:=false) (.t rfl) (fun hp=>absurd (show true=false from hp) cQ)) (rfl)) (Au (.tr (PEv.pa rfl (fun hp=>(by exact .tmp rfl))) (rfl)) (HW.nil ?_))))))))))))))))))))))))))))
   intro w13 uw13
   replace hS:=hS.up uw13
   refine Ac (CW.v rfl (Aa (I rfl (LW.A rfl (LW.nil (Ad (Ac (Aa (U (.ic rfl oQ) (I rfl (LW.nil (Ar ?_))))))))))))
   exact⟨j+1,⟨by omega,hS.take 8⟩,⟨rfl,by rw[e2];rfl,rfl,rfl,rfl,rfl,rfl,rfl,rfl,trivial⟩,by omega⟩
  |gt=>
   obtain⟨⟨b,e1⟩,ed,e2⟩:=AM (b1:=b1) (b2:=b2) hj3 hk hq10
   rw[←hb2]at e1
   cases Option.some.inj (hxj.symm.trans e1)
   obtain⟨Bd,od,ad_,hcd⟩:=(Cy (hS.own 1 rfl) (fun _=>rfl)) j _ ed
   cases ad_
   refine Ea kQ kQ rfl rfl (Au (.mv rfl) (Au (.tr (Nk underlying259 (.t rfl)) (rfl)) (Au (.mv rfl) (Ef (.mv rfl) (Ef (.mv rfl) (Ef (.Aw underlying302 sizeOf4 (j:=j) (.t rfl) (.t rfl) oQ rfl) (Ef (.lb rfl (hcd.nth (j:=0) rfl)) (Ef (.fa (PEv.n1 rfl) (rfl)) (Au (.fa (PEv.pa rfl (fun hp=>(by exact .tmp rfl))) (rfl)) (Au (.mv rfl) (Eg (Eg (Eg (Ed rfl rfl rfl rfl rfl (Ed rfl rfl rfl rfl rfl (Ed rfl rfl rfl rfl rfl (Ed rfl rfl rfl rfl rfl (Ed rfl rfl rfl rfl rfl (Ed rfl rfl rfl rfl rfl (Ed rfl rfl rfl rfl rfl (Ed rfl rfl rfl rfl rfl (Ed rfl rfl rfl rfl rfl (Ed rfl rfl rfl rfl rfl (Ed rfl rfl rfl rfl rfl (Ed rfl rfl rfl rfl rfl (Eg (Au (.fa (PEv.F0 (b:=false) (.t rfl) (fun hp=>absurd (show false=true from hp) cQ)) (rfl)) (HW.nil ?_))))))))))))))))))))))))))))
   intro w14 uw14
   replace hS:=hS.up uw14
   refine Ac (CW.f rfl (Aj (Ad (Ac (Aa (U (.ic rfl oQ) (I rfl (LW.nil (Ar ?_)))))))))
   exact⟨j+1,⟨by omega,hS.take 8⟩,⟨rfl,by rw[e2];rfl,rfl,rfl,rfl,rfl,rfl,rfl,rfl,trivial⟩,by omega⟩
 replace h34:=dQ h34
 refine A4 (Ab (Ab (An (Ac (Ah (Ah ?_))))))
 have hj3:j=3:=by have:¬j<3:=fun h=>h34 (Int.ofNat_lt.2 h);omega
 subst hj3
 refine Aa (I rfl (U (.lss (.t rfl) (.const _)) (Ai (CW.b rfl (fun h68=>?_) (fun h68=>?_)))))
 ·replace h68:=dQ h68
  have hk2:k=2:=vR hk h68
  subst hk2
  obtain⟨b2,rfl⟩:=Option.isSome_iff_exists.1 (hz.resolve_left (fun h=>absurd h.1 cQ)).2
  refine Af (U (.lb rfl (hS.b3.Ak rfl)) (LW.A rfl (Ai (Al (Ap (Ay (Ap (Ay (KW.q ?_)))))))))
  exact⟨go,b1,b2,a,c,rfl,Cy (hS.own 4 rfl) (fun _=>rfl),hS.blk 6 rfl,Cy (hS.own 7 rfl) (fun _=>rfl),hS.Ch⟩
 replace h68:=dQ h68
 have hk1:k<2:=AO hk h68
 refine Aj (Ac (Ah ?_))
 cases k with
 |zero=>
  obtain rfl:z=.none:=hz.elim (fun h=>h.2) (fun h=>by omega)
  obtain⟨Bs,os,as_,hcs⟩:=hF.E 1 s1 rfl
  have hmn:s1.mn=10:=(hF.g s1 (by simp)).mn
  refine Aa (I rfl (I rfl (U (.Aw underlying302 sizeOf4 (j:=1) (k:=3) (.t rfl) (.t rfl) cQ rfl) (A9 (.O4 (enc:=AV) (k:=1) (z:=true) (i:=1) (j:=0) sizeOf4 (fun _=>rfl) rfl (.t rfl) (.const _) (hS.own 1 rfl) (x0:=false) rfl cQ rfl) ?_))))
  intro w15 Gw15
  replace hS:=hS.Dw 1 rfl Gw15
  refine Ai (Zi 35 28 [25,27] [29] (.eq (.func (.func 227) #[] #[.pointer (some ⟨B5,0,none⟩),.pointer (some ⟨B7,0,none⟩)])::.eq (.slice (some ⟨go,0,none⟩) 3 3)::.eq (vi 1)::.eq (.pointer (some ⟨go,0+1*1,none⟩))::.eq (.pointer (some ⟨b1,0,none⟩))::.eq (.pointer (some ⟨b1,0,none⟩))::.eq (.pointer (some ⟨b1,0,none⟩))::.eq (vi 2)::.eq (.pointer (some ⟨B2,2,none⟩))::.eq (.slice sa 3 sc)::.eq (vi 1)::.eq (.pointer (some ⟨Bs,os+1*7,none⟩))::.eq (.pointer (some ⟨Bs,os+1*7+2,none⟩))::.eq (vi 10)::.eq (vi 12)::.eq (.pointer (some ⟨B2,0,none⟩))::.eq (vi 2)::.eq (vi 14)::.eq (.slice (some ⟨go,0,none⟩) 3 3)::.eq (vi 1)::.eq (.pointer (some ⟨go,0+1*1,none⟩))::.eq (.pointer (some ⟨b1,0,none⟩))::.eq (.pointer (some ⟨b1,0,none⟩))::.eq (.pointer (some ⟨b1,1,none⟩))::.eq (.slice none 0 0)::(.pred fun v W=>OwnS W w15.drew.heap.size 3 1 A5 v ([]:List Int))::.eq (vi 1)::(.pred fun v W=>Sl W v 1 A5 [1])::(.pred fun v W=>OwnS W w15.drew.heap.size 3 1 A5 v ([1]:List Int))::(.pred fun v W=>∃ad c,v=.agg (Nj 14 ad 1 c)∧OwnS W w15.drew.heap.size 3 1 A5 (.slice ad 1 c) ([1]:List Int))::.eq (.pointer (some ⟨B2,2,none⟩))::.eq (.slice sa 3 sc)::.eq (vi 1)::.eq (.pointer (some ⟨Bs,os+1*7,none⟩))::.eq (.agg s1.cells)::[]) [73,102,107] (fun _ _=>True) kQ rfl kQ kQ kQ kQ kQ kQ kQ kQ kQ kQ ⟨PhU.eq _,PhU.eq _,PhU.eq _,PhU.eq _,PhU.eq _,PhU.eq _,PhU.eq _,PhU.eq _,PhU.eq _,PhU.eq _,PhU.eq _,PhU.eq _,PhU.eq _,PhU.eq _,PhU.eq _,PhU.eq _,PhU.eq _,PhU.eq _,PhU.eq _,PhU.eq _,PhU.eq _,PhU.eq _,PhU.eq _,PhU.eq _,PhU.eq _,PhU.pred fun _ _ _ h u=>OwnS.up h u,PhU.eq _,PhU.pred fun _ _ _ h u=>Sl.up h u,PhU.pred fun _ _ _ h u=>OwnS.up h u,PhU.pred fun _ _ _ h u=>let⟨ad,c,e,ho⟩:=h;⟨ad,c,e,ho.up u⟩,PhU.eq _,PhU.eq _,PhU.eq _,PhU.eq _,PhU.eq _,trivial⟩ ⟨.inr (fun _ _ _ h _=>h),.inr (fun _ _ _ h _=>h),.inr (fun _ _ _ h _=>h),.inr (fun _ _ _ h _=>h),.inr (fun _ _ _ h _=>h),.inr (fun _ _ _ h _=>h),.inr (fun _ _ _ h _=>h),.inr (fun _ _ _ h _=>h),.inr (fun _ _ _ h _=>h),.inr (fun _ _ _ h _=>h),.inr (fun _ _ _ h _=>h),.inr (fun _ _ _ h _=>h),.inr (fun _ _ _ h _=>h),.inr (fun _ _ _ h _=>h),.inr (fun _ _ _ h _=>h),.inr (fun _ _ _ h _=>h),.inr (fun _ _ _ h _=>h),.inr (fun _ _ _ h _=>h),.inr (fun _ _ _ h _=>h),.inr (fun _ _ _ h _=>h),.inr (fun _ _ _ h _=>h),.inr (fun _ _ _ h _=>h),.inr (fun _ _ _ h _=>h),.inr (fun _ _ _ h _=>h),.inr (fun _ _ _ h _=>h),.inl rfl,.inr (fun _ _ _ h _=>h),.inl rfl,.inl rfl,.inl rfl,.inr (fun _ _ _ h _=>h),.inr (fun _ _ _ h _=>h),.inr (fun _ _ _ h _=>h),.inr (fun _ _ _ h _=>h),.inr (fun _ _ _ h _=>h),trivial⟩ ?_ ?_)
  ·intro W hU0
   have hU:=(Up.drew w15).trans hU0
   have hSW:=hS.up hU
   have zU0:=hU0.size
   obtain⟨Bg,og,ag,hcg⟩:=(Cy (hSW.own 4 rfl) (fun _=>rfl)) 1 (some b1) rfl
   cases ag
   have hEL:Els W none 1 A5 ([]:List Int):=fun i x h=>by simp at h
   refine aC ⟨rfl,fun _=>TU.p (.mv rfl) rfl,fun h=>absurd h cQ⟩ (aC ⟨rfl,fun _=>TU.p (.lb rfl (hSW.b3.Ak rfl)) rfl,fun h=>absurd h cQ⟩ (aC ⟨rfl,fun _=>TU.p (.mv rfl) rfl,fun h=>absurd h cQ⟩ (aC ⟨rfl,fun _=>TU.p (.Aw (j:=1) underlying260 sizeOf259 (.t rfl) (.t rfl) cQ rfl) rfl,fun h=>absurd h cQ⟩ (aC ⟨rfl,fun _=>TU.p (.lb rfl (AggAt.nth (j:=0) hcg rfl)) rfl,fun h=>absurd h cQ⟩ (aC ⟨rfl,fun _=>TU.p (.nc rfl) rfl,fun h=>absurd h cQ⟩ (aC ⟨rfl,fun _=>TU.p (.fB 0 rfl) rfl,fun h=>absurd h cQ⟩ (aC ⟨rfl,fun _=>TU.p (.lb rfl (hSW.b5.Ak rfl)) rfl,fun h=>absurd h cQ⟩ (aC ⟨rfl,fun _=>TU.p (.fB 2 rfl) rfl,fun h=>absurd h cQ⟩ (aC ⟨rfl,fun _=>TU.p (.lb rfl (hSW.b0.Ak rfl)) rfl,fun h=>absurd h cQ⟩ (aC ⟨rfl,fun _=>TU.p (.mv rfl) rfl,fun h=>absurd h cQ⟩ (aC ⟨rfl,fun _=>TU.p (.Aw (j:=1) underlying52 sizeOf56 (.t rfl) (.t rfl) cQ as_) rfl,fun h=>absurd h cQ⟩ (aC ⟨rfl,fun _=>TU.p (.fB 2 rfl) rfl,fun h=>absurd h cQ⟩ (aC ⟨rfl,fun _=>TU.p (.eH (PEv.lb rfl ((hcs.up hSW.Ch).nth (j:=2) rfl)) (by rw[hmn])) rfl,fun h=>absurd h cQ⟩ (aC ⟨rfl,fun _=>TU.p (.add (.t rfl) (.t rfl) cQ cQ) rfl,fun h=>absurd h cQ⟩ (aC ⟨rfl,fun _=>TU.p (.fB 0 rfl) rfl,fun h=>absurd h cQ⟩ (aC ⟨rfl,fun _=>TU.p (.lb rfl (hSW.b0.Ak rfl)) rfl,fun h=>absurd h cQ⟩ (aC ⟨rfl,fun _=>TU.p (.add (.t rfl) (.t rfl) cQ cQ) rfl,fun h=>absurd h cQ⟩ (aC ⟨rfl,fun _=>TU.p (.lb rfl (hSW.b3.Ak rfl)) rfl,fun h=>absurd h cQ⟩ (aC ⟨rfl,fun _=>TU.p (.mv rfl) rfl,fun h=>absurd h cQ⟩ (aC ⟨rfl,fun _=>TU.p (.Aw (j:=1) underlying260 sizeOf259 (.t rfl) (.t rfl) cQ rfl) rfl,fun h=>absurd h cQ⟩ (aC ⟨rfl,fun _=>TU.p (.lb rfl (AggAt.nth (j:=0) hcg rfl)) rfl,fun h=>absurd h cQ⟩ (aC ⟨rfl,fun _=>TU.p (.nc rfl) rfl,fun h=>absurd h cQ⟩ (aC ⟨rfl,fun _=>TU.p (.fB 1 rfl) rfl,fun h=>absurd h cQ⟩ (aC ⟨rfl,fun _=>TU.p (.lb rfl (hSW.b5.Ak rfl)) rfl,fun h=>absurd h cQ⟩ (aC ⟨rfl,fun _=>TU.c (eC (.o rfl) (mN)) (Nn none 0 ([]:List Int) W hEL cQ) (fun v W' h=>⟨h.2,h.1.mono zU0⟩),fun h=>absurd h cQ⟩ (aC ⟨rfl,fun _=>TU.p (.mv rfl) rfl,fun h=>absurd h cQ⟩ (aC ⟨rfl,fun _=>TU.r (REv.buildSlice (xs:=([1]:List Int)) (enc:=A5) (mk:=vi) underlying37 sizeOf3 zeroValue3 rfl bQ (fun _=>rfl) (fun _=>rfl) (.cu rfl) rfl) (fun v W' h=>h.q),fun h=>absurd h cQ⟩ (aC ⟨rfl,fun h=>absurd rfl h,fun _ a ha=>?_⟩ ?_))))))))))))))))))))))))))))
   ·skip
    have h1:=ha.known (p:=fun v W=>OwnS W w15.drew.heap.size 3 1 A5 v ([]:List Int)) (t:=98) rfl
    have h2:=ha.known (p:=fun v W=>Sl W v 1 A5 [1]) (t:=100) rfl
    obtain⟨v,W',hr,hG⟩:=REv.Cu (enc:=A5) (bytes:=8) (i:=Tryz.t3) underlying37 kQ rfl rfl rfl rfl cQ (fun _=>rfl) Eh (.tmp (t:=98) rfl) (.tmp (t:=100) rfl) (h1.mono (Nat.zero_le _)) h2 cQ cQ a ((ha.Zj (t:=98) rfl).Zj (t:=100) rfl)
    exact .inl ⟨v,W',hr,⟨hU0.sN hG.fr (fun b hb=>h1.base b hb),trivial⟩,OwnS.Il hG.holds fun i hi=>(hG.sub i hi).elim (fun h=>h1.base i h) (fun h=>Nat.le_trans zU0 h)⟩
   refine aC ⟨rfl,fun _=>TU.open (d:=101) rfl fun v hv=>by obtain⟨ad,c,rfl,_⟩:=OwnS.sl hv (fun _=>rfl);exact TU.p (.build (cs:=Nj 14 ad 1 c) underlying264 zeroValue264 Gq (.ct rfl (.cu rfl)) rfl) ⟨ad,c,rfl,hv⟩,fun h=>absurd h cQ⟩ (aC ⟨rfl,fun _=>TU.p (.fB 2 rfl) rfl,fun h=>absurd h cQ⟩ (aC ⟨rfl,fun _=>TU.p (.lb rfl (hSW.b0.Ak rfl)) rfl,fun h=>absurd h cQ⟩ (aC ⟨rfl,fun _=>TU.p (.mv rfl) rfl,fun h=>absurd h cQ⟩ (aC ⟨rfl,fun _=>TU.p (.Aw (j:=1) underlying52 sizeOf56 (.t rfl) (.t rfl) cQ as_) rfl,fun h=>absurd h cQ⟩ (aC ⟨rfl,fun _=>TU.p (.lc rfl (hcs.up hSW.Ch)) rfl,fun h=>absurd h cQ⟩ ?_)))))
   exact allL.nil
  intro w16 g hU0 hg
  have hU:=(Up.drew w15).trans hU0
  have e73:=hg 0 _ 73 cQ rfl rfl rfl
  obtain⟨adN,cN,e102,hO102⟩:=hg 29 _ 102 cQ rfl rfl rfl
  have e107:=hg 34 _ 107 cQ rfl rfl rfl
  change LW _ _ _ _ _ _ _ _ ((73,.eq (g 73))::(102,.eq (g 102))::(107,.eq (g 107))::_) _
  replace e73:g 73=_:=e73
  replace e107:g 107=_:=e107
  rw[e73,e102,e107]
  replace hS:=hS.add hU (A':=J 3 1 A5 (.slice adN 1 cN) ([1]:List Int)) (hO102.mono (Nat.zero_le _)) (fun i h=>hO102.base i h)
  replace hS:=hS.Gl 3 rfl
  replace hS:=hS.Gl 3 rfl
  have hq_:=(show Wx.Sep _ _ _ ([_,_,_,_,_,_,_]++[_,_])from hS)
  refine A6 (Cc (f:=227) (lb:=#[.pointer (some ⟨B5,0,none⟩),.pointer (some ⟨B7,0,none⟩)]) (.t rfl) (.ct rfl (.cu rfl)) (mO)) rfl (Nl B5 go 3 (eJ b1 (.none)) 14 adN 1 cN s1 2 B7 _ (Els.up (hF.p s1 (by simp)).2 hS.Ch) (hF.g s1 (by simp)).bk (hF.g s1 (by simp)).nx.1 (by rw[hF.n1];simp) cQ rfl (fun hne B o e h=>by obtain⟨A_,hA_,hi_⟩:=h;have h1_:=((hq_.right.each A_ hA_).2 B hi_).resolve_left (fun h=>h);have h2_:=Qx (hF.p s1 (by simp)).2 hne e;omega) hq_.right.self) ?_
  rintro _ w17 ⟨z1,uw17,hz1⟩
  replace hS:=hq_.frame uw17
  obtain⟨_,hz1⟩:=hz1.resolve_left (fun h=>by rw[hF.n1]at h;cases h.1)
  obtain⟨b2,rfl⟩:=Option.isSome_iff_exists.1 hz1
  replace hS:=(((hS.Gl 3 rfl).Gl 8 rfl).Gl 5 rfl)
  replace hS:=hS.sub (.cons_cons _ (.cons_cons _ (.cons_cons _ (.cons _ (.cons _ (List.Sublist.refl _))))))
  refine LW.nil (Ad (Ar ?_))
  exact⟨(1,some b2,adN,cN),⟨Nat.le_of_ble_eq_true rfl,.inr ⟨Nat.le_refl _,rfl⟩,hS⟩,tQ,by omega⟩
 |succ k1=>
  obtain rfl:k1=0:=by omega
  obtain⟨b2,rfl⟩:=Option.isSome_iff_exists.1 (hz.resolve_left (fun h=>absurd h.1 cQ)).2
  obtain⟨Bs,os,as_,hcs⟩:=hF.E 2 s2 rfl
  have hmn:s2.mn=10:=(hF.g s2 (by simp)).mn
  refine Aa (I rfl (I rfl (U (.Aw underlying302 sizeOf4 (j:=2) (k:=3) (.t rfl) (.t rfl) cQ rfl) (A9 (.O4 (enc:=AV) (k:=1) (z:=true) (i:=2) (j:=0) sizeOf4 (fun _=>rfl) rfl (.t rfl) (.const _) (hS.own 1 rfl) (x0:=false) rfl cQ rfl) ?_))))
  intro w18 Gw18
  replace hS:=hS.Dw 1 rfl Gw18
  refine Ai (Zi 35 28 [25,27] [29] (.eq (.func (.func 227) #[] #[.pointer (some ⟨B5,0,none⟩),.pointer (some ⟨B7,0,none⟩)])::.eq (.slice (some ⟨go,0,none⟩) 3 3)::.eq (vi 2)::.eq (.pointer (some ⟨go,0+2*1,none⟩))::.eq (.pointer (some ⟨b2,0,none⟩))::.eq (.pointer (some ⟨b2,0,none⟩))::.eq (.pointer (some ⟨b2,0,none⟩))::.eq (vi 14)::.eq (.pointer (some ⟨B2,2,none⟩))::.eq (.slice sa 3 sc)::.eq (vi 2)::.eq (.pointer (some ⟨Bs,os+2*7,none⟩))::.eq (.pointer (some ⟨Bs,os+2*7+2,none⟩))::.eq (vi 10)::.eq (vi 24)::.eq (.pointer (some ⟨B2,0,none⟩))::.eq (vi 2)::.eq (vi 26)::.eq (.slice (some ⟨go,0,none⟩) 3 3)::.eq (vi 2)::.eq (.pointer (some ⟨go,0+2*1,none⟩))::.eq (.pointer (some ⟨b2,0,none⟩))::.eq (.pointer (some ⟨b2,0,none⟩))::.eq (.pointer (some ⟨b2,1,none⟩))::.eq (.slice a 1 c)::(.pred fun v W=>OwnS W w18.drew.heap.size 3 1 A5 v ([1]:List Int))::.eq (vi 2)::(.pred fun v W=>Sl W v 1 A5 [2])::(.pred fun v W=>OwnS W w18.drew.heap.size 3 1 A5 v ([1,2]:List Int))::(.pred fun v W=>∃ad c,v=.agg (Nj 26 ad 2 c)∧OwnS W w18.drew.heap.size 3 1 A5 (.slice ad 2 c) ([1,2]:List Int))::.eq (.pointer (some ⟨B2,2,none⟩))::.eq (.slice sa 3 sc)::.eq (vi 2)::.eq (.pointer (some ⟨Bs,os+2*7,none⟩))::.eq (.agg s2.cells)::[]) [73,102,107] (fun _ _=>True) kQ rfl kQ kQ kQ kQ kQ kQ kQ kQ kQ kQ ⟨PhU.eq _,PhU.eq _,PhU.eq _,PhU.eq _,PhU.eq _,PhU.eq _,PhU.eq _,PhU.eq _,PhU.eq _,PhU.eq _,PhU.eq _,PhU.eq _,PhU.eq _,PhU.eq _,PhU.eq _,PhU.eq _,PhU.eq _,PhU.eq _,PhU.eq _,PhU.eq _,PhU.eq _,PhU.eq _,PhU.eq _,PhU.eq _,PhU.eq _,PhU.pred fun _ _ _ h u=>OwnS.up h u,PhU.eq _,PhU.pred fun _ _ _ h u=>Sl.up h u,PhU.pred fun _ _ _ h u=>OwnS.up h u,PhU.pred fun _ _ _ h u=>let⟨ad,c,e,ho⟩:=h;⟨ad,c,e,ho.up u⟩,PhU.eq _,PhU.eq _,PhU.eq _,PhU.eq _,PhU.eq _,trivial⟩ ⟨.inr (fun _ _ _ h _=>h),.inr (fun _ _ _ h _=>h),.inr (fun _ _ _ h _=>h),.inr (fun _ _ _ h _=>h),.inr (fun _ _ _ h _=>h),.inr (fun _ _ _ h _=>h),.inr (fun _ _ _ h _=>h),.inr (fun _ _ _ h _=>h),.inr (fun _ _ _ h _=>h),.inr (fun _ _ _ h _=>h),.inr (fun _ _ _ h _=>h),.inr (fun _ _ _ h _=>h),.inr (fun _ _ _ h _=>h),.inr (fun _ _ _ h _=>h),.inr (fun _ _ _ h _=>h),.inr (fun _ _ _ h _=>h),.inr (fun _ _ _ h _=>h),.inr (fun _ _ _ h _=>h),.inr (fun _ _ _ h _=>h),.inr (fun _ _ _ h _=>h),.inr (fun _ _ _ h _=>h),.inr (fun _ _ _ h _=>h),.inr (fun _ _ _ h _=>h),.inr (fun _ _ _ h _=>h),.inr (fun _ _ _ h _=>h),.inl rfl,.inr (fun _ _ _ h _=>h),.inl rfl,.inl rfl,.inl rfl,.inr (fun _ _ _ h _=>h),.inr (fun _ _ _ h _=>h),.inr (fun _ _ _ h _=>h),.inr (fun _ _ _ h _=>h),.inr (fun _ _ _ h _=>h),trivial⟩ ?_ ?_)
  ·intro W hU0
   have hU:=(Up.drew w18).trans hU0
   have hSW:=hS.up hU
   have zU0:=hU0.size
   obtain⟨Bg,og,ag,hcg⟩:=(Cy (hSW.own 4 rfl) (fun _=>rfl)) 2 (some b2) rfl
   cases ag
   have hEL:Els W a 1 A5 ([1]:List Int):=Cy (hSW.own 7 rfl) (fun _=>rfl)
   refine aC ⟨rfl,fun _=>TU.p (.mv rfl) rfl,fun h=>absurd h cQ⟩ (aC ⟨rfl,fun _=>TU.p (.lb rfl (hSW.b3.Ak rfl)) rfl,fun h=>absurd h cQ⟩ (aC ⟨rfl,fun _=>TU.p (.mv rfl) rfl,fun h=>absurd h cQ⟩ (aC ⟨rfl,fun _=>TU.p (.Aw (j:=2) underlying260 sizeOf259 (.t rfl) (.t rfl) cQ rfl) rfl,fun h=>absurd h cQ⟩ (aC ⟨rfl,fun _=>TU.p (.lb rfl (AggAt.nth (j:=0) hcg rfl)) rfl,fun h=>absurd h cQ⟩ (aC ⟨rfl,fun _=>TU.p (.nc rfl) rfl,fun h=>absurd h cQ⟩ (aC ⟨rfl,fun _=>TU.p (.fB 0 rfl) rfl,fun h=>absurd h cQ⟩ (aC ⟨rfl,fun _=>TU.p (.lb rfl ((hSW.blk 6 rfl).Ak rfl)) rfl,fun h=>absurd h cQ⟩ (aC ⟨rfl,fun _=>TU.p (.fB 2 rfl) rfl,fun h=>absurd h cQ⟩ (aC ⟨rfl,fun _=>TU.p (.lb rfl (hSW.b0.Ak rfl)) rfl,fun h=>absurd h cQ⟩ (aC ⟨rfl,fun _=>TU.p (.mv rfl) rfl,fun h=>absurd h cQ⟩ (aC ⟨rfl,fun _=>TU.p (.Aw (j:=2) underlying52 sizeOf56 (.t rfl) (.t rfl) cQ as_) rfl,fun h=>absurd h cQ⟩ (aC ⟨rfl,fun _=>TU.p (.fB 2 rfl) rfl,fun h=>absurd h cQ⟩ (aC ⟨rfl,fun _=>TU.p (.eH (PEv.lb rfl ((hcs.up hSW.Ch).nth (j:=2) rfl)) (by rw[hmn])) rfl,fun h=>absurd h cQ⟩ (aC ⟨rfl,fun _=>TU.p (.add (.t rfl) (.t rfl) cQ cQ) rfl,fun h=>absurd h cQ⟩ (aC ⟨rfl,fun _=>TU.p (.fB 0 rfl) rfl,fun h=>absurd h cQ⟩ (aC ⟨rfl,fun _=>TU.p (.lb rfl (hSW.b0.Ak rfl)) rfl,fun h=>absurd h cQ⟩ (aC ⟨rfl,fun _=>TU.p (.add (.t rfl) (.t rfl) cQ cQ) rfl,fun h=>absurd h cQ⟩ (aC ⟨rfl,fun _=>TU.p (.lb rfl (hSW.b3.Ak rfl)) rfl,fun h=>absurd h cQ⟩ (aC ⟨rfl,fun _=>TU.p (.mv rfl) rfl,fun h=>absurd h cQ⟩ (aC ⟨rfl,fun _=>TU.p (.Aw (j:=2) underlying260 sizeOf259 (.t rfl) (.t rfl) cQ rfl) rfl,fun h=>absurd h cQ⟩ (aC ⟨rfl,fun _=>TU.p (.lb rfl (AggAt.nth (j:=0) hcg rfl)) rfl,fun h=>absurd h cQ⟩ (aC ⟨rfl,fun _=>TU.p (.nc rfl) rfl,fun h=>absurd h cQ⟩ (aC ⟨rfl,fun _=>TU.p (.fB 1 rfl) rfl,fun h=>absurd h cQ⟩ (aC ⟨rfl,fun _=>TU.p (.lb rfl ((hSW.blk 6 rfl).Ak rfl)) rfl,fun h=>absurd h cQ⟩ (aC ⟨rfl,fun _=>TU.c (eC (.o rfl) (mN)) (Nn a c ([1]:List Int) W hEL cQ) (fun v W' h=>⟨h.2,h.1.mono zU0⟩),fun h=>absurd h cQ⟩ (aC ⟨rfl,fun _=>TU.p (.mv rfl) rfl,fun h=>absurd h cQ⟩ (aC ⟨rfl,fun _=>TU.r (REv.buildSlice (xs:=([2]:List Int)) (enc:=A5) (mk:=vi) underlying37 sizeOf3 zeroValue3 rfl bQ (fun _=>rfl) (fun _=>rfl) (.cu rfl) rfl) (fun v W' h=>h.q),fun h=>absurd h cQ⟩ (aC ⟨rfl,fun h=>absurd rfl h,fun _ a ha=>?_⟩ ?_))))))))))))))))))))))))))))
   ·skip
    have h1:=ha.known (p:=fun v W=>OwnS W w18.drew.heap.size 3 1 A5 v ([1]:List Int)) (t:=98) rfl
    have h2:=ha.known (p:=fun v W=>Sl W v 1 A5 [2]) (t:=100) rfl
    obtain⟨v,W',hr,hG⟩:=REv.Cu (enc:=A5) (bytes:=8) (i:=Tryz.t3) underlying37 kQ rfl rfl rfl rfl cQ (fun _=>rfl) Eh (.tmp (t:=98) rfl) (.tmp (t:=100) rfl) (h1.mono (Nat.zero_le _)) h2 cQ cQ a ((ha.Zj (t:=98) rfl).Zj (t:=100) rfl)
    exact .inl ⟨v,W',hr,⟨hU0.sN hG.fr (fun b hb=>h1.base b hb),trivial⟩,OwnS.Il hG.holds fun i hi=>(hG.sub i hi).elim (fun h=>h1.base i h) (fun h=>Nat.le_trans zU0 h)⟩
   refine aC ⟨rfl,fun _=>TU.open (d:=101) rfl fun v hv=>by obtain⟨ad,c,rfl,_⟩:=OwnS.sl hv (fun _=>rfl);exact TU.p (.build (cs:=Nj 26 ad 2 c) underlying264 zeroValue264 Gq (.ct rfl (.cu rfl)) rfl) ⟨ad,c,rfl,hv⟩,fun h=>absurd h cQ⟩ (aC ⟨rfl,fun _=>TU.p (.fB 2 rfl) rfl,fun h=>absurd h cQ⟩ (aC ⟨rfl,fun _=>TU.p (.lb rfl (hSW.b0.Ak rfl)) rfl,fun h=>absurd h cQ⟩ (aC ⟨rfl,fun _=>TU.p (.mv rfl) rfl,fun h=>absurd h cQ⟩ (aC ⟨rfl,fun _=>TU.p (.Aw (j:=2) underlying52 sizeOf56 (.t rfl) (.t rfl) cQ as_) rfl,fun h=>absurd h cQ⟩ (aC ⟨rfl,fun _=>TU.p (.lc rfl (hcs.up hSW.Ch)) rfl,fun h=>absurd h cQ⟩ ?_)))))
   exact allL.nil
  intro w19 g hU0 hg
  have hU:=(Up.drew w18).trans hU0
  have e73:=hg 0 _ 73 cQ rfl rfl rfl
  obtain⟨adN,cN,e102,hO102⟩:=hg 29 _ 102 cQ rfl rfl rfl
  have e107:=hg 34 _ 107 cQ rfl rfl rfl
  change LW _ _ _ _ _ _ _ _ ((73,.eq (g 73))::(102,.eq (g 102))::(107,.eq (g 107))::_) _
  replace e73:g 73=_:=e73
  replace e107:g 107=_:=e107
  rw[e73,e102,e107]
  replace hS:=hS.add hU (A':=J 3 1 A5 (.slice adN 2 cN) ([1,2]:List Int)) (hO102.mono (Nat.zero_le _)) (fun i h=>hO102.base i h)
  replace hS:=hS.Gl 3 rfl
  replace hS:=hS.Gl 3 rfl
  have hq_:=(show Wx.Sep _ _ _ ([_,_,_,_,_,_,_]++[_,_])from hS)
  refine A6 (Cc (f:=227) (lb:=#[.pointer (some ⟨B5,0,none⟩),.pointer (some ⟨B7,0,none⟩)]) (.t rfl) (.ct rfl (.cu rfl)) (mO)) rfl (Nl B5 go 3 (eJ b1 (some b2)) 26 adN 2 cN s2 0 B7 _ (Els.up (hF.p s2 (by simp)).2 hS.Ch) (hF.g s2 (by simp)).bk (hF.g s2 (by simp)).nx.1 (by rw[hF.n2];simp) cQ rfl (fun hne B o e h=>by obtain⟨A_,hA_,hi_⟩:=h;have h1_:=((hq_.right.each A_ hA_).2 B hi_).resolve_left (fun h=>h);have h2_:=Qx (hF.p s2 (by simp)).2 hne e;omega) hq_.right.self) ?_
  rintro _ w20 ⟨z1,uw20,hz1⟩
  replace hS:=hq_.frame uw20
  obtain rfl:z1=.none:=(hz1.resolve_right (fun h=>h.1 hF.n2)).2
  replace hS:=(((hS.Gl 3 rfl).Gl 3 rfl).Gl 3 rfl)
  replace hS:=hS.sub (.cons_cons _ (.cons_cons _ (.cons_cons _ (.cons _ (.cons_cons _ (.cons_cons _ (.cons _ (List.Sublist.refl _))))))))
  refine LW.nil (Ad (Ar ?_))
  exact⟨(2,some b2,a,c),⟨Nat.le_refl _,.inr ⟨Nat.le_of_ble_eq_true rfl,rfl⟩,hS⟩,tQ,by omega⟩
end Go.Proofs.YtdilcdgjklimoaaGreatDoor
