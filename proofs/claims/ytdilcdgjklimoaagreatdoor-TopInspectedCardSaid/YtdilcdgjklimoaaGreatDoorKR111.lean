import Derived.Test.YtdilcdgjklimoaaGreatDoorKR110
import Derived.ChangeKeysEq
namespace Go.Wx
def Pw:Fact:=Xy 0 0 0 false
def Ld(b:Base)(id:Int):Option Fact:=b.Processes.find? fun f=>decide (f.ID=id)
theorem oH{p:Fact→Bool}{l:List Fact}{k:Nat}{x:Fact}(h:l[k]?=some x)(hx:p x=true):(l.take (k+1)).filter p=(l.take k).filter p++[x]:=by
 rw[Ce h,List.filter_append,List.filter_cons,if_pos hx];rfl
theorem xG{p:Fact→Bool}{l:List Fact}{k:Nat}{x:Fact}(h:l[k]?=some x)(hx:p x=false):(l.take (k+1)).filter p=(l.take k).filter p:=by
 rw[Ce h,List.filter_append,List.filter_cons,if_neg (by rw[hx];exact Bool.false_ne_true)];simp
theorem Y0(p:Fact→Bool)(l:List Fact)(k:Nat):((l.take k).filter p).length≤k:=Nat.le_trans (List.length_filter_le _ _) (by rw[List.length_take];omega)
def Bi(c n:Int):Int:=(if c<0 then IntKind.i64.wrap (-(IntKind.i64.wrap (c+1)))else c).tmod n
def Y1(b:Base)(j:Nat):List Fact:=[b.Processes,b.Measures,b.Swaps,b.Lots,b.Flows,b.Qualified,b.Holds,b.Releases,b.Resets,b.Targets,b.Gaps].getD j []
theorem N4{j:Nat}(h:j<11):j=0∨j=1∨j=2∨j=3∨j=4∨j=5∨j=6∨j=7∨j=8∨j=9∨j=10:=by omega
theorem BaseC.at_{w:World}{bc:Array Go.Value}{b:Base}(h:BaseC w bc b){j:Nat}(hj:j<11):∃v,bc[j]?=some v∧Sl w v 19 Fact.cells (Y1 b j):=by
 obtain⟨v0,v1,v2,v3,v4,v5,v6,v7,v8,v9,v10,e,h0,h1,h2,h3,h4,h5,h6,h7,h8,h9,h10⟩:=h
 subst e
 rcases N4 hj with rfl|rfl|rfl|rfl|rfl|rfl|rfl|rfl|rfl|rfl|rfl
 · exact⟨v0,rfl,h0⟩
 · exact⟨v1,rfl,h1⟩
 · exact⟨v2,rfl,h2⟩
 · exact⟨v3,rfl,h3⟩
 · exact⟨v4,rfl,h4⟩
 · exact⟨v5,rfl,h5⟩
 · exact⟨v6,rfl,h6⟩
 · exact⟨v7,rfl,h7⟩
 · exact⟨v8,rfl,h8⟩
 · exact⟨v9,rfl,h9⟩
 exact⟨v10,rfl,h10⟩
theorem gC(l:List Fact)(d:Int){j:Nat}(hj:j<11):Y1 (tI l d) j=D6 [((j+1:Nat):Int)] (Hl (Gg l d)) j:=by
 rcases N4 hj with rfl|rfl|rfl|rfl|rfl|rfl|rfl|rfl|rfl|rfl|rfl<;>rfl
def Fq(f:Fact):K2:=(f.Time,f.ID)
def Ei(n:Int):Bool:=decide (1≤n)&&decide (n≤1000000)
def P9(p:Fact→Bool)(l:List Fact):List Fact:=I8 Fq (l.filter p)
theorem Ih{α:Type}{enc:α→Array Value}{e k:Nat}{w0 w:World}{v:Value}{xs:List α}{rest:List Asr}(h:Wx.Sep no w0 w (J e k enc v xs::rest)):OwnS w w0.heap.size e k enc v xs:=by
 have hf:=h.foot 0 rfl
 obtain⟨h1,h2⟩:=h.own 0 rfl
 refine⟨h1,?_⟩
 rcases h2 with h2|⟨g,cap,cur,e,hb,rest⟩
 · exact .inl h2
 exact .inr ⟨g,cap,cur,e,(hf g (by rw[e];rfl)).resolve_left (fun h=>h),rest⟩
end Go.Wx
namespace Go.Wx
open Go.RowKit
theorem U7{α:Type}(f:α→List Value)(k j:Nat)(v:Value)(hf:∀x,(f x).length=k)(hj:j<k):∀(xs:List α)(i:Nat)(x0 z:α),xs[i]?=some x0→f z=(f x0).set j v→(xs.set i z).flatMap f=(xs.flatMap f).set (i*k+j) v
 |[],_,_,_,h,_=>by simp at h
 |x::xs,0,x0,z,h,hz=>by
   have e:x=x0:=by simpa using h
   subst e
   rw[List.set_cons_zero,List.flatMap_cons,List.flatMap_cons,hz,List.set_append_left _ _ (by rw[hf];omega)]
   congr 2;omega
 |x::xs,i+1,x0,z,h,hz=>by
   rw[List.set_cons_succ,List.flatMap_cons,List.flatMap_cons,U7 f k j v hf hj xs i x0 z (by simpa using h) hz]
   have e1:(i+1)*k=k+i*k:=by rw[Nat.add_mul,Nat.one_mul,Nat.add_comm]
   rw[List.set_append_right _ _ (by rw[hf,e1];omega),hf,e1]
   congr 2;omega
section
variable {P:Program}{n:Nat}{ds:List Deferred}{l:Env}{w:World}{ty:TypeId}{ps:String}{af:Array Edge}{g:Option (Nat×Bool)}
theorem SEv.O4{α:Type}{enc:α→Array Value}{k:Nat}{e T:TypeId}{x y:Operand}{B m cp i j:Nat}{xs:List α}{x0 z:α}{v:Value}(hs:∀w,(sizeOf T).run P w=.ok 1 w)(hk:∀x,(enc x).size=k)(h1:v.oneCell'=true)(hx:Val l x (.pointer (some ⟨B,0+i*k+j,none⟩)))(hy:Val l y v)(ho:OwnS w 0 e k enc (.slice (some ⟨B,0,none⟩) m cp) xs)(hx0:xs[i]?=some x0)(hj:j<k)(hz:(enc z).toList=(enc x0).toList.set j v):
   SEv P n ds l w ⟨none,.store T x y,ty,ps,af,g⟩ (fun w'=>Stp (J e k enc (.slice (some ⟨B,0,none⟩) m cp) xs) (J e k enc (.slice (some ⟨B,0,none⟩) m cp) (xs.set i z)) w w'):=fun a ha=>by
 have hi:=(List.getElem?_eq_some_iff.1 hx0).1
 have hkl:∀x,(enc x).toList.length=k:=fun x=>by rw[Array.length_toList,hk]
 obtain⟨hl,⟨e',_⟩|⟨g',cap,cur,e',hb,hg,hcap,hcm,hcs,htk⟩⟩:=ho
 · cases e'
 cases e'
 have hik:i*k+k≤xs.length*k:=by
   have:(i+1)*k≤xs.length*k:=Nat.mul_le_mul_right k hi
   rw[Nat.add_mul,Nat.one_mul]at this
   exact this
 have hmk:xs.length*k≤cp*k:=Nat.mul_le_mul_right k oQ
 obtain⟨w',hr,hset⟩:=SEv.store (P:=P) (n:=n) (ds:=ds) (l:=l) (w:=w) (ty:=ty) (ps:=ps) (af:=af) (g:=g) hs hx hy h1 (show Blk w B cur e from hg) (by rw[hcs];omega) a ha
 refine⟨w',hr,hset.sto.fr.mono (fun i(e:i=B)=>by rw[e];rfl),⟨by rw[List.length_set,Eo _ k hkl,List.length_set],.inr ⟨B,cp,_,by rw[List.length_set],hb,hset.blk,by rw[List.length_set];omega,hcm,?_,?_⟩⟩,fun _ h=>.inl h⟩
 · rw[Array.size_setIfInBounds];exact hcs
 rw[List.length_set,U7 (fun x=>(enc x).toList) k j v hkl hj xs i x0 z hx0 hz,←htk,Array.toList_setIfInBounds,List.take_set,Nat.zero_add]
end
section
variable {P:Program}{n:Nat}{ds:List Deferred}{l:Env}{w:World}{d:Option Tmp}{ty:TypeId}{ps:String}{af:Array Edge}{g:Option (Nat×Bool)}
theorem PEv.sliceFrom{T e:TypeId}{x lo:Operand}{ad:Option Addr}{k m cap j:Nat}(hT:P.underlying T=some (.slice e))(hs:∀w,(sizeOf e).run P w=.ok k w)(hx:Val l x (.slice ad m cap))(hl:Val l lo (.int .i64 (j:Int)))(hj:j≤m):
   PEv P n ds l w ⟨d,.slice T x (some lo) none none,ty,ps,af,g⟩ (.slice (if cap=j then ad else ad.map (·.add (j*k))) (m-j) (cap-j)):=fun a w' ha _=>by
 refine Ci ?_
 rw[ha.ev hx]
 simp only[Option.map_none,Option.map_some,ha.ev hl]
 simp[Instr.sliceAt,Instr.slice,Instr.sliceBounds,Instr.sliceBound,asIntOf,run_underlying hT,Result.andThen,hs,hj]
theorem Els.take{α:Type}{enc:α→Array Value}{ad:Option Addr}{k j:Nat}{xs:List α}(h:Els w ad k enc xs):Els w ad k enc (xs.take j):=fun i x hx=>by
 rw[List.getElem?_take]at hx
 split at hx
 · exact h i x hx
 cases hx
end
theorem Sep.Y2{α:Type}{S0:Nat→Prop}{w0 w:World}{As:List Asr}{e k:Nat}{enc:α→Array Value}(h:Sep S0 w0 w As)(ho:OwnS w 0 e k enc (.slice none 0 0) ([]:List α)):Sep S0 w0 w (As++[J e k enc (.slice none 0 0) ([]:List α)]):=h.add (Up.refl _) ho (fun i h=>by cases h)
theorem Sep.perm{S0:Nat→Prop}{w0 w:World}{As Bs:List Asr}(h:Sep S0 w0 w As)(p:As.Perm Bs):Sep S0 w0 w Bs:=⟨h.fr,fun B hB=>h.each B (p.mem_iff.2 hB),(p.pairwise_iff (fun{_ _}hAB i hi hj=>hAB i hj hi)).1 h.apart⟩
theorem OwnS.JM{α:Type}{enc:α→Array Value}{b k n cp:Nat}{e:TypeId}{w:World}{ad:Option Addr}{xs:List α}(h:OwnS w b e k enc (.slice ad n cp) xs)(hne:0<xs.length):∃g,ad=some ⟨g,0,none⟩:=by
 obtain⟨_,⟨e1,e2⟩|⟨g,cap,cur,e1,_⟩⟩:=h
 · omega
 cases e1;exact⟨g,rfl⟩
end Go.Wx
namespace Go.Proofs.YtdilcdgjklimoaaGreatDoor
open Go.Proofs.Tryz
open Go.Wx Go.RowKit
theorem Wi(a b:Fact)(w:World):Ret prog 207 #[.agg a.cells,.agg b.cells] w fun r w'=>r=vi (Yj (Fq a) (Fq b))∧Up w w':=by
 have hW:=Up.refl w
 refine cT 17 func207 rfl (Af (Ao (.bA rfl) rfl ?_))
 rintro _ w1 ⟨B2,rfl,NB2⟩
 replace hW:=hW.up NB2.up
 have hB2:=NB2.blk
 refine Ao (.bA rfl) rfl ?_
 rintro _ w2 ⟨B3,rfl,NB3⟩
 replace hW:=hW.up NB3.up
 replace hB2:=hB2.up NB3.up
 have hB3:=NB3.blk
 refine Az (Am (Iw 11 [.eq (.pointer (some ⟨B2,5,none⟩)),.eq (vi (Fq a).1),.eq (.pointer (some ⟨B3,5,none⟩)),.eq (vi (Fq b).1),.eq (vi (J7 (Fq a).1 (Fq b).1)),.eq (.pointer (some ⟨B2,1,none⟩)),.eq (vi (Fq a).2),.eq (.pointer (some ⟨B3,1,none⟩)),.eq (vi (Fq b).2),.eq (vi (J7 (Fq a).2 (Fq b).2)),.pred (fun v w=>SlT 3 w v 1 A5 [J7 (Fq a).1 (Fq b).1,J7 (Fq a).2 (Fq b).2])] [15] kQ rfl kQ kQ kQ kQ kQ kQ kQ ⟨PhU.eq _,PhU.eq _,PhU.eq _,PhU.eq _,PhU.eq _,PhU.eq _,PhU.eq _,PhU.eq _,PhU.eq _,PhU.eq _,PhU.pred fun _ _ _ h u=>SlT.F1 h u.F1,trivial⟩ ?_ ?_))
 ·intro W hU0
  have hU:=(Up.drew w2).trans hU0
  refine aC ⟨rfl,TU.p (.fB 5 rfl) rfl⟩ (aC ⟨rfl,TU.p (.lb rfl ((hB2.up hU).Ak rfl)) rfl⟩ (aC ⟨rfl,TU.p (.fB 5 rfl) rfl⟩ (aC ⟨rfl,TU.p (.lb rfl ((hB3.up hU).Ak rfl)) rfl⟩ (aC ⟨rfl,TU.c (eC (.u rfl rfl) (iL)) (J8 _ _ _) sQ⟩ (aC ⟨rfl,TU.p (.fB 1 rfl) rfl⟩ (aC ⟨rfl,TU.p (.lb rfl ((hB2.up hU).Ak rfl)) rfl⟩ (aC ⟨rfl,TU.p (.fB 1 rfl) rfl⟩ (aC ⟨rfl,TU.p (.lb rfl ((hB3.up hU).Ak rfl)) rfl⟩ (aC ⟨rfl,TU.c (eC (.u rfl rfl) (iL)) (J8 _ _ _) sQ⟩ (aC ⟨rfl,TU.r (REv.buildSlice (xs:=[J7 (Fq a).1 (Fq b).1,J7 (Fq a).2 (Fq b).2]) (enc:=A5) (mk:=vi) underlying37 sizeOf3 zeroValue3 rfl cQ (fun _=>rfl) (fun _=>rfl) (.ct rfl (.cu rfl)) rfl) (by rintro _ W1 ⟨B,c,rfl,N,y,x⟩;exact⟨N.up,SlT.lit ⟨B,c,rfl,N,y,x⟩⟩)⟩ ?_))))))))))
  exact allL.nil
 intro w3 g hU0 hg
 have hU:=(Up.drew w2).trans hU0
 replace hW:=hW.up hU
 replace hB2:=hB2.up hU
 replace hB3:=hB3.up hU
 obtain⟨⟨ad,cp,e15,hE⟩,_⟩:=hg 10 _ 15 cQ rfl rfl
 change LW _ _ _ _ _ _ _ _ ((15,.eq (g 15))::_) _
 rw[e15]
 refine A6 (eC (.o rfl) (xU)) rfl (oA ad cp _ _ hE (by simp)) ?_
 rintro _ w4 ⟨rfl,uw4⟩
 replace hW:=hW.up uw4
 replace hB2:=hB2.up uw4
 replace hB3:=hB3.up uw4
 refine LW.A rfl (Ai (Al (KW.q ?_)))
 exact⟨rfl,hW⟩
theorem tO(x:Fact)(w:World):Ret prog 205 #[.agg x.cells] w fun r w'=>r=.agg x.cells∧Up w w':=by
 have hW:=Up.refl w
 refine cT 4 func205 rfl (Af (Ao (.bA rfl) rfl ?_))
 rintro _ w1 ⟨B1,rfl,NB1⟩
 have eB1:=NB1.at_
 have zB1:=NB1.size
 replace hW:=hW.up NB1.up
 have hB1:=NB1.blk
 refine Ao (.Br zeroValue283) rfl ?_
 rintro _ w2 ⟨B2,rfl,NB2⟩
 have eB2:=NB2.at_
 replace hW:=hW.up NB2.up
 replace hB1:=hB1.up NB2.up
 have hB2:=NB2.blk
 refine Am (Aa (U (.lc rfl (hB1.agg)) (A9 (.Ca sizeOf283 rfl (.t rfl) (.t rfl) (Fact.one _) hB2 rfl) ?_)))
 intro w3 Nw3
 replace hW:=hW.sto Nw3.sto oQ
 replace hB1:=hB1.sto Nw3.sto oQ
 replace hB2:=Nw3.blk
 replace hB2:Blk w3 B2 x.cells _:=hB2
 refine Ai (Al (F6 rfl rfl isAgg283 sizeOf283 rfl (hB2.agg) ⟨_,rfl,?_⟩))
 exact⟨rfl,hW⟩
theorem tP(x:Fact)(w:World):Ret prog 209 #[.agg x.cells] w fun r w'=>r=.agg x.cells∧Up w w':=by
 have hW:=Up.refl w
 refine cT 4 func209 rfl (Af (Ao (.bA rfl) rfl ?_))
 rintro _ w1 ⟨B1,rfl,NB1⟩
 have eB1:=NB1.at_
 have zB1:=NB1.size
 replace hW:=hW.up NB1.up
 have hB1:=NB1.blk
 refine Ao (.Br zeroValue74) rfl ?_
 rintro _ w2 ⟨B2,rfl,NB2⟩
 have eB2:=NB2.at_
 replace hW:=hW.up NB2.up
 replace hB1:=hB1.up NB2.up
 have hB2:=NB2.blk
 refine Am (Aa (U (.lc rfl (hB1.agg)) (A9 (.Ca sizeOf74 rfl (.t rfl) (.t rfl) (Fact.one _) hB2 rfl) ?_)))
 intro w3 Nw3
 replace hW:=hW.sto Nw3.sto oQ
 replace hB1:=hB1.sto Nw3.sto oQ
 replace hB2:=Nw3.blk
 replace hB2:Blk w3 B2 x.cells _:=hB2
 refine Ai (Al (F6 rfl rfl isAgg74 sizeOf74 rfl (hB2.agg) ⟨_,rfl,?_⟩))
 exact⟨rfl,hW⟩
theorem jW(x:Fact)(w:World):Ret prog 210 #[.agg x.cells] w fun r w'=>r=.bool true∧Up w w':=by
 have hW:=Up.refl w
 refine cT 3 func210 rfl (Af (Ao (.bA rfl) rfl ?_))
 rintro _ w1 ⟨B1,rfl,NB1⟩
 replace hW:=hW.up NB1.up
 have hB1:=NB1.blk
 refine Az (Am (Aa (Az (Ai (Al (KW.q ?_))))))
 exact⟨rfl,hW⟩
theorem oI(pf:Nat)(lb:Array Go.Value)(p:Fact→Bool)(hen:∀args w,(callFunc pf args).run Tryz.prog w=.ok (.enter pf args) w)(ad:Option Addr)(cp:Nat)(l:List Fact)(w:World)(hE0:Els w ad 19 Fact.cells l)(hl:l.length≤1000000000)(hp:∀W,Up w W→∀x∈l,Ret Tryz.prog pf (#[.agg x.cells]++lb) W fun r W'=>r=.bool (p x)∧Up W W'):Ret prog 204 #[.slice ad l.length cp,.func (.func 205) #[] #[],.func (.func pf) #[] lb] w fun r w'=>OwnS w' w.heap.size 283 19 Fact.cells r (l.filter p)∧Up w w':=by
 obtain⟨w0,rfl,hS⟩:=W0 w
 refine cT 27 func204 rfl (Af (Az (Am (Aa (Az (Am (Ah ?_)))))))
 replace hS:=hS.add (Up.refl _) (A':=J 283 19 Fact.cells (.slice none 0 0) ([]:List Fact)) (OwnS.nil _ _ _ _ _) (fun i h=>by cases h)
 refine Aa (I rfl (U (.Cw underlying26 (.t rfl)) (U (.move (.const _)) (Ai (Ae (A3 (σ:=Nat×Go.Value) (fun s w=>(s.1≤l.length)∧(Wx.Sep no w0 w [J 283 19 Fact.cells s.2 ((l.take s.1).filter p)])) (fun s=>[(12,.eq (vi (s.1:Int))),(7,.eq (s.2))]) ([(1,.eq _),(2,.eq _),(6,.eq _),(10,.eq _),(11,.eq _)]) (fun s=>l.length-s.1) (0,.slice none 0 0) ?_ tQ ?_))))))
 ·exact⟨Nat.zero_le _,hS⟩
 rintro⟨k,v⟩ w1 ⟨hk,hS⟩
 change CW _ _ _ _ _ _ _ ([(12,.eq (vi (k:Int))),(7,.eq (v))]++_) _
 refine Af (U (.l2 rfl rfl) (Am (CW.b rfl (fun h13=>?_) (fun h13=>?_))))
 ·replace h13:=dQ h13
  refine Aj (Ac (Ah (Ae (Ah ?_))))
  have hE:=hE0.up hS.Ch
  refine Aa ?_
  obtain⟨x,hx⟩:=Aq (xs:=l) (i:=k) oQ
  obtain⟨Bx,ox,ax,hcx⟩:=hE _ x hx
  refine U (.Aw underlying26 sizeOf74 (.t rfl) (.t rfl) oQ ax) (U (.lc rfl (hcx)) (Ao (.Br zeroValue74) rfl ?_))
  rintro _ w2 ⟨B9,rfl,MB9⟩
  refine A9 (.Ca sizeOf74 rfl (.t rfl) (.t rfl) (Fact.one _) MB9.blk rfl) ?_
  intro w3 LB9
  have NB9:=MB9.set LB9
  replace hcx:=hcx.up NB9.up
  replace hS:=hS.Cg NB9
  refine Am (Aa (I rfl (U (.lc rfl (hS.b1.agg)) (A6 (Cc (.t rfl) (.cu rfl) (hen)) rfl (hp _ hS.Ch x (List.mem_of_getElem? hx)) ?_))))
  rintro _ w4 ⟨rfl,uw4⟩
  replace hS:=hS.up uw4
  refine Ai (CW.b rfl (fun h18=>?_) (fun h18=>?_))
  ·replace h18:=dQ h18
   have hfl:=Y0 p l k
   refine Aa (I rfl (I rfl (U (.lc rfl (hS.b1.agg)) (A6 (Db (.t rfl) (.cu rfl) (DY)) rfl (tO _ _) ?_))))
   rintro _ w5 ⟨rfl,uw5⟩
   replace hS:=hS.up uw5
   refine Ao (.buildSlice (xs:=[x]) (enc:=Fact.cells) (mk:=fun f:Fact=>.agg f.cells) underlying281 sizeOf283 zeroValue283 rfl cQ (fun _=>rfl) (fun _=>rfl) (.cu rfl) rfl) rfl ?_
   rintro _ w6 ⟨B23,cB23,rfl,NB23,yB23,xB23⟩
   replace hS:=hS.up NB23.up
   have hE23:=xB23
   refine Ao (.Cu (enc:=Fact.cells) (bytes:=160) (i:=Tryz.t283) underlying281 kQ rfl rfl rfl rfl cQ (fun _=>rfl) Fact.one (.t rfl) (.t rfl) (hS.own 0 rfl) (Av hE23) (by have:=hfl;simp[maxLen];omega) (by have:=hfl;simp;omega)) rfl ?_
   intro v24 w7 Gw7
   replace hS:=hS.Dw 0 rfl Gw7
   refine LW.A rfl (LW.nil (Ad (Ac (Aa (U (.ic rfl oQ) (I rfl (LW.nil (Ar ?_))))))))
   exact⟨(k+1,v24),⟨by show k+1≤_;omega,by(rw[oH hx h18];exact hS.take 1)⟩,tQ,by show l.length-(k+1)<l.length-k;omega⟩
  replace h18:=dQ h18
  refine Aj (Ad (Ac (Aa (U (.ic rfl oQ) (I rfl (LW.nil (Ar ?_)))))))
  exact⟨(k+1,v),⟨by show k+1≤_;omega,by(rw[xG hx h18];exact hS.take 1)⟩,tQ,by show l.length-(k+1)<l.length-k;omega⟩
 replace h13:=dQ h13
 refine A4 (Ab (Ab (An (Ac (Af (I rfl (LW.A rfl (Ai (Al (KW.q ?_))))))))))
 have hkl:k=l.length:=by omega
 rw[hkl,List.take_length]at hS
 exact⟨Ih hS,hS.Ch⟩
theorem oJ(pf:Nat)(lb:Array Go.Value)(p:Fact→Bool)(hen:∀args w,(callFunc pf args).run Tryz.prog w=.ok (.enter pf args) w)(ad:Option Addr)(cp:Nat)(l:List Fact)(w:World)(hE0:Els w ad 19 Fact.cells l)(hl:l.length≤1000000000)(hp:∀W,Up w W→∀x∈l,Ret Tryz.prog pf (#[.agg x.cells]++lb) W fun r W'=>r=.bool (p x)∧Up W W'):Ret prog 208 #[.slice ad l.length cp,.func (.func 209) #[] #[],.func (.func pf) #[] lb] w fun r w'=>OwnS w' w.heap.size 74 19 Fact.cells r (l.filter p)∧Up w w':=by
 obtain⟨w0,rfl,hS⟩:=W0 w
 refine cT 27 func208 rfl (Af (Az (Am (Aa (Az (Am (Ah ?_)))))))
 replace hS:=hS.add (Up.refl _) (A':=J 74 19 Fact.cells (.slice none 0 0) ([]:List Fact)) (OwnS.nil _ _ _ _ _) (fun i h=>by cases h)
 refine Aa (I rfl (U (.Cw underlying281 (.t rfl)) (U (.move (.const _)) (Ai (Ae (A3 (σ:=Nat×Go.Value) (fun s w=>(s.1≤l.length)∧(Wx.Sep no w0 w [J 74 19 Fact.cells s.2 ((l.take s.1).filter p)])) (fun s=>[(12,.eq (vi (s.1:Int))),(7,.eq (s.2))]) ([(1,.eq _),(2,.eq _),(6,.eq _),(10,.eq _),(11,.eq _)]) (fun s=>l.length-s.1) (0,.slice none 0 0) ?_ tQ ?_))))))
 ·exact⟨Nat.zero_le _,hS⟩
 rintro⟨k,v⟩ w1 ⟨hk,hS⟩
 change CW _ _ _ _ _ _ _ ([(12,.eq (vi (k:Int))),(7,.eq (v))]++_) _
 refine Af (U (.l2 rfl rfl) (Am (CW.b rfl (fun h13=>?_) (fun h13=>?_))))
 ·replace h13:=dQ h13
  refine Aj (Ac (Ah (Ae (Ah ?_))))
  have hE:=hE0.up hS.Ch
  refine Aa ?_
  obtain⟨x,hx⟩:=Aq (xs:=l) (i:=k) oQ
  obtain⟨Bx,ox,ax,hcx⟩:=hE _ x hx
  refine U (.Aw underlying281 sizeOf283 (.t rfl) (.t rfl) oQ ax) (U (.lc rfl (hcx)) (Ao (.Br zeroValue283) rfl ?_))
  rintro _ w2 ⟨B9,rfl,MB9⟩
  refine A9 (.Ca sizeOf283 rfl (.t rfl) (.t rfl) (Fact.one _) MB9.blk rfl) ?_
  intro w3 LB9
  have NB9:=MB9.set LB9
  replace hcx:=hcx.up NB9.up
  replace hS:=hS.Cg NB9
  refine Am (Aa (I rfl (U (.lc rfl (hS.b1.agg)) (A6 (Cc (.t rfl) (.cu rfl) (hen)) rfl (hp _ hS.Ch x (List.mem_of_getElem? hx)) ?_))))
  rintro _ w4 ⟨rfl,uw4⟩
  replace hS:=hS.up uw4
  refine Ai (CW.b rfl (fun h18=>?_) (fun h18=>?_))
  ·replace h18:=dQ h18
   have hfl:=Y0 p l k
   refine Aa (I rfl (I rfl (U (.lc rfl (hS.b1.agg)) (A6 (Db (.t rfl) (.cu rfl) (EC)) rfl (tP _ _) ?_))))
   rintro _ w5 ⟨rfl,uw5⟩
   replace hS:=hS.up uw5
   refine Ao (.buildSlice (xs:=[x]) (enc:=Fact.cells) (mk:=fun f:Fact=>.agg f.cells) underlying26 sizeOf74 zeroValue74 rfl cQ (fun _=>rfl) (fun _=>rfl) (.cu rfl) rfl) rfl ?_
   rintro _ w6 ⟨B23,cB23,rfl,NB23,yB23,xB23⟩
   replace hS:=hS.up NB23.up
   have hE23:=xB23
   refine Ao (.Cu (enc:=Fact.cells) (bytes:=160) (i:=Tryz.t74) underlying26 kQ rfl rfl rfl rfl cQ (fun _=>rfl) Fact.one (.t rfl) (.t rfl) (hS.own 0 rfl) (Av hE23) (by have:=hfl;simp[maxLen];omega) (by have:=hfl;simp;omega)) rfl ?_
   intro v24 w7 Gw7
   replace hS:=hS.Dw 0 rfl Gw7
   refine LW.A rfl (LW.nil (Ad (Ac (Aa (U (.ic rfl oQ) (I rfl (LW.nil (Ar ?_))))))))
   exact⟨(k+1,v24),⟨by show k+1≤_;omega,by(rw[oH hx h18];exact hS.take 1)⟩,tQ,by show l.length-(k+1)<l.length-k;omega⟩
  replace h18:=dQ h18
  refine Aj (Ad (Ac (Aa (U (.ic rfl oQ) (I rfl (LW.nil (Ar ?_)))))))
  exact⟨(k+1,v),⟨by show k+1≤_;omega,by(rw[xG hx h18];exact hS.take 1)⟩,tQ,by show l.length-(k+1)<l.length-k;omega⟩
 replace h13:=dQ h13
 refine A4 (Ab (Ab (An (Ac (Af (I rfl (LW.A rfl (Ai (Al (KW.q ?_))))))))))
 have hkl:k=l.length:=by omega
 rw[hkl,List.take_length]at hS
 exact⟨Ih hS,hS.Ch⟩
end Go.Proofs.YtdilcdgjklimoaaGreatDoor
