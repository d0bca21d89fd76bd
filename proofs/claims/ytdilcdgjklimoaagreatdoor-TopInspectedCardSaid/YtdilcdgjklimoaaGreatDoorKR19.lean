import Derived.Test.YtdilcdgjklimoaaGreatDoorKR18
namespace Go.Wx
def J7(a b:Int):Int:=if a<b then -1 else if b<a then 1 else 0
def rT:List Int→Int
 |[]=>0
 |x::l=>if x=0 then rT l else x
def Yj(p q:K2):Int:=rT [J7 p.1 q.1,J7 p.2 q.2]
theorem Hc(p q:K2):decide (Yj p q<0)=G6 p q:=by
 unfold Yj rT rT rT J7 G6
 by_cases h1:p.1<q.1
 · simp[h1]
 by_cases h2:q.1<p.1
 · have:¬p.1=q.1:=by omega
   simp[h1,h2,this]
 have e:p.1=q.1:=by omega
 by_cases h3:p.2<q.2
 · simp[e,h3]
 by_cases h4:q.2<p.2
 · simp[e,h3,h4]
 simp[e,h3,h4]
theorem Yk{l:List Int}{k:Nat}{x:Int}(h:l[k]?=some x):rT (l.drop k)=if x=0 then rT (l.drop (k+1))else x:=by
 obtain⟨hk,e⟩:=List.getElem?_eq_some_iff.1 h
 rw[List.drop_eq_getElem_cons hk,e];rfl
theorem nY(p:K2):(#[vi p.1,vi p.2]:Array Go.Value).size=2∧(#[vi p.1,vi p.2]:Array Go.Value).all (·.oneCell')=true:=by simp[Value.oneCell']
theorem L3{p q r t:Nat}(h:(decide ((p:Int)<(q:Int))&&decide ((r:Int)<(t:Int)))=true):p<q∧r<t:=by
 obtain⟨h1,h2⟩:=Bool.and_eq_true_iff.1 h
 have h1:=of_decide_eq_true h1
 have h2:=of_decide_eq_true h2
 omega
theorem bU{p q r t:Nat}(h:(decide ((p:Int)<(q:Int))&&decide ((r:Int)<(t:Int)))=false):¬(p<q∧r<t):=fun⟨h1,h2⟩=>by
 rw[decide_eq_true oQ,decide_eq_true (by omega)]at h
 cases h
theorem nZ{α:Type}{xs:List α}{a b:Nat}{x:α}(hx:xs[a]?=some x)(h:a<b)(hb:b≤xs.length):Cz xs a b=x::Cz xs (a+1) b:=by
 rw[Fx (m:=a+1) oQ oQ hb,K5 (Nat.le_refl a) hx,Fy (Nat.le_refl a)];rfl
theorem Qn{z:Nat}(h:z<18446744073709551616):Go.Value.int .u64 (IntKind.u64.wrap (z:Int))=vu z:=by
 rw[Eb]
 unfold vu
 congr 1
 omega
theorem Qo{z:Nat}(h:z<9223372036854775808):Go.Value.int .i64 (IntKind.i64.wrap (z:Int))=vi (z:Int):=by
 rw[Dy oQ (by omega)]
theorem N1{z:Nat}:Go.Value.int .u64 ((z:Int).fdiv (2^(min 1 IntKind.u64.bits)))=vu (z/2):=by
 have e1:min 1 IntKind.u64.bits=1:=rfl
 rw[e1,Int.fdiv_eq_ediv_of_nonneg _ (by decide)]
 unfold vu
 congr 1
theorem R0{z:Nat}(h:2*z<9223372036854775808):Go.Value.int .i64 (IntKind.i64.wrap (2*(z:Int)))=vi ((2*z:Nat):Int):=by
 rw[Dy oQ oQ,Int.natCast_mul];rfl
theorem U0{z:Nat}(h:2*z<9223372036854775808):Go.Value.int .i64 (IntKind.i64.wrap ((z:Int)*2))=vi ((2*z:Nat):Int):=by
 rw[Int.mul_comm];exact R0 h
theorem yP{a b:Nat}(h:a=b):vi (a:Int)=vi (b:Int):=by rw[h]
end Go.Wx
namespace Go.Proofs.YtdilcdgjklimoaaGreatDoor
open Go.Proofs.Tryz
open Go.Wx Go.RowKit
theorem U1(a:Int)(w:World):Ret prog 100 #[vi a] w fun r w'=>r=.bool false∧Up w w':=by
 have hW:=Up.refl w
 refine cT 6 func100 rfl (Af (Az (Am (Aa (I rfl (I rfl (U (.fa (PEv.neq (.t rfl) (.t rfl)) (by simp)) (LW.A rfl (Ai (Al (KW.q ?_)))))))))))
 exact⟨rfl,hW⟩
theorem J8(a b:Int)(w:World):Ret prog 36 #[vi a,vi b] w fun r w'=>r=vi (J7 a b)∧Up w w':=by
 have hW:=Up.refl w
 refine cT 20 func36 rfl (Af (Az (Am (Aa (I rfl (A6 (eC (.o rfl) (fF)) rfl (U1 _ _) ?_))))))
 rintro _ w1 ⟨rfl,uw1⟩
 replace hW:=hW.up uw1
 refine LW.A rfl (Am (Aa (I rfl (A6 (eC (.o rfl) (fF)) rfl (U1 _ _) ?_))))
 rintro _ w2 ⟨rfl,uw2⟩
 replace hW:=hW.up uw2
 refine LW.A rfl (Am (Af (I rfl (Ai (CW.f rfl (Aj (Ac (Ah (Af (I rfl (Ai (CW.f rfl (Aj (Ac (Ah (Af (I rfl (I rfl (U (.l2 rfl rfl) (Ai (CW.b rfl (fun h16=>?_) (fun h16=>?_))))))))))))))))))))))
 ·replace h16:=dQ h16
  refine Af (Az (Ai (Al (Ap (KW.q ?_)))))
  refine⟨congrArg vi ?_,hW⟩
  unfold J7
  (rw[if_pos (by omega)])
 replace h16:=dQ h16
 refine Aj (Ac (Ah (Af (I rfl (I rfl (U (.gtr (.t rfl) (.t rfl)) (Ai (CW.b rfl (fun h19=>?_) (fun h19=>?_)))))))))
 ·replace h19:=dQ h19
  refine Af (Az (Ai (Al (Ap (KW.q ?_)))))
  refine⟨congrArg vi ?_,hW⟩
  unfold J7
  (rw[if_neg oQ,if_pos (by omega)])
 replace h19:=dQ h19
 refine Aj (Ac (Af (Az (Ai (Al (KW.q ?_))))))
 refine⟨congrArg vi ?_,hW⟩
 unfold J7
 (rw[if_neg oQ,if_neg (by omega)])
theorem oA(ad:Option Addr)(cp:Nat)(l:List Int)(w:World)(hE0:Els w ad 1 A5 l)(hl:l.length≤1000):Ret prog 35 #[.slice ad l.length cp] w fun r w'=>r=vi (rT l)∧Up w w':=by
 have hW:=Up.refl w
 obtain⟨w0,rfl,_⟩:=W0 w
 refine cT 18 func35 rfl (Af (Az (Am (Aa (Az (Am (Af (I rfl (U (.Cw underlying37 (.t rfl)) (U (.move (.const _)) (Ai (Ae (A3 (σ:=Nat) (fun s w=>(s≤l.length)∧(rT l=rT (l.drop s))∧(Up w0 w)) (fun s=>[(8,.eq (vi (s:Int)))]) ([(3,.eq _),(6,.eq _),(7,.eq _)]) (fun s=>l.length-s) 0 ?_ tQ ?_)))))))))))))
 ·exact⟨Nat.zero_le _,rfl,Up.refl _⟩
 rintro k w1 ⟨hkk,hor,hL1⟩
 replace hW:=hW.up hL1
 refine Af (U (.l2 rfl rfl) (Am (CW.b rfl (fun h9=>?_) (fun h9=>?_))))
 ·refine Aj (Ac (Ah (Ae (Ah ?_))))
  have hE:=Els.up hE0 hW
  have hkl:k<l.length:=by simp at h9;omega
  refine Aa ?_
  obtain⟨x,hx⟩:=Aq (xs:=l) (i:=k) oQ
  obtain⟨Bx,ox,ax,hcx⟩:=hE _ x hx
  refine U (.Aw underlying37 sizeOf3 (.t rfl) (.t rfl) oQ ax) (U (.lb rfl (hcx.nth (j:=0) rfl)) (LW.A rfl (Am (Aa (I rfl (I rfl (U (.neq (.t rfl) (.t rfl)) (Ai (CW.b rfl (fun h14=>?_) (fun h14=>?_))))))))))
  ·refine Af (I rfl (LW.A rfl (Ai (Al (Ay (Ap (Ap (Ay (Ap (KW.q ?_))))))))))
   refine⟨congrArg vi ?_,hW⟩
   rw[hor]
   (rw[Yk hx,if_neg (by simpa using h14)])
  refine Aj (Ad (Ac (Aa (U (.ic rfl oQ) (I rfl (LW.nil (Ar ?_)))))))
  exact⟨k+1,⟨by omega,by rw[hor,Yk hx,if_pos (by simpa using h14)],hL1⟩,tQ,by omega⟩
 refine A4 (Ab (Ab (An (Ac (Af (I rfl (LW.A rfl (Ai (Al (KW.q ?_))))))))))
 refine⟨congrArg vi ?_,hW⟩
 rw[hor]
 (rw[List.drop_eq_nil_of_le (by simp at h9;omega)];rfl)
theorem jN(of:Nat)(key:Fact→K2)(hen:∀args w,(callFunc of args).run Tryz.prog w=.ok (.enter of args) w)(hord:∀W x,Ret Tryz.prog of #[.agg x.cells] W fun r W'=>r=.agg #[vi (key x).1,vi (key x).2]∧Up W W')(a b:Fact)(Bc:Nat)(w:World)(hC0:Blk w Bc #[.func (.func of) #[] #[]] 82):Ret prog 83 #[.agg a.cells,.agg b.cells,.pointer (some ⟨Bc,0,none⟩)] w fun r w'=>r=vi (Yj (key a) (key b))∧Up w w':=by
 have hW:=Up.refl w
 have hC:=hC0
 refine cT 26 func83 rfl (Af (Ao (.bA rfl) rfl ?_))
 rintro _ w1 ⟨B3,rfl,NB3⟩
 replace hW:=hW.up NB3.up
 replace hC:=hC.up NB3.up
 have hB3:=NB3.blk
 refine Ao (.bA rfl) rfl ?_
 rintro _ w2 ⟨B4,rfl,NB4⟩
 replace hW:=hW.up NB4.up
 replace hC:=hC.up NB4.up
 replace hB3:=hB3.up NB4.up
 have hB4:=NB4.blk
 refine Az (Am (CW.vars 10 [⟨6,8,2,6,10⟩,⟨7,9,5,7,13⟩] #[vi 0,vi 0] [.eq (.func (.func of) #[] #[]),.eq (.agg a.cells),.eq (.agg #[vi (key a).1,vi (key a).2]),.eq (.func (.func of) #[] #[]),.eq (.agg b.cells),.eq (.agg #[vi (key b).1,vi (key b).2]),.pred fun v _=>∃B,v=.pointer (some ⟨B,0,none⟩),.pred fun v _=>∃B,v=.pointer (some ⟨B,0,none⟩),.eq undef,.eq undef] [6,7] zeroValue108 sizeOf108 kQ rfl kQ kQ kQ kQ kQ kQ kQ kQ cQ kQ kQ ?_ ?_ ⟨PhT.eq _ _,PhT.eq _ _,PhT.eq _ _,PhT.eq _ _,PhT.eq _ _,PhT.eq _ _,PhT.pred fun _ _ _ h _=>h,PhT.pred fun _ _ _ h _=>h,PhT.eq _ _,PhT.eq _ _,trivial⟩ ?_ ?_ ?_ ?_ ?_))
 ·intro v hv;simp only[List.mem_cons,List.mem_nil_iff,or_false]at hv;rcases hv with rfl|rfl<;>exact⟨_,_,_,rfl⟩
 ·intro v hv;simp only[List.mem_cons,List.mem_nil_iff,or_false]at hv;rcases hv with rfl|rfl<;>exact⟨_,_,_,rfl⟩
 ·intro v hv;simp only[List.mem_cons,List.mem_nil_iff,or_false]at hv;rcases hv with rfl|rfl<;>(intro o ho;cases ho;rfl)
 ·intro v hv;simp only[List.mem_cons,List.mem_nil_iff,or_false]at hv;rcases hv with rfl|rfl
  ·exact fun v W h=>⟨_,h,rfl,(nY (key a)).2⟩
  exact fun v W h=>⟨_,h,rfl,(nY (key b)).2⟩
 ·intro v hv;simp only[List.mem_cons,List.mem_nil_iff,or_false]at hv;rcases hv with rfl|rfl<;>exact fun B W=>⟨B,rfl⟩
 ·intro W hK0
  have hK:=(Up.drew w2).Dk.trans hK0
  have hCW:=Blk.Dk hC (T:=108) rfl hK
  have hB3W:=Blk.Dk hB3 (T:=108) rfl hK
  have hB4W:=Blk.Dk hB4 (T:=108) rfl hK
  refine aC (.inr ⟨rfl,TU.p (.lb rfl (hCW.Ak rfl)) rfl⟩) (aC (.inr ⟨rfl,TU.p (.lc rfl (hB3W.agg)) rfl⟩) (aC (.inr ⟨rfl,TU.c (Db (.t rfl) (.cu rfl) hen) (hord _ a) sQ⟩) (aC (.inr ⟨rfl,TU.p (.lb rfl (hCW.Ak rfl)) rfl⟩) (aC (.inr ⟨rfl,TU.p (.lc rfl (hB4W.agg)) rfl⟩) (aC (.inr ⟨rfl,TU.c (Db (.t rfl) (.cu rfl) hen) (hord _ b) sQ⟩) (aC (.inl (by simp)) (aC (.inl (by simp)) (aC (.inl (by simp)) (aC (.inl (by simp)) ?_)))))))))
  exact allL.nil
 intro wT g hU0 hbl hpw hg
 have hU:=(Up.drew w2).trans hU0
 obtain⟨B6,e6,z6,hB6⟩:=hbl ⟨6,8,2,6,10⟩ (by simp)
 obtain⟨B7,e7,z7,hB7⟩:=hbl ⟨7,9,5,7,13⟩ (by simp)
 have e10:g 10=.agg #[vi (key a).1,vi (key a).2]:=hg 2 _ 10 cQ rfl rfl
 have e13:g 13=.agg #[vi (key b).1,vi (key b).2]:=hg 5 _ 13 cQ rfl rfl
 replace e6:g 6=.pointer (some ⟨B6,0,none⟩):=e6
 replace e7:g 7=.pointer (some ⟨B7,0,none⟩):=e7
 change LW _ _ _ _ _ _ _ _ ((6,.eq (g 6))::(7,.eq (g 7))::_) _
 rw[e6,e7]
 rw[e10]at hB6
 rw[e13]at hB7
 replace hB6:Blk wT B6 #[vi (key a).1,vi (key a).2] 108:=hB6
 replace hB7:Blk wT B7 #[vi (key b).1,vi (key b).2] 108:=hB7
 replace hW:=hW.trans hU
 refine Am (Iw 11 [.eq (.pointer (some ⟨B6,0,none⟩)),.eq (vi (key a).1),.eq (.pointer (some ⟨B7,0,none⟩)),.eq (vi (key b).1),.eq (vi (J7 (key a).1 (key b).1)),.eq (.pointer (some ⟨B6,1,none⟩)),.eq (vi (key a).2),.eq (.pointer (some ⟨B7,1,none⟩)),.eq (vi (key b).2),.eq (vi (J7 (key a).2 (key b).2)),.pred (fun v w=>SlT 3 w v 1 A5 [J7 (key a).1 (key b).1,J7 (key a).2 (key b).2])] [24] kQ rfl kQ kQ kQ kQ kQ kQ kQ ⟨PhU.eq _,PhU.eq _,PhU.eq _,PhU.eq _,PhU.eq _,PhU.eq _,PhU.eq _,PhU.eq _,PhU.eq _,PhU.eq _,PhU.pred fun _ _ _ h u=>SlT.F1 h u.F1,trivial⟩ ?_ ?_)
 ·intro W hU0
  have hU:=(Up.drew wT).trans hU0
  refine aC ⟨rfl,TU.p (.Cn (j:=0) underlying108 sizeOf3 (.t rfl) (.const _) cQ) rfl⟩ (aC ⟨rfl,TU.p (.lb rfl ((hB6.up hU).Ak rfl)) rfl⟩ (aC ⟨rfl,TU.p (.Cn (j:=0) underlying108 sizeOf3 (.t rfl) (.const _) cQ) rfl⟩ (aC ⟨rfl,TU.p (.lb rfl ((hB7.up hU).Ak rfl)) rfl⟩ (aC ⟨rfl,TU.c (eC (.u rfl rfl) (iL)) (J8 _ _ _) sQ⟩ (aC ⟨rfl,TU.p (.Cn (j:=1) underlying108 sizeOf3 (.t rfl) (.const _) cQ) rfl⟩ (aC ⟨rfl,TU.p (.lb rfl ((hB6.up hU).Ak rfl)) rfl⟩ (aC ⟨rfl,TU.p (.Cn (j:=1) underlying108 sizeOf3 (.t rfl) (.const _) cQ) rfl⟩ (aC ⟨rfl,TU.p (.lb rfl ((hB7.up hU).Ak rfl)) rfl⟩ (aC ⟨rfl,TU.c (eC (.u rfl rfl) (iL)) (J8 _ _ _) sQ⟩ (aC ⟨rfl,TU.r (REv.buildSlice (xs:=[J7 (key a).1 (key b).1,J7 (key a).2 (key b).2]) (enc:=A5) (mk:=vi) underlying37 sizeOf3 zeroValue3 rfl cQ (fun _=>rfl) (fun _=>rfl) (.ct rfl (.cu rfl)) rfl) (by rintro _ W1 ⟨B,c,rfl,N,y,x⟩;exact⟨N.up,SlT.lit ⟨B,c,rfl,N,y,x⟩⟩)⟩ ?_))))))))))
  exact allL.nil
 intro w3 g hU0 hg
 have hU:=(Up.drew wT).trans hU0
 replace hW:=hW.up hU
 replace hB6:=hB6.up hU
 replace hB7:=hB7.up hU
 obtain⟨⟨ad,cp,e24,hE⟩,_⟩:=hg 10 _ 24 cQ rfl rfl
 change LW _ _ _ _ _ _ _ _ ((24,.eq (g 24))::_) _
 rw[e24]
 refine A6 (eC (.o rfl) (xU)) rfl (oA ad cp _ _ hE (by simp)) ?_
 rintro _ w4 ⟨rfl,uw4⟩
 replace hW:=hW.up uw4
 replace hB6:=hB6.up uw4
 replace hB7:=hB7.up uw4
 refine LW.A rfl (Ai (Al (KW.q ?_)))
 exact⟨rfl,hW⟩
inductive TN(n:Nat):Prop|mk
abbrev tN{n:Nat}(_:TN n):Nat:=n
theorem Yl(v:Bool):∀args w,(callFunc (bif v then 163 else 234) args).run Tryz.prog w=.ok (.enter (bif v then 163 else 234) args) w:=by cases v;exact EJ;exact Xq
theorem Ym(v:Bool):∀args w,(callFunc (bif v then 202 else 245) args).run Tryz.prog w=.ok (.enter (bif v then 202 else 245) args) w:=by cases v;exact EM;exact Um
theorem Yn(v:Bool):∀args w,(callFunc (bif v then 203 else 246) args).run Tryz.prog w=.ok (.enter (bif v then 203 else 246) args) w:=by cases v;exact EN;exact Rc
theorem oB(v:Bool):∀args w,(callFunc (bif v then 233 else 248) args).run Tryz.prog w=.ok (.enter (bif v then 233 else 248) args) w:=by cases v;exact EO;exact mP
theorem oC(v:Bool):∀args w,(callFunc (bif v then 244 else 249) args).run Tryz.prog w=.ok (.enter (bif v then 244 else 249) args) w:=by cases v;exact EP;exact Xr
theorem R1(v:Bool):Tryz.prog.funcs[(bif v then 163 else 234)]?=some (bif v then f163 else f234):=by cases v;exact func234;exact func163
theorem R3(v:Bool):Tryz.prog.funcs[(bif v then 202 else 245)]?=some (bif v then f202 else f245):=by cases v;exact func245;exact func202
theorem bV(v:Bool):Tryz.prog.funcs[(bif v then 203 else 246)]?=some (bif v then f203 else f246):=by cases v;exact func246;exact func203
theorem bW(v:Bool):Tryz.prog.funcs[(bif v then 233 else 248)]?=some (bif v then f233 else f248):=by cases v;exact func248;exact func233
theorem bX(v:Bool):Tryz.prog.funcs[(bif v then 244 else 249)]?=some (bif v then f244 else f249):=by cases v;exact func249;exact func244
theorem U2(v:Bool):Tryz.prog.funcs[(bif v then 82 else 206)]?=some (bif v then f82 else f206):=by cases v;exact func206;exact func82
theorem M4(v:Bool):∀w,(isAgg (bif v then 74 else 283)).run Tryz.prog w=.ok true w:=by cases v;exact isAgg283;exact isAgg74
theorem K6(v:Bool):∀w,(Go.sizeOf (bif v then 74 else 283)).run Tryz.prog w=.ok 19 w:=by cases v;exact sizeOf283;exact sizeOf74
theorem Fe(v:Bool):Tryz.prog.underlying (bif v then 26 else 281)=some (.slice (bif v then 74 else 283)):=by cases v;exact underlying281;exact underlying26
set_option maxHeartbeats 600000 in
theorem F2(v:Bool)(a b n:Nat)(fv:Go.Value)(g m cp:Nat)(xs:List Fact)(w:World)(ho:OwnS w 0 (bif v then 74 else 283) 19 Fact.cells (.slice (some ⟨g,0,none⟩) m cp) xs)(h63:m≤1000000000)(h1:a+n≤b)(h2:b+n≤m):Ret Tryz.prog (bif v then 244 else 249) #[.slice (some ⟨g,0,none⟩) m cp,vi (a:Int),vi (b:Int),vi (n:Int),fv] w fun r w'=>r=.tuple #[]∧Stp (J (bif v then 74 else 283) 19 Fact.cells (.slice (some ⟨g,0,none⟩) m cp) (xs)) (J (bif v then 74 else 283) 19 Fact.cells (.slice (some ⟨g,0,none⟩) m cp) (Tk xs a b n)) w w':=by
 have TY0:TN (bif v then 74 else 283):=⟨⟩
 have func244:=bX v
 have isAgg74:=M4 v
 have sizeOf74:=K6 v
 have underlying26:=Fe v
 cases v<;>dsimp only[cond]at*
 all_goals
  obtain⟨w0,rfl,_⟩:=W0 w
  have hxl:=ho.len
  have hS:Wx.Sep (J (tN TY0) 19 Fact.cells (.slice (some ⟨g,0,none⟩) m cp) (xs)).foot w0 w0 [J (tN TY0) 19 Fact.cells (.slice (some ⟨g,0,none⟩) m cp) (xs)]:=Sep.cons ho (fun _ h=>h) (Sep.start _ _) (by simp)
  refine cT 38 func244 rfl (Af (Az (Ai (Ae (A3 (σ:=Nat) (fun s w=>(s≤n)∧(Wx.Sep (J (tN TY0) 19 Fact.cells (.slice (some ⟨g,0,none⟩) m cp) (xs)).foot w0 w [J (tN TY0) 19 Fact.cells (.slice (some ⟨g,0,none⟩) m cp) (Tk xs a b s)])) (fun s=>[(10,.eq (vi (s:Int)))]) ([(0,.eq _),(1,.eq _),(2,.eq _),(3,.eq _)]) (fun s=>n-s) 0 ?_ tQ ?_)))))
  ·exact⟨Nat.zero_le _,hS⟩
  rintro i w1 ⟨hin,hS⟩
  refine Ah (Af (I rfl (I rfl (U (.l2 rfl rfl) (Ai (CW.b rfl (fun h13=>?_) (fun h13=>?_)))))))
  ·refine Aj (Ac (Ah (Ae ?_)))
   have hil:i<n:=by simp at h13;omega
   have hsl:=Fm xs a b i
   obtain⟨x,hx⟩:=Aq (xs:=Tk xs a b i) (i:=a+i) oQ
   obtain⟨y,hy⟩:=Aq (xs:=Tk xs a b i) (i:=b+i) oQ
   refine J6 21 23 [.slice (some ⟨g,0,none⟩) m cp,vi ((a:Nat):Int),vi ((i:Nat):Int),vi ((a+i:Nat):Int),.slice (some ⟨g,0,none⟩) m cp,vi ((b:Nat):Int),vi ((i:Nat):Int),vi ((b+i:Nat):Int),.slice (some ⟨g,0,none⟩) m cp,vi ((b:Nat):Int),vi ((i:Nat):Int),vi ((b+i:Nat):Int),.pointer (some ⟨g,0+(b+i)*19,none⟩),.agg (Fact.cells y),.slice (some ⟨g,0,none⟩) m cp,vi ((a:Nat):Int),vi ((i:Nat):Int),vi ((a+i:Nat):Int),.pointer (some ⟨g,0+(a+i)*19,none⟩),.agg (Fact.cells x),.pointer (some ⟨g,0+(a+i)*19,none⟩),undef,.pointer (some ⟨g,0+(b+i)*19,none⟩),undef] (fun W=>Wx.Sep (J (tN TY0) 19 Fact.cells (.slice (some ⟨g,0,none⟩) m cp) (xs)).foot w0 W [J (tN TY0) 19 Fact.cells (.slice (some ⟨g,0,none⟩) m cp) (Tk xs a b i)]) (fun W=>Wx.Sep (J (tN TY0) 19 Fact.cells (.slice (some ⟨g,0,none⟩) m cp) (xs)).foot w0 W [J (tN TY0) 19 Fact.cells (.slice (some ⟨g,0,none⟩) m cp) ((Tk xs a b i).set (a+i) y)]) (fun W=>Wx.Sep (J (tN TY0) 19 Fact.cells (.slice (some ⟨g,0,none⟩) m cp) (xs)).foot w0 W [J (tN TY0) 19 Fact.cells (.slice (some ⟨g,0,none⟩) m cp) (((Tk xs a b i).set (a+i) y).set (b+i) x)]) kQ rfl kQ kQ kQ kQ kQ kQ (hS.up (Up.drew _)) ?_ _ _ rfl rfl ⟨rfl,rfl⟩ ⟨rfl,rfl⟩ ?_ ?_ ?_
   ·refine aC (.inr ⟨rfl,.inr fun W=>PEv.mv rfl⟩) (aC (.inr ⟨rfl,.inr fun W=>PEv.mv rfl⟩) (aC (.inr ⟨rfl,.inr fun W=>PEv.mv rfl⟩) (aC (.inr ⟨rfl,.inr fun W=>PEv.addN (.t rfl) (.t rfl) oQ⟩) (aC (.inr ⟨rfl,.inr fun W=>PEv.mv rfl⟩) (aC (.inr ⟨rfl,.inr fun W=>PEv.mv rfl⟩) (aC (.inr ⟨rfl,.inr fun W=>PEv.mv rfl⟩) (aC (.inr ⟨rfl,.inr fun W=>PEv.addN (.t rfl) (.t rfl) oQ⟩) (aC (.inr ⟨rfl,.inr fun W=>PEv.mv rfl⟩) (aC (.inr ⟨rfl,.inr fun W=>PEv.mv rfl⟩) (aC (.inr ⟨rfl,.inr fun W=>PEv.mv rfl⟩) (aC (.inr ⟨rfl,.inr fun W=>PEv.addN (.t rfl) (.t rfl) oQ⟩) (aC (.inr ⟨rfl,.inr fun W=>PEv.indexAddr underlying26 sizeOf74 (.t rfl) (.t rfl) oQ⟩) (aC (.inr ⟨rfl,.inl ⟨by kernel_rfl,fun W hS=>PEv.lc rfl ((hS.own 0 rfl).at (fun _=>rfl) hy)⟩⟩) (aC (.inr ⟨rfl,.inr fun W=>PEv.mv rfl⟩) (aC (.inr ⟨rfl,.inr fun W=>PEv.mv rfl⟩) (aC (.inr ⟨rfl,.inr fun W=>PEv.mv rfl⟩) (aC (.inr ⟨rfl,.inr fun W=>PEv.addN (.t rfl) (.t rfl) oQ⟩) (aC (.inr ⟨rfl,.inr fun W=>PEv.indexAddr underlying26 sizeOf74 (.t rfl) (.t rfl) oQ⟩) (aC (.inr ⟨rfl,.inl ⟨by kernel_rfl,fun W hS=>PEv.lc rfl ((hS.own 0 rfl).at (fun _=>rfl) hx)⟩⟩) (aC (.inr ⟨rfl,.inr fun W=>PEv.indexAddr underlying26 sizeOf74 (.t rfl) (.t rfl) oQ⟩) (aC (.inl (by simp)) (aC (.inr ⟨rfl,.inr fun W=>PEv.indexAddr underlying26 sizeOf74 (.t rfl) (.t rfl) oQ⟩) (aC (.inl (by simp)) ?_)))))))))))))))))))))))
    exact allL.nil
   ·intro W hS
    exact SEv.mono (SEv.Fz (i:=a+i) (z:=y) sizeOf74 (fun _=>rfl) Fact.one (.t rfl) (.t rfl) (hS.own 0 rfl) oQ) (fun _ h=>hS.Dw 0 rfl h)
   ·intro W hS
    exact SEv.mono (SEv.Fz (i:=b+i) (z:=x) sizeOf74 (fun _=>rfl) Fact.one (.t rfl) (.t rfl) (hS.own 0 rfl) oQ) (fun _ h=>hS.Dw 0 rfl h)
   intro w2 hS
   have hS:Wx.Sep (J (tN TY0) 19 Fact.cells (.slice (some ⟨g,0,none⟩) m cp) (xs)).foot w0 w2 [J (tN TY0) 19 Fact.cells (.slice (some ⟨g,0,none⟩) m cp) (((Tk xs a b i).set (a+i) y).set (b+i) x)]:=hS
   refine Ad (Ac (Aa (I rfl (U (.ic rfl oQ) (LW.A rfl (LW.nil (Ar ?_)))))))
   exact⟨i+1,⟨by omega,by rw[Tk,Wd hx hy];exact hS⟩,tQ,by omega⟩
  refine A4 (Ab (Ab (An (Dg rfl ⟨_,rfl,?_⟩))))
  have hin2:i=n:=by simp at h13;omega
  subst hin2
  exact⟨rfl,⟨hS.fr,hS.get 0 rfl,fun _ h=>.inl h⟩⟩
set_option maxHeartbeats 600000 in
theorem M5(v:Bool)(a mm b:Nat)(fv:Go.Value)(g m cp:Nat)(xs:List Fact)(w:World)(ho:OwnS w 0 (bif v then 74 else 283) 19 Fact.cells (.slice (some ⟨g,0,none⟩) m cp) xs)(h63:m≤1000000000)(h1:a<mm)(h2:mm<b)(h3:b≤m):Ret Tryz.prog (bif v then 233 else 248) #[.slice (some ⟨g,0,none⟩) m cp,vi (a:Int),vi (mm:Int),vi (b:Int),fv] w fun r w'=>r=.tuple #[]∧Stp (J (bif v then 74 else 283) 19 Fact.cells (.slice (some ⟨g,0,none⟩) m cp) (xs)) (J (bif v then 74 else 283) 19 Fact.cells (.slice (some ⟨g,0,none⟩) m cp) (Iy xs a mm b)) w w':=by
 have TY0:TN (bif v then 74 else 283):=⟨⟩
 have Xr:=oC v
 have func233:=bW v
 have F2:=@F2 v
 cases v<;>dsimp only[cond]at*
 all_goals
  obtain⟨w0,rfl,_⟩:=W0 w
  have hxl:=ho.len
  have hS:Wx.Sep (J (tN TY0) 19 Fact.cells (.slice (some ⟨g,0,none⟩) m cp) (xs)).foot w0 w0 [J (tN TY0) 19 Fact.cells (.slice (some ⟨g,0,none⟩) m cp) (xs)]:=Sep.cons ho (fun _ h=>h) (Sep.start _ _) (by simp)
  refine cT 58 func233 rfl (Af (I rfl (I rfl (U (.M0 (.t rfl) (.t rfl) oQ oQ) (LW.A rfl (Am (Aa (I rfl (I rfl (U (.M0 (.t rfl) (.t rfl) oQ oQ) (LW.A rfl (Am (Ae (A3 (σ:=Nat×Nat×List Fact) (fun s w=>(0<s.1∧0<s.2.1∧s.1≤mm-a∧s.2.1≤b-mm)∧(s.2.2.length=m)∧(Iy s.2.2 (mm-s.1) mm (mm+s.2.1)=Iy xs a mm b)∧(Wx.Sep (J (tN TY0) 19 Fact.cells (.slice (some ⟨g,0,none⟩) m cp) (xs)).foot w0 w [J (tN TY0) 19 Fact.cells (.slice (some ⟨g,0,none⟩) m cp) (s.2.2)])) (fun s=>[(10,.eq (vi (s.1:Int))),(11,.eq (vi (s.2.1:Int)))]) ([(0,.eq _),(2,.eq _),(4,.eq _)]) (fun s=>s.1+s.2.1) (mm-a,b-mm,xs) ?_ tQ ?_))))))))))))))
  ·exact⟨⟨by show 0<mm-a;omega,by show 0<b-mm;omega,Nat.le_refl _,Nat.le_refl _⟩,hxl,by rw[show mm-(mm-a)=a by omega,show mm+(b-mm)=b by omega],hS⟩
  rintro⟨i,j,ys⟩ w1 ⟨hij,hyl,hrt,hS⟩
  dsimp only at hij hyl hrt hS
  change CW _ _ _ _ _ _ _ ([(10,.eq (vi (i:Int))),(11,.eq (vi (j:Int)))]++_) _
  refine Ah (Af (I rfl (I rfl (U (.neq (.t rfl) (.t rfl)) (Ai (CW.b rfl (fun h20=>?_) (fun h20=>?_)))))))
  ·replace h20:=dQ h20
   have hne0:¬((i:Int)=j):=by simpa using h20
   have hne:i≠j:=by omega
   refine Aj (Ac (Ae (Af (I rfl (I rfl (U (.gtr (.t rfl) (.t rfl)) (Ai (CW.b rfl (fun h23=>?_) (fun h23=>?_)))))))))
   ·replace h23:=dQ h23
    refine Af (I rfl (I rfl (I rfl (U (.M0 (.t rfl) (.t rfl) oQ oQ) (I rfl (I rfl (I rfl (A6 (eC (.ct rfl (.ct rfl (.ct rfl (.ct rfl (.cu rfl))))) (Xr)) rfl (F2 (mm-i) mm j _ g m cp ys _ (hS.own 0 rfl) h63 oQ oQ) ?_))))))))
    rintro _ w2 ⟨rfl,uw2⟩
    replace hS:=hS.Dw 0 rfl uw2
    refine Ai (Aa (I rfl (I rfl (U (.M0 (.t rfl) (.t rfl) oQ oQ) (LW.A rfl (LW.nil (Ad (Ar ?_))))))))
    exact⟨(i-j,j,Tk ys (mm-i) mm j),⟨⟨by show 0<i-j;omega,by show 0<j;omega,by show i-j≤mm-a;omega,by show j≤b-mm;omega⟩,by rw[Fm];exact hyl,by rw[←hrt];exact sZ oQ oQ oQ oQ,hS⟩,tQ,by(dsimp only;omega)⟩
   replace h23:=dQ h23
   refine Af (I rfl (I rfl (I rfl (U (.M0 (.t rfl) (.t rfl) oQ oQ) (I rfl (I rfl (U (.addN (.t rfl) (.t rfl) oQ) (I rfl (U (.M0 (.t rfl) (.t rfl) oQ oQ) (I rfl (I rfl (A6 (eC (.ct rfl (.ct rfl (.ct rfl (.ct rfl (.cu rfl))))) (Xr)) rfl (F2 (mm-i) (mm+j-i) i _ g m cp ys _ (hS.own 0 rfl) h63 oQ oQ) ?_))))))))))))
   rintro _ w3 ⟨rfl,uw3⟩
   replace hS:=hS.Dw 0 rfl uw3
   refine Ai (Aa (I rfl (I rfl (U (.M0 (.t rfl) (.t rfl) oQ oQ) (LW.A rfl (LW.nil (Ad (Ar ?_))))))))
   exact⟨(i,j-i,Tk ys (mm-i) (mm+j-i) i),⟨⟨by show 0<i;omega,by show 0<j-i;omega,by show i≤mm-a;omega,by show j-i≤b-mm;omega⟩,by rw[Fm];exact hyl,by rw[←hrt];exact jH oQ oQ oQ oQ,hS⟩,tQ,by(dsimp only;omega)⟩
  replace h20:=dQ h20
  have heq0:((i:Int)=j):=by simpa using h20
  have heq:i=j:=by omega
  subst heq
  refine A4 (Ab (Ab (An (Ac (Aa (I rfl (I rfl (I rfl (U (.M0 (.t rfl) (.t rfl) oQ oQ) (I rfl (I rfl (I rfl (A6 (eC (.ct rfl (.ct rfl (.ct rfl (.ct rfl (.cu rfl))))) (Xr)) rfl (F2 (mm-i) mm i _ g m cp ys _ (hS.own 0 rfl) h63 oQ oQ) ?_)))))))))))))
  rintro _ w4 ⟨rfl,uw4⟩
  replace hS:=hS.Dw 0 rfl uw4
  refine LW.nil (Dg rfl ⟨_,rfl,?_⟩)
  rw[nR oQ oQ,hrt]at hS
  exact⟨rfl,⟨hS.fr,hS.get 0 rfl,fun _ h=>.inl h⟩⟩
set_option maxHeartbeats 600000 in
theorem G7(v:Bool)(a b:Nat)(cf:Nat)(lb:Array Go.Value)(key:Fact→K2)(hen:∀args w,(callFunc cf args).run Tryz.prog w=.ok (.enter cf args) w)(g m cp:Nat)(xs:List Fact)(w:World)(ho:OwnS w 0 (bif v then 74 else 283) 19 Fact.cells (.slice (some ⟨g,0,none⟩) m cp) xs)(h63:m≤1000000000)(hcmp:∀W,Fr (J (bif v then 74 else 283) 19 Fact.cells (.slice (some ⟨g,0,none⟩) m cp) (xs)).foot w W→∀x y,Ret Tryz.prog cf (#[.agg (Fact.cells x),.agg (Fact.cells y)]++lb) W fun r W'=>r=vi (Yj (key x) (key y))∧Up W W')(h1:a≤b)(h2:b≤m):Ret Tryz.prog (bif v then 202 else 245) #[.slice (some ⟨g,0,none⟩) m cp,vi (a:Int),vi (b:Int),.func (.func cf) #[] lb] w fun r w'=>r=.tuple #[]∧∃zs,StS key (Cz xs a b) zs∧Stp (J (bif v then 74 else 283) 19 Fact.cells (.slice (some ⟨g,0,none⟩) m cp) (xs)) (J (bif v then 74 else 283) 19 Fact.cells (.slice (some ⟨g,0,none⟩) m cp) (Ex xs a b zs)) w w':=by
 have TY0:TN (bif v then 74 else 283):=⟨⟩
 have func202:=R3 v
 have isAgg74:=M4 v
 have sizeOf74:=K6 v
 have underlying26:=Fe v
 cases v<;>dsimp only[cond]at*
 all_goals
  obtain⟨w0,rfl,_⟩:=W0 w
  have hxl:=ho.len
  have hS:Wx.Sep (J (tN TY0) 19 Fact.cells (.slice (some ⟨g,0,none⟩) m cp) (xs)).foot w0 w0 [J (tN TY0) 19 Fact.cells (.slice (some ⟨g,0,none⟩) m cp) (xs)]:=Sep.cons ho (fun _ h=>h) (Sep.start _ _) (by simp)
  refine cT 53 func202 rfl (Af (I rfl (U (.ic rfl oQ) (LW.A rfl (Ai (Ae (A3 (σ:=Nat×List Fact) (fun s w=>(a+1≤s.1∧(s.1≤b∨s.1=a+1))∧(StS key (Cz xs a (min s.1 b)) s.2)∧(Wx.Sep (J (tN TY0) 19 Fact.cells (.slice (some ⟨g,0,none⟩) m cp) (xs)).foot w0 w [J (tN TY0) 19 Fact.cells (.slice (some ⟨g,0,none⟩) m cp) (Ex xs a (min s.1 b) s.2)])) (fun s=>[(8,.eq (vi (s.1:Int)))]) ([(0,.eq _),(1,.eq _),(2,.eq _),(3,.eq _)]) (fun s=>b-s.1) (a+1,Cz xs a (min (a+1) b)) ?_ tQ ?_)))))))
  ·exact⟨⟨Nat.le_refl _,.inr rfl⟩,StS.refl (tB (by rw[Cd (by omega)];omega)),by rw[Gw oQ (by omega)];exact hS⟩
  rintro⟨i,zs⟩ w1 ⟨hi,hz,hS⟩
  dsimp only at hi hz hS
  change CW _ _ _ _ _ _ _ ([(8,.eq (vi (i:Int)))]++_) _
  refine Ah (Af (I rfl (I rfl (U (.l2 rfl rfl) (Ai (CW.b rfl (fun h14=>?_) (fun h14=>?_)))))))
  ·refine Aj (Ac (Ah (Ae (Ah ?_))))
   have hib:i<b:=by simp at h14;omega
   rw[Nat.min_eq_left (by omega)]at hz hS
   have hzl:zs.length=i-a:=by rw[hz.same.length,Cd (by omega)]
   obtain⟨x,hx⟩:=Aq (xs:=xs) (i:=i) oQ
   refine Aa (I rfl (LW.A rfl (Ai (Ae (A3 (σ:=Nat) (fun s w=>(a≤s∧s≤i)∧(∀y∈zs.drop (s-a),G6 (key x) (key y)=true)∧(Wx.Sep (J (tN TY0) 19 Fact.cells (.slice (some ⟨g,0,none⟩) m cp) (xs)).foot w0 w [J (tN TY0) 19 Fact.cells (.slice (some ⟨g,0,none⟩) m cp) (Ex xs a (i+1) (C0 zs x (s-a)))])) (fun s=>[(9,.eq (vi (s:Int)))]) ([(0,.eq _),(1,.eq _),(2,.eq _),(3,.eq _),(8,.eq _)]) (fun s=>s) i ?_ tQ ?_)))))
   ·exact⟨⟨by omega,Nat.le_refl _⟩,by rw[List.drop_eq_nil_of_le (by omega)];simp,by rw[←hzl,Uy,Yb oQ hx hzl];exact hS⟩
   rintro j w2 ⟨hj,hgt,hS⟩
   refine Ah (Ah ?_)
   skip
   cases hq4:decide (a<j)with
   |true=>
    have haj:=of_decide_eq_true hq4
    obtain⟨y,hy⟩:=Aq (xs:=zs) (i:=j-a-1) oQ
    have hjx:(Ex xs a (i+1) (C0 zs x (j-a)))[j]?=some x:=by have:=Yc (xs:=xs) (a:=a) (b:=i+1) (zs:=zs) (x:=x) (p:=j-a) oQ oQ oQ (by omega);rwa [show a+(j-a)=j by omega]at this
    have hjy:(Ex xs a (i+1) (C0 zs x (j-a)))[j-1]?=some y:=by have:=M3 (xs:=xs) (a:=a) (b:=i+1) (zs:=zs) (x:=x) (p:=j-a) (q:=j-a-1) oQ oQ oQ oQ (by omega);rw[show a+(j-a-1)=j-1 by omega]at this;exact this.trans hy
    refine Ea kQ kQ rfl rfl (Au (.mv rfl) (Au (.mv rfl) (Au (.tr (PEv.gtr (.t rfl) (.t rfl)) (decide_eq_true oQ)) (Au (.mv rfl) (Ef (.mv rfl) (Ef (.mv rfl) (Ef (.mv rfl) (Ef (.indexAddr underlying26 sizeOf74 (.t rfl) (.t rfl) oQ) (Ef (.lc rfl ((hS.own 0 rfl).at (fun _=>rfl) hjx)) (Ef (.mv rfl) (Ef (.mv rfl) (Ef (.dec (.t rfl) oQ oQ) (Ef (.indexAddr underlying26 sizeOf74 (.t rfl) (.t rfl) oQ) (Ef (.lc rfl ((hS.own 0 rfl).at (fun _=>rfl) hjy)) (wP rfl rfl rfl rfl rfl (fun a w _ ha=>Cc (.t rfl) (.ct rfl (.cu rfl)) (hen) a ha) rfl (fun w hu=>hcmp w (hS.fr.trans (hu.fr _)) x y) (Ef (.lss (.t rfl) (.const _)) (Au (.pa rfl (fun hp=>(by exact .tmp rfl))) (HW.nil ?_))))))))))))))))))
    intro w3 uw3
    replace hS:=hS.up uw3
    refine Ac (CW.b rfl (fun h34=>?_) (fun h34=>?_))
    ·refine Aj (Ac (Ah (Ae (J6 15 17 [.slice (some ⟨g,0,none⟩) m cp,vi ((j:Nat):Int),.slice (some ⟨g,0,none⟩) m cp,vi ((j:Nat):Int),vi ((j-1:Nat):Int),.slice (some ⟨g,0,none⟩) m cp,vi ((j:Nat):Int),vi ((j-1:Nat):Int),.pointer (some ⟨g,0+(j-1)*19,none⟩),.agg (Fact.cells y),.slice (some ⟨g,0,none⟩) m cp,vi ((j:Nat):Int),.pointer (some ⟨g,0+(j)*19,none⟩),.agg (Fact.cells x),.pointer (some ⟨g,0+(j)*19,none⟩),undef,.pointer (some ⟨g,0+(j-1)*19,none⟩),undef] (fun W=>Wx.Sep (J (tN TY0) 19 Fact.cells (.slice (some ⟨g,0,none⟩) m cp) (xs)).foot w0 W [J (tN TY0) 19 Fact.cells (.slice (some ⟨g,0,none⟩) m cp) (Ex xs a (i+1) (C0 zs x (j-a)))]) (fun W=>Wx.Sep (J (tN TY0) 19 Fact.cells (.slice (some ⟨g,0,none⟩) m cp) (xs)).foot w0 W [J (tN TY0) 19 Fact.cells (.slice (some ⟨g,0,none⟩) m cp) ((Ex xs a (i+1) (C0 zs x (j-a))).set (j) y)]) (fun W=>Wx.Sep (J (tN TY0) 19 Fact.cells (.slice (some ⟨g,0,none⟩) m cp) (xs)).foot w0 W [J (tN TY0) 19 Fact.cells (.slice (some ⟨g,0,none⟩) m cp) (((Ex xs a (i+1) (C0 zs x (j-a))).set (j) y).set (j-1) x)]) kQ rfl kQ kQ kQ kQ kQ kQ (hS.up (Up.drew _)) ?_ _ _ rfl rfl ⟨rfl,rfl⟩ ⟨rfl,rfl⟩ ?_ ?_ ?_))))
     ·refine aC (.inr ⟨rfl,.inr fun W=>PEv.mv rfl⟩) (aC (.inr ⟨rfl,.inr fun W=>PEv.mv rfl⟩) (aC (.inr ⟨rfl,.inr fun W=>PEv.mv rfl⟩) (aC (.inr ⟨rfl,.inr fun W=>PEv.mv rfl⟩) (aC (.inr ⟨rfl,.inr fun W=>PEv.dec (.t rfl) oQ oQ⟩) (aC (.inr ⟨rfl,.inr fun W=>PEv.mv rfl⟩) (aC (.inr ⟨rfl,.inr fun W=>PEv.mv rfl⟩) (aC (.inr ⟨rfl,.inr fun W=>PEv.dec (.t rfl) oQ oQ⟩) (aC (.inr ⟨rfl,.inr fun W=>PEv.indexAddr underlying26 sizeOf74 (.t rfl) (.t rfl) oQ⟩) (aC (.inr ⟨rfl,.inl ⟨by kernel_rfl,fun W hS=>PEv.lc rfl ((hS.own 0 rfl).at (fun _=>rfl) hjy)⟩⟩) (aC (.inr ⟨rfl,.inr fun W=>PEv.mv rfl⟩) (aC (.inr ⟨rfl,.inr fun W=>PEv.mv rfl⟩) (aC (.inr ⟨rfl,.inr fun W=>PEv.indexAddr underlying26 sizeOf74 (.t rfl) (.t rfl) oQ⟩) (aC (.inr ⟨rfl,.inl ⟨by kernel_rfl,fun W hS=>PEv.lc rfl ((hS.own 0 rfl).at (fun _=>rfl) hjx)⟩⟩) (aC (.inr ⟨rfl,.inr fun W=>PEv.indexAddr underlying26 sizeOf74 (.t rfl) (.t rfl) oQ⟩) (aC (.inl (by simp)) (aC (.inr ⟨rfl,.inr fun W=>PEv.indexAddr underlying26 sizeOf74 (.t rfl) (.t rfl) oQ⟩) (aC (.inl (by simp)) ?_)))))))))))))))))
      exact allL.nil
     ·intro W hS
      exact SEv.mono (SEv.Fz (i:=j) (z:=y) sizeOf74 (fun _=>rfl) Fact.one (.t rfl) (.t rfl) (hS.own 0 rfl) oQ) (fun _ h=>hS.Dw 0 rfl h)
     ·intro W hS
      exact SEv.mono (SEv.Fz (i:=j-1) (z:=x) sizeOf74 (fun _=>rfl) Fact.one (.t rfl) (.t rfl) (hS.own 0 rfl) oQ) (fun _ h=>hS.Dw 0 rfl h)
     intro w4 hS
     have hS:Wx.Sep (J (tN TY0) 19 Fact.cells (.slice (some ⟨g,0,none⟩) m cp) (xs)).foot w0 w4 [J (tN TY0) 19 Fact.cells (.slice (some ⟨g,0,none⟩) m cp) (((Ex xs a (i+1) (C0 zs x (j-a))).set (j) y).set (j-1) x)]:=hS
     refine Ad (Ac (Aa (I rfl (U (.dec (.t rfl) oQ oQ) (LW.A rfl (LW.nil (Ar ?_)))))))
     exact⟨j-1,⟨⟨by omega,by omega⟩,by rw[show j-1-a=j-a-1 by omega];exact jJ oQ hy hgt (by rw[←Hc];simpa using h34),by have:=Yd (xs:=xs) (a:=a) (b:=i+1) (x:=x) (p:=j-a-1) (y:=y) oQ oQ oQ oQ hy;rw[show j-a-1+1=j-a by omega,show a+(j-a)=j by omega,show a+(j-a-1)=j-1 by omega]at this;rw[show j-1-a=j-a-1 by omega,←this];exact hS⟩,tQ,by omega⟩
    refine A4 (Ab (Ab (An (Ad (Ac (Aa (I rfl (U (.ic rfl oQ) (LW.A rfl (LW.nil (Ar ?_)))))))))))
    exact⟨(i+1,C0 zs x (j-a)),⟨⟨by omega,by omega⟩,by rw[Nat.min_eq_left oQ,K5 oQ hx];exact hz.snoc oQ hgt (.inr ⟨y,hy,by rw[←Hc];simpa using h34⟩),by rw[Nat.min_eq_left (by omega)];exact hS⟩,tQ,by omega⟩
   |false=>
    refine Ea kQ kQ rfl rfl (Au (.mv rfl) (Au (.mv rfl) (Au (.fa (PEv.gtr (.t rfl) (.t rfl)) (decide_eq_false (by have:=of_decide_eq_false hq4;omega))) (Au (.mv rfl) (Eg (Eg (Eg (Eg (Eg (Eg (Eg (Eg (Eg (Eg (Eg (Eg (Au (.F0 (b:=false) (.t rfl) (fun hp=>absurd (show false=true from hp) cQ)) (HW.nil ?_))))))))))))))))))
    intro w5 uw5
    replace hS:=hS.up uw5
    refine Ac (CW.f rfl (A4 (Ab (Ab (An (Ad (Ac (Aa (I rfl (U (.ic rfl oQ) (LW.A rfl (LW.nil (Ar ?_)))))))))))))
    exact⟨(i+1,C0 zs x (j-a)),⟨⟨by omega,by omega⟩,by rw[Nat.min_eq_left oQ,K5 oQ hx];exact hz.snoc oQ hgt (.inl (by have:=of_decide_eq_false hq4;omega)),by rw[Nat.min_eq_left (by omega)];exact hS⟩,tQ,by omega⟩
  refine A4 (Ab (Ab (An (Dg rfl ⟨_,rfl,?_⟩))))
  have hbi:min i b=b:=by simp at h14;omega
  rw[hbi]at hz hS
  exact⟨rfl,zs,hz,⟨hS.fr,hS.get 0 rfl,fun _ h=>.inl h⟩⟩
set_option maxHeartbeats 16000000 in
theorem Hy(v:Bool)(cf:Nat)(lb:Array Go.Value)(key:Fact→K2)(hen:∀args w,(callFunc cf args).run Tryz.prog w=.ok (.enter cf args) w)(g m cp:Nat)(h63:m≤1000000000):∀(N a mm b:Nat)(xs:List Fact)(w:World),b-a≤N→OwnS w 0 (bif v then 74 else 283) 19 Fact.cells (.slice (some ⟨g,0,none⟩) m cp) xs→(∀W,Fr (J (bif v then 74 else 283) 19 Fact.cells (.slice (some ⟨g,0,none⟩) m cp) (xs)).foot w W→∀x y,Ret Tryz.prog cf (#[.agg (Fact.cells x),.agg (Fact.cells y)]++lb) W fun r W'=>r=vi (Yj (key x) (key y))∧Up W W')→a<mm→mm<b→b≤m→Jf key (Cz xs a mm)→Jf key (Cz xs mm b)→
   Ret Tryz.prog (bif v then 203 else 246) #[.slice (some ⟨g,0,none⟩) m cp,vi (a:Int),vi (mm:Int),vi (b:Int),.func (.func cf) #[] lb] w fun r w'=>r=.tuple #[]∧∃zs,StS key (Cz xs a b) zs∧Stp (J (bif v then 74 else 283) 19 Fact.cells (.slice (some ⟨g,0,none⟩) m cp) (xs)) (J (bif v then 74 else 283) 19 Fact.cells (.slice (some ⟨g,0,none⟩) m cp) (Ex xs a b zs)) w w':=by
 have TY0:TN (bif v then 74 else 283):=⟨⟩
 have Rc:=Yn v
 have mP:=oB v
 have func203:=bV v
 have isAgg74:=M4 v
 have sizeOf74:=K6 v
 have underlying26:=Fe v
 have M5:=@M5 v
 cases v<;>dsimp only[cond]at*
 all_goals
  intro N
  induction N with
  |zero=>intro a mm b xs w hN _ _ h1 h2;omega
  |succ N ih=>
  intro a mm b xs w hN ho hcmp h1 h2 h3 hsA hsB
  obtain⟨w0,rfl,_⟩:=W0 w
  have hxl:=ho.len
  have hS:Wx.Sep (J (tN TY0) 19 Fact.cells (.slice (some ⟨g,0,none⟩) m cp) (xs)).foot w0 w0 [J (tN TY0) 19 Fact.cells (.slice (some ⟨g,0,none⟩) m cp) (xs)]:=Sep.cons ho (fun _ h=>h) (Sep.start _ _) (by simp)
  refine cT 220 func203 rfl (Ah (Ah ?_))
  cases hq0:decide (mm-a=1)with
  |true=>
   have hq0:=of_decide_eq_true hq0
   obtain rfl:mm=a+1:=by omega
   obtain⟨x,hx⟩:=Aq (xs:=xs) (i:=a) oQ
   refine Aa (I rfl (I rfl (U (.M0 (.t rfl) (.t rfl) oQ oQ) (U (.tr (PEv.eql (.t rfl) (.const _)) (decide_eq_true oQ)) (Ai (CW.v rfl (Af (I rfl (LW.A rfl (Am (Aa (I rfl (LW.A rfl (Am (Ae (A3 (σ:=Nat×Nat) (fun s w=>(a+1≤s.1∧s.1≤s.2∧s.2≤b)∧(∀q y,a+1≤q→q<s.1→xs[q]?=some y→G6 (key y) (key x)=true)∧(∀q y,s.2≤q→q<b→xs[q]?=some y→G6 (key y) (key x)=false)∧(Wx.Sep (J (tN TY0) 19 Fact.cells (.slice (some ⟨g,0,none⟩) m cp) (xs)).foot w0 w [J (tN TY0) 19 Fact.cells (.slice (some ⟨g,0,none⟩) m cp) (xs)])) (fun s=>[(10,.eq (vi (s.1:Int))),(11,.eq (vi (s.2:Int)))]) ([(0,.eq _),(1,.eq _),(2,.eq _),(3,.eq _),(4,.eq _)]) (fun s=>s.2-s.1) (a+1,b) ?_ tQ ?_))))))))))))))))
   ·exact⟨⟨Nat.le_refl _,by show a+1≤b;omega,Nat.le_refl _⟩,fun q y h1 h2=>absurd (show q<a+1 from h2) oQ,fun q y h1 h2=>absurd (show b≤q from h1) oQ,hS⟩
   rintro⟨i,j⟩ w1 ⟨hij,hL,hR,hS⟩
   dsimp only at hij hL hR hS
   change CW _ _ _ _ _ _ _ ([(10,.eq (vi (i:Int))),(11,.eq (vi (j:Int)))]++_) _
   refine Ah (Af (I rfl (I rfl (U (.l2 rfl rfl) (Ai (CW.b rfl (fun h33=>?_) (fun h33=>?_)))))))
   ·replace h33:=dQ h33
    refine Aj (Ac (Ae (Af (I rfl (I rfl (U (.addN (.t rfl) (.t rfl) oQ) (U (.val (v':=vu (i+j)) (PEv.conv (k':=.u64) (by rw[underlying3];rfl) underlying136 (.t rfl)) (Qn oQ)) (U (.val (v':=vu ((i+j)/2)) (PEv.Pr (j:=1) (.t rfl) (.const _)) N1) (U (.val (v':=vi (((i+j)/2:Nat):Int)) (PEv.conv (k':=.i64) (by rw[underlying136];rfl) underlying3 (.t rfl)) (Qo oQ)) (LW.A rfl (Am ?_)))))))))))
    have hlt:i<j:=by simp at h33;omega
    obtain⟨y,hy⟩:=Aq (xs:=xs) (i:=(i+j)/2) oQ
    refine Ea kQ kQ rfl rfl (Au (.mv rfl) (Au (.mv rfl) (Au (.mv rfl) (Au (.indexAddr underlying26 sizeOf74 (.t rfl) (.t rfl) oQ) (Au (.lc rfl ((hS.own 0 rfl).at (fun _=>rfl) hy)) (Au (.mv rfl) (Au (.mv rfl) (Au (.indexAddr underlying26 sizeOf74 (.t rfl) (.t rfl) oQ) (Au (.lc rfl ((hS.own 0 rfl).at (fun _=>rfl) hx)) (HW.c (fun a w _ ha=>Cc (.t rfl) (.ct rfl (.cu rfl)) (hen) a ha) rfl rfl (fun w hu=>hcmp w (hS.fr.trans (hu.fr _)) y x) (Au (.lss (.t rfl) (.const _)) (HW.nil ?_))))))))))))
    intro w2 uw2
    replace hS:=hS.up uw2
    refine Ac (CW.b rfl (fun h50=>?_) (fun h50=>?_))
    ·replace h50:=dQ h50
     refine Aa (I rfl (U (.ic rfl oQ) (LW.A rfl (LW.nil (Ad (Ar ?_))))))
     exact⟨((i+j)/2+1,j),⟨⟨by show a+1≤(i+j)/2+1;omega,by show(i+j)/2+1≤j;omega,by show j≤b;omega⟩,fun q z q1 q2 hz=>fU (I5 hsB q1 (show q≤(i+j)/2 from Nat.le_of_lt_succ q2) oQ hz hy) (by rw[←Hc];exact decide_eq_true h50),hR,hS⟩,tQ,by omega⟩
    replace h50:=dQ h50
    refine Aa (I rfl (LW.A rfl (LW.nil (Ad (Ar ?_)))))
    exact⟨(i,(i+j)/2),⟨⟨by show a+1≤i;omega,by show i≤(i+j)/2;omega,by show(i+j)/2≤b;omega⟩,hL,fun q z q1 q2 hz=>Jn (by rw[←Hc];exact decide_eq_false h50) (I5 hsB oQ (show(i+j)/2≤q from q1) q2 hy hz),hS⟩,tQ,by omega⟩
   replace h33:=dQ h33
   refine A4 (Ab (Ab (An (Ac (Ah (Ah ?_))))))
   have hij2:i=j:=by simp at h33;omega
   have hzl:(Cz xs (a+1) b).length=b-(a+1):=Cd oQ
   have hsx:x::Cz xs (a+1) b=Cz xs a b:=(nZ hx oQ oQ).symm
   refine Aa (I rfl (LW.A rfl (Ai (Ae (A3 (σ:=Nat) (fun s w=>(a≤s∧s≤i-1)∧(Wx.Sep (J (tN TY0) 19 Fact.cells (.slice (some ⟨g,0,none⟩) m cp) (xs)).foot w0 w [J (tN TY0) 19 Fact.cells (.slice (some ⟨g,0,none⟩) m cp) (Ex xs a b (C0 (Cz xs (a+1) b) x (s-a)))])) (fun s=>[(13,.eq (vi (s:Int)))]) ([(0,.eq _),(1,.eq _),(2,.eq _),(3,.eq _),(4,.eq _),(10,.eq _)]) (fun s=>i-s) a ?_ tQ ?_)))))
   ·exact⟨⟨Nat.le_refl _,by omega⟩,by rw[Nat.sub_self,Ya,hsx,Gw oQ (by omega)];exact hS⟩
   rintro k w3 ⟨hk,hS⟩
   refine Ah (Af (I rfl (I rfl (U (.dec (.t rfl) oQ oQ) (U (.l2 rfl rfl) (Ai (CW.b rfl (fun h58=>?_) (fun h58=>?_))))))))
   ·replace h58:=dQ h58
    refine Aj (Ac (Ah (Ae ?_)))
    have hki:k<i-1:=by simp at h58;omega
    obtain⟨y,hy⟩:=Aq (xs:=Cz xs (a+1) b) (i:=k-a) oQ
    have hrl:(Ex xs a b (C0 (Cz xs (a+1) b) x (k-a))).length=m:=by rw[Dl oQ oQ (by rw[Dx];omega)];exact hxl
    have hkx:(Ex xs a b (C0 (Cz xs (a+1) b) x (k-a)))[k]?=some x:=by have:=Yc (xs:=xs) (a:=a) (b:=b) (zs:=Cz xs (a+1) b) (x:=x) (p:=k-a) oQ oQ oQ (by omega);rwa [show a+(k-a)=k by omega]at this
    have hky:(Ex xs a b (C0 (Cz xs (a+1) b) x (k-a)))[k+1]?=some y:=by have:=Rz (xs:=xs) (a:=a) (b:=b) (zs:=Cz xs (a+1) b) (x:=x) (p:=k-a) (q:=k-a+1) oQ oQ oQ oQ (by omega);rw[show a+(k-a+1)=k+1 by omega]at this;exact this.trans hy
    refine J6 15 17 [.slice (some ⟨g,0,none⟩) m cp,vi ((k:Nat):Int),.slice (some ⟨g,0,none⟩) m cp,vi ((k:Nat):Int),vi ((k+1:Nat):Int),.slice (some ⟨g,0,none⟩) m cp,vi ((k:Nat):Int),vi ((k+1:Nat):Int),.pointer (some ⟨g,0+(k+1)*19,none⟩),.agg (Fact.cells y),.slice (some ⟨g,0,none⟩) m cp,vi ((k:Nat):Int),.pointer (some ⟨g,0+(k)*19,none⟩),.agg (Fact.cells x),.pointer (some ⟨g,0+(k)*19,none⟩),undef,.pointer (some ⟨g,0+(k+1)*19,none⟩),undef] (fun W=>Wx.Sep (J (tN TY0) 19 Fact.cells (.slice (some ⟨g,0,none⟩) m cp) (xs)).foot w0 W [J (tN TY0) 19 Fact.cells (.slice (some ⟨g,0,none⟩) m cp) (Ex xs a b (C0 (Cz xs (a+1) b) x (k-a)))]) (fun W=>Wx.Sep (J (tN TY0) 19 Fact.cells (.slice (some ⟨g,0,none⟩) m cp) (xs)).foot w0 W [J (tN TY0) 19 Fact.cells (.slice (some ⟨g,0,none⟩) m cp) ((Ex xs a b (C0 (Cz xs (a+1) b) x (k-a))).set (k) y)]) (fun W=>Wx.Sep (J (tN TY0) 19 Fact.cells (.slice (some ⟨g,0,none⟩) m cp) (xs)).foot w0 W [J (tN TY0) 19 Fact.cells (.slice (some ⟨g,0,none⟩) m cp) (((Ex xs a b (C0 (Cz xs (a+1) b) x (k-a))).set (k) y).set (k+1) x)]) kQ rfl kQ kQ kQ kQ kQ kQ (hS.up (Up.drew _)) ?_ _ _ rfl rfl ⟨rfl,rfl⟩ ⟨rfl,rfl⟩ ?_ ?_ ?_
    ·refine aC (.inr ⟨rfl,.inr fun W=>PEv.mv rfl⟩) (aC (.inr ⟨rfl,.inr fun W=>PEv.mv rfl⟩) (aC (.inr ⟨rfl,.inr fun W=>PEv.mv rfl⟩) (aC (.inr ⟨rfl,.inr fun W=>PEv.mv rfl⟩) (aC (.inr ⟨rfl,.inr fun W=>PEv.ic rfl oQ⟩) (aC (.inr ⟨rfl,.inr fun W=>PEv.mv rfl⟩) (aC (.inr ⟨rfl,.inr fun W=>PEv.mv rfl⟩) (aC (.inr ⟨rfl,.inr fun W=>PEv.ic rfl oQ⟩) (aC (.inr ⟨rfl,.inr fun W=>PEv.indexAddr underlying26 sizeOf74 (.t rfl) (.t rfl) oQ⟩) (aC (.inr ⟨rfl,.inl ⟨by kernel_rfl,fun W hS=>PEv.lc rfl ((hS.own 0 rfl).at (fun _=>rfl) hky)⟩⟩) (aC (.inr ⟨rfl,.inr fun W=>PEv.mv rfl⟩) (aC (.inr ⟨rfl,.inr fun W=>PEv.mv rfl⟩) (aC (.inr ⟨rfl,.inr fun W=>PEv.indexAddr underlying26 sizeOf74 (.t rfl) (.t rfl) oQ⟩) (aC (.inr ⟨rfl,.inl ⟨by kernel_rfl,fun W hS=>PEv.lc rfl ((hS.own 0 rfl).at (fun _=>rfl) hkx)⟩⟩) (aC (.inr ⟨rfl,.inr fun W=>PEv.indexAddr underlying26 sizeOf74 (.t rfl) (.t rfl) oQ⟩) (aC (.inl (by simp)) (aC (.inr ⟨rfl,.inr fun W=>PEv.indexAddr underlying26 sizeOf74 (.t rfl) (.t rfl) oQ⟩) (aC (.inl (by simp)) ?_)))))))))))))))))
     exact allL.nil
    ·intro W hS
     exact SEv.mono (SEv.Fz (i:=k) (z:=y) sizeOf74 (fun _=>rfl) Fact.one (.t rfl) (.t rfl) (hS.own 0 rfl) oQ) (fun _ h=>hS.Dw 0 rfl h)
    ·intro W hS
     exact SEv.mono (SEv.Fz (i:=k+1) (z:=x) sizeOf74 (fun _=>rfl) Fact.one (.t rfl) (.t rfl) (hS.own 0 rfl) oQ) (fun _ h=>hS.Dw 0 rfl h)
    intro w4 hS
    have hS:Wx.Sep (J (tN TY0) 19 Fact.cells (.slice (some ⟨g,0,none⟩) m cp) (xs)).foot w0 w4 [J (tN TY0) 19 Fact.cells (.slice (some ⟨g,0,none⟩) m cp) (((Ex xs a b (C0 (Cz xs (a+1) b) x (k-a))).set (k) y).set (k+1) x)]:=hS
    refine Ad (Ac (Aa (I rfl (U (.ic rfl oQ) (LW.A rfl (LW.nil (Ar ?_)))))))
    exact⟨k+1,⟨⟨by omega,by omega⟩,by have:=yO (xs:=xs) (a:=a) (b:=b) (x:=x) (p:=k-a) (y:=y) oQ oQ oQ oQ hy;rw[show a+(k-a)=k by omega,show a+(k-a+1)=k+1 by omega]at this;rw[show k+1-a=k-a+1 by omega,←this];exact hS⟩,tQ,by omega⟩
   replace h58:=dQ h58
   refine A4 (Ab (Ab (An (Ac (Al (Ap (Gp rfl ⟨_,rfl,?_⟩)))))))
   have hk2:k-a=i-(a+1):=by simp at h58;omega
   rw[hk2]at hS
   exact⟨rfl,_,tD oQ hx oQ oQ hsB hL (by rw[hij2];exact hR),⟨hS.fr,hS.get 0 rfl,fun _ h=>.inl h⟩⟩
  |false=>
   have hq0:=of_decide_eq_false hq0
   refine Aa (I rfl (I rfl (U (.M0 (.t rfl) (.t rfl) oQ oQ) (U (.fa (PEv.eql (.t rfl) (.const _)) (decide_eq_false oQ)) (Ai (CW.f rfl (Aj (Ac (Ah (Ah ?_))))))))))
   cases hq12:decide (b-mm=1)with
   |true=>
    have hq12:=of_decide_eq_true hq12
    obtain rfl:b=mm+1:=by omega
    obtain⟨x,hx⟩:=Aq (xs:=xs) (i:=mm) oQ
    refine Aa (I rfl (I rfl (U (.M0 (.t rfl) (.t rfl) oQ oQ) (U (.tr (PEv.eql (.t rfl) (.const _)) (decide_eq_true oQ)) (Ai (CW.v rfl (Af (I rfl (LW.A rfl (Am (Aa (I rfl (LW.A rfl (Am (Ae (A3 (σ:=Nat×Nat) (fun s w=>(a≤s.1∧s.1≤s.2∧s.2≤mm)∧(∀q y,a≤q→q<s.1→xs[q]?=some y→G6 (key x) (key y)=false)∧(∀q y,s.2≤q→q<mm→xs[q]?=some y→G6 (key x) (key y)=true)∧(Wx.Sep (J (tN TY0) 19 Fact.cells (.slice (some ⟨g,0,none⟩) m cp) (xs)).foot w0 w [J (tN TY0) 19 Fact.cells (.slice (some ⟨g,0,none⟩) m cp) (xs)])) (fun s=>[(14,.eq (vi (s.1:Int))),(15,.eq (vi (s.2:Int)))]) ([(0,.eq _),(1,.eq _),(2,.eq _),(3,.eq _),(4,.eq _)]) (fun s=>s.2-s.1) (a,mm) ?_ tQ ?_))))))))))))))))
    ·exact⟨⟨Nat.le_refl _,by show a≤mm;omega,Nat.le_refl _⟩,fun q y h1 h2=>absurd (show q<a from h2) oQ,fun q y h1 h2=>absurd (show mm≤q from h1) oQ,hS⟩
    rintro⟨i,j⟩ w5 ⟨hij,hL,hR,hS⟩
    dsimp only at hij hL hR hS
    change CW _ _ _ _ _ _ _ ([(14,.eq (vi (i:Int))),(15,.eq (vi (j:Int)))]++_) _
    refine Ah (Af (I rfl (I rfl (U (.l2 rfl rfl) (Ai (CW.b rfl (fun h85=>?_) (fun h85=>?_)))))))
    ·refine Aj (Ac (Ae (Af (I rfl (I rfl (U (.addN (.t rfl) (.t rfl) oQ) (U (.val (v':=vu (i+j)) (PEv.conv (k':=.u64) (by rw[underlying3];rfl) underlying136 (.t rfl)) (Qn oQ)) (U (.val (v':=vu ((i+j)/2)) (PEv.Pr (j:=1) (.t rfl) (.const _)) N1) (U (.val (v':=vi (((i+j)/2:Nat):Int)) (PEv.conv (k':=.i64) (by rw[underlying136];rfl) underlying3 (.t rfl)) (Qo oQ)) (LW.A rfl (Am ?_)))))))))))
     have hlt:i<j:=by simp at h85;omega
     obtain⟨y,hy⟩:=Aq (xs:=xs) (i:=(i+j)/2) oQ
     refine Ea kQ kQ rfl rfl (Au (.mv rfl) (Au (.mv rfl) (Au (.mv rfl) (Au (.indexAddr underlying26 sizeOf74 (.t rfl) (.t rfl) oQ) (Au (.lc rfl ((hS.own 0 rfl).at (fun _=>rfl) hx)) (Au (.mv rfl) (Au (.mv rfl) (Au (.indexAddr underlying26 sizeOf74 (.t rfl) (.t rfl) oQ) (Au (.lc rfl ((hS.own 0 rfl).at (fun _=>rfl) hy)) (HW.c (fun a w _ ha=>Cc (.t rfl) (.ct rfl (.cu rfl)) (hen) a ha) rfl rfl (fun w hu=>hcmp w (hS.fr.trans (hu.fr _)) x y) (Au (.lss (.t rfl) (.const _)) (Au (.n1 rfl) (HW.nil ?_)))))))))))))
     intro w6 uw6
     replace hS:=hS.up uw6
     refine Ac (CW.b rfl (fun h103=>?_) (fun h103=>?_))
     ·refine Aa (I rfl (U (.ic rfl oQ) (LW.A rfl (LW.nil (Ad (Ar ?_))))))
      exact⟨((i+j)/2+1,j),⟨⟨by show a≤(i+j)/2+1;omega,by show(i+j)/2+1≤j;omega,by show j≤mm;omega⟩,fun q z q1 q2 hz=>Jn (I5 hsA q1 (show q≤(i+j)/2 from Nat.le_of_lt_succ q2) oQ hz hy) (by rw[←Hc];simpa using h103),hR,hS⟩,tQ,by omega⟩
     refine Aa (I rfl (LW.A rfl (LW.nil (Ad (Ar ?_)))))
     exact⟨(i,(i+j)/2),⟨⟨by show a≤i;omega,by show i≤(i+j)/2;omega,by show(i+j)/2≤mm;omega⟩,hL,fun q z q1 q2 hz=>Wb (by rw[←Hc];simpa using h103) (I5 hsA oQ (show(i+j)/2≤q from q1) q2 hy hz),hS⟩,tQ,by omega⟩
    refine A4 (Ab (Ab (An (Ac (Ah (Ah ?_))))))
    have hij2:i=j:=by simp at h85;omega
    have hzl:(Cz xs a mm).length=mm-a:=Cd oQ
    refine Aa (I rfl (LW.A rfl (Ai (Ae (A3 (σ:=Nat) (fun s w=>(i≤s∧s≤mm)∧(Wx.Sep (J (tN TY0) 19 Fact.cells (.slice (some ⟨g,0,none⟩) m cp) (xs)).foot w0 w [J (tN TY0) 19 Fact.cells (.slice (some ⟨g,0,none⟩) m cp) (Ex xs a (mm+1) (C0 (Cz xs a mm) x (s-a)))])) (fun s=>[(17,.eq (vi (s:Int)))]) ([(0,.eq _),(1,.eq _),(2,.eq _),(3,.eq _),(4,.eq _),(14,.eq _)]) (fun s=>s) mm ?_ tQ ?_)))))
    ·exact⟨⟨by omega,Nat.le_refl _⟩,by rw[←hzl,Uy,Yb oQ hx hzl,Gw oQ (by omega)];exact hS⟩
    rintro k w7 ⟨hk,hS⟩
    refine Ah (Af (I rfl (I rfl (U (.gtr (.t rfl) (.t rfl)) (Ai (CW.b rfl (fun h110=>?_) (fun h110=>?_)))))))
    ·refine Aj (Ac (Ah (Ae ?_)))
     have hki:i<k:=by simp at h110;omega
     obtain⟨y,hy⟩:=Aq (xs:=Cz xs a mm) (i:=k-a-1) oQ
     have hrl:(Ex xs a (mm+1) (C0 (Cz xs a mm) x (k-a))).length=m:=by rw[Dl oQ oQ (by rw[Dx];omega)];exact hxl
     have hkx:(Ex xs a (mm+1) (C0 (Cz xs a mm) x (k-a)))[k]?=some x:=by have:=Yc (xs:=xs) (a:=a) (b:=mm+1) (zs:=Cz xs a mm) (x:=x) (p:=k-a) oQ oQ oQ (by omega);rwa [show a+(k-a)=k by omega]at this
     have hky:(Ex xs a (mm+1) (C0 (Cz xs a mm) x (k-a)))[k-1]?=some y:=by have:=M3 (xs:=xs) (a:=a) (b:=mm+1) (zs:=Cz xs a mm) (x:=x) (p:=k-a) (q:=k-a-1) oQ oQ oQ oQ (by omega);rw[show a+(k-a-1)=k-1 by omega]at this;exact this.trans hy
     refine J6 15 17 [.slice (some ⟨g,0,none⟩) m cp,vi ((k:Nat):Int),.slice (some ⟨g,0,none⟩) m cp,vi ((k:Nat):Int),vi ((k-1:Nat):Int),.slice (some ⟨g,0,none⟩) m cp,vi ((k:Nat):Int),vi ((k-1:Nat):Int),.pointer (some ⟨g,0+(k-1)*19,none⟩),.agg (Fact.cells y),.slice (some ⟨g,0,none⟩) m cp,vi ((k:Nat):Int),.pointer (some ⟨g,0+(k)*19,none⟩),.agg (Fact.cells x),.pointer (some ⟨g,0+(k)*19,none⟩),undef,.pointer (some ⟨g,0+(k-1)*19,none⟩),undef] (fun W=>Wx.Sep (J (tN TY0) 19 Fact.cells (.slice (some ⟨g,0,none⟩) m cp) (xs)).foot w0 W [J (tN TY0) 19 Fact.cells (.slice (some ⟨g,0,none⟩) m cp) (Ex xs a (mm+1) (C0 (Cz xs a mm) x (k-a)))]) (fun W=>Wx.Sep (J (tN TY0) 19 Fact.cells (.slice (some ⟨g,0,none⟩) m cp) (xs)).foot w0 W [J (tN TY0) 19 Fact.cells (.slice (some ⟨g,0,none⟩) m cp) ((Ex xs a (mm+1) (C0 (Cz xs a mm) x (k-a))).set (k) y)]) (fun W=>Wx.Sep (J (tN TY0) 19 Fact.cells (.slice (some ⟨g,0,none⟩) m cp) (xs)).foot w0 W [J (tN TY0) 19 Fact.cells (.slice (some ⟨g,0,none⟩) m cp) (((Ex xs a (mm+1) (C0 (Cz xs a mm) x (k-a))).set (k) y).set (k-1) x)]) kQ rfl kQ kQ kQ kQ kQ kQ (hS.up (Up.drew _)) ?_ _ _ rfl rfl ⟨rfl,rfl⟩ ⟨rfl,rfl⟩ ?_ ?_ ?_
     ·refine aC (.inr ⟨rfl,.inr fun W=>PEv.mv rfl⟩) (aC (.inr ⟨rfl,.inr fun W=>PEv.mv rfl⟩) (aC (.inr ⟨rfl,.inr fun W=>PEv.mv rfl⟩) (aC (.inr ⟨rfl,.inr fun W=>PEv.mv rfl⟩) (aC (.inr ⟨rfl,.inr fun W=>PEv.dec (.t rfl) oQ oQ⟩) (aC (.inr ⟨rfl,.inr fun W=>PEv.mv rfl⟩) (aC (.inr ⟨rfl,.inr fun W=>PEv.mv rfl⟩) (aC (.inr ⟨rfl,.inr fun W=>PEv.dec (.t rfl) oQ oQ⟩) (aC (.inr ⟨rfl,.inr fun W=>PEv.indexAddr underlying26 sizeOf74 (.t rfl) (.t rfl) oQ⟩) (aC (.inr ⟨rfl,.inl ⟨by kernel_rfl,fun W hS=>PEv.lc rfl ((hS.own 0 rfl).at (fun _=>rfl) hky)⟩⟩) (aC (.inr ⟨rfl,.inr fun W=>PEv.mv rfl⟩) (aC (.inr ⟨rfl,.inr fun W=>PEv.mv rfl⟩) (aC (.inr ⟨rfl,.inr fun W=>PEv.indexAddr underlying26 sizeOf74 (.t rfl) (.t rfl) oQ⟩) (aC (.inr ⟨rfl,.inl ⟨by kernel_rfl,fun W hS=>PEv.lc rfl ((hS.own 0 rfl).at (fun _=>rfl) hkx)⟩⟩) (aC (.inr ⟨rfl,.inr fun W=>PEv.indexAddr underlying26 sizeOf74 (.t rfl) (.t rfl) oQ⟩) (aC (.inl (by simp)) (aC (.inr ⟨rfl,.inr fun W=>PEv.indexAddr underlying26 sizeOf74 (.t rfl) (.t rfl) oQ⟩) (aC (.inl (by simp)) ?_)))))))))))))))))
      exact allL.nil
     ·intro W hS
      exact SEv.mono (SEv.Fz (i:=k) (z:=y) sizeOf74 (fun _=>rfl) Fact.one (.t rfl) (.t rfl) (hS.own 0 rfl) oQ) (fun _ h=>hS.Dw 0 rfl h)
     ·intro W hS
      exact SEv.mono (SEv.Fz (i:=k-1) (z:=x) sizeOf74 (fun _=>rfl) Fact.one (.t rfl) (.t rfl) (hS.own 0 rfl) oQ) (fun _ h=>hS.Dw 0 rfl h)
     intro w8 hS
     have hS:Wx.Sep (J (tN TY0) 19 Fact.cells (.slice (some ⟨g,0,none⟩) m cp) (xs)).foot w0 w8 [J (tN TY0) 19 Fact.cells (.slice (some ⟨g,0,none⟩) m cp) (((Ex xs a (mm+1) (C0 (Cz xs a mm) x (k-a))).set (k) y).set (k-1) x)]:=hS
     refine Ad (Ac (Aa (I rfl (U (.dec (.t rfl) oQ oQ) (LW.A rfl (LW.nil (Ar ?_)))))))
     exact⟨k-1,⟨⟨by omega,by omega⟩,by have:=Yd (xs:=xs) (a:=a) (b:=mm+1) (x:=x) (p:=k-a-1) (y:=y) oQ oQ oQ oQ hy;rw[show k-a-1+1=k-a by omega,show a+(k-a)=k by omega,show a+(k-a-1)=k-1 by omega]at this;rw[show k-1-a=k-a-1 by omega,←this];exact hS⟩,tQ,by omega⟩
    refine A4 (Ab (Ab (An (Ac (Al (Ap (Gp rfl ⟨_,rfl,?_⟩)))))))
    have hk2:k=i:=by simp at h110;omega
    subst hk2
    exact⟨rfl,_,nW hx oQ oQ hsA hL (by rw[hij2];exact hR),⟨hS.fr,hS.get 0 rfl,fun _ h=>.inl h⟩⟩
   |false=>
    have hq12:=of_decide_eq_false hq12
    obtain⟨mid,hmid⟩:∃mid,mid=(a+b)/2:=⟨_,rfl⟩
    refine Aa (I rfl (I rfl (U (.M0 (.t rfl) (.t rfl) oQ oQ) (U (.fa (PEv.eql (.t rfl) (.const _)) (decide_eq_false oQ)) (Ai (CW.f rfl (Aj (Ac (Af (I rfl (I rfl (U (.addN (.t rfl) (.t rfl) oQ) (U (.val (v':=vu (a+b)) (PEv.conv (k':=.u64) (by rw[underlying3];rfl) underlying136 (.t rfl)) (Qn oQ)) (U (.val (v':=vu ((a+b)/2)) (PEv.Pr (j:=1) (.t rfl) (.const _)) N1) (U (.val (v':=vi ((mid:Nat):Int)) (PEv.conv (k':=.i64) (by rw[underlying136];rfl) underlying3 (.t rfl)) (by rw[hmid];exact Qo oQ)) (LW.A rfl (Am (Aa (I rfl (I rfl (U (.addN (.t rfl) (.t rfl) oQ) (LW.A rfl (Am (Aa (Az (Az (Ai (Mq (fun a1 W=>∃s0 r0:Nat,Ag 220 [] ([(0,.eq (.slice (some ⟨g,0,none⟩) m cp)),(1,.eq (vi (a:Int))),(2,.eq (vi (mm:Int))),(3,.eq (vi (b:Int))),(4,.eq (.func (.func cf) #[] lb)),(18,.eq (vi (mid:Int))),(19,.eq (vi ((mid+mm:Nat):Int))),(20,.eq (vi (s0:Int))),(21,.eq (vi (r0:Int)))]) a1 W∧((s0=mid+mm-b∧r0=mid∧mid<mm)∨(s0=a∧r0=mm∧mm≤mid))∧Wx.Sep (J (tN TY0) 19 Fact.cells (.slice (some ⟨g,0,none⟩) m cp) (xs)).foot w0 W [J (tN TY0) 19 Fact.cells (.slice (some ⟨g,0,none⟩) m cp) (xs)]) ?_ ?_))))))))))))))))))))))))))))
    ·skip
     refine Af (I rfl (I rfl (U (.gtr (.t rfl) (.t rfl)) (Ai (CW.b rfl (fun h140=>?_) (fun h140=>?_))))))
     ·replace h140:=dQ h140
      refine Af (I rfl (I rfl (U (.M0 (.t rfl) (.t rfl) oQ oQ) (LW.A rfl (Ai (Aa (I rfl (LW.A rfl (LW.nil ?_)))))))))
      exact fun a ha=>⟨_,_,ha.sub tQ,(by exact .inl ⟨rfl,rfl,by omega⟩),hS⟩
     replace h140:=dQ h140
     refine Af (I rfl (LW.A rfl (Ai (Aa (I rfl (LW.A rfl (LW.nil ?_)))))))
     exact fun a ha=>⟨_,_,ha.sub tQ,(by exact .inr ⟨rfl,rfl,by omega⟩),hS⟩
    rintro a1 w9 ⟨s0,r0,ha,hsr,hS⟩
    revert a1
    show CW none _ _ _ _ _ _ _ _
    refine Af (I rfl (U (.dec (.t rfl) oQ oQ) (LW.A rfl (Am (Ae (A3 (σ:=Nat×Nat) (fun s w=>(s0≤s.1∧s.1≤s.2∧s.2≤r0)∧(s.1=s0∨∃u v,xs[mid+mm-s.1]?=some u∧xs[s.1-1]?=some v∧G6 (key u) (key v)=false)∧(s.2=r0∨∃u v,xs[mid+mm-1-s.2]?=some u∧xs[s.2]?=some v∧G6 (key u) (key v)=true)∧(Wx.Sep (J (tN TY0) 19 Fact.cells (.slice (some ⟨g,0,none⟩) m cp) (xs)).foot w0 w [J (tN TY0) 19 Fact.cells (.slice (some ⟨g,0,none⟩) m cp) (xs)])) (fun s=>[(20,.eq (vi (s.1:Int))),(21,.eq (vi (s.2:Int)))]) ([(0,.eq _),(1,.eq _),(2,.eq _),(3,.eq _),(4,.eq _),(18,.eq _),(19,.eq _),(22,.eq _)]) (fun s=>s.2-s.1) (s0,r0) ?_ tQ ?_))))))
    ·exact⟨⟨Nat.le_refl _,by show s0≤r0;omega,Nat.le_refl _⟩,.inl rfl,.inl rfl,hS⟩
    rintro⟨s,r⟩ w10 ⟨hq,hs,hr,hS⟩
    dsimp only at hq hs hr hS
    change CW _ _ _ _ _ _ _ ([(20,.eq (vi (s:Int))),(21,.eq (vi (r:Int)))]++_) _
    refine Ah (Af (I rfl (I rfl (U (.l2 rfl rfl) (Ai (CW.b rfl (fun h151=>?_) (fun h151=>?_)))))))
    ·replace h151:=dQ h151
     refine Aj (Ac (Ae (Af (I rfl (I rfl (U (.addN (.t rfl) (.t rfl) oQ) (U (.val (v':=vu (s+r)) (PEv.conv (k':=.u64) (by rw[underlying3];rfl) underlying136 (.t rfl)) (Qn oQ)) (U (.val (v':=vu ((s+r)/2)) (PEv.Pr (j:=1) (.t rfl) (.const _)) N1) (U (.val (v':=vi (((s+r)/2:Nat):Int)) (PEv.conv (k':=.i64) (by rw[underlying136];rfl) underlying3 (.t rfl)) (Qo oQ)) (LW.A rfl (Am ?_)))))))))))
     have hlt:s<r:=by simp at h151;omega
     obtain⟨u,hu_⟩:=Aq (xs:=xs) (i:=mid+mm-1-(s+r)/2) oQ
     obtain⟨v,hv_⟩:=Aq (xs:=xs) (i:=(s+r)/2) oQ
     refine Ea kQ kQ rfl rfl (Au (.mv rfl) (Au (.mv rfl) (Au (.mv rfl) (Au (.mv rfl) (Au (.M0 (.t rfl) (.t rfl) oQ oQ) (Au (.indexAddr underlying26 sizeOf74 (.t rfl) (.t rfl) oQ) (Au (.lc rfl ((hS.own 0 rfl).at (fun _=>rfl) hu_)) (Au (.mv rfl) (Au (.mv rfl) (Au (.indexAddr underlying26 sizeOf74 (.t rfl) (.t rfl) oQ) (Au (.lc rfl ((hS.own 0 rfl).at (fun _=>rfl) hv_)) (HW.c (fun a w _ ha=>Cc (.t rfl) (.ct rfl (.cu rfl)) (hen) a ha) rfl rfl (fun w hu=>hcmp w (hS.fr.trans (hu.fr _)) u v) (Au (.lss (.t rfl) (.const _)) (Au (.n1 rfl) (HW.nil ?_)))))))))))))))
     intro w11 uw11
     replace hS:=hS.up uw11
     refine Ac (CW.b rfl (fun h171=>?_) (fun h171=>?_))
     ·replace h171:=dQ h171
      refine Aa (I rfl (U (.ic rfl oQ) (LW.A rfl (LW.nil (Ad (Ar ?_))))))
      exact⟨((s+r)/2+1,r),⟨⟨by show s0≤(s+r)/2+1;omega,by show(s+r)/2+1≤r;omega,by show r≤r0;omega⟩,.inr ⟨u,v,by show xs[mid+mm-((s+r)/2+1)]?=some u;rw[show mid+mm-((s+r)/2+1)=mid+mm-1-(s+r)/2 by omega];exact hu_,hv_,by rw[←Hc];simpa using h171⟩,hr,hS⟩,tQ,by omega⟩
     replace h171:=dQ h171
     refine Aa (I rfl (LW.A rfl (LW.nil (Ad (Ar ?_)))))
     exact⟨(s,(s+r)/2),⟨⟨by show s0≤s;omega,by show s≤(s+r)/2;omega,by show(s+r)/2≤r0;omega⟩,hs,.inr ⟨u,v,hu_,hv_,by rw[←Hc];simpa using h171⟩,hS⟩,tQ,by omega⟩
    replace h151:=dQ h151
    refine A4 (Ab (Ab (An (Ac (Ah ?_)))))
    have hsr2:s=r:=by simp at h151;omega
    obtain⟨e,he⟩:∃e,e=mid+mm-s:=⟨_,rfl⟩
    have hsm:s≤mm:=by omega
    have hme:mm≤e:=by omega
    have has:a≤s:=by omega
    have heb:e≤b:=by omega
    have hmd:mid=s+(e-mm):=by omega
    have hrl:(Iy xs s mm e).length=m:=by rw[E8 hsm hme (by omega)];exact hxl
    refine Aa (I rfl (I rfl (U (.val (v':=vi (e:Int)) (PEv.M0 (.t rfl) (.t rfl) oQ oQ) (by rw[he])) (LW.A rfl (Ai (Mq (fun a1 W=>Ag 220 [] ([(0,.eq (.slice (some ⟨g,0,none⟩) m cp)),(1,.eq (vi (a:Int))),(3,.eq (vi (b:Int))),(4,.eq (.func (.func cf) #[] lb)),(18,.eq (vi (mid:Int))),(20,.eq (vi (s:Int))),(24,.eq (vi (e:Int)))]) a1 W∧Wx.Sep (J (tN TY0) 19 Fact.cells (.slice (some ⟨g,0,none⟩) m cp) (xs)).foot w0 W [J (tN TY0) 19 Fact.cells (.slice (some ⟨g,0,none⟩) m cp) (Iy xs s mm e)]) ?_ ?_))))))
    ·skip
     refine Af (I rfl (I rfl (U (.l2 rfl rfl) (I rfl (Ey rfl rfl (Ey rfl rfl (LW.gr rfl (fun hc=>PEv.lss vQ vQ) (U (.pa rfl (fun hp=>.cond rfl (by rw[hp];rfl))) (Ai (CW.b rfl (fun h185=>?_) (fun h185=>?_)))))))))))
     ·refine Aa (I rfl (I rfl (I rfl (I rfl (I rfl (A6 (eC (.ct rfl (.ct rfl (.ct rfl (.ct rfl (.cu rfl))))) (mP)) rfl (M5 s mm e _ g m cp xs _ (hS.own 0 rfl) h63 (by have:=L3 h185;omega) (by have:=L3 h185;omega) oQ) ?_))))))
      rintro _ w12 ⟨rfl,uw12⟩
      replace hS:=hS.Dw 0 rfl uw12
      change Wx.Sep _ _ _ [_]at hS
      refine LW.nil ?_
      exact fun a ha=>⟨ha.sub tQ,(by exact hS)⟩
     refine Aj ?_
     exact fun a ha=>⟨ha.sub tQ,(by(rw[nX (bU h185) hsm hme (by omega)];exact hS))⟩
    rintro a1 w13 ⟨ha,hS⟩
    revert a1
    show CW none _ _ _ _ _ _ _ _
    refine Mq (fun a1 W=>Ag 220 [] ([(0,.eq (.slice (some ⟨g,0,none⟩) m cp)),(3,.eq (vi (b:Int))),(4,.eq (.func (.func cf) #[] lb)),(18,.eq (vi (mid:Int))),(24,.eq (vi (e:Int)))]) a1 W∧∃X,StS key (Cz (Iy xs s mm e) a mid) X∧Wx.Sep (J (tN TY0) 19 Fact.cells (.slice (some ⟨g,0,none⟩) m cp) (xs)).foot w0 W [J (tN TY0) 19 Fact.cells (.slice (some ⟨g,0,none⟩) m cp) (Ex (Iy xs s mm e) a mid X)]) ?_ ?_
    ·skip
     refine Af (I rfl (I rfl (U (.l2 rfl rfl) (I rfl (Ey rfl rfl (Ey rfl rfl (LW.gr rfl (fun hc=>PEv.lss vQ vQ) (U (.pa rfl (fun hp=>.cond rfl (by rw[hp];rfl))) (Ai (CW.b rfl (fun h199=>?_) (fun h199=>?_)))))))))))
     ·refine Aa (I rfl (I rfl (I rfl (I rfl (I rfl (A6 (eC (.ct rfl (.ct rfl (.ct rfl (.ct rfl (.cu rfl))))) (Rc)) rfl (ih a s mid (Iy xs s mm e) _ oQ (hS.own 0 rfl) (fun W hF x y=>hcmp W (hS.fr.trans hF) x y) (by have:=L3 h199;omega) (by have:=L3 h199;omega) oQ (fZ hsA hsB oQ oQ oQ oQ oQ).1 (fZ hsA hsB oQ oQ oQ oQ oQ).2) ?_))))))
      rintro _ w14 ⟨rfl,X,hX,uw14⟩
      replace hS:=hS.Dw 0 rfl uw14
      change Wx.Sep _ _ _ [_]at hS
      refine LW.nil ?_
      exact fun a ha=>⟨ha.sub tQ,(by exact⟨X,hX,hS⟩)⟩
     refine Aj ?_
     exact fun a ha=>⟨ha.sub tQ,(by exact⟨_,StS.refl (jK hsA hsB has hsm hme heb oQ hmd (bU h199)),by rw[Gw oQ (by omega)];exact hS⟩)⟩
    rintro a1 w15 ⟨ha,X,hX,hS⟩
    revert a1
    show CW none _ _ _ _ _ _ _ _
    refine Ah ?_
    have hXl:X.length=mid-a:=by rw[hX.same.length,Cd (by omega)]
    have hrl2:(Ex (Iy xs s mm e) a mid X).length=m:=by rw[Dl oQ oQ hXl];exact hrl
    refine Aa (I rfl (I rfl (U (.l2 rfl rfl) (I rfl (Ey rfl rfl (Ey rfl rfl (LW.gr rfl (fun hc=>PEv.lss vQ vQ) (U (.pa rfl (fun hp=>.cond rfl (by rw[hp];rfl))) (Ai (CW.b rfl (fun h213=>?_) (fun h213=>?_)))))))))))
    ·refine Aa (I rfl (I rfl (I rfl (I rfl (I rfl (A6 (eC (.ct rfl (.ct rfl (.ct rfl (.ct rfl (.cu rfl))))) (Rc)) rfl (ih mid e b (Ex (Iy xs s mm e) a mid X) _ oQ (hS.own 0 rfl) (fun W hF x y=>hcmp W (hS.fr.trans hF) x y) (by have:=L3 h213;omega) (by have:=L3 h213;omega) oQ (gA hsA hsB oQ oQ oQ oQ oQ oQ hXl).1 (gA hsA hsB oQ oQ oQ oQ oQ oQ hXl).2) ?_))))))
     rintro _ w16 ⟨rfl,Y,hY,uw16⟩
     replace hS:=hS.Dw 0 rfl uw16
     change Wx.Sep _ _ _ [_]at hS
     refine LW.nil (Dg rfl ⟨_,rfl,?_⟩)
     obtain⟨Y,hY,hS2⟩:∃Y,StS key (Cz (Ex (Iy xs s mm e) a mid X) mid b) Y∧Wx.Sep (J (tN TY0) 19 Fact.cells (.slice (some ⟨g,0,none⟩) m cp) (xs)).foot w0 w16 [J (tN TY0) 19 Fact.cells (.slice (some ⟨g,0,none⟩) m cp) (Ex (Ex (Iy xs s mm e) a mid X) mid b Y)]:=by exact⟨Y,hY,hS⟩
     have hd:=Yh has hsm hme heb oQ hmd hsA hsB (nU hsA hsB hsm hme oQ (hs.elim (fun h=>hsr.elim (fun q=>.inr (.inl oQ)) (fun q=>.inl oQ)) (fun⟨u,v,e1,e2,e3⟩=>.inr (.inr ⟨u,v,by rw[he];exact e1,e2,e3⟩)))) (nV hsA hsB has heb oQ oQ (hr.elim (fun h=>hsr.elim (fun q=>.inr (.inl oQ)) (fun q=>.inl oQ)) (fun⟨u,v,e1,e2,e3⟩=>.inr (.inr ⟨u,v,by rw[he,hsr2,show mid+mm-r-1=mid+mm-1-r by omega];exact e1,by rw[hsr2];exact e2,e3⟩)))) hX hY
     rw[hd.2]at hS2
     exact⟨rfl,X++Y,hd.1,⟨hS2.fr,hS2.get 0 rfl,fun _ h=>.inl h⟩⟩
    refine Aj (Dg rfl ⟨_,rfl,?_⟩)
    obtain⟨Y,hY,hS2⟩:∃Y,StS key (Cz (Ex (Iy xs s mm e) a mid X) mid b) Y∧Wx.Sep (J (tN TY0) 19 Fact.cells (.slice (some ⟨g,0,none⟩) m cp) (xs)).foot w0 w15 [J (tN TY0) 19 Fact.cells (.slice (some ⟨g,0,none⟩) m cp) (Ex (Ex (Iy xs s mm e) a mid X) mid b Y)]:=by exact⟨_,StS.refl (jL hsA hsB has hsm hme heb oQ hmd hXl (bU h213)),by rw[Gw oQ (by omega)];exact hS⟩
    have hd:=Yh has hsm hme heb oQ hmd hsA hsB (nU hsA hsB hsm hme oQ (hs.elim (fun h=>hsr.elim (fun q=>.inr (.inl oQ)) (fun q=>.inl oQ)) (fun⟨u,v,e1,e2,e3⟩=>.inr (.inr ⟨u,v,by rw[he];exact e1,e2,e3⟩)))) (nV hsA hsB has heb oQ oQ (hr.elim (fun h=>hsr.elim (fun q=>.inr (.inl oQ)) (fun q=>.inl oQ)) (fun⟨u,v,e1,e2,e3⟩=>.inr (.inr ⟨u,v,by rw[he,hsr2,show mid+mm-r-1=mid+mm-1-r by omega];exact e1,by rw[hsr2];exact e2,e3⟩)))) hX hY
    rw[hd.2]at hS2
    exact⟨rfl,X++Y,hd.1,⟨hS2.fr,hS2.get 0 rfl,fun _ h=>.inl h⟩⟩
set_option maxHeartbeats 4000000 in
theorem M6(v:Bool)(cf:Nat)(lb:Array Go.Value)(key:Fact→K2)(hen:∀args w,(callFunc cf args).run Tryz.prog w=.ok (.enter cf args) w)(g m cp:Nat)(xs:List Fact)(w:World)(ho:OwnS w 0 (bif v then 74 else 283) 19 Fact.cells (.slice (some ⟨g,0,none⟩) m cp) xs)(h63:m≤1000000000)(hcmp:∀W,Fr (J (bif v then 74 else 283) 19 Fact.cells (.slice (some ⟨g,0,none⟩) m cp) (xs)).foot w W→∀x y,Ret Tryz.prog cf (#[.agg (Fact.cells x),.agg (Fact.cells y)]++lb) W fun r W'=>r=vi (Yj (key x) (key y))∧Up W W'):Ret Tryz.prog (bif v then 163 else 234) #[.slice (some ⟨g,0,none⟩) m cp,vi (m:Int),.func (.func cf) #[] lb] w fun r w'=>r=.tuple #[]∧∃zs,StS key xs zs∧Stp (J (bif v then 74 else 283) 19 Fact.cells (.slice (some ⟨g,0,none⟩) m cp) (xs)) (J (bif v then 74 else 283) 19 Fact.cells (.slice (some ⟨g,0,none⟩) m cp) (zs)) w w':=by
 have TY0:TN (bif v then 74 else 283):=⟨⟩
 have Um:=Ym v
 have Rc:=Yn v
 have func163:=R1 v
 have G7:=@G7 v
 have Hy:=@Hy v
 cases v<;>dsimp only[cond]at*
 all_goals
  obtain⟨w0,rfl,_⟩:=W0 w
  have hxl:=ho.len
  have hS:Wx.Sep (J (tN TY0) 19 Fact.cells (.slice (some ⟨g,0,none⟩) m cp) (xs)).foot w0 w0 [J (tN TY0) 19 Fact.cells (.slice (some ⟨g,0,none⟩) m cp) (xs)]:=Sep.cons ho (fun _ h=>h) (Sep.start _ _) (by simp)
  refine cT 63 func163 rfl (Af (U (.val (v':=vi ((20:Nat):Int)) (PEv.assign (.const _)) rfl) (Am (Aa (I rfl (Az (LW.A rfl (Am (Ae (A3 (σ:=Nat×List Fact) (fun s w=>(s.1≤m)∧(s.2.length=m)∧(Ins key s.2 20 s.1)∧(sameF key xs s.2)∧(Wx.Sep (J (tN TY0) 19 Fact.cells (.slice (some ⟨g,0,none⟩) m cp) (xs)).foot w0 w [J (tN TY0) 19 Fact.cells (.slice (some ⟨g,0,none⟩) m cp) (s.2)])) (fun s=>[(7,.eq (vi (s.1:Int))),(8,.eq (vi ((s.1+20:Nat):Int)))]) ([(0,.eq _),(1,.eq _),(2,.eq _),(6,.eq _)]) (fun s=>m-s.1) (0,xs) ?_ tQ ?_))))))))))
  ·exact⟨Nat.zero_le _,hxl,Ins.zero xs 20 cQ,sameF.refl xs,hS⟩
  rintro⟨a,ys⟩ w1 ⟨ha,hyl,hI,hsf,hS⟩
  dsimp only at ha hyl hI hsf hS
  change CW _ _ _ _ _ _ _ ([(7,.eq (vi (a:Int))),(8,.eq (vi ((a+20:Nat):Int)))]++_) _
  refine Ah (Af (I rfl (I rfl (U (.leq (.t rfl) (.t rfl)) (Ai (CW.b rfl (fun h13=>?_) (fun h13=>?_)))))))
  ·refine Aj (Ac (Ae (Ah ?_)))
   have hal:a+20≤m:=by simp at h13;omega
   refine Aa (I rfl (I rfl (I rfl (I rfl (A6 (eC (.ct rfl (.ct rfl (.ct rfl (.cu rfl)))) (Um)) rfl (G7 a (a+20) cf lb key hen g m cp ys _ (hS.own 0 rfl) h63 (fun W hF x y=>hcmp W (hS.fr.trans hF) x y) oQ oQ) ?_)))))
   rintro _ w2 ⟨rfl,zs,hz,uw2⟩
   replace hS:=hS.Dw 0 rfl uw2
   refine Am (Aa (I rfl (LW.A rfl (Ai (Aa (I rfl (I rfl (U (.addN (.t rfl) (.t rfl) oQ) (LW.A rfl (LW.nil (Ad (Ar ?_))))))))))))
   exact⟨(a+20,Ex ys a (a+20) zs),⟨by show a+20≤m;omega,by show(Ex ys a (a+20) zs).length=m;rw[Dl oQ oQ (by rw[hz.same.length,Cd (by omega)])];exact hyl,hI.step cQ oQ hz,hsf.step oQ oQ hz,hS⟩,tQ,by show m-(a+20)<m-a;omega⟩
  refine A4 (Ab (Ab (An (Ac (Ah ?_)))))
  have hal:m<a+20:=by simp at h13;omega
  refine Aa (I rfl (I rfl (I rfl (I rfl (A6 (eC (.ct rfl (.ct rfl (.ct rfl (.cu rfl)))) (Um)) rfl (G7 a m cf lb key hen g m cp ys _ (hS.own 0 rfl) h63 (fun W hF x y=>hcmp W (hS.fr.trans hF) x y) oQ oQ) ?_)))))
  rintro _ w3 ⟨rfl,zs,hz,uw3⟩
  replace hS:=hS.Dw 0 rfl uw3
  refine Ai (Ae (A3 (σ:=Nat×List Fact) (fun s w=>(0<s.1)∧(s.2.length=m)∧(Bks key s.2 s.1)∧(sameF key xs s.2)∧(Wx.Sep (J (tN TY0) 19 Fact.cells (.slice (some ⟨g,0,none⟩) m cp) (xs)).foot w0 w [J (tN TY0) 19 Fact.cells (.slice (some ⟨g,0,none⟩) m cp) (s.2)])) (fun s=>[(6,.eq (vi (s.1:Int)))]) ([(0,.eq _),(1,.eq _),(2,.eq _)]) (fun s=>m-s.1) (20,Ex ys a m zs) ?_ tQ ?_))
  ·exact⟨by show 0<20;omega,by show(Ex ys a m zs).length=m;rw[Dl oQ oQ (by rw[hz.same.length,Cd (by omega)])];exact hyl,by have:=hI.last (zs:=zs) oQ oQ (by rw[hyl];exact hz);rw[hyl]at this;exact this,hsf.step oQ oQ hz,hS⟩
  rintro⟨B,ys⟩ w4 ⟨hB,hyl,hI,hsf,hS⟩
  dsimp only at hB hyl hI hsf hS
  change CW _ _ _ _ _ _ _ ([(6,.eq (vi (B:Int)))]++_) _
  refine Ah (Af (I rfl (I rfl (U (.l2 rfl rfl) (Ai (CW.b rfl (fun h30=>?_) (fun h30=>?_)))))))
  ·refine Aj (Ac (Ae (Ah ?_)))
   have hBm:B<m:=by simp at h30;omega
   refine Aa (I rfl (U (.val (v':=vi ((2*B:Nat):Int)) (Jj (.const _) (.t rfl)) (R0 oQ)) (Az (LW.A rfl (Am (Ae (A3 (σ:=Nat×List Fact) (fun s w=>(s.1≤m)∧(s.2.length=m)∧(Mrg key s.2 B s.1)∧(sameF key xs s.2)∧(Wx.Sep (J (tN TY0) 19 Fact.cells (.slice (some ⟨g,0,none⟩) m cp) (xs)).foot w0 w [J (tN TY0) 19 Fact.cells (.slice (some ⟨g,0,none⟩) m cp) (s.2)])) (fun s=>[(7,.eq (vi (s.1:Int))),(8,.eq (vi ((2*B+s.1:Nat):Int)))]) ([(0,.eq _),(1,.eq _),(2,.eq _),(6,.eq _)]) (fun s=>m-s.1) (0,ys) ?_ tQ ?_)))))))
   ·exact⟨Nat.zero_le _,hyl,Mrg.start hB hI,hsf,hS⟩
   rintro⟨a,ys⟩ w5 ⟨ha,hyl,hM,hsf,hS⟩
   dsimp only at ha hyl hM hsf hS
   change CW _ _ _ _ _ _ _ ([(7,.eq (vi (a:Int))),(8,.eq (vi ((2*B+a:Nat):Int)))]++_) _
   refine Ah (Af (I rfl (I rfl (U (.leq (.t rfl) (.t rfl)) (Ai (CW.b rfl (fun h35=>?_) (fun h35=>?_)))))))
   ·refine Aj (Ac (Ae (Ah ?_)))
    have hal:2*B+a≤m:=by simp at h35;omega
    refine Aa (I rfl (I rfl (I rfl (I rfl (U (.addN (.t rfl) (.t rfl) oQ) (I rfl (I rfl (A6 (eC (.ct rfl (.ct rfl (.ct rfl (.ct rfl (.cu rfl))))) (Rc)) rfl (Hy cf lb key hen g m cp h63 m a (a+B) (2*B+a) ys _ oQ (hS.own 0 rfl) (fun W hF x y=>hcmp W (hS.fr.trans hF) x y) oQ oQ oQ (hM.pre oQ).1 (hM.pre oQ).2) ?_))))))))
    rintro _ w6 ⟨rfl,zs,hz,uw6⟩
    replace hS:=hS.Dw 0 rfl uw6
    refine Am (Aa (I rfl (LW.A rfl (Ai (Aa (I rfl (I rfl (U (.val (v':=vi ((2*B:Nat):Int)) (Jj (.const _) (.t rfl)) (R0 oQ)) (U (.val (v':=vi ((2*B+(2*B+a):Nat):Int)) (PEv.addN (.t rfl) (.t rfl) oQ) (yP oQ)) (LW.A rfl (LW.nil (Ad (Ar ?_)))))))))))))
    exact⟨(2*B+a,Ex ys a (2*B+a) zs),⟨by show 2*B+a≤m;omega,by show(Ex ys a (2*B+a) zs).length=m;rw[Dl oQ oQ (by rw[hz.same.length,Cd (by omega)])];exact hyl,hM.step hB oQ hz,hsf.step oQ oQ hz,hS⟩,tQ,by show m-(2*B+a)<m-a;omega⟩
   refine A4 (Ab (Ab (An (Ac (Ah (Ah ?_))))))
   have hal:m<2*B+a:=by simp at h35;omega
   refine Aa (I rfl (I rfl (U (.addN (.t rfl) (.t rfl) oQ) (LW.A rfl (Am (Aa (I rfl (I rfl (U (.l2 rfl rfl) (Ai (CW.b rfl (fun h54=>?_) (fun h54=>?_))))))))))))
   ·have ham:a+B<m:=by simp at h54;omega
    refine Aa (I rfl (I rfl (I rfl (I rfl (I rfl (A6 (eC (.ct rfl (.ct rfl (.ct rfl (.ct rfl (.cu rfl))))) (Rc)) rfl (Hy cf lb key hen g m cp h63 m a (a+B) m ys _ oQ (hS.own 0 rfl) (fun W hF x y=>hcmp W (hS.fr.trans hF) x y) oQ oQ (Nat.le_refl _) (hM.FA oQ oQ).1 (by have:=(hM.FA oQ oQ).2;rw[hyl]at this;exact this)) ?_))))))
    rintro _ w7 ⟨rfl,zs,hz,uw7⟩
    replace hS:=hS.Dw 0 rfl uw7
    refine Ai (Aa (I rfl (U (.val (v':=vi ((2*B:Nat):Int)) (Jj (.t rfl) (.const _)) (U0 oQ)) (LW.A rfl (LW.nil (Ad (Ar ?_)))))))
    exact⟨(2*B,Ex ys a m zs),⟨by show 0<2*B;omega,by show(Ex ys a m zs).length=m;rw[Dl oQ oQ (by rw[hz.same.length,Cd (by omega)])];exact hyl,by have:=hM.last (zs:=zs) oQ oQ (by rw[hyl];exact hz);rw[hyl]at this;exact this,hsf.step oQ oQ hz,hS⟩,tQ,by show m-2*B<m-B;omega⟩
   have ham:¬a+B<m:=by simp at h54;omega
   refine Aj (Ac (Aa (I rfl (U (.val (v':=vi ((2*B:Nat):Int)) (Jj (.t rfl) (.const _)) (U0 oQ)) (LW.A rfl (LW.nil (Ad (Ar ?_))))))))
   exact⟨(2*B,ys),⟨by show 0<2*B;omega,hyl,hM.done oQ oQ oQ,hsf,hS⟩,tQ,by show m-2*B<m-B;omega⟩
  refine A4 (Ab (Ab (An (Dg rfl ⟨_,rfl,?_⟩))))
  exact⟨rfl,ys,hI.all (by simp at h30;omega) hsf,⟨hS.fr,hS.get 0 rfl,fun _ h=>.inl h⟩⟩
set_option maxHeartbeats 600000 in
theorem K7(v:Bool)(cf:Nat)(lb:Array Go.Value)(key:Fact→K2)(hen:∀args w,(callFunc cf args).run Tryz.prog w=.ok (.enter cf args) w)(g m cp:Nat)(xs:List Fact)(w:World)(ho:OwnS w 0 (bif v then 74 else 283) 19 Fact.cells (.slice (some ⟨g,0,none⟩) m cp) xs)(h63:m≤1000000000)(hcmp:∀W,Fr (J (bif v then 74 else 283) 19 Fact.cells (.slice (some ⟨g,0,none⟩) m cp) (xs)).foot w W→∀x y,Ret Tryz.prog cf (#[.agg (Fact.cells x),.agg (Fact.cells y)]++lb) W fun r W'=>r=vi (Yj (key x) (key y))∧Up W W'):Ret Tryz.prog (bif v then 82 else 206) #[.slice (some ⟨g,0,none⟩) m cp,.func (.func cf) #[] lb] w fun r w'=>r=.tuple #[]∧∃zs,StS key xs zs∧Stp (J (bif v then 74 else 283) 19 Fact.cells (.slice (some ⟨g,0,none⟩) m cp) (xs)) (J (bif v then 74 else 283) 19 Fact.cells (.slice (some ⟨g,0,none⟩) m cp) (zs)) w w':=by
 have TY0:TN (bif v then 74 else 283):=⟨⟩
 have Xq:=Yl v
 have func82:=U2 v
 have underlying26:=Fe v
 have M6:=@M6 v
 cases v<;>dsimp only[cond]at*
 all_goals
  obtain⟨w0,rfl,_⟩:=W0 w
  have hS:Wx.Sep (J (tN TY0) 19 Fact.cells (.slice (some ⟨g,0,none⟩) m cp) (xs)).foot w0 w0 [J (tN TY0) 19 Fact.cells (.slice (some ⟨g,0,none⟩) m cp) (xs)]:=Sep.cons ho (fun _ h=>h) (Sep.start _ _) (by simp)
  refine cT 9 func82 rfl (Aa (I rfl (I rfl (U (.Cw underlying26 (.t rfl)) (I rfl (A6 (eC (.ct rfl (.ct rfl (.cu rfl))) (Xq)) rfl (M6 cf lb key hen g m cp xs _ (hS.own 0 rfl) h63 (fun W hF x y=>hcmp W (hS.fr.trans hF) x y)) ?_))))))
  rintro _ w1 ⟨rfl,zs,hz,uw1⟩
  replace hS:=hS.Dw 0 rfl uw1
  refine LW.nil (Dg rfl ⟨_,rfl,?_⟩)
  exact⟨rfl,zs,hz,⟨hS.fr,hS.get 0 rfl,fun _ h=>.inl h⟩⟩
set_option maxHeartbeats 600000 in
theorem Jg(v:Bool)(fv:Go.Value)(w:World):Ret Tryz.prog (bif v then 202 else 245) #[.slice none 0 0,vi 0,vi 0,fv] w fun r w'=>r=.tuple #[]∧Up w w':=by
 have func202:=R3 v
 cases v<;>dsimp only[cond]at*
 all_goals
  have hW:=Up.refl w
  obtain⟨w0,rfl,_⟩:=W0 w
  refine cT 53 func202 rfl (Af (I rfl (U (.val (v':=vi 1) (PEv.add (.t rfl) (.const _) oQ oQ) rfl) (LW.A rfl (Ai (Ae (A3 (σ:=Unit) (fun s w=>(True)∧(Up w0 w)) (fun s=>[(8,.eq (vi 1))]) ([(0,.eq _),(1,.eq _),(2,.eq _),(3,.eq _)]) (fun s=>0) () ?_ tQ ?_)))))))
  ·exact⟨trivial,hW⟩
  rintro _ w1 ⟨ht,hW⟩
  refine Ah (Af (I rfl (I rfl (U (.fa (PEv.l2 rfl rfl) cQ) (Ai (CW.f rfl (A4 (Ab (Ab (An (Dg rfl ⟨_,rfl,?_⟩)))))))))))
  exact⟨rfl,hW⟩
set_option maxHeartbeats 600000 in
theorem M7(v:Bool)(fv:Go.Value)(w:World):Ret Tryz.prog (bif v then 163 else 234) #[.slice none 0 0,vi 0,fv] w fun r w'=>r=.tuple #[]∧Up w w':=by
 have Um:=Ym v
 have func163:=R1 v
 have Jg:=@Jg v
 cases v<;>dsimp only[cond]at*
 all_goals
  have hW:=Up.refl w
  obtain⟨w0,rfl,_⟩:=W0 w
  refine cT 63 func163 rfl (Af (Az (Am (Aa (I rfl (Az (LW.A rfl (Am (Ae (A3 (σ:=Unit) (fun s w=>(True)∧(Up w0 w)) (fun s=>[(7,.eq (vi 0)),(8,.eq (vi 20))]) ([(0,.eq _),(1,.eq _),(2,.eq _),(6,.eq _)]) (fun s=>0) () ?_ tQ ?_))))))))))
  ·exact⟨trivial,hW⟩
  rintro _ w1 ⟨ht,hW⟩
  refine Ah (Af (I rfl (I rfl (U (.fa (PEv.leq (.t rfl) (.t rfl)) cQ) (Ai (CW.f rfl (A4 (Ab (Ab (An (Ac (Af (I rfl (I rfl (I rfl (I rfl (A6 (eC (.ct rfl (.ct rfl (.ct rfl (.cu rfl)))) (Um)) rfl (Jg _ _) ?_)))))))))))))))))
  rintro _ w2 ⟨rfl,uw2⟩
  replace hW:=hW.up uw2
  refine Ai (Ae (A3 (σ:=Unit) (fun s w=>(True)∧(Up w0 w)) (fun s=>[(6,.eq (vi 20))]) ([(0,.eq _),(1,.eq _),(2,.eq _)]) (fun s=>0) () ?_ tQ ?_))
  ·exact⟨trivial,hW⟩
  rintro _ w3 ⟨ht,hW⟩
  refine Ah (Af (I rfl (I rfl (U (.fa (PEv.l2 rfl rfl) cQ) (Ai (CW.f rfl (A4 (Ab (Ab (An (Dg rfl ⟨_,rfl,?_⟩)))))))))))
  exact⟨rfl,hW⟩
set_option maxHeartbeats 600000 in
theorem K8(v:Bool)(fv:Go.Value)(w:World):Ret Tryz.prog (bif v then 82 else 206) #[.slice none 0 0,fv] w fun r w'=>r=.tuple #[]∧Up w w':=by
 have Xq:=Yl v
 have func82:=U2 v
 have underlying26:=Fe v
 have M7:=@M7 v
 cases v<;>dsimp only[cond]at*
 all_goals
  have hW:=Up.refl w
  obtain⟨w0,rfl,_⟩:=W0 w
  refine cT 9 func82 rfl (Aa (I rfl (I rfl (U (.Cw underlying26 (.t rfl)) (I rfl (A6 (eC (.ct rfl (.ct rfl (.cu rfl))) (Xq)) rfl (M7 _ _) ?_))))))
  rintro _ w1 ⟨rfl,uw1⟩
  replace hW:=hW.up uw1
  refine LW.nil (Dg rfl ⟨_,rfl,?_⟩)
  exact⟨rfl,hW⟩
theorem bY(of:Nat)(w:World):Ret prog 24 #[.slice none 0 0,.func (.func of) #[] #[]] w fun r w'=>r=.tuple #[]∧Up w w':=by
 have hW:=Up.refl w
 obtain⟨w0,rfl,_⟩:=W0 w
 refine cT 7 func24 rfl (Af (Ao (.Km (.t rfl) rfl) rfl ?_))
 rintro _ w1 ⟨B3,rfl,NB3⟩
 replace hW:=hW.up NB3.up
 have hB3:=NB3.blk
 refine Ai (Aa (I rfl (U (.makeFunc (.cu rfl)) (A6 (eC (.u rfl rfl) (BM)) rfl (K8 true _ _) ?_))))
 rintro _ w2 ⟨rfl,uw2⟩
 replace hW:=hW.up uw2
 replace hB3:=hB3.up uw2
 refine LW.nil (Dg rfl ⟨_,rfl,?_⟩)
 exact⟨rfl,hW⟩
theorem Yo(of:Nat)(key:Fact→K2)(hen:∀args w,(callFunc of args).run Tryz.prog w=.ok (.enter of args) w)(hord:∀W x,Ret Tryz.prog of #[.agg x.cells] W fun r W'=>r=.agg #[vi (key x).1,vi (key x).2]∧Up W W')(g m cp:Nat)(xs:List Fact)(w:World)(ho:OwnS w 0 74 19 Fact.cells (.slice (some ⟨g,0,none⟩) m cp) xs)(h63:m≤1000000000):Ret prog 24 #[.slice (some ⟨g,0,none⟩) m cp,.func (.func of) #[] #[]] w fun r w'=>r=.tuple #[]∧Stp (J 74 19 Fact.cells (.slice (some ⟨g,0,none⟩) m cp) (xs)) (J 74 19 Fact.cells (.slice (some ⟨g,0,none⟩) m cp) (I8 key xs)) w w':=by
 obtain⟨w0,rfl,_⟩:=W0 w
 have hS:Wx.Sep (J 74 19 Fact.cells (.slice (some ⟨g,0,none⟩) m cp) (xs)).foot w0 w0 [J 74 19 Fact.cells (.slice (some ⟨g,0,none⟩) m cp) (xs)]:=Sep.cons ho (fun _ h=>h) (Sep.start _ _) (by simp)
 refine cT 7 func24 rfl (Af (Ao (.Km (.t rfl) rfl) rfl ?_))
 rintro _ w1 ⟨B3,rfl,NB3⟩
 have eB3:=NB3.at_
 have zB3:=NB3.size
 replace hS:=hS.Cg NB3
 refine Ai ?_
 have hB3:=NB3.blk
 have hg:=ho.lt g rfl
 replace hS:Wx.Sep (J 74 19 Fact.cells (.slice (some ⟨g,0,none⟩) m cp) (xs)).foot w0 w1 [J 74 19 Fact.cells (.slice (some ⟨g,0,none⟩) m cp) (xs)]:=hS.take 1
 refine Aa (I rfl (U (.makeFunc (.cu rfl)) (A6 (eC (.u rfl rfl) (BM)) rfl (K7 true 83 #[.pointer (some ⟨B3,0,none⟩)] key IA g m cp xs _ (hS.own 0 rfl) h63 (fun W hF x y=>jN of key hen hord x y B3 W (hB3.fr hF (fun(e:some g=some B3)=>by cases e;omega)))) ?_)))
 rintro _ w2 ⟨rfl,zs,hz,uw2⟩
 replace hS:=hS.Dw 0 rfl uw2
 refine LW.nil (Dg rfl ⟨_,rfl,?_⟩)
 rw[hz.eq]at hS
 exact⟨rfl,⟨hS.fr,hS.get 0 rfl,fun _ h=>.inl h⟩⟩
theorem J9(of:Nat)(key:Fact→K2)(hen:∀args w,(callFunc of args).run Tryz.prog w=.ok (.enter of args) w)(hord:∀W x,Ret Tryz.prog of #[.agg x.cells] W fun r W'=>r=.agg #[vi (key x).1,vi (key x).2]∧Up W W')(v:Go.Value)(xs:List Fact)(w:World)(ho:OwnS w 0 74 19 Fact.cells v xs)(h63:xs.length≤1000000000):Ret prog 24 #[v,.func (.func of) #[] #[]] w fun r w'=>r=.tuple #[]∧Stp (J 74 19 Fact.cells v xs) (J 74 19 Fact.cells v (I8 key xs)) w w':=by
 have h0:=ho
 obtain⟨_,⟨rfl,hn⟩|⟨g,cap,cur,rfl,_⟩⟩:=h0
 · have hx:xs=[]:=List.eq_nil_of_length_eq_zero hn
   subst hx
   exact(bY of w).mono fun r w'⟨e,u⟩=>⟨e,(Stp.refl ho).up u⟩
 exact Yo of key hen hord g xs.length cap xs w ho h63
namespace Gs
end Gs
end Go.Proofs.YtdilcdgjklimoaaGreatDoor
namespace Go.Wx
open Go.RowKit
section
variable {P:Program}{n:Nat}{ds:List Deferred}{l:Env}{w:World}{d:Option Tmp}{ty:TypeId}{ps:String}{af:Array Edge}{g:Option (Nat×Bool)}
theorem PEv.Jo{T e k size:Nat}{z cs:Array Value}{xs:Array (Nat×Operand)}{vs:List (Nat×Value)}(hu:P.underlying T=some (.array k e))(hz:∀w,(zeroValue T).run P w=.ok (.agg z) w)(hs:∀w,(sizeOf e).run P w=.ok size w)
   (hv:Parts l xs.toList vs)(hf:Instr.fill (fun i=>some (i*size,size)) z vs=some cs):PEv P n ds l w ⟨d,.build T xs,ty,ps,af,g⟩ (.agg cs):=fun a w' ha _=>by
 refine Ci ?_
 have e:(xs.map fun(i,x)=>(i,a.eval x))=vs.toArray:=by apply Array.ext';rw[←hv.map ha];simp
 rw[e]
 simp only[Instr.build,Sem.run_bind,hz,Result.andThen,run_underlying hu,hs,Value.cells,hf]
 rfl
end
def P8(f:Int→Value)(i:Nat):List (Int×Value):=(List.range i).map fun j=>(((j+1:Nat):Int),f ((j+1:Nat):Int))
theorem K9{f:Int→Value}{i:Nat}{k:Int}{v:Value}:(k,v)∈P8 f i↔1≤k∧k≤i∧v=f k:=by
 unfold P8
 rw[List.mem_map]
 constructor
 · rintro⟨j,hj,e⟩
   have:=List.mem_range.1 hj
   cases e
   exact⟨by omega,by omega,rfl⟩
 rintro⟨h1,h2,rfl⟩
 refine⟨(k-1).toNat,List.mem_range.2 oQ,?_⟩
 have:(((k-1).toNat+1:Nat):Int)=k:=by omega
 rw[this]
theorem jO{f:Int→Value}{i:Nat}{k:Int}:k∈(P8 f i).map (·.1)↔1≤k∧k≤i:=by
 rw[List.mem_map]
 constructor
 · rintro⟨⟨k',v⟩,h,rfl⟩
   have:=K9.1 h
   exact⟨this.1,this.2.1⟩
 rintro⟨h1,h2⟩
 exact⟨(k,f k),K9.2 ⟨h1,h2,rfl⟩,rfl⟩
theorem E2(f:Int→Value)(i:Nat):D8 (P8 f i) ((i+1:Nat):Int) (f ((i+1:Nat):Int))=P8 f (i+1):=by
 rw[Rn (fun h=>by have:=jO.1 h;omega)]
 simp[P8,List.range_succ]
end Go.Wx
namespace Go.Wx.Ms
open Go.RowKit Go.MapKept Go.Wx
open Go.ChangeMaps (setBlock)
def vs(s:List UInt8):Value:=.string ⟨s.toArray⟩
def Hi(p:List UInt8×Value):Value×Value:=(vs p.1,p.2)
def IMap(w:World)(b:Nat)(kv:List (List UInt8×Value)):Prop:=
 ∃es clock,w.heap[b]?=some (.map es clock)∧Stamped es clock∧es.toList.map D9=kv.map Hi
theorem IMap.lt{w:World}{b:Nat}{kv:List (List UInt8×Value)}(h:IMap w b kv):b<w.heap.size:=let⟨_,_,h1,_⟩:=h;lt_of_block h1
theorem IMap.up{w w':World}{b:Nat}{kv:List (List UInt8×Value)}(h:IMap w b kv)(u:Up w w'):IMap w' b kv:=by
 have:=h.lt
 obtain⟨es,clock,h1,h2⟩:=h
 exact⟨es,clock,(u.block this).trans h1,h2⟩
theorem Fa{es:Array MapEntry}{kv:List (List UInt8×Value)}(h:es.toList.map D9=kv.map Hi):∀x∈es.toList,∃k,x.key=vs k∧(k,x.val)∈kv:=by
 intro x hx
 have h1:D9 x∈kv.map Hi:=by rw[←h];exact List.mem_map.2 ⟨x,hx,rfl⟩
 obtain⟨p,hp,he⟩:=List.mem_map.1 h1
 have e1:vs p.1=x.key:=congrArg Prod.fst he
 have e2:p.2=x.val:=congrArg Prod.snd he
 exact⟨p.1,e1.symm,by rw[←e2];exact hp⟩
theorem De{es:Array MapEntry}{kv:List (List UInt8×Value)}(h:es.toList.map D9=kv.map Hi){p:List UInt8×Value}(hp:p∈kv):∃x∈es.toList,x.key=vs p.1∧x.val=p.2:=by
 have h1:Hi p∈es.toList.map D9:=by rw[h];exact List.mem_map.2 ⟨p,hp,rfl⟩
 obtain⟨x,hx,he⟩:=List.mem_map.1 h1
 exact⟨x,hx,congrArg Prod.fst he,congrArg Prod.snd he⟩
theorem bZ{a b:List UInt8}(h:vs a=vs b):a=b:=by
 have h1:(⟨a.toArray⟩:ByteArray)=⟨b.toArray⟩:=by injection h
 have h2:a.toArray=b.toArray:=congrArg ByteArray.data h1
 simpa using h2
theorem E5{es:Array MapEntry}{clock:Nat}{kv:List (List UInt8×Value)}(hs:Stamped es clock)(h:es.toList.map D9=kv.map Hi):(kv.map (·.1)).Nodup:=by
 have h1:es.toList.map (·.key)=(kv.map (·.1)).map vs:=by
   have:=congrArg (List.map Prod.fst) h
   simpa[List.map_map,Function.comp_def,D9,Hi]using this
 have h2:=hs.2.2
 rw[h1]at h2
 exact List.Pairwise.of_map vs (fun a b hab e=>hab (by rw[e])) h2
def D8(kv:List (List UInt8×Value))(k:List UInt8)(v:Value):List (List UInt8×Value):=if k∈kv.map (·.1)then kv.map (fun p=>if p.1=k then(k,v)else p)else kv++[(k,v)]
theorem Gb{es:Array MapEntry}{clock:Nat}{kv:List (List UInt8×Value)}(hs:Stamped es clock)(h:es.toList.map D9=kv.map Hi){j:Nat}{e:MapEntry}{k:List UInt8}{v:Value}(hj:es[j]?=some e)(hk:e.key=vs k):
   (es.modify j fun e=>{ e with key:=vs k,val:=v }).toList.map D9=(D8 kv k v).map Hi:=by
 have hn:=E5 hs h
 have hat:∀i:Nat,(es.toList.map D9)[i]?=(kv.map Hi)[i]?:=fun i=>by rw[h]
 simp only[List.getElem?_map,Array.getElem?_toList]at hat
 have hkj:∃p,kv[j]?=some p∧p.1=k:=by
   have:=hat j
   rw[hj]at this
   cases hp:kv[j]? with
   |none=>rw[hp]at this;cases this
   |some p=>
     rw[hp]at this
     have h1:D9 e=Hi p:=by simpa using this
     have h2:e.key=vs p.1:=congrArg Prod.fst h1
     exact⟨p,rfl,bZ (h2.symm.trans hk)⟩
 obtain⟨p,hp,hpk⟩:=hkj
 have hmem:k∈kv.map (·.1):=List.mem_map.2 ⟨p,List.mem_of_getElem? hp,hpk⟩
 rw[D8,if_pos hmem]
 apply List.ext_getElem?
 intro i
 simp only[List.getElem?_map,Array.getElem?_toList,Array.getElem?_modify]
 by_cases hij:j=i
 · subst hij
   rw[if_pos rfl,hj,hp]
   simp[D9,Hi,hpk]
 rw[if_neg hij,hat i]
 cases hq:kv[i]? with
 |none=>rfl
 |some q=>
   have hne:q.1≠k:=fun e'=>by
     have h1:(kv.map (·.1))[i]?=some k:=by simp[hq,e']
     have h2:(kv.map (·.1))[j]?=some k:=by simp[hp,hpk]
     obtain⟨hi,h3⟩:=List.getElem?_eq_some_iff.1 h1
     obtain⟨hj',h4⟩:=List.getElem?_eq_some_iff.1 h2
     exact hij ((List.getElem_inj hn).1 (h4.trans h3.symm))
   simp[hne]
theorem Fv{es:Array MapEntry}{kv:List (List UInt8×Value)}(h:es.toList.map D9=kv.map Hi):∀x∈es.toList,IsKey .string x.key:=fun x hx=>by
 obtain⟨k,hk,_⟩:=Fa h x hx
 rw[hk];trivial
section
variable {P:Program}{n:Nat}{ds:List Deferred}{l:Env}{w:World}{d:Option Tmp}{ty:TypeId}{ps:String}{af:Array Edge}{g:Option (Nat×Bool)}
theorem SEv.mapUpdate{T K E:TypeId}{m x y:Operand}{b:Nat}{k:List UInt8}{v:Value}{kv:List (List UInt8×Value)}(hT:P.underlying T=some (.map K E))(hK:P.underlying K=some .string)(hm:Val l m (.map (some b)))(hx:Val l x (vs k))(hy:Val l y v)(h:IMap w b kv):
   SEv P n ds l w ⟨none,.mapUpdate T m x y,ty,ps,af,g⟩ (fun w'=>IMap w' b (D8 kv k v)∧Sto b w w'∧w'.heap.size=w.heap.size):=fun a ha=>by
 obtain⟨es,clock,hb,hs,he⟩:=h
 have hk:IsKey .string (vs k):=trivial
 have fin:∀o:Obj,Sto b w { w with heap:=w.heap.setIfInBounds b o }:=fun o=>⟨rfl,rfl,rfl,by simp,fun i _ hne=>(heap_set hb).2 i hne⟩
 rcases findNow_spec hk es.toList 0 (Fv he)with⟨h1,h2⟩|⟨j,e,h1,h2,h3⟩
 · refine⟨_,Kt (w':={ w with heap:=w.heap.setIfInBounds b (.map (es.push { key:=vs k,val:=v,born:=clock }) (clock+1)) }) ?_,⟨_,_,(heap_set hb).1,stamped_push hs h2,?_⟩,fin _,by simp⟩
   · rw[ha.ev hm,ha.ev hx,ha.ev hy]
     simp[Instr.mapUpdate,run_underlying hT,MapKept.run_getObj_map hb,MapKept.run_checkKey hK hk,MapKept.run_findKey hK h1,MapKept.run_setObj_map _ hb,Result.andThen]
   have hni:k∉kv.map (·.1):=fun hmem=>by
     obtain⟨p,hp,hpk⟩:=List.mem_map.1 hmem
     obtain⟨x',hx',hkx,_⟩:=De he hp
     exact h2 x' hx' (by rw[hkx,hpk])
   rw[D8,if_neg hni]
   simp[he,D9,Hi]
 have hj:es[j]?=some e:=by simpa using h2
 have hkey:∀e',es[j]?=some e'→({ e' with key:=vs k,val:=v }:MapEntry).key=e'.key:=fun e' he'=>by rw[hj]at he';cases he';exact h3.symm
 refine⟨_,Kt (w':={ w with heap:=w.heap.setIfInBounds b (.map (es.modify j fun e=>{ e with key:=vs k,val:=v }) clock) }) ?_,⟨_,_,(heap_set hb).1,stamped_modify hs _ _ (fun _ _=>rfl) (fun e' _ he'=>hkey e' he'),Gb hs he hj h3⟩,fin _,by simp⟩
 rw[ha.ev hm,ha.ev hx,ha.ev hy]
 simp[Instr.mapUpdate,run_underlying hT,MapKept.run_getObj_map hb,MapKept.run_checkKey hK hk,MapKept.run_findKey hK h1,hj,h3,run_keyThatStays hk,MapKept.run_setObj_map _ hb,Result.andThen]
theorem REv.makeMap{T:TypeId}:REv P n ds l w ⟨d,.makeMap T none,ty,ps,af,g⟩ (fun v w'=>∃b,v=.map (some b)∧IMap w' b []∧Up w w'∧b=w.heap.size∧w'.heap.size=b+1):=fun a ha=>by
 refine⟨_,_,Ci (v:=.map (some w.heap.size)) (w':=w.alloc (.map #[] 0)) ?_,_,rfl,⟨_,_,(heap_alloc w _).1,stamped_empty 0,rfl⟩,Up.alloc w _,rfl,by simp⟩
 simp[Instr.makeMap,Result.andThen]
def IRng(w:World)(b r:Nat)(kv:List (List UInt8×Value))(done:List (List UInt8)):Prop:=
 ∃es clock since seen c0,w.heap[b]?=some (.map es clock)∧Stamped es clock∧es.toList.map D9=kv.map Hi∧w.heap[r]?=some (.mapIter (some b) since seen c0)∧(∀x∈es.toList,x.born<since)∧since≤c0∧since≤clock∧
   (∀x∈es.toList,∀k,x.key=vs k→(seen.contains x.born=true↔k∈done))∧done.Nodup∧∀k∈done,k∈kv.map (·.1)
theorem REv.range{T K E:TypeId}{m:Operand}{b:Nat}{kv:List (List UInt8×Value)}(hT:P.underlying T=some (.map K E))(hm:Val l m (.map (some b)))(h:IMap w b kv):
   REv P n ds l w ⟨d,.range T m,ty,ps,af,g⟩ (fun v w'=>∃r,v=.pointer (some ⟨r,0,none⟩)∧IRng w' b r kv []∧Up w w'∧r=w.heap.size∧w'.heap.size=r+1):=fun a ha=>by
 obtain⟨es,clock,hb,hs,he⟩:=h
 refine⟨_,_,Ci (v:=.pointer (some ⟨w.heap.size,0,none⟩)) (w':=w.alloc (.mapIter (some b) clock #[] clock)) ?_,_,rfl,⟨es,clock,clock,#[],clock,((heap_alloc w _).2 b (lt_of_block hb)).trans hb,hs,he,(heap_alloc w _).1,hs.1,Nat.le_refl _,Nat.le_refl _,?_,List.nodup_nil,by simp⟩,Up.alloc w _,rfl,by simp⟩
 · rw[ha.ev hm];exact run_range_map w T K E b es clock hT hb
 intro x _ k _;simp
theorem Nr{b r:Nat}{kv:List (List UInt8×Value)}{done:List (List UInt8)}(ty:TypeId)(h:IRng w b r kv done):
   ((Instr.next (.pointer (some ⟨r,0,none⟩)) false ty).run P w=.ok (.tuple #[.bool false]) w∧done.Perm (kv.map (·.1)))∨
   ∃k u w',(Instr.next (.pointer (some ⟨r,0,none⟩)) false ty).run P w=.ok (.tuple #[.bool true,vs k,u]) w'∧(k,u)∈kv∧k∉done∧IRng w' b r kv (done++[k])∧w.grownBy w' (some r)∧w'.heap.size=w.heap.size∧(Instr.entry (.pointer (some ⟨r,0,none⟩))).run P w'=.ok (.tuple #[vs k,u]) w'∧Sto r w w'∧∃o:Obj,w.heap[r]?=some o∧o.isWalk=true:=by
 obtain⟨es,clock,since,seen,c0,hb,hs,he,hr,hold,hsc,hsk,hd,hdn,hdk⟩:=h
 have hne:b≠r:=fun e=>by rw[e,hr]at hb;cases hb
 have hst:=(stamped_iff es clock).1 hs
 rcases run_next_at (P:=P) w ty r b since c0 seen es clock hr hb hold hsc with⟨h0,hrun⟩|⟨e,hel,w1,hal,hrun⟩
 · refine .inl ⟨hrun,(List.perm_ext_iff_of_nodup hdn (E5 hs he)).2 fun k=>⟨hdk k,fun hk=>?_⟩⟩
   obtain⟨p,hp,rfl⟩:=List.mem_map.1 hk
   obtain⟨x,hx,hxk,_⟩:=De he hp
   exact(hd x hx _ hxk).1 (all_seen es seen h0 x hx)
 obtain⟨hem,hes⟩:=mem_left hel
 obtain⟨k,hk,hkv⟩:=Fa he e hem
 have hr1:w1.heap[r]?=some (.mapIter (some b) since seen c0):=by rcases hal with rfl|rfl<;>exact hr
 have hb1:w1.heap[b]?=some (.map es clock):=by rcases hal with rfl|rfl<;>exact hb
 have hset:=heap_set (o':=.mapIter (some b) since (seen.push e.born) clock) hr1
 have hb':(setBlock w1 r (.mapIter (some b) since (seen.push e.born) clock)).heap[b]?=some (.map es clock):=(hset.2 b hne).trans hb1
 have hnd:k∉done:=fun hm=>by have:=(hd e hem k hk).2 hm;rw[hes]at this;cases this
 have hgr:w.grownBy (setBlock w1 r (.mapIter (some b) since (seen.push e.born) clock)) (some r):=by rcases hal with rfl|rfl<;>exact⟨rfl,rfl,rfl,by simp[setBlock],fun i _ hi=>hset.2 i (fun e1=>hi (by rw[e1]))⟩
 refine .inr ⟨k,e.val,_,by rw[hrun,hk],hkv,hnd,⟨es,clock,since,seen.push e.born,clock,hb',hs,he,hset.1,hold,hsk,hsk,fun x hx k' hk'=>?_,?_,fun k' hk'=>?_⟩,hgr,?_,?_,⟨hgr.os,hgr.tape,hgr.output,hgr.size,fun i hi hne=>hgr.block i hi (fun e=>hne (by cases e;rfl))⟩,_,hr,rfl⟩
 · rw[contains_push,Bool.or_eq_true,hd x hx k' hk',List.mem_append,List.mem_singleton]
   refine or_congr Iff.rfl ⟨fun h1=>?_,fun h1=>?_⟩
   · have h2:x.born=e.born:=by simpa using h1
     have h3:=born_inj hst.2.1 hx hem h2
     rw[h3,hk]at hk'
     exact(bZ hk').symm
   subst h1
   have:=Du hst.2.2 hx hem (hk'.trans hk.symm)
   rw[this];simp
 · exact List.nodup_append.2 ⟨hdn,by simp,fun a ha c hc=>by simp at hc;subst hc;exact fun e'=>hnd (e'▸ha)⟩
 · rcases List.mem_append.1 hk' with h1|h1
   · exact hdk k' h1
   simp at h1;subst h1;exact List.mem_map.2 ⟨_,hkv,rfl⟩
 · rcases hal with rfl|rfl<;>simp[setBlock]
 rw[←hk];exact run_entry_at _ r b since seen es clock e hset.1 hb' hem hst.2.1
structure NextTo(P:Program)(w w':World)(b r:Nat)(kv:List (List UInt8×Value))(done:List (List UInt8))(k:List UInt8)(u:Value):Prop where
 mem:(k,u)∈kv
 fresh:k∉done
 rng:IRng w' b r kv (done++[k])
 grown:w.grownBy w' (some r)
 size:w'.heap.size=w.heap.size
 entry:(Instr.entry (.pointer (some ⟨r,0,none⟩))).run P w'=.ok (.tuple #[vs k,u]) w'
 sto:Sto r w w'
 walk:∃o:Obj,w.heap[r]?=some o∧o.isWalk=true
theorem REv.next{it:Operand}{b r:Nat}{kv:List (List UInt8×Value)}{done:List (List UInt8)}(hx:Val l it (.pointer (some ⟨r,0,none⟩)))(h:IRng w b r kv done):
   REv P n ds l w ⟨d,.next it false,ty,ps,af,g⟩ (fun v w'=>(v=.tuple #[.bool false]∧w'=w∧done.Perm (kv.map (·.1)))∨∃k u,v=.tuple #[.bool true,vs k,u]∧NextTo P w w' b r kv done k u):=fun a ha=>by
 rcases Nr (P:=P) ty h with⟨h1,h2⟩|⟨k,u,w',h1,h2,h3,h4,h5,h6,h7,h8,h9⟩
 · exact⟨_,_,Ci (by rw[ha.ev hx];exact h1),.inl ⟨rfl,rfl,h2⟩⟩
 exact⟨_,_,Ci (by rw[ha.ev hx];exact h1),.inr ⟨k,u,rfl,h2,h3,h4,h5,h6,h7,h8,h9⟩⟩
theorem REv.entry{it:Operand}{r:Nat}{t:Value}(hx:Val l it (.pointer (some ⟨r,0,none⟩)))(h:(Instr.entry (.pointer (some ⟨r,0,none⟩))).run P w=.ok t w):
 REv P n ds l w ⟨d,.entry it,ty,ps,af,g⟩ (fun v w'=>v=t∧w'=w):=fun a ha=>⟨_,_,Ci (by rw[ha.ev hx];exact h),rfl,rfl⟩
theorem PEv.Cx{d:Option Tmp}{ty:TypeId}{ps:String}{af:Array Edge}{g:Option (Nat×Bool)}{T K E:TypeId}{mo x:Operand}{b:Nat}{k:List UInt8}{v:Value}{kv:List (List UInt8×Value)}{ok:Bool}(hT:P.underlying T=some (.map K E))(hK:P.underlying K=some .string)(hm:Val l mo (.map (some b)))(hx:Val l x (vs k))(h:IMap w b kv)(hkv:(k,v)∈kv):
   PEv P n ds l w ⟨d,.lookup T mo x ok,ty,ps,af,g⟩ (if ok then .tuple #[v,.bool true]else v):=fun a w' ha hu=>by
 obtain⟨es,clock,hb,hs,he⟩:=h.up hu
 have hk:IsKey .string (vs k):=trivial
 refine Ci ?_
 rw[ha.ev hm,ha.ev hx]
 rcases findNow_spec hk es.toList 0 (Fv he)with⟨h1,h2⟩|⟨j,e,h1,h2,h3⟩
 · exfalso
   obtain⟨x',hx',hkx,_⟩:=De he hkv
   exact h2 x' hx' hkx
 obtain⟨x',hx',hkx,hvx⟩:=De he hkv
 have hv:e.val=v:=by
   have:=Du (List.pairwise_map.1 hs.2.2) (List.mem_of_getElem? h2) hx' (by rw[h3,hkx])
   rw[this];exact hvx
 cases ok<;>simp[Instr.lookup,run_underlying hT,MapKept.run_getObj_map hb,MapKept.run_checkKey hK hk,MapKept.run_findKey hK h1,Result.andThen,hv]
theorem PEv.Gt{d:Option Tmp}{ty:TypeId}{ps:String}{af:Array Edge}{g:Option (Nat×Bool)}{T K E:TypeId}{mo x:Operand}{b:Nat}{k:List UInt8}{z:Value}{kv:List (List UInt8×Value)}{ok:Bool}(hT:P.underlying T=some (.map K E))(hK:P.underlying K=some .string)(hz:∀w,(zeroValue E).run P w=.ok z w)(hm:Val l mo (.map (some b)))(hx:Val l x (vs k))(h:IMap w b kv)(hkv:k∉kv.map (·.1)):
   PEv P n ds l w ⟨d,.lookup T mo x ok,ty,ps,af,g⟩ (if ok then .tuple #[z,.bool false]else z):=fun a w' ha hu=>by
 obtain⟨es,clock,hb,hs,he⟩:=h.up hu
 have hk:IsKey .string (vs k):=trivial
 refine Ci ?_
 rw[ha.ev hm,ha.ev hx]
 rcases findNow_spec hk es.toList 0 (Fv he)with⟨h1,h2⟩|⟨j,e,h1,h2,h3⟩
 · cases ok<;>simp[Instr.lookup,run_underlying hT,MapKept.run_getObj_map hb,MapKept.run_checkKey hK hk,MapKept.run_findKey hK h1,Result.andThen,hz]
 exfalso
 obtain⟨k',hk',hkv'⟩:=Fa he e (List.mem_of_getElem? h2)
 have:k'=k:=bZ (hk'.symm.trans h3)
 exact hkv (List.mem_map.2 ⟨_,hkv',this⟩)
end
end Go.Wx.Ms
