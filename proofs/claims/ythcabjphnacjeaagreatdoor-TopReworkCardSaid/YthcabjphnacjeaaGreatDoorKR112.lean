import Derived.Test.YthcabjphnacjeaaGreatDoorKR111
namespace Go.Wx
def Ks(a b:Int):Int:=if a<b then -1 else if b<a then 1 else 0
def rS:List Int→Int
 |[]=>0
 |x::l=>if x=0 then rS l else x
def Y6(p q:K2):Int:=rS [Ks p.1 q.1,Ks p.2 q.2]
theorem H4(p q:K2):decide (Y6 p q<0)=Hz p q:=by
 unfold Y6 rS rS rS Ks Hz
 by_cases h1:p.1<q.1
 · simp[h1]
 by_cases h2:q.1<p.1
 · have:¬p.1=q.1:=by omega
   simp[h1,h2,this]
 have e:p.1=q.1:=by omega
 by_cases h3:p.2<q.2
 · simp[e,h3]
 by_cases h4:q.2<p.2
 · simp[e,h3,h4]
 simp[e,h3,h4]
theorem Y7{l:List Int}{k:Nat}{x:Int}(h:l[k]?=some x):rS (l.drop k)=if x=0 then rS (l.drop (k+1))else x:=by
 obtain⟨hk,e⟩:=ak.1 h
 rw[fe hk,e];rfl
theorem oY(p:K2):(#[vi p.1,vi p.2]:Array Go.Value).size=2∧(#[vi p.1,vi p.2]:Array Go.Value).all (·.oneCell')=true:=by simp[Value.oneCell']
theorem Mb{p q r t:Nat}(h:(decide ((p:Int)<(q:Int))&&decide ((r:Int)<(t:Int)))=true):p<q∧r<t:=by
 obtain⟨h1,h2⟩:=Bool.and_eq_true_iff.1 h
 have h1:=b8 h1
 have h2:=b8 h2
 omega
theorem dD{p q r t:Nat}(h:(decide ((p:Int)<(q:Int))&&decide ((r:Int)<(t:Int)))=false):¬(p<q∧r<t):=fun⟨h1,h2⟩=>by
 rw[bj oQ,bj (by omega)]at h
 cases h
theorem oZ{α:Type}{xs:List α}{a b:Nat}{x:α}(hx:xs[a]?=some x)(h:a<b)(hb:b≤xs.length):C2 xs a b=x::C2 xs (a+1) b:=by
 rw[Gg (m:=a+1) oQ oQ hb,Lm (bi a) hx,Gh (bi a)];rfl
theorem Q3{z:Nat}(h:z<18446744073709551616):Go.Value.int .u64 (IntKind.u64.wrap (z:Int))=vu z:=by
 rw[Gq]
 unfold vu
 congr 1
 omega
theorem Q4{z:Nat}(h:z<9223372036854775808):Go.Value.int .i64 (IntKind.i64.wrap (z:Int))=vi (z:Int):=by
 rw[Dk oQ (by omega)]
theorem Oa{z:Nat}:Go.Value.int .u64 ((z:Int).fdiv (2^(min 1 IntKind.u64.bits)))=vu (z/2):=by
 have e1:min 1 IntKind.u64.bits=1:=rfl
 rw[e1,g9 _ (by decide)]
 unfold vu
 congr 1
theorem Sa{z:Nat}(h:2*z<9223372036854775808):Go.Value.int .i64 (IntKind.i64.wrap (2*(z:Int)))=vi ((2*z:Nat):Int):=by
 rw[Dk oQ oQ,Int.natCast_mul];rfl
theorem Vc{z:Nat}(h:2*z<9223372036854775808):Go.Value.int .i64 (IntKind.i64.wrap ((z:Int)*2))=vi ((2*z:Nat):Int):=by
 rw[Int.mul_comm];exact Sa h
theorem yK{a b:Nat}(h:a=b):vi (a:Int)=vi (b:Int):=by rw[h]
end Go.Wx
namespace Go.Proofs.YthcabjphnacjeaaGreatDoor
open Go.Proofs.Tryz
open Go.Wx Go.RowKit
theorem Vd(a:Int)(w:World):Ret prog 148 #[vi a] w fun r w'=>r=.bool false∧Up w w':=by
 have hW:=Up.refl w
 refine cT 6 func148 rfl (Ae (Az (An (Aa (I rfl (I rfl (U (.fa (PEv.neq (.t rfl) (.t rfl)) (by simp)) (LW.A rfl (Ah (Am (KW.q ?_)))))))))))
 exact⟨rfl,hW⟩
theorem Kt(a b:Int)(w:World):Ret prog 72 #[vi a,vi b] w fun r w'=>r=vi (Ks a b)∧Up w w':=by
 have hW:=Up.refl w
 refine cT 20 func72 rfl (Ae (Az (An (Aa (I rfl (A3 (eC (.o rfl) (vU)) rfl (Vd _ _) ?_))))))
 rintro _ w1 ⟨rfl,uw1⟩
 replace hW:=hW.up uw1
 refine LW.A rfl (An (Aa (I rfl (A3 (eC (.o rfl) (vU)) rfl (Vd _ _) ?_))))
 rintro _ w2 ⟨rfl,uw2⟩
 replace hW:=hW.up uw2
 refine LW.A rfl (An (Ae (I rfl (Ah (CW.f rfl (Aj (Ab (Ak (Ae (I rfl (Ah (CW.f rfl (Aj (Ab (Ak (Ae (I rfl (I rfl (U (.l2 rfl rfl) (Ah (CW.b rfl (fun h16=>?_) (fun h16=>?_))))))))))))))))))))))
 ·replace h16:=dQ h16
  refine Ae (Az (Ah (Am (Au (KW.q ?_)))))
  refine⟨bh vi ?_,hW⟩
  unfold Ks
  (rw[bg (by omega)])
 replace h16:=dQ h16
 refine Aj (Ab (Ak (Ae (I rfl (I rfl (U (.gtr (.t rfl) (.t rfl)) (Ah (CW.b rfl (fun h19=>?_) (fun h19=>?_)))))))))
 ·replace h19:=dQ h19
  refine Ae (Az (Ah (Am (Au (KW.q ?_)))))
  refine⟨bh vi ?_,hW⟩
  unfold Ks
  (rw[aq oQ,bg (by omega)])
 replace h19:=dQ h19
 refine Aj (Ab (Ae (Az (Ah (Am (KW.q ?_))))))
 refine⟨bh vi ?_,hW⟩
 unfold Ks
 (rw[aq oQ,aq (by omega)])
theorem pA(ad:Option Addr)(cp:Nat)(l:List Int)(w:World)(hE0:Els w ad 1 A4 l)(hl:l.length≤1000):Ret prog 71 #[.slice ad l.length cp] w fun r w'=>r=vi (rS l)∧Up w w':=by
 have hW:=Up.refl w
 obtain⟨w0,rfl,_⟩:=W0 w
 refine cT 18 func71 rfl (Ae (Az (An (Aa (Az (An (Ae (I rfl (U (.Cl ky (.t rfl)) (U (.move (.const _)) (Ah (Ai (A7 (σ:=Nat) (fun s w=>(s≤l.length)∧(rS l=rS (l.drop s))∧(Up w0 w)) (fun s=>[(8,.eq (vi (s:Int)))]) ([(3,.eq _),(6,.eq _),(7,.eq _)]) (fun s=>l.length-s) 0 ?_ tQ ?_)))))))))))))
 ·exact⟨a_ _,rfl,Up.refl _⟩
 rintro k w1 ⟨hkk,hor,hL1⟩
 replace hW:=hW.up hL1
 refine Ae (U (.l2 rfl rfl) (An (CW.b rfl (fun h9=>?_) (fun h9=>?_))))
 ·refine Aj (Ab (Ak (Ai (Ak ?_))))
  have hE:=Els.up hE0 hW
  have hkl:k<l.length:=by simp at h9;omega
  refine Aa ?_
  obtain⟨x,hx⟩:=Af (xs:=l) (i:=k) oQ
  obtain⟨Bx,ox,ax,hcx⟩:=hE _ x hx
  refine U (.Ao ky k6 (.t rfl) (.t rfl) oQ ax) (U (.lb rfl (hcx.nth (j:=0) rfl)) (LW.A rfl (An (Aa (I rfl (I rfl (U (.neq (.t rfl) (.t rfl)) (Ah (CW.b rfl (fun h14=>?_) (fun h14=>?_))))))))))
  ·refine Ae (I rfl (LW.A rfl (Ah (Am (A6 (Au (Au (A6 (Au (KW.q ?_))))))))))
   refine⟨bh vi ?_,hW⟩
   rw[hor]
   (rw[Y7 hx,aq (by simpa using h14)])
  refine Aj (Al (Ab (Aa (U (.ic rfl oQ) (I rfl (LW.nil (Av ?_)))))))
  exact⟨k+1,⟨by omega,by rw[hor,Y7 hx,bg (by simpa using h14)],hL1⟩,tQ,by omega⟩
 refine A9 (Ac (Ac (Aq (Ab (Ae (I rfl (LW.A rfl (Ah (Am (KW.q ?_))))))))))
 refine⟨bh vi ?_,hW⟩
 rw[hor]
 (rw[ip (by simp at h9;omega)];rfl)
theorem kE(of:Nat)(key:Fact→K2)(hen:∀args w,(callFunc of args).run prog w=.ok (.enter of args) w)(hord:∀W x,Ret prog of #[.agg x.cells] W fun r W'=>r=.agg #[vi (key x).1,vi (key x).2]∧Up W W')(a b:Fact)(Bc:Nat)(w:World)(hC0:Blk w Bc #[.func (.func of) #[] #[]] 79):Ret prog 70 #[.agg a.cells,.agg b.cells,.pointer (some ⟨Bc,0,none⟩)] w fun r w'=>r=vi (Y6 (key a) (key b))∧Up w w':=by
 have hW:=Up.refl w
 have hC:=hC0
 refine cT 26 func70 rfl (Ae (Ap (.bA rfl) rfl ?_))
 rintro _ w1 ⟨B3,rfl,NB3⟩
 replace hW:=hW.up NB3.up
 replace hC:=hC.up NB3.up
 have hB3:=NB3.blk
 refine Ap (.bA rfl) rfl ?_
 rintro _ w2 ⟨B4,rfl,NB4⟩
 replace hW:=hW.up NB4.up
 replace hC:=hC.up NB4.up
 replace hB3:=hB3.up NB4.up
 have hB4:=NB4.blk
 refine Az (An (CW.vars 10 [⟨6,8,2,6,10⟩,⟨7,9,5,7,13⟩] #[vi 0,vi 0] [.eq (.func (.func of) #[] #[]),.eq (.agg a.cells),.eq (.agg #[vi (key a).1,vi (key a).2]),.eq (.func (.func of) #[] #[]),.eq (.agg b.cells),.eq (.agg #[vi (key b).1,vi (key b).2]),.pred fun v _=>∃B,v=.pointer (some ⟨B,0,none⟩),.pred fun v _=>∃B,v=.pointer (some ⟨B,0,none⟩),.eq undef,.eq undef] [6,7] mh m5 kQ rfl kQ kQ kQ kQ kQ kQ kQ kQ cQ kQ kQ ?_ ?_ ⟨n_,n_,n_,n_,n_,n_,PhT.pred fun _ _ _ h _=>h,PhT.pred fun _ _ _ h _=>h,n_,n_,trivial⟩ ?_ ?_ ?_ ?_ ?_))
 ·intro v hv;simp only[bm,da,dw]at hv;rcases hv with rfl|rfl<;>exact⟨_,_,_,rfl⟩
 ·intro v hv;simp only[bm,da,dw]at hv;rcases hv with rfl|rfl<;>exact⟨_,_,_,rfl⟩
 ·intro v hv;simp only[bm,da,dw]at hv;rcases hv with rfl|rfl<;>(intro o ho;cases ho;rfl)
 ·intro v hv;simp only[bm,da,dw]at hv;rcases hv with rfl|rfl
  ·exact fun v W h=>⟨_,h,rfl,(oY (key a)).2⟩
  exact fun v W h=>⟨_,h,rfl,(oY (key b)).2⟩
 ·intro v hv;simp only[bm,da,dw]at hv;rcases hv with rfl|rfl<;>exact fun B W=>⟨B,rfl⟩
 ·intro W hK0
  have hK:=(Up.drew w2).Dc.trans hK0
  have hCW:=Blk.Dc hC (T:=135) rfl hK
  have hB3W:=Blk.Dc hB3 (T:=135) rfl hK
  have hB4W:=Blk.Dc hB4 (T:=135) rfl hK
  refine aC (.inr ⟨rfl,TU.p (.lb rfl (hCW.Ad rfl)) rfl⟩) (aC (.inr ⟨rfl,TU.p (.lc rfl (hB3W.agg)) rfl⟩) (aC (.inr ⟨rfl,TU.c (El (.t rfl) (.cu rfl) hen) (hord _ a) sQ⟩) (aC (.inr ⟨rfl,TU.p (.lb rfl (hCW.Ad rfl)) rfl⟩) (aC (.inr ⟨rfl,TU.p (.lc rfl (hB4W.agg)) rfl⟩) (aC (.inr ⟨rfl,TU.c (El (.t rfl) (.cu rfl) hen) (hord _ b) sQ⟩) (aC (.inl (by simp)) (aC (.inl (by simp)) (aC (.inl (by simp)) (aC (.inl (by simp)) ?_)))))))))
  exact allL.nil
 intro wT g hU0 hbl hpw hg
 have hU:=(Up.drew w2).trans hU0
 obtain⟨B6,e6,z6,hB6⟩:=hbl ⟨6,8,2,6,10⟩ (by simp)
 obtain⟨B7,e7,z7,hB7⟩:=hbl ⟨7,9,5,7,13⟩ (by simp)
 have e10:g 10=.agg #[vi (key a).1,vi (key a).2]:=hg 2 _ 10 cQ rfl rfl
 have e13:g 13=.agg #[vi (key b).1,vi (key b).2]:=hg 5 _ 13 cQ rfl rfl
 replace e6:g 6=.pointer (some ⟨B6,0,none⟩):=e6
 replace e7:g 7=.pointer (some ⟨B7,0,none⟩):=e7
 change LW _ _ _ _ _ _ _ _ ((6,.eq (g 6))::(7,.eq (g 7))::_) _
 rw[e6,e7]
 rw[e10]at hB6
 rw[e13]at hB7
 replace hB6:Blk wT B6 #[vi (key a).1,vi (key a).2] 135:=hB6
 replace hB7:Blk wT B7 #[vi (key b).1,vi (key b).2] 135:=hB7
 replace hW:=hW.trans hU
 refine An (L3 11 [.eq (.pointer (some ⟨B6,0,none⟩)),.eq (vi (key a).1),.eq (.pointer (some ⟨B7,0,none⟩)),.eq (vi (key b).1),.eq (vi (Ks (key a).1 (key b).1)),.eq (.pointer (some ⟨B6,1,none⟩)),.eq (vi (key a).2),.eq (.pointer (some ⟨B7,1,none⟩)),.eq (vi (key b).2),.eq (vi (Ks (key a).2 (key b).2)),.pred (fun v w=>SlT 3 w v 1 A4 [Ks (key a).1 (key b).1,Ks (key a).2 (key b).2])] [24] kQ rfl kQ kQ kQ kQ kQ kQ kQ ⟨n9,n9,n9,n9,n9,n9,n9,n9,n9,n9,PhU.pred fun _ _ _ h u=>SlT.G0 h u.G0,trivial⟩ ?_ ?_)
 ·intro W hU0
  have hU:=(Up.drew wT).trans hU0
  refine aC ⟨rfl,TU.p (.Ei (j:=0) mq k6 (.t rfl) (.const _) cQ) rfl⟩ (aC ⟨rfl,TU.p (.lb rfl ((hB6.up hU).Ad rfl)) rfl⟩ (aC ⟨rfl,TU.p (.Ei (j:=0) mq k6 (.t rfl) (.const _) cQ) rfl⟩ (aC ⟨rfl,TU.p (.lb rfl ((hB7.up hU).Ad rfl)) rfl⟩ (aC ⟨rfl,TU.c (eC (.u rfl rfl) (rY)) (Kt _ _ _) sQ⟩ (aC ⟨rfl,TU.p (.Ei (j:=1) mq k6 (.t rfl) (.const _) cQ) rfl⟩ (aC ⟨rfl,TU.p (.lb rfl ((hB6.up hU).Ad rfl)) rfl⟩ (aC ⟨rfl,TU.p (.Ei (j:=1) mq k6 (.t rfl) (.const _) cQ) rfl⟩ (aC ⟨rfl,TU.p (.lb rfl ((hB7.up hU).Ad rfl)) rfl⟩ (aC ⟨rfl,TU.c (eC (.u rfl rfl) (rY)) (Kt _ _ _) sQ⟩ (aC ⟨rfl,TU.r (REv.buildSlice (xs:=[Ks (key a).1 (key b).1,Ks (key a).2 (key b).2]) (enc:=A4) (mk:=vi) ky k6 lf rfl cQ (fun _=>rfl) (fun _=>rfl) (.ct rfl (.cu rfl)) rfl) (by rintro _ W1 ⟨B,c,rfl,N,y,x⟩;exact⟨N.up,SlT.lit ⟨B,c,rfl,N,y,x⟩⟩)⟩ ?_))))))))))
  exact allL.nil
 intro w3 g hU0 hg
 have hU:=(Up.drew wT).trans hU0
 replace hW:=hW.up hU
 replace hB6:=hB6.up hU
 replace hB7:=hB7.up hU
 obtain⟨⟨ad,cp,e24,hE⟩,_⟩:=hg 10 _ 24 cQ rfl rfl
 change LW _ _ _ _ _ _ _ _ ((24,.eq (g 24))::_) _
 rw[e24]
 refine A3 (eC (.o rfl) (BB)) rfl (pA ad cp _ _ hE (by simp)) ?_
 rintro _ w4 ⟨rfl,uw4⟩
 replace hW:=hW.up uw4
 replace hB6:=hB6.up uw4
 replace hB7:=hB7.up uw4
 refine LW.A rfl (Ah (Am (KW.q ?_)))
 exact⟨rfl,hW⟩
inductive TN(n:Nat):Prop|mk
abbrev tN{n:Nat}(_:TN n):Nat:=n
theorem Y8(v:Bool):∀args w,(callFunc (bif v then 147 else 221) args).run prog w=.ok (.enter (bif v then 147 else 221) args) w:=by cases v;exact DZ;exact X1
theorem Y9(v:Bool):∀args w,(callFunc (bif v then 207 else 253) args).run prog w=.ok (.enter (bif v then 207 else 253) args) w:=by cases v;exact EJ;exact Un
theorem Za(v:Bool):∀args w,(callFunc (bif v then 208 else 254) args).run prog w=.ok (.enter (bif v then 208 else 254) args) w:=by cases v;exact EK;exact Rl
theorem pB(v:Bool):∀args w,(callFunc (bif v then 241 else 273) args).run prog w=.ok (.enter (bif v then 241 else 273) args) w:=by cases v;exact ER;exact nA
theorem pC(v:Bool):∀args w,(callFunc (bif v then 265 else 288) args).run prog w=.ok (.enter (bif v then 265 else 288) args) w:=by cases v;exact EW;exact X2
theorem Sb(v:Bool):Tryz.prog.funcs[(bif v then 147 else 221)]?=some (bif v then f147 else f221):=by cases v;exact func221;exact func147
theorem Sc(v:Bool):Tryz.prog.funcs[(bif v then 207 else 253)]?=some (bif v then f207 else f253):=by cases v;exact func253;exact func207
theorem dE(v:Bool):Tryz.prog.funcs[(bif v then 208 else 254)]?=some (bif v then f208 else f254):=by cases v;exact func254;exact func208
theorem dG(v:Bool):Tryz.prog.funcs[(bif v then 241 else 273)]?=some (bif v then f241 else f273):=by cases v;exact func273;exact func241
theorem dH(v:Bool):Tryz.prog.funcs[(bif v then 265 else 288)]?=some (bif v then f265 else f288):=by cases v;exact func288;exact func265
theorem Ve(v:Bool):Tryz.prog.funcs[(bif v then 69 else 163)]?=some (bif v then f69 else f163):=by cases v;exact func163;exact func69
theorem Nf(v:Bool):∀w,(isAgg (bif v then 47 else 218)).run prog w=.ok true w:=by cases v;exact isAgg218;exact nu
theorem Ln(v:Bool):∀w,(Go.sizeOf (bif v then 47 else 218)).run prog w=.ok 19 w:=by cases v;exact nw;exact k7
theorem Fw(v:Bool):Tryz.prog.underlying (bif v then 25 else 216)=some (.slice (bif v then 47 else 218)):=by cases v;exact nq;exact kz
set_option maxHeartbeats 600000 in
theorem Gr(v:Bool)(a b n:Nat)(fv:Go.Value)(g m cp:Nat)(xs:List Fact)(w:World)(ho:OwnS w 0 (bif v then 47 else 218) 19 Fact.cells (.slice (some ⟨g,0,none⟩) m cp) xs)(h63:m≤1000000000)(h1:a+n≤b)(h2:b+n≤m):Ret prog (bif v then 265 else 288) #[.slice (some ⟨g,0,none⟩) m cp,vi (a:Int),vi (b:Int),vi (n:Int),fv] w fun r w'=>r=.tuple #[]∧Stp (Aw (bif v then 47 else 218) 19 Fact.cells (.slice (some ⟨g,0,none⟩) m cp) (xs)) (Aw (bif v then 47 else 218) 19 Fact.cells (.slice (some ⟨g,0,none⟩) m cp) (Tp xs a b n)) w w':=by
 have TY0:TN (bif v then 47 else 218):=⟨⟩
 have func265:=dH v
 have nu:=Nf v
 have k7:=Ln v
 have kz:=Fw v
 cases v<;>dsimp only[cond]at*
 all_goals
  obtain⟨w0,rfl,_⟩:=W0 w
  have hxl:=ho.len
  have hS:Wx.Sep (Aw (tN TY0) 19 Fact.cells (.slice (some ⟨g,0,none⟩) m cp) (xs)).foot w0 w0 [Aw (tN TY0) 19 Fact.cells (.slice (some ⟨g,0,none⟩) m cp) (xs)]:=Sep.cons ho (fun _ h=>h) (Sep.start _ _) (by simp)
  refine cT 38 func265 rfl (Ae (Az (Ah (Ai (A7 (σ:=Nat) (fun s w=>(s≤n)∧(Wx.Sep (Aw (tN TY0) 19 Fact.cells (.slice (some ⟨g,0,none⟩) m cp) (xs)).foot w0 w [Aw (tN TY0) 19 Fact.cells (.slice (some ⟨g,0,none⟩) m cp) (Tp xs a b s)])) (fun s=>[(10,.eq (vi (s:Int)))]) ([(0,.eq _),(1,.eq _),(2,.eq _),(3,.eq _)]) (fun s=>n-s) 0 ?_ tQ ?_)))))
  ·exact⟨a_ _,hS⟩
  rintro i w1 ⟨hin,hS⟩
  refine Ak (Ae (I rfl (I rfl (U (.l2 rfl rfl) (Ah (CW.b rfl (fun h13=>?_) (fun h13=>?_)))))))
  ·refine Aj (Ab (Ak (Ai ?_)))
   have hil:i<n:=by simp at h13;omega
   have hsl:=Gd xs a b i
   obtain⟨x,hx⟩:=Af (xs:=Tp xs a b i) (i:=a+i) oQ
   obtain⟨y,hy⟩:=Af (xs:=Tp xs a b i) (i:=b+i) oQ
   refine Km 21 23 [.slice (some ⟨g,0,none⟩) m cp,vi ((a:Nat):Int),vi ((i:Nat):Int),vi ((a+i:Nat):Int),.slice (some ⟨g,0,none⟩) m cp,vi ((b:Nat):Int),vi ((i:Nat):Int),vi ((b+i:Nat):Int),.slice (some ⟨g,0,none⟩) m cp,vi ((b:Nat):Int),vi ((i:Nat):Int),vi ((b+i:Nat):Int),.pointer (some ⟨g,0+(b+i)*19,none⟩),.agg (Fact.cells y),.slice (some ⟨g,0,none⟩) m cp,vi ((a:Nat):Int),vi ((i:Nat):Int),vi ((a+i:Nat):Int),.pointer (some ⟨g,0+(a+i)*19,none⟩),.agg (Fact.cells x),.pointer (some ⟨g,0+(a+i)*19,none⟩),undef,.pointer (some ⟨g,0+(b+i)*19,none⟩),undef] (fun W=>Wx.Sep (Aw (tN TY0) 19 Fact.cells (.slice (some ⟨g,0,none⟩) m cp) (xs)).foot w0 W [Aw (tN TY0) 19 Fact.cells (.slice (some ⟨g,0,none⟩) m cp) (Tp xs a b i)]) (fun W=>Wx.Sep (Aw (tN TY0) 19 Fact.cells (.slice (some ⟨g,0,none⟩) m cp) (xs)).foot w0 W [Aw (tN TY0) 19 Fact.cells (.slice (some ⟨g,0,none⟩) m cp) ((Tp xs a b i).set (a+i) y)]) (fun W=>Wx.Sep (Aw (tN TY0) 19 Fact.cells (.slice (some ⟨g,0,none⟩) m cp) (xs)).foot w0 W [Aw (tN TY0) 19 Fact.cells (.slice (some ⟨g,0,none⟩) m cp) (((Tp xs a b i).set (a+i) y).set (b+i) x)]) kQ rfl kQ kQ kQ kQ kQ kQ (hS.up (Up.drew _)) ?_ _ _ rfl rfl ⟨rfl,rfl⟩ ⟨rfl,rfl⟩ ?_ ?_ ?_
   ·refine aC (.inr ⟨rfl,.inr fun W=>PEv.mv rfl⟩) (aC (.inr ⟨rfl,.inr fun W=>PEv.mv rfl⟩) (aC (.inr ⟨rfl,.inr fun W=>PEv.mv rfl⟩) (aC (.inr ⟨rfl,.inr fun W=>PEv.addN (.t rfl) (.t rfl) oQ⟩) (aC (.inr ⟨rfl,.inr fun W=>PEv.mv rfl⟩) (aC (.inr ⟨rfl,.inr fun W=>PEv.mv rfl⟩) (aC (.inr ⟨rfl,.inr fun W=>PEv.mv rfl⟩) (aC (.inr ⟨rfl,.inr fun W=>PEv.addN (.t rfl) (.t rfl) oQ⟩) (aC (.inr ⟨rfl,.inr fun W=>PEv.mv rfl⟩) (aC (.inr ⟨rfl,.inr fun W=>PEv.mv rfl⟩) (aC (.inr ⟨rfl,.inr fun W=>PEv.mv rfl⟩) (aC (.inr ⟨rfl,.inr fun W=>PEv.addN (.t rfl) (.t rfl) oQ⟩) (aC (.inr ⟨rfl,.inr fun W=>PEv.indexAddr kz k7 (.t rfl) (.t rfl) oQ⟩) (aC (.inr ⟨rfl,.inl ⟨by kernel_rfl,fun W hS=>PEv.lc rfl ((hS.own 0 rfl).at (fun _=>rfl) hy)⟩⟩) (aC (.inr ⟨rfl,.inr fun W=>PEv.mv rfl⟩) (aC (.inr ⟨rfl,.inr fun W=>PEv.mv rfl⟩) (aC (.inr ⟨rfl,.inr fun W=>PEv.mv rfl⟩) (aC (.inr ⟨rfl,.inr fun W=>PEv.addN (.t rfl) (.t rfl) oQ⟩) (aC (.inr ⟨rfl,.inr fun W=>PEv.indexAddr kz k7 (.t rfl) (.t rfl) oQ⟩) (aC (.inr ⟨rfl,.inl ⟨by kernel_rfl,fun W hS=>PEv.lc rfl ((hS.own 0 rfl).at (fun _=>rfl) hx)⟩⟩) (aC (.inr ⟨rfl,.inr fun W=>PEv.indexAddr kz k7 (.t rfl) (.t rfl) oQ⟩) (aC (.inl (by simp)) (aC (.inr ⟨rfl,.inr fun W=>PEv.indexAddr kz k7 (.t rfl) (.t rfl) oQ⟩) (aC (.inl (by simp)) ?_)))))))))))))))))))))))
    exact allL.nil
   ·intro W hS
    exact SEv.mono (Eo (i:=a+i) (z:=y) k7 (fun _=>rfl) Fact.one (.t rfl) (.t rfl) (hS.own 0 rfl) oQ) (fun _ h=>hS.Ft 0 rfl h)
   ·intro W hS
    exact SEv.mono (Eo (i:=b+i) (z:=x) k7 (fun _=>rfl) Fact.one (.t rfl) (.t rfl) (hS.own 0 rfl) oQ) (fun _ h=>hS.Ft 0 rfl h)
   intro w2 hS
   have hS:Wx.Sep (Aw (tN TY0) 19 Fact.cells (.slice (some ⟨g,0,none⟩) m cp) (xs)).foot w0 w2 [Aw (tN TY0) 19 Fact.cells (.slice (some ⟨g,0,none⟩) m cp) (((Tp xs a b i).set (a+i) y).set (b+i) x)]:=hS
   refine Al (Ab (Aa (I rfl (U (.ic rfl oQ) (LW.A rfl (LW.nil (Av ?_)))))))
   exact⟨i+1,⟨by omega,by rw[Tp,Wm hx hy];exact hS⟩,tQ,by omega⟩
  refine A9 (Ac (Ac (Aq (Db rfl ⟨_,rfl,?_⟩))))
  have hin2:i=n:=by simp at h13;omega
  subst hin2
  exact⟨rfl,⟨hS.fr,hS.get 0 rfl,fun _ h=>.inl h⟩⟩
set_option maxHeartbeats 600000 in
theorem Ng(v:Bool)(a mm b:Nat)(fv:Go.Value)(g m cp:Nat)(xs:List Fact)(w:World)(ho:OwnS w 0 (bif v then 47 else 218) 19 Fact.cells (.slice (some ⟨g,0,none⟩) m cp) xs)(h63:m≤1000000000)(h1:a<mm)(h2:mm<b)(h3:b≤m):Ret prog (bif v then 241 else 273) #[.slice (some ⟨g,0,none⟩) m cp,vi (a:Int),vi (mm:Int),vi (b:Int),fv] w fun r w'=>r=.tuple #[]∧Stp (Aw (bif v then 47 else 218) 19 Fact.cells (.slice (some ⟨g,0,none⟩) m cp) (xs)) (Aw (bif v then 47 else 218) 19 Fact.cells (.slice (some ⟨g,0,none⟩) m cp) (Jy xs a mm b)) w w':=by
 have TY0:TN (bif v then 47 else 218):=⟨⟩
 have X2:=pC v
 have func241:=dG v
 have Gr:=@Gr v
 cases v<;>dsimp only[cond]at*
 all_goals
  obtain⟨w0,rfl,_⟩:=W0 w
  have hxl:=ho.len
  have hS:Wx.Sep (Aw (tN TY0) 19 Fact.cells (.slice (some ⟨g,0,none⟩) m cp) (xs)).foot w0 w0 [Aw (tN TY0) 19 Fact.cells (.slice (some ⟨g,0,none⟩) m cp) (xs)]:=Sep.cons ho (fun _ h=>h) (Sep.start _ _) (by simp)
  refine cT 58 func241 rfl (Ae (I rfl (I rfl (U (.M2 (.t rfl) (.t rfl) oQ oQ) (LW.A rfl (An (Aa (I rfl (I rfl (U (.M2 (.t rfl) (.t rfl) oQ oQ) (LW.A rfl (An (Ai (A7 (σ:=Nat×Nat×List Fact) (fun s w=>(0<s.1∧0<s.2.1∧s.1≤mm-a∧s.2.1≤b-mm)∧(s.2.2.length=m)∧(Jy s.2.2 (mm-s.1) mm (mm+s.2.1)=Jy xs a mm b)∧(Wx.Sep (Aw (tN TY0) 19 Fact.cells (.slice (some ⟨g,0,none⟩) m cp) (xs)).foot w0 w [Aw (tN TY0) 19 Fact.cells (.slice (some ⟨g,0,none⟩) m cp) (s.2.2)])) (fun s=>[(10,.eq (vi (s.1:Int))),(11,.eq (vi (s.2.1:Int)))]) ([(0,.eq _),(2,.eq _),(4,.eq _)]) (fun s=>s.1+s.2.1) (mm-a,b-mm,xs) ?_ tQ ?_))))))))))))))
  ·exact⟨⟨by show 0<mm-a;omega,by show 0<b-mm;omega,bi _,bi _⟩,hxl,by rw[show mm-(mm-a)=a by omega,show mm+(b-mm)=b by omega],hS⟩
  rintro⟨i,j,ys⟩ w1 ⟨hij,hyl,hrt,hS⟩
  dsimp only at hij hyl hrt hS
  change CW _ _ _ _ _ _ _ ([(10,.eq (vi (i:Int))),(11,.eq (vi (j:Int)))]++_) _
  refine Ak (Ae (I rfl (I rfl (U (.neq (.t rfl) (.t rfl)) (Ah (CW.b rfl (fun h20=>?_) (fun h20=>?_)))))))
  ·replace h20:=dQ h20
   have hne0:¬((i:Int)=j):=by simpa using h20
   have hne:i≠j:=by omega
   refine Aj (Ab (Ai (Ae (I rfl (I rfl (U (.gtr (.t rfl) (.t rfl)) (Ah (CW.b rfl (fun h23=>?_) (fun h23=>?_)))))))))
   ·replace h23:=dQ h23
    refine Ae (I rfl (I rfl (I rfl (U (.M2 (.t rfl) (.t rfl) oQ oQ) (I rfl (I rfl (I rfl (A3 (eC (.ct rfl (.ct rfl (.ct rfl (.ct rfl (.cu rfl))))) (X2)) rfl (Gr (mm-i) mm j _ g m cp ys _ (hS.own 0 rfl) h63 oQ oQ) ?_))))))))
    rintro _ w2 ⟨rfl,uw2⟩
    replace hS:=hS.Ft 0 rfl uw2
    refine Ah (Aa (I rfl (I rfl (U (.M2 (.t rfl) (.t rfl) oQ oQ) (LW.A rfl (LW.nil (Al (Av ?_))))))))
    exact⟨(i-j,j,Tp ys (mm-i) mm j),⟨⟨by show 0<i-j;omega,by show 0<j;omega,by show i-j≤mm-a;omega,by show j≤b-mm;omega⟩,by rw[Gd];exact hyl,by rw[←hrt];exact tC oQ oQ oQ oQ,hS⟩,tQ,by(dsimp only;omega)⟩
   replace h23:=dQ h23
   refine Ae (I rfl (I rfl (I rfl (U (.M2 (.t rfl) (.t rfl) oQ oQ) (I rfl (I rfl (U (.addN (.t rfl) (.t rfl) oQ) (I rfl (U (.M2 (.t rfl) (.t rfl) oQ oQ) (I rfl (I rfl (A3 (eC (.ct rfl (.ct rfl (.ct rfl (.ct rfl (.cu rfl))))) (X2)) rfl (Gr (mm-i) (mm+j-i) i _ g m cp ys _ (hS.own 0 rfl) h63 oQ oQ) ?_))))))))))))
   rintro _ w3 ⟨rfl,uw3⟩
   replace hS:=hS.Ft 0 rfl uw3
   refine Ah (Aa (I rfl (I rfl (U (.M2 (.t rfl) (.t rfl) oQ oQ) (LW.A rfl (LW.nil (Al (Av ?_))))))))
   exact⟨(i,j-i,Tp ys (mm-i) (mm+j-i) i),⟨⟨by show 0<i;omega,by show 0<j-i;omega,by show i≤mm-a;omega,by show j-i≤b-mm;omega⟩,by rw[Gd];exact hyl,by rw[←hrt];exact jY oQ oQ oQ oQ,hS⟩,tQ,by(dsimp only;omega)⟩
  replace h20:=dQ h20
  have heq0:((i:Int)=j):=by simpa using h20
  have heq:i=j:=by omega
  subst heq
  refine A9 (Ac (Ac (Aq (Ab (Aa (I rfl (I rfl (I rfl (U (.M2 (.t rfl) (.t rfl) oQ oQ) (I rfl (I rfl (I rfl (A3 (eC (.ct rfl (.ct rfl (.ct rfl (.ct rfl (.cu rfl))))) (X2)) rfl (Gr (mm-i) mm i _ g m cp ys _ (hS.own 0 rfl) h63 oQ oQ) ?_)))))))))))))
  rintro _ w4 ⟨rfl,uw4⟩
  replace hS:=hS.Ft 0 rfl uw4
  refine LW.nil (Db rfl ⟨_,rfl,?_⟩)
  rw[oO oQ oQ,hrt]at hS
  exact⟨rfl,⟨hS.fr,hS.get 0 rfl,fun _ h=>.inl h⟩⟩
set_option maxHeartbeats 600000 in
theorem H3(v:Bool)(a b:Nat)(cf:Nat)(lb:Array Go.Value)(key:Fact→K2)(hen:∀args w,(callFunc cf args).run prog w=.ok (.enter cf args) w)(g m cp:Nat)(xs:List Fact)(w:World)(ho:OwnS w 0 (bif v then 47 else 218) 19 Fact.cells (.slice (some ⟨g,0,none⟩) m cp) xs)(h63:m≤1000000000)(hcmp:∀W,Fr (Aw (bif v then 47 else 218) 19 Fact.cells (.slice (some ⟨g,0,none⟩) m cp) (xs)).foot w W→∀x y,Ret prog cf (#[.agg (Fact.cells x),.agg (Fact.cells y)]++lb) W fun r W'=>r=vi (Y6 (key x) (key y))∧Up W W')(h1:a≤b)(h2:b≤m):Ret prog (bif v then 207 else 253) #[.slice (some ⟨g,0,none⟩) m cp,vi (a:Int),vi (b:Int),.func (.func cf) #[] lb] w fun r w'=>r=.tuple #[]∧∃zs,StS key (C2 xs a b) zs∧Stp (Aw (bif v then 47 else 218) 19 Fact.cells (.slice (some ⟨g,0,none⟩) m cp) (xs)) (Aw (bif v then 47 else 218) 19 Fact.cells (.slice (some ⟨g,0,none⟩) m cp) (E8 xs a b zs)) w w':=by
 have TY0:TN (bif v then 47 else 218):=⟨⟩
 have func207:=Sc v
 have nu:=Nf v
 have k7:=Ln v
 have kz:=Fw v
 cases v<;>dsimp only[cond]at*
 all_goals
  obtain⟨w0,rfl,_⟩:=W0 w
  have hxl:=ho.len
  have hS:Wx.Sep (Aw (tN TY0) 19 Fact.cells (.slice (some ⟨g,0,none⟩) m cp) (xs)).foot w0 w0 [Aw (tN TY0) 19 Fact.cells (.slice (some ⟨g,0,none⟩) m cp) (xs)]:=Sep.cons ho (fun _ h=>h) (Sep.start _ _) (by simp)
  refine cT 53 func207 rfl (Ae (I rfl (U (.ic rfl oQ) (LW.A rfl (Ah (Ai (A7 (σ:=Nat×List Fact) (fun s w=>(a+1≤s.1∧(s.1≤b∨s.1=a+1))∧(StS key (C2 xs a (min s.1 b)) s.2)∧(Wx.Sep (Aw (tN TY0) 19 Fact.cells (.slice (some ⟨g,0,none⟩) m cp) (xs)).foot w0 w [Aw (tN TY0) 19 Fact.cells (.slice (some ⟨g,0,none⟩) m cp) (E8 xs a (min s.1 b) s.2)])) (fun s=>[(8,.eq (vi (s.1:Int)))]) ([(0,.eq _),(1,.eq _),(2,.eq _),(3,.eq _)]) (fun s=>b-s.1) (a+1,C2 xs a (min (a+1) b)) ?_ tQ ?_)))))))
  ·exact⟨⟨bi _,.inr rfl⟩,StS.refl (tE (by rw[Cm (by omega)];omega)),by rw[Hc oQ (by omega)];exact hS⟩
  rintro⟨i,zs⟩ w1 ⟨hi,hz,hS⟩
  dsimp only at hi hz hS
  change CW _ _ _ _ _ _ _ ([(8,.eq (vi (i:Int)))]++_) _
  refine Ak (Ae (I rfl (I rfl (U (.l2 rfl rfl) (Ah (CW.b rfl (fun h14=>?_) (fun h14=>?_)))))))
  ·refine Aj (Ab (Ak (Ai (Ak ?_))))
   have hib:i<b:=by simp at h14;omega
   rw[dk (by omega)]at hz hS
   have hzl:zs.length=i-a:=by rw[hz.same.length,Cm (by omega)]
   obtain⟨x,hx⟩:=Af (xs:=xs) (i:=i) oQ
   refine Aa (I rfl (LW.A rfl (Ah (Ai (A7 (σ:=Nat) (fun s w=>(a≤s∧s≤i)∧(∀y∈zs.drop (s-a),Hz (key x) (key y)=true)∧(Wx.Sep (Aw (tN TY0) 19 Fact.cells (.slice (some ⟨g,0,none⟩) m cp) (xs)).foot w0 w [Aw (tN TY0) 19 Fact.cells (.slice (some ⟨g,0,none⟩) m cp) (E8 xs a (i+1) (C3 zs x (s-a)))])) (fun s=>[(9,.eq (vi (s:Int)))]) ([(0,.eq _),(1,.eq _),(2,.eq _),(3,.eq _),(8,.eq _)]) (fun s=>s) i ?_ tQ ?_)))))
   ·exact⟨⟨by omega,bi _⟩,by rw[ip (by omega)];simp,by rw[←hzl,U9,Yw oQ hx hzl];exact hS⟩
   rintro j w2 ⟨hj,hgt,hS⟩
   refine Ak (Ak ?_)
   skip
   cases hq4:decide (a<j)with
   |true=>
    have haj:=b8 hq4
    obtain⟨y,hy⟩:=Af (xs:=zs) (i:=j-a-1) oQ
    have hjx:(E8 xs a (i+1) (C3 zs x (j-a)))[j]?=some x:=by have:=Yx (xs:=xs) (a:=a) (b:=i+1) (zs:=zs) (x:=x) (p:=j-a) oQ oQ oQ (by omega);rwa [show a+(j-a)=j by omega]at this
    have hjy:(E8 xs a (i+1) (C3 zs x (j-a)))[j-1]?=some y:=by have:=Nd (xs:=xs) (a:=a) (b:=i+1) (zs:=zs) (x:=x) (p:=j-a) (q:=j-a-1) oQ oQ oQ oQ (by omega);rw[show a+(j-a-1)=j-1 by omega]at this;exact this.trans hy
    refine C0 kQ kQ rfl rfl (J (.mv rfl) (J (.mv rfl) (J (.tr (PEv.gtr (.t rfl) (.t rfl)) (bj oQ)) (J (.mv rfl) (C1 (.mv rfl) (C1 (.mv rfl) (C1 (.mv rfl) (C1 (.indexAddr kz k7 (.t rfl) (.t rfl) oQ) (C1 (.lc rfl ((hS.own 0 rfl).at (fun _=>rfl) hjx)) (C1 (.mv rfl) (C1 (.mv rfl) (C1 (.dec (.t rfl) oQ oQ) (C1 (.indexAddr kz k7 (.t rfl) (.t rfl) oQ) (C1 (.lc rfl ((hS.own 0 rfl).at (fun _=>rfl) hjy)) (vO rfl rfl rfl rfl rfl (fun a w _ ha=>Cs (.t rfl) (.ct rfl (.cu rfl)) (hen) a ha) rfl (fun w hu=>hcmp w (hS.fr.trans (hu.fr _)) x y) (C1 (.lss (.t rfl) (.const _)) (J (.pa rfl (fun hp=>(by exact .tmp rfl))) (HW.nil ?_))))))))))))))))))
    intro w3 uw3
    replace hS:=hS.up uw3
    refine Ab (CW.b rfl (fun h34=>?_) (fun h34=>?_))
    ·refine Aj (Ab (Ak (Ai (Km 15 17 [.slice (some ⟨g,0,none⟩) m cp,vi ((j:Nat):Int),.slice (some ⟨g,0,none⟩) m cp,vi ((j:Nat):Int),vi ((j-1:Nat):Int),.slice (some ⟨g,0,none⟩) m cp,vi ((j:Nat):Int),vi ((j-1:Nat):Int),.pointer (some ⟨g,0+(j-1)*19,none⟩),.agg (Fact.cells y),.slice (some ⟨g,0,none⟩) m cp,vi ((j:Nat):Int),.pointer (some ⟨g,0+(j)*19,none⟩),.agg (Fact.cells x),.pointer (some ⟨g,0+(j)*19,none⟩),undef,.pointer (some ⟨g,0+(j-1)*19,none⟩),undef] (fun W=>Wx.Sep (Aw (tN TY0) 19 Fact.cells (.slice (some ⟨g,0,none⟩) m cp) (xs)).foot w0 W [Aw (tN TY0) 19 Fact.cells (.slice (some ⟨g,0,none⟩) m cp) (E8 xs a (i+1) (C3 zs x (j-a)))]) (fun W=>Wx.Sep (Aw (tN TY0) 19 Fact.cells (.slice (some ⟨g,0,none⟩) m cp) (xs)).foot w0 W [Aw (tN TY0) 19 Fact.cells (.slice (some ⟨g,0,none⟩) m cp) ((E8 xs a (i+1) (C3 zs x (j-a))).set (j) y)]) (fun W=>Wx.Sep (Aw (tN TY0) 19 Fact.cells (.slice (some ⟨g,0,none⟩) m cp) (xs)).foot w0 W [Aw (tN TY0) 19 Fact.cells (.slice (some ⟨g,0,none⟩) m cp) (((E8 xs a (i+1) (C3 zs x (j-a))).set (j) y).set (j-1) x)]) kQ rfl kQ kQ kQ kQ kQ kQ (hS.up (Up.drew _)) ?_ _ _ rfl rfl ⟨rfl,rfl⟩ ⟨rfl,rfl⟩ ?_ ?_ ?_))))
     ·refine aC (.inr ⟨rfl,.inr fun W=>PEv.mv rfl⟩) (aC (.inr ⟨rfl,.inr fun W=>PEv.mv rfl⟩) (aC (.inr ⟨rfl,.inr fun W=>PEv.mv rfl⟩) (aC (.inr ⟨rfl,.inr fun W=>PEv.mv rfl⟩) (aC (.inr ⟨rfl,.inr fun W=>PEv.dec (.t rfl) oQ oQ⟩) (aC (.inr ⟨rfl,.inr fun W=>PEv.mv rfl⟩) (aC (.inr ⟨rfl,.inr fun W=>PEv.mv rfl⟩) (aC (.inr ⟨rfl,.inr fun W=>PEv.dec (.t rfl) oQ oQ⟩) (aC (.inr ⟨rfl,.inr fun W=>PEv.indexAddr kz k7 (.t rfl) (.t rfl) oQ⟩) (aC (.inr ⟨rfl,.inl ⟨by kernel_rfl,fun W hS=>PEv.lc rfl ((hS.own 0 rfl).at (fun _=>rfl) hjy)⟩⟩) (aC (.inr ⟨rfl,.inr fun W=>PEv.mv rfl⟩) (aC (.inr ⟨rfl,.inr fun W=>PEv.mv rfl⟩) (aC (.inr ⟨rfl,.inr fun W=>PEv.indexAddr kz k7 (.t rfl) (.t rfl) oQ⟩) (aC (.inr ⟨rfl,.inl ⟨by kernel_rfl,fun W hS=>PEv.lc rfl ((hS.own 0 rfl).at (fun _=>rfl) hjx)⟩⟩) (aC (.inr ⟨rfl,.inr fun W=>PEv.indexAddr kz k7 (.t rfl) (.t rfl) oQ⟩) (aC (.inl (by simp)) (aC (.inr ⟨rfl,.inr fun W=>PEv.indexAddr kz k7 (.t rfl) (.t rfl) oQ⟩) (aC (.inl (by simp)) ?_)))))))))))))))))
      exact allL.nil
     ·intro W hS
      exact SEv.mono (Eo (i:=j) (z:=y) k7 (fun _=>rfl) Fact.one (.t rfl) (.t rfl) (hS.own 0 rfl) oQ) (fun _ h=>hS.Ft 0 rfl h)
     ·intro W hS
      exact SEv.mono (Eo (i:=j-1) (z:=x) k7 (fun _=>rfl) Fact.one (.t rfl) (.t rfl) (hS.own 0 rfl) oQ) (fun _ h=>hS.Ft 0 rfl h)
     intro w4 hS
     have hS:Wx.Sep (Aw (tN TY0) 19 Fact.cells (.slice (some ⟨g,0,none⟩) m cp) (xs)).foot w0 w4 [Aw (tN TY0) 19 Fact.cells (.slice (some ⟨g,0,none⟩) m cp) (((E8 xs a (i+1) (C3 zs x (j-a))).set (j) y).set (j-1) x)]:=hS
     refine Al (Ab (Aa (I rfl (U (.dec (.t rfl) oQ oQ) (LW.A rfl (LW.nil (Av ?_)))))))
     exact⟨j-1,⟨⟨by omega,by omega⟩,by rw[show j-1-a=j-a-1 by omega];exact kA oQ hy hgt (by rw[←H4];simpa using h34),by have:=Yy (xs:=xs) (a:=a) (b:=i+1) (x:=x) (p:=j-a-1) (y:=y) oQ oQ oQ oQ hy;rw[show j-a-1+1=j-a by omega,show a+(j-a)=j by omega,show a+(j-a-1)=j-1 by omega]at this;rw[show j-1-a=j-a-1 by omega,←this];exact hS⟩,tQ,by omega⟩
    refine A9 (Ac (Ac (Aq (Al (Ab (Aa (I rfl (U (.ic rfl oQ) (LW.A rfl (LW.nil (Av ?_)))))))))))
    exact⟨(i+1,C3 zs x (j-a)),⟨⟨by omega,by omega⟩,by rw[dk oQ,Lm oQ hx];exact hz.snoc oQ hgt (.inr ⟨y,hy,by rw[←H4];simpa using h34⟩),by rw[dk (by omega)];exact hS⟩,tQ,by omega⟩
   |false=>
    refine C0 kQ kQ rfl rfl (J (.mv rfl) (J (.mv rfl) (J (.fa (PEv.gtr (.t rfl) (.t rfl)) (bx (by have:=cr hq4;omega))) (J (.mv rfl) (D0 (D0 (D0 (D0 (D0 (D0 (D0 (D0 (D0 (D0 (D0 (D0 (J (.C6 (b:=false) (.t rfl) (fun hp=>absurd (show false=true from hp) cQ)) (HW.nil ?_))))))))))))))))))
    intro w5 uw5
    replace hS:=hS.up uw5
    refine Ab (CW.f rfl (A9 (Ac (Ac (Aq (Al (Ab (Aa (I rfl (U (.ic rfl oQ) (LW.A rfl (LW.nil (Av ?_)))))))))))))
    exact⟨(i+1,C3 zs x (j-a)),⟨⟨by omega,by omega⟩,by rw[dk oQ,Lm oQ hx];exact hz.snoc oQ hgt (.inl (by have:=cr hq4;omega)),by rw[dk (by omega)];exact hS⟩,tQ,by omega⟩
  refine A9 (Ac (Ac (Aq (Db rfl ⟨_,rfl,?_⟩))))
  have hbi:min i b=b:=by simp at h14;omega
  rw[hbi]at hz hS
  exact⟨rfl,zs,hz,⟨hS.fr,hS.get 0 rfl,fun _ h=>.inl h⟩⟩
set_option maxHeartbeats 16000000 in
theorem Il(v:Bool)(cf:Nat)(lb:Array Go.Value)(key:Fact→K2)(hen:∀args w,(callFunc cf args).run prog w=.ok (.enter cf args) w)(g m cp:Nat)(h63:m≤1000000000):∀(N a mm b:Nat)(xs:List Fact)(w:World),b-a≤N→OwnS w 0 (bif v then 47 else 218) 19 Fact.cells (.slice (some ⟨g,0,none⟩) m cp) xs→(∀W,Fr (Aw (bif v then 47 else 218) 19 Fact.cells (.slice (some ⟨g,0,none⟩) m cp) (xs)).foot w W→∀x y,Ret prog cf (#[.agg (Fact.cells x),.agg (Fact.cells y)]++lb) W fun r W'=>r=vi (Y6 (key x) (key y))∧Up W W')→a<mm→mm<b→b≤m→Ja key (C2 xs a mm)→Ja key (C2 xs mm b)→
   Ret prog (bif v then 208 else 254) #[.slice (some ⟨g,0,none⟩) m cp,vi (a:Int),vi (mm:Int),vi (b:Int),.func (.func cf) #[] lb] w fun r w'=>r=.tuple #[]∧∃zs,StS key (C2 xs a b) zs∧Stp (Aw (bif v then 47 else 218) 19 Fact.cells (.slice (some ⟨g,0,none⟩) m cp) (xs)) (Aw (bif v then 47 else 218) 19 Fact.cells (.slice (some ⟨g,0,none⟩) m cp) (E8 xs a b zs)) w w':=by
 have TY0:TN (bif v then 47 else 218):=⟨⟩
 have Rl:=Za v
 have nA:=pB v
 have func208:=dE v
 have nu:=Nf v
 have k7:=Ln v
 have kz:=Fw v
 have Ng:=@Ng v
 cases v<;>dsimp only[cond]at*
 all_goals
  intro N
  induction N with
  |zero=>intro a mm b xs w hN _ _ h1 h2;omega
  |succ N ih=>
  intro a mm b xs w hN ho hcmp h1 h2 h3 hsA hsB
  obtain⟨w0,rfl,_⟩:=W0 w
  have hxl:=ho.len
  have hS:Wx.Sep (Aw (tN TY0) 19 Fact.cells (.slice (some ⟨g,0,none⟩) m cp) (xs)).foot w0 w0 [Aw (tN TY0) 19 Fact.cells (.slice (some ⟨g,0,none⟩) m cp) (xs)]:=Sep.cons ho (fun _ h=>h) (Sep.start _ _) (by simp)
  refine cT 220 func208 rfl (Ak (Ak ?_))
  cases hq0:decide (mm-a=1)with
  |true=>
   have hq0:=b8 hq0
   obtain rfl:mm=a+1:=by omega
   obtain⟨x,hx⟩:=Af (xs:=xs) (i:=a) oQ
   refine Aa (I rfl (I rfl (U (.M2 (.t rfl) (.t rfl) oQ oQ) (U (.tr (PEv.eql (.t rfl) (.const _)) (bj oQ)) (Ah (CW.v rfl (Ae (I rfl (LW.A rfl (An (Aa (I rfl (LW.A rfl (An (Ai (A7 (σ:=Nat×Nat) (fun s w=>(a+1≤s.1∧s.1≤s.2∧s.2≤b)∧(∀q y,a+1≤q→q<s.1→xs[q]?=some y→Hz (key y) (key x)=true)∧(∀q y,s.2≤q→q<b→xs[q]?=some y→Hz (key y) (key x)=false)∧(Wx.Sep (Aw (tN TY0) 19 Fact.cells (.slice (some ⟨g,0,none⟩) m cp) (xs)).foot w0 w [Aw (tN TY0) 19 Fact.cells (.slice (some ⟨g,0,none⟩) m cp) (xs)])) (fun s=>[(10,.eq (vi (s.1:Int))),(11,.eq (vi (s.2:Int)))]) ([(0,.eq _),(1,.eq _),(2,.eq _),(3,.eq _),(4,.eq _)]) (fun s=>s.2-s.1) (a+1,b) ?_ tQ ?_))))))))))))))))
   ·exact⟨⟨bi _,by show a+1≤b;omega,bi _⟩,fun q y h1 h2=>absurd (show q<a+1 from h2) oQ,fun q y h1 h2=>absurd (show b≤q from h1) oQ,hS⟩
   rintro⟨i,j⟩ w1 ⟨hij,hL,hR,hS⟩
   dsimp only at hij hL hR hS
   change CW _ _ _ _ _ _ _ ([(10,.eq (vi (i:Int))),(11,.eq (vi (j:Int)))]++_) _
   refine Ak (Ae (I rfl (I rfl (U (.l2 rfl rfl) (Ah (CW.b rfl (fun h33=>?_) (fun h33=>?_)))))))
   ·replace h33:=dQ h33
    refine Aj (Ab (Ai (Ae (I rfl (I rfl (U (.addN (.t rfl) (.t rfl) oQ) (U (.val (v':=vu (i+j)) (PEv.conv (k':=.u64) (by rw[k9];rfl) l6 (.t rfl)) (Q3 oQ)) (U (.val (v':=vu ((i+j)/2)) (PEv.Us (j:=1) (.t rfl) (.const _)) Oa) (U (.val (v':=vi (((i+j)/2:Nat):Int)) (PEv.conv (k':=.i64) (by rw[l6];rfl) k9 (.t rfl)) (Q4 oQ)) (LW.A rfl (An ?_)))))))))))
    have hlt:i<j:=by simp at h33;omega
    obtain⟨y,hy⟩:=Af (xs:=xs) (i:=(i+j)/2) oQ
    refine C0 kQ kQ rfl rfl (J (.mv rfl) (J (.mv rfl) (J (.mv rfl) (J (.indexAddr kz k7 (.t rfl) (.t rfl) oQ) (J (.lc rfl ((hS.own 0 rfl).at (fun _=>rfl) hy)) (J (.mv rfl) (J (.mv rfl) (J (.indexAddr kz k7 (.t rfl) (.t rfl) oQ) (J (.lc rfl ((hS.own 0 rfl).at (fun _=>rfl) hx)) (HW.c (fun a w _ ha=>Cs (.t rfl) (.ct rfl (.cu rfl)) (hen) a ha) rfl rfl (fun w hu=>hcmp w (hS.fr.trans (hu.fr _)) y x) (J (.lss (.t rfl) (.const _)) (HW.nil ?_))))))))))))
    intro w2 uw2
    replace hS:=hS.up uw2
    refine Ab (CW.b rfl (fun h50=>?_) (fun h50=>?_))
    ·replace h50:=dQ h50
     refine Aa (I rfl (U (.ic rfl oQ) (LW.A rfl (LW.nil (Al (Av ?_))))))
     exact⟨((i+j)/2+1,j),⟨⟨by show a+1≤(i+j)/2+1;omega,by show(i+j)/2+1≤j;omega,by show j≤b;omega⟩,fun q z q1 q2 hz=>fO (Jg hsB q1 (show q≤(i+j)/2 from Nat.le_of_lt_succ q2) oQ hz hy) (by rw[←H4];exact bj h50),hR,hS⟩,tQ,by omega⟩
    replace h50:=dQ h50
    refine Aa (I rfl (LW.A rfl (LW.nil (Al (Av ?_)))))
    exact⟨(i,(i+j)/2),⟨⟨by show a+1≤i;omega,by show i≤(i+j)/2;omega,by show(i+j)/2≤b;omega⟩,hL,fun q z q1 q2 hz=>J0 (by rw[←H4];exact bx h50) (Jg hsB oQ (show(i+j)/2≤q from q1) q2 hy hz),hS⟩,tQ,by omega⟩
   replace h33:=dQ h33
   refine A9 (Ac (Ac (Aq (Ab (Ak (Ak ?_))))))
   have hij2:i=j:=by simp at h33;omega
   have hzl:(C2 xs (a+1) b).length=b-(a+1):=Cm oQ
   have hsx:x::C2 xs (a+1) b=C2 xs a b:=(oZ hx oQ oQ).symm
   refine Aa (I rfl (LW.A rfl (Ah (Ai (A7 (σ:=Nat) (fun s w=>(a≤s∧s≤i-1)∧(Wx.Sep (Aw (tN TY0) 19 Fact.cells (.slice (some ⟨g,0,none⟩) m cp) (xs)).foot w0 w [Aw (tN TY0) 19 Fact.cells (.slice (some ⟨g,0,none⟩) m cp) (E8 xs a b (C3 (C2 xs (a+1) b) x (s-a)))])) (fun s=>[(13,.eq (vi (s:Int)))]) ([(0,.eq _),(1,.eq _),(2,.eq _),(3,.eq _),(4,.eq _),(10,.eq _)]) (fun s=>i-s) a ?_ tQ ?_)))))
   ·exact⟨⟨bi _,by omega⟩,by rw[jn,Yv,hsx,Hc oQ (by omega)];exact hS⟩
   rintro k w3 ⟨hk,hS⟩
   refine Ak (Ae (I rfl (I rfl (U (.dec (.t rfl) oQ oQ) (U (.l2 rfl rfl) (Ah (CW.b rfl (fun h58=>?_) (fun h58=>?_))))))))
   ·replace h58:=dQ h58
    refine Aj (Ab (Ak (Ai ?_)))
    have hki:k<i-1:=by simp at h58;omega
    obtain⟨y,hy⟩:=Af (xs:=C2 xs (a+1) b) (i:=k-a) oQ
    have hrl:(E8 xs a b (C3 (C2 xs (a+1) b) x (k-a))).length=m:=by rw[Dv oQ oQ (by rw[Eb];omega)];exact hxl
    have hkx:(E8 xs a b (C3 (C2 xs (a+1) b) x (k-a)))[k]?=some x:=by have:=Yx (xs:=xs) (a:=a) (b:=b) (zs:=C2 xs (a+1) b) (x:=x) (p:=k-a) oQ oQ oQ (by omega);rwa [show a+(k-a)=k by omega]at this
    have hky:(E8 xs a b (C3 (C2 xs (a+1) b) x (k-a)))[k+1]?=some y:=by have:=R6 (xs:=xs) (a:=a) (b:=b) (zs:=C2 xs (a+1) b) (x:=x) (p:=k-a) (q:=k-a+1) oQ oQ oQ oQ (by omega);rw[show a+(k-a+1)=k+1 by omega]at this;exact this.trans hy
    refine Km 15 17 [.slice (some ⟨g,0,none⟩) m cp,vi ((k:Nat):Int),.slice (some ⟨g,0,none⟩) m cp,vi ((k:Nat):Int),vi ((k+1:Nat):Int),.slice (some ⟨g,0,none⟩) m cp,vi ((k:Nat):Int),vi ((k+1:Nat):Int),.pointer (some ⟨g,0+(k+1)*19,none⟩),.agg (Fact.cells y),.slice (some ⟨g,0,none⟩) m cp,vi ((k:Nat):Int),.pointer (some ⟨g,0+(k)*19,none⟩),.agg (Fact.cells x),.pointer (some ⟨g,0+(k)*19,none⟩),undef,.pointer (some ⟨g,0+(k+1)*19,none⟩),undef] (fun W=>Wx.Sep (Aw (tN TY0) 19 Fact.cells (.slice (some ⟨g,0,none⟩) m cp) (xs)).foot w0 W [Aw (tN TY0) 19 Fact.cells (.slice (some ⟨g,0,none⟩) m cp) (E8 xs a b (C3 (C2 xs (a+1) b) x (k-a)))]) (fun W=>Wx.Sep (Aw (tN TY0) 19 Fact.cells (.slice (some ⟨g,0,none⟩) m cp) (xs)).foot w0 W [Aw (tN TY0) 19 Fact.cells (.slice (some ⟨g,0,none⟩) m cp) ((E8 xs a b (C3 (C2 xs (a+1) b) x (k-a))).set (k) y)]) (fun W=>Wx.Sep (Aw (tN TY0) 19 Fact.cells (.slice (some ⟨g,0,none⟩) m cp) (xs)).foot w0 W [Aw (tN TY0) 19 Fact.cells (.slice (some ⟨g,0,none⟩) m cp) (((E8 xs a b (C3 (C2 xs (a+1) b) x (k-a))).set (k) y).set (k+1) x)]) kQ rfl kQ kQ kQ kQ kQ kQ (hS.up (Up.drew _)) ?_ _ _ rfl rfl ⟨rfl,rfl⟩ ⟨rfl,rfl⟩ ?_ ?_ ?_
    ·refine aC (.inr ⟨rfl,.inr fun W=>PEv.mv rfl⟩) (aC (.inr ⟨rfl,.inr fun W=>PEv.mv rfl⟩) (aC (.inr ⟨rfl,.inr fun W=>PEv.mv rfl⟩) (aC (.inr ⟨rfl,.inr fun W=>PEv.mv rfl⟩) (aC (.inr ⟨rfl,.inr fun W=>PEv.ic rfl oQ⟩) (aC (.inr ⟨rfl,.inr fun W=>PEv.mv rfl⟩) (aC (.inr ⟨rfl,.inr fun W=>PEv.mv rfl⟩) (aC (.inr ⟨rfl,.inr fun W=>PEv.ic rfl oQ⟩) (aC (.inr ⟨rfl,.inr fun W=>PEv.indexAddr kz k7 (.t rfl) (.t rfl) oQ⟩) (aC (.inr ⟨rfl,.inl ⟨by kernel_rfl,fun W hS=>PEv.lc rfl ((hS.own 0 rfl).at (fun _=>rfl) hky)⟩⟩) (aC (.inr ⟨rfl,.inr fun W=>PEv.mv rfl⟩) (aC (.inr ⟨rfl,.inr fun W=>PEv.mv rfl⟩) (aC (.inr ⟨rfl,.inr fun W=>PEv.indexAddr kz k7 (.t rfl) (.t rfl) oQ⟩) (aC (.inr ⟨rfl,.inl ⟨by kernel_rfl,fun W hS=>PEv.lc rfl ((hS.own 0 rfl).at (fun _=>rfl) hkx)⟩⟩) (aC (.inr ⟨rfl,.inr fun W=>PEv.indexAddr kz k7 (.t rfl) (.t rfl) oQ⟩) (aC (.inl (by simp)) (aC (.inr ⟨rfl,.inr fun W=>PEv.indexAddr kz k7 (.t rfl) (.t rfl) oQ⟩) (aC (.inl (by simp)) ?_)))))))))))))))))
     exact allL.nil
    ·intro W hS
     exact SEv.mono (Eo (i:=k) (z:=y) k7 (fun _=>rfl) Fact.one (.t rfl) (.t rfl) (hS.own 0 rfl) oQ) (fun _ h=>hS.Ft 0 rfl h)
    ·intro W hS
     exact SEv.mono (Eo (i:=k+1) (z:=x) k7 (fun _=>rfl) Fact.one (.t rfl) (.t rfl) (hS.own 0 rfl) oQ) (fun _ h=>hS.Ft 0 rfl h)
    intro w4 hS
    have hS:Wx.Sep (Aw (tN TY0) 19 Fact.cells (.slice (some ⟨g,0,none⟩) m cp) (xs)).foot w0 w4 [Aw (tN TY0) 19 Fact.cells (.slice (some ⟨g,0,none⟩) m cp) (((E8 xs a b (C3 (C2 xs (a+1) b) x (k-a))).set (k) y).set (k+1) x)]:=hS
    refine Al (Ab (Aa (I rfl (U (.ic rfl oQ) (LW.A rfl (LW.nil (Av ?_)))))))
    exact⟨k+1,⟨⟨by omega,by omega⟩,by have:=yJ (xs:=xs) (a:=a) (b:=b) (x:=x) (p:=k-a) (y:=y) oQ oQ oQ oQ hy;rw[show a+(k-a)=k by omega,show a+(k-a+1)=k+1 by omega]at this;rw[show k+1-a=k-a+1 by omega,←this];exact hS⟩,tQ,by omega⟩
   replace h58:=dQ h58
   refine A9 (Ac (Ac (Aq (Ab (Am (Au (F8 rfl ⟨_,rfl,?_⟩)))))))
   have hk2:k-a=i-(a+1):=by simp at h58;omega
   rw[hk2]at hS
   exact⟨rfl,_,tG oQ hx oQ oQ hsB hL (by rw[hij2];exact hR),⟨hS.fr,hS.get 0 rfl,fun _ h=>.inl h⟩⟩
  |false=>
   have hq0:=cr hq0
   refine Aa (I rfl (I rfl (U (.M2 (.t rfl) (.t rfl) oQ oQ) (U (.fa (PEv.eql (.t rfl) (.const _)) (bx oQ)) (Ah (CW.f rfl (Aj (Ab (Ak (Ak ?_))))))))))
   cases hq12:decide (b-mm=1)with
   |true=>
    have hq12:=b8 hq12
    obtain rfl:b=mm+1:=by omega
    obtain⟨x,hx⟩:=Af (xs:=xs) (i:=mm) oQ
    refine Aa (I rfl (I rfl (U (.M2 (.t rfl) (.t rfl) oQ oQ) (U (.tr (PEv.eql (.t rfl) (.const _)) (bj oQ)) (Ah (CW.v rfl (Ae (I rfl (LW.A rfl (An (Aa (I rfl (LW.A rfl (An (Ai (A7 (σ:=Nat×Nat) (fun s w=>(a≤s.1∧s.1≤s.2∧s.2≤mm)∧(∀q y,a≤q→q<s.1→xs[q]?=some y→Hz (key x) (key y)=false)∧(∀q y,s.2≤q→q<mm→xs[q]?=some y→Hz (key x) (key y)=true)∧(Wx.Sep (Aw (tN TY0) 19 Fact.cells (.slice (some ⟨g,0,none⟩) m cp) (xs)).foot w0 w [Aw (tN TY0) 19 Fact.cells (.slice (some ⟨g,0,none⟩) m cp) (xs)])) (fun s=>[(14,.eq (vi (s.1:Int))),(15,.eq (vi (s.2:Int)))]) ([(0,.eq _),(1,.eq _),(2,.eq _),(3,.eq _),(4,.eq _)]) (fun s=>s.2-s.1) (a,mm) ?_ tQ ?_))))))))))))))))
    ·exact⟨⟨bi _,by show a≤mm;omega,bi _⟩,fun q y h1 h2=>absurd (show q<a from h2) oQ,fun q y h1 h2=>absurd (show mm≤q from h1) oQ,hS⟩
    rintro⟨i,j⟩ w5 ⟨hij,hL,hR,hS⟩
    dsimp only at hij hL hR hS
    change CW _ _ _ _ _ _ _ ([(14,.eq (vi (i:Int))),(15,.eq (vi (j:Int)))]++_) _
    refine Ak (Ae (I rfl (I rfl (U (.l2 rfl rfl) (Ah (CW.b rfl (fun h85=>?_) (fun h85=>?_)))))))
    ·refine Aj (Ab (Ai (Ae (I rfl (I rfl (U (.addN (.t rfl) (.t rfl) oQ) (U (.val (v':=vu (i+j)) (PEv.conv (k':=.u64) (by rw[k9];rfl) l6 (.t rfl)) (Q3 oQ)) (U (.val (v':=vu ((i+j)/2)) (PEv.Us (j:=1) (.t rfl) (.const _)) Oa) (U (.val (v':=vi (((i+j)/2:Nat):Int)) (PEv.conv (k':=.i64) (by rw[l6];rfl) k9 (.t rfl)) (Q4 oQ)) (LW.A rfl (An ?_)))))))))))
     have hlt:i<j:=by simp at h85;omega
     obtain⟨y,hy⟩:=Af (xs:=xs) (i:=(i+j)/2) oQ
     refine C0 kQ kQ rfl rfl (J (.mv rfl) (J (.mv rfl) (J (.mv rfl) (J (.indexAddr kz k7 (.t rfl) (.t rfl) oQ) (J (.lc rfl ((hS.own 0 rfl).at (fun _=>rfl) hx)) (J (.mv rfl) (J (.mv rfl) (J (.indexAddr kz k7 (.t rfl) (.t rfl) oQ) (J (.lc rfl ((hS.own 0 rfl).at (fun _=>rfl) hy)) (HW.c (fun a w _ ha=>Cs (.t rfl) (.ct rfl (.cu rfl)) (hen) a ha) rfl rfl (fun w hu=>hcmp w (hS.fr.trans (hu.fr _)) x y) (J (.lss (.t rfl) (.const _)) (J (.n1 rfl) (HW.nil ?_)))))))))))))
     intro w6 uw6
     replace hS:=hS.up uw6
     refine Ab (CW.b rfl (fun h103=>?_) (fun h103=>?_))
     ·refine Aa (I rfl (U (.ic rfl oQ) (LW.A rfl (LW.nil (Al (Av ?_))))))
      exact⟨((i+j)/2+1,j),⟨⟨by show a≤(i+j)/2+1;omega,by show(i+j)/2+1≤j;omega,by show j≤mm;omega⟩,fun q z q1 q2 hz=>J0 (Jg hsA q1 (show q≤(i+j)/2 from Nat.le_of_lt_succ q2) oQ hz hy) (by rw[←H4];simpa using h103),hR,hS⟩,tQ,by omega⟩
     refine Aa (I rfl (LW.A rfl (LW.nil (Al (Av ?_)))))
     exact⟨(i,(i+j)/2),⟨⟨by show a≤i;omega,by show i≤(i+j)/2;omega,by show(i+j)/2≤mm;omega⟩,hL,fun q z q1 q2 hz=>Wc (by rw[←H4];simpa using h103) (Jg hsA oQ (show(i+j)/2≤q from q1) q2 hy hz),hS⟩,tQ,by omega⟩
    refine A9 (Ac (Ac (Aq (Ab (Ak (Ak ?_))))))
    have hij2:i=j:=by simp at h85;omega
    have hzl:(C2 xs a mm).length=mm-a:=Cm oQ
    refine Aa (I rfl (LW.A rfl (Ah (Ai (A7 (σ:=Nat) (fun s w=>(i≤s∧s≤mm)∧(Wx.Sep (Aw (tN TY0) 19 Fact.cells (.slice (some ⟨g,0,none⟩) m cp) (xs)).foot w0 w [Aw (tN TY0) 19 Fact.cells (.slice (some ⟨g,0,none⟩) m cp) (E8 xs a (mm+1) (C3 (C2 xs a mm) x (s-a)))])) (fun s=>[(17,.eq (vi (s:Int)))]) ([(0,.eq _),(1,.eq _),(2,.eq _),(3,.eq _),(4,.eq _),(14,.eq _)]) (fun s=>s) mm ?_ tQ ?_)))))
    ·exact⟨⟨by omega,bi _⟩,by rw[←hzl,U9,Yw oQ hx hzl,Hc oQ (by omega)];exact hS⟩
    rintro k w7 ⟨hk,hS⟩
    refine Ak (Ae (I rfl (I rfl (U (.gtr (.t rfl) (.t rfl)) (Ah (CW.b rfl (fun h110=>?_) (fun h110=>?_)))))))
    ·refine Aj (Ab (Ak (Ai ?_)))
     have hki:i<k:=by simp at h110;omega
     obtain⟨y,hy⟩:=Af (xs:=C2 xs a mm) (i:=k-a-1) oQ
     have hrl:(E8 xs a (mm+1) (C3 (C2 xs a mm) x (k-a))).length=m:=by rw[Dv oQ oQ (by rw[Eb];omega)];exact hxl
     have hkx:(E8 xs a (mm+1) (C3 (C2 xs a mm) x (k-a)))[k]?=some x:=by have:=Yx (xs:=xs) (a:=a) (b:=mm+1) (zs:=C2 xs a mm) (x:=x) (p:=k-a) oQ oQ oQ (by omega);rwa [show a+(k-a)=k by omega]at this
     have hky:(E8 xs a (mm+1) (C3 (C2 xs a mm) x (k-a)))[k-1]?=some y:=by have:=Nd (xs:=xs) (a:=a) (b:=mm+1) (zs:=C2 xs a mm) (x:=x) (p:=k-a) (q:=k-a-1) oQ oQ oQ oQ (by omega);rw[show a+(k-a-1)=k-1 by omega]at this;exact this.trans hy
     refine Km 15 17 [.slice (some ⟨g,0,none⟩) m cp,vi ((k:Nat):Int),.slice (some ⟨g,0,none⟩) m cp,vi ((k:Nat):Int),vi ((k-1:Nat):Int),.slice (some ⟨g,0,none⟩) m cp,vi ((k:Nat):Int),vi ((k-1:Nat):Int),.pointer (some ⟨g,0+(k-1)*19,none⟩),.agg (Fact.cells y),.slice (some ⟨g,0,none⟩) m cp,vi ((k:Nat):Int),.pointer (some ⟨g,0+(k)*19,none⟩),.agg (Fact.cells x),.pointer (some ⟨g,0+(k)*19,none⟩),undef,.pointer (some ⟨g,0+(k-1)*19,none⟩),undef] (fun W=>Wx.Sep (Aw (tN TY0) 19 Fact.cells (.slice (some ⟨g,0,none⟩) m cp) (xs)).foot w0 W [Aw (tN TY0) 19 Fact.cells (.slice (some ⟨g,0,none⟩) m cp) (E8 xs a (mm+1) (C3 (C2 xs a mm) x (k-a)))]) (fun W=>Wx.Sep (Aw (tN TY0) 19 Fact.cells (.slice (some ⟨g,0,none⟩) m cp) (xs)).foot w0 W [Aw (tN TY0) 19 Fact.cells (.slice (some ⟨g,0,none⟩) m cp) ((E8 xs a (mm+1) (C3 (C2 xs a mm) x (k-a))).set (k) y)]) (fun W=>Wx.Sep (Aw (tN TY0) 19 Fact.cells (.slice (some ⟨g,0,none⟩) m cp) (xs)).foot w0 W [Aw (tN TY0) 19 Fact.cells (.slice (some ⟨g,0,none⟩) m cp) (((E8 xs a (mm+1) (C3 (C2 xs a mm) x (k-a))).set (k) y).set (k-1) x)]) kQ rfl kQ kQ kQ kQ kQ kQ (hS.up (Up.drew _)) ?_ _ _ rfl rfl ⟨rfl,rfl⟩ ⟨rfl,rfl⟩ ?_ ?_ ?_
     ·refine aC (.inr ⟨rfl,.inr fun W=>PEv.mv rfl⟩) (aC (.inr ⟨rfl,.inr fun W=>PEv.mv rfl⟩) (aC (.inr ⟨rfl,.inr fun W=>PEv.mv rfl⟩) (aC (.inr ⟨rfl,.inr fun W=>PEv.mv rfl⟩) (aC (.inr ⟨rfl,.inr fun W=>PEv.dec (.t rfl) oQ oQ⟩) (aC (.inr ⟨rfl,.inr fun W=>PEv.mv rfl⟩) (aC (.inr ⟨rfl,.inr fun W=>PEv.mv rfl⟩) (aC (.inr ⟨rfl,.inr fun W=>PEv.dec (.t rfl) oQ oQ⟩) (aC (.inr ⟨rfl,.inr fun W=>PEv.indexAddr kz k7 (.t rfl) (.t rfl) oQ⟩) (aC (.inr ⟨rfl,.inl ⟨by kernel_rfl,fun W hS=>PEv.lc rfl ((hS.own 0 rfl).at (fun _=>rfl) hky)⟩⟩) (aC (.inr ⟨rfl,.inr fun W=>PEv.mv rfl⟩) (aC (.inr ⟨rfl,.inr fun W=>PEv.mv rfl⟩) (aC (.inr ⟨rfl,.inr fun W=>PEv.indexAddr kz k7 (.t rfl) (.t rfl) oQ⟩) (aC (.inr ⟨rfl,.inl ⟨by kernel_rfl,fun W hS=>PEv.lc rfl ((hS.own 0 rfl).at (fun _=>rfl) hkx)⟩⟩) (aC (.inr ⟨rfl,.inr fun W=>PEv.indexAddr kz k7 (.t rfl) (.t rfl) oQ⟩) (aC (.inl (by simp)) (aC (.inr ⟨rfl,.inr fun W=>PEv.indexAddr kz k7 (.t rfl) (.t rfl) oQ⟩) (aC (.inl (by simp)) ?_)))))))))))))))))
      exact allL.nil
     ·intro W hS
      exact SEv.mono (Eo (i:=k) (z:=y) k7 (fun _=>rfl) Fact.one (.t rfl) (.t rfl) (hS.own 0 rfl) oQ) (fun _ h=>hS.Ft 0 rfl h)
     ·intro W hS
      exact SEv.mono (Eo (i:=k-1) (z:=x) k7 (fun _=>rfl) Fact.one (.t rfl) (.t rfl) (hS.own 0 rfl) oQ) (fun _ h=>hS.Ft 0 rfl h)
     intro w8 hS
     have hS:Wx.Sep (Aw (tN TY0) 19 Fact.cells (.slice (some ⟨g,0,none⟩) m cp) (xs)).foot w0 w8 [Aw (tN TY0) 19 Fact.cells (.slice (some ⟨g,0,none⟩) m cp) (((E8 xs a (mm+1) (C3 (C2 xs a mm) x (k-a))).set (k) y).set (k-1) x)]:=hS
     refine Al (Ab (Aa (I rfl (U (.dec (.t rfl) oQ oQ) (LW.A rfl (LW.nil (Av ?_)))))))
     exact⟨k-1,⟨⟨by omega,by omega⟩,by have:=Yy (xs:=xs) (a:=a) (b:=mm+1) (x:=x) (p:=k-a-1) (y:=y) oQ oQ oQ oQ hy;rw[show k-a-1+1=k-a by omega,show a+(k-a)=k by omega,show a+(k-a-1)=k-1 by omega]at this;rw[show k-1-a=k-a-1 by omega,←this];exact hS⟩,tQ,by omega⟩
    refine A9 (Ac (Ac (Aq (Ab (Am (Au (F8 rfl ⟨_,rfl,?_⟩)))))))
    have hk2:k=i:=by simp at h110;omega
    subst hk2
    exact⟨rfl,_,oU hx oQ oQ hsA hL (by rw[hij2];exact hR),⟨hS.fr,hS.get 0 rfl,fun _ h=>.inl h⟩⟩
   |false=>
    have hq12:=cr hq12
    obtain⟨mid,hmid⟩:∃mid,mid=(a+b)/2:=⟨_,rfl⟩
    refine Aa (I rfl (I rfl (U (.M2 (.t rfl) (.t rfl) oQ oQ) (U (.fa (PEv.eql (.t rfl) (.const _)) (bx oQ)) (Ah (CW.f rfl (Aj (Ab (Ae (I rfl (I rfl (U (.addN (.t rfl) (.t rfl) oQ) (U (.val (v':=vu (a+b)) (PEv.conv (k':=.u64) (by rw[k9];rfl) l6 (.t rfl)) (Q3 oQ)) (U (.val (v':=vu ((a+b)/2)) (PEv.Us (j:=1) (.t rfl) (.const _)) Oa) (U (.val (v':=vi ((mid:Nat):Int)) (PEv.conv (k':=.i64) (by rw[l6];rfl) k9 (.t rfl)) (by rw[hmid];exact Q4 oQ)) (LW.A rfl (An (Aa (I rfl (I rfl (U (.addN (.t rfl) (.t rfl) oQ) (LW.A rfl (An (Aa (Az (Az (Ah (Ep (fun a1 W=>∃s0 r0:Nat,Ag 220 [] ([(0,.eq (.slice (some ⟨g,0,none⟩) m cp)),(1,.eq (vi (a:Int))),(2,.eq (vi (mm:Int))),(3,.eq (vi (b:Int))),(4,.eq (.func (.func cf) #[] lb)),(18,.eq (vi (mid:Int))),(19,.eq (vi ((mid+mm:Nat):Int))),(20,.eq (vi (s0:Int))),(21,.eq (vi (r0:Int)))]) a1 W∧((s0=mid+mm-b∧r0=mid∧mid<mm)∨(s0=a∧r0=mm∧mm≤mid))∧Wx.Sep (Aw (tN TY0) 19 Fact.cells (.slice (some ⟨g,0,none⟩) m cp) (xs)).foot w0 W [Aw (tN TY0) 19 Fact.cells (.slice (some ⟨g,0,none⟩) m cp) (xs)]) ?_ ?_))))))))))))))))))))))))))))
    ·skip
     refine Ae (I rfl (I rfl (U (.gtr (.t rfl) (.t rfl)) (Ah (CW.b rfl (fun h140=>?_) (fun h140=>?_))))))
     ·replace h140:=dQ h140
      refine Ae (I rfl (I rfl (U (.M2 (.t rfl) (.t rfl) oQ oQ) (LW.A rfl (Ah (Aa (I rfl (LW.A rfl (LW.nil ?_)))))))))
      exact fun a ha=>⟨_,_,ha.sub tQ,(by exact .inl ⟨rfl,rfl,by omega⟩),hS⟩
     replace h140:=dQ h140
     refine Ae (I rfl (LW.A rfl (Ah (Aa (I rfl (LW.A rfl (LW.nil ?_)))))))
     exact fun a ha=>⟨_,_,ha.sub tQ,(by exact .inr ⟨rfl,rfl,by omega⟩),hS⟩
    rintro a1 w9 ⟨s0,r0,ha,hsr,hS⟩
    revert a1
    show CW none _ _ _ _ _ _ _ _
    refine Ae (I rfl (U (.dec (.t rfl) oQ oQ) (LW.A rfl (An (Ai (A7 (σ:=Nat×Nat) (fun s w=>(s0≤s.1∧s.1≤s.2∧s.2≤r0)∧(s.1=s0∨∃u v,xs[mid+mm-s.1]?=some u∧xs[s.1-1]?=some v∧Hz (key u) (key v)=false)∧(s.2=r0∨∃u v,xs[mid+mm-1-s.2]?=some u∧xs[s.2]?=some v∧Hz (key u) (key v)=true)∧(Wx.Sep (Aw (tN TY0) 19 Fact.cells (.slice (some ⟨g,0,none⟩) m cp) (xs)).foot w0 w [Aw (tN TY0) 19 Fact.cells (.slice (some ⟨g,0,none⟩) m cp) (xs)])) (fun s=>[(20,.eq (vi (s.1:Int))),(21,.eq (vi (s.2:Int)))]) ([(0,.eq _),(1,.eq _),(2,.eq _),(3,.eq _),(4,.eq _),(18,.eq _),(19,.eq _),(22,.eq _)]) (fun s=>s.2-s.1) (s0,r0) ?_ tQ ?_))))))
    ·exact⟨⟨bi _,by show s0≤r0;omega,bi _⟩,.inl rfl,.inl rfl,hS⟩
    rintro⟨s,r⟩ w10 ⟨hq,hs,hr,hS⟩
    dsimp only at hq hs hr hS
    change CW _ _ _ _ _ _ _ ([(20,.eq (vi (s:Int))),(21,.eq (vi (r:Int)))]++_) _
    refine Ak (Ae (I rfl (I rfl (U (.l2 rfl rfl) (Ah (CW.b rfl (fun h151=>?_) (fun h151=>?_)))))))
    ·replace h151:=dQ h151
     refine Aj (Ab (Ai (Ae (I rfl (I rfl (U (.addN (.t rfl) (.t rfl) oQ) (U (.val (v':=vu (s+r)) (PEv.conv (k':=.u64) (by rw[k9];rfl) l6 (.t rfl)) (Q3 oQ)) (U (.val (v':=vu ((s+r)/2)) (PEv.Us (j:=1) (.t rfl) (.const _)) Oa) (U (.val (v':=vi (((s+r)/2:Nat):Int)) (PEv.conv (k':=.i64) (by rw[l6];rfl) k9 (.t rfl)) (Q4 oQ)) (LW.A rfl (An ?_)))))))))))
     have hlt:s<r:=by simp at h151;omega
     obtain⟨u,hu_⟩:=Af (xs:=xs) (i:=mid+mm-1-(s+r)/2) oQ
     obtain⟨v,hv_⟩:=Af (xs:=xs) (i:=(s+r)/2) oQ
     refine C0 kQ kQ rfl rfl (J (.mv rfl) (J (.mv rfl) (J (.mv rfl) (J (.mv rfl) (J (.M2 (.t rfl) (.t rfl) oQ oQ) (J (.indexAddr kz k7 (.t rfl) (.t rfl) oQ) (J (.lc rfl ((hS.own 0 rfl).at (fun _=>rfl) hu_)) (J (.mv rfl) (J (.mv rfl) (J (.indexAddr kz k7 (.t rfl) (.t rfl) oQ) (J (.lc rfl ((hS.own 0 rfl).at (fun _=>rfl) hv_)) (HW.c (fun a w _ ha=>Cs (.t rfl) (.ct rfl (.cu rfl)) (hen) a ha) rfl rfl (fun w hu=>hcmp w (hS.fr.trans (hu.fr _)) u v) (J (.lss (.t rfl) (.const _)) (J (.n1 rfl) (HW.nil ?_)))))))))))))))
     intro w11 uw11
     replace hS:=hS.up uw11
     refine Ab (CW.b rfl (fun h171=>?_) (fun h171=>?_))
     ·replace h171:=dQ h171
      refine Aa (I rfl (U (.ic rfl oQ) (LW.A rfl (LW.nil (Al (Av ?_))))))
      exact⟨((s+r)/2+1,r),⟨⟨by show s0≤(s+r)/2+1;omega,by show(s+r)/2+1≤r;omega,by show r≤r0;omega⟩,.inr ⟨u,v,by show xs[mid+mm-((s+r)/2+1)]?=some u;rw[show mid+mm-((s+r)/2+1)=mid+mm-1-(s+r)/2 by omega];exact hu_,hv_,by rw[←H4];simpa using h171⟩,hr,hS⟩,tQ,by omega⟩
     replace h171:=dQ h171
     refine Aa (I rfl (LW.A rfl (LW.nil (Al (Av ?_)))))
     exact⟨(s,(s+r)/2),⟨⟨by show s0≤s;omega,by show s≤(s+r)/2;omega,by show(s+r)/2≤r0;omega⟩,hs,.inr ⟨u,v,hu_,hv_,by rw[←H4];simpa using h171⟩,hS⟩,tQ,by omega⟩
    replace h151:=dQ h151
    refine A9 (Ac (Ac (Aq (Ab (Ak ?_)))))
    have hsr2:s=r:=by simp at h151;omega
    obtain⟨e,he⟩:∃e,e=mid+mm-s:=⟨_,rfl⟩
    have hsm:s≤mm:=by omega
    have hme:mm≤e:=by omega
    have has:a≤s:=by omega
    have heb:e≤b:=by omega
    have hmd:mid=s+(e-mm):=by omega
    have hrl:(Jy xs s mm e).length=m:=by rw[Fo hsm hme (by omega)];exact hxl
    refine Aa (I rfl (I rfl (U (.val (v':=vi (e:Int)) (PEv.M2 (.t rfl) (.t rfl) oQ oQ) (by rw[he])) (LW.A rfl (Ah (Ep (fun a1 W=>Ag 220 [] ([(0,.eq (.slice (some ⟨g,0,none⟩) m cp)),(1,.eq (vi (a:Int))),(3,.eq (vi (b:Int))),(4,.eq (.func (.func cf) #[] lb)),(18,.eq (vi (mid:Int))),(20,.eq (vi (s:Int))),(24,.eq (vi (e:Int)))]) a1 W∧Wx.Sep (Aw (tN TY0) 19 Fact.cells (.slice (some ⟨g,0,none⟩) m cp) (xs)).foot w0 W [Aw (tN TY0) 19 Fact.cells (.slice (some ⟨g,0,none⟩) m cp) (Jy xs s mm e)]) ?_ ?_))))))
    ·skip
     refine Ae (I rfl (I rfl (U (.l2 rfl rfl) (I rfl (G6 rfl rfl (G6 rfl rfl (LW.gr rfl (fun hc=>PEv.lss vQ vQ) (U (.pa rfl (fun hp=>.cond rfl (by rw[hp];rfl))) (Ah (CW.b rfl (fun h185=>?_) (fun h185=>?_)))))))))))
     ·refine Aa (I rfl (I rfl (I rfl (I rfl (I rfl (A3 (eC (.ct rfl (.ct rfl (.ct rfl (.ct rfl (.cu rfl))))) (nA)) rfl (Ng s mm e _ g m cp xs _ (hS.own 0 rfl) h63 (by have:=Mb h185;omega) (by have:=Mb h185;omega) oQ) ?_))))))
      rintro _ w12 ⟨rfl,uw12⟩
      replace hS:=hS.Ft 0 rfl uw12
      change Wx.Sep _ _ _ [_]at hS
      refine LW.nil ?_
      exact fun a ha=>⟨ha.sub tQ,(by exact hS)⟩
     refine Aj ?_
     exact fun a ha=>⟨ha.sub tQ,(by(rw[oV (dD h185) hsm hme (by omega)];exact hS))⟩
    rintro a1 w13 ⟨ha,hS⟩
    revert a1
    show CW none _ _ _ _ _ _ _ _
    refine Ep (fun a1 W=>Ag 220 [] ([(0,.eq (.slice (some ⟨g,0,none⟩) m cp)),(3,.eq (vi (b:Int))),(4,.eq (.func (.func cf) #[] lb)),(18,.eq (vi (mid:Int))),(24,.eq (vi (e:Int)))]) a1 W∧∃X,StS key (C2 (Jy xs s mm e) a mid) X∧Wx.Sep (Aw (tN TY0) 19 Fact.cells (.slice (some ⟨g,0,none⟩) m cp) (xs)).foot w0 W [Aw (tN TY0) 19 Fact.cells (.slice (some ⟨g,0,none⟩) m cp) (E8 (Jy xs s mm e) a mid X)]) ?_ ?_
    ·skip
     refine Ae (I rfl (I rfl (U (.l2 rfl rfl) (I rfl (G6 rfl rfl (G6 rfl rfl (LW.gr rfl (fun hc=>PEv.lss vQ vQ) (U (.pa rfl (fun hp=>.cond rfl (by rw[hp];rfl))) (Ah (CW.b rfl (fun h199=>?_) (fun h199=>?_)))))))))))
     ·refine Aa (I rfl (I rfl (I rfl (I rfl (I rfl (A3 (eC (.ct rfl (.ct rfl (.ct rfl (.ct rfl (.cu rfl))))) (Rl)) rfl (ih a s mid (Jy xs s mm e) _ oQ (hS.own 0 rfl) (fun W hF x y=>hcmp W (hS.fr.trans hF) x y) (by have:=Mb h199;omega) (by have:=Mb h199;omega) oQ (gJ hsA hsB oQ oQ oQ oQ oQ).1 (gJ hsA hsB oQ oQ oQ oQ oQ).2) ?_))))))
      rintro _ w14 ⟨rfl,X,hX,uw14⟩
      replace hS:=hS.Ft 0 rfl uw14
      change Wx.Sep _ _ _ [_]at hS
      refine LW.nil ?_
      exact fun a ha=>⟨ha.sub tQ,(by exact⟨X,hX,hS⟩)⟩
     refine Aj ?_
     exact fun a ha=>⟨ha.sub tQ,(by exact⟨_,StS.refl (kB hsA hsB has hsm hme heb oQ hmd (dD h199)),by rw[Hc oQ (by omega)];exact hS⟩)⟩
    rintro a1 w15 ⟨ha,X,hX,hS⟩
    revert a1
    show CW none _ _ _ _ _ _ _ _
    refine Ak ?_
    have hXl:X.length=mid-a:=by rw[hX.same.length,Cm (by omega)]
    have hrl2:(E8 (Jy xs s mm e) a mid X).length=m:=by rw[Dv oQ oQ hXl];exact hrl
    refine Aa (I rfl (I rfl (U (.l2 rfl rfl) (I rfl (G6 rfl rfl (G6 rfl rfl (LW.gr rfl (fun hc=>PEv.lss vQ vQ) (U (.pa rfl (fun hp=>.cond rfl (by rw[hp];rfl))) (Ah (CW.b rfl (fun h213=>?_) (fun h213=>?_)))))))))))
    ·refine Aa (I rfl (I rfl (I rfl (I rfl (I rfl (A3 (eC (.ct rfl (.ct rfl (.ct rfl (.ct rfl (.cu rfl))))) (Rl)) rfl (ih mid e b (E8 (Jy xs s mm e) a mid X) _ oQ (hS.own 0 rfl) (fun W hF x y=>hcmp W (hS.fr.trans hF) x y) (by have:=Mb h213;omega) (by have:=Mb h213;omega) oQ (gK hsA hsB oQ oQ oQ oQ oQ oQ hXl).1 (gK hsA hsB oQ oQ oQ oQ oQ oQ hXl).2) ?_))))))
     rintro _ w16 ⟨rfl,Y,hY,uw16⟩
     replace hS:=hS.Ft 0 rfl uw16
     change Wx.Sep _ _ _ [_]at hS
     refine LW.nil (Db rfl ⟨_,rfl,?_⟩)
     obtain⟨Y,hY,hS2⟩:∃Y,StS key (C2 (E8 (Jy xs s mm e) a mid X) mid b) Y∧Wx.Sep (Aw (tN TY0) 19 Fact.cells (.slice (some ⟨g,0,none⟩) m cp) (xs)).foot w0 w16 [Aw (tN TY0) 19 Fact.cells (.slice (some ⟨g,0,none⟩) m cp) (E8 (E8 (Jy xs s mm e) a mid X) mid b Y)]:=by exact⟨Y,hY,hS⟩
     have hd:=Y2 has hsm hme heb oQ hmd hsA hsB (oS hsA hsB hsm hme oQ (hs.elim (fun h=>hsr.elim (fun q=>.inr (.inl oQ)) (fun q=>.inl oQ)) (fun⟨u,v,e1,e2,e3⟩=>.inr (.inr ⟨u,v,by rw[he];exact e1,e2,e3⟩)))) (oT hsA hsB has heb oQ oQ (hr.elim (fun h=>hsr.elim (fun q=>.inr (.inl oQ)) (fun q=>.inl oQ)) (fun⟨u,v,e1,e2,e3⟩=>.inr (.inr ⟨u,v,by rw[he,hsr2,show mid+mm-r-1=mid+mm-1-r by omega];exact e1,by rw[hsr2];exact e2,e3⟩)))) hX hY
     rw[hd.2]at hS2
     exact⟨rfl,X++Y,hd.1,⟨hS2.fr,hS2.get 0 rfl,fun _ h=>.inl h⟩⟩
    refine Aj (Db rfl ⟨_,rfl,?_⟩)
    obtain⟨Y,hY,hS2⟩:∃Y,StS key (C2 (E8 (Jy xs s mm e) a mid X) mid b) Y∧Wx.Sep (Aw (tN TY0) 19 Fact.cells (.slice (some ⟨g,0,none⟩) m cp) (xs)).foot w0 w15 [Aw (tN TY0) 19 Fact.cells (.slice (some ⟨g,0,none⟩) m cp) (E8 (E8 (Jy xs s mm e) a mid X) mid b Y)]:=by exact⟨_,StS.refl (kC hsA hsB has hsm hme heb oQ hmd hXl (dD h213)),by rw[Hc oQ (by omega)];exact hS⟩
    have hd:=Y2 has hsm hme heb oQ hmd hsA hsB (oS hsA hsB hsm hme oQ (hs.elim (fun h=>hsr.elim (fun q=>.inr (.inl oQ)) (fun q=>.inl oQ)) (fun⟨u,v,e1,e2,e3⟩=>.inr (.inr ⟨u,v,by rw[he];exact e1,e2,e3⟩)))) (oT hsA hsB has heb oQ oQ (hr.elim (fun h=>hsr.elim (fun q=>.inr (.inl oQ)) (fun q=>.inl oQ)) (fun⟨u,v,e1,e2,e3⟩=>.inr (.inr ⟨u,v,by rw[he,hsr2,show mid+mm-r-1=mid+mm-1-r by omega];exact e1,by rw[hsr2];exact e2,e3⟩)))) hX hY
    rw[hd.2]at hS2
    exact⟨rfl,X++Y,hd.1,⟨hS2.fr,hS2.get 0 rfl,fun _ h=>.inl h⟩⟩
set_option maxHeartbeats 4000000 in
theorem Nh(v:Bool)(cf:Nat)(lb:Array Go.Value)(key:Fact→K2)(hen:∀args w,(callFunc cf args).run prog w=.ok (.enter cf args) w)(g m cp:Nat)(xs:List Fact)(w:World)(ho:OwnS w 0 (bif v then 47 else 218) 19 Fact.cells (.slice (some ⟨g,0,none⟩) m cp) xs)(h63:m≤1000000000)(hcmp:∀W,Fr (Aw (bif v then 47 else 218) 19 Fact.cells (.slice (some ⟨g,0,none⟩) m cp) (xs)).foot w W→∀x y,Ret prog cf (#[.agg (Fact.cells x),.agg (Fact.cells y)]++lb) W fun r W'=>r=vi (Y6 (key x) (key y))∧Up W W'):Ret prog (bif v then 147 else 221) #[.slice (some ⟨g,0,none⟩) m cp,vi (m:Int),.func (.func cf) #[] lb] w fun r w'=>r=.tuple #[]∧∃zs,StS key xs zs∧Stp (Aw (bif v then 47 else 218) 19 Fact.cells (.slice (some ⟨g,0,none⟩) m cp) (xs)) (Aw (bif v then 47 else 218) 19 Fact.cells (.slice (some ⟨g,0,none⟩) m cp) (zs)) w w':=by
 have TY0:TN (bif v then 47 else 218):=⟨⟩
 have Un:=Y9 v
 have Rl:=Za v
 have func147:=Sb v
 have H3:=@H3 v
 have Il:=@Il v
 cases v<;>dsimp only[cond]at*
 all_goals
  obtain⟨w0,rfl,_⟩:=W0 w
  have hxl:=ho.len
  have hS:Wx.Sep (Aw (tN TY0) 19 Fact.cells (.slice (some ⟨g,0,none⟩) m cp) (xs)).foot w0 w0 [Aw (tN TY0) 19 Fact.cells (.slice (some ⟨g,0,none⟩) m cp) (xs)]:=Sep.cons ho (fun _ h=>h) (Sep.start _ _) (by simp)
  refine cT 63 func147 rfl (Ae (U (.val (v':=vi ((20:Nat):Int)) (PEv.assign (.const _)) rfl) (An (Aa (I rfl (Az (LW.A rfl (An (Ai (A7 (σ:=Nat×List Fact) (fun s w=>(s.1≤m)∧(s.2.length=m)∧(Ins key s.2 20 s.1)∧(sameF key xs s.2)∧(Wx.Sep (Aw (tN TY0) 19 Fact.cells (.slice (some ⟨g,0,none⟩) m cp) (xs)).foot w0 w [Aw (tN TY0) 19 Fact.cells (.slice (some ⟨g,0,none⟩) m cp) (s.2)])) (fun s=>[(7,.eq (vi (s.1:Int))),(8,.eq (vi ((s.1+20:Nat):Int)))]) ([(0,.eq _),(1,.eq _),(2,.eq _),(6,.eq _)]) (fun s=>m-s.1) (0,xs) ?_ tQ ?_))))))))))
  ·exact⟨a_ _,hxl,Ins.zero xs 20 cQ,sameF.refl xs,hS⟩
  rintro⟨a,ys⟩ w1 ⟨ha,hyl,hI,hsf,hS⟩
  dsimp only at ha hyl hI hsf hS
  change CW _ _ _ _ _ _ _ ([(7,.eq (vi (a:Int))),(8,.eq (vi ((a+20:Nat):Int)))]++_) _
  refine Ak (Ae (I rfl (I rfl (U (.leq (.t rfl) (.t rfl)) (Ah (CW.b rfl (fun h13=>?_) (fun h13=>?_)))))))
  ·refine Aj (Ab (Ai (Ak ?_)))
   have hal:a+20≤m:=by simp at h13;omega
   refine Aa (I rfl (I rfl (I rfl (I rfl (A3 (eC (.ct rfl (.ct rfl (.ct rfl (.cu rfl)))) (Un)) rfl (H3 a (a+20) cf lb key hen g m cp ys _ (hS.own 0 rfl) h63 (fun W hF x y=>hcmp W (hS.fr.trans hF) x y) oQ oQ) ?_)))))
   rintro _ w2 ⟨rfl,zs,hz,uw2⟩
   replace hS:=hS.Ft 0 rfl uw2
   refine An (Aa (I rfl (LW.A rfl (Ah (Aa (I rfl (I rfl (U (.addN (.t rfl) (.t rfl) oQ) (LW.A rfl (LW.nil (Al (Av ?_))))))))))))
   exact⟨(a+20,E8 ys a (a+20) zs),⟨by show a+20≤m;omega,by show(E8 ys a (a+20) zs).length=m;rw[Dv oQ oQ (by rw[hz.same.length,Cm (by omega)])];exact hyl,hI.step cQ oQ hz,hsf.step oQ oQ hz,hS⟩,tQ,by show m-(a+20)<m-a;omega⟩
  refine A9 (Ac (Ac (Aq (Ab (Ak ?_)))))
  have hal:m<a+20:=by simp at h13;omega
  refine Aa (I rfl (I rfl (I rfl (I rfl (A3 (eC (.ct rfl (.ct rfl (.ct rfl (.cu rfl)))) (Un)) rfl (H3 a m cf lb key hen g m cp ys _ (hS.own 0 rfl) h63 (fun W hF x y=>hcmp W (hS.fr.trans hF) x y) oQ oQ) ?_)))))
  rintro _ w3 ⟨rfl,zs,hz,uw3⟩
  replace hS:=hS.Ft 0 rfl uw3
  refine Ah (Ai (A7 (σ:=Nat×List Fact) (fun s w=>(0<s.1)∧(s.2.length=m)∧(Bks key s.2 s.1)∧(sameF key xs s.2)∧(Wx.Sep (Aw (tN TY0) 19 Fact.cells (.slice (some ⟨g,0,none⟩) m cp) (xs)).foot w0 w [Aw (tN TY0) 19 Fact.cells (.slice (some ⟨g,0,none⟩) m cp) (s.2)])) (fun s=>[(6,.eq (vi (s.1:Int)))]) ([(0,.eq _),(1,.eq _),(2,.eq _)]) (fun s=>m-s.1) (20,E8 ys a m zs) ?_ tQ ?_))
  ·exact⟨by show 0<20;omega,by show(E8 ys a m zs).length=m;rw[Dv oQ oQ (by rw[hz.same.length,Cm (by omega)])];exact hyl,by have:=hI.last (zs:=zs) oQ oQ (by rw[hyl];exact hz);rw[hyl]at this;exact this,hsf.step oQ oQ hz,hS⟩
  rintro⟨B,ys⟩ w4 ⟨hB,hyl,hI,hsf,hS⟩
  dsimp only at hB hyl hI hsf hS
  change CW _ _ _ _ _ _ _ ([(6,.eq (vi (B:Int)))]++_) _
  refine Ak (Ae (I rfl (I rfl (U (.l2 rfl rfl) (Ah (CW.b rfl (fun h30=>?_) (fun h30=>?_)))))))
  ·refine Aj (Ab (Ai (Ak ?_)))
   have hBm:B<m:=by simp at h30;omega
   refine Aa (I rfl (U (.val (v':=vi ((2*B:Nat):Int)) (G3 (.const _) (.t rfl)) (Sa oQ)) (Az (LW.A rfl (An (Ai (A7 (σ:=Nat×List Fact) (fun s w=>(s.1≤m)∧(s.2.length=m)∧(Mrg key s.2 B s.1)∧(sameF key xs s.2)∧(Wx.Sep (Aw (tN TY0) 19 Fact.cells (.slice (some ⟨g,0,none⟩) m cp) (xs)).foot w0 w [Aw (tN TY0) 19 Fact.cells (.slice (some ⟨g,0,none⟩) m cp) (s.2)])) (fun s=>[(7,.eq (vi (s.1:Int))),(8,.eq (vi ((2*B+s.1:Nat):Int)))]) ([(0,.eq _),(1,.eq _),(2,.eq _),(6,.eq _)]) (fun s=>m-s.1) (0,ys) ?_ tQ ?_)))))))
   ·exact⟨a_ _,hyl,Mrg.start hB hI,hsf,hS⟩
   rintro⟨a,ys⟩ w5 ⟨ha,hyl,hM,hsf,hS⟩
   dsimp only at ha hyl hM hsf hS
   change CW _ _ _ _ _ _ _ ([(7,.eq (vi (a:Int))),(8,.eq (vi ((2*B+a:Nat):Int)))]++_) _
   refine Ak (Ae (I rfl (I rfl (U (.leq (.t rfl) (.t rfl)) (Ah (CW.b rfl (fun h35=>?_) (fun h35=>?_)))))))
   ·refine Aj (Ab (Ai (Ak ?_)))
    have hal:2*B+a≤m:=by simp at h35;omega
    refine Aa (I rfl (I rfl (I rfl (I rfl (U (.addN (.t rfl) (.t rfl) oQ) (I rfl (I rfl (A3 (eC (.ct rfl (.ct rfl (.ct rfl (.ct rfl (.cu rfl))))) (Rl)) rfl (Il cf lb key hen g m cp h63 m a (a+B) (2*B+a) ys _ oQ (hS.own 0 rfl) (fun W hF x y=>hcmp W (hS.fr.trans hF) x y) oQ oQ oQ (hM.pre oQ).1 (hM.pre oQ).2) ?_))))))))
    rintro _ w6 ⟨rfl,zs,hz,uw6⟩
    replace hS:=hS.Ft 0 rfl uw6
    refine An (Aa (I rfl (LW.A rfl (Ah (Aa (I rfl (I rfl (U (.val (v':=vi ((2*B:Nat):Int)) (G3 (.const _) (.t rfl)) (Sa oQ)) (U (.val (v':=vi ((2*B+(2*B+a):Nat):Int)) (PEv.addN (.t rfl) (.t rfl) oQ) (yK oQ)) (LW.A rfl (LW.nil (Al (Av ?_)))))))))))))
    exact⟨(2*B+a,E8 ys a (2*B+a) zs),⟨by show 2*B+a≤m;omega,by show(E8 ys a (2*B+a) zs).length=m;rw[Dv oQ oQ (by rw[hz.same.length,Cm (by omega)])];exact hyl,hM.step hB oQ hz,hsf.step oQ oQ hz,hS⟩,tQ,by show m-(2*B+a)<m-a;omega⟩
   refine A9 (Ac (Ac (Aq (Ab (Ak (Ak ?_))))))
   have hal:m<2*B+a:=by simp at h35;omega
   refine Aa (I rfl (I rfl (U (.addN (.t rfl) (.t rfl) oQ) (LW.A rfl (An (Aa (I rfl (I rfl (U (.l2 rfl rfl) (Ah (CW.b rfl (fun h54=>?_) (fun h54=>?_))))))))))))
   ·have ham:a+B<m:=by simp at h54;omega
    refine Aa (I rfl (I rfl (I rfl (I rfl (I rfl (A3 (eC (.ct rfl (.ct rfl (.ct rfl (.ct rfl (.cu rfl))))) (Rl)) rfl (Il cf lb key hen g m cp h63 m a (a+B) m ys _ oQ (hS.own 0 rfl) (fun W hF x y=>hcmp W (hS.fr.trans hF) x y) oQ oQ (bi _) (hM.FI oQ oQ).1 (by have:=(hM.FI oQ oQ).2;rw[hyl]at this;exact this)) ?_))))))
    rintro _ w7 ⟨rfl,zs,hz,uw7⟩
    replace hS:=hS.Ft 0 rfl uw7
    refine Ah (Aa (I rfl (U (.val (v':=vi ((2*B:Nat):Int)) (G3 (.t rfl) (.const _)) (Vc oQ)) (LW.A rfl (LW.nil (Al (Av ?_)))))))
    exact⟨(2*B,E8 ys a m zs),⟨by show 0<2*B;omega,by show(E8 ys a m zs).length=m;rw[Dv oQ oQ (by rw[hz.same.length,Cm (by omega)])];exact hyl,by have:=hM.last (zs:=zs) oQ oQ (by rw[hyl];exact hz);rw[hyl]at this;exact this,hsf.step oQ oQ hz,hS⟩,tQ,by show m-2*B<m-B;omega⟩
   have ham:¬a+B<m:=by simp at h54;omega
   refine Aj (Ab (Aa (I rfl (U (.val (v':=vi ((2*B:Nat):Int)) (G3 (.t rfl) (.const _)) (Vc oQ)) (LW.A rfl (LW.nil (Al (Av ?_))))))))
   exact⟨(2*B,ys),⟨by show 0<2*B;omega,hyl,hM.done oQ oQ oQ,hsf,hS⟩,tQ,by show m-2*B<m-B;omega⟩
  refine A9 (Ac (Ac (Aq (Db rfl ⟨_,rfl,?_⟩))))
  exact⟨rfl,ys,hI.all (by simp at h30;omega) hsf,⟨hS.fr,hS.get 0 rfl,fun _ h=>.inl h⟩⟩
set_option maxHeartbeats 600000 in
theorem Lo(v:Bool)(cf:Nat)(lb:Array Go.Value)(key:Fact→K2)(hen:∀args w,(callFunc cf args).run prog w=.ok (.enter cf args) w)(g m cp:Nat)(xs:List Fact)(w:World)(ho:OwnS w 0 (bif v then 47 else 218) 19 Fact.cells (.slice (some ⟨g,0,none⟩) m cp) xs)(h63:m≤1000000000)(hcmp:∀W,Fr (Aw (bif v then 47 else 218) 19 Fact.cells (.slice (some ⟨g,0,none⟩) m cp) (xs)).foot w W→∀x y,Ret prog cf (#[.agg (Fact.cells x),.agg (Fact.cells y)]++lb) W fun r W'=>r=vi (Y6 (key x) (key y))∧Up W W'):Ret prog (bif v then 69 else 163) #[.slice (some ⟨g,0,none⟩) m cp,.func (.func cf) #[] lb] w fun r w'=>r=.tuple #[]∧∃zs,StS key xs zs∧Stp (Aw (bif v then 47 else 218) 19 Fact.cells (.slice (some ⟨g,0,none⟩) m cp) (xs)) (Aw (bif v then 47 else 218) 19 Fact.cells (.slice (some ⟨g,0,none⟩) m cp) (zs)) w w':=by
 have TY0:TN (bif v then 47 else 218):=⟨⟩
 have X1:=Y8 v
 have func69:=Ve v
 have kz:=Fw v
 have Nh:=@Nh v
 cases v<;>dsimp only[cond]at*
 all_goals
  obtain⟨w0,rfl,_⟩:=W0 w
  have hS:Wx.Sep (Aw (tN TY0) 19 Fact.cells (.slice (some ⟨g,0,none⟩) m cp) (xs)).foot w0 w0 [Aw (tN TY0) 19 Fact.cells (.slice (some ⟨g,0,none⟩) m cp) (xs)]:=Sep.cons ho (fun _ h=>h) (Sep.start _ _) (by simp)
  refine cT 9 func69 rfl (Aa (I rfl (I rfl (U (.Cl kz (.t rfl)) (I rfl (A3 (eC (.ct rfl (.ct rfl (.cu rfl))) (X1)) rfl (Nh cf lb key hen g m cp xs _ (hS.own 0 rfl) h63 (fun W hF x y=>hcmp W (hS.fr.trans hF) x y)) ?_))))))
  rintro _ w1 ⟨rfl,zs,hz,uw1⟩
  replace hS:=hS.Ft 0 rfl uw1
  refine LW.nil (Db rfl ⟨_,rfl,?_⟩)
  exact⟨rfl,zs,hz,⟨hS.fr,hS.get 0 rfl,fun _ h=>.inl h⟩⟩
set_option maxHeartbeats 600000 in
theorem Ju(v:Bool)(fv:Go.Value)(w:World):Ret prog (bif v then 207 else 253) #[.slice none 0 0,vi 0,vi 0,fv] w fun r w'=>r=.tuple #[]∧Up w w':=by
 have func207:=Sc v
 cases v<;>dsimp only[cond]at*
 all_goals
  have hW:=Up.refl w
  obtain⟨w0,rfl,_⟩:=W0 w
  refine cT 53 func207 rfl (Ae (I rfl (U (.val (v':=vi 1) (PEv.add (.t rfl) (.const _) oQ oQ) rfl) (LW.A rfl (Ah (Ai (A7 (σ:=Unit) (fun s w=>(True)∧(Up w0 w)) (fun s=>[(8,.eq (vi 1))]) ([(0,.eq _),(1,.eq _),(2,.eq _),(3,.eq _)]) (fun s=>0) () ?_ tQ ?_)))))))
  ·exact⟨trivial,hW⟩
  rintro _ w1 ⟨ht,hW⟩
  refine Ak (Ae (I rfl (I rfl (U (.fa (PEv.l2 rfl rfl) cQ) (Ah (CW.f rfl (A9 (Ac (Ac (Aq (Db rfl ⟨_,rfl,?_⟩)))))))))))
  exact⟨rfl,hW⟩
set_option maxHeartbeats 600000 in
theorem Ni(v:Bool)(fv:Go.Value)(w:World):Ret prog (bif v then 147 else 221) #[.slice none 0 0,vi 0,fv] w fun r w'=>r=.tuple #[]∧Up w w':=by
 have Un:=Y9 v
 have func147:=Sb v
 have Ju:=@Ju v
 cases v<;>dsimp only[cond]at*
 all_goals
  have hW:=Up.refl w
  obtain⟨w0,rfl,_⟩:=W0 w
  refine cT 63 func147 rfl (Ae (Az (An (Aa (I rfl (Az (LW.A rfl (An (Ai (A7 (σ:=Unit) (fun s w=>(True)∧(Up w0 w)) (fun s=>[(7,.eq (vi 0)),(8,.eq (vi 20))]) ([(0,.eq _),(1,.eq _),(2,.eq _),(6,.eq _)]) (fun s=>0) () ?_ tQ ?_))))))))))
  ·exact⟨trivial,hW⟩
  rintro _ w1 ⟨ht,hW⟩
  refine Ak (Ae (I rfl (I rfl (U (.fa (PEv.leq (.t rfl) (.t rfl)) cQ) (Ah (CW.f rfl (A9 (Ac (Ac (Aq (Ab (Ae (I rfl (I rfl (I rfl (I rfl (A3 (eC (.ct rfl (.ct rfl (.ct rfl (.cu rfl)))) (Un)) rfl (Ju _ _) ?_)))))))))))))))))
  rintro _ w2 ⟨rfl,uw2⟩
  replace hW:=hW.up uw2
  refine Ah (Ai (A7 (σ:=Unit) (fun s w=>(True)∧(Up w0 w)) (fun s=>[(6,.eq (vi 20))]) ([(0,.eq _),(1,.eq _),(2,.eq _)]) (fun s=>0) () ?_ tQ ?_))
  ·exact⟨trivial,hW⟩
  rintro _ w3 ⟨ht,hW⟩
  refine Ak (Ae (I rfl (I rfl (U (.fa (PEv.l2 rfl rfl) cQ) (Ah (CW.f rfl (A9 (Ac (Ac (Aq (Db rfl ⟨_,rfl,?_⟩)))))))))))
  exact⟨rfl,hW⟩
set_option maxHeartbeats 600000 in
theorem Lp(v:Bool)(fv:Go.Value)(w:World):Ret prog (bif v then 69 else 163) #[.slice none 0 0,fv] w fun r w'=>r=.tuple #[]∧Up w w':=by
 have X1:=Y8 v
 have func69:=Ve v
 have kz:=Fw v
 have Ni:=@Ni v
 cases v<;>dsimp only[cond]at*
 all_goals
  have hW:=Up.refl w
  obtain⟨w0,rfl,_⟩:=W0 w
  refine cT 9 func69 rfl (Aa (I rfl (I rfl (U (.Cl kz (.t rfl)) (I rfl (A3 (eC (.ct rfl (.ct rfl (.cu rfl))) (X1)) rfl (Ni _ _) ?_))))))
  rintro _ w1 ⟨rfl,uw1⟩
  replace hW:=hW.up uw1
  refine LW.nil (Db rfl ⟨_,rfl,?_⟩)
  exact⟨rfl,hW⟩
theorem dI(of:Nat)(w:World):Ret prog 22 #[.slice none 0 0,.func (.func of) #[] #[]] w fun r w'=>r=.tuple #[]∧Up w w':=by
 have hW:=Up.refl w
 obtain⟨w0,rfl,_⟩:=W0 w
 refine cT 7 func22 rfl (Ae (Ap (.O0 (.t rfl) rfl) rfl ?_))
 rintro _ w1 ⟨B3,rfl,NB3⟩
 replace hW:=hW.up NB3.up
 have hB3:=NB3.blk
 refine Ah (Aa (I rfl (U (.makeFunc (.cu rfl)) (A3 (eC (.u rfl rfl) (AZ)) rfl (Lp true _ _) ?_))))
 rintro _ w2 ⟨rfl,uw2⟩
 replace hW:=hW.up uw2
 replace hB3:=hB3.up uw2
 refine LW.nil (Db rfl ⟨_,rfl,?_⟩)
 exact⟨rfl,hW⟩
theorem Zb(of:Nat)(key:Fact→K2)(hen:∀args w,(callFunc of args).run prog w=.ok (.enter of args) w)(hord:∀W x,Ret prog of #[.agg x.cells] W fun r W'=>r=.agg #[vi (key x).1,vi (key x).2]∧Up W W')(g m cp:Nat)(xs:List Fact)(w:World)(ho:OwnS w 0 47 19 Fact.cells (.slice (some ⟨g,0,none⟩) m cp) xs)(h63:m≤1000000000):Ret prog 22 #[.slice (some ⟨g,0,none⟩) m cp,.func (.func of) #[] #[]] w fun r w'=>r=.tuple #[]∧Stp (Aw 47 19 Fact.cells (.slice (some ⟨g,0,none⟩) m cp) (xs)) (Aw 47 19 Fact.cells (.slice (some ⟨g,0,none⟩) m cp) (Ji key xs)) w w':=by
 obtain⟨w0,rfl,_⟩:=W0 w
 have hS:Wx.Sep (Aw 47 19 Fact.cells (.slice (some ⟨g,0,none⟩) m cp) (xs)).foot w0 w0 [Aw 47 19 Fact.cells (.slice (some ⟨g,0,none⟩) m cp) (xs)]:=Sep.cons ho (fun _ h=>h) (Sep.start _ _) (by simp)
 refine cT 7 func22 rfl (Ae (Ap (.O0 (.t rfl) rfl) rfl ?_))
 rintro _ w1 ⟨B3,rfl,NB3⟩
 have eB3:=NB3.at_
 have zB3:=NB3.size
 replace hS:=hS.Cf NB3
 refine Ah ?_
 have hB3:=NB3.blk
 have hg:=ho.lt g rfl
 replace hS:Wx.Sep (Aw 47 19 Fact.cells (.slice (some ⟨g,0,none⟩) m cp) (xs)).foot w0 w1 [Aw 47 19 Fact.cells (.slice (some ⟨g,0,none⟩) m cp) (xs)]:=hS.take 1
 refine Aa (I rfl (U (.makeFunc (.cu rfl)) (A3 (eC (.u rfl rfl) (AZ)) rfl (Lo true 70 #[.pointer (some ⟨B3,0,none⟩)] key HU g m cp xs _ (hS.own 0 rfl) h63 (fun W hF x y=>kE of key hen hord x y B3 W (hB3.fr hF (fun(e:some g=some B3)=>by cases e;omega)))) ?_)))
 rintro _ w2 ⟨rfl,zs,hz,uw2⟩
 replace hS:=hS.Ft 0 rfl uw2
 refine LW.nil (Db rfl ⟨_,rfl,?_⟩)
 rw[hz.eq]at hS
 exact⟨rfl,⟨hS.fr,hS.get 0 rfl,fun _ h=>.inl h⟩⟩
theorem Nj(of:Nat)(key:Fact→K2)(hen:∀args w,(callFunc of args).run prog w=.ok (.enter of args) w)(hord:∀W x,Ret prog of #[.agg x.cells] W fun r W'=>r=.agg #[vi (key x).1,vi (key x).2]∧Up W W')(v:Go.Value)(xs:List Fact)(w:World)(ho:OwnS w 0 47 19 Fact.cells v xs)(h63:xs.length≤1000000000):Ret prog 22 #[v,.func (.func of) #[] #[]] w fun r w'=>r=.tuple #[]∧Stp (Aw 47 19 Fact.cells v xs) (Aw 47 19 Fact.cells v (Ji key xs)) w w':=by
 have h0:=ho
 obtain⟨_,⟨rfl,hn⟩|⟨g,cap,cur,rfl,_⟩⟩:=h0
 · have hx:xs=[]:=dv hn
   subst hx
   exact(dI of w).mono fun r w'⟨e,u⟩=>⟨e,(Stp.refl ho).up u⟩
 exact Zb of key hen hord g xs.length cap xs w ho h63
namespace Gs
end Gs
end Go.Proofs.YthcabjphnacjeaaGreatDoor
namespace Go.Wx
open Go.RowKit
section
variable {P:Program}{n:Nat}{ds:List Deferred}{l:Env}{w:World}{d:Option Tmp}{ty:TypeId}{ps:String}{af:Array Edge}{g:Option (Nat×Bool)}
theorem PEv.I7{T e k size:Nat}{z cs:Array Value}{xs:Array (Nat×Operand)}{vs:List (Nat×Value)}(hu:P.underlying T=some (.array k e))(hz:∀w,(zeroValue T).run P w=.ok (.agg z) w)(hs:∀w,(sizeOf e).run P w=.ok size w)
   (hv:Parts l xs.toList vs)(hf:Instr.fill (fun i=>some (i*size,size)) z vs=some cs):PEv P n ds l w ⟨d,.build T xs,ty,ps,af,g⟩ (.agg cs):=fun a w' ha _=>by
 refine Cy ?_
 have e:(xs.map fun(i,x)=>(i,a.eval x))=vs.toArray:=by apply gu;rw[←hv.map ha];simp
 rw[e]
 simp only[Instr.build,Sem.run_bind,hz,Result.andThen,run_underlying hu,hs,Value.cells,hf]
 rfl
end
def Ql(f:Int→Value)(i:Nat):List (Int×Value):=(List.range i).map fun j=>(((j+1:Nat):Int),f ((j+1:Nat):Int))
theorem Lq{f:Int→Value}{i:Nat}{k:Int}{v:Value}:(k,v)∈Ql f i↔1≤k∧k≤i∧v=f k:=by
 unfold Ql
 rw[br]
 constructor
 · rintro⟨j,hj,e⟩
   have:=ck.1 hj
   cases e
   exact⟨by omega,by omega,rfl⟩
 rintro⟨h1,h2,rfl⟩
 refine⟨(k-1).toNat,ck.2 oQ,?_⟩
 have:(((k-1).toNat+1:Nat):Int)=k:=by omega
 rw[this]
theorem kF{f:Int→Value}{i:Nat}{k:Int}:k∈(Ql f i).map (·.1)↔1≤k∧k≤i:=by
 rw[br]
 constructor
 · rintro⟨⟨k',v⟩,h,rfl⟩
   have:=Lq.1 h
   exact⟨this.1,this.2.1⟩
 rintro⟨h1,h2⟩
 exact⟨(k,f k),Lq.2 ⟨h1,h2,rfl⟩,rfl⟩
theorem Fi(f:Int→Value)(i:Nat):Hp (Ql f i) ((i+1:Nat):Int) (f ((i+1:Nat):Int))=Ql f (i+1):=by
 rw[X6 (fun h=>by have:=kF.1 h;omega)]
 simp[Ql,i4]
end Go.Wx
