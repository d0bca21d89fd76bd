import Derived.Test.YtnpgbbaniknpkaaGreatDoorKR111
namespace Go.Wx
def Lg(a b:Int):Int:=if a<b then -1 else if b<a then 1 else 0
def tH:List Int→Int
 |[]=>0
 |x::l=>if x=0 then tH l else x
def Z3(p q:K2):Int:=tH [Lg p.1 q.1,Lg p.2 q.2]
theorem Ia(p q:K2):decide (Z3 p q<0)=H4 p q:=by
 unfold Z3 tH tH tH Lg H4
 by_cases h1:p.1<q.1
 · simp[h1]
 by_cases h2:q.1<p.1
 · have:¬p.1=q.1:=by omega
   simp[h1,h2,this]
 have e:p.1=q.1:=by omega
 by_cases h3:p.2<q.2
 · simp[e,h3]
 by_cases h4:q.2<p.2
 · simp[e,h3,h4]
 simp[e,h3,h4]
theorem Z4{l:List Int}{k:Nat}{x:Int}(h:l[k]?=some x):tH (l.drop k)=if x=0 then tH (l.drop (k+1))else x:=by
 obtain⟨hk,e⟩:=am.1 h
 rw[fj hk,e];rfl
theorem qN(p:K2):(#[vi p.1,vi p.2]:Array Go.Value).size=2∧(#[vi p.1,vi p.2]:Array Go.Value).all (·.oneCell')=true:=by simp[Value.oneCell']
theorem M1{p q r t:Nat}(h:(decide ((p:Int)<(q:Int))&&decide ((r:Int)<(t:Int)))=true):p<q∧r<t:=by
 obtain⟨h1,h2⟩:=Bool.and_eq_true_iff.1 h
 have h1:=b9 h1
 have h2:=b9 h2
 omega
theorem eS{p q r t:Nat}(h:(decide ((p:Int)<(q:Int))&&decide ((r:Int)<(t:Int)))=false):¬(p<q∧r<t):=fun⟨h1,h2⟩=>by
 rw[bj oQ,bj (by omega)]at h
 cases h
theorem qO{α:Type}{xs:List α}{a b:Nat}{x:α}(hx:xs[a]?=some x)(h:a<b)(hb:b≤xs.length):C7 xs a b=x::C7 xs (a+1) b:=by
 rw[Gq (m:=a+1) oQ oQ hb,Mb (bl a) hx,Gr (bl a)];rfl
theorem Rw{z:Nat}(h:z<18446744073709551616):Go.Value.int .u64 (IntKind.u64.wrap (z:Int))=vu z:=by
 rw[Gz]
 unfold vu
 congr 1
 omega
theorem Rx{z:Nat}(h:z<9223372036854775808):Go.Value.int .i64 (IntKind.i64.wrap (z:Int))=vi (z:Int):=by
 rw[Ex oQ (by omega)]
theorem O6{z:Nat}:Go.Value.int .u64 ((z:Int).fdiv (2^(min 1 IntKind.u64.bits)))=vu (z/2):=by
 have e1:min 1 IntKind.u64.bits=1:=rfl
 rw[e1,ij _ (by decide)]
 unfold vu
 congr 1
theorem Tb{z:Nat}(h:2*z<9223372036854775808):Go.Value.int .i64 (IntKind.i64.wrap (2*(z:Int)))=vi ((2*z:Nat):Int):=by
 rw[Ex oQ oQ,Int.natCast_mul];rfl
theorem V4{z:Nat}(h:2*z<9223372036854775808):Go.Value.int .i64 (IntKind.i64.wrap ((z:Int)*2))=vi ((2*z:Nat):Int):=by
 rw[Int.mul_comm];exact Tb h
theorem AJ{a b:Nat}(h:a=b):vi (a:Int)=vi (b:Int):=by rw[h]
end Go.Wx
namespace Go.Proofs.YtnpgbbaniknpkaaGreatDoor
open Go.Proofs.Tryz
open Go.Wx Go.RowKit
theorem V5(a:Int)(w:World):Ret prog 154 #[vi a] w fun r w'=>r=.bool false∧Up w w':=by
 have hW:=Up.refl w
 refine cT 6 func154 rfl (Af (Az (An (Aa (I rfl (I rfl (U (.fa (PEv.neq (.t rfl) (.t rfl)) (by simp)) (LW.A rfl (Ah (Am (KW.q ?_)))))))))))
 exact⟨rfl,hW⟩
theorem Lh(a b:Int)(w:World):Ret prog 78 #[vi a,vi b] w fun r w'=>r=vi (Lg a b)∧Up w w':=by
 have hW:=Up.refl w
 refine cT 20 func78 rfl (Af (Az (An (Aa (I rfl (A4 (eC (.o rfl) (xL)) rfl (V5 _ _) ?_))))))
 rintro _ w1 ⟨rfl,uw1⟩
 replace hW:=hW.up uw1
 refine LW.A rfl (An (Aa (I rfl (A4 (eC (.o rfl) (xL)) rfl (V5 _ _) ?_))))
 rintro _ w2 ⟨rfl,uw2⟩
 replace hW:=hW.up uw2
 refine LW.A rfl (An (Af (I rfl (Ah (CW.f rfl (Aj (Ac (Ai (Af (I rfl (Ah (CW.f rfl (Aj (Ac (Ai (Af (I rfl (I rfl (U (.l2 rfl rfl) (Ah (CW.b rfl (fun h16=>?_) (fun h16=>?_))))))))))))))))))))))
 ·replace h16:=dQ h16
  refine Af (Az (Ah (Am (Ar (KW.q ?_)))))
  refine⟨bi vi ?_,hW⟩
  unfold Lg
  (rw[bh (by omega)])
 replace h16:=dQ h16
 refine Aj (Ac (Ai (Af (I rfl (I rfl (U (.gtr (.t rfl) (.t rfl)) (Ah (CW.b rfl (fun h19=>?_) (fun h19=>?_)))))))))
 ·replace h19:=dQ h19
  refine Af (Az (Ah (Am (Ar (KW.q ?_)))))
  refine⟨bi vi ?_,hW⟩
  unfold Lg
  (rw[aq oQ,bh (by omega)])
 replace h19:=dQ h19
 refine Aj (Ac (Af (Az (Ah (Am (KW.q ?_))))))
 refine⟨bi vi ?_,hW⟩
 unfold Lg
 (rw[aq oQ,aq (by omega)])
theorem qP(ad:Option Addr)(cp:Nat)(l:List Int)(w:World)(hE0:Els w ad 1 A3 l)(hl:l.length≤1000):Ret prog 77 #[.slice ad l.length cp] w fun r w'=>r=vi (tH l)∧Up w w':=by
 have hW:=Up.refl w
 obtain⟨w0,rfl,_⟩:=W0 w
 refine cT 18 func77 rfl (Af (Az (An (Aa (Az (An (Af (I rfl (U (.Ck k_ (.t rfl)) (U (.move (.const _)) (Ah (Ak (A6 (σ:=Nat) (fun s w=>(s≤l.length)∧(tH l=tH (l.drop s))∧(Up w0 w)) (fun s=>[(8,.eq (vi (s:Int)))]) ([(3,.eq _),(6,.eq _),(7,.eq _)]) (fun s=>l.length-s) 0 ?_ tQ ?_)))))))))))))
 ·exact⟨a8 _,rfl,Up.refl _⟩
 rintro k w1 ⟨hkk,hor,hL1⟩
 replace hW:=hW.up hL1
 refine Af (U (.l2 rfl rfl) (An (CW.b rfl (fun h9=>?_) (fun h9=>?_))))
 ·refine Aj (Ac (Ai (Ak (Ai ?_))))
  have hE:=Els.up hE0 hW
  have hkl:k<l.length:=by simp at h9;omega
  refine Aa ?_
  obtain⟨x,hx⟩:=Ae (xs:=l) (i:=k) oQ
  obtain⟨Bx,ox,ax,hcx⟩:=hE _ x hx
  refine U (.Ao k_ lg (.t rfl) (.t rfl) oQ ax) (U (.lb rfl (hcx.nth (j:=0) rfl)) (LW.A rfl (An (Aa (I rfl (I rfl (U (.neq (.t rfl) (.t rfl)) (Ah (CW.b rfl (fun h14=>?_) (fun h14=>?_))))))))))
  ·refine Af (I rfl (LW.A rfl (Ah (Am (A7 (Ar (Ar (A7 (Ar (KW.q ?_))))))))))
   refine⟨bi vi ?_,hW⟩
   rw[hor]
   (rw[Z4 hx,aq (by simpa using h14)])
  refine Aj (Al (Ac (Aa (U (.ic rfl oQ) (I rfl (LW.nil (Av ?_)))))))
  exact⟨k+1,⟨by omega,by rw[hor,Z4 hx,bh (by simpa using h14)],hL1⟩,tQ,by omega⟩
 refine A8 (Ab (Ab (Aq (Ac (Af (I rfl (LW.A rfl (Ah (Am (KW.q ?_))))))))))
 refine⟨bi vi ?_,hW⟩
 rw[hor]
 (rw[i7 (by simp at h9;omega)];rfl)
theorem lO(of:Nat)(key:Fact→K2)(hen:∀args w,(callFunc of args).run prog w=.ok (.enter of args) w)(hord:∀W x,Ret prog of #[.agg x.cells] W fun r W'=>r=.agg #[vi (key x).1,vi (key x).2]∧Up W W')(a b:Fact)(Bc:Nat)(w:World)(hC0:Blk w Bc #[.func (.func of) #[] #[]] 78):Ret prog 76 #[.agg a.cells,.agg b.cells,.pointer (some ⟨Bc,0,none⟩)] w fun r w'=>r=vi (Z3 (key a) (key b))∧Up w w':=by
 have hW:=Up.refl w
 have hC:=hC0
 refine cT 26 func76 rfl (Af (Ap (.bA rfl) rfl ?_))
 rintro _ w1 ⟨B3,rfl,NB3⟩
 replace hW:=hW.up NB3.up
 replace hC:=hC.up NB3.up
 have hB3:=NB3.blk
 refine Ap (.bA rfl) rfl ?_
 rintro _ w2 ⟨B4,rfl,NB4⟩
 replace hW:=hW.up NB4.up
 replace hC:=hC.up NB4.up
 replace hB3:=hB3.up NB4.up
 have hB4:=NB4.blk
 refine Az (An (CW.vars 10 [⟨6,8,2,6,10⟩,⟨7,9,5,7,13⟩] #[vi 0,vi 0] [.eq (.func (.func of) #[] #[]),.eq (.agg a.cells),.eq (.agg #[vi (key a).1,vi (key a).2]),.eq (.func (.func of) #[] #[]),.eq (.agg b.cells),.eq (.agg #[vi (key b).1,vi (key b).2]),.pred fun v _=>∃B,v=.pointer (some ⟨B,0,none⟩),.pred fun v _=>∃B,v=.pointer (some ⟨B,0,none⟩),.eq undef,.eq undef] [6,7] mr nb kQ rfl kQ kQ kQ kQ kQ kQ kQ kQ cQ kQ kQ ?_ ?_ ⟨ot,ot,ot,ot,ot,ot,PhT.pred fun _ _ _ h _=>h,PhT.pred fun _ _ _ h _=>h,ot,ot,trivial⟩ ?_ ?_ ?_ ?_ ?_))
 ·intro v hv;simp only[bp,df,d_]at hv;rcases hv with rfl|rfl<;>exact⟨_,_,_,rfl⟩
 ·intro v hv;simp only[bp,df,d_]at hv;rcases hv with rfl|rfl<;>exact⟨_,_,_,rfl⟩
 ·intro v hv;simp only[bp,df,d_]at hv;rcases hv with rfl|rfl<;>(intro o ho;cases ho;rfl)
 ·intro v hv;simp only[bp,df,d_]at hv;rcases hv with rfl|rfl
  ·exact fun v W h=>⟨_,h,rfl,(qN (key a)).2⟩
  exact fun v W h=>⟨_,h,rfl,(qN (key b)).2⟩
 ·intro v hv;simp only[bp,df,d_]at hv;rcases hv with rfl|rfl<;>exact fun B W=>⟨B,rfl⟩
 ·intro W hK0
  have hK:=(Up.drew w2).Dj.trans hK0
  have hCW:=Blk.Dj hC (T:=142) rfl hK
  have hB3W:=Blk.Dj hB3 (T:=142) rfl hK
  have hB4W:=Blk.Dj hB4 (T:=142) rfl hK
  refine aC (.inr ⟨rfl,TU.p (.lb rfl (hCW.Ad rfl)) rfl⟩) (aC (.inr ⟨rfl,TU.p (.lc rfl (hB3W.agg)) rfl⟩) (aC (.inr ⟨rfl,TU.c (Ey (.t rfl) (.cu rfl) hen) (hord _ a) sQ⟩) (aC (.inr ⟨rfl,TU.p (.lb rfl (hCW.Ad rfl)) rfl⟩) (aC (.inr ⟨rfl,TU.p (.lc rfl (hB4W.agg)) rfl⟩) (aC (.inr ⟨rfl,TU.c (Ey (.t rfl) (.cu rfl) hen) (hord _ b) sQ⟩) (aC (.inl (by simp)) (aC (.inl (by simp)) (aC (.inl (by simp)) (aC (.inl (by simp)) ?_)))))))))
  exact allL.nil
 intro wT g hU0 hbl hpw hg
 have hU:=(Up.drew w2).trans hU0
 obtain⟨B6,e6,z6,hB6⟩:=hbl ⟨6,8,2,6,10⟩ (by simp)
 obtain⟨B7,e7,z7,hB7⟩:=hbl ⟨7,9,5,7,13⟩ (by simp)
 have e10:g 10=.agg #[vi (key a).1,vi (key a).2]:=hg 2 _ 10 cQ rfl rfl
 have e13:g 13=.agg #[vi (key b).1,vi (key b).2]:=hg 5 _ 13 cQ rfl rfl
 replace e6:g 6=.pointer (some ⟨B6,0,none⟩):=e6
 replace e7:g 7=.pointer (some ⟨B7,0,none⟩):=e7
 change LW _ _ _ _ _ _ _ _ ((6,.eq (g 6))::(7,.eq (g 7))::_) _
 rw[e6,e7]
 rw[e10]at hB6
 rw[e13]at hB7
 replace hB6:Blk wT B6 #[vi (key a).1,vi (key a).2] 142:=hB6
 replace hB7:Blk wT B7 #[vi (key b).1,vi (key b).2] 142:=hB7
 replace hW:=hW.trans hU
 refine An (Ju 11 [.eq (.pointer (some ⟨B6,0,none⟩)),.eq (vi (key a).1),.eq (.pointer (some ⟨B7,0,none⟩)),.eq (vi (key b).1),.eq (vi (Lg (key a).1 (key b).1)),.eq (.pointer (some ⟨B6,1,none⟩)),.eq (vi (key a).2),.eq (.pointer (some ⟨B7,1,none⟩)),.eq (vi (key b).2),.eq (vi (Lg (key a).2 (key b).2)),.pred (fun v w=>SlT 3 w v 1 A3 [Lg (key a).1 (key b).1,Lg (key a).2 (key b).2])] [24] kQ rfl kQ kQ kQ kQ kQ kQ kQ ⟨om,om,om,om,om,om,om,om,om,om,PhU.pred fun _ _ _ h u=>SlT.G7 h u.G7,trivial⟩ ?_ ?_)
 ·intro W hU0
  have hU:=(Up.drew wT).trans hU0
  refine aC ⟨rfl,TU.p (.Eu (j:=0) m3 lg (.t rfl) (.const _) cQ) rfl⟩ (aC ⟨rfl,TU.p (.lb rfl ((hB6.up hU).Ad rfl)) rfl⟩ (aC ⟨rfl,TU.p (.Eu (j:=0) m3 lg (.t rfl) (.const _) cQ) rfl⟩ (aC ⟨rfl,TU.p (.lb rfl ((hB7.up hU).Ad rfl)) rfl⟩ (aC ⟨rfl,TU.c (eC (.u rfl rfl) (tO)) (Lh _ _ _) sQ⟩ (aC ⟨rfl,TU.p (.Eu (j:=1) m3 lg (.t rfl) (.const _) cQ) rfl⟩ (aC ⟨rfl,TU.p (.lb rfl ((hB6.up hU).Ad rfl)) rfl⟩ (aC ⟨rfl,TU.p (.Eu (j:=1) m3 lg (.t rfl) (.const _) cQ) rfl⟩ (aC ⟨rfl,TU.p (.lb rfl ((hB7.up hU).Ad rfl)) rfl⟩ (aC ⟨rfl,TU.c (eC (.u rfl rfl) (tO)) (Lh _ _ _) sQ⟩ (aC ⟨rfl,TU.r (REv.buildSlice (xs:=[Lg (key a).1 (key b).1,Lg (key a).2 (key b).2]) (enc:=A3) (mk:=vi) k_ lg lq rfl cQ (fun _=>rfl) (fun _=>rfl) (.ct rfl (.cu rfl)) rfl) (by rintro _ W1 ⟨B,c,rfl,N,y,x⟩;exact⟨N.up,SlT.lit ⟨B,c,rfl,N,y,x⟩⟩)⟩ ?_))))))))))
  exact allL.nil
 intro w3 g hU0 hg
 have hU:=(Up.drew wT).trans hU0
 replace hW:=hW.up hU
 replace hB6:=hB6.up hU
 replace hB7:=hB7.up hU
 obtain⟨⟨ad,cp,e24,hE⟩,_⟩:=hg 10 _ 24 cQ rfl rfl
 change LW _ _ _ _ _ _ _ _ ((24,.eq (g 24))::_) _
 rw[e24]
 refine A4 (eC (.o rfl) (CM)) rfl (qP ad cp _ _ hE (by simp)) ?_
 rintro _ w4 ⟨rfl,uw4⟩
 replace hW:=hW.up uw4
 replace hB6:=hB6.up uw4
 replace hB7:=hB7.up uw4
 refine LW.A rfl (Ah (Am (KW.q ?_)))
 exact⟨rfl,hW⟩
inductive TN(n:Nat):Prop|mk
abbrev tN{n:Nat}(_:TN n):Nat:=n
theorem Z5(v:Bool):∀args w,(callFunc (bif v then 153 else 225) args).run prog w=.ok (.enter (bif v then 153 else 225) args) w:=by cases v;exact FN;exact Yv
theorem Z6(v:Bool):∀args w,(callFunc (bif v then 211 else 257) args).run prog w=.ok (.enter (bif v then 211 else 257) args) w:=by cases v;exact FZ;exact Vh
theorem Z7(v:Bool):∀args w,(callFunc (bif v then 212 else 258) args).run prog w=.ok (.enter (bif v then 212 else 258) args) w:=by cases v;exact GA;exact Sc
theorem qQ(v:Bool):∀args w,(callFunc (bif v then 245 else 277) args).run prog w=.ok (.enter (bif v then 245 else 277) args) w:=by cases v;exact GI;exact oS
theorem qR(v:Bool):∀args w,(callFunc (bif v then 269 else 292) args).run prog w=.ok (.enter (bif v then 269 else 292) args) w:=by cases v;exact GO;exact Yw
theorem Tc(v:Bool):Tryz.prog.funcs[(bif v then 153 else 225)]?=some (bif v then f153 else f225):=by cases v;exact func225;exact func153
theorem Td(v:Bool):Tryz.prog.funcs[(bif v then 211 else 257)]?=some (bif v then f211 else f257):=by cases v;exact func257;exact func211
theorem eT(v:Bool):Tryz.prog.funcs[(bif v then 212 else 258)]?=some (bif v then f212 else f258):=by cases v;exact func258;exact func212
theorem eU(v:Bool):Tryz.prog.funcs[(bif v then 245 else 277)]?=some (bif v then f245 else f277):=by cases v;exact func277;exact func245
theorem eV(v:Bool):Tryz.prog.funcs[(bif v then 269 else 292)]?=some (bif v then f269 else f292):=by cases v;exact func292;exact func269
theorem V6(v:Bool):Tryz.prog.funcs[(bif v then 75 else 167)]?=some (bif v then f75 else f167):=by cases v;exact func167;exact func75
theorem N4(v:Bool):∀w,(isAgg (bif v then 35 else 220)).run prog w=.ok true w:=by cases v;exact isAgg220;exact n8
theorem Mc(v:Bool):∀w,(Go.sizeOf (bif v then 35 else 220)).run prog w=.ok 19 w:=by cases v;exact n9;exact lh
theorem F9(v:Bool):Tryz.prog.underlying (bif v then 25 else 218)=some (.slice (bif v then 35 else 220)):=by cases v;exact nz;exact lf
set_option maxHeartbeats 600000 in
theorem G0(v:Bool)(a b n:Nat)(fv:Go.Value)(g m cp:Nat)(xs:List Fact)(w:World)(ho:OwnS w 0 (bif v then 35 else 220) 19 Fact.cells (.slice (some ⟨g,0,none⟩) m cp) xs)(h63:m≤1000000000)(h1:a+n≤b)(h2:b+n≤m):Ret prog (bif v then 269 else 292) #[.slice (some ⟨g,0,none⟩) m cp,vi (a:Int),vi (b:Int),vi (n:Int),fv] w fun r w'=>r=.tuple #[]∧Stp (Aw (bif v then 35 else 220) 19 Fact.cells (.slice (some ⟨g,0,none⟩) m cp) (xs)) (Aw (bif v then 35 else 220) 19 Fact.cells (.slice (some ⟨g,0,none⟩) m cp) (Uj xs a b n)) w w':=by
 have TY0:TN (bif v then 35 else 220):=⟨⟩
 have func269:=eV v
 have n8:=N4 v
 have lh:=Mc v
 have lf:=F9 v
 cases v<;>dsimp only[cond]at*
 all_goals
  obtain⟨w0,rfl,_⟩:=W0 w
  have hxl:=ho.len
  have hS:Wx.Sep (Aw (tN TY0) 19 Fact.cells (.slice (some ⟨g,0,none⟩) m cp) (xs)).foot w0 w0 [Aw (tN TY0) 19 Fact.cells (.slice (some ⟨g,0,none⟩) m cp) (xs)]:=Sep.cons ho (fun _ h=>h) (Sep.start _ _) (by simp)
  refine cT 38 func269 rfl (Af (Az (Ah (Ak (A6 (σ:=Nat) (fun s w=>(s≤n)∧(Wx.Sep (Aw (tN TY0) 19 Fact.cells (.slice (some ⟨g,0,none⟩) m cp) (xs)).foot w0 w [Aw (tN TY0) 19 Fact.cells (.slice (some ⟨g,0,none⟩) m cp) (Uj xs a b s)])) (fun s=>[(10,.eq (vi (s:Int)))]) ([(0,.eq _),(1,.eq _),(2,.eq _),(3,.eq _)]) (fun s=>n-s) 0 ?_ tQ ?_)))))
  ·exact⟨a8 _,hS⟩
  rintro i w1 ⟨hin,hS⟩
  refine Ai (Af (I rfl (I rfl (U (.l2 rfl rfl) (Ah (CW.b rfl (fun h13=>?_) (fun h13=>?_)))))))
  ·refine Aj (Ac (Ai (Ak ?_)))
   have hil:i<n:=by simp at h13;omega
   have hsl:=Gm xs a b i
   obtain⟨x,hx⟩:=Ae (xs:=Uj xs a b i) (i:=a+i) oQ
   obtain⟨y,hy⟩:=Ae (xs:=Uj xs a b i) (i:=b+i) oQ
   refine Lb 21 23 [.slice (some ⟨g,0,none⟩) m cp,vi ((a:Nat):Int),vi ((i:Nat):Int),vi ((a+i:Nat):Int),.slice (some ⟨g,0,none⟩) m cp,vi ((b:Nat):Int),vi ((i:Nat):Int),vi ((b+i:Nat):Int),.slice (some ⟨g,0,none⟩) m cp,vi ((b:Nat):Int),vi ((i:Nat):Int),vi ((b+i:Nat):Int),.pointer (some ⟨g,0+(b+i)*19,none⟩),.agg (Fact.cells y),.slice (some ⟨g,0,none⟩) m cp,vi ((a:Nat):Int),vi ((i:Nat):Int),vi ((a+i:Nat):Int),.pointer (some ⟨g,0+(a+i)*19,none⟩),.agg (Fact.cells x),.pointer (some ⟨g,0+(a+i)*19,none⟩),undef,.pointer (some ⟨g,0+(b+i)*19,none⟩),undef] (fun W=>Wx.Sep (Aw (tN TY0) 19 Fact.cells (.slice (some ⟨g,0,none⟩) m cp) (xs)).foot w0 W [Aw (tN TY0) 19 Fact.cells (.slice (some ⟨g,0,none⟩) m cp) (Uj xs a b i)]) (fun W=>Wx.Sep (Aw (tN TY0) 19 Fact.cells (.slice (some ⟨g,0,none⟩) m cp) (xs)).foot w0 W [Aw (tN TY0) 19 Fact.cells (.slice (some ⟨g,0,none⟩) m cp) ((Uj xs a b i).set (a+i) y)]) (fun W=>Wx.Sep (Aw (tN TY0) 19 Fact.cells (.slice (some ⟨g,0,none⟩) m cp) (xs)).foot w0 W [Aw (tN TY0) 19 Fact.cells (.slice (some ⟨g,0,none⟩) m cp) (((Uj xs a b i).set (a+i) y).set (b+i) x)]) kQ rfl kQ kQ kQ kQ kQ kQ (hS.up (Up.drew _)) ?_ _ _ rfl rfl ⟨rfl,rfl⟩ ⟨rfl,rfl⟩ ?_ ?_ ?_
   ·refine aC (.inr ⟨rfl,.inr fun W=>PEv.mv rfl⟩) (aC (.inr ⟨rfl,.inr fun W=>PEv.mv rfl⟩) (aC (.inr ⟨rfl,.inr fun W=>PEv.mv rfl⟩) (aC (.inr ⟨rfl,.inr fun W=>PEv.addN (.t rfl) (.t rfl) oQ⟩) (aC (.inr ⟨rfl,.inr fun W=>PEv.mv rfl⟩) (aC (.inr ⟨rfl,.inr fun W=>PEv.mv rfl⟩) (aC (.inr ⟨rfl,.inr fun W=>PEv.mv rfl⟩) (aC (.inr ⟨rfl,.inr fun W=>PEv.addN (.t rfl) (.t rfl) oQ⟩) (aC (.inr ⟨rfl,.inr fun W=>PEv.mv rfl⟩) (aC (.inr ⟨rfl,.inr fun W=>PEv.mv rfl⟩) (aC (.inr ⟨rfl,.inr fun W=>PEv.mv rfl⟩) (aC (.inr ⟨rfl,.inr fun W=>PEv.addN (.t rfl) (.t rfl) oQ⟩) (aC (.inr ⟨rfl,.inr fun W=>PEv.indexAddr lf lh (.t rfl) (.t rfl) oQ⟩) (aC (.inr ⟨rfl,.inl ⟨by kernel_rfl,fun W hS=>PEv.lc rfl ((hS.own 0 rfl).at (fun _=>rfl) hy)⟩⟩) (aC (.inr ⟨rfl,.inr fun W=>PEv.mv rfl⟩) (aC (.inr ⟨rfl,.inr fun W=>PEv.mv rfl⟩) (aC (.inr ⟨rfl,.inr fun W=>PEv.mv rfl⟩) (aC (.inr ⟨rfl,.inr fun W=>PEv.addN (.t rfl) (.t rfl) oQ⟩) (aC (.inr ⟨rfl,.inr fun W=>PEv.indexAddr lf lh (.t rfl) (.t rfl) oQ⟩) (aC (.inr ⟨rfl,.inl ⟨by kernel_rfl,fun W hS=>PEv.lc rfl ((hS.own 0 rfl).at (fun _=>rfl) hx)⟩⟩) (aC (.inr ⟨rfl,.inr fun W=>PEv.indexAddr lf lh (.t rfl) (.t rfl) oQ⟩) (aC (.inl (by simp)) (aC (.inr ⟨rfl,.inr fun W=>PEv.indexAddr lf lh (.t rfl) (.t rfl) oQ⟩) (aC (.inl (by simp)) ?_)))))))))))))))))))))))
    exact allL.nil
   ·intro W hS
    exact SEv.mono (Ez (i:=a+i) (z:=y) lh (fun _=>rfl) Fact.one (.t rfl) (.t rfl) (hS.own 0 rfl) oQ) (fun _ h=>hS.Fs 0 rfl h)
   ·intro W hS
    exact SEv.mono (Ez (i:=b+i) (z:=x) lh (fun _=>rfl) Fact.one (.t rfl) (.t rfl) (hS.own 0 rfl) oQ) (fun _ h=>hS.Fs 0 rfl h)
   intro w2 hS
   have hS:Wx.Sep (Aw (tN TY0) 19 Fact.cells (.slice (some ⟨g,0,none⟩) m cp) (xs)).foot w0 w2 [Aw (tN TY0) 19 Fact.cells (.slice (some ⟨g,0,none⟩) m cp) (((Uj xs a b i).set (a+i) y).set (b+i) x)]:=hS
   refine Al (Ac (Aa (I rfl (U (.ic rfl oQ) (LW.A rfl (LW.nil (Av ?_)))))))
   exact⟨i+1,⟨by omega,by rw[Uj,Xl hx hy];exact hS⟩,tQ,by omega⟩
  refine A8 (Ab (Ab (Aq (Dh rfl ⟨_,rfl,?_⟩))))
  have hin2:i=n:=by simp at h13;omega
  subst hin2
  exact⟨rfl,⟨hS.fr,hS.get 0 rfl,fun _ h=>.inl h⟩⟩
set_option maxHeartbeats 600000 in
theorem N5(v:Bool)(a mm b:Nat)(fv:Go.Value)(g m cp:Nat)(xs:List Fact)(w:World)(ho:OwnS w 0 (bif v then 35 else 220) 19 Fact.cells (.slice (some ⟨g,0,none⟩) m cp) xs)(h63:m≤1000000000)(h1:a<mm)(h2:mm<b)(h3:b≤m):Ret prog (bif v then 245 else 277) #[.slice (some ⟨g,0,none⟩) m cp,vi (a:Int),vi (mm:Int),vi (b:Int),fv] w fun r w'=>r=.tuple #[]∧Stp (Aw (bif v then 35 else 220) 19 Fact.cells (.slice (some ⟨g,0,none⟩) m cp) (xs)) (Aw (bif v then 35 else 220) 19 Fact.cells (.slice (some ⟨g,0,none⟩) m cp) (Kc xs a mm b)) w w':=by
 have TY0:TN (bif v then 35 else 220):=⟨⟩
 have Yw:=qR v
 have func245:=eU v
 have G0:=@G0 v
 cases v<;>dsimp only[cond]at*
 all_goals
  obtain⟨w0,rfl,_⟩:=W0 w
  have hxl:=ho.len
  have hS:Wx.Sep (Aw (tN TY0) 19 Fact.cells (.slice (some ⟨g,0,none⟩) m cp) (xs)).foot w0 w0 [Aw (tN TY0) 19 Fact.cells (.slice (some ⟨g,0,none⟩) m cp) (xs)]:=Sep.cons ho (fun _ h=>h) (Sep.start _ _) (by simp)
  refine cT 58 func245 rfl (Af (I rfl (I rfl (U (.Nt (.t rfl) (.t rfl) oQ oQ) (LW.A rfl (An (Aa (I rfl (I rfl (U (.Nt (.t rfl) (.t rfl) oQ oQ) (LW.A rfl (An (Ak (A6 (σ:=Nat×Nat×List Fact) (fun s w=>(0<s.1∧0<s.2.1∧s.1≤mm-a∧s.2.1≤b-mm)∧(s.2.2.length=m)∧(Kc s.2.2 (mm-s.1) mm (mm+s.2.1)=Kc xs a mm b)∧(Wx.Sep (Aw (tN TY0) 19 Fact.cells (.slice (some ⟨g,0,none⟩) m cp) (xs)).foot w0 w [Aw (tN TY0) 19 Fact.cells (.slice (some ⟨g,0,none⟩) m cp) (s.2.2)])) (fun s=>[(10,.eq (vi (s.1:Int))),(11,.eq (vi (s.2.1:Int)))]) ([(0,.eq _),(2,.eq _),(4,.eq _)]) (fun s=>s.1+s.2.1) (mm-a,b-mm,xs) ?_ tQ ?_))))))))))))))
  ·exact⟨⟨by show 0<mm-a;omega,by show 0<b-mm;omega,bl _,bl _⟩,hxl,by rw[show mm-(mm-a)=a by omega,show mm+(b-mm)=b by omega],hS⟩
  rintro⟨i,j,ys⟩ w1 ⟨hij,hyl,hrt,hS⟩
  dsimp only at hij hyl hrt hS
  change CW _ _ _ _ _ _ _ ([(10,.eq (vi (i:Int))),(11,.eq (vi (j:Int)))]++_) _
  refine Ai (Af (I rfl (I rfl (U (.neq (.t rfl) (.t rfl)) (Ah (CW.b rfl (fun h20=>?_) (fun h20=>?_)))))))
  ·replace h20:=dQ h20
   have hne0:¬((i:Int)=j):=by simpa using h20
   have hne:i≠j:=by omega
   refine Aj (Ac (Ak (Af (I rfl (I rfl (U (.gtr (.t rfl) (.t rfl)) (Ah (CW.b rfl (fun h23=>?_) (fun h23=>?_)))))))))
   ·replace h23:=dQ h23
    refine Af (I rfl (I rfl (I rfl (U (.Nt (.t rfl) (.t rfl) oQ oQ) (I rfl (I rfl (I rfl (A4 (eC (.ct rfl (.ct rfl (.ct rfl (.ct rfl (.cu rfl))))) (Yw)) rfl (G0 (mm-i) mm j _ g m cp ys _ (hS.own 0 rfl) h63 oQ oQ) ?_))))))))
    rintro _ w2 ⟨rfl,uw2⟩
    replace hS:=hS.Fs 0 rfl uw2
    refine Ah (Aa (I rfl (I rfl (U (.Nt (.t rfl) (.t rfl) oQ oQ) (LW.A rfl (LW.nil (Al (Av ?_))))))))
    exact⟨(i-j,j,Uj ys (mm-i) mm j),⟨⟨by show 0<i-j;omega,by show 0<j;omega,by show i-j≤mm-a;omega,by show j≤b-mm;omega⟩,by rw[Gm];exact hyl,by rw[←hrt];exact uX oQ oQ oQ oQ,hS⟩,tQ,by(dsimp only;omega)⟩
   replace h23:=dQ h23
   refine Af (I rfl (I rfl (I rfl (U (.Nt (.t rfl) (.t rfl) oQ oQ) (I rfl (I rfl (U (.addN (.t rfl) (.t rfl) oQ) (I rfl (U (.Nt (.t rfl) (.t rfl) oQ oQ) (I rfl (I rfl (A4 (eC (.ct rfl (.ct rfl (.ct rfl (.ct rfl (.cu rfl))))) (Yw)) rfl (G0 (mm-i) (mm+j-i) i _ g m cp ys _ (hS.own 0 rfl) h63 oQ oQ) ?_))))))))))))
   rintro _ w3 ⟨rfl,uw3⟩
   replace hS:=hS.Fs 0 rfl uw3
   refine Ah (Aa (I rfl (I rfl (U (.Nt (.t rfl) (.t rfl) oQ oQ) (LW.A rfl (LW.nil (Al (Av ?_))))))))
   exact⟨(i,j-i,Uj ys (mm-i) (mm+j-i) i),⟨⟨by show 0<i;omega,by show 0<j-i;omega,by show i≤mm-a;omega,by show j-i≤b-mm;omega⟩,by rw[Gm];exact hyl,by rw[←hrt];exact lI oQ oQ oQ oQ,hS⟩,tQ,by(dsimp only;omega)⟩
  replace h20:=dQ h20
  have heq0:((i:Int)=j):=by simpa using h20
  have heq:i=j:=by omega
  subst heq
  refine A8 (Ab (Ab (Aq (Ac (Aa (I rfl (I rfl (I rfl (U (.Nt (.t rfl) (.t rfl) oQ oQ) (I rfl (I rfl (I rfl (A4 (eC (.ct rfl (.ct rfl (.ct rfl (.ct rfl (.cu rfl))))) (Yw)) rfl (G0 (mm-i) mm i _ g m cp ys _ (hS.own 0 rfl) h63 oQ oQ) ?_)))))))))))))
  rintro _ w4 ⟨rfl,uw4⟩
  replace hS:=hS.Fs 0 rfl uw4
  refine LW.nil (Dh rfl ⟨_,rfl,?_⟩)
  rw[qE oQ oQ,hrt]at hS
  exact⟨rfl,⟨hS.fr,hS.get 0 rfl,fun _ h=>.inl h⟩⟩
set_option maxHeartbeats 600000 in
theorem H7(v:Bool)(a b:Nat)(cf:Nat)(lb:Array Go.Value)(key:Fact→K2)(hen:∀args w,(callFunc cf args).run prog w=.ok (.enter cf args) w)(g m cp:Nat)(xs:List Fact)(w:World)(ho:OwnS w 0 (bif v then 35 else 220) 19 Fact.cells (.slice (some ⟨g,0,none⟩) m cp) xs)(h63:m≤1000000000)(hcmp:∀W,Fr (Aw (bif v then 35 else 220) 19 Fact.cells (.slice (some ⟨g,0,none⟩) m cp) (xs)).foot w W→∀x y,Ret prog cf (#[.agg (Fact.cells x),.agg (Fact.cells y)]++lb) W fun r W'=>r=vi (Z3 (key x) (key y))∧Up W W')(h1:a≤b)(h2:b≤m):Ret prog (bif v then 211 else 257) #[.slice (some ⟨g,0,none⟩) m cp,vi (a:Int),vi (b:Int),.func (.func cf) #[] lb] w fun r w'=>r=.tuple #[]∧∃zs,StS key (C7 xs a b) zs∧Stp (Aw (bif v then 35 else 220) 19 Fact.cells (.slice (some ⟨g,0,none⟩) m cp) (xs)) (Aw (bif v then 35 else 220) 19 Fact.cells (.slice (some ⟨g,0,none⟩) m cp) (Fl xs a b zs)) w w':=by
 have TY0:TN (bif v then 35 else 220):=⟨⟩
 have func211:=Td v
 have n8:=N4 v
 have lh:=Mc v
 have lf:=F9 v
 cases v<;>dsimp only[cond]at*
 all_goals
  obtain⟨w0,rfl,_⟩:=W0 w
  have hxl:=ho.len
  have hS:Wx.Sep (Aw (tN TY0) 19 Fact.cells (.slice (some ⟨g,0,none⟩) m cp) (xs)).foot w0 w0 [Aw (tN TY0) 19 Fact.cells (.slice (some ⟨g,0,none⟩) m cp) (xs)]:=Sep.cons ho (fun _ h=>h) (Sep.start _ _) (by simp)
  refine cT 53 func211 rfl (Af (I rfl (U (.ic rfl oQ) (LW.A rfl (Ah (Ak (A6 (σ:=Nat×List Fact) (fun s w=>(a+1≤s.1∧(s.1≤b∨s.1=a+1))∧(StS key (C7 xs a (min s.1 b)) s.2)∧(Wx.Sep (Aw (tN TY0) 19 Fact.cells (.slice (some ⟨g,0,none⟩) m cp) (xs)).foot w0 w [Aw (tN TY0) 19 Fact.cells (.slice (some ⟨g,0,none⟩) m cp) (Fl xs a (min s.1 b) s.2)])) (fun s=>[(8,.eq (vi (s.1:Int)))]) ([(0,.eq _),(1,.eq _),(2,.eq _),(3,.eq _)]) (fun s=>b-s.1) (a+1,C7 xs a (min (a+1) b)) ?_ tQ ?_)))))))
  ·exact⟨⟨bl _,.inr rfl⟩,StS.refl (uZ (by rw[Cn (by omega)];omega)),by rw[Hi oQ (by omega)];exact hS⟩
  rintro⟨i,zs⟩ w1 ⟨hi,hz,hS⟩
  dsimp only at hi hz hS
  change CW _ _ _ _ _ _ _ ([(8,.eq (vi (i:Int)))]++_) _
  refine Ai (Af (I rfl (I rfl (U (.l2 rfl rfl) (Ah (CW.b rfl (fun h14=>?_) (fun h14=>?_)))))))
  ·refine Aj (Ac (Ai (Ak (Ai ?_))))
   have hib:i<b:=by simp at h14;omega
   rw[dq (by omega)]at hz hS
   have hzl:zs.length=i-a:=by rw[hz.same.length,Cn (by omega)]
   obtain⟨x,hx⟩:=Ae (xs:=xs) (i:=i) oQ
   refine Aa (I rfl (LW.A rfl (Ah (Ak (A6 (σ:=Nat) (fun s w=>(a≤s∧s≤i)∧(∀y∈zs.drop (s-a),H4 (key x) (key y)=true)∧(Wx.Sep (Aw (tN TY0) 19 Fact.cells (.slice (some ⟨g,0,none⟩) m cp) (xs)).foot w0 w [Aw (tN TY0) 19 Fact.cells (.slice (some ⟨g,0,none⟩) m cp) (Fl xs a (i+1) (C2 zs x (s-a)))])) (fun s=>[(9,.eq (vi (s:Int)))]) ([(0,.eq _),(1,.eq _),(2,.eq _),(3,.eq _),(8,.eq _)]) (fun s=>s) i ?_ tQ ?_)))))
   ·exact⟨⟨by omega,bl _⟩,by rw[i7 (by omega)];simp,by rw[←hzl,V1,Zt oQ hx hzl];exact hS⟩
   rintro j w2 ⟨hj,hgt,hS⟩
   refine Ai (Ai ?_)
   skip
   cases hq4:decide (a<j)with
   |true=>
    have haj:=b9 hq4
    obtain⟨y,hy⟩:=Ae (xs:=zs) (i:=j-a-1) oQ
    have hjx:(Fl xs a (i+1) (C2 zs x (j-a)))[j]?=some x:=by have:=Zu (xs:=xs) (a:=a) (b:=i+1) (zs:=zs) (x:=x) (p:=j-a) oQ oQ oQ (by omega);rwa [show a+(j-a)=j by omega]at this
    have hjy:(Fl xs a (i+1) (C2 zs x (j-a)))[j-1]?=some y:=by have:=N3 (xs:=xs) (a:=a) (b:=i+1) (zs:=zs) (x:=x) (p:=j-a) (q:=j-a-1) oQ oQ oQ oQ (by omega);rw[show a+(j-a-1)=j-1 by omega]at this;exact this.trans hy
    refine C5 kQ kQ rfl rfl (J (.mv rfl) (J (.mv rfl) (J (.tr (PEv.gtr (.t rfl) (.t rfl)) (bj oQ)) (J (.mv rfl) (C6 (.mv rfl) (C6 (.mv rfl) (C6 (.mv rfl) (C6 (.indexAddr lf lh (.t rfl) (.t rfl) oQ) (C6 (.lc rfl ((hS.own 0 rfl).at (fun _=>rfl) hjx)) (C6 (.mv rfl) (C6 (.mv rfl) (C6 (.dec (.t rfl) oQ oQ) (C6 (.indexAddr lf lh (.t rfl) (.t rfl) oQ) (C6 (.lc rfl ((hS.own 0 rfl).at (fun _=>rfl) hjy)) (xF rfl rfl rfl rfl rfl (fun a w _ ha=>Cu (.t rfl) (.ct rfl (.cu rfl)) (hen) a ha) rfl (fun w hu=>hcmp w (hS.fr.trans (hu.fr _)) x y) (C6 (.lss (.t rfl) (.const _)) (J (.pa rfl (fun hp=>(by exact .tmp rfl))) (HW.nil ?_))))))))))))))))))
    intro w3 uw3
    replace hS:=hS.up uw3
    refine Ac (CW.b rfl (fun h34=>?_) (fun h34=>?_))
    ·refine Aj (Ac (Ai (Ak (Lb 15 17 [.slice (some ⟨g,0,none⟩) m cp,vi ((j:Nat):Int),.slice (some ⟨g,0,none⟩) m cp,vi ((j:Nat):Int),vi ((j-1:Nat):Int),.slice (some ⟨g,0,none⟩) m cp,vi ((j:Nat):Int),vi ((j-1:Nat):Int),.pointer (some ⟨g,0+(j-1)*19,none⟩),.agg (Fact.cells y),.slice (some ⟨g,0,none⟩) m cp,vi ((j:Nat):Int),.pointer (some ⟨g,0+(j)*19,none⟩),.agg (Fact.cells x),.pointer (some ⟨g,0+(j)*19,none⟩),undef,.pointer (some ⟨g,0+(j-1)*19,none⟩),undef] (fun W=>Wx.Sep (Aw (tN TY0) 19 Fact.cells (.slice (some ⟨g,0,none⟩) m cp) (xs)).foot w0 W [Aw (tN TY0) 19 Fact.cells (.slice (some ⟨g,0,none⟩) m cp) (Fl xs a (i+1) (C2 zs x (j-a)))]) (fun W=>Wx.Sep (Aw (tN TY0) 19 Fact.cells (.slice (some ⟨g,0,none⟩) m cp) (xs)).foot w0 W [Aw (tN TY0) 19 Fact.cells (.slice (some ⟨g,0,none⟩) m cp) ((Fl xs a (i+1) (C2 zs x (j-a))).set (j) y)]) (fun W=>Wx.Sep (Aw (tN TY0) 19 Fact.cells (.slice (some ⟨g,0,none⟩) m cp) (xs)).foot w0 W [Aw (tN TY0) 19 Fact.cells (.slice (some ⟨g,0,none⟩) m cp) (((Fl xs a (i+1) (C2 zs x (j-a))).set (j) y).set (j-1) x)]) kQ rfl kQ kQ kQ kQ kQ kQ (hS.up (Up.drew _)) ?_ _ _ rfl rfl ⟨rfl,rfl⟩ ⟨rfl,rfl⟩ ?_ ?_ ?_))))
     ·refine aC (.inr ⟨rfl,.inr fun W=>PEv.mv rfl⟩) (aC (.inr ⟨rfl,.inr fun W=>PEv.mv rfl⟩) (aC (.inr ⟨rfl,.inr fun W=>PEv.mv rfl⟩) (aC (.inr ⟨rfl,.inr fun W=>PEv.mv rfl⟩) (aC (.inr ⟨rfl,.inr fun W=>PEv.dec (.t rfl) oQ oQ⟩) (aC (.inr ⟨rfl,.inr fun W=>PEv.mv rfl⟩) (aC (.inr ⟨rfl,.inr fun W=>PEv.mv rfl⟩) (aC (.inr ⟨rfl,.inr fun W=>PEv.dec (.t rfl) oQ oQ⟩) (aC (.inr ⟨rfl,.inr fun W=>PEv.indexAddr lf lh (.t rfl) (.t rfl) oQ⟩) (aC (.inr ⟨rfl,.inl ⟨by kernel_rfl,fun W hS=>PEv.lc rfl ((hS.own 0 rfl).at (fun _=>rfl) hjy)⟩⟩) (aC (.inr ⟨rfl,.inr fun W=>PEv.mv rfl⟩) (aC (.inr ⟨rfl,.inr fun W=>PEv.mv rfl⟩) (aC (.inr ⟨rfl,.inr fun W=>PEv.indexAddr lf lh (.t rfl) (.t rfl) oQ⟩) (aC (.inr ⟨rfl,.inl ⟨by kernel_rfl,fun W hS=>PEv.lc rfl ((hS.own 0 rfl).at (fun _=>rfl) hjx)⟩⟩) (aC (.inr ⟨rfl,.inr fun W=>PEv.indexAddr lf lh (.t rfl) (.t rfl) oQ⟩) (aC (.inl (by simp)) (aC (.inr ⟨rfl,.inr fun W=>PEv.indexAddr lf lh (.t rfl) (.t rfl) oQ⟩) (aC (.inl (by simp)) ?_)))))))))))))))))
      exact allL.nil
     ·intro W hS
      exact SEv.mono (Ez (i:=j) (z:=y) lh (fun _=>rfl) Fact.one (.t rfl) (.t rfl) (hS.own 0 rfl) oQ) (fun _ h=>hS.Fs 0 rfl h)
     ·intro W hS
      exact SEv.mono (Ez (i:=j-1) (z:=x) lh (fun _=>rfl) Fact.one (.t rfl) (.t rfl) (hS.own 0 rfl) oQ) (fun _ h=>hS.Fs 0 rfl h)
     intro w4 hS
     have hS:Wx.Sep (Aw (tN TY0) 19 Fact.cells (.slice (some ⟨g,0,none⟩) m cp) (xs)).foot w0 w4 [Aw (tN TY0) 19 Fact.cells (.slice (some ⟨g,0,none⟩) m cp) (((Fl xs a (i+1) (C2 zs x (j-a))).set (j) y).set (j-1) x)]:=hS
     refine Al (Ac (Aa (I rfl (U (.dec (.t rfl) oQ oQ) (LW.A rfl (LW.nil (Av ?_)))))))
     exact⟨j-1,⟨⟨by omega,by omega⟩,by rw[show j-1-a=j-a-1 by omega];exact lK oQ hy hgt (by rw[←Ia];simpa using h34),by have:=Zv (xs:=xs) (a:=a) (b:=i+1) (x:=x) (p:=j-a-1) (y:=y) oQ oQ oQ oQ hy;rw[show j-a-1+1=j-a by omega,show a+(j-a)=j by omega,show a+(j-a-1)=j-1 by omega]at this;rw[show j-1-a=j-a-1 by omega,←this];exact hS⟩,tQ,by omega⟩
    refine A8 (Ab (Ab (Aq (Al (Ac (Aa (I rfl (U (.ic rfl oQ) (LW.A rfl (LW.nil (Av ?_)))))))))))
    exact⟨(i+1,C2 zs x (j-a)),⟨⟨by omega,by omega⟩,by rw[dq oQ,Mb oQ hx];exact hz.snoc oQ hgt (.inr ⟨y,hy,by rw[←Ia];simpa using h34⟩),by rw[dq (by omega)];exact hS⟩,tQ,by omega⟩
   |false=>
    refine C5 kQ kQ rfl rfl (J (.mv rfl) (J (.mv rfl) (J (.fa (PEv.gtr (.t rfl) (.t rfl)) (br (by have:=cd hq4;omega))) (J (.mv rfl) (Ec (Ec (Ec (Ec (Ec (Ec (Ec (Ec (Ec (Ec (Ec (Ec (J (.Cv (b:=false) (.t rfl) (fun hp=>absurd (show false=true from hp) cQ)) (HW.nil ?_))))))))))))))))))
    intro w5 uw5
    replace hS:=hS.up uw5
    refine Ac (CW.f rfl (A8 (Ab (Ab (Aq (Al (Ac (Aa (I rfl (U (.ic rfl oQ) (LW.A rfl (LW.nil (Av ?_)))))))))))))
    exact⟨(i+1,C2 zs x (j-a)),⟨⟨by omega,by omega⟩,by rw[dq oQ,Mb oQ hx];exact hz.snoc oQ hgt (.inl (by have:=cd hq4;omega)),by rw[dq (by omega)];exact hS⟩,tQ,by omega⟩
  refine A8 (Ab (Ab (Aq (Dh rfl ⟨_,rfl,?_⟩))))
  have hbi:min i b=b:=by simp at h14;omega
  rw[hbi]at hz hS
  exact⟨rfl,zs,hz,⟨hS.fr,hS.get 0 rfl,fun _ h=>.inl h⟩⟩
set_option maxHeartbeats 16000000 in
theorem Iy(v:Bool)(cf:Nat)(lb:Array Go.Value)(key:Fact→K2)(hen:∀args w,(callFunc cf args).run prog w=.ok (.enter cf args) w)(g m cp:Nat)(h63:m≤1000000000):∀(N a mm b:Nat)(xs:List Fact)(w:World),b-a≤N→OwnS w 0 (bif v then 35 else 220) 19 Fact.cells (.slice (some ⟨g,0,none⟩) m cp) xs→(∀W,Fr (Aw (bif v then 35 else 220) 19 Fact.cells (.slice (some ⟨g,0,none⟩) m cp) (xs)).foot w W→∀x y,Ret prog cf (#[.agg (Fact.cells x),.agg (Fact.cells y)]++lb) W fun r W'=>r=vi (Z3 (key x) (key y))∧Up W W')→a<mm→mm<b→b≤m→Jr key (C7 xs a mm)→Jr key (C7 xs mm b)→
   Ret prog (bif v then 212 else 258) #[.slice (some ⟨g,0,none⟩) m cp,vi (a:Int),vi (mm:Int),vi (b:Int),.func (.func cf) #[] lb] w fun r w'=>r=.tuple #[]∧∃zs,StS key (C7 xs a b) zs∧Stp (Aw (bif v then 35 else 220) 19 Fact.cells (.slice (some ⟨g,0,none⟩) m cp) (xs)) (Aw (bif v then 35 else 220) 19 Fact.cells (.slice (some ⟨g,0,none⟩) m cp) (Fl xs a b zs)) w w':=by
 have TY0:TN (bif v then 35 else 220):=⟨⟩
 have Sc:=Z7 v
 have oS:=qQ v
 have func212:=eT v
 have n8:=N4 v
 have lh:=Mc v
 have lf:=F9 v
 have N5:=@N5 v
 cases v<;>dsimp only[cond]at*
 all_goals
  intro N
  induction N with
  |zero=>intro a mm b xs w hN _ _ h1 h2;omega
  |succ N ih=>
  intro a mm b xs w hN ho hcmp h1 h2 h3 hsA hsB
  obtain⟨w0,rfl,_⟩:=W0 w
  have hxl:=ho.len
  have hS:Wx.Sep (Aw (tN TY0) 19 Fact.cells (.slice (some ⟨g,0,none⟩) m cp) (xs)).foot w0 w0 [Aw (tN TY0) 19 Fact.cells (.slice (some ⟨g,0,none⟩) m cp) (xs)]:=Sep.cons ho (fun _ h=>h) (Sep.start _ _) (by simp)
  refine cT 220 func212 rfl (Ai (Ai ?_))
  cases hq0:decide (mm-a=1)with
  |true=>
   have hq0:=b9 hq0
   obtain rfl:mm=a+1:=by omega
   obtain⟨x,hx⟩:=Ae (xs:=xs) (i:=a) oQ
   refine Aa (I rfl (I rfl (U (.Nt (.t rfl) (.t rfl) oQ oQ) (U (.tr (PEv.eql (.t rfl) (.const _)) (bj oQ)) (Ah (CW.v rfl (Af (I rfl (LW.A rfl (An (Aa (I rfl (LW.A rfl (An (Ak (A6 (σ:=Nat×Nat) (fun s w=>(a+1≤s.1∧s.1≤s.2∧s.2≤b)∧(∀q y,a+1≤q→q<s.1→xs[q]?=some y→H4 (key y) (key x)=true)∧(∀q y,s.2≤q→q<b→xs[q]?=some y→H4 (key y) (key x)=false)∧(Wx.Sep (Aw (tN TY0) 19 Fact.cells (.slice (some ⟨g,0,none⟩) m cp) (xs)).foot w0 w [Aw (tN TY0) 19 Fact.cells (.slice (some ⟨g,0,none⟩) m cp) (xs)])) (fun s=>[(10,.eq (vi (s.1:Int))),(11,.eq (vi (s.2:Int)))]) ([(0,.eq _),(1,.eq _),(2,.eq _),(3,.eq _),(4,.eq _)]) (fun s=>s.2-s.1) (a+1,b) ?_ tQ ?_))))))))))))))))
   ·exact⟨⟨bl _,by show a+1≤b;omega,bl _⟩,fun q y h1 h2=>absurd (show q<a+1 from h2) oQ,fun q y h1 h2=>absurd (show b≤q from h1) oQ,hS⟩
   rintro⟨i,j⟩ w1 ⟨hij,hL,hR,hS⟩
   dsimp only at hij hL hR hS
   change CW _ _ _ _ _ _ _ ([(10,.eq (vi (i:Int))),(11,.eq (vi (j:Int)))]++_) _
   refine Ai (Af (I rfl (I rfl (U (.l2 rfl rfl) (Ah (CW.b rfl (fun h33=>?_) (fun h33=>?_)))))))
   ·replace h33:=dQ h33
    refine Aj (Ac (Ak (Af (I rfl (I rfl (U (.addN (.t rfl) (.t rfl) oQ) (U (.val (v':=vu (i+j)) (PEv.conv (k':=.u64) (by rw[li];rfl) mb (.t rfl)) (Rw oQ)) (U (.val (v':=vu ((i+j)/2)) (PEv.Vk (j:=1) (.t rfl) (.const _)) O6) (U (.val (v':=vi (((i+j)/2:Nat):Int)) (PEv.conv (k':=.i64) (by rw[mb];rfl) li (.t rfl)) (Rx oQ)) (LW.A rfl (An ?_)))))))))))
    have hlt:i<j:=by simp at h33;omega
    obtain⟨y,hy⟩:=Ae (xs:=xs) (i:=(i+j)/2) oQ
    refine C5 kQ kQ rfl rfl (J (.mv rfl) (J (.mv rfl) (J (.mv rfl) (J (.indexAddr lf lh (.t rfl) (.t rfl) oQ) (J (.lc rfl ((hS.own 0 rfl).at (fun _=>rfl) hy)) (J (.mv rfl) (J (.mv rfl) (J (.indexAddr lf lh (.t rfl) (.t rfl) oQ) (J (.lc rfl ((hS.own 0 rfl).at (fun _=>rfl) hx)) (HW.c (fun a w _ ha=>Cu (.t rfl) (.ct rfl (.cu rfl)) (hen) a ha) rfl rfl (fun w hu=>hcmp w (hS.fr.trans (hu.fr _)) y x) (J (.lss (.t rfl) (.const _)) (HW.nil ?_))))))))))))
    intro w2 uw2
    replace hS:=hS.up uw2
    refine Ac (CW.b rfl (fun h50=>?_) (fun h50=>?_))
    ·replace h50:=dQ h50
     refine Aa (I rfl (U (.ic rfl oQ) (LW.A rfl (LW.nil (Al (Av ?_))))))
     exact⟨((i+j)/2+1,j),⟨⟨by show a+1≤(i+j)/2+1;omega,by show(i+j)/2+1≤j;omega,by show j≤b;omega⟩,fun q z q1 q2 hz=>gW (J2 hsB q1 (show q≤(i+j)/2 from Nat.le_of_lt_succ q2) oQ hz hy) (by rw[←Ia];exact bj h50),hR,hS⟩,tQ,by omega⟩
    replace h50:=dQ h50
    refine Aa (I rfl (LW.A rfl (LW.nil (Al (Av ?_)))))
    exact⟨(i,(i+j)/2),⟨⟨by show a+1≤i;omega,by show i≤(i+j)/2;omega,by show(i+j)/2≤b;omega⟩,hL,fun q z q1 q2 hz=>Kg (by rw[←Ia];exact br h50) (J2 hsB oQ (show(i+j)/2≤q from q1) q2 hy hz),hS⟩,tQ,by omega⟩
   replace h33:=dQ h33
   refine A8 (Ab (Ab (Aq (Ac (Ai (Ai ?_))))))
   have hij2:i=j:=by simp at h33;omega
   have hzl:(C7 xs (a+1) b).length=b-(a+1):=Cn oQ
   have hsx:x::C7 xs (a+1) b=C7 xs a b:=(qO hx oQ oQ).symm
   refine Aa (I rfl (LW.A rfl (Ah (Ak (A6 (σ:=Nat) (fun s w=>(a≤s∧s≤i-1)∧(Wx.Sep (Aw (tN TY0) 19 Fact.cells (.slice (some ⟨g,0,none⟩) m cp) (xs)).foot w0 w [Aw (tN TY0) 19 Fact.cells (.slice (some ⟨g,0,none⟩) m cp) (Fl xs a b (C2 (C7 xs (a+1) b) x (s-a)))])) (fun s=>[(13,.eq (vi (s:Int)))]) ([(0,.eq _),(1,.eq _),(2,.eq _),(3,.eq _),(4,.eq _),(10,.eq _)]) (fun s=>i-s) a ?_ tQ ?_)))))
   ·exact⟨⟨bl _,by omega⟩,by rw[jq,Zr,hsx,Hi oQ (by omega)];exact hS⟩
   rintro k w3 ⟨hk,hS⟩
   refine Ai (Af (I rfl (I rfl (U (.dec (.t rfl) oQ oQ) (U (.l2 rfl rfl) (Ah (CW.b rfl (fun h58=>?_) (fun h58=>?_))))))))
   ·replace h58:=dQ h58
    refine Aj (Ac (Ai (Ak ?_)))
    have hki:k<i-1:=by simp at h58;omega
    obtain⟨y,hy⟩:=Ae (xs:=C7 xs (a+1) b) (i:=k-a) oQ
    have hrl:(Fl xs a b (C2 (C7 xs (a+1) b) x (k-a))).length=m:=by rw[D4 oQ oQ (by rw[Ej];omega)];exact hxl
    have hkx:(Fl xs a b (C2 (C7 xs (a+1) b) x (k-a)))[k]?=some x:=by have:=Zu (xs:=xs) (a:=a) (b:=b) (zs:=C7 xs (a+1) b) (x:=x) (p:=k-a) oQ oQ oQ (by omega);rwa [show a+(k-a)=k by omega]at this
    have hky:(Fl xs a b (C2 (C7 xs (a+1) b) x (k-a)))[k+1]?=some y:=by have:=S6 (xs:=xs) (a:=a) (b:=b) (zs:=C7 xs (a+1) b) (x:=x) (p:=k-a) (q:=k-a+1) oQ oQ oQ oQ (by omega);rw[show a+(k-a+1)=k+1 by omega]at this;exact this.trans hy
    refine Lb 15 17 [.slice (some ⟨g,0,none⟩) m cp,vi ((k:Nat):Int),.slice (some ⟨g,0,none⟩) m cp,vi ((k:Nat):Int),vi ((k+1:Nat):Int),.slice (some ⟨g,0,none⟩) m cp,vi ((k:Nat):Int),vi ((k+1:Nat):Int),.pointer (some ⟨g,0+(k+1)*19,none⟩),.agg (Fact.cells y),.slice (some ⟨g,0,none⟩) m cp,vi ((k:Nat):Int),.pointer (some ⟨g,0+(k)*19,none⟩),.agg (Fact.cells x),.pointer (some ⟨g,0+(k)*19,none⟩),undef,.pointer (some ⟨g,0+(k+1)*19,none⟩),undef] (fun W=>Wx.Sep (Aw (tN TY0) 19 Fact.cells (.slice (some ⟨g,0,none⟩) m cp) (xs)).foot w0 W [Aw (tN TY0) 19 Fact.cells (.slice (some ⟨g,0,none⟩) m cp) (Fl xs a b (C2 (C7 xs (a+1) b) x (k-a)))]) (fun W=>Wx.Sep (Aw (tN TY0) 19 Fact.cells (.slice (some ⟨g,0,none⟩) m cp) (xs)).foot w0 W [Aw (tN TY0) 19 Fact.cells (.slice (some ⟨g,0,none⟩) m cp) ((Fl xs a b (C2 (C7 xs (a+1) b) x (k-a))).set (k) y)]) (fun W=>Wx.Sep (Aw (tN TY0) 19 Fact.cells (.slice (some ⟨g,0,none⟩) m cp) (xs)).foot w0 W [Aw (tN TY0) 19 Fact.cells (.slice (some ⟨g,0,none⟩) m cp) (((Fl xs a b (C2 (C7 xs (a+1) b) x (k-a))).set (k) y).set (k+1) x)]) kQ rfl kQ kQ kQ kQ kQ kQ (hS.up (Up.drew _)) ?_ _ _ rfl rfl ⟨rfl,rfl⟩ ⟨rfl,rfl⟩ ?_ ?_ ?_
    ·refine aC (.inr ⟨rfl,.inr fun W=>PEv.mv rfl⟩) (aC (.inr ⟨rfl,.inr fun W=>PEv.mv rfl⟩) (aC (.inr ⟨rfl,.inr fun W=>PEv.mv rfl⟩) (aC (.inr ⟨rfl,.inr fun W=>PEv.mv rfl⟩) (aC (.inr ⟨rfl,.inr fun W=>PEv.ic rfl oQ⟩) (aC (.inr ⟨rfl,.inr fun W=>PEv.mv rfl⟩) (aC (.inr ⟨rfl,.inr fun W=>PEv.mv rfl⟩) (aC (.inr ⟨rfl,.inr fun W=>PEv.ic rfl oQ⟩) (aC (.inr ⟨rfl,.inr fun W=>PEv.indexAddr lf lh (.t rfl) (.t rfl) oQ⟩) (aC (.inr ⟨rfl,.inl ⟨by kernel_rfl,fun W hS=>PEv.lc rfl ((hS.own 0 rfl).at (fun _=>rfl) hky)⟩⟩) (aC (.inr ⟨rfl,.inr fun W=>PEv.mv rfl⟩) (aC (.inr ⟨rfl,.inr fun W=>PEv.mv rfl⟩) (aC (.inr ⟨rfl,.inr fun W=>PEv.indexAddr lf lh (.t rfl) (.t rfl) oQ⟩) (aC (.inr ⟨rfl,.inl ⟨by kernel_rfl,fun W hS=>PEv.lc rfl ((hS.own 0 rfl).at (fun _=>rfl) hkx)⟩⟩) (aC (.inr ⟨rfl,.inr fun W=>PEv.indexAddr lf lh (.t rfl) (.t rfl) oQ⟩) (aC (.inl (by simp)) (aC (.inr ⟨rfl,.inr fun W=>PEv.indexAddr lf lh (.t rfl) (.t rfl) oQ⟩) (aC (.inl (by simp)) ?_)))))))))))))))))
     exact allL.nil
    ·intro W hS
     exact SEv.mono (Ez (i:=k) (z:=y) lh (fun _=>rfl) Fact.one (.t rfl) (.t rfl) (hS.own 0 rfl) oQ) (fun _ h=>hS.Fs 0 rfl h)
    ·intro W hS
     exact SEv.mono (Ez (i:=k+1) (z:=x) lh (fun _=>rfl) Fact.one (.t rfl) (.t rfl) (hS.own 0 rfl) oQ) (fun _ h=>hS.Fs 0 rfl h)
    intro w4 hS
    have hS:Wx.Sep (Aw (tN TY0) 19 Fact.cells (.slice (some ⟨g,0,none⟩) m cp) (xs)).foot w0 w4 [Aw (tN TY0) 19 Fact.cells (.slice (some ⟨g,0,none⟩) m cp) (((Fl xs a b (C2 (C7 xs (a+1) b) x (k-a))).set (k) y).set (k+1) x)]:=hS
    refine Al (Ac (Aa (I rfl (U (.ic rfl oQ) (LW.A rfl (LW.nil (Av ?_)))))))
    exact⟨k+1,⟨⟨by omega,by omega⟩,by have:=AI (xs:=xs) (a:=a) (b:=b) (x:=x) (p:=k-a) (y:=y) oQ oQ oQ oQ hy;rw[show a+(k-a)=k by omega,show a+(k-a+1)=k+1 by omega]at this;rw[show k+1-a=k-a+1 by omega,←this];exact hS⟩,tQ,by omega⟩
   replace h58:=dQ h58
   refine A8 (Ab (Ab (Aq (Ac (Am (Ar (Gi rfl ⟨_,rfl,?_⟩)))))))
   have hk2:k-a=i-(a+1):=by simp at h58;omega
   rw[hk2]at hS
   exact⟨rfl,_,vB oQ hx oQ oQ hsB hL (by rw[hij2];exact hR),⟨hS.fr,hS.get 0 rfl,fun _ h=>.inl h⟩⟩
  |false=>
   have hq0:=cd hq0
   refine Aa (I rfl (I rfl (U (.Nt (.t rfl) (.t rfl) oQ oQ) (U (.fa (PEv.eql (.t rfl) (.const _)) (br oQ)) (Ah (CW.f rfl (Aj (Ac (Ai (Ai ?_))))))))))
   cases hq12:decide (b-mm=1)with
   |true=>
    have hq12:=b9 hq12
    obtain rfl:b=mm+1:=by omega
    obtain⟨x,hx⟩:=Ae (xs:=xs) (i:=mm) oQ
    refine Aa (I rfl (I rfl (U (.Nt (.t rfl) (.t rfl) oQ oQ) (U (.tr (PEv.eql (.t rfl) (.const _)) (bj oQ)) (Ah (CW.v rfl (Af (I rfl (LW.A rfl (An (Aa (I rfl (LW.A rfl (An (Ak (A6 (σ:=Nat×Nat) (fun s w=>(a≤s.1∧s.1≤s.2∧s.2≤mm)∧(∀q y,a≤q→q<s.1→xs[q]?=some y→H4 (key x) (key y)=false)∧(∀q y,s.2≤q→q<mm→xs[q]?=some y→H4 (key x) (key y)=true)∧(Wx.Sep (Aw (tN TY0) 19 Fact.cells (.slice (some ⟨g,0,none⟩) m cp) (xs)).foot w0 w [Aw (tN TY0) 19 Fact.cells (.slice (some ⟨g,0,none⟩) m cp) (xs)])) (fun s=>[(14,.eq (vi (s.1:Int))),(15,.eq (vi (s.2:Int)))]) ([(0,.eq _),(1,.eq _),(2,.eq _),(3,.eq _),(4,.eq _)]) (fun s=>s.2-s.1) (a,mm) ?_ tQ ?_))))))))))))))))
    ·exact⟨⟨bl _,by show a≤mm;omega,bl _⟩,fun q y h1 h2=>absurd (show q<a from h2) oQ,fun q y h1 h2=>absurd (show mm≤q from h1) oQ,hS⟩
    rintro⟨i,j⟩ w5 ⟨hij,hL,hR,hS⟩
    dsimp only at hij hL hR hS
    change CW _ _ _ _ _ _ _ ([(14,.eq (vi (i:Int))),(15,.eq (vi (j:Int)))]++_) _
    refine Ai (Af (I rfl (I rfl (U (.l2 rfl rfl) (Ah (CW.b rfl (fun h85=>?_) (fun h85=>?_)))))))
    ·refine Aj (Ac (Ak (Af (I rfl (I rfl (U (.addN (.t rfl) (.t rfl) oQ) (U (.val (v':=vu (i+j)) (PEv.conv (k':=.u64) (by rw[li];rfl) mb (.t rfl)) (Rw oQ)) (U (.val (v':=vu ((i+j)/2)) (PEv.Vk (j:=1) (.t rfl) (.const _)) O6) (U (.val (v':=vi (((i+j)/2:Nat):Int)) (PEv.conv (k':=.i64) (by rw[mb];rfl) li (.t rfl)) (Rx oQ)) (LW.A rfl (An ?_)))))))))))
     have hlt:i<j:=by simp at h85;omega
     obtain⟨y,hy⟩:=Ae (xs:=xs) (i:=(i+j)/2) oQ
     refine C5 kQ kQ rfl rfl (J (.mv rfl) (J (.mv rfl) (J (.mv rfl) (J (.indexAddr lf lh (.t rfl) (.t rfl) oQ) (J (.lc rfl ((hS.own 0 rfl).at (fun _=>rfl) hx)) (J (.mv rfl) (J (.mv rfl) (J (.indexAddr lf lh (.t rfl) (.t rfl) oQ) (J (.lc rfl ((hS.own 0 rfl).at (fun _=>rfl) hy)) (HW.c (fun a w _ ha=>Cu (.t rfl) (.ct rfl (.cu rfl)) (hen) a ha) rfl rfl (fun w hu=>hcmp w (hS.fr.trans (hu.fr _)) x y) (J (.lss (.t rfl) (.const _)) (J (.n1 rfl) (HW.nil ?_)))))))))))))
     intro w6 uw6
     replace hS:=hS.up uw6
     refine Ac (CW.b rfl (fun h103=>?_) (fun h103=>?_))
     ·refine Aa (I rfl (U (.ic rfl oQ) (LW.A rfl (LW.nil (Al (Av ?_))))))
      exact⟨((i+j)/2+1,j),⟨⟨by show a≤(i+j)/2+1;omega,by show(i+j)/2+1≤j;omega,by show j≤mm;omega⟩,fun q z q1 q2 hz=>Kg (J2 hsA q1 (show q≤(i+j)/2 from Nat.le_of_lt_succ q2) oQ hz hy) (by rw[←Ia];simpa using h103),hR,hS⟩,tQ,by omega⟩
     refine Aa (I rfl (LW.A rfl (LW.nil (Al (Av ?_)))))
     exact⟨(i,(i+j)/2),⟨⟨by show a≤i;omega,by show i≤(i+j)/2;omega,by show(i+j)/2≤mm;omega⟩,hL,fun q z q1 q2 hz=>Xb (by rw[←Ia];simpa using h103) (J2 hsA oQ (show(i+j)/2≤q from q1) q2 hy hz),hS⟩,tQ,by omega⟩
    refine A8 (Ab (Ab (Aq (Ac (Ai (Ai ?_))))))
    have hij2:i=j:=by simp at h85;omega
    have hzl:(C7 xs a mm).length=mm-a:=Cn oQ
    refine Aa (I rfl (LW.A rfl (Ah (Ak (A6 (σ:=Nat) (fun s w=>(i≤s∧s≤mm)∧(Wx.Sep (Aw (tN TY0) 19 Fact.cells (.slice (some ⟨g,0,none⟩) m cp) (xs)).foot w0 w [Aw (tN TY0) 19 Fact.cells (.slice (some ⟨g,0,none⟩) m cp) (Fl xs a (mm+1) (C2 (C7 xs a mm) x (s-a)))])) (fun s=>[(17,.eq (vi (s:Int)))]) ([(0,.eq _),(1,.eq _),(2,.eq _),(3,.eq _),(4,.eq _),(14,.eq _)]) (fun s=>s) mm ?_ tQ ?_)))))
    ·exact⟨⟨by omega,bl _⟩,by rw[←hzl,V1,Zt oQ hx hzl,Hi oQ (by omega)];exact hS⟩
    rintro k w7 ⟨hk,hS⟩
    refine Ai (Af (I rfl (I rfl (U (.gtr (.t rfl) (.t rfl)) (Ah (CW.b rfl (fun h110=>?_) (fun h110=>?_)))))))
    ·refine Aj (Ac (Ai (Ak ?_)))
     have hki:i<k:=by simp at h110;omega
     obtain⟨y,hy⟩:=Ae (xs:=C7 xs a mm) (i:=k-a-1) oQ
     have hrl:(Fl xs a (mm+1) (C2 (C7 xs a mm) x (k-a))).length=m:=by rw[D4 oQ oQ (by rw[Ej];omega)];exact hxl
     have hkx:(Fl xs a (mm+1) (C2 (C7 xs a mm) x (k-a)))[k]?=some x:=by have:=Zu (xs:=xs) (a:=a) (b:=mm+1) (zs:=C7 xs a mm) (x:=x) (p:=k-a) oQ oQ oQ (by omega);rwa [show a+(k-a)=k by omega]at this
     have hky:(Fl xs a (mm+1) (C2 (C7 xs a mm) x (k-a)))[k-1]?=some y:=by have:=N3 (xs:=xs) (a:=a) (b:=mm+1) (zs:=C7 xs a mm) (x:=x) (p:=k-a) (q:=k-a-1) oQ oQ oQ oQ (by omega);rw[show a+(k-a-1)=k-1 by omega]at this;exact this.trans hy
     refine Lb 15 17 [.slice (some ⟨g,0,none⟩) m cp,vi ((k:Nat):Int),.slice (some ⟨g,0,none⟩) m cp,vi ((k:Nat):Int),vi ((k-1:Nat):Int),.slice (some ⟨g,0,none⟩) m cp,vi ((k:Nat):Int),vi ((k-1:Nat):Int),.pointer (some ⟨g,0+(k-1)*19,none⟩),.agg (Fact.cells y),.slice (some ⟨g,0,none⟩) m cp,vi ((k:Nat):Int),.pointer (some ⟨g,0+(k)*19,none⟩),.agg (Fact.cells x),.pointer (some ⟨g,0+(k)*19,none⟩),undef,.pointer (some ⟨g,0+(k-1)*19,none⟩),undef] (fun W=>Wx.Sep (Aw (tN TY0) 19 Fact.cells (.slice (some ⟨g,0,none⟩) m cp) (xs)).foot w0 W [Aw (tN TY0) 19 Fact.cells (.slice (some ⟨g,0,none⟩) m cp) (Fl xs a (mm+1) (C2 (C7 xs a mm) x (k-a)))]) (fun W=>Wx.Sep (Aw (tN TY0) 19 Fact.cells (.slice (some ⟨g,0,none⟩) m cp) (xs)).foot w0 W [Aw (tN TY0) 19 Fact.cells (.slice (some ⟨g,0,none⟩) m cp) ((Fl xs a (mm+1) (C2 (C7 xs a mm) x (k-a))).set (k) y)]) (fun W=>Wx.Sep (Aw (tN TY0) 19 Fact.cells (.slice (some ⟨g,0,none⟩) m cp) (xs)).foot w0 W [Aw (tN TY0) 19 Fact.cells (.slice (some ⟨g,0,none⟩) m cp) (((Fl xs a (mm+1) (C2 (C7 xs a mm) x (k-a))).set (k) y).set (k-1) x)]) kQ rfl kQ kQ kQ kQ kQ kQ (hS.up (Up.drew _)) ?_ _ _ rfl rfl ⟨rfl,rfl⟩ ⟨rfl,rfl⟩ ?_ ?_ ?_
     ·refine aC (.inr ⟨rfl,.inr fun W=>PEv.mv rfl⟩) (aC (.inr ⟨rfl,.inr fun W=>PEv.mv rfl⟩) (aC (.inr ⟨rfl,.inr fun W=>PEv.mv rfl⟩) (aC (.inr ⟨rfl,.inr fun W=>PEv.mv rfl⟩) (aC (.inr ⟨rfl,.inr fun W=>PEv.dec (.t rfl) oQ oQ⟩) (aC (.inr ⟨rfl,.inr fun W=>PEv.mv rfl⟩) (aC (.inr ⟨rfl,.inr fun W=>PEv.mv rfl⟩) (aC (.inr ⟨rfl,.inr fun W=>PEv.dec (.t rfl) oQ oQ⟩) (aC (.inr ⟨rfl,.inr fun W=>PEv.indexAddr lf lh (.t rfl) (.t rfl) oQ⟩) (aC (.inr ⟨rfl,.inl ⟨by kernel_rfl,fun W hS=>PEv.lc rfl ((hS.own 0 rfl).at (fun _=>rfl) hky)⟩⟩) (aC (.inr ⟨rfl,.inr fun W=>PEv.mv rfl⟩) (aC (.inr ⟨rfl,.inr fun W=>PEv.mv rfl⟩) (aC (.inr ⟨rfl,.inr fun W=>PEv.indexAddr lf lh (.t rfl) (.t rfl) oQ⟩) (aC (.inr ⟨rfl,.inl ⟨by kernel_rfl,fun W hS=>PEv.lc rfl ((hS.own 0 rfl).at (fun _=>rfl) hkx)⟩⟩) (aC (.inr ⟨rfl,.inr fun W=>PEv.indexAddr lf lh (.t rfl) (.t rfl) oQ⟩) (aC (.inl (by simp)) (aC (.inr ⟨rfl,.inr fun W=>PEv.indexAddr lf lh (.t rfl) (.t rfl) oQ⟩) (aC (.inl (by simp)) ?_)))))))))))))))))
      exact allL.nil
     ·intro W hS
      exact SEv.mono (Ez (i:=k) (z:=y) lh (fun _=>rfl) Fact.one (.t rfl) (.t rfl) (hS.own 0 rfl) oQ) (fun _ h=>hS.Fs 0 rfl h)
     ·intro W hS
      exact SEv.mono (Ez (i:=k-1) (z:=x) lh (fun _=>rfl) Fact.one (.t rfl) (.t rfl) (hS.own 0 rfl) oQ) (fun _ h=>hS.Fs 0 rfl h)
     intro w8 hS
     have hS:Wx.Sep (Aw (tN TY0) 19 Fact.cells (.slice (some ⟨g,0,none⟩) m cp) (xs)).foot w0 w8 [Aw (tN TY0) 19 Fact.cells (.slice (some ⟨g,0,none⟩) m cp) (((Fl xs a (mm+1) (C2 (C7 xs a mm) x (k-a))).set (k) y).set (k-1) x)]:=hS
     refine Al (Ac (Aa (I rfl (U (.dec (.t rfl) oQ oQ) (LW.A rfl (LW.nil (Av ?_)))))))
     exact⟨k-1,⟨⟨by omega,by omega⟩,by have:=Zv (xs:=xs) (a:=a) (b:=mm+1) (x:=x) (p:=k-a-1) (y:=y) oQ oQ oQ oQ hy;rw[show k-a-1+1=k-a by omega,show a+(k-a)=k by omega,show a+(k-a-1)=k-1 by omega]at this;rw[show k-1-a=k-a-1 by omega,←this];exact hS⟩,tQ,by omega⟩
    refine A8 (Ab (Ab (Aq (Ac (Am (Ar (Gi rfl ⟨_,rfl,?_⟩)))))))
    have hk2:k=i:=by simp at h110;omega
    subst hk2
    exact⟨rfl,_,qJ hx oQ oQ hsA hL (by rw[hij2];exact hR),⟨hS.fr,hS.get 0 rfl,fun _ h=>.inl h⟩⟩
   |false=>
    have hq12:=cd hq12
    obtain⟨mid,hmid⟩:∃mid,mid=(a+b)/2:=⟨_,rfl⟩
    refine Aa (I rfl (I rfl (U (.Nt (.t rfl) (.t rfl) oQ oQ) (U (.fa (PEv.eql (.t rfl) (.const _)) (br oQ)) (Ah (CW.f rfl (Aj (Ac (Af (I rfl (I rfl (U (.addN (.t rfl) (.t rfl) oQ) (U (.val (v':=vu (a+b)) (PEv.conv (k':=.u64) (by rw[li];rfl) mb (.t rfl)) (Rw oQ)) (U (.val (v':=vu ((a+b)/2)) (PEv.Vk (j:=1) (.t rfl) (.const _)) O6) (U (.val (v':=vi ((mid:Nat):Int)) (PEv.conv (k':=.i64) (by rw[mb];rfl) li (.t rfl)) (by rw[hmid];exact Rx oQ)) (LW.A rfl (An (Aa (I rfl (I rfl (U (.addN (.t rfl) (.t rfl) oQ) (LW.A rfl (An (Aa (Az (Az (Ah (E1 (fun a1 W=>∃s0 r0:Nat,Ag 220 [] ([(0,.eq (.slice (some ⟨g,0,none⟩) m cp)),(1,.eq (vi (a:Int))),(2,.eq (vi (mm:Int))),(3,.eq (vi (b:Int))),(4,.eq (.func (.func cf) #[] lb)),(18,.eq (vi (mid:Int))),(19,.eq (vi ((mid+mm:Nat):Int))),(20,.eq (vi (s0:Int))),(21,.eq (vi (r0:Int)))]) a1 W∧((s0=mid+mm-b∧r0=mid∧mid<mm)∨(s0=a∧r0=mm∧mm≤mid))∧Wx.Sep (Aw (tN TY0) 19 Fact.cells (.slice (some ⟨g,0,none⟩) m cp) (xs)).foot w0 W [Aw (tN TY0) 19 Fact.cells (.slice (some ⟨g,0,none⟩) m cp) (xs)]) ?_ ?_))))))))))))))))))))))))))))
    ·skip
     refine Af (I rfl (I rfl (U (.gtr (.t rfl) (.t rfl)) (Ah (CW.b rfl (fun h140=>?_) (fun h140=>?_))))))
     ·replace h140:=dQ h140
      refine Af (I rfl (I rfl (U (.Nt (.t rfl) (.t rfl) oQ oQ) (LW.A rfl (Ah (Aa (I rfl (LW.A rfl (LW.nil ?_)))))))))
      exact fun a ha=>⟨_,_,ha.sub tQ,(by exact .inl ⟨rfl,rfl,by omega⟩),hS⟩
     replace h140:=dQ h140
     refine Af (I rfl (LW.A rfl (Ah (Aa (I rfl (LW.A rfl (LW.nil ?_)))))))
     exact fun a ha=>⟨_,_,ha.sub tQ,(by exact .inr ⟨rfl,rfl,by omega⟩),hS⟩
    rintro a1 w9 ⟨s0,r0,ha,hsr,hS⟩
    revert a1
    show CW none _ _ _ _ _ _ _ _
    refine Af (I rfl (U (.dec (.t rfl) oQ oQ) (LW.A rfl (An (Ak (A6 (σ:=Nat×Nat) (fun s w=>(s0≤s.1∧s.1≤s.2∧s.2≤r0)∧(s.1=s0∨∃u v,xs[mid+mm-s.1]?=some u∧xs[s.1-1]?=some v∧H4 (key u) (key v)=false)∧(s.2=r0∨∃u v,xs[mid+mm-1-s.2]?=some u∧xs[s.2]?=some v∧H4 (key u) (key v)=true)∧(Wx.Sep (Aw (tN TY0) 19 Fact.cells (.slice (some ⟨g,0,none⟩) m cp) (xs)).foot w0 w [Aw (tN TY0) 19 Fact.cells (.slice (some ⟨g,0,none⟩) m cp) (xs)])) (fun s=>[(20,.eq (vi (s.1:Int))),(21,.eq (vi (s.2:Int)))]) ([(0,.eq _),(1,.eq _),(2,.eq _),(3,.eq _),(4,.eq _),(18,.eq _),(19,.eq _),(22,.eq _)]) (fun s=>s.2-s.1) (s0,r0) ?_ tQ ?_))))))
    ·exact⟨⟨bl _,by show s0≤r0;omega,bl _⟩,.inl rfl,.inl rfl,hS⟩
    rintro⟨s,r⟩ w10 ⟨hq,hs,hr,hS⟩
    dsimp only at hq hs hr hS
    change CW _ _ _ _ _ _ _ ([(20,.eq (vi (s:Int))),(21,.eq (vi (r:Int)))]++_) _
    refine Ai (Af (I rfl (I rfl (U (.l2 rfl rfl) (Ah (CW.b rfl (fun h151=>?_) (fun h151=>?_)))))))
    ·replace h151:=dQ h151
     refine Aj (Ac (Ak (Af (I rfl (I rfl (U (.addN (.t rfl) (.t rfl) oQ) (U (.val (v':=vu (s+r)) (PEv.conv (k':=.u64) (by rw[li];rfl) mb (.t rfl)) (Rw oQ)) (U (.val (v':=vu ((s+r)/2)) (PEv.Vk (j:=1) (.t rfl) (.const _)) O6) (U (.val (v':=vi (((s+r)/2:Nat):Int)) (PEv.conv (k':=.i64) (by rw[mb];rfl) li (.t rfl)) (Rx oQ)) (LW.A rfl (An ?_)))))))))))
     have hlt:s<r:=by simp at h151;omega
     obtain⟨u,hu_⟩:=Ae (xs:=xs) (i:=mid+mm-1-(s+r)/2) oQ
     obtain⟨v,hv_⟩:=Ae (xs:=xs) (i:=(s+r)/2) oQ
     refine C5 kQ kQ rfl rfl (J (.mv rfl) (J (.mv rfl) (J (.mv rfl) (J (.mv rfl) (J (.Nt (.t rfl) (.t rfl) oQ oQ) (J (.indexAddr lf lh (.t rfl) (.t rfl) oQ) (J (.lc rfl ((hS.own 0 rfl).at (fun _=>rfl) hu_)) (J (.mv rfl) (J (.mv rfl) (J (.indexAddr lf lh (.t rfl) (.t rfl) oQ) (J (.lc rfl ((hS.own 0 rfl).at (fun _=>rfl) hv_)) (HW.c (fun a w _ ha=>Cu (.t rfl) (.ct rfl (.cu rfl)) (hen) a ha) rfl rfl (fun w hu=>hcmp w (hS.fr.trans (hu.fr _)) u v) (J (.lss (.t rfl) (.const _)) (J (.n1 rfl) (HW.nil ?_)))))))))))))))
     intro w11 uw11
     replace hS:=hS.up uw11
     refine Ac (CW.b rfl (fun h171=>?_) (fun h171=>?_))
     ·replace h171:=dQ h171
      refine Aa (I rfl (U (.ic rfl oQ) (LW.A rfl (LW.nil (Al (Av ?_))))))
      exact⟨((s+r)/2+1,r),⟨⟨by show s0≤(s+r)/2+1;omega,by show(s+r)/2+1≤r;omega,by show r≤r0;omega⟩,.inr ⟨u,v,by show xs[mid+mm-((s+r)/2+1)]?=some u;rw[show mid+mm-((s+r)/2+1)=mid+mm-1-(s+r)/2 by omega];exact hu_,hv_,by rw[←Ia];simpa using h171⟩,hr,hS⟩,tQ,by omega⟩
     replace h171:=dQ h171
     refine Aa (I rfl (LW.A rfl (LW.nil (Al (Av ?_)))))
     exact⟨(s,(s+r)/2),⟨⟨by show s0≤s;omega,by show s≤(s+r)/2;omega,by show(s+r)/2≤r0;omega⟩,hs,.inr ⟨u,v,hu_,hv_,by rw[←Ia];simpa using h171⟩,hS⟩,tQ,by omega⟩
    replace h151:=dQ h151
    refine A8 (Ab (Ab (Aq (Ac (Ai ?_)))))
    have hsr2:s=r:=by simp at h151;omega
    obtain⟨e,he⟩:∃e,e=mid+mm-s:=⟨_,rfl⟩
    have hsm:s≤mm:=by omega
    have hme:mm≤e:=by omega
    have has:a≤s:=by omega
    have heb:e≤b:=by omega
    have hmd:mid=s+(e-mm):=by omega
    have hrl:(Kc xs s mm e).length=m:=by rw[F6 hsm hme (by omega)];exact hxl
    refine Aa (I rfl (I rfl (U (.val (v':=vi (e:Int)) (PEv.Nt (.t rfl) (.t rfl) oQ oQ) (by rw[he])) (LW.A rfl (Ah (E1 (fun a1 W=>Ag 220 [] ([(0,.eq (.slice (some ⟨g,0,none⟩) m cp)),(1,.eq (vi (a:Int))),(3,.eq (vi (b:Int))),(4,.eq (.func (.func cf) #[] lb)),(18,.eq (vi (mid:Int))),(20,.eq (vi (s:Int))),(24,.eq (vi (e:Int)))]) a1 W∧Wx.Sep (Aw (tN TY0) 19 Fact.cells (.slice (some ⟨g,0,none⟩) m cp) (xs)).foot w0 W [Aw (tN TY0) 19 Fact.cells (.slice (some ⟨g,0,none⟩) m cp) (Kc xs s mm e)]) ?_ ?_))))))
    ·skip
     refine Af (I rfl (I rfl (U (.l2 rfl rfl) (I rfl (Hc rfl rfl (Hc rfl rfl (LW.gr rfl (fun hc=>PEv.lss vQ vQ) (U (.pa rfl (fun hp=>.cond rfl (by rw[hp];rfl))) (Ah (CW.b rfl (fun h185=>?_) (fun h185=>?_)))))))))))
     ·refine Aa (I rfl (I rfl (I rfl (I rfl (I rfl (A4 (eC (.ct rfl (.ct rfl (.ct rfl (.ct rfl (.cu rfl))))) (oS)) rfl (N5 s mm e _ g m cp xs _ (hS.own 0 rfl) h63 (by have:=M1 h185;omega) (by have:=M1 h185;omega) oQ) ?_))))))
      rintro _ w12 ⟨rfl,uw12⟩
      replace hS:=hS.Fs 0 rfl uw12
      change Wx.Sep _ _ _ [_]at hS
      refine LW.nil ?_
      exact fun a ha=>⟨ha.sub tQ,(by exact hS)⟩
     refine Aj ?_
     exact fun a ha=>⟨ha.sub tQ,(by(rw[qK (eS h185) hsm hme (by omega)];exact hS))⟩
    rintro a1 w13 ⟨ha,hS⟩
    revert a1
    show CW none _ _ _ _ _ _ _ _
    refine E1 (fun a1 W=>Ag 220 [] ([(0,.eq (.slice (some ⟨g,0,none⟩) m cp)),(3,.eq (vi (b:Int))),(4,.eq (.func (.func cf) #[] lb)),(18,.eq (vi (mid:Int))),(24,.eq (vi (e:Int)))]) a1 W∧∃X,StS key (C7 (Kc xs s mm e) a mid) X∧Wx.Sep (Aw (tN TY0) 19 Fact.cells (.slice (some ⟨g,0,none⟩) m cp) (xs)).foot w0 W [Aw (tN TY0) 19 Fact.cells (.slice (some ⟨g,0,none⟩) m cp) (Fl (Kc xs s mm e) a mid X)]) ?_ ?_
    ·skip
     refine Af (I rfl (I rfl (U (.l2 rfl rfl) (I rfl (Hc rfl rfl (Hc rfl rfl (LW.gr rfl (fun hc=>PEv.lss vQ vQ) (U (.pa rfl (fun hp=>.cond rfl (by rw[hp];rfl))) (Ah (CW.b rfl (fun h199=>?_) (fun h199=>?_)))))))))))
     ·refine Aa (I rfl (I rfl (I rfl (I rfl (I rfl (A4 (eC (.ct rfl (.ct rfl (.ct rfl (.ct rfl (.cu rfl))))) (Sc)) rfl (ih a s mid (Kc xs s mm e) _ oQ (hS.own 0 rfl) (fun W hF x y=>hcmp W (hS.fr.trans hF) x y) (by have:=M1 h199;omega) (by have:=M1 h199;omega) oQ (iQ hsA hsB oQ oQ oQ oQ oQ).1 (iQ hsA hsB oQ oQ oQ oQ oQ).2) ?_))))))
      rintro _ w14 ⟨rfl,X,hX,uw14⟩
      replace hS:=hS.Fs 0 rfl uw14
      change Wx.Sep _ _ _ [_]at hS
      refine LW.nil ?_
      exact fun a ha=>⟨ha.sub tQ,(by exact⟨X,hX,hS⟩)⟩
     refine Aj ?_
     exact fun a ha=>⟨ha.sub tQ,(by exact⟨_,StS.refl (lL hsA hsB has hsm hme heb oQ hmd (eS h199)),by rw[Hi oQ (by omega)];exact hS⟩)⟩
    rintro a1 w15 ⟨ha,X,hX,hS⟩
    revert a1
    show CW none _ _ _ _ _ _ _ _
    refine Ai ?_
    have hXl:X.length=mid-a:=by rw[hX.same.length,Cn (by omega)]
    have hrl2:(Fl (Kc xs s mm e) a mid X).length=m:=by rw[D4 oQ oQ hXl];exact hrl
    refine Aa (I rfl (I rfl (U (.l2 rfl rfl) (I rfl (Hc rfl rfl (Hc rfl rfl (LW.gr rfl (fun hc=>PEv.lss vQ vQ) (U (.pa rfl (fun hp=>.cond rfl (by rw[hp];rfl))) (Ah (CW.b rfl (fun h213=>?_) (fun h213=>?_)))))))))))
    ·refine Aa (I rfl (I rfl (I rfl (I rfl (I rfl (A4 (eC (.ct rfl (.ct rfl (.ct rfl (.ct rfl (.cu rfl))))) (Sc)) rfl (ih mid e b (Fl (Kc xs s mm e) a mid X) _ oQ (hS.own 0 rfl) (fun W hF x y=>hcmp W (hS.fr.trans hF) x y) (by have:=M1 h213;omega) (by have:=M1 h213;omega) oQ (iR hsA hsB oQ oQ oQ oQ oQ oQ hXl).1 (iR hsA hsB oQ oQ oQ oQ oQ oQ hXl).2) ?_))))))
     rintro _ w16 ⟨rfl,Y,hY,uw16⟩
     replace hS:=hS.Fs 0 rfl uw16
     change Wx.Sep _ _ _ [_]at hS
     refine LW.nil (Dh rfl ⟨_,rfl,?_⟩)
     obtain⟨Y,hY,hS2⟩:∃Y,StS key (C7 (Fl (Kc xs s mm e) a mid X) mid b) Y∧Wx.Sep (Aw (tN TY0) 19 Fact.cells (.slice (some ⟨g,0,none⟩) m cp) (xs)).foot w0 w16 [Aw (tN TY0) 19 Fact.cells (.slice (some ⟨g,0,none⟩) m cp) (Fl (Fl (Kc xs s mm e) a mid X) mid b Y)]:=by exact⟨Y,hY,hS⟩
     have hd:=Zz has hsm hme heb oQ hmd hsA hsB (qH hsA hsB hsm hme oQ (hs.elim (fun h=>hsr.elim (fun q=>.inr (.inl oQ)) (fun q=>.inl oQ)) (fun⟨u,v,e1,e2,e3⟩=>.inr (.inr ⟨u,v,by rw[he];exact e1,e2,e3⟩)))) (qI hsA hsB has heb oQ oQ (hr.elim (fun h=>hsr.elim (fun q=>.inr (.inl oQ)) (fun q=>.inl oQ)) (fun⟨u,v,e1,e2,e3⟩=>.inr (.inr ⟨u,v,by rw[he,hsr2,show mid+mm-r-1=mid+mm-1-r by omega];exact e1,by rw[hsr2];exact e2,e3⟩)))) hX hY
     rw[hd.2]at hS2
     exact⟨rfl,X++Y,hd.1,⟨hS2.fr,hS2.get 0 rfl,fun _ h=>.inl h⟩⟩
    refine Aj (Dh rfl ⟨_,rfl,?_⟩)
    obtain⟨Y,hY,hS2⟩:∃Y,StS key (C7 (Fl (Kc xs s mm e) a mid X) mid b) Y∧Wx.Sep (Aw (tN TY0) 19 Fact.cells (.slice (some ⟨g,0,none⟩) m cp) (xs)).foot w0 w15 [Aw (tN TY0) 19 Fact.cells (.slice (some ⟨g,0,none⟩) m cp) (Fl (Fl (Kc xs s mm e) a mid X) mid b Y)]:=by exact⟨_,StS.refl (lM hsA hsB has hsm hme heb oQ hmd hXl (eS h213)),by rw[Hi oQ (by omega)];exact hS⟩
    have hd:=Zz has hsm hme heb oQ hmd hsA hsB (qH hsA hsB hsm hme oQ (hs.elim (fun h=>hsr.elim (fun q=>.inr (.inl oQ)) (fun q=>.inl oQ)) (fun⟨u,v,e1,e2,e3⟩=>.inr (.inr ⟨u,v,by rw[he];exact e1,e2,e3⟩)))) (qI hsA hsB has heb oQ oQ (hr.elim (fun h=>hsr.elim (fun q=>.inr (.inl oQ)) (fun q=>.inl oQ)) (fun⟨u,v,e1,e2,e3⟩=>.inr (.inr ⟨u,v,by rw[he,hsr2,show mid+mm-r-1=mid+mm-1-r by omega];exact e1,by rw[hsr2];exact e2,e3⟩)))) hX hY
    rw[hd.2]at hS2
    exact⟨rfl,X++Y,hd.1,⟨hS2.fr,hS2.get 0 rfl,fun _ h=>.inl h⟩⟩
set_option maxHeartbeats 4000000 in
theorem N6(v:Bool)(cf:Nat)(lb:Array Go.Value)(key:Fact→K2)(hen:∀args w,(callFunc cf args).run prog w=.ok (.enter cf args) w)(g m cp:Nat)(xs:List Fact)(w:World)(ho:OwnS w 0 (bif v then 35 else 220) 19 Fact.cells (.slice (some ⟨g,0,none⟩) m cp) xs)(h63:m≤1000000000)(hcmp:∀W,Fr (Aw (bif v then 35 else 220) 19 Fact.cells (.slice (some ⟨g,0,none⟩) m cp) (xs)).foot w W→∀x y,Ret prog cf (#[.agg (Fact.cells x),.agg (Fact.cells y)]++lb) W fun r W'=>r=vi (Z3 (key x) (key y))∧Up W W'):Ret prog (bif v then 153 else 225) #[.slice (some ⟨g,0,none⟩) m cp,vi (m:Int),.func (.func cf) #[] lb] w fun r w'=>r=.tuple #[]∧∃zs,StS key xs zs∧Stp (Aw (bif v then 35 else 220) 19 Fact.cells (.slice (some ⟨g,0,none⟩) m cp) (xs)) (Aw (bif v then 35 else 220) 19 Fact.cells (.slice (some ⟨g,0,none⟩) m cp) (zs)) w w':=by
 have TY0:TN (bif v then 35 else 220):=⟨⟩
 have Vh:=Z6 v
 have Sc:=Z7 v
 have func153:=Tc v
 have H7:=@H7 v
 have Iy:=@Iy v
 cases v<;>dsimp only[cond]at*
 all_goals
  obtain⟨w0,rfl,_⟩:=W0 w
  have hxl:=ho.len
  have hS:Wx.Sep (Aw (tN TY0) 19 Fact.cells (.slice (some ⟨g,0,none⟩) m cp) (xs)).foot w0 w0 [Aw (tN TY0) 19 Fact.cells (.slice (some ⟨g,0,none⟩) m cp) (xs)]:=Sep.cons ho (fun _ h=>h) (Sep.start _ _) (by simp)
  refine cT 63 func153 rfl (Af (U (.val (v':=vi ((20:Nat):Int)) (PEv.assign (.const _)) rfl) (An (Aa (I rfl (Az (LW.A rfl (An (Ak (A6 (σ:=Nat×List Fact) (fun s w=>(s.1≤m)∧(s.2.length=m)∧(Ins key s.2 20 s.1)∧(sameF key xs s.2)∧(Wx.Sep (Aw (tN TY0) 19 Fact.cells (.slice (some ⟨g,0,none⟩) m cp) (xs)).foot w0 w [Aw (tN TY0) 19 Fact.cells (.slice (some ⟨g,0,none⟩) m cp) (s.2)])) (fun s=>[(7,.eq (vi (s.1:Int))),(8,.eq (vi ((s.1+20:Nat):Int)))]) ([(0,.eq _),(1,.eq _),(2,.eq _),(6,.eq _)]) (fun s=>m-s.1) (0,xs) ?_ tQ ?_))))))))))
  ·exact⟨a8 _,hxl,Ins.zero xs 20 cQ,sameF.refl xs,hS⟩
  rintro⟨a,ys⟩ w1 ⟨ha,hyl,hI,hsf,hS⟩
  dsimp only at ha hyl hI hsf hS
  change CW _ _ _ _ _ _ _ ([(7,.eq (vi (a:Int))),(8,.eq (vi ((a+20:Nat):Int)))]++_) _
  refine Ai (Af (I rfl (I rfl (U (.leq (.t rfl) (.t rfl)) (Ah (CW.b rfl (fun h13=>?_) (fun h13=>?_)))))))
  ·refine Aj (Ac (Ak (Ai ?_)))
   have hal:a+20≤m:=by simp at h13;omega
   refine Aa (I rfl (I rfl (I rfl (I rfl (A4 (eC (.ct rfl (.ct rfl (.ct rfl (.cu rfl)))) (Vh)) rfl (H7 a (a+20) cf lb key hen g m cp ys _ (hS.own 0 rfl) h63 (fun W hF x y=>hcmp W (hS.fr.trans hF) x y) oQ oQ) ?_)))))
   rintro _ w2 ⟨rfl,zs,hz,uw2⟩
   replace hS:=hS.Fs 0 rfl uw2
   refine An (Aa (I rfl (LW.A rfl (Ah (Aa (I rfl (I rfl (U (.addN (.t rfl) (.t rfl) oQ) (LW.A rfl (LW.nil (Al (Av ?_))))))))))))
   exact⟨(a+20,Fl ys a (a+20) zs),⟨by show a+20≤m;omega,by show(Fl ys a (a+20) zs).length=m;rw[D4 oQ oQ (by rw[hz.same.length,Cn (by omega)])];exact hyl,hI.step cQ oQ hz,hsf.step oQ oQ hz,hS⟩,tQ,by show m-(a+20)<m-a;omega⟩
  refine A8 (Ab (Ab (Aq (Ac (Ai ?_)))))
  have hal:m<a+20:=by simp at h13;omega
  refine Aa (I rfl (I rfl (I rfl (I rfl (A4 (eC (.ct rfl (.ct rfl (.ct rfl (.cu rfl)))) (Vh)) rfl (H7 a m cf lb key hen g m cp ys _ (hS.own 0 rfl) h63 (fun W hF x y=>hcmp W (hS.fr.trans hF) x y) oQ oQ) ?_)))))
  rintro _ w3 ⟨rfl,zs,hz,uw3⟩
  replace hS:=hS.Fs 0 rfl uw3
  refine Ah (Ak (A6 (σ:=Nat×List Fact) (fun s w=>(0<s.1)∧(s.2.length=m)∧(Bks key s.2 s.1)∧(sameF key xs s.2)∧(Wx.Sep (Aw (tN TY0) 19 Fact.cells (.slice (some ⟨g,0,none⟩) m cp) (xs)).foot w0 w [Aw (tN TY0) 19 Fact.cells (.slice (some ⟨g,0,none⟩) m cp) (s.2)])) (fun s=>[(6,.eq (vi (s.1:Int)))]) ([(0,.eq _),(1,.eq _),(2,.eq _)]) (fun s=>m-s.1) (20,Fl ys a m zs) ?_ tQ ?_))
  ·exact⟨by show 0<20;omega,by show(Fl ys a m zs).length=m;rw[D4 oQ oQ (by rw[hz.same.length,Cn (by omega)])];exact hyl,by have:=hI.last (zs:=zs) oQ oQ (by rw[hyl];exact hz);rw[hyl]at this;exact this,hsf.step oQ oQ hz,hS⟩
  rintro⟨B,ys⟩ w4 ⟨hB,hyl,hI,hsf,hS⟩
  dsimp only at hB hyl hI hsf hS
  change CW _ _ _ _ _ _ _ ([(6,.eq (vi (B:Int)))]++_) _
  refine Ai (Af (I rfl (I rfl (U (.l2 rfl rfl) (Ah (CW.b rfl (fun h30=>?_) (fun h30=>?_)))))))
  ·refine Aj (Ac (Ak (Ai ?_)))
   have hBm:B<m:=by simp at h30;omega
   refine Aa (I rfl (U (.val (v':=vi ((2*B:Nat):Int)) (Kd (.const _) (.t rfl)) (Tb oQ)) (Az (LW.A rfl (An (Ak (A6 (σ:=Nat×List Fact) (fun s w=>(s.1≤m)∧(s.2.length=m)∧(Mrg key s.2 B s.1)∧(sameF key xs s.2)∧(Wx.Sep (Aw (tN TY0) 19 Fact.cells (.slice (some ⟨g,0,none⟩) m cp) (xs)).foot w0 w [Aw (tN TY0) 19 Fact.cells (.slice (some ⟨g,0,none⟩) m cp) (s.2)])) (fun s=>[(7,.eq (vi (s.1:Int))),(8,.eq (vi ((2*B+s.1:Nat):Int)))]) ([(0,.eq _),(1,.eq _),(2,.eq _),(6,.eq _)]) (fun s=>m-s.1) (0,ys) ?_ tQ ?_)))))))
   ·exact⟨a8 _,hyl,Mrg.start hB hI,hsf,hS⟩
   rintro⟨a,ys⟩ w5 ⟨ha,hyl,hM,hsf,hS⟩
   dsimp only at ha hyl hM hsf hS
   change CW _ _ _ _ _ _ _ ([(7,.eq (vi (a:Int))),(8,.eq (vi ((2*B+a:Nat):Int)))]++_) _
   refine Ai (Af (I rfl (I rfl (U (.leq (.t rfl) (.t rfl)) (Ah (CW.b rfl (fun h35=>?_) (fun h35=>?_)))))))
   ·refine Aj (Ac (Ak (Ai ?_)))
    have hal:2*B+a≤m:=by simp at h35;omega
    refine Aa (I rfl (I rfl (I rfl (I rfl (U (.addN (.t rfl) (.t rfl) oQ) (I rfl (I rfl (A4 (eC (.ct rfl (.ct rfl (.ct rfl (.ct rfl (.cu rfl))))) (Sc)) rfl (Iy cf lb key hen g m cp h63 m a (a+B) (2*B+a) ys _ oQ (hS.own 0 rfl) (fun W hF x y=>hcmp W (hS.fr.trans hF) x y) oQ oQ oQ (hM.pre oQ).1 (hM.pre oQ).2) ?_))))))))
    rintro _ w6 ⟨rfl,zs,hz,uw6⟩
    replace hS:=hS.Fs 0 rfl uw6
    refine An (Aa (I rfl (LW.A rfl (Ah (Aa (I rfl (I rfl (U (.val (v':=vi ((2*B:Nat):Int)) (Kd (.const _) (.t rfl)) (Tb oQ)) (U (.val (v':=vi ((2*B+(2*B+a):Nat):Int)) (PEv.addN (.t rfl) (.t rfl) oQ) (AJ oQ)) (LW.A rfl (LW.nil (Al (Av ?_)))))))))))))
    exact⟨(2*B+a,Fl ys a (2*B+a) zs),⟨by show 2*B+a≤m;omega,by show(Fl ys a (2*B+a) zs).length=m;rw[D4 oQ oQ (by rw[hz.same.length,Cn (by omega)])];exact hyl,hM.step hB oQ hz,hsf.step oQ oQ hz,hS⟩,tQ,by show m-(2*B+a)<m-a;omega⟩
   refine A8 (Ab (Ab (Aq (Ac (Ai (Ai ?_))))))
   have hal:m<2*B+a:=by simp at h35;omega
   refine Aa (I rfl (I rfl (U (.addN (.t rfl) (.t rfl) oQ) (LW.A rfl (An (Aa (I rfl (I rfl (U (.l2 rfl rfl) (Ah (CW.b rfl (fun h54=>?_) (fun h54=>?_))))))))))))
   ·have ham:a+B<m:=by simp at h54;omega
    refine Aa (I rfl (I rfl (I rfl (I rfl (I rfl (A4 (eC (.ct rfl (.ct rfl (.ct rfl (.ct rfl (.cu rfl))))) (Sc)) rfl (Iy cf lb key hen g m cp h63 m a (a+B) m ys _ oQ (hS.own 0 rfl) (fun W hF x y=>hcmp W (hS.fr.trans hF) x y) oQ oQ (bl _) (hM.HB oQ oQ).1 (by have:=(hM.HB oQ oQ).2;rw[hyl]at this;exact this)) ?_))))))
    rintro _ w7 ⟨rfl,zs,hz,uw7⟩
    replace hS:=hS.Fs 0 rfl uw7
    refine Ah (Aa (I rfl (U (.val (v':=vi ((2*B:Nat):Int)) (Kd (.t rfl) (.const _)) (V4 oQ)) (LW.A rfl (LW.nil (Al (Av ?_)))))))
    exact⟨(2*B,Fl ys a m zs),⟨by show 0<2*B;omega,by show(Fl ys a m zs).length=m;rw[D4 oQ oQ (by rw[hz.same.length,Cn (by omega)])];exact hyl,by have:=hM.last (zs:=zs) oQ oQ (by rw[hyl];exact hz);rw[hyl]at this;exact this,hsf.step oQ oQ hz,hS⟩,tQ,by show m-2*B<m-B;omega⟩
   have ham:¬a+B<m:=by simp at h54;omega
   refine Aj (Ac (Aa (I rfl (U (.val (v':=vi ((2*B:Nat):Int)) (Kd (.t rfl) (.const _)) (V4 oQ)) (LW.A rfl (LW.nil (Al (Av ?_))))))))
   exact⟨(2*B,ys),⟨by show 0<2*B;omega,hyl,hM.done oQ oQ oQ,hsf,hS⟩,tQ,by show m-2*B<m-B;omega⟩
  refine A8 (Ab (Ab (Aq (Dh rfl ⟨_,rfl,?_⟩))))
  exact⟨rfl,ys,hI.all (by simp at h30;omega) hsf,⟨hS.fr,hS.get 0 rfl,fun _ h=>.inl h⟩⟩
set_option maxHeartbeats 600000 in
theorem Md(v:Bool)(cf:Nat)(lb:Array Go.Value)(key:Fact→K2)(hen:∀args w,(callFunc cf args).run prog w=.ok (.enter cf args) w)(g m cp:Nat)(xs:List Fact)(w:World)(ho:OwnS w 0 (bif v then 35 else 220) 19 Fact.cells (.slice (some ⟨g,0,none⟩) m cp) xs)(h63:m≤1000000000)(hcmp:∀W,Fr (Aw (bif v then 35 else 220) 19 Fact.cells (.slice (some ⟨g,0,none⟩) m cp) (xs)).foot w W→∀x y,Ret prog cf (#[.agg (Fact.cells x),.agg (Fact.cells y)]++lb) W fun r W'=>r=vi (Z3 (key x) (key y))∧Up W W'):Ret prog (bif v then 75 else 167) #[.slice (some ⟨g,0,none⟩) m cp,.func (.func cf) #[] lb] w fun r w'=>r=.tuple #[]∧∃zs,StS key xs zs∧Stp (Aw (bif v then 35 else 220) 19 Fact.cells (.slice (some ⟨g,0,none⟩) m cp) (xs)) (Aw (bif v then 35 else 220) 19 Fact.cells (.slice (some ⟨g,0,none⟩) m cp) (zs)) w w':=by
 have TY0:TN (bif v then 35 else 220):=⟨⟩
 have Yv:=Z5 v
 have func75:=V6 v
 have lf:=F9 v
 have N6:=@N6 v
 cases v<;>dsimp only[cond]at*
 all_goals
  obtain⟨w0,rfl,_⟩:=W0 w
  have hS:Wx.Sep (Aw (tN TY0) 19 Fact.cells (.slice (some ⟨g,0,none⟩) m cp) (xs)).foot w0 w0 [Aw (tN TY0) 19 Fact.cells (.slice (some ⟨g,0,none⟩) m cp) (xs)]:=Sep.cons ho (fun _ h=>h) (Sep.start _ _) (by simp)
  refine cT 9 func75 rfl (Aa (I rfl (I rfl (U (.Ck lf (.t rfl)) (I rfl (A4 (eC (.ct rfl (.ct rfl (.cu rfl))) (Yv)) rfl (N6 cf lb key hen g m cp xs _ (hS.own 0 rfl) h63 (fun W hF x y=>hcmp W (hS.fr.trans hF) x y)) ?_))))))
  rintro _ w1 ⟨rfl,zs,hz,uw1⟩
  replace hS:=hS.Fs 0 rfl uw1
  refine LW.nil (Dh rfl ⟨_,rfl,?_⟩)
  exact⟨rfl,zs,hz,⟨hS.fr,hS.get 0 rfl,fun _ h=>.inl h⟩⟩
set_option maxHeartbeats 600000 in
theorem Kb(v:Bool)(fv:Go.Value)(w:World):Ret prog (bif v then 211 else 257) #[.slice none 0 0,vi 0,vi 0,fv] w fun r w'=>r=.tuple #[]∧Up w w':=by
 have func211:=Td v
 cases v<;>dsimp only[cond]at*
 all_goals
  have hW:=Up.refl w
  obtain⟨w0,rfl,_⟩:=W0 w
  refine cT 53 func211 rfl (Af (I rfl (U (.val (v':=vi 1) (PEv.add (.t rfl) (.const _) oQ oQ) rfl) (LW.A rfl (Ah (Ak (A6 (σ:=Unit) (fun s w=>(True)∧(Up w0 w)) (fun s=>[(8,.eq (vi 1))]) ([(0,.eq _),(1,.eq _),(2,.eq _),(3,.eq _)]) (fun s=>0) () ?_ tQ ?_)))))))
  ·exact⟨trivial,hW⟩
  rintro _ w1 ⟨ht,hW⟩
  refine Ai (Af (I rfl (I rfl (U (.fa (PEv.l2 rfl rfl) cQ) (Ah (CW.f rfl (A8 (Ab (Ab (Aq (Dh rfl ⟨_,rfl,?_⟩)))))))))))
  exact⟨rfl,hW⟩
set_option maxHeartbeats 600000 in
theorem N7(v:Bool)(fv:Go.Value)(w:World):Ret prog (bif v then 153 else 225) #[.slice none 0 0,vi 0,fv] w fun r w'=>r=.tuple #[]∧Up w w':=by
 have Vh:=Z6 v
 have func153:=Tc v
 have Kb:=@Kb v
 cases v<;>dsimp only[cond]at*
 all_goals
  have hW:=Up.refl w
  obtain⟨w0,rfl,_⟩:=W0 w
  refine cT 63 func153 rfl (Af (Az (An (Aa (I rfl (Az (LW.A rfl (An (Ak (A6 (σ:=Unit) (fun s w=>(True)∧(Up w0 w)) (fun s=>[(7,.eq (vi 0)),(8,.eq (vi 20))]) ([(0,.eq _),(1,.eq _),(2,.eq _),(6,.eq _)]) (fun s=>0) () ?_ tQ ?_))))))))))
  ·exact⟨trivial,hW⟩
  rintro _ w1 ⟨ht,hW⟩
  refine Ai (Af (I rfl (I rfl (U (.fa (PEv.leq (.t rfl) (.t rfl)) cQ) (Ah (CW.f rfl (A8 (Ab (Ab (Aq (Ac (Af (I rfl (I rfl (I rfl (I rfl (A4 (eC (.ct rfl (.ct rfl (.ct rfl (.cu rfl)))) (Vh)) rfl (Kb _ _) ?_)))))))))))))))))
  rintro _ w2 ⟨rfl,uw2⟩
  replace hW:=hW.up uw2
  refine Ah (Ak (A6 (σ:=Unit) (fun s w=>(True)∧(Up w0 w)) (fun s=>[(6,.eq (vi 20))]) ([(0,.eq _),(1,.eq _),(2,.eq _)]) (fun s=>0) () ?_ tQ ?_))
  ·exact⟨trivial,hW⟩
  rintro _ w3 ⟨ht,hW⟩
  refine Ai (Af (I rfl (I rfl (U (.fa (PEv.l2 rfl rfl) cQ) (Ah (CW.f rfl (A8 (Ab (Ab (Aq (Dh rfl ⟨_,rfl,?_⟩)))))))))))
  exact⟨rfl,hW⟩
set_option maxHeartbeats 600000 in
theorem Me(v:Bool)(fv:Go.Value)(w:World):Ret prog (bif v then 75 else 167) #[.slice none 0 0,fv] w fun r w'=>r=.tuple #[]∧Up w w':=by
 have Yv:=Z5 v
 have func75:=V6 v
 have lf:=F9 v
 have N7:=@N7 v
 cases v<;>dsimp only[cond]at*
 all_goals
  have hW:=Up.refl w
  obtain⟨w0,rfl,_⟩:=W0 w
  refine cT 9 func75 rfl (Aa (I rfl (I rfl (U (.Ck lf (.t rfl)) (I rfl (A4 (eC (.ct rfl (.ct rfl (.cu rfl))) (Yv)) rfl (N7 _ _) ?_))))))
  rintro _ w1 ⟨rfl,uw1⟩
  replace hW:=hW.up uw1
  refine LW.nil (Dh rfl ⟨_,rfl,?_⟩)
  exact⟨rfl,hW⟩
theorem eW(of:Nat)(w:World):Ret prog 24 #[.slice none 0 0,.func (.func of) #[] #[]] w fun r w'=>r=.tuple #[]∧Up w w':=by
 have hW:=Up.refl w
 obtain⟨w0,rfl,_⟩:=W0 w
 refine cT 7 func24 rfl (Af (Ap (.Pu (.t rfl) rfl) rfl ?_))
 rintro _ w1 ⟨B3,rfl,NB3⟩
 replace hW:=hW.up NB3.up
 have hB3:=NB3.blk
 refine Ah (Aa (I rfl (U (.makeFunc (.cu rfl)) (A4 (eC (.u rfl rfl) (CL)) rfl (Me true _ _) ?_))))
 rintro _ w2 ⟨rfl,uw2⟩
 replace hW:=hW.up uw2
 replace hB3:=hB3.up uw2
 refine LW.nil (Dh rfl ⟨_,rfl,?_⟩)
 exact⟨rfl,hW⟩
theorem Z8(of:Nat)(key:Fact→K2)(hen:∀args w,(callFunc of args).run prog w=.ok (.enter of args) w)(hord:∀W x,Ret prog of #[.agg x.cells] W fun r W'=>r=.agg #[vi (key x).1,vi (key x).2]∧Up W W')(g m cp:Nat)(xs:List Fact)(w:World)(ho:OwnS w 0 35 19 Fact.cells (.slice (some ⟨g,0,none⟩) m cp) xs)(h63:m≤1000000000):Ret prog 24 #[.slice (some ⟨g,0,none⟩) m cp,.func (.func of) #[] #[]] w fun r w'=>r=.tuple #[]∧Stp (Aw 35 19 Fact.cells (.slice (some ⟨g,0,none⟩) m cp) (xs)) (Aw 35 19 Fact.cells (.slice (some ⟨g,0,none⟩) m cp) (H9 key xs)) w w':=by
 obtain⟨w0,rfl,_⟩:=W0 w
 have hS:Wx.Sep (Aw 35 19 Fact.cells (.slice (some ⟨g,0,none⟩) m cp) (xs)).foot w0 w0 [Aw 35 19 Fact.cells (.slice (some ⟨g,0,none⟩) m cp) (xs)]:=Sep.cons ho (fun _ h=>h) (Sep.start _ _) (by simp)
 refine cT 7 func24 rfl (Af (Ap (.Pu (.t rfl) rfl) rfl ?_))
 rintro _ w1 ⟨B3,rfl,NB3⟩
 have eB3:=NB3.at_
 have zB3:=NB3.size
 replace hS:=hS.Cg NB3
 refine Ah ?_
 have hB3:=NB3.blk
 have hg:=ho.lt g rfl
 replace hS:Wx.Sep (Aw 35 19 Fact.cells (.slice (some ⟨g,0,none⟩) m cp) (xs)).foot w0 w1 [Aw 35 19 Fact.cells (.slice (some ⟨g,0,none⟩) m cp) (xs)]:=hS.take 1
 refine Aa (I rfl (U (.makeFunc (.cu rfl)) (A4 (eC (.u rfl rfl) (CL)) rfl (Md true 76 #[.pointer (some ⟨B3,0,none⟩)] key JS g m cp xs _ (hS.own 0 rfl) h63 (fun W hF x y=>lO of key hen hord x y B3 W (hB3.fr hF (fun(e:some g=some B3)=>by cases e;omega)))) ?_)))
 rintro _ w2 ⟨rfl,zs,hz,uw2⟩
 replace hS:=hS.Fs 0 rfl uw2
 refine LW.nil (Dh rfl ⟨_,rfl,?_⟩)
 rw[hz.eq]at hS
 exact⟨rfl,⟨hS.fr,hS.get 0 rfl,fun _ h=>.inl h⟩⟩
theorem N8(of:Nat)(key:Fact→K2)(hen:∀args w,(callFunc of args).run prog w=.ok (.enter of args) w)(hord:∀W x,Ret prog of #[.agg x.cells] W fun r W'=>r=.agg #[vi (key x).1,vi (key x).2]∧Up W W')(v:Go.Value)(xs:List Fact)(w:World)(ho:OwnS w 0 35 19 Fact.cells v xs)(h63:xs.length≤1000000000):Ret prog 24 #[v,.func (.func of) #[] #[]] w fun r w'=>r=.tuple #[]∧Stp (Aw 35 19 Fact.cells v xs) (Aw 35 19 Fact.cells v (H9 key xs)) w w':=by
 have h0:=ho
 obtain⟨_,⟨rfl,hn⟩|⟨g,cap,cur,rfl,_⟩⟩:=h0
 · have hx:xs=[]:=dl hn
   subst hx
   exact(eW of w).mono fun r w'⟨e,u⟩=>⟨e,(Stp.refl ho).up u⟩
 exact Z8 of key hen hord g xs.length cap xs w ho h63
namespace Gs
end Gs
end Go.Proofs.YtnpgbbaniknpkaaGreatDoor
namespace Go.Wx
open Go.RowKit
section
variable {P:Program}{n:Nat}{ds:List Deferred}{l:Env}{w:World}{d:Option Tmp}{ty:TypeId}{ps:String}{af:Array Edge}{g:Option (Nat×Bool)}
theorem PEv.Jn{T e k size:Nat}{z cs:Array Value}{xs:Array (Nat×Operand)}{vs:List (Nat×Value)}(hu:P.underlying T=some (.array k e))(hz:∀w,(zeroValue T).run P w=.ok (.agg z) w)(hs:∀w,(sizeOf e).run P w=.ok size w)
   (hv:Parts l xs.toList vs)(hf:Instr.fill (fun i=>some (i*size,size)) z vs=some cs):PEv P n ds l w ⟨d,.build T xs,ty,ps,af,g⟩ (.agg cs):=fun a w' ha _=>by
 refine C0 ?_
 have e:(xs.map fun(i,x)=>(i,a.eval x))=vs.toArray:=by apply gz;rw[←hv.map ha];simp
 rw[e]
 simp only[Instr.build,Sem.run_bind,hz,Result.andThen,run_underlying hu,hs,Value.cells,hf]
 rfl
end
def Ri(f:Int→Value)(i:Nat):List (Int×Value):=(List.range i).map fun j=>(((j+1:Nat):Int),f ((j+1:Nat):Int))
theorem Mf{f:Int→Value}{i:Nat}{k:Int}{v:Value}:(k,v)∈Ri f i↔1≤k∧k≤i∧v=f k:=by
 unfold Ri
 rw[bx]
 constructor
 · rintro⟨j,hj,e⟩
   have:=cn.1 hj
   cases e
   exact⟨by omega,by omega,rfl⟩
 rintro⟨h1,h2,rfl⟩
 refine⟨(k-1).toNat,cn.2 oQ,?_⟩
 have:(((k-1).toNat+1:Nat):Int)=k:=by omega
 rw[this]
theorem lP{f:Int→Value}{i:Nat}{k:Int}:k∈(Ri f i).map (·.1)↔1≤k∧k≤i:=by
 rw[bx]
 constructor
 · rintro⟨⟨k',v⟩,h,rfl⟩
   have:=Mf.1 h
   exact⟨this.1,this.2.1⟩
 rintro⟨h1,h2⟩
 exact⟨(k,f k),Mf.2 ⟨h1,h2,rfl⟩,rfl⟩
theorem Fy(f:Int→Value)(i:Nat):Hu (Ri f i) ((i+1:Nat):Int) (f ((i+1:Nat):Int))=Ri f (i+1):=by
 rw[Y0 (fun h=>by have:=lP.1 h;omega)]
 simp[Ri,jd]
end Go.Wx
