import Derived.Test.YtbcnnkfopoiifaaGreatDoorKR111
namespace Go.Wx
def L8(a b:Int):Int:=if a<b then -1 else if b<a then 1 else 0
def wG:List Int→Int
 |[]=>0
 |x::l=>if x=0 then wG l else x
def fW(p q:K2):Int:=wG [L8 p.1 q.1,L8 p.2 q.2]
theorem Iq(p q:K2):decide (fW p q<0)=Gh p q:=by
 unfold fW wG wG wG L8 Gh
 by_cases h1:p.1<q.1
 · simp[h1]
 by_cases h2:q.1<p.1
 · have:¬p.1=q.1:=by omega
   simp[h1,h2,this]
 have e:p.1=q.1:=by omega
 by_cases h3:p.2<q.2
 · simp[e,h3]
 by_cases h4:q.2<p.2
 · simp[e,h3,h4]
 simp[e,h3,h4]
theorem bO{l:List Int}{k:Nat}{x:Int}(h:l[k]?=some x):wG (l.drop k)=if x=0 then wG (l.drop (k+1))else x:=by
 obtain⟨hk,e⟩:=ai.1 h
 rw[ce hk,e];rfl
theorem rH(p:K2):(#[vi p.1,vi p.2]:Array Go.Value).size=2∧(#[vi p.1,vi p.2]:Array Go.Value).all (·.oneCell')=true:=by simp[Value.oneCell']
theorem N3{p q r t:Nat}(h:(decide ((p:Int)<(q:Int))&&decide ((r:Int)<(t:Int)))=true):p<q∧r<t:=by
 obtain⟨h1,h2⟩:=Bool.and_eq_true_iff.1 h
 have h1:=bj h1
 have h2:=bj h2
 omega
theorem fX{p q r t:Nat}(h:(decide ((p:Int)<(q:Int))&&decide ((r:Int)<(t:Int)))=false):¬(p<q∧r<t):=fun⟨h1,h2⟩=>by
 rw[a8 oQ,a8 (by omega)]at h
 cases h
theorem rJ{α:Type}{xs:List α}{a b:Nat}{x:α}(hx:xs[a]?=some x)(h:a<b)(hb:b≤xs.length):C9 xs a b=x::C9 xs (a+1) b:=by
 rw[G1 (m:=a+1) oQ oQ hb,M4 (av a) hx,G2 (av a)];rfl
theorem Tj{z:Nat}(h:z<18446744073709551616):Go.Value.int .u64 (IntKind.u64.wrap (z:Int))=vu z:=by
 rw[Dv]
 unfold vu
 congr 1
 omega
theorem Tk{z:Nat}(h:z<9223372036854775808):Go.Value.int .i64 (IntKind.i64.wrap (z:Int))=vi (z:Int):=by
 rw[Cb oQ (by omega)]
theorem Qo{z:Nat}:Go.Value.int .u64 ((z:Int).fdiv (2^(min 1 IntKind.u64.bits)))=vu (z/2):=by
 have e1:min 1 IntKind.u64.bits=1:=rfl
 rw[e1,im _ (by decide)]
 unfold vu
 congr 1
theorem Um{z:Nat}(h:2*z<9223372036854775808):Go.Value.int .i64 (IntKind.i64.wrap (2*(z:Int)))=vi ((2*z:Nat):Int):=by
 rw[Cb oQ oQ,Int.natCast_mul];rfl
theorem Xf{z:Nat}(h:2*z<9223372036854775808):Go.Value.int .i64 (IntKind.i64.wrap ((z:Int)*2))=vi ((2*z:Nat):Int):=by
 rw[Int.mul_comm];exact Um h
theorem DO{a b:Nat}(h:a=b):vi (a:Int)=vi (b:Int):=by rw[h]
def Ff(k:Int)(f:Fact):K2:=match k with
 |4=>(f.Wafer,f.Time)
 |5=>(f.Product,0)
 |8=>(f.Other,f.Parties)
 |10=>(f.Recipe,f.Time)
 |_=>(f.ID,0)
end Go.Wx
namespace Go.Proofs.YtbcnnkfopoiifaaGreatDoor
open Go.Proofs.Tryz
open Go.Wx Go.RowKit
theorem Xg(a:Int)(w:World):Ret prog 171 #[vi a] w fun r w'=>r=.bool false∧Up w w':=by
 have hW:=Up.refl w
 refine cT 6 func171 rfl (Af (J (Ar (Aa (Ac rfl (Ac rfl (I (.fa (PEv.neq (.t rfl) (.t rfl)) (by simp)) (LW.A rfl (Ai (Aj (KW.q ?_)))))))))))
 exact⟨rfl,hW⟩
theorem Pm(a b:Int)(w:World):Ret prog 123 #[vi a,vi b] w fun r w'=>r=vi (L8 a b)∧Up w w':=by
 have hW:=Up.refl w
 refine cT 20 func123 rfl (Af (J (Ar (Aa (Ac rfl (A3 (eC (.o rfl) (BH)) rfl (Xg _ _) ?_))))))
 rintro _ w1 ⟨rfl,uw1⟩
 replace hW:=hW.up uw1
 refine LW.A rfl (Ar (Aa (Ac rfl (A3 (eC (.o rfl) (BH)) rfl (Xg _ _) ?_))))
 rintro _ w2 ⟨rfl,uw2⟩
 replace hW:=hW.up uw2
 refine LW.A rfl (Ar (Af (Ac rfl (Ai (CW.f rfl (Ak (Ab (Al (Af (Ac rfl (Ai (CW.f rfl (Ak (Ab (Al (Af (Ac rfl (Ac rfl (I (.l2 rfl rfl) (Ai (CW.b rfl (fun h16=>?_) (fun h16=>?_))))))))))))))))))))))
 ·replace h16:=dQ h16
  refine Af (J (Ai (Aj (Ah (KW.q ?_)))))
  refine⟨a_ vi ?_,hW⟩
  unfold L8
  (rw[ak (by omega)])
 replace h16:=dQ h16
 refine Ak (Ab (Al (Af (Ac rfl (Ac rfl (I (.gtr (.t rfl) (.t rfl)) (Ai (CW.b rfl (fun h19=>?_) (fun h19=>?_)))))))))
 ·replace h19:=dQ h19
  refine Af (J (Ai (Aj (Ah (KW.q ?_)))))
  refine⟨a_ vi ?_,hW⟩
  unfold L8
  (rw[ae oQ,ak (by omega)])
 replace h19:=dQ h19
 refine Ak (Ab (Af (J (Ai (Aj (KW.q ?_))))))
 refine⟨a_ vi ?_,hW⟩
 unfold L8
 (rw[ae oQ,ae (by omega)])
theorem DQ(ad:Option Addr)(cp:Nat)(l:List Int)(w:World)(hE0:Els w ad 1 Cm l)(hl:l.length≤1000):Ret prog 122 #[.slice ad l.length cp] w fun r w'=>r=vi (wG l)∧Up w w':=by
 have hW:=Up.refl w
 obtain⟨w0,rfl,_⟩:=W0 w
 refine cT 18 func122 rfl (Af (J (Ar (Aa (J (Ar (Af (Ac rfl (I (.Df lg (.t rfl)) (I (.move (.const _)) (Ai (Ap (A9 (σ:=Nat) (fun s w=>(s≤l.length)∧(wG l=wG (l.drop s))∧(Up w0 w)) (fun s=>[(8,.eq (vi (s:Int)))]) ([(3,.eq _),(6,.eq _),(7,.eq _)]) (fun s=>l.length-s) 0 ?_ tQ ?_)))))))))))))
 ·exact⟨ao _,rfl,Up.refl _⟩
 rintro k w1 ⟨hkk,hor,hL1⟩
 replace hW:=hW.up hL1
 refine Af (I (.l2 rfl rfl) (Ar (CW.b rfl (fun h9=>?_) (fun h9=>?_))))
 ·refine Ak (Ab (Al (Ap (Al ?_))))
  have hE:=Els.up hE0 hW
  have hkl:k<l.length:=by simp at h9;omega
  refine Aa ?_
  obtain⟨x,hx⟩:=Av (xs:=l) (i:=k) oQ
  obtain⟨Bx,ox,ax,hcx⟩:=hE _ x hx
  refine I (.Ay lg lf (.t rfl) (.t rfl) oQ ax) (I (.lb rfl (hcx.nth (j:=0) rfl)) (LW.A rfl (Ar (Aa (Ac rfl (Ac rfl (I (.neq (.t rfl) (.t rfl)) (Ai (CW.b rfl (fun h14=>?_) (fun h14=>?_))))))))))
  ·refine Af (Ac rfl (LW.A rfl (Ai (Aj (Aw (Ah (Ah (Aw (Ah (KW.q ?_))))))))))
   refine⟨a_ vi ?_,hW⟩
   rw[hor]
   (rw[bO hx,ae (by simpa using h14)])
  refine Ak (Ae (Ab (Aa (I (.ic rfl oQ) (Ac rfl (LW.nil (Aq ?_)))))))
  exact⟨k+1,⟨by omega,by rw[hor,bO hx,ak (by simpa using h14)],hL1⟩,tQ,by omega⟩
 refine A7 (Ad (Ad (Au (Ab (Af (Ac rfl (LW.A rfl (Ai (Aj (KW.q ?_))))))))))
 refine⟨a_ vi ?_,hW⟩
 rw[hor]
 (rw[fc (by simp at h9;omega)];rfl)
theorem mT(of:Nat)(key:Fact→K2)(hen:∀args w,(callFunc of args).run prog w=.ok (.enter of args) w)(hord:∀W x,Ret prog of #[.agg x.cells] W fun r W'=>r=.agg #[vi (key x).1,vi (key x).2]∧Up W W')(a b:Fact)(Bc:Nat)(w:World)(hC0:Blk w Bc #[.func (.func of) #[] #[]] 91):Ret prog 121 #[.agg a.cells,.agg b.cells,.pointer (some ⟨Bc,0,none⟩)] w fun r w'=>r=vi (fW (key a) (key b))∧Up w w':=by
 have hW:=Up.refl w
 have hC:=hC0
 refine cT 26 func121 rfl (Af (Ao (.bA rfl) rfl ?_))
 rintro _ w1 ⟨B3,rfl,NB3⟩
 replace hW:=hW.up NB3.up
 replace hC:=hC.up NB3.up
 have hB3:=NB3.blk
 refine Ao (.bA rfl) rfl ?_
 rintro _ w2 ⟨B4,rfl,NB4⟩
 replace hW:=hW.up NB4.up
 replace hC:=hC.up NB4.up
 replace hB3:=hB3.up NB4.up
 have hB4:=NB4.blk
 refine J (Ar (CW.vars 10 [⟨6,8,2,6,10⟩,⟨7,9,5,7,13⟩] #[vi 0,vi 0] [.eq (.func (.func of) #[] #[]),.eq (.agg a.cells),.eq (.agg #[vi (key a).1,vi (key a).2]),.eq (.func (.func of) #[] #[]),.eq (.agg b.cells),.eq (.agg #[vi (key b).1,vi (key b).2]),.pred fun v _=>∃B,v=.pointer (some ⟨B,0,none⟩),.pred fun v _=>∃B,v=.pointer (some ⟨B,0,none⟩),.eq undef,.eq undef] [6,7] ma mn kQ rfl kQ kQ kQ kQ kQ kQ kQ kQ cQ kQ kQ ?_ ?_ ⟨nn,nn,nn,nn,nn,nn,PhT.pred fun _ _ _ h _=>h,PhT.pred fun _ _ _ h _=>h,nn,nn,trivial⟩ ?_ ?_ ?_ ?_ ?_))
 ·intro v hv;simp only[ap,ba,b8]at hv;rcases hv with rfl|rfl<;>exact⟨_,_,_,rfl⟩
 ·intro v hv;simp only[ap,ba,b8]at hv;rcases hv with rfl|rfl<;>exact⟨_,_,_,rfl⟩
 ·intro v hv;simp only[ap,ba,b8]at hv;rcases hv with rfl|rfl<;>(intro o ho;cases ho;rfl)
 ·intro v hv;simp only[ap,ba,b8]at hv;rcases hv with rfl|rfl
  ·exact fun v W h=>⟨_,h,rfl,(rH (key a)).2⟩
  exact fun v W h=>⟨_,h,rfl,(rH (key b)).2⟩
 ·intro v hv;simp only[ap,ba,b8]at hv;rcases hv with rfl|rfl<;>exact fun B W=>⟨B,rfl⟩
 ·intro W hK0
  have hK:=(Up.drew w2).Da.trans hK0
  have hCW:=Blk.Da hC (T:=140) rfl hK
  have hB3W:=Blk.Da hB3 (T:=140) rfl hK
  have hB4W:=Blk.Da hB4 (T:=140) rfl hK
  refine aC (.inr ⟨rfl,TU.p (.lb rfl (hCW.An rfl)) rfl⟩) (aC (.inr ⟨rfl,TU.p (.lc rfl (hB3W.agg)) rfl⟩) (aC (.inr ⟨rfl,TU.c (Ft (.t rfl) (.cu rfl) hen) (hord _ a) sQ⟩) (aC (.inr ⟨rfl,TU.p (.lb rfl (hCW.An rfl)) rfl⟩) (aC (.inr ⟨rfl,TU.p (.lc rfl (hB4W.agg)) rfl⟩) (aC (.inr ⟨rfl,TU.c (Ft (.t rfl) (.cu rfl) hen) (hord _ b) sQ⟩) (aC (.inl (by simp)) (aC (.inl (by simp)) (aC (.inl (by simp)) (aC (.inl (by simp)) ?_)))))))))
  exact allL.nil
 intro wT g hU0 hbl hpw hg
 have hU:=(Up.drew w2).trans hU0
 obtain⟨B6,e6,z6,hB6⟩:=hbl ⟨6,8,2,6,10⟩ (by simp)
 obtain⟨B7,e7,z7,hB7⟩:=hbl ⟨7,9,5,7,13⟩ (by simp)
 have e10:g 10=.agg #[vi (key a).1,vi (key a).2]:=hg 2 _ 10 cQ rfl rfl
 have e13:g 13=.agg #[vi (key b).1,vi (key b).2]:=hg 5 _ 13 cQ rfl rfl
 replace e6:g 6=.pointer (some ⟨B6,0,none⟩):=e6
 replace e7:g 7=.pointer (some ⟨B7,0,none⟩):=e7
 change LW _ _ _ _ _ _ _ _ ((6,.eq (g 6))::(7,.eq (g 7))::_) _
 rw[e6,e7]
 rw[e10]at hB6
 rw[e13]at hB7
 replace hB6:Blk wT B6 #[vi (key a).1,vi (key a).2] 140:=hB6
 replace hB7:Blk wT B7 #[vi (key b).1,vi (key b).2] 140:=hB7
 replace hW:=hW.trans hU
 refine Ar (Eo 11 [.eq (.pointer (some ⟨B6,0,none⟩)),.eq (vi (key a).1),.eq (.pointer (some ⟨B7,0,none⟩)),.eq (vi (key b).1),.eq (vi (L8 (key a).1 (key b).1)),.eq (.pointer (some ⟨B6,1,none⟩)),.eq (vi (key a).2),.eq (.pointer (some ⟨B7,1,none⟩)),.eq (vi (key b).2),.eq (vi (L8 (key a).2 (key b).2)),.pred (fun v w=>SlT 3 w v 1 Cm [L8 (key a).1 (key b).1,L8 (key a).2 (key b).2])] [24] kQ rfl kQ kQ kQ kQ kQ kQ kQ ⟨nm,nm,nm,nm,nm,nm,nm,nm,nm,nm,PhU.pred fun _ _ _ h u=>SlT.H9 h u.H9,trivial⟩ ?_ ?_)
 ·intro W hU0
  have hU:=(Up.drew wT).trans hU0
  refine aC ⟨rfl,TU.p (.Bu (j:=0) mh lf (.t rfl) (.const _) cQ) rfl⟩ (aC ⟨rfl,TU.p (.lb rfl ((hB6.up hU).An rfl)) rfl⟩ (aC ⟨rfl,TU.p (.Bu (j:=0) mh lf (.t rfl) (.const _) cQ) rfl⟩ (aC ⟨rfl,TU.p (.lb rfl ((hB7.up hU).An rfl)) rfl⟩ (aC ⟨rfl,TU.c (eC (.u rfl rfl) (pO)) (Pm _ _ _) sQ⟩ (aC ⟨rfl,TU.p (.Bu (j:=1) mh lf (.t rfl) (.const _) cQ) rfl⟩ (aC ⟨rfl,TU.p (.lb rfl ((hB6.up hU).An rfl)) rfl⟩ (aC ⟨rfl,TU.p (.Bu (j:=1) mh lf (.t rfl) (.const _) cQ) rfl⟩ (aC ⟨rfl,TU.p (.lb rfl ((hB7.up hU).An rfl)) rfl⟩ (aC ⟨rfl,TU.c (eC (.u rfl rfl) (pO)) (Pm _ _ _) sQ⟩ (aC ⟨rfl,TU.r (REv.buildSlice (xs:=[L8 (key a).1 (key b).1,L8 (key a).2 (key b).2]) (enc:=Cm) (mk:=vi) lg lf ls rfl cQ (fun _=>rfl) (fun _=>rfl) (.ct rfl (.cu rfl)) rfl) (by rintro _ W1 ⟨B,c,rfl,N,y,x⟩;exact⟨N.up,SlT.lit ⟨B,c,rfl,N,y,x⟩⟩)⟩ ?_))))))))))
  exact allL.nil
 intro w3 g hU0 hg
 have hU:=(Up.drew wT).trans hU0
 replace hW:=hW.up hU
 replace hB6:=hB6.up hU
 replace hB7:=hB7.up hU
 obtain⟨⟨ad,cp,e24,hE⟩,_⟩:=hg 10 _ 24 cQ rfl rfl
 change LW _ _ _ _ _ _ _ _ ((24,.eq (g 24))::_) _
 rw[e24]
 refine A3 (eC (.o rfl) (HM)) rfl (DQ ad cp _ _ hE (by simp)) ?_
 rintro _ w4 ⟨rfl,uw4⟩
 replace hW:=hW.up uw4
 replace hB6:=hB6.up uw4
 replace hB7:=hB7.up uw4
 refine LW.A rfl (Ai (Aj (KW.q ?_)))
 exact⟨rfl,hW⟩
theorem K8(a b n:Nat)(fv:Go.Value)(g m cp:Nat)(xs:List Fact)(w:World)(ho:OwnS w 0 51 19 Fact.cells (.slice (some ⟨g,0,none⟩) m cp) xs)(h63:m≤1000000000)(h1:a+n≤b)(h2:b+n≤m):Ret prog 235 #[.slice (some ⟨g,0,none⟩) m cp,vi (a:Int),vi (b:Int),vi (n:Int),fv] w fun r w'=>r=.tuple #[]∧Stp (A8 51 19 Fact.cells (.slice (some ⟨g,0,none⟩) m cp) (xs)) (A8 51 19 Fact.cells (.slice (some ⟨g,0,none⟩) m cp) (Vz xs a b n)) w w':=by
 obtain⟨w0,rfl,_⟩:=W0 w
 have hxl:=ho.len
 have hS:Wx.Sep (A8 51 19 Fact.cells (.slice (some ⟨g,0,none⟩) m cp) (xs)).foot w0 w0 [A8 51 19 Fact.cells (.slice (some ⟨g,0,none⟩) m cp) (xs)]:=Sep.cons ho (fun _ h=>h) (Sep.start _ _) (by simp)
 refine cT 38 func235 rfl (Af (J (Ai (Ap (A9 (σ:=Nat) (fun s w=>(s≤n)∧(Wx.Sep (A8 51 19 Fact.cells (.slice (some ⟨g,0,none⟩) m cp) (xs)).foot w0 w [A8 51 19 Fact.cells (.slice (some ⟨g,0,none⟩) m cp) (Vz xs a b s)])) (fun s=>[(10,.eq (vi (s:Int)))]) ([(0,.eq _),(1,.eq _),(2,.eq _),(3,.eq _)]) (fun s=>n-s) 0 ?_ tQ ?_)))))
 ·exact⟨ao _,hS⟩
 rintro i w1 ⟨hin,hS⟩
 refine Al (Af (Ac rfl (Ac rfl (I (.l2 rfl rfl) (Ai (CW.b rfl (fun h13=>?_) (fun h13=>?_)))))))
 ·refine Ak (Ab (Al (Ap ?_)))
  have hil:i<n:=by simp at h13;omega
  have hsl:=Gr xs a b i
  obtain⟨x,hx⟩:=Av (xs:=Vz xs a b i) (i:=a+i) oQ
  obtain⟨y,hy⟩:=Av (xs:=Vz xs a b i) (i:=b+i) oQ
  refine L4 21 23 [.slice (some ⟨g,0,none⟩) m cp,vi ((a:Nat):Int),vi ((i:Nat):Int),vi ((a+i:Nat):Int),.slice (some ⟨g,0,none⟩) m cp,vi ((b:Nat):Int),vi ((i:Nat):Int),vi ((b+i:Nat):Int),.slice (some ⟨g,0,none⟩) m cp,vi ((b:Nat):Int),vi ((i:Nat):Int),vi ((b+i:Nat):Int),.pointer (some ⟨g,0+(b+i)*19,none⟩),.agg (Fact.cells y),.slice (some ⟨g,0,none⟩) m cp,vi ((a:Nat):Int),vi ((i:Nat):Int),vi ((a+i:Nat):Int),.pointer (some ⟨g,0+(a+i)*19,none⟩),.agg (Fact.cells x),.pointer (some ⟨g,0+(a+i)*19,none⟩),undef,.pointer (some ⟨g,0+(b+i)*19,none⟩),undef] (fun W=>Wx.Sep (A8 51 19 Fact.cells (.slice (some ⟨g,0,none⟩) m cp) (xs)).foot w0 W [A8 51 19 Fact.cells (.slice (some ⟨g,0,none⟩) m cp) (Vz xs a b i)]) (fun W=>Wx.Sep (A8 51 19 Fact.cells (.slice (some ⟨g,0,none⟩) m cp) (xs)).foot w0 W [A8 51 19 Fact.cells (.slice (some ⟨g,0,none⟩) m cp) ((Vz xs a b i).set (a+i) y)]) (fun W=>Wx.Sep (A8 51 19 Fact.cells (.slice (some ⟨g,0,none⟩) m cp) (xs)).foot w0 W [A8 51 19 Fact.cells (.slice (some ⟨g,0,none⟩) m cp) (((Vz xs a b i).set (a+i) y).set (b+i) x)]) kQ rfl kQ kQ kQ kQ kQ kQ (hS.up (Up.drew _)) ?_ _ _ rfl rfl ⟨rfl,rfl⟩ ⟨rfl,rfl⟩ ?_ ?_ ?_
  ·refine aC (.inr ⟨rfl,.inr fun W=>PEv.mv rfl⟩) (aC (.inr ⟨rfl,.inr fun W=>PEv.mv rfl⟩) (aC (.inr ⟨rfl,.inr fun W=>PEv.mv rfl⟩) (aC (.inr ⟨rfl,.inr fun W=>PEv.Fu (.t rfl) (.t rfl) oQ⟩) (aC (.inr ⟨rfl,.inr fun W=>PEv.mv rfl⟩) (aC (.inr ⟨rfl,.inr fun W=>PEv.mv rfl⟩) (aC (.inr ⟨rfl,.inr fun W=>PEv.mv rfl⟩) (aC (.inr ⟨rfl,.inr fun W=>PEv.Fu (.t rfl) (.t rfl) oQ⟩) (aC (.inr ⟨rfl,.inr fun W=>PEv.mv rfl⟩) (aC (.inr ⟨rfl,.inr fun W=>PEv.mv rfl⟩) (aC (.inr ⟨rfl,.inr fun W=>PEv.mv rfl⟩) (aC (.inr ⟨rfl,.inr fun W=>PEv.Fu (.t rfl) (.t rfl) oQ⟩) (aC (.inr ⟨rfl,.inr fun W=>PEv.indexAddr k6 k7 (.t rfl) (.t rfl) oQ⟩) (aC (.inr ⟨rfl,.inl ⟨by kernel_rfl,fun W hS=>PEv.lc rfl ((hS.own 0 rfl).at (fun _=>rfl) hy)⟩⟩) (aC (.inr ⟨rfl,.inr fun W=>PEv.mv rfl⟩) (aC (.inr ⟨rfl,.inr fun W=>PEv.mv rfl⟩) (aC (.inr ⟨rfl,.inr fun W=>PEv.mv rfl⟩) (aC (.inr ⟨rfl,.inr fun W=>PEv.Fu (.t rfl) (.t rfl) oQ⟩) (aC (.inr ⟨rfl,.inr fun W=>PEv.indexAddr k6 k7 (.t rfl) (.t rfl) oQ⟩) (aC (.inr ⟨rfl,.inl ⟨by kernel_rfl,fun W hS=>PEv.lc rfl ((hS.own 0 rfl).at (fun _=>rfl) hx)⟩⟩) (aC (.inr ⟨rfl,.inr fun W=>PEv.indexAddr k6 k7 (.t rfl) (.t rfl) oQ⟩) (aC (.inl (by simp)) (aC (.inr ⟨rfl,.inr fun W=>PEv.indexAddr k6 k7 (.t rfl) (.t rfl) oQ⟩) (aC (.inl (by simp)) ?_)))))))))))))))))))))))
   exact allL.nil
  ·intro W hS
   exact SEv.mono (SEv.G3 (i:=a+i) (z:=y) k7 (fun _=>rfl) Fact.one (.t rfl) (.t rfl) (hS.own 0 rfl) oQ) (fun _ h=>hS.E5 0 rfl h)
  ·intro W hS
   exact SEv.mono (SEv.G3 (i:=b+i) (z:=x) k7 (fun _=>rfl) Fact.one (.t rfl) (.t rfl) (hS.own 0 rfl) oQ) (fun _ h=>hS.E5 0 rfl h)
  intro w2 hS
  have hS:Wx.Sep (A8 51 19 Fact.cells (.slice (some ⟨g,0,none⟩) m cp) (xs)).foot w0 w2 [A8 51 19 Fact.cells (.slice (some ⟨g,0,none⟩) m cp) (((Vz xs a b i).set (a+i) y).set (b+i) x)]:=hS
  refine Ae (Ab (Aa (Ac rfl (I (.ic rfl oQ) (LW.A rfl (LW.nil (Aq ?_)))))))
  exact⟨i+1,⟨by omega,by rw[Vz,Y2 hx hy];exact hS⟩,tQ,by omega⟩
 refine A7 (Ad (Ad (Au (Di rfl ⟨_,rfl,?_⟩))))
 have hin2:i=n:=by simp at h13;omega
 subst hin2
 exact⟨rfl,⟨hS.fr,hS.get 0 rfl,fun _ h=>.inl h⟩⟩
theorem fY(a mm b:Nat)(fv:Go.Value)(g m cp:Nat)(xs:List Fact)(w:World)(ho:OwnS w 0 51 19 Fact.cells (.slice (some ⟨g,0,none⟩) m cp) xs)(h63:m≤1000000000)(h1:a<mm)(h2:mm<b)(h3:b≤m):Ret prog 231 #[.slice (some ⟨g,0,none⟩) m cp,vi (a:Int),vi (mm:Int),vi (b:Int),fv] w fun r w'=>r=.tuple #[]∧Stp (A8 51 19 Fact.cells (.slice (some ⟨g,0,none⟩) m cp) (xs)) (A8 51 19 Fact.cells (.slice (some ⟨g,0,none⟩) m cp) (Lb xs a mm b)) w w':=by
 obtain⟨w0,rfl,_⟩:=W0 w
 have hxl:=ho.len
 have hS:Wx.Sep (A8 51 19 Fact.cells (.slice (some ⟨g,0,none⟩) m cp) (xs)).foot w0 w0 [A8 51 19 Fact.cells (.slice (some ⟨g,0,none⟩) m cp) (xs)]:=Sep.cons ho (fun _ h=>h) (Sep.start _ _) (by simp)
 refine cT 58 func231 rfl (Af (Ac rfl (Ac rfl (I (.Pb (.t rfl) (.t rfl) oQ oQ) (LW.A rfl (Ar (Aa (Ac rfl (Ac rfl (I (.Pb (.t rfl) (.t rfl) oQ oQ) (LW.A rfl (Ar (Ap (A9 (σ:=Nat×Nat×List Fact) (fun s w=>(0<s.1∧0<s.2.1∧s.1≤mm-a∧s.2.1≤b-mm)∧(s.2.2.length=m)∧(Lb s.2.2 (mm-s.1) mm (mm+s.2.1)=Lb xs a mm b)∧(Wx.Sep (A8 51 19 Fact.cells (.slice (some ⟨g,0,none⟩) m cp) (xs)).foot w0 w [A8 51 19 Fact.cells (.slice (some ⟨g,0,none⟩) m cp) (s.2.2)])) (fun s=>[(10,.eq (vi (s.1:Int))),(11,.eq (vi (s.2.1:Int)))]) ([(0,.eq _),(2,.eq _),(4,.eq _)]) (fun s=>s.1+s.2.1) (mm-a,b-mm,xs) ?_ tQ ?_))))))))))))))
 ·exact⟨⟨by show 0<mm-a;omega,by show 0<b-mm;omega,av _,av _⟩,hxl,by rw[show mm-(mm-a)=a by omega,show mm+(b-mm)=b by omega],hS⟩
 rintro⟨i,j,ys⟩ w1 ⟨hij,hyl,hrt,hS⟩
 dsimp only at hij hyl hrt hS
 change CW _ _ _ _ _ _ _ ([(10,.eq (vi (i:Int))),(11,.eq (vi (j:Int)))]++_) _
 refine Al (Af (Ac rfl (Ac rfl (I (.neq (.t rfl) (.t rfl)) (Ai (CW.b rfl (fun h20=>?_) (fun h20=>?_)))))))
 ·replace h20:=dQ h20
  have hne0:¬((i:Int)=j):=by simpa using h20
  have hne:i≠j:=by omega
  refine Ak (Ab (Ap (Af (Ac rfl (Ac rfl (I (.gtr (.t rfl) (.t rfl)) (Ai (CW.b rfl (fun h23=>?_) (fun h23=>?_)))))))))
  ·replace h23:=dQ h23
   refine Af (Ac rfl (Ac rfl (Ac rfl (I (.Pb (.t rfl) (.t rfl) oQ oQ) (Ac rfl (Ac rfl (Ac rfl (A3 (eC (.ct rfl (.ct rfl (.ct rfl (.ct rfl (.cu rfl))))) (pV)) rfl (K8 (mm-i) mm j _ g m cp ys _ (hS.own 0 rfl) h63 oQ oQ) ?_))))))))
   rintro _ w2 ⟨rfl,uw2⟩
   replace hS:=hS.E5 0 rfl uw2
   refine Ai (Aa (Ac rfl (Ac rfl (I (.Pb (.t rfl) (.t rfl) oQ oQ) (LW.A rfl (LW.nil (Ae (Aq ?_))))))))
   exact⟨(i-j,j,Vz ys (mm-i) mm j),⟨⟨by show 0<i-j;omega,by show 0<j;omega,by show i-j≤mm-a;omega,by show j≤b-mm;omega⟩,by rw[Gr];exact hyl,by rw[←hrt];exact xV oQ oQ oQ oQ,hS⟩,tQ,by(dsimp only;omega)⟩
  replace h23:=dQ h23
  refine Af (Ac rfl (Ac rfl (Ac rfl (I (.Pb (.t rfl) (.t rfl) oQ oQ) (Ac rfl (Ac rfl (I (.Fu (.t rfl) (.t rfl) oQ) (Ac rfl (I (.Pb (.t rfl) (.t rfl) oQ oQ) (Ac rfl (Ac rfl (A3 (eC (.ct rfl (.ct rfl (.ct rfl (.ct rfl (.cu rfl))))) (pV)) rfl (K8 (mm-i) (mm+j-i) i _ g m cp ys _ (hS.own 0 rfl) h63 oQ oQ) ?_))))))))))))
  rintro _ w3 ⟨rfl,uw3⟩
  replace hS:=hS.E5 0 rfl uw3
  refine Ai (Aa (Ac rfl (Ac rfl (I (.Pb (.t rfl) (.t rfl) oQ oQ) (LW.A rfl (LW.nil (Ae (Aq ?_))))))))
  exact⟨(i,j-i,Vz ys (mm-i) (mm+j-i) i),⟨⟨by show 0<i;omega,by show 0<j-i;omega,by show i≤mm-a;omega,by show j-i≤b-mm;omega⟩,by rw[Gr];exact hyl,by rw[←hrt];exact mO oQ oQ oQ oQ,hS⟩,tQ,by(dsimp only;omega)⟩
 replace h20:=dQ h20
 have heq0:((i:Int)=j):=by simpa using h20
 have heq:i=j:=by omega
 subst heq
 refine A7 (Ad (Ad (Au (Ab (Aa (Ac rfl (Ac rfl (Ac rfl (I (.Pb (.t rfl) (.t rfl) oQ oQ) (Ac rfl (Ac rfl (Ac rfl (A3 (eC (.ct rfl (.ct rfl (.ct rfl (.ct rfl (.cu rfl))))) (pV)) rfl (K8 (mm-i) mm i _ g m cp ys _ (hS.own 0 rfl) h63 oQ oQ) ?_)))))))))))))
 rintro _ w4 ⟨rfl,uw4⟩
 replace hS:=hS.E5 0 rfl uw4
 refine LW.nil (Di rfl ⟨_,rfl,?_⟩)
 rw[qY oQ oQ,hrt]at hS
 exact⟨rfl,⟨hS.fr,hS.get 0 rfl,fun _ h=>.inl h⟩⟩
theorem Oy(a b:Nat)(cf:Nat)(lb:Array Go.Value)(key:Fact→K2)(hen:∀args w,(callFunc cf args).run prog w=.ok (.enter cf args) w)(g m cp:Nat)(xs:List Fact)(w:World)(ho:OwnS w 0 51 19 Fact.cells (.slice (some ⟨g,0,none⟩) m cp) xs)(h63:m≤1000000000)(hcmp:∀W,Fr (A8 51 19 Fact.cells (.slice (some ⟨g,0,none⟩) m cp) (xs)).foot w W→∀x y,Ret prog cf (#[.agg (Fact.cells x),.agg (Fact.cells y)]++lb) W fun r W'=>r=vi (fW (key x) (key y))∧Up W W')(h1:a≤b)(h2:b≤m):Ret prog 209 #[.slice (some ⟨g,0,none⟩) m cp,vi (a:Int),vi (b:Int),.func (.func cf) #[] lb] w fun r w'=>r=.tuple #[]∧∃zs,StS key (C9 xs a b) zs∧Stp (A8 51 19 Fact.cells (.slice (some ⟨g,0,none⟩) m cp) (xs)) (A8 51 19 Fact.cells (.slice (some ⟨g,0,none⟩) m cp) (Fz xs a b zs)) w w':=by
 obtain⟨w0,rfl,_⟩:=W0 w
 have hxl:=ho.len
 have hS:Wx.Sep (A8 51 19 Fact.cells (.slice (some ⟨g,0,none⟩) m cp) (xs)).foot w0 w0 [A8 51 19 Fact.cells (.slice (some ⟨g,0,none⟩) m cp) (xs)]:=Sep.cons ho (fun _ h=>h) (Sep.start _ _) (by simp)
 refine cT 53 func209 rfl (Af (Ac rfl (I (.ic rfl oQ) (LW.A rfl (Ai (Ap (A9 (σ:=Nat×List Fact) (fun s w=>(a+1≤s.1∧(s.1≤b∨s.1=a+1))∧(StS key (C9 xs a (min s.1 b)) s.2)∧(Wx.Sep (A8 51 19 Fact.cells (.slice (some ⟨g,0,none⟩) m cp) (xs)).foot w0 w [A8 51 19 Fact.cells (.slice (some ⟨g,0,none⟩) m cp) (Fz xs a (min s.1 b) s.2)])) (fun s=>[(8,.eq (vi (s.1:Int)))]) ([(0,.eq _),(1,.eq _),(2,.eq _),(3,.eq _)]) (fun s=>b-s.1) (a+1,C9 xs a (min (a+1) b)) ?_ tQ ?_)))))))
 ·exact⟨⟨av _,.inr rfl⟩,StS.refl (xX (by rw[Cn (by omega)];omega)),by rw[Hx oQ (by omega)];exact hS⟩
 rintro⟨i,zs⟩ w1 ⟨hi,hz,hS⟩
 dsimp only at hi hz hS
 change CW _ _ _ _ _ _ _ ([(8,.eq (vi (i:Int)))]++_) _
 refine Al (Af (Ac rfl (Ac rfl (I (.l2 rfl rfl) (Ai (CW.b rfl (fun h14=>?_) (fun h14=>?_)))))))
 ·refine Ak (Ab (Al (Ap (Al ?_))))
  have hib:i<b:=by simp at h14;omega
  rw[cv (by omega)]at hz hS
  have hzl:zs.length=i-a:=by rw[hz.same.length,Cn (by omega)]
  obtain⟨x,hx⟩:=Av (xs:=xs) (i:=i) oQ
  refine Aa (Ac rfl (LW.A rfl (Ai (Ap (A9 (σ:=Nat) (fun s w=>(a≤s∧s≤i)∧(∀y∈zs.drop (s-a),Gh (key x) (key y)=true)∧(Wx.Sep (A8 51 19 Fact.cells (.slice (some ⟨g,0,none⟩) m cp) (xs)).foot w0 w [A8 51 19 Fact.cells (.slice (some ⟨g,0,none⟩) m cp) (Fz xs a (i+1) (Cs zs x (s-a)))])) (fun s=>[(9,.eq (vi (s:Int)))]) ([(0,.eq _),(1,.eq _),(2,.eq _),(3,.eq _),(8,.eq _)]) (fun s=>s) i ?_ tQ ?_)))))
  ·exact⟨⟨by omega,av _⟩,by rw[fc (by omega)];simp,by rw[←hzl,Xc,bF oQ hx hzl];exact hS⟩
  rintro j w2 ⟨hj,hgt,hS⟩
  refine Al (Al ?_)
  skip
  cases hq4:decide (a<j)with
  |true=>
   have haj:=bj hq4
   obtain⟨y,hy⟩:=Av (xs:=zs) (i:=j-a-1) oQ
   have hjx:(Fz xs a (i+1) (Cs zs x (j-a)))[j]?=some x:=by have:=bG (xs:=xs) (a:=a) (b:=i+1) (zs:=zs) (x:=x) (p:=j-a) oQ oQ oQ (by omega);rwa [show a+(j-a)=j by omega]at this
   have hjy:(Fz xs a (i+1) (Cs zs x (j-a)))[j-1]?=some y:=by have:=Pk (xs:=xs) (a:=a) (b:=i+1) (zs:=zs) (x:=x) (p:=j-a) (q:=j-a-1) oQ oQ oQ oQ (by omega);rw[show a+(j-a-1)=j-1 by omega]at this;exact this.trans hy
   refine Cg kQ kQ rfl rfl (Am (.mv rfl) (Am (.mv rfl) (Am (.tr (PEv.gtr (.t rfl) (.t rfl)) (a8 oQ)) (Am (.mv rfl) (A4 (.mv rfl) (A4 (.mv rfl) (A4 (.mv rfl) (A4 (.indexAddr k6 k7 (.t rfl) (.t rfl) oQ) (A4 (.lc rfl ((hS.own 0 rfl).at (fun _=>rfl) hjx)) (A4 (.mv rfl) (A4 (.mv rfl) (A4 (.dec (.t rfl) oQ oQ) (A4 (.indexAddr k6 k7 (.t rfl) (.t rfl) oQ) (A4 (.lc rfl ((hS.own 0 rfl).at (fun _=>rfl) hjy)) (Mv rfl rfl rfl rfl rfl (fun a w _ ha=>D0 (.t rfl) (.ct rfl (.cu rfl)) (hen) a ha) rfl (fun w hu=>hcmp w (hS.fr.trans (hu.fr _)) x y) (A4 (.lss (.t rfl) (.const _)) (Am (.pa rfl (fun hp=>(by exact .tmp rfl))) (HW.nil ?_))))))))))))))))))
   intro w3 uw3
   replace hS:=hS.up uw3
   refine Ab (CW.b rfl (fun h34=>?_) (fun h34=>?_))
   ·refine Ak (Ab (Al (Ap (L4 15 17 [.slice (some ⟨g,0,none⟩) m cp,vi ((j:Nat):Int),.slice (some ⟨g,0,none⟩) m cp,vi ((j:Nat):Int),vi ((j-1:Nat):Int),.slice (some ⟨g,0,none⟩) m cp,vi ((j:Nat):Int),vi ((j-1:Nat):Int),.pointer (some ⟨g,0+(j-1)*19,none⟩),.agg (Fact.cells y),.slice (some ⟨g,0,none⟩) m cp,vi ((j:Nat):Int),.pointer (some ⟨g,0+(j)*19,none⟩),.agg (Fact.cells x),.pointer (some ⟨g,0+(j)*19,none⟩),undef,.pointer (some ⟨g,0+(j-1)*19,none⟩),undef] (fun W=>Wx.Sep (A8 51 19 Fact.cells (.slice (some ⟨g,0,none⟩) m cp) (xs)).foot w0 W [A8 51 19 Fact.cells (.slice (some ⟨g,0,none⟩) m cp) (Fz xs a (i+1) (Cs zs x (j-a)))]) (fun W=>Wx.Sep (A8 51 19 Fact.cells (.slice (some ⟨g,0,none⟩) m cp) (xs)).foot w0 W [A8 51 19 Fact.cells (.slice (some ⟨g,0,none⟩) m cp) ((Fz xs a (i+1) (Cs zs x (j-a))).set (j) y)]) (fun W=>Wx.Sep (A8 51 19 Fact.cells (.slice (some ⟨g,0,none⟩) m cp) (xs)).foot w0 W [A8 51 19 Fact.cells (.slice (some ⟨g,0,none⟩) m cp) (((Fz xs a (i+1) (Cs zs x (j-a))).set (j) y).set (j-1) x)]) kQ rfl kQ kQ kQ kQ kQ kQ (hS.up (Up.drew _)) ?_ _ _ rfl rfl ⟨rfl,rfl⟩ ⟨rfl,rfl⟩ ?_ ?_ ?_))))
    ·refine aC (.inr ⟨rfl,.inr fun W=>PEv.mv rfl⟩) (aC (.inr ⟨rfl,.inr fun W=>PEv.mv rfl⟩) (aC (.inr ⟨rfl,.inr fun W=>PEv.mv rfl⟩) (aC (.inr ⟨rfl,.inr fun W=>PEv.mv rfl⟩) (aC (.inr ⟨rfl,.inr fun W=>PEv.dec (.t rfl) oQ oQ⟩) (aC (.inr ⟨rfl,.inr fun W=>PEv.mv rfl⟩) (aC (.inr ⟨rfl,.inr fun W=>PEv.mv rfl⟩) (aC (.inr ⟨rfl,.inr fun W=>PEv.dec (.t rfl) oQ oQ⟩) (aC (.inr ⟨rfl,.inr fun W=>PEv.indexAddr k6 k7 (.t rfl) (.t rfl) oQ⟩) (aC (.inr ⟨rfl,.inl ⟨by kernel_rfl,fun W hS=>PEv.lc rfl ((hS.own 0 rfl).at (fun _=>rfl) hjy)⟩⟩) (aC (.inr ⟨rfl,.inr fun W=>PEv.mv rfl⟩) (aC (.inr ⟨rfl,.inr fun W=>PEv.mv rfl⟩) (aC (.inr ⟨rfl,.inr fun W=>PEv.indexAddr k6 k7 (.t rfl) (.t rfl) oQ⟩) (aC (.inr ⟨rfl,.inl ⟨by kernel_rfl,fun W hS=>PEv.lc rfl ((hS.own 0 rfl).at (fun _=>rfl) hjx)⟩⟩) (aC (.inr ⟨rfl,.inr fun W=>PEv.indexAddr k6 k7 (.t rfl) (.t rfl) oQ⟩) (aC (.inl (by simp)) (aC (.inr ⟨rfl,.inr fun W=>PEv.indexAddr k6 k7 (.t rfl) (.t rfl) oQ⟩) (aC (.inl (by simp)) ?_)))))))))))))))))
     exact allL.nil
    ·intro W hS
     exact SEv.mono (SEv.G3 (i:=j) (z:=y) k7 (fun _=>rfl) Fact.one (.t rfl) (.t rfl) (hS.own 0 rfl) oQ) (fun _ h=>hS.E5 0 rfl h)
    ·intro W hS
     exact SEv.mono (SEv.G3 (i:=j-1) (z:=x) k7 (fun _=>rfl) Fact.one (.t rfl) (.t rfl) (hS.own 0 rfl) oQ) (fun _ h=>hS.E5 0 rfl h)
    intro w4 hS
    have hS:Wx.Sep (A8 51 19 Fact.cells (.slice (some ⟨g,0,none⟩) m cp) (xs)).foot w0 w4 [A8 51 19 Fact.cells (.slice (some ⟨g,0,none⟩) m cp) (((Fz xs a (i+1) (Cs zs x (j-a))).set (j) y).set (j-1) x)]:=hS
    refine Ae (Ab (Aa (Ac rfl (I (.dec (.t rfl) oQ oQ) (LW.A rfl (LW.nil (Aq ?_)))))))
    exact⟨j-1,⟨⟨by omega,by omega⟩,by rw[show j-1-a=j-a-1 by omega];exact mQ oQ hy hgt (by rw[←Iq];simpa using h34),by have:=bH (xs:=xs) (a:=a) (b:=i+1) (x:=x) (p:=j-a-1) (y:=y) oQ oQ oQ oQ hy;rw[show j-a-1+1=j-a by omega,show a+(j-a)=j by omega,show a+(j-a-1)=j-1 by omega]at this;rw[show j-1-a=j-a-1 by omega,←this];exact hS⟩,tQ,by omega⟩
   refine A7 (Ad (Ad (Au (Ae (Ab (Aa (Ac rfl (I (.ic rfl oQ) (LW.A rfl (LW.nil (Aq ?_)))))))))))
   exact⟨(i+1,Cs zs x (j-a)),⟨⟨by omega,by omega⟩,by rw[cv oQ,M4 oQ hx];exact hz.snoc oQ hgt (.inr ⟨y,hy,by rw[←Iq];simpa using h34⟩),by rw[cv (by omega)];exact hS⟩,tQ,by omega⟩
  |false=>
   refine Cg kQ kQ rfl rfl (Am (.mv rfl) (Am (.mv rfl) (Am (.fa (PEv.gtr (.t rfl) (.t rfl)) (bg (by have:=db hq4;omega))) (Am (.mv rfl) (C0 (C0 (C0 (C0 (C0 (C0 (C0 (C0 (C0 (C0 (C0 (C0 (Am (.De (b:=false) (.t rfl) (fun hp=>absurd (show false=true from hp) cQ)) (HW.nil ?_))))))))))))))))))
   intro w5 uw5
   replace hS:=hS.up uw5
   refine Ab (CW.f rfl (A7 (Ad (Ad (Au (Ae (Ab (Aa (Ac rfl (I (.ic rfl oQ) (LW.A rfl (LW.nil (Aq ?_)))))))))))))
   exact⟨(i+1,Cs zs x (j-a)),⟨⟨by omega,by omega⟩,by rw[cv oQ,M4 oQ hx];exact hz.snoc oQ hgt (.inl (by have:=db hq4;omega)),by rw[cv (by omega)];exact hS⟩,tQ,by omega⟩
 refine A7 (Ad (Ad (Au (Di rfl ⟨_,rfl,?_⟩))))
 have hbi:min i b=b:=by simp at h14;omega
 rw[hbi]at hz hS
 exact⟨rfl,zs,hz,⟨hS.fr,hS.get 0 rfl,fun _ h=>.inl h⟩⟩
set_option maxHeartbeats 8000000 in
theorem Qp(cf:Nat)(lb:Array Go.Value)(key:Fact→K2)(hen:∀args w,(callFunc cf args).run prog w=.ok (.enter cf args) w)(g m cp:Nat)(h63:m≤1000000000):∀(N a mm b:Nat)(xs:List Fact)(w:World),b-a≤N→OwnS w 0 51 19 Fact.cells (.slice (some ⟨g,0,none⟩) m cp) xs→(∀W,Fr (A8 51 19 Fact.cells (.slice (some ⟨g,0,none⟩) m cp) (xs)).foot w W→∀x y,Ret prog cf (#[.agg (Fact.cells x),.agg (Fact.cells y)]++lb) W fun r W'=>r=vi (fW (key x) (key y))∧Up W W')→a<mm→mm<b→b≤m→I0 key (C9 xs a mm)→I0 key (C9 xs mm b)→
   Ret prog 210 #[.slice (some ⟨g,0,none⟩) m cp,vi (a:Int),vi (mm:Int),vi (b:Int),.func (.func cf) #[] lb] w fun r w'=>r=.tuple #[]∧∃zs,StS key (C9 xs a b) zs∧Stp (A8 51 19 Fact.cells (.slice (some ⟨g,0,none⟩) m cp) (xs)) (A8 51 19 Fact.cells (.slice (some ⟨g,0,none⟩) m cp) (Fz xs a b zs)) w w':=by
 intro N
 induction N with
 |zero=>intro a mm b xs w hN _ _ h1 h2;omega
 |succ N ih=>
 intro a mm b xs w hN ho hcmp h1 h2 h3 hsA hsB
 obtain⟨w0,rfl,_⟩:=W0 w
 have hxl:=ho.len
 have hS:Wx.Sep (A8 51 19 Fact.cells (.slice (some ⟨g,0,none⟩) m cp) (xs)).foot w0 w0 [A8 51 19 Fact.cells (.slice (some ⟨g,0,none⟩) m cp) (xs)]:=Sep.cons ho (fun _ h=>h) (Sep.start _ _) (by simp)
 refine cT 220 func210 rfl (Al (Al ?_))
 cases hq0:decide (mm-a=1)with
 |true=>
  have hq0:=bj hq0
  obtain rfl:mm=a+1:=by omega
  obtain⟨x,hx⟩:=Av (xs:=xs) (i:=a) oQ
  refine Aa (Ac rfl (Ac rfl (I (.Pb (.t rfl) (.t rfl) oQ oQ) (I (.tr (PEv.eql (.t rfl) (.const _)) (a8 oQ)) (Ai (CW.v rfl (Af (Ac rfl (LW.A rfl (Ar (Aa (Ac rfl (LW.A rfl (Ar (Ap (A9 (σ:=Nat×Nat) (fun s w=>(a+1≤s.1∧s.1≤s.2∧s.2≤b)∧(∀q y,a+1≤q→q<s.1→xs[q]?=some y→Gh (key y) (key x)=true)∧(∀q y,s.2≤q→q<b→xs[q]?=some y→Gh (key y) (key x)=false)∧(Wx.Sep (A8 51 19 Fact.cells (.slice (some ⟨g,0,none⟩) m cp) (xs)).foot w0 w [A8 51 19 Fact.cells (.slice (some ⟨g,0,none⟩) m cp) (xs)])) (fun s=>[(10,.eq (vi (s.1:Int))),(11,.eq (vi (s.2:Int)))]) ([(0,.eq _),(1,.eq _),(2,.eq _),(3,.eq _),(4,.eq _)]) (fun s=>s.2-s.1) (a+1,b) ?_ tQ ?_))))))))))))))))
  ·exact⟨⟨av _,by show a+1≤b;omega,av _⟩,fun q y h1 h2=>absurd (show q<a+1 from h2) oQ,fun q y h1 h2=>absurd (show b≤q from h1) oQ,hS⟩
  rintro⟨i,j⟩ w1 ⟨hij,hL,hR,hS⟩
  dsimp only at hij hL hR hS
  change CW _ _ _ _ _ _ _ ([(10,.eq (vi (i:Int))),(11,.eq (vi (j:Int)))]++_) _
  refine Al (Af (Ac rfl (Ac rfl (I (.l2 rfl rfl) (Ai (CW.b rfl (fun h33=>?_) (fun h33=>?_)))))))
  ·replace h33:=dQ h33
   refine Ak (Ab (Ap (Af (Ac rfl (Ac rfl (I (.Fu (.t rfl) (.t rfl) oQ) (I (.val (v':=vu (i+j)) (PEv.conv (k':=.u64) (by rw[lh];rfl) mj (.t rfl)) (Tj oQ)) (I (.val (v':=vu ((i+j)/2)) (PEv.Ww (j:=1) (.t rfl) (.const _)) Qo) (I (.val (v':=vi (((i+j)/2:Nat):Int)) (PEv.conv (k':=.i64) (by rw[mj];rfl) lh (.t rfl)) (Tk oQ)) (LW.A rfl (Ar ?_)))))))))))
   have hlt:i<j:=by simp at h33;omega
   obtain⟨y,hy⟩:=Av (xs:=xs) (i:=(i+j)/2) oQ
   refine Cg kQ kQ rfl rfl (Am (.mv rfl) (Am (.mv rfl) (Am (.mv rfl) (Am (.indexAddr k6 k7 (.t rfl) (.t rfl) oQ) (Am (.lc rfl ((hS.own 0 rfl).at (fun _=>rfl) hy)) (Am (.mv rfl) (Am (.mv rfl) (Am (.indexAddr k6 k7 (.t rfl) (.t rfl) oQ) (Am (.lc rfl ((hS.own 0 rfl).at (fun _=>rfl) hx)) (HW.c (fun a w _ ha=>D0 (.t rfl) (.ct rfl (.cu rfl)) (hen) a ha) rfl rfl (fun w hu=>hcmp w (hS.fr.trans (hu.fr _)) y x) (Am (.lss (.t rfl) (.const _)) (HW.nil ?_))))))))))))
   intro w2 uw2
   replace hS:=hS.up uw2
   refine Ab (CW.b rfl (fun h50=>?_) (fun h50=>?_))
   ·replace h50:=dQ h50
    refine Aa (Ac rfl (I (.ic rfl oQ) (LW.A rfl (LW.nil (Ae (Aq ?_))))))
    exact⟨((i+j)/2+1,j),⟨⟨by show a+1≤(i+j)/2+1;omega,by show(i+j)/2+1≤j;omega,by show j≤b;omega⟩,fun q z q1 q2 hz=>jX (Kr hsB q1 (show q≤(i+j)/2 from Nat.le_of_lt_succ q2) oQ hz hy) (by rw[←Iq];exact a8 h50),hR,hS⟩,tQ,by omega⟩
   replace h50:=dQ h50
   refine Aa (Ac rfl (LW.A rfl (LW.nil (Ae (Aq ?_)))))
   exact⟨(i,(i+j)/2),⟨⟨by show a+1≤i;omega,by show i≤(i+j)/2;omega,by show(i+j)/2≤b;omega⟩,hL,fun q z q1 q2 hz=>Lf (by rw[←Iq];exact bg h50) (Kr hsB oQ (show(i+j)/2≤q from q1) q2 hy hz),hS⟩,tQ,by omega⟩
  replace h33:=dQ h33
  refine A7 (Ad (Ad (Au (Ab (Al (Al ?_))))))
  have hij2:i=j:=by simp at h33;omega
  have hzl:(C9 xs (a+1) b).length=b-(a+1):=Cn oQ
  have hsx:x::C9 xs (a+1) b=C9 xs a b:=(rJ hx oQ oQ).symm
  refine Aa (Ac rfl (LW.A rfl (Ai (Ap (A9 (σ:=Nat) (fun s w=>(a≤s∧s≤i-1)∧(Wx.Sep (A8 51 19 Fact.cells (.slice (some ⟨g,0,none⟩) m cp) (xs)).foot w0 w [A8 51 19 Fact.cells (.slice (some ⟨g,0,none⟩) m cp) (Fz xs a b (Cs (C9 xs (a+1) b) x (s-a)))])) (fun s=>[(13,.eq (vi (s:Int)))]) ([(0,.eq _),(1,.eq _),(2,.eq _),(3,.eq _),(4,.eq _),(10,.eq _)]) (fun s=>i-s) a ?_ tQ ?_)))))
  ·exact⟨⟨av _,by omega⟩,by rw[Nat.sub_self,bE,hsx,Hx oQ (by omega)];exact hS⟩
  rintro k w3 ⟨hk,hS⟩
  refine Al (Af (Ac rfl (Ac rfl (I (.dec (.t rfl) oQ oQ) (I (.l2 rfl rfl) (Ai (CW.b rfl (fun h58=>?_) (fun h58=>?_))))))))
  ·replace h58:=dQ h58
   refine Ak (Ab (Al (Ap ?_)))
   have hki:k<i-1:=by simp at h58;omega
   obtain⟨y,hy⟩:=Av (xs:=C9 xs (a+1) b) (i:=k-a) oQ
   have hrl:(Fz xs a b (Cs (C9 xs (a+1) b) x (k-a))).length=m:=by rw[Eh oQ oQ (by rw[E1];omega)];exact hxl
   have hkx:(Fz xs a b (Cs (C9 xs (a+1) b) x (k-a)))[k]?=some x:=by have:=bG (xs:=xs) (a:=a) (b:=b) (zs:=C9 xs (a+1) b) (x:=x) (p:=k-a) oQ oQ oQ (by omega);rwa [show a+(k-a)=k by omega]at this
   have hky:(Fz xs a b (Cs (C9 xs (a+1) b) x (k-a)))[k+1]?=some y:=by have:=Ui (xs:=xs) (a:=a) (b:=b) (zs:=C9 xs (a+1) b) (x:=x) (p:=k-a) (q:=k-a+1) oQ oQ oQ oQ (by omega);rw[show a+(k-a+1)=k+1 by omega]at this;exact this.trans hy
   refine L4 15 17 [.slice (some ⟨g,0,none⟩) m cp,vi ((k:Nat):Int),.slice (some ⟨g,0,none⟩) m cp,vi ((k:Nat):Int),vi ((k+1:Nat):Int),.slice (some ⟨g,0,none⟩) m cp,vi ((k:Nat):Int),vi ((k+1:Nat):Int),.pointer (some ⟨g,0+(k+1)*19,none⟩),.agg (Fact.cells y),.slice (some ⟨g,0,none⟩) m cp,vi ((k:Nat):Int),.pointer (some ⟨g,0+(k)*19,none⟩),.agg (Fact.cells x),.pointer (some ⟨g,0+(k)*19,none⟩),undef,.pointer (some ⟨g,0+(k+1)*19,none⟩),undef] (fun W=>Wx.Sep (A8 51 19 Fact.cells (.slice (some ⟨g,0,none⟩) m cp) (xs)).foot w0 W [A8 51 19 Fact.cells (.slice (some ⟨g,0,none⟩) m cp) (Fz xs a b (Cs (C9 xs (a+1) b) x (k-a)))]) (fun W=>Wx.Sep (A8 51 19 Fact.cells (.slice (some ⟨g,0,none⟩) m cp) (xs)).foot w0 W [A8 51 19 Fact.cells (.slice (some ⟨g,0,none⟩) m cp) ((Fz xs a b (Cs (C9 xs (a+1) b) x (k-a))).set (k) y)]) (fun W=>Wx.Sep (A8 51 19 Fact.cells (.slice (some ⟨g,0,none⟩) m cp) (xs)).foot w0 W [A8 51 19 Fact.cells (.slice (some ⟨g,0,none⟩) m cp) (((Fz xs a b (Cs (C9 xs (a+1) b) x (k-a))).set (k) y).set (k+1) x)]) kQ rfl kQ kQ kQ kQ kQ kQ (hS.up (Up.drew _)) ?_ _ _ rfl rfl ⟨rfl,rfl⟩ ⟨rfl,rfl⟩ ?_ ?_ ?_
   ·refine aC (.inr ⟨rfl,.inr fun W=>PEv.mv rfl⟩) (aC (.inr ⟨rfl,.inr fun W=>PEv.mv rfl⟩) (aC (.inr ⟨rfl,.inr fun W=>PEv.mv rfl⟩) (aC (.inr ⟨rfl,.inr fun W=>PEv.mv rfl⟩) (aC (.inr ⟨rfl,.inr fun W=>PEv.ic rfl oQ⟩) (aC (.inr ⟨rfl,.inr fun W=>PEv.mv rfl⟩) (aC (.inr ⟨rfl,.inr fun W=>PEv.mv rfl⟩) (aC (.inr ⟨rfl,.inr fun W=>PEv.ic rfl oQ⟩) (aC (.inr ⟨rfl,.inr fun W=>PEv.indexAddr k6 k7 (.t rfl) (.t rfl) oQ⟩) (aC (.inr ⟨rfl,.inl ⟨by kernel_rfl,fun W hS=>PEv.lc rfl ((hS.own 0 rfl).at (fun _=>rfl) hky)⟩⟩) (aC (.inr ⟨rfl,.inr fun W=>PEv.mv rfl⟩) (aC (.inr ⟨rfl,.inr fun W=>PEv.mv rfl⟩) (aC (.inr ⟨rfl,.inr fun W=>PEv.indexAddr k6 k7 (.t rfl) (.t rfl) oQ⟩) (aC (.inr ⟨rfl,.inl ⟨by kernel_rfl,fun W hS=>PEv.lc rfl ((hS.own 0 rfl).at (fun _=>rfl) hkx)⟩⟩) (aC (.inr ⟨rfl,.inr fun W=>PEv.indexAddr k6 k7 (.t rfl) (.t rfl) oQ⟩) (aC (.inl (by simp)) (aC (.inr ⟨rfl,.inr fun W=>PEv.indexAddr k6 k7 (.t rfl) (.t rfl) oQ⟩) (aC (.inl (by simp)) ?_)))))))))))))))))
    exact allL.nil
   ·intro W hS
    exact SEv.mono (SEv.G3 (i:=k) (z:=y) k7 (fun _=>rfl) Fact.one (.t rfl) (.t rfl) (hS.own 0 rfl) oQ) (fun _ h=>hS.E5 0 rfl h)
   ·intro W hS
    exact SEv.mono (SEv.G3 (i:=k+1) (z:=x) k7 (fun _=>rfl) Fact.one (.t rfl) (.t rfl) (hS.own 0 rfl) oQ) (fun _ h=>hS.E5 0 rfl h)
   intro w4 hS
   have hS:Wx.Sep (A8 51 19 Fact.cells (.slice (some ⟨g,0,none⟩) m cp) (xs)).foot w0 w4 [A8 51 19 Fact.cells (.slice (some ⟨g,0,none⟩) m cp) (((Fz xs a b (Cs (C9 xs (a+1) b) x (k-a))).set (k) y).set (k+1) x)]:=hS
   refine Ae (Ab (Aa (Ac rfl (I (.ic rfl oQ) (LW.A rfl (LW.nil (Aq ?_)))))))
   exact⟨k+1,⟨⟨by omega,by omega⟩,by have:=DN (xs:=xs) (a:=a) (b:=b) (x:=x) (p:=k-a) (y:=y) oQ oQ oQ oQ hy;rw[show a+(k-a)=k by omega,show a+(k-a+1)=k+1 by omega]at this;rw[show k+1-a=k-a+1 by omega,←this];exact hS⟩,tQ,by omega⟩
  replace h58:=dQ h58
  refine A7 (Ad (Ad (Au (Ab (Aj (Ah (Nr rfl ⟨_,rfl,?_⟩)))))))
  have hk2:k-a=i-(a+1):=by simp at h58;omega
  rw[hk2]at hS
  exact⟨rfl,_,xZ oQ hx oQ oQ hsB hL (by rw[hij2];exact hR),⟨hS.fr,hS.get 0 rfl,fun _ h=>.inl h⟩⟩
 |false=>
  have hq0:=db hq0
  refine Aa (Ac rfl (Ac rfl (I (.Pb (.t rfl) (.t rfl) oQ oQ) (I (.fa (PEv.eql (.t rfl) (.const _)) (bg oQ)) (Ai (CW.f rfl (Ak (Ab (Al (Al ?_))))))))))
  cases hq12:decide (b-mm=1)with
  |true=>
   have hq12:=bj hq12
   obtain rfl:b=mm+1:=by omega
   obtain⟨x,hx⟩:=Av (xs:=xs) (i:=mm) oQ
   refine Aa (Ac rfl (Ac rfl (I (.Pb (.t rfl) (.t rfl) oQ oQ) (I (.tr (PEv.eql (.t rfl) (.const _)) (a8 oQ)) (Ai (CW.v rfl (Af (Ac rfl (LW.A rfl (Ar (Aa (Ac rfl (LW.A rfl (Ar (Ap (A9 (σ:=Nat×Nat) (fun s w=>(a≤s.1∧s.1≤s.2∧s.2≤mm)∧(∀q y,a≤q→q<s.1→xs[q]?=some y→Gh (key x) (key y)=false)∧(∀q y,s.2≤q→q<mm→xs[q]?=some y→Gh (key x) (key y)=true)∧(Wx.Sep (A8 51 19 Fact.cells (.slice (some ⟨g,0,none⟩) m cp) (xs)).foot w0 w [A8 51 19 Fact.cells (.slice (some ⟨g,0,none⟩) m cp) (xs)])) (fun s=>[(14,.eq (vi (s.1:Int))),(15,.eq (vi (s.2:Int)))]) ([(0,.eq _),(1,.eq _),(2,.eq _),(3,.eq _),(4,.eq _)]) (fun s=>s.2-s.1) (a,mm) ?_ tQ ?_))))))))))))))))
   ·exact⟨⟨av _,by show a≤mm;omega,av _⟩,fun q y h1 h2=>absurd (show q<a from h2) oQ,fun q y h1 h2=>absurd (show mm≤q from h1) oQ,hS⟩
   rintro⟨i,j⟩ w5 ⟨hij,hL,hR,hS⟩
   dsimp only at hij hL hR hS
   change CW _ _ _ _ _ _ _ ([(14,.eq (vi (i:Int))),(15,.eq (vi (j:Int)))]++_) _
   refine Al (Af (Ac rfl (Ac rfl (I (.l2 rfl rfl) (Ai (CW.b rfl (fun h85=>?_) (fun h85=>?_)))))))
   ·refine Ak (Ab (Ap (Af (Ac rfl (Ac rfl (I (.Fu (.t rfl) (.t rfl) oQ) (I (.val (v':=vu (i+j)) (PEv.conv (k':=.u64) (by rw[lh];rfl) mj (.t rfl)) (Tj oQ)) (I (.val (v':=vu ((i+j)/2)) (PEv.Ww (j:=1) (.t rfl) (.const _)) Qo) (I (.val (v':=vi (((i+j)/2:Nat):Int)) (PEv.conv (k':=.i64) (by rw[mj];rfl) lh (.t rfl)) (Tk oQ)) (LW.A rfl (Ar ?_)))))))))))
    have hlt:i<j:=by simp at h85;omega
    obtain⟨y,hy⟩:=Av (xs:=xs) (i:=(i+j)/2) oQ
    refine Cg kQ kQ rfl rfl (Am (.mv rfl) (Am (.mv rfl) (Am (.mv rfl) (Am (.indexAddr k6 k7 (.t rfl) (.t rfl) oQ) (Am (.lc rfl ((hS.own 0 rfl).at (fun _=>rfl) hx)) (Am (.mv rfl) (Am (.mv rfl) (Am (.indexAddr k6 k7 (.t rfl) (.t rfl) oQ) (Am (.lc rfl ((hS.own 0 rfl).at (fun _=>rfl) hy)) (HW.c (fun a w _ ha=>D0 (.t rfl) (.ct rfl (.cu rfl)) (hen) a ha) rfl rfl (fun w hu=>hcmp w (hS.fr.trans (hu.fr _)) x y) (Am (.lss (.t rfl) (.const _)) (Am (.n1 rfl) (HW.nil ?_)))))))))))))
    intro w6 uw6
    replace hS:=hS.up uw6
    refine Ab (CW.b rfl (fun h103=>?_) (fun h103=>?_))
    ·refine Aa (Ac rfl (I (.ic rfl oQ) (LW.A rfl (LW.nil (Ae (Aq ?_))))))
     exact⟨((i+j)/2+1,j),⟨⟨by show a≤(i+j)/2+1;omega,by show(i+j)/2+1≤j;omega,by show j≤mm;omega⟩,fun q z q1 q2 hz=>Lf (Kr hsA q1 (show q≤(i+j)/2 from Nat.le_of_lt_succ q2) oQ hz hy) (by rw[←Iq];simpa using h103),hR,hS⟩,tQ,by omega⟩
    refine Aa (Ac rfl (LW.A rfl (LW.nil (Ae (Aq ?_)))))
    exact⟨(i,(i+j)/2),⟨⟨by show a≤i;omega,by show i≤(i+j)/2;omega,by show(i+j)/2≤mm;omega⟩,hL,fun q z q1 q2 hz=>Yx (by rw[←Iq];simpa using h103) (Kr hsA oQ (show(i+j)/2≤q from q1) q2 hy hz),hS⟩,tQ,by omega⟩
   refine A7 (Ad (Ad (Au (Ab (Al (Al ?_))))))
   have hij2:i=j:=by simp at h85;omega
   have hzl:(C9 xs a mm).length=mm-a:=Cn oQ
   refine Aa (Ac rfl (LW.A rfl (Ai (Ap (A9 (σ:=Nat) (fun s w=>(i≤s∧s≤mm)∧(Wx.Sep (A8 51 19 Fact.cells (.slice (some ⟨g,0,none⟩) m cp) (xs)).foot w0 w [A8 51 19 Fact.cells (.slice (some ⟨g,0,none⟩) m cp) (Fz xs a (mm+1) (Cs (C9 xs a mm) x (s-a)))])) (fun s=>[(17,.eq (vi (s:Int)))]) ([(0,.eq _),(1,.eq _),(2,.eq _),(3,.eq _),(4,.eq _),(14,.eq _)]) (fun s=>s) mm ?_ tQ ?_)))))
   ·exact⟨⟨by omega,av _⟩,by rw[←hzl,Xc,bF oQ hx hzl,Hx oQ (by omega)];exact hS⟩
   rintro k w7 ⟨hk,hS⟩
   refine Al (Af (Ac rfl (Ac rfl (I (.gtr (.t rfl) (.t rfl)) (Ai (CW.b rfl (fun h110=>?_) (fun h110=>?_)))))))
   ·refine Ak (Ab (Al (Ap ?_)))
    have hki:i<k:=by simp at h110;omega
    obtain⟨y,hy⟩:=Av (xs:=C9 xs a mm) (i:=k-a-1) oQ
    have hrl:(Fz xs a (mm+1) (Cs (C9 xs a mm) x (k-a))).length=m:=by rw[Eh oQ oQ (by rw[E1];omega)];exact hxl
    have hkx:(Fz xs a (mm+1) (Cs (C9 xs a mm) x (k-a)))[k]?=some x:=by have:=bG (xs:=xs) (a:=a) (b:=mm+1) (zs:=C9 xs a mm) (x:=x) (p:=k-a) oQ oQ oQ (by omega);rwa [show a+(k-a)=k by omega]at this
    have hky:(Fz xs a (mm+1) (Cs (C9 xs a mm) x (k-a)))[k-1]?=some y:=by have:=Pk (xs:=xs) (a:=a) (b:=mm+1) (zs:=C9 xs a mm) (x:=x) (p:=k-a) (q:=k-a-1) oQ oQ oQ oQ (by omega);rw[show a+(k-a-1)=k-1 by omega]at this;exact this.trans hy
    refine L4 15 17 [.slice (some ⟨g,0,none⟩) m cp,vi ((k:Nat):Int),.slice (some ⟨g,0,none⟩) m cp,vi ((k:Nat):Int),vi ((k-1:Nat):Int),.slice (some ⟨g,0,none⟩) m cp,vi ((k:Nat):Int),vi ((k-1:Nat):Int),.pointer (some ⟨g,0+(k-1)*19,none⟩),.agg (Fact.cells y),.slice (some ⟨g,0,none⟩) m cp,vi ((k:Nat):Int),.pointer (some ⟨g,0+(k)*19,none⟩),.agg (Fact.cells x),.pointer (some ⟨g,0+(k)*19,none⟩),undef,.pointer (some ⟨g,0+(k-1)*19,none⟩),undef] (fun W=>Wx.Sep (A8 51 19 Fact.cells (.slice (some ⟨g,0,none⟩) m cp) (xs)).foot w0 W [A8 51 19 Fact.cells (.slice (some ⟨g,0,none⟩) m cp) (Fz xs a (mm+1) (Cs (C9 xs a mm) x (k-a)))]) (fun W=>Wx.Sep (A8 51 19 Fact.cells (.slice (some ⟨g,0,none⟩) m cp) (xs)).foot w0 W [A8 51 19 Fact.cells (.slice (some ⟨g,0,none⟩) m cp) ((Fz xs a (mm+1) (Cs (C9 xs a mm) x (k-a))).set (k) y)]) (fun W=>Wx.Sep (A8 51 19 Fact.cells (.slice (some ⟨g,0,none⟩) m cp) (xs)).foot w0 W [A8 51 19 Fact.cells (.slice (some ⟨g,0,none⟩) m cp) (((Fz xs a (mm+1) (Cs (C9 xs a mm) x (k-a))).set (k) y).set (k-1) x)]) kQ rfl kQ kQ kQ kQ kQ kQ (hS.up (Up.drew _)) ?_ _ _ rfl rfl ⟨rfl,rfl⟩ ⟨rfl,rfl⟩ ?_ ?_ ?_
    ·refine aC (.inr ⟨rfl,.inr fun W=>PEv.mv rfl⟩) (aC (.inr ⟨rfl,.inr fun W=>PEv.mv rfl⟩) (aC (.inr ⟨rfl,.inr fun W=>PEv.mv rfl⟩) (aC (.inr ⟨rfl,.inr fun W=>PEv.mv rfl⟩) (aC (.inr ⟨rfl,.inr fun W=>PEv.dec (.t rfl) oQ oQ⟩) (aC (.inr ⟨rfl,.inr fun W=>PEv.mv rfl⟩) (aC (.inr ⟨rfl,.inr fun W=>PEv.mv rfl⟩) (aC (.inr ⟨rfl,.inr fun W=>PEv.dec (.t rfl) oQ oQ⟩) (aC (.inr ⟨rfl,.inr fun W=>PEv.indexAddr k6 k7 (.t rfl) (.t rfl) oQ⟩) (aC (.inr ⟨rfl,.inl ⟨by kernel_rfl,fun W hS=>PEv.lc rfl ((hS.own 0 rfl).at (fun _=>rfl) hky)⟩⟩) (aC (.inr ⟨rfl,.inr fun W=>PEv.mv rfl⟩) (aC (.inr ⟨rfl,.inr fun W=>PEv.mv rfl⟩) (aC (.inr ⟨rfl,.inr fun W=>PEv.indexAddr k6 k7 (.t rfl) (.t rfl) oQ⟩) (aC (.inr ⟨rfl,.inl ⟨by kernel_rfl,fun W hS=>PEv.lc rfl ((hS.own 0 rfl).at (fun _=>rfl) hkx)⟩⟩) (aC (.inr ⟨rfl,.inr fun W=>PEv.indexAddr k6 k7 (.t rfl) (.t rfl) oQ⟩) (aC (.inl (by simp)) (aC (.inr ⟨rfl,.inr fun W=>PEv.indexAddr k6 k7 (.t rfl) (.t rfl) oQ⟩) (aC (.inl (by simp)) ?_)))))))))))))))))
     exact allL.nil
    ·intro W hS
     exact SEv.mono (SEv.G3 (i:=k) (z:=y) k7 (fun _=>rfl) Fact.one (.t rfl) (.t rfl) (hS.own 0 rfl) oQ) (fun _ h=>hS.E5 0 rfl h)
    ·intro W hS
     exact SEv.mono (SEv.G3 (i:=k-1) (z:=x) k7 (fun _=>rfl) Fact.one (.t rfl) (.t rfl) (hS.own 0 rfl) oQ) (fun _ h=>hS.E5 0 rfl h)
    intro w8 hS
    have hS:Wx.Sep (A8 51 19 Fact.cells (.slice (some ⟨g,0,none⟩) m cp) (xs)).foot w0 w8 [A8 51 19 Fact.cells (.slice (some ⟨g,0,none⟩) m cp) (((Fz xs a (mm+1) (Cs (C9 xs a mm) x (k-a))).set (k) y).set (k-1) x)]:=hS
    refine Ae (Ab (Aa (Ac rfl (I (.dec (.t rfl) oQ oQ) (LW.A rfl (LW.nil (Aq ?_)))))))
    exact⟨k-1,⟨⟨by omega,by omega⟩,by have:=bH (xs:=xs) (a:=a) (b:=mm+1) (x:=x) (p:=k-a-1) (y:=y) oQ oQ oQ oQ hy;rw[show k-a-1+1=k-a by omega,show a+(k-a)=k by omega,show a+(k-a-1)=k-1 by omega]at this;rw[show k-1-a=k-a-1 by omega,←this];exact hS⟩,tQ,by omega⟩
   refine A7 (Ad (Ad (Au (Ab (Aj (Ah (Nr rfl ⟨_,rfl,?_⟩)))))))
   have hk2:k=i:=by simp at h110;omega
   subst hk2
   exact⟨rfl,_,rD hx oQ oQ hsA hL (by rw[hij2];exact hR),⟨hS.fr,hS.get 0 rfl,fun _ h=>.inl h⟩⟩
  |false=>
   have hq12:=db hq12
   obtain⟨mid,hmid⟩:∃mid,mid=(a+b)/2:=⟨_,rfl⟩
   refine Aa (Ac rfl (Ac rfl (I (.Pb (.t rfl) (.t rfl) oQ oQ) (I (.fa (PEv.eql (.t rfl) (.const _)) (bg oQ)) (Ai (CW.f rfl (Ak (Ab (Af (Ac rfl (Ac rfl (I (.Fu (.t rfl) (.t rfl) oQ) (I (.val (v':=vu (a+b)) (PEv.conv (k':=.u64) (by rw[lh];rfl) mj (.t rfl)) (Tj oQ)) (I (.val (v':=vu ((a+b)/2)) (PEv.Ww (j:=1) (.t rfl) (.const _)) Qo) (I (.val (v':=vi ((mid:Nat):Int)) (PEv.conv (k':=.i64) (by rw[mj];rfl) lh (.t rfl)) (by rw[hmid];exact Tk oQ)) (LW.A rfl (Ar (Aa (Ac rfl (Ac rfl (I (.Fu (.t rfl) (.t rfl) oQ) (LW.A rfl (Ar (Aa (J (J (Ai (O6 (fun a1 W=>∃s0 r0:Nat,Ag 220 [] ([(0,.eq (.slice (some ⟨g,0,none⟩) m cp)),(1,.eq (vi (a:Int))),(2,.eq (vi (mm:Int))),(3,.eq (vi (b:Int))),(4,.eq (.func (.func cf) #[] lb)),(18,.eq (vi (mid:Int))),(19,.eq (vi ((mid+mm:Nat):Int))),(20,.eq (vi (s0:Int))),(21,.eq (vi (r0:Int)))]) a1 W∧((s0=mid+mm-b∧r0=mid∧mid<mm)∨(s0=a∧r0=mm∧mm≤mid))∧Wx.Sep (A8 51 19 Fact.cells (.slice (some ⟨g,0,none⟩) m cp) (xs)).foot w0 W [A8 51 19 Fact.cells (.slice (some ⟨g,0,none⟩) m cp) (xs)]) ?_ ?_))))))))))))))))))))))))))))
   ·skip
    refine Af (Ac rfl (Ac rfl (I (.gtr (.t rfl) (.t rfl)) (Ai (CW.b rfl (fun h140=>?_) (fun h140=>?_))))))
    ·replace h140:=dQ h140
     refine Af (Ac rfl (Ac rfl (I (.Pb (.t rfl) (.t rfl) oQ oQ) (LW.A rfl (Ai (Aa (Ac rfl (LW.A rfl (LW.nil ?_)))))))))
     exact fun a ha=>⟨_,_,ha.sub tQ,(by exact .inl ⟨rfl,rfl,by omega⟩),hS⟩
    replace h140:=dQ h140
    refine Af (Ac rfl (LW.A rfl (Ai (Aa (Ac rfl (LW.A rfl (LW.nil ?_)))))))
    exact fun a ha=>⟨_,_,ha.sub tQ,(by exact .inr ⟨rfl,rfl,by omega⟩),hS⟩
   rintro a1 w9 ⟨s0,r0,ha,hsr,hS⟩
   revert a1
   show CW none _ _ _ _ _ _ _ _
   refine Af (Ac rfl (I (.dec (.t rfl) oQ oQ) (LW.A rfl (Ar (Ap (A9 (σ:=Nat×Nat) (fun s w=>(s0≤s.1∧s.1≤s.2∧s.2≤r0)∧(s.1=s0∨∃u v,xs[mid+mm-s.1]?=some u∧xs[s.1-1]?=some v∧Gh (key u) (key v)=false)∧(s.2=r0∨∃u v,xs[mid+mm-1-s.2]?=some u∧xs[s.2]?=some v∧Gh (key u) (key v)=true)∧(Wx.Sep (A8 51 19 Fact.cells (.slice (some ⟨g,0,none⟩) m cp) (xs)).foot w0 w [A8 51 19 Fact.cells (.slice (some ⟨g,0,none⟩) m cp) (xs)])) (fun s=>[(20,.eq (vi (s.1:Int))),(21,.eq (vi (s.2:Int)))]) ([(0,.eq _),(1,.eq _),(2,.eq _),(3,.eq _),(4,.eq _),(18,.eq _),(19,.eq _),(22,.eq _)]) (fun s=>s.2-s.1) (s0,r0) ?_ tQ ?_))))))
   ·exact⟨⟨av _,by show s0≤r0;omega,av _⟩,.inl rfl,.inl rfl,hS⟩
   rintro⟨s,r⟩ w10 ⟨hq,hs,hr,hS⟩
   dsimp only at hq hs hr hS
   change CW _ _ _ _ _ _ _ ([(20,.eq (vi (s:Int))),(21,.eq (vi (r:Int)))]++_) _
   refine Al (Af (Ac rfl (Ac rfl (I (.l2 rfl rfl) (Ai (CW.b rfl (fun h151=>?_) (fun h151=>?_)))))))
   ·replace h151:=dQ h151
    refine Ak (Ab (Ap (Af (Ac rfl (Ac rfl (I (.Fu (.t rfl) (.t rfl) oQ) (I (.val (v':=vu (s+r)) (PEv.conv (k':=.u64) (by rw[lh];rfl) mj (.t rfl)) (Tj oQ)) (I (.val (v':=vu ((s+r)/2)) (PEv.Ww (j:=1) (.t rfl) (.const _)) Qo) (I (.val (v':=vi (((s+r)/2:Nat):Int)) (PEv.conv (k':=.i64) (by rw[mj];rfl) lh (.t rfl)) (Tk oQ)) (LW.A rfl (Ar ?_)))))))))))
    have hlt:s<r:=by simp at h151;omega
    obtain⟨u,hu_⟩:=Av (xs:=xs) (i:=mid+mm-1-(s+r)/2) oQ
    obtain⟨v,hv_⟩:=Av (xs:=xs) (i:=(s+r)/2) oQ
    refine Cg kQ kQ rfl rfl (Am (.mv rfl) (Am (.mv rfl) (Am (.mv rfl) (Am (.mv rfl) (Am (.Pb (.t rfl) (.t rfl) oQ oQ) (Am (.indexAddr k6 k7 (.t rfl) (.t rfl) oQ) (Am (.lc rfl ((hS.own 0 rfl).at (fun _=>rfl) hu_)) (Am (.mv rfl) (Am (.mv rfl) (Am (.indexAddr k6 k7 (.t rfl) (.t rfl) oQ) (Am (.lc rfl ((hS.own 0 rfl).at (fun _=>rfl) hv_)) (HW.c (fun a w _ ha=>D0 (.t rfl) (.ct rfl (.cu rfl)) (hen) a ha) rfl rfl (fun w hu=>hcmp w (hS.fr.trans (hu.fr _)) u v) (Am (.lss (.t rfl) (.const _)) (Am (.n1 rfl) (HW.nil ?_)))))))))))))))
    intro w11 uw11
    replace hS:=hS.up uw11
    refine Ab (CW.b rfl (fun h171=>?_) (fun h171=>?_))
    ·replace h171:=dQ h171
     refine Aa (Ac rfl (I (.ic rfl oQ) (LW.A rfl (LW.nil (Ae (Aq ?_))))))
     exact⟨((s+r)/2+1,r),⟨⟨by show s0≤(s+r)/2+1;omega,by show(s+r)/2+1≤r;omega,by show r≤r0;omega⟩,.inr ⟨u,v,by show xs[mid+mm-((s+r)/2+1)]?=some u;rw[show mid+mm-((s+r)/2+1)=mid+mm-1-(s+r)/2 by omega];exact hu_,hv_,by rw[←Iq];simpa using h171⟩,hr,hS⟩,tQ,by omega⟩
    replace h171:=dQ h171
    refine Aa (Ac rfl (LW.A rfl (LW.nil (Ae (Aq ?_)))))
    exact⟨(s,(s+r)/2),⟨⟨by show s0≤s;omega,by show s≤(s+r)/2;omega,by show(s+r)/2≤r0;omega⟩,hs,.inr ⟨u,v,hu_,hv_,by rw[←Iq];simpa using h171⟩,hS⟩,tQ,by omega⟩
   replace h151:=dQ h151
   refine A7 (Ad (Ad (Au (Ab (Al ?_)))))
   have hsr2:s=r:=by simp at h151;omega
   obtain⟨e,he⟩:∃e,e=mid+mm-s:=⟨_,rfl⟩
   have hsm:s≤mm:=by omega
   have hme:mm≤e:=by omega
   have has:a≤s:=by omega
   have heb:e≤b:=by omega
   have hmd:mid=s+(e-mm):=by omega
   have hrl:(Lb xs s mm e).length=m:=by rw[Gd hsm hme (by omega)];exact hxl
   refine Aa (Ac rfl (Ac rfl (I (.val (v':=vi (e:Int)) (PEv.Pb (.t rfl) (.t rfl) oQ oQ) (by rw[he])) (LW.A rfl (Ai (O6 (fun a1 W=>Ag 220 [] ([(0,.eq (.slice (some ⟨g,0,none⟩) m cp)),(1,.eq (vi (a:Int))),(3,.eq (vi (b:Int))),(4,.eq (.func (.func cf) #[] lb)),(18,.eq (vi (mid:Int))),(20,.eq (vi (s:Int))),(24,.eq (vi (e:Int)))]) a1 W∧Wx.Sep (A8 51 19 Fact.cells (.slice (some ⟨g,0,none⟩) m cp) (xs)).foot w0 W [A8 51 19 Fact.cells (.slice (some ⟨g,0,none⟩) m cp) (Lb xs s mm e)]) ?_ ?_))))))
   ·skip
    refine Af (Ac rfl (Ac rfl (I (.l2 rfl rfl) (Ac rfl (Dk rfl rfl (Dk rfl rfl (LW.gr rfl (fun hc=>PEv.lss vQ vQ) (I (.pa rfl (fun hp=>.cond rfl (by rw[hp];rfl))) (Ai (CW.b rfl (fun h185=>?_) (fun h185=>?_)))))))))))
    ·refine Aa (Ac rfl (Ac rfl (Ac rfl (Ac rfl (Ac rfl (A3 (eC (.ct rfl (.ct rfl (.ct rfl (.ct rfl (.cu rfl))))) (JN)) rfl (fY s mm e _ g m cp xs _ (hS.own 0 rfl) h63 (by have:=N3 h185;omega) (by have:=N3 h185;omega) oQ) ?_))))))
     rintro _ w12 ⟨rfl,uw12⟩
     replace hS:=hS.E5 0 rfl uw12
     change Wx.Sep _ _ _ [_]at hS
     refine LW.nil ?_
     exact fun a ha=>⟨ha.sub tQ,(by exact hS)⟩
    refine Ak ?_
    exact fun a ha=>⟨ha.sub tQ,(by(rw[rE (fX h185) hsm hme (by omega)];exact hS))⟩
   rintro a1 w13 ⟨ha,hS⟩
   revert a1
   show CW none _ _ _ _ _ _ _ _
   refine O6 (fun a1 W=>Ag 220 [] ([(0,.eq (.slice (some ⟨g,0,none⟩) m cp)),(3,.eq (vi (b:Int))),(4,.eq (.func (.func cf) #[] lb)),(18,.eq (vi (mid:Int))),(24,.eq (vi (e:Int)))]) a1 W∧∃X,StS key (C9 (Lb xs s mm e) a mid) X∧Wx.Sep (A8 51 19 Fact.cells (.slice (some ⟨g,0,none⟩) m cp) (xs)).foot w0 W [A8 51 19 Fact.cells (.slice (some ⟨g,0,none⟩) m cp) (Fz (Lb xs s mm e) a mid X)]) ?_ ?_
   ·skip
    refine Af (Ac rfl (Ac rfl (I (.l2 rfl rfl) (Ac rfl (Dk rfl rfl (Dk rfl rfl (LW.gr rfl (fun hc=>PEv.lss vQ vQ) (I (.pa rfl (fun hp=>.cond rfl (by rw[hp];rfl))) (Ai (CW.b rfl (fun h199=>?_) (fun h199=>?_)))))))))))
    ·refine Aa (Ac rfl (Ac rfl (Ac rfl (Ac rfl (Ac rfl (A3 (eC (.ct rfl (.ct rfl (.ct rfl (.ct rfl (.cu rfl))))) (jE)) rfl (ih a s mid (Lb xs s mm e) _ oQ (hS.own 0 rfl) (fun W hF x y=>hcmp W (hS.fr.trans hF) x y) (by have:=N3 h199;omega) (by have:=N3 h199;omega) oQ (kJ hsA hsB oQ oQ oQ oQ oQ).1 (kJ hsA hsB oQ oQ oQ oQ oQ).2) ?_))))))
     rintro _ w14 ⟨rfl,X,hX,uw14⟩
     replace hS:=hS.E5 0 rfl uw14
     change Wx.Sep _ _ _ [_]at hS
     refine LW.nil ?_
     exact fun a ha=>⟨ha.sub tQ,(by exact⟨X,hX,hS⟩)⟩
    refine Ak ?_
    exact fun a ha=>⟨ha.sub tQ,(by exact⟨_,StS.refl (mR hsA hsB has hsm hme heb oQ hmd (fX h199)),by rw[Hx oQ (by omega)];exact hS⟩)⟩
   rintro a1 w15 ⟨ha,X,hX,hS⟩
   revert a1
   show CW none _ _ _ _ _ _ _ _
   refine Al ?_
   have hXl:X.length=mid-a:=by rw[hX.same.length,Cn (by omega)]
   have hrl2:(Fz (Lb xs s mm e) a mid X).length=m:=by rw[Eh oQ oQ hXl];exact hrl
   refine Aa (Ac rfl (Ac rfl (I (.l2 rfl rfl) (Ac rfl (Dk rfl rfl (Dk rfl rfl (LW.gr rfl (fun hc=>PEv.lss vQ vQ) (I (.pa rfl (fun hp=>.cond rfl (by rw[hp];rfl))) (Ai (CW.b rfl (fun h213=>?_) (fun h213=>?_)))))))))))
   ·refine Aa (Ac rfl (Ac rfl (Ac rfl (Ac rfl (Ac rfl (A3 (eC (.ct rfl (.ct rfl (.ct rfl (.ct rfl (.cu rfl))))) (jE)) rfl (ih mid e b (Fz (Lb xs s mm e) a mid X) _ oQ (hS.own 0 rfl) (fun W hF x y=>hcmp W (hS.fr.trans hF) x y) (by have:=N3 h213;omega) (by have:=N3 h213;omega) oQ (kK hsA hsB oQ oQ oQ oQ oQ oQ hXl).1 (kK hsA hsB oQ oQ oQ oQ oQ oQ hXl).2) ?_))))))
    rintro _ w16 ⟨rfl,Y,hY,uw16⟩
    replace hS:=hS.E5 0 rfl uw16
    change Wx.Sep _ _ _ [_]at hS
    refine LW.nil (Di rfl ⟨_,rfl,?_⟩)
    obtain⟨Y,hY,hS2⟩:∃Y,StS key (C9 (Fz (Lb xs s mm e) a mid X) mid b) Y∧Wx.Sep (A8 51 19 Fact.cells (.slice (some ⟨g,0,none⟩) m cp) (xs)).foot w0 w16 [A8 51 19 Fact.cells (.slice (some ⟨g,0,none⟩) m cp) (Fz (Fz (Lb xs s mm e) a mid X) mid b Y)]:=by exact⟨Y,hY,hS⟩
    have hd:=bL has hsm hme heb oQ hmd hsA hsB (rB hsA hsB hsm hme oQ (hs.elim (fun h=>hsr.elim (fun q=>.inr (.inl oQ)) (fun q=>.inl oQ)) (fun⟨u,v,e1,e2,e3⟩=>.inr (.inr ⟨u,v,by rw[he];exact e1,e2,e3⟩)))) (rC hsA hsB has heb oQ oQ (hr.elim (fun h=>hsr.elim (fun q=>.inr (.inl oQ)) (fun q=>.inl oQ)) (fun⟨u,v,e1,e2,e3⟩=>.inr (.inr ⟨u,v,by rw[he,hsr2,show mid+mm-r-1=mid+mm-1-r by omega];exact e1,by rw[hsr2];exact e2,e3⟩)))) hX hY
    rw[hd.2]at hS2
    exact⟨rfl,X++Y,hd.1,⟨hS2.fr,hS2.get 0 rfl,fun _ h=>.inl h⟩⟩
   refine Ak (Di rfl ⟨_,rfl,?_⟩)
   obtain⟨Y,hY,hS2⟩:∃Y,StS key (C9 (Fz (Lb xs s mm e) a mid X) mid b) Y∧Wx.Sep (A8 51 19 Fact.cells (.slice (some ⟨g,0,none⟩) m cp) (xs)).foot w0 w15 [A8 51 19 Fact.cells (.slice (some ⟨g,0,none⟩) m cp) (Fz (Fz (Lb xs s mm e) a mid X) mid b Y)]:=by exact⟨_,StS.refl (mS hsA hsB has hsm hme heb oQ hmd hXl (fX h213)),by rw[Hx oQ (by omega)];exact hS⟩
   have hd:=bL has hsm hme heb oQ hmd hsA hsB (rB hsA hsB hsm hme oQ (hs.elim (fun h=>hsr.elim (fun q=>.inr (.inl oQ)) (fun q=>.inl oQ)) (fun⟨u,v,e1,e2,e3⟩=>.inr (.inr ⟨u,v,by rw[he];exact e1,e2,e3⟩)))) (rC hsA hsB has heb oQ oQ (hr.elim (fun h=>hsr.elim (fun q=>.inr (.inl oQ)) (fun q=>.inl oQ)) (fun⟨u,v,e1,e2,e3⟩=>.inr (.inr ⟨u,v,by rw[he,hsr2,show mid+mm-r-1=mid+mm-1-r by omega];exact e1,by rw[hsr2];exact e2,e3⟩)))) hX hY
   rw[hd.2]at hS2
   exact⟨rfl,X++Y,hd.1,⟨hS2.fr,hS2.get 0 rfl,fun _ h=>.inl h⟩⟩
set_option maxHeartbeats 2000000 in
theorem fZ(cf:Nat)(lb:Array Go.Value)(key:Fact→K2)(hen:∀args w,(callFunc cf args).run prog w=.ok (.enter cf args) w)(g m cp:Nat)(xs:List Fact)(w:World)(ho:OwnS w 0 51 19 Fact.cells (.slice (some ⟨g,0,none⟩) m cp) xs)(h63:m≤1000000000)(hcmp:∀W,Fr (A8 51 19 Fact.cells (.slice (some ⟨g,0,none⟩) m cp) (xs)).foot w W→∀x y,Ret prog cf (#[.agg (Fact.cells x),.agg (Fact.cells y)]++lb) W fun r W'=>r=vi (fW (key x) (key y))∧Up W W'):Ret prog 170 #[.slice (some ⟨g,0,none⟩) m cp,vi (m:Int),.func (.func cf) #[] lb] w fun r w'=>r=.tuple #[]∧∃zs,StS key xs zs∧Stp (A8 51 19 Fact.cells (.slice (some ⟨g,0,none⟩) m cp) (xs)) (A8 51 19 Fact.cells (.slice (some ⟨g,0,none⟩) m cp) (zs)) w w':=by
 obtain⟨w0,rfl,_⟩:=W0 w
 have hxl:=ho.len
 have hS:Wx.Sep (A8 51 19 Fact.cells (.slice (some ⟨g,0,none⟩) m cp) (xs)).foot w0 w0 [A8 51 19 Fact.cells (.slice (some ⟨g,0,none⟩) m cp) (xs)]:=Sep.cons ho (fun _ h=>h) (Sep.start _ _) (by simp)
 refine cT 63 func170 rfl (Af (I (.val (v':=vi ((20:Nat):Int)) (PEv.assign (.const _)) rfl) (Ar (Aa (Ac rfl (J (LW.A rfl (Ar (Ap (A9 (σ:=Nat×List Fact) (fun s w=>(s.1≤m)∧(s.2.length=m)∧(Ins key s.2 20 s.1)∧(sameF key xs s.2)∧(Wx.Sep (A8 51 19 Fact.cells (.slice (some ⟨g,0,none⟩) m cp) (xs)).foot w0 w [A8 51 19 Fact.cells (.slice (some ⟨g,0,none⟩) m cp) (s.2)])) (fun s=>[(7,.eq (vi (s.1:Int))),(8,.eq (vi ((s.1+20:Nat):Int)))]) ([(0,.eq _),(1,.eq _),(2,.eq _),(6,.eq _)]) (fun s=>m-s.1) (0,xs) ?_ tQ ?_))))))))))
 ·exact⟨ao _,hxl,Ins.zero xs 20 cQ,sameF.refl xs,hS⟩
 rintro⟨a,ys⟩ w1 ⟨ha,hyl,hI,hsf,hS⟩
 dsimp only at ha hyl hI hsf hS
 change CW _ _ _ _ _ _ _ ([(7,.eq (vi (a:Int))),(8,.eq (vi ((a+20:Nat):Int)))]++_) _
 refine Al (Af (Ac rfl (Ac rfl (I (.leq (.t rfl) (.t rfl)) (Ai (CW.b rfl (fun h13=>?_) (fun h13=>?_)))))))
 ·refine Ak (Ab (Ap (Al ?_)))
  have hal:a+20≤m:=by simp at h13;omega
  refine Aa (Ac rfl (Ac rfl (Ac rfl (Ac rfl (A3 (eC (.ct rfl (.ct rfl (.ct rfl (.cu rfl)))) (pT)) rfl (Oy a (a+20) cf lb key hen g m cp ys _ (hS.own 0 rfl) h63 (fun W hF x y=>hcmp W (hS.fr.trans hF) x y) oQ oQ) ?_)))))
  rintro _ w2 ⟨rfl,zs,hz,uw2⟩
  replace hS:=hS.E5 0 rfl uw2
  refine Ar (Aa (Ac rfl (LW.A rfl (Ai (Aa (Ac rfl (Ac rfl (I (.Fu (.t rfl) (.t rfl) oQ) (LW.A rfl (LW.nil (Ae (Aq ?_))))))))))))
  exact⟨(a+20,Fz ys a (a+20) zs),⟨by show a+20≤m;omega,by show(Fz ys a (a+20) zs).length=m;rw[Eh oQ oQ (by rw[hz.same.length,Cn (by omega)])];exact hyl,hI.step cQ oQ hz,hsf.step oQ oQ hz,hS⟩,tQ,by show m-(a+20)<m-a;omega⟩
 refine A7 (Ad (Ad (Au (Ab (Al ?_)))))
 have hal:m<a+20:=by simp at h13;omega
 refine Aa (Ac rfl (Ac rfl (Ac rfl (Ac rfl (A3 (eC (.ct rfl (.ct rfl (.ct rfl (.cu rfl)))) (pT)) rfl (Oy a m cf lb key hen g m cp ys _ (hS.own 0 rfl) h63 (fun W hF x y=>hcmp W (hS.fr.trans hF) x y) oQ oQ) ?_)))))
 rintro _ w3 ⟨rfl,zs,hz,uw3⟩
 replace hS:=hS.E5 0 rfl uw3
 refine Ai (Ap (A9 (σ:=Nat×List Fact) (fun s w=>(0<s.1)∧(s.2.length=m)∧(Bks key s.2 s.1)∧(sameF key xs s.2)∧(Wx.Sep (A8 51 19 Fact.cells (.slice (some ⟨g,0,none⟩) m cp) (xs)).foot w0 w [A8 51 19 Fact.cells (.slice (some ⟨g,0,none⟩) m cp) (s.2)])) (fun s=>[(6,.eq (vi (s.1:Int)))]) ([(0,.eq _),(1,.eq _),(2,.eq _)]) (fun s=>m-s.1) (20,Fz ys a m zs) ?_ tQ ?_))
 ·exact⟨by show 0<20;omega,by show(Fz ys a m zs).length=m;rw[Eh oQ oQ (by rw[hz.same.length,Cn (by omega)])];exact hyl,by have:=hI.last (zs:=zs) oQ oQ (by rw[hyl];exact hz);rw[hyl]at this;exact this,hsf.step oQ oQ hz,hS⟩
 rintro⟨B,ys⟩ w4 ⟨hB,hyl,hI,hsf,hS⟩
 dsimp only at hB hyl hI hsf hS
 change CW _ _ _ _ _ _ _ ([(6,.eq (vi (B:Int)))]++_) _
 refine Al (Af (Ac rfl (Ac rfl (I (.l2 rfl rfl) (Ai (CW.b rfl (fun h30=>?_) (fun h30=>?_)))))))
 ·refine Ak (Ab (Ap (Al ?_)))
  have hBm:B<m:=by simp at h30;omega
  refine Aa (Ac rfl (I (.val (v':=vi ((2*B:Nat):Int)) (PEv.F4 (.const _) (.t rfl)) (Um oQ)) (J (LW.A rfl (Ar (Ap (A9 (σ:=Nat×List Fact) (fun s w=>(s.1≤m)∧(s.2.length=m)∧(Mrg key s.2 B s.1)∧(sameF key xs s.2)∧(Wx.Sep (A8 51 19 Fact.cells (.slice (some ⟨g,0,none⟩) m cp) (xs)).foot w0 w [A8 51 19 Fact.cells (.slice (some ⟨g,0,none⟩) m cp) (s.2)])) (fun s=>[(7,.eq (vi (s.1:Int))),(8,.eq (vi ((2*B+s.1:Nat):Int)))]) ([(0,.eq _),(1,.eq _),(2,.eq _),(6,.eq _)]) (fun s=>m-s.1) (0,ys) ?_ tQ ?_)))))))
  ·exact⟨ao _,hyl,Mrg.start hB hI,hsf,hS⟩
  rintro⟨a,ys⟩ w5 ⟨ha,hyl,hM,hsf,hS⟩
  dsimp only at ha hyl hM hsf hS
  change CW _ _ _ _ _ _ _ ([(7,.eq (vi (a:Int))),(8,.eq (vi ((2*B+a:Nat):Int)))]++_) _
  refine Al (Af (Ac rfl (Ac rfl (I (.leq (.t rfl) (.t rfl)) (Ai (CW.b rfl (fun h35=>?_) (fun h35=>?_)))))))
  ·refine Ak (Ab (Ap (Al ?_)))
   have hal:2*B+a≤m:=by simp at h35;omega
   refine Aa (Ac rfl (Ac rfl (Ac rfl (Ac rfl (I (.Fu (.t rfl) (.t rfl) oQ) (Ac rfl (Ac rfl (A3 (eC (.ct rfl (.ct rfl (.ct rfl (.ct rfl (.cu rfl))))) (jE)) rfl (Qp cf lb key hen g m cp h63 m a (a+B) (2*B+a) ys _ oQ (hS.own 0 rfl) (fun W hF x y=>hcmp W (hS.fr.trans hF) x y) oQ oQ oQ (hM.pre oQ).1 (hM.pre oQ).2) ?_))))))))
   rintro _ w6 ⟨rfl,zs,hz,uw6⟩
   replace hS:=hS.E5 0 rfl uw6
   refine Ar (Aa (Ac rfl (LW.A rfl (Ai (Aa (Ac rfl (Ac rfl (I (.val (v':=vi ((2*B:Nat):Int)) (PEv.F4 (.const _) (.t rfl)) (Um oQ)) (I (.val (v':=vi ((2*B+(2*B+a):Nat):Int)) (PEv.Fu (.t rfl) (.t rfl) oQ) (DO oQ)) (LW.A rfl (LW.nil (Ae (Aq ?_)))))))))))))
   exact⟨(2*B+a,Fz ys a (2*B+a) zs),⟨by show 2*B+a≤m;omega,by show(Fz ys a (2*B+a) zs).length=m;rw[Eh oQ oQ (by rw[hz.same.length,Cn (by omega)])];exact hyl,hM.step hB oQ hz,hsf.step oQ oQ hz,hS⟩,tQ,by show m-(2*B+a)<m-a;omega⟩
  refine A7 (Ad (Ad (Au (Ab (Al (Al ?_))))))
  have hal:m<2*B+a:=by simp at h35;omega
  refine Aa (Ac rfl (Ac rfl (I (.Fu (.t rfl) (.t rfl) oQ) (LW.A rfl (Ar (Aa (Ac rfl (Ac rfl (I (.l2 rfl rfl) (Ai (CW.b rfl (fun h54=>?_) (fun h54=>?_))))))))))))
  ·have ham:a+B<m:=by simp at h54;omega
   refine Aa (Ac rfl (Ac rfl (Ac rfl (Ac rfl (Ac rfl (A3 (eC (.ct rfl (.ct rfl (.ct rfl (.ct rfl (.cu rfl))))) (jE)) rfl (Qp cf lb key hen g m cp h63 m a (a+B) m ys _ oQ (hS.own 0 rfl) (fun W hF x y=>hcmp W (hS.fr.trans hF) x y) oQ oQ (av _) (hM.KF oQ oQ).1 (by have:=(hM.KF oQ oQ).2;rw[hyl]at this;exact this)) ?_))))))
   rintro _ w7 ⟨rfl,zs,hz,uw7⟩
   replace hS:=hS.E5 0 rfl uw7
   refine Ai (Aa (Ac rfl (I (.val (v':=vi ((2*B:Nat):Int)) (PEv.F4 (.t rfl) (.const _)) (Xf oQ)) (LW.A rfl (LW.nil (Ae (Aq ?_)))))))
   exact⟨(2*B,Fz ys a m zs),⟨by show 0<2*B;omega,by show(Fz ys a m zs).length=m;rw[Eh oQ oQ (by rw[hz.same.length,Cn (by omega)])];exact hyl,by have:=hM.last (zs:=zs) oQ oQ (by rw[hyl];exact hz);rw[hyl]at this;exact this,hsf.step oQ oQ hz,hS⟩,tQ,by show m-2*B<m-B;omega⟩
  have ham:¬a+B<m:=by simp at h54;omega
  refine Ak (Ab (Aa (Ac rfl (I (.val (v':=vi ((2*B:Nat):Int)) (PEv.F4 (.t rfl) (.const _)) (Xf oQ)) (LW.A rfl (LW.nil (Ae (Aq ?_))))))))
  exact⟨(2*B,ys),⟨by show 0<2*B;omega,hyl,hM.done oQ oQ oQ,hsf,hS⟩,tQ,by show m-2*B<m-B;omega⟩
 refine A7 (Ad (Ad (Au (Di rfl ⟨_,rfl,?_⟩))))
 exact⟨rfl,ys,hI.all (by simp at h30;omega) hsf,⟨hS.fr,hS.get 0 rfl,fun _ h=>.inl h⟩⟩
theorem Un(cf:Nat)(lb:Array Go.Value)(key:Fact→K2)(hen:∀args w,(callFunc cf args).run prog w=.ok (.enter cf args) w)(g m cp:Nat)(xs:List Fact)(w:World)(ho:OwnS w 0 51 19 Fact.cells (.slice (some ⟨g,0,none⟩) m cp) xs)(h63:m≤1000000000)(hcmp:∀W,Fr (A8 51 19 Fact.cells (.slice (some ⟨g,0,none⟩) m cp) (xs)).foot w W→∀x y,Ret prog cf (#[.agg (Fact.cells x),.agg (Fact.cells y)]++lb) W fun r W'=>r=vi (fW (key x) (key y))∧Up W W'):Ret prog 120 #[.slice (some ⟨g,0,none⟩) m cp,.func (.func cf) #[] lb] w fun r w'=>r=.tuple #[]∧∃zs,StS key xs zs∧Stp (A8 51 19 Fact.cells (.slice (some ⟨g,0,none⟩) m cp) (xs)) (A8 51 19 Fact.cells (.slice (some ⟨g,0,none⟩) m cp) (zs)) w w':=by
 obtain⟨w0,rfl,_⟩:=W0 w
 have hS:Wx.Sep (A8 51 19 Fact.cells (.slice (some ⟨g,0,none⟩) m cp) (xs)).foot w0 w0 [A8 51 19 Fact.cells (.slice (some ⟨g,0,none⟩) m cp) (xs)]:=Sep.cons ho (fun _ h=>h) (Sep.start _ _) (by simp)
 refine cT 9 func120 rfl (Aa (Ac rfl (Ac rfl (I (.Df k6 (.t rfl)) (Ac rfl (A3 (eC (.ct rfl (.ct rfl (.cu rfl))) (BG)) rfl (fZ cf lb key hen g m cp xs _ (hS.own 0 rfl) h63 (fun W hF x y=>hcmp W (hS.fr.trans hF) x y)) ?_))))))
 rintro _ w1 ⟨rfl,zs,hz,uw1⟩
 replace hS:=hS.E5 0 rfl uw1
 refine LW.nil (Di rfl ⟨_,rfl,?_⟩)
 exact⟨rfl,zs,hz,⟨hS.fr,hS.get 0 rfl,fun _ h=>.inl h⟩⟩
theorem Wf(fv:Go.Value)(w:World):Ret prog 209 #[.slice none 0 0,vi 0,vi 0,fv] w fun r w'=>r=.tuple #[]∧Up w w':=by
 have hW:=Up.refl w
 obtain⟨w0,rfl,_⟩:=W0 w
 refine cT 53 func209 rfl (Af (Ac rfl (I (.val (v':=vi 1) (PEv.add (.t rfl) (.const _) oQ oQ) rfl) (LW.A rfl (Ai (Ap (A9 (σ:=Unit) (fun s w=>(True)∧(Up w0 w)) (fun s=>[(8,.eq (vi 1))]) ([(0,.eq _),(1,.eq _),(2,.eq _),(3,.eq _)]) (fun s=>0) () ?_ tQ ?_)))))))
 ·exact⟨trivial,hW⟩
 rintro _ w1 ⟨ht,hW⟩
 refine Al (Af (Ac rfl (Ac rfl (I (.fa (PEv.l2 rfl rfl) cQ) (Ai (CW.f rfl (A7 (Ad (Ad (Au (Di rfl ⟨_,rfl,?_⟩)))))))))))
 exact⟨rfl,hW⟩
theorem gA(fv:Go.Value)(w:World):Ret prog 170 #[.slice none 0 0,vi 0,fv] w fun r w'=>r=.tuple #[]∧Up w w':=by
 have hW:=Up.refl w
 obtain⟨w0,rfl,_⟩:=W0 w
 refine cT 63 func170 rfl (Af (J (Ar (Aa (Ac rfl (J (LW.A rfl (Ar (Ap (A9 (σ:=Unit) (fun s w=>(True)∧(Up w0 w)) (fun s=>[(7,.eq (vi 0)),(8,.eq (vi 20))]) ([(0,.eq _),(1,.eq _),(2,.eq _),(6,.eq _)]) (fun s=>0) () ?_ tQ ?_))))))))))
 ·exact⟨trivial,hW⟩
 rintro _ w1 ⟨ht,hW⟩
 refine Al (Af (Ac rfl (Ac rfl (I (.fa (PEv.leq (.t rfl) (.t rfl)) cQ) (Ai (CW.f rfl (A7 (Ad (Ad (Au (Ab (Af (Ac rfl (Ac rfl (Ac rfl (Ac rfl (A3 (eC (.ct rfl (.ct rfl (.ct rfl (.cu rfl)))) (pT)) rfl (Wf _ _) ?_)))))))))))))))))
 rintro _ w2 ⟨rfl,uw2⟩
 replace hW:=hW.up uw2
 refine Ai (Ap (A9 (σ:=Unit) (fun s w=>(True)∧(Up w0 w)) (fun s=>[(6,.eq (vi 20))]) ([(0,.eq _),(1,.eq _),(2,.eq _)]) (fun s=>0) () ?_ tQ ?_))
 ·exact⟨trivial,hW⟩
 rintro _ w3 ⟨ht,hW⟩
 refine Al (Af (Ac rfl (Ac rfl (I (.fa (PEv.l2 rfl rfl) cQ) (Ai (CW.f rfl (A7 (Ad (Ad (Au (Di rfl ⟨_,rfl,?_⟩)))))))))))
 exact⟨rfl,hW⟩
theorem Uo(fv:Go.Value)(w:World):Ret prog 120 #[.slice none 0 0,fv] w fun r w'=>r=.tuple #[]∧Up w w':=by
 have hW:=Up.refl w
 obtain⟨w0,rfl,_⟩:=W0 w
 refine cT 9 func120 rfl (Aa (Ac rfl (Ac rfl (I (.Df k6 (.t rfl)) (Ac rfl (A3 (eC (.ct rfl (.ct rfl (.cu rfl))) (BG)) rfl (gA _ _) ?_))))))
 rintro _ w1 ⟨rfl,uw1⟩
 replace hW:=hW.up uw1
 refine LW.nil (Di rfl ⟨_,rfl,?_⟩)
 exact⟨rfl,hW⟩
theorem gB(of:Nat)(w:World):Ret prog 54 #[.slice none 0 0,.func (.func of) #[] #[]] w fun r w'=>r=.tuple #[]∧Up w w':=by
 have hW:=Up.refl w
 obtain⟨w0,rfl,_⟩:=W0 w
 refine cT 7 func54 rfl (Af (Ao (.Ro (.t rfl) rfl) rfl ?_))
 rintro _ w1 ⟨B3,rfl,NB3⟩
 replace hW:=hW.up NB3.up
 have hB3:=NB3.blk
 refine Ai (Aa (Ac rfl (I (.makeFunc (.cu rfl)) (A3 (eC (.u rfl rfl) (AY)) rfl (Uo _ _) ?_))))
 rintro _ w2 ⟨rfl,uw2⟩
 replace hW:=hW.up uw2
 replace hB3:=hB3.up uw2
 refine LW.nil (Di rfl ⟨_,rfl,?_⟩)
 exact⟨rfl,hW⟩
theorem bP(of:Nat)(key:Fact→K2)(hen:∀args w,(callFunc of args).run prog w=.ok (.enter of args) w)(hord:∀W x,Ret prog of #[.agg x.cells] W fun r W'=>r=.agg #[vi (key x).1,vi (key x).2]∧Up W W')(g m cp:Nat)(xs:List Fact)(w:World)(ho:OwnS w 0 51 19 Fact.cells (.slice (some ⟨g,0,none⟩) m cp) xs)(h63:m≤1000000000):Ret prog 54 #[.slice (some ⟨g,0,none⟩) m cp,.func (.func of) #[] #[]] w fun r w'=>r=.tuple #[]∧Stp (A8 51 19 Fact.cells (.slice (some ⟨g,0,none⟩) m cp) (xs)) (A8 51 19 Fact.cells (.slice (some ⟨g,0,none⟩) m cp) (Hl key xs)) w w':=by
 obtain⟨w0,rfl,_⟩:=W0 w
 have hS:Wx.Sep (A8 51 19 Fact.cells (.slice (some ⟨g,0,none⟩) m cp) (xs)).foot w0 w0 [A8 51 19 Fact.cells (.slice (some ⟨g,0,none⟩) m cp) (xs)]:=Sep.cons ho (fun _ h=>h) (Sep.start _ _) (by simp)
 refine cT 7 func54 rfl (Af (Ao (.Ro (.t rfl) rfl) rfl ?_))
 rintro _ w1 ⟨B3,rfl,NB3⟩
 have eB3:=NB3.at_
 have zB3:=NB3.size
 replace hS:=hS.Bn NB3
 refine Ai ?_
 have hB3:=NB3.blk
 have hg:=ho.lt g rfl
 replace hS:Wx.Sep (A8 51 19 Fact.cells (.slice (some ⟨g,0,none⟩) m cp) (xs)).foot w0 w1 [A8 51 19 Fact.cells (.slice (some ⟨g,0,none⟩) m cp) (xs)]:=hS.take 1
 refine Aa (Ac rfl (I (.makeFunc (.cu rfl)) (A3 (eC (.u rfl rfl) (AY)) rfl (Un 121 #[.pointer (some ⟨B3,0,none⟩)] key HL g m cp xs _ (hS.own 0 rfl) h63 (fun W hF x y=>mT of key hen hord x y B3 W (hB3.fr hF (fun(e:some g=some B3)=>by cases e;omega)))) ?_)))
 rintro _ w2 ⟨rfl,zs,hz,uw2⟩
 replace hS:=hS.E5 0 rfl uw2
 refine LW.nil (Di rfl ⟨_,rfl,?_⟩)
 rw[hz.eq]at hS
 exact⟨rfl,⟨hS.fr,hS.get 0 rfl,fun _ h=>.inl h⟩⟩
theorem Uq(of:Nat)(key:Fact→K2)(hen:∀args w,(callFunc of args).run prog w=.ok (.enter of args) w)(hord:∀W x,Ret prog of #[.agg x.cells] W fun r W'=>r=.agg #[vi (key x).1,vi (key x).2]∧Up W W')(v:Go.Value)(xs:List Fact)(w:World)(ho:OwnS w 0 51 19 Fact.cells v xs)(h63:xs.length≤1000000000):Ret prog 54 #[v,.func (.func of) #[] #[]] w fun r w'=>r=.tuple #[]∧Stp (A8 51 19 Fact.cells v xs) (A8 51 19 Fact.cells v (Hl key xs)) w w':=by
 have h0:=ho
 obtain⟨_,⟨rfl,hn⟩|⟨g,cap,cur,rfl,_⟩⟩:=h0
 · have hx:xs=[]:=dx hn
   subst hx
   exact(gB of w).mono fun r w'⟨e,u⟩=>⟨e,(Stp.refl ho).up u⟩
 exact bP of key hen hord g xs.length cap xs w ho h63
end Go.Proofs.YtbcnnkfopoiifaaGreatDoor
namespace Go.Wx
open Go.RowKit
section
variable {P:Program}{n:Nat}{ds:List Deferred}{l:Env}{w:World}{d:Option Tmp}{ty:TypeId}{ps:String}{af:Array Edge}{g:Option (Nat×Bool)}
theorem PEv.H2{T e k size:Nat}{z cs:Array Value}{xs:Array (Nat×Operand)}{vs:List (Nat×Value)}(hu:P.underlying T=some (.array k e))(hz:∀w,(zeroValue T).run P w=.ok (.agg z) w)(hs:∀w,(sizeOf e).run P w=.ok size w)
   (hv:Parts l xs.toList vs)(hf:Instr.fill (fun i=>some (i*size,size)) z vs=some cs):PEv P n ds l w ⟨d,.build T xs,ty,ps,af,g⟩ (.agg cs):=fun a w' ha _=>by
 refine Cp ?_
 have e:(xs.map fun(i,x)=>(i,a.eval x))=vs.toArray:=by apply jj;rw[←hv.map ha];simp
 rw[e]
 simp only[Instr.build,Sem.run_bind,hz,Result.andThen,run_underlying hu,hs,Value.cells,hf]
 rfl
end
def Qq(f:Int→Value)(i:Nat):List (Int×Value):=(List.range i).map fun j=>(((j+1:Nat):Int),f ((j+1:Nat):Int))
theorem J6{f:Int→Value}{i:Nat}{k:Int}{v:Value}:(k,v)∈Qq f i↔1≤k∧k≤i∧v=f k:=by
 unfold Qq
 rw[aq]
 constructor
 · rintro⟨j,hj,e⟩
   have:=bl.1 hj
   cases e
   exact⟨by omega,by omega,rfl⟩
 rintro⟨h1,h2,rfl⟩
 refine⟨(k-1).toNat,bl.2 oQ,?_⟩
 have:(((k-1).toNat+1:Nat):Int)=k:=by omega
 rw[this]
theorem mU{f:Int→Value}{i:Nat}{k:Int}:k∈(Qq f i).map (·.1)↔1≤k∧k≤i:=by
 rw[aq]
 constructor
 · rintro⟨⟨k',v⟩,h,rfl⟩
   have:=J6.1 h
   exact⟨this.1,this.2.1⟩
 rintro⟨h1,h2⟩
 exact⟨(k,f k),J6.2 ⟨h1,h2,rfl⟩,rfl⟩
theorem F5(f:Int→Value)(i:Nat):Hn (Qq f i) ((i+1:Nat):Int) (f ((i+1:Nat):Int))=Qq f (i+1):=by
 rw[aS (fun h=>by have:=mU.1 h;omega)]
 simp[Qq,List.range_succ]
end Go.Wx
namespace Go.Wx.Ms
open Go.RowKit Go.MapKept Go.Wx
open Go.ChangeMaps (setBlock)
def vs(s:List UInt8):Value:=.string ⟨s.toArray⟩
def Je(p:List UInt8×Value):Value×Value:=(vs p.1,p.2)
def IMap(w:World)(b:Nat)(kv:List (List UInt8×Value)):Prop:=
 ∃es clock,w.heap[b]?=some (.map es clock)∧Stamped es clock∧es.toList.map Fc=kv.map Je
theorem IMap.lt{w:World}{b:Nat}{kv:List (List UInt8×Value)}(h:IMap w b kv):b<w.heap.size:=let⟨_,_,h1,_⟩:=h;lt_of_block h1
theorem IMap.up{w w':World}{b:Nat}{kv:List (List UInt8×Value)}(h:IMap w b kv)(u:Up w w'):IMap w' b kv:=by
 have:=h.lt
 obtain⟨es,clock,h1,h2⟩:=h
 exact⟨es,clock,(u.block this).trans h1,h2⟩
theorem IMap.sto{w w':World}{b B:Nat}{kv:List (List UInt8×Value)}(h:IMap w b kv)(k:Sto B w w')(hne:b≠B):IMap w' b kv:=by
 have:=h.lt
 obtain⟨es,clock,h1,h2⟩:=h
 exact⟨es,clock,(k.block b this hne).trans h1,h2⟩
theorem Gf{es:Array MapEntry}{kv:List (List UInt8×Value)}(h:es.toList.map Fc=kv.map Je):∀x∈es.toList,∃k,x.key=vs k∧(k,x.val)∈kv:=by
 intro x hx
 have h1:Fc x∈kv.map Je:=by rw[←h];exact aq.2 ⟨x,hx,rfl⟩
 obtain⟨p,hp,he⟩:=aq.1 h1
 have e1:vs p.1=x.key:=a_ Prod.fst he
 have e2:p.2=x.val:=a_ Prod.snd he
 exact⟨p.1,e1.symm,by rw[←e2];exact hp⟩
theorem Eu{es:Array MapEntry}{kv:List (List UInt8×Value)}(h:es.toList.map Fc=kv.map Je){p:List UInt8×Value}(hp:p∈kv):∃x∈es.toList,x.key=vs p.1∧x.val=p.2:=by
 have h1:Je p∈es.toList.map Fc:=by rw[h];exact aq.2 ⟨p,hp,rfl⟩
 obtain⟨x,hx,he⟩:=aq.1 h1
 exact⟨x,hx,a_ Prod.fst he,a_ Prod.snd he⟩
theorem gC{a b:List UInt8}(h:vs a=vs b):a=b:=by
 have h1:(⟨a.toArray⟩:ByteArray)=⟨b.toArray⟩:=by injection h
 have h2:a.toArray=b.toArray:=a_ ByteArray.data h1
 simpa using h2
theorem Fx{es:Array MapEntry}{clock:Nat}{kv:List (List UInt8×Value)}(hs:Stamped es clock)(h:es.toList.map Fc=kv.map Je):(kv.map (·.1)).Nodup:=by
 have h1:es.toList.map (·.key)=(kv.map (·.1)).map vs:=by
   have:=a_ (List.map Prod.fst) h
   simpa[f5,j8,Fc,Je]using this
 have h2:=hs.2.2
 rw[h1]at h2
 exact List.Pairwise.of_map vs (fun a b hab e=>hab (by rw[e])) h2
def Hn(kv:List (List UInt8×Value))(k:List UInt8)(v:Value):List (List UInt8×Value):=if k∈kv.map (·.1)then kv.map (fun p=>if p.1=k then(k,v)else p)else kv++[(k,v)]
theorem Jy{es:Array MapEntry}{clock:Nat}{kv:List (List UInt8×Value)}(hs:Stamped es clock)(h:es.toList.map Fc=kv.map Je){j:Nat}{e:MapEntry}{k:List UInt8}{v:Value}(hj:es[j]?=some e)(hk:e.key=vs k):
   (es.modify j fun e=>{ e with key:=vs k,val:=v }).toList.map Fc=(Hn kv k v).map Je:=by
 have hn:=Fx hs h
 have hat:∀i:Nat,(es.toList.map Fc)[i]?=(kv.map Je)[i]?:=fun i=>by rw[h]
 simp only[cg,gj]at hat
 have hkj:∃p,kv[j]?=some p∧p.1=k:=by
   have:=hat j
   rw[hj]at this
   cases hp:kv[j]? with
   |none=>rw[hp]at this;cases this
   |some p=>
     rw[hp]at this
     have h1:Fc e=Je p:=by simpa using this
     have h2:e.key=vs p.1:=a_ Prod.fst h1
     exact⟨p,rfl,gC (h2.symm.trans hk)⟩
 obtain⟨p,hp,hpk⟩:=hkj
 have hmem:k∈kv.map (·.1):=aq.2 ⟨p,am hp,hpk⟩
 rw[Hn,ak hmem]
 apply ck
 intro i
 simp only[cg,gj,i5]
 by_cases hij:j=i
 · subst hij
   rw[ak rfl,hj,hp]
   simp[Fc,Je,hpk]
 rw[ae hij,hat i]
 cases hq:kv[i]? with
 |none=>rfl
 |some q=>
   have hne:q.1≠k:=fun e'=>by
     have h1:(kv.map (·.1))[i]?=some k:=by simp[hq,e']
     have h2:(kv.map (·.1))[j]?=some k:=by simp[hp,hpk]
     obtain⟨hi,h3⟩:=ai.1 h1
     obtain⟨hj',h4⟩:=ai.1 h2
     exact hij ((jn hn).1 (h4.trans h3.symm))
   simp[hne]
theorem Ie{es:Array MapEntry}{kv:List (List UInt8×Value)}(h:es.toList.map Fc=kv.map Je):∀x∈es.toList,IsKey .string x.key:=fun x hx=>by
 obtain⟨k,hk,_⟩:=Gf h x hx
 rw[hk];trivial
section
variable {P:Program}{n:Nat}{ds:List Deferred}{l:Env}{w:World}{d:Option Tmp}{ty:TypeId}{ps:String}{af:Array Edge}{g:Option (Nat×Bool)}
theorem SEv.mapUpdate{T K E:TypeId}{m x y:Operand}{b:Nat}{k:List UInt8}{v:Value}{kv:List (List UInt8×Value)}(hT:P.underlying T=some (.map K E))(hK:P.underlying K=some .string)(hm:Val l m (.map (some b)))(hx:Val l x (vs k))(hy:Val l y v)(h:IMap w b kv):
   SEv P n ds l w ⟨none,.mapUpdate T m x y,ty,ps,af,g⟩ (fun w'=>IMap w' b (Hn kv k v)∧Sto b w w'∧w'.heap.size=w.heap.size):=fun a ha=>by
 obtain⟨es,clock,hb,hs,he⟩:=h
 have hk:IsKey .string (vs k):=trivial
 have fin:∀o:Obj,Sto b w { w with heap:=w.heap.setIfInBounds b o }:=fun o=>⟨rfl,rfl,rfl,by simp,fun i _ hne=>(heap_set hb).2 i hne⟩
 rcases findNow_spec hk es.toList 0 (Ie he)with⟨h1,h2⟩|⟨j,e,h1,h2,h3⟩
 · refine⟨_,Pz (w':={ w with heap:=w.heap.setIfInBounds b (.map (es.push { key:=vs k,val:=v,born:=clock }) (clock+1)) }) ?_,⟨_,_,(heap_set hb).1,stamped_push hs h2,?_⟩,fin _,by simp⟩
   · rw[ha.ev hm,ha.ev hx,ha.ev hy]
     simp[Instr.mapUpdate,run_underlying hT,MapKept.run_getObj_map hb,MapKept.run_checkKey hK hk,MapKept.run_findKey hK h1,MapKept.run_setObj_map _ hb,Result.andThen]
   have hni:k∉kv.map (·.1):=fun hmem=>by
     obtain⟨p,hp,hpk⟩:=aq.1 hmem
     obtain⟨x',hx',hkx,_⟩:=Eu he hp
     exact h2 x' hx' (by rw[hkx,hpk])
   rw[Hn,ae hni]
   simp[he,Fc,Je]
 have hj:es[j]?=some e:=by simpa using h2
 have hkey:∀e',es[j]?=some e'→({ e' with key:=vs k,val:=v }:MapEntry).key=e'.key:=fun e' he'=>by rw[hj]at he';cases he';exact h3.symm
 refine⟨_,Pz (w':={ w with heap:=w.heap.setIfInBounds b (.map (es.modify j fun e=>{ e with key:=vs k,val:=v }) clock) }) ?_,⟨_,_,(heap_set hb).1,stamped_modify hs _ _ (fun _ _=>rfl) (fun e' _ he'=>hkey e' he'),Jy hs he hj h3⟩,fin _,by simp⟩
 rw[ha.ev hm,ha.ev hx,ha.ev hy]
 simp[Instr.mapUpdate,run_underlying hT,MapKept.run_getObj_map hb,MapKept.run_checkKey hK hk,MapKept.run_findKey hK h1,hj,h3,run_keyThatStays hk,MapKept.run_setObj_map _ hb,Result.andThen]
theorem REv.makeMap{T:TypeId}:REv P n ds l w ⟨d,.makeMap T none,ty,ps,af,g⟩ (fun v w'=>∃b,v=.map (some b)∧IMap w' b []∧Up w w'∧b=w.heap.size∧w'.heap.size=b+1):=fun a ha=>by
 refine⟨_,_,Cp (v:=.map (some w.heap.size)) (w':=w.alloc (.map #[] 0)) ?_,_,rfl,⟨_,_,(heap_alloc w _).1,stamped_empty 0,rfl⟩,Up.alloc w _,rfl,by simp⟩
 simp[Instr.makeMap,Result.andThen]
def IRng(w:World)(b r:Nat)(kv:List (List UInt8×Value))(done:List (List UInt8)):Prop:=
 ∃es clock since seen c0,w.heap[b]?=some (.map es clock)∧Stamped es clock∧es.toList.map Fc=kv.map Je∧w.heap[r]?=some (.mapIter (some b) since seen c0)∧(∀x∈es.toList,x.born<since)∧since≤c0∧since≤clock∧
   (∀x∈es.toList,∀k,x.key=vs k→(seen.contains x.born=true↔k∈done))∧done.Nodup∧∀k∈done,k∈kv.map (·.1)
theorem IRng.up{w w':World}{b r:Nat}{kv:List (List UInt8×Value)}{done:List (List UInt8)}(h:IRng w b r kv done)(u:Up w w'):IRng w' b r kv done:=by
 obtain⟨es,clock,since,seen,c0,h1,h2,h3,h4,h5⟩:=h
 exact⟨es,clock,since,seen,c0,(u.block (lt_of_block h1)).trans h1,h2,h3,(u.block (lt_of_block h4)).trans h4,h5⟩
theorem IRng.length{w:World}{b r:Nat}{kv:List (List UInt8×Value)}{done:List (List UInt8)}(h:IRng w b r kv done):done.length≤kv.length:=by
 obtain⟨es,clock,since,seen,c0,h1,h2,h3,h4,h5,h6,h7,h8,h9,h10⟩:=h
 have:=h9.length_le_of_subset h10
 simpa using this
theorem IRng.kx{bq:Nat}{X Y:Nat→Prop}{w w':World}{b r:Nat}{kv:List (List UInt8×Value)}{done:List (List UInt8)}(h:IRng w b r kv done)(k:Kx bq X Y w w')(hb:¬Y b)(hr:¬Y r):IRng w' b r kv done:=by
 obtain⟨es,clock,since,seen,c0,h1,h2,h3,h4,h5⟩:=h
 exact⟨es,clock,since,seen,c0,k.same b _ h1 (.inr ⟨rfl,hb,.inr rfl⟩),h2,h3,k.same r _ h4 (.inr ⟨rfl,hr,.inr rfl⟩),h5⟩
theorem REv.range{T K E:TypeId}{m:Operand}{b:Nat}{kv:List (List UInt8×Value)}(hT:P.underlying T=some (.map K E))(hm:Val l m (.map (some b)))(h:IMap w b kv):
   REv P n ds l w ⟨d,.range T m,ty,ps,af,g⟩ (fun v w'=>∃r,v=.pointer (some ⟨r,0,none⟩)∧IRng w' b r kv []∧Up w w'∧r=w.heap.size∧w'.heap.size=r+1):=fun a ha=>by
 obtain⟨es,clock,hb,hs,he⟩:=h
 refine⟨_,_,Cp (v:=.pointer (some ⟨w.heap.size,0,none⟩)) (w':=w.alloc (.mapIter (some b) clock #[] clock)) ?_,_,rfl,⟨es,clock,clock,#[],clock,((heap_alloc w _).2 b (lt_of_block hb)).trans hb,hs,he,(heap_alloc w _).1,hs.1,av _,av _,?_,dz,by simp⟩,Up.alloc w _,rfl,by simp⟩
 · rw[ha.ev hm];exact run_range_map w T K E b es clock hT hb
 intro x _ k _;simp
theorem P4{b r:Nat}{kv:List (List UInt8×Value)}{done:List (List UInt8)}(ty:TypeId)(h:IRng w b r kv done):
   ((Instr.next (.pointer (some ⟨r,0,none⟩)) false ty).run P w=.ok (.tuple #[.bool false]) w∧done.Perm (kv.map (·.1)))∨
   ∃k u w',(Instr.next (.pointer (some ⟨r,0,none⟩)) false ty).run P w=.ok (.tuple #[.bool true,vs k,u]) w'∧(k,u)∈kv∧k∉done∧IRng w' b r kv (done++[k])∧w.grownBy w' (some r)∧w'.heap.size=w.heap.size∧(Instr.entry (.pointer (some ⟨r,0,none⟩))).run P w'=.ok (.tuple #[vs k,u]) w'∧Sto r w w'∧∃o:Obj,w.heap[r]?=some o∧o.isWalk=true:=by
 obtain⟨es,clock,since,seen,c0,hb,hs,he,hr,hold,hsc,hsk,hd,hdn,hdk⟩:=h
 have hne:b≠r:=fun e=>by rw[e,hr]at hb;cases hb
 have hst:=(stamped_iff es clock).1 hs
 rcases run_next_at (P:=P) w ty r b since c0 seen es clock hr hb hold hsc with⟨h0,hrun⟩|⟨e,hel,w1,hal,hrun⟩
 · refine .inl ⟨hrun,(ij hdn (Fx hs he)).2 fun k=>⟨hdk k,fun hk=>?_⟩⟩
   obtain⟨p,hp,rfl⟩:=aq.1 hk
   obtain⟨x,hx,hxk,_⟩:=Eu he hp
   exact(hd x hx _ hxk).1 (all_seen es seen h0 x hx)
 obtain⟨hem,hes⟩:=mem_left hel
 obtain⟨k,hk,hkv⟩:=Gf he e hem
 have hr1:w1.heap[r]?=some (.mapIter (some b) since seen c0):=by rcases hal with rfl|rfl<;>exact hr
 have hb1:w1.heap[b]?=some (.map es clock):=by rcases hal with rfl|rfl<;>exact hb
 have hset:=heap_set (o':=.mapIter (some b) since (seen.push e.born) clock) hr1
 have hb':(setBlock w1 r (.mapIter (some b) since (seen.push e.born) clock)).heap[b]?=some (.map es clock):=(hset.2 b hne).trans hb1
 have hnd:k∉done:=fun hm=>by have:=(hd e hem k hk).2 hm;rw[hes]at this;cases this
 have hgr:w.grownBy (setBlock w1 r (.mapIter (some b) since (seen.push e.born) clock)) (some r):=by rcases hal with rfl|rfl<;>exact⟨rfl,rfl,rfl,by simp[setBlock],fun i _ hi=>hset.2 i (fun e1=>hi (by rw[e1]))⟩
 refine .inr ⟨k,e.val,_,by rw[hrun,hk],hkv,hnd,⟨es,clock,since,seen.push e.born,clock,hb',hs,he,hset.1,hold,hsk,hsk,fun x hx k' hk'=>?_,?_,fun k' hk'=>?_⟩,hgr,?_,?_,⟨hgr.os,hgr.tape,hgr.output,hgr.size,fun i hi hne=>hgr.block i hi (fun e=>hne (by cases e;rfl))⟩,_,hr,rfl⟩
 · rw[contains_push,f8,hd x hx k' hk',be,aa]
   refine or_congr km ⟨fun h1=>?_,fun h1=>?_⟩
   · have h2:x.born=e.born:=by simpa using h1
     have h3:=born_inj hst.2.1 hx hem h2
     rw[h3,hk]at hk'
     exact(gC hk').symm
   subst h1
   have:=Ev hst.2.2 hx hem (hk'.trans hk.symm)
   rw[this];simp
 · exact dl.2 ⟨hdn,by simp,fun a ha c hc=>by simp at hc;subst hc;exact fun e'=>hnd (e'▸ha)⟩
 · rcases be.1 hk' with h1|h1
   · exact hdk k' h1
   simp at h1;subst h1;exact aq.2 ⟨_,hkv,rfl⟩
 · rcases hal with rfl|rfl<;>simp[setBlock]
 rw[←hk];exact run_entry_at _ r b since seen es clock e hset.1 hb' hem hst.2.1
structure NextTo(P:Program)(w w':World)(b r:Nat)(kv:List (List UInt8×Value))(done:List (List UInt8))(k:List UInt8)(u:Value):Prop where
 mem:(k,u)∈kv
 fresh:k∉done
 rng:IRng w' b r kv (done++[k])
 grown:w.grownBy w' (some r)
 size:w'.heap.size=w.heap.size
 entry:(Instr.entry (.pointer (some ⟨r,0,none⟩))).run P w'=.ok (.tuple #[vs k,u]) w'
 sto:Sto r w w'
 walk:∃o:Obj,w.heap[r]?=some o∧o.isWalk=true
theorem REv.next{it:Operand}{b r:Nat}{kv:List (List UInt8×Value)}{done:List (List UInt8)}(hx:Val l it (.pointer (some ⟨r,0,none⟩)))(h:IRng w b r kv done):
   REv P n ds l w ⟨d,.next it false,ty,ps,af,g⟩ (fun v w'=>(v=.tuple #[.bool false]∧w'=w∧done.Perm (kv.map (·.1)))∨∃k u,v=.tuple #[.bool true,vs k,u]∧NextTo P w w' b r kv done k u):=fun a ha=>by
 rcases P4 (P:=P) ty h with⟨h1,h2⟩|⟨k,u,w',h1,h2,h3,h4,h5,h6,h7,h8,h9⟩
 · exact⟨_,_,Cp (by rw[ha.ev hx];exact h1),.inl ⟨rfl,rfl,h2⟩⟩
 exact⟨_,_,Cp (by rw[ha.ev hx];exact h1),.inr ⟨k,u,rfl,h2,h3,h4,h5,h6,h7,h8,h9⟩⟩
theorem REv.entry{it:Operand}{r:Nat}{t:Value}(hx:Val l it (.pointer (some ⟨r,0,none⟩)))(h:(Instr.entry (.pointer (some ⟨r,0,none⟩))).run P w=.ok t w):
 REv P n ds l w ⟨d,.entry it,ty,ps,af,g⟩ (fun v w'=>v=t∧w'=w):=fun a ha=>⟨_,_,Cp (by rw[ha.ev hx];exact h),rfl,rfl⟩
theorem PEv.Ek{d:Option Tmp}{ty:TypeId}{ps:String}{af:Array Edge}{g:Option (Nat×Bool)}{T K E:TypeId}{mo x:Operand}{b:Nat}{k:List UInt8}{v:Value}{kv:List (List UInt8×Value)}{ok:Bool}(hT:P.underlying T=some (.map K E))(hK:P.underlying K=some .string)(hm:Val l mo (.map (some b)))(hx:Val l x (vs k))(h:IMap w b kv)(hkv:(k,v)∈kv):
   PEv P n ds l w ⟨d,.lookup T mo x ok,ty,ps,af,g⟩ (if ok then .tuple #[v,.bool true]else v):=fun a w' ha hu=>by
 obtain⟨es,clock,hb,hs,he⟩:=h.up hu
 have hk:IsKey .string (vs k):=trivial
 refine Cp ?_
 rw[ha.ev hm,ha.ev hx]
 rcases findNow_spec hk es.toList 0 (Ie he)with⟨h1,h2⟩|⟨j,e,h1,h2,h3⟩
 · exfalso
   obtain⟨x',hx',hkx,_⟩:=Eu he hkv
   exact h2 x' hx' hkx
 obtain⟨x',hx',hkx,hvx⟩:=Eu he hkv
 have hv:e.val=v:=by
   have:=Ev (g_.1 hs.2.2) (am h2) hx' (by rw[h3,hkx])
   rw[this];exact hvx
 cases ok<;>simp[Instr.lookup,run_underlying hT,MapKept.run_getObj_map hb,MapKept.run_checkKey hK hk,MapKept.run_findKey hK h1,Result.andThen,hv]
theorem PEv.Ha{d:Option Tmp}{ty:TypeId}{ps:String}{af:Array Edge}{g:Option (Nat×Bool)}{T K E:TypeId}{mo x:Operand}{b:Nat}{k:List UInt8}{z:Value}{kv:List (List UInt8×Value)}{ok:Bool}(hT:P.underlying T=some (.map K E))(hK:P.underlying K=some .string)(hz:∀w,(zeroValue E).run P w=.ok z w)(hm:Val l mo (.map (some b)))(hx:Val l x (vs k))(h:IMap w b kv)(hkv:k∉kv.map (·.1)):
   PEv P n ds l w ⟨d,.lookup T mo x ok,ty,ps,af,g⟩ (if ok then .tuple #[z,.bool false]else z):=fun a w' ha hu=>by
 obtain⟨es,clock,hb,hs,he⟩:=h.up hu
 have hk:IsKey .string (vs k):=trivial
 refine Cp ?_
 rw[ha.ev hm,ha.ev hx]
 rcases findNow_spec hk es.toList 0 (Ie he)with⟨h1,h2⟩|⟨j,e,h1,h2,h3⟩
 · cases ok<;>simp[Instr.lookup,run_underlying hT,MapKept.run_getObj_map hb,MapKept.run_checkKey hK hk,MapKept.run_findKey hK h1,Result.andThen,hz]
 exfalso
 obtain⟨k',hk',hkv'⟩:=Gf he e (am h2)
 have:k'=k:=gC (hk'.symm.trans h3)
 exact hkv (aq.2 ⟨_,hkv',this⟩)
end
end Go.Wx.Ms
namespace Go.Wx
open Go.RowKit
def Be(b:Nat)(kv:List (Int×Value)):Asr:=⟨(· =b),fun w=>IMap w b kv,fun _ _ h k _=>by
 have:=h.lt
 obtain⟨es,clock,h1,h2⟩:=h
 exact⟨es,clock,(k b rfl this).trans h1,h2⟩,fun _ h _ e=>by rw[e];exact h.lt⟩
def Gg(b r:Nat)(kv:List (Int×Value))(done:List Int):Asr:=⟨fun i=>i=b∨i=r,fun w=>IRng w b r kv done,fun _ _ h k _=>by
 obtain⟨es,clock,since,seen,c0,h1,h2,h3,h4,h5⟩:=h
 exact⟨es,clock,since,seen,c0,(k b (.inl rfl) (lt_of_block h1)).trans h1,h2,h3,(k r (.inr rfl) (lt_of_block h4)).trans h4,h5⟩,fun _ h i e=>by
 obtain⟨es,clock,since,seen,c0,h1,h2,h3,h4,h5⟩:=h
 rcases e with rfl|rfl
 · exact lt_of_block h1
 exact lt_of_block h4⟩
theorem G4{b r:Nat}{kv:List (Int×Value)}{w w':World}(h:IRng w' b r kv [])(u:Up w w')(hr:r=w.heap.size):Stp (Be b kv) (Gg b r kv []) w w':=⟨u.fr _,h,fun i hi=>hi.elim (fun e=>.inl e) (fun e=>.inr oQ)⟩
theorem H3{P:Program}{b r:Nat}{kv:List (Int×Value)}{done:List Int}{k:Int}{u:Value}{w w':World}(h:NextTo P w w' b r kv done k u):Stp (Gg b r kv done) (Gg b r kv (done++[k])) w w':=⟨h.sto.fr.mono (fun i(e:i=r)=>.inr e),h.rng,fun _ h=>.inl h⟩
namespace Ms
def Be(b:Nat)(kv:List (List UInt8×Value)):Asr:=⟨(· =b),fun w=>Ms.IMap w b kv,fun _ _ h k _=>by
 have:=h.lt
 obtain⟨es,clock,h1,h2⟩:=h
 exact⟨es,clock,(k b rfl this).trans h1,h2⟩,fun _ h _ e=>by rw[e];exact h.lt⟩
def Gg(b r:Nat)(kv:List (List UInt8×Value))(done:List (List UInt8)):Asr:=⟨fun i=>i=b∨i=r,fun w=>Ms.IRng w b r kv done,fun _ _ h k _=>by
 obtain⟨es,clock,since,seen,c0,h1,h2,h3,h4,h5⟩:=h
 exact⟨es,clock,since,seen,c0,(k b (.inl rfl) (lt_of_block h1)).trans h1,h2,h3,(k r (.inr rfl) (lt_of_block h4)).trans h4,h5⟩,fun _ h i e=>by
 obtain⟨es,clock,since,seen,c0,h1,h2,h3,h4,h5⟩:=h
 rcases e with rfl|rfl
 · exact lt_of_block h1
 exact lt_of_block h4⟩
theorem Im{b:Nat}{kv kv':List (List UInt8×Value)}{w w':World}(h:Ms.IMap w' b kv')(k:Sto b w w'):Stp (Be b kv) (Be b kv') w w':=⟨k.fr,h,fun _ h=>.inl h⟩
theorem G4{b r:Nat}{kv:List (List UInt8×Value)}{w w':World}(h:Ms.IRng w' b r kv [])(u:Up w w')(hr:r=w.heap.size):Stp (Be b kv) (Gg b r kv []) w w':=⟨u.fr _,h,fun i hi=>hi.elim (fun e=>.inl e) (fun e=>.inr oQ)⟩
theorem H3{P:Program}{b r:Nat}{kv:List (List UInt8×Value)}{done:List (List UInt8)}{k:List UInt8}{u:Value}{w w':World}(h:Ms.NextTo P w w' b r kv done k u):Stp (Gg b r kv done) (Gg b r kv (done++[k])) w w':=⟨h.sto.fr.mono (fun i(e:i=r)=>.inr e),h.rng,fun _ h=>.inl h⟩
end Ms
theorem Ur{As:List Asr}{A A':Asr}{w w':World}{j:Nat}(h:(E8 As).holds w)(hj:As[j]?=some A)(s:Stp A A' w w'):Stp (E8 As) (E8 (As.set j A')) w w':=by
 have:=(Ru h).E5 j hj s
 rw[←dy (As.set j A')]at this
 exact L0 this
theorem bR{α β:Type}(a:α)(b:β):∀(l:List α)(r:List β)(j:Nat),(l.set j a).zip (r.set j b)=(l.zip r).set j (a,b)
 |[],r,j=>by simp
 |x::l,[],j=>by cases j<;>simp
 |x::l,y::r,0=>rfl
 |x::l,y::r,j+1=>by
   rw[jd,jd,List.zip_cons_cons,List.zip_cons_cons,jd,bR a b l r j]
def lists{α:Type}(e k:Nat)(enc:α→Array Value)(vs:List Value)(xss:List (List α)):List Asr:=(vs.zip xss).map fun p=>A8 e k enc p.1 p.2
theorem N4{α:Type}{e k:Nat}{enc:α→Array Value}{vs:List Value}{xss:List (List α)}{j:Nat}{v:Value}{xs:List α}(hv:vs[j]?=some v)(hx:xss[j]?=some xs):(lists e k enc vs xss)[j]?=some (A8 e k enc v xs):=by
 unfold lists
 rw[cg]
 have:(vs.zip xss)[j]?=some (v,xs):=by rw[List.getElem?_zip_eq_some];exact⟨hv,hx⟩
 rw[this];rfl
theorem Ry{α:Type}{e k:Nat}{enc:α→Array Value}{vs:List Value}{xss:List (List α)}{j:Nat}{v:Value}{xs:List α}:(lists e k enc vs xss).set j (A8 e k enc v xs)=lists e k enc (vs.set j v) (xss.set j xs):=by
 unfold lists
 have:(vs.set j v).zip (xss.set j xs)=(vs.zip xss).set j (v,xs):=bR v xs vs xss j
 rw[this,List.map_set]
theorem Li{α:Type}{e k:Nat}{enc:α→Array Value}{vs:List Value}{xss:List (List α)}{w:World}{j:Nat}{v:Value}{xs:List α}(h:(E8 (lists e k enc vs xss)).holds w)(hv:vs[j]?=some v)(hx:xss[j]?=some xs):OwnS w 0 e k enc v xs:=h.1 _ (am (N4 hv hx))
theorem Xh{α:Type}{e k:Nat}{enc:α→Array Value}{vs:List Value}{xss:List (List α)}{w:World}(h:(E8 (lists e k enc vs xss)).holds w)(hl:vs.length=xss.length):∀v∈vs,v.oneCell'=true:=fun v hv=>by
 obtain⟨j,hj⟩:=fj.1 hv
 have hlt:=(ai.1 hj).1
 obtain⟨xs,hx⟩:=Av (xs:=xss) (i:=j) oQ
 exact(Li h hj hx).one
theorem mV{α:Type}(e k:Nat)(enc:α→Array Value)(n:Nat)(w:World):(E8 (lists e k enc (List.replicate n (.slice none 0 0)) (List.replicate n ([]:List α)))).holds w∧∀i,¬(E8 (lists e k enc (List.replicate n (.slice none 0 0)) (List.replicate n ([]:List α)))).foot i:=by
 have key:∀A∈lists e k enc (List.replicate n (.slice none 0 0)) (List.replicate n ([]:List α)),A=A8 e k enc (.slice none 0 0) []:=fun A hA=>by
   unfold lists at hA
   obtain⟨⟨v,xs⟩,hp,rfl⟩:=aq.1 hA
   have:=List.of_mem_zip hp
   rw[List.eq_of_mem_replicate this.1,List.eq_of_mem_replicate this.2]
 refine⟨⟨fun A hA=>by rw[key A hA];exact OwnS.nil _ _ _ _ _,fe.2 fun i j hi hj _ x hx=>by
   rw[key _ (List.getElem_mem hi)]at hx;cases hx⟩,fun i⟨A,hA,hi⟩=>by rw[key A hA]at hi;cases hi⟩
end Go.Wx
namespace Go.Proofs.YtbcnnkfopoiifaaGreatDoor
open Go.Proofs.Tryz
open Go.Wx Go.RowKit
def K9(k:Int):Nat:=match k with
 |1=>67
 |2=>69
 |3=>70
 |4=>71
 |5=>73
 |6=>75
 |7=>76
 |8=>77
 |9=>79
 |10=>80
 |11=>82
 |_=>0
def Oz(k:Int):Nat:=match k with
 |1=>68
 |2=>68
 |3=>68
 |4=>72
 |5=>74
 |6=>68
 |7=>68
 |8=>78
 |9=>68
 |10=>81
 |11=>68
 |_=>0
def Wg(k:Int):Go.Value:=.agg #[.func (.func (K9 k)) #[] #[],.func (.func (Oz k)) #[] #[]]
theorem DR(B:Nat)(w:World):Ret prog 67 #[.pointer (some ⟨B,0,none⟩)] w fun r w'=>r=.pointer (some ⟨B,0,none⟩)∧Up w w':=by
 have hW:=Up.refl w
 refine cT 6 func67 rfl (Af (J (Ar (Aa (Ac rfl (I (.nc rfl) (I (.fB 0 rfl) (LW.A rfl (Ai (Aj (KW.q ?_)))))))))))
 exact⟨rfl,hW⟩
theorem DS(B:Nat)(w:World):Ret prog 69 #[.pointer (some ⟨B,0,none⟩)] w fun r w'=>r=.pointer (some ⟨B,1,none⟩)∧Up w w':=by
 have hW:=Up.refl w
 refine cT 6 func69 rfl (Af (J (Ar (Aa (Ac rfl (I (.nc rfl) (I (.fB 1 rfl) (LW.A rfl (Ai (Aj (KW.q ?_)))))))))))
 exact⟨rfl,hW⟩
theorem DT(B:Nat)(w:World):Ret prog 70 #[.pointer (some ⟨B,0,none⟩)] w fun r w'=>r=.pointer (some ⟨B,2,none⟩)∧Up w w':=by
 have hW:=Up.refl w
 refine cT 6 func70 rfl (Af (J (Ar (Aa (Ac rfl (I (.nc rfl) (I (.fB 2 rfl) (LW.A rfl (Ai (Aj (KW.q ?_)))))))))))
 exact⟨rfl,hW⟩
theorem DU(B:Nat)(w:World):Ret prog 71 #[.pointer (some ⟨B,0,none⟩)] w fun r w'=>r=.pointer (some ⟨B,3,none⟩)∧Up w w':=by
 have hW:=Up.refl w
 refine cT 6 func71 rfl (Af (J (Ar (Aa (Ac rfl (I (.nc rfl) (I (.fB 3 rfl) (LW.A rfl (Ai (Aj (KW.q ?_)))))))))))
 exact⟨rfl,hW⟩
theorem DX(B:Nat)(w:World):Ret prog 73 #[.pointer (some ⟨B,0,none⟩)] w fun r w'=>r=.pointer (some ⟨B,4,none⟩)∧Up w w':=by
 have hW:=Up.refl w
 refine cT 6 func73 rfl (Af (J (Ar (Aa (Ac rfl (I (.nc rfl) (I (.fB 4 rfl) (LW.A rfl (Ai (Aj (KW.q ?_)))))))))))
 exact⟨rfl,hW⟩
theorem DY(B:Nat)(w:World):Ret prog 75 #[.pointer (some ⟨B,0,none⟩)] w fun r w'=>r=.pointer (some ⟨B,5,none⟩)∧Up w w':=by
 have hW:=Up.refl w
 refine cT 6 func75 rfl (Af (J (Ar (Aa (Ac rfl (I (.nc rfl) (I (.fB 5 rfl) (LW.A rfl (Ai (Aj (KW.q ?_)))))))))))
 exact⟨rfl,hW⟩
theorem DZ(B:Nat)(w:World):Ret prog 76 #[.pointer (some ⟨B,0,none⟩)] w fun r w'=>r=.pointer (some ⟨B,6,none⟩)∧Up w w':=by
 have hW:=Up.refl w
 refine cT 6 func76 rfl (Af (J (Ar (Aa (Ac rfl (I (.nc rfl) (I (.fB 6 rfl) (LW.A rfl (Ai (Aj (KW.q ?_)))))))))))
 exact⟨rfl,hW⟩
theorem EA(B:Nat)(w:World):Ret prog 77 #[.pointer (some ⟨B,0,none⟩)] w fun r w'=>r=.pointer (some ⟨B,7,none⟩)∧Up w w':=by
 have hW:=Up.refl w
 refine cT 6 func77 rfl (Af (J (Ar (Aa (Ac rfl (I (.nc rfl) (I (.fB 7 rfl) (LW.A rfl (Ai (Aj (KW.q ?_)))))))))))
 exact⟨rfl,hW⟩
theorem EB(B:Nat)(w:World):Ret prog 79 #[.pointer (some ⟨B,0,none⟩)] w fun r w'=>r=.pointer (some ⟨B,8,none⟩)∧Up w w':=by
 have hW:=Up.refl w
 refine cT 6 func79 rfl (Af (J (Ar (Aa (Ac rfl (I (.nc rfl) (I (.fB 8 rfl) (LW.A rfl (Ai (Aj (KW.q ?_)))))))))))
 exact⟨rfl,hW⟩
theorem yB(B:Nat)(w:World):Ret prog 80 #[.pointer (some ⟨B,0,none⟩)] w fun r w'=>r=.pointer (some ⟨B,9,none⟩)∧Up w w':=by
 have hW:=Up.refl w
 refine cT 6 func80 rfl (Af (J (Ar (Aa (Ac rfl (I (.nc rfl) (I (.fB 9 rfl) (LW.A rfl (Ai (Aj (KW.q ?_)))))))))))
 exact⟨rfl,hW⟩
theorem yC(B:Nat)(w:World):Ret prog 82 #[.pointer (some ⟨B,0,none⟩)] w fun r w'=>r=.pointer (some ⟨B,10,none⟩)∧Up w w':=by
 have hW:=Up.refl w
 refine cT 6 func82 rfl (Af (J (Ar (Aa (Ac rfl (I (.nc rfl) (I (.fB 10 rfl) (LW.A rfl (Ai (Aj (KW.q ?_)))))))))))
 exact⟨rfl,hW⟩
theorem Qr(k:Int)(h1:1≤k)(h2:k≤11)(B:Nat)(w:World):Ret prog (K9 k) #[.pointer (some ⟨B,0,none⟩)] w fun r w'=>r=.pointer (some ⟨B,(k-1).toNat,none⟩)∧Up w w':=by
 obtain rfl|rfl|rfl|rfl|rfl|rfl|rfl|rfl|rfl|rfl|rfl:k=1∨k=2∨k=3∨k=4∨k=5∨k=6∨k=7∨k=8∨k=9∨k=10∨k=11:=by omega
 · exact DR B w
 · exact DS B w
 · exact DT B w
 · exact DU B w
 · exact DX B w
 · exact DY B w
 · exact DZ B w
 · exact EA B w
 · exact EB B w
 · exact yB B w
 exact yC B w
theorem Tl(k:Int)(h1:1≤k)(h2:k≤11):∀(args:Array Go.Value)(w:World),(callFunc (K9 k) args).run prog w=.ok (.enter (K9 k) args) w:=by
 obtain rfl|rfl|rfl|rfl|rfl|rfl|rfl|rfl|rfl|rfl|rfl:k=1∨k=2∨k=3∨k=4∨k=5∨k=6∨k=7∨k=8∨k=9∨k=10∨k=11:=by omega
 · exact MR
 · exact MS
 · exact MT
 · exact MU
 · exact MW
 · exact MY
 · exact MZ
 · exact NA
 · exact NC
 · exact ND
 exact NF
theorem Us(x:Fact)(w:World):Ret prog 68 #[.agg x.cells] w fun r w'=>r=.agg #[vi (Ff 1 x).1,vi (Ff 1 x).2]∧Up w w':=by
 have hW:=Up.refl w
 refine cT 6 func68 rfl (Af (Ao (.bA rfl) rfl ?_))
 rintro _ w1 ⟨B1,rfl,NB1⟩
 have eB1:=NB1.at_
 have zB1:=NB1.size
 replace hW:=hW.up NB1.up
 have hB1:=NB1.blk
 refine Ao (.Bi ma) rfl ?_
 rintro _ w2 ⟨B2,rfl,NB2⟩
 have eB2:=NB2.at_
 replace hW:=hW.up NB2.up
 replace hB1:=hB1.up NB2.up
 have hB2:=NB2.blk
 refine Ar (Aa (I (.fB 1 rfl) (I (.lb rfl (hB1.An rfl)) (I (.H2 (cs:=#[vi x.ID,vi 0]) mh ma lf (.ct rfl (.cons (.const _) .nil)) rfl) (Bh (.A5 mn rfl (.t rfl) (.t rfl) eQ hB2 rfl) ?_)))))
 intro w3 Nw3
 replace hW:=hW.sto Nw3.sto oQ
 replace hB1:=hB1.sto Nw3.sto oQ
 replace hB2:=Nw3.blk
 refine Ai (Aj (Dy rfl rfl isAgg140 mn rfl (hB2.agg) ⟨_,rfl,?_⟩))
 exact⟨rfl,hW⟩
theorem KI(x:Fact)(w:World):Ret prog 72 #[.agg x.cells] w fun r w'=>r=.agg #[vi (Ff 4 x).1,vi (Ff 4 x).2]∧Up w w':=by
 have hW:=Up.refl w
 refine cT 8 func72 rfl (Af (Ao (.bA rfl) rfl ?_))
 rintro _ w1 ⟨B1,rfl,NB1⟩
 have eB1:=NB1.at_
 have zB1:=NB1.size
 replace hW:=hW.up NB1.up
 have hB1:=NB1.blk
 refine Ao (.Bi ma) rfl ?_
 rintro _ w2 ⟨B2,rfl,NB2⟩
 have eB2:=NB2.at_
 replace hW:=hW.up NB2.up
 replace hB1:=hB1.up NB2.up
 have hB2:=NB2.blk
 refine Ar (Aa (I (.fB 7 rfl) (I (.lb rfl (hB1.An rfl)) (I (.fB 5 rfl) (I (.lb rfl (hB1.An rfl)) (I (.H2 (cs:=#[vi x.Wafer,vi x.Time]) mh ma lf (.ct rfl (.cu rfl)) rfl) (Bh (.A5 mn rfl (.t rfl) (.t rfl) eQ hB2 rfl) ?_)))))))
 intro w3 Nw3
 replace hW:=hW.sto Nw3.sto oQ
 replace hB1:=hB1.sto Nw3.sto oQ
 replace hB2:=Nw3.blk
 refine Ai (Aj (Dy rfl rfl isAgg140 mn rfl (hB2.agg) ⟨_,rfl,?_⟩))
 exact⟨rfl,hW⟩
theorem KJ(x:Fact)(w:World):Ret prog 74 #[.agg x.cells] w fun r w'=>r=.agg #[vi (Ff 5 x).1,vi (Ff 5 x).2]∧Up w w':=by
 have hW:=Up.refl w
 refine cT 6 func74 rfl (Af (Ao (.bA rfl) rfl ?_))
 rintro _ w1 ⟨B1,rfl,NB1⟩
 have eB1:=NB1.at_
 have zB1:=NB1.size
 replace hW:=hW.up NB1.up
 have hB1:=NB1.blk
 refine Ao (.Bi ma) rfl ?_
 rintro _ w2 ⟨B2,rfl,NB2⟩
 have eB2:=NB2.at_
 replace hW:=hW.up NB2.up
 replace hB1:=hB1.up NB2.up
 have hB2:=NB2.blk
 refine Ar (Aa (I (.fB 10 rfl) (I (.lb rfl (hB1.An rfl)) (I (.H2 (cs:=#[vi x.Product,vi 0]) mh ma lf (.ct rfl (.cons (.const _) .nil)) rfl) (Bh (.A5 mn rfl (.t rfl) (.t rfl) eQ hB2 rfl) ?_)))))
 intro w3 Nw3
 replace hW:=hW.sto Nw3.sto oQ
 replace hB1:=hB1.sto Nw3.sto oQ
 replace hB2:=Nw3.blk
 refine Ai (Aj (Dy rfl rfl isAgg140 mn rfl (hB2.agg) ⟨_,rfl,?_⟩))
 exact⟨rfl,hW⟩
theorem KK(x:Fact)(w:World):Ret prog 78 #[.agg x.cells] w fun r w'=>r=.agg #[vi (Ff 8 x).1,vi (Ff 8 x).2]∧Up w w':=by
 have hW:=Up.refl w
 refine cT 8 func78 rfl (Af (Ao (.bA rfl) rfl ?_))
 rintro _ w1 ⟨B1,rfl,NB1⟩
 have eB1:=NB1.at_
 have zB1:=NB1.size
 replace hW:=hW.up NB1.up
 have hB1:=NB1.blk
 refine Ao (.Bi ma) rfl ?_
 rintro _ w2 ⟨B2,rfl,NB2⟩
 have eB2:=NB2.at_
 replace hW:=hW.up NB2.up
 replace hB1:=hB1.up NB2.up
 have hB2:=NB2.blk
 refine Ar (Aa (I (.fB 8 rfl) (I (.lb rfl (hB1.An rfl)) (I (.fB 17 rfl) (I (.lb rfl (hB1.An rfl)) (I (.H2 (cs:=#[vi x.Other,vi x.Parties]) mh ma lf (.ct rfl (.cu rfl)) rfl) (Bh (.A5 mn rfl (.t rfl) (.t rfl) eQ hB2 rfl) ?_)))))))
 intro w3 Nw3
 replace hW:=hW.sto Nw3.sto oQ
 replace hB1:=hB1.sto Nw3.sto oQ
 replace hB2:=Nw3.blk
 refine Ai (Aj (Dy rfl rfl isAgg140 mn rfl (hB2.agg) ⟨_,rfl,?_⟩))
 exact⟨rfl,hW⟩
theorem ED(x:Fact)(w:World):Ret prog 81 #[.agg x.cells] w fun r w'=>r=.agg #[vi (Ff 10 x).1,vi (Ff 10 x).2]∧Up w w':=by
 have hW:=Up.refl w
 refine cT 8 func81 rfl (Af (Ao (.bA rfl) rfl ?_))
 rintro _ w1 ⟨B1,rfl,NB1⟩
 have eB1:=NB1.at_
 have zB1:=NB1.size
 replace hW:=hW.up NB1.up
 have hB1:=NB1.blk
 refine Ao (.Bi ma) rfl ?_
 rintro _ w2 ⟨B2,rfl,NB2⟩
 have eB2:=NB2.at_
 replace hW:=hW.up NB2.up
 replace hB1:=hB1.up NB2.up
 have hB2:=NB2.blk
 refine Ar (Aa (I (.fB 14 rfl) (I (.lb rfl (hB1.An rfl)) (I (.fB 5 rfl) (I (.lb rfl (hB1.An rfl)) (I (.H2 (cs:=#[vi x.Recipe,vi x.Time]) mh ma lf (.ct rfl (.cu rfl)) rfl) (Bh (.A5 mn rfl (.t rfl) (.t rfl) eQ hB2 rfl) ?_)))))))
 intro w3 Nw3
 replace hW:=hW.sto Nw3.sto oQ
 replace hB1:=hB1.sto Nw3.sto oQ
 replace hB2:=Nw3.blk
 refine Ai (Aj (Dy rfl rfl isAgg140 mn rfl (hB2.agg) ⟨_,rfl,?_⟩))
 exact⟨rfl,hW⟩
theorem yD(k:Int)(h1:1≤k)(h2:k≤11)(x:Fact)(w:World):Ret prog (Oz k) #[.agg x.cells] w fun r w'=>r=.agg #[vi (Ff k x).1,vi (Ff k x).2]∧Up w w':=by
 obtain rfl|rfl|rfl|rfl|rfl|rfl|rfl|rfl|rfl|rfl|rfl:k=1∨k=2∨k=3∨k=4∨k=5∨k=6∨k=7∨k=8∨k=9∨k=10∨k=11:=by omega
 · exact Us x w
 · exact Us x w
 · exact Us x w
 · exact KI x w
 · exact KJ x w
 · exact Us x w
 · exact Us x w
 · exact KK x w
 · exact Us x w
 · exact ED x w
 exact Us x w
theorem EE(k:Int)(h1:1≤k)(h2:k≤11):∀(args:Array Go.Value)(w:World),(callFunc (Oz k) args).run prog w=.ok (.enter (Oz k) args) w:=by
 obtain rfl|rfl|rfl|rfl|rfl|rfl|rfl|rfl|rfl|rfl|rfl:k=1∨k=2∨k=3∨k=4∨k=5∨k=6∨k=7∨k=8∨k=9∨k=10∨k=11:=by omega
 · exact eX
 · exact eX
 · exact eX
 · exact MV
 · exact MX
 · exact eX
 · exact eX
 · exact NB
 · exact eX
 · exact NE
 exact eX
theorem Xi(w:World):Ret prog 37 #[] w fun r w'=>∃b,r=.map (some b)∧IMap w' b (Qq Wg 11)∧w.heap.size≤b∧Up w w':=by
 have hW:=Up.refl w
 refine cT 14 func37 rfl (Af (J (Ar ?_)))
 skip
 refine Aa (LW.r REv.makeMap rfl rfl rfl rfl ?_)
 rintro _ w1 ⟨B1,rfl,MB1,uB1,eB1,zB1⟩
 replace hW:=hW.up uB1
 have hM1:=MB1
 refine I (.build (cs:=#[.func (.func 67) #[] #[],.func (.func 68) #[] #[]]) mb mg Du (.cons (.func _) (.cons (.func _) .nil)) rfl) ?_
 replace hM1:IMap _ B1 (Qq Wg 0):=hM1
 refine Bh (.insert (k:=((0+1:Nat):Int)) (v:=Wg ((0+1:Nat):Int)) l9 lh (.t rfl) (.const _) (.t rfl) hM1) ?_
 rintro w2 ⟨Mw2,Kw2,zw2⟩
 rw[F5]at Mw2
 replace hM1:=Mw2
 replace hW:=hW.sto Kw2 oQ
 refine I (.build (cs:=#[.func (.func 69) #[] #[],.func (.func 68) #[] #[]]) mb mg Du (.cons (.func _) (.cons (.func _) .nil)) rfl) (Bh (.insert (k:=((1+1:Nat):Int)) (v:=Wg ((1+1:Nat):Int)) l9 lh (.t rfl) (.const _) (.t rfl) hM1) ?_)
 rintro w3 ⟨Mw3,Kw3,zw3⟩
 rw[F5]at Mw3
 replace hM1:=Mw3
 replace hW:=hW.sto Kw3 oQ
 refine I (.build (cs:=#[.func (.func 70) #[] #[],.func (.func 68) #[] #[]]) mb mg Du (.cons (.func _) (.cons (.func _) .nil)) rfl) (Bh (.insert (k:=((2+1:Nat):Int)) (v:=Wg ((2+1:Nat):Int)) l9 lh (.t rfl) (.const _) (.t rfl) hM1) ?_)
 rintro w4 ⟨Mw4,Kw4,zw4⟩
 rw[F5]at Mw4
 replace hM1:=Mw4
 replace hW:=hW.sto Kw4 oQ
 refine I (.build (cs:=#[.func (.func 71) #[] #[],.func (.func 72) #[] #[]]) mb mg Du (.cons (.func _) (.cons (.func _) .nil)) rfl) (Bh (.insert (k:=((3+1:Nat):Int)) (v:=Wg ((3+1:Nat):Int)) l9 lh (.t rfl) (.const _) (.t rfl) hM1) ?_)
 rintro w5 ⟨Mw5,Kw5,zw5⟩
 rw[F5]at Mw5
 replace hM1:=Mw5
 replace hW:=hW.sto Kw5 oQ
 refine I (.build (cs:=#[.func (.func 73) #[] #[],.func (.func 74) #[] #[]]) mb mg Du (.cons (.func _) (.cons (.func _) .nil)) rfl) (Bh (.insert (k:=((4+1:Nat):Int)) (v:=Wg ((4+1:Nat):Int)) l9 lh (.t rfl) (.const _) (.t rfl) hM1) ?_)
 rintro w6 ⟨Mw6,Kw6,zw6⟩
 rw[F5]at Mw6
 replace hM1:=Mw6
 replace hW:=hW.sto Kw6 oQ
 refine I (.build (cs:=#[.func (.func 75) #[] #[],.func (.func 68) #[] #[]]) mb mg Du (.cons (.func _) (.cons (.func _) .nil)) rfl) (Bh (.insert (k:=((5+1:Nat):Int)) (v:=Wg ((5+1:Nat):Int)) l9 lh (.t rfl) (.const _) (.t rfl) hM1) ?_)
 rintro w7 ⟨Mw7,Kw7,zw7⟩
 rw[F5]at Mw7
 replace hM1:=Mw7
 replace hW:=hW.sto Kw7 oQ
 refine I (.build (cs:=#[.func (.func 76) #[] #[],.func (.func 68) #[] #[]]) mb mg Du (.cons (.func _) (.cons (.func _) .nil)) rfl) (Bh (.insert (k:=((6+1:Nat):Int)) (v:=Wg ((6+1:Nat):Int)) l9 lh (.t rfl) (.const _) (.t rfl) hM1) ?_)
 rintro w8 ⟨Mw8,Kw8,zw8⟩
 rw[F5]at Mw8
 replace hM1:=Mw8
 replace hW:=hW.sto Kw8 oQ
 refine I (.build (cs:=#[.func (.func 77) #[] #[],.func (.func 78) #[] #[]]) mb mg Du (.cons (.func _) (.cons (.func _) .nil)) rfl) (Bh (.insert (k:=((7+1:Nat):Int)) (v:=Wg ((7+1:Nat):Int)) l9 lh (.t rfl) (.const _) (.t rfl) hM1) ?_)
 rintro w9 ⟨Mw9,Kw9,zw9⟩
 rw[F5]at Mw9
 replace hM1:=Mw9
 replace hW:=hW.sto Kw9 oQ
 refine I (.build (cs:=#[.func (.func 79) #[] #[],.func (.func 68) #[] #[]]) mb mg Du (.cons (.func _) (.cons (.func _) .nil)) rfl) (Bh (.insert (k:=((8+1:Nat):Int)) (v:=Wg ((8+1:Nat):Int)) l9 lh (.t rfl) (.const _) (.t rfl) hM1) ?_)
 rintro w10 ⟨Mw10,Kw10,zw10⟩
 rw[F5]at Mw10
 replace hM1:=Mw10
 replace hW:=hW.sto Kw10 oQ
 refine I (.build (cs:=#[.func (.func 80) #[] #[],.func (.func 81) #[] #[]]) mb mg Du (.cons (.func _) (.cons (.func _) .nil)) rfl) (Bh (.insert (k:=((9+1:Nat):Int)) (v:=Wg ((9+1:Nat):Int)) l9 lh (.t rfl) (.const _) (.t rfl) hM1) ?_)
 rintro w11 ⟨Mw11,Kw11,zw11⟩
 rw[F5]at Mw11
 replace hM1:=Mw11
 replace hW:=hW.sto Kw11 oQ
 refine I (.build (cs:=#[.func (.func 82) #[] #[],.func (.func 68) #[] #[]]) mb mg Du (.cons (.func _) (.cons (.func _) .nil)) rfl) (Bh (.insert (k:=((10+1:Nat):Int)) (v:=Wg ((10+1:Nat):Int)) l9 lh (.t rfl) (.const _) (.t rfl) hM1) ?_)
 rintro w12 ⟨Mw12,Kw12,zw12⟩
 rw[F5]at Mw12
 replace hM1:=Mw12
 replace hW:=hW.sto Kw12 oQ
 refine Ac rfl (LW.A rfl (Ai (Aj (KW.q ?_))))
 exact⟨_,rfl,hM1,by omega,hW⟩
end Go.Proofs.YtbcnnkfopoiifaaGreatDoor
namespace Go.Wx
abbrev Dw:=List (List UInt8×Fact)
def Fi(m:Dw)(k:List UInt8):Option Fact:=(m.find? fun p=>p.1==k).map (·.2)
def Kg(m:Dw)(k:List UInt8)(f:Fact):Dw:=if k∈m.map (·.1)then m.map (fun p=>if p.1=k then(k,f)else p)else m++[(k,f)]
def E9(m:Dw):List (List UInt8×Go.Value):=m.map fun p=>(p.1,.agg p.2.cells)
theorem Jq(m:Dw):(E9 m).map (·.1)=m.map (·.1):=by simp[E9]
theorem Qt(m:Dw)(k:List UInt8)(f:Fact):Ms.Hn (E9 m) k (.agg f.cells)=E9 (Kg m k f):=by
 unfold Ms.Hn Kg
 rw[Jq]
 split
 · simp only[E9,f5]
   apply fu
   intro p _
   simp only[Function.comp]
   split<;>rfl
 simp[E9]
theorem N5{m:Dw}{k:List UInt8}{f:Fact}(h:Fi m k=some f):(k,.agg f.cells)∈E9 m:=by
 unfold Fi at h
 cases hf:m.find? (fun p=>p.1==k)with
 |none=>rw[hf]at h;cases h
 |some p=>
   rw[hf]at h
   have h1:=d_ hf
   have h2:(p.1==k)=true:=gz (p:=fun p:List UInt8×Fact=>p.1==k) hf
   have h3:=eq_of_beq h2
   simp at h
   refine aq.2 ⟨p,h1,?_⟩
   rw[h3,h]
theorem Lj{m:Dw}{k:List UInt8}(h:Fi m k=none):k∉(E9 m).map (·.1):=by
 rw[Jq]
 intro hm
 obtain⟨p,hp,e⟩:=aq.1 hm
 unfold Fi at h
 rw[Option.map_eq_none_iff,ge]at h
 exact h p hp (by simp[e])
def Cy(day:Int)(m:Dw)(f:Fact):Dw:=if Bm f=[]∨day<f.Day then m else match Fi m (Bm f)with
 |none=>Kg m (Bm f) f
 |some old=>if Dz f old=true then Kg m (Bm f) f else m
def Bj(l:List Fact)(day:Int):Dw:=l.foldl (Cy day) []
theorem Lk{l:List Fact}{day:Int}{k:Nat}{x:Fact}(h:l[k]?=some x):Bj (l.take (k+1)) day=Cy day (Bj (l.take k) day) x:=by
 rw[C8 h,Bj,ew];rfl
theorem N6{day:Int}{m:Dw}{x:Fact}(h:Bm x=[]∨day<x.Day):Cy day m x=m:=by rw[Cy,ak h]
theorem Ut{day:Int}{m:Dw}{x:Fact}(h:¬(Bm x=[]∨day<x.Day))(hg:Fi m (Bm x)=none):Cy day m x=Kg m (Bm x) x:=by rw[Cy,ae h,hg]
theorem Uu{day:Int}{m:Dw}{x old:Fact}(h:¬(Bm x=[]∨day<x.Day))(hg:Fi m (Bm x)=some old)(hp:Dz x old=true):Cy day m x=Kg m (Bm x) x:=by rw[Cy,ae h,hg];simp[hp]
theorem Uv{day:Int}{m:Dw}{x old:Fact}(h:¬(Bm x=[]∨day<x.Day))(hg:Fi m (Bm x)=some old)(hp:Dz x old=false):Cy day m x=m:=by rw[Cy,ae h,hg];simp[hp]
def MOk(m:Dw):Prop:=∀p∈m,p.1=Bm p.2∧Bw p.2=true
theorem Hh{f:Fact}(h:Bm f≠[]):Bw f=true:=by
 cases hv:Bw f with
 |true=>rfl
 |false=>rw[Bm,ae (by rw[hv];exact bi)]at h;exact absurd rfl h
theorem MOk.set{m:Dw}{f:Fact}(h:MOk m)(hf:Bw f=true):MOk (Kg m (Bm f) f):=by
 intro p hp
 unfold Kg at hp
 split at hp
 · obtain⟨q,hq,e⟩:=aq.1 hp
   split at e
   · rw[←e];exact⟨rfl,hf⟩
   rw[←e];exact h q hq
 rcases be.1 hp with hp|hp
 · exact h p hp
 simp at hp;rw[hp];exact⟨rfl,hf⟩
theorem bS(m:Dw)(k:List UInt8)(f:Fact):(Kg m k f).length≤m.length+1:=by
 unfold Kg
 split<;>simp
theorem MOk.step{m:Dw}(h:MOk m)(day:Int)(f:Fact):MOk (Cy day m f)∧(Cy day m f).length≤m.length+1:=by
 unfold Cy
 split
 · exact⟨h,by omega⟩
 rename_i hk
 have hv:Bw f=true:=Hh fun e=>hk (.inl e)
 split
 · exact⟨h.set hv,bS _ _ _⟩
 split
 · exact⟨h.set hv,bS _ _ _⟩
 exact⟨h,by omega⟩
theorem Io(day:Int):∀(l:List Fact),MOk (Bj l day)∧(Bj l day).length≤l.length:=by
 have:∀(l:List Fact)(m:Dw),MOk m→MOk (l.foldl (Cy day) m)∧(l.foldl (Cy day) m).length≤m.length+l.length:=by
   intro l
   induction l with
   |nil=>intro m h;exact⟨h,by simp⟩
   |cons x l ih=>
     intro m h
     have h1:=h.step day x
     have h2:=ih _ h1.1
     exact⟨h2.1,by have:=h2.2;simp only[gl,b9];omega⟩
 intro l
 have h:=this l [] (fun p hp=>by simp at hp)
 exact⟨h.1,by have:=h.2;simp only[da,dp]at this;exact this⟩
def Er(dn:List Int)(ds:List Fact)(j:Nat):List Fact:=
 if((j+1:Nat):Int)∈dn then Hl (Ff ((j+1:Nat):Int)) (ds.filter fun f=> !f.Gone&&decide (f.Kind=((j+1:Nat):Int)))else ds.filter fun f=> !f.Gone&&decide (f.Kind=((j+1:Nat):Int))
def bT(dn:List Int)(ds:List Fact):List (List Fact):=(List.range 11).map (Er dn ds)
theorem Ji(dn:List Int)(ds:List Fact):(bT dn ds).length=11:=by simp[bT]
theorem He(dn:List Int)(ds:List Fact){j:Nat}(hj:j<11):(bT dn ds)[j]?=some (Er dn ds j):=by simp[bT,hj]
theorem rK{ds:List Fact}{x:Fact}(h:x.Gone=true):bT [] (ds++[x])=bT [] ds:=by
 unfold bT
 apply fu
 intro j _
 simp[Er,h]
theorem yE{ds:List Fact}{x:Fact}{j:Nat}(h:x.Gone=false)(hj:j<11)(hk:x.Kind=((j+1:Nat):Int)):bT [] (ds++[x])=(bT [] ds).set j (Er [] ds j++[x]):=by
 apply ck
 intro i
 rw[f7]
 by_cases e:j=i
 · subst e
   rw[ak rfl,ak (by rw[Ji];exact hj),He _ _ hj]
   simp[Er,h,hk]
 rw[ae e]
 by_cases hi:i<11
 · rw[He _ _ hi,He _ _ hi]
   have:decide (x.Kind=((i+1:Nat):Int))=false:=bg oQ
   simp only[Er,j9,if_false,cj]
   rw[de,ae (by rw[this,ji];exact bi)]
   simp
 rw[cw (by rw[Ji];omega),cw (by rw[Ji];omega)]
theorem rL{dn:List Int}{ds:List Fact}{j:Nat}(hj:j<11)(hn:((j+1:Nat):Int)∉dn):(bT dn ds).set j (Hl (Ff ((j+1:Nat):Int)) (Er dn ds j))=bT (dn++[((j+1:Nat):Int)]) ds:=by
 apply ck
 intro i
 rw[f7]
 by_cases e:j=i
 · subst e
   rw[ak rfl,ak (by rw[Ji];exact hj),He _ _ hj]
   unfold Er
   rw[ae hn,ak (fk _ (aa.2 rfl))]
 rw[ae e]
 by_cases hi:i<11
 · rw[He _ _ hi,He _ _ hi]
   have:((i+1:Nat):Int)≠((j+1:Nat):Int):=by omega
   simp only[Er,be,aa,this,b8]
 rw[cw (by rw[Ji];omega),cw (by rw[Ji];omega)]
theorem Qu(dn:List Int)(ds:List Fact)(j:Nat):(Er dn ds j).length≤ds.length:=by
 unfold Er
 split
 · rw[(El _).same.length];exact cm _ _
 exact cm _ _
theorem yF:bT [] []=List.replicate 11 ([]:List Fact):=by
 rfl
theorem yG(vs:List Go.Value)(j:Nat)(v:Go.Value):vs.toArray.setIfInBounds j v=(vs.set j v).toArray:=by simp
theorem Rz{x:Fact}(h:Bm x=[]):((⟨(Bm x).toArray⟩:ByteArray).toList==(⟨#[]⟩:ByteArray).toList)=true:=by rw[Fs,Fs,h];rfl
theorem Uw{x:Fact}(h:Bm x≠[]):((⟨(Bm x).toArray⟩:ByteArray).toList==(⟨#[]⟩:ByteArray).toList)=false:=by
 rw[Fs,Fs]
 simpa using h
theorem Jj{vs:List Go.Value}(h:vs.length=11):∃v0 v1 v2 v3 v4 v5 v6 v7 v8 v9 v10,vs=[v0,v1,v2,v3,v4,v5,v6,v7,v8,v9,v10]:=by
 match vs,h with
 |[v0,v1,v2,v3,v4,v5,v6,v7,v8,v9,v10],_=>exact⟨v0,v1,v2,v3,v4,v5,v6,v7,v8,v9,v10,rfl⟩
def Xj(ds:List Fact):Base:=⟨Er [1] ds 0,Er [2] ds 1,Er [3] ds 2,Er [4] ds 3,Er [5] ds 4,Er [6] ds 5,Er [7] ds 6,Er [8] ds 7,Er [9] ds 8,Er [10] ds 9,Er [11] ds 10⟩
theorem bU{dn:List Int}{ds:List Fact}{j:Nat}(h:((j+1:Nat):Int)∈dn):Er dn ds j=Er [((j+1:Nat):Int)] ds j:=by
 unfold Er
 rw[ak h,ak (aa.2 rfl)]
theorem Ux{ds:List Fact}{x:Fact}(h:(ds.map Bm).Nodup)(hf:Bm x∉ds.map Bm):((ds++[x]).map Bm).Nodup:=by
 rw[cq,dl]
 exact⟨h,by simp,fun a ha c hc=>by simp at hc;subst hc;exact fun e=>hf (e▸ha)⟩
theorem Uy{ds:List Fact}{M:Dw}(h:∀f∈ds,(Bm f,f)∈M)(hn:(ds.map Bm).Nodup):ds.length≤M.length:=by
 have:=hn.length_le_of_subset (l₂:=M.map (·.1)) (fun k hk=>by
   obtain⟨f,hf,rfl⟩:=aq.1 hk
   exact aq.2 ⟨_,h f hf,rfl⟩)
 simpa using this
theorem Uz{ds:List Fact}{M:Dw}{x:Fact}(h:∀f∈ds,(Bm f,f)∈M)(hn:(ds.map Bm).Nodup)(hx:(Bm x,x)∈M)(hf:Bm x∉ds.map Bm):ds.length+1≤M.length:=by
 have:=Uy (ds:=ds++[x]) (M:=M) (fun f hf=>by rcases be.1 hf with hf|hf;exact h f hf;simp at hf;rw[hf];exact hx) (Ux hn hf)
 simpa using this
theorem mW{dn:List Int}(h:dn.Nodup∧∀k∈dn,1≤k∧k≤11):dn.length≤11:=by
 have:=h.1.length_le_of_subset (l₂:=[1,2,3,4,5,6,7,8,9,10,11]) (fun k hk=>by
   have:=h.2 k hk
   simp;omega)
 simpa using this
theorem Xk{dn:List Int}{k:Int}(h:dn.Nodup∧∀k∈dn,1≤k∧k≤11)(hk:1≤k∧k≤11)(hf:k∉dn):dn.length+1≤11:=by
 have:=mW (dn:=dn++[k]) ⟨dl.2 ⟨h.1,by simp,fun a ha c hc=>by simp at hc;subst hc;exact fun e=>hf (e▸ha)⟩,fun q hq=>by rcases be.1 hq with hq|hq;exact h.2 q hq;simp at hq;rw[hq];exact hk⟩
 simpa using this
theorem rM{α:Type}{vs:List α}{j:Nat}{v:α}(h:vs[j]?=some v):vs.set j v=vs:=by
 apply ck
 intro i
 rw[f7]
 by_cases e:j=i
 · subst e
   rw[ak rfl,ak (ai.1 h).1,h]
 rw[ae e]
theorem Gs{e:Nat}{dn:List Int}{ds:List Fact}{vs:List Go.Value}{w:World}(h:(E8 (lists e 19 Fact.cells vs (bT dn ds))).holds w){j:Nat}{v:Go.Value}(hv:vs[j]?=some v)(hj:j<11)(hin:((j+1:Nat):Int)∈dn):Sl w v 19 Fact.cells (Er [((j+1:Nat):Int)] ds j):=by
 have:=(Li h hv (He _ _ hj)).sl (fun _=>rfl)
 rwa [bU hin]at this
theorem rN{e:Nat}{dn:List Int}{ds:List Fact}{vs:List Go.Value}{w:World}(h:(E8 (lists e 19 Fact.cells vs (bT dn ds))).holds w){j:Nat}{v:Go.Value}(hv:vs[j]?=some v)(hj:j<11)(hin:((j+1:Nat):Int)∈dn):OwnS w 0 e 19 Fact.cells v (Er [((j+1:Nat):Int)] ds j):=by
 have:=Li h hv (He _ _ hj)
 rwa [bU hin]at this
def BaseB(base:Nat)(bc:Array Go.Value):Prop:=∀(j:Nat)(v:Go.Value),bc[j]?=some v→∀i,v.ownBlock=some i→base≤i
theorem Sl.mX{α:Type}{S:Nat→Prop}{w w':World}{base k:Nat}{v:Go.Value}{enc:α→Array Go.Value}{xs:List α}(h:Sl w v k enc xs)(hb:∀i,v.ownBlock=some i→base≤i)(f:Fr S w w')(hS:∀i,S i→i<base):Sl w' v k enc xs:=by
 obtain⟨ad,c,rfl,hE⟩:=h
 refine⟨ad,c,rfl,Els.fr hE f fun B o ea hSB=>?_⟩
 subst ea
 have h1:=hb B rfl
 have h2:=hS B hSB
 omega
theorem BaseC.mX{S:Nat→Prop}{w w':World}{base:Nat}{bc:Array Go.Value}{b:Base}(h:BaseC w bc b)(hb:BaseB base bc)(f:Fr S w w')(hS:∀i,S i→i<base):BaseC w' bc b:=by
 obtain⟨v0,v1,v2,v3,v4,v5,v6,v7,v8,v9,v10,rfl,h0,h1,h2,h3,h4,h5,h6,h7,h8,h9,h10⟩:=h
 exact⟨v0,v1,v2,v3,v4,v5,v6,v7,v8,v9,v10,rfl,h0.mX (hb 0 _ rfl) f hS,h1.mX (hb 1 _ rfl) f hS,h2.mX (hb 2 _ rfl) f hS,h3.mX (hb 3 _ rfl) f hS,h4.mX (hb 4 _ rfl) f hS,h5.mX (hb 5 _ rfl) f hS,h6.mX (hb 6 _ rfl) f hS,h7.mX (hb 7 _ rfl) f hS,h8.mX (hb 8 _ rfl) f hS,h9.mX (hb 9 _ rfl) f hS,h10.mX (hb 10 _ rfl) f hS⟩
theorem gD{α:Type}{e k base:Nat}{enc:α→Array Go.Value}{vs:List Go.Value}{xss:List (List α)}(hl:vs.length=xss.length)(h:∀i,(E8 (lists e k enc vs xss)).foot i→base≤i):BaseB base vs.toArray:=fun j v hv i hi=>by
 have hv2:vs[j]?=some v:=by simpa using hv
 have hlt:=(ai.1 hv2).1
 obtain⟨xs,hx⟩:=Av (xs:=xss) (i:=j) oQ
 exact h i ⟨_,am (N4 hv2 hx),hi⟩
theorem yH{vs:List Go.Value}(h:∀v∈vs,v.oneCell'=true):vs.toArray.all (·.oneCell')=true:=by
 rw[bz]
 intro v hv
 exact h v (by simpa using hv)
theorem Pn{α:Type}{key:α→K2}{l s:List α}(h:l.Perm s)(hd:∀x∈l,∀y∈l,key x=key y→x=y):Hl key l=Hl key s:=by
 have hs:sameF key l s:=fun k=>by
   have hp:=h.filter (fun x=>key x==k)
   cases e:l.filter (fun x=>key x==k)with
   |nil=>rw[e]at hp;exact hp.symm.eq_nil
   |cons x r=>
     have all:∀y∈l.filter (fun x=>key x==k),y=x:=fun y hy=>by
       have hx:x∈l.filter (fun x=>key x==k):=by rw[e];exact bp
       rw[bx]at hx hy
       exact hd _ hy.1 _ hx.1 ((eq_of_beq hy.2).trans (eq_of_beq hx.2).symm)
     have h1:l.filter (fun x=>key x==k)=List.replicate (l.filter (fun x=>key x==k)).length x:=List.eq_replicate_iff.2 ⟨rfl,all⟩
     have h2:s.filter (fun x=>key x==k)=List.replicate (l.filter (fun x=>key x==k)).length x:=List.eq_replicate_iff.2 ⟨hp.length_eq.symm,fun y hy=>all y (hp.symm.subset hy)⟩
     rw[h2,←h1,e]
 have:StS key l (Hl key s):=⟨(El s).ord,hs.trans (El s).same⟩
 exact this.eq.symm
theorem L9{k:Int}{f g:Fact}(hf:Bw f=true)(hg:Bw g=true)(hkf:f.Kind=k)(hkg:g.Kind=k)(h:Ff k f=Ff k g):Bm f=Bm g:=by
 have hk:=Dq hf
 rw[hkf]at hk
 unfold Bm Pf
 rw[ak hf,ak hg,hkf,hkg]
 have hc:k=1∨k=2∨k=3∨k=4∨k=5∨k=6∨k=7∨k=8∨k=9∨k=10∨k=11:=by omega
 rcases hc with rfl|rfl|rfl|rfl|rfl|rfl|rfl|rfl|rfl|rfl|rfl
 · replace h:(f.ID,(0:Int))=(g.ID,(0:Int)):=h
   show Cc [1,f.ID]=Cc [1,g.ID]
   rw[(fw h).1]
 · replace h:(f.ID,(0:Int))=(g.ID,(0:Int)):=h
   show Cc [2,f.ID]=Cc [2,g.ID]
   rw[(fw h).1]
 · replace h:(f.ID,(0:Int))=(g.ID,(0:Int)):=h
   show Cc [3,f.ID]=Cc [3,g.ID]
   rw[(fw h).1]
 · replace h:(f.Wafer,f.Time)=(g.Wafer,g.Time):=h
   show Cc [4,f.Wafer,f.Time]=Cc [4,g.Wafer,g.Time]
   rw[(fw h).1,(fw h).2]
 · replace h:(f.Product,(0:Int))=(g.Product,(0:Int)):=h
   show Cc [5,f.Product]=Cc [5,g.Product]
   rw[(fw h).1]
 · replace h:(f.ID,(0:Int))=(g.ID,(0:Int)):=h
   show Cc [6,f.ID]=Cc [6,g.ID]
   rw[(fw h).1]
 · replace h:(f.ID,(0:Int))=(g.ID,(0:Int)):=h
   show Cc [7,f.ID]=Cc [7,g.ID]
   rw[(fw h).1]
 · replace h:(f.Other,f.Parties)=(g.Other,g.Parties):=h
   show Cc [8,f.Other,f.Parties]=Cc [8,g.Other,g.Parties]
   rw[(fw h).1,(fw h).2]
 · replace h:(f.ID,(0:Int))=(g.ID,(0:Int)):=h
   show Cc [9,f.ID]=Cc [9,g.ID]
   rw[(fw h).1]
 · replace h:(f.Recipe,f.Time)=(g.Recipe,g.Time):=h
   show Cc [10,f.Recipe,f.Time]=Cc [10,g.Recipe,g.Time]
   rw[(fw h).1,(fw h).2]
 replace h:(f.ID,(0:Int))=(g.ID,(0:Int)):=h
 show Cc [11,f.ID]=Cc [11,g.ID]
 rw[(fw h).1]
theorem Xl(m:Dw)(k:List UInt8)(f:Fact):(Kg m k f).map (·.1)=if k∈m.map (·.1)then m.map (·.1)else m.map (·.1)++[k]:=by
 unfold Kg
 split
 · rw[f5]
   apply fu
   intro p _
   simp only[Function.comp]
   split
   · rename_i e;exact e.symm
   rfl
 simp
theorem U0{m:Dw}(h:(m.map (·.1)).Nodup)(k:List UInt8)(f:Fact):((Kg m k f).map (·.1)).Nodup:=by
 rw[Xl]
 split
 · exact h
 rename_i hn
 rw[dl]
 exact⟨h,by simp,fun a ha c hc=>by cases aa.1 hc;exact fun e=>hn (e▸ha)⟩
theorem U1{m:Dw}(h:(m.map (·.1)).Nodup)(day:Int)(f:Fact):((Cy day m f).map (·.1)).Nodup:=by
 unfold Cy
 split
 · exact h
 split
 · exact U0 h _ _
 split
 · exact U0 h _ _
 exact h
theorem Hi(l:List Fact)(day:Int):((Bj l day).map (·.1)).Nodup:=by
 have:∀(l:List Fact)(m:Dw),(m.map (·.1)).Nodup→((l.foldl (Cy day) m).map (·.1)).Nodup:=by
   intro l
   induction l with
   |nil=>exact fun m h=>h
   |cons x l ih=>exact fun m h=>ih _ (U1 h day x)
 exact this l [] dz
theorem Xm{m:Dw}(h:(m.map (·.1)).Nodup){k:List UInt8}{f g:Fact}(hf:(k,f)∈m)(hg:(k,g)∈m):f=g:=by
 induction m with
 |nil=>cases hf
 |cons p m ih=>
   rw[cy,gk]at h
   rcases ap.1 hf with e|hf'<;>rcases ap.1 hg with e'|hg'
   · rw[←e']at e;cases e;rfl
   · exact absurd (aq.2 ⟨_,hg',by rw[←e]⟩) h.1
   · exact absurd (aq.2 ⟨_,hf',by rw[←e']⟩) h.1
   exact ih h.2 hf' hg'
def Fp(m:Dw):List Fact:=m.map (·.2)
theorem Ii{m:Dw}(h:MOk m){f:Fact}:f∈Fp m↔(Bm f,f)∈m:=by
 constructor
 · intro hf
   obtain⟨⟨k,g⟩,hp,e⟩:=aq.1 hf
   have e:g=f:=e
   subst e
   have:=(h _ hp).1
   have this:k=Bm g:=this
   rw[←this];exact hp
 exact fun hf=>aq.2 ⟨_,hf,rfl⟩
theorem Su{m:Dw}(h:MOk m):(Fp m).map Bm=m.map (·.1):=by
 unfold Fp
 rw[f5]
 apply fu
 intro p hp
 exact(h p hp).1.symm
theorem Jk{α β:Type}{f:α→β}:∀{l:List α},(l.map f).Nodup→l.Nodup
 |[],_=>dz
 |x::l,h=>by
   rw[cy,gk]at h
   exact gk.2 ⟨fun hm=>h.1 (aq.2 ⟨x,hm,rfl⟩),Jk h.2⟩
theorem Ir{α:Type}{l s:List α}(hl:l.Nodup)(hs:s.Nodup)(h:∀x,x∈l↔x∈s):l.Perm s:=(ij hl hs).2 h
theorem Xn{ds:List Fact}{m:Dw}(hm:MOk m)(hn:(m.map (·.1)).Nodup)(h:∀f∈ds,(Bm f,f)∈m)(hp:(ds.map Bm).Perm (m.map (·.1))):ds.Perm (Fp m):=by
 refine Ir (Jk (f:=Bm) (hp.nodup_iff.2 hn)) (Jk (f:=Bm) (by rw[Su hm];exact hn)) fun x=>?_
 rw[Ii hm]
 refine⟨h x,fun hx=>?_⟩
 obtain⟨y,hy,e⟩:=aq.1 (hp.symm.subset (aq.2 ⟨_,hx,rfl⟩))
 have e:Bm y=Bm x:=e
 have:=h y hy
 rw[e]at this
 rw[Xm hn hx this];exact hy
theorem gE{m:Dw}(hm:MOk m)(hn:(m.map (·.1)).Nodup){f g:Fact}(hf:f∈Fp m)(hg:g∈Fp m)(e:Bm f=Bm g):f=g:=by
 rw[Ii hm]at hf hg
 rw[e]at hf
 exact Xm hn hf hg
theorem Dl{m:Dw}(hm:MOk m)(hn:(m.map (·.1)).Nodup){ds:List Fact}(h:ds.Perm (Fp m))(dn:List Int)(j:Nat)(hj:((j+1:Nat):Int)∈dn):Er dn ds j=Er dn (Fp m) j:=by
 unfold Er
 rw[ak hj,ak hj]
 refine Pn (h.filter _) fun x hx y hy e=>?_
 rw[bx]at hx hy
 have hxm:=h.subset hx.1
 have hym:=h.subset hy.1
 have vx:=(hm _ ((Ii hm).1 hxm)).2
 have vy:=(hm _ ((Ii hm).1 hym)).2
 simp only[aw,fi]at hx hy
 exact gE hm hn hxm hym (L9 vx vy hx.2.2 hy.2.2 e)
def Dj(l:List Fact)(day:Int):Base:=Xj (Fp (Bj l day))
theorem EF{ds:List Fact}{l:List Fact}{day:Int}(h:∀f∈ds,(Bm f,f)∈Bj l day)(hp:(ds.map Bm).Perm ((Bj l day).map (·.1))):Xj ds=Dj l day:=by
 have hm:=(Io day l).1
 have hn:=Hi l day
 have h1:=Xn hm hn h hp
 unfold Dj Xj
 rw[Dl hm hn h1 [1] 0 cQ,Dl hm hn h1 [2] 1 cQ,Dl hm hn h1 [3] 2 cQ,Dl hm hn h1 [4] 3 cQ,Dl hm hn h1 [5] 4 cQ,Dl hm hn h1 [6] 5 cQ,Dl hm hn h1 [7] 6 cQ,Dl hm hn h1 [8] 7 cQ,Dl hm hn h1 [9] 8 cQ,Dl hm hn h1 [10] 9 cQ,Dl hm hn h1 [11] 10 (by decide)]
end Go.Wx
namespace Go.Proofs.YtbcnnkfopoiifaaGreatDoor
open Go.Proofs.Tryz
open Go.Wx Go.RowKit
set_option maxHeartbeats 8000000 in
theorem yI(ad:Option Addr)(cp:Nat)(l:List Fact)(day:Int)(w:World)(hE0:Els w ad 19 Fact.cells l)(hl:l.length≤100000):Ret prog 28 #[.slice ad l.length cp,vi day] w fun r w'=>∃bc ds,r=.agg bc∧BaseC w' bc (Xj ds)∧(∀f∈ds,(Bm f,f)∈Bj l day)∧(ds.map Bm).Perm ((Bj l day).map (·.1))∧BaseB w.heap.size bc∧(∃v,bc[0]?=some v∧OwnS w' 0 51 19 Fact.cells v (Xj ds).Processes)∧Up w w':=by
 obtain⟨w0,rfl,hS⟩:=W0 w
 refine cT 91 func28 rfl (Af (Ao (.Bi mp) rfl ?_))
 rintro _ w1 ⟨B4,rfl,NB4⟩
 replace hS:=hS.Bn NB4
 refine Ar (Aa (LW.r Ms.REv.makeMap rfl rfl rfl rfl ?_))
 rintro _ w2 ⟨B18,rfl,M18,u18,e18,z18⟩
 replace hS:=hS.add u18 (A':=Ms.Be B18 (E9 [])) M18 (fun i(e:i=B18)=>by omega)
 refine LW.A rfl (Ar (Af (Ac rfl (I (.Df k6 (.t rfl)) (I (.move (.const _)) (Ai (Ap (A9 (σ:=Nat) (fun s w=>(s≤l.length)∧(Wx.Sep no w0 w [Ch B4 #[.slice none 0 0,.slice none 0 0,.slice none 0 0,.slice none 0 0,.slice none 0 0,.slice none 0 0,.slice none 0 0,.slice none 0 0,.slice none 0 0,.slice none 0 0,.slice none 0 0] 39,Ms.Be B18 (E9 (Bj (l.take s) day))])) (fun s=>[(21,.eq (vi (s:Int)))]) ([(1,.eq _),(4,.eq _),(5,.eq _),(19,.eq _),(20,.eq _)]) (fun s=>l.length-s) 0 ?_ tQ ?_))))))))
 ·exact⟨ao _,hS⟩
 rintro k w3 ⟨hkk,hS⟩
 refine Af (I (.l2 rfl rfl) (Ar (CW.b rfl (fun h22=>?_) (fun h22=>?_))))
 ·replace h22:=dQ h22
  refine Ak (Ab (Al (Ap (Al ?_))))
  have hE:=Els.up hE0 hS.Cj
  have hkl:k<l.length:=by simp at h22;omega
  refine Aa ?_
  obtain⟨x,hx⟩:=Av (xs:=l) (i:=k) oQ
  obtain⟨Bx,ox,ax,hcx⟩:=hE _ x hx
  refine I (.Ay k6 k7 (.t rfl) (.t rfl) oQ ax) (I (.lc rfl (hcx)) (Ao (.Bi k_) rfl ?_))
  rintro _ w4 ⟨B7,rfl,MB7⟩
  refine Bh (.A5 k7 rfl (.t rfl) (.t rfl) eQ MB7.blk rfl) ?_
  intro w5 LB7
  have NB7:=MB7.set LB7
  replace hcx:=hcx.up NB7.up
  replace hS:=hS.Bn NB7
  refine Ar (Aa (I (.lc rfl (hS.b2.agg)) (A3 (eC (.o rfl) (pM)) rfl (Ql x _) ?_)))
  rintro _ w6 ⟨rfl,uw6⟩
  replace hS:=hS.up uw6
  refine LW.A rfl (Ar (Al ?_))
  cases hq6:decide (Bm x=[])with
  |true=>
   replace hq6:=bj hq6
   refine Aa (Ac rfl (I (.tr (Gp (.t rfl) (.const _)) (Rz hq6)) (Ac rfl (E4 (E4 (E4 (E4 (I (.tr (PEv.Ee (b:=false) (.t rfl) (fun hp=>absurd (show true=false from hp) cQ)) (rfl)) (Ai (CW.v rfl (A7 (Ad (Au (Ab (Aa (I (.ic rfl oQ) (Ac rfl (LW.nil (Aq ?_)))))))))))))))))))
   exact⟨k+1,⟨by omega,by rw[Lk hx];(rw[N6 (.inl hq6)];exact hS.take 2)⟩,tQ,by omega⟩
  |false=>
   replace hq6:=db hq6
   refine Aa (Ac rfl (I (.fa (Gp (.t rfl) (.const _)) (Uw hq6)) (Ac rfl (Cq (I (.fB 3 rfl) (Cq (I (.lb rfl (hS.b2.An rfl)) (Cq (Ac rfl (Cq (I (.gtr (.t rfl) (.t rfl)) (I (.po rfl (fun hp=>(by exact .tmp rfl))) (Ai (CW.b rfl (fun h34=>?_) (fun h34=>?_)))))))))))))))
   ·replace h34:=dQ h34
    skip
    refine A7 (Ad (Au (Ab (Aa (I (.ic rfl oQ) (Ac rfl (LW.nil (Aq ?_))))))))
    exact⟨k+1,⟨by omega,by rw[Lk hx];(rw[N6 (.inr h34)];exact hS.take 2)⟩,tQ,by omega⟩
   replace h34:=dQ h34
   have hno:¬(Bm x=[]∨day<x.Day):=fun h=>h.elim hq6 (fun h2=>by simp at h34;omega)
   refine Ak (Ab (Al ?_))
   cases hq7:Fi (Bj (l.take k) day) (Bm x)with
   |none=>
    refine Aa (Ac rfl (Ac rfl (I (Ms.PEv.Ha nl lu k_ (.t rfl) (.t rfl) (hS.get 1 rfl) (Lj hq7)) (Ac rfl (I (.xt rfl rfl) (I (.xt rfl rfl) (Ao (.Bi k_) rfl ?_)))))))
    rintro _ w7 ⟨B9,rfl,MB9⟩
    refine Bh (.A5 k7 rfl (.t rfl) (.t rfl) eQ MB9.blk rfl) ?_
    intro w8 LB9
    have NB9:=MB9.set LB9
    replace hS:=hS.Bn NB9
    refine LW.A rfl (Ar (Aa (Ac rfl (I (.tr (PEv.n1 rfl) (rfl)) (Ac rfl (E4 (E4 (E4 (I (.tr (PEv.Ee (b:=false) (.t rfl) (fun hp=>absurd (show true=false from hp) cQ)) (rfl)) (Ai (CW.v rfl (Aa (Ac rfl (Ac rfl (I (.lc rfl (hS.b2.agg)) (Bh (Ms.SEv.mapUpdate nl lu (.t rfl) (.t rfl) (.t rfl) (hS.get 1 rfl)) ?_))))))))))))))))
    rintro w9 ⟨Mu,Ku,zu⟩
    rw[Qt]at Mu
    replace hS:=hS.E5 1 rfl (Ms.Im Mu Ku)
    refine LW.nil (Ae (Ab (Aa (I (.ic rfl oQ) (Ac rfl (LW.nil (Aq ?_)))))))
    exact⟨k+1,⟨by omega,by rw[Lk hx];(rw[Ut hno hq7];exact hS.take 2)⟩,tQ,by omega⟩
   |some old=>
    refine Aa (Ac rfl (Ac rfl (I (Ms.PEv.Ek nl lu (.t rfl) (.t rfl) (hS.get 1 rfl) (N5 hq7)) (Ac rfl (I (.xt rfl rfl) (I (.xt rfl rfl) (Ao (.Bi k_) rfl ?_)))))))
    rintro _ w10 ⟨B9,rfl,MB9⟩
    refine Bh (.A5 k7 rfl (.t rfl) (.t rfl) eQ MB9.blk rfl) ?_
    intro w11 LB9
    have NB9:=MB9.set LB9
    replace hS:=hS.Bn NB9
    refine LW.A rfl (Ar (Aa (Ac rfl (I (.fa (PEv.n1 rfl) (rfl)) (Ac rfl (Cq (I (.lc rfl (hS.b2.agg)) (Cq (I (.lc rfl (hS.b3.agg)) (Cq (A3 (eC (.u rfl rfl) (GK)) rfl (Qn x old _) ?_)))))))))))
    rintro _ w12 ⟨rfl,uw12⟩
    replace hS:=hS.up uw12
    refine I (.po rfl (fun hp=>(by exact .tmp rfl))) (Ai (CW.b rfl (fun h47=>?_) (fun h47=>?_)))
    ·replace h47:Dz x old=true:=by simpa using h47
     refine Aa (Ac rfl (Ac rfl (I (.lc rfl (hS.b2.agg)) (Bh (Ms.SEv.mapUpdate nl lu (.t rfl) (.t rfl) (.t rfl) (hS.get 1 rfl)) ?_))))
     rintro w13 ⟨Mu,Ku,zu⟩
     rw[Qt]at Mu
     replace hS:=hS.E5 1 rfl (Ms.Im Mu Ku)
     refine LW.nil (Ae (Ab (Aa (I (.ic rfl oQ) (Ac rfl (LW.nil (Aq ?_)))))))
     exact⟨k+1,⟨by omega,by rw[Lk hx];(rw[Uu hno hq7 h47];exact hS.take 2)⟩,tQ,by omega⟩
    replace h47:Dz x old=false:=by simpa using h47
    refine Ak (Ae (Ab (Aa (I (.ic rfl oQ) (Ac rfl (LW.nil (Aq ?_)))))))
    exact⟨k+1,⟨by omega,by rw[Lk hx];(rw[Uv hno hq7 h47];exact hS.take 2)⟩,tQ,by omega⟩
 refine A7 (Ad (Ad (Au (Ab (Al ?_)))))
 have hkl:k=l.length:=by simp at h22;omega
 subst hkl
 rw[br]at hS
 obtain⟨M,hM⟩:∃M,M=Bj l day:=⟨_,rfl⟩
 rw[←hM]at hS
 have hMo:=(Io day l).1
 have hMl:=(Io day l).2
 rw[←hM]at hMo hMl
 refine Aa (Ao (.Bi mp) rfl ?_)
 rintro _ w14 ⟨B11,rfl,NB11⟩
 replace hS:=hS.Bn NB11
 refine Ar (Aa (A3 (eC .nil (GI)) rfl (Xi _) ?_))
 rintro _ w15 ⟨bk,rfl,hKm,hKb,uw15⟩
 replace hS:=hS.add uw15 (A':=Be bk (Qq Wg 11)) (hKm) (fun i(e:i=bk)=>by omega)
 refine LW.A rfl (Ar (Al ?_))
 have hLn:=mV 51 19 Fact.cells 11 w15
 replace hS:=hS.add (Up.refl _) (A':=E8 (lists 51 19 Fact.cells (List.replicate 11 (.slice none 0 0)) (List.replicate 11 ([]:List Fact)))) hLn.1 (fun i h=>absurd h (hLn.2 i))
 rw[←yF]at hS
 refine Aa (Ac rfl (Ao (Ms.REv.range nl (.t rfl) (hS.get 1 rfl)) rfl ?_))
 rintro _ w16 ⟨r54,rfl,hR_,uR,eR,zR⟩
 replace hS:=hS.E5 1 rfl (Ms.G4 hR_ uR eR)
 refine Ai (Ap (A9 (σ:=List Fact×List Go.Value) (fun s w=>(∀f∈s.1,(Bm f,f)∈M)∧((s.1.map Bm).Nodup)∧(s.2.length=11)∧(Wx.Sep no w0 w [Ch B4 #[.slice none 0 0,.slice none 0 0,.slice none 0 0,.slice none 0 0,.slice none 0 0,.slice none 0 0,.slice none 0 0,.slice none 0 0,.slice none 0 0,.slice none 0 0,.slice none 0 0] 39,Ms.Gg B18 r54 (E9 M) (s.1.map Bm),Ch B11 s.2.toArray 39,Be bk (Qq Wg 11),E8 (lists 51 19 Fact.cells s.2 (bT [] s.1))])) (fun s=>[]) ([(4,.eq _),(11,.eq _),(12,.eq _),(54,.eq _)]) (fun s=>M.length-s.1.length) ([],List.replicate 11 (.slice none 0 0)) ?_ tQ ?_))
 ·exact⟨fun f h=>by simp at h,dz,rfl,hS⟩
 rintro⟨ds,vs⟩ w17 ⟨hds,hdn,hvl,hS⟩
 dsimp only at hds hdn hvl hS
 refine Af (Ao (Ms.REv.next (.t rfl) (hS.get 1 rfl)) rfl ?_)
 rintro _ w18 (⟨rfl,rfl,hPm⟩|⟨k0,u0,rfl,hNx⟩)
 ·skip
  refine I (.xt rfl rfl) (Ar (CW.f rfl (A7 (Ad (Ad (Au (Ab (Al (Al ?_)))))))))
  have hPd:=hPm
  refine Aa (Ac rfl (Ao (.range l9 (.t rfl) (hS.get 3 rfl)) rfl ?_))
  rintro _ w19 ⟨r77,rfl,hR_,uR,eR,zR⟩
  replace hS:=hS.E5 3 rfl (G4 hR_ uR eR)
  refine Ai (Ap (A9 (σ:=List Int) (fun s w=>(s.Nodup∧∀k∈s,1≤k∧k≤11)∧(Wx.Sep no w0 w [Ch B4 #[.slice none 0 0,.slice none 0 0,.slice none 0 0,.slice none 0 0,.slice none 0 0,.slice none 0 0,.slice none 0 0,.slice none 0 0,.slice none 0 0,.slice none 0 0,.slice none 0 0] 39,Ms.Gg B18 r54 (E9 M) (ds.map Bm),Ch B11 vs.toArray 39,Gg bk r77 (Qq Wg 11) s,E8 (lists 51 19 Fact.cells vs (bT s ds))])) (fun s=>[]) ([(4,.eq _),(11,.eq _),(77,.eq _)]) (fun s=>11-s.length) [] ?_ tQ ?_))
  ·exact⟨⟨dz,fun k h=>by simp at h⟩,hS⟩
  rintro dn w20 ⟨hdk,hS⟩
  refine Af (Ao (.next (.t rfl) (hS.get 3 rfl)) rfl ?_)
  rintro _ w21 (⟨rfl,rfl,hPm⟩|⟨kk,u0,rfl,hNx⟩)
  ·skip
   refine I (.xt rfl rfl) (Ar (CW.f rfl (A7 (Ad (Ad (Au (Ab (Al ?_))))))))
   obtain⟨v0,v1,v2,v3,v4,v5,v6,v7,v8,v9,v10,rfl⟩:=Jj hvl
   have hv1:=Xh (hS.get 4 rfl) (by rw[hvl,Ji])
   refine Aa (I (.lc rfl (hS.b2.agg)) (Bh (.A5 lw rfl (.t rfl) (.t rfl) (yH hv1) hS.b0 rfl) ?_))
   intro w22 Nw22
   have zw22:=Nw22.size
   replace hS:=hS.Co 0 rfl Nw22
   refine Ai (Aj (Dy rfl rfl l7 lw rfl (hS.b0.agg) ⟨_,rfl,?_⟩))
   have hOw:=hS.get 4 rfl
   have hin:∀k:Nat,k<11→((k+1:Nat):Int)∈dn:=fun k hk=>hPm.symm.subset (aq.2 ⟨(((k+1:Nat):Int),Wg ((k+1:Nat):Int)),J6.2 ⟨by omega,by omega,rfl⟩,rfl⟩)
   exact⟨_,ds,rfl,⟨v0,v1,v2,v3,v4,v5,v6,v7,v8,v9,v10,rfl,Gs hOw (j:=0) rfl cQ (hin 0 cQ),Gs hOw (j:=1) rfl cQ (hin 1 cQ),Gs hOw (j:=2) rfl cQ (hin 2 cQ),Gs hOw (j:=3) rfl cQ (hin 3 cQ),Gs hOw (j:=4) rfl cQ (hin 4 cQ),Gs hOw (j:=5) rfl cQ (hin 5 cQ),Gs hOw (j:=6) rfl cQ (hin 6 cQ),Gs hOw (j:=7) rfl cQ (hin 7 cQ),Gs hOw (j:=8) rfl cQ (hin 8 cQ),Gs hOw (j:=9) rfl cQ (hin 9 cQ),Gs hOw (j:=10) rfl cQ (hin 10 cQ)⟩,fun f hf=>hM▸hds f hf,by rw[Jq]at hPd;exact hM▸hPd,gD (by rw[Ji];rfl) (fun i hi=>(hS.foot 4 rfl i hi).resolve_left fun h=>h),⟨v0,rfl,rN hOw (j:=0) rfl cQ (hin 0 cQ)⟩,hS.Cj⟩
  skip
  have zw21:=hNx.size
  replace hS:=hS.E5 3 rfl (H3 hNx)
  obtain⟨hk1,hk2,hu0⟩:=J6.1 hNx.mem
  subst hu0
  have hfr2:=hNx.fresh
  have hkk1:1≤kk∧kk≤11:=⟨hk1,by omega⟩
  replace hk2:kk≤11:=by omega
  obtain⟨j,hj⟩:∃j,j=(kk-1).toNat:=⟨_,rfl⟩
  have hj11:j<11:=by omega
  have hkk2:kk=((j+1:Nat):Int):=by omega
  have hdl:=Uy hds hdn
  obtain⟨v,hvj⟩:=Av (xs:=vs) (i:=j) oQ
  have hdk2:(dn++[kk]).Nodup∧∀k∈dn++[kk],1≤k∧k≤11:=⟨dl.2 ⟨hdk.1,by simp,fun a ha c hc=>by simp at hc;subst hc;exact fun e=>hfr2 (e▸ha)⟩,fun k hk=>(be.1 hk).elim (hdk.2 k) (fun h=>by cases aa.1 h;exact hkk1)⟩
  refine I (.xt rfl rfl) (Ar (CW.v rfl (Ak (Ab (Ap (Al ?_))))))
  skip
  refine Aa (Ao (.entry (.t rfl) hNx.entry) rfl ?_)
  rintro _ _ ⟨rfl,rfl⟩
  refine I (.val (v':=.agg #[.func (.func (K9 kk)) #[] #[],.func (.func (Oz kk)) #[] #[]]) (PEv.xt rfl rfl) rfl) (Ao (.Bi mg) rfl ?_)
  rintro _ w23 ⟨B17,rfl,MB17⟩
  refine Bh (.A5 sizeOf93 rfl (.t rfl) (.t rfl) eQ MB17.blk rfl) ?_
  intro w24 LB17
  have NB17:=MB17.set LB17
  replace hS:=hS.Bn NB17
  refine Ai (Eo 7 [.eq (.pointer (some ⟨B17,0,none⟩)),.eq (.func (.func (K9 kk)) #[] #[]),.eq (.pointer (some ⟨B11,j,none⟩)),.eq (.pointer (some ⟨B11,j,none⟩)),.eq (v),.eq (.pointer (some ⟨B17,1,none⟩)),.eq (.func (.func (Oz kk)) #[] #[])] [86,88] kQ rfl kQ kQ kQ kQ kQ kQ kQ uQ ?_ ?_)
  ·intro W hU0
   have hU:=(Up.drew w24).trans hU0
   refine aC ⟨rfl,TU.p (.fB 0 rfl) rfl⟩ (aC ⟨rfl,TU.p (.lb rfl ((hS.b5.up hU).An rfl)) rfl⟩ (aC ⟨rfl,TU.c (Ft (.t rfl) (.cu rfl) (Tl kk hk1 hk2)) (Qr kk hk1 hk2 B11 _) (by rintro _ W1 ⟨rfl,u⟩;exact⟨u,by rw[hj];rfl⟩)⟩ (aC ⟨rfl,TU.p (.nc rfl) rfl⟩ (aC ⟨rfl,TU.p (.lb rfl ((hS.b2.up hU).cell (by simpa using hvj))) rfl⟩ (aC ⟨rfl,TU.p (.fB 1 rfl) rfl⟩ (aC ⟨rfl,TU.p (.lb rfl ((hS.b5.up hU).An rfl)) rfl⟩ ?_))))))
   exact allL.nil
  intro w25 g hU0 hg
  have hU:=(Up.drew w24).trans hU0
  replace hS:=hS.up hU
  have e86:g 86=v:=hg 4 _ 86 cQ rfl rfl
  have e88:g 88=.func (.func (Oz kk)) #[] #[]:=hg 6 _ 88 cQ rfl rfl
  change LW _ _ _ _ _ _ _ _ ((86,.eq (g 86))::(88,.eq (g 88))::_) _
  rw[e86,e88]
  refine A3 (eC (.u rfl rfl) (GN)) rfl (Uq (Oz kk) (Ff kk) (EE kk hk1 hk2) (fun W x=>yD kk hk1 hk2 x W) v (Er dn ds j) _ (Li (hS.get 4 rfl) hvj (He _ _ hj11)) (by have:=Qu dn ds j;omega)) ?_
  rintro _ w26 ⟨rfl,hSo⟩
  replace hS:=hS.E5 4 rfl (Ur (hS.get 4 rfl) (N4 hvj (He _ _ hj11)) hSo)
  rw[Ry,rM hvj,hkk2]at hS
  refine LW.nil (Ae (Aq ?_))
  exact⟨dn++[kk],⟨hdk2,by rw[hkk2,←rL hj11 (by rw[←hkk2];exact hfr2)];exact hS.take 5⟩,tQ,by have:=Xk hdk hkk1 hfr2;simp;omega⟩
 skip
 have zw18:=hNx.size
 replace hS:=hS.E5 1 rfl (Ms.H3 hNx)
 obtain⟨⟨kx,x⟩,hmem0,he0⟩:=aq.1 hNx.mem
 cases he0
 obtain⟨hkx,hxv⟩:=hMo _ hmem0
 dsimp only at hkx hxv
 subst hkx
 have hmem:=hmem0
 have hfr:=hNx.fresh
 have hk12:1≤x.Kind∧x.Kind≤11:=Dq hxv
 have hds2:∀f∈ds++[x],(Bm f,f)∈M:=fun f hf=>(be.1 hf).elim (hds f) (fun h=>by cases aa.1 h;exact hmem)
 have hdn2:((ds++[x]).map Bm).Nodup:=Ux hdn hfr
 obtain⟨j,hj⟩:∃j,j=(x.Kind-1).toNat:=⟨_,rfl⟩
 have hj11:j<11:=by omega
 have hkj:x.Kind=((j+1:Nat):Int):=by omega
 have hdl:=Uy hds hdn
 have hdl2:=Uz hds hdn hmem hfr
 refine I (.xt rfl rfl) (Ar (CW.v rfl (Ak (Ab (Ap (Af (Ao (Ms.REv.entry (.t rfl) hNx.entry) rfl ?_)))))))
 rintro _ _ ⟨rfl,rfl⟩
 refine I (.xt rfl rfl) (Ao (.Bi k_) rfl ?_)
 rintro _ w27 ⟨B14,rfl,MB14⟩
 refine Bh (.A5 k7 rfl (.t rfl) (.t rfl) eQ MB14.blk rfl) ?_
 intro w28 LB14
 have NB14:=MB14.set LB14
 replace hS:=hS.Bn NB14
 refine Ar ?_
 cases hq16:x.Gone with
 |true=>
  have hgn:=hq16
  refine Aa (I (.fB 4 rfl) (I (.lb rfl (hS.b5.An rfl)) (I (.fa (PEv.n1 rfl) (by rw[hq16];rfl)) (Ai (CW.f rfl (Ak (Ae (Aq ?_))))))))
  exact⟨(ds++[x],vs),⟨hds2,hdn2,hvl,by(rw[rK hgn,cq];exact hS.take 5)⟩,tQ,by show M.length-(ds++[x]).length<M.length-ds.length;have:=Uz hds hdn hmem hfr;simp;omega⟩
 |false=>
  have hgn:=hq16
  refine Aa (I (.fB 4 rfl) (I (.lb rfl (hS.b5.An rfl)) (I (.tr (PEv.n1 rfl) (by rw[hq16];rfl)) (Ai (CW.v rfl (Af (Ac rfl (I (.fB 0 rfl) (I (.lb rfl (hS.b5.An rfl)) (I (.val (v':=.agg #[.func (.func (K9 x.Kind)) #[] #[],.func (.func (Oz x.Kind)) #[] #[]]) (PEv.Ek (ok:=false) l9 lh (.t rfl) (.t rfl) (hS.get 3 rfl) (J6.2 ⟨hk12.1,(show x.Kind≤((11:Nat):Int)from by omega),rfl⟩)) rfl) (I (.fK (off:=0) mb rfl rfl isAgg90 (.t rfl) rfl) (A3 (Ft (.t rfl) (.cu rfl) (Tl x.Kind hk12.1 hk12.2)) rfl (Qr x.Kind hk12.1 hk12.2 B11 _) ?_))))))))))))
  rintro _ w29 ⟨rfl,uw29⟩
  replace hS:=hS.up uw29
  rw[←hj]
  refine LW.A rfl (Ai ?_)
  obtain⟨v,hvj⟩:=Av (xs:=vs) (i:=j) oQ
  refine M3 6 (fun v w''=>Wx.Sep no w0 w'' [Ch B4 #[.slice none 0 0,.slice none 0 0,.slice none 0 0,.slice none 0 0,.slice none 0 0,.slice none 0 0,.slice none 0 0,.slice none 0 0,.slice none 0 0,.slice none 0 0,.slice none 0 0] 39,Ms.Gg B18 r54 (E9 M) (ds.map Bm++[Bm x]),Ch B11 vs.toArray 39,Be bk (Qq Wg 11),E8 ((lists 51 19 Fact.cells vs (bT [] ds)).set j (A8 51 19 Fact.cells v (Er [] ds j++[x]))),Ch B14 x.cells 51]) kQ kQ kQ kQ kQ kQ rfl rfl rfl rfl rfl (Am (.mv rfl) (Am (.mv rfl) (Am (.nc rfl) (Am (.lb rfl (hS.b2.cell (by simpa using hvj))) (Am (.lc rfl (hS.b5.agg)) (HW.r (p:=fun v w=>Sl w v 19 (Fact.cells) [x]) (fun _ _ _ h u=>Sl.up h u) rfl (fun w hu a ha=>let⟨v,w',h1,h2⟩:=REv.buildSlice (xs:=[x]) (enc:=Fact.cells) (mk:=fun f:Fact=>.agg f.cells) k6 k7 k_ rfl bQ (fun _=>rfl) (fun _=>rfl) (.cu rfl) rfl a ha;⟨v,w',h1,h2.q⟩) rfl (HW.nil ⟨fun a w' hu ha=>?_,?_⟩)))))))
  ·exact(REv.open (d:=73) (p:=fun v w=>Sl w v 19 Fact.cells [x]) rfl fun vv hv=>(REv.Cu (bytes:=160) (i:=Tryz.t51) k6 kQ rfl rfl rfl rfl cQ (fun _=>rfl) Fact.one (.t rfl) (.t rfl) (Li ((hS.up hu).get 4 rfl) hvj (He _ _ hj11)) hv (by have:=Qu [] ds j;simp only[b9,da,maxLen];omega) (by have:=Qu [] ds j;simp only[b9,da];omega)).mono fun v' w'' h=>(hS.up hu).E5 4 rfl (Ur ((hS.up hu).get 4 rfl) (N4 hvj (He _ _ hj11)) h)).y ha
  intro v74 w30 hS
  have hv1:v74.oneCell'=true:=by
   have h:=hS.get 4 rfl
   rw[Ry]at h
   exact Xh h (by rw[fx,fx,hvl,Ji]) v74 (am (i:=j) (by rw[List.getElem?_set_self (by omega)]))
  refine I (.nc rfl) (Bh (.store mf (.t rfl) (.t rfl) hv1 hS.b2 (by simp;omega)) ?_)
  intro w31 Nw31
  have zw31:=Nw31.size
  replace hS:=hS.Co 2 rfl (by rw[yG]at Nw31;exact Nw31)
  refine LW.nil (Ae (Aq ?_))
  exact⟨(ds++[x],vs.set j v74),⟨hds2,hdn2,by show(vs.set j v74).length=11;rw[fx];exact hvl,by(rw[yE hgn hj11 hkj,←Ry,cq];exact hS.take 5)⟩,tQ,by show M.length-(ds++[x]).length<M.length-ds.length;have:=Uz hds hdn hmem hfr;simp;omega⟩
theorem rO(ad:Option Addr)(cp:Nat)(l:List Fact)(day:Int)(w:World)(hE0:Els w ad 19 Fact.cells l)(hl:l.length≤100000):Ret prog 28 #[.slice ad l.length cp,vi day] w fun r w'=>∃bc,r=.agg bc∧BaseC w' bc (Dj l day)∧BaseB w.heap.size bc∧Up w w':=
 (yI ad cp l day w hE0 hl).mono fun _ _⟨bc,_,e,hB,h1,h2,h3,_,u⟩=>⟨bc,e,EF h1 h2▸hB,h3,u⟩
end Go.Proofs.YtbcnnkfopoiifaaGreatDoor
