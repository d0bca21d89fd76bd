import Derived.Test.YtbcnnkfopoiifaaGreatDoorKR114
namespace Go.Wx
theorem tA{i:Int}(hi:F8 i)(h:i<0):IntKind.u64.wrap (IntKind.u64.wrap (IntKind.i64.wrap (-(i+1)))+1)=(i.natAbs:Int):=by
 have h1:=hi.1
 rw[Cb (i:= -(i+1)) oQ (by omega)]
 have e:IntKind.u64.wrap (-(i+1))= -(i+1):=by
   show(-(i+1))%(18446744073709551616:Int)=_
   exact j7 oQ oQ
 rw[e]
 show(-(i+1)+1)%(18446744073709551616:Int)=_
 rw[j7 oQ (by omega)]
 omega
theorem NY{a b:Rt}(ha:a.ok)(hb:b.ok):IntKind.i64.wrap (IntKind.i64.wrap (a.n*b.d)-IntKind.i64.wrap (b.n*a.d))=Fu a ⟨-b.n,b.d⟩:=by
 have h:=Tg ha hb.neg
 rw[nC ha hb,nC hb ha]
 have e:a.n*b.d-b.n*a.d=Fu a ⟨-b.n,b.d⟩:=by
   unfold Fu
   show _=a.n*b.d+ -b.n*a.d
   rw[il];omega
 rw[e]
 exact Cb oQ oQ
theorem Of{n d:Int}(h:EG n d):IntKind.i64.wrap (n.tdiv d)=n.tdiv d∧(n.tmod d<0→n.tdiv d-1=n/d)∧(¬n.tmod d<0→n.tdiv d=n/d)∧ -4000000000000000000≤n.tdiv d∧n.tdiv d≤4000000000000000000:=by
 obtain⟨h1,h2,h3,h4⟩:=h
 have e:=Int.mul_tdiv_add_tmod n d
 have e2:=Int.mul_ediv_add_emod n d
 have b1:=jv n (show d≠0 by omega)
 have b2:=jg n h3
 have b3:=Int.tmod_lt_of_pos n h3
 have hq:n.tdiv d=n/d∨n.tdiv d=n/d+1:=by
   by_cases hn:0≤n
   · exact .inl (ik hn)
   have h5:=Int.tdiv_eq_ediv (a:=n) (b:=d)
   rw[h5]
   split
   · left;omega
   right;rw[Int.sign_eq_one_of_pos h3]
 have hlo: -4000000000000000000≤n/d:=by
   refine Int.le_ediv_of_mul_le h3 ?_
   have: -4000000000000000000*d≤ -4000000000000000000*1:=kc oQ oQ
   omega
 have hhi:n/d≤4000000000000000000:=by
   by_cases hn:0≤n
   · have:=Int.ediv_le_self d hn;omega
   have:n/d<0:=ky oQ h3
   omega
 have hb: -4000000000000000000≤n.tdiv d∧n.tdiv d≤4000000000000000000:=by
   rcases hq with h5|h5
   · omega
   by_cases hn:0≤n
   · have:=ik (b:=d) hn;omega
   have:n/d<0:=ky oQ h3
   omega
 refine⟨Cb oQ oQ,fun hm=>?_,fun hm=>?_,hb⟩
 · rcases hq with h5|h5
   · rw[h5]at e;omega
   omega
 rcases hq with h5|h5
 · exact h5
 exfalso
 rw[h5,Int.mul_add,Int.mul_one]at e
 omega
theorem EN{x y:Int}:L8 x y=if x=y then 0 else if x<y then -1 else 1:=by
 unfold L8
 split
 · rw[ae (by omega)]
 split
 · rw[ae (by omega)]
 rw[ak (by omega)]
theorem lD(T:Int):Ce T 1=rI T:=by
 have h:=G9 (n:=T) (d:=1) cQ
 have h2:(Ce T 1).d=1:=by
   show(((1:Int).natAbs/Dd T 1:Nat):Int)=1
   unfold Dd
   rw[show(1:Int).natAbs=1 from rfl,Nat.gcd_one_right]
   rfl
 rw[h2,Int.mul_one,Int.mul_one]at h
 exact(show Ce T 1=⟨(Ce T 1).n,(Ce T 1).d⟩from rfl).trans (by rw[h,h2];rfl)
theorem Zm{α:Type}{key:α→K2}(p:α→Bool)(l:List α):(Hl key l).filter p=Hl key (l.filter p):=
 StS.unique ⟨(El l).ord.sublist fh,fun k=>by
   rw[ei,ei]
   have h:=(El (key:=key) l).same k
   rw[show(fun x=>(key x==k)&&p x)=fun x=>p x&&(key x==k)from funext fun x=>Bool.and_comm _ _,←ei,←ei,h]⟩ (El _)
theorem R8(b:Base)(t c r:Int):Md b t c r=Hl runK ((b.Processes.filter (I3 t c)).filter fun x=>decide (x.Recipe=r)):=by unfold Md G6;rw[Zm]
theorem Zn{b:Base}{t c r:Int}{x:Fact}:x∈Md b t c r↔x∈b.Processes∧x.Tool=t∧x.Chamber=c∧x.Recipe=r:=by
 rw[R8,(El _).same.mem,bx,bx]
 unfold I3
 simp only[aw,fi]
 exact⟨fun⟨⟨a,b,c⟩,d⟩=>⟨a,b,c,d⟩,fun⟨a,b,c,d⟩=>⟨⟨a,b,c⟩,d⟩⟩
theorem Vg{M T M' T':List Fact}{r t:Int}:∀{l:List Fact},(∀x∈l,E3 M T r x t=E3 M' T' r x t)→∀s,l.foldl (Fw M T r t) s=l.foldl (Fw M' T' r t) s
 |[],_,_=>rfl
 |x::l,h,s=>by
   rw[gl,gl,Vg (fun y hy=>h y (bw _ hy))]
   congr 1
   unfold Fw
   rw[h x bp]
theorem Xz:∀{rs a:List Fact}{x:Fact},x∈D5 rs a↔x∈a∧∀y∈rs,y.Time≤x.Time
 |[],a,x=>by simp[D5]
 |y::rs,a,x=>by
   have e:D5 (y::rs) a=D5 rs (a.filter fun x=>decide (y.Time≤x.Time)):=rfl
   rw[e,Xz,bx]
   simp only[fi,List.forall_mem_cons]
   exact⟨fun⟨⟨a,b⟩,c⟩=>⟨a,b,c⟩,fun⟨a,b,c⟩=>⟨⟨a,b⟩,c⟩⟩
theorem Jo:∀(rs a:List Fact),D5 rs a=a.filter fun x=>rs.all fun y=>decide (y.Time≤x.Time)
 |[],a=>(f9.2 fun _ _=>rfl).symm
 |y::rs,a=>by
   have e:D5 (y::rs) a=D5 rs (a.filter fun x=>decide (y.Time≤x.Time)):=rfl
   rw[e,Jo rs,ei]
   congr 1
   funext x
   rw[List.all_cons,Bool.and_comm]
theorem gW{b b':Base}{t c r time:Int}{a:List Fact}(hR:Ki b t c time=Ki b' t c time)(hT:∀tm,Ez b.Targets r tm=Ez b'.Targets r tm)(hM:∀x∈a,(b.Measures.find? fun y=>decide (y.ID=x.ID))=(b'.Measures.find? fun y=>decide (y.ID=x.ID))):Fa b t c r time a=Fa b' t c r time a:=by
 have hd:∀x∈D5 (Ki b' t c time) a,E3 b.Measures b.Targets r x time=E3 b'.Measures b'.Targets r x time:=fun x hx=>by
   unfold E3
   rw[hM x (Xz.1 hx).1,hT]
 have hs:Jm b.Measures b.Targets r time (D5 (Ki b' t c time) a)=Jm b'.Measures b'.Targets r time (D5 (Ki b' t c time) a):=Vg hd _
 unfold Fa
 rw[hR,hT,hs]
theorem gX{b b':Base}{t c r:Int}(hP:Md b t c r=Md b' t c r)(hR:∀time,Ki b t c time=Ki b' t c time)(hT:∀tm,Ez b.Targets r tm=Ez b'.Targets r tm)(hM:∀x∈Md b t c r,(b.Measures.find? fun y=>decide (y.ID=x.ID))=(b'.Measures.find? fun y=>decide (y.ID=x.ID))):Gt b t c r=Gt b' t c r:=by
 unfold Gt
 rw[←hP]
 refine fu fun i hi=>?_
 have hi:=bl.1 hi
 obtain⟨x,hx⟩:=Av hi
 rw[J8 hx,J8 hx,gW (hR _) hT (fun y hy=>hM y (List.mem_of_mem_take hy))]
theorem Pt(r t:Int):∀(l:List Fact)(s:Fact×Bool),(l.filter fun x=>decide (x.Recipe=r)).foldl (R0 r t) s=l.foldl (R0 r t) s
 |[],_=>rfl
 |x::l,s=>by
   rw[gl]
   by_cases h:x.Recipe=r
   · rw[iy (by simpa using h),gl]
     exact Pt r t l _
   rw[iz (by simpa using h),rQ (by simp[h])]
   exact Pt r t l _
theorem cN(T:List Fact)(r t:Int):Ez (T.filter fun x=>decide (x.Recipe=r)) r t=Ez T r t:=by
 have h:Lc r t (T.filter fun x=>decide (x.Recipe=r))=Lc r t T:=Pt r t T _
 unfold Ez
 rw[h]
theorem KS(i:Nat)(n:Int):(#[.slice none 0 0,.slice none 0 0,.slice none 0 0,.slice none 0 0,.slice none 0 0,.slice none 0 0,.slice none 0 0,.slice none 0 0,.slice none 0 0,.slice none 0 0,.slice none 0 0]:Array Value)[i]?≠some (vi n):=by
 match i with
 |0|1|2|3|4|5|6|7|8|9|10=>simp
 |i+11=>simp
def p3(t c r:Int)(f:Fact):Bool:=decide (f.Tool=t)&&decide (f.Chamber=c)&&decide (f.Recipe=r)
def FN(P:List Fact)(id:Int):Bool:=(P.find? fun x=>decide (x.ID=id)).isSome
def tB(b:Base)(t c r:Int):Base:=⟨b.Processes.filter (p3 t c r),b.Measures.filter fun m=>FN (b.Processes.filter (p3 t c r)) m.ID,[],[],[],[],[],[],b.Resets.filter (I3 t c),b.Targets.filter fun f=>decide (f.Recipe=r),[]⟩
theorem X0{p:Fact→Bool}{id:Int}:∀{l:List Fact},(∀f∈l,f.ID=id→p f=true)→(l.filter p).find? (fun y=>decide (y.ID=id))=l.find? fun y=>decide (y.ID=id)
 |[],_=>rfl
 |x::l,h=>by
   have ih:=X0 (p:=p) (id:=id) (l:=l) fun f hf=>h f (bw _ hf)
   by_cases hx:x.ID=id
   · rw[iy (h x bp hx),List.find?_cons_of_pos (by simpa using hx),List.find?_cons_of_pos (by simpa using hx)]
   rw[List.find?_cons_of_neg (by simpa using hx)]
   by_cases hp:p x=true
   · rw[iy hp,List.find?_cons_of_neg (by simpa using hx)];exact ih
   rw[iz hp];exact ih
theorem yW{P:List Fact}{x:Fact}(h:x∈P):FN P x.ID=true:=by
 unfold FN
 rw[List.find?_isSome]
 exact⟨x,h,by simp⟩
theorem X1(b:Base)(t c r:Int):Gt (tB b t c r) t c r=Gt b t c r:=by
 symm
 refine gX ?_ (fun time=>?_) (fun tm=>?_) (fun x hx=>?_)
 · rw[R8,R8]
   congr 1
   show(b.Processes.filter _).filter _=((b.Processes.filter _).filter _).filter _
   rw[ei,ei,ei]
   congr 1
   funext x
   unfold I3 p3
   cases decide (x.Tool=t)<;>cases decide (x.Chamber=c)<;>cases decide (x.Recipe=r)<;>rfl
 · show b.Resets.filter _=(b.Resets.filter _).filter _
   rw[ei]
   congr 1
   funext x
   unfold I3 Qz
   cases decide (x.Tool=t)<;>cases decide (x.Chamber=c)<;>cases decide (x.Time≤time)<;>rfl
 · exact(cN _ _ _).symm
 refine(X0 fun f hf e=>?_).symm
 have hm:=Zn.1 hx
 rw[e]
 exact yW (bx.2 ⟨hm.1,by unfold p3;simp[hm.2.1,hm.2.2.1,hm.2.2.2]⟩)
def RInv(L:List Fact)(a:Bool)(rs:Int):Prop:=(a=false→L=[])∧(a=true→(∃y∈L,y.Time=rs)∧∀y∈L,y.Time≤rs)
theorem RInv.nil:RInv [] false 0:=⟨fun _=>rfl,fun h=>(by cases h)⟩
theorem RInv.put{p:Fact→Bool}{l:List Fact}{k:Nat}{x:Fact}{a:Bool}{rs:Int}(h:RInv ((l.take k).filter p) a rs)(hx:l[k]?=some x)(hy:(p x&&(!a||decide (rs<x.Time)))=true):RInv ((l.take (k+1)).filter p) true x.Time:=by
 rw[aw]at hy
 rw[M5 hx hy.1]
 refine⟨fun h=>(by cases h),fun _=>⟨⟨x,fk _ (aa.2 rfl),rfl⟩,fun y hyl=>?_⟩⟩
 rcases be.1 hyl with hyl|hyl
 · cases a with
   |false=>rw[h.1 rfl]at hyl;cases hyl
   |true=>
     have h1:=(h.2 rfl).2 y hyl
     have h2:rs<x.Time:=by simpa using hy.2
     omega
 rw[aa.1 hyl];exact Int.le_refl _
theorem RInv.skip{p:Fact→Bool}{l:List Fact}{k:Nat}{x:Fact}{a:Bool}{rs:Int}(h:RInv ((l.take k).filter p) a rs)(hx:l[k]?=some x)(hy:(p x&&(!a||decide (rs<x.Time)))=false):RInv ((l.take (k+1)).filter p) a rs:=by
 cases hp:p x with
 |false=>rw[U3 hx hp];exact h
 |true=>
   rw[hp,gp]at hy
   rw[M5 hx hp]
   cases a with
   |false=>cases hy
   |true=>
     have h2:¬rs<x.Time:=by simpa using hy
     refine⟨fun h=>(by cases h),fun _=>⟨?_,fun y hyl=>?_⟩⟩
     · obtain⟨y,hy1,hy2⟩:=(h.2 rfl).1
       exact⟨y,dw _ hy1,hy2⟩
     rcases be.1 hyl with hyl|hyl
     · exact(h.2 rfl).2 y hyl
     rw[aa.1 hyl];omega
theorem RInv.all{L:List Fact}{a:Bool}{rs:Int}(h:RInv L a rs)(x:Fact):L.all (fun y=>decide (y.Time≤x.Time))= !(a&&decide (x.Time<rs)):=by
 cases a with
 |false=>rw[h.1 rfl];rfl
 |true=>
   obtain⟨⟨y,hy,e⟩,hle⟩:=h.2 rfl
   rw[gp]
   by_cases hx:x.Time<rs
   · rw[a8 hx]
     refine List.all_eq_false.2 ⟨y,hy,?_⟩
     simp;omega
   rw[bg hx]
   refine b7.2 fun z hz=>?_
   have:=hle z hz
   exact a8 oQ
theorem lE{L:List Fact}{a:Bool}{rs:Int}(h:RInv L a rs)(x:Fact)(d:Int×Bool):((!d.2||(a&&decide (x.Time<rs)))||(decide (-2≤d.1)&&decide (d.1≤2)))= !(L.all (fun y=>decide (y.Time≤x.Time))&&G7 d):=by
 rw[h.all]
 unfold G7
 have e1:decide (-2≤d.1)= !decide (d.1< -2):=by rw[←decide_not];congr 1;simp
 have e2:decide (d.1≤2)= !decide (2<d.1):=by rw[←decide_not];congr 1;simp
 rw[e1,e2]
 cases d.2<;>cases(a&&decide (x.Time<rs))<;>cases decide (d.1< -2)<;>cases decide (2<d.1)<;>rfl
theorem cO{M T:List Fact}{r t:Int}{RS a:List Fact}{k:Nat}{x:Fact}(hx:a[k]?=some x):Jm M T r t (D5 RS (a.take (k+1)))=if(RS.all (fun y=>decide (y.Time≤x.Time))&&G7 (E3 M T r x t))=true then((Jm M T r t (D5 RS (a.take k))).1+(E3 M T r x t).1,(Jm M T r t (D5 RS (a.take k))).2++[x.ID])else Jm M T r t (D5 RS (a.take k)):=by
 rw[Jo,Jo]
 cases hp:RS.all (fun y=>decide (y.Time≤x.Time))with
 |false=>rw[U3 hx hp];rfl
 |true=>
   rw[M5 hx hp,gp]
   unfold Jm
   rw[ew]
   show Fw M T r t _ x=_
   cases hc:G7 (E3 M T r x t)with
   |false=>rw[gL hc];rfl
   |true=>rw[Zc hc];rfl
theorem tC{M T:List Fact}{r t:Int}{RS a:List Fact}{k:Nat}{x:Fact}(hx:a[k]?=some x)(h:(RS.all (fun y=>decide (y.Time≤x.Time))&&G7 (E3 M T r x t))=true):Jm M T r t (D5 RS (a.take (k+1)))=((Jm M T r t (D5 RS (a.take k))).1+(E3 M T r x t).1,(Jm M T r t (D5 RS (a.take k))).2++[x.ID]):=by rw[cO hx,ak h]
theorem tE{M T:List Fact}{r t:Int}{RS a:List Fact}{k:Nat}{x:Fact}(hx:a[k]?=some x)(h:(RS.all (fun y=>decide (y.Time≤x.Time))&&G7 (E3 M T r x t))=false):Jm M T r t (D5 RS (a.take (k+1)))=Jm M T r t (D5 RS (a.take k)):=by rw[cO hx,ae (by rw[h];exact bi)]
theorem OP:rI 0=Ce 0 4:=by kernel_rfl
theorem Og{α:Type}{w:World}{ad:Option Addr}{k i B o:Nat}{enc:α→Array Value}{xs:List α}{x:α}(h:Els w ad k enc xs)(hx:xs[i]?=some x)(e:ad=some ⟨B,o,none⟩):AggAt w B (o+i*k) (enc x):=by
 obtain⟨B2,o2,e2,h2⟩:=h i x hx
 rw[e]at e2
 cases e2
 exact h2
theorem OwnS.Da{α:Type}{enc:α→Array Value}{w w':World}{b k:Nat}{e T:TypeId}{v:Value}{xs:List α}(h:OwnS w b e k enc v xs)(hne:Nat.beq e T=false)(u:KeepT T w w'):OwnS w' b e k enc v xs:=by
 obtain⟨h1,h2⟩:=h
 refine⟨h1,?_⟩
 rcases h2 with h2|⟨g,cap,cur,rfl,hb,hg,rest⟩
 · exact .inl h2
 exact .inr ⟨g,cap,cur,rfl,hb,u.obj g _ hg (fun _ _ e'=>by cases e';simp at hne),rest⟩
def N0:Value:=.slice none 0 0
theorem tG(w:World):Sl w N0 19 Fact.cells ([]:List Fact):=Sl.nil w 19 Fact.cells
end Go.Wx
namespace Go.Proofs.YtbcnnkfopoiifaaGreatDoor
open Go.Proofs.Tryz
open Go.Wx Go.RowKit
theorem Jt(i:Int)(w:World)(hi:F8 i):Ret prog 155 #[vi i] w fun r w'=>r=vu i.natAbs∧Up w w':=by
 have hW:=Up.refl w
 refine cT 12 func155 rfl (Af (J (Ar (Af (Ac rfl (I (.lss (.t rfl) (.const _)) (Ai (CW.b rfl (fun h4=>?_) (fun h4=>?_)))))))))
 ·replace h4:=dQ h4
  have hneg:=h4
  have h1:=hi.1
  have h2:=hi.2
  refine Af (Ac rfl (I (.add (.t rfl) (.const _) oQ oQ) (I (.neg lh (.t rfl)) (I (.conv (k':=.u64) (by rw[lh];rfl) lz (.t rfl)) (I (.Gk (.t rfl) (.const _)) (LW.A rfl (Ai (Aj (Ah (KW.q ?_))))))))))
  exact⟨a_ (Go.Value.int .u64) (tA hi hneg),hW⟩
 replace h4:=dQ h4
 have hpos:=h4
 refine Ak (Ab (Af (Ac rfl (I (.conv (k':=.u64) (by rw[lh];rfl) lz (.t rfl)) (LW.A rfl (Ai (Aj (KW.q ?_))))))))
 exact⟨a_ (Go.Value.int .u64) (jR hi oQ),hW⟩
theorem cP(a b:Nat)(w:World):Ret prog 154 #[vu a,vu b] w fun r w'=>r=vu (Nat.gcd a b)∧Up w w':=by
 have hW:=Up.refl w
 obtain⟨w0,rfl,_⟩:=W0 w
 refine cT 12 func154 rfl (Af (J (Ar (Ap (A9 (σ:=Nat×Nat) (fun s w=>(Nat.gcd s.1 s.2=Nat.gcd a b)∧(Up w0 w)) (fun s=>[(0,.eq (vu s.1)),(1,.eq (vu s.2))]) ([(4,.eq _)]) (fun s=>s.2) (a,b) ?_ tQ ?_)))))
 ·exact⟨rfl,hW⟩
 rintro⟨x,y⟩ w1 ⟨hg,hW⟩
 change CW _ _ _ _ _ _ _ ([(0,.eq (vu x)),(1,.eq (vu y))]++_) _
 refine Al (Af (Ac rfl (I (.gtr (.t rfl) (.const _)) (Ai (CW.b rfl (fun h6=>?_) (fun h6=>?_))))))
 ·replace h6:=dQ h6
  have hy0:y≠0:=by omega
  refine Ak (Ab (Ap (T7 kQ rfl ?_)))
  obtain⟨w2,hdr⟩:∃W,W=w1.drew:=⟨_,rfl⟩
  have uw2:Up w1 w2:=by rw[hdr];exact Up.drew _
  rw[←hdr]
  replace hW:=hW.up uw2
  refine AW.step (rs:=[0,1,2]) kQ cQ ?_
  intro i hi
  simp only[ap,ba,b8]at hi
  rcases hi with rfl|rfl|rfl
  ·skip
   refine⟨_,rfl,rfl,?_⟩
   refine OW.p (PEv.mv rfl) rfl rfl (AW.step (rs:=[1,2]) kQ cQ ?_)
   intro i hi
   simp only[ap,ba,b8]at hi
   rcases hi with rfl|rfl
   ·skip
    refine⟨_,rfl,rfl,?_⟩
    refine OW.p (PEv.mv rfl) rfl rfl (AW.step (rs:=[2,4]) kQ cQ ?_)
    intro i hi
    simp only[ap,ba,b8]at hi
    rcases hi with rfl|rfl
    ·skip
     refine⟨_,rfl,rfl,?_⟩
     refine OW.p (PEv.mv rfl) rfl rfl (AW.step (rs:=[3,4]) kQ cQ ?_)
     intro i hi
     simp only[ap,ba,b8]at hi
     rcases hi with rfl|rfl
     ·skip
      refine⟨_,rfl,rfl,?_⟩
      refine OW.p (PEv.vl (v':=vu (x%y)) (PEv.rem (.t rfl) (.t rfl) oQ) (a_ (Go.Value.int .u64) (by rfl))) rfl rfl (AW.step (rs:=[4]) kQ cQ ?_)
      intro i hi
      obtain rfl:=aa.1 hi
      refine⟨_,rfl,rfl,?_⟩
      refine OW.p (PEv.assign (.t rfl)) rfl rfl (AW.step (rs:=[5]) kQ cQ ?_)
      intro i hi
      obtain rfl:=aa.1 hi
      refine⟨_,rfl,rfl,?_⟩
      refine OW.p (PEv.assign (.t rfl)) rfl rfl (AW.done kQ (Ae (Aq ?_)))
      exact⟨(y,x%y),⟨by rw[←hg];exact(Cx x y).symm,hW⟩,tQ,by show x%y<y;exact cx _ oQ⟩
     skip
     refine⟨_,rfl,rfl,?_⟩
     refine OW.p (PEv.assign (.t rfl)) rfl rfl (AW.step (rs:=[3]) kQ cQ ?_)
     intro i hi
     obtain rfl:=aa.1 hi
     refine⟨_,rfl,rfl,?_⟩
     refine OW.p (PEv.vl (v':=vu (x%y)) (PEv.rem (.t rfl) (.t rfl) oQ) (a_ (Go.Value.int .u64) (by rfl))) rfl rfl (AW.step (rs:=[5]) kQ cQ ?_)
     intro i hi
     obtain rfl:=aa.1 hi
     refine⟨_,rfl,rfl,?_⟩
     refine OW.p (PEv.assign (.t rfl)) rfl rfl (AW.done kQ (Ae (Aq ?_)))
     exact⟨(y,x%y),⟨by rw[←hg];exact(Cx x y).symm,hW⟩,tQ,by show x%y<y;exact cx _ oQ⟩
    skip
    refine⟨_,rfl,rfl,?_⟩
    refine OW.p (PEv.assign (.t rfl)) rfl rfl (AW.step (rs:=[2]) kQ cQ ?_)
    intro i hi
    obtain rfl:=aa.1 hi
    refine⟨_,rfl,rfl,?_⟩
    refine OW.p (PEv.mv rfl) rfl rfl (AW.step (rs:=[3]) kQ cQ ?_)
    intro i hi
    obtain rfl:=aa.1 hi
    refine⟨_,rfl,rfl,?_⟩
    refine OW.p (PEv.vl (v':=vu (x%y)) (PEv.rem (.t rfl) (.t rfl) oQ) (a_ (Go.Value.int .u64) (by rfl))) rfl rfl (AW.step (rs:=[5]) kQ cQ ?_)
    intro i hi
    obtain rfl:=aa.1 hi
    refine⟨_,rfl,rfl,?_⟩
    refine OW.p (PEv.assign (.t rfl)) rfl rfl (AW.done kQ (Ae (Aq ?_)))
    exact⟨(y,x%y),⟨by rw[←hg];exact(Cx x y).symm,hW⟩,tQ,by show x%y<y;exact cx _ oQ⟩
   skip
   refine⟨_,rfl,rfl,?_⟩
   refine OW.p (PEv.mv rfl) rfl rfl (AW.step (rs:=[1]) kQ cQ ?_)
   intro i hi
   obtain rfl:=aa.1 hi
   refine⟨_,rfl,rfl,?_⟩
   refine OW.p (PEv.mv rfl) rfl rfl (AW.step (rs:=[3,4]) kQ cQ ?_)
   intro i hi
   simp only[ap,ba,b8]at hi
   rcases hi with rfl|rfl
   ·skip
    refine⟨_,rfl,rfl,?_⟩
    refine OW.p (PEv.vl (v':=vu (x%y)) (PEv.rem (.t rfl) (.t rfl) oQ) (a_ (Go.Value.int .u64) (by rfl))) rfl rfl (AW.step (rs:=[4]) kQ cQ ?_)
    intro i hi
    obtain rfl:=aa.1 hi
    refine⟨_,rfl,rfl,?_⟩
    refine OW.p (PEv.assign (.t rfl)) rfl rfl (AW.step (rs:=[5]) kQ cQ ?_)
    intro i hi
    obtain rfl:=aa.1 hi
    refine⟨_,rfl,rfl,?_⟩
    refine OW.p (PEv.assign (.t rfl)) rfl rfl (AW.done kQ (Ae (Aq ?_)))
    exact⟨(y,x%y),⟨by rw[←hg];exact(Cx x y).symm,hW⟩,tQ,by show x%y<y;exact cx _ oQ⟩
   skip
   refine⟨_,rfl,rfl,?_⟩
   refine OW.p (PEv.assign (.t rfl)) rfl rfl (AW.step (rs:=[3]) kQ cQ ?_)
   intro i hi
   obtain rfl:=aa.1 hi
   refine⟨_,rfl,rfl,?_⟩
   refine OW.p (PEv.vl (v':=vu (x%y)) (PEv.rem (.t rfl) (.t rfl) oQ) (a_ (Go.Value.int .u64) (by rfl))) rfl rfl (AW.step (rs:=[5]) kQ cQ ?_)
   intro i hi
   obtain rfl:=aa.1 hi
   refine⟨_,rfl,rfl,?_⟩
   refine OW.p (PEv.assign (.t rfl)) rfl rfl (AW.done kQ (Ae (Aq ?_)))
   exact⟨(y,x%y),⟨by rw[←hg];exact(Cx x y).symm,hW⟩,tQ,by show x%y<y;exact cx _ oQ⟩
  ·skip
   refine⟨_,rfl,rfl,?_⟩
   refine OW.p (PEv.mv rfl) rfl rfl (AW.step (rs:=[0,2]) kQ cQ ?_)
   intro i hi
   simp only[ap,ba,b8]at hi
   rcases hi with rfl|rfl
   ·skip
    refine⟨_,rfl,rfl,?_⟩
    refine OW.p (PEv.mv rfl) rfl rfl (AW.step (rs:=[2,4]) kQ cQ ?_)
    intro i hi
    simp only[ap,ba,b8]at hi
    rcases hi with rfl|rfl
    ·skip
     refine⟨_,rfl,rfl,?_⟩
     refine OW.p (PEv.mv rfl) rfl rfl (AW.step (rs:=[3,4]) kQ cQ ?_)
     intro i hi
     simp only[ap,ba,b8]at hi
     rcases hi with rfl|rfl
     ·skip
      refine⟨_,rfl,rfl,?_⟩
      refine OW.p (PEv.vl (v':=vu (x%y)) (PEv.rem (.t rfl) (.t rfl) oQ) (a_ (Go.Value.int .u64) (by rfl))) rfl rfl (AW.step (rs:=[4]) kQ cQ ?_)
      intro i hi
      obtain rfl:=aa.1 hi
      refine⟨_,rfl,rfl,?_⟩
      refine OW.p (PEv.assign (.t rfl)) rfl rfl (AW.step (rs:=[5]) kQ cQ ?_)
      intro i hi
      obtain rfl:=aa.1 hi
      refine⟨_,rfl,rfl,?_⟩
      refine OW.p (PEv.assign (.t rfl)) rfl rfl (AW.done kQ (Ae (Aq ?_)))
      exact⟨(y,x%y),⟨by rw[←hg];exact(Cx x y).symm,hW⟩,tQ,by show x%y<y;exact cx _ oQ⟩
     skip
     refine⟨_,rfl,rfl,?_⟩
     refine OW.p (PEv.assign (.t rfl)) rfl rfl (AW.step (rs:=[3]) kQ cQ ?_)
     intro i hi
     obtain rfl:=aa.1 hi
     refine⟨_,rfl,rfl,?_⟩
     refine OW.p (PEv.vl (v':=vu (x%y)) (PEv.rem (.t rfl) (.t rfl) oQ) (a_ (Go.Value.int .u64) (by rfl))) rfl rfl (AW.step (rs:=[5]) kQ cQ ?_)
     intro i hi
     obtain rfl:=aa.1 hi
     refine⟨_,rfl,rfl,?_⟩
     refine OW.p (PEv.assign (.t rfl)) rfl rfl (AW.done kQ (Ae (Aq ?_)))
     exact⟨(y,x%y),⟨by rw[←hg];exact(Cx x y).symm,hW⟩,tQ,by show x%y<y;exact cx _ oQ⟩
    skip
    refine⟨_,rfl,rfl,?_⟩
    refine OW.p (PEv.assign (.t rfl)) rfl rfl (AW.step (rs:=[2]) kQ cQ ?_)
    intro i hi
    obtain rfl:=aa.1 hi
    refine⟨_,rfl,rfl,?_⟩
    refine OW.p (PEv.mv rfl) rfl rfl (AW.step (rs:=[3]) kQ cQ ?_)
    intro i hi
    obtain rfl:=aa.1 hi
    refine⟨_,rfl,rfl,?_⟩
    refine OW.p (PEv.vl (v':=vu (x%y)) (PEv.rem (.t rfl) (.t rfl) oQ) (a_ (Go.Value.int .u64) (by rfl))) rfl rfl (AW.step (rs:=[5]) kQ cQ ?_)
    intro i hi
    obtain rfl:=aa.1 hi
    refine⟨_,rfl,rfl,?_⟩
    refine OW.p (PEv.assign (.t rfl)) rfl rfl (AW.done kQ (Ae (Aq ?_)))
    exact⟨(y,x%y),⟨by rw[←hg];exact(Cx x y).symm,hW⟩,tQ,by show x%y<y;exact cx _ oQ⟩
   skip
   refine⟨_,rfl,rfl,?_⟩
   refine OW.p (PEv.mv rfl) rfl rfl (AW.step (rs:=[0,3]) kQ cQ ?_)
   intro i hi
   simp only[ap,ba,b8]at hi
   rcases hi with rfl|rfl
   ·skip
    refine⟨_,rfl,rfl,?_⟩
    refine OW.p (PEv.mv rfl) rfl rfl (AW.step (rs:=[3,4]) kQ cQ ?_)
    intro i hi
    simp only[ap,ba,b8]at hi
    rcases hi with rfl|rfl
    ·skip
     refine⟨_,rfl,rfl,?_⟩
     refine OW.p (PEv.vl (v':=vu (x%y)) (PEv.rem (.t rfl) (.t rfl) oQ) (a_ (Go.Value.int .u64) (by rfl))) rfl rfl (AW.step (rs:=[4]) kQ cQ ?_)
     intro i hi
     obtain rfl:=aa.1 hi
     refine⟨_,rfl,rfl,?_⟩
     refine OW.p (PEv.assign (.t rfl)) rfl rfl (AW.step (rs:=[5]) kQ cQ ?_)
     intro i hi
     obtain rfl:=aa.1 hi
     refine⟨_,rfl,rfl,?_⟩
     refine OW.p (PEv.assign (.t rfl)) rfl rfl (AW.done kQ (Ae (Aq ?_)))
     exact⟨(y,x%y),⟨by rw[←hg];exact(Cx x y).symm,hW⟩,tQ,by show x%y<y;exact cx _ oQ⟩
    skip
    refine⟨_,rfl,rfl,?_⟩
    refine OW.p (PEv.assign (.t rfl)) rfl rfl (AW.step (rs:=[3]) kQ cQ ?_)
    intro i hi
    obtain rfl:=aa.1 hi
    refine⟨_,rfl,rfl,?_⟩
    refine OW.p (PEv.vl (v':=vu (x%y)) (PEv.rem (.t rfl) (.t rfl) oQ) (a_ (Go.Value.int .u64) (by rfl))) rfl rfl (AW.step (rs:=[5]) kQ cQ ?_)
    intro i hi
    obtain rfl:=aa.1 hi
    refine⟨_,rfl,rfl,?_⟩
    refine OW.p (PEv.assign (.t rfl)) rfl rfl (AW.done kQ (Ae (Aq ?_)))
    exact⟨(y,x%y),⟨by rw[←hg];exact(Cx x y).symm,hW⟩,tQ,by show x%y<y;exact cx _ oQ⟩
   skip
   refine⟨_,rfl,rfl,?_⟩
   refine OW.p (PEv.vl (v':=vu (x%y)) (PEv.rem (.t rfl) (.t rfl) oQ) (a_ (Go.Value.int .u64) (by rfl))) rfl rfl (AW.step (rs:=[0]) kQ cQ ?_)
   intro i hi
   obtain rfl:=aa.1 hi
   refine⟨_,rfl,rfl,?_⟩
   refine OW.p (PEv.mv rfl) rfl rfl (AW.step (rs:=[4]) kQ cQ ?_)
   intro i hi
   obtain rfl:=aa.1 hi
   refine⟨_,rfl,rfl,?_⟩
   refine OW.p (PEv.assign (.t rfl)) rfl rfl (AW.step (rs:=[5]) kQ cQ ?_)
   intro i hi
   obtain rfl:=aa.1 hi
   refine⟨_,rfl,rfl,?_⟩
   refine OW.p (PEv.assign (.t rfl)) rfl rfl (AW.done kQ (Ae (Aq ?_)))
   exact⟨(y,x%y),⟨by rw[←hg];exact(Cx x y).symm,hW⟩,tQ,by show x%y<y;exact cx _ oQ⟩
  skip
  refine⟨_,rfl,rfl,?_⟩
  refine OW.p (PEv.mv rfl) rfl rfl (AW.step (rs:=[0,1]) kQ cQ ?_)
  intro i hi
  simp only[ap,ba,b8]at hi
  rcases hi with rfl|rfl
  ·skip
   refine⟨_,rfl,rfl,?_⟩
   refine OW.p (PEv.mv rfl) rfl rfl (AW.step (rs:=[1]) kQ cQ ?_)
   intro i hi
   obtain rfl:=aa.1 hi
   refine⟨_,rfl,rfl,?_⟩
   refine OW.p (PEv.mv rfl) rfl rfl (AW.step (rs:=[3,4]) kQ cQ ?_)
   intro i hi
   simp only[ap,ba,b8]at hi
   rcases hi with rfl|rfl
   ·skip
    refine⟨_,rfl,rfl,?_⟩
    refine OW.p (PEv.vl (v':=vu (x%y)) (PEv.rem (.t rfl) (.t rfl) oQ) (a_ (Go.Value.int .u64) (by rfl))) rfl rfl (AW.step (rs:=[4]) kQ cQ ?_)
    intro i hi
    obtain rfl:=aa.1 hi
    refine⟨_,rfl,rfl,?_⟩
    refine OW.p (PEv.assign (.t rfl)) rfl rfl (AW.step (rs:=[5]) kQ cQ ?_)
    intro i hi
    obtain rfl:=aa.1 hi
    refine⟨_,rfl,rfl,?_⟩
    refine OW.p (PEv.assign (.t rfl)) rfl rfl (AW.done kQ (Ae (Aq ?_)))
    exact⟨(y,x%y),⟨by rw[←hg];exact(Cx x y).symm,hW⟩,tQ,by show x%y<y;exact cx _ oQ⟩
   skip
   refine⟨_,rfl,rfl,?_⟩
   refine OW.p (PEv.assign (.t rfl)) rfl rfl (AW.step (rs:=[3]) kQ cQ ?_)
   intro i hi
   obtain rfl:=aa.1 hi
   refine⟨_,rfl,rfl,?_⟩
   refine OW.p (PEv.vl (v':=vu (x%y)) (PEv.rem (.t rfl) (.t rfl) oQ) (a_ (Go.Value.int .u64) (by rfl))) rfl rfl (AW.step (rs:=[5]) kQ cQ ?_)
   intro i hi
   obtain rfl:=aa.1 hi
   refine⟨_,rfl,rfl,?_⟩
   refine OW.p (PEv.assign (.t rfl)) rfl rfl (AW.done kQ (Ae (Aq ?_)))
   exact⟨(y,x%y),⟨by rw[←hg];exact(Cx x y).symm,hW⟩,tQ,by show x%y<y;exact cx _ oQ⟩
  skip
  refine⟨_,rfl,rfl,?_⟩
  refine OW.p (PEv.mv rfl) rfl rfl (AW.step (rs:=[0,3]) kQ cQ ?_)
  intro i hi
  simp only[ap,ba,b8]at hi
  rcases hi with rfl|rfl
  ·skip
   refine⟨_,rfl,rfl,?_⟩
   refine OW.p (PEv.mv rfl) rfl rfl (AW.step (rs:=[3,4]) kQ cQ ?_)
   intro i hi
   simp only[ap,ba,b8]at hi
   rcases hi with rfl|rfl
   ·skip
    refine⟨_,rfl,rfl,?_⟩
    refine OW.p (PEv.vl (v':=vu (x%y)) (PEv.rem (.t rfl) (.t rfl) oQ) (a_ (Go.Value.int .u64) (by rfl))) rfl rfl (AW.step (rs:=[4]) kQ cQ ?_)
    intro i hi
    obtain rfl:=aa.1 hi
    refine⟨_,rfl,rfl,?_⟩
    refine OW.p (PEv.assign (.t rfl)) rfl rfl (AW.step (rs:=[5]) kQ cQ ?_)
    intro i hi
    obtain rfl:=aa.1 hi
    refine⟨_,rfl,rfl,?_⟩
    refine OW.p (PEv.assign (.t rfl)) rfl rfl (AW.done kQ (Ae (Aq ?_)))
    exact⟨(y,x%y),⟨by rw[←hg];exact(Cx x y).symm,hW⟩,tQ,by show x%y<y;exact cx _ oQ⟩
   skip
   refine⟨_,rfl,rfl,?_⟩
   refine OW.p (PEv.assign (.t rfl)) rfl rfl (AW.step (rs:=[3]) kQ cQ ?_)
   intro i hi
   obtain rfl:=aa.1 hi
   refine⟨_,rfl,rfl,?_⟩
   refine OW.p (PEv.vl (v':=vu (x%y)) (PEv.rem (.t rfl) (.t rfl) oQ) (a_ (Go.Value.int .u64) (by rfl))) rfl rfl (AW.step (rs:=[5]) kQ cQ ?_)
   intro i hi
   obtain rfl:=aa.1 hi
   refine⟨_,rfl,rfl,?_⟩
   refine OW.p (PEv.assign (.t rfl)) rfl rfl (AW.done kQ (Ae (Aq ?_)))
   exact⟨(y,x%y),⟨by rw[←hg];exact(Cx x y).symm,hW⟩,tQ,by show x%y<y;exact cx _ oQ⟩
  skip
  refine⟨_,rfl,rfl,?_⟩
  refine OW.p (PEv.vl (v':=vu (x%y)) (PEv.rem (.t rfl) (.t rfl) oQ) (a_ (Go.Value.int .u64) (by rfl))) rfl rfl (AW.step (rs:=[0]) kQ cQ ?_)
  intro i hi
  obtain rfl:=aa.1 hi
  refine⟨_,rfl,rfl,?_⟩
  refine OW.p (PEv.mv rfl) rfl rfl (AW.step (rs:=[4]) kQ cQ ?_)
  intro i hi
  obtain rfl:=aa.1 hi
  refine⟨_,rfl,rfl,?_⟩
  refine OW.p (PEv.assign (.t rfl)) rfl rfl (AW.step (rs:=[5]) kQ cQ ?_)
  intro i hi
  obtain rfl:=aa.1 hi
  refine⟨_,rfl,rfl,?_⟩
  refine OW.p (PEv.assign (.t rfl)) rfl rfl (AW.done kQ (Ae (Aq ?_)))
  exact⟨(y,x%y),⟨by rw[←hg];exact(Cx x y).symm,hW⟩,tQ,by show x%y<y;exact cx _ oQ⟩
 replace h6:=dQ h6
 have hy0:y=0:=by omega
 refine A7 (Ad (Ad (Au (Ab (Af (Ac rfl (LW.A rfl (Ai (Aj (KW.q ?_))))))))))
 exact⟨by rw[←hg,hy0,Nat.gcd_zero_right],hW⟩
theorem Mf(a:Rt)(w:World)(h:a.ok):Ret prog 203 #[.agg a.cells] w fun r w'=>r=.bool true∧Up w w':=by
 have hW:=Up.refl w
 refine cT 31 func203 rfl (Af (Ao (.bA rfl) rfl ?_))
 rintro _ w1 ⟨B1,rfl,NB1⟩
 replace hW:=hW.up NB1.up
 have hB1:=NB1.blk
 refine J (Ar (Cg kQ kQ rfl rfl (Am (.fB 1 rfl) (Am (.lb rfl (hB1.An rfl)) (Am (.tr (PEv.geq (.t rfl) (.const _)) (a8 (by have:=h.pos;omega))) (Am (.mv rfl) (A4 (.fB 1 rfl) (A4 (.lb rfl (hB1.An rfl)) (A4 (.tr (PEv.leq (.t rfl) (.const _)) (a8 h.den)) (Am (.pa rfl (fun hp=>(by exact .tmp rfl))) (Am (.mv rfl) (A4 (.fB 0 rfl) (A4 (.lb rfl (hB1.An rfl)) (A4 (.tr (PEv.geq (.t rfl) (.const _)) (a8 (by have:=h.num;omega))) (Am (.pa rfl (fun hp=>(by exact .tmp rfl))) (Am (.mv rfl) (A4 (.fB 0 rfl) (A4 (.lb rfl (hB1.An rfl)) (A4 (.tr (PEv.leq (.t rfl) (.const _)) (a8 (by have:=h.num;omega))) (Am (.pa rfl (fun hp=>(by exact .tmp rfl))) (Am (.mv rfl) (A4 (.fB 0 rfl) (A4 (.lb rfl (hB1.An rfl)) (Mv rfl rfl rfl rfl rfl (fun a w _ ha=>Bq (.cu rfl) (Wt) a ha) rfl (fun w hu=>Jt a.n w h.nI) (A4 (.fB 1 rfl) (A4 (.lb rfl (hB1.An rfl)) (Mv rfl rfl rfl rfl rfl (fun a w _ ha=>Bq (.cu rfl) (Wt) a ha) rfl (fun w hu=>Jt a.d w h.dI) (Mv rfl rfl rfl rfl rfl (fun a w _ ha=>Bq (.ct rfl (.cu rfl)) (BE) a ha) rfl (fun w hu=>cP a.n.natAbs a.d.natAbs w) (A4 (.tr (PEv.eql (.t rfl) (.const _)) (a8 (by have:=h.co;unfold Dd at this;omega))) (Am (.pa rfl (fun hp=>(by exact .tmp rfl))) (Am (.assign (.t rfl)) (HW.nil ?_))))))))))))))))))))))))))))))))
 intro w2 uw2
 replace hW:=hW.up uw2
 replace hB1:=hB1.up uw2
 refine Ab (Aj (KW.q ?_))
 exact⟨rfl,hW⟩
theorem Oh(a b:Rt)(w:World)(ha:a.ok)(hb:b.ok):Ret prog 201 #[.agg a.cells,.agg b.cells] w fun r w'=>r=.bool true∧Up w w':=by
 have hW:=Up.refl w
 refine cT 15 func201 rfl (Af (Ao (.bA rfl) rfl ?_))
 rintro _ w1 ⟨B2,rfl,NB2⟩
 replace hW:=hW.up NB2.up
 have hB2:=NB2.blk
 refine Ao (.bA rfl) rfl ?_
 rintro _ w2 ⟨B3,rfl,NB3⟩
 replace hW:=hW.up NB3.up
 replace hB2:=hB2.up NB3.up
 have hB3:=NB3.blk
 refine J (Ar (Aa (I (.lc rfl (hB2.agg)) (A3 (eC (.o rfl) (jD)) rfl (Mf a _ ha) ?_))))
 rintro _ w3 ⟨rfl,uw3⟩
 replace hW:=hW.up uw3
 replace hB2:=hB2.up uw3
 replace hB3:=hB3.up uw3
 refine LW.A rfl (Ar (Aa (I (.lc rfl (hB3.agg)) (A3 (eC (.o rfl) (jD)) rfl (Mf b _ hb) ?_))))
 rintro _ w4 ⟨rfl,uw4⟩
 replace hW:=hW.up uw4
 replace hB2:=hB2.up uw4
 replace hB3:=hB3.up uw4
 refine LW.A rfl (Ar (Aa (Ac rfl (Ac rfl (Cq (Ac rfl (I (.pa rfl (fun hp=>(by exact .tmp rfl))) (LW.A rfl (Ai (Aj (KW.q ?_)))))))))))
 exact⟨rfl,hW⟩
theorem Lo(n d:Int)(w:World)(hn:F8 n)(hd:0<d)(hdi:F8 d):Ret prog 92 #[vi n,vi d] w fun r w'=>r=.tuple #[.agg (Ia n d).1.cells,vi (Ia n d).2]∧Up w w':=by
 obtain⟨w0,rfl,hS⟩:=W0 w
 refine cT 48 func92 rfl (Af (Ao (.Bi lm) rfl ?_))
 rintro _ w1 ⟨B4,rfl,NB4⟩
 replace hS:=hS.Bn NB4
 refine J (Ar (Af (Ac rfl (I (.fa (PEv.eql (.t rfl) (.const _)) (bg oQ)) (Ai (CW.f rfl (Ak (Ab (Af (Ac rfl (A3 (eC (.o rfl) (Wt)) rfl (Jt n _ hn) ?_)))))))))))
 rintro _ w2 ⟨rfl,uw2⟩
 replace hS:=hS.up uw2
 refine Ac rfl (A3 (eC (.o rfl) (Wt)) rfl (Jt d _ hdi) ?_)
 rintro _ w3 ⟨rfl,uw3⟩
 replace hS:=hS.up uw3
 refine A3 (eC (.u rfl rfl) (BE)) rfl (cP n.natAbs d.natAbs _) ?_
 rintro _ w4 ⟨rfl,uw4⟩
 replace hS:=hS.up uw4
 refine LW.A rfl (Ar (Aa (Ac rfl (A3 (eC (.o rfl) (Wt)) rfl (Jt n _ hn) ?_))))
 rintro _ w5 ⟨rfl,uw5⟩
 replace hS:=hS.up uw5
 refine Ac rfl (I (.vl (v':=vu (n.natAbs/Dd n d)) (PEv.quo (.t rfl) (.t rfl) (by have:=Le (n:=n) hd;unfold Dd at this;omega)) (xB _ _ (by have h1:=hn.1;have h2:=hn.2;omega))) (LW.A rfl (Ar (Aa (Ac rfl (A3 (eC (.o rfl) (Wt)) rfl (Jt d _ hdi) ?_))))))
 rintro _ w6 ⟨rfl,uw6⟩
 replace hS:=hS.up uw6
 refine Ac rfl (I (.vl (v':=vu (d.natAbs/Dd n d)) (PEv.quo (.t rfl) (.t rfl) (by have:=Le (n:=n) hd;unfold Dd at this;omega)) (xB _ _ (by have h1:=hdi.1;have h2:=hdi.2;omega))) (LW.A rfl (Ar (Af (Ac rfl (I (.gtr (.t rfl) (.const _)) (Ac rfl (Dk rfl rfl (LW.gr rfl (fun hc=>PEv.gtr vQ (.const _)) (I (.po rfl (fun hp=>(by exact .cond rfl (by(rw[hp];rfl))))) (Ai (CW.b rfl (fun h31=>?_) (fun h31=>?_)))))))))))))
 ·have hmx:¬(n.natAbs/Dd n d≤1000000000∧d.natAbs/Dd n d≤1000000000):=fun e=>by simp at h31;omega
  refine Af (I (.build (cs:=DA.cells) mc lm Ed .nil rfl) (Bh (.A5 lj rfl (.t rfl) (.t rfl) (Rt.one _) hS.b0 rfl) ?_))
  intro w7 Nw7
  replace hS:=hS.Co 0 rfl (show Set_ _ w7 _ (DA.cells) _ from Nw7)
  refine J (Ai (Aj (Ah (Dx rfl rfl rfl md lj rfl (hS.b0).agg ⟨_,rfl,?_⟩))))
  exact⟨by rw[qD hmx],hS.Cj⟩
 have hmx:n.natAbs/Dd n d≤1000000000∧d.natAbs/Dd n d≤1000000000:=by simp at h31;omega
 refine Ak (Ab (Af (Ac rfl (I (.vl (v':=vi ((n.natAbs/Dd n d:Nat):Int)) (PEv.conv (k':=.i64) (by rw[lz];rfl) lh (.t rfl)) (jS hmx.1)) (Ac rfl (I (.vl (v':=vi ((d.natAbs/Dd n d:Nat):Int)) (PEv.conv (k':=.i64) (by rw[lz];rfl) lh (.t rfl)) (jS hmx.2)) (I (.build (cs:=(Rt.mk ((n.natAbs/Dd n d:Nat):Int) ((d.natAbs/Dd n d:Nat):Int)).cells) mc lm Ed (.ct rfl (.cu rfl)) rfl) (Ao (.Bi lm) rfl ?_))))))))
 rintro _ w8 ⟨B9,rfl,MB9⟩
 refine Bh (.A5 lj rfl (.t rfl) (.t rfl) (Rt.one _) MB9.blk rfl) ?_
 intro w9 LB9
 have NB9:=MB9.set LB9
 replace hS:=hS.Bn NB9
 refine Ar (Af (Ac rfl (I (.lss (.t rfl) (.const _)) (Ac rfl (I (.fa (PEv.lss (.t rfl) (.const _)) (bg oQ)) (I (.FT underlying4 (.t rfl) (.t rfl)) (Ai (CW.b rfl (fun h42=>?_) (fun h42=>?_)))))))))
 ·have hng:n<0:=by revert h42;by_cases h:n<0<;>simp[h]
  refine Aa (I (.fB 0 rfl) (I (.lb rfl (hS.b1.An rfl)) (I (.vl (v':=vi (-((n.natAbs/Dd n d:Nat):Int))) (PEv.neg lh (.t rfl)) (a_ (Go.Value.int .i64) (JX hmx.1))) (I (.fB 0 rfl) (Bh (.store lf (.t rfl) (.t rfl) rfl hS.b1 bQ) ?_)))))
  intro w10 Nw10
  replace hS:=hS.Co 1 rfl (show Set_ _ w10 _ ((Rt.mk (-((n.natAbs/Dd n d:Nat):Int)) ((d.natAbs/Dd n d:Nat):Int)).cells) _ from Nw10)
  refine Ar (Aa (I (.lc rfl (hS.b1.agg)) (Bh (.A5 lj rfl (.t rfl) (.t rfl) (Rt.one _) hS.b0 rfl) ?_)))
  intro w11 Nw11
  replace hS:=hS.Co 0 rfl Nw11
  refine J (Ai (Aj (Dx rfl rfl rfl md lj rfl (hS.b0).agg ⟨_,rfl,?_⟩)))
  exact⟨by rw[jT hmx hng],hS.Cj⟩
 have hng:¬n<0:=by revert h42;by_cases h:n<0<;>simp[h]
 refine Ak (Ab (Af (I (.lc rfl (hS.b1.agg)) (Bh (.A5 lj rfl (.t rfl) (.t rfl) (Rt.one _) hS.b0 rfl) ?_))))
 intro w12 Nw12
 replace hS:=hS.Co 0 rfl Nw12
 refine J (Ai (Aj (Dx rfl rfl rfl md lj rfl (hS.b0).agg ⟨_,rfl,?_⟩)))
 exact⟨by rw[jU hmx hng],hS.Cj⟩
theorem tH(a b:Rt)(w:World)(ha:a.ok)(hb:b.ok):Ret prog 158 #[.agg a.cells,.agg b.cells] w fun r w'=>r=.tuple #[.agg (Ia (Fu a b) (a.d*b.d)).1.cells,vi (Ia (Fu a b) (a.d*b.d)).2]∧Up w w':=by
 obtain⟨w0,rfl,hS⟩:=W0 w
 refine cT 32 func158 rfl (Af (Ao (.bA rfl) rfl ?_))
 rintro _ w1 ⟨B2,rfl,NB2⟩
 replace hS:=hS.Bn NB2
 refine Ao (.bA rfl) rfl ?_
 rintro _ w2 ⟨B3,rfl,NB3⟩
 replace hS:=hS.Bn NB3
 refine Ao (.Bi lm) rfl ?_
 rintro _ w3 ⟨B4,rfl,NB4⟩
 replace hS:=hS.Bn NB4
 refine J (Ar (Aa (I (.lc rfl (hS.b0.agg)) (I (.lc rfl (hS.b1.agg)) (A3 (eC (.u rfl rfl) (jC)) rfl (Oh a b _ ha hb) ?_)))))
 rintro _ w4 ⟨rfl,uw4⟩
 replace hS:=hS.up uw4
 refine LW.A rfl (Ar (Af (Ac rfl (I (.fa (PEv.n1 rfl) (rfl)) (Ai (CW.f rfl (Ak (Ab (Af (I (.fB 0 rfl) (I (.lb rfl (hS.b0.An rfl)) (I (.fB 1 rfl) (I (.lb rfl (hS.b1.An rfl)) (I (.F4 (.t rfl) (.t rfl)) (I (.fB 0 rfl) (I (.lb rfl (hS.b1.An rfl)) (I (.fB 1 rfl) (I (.lb rfl (hS.b0.An rfl)) (I (.F4 (.t rfl) (.t rfl)) (I (.vl (v':=vi (Fu a b)) (PEv.Gk (.t rfl) (.t rfl)) (a_ (Go.Value.int .i64) (JW ha hb))) (I (.fB 1 rfl) (I (.lb rfl (hS.b0.An rfl)) (I (.fB 1 rfl) (I (.lb rfl (hS.b1.An rfl)) (I (.vl (v':=vi (a.d*b.d)) (PEv.F4 (.t rfl) (.t rfl)) (a_ (Go.Value.int .i64) (NP ha hb))) (A3 (eC (.u rfl rfl) (pN)) rfl (Lo (Fu a b) (a.d*b.d) _ (by have h:=Tg ha hb;exact⟨by omega,by omega⟩) (Ub ha hb).1 (by have h:=Ub ha hb;exact⟨by omega,by omega⟩)) ?_))))))))))))))))))))))))))
 rintro _ w5 ⟨rfl,uw5⟩
 replace hS:=hS.up uw5
 refine I (.xt rfl rfl) (I (.xt rfl rfl) (Bh (.A5 lj rfl (.t rfl) (.t rfl) (Rt.one _) hS.b2 rfl) ?_))
 intro w6 Nw6
 replace hS:=hS.Co 2 rfl (show Set_ _ w6 _ ((Ia (Fu a b) (a.d*b.d)).1.cells) _ from Nw6)
 refine LW.A rfl (Ai (Aj (Dx rfl rfl rfl md lj rfl (hS.b2).agg ⟨_,rfl,?_⟩)))
 exact⟨rfl,hS.Cj⟩
theorem tI(a b:Rt)(w:World)(ha:a.ok)(hb:b.ok):Ret prog 159 #[.agg a.cells,.agg b.cells] w fun r w'=>r=.tuple #[.agg (Ia (Fu a (Rt.mk (-b.n) b.d)) (a.d*b.d)).1.cells,vi (Ia (Fu a (Rt.mk (-b.n) b.d)) (a.d*b.d)).2]∧Up w w':=by
 obtain⟨w0,rfl,hS⟩:=W0 w
 refine cT 32 func159 rfl (Af (Ao (.bA rfl) rfl ?_))
 rintro _ w1 ⟨B2,rfl,NB2⟩
 replace hS:=hS.Bn NB2
 refine Ao (.bA rfl) rfl ?_
 rintro _ w2 ⟨B3,rfl,NB3⟩
 replace hS:=hS.Bn NB3
 refine Ao (.Bi lm) rfl ?_
 rintro _ w3 ⟨B4,rfl,NB4⟩
 replace hS:=hS.Bn NB4
 refine J (Ar (Aa (I (.lc rfl (hS.b0.agg)) (I (.lc rfl (hS.b1.agg)) (A3 (eC (.u rfl rfl) (jC)) rfl (Oh a b _ ha hb) ?_)))))
 rintro _ w4 ⟨rfl,uw4⟩
 replace hS:=hS.up uw4
 refine LW.A rfl (Ar (Af (Ac rfl (I (.fa (PEv.n1 rfl) (rfl)) (Ai (CW.f rfl (Ak (Ab (Af (I (.fB 0 rfl) (I (.lb rfl (hS.b0.An rfl)) (I (.fB 1 rfl) (I (.lb rfl (hS.b1.An rfl)) (I (.F4 (.t rfl) (.t rfl)) (I (.fB 0 rfl) (I (.lb rfl (hS.b1.An rfl)) (I (.fB 1 rfl) (I (.lb rfl (hS.b0.An rfl)) (I (.F4 (.t rfl) (.t rfl)) (I (.vl (v':=vi (Fu a (Rt.mk (-b.n) b.d))) (PEv.Si (.t rfl) (.t rfl)) (a_ (Go.Value.int .i64) (NY ha hb))) (I (.fB 1 rfl) (I (.lb rfl (hS.b0.An rfl)) (I (.fB 1 rfl) (I (.lb rfl (hS.b1.An rfl)) (I (.vl (v':=vi (a.d*b.d)) (PEv.F4 (.t rfl) (.t rfl)) (a_ (Go.Value.int .i64) (NP ha hb))) (A3 (eC (.u rfl rfl) (pN)) rfl (Lo (Fu a (Rt.mk (-b.n) b.d)) (a.d*b.d) _ (by have h:=Tg ha hb.neg;exact⟨by omega,by omega⟩) (Ub ha hb).1 (by have h:=Ub ha hb;exact⟨by omega,by omega⟩)) ?_))))))))))))))))))))))))))
 rintro _ w5 ⟨rfl,uw5⟩
 replace hS:=hS.up uw5
 refine I (.xt rfl rfl) (I (.xt rfl rfl) (Bh (.A5 lj rfl (.t rfl) (.t rfl) (Rt.one _) hS.b2 rfl) ?_))
 intro w6 Nw6
 replace hS:=hS.Co 2 rfl (show Set_ _ w6 _ ((Ia (Fu a (Rt.mk (-b.n) b.d)) (a.d*b.d)).1.cells) _ from Nw6)
 refine LW.A rfl (Ai (Aj (Dx rfl rfl rfl md lj rfl (hS.b2).agg ⟨_,rfl,?_⟩)))
 exact⟨rfl,hS.Cj⟩
theorem gY(n d:Int)(w:World)(h:EG n d):Ret prog 204 #[vi n,vi d] w fun r w'=>r=vi (n/d)∧Up w w':=by
 have hW:=Up.refl w
 refine cT 16 func204 rfl (Af (J (Ar (Aa (Ac rfl (Ac rfl (I (.vl (v':=vi (n.tdiv d)) (PEv.quo (.t rfl) (.t rfl) (by have:=h.2.2.1;omega)) (a_ vi (Of h).1)) (LW.A rfl (Ar (Af (Ac rfl (Ac rfl (I (.rem (.t rfl) (.t rfl) (by have:=h.2.2.1;omega)) (I (.lss (.t rfl) (.const _)) (Ai (CW.b rfl (fun h12=>?_) (fun h12=>?_)))))))))))))))))
 ·replace h12:=dQ h12
  have hm:=h12
  have hb:=(Of h).2.2.2
  refine Aa (Ac rfl (I (.sub (.t rfl) (.const _) oQ oQ) (LW.A rfl (Ar (Aa (Ac rfl (LW.A rfl (Ai (Aj (KW.q ?_))))))))))
  exact⟨a_ vi ((Of h).2.1 hm),hW⟩
 replace h12:=dQ h12
 have hm:¬n.tmod d<0:=by omega
 refine Ak (Ab (Af (Ac rfl (LW.A rfl (Ai (Aj (KW.q ?_)))))))
 exact⟨a_ vi ((Of h).2.2.1 hm),hW⟩
theorem gZ(a:Rt)(d:Int)(w:World)(ha:a.ok)(hd:1≤d∧d≤1000000):Ret prog 161 #[.agg a.cells,vi d] w fun r w'=>r=.tuple #[.agg (Ia (Tc a d) d).1.cells,vi (Ia (Tc a d) d).2]∧Up w w':=by
 obtain⟨w0,rfl,hS⟩:=W0 w
 refine cT 36 func161 rfl (Af (Ao (.bA rfl) rfl ?_))
 rintro _ w1 ⟨B2,rfl,NB2⟩
 replace hS:=hS.Bn NB2
 refine Ao (.Bi lm) rfl ?_
 rintro _ w2 ⟨B4,rfl,NB4⟩
 replace hS:=hS.Bn NB4
 refine J (Ar (Aa (I (.lc rfl (hS.b0.agg)) (A3 (eC (.o rfl) (jD)) rfl (Mf a _ ha) ?_))))
 rintro _ w3 ⟨rfl,uw3⟩
 replace hS:=hS.up uw3
 refine LW.A rfl (Ar (Af (Ac rfl (I (.fa (PEv.n1 rfl) (rfl)) (Ac rfl (Cq (Ac rfl (Cq (I (.fa (PEv.lss (.t rfl) (.const _)) (bg oQ)) (I (.po rfl (fun hp=>(by exact .tmp rfl))) (Ac rfl (Cq (Ac rfl (Cq (I (.fa (PEv.gtr (.t rfl) (.const _)) (bg oQ)) (I (.po rfl (fun hp=>(by exact .tmp rfl))) (Ai (CW.f rfl (Ak (Ab (Af (I (.fB 0 rfl) (I (.lb rfl (hS.b0.An rfl)) (I (.F4 (.const _) (.t rfl)) (Ac rfl (I (.F4 (.t rfl) (.t rfl)) (I (.fB 1 rfl) (I (.lb rfl (hS.b0.An rfl)) (I (.vl (v':=vi (gF a d)) (PEv.Gk (.t rfl) (.t rfl)) (a_ (Go.Value.int .i64) ((nB ha hd).1))) (I (.fB 1 rfl) (I (.lb rfl (hS.b0.An rfl)) (I (.vl (v':=vi (2*a.d)) (PEv.F4 (.const _) (.t rfl)) (a_ (Go.Value.int .i64) ((nB ha hd).2.1))) (A3 (eC (.u rfl rfl) (IZ)) rfl (gY (gF a d) (2*a.d) _ (nB ha hd).2.2) ?_)))))))))))))))))))))))))))))))))
 rintro _ w4 ⟨rfl,uw4⟩
 replace hS:=hS.up uw4
 refine Ac rfl (A3 (eC (.u rfl rfl) (pN)) rfl (Lo (Tc a d) d _ (rT ha hd) oQ ⟨by omega,by omega⟩) ?_)
 rintro _ w5 ⟨rfl,uw5⟩
 replace hS:=hS.up uw5
 refine I (.xt rfl rfl) (I (.xt rfl rfl) (Bh (.A5 lj rfl (.t rfl) (.t rfl) (Rt.one _) hS.b1 rfl) ?_))
 intro w6 Nw6
 replace hS:=hS.Co 1 rfl (show Set_ _ w6 _ ((Ia (Tc a d) d).1.cells) _ from Nw6)
 refine LW.A rfl (Ai (Aj (Dx rfl rfl rfl md lj rfl (hS.b1).agg ⟨_,rfl,?_⟩)))
 exact⟨rfl,hS.Cj⟩
theorem cR(a b:Rt)(w:World)(ha:a.ok)(hb:b.ok):Ret prog 205 #[.agg a.cells,.agg b.cells] w fun r w'=>r=vi (L8 (a.n*b.d) (b.n*a.d))∧Up w w':=by
 obtain⟨w0,rfl,hS⟩:=W0 w
 refine cT 31 func205 rfl (Af (Ao (.bA rfl) rfl ?_))
 rintro _ w1 ⟨B2,rfl,NB2⟩
 replace hS:=hS.Bn NB2
 refine Ao (.bA rfl) rfl ?_
 rintro _ w2 ⟨B3,rfl,NB3⟩
 replace hS:=hS.Bn NB3
 refine J (Ar (Aa (I (.lc rfl (hS.b0.agg)) (I (.lc rfl (hS.b1.agg)) (A3 (eC (.u rfl rfl) (jC)) rfl (Oh a b _ ha hb) ?_)))))
 rintro _ w3 ⟨rfl,uw3⟩
 replace hS:=hS.up uw3
 refine LW.A rfl (Ar (Aa (I (.fB 0 rfl) (I (.lb rfl (hS.b0.An rfl)) (I (.fB 1 rfl) (I (.lb rfl (hS.b1.An rfl)) (I (.vl (v':=vi (a.n*b.d)) (PEv.F4 (.t rfl) (.t rfl)) (a_ (Go.Value.int .i64) (nC ha hb))) (LW.A rfl (Ar (Aa (I (.fB 0 rfl) (I (.lb rfl (hS.b1.An rfl)) (I (.fB 1 rfl) (I (.lb rfl (hS.b0.An rfl)) (I (.vl (v':=vi (b.n*a.d)) (PEv.F4 (.t rfl) (.t rfl)) (a_ (Go.Value.int .i64) (nC hb ha))) (LW.A rfl (Ar (Af (Ac rfl (I (.fa (PEv.n1 rfl) (rfl)) (Ac rfl (Cq (Ac rfl (Cq (Ac rfl (Cq (I (.eql (.t rfl) (.t rfl)) (I (.po rfl (fun hp=>(by exact .tmp rfl))) (Ai (CW.b rfl (fun h27=>?_) (fun h27=>?_)))))))))))))))))))))))))))))))
 ·have h1:a.n*b.d=b.n*a.d:=by simpa using h27
  refine Af (J (Ai (Aj (Ah (KW.q ?_)))))
  rw[EN]
  exact⟨by rw[ak h1],hS.Cj⟩
 have h1:¬a.n*b.d=b.n*a.d:=by simpa using h27
 refine Ak (Ab (Al (Af (Ac rfl (Ac rfl (I (.l2 rfl rfl) (Ai (CW.b rfl (fun h30=>?_) (fun h30=>?_)))))))))
 ·replace h30:=dQ h30
  have h2:=h30
  refine Af (J (Ai (Aj (Ah (KW.q ?_)))))
  rw[EN]
  exact⟨by rw[ae h1,ak h2],hS.Cj⟩
 replace h30:=dQ h30
 have h2:¬a.n*b.d<b.n*a.d:=by omega
 refine Ak (Ab (Af (J (Ai (Aj (KW.q ?_))))))
 rw[EN]
 exact⟨by rw[ae h1,ae h2],hS.Cj⟩
theorem hG(a lo hi:Rt)(w:World)(ha:a.ok)(hlo:lo.ok)(hhi:hi.ok):Ret prog 162 #[.agg a.cells,.agg lo.cells,.agg hi.cells] w fun r w'=>r=.agg (Mb a lo hi).cells∧Up w w':=by
 obtain⟨w0,rfl,hS⟩:=W0 w
 refine cT 32 func162 rfl (Af (Ao (.bA rfl) rfl ?_))
 rintro _ w1 ⟨B3,rfl,NB3⟩
 replace hS:=hS.Bn NB3
 refine Ao (.bA rfl) rfl ?_
 rintro _ w2 ⟨B4,rfl,NB4⟩
 replace hS:=hS.Bn NB4
 refine Ao (.bA rfl) rfl ?_
 rintro _ w3 ⟨B5,rfl,NB5⟩
 replace hS:=hS.Bn NB5
 refine Ao (.Bi lm) rfl ?_
 rintro _ w4 ⟨B6,rfl,NB6⟩
 replace hS:=hS.Bn NB6
 refine Ar (Aa (I (.lc rfl (hS.b0.agg)) (I (.lc rfl (hS.b1.agg)) (A3 (eC (.u rfl rfl) (jC)) rfl (Oh a lo _ ha hlo) ?_))))
 rintro _ w5 ⟨rfl,uw5⟩
 replace hS:=hS.up uw5
 refine LW.A rfl (Ar (Aa (I (.lc rfl (hS.b2.agg)) (A3 (eC (.o rfl) (jD)) rfl (Mf hi _ hhi) ?_))))
 rintro _ w6 ⟨rfl,uw6⟩
 replace hS:=hS.up uw6
 refine LW.A rfl (Ar (Af (Ac rfl (I (.fa (PEv.n1 rfl) (rfl)) (Ac rfl (Cq (Ac rfl (Cq (I (.fa (PEv.n1 rfl) (rfl)) (I (.po rfl (fun hp=>(by exact .tmp rfl))) (Ai (CW.f rfl (Ak (Ab (Al (Af (I (.lc rfl (hS.b0.agg)) (I (.lc rfl (hS.b1.agg)) (A3 (eC (.u rfl rfl) (BP)) rfl (cR a lo _ ha hlo) ?_)))))))))))))))))))
 rintro _ w7 ⟨rfl,uw7⟩
 replace hS:=hS.up uw7
 refine I (.lss (.t rfl) (.const _)) (Ai (CW.b rfl (fun h24=>?_) (fun h24=>?_)))
 ·replace h24:=dQ h24
  have h1:=h24
  refine Af (I (.lc rfl (hS.b1.agg)) (Bh (.A5 lj rfl (.t rfl) (.t rfl) (Rt.one _) hS.b3 rfl) ?_))
  intro w8 Nw8
  replace hS:=hS.Co 3 rfl Nw8
  refine Ai (Aj (Ah (Dy rfl rfl md lj rfl (hS.b3.agg) ⟨_,rfl,?_⟩)))
  exact⟨by unfold Mb;rw[ak h1],hS.Cj⟩
 replace h24:=dQ h24
 have h1:=h24
 refine Ak (Ab (Al (Af (I (.lc rfl (hS.b0.agg)) (I (.lc rfl (hS.b2.agg)) (A3 (eC (.u rfl rfl) (BP)) rfl (cR a hi _ ha hhi) ?_))))))
 rintro _ w9 ⟨rfl,uw9⟩
 replace hS:=hS.up uw9
 refine I (.gtr (.t rfl) (.const _)) (Ai (CW.b rfl (fun h29=>?_) (fun h29=>?_)))
 ·replace h29:=dQ h29
  have h2:=h29
  refine Af (I (.lc rfl (hS.b2.agg)) (Bh (.A5 lj rfl (.t rfl) (.t rfl) (Rt.one _) hS.b3 rfl) ?_))
  intro w10 Nw10
  replace hS:=hS.Co 3 rfl Nw10
  refine Ai (Aj (Ah (Dy rfl rfl md lj rfl (hS.b3.agg) ⟨_,rfl,?_⟩)))
  exact⟨by unfold Mb;rw[ae h1,ak h2],hS.Cj⟩
 replace h29:=dQ h29
 have h2:=h29
 refine Ak (Ab (Af (I (.lc rfl (hS.b0.agg)) (Bh (.A5 lj rfl (.t rfl) (.t rfl) (Rt.one _) hS.b3 rfl) ?_))))
 intro w11 Nw11
 replace hS:=hS.Co 3 rfl Nw11
 refine Ai (Aj (Dy rfl rfl md lj rfl (hS.b3.agg) ⟨_,rfl,?_⟩))
 exact⟨by unfold Mb;rw[ae h1,ae h2],hS.Cj⟩
theorem cU(n:Int)(w:World):Ret prog 200 #[vi n] w fun r w'=>r=.bool (Lm n)∧Up w w':=by
 have hW:=Up.refl w
 refine cT 9 func200 rfl (Af (J (Ar (Aa (Ac rfl (I (.geq (.t rfl) (.const _)) (Ac rfl (Dk rfl rfl (LW.gr rfl (fun hc=>PEv.leq vQ (.const _)) (I (.pa rfl (fun hp=>(by exact .cond rfl (by(rw[hp];rfl))))) (LW.A rfl (Ai (Aj (KW.q ?_))))))))))))))
 exact⟨rfl,hW⟩
theorem cV(bc:Array Go.Value)(b:Base)(r t:Int)(w:World)(hC:BaseC w bc b)(hl:b.Targets.length≤100000):Ret prog 160 #[.agg bc,vi r,vi t] w fun r0 w'=>r0=vi (Ez b.Targets r t)∧Up w w':=by
 obtain⟨w0,rfl,hS⟩:=W0 w
 refine cT 24 func160 rfl (Af (Ao (.bA rfl) rfl ?_))
 rintro _ w1 ⟨B3,rfl,NB3⟩
 replace hS:=hS.Bn NB3
 refine J (Ar (Aa (I (.Ef l7 lw (hC.size) (.t rfl) (hS.b0.agg)) (Ac rfl (Ac rfl (A3 (eC (.ct rfl (.ct rfl (.cu rfl))) (IY)) rfl (cM bc b r t _ (hC.up hS.Cj) hl) ?_))))))
 rintro _ w2 ⟨rfl,uw2⟩
 replace hS:=hS.up uw2
 refine Ac rfl (I (.xt rfl rfl) (I (.xt rfl rfl) (LW.A rfl (LW.A rfl (Ar (Af (Ac rfl (I (.n1 rfl) (Ac rfl (Dk rfl rfl (Z5 rfl rfl rfl rfl rfl rfl rfl rfl (fun hc=>Bq (.cons vQ .nil) (BO)) (fun hc=>cU (Lc r t b.Targets).1.Value _) ?_)))))))))))
 intro w3 uw3
 replace hS:=hS.up uw3
 refine LW.gr rfl (fun hc=>PEv.not vQ) (I (.po rfl (fun hp=>(by exact .cond rfl (by(rw[hp];rfl))))) (Ai (CW.b rfl (fun h22=>?_) (fun h22=>?_))))
 ·have hv:((Lc r t b.Targets).2&&Lm (Lc r t b.Targets).1.Value)=false:=by revert h22;cases(Lc r t b.Targets).2<;>cases Lm (Lc r t b.Targets).1.Value<;>simp
  refine Af (J (Ai (Aj (Ah (KW.q ?_)))))
  exact⟨by rw[Y8 hv],hS.Cj⟩
 have hv:((Lc r t b.Targets).2&&Lm (Lc r t b.Targets).1.Value)=true:=by revert h22;cases(Lc r t b.Targets).2<;>cases Lm (Lc r t b.Targets).1.Value<;>simp
 refine Ak (Ab (Af (Ac rfl (LW.A rfl (Ai (Aj (KW.q ?_)))))))
 exact⟨by rw[U8 hv],hS.Cj⟩
theorem tJ(bc:Array Go.Value)(b:Base)(r:Int)(x:Fact)(time:Int)(w:World)(hC:BaseC w bc b)(hr:x.Recipe=r)(hlM:b.Measures.length≤100000)(hlT:b.Targets.length≤100000):Ret prog 157 #[.agg bc,.agg x.cells,vi time] w fun r0 w'=>r0=.tuple #[vi (E3 b.Measures b.Targets r x time).1,.bool (E3 b.Measures b.Targets r x time).2]∧Up w w':=by
 obtain⟨w0,rfl,hS⟩:=W0 w
 refine cT 40 func157 rfl (Af (Ao (.bA rfl) rfl ?_))
 rintro _ w1 ⟨B3,rfl,NB3⟩
 replace hS:=hS.Bn NB3
 refine Ao (.bA rfl) rfl ?_
 rintro _ w2 ⟨B4,rfl,NB4⟩
 replace hS:=hS.Bn NB4
 refine J (J (Ar (Aa (I (.Ef l7 lw (hC.size) (.t rfl) (hS.b0.agg)) (I (.fB 1 rfl) (I (.lb rfl (hS.b1.An rfl)) (A3 (eC (.u rfl rfl) (IX)) rfl (Zl bc b x.ID _ (hC.up hS.Cj) hlM) ?_)))))))
 rintro _ w3 ⟨rfl,uw3⟩
 replace hS:=hS.up uw3
 generalize hm:U2 b x.ID=m
 refine Ac rfl (I (.xt rfl rfl) (I (.xt rfl rfl) (Ao (.Bi k_) rfl ?_)))
 rintro _ w4 ⟨B8,rfl,MB8⟩
 refine Bh (.A5 k7 rfl (.t rfl) (.t rfl) (Fact.one _) MB8.blk rfl) ?_
 intro w5 LB8
 have NB8:=MB8.set LB8
 replace hS:=hS.Bn NB8
 refine LW.A rfl (Ar (Af (Ac rfl (I (.n1 rfl) (Ac rfl (LW.gr rfl (fun hc=>PEv.fB 16 rfl) (LW.gr rfl (fun hc=>PEv.load ly vQ (hS.b2.An rfl)) (Z5 rfl rfl rfl rfl rfl rfl rfl rfl (fun hc=>Bq (.cons vQ .nil) (BO)) (fun hc=>cU (m.getD Dc).Value _) ?_))))))))
 intro w6 uw6
 replace hS:=hS.up uw6
 refine LW.gr rfl (fun hc=>PEv.not vQ) (I (.po rfl (fun hp=>(by exact .cond rfl (by(rw[hp];rfl))))) (Ac rfl (LW.gr rfl (fun hc=>PEv.fB 5 rfl) (LW.gr rfl (fun hc=>PEv.load ly vQ (hS.b2.An rfl)) (Dk rfl rfl (LW.gr rfl (fun hc=>PEv.gtr vQ vQ) (I (.po rfl (fun hp=>(by exact .cond rfl (by(rw[hp];rfl))))) (Ai (CW.b rfl (fun h30=>?_) (fun h30=>?_))))))))))
 ·have hv:E7 m time=true:=by simpa[E7]using h30
  refine Af (J (J (Ai (Aj (Ah (Br rfl rfl rfl ⟨_,rfl,?_⟩))))))
  exact⟨by subst hm;rw[Y9 hv],hS.Cj⟩
 have hv:E7 m time=false:=by simpa[E7]using h30
 refine Ak (Ab (Al ?_))
 have hvi:=gK hv
 have hti:=Qx b.Targets r x.Time
 refine Eo 9 [.eq (.pointer (some ⟨B8,16,none⟩)),.eq (vi (m.getD Dc).Value),.eq (.agg bc),.eq (.pointer (some ⟨B4,14,none⟩)),.eq (vi r),.eq (.pointer (some ⟨B4,5,none⟩)),.eq (vi x.Time),.eq (vi (Ez b.Targets r x.Time)),.eq (vi ((m.getD Dc).Value-Ez b.Targets r x.Time))] [39] kQ rfl kQ kQ kQ kQ kQ kQ kQ uQ ?_ ?_
 ·intro W hU0
  have hU:=(Up.drew w6).trans hU0
  have hSW:=hS.up hU
  refine aC ⟨rfl,TU.p (.fB 16 rfl) rfl⟩ (aC ⟨rfl,TU.p (.lb rfl (hSW.b2.An rfl)) rfl⟩ (aC ⟨rfl,TU.p (.Ef l7 lw hC.size (.t rfl) (hSW.b0.agg)) rfl⟩ (aC ⟨rfl,TU.p (.fB 14 rfl) rfl⟩ (aC ⟨rfl,TU.p (.lb rfl (by rw[←hr];exact hSW.b1.An rfl)) rfl⟩ (aC ⟨rfl,TU.p (.fB 5 rfl) rfl⟩ (aC ⟨rfl,TU.p (.lb rfl (hSW.b1.An rfl)) rfl⟩ (aC ⟨rfl,TU.c (eC (.ct rfl (.ct rfl (.cu rfl))) (BF)) (cV bc b r x.Time W (hC.up (hS.Cj.trans hU)) hlT) sQ⟩ (aC ⟨rfl,TU.p (.vl (v':=vi ((m.getD Dc).Value-Ez b.Targets r x.Time)) (PEv.Si (.t rfl) (.t rfl)) (a_ (Go.Value.int .i64) (Cb oQ oQ))) rfl⟩ ?_))))))))
  exact allL.nil
 intro w7 g hU0 hg
 have hU:=(Up.drew w6).trans hU0
 replace hS:=hS.up hU
 have e39:g 39=_:=hg 8 _ 39 cQ rfl rfl
 dsimp only[List.map]
 rw[e39]
 refine LW.A rfl (J (Ai (Aj (Br rfl rfl rfl ⟨_,rfl,?_⟩))))
 exact⟨by subst hm;rw[U9 hv];rfl,hS.Cj⟩
theorem nY(bc:Array Go.Value)(b:Base)(t c r:Int)(w:World)(hC:BaseC w bc b)(hl:b.Processes.length≤100000):Ret prog 93 #[.agg bc,vi t,vi c,vi r] w fun r0 w'=>OwnS w' w.heap.size 51 19 Fact.cells r0 (Md b t c r)∧Up w w':=by
 obtain⟨w0,rfl,hS⟩:=W0 w
 refine cT 37 func93 rfl (Af (Ao (.bA rfl) rfl ?_))
 rintro _ w1 ⟨B4,rfl,NB4⟩
 replace hS:=hS.Bn NB4
 refine J (Ar (Aa (I (.Ef l7 lw (hC.size) (.t rfl) (hS.b0.agg)) (Ac rfl (Ac rfl (A3 (eC (.ct rfl (.ct rfl (.cu rfl))) (HX)) rfl (nX bc b t c _ (hC.up hS.Cj) hl) ?_))))))
 rintro v15 w2 ⟨hO15,uw2⟩
 replace hS:=hS.up uw2
 obtain⟨ad15,cp15,rfl,hE15_⟩:=hO15.sl (fun _=>rfl)
 have hE15:Els w2 ad15 19 Fact.cells (G6 b t c):=hE15_
 have hrl:=R4 b t c
 refine LW.A rfl (Ar (Aa (J (Ar (Al ?_)))))
 have hU0:=hS.Cj
 obtain⟨wE,ewE⟩:∃W,W=w2:=⟨_,rfl⟩
 replace hS:Wx.Sep no wE w2 []:=by rw[ewE];exact Sep.start no _
 rw[←ewE]at hE15 hU0
 replace hS:=hS.add (Up.refl _) (A':=A8 51 19 Fact.cells (.slice none 0 0) ([]:List Fact)) (OwnS.nil _ _ _ _ _) (by intro i h;cases h)
 refine Aa (J (Ai (Ap (A9 (σ:=Nat×Go.Value) (fun s w=>(s.1≤(G6 b t c).length)∧(Wx.Sep no wE w [A8 51 19 Fact.cells (s.2) (((G6 b t c).take s.1).filter (fun x=>decide (x.Recipe=r)))])) (fun s=>[(11,.eq (vi (s.1:Int))),(10,.eq (s.2))]) ([(3,.eq _),(8,.eq _),(9,.eq _)]) (fun s=>(G6 b t c).length-s.1) (0,.slice none 0 0) ?_ tQ ?_))))
 ·exact⟨ao _,hS⟩
 rintro⟨k,v⟩ w3 ⟨hk,hS⟩
 change CW _ _ _ _ _ _ _ ([(11,.eq (vi (k:Int))),(10,.eq (v))]++_) _
 refine Al (Af (Ac rfl (Ac rfl (I (.Df k6 (.t rfl)) (I (.l2 rfl rfl) (Ai (CW.b rfl (fun h19=>?_) (fun h19=>?_))))))))
 ·replace h19:=dQ h19
  refine Ak (Ab (Al (Ap (Al ?_))))
  obtain⟨x,hx⟩:=Av (xs:=(G6 b t c)) (i:=k) oQ
  obtain⟨Bx,ox,ax,hcx⟩:=(hE15.up hS.Cj) k x hx
  refine Aa (Ac rfl (Ac rfl (I (.Ay k6 k7 (.t rfl) (.t rfl) oQ ax) (I (.fB 14 rfl) (I (.lb rfl (hcx.nth (j:=14) rfl)) (Ac rfl (I (.eql (.t rfl) (.t rfl)) (Ai (CW.b rfl (fun h28=>?_) (fun h28=>?_))))))))))
  ·replace h28:=dQ h28
   have hp:(fun x=>decide (x.Recipe=r)) x=true:=a8 h28
   refine Aa (Ac rfl (Ac rfl (Ac rfl (I (.Ay k6 k7 (.t rfl) (.t rfl) oQ ax) (I (.lc rfl (hcx)) (Ao (.buildSlice (xs:=[x]) (enc:=Fact.cells) (mk:=fun f:Fact=>.agg f.cells) k6 k7 k_ rfl cQ (fun _=>rfl) (fun _=>rfl) (.cu rfl) rfl) rfl ?_))))))
   rintro _ w4 ⟨B34,cB34,rfl,NB34,yB34,xB34⟩
   replace hS:=hS.up NB34.up
   replace hcx:=hcx.up NB34.up
   have hE34:=xB34
   refine Ao (.Cu (enc:=Fact.cells) (bytes:=160) (i:=Tryz.t51) k6 kQ rfl rfl rfl rfl cQ (fun _=>rfl) Fact.one (.t rfl) (.t rfl) (hS.own 0 rfl) (Az hE34) (by have:=H5 (fun x=>decide (x.Recipe=r)) (G6 b t c) k;simp[maxLen];omega) (by have:=H5 (fun x=>decide (x.Recipe=r)) (G6 b t c) k;simp;omega)) rfl ?_
   intro v35 w5 Gw5
   replace hS:=hS.E5 0 rfl Gw5
   refine LW.A rfl (LW.nil (Ae (Ab (Aa (Ac rfl (I (.add (.t rfl) (.const _) oQ oQ) (LW.A rfl (LW.nil (Aq ?_)))))))))
   exact⟨(k+1,v35),⟨by show k+1≤_;omega,by(rw[M5 hx hp];exact hS.take 1)⟩,tQ,by show(G6 b t c).length-(k+1)<(G6 b t c).length-k;omega⟩
  replace h28:=dQ h28
  have hp:(fun x=>decide (x.Recipe=r)) x=false:=bg h28
  refine Ak (Ae (Ab (Aa (Ac rfl (I (.add (.t rfl) (.const _) oQ oQ) (LW.A rfl (LW.nil (Aq ?_))))))))
  exact⟨(k+1,v),⟨by show k+1≤_;omega,by(rw[U3 hx hp];exact hS.take 1)⟩,tQ,by show(G6 b t c).length-(k+1)<(G6 b t c).length-k;omega⟩
 replace h19:=dQ h19
 refine A7 (Ad (Ad (Au (Ab (Al ?_)))))
 have hkl:k=(G6 b t c).length:=by omega
 rw[hkl,br]at hS
 refine Aa (Ac rfl (LW.A rfl (Ai (Aj (KW.q ?_)))))
 exact⟨(hS.own 0 rfl).I1 (fun i h=>bb hU0.size ((hS.foot 0 rfl i h).resolve_left (fun h=>h))),hU0.trans hS.Cj⟩
set_option maxHeartbeats 4000000 in
theorem cW(bc:Array Go.Value)(b:Base)(t c r time:Int)(ada:Option Addr)(cpa:Nat)(ahead:List Fact)(w:World)(hC:BaseC w bc b)(hE0:Els w ada 19 Fact.cells ahead)(hr:∀x∈ahead,x.Recipe=r)(hlA:ahead.length≤400)(hlR:b.Resets.length≤100000)(hlM:b.Measures.length≤100000)(hlT:b.Targets.length≤100000):Ret prog 94 #[.agg bc,vi t,vi c,vi r,vi time,.slice ada ahead.length cpa] w fun r0 w'=>∃ad cp,r0=.tuple #[.agg (DP.cells ⟨Fa b t c r time ahead,ad,cp⟩),.bool true]∧OwnS w' w.heap.size 3 1 Cm (.slice ad (Fa b t c r time ahead).uses.length cp) (Fa b t c r time ahead).uses∧Up w w':=by
 obtain⟨w0,rfl,hS⟩:=W0 w
 obtain⟨v8,h8,adR,cpR,rfl,hER_⟩:=hC.at8
 have hER:Els w0 adR 19 Fact.cells b.Resets:=hER_
 refine cT 170 func94 rfl (Af (Ao (.bA rfl) rfl ?_))
 rintro _ w1 ⟨B6,rfl,NB6⟩
 replace hS:=hS.Bn NB6
 refine Ao (.Bi l5) rfl ?_
 rintro _ w2 ⟨B12,rfl,NB12⟩
 replace hS:=hS.Bn NB12
 refine J (Ar (Aa (J (Ar (Aa (J (Ar (Af (J (Ai (Ap (A9 (σ:=Nat×Bool×Int) (fun s w=>(s.1≤b.Resets.length)∧(RInv ((b.Resets.take s.1).filter (Qz t c time)) s.2.1 s.2.2)∧(Wx.Sep no w0 w [Ch B6 bc 39,Ch B12 (DP.cells ⟨Ik,none,0⟩) 57])) (fun s=>[(16,.eq (vi (s.1:Int))),(15,.eq (.bool s.2.1)),(14,.eq (vi s.2.2))]) ([(1,.eq _),(2,.eq _),(3,.eq _),(4,.eq _),(5,.eq _),(6,.eq _),(12,.eq _),(13,.eq _)]) (fun s=>b.Resets.length-s.1) (0,false,0) ?_ tQ ?_))))))))))))
 ·exact⟨ao _,RInv.nil,hS⟩
 rintro⟨j,a,rs⟩ w3 ⟨hj,hR,hS⟩
 dsimp only at hj hR
 change CW _ _ _ _ _ _ _ ([(16,.eq (vi (j:Int))),(15,.eq (.bool a)),(14,.eq (vi rs))]++_) _
 refine Al (Af (Ac rfl (I (.fB 8 rfl) (I (.lb rfl (hS.b0.cell h8)) (I (.Df k6 (.t rfl)) (I (.l2 rfl rfl) (Ai (CW.b rfl (fun h34=>?_) (fun h34=>?_)))))))))
 ·replace h34:=dQ h34
  refine Ak (Ab (Al (Ap (Al ?_))))
  obtain⟨x,hx⟩:=Av (xs:=b.Resets) (i:=j) oQ
  obtain⟨Bx,ox,ax,hcx⟩:=(Els.up hER hS.Cj) j x hx
  refine Aa (I (.fB 8 rfl) (I (.lb rfl (hS.b0.cell h8)) (Ac rfl (I (.Ay k6 k7 (.t rfl) (.t rfl) oQ ax) (I (.lc rfl (hcx)) (Ao (.Bi k_) rfl ?_))))))
  rintro _ w4 ⟨B17,rfl,MB17⟩
  refine Bh (.A5 k7 rfl (.t rfl) (.t rfl) (Fact.one _) MB17.blk rfl) ?_
  intro w5 LB17
  have NB17:=MB17.set LB17
  replace hcx:=hcx.up NB17.up
  replace hS:=hS.Bn NB17
  refine Ar (Aa (I (.fB 11 rfl) (I (.lb rfl (hS.b2.An rfl)) (Ac rfl (I (.eql (.t rfl) (.t rfl)) (Ac rfl (LW.gr rfl (fun hc=>PEv.fB 12 rfl) (LW.gr rfl (fun hc=>PEv.load ly vQ (hS.b2.An rfl)) (Dk rfl rfl (LW.gr rfl (fun hc=>PEv.eql vQ vQ) (I (.pa rfl (fun hp=>(by exact .cond rfl (by(rw[hp];rfl))))) (Ac rfl (LW.gr rfl (fun hc=>PEv.fB 5 rfl) (LW.gr rfl (fun hc=>PEv.load ly vQ (hS.b2.An rfl)) (Dk rfl rfl (LW.gr rfl (fun hc=>PEv.leq vQ vQ) (I (.pa rfl (fun hp=>(by exact .cond rfl (by(rw[hp];rfl))))) (Ac rfl (Dk rfl rfl (LW.gr rfl (fun hc=>PEv.not vQ) (LW.gr rfl (fun hc=>PEv.move vQ) (E0 rfl rfl rfl rfl rfl rfl rfl (fun hc=>PEv.fB 5 rfl) (E0 rfl rfl rfl rfl rfl rfl rfl (fun hc=>PEv.load ly vQ (hS.b2.An rfl)) (E0 rfl rfl rfl rfl rfl rfl rfl (fun hc=>PEv.mv rfl) (E0 rfl rfl rfl rfl rfl rfl rfl (fun hc=>PEv.gtr vQ vQ) (LW.gr rfl (fun hc=>PEv.Ee vQ (fun hp=>(by exact .cond rfl (by(rw[hc,hp];rfl))))) (I (.pa rfl (fun hp=>(by exact .cond rfl (by(rw[hp];rfl))))) (Ai (CW.b rfl (fun h67=>?_) (fun h67=>?_))))))))))))))))))))))))))))))
  ·replace h67:=dQ h67
   have hy:(Qz t c time x&&(!a||decide (rs<x.Time)))=true:=by unfold Qz;exact h67
   refine Af (I (.fB 5 rfl) (I (.lb rfl (hS.b2.An rfl)) (LW.A rfl (Ai (Aa (J (LW.nil (Ae (Ab (Aa (Ac rfl (I (.ic rfl oQ) (LW.A rfl (LW.nil (Aq ?_)))))))))))))))
   exact⟨(j+1,true,x.Time),⟨by show j+1≤_;omega,hR.put hx hy,hS.take 2⟩,tQ,by show b.Resets.length-(j+1)<b.Resets.length-j;omega⟩
  replace h67:=dQ h67
  have hy:(Qz t c time x&&(!a||decide (rs<x.Time)))=false:=by unfold Qz;exact h67
  refine Ak (Ae (Ab (Aa (Ac rfl (I (.ic rfl oQ) (LW.A rfl (LW.nil (Aq ?_))))))))
  exact⟨(j+1,a,rs),⟨by show j+1≤_;omega,hR.skip hx hy,hS.take 2⟩,tQ,by show b.Resets.length-(j+1)<b.Resets.length-j;omega⟩
 replace h34:=dQ h34
 refine A7 (Ad (Ad (Au (Ab (Al ?_)))))
 have hjl:j=b.Resets.length:=by omega
 rw[hjl,br]at hR
 replace hR:RInv (Ki b t c time) a rs:=hR
 refine Aa (I (.build (cs:=(rI 0).cells) mc lm Ed (.cons (.const _) .nil) rfl) (I (.build (cs:=DecV.cells ⟨0,rz,rI 0,.slice none 0 0⟩) m8 l5 G8 (.cu rfl) kQ) (Ao (.Bi l5) rfl ?_)))
 rintro _ w6 ⟨B18,rfl,MB18⟩
 refine Bh (.A5 lr rfl (.t rfl) (.t rfl) (Q1 _ rfl) MB18.blk rfl) ?_
 intro w7 LB18
 have NB18:=MB18.set LB18
 replace hS:=hS.Bn NB18
 refine Ar (Al ?_)
 rw[OP]at hS
 replace hS:=hS.add (Up.refl _) (A':=A8 3 1 Cm (.slice none 0 0) ([]:List Int)) (OwnS.nil _ _ _ _ _) (by intro i h;cases h)
 refine Aa (J (Ai (Ap (A9 (σ:=Nat×Go.Value×Int×List Int) (fun s w=>(s.1≤ahead.length)∧(s.2.2=Jm b.Measures b.Targets r time (D5 (Ki b t c time) (ahead.take s.1)))∧(Wx.Sep no w0 w [Ch B6 bc 39,Ch B12 (DP.cells ⟨Ik,none,0⟩) 57,Ch B18 (DecV.cells ⟨0,rz,Ce (s.2.2.1) 4,s.2.1⟩) 57,A8 3 1 Cm (s.2.1) (s.2.2.2)])) (fun s=>[(19,.eq (vi (s.1:Int)))]) ([(3,.eq _),(4,.eq _),(5,.eq _),(6,.eq _),(12,.eq _),(14,.eq _),(15,.eq _),(18,.eq _)]) (fun s=>ahead.length-s.1) (0,.slice none 0 0,0,[]) ?_ tQ ?_))))
 ·exact⟨ao _,by rw[jc,Jo];rfl,hS⟩
 rintro⟨k,vu,E,U⟩ w8 ⟨hk,hEU,hS⟩
 dsimp only at hk hEU hS
 change CW _ _ _ _ _ _ _ ([(19,.eq (vi (k:Int)))]++_) _
 refine Al (Af (Ac rfl (Ac rfl (I (.Df k6 (.t rfl)) (I (.l2 rfl rfl) (Ai (CW.b rfl (fun h75=>?_) (fun h75=>?_))))))))
 ·replace h75:=dQ h75
  refine Ak (Ab (Al (Ap (Al ?_))))
  obtain⟨x,hx⟩:=Av (xs:=ahead) (i:=k) oQ
  obtain⟨Bx,ox,ax,hcx⟩:=(Els.up hE0 hS.Cj) k x hx
  have hxr:=hr x (am hx)
  have hdi:=Za b.Measures b.Targets r x time
  have hbd:=Qy b.Measures b.Targets r time (D5 (Ki b t c time) (ahead.take k))
  rw[←hEU]at hbd
  dsimp only at hbd
  have hsl:=Pp (Ki b t c time) (ahead.take k)
  rw[bu]at hsl
  refine Cg kQ kQ rfl rfl (Am (.Ef l7 lw (hC.size) (.t rfl) (hS.b0.agg)) (Am (.mv rfl) (Am (.mv rfl) (Am (.Ay k6 k7 (.t rfl) (.t rfl) oQ ax) (Am (.lc rfl (hcx)) (Am (.mv rfl) (HW.c (fun a w _ ha=>Bq (.ct rfl (.ct rfl (.cu rfl))) (HY) a ha) rfl rfl (fun w hu=>tJ bc b r x time w (hC.up (hS.Cj.trans hu)) hxr hlM hlT) (Am (.mv rfl) (Am (.xt rfl rfl) (Am (.xt rfl rfl) (Am (.assign (.t rfl)) (Am (.assign (.t rfl)) (HW.nil ?_)))))))))))))
  intro w9 uw9
  replace hS:=hS.up uw9
  replace hcx:=hcx.up uw9
  refine Ab (Al (Af (Ac rfl (I (.n1 rfl) (Ac rfl (Dk rfl rfl (LW.gr rfl (fun hc=>PEv.move vQ) (E0 rfl rfl rfl rfl rfl rfl rfl (fun hc=>PEv.mv rfl) (E0 rfl rfl rfl rfl rfl rfl rfl (fun hc=>PEv.mv rfl) (E0 rfl rfl rfl rfl rfl rfl rfl (fun hc=>PEv.Ay k6 k7 vQ vQ oQ ax) (E0 rfl rfl rfl rfl rfl rfl rfl (fun hc=>PEv.fieldAddr (off:=5) me rfl rfl lf rfl vQ) (E0 rfl rfl rfl rfl rfl rfl rfl (fun hc=>PEv.load ly vQ (hcx.nth (j:=5) rfl)) (E0 rfl rfl rfl rfl rfl rfl rfl (fun hc=>PEv.mv rfl) (E0 rfl rfl rfl rfl rfl rfl rfl (fun hc=>PEv.lss vQ vQ) (LW.gr rfl (fun hc=>PEv.De vQ (fun hp=>(by exact .cond rfl (by(rw[hc,hp];rfl))))) (I (.po rfl (fun hp=>(by exact .cond rfl (by(rw[hp];rfl))))) (Ac rfl (Dk rfl rfl (LW.gr rfl (fun hc=>PEv.geq vQ (.const _)) (LW.gr rfl (fun hc=>PEv.move vQ) (E0 rfl rfl rfl rfl rfl rfl rfl (fun hc=>PEv.mv rfl) (E0 rfl rfl rfl rfl rfl rfl rfl (fun hc=>PEv.leq vQ (.const _)) (LW.gr rfl (fun hc=>PEv.De vQ (fun hp=>(by exact .cond rfl (by(rw[hc,hp];rfl))))) (I (.po rfl (fun hp=>(by exact .cond rfl (by(rw[hp];rfl))))) (Ai (CW.b rfl (fun h109=>?_) (fun h109=>?_)))))))))))))))))))))))))))
  ·replace h109:=dQ h109
   have hkp:((Ki b t c time).all (fun y=>decide (y.Time≤x.Time))&&G7 (E3 b.Measures b.Targets r x time))=false:=by have h9:=(lE hR x (E3 b.Measures b.Targets r x time)).symm.trans h109;rw[gn]at h9;exact h9
   refine A7 (Ad (Au (Ab (Aa (Ac rfl (I (.ic rfl oQ) (LW.A rfl (LW.nil (Aq ?_)))))))))
   exact⟨(k+1,vu,E,U),⟨by show k+1≤_;omega,by rw[tE hx hkp];exact hEU,hS.take 4⟩,tQ,by show ahead.length-(k+1)<ahead.length-k;omega⟩
  replace h109:=dQ h109
  have hkp:((Ki b t c time).all (fun y=>decide (y.Time≤x.Time))&&G7 (E3 b.Measures b.Targets r x time))=true:=by have h9:=(lE hR x (E3 b.Measures b.Targets r x time)).symm.trans h109;rw[iv]at h9;exact h9
  refine Ak (Ab (Af (Ac rfl (A3 (eC (.ct rfl (.cons (.const _) .nil)) (pN)) rfl (Lo (E3 b.Measures b.Targets r x time).1 4 _ ⟨by omega,by omega⟩ cQ ⟨by decide,by decide⟩) ?_))))
  rintro _ w10 ⟨rfl,uw10⟩
  replace hS:=hS.up uw10
  replace hcx:=hcx.up uw10
  rw[Gq (Hf oQ cQ)]
  refine Ac rfl (I (.xt rfl rfl) (I (.xt rfl rfl) (Ao (.Bi lm) rfl ?_)))
  rintro _ w11 ⟨B22,rfl,MB22⟩
  refine Bh (.A5 lj rfl (.t rfl) (.t rfl) (Rt.one _) MB22.blk rfl) ?_
  intro w12 LB22
  have NB22:=MB22.set LB22
  replace hcx:=hcx.up NB22.up
  replace hS:=hS.Bn NB22
  refine LW.A rfl (Ar (Aa (I (.fB 3 rfl) (I (.lc rfl (Q0 hS.b2)) (I (.lc rfl (hS.b4.agg)) (A3 (eC (.u rfl rfl) (HZ)) rfl (tH (Ce E 4) (Ce (E3 b.Measures b.Targets r x time).1 4) _ (Ip oQ) (Ip oQ)) ?_))))))
  rintro _ w13 ⟨rfl,uw13⟩
  replace hS:=hS.up uw13
  replace hcx:=hcx.up uw13
  rw[Zb (by omega)]
  refine Ac rfl (I (.xt rfl rfl) (I (.xt rfl rfl) (Ao (.Bi lm) rfl ?_)))
  rintro _ w14 ⟨B24,rfl,MB24⟩
  refine Bh (.A5 lj rfl (.t rfl) (.t rfl) (Rt.one _) MB24.blk rfl) ?_
  intro w15 LB24
  have NB24:=MB24.set LB24
  replace hcx:=hcx.up NB24.up
  replace hS:=hS.Bn NB24
  refine LW.A rfl (Ar (Af (Ac rfl (I (.fa (PEv.neq (.t rfl) (.const _)) (rfl)) (Ac rfl (Cq (Ac rfl (Cq (I (.fa (PEv.neq (.t rfl) (.const _)) (rfl)) (I (.po rfl (fun hp=>(by exact .tmp rfl))) (Ai (CW.f rfl (Ak (Ab (Af (I (.lc rfl (hS.b5.agg)) (I (.fB 3 rfl) (Bh (.Ig lj rfl (.t rfl) (.t rfl) (Rt.one _) hS.b2 bQ) ?_))))))))))))))))))
  intro w16 Nw16
  replace hS:=hS.Co 2 rfl (show Set_ _ w16 _ (DecV.cells ⟨0,rz,Ce (E+(E3 b.Measures b.Targets r x time).1) 4,vu⟩) _ from Nw16)
  replace hcx:=Og (Els.up hE0 hS.Cj) hx ax
  refine Ai (M3 8 (fun v w''=>Wx.Sep no w0 w'' [Ch B6 bc 39,Ch B12 (DP.cells ⟨Ik,none,0⟩) 57,Ch B18 (DecV.cells ⟨0,rz,Ce (E+(E3 b.Measures b.Targets r x time).1) 4,vu⟩) 57,A8 3 1 Cm (v) (U++[x.ID]),Ch B22 (Ce (E3 b.Measures b.Targets r x time).1 4).cells 55,Ch B24 (Ce (E+(E3 b.Measures b.Targets r x time).1) 4).cells 55]) kQ kQ kQ kQ kQ kQ rfl rfl rfl rfl rfl (Am (.fB 5 rfl) (Am (.lb rfl (hS.b2.An rfl)) (Am (.mv rfl) (Am (.mv rfl) (Am (.Ay k6 k7 (.t rfl) (.t rfl) oQ ax) (Am (.fB 1 rfl) (Am (.lb rfl (hcx.nth (j:=1) rfl)) (HW.r (p:=fun v w=>Sl w v 1 (Cm) [x.ID]) (fun _ _ _ h u=>Sl.up h u) rfl (fun w hu a ha=>let⟨v,w',h1,h2⟩:=REv.buildSlice (xs:=[x.ID]) (enc:=Cm) (mk:=vi) lg lf ls rfl bQ (fun _=>rfl) (fun _=>rfl) (.cu rfl) rfl a ha;⟨v,w',h1,h2.q⟩) rfl (HW.nil ⟨fun a w' hu ha=>?_,?_⟩))))))))))
  ·exact(REv.open (d:=138) (p:=fun v w=>Sl w v 1 Cm [x.ID]) rfl fun vv hv=>(REv.Cu (enc:=Cm) (bytes:=8) (i:=Tryz.t3) lg kQ rfl rfl rfl rfl cQ (fun _=>rfl) My (.t rfl) (.t rfl) ((hS.up hu).own 3 rfl) hv (by simp[maxLen];omega) (by simp;omega)).mono fun v' w'' h=>(hS.up hu).E5 3 rfl h).y ha
  intro v139 w17 hS
  refine I (.fB 5 rfl) (Bh (.store sizeOf23 (.t rfl) (.t rfl) ((hS.own 3 rfl).sC (fun _=>rfl)) hS.b2 bQ) ?_)
  intro w18 Nw18
  replace hS:=hS.Co 2 rfl (show Set_ _ w18 _ (DecV.cells ⟨0,rz,Ce (E+(E3 b.Measures b.Targets r x time).1) 4,v139⟩) _ from Nw18)
  replace hcx:=Og (Els.up hE0 hS.Cj) hx ax
  refine LW.nil (Ae (Ab (Aa (Ac rfl (I (.ic rfl oQ) (LW.A rfl (LW.nil (Aq ?_))))))))
  exact⟨(k+1,v139,E+(E3 b.Measures b.Targets r x time).1,U++[x.ID]),⟨by show k+1≤_;omega,by rw[tC hx hkp,←hEU],hS.take 4⟩,tQ,by show ahead.length-(k+1)<ahead.length-k;omega⟩
 replace h75:=dQ h75
 refine A7 (Ad (Ad (Au (Ab (Al ?_)))))
 have hkl:k=ahead.length:=by omega
 rw[hkl,br]at hEU
 have hti:=Qx b.Targets r time
 have hbd:=Qy b.Measures b.Targets r time (D5 (Ki b t c time) ahead)
 rw[←hEU]at hbd
 dsimp only at hbd
 have hsl:=Pp (Ki b t c time) ahead
 refine Nv 14 11 12 9 26 150 (rz.cells) [.eq (.agg bc),.eq (vi r),.eq (vi time),.eq (vi (Ez b.Targets r time)),.eq (.agg (rI (Ez b.Targets r time)).cells),.eq (.pointer (some ⟨B18,3,none⟩)),.eq (.agg (Ce E 4).cells),.eq (.tuple #[.agg (Ce (4*Ez b.Targets r time-E) 4).cells,vi 0]),.eq (.tuple #[.agg (Ce (4*Ez b.Targets r time-E) 4).cells,vi 0]),.eq (.agg (Ce (4*Ez b.Targets r time-E) 4).cells),.eq (vi 0),.pred fun v _=>∃B,v=.pointer (some ⟨B,0,none⟩),.eq (undef),.eq (vi 0)] [27] lm lj kQ rfl kQ kQ kQ kQ kQ kQ kQ rfl rfl ⟨_,_,_,rfl⟩ _ rfl ⟨_,_,_,rfl⟩ ⟨nn,nn,nn,nn,nn,nn,nn,nn,nn,nn,nn,PhT.pred fun _ _ _ h _=>h,nn,nn,trivial⟩ rfl (fun v W h=>⟨_,h,rfl,Rt.one _⟩) (fun B W=>⟨B,rfl⟩) ?_ ?_
 ·intro W hU0
  have hU:=(Up.drew w8).trans hU0
  have hSW:=hS.up hU
  refine aC (.inr ⟨rfl,TU.p (.Ef l7 lw hC.size (.t rfl) (hSW.b0.agg)) rfl⟩) (aC (.inr ⟨rfl,TU.p (.mv rfl) rfl⟩) (aC (.inr ⟨rfl,TU.p (.mv rfl) rfl⟩) (aC (.inr ⟨rfl,TU.c (eC (.ct rfl (.ct rfl (.cu rfl))) (BF)) (cV bc b r time W (hC.up (hS.Cj.trans hU)) hlT) sQ⟩) (aC (.inr ⟨rfl,TU.p (.build (cs:=(rI (Ez b.Targets r time)).cells) mc lm Ed (.ct rfl (.cons (.const _) .nil)) rfl) rfl⟩) (aC (.inr ⟨rfl,TU.p (.fB 3 rfl) rfl⟩) (aC (.inr ⟨rfl,TU.p (.lc rfl (Q0 hSW.b2)) rfl⟩) (aC (.inr ⟨rfl,TU.c (eC (.u rfl rfl) (IA)) (tI (rI (Ez b.Targets r time)) (Ce E 4) W (by rw[←lD];exact Oc oQ) (Ip oQ)) (by rintro _ W1 ⟨rfl,u_⟩;refine⟨u_,?_⟩;have e:=kR (T:=Ez b.Targets r time) (e:=E) (by omega);unfold yL at e;rw[lD]at e;rw[e];rfl)⟩) ?_)))))))
  refine aC (.inr ⟨rfl,TU.p (.mv rfl) rfl⟩) (aC (.inr ⟨rfl,TU.p (.xt rfl rfl) rfl⟩) (aC (.inr ⟨rfl,TU.p (.xt rfl rfl) rfl⟩) (aC (.inl (.inl rfl)) (aC (.inl (.inr rfl)) (aC (.inr ⟨rfl,TU.p (.assign (.t rfl)) rfl⟩) ?_)))))
  exact allL.nil
 intro w19 B26 g hU0 zB26_ hB26 hg
 have hU:=(Up.drew w8).trans hU0
 have zw19:=hU.size
 have zdr:w8.drew.heap.size=w8.heap.size:=rfl
 have g150_:g 150=.agg (Ce (4*Ez b.Targets r time-E) 4).cells:=hg 9 _ 150 cQ rfl rfl
 have g27_:g 27=vi 0:=hg 13 _ 27 cQ rfl rfl
 rw[g150_]at hB26
 replace hB26:Blk w19 B26 ((Ce (4*Ez b.Targets r time-E) 4).cells) 55:=hB26
 change LW _ _ _ _ _ _ _ _ ((26,_)::(27,.eq (g 27))::_) _
 rw[g27_]
 replace hS:=(hS.up (Up.drew _)).add hU0 (A':=Ch B26 ((Ce (4*Ez b.Targets r time-E) 4).cells) 55) hB26 (fun i(e:i=B26)=>by omega)
 refine Ar (Aa (I (.lc rfl (hS.b4.agg)) (A3 (eC (.ct rfl (.cons (.const _) .nil)) (IB)) rfl (gZ (Ce (4*Ez b.Targets r time-E) 4) 1000 _ (Ip oQ) cQ) ?_)))
 rintro _ w20 ⟨rfl,uw20⟩
 replace hS:=hS.up uw20
 rw[kS (by omega)]
 refine Ac rfl (I (.xt rfl rfl) (I (.xt rfl rfl) (Ao (.Bi lm) rfl ?_)))
 rintro _ w21 ⟨B28,rfl,MB28⟩
 refine Bh (.A5 lj rfl (.t rfl) (.t rfl) (Rt.one _) MB28.blk rfl) ?_
 intro w22 LB28
 have NB28:=MB28.set LB28
 replace hS:=hS.Bn NB28
 refine LW.A rfl (Ar (Af (Ac rfl (I (.fa (PEv.neq (.t rfl) (.const _)) (rfl)) (Ac rfl (Cq (Ac rfl (Cq (I (.fa (PEv.neq (.t rfl) (.const _)) (rfl)) (I (.po rfl (fun hp=>(by exact .tmp rfl))) (Ai (CW.f rfl (Ak (Ab (Al ?_)))))))))))))))
 obtain⟨adu,cpu,rfl,_⟩:=(hS.own 3 rfl).sl (fun _=>rfl)
 refine Aa (I (.lc rfl (hS.b5.agg)) (I (.build (cs:=(Ce (-10000) 1).cells) mc lm Ed (.cons (.const _) (.cons (.const _) .nil)) kQ) (I (.build (cs:=(Ce 10000 1).cells) mc lm Ed (.cons (.const _) (.cons (.const _) .nil)) kQ) (A3 (eC (.ct rfl (.ct rfl (.cu rfl))) (IC)) rfl (hG (Ce (4*Ez b.Targets r time-E) 4) _ _ _ (Ip oQ) (Oc cQ) (Oc cQ)) ?_))))
 rintro _ w23 ⟨rfl,uw23⟩
 replace hS:=hS.up uw23
 refine I (.fB 1 rfl) (Bh (.Ig lj rfl (.t rfl) (.t rfl) (Rt.one _) hS.b2 bQ) ?_)
 intro w24 Nw24
 replace hS:=hS.Co 2 rfl (show Set_ _ w24 _ (DecV.cells ⟨0,gM (Ez b.Targets r time) E,Ce E 4,.slice adu U.length cpu⟩) _ from Nw24)
 refine Ar (Aa (I (.lc rfl (hS.b2.agg)) (Bh (.A5 lr rfl (.t rfl) (.t rfl) (Q1 _ rfl) hS.b1 rfl) ?_)))
 intro w25 Nw25
 replace hS:=hS.Co 1 rfl (show Set_ _ w25 _ (DecV.cells ⟨0,gM (Ez b.Targets r time) E,Ce E 4,.slice adu U.length cpu⟩) _ from Nw25)
 refine J (Ai (Aj (Dx rfl rfl rfl m_ lr rfl hS.b1.agg ⟨_,rfl,?_⟩)))
 have e1:Fa b t c r time ahead=⟨0,gM (Ez b.Targets r time) E,Ce E 4,U⟩:=by unfold Fa;rw[←hEU]
 rw[e1]
 exact⟨adu,cpu,rfl,(hS.own 3 rfl).I1 (fun i h=>(hS.foot 3 rfl i h).resolve_left (fun h=>h)),hS.Cj⟩
theorem Nd(bc:Array Go.Value)(b:Base)(t c r:Int)(w:World)(hC:BaseC w bc b)(hlP:b.Processes.length≤400)(hlR:b.Resets.length≤100000)(hlM:b.Measures.length≤100000)(hlT:b.Targets.length≤100000):Ret prog 45 #[.agg bc,vi t,vi c,vi r] w fun r0 w'=>∃v L,r0=v∧L.map DP.dec=Gt b t c r∧Wx.Sep no w w' [A8 57 6 DP.cells v L,E8 (Fb 3 L)]:=by
 obtain⟨w0,rfl,hS⟩:=W0 w
 refine cT 54 func45 rfl (Af (Ao (.bA rfl) rfl ?_))
 rintro _ w1 ⟨B4,rfl,NB4⟩
 replace hS:=hS.Bn NB4
 refine J (Ar (Aa (I (.Ef l7 lw (hC.size) (.t rfl) (hS.b0.agg)) (Ac rfl (Ac rfl (Ac rfl (A3 (eC (.ct rfl (.ct rfl (.ct rfl (.cu rfl)))) (NJ)) rfl (nY bc b t c r _ (hC.up hS.Cj) oQ) ?_)))))))
 rintro v_ w2 ⟨hO_,uw2⟩
 replace hS:=hS.add uw2 (A':=A8 51 19 Fact.cells v_ (Md b t c r)) (hO_.mono (ao _)) (fun i h=>(hO_.base i h))
 have hrr:∀y∈Md b t c r,y.Recipe=r:=fun y hy=>(Zn.1 hy).2.2.2
 obtain⟨rs,ers⟩:∃R,R=Md b t c r:=⟨_,rfl⟩
 have hrl:=Iv b t c r
 rw[←ers]at hS hrl hrr
 obtain⟨ad10,cp10,rfl,_⟩:=(hS.own 1 rfl).sl (fun _=>rfl)
 refine LW.A rfl (Ar (Aa (J (Ar (Al ?_)))))
 replace hS:=hS.add (Up.refl _) (A':=A8 57 6 DP.cells (.slice none 0 0) ([]:List DP)) (OwnS.nil _ _ _ _ _) (by intro i h;cases h)
 replace hS:=hS.add (Up.refl _) (A':=E8 (Fb 3 [])) ⟨by simp[Fb],by simp[Fb]⟩ (by rintro i ⟨A,hA,_⟩;simp[Fb]at hA)
 refine Aa (J (Ai (Ap (A9 (σ:=Nat×Go.Value×List DP) (fun s w=>(s.1≤rs.length)∧(s.2.2.map DP.dec=(List.range s.1).map (cG b t c r rs))∧(Wx.Sep no w0 w [Ch B4 bc 39,A8 51 19 Fact.cells (.slice ad10 rs.length cp10) rs,A8 57 6 DP.cells s.2.1 s.2.2,E8 (Fb 3 s.2.2)])) (fun s=>[(11,.eq (vi (s.1:Int))),(10,.eq (s.2.1))]) ([(1,.eq _),(2,.eq _),(3,.eq _),(4,.eq _),(9,.eq _)]) (fun s=>rs.length-s.1) (0,.slice none 0 0,[]) ?_ tQ ?_))))
 ·exact⟨ao _,rfl,hS⟩
 rintro⟨k,v,L⟩ w3 ⟨hk,hL,hS⟩
 have hLl:L.length=k:=by have h:=a_ List.length hL;simpa using h
 change CW _ _ _ _ _ _ _ ([(11,.eq (vi (k:Int))),(10,.eq (v))]++_) _
 refine Al (Af (Ac rfl (Ac rfl (I (.Df k6 (.t rfl)) (I (.l2 rfl rfl) (Ai (CW.b rfl (fun h22=>?_) (fun h22=>?_))))))))
 ·replace h22:=dQ h22
  refine Ak (Ab (Al (Ap (Al ?_))))
  obtain⟨x,hx⟩:=Av (xs:=rs) (i:=k) oQ
  obtain⟨Bx,ox,ax,hcx⟩:=(show Els w3 ad10 19 Fact.cells rs from(hS.own 1 rfl).els (fun _=>rfl)) k x hx
  refine Nv 19 16 17 14 12 39 (DP.cells ⟨Ik,none,0⟩) [.eq (.agg bc),.eq (vi t),.eq (vi c),.eq (vi r),.eq (.slice ad10 rs.length cp10),.eq (vi (k:Int)),.eq (.pointer (some ⟨Bx,ox+k*19,none⟩)),.eq (.pointer (some ⟨Bx,ox+k*19+5,none⟩)),.eq (vi x.Time),.eq (.slice ad10 rs.length cp10),.eq (vi (k:Int)),.eq (.slice ad10 (rs.take k).length cp10),.pred fun v W=>∃ad cp,v=.tuple #[.agg (DP.cells ⟨Fa b t c r x.Time (rs.take k),ad,cp⟩),.bool true]∧OwnS W w3.drew.heap.size 3 1 Cm (.slice ad (Fa b t c r x.Time (rs.take k)).uses.length cp) (Fa b t c r x.Time (rs.take k)).uses,.pred fun v W=>∃ad cp,v=.tuple #[.agg (DP.cells ⟨Fa b t c r x.Time (rs.take k),ad,cp⟩),.bool true]∧OwnS W w3.drew.heap.size 3 1 Cm (.slice ad (Fa b t c r x.Time (rs.take k)).uses.length cp) (Fa b t c r x.Time (rs.take k)).uses,.pred fun v W=>∃ad cp,v=.agg (DP.cells ⟨Fa b t c r x.Time (rs.take k),ad,cp⟩)∧OwnS W w3.drew.heap.size 3 1 Cm (.slice ad (Fa b t c r x.Time (rs.take k)).uses.length cp) (Fa b t c r x.Time (rs.take k)).uses,.eq (.bool true),.pred fun v _=>∃B,v=.pointer (some ⟨B,0,none⟩),.eq undef,.eq (.bool true)] [13] l5 lr kQ rfl kQ kQ kQ kQ kQ kQ kQ rfl rfl ⟨_,_,_,rfl⟩ _ rfl ⟨_,_,_,rfl⟩ ⟨nn,nn,nn,nn,nn,nn,nn,nn,nn,nn,nn,nn,PhT.pred fun _ _ _ h u=>let⟨ad,cp,e,hb⟩:=h;⟨ad,cp,e,hb.Da cQ u⟩,PhT.pred fun _ _ _ h u=>let⟨ad,cp,e,hb⟩:=h;⟨ad,cp,e,hb.Da cQ u⟩,PhT.pred fun _ _ _ h u=>let⟨ad,cp,e,hb⟩:=h;⟨ad,cp,e,hb.Da cQ u⟩,nn,PhT.pred fun _ _ _ h _=>h,nn,nn,trivial⟩ rfl (fun v W h=>let⟨ad,cp,e,_⟩:=h;⟨_,e,rfl,DP.one _⟩) (fun B W=>⟨B,rfl⟩) ?_ ?_
  ·intro W hU0
   have hU:=(Up.drew w3).trans hU0
   have hSW:=hS.up hU
   have zU0:=hU0.size
   have hcp:=(hSW.own 1 rfl).NT
   have hEW:Els W ad10 19 Fact.cells rs:=(hSW.own 1 rfl).els (fun _=>rfl)
   refine aC (.inr ⟨rfl,TU.p (.Ef l7 lw hC.size (.t rfl) (hSW.b0.agg)) rfl⟩) (aC (.inr ⟨rfl,TU.p (.mv rfl) rfl⟩) (aC (.inr ⟨rfl,TU.p (.mv rfl) rfl⟩) (aC (.inr ⟨rfl,TU.p (.mv rfl) rfl⟩) (aC (.inr ⟨rfl,TU.p (.mv rfl) rfl⟩) (aC (.inr ⟨rfl,TU.p (.mv rfl) rfl⟩) (aC (.inr ⟨rfl,TU.p (.Ay k6 k7 (.t rfl) (.t rfl) oQ ax) rfl⟩) (aC (.inr ⟨rfl,TU.p (.fB 5 rfl) rfl⟩) (aC (.inr ⟨rfl,TU.p (.lb rfl ((Og hEW hx ax).nth (j:=5) rfl)) rfl⟩) (aC (.inr ⟨rfl,TU.p (.mv rfl) rfl⟩) (aC (.inr ⟨rfl,TU.p (.mv rfl) rfl⟩) (aC (.inr ⟨rfl,TU.p (.vl (PEv.Yr k6 k7 (.t rfl) (.t rfl) oQ) (by rw[bu,cv (by omega)])) rfl⟩) (aC (.inr ⟨rfl,TU.c (eC (.ct rfl (.ct rfl (.ct rfl (.ct rfl (.ct rfl (.cu rfl)))))) (NK)) (cW bc b t c r x.Time ad10 cp10 (rs.take k) W (hC.up (hS.Cj.trans hU)) (Els.take hEW) (fun y hy=>hrr y (List.mem_of_mem_take hy)) (by rw[bu];omega) hlR hlM hlT) (by rintro v W1 ⟨adu,cpu,rfl,ho,hu⟩;exact⟨hu,adu,cpu,rfl,ho.mono zU0⟩)⟩) (aC (.inr ⟨rfl,TU.open (d:=38) rfl (by rintro _ ⟨adu,cpu,rfl,ho⟩;exact TU.p (.mv rfl) ⟨adu,cpu,rfl,ho⟩)⟩) (aC (.inr ⟨rfl,TU.open (d:=25) rfl (by rintro _ ⟨adu,cpu,rfl,ho⟩;exact TU.p (.xt rfl rfl) ⟨adu,cpu,rfl,ho⟩)⟩) (aC (.inr ⟨rfl,TU.open (d:=25) rfl (by rintro _ ⟨adu,cpu,rfl,ho⟩;exact TU.p (.xt rfl rfl) rfl)⟩) (aC (.inl (.inl rfl)) (aC (.inl (.inr rfl)) (aC (.inr ⟨rfl,TU.p (.assign (.t rfl)) rfl⟩) ?_))))))))))))))))))
   exact allL.nil
  intro w4 B12 g hU0 zB12_ hB12 hg
  have hU:=(Up.drew w3).trans hU0
  have zdr:w3.drew.heap.size=w3.heap.size:=rfl
  obtain⟨ad7,cp7,e39,ho7⟩:∃ad cp,g 39=.agg (DP.cells ⟨Fa b t c r x.Time (rs.take k),ad,cp⟩)∧OwnS w4 w3.drew.heap.size 3 1 Cm (.slice ad (Fa b t c r x.Time (rs.take k)).uses.length cp) (Fa b t c r x.Time (rs.take k)).uses:=hg 14 _ 39 cQ rfl rfl
  have e13:g 13=.bool true:=hg 18 _ 13 cQ rfl rfl
  rw[e39]at hB12
  replace hB12:Blk w4 B12 (DP.cells ⟨Fa b t c r x.Time (rs.take k),ad7,cp7⟩) 57:=hB12
  change LW _ _ _ _ _ _ _ _ ((12,_)::(13,.eq (g 13))::_) _
  rw[e13]
  replace hS:=(hS.up (Up.drew _)).KP hU0 (A:=Ch B12 (DP.cells ⟨Fa b t c r x.Time (rs.take k),ad7,cp7⟩) 57) (B:=A8 3 1 Cm (.slice ad7 (Fa b t c r x.Time (rs.take k)).uses.length cp7) (Fa b t c r x.Time (rs.take k)).uses) hB12 (ho7.mono (ao _)) (fun i(e:i=B12)=>by omega) (fun i h=>ho7.base i h) (fun i(e:i=B12)h2=>kV ho7 hB12 cQ (e▸h2))
  refine Ar (Af (Ac rfl (I (.fa (PEv.n1 rfl) (rfl)) (Ai (CW.f rfl (Ak (Ab (Al ?_))))))))
  replace hcx:=Og (show Els w4 ad10 19 Fact.cells rs from(hS.own 1 rfl).els (fun _=>rfl)) hx ax
  refine Aa (Ac rfl (Ac rfl (I (.Ay k6 k7 (.t rfl) (.t rfl) oQ ax) (I (.fB 1 rfl) (I (.lb rfl (hcx.nth (j:=1) rfl)) (I (.fB 0 rfl) (Bh (.store lf (.t rfl) (.t rfl) rfl hS.b4 bQ) ?_)))))))
  intro w5 Nw5
  replace hS:=hS.Co 4 rfl (show Set_ _ w5 _ (DP.cells ⟨{ Fa b t c r x.Time (rs.take k)with run:=x.ID },ad7,cp7⟩) _ from Nw5)
  refine Ai (Aa (Ac rfl (I (.lc rfl (hS.b4.agg)) (Ao (.buildSlice (xs:=[(⟨{ Fa b t c r x.Time (rs.take k)with run:=x.ID },ad7,cp7⟩:DP)]) (enc:=DP.cells) (mk:=fun p=>.agg p.cells) lq lr l5 rfl cQ (fun _=>rfl) (fun _=>rfl) (.cu rfl) rfl) rfl ?_))))
  rintro _ w6 ⟨B51,cB51,rfl,NB51,yB51,xB51⟩
  replace hS:=hS.up NB51.up
  have hE51:=xB51
  refine Ao (.Cu (enc:=DP.cells) (bytes:=64) (i:=Tryz.t57) lq kQ rfl rfl rfl rfl cQ (fun _=>rfl) DP.one (.t rfl) (.t rfl) (hS.own 2 rfl) (Az hE51) (by simp[maxLen];omega) (by simp;omega)) rfl ?_
  intro v52 w7 Gw7
  replace hS:=hS.E5 2 rfl Gw7
  refine LW.A rfl (LW.nil (Ae (Ab ?_)))
  have h9:=R5 (Bs:=[_,_,_]) (hS.sub (.cons_cons _ (.cons_cons _ (.cons_cons _ (.cons_cons _ (.cons _ (.cons_cons _ .slnil)))))))
  replace h9:Wx.Sep no w0 w7 ([_,_,_]++[E8 (Fb 3 L++[A8 3 1 Cm (DP.uv ⟨{ Fa b t c r x.Time (rs.take k)with run:=x.ID },ad7,cp7⟩) (DP.dec ⟨{ Fa b t c r x.Time (rs.take k)with run:=x.ID },ad7,cp7⟩).uses])]):=h9
  rw[Pq]at h9
  refine Aa (Ac rfl (I (.add (.t rfl) (.const _) oQ oQ) (LW.A rfl (LW.nil (Aq ?_)))))
  exact⟨(k+1,v52,L++[(⟨{ Fa b t c r x.Time (rs.take k)with run:=x.ID },ad7,cp7⟩:DP)]),⟨by show k+1≤_;omega,by rw[cq,Nc,hL,J8 hx];rfl,h9⟩,tQ,by show rs.length-(k+1)<rs.length-k;omega⟩
 replace h22:=dQ h22
 refine A7 (Ad (Ad (Au (Ab (Af (Ac rfl (LW.A rfl (Ai (Aj (KW.q ?_))))))))))
 have hkl:k=rs.length:=by omega
 exact⟨v,L,rfl,by rw[hL,hkl,ers];rfl,hS.sub (.cons _ (.cons _ (.cons_cons _ (.cons_cons _ .slnil))))⟩
theorem Zo(bc:Array Go.Value)(b:Base)(id:Int)(w:World)(hC:BaseC w bc b)(hlP:b.Processes.length≤400)(hlR:b.Resets.length≤100000)(hlM:b.Measures.length≤100000)(hlT:b.Targets.length≤100000)(hV:∀f∈b.Processes,F8 f.Value):Ret prog 42 #[.agg bc,vi id] w fun r0 w'=>∃v,r0=.tuple #[v,.bool (F9 b id).2.1,vi (F9 b id).2.2]∧KQ w' v (F9 b id).1∧Up w w':=by
 obtain⟨w0,rfl,hS⟩:=W0 w
 refine cT 65 func42 rfl (Af (Ao (.bA rfl) rfl ?_))
 rintro _ w1 ⟨B2,rfl,NB2⟩
 replace hS:=hS.Bn NB2
 refine Ao (.Bi l5) rfl ?_
 rintro _ w2 ⟨B4,rfl,NB4⟩
 replace hS:=hS.Bn NB4
 refine J (J (Ar ?_))
 cases hq1:Ec b id with
 |none=>
  refine Aa (I (.Ef l7 lw (hC.size) (.t rfl) (hS.b0.agg)) (Ac rfl (A3 (eC (.u rfl rfl) (CV)) rfl (Me bc b id _ (hC.up hS.Cj) oQ) ?_)))
  rintro _ w3 ⟨rfl,uw3⟩
  replace hS:=hS.up uw3
  rw[hq1]
  refine Ac rfl (I (.xt rfl rfl) (I (.xt rfl rfl) (Ao (.Bi k_) rfl ?_)))
  rintro _ w4 ⟨B7,rfl,MB7⟩
  refine Bh (.A5 k7 rfl (.t rfl) (.t rfl) (Fact.one _) MB7.blk rfl) ?_
  intro w5 LB7
  have NB7:=MB7.set LB7
  replace hS:=hS.Bn NB7
  refine LW.A rfl (Ar (Af (Ac rfl (I (.tr (PEv.n1 rfl) (rfl)) (Ai (CW.v rfl (Af (I (.build (cs:=DP.cells ⟨Ik,none,0⟩) m8 l5 G8 .nil kQ) (Bh (.A5 lr rfl (.t rfl) (.t rfl) (DP.one _) hS.b1 rfl) ?_)))))))))
  intro w6 Nw6
  replace hS:=hS.Co 1 rfl (show Set_ _ w6 _ (DP.cells ⟨Ik,none,0⟩) _ from Nw6)
  refine J (J (Ai (Aj (Ah (Hm rfl rfl rfl rfl m_ lr rfl hS.b1.agg ⟨_,rfl,?_⟩)))))
  rw[Xv hq1]
  exact⟨_,rfl,⟨none,0,rfl,Sl.nil _ _ _⟩,hS.Cj⟩
 |some f=>
  refine Aa (I (.Ef l7 lw (hC.size) (.t rfl) (hS.b0.agg)) (Ac rfl (A3 (eC (.u rfl rfl) (CV)) rfl (Me bc b id _ (hC.up hS.Cj) oQ) ?_)))
  rintro _ w7 ⟨rfl,uw7⟩
  replace hS:=hS.up uw7
  rw[hq1]
  refine Ac rfl (I (.xt rfl rfl) (I (.xt rfl rfl) (Ao (.Bi k_) rfl ?_)))
  rintro _ w8 ⟨B7,rfl,MB7⟩
  refine Bh (.A5 k7 rfl (.t rfl) (.t rfl) (Fact.one _) MB7.blk rfl) ?_
  intro w9 LB7
  have NB7:=MB7.set LB7
  replace hS:=hS.Bn NB7
  refine LW.A rfl (Ar (Af (Ac rfl (I (.fa (PEv.n1 rfl) (rfl)) (Ai (CW.f rfl (Ak (Ab (Af (I (.Ef l7 lw (hC.size) (.t rfl) (hS.b0.agg)) (I (.fB 11 rfl) (I (.lb rfl (hS.b2.An rfl)) (I (.fB 12 rfl) (I (.lb rfl (hS.b2.An rfl)) (I (.fB 14 rfl) (I (.lb rfl (hS.b2.An rfl)) (A3 (eC (.ct rfl (.ct rfl (.ct rfl (.cu rfl)))) (GJ)) rfl (Nd bc b f.Tool f.Chamber f.Recipe _ (hC.up hS.Cj) hlP hlR hlM hlT) ?_)))))))))))))))))
  rintro _ w10 ⟨v29,L,rfl,hm,hT⟩
  replace hS:=hS.join hT
  have hLl:L.length≤400:=by have h1:=a_ List.length hm;rw[cd,Q4]at h1;have h2:=Iv b f.Tool f.Chamber f.Recipe;omega
  obtain⟨ad29,cp29,rfl,_⟩:=(hS.own 3 rfl).sl (fun _=>rfl)
  refine LW.A rfl (Ar (Af (J (Ai (Ap (A9 (σ:=Nat) (fun s w=>(s≤L.length)∧(∀y∈L.take s,decide (y.dec.run=id)=false)∧(Wx.Sep no w0 w [Ch B2 bc 39,Ch B4 (DP.cells ⟨Ik,none,0⟩) 57,Ch B7 f.cells 51,A8 57 6 DP.cells (.slice ad29 L.length cp29) L,E8 (Fb 3 L)])) (fun s=>[(10,.eq (vi (s:Int)))]) ([(1,.eq _),(4,.eq _),(7,.eq _),(9,.eq _)]) (fun s=>L.length-s) 0 ?_ tQ ?_))))))
  ·exact⟨ao _,(by simp),hS⟩
  rintro k w11 ⟨hk,hn,hS⟩
  refine Al (Af (Ac rfl (Ac rfl (I (.Df lq (.t rfl)) (I (.l2 rfl rfl) (Ai (CW.b rfl (fun h33=>?_) (fun h33=>?_))))))))
  ·replace h33:=dQ h33
   refine Ak (Ab (Al (Ap (Al ?_))))
   obtain⟨x,hx⟩:=Av (xs:=L) (i:=k) oQ
   obtain⟨Bx,ox,ax,hcx⟩:=(show Els w11 ad29 6 DP.cells L from(hS.own 3 rfl).els (fun _=>rfl)) k x hx
   have hnB:Bx≠B4:=fun e=>hS.ne (i:=1) (j:=3) cQ rfl rfl B4 rfl (by show(Go.Value.slice ad29 L.length cp29).ownBlock=some B4;rw[ax,e];rfl)
   refine Aa (Ac rfl (Ac rfl (I (.Ay lq lr (.t rfl) (.t rfl) oQ ax) (I (.fB 0 rfl) (I (.lb rfl (EK hcx)) (Ac rfl (I (.eql (.t rfl) (.t rfl)) (Ai (CW.b rfl (fun h42=>?_) (fun h42=>?_))))))))))
   ·replace h42:=dQ h42
    refine Af (I (.fB 16 rfl) (I (.lb rfl (hS.b2.An rfl)) (A3 (eC (.ct rfl (.cons (.const _) .nil)) (pN)) rfl (Lo f.Value 1000 _ (hV f (Xw hq1)) cQ ⟨by decide,by decide⟩) ?_)))
    rintro _ w12 ⟨rfl,uw12⟩
    replace hS:=hS.up uw12
    replace hcx:=hcx.up uw12
    refine Ac rfl (I (.xt rfl rfl) (I (.xt rfl rfl) (Ao (.Bi lm) rfl ?_)))
    rintro _ w13 ⟨B11,rfl,MB11⟩
    refine Bh (.A5 lj rfl (.t rfl) (.t rfl) (Rt.one _) MB11.blk rfl) ?_
    intro w14 LB11
    have NB11:=MB11.set LB11
    replace hcx:=hcx.up NB11.up
    replace hS:=hS.Bn NB11
    refine LW.A rfl (Ar ?_)
    cases hq10:Ow f.Value 1000 with
    |true=>
     have h47:decide ((Ia f.Value 1000).2=0)=true:=by rw[Gq hq10];rfl
     refine Q5 16 15 [.slice ad29 L.length cp29,vi (k:Int),.pointer (some ⟨Bx,ox+k*6,none⟩),.agg x.cells,vi (Ia f.Value 1000).2,.bool true,.bool true,.agg (Ia f.Value 1000).1.cells,.slice ad29 L.length cp29,vi (k:Int),.pointer (some ⟨Bx,ox+k*6,none⟩),.pointer (some ⟨Bx,ox+k*6+1,none⟩),.agg x.dec.par.cells,.bool (Wk (Ia f.Value 1000).1 x.dec.par),.bool (true&&Wk (Ia f.Value 1000).1 x.dec.par),undef] [14] ((· =B4)) (fun W=>Blk W B4 (DP.cells ⟨Ik,none,0⟩) 57) (fun W=>Blk W B4 x.cells 57) kQ rfl kQ kQ kQ kQ kQ kQ kQ cQ ((hS.up (Up.drew _)).blk 1 rfl) (fun _ _ h u=>h.up u) (fun _ _ h u=>h.up u) ?_ ?_ kQ
     ·intro W hU0
      have hU:=((Up.drew w14).fr ((· =B4))).trans hU0
      have hcW:AggAt W Bx (ox+k*6) x.cells:=fun j v hv=>Qb (hcx j v hv) hU hnB
      have hB11:Blk W B11 (Ia f.Value 1000).1.cells 55:=hS.b5.fr hU (fun e=>hS.pY 1 5 cQ rfl rfl e.symm)
      refine aC ⟨fun _=>TW.p (PEv.mv rfl) rfl,fun e=>absurd e cQ⟩ (aC ⟨fun _=>TW.p (PEv.mv rfl) rfl,fun e=>absurd e cQ⟩ (aC ⟨fun _=>TW.p (PEv.Ay lq lr (.t rfl) (.t rfl) oQ ax) rfl,fun e=>absurd e cQ⟩ (aC ⟨fun _=>TW.p (PEv.lc rfl (hcW)) rfl,fun e=>absurd e cQ⟩ (aC ⟨fun _=>TW.p (PEv.mv rfl) rfl,fun e=>absurd e cQ⟩ (aC ⟨fun _=>TW.p (PEv.tr (PEv.eql (.t rfl) (.const _)) h47) rfl,fun e=>absurd e cQ⟩ (aC ⟨fun _=>TW.p (PEv.mv rfl) rfl,fun e=>absurd e cQ⟩ (aC ⟨fun _=>TW.yp (PEv.lc rfl (hB11.agg)) rfl rfl rfl rfl rfl,fun e=>absurd e cQ⟩ (aC ⟨fun _=>TW.yp (PEv.mv rfl) rfl rfl rfl rfl rfl,fun e=>absurd e cQ⟩ (aC ⟨fun _=>TW.yp (PEv.mv rfl) rfl rfl rfl rfl rfl,fun e=>absurd e cQ⟩ (aC ⟨fun _=>TW.yp (PEv.Ay lq lr (.t rfl) (.t rfl) oQ ax) rfl rfl rfl rfl rfl,fun e=>absurd e cQ⟩ (aC ⟨fun _=>TW.yp (PEv.fB 1 rfl) rfl rfl rfl rfl rfl,fun e=>absurd e cQ⟩ (aC ⟨fun _=>TW.yp (PEv.lc rfl (Zh hcW)) rfl rfl rfl rfl rfl,fun e=>absurd e cQ⟩ (aC ⟨fun _=>TW.yp (PEv.Yl ni (Ln _ _) (.t rfl) (.t rfl)) rfl rfl rfl rfl rfl,fun e=>absurd e cQ⟩ (aC ⟨fun _=>TW.p (PEv.pa rfl (fun _=>.tmp rfl)) rfl,fun e=>absurd e cQ⟩ (aC ⟨fun e=>absurd rfl e,fun _=>⟨fun hpre=>SEv.mono (SEv.A5 lr rfl (.t rfl) (.t rfl) (DP.one x) hpre rfl) (fun W2 N=>⟨N.sto.fr,N.blk⟩),rfl,rfl⟩⟩ ?_)))))))))))))))
      exact allL.nil
     intro w15 hU0 hP
     have hU:=((Up.drew w14).fr ((· =B4))).trans hU0
     replace hS:=hS.step 1 rfl (A':=Ch B4 x.cells 57) hU hP (fun _ hi=>.inl hi)
     change LW _ _ _ _ _ _ _ _ ((63,.eq (.bool (true&&Wk (Ia f.Value 1000).1 x.dec.par)))::_) _
     refine LW.A rfl (J (Ai (Aj (Aw (Ah (Ah (Aw (Ah (Hm rfl rfl rfl rfl m_ lr rfl hS.b1.agg ⟨_,rfl,?_⟩)))))))))
     rw[Oe hq1 hm hx (a8 h42) hn,Gq hq10]
     exact⟨_,rfl,⟨x.ad,x.cp,rfl,Js (hS.get 4 rfl) x (am hx)⟩,hS.Cj⟩
    |false=>
     have h47:decide ((Ia f.Value 1000).2=0)=false:=by rw[kY hq10];rfl
     refine Q5 16 15 [.slice ad29 L.length cp29,vi (k:Int),.pointer (some ⟨Bx,ox+k*6,none⟩),.agg x.cells,vi (Ia f.Value 1000).2,.bool false,.bool false,undef,undef,undef,undef,undef,undef,undef,.bool (false&&false),undef] [14] ((· =B4)) (fun W=>Blk W B4 (DP.cells ⟨Ik,none,0⟩) 57) (fun W=>Blk W B4 x.cells 57) kQ rfl kQ kQ kQ kQ kQ kQ kQ cQ ((hS.up (Up.drew _)).blk 1 rfl) (fun _ _ h u=>h.up u) (fun _ _ h u=>h.up u) ?_ ?_ kQ
     ·intro W hU0
      have hU:=((Up.drew w14).fr ((· =B4))).trans hU0
      have hcW:AggAt W Bx (ox+k*6) x.cells:=fun j v hv=>Qb (hcx j v hv) hU hnB
      refine aC ⟨fun _=>TW.p (PEv.mv rfl) rfl,fun e=>absurd e cQ⟩ (aC ⟨fun _=>TW.p (PEv.mv rfl) rfl,fun e=>absurd e cQ⟩ (aC ⟨fun _=>TW.p (PEv.Ay lq lr (.t rfl) (.t rfl) oQ ax) rfl,fun e=>absurd e cQ⟩ (aC ⟨fun _=>TW.p (PEv.lc rfl (hcW)) rfl,fun e=>absurd e cQ⟩ (aC ⟨fun _=>TW.p (PEv.mv rfl) rfl,fun e=>absurd e cQ⟩ (aC ⟨fun _=>TW.p (PEv.fa (PEv.eql (.t rfl) (.const _)) h47) rfl,fun e=>absurd e cQ⟩ (aC ⟨fun _=>TW.p (PEv.mv rfl) rfl,fun e=>absurd e cQ⟩ (aC ⟨fun _=>TW.no rfl rfl rfl rfl rfl rfl,fun e=>absurd e cQ⟩ (aC ⟨fun _=>TW.no rfl rfl rfl rfl rfl rfl,fun e=>absurd e cQ⟩ (aC ⟨fun _=>TW.no rfl rfl rfl rfl rfl rfl,fun e=>absurd e cQ⟩ (aC ⟨fun _=>TW.no rfl rfl rfl rfl rfl rfl,fun e=>absurd e cQ⟩ (aC ⟨fun _=>TW.no rfl rfl rfl rfl rfl rfl,fun e=>absurd e cQ⟩ (aC ⟨fun _=>TW.no rfl rfl rfl rfl rfl rfl,fun e=>absurd e cQ⟩ (aC ⟨fun _=>TW.no rfl rfl rfl rfl rfl rfl,fun e=>absurd e cQ⟩ (aC ⟨fun _=>TW.p (PEv.De (b:=false) (.t rfl) (fun hp=>absurd (show false=true from hp) cQ)) rfl,fun e=>absurd e cQ⟩ (aC ⟨fun e=>absurd rfl e,fun _=>⟨fun hpre=>SEv.mono (SEv.A5 lr rfl (.t rfl) (.t rfl) (DP.one x) hpre rfl) (fun W2 N=>⟨N.sto.fr,N.blk⟩),rfl,rfl⟩⟩ ?_)))))))))))))))
      exact allL.nil
     intro w16 hU0 hP
     have hU:=((Up.drew w14).fr ((· =B4))).trans hU0
     replace hS:=hS.step 1 rfl (A':=Ch B4 x.cells 57) hU hP (fun _ hi=>.inl hi)
     change LW _ _ _ _ _ _ _ _ ((63,.eq (.bool (false&&false)))::_) _
     refine LW.A rfl (J (Ai (Aj (Aw (Ah (Ah (Aw (Ah (Hm rfl rfl rfl rfl m_ lr rfl hS.b1.agg ⟨_,rfl,?_⟩)))))))))
     rw[Oe hq1 hm hx (a8 h42) hn,kY hq10]
     exact⟨_,rfl,⟨x.ad,x.cp,rfl,Js (hS.get 4 rfl) x (am hx)⟩,hS.Cj⟩
   replace h42:=dQ h42
   refine Ak (Ae (Ab (Aa (Ac rfl (I (.ic rfl oQ) (LW.A rfl (LW.nil (Aq ?_))))))))
   exact⟨k+1,⟨by omega,Vb (p:=fun y:DP=>decide (y.dec.run=id)) hx hn (bg h42),hS.take 5⟩,tQ,by omega⟩
  replace h33:=dQ h33
  refine A7 (Ad (Ad (Au (Ab (Al ?_)))))
  have hnn:∀y∈L,decide (y.dec.run=id)=false:=by rw[show k=L.length by omega,br]at hn;exact hn
  refine Aa (I (.build (cs:=DP.cells ⟨Ik,none,0⟩) m8 l5 G8 .nil kQ) (Bh (.A5 lr rfl (.t rfl) (.t rfl) (DP.one _) hS.b1 rfl) ?_))
  intro w17 Nw17
  replace hS:=hS.Co 1 rfl (show Set_ _ w17 _ (DP.cells ⟨Ik,none,0⟩) _ from Nw17)
  refine J (J (Ai (Aj (Hm rfl rfl rfl rfl m_ lr rfl hS.b1.agg ⟨_,rfl,?_⟩))))
  rw[kX hq1 hm hnn]
  exact⟨_,rfl,⟨none,0,rfl,Sl.nil _ _ _⟩,hS.Cj⟩
end Go.Proofs.YtbcnnkfopoiifaaGreatDoor
