import Derived.Test.YtnocngnlpgikaaaGreatDoorKR118
namespace Go.Wx
structure WhyG(w0:World)(bc:Array Value)(a:GAct)(kn:Array Value)(s:Sk)(Bb Ba Bk Bs Bo:Nat)(W:World):Prop where
 u:Up w0 W
 bb:Blk W Bb bc 35
 ba:Blk W Ba (GAct.cells a) 38
 bk:Blk W Bk kn 142
 bs_:Blk W Bs s.cells 49
 bo:Blk W Bo #[.bool true] 4
 e:Els W s.ta 1 A6 s.tl
section
variable {w0 W W':World}{bc kn:Array Value}{b:Base}{a:GAct}{s:Sk}{Bb Ba Bk Bs Bo bq:Nat}{X Y:Nat→Prop}
theorem WhyG.up(h:WhyG w0 bc a kn s Bb Ba Bk Bs Bo W)(u:Up W W'):WhyG w0 bc a kn s Bb Ba Bk Bs Bo W':=⟨h.u.trans u,h.bb.up u,h.ba.up u,h.bk.up u,h.bs_.up u,h.bo.up u,Els.up h.e u⟩
theorem WhyG.kx(h:WhyG w0 bc a kn s Bb Ba Bk Bs Bo W)(k:Kx bq X Y W W')(hX:∀i,X i→w0.heap.size≤i)(hY:∀i,Y i→w0.heap.size≤i)(hb:w0.heap.size≤bq)(h1:¬X Bb)(h2:¬X Ba)(h3:¬X Bk)(h4:¬X Bs)(h5:¬X Bo)(h6:∀i,(rJ s.ta s.tl).foot i→¬X i):WhyG w0 bc a kn s Bb Ba Bk Bs Bo W':=
 ⟨h.u.kx k hX hY hb,h.bb.kx k h1,h.ba.kx k h2,h.bk.kx k h3,h.bs_.kx k h4,h.bo.kx k h5,by
   by_cases hn:s.tl=[]
   · rw[hn];exact fun i x hx=>by cases hx
   exact h.e.kx k (fun B o e=>h6 B ⟨hn,o,e⟩)⟩
theorem pT{p:Bool}(x:tP (Vn Bk Ba Bo Bs Bb p)):x.1.num=32:=by
 obtain⟨r,hr,hy⟩:=x
 simp only[Vn,bg,c9,db]at hr
 rcases hr with rfl|rfl|rfl|rfl|rfl|rfl
 all_goals first|exact absurd (show false=true from hy) b7|rfl
theorem dK(p:Bool):((Vn Bk Ba Bo Bs Bb p).filter (·.yes)).length=if p=true then 1 else 0:=by
 cases p<;>rfl
end
structure MayH(b:Base)(a:GAct)(L:List Sk):Prop where
 proc:b.Processes=[]
 lot:(Gb b.Lots a.Wafer a.Time).2≠0
 flow:∃f,Yd b (Gb b.Lots a.Wafer a.Time).2=some f∧f.Text=bs (Dr L)
 hLo:b.Lots.length≤100000
 hFl:b.Flows.length≤100000
 hQu:b.Qualified.length≤100000
 hHo:b.Holds.length≤100000
 hRe:b.Releases.length≤100000
 fl:FlS L
 fw:Fwd L
 st:a.Step=0
 s0:∃s,L[0]?=some s∧a.Tool∈s.tl∧s.rc=a.Recipe
 qu:Ha b a.Tool a.Chamber a.Recipe a.Revision a.Time=true
def Ol(b:Base)(a:GAct):Int:=if 0<(Fo b a).length then 32 else 0
theorem Sl.kept{α:Type}{w w':World}{v:Go.Value}{k:Nat}{enc:α→Array Go.Value}{xs:List α}(h:Sl w v k enc xs)(hk:∀i,v.ownBlock=some i→xs≠[]→i<w.heap.size→w'.heap[i]?=w.heap[i]?):Sl w' v k enc xs:=by
 obtain⟨ad,c,rfl,he⟩:=h
 refine⟨ad,c,rfl,fun i x hx=>?_⟩
 obtain⟨B,o,e,ha⟩:=he i x hx
 refine⟨B,o,e,fun j v hv=>?_⟩
 have hc:=ha j v hv
 have hl:B<w.heap.size:=block_lt_of_cell hc
 have hb:=hk B (by rw[e];rfl) (fun e=>by rw[e]at hx;simp at hx) hl
 unfold World.cell? at hc⊢
 rw[hb];exact hc
def mM(bc:Array Go.Value)(b:Base)(i:Nat):Prop:=∃(j:Nat)(v:Go.Value),bc[j]?=some v∧v.ownBlock=some i∧Ib b j≠[]
theorem BaseC.kept{w w':World}{bc:Array Go.Value}{b:Base}(h:BaseC w bc b)(hk:∀i,mM bc b i→i<w.heap.size→w'.heap[i]?=w.heap[i]?):BaseC w' bc b:=by
 obtain⟨v0,v1,v2,v3,v4,v5,v6,v7,v8,v9,v10,rfl,h0,h1,h2,h3,h4,h5,h6,h7,h8,h9,h10⟩:=h
 exact⟨v0,v1,v2,v3,v4,v5,v6,v7,v8,v9,v10,rfl,Sl.kept h0 fun i hi hn=>hk i ⟨0,v0,rfl,hi,hn⟩,Sl.kept h1 fun i hi hn=>hk i ⟨1,v1,rfl,hi,hn⟩,Sl.kept h2 fun i hi hn=>hk i ⟨2,v2,rfl,hi,hn⟩,Sl.kept h3 fun i hi hn=>hk i ⟨3,v3,rfl,hi,hn⟩,Sl.kept h4 fun i hi hn=>hk i ⟨4,v4,rfl,hi,hn⟩,Sl.kept h5 fun i hi hn=>hk i ⟨5,v5,rfl,hi,hn⟩,Sl.kept h6 fun i hi hn=>hk i ⟨6,v6,rfl,hi,hn⟩,Sl.kept h7 fun i hi hn=>hk i ⟨7,v7,rfl,hi,hn⟩,Sl.kept h8 fun i hi hn=>hk i ⟨8,v8,rfl,hi,hn⟩,Sl.kept h9 fun i hi hn=>hk i ⟨9,v9,rfl,hi,hn⟩,Sl.kept h10 fun i hi hn=>hk i ⟨10,v10,rfl,hi,hn⟩⟩
theorem BaseC.DP{w:World}{bc:Array Go.Value}{b:Base}(h:BaseC w bc b):∀i,mM bc b i→i<w.heap.size:=by
 rintro i ⟨j,v,hv,hi,hn⟩
 by_cases hj:j<11
 · obtain⟨v',hv',ad,c,rfl,he⟩:=h.at_ hj
   rw[hv]at hv'
   cases hv'
   obtain⟨x,hx⟩:∃x,(Ib b j)[0]?=some x:=⟨_,cj (i9.2 hn)⟩
   obtain⟨B,o,e,ha⟩:=he 0 x hx
   subst e
   have hB:B=i:=cr hi
   have hc:=ha 0 (vi x.Kind) rfl
   have:=block_lt_of_cell hc
   exact hB▸this
 exact absurd (Tt b hj) hn
def Rs(bc:Array Go.Value)(b:Base):Asr:=⟨mM bc b,fun w=>BaseC w bc b,fun _ _ h k _=>h.kept k,fun _ h=>h.DP⟩
theorem Uc{bc:Array Go.Value}{b:Base}{base:Nat}(h:cV base bc):∀i,(Rs bc b).foot i→base≤i:=fun i⟨j,v,hv,hi,_⟩=>h j v hv i hi
def Lx(lot:Int):Fact:={ Lv with Kind:=7,ID:=9,Version:=1,Until:=1000000,Lot:=lot,Parties:=6 }
def Jv(p t:Int):Fact:={ Lv with Kind:=8,Version:=1,Other:=9,Parties:=p,Time:=t }
def Ns(lot:Int):Fact:={ Lv with Kind:=7,ID:=9,Version:=2,Day:=1,Gone:=true,Until:=1000000,Lot:=lot,Parties:=6 }
def Gc(T:ByteArray)(lot a b:Int):List Fact:=lO T++[Lx lot,Jv 2 a,Jv 4 b]
def Jq(T:ByteArray)(lot a b:Int):List Fact:=Gc T lot a b++[Ns lot]
def Iz(s:Sk)(x w t:Int):GAct:=⟨w,0,x,0,s.rc,1,t⟩
structure PerW(b0 b1:Base)(L:List Sk)(act:GAct)(k:Nat)(lot a b t:Int):Prop where
 lot_:Gb b0.Lots (k:Int) t=(((1+k/3:Nat):Int),1)
 m0:MayH b0 act L
 m1:MayH b1 act L
 n0:(Fo b0 act).length=if((1+k/3:Nat):Int)=lot∧(t<a∨t<b)then 1 else 0
 n1:(Fo b1 act).length=0
theorem PerW.no{b0 b1:Base}{L:List Sk}{act:GAct}{k:Nat}{lot a b t:Int}(h:PerW b0 b1 L act k lot a b t)(hn:¬(((1+k/3:Nat):Int)=lot∧(t<a∨t<b))):Ol b0 act=0:=by
 unfold Ol;rw[h.n0,am hn];rfl
theorem PerW.yes{b0 b1:Base}{L:List Sk}{act:GAct}{k:Nat}{lot a b t:Int}(h:PerW b0 b1 L act k lot a b t)(hn:((1+k/3:Nat):Int)=lot∧(t<a∨t<b)):Ol b0 act=32:=by
 unfold Ol;rw[h.n0,ap hn];rfl
theorem PerW.gone{b0 b1:Base}{L:List Sk}{act:GAct}{k:Nat}{lot a b t:Int}(h:PerW b0 b1 L act k lot a b t):Ol b1 act=0:=by
 unfold Ol;rw[h.n1];rfl
theorem PerW.one{b0 b1:Base}{L:List Sk}{act:GAct}{k:Nat}{lot a b t:Int}(h:PerW b0 b1 L act k lot a b t):decide (((Fo b0 act).length:Int)=1)=decide (Ol b0 act>0):=by
 by_cases hc:((1+k/3:Nat):Int)=lot∧(t<a∨t<b)
 · rw[h.yes hc,h.n0,ap hc];decide
 rw[h.no hc,h.n0,am hc];decide
theorem Hf(t:ByteArray):(lO t).length=124:=by unfold lO;rw[Yc]
structure TopLaw(L:List Sk)(lt fs sn tm:Int):Prop where
 per:∀(s:Sk)(x:Int)(k:Nat),L[0]?=some s→s.tl[0]?=some x→1≤k→k≤3→PerW (Lk (Gc (bs (Dr L)) lt fs sn) 0) (Lk (Jq (bs (Dr L)) lt fs sn) 1) L (Iz s x k tm) k lt fs sn tm
theorem Px{l:List Fact}{d:Int}{j:Nat}(hj:j<11){x:Fact}:x∈Ib (Lk l d) j↔rC l d x∧x.Gone=false∧x.Kind=((j+1:Nat):Int):=by
 rw[U7 l d hj]
 unfold D4
 rw[ap (bh.2 rfl),(H0 _).same.mem,d_,lB]
 simp
theorem Om(l:List Fact)(d:Int){j:Nat}(hj:j<11):(Ib (Lk l d) j).Nodup:=by
 rw[U7 l d hj]
 unfold D4
 rw[ap (bh.2 rfl)]
 exact((H0 _).same.perm.nodup_iff).2 ((Va l d).filter _)
theorem mN{α:Type}{l:List α}{x:α}(hn:l.Nodup)(h:∀y,y∈l↔y=x):l=[x]:=by
 match l,hn,h with
 |[],_,h=>exact absurd ((h x).2 rfl) (by simp)
 |[y],_,h=>rw[(h y).1 bl]
 |y::z::r,hn,h=>
   have e1:=(h y).1 bl
   have e2:=(h z).1 (bu _ bl)
   rw[fo]at hn
   exact absurd (by rw[e1,←e2];exact bl) hn.1
theorem mO{k:Int}(h:1≤k∧k≤11):∀x∈Eb k,x∈fieldsOf k:=by
 have hc:k=1∨k=2∨k=3∨k=4∨k=5∨k=6∨k=7∨k=8∨k=9∨k=10∨k=11:=by omega
 rcases hc with rfl|rfl|rfl|rfl|rfl|rfl|rfl|rfl|rfl|rfl|rfl<;>
   simp[Eb,fieldsOf,N3,Kj,Cq,Ch,Hg]
theorem dL{f:Fact}(hf:Bi f=true):∀x∈M8 f,Nt x:=fun x hx=>by
 have hk:=Ej hf
 unfold M8 at hx
 rcases bg.1 hx with rfl|hx
 · exact⟨by omega,by omega⟩
 obtain⟨y,hy,rfl⟩:=bj.1 hx
 exact(Kq hf).2.1 y (mO hk y hy)
theorem Rt{f g:Fact}(hf:Bi f=true)(hg:Bi g=true)(h:Cf f=Cf g):f.Kind=g.Kind∧Ec (Eb f.Kind) f=Ec (Eb f.Kind) g:=by
 have hk:=Ng hf hg h
 unfold Cf at h
 rw[ap hf,ap hg]at h
 have e:=(Nx (r:=[]) (s:=[]) (dL hf) (dL hg) (by unfold M8;simp[Ec,hk]) (by rw[h])).1
 unfold M8 at e
 rw[←hk]at e
 exact⟨hk,(List.cons.inj e).2⟩
theorem CS{f g:Fact}(hf:Bi f=true)(hg:Bi g=true)(hk:f.Kind=4)(h:Cf f=Cf g):f.Wafer=g.Wafer∧f.Time=g.Time:=by
 have e:=(Rt hf hg h).2
 rw[hk]at e
 replace e:[f.Wafer,f.Time]=[g.Wafer,g.Time]:=e
 simpa using e
theorem yW{f g:Fact}(hf:Bi f=true)(hg:Bi g=true)(hk:f.Kind=8)(h:Cf f=Cf g):f.Other=g.Other∧f.Parties=g.Parties:=by
 have e:=(Rt hf hg h).2
 rw[hk]at e
 replace e:[f.Other,f.Parties]=[g.Other,g.Parties]:=e
 simpa using e
theorem Yj{a b:Fact}(h:Dx a b=true):Bi a=true∧Bi b=true∧Cf a=Cf b:=by
 unfold Dx at h
 simp only[bm]at h
 exact⟨h.1.1.1,h.1.1.2,by simpa using h.1.2⟩
theorem yX{a b:Fact}(h:Dx a b=true):b.Version≤a.Version:=by
 unfold Dx at h
 simp only[bm,fp,fc]at h
 omega
theorem pU{a b:Fact}(ha:Bi a=true)(hb:Bi b=true)(hk:Cf a=Cf b)(hv:b.Version<a.Version):Dx a b=true:=by
 unfold Dx;rw[ha,hb,hk];simp[hv]
theorem Ru{f:Fact}(h:Bi f=true):Cf f≠[]:=by unfold Cf;rw[ap h];exact cJ h
def tS(v d i l u p:Int)(g:Bool):Fact:={ Lv with Kind:=7,Version:=v,Day:=d,Gone:=g,ID:=i,Lot:=l,Until:=u,Parties:=p }
def CT(o p t:Int):Fact:={ Lv with Kind:=8,Version:=1,Other:=o,Parties:=p,Time:=t }
theorem Ud{v d i l u p:Int}{g:Bool}(hv:1≤v∧v≤2)(hd:0≤d∧d≤100)(hi:1≤i∧i≤10)(hl:0≤l∧l≤10)(hu:0≤u∧u≤1000000)(hp:1≤p∧p≤255):Bi (tS v d i l u p g)=true:=by
 have hr:M7 (Gr (tS v d i l u p g).Kind) (tS v d i l u p g)=true:=be (show(0:Int)≤u from hu.1)
 have hq:preB (tS v d i l u p g)=false:=by
   show(decide (v<1)||decide (1000000<v)||decide (d<0)||decide (100000<d)||_)=false
   rw[bn (show ¬v<1 by omega),bn (show ¬(1000000:Int)<v by omega),bn (show ¬d<0 by omega),bn (show ¬(100000:Int)<d by omega)];rfl
 have hn:Hi (fieldsOf 7) (tS v d i l u p g)=some (H8 7 v d g):=by
   rw[show fieldsOf 7=[Cj 1,⟨7,0,1000000⟩,⟨9,0,1000000⟩,⟨11,0,60⟩,⟨12,0,4⟩,⟨13,0,40⟩,⟨14,0,1000000⟩,⟨15,0,1000000⟩,⟨5,0,1000000⟩,⟨6,0,1000000⟩,⟨17,1,255⟩]from rfl]
   refine(am (show ¬(i<1∨(1000000:Int)<i)by omega)).trans ?_
   refine(am (show ¬((0:Int)<0∨(1000000:Int)<0)by decide)).trans ?_
   refine(am (show ¬(l<0∨(1000000:Int)<l)by omega)).trans ?_
   refine(am (show ¬((0:Int)<0∨(60:Int)<0)by decide)).trans ?_
   refine(am (show ¬((0:Int)<0∨(4:Int)<0)by decide)).trans ?_
   refine(am (show ¬((0:Int)<0∨(40:Int)<0)by decide)).trans ?_
   refine(am (show ¬((0:Int)<0∨(1000000:Int)<0)by decide)).trans ?_
   refine(am (show ¬((0:Int)<0∨(1000000:Int)<0)by decide)).trans ?_
   refine(am (show ¬((0:Int)<0∨(1000000:Int)<0)by decide)).trans ?_
   refine(am (show ¬(u<0∨(1000000:Int)<u)by omega)).trans ?_
   refine(am (show ¬(p<1∨(255:Int)<p)by omega)).trans ?_
   rfl
 unfold Bi
 rw[hr,hq,show(tS v d i l u p g).Kind=7 from rfl,hn]
 show(true&&(!(false|| !true)&&E5 (H8 7 v d g) (H8 7 v d g)))=true
 rw[Nf];rfl
theorem Ue{o p t:Int}(ho:1≤o∧o≤100)(hp:1≤p∧p≤255)(ht:0≤t∧t≤1000):Bi (CT o p t)=true:=by
 have hn:Hi (fieldsOf 8) (CT o p t)=some (H8 8 1 0 false):=by
   rw[show fieldsOf 8=[Cj 8,⟨17,1,255⟩,Ch]from rfl]
   refine(am (show ¬(o<1∨(1000000:Int)<o)by omega)).trans ?_
   refine(am (show ¬(p<1∨(255:Int)<p)by omega)).trans ?_
   refine(am (show ¬(t<0∨(1000000:Int)<t)by omega)).trans ?_
   rfl
 unfold Bi
 rw[show(CT o p t).Kind=8 from rfl,hn]
 show(true&&(!(false|| !true)&&E5 (H8 8 1 0 false) (H8 8 1 0 false)))=true
 rw[Nf];rfl
theorem aY{b:Base}(a:GAct)(h:b.Holds=[]):Fo b a=[]:=by unfold Fo;rw[h];simp[F7]
theorem gR{b:Base}{a:GAct}{f:Fact}(h:b.Holds=[f])(hk:f.Kind=7):Fo b a=if Rg b a f=true then[f.ID]else[]:=by
 unfold Fo
 rw[h,show[f].filter Gx=[f]by simp[Gx,hk]]
 unfold F7
 rw[iz,List.foldl_nil]
 unfold Ie
 split
 · simp[Ml]
 simp
theorem tT(s x:Int):(Cond.mk 0 s x).met=true:=by simp[Cond.met]
theorem CU{l x:Int}(hl:0≤l∧l≤1000000):(Cond.mk l 0 x).met=(decide (l=0)||decide (l=x)):=by
 unfold Cond.met
 rw[show IntKind.i64.wrap (l-0)=l from by rw[Int.sub_zero];exact Eg oQ (by omega)]
 by_cases h:l=x
 · rw[be h,be (show x≤l by omega)];rfl
 rw[bn h,Bool.and_false]
theorem mP{lots:List Fact}{a:GAct}{v d i l u p:Int}{g:Bool}(h0:0≤a.Time)(hu:a.Time≤u)(hl:0≤l∧l≤1000000):Kr (tS v d i l u p g) lots a=(decide (l=0)||decide (l=(Gb lots a.Wafer a.Time).1)):=by
 show((true&&decide ((0:Int)≤a.Time)&&decide (a.Time≤u))&&[Cond.mk 0 0 a.Wafer,Cond.mk l 0 (Gb lots a.Wafer a.Time).1].all Cond.met&&[Cond.mk 0 1 a.Tool,Cond.mk 0 1 a.Chamber,Cond.mk 0 1 a.Step,Cond.mk 0 0 a.Recipe,Cond.mk 0 0 a.Revision].all Cond.met)=_
 rw[be h0,be hu]
 simp only[List.all_cons,List.all_nil,tT,CU hl,Bool.true_and,Bool.and_true]
theorem mQ{L:List Sk}(h:FlS L)(hl:L.length≤8):(Dr L).length≤8000:=by
 have h1:=join_le 10 F8 (L.mapIdx C3++[[]]) 714 (fun q hq=>by
   rcases Rq hq with rfl|rfl|⟨k,s,hs,rfl⟩
   · exact rI
   · decide
   have hk:=(ak.1 hs).1
   exact Rp oQ (h.sml s (ae hs)))
 have h2:(L.mapIdx C3++[[]]).length≤9:=by simp;omega
 have h3:(714+1)*((L.mapIdx C3++[[]]).length+1)≤715*10:=fz _ oQ
 exact br h1 (br h3 cQ)
theorem aZ{t:ByteArray}(h:t.size≤8000):Bi (Vm t)=true:=by
 have hq:preB (Vm t)=false:=by
   show(false||false||false||false||decide (8192<(t.size:Int)))=false
   rw[bn (by omega)];rfl
 unfold Bi
 rw[hq]
 show(true&&(!(false|| !true)&&E5 (H8 5 1 0 false) (H8 5 1 0 false)))=true
 rw[Nf];rfl
theorem Yk{k:Nat}(h:1≤k∧k≤3):Bi (Js k)=true:=by
 rcases(by omega:k=1∨k=2∨k=3)with rfl|rfl|rfl<;>kernel_rfl
theorem Yl{m:Nat}(h:m<120):Bi (Nq m)=true:=by
 have hn:Hi (fieldsOf 6) (Nq m)=some (H8 6 1 0 false):=by
   rw[show fieldsOf 6=[Cj 1,⟨11,0,59⟩,⟨12,0,3⟩,Cj 14,Cj 15,Ch,⟨6,0,1000000⟩]from rfl]
   refine(am (show ¬(((m:Nat):Int)+1<1∨(1000000:Int)<((m:Nat):Int)+1)by omega)).trans ?_
   refine(am (show ¬(((m/10:Nat):Int)<0∨(59:Int)<((m/10:Nat):Int))by omega)).trans ?_
   refine(am (show ¬(((m/5%2:Nat):Int)<0∨(3:Int)<((m/5%2:Nat):Int))by omega)).trans ?_
   refine(am (show ¬(((m%5+1:Nat):Int)<1∨(1000000:Int)<((m%5+1:Nat):Int))by omega)).trans ?_
   refine(am (show ¬((1:Int)<1∨(1000000:Int)<1)by decide)).trans ?_
   refine(am (show ¬((0:Int)<0∨(1000000:Int)<0)by decide)).trans ?_
   refine(am (show ¬((1000000:Int)<0∨(1000000:Int)<1000000)by decide)).trans ?_
   rfl
 unfold Bi
 rw[show(Nq m).Kind=6 from rfl,hn]
 show(true&&(!(false|| !true)&&E5 (H8 6 1 0 false) (H8 6 1 0 false)))=true
 rw[Nf];rfl
structure TopR(T:ByteArray)(lt fs sn tm:Int):Prop where
 T:T.size≤8000
 lt:1≤lt∧lt≤2
 fs:0≤fs∧fs<80
 sn:0≤sn∧sn<80
 tm:0≤tm∧tm<100
inductive TopF(T:ByteArray)(lt fs sn:Int):Fact→Prop
 |tx:TopF T lt fs sn (Vm T)
 |lo (k:Nat):1≤k∧k≤3→TopF T lt fs sn (Js k)
 |qu (m:Nat):m<120→TopF T lt fs sn (Nq m)
 |he:TopF T lt fs sn (Lx lt)
 |r2:TopF T lt fs sn (Jv 2 fs)
 |r4:TopF T lt fs sn (Jv 4 sn)
theorem Py{T:ByteArray}{lt fs sn:Int}{f:Fact}:f∈Gc T lt fs sn↔TopF T lt fs sn f:=by
 unfold Gc lO Pb Sx
 rw[show T8 4=[Js 1,Js 2,Js 3]from rfl]
 constructor
 · intro h
   simp only[dp,df,bg,bp,bj,b_,c9,db]at h
   rcases h with rfl|rfl|rfl|rfl|⟨m,hm,rfl⟩|rfl|rfl|rfl
   · exact .tx
   · exact .lo 1 cQ
   · exact .lo 2 cQ
   · exact .lo 3 cQ
   · exact .qu m hm
   · exact .he
   · exact .r2
   exact .r4
 intro h
 simp only[dp,df,bg,bp,bj,b_,c9,db]
 cases h with
 |tx=>exact .inl rfl
 |lo k hk=>rcases(by omega:k=1∨k=2∨k=3)with rfl|rfl|rfl<;>simp
 |qu m hm=>exact .inr (.inr (.inr (.inr (.inl ⟨m,hm,rfl⟩))))
 |he=>simp
 |r2=>simp
 |r4=>simp
section
variable {T:ByteArray}{lt fs sn tm:Int}
theorem TopF.valid(h:TopR T lt fs sn tm){f:Fact}(hf:TopF T lt fs sn f):Bi f=true:=by
 have h1:=h.lt
 have h2:=h.fs
 have h3:=h.sn
 cases hf with
 |tx=>exact aZ h.T
 |lo k hk=>exact Yk hk
 |qu m hm=>exact Yl hm
 |he=>exact(Ud (v:=1) (d:=0) (i:=9) (l:=lt) (u:=1000000) (p:=6) (g:=false) oQ oQ oQ oQ oQ oQ:)
 |r2=>exact(Ue (o:=9) (p:=2) (t:=fs) oQ oQ oQ:)
 |r4=>exact(Ue (o:=9) (p:=4) (t:=sn) oQ oQ oQ:)
theorem TopF.plain{f:Fact}(hf:TopF T lt fs sn f):f.Day=0∧f.Gone=false∧f.Version=1:=by cases hf<;>exact⟨rfl,rfl,rfl⟩
theorem CV{f g:Fact}(hf:Bi f=true)(hg:Bi g=true)(hk:f.Kind=6)(h:Cf f=Cf g):f.ID=g.ID:=by
 have e:=(Rt hf hg h).2
 rw[hk]at e
 replace e:[f.ID]=[g.ID]:=e
 simpa using e
theorem TopF.key(h:TopR T lt fs sn tm){f g:Fact}(hf:TopF T lt fs sn f)(hg:TopF T lt fs sn g)(e:Cf f=Cf g):f=g:=by
 have vf:=hf.valid h
 have vg:=hg.valid h
 have hk:=Ng vf vg e
 cases hf<;>cases hg<;>first
   |rfl
   |exact absurd (show(5:Int)=4 from hk) cQ
   |exact absurd (show(5:Int)=6 from hk) cQ
   |exact absurd (show(5:Int)=7 from hk) cQ
   |exact absurd (show(5:Int)=8 from hk) cQ
   |exact absurd (show(4:Int)=5 from hk) cQ
   |exact absurd (show(4:Int)=6 from hk) cQ
   |exact absurd (show(4:Int)=7 from hk) cQ
   |exact absurd (show(4:Int)=8 from hk) cQ
   |exact absurd (show(6:Int)=5 from hk) cQ
   |exact absurd (show(6:Int)=4 from hk) cQ
   |exact absurd (show(6:Int)=7 from hk) cQ
   |exact absurd (show(6:Int)=8 from hk) cQ
   |exact absurd (show(7:Int)=5 from hk) cQ
   |exact absurd (show(7:Int)=4 from hk) cQ
   |exact absurd (show(7:Int)=6 from hk) cQ
   |exact absurd (show(7:Int)=8 from hk) cQ
   |exact absurd (show(8:Int)=5 from hk) cQ
   |exact absurd (show(8:Int)=4 from hk) cQ
   |exact absurd (show(8:Int)=6 from hk) cQ
   |exact absurd (show(8:Int)=7 from hk) cQ
   |exact absurd (show(2:Int)=4 from(yW vf vg rfl e).2) cQ
   |exact absurd (show(4:Int)=2 from(yW vf vg rfl e).2) cQ
   |(rename_i k hk' j hj';have e1:=(CS vf vg rfl e).1;have e2:((k:Nat):Int)=((j:Nat):Int):=e1;rw[show k=j by omega])
   |(rename_i k hk' j hj';have e1:=CV vf vg rfl e;have e2:((k:Nat):Int)+1=((j:Nat):Int)+1:=e1;rw[show k=j by omega])
theorem Ym(h:TopR T lt fs sn tm){f:Fact}:rC (Gc T lt fs sn) 0 f↔TopF T lt fs sn f:=by
 constructor
 · exact fun he=>Py.1 he.1
 intro hf
 refine⟨Py.2 hf,Ru (hf.valid h),Int.le_of_eq hf.plain.1,fun g hg _=>?_⟩
 cases e:Dx g f with
 |false=>rfl
 |true=>
   have:=(Py.1 hg).key h hf (Yj e).2.2
   subst this
   rw[Il]at e;cases e
theorem Mn(h:TopR T lt fs sn tm):Bi (Ns lt)=true:=by
 have h1:=h.lt
 exact(Ud (v:=2) (d:=1) (i:=9) (l:=lt) (u:=1000000) (p:=6) (g:=true) oQ oQ oQ oQ oQ oQ:)
theorem mR(h:TopR T lt fs sn tm):Cf (Ns lt)=Cf (Lx lt):=Qz (k:=7) (Mn h) (TopF.he.valid h (fs:=fs) (sn:=sn)) rfl rfl rfl
theorem Jc{f:Fact}:f∈Jq T lt fs sn↔TopF T lt fs sn f∨f=Ns lt:=by
 unfold Jq
 rw[bp,Py,bh]
theorem Yn(h:TopR T lt fs sn tm){f:Fact}:rC (Jq T lt fs sn) 1 f↔(TopF T lt fs sn f∧f.Kind≠7)∨f=Ns lt:=by
 constructor
 · intro he
   rcases Jc.1 he.1 with hf|rfl
   · refine .inl ⟨hf,fun hk=>?_⟩
     have h1:=he.2.2.2 (Ns lt) (Jc.2 (.inr rfl)) (i8 _)
     cases hf with
     |he=>rw[pU (Mn h) (TopF.he.valid h (fs:=fs) (sn:=sn)) (mR h) (show(1:Int)<2 by decide)]at h1;cases h1
     |tx=>exact absurd (show(5:Int)=7 from hk) cQ
     |lo k _=>exact absurd (show(4:Int)=7 from hk) cQ
     |qu m _=>exact absurd (show(6:Int)=7 from hk) cQ
     |r2=>exact absurd (show(8:Int)=7 from hk) cQ
     |r4=>exact absurd (show(8:Int)=7 from hk) cQ
   exact .inr rfl
 rintro(⟨hf,hk⟩|rfl)
 · refine⟨Jc.2 (.inl hf),Ru (hf.valid h),by rw[hf.plain.1];decide,fun g hg _=>?_⟩
   cases e:Dx g f with
   |false=>rfl
   |true=>
     rcases Jc.1 hg with hg|rfl
     · have:=hg.key h hf (Yj e).2.2
       subst this
       rw[Il]at e;cases e
     exact absurd (Ng (Yj e).1 (Yj e).2.1 (Yj e).2.2) (fun e=>hk (e.symm.trans rfl))
 refine⟨Jc.2 (.inr rfl),Ru (Mn h),i8 _,fun g hg _=>?_⟩
 cases e:Dx g (Ns lt)with
 |false=>rfl
 |true=>
   rcases Jc.1 hg with hg|rfl
   · exact absurd (yX e) (by rw[hg.plain.2.2];exact(by decide:¬((2:Int)≤1)))
   rw[Il]at e;cases e
end
theorem yY{α:Type}{M:List α→Prop}(nil:M [])(snoc:∀l x,M l→M (l++[x]))(l:List α):M l:=by
 have h:∀r:List α,M r.reverse:=fun r=>by
   induction r with
   |nil=>exact nil
   |cons x r ih=>rw[List.reverse_cons];exact snoc _ _ ih
 have:=h l.reverse
 rwa [List.reverse_reverse]at this
def Rv(w t:Int)(f:Fact):Bool:=Tw w&&decide (f.Wafer=w)&&decide (f.Time≤t)
theorem Vq(w t:Int)(l:List Fact):match Fg l w t with
   |none=>∀f∈l,Rv w t f=false
   |some g=>g∈l∧Rv w t g=true∧∀f∈l,Rv w t f=true→f.Time≤g.Time:=by
 induction l using yY with
 |nil=>exact fun f hf=>by cases hf
 |snoc l x ih=>
   rw[Gw]
   have hc:Ja w t (Fg l w t) x=(Rv w t x&&(match Fg l w t with|none=>true|some g=>decide (g.Time<x.Time))):=rfl
   unfold Vb
   rw[hc]
   cases hb:Fg l w t with
   |none=>
     rw[hb]at ih
     dsimp only at ih⊢
     rw[Bool.and_true]
     by_cases h:Rv w t x=true
     · rw[ap h]
       refine⟨by simp,h,fun f hf hcf=>?_⟩
       rcases bp.1 hf with hf|hf
       · rw[ih f hf]at hcf;cases hcf
       rw[bh.1 hf];exact i8 _
     rw[am h]
     intro f hf
     rcases bp.1 hf with hf|hf
     · exact ih f hf
     rw[bh.1 hf];simpa using h
   |some g=>
     rw[hb]at ih
     dsimp only at ih⊢
     obtain⟨i1,i2,i3⟩:=ih
     by_cases h:Rv w t x=true∧g.Time<x.Time
     · rw[ap (by rw[h.1,be h.2];rfl)]
       refine⟨by simp,h.1,fun f hf hcf=>?_⟩
       rcases bp.1 hf with hf|hf
       · have:=i3 f hf hcf;omega
       rw[bh.1 hf];exact i8 _
     rw[am (by rw[bm,fc];exact h)]
     refine⟨by simp[i1],i2,fun f hf hcf=>?_⟩
     rcases bp.1 hf with hf|hf
     · exact i3 f hf hcf
     rw[bh.1 hf]at hcf⊢
     have:¬g.Time<x.Time:=fun e=>h ⟨hcf,e⟩
     omega
def LstOf(T:ByteArray)(lt fs sn:Int)(b:Base):Prop:=∀j,j<11→j≠6→(Ib b j).Nodup∧∀x,x∈Ib b j↔TopF T lt fs sn x∧x.Kind=((j+1:Nat):Int)
theorem tU{α:Type}{l:List α}{a b:α}(hn:l.Nodup)(hab:a≠b)(h:∀y,y∈l↔y=a∨y=b):l=[a,b]∨l=[b,a]:=by
 match l,hn,h with
 |[],_,h=>exact absurd ((h a).2 (.inl rfl)) (by simp)
 |[x],_,h=>
   have h1:=(h a).2 (.inl rfl)
   have h2:=(h b).2 (.inr rfl)
   rw[bh]at h1 h2
   exact absurd (h1.trans h2.symm) hab
 |[x,y],hn,h=>
   have hx:=(h x).1 (by simp)
   have hy:=(h y).1 (by simp)
   have hxy:x≠y:=by simpa using hn
   rcases hx with rfl|rfl<;>rcases hy with rfl|rfl
   · exact absurd rfl hxy
   · exact .inl rfl
   · exact .inr rfl
   exact absurd rfl hxy
 |x::y::z::r,hn,h=>
   have hx:=(h x).1 (by simp)
   have hy:=(h y).1 (by simp)
   have hz:=(h z).1 (by simp)
   simp only[fo,bg,not_or]at hn
   rcases hx with rfl|rfl<;>rcases hy with rfl|rfl<;>rcases hz with rfl|rfl<;>simp_all
section
variable {T:ByteArray}{lt fs sn tm:Int}{b:Base}
theorem mS(h:TopR T lt fs sn tm):LstOf T lt fs sn (Lk (Gc T lt fs sn) 0):=fun j hj _=>⟨Om _ _ hj,fun x=>by
 rw[Px hj,Ym h]
 exact⟨fun⟨h1,_,h3⟩=>⟨h1,h3⟩,fun⟨h1,h3⟩=>⟨h1,h1.plain.2.1,h3⟩⟩⟩
theorem mT(h:TopR T lt fs sn tm):LstOf T lt fs sn (Lk (Jq T lt fs sn) 1):=fun j hj hj6=>⟨Om _ _ hj,fun x=>by
 rw[Px hj,Yn h]
 constructor
 · rintro⟨⟨h1,_⟩|rfl,h2,h3⟩
   · exact⟨h1,h3⟩
   cases h2
 rintro⟨h1,h3⟩
 exact⟨.inl ⟨h1,by rw[h3];omega⟩,h1.plain.2.1,h3⟩⟩
theorem tV(h:TopR T lt fs sn tm):(Lk (Gc T lt fs sn) 0).Holds=[Lx lt]:=by
 refine mN (Om _ _ (show 6<11 by decide)) fun y=>(Px (l:=Gc T lt fs sn) (d:=0) (j:=6) cQ).trans ?_
 rw[Ym h]
 constructor
 · rintro⟨hf,_,hk⟩
   cases hf with
   |he=>rfl
   |tx=>exact absurd (show(5:Int)=7 from hk) cQ
   |lo k _=>exact absurd (show(4:Int)=7 from hk) cQ
   |qu m _=>exact absurd (show(6:Int)=7 from hk) cQ
   |r2=>exact absurd (show(8:Int)=7 from hk) cQ
   |r4=>exact absurd (show(8:Int)=7 from hk) cQ
 rintro rfl
 exact⟨.he,rfl,rfl⟩
theorem tW(h:TopR T lt fs sn tm):(Lk (Jq T lt fs sn) 1).Holds=[]:=by
 refine f6.2 fun y hy=>?_
 obtain⟨he,hg,hk⟩:=(Px (j:=6) cQ).1 hy
 rcases(Yn h).1 he with⟨_,h7⟩|rfl
 · exact h7 hk
 cases hg
theorem LstOf.lots(hb:LstOf T lt fs sn b){k:Nat}(hk:1≤k∧k≤3)(ht:0≤tm):Gb b.Lots (k:Int) tm=(((1+k/3:Nat):Int),1):=by
 have hm:=(hb 3 cQ cQ).2
 have hin:Js k∈b.Lots:=(hm _).2 ⟨.lo k hk,rfl⟩
 have hc:∀j:Nat,Rv (k:Int) tm (Js j)=decide (j=k):=fun j=>by
   show(Tw (k:Int)&&decide (((j:Nat):Int)=(k:Int))&&decide ((0:Int)≤tm))=_
   rw[be ht,show Tw (k:Int)=true by unfold Tw;simp;omega]
   by_cases e:j=k
   · subst e;simp
   rw[bn e,bn (by omega)];rfl
 have sp:=Vq (k:Int) tm b.Lots
 unfold Gb
 cases hb':Fg b.Lots (k:Int) tm with
 |none=>
   rw[hb']at sp
   have:=sp _ hin
   rw[hc k,be rfl]at this;cases this
 |some g=>
   rw[hb']at sp
   obtain⟨s1,s2,_⟩:=sp
   obtain⟨hf,hk4⟩:=(hm g).1 s1
   cases hf with
   |lo j hj=>
     rw[hc j]at s2
     have:=bw s2
     subst this
     rfl
   |tx=>exact absurd (show(5:Int)=4 from hk4) cQ
   |he=>exact absurd (show(7:Int)=4 from hk4) cQ
   |qu m _=>exact absurd (show(6:Int)=4 from hk4) cQ
   |r2=>exact absurd (show(8:Int)=4 from hk4) cQ
   |r4=>exact absurd (show(8:Int)=4 from hk4) cQ
theorem LstOf.yZ(hb:LstOf T lt fs sn b):b.Flows=[Vm T]:=by
 refine mN (hb 4 cQ cQ).1 fun y=>?_
 refine((hb 4 cQ cQ).2 y).trans ⟨fun⟨hf,hk⟩=>?_,fun e=>by subst e;exact⟨.tx,rfl⟩⟩
 cases hf with
 |tx=>rfl
 |lo k _=>exact absurd (show(4:Int)=5 from hk) cQ
 |he=>exact absurd (show(7:Int)=5 from hk) cQ
 |qu m _=>exact absurd (show(6:Int)=5 from hk) cQ
 |r2=>exact absurd (show(8:Int)=5 from hk) cQ
 |r4=>exact absurd (show(8:Int)=5 from hk) cQ
theorem LstOf.none(hb:LstOf T lt fs sn b):b.Processes=[]:=by
 refine f6.2 fun y hy=>?_
 obtain⟨hf,hk⟩:=((hb 0 cQ cQ).2 y).1 hy
 cases hf with
 |tx=>exact absurd (show(5:Int)=1 from hk) cQ
 |lo k _=>exact absurd (show(4:Int)=1 from hk) cQ
 |he=>exact absurd (show(7:Int)=1 from hk) cQ
 |qu m _=>exact absurd (show(6:Int)=1 from hk) cQ
 |r2=>exact absurd (show(8:Int)=1 from hk) cQ
 |r4=>exact absurd (show(8:Int)=1 from hk) cQ
theorem LstOf.CX(hb:LstOf T lt fs sn b)(ht:0≤tm∧tm<100){x r:Int}(hx:0≤x∧x<12)(hr:1≤r∧r≤5):Ha b x 0 r 1 tm=true:=by
 obtain⟨m,hm,e1,e2,e3⟩:∃m:Nat,m<120∧((m/10:Nat):Int)=x∧((m/5%2:Nat):Int)=0∧((m%5+1:Nat):Int)=r:=⟨10*x.toNat+(r-1).toNat,by omega,by omega,by omega,by omega⟩
 unfold Ha
 refine List.find?_isSome.2 ⟨Nq m,((hb 5 cQ cQ).2 _).2 ⟨.qu m hm,rfl⟩,?_⟩
 show(((((m/10:Nat):Int)==x&&(((m/5%2:Nat):Int)==0&&(((m%5+1:Nat):Int)==r&&((1:Int)==1&&true))))&&decide ((0:Int)≤tm))&&decide (tm≤1000000))=true
 rw[e1,e2,e3,be ht.1,be (show tm≤1000000 by omega)]
 simp
theorem LstOf.pV(hb:LstOf T lt fs sn b):decide (cZ 6 (Ep b.Releases 9 tm)=0)=(decide (fs≤tm)&&decide (sn≤tm)):=by
 have h2:b.Releases=[Jv 2 fs,Jv 4 sn]∨b.Releases=[Jv 4 sn,Jv 2 fs]:=by
   refine tU (hb 7 cQ cQ).1 (fun e=>absurd (aq Fact.Parties e) (show ¬((2:Int)=4)by decide)) fun y=>?_
   refine((hb 7 cQ cQ).2 y).trans ⟨fun⟨hf,hk⟩=>?_,fun e=>by rcases e with rfl|rfl;exact⟨.r2,rfl⟩;exact⟨.r4,rfl⟩⟩
   cases hf with
   |r2=>exact .inl rfl
   |r4=>exact .inr rfl
   |tx=>exact absurd (show(5:Int)=8 from hk) cQ
   |lo k _=>exact absurd (show(4:Int)=8 from hk) cQ
   |he=>exact absurd (show(7:Int)=8 from hk) cQ
   |qu m _=>exact absurd (show(6:Int)=8 from hk) cQ
 have s2:∀a,Im 9 tm a (Jv 2 fs)=if fs≤tm then uD a 2 else a:=fun a=>by
   show(if(decide ((9:Int)=9)&&decide (fs≤tm))=true then uD a 2 else a)=_
   simp
 have s4:∀a,Im 9 tm a (Jv 4 sn)=if sn≤tm then uD a 4 else a:=fun a=>by
   show(if(decide ((9:Int)=9)&&decide (sn≤tm))=true then uD a 4 else a)=_
   simp
 have hv:Ep b.Releases 9 tm=if fs≤tm then(if sn≤tm then 6 else 2)else if sn≤tm then 4 else 0:=by
   rcases h2 with e|e<;>rw[e]
   · show Im 9 tm (Im 9 tm 0 (Jv 2 fs)) (Jv 4 sn)=_
     rw[s2,s4]
     by_cases h1:fs≤tm<;>by_cases h2:sn≤tm<;>simp only[h1,h2,if_true,if_false]<;>decide
   show Im 9 tm (Im 9 tm 0 (Jv 4 sn)) (Jv 2 fs)=_
   rw[s2,s4]
   by_cases h1:fs≤tm<;>by_cases h2:sn≤tm<;>simp only[h1,h2,if_true,if_false]<;>decide
 rw[hv]
 by_cases h1:fs≤tm<;>by_cases h2:sn≤tm<;>simp only[h1,h2,if_true,if_false,decide_true,decide_false]<;>decide
theorem pW{L:List Sk}(hlt:1≤lt∧lt≤2)(hfs:0≤fs∧fs<80)(hsn:0≤sn∧sn<80)(htm:0≤tm∧tm<100)(hl:1≤L.length∧L.length≤8)(hM:MkS L.length L):TopLaw L lt fs sn tm:=⟨fun s x k hs hx h1 h3=>by
 have hR:TopR (bs (Dr L)) lt fs sn tm:=⟨by rw[Lf];exact mQ (hM.yV hl) hl.2,hlt,hfs,hsn,htm⟩
 have hk:=hM 0 s hs
 have hxt:x∈s.tl:=ae hx
 have hx12:0≤x∧x<12:=by
   obtain⟨a,ha,ha6,e|⟨c,hc,hc8,e⟩⟩:=hk.tl<;>rw[e]at hxt<;>simp only[bg,c9,db]at hxt<;>omega
 have b0:=mS hR
 have b1:=mT hR
 have may:∀b,LstOf (bs (Dr L)) lt fs sn b→(∀j,j<11→(Ib b j).length≤100000)→MayH b (Iz s x k tm) L:=fun b hb hlen=>
   ⟨hb.none,by rw[show Gb b.Lots (Iz s x k tm).Wafer (Iz s x k tm).Time=_ from hb.lots ⟨h1,h3⟩ htm.1];exact(by decide:(1:Int)≠0),⟨Vm (bs (Dr L)),by rw[show Gb b.Lots (Iz s x k tm).Wafer (Iz s x k tm).Time=_ from hb.lots ⟨h1,h3⟩ htm.1];unfold Yd;rw[hb.yZ];rfl,rfl⟩,
     hlen 3 cQ,hlen 4 cQ,hlen 5 cQ,hlen 6 cQ,hlen 7 cQ,hM.yV hl,hM.CP hl,rfl,⟨s,hs,hxt,rfl⟩,hb.CX htm hx12 hk.rc⟩
 have hlen0:∀j,j<11→(Ib (Lk (Gc (bs (Dr L)) lt fs sn) 0) j).length≤100000:=fun j _=>Tv (by unfold Gc;rw[ah,Hf];exact a_ rfl) 0 j
 have hlen1:∀j,j<11→(Ib (Lk (Jq (bs (Dr L)) lt fs sn) 1) j).length≤100000:=fun j _=>Tv (by unfold Jq Gc;rw[ah,ah,Hf];exact a_ rfl) 1 j
 refine⟨b0.lots ⟨h1,h3⟩ htm.1,may _ b0 hlen0,may _ b1 hlen1,?_,by rw[aY _ (tW hR)];rfl⟩
 rw[gR (tV hR) rfl]
 have hnm:Kr (Lx lt) (Lk (Gc (bs (Dr L)) lt fs sn) 0).Lots (Iz s x k tm)=decide (lt=((1+k/3:Nat):Int)):=by
   have:=mP (lots:=(Lk (Gc (bs (Dr L)) lt fs sn) 0).Lots) (a:=Iz s x k tm) (v:=1) (d:=0) (i:=9) (l:=lt) (u:=1000000) (p:=6) (g:=false) htm.1 (show tm≤1000000 by omega) oQ
   refine(show Kr (Lx lt) _ _=_ from this).trans ?_
   rw[show Gb (Lk (Gc (bs (Dr L)) lt fs sn) 0).Lots (Iz s x k tm).Wafer (Iz s x k tm).Time=_ from b0.lots ⟨h1,h3⟩ htm.1,bn (show ¬lt=0 by omega),fy]
 have hov:lC (Lx lt) (Lk (Gc (bs (Dr L)) lt fs sn) 0).Releases (Iz s x k tm).Time=(decide (fs≤tm)&&decide (sn≤tm)):=b0.pV
 have hst:Rg (Lk (Gc (bs (Dr L)) lt fs sn) 0) (Iz s x k tm) (Lx lt)=decide (((1+k/3:Nat):Int)=lt∧(tm<fs∨tm<sn)):=by
   unfold Rg
   rw[hnm,hov,Bool.eq_iff_iff]
   simp only[bm,ir,Bool.and_eq_false_iff,fc,gx]
   omega
 rw[hst]
 by_cases hc:((1+k/3:Nat):Int)=lt∧(tm<fs∨tm<sn)
 · rw[ap hc,ap (be hc)];rfl
 rw[am hc,am (by rw[bn hc];exact b7)];rfl⟩
end
end Go.Wx
namespace Go.Proofs.YtnocngnlpgikaaaGreatDoor
open Go.Proofs.Tryz
open Go.Wx Go.RowKit
section
variable {w0 W W':World}{bc kn:Array Value}{b:Base}{a:GAct}{s:Sk}{Bb Ba Bk Bs Bo bq:Nat}{X Y:Nat→Prop}
theorem tX{p:Bool}:∀r∈Vn Bk Ba Bo Bs Bb p,∀args w,(callFunc r.fn args).run prog w=.ok (.enter r.fn args) w:=fun r hr args w=>by
 simp only[Vn,bg,c9,db]at hr
 rcases hr with rfl|rfl|rfl|rfl|rfl|rfl
 · exact vX args w
 · exact vY args w
 · exact wA args w
 · exact wB args w
 · exact wC args w
 exact wF args w
theorem tY{av:Option Addr}{m cv:Nat}(hC:BaseC w0 bc b)(h0:a.Step=0)(hT:a.Tool∈s.tl)(hTl:s.tl.length≤100)(hR:s.rc=a.Recipe)(hl:b.Qualified.length≤100000)(hq:Ha b a.Tool a.Chamber a.Recipe a.Revision a.Time=true)(hH:b.Holds.length≤1000000000)(hRl:b.Releases.length<9223372036854775807)(hL:b.Lots.length<9223372036854775807)
   (W:World)(h:WhyG w0 bc a (gI av m cv) s Bb Ba Bk Bs Bo W):∀r∈Vn Bk Ba Bo Bs Bb (decide (0<(Fo b a).length)),Ret prog r.fn (#[]++r.lb) W fun v W'=>v=.bool r.yes∧Up W W':=fun r hr=>by
 simp only[Vn,bg,c9,db]at hr
 rw[Array.empty_append]
 rcases hr with rfl|rfl|rfl|rfl|rfl|rfl
 · exact mE av m cv Bk W h.bk
 · exact mF av m cv a Bk Ba W h.bk h.ba h0
 · exact mG a s Bo Bs Ba W h.bo h.bs_ h.ba h.e hTl hT
 · exact mH a s Bo Bs Ba W h.bo h.bs_ h.ba hR
 · exact mI bc b a Bb Ba W (hC.up h.u) h.bb h.ba hl hq
 exact mJ bc b a Bb Ba W (hC.up h.u) h.bb h.ba hH hRl hL
end
theorem Yo(bc:Array Go.Value)(b:Base)(a:GAct)(L:List Sk)(w:World)(hC:BaseC w bc b)(hM_:MayH b a L)(hG:GM w):Ret prog 22 #[.agg bc,.agg (GAct.cells a),.slice none 0 0] w fun r w'=>r=vi (Ol b a)∧Up w w':=by
 obtain⟨w0,rfl,_⟩:=W0 w
 have hS:=(Sep.start no w0).Zq
 change Wx.Sep _ _ _ [_]at hS
 obtain⟨f,hf,hT⟩:=hM_.flow
 obtain⟨s,hs,hTt,hRc⟩:=hM_.s0
 refine Et (n:=24) func22 rfl rfl rfl ?_
 refine Ae ?_
 refine Aq (.bA rfl) rfl ?_
 rintro _ w1 ⟨B3,rfl,NB3⟩
 have eB3:=NB3.at_
 have zB3:=NB3.size
 replace hS:=hS.Cc NB3
 change Wx.Sep _ _ _ [_,_]at hS
 refine Aq (.bA rfl) rfl ?_
 rintro _ w2 ⟨B4,rfl,NB4⟩
 have eB4:=NB4.at_
 have zB4:=NB4.size
 replace hS:=hS.Cc NB4
 change Wx.Sep _ _ _ [_,_,_]at hS
 refine Ay (Am (Aa ?_))
 refine Aq (.F6 j2 rfl) rfl ?_
 rintro _ w3 ⟨B7,rfl,MB7⟩
 refine Cb (.store jw (.t rfl) (.const _) rfl MB7.blk cQ) ?_
 intro w4 LB7
 have NB7:=MB7.set LB7
 clear LB7 MB7
 have eB7:=NB7.at_
 have zB7:=NB7.size
 replace hS:=hS.Cc NB7
 change Wx.Sep _ _ _ [_,_,_,_]at hS
 refine Am (Ak ?_)
 have hS0_:=hS
 obtain⟨bz,ebz⟩:∃b,b=w4.heap.size:=⟨_,rfl⟩
 refine Cz 9 kQ kQ kQ kQ kQ rfl rfl ?_
 refine J (.Hj lq k6 (hC.size) (.t rfl) (hS.b1.agg)) ?_
 refine J (.lc rfl (hS.b2.agg)) ?_
 refine J (.Hj lq k6 (hC.size) (.t rfl) (hS.b1.agg)) ?_
 refine J (.fB 0 rfl) ?_
 refine J (.lb rfl (hS.b2.Ad rfl)) ?_
 refine J (.fB 6 rfl) ?_
 refine J (.lb rfl (hS.b2.Ad rfl)) ?_
 refine J (.mv rfl) ?_
 refine bL (p:=fun v W=>∃(av:Option Addr)(cv:Nat)(M:List Sk)(t:Sk),v=.agg (gI av M.length cv)∧Same L M∧M[0]?=some t∧FlK bz W av M) (fun _ _ _⟨av,cv,M,t,h1,h2,h3,h4⟩u=>⟨av,cv,M,t,h1,h2,h3,h4.up u⟩) (fun a w _ ha=>Bm (.ct rfl (.ct rfl (.ct rfl (.cu rfl)))) (BJ) a ha) rfl rfl (fun w hu=>(tR bc b a.Wafer a.Time f L w (hC.up (hS.Cl.trans hu)) (by have:=hM_.hLo;omega) hM_.hFl hM_.lot hf hT hM_.fl hM_.fw (hG.up (hS.Cl.trans hu))).mono fun _ _⟨av,cv,M,t,h1,h2,h3,h4,h5⟩=>⟨h5,av,cv,M,t,h1,h2,h3,h4.mono (by rw[ebz];exact hu.size)⟩) ?_
 refine HW.nil ?_
 intro w5 uw5
 have zw5:=uw5.size
 replace hS:=hS.up uw5
 refine Mr (d:=17) rfl fun v17 hp17=>?_
 obtain⟨av,cv,M,t,rfl,hM,ht,hFk⟩:=hp17
 obtain⟨s',hs',ev⟩:=hM.at_ ht
 cases hs.symm.trans hs'
 have etl:t.tl=s.tl:=aq (fun v=>v.2.1) ev
 have erc:t.rc=s.rc:=aq (fun v=>v.1) ev
 have hta:=(hFk.g.g t (ae ht))
 replace hS:=hS0_.add uw5 (A':=rJ t.ta t.tl) (hFk.g.p t (ae ht)).1 (fun i h=>let⟨_,o,e⟩:=h;by rw[←ebz];exact(hFk.b.2 t (ae ht)).1 i o e)
 change Wx.Sep _ _ _ [_,_,_,_,_]at hS
 refine A3 (eC (.ct rfl (.ct rfl (.cu rfl))) (BI)) rfl (Yi bc b a av cv M t (decide (0<(Fo b a).length)) _ (hC.up hS.Cl) hFk.g ht hM_.st) ?_
 rintro _ w6 ⟨Bb,Ba,Bk,Bs,Bo,Br,B9,rfl,hNs⟩
 have zN:=hNs.size
 replace hS:=hS.join hNs
 change Wx.Sep _ _ _ [_,_,_,_,_,_,_,_,_,_,_,_]at hS
 replace hS:=hS.Ea 3 rfl
 change Wx.Sep _ _ _ [_,_,_,_,_,_,_,_,_,_,_,_]at hS
 refine Af (Ah ?_)
 obtain⟨bq,hbq⟩:∃bq,bq=w6.heap.size:=⟨_,rfl⟩
 refine Ke (Zs:=[_,_,_,_,_,_,_,_,_,_,_]) (σ:=Int) (fun s=>[A4 B7 #[vi s] 3]) (fun pre s=>(s=32*(pre.length:Int))) (fun _ _ _=>False) (fun x b=>[]) (fun x b=>[(8,.eq (vi x.1.num)),(7,.eq (.pointer (some ⟨B7,0,none⟩)))]) 0 (.t rfl) (fun args w=>wG args w) (mK _ _ B9 Br (Vn Bk Ba Bo Bs Bb (decide (0<(Fo b a).length))) (WhyG w0 bc a (gI av M.length cv) t Bb Ba Bk Bs Bo) _ (fun _ _ h u=>h.up u) (fun _ _ h k=>h.kx k (fun i h=>h.1.elim (fun h=>h.elim) id) (fun i h=>h.1.elim (fun h=>h.elim) id) oQ (fun h=>h.2 ⟨_,ae (i:=4) rfl,rfl⟩) (fun h=>h.2 ⟨_,ae (i:=5) rfl,rfl⟩) (fun h=>h.2 ⟨_,ae (i:=6) rfl,rfl⟩) (fun h=>h.2 ⟨_,ae (i:=7) rfl,rfl⟩) (fun h=>h.2 ⟨_,ae (i:=8) rfl,rfl⟩) (fun i hi h=>h.2 ⟨_,ae (i:=3) rfl,hi⟩)) (tY hC hM_.st (by rw[etl];exact hTt) (br hta.tl.2 cQ) (erc.trans hRc) hM_.hQu hM_.qu (by have:=hM_.hHo;omega) (by have:=hM_.hRe;omega) (by have:=hM_.hLo;omega)) tX bQ (fun h=>h.2 ⟨_,ae (i:=10) rfl,rfl⟩) (fun h=>h.2 ⟨_,ae (i:=9) rfl,rfl⟩) (hS.blk 10 rfl) (Cm (hS.own 9 rfl) (fun _=>rfl)) ⟨hS.Cl,hS.blk 4 rfl,hS.blk 5 rfl,hS.blk 6 rfl,hS.blk 7 rfl,hS.blk 8 rfl,hS.get 3 rfl⟩) (fun _=>rfl) rfl (fun _ _=>rfl) (show Wx.Sep _ _ _ ([_,_,_,_,_,_,_,_,_,_,_]++[_])from hS) rfl ?_ ?_ ?_ ?_
 ·intro lp x w7
  have hS:=Sep.start no w7
  refine G1 rfl ?_
  refine Aa (LW.A rfl (LW.nil ?_))
  exact fun a ha=>⟨0,hS,.nil _ _,ha.sub tQ⟩
 ·rintro lp pre x z b w8 hJ hlt hqw hS0 hS
  rw[←hbq]at hqw⊢
  have zq:=hqw
  change Wx.Sep _ _ _ [_]at hS
  have hx32:=pT x
  rw[dK]at hlt
  have hlt1:pre.length<1:=by split at hlt<;>omega
  refine Ah (Aa ?_)
  refine U (.lb rfl (hS.b0.Ad rfl)) ?_
  refine I rfl ?_
  refine U (.add (.t rfl) (.t rfl) oQ oQ) ?_
  refine Cb (.store jw (.t rfl) (.t rfl) rfl hS.b0 bQ) ?_
  intro w9 Nw9
  have zw9:=Nw9.size
  replace hS:=hS.D9 0 rfl Nw9
  change Wx.Sep _ _ _ [_]at hS
  refine LW.nil (Aj ?_)
  exact fun _ _=>⟨z+x.1.num,[],(by rw[ah,du];omega),hS,.cons (Li hS.b0) (.nil _ _)⟩
 ·rintro Dm ys z w10 hDq hYs hJ hqw hS
  rw[←hbq]at hDq hqw
  have zq:=hqw
  replace hS:=Ut (Ds:=[]) (As:=[_,_,_,_,_,_,_,_,_,_]) (Bs:=[_]) hS
  change Wx.Sep _ _ _ [_,_,_,_,_,_,_,_,_,_,_,_]at hS
  refine Aj (Ac (Ae ?_))
  refine U (.lb rfl ((hS.blk 11 rfl).Ad rfl)) ?_
  refine LW.A rfl (Af (Al ?_))
  refine L7 rfl (Dm::[]) _ (hS.get 0 rfl).1 (hS.get 0 rfl).2 ?_
  intro w11 hF_
  replace hS:=hS.step 0 rfl (A':=eJ) hF_ trivial (fun _ h=>h.elim)
  change Wx.Sep _ _ _ [_,_,_,_,_,_,_,_,_,_,_,_]at hS
  have zw11:=hF_.size
  refine KW.q ?_
  have h1:=aq List.length hYs
  rw[dm,dK]at h1
  exact⟨aq vi (by unfold Ol;rw[hJ,h1];by_cases h:0<(Fo b a).length<;>simp[h]),hS.Cl⟩
 exact fun _ _ _ _ _ _ _ h=>h.elim
theorem dM(bc:Array Go.Value)(b:Base)(a:GAct)(L:List Sk)(w:World)(hC:BaseC w bc b)(hM_:MayH b a L)(hG:GM w):Ret prog 10 #[.agg bc,.agg (GAct.cells a)] w fun r w'=>r=vi (Ol b a)∧Up w w':=by
 obtain⟨w0,rfl,hS⟩:=W0 w
 refine cT 14 func10 rfl ?_
 refine Ae ?_
 refine Aq (.bA rfl) rfl ?_
 rintro _ w1 ⟨B2,rfl,NB2⟩
 have eB2:=NB2.at_
 have zB2:=NB2.size
 replace hS:=hS.Cc NB2
 change Wx.Sep _ _ _ [_]at hS
 refine Aq (.bA rfl) rfl ?_
 rintro _ w2 ⟨B3,rfl,NB3⟩
 have eB3:=NB3.at_
 have zB3:=NB3.size
 replace hS:=hS.Cc NB3
 change Wx.Sep _ _ _ [_,_]at hS
 refine Ay (Am ?_)
 refine Cz 8 kQ kQ kQ kQ kQ rfl rfl ?_
 refine J (.Hj lq k6 (hC.size) (.t rfl) (hS.b0.agg)) ?_
 refine J (.lc rfl (hS.b1.agg)) ?_
 refine J (.Hj lq k6 (hC.size) (.t rfl) (hS.b0.agg)) ?_
 refine J (.fB 0 rfl) ?_
 refine J (.lb rfl (hS.b1.Ad rfl)) ?_
 refine J (.fB 6 rfl) ?_
 refine J (.lb rfl (hS.b1.Ad rfl)) ?_
 refine HW.c (fun a w _ ha=>Bm (.ct rfl (.ct rfl (.cu rfl))) (AD) a ha) rfl rfl (fun w hu=>aX bc b _ _ w (hC.up (hS.Cl.trans hu)) hM_.proc) ?_
 refine HW.nil ?_
 intro w3 uw3
 have zw3:=uw3.size
 replace hS:=hS.up uw3
 refine A3 (eC (.ct rfl (.ct rfl (.cu rfl))) (AB)) rfl (Yo bc b a L _ (hC.up hS.Cl) hM_ (hG.up hS.Cl)) ?_
 rintro _ w4 ⟨rfl,uw4⟩
 have zw4:=uw4.size
 replace hS:=hS.up uw4
 refine LW.A rfl (Af (Al ?_))
 refine KW.q ?_
 exact⟨rfl,hS.Cl⟩
theorem Yp(w:World):Ret prog 99 #[.agg gW.cells] w fun r w'=>r=.bool true∧Up w w':=by
 obtain⟨w0,rfl,hS⟩:=W0 w
 refine cT 35 func99 rfl (Ae (Aq (.bA rfl) rfl ?_))
 rintro _ w1 ⟨B1,rfl,NB1⟩
 replace hS:=hS.Cc NB1
 refine Ay (Am (Ae (U (.fB 0 rfl) (U (.lb rfl (hS.b0.Ad rfl)) (U (.fB 1 rfl) (U (.lb rfl (hS.b0.Ad rfl)) (A3 (eC (.ct rfl (.cons (.const _) (.cu rfl))) (dR)) rfl (G8 _ _ _ _) ?_)))))))
 rintro _ w2 ⟨rfl,uw2⟩
 replace hS:=hS.up uw2
 refine U (.n1 rfl) (I rfl (LW.gr rfl (fun hc=>PEv.fB 1 rfl) (LW.gr rfl (fun hc=>PEv.load j_ vQ (hS.b0.Ad rfl)) (LW.gr rfl (fun hc=>PEv.gtr vQ (.const _)) (U (.fa (PEv.po rfl (fun hp=>(by exact .cond rfl (by(rw[hp];rfl))))) (rfl)) (Af (CW.f rfl (Ai (Ac (Ae (U (.fB 2 rfl) (U (.lc rfl ((cA (ds:=#[vi 1,vi 5]) (k:=2) hS.b0 (fun j hj=>by match j,hj with|0,_=>rfl|1,_=>rfl)))) (U (.fB 1 rfl) (U (.lb rfl (hS.b0.Ad rfl)) (A3 (eC (.u rfl rfl) (qL)) rfl (Qj _ _ _ _ cQ) ?_)))))))))))))))
 rintro _ w3 ⟨rfl,uw3⟩
 replace hS:=hS.up uw3
 refine I rfl (LW.gr rfl (fun hc=>PEv.fB 4 rfl) (LW.gr rfl (fun hc=>PEv.Hj isAgg54 sizeOf54 rfl vQ ((cA (ds:=#[vi 2,vi 29]) (k:=4) hS.b0 (fun j hj=>by match j,hj with|0,_=>rfl|1,_=>rfl)))) (LW.gr rfl (fun hc=>PEv.fB 1 rfl) (LW.gr rfl (fun hc=>PEv.load j_ vQ (hS.b0.Ad rfl)) (iA rfl rfl rfl rfl rfl rfl rfl rfl (fun hc=>Bm (.cons vQ (.cons vQ .nil)) (qL)) (fun hc=>Qj _ _ _ _ cQ) ?_)))))
 intro w4 uw4
 replace hS:=hS.up uw4
 refine U (.pa rfl (fun hp=>(by exact .cond rfl (by assumption)))) (I rfl (LW.gr rfl (fun hc=>PEv.fB 2 rfl) (LW.gr rfl (fun hc=>PEv.fieldAddr (off:=0) mj rfl rfl jw rfl vQ) (LW.gr rfl (fun hc=>PEv.load j_ vQ (hS.b0.Ad rfl)) (LW.gr rfl (fun hc=>PEv.fB 4 rfl) (LW.gr rfl (fun hc=>PEv.fieldAddr (off:=0) mj rfl rfl jw rfl vQ) (LW.gr rfl (fun hc=>PEv.load j_ vQ (hS.b0.Ad rfl)) (LW.gr rfl (fun hc=>PEv.neq vQ vQ) (U (.pa rfl (fun hp=>(by exact .cond rfl (by assumption)))) (LW.A rfl (Af (Al (KW.q ?_)))))))))))))
 exact⟨rfl,hS.Cl⟩
theorem bB(w:World):Ret prog 98 #[.agg gW.cells] w fun r w'=>r=.bool false∧Up w w':=by
 obtain⟨w0,rfl,hS⟩:=W0 w
 refine cT 6 func98 rfl (Ae (Aq (.bA rfl) rfl ?_))
 rintro _ w1 ⟨B1,rfl,NB1⟩
 replace hS:=hS.Cc NB1
 refine Ay (Am (Aa (U (.lc rfl (hS.b0.agg)) (A3 (eC (.o rfl) (CF)) rfl (Yp _) ?_))))
 rintro _ w2 ⟨rfl,uw2⟩
 replace hS:=hS.up uw2
 refine U (.n1 rfl) (LW.A rfl (Af (Al (KW.q ?_))))
 exact⟨rfl,hS.Cl⟩
theorem bC(ad:Option Addr)(cp:Nat)(w:World)(hE:Els w ad 6 Sg.cells [gW]):Ret prog 32 #[.agg (Ot ad cp)] w fun r w'=>r=.bool true∧Up w w':=by
 obtain⟨w0,rfl,hS⟩:=W0 w
 refine cT 48 func32 rfl (Ae (Aq (.bA rfl) rfl ?_))
 rintro _ w1 ⟨B1,rfl,NB1⟩
 replace hS:=hS.Cc NB1
 refine Ay (Am (Aa (U (.build (cs:=(⟨-1,0,0⟩:Wn).cells) underlying47 mb Lm (.cons (.const _) .nil) rfl) (Aq (.Bt mb) rfl ?_))))
 rintro _ w2 ⟨B3,rfl,MB3⟩
 refine Cb (.Ca ma rfl (.t rfl) (.t rfl) (Wn.one _) MB3.blk rfl) ?_
 intro w3 LB3
 have NB3:=MB3.set LB3
 replace hS:=hS.Cc NB3
 refine Am (Aa (U (.makeFunc (.ct rfl (.cu rfl))) (Aq (.F6 zeroValue168 rfl) rfl ?_)))
 rintro _ w4 ⟨B4,rfl,MB4⟩
 refine Cb (.store sizeOf168 (.t rfl) (.t rfl) rfl MB4.blk cQ) ?_
 intro w5 LB4
 have NB4:=MB4.set LB4
 replace hS:=hS.Cc NB4
 refine Am (Ah (Ae (U (.fB 0 rfl) (U (.lb rfl (hS.b0.Ad rfl)) (A3 (eC (.ct rfl (.cons (.const _) (.cons (.const _) .nil))) (dR)) rfl (G8 _ _ _ _) ?_)))))
 rintro _ w6 ⟨rfl,uw6⟩
 replace hS:=hS.up uw6
 refine U (.n1 rfl) (I rfl (LW.gr rfl (fun hc=>PEv.fB 1 rfl) (LW.gr rfl (fun hc=>PEv.load j_ vQ (hS.b0.Ad rfl)) (LW.gr rfl (fun hc=>PEv.fB 2 rfl) (LW.gr rfl (fun hc=>PEv.load j_ vQ (hS.b0.Ad rfl)) (iA rfl rfl rfl rfl rfl rfl rfl rfl (fun hc=>Bm (.cons vQ (.cons (.const _) (.cons vQ .nil))) (dR)) (fun hc=>G8 _ _ _ _) ?_))))))
 intro w7 uw7
 replace hS:=hS.up uw7
 refine LW.gr rfl (fun hc=>PEv.not vQ) (U (.po rfl (fun hp=>(by exact .cond rfl (by(rw[hp];rfl))))) (I rfl (LW.gr rfl (fun hc=>PEv.fB 2 rfl) (LW.gr rfl (fun hc=>PEv.load j_ vQ (hS.b0.Ad rfl)) (LW.gr rfl (fun hc=>PEv.gtr vQ (.const _)) (U (.fa (PEv.po rfl (fun hp=>(by exact .cond rfl (by(rw[hp];rfl))))) (rfl)) (LW.A rfl (Af (CW.f rfl (Ae (U (.fB 3 rfl) (U (.lb rfl (hS.b0.Ad rfl)) (U (.Cn lu (.t rfl)) (A3 (eC (.ct rfl (.cons (.const _) (.cons (.const _) .nil))) (dR)) rfl (G8 _ _ _ _) ?_))))))))))))))
 rintro _ w8 ⟨rfl,uw8⟩
 replace hS:=hS.up uw8
 refine U (.n1 rfl) (I rfl (LW.gr rfl (fun hc=>PEv.fB 4 rfl) (LW.gr rfl (fun hc=>PEv.load isAgg26 vQ (hS.b0.Ad rfl)) (LW.gr rfl (fun hc=>PEv.Cn j9 vQ) (LW.gr rfl (fun hc=>PEv.gtr vQ (.const _)) (U (.fa (PEv.po rfl (fun hp=>(by exact .cond rfl (by(rw[hp];rfl))))) (rfl)) (LW.A rfl (Af (CW.f rfl (Ai (Aj (Ac (Ae (U (.fB 3 rfl) (U (.lb rfl (hS.b0.Ad rfl)) (A3 (eC (.ct rfl (.cons (.func _) .nil)) (CD)) rfl (R9 98 #[] CE ad cp [gW] _ (Els.up hE hS.Cl) cQ (fun W u x hx=>by rw[bh.1 hx];exact bB W)) ?_))))))))))))))))
 rintro _ w9 ⟨rfl,uw9⟩
 replace hS:=hS.up uw9
 refine U (.n1 rfl) (I rfl (Ap (U (.fB 4 rfl) (Ap (U (.lb rfl (hS.b0.Ad rfl)) (Ap (U (.makeFunc (.cu rfl)) (Ap (A3 (eC (.u rfl rfl) (uY)) rfl (Sa _ _ uZ none 0 [] _ (fun i x h=>by simp at h) cQ (fun W u x hx=>by simp at hx)) ?_)))))))))
 rintro _ w10 ⟨rfl,uw10⟩
 replace hS:=hS.up uw10
 refine Ap (U (.n1 rfl) (U (.pa rfl (fun hp=>(by exact .tmp rfl))) (LW.A rfl (Af (Al (KW.q ?_))))))
 exact⟨rfl,hS.Cl⟩
theorem Yq(B:Nat)(v:Go.Value)(L:List Int)(ov by_:Int)(w:World)(hl:L.length≤1000)(hsub: -1000000000≤by_-ov∧by_-ov≤1000000000)(hS0:Wx.Sep (Cp [A4 B #[v] 166,Az 3 1 A6 (v) (L)]) w w [A4 B #[v] 166,Az 3 1 A6 (v) (L)]):Ret prog 171 #[.pointer (some ⟨B,0,none⟩),vi ov,vi by_] w fun _ w'=>∃v',Wx.Sep (Cp [A4 B #[v] 166,Az 3 1 A6 (v) (L)]) w w' [A4 B #[v'] 166,Az 3 1 A6 (v') (L++[by_-ov])]:=by
 obtain⟨w0,rfl,_⟩:=W0 w
 have hS:=hS0
 refine cT 16 func171 rfl (Aa (I rfl (I rfl (U (.nc rfl) (U (.lb rfl (hS.b0.Ad rfl)) (I rfl (I rfl (U (.sub (.t rfl) (.t rfl) oQ oQ) (Aq (.buildSlice (xs:=[by_-ov]) (enc:=A6) (mk:=vi) underlying166 jw j2 rfl cQ (fun _=>rfl) (fun _=>rfl) (.cu rfl) rfl) rfl ?_)))))))))
 rintro _ w1 ⟨B13,cB13,rfl,NB13,yB13,xB13⟩
 replace hS:=hS.up NB13.up
 have hE13:=xB13
 refine Aq (.D7 (enc:=A6) (bytes:=8) (i:=Tryz.t3) underlying166 kQ rfl rfl rfl rfl cQ (fun _=>rfl) Fq (.t rfl) (.t rfl) (hS.own 1 rfl) (Aw hE13) (by simp[maxLen];omega) (by simp;omega)) rfl ?_
 intro v14 w2 Gw2
 replace hS:=hS.F9 1 rfl Gw2
 refine U (.nc rfl) (Cb (.store sizeOf166 (.t rfl) (.t rfl) (hS.own 1 rfl).one hS.b0 bQ) ?_)
 intro w3 Nw3
 replace hS:=hS.D9 0 rfl Nw3
 refine LW.nil (C1 rfl ⟨_,rfl,?_⟩)
 exact⟨_,hS⟩
theorem Yr(n:Int)(w:World)(hn:0≤n):Ret prog 173 #[vi n] w fun r w'=>r=.bool false∧Up w w':=by
 have hW:=Up.refl w
 refine cT 5 func173 rfl (Ae (Ay (Am (Aa (I rfl (U (.fa (PEv.lss (.t rfl) (.const _)) (bn oQ)) (LW.A rfl (Af (Al (KW.q ?_))))))))))
 exact⟨rfl,hW⟩
theorem Rw(ad:Option Addr)(cp:Nat)(l:List Int)(w:World)(hE:Els w ad 1 A6 l)(hl:l.length≤1000)(hn:∀x∈l,0≤x):Ret prog 93 #[.slice ad l.length cp] w fun r w'=>r=.bool false∧Up w w':=by
 have hW:=Up.refl w
 refine cT 5 func93 rfl (Ae (Ay (Am (Aa (I rfl (A3 (eC (.ct rfl (.cons (.func _) .nil)) (wS)) rfl (Sb 173 #[] wU ad cp l _ (Els.up hE hW) oQ (fun W u x hx=>Yr x W (hn x hx))) ?_))))))
 rintro _ w1 ⟨rfl,uw1⟩
 replace hW:=hW.up uw1
 refine LW.A rfl (Af (Al (KW.q ?_)))
 exact⟨rfl,hW⟩
theorem gS(ad:Option Addr)(cp:Nat)(w:World)(hE:Els w ad 6 Sg.cells [gW]):Ret prog 92 #[.agg (Ot ad cp)] w fun r w'=>Sl w' r 1 A6 [0,0]∧Up w w':=by
 obtain⟨w0,rfl,hS⟩:=W0 w
 refine cT 91 func92 rfl (Ae (Aq (.bA rfl) rfl ?_))
 rintro _ w1 ⟨B1,rfl,NB1⟩
 replace hS:=hS.Cc NB1
 refine Aq (.F6 zeroValue166 rfl) rfl ?_
 rintro _ w2 ⟨B2,rfl,NB2⟩
 replace hS:=hS.Cc NB2
 refine Am ?_
 replace hS:=hS.M2 (OwnS.nil _ 0 3 1 A6)
 obtain⟨Bs,os,as_,hcs⟩:=hE 0 gW rfl
 refine Cz 11 kQ kQ kQ kQ kQ rfl rfl (J (.fB 0 rfl) (J (.lb rfl (hS.b0.Ad rfl)) (J (.fB 2 rfl) (J (.lb rfl (hS.b0.Ad rfl)) (J (.add (.t rfl) (.t rfl) oQ oQ) (J (.fB 3 rfl) (J (.lb rfl (hS.b0.Ad rfl)) (J (.Ar lu sizeOf56 (j:=0) (.t rfl) (.const _) cQ as_) (J (.fB 2 rfl) (J (.fB 1 rfl) (J (.lb rfl (((hcs.up hS.Cl).nth (j:=3) rfl))) (HW.nil ?_))))))))))))
 intro w3 uw3
 replace hS:=hS.up uw3
 replace hS:=hS.Ea 1 rfl
 replace hS:=hS.Ea 1 rfl
 have hq_:=(show Wx.Sep _ _ _ ([_]++[_,_])from hS)
 refine A3 (eC (.ct rfl (.ct rfl (.cu rfl))) (qK)) rfl (Yq B2 _ _ _ _ _ cQ cQ hq_.right.self) ?_
 rintro _ w4 ⟨v18,uw4⟩
 replace hS:=hq_.frame uw4
 refine Am (Ae (U (.fB 3 rfl) (U (.lb rfl (hS.b0.Ad rfl)) (U (.Cn lu (.t rfl)) (U (.move (.const _)) (Af (Ah (A5 (σ:=Nat) (fun s w=>(s=0)∧(Wx.Sep no w0 w [A4 B1 (Ot ad cp) 63,A4 B2 #[v18] 166,Az 3 1 A6 v18 ([]++[5-(0+5)])])) (fun s=>[(22,.eq (vi (s:Int)))]) ([(1,.eq _),(2,.eq _),(20,.eq _),(21,.eq _)]) (fun s=>1-s) 0 ?_ tQ ?_))))))))
 ·exact⟨rfl,hS⟩
 rintro k w5 ⟨hk,hS⟩
 subst hk
 refine Ae (U (.tr (PEv.l2 rfl rfl) (rfl)) (Am (CW.v rfl (Ai (Ac (Ak (Ah (Ae (I rfl (U (.Ar lu sizeOf56 (j:=0) (.t rfl) (.t rfl) cQ as_) (U (.lc rfl ((hcs.up hS.Cl))) (Aq (.Bt zeroValue56) rfl ?_))))))))))))
 rintro _ w6 ⟨B4,rfl,MB4⟩
 refine LW.A rfl (Cb (.Ca sizeOf56 rfl (.t rfl) (.t rfl) (Sg.one _) MB4.blk rfl) ?_)
 intro w7 LB4
 have NB4:=MB4.set LB4
 replace hS:=hS.Cc NB4
 refine Am ?_
 have hs1:gW.s1=5:=rfl
 have hs2:gW.mx=20:=rfl
 refine Aa (U (.fB 2 rfl) (U (.fB 1 rfl) (U (.lb rfl (hS.b3.Ad rfl)) (U (.fB 1 rfl) (U (.lb rfl (hS.b3.Ad rfl)) (U (.add (.t rfl) (.t rfl) oQ oQ) (U (.sub (.t rfl) (.const _) oQ oQ) (U (.fB 2 rfl) (U (.lb rfl (hS.b0.Ad rfl)) (U (.add (.t rfl) (.t rfl) oQ oQ) (U (.fB 4 rfl) (U (.fB 1 rfl) (U (.lb rfl (hS.b3.Ad rfl)) ?_)))))))))))))
 replace hS:=hS.Ea 1 rfl
 replace hS:=hS.Ea 1 rfl
 have hq_:=(show Wx.Sep _ _ _ ([_,_]++[_,_])from hS)
 refine A3 (eC (.ct rfl (.ct rfl (.cu rfl))) (qK)) rfl (Yq B2 _ _ _ _ _ cQ cQ hq_.right.self) ?_
 rintro _ w8 ⟨v40,uw8⟩
 replace hS:=hq_.frame uw8
 refine Am (Ae (I rfl (U (.ic rfl oQ) (U (.fB 3 rfl) (U (.lb rfl (hS.b0.Ad rfl)) (U (.Cn lu (.t rfl)) (U (.tr (PEv.eql (.t rfl) (.t rfl)) (rfl)) (Af (CW.v rfl (A8 (Ab (Ir cQ (Ab (Ab (Ao (Ac (Ae (U (.lb rfl (hS.b2.Ad rfl)) (Cb (.store sizeOf166 (.t rfl) (.t rfl) (hS.own 3 rfl).one hS.b2 bQ) ?_)))))))))))))))))))
 intro w9 Nw9
 replace hS:=hS.D9 2 rfl Nw9
 refine Af (Al (Pn rfl rfl isAgg166 (hS.b2.Ad rfl) ⟨_,rfl,?_⟩))
 exact⟨(hS.own 3 rfl).sl (fun _=>rfl),hS.Cl⟩
theorem mU(ad:Option Addr)(cp:Nat)(w:World):Ret prog 94 #[.agg (Ot ad cp)] w fun r w'=>r=.slice none 0 0∧Up w w':=by
 obtain⟨w0,rfl,hS⟩:=W0 w
 refine cT 39 func94 rfl (Ae (Aq (.bA rfl) rfl ?_))
 rintro _ w1 ⟨B1,rfl,NB1⟩
 replace hS:=hS.Cc NB1
 refine Aq (.F6 zeroValue166 rfl) rfl ?_
 rintro _ w2 ⟨B2,rfl,NB2⟩
 replace hS:=hS.Cc NB2
 refine Am (Ae (U (.fB 4 rfl) (U (.lb rfl (hS.b0.Ad rfl)) (U (.Cn j9 (.t rfl)) (U (.move (.const _)) (Af (Ah (A5 (σ:=Nat) (fun s w=>(s=0)∧(Wx.Sep no w0 w [A4 B1 (Ot ad cp) 63,A4 B2 #[.slice none 0 0] 166])) (fun s=>[(9,.eq (vi (s:Int)))]) ([(1,.eq _),(2,.eq _),(7,.eq _),(8,.eq _)]) (fun s=>1-s) 0 ?_ tQ ?_))))))))
 ·exact⟨rfl,hS⟩
 rintro k w3 ⟨hk,hS⟩
 subst hk
 refine Ae (U (.fa (PEv.l2 rfl rfl) (rfl)) (Am (CW.f rfl (A8 (Ab (Ab (Ao (Ac (Ae (U (.lb rfl (hS.b1.Ad rfl)) (Cb (.store sizeOf166 (.t rfl) (.t rfl) rfl hS.b1 bQ) ?_)))))))))))
 intro w4 Nw4
 replace hS:=hS.D9 1 rfl Nw4
 refine Af (Al (Pn rfl rfl isAgg166 (hS.b1.Ad rfl) ⟨_,rfl,?_⟩))
 exact⟨rfl,hS.Cl⟩
theorem bD(ad:Option Addr)(cp:Nat)(w:World)(hE:Els w ad 6 Sg.cells [gW]):Ret prog 31 #[.agg (Ot ad cp)] w fun r w'=>r=.bool true∧Up w w':=by
 obtain⟨w0,rfl,hS⟩:=W0 w
 refine cT 17 func31 rfl (Ae (Aq (.bA rfl) rfl ?_))
 rintro _ w1 ⟨B1,rfl,NB1⟩
 replace hS:=hS.Cc NB1
 refine Ay (Am (Aa (U (.lc rfl (hS.b0.agg)) (A3 (eC (.o rfl) (AK)) rfl (bC ad cp _ (Els.up hE hS.Cl)) ?_))))
 rintro _ w2 ⟨rfl,uw2⟩
 replace hS:=hS.up uw2
 refine I rfl (Ap (U (.lc rfl (hS.b0.agg)) (Ap (A3 (eC (.o rfl) (CB)) rfl (gS ad cp _ (Els.up hE hS.Cl)) ?_))))
 rintro _ w3 ⟨⟨ad7,cp7,rfl,hE7⟩,uw3⟩
 replace hS:=hS.up uw3
 refine Ap (A3 (eC (.o rfl) (uX)) rfl (Rw _ _ [0,0] _ hE7 cQ cQ) ?_)
 rintro _ w4 ⟨rfl,uw4⟩
 replace hS:=hS.up uw4
 refine Ap (U (.n1 rfl) (U (.pa rfl (fun hp=>(by exact .tmp rfl))) (I rfl (Ap (U (.lc rfl (hS.b0.agg)) (Ap (A3 (eC (.o rfl) (CC)) rfl (mU ad cp _) ?_)))))))
 rintro _ w5 ⟨rfl,uw5⟩
 replace hS:=hS.up uw5
 refine Ap (A3 (eC (.o rfl) (uX)) rfl (Rw none 0 [] _ (fun i x h=>by simp at h) cQ cQ) ?_)
 rintro _ w6 ⟨rfl,uw6⟩
 replace hS:=hS.up uw6
 refine Ap (U (.n1 rfl) (U (.pa rfl (fun hp=>(by exact .tmp rfl))) (LW.A rfl (Af (Al (KW.q ?_))))))
 exact⟨rfl,hS.Cl⟩
theorem gT(ad:Option Addr)(cp:Nat)(w:World)(hE:Els w ad 6 Sg.cells [gW]):Ret prog 13 #[.agg (Ot ad cp)] w fun r w'=>∃sc:Array Go.Value,sc.size=5∧sc.all (·.oneCell')=true∧r=.tuple #[.agg sc,.bool true]∧Up w w':=by
 obtain⟨w0,rfl,hS⟩:=W0 w
 refine Et (n:=28) func13 rfl rfl rfl (Ae (Aq (.bA rfl) rfl ?_))
 rintro _ w1 ⟨B1,rfl,NB1⟩
 replace hS:=hS.Cc NB1
 refine Aq (.Bt zeroValue58) rfl ?_
 rintro _ w2 ⟨B2,rfl,NB2⟩
 replace hS:=hS.Cc NB2
 refine Aq (.F6 ll rfl) rfl ?_
 rintro _ w3 ⟨B3,rfl,NB3⟩
 replace hS:=hS.Cc NB3
 refine Am (Ae (U (.lc rfl (hS.b0.agg)) (A3 (eC (.o rfl) (AJ)) rfl (bD ad cp _ (Els.up hE hS.Cl)) ?_)))
 rintro _ w4 ⟨rfl,uw4⟩
 replace hS:=hS.up uw4
 refine Af (CW.v rfl (Ae (U (.build (cs:=#[.slice none 0 0,.slice none 0 0,vi 0,vi 0,vi 0]) underlying58 zeroValue58 R4 .nil rfl) (Cb (.Ca sizeOf58 rfl (.t rfl) (.t rfl) (by simp[Value.oneCell']) hS.b1 rfl) ?_))))
 intro w5 Nw5
 replace hS:=hS.D9 1 rfl Nw5
 refine Cb (.store km (.t rfl) (.const _) rfl hS.b2 bQ) ?_
 intro w6 Nw6
 replace hS:=hS.D9 2 rfl Nw6
 refine Af (Al (Au (P7 (iG rfl rfl rfl isAgg58 sizeOf58 rfl hS.b1.agg isAgg4 (hS.b2.Ad rfl) ⟨_,rfl,?_⟩))))
 exact⟨_,rfl,by simp[Value.oneCell'],rfl,hS.Cl⟩
theorem gU(w:World):Ret prog 4 #[] w fun r w'=>r=.bool true∧Up w w':=by
 obtain⟨w0,rfl,hS⟩:=W0 w
 refine cT 54 func4 rfl (Ae (Ay (Am (Aa (U (.build (cs:=gX.cells) underlying47 mb Lm (.cons (.const _) (.cons (.const _) (.cons (.const _) .nil))) rfl) (Aq (.buildSlice (xs:=([gX]:List Wn)) (enc:=Wn.cells) (mk:=fun x=>.agg x.cells) j9 ma mb rfl cQ (fun _=>rfl) (fun _=>rfl) (.cu rfl) rfl) rfl ?_))))))
 intro v9 w1 hN9
 obtain⟨uw1,B9,rfl,e9,hO9⟩:=NewSl.own hN9 (fun _=>rfl) cQ (by simp[maxLen])
 replace hS:=hS.add uw1 (A':=Az 47 3 Wn.cells (.slice (some ⟨B9,0,none⟩) 1 1) ([gX]:List Wn)) hO9 (fun i h=>by cases h;exact eo e9.symm)
 refine U (.build (cs:=#[vi 2,vi 5,.slice none 0 0,.slice (some ⟨B9,0,none⟩) 1 1]) underlying28 k9 Ll (.cons (.const _) (.cons (.const _) (.cu rfl))) rfl) (Aq (.Bt k9) rfl ?_)
 rintro _ w2 ⟨B1,rfl,MB1⟩
 refine Cb (.Ca lv rfl (.t rfl) (.t rfl) (by simp[Value.oneCell']) MB1.blk rfl) ?_
 intro w3 LB1
 have NB1:=MB1.set LB1
 replace hS:=hS.Cc NB1
 refine Am (Ak ?_)
 replace hS:=hS.M2 (OwnS.nil _ 0 49 7 Sk.cells)
 replace hS:=hS.add (Up.refl _) (A':=Df (([]:List Sk).flatMap (Jr 3))) ⟨fun A h=>by simp at h,List.Pairwise.nil⟩ (fun i h=>by obtain⟨A,h,_⟩:=h;simp at h)
 refine Aa (Ay (Af (Ah (A5 (σ:=Nat×Go.Value×List Sk) (fun s w=>(s.1≤3)∧(StQ s.2.2 s.1)∧(Wx.Sep no w0 w [Az 47 3 Wn.cells (.slice (some ⟨B9,0,none⟩) 1 1) [gX],A4 B1 #[vi 2,vi 5,s.2.1,.slice (some ⟨B9,0,none⟩) 1 1] 28,Az 49 7 Sk.cells s.2.1 s.2.2,Df (s.2.2.flatMap (Jr 3))])) (fun s=>[(2,.eq (vi (s.1:Int)))]) ([(0,.eq _),(1,.eq _)]) (fun s=>3-s.1) (0,.slice none 0 0,[]) ?_ tQ ?_))))
 ·exact⟨au _,StQ.nil,hS⟩
 rintro⟨k,v,L⟩ w4 ⟨hk,hL,hS⟩
 dsimp only at hk hL hS
 change CW _ _ _ _ _ _ _ ([(2,.eq (vi (k:Int)))]++_) _
 refine Ak (Ae (I rfl (U (.lss (.t rfl) (.const _)) (Af (CW.b rfl (fun h12=>?_) (fun h12=>?_))))))
 ·replace h12:=dQ h12
  refine Ai (Ac (Ak (Ah (Ak ?_))))
  have hk3:k<3:=cz.1 h12
  refine Aa (I rfl (Aq (.buildSlice (xs:=([(k:Int)]:List Int)) (enc:=A6) (mk:=vi) ju jw j2 rfl cQ (fun _=>rfl) (fun _=>rfl) (.cu rfl) rfl) rfl ?_))
  intro v16 w5 hN16
  obtain⟨uw5,B16,rfl,e16,hO16⟩:=NewSl.own hN16 (fun _=>rfl) cQ (by simp[maxLen])
  replace hS:=hS.add uw5 (A':=Az 3 1 A6 (.slice (some ⟨B16,0,none⟩) 1 1) ([(k:Int)]:List Int)) hO16 (fun i h=>by cases h;exact eo e16.symm)
  refine U (.build (cs:=(⟨1,[(k:Int)],some ⟨B16,0,none⟩,1,10,20,[],none,0,-1,0⟩:Sk).cells) underlying49 kz Iu (.cons (.const _) (.ct rfl (.cons (.const _) (.cons (.const _) (.cons (.const _) .nil))))) rfl) (Aq (.Bt kz) rfl ?_)
  rintro _ w6 ⟨B3,rfl,MB3⟩
  refine Cb (.Ca kh rfl (.t rfl) (.t rfl) (Sk.one _) MB3.blk rfl) ?_
  intro w7 LB3
  have NB3:=MB3.set LB3
  replace hS:=hS.Cc NB3
  refine Am (Ae (I rfl (U (.lss (.t rfl) (.const _)) (Af (CW.b rfl (fun h19=>?_) (fun h19=>?_))))))
  ·replace h19:=dQ h19
   have hnx:[(k:Int)+1]=pD k:=by unfold pD;rw[ap (by omega)]
   refine Aa (I rfl (U (.add (.t rfl) (.const _) oQ oQ) (Aq (.buildSlice (xs:=([(k:Int)+1]:List Int)) (enc:=A6) (mk:=vi) ju jw j2 rfl cQ (fun _=>rfl) (fun _=>rfl) (.cu rfl) rfl) rfl ?_)))
   intro v22 w8 hN22
   obtain⟨uw8,B22,rfl,e22,hO22⟩:=NewSl.own hN22 (fun _=>rfl) cQ (by simp[maxLen])
   replace hS:=hS.add uw8 (A':=Az 3 1 A6 (.slice (some ⟨B22,0,none⟩) 1 1) ([(k:Int)+1]:List Int)) hO22 (fun i h=>by cases h;exact eo e22.symm)
   refine U (.fB 4 rfl) (Cb (.store lh (.t rfl) (.t rfl) rfl hS.b5 bQ) ?_)
   intro w9 Nw9
   replace hS:=hS.D9 5 rfl (show Set_ _ w9 _ ((⟨1,[(k:Int)],some ⟨B16,0,none⟩,1,10,20,[(k:Int)+1],some ⟨B22,0,none⟩,1,-1,0⟩:Sk).cells) _ from Nw9)
   refine Af (Aa (U (.fB 2 rfl) (U (.lb rfl (hS.b1.Ad rfl)) (U (.lc rfl (hS.b5.agg)) (Aq (.buildSlice (xs:=[(⟨1,[(k:Int)],some ⟨B16,0,none⟩,1,10,20,[(k:Int)+1],some ⟨B22,0,none⟩,1,-1,0⟩:Sk)]) (enc:=Sk.cells) (mk:=fun s=>.agg s.cells) j0 kh kz rfl cQ (fun _=>rfl) (fun _=>rfl) (.cu rfl) rfl) rfl ?_)))))
   rintro _ w10 ⟨B27,cB27,rfl,NB27,yB27,xB27⟩
   replace hS:=hS.up NB27.up
   have hE27:=xB27
   refine Aq (.D7 (enc:=Sk.cells) (bytes:=88) (i:=Tryz.t49) j0 kQ rfl rfl rfl rfl cQ (fun _=>rfl) Sk.one (.t rfl) (.t rfl) (hS.own 2 rfl) (Aw hE27) (by rw[hL.len];simp[maxLen];omega) (by rw[hL.len];simp;omega)) rfl ?_
   intro v28 w11 Gw11
   replace hS:=hS.F9 2 rfl Gw11
   refine U (.fB 2 rfl) (Cb (.store sizeOf25 (.t rfl) (.t rfl) (hS.own 2 rfl).one hS.b1 bQ) ?_)
   intro w12 Nw12
   replace hS:=hS.D9 1 rfl (show Set_ _ w12 _ (#[vi 2,vi 5,v28,.slice (some ⟨B9,0,none⟩) 1 1]) _ from Nw12)
   refine LW.nil (Aj (Ac (Aa (I rfl (U (.ic rfl oQ) (LW.A rfl (LW.nil (Av ?_))))))))
   exact⟨(k+1,v28,L++[(⟨1,[(k:Int)],some ⟨B16,0,none⟩,1,10,20,[(k:Int)+1],some ⟨B22,0,none⟩,1,-1,0⟩:Sk)]),⟨by show k+1≤3;omega,hL.snoc (dB hk3 _ _ _ _ _ hnx) hnx,Pv (Bs:=[_,_,_]) (s:=(⟨1,[(k:Int)],some ⟨B16,0,none⟩,1,10,20,[(k:Int)+1],some ⟨B22,0,none⟩,1,-1,0⟩:Sk)) (hS.sub (.cons_cons _ (.cons_cons _ (.cons_cons _ (.cons_cons _ (.cons_cons _ (.cons _ (.cons_cons _ .slnil))))))))⟩,tQ,by show 3-(k+1)<3-k;omega⟩
  replace h19:=dQ h19
  have hnx:([]:List Int)=pD k:=by unfold pD;rw[am (by omega)]
  refine Ai (Ac (Aa (U (.fB 2 rfl) (U (.lb rfl (hS.b1.Ad rfl)) (U (.lc rfl (hS.b5.agg)) (Aq (.buildSlice (xs:=[(⟨1,[(k:Int)],some ⟨B16,0,none⟩,1,10,20,[],none,0,-1,0⟩:Sk)]) (enc:=Sk.cells) (mk:=fun s=>.agg s.cells) j0 kh kz rfl cQ (fun _=>rfl) (fun _=>rfl) (.cu rfl) rfl) rfl ?_))))))
  rintro _ w13 ⟨B27,cB27,rfl,NB27,yB27,xB27⟩
  replace hS:=hS.up NB27.up
  have hE27:=xB27
  refine Aq (.D7 (enc:=Sk.cells) (bytes:=88) (i:=Tryz.t49) j0 kQ rfl rfl rfl rfl cQ (fun _=>rfl) Sk.one (.t rfl) (.t rfl) (hS.own 2 rfl) (Aw hE27) (by rw[hL.len];simp[maxLen];omega) (by rw[hL.len];simp;omega)) rfl ?_
  intro v28 w14 Gw14
  replace hS:=hS.F9 2 rfl Gw14
  refine U (.fB 2 rfl) (Cb (.store sizeOf25 (.t rfl) (.t rfl) (hS.own 2 rfl).one hS.b1 bQ) ?_)
  intro w15 Nw15
  replace hS:=hS.D9 1 rfl (show Set_ _ w15 _ (#[vi 2,vi 5,v28,.slice (some ⟨B9,0,none⟩) 1 1]) _ from Nw15)
  refine LW.nil (Aj (Ac (Aa (I rfl (U (.ic rfl oQ) (LW.A rfl (LW.nil (Av ?_))))))))
  exact⟨(k+1,v28,L++[(⟨1,[(k:Int)],some ⟨B16,0,none⟩,1,10,20,[],none,0,-1,0⟩:Sk)]),⟨by show k+1≤3;omega,hL.snoc (dB hk3 _ _ _ _ _ hnx) hnx,Pv (Bs:=[_,_,_]) (s:=(⟨1,[(k:Int)],some ⟨B16,0,none⟩,1,10,20,[],none,0,-1,0⟩:Sk)) ((hS.M2 (OwnS.nil _ 0 3 1 A6)).sub (.cons_cons _ (.cons_cons _ (.cons_cons _ (.cons_cons _ (.cons_cons _ (.cons _ (.cons_cons _ .slnil))))))))⟩,tQ,by show 3-(k+1)<3-k;omega⟩
 replace h12:=dQ h12
 refine A8 (Ab (Ab (Ao (Ac (Ak ?_)))))
 have hk3:k=3:=by have:¬k<3:=fun h=>h12 (cz.2 h);omega
 subst hk3
 obtain⟨s0,s1,s2,rfl⟩:=hL.three
 obtain⟨sa,sc,rfl,_⟩:=(hS.own 2 rfl).sl (fun _=>rfl)
 have hF:=FlE.of hL (hS.own 2 rfl) (hS.own 0 rfl) (hS.get 3 rfl)
 refine Aa (U (.lc rfl (hS.b1.agg)) (A3 (eC (.o rfl) (zS)) rfl (aP sa (some ⟨B9,0,none⟩) sc 1 s0 s1 s2 _ hF) ?_))
 rintro _ w16 ⟨ad31,cp31,rfl,hE31,uw16⟩
 replace hS:=hS.up uw16
 refine Aq (.Bt l9) rfl ?_
 rintro _ w17 ⟨B4,rfl,MB4⟩
 refine Cb (.Ca l_ rfl (.t rfl) (.t rfl) (by simp[Ip,Value.oneCell']) MB4.blk rfl) ?_
 intro w18 LB4
 have NB4:=MB4.set LB4
 replace hE31:=hE31.up NB4.up
 replace hS:=hS.Cc NB4
 refine Am (Aa (U (.build (cs:=#[vi 1,vi 5]) mj zeroValue54 Lo (.cons (.const _) (.cons (.const _) .nil)) rfl) (U (.build (cs:=#[vi 2,vi 29]) mj zeroValue54 Lo (.cons (.const _) (.cons (.const _) .nil)) rfl) (U (.build (cs:=gW.cells) underlying56 zeroValue56 R3 (.cons (.const _) (.cons (.const _) (.ct rfl (.cu rfl)))) kQ) (Aq (.Bt zeroValue56) rfl ?_)))))
 rintro _ w19 ⟨B5,rfl,MB5⟩
 refine Cb (.Ca sizeOf56 rfl (.t rfl) (.t rfl) (Sg.one _) MB5.blk rfl) ?_
 intro w20 LB5
 have NB5:=MB5.set LB5
 replace hE31:=hE31.up NB5.up
 replace hS:=hS.Cc NB5
 refine Am (Aa (U (.lc rfl (hS.b5.agg)) (Aq (.buildSlice (xs:=[gW]) (enc:=Sg.cells) (mk:=fun s=>.agg s.cells) lu sizeOf56 zeroValue56 rfl cQ (fun _=>rfl) (fun _=>rfl) (.cu rfl) rfl) rfl ?_)))
 rintro _ w21 ⟨B37,cB37,rfl,NB37,yB37,xB37⟩
 replace hS:=hS.up NB37.up
 replace hE31:=hE31.up NB37.up
 have hE37:=xB37
 refine U (.build (cs:=(Ot (some ⟨B37,0,none⟩) 1)) underlying63 zeroValue63 R5 (.cons (.const _) (.cons (.const _) (.cu rfl))) rfl) (A3 (eC (.o rfl) (zT)) rfl (gT (some ⟨B37,0,none⟩) 1 _ hE37) ?_)
 rintro _ w22 ⟨sc39,hsz,hone,rfl,uw22⟩
 replace hS:=hS.up uw22
 replace hE31:=hE31.up uw22
 refine I rfl (U (.xt rfl rfl) (U (.xt rfl rfl) (Aq (.Bt zeroValue58) rfl ?_)))
 rintro _ w23 ⟨B6,rfl,MB6⟩
 refine Cb (.Ca sizeOf58 hsz (.t rfl) (.t rfl) hone MB6.blk rfl) ?_
 intro w24 LB6
 have NB6:=MB6.set LB6
 replace hE31:=hE31.up NB6.up
 replace hS:=hS.Cc NB6
 refine LW.A rfl (Am (Aa (U (.fB 0 rfl) (U (.lb rfl (hS.b4.Ad rfl)) (U (.tr (PEv.eql (.t rfl) (.const _)) (rfl)) (I rfl (Ap (U (.fB 1 rfl) (Ap (U (.lb rfl (hS.b4.Ad rfl)) (Ap (Aq (.buildSlice (xs:=([0,1,2]:List Int)) (enc:=A6) (mk:=vi) ju jw j2 rfl cQ (fun _=>rfl) (fun _=>rfl) (.cons (.const _) (.cons (.const _) (.cons (.const _) .nil))) rfl) rfl ?_))))))))))))
 rintro _ w25 ⟨B48,cB48,rfl,NB48,yB48,xB48⟩
 replace hS:=hS.up NB48.up
 replace hE31:=hE31.up NB48.up
 have hE48:=xB48
 refine Ap (A3 (eC (.u rfl rfl) (zV)) rfl (Xy _ _ [0,1,2] [0,1,2] _ (Aw hE31) (Aw hE48) cQ cQ) ?_)
 rintro _ w26 ⟨rfl,uw26⟩
 replace hS:=hS.up uw26
 replace hE31:=hE31.up uw26
 replace hE48:=hE48.up uw26
 refine U (.pa rfl (fun hp=>(by exact .tmp rfl))) (I rfl (Ap (I rfl (U (.pa rfl (fun hp=>(by exact .tmp rfl))) (LW.A rfl (Af (Al (KW.q ?_))))))))
 exact⟨rfl,hS.Cl⟩
theorem Lg(c n:Int)(w:World)(hn:n≠0):Ret prog 6 #[vi c,vi n] w fun r w'=>r=vi (Ce c n)∧Up w w':=by
 have hW:=Up.refl w
 refine cT 13 func6 rfl (Ae (Ay (Am (Ae (I rfl (U (.lss (.t rfl) (.const _)) (Af (CW.b rfl (fun h6=>?_) (fun h6=>?_)))))))))
 ·replace h6:=dQ h6
  refine Aa (I rfl (U (.pZ (.t rfl) (.const _)) (U (.neg jy (.t rfl)) (LW.A rfl (Am (Aa (I rfl (I rfl (U (.rem (.t rfl) (.t rfl) oQ) (LW.A rfl (Af (Al (KW.q ?_)))))))))))))
  exact⟨by(rw[Ce,ap h6]),hW⟩
 replace h6:=dQ h6
 refine Ai (Ac (Ae (I rfl (I rfl (U (.rem (.t rfl) (.t rfl) oQ) (LW.A rfl (Af (Al (KW.q ?_)))))))))
 exact⟨by(rw[Ce,am (by omega)]),hW⟩
set_option maxHeartbeats 2000000 in
theorem pX(av:Option Addr)(cv:Nat)(L:List Sk)(wf t:Int)(s:Sk)(x:Int)(w:World)(hF:FlG w av none L [])(hs:L[0]?=some s)(hx:s.tl[0]?=some x):Ret prog 8 #[.agg (Cu av L.length cv none 0 0),vi wf,vi 0,vi t] w fun r w'=>r=.agg (Iz s x wf t).cells∧Up w w':=by
 obtain⟨w0,rfl,hS⟩:=W0 w
 have hlen:=hF.len
 have hl0:=(ak.1 hx).1
 refine cT 25 func8 rfl ?_
 refine Ae ?_
 refine Aq (.bA rfl) rfl ?_
 rintro _ w1 ⟨B4,rfl,NB4⟩
 have eB4:=NB4.at_
 have zB4:=NB4.size
 replace hS:=hS.Cc NB4
 change Wx.Sep _ _ _ [_]at hS
 refine Aq (.Bt zeroValue38) rfl ?_
 rintro _ w2 ⟨B8,rfl,NB8⟩
 have eB8:=NB8.at_
 have zB8:=NB8.size
 replace hS:=hS.Cc NB8
 change Wx.Sep _ _ _ [_,_]at hS
 refine Am ?_
 obtain⟨Bs,os,as_,hcs⟩:=(hF.up hS.Cl).E 0 s hs
 refine Aa ?_
 refine U (.fB 2 rfl) ?_
 refine U (.lb rfl (hS.b0.Ad rfl)) ?_
 refine U (.Ez (v':=vi ((0:Nat):Int)) (PEv.mv rfl) rfl) ?_
 refine U (.Ar j0 kh (j:=0) (.t rfl) (.t rfl) oQ as_) ?_
 refine U (.lc rfl (hcs)) ?_
 refine Aq (.Bt kz) rfl ?_
 rintro _ w3 ⟨B9,rfl,MB9⟩
 refine Cb (.Ca kh rfl (.t rfl) (.t rfl) (Sk.one _) MB9.blk rfl) ?_
 intro w4 LB9
 have NB9:=MB9.set LB9
 clear LB9 MB9
 have eB9:=NB9.at_
 have zB9:=NB9.size
 replace hS:=hS.Cc NB9
 change Wx.Sep _ _ _ [_,_,_]at hS
 refine Am ?_
 obtain⟨Bx,ox,ax,hcx⟩:=(Els.up (hF.p s (ae hs)).1 hS.Cl) 0 x hx
 refine Cz 10 kQ kQ kQ kQ kQ rfl rfl ?_
 refine J (.mv rfl) ?_
 refine J (.mv rfl) ?_
 refine J (.fB 1 rfl) ?_
 refine J (.lb rfl (hS.b2.Ad rfl)) ?_
 refine J (.Ar ju jw (j:=0) (.t rfl) (.const _) oQ ax) ?_
 refine J (.lb rfl (hcx.nth (j:=0) rfl)) ?_
 refine J (.fB 0 rfl) ?_
 refine J (.lb rfl (hS.b2.Ad rfl)) ?_
 refine J (.mv rfl) ?_
 refine J (.build (cs:=(Iz s x wf t).cells) underlying38 zeroValue38 R1 (.ct rfl (.ct rfl (.ct rfl (.ct rfl (.cons (.const _) (.cu rfl)))))) rfl) ?_
 refine HW.nil ?_
 intro w5 uw5
 have zw5:=uw5.size
 replace hS:=hS.up uw5
 refine Cb (.Ca sizeOf38 rfl (.t rfl) (.t rfl) (GAct.one _) hS.b1 rfl) ?_
 intro w6 Nw6
 have zw6:=Nw6.size
 replace hS:=hS.D9 1 rfl Nw6
 change Wx.Sep _ _ _ [_,_,_]at hS
 refine Af (Al ?_)
 refine Fz rfl rfl isAgg38 sizeOf38 rfl (hS.b1.agg) ⟨_,rfl,?_⟩
 exact⟨rfl,hS.Cl⟩
set_option maxHeartbeats 1000000 in
theorem pY(ad:Option Addr)(cp:Nat)(xs:List I6)(hxs:∀y∈xs,Yy y)(lot first second time:Int)(hlot:Yu lot)(hfirst:Yu first)(hsecond:Yu second)(htime:Yu time)(w:World)(hE:Els w ad 6 I6.cells xs)(hG:GM w)(hlaw_:∀(L:List Sk)(lt fs sn tm:Int),(1≤lt∧lt≤2)→(0≤fs∧fs<80)→(0≤sn∧sn<80)→(0≤tm∧tm<100)→(1≤L.length∧L.length≤8)→MkS L.length L→TopLaw L lt fs sn tm):Ret prog 3 #[.slice ad xs.length cp,vi lot,vi first,vi second,vi time] w fun r w'=>r=.bool true∧Up w w':=by
 obtain⟨w0,rfl,hS⟩:=W0 w
 refine cT 103 func3 rfl ?_
 refine Ae (Ay (Am (Aa ?_)))
 refine A3 (eC .nil (DG)) rfl (gU _) ?_
 rintro _ w1 ⟨rfl,uw1⟩
 have zw1:=uw1.size
 replace hS:=hS.up uw1
 refine LW.A rfl (Am (Aa (I rfl ?_)))
 refine A3 (eC (.o rfl) (DH)) rfl (pS ad cp xs hxs _ (Els.up hE hS.Cl)) ?_
 rintro _ w2 ⟨av,cv,L,v,rfl,hlr,hMk,hNs⟩
 have zN:=hNs.size
 replace hS:=hS.join hNs
 change Wx.Sep _ _ _ [_,_]at hS
 obtain⟨s,hs⟩:=An (xs:=L) (i:=0) hlr.1
 have hsm:=(hMk.yV hlr).ok s (ae hs)
 obtain⟨x,hx⟩:=An (xs:=s.tl) (i:=0) hsm.tl.1
 refine I rfl (U (.xt rfl rfl) (U (.xt rfl rfl) ?_))
 refine Aq (.Bt k9) rfl ?_
 rintro _ w3 ⟨B13,rfl,MB13⟩
 refine LW.A rfl ?_
 refine Cb (.Ca lv rfl (.t rfl) (.t rfl) (G7 _ _ _ _ _ _) MB13.blk rfl) ?_
 intro w4 LB13
 have NB13:=MB13.set LB13
 clear LB13 MB13
 have eB13:=NB13.at_
 have zB13:=NB13.size
 replace hS:=hS.Cc NB13
 change Wx.Sep _ _ _ [_,_,_]at hS
 refine Am (Aa (I rfl ?_))
 refine A3 (eC (.ct rfl (.cons (.const _) .nil)) (zE)) rfl (Lg lot 2 _ cQ) ?_
 rintro _ w5 ⟨rfl,uw5⟩
 have zw5:=uw5.size
 replace hS:=hS.up uw5
 have hplt:=Ed (c:=lot) (n:=2) hlot cQ
 obtain⟨lt,elt⟩:∃z,z=1+Ce lot 2:=⟨_,rfl⟩
 refine U (.Ez (v':=vi lt) (PEv.add (.const _) (.t rfl) oQ oQ) (aq vi elt.symm)) ?_
 refine LW.A rfl (Am (Aa (I rfl ?_)))
 refine A3 (eC (.ct rfl (.cons (.const _) .nil)) (zE)) rfl (Lg first 80 _ cQ) ?_
 rintro _ w6 ⟨rfl,uw6⟩
 have zw6:=uw6.size
 replace hS:=hS.up uw6
 have hpfs:=Ed (c:=first) (n:=80) hfirst cQ
 obtain⟨fs,efs⟩:∃z,z=Ce first 80:=⟨_,rfl⟩
 rw[←efs]at hpfs⊢
 refine LW.A rfl (Am (Aa (I rfl ?_)))
 refine A3 (eC (.ct rfl (.cons (.const _) .nil)) (zE)) rfl (Lg second 80 _ cQ) ?_
 rintro _ w7 ⟨rfl,uw7⟩
 have zw7:=uw7.size
 replace hS:=hS.up uw7
 have hpsn:=Ed (c:=second) (n:=80) hsecond cQ
 obtain⟨sn,esn⟩:∃z,z=Ce second 80:=⟨_,rfl⟩
 rw[←esn]at hpsn⊢
 refine LW.A rfl (Am (Aa (I rfl ?_)))
 refine A3 (eC (.ct rfl (.cons (.const _) .nil)) (zE)) rfl (Lg time 100 _ cQ) ?_
 rintro _ w8 ⟨rfl,uw8⟩
 have zw8:=uw8.size
 replace hS:=hS.up uw8
 have hptm:=Ed (c:=time) (n:=100) htime cQ
 obtain⟨tm,etm⟩:∃z,z=Ce time 100:=⟨_,rfl⟩
 rw[←etm]at hptm⊢
 refine LW.A rfl (Am (Aa (I rfl (I rfl ?_))))
 refine U (.build (cs:=(Lx lt).cells) ke j4 Dy (.cons (.const _) (.cons (.const _) (.cons (.const _) (.ct rfl (.cons (.const _) (.cons (.const _) .nil)))))) rfl) ?_
 refine I rfl ?_
 refine U (.build (cs:=(Jv 2 fs).cells) ke j4 Dy (.cons (.const _) (.cons (.const _) (.cons (.const _) (.cons (.const _) (.cu rfl))))) rfl) ?_
 refine I rfl ?_
 refine U (.build (cs:=(Jv 4 sn).cells) ke j4 Dy (.cons (.const _) (.cons (.const _) (.cons (.const _) (.cons (.const _) (.cu rfl))))) rfl) ?_
 refine Aq (.buildSlice (xs:=[Lx lt,Jv 2 fs,Jv 4 sn]) (enc:=Fact.cells) (mk:=fun f=>.agg f.cells) jv jz j4 rfl cQ (fun _=>rfl) (fun _=>rfl) (.ct rfl (.ct rfl (.cu rfl))) rfl) rfl ?_
 rintro _ w9 ⟨B43,cB43,rfl,NB43,yB43,xB43⟩
 have eB43:=NB43.at_
 have zB43:=NB43.size
 replace hS:=hS.up NB43.up
 have hE43:=xB43
 refine Aq (.D7 (enc:=Fact.cells) (bytes:=160) (i:=Tryz.t33) jv kQ rfl rfl rfl rfl cQ (fun _=>rfl) Fact.one (.t rfl) (.t rfl) (hS.own 1 rfl) (Aw hE43) (by have:=Hf (bs (Dr L));simp[maxLen];omega) (by have:=Hf (bs (Dr L));simp;omega)) rfl ?_
 intro v44 w10 Gw10
 have zw10:=Gw10.fr.size
 replace hS:=hS.F9 1 rfl Gw10
 change Wx.Sep _ _ _ [_,_,_]at hS
 obtain⟨ad44,cp44,rfl,_⟩:=(hS.own 1 rfl).sl (fun _=>rfl)
 refine LW.A rfl (Am (Aa (I rfl ?_)))
 refine A3 (eC (.ct rfl (.cons (.const _) .nil)) (CY)) rfl (kT ad44 cp44 (Gc (bs (Dr L)) lt fs sn) 0 _ (Cm (hS.own 1 rfl) (fun _=>rfl)) (by have:=Hf (bs (Dr L));simp[Gc];omega)) ?_
 rintro _ w11 ⟨bc0,rfl,hC46,hb46,uw11⟩
 have zw11:=uw11.size
 replace hS:=hS.add uw11 (A':=Rs bc0 (Lk (Gc (bs (Dr L)) lt fs sn) 0)) (hC46) (Uc hb46)
 change Wx.Sep _ _ _ [_,_,_,_]at hS
 have hsz46:bc0.size=11:=BaseC.size hC46
 have hon46:=BaseC.one hC46
 clear hC46
 refine Aq (.Bt zeroValue35) rfl ?_
 rintro _ w12 ⟨B14,rfl,MB14⟩
 refine Cb (.Ca k6 hsz46 (.t rfl) (.t rfl) hon46 MB14.blk rfl) ?_
 intro w13 LB14
 have NB14:=MB14.set LB14
 clear LB14 MB14
 have eB14:=NB14.at_
 have zB14:=NB14.size
 replace hS:=hS.Cc NB14
 change Wx.Sep _ _ _ [_,_,_,_,_]at hS
 refine Am (Aa (I rfl (I rfl ?_)))
 refine U (.build (cs:=(Ns lt).cells) ke j4 Dy (.cons (.const _) (.cons (.const _) (.cons (.const _) (.cons (.const _) (.cons (.const _) (.ct rfl (.cons (.const _) (.cons (.const _) .nil)))))))) rfl) ?_
 refine Aq (.buildSlice (xs:=[Ns lt]) (enc:=Fact.cells) (mk:=fun f=>.agg f.cells) jv jz j4 rfl cQ (fun _=>rfl) (fun _=>rfl) (.cu rfl) rfl) rfl ?_
 rintro _ w14 ⟨B50,cB50,rfl,NB50,yB50,xB50⟩
 have eB50:=NB50.at_
 have zB50:=NB50.size
 replace hS:=hS.up NB50.up
 have hE50:=xB50
 refine Aq (.D7 (enc:=Fact.cells) (bytes:=160) (i:=Tryz.t33) jv kQ rfl rfl rfl rfl cQ (fun _=>rfl) Fact.one (.t rfl) (.t rfl) (hS.own 1 rfl) (Aw hE50) (by have:=Hf (bs (Dr L));simp[maxLen];omega) (by have:=Hf (bs (Dr L));simp;omega)) rfl ?_
 intro v51 w15 Gw15
 have zw15:=Gw15.fr.size
 replace hS:=hS.F9 1 rfl Gw15
 change Wx.Sep _ _ _ [_,_,_,_,_]at hS
 obtain⟨ad51,cp51,rfl,_⟩:=(hS.own 1 rfl).sl (fun _=>rfl)
 refine A3 (eC (.ct rfl (.cons (.const _) .nil)) (CY)) rfl (kT ad51 cp51 (Jq (bs (Dr L)) lt fs sn) 1 _ (Cm (hS.own 1 rfl) (fun _=>rfl)) (by have:=Hf (bs (Dr L));simp[Gc,Jq];omega)) ?_
 rintro _ w16 ⟨bc1,rfl,hC52,hb52,uw16⟩
 have zw16:=uw16.size
 replace hS:=hS.add uw16 (A':=Rs bc1 (Lk (Jq (bs (Dr L)) lt fs sn) 1)) (hC52) (Uc hb52)
 change Wx.Sep _ _ _ [_,_,_,_,_,_]at hS
 have hsz52:bc1.size=11:=BaseC.size hC52
 have hon52:=BaseC.one hC52
 clear hC52
 refine Aq (.Bt zeroValue35) rfl ?_
 rintro _ w17 ⟨B15,rfl,MB15⟩
 refine Cb (.Ca k6 hsz52 (.t rfl) (.t rfl) hon52 MB15.blk rfl) ?_
 intro w18 LB15
 have NB15:=MB15.set LB15
 clear LB15 MB15
 have eB15:=NB15.at_
 have zB15:=NB15.size
 replace hS:=hS.Cc NB15
 change Wx.Sep _ _ _ [_,_,_,_,_,_,_]at hS
 refine Am (Ae (Ay (Af (Ah ?_))))
 refine A5 (σ:=Nat) (fun s w=>(1≤s∧s≤4)∧(Wx.Sep no w0 w [pN av L,Az 33 19 Fact.cells (.slice ad51 (Jq (bs (Dr L)) lt fs sn).length cp51) (Jq (bs (Dr L)) lt fs sn),A4 B13 (Cu av L.length cv none 0 0) 28,Rs bc0 (Lk (Gc (bs (Dr L)) lt fs sn) 0),A4 B14 bc0 35,Rs bc1 (Lk (Jq (bs (Dr L)) lt fs sn) 1),A4 B15 bc1 35])) (fun s=>[(16,.eq (vi (s:Int)))]) ([(1,.eq _),(2,.eq _),(3,.eq _),(4,.eq _),(11,.eq _),(13,.eq _),(14,.eq _),(15,.eq _)]) (fun s=>4-s) 1 ?_ tQ ?_
 ·exact⟨cQ,hS⟩
 rintro k w19 ⟨hk,hS⟩
 refine Ak (Ae (I rfl ?_))
 refine U (.leq (.t rfl) (.const _)) ?_
 refine Af ?_
 refine CW.b rfl (fun h54=>?_) (fun h54=>?_)
 ·replace h54:=dQ h54
  refine Ai (Ac (Ak (Ah (Ak ?_))))
  have hP:=(hlaw_ L lt fs sn tm oQ hpfs hpsn hptm hlr hMk).per s x k hs hx hk.1 oQ
  refine Aa ?_
  refine U (.lc rfl (hS.b2.agg)) ?_
  refine I rfl (I rfl ?_)
  refine A3 (eC (.ct rfl (.ct rfl (.cons (.const _) (.cu rfl)))) (DI)) rfl (pX av cv L k tm s x _ (hS.get 0 rfl) hs hx) ?_
  rintro _ w20 ⟨rfl,uw20⟩
  have zw20:=uw20.size
  replace hS:=hS.up uw20
  refine Aq (.Bt zeroValue38) rfl ?_
  rintro _ w21 ⟨B17,rfl,MB17⟩
  refine Cb (.Ca sizeOf38 rfl (.t rfl) (.t rfl) (GAct.one _) MB17.blk rfl) ?_
  intro w22 LB17
  have NB17:=MB17.set LB17
  clear LB17 MB17
  have eB17:=NB17.at_
  have zB17:=NB17.size
  replace hS:=hS.Cc NB17
  change Wx.Sep _ _ _ [_,_,_,_,_,_,_,_]at hS
  refine Am (Aa ?_)
  refine U (.Hj lq k6 (hsz46) (.t rfl) (hS.b4.agg)) ?_
  refine I rfl (I rfl ?_)
  refine A3 (eC (.ct rfl (.ct rfl (.cu rfl))) (zP)) rfl (Vc bc0 (Lk (Gc (bs (Dr L)) lt fs sn) 0) k tm _ (hS.get 3 rfl) (by have:=hP.m0.hLo;omega)) ?_
  rintro _ w23 ⟨e65,uw23⟩
  have zw23:=uw23.size
  replace hS:=hS.up uw23
  rw[hP.lot_]at e65
  subst e65
  refine I rfl (U (.xt rfl rfl) (U (.xt rfl rfl) (LW.A rfl (LW.A rfl (Am ?_)))))
  obtain⟨z0,ez0⟩:∃z:Int,z=0:=⟨_,rfl⟩
  refine Aa ?_
  refine U (.Ez (v':=vi z0) (PEv.assign (.const _)) (aq vi ez0.symm)) ?_
  refine Af ?_
  refine Ex (fun a1 W=>Ag 103 [] ([(1,.eq (vi lt)),(2,.eq (vi fs)),(3,.eq (vi sn)),(4,.eq (vi tm)),(11,.eq (.bool true)),(13,.eq (.pointer (some ⟨B13,0,none⟩))),(14,.eq (.pointer (some ⟨B14,0,none⟩))),(15,.eq (.pointer (some ⟨B15,0,none⟩))),(16,.eq (vi (k:Int))),(17,.eq (.pointer (some ⟨B17,0,none⟩))),(20,.eq (vi (Ol (Lk (Gc (bs (Dr L)) lt fs sn) 0) (Iz s x k tm))))]) a1 W∧Wx.Sep no w0 W [pN av L,Az 33 19 Fact.cells (.slice ad51 (Jq (bs (Dr L)) lt fs sn).length cp51) (Jq (bs (Dr L)) lt fs sn),A4 B13 (Cu av L.length cv none 0 0) 28,Rs bc0 (Lk (Gc (bs (Dr L)) lt fs sn) 0),A4 B14 bc0 35,Rs bc1 (Lk (Jq (bs (Dr L)) lt fs sn) 1),A4 B15 bc1 35,A4 B17 (Iz s x k tm).cells 38]) ?_ ?_
  ·skip
   refine Ae (I rfl (I rfl ?_))
   refine U (.eql (.t rfl) (.t rfl)) ?_
   refine I rfl ?_
   refine F5 rfl rfl ?_
   refine F5 rfl rfl ?_
   refine LW.gr rfl (fun hc=>PEv.lss vQ vQ) ?_
   refine LW.gr rfl (fun hc=>PEv.move vQ) ?_
   refine Jz rfl rfl rfl rfl rfl rfl rfl (fun hc=>PEv.mv rfl) ?_
   refine Jz rfl rfl rfl rfl rfl rfl rfl (fun hc=>PEv.mv rfl) ?_
   refine Jz rfl rfl rfl rfl rfl rfl rfl (fun hc=>PEv.lss vQ vQ) ?_
   refine LW.gr rfl (fun hc=>PEv.D5 vQ (fun hp=>wQ)) ?_
   refine U (.pa rfl (fun hp=>wQ)) ?_
   refine Af ?_
   refine CW.b rfl (fun h80=>?_) (fun h80=>?_)
   ·replace h80:=dQ h80
    have hw0:=hP.yes (by simpa using h80)
    refine Aa ?_
    refine U (.Ez (v':=vi (Ol (Lk (Gc (bs (Dr L)) lt fs sn) 0) (Iz s x k tm))) (PEv.assign (.const _)) (aq vi hw0.symm)) ?_
    refine LW.nil ?_
    exact fun a ha=>⟨ha.sub tQ,hS⟩
   replace h80:=dQ h80
   have hw0:=hP.no (by simpa using h80)
   rw[show z0=Ol (Lk (Gc (bs (Dr L)) lt fs sn) 0) (Iz s x k tm)from ez0.trans hw0.symm]
   refine Ai ?_
   exact fun a ha=>⟨ha.sub tQ,hS⟩
  rintro a1 w24 ⟨ha,hS⟩
  revert a1
  show CW none _ _ _ _ _ _ _ _
  refine Ae ?_
  refine U (.Hj lq k6 (hsz46) (.t rfl) (hS.b4.agg)) ?_
  refine U (.lc rfl ((hS.blk 7 rfl).agg)) ?_
  refine A3 (eC (.u rfl rfl) (uI)) rfl (dM bc0 (Lk (Gc (bs (Dr L)) lt fs sn) 0) (Iz s x k tm) L _ (hS.get 3 rfl) hP.m0 (hG.up hS.Cl)) ?_
  rintro _ w25 ⟨rfl,uw25⟩
  have zw25:=uw25.size
  replace hS:=hS.up uw25
  refine I rfl ?_
  refine U (.fa (PEv.neq (.t rfl) (.t rfl)) (by simp)) ?_
  refine I rfl ?_
  refine Ap ?_
  refine U (.Hj lq k6 (hsz52) (.t rfl) ((hS.blk 6 rfl).agg)) ?_
  refine Ap ?_
  refine U (.lc rfl ((hS.blk 7 rfl).agg)) ?_
  refine Ap ?_
  refine A3 (eC (.u rfl rfl) (uI)) rfl (dM bc1 (Lk (Jq (bs (Dr L)) lt fs sn) 1) (Iz s x k tm) L _ (hS.get 5 rfl) hP.m1 (hG.up hS.Cl)) ?_
  rintro _ w26 ⟨rfl,uw26⟩
  have zw26:=uw26.size
  replace hS:=hS.up uw26
  refine Ap ?_
  refine U (.fa (PEv.neq (.t rfl) (.const _)) (by rw[hP.gone];rfl)) ?_
  refine U (.po rfl (fun hp=>wQ)) ?_
  refine I rfl ?_
  refine Ap ?_
  refine U (.Hj lq k6 (hsz46) (.t rfl) (hS.b4.agg)) ?_
  refine Ap ?_
  refine U (.lc rfl ((hS.blk 7 rfl).agg)) ?_
  refine Ap ?_
  refine A3 (eC (.u rfl rfl) (uJ)) rfl (T4 bc0 (Lk (Gc (bs (Dr L)) lt fs sn) 0) (Iz s x k tm) _ (hS.get 3 rfl) (by have:=hP.m0.hHo;omega) (by have:=hP.m0.hRe;omega) (by have:=hP.m0.hLo;omega)) ?_
  rintro v95 w27 ⟨hO95,uw27⟩
  have zw27:=uw27.size
  replace hS:=hS.up uw27
  obtain⟨ad95,cp95,rfl,_⟩:=hO95.sl (fun _=>rfl)
  refine Ap ?_
  refine U (.Cn ju (.t rfl)) ?_
  refine Ap ?_
  refine U (.eql (.t rfl) (.const _)) ?_
  refine Ap ?_
  refine I rfl ?_
  refine Ap ?_
  refine U (.gtr (.t rfl) (.const _)) ?_
  refine Ap ?_
  refine U (.fa (iC l1 (.t rfl) (.t rfl)) (by rw[hP.one];simp)) ?_
  refine U (.po rfl (fun hp=>wQ)) ?_
  refine Af ?_
  refine CW.f rfl ?_
  refine Ai (Aj (Ac (Aa (I rfl ?_))))
  refine U (.ic rfl oQ) ?_
  refine LW.A rfl (LW.nil (Av ?_))
  exact⟨k+1,⟨by omega,hS.take 7⟩,tQ,by first|omega|(dsimp only;omega)⟩
 replace h54:=dQ h54
 refine A8 (Ab (Ab (Ao (Ac (Ae (I rfl (LW.A rfl (Af (Al ?_)))))))))
 refine KW.q ?_
 exact⟨rfl,hS.Cl⟩
end Go.Proofs.YtnocngnlpgikaaaGreatDoor
