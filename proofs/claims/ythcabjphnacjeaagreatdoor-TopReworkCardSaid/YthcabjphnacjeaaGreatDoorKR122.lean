import Derived.Test.YthcabjphnacjeaaGreatDoorKR121
namespace Go.Wx
section
variable {P:Program}{n:Nat}{l:Env}{w:World}{fn:Func}{RR:Ending→World→Prop}
theorem qN{t u:Tmp}{T:TypeId}{B k:Nat}{cs:Array Value}{x:Value}(hr:fn.results=#[.tmp u,.cell t T])(hv:lk l t=some (.eq (.pointer (some ⟨B,0,none⟩))))(hu:lk l u=some (.eq x))(hT:∀w,(isAgg T).run P w=.ok true w)(hs:∀w,(sizeOf T).run P w=.ok k w)(hk:cs.size=k)(hc:AggAt w B 0 cs)
   (hR:RR (.returned (.tuple #[x,.agg cs])) w):KW n [] (bodyPost P fn RR .ret) l w:=fun a ha=>
 ⟨ha.defers,.tuple #[x,.agg cs],by
   have h1:a.tmps.getD t undef=.pointer (some ⟨B,0,none⟩):=ha.val _ _ hv
   have h2:a.tmps.getD u undef=x:=ha.val _ _ hu
   rw[bl]at h1 h2
   simp[results,hr,h1,h2,asAddr,Fl hT hs hk hc],hR⟩
end
def Xi(t:ByteArray):Fact:={ Jj with Kind:=5,Version:=1,Product:=1,Text:=t }
def J9(k:Nat):Fact:={ Jj with Kind:=4,Version:=1,Wafer:=k,Lot:=1+((k/3:Nat):Int),Product:=1 }
def Mw(m:Nat):Fact:={ Jj with Kind:=6,ID:=((m:Nat):Int)+1,Version:=1,Until:=1000000,Tool:=((m/10:Nat):Int),Chamber:=((m/5%2:Nat):Int),Recipe:=((m%5+1:Nat):Int),Revision:=1 }
def Vu(k:Nat):List Fact:=((List.range k).drop 1).map J9
def Uk(t:ByteArray)(k:Nat):List Fact:=Xi t::Vu k
def Qp(t:ByteArray)(m:Nat):List Fact:=Uk t 4++(List.range m).map Mw
def Gk(t:ByteArray):List Fact:=Qp t 120
theorem eI{k:Nat}(h:1≤k):Vu (k+1)=Vu k++[J9 k]:=by
 unfold Vu
 rw[i4,List.drop_append_of_le_length (by rw[j6];exact h),cm]
 rfl
theorem lI(t:ByteArray)(m:Nat):Qp t (m+1)=Qp t m++[Mw m]:=by
 unfold Qp
 rw[i4,cm,c_]
 rfl
theorem aI(t:ByteArray)(k:Nat):(Uk t k).length=1+(k-1):=by simp[Uk,Vu];omega
theorem aJ(t:ByteArray)(m:Nat):(Qp t m).length=4+m:=by rw[Qp,am,aI];simp
theorem lJ(t:ByteArray){k:Nat}(h:1≤k):Uk t (k+1)=Uk t k++[J9 k]:=by rw[Uk,eI h];rfl
theorem lK(t:ByteArray):Uk t 4=Qp t 0:=(dq _).symm
theorem IZ{k:Nat}(h:k≤3):IntKind.i64.wrap (Int.tdiv (k:Int) 3)=((k/3:Nat):Int):=by
 rcases(by omega:k=0∨k=1∨k=2∨k=3)with rfl|rfl|rfl|rfl<;>rfl
theorem Ot{α:Type}{w w':World}{ad:Option Addr}{k:Nat}{enc:α→Array Value}{l:List α}(h:Els w ad k enc l)(hk:∀i,(l≠[]∧∃o,ad=some ⟨i,o,none⟩)→i<w.heap.size→w'.heap[i]?=w.heap[i]?):Els w' ad k enc l:=fun i x hx=>by
 obtain⟨B,o,e,hc⟩:=h i x hx
 exact⟨B,o,e,fun j v hv=>(World.cell?_of_block (a:=⟨B,o+i*k+j,none⟩) (hk B ⟨fun e'=>(by rw[e']at hx;cases hx),o,e⟩ (World.block_lt_of_cell? _ _ (hc j v hv)))).trans (hc j v hv)⟩
theorem Xj{α:Type}{w:World}{ad:Option Addr}{k:Nat}{enc:α→Array Value}{l:List α}(h:Els w ad k enc l)(hp:∀x,∃v,(enc x)[0]?=some v){i:Nat}(hi:l≠[]∧∃o,ad=some ⟨i,o,none⟩):i<w.heap.size:=by
 obtain⟨hl,o,e⟩:=hi
 cases l with
 |nil=>exact absurd rfl hl
 |cons x r=>
   obtain⟨B,o',e',hc⟩:=h 0 x rfl
   obtain⟨v,hv⟩:=hp x
   cases e.symm.trans e'
   exact World.block_lt_of_cell? _ _ (hc 0 v hv)
def lL(sa:Option Addr)(L:List Sk):Asr where
 foot:=fun i=>(L≠[]∧∃o,sa=some ⟨i,o,none⟩)∨∃s∈L,(s.tl≠[]∧∃o,s.ta=some ⟨i,o,none⟩)∨(s.nx≠[]∧∃o,s.na=some ⟨i,o,none⟩)
 holds:=fun w=>FlG w sa none L []
 keep w w' h k _:=⟨h.len,Ot h.E (fun i hi=>k i (.inl hi)),h.g,fun s hs=>⟨Ot (h.p s hs).1 (fun i hi=>k i (.inr ⟨s,hs,.inl hi⟩)),Ot (h.p s hs).2 (fun i hi=>k i (.inr ⟨s,hs,.inr hi⟩))⟩,fun i x h=>by simp at h,h.wl,h.wn⟩
 lt w h i:=fun hi=>by
   rcases hi with hi|⟨s,hs,hi|hi⟩
   · exact Xj h.E (fun x=>⟨_,rfl⟩) hi
   · exact Xj (h.p s hs).1 (fun x=>⟨_,rfl⟩) hi
   exact Xj (h.p s hs).2 (fun x=>⟨_,rfl⟩) hi
theorem iE{b:Nat}{sa:Option Addr}{L:List Sk}(h:FlB b sa L)(i:Nat)(hi:(lL sa L).foot i):b≤i:=by
 rcases hi with⟨_,o,e⟩|⟨s,hs,⟨_,o,e⟩|⟨_,o,e⟩⟩
 · exact h.1 i o e
 · exact(h.2 s hs).1 i o e
 exact(h.2 s hs).2 i o e
def aK(b:Base)(p:Int):Option Fact:=b.Flows.find? fun f=>decide (f.Product=p)
theorem Same.rT{L M:List Sk}(h:Same L M)(hF:Fwd L):Fwd M:=
 ⟨fun i t ht=>by obtain⟨s,hs,e⟩:=h.at_ ht;rw[show t.bk=s.bk from bh (fun v=>v.2.2.2.2.2.1) e];exact hF.b i s hs,
  fun i t ht x hx=>by obtain⟨s,hs,e⟩:=h.at_ ht;rw[show t.nx=s.nx from bh (fun v=>v.2.2.2.2.1) e]at hx;rw[h.len];exact hF.n i s hs x hx,
  fun t ht=>by obtain⟨i,hi⟩:=eh.1 ht;obtain⟨s,hs,e⟩:=h.at_ hi;rw[show t.nx=s.nx from bh (fun v=>v.2.2.2.2.1) e];exact hF.l s (ai hs),by rw[h.len];exact hF.len⟩
theorem qO{l:List Int}{k:Nat}{n x:Int}(h:n∉l.take k)(hx:l[k]?=some x)(e:¬n=x):n∉l.take (k+1):=by
 rw[Da hx]
 exact fun hm=>(bt.1 hm).elim h (fun hm=>e (bn.1 hm))
structure Rsn where
 num:Int
 fn:Nat
 lb:Array Value
 yes:Bool
def Rsn.cells(r:Rsn):Array Value:=#[vi r.num,.func (.func r.fn) #[] r.lb]
theorem Rsn.one(r:Rsn):r.cells.all (·.oneCell')=true:=by simp[Rsn.cells,Value.oneCell']
abbrev qP(rs:List Rsn):Type:={r:Rsn//r∈rs∧r.yes=true}
structure Kep(G:World→Prop)(w:World):Prop where
 g:G w
 u:∀W W',G W→Up W W'→G W'
theorem Kep.up{G:World→Prop}{w w':World}(h:Kep G w)(u:Up w w'):Kep G w':=⟨h.u _ _ h.g u,h.u⟩
theorem FlK.mono{b b':Nat}{w:World}{sa:Option Addr}{L:List Sk}(h:FlK b w sa L)(hb:b'≤b):FlK b' w sa L:=
 ⟨h.g,fun B o e=>b6 hb (h.b.1 B o e),fun s hs=>⟨fun B o e=>b6 hb ((h.b.2 s hs).1 B o e),fun B o e=>b6 hb ((h.b.2 s hs).2 B o e)⟩⟩
theorem Sl.kept{α:Type}{w w':World}{v:Go.Value}{k:Nat}{enc:α→Array Go.Value}{xs:List α}(h:Sl w v k enc xs)(hk:∀i,v.ownBlock=some i→xs≠[]→i<w.heap.size→w'.heap[i]?=w.heap[i]?):Sl w' v k enc xs:=by
 obtain⟨ad,c,rfl,he⟩:=h
 refine⟨ad,c,rfl,fun i x hx=>?_⟩
 obtain⟨B,o,e,ha⟩:=he i x hx
 refine⟨B,o,e,fun j v hv=>?_⟩
 have hc:=ha j v hv
 have hl:B<w.heap.size:=block_lt_of_cell hc
 have hb:=hk B (by rw[e];rfl) (fun e=>by rw[e]at hx;simp at hx) hl
 unfold World.cell? at hc⊢
 rw[hb];exact hc
def qQ(bc:Array Go.Value)(b:Base)(i:Nat):Prop:=∃(j:Nat)(v:Go.Value),bc[j]?=some v∧v.ownBlock=some i∧Kw b j≠[]
theorem BaseC.kept{w w':World}{bc:Array Go.Value}{b:Base}(h:BaseC w bc b)(hk:∀i,qQ bc b i→i<w.heap.size→w'.heap[i]?=w.heap[i]?):BaseC w' bc b:=by
 obtain⟨v0,v1,v2,v3,v4,v5,v6,v7,v8,v9,v10,rfl,h0,h1,h2,h3,h4,h5,h6,h7,h8,h9,h10⟩:=h
 exact⟨v0,v1,v2,v3,v4,v5,v6,v7,v8,v9,v10,rfl,Sl.kept h0 fun i hi hn=>hk i ⟨0,v0,rfl,hi,hn⟩,Sl.kept h1 fun i hi hn=>hk i ⟨1,v1,rfl,hi,hn⟩,Sl.kept h2 fun i hi hn=>hk i ⟨2,v2,rfl,hi,hn⟩,Sl.kept h3 fun i hi hn=>hk i ⟨3,v3,rfl,hi,hn⟩,Sl.kept h4 fun i hi hn=>hk i ⟨4,v4,rfl,hi,hn⟩,Sl.kept h5 fun i hi hn=>hk i ⟨5,v5,rfl,hi,hn⟩,Sl.kept h6 fun i hi hn=>hk i ⟨6,v6,rfl,hi,hn⟩,Sl.kept h7 fun i hi hn=>hk i ⟨7,v7,rfl,hi,hn⟩,Sl.kept h8 fun i hi hn=>hk i ⟨8,v8,rfl,hi,hn⟩,Sl.kept h9 fun i hi hn=>hk i ⟨9,v9,rfl,hi,hn⟩,Sl.kept h10 fun i hi hn=>hk i ⟨10,v10,rfl,hi,hn⟩⟩
theorem BaseC.KA{w:World}{bc:Array Go.Value}{b:Base}(h:BaseC w bc b):∀i,qQ bc b i→i<w.heap.size:=by
 rintro i ⟨j,v,hv,hi,hn⟩
 by_cases hj:j<11
 · obtain⟨v',hv',ad,c,rfl,he⟩:=h.at_ hj
   rw[hv]at hv'
   cases hv'
   obtain⟨x,hx⟩:∃x,(Kw b j)[0]?=some x:=⟨_,cb (f5.2 hn)⟩
   obtain⟨B,o,e,ha⟩:=he 0 x hx
   subst e
   have hB:B=i:=dc hi
   have hc:=ha 0 (vi x.Kind) rfl
   have:=block_lt_of_cell hc
   exact hB▸this
 exact absurd (Vi b hj) hn
def qR(bc:Array Go.Value)(b:Base):Asr:=⟨qQ bc b,fun w=>BaseC w bc b,fun _ _ h k _=>h.kept k,fun _ h=>h.KA⟩
theorem lM{bc:Array Go.Value}{b:Base}{base:Nat}(h:gL base bc):∀i,(qR bc b).foot i→base≤i:=fun i⟨j,v,hv,hi,_⟩=>h j v hv i hi
def aL(av:Option Addr)(n cv:Nat)(hv:Value):Array Value:=#[vi 2,vi 5,.slice av n cv,.slice none 0 0,.bool true,hv]
theorem uX(av:Option Addr)(n cv:Nat)(ah:Option Addr)(m ch:Nat):(aL av n cv (.slice ah m ch)).all (·.oneCell')=true:=by simp[aL,Value.oneCell']
def Xk(l:List Fact)(i:Nat):Int:=(l.getD i Jj).Step
theorem Gt{l:List Fact}{i:Nat}{x:Fact}(h:l[i]?=some x):Xk l i=x.Step:=by unfold Xk;rw[cn,h];rfl
def Qg(l:List Fact)(j bk:Int):Nat→Nat
 |0=>0
 |k+1=>Qg l j bk k+if 0<k∧Xk l (k-1)=j∧Xk l k=bk then 1 else 0
theorem uY(l:List Fact)(j bk:Int):Qg l j bk 1=0:=rfl
theorem qS(l:List Fact)(j bk:Int):∀k,Qg l j bk k≤k
 |0=>bi _
 |k+1=>by have:=qS l j bk k;unfold Qg;split<;>omega
def Jo(s:Sk)(l:List Fact)(j:Nat):List Int:=if 0≤s.bk∧(Qg l j s.bk l.length:Int)<s.lm then s.bk::s.nx else s.nx
theorem lN{l:List Int}{x:Int}(ha:l.Pairwise (· <·))(hx:∀y∈l,x<y):(l++[x]).mergeSort (fun a b=>decide (a≤b))=x::l:=by
 have hs:(x::l).Pairwise fun a b=>decide (a≤b)=true:=dz.2 ⟨fun y hy=>bj (Int.le_of_lt (hx y hy)),ha.imp fun h=>bj (Int.le_of_lt h)⟩
 refine List.Perm.eq_of_pairwise (le:=fun a b:Int=>decide (a≤b)=true) (fun a b _ _ h1 h2=>?_) (jl (fun a b c h1 h2=>?_) (fun a b=>?_) _) hs ((jv _ _).trans jr)
 · have:=b8 h1
   have:=b8 h2
   omega
 · have:=b8 h1
   have:=b8 h2
   exact bj oQ
 simp only[gc,ge];omega
def zW(hv:Value):Array Value:=#[vi 0,vi 0,.slice none 0 0,.slice none 0 0,.bool false,hv]
def JA(av:Option Addr)(n cv:Nat)(hv:Value):Array Value:=#[vi 2,vi 5,.slice av n cv,.slice none 0 0,.bool false,hv]
theorem qT(ah:Option Addr)(m ch:Nat):(zW (.slice ah m ch)).all (·.oneCell')=true:=by simp[zW,Value.oneCell']
def Nq(L:List Sk)(l:List Fact):List Int:=match l.getLast? with
 |none=>[0]
 |some p=>match L[p.Step.toNat]? with
   |some s=>Jo s l p.Step.toNat
   |none=>[]
def Ou(L:List Sk)(l:List Fact):Prop:=∀p∈l,0≤p.Step∧p.Step<L.length
theorem aM{L:List Sk}{l:List Fact}{p:Fact}{s:Sk}{j:Nat}(hp:l[l.length-1]?=some p)(_:1≤l.length)(hj:p.Step=(j:Int))(hs:L[j]?=some s):Nq L l=Jo s l j:=by
 unfold Nq
 rw[List.getLast?_eq_getElem?,hp]
 dsimp only
 rw[hj,show((j:Nat):Int).toNat=j from rfl,hs]
theorem lO(s:Sk)(l:List Fact)(j:Nat):(Jo s l j).length≤s.nx.length+1:=by unfold Jo;split<;>simp
def FW(y2 y3 y4 y5 y6:Bool):Int:=(if y2 then 2 else 0)+((if y3 then 4 else 0)+((if y4 then 8 else 0)+((if y5 then 16 else 0)+(if y6 then 32 else 0))))
def aN(b:Base)(a:GAct)(L:List Sk)(l:List Fact):Int:=match L[a.Step.toNat]? with
 |none=>0
 |some s=>FW (!decide (a.Step∈Nq L l)) (!decide (a.Tool∈s.tl)) (!decide (s.rc=a.Recipe)) (!Fp b a.Tool a.Chamber a.Recipe a.Revision a.Time) (decide (0<(Iq b a).length))
theorem eJ{s t:Sk}(e:t.v=s.v)(l:List Fact)(j:Nat):Jo t l j=Jo s l j:=by
 obtain⟨rc,tl,ta,tc,mn,mx,nx,na,nc,bk,lm⟩:=s
 obtain⟨rc',tl',ta',tc',mn',mx',nx',na',nc',bk',lm'⟩:=t
 cases e
 rfl
theorem aO{L M:List Sk}(h:Same L M)(l:List Fact):Nq M l=Nq L l:=by
 unfold Nq
 cases l.getLast? with
 |none=>rfl
 |some p=>
   dsimp only
   cases hM:M[p.Step.toNat]? with
   |none=>
     have:=List.getElem?_eq_none_iff.1 hM
     rw[cy (by rw[←h.len];exact this)]
   |some t=>
     obtain⟨s,hs,e⟩:=h.at_ hM
     rw[hs]
     exact eJ e l _
theorem Els.JB{α:Type}{bq:Nat}{X Y:Nat→Prop}{w w':World}{ad:Option Addr}{k:Nat}{enc:α→Array Value}{xs:List α}(h:Els w ad k enc xs)(u:Kx bq X Y w w')(hn:∀i,(xs≠[]∧∃o,ad=some ⟨i,o,none⟩)→¬X i):Els w' ad k enc xs:=by
 by_cases e:xs=[]
 · rw[e];exact fun i x hx=>by cases hx
 exact h.kx u (fun B o ea=>hn B ⟨e,o,ea⟩)
theorem FlG.kx{bq:Nat}{X Y:Nat→Prop}{w w':World}{sa:Option Addr}{L:List Sk}(h:FlG w sa none L [])(u:Kx bq X Y w w')(hn:∀i,(lL sa L).foot i→¬X i):FlG w' sa none L []:=
 ⟨h.len,h.E.JB u (fun i hi=>hn i (.inl hi)),h.g,fun s hs=>⟨(h.p s hs).1.JB u (fun i hi=>hn i (.inr ⟨s,hs,.inl hi⟩)),(h.p s hs).2.JB u (fun i hi=>hn i (.inr ⟨s,hs,.inr hi⟩))⟩,fun i x h=>by simp at h,h.wl,h.wn⟩
structure WhyH(b:Base)(a:GAct)(L:List Sk)(l:List Fact):Prop where
 lot:(Ib b.Lots a.Wafer a.Time).2≠0
 flow:∃f,aK b (Ib b.Lots a.Wafer a.Time).2=some f∧f.Text=bs (Fj L)
 hLo:b.Lots.length≤100000
 hFl:b.Flows.length≤100000
 hQu:b.Qualified.length≤100000
 hHo:b.Holds.length≤100000
 hRe:b.Releases.length≤100000
 fl:FlS L
 fw:Fwd L
 st:0≤a.Step∧a.Step<L.length
 hst:Ou L l
 hl:l.length≤100000
theorem uZ{α:Type}(l:List α)(x:α)(f:α→Int):((l++[x]).map f).sum=(l.map f).sum+f x:=by simp[List.sum_append]
def Qq(Bk Ba Bo Bs Bb:Nat)(y2 y3 y4 y5 y6:Bool):List Rsn:=[⟨1,168,#[.pointer (some ⟨Bk,0,none⟩)],false⟩,⟨2,169,#[.pointer (some ⟨Bk,0,none⟩),.pointer (some ⟨Ba,0,none⟩)],y2⟩,⟨4,170,#[.pointer (some ⟨Bo,0,none⟩),.pointer (some ⟨Bs,0,none⟩),.pointer (some ⟨Ba,0,none⟩)],y3⟩,⟨8,171,#[.pointer (some ⟨Bo,0,none⟩),.pointer (some ⟨Bs,0,none⟩),.pointer (some ⟨Ba,0,none⟩)],y4⟩,⟨16,172,#[.pointer (some ⟨Bb,0,none⟩),.pointer (some ⟨Ba,0,none⟩)],y5⟩,⟨32,174,#[.pointer (some ⟨Bb,0,none⟩),.pointer (some ⟨Ba,0,none⟩)],y6⟩]
section
variable {w0 W W':World}{bc kn:Array Value}{b:Base}{a:GAct}{s:Sk}{Bb Ba Bk Bs Bo bq:Nat}{X Y:Nat→Prop}{av:Option Addr}{M:List Sk}{y2 y3 y4 y5 y6:Bool}
structure WhyX(w0:World)(bc:Array Value)(a:GAct)(kn:Array Value)(s:Sk)(av:Option Addr)(M:List Sk)(Bb Ba Bk Bs Bo:Nat)(W:World):Prop where
 u:Up w0 W
 bb:Blk W Bb bc 35
 ba:Blk W Ba (GAct.cells a) 44
 bk:Blk W Bk kn 85
 bs_:Blk W Bs s.cells 33
 bo:Blk W Bo #[.bool true] 4
 g:FlG W av none M []
theorem WhyX.up(h:WhyX w0 bc a kn s av M Bb Ba Bk Bs Bo W)(u:Up W W'):WhyX w0 bc a kn s av M Bb Ba Bk Bs Bo W':=⟨h.u.trans u,h.bb.up u,h.ba.up u,h.bk.up u,h.bs_.up u,h.bo.up u,h.g.up u⟩
theorem WhyX.kx(h:WhyX w0 bc a kn s av M Bb Ba Bk Bs Bo W)(k:Kx bq X Y W W')(hX:∀i,X i→w0.heap.size≤i)(hY:∀i,Y i→w0.heap.size≤i)(hb:w0.heap.size≤bq)(h1:¬X Bb)(h2:¬X Ba)(h3:¬X Bk)(h4:¬X Bs)(h5:¬X Bo)(h6:∀i,(lL av M).foot i→¬X i):WhyX w0 bc a kn s av M Bb Ba Bk Bs Bo W':=
 ⟨h.u.kx k hX hY hb,h.bb.kx k h1,h.ba.kx k h2,h.bk.kx k h3,h.bs_.kx k h4,h.bo.kx k h5,h.g.kx k h6⟩
theorem iF(x:qP (Qq Bk Ba Bo Bs Bb y2 y3 y4 y5 y6)):0≤x.1.num∧x.1.num≤32:=by
 obtain⟨r,hr,hy⟩:=x
 simp only[Qq,bm,d9,dw]at hr
 rcases hr with rfl|rfl|rfl|rfl|rfl|rfl
 · exact(by decide:(0:Int)≤1∧(1:Int)≤32)
 · exact(by decide:(0:Int)≤2∧(2:Int)≤32)
 · exact(by decide:(0:Int)≤4∧(4:Int)≤32)
 · exact(by decide:(0:Int)≤8∧(8:Int)≤32)
 · exact(by decide:(0:Int)≤16∧(16:Int)≤32)
 exact(by decide:(0:Int)≤32∧(32:Int)≤32)
theorem eK(pre:List (qP (Qq Bk Ba Bo Bs Bb y2 y3 y4 y5 y6))):0≤(pre.map fun x=>x.1.num).sum∧(pre.map fun x=>x.1.num).sum≤32*(pre.length:Int):=by
 induction pre with
 |nil=>exact⟨iz _,iz _⟩
 |cons x r ih=>
   have:=iF x
   rw[c9,j0,a8]
   omega
theorem vA:((Qq Bk Ba Bo Bs Bb y2 y3 y4 y5 y6).filter (·.yes)).length≤6:=dy _ _
theorem vB:(((Qq Bk Ba Bo Bs Bb y2 y3 y4 y5 y6).filter (·.yes)).map (·.num)).sum=FW y2 y3 y4 y5 y6:=by
 cases y2<;>cases y3<;>cases y4<;>cases y5<;>cases y6<;>rfl
end
theorem vC{l:List Fact}{d:Int}{j:Nat}(hj:j<11){x:Fact}:x∈Kw (Sr l d) j↔yY l d x∧x.Gone=false∧x.Kind=((j+1:Nat):Int):=by
 rw[Q7 l d hj]
 unfold Ea
 rw[bg (bn.2 rfl),(Gi _).same.mem,fd,pQ]
 simp
theorem Vv(l:List Fact)(d:Int){j:Nat}(hj:j<11):(Kw (Sr l d) j).Nodup:=by
 rw[Q7 l d hj]
 unfold Ea
 rw[bg (bn.2 rfl)]
 exact((Gi _).same.perm.nodup_iff).2 ((Wy l d).filter _)
theorem lP{α:Type}{key:α→K2}{A B:List α}(hA:Ja key A)(hB:Ja key B)(hp:A.Perm B)(hd:∀x∈A,∀y∈A,key x=key y→x=y):A=B:=by
 rw[(StS.refl hA).eq,(StS.refl hB).eq]
 exact Si hp hd
theorem vD(l:List Fact)(d:Int){j:Nat}(hj:j<11):Ja (K0 ((j+1:Nat):Int)) (Kw (Sr l d) j):=by
 rw[Q7 l d hj];unfold Ea;rw[bg (bn.2 rfl)];exact(Gi _).ord
theorem zX{α:Type}{l:List α}{x:α}(hn:l.Nodup)(h:∀y,y∈l↔y=x):l=[x]:=by
 match l,hn,h with
 |[],_,h=>exact absurd ((h x).2 rfl) (by simp)
 |[y],_,h=>rw[(h y).1 bu]
 |y::z::r,hn,h=>
   have e1:=(h y).1 bu
   have e2:=(h z).1 (b9 _ bu)
   rw[gw]at hn
   exact absurd (by rw[e1,←e2];exact bu) hn.1
theorem qU{k:Int}(h:1≤k∧k≤11):∀x∈Eg k,x∈fieldsOf k:=by
 have hc:k=1∨k=2∨k=3∨k=4∨k=5∨k=6∨k=7∨k=8∨k=9∨k=10∨k=11:=by omega
 rcases hc with rfl|rfl|rfl|rfl|rfl|rfl|rfl|rfl|rfl|rfl|rfl<;>
   simp[Eg,fieldsOf,O9,Lk,Cw,Co,H5]
theorem iG{f:Fact}(hf:Ca f=true):∀x∈N8 f,Oy x:=fun x hx=>by
 have hk:=Eu hf
 unfold N8 at hx
 rcases bm.1 hx with rfl|hx
 · exact⟨by omega,by omega⟩
 obtain⟨y,hy,rfl⟩:=br.1 hx
 exact(Ls hf).2.1 y (qU hk y hy)
theorem Tg{f g:Fact}(hf:Ca f=true)(hg:Ca g=true)(h:Cj f=Cj g):f.Kind=g.Kind∧Eh (Eg f.Kind) f=Eh (Eg f.Kind) g:=by
 have hk:=Of hf hg h
 unfold Cj at h
 rw[bg hf,bg hg]at h
 have e:=(O3 (r:=[]) (s:=[]) (iG hf) (iG hg) (by unfold N8;simp[Eh,hk]) (by rw[h])).1
 unfold N8 at e
 rw[←hk]at e
 exact⟨hk,(List.cons.inj e).2⟩
theorem JC{f g:Fact}(hf:Ca f=true)(hg:Ca g=true)(hk:f.Kind=4)(h:Cj f=Cj g):f.Wafer=g.Wafer∧f.Time=g.Time:=by
 have e:=(Tg hf hg h).2
 rw[hk]at e
 replace e:[f.Wafer,f.Time]=[g.Wafer,g.Time]:=e
 simpa using e
theorem FX{a b:Fact}(h:Ex a b=true):Ca a=true∧Ca b=true∧Cj a=Cj b:=by
 unfold Ex at h
 simp only[bw]at h
 exact⟨h.1.1.1,h.1.1.2,by simpa using h.1.2⟩
theorem qV{f:Fact}(h:Ca f=true):Cj f≠[]:=by unfold Cj;rw[bg h];exact gE h
theorem eM{b:Base}(a:GAct)(h:b.Holds=[]):Iq b a=[]:=by unfold Iq;rw[h];simp[G2]
def Xl(L:List Sk)(j:Nat):Int:=match L[j]? with|some s=>s.rc|none=>0
def Th(L:List Sk)(j:Nat):Int:=match L[j]? with|some s=>s.tl.headD 0|none=>0
def qW(L:List Sk)(j:Nat):Int:=match L[j]? with|some s=>s.bk|none=> -1
def vE(L:List Sk)(j:Nat):Int:=match L[j]? with|some s=>s.lm|none=>0
def Jv(L:List Sk)(i j:Nat):Fact:={ Jj with Kind:=1,ID:=((i+1:Nat):Int),Version:=1,Time:=((20*i:Nat):Int),Until:=((20*i+5:Nat):Int),Wafer:=1,Tool:=Th L j,Step:=(j:Int),Recipe:=Xl L j,Revision:=1 }
def Di(L:List Sk)(ss:List Nat):List Fact:=ss.mapIdx fun i j=>Jv L i j
theorem D5(L:List Sk)(ss:List Nat):(Di L ss).length=ss.length:=i9
theorem Vw(L:List Sk)(ss:List Nat)(j:Nat):Di L (ss++[j])=Di L ss++[Jv L ss.length j]:=List.mapIdx_concat
theorem Hl(L:List Sk)(ss:List Nat)(i:Nat):(Di L ss)[i]?=ss[i]?.map (Jv L i):=iy
theorem vF{L:List Sk}{ss:List Nat}{i j:Nat}(h:ss[i]?=some j):Xk (Di L ss) i=(j:Int):=by
 have h1:(Di L ss)[i]?=some (Jv L i j):=by rw[Hl,h];rfl
 exact Gt h1
theorem Ti{l m:List Fact}{i:Nat}(h:i<l.length):Xk (l++m) i=Xk l i:=by
 unfold Xk
 rw[cn,cn,cz h]
theorem iH(l m:List Fact)(j bk:Int):∀k,k≤l.length→Qg (l++m) j bk k=Qg l j bk k
 |0,_=>rfl
 |k+1,h=>by
   rw[Qg,Qg,iH l m j bk k oQ,Ti oQ,Ti (by omega)]
theorem vG{L:List Sk}{ss:List Nat}{a c:Nat}(ha:ss[ss.length-1]?=some a)(h0:1≤ss.length)(j bk:Int):Qg (Di L (ss++[c])) j bk (ss.length+1)=Qg (Di L ss) j bk ss.length+if(a:Int)=j∧(c:Int)=bk then 1 else 0:=by
 rw[Vw,Qg,iH _ _ _ _ _ (by rw[D5];exact bi _),Ti (by rw[D5];omega),vF ha]
 have h1:Xk (Di L ss++[Jv L ss.length c]) ss.length=(c:Int):=by
   refine Gt (x:=Jv L ss.length c) ?_
   rw[c8 (by rw[D5];exact bi _),D5,jn];rfl
 rw[h1]
 by_cases h2:(a:Int)=j∧(c:Int)=bk
 · rw[bg h2,bg ⟨by omega,h2⟩]
 rw[aq h2,aq (fun h=>h2 h.2)]
theorem FY{α:Type}{M:List α→Prop}(nil:M [])(snoc:∀l x,M l→M (l++[x]))(l:List α):M l:=by
 have h:∀r:List α,M r.reverse:=fun r=>by
   induction r with
   |nil=>exact nil
   |cons x r ih=>rw[List.reverse_cons];exact snoc _ _ ih
 have:=h l.reverse
 rwa [List.reverse_reverse]at this
def Tj(w t:Int)(f:Fact):Bool:=Jk w&&decide (f.Wafer=w)&&decide (f.Time≤t)
theorem Xm(w t:Int)(l:List Fact):match Fs l w t with
   |none=>∀f∈l,Tj w t f=false
   |some g=>g∈l∧Tj w t g=true∧∀f∈l,Tj w t f=true→f.Time≤g.Time:=by
 induction l using FY with
 |nil=>exact fun f hf=>by cases hf
 |snoc l x ih=>
   rw[Hi]
   have hc:J5 w t (Fs l w t) x=(Tj w t x&&(match Fs l w t with|none=>true|some g=>decide (g.Time<x.Time))):=rfl
   unfold Wz
   rw[hc]
   cases hb:Fs l w t with
   |none=>
     rw[hb]at ih
     dsimp only at ih⊢
     rw[Bool.and_true]
     by_cases h:Tj w t x=true
     · rw[bg h]
       refine⟨by simp,h,fun f hf hcf=>?_⟩
       rcases bt.1 hf with hf|hf
       · rw[ih f hf]at hcf;cases hcf
       rw[bn.1 hf];exact iz _
     rw[aq h]
     intro f hf
     rcases bt.1 hf with hf|hf
     · exact ih f hf
     rw[bn.1 hf];simpa using h
   |some g=>
     rw[hb]at ih
     dsimp only at ih⊢
     obtain⟨i1,i2,i3⟩:=ih
     by_cases h:Tj w t x=true∧g.Time<x.Time
     · rw[bg (by rw[h.1,bj h.2];rfl)]
       refine⟨by simp,h.1,fun f hf hcf=>?_⟩
       rcases bt.1 hf with hf|hf
       · have:=i3 f hf hcf;omega
       rw[bn.1 hf];exact iz _
     rw[aq (by rw[bw,ge];exact h)]
     refine⟨by simp[i1],i2,fun f hf hcf=>?_⟩
     rcases bt.1 hf with hf|hf
     · exact i3 f hf hcf
     rw[bn.1 hf]at hcf⊢
     have:¬g.Time<x.Time:=fun e=>h ⟨hcf,e⟩
     omega
inductive Wlk(L:List Sk):List Nat→Prop
 |nil:Wlk L []
 |snoc (ss:List Nat) (c:Nat):Wlk L ss→c<L.length→(c:Int)∈Nq L (Di L ss)→Wlk L (ss++[c])
def Ka(f:Nat→Nat):Nat→Nat
 |0=>0
 |k+1=>Ka f k+f k
theorem Q9{f g:Nat→Nat}:∀n,(∀j,j<n→f j≤g j)→Ka f n≤Ka g n
 |0,_=>bi _
 |n+1,h=>Nat.add_le_add (Q9 n fun j hj=>h j (j4 hj)) (h n (j9 n))
theorem iI{f g:Nat→Nat}{a:Nat}:∀n,a<n→(∀j,j<n→f j≤g j)→f a+1≤g a→Ka f n+1≤Ka g n
 |n+1,ha,h,e=>by
   have h1:=h n (j9 n)
   by_cases ea:a=n
   · subst ea
     have:=Q9 a fun j hj=>h j (j4 hj)
     show Ka f a+f a+1≤Ka g a+g a
     omega
   have:=iI n oQ (fun j hj=>h j (j4 hj)) e
   show Ka f n+f n+1≤Ka g n+g n
   omega
def vH(L:List Sk)(ss:List Nat)(j:Nat):Nat:=Qg (Di L ss) j (qW L j) ss.length
def aP(L:List Sk)(j:Nat):Nat:=(vE L j).toNat
structure Bnd(L:List Sk)(ss:List Nat):Prop where
 ln:∀c,ss[ss.length-1]?=some c→ss.length≤Ka (vH L ss) L.length*L.length+c+1
 rw_:∀j,j<L.length→vH L ss j≤aP L j
 st:∀j∈ss,j<L.length
theorem lQ{ss:List Nat}{c d:Nat}(h:(ss++[c])[(ss++[c]).length-1]?=some d):d=c:=by simpa using h.symm
theorem Tk{L:List Sk}{ss:List Nat}{a c:Nat}(ha:ss[ss.length-1]?=some a)(h0:1≤ss.length)(j:Nat):vH L (ss++[c]) j=vH L ss j+if(a:Int)=j∧(c:Int)=qW L j then 1 else 0:=by
 unfold vH
 rw[am,dp]
 exact vG ha h0 j (qW L j)
theorem iJ{L:List Sk}{ss:List Nat}{a:Nat}{s:Sk}(ha:ss[ss.length-1]?=some a)(h0:1≤ss.length)(hs:L[a]?=some s):Nq L (Di L ss)=Jo s (Di L ss) a:=
 aM (p:=Jv L (ss.length-1) a) (by rw[D5,Hl,ha];rfl) (by rw[D5];exact h0) rfl hs
theorem Xn{L:List Sk}(hF:Fwd L){ss:List Nat}(h:Wlk L ss):Bnd L ss:=by
 induction h with
 |nil=>exact⟨fun c hc=>(by cases hc),fun j _=>a_ _,fun j hj=>(by cases hj)⟩
 |snoc ss c hw hc hn ih=>
   have hst:∀j∈ss++[c],j<L.length:=fun j hj=>by
     rcases bt.1 hj with h|h
     · exact ih.st j h
     rw[bn.1 h];exact hc
   by_cases h0:ss=[]
   · subst h0
     refine⟨fun c' _=>?_,fun j _=>?_,hst⟩
     · show 1≤_
       omega
     show Qg _ _ _ 1≤_
     rw[uY];exact a_ _
   have hl1:1≤ss.length:=f5.2 h0
   obtain⟨a,ha⟩:=Af (xs:=ss) (i:=ss.length-1) oQ
   have ha':=ih.st a (ai ha)
   obtain⟨s,hs⟩:=Af (xs:=L) (i:=a) ha'
   have hbk:qW L a=s.bk:=by unfold qW;rw[hs]
   have hlm:vE L a=s.lm:=by unfold vE;rw[hs]
   rw[iJ ha hl1 hs]at hn
   unfold Jo at hn
   rw[D5]at hn
   have e1:=ih.ln a ha
   have hb2:=(hF.b a s hs).2
   have hkey:(s.bk=(c:Int)∧(vH L ss a:Int)<s.lm)∨(a:Int)<c:=by
     split at hn
     · rename_i hcond
       rcases bm.1 hn with e|e
       · exact .inl ⟨e.symm,by unfold vH;rw[hbk];exact hcond.2⟩
       exact .inr (hF.n a s hs c e).1
     exact .inr (hF.n a s hs c hn).1
   have hmono:∀j,j<L.length→vH L ss j≤vH L (ss++[c]) j:=fun j _=>by rw[Tk ha hl1 j];exact Nat.le_add_right _ _
   refine⟨fun c' hc'=>?_,fun j hj=>?_,hst⟩
   · rw[lQ hc',am,dp]
     rcases hkey with⟨k1,k2⟩|k1
     · have h2:=iI L.length ha' hmono (by rw[Tk ha hl1 a,bg ⟨rfl,by rw[hbk];exact k1.symm⟩];exact bi _)
       have h3:=ew L.length h2
       rw[e_,jb]at h3
       omega
     have h3:=ew L.length (Q9 L.length hmono)
     omega
   rw[Tk ha hl1 j]
   have h4:=ih.rw_ j hj
   split
   · rename_i hc2
     have:j=a:=by omega
     subst this
     rw[hbk]at hc2
     unfold aP
     rw[hlm]
     omega
   exact h4
theorem iK{L:List Sk}(hF:Fwd L){ss:List Nat}(h:Wlk L ss):ss.length≤(1+Ka (aP L) L.length)*L.length:=by
 by_cases h0:ss=[]
 · rw[h0];exact a_ _
 have hb:=Xn hF h
 have hl1:1≤ss.length:=f5.2 h0
 obtain⟨a,ha⟩:=Af (xs:=ss) (i:=ss.length-1) oQ
 have h1:=hb.ln a ha
 have h2:=hb.st a (ai ha)
 have h3:=ew L.length (Q9 L.length hb.rw_)
 rw[e_,jb]
 omega
theorem zY{L:List Sk}{ss:List Nat}(h:Wlk L ss):∀i j,ss[i]?=some j→j<L.length∧(j:Int)∈Nq L (Di L (ss.take i)):=by
 induction h with
 |nil=>exact fun i j h=>by simp at h
 |snoc ss c hw hc hn ih=>
   intro i j hj
   by_cases hi:i<ss.length
   · rw[cz hi]at hj
     rw[kc (Nat.le_of_lt hi)]
     exact ih i j hj
   have h1:=(ak.1 hj).1
   rw[am,dp]at h1
   have h2:i=ss.length:=by omega
   subst h2
   rw[c8 (bi _),jn]at hj
   cases hj
   rw[List.take_left' rfl]
   exact⟨hc,hn⟩
theorem qX{L:List Sk}(hF:Fwd L){ss:List Nat}(h:Wlk L ss){x:Int}(hx:x∈Nq L (Di L ss)):0≤x∧x<L.length:=by
 by_cases h0:ss=[]
 · subst h0
   have:x=0:=by simpa[Di,Nq]using hx
   have:=hF.len
   omega
 have hl1:1≤ss.length:=f5.2 h0
 obtain⟨a,ha⟩:=Af (xs:=ss) (i:=ss.length-1) oQ
 have ha':=(Xn hF h).st a (ai ha)
 obtain⟨s,hs⟩:=Af (xs:=L) (i:=a) ha'
 rw[iJ ha hl1 hs]at hx
 unfold Jo at hx
 have hb:=hF.b a s hs
 split at hx
 · rename_i hc
   rcases bm.1 hx with e|e
   · omega
   have:=hF.n a s hs x e;omega
 have:=hF.n a s hs x hx;omega
theorem qY{L:List Sk}(h:FlS L)(hl:L.length≤8):(Fj L).length≤8000:=by
 have h1:=join_le 10 Gp (L.mapIdx C8++[[]]) 714 (fun q hq=>by
   rcases Te hq with rfl|rfl|⟨k,s,hs,rfl⟩
   · exact xC
   · decide
   have hk:=(ak.1 hs).1
   exact Td oQ (h.sml s (ai hs)))
 have h2:(L.mapIdx C8++[[]]).length≤9:=by simp;omega
 have h3:(714+1)*((L.mapIdx C8++[[]]).length+1)≤715*10:=gh _ oQ
 exact b6 h1 (b6 h3 cQ)
theorem eN{t:ByteArray}(h:t.size≤8000):Ca (Xi t)=true:=by
 have hq:preB (Xi t)=false:=by
   show(false||false||false||false||decide (8192<(t.size:Int)))=false
   rw[bx (by omega)];rfl
 unfold Ca
 rw[hq]
 show(true&&(!(false|| !true)&&Fu (Kv 5 1 0 false) (Kv 5 1 0 false)))=true
 rw[Sv];rfl
theorem aQ{k:Nat}(h:1≤k∧k≤3):Ca (J9 k)=true:=by
 rcases(by omega:k=1∨k=2∨k=3)with rfl|rfl|rfl<;>kernel_rfl
theorem aR{m:Nat}(h:m<120):Ca (Mw m)=true:=by
 have hn:Ih (fieldsOf 6) (Mw m)=some (Kv 6 1 0 false):=by
   rw[show fieldsOf 6=[Cq 1,⟨11,0,59⟩,⟨12,0,3⟩,Cq 14,Cq 15,Co,⟨6,0,1000000⟩]from rfl]
   refine(aq (show ¬(((m:Nat):Int)+1<1∨(1000000:Int)<((m:Nat):Int)+1)by omega)).trans ?_
   refine(aq (show ¬(((m/10:Nat):Int)<0∨(59:Int)<((m/10:Nat):Int))by omega)).trans ?_
   refine(aq (show ¬(((m/5%2:Nat):Int)<0∨(3:Int)<((m/5%2:Nat):Int))by omega)).trans ?_
   refine(aq (show ¬(((m%5+1:Nat):Int)<1∨(1000000:Int)<((m%5+1:Nat):Int))by omega)).trans ?_
   refine(aq (show ¬((1:Int)<1∨(1000000:Int)<1)by decide)).trans ?_
   refine(aq (show ¬((0:Int)<0∨(1000000:Int)<0)by decide)).trans ?_
   refine(aq (show ¬((1000000:Int)<0∨(1000000:Int)<1000000)by decide)).trans ?_
   rfl
 unfold Ca
 rw[show(Mw m).Kind=6 from rfl,hn]
 show(true&&(!(false|| !true)&&Fu (Kv 6 1 0 false) (Kv 6 1 0 false)))=true
 rw[Sv];rfl
theorem JD{f g:Fact}(hf:Ca f=true)(hg:Ca g=true)(hk:f.Kind=6)(h:Cj f=Cj g):f.ID=g.ID:=by
 have e:=(Tg hf hg h).2
 rw[hk]at e
 replace e:[f.ID]=[g.ID]:=e
 simpa using e
theorem JE{f g:Fact}(hf:Ca f=true)(hg:Ca g=true)(hk:f.Kind=1)(h:Cj f=Cj g):f.ID=g.ID:=by
 have e:=(Tg hf hg h).2
 rw[hk]at e
 replace e:[f.ID]=[g.ID]:=e
 simpa using e
inductive FabF(T:ByteArray):Fact→Prop
 |tx:FabF T (Xi T)
 |lo (k:Nat):1≤k∧k≤3→FabF T (J9 k)
 |qu (m:Nat):m<120→FabF T (Mw m)
theorem Ov(t:ByteArray):(Gk t).length=124:=by unfold Gk;rw[aJ]
theorem Gx{T:ByteArray}{f:Fact}:f∈Gk T↔FabF T f:=by
 unfold Gk Qp Uk
 rw[show Vu 4=[J9 1,J9 2,J9 3]from rfl]
 simp only[eu,d_,bm,br,ck]
 constructor
 · rintro(rfl|rfl|rfl|rfl|⟨m,hm,rfl⟩)
   · exact .tx
   · exact .lo 1 cQ
   · exact .lo 2 cQ
   · exact .lo 3 cQ
   exact .qu m hm
 intro h
 cases h with
 |tx=>exact .inl rfl
 |lo k hk=>rcases(by omega:k=1∨k=2∨k=3)with rfl|rfl|rfl<;>simp
 |qu m hm=>exact .inr (.inr (.inr (.inr ⟨m,hm,rfl⟩)))
theorem FabF.valid{T:ByteArray}(hT:T.size≤8000){f:Fact}(h:FabF T f):Ca f=true:=by
 cases h with
 |tx=>exact eN hT
 |lo k hk=>exact aQ hk
 |qu m hm=>exact aR hm
theorem FabF.plain{T:ByteArray}{f:Fact}(h:FabF T f):f.Day=0∧f.Gone=false∧4≤f.Kind∧f.Kind≤6:=by
 cases h with
 |tx=>exact⟨rfl,rfl,(by decide:(4:Int)≤5),(by decide:(5:Int)≤6)⟩
 |lo k _=>exact⟨rfl,rfl,(by decide:(4:Int)≤4),(by decide:(4:Int)≤6)⟩
 |qu m _=>exact⟨rfl,rfl,(by decide:(4:Int)≤6),(by decide:(6:Int)≤6)⟩
theorem FabF.key{T:ByteArray}(hT:T.size≤8000){f g:Fact}(hf:FabF T f)(hg:FabF T g)(e:Cj f=Cj g):f=g:=by
 have vf:=hf.valid hT
 have vg:=hg.valid hT
 have hk:=Of vf vg e
 cases hf<;>cases hg<;>first
   |rfl
   |exact absurd (show(5:Int)=4 from hk) cQ
   |exact absurd (show(5:Int)=6 from hk) cQ
   |exact absurd (show(4:Int)=5 from hk) cQ
   |exact absurd (show(4:Int)=6 from hk) cQ
   |exact absurd (show(6:Int)=5 from hk) cQ
   |exact absurd (show(6:Int)=4 from hk) cQ
   |(rename_i k hk' j hj';have e1:=(JC vf vg rfl e).1;have e2:((k:Nat):Int)=((j:Nat):Int):=e1;rw[show k=j by omega])
   |(rename_i k hk' j hj';have e1:=JD vf vg rfl e;have e2:((k:Nat):Int)+1=((j:Nat):Int)+1:=e1;rw[show k=j by omega])
structure ExtP(ps:List Fact):Prop where
 v:∀p∈ps,Ca p=true
 k:∀p∈ps,p.Kind=1∨p.Kind=3
 g:∀p∈ps,p.Gone=false
 u:∀p∈ps,∀q∈ps,Cj p=Cj q→p=q
section
variable {T:ByteArray}{ps:List Fact}{d:Int}
theorem Kb(hT:T.size≤8000)(h:ExtP ps){f:Fact}(hf:f∈Gk T++ps):Ca f=true:=by
 rcases bt.1 hf with hf|hf
 · exact(Gx.1 hf).valid hT
 exact h.v f hf
theorem qZ(h:ExtP ps){f:Fact}(hf:f∈Gk T++ps):f.Gone=false:=by
 rcases bt.1 hf with hf|hf
 · exact(Gx.1 hf).plain.2.1
 exact h.g f hf
theorem iL(hT:T.size≤8000)(h:ExtP ps){f g:Fact}(hf:f∈Gk T++ps)(hg:g∈Gk T++ps)(e:Cj f=Cj g):f=g:=by
 have hk:=Of (Kb hT h hf) (Kb hT h hg) e
 rcases bt.1 hf with hf|hf<;>rcases bt.1 hg with hg|hg
 · exact(Gx.1 hf).key hT (Gx.1 hg) e
 · have h1:=(Gx.1 hf).plain
   have h2:=h.k g hg
   omega
 · have h1:=(Gx.1 hg).plain
   have h2:=h.k f hf
   omega
 exact h.u f hf g hg e
theorem vI(hT:T.size≤8000)(h:ExtP ps){f:Fact}:yY (Gk T++ps) d f↔f∈Gk T++ps∧f.Day≤d:=by
 constructor
 · exact fun he=>⟨he.1,he.2.2.1⟩
 rintro⟨hf,hd⟩
 refine⟨hf,qV (Kb hT h hf),hd,fun g hg _=>?_⟩
 cases e:Ex g f with
 |false=>rfl
 |true=>
   have:=iL hT h hg hf (FX e).2.2
   subst this
   rw[Qa]at e;cases e
theorem Jp(hT:T.size≤8000)(h:ExtP ps){j:Nat}(hj:j<11){x:Fact}:x∈Kw (Sr (Gk T++ps) d) j↔x∈Gk T++ps∧x.Day≤d∧x.Kind=((j+1:Nat):Int):=by
 rw[vC hj,vI hT h]
 exact⟨fun⟨h1,_,h3⟩=>⟨h1.1,h1.2,h3⟩,fun⟨h1,h2,h3⟩=>⟨⟨h1,h2⟩,qZ h h1,h3⟩⟩
structure FabB(T:ByteArray)(b:Base):Prop where
 lo:∀x,x∈b.Lots↔∃k:Nat,(1≤k∧k≤3)∧x=J9 k
 fl:b.Flows=[Xi T]
 qu:∀m,m<120→Mw m∈b.Qualified
 ho:b.Holds=[]
 le:∀j,j<11→(Kw b j).length≤100000
theorem vJ(hT:T.size≤8000)(h:ExtP ps)(hd:0≤d)(hlen:ps.length≤90000):FabB T (Sr (Gk T++ps) d):=by
 have fab:∀{x:Fact}{j:Nat},x∈Gk T++ps→x.Kind=((j+1:Nat):Int)→3≤j→FabF T x:=fun{x j}hx hk hj=>by
   rcases bt.1 hx with hx|hx
   · exact Gx.1 hx
   have:=h.k x hx;omega
 refine⟨fun x=>?_,?_,fun m hm=>?_,?_,fun j _=>kO (by rw[am,Ov];omega) d j⟩
 · refine(Jp hT h (j:=3) cQ).trans ⟨fun⟨h1,_,h3⟩=>?_,?_⟩
   · cases fab h1 h3 cQ with
     |lo k hk=>exact⟨k,hk,rfl⟩
     |tx=>exact absurd (show(5:Int)=4 from h3) cQ
     |qu m _=>exact absurd (show(6:Int)=4 from h3) cQ
   rintro⟨k,hk,rfl⟩
   exact⟨er _ (Gx.2 (.lo k hk)),hd,rfl⟩
 · refine zX (Vv _ _ (show 4<11 by decide)) fun y=>(Jp hT h (j:=4) cQ).trans ⟨fun⟨h1,_,h3⟩=>?_,?_⟩
   · cases fab h1 h3 cQ with
     |tx=>rfl
     |lo k _=>exact absurd (show(4:Int)=5 from h3) cQ
     |qu m _=>exact absurd (show(6:Int)=5 from h3) cQ
   rintro rfl
   exact⟨er _ (Gx.2 .tx),hd,rfl⟩
 · exact(Jp hT h (j:=5) cQ).2 ⟨er _ (Gx.2 (.qu m hm)),hd,rfl⟩
 refine gk.2 fun y hy=>?_
 obtain⟨h1,_,h3⟩:=(Jp hT h (j:=6) cQ).1 hy
 have:=(fab h1 h3 cQ).plain
 omega
theorem rA(hT:T.size≤8000)(h:ExtP ps){qs:List Fact}(hq:∀x,x∈qs↔x∈ps∧x.Kind=1∧x.Day≤d)(hs:qs.Pairwise fun x y=>x.ID<y.ID):(Sr (Gk T++ps) d).Processes=qs:=by
 refine lP (vD _ d (show 0<11 by decide)) (hs.imp fun{x y}hxy=>?_) (P9 (Vv _ d (show 0<11 by decide)) (hs.imp fun{x y}hxy e=>by rw[e]at hxy;omega) fun x=>?_) fun x hx y hy e=>?_
 · rw[Jd]
   show ¬(y.ID<x.ID∨(y.ID=x.ID∧(0:Int)<0))
   omega
 · rw[hq]
   refine(Jp hT h (j:=0) cQ).trans ⟨fun⟨h1,h2,h3⟩=>?_,fun⟨h1,h2,h3⟩=>⟨g5 _ h1,h3,h2⟩⟩
   rcases bt.1 h1 with h1|h1
   · have:=(Gx.1 h1).plain;omega
   exact⟨h1,h3,h2⟩
 have hx:=(Jp hT h (j:=0) cQ).1 hx
 have hy:=(Jp hT h (j:=0) cQ).1 hy
 exact iL hT h hx.1 hy.1 (Sj (k:=1) (Kb hT h hx.1) (Kb hT h hy.1) hx.2.2 hy.2.2 e)
theorem lR(hT:T.size≤8000)(h:ExtP ps)(hn:∀p∈ps,p.Kind=3→d<p.Day):(Sr (Gk T++ps) d).Swaps=[]:=by
 refine gk.2 fun y hy=>?_
 obtain⟨h1,h2,h3⟩:=(Jp hT h (j:=2) cQ).1 hy
 rcases bt.1 h1 with h1|h1
 · have:=(Gx.1 h1).plain;omega
 have:=hn y h1 h3;omega
end
theorem FabB.rB{T:ByteArray}{b:Base}(hb:FabB T b){k:Nat}{tm:Int}(hk:1≤k∧k≤3)(ht:0≤tm):Ib b.Lots (k:Int) tm=(((1+k/3:Nat):Int),1):=by
 have hin:J9 k∈b.Lots:=(hb.lo _).2 ⟨k,hk,rfl⟩
 have hc:∀j:Nat,Tj (k:Int) tm (J9 j)=decide (j=k):=fun j=>by
   show(Jk (k:Int)&&decide (((j:Nat):Int)=(k:Int))&&decide ((0:Int)≤tm))=_
   rw[bj ht,show Jk (k:Int)=true by unfold Jk;simp;omega]
   by_cases e:j=k
   · subst e;simp
   rw[bx e,bx (by omega)];rfl
 have sp:=Xm (k:Int) tm b.Lots
 unfold Ib
 cases hb':Fs b.Lots (k:Int) tm with
 |none=>
   rw[hb']at sp
   have:=sp _ hin
   rw[hc k,bj rfl]at this;cases this
 |some g=>
   rw[hb']at sp
   obtain⟨s1,s2,_⟩:=sp
   obtain⟨j,hj,rfl⟩:=(hb.lo g).1 s1
   rw[hc j]at s2
   have:=b8 s2
   subst this
   rfl
theorem FabB.JF{T:ByteArray}{b:Base}(hb:FabB T b){tm x r:Int}(ht:0≤tm∧tm≤1000000)(hx:0≤x∧x<12)(hr:1≤r∧r≤5):Fp b x 0 r 1 tm=true:=by
 obtain⟨m,hm,e1,e2,e3⟩:∃m:Nat,m<120∧((m/10:Nat):Int)=x∧((m/5%2:Nat):Int)=0∧((m%5+1:Nat):Int)=r:=⟨10*x.toNat+(r-1).toNat,by omega,by omega,by omega,by omega⟩
 unfold Fp
 refine List.find?_isSome.2 ⟨Mw m,hb.qu m hm,?_⟩
 show(((((m/10:Nat):Int)==x&&(((m/5%2:Nat):Int)==0&&(((m%5+1:Nat):Int)==r&&((1:Int)==1&&true))))&&decide ((0:Int)≤tm))&&decide (tm≤1000000))=true
 rw[e1,e2,e3,bj ht.1,bj ht.2]
 simp
theorem JG{T:ByteArray}{b:Base}(hb:FabB T b){L:List Sk}{l:List Fact}{a:GAct}{s:Sk}(hs:L[a.Step.toNat]?=some s)(h1:a.Step∈Nq L l)(h2:a.Tool∈s.tl)(h3:s.rc=a.Recipe)(hx:0≤a.Tool∧a.Tool<12)(hr:1≤a.Recipe∧a.Recipe≤5)(hc:a.Chamber=0)(hv:a.Revision=1)(ht:0≤a.Time∧a.Time≤1000000):aN b a L l=0:=by
 unfold aN
 rw[hs]
 dsimp only
 rw[bj h1,bj h2,bj h3,hc,hv,hb.JF ht hx hr,eM a hb.ho]
 rfl
def Tl(b:Base)(p:Fact):GAct:=⟨Pe b.Swaps p.Time p.Wafer,p.Step,p.Tool,p.Chamber,p.Recipe,p.Revision,p.Time⟩
def Vx(id:Int)(q:Fact):Bool:=decide (q.ID=id)
def Hm(l:List Fact)(id:Int):List Fact:=l.takeWhile fun q=> !Vx id q
theorem Tm{l:List Fact}{id:Int}(h:∀q∈l,Vx id q=false):Hm l id=l:=by
 unfold Hm
 induction l with
 |nil=>rfl
 |cons x l ih=>
   rw[kp (by rw[h x bu];rfl),ih fun q hq=>h q (b9 _ hq)]
theorem aS{l:List Fact}{id:Int}{k:Nat}{x:Fact}(hx:l[k]?=some x)(he:Vx id x=true)(hn:∀q∈l.take k,Vx id q=false):Hm l id=l.take k:=by
 unfold Hm
 induction l generalizing k with
 |nil=>simp at hx
 |cons y l ih=>
   cases k with
   |zero=>
     cases hx
     rw[List.takeWhile_cons_of_neg (by rw[he];decide)];rfl
   |succ k=>
     rw[kp (by rw[hn y (by simp)];rfl),ju,ih (by simpa using hx) fun q hq=>hn q (by rw[ju];exact b9 _ hq)]
def Mj(b:Base)(p:Fact):List Fact:=Hn b.Processes b.Swaps (Pe b.Swaps p.Time p.Wafer)
def Xo(b:Base)(L:List Sk)(p:Fact):Bool:= !decide (aN b (Tl b p) L (Hm (Mj b p) p.ID)=0)
def Lz(b:Base)(L:List Sk)(l:List Fact):List Int:=(l.filter (Xo b L)).map (·.ID)
theorem Mf{b:Base}{L:List Sk}{l:List Fact}{k:Nat}{p:Fact}(hp:l[k]?=some p):Lz b L (l.take (k+1))=Lz b L (l.take k)++if Xo b L p=true then[p.ID]else[]:=by
 unfold Lz
 rw[fz,hp,df,cm]
 congr 1
 show(List.filter (Xo b L) [p]).map (·.ID)=_
 by_cases h:Xo b L p=true
 · rw[jm h,bg h];rfl
 rw[im h,aq h];rfl
theorem aT{b:Base}{L:List Sk}{l:List Fact}(h:l.Pairwise fun x y=>x.ID<y.ID):(Lz b L l).Pairwise (· <·):=by
 unfold Lz
 rw[je]
 exact h.sublist List.filter_sublist
theorem rC{l:List Int}(h:l.Pairwise (· <·)):l.mergeSort (fun x y=>decide (x≤y))=l:=List.mergeSort_of_pairwise (h.imp fun h=>bj (Int.le_of_lt h))
theorem Ow{b:Base}{L:List Sk}{l:List Fact}:(Lz b L l).length≤l.length:=by
 unfold Lz
 rw[ef]
 exact dy _ _
def zZ(b:Base)(L:List Sk):Prop:=∀p∈b.Processes,WhyH b (Tl b p) L (Hm (Mj b p) p.ID)∧(Mj b p).length≤100000
theorem iM{n:Nat}{L:List Sk}(hM:MkS n L){j:Nat}{s:Sk}(hs:L[j]?=some s):Xl L j=s.rc∧s.tl[0]?=some (Th L j)∧(0≤Th L j∧Th L j<12)∧(1≤s.rc∧s.rc≤5):=by
 have hk:=hM j s hs
 unfold Xl Th
 rw[hs]
 dsimp only
 obtain⟨a,ha,ha6,e|⟨c,hc,hc8,e⟩⟩:=hk.tl<;>rw[e]<;>exact⟨rfl,rfl,⟨ha,by show a<12;omega⟩,hk.rc⟩
theorem eO{n:Nat}{L:List Sk}(hM:MkS n L){i j:Nat}{s:Sk}(hs:L[j]?=some s)(hj:j<40)(hi:i≤1000):Ca (Jv L i j)=true:=by
 obtain⟨h1,_,ht,hr⟩:=iM hM hs
 rw[←h1]at hr
 have hv:N7 (Hd (Jv L i j).Kind) (Jv L i j)=true:=bj (show((20*i:Nat):Int)≤((20*i+5:Nat):Int)by omega)
 have hn:Ih (fieldsOf 1) (Jv L i j)=some (Kv 1 1 0 false):=by
   rw[show fieldsOf 1=[Cq 1,Cq 7,⟨11,0,59⟩,⟨12,0,3⟩,⟨13,0,39⟩,Cq 14,Cq 15,Co,⟨6,0,1000000⟩,⟨16,-10000000,10000000⟩]from rfl]
   refine(aq (show ¬(((i+1:Nat):Int)<1∨(1000000:Int)<((i+1:Nat):Int))by omega)).trans ?_
   refine(aq (show ¬((1:Int)<1∨(1000000:Int)<1)by decide)).trans ?_
   refine(aq (show ¬(Th L j<0∨(59:Int)<Th L j)by omega)).trans ?_
   refine(aq (show ¬((0:Int)<0∨(3:Int)<0)by decide)).trans ?_
   refine(aq (show ¬((j:Int)<0∨(39:Int)<j)by omega)).trans ?_
   refine(aq (show ¬(Xl L j<1∨(1000000:Int)<Xl L j)by omega)).trans ?_
   refine(aq (show ¬((1:Int)<1∨(1000000:Int)<1)by decide)).trans ?_
   refine(aq (show ¬(((20*i:Nat):Int)<0∨(1000000:Int)<((20*i:Nat):Int))by omega)).trans ?_
   refine(aq (show ¬(((20*i+5:Nat):Int)<0∨(1000000:Int)<((20*i+5:Nat):Int))by omega)).trans ?_
   refine(aq (show ¬((0:Int)< -10000000∨(10000000:Int)<0)by decide)).trans ?_
   rfl
 unfold Ca
 rw[hv,show(Jv L i j).Kind=1 from rfl,hn]
 show(true&&(!(false|| !true)&&Fu (Kv 1 1 0 false) (Kv 1 1 0 false)))=true
 rw[Sv];rfl
theorem Fy{L:List Sk}{ss:List Nat}{p:Fact}(h:p∈Di L ss):∃i j,ss[i]?=some j∧p=Jv L i j:=by
 obtain⟨i,hi⟩:=eh.1 h
 rw[Hl]at hi
 cases e:ss[i]? with
 |none=>rw[e]at hi;cases hi
 |some j=>rw[e]at hi;cases hi;exact⟨i,j,e,rfl⟩
theorem rD{L:List Sk}(hM:MkS L.length L)(hl:L.length≤8){ss:List Nat}(hst:∀j∈ss,j<L.length)(hlen:ss.length≤1000):ExtP (Di L ss):=by
 have hv:∀p∈Di L ss,Ca p=true:=fun p hp=>by
   obtain⟨i,j,hj,rfl⟩:=Fy hp
   have h1:=hst j (ai hj)
   obtain⟨s,hs⟩:=Af (xs:=L) (i:=j) h1
   have h2:=(ak.1 hj).1
   exact eO hM hs oQ oQ
 refine⟨hv,fun p hp=>?_,fun p hp=>?_,fun p hp q hq e=>?_⟩
 · obtain⟨i,j,hj,rfl⟩:=Fy hp;exact .inl rfl
 · obtain⟨i,j,hj,rfl⟩:=Fy hp;rfl
 have vp:=hv p hp
 have vq:=hv q hq
 obtain⟨i,j,hj,rfl⟩:=Fy hp
 obtain⟨i',j',hj',rfl⟩:=Fy hq
 have e1:((i+1:Nat):Int)=((i'+1:Nat):Int):=JE vp vq rfl e
 have e2:i=i':=by omega
 subst e2
 rw[hj]at hj'
 cases hj'
 rfl
theorem Xp{L:List Sk}{ss:List Nat}:(Di L ss).Pairwise fun x y=>x.ID<y.ID∧x.Time<y.Time:=by
 rw[ei]
 intro i k hi hk hik
 obtain⟨a,b,h1,e1⟩:∃a b,ss[a]?=some b∧(Di L ss)[i]?=some (Jv L a b)∧a=i:=by
   have h:=cb hi
   rw[Hl]at h
   rw[D5]at hi
   refine⟨i,ss[i],cb hi,?_,rfl⟩
   rw[Hl,cb hi];rfl
 obtain⟨c,d,h2,e2⟩:∃a b,ss[a]?=some b∧(Di L ss)[k]?=some (Jv L a b)∧a=k:=by
   rw[D5]at hk
   refine⟨k,ss[k],cb hk,?_,rfl⟩
   rw[Hl,cb hk];rfl
 obtain⟨e1,rfl⟩:=e1
 obtain⟨e2,rfl⟩:=e2
 rw[(ak.1 e1).2,(ak.1 e2).2]
 exact⟨by show((a+1:Nat):Int)<((c+1:Nat):Int);omega,by show((20*a:Nat):Int)<((20*c:Nat):Int);omega⟩
theorem aU(t:Int):Pe [] t 1=1:=rfl
theorem rE{qs:List Fact}(hw:∀p∈qs,p.Wafer=1)(ht:qs.Pairwise fun x y=>x.Time<y.Time):Hn qs [] 1=qs:=by
 have hf:qs.filter (fun f=>decide (Pe [] f.Time f.Wafer=1))=qs:=ik.2 fun p hp=>by rw[hw p hp,aU];rfl
 unfold Hn
 rw[bg (by decide)]
 unfold Oe
 rw[hf]
 refine((StS.refl (key:=Ga) (ht.imp fun{x y}hxy=>?_)).eq).symm
 rw[Jd]
 show ¬(y.Time<x.Time∨(y.Time=x.Time∧y.ID<x.ID))
 omega
structure RwB(T:ByteArray)(L:List Sk)(ss:List Nat)(b:Base):Prop where
 fab:FabB T b
 pr:b.Processes=Di L ss
 sw:b.Swaps=[]
 hist:Hn b.Processes b.Swaps 1=Di L ss
theorem AA{T:ByteArray}(hT:T.size≤8000){L:List Sk}(hM:MkS L.length L)(hl:L.length≤8){ss:List Nat}(hst:∀j∈ss,j<L.length)(hlen:ss.length≤1000):RwB T L ss (Sr (Gk T++Di L ss) 0):=by
 have hE:=rD hM hl hst hlen
 have hp:(Sr (Gk T++Di L ss) 0).Processes=Di L ss:=rA hT hE (fun x=>⟨fun hx=>by
   have hx0:=hx
   obtain⟨i,j,hj,rfl⟩:=Fy hx
   exact⟨hx0,rfl,iz 0⟩,fun h=>h.1⟩) (Xp.imp fun h=>h.1)
 have hs:(Sr (Gk T++Di L ss) 0).Swaps=[]:=lR hT hE fun p hp h3=>by
   obtain⟨i,j,hj,rfl⟩:=Fy hp
   exact absurd (show(1:Int)=3 from h3) cQ
 refine⟨vJ hT hE (iz 0) (by rw[D5];omega),hp,hs,?_⟩
 rw[hp,hs]
 exact rE (fun p hp=>by obtain⟨i,j,hj,rfl⟩:=Fy hp;rfl) (Xp.imp fun h=>h.2)
def Pu(L:List Sk)(i j:Nat):GAct:=⟨1,(j:Int),Th L j,0,Xl L j,1,((20*i:Nat):Int)⟩
theorem eP{L:List Sk}{ss:List Nat}(hst:∀j∈ss,j<L.length):Ou L (Di L ss):=fun p hp=>by
 obtain⟨i,j,hj,rfl⟩:=Fy hp
 have:=hst j (ai hj)
 exact⟨show(0:Int)≤j by omega,show(j:Int)<L.length by omega⟩
section
variable {L:List Sk}{ss:List Nat}{b:Base}{i j:Nat}
theorem iN(hB:RwB (bs (Fj L)) L ss b)(hM:MkS L.length L)(hj:j<L.length)(hi:i≤1000){l:List Fact}(h:(j:Int)∈Nq L l):aN b (Pu L i j) L l=0:=by
 obtain⟨s,hs⟩:=Af (xs:=L) (i:=j) hj
 obtain⟨h1,h2,h3,h4⟩:=iM hM hs
 exact JG hB.fab (a:=Pu L i j) (show L[((j:Nat):Int).toNat]?=some s from hs) h (ai h2) h1.symm h3 (show 1≤Xl L j∧Xl L j≤5 by rw[h1];exact h4) rfl rfl (show 0≤((20*i:Nat):Int)∧((20*i:Nat):Int)≤1000000 by omega)
theorem aV(hB:RwB (bs (Fj L)) L ss b)(hM:MkS L.length L)(hl:1≤L.length∧L.length≤8)(hj:j<L.length){ss':List Nat}(hst:∀j∈ss',j<L.length)(hlen:ss'.length≤1000):WhyH b (Pu L i j) L (Di L ss'):=by
 have hlo:Ib b.Lots (Pu L i j).Wafer (Pu L i j).Time=(((1+1/3:Nat):Int),1):=hB.fab.rB (k:=1) cQ (show 0≤((20*i:Nat):Int)by omega)
 exact⟨by rw[hlo];exact(by decide:(1:Int)≠0),⟨Xi (bs (Fj L)),by rw[hlo];unfold aK;rw[hB.fab.fl];rfl,rfl⟩,hB.fab.le 3 cQ,hB.fab.le 4 cQ,hB.fab.le 5 cQ,hB.fab.le 6 cQ,hB.fab.le 7 cQ,
   hM.GD hl,hM.rT hl,⟨show(0:Int)≤j by omega,show(j:Int)<L.length by omega⟩,eP hst,by rw[D5];omega⟩
end
theorem iO{L:List Sk}(hM:MkS L.length L){j:Nat}{s:Sk}(hs:L[j]?=some s):s.lm=(aP L j:Int)∧aP L j≤3:=by
 unfold aP vE
 rw[hs]
 have:=(hM j s hs).bk
 dsimp only
 omega
theorem eS{L:List Sk}(hM:MkS L.length L):∀n,n≤L.length→Ka (aP L) n≤3*n
 |0,_=>bi _
 |n+1,h=>by
   obtain⟨s,hs⟩:=Af (xs:=L) (i:=n) oQ
   have h1:=(iO hM hs).2
   have h2:=eS hM n oQ
   show Ka (aP L) n+aP L n≤3*(n+1)
   omega
theorem Vy(L:List Sk)(ss:List Nat)(k:Nat):(Di L ss).take k=Di L (ss.take k):=by
 refine cx fun i=>?_
 rw[fj,Hl,Hl,fj]
 split<;>rfl
theorem lS{L:List Sk}{ss:List Nat}{i j:Nat}(hj:ss[i]?=some j):Hm (Di L ss) ((i+1:Nat):Int)=Di L (ss.take i):=by
 rw[←Vy]
 refine aS (x:=Jv L i j) (by rw[Hl,hj];rfl) (bj rfl) fun q hq=>?_
 rw[Vy]at hq
 obtain⟨a,c,ha,rfl⟩:=Fy hq
 have h1:=(ak.1 ha).1
 rw[ca]at h1
 exact bx (show ¬((a+1:Nat):Int)=((i+1:Nat):Int)by omega)
theorem AB{L:List Sk}{ss:List Nat}{b:Base}(hB:RwB (bs (Fj L)) L ss b)(hM:MkS L.length L)(hl:1≤L.length∧L.length≤8)(h:Wlk L ss)(hlen:ss.length≤1000):zZ b L∧Lz b L b.Processes=[]:=by
 have hst:=(Xn (hM.rT hl) h).st
 have key:∀p∈b.Processes,∃i j,ss[i]?=some j∧Tl b p=Pu L i j∧Mj b p=Di L ss∧Hm (Mj b p) p.ID=Di L (ss.take i):=fun p hp=>by
   rw[hB.pr]at hp
   obtain⟨i,j,hj,rfl⟩:=Fy hp
   have hw:Pe b.Swaps (Jv L i j).Time (Jv L i j).Wafer=1:=by rw[hB.sw];exact aU _
   have hh:Mj b (Jv L i j)=Di L ss:=by unfold Mj;rw[hw,hB.hist]
   refine⟨i,j,hj,?_,hh,?_⟩
   · unfold Tl
     rw[hw];rfl
   rw[hh];exact lS hj
 constructor
 · intro p hp
   obtain⟨i,j,hj,h1,h2,h3⟩:=key p hp
   rw[h1,h3,h2,D5]
   exact⟨aV hB hM hl (hst j (ai hj)) (fun x hx=>hst x (iw hx)) (by rw[ca];omega),by omega⟩
 unfold Lz
 rw[f8.2 fun p hp=>?_]
 · rfl
 obtain⟨i,j,hj,h1,h2,h3⟩:=key p hp
 have hw:=zY h i j hj
 unfold Xo
 rw[h1,h3,iN hB hM hw.1 (by have:=(ak.1 hj).1;omega) hw.2]
 decide
end Go.Wx
namespace Go.Proofs.YthcabjphnacjeaaGreatDoor
open Go.Proofs.Tryz
open Go.Wx Go.RowKit
set_option maxHeartbeats 1000000 in
theorem vK(ad:Option Addr)(cp:Nat)(xs:List I6)(hxs:∀y∈xs,bG y)(w:World)(hE:Els w ad 6 I6.cells xs):Ret prog 5 #[.slice ad xs.length cp] w fun r w'=>∃av cv L v,r=.tuple #[v,.agg (Cx av L.length cv none 0 0)]∧(1≤L.length∧L.length≤8)∧MkS L.length L∧Wx.Sep no w w' [lL av L,Aw 47 19 Fact.cells v (Gk (bs (Fj L)))]:=by
 obtain⟨w0,rfl,hS⟩:=W0 w
 refine cT 59 func5 rfl ?_
 refine Ae (Az ?_)
 refine Ap (.Cb mj) rfl ?_
 rintro _ w1 ⟨B3,rfl,NB3⟩
 have eB3:=NB3.at_
 have zB3:=NB3.size
 replace hS:=hS.Cf NB3
 change Wx.Sep _ _ _ [_]at hS
 refine An (Aa (I rfl ?_))
 refine A3 (eC (.ct rfl (.cons (.const _) .nil)) (GS)) rfl (qM ad cp xs hxs _ (Els.up hE hS.Ch)) ?_
 rintro _ w2 ⟨av,cv,L,rfl,hlr,hMk,hF,uw2⟩
 have zw2:=uw2.size
 replace hS:=hS.add uw2 (A':=lL av L) (hF.g) (iE hF.b)
 change Wx.Sep _ _ _ [_,_]at hS
 refine Ap (.Cb mj) rfl ?_
 rintro _ w3 ⟨B4,rfl,MB4⟩
 refine Ce (.Cc m4 rfl (.t rfl) (.t rfl) (Hu _ _ _ _ _ _) MB4.blk rfl) ?_
 intro w4 LB4
 have NB4:=MB4.set LB4
 clear LB4 MB4
 have eB4:=NB4.at_
 have zB4:=NB4.size
 replace hS:=hS.Cf NB4
 change Wx.Sep _ _ _ [_,_,_]at hS
 refine An (Aa ?_)
 refine U (.lc rfl (hS.b2.agg)) ?_
 refine A3 (eC (.o rfl) (GU)) rfl (lH av cv L _ (hS.get 1 rfl) (hMk.GD hlr)) ?_
 rintro _ w5 ⟨rfl,uw5⟩
 have zw5:=uw5.size
 replace hS:=hS.up uw5
 refine I rfl (U (.xt rfl rfl) (U (.xt rfl rfl) (LW.A rfl (LW.A rfl (An (Aa (I rfl ?_)))))))
 refine U (.build (cs:=(Xi (bs (Fj L))).cells) mc lg F3 (.cons (.const _) (.cons (.const _) (.cons (.const _) (.cu rfl)))) rfl) ?_
 refine Ap (.buildSlice (xs:=([Xi (bs (Fj L))])) (enc:=Fact.cells) (mk:=fun f=>.agg f.cells) kz k7 lg rfl cQ (fun _=>rfl) (fun _=>rfl) (.cu rfl) rfl) rfl ?_
 intro v22 w6 hN22
 obtain⟨uw6,B22,rfl,e22,hO22⟩:=NewSl.own hN22 (fun _=>rfl) cQ (by simp[maxLen])
 have zw6:=uw6.size
 replace hS:=hS.add uw6 (A':=Aw 47 19 Fact.cells (.slice (some ⟨B22,0,none⟩) 1 1) ([Xi (bs (Fj L))])) hO22 (fun i h=>by cases h;exact fh e22.symm)
 change Wx.Sep _ _ _ [_,_,_,_]at hS
 refine LW.A rfl (An (Ae (Az (Ah (Ai ?_)))))
 refine A7 (σ:=Nat×Go.Value) (fun s w=>(1≤s.1∧s.1≤4)∧(Wx.Sep no w0 w [A5 B3 lD 29,lL av L,A5 B4 (Cx av L.length cv none 0 0) 29,Aw 47 19 Fact.cells (s.2) (Uk (bs (Fj L)) s.1)])) (fun s=>[(8,.eq (vi (s.1:Int))),(7,.eq (s.2))]) ([(2,.eq _),(3,.eq _),(4,.eq _)]) (fun s=>4-s.1) (1,.slice (some ⟨B22,0,none⟩) 1 1) ?_ tQ ?_
 ·exact⟨(show 1≤1∧1≤4 by omega),hS⟩
 rintro⟨k,v⟩ w7 ⟨hk,hS⟩
 dsimp only at hk hS
 change Wx.Sep _ _ _ [_,_,_,_]at hS
 change CW _ _ _ _ _ _ _ ([(8,.eq (vi (k:Int))),(7,.eq (v))]++_) _
 refine Ak (Ae (I rfl ?_))
 refine U (.leq (.t rfl) (.const _)) ?_
 refine Ah ?_
 refine CW.b rfl (fun h24=>?_) (fun h24=>?_)
 ·replace h24:=dQ h24
  refine Aj (Ab (Ak (Ai ?_)))
  have hlP:=aI (bs (Fj L)) k
  refine Aa (I rfl (I rfl (I rfl ?_)))
  refine U (.Dr (v':=vi ((k/3:Nat):Int)) (PEv.quo (.t rfl) (.const _) cQ) (bh vi (IZ oQ))) ?_
  refine U (.add (.const _) (.t rfl) oQ oQ) ?_
  refine U (.build (cs:=(J9 k).cells) mc lg F3 (.cons (.const _) (.cons (.const _) (.ct rfl (.ct rfl (.cons (.const _) .nil))))) rfl) ?_
  refine Ap (.buildSlice (xs:=[J9 k]) (enc:=Fact.cells) (mk:=fun f=>.agg f.cells) kz k7 lg rfl cQ (fun _=>rfl) (fun _=>rfl) (.cu rfl) rfl) rfl ?_
  rintro _ w8 ⟨B33,cB33,rfl,NB33,yB33,xB33⟩
  have eB33:=NB33.at_
  have zB33:=NB33.size
  replace hS:=hS.up NB33.up
  have hE33:=xB33
  refine Ap (.Df (enc:=Fact.cells) (bytes:=160) (i:=Tryz.t47) kz kQ rfl rfl rfl rfl cQ (fun _=>rfl) Fact.one (.t rfl) (.t rfl) (hS.own 3 rfl) (Ay hE33) (by simp[maxLen];omega) (by simp;omega)) rfl ?_
  intro v34 w9 Gw9
  have zw9:=Gw9.fr.size
  replace hS:=hS.Ft 3 rfl Gw9
  change Wx.Sep _ _ _ [_,_,_,_]at hS
  refine LW.A rfl (LW.nil (Al (Ab (Aa (I rfl ?_)))))
  refine U (.ic rfl oQ) ?_
  refine LW.A rfl (LW.nil (Av ?_))
  exact⟨(k+1,v34),⟨by show 1≤k+1∧k+1≤4;omega,by show Wx.Sep _ _ _ [_,_,_,Aw _ _ _ _ (Uk _ (k+1))];rw[lJ _ hk.1];exact hS⟩,tQ,by show 4-(k+1)<4-k;omega⟩
 replace h24:=dQ h24
 refine A9 (Ac (Ac (Aq (Ab (Ak ?_)))))
 have hk4:k=4:=by omega
 subst hk4
 rw[lK]at hS
 refine Aa (Az (An (Ae (Az (Ah (Ai ?_))))))
 refine A7 (σ:=Nat×Go.Value) (fun s w=>(s.1≤12)∧(Wx.Sep no w0 w [A5 B3 lD 29,lL av L,A5 B4 (Cx av L.length cv none 0 0) 29,Aw 47 19 Fact.cells (s.2) (Qp (bs (Fj L)) (10*s.1))])) (fun s=>[(9,.eq (vi ((10*s.1:Nat):Int))),(10,.eq (vi (s.1:Int))),(7,.eq (s.2))]) ([(2,.eq _),(3,.eq _),(4,.eq _)]) (fun s=>12-s.1) (0,v) ?_ tQ ?_
 ·exact⟨a_ _,hS⟩
 rintro⟨t,v⟩ w10 ⟨hk,hS⟩
 dsimp only at hk hS
 change Wx.Sep _ _ _ [_,_,_,_]at hS
 change CW _ _ _ _ _ _ _ ([(9,.eq (vi ((10*t:Nat):Int))),(10,.eq (vi (t:Int))),(7,.eq (v))]++_) _
 refine Ak (Ae (I rfl ?_))
 refine U (.lss (.t rfl) (.const _)) ?_
 refine Ah ?_
 refine CW.b rfl (fun h36=>?_) (fun h36=>?_)
 ·replace h36:=dQ h36
  refine Aj (Ab (Ak (Ai (Ae (Az (Ah (Ai ?_)))))))
  refine A7 (σ:=Nat×Go.Value) (fun s w=>(s.1≤2)∧(Wx.Sep no w0 w [A5 B3 lD 29,lL av L,A5 B4 (Cx av L.length cv none 0 0) 29,Aw 47 19 Fact.cells (s.2) (Qp (bs (Fj L)) (10*t+5*s.1))])) (fun s=>[(9,.eq (vi ((10*t+5*s.1:Nat):Int))),(11,.eq (vi (s.1:Int))),(7,.eq (s.2))]) ([(2,.eq _),(3,.eq _),(4,.eq _),(10,.eq _)]) (fun s=>2-s.1) (0,v) ?_ tQ ?_
  ·exact⟨a_ _,hS⟩
  rintro⟨c,v⟩ w11 ⟨hk,hS⟩
  dsimp only at hk hS
  change Wx.Sep _ _ _ [_,_,_,_]at hS
  change CW _ _ _ _ _ _ _ ([(9,.eq (vi ((10*t+5*c:Nat):Int))),(11,.eq (vi (c:Int))),(7,.eq (v))]++_) _
  refine Ak (Ae (I rfl ?_))
  refine U (.lss (.t rfl) (.const _)) ?_
  refine Ah ?_
  refine CW.b rfl (fun h40=>?_) (fun h40=>?_)
  ·replace h40:=dQ h40
   refine Aj (Ab (Ak (Ai (Ae (Az (Ah (Ai ?_)))))))
   refine A7 (σ:=Nat×Go.Value) (fun s w=>(s.1≤5)∧(Wx.Sep no w0 w [A5 B3 lD 29,lL av L,A5 B4 (Cx av L.length cv none 0 0) 29,Aw 47 19 Fact.cells (s.2) (Qp (bs (Fj L)) (10*t+5*c+s.1))])) (fun s=>[(9,.eq (vi ((10*t+5*c+s.1:Nat):Int))),(12,.eq (vi ((s.1+1:Nat):Int))),(7,.eq (s.2))]) ([(2,.eq _),(3,.eq _),(4,.eq _),(10,.eq _),(11,.eq _)]) (fun s=>5-s.1) (0,v) ?_ tQ ?_
   ·exact⟨a_ _,hS⟩
   rintro⟨j,v⟩ w12 ⟨hk,hS⟩
   dsimp only at hk hS
   change Wx.Sep _ _ _ [_,_,_,_]at hS
   change CW _ _ _ _ _ _ _ ([(9,.eq (vi ((10*t+5*c+j:Nat):Int))),(12,.eq (vi ((j+1:Nat):Int))),(7,.eq (v))]++_) _
   refine Ak (Ae (I rfl ?_))
   refine U (.leq (.t rfl) (.const _)) ?_
   refine Ah ?_
   refine CW.b rfl (fun h44=>?_) (fun h44=>?_)
   ·replace h44:=dQ h44
    refine Aj (Ab (Ak (Ai (Ak ?_))))
    obtain⟨m,em⟩:∃m,m=10*t+5*c+j:=⟨_,rfl⟩
    have hlQ:=aJ (bs (Fj L)) m
    refine Aa (I rfl ?_)
    refine U (.Dr (v':=vi ((10*t+5*c+(j+1):Nat):Int)) (PEv.add (.t rfl) (.const _) oQ oQ) (bh vi oQ)) ?_
    refine LW.A rfl (Ah ?_)
    rw[←em]at hS
    refine Aa (I rfl ?_)
    refine U (.Dr (v':=vi ((m:Int)+1)) (PEv.mv rfl) (bh vi oQ)) ?_
    refine U (.Dr (v':=vi ((m/10:Nat):Int)) (PEv.mv rfl) (bh vi oQ)) ?_
    refine U (.Dr (v':=vi ((m/5%2:Nat):Int)) (PEv.mv rfl) (bh vi oQ)) ?_
    refine U (.Dr (v':=vi ((m%5+1:Nat):Int)) (PEv.mv rfl) (bh vi oQ)) ?_
    refine U (.build (cs:=(Mw m).cells) mc lg F3 (.cons (.const _) (.cons (.const _) (.ct rfl (.ct rfl (.ct rfl (.ct rfl (.cons (.const _) (.cons (.const _) .nil)))))))) rfl) ?_
    refine Ap (.buildSlice (xs:=[Mw m]) (enc:=Fact.cells) (mk:=fun f=>.agg f.cells) kz k7 lg rfl cQ (fun _=>rfl) (fun _=>rfl) (.cu rfl) rfl) rfl ?_
    rintro _ w13 ⟨B55,cB55,rfl,NB55,yB55,xB55⟩
    have eB55:=NB55.at_
    have zB55:=NB55.size
    replace hS:=hS.up NB55.up
    have hE55:=xB55
    refine Ap (.Df (enc:=Fact.cells) (bytes:=160) (i:=Tryz.t47) kz kQ rfl rfl rfl rfl cQ (fun _=>rfl) Fact.one (.t rfl) (.t rfl) (hS.own 3 rfl) (Ay hE55) (by simp[maxLen];omega) (by simp;omega)) rfl ?_
    intro v56 w14 Gw14
    have zw14:=Gw14.fr.size
    replace hS:=hS.Ft 3 rfl Gw14
    change Wx.Sep _ _ _ [_,_,_,_]at hS
    refine LW.A rfl (LW.nil (Al (Ab (Aa (I rfl ?_)))))
    refine U (.Dr (v':=vi ((j+1+1:Nat):Int)) (PEv.add (.t rfl) (.const _) oQ oQ) (bh vi oQ)) ?_
    refine LW.A rfl (LW.nil (Av ?_))
    exact⟨(j+1,v56),⟨by show j+1≤5;omega,by show Wx.Sep _ _ _ [_,_,_,Aw _ _ _ _ (Qp _ (10*t+5*c+j+1))];rw[lI,←em];exact hS⟩,tQ,by show 5-(j+1)<5-j;omega⟩
   replace h44:=dQ h44
   refine A9 (Ac (Ac (Aq (Al (Ab ?_)))))
   have hj5:j=5:=by omega
   subst hj5
   refine Aa (I rfl ?_)
   refine U (.ic rfl oQ) ?_
   refine LW.A rfl (LW.nil (Av ?_))
   exact⟨(c+1,v),⟨by show c+1≤2;omega,hS⟩,tQ,by show 2-(c+1)<2-c;omega⟩
  replace h40:=dQ h40
  refine A9 (Ac (Ac (Aq (Al (Ab ?_)))))
  have hc2:c=2:=by omega
  subst hc2
  refine Aa (I rfl ?_)
  refine U (.ic rfl oQ) ?_
  refine LW.A rfl (LW.nil (Av ?_))
  exact⟨(t+1,v),⟨by show t+1≤12;omega,hS⟩,tQ,by show 12-(t+1)<12-t;omega⟩
 replace h36:=dQ h36
 refine A9 (Ac (Ac (Aq (Ab (Ak ?_)))))
 have ht12:t=12:=by omega
 subst ht12
 refine Cz 3 kQ kQ kQ kQ kQ rfl rfl ?_
 refine J (.mv rfl) ?_
 refine J (.lc rfl (hS.b2.agg)) ?_
 refine J (.assign (.t rfl)) ?_
 refine HW.nil ?_
 intro w15 uw15
 have zw15:=uw15.size
 replace hS:=hS.up uw15
 refine Ce (.Cc m4 rfl (.t rfl) (.t rfl) (Hu _ _ _ _ _ _) hS.b0 rfl) ?_
 intro w16 Nw16
 have zw16:=Nw16.size
 replace hS:=hS.Ec 0 rfl Nw16
 change Wx.Sep _ _ _ [_,_,_,_]at hS
 refine Ah (Am ?_)
 refine qN rfl rfl rfl isAgg29 m4 rfl hS.b0.agg ⟨_,rfl,?_⟩
 exact⟨av,cv,L,_,rfl,hlr,hMk,hS.sub (.cons _ (.cons_cons _ (.cons _ (List.Sublist.refl _))))⟩
theorem rF(ad:Option Addr)(cp:Nat)(l:List Int)(x0:Int)(w:World)(hE:Els w ad 1 A4 l)(hl:l.length≤100000):Ret prog 220 #[.slice ad l.length cp,vi x0] w fun r w'=>∃i,r=vi i∧decide (0≤i)=decide (x0∈l)∧Up w w':=by
 have hW:=Up.refl w
 obtain⟨w0,rfl,_⟩:=W0 w
 refine cT 19 func220 rfl ?_
 refine Ae (Az (An (Ae (I rfl ?_))))
 refine U (.Cl ky (.t rfl)) ?_
 refine U (.move (.const _)) ?_
 refine Ah (Ai ?_)
 refine A7 (σ:=Nat) (fun s w=>(s≤l.length)∧(x0∉l.take s)∧(Up w0 w)) (fun s=>[(8,.eq (vi (s:Int)))]) ([(0,.eq _),(1,.eq _),(7,.eq _)]) (fun s=>l.length-s) 0 ?_ tQ ?_
 ·exact⟨a_ _,by simp,hW⟩
 rintro k w1 ⟨hk,hn,hW⟩
 refine Ae ?_
 refine U (.l2 rfl rfl) ?_
 refine An ?_
 refine CW.b rfl (fun h9=>?_) (fun h9=>?_)
 ·replace h9:=dQ h9
  refine Aj (Ab (Ak (Ai (Ae (I rfl (LW.A rfl (An (Aa (I rfl (I rfl ?_))))))))))
  refine I rfl ?_
  obtain⟨x,hx⟩:=Af (xs:=l) (i:=k) oQ
  obtain⟨Bx,ox,ax,hcx⟩:=(Els.up hE hW) _ x hx
  refine U (.Ao ky k6 (.t rfl) (.t rfl) oQ ax) ?_
  refine U (.lb rfl (hcx.nth (j:=0) rfl)) ?_
  refine U (.eql (.t rfl) (.t rfl)) ?_
  refine Ah ?_
  refine CW.b rfl (fun h16=>?_) (fun h16=>?_)
  ·replace h16:=dQ h16
   refine Ae (I rfl (LW.A rfl (Ah (Am (A6 (Au (Au (A6 (Au ?_)))))))))
   refine KW.q ?_
   first|exact⟨_,rfl,by subst h16;rw[bj (ai hx)];exact bj oQ,hW⟩|exact⟨_,rfl,by rw[show k=l.length by omega,b7]at hn;rw[bx hn];rfl,hW⟩
  replace h16:=dQ h16
  refine Aj (Al (Ab (Aa ?_)))
  refine U (.ic rfl oQ) ?_
  refine I rfl (LW.nil (Av ?_))
  exact⟨k+1,⟨by omega,qO hn hx h16,hW⟩,tQ,by first|omega|(dsimp only;omega)⟩
 replace h9:=dQ h9
 refine A9 (Ac (Ac (Aq (Ab (Ae (Az (Ah (Am ?_))))))))
 refine KW.q ?_
 first|exact⟨_,rfl,by subst h16;rw[bj (ai hx)];exact bj oQ,hW⟩|exact⟨_,rfl,by rw[show k=l.length by omega,b7]at hn;rw[bx hn];rfl,hW⟩
theorem Tn(ad:Option Addr)(cp:Nat)(l:List Int)(x0:Int)(w:World)(hE:Els w ad 1 A4 l)(hl:l.length≤100000):Ret prog 158 #[.slice ad l.length cp,vi x0] w fun r w'=>r=.bool (decide (x0∈l))∧Up w w':=by
 have hW:=Up.refl w
 obtain⟨w0,rfl,_⟩:=W0 w
 refine cT 9 func158 rfl ?_
 refine Ae (Az (An (Aa (I rfl (I rfl ?_)))))
 refine A3 (eC (.u rfl rfl) (DY)) rfl (rF ad cp l x0 _ (Els.up hE hW) hl) ?_
 rintro _ w1 ⟨i,rfl,hi,uw1⟩
 have zw1:=uw1.size
 replace hW:=hW.up uw1
 refine U (.geq (.t rfl) (.const _)) ?_
 refine LW.A rfl (Ah (Am ?_))
 refine KW.q ?_
 exact⟨bh Go.Value.bool hi,hW⟩
theorem rG(bc:Array Go.Value)(b:Base)(a:GAct)(Bb Ba:Nat)(w:World)(hC:BaseC w bc b)(hB:Blk w Bb bc 35)(hA:Blk w Ba (GAct.cells a) 44)(hH:b.Holds.length≤1000000000)(hR:b.Releases.length<9223372036854775807)(hL:b.Lots.length<9223372036854775807):Ret prog 174 #[.pointer (some ⟨Bb,0,none⟩),.pointer (some ⟨Ba,0,none⟩)] w fun r w'=>r=.bool (decide (0<(Iq b a).length))∧Up w w':=by
 have hW:=Up.refl w
 obtain⟨w0,rfl,_⟩:=W0 w
 refine cT 8 func174 rfl ?_
 refine Ae (Az (An (Aa ?_)))
 refine U (.F7 mg lz (hC.size) (.t rfl) ((hB.up hW).agg)) ?_
 refine U (.lc rfl ((hA.up hW).agg)) ?_
 refine A3 (eC (.u rfl rfl) (DF)) rfl (kW bc b a _ (hC.up hW) hH hR hL) ?_
 rintro v5 w1 ⟨hO5,uw1⟩
 have zw1:=uw1.size
 replace hW:=hW.up uw1
 obtain⟨ad5,cp5,rfl,_⟩:=hO5.sl (fun _=>rfl)
 refine U (.Cl ky (.t rfl)) ?_
 refine U (.gtr (.t rfl) (.const _)) ?_
 refine LW.A rfl (Ah (Am ?_))
 refine KW.q ?_
 exact⟨by simp,hW⟩
theorem rH(X Y:Nat→Prop)(B9 Br:Nat)(rs:List Rsn)(G:World→Prop)(w:World)(hGu:∀W W',G W→Up W W'→G W')(hGk:∀W W',G W→Kx w.heap.size X Y W W'→G W')(hGr:∀W,G W→∀r∈rs,Ret prog r.fn (#[]++r.lb) W fun v W'=>v=.bool r.yes∧Up W W')(hen:∀r∈rs,∀args w,(callFunc r.fn args).run prog w=.ok (.enter r.fn args) w)(hl:rs.length≤100)(_:¬X B9)(hRX:¬X Br)(hQ0:Blk w B9 #[.slice (some ⟨Br,0,none⟩) rs.length rs.length] 230)(hE0:Els w (some ⟨Br,0,none⟩) 2 Rsn.cells rs)(hG0:G w):
   IterS prog 176 #[.pointer (some ⟨B9,0,none⟩)] (fun x:qP rs=>#[vi x.1.num]) X Y (fun ys=>ys.map (·.1)=rs.filter (·.yes)) (fun _=>True) (rs.filter (·.yes)).length w:=by
 refine IterS.of ?_
 intro lp J Jx w0 hUw _ hY hJ
 obtain⟨Bd,hBd⟩:∃Bd,Bd=w0.heap.size:=⟨_,rfl⟩
 rw[←hBd]at hJ hY
 clear hBd
 have hQ:=hQ0.up hUw
 have hE:=Els.up hE0 hUw
 have hG:=Kep.up ⟨hG0,hGu⟩ hUw
 refine cT 22 func176 rfl ?_
 refine Ae ?_
 refine U (.lb rfl (hQ.Ad rfl)) ?_
 refine U (.Cl underlying230 (.t rfl)) ?_
 refine U (.move (.const _)) ?_
 refine Ah (Ai ?_)
 refine CW.loop (σ:=Nat×List (qP rs)) (fun s w=>s.1≤rs.length∧s.2.map (·.1)=(rs.take s.1).filter (·.yes)∧Jw Bd J s.2 w∧Els w (some ⟨Br,0,none⟩) 2 Rsn.cells rs∧Kep G w) (fun s=>[(0,.eq (.func (.yield lp) #[] #[])),(5,.eq (.slice (some ⟨Br,0,none⟩) rs.length rs.length)),(6,.eq (vi (rs.length:Int))),(7,.eq (vi (s.1:Int)))]) (fun s=>rs.length-s.1) (0,[]) ?_ ?_ ?_
 ·exact⟨a_ _,rfl,hJ,hE,hG⟩
 ·exact tQ
 rintro⟨k,pre⟩ w1 ⟨hk,hpr,hJ,hE,hG⟩
 dsimp only at hk hpr hJ hE hG
 refine Ae ?_
 refine U (.l2 rfl rfl) ?_
 refine An ?_
 refine CW.b rfl (fun h8=>?_) (fun h8=>?_)
 ·replace h8:=dQ h8
  refine Aj (Ab (Ak (Ai (Ae ?_))))
  obtain⟨x,hx⟩:=Af (xs:=rs) (i:=k) oQ
  obtain⟨Bx,ox,ax,hcx⟩:=hE _ x hx
  refine U (.Ao underlying230 sizeOf227 (.t rfl) (.t rfl) oQ ax) ?_
  refine U (.lc rfl (hcx)) ?_
  refine Ap (.Cb mz) rfl ?_
  rintro _ w2 ⟨B4,rfl,MB4⟩
  refine Ce (.Cc sizeOf227 rfl (.t rfl) (.t rfl) (Rsn.one _) MB4.blk rfl) ?_
  intro w3 LB4
  have NB4:=MB4.set LB4
  clear LB4 MB4
  have eB4:=NB4.at_
  have zB4:=NB4.size
  replace hJ:=hJ.up NB4.up
  replace hE:=hE.up NB4.up
  replace hG:=hG.up NB4.up
  replace hcx:=hcx.up NB4.up
  have hB4:=NB4.blk
  refine An ?_
  cases hq3:x.yes with
  |false=>
   refine Aa ?_
   refine U (.fB 1 rfl) ?_
   refine U (.lb rfl (hB4.Ad rfl)) ?_
   refine A3 (Cs (.t rfl) .nil (hen x (ai hx))) rfl (hGr _ hG.g x (ai hx)) ?_
   rintro _ w4 ⟨e13,uw4⟩
   have zw4:=uw4.size
   replace hJ:=hJ.up uw4
   replace hE:=hE.up uw4
   replace hG:=hG.up uw4
   replace hB4:=hB4.up uw4
   rw[hq3]at e13
   subst e13
   refine I rfl ?_
   refine Bi ?_
   refine Bi ?_
   refine Bi ?_
   refine Bi ?_
   refine Bi ?_
   refine U (.C6 (b:=false) (.t rfl) (fun hp=>absurd (show false=true from hp) cQ)) ?_
   refine Ah ?_
   refine CW.f rfl ?_
   refine Aj (Al (Ab (Aa ?_)))
   refine U (.ic rfl oQ) ?_
   refine I rfl (LW.nil (Av ?_))
   first|exact⟨(k+1,pre++[⟨x,ai hx,hq3⟩]),⟨by omega,by rw[cm,hpr,Jz hx hq3];rfl,hJ2,hE,hG⟩,tQ,by show rs.length-(k+1)<rs.length-k;omega⟩|exact⟨(k+1,pre),⟨by omega,by rw[Qr hx hq3];exact hpr,hJ,hE,hG⟩,tQ,by show rs.length-(k+1)<rs.length-k;omega⟩
  |true=>
   refine Aa ?_
   refine U (.fB 1 rfl) ?_
   refine U (.lb rfl (hB4.Ad rfl)) ?_
   refine A3 (Cs (.t rfl) .nil (hen x (ai hx))) rfl (hGr _ hG.g x (ai hx)) ?_
   rintro _ w5 ⟨e13,uw5⟩
   have zw5:=uw5.size
   replace hJ:=hJ.up uw5
   replace hE:=hE.up uw5
   replace hG:=hG.up uw5
   replace hB4:=hB4.up uw5
   rw[hq3]at e13
   subst e13
   refine I rfl ?_
   refine Ar ?_
   refine I rfl ?_
   refine Ar ?_
   refine U (.fB 0 rfl) ?_
   refine Ar ?_
   refine U (.lb rfl (hB4.Ad rfl)) ?_
   refine Ar ?_
   refine LW.y (.t rfl) (.cu rfl) rfl rfl (hY _ ⟨x,ai hx,hq3⟩ _ hJ (by have:=fC hx hq3;rw[←hpr,ef]at this;exact this)) ?_
   rintro _ w6 ⟨y,rfl,hcase⟩
   refine Ar ?_
   refine U (.n1 rfl) ?_
   refine U (.pa rfl (fun hp=>(by first|exact .const _|exact .tmp rfl|exact .cond rfl (by first|assumption|simp_all)))) ?_
   refine Ah ?_
   refine CW.b rfl (fun h20=>?_) (fun h20=>?_)
   ·replace h20:=dQ h20
    have hy:y=false:=by simpa using h20
    subst hy
    obtain⟨_,hJx⟩:=hcase.resolve_left (by simp)
    refine Am (A6 (Au (Au (A6 ?_))))
    refine F8 rfl ⟨_,rfl,?_⟩
    first|exact .inl ⟨pre,by rw[hpr,hkk,b7],hJ.j⟩|exact .inr ⟨_,trivial,hJx⟩
   replace h20:=dQ h20
   have hy:y=true:=by simpa using h20
   subst hy
   obtain⟨_,hJ2,hN⟩:=hcase.resolve_right (by simp)
   replace hE:=hE.kx hN (fun B o e=>by cases e;exact hRX)
   replace hG:Kep G _:=⟨hGk _ _ hG.g hN,hG.u⟩
   refine Aj (Al (Ab (Aa ?_)))
   refine U (.ic rfl oQ) ?_
   refine I rfl (LW.nil (Av ?_))
   first|exact⟨(k+1,pre++[⟨x,ai hx,hq3⟩]),⟨by omega,by rw[cm,hpr,Jz hx hq3];rfl,hJ2,hE,hG⟩,tQ,by show rs.length-(k+1)<rs.length-k;omega⟩|exact⟨(k+1,pre),⟨by omega,by rw[Qr hx hq3];exact hpr,hJ,hE,hG⟩,tQ,by show rs.length-(k+1)<rs.length-k;omega⟩
 replace h8:=dQ h8
 have hkk:k=rs.length:=by omega
 refine A9 (Ac (Ac (Aq ?_)))
 refine Db rfl ⟨_,rfl,?_⟩
 first|exact .inl ⟨pre,by rw[hpr,hkk,b7],hJ.j⟩|exact .inr ⟨_,trivial,hJx⟩
theorem lT(f:Fact)(id:Int)(B:Nat)(w:World)(hB:Blk w B #[vi id] 3):Ret prog 150 #[.agg f.cells,.pointer (some ⟨B,0,none⟩)] w fun r w'=>r=.bool (decide (f.Product=id))∧Up w w':=by
 have hW:=Up.refl w
 obtain⟨w0,rfl,_⟩:=W0 w
 refine cT 8 func150 rfl ?_
 refine Ae ?_
 refine Ap (.bA rfl) rfl ?_
 rintro _ w1 ⟨B2,rfl,NB2⟩
 have eB2:=NB2.at_
 have zB2:=NB2.size
 replace hW:=hW.up NB2.up
 have hB2:=NB2.blk
 refine Az (An (Aa ?_))
 refine U (.fB 10 rfl) ?_
 refine U (.lb rfl (hB2.Ad rfl)) ?_
 refine U (.lb rfl ((hB.up hW).Ad rfl)) ?_
 refine U (.eql (.t rfl) (.t rfl)) ?_
 refine LW.A rfl (Ah (Am ?_))
 refine KW.q ?_
 exact⟨rfl,hW⟩
theorem rI(bc:Array Go.Value)(b:Base)(id:Int)(w:World)(hC:BaseC w bc b)(hl:b.Flows.length≤100000):Ret prog 74 #[.agg bc,vi id] w fun r w'=>r=.tuple #[.agg ((aK b id).getD Jj).cells,.bool (aK b id).isSome]∧Up w w':=by
 obtain⟨w0,rfl,hS⟩:=W0 w
 obtain⟨v4,h4,hr4⟩:=hC.JN
 obtain⟨ad,cp,rfl,hE0⟩:=hr4
 refine cT 12 func74 rfl ?_
 refine Ae ?_
 refine Ap (.bA rfl) rfl ?_
 rintro _ w1 ⟨B2,rfl,NB2⟩
 have eB2:=NB2.at_
 have zB2:=NB2.size
 replace hS:=hS.Cf NB2
 change Wx.Sep _ _ _ [_]at hS
 refine Ap (.O0 (.t rfl) rfl) rfl ?_
 rintro _ w2 ⟨B3,rfl,NB3⟩
 have eB3:=NB3.at_
 have zB3:=NB3.size
 replace hS:=hS.Cf NB3
 change Wx.Sep _ _ _ [_,_]at hS
 refine Ap (.Cb lg) rfl ?_
 rintro _ w3 ⟨B4,rfl,NB4⟩
 have eB4:=NB4.at_
 have zB4:=NB4.size
 replace hS:=hS.Cf NB4
 change Wx.Sep _ _ _ [_,_,_]at hS
 refine Az (An (Aa ?_))
 refine U (.fB 4 rfl) ?_
 refine U (.lb rfl (hS.b0.cell h4)) ?_
 refine U (.makeFunc (.cu rfl)) ?_
 refine A3 (eC (.u rfl rfl) (vV)) rfl (Vj 150 #[.pointer (some ⟨B3,0,none⟩)] (fun f=>decide (f.Product=id)) CL ad cp b.Flows _ (Els.up hE0 hS.Ch) hl (fun W u x=>lT x id B3 W (hS.b1.up u))) ?_
 rintro _ w4 ⟨rfl,uw4⟩
 have zw4:=uw4.size
 replace hS:=hS.up uw4
 refine U (.xt rfl rfl) (U (.xt rfl rfl) ?_)
 refine Ce (.Cc k7 rfl (.t rfl) (.t rfl) eQ hS.b2 rfl) ?_
 intro w5 Nw5
 have zw5:=Nw5.size
 replace hS:=hS.Ec 2 rfl Nw5
 change Wx.Sep _ _ _ [_,_,_]at hS
 refine LW.A rfl (Ah (Am ?_))
 refine St rfl rfl rfl nu k7 rfl (hS.b2).agg ⟨_,rfl,?_⟩
 exact⟨rfl,hS.Ch⟩
theorem aW(w:World):Ret prog 108 #[.agg mJ.cells] w fun r w'=>r=.bool true∧Up w w':=by
 obtain⟨w0,rfl,hS⟩:=W0 w
 refine cT 35 func108 rfl (Ae (Ap (.bA rfl) rfl ?_))
 rintro _ w1 ⟨B1,rfl,NB1⟩
 replace hS:=hS.Cf NB1
 refine Az (An (Ae (U (.fB 0 rfl) (U (.lb rfl (hS.b0.Ad rfl)) (U (.fB 1 rfl) (U (.lb rfl (hS.b0.Ad rfl)) (A3 (eC (.ct rfl (.cons (.const _) (.cu rfl))) (Um)) rfl (Hv _ _ _ _) ?_)))))))
 rintro _ w2 ⟨rfl,uw2⟩
 replace hS:=hS.up uw2
 refine U (.n1 rfl) (I rfl (LW.gr rfl (fun hc=>PEv.fB 1 rfl) (LW.gr rfl (fun hc=>PEv.load lv vQ (hS.b0.Ad rfl)) (LW.gr rfl (fun hc=>PEv.gtr vQ (.const _)) (U (.fa (PEv.po rfl (fun hp=>(by exact .cond rfl (by(rw[hp];rfl))))) (rfl)) (Ah (CW.f rfl (Aj (Ab (Ae (U (.fB 2 rfl) (U (.lc rfl ((fU (ds:=#[vi 1,vi 5]) (k:=2) hS.b0 (fun j hj=>by match j,hj with|0,_=>rfl|1,_=>rfl)))) (U (.fB 1 rfl) (U (.lb rfl (hS.b0.Ad rfl)) (A3 (eC (.u rfl rfl) (wA)) rfl (Rx _ _ _ _ cQ) ?_)))))))))))))))
 rintro _ w3 ⟨rfl,uw3⟩
 replace hS:=hS.up uw3
 refine I rfl (LW.gr rfl (fun hc=>PEv.fB 4 rfl) (LW.gr rfl (fun hc=>PEv.F7 isAgg56 sizeOf56 rfl vQ ((fU (ds:=#[vi 2,vi 29]) (k:=4) hS.b0 (fun j hj=>by match j,hj with|0,_=>rfl|1,_=>rfl)))) (LW.gr rfl (fun hc=>PEv.fB 1 rfl) (LW.gr rfl (fun hc=>PEv.load lv vQ (hS.b0.Ad rfl)) (eZ rfl rfl rfl rfl rfl rfl rfl rfl (fun hc=>Bh (.cons vQ (.cons vQ .nil)) (wA)) (fun hc=>Rx _ _ _ _ cQ) ?_)))))
 intro w4 uw4
 replace hS:=hS.up uw4
 refine U (.pa rfl (fun hp=>(by exact .cond rfl (by assumption)))) (I rfl (LW.gr rfl (fun hc=>PEv.fB 2 rfl) (LW.gr rfl (fun hc=>PEv.fieldAddr (off:=0) n7 rfl rfl k6 rfl vQ) (LW.gr rfl (fun hc=>PEv.load lv vQ (hS.b0.Ad rfl)) (LW.gr rfl (fun hc=>PEv.fB 4 rfl) (LW.gr rfl (fun hc=>PEv.fieldAddr (off:=0) n7 rfl rfl k6 rfl vQ) (LW.gr rfl (fun hc=>PEv.load lv vQ (hS.b0.Ad rfl)) (LW.gr rfl (fun hc=>PEv.neq vQ vQ) (U (.pa rfl (fun hp=>(by exact .cond rfl (by assumption)))) (LW.A rfl (Ah (Am (KW.q ?_)))))))))))))
 exact⟨rfl,hS.Ch⟩
theorem eT(w:World):Ret prog 107 #[.agg mJ.cells] w fun r w'=>r=.bool false∧Up w w':=by
 obtain⟨w0,rfl,hS⟩:=W0 w
 refine cT 6 func107 rfl (Ae (Ap (.bA rfl) rfl ?_))
 rintro _ w1 ⟨B1,rfl,NB1⟩
 replace hS:=hS.Cf NB1
 refine Az (An (Aa (U (.lc rfl (hS.b0.agg)) (A3 (eC (.o rfl) (BM)) rfl (aW _) ?_))))
 rintro _ w2 ⟨rfl,uw2⟩
 replace hS:=hS.up uw2
 refine U (.n1 rfl) (LW.A rfl (Ah (Am (KW.q ?_))))
 exact⟨rfl,hS.Ch⟩
theorem eU(ad:Option Addr)(cp:Nat)(w:World)(hE:Els w ad 6 Sg.cells [mJ]):Ret prog 36 #[.agg (P2 ad cp)] w fun r w'=>r=.bool true∧Up w w':=by
 obtain⟨w0,rfl,hS⟩:=W0 w
 refine cT 48 func36 rfl (Ae (Ap (.bA rfl) rfl ?_))
 rintro _ w1 ⟨B1,rfl,NB1⟩
 replace hS:=hS.Cf NB1
 refine Az (An (Aa (U (.build (cs:=(⟨-1,0,0⟩:Wn).cells) underlying51 nk Mn (.cons (.const _) .nil) rfl) (Ap (.Cb nk) rfl ?_))))
 rintro _ w2 ⟨B3,rfl,MB3⟩
 refine Ce (.Cc nj rfl (.t rfl) (.t rfl) (Wn.one _) MB3.blk rfl) ?_
 intro w3 LB3
 have NB3:=MB3.set LB3
 replace hS:=hS.Cf NB3
 refine An (Aa (U (.makeFunc (.ct rfl (.cu rfl))) (Ap (.Gc zeroValue170 rfl) rfl ?_)))
 rintro _ w4 ⟨B4,rfl,MB4⟩
 refine Ce (.store sizeOf170 (.t rfl) (.t rfl) rfl MB4.blk cQ) ?_
 intro w5 LB4
 have NB4:=MB4.set LB4
 replace hS:=hS.Cf NB4
 refine An (Ai (Ae (U (.fB 0 rfl) (U (.lb rfl (hS.b0.Ad rfl)) (A3 (eC (.ct rfl (.cons (.const _) (.cons (.const _) .nil))) (Um)) rfl (Hv _ _ _ _) ?_)))))
 rintro _ w6 ⟨rfl,uw6⟩
 replace hS:=hS.up uw6
 refine U (.n1 rfl) (I rfl (LW.gr rfl (fun hc=>PEv.fB 1 rfl) (LW.gr rfl (fun hc=>PEv.load lv vQ (hS.b0.Ad rfl)) (LW.gr rfl (fun hc=>PEv.fB 2 rfl) (LW.gr rfl (fun hc=>PEv.load lv vQ (hS.b0.Ad rfl)) (eZ rfl rfl rfl rfl rfl rfl rfl rfl (fun hc=>Bh (.cons vQ (.cons (.const _) (.cons vQ .nil))) (Um)) (fun hc=>Hv _ _ _ _) ?_))))))
 intro w7 uw7
 replace hS:=hS.up uw7
 refine LW.gr rfl (fun hc=>PEv.not vQ) (U (.po rfl (fun hp=>(by exact .cond rfl (by(rw[hp];rfl))))) (I rfl (LW.gr rfl (fun hc=>PEv.fB 2 rfl) (LW.gr rfl (fun hc=>PEv.load lv vQ (hS.b0.Ad rfl)) (LW.gr rfl (fun hc=>PEv.gtr vQ (.const _)) (U (.fa (PEv.po rfl (fun hp=>(by exact .cond rfl (by(rw[hp];rfl))))) (rfl)) (LW.A rfl (Ah (CW.f rfl (Ae (U (.fB 3 rfl) (U (.lb rfl (hS.b0.Ad rfl)) (U (.Cl m3 (.t rfl)) (A3 (eC (.ct rfl (.cons (.const _) (.cons (.const _) .nil))) (Um)) rfl (Hv _ _ _ _) ?_))))))))))))))
 rintro _ w8 ⟨rfl,uw8⟩
 replace hS:=hS.up uw8
 refine U (.n1 rfl) (I rfl (LW.gr rfl (fun hc=>PEv.fB 4 rfl) (LW.gr rfl (fun hc=>PEv.load isAgg27 vQ (hS.b0.Ad rfl)) (LW.gr rfl (fun hc=>PEv.Cl ly vQ) (LW.gr rfl (fun hc=>PEv.gtr vQ (.const _)) (U (.fa (PEv.po rfl (fun hp=>(by exact .cond rfl (by(rw[hp];rfl))))) (rfl)) (LW.A rfl (Ah (CW.f rfl (Aj (Al (Ab (Ae (U (.fB 3 rfl) (U (.lb rfl (hS.b0.Ad rfl)) (A3 (eC (.ct rfl (.cons (.func _) .nil)) (BJ)) rfl (T2 107 #[] BL ad cp [mJ] _ (Els.up hE hS.Ch) cQ (fun W u x hx=>by rw[bn.1 hx];exact eT W)) ?_))))))))))))))))
 rintro _ w9 ⟨rfl,uw9⟩
 replace hS:=hS.up uw9
 refine U (.n1 rfl) (I rfl (Ar (U (.fB 4 rfl) (Ar (U (.lb rfl (hS.b0.Ad rfl)) (Ar (U (.makeFunc (.cu rfl)) (Ar (A3 (eC (.u rfl rfl) (BN)) rfl (T3 _ _ BO none 0 [] _ (fun i x h=>by simp at h) cQ (fun W u x hx=>by simp at hx)) ?_)))))))))
 rintro _ w10 ⟨rfl,uw10⟩
 replace hS:=hS.up uw10
 refine Ar (U (.n1 rfl) (U (.pa rfl (fun hp=>(by exact .tmp rfl))) (LW.A rfl (Ah (Am (KW.q ?_))))))
 exact⟨rfl,hS.Ch⟩
theorem aX(B:Nat)(v:Go.Value)(L:List Int)(ov by_:Int)(w:World)(hl:L.length≤1000)(hsub: -1000000000≤by_-ov∧by_-ov≤1000000000)(hS0:Wx.Sep (Cv [A5 B #[v] 168,Aw 3 1 A4 (v) (L)]) w w [A5 B #[v] 168,Aw 3 1 A4 (v) (L)]):Ret prog 193 #[.pointer (some ⟨B,0,none⟩),vi ov,vi by_] w fun _ w'=>∃v',Wx.Sep (Cv [A5 B #[v] 168,Aw 3 1 A4 (v) (L)]) w w' [A5 B #[v'] 168,Aw 3 1 A4 (v') (L++[by_-ov])]:=by
 obtain⟨w0,rfl,_⟩:=W0 w
 have hS:=hS0
 refine cT 16 func193 rfl (Aa (I rfl (I rfl (U (.nc rfl) (U (.lb rfl (hS.b0.Ad rfl)) (I rfl (I rfl (U (.sub (.t rfl) (.t rfl) oQ oQ) (Ap (.buildSlice (xs:=[by_-ov]) (enc:=A4) (mk:=vi) underlying168 k6 lf rfl cQ (fun _=>rfl) (fun _=>rfl) (.cu rfl) rfl) rfl ?_)))))))))
 rintro _ w1 ⟨B13,cB13,rfl,NB13,yB13,xB13⟩
 replace hS:=hS.up NB13.up
 have hE13:=xB13
 refine Ap (.Df (enc:=A4) (bytes:=8) (i:=Tryz.t3) underlying168 kQ rfl rfl rfl rfl cQ (fun _=>rfl) Er (.t rfl) (.t rfl) (hS.own 1 rfl) (Ay hE13) (by simp[maxLen];omega) (by simp;omega)) rfl ?_
 intro v14 w2 Gw2
 replace hS:=hS.Ft 1 rfl Gw2
 refine U (.nc rfl) (Ce (.store sizeOf168 (.t rfl) (.t rfl) (hS.own 1 rfl).one hS.b0 bQ) ?_)
 intro w3 Nw3
 replace hS:=hS.Ec 0 rfl Nw3
 refine LW.nil (Db rfl ⟨_,rfl,?_⟩)
 exact⟨_,hS⟩
theorem aY(n:Int)(w:World)(hn:0≤n):Ret prog 195 #[vi n] w fun r w'=>r=.bool false∧Up w w':=by
 have hW:=Up.refl w
 refine cT 5 func195 rfl (Ae (Az (An (Aa (I rfl (U (.fa (PEv.lss (.t rfl) (.const _)) (bx oQ)) (LW.A rfl (Ah (Am (KW.q ?_))))))))))
 exact⟨rfl,hW⟩
theorem To(ad:Option Addr)(cp:Nat)(l:List Int)(w:World)(hE:Els w ad 1 A4 l)(hl:l.length≤1000)(hn:∀x∈l,0≤x):Ret prog 102 #[.slice ad l.length cp] w fun r w'=>r=.bool false∧Up w w':=by
 have hW:=Up.refl w
 refine cT 5 func102 rfl (Ae (Az (An (Aa (I rfl (A3 (eC (.ct rfl (.cons (.func _) .nil)) (DJ)) rfl (T4 195 #[] DK ad cp l _ (Els.up hE hW) oQ (fun W u x hx=>aY x W (hn x hx))) ?_))))))
 rintro _ w1 ⟨rfl,uw1⟩
 replace hW:=hW.up uw1
 refine LW.A rfl (Ah (Am (KW.q ?_)))
 exact⟨rfl,hW⟩
theorem lU(ad:Option Addr)(cp:Nat)(w:World)(hE:Els w ad 6 Sg.cells [mJ]):Ret prog 101 #[.agg (P2 ad cp)] w fun r w'=>Sl w' r 1 A4 [0,0]∧Up w w':=by
 obtain⟨w0,rfl,hS⟩:=W0 w
 refine cT 91 func101 rfl (Ae (Ap (.bA rfl) rfl ?_))
 rintro _ w1 ⟨B1,rfl,NB1⟩
 replace hS:=hS.Cf NB1
 refine Ap (.Gc zeroValue168 rfl) rfl ?_
 rintro _ w2 ⟨B2,rfl,NB2⟩
 replace hS:=hS.Cf NB2
 refine An ?_
 replace hS:=hS.Lb (OwnS.nil _ 0 3 1 A4)
 obtain⟨Bs,os,as_,hcs⟩:=hE 0 mJ rfl
 refine Cz 11 kQ kQ kQ kQ kQ rfl rfl (J (.fB 0 rfl) (J (.lb rfl (hS.b0.Ad rfl)) (J (.fB 2 rfl) (J (.lb rfl (hS.b0.Ad rfl)) (J (.add (.t rfl) (.t rfl) oQ oQ) (J (.fB 3 rfl) (J (.lb rfl (hS.b0.Ad rfl)) (J (.Ao m3 sizeOf58 (j:=0) (.t rfl) (.const _) cQ as_) (J (.fB 2 rfl) (J (.fB 1 rfl) (J (.lb rfl (((hcs.up hS.Ch).nth (j:=3) rfl))) (HW.nil ?_))))))))))))
 intro w3 uw3
 replace hS:=hS.up uw3
 replace hS:=hS.Ef 1 rfl
 replace hS:=hS.Ef 1 rfl
 have hq_:=(show Wx.Sep _ _ _ ([_]++[_,_])from hS)
 refine A3 (eC (.ct rfl (.ct rfl (.cu rfl))) (vZ)) rfl (aX B2 _ _ _ _ _ cQ cQ hq_.right.self) ?_
 rintro _ w4 ⟨v18,uw4⟩
 replace hS:=hq_.frame uw4
 refine An (Ae (U (.fB 3 rfl) (U (.lb rfl (hS.b0.Ad rfl)) (U (.Cl m3 (.t rfl)) (U (.move (.const _)) (Ah (Ai (A7 (σ:=Nat) (fun s w=>(s=0)∧(Wx.Sep no w0 w [A5 B1 (P2 ad cp) 65,A5 B2 #[v18] 168,Aw 3 1 A4 v18 ([]++[5-(0+5)])])) (fun s=>[(22,.eq (vi (s:Int)))]) ([(1,.eq _),(2,.eq _),(20,.eq _),(21,.eq _)]) (fun s=>1-s) 0 ?_ tQ ?_))))))))
 ·exact⟨rfl,hS⟩
 rintro k w5 ⟨hk,hS⟩
 subst hk
 refine Ae (U (.tr (PEv.l2 rfl rfl) (rfl)) (An (CW.v rfl (Aj (Ab (Ak (Ai (Ae (I rfl (U (.Ao m3 sizeOf58 (j:=0) (.t rfl) (.t rfl) cQ as_) (U (.lc rfl ((hcs.up hS.Ch))) (Ap (.Cb zeroValue58) rfl ?_))))))))))))
 rintro _ w6 ⟨B4,rfl,MB4⟩
 refine LW.A rfl (Ce (.Cc sizeOf58 rfl (.t rfl) (.t rfl) (Sg.one _) MB4.blk rfl) ?_)
 intro w7 LB4
 have NB4:=MB4.set LB4
 replace hS:=hS.Cf NB4
 refine An ?_
 have hs1:mJ.s1=5:=rfl
 have hs2:mJ.mx=20:=rfl
 refine Aa (U (.fB 2 rfl) (U (.fB 1 rfl) (U (.lb rfl (hS.b3.Ad rfl)) (U (.fB 1 rfl) (U (.lb rfl (hS.b3.Ad rfl)) (U (.add (.t rfl) (.t rfl) oQ oQ) (U (.sub (.t rfl) (.const _) oQ oQ) (U (.fB 2 rfl) (U (.lb rfl (hS.b0.Ad rfl)) (U (.add (.t rfl) (.t rfl) oQ oQ) (U (.fB 4 rfl) (U (.fB 1 rfl) (U (.lb rfl (hS.b3.Ad rfl)) ?_)))))))))))))
 replace hS:=hS.Ef 1 rfl
 replace hS:=hS.Ef 1 rfl
 have hq_:=(show Wx.Sep _ _ _ ([_,_]++[_,_])from hS)
 refine A3 (eC (.ct rfl (.ct rfl (.cu rfl))) (vZ)) rfl (aX B2 _ _ _ _ _ cQ cQ hq_.right.self) ?_
 rintro _ w8 ⟨v40,uw8⟩
 replace hS:=hq_.frame uw8
 refine An (Ae (I rfl (U (.ic rfl oQ) (U (.fB 3 rfl) (U (.lb rfl (hS.b0.Ad rfl)) (U (.Cl m3 (.t rfl)) (U (.tr (PEv.eql (.t rfl) (.t rfl)) (rfl)) (Ah (CW.v rfl (A9 (Ac (Jq cQ (Ac (Ac (Aq (Ab (Ae (U (.lb rfl (hS.b2.Ad rfl)) (Ce (.store sizeOf168 (.t rfl) (.t rfl) (hS.own 3 rfl).one hS.b2 bQ) ?_)))))))))))))))))))
 intro w9 Nw9
 replace hS:=hS.Ec 2 rfl Nw9
 refine Ah (Am (Qx rfl rfl isAgg168 (hS.b2.Ad rfl) ⟨_,rfl,?_⟩))
 exact⟨(hS.own 3 rfl).sl (fun _=>rfl),hS.Ch⟩
theorem rJ(ad:Option Addr)(cp:Nat)(w:World):Ret prog 103 #[.agg (P2 ad cp)] w fun r w'=>r=.slice none 0 0∧Up w w':=by
 obtain⟨w0,rfl,hS⟩:=W0 w
 refine cT 39 func103 rfl (Ae (Ap (.bA rfl) rfl ?_))
 rintro _ w1 ⟨B1,rfl,NB1⟩
 replace hS:=hS.Cf NB1
 refine Ap (.Gc zeroValue168 rfl) rfl ?_
 rintro _ w2 ⟨B2,rfl,NB2⟩
 replace hS:=hS.Cf NB2
 refine An (Ae (U (.fB 4 rfl) (U (.lb rfl (hS.b0.Ad rfl)) (U (.Cl ly (.t rfl)) (U (.move (.const _)) (Ah (Ai (A7 (σ:=Nat) (fun s w=>(s=0)∧(Wx.Sep no w0 w [A5 B1 (P2 ad cp) 65,A5 B2 #[.slice none 0 0] 168])) (fun s=>[(9,.eq (vi (s:Int)))]) ([(1,.eq _),(2,.eq _),(7,.eq _),(8,.eq _)]) (fun s=>1-s) 0 ?_ tQ ?_))))))))
 ·exact⟨rfl,hS⟩
 rintro k w3 ⟨hk,hS⟩
 subst hk
 refine Ae (U (.fa (PEv.l2 rfl rfl) (rfl)) (An (CW.f rfl (A9 (Ac (Ac (Aq (Ab (Ae (U (.lb rfl (hS.b1.Ad rfl)) (Ce (.store sizeOf168 (.t rfl) (.t rfl) rfl hS.b1 bQ) ?_)))))))))))
 intro w4 Nw4
 replace hS:=hS.Ec 1 rfl Nw4
 refine Ah (Am (Qx rfl rfl isAgg168 (hS.b1.Ad rfl) ⟨_,rfl,?_⟩))
 exact⟨rfl,hS.Ch⟩
theorem eV(ad:Option Addr)(cp:Nat)(w:World)(hE:Els w ad 6 Sg.cells [mJ]):Ret prog 35 #[.agg (P2 ad cp)] w fun r w'=>r=.bool true∧Up w w':=by
 obtain⟨w0,rfl,hS⟩:=W0 w
 refine cT 17 func35 rfl (Ae (Ap (.bA rfl) rfl ?_))
 rintro _ w1 ⟨B1,rfl,NB1⟩
 replace hS:=hS.Cf NB1
 refine Az (An (Aa (U (.lc rfl (hS.b0.agg)) (A3 (eC (.o rfl) (HB)) rfl (eU ad cp _ (Els.up hE hS.Ch)) ?_))))
 rintro _ w2 ⟨rfl,uw2⟩
 replace hS:=hS.up uw2
 refine I rfl (Ar (U (.lc rfl (hS.b0.agg)) (Ar (A3 (eC (.o rfl) (BH)) rfl (lU ad cp _ (Els.up hE hS.Ch)) ?_))))
 rintro _ w3 ⟨⟨ad7,cp7,rfl,hE7⟩,uw3⟩
 replace hS:=hS.up uw3
 refine Ar (A3 (eC (.o rfl) (vP)) rfl (To _ _ [0,0] _ hE7 cQ cQ) ?_)
 rintro _ w4 ⟨rfl,uw4⟩
 replace hS:=hS.up uw4
 refine Ar (U (.n1 rfl) (U (.pa rfl (fun hp=>(by exact .tmp rfl))) (I rfl (Ar (U (.lc rfl (hS.b0.agg)) (Ar (A3 (eC (.o rfl) (BI)) rfl (rJ ad cp _) ?_)))))))
 rintro _ w5 ⟨rfl,uw5⟩
 replace hS:=hS.up uw5
 refine Ar (A3 (eC (.o rfl) (vP)) rfl (To none 0 [] _ (fun i x h=>by simp at h) cQ cQ) ?_)
 rintro _ w6 ⟨rfl,uw6⟩
 replace hS:=hS.up uw6
 refine Ar (U (.n1 rfl) (U (.pa rfl (fun hp=>(by exact .tmp rfl))) (LW.A rfl (Ah (Am (KW.q ?_))))))
 exact⟨rfl,hS.Ch⟩
theorem lV(ad:Option Addr)(cp:Nat)(w:World)(hE:Els w ad 6 Sg.cells [mJ]):Ret prog 15 #[.agg (P2 ad cp)] w fun r w'=>∃sc:Array Go.Value,sc.size=5∧sc.all (·.oneCell')=true∧r=.tuple #[.agg sc,.bool true]∧Up w w':=by
 obtain⟨w0,rfl,hS⟩:=W0 w
 refine E3 (n:=28) func15 rfl rfl rfl (Ae (Ap (.bA rfl) rfl ?_))
 rintro _ w1 ⟨B1,rfl,NB1⟩
 replace hS:=hS.Cf NB1
 refine Ap (.Cb zeroValue60) rfl ?_
 rintro _ w2 ⟨B2,rfl,NB2⟩
 replace hS:=hS.Cf NB2
 refine Ap (.Gc mw rfl) rfl ?_
 rintro _ w3 ⟨B3,rfl,NB3⟩
 replace hS:=hS.Cf NB3
 refine An (Ae (U (.lc rfl (hS.b0.agg)) (A3 (eC (.o rfl) (HA)) rfl (eV ad cp _ (Els.up hE hS.Ch)) ?_)))
 rintro _ w4 ⟨rfl,uw4⟩
 replace hS:=hS.up uw4
 refine Ah (CW.v rfl (Ae (U (.build (cs:=#[.slice none 0 0,.slice none 0 0,vi 0,vi 0,vi 0]) underlying60 zeroValue60 Tw .nil rfl) (Ce (.Cc sizeOf60 rfl (.t rfl) (.t rfl) (by simp[Value.oneCell']) hS.b1 rfl) ?_))))
 intro w5 Nw5
 replace hS:=hS.Ec 1 rfl Nw5
 refine Ce (.store l9 (.t rfl) (.const _) rfl hS.b2 bQ) ?_
 intro w6 Nw6
 replace hS:=hS.Ec 2 rfl Nw6
 refine Ah (Am (Au (Ri (mQ rfl rfl rfl isAgg60 sizeOf60 rfl hS.b1.agg isAgg4 (hS.b2.Ad rfl) ⟨_,rfl,?_⟩))))
 exact⟨_,rfl,by simp[Value.oneCell'],rfl,hS.Ch⟩
theorem lW(w:World):Ret prog 4 #[] w fun r w'=>r=.bool true∧Up w w':=by
 obtain⟨w0,rfl,hS⟩:=W0 w
 refine cT 54 func4 rfl (Ae (Az (An (Aa (U (.build (cs:=mK.cells) underlying51 nk Mn (.cons (.const _) (.cons (.const _) (.cons (.const _) .nil))) rfl) (Ap (.buildSlice (xs:=([mK]:List Wn)) (enc:=Wn.cells) (mk:=fun x=>.agg x.cells) ly nj nk rfl cQ (fun _=>rfl) (fun _=>rfl) (.cu rfl) rfl) rfl ?_))))))
 intro v9 w1 hN9
 obtain⟨uw1,B9,rfl,e9,hO9⟩:=NewSl.own hN9 (fun _=>rfl) cQ (by simp[maxLen])
 replace hS:=hS.add uw1 (A':=Aw 51 3 Wn.cells (.slice (some ⟨B9,0,none⟩) 1 1) ([mK]:List Wn)) hO9 (fun i h=>by cases h;exact fh e9.symm)
 refine U (.build (cs:=#[vi 2,vi 5,.slice none 0 0,.slice (some ⟨B9,0,none⟩) 1 1]) underlying29 mj Ml (.cons (.const _) (.cons (.const _) (.cu rfl))) rfl) (Ap (.Cb mj) rfl ?_)
 rintro _ w2 ⟨B1,rfl,MB1⟩
 refine Ce (.Cc m4 rfl (.t rfl) (.t rfl) (by simp[Value.oneCell']) MB1.blk rfl) ?_
 intro w3 LB1
 have NB1:=MB1.set LB1
 replace hS:=hS.Cf NB1
 refine An (Ak ?_)
 replace hS:=hS.Lb (OwnS.nil _ 0 33 7 Sk.cells)
 replace hS:=hS.add (Up.refl _) (A':=Dp (([]:List Sk).flatMap (Ky 3))) ⟨fun A h=>by simp at h,List.Pairwise.nil⟩ (fun i h=>by obtain⟨A,h,_⟩:=h;simp at h)
 refine Aa (Az (Ah (Ai (A7 (σ:=Nat×Go.Value×List Sk) (fun s w=>(s.1≤3)∧(StQ s.2.2 s.1)∧(Wx.Sep no w0 w [Aw 51 3 Wn.cells (.slice (some ⟨B9,0,none⟩) 1 1) [mK],A5 B1 #[vi 2,vi 5,s.2.1,.slice (some ⟨B9,0,none⟩) 1 1] 29,Aw 33 7 Sk.cells s.2.1 s.2.2,Dp (s.2.2.flatMap (Ky 3))])) (fun s=>[(2,.eq (vi (s.1:Int)))]) ([(0,.eq _),(1,.eq _)]) (fun s=>3-s.1) (0,.slice none 0 0,[]) ?_ tQ ?_))))
 ·exact⟨a_ _,StQ.nil,hS⟩
 rintro⟨k,v,L⟩ w4 ⟨hk,hL,hS⟩
 dsimp only at hk hL hS
 change CW _ _ _ _ _ _ _ ([(2,.eq (vi (k:Int)))]++_) _
 refine Ak (Ae (I rfl (U (.lss (.t rfl) (.const _)) (Ah (CW.b rfl (fun h12=>?_) (fun h12=>?_))))))
 ·replace h12:=dQ h12
  refine Aj (Ab (Ak (Ai (Ak ?_))))
  have hk3:k<3:=co.1 h12
  refine Aa (I rfl (Ap (.buildSlice (xs:=([(k:Int)]:List Int)) (enc:=A4) (mk:=vi) ky k6 lf rfl cQ (fun _=>rfl) (fun _=>rfl) (.cu rfl) rfl) rfl ?_))
  intro v16 w5 hN16
  obtain⟨uw5,B16,rfl,e16,hO16⟩:=NewSl.own hN16 (fun _=>rfl) cQ (by simp[maxLen])
  replace hS:=hS.add uw5 (A':=Aw 3 1 A4 (.slice (some ⟨B16,0,none⟩) 1 1) ([(k:Int)]:List Int)) hO16 (fun i h=>by cases h;exact fh e16.symm)
  refine U (.build (cs:=(⟨1,[(k:Int)],some ⟨B16,0,none⟩,1,10,20,[],none,0,-1,0⟩:Sk).cells) underlying33 l5 Js (.cons (.const _) (.ct rfl (.cons (.const _) (.cons (.const _) (.cons (.const _) .nil))))) rfl) (Ap (.Cb l5) rfl ?_)
  rintro _ w6 ⟨B3,rfl,MB3⟩
  refine Ce (.Cc lr rfl (.t rfl) (.t rfl) (Sk.one _) MB3.blk rfl) ?_
  intro w7 LB3
  have NB3:=MB3.set LB3
  replace hS:=hS.Cf NB3
  refine An (Ae (I rfl (U (.lss (.t rfl) (.const _)) (Ah (CW.b rfl (fun h19=>?_) (fun h19=>?_))))))
  ·replace h19:=dQ h19
   have hnx:[(k:Int)+1]=uJ k:=by unfold uJ;rw[bg (by omega)]
   refine Aa (I rfl (U (.add (.t rfl) (.const _) oQ oQ) (Ap (.buildSlice (xs:=([(k:Int)+1]:List Int)) (enc:=A4) (mk:=vi) ky k6 lf rfl cQ (fun _=>rfl) (fun _=>rfl) (.cu rfl) rfl) rfl ?_)))
   intro v22 w8 hN22
   obtain⟨uw8,B22,rfl,e22,hO22⟩:=NewSl.own hN22 (fun _=>rfl) cQ (by simp[maxLen])
   replace hS:=hS.add uw8 (A':=Aw 3 1 A4 (.slice (some ⟨B22,0,none⟩) 1 1) ([(k:Int)+1]:List Int)) hO22 (fun i h=>by cases h;exact fh e22.symm)
   refine U (.fB 4 rfl) (Ce (.store mr (.t rfl) (.t rfl) rfl hS.b5 bQ) ?_)
   intro w9 Nw9
   replace hS:=hS.Ec 5 rfl (show Set_ _ w9 _ ((⟨1,[(k:Int)],some ⟨B16,0,none⟩,1,10,20,[(k:Int)+1],some ⟨B22,0,none⟩,1,-1,0⟩:Sk).cells) _ from Nw9)
   refine Ah (Aa (U (.fB 2 rfl) (U (.lb rfl (hS.b1.Ad rfl)) (U (.lc rfl (hS.b5.agg)) (Ap (.buildSlice (xs:=[(⟨1,[(k:Int)],some ⟨B16,0,none⟩,1,10,20,[(k:Int)+1],some ⟨B22,0,none⟩,1,-1,0⟩:Sk)]) (enc:=Sk.cells) (mk:=fun s=>.agg s.cells) k_ lr l5 rfl cQ (fun _=>rfl) (fun _=>rfl) (.cu rfl) rfl) rfl ?_)))))
   rintro _ w10 ⟨B27,cB27,rfl,NB27,yB27,xB27⟩
   replace hS:=hS.up NB27.up
   have hE27:=xB27
   refine Ap (.Df (enc:=Sk.cells) (bytes:=88) (i:=Tryz.t33) k_ kQ rfl rfl rfl rfl cQ (fun _=>rfl) Sk.one (.t rfl) (.t rfl) (hS.own 2 rfl) (Ay hE27) (by rw[hL.len];simp[maxLen];omega) (by rw[hL.len];simp;omega)) rfl ?_
   intro v28 w11 Gw11
   replace hS:=hS.Ft 2 rfl Gw11
   refine U (.fB 2 rfl) (Ce (.store sizeOf26 (.t rfl) (.t rfl) (hS.own 2 rfl).one hS.b1 bQ) ?_)
   intro w12 Nw12
   replace hS:=hS.Ec 1 rfl (show Set_ _ w12 _ (#[vi 2,vi 5,v28,.slice (some ⟨B9,0,none⟩) 1 1]) _ from Nw12)
   refine LW.nil (Al (Ab (Aa (I rfl (U (.ic rfl oQ) (LW.A rfl (LW.nil (Av ?_))))))))
   exact⟨(k+1,v28,L++[(⟨1,[(k:Int)],some ⟨B16,0,none⟩,1,10,20,[(k:Int)+1],some ⟨B22,0,none⟩,1,-1,0⟩:Sk)]),⟨by show k+1≤3;omega,hL.snoc (gW hk3 _ _ _ _ _ hnx) hnx,Q8 (Bs:=[_,_,_]) (s:=(⟨1,[(k:Int)],some ⟨B16,0,none⟩,1,10,20,[(k:Int)+1],some ⟨B22,0,none⟩,1,-1,0⟩:Sk)) (hS.sub (.cons_cons _ (.cons_cons _ (.cons_cons _ (.cons_cons _ (.cons_cons _ (.cons _ (.cons_cons _ .slnil))))))))⟩,tQ,by show 3-(k+1)<3-k;omega⟩
  replace h19:=dQ h19
  have hnx:([]:List Int)=uJ k:=by unfold uJ;rw[aq (by omega)]
  refine Aj (Ab (Aa (U (.fB 2 rfl) (U (.lb rfl (hS.b1.Ad rfl)) (U (.lc rfl (hS.b5.agg)) (Ap (.buildSlice (xs:=[(⟨1,[(k:Int)],some ⟨B16,0,none⟩,1,10,20,[],none,0,-1,0⟩:Sk)]) (enc:=Sk.cells) (mk:=fun s=>.agg s.cells) k_ lr l5 rfl cQ (fun _=>rfl) (fun _=>rfl) (.cu rfl) rfl) rfl ?_))))))
  rintro _ w13 ⟨B27,cB27,rfl,NB27,yB27,xB27⟩
  replace hS:=hS.up NB27.up
  have hE27:=xB27
  refine Ap (.Df (enc:=Sk.cells) (bytes:=88) (i:=Tryz.t33) k_ kQ rfl rfl rfl rfl cQ (fun _=>rfl) Sk.one (.t rfl) (.t rfl) (hS.own 2 rfl) (Ay hE27) (by rw[hL.len];simp[maxLen];omega) (by rw[hL.len];simp;omega)) rfl ?_
  intro v28 w14 Gw14
  replace hS:=hS.Ft 2 rfl Gw14
  refine U (.fB 2 rfl) (Ce (.store sizeOf26 (.t rfl) (.t rfl) (hS.own 2 rfl).one hS.b1 bQ) ?_)
  intro w15 Nw15
  replace hS:=hS.Ec 1 rfl (show Set_ _ w15 _ (#[vi 2,vi 5,v28,.slice (some ⟨B9,0,none⟩) 1 1]) _ from Nw15)
  refine LW.nil (Al (Ab (Aa (I rfl (U (.ic rfl oQ) (LW.A rfl (LW.nil (Av ?_))))))))
  exact⟨(k+1,v28,L++[(⟨1,[(k:Int)],some ⟨B16,0,none⟩,1,10,20,[],none,0,-1,0⟩:Sk)]),⟨by show k+1≤3;omega,hL.snoc (gW hk3 _ _ _ _ _ hnx) hnx,Q8 (Bs:=[_,_,_]) (s:=(⟨1,[(k:Int)],some ⟨B16,0,none⟩,1,10,20,[],none,0,-1,0⟩:Sk)) ((hS.Lb (OwnS.nil _ 0 3 1 A4)).sub (.cons_cons _ (.cons_cons _ (.cons_cons _ (.cons_cons _ (.cons_cons _ (.cons _ (.cons_cons _ .slnil))))))))⟩,tQ,by show 3-(k+1)<3-k;omega⟩
 replace h12:=dQ h12
 refine A9 (Ac (Ac (Aq (Ab (Ak ?_)))))
 have hk3:k=3:=by have:¬k<3:=fun h=>h12 (co.2 h);omega
 subst hk3
 obtain⟨s0,s1,s2,rfl⟩:=hL.three
 obtain⟨sa,sc,rfl,_⟩:=(hS.own 2 rfl).sl (fun _=>rfl)
 have hF:=FlE.of hL (hS.own 2 rfl) (hS.own 0 rfl) (hS.get 3 rfl)
 refine Aa (U (.lc rfl (hS.b1.agg)) (A3 (eC (.o rfl) (GP)) rfl (dY sa (some ⟨B9,0,none⟩) sc 1 s0 s1 s2 _ hF) ?_))
 rintro _ w16 ⟨ad31,cp31,rfl,hE31,uw16⟩
 replace hS:=hS.up uw16
 refine Ap (.Cb ng) rfl ?_
 rintro _ w17 ⟨B4,rfl,MB4⟩
 refine Ce (.Cc ni rfl (.t rfl) (.t rfl) (by simp[Jm,Value.oneCell']) MB4.blk rfl) ?_
 intro w18 LB4
 have NB4:=MB4.set LB4
 replace hE31:=hE31.up NB4.up
 replace hS:=hS.Cf NB4
 refine An (Aa (U (.build (cs:=#[vi 1,vi 5]) n7 zeroValue56 Mp (.cons (.const _) (.cons (.const _) .nil)) rfl) (U (.build (cs:=#[vi 2,vi 29]) n7 zeroValue56 Mp (.cons (.const _) (.cons (.const _) .nil)) rfl) (U (.build (cs:=mJ.cells) underlying58 zeroValue58 Tv (.cons (.const _) (.cons (.const _) (.ct rfl (.cu rfl)))) kQ) (Ap (.Cb zeroValue58) rfl ?_)))))
 rintro _ w19 ⟨B5,rfl,MB5⟩
 refine Ce (.Cc sizeOf58 rfl (.t rfl) (.t rfl) (Sg.one _) MB5.blk rfl) ?_
 intro w20 LB5
 have NB5:=MB5.set LB5
 replace hE31:=hE31.up NB5.up
 replace hS:=hS.Cf NB5
 refine An (Aa (U (.lc rfl (hS.b5.agg)) (Ap (.buildSlice (xs:=[mJ]) (enc:=Sg.cells) (mk:=fun s=>.agg s.cells) m3 sizeOf58 zeroValue58 rfl cQ (fun _=>rfl) (fun _=>rfl) (.cu rfl) rfl) rfl ?_)))
 rintro _ w21 ⟨B37,cB37,rfl,NB37,yB37,xB37⟩
 replace hS:=hS.up NB37.up
 replace hE31:=hE31.up NB37.up
 have hE37:=xB37
 refine U (.build (cs:=(P2 (some ⟨B37,0,none⟩) 1)) underlying65 zeroValue65 Ty (.cons (.const _) (.cons (.const _) (.cu rfl))) rfl) (A3 (eC (.o rfl) (GQ)) rfl (lV (some ⟨B37,0,none⟩) 1 _ hE37) ?_)
 rintro _ w22 ⟨sc39,hsz,hone,rfl,uw22⟩
 replace hS:=hS.up uw22
 replace hE31:=hE31.up uw22
 refine I rfl (U (.xt rfl rfl) (U (.xt rfl rfl) (Ap (.Cb zeroValue60) rfl ?_)))
 rintro _ w23 ⟨B6,rfl,MB6⟩
 refine Ce (.Cc sizeOf60 hsz (.t rfl) (.t rfl) hone MB6.blk rfl) ?_
 intro w24 LB6
 have NB6:=MB6.set LB6
 replace hE31:=hE31.up NB6.up
 replace hS:=hS.Cf NB6
 refine LW.A rfl (An (Aa (U (.fB 0 rfl) (U (.lb rfl (hS.b4.Ad rfl)) (U (.tr (PEv.eql (.t rfl) (.const _)) (rfl)) (I rfl (Ar (U (.fB 1 rfl) (Ar (U (.lb rfl (hS.b4.Ad rfl)) (Ar (Ap (.buildSlice (xs:=([0,1,2]:List Int)) (enc:=A4) (mk:=vi) ky k6 lf rfl cQ (fun _=>rfl) (fun _=>rfl) (.cons (.const _) (.cons (.const _) (.cons (.const _) .nil))) rfl) rfl ?_))))))))))))
 rintro _ w25 ⟨B48,cB48,rfl,NB48,yB48,xB48⟩
 replace hS:=hS.up NB48.up
 replace hE31:=hE31.up NB48.up
 have hE48:=xB48
 refine Ar (A3 (eC (.u rfl rfl) (GR)) rfl (Z1 _ _ [0,1,2] [0,1,2] _ (Ay hE31) (Ay hE48) cQ cQ) ?_)
 rintro _ w26 ⟨rfl,uw26⟩
 replace hS:=hS.up uw26
 replace hE31:=hE31.up uw26
 replace hE48:=hE48.up uw26
 refine U (.pa rfl (fun hp=>(by exact .tmp rfl))) (I rfl (Ar (I rfl (U (.pa rfl (fun hp=>(by exact .tmp rfl))) (LW.A rfl (Ah (Am (KW.q ?_))))))))
 exact⟨rfl,hS.Ch⟩
theorem lX(c n:Int)(w:World)(hn:n≠0):Ret prog 10 #[vi c,vi n] w fun r w'=>r=vi (Ck c n)∧Up w w':=by
 have hW:=Up.refl w
 refine cT 13 func10 rfl (Ae (Az (An (Ae (I rfl (U (.lss (.t rfl) (.const _)) (Ah (CW.b rfl (fun h6=>?_) (fun h6=>?_)))))))))
 ·replace h6:=dQ h6
  refine Aa (I rfl (U (.vN (.t rfl) (.const _)) (U (.neg k9 (.t rfl)) (LW.A rfl (An (Aa (I rfl (I rfl (U (.rem (.t rfl) (.t rfl) oQ) (LW.A rfl (Ah (Am (KW.q ?_)))))))))))))
  exact⟨by(rw[Ck,bg h6]),hW⟩
 replace h6:=dQ h6
 refine Aj (Ab (Ae (I rfl (I rfl (U (.rem (.t rfl) (.t rfl) oQ) (LW.A rfl (Ah (Am (KW.q ?_)))))))))
 exact⟨by(rw[Ck,aq (by omega)]),hW⟩
set_option maxHeartbeats 2000000 in
theorem vL(av:Option Addr)(cv:Nat)(L:List Sk)(wf t:Int)(j:Nat)(s:Sk)(x:Int)(w:World)(hF:FlG w av none L [])(hs:L[j]?=some s)(hx:s.tl[0]?=some x):Ret prog 12 #[.agg (Cx av L.length cv none 0 0),vi wf,vi (j:Int),vi t] w fun r w'=>r=.agg (⟨wf,(j:Int),x,0,s.rc,1,t⟩:GAct).cells∧Up w w':=by
 obtain⟨w0,rfl,hS⟩:=W0 w
 have hlen:=hF.len
 have hl0:=(ak.1 hx).1
 have hlj:=(ak.1 hs).1
 refine cT 25 func12 rfl ?_
 refine Ae ?_
 refine Ap (.bA rfl) rfl ?_
 rintro _ w1 ⟨B4,rfl,NB4⟩
 have eB4:=NB4.at_
 have zB4:=NB4.size
 replace hS:=hS.Cf NB4
 change Wx.Sep _ _ _ [_]at hS
 refine Ap (.Cb zeroValue44) rfl ?_
 rintro _ w2 ⟨B8,rfl,NB8⟩
 have eB8:=NB8.at_
 have zB8:=NB8.size
 replace hS:=hS.Cf NB8
 change Wx.Sep _ _ _ [_,_]at hS
 refine An ?_
 obtain⟨Bs,os,as_,hcs⟩:=(hF.up hS.Ch).E j s hs
 refine Aa ?_
 refine U (.fB 2 rfl) ?_
 refine U (.lb rfl (hS.b0.Ad rfl)) ?_
 refine I rfl ?_
 refine U (.Ao k_ lr (j:=j) (.t rfl) (.t rfl) oQ as_) ?_
 refine U (.lc rfl (hcs)) ?_
 refine Ap (.Cb l5) rfl ?_
 rintro _ w3 ⟨B9,rfl,MB9⟩
 refine Ce (.Cc lr rfl (.t rfl) (.t rfl) (Sk.one _) MB9.blk rfl) ?_
 intro w4 LB9
 have NB9:=MB9.set LB9
 clear LB9 MB9
 have eB9:=NB9.at_
 have zB9:=NB9.size
 replace hS:=hS.Cf NB9
 change Wx.Sep _ _ _ [_,_,_]at hS
 refine An ?_
 obtain⟨Bx,ox,ax,hcx⟩:=(Els.up (hF.p s (ai hs)).1 hS.Ch) 0 x hx
 refine Cz 10 kQ kQ kQ kQ kQ rfl rfl ?_
 refine J (.mv rfl) ?_
 refine J (.mv rfl) ?_
 refine J (.fB 1 rfl) ?_
 refine J (.lb rfl (hS.b2.Ad rfl)) ?_
 refine J (.Ao ky k6 (j:=0) (.t rfl) (.const _) oQ ax) ?_
 refine J (.lb rfl (hcx.nth (j:=0) rfl)) ?_
 refine J (.fB 0 rfl) ?_
 refine J (.lb rfl (hS.b2.Ad rfl)) ?_
 refine J (.mv rfl) ?_
 refine J (.build (cs:=(⟨wf,(j:Int),x,0,s.rc,1,t⟩:GAct).cells) underlying44 zeroValue44 Mm (.ct rfl (.ct rfl (.ct rfl (.ct rfl (.cons (.const _) (.cu rfl)))))) rfl) ?_
 refine HW.nil ?_
 intro w5 uw5
 have zw5:=uw5.size
 replace hS:=hS.up uw5
 refine Ce (.Cc sizeOf44 rfl (.t rfl) (.t rfl) (GAct.one _) hS.b1 rfl) ?_
 intro w6 Nw6
 have zw6:=Nw6.size
 replace hS:=hS.Ec 1 rfl Nw6
 change Wx.Sep _ _ _ [_,_,_]at hS
 refine Ah (Am ?_)
 refine Fb rfl rfl isAgg44 sizeOf44 rfl (hS.b1.agg) ⟨_,rfl,?_⟩
 exact⟨rfl,hS.Ch⟩
theorem aZ(av:Option Addr)(cv:Nat)(L:List Sk)(id mk t:Int)(j:Nat)(s:Sk)(x:Int)(w:World)(hF:FlG w av none L [])(hs:L[j]?=some s)(hx:s.tl[0]?=some x)(hmn:0≤s.mn∧s.mn≤1000)(ht:0≤t∧t≤1000000):Ret prog 13 #[.agg (Cx av L.length cv none 0 0),vi id,vi mk,vi (j:Int),vi t] w fun r w'=>r=.agg ({ Jj with Kind:=1,ID:=id,Version:=1,Time:=t,Until:=t+s.mn,Wafer:=mk,Tool:=x,Step:=(j:Int),Recipe:=s.rc,Revision:=1 }:Fact).cells∧Up w w':=by
 obtain⟨w0,rfl,hS⟩:=W0 w
 have hlen:=hF.len
 have hl0:=(ak.1 hx).1
 have hlj:=(ak.1 hs).1
 refine cT 32 func13 rfl ?_
 refine Ae ?_
 refine Ap (.bA rfl) rfl ?_
 rintro _ w1 ⟨B5,rfl,NB5⟩
 have eB5:=NB5.at_
 have zB5:=NB5.size
 replace hS:=hS.Cf NB5
 change Wx.Sep _ _ _ [_]at hS
 refine Ap (.Cb lg) rfl ?_
 rintro _ w2 ⟨B10,rfl,NB10⟩
 have eB10:=NB10.at_
 have zB10:=NB10.size
 replace hS:=hS.Cf NB10
 change Wx.Sep _ _ _ [_,_]at hS
 refine An ?_
 obtain⟨Bs,os,as_,hcs⟩:=(hF.up hS.Ch).E j s hs
 refine Aa ?_
 refine U (.fB 2 rfl) ?_
 refine U (.lb rfl (hS.b0.Ad rfl)) ?_
 refine I rfl ?_
 refine U (.Ao k_ lr (j:=j) (.t rfl) (.t rfl) oQ as_) ?_
 refine U (.lc rfl (hcs)) ?_
 refine Ap (.Cb l5) rfl ?_
 rintro _ w3 ⟨B11,rfl,MB11⟩
 refine Ce (.Cc lr rfl (.t rfl) (.t rfl) (Sk.one _) MB11.blk rfl) ?_
 intro w4 LB11
 have NB11:=MB11.set LB11
 clear LB11 MB11
 have eB11:=NB11.at_
 have zB11:=NB11.size
 replace hS:=hS.Cf NB11
 change Wx.Sep _ _ _ [_,_,_]at hS
 refine An ?_
 obtain⟨Bx,ox,ax,hcx⟩:=(Els.up (hF.p s (ai hs)).1 hS.Ch) 0 x hx
 refine L3 15 [.eq (vi id),.eq (vi mk),.eq (.pointer (some ⟨B11,1,none⟩)),.eq (s.tv),.eq (.pointer (some ⟨Bx,ox+0*1,none⟩)),.eq (vi x),.eq (vi (j:Int)),.eq (.pointer (some ⟨B11,0,none⟩)),.eq (vi s.rc),.eq (vi t),.eq (vi t),.eq (.pointer (some ⟨B11,2,none⟩)),.eq (vi s.mn),.eq (vi (t+s.mn)),.eq (.agg ({ Jj with Kind:=1,ID:=id,Version:=1,Time:=t,Until:=t+s.mn,Wafer:=mk,Tool:=x,Step:=(j:Int),Recipe:=s.rc,Revision:=1 }:Fact).cells)] [31] kQ rfl kQ kQ kQ kQ kQ kQ kQ uQ ?_ ?_
 ·intro W hU0
  have hU:=(Up.drew w4).trans hU0
  have hSW:=hS.up hU
  refine aC ⟨rfl,TU.p (.mv rfl) rfl⟩ ?_
  refine aC ⟨rfl,TU.p (.mv rfl) rfl⟩ ?_
  refine aC ⟨rfl,TU.p (.fB 1 rfl) rfl⟩ ?_
  refine aC ⟨rfl,TU.p (.lb rfl (hSW.b2.Ad rfl)) rfl⟩ ?_
  refine aC ⟨rfl,TU.p (.Ao ky k6 (j:=0) (.t rfl) (.const _) oQ ax) rfl⟩ ?_
  refine aC ⟨rfl,TU.p (.lb rfl (AggAt.nth (j:=0) (AggAt.up hcx hU) rfl)) rfl⟩ ?_
  refine aC ⟨rfl,TU.p (.mv rfl) rfl⟩ ?_
  refine aC ⟨rfl,TU.p (.fB 0 rfl) rfl⟩ ?_
  refine aC ⟨rfl,TU.p (.lb rfl (hSW.b2.Ad rfl)) rfl⟩ ?_
  refine aC ⟨rfl,TU.p (.mv rfl) rfl⟩ ?_
  refine aC ⟨rfl,TU.p (.mv rfl) rfl⟩ ?_
  refine aC ⟨rfl,TU.p (.fB 2 rfl) rfl⟩ ?_
  refine aC ⟨rfl,TU.p (.lb rfl (hSW.b2.Ad rfl)) rfl⟩ ?_
  refine aC ⟨rfl,TU.p (.add (.t rfl) (.t rfl) oQ oQ) rfl⟩ ?_
  refine aC ⟨rfl,TU.p (.build (cs:=({ Jj with Kind:=1,ID:=id,Version:=1,Time:=t,Until:=t+s.mn,Wafer:=mk,Tool:=x,Step:=(j:Int),Recipe:=s.rc,Revision:=1 }:Fact).cells) mc lg F3 (.cons (.const _) (.cons (.const _) (.ct rfl (.ct rfl (.ct rfl (.ct rfl (.ct rfl (.cons (.const _) (.ct rfl (.cu rfl)))))))))) kQ) rfl⟩ ?_
  exact allL.nil
 intro w5 g hU0 hg
 have hU:=(Up.drew w4).trans hU0
 have zw5:=hU.size
 replace hS:=hS.up hU
 have e31:g 31=.agg ({ Jj with Kind:=1,ID:=id,Version:=1,Time:=t,Until:=t+s.mn,Wafer:=mk,Tool:=x,Step:=(j:Int),Recipe:=s.rc,Revision:=1 }:Fact).cells:=hg 14 _ 31 cQ rfl rfl
 change LW _ _ _ _ _ _ _ _ ((31,.eq (g 31))::_) _
 rw[e31]
 refine Ce (.Cc k7 rfl (.t rfl) (.t rfl) (Fact.one _) hS.b1 rfl) ?_
 intro w6 Nw6
 have zw6:=Nw6.size
 replace hS:=hS.Ec 1 rfl (show Set_ _ w6 _ (({ Jj with Kind:=1,ID:=id,Version:=1,Time:=t,Until:=t+s.mn,Wafer:=mk,Tool:=x,Step:=(j:Int),Recipe:=s.rc,Revision:=1 }:Fact).cells) _ from Nw6)
 change Wx.Sep _ _ _ [_,_,_]at hS
 refine Ah (Am ?_)
 refine Fb rfl rfl nu k7 rfl (hS.b1.agg) ⟨_,rfl,?_⟩
 exact⟨rfl,hS.Ch⟩
theorem Vz(v:Value)(ks:List Int)(w:World)(h:OwnS w 0 3 1 A4 v ks)(hlen:ks.length<4611686018427387904):Ret prog 31 #[v] w fun _ w'=>Stp (Aw 3 1 A4 v ks) (Aw 3 1 A4 v (ks.mergeSort fun x y=>decide (x≤y))) w w':=by
 have h0:=h
 obtain⟨h1,⟨rfl,hn⟩|⟨g,cap,cur,rfl,hg,hb,h2,h3,h4,h5⟩⟩:=h
 · have hks:ks=[]:=dv hn
   subst hks
   refine Calls.mono (Tryz.slices_Sort_int_none none 0 w) ?_
   rintro e' w' ⟨rfl,rfl⟩
   exact⟨_,rfl,by simpa using Stp.refl h0⟩
 rw[Oi]at h5
 have hl:g<w.heap.size:=lt_of_block hb
 refine Calls.mono (Tryz.slices_Sort_int g 0 cap ks w (holds_of_blockI hb (by simpa using h5)) hl hlen) ?_
 rintro e' w' ⟨rfl,n,os,rfl⟩
 have hg2:=Go.grownBy_sortedI (w:=w) (g:=g) (n:=n) (os:=os) (ks.mergeSort fun x y=>decide (x≤y)).toArray
 have ho:=Go.ownsRow_sortedI (w:=w) (n:=n) (os:=os) (ss:=ks) (ts:=ks.mergeSort fun x y=>decide (x≤y)) (by simp) hg hb h2 h3 h4
 refine⟨_,rfl,⟨hg2.os,hg2.tape,hg2.output,hg2.size,fun i hi hn=>hg2.block i hi (fun e=>by cases e;exact hn rfl)⟩,?_,fun i h=>.inl h⟩
 show World.ownsRow _ _ _ _ _ _ _
 rw[Oi,List.length_mergeSort]
 exact ho
theorem Pv(ad:Option Addr)(cp:Nat)(l:List Int)(w:World)(hE:Els w ad 1 A4 l)(hl:l.length≤100000)(ha:l.Pairwise (· <·)):Ret prog 32 #[.slice ad l.length cp] w fun r w'=>r=.slice ad l.length cp∧Up w w':=by
 have hW:=Up.refl w
 obtain⟨w0,rfl,_⟩:=W0 w
 refine cT 61 func32 rfl ?_
 refine Ae (Az (An (Ae (I rfl ?_))))
 refine U (.Cl ky (.t rfl)) ?_
 refine U (.lss (.t rfl) (.const _)) ?_
 refine Ah ?_
 refine CW.b rfl (fun h8=>?_) (fun h8=>?_)
 ·replace h8:=dQ h8
  refine Ae (I rfl (LW.A rfl (Ah (Am (Au ?_)))))
  refine KW.q ?_
  exact⟨rfl,hW⟩
 replace h8:=dQ h8
 have h8_:¬(l.length:Int)<2:=h8
 refine Aj (Ab (Ak (Ae (Az (Ah (Ai ?_))))))
 refine A7 (σ:=Nat) (fun s w=>(s+1≤l.length)∧(Up w0 w)) (fun s=>[(3,.eq (vi ((s+1:Nat):Int)))]) ([(0,.eq _)]) (fun s=>l.length-s) 0 ?_ tQ ?_
 ·exact⟨oQ,hW⟩
 rintro k w1 ⟨hk,hW⟩
 refine Ak (Ae (I rfl (I rfl ?_)))
 refine U (.Cl ky (.t rfl)) ?_
 refine U (.l2 rfl rfl) ?_
 refine Ah ?_
 refine CW.b rfl (fun h13=>?_) (fun h13=>?_)
 ·replace h13:=dQ h13
  refine Aj (Ab (Ak (Ai (Ak ?_))))
  have hkl:k+1<l.length:=co.1 h13
  obtain⟨x,hx⟩:=Af (xs:=l) (i:=k+1) hkl
  obtain⟨y,hy⟩:=Af (xs:=l) (i:=k) oQ
  obtain⟨Bx,ox,ax,hcx⟩:=hE _ x hx
  obtain⟨By,oy,ay,hcy⟩:=hE _ y hy
  have hyx:=bY ha hy hx
  refine C0 kQ kQ rfl rfl ?_
  refine J (.mv rfl) ?_
  refine J (.mv rfl) ?_
  refine J (.Ao ky k6 (j:=k+1) (.t rfl) (.t rfl) oQ ax) ?_
  refine J (.lb rfl ((hcx.up hW).nth (j:=0) rfl)) ?_
  refine J (.mv rfl) ?_
  refine J (.mv rfl) ?_
  refine J (.Dr (v':=vi (k:Int)) (PEv.sub (.t rfl) (.const _) oQ oQ) (bh vi oQ)) ?_
  refine J (.Ao ky k6 (j:=k) (.t rfl) (.t rfl) oQ ay) ?_
  refine J (.lb rfl ((hcy.up hW).nth (j:=0) rfl)) ?_
  refine J (.fa (PEv.eql (.t rfl) (.t rfl)) (bx oQ)) ?_
  refine HW.nil ?_
  intro w2 uw2
  have zw2:=uw2.size
  replace hW:=hW.up uw2
  refine Ab ?_
  refine CW.f rfl ?_
  refine Aj (Al (Ab (Aa (I rfl ?_))))
  refine U (.Dr (v':=vi ((k+1+1:Nat):Int)) (PEv.add (.t rfl) (.const _) oQ oQ) (bh vi oQ)) ?_
  refine LW.A rfl (LW.nil (Av ?_))
  exact⟨k+1,⟨by omega,hW⟩,tQ,by first|omega|(dsimp only;omega)⟩
 replace h13:=dQ h13
 refine A9 (Ac (Ac (Aq (Ab (Ae (I rfl (LW.A rfl (Ah (Am ?_)))))))))
 refine KW.q ?_
 exact⟨rfl,hW⟩
theorem Pw(av:Option Addr)(cv:Nat)(L:List Sk)(hv:Go.Value)(j:Nat)(w:World)(hF:FlG w av none L [])(s:Sk)(hs:L[j]?=some s):Ret prog 80 #[.agg (aL av L.length cv hv),vi (j:Int)] w fun r w'=>r=.tuple #[.agg s.cells,.bool true]∧Up w w':=by
 obtain⟨w0,rfl,hS⟩:=W0 w
 have hlen:=hF.len
 have hjl:=(ak.1 hs).1
 refine cT 28 func80 rfl ?_
 refine Ae ?_
 refine Ap (.bA rfl) rfl ?_
 rintro _ w1 ⟨B2,rfl,NB2⟩
 have eB2:=NB2.at_
 have zB2:=NB2.size
 replace hS:=hS.Cf NB2
 change Wx.Sep _ _ _ [_]at hS
 refine Ap (.Cb l5) rfl ?_
 rintro _ w2 ⟨B4,rfl,NB4⟩
 have eB4:=NB4.at_
 have zB4:=NB4.size
 replace hS:=hS.Cf NB4
 change Wx.Sep _ _ _ [_,_]at hS
 refine Az (An (Ae ?_))
 refine U (.fB 4 rfl) ?_
 refine U (.tr (PEv.lb rfl (hS.b0.Ad rfl)) (rfl)) ?_
 refine U (.n1 rfl) ?_
 refine I rfl ?_
 refine Ar ?_
 refine I rfl ?_
 refine Ar ?_
 refine U (.fa (PEv.lss (.t rfl) (.const _)) (bx oQ)) ?_
 refine U (.po rfl (fun hp=>(by first|exact .const _|exact .tmp rfl|exact .cond rfl (by first|assumption|simp_all)))) ?_
 refine I rfl ?_
 refine Ar ?_
 refine I rfl ?_
 refine Ar ?_
 refine U (.fB 0 rfl) ?_
 refine Ar ?_
 refine U (.fB 2 rfl) ?_
 refine Ar ?_
 refine U (.lb rfl (hS.b0.Ad rfl)) ?_
 refine Ar ?_
 refine U (.Cl k_ (.t rfl)) ?_
 refine Ar ?_
 refine U (.fa (PEv.geq (.t rfl) (.t rfl)) (bx oQ)) ?_
 refine U (.po rfl (fun hp=>(by first|exact .const _|exact .tmp rfl|exact .cond rfl (by first|assumption|simp_all)))) ?_
 refine Ah ?_
 refine CW.f rfl ?_
 refine Aj (Ab (Ak ?_))
 obtain⟨Bs,os,as_,hcs⟩:=(hF.up hS.Ch).E j s hs
 refine Aa ?_
 refine U (.fB 0 rfl) ?_
 refine U (.fB 2 rfl) ?_
 refine U (.lb rfl (hS.b0.Ad rfl)) ?_
 refine I rfl ?_
 refine U (.Ao k_ lr (j:=j) (.t rfl) (.t rfl) oQ as_) ?_
 refine U (.lc rfl (hcs)) ?_
 refine Ce (.Cc lr rfl (.t rfl) (.t rfl) (Sk.one _) hS.b1 rfl) ?_
 intro w3 Nw3
 have zw3:=Nw3.size
 replace hS:=hS.Ec 1 rfl Nw3
 change Wx.Sep _ _ _ [_,_]at hS
 refine Az (Ah (Am ?_))
 refine Zz rfl rfl rfl isAgg33 lr rfl hS.b1.agg ⟨_,rfl,?_⟩
 exact⟨rfl,hS.Ch⟩
theorem rK(av:Option Addr)(cv:Nat)(L:List Sk)(ah:Option Addr)(ch:Nat)(l:List Fact)(w:World)(hF:FlG w av none L [])(hFw:Fwd L)(hH:Els w ah 19 Fact.cells l)(hl:l.length≤100000)(j:Nat)(sk:Sk)(hs:L[j]?=some sk)(hl1:1≤l.length):Ret prog 82 #[.agg (aL av L.length cv (.slice ah l.length ch)),vi (j:Int)] w fun r w'=>r=vi (Qg l j sk.bk l.length:Int)∧Up w w':=by
 obtain⟨w0,rfl,hS⟩:=W0 w
 have hlen:=hF.len
 have hjl:=(ak.1 hs).1
 have hnb:¬sk.bk∈sk.nx:=fun h=>by have h1:=(hFw.b j sk hs).2;have h2:=(hFw.n j sk hs _ h).1;omega
 refine cT 50 func82 rfl ?_
 refine Ae ?_
 refine Ap (.bA rfl) rfl ?_
 rintro _ w1 ⟨B2,rfl,NB2⟩
 have eB2:=NB2.at_
 have zB2:=NB2.size
 replace hS:=hS.Cf NB2
 change Wx.Sep _ _ _ [_]at hS
 refine Az (An (Aa (Az (An (Aa ?_)))))
 refine U (.lc rfl (hS.b0.agg)) ?_
 refine I rfl ?_
 refine A3 (eC (.u rfl rfl) (xO)) rfl (Pw av cv L (.slice ah l.length ch) j _ (hF.up hS.Ch) sk hs) ?_
 rintro _ w2 ⟨rfl,uw2⟩
 have zw2:=uw2.size
 replace hS:=hS.up uw2
 refine I rfl (U (.xt rfl rfl) (U (.xt rfl rfl) ?_))
 refine Ap (.Cb l5) rfl ?_
 rintro _ w3 ⟨B6,rfl,MB6⟩
 refine Ce (.Cc lr rfl (.t rfl) (.t rfl) (Sk.one _) MB6.blk rfl) ?_
 intro w4 LB6
 have NB6:=MB6.set LB6
 clear LB6 MB6
 have eB6:=NB6.at_
 have zB6:=NB6.size
 replace hS:=hS.Cf NB6
 change Wx.Sep _ _ _ [_,_]at hS
 refine LW.A rfl (An (Ae ?_))
 refine U (.fB 4 rfl) ?_
 refine U (.lb rfl (hS.b1.Ad rfl)) ?_
 refine U (.fB 5 rfl) ?_
 refine U (.lb rfl (hS.b1.Ad rfl)) ?_
 refine A3 (eC (.u rfl rfl) (mX)) rfl (Tn _ _ sk.nx sk.bk _ (Els.up (hF.p sk (ai hs)).2 hS.Ch) (by have:=(hF.g sk (ai hs)).nl;omega)) ?_
 rintro _ w5 ⟨e19,uw5⟩
 have zw5:=uw5.size
 replace hS:=hS.up uw5
 rw[bx hnb]at e19
 subst e19
 refine Ah ?_
 refine CW.f rfl ?_
 refine Aj (Ab (Ak (Ae (Az (Ah (Ai ?_))))))
 refine A7 (σ:=Nat×Nat) (fun s w=>(s.1+1≤l.length)∧(s.2=Qg l j sk.bk (s.1+1))∧(Wx.Sep no w0 w [A5 B2 (aL av L.length cv (.slice ah l.length ch)) 85,A5 B6 sk.cells 33])) (fun s=>[(8,.eq (vi ((s.1+1:Nat):Int))),(5,.eq (vi (s.2:Int)))]) ([(1,.eq _),(2,.eq _),(4,.eq _),(6,.eq _)]) (fun s=>l.length-s.1) (0,0) ?_ tQ ?_
 ·exact⟨hl1,rfl,hS⟩
 rintro⟨k,m⟩ w6 ⟨hk,hm,hS⟩
 dsimp only at hk hm
 refine Ak (Ae (I rfl ?_))
 refine U (.fB 5 rfl) ?_
 refine U (.lb rfl (hS.b0.Ad rfl)) ?_
 refine U (.Cl kz (.t rfl)) ?_
 refine U (.l2 rfl rfl) ?_
 refine Ah ?_
 refine CW.b rfl (fun h24=>?_) (fun h24=>?_)
 ·replace h24:=dQ h24
  refine Aj (Ab (Ak (Ai (Ak ?_))))
  have hmle:=qS l j sk.bk (k+1)
  obtain⟨x,hx⟩:=Af (xs:=l) (i:=k) oQ
  obtain⟨y,hy⟩:=Af (xs:=l) (i:=k+1) oQ
  obtain⟨Bx,ox,ax,hcx⟩:=(Els.up hH hS.Ch) _ x hx
  obtain⟨By,oy,ay,hcy⟩:=(Els.up hH hS.Ch) _ y hy
  refine C0 kQ kQ rfl rfl ?_
  refine J (.fB 5 rfl) ?_
  refine J (.lb rfl (hS.b0.Ad rfl)) ?_
  refine J (.mv rfl) ?_
  refine J (.Dr (v':=vi (k:Int)) (PEv.sub (.t rfl) (.const _) oQ oQ) (bh vi oQ)) ?_
  refine J (.Ao kz k7 (j:=k) (.t rfl) (.t rfl) oQ ax) ?_
  refine J (.fB 13 rfl) ?_
  refine J (.lb rfl (hcx.nth (j:=13) rfl)) ?_
  refine J (.mv rfl) ?_
  refine J (.eql (.t rfl) (.t rfl)) ?_
  refine J (.mv rfl) ?_
  refine E1 rfl rfl rfl rfl rfl rfl (fun hc=>PEv.fB 5 rfl) ?_
  refine E1 rfl rfl rfl rfl rfl rfl (fun hc=>PEv.load isAgg25 vQ (hS.b0.Ad rfl)) ?_
  refine E1 rfl rfl rfl rfl rfl rfl (fun hc=>PEv.mv rfl) ?_
  refine E1 rfl rfl rfl rfl rfl rfl (fun hc=>PEv.Ao kz k7 (j:=k+1) vQ vQ oQ ay) ?_
  refine E1 rfl rfl rfl rfl rfl rfl (fun hc=>PEv.fieldAddr (off:=13) mc rfl rfl k6 rfl vQ) ?_
  refine E1 rfl rfl rfl rfl rfl rfl (fun hc=>PEv.load lv vQ (hcy.nth (j:=13) rfl)) ?_
  refine E1 rfl rfl rfl rfl rfl rfl (fun hc=>PEv.fB 5 rfl) ?_
  refine E1 rfl rfl rfl rfl rfl rfl (fun hc=>PEv.load lv vQ (hS.b1.Ad rfl)) ?_
  refine E1 rfl rfl rfl rfl rfl rfl (fun hc=>PEv.eql vQ vQ) ?_
  refine J (.pa rfl (fun hp=>wQ)) ?_
  refine HW.nil ?_
  intro w7 uw7
  have zw7:=uw7.size
  replace hS:=hS.up uw7
  refine Ab ?_
  refine CW.b rfl (fun h46=>?_) (fun h46=>?_)
  ·replace h46:=dQ h46
   have h46_:x.Step=j∧y.Step=sk.bk:=by simpa using h46
   refine Aa (I rfl ?_)
   refine U (.Dr (v':=vi ((m+1:Nat):Int)) (PEv.add (.t rfl) (.const _) oQ oQ) (bh vi oQ)) ?_
   refine LW.A rfl (LW.nil (Al (Ab (Aa (I rfl ?_)))))
   refine U (.Dr (v':=vi ((k+1+1:Nat):Int)) (PEv.add (.t rfl) (.const _) oQ oQ) (bh vi oQ)) ?_
   refine LW.A rfl (LW.nil (Av ?_))
   first|exact⟨(k+1,m+1),⟨by omega,by show m+1=Qg l j sk.bk (k+1+1);rw[Qg,bg ⟨by omega,by rw[Nat.add_sub_cancel,Gt hx];exact h46_.1,by rw[Gt hy];exact h46_.2⟩,hm],hS⟩,tQ,by show l.length-(k+1)<l.length-k;omega⟩|exact⟨(k+1,m),⟨by omega,by show m=Qg l j sk.bk (k+1+1);rw[Qg,aq (fun h=>h46_ ⟨by rw[←Gt hx];exact h.2.1,by rw[←Gt hy];exact h.2.2⟩),f6];exact hm,hS⟩,tQ,by show l.length-(k+1)<l.length-k;omega⟩
  replace h46:=dQ h46
  have h46_:¬(x.Step=j∧y.Step=sk.bk):=by simpa using h46
  refine Aj (Al (Ab (Aa (I rfl ?_))))
  refine U (.Dr (v':=vi ((k+1+1:Nat):Int)) (PEv.add (.t rfl) (.const _) oQ oQ) (bh vi oQ)) ?_
  refine LW.A rfl (LW.nil (Av ?_))
  first|exact⟨(k+1,m+1),⟨by omega,by show m+1=Qg l j sk.bk (k+1+1);rw[Qg,bg ⟨by omega,by rw[Nat.add_sub_cancel,Gt hx];exact h46_.1,by rw[Gt hy];exact h46_.2⟩,hm],hS⟩,tQ,by show l.length-(k+1)<l.length-k;omega⟩|exact⟨(k+1,m),⟨by omega,by show m=Qg l j sk.bk (k+1+1);rw[Qg,aq (fun h=>h46_ ⟨by rw[←Gt hx];exact h.2.1,by rw[←Gt hy];exact h.2.2⟩),f6];exact hm,hS⟩,tQ,by show l.length-(k+1)<l.length-k;omega⟩
 replace h24:=dQ h24
 refine A9 (Ac (Ac (Aq (Ab (Ae (I rfl (LW.A rfl (Ah (Am ?_)))))))))
 refine KW.q ?_
 have hkl:k+1=l.length:=by omega
 rw[hkl]at hm
 exact⟨bh (fun m:Nat=>vi (m:Int)) hm,hS.Ch⟩
theorem lY(av:Option Addr)(cv:Nat)(L:List Sk)(ah:Option Addr)(ch:Nat)(l:List Fact)(w:World)(hF:FlG w av none L [])(hFw:Fwd L)(hH:Els w ah 19 Fact.cells l)(hl:l.length≤100000)(j:Nat)(sk:Sk)(p:Fact)(hs:L[j]?=some sk)(hl1:1≤l.length)(hp:l[l.length-1]?=some p)(hpj:p.Step=(j:Int)):Ret prog 25 #[.agg (aL av L.length cv (.slice ah l.length ch))] w fun r w'=>OwnS w' w.heap.size 3 1 A4 r (Jo sk l j)∧Up w w':=by
 obtain⟨w0,rfl,hS⟩:=W0 w
 have hlen:=hF.len
 have hjl:=(ak.1 hs).1
 have hsk:=hF.g sk (ai hs)
 have hnl:=hsk.nl
 have hasc:=hsk.nx.a
 have hbn:∀y∈sk.nx,sk.bk<y:=fun y hy=>by have h1:=(hFw.b j sk hs).2;have h2:=(hFw.n j sk hs y hy).1;omega
 have hasb:(sk.bk::sk.nx).Pairwise (· <·):=dz.2 ⟨hbn,hasc⟩
 refine cT 57 func25 rfl ?_
 refine Ae ?_
 refine Ap (.bA rfl) rfl ?_
 rintro _ w1 ⟨B1,rfl,NB1⟩
 have eB1:=NB1.at_
 have zB1:=NB1.size
 replace hS:=hS.Cf NB1
 change Wx.Sep _ _ _ [_]at hS
 refine Az (An (Ai (Ae ?_)))
 refine U (.fB 4 rfl) ?_
 refine U (.tr (PEv.lb rfl (hS.b0.Ad rfl)) (rfl)) ?_
 refine U (.n1 rfl) ?_
 refine LW.A rfl (Ah ?_)
 refine CW.f rfl ?_
 refine Ae ?_
 refine U (.fB 5 rfl) ?_
 refine U (.lb rfl (hS.b0.Ad rfl)) ?_
 refine U (.Cl kz (.t rfl)) ?_
 refine U (.fa (PEv.eql (.t rfl) (.const _)) (bx oQ)) ?_
 refine LW.A rfl (Ah ?_)
 refine CW.f rfl ?_
 refine Aj (Al (Ab (Ak ?_)))
 obtain⟨Bp,op,ap,hcp⟩:=(Els.up hH hS.Ch) _ p hp
 refine Aa ?_
 refine U (.fB 5 rfl) ?_
 refine U (.lb rfl (hS.b0.Ad rfl)) ?_
 refine U (.fB 5 rfl) ?_
 refine U (.lb rfl (hS.b0.Ad rfl)) ?_
 refine U (.Cl kz (.t rfl)) ?_
 refine U (.Dr (v':=vi ((l.length-1:Nat):Int)) (PEv.sub (.t rfl) (.const _) oQ oQ) (bh vi oQ)) ?_
 refine U (.Ao kz k7 (j:=l.length-1) (.t rfl) (.t rfl) oQ ap) ?_
 refine U (.fB 13 rfl) ?_
 refine U (.Dr (v':=vi (j:Int)) (PEv.lb rfl (hcp.nth (j:=13) rfl)) (bh vi hpj)) ?_
 refine LW.A rfl (An (Aa ?_))
 refine U (.lc rfl (hS.b0.agg)) ?_
 refine I rfl ?_
 refine A3 (eC (.u rfl rfl) (xO)) rfl (Pw av cv L (.slice ah l.length ch) j _ (hF.up hS.Ch) sk hs) ?_
 rintro _ w2 ⟨rfl,uw2⟩
 have zw2:=uw2.size
 replace hS:=hS.up uw2
 refine I rfl (U (.xt rfl rfl) ?_)
 refine U (.tr (PEv.xt rfl rfl) (rfl)) ?_
 refine Ap (.Cb l5) rfl ?_
 rintro _ w3 ⟨B4,rfl,MB4⟩
 refine Ce (.Cc lr rfl (.t rfl) (.t rfl) (Sk.one _) MB4.blk rfl) ?_
 intro w4 LB4
 have NB4:=MB4.set LB4
 clear LB4 MB4
 have eB4:=NB4.at_
 have zB4:=NB4.size
 replace hS:=hS.Cf NB4
 change Wx.Sep _ _ _ [_,_]at hS
 refine LW.A rfl (An (Ae (I rfl ?_)))
 refine U (.n1 rfl) ?_
 refine Ah ?_
 refine CW.f rfl ?_
 refine Aj (Ab (Ae ?_))
 refine U (.fB 4 rfl) ?_
 refine U (.lb rfl (hS.b1.Ad rfl)) ?_
 refine A3 (eC (.o rfl) (mT)) rfl (I0 sk.na sk.nc sk.nx _ (Els.up (hF.p sk (ai hs)).2 hS.Ch) oQ) ?_
 rintro v36 w5 ⟨hO36,uw5⟩
 have zw5:=uw5.size
 replace hS:=hS.add uw5 (A':=Aw 3 1 A4 v36 sk.nx) (hO36.mono (a_ _)) (fun i h=>hO36.base i h)
 change Wx.Sep _ _ _ [_,_,_]at hS
 clear hO36
 obtain⟨ad36,cp36,rfl,_⟩:=(hS.own 2 rfl).sl (fun _=>rfl)
 refine LW.A rfl (An (Ak ?_))
 refine C0 kQ kQ rfl rfl ?_
 refine J (.fB 5 rfl) ?_
 refine J (.lb rfl (hS.b1.Ad rfl)) ?_
 refine J (.geq (.t rfl) (.const _)) ?_
 refine J (.mv rfl) ?_
 refine E1 rfl rfl rfl rfl rfl rfl (fun hc=>PEv.lc rfl (hS.b0.agg)) ?_
 refine E1 rfl rfl rfl rfl rfl rfl (fun hc=>PEv.mv rfl) ?_
 refine AN rfl rfl rfl rfl rfl rfl (fun hc a w _ ha=>Bh (.cons vQ (.cons vQ .nil)) (IC) a ha) (fun hc w hu=>rK av cv L ah ch l w (hF.up (hS.Ch.trans hu)) hFw (Els.up hH (hS.Ch.trans hu)) hl j sk hs hl1) ?_
 refine E1 rfl rfl rfl rfl rfl rfl (fun hc=>PEv.fB 6 rfl) ?_
 refine E1 rfl rfl rfl rfl rfl rfl (fun hc=>PEv.load lv vQ (hS.b1.Ad rfl)) ?_
 refine E1 rfl rfl rfl rfl rfl rfl (fun hc=>PEv.lss vQ vQ) ?_
 refine J (.pa rfl (fun hp=>wQ)) ?_
 refine HW.nil ?_
 intro w6 uw6
 have zw6:=uw6.size
 replace hS:=hS.up uw6
 refine Ab ?_
 refine CW.b rfl (fun h47=>?_) (fun h47=>?_)
 ·replace h47:=dQ h47
  have h47_:0≤sk.bk∧(Qg l j sk.bk l.length:Int)<sk.lm:=by simpa using h47
  refine Ae (I rfl ?_)
  refine U (.fB 5 rfl) ?_
  refine U (.lb rfl (hS.b1.Ad rfl)) ?_
  refine Ap (.buildSlice (xs:=[sk.bk]) (enc:=A4) (mk:=vi) ky k6 lf rfl cQ (fun _=>rfl) (fun _=>rfl) (.cu rfl) rfl) rfl ?_
  rintro _ w7 ⟨B51,cB51,rfl,NB51,yB51,xB51⟩
  have eB51:=NB51.at_
  have zB51:=NB51.size
  replace hS:=hS.up NB51.up
  have hE51:=xB51
  refine Ap (.Df (enc:=A4) (bytes:=8) (i:=Tryz.t3) ky kQ rfl rfl rfl rfl cQ (fun _=>rfl) Er (.t rfl) (.t rfl) (hS.own 2 rfl) (Ay hE51) (by simp[maxLen];omega) (by simp;omega)) rfl ?_
  intro v52 w8 Gw8
  have zw8:=Gw8.fr.size
  replace hS:=hS.Ft 2 rfl Gw8
  change Wx.Sep _ _ _ [_,_,_]at hS
  obtain⟨ad52,cp52,rfl,_⟩:=(hS.own 2 rfl).sl (fun _=>rfl)
  rw[show(sk.nx++[sk.bk]).length=(sk.bk::sk.nx).length by simp]at hS⊢
  refine LW.A rfl (Ah (Aa (I rfl ?_)))
  refine A3 (eC (.o rfl) (xJ)) rfl (Vz _ _ _ (hS.own 2 rfl) (by simp;omega)) ?_
  rintro _ w9 uw9
  have zw9:=uw9.fr.size
  replace hS:=hS.Ft 2 rfl uw9
  change Wx.Sep _ _ _ [_,_,_]at hS
  rw[lN hasc hbn]at hS
  change Wx.Sep _ _ _ [_,_,_]at hS
  refine An (Aa (I rfl ?_))
  refine A3 (eC (.o rfl) (xK)) rfl (Pv _ _ _ _ (Cg (hS.own 2 rfl) (fun _=>rfl)) (by first|omega|(simp;omega)) (by first|exact hasb|exact hasc)) ?_
  rintro _ w10 ⟨rfl,uw10⟩
  have zw10:=uw10.size
  replace hS:=hS.up uw10
  refine LW.A rfl (Ah (Am ?_))
  refine KW.q ?_
  first|exact⟨by rw[Jo,bg h47_];exact(hS.own 2 rfl).Gn (fun i h=>(hS.foot 2 rfl i h).resolve_left (fun h=>h)),hS.Ch⟩|exact⟨by rw[Jo,aq h47_];exact(hS.own 2 rfl).Gn (fun i h=>(hS.foot 2 rfl i h).resolve_left (fun h=>h)),hS.Ch⟩
 replace h47:=dQ h47
 have h47_:¬(0≤sk.bk∧(Qg l j sk.bk l.length:Int)<sk.lm):=by simpa using h47
 refine Aj (Ab (Ae (I rfl ?_)))
 refine A3 (eC (.o rfl) (xK)) rfl (Pv _ _ _ _ (Cg (hS.own 2 rfl) (fun _=>rfl)) (by first|omega|(simp;omega)) (by first|exact hasb|exact hasc)) ?_
 rintro _ w11 ⟨rfl,uw11⟩
 have zw11:=uw11.size
 replace hS:=hS.up uw11
 refine LW.A rfl (Ah (Am ?_))
 refine KW.q ?_
 first|exact⟨by rw[Jo,bg h47_];exact(hS.own 2 rfl).Gn (fun i h=>(hS.foot 2 rfl i h).resolve_left (fun h=>h)),hS.Ch⟩|exact⟨by rw[Jo,aq h47_];exact(hS.own 2 rfl).Gn (fun i h=>(hS.foot 2 rfl i h).resolve_left (fun h=>h)),hS.Ch⟩
theorem lZ(av ah:Option Addr)(m cv ch:Nat)(w:World):Ret prog 25 #[.agg (aL av m cv (.slice ah 0 ch))] w fun r w'=>∃B,r=.slice (some ⟨B,0,none⟩) 1 1∧Els w' (some ⟨B,0,none⟩) 1 A4 [0]∧Up w w':=by
 obtain⟨w0,rfl,hS⟩:=W0 w
 refine cT 57 func25 rfl ?_
 refine Ae ?_
 refine Ap (.bA rfl) rfl ?_
 rintro _ w1 ⟨B1,rfl,NB1⟩
 have eB1:=NB1.at_
 have zB1:=NB1.size
 replace hS:=hS.Cf NB1
 change Wx.Sep _ _ _ [_]at hS
 refine Az (An (Ai (Ae ?_)))
 refine U (.fB 4 rfl) ?_
 refine U (.tr (PEv.lb rfl (hS.b0.Ad rfl)) (rfl)) ?_
 refine U (.n1 rfl) ?_
 refine LW.A rfl (Ah ?_)
 refine CW.f rfl ?_
 refine Ae ?_
 refine U (.fB 5 rfl) ?_
 refine U (.lb rfl (hS.b0.Ad rfl)) ?_
 refine U (.Cl kz (.t rfl)) ?_
 refine U (.tr (PEv.eql (.t rfl) (.const _)) (rfl)) ?_
 refine LW.A rfl (Ah ?_)
 refine CW.v rfl ?_
 refine Ae ?_
 refine Ap (.buildSlice (xs:=([0]:List Int)) (enc:=A4) (mk:=vi) ky k6 lf rfl cQ (fun _=>rfl) (fun _=>rfl) (.cons (.const _) .nil) rfl) rfl ?_
 rintro _ w2 ⟨B16,cB16,rfl,NB16,yB16,xB16⟩
 have eB16:=NB16.at_
 have zB16:=NB16.size
 replace hS:=hS.up NB16.up
 have hE16:=xB16
 refine LW.A rfl (Ah (Am (A6 (Au ?_))))
 refine KW.q ?_
 exact⟨B16,rfl,hE16,hS.Ch⟩
theorem V0(av:Option Addr)(cv:Nat)(L:List Sk)(ah:Option Addr)(ch:Nat)(l:List Fact)(w:World)(hF:FlG w av none L [])(hFw:Fwd L)(hH:Els w ah 19 Fact.cells l)(hl:l.length≤100000)(hst:Ou L l):Ret prog 25 #[.agg (aL av L.length cv (.slice ah l.length ch))] w fun r w'=>Sl w' r 1 A4 (Nq L l)∧(Nq L l).length≤5∧Up w w':=by
 by_cases h0:l=[]
 · subst h0
   exact(lZ av ah L.length cv ch w).mono fun _ _⟨B,e,hE,u⟩=>⟨⟨_,_,e,hE⟩,be rfl,u⟩
 have hl1:1≤l.length:=f5.2 h0
 obtain⟨p,hp⟩:=Af (xs:=l) (i:=l.length-1) oQ
 have hr:=hst p (ai hp)
 obtain⟨j,hj⟩:∃j:Nat,p.Step=(j:Int):=⟨p.Step.toNat,by omega⟩
 obtain⟨s,hs⟩:=Af (xs:=L) (i:=j) oQ
 rw[aM hp hl1 hj hs]
 exact(lY av cv L ah ch l w hF hFw hH hl j s p hs hl1 hp hj).mono fun _ _⟨hO,u⟩=>⟨hO.sl (fun _=>rfl),b6 (lO s l j) (by have:=(hF.g s (ai hs)).nl;omega),u⟩
theorem iP(bc:Array Go.Value)(b:Base)(wafer time:Int)(ah:Option Addr)(m ch:Nat)(f:Fact)(L:List Sk)(w:World)(hC:BaseC w bc b)(hlen:b.Lots.length<9223372036854775807)(hfl:b.Flows.length≤100000)(hpr:(Ib b.Lots wafer time).2≠0)(hf:aK b (Ib b.Lots wafer time).2=some f)(hT:f.Text=bs (Fj L))(hL:FlS L)(hFw:Fwd L)(hG:GM w):Ret prog 23 #[.agg bc,vi wafer,vi time,.slice ah m ch] w fun r w'=>∃av cv M,r=.agg (aL av M.length cv (.slice ah m ch))∧Same L M∧FlK w.heap.size w' av M∧Up w w':=by
 obtain⟨w0,rfl,hS⟩:=W0 w
 refine cT 57 func23 rfl ?_
 refine Ae ?_
 refine Ap (.bA rfl) rfl ?_
 rintro _ w1 ⟨B4,rfl,NB4⟩
 have eB4:=NB4.at_
 have zB4:=NB4.size
 replace hS:=hS.Cf NB4
 change Wx.Sep _ _ _ [_]at hS
 refine Ap (.Cb zeroValue85) rfl ?_
 rintro _ w2 ⟨B8,rfl,NB8⟩
 have eB8:=NB8.at_
 have zB8:=NB8.size
 replace hS:=hS.Cf NB8
 change Wx.Sep _ _ _ [_,_]at hS
 refine An (Aa (I rfl ?_))
 refine U (.build (cs:=zW (.slice ah m ch)) underlying85 zeroValue85 Tz (.cu rfl) rfl) ?_
 refine Ap (.Cb zeroValue85) rfl ?_
 rintro _ w3 ⟨B9,rfl,MB9⟩
 refine Ce (.Cc sizeOf85 rfl (.t rfl) (.t rfl) (qT _ _ _) MB9.blk rfl) ?_
 intro w4 LB9
 have NB9:=MB9.set LB9
 clear LB9 MB9
 have eB9:=NB9.at_
 have zB9:=NB9.size
 replace hS:=hS.Cf NB9
 change Wx.Sep _ _ _ [_,_,_]at hS
 refine An (Aa ?_)
 refine U (.F7 mg lz (hC.size) (.t rfl) (hS.b0.agg)) ?_
 refine I rfl (I rfl ?_)
 refine A3 (eC (.ct rfl (.ct rfl (.cu rfl))) (BC)) rfl (gS bc b wafer time _ (hC.up hS.Ch) hlen) ?_
 rintro _ w5 ⟨rfl,uw5⟩
 have zw5:=uw5.size
 replace hS:=hS.up uw5
 refine I rfl (U (.xt rfl rfl) (U (.xt rfl rfl) (LW.A rfl (LW.A rfl (An (Ae (I rfl ?_)))))))
 refine U (.fa (PEv.eql (.t rfl) (.const _)) (bx hpr)) ?_
 refine Ah ?_
 refine CW.f rfl ?_
 refine Aj (Ab (Ae ?_))
 refine U (.F7 mg lz (hC.size) (.t rfl) (hS.b0.agg)) ?_
 refine I rfl ?_
 refine A3 (eC (.u rfl rfl) (HV)) rfl (rI bc b _ _ (hC.up hS.Ch) hfl) ?_
 rintro _ w6 ⟨e29,uw6⟩
 have zw6:=uw6.size
 replace hS:=hS.up uw6
 rw[hf]at e29
 subst e29
 refine I rfl (U (.xt rfl rfl) ?_)
 refine U (.tr (PEv.xt rfl rfl) (rfl)) ?_
 refine Ap (.Cb lg) rfl ?_
 rintro _ w7 ⟨B12,rfl,MB12⟩
 refine Ce (.Cc k7 rfl (.t rfl) (.t rfl) (Fact.one _) MB12.blk rfl) ?_
 intro w8 LB12
 have NB12:=MB12.set LB12
 clear LB12 MB12
 have eB12:=NB12.at_
 have zB12:=NB12.size
 replace hS:=hS.Cf NB12
 change Wx.Sep _ _ _ [_,_,_,_]at hS
 refine LW.A rfl (An (Ae (I rfl ?_)))
 refine U (.n1 rfl) ?_
 refine Ah ?_
 refine CW.f rfl ?_
 refine Aj (Ab (Ae ?_))
 refine U (.fB 18 rfl) ?_
 refine U (.Dr (v':=.string (bs (Fj L))) (PEv.lb rfl (hS.b3.Ad rfl)) (bh Value.string hT)) ?_
 refine A3 (eC (.o rfl) (HX)) rfl (lF L hL _ (hG.up hS.Ch)) ?_
 rintro _ w9 ⟨sa,sc,M,rfl,hM,hFk,uw9⟩
 have zw9:=uw9.size
 replace hS:=hS.up uw9
 refine I rfl (U (.xt rfl rfl) (U (.xt rfl rfl) (U (.xt rfl rfl) ?_)))
 refine Ap (.Cb mj) rfl ?_
 rintro _ w10 ⟨B14,rfl,MB14⟩
 refine Ce (.Cc m4 rfl (.t rfl) (.t rfl) (Hu _ _ _ _ _ _) MB14.blk rfl) ?_
 intro w11 LB14
 have NB14:=MB14.set LB14
 clear LB14 MB14
 have eB14:=NB14.at_
 have zB14:=NB14.size
 replace hFk:=hFk.up NB14.up
 replace hS:=hS.Cf NB14
 change Wx.Sep _ _ _ [_,_,_,_,_]at hS
 refine LW.A rfl (LW.A rfl (An (Ae (I rfl ?_))))
 refine U (.tr (PEv.eql (.t rfl) (.const _)) (rfl)) ?_
 refine I rfl ?_
 refine Ar ?_
 refine U (.lc rfl (hS.b4.agg)) ?_
 refine Ar ?_
 refine A3 (eC (.o rfl) (HY)) rfl (eD sa none sc 0 M [] _ hFk.g (hM.rT hFw)) ?_
 rintro _ w12 ⟨rfl,uw12⟩
 have zw12:=uw12.size
 replace hS:=hS.up uw12
 replace hFk:=hFk.up uw12
 refine Ar ?_
 refine U (.bN (off:=0) underlying53 rfl rfl lv (.t rfl) rfl) ?_
 refine Ar ?_
 refine U (.tr (PEv.eql (.t rfl) (.const _)) (rfl)) ?_
 refine U (.pa rfl (fun hp=>wQ)) ?_
 refine Ah ?_
 refine CW.v rfl ?_
 refine Aa ?_
 refine U (.lc rfl (hS.b4.agg)) ?_
 refine U (.fB 0 rfl) ?_
 refine Ce (.Ur m4 rfl (.t rfl) (.t rfl) (Hu _ _ _ _ _ _) hS.b2 bQ) ?_
 intro w13 Nw13
 have zw13:=Nw13.size
 replace hS:=hS.Ec 2 rfl (show Set_ _ w13 _ (JA sa M.length sc (.slice ah m ch)) _ from Nw13)
 change Wx.Sep _ _ _ [_,_,_,_,_]at hS
 replace hFk:=hFk.sto Nw13.sto oQ
 refine U (.fB 4 rfl) ?_
 refine Ce (.store l9 (.t rfl) (.const _) rfl hS.b2 bQ) ?_
 intro w14 Nw14
 have zw14:=Nw14.size
 replace hS:=hS.Ec 2 rfl (show Set_ _ w14 _ (aL sa M.length sc (.slice ah m ch)) _ from Nw14)
 change Wx.Sep _ _ _ [_,_,_,_,_]at hS
 replace hFk:=hFk.sto Nw14.sto oQ
 refine An (Aa ?_)
 refine U (.lc rfl (hS.b2.agg)) ?_
 refine Ce (.Cc sizeOf85 rfl (.t rfl) (.t rfl) (uX _ _ _ _ _ _) hS.b1 rfl) ?_
 intro w15 Nw15
 have zw15:=Nw15.size
 replace hS:=hS.Ec 1 rfl Nw15
 change Wx.Sep _ _ _ [_,_,_,_,_]at hS
 replace hFk:=hFk.sto Nw15.sto oQ
 refine Ah (Am ?_)
 refine Fb rfl rfl isAgg85 sizeOf85 rfl (hS.b1.agg) ⟨_,rfl,?_⟩
 exact⟨sa,sc,M,rfl,hM,hFk.mono oQ,hS.Ch⟩
theorem mA(av:Option Addr)(m cv:Nat)(hv:Go.Value)(Bk:Nat)(w:World)(hK:Blk w Bk (aL av m cv hv) 85):Ret prog 168 #[.pointer (some ⟨Bk,0,none⟩)] w fun r w'=>r=.bool false∧Up w w':=by
 have hW:=Up.refl w
 obtain⟨w0,rfl,_⟩:=W0 w
 refine cT 5 func168 rfl ?_
 refine Ae (Az (An (Aa ?_)))
 refine U (.fB 4 rfl) ?_
 refine U (.tr (PEv.lb rfl ((hK.up hW).Ad rfl)) (rfl)) ?_
 refine U (.n1 rfl) ?_
 refine LW.A rfl (Ah (Am ?_))
 refine KW.q ?_
 exact⟨rfl,hW⟩
theorem mB(av:Option Addr)(cv:Nat)(L:List Sk)(ah:Option Addr)(ch:Nat)(l:List Fact)(w:World)(hF:FlG w av none L [])(hFw:Fwd L)(hH:Els w ah 19 Fact.cells l)(hl:l.length≤100000)(hst:Ou L l)(a:GAct)(Bk Ba:Nat)(hK:Blk w Bk (aL av L.length cv (.slice ah l.length ch)) 85)(hA:Blk w Ba (GAct.cells a) 44):Ret prog 169 #[.pointer (some ⟨Bk,0,none⟩),.pointer (some ⟨Ba,0,none⟩)] w fun r w'=>r=.bool (!decide (a.Step∈Nq L l))∧Up w w':=by
 have hW:=Up.refl w
 obtain⟨w0,rfl,_⟩:=W0 w
 refine cT 13 func169 rfl ?_
 refine Ae (Az (An ?_))
 refine Cz 7 kQ kQ kQ kQ kQ rfl rfl ?_
 refine J (.fB 4 rfl) ?_
 refine J (.tr (PEv.lb rfl (hK.Ad rfl)) (rfl)) ?_
 refine J (.mv rfl) ?_
 refine C1 (.lc rfl (hK.agg)) ?_
 refine xE (ph:=.pred fun v w=>Sl w v 1 A4 (Nq L l)∧(Nq L l).length≤5) (fun _ _ _ h u=>⟨Sl.up h.1 u,h.2⟩) rfl rfl rfl rfl rfl (fun a w hu ha=>⟨_,_,Bh (.cu rfl) (AQ) a ha,(V0 av cv L ah ch l w (hF.up hu) hFw (Els.up hH hu) hl hst).mono fun v w' h=>⟨h.2.2,h.1,h.2.1⟩⟩) rfl ?_
 refine C1 (.fB 1 rfl) ?_
 refine C1 (.lb rfl (hA.Ad rfl)) ?_
 refine HW.nil ?_
 intro w1 uw1
 have zw1:=uw1.size
 replace hW:=hW.up uw1
 refine Kh (d:=7) rfl fun v7 hp7=>?_
 obtain⟨⟨ad7,cp7,rfl,hE7⟩,h7l⟩:=hp7
 refine Ar ?_
 refine A3 (eC (.u rfl rfl) (mX)) rfl (Tn _ _ (Nq L l) a.Step _ hE7 oQ) ?_
 rintro _ w2 ⟨rfl,uw2⟩
 have zw2:=uw2.size
 replace hW:=hW.up uw2
 refine Ar ?_
 refine U (.n1 rfl) ?_
 refine U (.pa rfl (fun hp=>(by first|exact .const _|exact .tmp rfl|exact .cond rfl (by first|assumption|simp_all)))) ?_
 refine LW.A rfl (Ah (Am ?_))
 refine KW.q ?_
 exact⟨by simp,hW⟩
theorem mC(a:GAct)(s:Sk)(Bo Bs Ba:Nat)(w:World)(hO:Blk w Bo #[.bool true] 4)(hs:Blk w Bs s.cells 33)(hA:Blk w Ba (GAct.cells a) 44)(hE:Els w s.ta 1 A4 s.tl)(hl:s.tl.length≤100):Ret prog 170 #[.pointer (some ⟨Bo,0,none⟩),.pointer (some ⟨Bs,0,none⟩),.pointer (some ⟨Ba,0,none⟩)] w fun r w'=>r=.bool (!decide (a.Tool∈s.tl))∧Up w w':=by
 have hW:=Up.refl w
 obtain⟨w0,rfl,_⟩:=W0 w
 refine cT 13 func170 rfl ?_
 refine Ae (Az (An (Aa ?_)))
 refine U (.tr (PEv.lb rfl ((hO.up hW).Ad rfl)) (rfl)) ?_
 refine I rfl ?_
 refine Ar ?_
 refine U (.fB 1 rfl) ?_
 refine Ar ?_
 refine U (.lb rfl ((hs.up hW).Ad rfl)) ?_
 refine Ar ?_
 refine U (.fB 2 rfl) ?_
 refine Ar ?_
 refine U (.lb rfl ((hA.up hW).Ad rfl)) ?_
 refine Ar ?_
 refine A3 (eC (.u rfl rfl) (mX)) rfl (Tn _ _ s.tl a.Tool _ (Els.up hE hW) oQ) ?_
 rintro _ w1 ⟨rfl,uw1⟩
 have zw1:=uw1.size
 replace hW:=hW.up uw1
 refine Ar ?_
 refine U (.n1 rfl) ?_
 refine U (.pa rfl (fun hp=>(by first|exact .const _|exact .tmp rfl|exact .cond rfl (by first|assumption|simp_all)))) ?_
 refine LW.A rfl (Ah (Am ?_))
 refine KW.q ?_
 exact⟨by simp,hW⟩
theorem mD(a:GAct)(s:Sk)(Bo Bs Ba:Nat)(w:World)(hO:Blk w Bo #[.bool true] 4)(hs:Blk w Bs s.cells 33)(hA:Blk w Ba (GAct.cells a) 44):Ret prog 171 #[.pointer (some ⟨Bo,0,none⟩),.pointer (some ⟨Bs,0,none⟩),.pointer (some ⟨Ba,0,none⟩)] w fun r w'=>r=.bool (!decide (s.rc=a.Recipe))∧Up w w':=by
 have hW:=Up.refl w
 obtain⟨w0,rfl,_⟩:=W0 w
 refine cT 12 func171 rfl ?_
 refine Ae (Az (An (Aa ?_)))
 refine U (.tr (PEv.lb rfl ((hO.up hW).Ad rfl)) (rfl)) ?_
 refine I rfl ?_
 refine Ar ?_
 refine U (.fB 0 rfl) ?_
 refine Ar ?_
 refine U (.lb rfl ((hs.up hW).Ad rfl)) ?_
 refine Ar ?_
 refine U (.fB 4 rfl) ?_
 refine Ar ?_
 refine U (.lb rfl ((hA.up hW).Ad rfl)) ?_
 refine Ar ?_
 refine U (.neq (.t rfl) (.t rfl)) ?_
 refine U (.pa rfl (fun hp=>(by first|exact .const _|exact .tmp rfl|exact .cond rfl (by first|assumption|simp_all)))) ?_
 refine LW.A rfl (Ah (Am ?_))
 refine KW.q ?_
 exact⟨by simp,hW⟩
theorem mE(bc:Array Go.Value)(b:Base)(a:GAct)(Bb Ba:Nat)(w:World)(hC:BaseC w bc b)(hB:Blk w Bb bc 35)(hA:Blk w Ba (GAct.cells a) 44)(hl:b.Qualified.length≤100000):Ret prog 172 #[.pointer (some ⟨Bb,0,none⟩),.pointer (some ⟨Ba,0,none⟩)] w fun r w'=>r=.bool (!Fp b a.Tool a.Chamber a.Recipe a.Revision a.Time)∧Up w w':=by
 have hW:=Up.refl w
 obtain⟨w0,rfl,_⟩:=W0 w
 refine cT 16 func172 rfl ?_
 refine Ae (Az (An (Aa ?_)))
 refine U (.F7 mg lz (hC.size) (.t rfl) ((hB.up hW).agg)) ?_
 refine U (.fB 2 rfl) ?_
 refine U (.lb rfl ((hA.up hW).Ad rfl)) ?_
 refine U (.fB 3 rfl) ?_
 refine U (.lb rfl ((hA.up hW).Ad rfl)) ?_
 refine U (.fB 4 rfl) ?_
 refine U (.lb rfl ((hA.up hW).Ad rfl)) ?_
 refine U (.fB 5 rfl) ?_
 refine U (.lb rfl ((hA.up hW).Ad rfl)) ?_
 refine U (.fB 6 rfl) ?_
 refine U (.lb rfl ((hA.up hW).Ad rfl)) ?_
 refine A3 (eC (.ct rfl (.ct rfl (.ct rfl (.ct rfl (.ct rfl (.cu rfl)))))) (DD)) rfl (Ud bc b _ _ _ _ _ _ (hC.up hW) hl) ?_
 rintro _ w1 ⟨rfl,uw1⟩
 have zw1:=uw1.size
 replace hW:=hW.up uw1
 refine U (.n1 rfl) ?_
 refine LW.A rfl (Ah (Am ?_))
 refine KW.q ?_
 exact⟨rfl,hW⟩
theorem Xq(bc:Array Go.Value)(b:Base)(a:GAct)(av:Option Addr)(cv:Nat)(L:List Sk)(hv:Go.Value)(j:Nat)(s:Sk)(y2 y3 y4 y5 y6:Bool)(w:World)(hC:BaseC w bc b)(hF:FlG w av none L [])(hs:L[j]?=some s)(h0:a.Step=(j:Int)):Ret prog 88 #[.agg bc,.agg (GAct.cells a),.agg (aL av L.length cv hv)] w fun r w'=>∃Bb Ba Bk Bs Bo Br B9,r=.func (.func 176) #[] #[.pointer (some ⟨B9,0,none⟩)]∧Wx.Sep no w w' [A5 Bb bc 35,A5 Ba (GAct.cells a) 44,A5 Bk (aL av L.length cv hv) 85,A5 Bs s.cells 33,A5 Bo #[.bool true] 4,Aw 227 2 Rsn.cells (.slice (some ⟨Br,0,none⟩) 6 6) (Qq Bk Ba Bo Bs Bb y2 y3 y4 y5 y6),A5 B9 #[.slice (some ⟨Br,0,none⟩) 6 6] 230]:=by
 obtain⟨w0,rfl,hS⟩:=W0 w
 refine cT 31 func88 rfl ?_
 refine Ae ?_
 refine Ap (.bA rfl) rfl ?_
 rintro _ w1 ⟨B3,rfl,NB3⟩
 have eB3:=NB3.at_
 have zB3:=NB3.size
 replace hS:=hS.Cf NB3
 change Wx.Sep _ _ _ [_]at hS
 refine Ap (.bA rfl) rfl ?_
 rintro _ w2 ⟨B4,rfl,NB4⟩
 have eB4:=NB4.at_
 have zB4:=NB4.size
 replace hS:=hS.Cf NB4
 change Wx.Sep _ _ _ [_,_]at hS
 refine Ap (.bA rfl) rfl ?_
 rintro _ w3 ⟨B5,rfl,NB5⟩
 have eB5:=NB5.at_
 have zB5:=NB5.size
 replace hS:=hS.Cf NB5
 change Wx.Sep _ _ _ [_,_,_]at hS
 refine Az (An (Aa ?_))
 refine U (.lc rfl (hS.b2.agg)) ?_
 refine U (.fB 1 rfl) ?_
 refine U (.Dr (v':=vi (j:Int)) (PEv.lb rfl (hS.b1.Ad rfl)) (bh vi h0)) ?_
 refine A3 (eC (.u rfl rfl) (xO)) rfl (Pw av cv L hv j _ (hF.up hS.Ch) s hs) ?_
 rintro _ w4 ⟨rfl,uw4⟩
 have zw4:=uw4.size
 replace hS:=hS.up uw4
 refine I rfl (U (.xt rfl rfl) (U (.xt rfl rfl) ?_))
 refine Ap (.Cb l5) rfl ?_
 rintro _ w5 ⟨B7,rfl,NB7⟩
 have eB7:=NB7.at_
 have zB7:=NB7.size
 replace hS:=hS.Cf NB7
 change Wx.Sep _ _ _ [_,_,_,_]at hS
 refine Ap (.Gc mw rfl) rfl ?_
 rintro _ w6 ⟨B8,rfl,NB8⟩
 have eB8:=NB8.at_
 have zB8:=NB8.size
 replace hS:=hS.Cf NB8
 change Wx.Sep _ _ _ [_,_,_,_,_]at hS
 refine Ce (.Cc lr rfl (.t rfl) (.t rfl) (Sk.one _) hS.b3 rfl) ?_
 intro w7 Nw7
 have zw7:=Nw7.size
 replace hS:=hS.Ec 3 rfl (show Set_ _ w7 _ (s.cells) _ from Nw7)
 change Wx.Sep _ _ _ [_,_,_,_,_]at hS
 refine Ce (.store l9 (.t rfl) (.t rfl) rfl hS.b4 bQ) ?_
 intro w8 Nw8
 have zw8:=Nw8.size
 replace hS:=hS.Ec 4 rfl Nw8
 change Wx.Sep _ _ _ [_,_,_,_,_]at hS
 refine An (Aa ?_)
 refine U (.makeFunc (.cu rfl)) ?_
 refine U (.build (cs:=Rsn.cells ⟨1,168,#[.pointer (some ⟨B5,0,none⟩)],false⟩) m6 mz Fg (.cons (.const _) (.cu rfl)) rfl) ?_
 refine U (.makeFunc (.ct rfl (.cu rfl))) ?_
 refine U (.build (cs:=Rsn.cells ⟨2,169,#[.pointer (some ⟨B5,0,none⟩),.pointer (some ⟨B4,0,none⟩)],y2⟩) m6 mz Fg (.cons (.const _) (.cu rfl)) rfl) ?_
 refine U (.makeFunc (.ct rfl (.ct rfl (.cu rfl)))) ?_
 refine U (.build (cs:=Rsn.cells ⟨4,170,#[.pointer (some ⟨B8,0,none⟩),.pointer (some ⟨B7,0,none⟩),.pointer (some ⟨B4,0,none⟩)],y3⟩) m6 mz Fg (.cons (.const _) (.cu rfl)) rfl) ?_
 refine U (.makeFunc (.ct rfl (.ct rfl (.cu rfl)))) ?_
 refine U (.build (cs:=Rsn.cells ⟨8,171,#[.pointer (some ⟨B8,0,none⟩),.pointer (some ⟨B7,0,none⟩),.pointer (some ⟨B4,0,none⟩)],y4⟩) m6 mz Fg (.cons (.const _) (.cu rfl)) rfl) ?_
 refine U (.makeFunc (.ct rfl (.cu rfl))) ?_
 refine U (.build (cs:=Rsn.cells ⟨16,172,#[.pointer (some ⟨B3,0,none⟩),.pointer (some ⟨B4,0,none⟩)],y5⟩) m6 mz Fg (.cons (.const _) (.cu rfl)) rfl) ?_
 refine U (.makeFunc (.ct rfl (.cu rfl))) ?_
 refine U (.build (cs:=Rsn.cells ⟨32,174,#[.pointer (some ⟨B3,0,none⟩),.pointer (some ⟨B4,0,none⟩)],y6⟩) m6 mz Fg (.cons (.const _) (.cu rfl)) rfl) ?_
 refine Ap (.buildSlice (xs:=([⟨1,168,#[.pointer (some ⟨B5,0,none⟩)],false⟩,⟨2,169,#[.pointer (some ⟨B5,0,none⟩),.pointer (some ⟨B4,0,none⟩)],y2⟩,⟨4,170,#[.pointer (some ⟨B8,0,none⟩),.pointer (some ⟨B7,0,none⟩),.pointer (some ⟨B4,0,none⟩)],y3⟩,⟨8,171,#[.pointer (some ⟨B8,0,none⟩),.pointer (some ⟨B7,0,none⟩),.pointer (some ⟨B4,0,none⟩)],y4⟩,⟨16,172,#[.pointer (some ⟨B3,0,none⟩),.pointer (some ⟨B4,0,none⟩)],y5⟩,⟨32,174,#[.pointer (some ⟨B3,0,none⟩),.pointer (some ⟨B4,0,none⟩)],y6⟩]:List Rsn)) (enc:=Rsn.cells) (mk:=fun r=>.agg r.cells) underlying230 sizeOf227 mz rfl cQ (fun _=>rfl) (fun _=>rfl) (.ct rfl (.ct rfl (.ct rfl (.ct rfl (.ct rfl (.cu rfl)))))) rfl) rfl ?_
 intro v29 w9 hN29
 obtain⟨uw9,B29,rfl,e29,hO29⟩:=NewSl.own hN29 (fun _=>rfl) cQ (by simp[maxLen])
 have zw9:=uw9.size
 replace hS:=hS.add uw9 (A':=Aw 227 2 Rsn.cells (.slice (some ⟨B29,0,none⟩) 6 6) ([⟨1,168,#[.pointer (some ⟨B5,0,none⟩)],false⟩,⟨2,169,#[.pointer (some ⟨B5,0,none⟩),.pointer (some ⟨B4,0,none⟩)],y2⟩,⟨4,170,#[.pointer (some ⟨B8,0,none⟩),.pointer (some ⟨B7,0,none⟩),.pointer (some ⟨B4,0,none⟩)],y3⟩,⟨8,171,#[.pointer (some ⟨B8,0,none⟩),.pointer (some ⟨B7,0,none⟩),.pointer (some ⟨B4,0,none⟩)],y4⟩,⟨16,172,#[.pointer (some ⟨B3,0,none⟩),.pointer (some ⟨B4,0,none⟩)],y5⟩,⟨32,174,#[.pointer (some ⟨B3,0,none⟩),.pointer (some ⟨B4,0,none⟩)],y6⟩]:List Rsn)) hO29 (fun i h=>by cases h;exact fh e29.symm)
 change Wx.Sep _ _ _ [_,_,_,_,_,_]at hS
 refine Ap (.Gc zeroValue230 rfl) rfl ?_
 rintro _ w10 ⟨B9,rfl,MB9⟩
 refine Ce (.store sizeOf230 (.t rfl) (.t rfl) rfl MB9.blk cQ) ?_
 intro w11 LB9
 have NB9:=MB9.set LB9
 clear LB9 MB9
 have eB9:=NB9.at_
 have zB9:=NB9.size
 replace hS:=hS.Cf NB9
 change Wx.Sep _ _ _ [_,_,_,_,_,_,_]at hS
 refine An (Aa ?_)
 refine U (.makeFunc (.cu rfl)) ?_
 refine LW.A rfl (Ah (Am ?_))
 refine KW.q ?_
 exact⟨B3,B4,B5,B7,B8,B29,B9,rfl,hS⟩
section
variable {w0 W W':World}{bc kn:Array Value}{b:Base}{a:GAct}{s:Sk}{Bb Ba Bk Bs Bo bq:Nat}{X Y:Nat→Prop}{y2 y3 y4 y5 y6:Bool}
theorem AD:∀r∈Qq Bk Ba Bo Bs Bb y2 y3 y4 y5 y6,∀args w,(callFunc r.fn args).run prog w=.ok (.enter r.fn args) w:=fun r hr args w=>by
 simp only[Qq,bm,d9,dw]at hr
 rcases hr with rfl|rfl|rfl|rfl|rfl|rfl
 · exact CY args w
 · exact CZ args w
 · exact DA args w
 · exact DB args w
 · exact DC args w
 exact DE args w
theorem AE{av ah:Option Addr}{cv ch:Nat}{M:List Sk}{l:List Fact}(hC:BaseC w0 bc b)(hH:Els w0 ah 19 Fact.cells l)(hl:l.length≤100000)(hFw:Fwd M)(hst:Ou M l)(hTl:s.tl.length≤100)(hs:s∈M)(hq:b.Qualified.length≤100000)(hHo:b.Holds.length≤1000000000)(hRl:b.Releases.length<9223372036854775807)(hL:b.Lots.length<9223372036854775807)
   (W:World)(h:WhyX w0 bc a (aL av M.length cv (.slice ah l.length ch)) s av M Bb Ba Bk Bs Bo W):∀r∈Qq Bk Ba Bo Bs Bb (!decide (a.Step∈Nq M l)) (!decide (a.Tool∈s.tl)) (!decide (s.rc=a.Recipe)) (!Fp b a.Tool a.Chamber a.Recipe a.Revision a.Time) (decide (0<(Iq b a).length)),Ret prog r.fn (#[]++r.lb) W fun v W'=>v=.bool r.yes∧Up W W':=fun r hr=>by
 simp only[Qq,bm,d9,dw]at hr
 rw[Array.empty_append]
 rcases hr with rfl|rfl|rfl|rfl|rfl|rfl
 · exact mA av M.length cv _ Bk W h.bk
 · exact mB av cv M ah ch l W h.g hFw (Els.up hH h.u) hl hst a Bk Ba h.bk h.ba
 · exact mC a s Bo Bs Ba W h.bo h.bs_ h.ba (h.g.p s hs).1 hTl
 · exact mD a s Bo Bs Ba W h.bo h.bs_ h.ba
 · exact mE bc b a Bb Ba W (hC.up h.u) h.bb h.ba hq
 exact rG bc b a Bb Ba W (hC.up h.u) h.bb h.ba hHo hRl hL
end
theorem Ox(bc:Array Go.Value)(b:Base)(a:GAct)(L:List Sk)(ah:Option Addr)(ch:Nat)(l:List Fact)(w:World)(hC:BaseC w bc b)(hH:Els w ah 19 Fact.cells l)(hM_:WhyH b a L l)(hG:GM w):Ret prog 30 #[.agg bc,.agg (GAct.cells a),.slice ah l.length ch] w fun r w'=>r=vi (aN b a L l)∧Up w w':=by
 obtain⟨w0,rfl,_⟩:=W0 w
 have hS:=(Sep.start no w0).cJ
 change Wx.Sep _ _ _ [_]at hS
 obtain⟨f,hf,hT⟩:=hM_.flow
 have hst_:=hM_.st
 obtain⟨j,hj⟩:∃j:Nat,a.Step=(j:Int):=⟨a.Step.toNat,by omega⟩
 obtain⟨s,hs⟩:=Af (xs:=L) (i:=j) oQ
 refine E3 (n:=24) func30 rfl rfl rfl ?_
 refine Ae ?_
 refine Ap (.bA rfl) rfl ?_
 rintro _ w1 ⟨B3,rfl,NB3⟩
 have eB3:=NB3.at_
 have zB3:=NB3.size
 replace hS:=hS.Cf NB3
 change Wx.Sep _ _ _ [_,_]at hS
 refine Ap (.bA rfl) rfl ?_
 rintro _ w2 ⟨B4,rfl,NB4⟩
 have eB4:=NB4.at_
 have zB4:=NB4.size
 replace hS:=hS.Cf NB4
 change Wx.Sep _ _ _ [_,_,_]at hS
 refine Az (An (Aa ?_))
 refine Ap (.Gc lf rfl) rfl ?_
 rintro _ w3 ⟨B7,rfl,MB7⟩
 refine Ce (.store k6 (.t rfl) (.const _) rfl MB7.blk cQ) ?_
 intro w4 LB7
 have NB7:=MB7.set LB7
 clear LB7 MB7
 have eB7:=NB7.at_
 have zB7:=NB7.size
 replace hS:=hS.Cf NB7
 change Wx.Sep _ _ _ [_,_,_,_]at hS
 refine An (Ak ?_)
 have hS0_:=hS
 obtain⟨bz,ebz⟩:∃b,b=w4.heap.size:=⟨_,rfl⟩
 refine Cz 9 kQ kQ kQ kQ kQ rfl rfl ?_
 refine J (.F7 mg lz (hC.size) (.t rfl) (hS.b1.agg)) ?_
 refine J (.lc rfl (hS.b2.agg)) ?_
 refine J (.F7 mg lz (hC.size) (.t rfl) (hS.b1.agg)) ?_
 refine J (.fB 0 rfl) ?_
 refine J (.lb rfl (hS.b2.Ad rfl)) ?_
 refine J (.fB 6 rfl) ?_
 refine J (.lb rfl (hS.b2.Ad rfl)) ?_
 refine J (.mv rfl) ?_
 refine Uq (p:=fun v W=>∃(av:Option Addr)(cv:Nat)(M:List Sk),v=.agg (aL av M.length cv (.slice ah l.length ch))∧Same L M∧FlK bz W av M) (fun _ _ _⟨av,cv,M,h1,h2,h4⟩u=>⟨av,cv,M,h1,h2,h4.up u⟩) (fun a w _ ha=>Bh (.ct rfl (.ct rfl (.ct rfl (.cu rfl)))) (AP) a ha) rfl rfl (fun w hu=>(iP bc b a.Wafer a.Time ah l.length ch f L w (hC.up (hS.Ch.trans hu)) (by have:=hM_.hLo;omega) hM_.hFl hM_.lot hf hT hM_.fl hM_.fw (hG.up (hS.Ch.trans hu))).mono fun _ _⟨av,cv,M,h1,h2,h4,h5⟩=>⟨h5,av,cv,M,h1,h2,h4.mono (by rw[ebz];exact hu.size)⟩) ?_
 refine HW.nil ?_
 intro w5 uw5
 have zw5:=uw5.size
 replace hS:=hS.up uw5
 refine Kh (d:=17) rfl fun v17 hp17=>?_
 obtain⟨av,cv,M,rfl,hM,hFk⟩:=hp17
 obtain⟨t,ht⟩:=Af (xs:=M) (i:=j) (by rw[hM.len];omega)
 obtain⟨s',hs',ev⟩:=hM.at_ ht
 cases hs.symm.trans hs'
 have etl:t.tl=s.tl:=bh (fun v=>v.2.1) ev
 have erc:t.rc=s.rc:=bh (fun v=>v.1) ev
 have hta:=(hFk.g.g t (ai ht))
 replace hS:=hS0_.add uw5 (A':=lL av M) hFk.g (fun i h=>by rw[←ebz];exact iE hFk.b i h)
 change Wx.Sep _ _ _ [_,_,_,_,_]at hS
 refine A3 (eC (.ct rfl (.ct rfl (.cu rfl))) (IG)) rfl (Xq bc b a av cv M (.slice ah l.length ch) j t (!decide (a.Step∈Nq M l)) (!decide (a.Tool∈t.tl)) (!decide (t.rc=a.Recipe)) (!Fp b a.Tool a.Chamber a.Recipe a.Revision a.Time) (decide (0<(Iq b a).length)) _ (hC.up hS.Ch) hFk.g ht hj) ?_
 rintro _ w6 ⟨Bb,Ba,Bk,Bs,Bo,Br,B9,rfl,hNs⟩
 have zN:=hNs.size
 replace hS:=hS.join hNs
 change Wx.Sep _ _ _ [_,_,_,_,_,_,_,_,_,_,_,_]at hS
 replace hS:=hS.Ef 3 rfl
 change Wx.Sep _ _ _ [_,_,_,_,_,_,_,_,_,_,_,_]at hS
 refine Ah (Ai ?_)
 obtain⟨bq,hbq⟩:∃bq,bq=w6.heap.size:=⟨_,rfl⟩
 refine Lg (Zs:=[_,_,_,_,_,_,_,_,_,_,_]) (σ:=Int) (fun s=>[A5 B7 #[vi s] 3]) (fun pre s=>(s=(pre.map fun x:qP (Qq Bk Ba Bo Bs Bb (!decide (a.Step∈Nq M l)) (!decide (a.Tool∈t.tl)) (!decide (t.rc=a.Recipe)) (!Fp b a.Tool a.Chamber a.Recipe a.Revision a.Time) (decide (0<(Iq b a).length)))=>x.1.num).sum)) (fun _ _ _=>False) (fun x b=>[]) (fun x b=>[(8,.eq (vi x.1.num)),(7,.eq (.pointer (some ⟨B7,0,none⟩)))]) 0 (.t rfl) (fun args w=>DG args w) (rH _ _ B9 Br (Qq Bk Ba Bo Bs Bb (!decide (a.Step∈Nq M l)) (!decide (a.Tool∈t.tl)) (!decide (t.rc=a.Recipe)) (!Fp b a.Tool a.Chamber a.Recipe a.Revision a.Time) (decide (0<(Iq b a).length))) (WhyX w0 bc a (aL av M.length cv (.slice ah l.length ch)) t av M Bb Ba Bk Bs Bo) _ (fun _ _ h u=>h.up u) (fun _ _ h k=>h.kx k (fun i h=>h.1.elim (fun h=>h.elim) id) (fun i h=>h.1.elim (fun h=>h.elim) id) oQ (fun h=>h.2 ⟨_,ai (i:=4) rfl,rfl⟩) (fun h=>h.2 ⟨_,ai (i:=5) rfl,rfl⟩) (fun h=>h.2 ⟨_,ai (i:=6) rfl,rfl⟩) (fun h=>h.2 ⟨_,ai (i:=7) rfl,rfl⟩) (fun h=>h.2 ⟨_,ai (i:=8) rfl,rfl⟩) (fun i hi h=>h.2 ⟨_,ai (i:=3) rfl,hi⟩)) (AE hC hH hM_.hl (hM.rT hM_.fw) (fun p hp=>by rw[hM.len];exact hM_.hst p hp) (b6 hta.tl.2 cQ) (ai ht) hM_.hQu (by have:=hM_.hHo;omega) (by have:=hM_.hRe;omega) (by have:=hM_.hLo;omega)) AD bQ (fun h=>h.2 ⟨_,ai (i:=10) rfl,rfl⟩) (fun h=>h.2 ⟨_,ai (i:=9) rfl,rfl⟩) (hS.blk 10 rfl) (Cg (hS.own 9 rfl) (fun _=>rfl)) ⟨hS.Ch,hS.blk 4 rfl,hS.blk 5 rfl,hS.blk 6 rfl,hS.blk 7 rfl,hS.blk 8 rfl,hS.get 3 rfl⟩) (fun _=>rfl) rfl (fun _ _=>rfl) (show Wx.Sep _ _ _ ([_,_,_,_,_,_,_,_,_,_,_]++[_])from hS) rfl ?_ ?_ ?_ ?_
 ·intro lp x w7
  have hS:=Sep.start no w7
  refine Ho rfl ?_
  refine Aa (LW.A rfl (LW.nil ?_))
  exact fun a ha=>⟨0,hS,.nil _ _,ha.sub tQ⟩
 ·rintro lp pre x z b w8 hJ hlt hqw hS0 hS
  rw[←hbq]at hqw⊢
  have zq:=hqw
  change Wx.Sep _ _ _ [_]at hS
  have hx32:=iF x
  have hsl:=eK pre
  have hlt6:=ez hlt vA
  refine Ai (Aa ?_)
  refine U (.lb rfl (hS.b0.Ad rfl)) ?_
  refine I rfl ?_
  refine U (.add (.t rfl) (.t rfl) oQ oQ) ?_
  refine Ce (.store k6 (.t rfl) (.t rfl) rfl hS.b0 bQ) ?_
  intro w9 Nw9
  have zw9:=Nw9.size
  replace hS:=hS.Ec 0 rfl Nw9
  change Wx.Sep _ _ _ [_]at hS
  refine LW.nil (Al ?_)
  exact fun _ _=>⟨z+x.1.num,[],(by rw[hJ];exact(uZ pre x (fun x=>x.1.num)).symm),hS,.cons (Mh hS.b0) (.nil _ _)⟩
 ·rintro Dm ys z w10 hDq hYs hJ hqw hS
  rw[←hbq]at hDq hqw
  have zq:=hqw
  replace hS:=Wf (Ds:=[]) (As:=[_,_,_,_,_,_,_,_,_,_]) (Bs:=[_]) hS
  change Wx.Sep _ _ _ [_,_,_,_,_,_,_,_,_,_,_,_]at hS
  refine Al (Ab (Ae ?_))
  refine U (.lb rfl ((hS.blk 11 rfl).Ad rfl)) ?_
  refine LW.A rfl (Ah (Am ?_))
  refine M3 rfl (Dm::[]) _ (hS.get 0 rfl).1 (hS.get 0 rfl).2 ?_
  intro w11 hF_
  replace hS:=hS.step 0 rfl (A':=jJ) hF_ trivial (fun _ h=>h.elim)
  change Wx.Sep _ _ _ [_,_,_,_,_,_,_,_,_,_,_,_]at hS
  have zw11:=hF_.size
  refine KW.q ?_
  have h1:=(show(ys.map fun x=>x.1.num).sum=((ys.map (·.1)).map (·.num)).sum by rw[fi];rfl).trans (bh (fun l:List Rsn=>(l.map (·.num)).sum) hYs)
  replace h1:=h1.trans vB
  exact⟨bh vi (by rw[hJ,h1];unfold aN;rw[hj,show((j:Nat):Int).toNat=j from rfl,hs,←hj];dsimp only;rw[aO hM,etl,erc]),hS.Ch⟩
 exact fun _ _ _ _ _ _ _ h=>h.elim
theorem eW(ad:Option Addr)(cp:Nat)(l:List Fact)(w:World)(hE0:Els w ad 19 Fact.cells l)(hl:l.length≤100000):Ret prog 78 #[.slice ad l.length cp] w fun r w'=>OwnS w' w.heap.size 47 19 Fact.cells r l∧Up w w':=by
 obtain⟨w0,rfl,hS⟩:=W0 w
 refine cT 8 func78 rfl ?_
 refine Ae (Az (An (Ae (I rfl ?_))))
 refine U (.Wh kz (.t rfl)) ?_
 refine Ah ?_
 refine CW.b rfl (fun h4=>?_) (fun h4=>?_)
 ·replace h4:=dQ h4
  have hnil:l=[]:=by cases l with|nil=>rfl|cons x r=>(obtain⟨B,o,e,_⟩:=hE0 0 x rfl;rw[e]at h4;cases h4)
  refine Ae (Az (Ah (Am (Au ?_))))
  refine KW.q ?_
  first|(subst hnil;exact⟨OwnS.nil _ _ _ _ _,hS.Ch⟩)|exact⟨(hS.own 0 rfl).Gn (fun i h=>(hS.foot 0 rfl i h).resolve_left (fun h=>h)),hS.Ch⟩
 replace h4:=dQ h4
 refine Aj (Ab (Ae ?_))
 refine Ap (.buildSlice (xs:=([]:List Fact)) (enc:=Fact.cells) (mk:=fun f=>.agg f.cells) kz k7 lg rfl cQ (fun _=>rfl) (fun _=>rfl) .nil rfl) rfl ?_
 intro v5 w1 hN5
 obtain⟨uw1,B5,rfl,hO5⟩:=Rj hN5 (bi _)
 have zw1:=uw1.size
 replace hS:=hS.add uw1 (A':=Aw 47 19 Fact.cells (.slice (some ⟨B5,0,none⟩) 0 0) ([]:List Fact)) (hO5.mono (a_ _)) (fun i h=>hO5.base i h)
 change Wx.Sep _ _ _ [_]at hS
 refine I rfl ?_
 refine Ap (.Df (enc:=Fact.cells) (bytes:=160) (i:=Tryz.t47) kz kQ rfl rfl rfl rfl cQ (fun _=>rfl) Fact.one (.t rfl) (.t rfl) (hS.own 0 rfl) (Ay (Els.up hE0 hS.Ch)) (by simp[maxLen];omega) (by simp;omega)) rfl ?_
 intro v7 w2 Gw2
 have zw2:=Gw2.fr.size
 replace hS:=hS.Ft 0 rfl Gw2
 change Wx.Sep _ _ _ [_]at hS
 refine LW.A rfl (Ah (Am ?_))
 refine KW.q ?_
 first|(subst hnil;exact⟨OwnS.nil _ _ _ _ _,hS.Ch⟩)|exact⟨(hS.own 0 rfl).Gn (fun i h=>(hS.foot 0 rfl i h).resolve_left (fun h=>h)),hS.Ch⟩
theorem eX(f:Fact)(t:Int)(B:Nat)(w:World)(hB:Blk w B #[vi t] 3):Ret prog 79 #[.agg f.cells,.pointer (some ⟨B,0,none⟩)] w fun r w'=>r=.bool (decide (f.Time>t))∧Up w w':=by
 have hW:=Up.refl w
 obtain⟨w0,rfl,_⟩:=W0 w
 refine cT 8 func79 rfl ?_
 refine Ae ?_
 refine Ap (.bA rfl) rfl ?_
 rintro _ w1 ⟨B2,rfl,NB2⟩
 have eB2:=NB2.at_
 have zB2:=NB2.size
 replace hW:=hW.up NB2.up
 have hB2:=NB2.blk
 refine Az (An (Aa ?_))
 refine U (.fB 5 rfl) ?_
 refine U (.lb rfl (hB2.Ad rfl)) ?_
 refine U (.lb rfl ((hB.up hW).Ad rfl)) ?_
 refine U (.gtr (.t rfl) (.t rfl)) ?_
 refine LW.A rfl (Ah (Am ?_))
 refine KW.q ?_
 exact⟨rfl,hW⟩
theorem mF(cf:Nat)(lb:Array Go.Value)(p:Fact→Bool)(hen:∀args w,(callFunc cf args).run prog w=.ok (.enter cf args) w)(ad:Option Addr)(cp:Nat)(l:List Fact)(w:World)(hE0:Els w ad 19 Fact.cells l)(hl:l.length≤100000)(hp:∀W,Up w W→∀x,Ret prog cf (#[.agg (Fact.cells x)]++lb) W fun r W'=>r=.bool (p x)∧Up W W')(hno:∀x∈l,p x=false):Ret prog 77 #[.slice ad l.length cp,.func (.func cf) #[] lb] w fun r w'=>r=.slice ad l.length cp∧Up w w':=by
 have hW:=Up.refl w
 obtain⟨w0,rfl,_⟩:=W0 w
 refine cT 42 func77 rfl ?_
 refine Ae (Az (An (Aa (I rfl (I rfl ?_)))))
 refine A3 (eC (.u rfl rfl) (xI)) rfl (Pf cf lb p hen ad cp l _ (Els.up hE0 hW) hl (fun W u x=>hp W (hW.trans u) x)) ?_
 rintro _ w1 ⟨i,rfl,hi,uw1⟩
 have zw1:=uw1.size
 replace hW:=hW.up uw1
 have hi1:i= -1:=hi.elim (fun⟨k,x,_,hx,h1,_⟩=>by rw[hno x (ai hx)]at h1;cases h1) (fun h=>h.1)
 subst hi1
 refine LW.A rfl (An (Ae (I rfl ?_)))
 refine U (.tr (PEv.eql (.t rfl) (.const _)) (rfl)) ?_
 refine Ah ?_
 refine CW.v rfl ?_
 refine Ae (I rfl (LW.A rfl (Ah (Am (Au ?_)))))
 refine KW.q ?_
 exact⟨rfl,hW⟩
theorem Np(bc:Array Go.Value)(b:Base)(wafer time:Int)(w:World)(hC:BaseC w bc b)(hl:b.Swaps.length≤100000)(hp:b.Processes.length≤100000)(ht:∀x∈(Hn b.Processes b.Swaps wafer),x.Time≤time)(hll:(Hn b.Processes b.Swaps wafer).length≤100000):Ret prog 24 #[.agg bc,vi wafer,vi time] w fun r w'=>OwnS w' w.heap.size 47 19 Fact.cells r (Hn b.Processes b.Swaps wafer)∧Up w w':=by
 obtain⟨w0,rfl,hS⟩:=W0 w
 refine cT 13 func24 rfl ?_
 refine Ae ?_
 refine Ap (.bA rfl) rfl ?_
 rintro _ w1 ⟨B3,rfl,NB3⟩
 have eB3:=NB3.at_
 have zB3:=NB3.size
 replace hS:=hS.Cf NB3
 change Wx.Sep _ _ _ [_]at hS
 refine Ap (.O0 (.t rfl) rfl) rfl ?_
 rintro _ w2 ⟨B5,rfl,NB5⟩
 have eB5:=NB5.at_
 have zB5:=NB5.size
 replace hS:=hS.Cf NB5
 change Wx.Sep _ _ _ [_,_]at hS
 refine Az (An (Aa ?_))
 refine U (.F7 mg lz (hC.size) (.t rfl) (hS.b0.agg)) ?_
 refine I rfl ?_
 refine A3 (eC (.u rfl rfl) (AU)) rfl (Qc bc b wafer _ (hC.up hS.Ch) oQ oQ) ?_
 rintro v9 w3 ⟨hO9,uw3⟩
 have zw3:=uw3.size
 replace hS:=hS.up uw3
 obtain⟨ad9,cp9,rfl,hE9⟩:=hO9.sl (fun _=>rfl)
 refine A3 (eC (.o rfl) (IA)) rfl (eW ad9 cp9 _ _ hE9 hll) ?_
 rintro v10 w4 ⟨hO10,uw4⟩
 have zw4:=uw4.size
 replace hS:=hS.add uw4 (A':=Aw 47 19 Fact.cells v10 (Hn b.Processes b.Swaps wafer)) (hO10.mono (a_ _)) (fun i h=>hO10.base i h)
 change Wx.Sep _ _ _ [_,_,_]at hS
 clear hO10
 obtain⟨ad10,cp10,rfl,_⟩:=(hS.own 2 rfl).sl (fun _=>rfl)
 refine U (.makeFunc (.cu rfl)) ?_
 refine A3 (eC (.u rfl rfl) (HZ)) rfl (mF 79 #[.pointer (some ⟨B5,0,none⟩)] (fun f=>decide (f.Time>time)) IB ad10 cp10 (Hn b.Processes b.Swaps wafer) _ (Cg (hS.own 2 rfl) (fun _=>rfl)) hll (fun W u x=>eX x time B5 W (hS.b1.up u)) (fun x hx=>bx (by have:=ht x hx;omega))) ?_
 rintro _ w5 ⟨rfl,uw5⟩
 have zw5:=uw5.size
 replace hS:=hS.up uw5
 refine LW.A rfl (Ah (Am ?_))
 refine KW.q ?_
 exact⟨(hS.own 2 rfl).Gn (fun i h=>(hS.foot 2 rfl i h).resolve_left (fun h=>h)),hS.Ch⟩
end Go.Proofs.YthcabjphnacjeaaGreatDoor
