import Derived.Test.YtnpgbbaniknpkaaGreatDoorKR121
namespace Go.Wx
section
variable {P:Program}{n:Nat}{l:Env}{w:World}{fn:Func}{RR:Ending→World→Prop}
theorem sC{t u:Tmp}{T:TypeId}{B k:Nat}{cs:Array Value}{x:Value}(hr:fn.results=#[.tmp u,.cell t T])(hv:lk l t=some (.eq (.pointer (some ⟨B,0,none⟩))))(hu:lk l u=some (.eq x))(hT:∀w,(isAgg T).run P w=.ok true w)(hs:∀w,(sizeOf T).run P w=.ok k w)(hk:cs.size=k)(hc:AggAt w B 0 cs)
   (hR:RR (.returned (.tuple #[x,.agg cs])) w):KW n [] (bodyPost P fn RR .ret) l w:=fun a ha=>
 ⟨ha.defers,.tuple #[x,.agg cs],by
   have h1:a.tmps.getD t undef=.pointer (some ⟨B,0,none⟩):=ha.val _ _ hv
   have h2:a.tmps.getD u undef=x:=ha.val _ _ hu
   rw[bm]at h1 h2
   simp[results,hr,h1,h2,asAddr,F2 hT hs hk hc],hR⟩
end
def Vc(t:ByteArray):Fact:={ Io with Kind:=5,Version:=1,Product:=1,Text:=t }
def Kr(k:Nat):Fact:={ Io with Kind:=4,Version:=1,Wafer:=k,Lot:=1+((k/3:Nat):Int),Product:=1 }
def No(m:Nat):Fact:={ Io with Kind:=6,ID:=((m:Nat):Int)+1,Version:=1,Until:=1000000,Tool:=((m/10:Nat):Int),Chamber:=((m/5%2:Nat):Int),Recipe:=((m%5+1:Nat):Int),Revision:=1 }
def Wm(k:Nat):List Fact:=((List.range k).drop 1).map Kr
def Vd(t:ByteArray)(k:Nat):List Fact:=Vc t::Wm k
def Rl(t:ByteArray)(m:Nat):List Fact:=Vd t 4++(List.range m).map No
def Ee(t:ByteArray):List Fact:=Rl t 120
theorem fU{k:Nat}(h:1≤k):Wm (k+1)=Wm k++[Kr k]:=by
 unfold Wm
 rw[jd,List.drop_append_of_le_length (by rw[j_];exact h),co]
 rfl
theorem mQ(t:ByteArray)(m:Nat):Rl t (m+1)=Rl t m++[No m]:=by
 unfold Rl
 rw[jd,co,c6]
 rfl
theorem bO(t:ByteArray)(k:Nat):(Vd t k).length=1+(k-1):=by simp[Vd,Wm];omega
theorem bP(t:ByteArray)(m:Nat):(Rl t m).length=4+m:=by rw[Rl,ak,bO];simp
theorem mR(t:ByteArray){k:Nat}(h:1≤k):Vd t (k+1)=Vd t k++[Kr k]:=by rw[Vd,fU h];rfl
theorem mS(t:ByteArray):Vd t 4=Rl t 0:=(dk _).symm
theorem KO{k:Nat}(h:k≤3):IntKind.i64.wrap (Int.tdiv (k:Int) 3)=((k/3:Nat):Int):=by
 rcases(by omega:k=0∨k=1∨k=2∨k=3)with rfl|rfl|rfl|rfl<;>rfl
theorem Pn{α:Type}{w w':World}{ad:Option Addr}{k:Nat}{enc:α→Array Value}{l:List α}(h:Els w ad k enc l)(hk:∀i,(l≠[]∧∃o,ad=some ⟨i,o,none⟩)→i<w.heap.size→w'.heap[i]?=w.heap[i]?):Els w' ad k enc l:=fun i x hx=>by
 obtain⟨B,o,e,hc⟩:=h i x hx
 exact⟨B,o,e,fun j v hv=>(World.cell?_of_block (a:=⟨B,o+i*k+j,none⟩) (hk B ⟨fun e'=>(by rw[e']at hx;cases hx),o,e⟩ (World.block_lt_of_cell? _ _ (hc j v hv)))).trans (hc j v hv)⟩
theorem Yb{α:Type}{w:World}{ad:Option Addr}{k:Nat}{enc:α→Array Value}{l:List α}(h:Els w ad k enc l)(hp:∀x,∃v,(enc x)[0]?=some v){i:Nat}(hi:l≠[]∧∃o,ad=some ⟨i,o,none⟩):i<w.heap.size:=by
 obtain⟨hl,o,e⟩:=hi
 cases l with
 |nil=>exact absurd rfl hl
 |cons x r=>
   obtain⟨B,o',e',hc⟩:=h 0 x rfl
   obtain⟨v,hv⟩:=hp x
   cases e.symm.trans e'
   exact World.block_lt_of_cell? _ _ (hc 0 v hv)
def mT(sa:Option Addr)(L:List Sk):Asr where
 foot:=fun i=>(L≠[]∧∃o,sa=some ⟨i,o,none⟩)∨∃s∈L,(s.tl≠[]∧∃o,s.ta=some ⟨i,o,none⟩)∨(s.nx≠[]∧∃o,s.na=some ⟨i,o,none⟩)
 holds:=fun w=>FlG w sa none L []
 keep w w' h k _:=⟨h.len,Pn h.E (fun i hi=>k i (.inl hi)),h.g,fun s hs=>⟨Pn (h.p s hs).1 (fun i hi=>k i (.inr ⟨s,hs,.inl hi⟩)),Pn (h.p s hs).2 (fun i hi=>k i (.inr ⟨s,hs,.inr hi⟩))⟩,fun i x h=>by simp at h,h.wl,h.wn⟩
 lt w h i:=fun hi=>by
   rcases hi with hi|⟨s,hs,hi|hi⟩
   · exact Yb h.E (fun x=>⟨_,rfl⟩) hi
   · exact Yb (h.p s hs).1 (fun x=>⟨_,rfl⟩) hi
   exact Yb (h.p s hs).2 (fun x=>⟨_,rfl⟩) hi
theorem jK{b:Nat}{sa:Option Addr}{L:List Sk}(h:FlB b sa L)(i:Nat)(hi:(mT sa L).foot i):b≤i:=by
 rcases hi with⟨_,o,e⟩|⟨s,hs,⟨_,o,e⟩|⟨_,o,e⟩⟩
 · exact h.1 i o e
 · exact(h.2 s hs).1 i o e
 exact(h.2 s hs).2 i o e
def Wo(b:Base)(p:Int):Option Fact:=b.Flows.find? fun f=>decide (f.Product=p)
theorem Same.rX{L M:List Sk}(h:Same L M)(hF:Fwd L):Fwd M:=
 ⟨fun i t ht=>by obtain⟨s,hs,e⟩:=h.at_ ht;rw[show t.bk=s.bk from bi (fun v=>v.2.2.2.2.2.1) e];exact hF.b i s hs,
  fun i t ht x hx=>by obtain⟨s,hs,e⟩:=h.at_ ht;rw[show t.nx=s.nx from bi (fun v=>v.2.2.2.2.1) e]at hx;rw[h.len];exact hF.n i s hs x hx,
  fun t ht=>by obtain⟨i,hi⟩:=et.1 ht;obtain⟨s,hs,e⟩:=h.at_ hi;rw[show t.nx=s.nx from bi (fun v=>v.2.2.2.2.1) e];exact hF.l s (ai hs),by rw[h.len];exact hF.len⟩
theorem sD{l:List Int}{k:Nat}{n x:Int}(h:n∉l.take k)(hx:l[k]?=some x)(e:¬n=x):n∉l.take (k+1):=by
 rw[Df hx]
 exact fun hm=>(bt.1 hm).elim h (fun hm=>e (bn.1 hm))
structure Rsn where
 num:Int
 fn:Nat
 lb:Array Value
 yes:Bool
def Rsn.cells(r:Rsn):Array Value:=#[vi r.num,.func (.func r.fn) #[] r.lb]
theorem Rsn.one(r:Rsn):r.cells.all (·.oneCell')=true:=by simp[Rsn.cells,Value.oneCell']
abbrev sE(rs:List Rsn):Type:={r:Rsn//r∈rs∧r.yes=true}
structure Kep(G:World→Prop)(w:World):Prop where
 g:G w
 u:∀W W',G W→Up W W'→G W'
theorem Kep.up{G:World→Prop}{w w':World}(h:Kep G w)(u:Up w w'):Kep G w':=⟨h.u _ _ h.g u,h.u⟩
theorem FlK.mono{b b':Nat}{w:World}{sa:Option Addr}{L:List Sk}(h:FlK b w sa L)(hb:b'≤b):FlK b' w sa L:=
 ⟨h.g,fun B o e=>bu hb (h.b.1 B o e),fun s hs=>⟨fun B o e=>bu hb ((h.b.2 s hs).1 B o e),fun B o e=>bu hb ((h.b.2 s hs).2 B o e)⟩⟩
theorem Sl.kept{α:Type}{w w':World}{v:Go.Value}{k:Nat}{enc:α→Array Go.Value}{xs:List α}(h:Sl w v k enc xs)(hk:∀i,v.ownBlock=some i→xs≠[]→i<w.heap.size→w'.heap[i]?=w.heap[i]?):Sl w' v k enc xs:=by
 obtain⟨ad,c,rfl,he⟩:=h
 refine⟨ad,c,rfl,fun i x hx=>?_⟩
 obtain⟨B,o,e,ha⟩:=he i x hx
 refine⟨B,o,e,fun j v hv=>?_⟩
 have hc:=ha j v hv
 have hl:B<w.heap.size:=block_lt_of_cell hc
 have hb:=hk B (by rw[e];rfl) (fun e=>by rw[e]at hx;simp at hx) hl
 unfold World.cell? at hc⊢
 rw[hb];exact hc
def sF(bc:Array Go.Value)(b:Base)(i:Nat):Prop:=∃(j:Nat)(v:Go.Value),bc[j]?=some v∧v.ownBlock=some i∧Ip b j≠[]
theorem BaseC.kept{w w':World}{bc:Array Go.Value}{b:Base}(h:BaseC w bc b)(hk:∀i,sF bc b i→i<w.heap.size→w'.heap[i]?=w.heap[i]?):BaseC w' bc b:=by
 obtain⟨v0,v1,v2,v3,v4,v5,v6,v7,v8,v9,v10,rfl,h0,h1,h2,h3,h4,h5,h6,h7,h8,h9,h10⟩:=h
 exact⟨v0,v1,v2,v3,v4,v5,v6,v7,v8,v9,v10,rfl,Sl.kept h0 fun i hi hn=>hk i ⟨0,v0,rfl,hi,hn⟩,Sl.kept h1 fun i hi hn=>hk i ⟨1,v1,rfl,hi,hn⟩,Sl.kept h2 fun i hi hn=>hk i ⟨2,v2,rfl,hi,hn⟩,Sl.kept h3 fun i hi hn=>hk i ⟨3,v3,rfl,hi,hn⟩,Sl.kept h4 fun i hi hn=>hk i ⟨4,v4,rfl,hi,hn⟩,Sl.kept h5 fun i hi hn=>hk i ⟨5,v5,rfl,hi,hn⟩,Sl.kept h6 fun i hi hn=>hk i ⟨6,v6,rfl,hi,hn⟩,Sl.kept h7 fun i hi hn=>hk i ⟨7,v7,rfl,hi,hn⟩,Sl.kept h8 fun i hi hn=>hk i ⟨8,v8,rfl,hi,hn⟩,Sl.kept h9 fun i hi hn=>hk i ⟨9,v9,rfl,hi,hn⟩,Sl.kept h10 fun i hi hn=>hk i ⟨10,v10,rfl,hi,hn⟩⟩
theorem BaseC.LP{w:World}{bc:Array Go.Value}{b:Base}(h:BaseC w bc b):∀i,sF bc b i→i<w.heap.size:=by
 rintro i ⟨j,v,hv,hi,hn⟩
 by_cases hj:j<11
 · obtain⟨v',hv',ad,c,rfl,he⟩:=h.at_ hj
   rw[hv]at hv'
   cases hv'
   obtain⟨x,hx⟩:∃x,(Ip b j)[0]?=some x:=⟨_,cx (gb.2 hn)⟩
   obtain⟨B,o,e,ha⟩:=he 0 x hx
   subst e
   have hB:B=i:=dc hi
   have hc:=ha 0 (vi x.Kind) rfl
   have:=block_lt_of_cell hc
   exact hB▸this
 exact absurd (Wa b hj) hn
def T8(bc:Array Go.Value)(b:Base):Asr:=⟨sF bc b,fun w=>BaseC w bc b,fun _ _ h k _=>h.kept k,fun _ h=>h.LP⟩
theorem Ql{bc:Array Go.Value}{b:Base}{base:Nat}(h:iS base bc):∀i,(T8 bc b).foot i→base≤i:=fun i⟨j,v,hv,hi,_⟩=>h j v hv i hi
def bR(av:Option Addr)(n cv:Nat)(hv:Value):Array Value:=#[vi 2,vi 5,.slice av n cv,.slice none 0 0,.bool true,hv]
theorem wO(av:Option Addr)(n cv:Nat)(ah:Option Addr)(m ch:Nat):(bR av n cv (.slice ah m ch)).all (·.oneCell')=true:=by simp[bR,Value.oneCell']
def T9(l:List Fact)(i:Nat):Int:=(l.getD i Io).Step
theorem Dk{l:List Fact}{i:Nat}{x:Fact}(h:l[i]?=some x):T9 l i=x.Step:=by unfold T9;rw[cg,h];rfl
def Jb(l:List Fact)(j bk:Int):Nat→Nat
 |0=>0
 |k+1=>Jb l j bk k+if 0<k∧T9 l (k-1)=j∧T9 l k=bk then 1 else 0
theorem wP(l:List Fact)(j bk:Int):Jb l j bk 1=0:=rfl
theorem fV(l:List Fact)(j bk:Int):∀k,Jb l j bk k≤k
 |0=>bl _
 |k+1=>by have:=fV l j bk k;unfold Jb;split<;>omega
def G1(s:Sk)(l:List Fact)(j:Nat):List Int:=if 0≤s.bk∧(Jb l j s.bk l.length:Int)<s.lm then s.bk::s.nx else s.nx
theorem mU{l:List Int}{x:Int}(ha:l.Pairwise (· <·))(hx:∀y∈l,x<y):(l++[x]).mergeSort (fun a b=>decide (a≤b))=x::l:=by
 have hs:(x::l).Pairwise fun a b=>decide (a≤b)=true:=eg.2 ⟨fun y hy=>bj (Int.le_of_lt (hx y hy)),ha.imp fun h=>bj (Int.le_of_lt h)⟩
 refine List.Perm.eq_of_pairwise (le:=fun a b:Int=>decide (a≤b)=true) (fun a b _ _ h1 h2=>?_) (jp (fun a b c h1 h2=>?_) (fun a b=>?_) _) hs ((j1 _ _).trans jw)
 · have:=b9 h1
   have:=b9 h2
   omega
 · have:=b9 h1
   have:=b9 h2
   exact bj oQ
 simp only[gi,gj];omega
def BO(hv:Value):Array Value:=#[vi 0,vi 0,.slice none 0 0,.slice none 0 0,.bool false,hv]
def KP(av:Option Addr)(n cv:Nat)(hv:Value):Array Value:=#[vi 2,vi 5,.slice av n cv,.slice none 0 0,.bool false,hv]
theorem sG(ah:Option Addr)(m ch:Nat):(BO (.slice ah m ch)).all (·.oneCell')=true:=by simp[BO,Value.oneCell']
def K1(L:List Sk)(l:List Fact):List Int:=match l.getLast? with
 |none=>[0]
 |some p=>match L[p.Step.toNat]? with
   |some s=>G1 s l p.Step.toNat
   |none=>[]
def M5(L:List Sk)(l:List Fact):Prop:=∀p∈l,0≤p.Step∧p.Step<L.length
theorem D5{L:List Sk}{l:List Fact}{p:Fact}{s:Sk}{j:Nat}(hp:l[l.length-1]?=some p)(_:1≤l.length)(hj:p.Step=(j:Int))(hs:L[j]?=some s):K1 L l=G1 s l j:=by
 unfold K1
 rw[List.getLast?_eq_getElem?,hp]
 dsimp only
 rw[hj,show((j:Nat):Int).toNat=j from rfl,hs]
theorem Wp(s:Sk)(l:List Fact)(j:Nat):(G1 s l j).length≤s.nx.length+1:=by unfold G1;split<;>simp
def HO(y2 y3 y4 y5 y6:Bool):Int:=(if y2 then 2 else 0)+((if y3 then 4 else 0)+((if y4 then 8 else 0)+((if y5 then 16 else 0)+(if y6 then 32 else 0))))
def bS(b:Base)(a:GAct)(L:List Sk)(l:List Fact):Int:=match L[a.Step.toNat]? with
 |none=>0
 |some s=>HO (!decide (a.Step∈K1 L l)) (!decide (a.Tool∈s.tl)) (!decide (s.rc=a.Recipe)) (!Fo b a.Tool a.Chamber a.Recipe a.Revision a.Time) (decide (0<(I7 b a).length))
theorem fW{s t:Sk}(e:t.v=s.v)(l:List Fact)(j:Nat):G1 t l j=G1 s l j:=by
 obtain⟨rc,tl,ta,tc,mn,mx,nx,na,nc,bk,lm⟩:=s
 obtain⟨rc',tl',ta',tc',mn',mx',nx',na',nc',bk',lm'⟩:=t
 cases e
 rfl
theorem bT{L M:List Sk}(h:Same L M)(l:List Fact):K1 M l=K1 L l:=by
 unfold K1
 cases l.getLast? with
 |none=>rfl
 |some p=>
   dsimp only
   cases hM:M[p.Step.toNat]? with
   |none=>
     have:=List.getElem?_eq_none_iff.1 hM
     rw[cy (by rw[←h.len];exact this)]
   |some t=>
     obtain⟨s,hs,e⟩:=h.at_ hM
     rw[hs]
     exact fW e l _
theorem Els.KQ{α:Type}{bq:Nat}{X Y:Nat→Prop}{w w':World}{ad:Option Addr}{k:Nat}{enc:α→Array Value}{xs:List α}(h:Els w ad k enc xs)(u:Kx bq X Y w w')(hn:∀i,(xs≠[]∧∃o,ad=some ⟨i,o,none⟩)→¬X i):Els w' ad k enc xs:=by
 by_cases e:xs=[]
 · rw[e];exact fun i x hx=>by cases hx
 exact h.kx u (fun B o ea=>hn B ⟨e,o,ea⟩)
theorem FlG.kx{bq:Nat}{X Y:Nat→Prop}{w w':World}{sa:Option Addr}{L:List Sk}(h:FlG w sa none L [])(u:Kx bq X Y w w')(hn:∀i,(mT sa L).foot i→¬X i):FlG w' sa none L []:=
 ⟨h.len,h.E.KQ u (fun i hi=>hn i (.inl hi)),h.g,fun s hs=>⟨(h.p s hs).1.KQ u (fun i hi=>hn i (.inr ⟨s,hs,.inl hi⟩)),(h.p s hs).2.KQ u (fun i hi=>hn i (.inr ⟨s,hs,.inr hi⟩))⟩,fun i x h=>by simp at h,h.wl,h.wn⟩
structure WhyH(b:Base)(a:GAct)(L:List Sk)(l:List Fact):Prop where
 lot:(Hr b.Lots a.Wafer a.Time).2≠0
 flow:∃f,Wo b (Hr b.Lots a.Wafer a.Time).2=some f∧f.Text=bs (C4 L)
 hLo:b.Lots.length≤100000
 hFl:b.Flows.length≤100000
 hQu:b.Qualified.length≤100000
 hHo:b.Holds.length≤100000
 hRe:b.Releases.length≤100000
 fl:FlS L
 fw:Fwd L
 st:0≤a.Step∧a.Step<L.length
 hst:M5 L l
 hl:l.length≤100000
theorem wR{α:Type}(l:List α)(x:α)(f:α→Int):((l++[x]).map f).sum=(l.map f).sum+f x:=by simp[List.sum_append]
def Rm(Bk Ba Bo Bs Bb:Nat)(y2 y3 y4 y5 y6:Bool):List Rsn:=[⟨1,172,#[.pointer (some ⟨Bk,0,none⟩)],false⟩,⟨2,173,#[.pointer (some ⟨Bk,0,none⟩),.pointer (some ⟨Ba,0,none⟩)],y2⟩,⟨4,174,#[.pointer (some ⟨Bo,0,none⟩),.pointer (some ⟨Bs,0,none⟩),.pointer (some ⟨Ba,0,none⟩)],y3⟩,⟨8,175,#[.pointer (some ⟨Bo,0,none⟩),.pointer (some ⟨Bs,0,none⟩),.pointer (some ⟨Ba,0,none⟩)],y4⟩,⟨16,176,#[.pointer (some ⟨Bb,0,none⟩),.pointer (some ⟨Ba,0,none⟩)],y5⟩,⟨32,178,#[.pointer (some ⟨Bb,0,none⟩),.pointer (some ⟨Ba,0,none⟩)],y6⟩]
section
variable {w0 W W':World}{bc kn:Array Value}{b:Base}{a:GAct}{s:Sk}{Bb Ba Bk Bs Bo bq:Nat}{X Y:Nat→Prop}{av:Option Addr}{M:List Sk}{y2 y3 y4 y5 y6:Bool}
structure WhyX(w0:World)(bc:Array Value)(a:GAct)(kn:Array Value)(s:Sk)(av:Option Addr)(M:List Sk)(Bb Ba Bk Bs Bo:Nat)(W:World):Prop where
 u:Up w0 W
 bb:Blk W Bb bc 37
 ba:Blk W Ba (GAct.cells a) 89
 bk:Blk W Bk kn 85
 bs_:Blk W Bs s.cells 49
 bo:Blk W Bo #[.bool true] 4
 g:FlG W av none M []
theorem WhyX.up(h:WhyX w0 bc a kn s av M Bb Ba Bk Bs Bo W)(u:Up W W'):WhyX w0 bc a kn s av M Bb Ba Bk Bs Bo W':=⟨h.u.trans u,h.bb.up u,h.ba.up u,h.bk.up u,h.bs_.up u,h.bo.up u,h.g.up u⟩
theorem WhyX.kx(h:WhyX w0 bc a kn s av M Bb Ba Bk Bs Bo W)(k:Kx bq X Y W W')(hX:∀i,X i→w0.heap.size≤i)(hY:∀i,Y i→w0.heap.size≤i)(hb:w0.heap.size≤bq)(h1:¬X Bb)(h2:¬X Ba)(h3:¬X Bk)(h4:¬X Bs)(h5:¬X Bo)(h6:∀i,(mT av M).foot i→¬X i):WhyX w0 bc a kn s av M Bb Ba Bk Bs Bo W':=
 ⟨h.u.kx k hX hY hb,h.bb.kx k h1,h.ba.kx k h2,h.bk.kx k h3,h.bs_.kx k h4,h.bo.kx k h5,h.g.kx k h6⟩
theorem jL(x:sE (Rm Bk Ba Bo Bs Bb y2 y3 y4 y5 y6)):0≤x.1.num∧x.1.num≤32:=by
 obtain⟨r,hr,hy⟩:=x
 simp only[Rm,bp,ei,d_]at hr
 rcases hr with rfl|rfl|rfl|rfl|rfl|rfl
 · exact(by decide:(0:Int)≤1∧(1:Int)≤32)
 · exact(by decide:(0:Int)≤2∧(2:Int)≤32)
 · exact(by decide:(0:Int)≤4∧(4:Int)≤32)
 · exact(by decide:(0:Int)≤8∧(8:Int)≤32)
 · exact(by decide:(0:Int)≤16∧(16:Int)≤32)
 exact(by decide:(0:Int)≤32∧(32:Int)≤32)
theorem fX(pre:List (sE (Rm Bk Ba Bo Bs Bb y2 y3 y4 y5 y6))):0≤(pre.map fun x=>x.1.num).sum∧(pre.map fun x=>x.1.num).sum≤32*(pre.length:Int):=by
 induction pre with
 |nil=>exact⟨jb _,jb _⟩
 |cons x r ih=>
   have:=jL x
   rw[c8,j5,bg]
   omega
theorem wS:((Rm Bk Ba Bo Bs Bb y2 y3 y4 y5 y6).filter (·.yes)).length≤6:=ef _ _
theorem wU:(((Rm Bk Ba Bo Bs Bb y2 y3 y4 y5 y6).filter (·.yes)).map (·.num)).sum=HO y2 y3 y4 y5 y6:=by
 cases y2<;>cases y3<;>cases y4<;>cases y5<;>cases y6<;>rfl
end
theorem Po{l:List Fact}{d:Int}{j:Nat}(hj:j<11){x:Fact}:x∈Ip (Ll l d) j↔iW l d x∧x.Gone=false∧x.Kind=((j+1:Nat):Int):=by
 rw[R0 l d hj]
 unfold Ei
 rw[bh (bn.2 rfl),(D8 _).same.mem,fe,rF]
 simp
theorem M6{l:List Fact}{d:Int}{x:Fact}(h:iW l d x):Ca x=true:=Li h.2.1
theorem wV{l:List Fact}{d:Int}{x y:Fact}(hx:iW l d x)(hy:iW l d y)(e:Cm x=Cm y):x=y:=Od (M6 hx) (M6 hy) e (hy.2.2.2 x hx.1 hx.2.2.1) (hx.2.2.2 y hy.1 hy.2.2.1)
theorem Ks(l:List Fact)(d:Int){j:Nat}(hj:j<11):(Ip (Ll l d) j).Nodup:=by
 rw[R0 l d hj]
 unfold Ei
 rw[bh (bn.2 rfl)]
 exact((D8 _).same.perm.nodup_iff).2 ((Xu l d).filter _)
theorem Qm{α:Type}{key:α→K2}{A B:List α}(hA:Jr key A)(hB:Jr key B)(hp:A.Perm B)(hd:∀x∈A,∀y∈A,key x=key y→x=y):A=B:=by
 rw[(StS.refl hA).eq,(StS.refl hB).eq]
 exact Ti hp hd
theorem Yc(l:List Fact)(d:Int){j:Nat}(hj:j<11):Jr (Lp ((j+1:Nat):Int)) (Ip (Ll l d) j):=by
 rw[R0 l d hj];unfold Ei;rw[bh (bn.2 rfl)];exact(D8 _).ord
theorem sH{l m:List Fact}{d:Int}{j:Nat}(hj:j<11)(h:∀x,iW l d x∧x.Kind=((j+1:Nat):Int)↔iW m d x∧x.Kind=((j+1:Nat):Int)):Ip (Ll l d) j=Ip (Ll m d) j:=by
 refine Qm (Yc _ d hj) (Yc _ d hj) (Mh (Ks _ d hj) (Ks _ d hj) fun x=>?_) fun x hx y hy e=>?_
 · rw[Po hj,Po hj]
   have:=h x
   exact⟨fun⟨a,b,c⟩=>⟨(this.1 ⟨a,c⟩).1,b,c⟩,fun⟨a,b,c⟩=>⟨(this.2 ⟨a,c⟩).1,b,c⟩⟩
 have hx:=(Po hj).1 hx
 have hy:=(Po hj).1 hy
 exact wV hx.1 hy.1 (N9 (M6 hx.1) (M6 hy.1) hx.2.2 hy.2.2 e)
theorem sI{l m:List Fact}{d:Int}{j:Nat}(hj:j<11)(h:∀x,x.Kind=((j+1:Nat):Int)→(x∈l↔x∈m)):Ip (Ll l d) j=Ip (Ll m d) j:=by
 have key:∀{l m:List Fact},(∀x,x.Kind=((j+1:Nat):Int)→(x∈l↔x∈m))→∀x,iW l d x∧x.Kind=((j+1:Nat):Int)→iW m d x∧x.Kind=((j+1:Nat):Int):=fun{l m}h x⟨⟨h1,h2,h3,h4⟩,hk⟩=>by
   refine⟨⟨(h x hk).1 h1,h2,h3,fun g hg hd=>?_⟩,hk⟩
   cases hp:E0 g x with
   |false=>rfl
   |true=>
     have hp2:=hp
     unfold E0 at hp2
     simp only[b6]at hp2
     obtain⟨⟨⟨v1,v2⟩,v3⟩,_⟩:=hp2
     have:=h4 g ((h g ((Kl v1 v2 (by simpa using v3)).trans hk)).2 hg) hd
     rw[this]at hp;cases hp
 exact sH hj fun x=>⟨key h x,key (fun x hx=>(h x hx).symm) x⟩
theorem sJ{α:Type}{l:List α}{x:α}(hn:l.Nodup)(h:∀y,y∈l↔y=x):l=[x]:=by
 match l,hn,h with
 |[],_,h=>exact absurd ((h x).2 rfl) (by simp)
 |[y],_,h=>rw[(h y).1 b7]
 |y::z::r,hn,h=>
   have e1:=(h y).1 b7
   have e2:=(h z).1 (b_ _ b7)
   rw[g5]at hn
   exact absurd (by rw[e1,←e2];exact b7) hn.1
theorem sK{k:Int}(h:1≤k∧k≤11):∀x∈Er k,x∈fieldsOf k:=by
 have hc:k=1∨k=2∨k=3∨k=4∨k=5∨k=6∨k=7∨k=8∨k=9∨k=10∨k=11:=by omega
 rcases hc with rfl|rfl|rfl|rfl|rfl|rfl|rfl|rfl|rfl|rfl|rfl<;>
   simp[Er,fieldsOf,P3,L9,Cz,Cp,Ie]
theorem jM{f:Fact}(hf:Ca f=true):∀x∈O4 f,Ps x:=fun x hx=>by
 have hk:=E6 hf
 unfold O4 at hx
 rcases bp.1 hx with rfl|hx
 · exact⟨by omega,by omega⟩
 obtain⟨y,hy,rfl⟩:=bx.1 hx
 exact(Mj hf).2.1 y (sK hk y hy)
theorem Ua{f g:Fact}(hf:Ca f=true)(hg:Ca g=true)(h:Cm f=Cm g):f.Kind=g.Kind∧Es (Er f.Kind) f=Es (Er f.Kind) g:=by
 have hk:=Kl hf hg h
 unfold Cm at h
 rw[bh hf,bh hg]at h
 have e:=(Px (r:=[]) (s:=[]) (jM hf) (jM hg) (by unfold O4;simp[Es,hk]) (by rw[h])).1
 unfold O4 at e
 rw[←hk]at e
 exact⟨hk,(List.cons.inj e).2⟩
theorem KR{f g:Fact}(hf:Ca f=true)(hg:Ca g=true)(hk:f.Kind=4)(h:Cm f=Cm g):f.Wafer=g.Wafer∧f.Time=g.Time:=by
 have e:=(Ua hf hg h).2
 rw[hk]at e
 replace e:[f.Wafer,f.Time]=[g.Wafer,g.Time]:=e
 simpa using e
theorem HP{a b:Fact}(h:E0 a b=true):Ca a=true∧Ca b=true∧Cm a=Cm b:=by
 unfold E0 at h
 simp only[b6]at h
 exact⟨h.1.1.1,h.1.1.2,by simpa using h.1.2⟩
theorem sL{f:Fact}(h:Ca f=true):Cm f≠[]:=by unfold Cm;rw[bh h];exact iL h
theorem Of{b:Base}(a:GAct)(h:b.Holds=[]):I7 b a=[]:=by unfold I7;rw[h];simp[Ha]
def Yd(L:List Sk)(j:Nat):Int:=match L[j]? with|some s=>s.rc|none=>0
def Ve(L:List Sk)(j:Nat):Int:=match L[j]? with|some s=>s.tl.headD 0|none=>0
def sM(L:List Sk)(j:Nat):Int:=match L[j]? with|some s=>s.bk|none=> -1
def BP(L:List Sk)(j:Nat):Int:=match L[j]? with|some s=>s.lm|none=>0
def fY(L:List Sk)(i j:Nat):Fact:={ Io with Kind:=1,ID:=((i+1:Nat):Int),Version:=1,Time:=((20*i:Nat):Int),Until:=((20*i+5:Nat):Int),Wafer:=1,Tool:=Ve L j,Step:=(j:Int),Recipe:=Yd L j,Revision:=1 }
def Kt(L:List Sk)(ss:List Nat):List Fact:=ss.mapIdx fun i j=>fY L i j
theorem Jq(L:List Sk)(ss:List Nat):(Kt L ss).length=ss.length:=iw
theorem mV(L:List Sk)(ss:List Nat)(j:Nat):Kt L (ss++[j])=Kt L ss++[fY L ss.length j]:=List.mapIdx_concat
theorem Ub(L:List Sk)(ss:List Nat)(i:Nat):(Kt L ss)[i]?=ss[i]?.map (fY L i):=ii
theorem wW{L:List Sk}{ss:List Nat}{i j:Nat}(h:ss[i]?=some j):T9 (Kt L ss) i=(j:Int):=by
 have h1:(Kt L ss)[i]?=some (fY L i j):=by rw[Ub,h];rfl
 exact Dk h1
theorem Uc{l m:List Fact}{i:Nat}(h:i<l.length):T9 (l++m) i=T9 l i:=by
 unfold T9
 rw[cg,cg,c7 h]
theorem jN(l m:List Fact)(j bk:Int):∀k,k≤l.length→Jb (l++m) j bk k=Jb l j bk k
 |0,_=>rfl
 |k+1,h=>by
   rw[Jb,Jb,jN l m j bk k oQ,Uc oQ,Uc (by omega)]
theorem wX{L:List Sk}{ss:List Nat}{a c:Nat}(ha:ss[ss.length-1]?=some a)(h0:1≤ss.length)(j bk:Int):Jb (Kt L (ss++[c])) j bk (ss.length+1)=Jb (Kt L ss) j bk ss.length+if(a:Int)=j∧(c:Int)=bk then 1 else 0:=by
 rw[mV,Jb,jN _ _ _ _ _ (by rw[Jq];exact bl _),Uc (by rw[Jq];omega),wW ha]
 have h1:T9 (Kt L ss++[fY L ss.length c]) ss.length=(c:Int):=by
   refine Dk (x:=fY L ss.length c) ?_
   rw[db (by rw[Jq];exact bl _),Jq,jq];rfl
 rw[h1]
 by_cases h2:(a:Int)=j∧(c:Int)=bk
 · rw[bh h2,bh ⟨by omega,h2⟩]
 rw[aq h2,aq (fun h=>h2 h.2)]
theorem HQ{α:Type}{M:List α→Prop}(nil:M [])(snoc:∀l x,M l→M (l++[x]))(l:List α):M l:=by
 have h:∀r:List α,M r.reverse:=fun r=>by
   induction r with
   |nil=>exact nil
   |cons x r ih=>rw[List.reverse_cons];exact snoc _ _ ih
 have:=h l.reverse
 rwa [List.reverse_reverse]at this
def Ud(w t:Int)(f:Fact):Bool:=Iq w&&decide (f.Wafer=w)&&decide (f.Time≤t)
theorem Ye(w t:Int)(l:List Fact):match F7 l w t with
   |none=>∀f∈l,Ud w t f=false
   |some g=>g∈l∧Ud w t g=true∧∀f∈l,Ud w t f=true→f.Time≤g.Time:=by
 induction l using HQ with
 |nil=>exact fun f hf=>by cases hf
 |snoc l x ih=>
   rw[Hn]
   have hc:Km w t (F7 l w t) x=(Ud w t x&&(match F7 l w t with|none=>true|some g=>decide (g.Time<x.Time))):=rfl
   unfold Xw
   rw[hc]
   cases hb:F7 l w t with
   |none=>
     rw[hb]at ih
     dsimp only at ih⊢
     rw[Bool.and_true]
     by_cases h:Ud w t x=true
     · rw[bh h]
       refine⟨by simp,h,fun f hf hcf=>?_⟩
       rcases bt.1 hf with hf|hf
       · rw[ih f hf]at hcf;cases hcf
       rw[bn.1 hf];exact jb _
     rw[aq h]
     intro f hf
     rcases bt.1 hf with hf|hf
     · exact ih f hf
     rw[bn.1 hf];simpa using h
   |some g=>
     rw[hb]at ih
     dsimp only at ih⊢
     obtain⟨i1,i2,i3⟩:=ih
     by_cases h:Ud w t x=true∧g.Time<x.Time
     · rw[bh (by rw[h.1,bj h.2];rfl)]
       refine⟨by simp,h.1,fun f hf hcf=>?_⟩
       rcases bt.1 hf with hf|hf
       · have:=i3 f hf hcf;omega
       rw[bn.1 hf];exact jb _
     rw[aq (by rw[b6,gj];exact h)]
     refine⟨by simp[i1],i2,fun f hf hcf=>?_⟩
     rcases bt.1 hf with hf|hf
     · exact i3 f hf hcf
     rw[bn.1 hf]at hcf⊢
     have:¬g.Time<x.Time:=fun e=>h ⟨hcf,e⟩
     omega
inductive Wlk(L:List Sk):List Nat→Prop
 |nil:Wlk L []
 |snoc (ss:List Nat) (c:Nat):Wlk L ss→c<L.length→(c:Int)∈K1 L (Kt L ss)→Wlk L (ss++[c])
def Vf(f:Nat→Nat):Nat→Nat
 |0=>0
 |k+1=>Vf f k+f k
theorem Yf{f g:Nat→Nat}:∀n,(∀j,j<n→f j≤g j)→Vf f n≤Vf g n
 |0,_=>bl _
 |n+1,h=>Nat.add_le_add (Yf n fun j hj=>h j (j8 hj)) (h n (kj n))
theorem jO{f g:Nat→Nat}{a:Nat}:∀n,a<n→(∀j,j<n→f j≤g j)→f a+1≤g a→Vf f n+1≤Vf g n
 |n+1,ha,h,e=>by
   have h1:=h n (kj n)
   by_cases ea:a=n
   · subst ea
     have:=Yf a fun j hj=>h j (j8 hj)
     show Vf f a+f a+1≤Vf g a+g a
     omega
   have:=jO n oQ (fun j hj=>h j (j8 hj)) e
   show Vf f n+f n+1≤Vf g n+g n
   omega
def wY(L:List Sk)(ss:List Nat)(j:Nat):Nat:=Jb (Kt L ss) j (sM L j) ss.length
def LC(L:List Sk)(j:Nat):Nat:=(BP L j).toNat
structure Bnd(L:List Sk)(ss:List Nat):Prop where
 ln:∀c,ss[ss.length-1]?=some c→ss.length≤Vf (wY L ss) L.length*L.length+c+1
 rw_:∀j,j<L.length→wY L ss j≤LC L j
 st:∀j∈ss,j<L.length
theorem mW{ss:List Nat}{c d:Nat}(h:(ss++[c])[(ss++[c]).length-1]?=some d):d=c:=by simpa using h.symm
theorem Ue{L:List Sk}{ss:List Nat}{a c:Nat}(ha:ss[ss.length-1]?=some a)(h0:1≤ss.length)(j:Nat):wY L (ss++[c]) j=wY L ss j+if(a:Int)=j∧(c:Int)=sM L j then 1 else 0:=by
 unfold wY
 rw[ak,dy]
 exact wX ha h0 j (sM L j)
theorem jP{L:List Sk}{ss:List Nat}{a:Nat}{s:Sk}(ha:ss[ss.length-1]?=some a)(h0:1≤ss.length)(hs:L[a]?=some s):K1 L (Kt L ss)=G1 s (Kt L ss) a:=
 D5 (p:=fY L (ss.length-1) a) (by rw[Jq,Ub,ha];rfl) (by rw[Jq];exact h0) rfl hs
theorem Qn{L:List Sk}(hF:Fwd L){ss:List Nat}(h:Wlk L ss):Bnd L ss:=by
 induction h with
 |nil=>exact⟨fun c hc=>(by cases hc),fun j _=>a8 _,fun j hj=>(by cases hj)⟩
 |snoc ss c hw hc hn ih=>
   have hst:∀j∈ss++[c],j<L.length:=fun j hj=>by
     rcases bt.1 hj with h|h
     · exact ih.st j h
     rw[bn.1 h];exact hc
   by_cases h0:ss=[]
   · subst h0
     refine⟨fun c' _=>?_,fun j _=>?_,hst⟩
     · show 1≤_
       omega
     show Jb _ _ _ 1≤_
     rw[wP];exact a8 _
   have hl1:1≤ss.length:=gb.2 h0
   obtain⟨a,ha⟩:=Ae (xs:=ss) (i:=ss.length-1) oQ
   have ha':=ih.st a (ai ha)
   obtain⟨s,hs⟩:=Ae (xs:=L) (i:=a) ha'
   have hbk:sM L a=s.bk:=by unfold sM;rw[hs]
   have hlm:BP L a=s.lm:=by unfold BP;rw[hs]
   rw[jP ha hl1 hs]at hn
   unfold G1 at hn
   rw[Jq]at hn
   have e1:=ih.ln a ha
   have hb2:=(hF.b a s hs).2
   have hkey:(s.bk=(c:Int)∧(wY L ss a:Int)<s.lm)∨(a:Int)<c:=by
     split at hn
     · rename_i hcond
       rcases bp.1 hn with e|e
       · exact .inl ⟨e.symm,by unfold wY;rw[hbk];exact hcond.2⟩
       exact .inr (hF.n a s hs c e).1
     exact .inr (hF.n a s hs c hn).1
   have hmono:∀j,j<L.length→wY L ss j≤wY L (ss++[c]) j:=fun j _=>by rw[Ue ha hl1 j];exact Nat.le_add_right _ _
   refine⟨fun c' hc'=>?_,fun j hj=>?_,hst⟩
   · rw[mW hc',ak,dy]
     rcases hkey with⟨k1,k2⟩|k1
     · have h2:=jO L.length ha' hmono (by rw[Ue ha hl1 a,bh ⟨rfl,by rw[hbk];exact k1.symm⟩];exact bl _)
       have h3:=fi L.length h2
       rw[eu,jz]at h3
       omega
     have h3:=fi L.length (Yf L.length hmono)
     omega
   rw[Ue ha hl1 j]
   have h4:=ih.rw_ j hj
   split
   · rename_i hc2
     have:j=a:=by omega
     subst this
     rw[hbk]at hc2
     unfold LC
     rw[hlm]
     omega
   exact h4
theorem BQ{L:List Sk}{ss:List Nat}(h:Wlk L ss):∀i j,ss[i]?=some j→j<L.length∧(j:Int)∈K1 L (Kt L (ss.take i)):=by
 induction h with
 |nil=>exact fun i j h=>by simp at h
 |snoc ss c hw hc hn ih=>
   intro i j hj
   by_cases hi:i<ss.length
   · rw[c7 hi]at hj
     rw[kp (Nat.le_of_lt hi)]
     exact ih i j hj
   have h1:=(am.1 hj).1
   rw[ak,dy]at h1
   have h2:i=ss.length:=by omega
   subst h2
   rw[db (bl _),jq]at hj
   cases hj
   rw[List.take_left' rfl]
   exact⟨hc,hn⟩
theorem sN{L:List Sk}(hF:Fwd L){ss:List Nat}(h:Wlk L ss){x:Int}(hx:x∈K1 L (Kt L ss)):0≤x∧x<L.length:=by
 by_cases h0:ss=[]
 · subst h0
   have:x=0:=by simpa[Kt,K1]using hx
   have:=hF.len
   omega
 have hl1:1≤ss.length:=gb.2 h0
 obtain⟨a,ha⟩:=Ae (xs:=ss) (i:=ss.length-1) oQ
 have ha':=(Qn hF h).st a (ai ha)
 obtain⟨s,hs⟩:=Ae (xs:=L) (i:=a) ha'
 rw[jP ha hl1 hs]at hx
 unfold G1 at hx
 have hb:=hF.b a s hs
 split at hx
 · rename_i hc
   rcases bp.1 hx with e|e
   · omega
   have:=hF.n a s hs x e;omega
 have:=hF.n a s hs x hx;omega
theorem sO{L:List Sk}(h:FlS L)(hl:L.length≤8):(C4 L).length≤8000:=by
 have h1:=join_le 10 Gx (L.mapIdx Dd++[[]]) 714 (fun q hq=>by
   rcases T6 hq with rfl|rfl|⟨k,s,hs,rfl⟩
   · exact yQ
   · decide
   have hk:=(am.1 hs).1
   exact T5 oQ (h.sml s (ai hs)))
 have h2:(L.mapIdx Dd++[[]]).length≤9:=by simp;omega
 have h3:(714+1)*((L.mapIdx Dd++[[]]).length+1)≤715*10:=gn _ oQ
 exact bu h1 (bu h3 cQ)
theorem fZ{t:ByteArray}(h:t.size≤8000):Ca (Vc t)=true:=by
 have hq:preB (Vc t)=false:=by
   show(false||false||false||false||decide (8192<(t.size:Int)))=false
   rw[br (by omega)];rfl
 unfold Ca
 rw[hq]
 show(true&&(!(false|| !true)&&Ft (Jm 5 1 0 false) (Jm 5 1 0 false)))=true
 rw[O9];rfl
theorem bU{k:Nat}(h:1≤k∧k≤3):Ca (Kr k)=true:=by
 rcases(by omega:k=1∨k=2∨k=3)with rfl|rfl|rfl<;>kernel_rfl
theorem bV{m:Nat}(h:m<120):Ca (No m)=true:=by
 have hn:Ih (fieldsOf 6) (No m)=some (Jm 6 1 0 false):=by
   rw[show fieldsOf 6=[Co 1,⟨11,0,59⟩,⟨12,0,3⟩,Co 14,Co 15,Cp,⟨6,0,1000000⟩]from rfl]
   refine(aq (show ¬(((m:Nat):Int)+1<1∨(1000000:Int)<((m:Nat):Int)+1)by omega)).trans ?_
   refine(aq (show ¬(((m/10:Nat):Int)<0∨(59:Int)<((m/10:Nat):Int))by omega)).trans ?_
   refine(aq (show ¬(((m/5%2:Nat):Int)<0∨(3:Int)<((m/5%2:Nat):Int))by omega)).trans ?_
   refine(aq (show ¬(((m%5+1:Nat):Int)<1∨(1000000:Int)<((m%5+1:Nat):Int))by omega)).trans ?_
   refine(aq (show ¬((1:Int)<1∨(1000000:Int)<1)by decide)).trans ?_
   refine(aq (show ¬((0:Int)<0∨(1000000:Int)<0)by decide)).trans ?_
   refine(aq (show ¬((1000000:Int)<0∨(1000000:Int)<1000000)by decide)).trans ?_
   rfl
 unfold Ca
 rw[show(No m).Kind=6 from rfl,hn]
 show(true&&(!(false|| !true)&&Ft (Jm 6 1 0 false) (Jm 6 1 0 false)))=true
 rw[O9];rfl
theorem KS{f g:Fact}(hf:Ca f=true)(hg:Ca g=true)(hk:f.Kind=6)(h:Cm f=Cm g):f.ID=g.ID:=by
 have e:=(Ua hf hg h).2
 rw[hk]at e
 replace e:[f.ID]=[g.ID]:=e
 simpa using e
theorem KT{f g:Fact}(hf:Ca f=true)(hg:Ca g=true)(hk:f.Kind=1)(h:Cm f=Cm g):f.ID=g.ID:=by
 have e:=(Ua hf hg h).2
 rw[hk]at e
 replace e:[f.ID]=[g.ID]:=e
 simpa using e
inductive FabF(T:ByteArray):Fact→Prop
 |tx:FabF T (Vc T)
 |lo (k:Nat):1≤k∧k≤3→FabF T (Kr k)
 |qu (m:Nat):m<120→FabF T (No m)
theorem Em(t:ByteArray):(Ee t).length=124:=by unfold Ee;rw[bP]
theorem Gu{T:ByteArray}{f:Fact}:f∈Ee T↔FabF T f:=by
 unfold Ee Rl Vd
 rw[show Wm 4=[Kr 1,Kr 2,Kr 3]from rfl]
 simp only[e_,du,bp,bx,cn]
 constructor
 · rintro(rfl|rfl|rfl|rfl|⟨m,hm,rfl⟩)
   · exact .tx
   · exact .lo 1 cQ
   · exact .lo 2 cQ
   · exact .lo 3 cQ
   exact .qu m hm
 intro h
 cases h with
 |tx=>exact .inl rfl
 |lo k hk=>rcases(by omega:k=1∨k=2∨k=3)with rfl|rfl|rfl<;>simp
 |qu m hm=>exact .inr (.inr (.inr (.inr ⟨m,hm,rfl⟩)))
theorem FabF.valid{T:ByteArray}(hT:T.size≤8000){f:Fact}(h:FabF T f):Ca f=true:=by
 cases h with
 |tx=>exact fZ hT
 |lo k hk=>exact bU hk
 |qu m hm=>exact bV hm
theorem FabF.plain{T:ByteArray}{f:Fact}(h:FabF T f):f.Day=0∧f.Gone=false∧4≤f.Kind∧f.Kind≤6:=by
 cases h with
 |tx=>exact⟨rfl,rfl,(by decide:(4:Int)≤5),(by decide:(5:Int)≤6)⟩
 |lo k _=>exact⟨rfl,rfl,(by decide:(4:Int)≤4),(by decide:(4:Int)≤6)⟩
 |qu m _=>exact⟨rfl,rfl,(by decide:(4:Int)≤6),(by decide:(6:Int)≤6)⟩
theorem FabF.key{T:ByteArray}(hT:T.size≤8000){f g:Fact}(hf:FabF T f)(hg:FabF T g)(e:Cm f=Cm g):f=g:=by
 have vf:=hf.valid hT
 have vg:=hg.valid hT
 have hk:=Kl vf vg e
 cases hf<;>cases hg<;>first
   |rfl
   |exact absurd (show(5:Int)=4 from hk) cQ
   |exact absurd (show(5:Int)=6 from hk) cQ
   |exact absurd (show(4:Int)=5 from hk) cQ
   |exact absurd (show(4:Int)=6 from hk) cQ
   |exact absurd (show(6:Int)=5 from hk) cQ
   |exact absurd (show(6:Int)=4 from hk) cQ
   |(rename_i k hk' j hj';have e1:=(KR vf vg rfl e).1;have e2:((k:Nat):Int)=((j:Nat):Int):=e1;rw[show k=j by omega])
   |(rename_i k hk' j hj';have e1:=KS vf vg rfl e;have e2:((k:Nat):Int)+1=((j:Nat):Int)+1:=e1;rw[show k=j by omega])
structure ExtP(ps:List Fact):Prop where
 v:∀p∈ps,Ca p=true
 k:∀p∈ps,p.Kind=1∨p.Kind=3
 g:∀p∈ps,p.Gone=false
 u:∀p∈ps,∀q∈ps,Cm p=Cm q→p=q
section
variable {T:ByteArray}{ps:List Fact}{d:Int}
theorem Kv(hT:T.size≤8000)(h:ExtP ps){f:Fact}(hf:f∈Ee T++ps):Ca f=true:=by
 rcases bt.1 hf with hf|hf
 · exact(Gu.1 hf).valid hT
 exact h.v f hf
theorem sP(h:ExtP ps){f:Fact}(hf:f∈Ee T++ps):f.Gone=false:=by
 rcases bt.1 hf with hf|hf
 · exact(Gu.1 hf).plain.2.1
 exact h.g f hf
theorem jQ(hT:T.size≤8000)(h:ExtP ps){f g:Fact}(hf:f∈Ee T++ps)(hg:g∈Ee T++ps)(e:Cm f=Cm g):f=g:=by
 have hk:=Kl (Kv hT h hf) (Kv hT h hg) e
 rcases bt.1 hf with hf|hf<;>rcases bt.1 hg with hg|hg
 · exact(Gu.1 hf).key hT (Gu.1 hg) e
 · have h1:=(Gu.1 hf).plain
   have h2:=h.k g hg
   omega
 · have h1:=(Gu.1 hg).plain
   have h2:=h.k f hf
   omega
 exact h.u f hf g hg e
theorem wZ(hT:T.size≤8000)(h:ExtP ps){f:Fact}:iW (Ee T++ps) d f↔f∈Ee T++ps∧f.Day≤d:=by
 constructor
 · exact fun he=>⟨he.1,he.2.2.1⟩
 rintro⟨hf,hd⟩
 refine⟨hf,sL (Kv hT h hf),hd,fun g hg _=>?_⟩
 cases e:E0 g f with
 |false=>rfl
 |true=>
   have:=jQ hT h hg hf (HP e).2.2
   subst this
   rw[Q6]at e;cases e
theorem I8(hT:T.size≤8000)(h:ExtP ps){j:Nat}(hj:j<11){x:Fact}:x∈Ip (Ll (Ee T++ps) d) j↔x∈Ee T++ps∧x.Day≤d∧x.Kind=((j+1:Nat):Int):=by
 rw[Po hj,wZ hT h]
 exact⟨fun⟨h1,_,h3⟩=>⟨h1.1,h1.2,h3⟩,fun⟨h1,h2,h3⟩=>⟨⟨h1,h2⟩,sP h h1,h3⟩⟩
structure FabB(T:ByteArray)(b:Base):Prop where
 lo:∀x,x∈b.Lots↔∃k:Nat,(1≤k∧k≤3)∧x=Kr k
 fl:b.Flows=[Vc T]
 qu:∀m,m<120→No m∈b.Qualified
 ho:b.Holds=[]
 le:∀j,j<11→(Ip b j).length≤100000
theorem jR(hT:T.size≤8000)(h:ExtP ps)(hd:0≤d)(hlen:ps.length≤90000):FabB T (Ll (Ee T++ps) d):=by
 have fab:∀{x:Fact}{j:Nat},x∈Ee T++ps→x.Kind=((j+1:Nat):Int)→3≤j→FabF T x:=fun{x j}hx hk hj=>by
   rcases bt.1 hx with hx|hx
   · exact Gu.1 hx
   have:=h.k x hx;omega
 refine⟨fun x=>?_,?_,fun m hm=>?_,?_,fun j _=>lX (by rw[ak,Em];omega) d j⟩
 · refine(I8 hT h (j:=3) cQ).trans ⟨fun⟨h1,_,h3⟩=>?_,?_⟩
   · cases fab h1 h3 cQ with
     |lo k hk=>exact⟨k,hk,rfl⟩
     |tx=>exact absurd (show(5:Int)=4 from h3) cQ
     |qu m _=>exact absurd (show(6:Int)=4 from h3) cQ
   rintro⟨k,hk,rfl⟩
   exact⟨eh _ (Gu.2 (.lo k hk)),hd,rfl⟩
 · refine sJ (Ks _ _ (show 4<11 by decide)) fun y=>(I8 hT h (j:=4) cQ).trans ⟨fun⟨h1,_,h3⟩=>?_,?_⟩
   · cases fab h1 h3 cQ with
     |tx=>rfl
     |lo k _=>exact absurd (show(4:Int)=5 from h3) cQ
     |qu m _=>exact absurd (show(6:Int)=5 from h3) cQ
   rintro rfl
   exact⟨eh _ (Gu.2 .tx),hd,rfl⟩
 · exact(I8 hT h (j:=5) cQ).2 ⟨eh _ (Gu.2 (.qu m hm)),hd,rfl⟩
 refine gw.2 fun y hy=>?_
 obtain⟨h1,_,h3⟩:=(I8 hT h (j:=6) cQ).1 hy
 have:=(fab h1 h3 cQ).plain
 omega
theorem bW(hT:T.size≤8000)(h:ExtP ps){qs:List Fact}(hq:∀x,x∈qs↔x∈ps∧x.Kind=1∧x.Day≤d)(hs:qs.Pairwise fun x y=>x.ID<y.ID):(Ll (Ee T++ps) d).Processes=qs:=by
 refine Qm (Yc _ d (show 0<11 by decide)) (hs.imp fun{x y}hxy=>?_) (Mh (Ks _ d (show 0<11 by decide)) (hs.imp fun{x y}hxy e=>by rw[e]at hxy;omega) fun x=>?_) fun x hx y hy e=>?_
 · rw[Jz]
   show ¬(y.ID<x.ID∨(y.ID=x.ID∧(0:Int)<0))
   omega
 · rw[hq]
   refine(I8 hT h (j:=0) cQ).trans ⟨fun⟨h1,h2,h3⟩=>?_,fun⟨h1,h2,h3⟩=>⟨f4 _ h1,h3,h2⟩⟩
   rcases bt.1 h1 with h1|h1
   · have:=(Gu.1 h1).plain;omega
   exact⟨h1,h3,h2⟩
 have hx:=(I8 hT h (j:=0) cQ).1 hx
 have hy:=(I8 hT h (j:=0) cQ).1 hy
 exact jQ hT h hx.1 hy.1 (N9 (k:=1) (Kv hT h hx.1) (Kv hT h hy.1) hx.2.2 hy.2.2 e)
theorem Wq(hT:T.size≤8000)(h:ExtP ps)(hn:∀p∈ps,p.Kind=3→d<p.Day):(Ll (Ee T++ps) d).Swaps=[]:=by
 refine gw.2 fun y hy=>?_
 obtain⟨h1,h2,h3⟩:=(I8 hT h (j:=2) cQ).1 hy
 rcases bt.1 h1 with h1|h1
 · have:=(Gu.1 h1).plain;omega
 have:=hn y h1 h3;omega
end
theorem FabB.mX{T:ByteArray}{b:Base}(hb:FabB T b){k:Nat}{tm:Int}(hk:1≤k∧k≤3)(ht:0≤tm):Hr b.Lots (k:Int) tm=(((1+k/3:Nat):Int),1):=by
 have hin:Kr k∈b.Lots:=(hb.lo _).2 ⟨k,hk,rfl⟩
 have hc:∀j:Nat,Ud (k:Int) tm (Kr j)=decide (j=k):=fun j=>by
   show(Iq (k:Int)&&decide (((j:Nat):Int)=(k:Int))&&decide ((0:Int)≤tm))=_
   rw[bj ht,show Iq (k:Int)=true by unfold Iq;simp;omega]
   by_cases e:j=k
   · subst e;simp
   rw[br e,br (by omega)];rfl
 have sp:=Ye (k:Int) tm b.Lots
 unfold Hr
 cases hb':F7 b.Lots (k:Int) tm with
 |none=>
   rw[hb']at sp
   have:=sp _ hin
   rw[hc k,bj rfl]at this;cases this
 |some g=>
   rw[hb']at sp
   obtain⟨s1,s2,_⟩:=sp
   obtain⟨j,hj,rfl⟩:=(hb.lo g).1 s1
   rw[hc j]at s2
   have:=b9 s2
   subst this
   rfl
theorem FabB.KU{T:ByteArray}{b:Base}(hb:FabB T b){tm x r:Int}(ht:0≤tm∧tm≤1000000)(hx:0≤x∧x<12)(hr:1≤r∧r≤5):Fo b x 0 r 1 tm=true:=by
 obtain⟨m,hm,e1,e2,e3⟩:∃m:Nat,m<120∧((m/10:Nat):Int)=x∧((m/5%2:Nat):Int)=0∧((m%5+1:Nat):Int)=r:=⟨10*x.toNat+(r-1).toNat,by omega,by omega,by omega,by omega⟩
 unfold Fo
 refine List.find?_isSome.2 ⟨No m,hb.qu m hm,?_⟩
 show(((((m/10:Nat):Int)==x&&(((m/5%2:Nat):Int)==0&&(((m%5+1:Nat):Int)==r&&((1:Int)==1&&true))))&&decide ((0:Int)≤tm))&&decide (tm≤1000000))=true
 rw[e1,e2,e3,bj ht.1,bj ht.2]
 simp
theorem KV{T:ByteArray}{b:Base}(hb:FabB T b){L:List Sk}{l:List Fact}{a:GAct}{s:Sk}(hs:L[a.Step.toNat]?=some s)(h1:a.Step∈K1 L l)(h2:a.Tool∈s.tl)(h3:s.rc=a.Recipe)(hx:0≤a.Tool∧a.Tool<12)(hr:1≤a.Recipe∧a.Recipe≤5)(hc:a.Chamber=0)(hv:a.Revision=1)(ht:0≤a.Time∧a.Time≤1000000):bS b a L l=0:=by
 unfold bS
 rw[hs]
 dsimp only
 rw[bj h1,bj h2,bj h3,hc,hv,hb.KU ht hx hr,Of a hb.ho]
 rfl
def Og(b:Base)(p:Fact):GAct:=⟨Ib b.Swaps p.Time p.Wafer,p.Step,p.Tool,p.Chamber,p.Recipe,p.Revision,p.Time⟩
def Rc(id:Int)(q:Fact):Bool:=decide (q.ID=id)
def Gy(l:List Fact)(id:Int):List Fact:=l.takeWhile fun q=> !Rc id q
theorem Uf{l:List Fact}{id:Int}(h:∀q∈l,Rc id q=false):Gy l id=l:=by
 unfold Gy
 induction l with
 |nil=>rfl
 |cons x l ih=>
   rw[k6 (by rw[h x b7];rfl),ih fun q hq=>h q (b_ _ hq)]
theorem bX{l:List Fact}{id:Int}{k:Nat}{x:Fact}(hx:l[k]?=some x)(he:Rc id x=true)(hn:∀q∈l.take k,Rc id q=false):Gy l id=l.take k:=by
 unfold Gy
 induction l generalizing k with
 |nil=>simp at hx
 |cons y l ih=>
   cases k with
   |zero=>
     cases hx
     rw[List.takeWhile_cons_of_neg (by rw[he];decide)];rfl
   |succ k=>
     rw[k6 (by rw[hn y (by simp)];rfl),j0,ih (by simpa using hx) fun q hq=>hn q (by rw[j0];exact b_ _ hq)]
def Lr(b:Base)(p:Fact):List Fact:=Dg b.Processes b.Swaps (Ib b.Swaps p.Time p.Wafer)
def Oh(b:Base)(L:List Sk)(p:Fact):Bool:= !decide (bS b (Og b p) L (Gy (Lr b p) p.ID)=0)
def Ii(b:Base)(L:List Sk)(l:List Fact):List Int:=(l.filter (Oh b L)).map (·.ID)
theorem M7{b:Base}{L:List Sk}{l:List Fact}{k:Nat}{p:Fact}(hp:l[k]?=some p):Ii b L (l.take (k+1))=Ii b L (l.take k)++if Oh b L p=true then[p.ID]else[]:=by
 unfold Ii
 rw[f8,hp,cz,co]
 congr 1
 show(List.filter (Oh b L) [p]).map (·.ID)=_
 by_cases h:Oh b L p=true
 · rw[iy h,bh h];rfl
 rw[gv h,aq h];rfl
theorem bY{b:Base}{L:List Sk}{l:List Fact}(h:l.Pairwise fun x y=>x.ID<y.ID):(Ii b L l).Pairwise (· <·):=by
 unfold Ii
 rw[gk]
 exact h.sublist List.filter_sublist
theorem sR{l:List Int}(h:l.Pairwise (· <·)):l.mergeSort (fun x y=>decide (x≤y))=l:=List.mergeSort_of_pairwise (h.imp fun h=>bj (Int.le_of_lt h))
theorem Kw{b:Base}{L:List Sk}{l:List Fact}:(Ii b L l).length≤l.length:=by
 unfold Ii
 rw[dv]
 exact ef _ _
def sS(b:Base)(L:List Sk):Prop:=∀p∈b.Processes,WhyH b (Og b p) L (Gy (Lr b p) p.ID)∧(Lr b p).length≤100000
theorem sT{n:Nat}{L:List Sk}(hM:MkS n L){j:Nat}{s:Sk}(hs:L[j]?=some s):Yd L j=s.rc∧s.tl[0]?=some (Ve L j)∧(0≤Ve L j∧Ve L j<12)∧(1≤s.rc∧s.rc≤5):=by
 have hk:=hM j s hs
 unfold Yd Ve
 rw[hs]
 dsimp only
 obtain⟨a,ha,ha6,e|⟨c,hc,hc8,e⟩⟩:=hk.tl<;>rw[e]<;>exact⟨rfl,rfl,⟨ha,by show a<12;omega⟩,hk.rc⟩
end Go.Wx
namespace Go.Proofs.YtnpgbbaniknpkaaGreatDoor
open Go.Proofs.Tryz
open Go.Wx Go.RowKit
set_option maxHeartbeats 1000000 in
theorem xA(ad:Option Addr)(cp:Nat)(xs:List I6)(hxs:∀y∈xs,cO y)(w:World)(hE:Els w ad 6 I6.cells xs):Ret prog 5 #[.slice ad xs.length cp] w fun r w'=>∃av cv L v,r=.tuple #[v,.agg (Cx av L.length cv none 0 0)]∧(1≤L.length∧L.length≤8)∧MkS L.length L∧Wx.Sep no w w' [mT av L,Aw 35 19 Fact.cells v (Ee (bs (C4 L)))]:=by
 obtain⟨w0,rfl,hS⟩:=W0 w
 refine cT 59 func5 rfl ?_
 refine Af (Az ?_)
 refine Ap (.Cb mu) rfl ?_
 rintro _ w1 ⟨B3,rfl,NB3⟩
 have eB3:=NB3.at_
 have zB3:=NB3.size
 replace hS:=hS.Cg NB3
 change Wx.Sep _ _ _ [_]at hS
 refine An (Aa (I rfl ?_))
 refine A4 (eC (.ct rfl (.cons (.const _) .nil)) (IG)) rfl (sB ad cp xs hxs _ (Els.up hE hS.Ch)) ?_
 rintro _ w2 ⟨av,cv,L,rfl,hlr,hMk,hF,uw2⟩
 have zw2:=uw2.size
 replace hS:=hS.add uw2 (A':=mT av L) (hF.g) (jK hF.b)
 change Wx.Sep _ _ _ [_,_]at hS
 refine Ap (.Cb mu) rfl ?_
 rintro _ w3 ⟨B4,rfl,MB4⟩
 refine Cd (.Cc m_ rfl (.t rfl) (.t rfl) (Hy _ _ _ _ _ _) MB4.blk rfl) ?_
 intro w4 LB4
 have NB4:=MB4.set LB4
 clear LB4 MB4
 have eB4:=NB4.at_
 have zB4:=NB4.size
 replace hS:=hS.Cg NB4
 change Wx.Sep _ _ _ [_,_,_]at hS
 refine An (Aa ?_)
 refine U (.lc rfl (hS.b2.agg)) ?_
 refine A4 (eC (.o rfl) (IH)) rfl (mP av cv L _ (hS.get 1 rfl) (hMk.HN hlr)) ?_
 rintro _ w5 ⟨rfl,uw5⟩
 have zw5:=uw5.size
 replace hS:=hS.up uw5
 refine I rfl (U (.xt rfl rfl) (U (.xt rfl rfl) (LW.A rfl (LW.A rfl (An (Aa (I rfl ?_)))))))
 refine U (.build (cs:=(Vc (bs (C4 L))).cells) me ll Fk (.cons (.const _) (.cons (.const _) (.cons (.const _) (.cu rfl)))) rfl) ?_
 refine Ap (.buildSlice (xs:=([Vc (bs (C4 L))])) (enc:=Fact.cells) (mk:=fun f=>.agg f.cells) lf lh ll rfl cQ (fun _=>rfl) (fun _=>rfl) (.cu rfl) rfl) rfl ?_
 intro v22 w6 hN22
 obtain⟨uw6,B22,rfl,e22,hO22⟩:=NewSl.own hN22 (fun _=>rfl) cQ (by simp[maxLen])
 have zw6:=uw6.size
 replace hS:=hS.add uw6 (A':=Aw 35 19 Fact.cells (.slice (some ⟨B22,0,none⟩) 1 1) ([Vc (bs (C4 L))])) hO22 (fun i h=>by cases h;exact fm e22.symm)
 change Wx.Sep _ _ _ [_,_,_,_]at hS
 refine LW.A rfl (An (Af (Az (Ah (Ak ?_)))))
 refine A6 (σ:=Nat×Go.Value) (fun s w=>(1≤s.1∧s.1≤4)∧(Wx.Sep no w0 w [A5 B3 mL 29,mT av L,A5 B4 (Cx av L.length cv none 0 0) 29,Aw 35 19 Fact.cells (s.2) (Vd (bs (C4 L)) s.1)])) (fun s=>[(8,.eq (vi (s.1:Int))),(7,.eq (s.2))]) ([(2,.eq _),(3,.eq _),(4,.eq _)]) (fun s=>4-s.1) (1,.slice (some ⟨B22,0,none⟩) 1 1) ?_ tQ ?_
 ·exact⟨(show 1≤1∧1≤4 by omega),hS⟩
 rintro⟨k,v⟩ w7 ⟨hk,hS⟩
 dsimp only at hk hS
 change Wx.Sep _ _ _ [_,_,_,_]at hS
 change CW _ _ _ _ _ _ _ ([(8,.eq (vi (k:Int))),(7,.eq (v))]++_) _
 refine Ai (Af (I rfl ?_))
 refine U (.leq (.t rfl) (.const _)) ?_
 refine Ah ?_
 refine CW.b rfl (fun h24=>?_) (fun h24=>?_)
 ·replace h24:=dQ h24
  refine Aj (Ac (Ai (Ak ?_)))
  have hlP:=bO (bs (C4 L)) k
  refine Aa (I rfl (I rfl (I rfl ?_)))
  refine U (.Dt (v':=vi ((k/3:Nat):Int)) (PEv.quo (.t rfl) (.const _) cQ) (bi vi (KO oQ))) ?_
  refine U (.add (.const _) (.t rfl) oQ oQ) ?_
  refine U (.build (cs:=(Kr k).cells) me ll Fk (.cons (.const _) (.cons (.const _) (.ct rfl (.ct rfl (.cons (.const _) .nil))))) rfl) ?_
  refine Ap (.buildSlice (xs:=[Kr k]) (enc:=Fact.cells) (mk:=fun f=>.agg f.cells) lf lh ll rfl cQ (fun _=>rfl) (fun _=>rfl) (.cu rfl) rfl) rfl ?_
  rintro _ w8 ⟨B33,cB33,rfl,NB33,yB33,xB33⟩
  have eB33:=NB33.at_
  have zB33:=NB33.size
  replace hS:=hS.up NB33.up
  have hE33:=xB33
  refine Ap (.C3 (enc:=Fact.cells) (bytes:=160) (i:=Tryz.t35) lf kQ rfl rfl rfl rfl cQ (fun _=>rfl) Fact.one (.t rfl) (.t rfl) (hS.own 3 rfl) (Ay hE33) (by simp[maxLen];omega) (by simp;omega)) rfl ?_
  intro v34 w9 Gw9
  have zw9:=Gw9.fr.size
  replace hS:=hS.Fs 3 rfl Gw9
  change Wx.Sep _ _ _ [_,_,_,_]at hS
  refine LW.A rfl (LW.nil (Al (Ac (Aa (I rfl ?_)))))
  refine U (.ic rfl oQ) ?_
  refine LW.A rfl (LW.nil (Av ?_))
  exact⟨(k+1,v34),⟨by show 1≤k+1∧k+1≤4;omega,by show Wx.Sep _ _ _ [_,_,_,Aw _ _ _ _ (Vd _ (k+1))];rw[mR _ hk.1];exact hS⟩,tQ,by show 4-(k+1)<4-k;omega⟩
 replace h24:=dQ h24
 refine A8 (Ab (Ab (Aq (Ac (Ai ?_)))))
 have hk4:k=4:=by omega
 subst hk4
 rw[mS]at hS
 refine Aa (Az (An (Af (Az (Ah (Ak ?_))))))
 refine A6 (σ:=Nat×Go.Value) (fun s w=>(s.1≤12)∧(Wx.Sep no w0 w [A5 B3 mL 29,mT av L,A5 B4 (Cx av L.length cv none 0 0) 29,Aw 35 19 Fact.cells (s.2) (Rl (bs (C4 L)) (10*s.1))])) (fun s=>[(9,.eq (vi ((10*s.1:Nat):Int))),(10,.eq (vi (s.1:Int))),(7,.eq (s.2))]) ([(2,.eq _),(3,.eq _),(4,.eq _)]) (fun s=>12-s.1) (0,v) ?_ tQ ?_
 ·exact⟨a8 _,hS⟩
 rintro⟨t,v⟩ w10 ⟨hk,hS⟩
 dsimp only at hk hS
 change Wx.Sep _ _ _ [_,_,_,_]at hS
 change CW _ _ _ _ _ _ _ ([(9,.eq (vi ((10*t:Nat):Int))),(10,.eq (vi (t:Int))),(7,.eq (v))]++_) _
 refine Ai (Af (I rfl ?_))
 refine U (.lss (.t rfl) (.const _)) ?_
 refine Ah ?_
 refine CW.b rfl (fun h36=>?_) (fun h36=>?_)
 ·replace h36:=dQ h36
  refine Aj (Ac (Ai (Ak (Af (Az (Ah (Ak ?_)))))))
  refine A6 (σ:=Nat×Go.Value) (fun s w=>(s.1≤2)∧(Wx.Sep no w0 w [A5 B3 mL 29,mT av L,A5 B4 (Cx av L.length cv none 0 0) 29,Aw 35 19 Fact.cells (s.2) (Rl (bs (C4 L)) (10*t+5*s.1))])) (fun s=>[(9,.eq (vi ((10*t+5*s.1:Nat):Int))),(11,.eq (vi (s.1:Int))),(7,.eq (s.2))]) ([(2,.eq _),(3,.eq _),(4,.eq _),(10,.eq _)]) (fun s=>2-s.1) (0,v) ?_ tQ ?_
  ·exact⟨a8 _,hS⟩
  rintro⟨c,v⟩ w11 ⟨hk,hS⟩
  dsimp only at hk hS
  change Wx.Sep _ _ _ [_,_,_,_]at hS
  change CW _ _ _ _ _ _ _ ([(9,.eq (vi ((10*t+5*c:Nat):Int))),(11,.eq (vi (c:Int))),(7,.eq (v))]++_) _
  refine Ai (Af (I rfl ?_))
  refine U (.lss (.t rfl) (.const _)) ?_
  refine Ah ?_
  refine CW.b rfl (fun h40=>?_) (fun h40=>?_)
  ·replace h40:=dQ h40
   refine Aj (Ac (Ai (Ak (Af (Az (Ah (Ak ?_)))))))
   refine A6 (σ:=Nat×Go.Value) (fun s w=>(s.1≤5)∧(Wx.Sep no w0 w [A5 B3 mL 29,mT av L,A5 B4 (Cx av L.length cv none 0 0) 29,Aw 35 19 Fact.cells (s.2) (Rl (bs (C4 L)) (10*t+5*c+s.1))])) (fun s=>[(9,.eq (vi ((10*t+5*c+s.1:Nat):Int))),(12,.eq (vi ((s.1+1:Nat):Int))),(7,.eq (s.2))]) ([(2,.eq _),(3,.eq _),(4,.eq _),(10,.eq _),(11,.eq _)]) (fun s=>5-s.1) (0,v) ?_ tQ ?_
   ·exact⟨a8 _,hS⟩
   rintro⟨j,v⟩ w12 ⟨hk,hS⟩
   dsimp only at hk hS
   change Wx.Sep _ _ _ [_,_,_,_]at hS
   change CW _ _ _ _ _ _ _ ([(9,.eq (vi ((10*t+5*c+j:Nat):Int))),(12,.eq (vi ((j+1:Nat):Int))),(7,.eq (v))]++_) _
   refine Ai (Af (I rfl ?_))
   refine U (.leq (.t rfl) (.const _)) ?_
   refine Ah ?_
   refine CW.b rfl (fun h44=>?_) (fun h44=>?_)
   ·replace h44:=dQ h44
    refine Aj (Ac (Ai (Ak (Ai ?_))))
    obtain⟨m,em⟩:∃m,m=10*t+5*c+j:=⟨_,rfl⟩
    have hlQ:=bP (bs (C4 L)) m
    refine Aa (I rfl ?_)
    refine U (.Dt (v':=vi ((10*t+5*c+(j+1):Nat):Int)) (PEv.add (.t rfl) (.const _) oQ oQ) (bi vi oQ)) ?_
    refine LW.A rfl (Ah ?_)
    rw[←em]at hS
    refine Aa (I rfl ?_)
    refine U (.Dt (v':=vi ((m:Int)+1)) (PEv.mv rfl) (bi vi oQ)) ?_
    refine U (.Dt (v':=vi ((m/10:Nat):Int)) (PEv.mv rfl) (bi vi oQ)) ?_
    refine U (.Dt (v':=vi ((m/5%2:Nat):Int)) (PEv.mv rfl) (bi vi oQ)) ?_
    refine U (.Dt (v':=vi ((m%5+1:Nat):Int)) (PEv.mv rfl) (bi vi oQ)) ?_
    refine U (.build (cs:=(No m).cells) me ll Fk (.cons (.const _) (.cons (.const _) (.ct rfl (.ct rfl (.ct rfl (.ct rfl (.cons (.const _) (.cons (.const _) .nil)))))))) rfl) ?_
    refine Ap (.buildSlice (xs:=[No m]) (enc:=Fact.cells) (mk:=fun f=>.agg f.cells) lf lh ll rfl cQ (fun _=>rfl) (fun _=>rfl) (.cu rfl) rfl) rfl ?_
    rintro _ w13 ⟨B55,cB55,rfl,NB55,yB55,xB55⟩
    have eB55:=NB55.at_
    have zB55:=NB55.size
    replace hS:=hS.up NB55.up
    have hE55:=xB55
    refine Ap (.C3 (enc:=Fact.cells) (bytes:=160) (i:=Tryz.t35) lf kQ rfl rfl rfl rfl cQ (fun _=>rfl) Fact.one (.t rfl) (.t rfl) (hS.own 3 rfl) (Ay hE55) (by simp[maxLen];omega) (by simp;omega)) rfl ?_
    intro v56 w14 Gw14
    have zw14:=Gw14.fr.size
    replace hS:=hS.Fs 3 rfl Gw14
    change Wx.Sep _ _ _ [_,_,_,_]at hS
    refine LW.A rfl (LW.nil (Al (Ac (Aa (I rfl ?_)))))
    refine U (.Dt (v':=vi ((j+1+1:Nat):Int)) (PEv.add (.t rfl) (.const _) oQ oQ) (bi vi oQ)) ?_
    refine LW.A rfl (LW.nil (Av ?_))
    exact⟨(j+1,v56),⟨by show j+1≤5;omega,by show Wx.Sep _ _ _ [_,_,_,Aw _ _ _ _ (Rl _ (10*t+5*c+j+1))];rw[mQ,←em];exact hS⟩,tQ,by show 5-(j+1)<5-j;omega⟩
   replace h44:=dQ h44
   refine A8 (Ab (Ab (Aq (Al (Ac ?_)))))
   have hj5:j=5:=by omega
   subst hj5
   refine Aa (I rfl ?_)
   refine U (.ic rfl oQ) ?_
   refine LW.A rfl (LW.nil (Av ?_))
   exact⟨(c+1,v),⟨by show c+1≤2;omega,hS⟩,tQ,by show 2-(c+1)<2-c;omega⟩
  replace h40:=dQ h40
  refine A8 (Ab (Ab (Aq (Al (Ac ?_)))))
  have hc2:c=2:=by omega
  subst hc2
  refine Aa (I rfl ?_)
  refine U (.ic rfl oQ) ?_
  refine LW.A rfl (LW.nil (Av ?_))
  exact⟨(t+1,v),⟨by show t+1≤12;omega,hS⟩,tQ,by show 12-(t+1)<12-t;omega⟩
 replace h36:=dQ h36
 refine A8 (Ab (Ab (Aq (Ac (Ai ?_)))))
 have ht12:t=12:=by omega
 subst ht12
 refine C9 3 kQ kQ kQ kQ kQ rfl rfl ?_
 refine J (.mv rfl) ?_
 refine J (.lc rfl (hS.b2.agg)) ?_
 refine J (.assign (.t rfl)) ?_
 refine HW.nil ?_
 intro w15 uw15
 have zw15:=uw15.size
 replace hS:=hS.up uw15
 refine Cd (.Cc m_ rfl (.t rfl) (.t rfl) (Hy _ _ _ _ _ _) hS.b0 rfl) ?_
 intro w16 Nw16
 have zw16:=Nw16.size
 replace hS:=hS.Ek 0 rfl Nw16
 change Wx.Sep _ _ _ [_,_,_,_]at hS
 refine Ah (Am ?_)
 refine sC rfl rfl rfl isAgg29 m_ rfl hS.b0.agg ⟨_,rfl,?_⟩
 exact⟨av,cv,L,_,rfl,hlr,hMk,hS.sub (.cons _ (.cons_cons _ (.cons _ (List.Sublist.refl _))))⟩
theorem sU(ad:Option Addr)(cp:Nat)(l:List Int)(x0:Int)(w:World)(hE:Els w ad 1 A3 l)(hl:l.length≤100000):Ret prog 224 #[.slice ad l.length cp,vi x0] w fun r w'=>∃i,r=vi i∧decide (0≤i)=decide (x0∈l)∧Up w w':=by
 have hW:=Up.refl w
 obtain⟨w0,rfl,_⟩:=W0 w
 refine cT 19 func224 rfl ?_
 refine Af (Az (An (Af (I rfl ?_))))
 refine U (.Ck k_ (.t rfl)) ?_
 refine U (.move (.const _)) ?_
 refine Ah (Ak ?_)
 refine A6 (σ:=Nat) (fun s w=>(s≤l.length)∧(x0∉l.take s)∧(Up w0 w)) (fun s=>[(8,.eq (vi (s:Int)))]) ([(0,.eq _),(1,.eq _),(7,.eq _)]) (fun s=>l.length-s) 0 ?_ tQ ?_
 ·exact⟨a8 _,by simp,hW⟩
 rintro k w1 ⟨hk,hn,hW⟩
 refine Af ?_
 refine U (.l2 rfl rfl) ?_
 refine An ?_
 refine CW.b rfl (fun h9=>?_) (fun h9=>?_)
 ·replace h9:=dQ h9
  refine Aj (Ac (Ai (Ak (Af (I rfl (LW.A rfl (An (Aa (I rfl (I rfl ?_))))))))))
  refine I rfl ?_
  obtain⟨x,hx⟩:=Ae (xs:=l) (i:=k) oQ
  obtain⟨Bx,ox,ax,hcx⟩:=(Els.up hE hW) _ x hx
  refine U (.Ao k_ lg (.t rfl) (.t rfl) oQ ax) ?_
  refine U (.lb rfl (hcx.nth (j:=0) rfl)) ?_
  refine U (.eql (.t rfl) (.t rfl)) ?_
  refine Ah ?_
  refine CW.b rfl (fun h16=>?_) (fun h16=>?_)
  ·replace h16:=dQ h16
   refine Af (I rfl (LW.A rfl (Ah (Am (A7 (Ar (Ar (A7 (Ar ?_)))))))))
   refine KW.q ?_
   first|exact⟨_,rfl,by subst h16;rw[bj (ai hx)];exact bj oQ,hW⟩|exact⟨_,rfl,by rw[show k=l.length by omega,b8]at hn;rw[br hn];rfl,hW⟩
  replace h16:=dQ h16
  refine Aj (Al (Ac (Aa ?_)))
  refine U (.ic rfl oQ) ?_
  refine I rfl (LW.nil (Av ?_))
  exact⟨k+1,⟨by omega,sD hn hx h16,hW⟩,tQ,by first|omega|(dsimp only;omega)⟩
 replace h9:=dQ h9
 refine A8 (Ab (Ab (Aq (Ac (Af (Az (Ah (Am ?_))))))))
 refine KW.q ?_
 first|exact⟨_,rfl,by subst h16;rw[bj (ai hx)];exact bj oQ,hW⟩|exact⟨_,rfl,by rw[show k=l.length by omega,b8]at hn;rw[br hn];rfl,hW⟩
theorem Ug(ad:Option Addr)(cp:Nat)(l:List Int)(x0:Int)(w:World)(hE:Els w ad 1 A3 l)(hl:l.length≤100000):Ret prog 164 #[.slice ad l.length cp,vi x0] w fun r w'=>r=.bool (decide (x0∈l))∧Up w w':=by
 have hW:=Up.refl w
 obtain⟨w0,rfl,_⟩:=W0 w
 refine cT 9 func164 rfl ?_
 refine Af (Az (An (Aa (I rfl (I rfl ?_)))))
 refine A4 (eC (.u rfl rfl) (FM)) rfl (sU ad cp l x0 _ (Els.up hE hW) hl) ?_
 rintro _ w1 ⟨i,rfl,hi,uw1⟩
 have zw1:=uw1.size
 replace hW:=hW.up uw1
 refine U (.geq (.t rfl) (.const _)) ?_
 refine LW.A rfl (Ah (Am ?_))
 refine KW.q ?_
 exact⟨bi Go.Value.bool hi,hW⟩
theorem sV(bc:Array Go.Value)(b:Base)(a:GAct)(Bb Ba:Nat)(w:World)(hC:BaseC w bc b)(hB:Blk w Bb bc 37)(hA:Blk w Ba (GAct.cells a) 89)(hH:b.Holds.length≤1000000000)(hR:b.Releases.length<9223372036854775807)(hL:b.Lots.length<9223372036854775807):Ret prog 178 #[.pointer (some ⟨Bb,0,none⟩),.pointer (some ⟨Ba,0,none⟩)] w fun r w'=>r=.bool (decide (0<(I7 b a).length))∧Up w w':=by
 have hW:=Up.refl w
 obtain⟨w0,rfl,_⟩:=W0 w
 refine cT 8 func178 rfl ?_
 refine Af (Az (An (Aa ?_)))
 refine U (.Fz ml l6 (hC.size) (.t rfl) ((hB.up hW).agg)) ?_
 refine U (.lc rfl ((hA.up hW).agg)) ?_
 refine A4 (eC (.u rfl rfl) (ES)) rfl (mE bc b a _ (hC.up hW) hH hR hL) ?_
 rintro v5 w1 ⟨hO5,uw1⟩
 have zw1:=uw1.size
 replace hW:=hW.up uw1
 obtain⟨ad5,cp5,rfl,_⟩:=hO5.sl (fun _=>rfl)
 refine U (.Ck k_ (.t rfl)) ?_
 refine U (.gtr (.t rfl) (.const _)) ?_
 refine LW.A rfl (Ah (Am ?_))
 refine KW.q ?_
 exact⟨by simp,hW⟩
theorem sW(X Y:Nat→Prop)(B9 Br:Nat)(rs:List Rsn)(G:World→Prop)(w:World)(hGu:∀W W',G W→Up W W'→G W')(hGk:∀W W',G W→Kx w.heap.size X Y W W'→G W')(hGr:∀W,G W→∀r∈rs,Ret prog r.fn (#[]++r.lb) W fun v W'=>v=.bool r.yes∧Up W W')(hen:∀r∈rs,∀args w,(callFunc r.fn args).run prog w=.ok (.enter r.fn args) w)(hl:rs.length≤100)(_:¬X B9)(hRX:¬X Br)(hQ0:Blk w B9 #[.slice (some ⟨Br,0,none⟩) rs.length rs.length] 232)(hE0:Els w (some ⟨Br,0,none⟩) 2 Rsn.cells rs)(hG0:G w):
   IterS prog 180 #[.pointer (some ⟨B9,0,none⟩)] (fun x:sE rs=>#[vi x.1.num]) X Y (fun ys=>ys.map (·.1)=rs.filter (·.yes)) (fun _=>True) (rs.filter (·.yes)).length w:=by
 refine IterS.of ?_
 intro lp J Jx w0 hUw _ hY hJ
 obtain⟨Bd,hBd⟩:∃Bd,Bd=w0.heap.size:=⟨_,rfl⟩
 rw[←hBd]at hJ hY
 clear hBd
 have hQ:=hQ0.up hUw
 have hE:=Els.up hE0 hUw
 have hG:=Kep.up ⟨hG0,hGu⟩ hUw
 refine cT 22 func180 rfl ?_
 refine Af ?_
 refine U (.lb rfl (hQ.Ad rfl)) ?_
 refine U (.Ck underlying232 (.t rfl)) ?_
 refine U (.move (.const _)) ?_
 refine Ah (Ak ?_)
 refine CW.loop (σ:=Nat×List (sE rs)) (fun s w=>s.1≤rs.length∧s.2.map (·.1)=(rs.take s.1).filter (·.yes)∧Jw Bd J s.2 w∧Els w (some ⟨Br,0,none⟩) 2 Rsn.cells rs∧Kep G w) (fun s=>[(0,.eq (.func (.yield lp) #[] #[])),(5,.eq (.slice (some ⟨Br,0,none⟩) rs.length rs.length)),(6,.eq (vi (rs.length:Int))),(7,.eq (vi (s.1:Int)))]) (fun s=>rs.length-s.1) (0,[]) ?_ ?_ ?_
 ·exact⟨a8 _,rfl,hJ,hE,hG⟩
 ·exact tQ
 rintro⟨k,pre⟩ w1 ⟨hk,hpr,hJ,hE,hG⟩
 dsimp only at hk hpr hJ hE hG
 refine Af ?_
 refine U (.l2 rfl rfl) ?_
 refine An ?_
 refine CW.b rfl (fun h8=>?_) (fun h8=>?_)
 ·replace h8:=dQ h8
  refine Aj (Ac (Ai (Ak (Af ?_))))
  obtain⟨x,hx⟩:=Ae (xs:=rs) (i:=k) oQ
  obtain⟨Bx,ox,ax,hcx⟩:=hE _ x hx
  refine U (.Ao underlying232 sizeOf229 (.t rfl) (.t rfl) oQ ax) ?_
  refine U (.lc rfl (hcx)) ?_
  refine Ap (.Cb m8) rfl ?_
  rintro _ w2 ⟨B4,rfl,MB4⟩
  refine Cd (.Cc sizeOf229 rfl (.t rfl) (.t rfl) (Rsn.one _) MB4.blk rfl) ?_
  intro w3 LB4
  have NB4:=MB4.set LB4
  clear LB4 MB4
  have eB4:=NB4.at_
  have zB4:=NB4.size
  replace hJ:=hJ.up NB4.up
  replace hE:=hE.up NB4.up
  replace hG:=hG.up NB4.up
  replace hcx:=hcx.up NB4.up
  have hB4:=NB4.blk
  refine An ?_
  cases hq3:x.yes with
  |false=>
   refine Aa ?_
   refine U (.fB 1 rfl) ?_
   refine U (.lb rfl (hB4.Ad rfl)) ?_
   refine A4 (Cu (.t rfl) .nil (hen x (ai hx))) rfl (hGr _ hG.g x (ai hx)) ?_
   rintro _ w4 ⟨e13,uw4⟩
   have zw4:=uw4.size
   replace hJ:=hJ.up uw4
   replace hE:=hE.up uw4
   replace hG:=hG.up uw4
   replace hB4:=hB4.up uw4
   rw[hq3]at e13
   subst e13
   refine I rfl ?_
   refine Bh ?_
   refine Bh ?_
   refine Bh ?_
   refine Bh ?_
   refine Bh ?_
   refine U (.Cv (b:=false) (.t rfl) (fun hp=>absurd (show false=true from hp) cQ)) ?_
   refine Ah ?_
   refine CW.f rfl ?_
   refine Aj (Al (Ac (Aa ?_)))
   refine U (.ic rfl oQ) ?_
   refine I rfl (LW.nil (Av ?_))
   first|exact⟨(k+1,pre++[⟨x,ai hx,hq3⟩]),⟨by omega,by rw[co,hpr,Ke hx hq3];rfl,hJ2,hE,hG⟩,tQ,by show rs.length-(k+1)<rs.length-k;omega⟩|exact⟨(k+1,pre),⟨by omega,by rw[Rn hx hq3];exact hpr,hJ,hE,hG⟩,tQ,by show rs.length-(k+1)<rs.length-k;omega⟩
  |true=>
   refine Aa ?_
   refine U (.fB 1 rfl) ?_
   refine U (.lb rfl (hB4.Ad rfl)) ?_
   refine A4 (Cu (.t rfl) .nil (hen x (ai hx))) rfl (hGr _ hG.g x (ai hx)) ?_
   rintro _ w5 ⟨e13,uw5⟩
   have zw5:=uw5.size
   replace hJ:=hJ.up uw5
   replace hE:=hE.up uw5
   replace hG:=hG.up uw5
   replace hB4:=hB4.up uw5
   rw[hq3]at e13
   subst e13
   refine I rfl ?_
   refine Au ?_
   refine I rfl ?_
   refine Au ?_
   refine U (.fB 0 rfl) ?_
   refine Au ?_
   refine U (.lb rfl (hB4.Ad rfl)) ?_
   refine Au ?_
   refine LW.y (.t rfl) (.cu rfl) rfl rfl (hY _ ⟨x,ai hx,hq3⟩ _ hJ (by have:=gL hx hq3;rw[←hpr,dv]at this;exact this)) ?_
   rintro _ w6 ⟨y,rfl,hcase⟩
   refine Au ?_
   refine U (.n1 rfl) ?_
   refine U (.pa rfl (fun hp=>(by first|exact .const _|exact .tmp rfl|exact .cond rfl (by first|assumption|simp_all)))) ?_
   refine Ah ?_
   refine CW.b rfl (fun h20=>?_) (fun h20=>?_)
   ·replace h20:=dQ h20
    have hy:y=false:=by simpa using h20
    subst hy
    obtain⟨_,hJx⟩:=hcase.resolve_left (by simp)
    refine Am (A7 (Ar (Ar (A7 ?_))))
    refine Gi rfl ⟨_,rfl,?_⟩
    first|exact .inl ⟨pre,by rw[hpr,hkk,b8],hJ.j⟩|exact .inr ⟨_,trivial,hJx⟩
   replace h20:=dQ h20
   have hy:y=true:=by simpa using h20
   subst hy
   obtain⟨_,hJ2,hN⟩:=hcase.resolve_right (by simp)
   replace hE:=hE.kx hN (fun B o e=>by cases e;exact hRX)
   replace hG:Kep G _:=⟨hGk _ _ hG.g hN,hG.u⟩
   refine Aj (Al (Ac (Aa ?_)))
   refine U (.ic rfl oQ) ?_
   refine I rfl (LW.nil (Av ?_))
   first|exact⟨(k+1,pre++[⟨x,ai hx,hq3⟩]),⟨by omega,by rw[co,hpr,Ke hx hq3];rfl,hJ2,hE,hG⟩,tQ,by show rs.length-(k+1)<rs.length-k;omega⟩|exact⟨(k+1,pre),⟨by omega,by rw[Rn hx hq3];exact hpr,hJ,hE,hG⟩,tQ,by show rs.length-(k+1)<rs.length-k;omega⟩
 replace h8:=dQ h8
 have hkk:k=rs.length:=by omega
 refine A8 (Ab (Ab (Aq ?_)))
 refine Dh rfl ⟨_,rfl,?_⟩
 first|exact .inl ⟨pre,by rw[hpr,hkk,b8],hJ.j⟩|exact .inr ⟨_,trivial,hJx⟩
theorem mY(f:Fact)(id:Int)(B:Nat)(w:World)(hB:Blk w B #[vi id] 3):Ret prog 156 #[.agg f.cells,.pointer (some ⟨B,0,none⟩)] w fun r w'=>r=.bool (decide (f.Product=id))∧Up w w':=by
 have hW:=Up.refl w
 obtain⟨w0,rfl,_⟩:=W0 w
 refine cT 8 func156 rfl ?_
 refine Af ?_
 refine Ap (.bA rfl) rfl ?_
 rintro _ w1 ⟨B2,rfl,NB2⟩
 have eB2:=NB2.at_
 have zB2:=NB2.size
 replace hW:=hW.up NB2.up
 have hB2:=NB2.blk
 refine Az (An (Aa ?_))
 refine U (.fB 10 rfl) ?_
 refine U (.lb rfl (hB2.Ad rfl)) ?_
 refine U (.lb rfl ((hB.up hW).Ad rfl)) ?_
 refine U (.eql (.t rfl) (.t rfl)) ?_
 refine LW.A rfl (Ah (Am ?_))
 refine KW.q ?_
 exact⟨rfl,hW⟩
theorem sX(bc:Array Go.Value)(b:Base)(id:Int)(w:World)(hC:BaseC w bc b)(hl:b.Flows.length≤100000):Ret prog 83 #[.agg bc,vi id] w fun r w'=>r=.tuple #[.agg ((Wo b id).getD Io).cells,.bool (Wo b id).isSome]∧Up w w':=by
 obtain⟨w0,rfl,hS⟩:=W0 w
 obtain⟨v4,h4,hr4⟩:=hC.LG
 obtain⟨ad,cp,rfl,hE0⟩:=hr4
 refine cT 12 func83 rfl ?_
 refine Af ?_
 refine Ap (.bA rfl) rfl ?_
 rintro _ w1 ⟨B2,rfl,NB2⟩
 have eB2:=NB2.at_
 have zB2:=NB2.size
 replace hS:=hS.Cg NB2
 change Wx.Sep _ _ _ [_]at hS
 refine Ap (.Pu (.t rfl) rfl) rfl ?_
 rintro _ w2 ⟨B3,rfl,NB3⟩
 have eB3:=NB3.at_
 have zB3:=NB3.size
 replace hS:=hS.Cg NB3
 change Wx.Sep _ _ _ [_,_]at hS
 refine Ap (.Cb ll) rfl ?_
 rintro _ w3 ⟨B4,rfl,NB4⟩
 have eB4:=NB4.at_
 have zB4:=NB4.size
 replace hS:=hS.Cg NB4
 change Wx.Sep _ _ _ [_,_,_]at hS
 refine Az (An (Aa ?_))
 refine U (.fB 4 rfl) ?_
 refine U (.lb rfl (hS.b0.cell h4)) ?_
 refine U (.makeFunc (.cu rfl)) ?_
 refine A4 (eC (.u rfl rfl) (xM)) rfl (Wb 156 #[.pointer (some ⟨B3,0,none⟩)] (fun f=>decide (f.Product=id)) EB ad cp b.Flows _ (Els.up hE0 hS.Ch) hl (fun W u x=>mY x id B3 W (hS.b1.up u))) ?_
 rintro _ w4 ⟨rfl,uw4⟩
 have zw4:=uw4.size
 replace hS:=hS.up uw4
 refine U (.xt rfl rfl) (U (.xt rfl rfl) ?_)
 refine Cd (.Cc lh rfl (.t rfl) (.t rfl) eQ hS.b2 rfl) ?_
 intro w5 Nw5
 have zw5:=Nw5.size
 replace hS:=hS.Ek 2 rfl Nw5
 change Wx.Sep _ _ _ [_,_,_]at hS
 refine LW.A rfl (Ah (Am ?_))
 refine Tm rfl rfl rfl n8 lh rfl (hS.b2).agg ⟨_,rfl,?_⟩
 exact⟨rfl,hS.Ch⟩
theorem bZ(w:World):Ret prog 113 #[.agg nX.cells] w fun r w'=>r=.bool true∧Up w w':=by
 obtain⟨w0,rfl,hS⟩:=W0 w
 refine cT 35 func113 rfl (Af (Ap (.bA rfl) rfl ?_))
 rintro _ w1 ⟨B1,rfl,NB1⟩
 replace hS:=hS.Cg NB1
 refine Az (An (Af (U (.fB 0 rfl) (U (.lb rfl (hS.b0.Ad rfl)) (U (.fB 1 rfl) (U (.lb rfl (hS.b0.Ad rfl)) (A4 (eC (.ct rfl (.cons (.const _) (.cu rfl))) (Vg)) rfl (Hz _ _ _ _) ?_)))))))
 rintro _ w2 ⟨rfl,uw2⟩
 replace hS:=hS.up uw2
 refine U (.n1 rfl) (I rfl (LW.gr rfl (fun hc=>PEv.fB 1 rfl) (LW.gr rfl (fun hc=>PEv.load l7 vQ (hS.b0.Ad rfl)) (LW.gr rfl (fun hc=>PEv.gtr vQ (.const _)) (U (.fa (PEv.po rfl (fun hp=>(by exact .cond rfl (by(rw[hp];rfl))))) (rfl)) (Ah (CW.f rfl (Aj (Ac (Af (U (.fB 2 rfl) (U (.lc rfl ((iB (ds:=#[vi 1,vi 5]) (k:=2) hS.b0 (fun j hj=>by match j,hj with|0,_=>rfl|1,_=>rfl)))) (U (.fB 1 rfl) (U (.lb rfl (hS.b0.Ad rfl)) (A4 (eC (.u rfl rfl) (xR)) rfl (Sw _ _ _ _ cQ) ?_)))))))))))))))
 rintro _ w3 ⟨rfl,uw3⟩
 replace hS:=hS.up uw3
 refine I rfl (LW.gr rfl (fun hc=>PEv.fB 4 rfl) (LW.gr rfl (fun hc=>PEv.Fz isAgg54 sizeOf54 rfl vQ ((iB (ds:=#[vi 2,vi 29]) (k:=4) hS.b0 (fun j hj=>by match j,hj with|0,_=>rfl|1,_=>rfl)))) (LW.gr rfl (fun hc=>PEv.fB 1 rfl) (LW.gr rfl (fun hc=>PEv.load l7 vQ (hS.b0.Ad rfl)) (gK rfl rfl rfl rfl rfl rfl rfl rfl (fun hc=>Bi (.cons vQ (.cons vQ .nil)) (xR)) (fun hc=>Sw _ _ _ _ cQ) ?_)))))
 intro w4 uw4
 replace hS:=hS.up uw4
 refine U (.pa rfl (fun hp=>(by exact .cond rfl (by assumption)))) (I rfl (LW.gr rfl (fun hc=>PEv.fB 2 rfl) (LW.gr rfl (fun hc=>PEv.fieldAddr (off:=0) oi rfl rfl lg rfl vQ) (LW.gr rfl (fun hc=>PEv.load l7 vQ (hS.b0.Ad rfl)) (LW.gr rfl (fun hc=>PEv.fB 4 rfl) (LW.gr rfl (fun hc=>PEv.fieldAddr (off:=0) oi rfl rfl lg rfl vQ) (LW.gr rfl (fun hc=>PEv.load l7 vQ (hS.b0.Ad rfl)) (LW.gr rfl (fun hc=>PEv.neq vQ vQ) (U (.pa rfl (fun hp=>(by exact .cond rfl (by assumption)))) (LW.A rfl (Ah (Am (KW.q ?_)))))))))))))
 exact⟨rfl,hS.Ch⟩
theorem gA(w:World):Ret prog 112 #[.agg nX.cells] w fun r w'=>r=.bool false∧Up w w':=by
 obtain⟨w0,rfl,hS⟩:=W0 w
 refine cT 6 func112 rfl (Af (Ap (.bA rfl) rfl ?_))
 rintro _ w1 ⟨B1,rfl,NB1⟩
 replace hS:=hS.Cg NB1
 refine Az (An (Aa (U (.lc rfl (hS.b0.agg)) (A4 (eC (.o rfl) (DA)) rfl (bZ _) ?_))))
 rintro _ w2 ⟨rfl,uw2⟩
 replace hS:=hS.up uw2
 refine U (.n1 rfl) (LW.A rfl (Ah (Am (KW.q ?_))))
 exact⟨rfl,hS.Ch⟩
theorem gB(ad:Option Addr)(cp:Nat)(w:World)(hE:Els w ad 6 Sg.cells [nX]):Ret prog 40 #[.agg (Qx ad cp)] w fun r w'=>r=.bool true∧Up w w':=by
 obtain⟨w0,rfl,hS⟩:=W0 w
 refine cT 48 func40 rfl (Af (Ap (.bA rfl) rfl ?_))
 rintro _ w1 ⟨B1,rfl,NB1⟩
 replace hS:=hS.Cg NB1
 refine Az (An (Aa (U (.build (cs:=(⟨-1,0,0⟩:Wn).cells) underlying47 nu Nf (.cons (.const _) .nil) rfl) (Ap (.Cb nu) rfl ?_))))
 rintro _ w2 ⟨B3,rfl,MB3⟩
 refine Cd (.Cc nt rfl (.t rfl) (.t rfl) (Wn.one _) MB3.blk rfl) ?_
 intro w3 LB3
 have NB3:=MB3.set LB3
 replace hS:=hS.Cg NB3
 refine An (Aa (U (.makeFunc (.ct rfl (.cu rfl))) (Ap (.Gl zeroValue173 rfl) rfl ?_)))
 rintro _ w4 ⟨B4,rfl,MB4⟩
 refine Cd (.store sizeOf173 (.t rfl) (.t rfl) rfl MB4.blk cQ) ?_
 intro w5 LB4
 have NB4:=MB4.set LB4
 replace hS:=hS.Cg NB4
 refine An (Ak (Af (U (.fB 0 rfl) (U (.lb rfl (hS.b0.Ad rfl)) (A4 (eC (.ct rfl (.cons (.const _) (.cons (.const _) .nil))) (Vg)) rfl (Hz _ _ _ _) ?_)))))
 rintro _ w6 ⟨rfl,uw6⟩
 replace hS:=hS.up uw6
 refine U (.n1 rfl) (I rfl (LW.gr rfl (fun hc=>PEv.fB 1 rfl) (LW.gr rfl (fun hc=>PEv.load l7 vQ (hS.b0.Ad rfl)) (LW.gr rfl (fun hc=>PEv.fB 2 rfl) (LW.gr rfl (fun hc=>PEv.load l7 vQ (hS.b0.Ad rfl)) (gK rfl rfl rfl rfl rfl rfl rfl rfl (fun hc=>Bi (.cons vQ (.cons (.const _) (.cons vQ .nil))) (Vg)) (fun hc=>Hz _ _ _ _) ?_))))))
 intro w7 uw7
 replace hS:=hS.up uw7
 refine LW.gr rfl (fun hc=>PEv.not vQ) (U (.po rfl (fun hp=>(by exact .cond rfl (by(rw[hp];rfl))))) (I rfl (LW.gr rfl (fun hc=>PEv.fB 2 rfl) (LW.gr rfl (fun hc=>PEv.load l7 vQ (hS.b0.Ad rfl)) (LW.gr rfl (fun hc=>PEv.gtr vQ (.const _)) (U (.fa (PEv.po rfl (fun hp=>(by exact .cond rfl (by(rw[hp];rfl))))) (rfl)) (LW.A rfl (Ah (CW.f rfl (Af (U (.fB 3 rfl) (U (.lb rfl (hS.b0.Ad rfl)) (U (.Ck m9 (.t rfl)) (A4 (eC (.ct rfl (.cons (.const _) (.cons (.const _) .nil))) (Vg)) rfl (Hz _ _ _ _) ?_))))))))))))))
 rintro _ w8 ⟨rfl,uw8⟩
 replace hS:=hS.up uw8
 refine U (.n1 rfl) (I rfl (LW.gr rfl (fun hc=>PEv.fB 4 rfl) (LW.gr rfl (fun hc=>PEv.load isAgg27 vQ (hS.b0.Ad rfl)) (LW.gr rfl (fun hc=>PEv.Ck l9 vQ) (LW.gr rfl (fun hc=>PEv.gtr vQ (.const _)) (U (.fa (PEv.po rfl (fun hp=>(by exact .cond rfl (by(rw[hp];rfl))))) (rfl)) (LW.A rfl (Ah (CW.f rfl (Aj (Al (Ac (Af (U (.fB 3 rfl) (U (.lb rfl (hS.b0.Ad rfl)) (A4 (eC (.ct rfl (.cons (.func _) .nil)) (CY)) rfl (Uu 112 #[] CZ ad cp [nX] _ (Els.up hE hS.Ch) cQ (fun W u x hx=>by rw[bn.1 hx];exact gA W)) ?_))))))))))))))))
 rintro _ w9 ⟨rfl,uw9⟩
 replace hS:=hS.up uw9
 refine U (.n1 rfl) (I rfl (Au (U (.fB 4 rfl) (Au (U (.lb rfl (hS.b0.Ad rfl)) (Au (U (.makeFunc (.cu rfl)) (Au (A4 (eC (.u rfl rfl) (DB)) rfl (Uv _ _ DC none 0 [] _ (fun i x h=>by simp at h) cQ (fun W u x hx=>by simp at hx)) ?_)))))))))
 rintro _ w10 ⟨rfl,uw10⟩
 replace hS:=hS.up uw10
 refine Au (U (.n1 rfl) (U (.pa rfl (fun hp=>(by exact .tmp rfl))) (LW.A rfl (Ah (Am (KW.q ?_))))))
 exact⟨rfl,hS.Ch⟩
theorem cA(B:Nat)(v:Go.Value)(L:List Int)(ov by_:Int)(w:World)(hl:L.length≤1000)(hsub: -1000000000≤by_-ov∧by_-ov≤1000000000)(hS0:Wx.Sep (Cy [A5 B #[v] 171,Aw 3 1 A3 (v) (L)]) w w [A5 B #[v] 171,Aw 3 1 A3 (v) (L)]):Ret prog 197 #[.pointer (some ⟨B,0,none⟩),vi ov,vi by_] w fun _ w'=>∃v',Wx.Sep (Cy [A5 B #[v] 171,Aw 3 1 A3 (v) (L)]) w w' [A5 B #[v'] 171,Aw 3 1 A3 (v') (L++[by_-ov])]:=by
 obtain⟨w0,rfl,_⟩:=W0 w
 have hS:=hS0
 refine cT 16 func197 rfl (Aa (I rfl (I rfl (U (.nc rfl) (U (.lb rfl (hS.b0.Ad rfl)) (I rfl (I rfl (U (.sub (.t rfl) (.t rfl) oQ oQ) (Ap (.buildSlice (xs:=[by_-ov]) (enc:=A3) (mk:=vi) underlying171 lg lq rfl cQ (fun _=>rfl) (fun _=>rfl) (.cu rfl) rfl) rfl ?_)))))))))
 rintro _ w1 ⟨B13,cB13,rfl,NB13,yB13,xB13⟩
 replace hS:=hS.up NB13.up
 have hE13:=xB13
 refine Ap (.C3 (enc:=A3) (bytes:=8) (i:=Tryz.t3) underlying171 kQ rfl rfl rfl rfl cQ (fun _=>rfl) Et (.t rfl) (.t rfl) (hS.own 1 rfl) (Ay hE13) (by simp[maxLen];omega) (by simp;omega)) rfl ?_
 intro v14 w2 Gw2
 replace hS:=hS.Fs 1 rfl Gw2
 refine U (.nc rfl) (Cd (.store sizeOf171 (.t rfl) (.t rfl) (hS.own 1 rfl).one hS.b0 bQ) ?_)
 intro w3 Nw3
 replace hS:=hS.Ek 0 rfl Nw3
 refine LW.nil (Dh rfl ⟨_,rfl,?_⟩)
 exact⟨_,hS⟩
theorem cB(n:Int)(w:World)(hn:0≤n):Ret prog 199 #[vi n] w fun r w'=>r=.bool false∧Up w w':=by
 have hW:=Up.refl w
 refine cT 5 func199 rfl (Af (Az (An (Aa (I rfl (U (.fa (PEv.lss (.t rfl) (.const _)) (br oQ)) (LW.A rfl (Ah (Am (KW.q ?_))))))))))
 exact⟨rfl,hW⟩
theorem Uh(ad:Option Addr)(cp:Nat)(l:List Int)(w:World)(hE:Els w ad 1 A3 l)(hl:l.length≤1000)(hn:∀x∈l,0≤x):Ret prog 107 #[.slice ad l.length cp] w fun r w'=>r=.bool false∧Up w w':=by
 have hW:=Up.refl w
 refine cT 5 func107 rfl (Af (Az (An (Aa (I rfl (A4 (eC (.ct rfl (.cons (.func _) .nil)) (EW)) rfl (Uw 199 #[] EX ad cp l _ (Els.up hE hW) oQ (fun W u x hx=>cB x W (hn x hx))) ?_))))))
 rintro _ w1 ⟨rfl,uw1⟩
 replace hW:=hW.up uw1
 refine LW.A rfl (Ah (Am (KW.q ?_)))
 exact⟨rfl,hW⟩
theorem mZ(ad:Option Addr)(cp:Nat)(w:World)(hE:Els w ad 6 Sg.cells [nX]):Ret prog 106 #[.agg (Qx ad cp)] w fun r w'=>Sl w' r 1 A3 [0,0]∧Up w w':=by
 obtain⟨w0,rfl,hS⟩:=W0 w
 refine cT 91 func106 rfl (Af (Ap (.bA rfl) rfl ?_))
 rintro _ w1 ⟨B1,rfl,NB1⟩
 replace hS:=hS.Cg NB1
 refine Ap (.Gl zeroValue171 rfl) rfl ?_
 rintro _ w2 ⟨B2,rfl,NB2⟩
 replace hS:=hS.Cg NB2
 refine An ?_
 replace hS:=hS.Ln (OwnS.nil _ 0 3 1 A3)
 obtain⟨Bs,os,as_,hcs⟩:=hE 0 nX rfl
 refine C9 11 kQ kQ kQ kQ kQ rfl rfl (J (.fB 0 rfl) (J (.lb rfl (hS.b0.Ad rfl)) (J (.fB 2 rfl) (J (.lb rfl (hS.b0.Ad rfl)) (J (.add (.t rfl) (.t rfl) oQ oQ) (J (.fB 3 rfl) (J (.lb rfl (hS.b0.Ad rfl)) (J (.Ao m9 sizeOf56 (j:=0) (.t rfl) (.const _) cQ as_) (J (.fB 2 rfl) (J (.fB 1 rfl) (J (.lb rfl (((hcs.up hS.Ch).nth (j:=3) rfl))) (HW.nil ?_))))))))))))
 intro w3 uw3
 replace hS:=hS.up uw3
 replace hS:=hS.Ep 1 rfl
 replace hS:=hS.Ep 1 rfl
 have hq_:=(show Wx.Sep _ _ _ ([_]++[_,_])from hS)
 refine A4 (eC (.ct rfl (.ct rfl (.cu rfl))) (xQ)) rfl (cA B2 _ _ _ _ _ cQ cQ hq_.right.self) ?_
 rintro _ w4 ⟨v18,uw4⟩
 replace hS:=hq_.frame uw4
 refine An (Af (U (.fB 3 rfl) (U (.lb rfl (hS.b0.Ad rfl)) (U (.Ck m9 (.t rfl)) (U (.move (.const _)) (Ah (Ak (A6 (σ:=Nat) (fun s w=>(s=0)∧(Wx.Sep no w0 w [A5 B1 (Qx ad cp) 63,A5 B2 #[v18] 171,Aw 3 1 A3 v18 ([]++[5-(0+5)])])) (fun s=>[(22,.eq (vi (s:Int)))]) ([(1,.eq _),(2,.eq _),(20,.eq _),(21,.eq _)]) (fun s=>1-s) 0 ?_ tQ ?_))))))))
 ·exact⟨rfl,hS⟩
 rintro k w5 ⟨hk,hS⟩
 subst hk
 refine Af (U (.tr (PEv.l2 rfl rfl) (rfl)) (An (CW.v rfl (Aj (Ac (Ai (Ak (Af (I rfl (U (.Ao m9 sizeOf56 (j:=0) (.t rfl) (.t rfl) cQ as_) (U (.lc rfl ((hcs.up hS.Ch))) (Ap (.Cb zeroValue56) rfl ?_))))))))))))
 rintro _ w6 ⟨B4,rfl,MB4⟩
 refine LW.A rfl (Cd (.Cc sizeOf56 rfl (.t rfl) (.t rfl) (Sg.one _) MB4.blk rfl) ?_)
 intro w7 LB4
 have NB4:=MB4.set LB4
 replace hS:=hS.Cg NB4
 refine An ?_
 have hs1:nX.s1=5:=rfl
 have hs2:nX.mx=20:=rfl
 refine Aa (U (.fB 2 rfl) (U (.fB 1 rfl) (U (.lb rfl (hS.b3.Ad rfl)) (U (.fB 1 rfl) (U (.lb rfl (hS.b3.Ad rfl)) (U (.add (.t rfl) (.t rfl) oQ oQ) (U (.sub (.t rfl) (.const _) oQ oQ) (U (.fB 2 rfl) (U (.lb rfl (hS.b0.Ad rfl)) (U (.add (.t rfl) (.t rfl) oQ oQ) (U (.fB 4 rfl) (U (.fB 1 rfl) (U (.lb rfl (hS.b3.Ad rfl)) ?_)))))))))))))
 replace hS:=hS.Ep 1 rfl
 replace hS:=hS.Ep 1 rfl
 have hq_:=(show Wx.Sep _ _ _ ([_,_]++[_,_])from hS)
 refine A4 (eC (.ct rfl (.ct rfl (.cu rfl))) (xQ)) rfl (cA B2 _ _ _ _ _ cQ cQ hq_.right.self) ?_
 rintro _ w8 ⟨v40,uw8⟩
 replace hS:=hq_.frame uw8
 refine An (Af (I rfl (U (.ic rfl oQ) (U (.fB 3 rfl) (U (.lb rfl (hS.b0.Ad rfl)) (U (.Ck m9 (.t rfl)) (U (.tr (PEv.eql (.t rfl) (.t rfl)) (rfl)) (Ah (CW.v rfl (A8 (Ab (J7 cQ (Ab (Ab (Aq (Ac (Af (U (.lb rfl (hS.b2.Ad rfl)) (Cd (.store sizeOf171 (.t rfl) (.t rfl) (hS.own 3 rfl).one hS.b2 bQ) ?_)))))))))))))))))))
 intro w9 Nw9
 replace hS:=hS.Ek 2 rfl Nw9
 refine Ah (Am (Rs rfl rfl isAgg171 (hS.b2.Ad rfl) ⟨_,rfl,?_⟩))
 exact⟨(hS.own 3 rfl).sl (fun _=>rfl),hS.Ch⟩
theorem sY(ad:Option Addr)(cp:Nat)(w:World):Ret prog 108 #[.agg (Qx ad cp)] w fun r w'=>r=.slice none 0 0∧Up w w':=by
 obtain⟨w0,rfl,hS⟩:=W0 w
 refine cT 39 func108 rfl (Af (Ap (.bA rfl) rfl ?_))
 rintro _ w1 ⟨B1,rfl,NB1⟩
 replace hS:=hS.Cg NB1
 refine Ap (.Gl zeroValue171 rfl) rfl ?_
 rintro _ w2 ⟨B2,rfl,NB2⟩
 replace hS:=hS.Cg NB2
 refine An (Af (U (.fB 4 rfl) (U (.lb rfl (hS.b0.Ad rfl)) (U (.Ck l9 (.t rfl)) (U (.move (.const _)) (Ah (Ak (A6 (σ:=Nat) (fun s w=>(s=0)∧(Wx.Sep no w0 w [A5 B1 (Qx ad cp) 63,A5 B2 #[.slice none 0 0] 171])) (fun s=>[(9,.eq (vi (s:Int)))]) ([(1,.eq _),(2,.eq _),(7,.eq _),(8,.eq _)]) (fun s=>1-s) 0 ?_ tQ ?_))))))))
 ·exact⟨rfl,hS⟩
 rintro k w3 ⟨hk,hS⟩
 subst hk
 refine Af (U (.fa (PEv.l2 rfl rfl) (rfl)) (An (CW.f rfl (A8 (Ab (Ab (Aq (Ac (Af (U (.lb rfl (hS.b1.Ad rfl)) (Cd (.store sizeOf171 (.t rfl) (.t rfl) rfl hS.b1 bQ) ?_)))))))))))
 intro w4 Nw4
 replace hS:=hS.Ek 1 rfl Nw4
 refine Ah (Am (Rs rfl rfl isAgg171 (hS.b1.Ad rfl) ⟨_,rfl,?_⟩))
 exact⟨rfl,hS.Ch⟩
theorem gC(ad:Option Addr)(cp:Nat)(w:World)(hE:Els w ad 6 Sg.cells [nX]):Ret prog 39 #[.agg (Qx ad cp)] w fun r w'=>r=.bool true∧Up w w':=by
 obtain⟨w0,rfl,hS⟩:=W0 w
 refine cT 17 func39 rfl (Af (Ap (.bA rfl) rfl ?_))
 rintro _ w1 ⟨B1,rfl,NB1⟩
 replace hS:=hS.Cg NB1
 refine Az (An (Aa (U (.lc rfl (hS.b0.agg)) (A4 (eC (.o rfl) (IX)) rfl (gB ad cp _ (Els.up hE hS.Ch)) ?_))))
 rintro _ w2 ⟨rfl,uw2⟩
 replace hS:=hS.up uw2
 refine I rfl (Au (U (.lc rfl (hS.b0.agg)) (Au (A4 (eC (.o rfl) (CV)) rfl (mZ ad cp _ (Els.up hE hS.Ch)) ?_))))
 rintro _ w3 ⟨⟨ad7,cp7,rfl,hE7⟩,uw3⟩
 replace hS:=hS.up uw3
 refine Au (A4 (eC (.o rfl) (xH)) rfl (Uh _ _ [0,0] _ hE7 cQ cQ) ?_)
 rintro _ w4 ⟨rfl,uw4⟩
 replace hS:=hS.up uw4
 refine Au (U (.n1 rfl) (U (.pa rfl (fun hp=>(by exact .tmp rfl))) (I rfl (Au (U (.lc rfl (hS.b0.agg)) (Au (A4 (eC (.o rfl) (CX)) rfl (sY ad cp _) ?_)))))))
 rintro _ w5 ⟨rfl,uw5⟩
 replace hS:=hS.up uw5
 refine Au (A4 (eC (.o rfl) (xH)) rfl (Uh none 0 [] _ (fun i x h=>by simp at h) cQ cQ) ?_)
 rintro _ w6 ⟨rfl,uw6⟩
 replace hS:=hS.up uw6
 refine Au (U (.n1 rfl) (U (.pa rfl (fun hp=>(by exact .tmp rfl))) (LW.A rfl (Ah (Am (KW.q ?_))))))
 exact⟨rfl,hS.Ch⟩
theorem nA(ad:Option Addr)(cp:Nat)(w:World)(hE:Els w ad 6 Sg.cells [nX]):Ret prog 15 #[.agg (Qx ad cp)] w fun r w'=>∃sc:Array Go.Value,sc.size=5∧sc.all (·.oneCell')=true∧r=.tuple #[.agg sc,.bool true]∧Up w w':=by
 obtain⟨w0,rfl,hS⟩:=W0 w
 refine Ff (n:=28) func15 rfl rfl rfl (Af (Ap (.bA rfl) rfl ?_))
 rintro _ w1 ⟨B1,rfl,NB1⟩
 replace hS:=hS.Cg NB1
 refine Ap (.Cb zeroValue58) rfl ?_
 rintro _ w2 ⟨B2,rfl,NB2⟩
 replace hS:=hS.Cg NB2
 refine Ap (.Gl m7 rfl) rfl ?_
 rintro _ w3 ⟨B3,rfl,NB3⟩
 replace hS:=hS.Cg NB3
 refine An (Af (U (.lc rfl (hS.b0.agg)) (A4 (eC (.o rfl) (IW)) rfl (gC ad cp _ (Els.up hE hS.Ch)) ?_)))
 rintro _ w4 ⟨rfl,uw4⟩
 replace hS:=hS.up uw4
 refine Ah (CW.v rfl (Af (U (.build (cs:=#[.slice none 0 0,.slice none 0 0,vi 0,vi 0,vi 0]) underlying58 zeroValue58 Uo .nil rfl) (Cd (.Cc sizeOf58 rfl (.t rfl) (.t rfl) (by simp[Value.oneCell']) hS.b1 rfl) ?_))))
 intro w5 Nw5
 replace hS:=hS.Ek 1 rfl Nw5
 refine Cd (.store mf (.t rfl) (.const _) rfl hS.b2 bQ) ?_
 intro w6 Nw6
 replace hS:=hS.Ek 2 rfl Nw6
 refine Ah (Am (Ar (Sa (oG rfl rfl rfl isAgg58 sizeOf58 rfl hS.b1.agg isAgg4 (hS.b2.Ad rfl) ⟨_,rfl,?_⟩))))
 exact⟨_,rfl,by simp[Value.oneCell'],rfl,hS.Ch⟩
theorem nB(w:World):Ret prog 4 #[] w fun r w'=>r=.bool true∧Up w w':=by
 obtain⟨w0,rfl,hS⟩:=W0 w
 refine cT 54 func4 rfl (Af (Az (An (Aa (U (.build (cs:=nY.cells) underlying47 nu Nf (.cons (.const _) (.cons (.const _) (.cons (.const _) .nil))) rfl) (Ap (.buildSlice (xs:=([nY]:List Wn)) (enc:=Wn.cells) (mk:=fun x=>.agg x.cells) l9 nt nu rfl cQ (fun _=>rfl) (fun _=>rfl) (.cu rfl) rfl) rfl ?_))))))
 intro v9 w1 hN9
 obtain⟨uw1,B9,rfl,e9,hO9⟩:=NewSl.own hN9 (fun _=>rfl) cQ (by simp[maxLen])
 replace hS:=hS.add uw1 (A':=Aw 47 3 Wn.cells (.slice (some ⟨B9,0,none⟩) 1 1) ([nY]:List Wn)) hO9 (fun i h=>by cases h;exact fm e9.symm)
 refine U (.build (cs:=#[vi 2,vi 5,.slice none 0 0,.slice (some ⟨B9,0,none⟩) 1 1]) underlying29 mu Nd (.cons (.const _) (.cons (.const _) (.cu rfl))) rfl) (Ap (.Cb mu) rfl ?_)
 rintro _ w2 ⟨B1,rfl,MB1⟩
 refine Cd (.Cc m_ rfl (.t rfl) (.t rfl) (by simp[Value.oneCell']) MB1.blk rfl) ?_
 intro w3 LB1
 have NB1:=MB1.set LB1
 replace hS:=hS.Cg NB1
 refine An (Ai ?_)
 replace hS:=hS.Ln (OwnS.nil _ 0 49 7 Sk.cells)
 replace hS:=hS.add (Up.refl _) (A':=Dw (([]:List Sk).flatMap (Lm 3))) ⟨fun A h=>by simp at h,List.Pairwise.nil⟩ (fun i h=>by obtain⟨A,h,_⟩:=h;simp at h)
 refine Aa (Az (Ah (Ak (A6 (σ:=Nat×Go.Value×List Sk) (fun s w=>(s.1≤3)∧(StQ s.2.2 s.1)∧(Wx.Sep no w0 w [Aw 47 3 Wn.cells (.slice (some ⟨B9,0,none⟩) 1 1) [nY],A5 B1 #[vi 2,vi 5,s.2.1,.slice (some ⟨B9,0,none⟩) 1 1] 29,Aw 49 7 Sk.cells s.2.1 s.2.2,Dw (s.2.2.flatMap (Lm 3))])) (fun s=>[(2,.eq (vi (s.1:Int)))]) ([(0,.eq _),(1,.eq _)]) (fun s=>3-s.1) (0,.slice none 0 0,[]) ?_ tQ ?_))))
 ·exact⟨a8 _,StQ.nil,hS⟩
 rintro⟨k,v,L⟩ w4 ⟨hk,hL,hS⟩
 dsimp only at hk hL hS
 change CW _ _ _ _ _ _ _ ([(2,.eq (vi (k:Int)))]++_) _
 refine Ai (Af (I rfl (U (.lss (.t rfl) (.const _)) (Ah (CW.b rfl (fun h12=>?_) (fun h12=>?_))))))
 ·replace h12:=dQ h12
  refine Aj (Ac (Ai (Ak (Ai ?_))))
  have hk3:k<3:=cm.1 h12
  refine Aa (I rfl (Ap (.buildSlice (xs:=([(k:Int)]:List Int)) (enc:=A3) (mk:=vi) k_ lg lq rfl cQ (fun _=>rfl) (fun _=>rfl) (.cu rfl) rfl) rfl ?_))
  intro v16 w5 hN16
  obtain⟨uw5,B16,rfl,e16,hO16⟩:=NewSl.own hN16 (fun _=>rfl) cQ (by simp[maxLen])
  replace hS:=hS.add uw5 (A':=Aw 3 1 A3 (.slice (some ⟨B16,0,none⟩) 1 1) ([(k:Int)]:List Int)) hO16 (fun i h=>by cases h;exact fm e16.symm)
  refine U (.build (cs:=(⟨1,[(k:Int)],some ⟨B16,0,none⟩,1,10,20,[],none,0,-1,0⟩:Sk).cells) underlying49 l_ J9 (.cons (.const _) (.ct rfl (.cons (.const _) (.cons (.const _) (.cons (.const _) .nil))))) rfl) (Ap (.Cb l_) rfl ?_)
  rintro _ w6 ⟨B3,rfl,MB3⟩
  refine Cd (.Cc l4 rfl (.t rfl) (.t rfl) (Sk.one _) MB3.blk rfl) ?_
  intro w7 LB3
  have NB3:=MB3.set LB3
  replace hS:=hS.Cg NB3
  refine An (Af (I rfl (U (.lss (.t rfl) (.const _)) (Ah (CW.b rfl (fun h19=>?_) (fun h19=>?_))))))
  ·replace h19:=dQ h19
   have hnx:[(k:Int)+1]=wC k:=by unfold wC;rw[bh (by omega)]
   refine Aa (I rfl (U (.add (.t rfl) (.const _) oQ oQ) (Ap (.buildSlice (xs:=([(k:Int)+1]:List Int)) (enc:=A3) (mk:=vi) k_ lg lq rfl cQ (fun _=>rfl) (fun _=>rfl) (.cu rfl) rfl) rfl ?_)))
   intro v22 w8 hN22
   obtain⟨uw8,B22,rfl,e22,hO22⟩:=NewSl.own hN22 (fun _=>rfl) cQ (by simp[maxLen])
   replace hS:=hS.add uw8 (A':=Aw 3 1 A3 (.slice (some ⟨B22,0,none⟩) 1 1) ([(k:Int)+1]:List Int)) hO22 (fun i h=>by cases h;exact fm e22.symm)
   refine U (.fB 4 rfl) (Cd (.store m4 (.t rfl) (.t rfl) rfl hS.b5 bQ) ?_)
   intro w9 Nw9
   replace hS:=hS.Ek 5 rfl (show Set_ _ w9 _ ((⟨1,[(k:Int)],some ⟨B16,0,none⟩,1,10,20,[(k:Int)+1],some ⟨B22,0,none⟩,1,-1,0⟩:Sk).cells) _ from Nw9)
   refine Ah (Aa (U (.fB 2 rfl) (U (.lb rfl (hS.b1.Ad rfl)) (U (.lc rfl (hS.b5.agg)) (Ap (.buildSlice (xs:=[(⟨1,[(k:Int)],some ⟨B16,0,none⟩,1,10,20,[(k:Int)+1],some ⟨B22,0,none⟩,1,-1,0⟩:Sk)]) (enc:=Sk.cells) (mk:=fun s=>.agg s.cells) lr l4 l_ rfl cQ (fun _=>rfl) (fun _=>rfl) (.cu rfl) rfl) rfl ?_)))))
   rintro _ w10 ⟨B27,cB27,rfl,NB27,yB27,xB27⟩
   replace hS:=hS.up NB27.up
   have hE27:=xB27
   refine Ap (.C3 (enc:=Sk.cells) (bytes:=88) (i:=Tryz.t49) lr kQ rfl rfl rfl rfl cQ (fun _=>rfl) Sk.one (.t rfl) (.t rfl) (hS.own 2 rfl) (Ay hE27) (by rw[hL.len];simp[maxLen];omega) (by rw[hL.len];simp;omega)) rfl ?_
   intro v28 w11 Gw11
   replace hS:=hS.Fs 2 rfl Gw11
   refine U (.fB 2 rfl) (Cd (.store sizeOf26 (.t rfl) (.t rfl) (hS.own 2 rfl).one hS.b1 bQ) ?_)
   intro w12 Nw12
   replace hS:=hS.Ek 1 rfl (show Set_ _ w12 _ (#[vi 2,vi 5,v28,.slice (some ⟨B9,0,none⟩) 1 1]) _ from Nw12)
   refine LW.nil (Al (Ac (Aa (I rfl (U (.ic rfl oQ) (LW.A rfl (LW.nil (Av ?_))))))))
   exact⟨(k+1,v28,L++[(⟨1,[(k:Int)],some ⟨B16,0,none⟩,1,10,20,[(k:Int)+1],some ⟨B22,0,none⟩,1,-1,0⟩:Sk)]),⟨by show k+1≤3;omega,hL.snoc (jC hk3 _ _ _ _ _ hnx) hnx,R1 (Bs:=[_,_,_]) (s:=(⟨1,[(k:Int)],some ⟨B16,0,none⟩,1,10,20,[(k:Int)+1],some ⟨B22,0,none⟩,1,-1,0⟩:Sk)) (hS.sub (.cons_cons _ (.cons_cons _ (.cons_cons _ (.cons_cons _ (.cons_cons _ (.cons _ (.cons_cons _ .slnil))))))))⟩,tQ,by show 3-(k+1)<3-k;omega⟩
  replace h19:=dQ h19
  have hnx:([]:List Int)=wC k:=by unfold wC;rw[aq (by omega)]
  refine Aj (Ac (Aa (U (.fB 2 rfl) (U (.lb rfl (hS.b1.Ad rfl)) (U (.lc rfl (hS.b5.agg)) (Ap (.buildSlice (xs:=[(⟨1,[(k:Int)],some ⟨B16,0,none⟩,1,10,20,[],none,0,-1,0⟩:Sk)]) (enc:=Sk.cells) (mk:=fun s=>.agg s.cells) lr l4 l_ rfl cQ (fun _=>rfl) (fun _=>rfl) (.cu rfl) rfl) rfl ?_))))))
  rintro _ w13 ⟨B27,cB27,rfl,NB27,yB27,xB27⟩
  replace hS:=hS.up NB27.up
  have hE27:=xB27
  refine Ap (.C3 (enc:=Sk.cells) (bytes:=88) (i:=Tryz.t49) lr kQ rfl rfl rfl rfl cQ (fun _=>rfl) Sk.one (.t rfl) (.t rfl) (hS.own 2 rfl) (Ay hE27) (by rw[hL.len];simp[maxLen];omega) (by rw[hL.len];simp;omega)) rfl ?_
  intro v28 w14 Gw14
  replace hS:=hS.Fs 2 rfl Gw14
  refine U (.fB 2 rfl) (Cd (.store sizeOf26 (.t rfl) (.t rfl) (hS.own 2 rfl).one hS.b1 bQ) ?_)
  intro w15 Nw15
  replace hS:=hS.Ek 1 rfl (show Set_ _ w15 _ (#[vi 2,vi 5,v28,.slice (some ⟨B9,0,none⟩) 1 1]) _ from Nw15)
  refine LW.nil (Al (Ac (Aa (I rfl (U (.ic rfl oQ) (LW.A rfl (LW.nil (Av ?_))))))))
  exact⟨(k+1,v28,L++[(⟨1,[(k:Int)],some ⟨B16,0,none⟩,1,10,20,[],none,0,-1,0⟩:Sk)]),⟨by show k+1≤3;omega,hL.snoc (jC hk3 _ _ _ _ _ hnx) hnx,R1 (Bs:=[_,_,_]) (s:=(⟨1,[(k:Int)],some ⟨B16,0,none⟩,1,10,20,[],none,0,-1,0⟩:Sk)) ((hS.Ln (OwnS.nil _ 0 3 1 A3)).sub (.cons_cons _ (.cons_cons _ (.cons_cons _ (.cons_cons _ (.cons_cons _ (.cons _ (.cons_cons _ .slnil))))))))⟩,tQ,by show 3-(k+1)<3-k;omega⟩
 replace h12:=dQ h12
 refine A8 (Ab (Ab (Aq (Ac (Ai ?_)))))
 have hk3:k=3:=by have:¬k<3:=fun h=>h12 (cm.2 h);omega
 subst hk3
 obtain⟨s0,s1,s2,rfl⟩:=hL.three
 obtain⟨sa,sc,rfl,_⟩:=(hS.own 2 rfl).sl (fun _=>rfl)
 have hF:=FlE.of hL (hS.own 2 rfl) (hS.own 0 rfl) (hS.get 3 rfl)
 refine Aa (U (.lc rfl (hS.b1.agg)) (A4 (eC (.o rfl) (IE)) rfl (fN sa (some ⟨B9,0,none⟩) sc 1 s0 s1 s2 _ hF) ?_))
 rintro _ w16 ⟨ad31,cp31,rfl,hE31,uw16⟩
 replace hS:=hS.up uw16
 refine Ap (.Cb np) rfl ?_
 rintro _ w17 ⟨B4,rfl,MB4⟩
 refine Cd (.Cc nr rfl (.t rfl) (.t rfl) (by simp[J5,Value.oneCell']) MB4.blk rfl) ?_
 intro w18 LB4
 have NB4:=MB4.set LB4
 replace hE31:=hE31.up NB4.up
 replace hS:=hS.Cg NB4
 refine An (Aa (U (.build (cs:=#[vi 1,vi 5]) oi zeroValue54 Nh (.cons (.const _) (.cons (.const _) .nil)) rfl) (U (.build (cs:=#[vi 2,vi 29]) oi zeroValue54 Nh (.cons (.const _) (.cons (.const _) .nil)) rfl) (U (.build (cs:=nX.cells) underlying56 zeroValue56 Un (.cons (.const _) (.cons (.const _) (.ct rfl (.cu rfl)))) kQ) (Ap (.Cb zeroValue56) rfl ?_)))))
 rintro _ w19 ⟨B5,rfl,MB5⟩
 refine Cd (.Cc sizeOf56 rfl (.t rfl) (.t rfl) (Sg.one _) MB5.blk rfl) ?_
 intro w20 LB5
 have NB5:=MB5.set LB5
 replace hE31:=hE31.up NB5.up
 replace hS:=hS.Cg NB5
 refine An (Aa (U (.lc rfl (hS.b5.agg)) (Ap (.buildSlice (xs:=[nX]) (enc:=Sg.cells) (mk:=fun s=>.agg s.cells) m9 sizeOf56 zeroValue56 rfl cQ (fun _=>rfl) (fun _=>rfl) (.cu rfl) rfl) rfl ?_)))
 rintro _ w21 ⟨B37,cB37,rfl,NB37,yB37,xB37⟩
 replace hS:=hS.up NB37.up
 replace hE31:=hE31.up NB37.up
 have hE37:=xB37
 refine U (.build (cs:=(Qx (some ⟨B37,0,none⟩) 1)) underlying63 zeroValue63 Uq (.cons (.const _) (.cons (.const _) (.cu rfl))) rfl) (A4 (eC (.o rfl) (IF)) rfl (nA (some ⟨B37,0,none⟩) 1 _ hE37) ?_)
 rintro _ w22 ⟨sc39,hsz,hone,rfl,uw22⟩
 replace hS:=hS.up uw22
 replace hE31:=hE31.up uw22
 refine I rfl (U (.xt rfl rfl) (U (.xt rfl rfl) (Ap (.Cb zeroValue58) rfl ?_)))
 rintro _ w23 ⟨B6,rfl,MB6⟩
 refine Cd (.Cc sizeOf58 hsz (.t rfl) (.t rfl) hone MB6.blk rfl) ?_
 intro w24 LB6
 have NB6:=MB6.set LB6
 replace hE31:=hE31.up NB6.up
 replace hS:=hS.Cg NB6
 refine LW.A rfl (An (Aa (U (.fB 0 rfl) (U (.lb rfl (hS.b4.Ad rfl)) (U (.tr (PEv.eql (.t rfl) (.const _)) (rfl)) (I rfl (Au (U (.fB 1 rfl) (Au (U (.lb rfl (hS.b4.Ad rfl)) (Au (Ap (.buildSlice (xs:=([0,1,2]:List Int)) (enc:=A3) (mk:=vi) k_ lg lq rfl cQ (fun _=>rfl) (fun _=>rfl) (.cons (.const _) (.cons (.const _) (.cons (.const _) .nil))) rfl) rfl ?_))))))))))))
 rintro _ w25 ⟨B48,cB48,rfl,NB48,yB48,xB48⟩
 replace hS:=hS.up NB48.up
 replace hE31:=hE31.up NB48.up
 have hE48:=xB48
 refine Au (A4 (eC (.u rfl rfl) (oJ)) rfl (Ic _ _ [0,1,2] [0,1,2] _ (Ay hE31) (Ay hE48) cQ cQ) ?_)
 rintro _ w26 ⟨rfl,uw26⟩
 replace hS:=hS.up uw26
 replace hE31:=hE31.up uw26
 replace hE48:=hE48.up uw26
 refine U (.pa rfl (fun hp=>(by exact .tmp rfl))) (I rfl (Au (I rfl (U (.pa rfl (fun hp=>(by exact .tmp rfl))) (LW.A rfl (Ah (Am (KW.q ?_))))))))
 exact⟨rfl,hS.Ch⟩
theorem nC(c n:Int)(w:World)(hn:n≠0):Ret prog 6 #[vi c,vi n] w fun r w'=>r=vi (Cj c n)∧Up w w':=by
 have hW:=Up.refl w
 refine cT 13 func6 rfl (Af (Az (An (Af (I rfl (U (.lss (.t rfl) (.const _)) (Ah (CW.b rfl (fun h6=>?_) (fun h6=>?_)))))))))
 ·replace h6:=dQ h6
  refine Aa (I rfl (U (.oB (.t rfl) (.const _)) (U (.neg li (.t rfl)) (LW.A rfl (An (Aa (I rfl (I rfl (U (.rem (.t rfl) (.t rfl) oQ) (LW.A rfl (Ah (Am (KW.q ?_)))))))))))))
  exact⟨by(rw[Cj,bh h6]),hW⟩
 replace h6:=dQ h6
 refine Aj (Ac (Af (I rfl (I rfl (U (.rem (.t rfl) (.t rfl) oQ) (LW.A rfl (Ah (Am (KW.q ?_)))))))))
 exact⟨by(rw[Cj,aq (by omega)]),hW⟩
theorem cC(av:Option Addr)(cv:Nat)(L:List Sk)(id mk t:Int)(j:Nat)(s:Sk)(x:Int)(w:World)(hF:FlG w av none L [])(hs:L[j]?=some s)(hx:s.tl[0]?=some x)(hmn:0≤s.mn∧s.mn≤1000)(ht:0≤t∧t≤1000000):Ret prog 19 #[.agg (Cx av L.length cv none 0 0),vi id,vi mk,vi (j:Int),vi t] w fun r w'=>r=.agg ({ Io with Kind:=1,ID:=id,Version:=1,Time:=t,Until:=t+s.mn,Wafer:=mk,Tool:=x,Step:=(j:Int),Recipe:=s.rc,Revision:=1 }:Fact).cells∧Up w w':=by
 obtain⟨w0,rfl,hS⟩:=W0 w
 have hlen:=hF.len
 have hl0:=(am.1 hx).1
 have hlj:=(am.1 hs).1
 refine cT 32 func19 rfl ?_
 refine Af ?_
 refine Ap (.bA rfl) rfl ?_
 rintro _ w1 ⟨B5,rfl,NB5⟩
 have eB5:=NB5.at_
 have zB5:=NB5.size
 replace hS:=hS.Cg NB5
 change Wx.Sep _ _ _ [_]at hS
 refine Ap (.Cb ll) rfl ?_
 rintro _ w2 ⟨B10,rfl,NB10⟩
 have eB10:=NB10.at_
 have zB10:=NB10.size
 replace hS:=hS.Cg NB10
 change Wx.Sep _ _ _ [_,_]at hS
 refine An ?_
 obtain⟨Bs,os,as_,hcs⟩:=(hF.up hS.Ch).E j s hs
 refine Aa ?_
 refine U (.fB 2 rfl) ?_
 refine U (.lb rfl (hS.b0.Ad rfl)) ?_
 refine I rfl ?_
 refine U (.Ao lr l4 (j:=j) (.t rfl) (.t rfl) oQ as_) ?_
 refine U (.lc rfl (hcs)) ?_
 refine Ap (.Cb l_) rfl ?_
 rintro _ w3 ⟨B11,rfl,MB11⟩
 refine Cd (.Cc l4 rfl (.t rfl) (.t rfl) (Sk.one _) MB11.blk rfl) ?_
 intro w4 LB11
 have NB11:=MB11.set LB11
 clear LB11 MB11
 have eB11:=NB11.at_
 have zB11:=NB11.size
 replace hS:=hS.Cg NB11
 change Wx.Sep _ _ _ [_,_,_]at hS
 refine An ?_
 obtain⟨Bx,ox,ax,hcx⟩:=(Els.up (hF.p s (ai hs)).1 hS.Ch) 0 x hx
 refine Ju 15 [.eq (vi id),.eq (vi mk),.eq (.pointer (some ⟨B11,1,none⟩)),.eq (s.tv),.eq (.pointer (some ⟨Bx,ox+0*1,none⟩)),.eq (vi x),.eq (vi (j:Int)),.eq (.pointer (some ⟨B11,0,none⟩)),.eq (vi s.rc),.eq (vi t),.eq (vi t),.eq (.pointer (some ⟨B11,2,none⟩)),.eq (vi s.mn),.eq (vi (t+s.mn)),.eq (.agg ({ Io with Kind:=1,ID:=id,Version:=1,Time:=t,Until:=t+s.mn,Wafer:=mk,Tool:=x,Step:=(j:Int),Recipe:=s.rc,Revision:=1 }:Fact).cells)] [31] kQ rfl kQ kQ kQ kQ kQ kQ kQ uQ ?_ ?_
 ·intro W hU0
  have hU:=(Up.drew w4).trans hU0
  have hSW:=hS.up hU
  refine aC ⟨rfl,TU.p (.mv rfl) rfl⟩ ?_
  refine aC ⟨rfl,TU.p (.mv rfl) rfl⟩ ?_
  refine aC ⟨rfl,TU.p (.fB 1 rfl) rfl⟩ ?_
  refine aC ⟨rfl,TU.p (.lb rfl (hSW.b2.Ad rfl)) rfl⟩ ?_
  refine aC ⟨rfl,TU.p (.Ao k_ lg (j:=0) (.t rfl) (.const _) oQ ax) rfl⟩ ?_
  refine aC ⟨rfl,TU.p (.lb rfl (AggAt.nth (j:=0) (AggAt.up hcx hU) rfl)) rfl⟩ ?_
  refine aC ⟨rfl,TU.p (.mv rfl) rfl⟩ ?_
  refine aC ⟨rfl,TU.p (.fB 0 rfl) rfl⟩ ?_
  refine aC ⟨rfl,TU.p (.lb rfl (hSW.b2.Ad rfl)) rfl⟩ ?_
  refine aC ⟨rfl,TU.p (.mv rfl) rfl⟩ ?_
  refine aC ⟨rfl,TU.p (.mv rfl) rfl⟩ ?_
  refine aC ⟨rfl,TU.p (.fB 2 rfl) rfl⟩ ?_
  refine aC ⟨rfl,TU.p (.lb rfl (hSW.b2.Ad rfl)) rfl⟩ ?_
  refine aC ⟨rfl,TU.p (.add (.t rfl) (.t rfl) oQ oQ) rfl⟩ ?_
  refine aC ⟨rfl,TU.p (.build (cs:=({ Io with Kind:=1,ID:=id,Version:=1,Time:=t,Until:=t+s.mn,Wafer:=mk,Tool:=x,Step:=(j:Int),Recipe:=s.rc,Revision:=1 }:Fact).cells) me ll Fk (.cons (.const _) (.cons (.const _) (.ct rfl (.ct rfl (.ct rfl (.ct rfl (.ct rfl (.cons (.const _) (.ct rfl (.cu rfl)))))))))) kQ) rfl⟩ ?_
  exact allL.nil
 intro w5 g hU0 hg
 have hU:=(Up.drew w4).trans hU0
 have zw5:=hU.size
 replace hS:=hS.up hU
 have e31:g 31=.agg ({ Io with Kind:=1,ID:=id,Version:=1,Time:=t,Until:=t+s.mn,Wafer:=mk,Tool:=x,Step:=(j:Int),Recipe:=s.rc,Revision:=1 }:Fact).cells:=hg 14 _ 31 cQ rfl rfl
 change LW _ _ _ _ _ _ _ _ ((31,.eq (g 31))::_) _
 rw[e31]
 refine Cd (.Cc lh rfl (.t rfl) (.t rfl) (Fact.one _) hS.b1 rfl) ?_
 intro w6 Nw6
 have zw6:=Nw6.size
 replace hS:=hS.Ek 1 rfl (show Set_ _ w6 _ (({ Io with Kind:=1,ID:=id,Version:=1,Time:=t,Until:=t+s.mn,Wafer:=mk,Tool:=x,Step:=(j:Int),Recipe:=s.rc,Revision:=1 }:Fact).cells) _ from Nw6)
 change Wx.Sep _ _ _ [_,_,_]at hS
 refine Ah (Am ?_)
 refine F3 rfl rfl n8 lh rfl (hS.b1.agg) ⟨_,rfl,?_⟩
 exact⟨rfl,hS.Ch⟩
theorem Wr(v:Value)(ks:List Int)(w:World)(h:OwnS w 0 3 1 A3 v ks)(hlen:ks.length<4611686018427387904):Ret prog 32 #[v] w fun _ w'=>Stp (Aw 3 1 A3 v ks) (Aw 3 1 A3 v (ks.mergeSort fun x y=>decide (x≤y))) w w':=by
 have h0:=h
 obtain⟨h1,⟨rfl,hn⟩|⟨g,cap,cur,rfl,hg,hb,h2,h3,h4,h5⟩⟩:=h
 · have hks:ks=[]:=dl hn
   subst hks
   refine Calls.mono (Tryz.slices_Sort_int_none none 0 w) ?_
   rintro e' w' ⟨rfl,rfl⟩
   exact⟨_,rfl,by simpa using Stp.refl h0⟩
 rw[Pc]at h5
 have hl:g<w.heap.size:=lt_of_block hb
 refine Calls.mono (Tryz.slices_Sort_int g 0 cap ks w (holds_of_blockI hb (by simpa using h5)) hl hlen) ?_
 rintro e' w' ⟨rfl,n,os,rfl⟩
 have hg2:=Go.grownBy_sortedI (w:=w) (g:=g) (n:=n) (os:=os) (ks.mergeSort fun x y=>decide (x≤y)).toArray
 have ho:=Go.ownsRow_sortedI (w:=w) (n:=n) (os:=os) (ss:=ks) (ts:=ks.mergeSort fun x y=>decide (x≤y)) (by simp) hg hb h2 h3 h4
 refine⟨_,rfl,⟨hg2.os,hg2.tape,hg2.output,hg2.size,fun i hi hn=>hg2.block i hi (fun e=>by cases e;exact hn rfl)⟩,?_,fun i h=>.inl h⟩
 show World.ownsRow _ _ _ _ _ _ _
 rw[Pc,List.length_mergeSort]
 exact ho
theorem Qo(ad:Option Addr)(cp:Nat)(l:List Int)(w:World)(hE:Els w ad 1 A3 l)(hl:l.length≤100000)(ha:l.Pairwise (· <·)):Ret prog 33 #[.slice ad l.length cp] w fun r w'=>r=.slice ad l.length cp∧Up w w':=by
 have hW:=Up.refl w
 obtain⟨w0,rfl,_⟩:=W0 w
 refine cT 61 func33 rfl ?_
 refine Af (Az (An (Af (I rfl ?_))))
 refine U (.Ck k_ (.t rfl)) ?_
 refine U (.lss (.t rfl) (.const _)) ?_
 refine Ah ?_
 refine CW.b rfl (fun h8=>?_) (fun h8=>?_)
 ·replace h8:=dQ h8
  refine Af (I rfl (LW.A rfl (Ah (Am (Ar ?_)))))
  refine KW.q ?_
  exact⟨rfl,hW⟩
 replace h8:=dQ h8
 have h8_:¬(l.length:Int)<2:=h8
 refine Aj (Ac (Ai (Af (Az (Ah (Ak ?_))))))
 refine A6 (σ:=Nat) (fun s w=>(s+1≤l.length)∧(Up w0 w)) (fun s=>[(3,.eq (vi ((s+1:Nat):Int)))]) ([(0,.eq _)]) (fun s=>l.length-s) 0 ?_ tQ ?_
 ·exact⟨oQ,hW⟩
 rintro k w1 ⟨hk,hW⟩
 refine Ai (Af (I rfl (I rfl ?_)))
 refine U (.Ck k_ (.t rfl)) ?_
 refine U (.l2 rfl rfl) ?_
 refine Ah ?_
 refine CW.b rfl (fun h13=>?_) (fun h13=>?_)
 ·replace h13:=dQ h13
  refine Aj (Ac (Ai (Ak (Ai ?_))))
  have hkl:k+1<l.length:=cm.1 h13
  obtain⟨x,hx⟩:=Ae (xs:=l) (i:=k+1) hkl
  obtain⟨y,hy⟩:=Ae (xs:=l) (i:=k) oQ
  obtain⟨Bx,ox,ax,hcx⟩:=hE _ x hx
  obtain⟨By,oy,ay,hcy⟩:=hE _ y hy
  have hyx:=dJ ha hy hx
  refine C5 kQ kQ rfl rfl ?_
  refine J (.mv rfl) ?_
  refine J (.mv rfl) ?_
  refine J (.Ao k_ lg (j:=k+1) (.t rfl) (.t rfl) oQ ax) ?_
  refine J (.lb rfl ((hcx.up hW).nth (j:=0) rfl)) ?_
  refine J (.mv rfl) ?_
  refine J (.mv rfl) ?_
  refine J (.Dt (v':=vi (k:Int)) (PEv.sub (.t rfl) (.const _) oQ oQ) (bi vi oQ)) ?_
  refine J (.Ao k_ lg (j:=k) (.t rfl) (.t rfl) oQ ay) ?_
  refine J (.lb rfl ((hcy.up hW).nth (j:=0) rfl)) ?_
  refine J (.fa (PEv.eql (.t rfl) (.t rfl)) (br oQ)) ?_
  refine HW.nil ?_
  intro w2 uw2
  have zw2:=uw2.size
  replace hW:=hW.up uw2
  refine Ac ?_
  refine CW.f rfl ?_
  refine Aj (Al (Ac (Aa (I rfl ?_))))
  refine U (.Dt (v':=vi ((k+1+1:Nat):Int)) (PEv.add (.t rfl) (.const _) oQ oQ) (bi vi oQ)) ?_
  refine LW.A rfl (LW.nil (Av ?_))
  exact⟨k+1,⟨by omega,hW⟩,tQ,by first|omega|(dsimp only;omega)⟩
 replace h13:=dQ h13
 refine A8 (Ab (Ab (Aq (Ac (Af (I rfl (LW.A rfl (Ah (Am ?_)))))))))
 refine KW.q ?_
 exact⟨rfl,hW⟩
theorem Qp(av:Option Addr)(cv:Nat)(L:List Sk)(hv:Go.Value)(j:Nat)(w:World)(hF:FlG w av none L [])(s:Sk)(hs:L[j]?=some s):Ret prog 86 #[.agg (bR av L.length cv hv),vi (j:Int)] w fun r w'=>r=.tuple #[.agg s.cells,.bool true]∧Up w w':=by
 obtain⟨w0,rfl,hS⟩:=W0 w
 have hlen:=hF.len
 have hjl:=(am.1 hs).1
 refine cT 28 func86 rfl ?_
 refine Af ?_
 refine Ap (.bA rfl) rfl ?_
 rintro _ w1 ⟨B2,rfl,NB2⟩
 have eB2:=NB2.at_
 have zB2:=NB2.size
 replace hS:=hS.Cg NB2
 change Wx.Sep _ _ _ [_]at hS
 refine Ap (.Cb l_) rfl ?_
 rintro _ w2 ⟨B4,rfl,NB4⟩
 have eB4:=NB4.at_
 have zB4:=NB4.size
 replace hS:=hS.Cg NB4
 change Wx.Sep _ _ _ [_,_]at hS
 refine Az (An (Af ?_))
 refine U (.fB 4 rfl) ?_
 refine U (.tr (PEv.lb rfl (hS.b0.Ad rfl)) (rfl)) ?_
 refine U (.n1 rfl) ?_
 refine I rfl ?_
 refine Au ?_
 refine I rfl ?_
 refine Au ?_
 refine U (.fa (PEv.lss (.t rfl) (.const _)) (br oQ)) ?_
 refine U (.po rfl (fun hp=>(by first|exact .const _|exact .tmp rfl|exact .cond rfl (by first|assumption|simp_all)))) ?_
 refine I rfl ?_
 refine Au ?_
 refine I rfl ?_
 refine Au ?_
 refine U (.fB 0 rfl) ?_
 refine Au ?_
 refine U (.fB 2 rfl) ?_
 refine Au ?_
 refine U (.lb rfl (hS.b0.Ad rfl)) ?_
 refine Au ?_
 refine U (.Ck lr (.t rfl)) ?_
 refine Au ?_
 refine U (.fa (PEv.geq (.t rfl) (.t rfl)) (br oQ)) ?_
 refine U (.po rfl (fun hp=>(by first|exact .const _|exact .tmp rfl|exact .cond rfl (by first|assumption|simp_all)))) ?_
 refine Ah ?_
 refine CW.f rfl ?_
 refine Aj (Ac (Ai ?_))
 obtain⟨Bs,os,as_,hcs⟩:=(hF.up hS.Ch).E j s hs
 refine Aa ?_
 refine U (.fB 0 rfl) ?_
 refine U (.fB 2 rfl) ?_
 refine U (.lb rfl (hS.b0.Ad rfl)) ?_
 refine I rfl ?_
 refine U (.Ao lr l4 (j:=j) (.t rfl) (.t rfl) oQ as_) ?_
 refine U (.lc rfl (hcs)) ?_
 refine Cd (.Cc l4 rfl (.t rfl) (.t rfl) (Sk.one _) hS.b1 rfl) ?_
 intro w3 Nw3
 have zw3:=Nw3.size
 replace hS:=hS.Ek 1 rfl Nw3
 change Wx.Sep _ _ _ [_,_]at hS
 refine Az (Ah (Am ?_))
 refine aW rfl rfl rfl isAgg49 l4 rfl hS.b1.agg ⟨_,rfl,?_⟩
 exact⟨rfl,hS.Ch⟩
theorem sZ(av:Option Addr)(cv:Nat)(L:List Sk)(ah:Option Addr)(ch:Nat)(l:List Fact)(w:World)(hF:FlG w av none L [])(hFw:Fwd L)(hH:Els w ah 19 Fact.cells l)(hl:l.length≤100000)(j:Nat)(sk:Sk)(hs:L[j]?=some sk)(hl1:1≤l.length):Ret prog 88 #[.agg (bR av L.length cv (.slice ah l.length ch)),vi (j:Int)] w fun r w'=>r=vi (Jb l j sk.bk l.length:Int)∧Up w w':=by
 obtain⟨w0,rfl,hS⟩:=W0 w
 have hlen:=hF.len
 have hjl:=(am.1 hs).1
 have hnb:¬sk.bk∈sk.nx:=fun h=>by have h1:=(hFw.b j sk hs).2;have h2:=(hFw.n j sk hs _ h).1;omega
 refine cT 50 func88 rfl ?_
 refine Af ?_
 refine Ap (.bA rfl) rfl ?_
 rintro _ w1 ⟨B2,rfl,NB2⟩
 have eB2:=NB2.at_
 have zB2:=NB2.size
 replace hS:=hS.Cg NB2
 change Wx.Sep _ _ _ [_]at hS
 refine Az (An (Aa (Az (An (Aa ?_)))))
 refine U (.lc rfl (hS.b0.agg)) ?_
 refine I rfl ?_
 refine A4 (eC (.u rfl rfl) (zH)) rfl (Qp av cv L (.slice ah l.length ch) j _ (hF.up hS.Ch) sk hs) ?_
 rintro _ w2 ⟨rfl,uw2⟩
 have zw2:=uw2.size
 replace hS:=hS.up uw2
 refine I rfl (U (.xt rfl rfl) (U (.xt rfl rfl) ?_))
 refine Ap (.Cb l_) rfl ?_
 rintro _ w3 ⟨B6,rfl,MB6⟩
 refine Cd (.Cc l4 rfl (.t rfl) (.t rfl) (Sk.one _) MB6.blk rfl) ?_
 intro w4 LB6
 have NB6:=MB6.set LB6
 clear LB6 MB6
 have eB6:=NB6.at_
 have zB6:=NB6.size
 replace hS:=hS.Cg NB6
 change Wx.Sep _ _ _ [_,_]at hS
 refine LW.A rfl (An (Af ?_))
 refine U (.fB 4 rfl) ?_
 refine U (.lb rfl (hS.b1.Ad rfl)) ?_
 refine U (.fB 5 rfl) ?_
 refine U (.lb rfl (hS.b1.Ad rfl)) ?_
 refine A4 (eC (.u rfl rfl) (oO)) rfl (Ug _ _ sk.nx sk.bk _ (Els.up (hF.p sk (ai hs)).2 hS.Ch) (by have:=(hF.g sk (ai hs)).nl;omega)) ?_
 rintro _ w5 ⟨e19,uw5⟩
 have zw5:=uw5.size
 replace hS:=hS.up uw5
 rw[br hnb]at e19
 subst e19
 refine Ah ?_
 refine CW.f rfl ?_
 refine Aj (Ac (Ai (Af (Az (Ah (Ak ?_))))))
 refine A6 (σ:=Nat×Nat) (fun s w=>(s.1+1≤l.length)∧(s.2=Jb l j sk.bk (s.1+1))∧(Wx.Sep no w0 w [A5 B2 (bR av L.length cv (.slice ah l.length ch)) 85,A5 B6 sk.cells 49])) (fun s=>[(8,.eq (vi ((s.1+1:Nat):Int))),(5,.eq (vi (s.2:Int)))]) ([(1,.eq _),(2,.eq _),(4,.eq _),(6,.eq _)]) (fun s=>l.length-s.1) (0,0) ?_ tQ ?_
 ·exact⟨hl1,rfl,hS⟩
 rintro⟨k,m⟩ w6 ⟨hk,hm,hS⟩
 dsimp only at hk hm
 refine Ai (Af (I rfl ?_))
 refine U (.fB 5 rfl) ?_
 refine U (.lb rfl (hS.b0.Ad rfl)) ?_
 refine U (.Ck lf (.t rfl)) ?_
 refine U (.l2 rfl rfl) ?_
 refine Ah ?_
 refine CW.b rfl (fun h24=>?_) (fun h24=>?_)
 ·replace h24:=dQ h24
  refine Aj (Ac (Ai (Ak (Ai ?_))))
  have hmle:=fV l j sk.bk (k+1)
  obtain⟨x,hx⟩:=Ae (xs:=l) (i:=k) oQ
  obtain⟨y,hy⟩:=Ae (xs:=l) (i:=k+1) oQ
  obtain⟨Bx,ox,ax,hcx⟩:=(Els.up hH hS.Ch) _ x hx
  obtain⟨By,oy,ay,hcy⟩:=(Els.up hH hS.Ch) _ y hy
  refine C5 kQ kQ rfl rfl ?_
  refine J (.fB 5 rfl) ?_
  refine J (.lb rfl (hS.b0.Ad rfl)) ?_
  refine J (.mv rfl) ?_
  refine J (.Dt (v':=vi (k:Int)) (PEv.sub (.t rfl) (.const _) oQ oQ) (bi vi oQ)) ?_
  refine J (.Ao lf lh (j:=k) (.t rfl) (.t rfl) oQ ax) ?_
  refine J (.fB 13 rfl) ?_
  refine J (.lb rfl (hcx.nth (j:=13) rfl)) ?_
  refine J (.mv rfl) ?_
  refine J (.eql (.t rfl) (.t rfl)) ?_
  refine J (.mv rfl) ?_
  refine Fe rfl rfl rfl rfl rfl rfl (fun hc=>PEv.fB 5 rfl) ?_
  refine Fe rfl rfl rfl rfl rfl rfl (fun hc=>PEv.load isAgg25 vQ (hS.b0.Ad rfl)) ?_
  refine Fe rfl rfl rfl rfl rfl rfl (fun hc=>PEv.mv rfl) ?_
  refine Fe rfl rfl rfl rfl rfl rfl (fun hc=>PEv.Ao lf lh (j:=k+1) vQ vQ oQ ay) ?_
  refine Fe rfl rfl rfl rfl rfl rfl (fun hc=>PEv.fieldAddr (off:=13) me rfl rfl lg rfl vQ) ?_
  refine Fe rfl rfl rfl rfl rfl rfl (fun hc=>PEv.load l7 vQ (hcy.nth (j:=13) rfl)) ?_
  refine Fe rfl rfl rfl rfl rfl rfl (fun hc=>PEv.fB 5 rfl) ?_
  refine Fe rfl rfl rfl rfl rfl rfl (fun hc=>PEv.load l7 vQ (hS.b1.Ad rfl)) ?_
  refine Fe rfl rfl rfl rfl rfl rfl (fun hc=>PEv.eql vQ vQ) ?_
  refine J (.pa rfl (fun hp=>wQ)) ?_
  refine HW.nil ?_
  intro w7 uw7
  have zw7:=uw7.size
  replace hS:=hS.up uw7
  refine Ac ?_
  refine CW.b rfl (fun h46=>?_) (fun h46=>?_)
  ·replace h46:=dQ h46
   have h46_:x.Step=j∧y.Step=sk.bk:=by simpa using h46
   refine Aa (I rfl ?_)
   refine U (.Dt (v':=vi ((m+1:Nat):Int)) (PEv.add (.t rfl) (.const _) oQ oQ) (bi vi oQ)) ?_
   refine LW.A rfl (LW.nil (Al (Ac (Aa (I rfl ?_)))))
   refine U (.Dt (v':=vi ((k+1+1:Nat):Int)) (PEv.add (.t rfl) (.const _) oQ oQ) (bi vi oQ)) ?_
   refine LW.A rfl (LW.nil (Av ?_))
   first|exact⟨(k+1,m+1),⟨by omega,by show m+1=Jb l j sk.bk (k+1+1);rw[Jb,bh ⟨by omega,by rw[iv,Dk hx];exact h46_.1,by rw[Dk hy];exact h46_.2⟩,hm],hS⟩,tQ,by show l.length-(k+1)<l.length-k;omega⟩|exact⟨(k+1,m),⟨by omega,by show m=Jb l j sk.bk (k+1+1);rw[Jb,aq (fun h=>h46_ ⟨by rw[←Dk hx];exact h.2.1,by rw[←Dk hy];exact h.2.2⟩),fo];exact hm,hS⟩,tQ,by show l.length-(k+1)<l.length-k;omega⟩
  replace h46:=dQ h46
  have h46_:¬(x.Step=j∧y.Step=sk.bk):=by simpa using h46
  refine Aj (Al (Ac (Aa (I rfl ?_))))
  refine U (.Dt (v':=vi ((k+1+1:Nat):Int)) (PEv.add (.t rfl) (.const _) oQ oQ) (bi vi oQ)) ?_
  refine LW.A rfl (LW.nil (Av ?_))
  first|exact⟨(k+1,m+1),⟨by omega,by show m+1=Jb l j sk.bk (k+1+1);rw[Jb,bh ⟨by omega,by rw[iv,Dk hx];exact h46_.1,by rw[Dk hy];exact h46_.2⟩,hm],hS⟩,tQ,by show l.length-(k+1)<l.length-k;omega⟩|exact⟨(k+1,m),⟨by omega,by show m=Jb l j sk.bk (k+1+1);rw[Jb,aq (fun h=>h46_ ⟨by rw[←Dk hx];exact h.2.1,by rw[←Dk hy];exact h.2.2⟩),fo];exact hm,hS⟩,tQ,by show l.length-(k+1)<l.length-k;omega⟩
 replace h24:=dQ h24
 refine A8 (Ab (Ab (Aq (Ac (Af (I rfl (LW.A rfl (Ah (Am ?_)))))))))
 refine KW.q ?_
 have hkl:k+1=l.length:=by omega
 rw[hkl]at hm
 exact⟨bi (fun m:Nat=>vi (m:Int)) hm,hS.Ch⟩
theorem nD(av:Option Addr)(cv:Nat)(L:List Sk)(ah:Option Addr)(ch:Nat)(l:List Fact)(w:World)(hF:FlG w av none L [])(hFw:Fwd L)(hH:Els w ah 19 Fact.cells l)(hl:l.length≤100000)(j:Nat)(sk:Sk)(p:Fact)(hs:L[j]?=some sk)(hl1:1≤l.length)(hp:l[l.length-1]?=some p)(hpj:p.Step=(j:Int)):Ret prog 27 #[.agg (bR av L.length cv (.slice ah l.length ch))] w fun r w'=>OwnS w' w.heap.size 3 1 A3 r (G1 sk l j)∧Up w w':=by
 obtain⟨w0,rfl,hS⟩:=W0 w
 have hlen:=hF.len
 have hjl:=(am.1 hs).1
 have hsk:=hF.g sk (ai hs)
 have hnl:=hsk.nl
 have hasc:=hsk.nx.a
 have hbn:∀y∈sk.nx,sk.bk<y:=fun y hy=>by have h1:=(hFw.b j sk hs).2;have h2:=(hFw.n j sk hs y hy).1;omega
 have hasb:(sk.bk::sk.nx).Pairwise (· <·):=eg.2 ⟨hbn,hasc⟩
 refine cT 57 func27 rfl ?_
 refine Af ?_
 refine Ap (.bA rfl) rfl ?_
 rintro _ w1 ⟨B1,rfl,NB1⟩
 have eB1:=NB1.at_
 have zB1:=NB1.size
 replace hS:=hS.Cg NB1
 change Wx.Sep _ _ _ [_]at hS
 refine Az (An (Ak (Af ?_)))
 refine U (.fB 4 rfl) ?_
 refine U (.tr (PEv.lb rfl (hS.b0.Ad rfl)) (rfl)) ?_
 refine U (.n1 rfl) ?_
 refine LW.A rfl (Ah ?_)
 refine CW.f rfl ?_
 refine Af ?_
 refine U (.fB 5 rfl) ?_
 refine U (.lb rfl (hS.b0.Ad rfl)) ?_
 refine U (.Ck lf (.t rfl)) ?_
 refine U (.fa (PEv.eql (.t rfl) (.const _)) (br oQ)) ?_
 refine LW.A rfl (Ah ?_)
 refine CW.f rfl ?_
 refine Aj (Al (Ac (Ai ?_)))
 obtain⟨Bp,op,ap,hcp⟩:=(Els.up hH hS.Ch) _ p hp
 refine Aa ?_
 refine U (.fB 5 rfl) ?_
 refine U (.lb rfl (hS.b0.Ad rfl)) ?_
 refine U (.fB 5 rfl) ?_
 refine U (.lb rfl (hS.b0.Ad rfl)) ?_
 refine U (.Ck lf (.t rfl)) ?_
 refine U (.Dt (v':=vi ((l.length-1:Nat):Int)) (PEv.sub (.t rfl) (.const _) oQ oQ) (bi vi oQ)) ?_
 refine U (.Ao lf lh (j:=l.length-1) (.t rfl) (.t rfl) oQ ap) ?_
 refine U (.fB 13 rfl) ?_
 refine U (.Dt (v':=vi (j:Int)) (PEv.lb rfl (hcp.nth (j:=13) rfl)) (bi vi hpj)) ?_
 refine LW.A rfl (An (Aa ?_))
 refine U (.lc rfl (hS.b0.agg)) ?_
 refine I rfl ?_
 refine A4 (eC (.u rfl rfl) (zH)) rfl (Qp av cv L (.slice ah l.length ch) j _ (hF.up hS.Ch) sk hs) ?_
 rintro _ w2 ⟨rfl,uw2⟩
 have zw2:=uw2.size
 replace hS:=hS.up uw2
 refine I rfl (U (.xt rfl rfl) ?_)
 refine U (.tr (PEv.xt rfl rfl) (rfl)) ?_
 refine Ap (.Cb l_) rfl ?_
 rintro _ w3 ⟨B4,rfl,MB4⟩
 refine Cd (.Cc l4 rfl (.t rfl) (.t rfl) (Sk.one _) MB4.blk rfl) ?_
 intro w4 LB4
 have NB4:=MB4.set LB4
 clear LB4 MB4
 have eB4:=NB4.at_
 have zB4:=NB4.size
 replace hS:=hS.Cg NB4
 change Wx.Sep _ _ _ [_,_]at hS
 refine LW.A rfl (An (Af (I rfl ?_)))
 refine U (.n1 rfl) ?_
 refine Ah ?_
 refine CW.f rfl ?_
 refine Aj (Ac (Af ?_))
 refine U (.fB 4 rfl) ?_
 refine U (.lb rfl (hS.b1.Ad rfl)) ?_
 refine A4 (eC (.o rfl) (oK)) rfl (Jk sk.na sk.nc sk.nx _ (Els.up (hF.p sk (ai hs)).2 hS.Ch) oQ) ?_
 rintro v36 w5 ⟨hO36,uw5⟩
 have zw5:=uw5.size
 replace hS:=hS.add uw5 (A':=Aw 3 1 A3 v36 sk.nx) (hO36.mono (a8 _)) (fun i h=>hO36.base i h)
 change Wx.Sep _ _ _ [_,_,_]at hS
 clear hO36
 obtain⟨ad36,cp36,rfl,_⟩:=(hS.own 2 rfl).sl (fun _=>rfl)
 refine LW.A rfl (An (Ai ?_))
 refine C5 kQ kQ rfl rfl ?_
 refine J (.fB 5 rfl) ?_
 refine J (.lb rfl (hS.b1.Ad rfl)) ?_
 refine J (.geq (.t rfl) (.const _)) ?_
 refine J (.mv rfl) ?_
 refine Fe rfl rfl rfl rfl rfl rfl (fun hc=>PEv.lc rfl (hS.b0.agg)) ?_
 refine Fe rfl rfl rfl rfl rfl rfl (fun hc=>PEv.mv rfl) ?_
 refine CB rfl rfl rfl rfl rfl rfl (fun hc a w _ ha=>Bi (.cons vQ (.cons vQ .nil)) (JZ) a ha) (fun hc w hu=>sZ av cv L ah ch l w (hF.up (hS.Ch.trans hu)) hFw (Els.up hH (hS.Ch.trans hu)) hl j sk hs hl1) ?_
 refine Fe rfl rfl rfl rfl rfl rfl (fun hc=>PEv.fB 6 rfl) ?_
 refine Fe rfl rfl rfl rfl rfl rfl (fun hc=>PEv.load l7 vQ (hS.b1.Ad rfl)) ?_
 refine Fe rfl rfl rfl rfl rfl rfl (fun hc=>PEv.lss vQ vQ) ?_
 refine J (.pa rfl (fun hp=>wQ)) ?_
 refine HW.nil ?_
 intro w6 uw6
 have zw6:=uw6.size
 replace hS:=hS.up uw6
 refine Ac ?_
 refine CW.b rfl (fun h47=>?_) (fun h47=>?_)
 ·replace h47:=dQ h47
  have h47_:0≤sk.bk∧(Jb l j sk.bk l.length:Int)<sk.lm:=by simpa using h47
  refine Af (I rfl ?_)
  refine U (.fB 5 rfl) ?_
  refine U (.lb rfl (hS.b1.Ad rfl)) ?_
  refine Ap (.buildSlice (xs:=[sk.bk]) (enc:=A3) (mk:=vi) k_ lg lq rfl cQ (fun _=>rfl) (fun _=>rfl) (.cu rfl) rfl) rfl ?_
  rintro _ w7 ⟨B51,cB51,rfl,NB51,yB51,xB51⟩
  have eB51:=NB51.at_
  have zB51:=NB51.size
  replace hS:=hS.up NB51.up
  have hE51:=xB51
  refine Ap (.C3 (enc:=A3) (bytes:=8) (i:=Tryz.t3) k_ kQ rfl rfl rfl rfl cQ (fun _=>rfl) Et (.t rfl) (.t rfl) (hS.own 2 rfl) (Ay hE51) (by simp[maxLen];omega) (by simp;omega)) rfl ?_
  intro v52 w8 Gw8
  have zw8:=Gw8.fr.size
  replace hS:=hS.Fs 2 rfl Gw8
  change Wx.Sep _ _ _ [_,_,_]at hS
  obtain⟨ad52,cp52,rfl,_⟩:=(hS.own 2 rfl).sl (fun _=>rfl)
  rw[show(sk.nx++[sk.bk]).length=(sk.bk::sk.nx).length by simp]at hS⊢
  refine LW.A rfl (Ah (Aa (I rfl ?_)))
  refine A4 (eC (.o rfl) (yY)) rfl (Wr _ _ _ (hS.own 2 rfl) (by simp;omega)) ?_
  rintro _ w9 uw9
  have zw9:=uw9.fr.size
  replace hS:=hS.Fs 2 rfl uw9
  change Wx.Sep _ _ _ [_,_,_]at hS
  rw[mU hasc hbn]at hS
  change Wx.Sep _ _ _ [_,_,_]at hS
  refine An (Aa (I rfl ?_))
  refine A4 (eC (.o rfl) (yZ)) rfl (Qo _ _ _ _ (Cf (hS.own 2 rfl) (fun _=>rfl)) (by first|omega|(simp;omega)) (by first|exact hasb|exact hasc)) ?_
  rintro _ w10 ⟨rfl,uw10⟩
  have zw10:=uw10.size
  replace hS:=hS.up uw10
  refine LW.A rfl (Ah (Am ?_))
  refine KW.q ?_
  first|exact⟨by rw[G1,bh h47_];exact(hS.own 2 rfl).F5 (fun i h=>(hS.foot 2 rfl i h).resolve_left (fun h=>h)),hS.Ch⟩|exact⟨by rw[G1,aq h47_];exact(hS.own 2 rfl).F5 (fun i h=>(hS.foot 2 rfl i h).resolve_left (fun h=>h)),hS.Ch⟩
 replace h47:=dQ h47
 have h47_:¬(0≤sk.bk∧(Jb l j sk.bk l.length:Int)<sk.lm):=by simpa using h47
 refine Aj (Ac (Af (I rfl ?_)))
 refine A4 (eC (.o rfl) (yZ)) rfl (Qo _ _ _ _ (Cf (hS.own 2 rfl) (fun _=>rfl)) (by first|omega|(simp;omega)) (by first|exact hasb|exact hasc)) ?_
 rintro _ w11 ⟨rfl,uw11⟩
 have zw11:=uw11.size
 replace hS:=hS.up uw11
 refine LW.A rfl (Ah (Am ?_))
 refine KW.q ?_
 first|exact⟨by rw[G1,bh h47_];exact(hS.own 2 rfl).F5 (fun i h=>(hS.foot 2 rfl i h).resolve_left (fun h=>h)),hS.Ch⟩|exact⟨by rw[G1,aq h47_];exact(hS.own 2 rfl).F5 (fun i h=>(hS.foot 2 rfl i h).resolve_left (fun h=>h)),hS.Ch⟩
theorem nE(av ah:Option Addr)(m cv ch:Nat)(w:World):Ret prog 27 #[.agg (bR av m cv (.slice ah 0 ch))] w fun r w'=>∃B,r=.slice (some ⟨B,0,none⟩) 1 1∧Els w' (some ⟨B,0,none⟩) 1 A3 [0]∧Up w w':=by
 obtain⟨w0,rfl,hS⟩:=W0 w
 refine cT 57 func27 rfl ?_
 refine Af ?_
 refine Ap (.bA rfl) rfl ?_
 rintro _ w1 ⟨B1,rfl,NB1⟩
 have eB1:=NB1.at_
 have zB1:=NB1.size
 replace hS:=hS.Cg NB1
 change Wx.Sep _ _ _ [_]at hS
 refine Az (An (Ak (Af ?_)))
 refine U (.fB 4 rfl) ?_
 refine U (.tr (PEv.lb rfl (hS.b0.Ad rfl)) (rfl)) ?_
 refine U (.n1 rfl) ?_
 refine LW.A rfl (Ah ?_)
 refine CW.f rfl ?_
 refine Af ?_
 refine U (.fB 5 rfl) ?_
 refine U (.lb rfl (hS.b0.Ad rfl)) ?_
 refine U (.Ck lf (.t rfl)) ?_
 refine U (.tr (PEv.eql (.t rfl) (.const _)) (rfl)) ?_
 refine LW.A rfl (Ah ?_)
 refine CW.v rfl ?_
 refine Af ?_
 refine Ap (.buildSlice (xs:=([0]:List Int)) (enc:=A3) (mk:=vi) k_ lg lq rfl cQ (fun _=>rfl) (fun _=>rfl) (.cons (.const _) .nil) rfl) rfl ?_
 rintro _ w2 ⟨B16,cB16,rfl,NB16,yB16,xB16⟩
 have eB16:=NB16.at_
 have zB16:=NB16.size
 replace hS:=hS.up NB16.up
 have hE16:=xB16
 refine LW.A rfl (Ah (Am (A7 (Ar ?_))))
 refine KW.q ?_
 exact⟨B16,rfl,hE16,hS.Ch⟩
theorem Wt(av:Option Addr)(cv:Nat)(L:List Sk)(ah:Option Addr)(ch:Nat)(l:List Fact)(w:World)(hF:FlG w av none L [])(hFw:Fwd L)(hH:Els w ah 19 Fact.cells l)(hl:l.length≤100000)(hst:M5 L l):Ret prog 27 #[.agg (bR av L.length cv (.slice ah l.length ch))] w fun r w'=>Sl w' r 1 A3 (K1 L l)∧(K1 L l).length≤5∧Up w w':=by
 by_cases h0:l=[]
 · subst h0
   exact(nE av ah L.length cv ch w).mono fun _ _⟨B,e,hE,u⟩=>⟨⟨_,_,e,hE⟩,a_ rfl,u⟩
 have hl1:1≤l.length:=gb.2 h0
 obtain⟨p,hp⟩:=Ae (xs:=l) (i:=l.length-1) oQ
 have hr:=hst p (ai hp)
 obtain⟨j,hj⟩:∃j:Nat,p.Step=(j:Int):=⟨p.Step.toNat,by omega⟩
 obtain⟨s,hs⟩:=Ae (xs:=L) (i:=j) oQ
 rw[D5 hp hl1 hj hs]
 exact(nD av cv L ah ch l w hF hFw hH hl j s p hs hl1 hp hj).mono fun _ _⟨hO,u⟩=>⟨hO.sl (fun _=>rfl),bu (Wp s l j) (by have:=(hF.g s (ai hs)).nl;omega),u⟩
theorem jS(bc:Array Go.Value)(b:Base)(wafer time:Int)(ah:Option Addr)(m ch:Nat)(f:Fact)(L:List Sk)(w:World)(hC:BaseC w bc b)(hlen:b.Lots.length<9223372036854775807)(hfl:b.Flows.length≤100000)(hpr:(Hr b.Lots wafer time).2≠0)(hf:Wo b (Hr b.Lots wafer time).2=some f)(hT:f.Text=bs (C4 L))(hL:FlS L)(hFw:Fwd L)(hG:GM w):Ret prog 26 #[.agg bc,vi wafer,vi time,.slice ah m ch] w fun r w'=>∃av cv M,r=.agg (bR av M.length cv (.slice ah m ch))∧Same L M∧FlK w.heap.size w' av M∧Up w w':=by
 obtain⟨w0,rfl,hS⟩:=W0 w
 refine cT 57 func26 rfl ?_
 refine Af ?_
 refine Ap (.bA rfl) rfl ?_
 rintro _ w1 ⟨B4,rfl,NB4⟩
 have eB4:=NB4.at_
 have zB4:=NB4.size
 replace hS:=hS.Cg NB4
 change Wx.Sep _ _ _ [_]at hS
 refine Ap (.Cb zeroValue85) rfl ?_
 rintro _ w2 ⟨B8,rfl,NB8⟩
 have eB8:=NB8.at_
 have zB8:=NB8.size
 replace hS:=hS.Cg NB8
 change Wx.Sep _ _ _ [_,_]at hS
 refine An (Aa (I rfl ?_))
 refine U (.build (cs:=BO (.slice ah m ch)) underlying85 zeroValue85 Ur (.cu rfl) rfl) ?_
 refine Ap (.Cb zeroValue85) rfl ?_
 rintro _ w3 ⟨B9,rfl,MB9⟩
 refine Cd (.Cc sizeOf85 rfl (.t rfl) (.t rfl) (sG _ _ _) MB9.blk rfl) ?_
 intro w4 LB9
 have NB9:=MB9.set LB9
 clear LB9 MB9
 have eB9:=NB9.at_
 have zB9:=NB9.size
 replace hS:=hS.Cg NB9
 change Wx.Sep _ _ _ [_,_,_]at hS
 refine An (Aa ?_)
 refine U (.Fz ml l6 (hC.size) (.t rfl) (hS.b0.agg)) ?_
 refine I rfl (I rfl ?_)
 refine A4 (eC (.ct rfl (.ct rfl (.cu rfl))) (CN)) rfl (iZ bc b wafer time _ (hC.up hS.Ch) hlen) ?_
 rintro _ w5 ⟨rfl,uw5⟩
 have zw5:=uw5.size
 replace hS:=hS.up uw5
 refine I rfl (U (.xt rfl rfl) (U (.xt rfl rfl) (LW.A rfl (LW.A rfl (An (Af (I rfl ?_)))))))
 refine U (.fa (PEv.eql (.t rfl) (.const _)) (br hpr)) ?_
 refine Ah ?_
 refine CW.f rfl ?_
 refine Aj (Ac (Af ?_))
 refine U (.Fz ml l6 (hC.size) (.t rfl) (hS.b0.agg)) ?_
 refine I rfl ?_
 refine A4 (eC (.u rfl rfl) (JW)) rfl (sX bc b _ _ (hC.up hS.Ch) hfl) ?_
 rintro _ w6 ⟨e29,uw6⟩
 have zw6:=uw6.size
 replace hS:=hS.up uw6
 rw[hf]at e29
 subst e29
 refine I rfl (U (.xt rfl rfl) ?_)
 refine U (.tr (PEv.xt rfl rfl) (rfl)) ?_
 refine Ap (.Cb ll) rfl ?_
 rintro _ w7 ⟨B12,rfl,MB12⟩
 refine Cd (.Cc lh rfl (.t rfl) (.t rfl) (Fact.one _) MB12.blk rfl) ?_
 intro w8 LB12
 have NB12:=MB12.set LB12
 clear LB12 MB12
 have eB12:=NB12.at_
 have zB12:=NB12.size
 replace hS:=hS.Cg NB12
 change Wx.Sep _ _ _ [_,_,_,_]at hS
 refine LW.A rfl (An (Af (I rfl ?_)))
 refine U (.n1 rfl) ?_
 refine Ah ?_
 refine CW.f rfl ?_
 refine Aj (Ac (Af ?_))
 refine U (.fB 18 rfl) ?_
 refine U (.Dt (v':=.string (bs (C4 L))) (PEv.lb rfl (hS.b3.Ad rfl)) (bi Value.string hT)) ?_
 refine A4 (eC (.o rfl) (JX)) rfl (mN L hL _ (hG.up hS.Ch)) ?_
 rintro _ w9 ⟨sa,sc,M,rfl,hM,hFk,uw9⟩
 have zw9:=uw9.size
 replace hS:=hS.up uw9
 refine I rfl (U (.xt rfl rfl) (U (.xt rfl rfl) (U (.xt rfl rfl) ?_)))
 refine Ap (.Cb mu) rfl ?_
 rintro _ w10 ⟨B14,rfl,MB14⟩
 refine Cd (.Cc m_ rfl (.t rfl) (.t rfl) (Hy _ _ _ _ _ _) MB14.blk rfl) ?_
 intro w11 LB14
 have NB14:=MB14.set LB14
 clear LB14 MB14
 have eB14:=NB14.at_
 have zB14:=NB14.size
 replace hFk:=hFk.up NB14.up
 replace hS:=hS.Cg NB14
 change Wx.Sep _ _ _ [_,_,_,_,_]at hS
 refine LW.A rfl (LW.A rfl (An (Af (I rfl ?_))))
 refine U (.tr (PEv.eql (.t rfl) (.const _)) (rfl)) ?_
 refine I rfl ?_
 refine Au ?_
 refine U (.lc rfl (hS.b4.agg)) ?_
 refine Au ?_
 refine A4 (eC (.o rfl) (JY)) rfl (fP sa none sc 0 M [] _ hFk.g (hM.rX hFw)) ?_
 rintro _ w12 ⟨rfl,uw12⟩
 have zw12:=uw12.size
 replace hS:=hS.up uw12
 replace hFk:=hFk.up uw12
 refine Au ?_
 refine U (.cY (off:=0) underlying51 rfl rfl l7 (.t rfl) rfl) ?_
 refine Au ?_
 refine U (.tr (PEv.eql (.t rfl) (.const _)) (rfl)) ?_
 refine U (.pa rfl (fun hp=>wQ)) ?_
 refine Ah ?_
 refine CW.v rfl ?_
 refine Aa ?_
 refine U (.lc rfl (hS.b4.agg)) ?_
 refine U (.fB 0 rfl) ?_
 refine Cd (.Vj m_ rfl (.t rfl) (.t rfl) (Hy _ _ _ _ _ _) hS.b2 bQ) ?_
 intro w13 Nw13
 have zw13:=Nw13.size
 replace hS:=hS.Ek 2 rfl (show Set_ _ w13 _ (KP sa M.length sc (.slice ah m ch)) _ from Nw13)
 change Wx.Sep _ _ _ [_,_,_,_,_]at hS
 replace hFk:=hFk.sto Nw13.sto oQ
 refine U (.fB 4 rfl) ?_
 refine Cd (.store mf (.t rfl) (.const _) rfl hS.b2 bQ) ?_
 intro w14 Nw14
 have zw14:=Nw14.size
 replace hS:=hS.Ek 2 rfl (show Set_ _ w14 _ (bR sa M.length sc (.slice ah m ch)) _ from Nw14)
 change Wx.Sep _ _ _ [_,_,_,_,_]at hS
 replace hFk:=hFk.sto Nw14.sto oQ
 refine An (Aa ?_)
 refine U (.lc rfl (hS.b2.agg)) ?_
 refine Cd (.Cc sizeOf85 rfl (.t rfl) (.t rfl) (wO _ _ _ _ _ _) hS.b1 rfl) ?_
 intro w15 Nw15
 have zw15:=Nw15.size
 replace hS:=hS.Ek 1 rfl Nw15
 change Wx.Sep _ _ _ [_,_,_,_,_]at hS
 replace hFk:=hFk.sto Nw15.sto oQ
 refine Ah (Am ?_)
 refine F3 rfl rfl isAgg85 sizeOf85 rfl (hS.b1.agg) ⟨_,rfl,?_⟩
 exact⟨sa,sc,M,rfl,hM,hFk.mono oQ,hS.Ch⟩
theorem nG(av:Option Addr)(m cv:Nat)(hv:Go.Value)(Bk:Nat)(w:World)(hK:Blk w Bk (bR av m cv hv) 85):Ret prog 172 #[.pointer (some ⟨Bk,0,none⟩)] w fun r w'=>r=.bool false∧Up w w':=by
 have hW:=Up.refl w
 obtain⟨w0,rfl,_⟩:=W0 w
 refine cT 5 func172 rfl ?_
 refine Af (Az (An (Aa ?_)))
 refine U (.fB 4 rfl) ?_
 refine U (.tr (PEv.lb rfl ((hK.up hW).Ad rfl)) (rfl)) ?_
 refine U (.n1 rfl) ?_
 refine LW.A rfl (Ah (Am ?_))
 refine KW.q ?_
 exact⟨rfl,hW⟩
theorem nH(av:Option Addr)(cv:Nat)(L:List Sk)(ah:Option Addr)(ch:Nat)(l:List Fact)(w:World)(hF:FlG w av none L [])(hFw:Fwd L)(hH:Els w ah 19 Fact.cells l)(hl:l.length≤100000)(hst:M5 L l)(a:GAct)(Bk Ba:Nat)(hK:Blk w Bk (bR av L.length cv (.slice ah l.length ch)) 85)(hA:Blk w Ba (GAct.cells a) 89):Ret prog 173 #[.pointer (some ⟨Bk,0,none⟩),.pointer (some ⟨Ba,0,none⟩)] w fun r w'=>r=.bool (!decide (a.Step∈K1 L l))∧Up w w':=by
 have hW:=Up.refl w
 obtain⟨w0,rfl,_⟩:=W0 w
 refine cT 13 func173 rfl ?_
 refine Af (Az (An ?_))
 refine C9 7 kQ kQ kQ kQ kQ rfl rfl ?_
 refine J (.fB 4 rfl) ?_
 refine J (.tr (PEv.lb rfl (hK.Ad rfl)) (rfl)) ?_
 refine J (.mv rfl) ?_
 refine C6 (.lc rfl (hK.agg)) ?_
 refine yS (ph:=.pred fun v w=>Sl w v 1 A3 (K1 L l)∧(K1 L l).length≤5) (fun _ _ _ h u=>⟨Sl.up h.1 u,h.2⟩) rfl rfl rfl rfl rfl (fun a w hu ha=>⟨_,_,Bi (.cu rfl) (CG) a ha,(Wt av cv L ah ch l w (hF.up hu) hFw (Els.up hH hu) hl hst).mono fun v w' h=>⟨h.2.2,h.1,h.2.1⟩⟩) rfl ?_
 refine C6 (.fB 1 rfl) ?_
 refine C6 (.lb rfl (hA.Ad rfl)) ?_
 refine HW.nil ?_
 intro w1 uw1
 have zw1:=uw1.size
 replace hW:=hW.up uw1
 refine Js (d:=7) rfl fun v7 hp7=>?_
 obtain⟨⟨ad7,cp7,rfl,hE7⟩,h7l⟩:=hp7
 refine Au ?_
 refine A4 (eC (.u rfl rfl) (oO)) rfl (Ug _ _ (K1 L l) a.Step _ hE7 oQ) ?_
 rintro _ w2 ⟨rfl,uw2⟩
 have zw2:=uw2.size
 replace hW:=hW.up uw2
 refine Au ?_
 refine U (.n1 rfl) ?_
 refine U (.pa rfl (fun hp=>(by first|exact .const _|exact .tmp rfl|exact .cond rfl (by first|assumption|simp_all)))) ?_
 refine LW.A rfl (Ah (Am ?_))
 refine KW.q ?_
 exact⟨by simp,hW⟩
theorem nI(a:GAct)(s:Sk)(Bo Bs Ba:Nat)(w:World)(hO:Blk w Bo #[.bool true] 4)(hs:Blk w Bs s.cells 49)(hA:Blk w Ba (GAct.cells a) 89)(hE:Els w s.ta 1 A3 s.tl)(hl:s.tl.length≤100):Ret prog 174 #[.pointer (some ⟨Bo,0,none⟩),.pointer (some ⟨Bs,0,none⟩),.pointer (some ⟨Ba,0,none⟩)] w fun r w'=>r=.bool (!decide (a.Tool∈s.tl))∧Up w w':=by
 have hW:=Up.refl w
 obtain⟨w0,rfl,_⟩:=W0 w
 refine cT 13 func174 rfl ?_
 refine Af (Az (An (Aa ?_)))
 refine U (.tr (PEv.lb rfl ((hO.up hW).Ad rfl)) (rfl)) ?_
 refine I rfl ?_
 refine Au ?_
 refine U (.fB 1 rfl) ?_
 refine Au ?_
 refine U (.lb rfl ((hs.up hW).Ad rfl)) ?_
 refine Au ?_
 refine U (.fB 2 rfl) ?_
 refine Au ?_
 refine U (.lb rfl ((hA.up hW).Ad rfl)) ?_
 refine Au ?_
 refine A4 (eC (.u rfl rfl) (oO)) rfl (Ug _ _ s.tl a.Tool _ (Els.up hE hW) oQ) ?_
 rintro _ w1 ⟨rfl,uw1⟩
 have zw1:=uw1.size
 replace hW:=hW.up uw1
 refine Au ?_
 refine U (.n1 rfl) ?_
 refine U (.pa rfl (fun hp=>(by first|exact .const _|exact .tmp rfl|exact .cond rfl (by first|assumption|simp_all)))) ?_
 refine LW.A rfl (Ah (Am ?_))
 refine KW.q ?_
 exact⟨by simp,hW⟩
theorem nJ(a:GAct)(s:Sk)(Bo Bs Ba:Nat)(w:World)(hO:Blk w Bo #[.bool true] 4)(hs:Blk w Bs s.cells 49)(hA:Blk w Ba (GAct.cells a) 89):Ret prog 175 #[.pointer (some ⟨Bo,0,none⟩),.pointer (some ⟨Bs,0,none⟩),.pointer (some ⟨Ba,0,none⟩)] w fun r w'=>r=.bool (!decide (s.rc=a.Recipe))∧Up w w':=by
 have hW:=Up.refl w
 obtain⟨w0,rfl,_⟩:=W0 w
 refine cT 12 func175 rfl ?_
 refine Af (Az (An (Aa ?_)))
 refine U (.tr (PEv.lb rfl ((hO.up hW).Ad rfl)) (rfl)) ?_
 refine I rfl ?_
 refine Au ?_
 refine U (.fB 0 rfl) ?_
 refine Au ?_
 refine U (.lb rfl ((hs.up hW).Ad rfl)) ?_
 refine Au ?_
 refine U (.fB 4 rfl) ?_
 refine Au ?_
 refine U (.lb rfl ((hA.up hW).Ad rfl)) ?_
 refine Au ?_
 refine U (.neq (.t rfl) (.t rfl)) ?_
 refine U (.pa rfl (fun hp=>(by first|exact .const _|exact .tmp rfl|exact .cond rfl (by first|assumption|simp_all)))) ?_
 refine LW.A rfl (Ah (Am ?_))
 refine KW.q ?_
 exact⟨by simp,hW⟩
theorem nK(bc:Array Go.Value)(b:Base)(a:GAct)(Bb Ba:Nat)(w:World)(hC:BaseC w bc b)(hB:Blk w Bb bc 37)(hA:Blk w Ba (GAct.cells a) 89)(hl:b.Qualified.length≤100000):Ret prog 176 #[.pointer (some ⟨Bb,0,none⟩),.pointer (some ⟨Ba,0,none⟩)] w fun r w'=>r=.bool (!Fo b a.Tool a.Chamber a.Recipe a.Revision a.Time)∧Up w w':=by
 have hW:=Up.refl w
 obtain⟨w0,rfl,_⟩:=W0 w
 refine cT 16 func176 rfl ?_
 refine Af (Az (An (Aa ?_)))
 refine U (.Fz ml l6 (hC.size) (.t rfl) ((hB.up hW).agg)) ?_
 refine U (.fB 2 rfl) ?_
 refine U (.lb rfl ((hA.up hW).Ad rfl)) ?_
 refine U (.fB 3 rfl) ?_
 refine U (.lb rfl ((hA.up hW).Ad rfl)) ?_
 refine U (.fB 4 rfl) ?_
 refine U (.lb rfl ((hA.up hW).Ad rfl)) ?_
 refine U (.fB 5 rfl) ?_
 refine U (.lb rfl ((hA.up hW).Ad rfl)) ?_
 refine U (.fB 6 rfl) ?_
 refine U (.lb rfl ((hA.up hW).Ad rfl)) ?_
 refine A4 (eC (.ct rfl (.ct rfl (.ct rfl (.ct rfl (.ct rfl (.cu rfl)))))) (EQ)) rfl (U5 bc b _ _ _ _ _ _ (hC.up hW) hl) ?_
 rintro _ w1 ⟨rfl,uw1⟩
 have zw1:=uw1.size
 replace hW:=hW.up uw1
 refine U (.n1 rfl) ?_
 refine LW.A rfl (Ah (Am ?_))
 refine KW.q ?_
 exact⟨rfl,hW⟩
theorem Yg(bc:Array Go.Value)(b:Base)(a:GAct)(av:Option Addr)(cv:Nat)(L:List Sk)(hv:Go.Value)(j:Nat)(s:Sk)(y2 y3 y4 y5 y6:Bool)(w:World)(hC:BaseC w bc b)(hF:FlG w av none L [])(hs:L[j]?=some s)(h0:a.Step=(j:Int)):Ret prog 91 #[.agg bc,.agg (GAct.cells a),.agg (bR av L.length cv hv)] w fun r w'=>∃Bb Ba Bk Bs Bo Br B9,r=.func (.func 180) #[] #[.pointer (some ⟨B9,0,none⟩)]∧Wx.Sep no w w' [A5 Bb bc 37,A5 Ba (GAct.cells a) 89,A5 Bk (bR av L.length cv hv) 85,A5 Bs s.cells 49,A5 Bo #[.bool true] 4,Aw 229 2 Rsn.cells (.slice (some ⟨Br,0,none⟩) 6 6) (Rm Bk Ba Bo Bs Bb y2 y3 y4 y5 y6),A5 B9 #[.slice (some ⟨Br,0,none⟩) 6 6] 232]:=by
 obtain⟨w0,rfl,hS⟩:=W0 w
 refine cT 31 func91 rfl ?_
 refine Af ?_
 refine Ap (.bA rfl) rfl ?_
 rintro _ w1 ⟨B3,rfl,NB3⟩
 have eB3:=NB3.at_
 have zB3:=NB3.size
 replace hS:=hS.Cg NB3
 change Wx.Sep _ _ _ [_]at hS
 refine Ap (.bA rfl) rfl ?_
 rintro _ w2 ⟨B4,rfl,NB4⟩
 have eB4:=NB4.at_
 have zB4:=NB4.size
 replace hS:=hS.Cg NB4
 change Wx.Sep _ _ _ [_,_]at hS
 refine Ap (.bA rfl) rfl ?_
 rintro _ w3 ⟨B5,rfl,NB5⟩
 have eB5:=NB5.at_
 have zB5:=NB5.size
 replace hS:=hS.Cg NB5
 change Wx.Sep _ _ _ [_,_,_]at hS
 refine Az (An (Aa ?_))
 refine U (.lc rfl (hS.b2.agg)) ?_
 refine U (.fB 1 rfl) ?_
 refine U (.Dt (v':=vi (j:Int)) (PEv.lb rfl (hS.b1.Ad rfl)) (bi vi h0)) ?_
 refine A4 (eC (.u rfl rfl) (zH)) rfl (Qp av cv L hv j _ (hF.up hS.Ch) s hs) ?_
 rintro _ w4 ⟨rfl,uw4⟩
 have zw4:=uw4.size
 replace hS:=hS.up uw4
 refine I rfl (U (.xt rfl rfl) (U (.xt rfl rfl) ?_))
 refine Ap (.Cb l_) rfl ?_
 rintro _ w5 ⟨B7,rfl,NB7⟩
 have eB7:=NB7.at_
 have zB7:=NB7.size
 replace hS:=hS.Cg NB7
 change Wx.Sep _ _ _ [_,_,_,_]at hS
 refine Ap (.Gl m7 rfl) rfl ?_
 rintro _ w6 ⟨B8,rfl,NB8⟩
 have eB8:=NB8.at_
 have zB8:=NB8.size
 replace hS:=hS.Cg NB8
 change Wx.Sep _ _ _ [_,_,_,_,_]at hS
 refine Cd (.Cc l4 rfl (.t rfl) (.t rfl) (Sk.one _) hS.b3 rfl) ?_
 intro w7 Nw7
 have zw7:=Nw7.size
 replace hS:=hS.Ek 3 rfl (show Set_ _ w7 _ (s.cells) _ from Nw7)
 change Wx.Sep _ _ _ [_,_,_,_,_]at hS
 refine Cd (.store mf (.t rfl) (.t rfl) rfl hS.b4 bQ) ?_
 intro w8 Nw8
 have zw8:=Nw8.size
 replace hS:=hS.Ek 4 rfl Nw8
 change Wx.Sep _ _ _ [_,_,_,_,_]at hS
 refine An (Aa ?_)
 refine U (.makeFunc (.cu rfl)) ?_
 refine U (.build (cs:=Rsn.cells ⟨1,172,#[.pointer (some ⟨B5,0,none⟩)],false⟩) nd m8 Fw (.cons (.const _) (.cu rfl)) rfl) ?_
 refine U (.makeFunc (.ct rfl (.cu rfl))) ?_
 refine U (.build (cs:=Rsn.cells ⟨2,173,#[.pointer (some ⟨B5,0,none⟩),.pointer (some ⟨B4,0,none⟩)],y2⟩) nd m8 Fw (.cons (.const _) (.cu rfl)) rfl) ?_
 refine U (.makeFunc (.ct rfl (.ct rfl (.cu rfl)))) ?_
 refine U (.build (cs:=Rsn.cells ⟨4,174,#[.pointer (some ⟨B8,0,none⟩),.pointer (some ⟨B7,0,none⟩),.pointer (some ⟨B4,0,none⟩)],y3⟩) nd m8 Fw (.cons (.const _) (.cu rfl)) rfl) ?_
 refine U (.makeFunc (.ct rfl (.ct rfl (.cu rfl)))) ?_
 refine U (.build (cs:=Rsn.cells ⟨8,175,#[.pointer (some ⟨B8,0,none⟩),.pointer (some ⟨B7,0,none⟩),.pointer (some ⟨B4,0,none⟩)],y4⟩) nd m8 Fw (.cons (.const _) (.cu rfl)) rfl) ?_
 refine U (.makeFunc (.ct rfl (.cu rfl))) ?_
 refine U (.build (cs:=Rsn.cells ⟨16,176,#[.pointer (some ⟨B3,0,none⟩),.pointer (some ⟨B4,0,none⟩)],y5⟩) nd m8 Fw (.cons (.const _) (.cu rfl)) rfl) ?_
 refine U (.makeFunc (.ct rfl (.cu rfl))) ?_
 refine U (.build (cs:=Rsn.cells ⟨32,178,#[.pointer (some ⟨B3,0,none⟩),.pointer (some ⟨B4,0,none⟩)],y6⟩) nd m8 Fw (.cons (.const _) (.cu rfl)) rfl) ?_
 refine Ap (.buildSlice (xs:=([⟨1,172,#[.pointer (some ⟨B5,0,none⟩)],false⟩,⟨2,173,#[.pointer (some ⟨B5,0,none⟩),.pointer (some ⟨B4,0,none⟩)],y2⟩,⟨4,174,#[.pointer (some ⟨B8,0,none⟩),.pointer (some ⟨B7,0,none⟩),.pointer (some ⟨B4,0,none⟩)],y3⟩,⟨8,175,#[.pointer (some ⟨B8,0,none⟩),.pointer (some ⟨B7,0,none⟩),.pointer (some ⟨B4,0,none⟩)],y4⟩,⟨16,176,#[.pointer (some ⟨B3,0,none⟩),.pointer (some ⟨B4,0,none⟩)],y5⟩,⟨32,178,#[.pointer (some ⟨B3,0,none⟩),.pointer (some ⟨B4,0,none⟩)],y6⟩]:List Rsn)) (enc:=Rsn.cells) (mk:=fun r=>.agg r.cells) underlying232 sizeOf229 m8 rfl cQ (fun _=>rfl) (fun _=>rfl) (.ct rfl (.ct rfl (.ct rfl (.ct rfl (.ct rfl (.cu rfl)))))) rfl) rfl ?_
 intro v29 w9 hN29
 obtain⟨uw9,B29,rfl,e29,hO29⟩:=NewSl.own hN29 (fun _=>rfl) cQ (by simp[maxLen])
 have zw9:=uw9.size
 replace hS:=hS.add uw9 (A':=Aw 229 2 Rsn.cells (.slice (some ⟨B29,0,none⟩) 6 6) ([⟨1,172,#[.pointer (some ⟨B5,0,none⟩)],false⟩,⟨2,173,#[.pointer (some ⟨B5,0,none⟩),.pointer (some ⟨B4,0,none⟩)],y2⟩,⟨4,174,#[.pointer (some ⟨B8,0,none⟩),.pointer (some ⟨B7,0,none⟩),.pointer (some ⟨B4,0,none⟩)],y3⟩,⟨8,175,#[.pointer (some ⟨B8,0,none⟩),.pointer (some ⟨B7,0,none⟩),.pointer (some ⟨B4,0,none⟩)],y4⟩,⟨16,176,#[.pointer (some ⟨B3,0,none⟩),.pointer (some ⟨B4,0,none⟩)],y5⟩,⟨32,178,#[.pointer (some ⟨B3,0,none⟩),.pointer (some ⟨B4,0,none⟩)],y6⟩]:List Rsn)) hO29 (fun i h=>by cases h;exact fm e29.symm)
 change Wx.Sep _ _ _ [_,_,_,_,_,_]at hS
 refine Ap (.Gl zeroValue232 rfl) rfl ?_
 rintro _ w10 ⟨B9,rfl,MB9⟩
 refine Cd (.store sizeOf232 (.t rfl) (.t rfl) rfl MB9.blk cQ) ?_
 intro w11 LB9
 have NB9:=MB9.set LB9
 clear LB9 MB9
 have eB9:=NB9.at_
 have zB9:=NB9.size
 replace hS:=hS.Cg NB9
 change Wx.Sep _ _ _ [_,_,_,_,_,_,_]at hS
 refine An (Aa ?_)
 refine U (.makeFunc (.cu rfl)) ?_
 refine LW.A rfl (Ah (Am ?_))
 refine KW.q ?_
 exact⟨B3,B4,B5,B7,B8,B29,B9,rfl,hS⟩
section
variable {w0 W W':World}{bc kn:Array Value}{b:Base}{a:GAct}{s:Sk}{Bb Ba Bk Bs Bo bq:Nat}{X Y:Nat→Prop}{y2 y3 y4 y5 y6:Bool}
theorem BR:∀r∈Rm Bk Ba Bo Bs Bb y2 y3 y4 y5 y6,∀args w,(callFunc r.fn args).run prog w=.ok (.enter r.fn args) w:=fun r hr args w=>by
 simp only[Rm,bp,ei,d_]at hr
 rcases hr with rfl|rfl|rfl|rfl|rfl|rfl
 · exact EL args w
 · exact EM args w
 · exact EN args w
 · exact EO args w
 · exact EP args w
 exact ER args w
theorem BS{av ah:Option Addr}{cv ch:Nat}{M:List Sk}{l:List Fact}(hC:BaseC w0 bc b)(hH:Els w0 ah 19 Fact.cells l)(hl:l.length≤100000)(hFw:Fwd M)(hst:M5 M l)(hTl:s.tl.length≤100)(hs:s∈M)(hq:b.Qualified.length≤100000)(hHo:b.Holds.length≤1000000000)(hRl:b.Releases.length<9223372036854775807)(hL:b.Lots.length<9223372036854775807)
   (W:World)(h:WhyX w0 bc a (bR av M.length cv (.slice ah l.length ch)) s av M Bb Ba Bk Bs Bo W):∀r∈Rm Bk Ba Bo Bs Bb (!decide (a.Step∈K1 M l)) (!decide (a.Tool∈s.tl)) (!decide (s.rc=a.Recipe)) (!Fo b a.Tool a.Chamber a.Recipe a.Revision a.Time) (decide (0<(I7 b a).length)),Ret prog r.fn (#[]++r.lb) W fun v W'=>v=.bool r.yes∧Up W W':=fun r hr=>by
 simp only[Rm,bp,ei,d_]at hr
 rw[Array.empty_append]
 rcases hr with rfl|rfl|rfl|rfl|rfl|rfl
 · exact nG av M.length cv _ Bk W h.bk
 · exact nH av cv M ah ch l W h.g hFw (Els.up hH h.u) hl hst a Bk Ba h.bk h.ba
 · exact nI a s Bo Bs Ba W h.bo h.bs_ h.ba (h.g.p s hs).1 hTl
 · exact nJ a s Bo Bs Ba W h.bo h.bs_ h.ba
 · exact nK bc b a Bb Ba W (hC.up h.u) h.bb h.ba hq
 exact sV bc b a Bb Ba W (hC.up h.u) h.bb h.ba hHo hRl hL
end
theorem Yh(bc:Array Go.Value)(b:Base)(a:GAct)(L:List Sk)(ah:Option Addr)(ch:Nat)(l:List Fact)(w:World)(hC:BaseC w bc b)(hH:Els w ah 19 Fact.cells l)(hM_:WhyH b a L l)(hG:GM w):Ret prog 31 #[.agg bc,.agg (GAct.cells a),.slice ah l.length ch] w fun r w'=>r=vi (bS b a L l)∧Up w w':=by
 obtain⟨w0,rfl,_⟩:=W0 w
 have hS:=(Sep.start no w0).dW
 change Wx.Sep _ _ _ [_]at hS
 obtain⟨f,hf,hT⟩:=hM_.flow
 have hst_:=hM_.st
 obtain⟨j,hj⟩:∃j:Nat,a.Step=(j:Int):=⟨a.Step.toNat,by omega⟩
 obtain⟨s,hs⟩:=Ae (xs:=L) (i:=j) oQ
 refine Ff (n:=24) func31 rfl rfl rfl ?_
 refine Af ?_
 refine Ap (.bA rfl) rfl ?_
 rintro _ w1 ⟨B3,rfl,NB3⟩
 have eB3:=NB3.at_
 have zB3:=NB3.size
 replace hS:=hS.Cg NB3
 change Wx.Sep _ _ _ [_,_]at hS
 refine Ap (.bA rfl) rfl ?_
 rintro _ w2 ⟨B4,rfl,NB4⟩
 have eB4:=NB4.at_
 have zB4:=NB4.size
 replace hS:=hS.Cg NB4
 change Wx.Sep _ _ _ [_,_,_]at hS
 refine Az (An (Aa ?_))
 refine Ap (.Gl lq rfl) rfl ?_
 rintro _ w3 ⟨B7,rfl,MB7⟩
 refine Cd (.store lg (.t rfl) (.const _) rfl MB7.blk cQ) ?_
 intro w4 LB7
 have NB7:=MB7.set LB7
 clear LB7 MB7
 have eB7:=NB7.at_
 have zB7:=NB7.size
 replace hS:=hS.Cg NB7
 change Wx.Sep _ _ _ [_,_,_,_]at hS
 refine An (Ai ?_)
 have hS0_:=hS
 obtain⟨bz,ebz⟩:∃b,b=w4.heap.size:=⟨_,rfl⟩
 refine C9 9 kQ kQ kQ kQ kQ rfl rfl ?_
 refine J (.Fz ml l6 (hC.size) (.t rfl) (hS.b1.agg)) ?_
 refine J (.lc rfl (hS.b2.agg)) ?_
 refine J (.Fz ml l6 (hC.size) (.t rfl) (hS.b1.agg)) ?_
 refine J (.fB 0 rfl) ?_
 refine J (.lb rfl (hS.b2.Ad rfl)) ?_
 refine J (.fB 6 rfl) ?_
 refine J (.lb rfl (hS.b2.Ad rfl)) ?_
 refine J (.mv rfl) ?_
 refine Sn (p:=fun v W=>∃(av:Option Addr)(cv:Nat)(M:List Sk),v=.agg (bR av M.length cv (.slice ah l.length ch))∧Same L M∧FlK bz W av M) (fun _ _ _⟨av,cv,M,h1,h2,h4⟩u=>⟨av,cv,M,h1,h2,h4.up u⟩) (fun a w _ ha=>Bi (.ct rfl (.ct rfl (.ct rfl (.cu rfl)))) (CF) a ha) rfl rfl (fun w hu=>(jS bc b a.Wafer a.Time ah l.length ch f L w (hC.up (hS.Ch.trans hu)) (by have:=hM_.hLo;omega) hM_.hFl hM_.lot hf hT hM_.fl hM_.fw (hG.up (hS.Ch.trans hu))).mono fun _ _⟨av,cv,M,h1,h2,h4,h5⟩=>⟨h5,av,cv,M,h1,h2,h4.mono (by rw[ebz];exact hu.size)⟩) ?_
 refine HW.nil ?_
 intro w5 uw5
 have zw5:=uw5.size
 replace hS:=hS.up uw5
 refine Js (d:=17) rfl fun v17 hp17=>?_
 obtain⟨av,cv,M,rfl,hM,hFk⟩:=hp17
 obtain⟨t,ht⟩:=Ae (xs:=M) (i:=j) (by rw[hM.len];omega)
 obtain⟨s',hs',ev⟩:=hM.at_ ht
 cases hs.symm.trans hs'
 have etl:t.tl=s.tl:=bi (fun v=>v.2.1) ev
 have erc:t.rc=s.rc:=bi (fun v=>v.1) ev
 have hta:=(hFk.g.g t (ai ht))
 replace hS:=hS0_.add uw5 (A':=mT av M) hFk.g (fun i h=>by rw[←ebz];exact jK hFk.b i h)
 change Wx.Sep _ _ _ [_,_,_,_,_]at hS
 refine A4 (eC (.ct rfl (.ct rfl (.cu rfl))) (KB)) rfl (Yg bc b a av cv M (.slice ah l.length ch) j t (!decide (a.Step∈K1 M l)) (!decide (a.Tool∈t.tl)) (!decide (t.rc=a.Recipe)) (!Fo b a.Tool a.Chamber a.Recipe a.Revision a.Time) (decide (0<(I7 b a).length)) _ (hC.up hS.Ch) hFk.g ht hj) ?_
 rintro _ w6 ⟨Bb,Ba,Bk,Bs,Bo,Br,B9,rfl,hNs⟩
 have zN:=hNs.size
 replace hS:=hS.join hNs
 change Wx.Sep _ _ _ [_,_,_,_,_,_,_,_,_,_,_,_]at hS
 replace hS:=hS.Ep 3 rfl
 change Wx.Sep _ _ _ [_,_,_,_,_,_,_,_,_,_,_,_]at hS
 refine Ah (Ak ?_)
 obtain⟨bq,hbq⟩:∃bq,bq=w6.heap.size:=⟨_,rfl⟩
 refine L5 (Zs:=[_,_,_,_,_,_,_,_,_,_,_]) (σ:=Int) (fun s=>[A5 B7 #[vi s] 3]) (fun pre s=>(s=(pre.map fun x:sE (Rm Bk Ba Bo Bs Bb (!decide (a.Step∈K1 M l)) (!decide (a.Tool∈t.tl)) (!decide (t.rc=a.Recipe)) (!Fo b a.Tool a.Chamber a.Recipe a.Revision a.Time) (decide (0<(I7 b a).length)))=>x.1.num).sum)) (fun _ _ _=>False) (fun x b=>[]) (fun x b=>[(8,.eq (vi x.1.num)),(7,.eq (.pointer (some ⟨B7,0,none⟩)))]) 0 (.t rfl) (fun args w=>ET args w) (sW _ _ B9 Br (Rm Bk Ba Bo Bs Bb (!decide (a.Step∈K1 M l)) (!decide (a.Tool∈t.tl)) (!decide (t.rc=a.Recipe)) (!Fo b a.Tool a.Chamber a.Recipe a.Revision a.Time) (decide (0<(I7 b a).length))) (WhyX w0 bc a (bR av M.length cv (.slice ah l.length ch)) t av M Bb Ba Bk Bs Bo) _ (fun _ _ h u=>h.up u) (fun _ _ h k=>h.kx k (fun i h=>h.1.elim (fun h=>h.elim) id) (fun i h=>h.1.elim (fun h=>h.elim) id) oQ (fun h=>h.2 ⟨_,ai (i:=4) rfl,rfl⟩) (fun h=>h.2 ⟨_,ai (i:=5) rfl,rfl⟩) (fun h=>h.2 ⟨_,ai (i:=6) rfl,rfl⟩) (fun h=>h.2 ⟨_,ai (i:=7) rfl,rfl⟩) (fun h=>h.2 ⟨_,ai (i:=8) rfl,rfl⟩) (fun i hi h=>h.2 ⟨_,ai (i:=3) rfl,hi⟩)) (BS hC hH hM_.hl (hM.rX hM_.fw) (fun p hp=>by rw[hM.len];exact hM_.hst p hp) (bu hta.tl.2 cQ) (ai ht) hM_.hQu (by have:=hM_.hHo;omega) (by have:=hM_.hRe;omega) (by have:=hM_.hLo;omega)) BR bQ (fun h=>h.2 ⟨_,ai (i:=10) rfl,rfl⟩) (fun h=>h.2 ⟨_,ai (i:=9) rfl,rfl⟩) (hS.blk 10 rfl) (Cf (hS.own 9 rfl) (fun _=>rfl)) ⟨hS.Ch,hS.blk 4 rfl,hS.blk 5 rfl,hS.blk 6 rfl,hS.blk 7 rfl,hS.blk 8 rfl,hS.get 3 rfl⟩) (fun _=>rfl) rfl (fun _ _=>rfl) (show Wx.Sep _ _ _ ([_,_,_,_,_,_,_,_,_,_,_]++[_])from hS) rfl ?_ ?_ ?_ ?_
 ·intro lp x w7
  have hS:=Sep.start no w7
  refine Ht rfl ?_
  refine Aa (LW.A rfl (LW.nil ?_))
  exact fun a ha=>⟨0,hS,.nil _ _,ha.sub tQ⟩
 ·rintro lp pre x z b w8 hJ hlt hqw hS0 hS
  rw[←hbq]at hqw⊢
  have zq:=hqw
  change Wx.Sep _ _ _ [_]at hS
  have hx32:=jL x
  have hsl:=fX pre
  have hlt6:=fc hlt wS
  refine Ak (Aa ?_)
  refine U (.lb rfl (hS.b0.Ad rfl)) ?_
  refine I rfl ?_
  refine U (.add (.t rfl) (.t rfl) oQ oQ) ?_
  refine Cd (.store lg (.t rfl) (.t rfl) rfl hS.b0 bQ) ?_
  intro w9 Nw9
  have zw9:=Nw9.size
  replace hS:=hS.Ek 0 rfl Nw9
  change Wx.Sep _ _ _ [_]at hS
  refine LW.nil (Al ?_)
  exact fun _ _=>⟨z+x.1.num,[],(by rw[hJ];exact(wR pre x (fun x=>x.1.num)).symm),hS,.cons (Na hS.b0) (.nil _ _)⟩
 ·rintro Dm ys z w10 hDq hYs hJ hqw hS
  rw[←hbq]at hDq hqw
  have zq:=hqw
  replace hS:=Xe (Ds:=[]) (As:=[_,_,_,_,_,_,_,_,_,_]) (Bs:=[_]) hS
  change Wx.Sep _ _ _ [_,_,_,_,_,_,_,_,_,_,_,_]at hS
  refine Al (Ac (Af ?_))
  refine U (.lb rfl ((hS.blk 11 rfl).Ad rfl)) ?_
  refine LW.A rfl (Ah (Am ?_))
  refine Nu rfl (Dm::[]) _ (hS.get 0 rfl).1 (hS.get 0 rfl).2 ?_
  intro w11 hF_
  replace hS:=hS.step 0 rfl (A':=kT) hF_ trivial (fun _ h=>h.elim)
  change Wx.Sep _ _ _ [_,_,_,_,_,_,_,_,_,_,_,_]at hS
  have zw11:=hF_.size
  refine KW.q ?_
  have h1:=(show(ys.map fun x=>x.1.num).sum=((ys.map (·.1)).map (·.num)).sum by rw[fd];rfl).trans (bi (fun l:List Rsn=>(l.map (·.num)).sum) hYs)
  replace h1:=h1.trans wU
  exact⟨bi vi (by rw[hJ,h1];unfold bS;rw[hj,show((j:Nat):Int).toNat=j from rfl,hs,←hj];dsimp only;rw[bT hM,etl,erc]),hS.Ch⟩
 exact fun _ _ _ _ _ _ _ h=>h.elim
end Go.Proofs.YtnpgbbaniknpkaaGreatDoor
