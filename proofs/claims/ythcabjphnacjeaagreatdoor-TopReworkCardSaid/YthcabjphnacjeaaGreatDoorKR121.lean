import Derived.Test.YthcabjphnacjeaaGreatDoorKR120
import Derived.Lib.AtoiErrMem
namespace Go.Wx
def Dx(n:Int):List UInt8:=Go.Lib.decDigits n.toNat
def Dj(c:UInt8)(p:List UInt8):List (List UInt8)→List UInt8
 |[]=>p
 |q::qs=>p++c::Dj c q qs
def Kc:List Int→List UInt8
 |[]=>[45]
 |x::l=>Dj 44 (Dx x) (l.map Dx)
theorem S7(c:UInt8)(t:List UInt8):∀(p r:List UInt8),c∉p→Go.Lib.index (p++c::(t++r)) (c::t)=(p.length:Int)
 |[],r,_=>by
   rw[d_]
   unfold Go.Lib.index
   exact bg (kq.2 ⟨r,rfl⟩)
 |b::p,r,h=>by
   have hb:c≠b:=fun e=>h (by rw[e];exact bu)
   have ih:=S7 c t p r (fun hm=>h (b9 _ hm))
   have h2:((c::t).isPrefixOf (b::(p++c::(t++r))))=false:=by simp[List.isPrefixOf,hb]
   rw[eu]
   unfold Go.Lib.index
   rw[h2,ih,aq (by simp),aq (by simp)]
   simp
theorem Z5(c:UInt8):∀p:List UInt8,c∉p→Go.Lib.index p [c]= -1
 |[],_=>rfl
 |b::p,h=>by
   have hb:c≠b:=fun e=>h (by rw[e];exact bu)
   have ih:=Z5 c p (fun hm=>h (b9 _ hm))
   have h2:([c].isPrefixOf (b::p))=false:=by simp[List.isPrefixOf,hb]
   unfold Go.Lib.index
   rw[h2,ih,aq (by simp),bg (by simp)]
theorem Z6{p r:List UInt8}{c:UInt8}:(p++c::r).drop (p.length+1)=r:=by
 rw[show p.length+1=(p++[c]).length by simp,show p++c::r=(p++[c])++r by simp,List.drop_left]
theorem S8(c:UInt8):∀(qs:List (List UInt8))(p:List UInt8),(∀q∈p::qs,c∉q)→Go.Lib.splitK [c] 0 (Go.Lib.count (Dj c p qs) [c]) (Dj c p qs)=p::qs
 |[],p,h=>by
   have:=Z5 c p (h p bu)
   show Go.Lib.splitK [c] 0 (Go.Lib.count p [c]) p=_
   rw[Go.Lib.count_miss this]
   rfl
 |q::qs,p,h=>by
   have hi:=S7 c [] p (Dj c q qs) (h p bu)
   have ih:=S8 c qs q (fun x hx=>h x (b9 _ hx))
   show Go.Lib.splitK [c] 0 (Go.Lib.count (p++c::Dj c q qs) [c]) (p++c::Dj c q qs)=_
   rw[d_]at hi
   rw[Go.Lib.count_hit (by simp) hi,dp,Z6,j5 1]
   unfold Go.Lib.splitK
   rw[hi,aq (by simp),dp,jf,f6,List.take_left,Z6,ih]
theorem zF(c:UInt8)(t p r:List UInt8)(h:c∉p):Go.Lib.cut (p++c::(t++r)) (c::t)=(p,r,true):=by
 unfold Go.Lib.cut
 rw[S7 c t p r h,bg oQ,jf,List.take_left]
 congr 2
 rw[show p.length+(c::t).length=(p++c::t).length by simp,show p++c::(t++r)=(p++c::t)++r by simp,List.drop_left]
def AK(k:Nat):List UInt8:=if k<10 then[UInt8.ofNat (48+k)]else[UInt8.ofNat (48+k/10),UInt8.ofNat (48+k%10)]
theorem wZ{n:Int}(h:0≤n∧n<100):∃k:Nat,k<100∧n=(k:Int)∧Dx n=AK k:=by
 refine⟨n.toNat,by omega,by omega,?_⟩
 unfold Dx AK
 split<;>rename_i hk
 · exact Go.Lib.decDigits_one hk
 exact Go.Lib.decDigits_two hk oQ
theorem zG:∀k,k<100→(∀b∈AK k,48≤b.toNat∧b.toNat≤57)∧AK k≠[]∧(AK k).length≤2∧Go.Lib.atoi (AK k)=some (k:Int):=by decide+kernel
theorem Ev{n:Int}(h:0≤n∧n<100):(∀b∈Dx n,48≤b.toNat∧b.toNat≤57)∧Dx n≠[]∧(Dx n).length≤2∧Go.Lib.atoi (Dx n)=some n:=by
 obtain⟨k,hk,rfl,e⟩:=wZ h
 rw[e]
 exact zG k hk
theorem Om{n:Int}(h:0≤n∧n<100)(c:UInt8)(hc:c.toNat<48):c∉Dx n:=fun hm=>by have:=(Ev h).1 c hm;omega
theorem On(c b:UInt8):∀(qs:List (List UInt8))(p:List UInt8),b∈Dj c p qs→b=c∨∃q∈p::qs,b∈q
 |[],p,h=>.inr ⟨p,bu,h⟩
 |q::qs,p,h=>by
   rcases bt.1 h with h|h
   · exact .inr ⟨p,bu,h⟩
   rcases bm.1 h with h|h
   · exact .inl h
   rcases On c b qs q h with h|⟨x,hx,hb⟩
   · exact .inl h
   exact .inr ⟨x,b9 _ hx,hb⟩
def bs(l:List UInt8):ByteArray:=⟨l.toArray⟩
def zH(l:List UInt8):Array Value:=#[.string (bs l)]
theorem gZ(l:List UInt8):(bs l).data.toList=l:=rfl
theorem iA(l:List UInt8):(bs l).toList=l:=by rw[ByteArray.toList_eq];rfl
theorem uP(b:ByteArray):bs b.data.toList=b:=rfl
theorem zI(a b:List UInt8):bs a++bs b=bs (a++b):=Ux a (bs b)
theorem Me(l:List UInt8):(bs l).size=l.length:=by simp[bs,ByteArray.size]
def GM(w:World):Prop:=∃m:Int,w.cell? ⟨0,0,none⟩=some (vi m)
theorem GM.lt{w:World}(h:GM w):0<w.heap.size:=by
 obtain⟨m,h⟩:=h
 exact World.block_lt_of_cell? _ _ h
theorem GM.fr{X:Nat→Prop}{w w':World}(h:GM w)(u:Fr X w w')(hX:¬X 0):GM w':=by
 obtain⟨m,h1⟩:=h
 exact⟨m,(World.cell?_of_block (a:=⟨0,0,none⟩) (u.block 0 (GM.lt ⟨m,h1⟩) hX)).trans h1⟩
theorem GM.up{w w':World}(h:GM w)(u:Up w w'):GM w':=h.fr (u.fr no) (fun h=>h)
theorem Z7(c:UInt8)(p:List UInt8)(qs:List (List UInt8))(h:∀q∈p::qs,c∉q):Go.Lib.splitB ⟨#[c]⟩ 0 (Go.Lib.countB (bs (Dj c p qs)) ⟨#[c]⟩) (bs (Dj c p qs))=(p::qs).map bs:=by
 have h1:=Go.Lib.splitB_data ⟨#[c]⟩ 0 (Go.Lib.countB (bs (Dj c p qs)) ⟨#[c]⟩) (bs (Dj c p qs))
 rw[show(⟨#[c]⟩:ByteArray).data.toList=[c]from rfl,gZ,show Go.Lib.countB (bs (Dj c p qs)) ⟨#[c]⟩=Go.Lib.count (Dj c p qs) [c]from rfl,S8 c qs p h]at h1
 have h2:∀l:List ByteArray,(l.map (·.data.toList)).map bs=l:=fun l=>by
   rw[fi]
   exact(fo fun b _=>uP b).trans (List.map_id _)
 have h3:=bh (List.map bs) h1
 rw[h2]at h3
 exact h3
def Oo(ps:List (List UInt8)):Array Value:=((ps.map bs).map Value.string).toArray
theorem Gj{w:World}{B e:Nat}{ps:List (List UInt8)}(h:Blk w B (Oo ps) e):Els w (some ⟨B,0,none⟩) 1 zH ps:=fun i x hx=>by
 refine⟨B,0,rfl,fun j v hv=>?_⟩
 match j,hv with
 |0,hv=>
   cases(show Value.string (bs x)=v by simpa[zH]using hv)
   refine h.cell ?_
   simp[Oo,hx]
 |j+1,hv=>simp[zH]at hv
theorem S9{a b:List UInt8}(h:a=b):((bs a).toList==(bs b).toList)=true:=by subst h;exact beq_self_eq_true _
theorem Vp{a b:List UInt8}(h:a≠b):((bs a).toList==(bs b).toList)=false:=by
 rw[iA,iA]
 exact beq_false_of_ne h
section
variable {P:Program}{n:Nat}{ds:List Deferred}{l:Env}{w:World}{d:Option Tmp}{ty:TypeId}{ps:String}{af:Array Edge}{g:Option (Nat×Bool)}
theorem Z8{T T':TypeId}{ms:Array (String×TypeId)}{x:Operand}(hT:P.underlying T=some (.interface ms))(hx:Val l x .nilIface):PEv P n ds l w ⟨d,.binOp .eql T x (.const .nilIface) T',ty,ps,af,g⟩ (.bool true):=fun a w' ha _=>by
 refine Cy ?_
 have e1:a.eval (.const .nilIface)=.nilIface:=rfl
 rw[ha.ev hx,e1,Sem.run_bind]
 have:(eqGuard .eql T x (.const .nilIface) .nilIface .nilIface).run P w'=.ok () w':=by unfold eqGuard;cases x<;>rfl
 rw[this]
 have h:∀d:Nat,(Op.equalIn (d+2) T .nilIface .nilIface).run P w'=.ok true w':=fun d=>by simp[Op.equalIn,run_underlying hT]
 simp only[binOp]
 simp[Op.equal,Op.maxDepth,h 9998]
theorem PEv.uS{T T':TypeId}{ms:Array (String×TypeId)}{x:Operand}(hT:P.underlying T=some (.interface ms))(hx:Val l x .nilIface):PEv P n ds l w ⟨d,.binOp .neq T x (.const .nilIface) T',ty,ps,af,g⟩ (.bool false):=fun a w' ha _=>by
 refine Cy ?_
 have e1:a.eval (.const .nilIface)=.nilIface:=rfl
 rw[ha.ev hx,e1,Sem.run_bind]
 have:(eqGuard .neq T x (.const .nilIface) .nilIface .nilIface).run P w'=.ok () w':=by unfold eqGuard;cases x<;>rfl
 rw[this]
 have h:∀d:Nat,(Op.equalIn (d+2) T .nilIface .nilIface).run P w'=.ok true w':=fun d=>by simp[Op.equalIn,run_underlying hT]
 simp only[binOp]
 simp[Op.equal,Op.maxDepth,h 9998]
end
theorem Tb(c:UInt8):∀(qs:List (List UInt8))(p:List UInt8),(Dj c p qs).length=((p::qs).map fun q=>q.length+1).sum-1
 |[],p=>by simp[Dj]
 |q::qs,p=>by
   have ih:=Tb c qs q
   simp only[Dj,am,a8,ih,c9,j0]
   omega
def Sm(n:Int):Prop:=0≤n∧n<100
theorem zJ(l:List Int)(hl:l.length≤10)(hs:∀x∈l,Sm x):(Kc l).length≤1000000:=by
 have h:∀m:List Int,(∀x∈m,Sm x)→((m.map Dx).map fun q=>q.length+1).sum≤3*m.length:=by
   intro m
   induction m with
   |nil=>intro _;exact bi _
   |cons x m ih=>
     intro hm
     have h1:=ih (fun y hy=>hm y (b9 _ hy))
     have h2:=(Ev (hm x bu)).2.2.1
     simp only[c9,j0,a8]
     omega
 cases l with
 |nil=>decide
 |cons x m=>
   unfold Kc
   rw[Tb,←c9]
   have:=h (x::m) hs
   omega
def D9:List UInt8:=[115,116,101,112]
def Qf:List UInt8:=[114,101,99,105,112,101]
def Jn:List UInt8:=[116,111,111,108,115]
def Lv:List UInt8:=[116,105,109,101]
def Lw:List UInt8:=[110,101,120,116]
def No:List UInt8:=[98,97,99,107]
def Tc:List UInt8:=[108,105,109,105,116]
def Lx:List UInt8:=[109,111,118,101]
def K1(a b:Int):List UInt8:=Dx a++46::([46]++Dx b)
def Hj(k:Nat)(s:Sk):List (List UInt8):=Dx k::Qf::Dx s.rc::Jn::Kc s.tl::Lv::K1 s.mn s.mx::Lw::Kc s.nx::(if 0≤s.bk then[No,Dx s.bk,Tc,Dx s.lm]else[])
def C8(k:Nat)(s:Sk):List UInt8:=Dj 32 D9 (Hj k s)
def Gp:List UInt8:=Dj 32 Lx [K1 2 5]
def Fj(L:List Sk):List UInt8:=Dj 10 Gp (L.mapIdx C8++[[]])
structure Sk.Sml(s:Sk):Prop where
 rc:Sm s.rc
 tl:∀x∈s.tl,Sm x
 tn:s.tl≠[]∧s.tl.length≤8
 mn:Sm s.mn
 mx:Sm s.mx
 nx:∀x∈s.nx,Sm x
 nn:s.nx.length≤4
 bk:s.bk= -1∧s.lm=0∨Sm s.bk∧Sm s.lm
theorem xA{l:List Int}(h:∀x∈l,Sm x)(c:UInt8)(hc:c.toNat<48)(h44:c≠44)(h45:c≠45):c∉Kc l:=by
 cases l with
 |nil=>intro hm;exact h45 (bn.1 hm)
 |cons x l=>
   intro hm
   unfold Kc at hm
   rcases On 44 c _ _ hm with e|⟨q,hq,hb⟩
   · exact h44 e
   rw[←c9]at hq
   obtain⟨y,hy,rfl⟩:=br.1 hq
   exact Om (h y hy) c hc hb
theorem eE{a b:Int}(ha:Sm a)(hb:Sm b)(c:UInt8)(hc:c.toNat<48)(h46:c≠46):c∉K1 a b:=fun hm=>by
 unfold K1 at hm
 rcases bt.1 hm with h|h
 · exact Om ha c hc h
 rcases bm.1 h with h|h
 · exact h46 h
 rcases bt.1 h with h|h
 · exact h46 (bn.1 h)
 exact Om hb c hc h
theorem Xe{k:Nat}{s:Sk}(hk:k<100)(hs:s.Sml)(c:UInt8)(hc:c=32∨c=10):∀q∈D9::Hj k s,c∉q:=by
 have h48:c.toNat<48:=by rcases hc with rfl|rfl<;>decide
 have h44:c≠44:=by rcases hc with rfl|rfl<;>decide
 have h45:c≠45:=by rcases hc with rfl|rfl<;>decide
 have h46:c≠46:=by rcases hc with rfl|rfl<;>decide
 have kw:∀q∈[D9,Qf,Jn,Lv,Lw,No,Tc],c∉q:=by rcases hc with rfl|rfl<;>decide
 intro q hq
 unfold Hj at hq
 simp only[bm]at hq
 rcases hq with rfl|rfl|rfl|rfl|rfl|rfl|rfl|rfl|rfl|rfl|hq
 · exact kw _ (by simp)
 · exact Om ⟨gp k,by omega⟩ c h48
 · exact kw _ (by simp)
 · exact Om hs.rc c h48
 · exact kw _ (by simp)
 · exact xA hs.tl c h48 h44 h45
 · exact kw _ (by simp)
 · exact eE hs.mn hs.mx c h48 h46
 · exact kw _ (by simp)
 · exact xA hs.nx c h48 h44 h45
 split at hq
 · rename_i h0
   obtain⟨h1,h2⟩:=hs.bk.resolve_left (fun h=>by omega)
   simp only[bm,d9,dw]at hq
   rcases hq with rfl|rfl|rfl|rfl
   · exact kw _ (by simp)
   · exact Om h1 c h48
   · exact kw _ (by simp)
   exact Om h2 c h48
 cases hq
theorem qD{α:Type}(f:α→Nat)(m:Nat):∀l:List α,(∀x∈l,f x≤m)→(l.map f).sum≤m*l.length
 |[],_=>a_ _
 |x::l,h=>by
   have h1:=qD f m l (fun y hy=>h y (b9 _ hy))
   have h2:=h x bu
   rw[c9,j0,a8,g7]
   omega
theorem join_le(c:UInt8)(p:List UInt8)(qs:List (List UInt8))(m:Nat)(h:∀q∈p::qs,q.length≤m):(Dj c p qs).length≤(m+1)*(qs.length+1):=by
 rw[Tb]
 have:=qD (fun q:List UInt8=>q.length+1) (m+1) (p::qs) (fun q hq=>by have:=h q hq;omega)
 rw[a8]at this
 omega
theorem Z9{l:List Int}(h:∀x∈l,Sm x)(hl:l.length≤8):(Kc l).length≤50:=by
 cases l with
 |nil=>decide
 |cons x l=>
   have:=join_le 44 (Dx x) (l.map Dx) 2 (fun q hq=>by
     rw[←c9]at hq
     obtain⟨y,hy,rfl⟩:=br.1 hq
     exact(Ev (h y hy)).2.2.1)
   show(Dj 44 (Dx x) (l.map Dx)).length≤50
   rw[ef]at this
   rw[a8]at hl
   omega
theorem uT{k:Nat}{s:Sk}(hk:k<100)(hs:s.Sml):∀q∈D9::Hj k s,q.length≤50:=by
 have dg:∀{x:Int},Sm x→(Dx x).length≤50:=fun hx=>by have:=(Ev hx).2.2.1;omega
 have kw:∀q∈[D9,Qf,Jn,Lv,Lw,No,Tc],q.length≤50:=by decide
 intro q hq
 unfold Hj at hq
 simp only[bm]at hq
 rcases hq with rfl|rfl|rfl|rfl|rfl|rfl|rfl|rfl|rfl|rfl|hq
 · exact kw _ (by simp)
 · exact dg ⟨gp k,by omega⟩
 · exact kw _ (by simp)
 · exact dg hs.rc
 · exact kw _ (by simp)
 · exact Z9 hs.tl hs.tn.2
 · exact kw _ (by simp)
 · have h1:=(Ev hs.mn).2.2.1
   have h2:=(Ev hs.mx).2.2.1
   unfold K1
   simp
   omega
 · exact kw _ (by simp)
 · exact Z9 hs.nx (by have:=hs.nn;omega)
 split at hq
 · rename_i h0
   obtain⟨h1,h2⟩:=hs.bk.resolve_left (fun h=>by omega)
   simp only[bm,d9,dw]at hq
   rcases hq with rfl|rfl|rfl|rfl
   · exact kw _ (by simp)
   · exact dg h1
   · exact kw _ (by simp)
   exact dg h2
 cases hq
theorem Ew(k:Nat)(s:Sk):(Hj k s).length=if 0≤s.bk then 13 else 9:=by unfold Hj;split<;>rfl
theorem qE(k:Nat)(s:Sk):(D9::Hj k s).length=if 0≤s.bk then 14 else 10:=by rw[a8,Ew];split<;>rfl
theorem Td{k:Nat}{s:Sk}(hk:k<100)(hs:s.Sml):(C8 k s).length≤714:=by
 have h:=join_le 32 D9 (Hj k s) 50 (uT hk hs)
 have h2:(Hj k s).length≤13:=by rw[Ew];split<;>omega
 have h3:51*((Hj k s).length+1)≤51*14:=gh _ oQ
 exact b6 h h3
theorem FQ{l:List Int}(h:∀x∈l,Sm x)(hn:l≠[]):Kc l≠[45]:=by
 cases l with
 |nil=>exact absurd rfl hn
 |cons x l=>
   intro e
   obtain⟨h1,h2,_⟩:=Ev (h x bu)
   have hm:∀b∈Dx x,b∈Kc (x::l):=fun b hb=>by
     unfold Kc
     cases l with
     |nil=>exact hb
     |cons y l=>exact er _ hb
   obtain⟨b,hb⟩:=List.exists_mem_of_ne_nil _ h2
   have h3:=hm b hb
   rw[e]at h3
   have:=h1 b hb
   rw[bn.1 h3]at this
   exact absurd this.1 cQ
def zL(fx ws:List (List UInt8)):Prop:=∀(i:Nat)(f:List UInt8),fx[i]?=some f→f=[]∨ws[i]?=some f
theorem IW(k:Nat)(s:Sk):zL [D9,Dx k,Qf,[],Jn,[],Lv,[],Lw,[]] (D9::Hj k s):=fun i f h=>
 match i,h with
 |0,h=>.inr h
 |1,h=>.inr h
 |2,h=>.inr h
 |3,h=>.inl (dc h).symm
 |4,h=>.inr h
 |5,h=>.inl (dc h).symm
 |6,h=>.inr h
 |7,h=>.inl (dc h).symm
 |8,h=>.inr h
 |9,h=>.inl (dc h).symm
 |_+10,h=>by cases h
theorem IX(k:Nat)(s:Sk)(h0:0≤s.bk):zL [[],[],[],[],[],[],[],[],[],[],No,[],Tc,[]] (D9::Hj k s):=fun i f h=>by
 unfold Hj
 rw[bg h0]
 exact match i,h with
 |0,h=>.inl (dc h).symm
 |1,h=>.inl (dc h).symm
 |2,h=>.inl (dc h).symm
 |3,h=>.inl (dc h).symm
 |4,h=>.inl (dc h).symm
 |5,h=>.inl (dc h).symm
 |6,h=>.inl (dc h).symm
 |7,h=>.inl (dc h).symm
 |8,h=>.inl (dc h).symm
 |9,h=>.inl (dc h).symm
 |10,h=>.inr h
 |11,h=>.inl (dc h).symm
 |12,h=>.inr h
 |13,h=>.inl (dc h).symm
 |_+14,h=>by cases h
def Ee(v:Value):Array Value:=#[vi 2,vi 5,v,.slice none 0 0]
theorem lB{v:Value}(h:v.oneCell'=true):(Ee v).all (·.oneCell')=true:=by simp[Ee,h,show ∀i:Int,(vi i).oneCell'=true from fun _=>rfl,show(Value.slice none 0 0).oneCell'=true from rfl]
theorem xB:(K1 2 5).length≤6:=by
 have h1:=(Ev (n:=2) ⟨by decide,by decide⟩).2.2.1
 have h2:=(Ev (n:=5) ⟨by decide,by decide⟩).2.2.1
 unfold K1
 simp
 omega
theorem OwnS.Dc{α:Type}{enc:α→Array Value}{w w':World}{b k:Nat}{e T:TypeId}{v:Value}{xs:List α}(h:OwnS w b e k enc v xs)(hne:Nat.beq e T=false)(u:KeepT T w w'):OwnS w' b e k enc v xs:=by
 obtain⟨h1,h2⟩:=h
 refine⟨h1,?_⟩
 rcases h2 with h2|⟨g,cap,cur,rfl,hb,hg,rest⟩
 · exact .inl h2
 exact .inr ⟨g,cap,cur,rfl,hb,u.obj g _ hg (fun _ _ e'=>by cases e';simp at hne),rest⟩
theorem Sep.IY{S0:Nat→Prop}{w0 w w':World}{As:List Asr}{A B:Asr}(h:Sep S0 w0 w As)(u:Up w w')(h1:A.holds w')(h2:B.holds w')(n1:∀i,A.foot i→w.heap.size≤i)(n2:∀i,B.foot i→w.heap.size≤i)(hd:∀i,A.foot i→¬B.foot i):Sep S0 w0 w' (As++[A,B]):=by
 have h3:=h.add u (A':=Dp [A,B]) ⟨fun C hC=>by simp at hC;rcases hC with rfl|rfl<;>assumption,by simpa using hd⟩ (fun i⟨C,hC,hi⟩=>by simp at hC;rcases hC with rfl|rfl<;>first|exact n1 i hi|exact n2 i hi)
 have h4:=Sep.unfold (Bs:=As) (As:=[A,B]) (rest:=[]) h3
 simpa using h4
theorem uU{α:Type}{enc:α→Array Value}{w:World}{b e k B:Nat}{v:Value}{xs:List α}{cs:Array Value}{T:TypeId}(h:OwnS w b e k enc v xs)(hb:Blk w B cs T)(hT:e≠T):v.ownBlock≠some B:=fun hv=>by
 obtain⟨h1,h2⟩:=h
 rcases h2 with h2|⟨g,cap,cur,rfl,hb2,hg,rest⟩
 · rw[h2.1]at hv;cases hv
 cases hv
 have:=hg.symm.trans hb
 cases this
 exact hT rfl
def Sk.v(s:Sk):Int×List Int×Int×Int×List Int×Int×Int:=(s.rc,s.tl,s.mn,s.mx,s.nx,s.bk,s.lm)
section
variable {P:Program}{n:Nat}{l:Env}{w:World}{fn:Func}{RR:Ending→World→Prop}
theorem lC{t u x:Tmp}{T:TypeId}{B k:Nat}{cs:Array Value}{y z:Value}(hr:fn.results=#[.cell t T,.tmp u,.tmp x])(hv:lk l t=some (.eq (.pointer (some ⟨B,0,none⟩))))(hu:lk l u=some (.eq y))(hx:lk l x=some (.eq z))(hT:∀w,(isAgg T).run P w=.ok true w)(hs:∀w,(sizeOf T).run P w=.ok k w)(hk:cs.size=k)(hc:AggAt w B 0 cs)
   (hR:RR (.returned (.tuple #[.agg cs,y,z])) w):KW n [] (bodyPost P fn RR .ret) l w:=fun a ha=>
 ⟨ha.defers,.tuple #[.agg cs,y,z],by
   have h1:a.tmps.getD t undef=.pointer (some ⟨B,0,none⟩):=ha.val _ _ hv
   have h2:a.tmps.getD u undef=y:=ha.val _ _ hu
   have h3:a.tmps.getD x undef=z:=ha.val _ _ hx
   rw[bl]at h1 h2 h3
   simp[results,hr,h1,h2,h3,asAddr,Fl hT hs hk hc],hR⟩
end
def lD:Array Value:=#[vi 0,vi 0,.slice none 0 0,.slice none 0 0]
def FT(k:Nat)(v:Value):Array Value:=if k=0 then lD else Ee v
def Qo(L:List Sk):List (List UInt8):=Gp::(L.mapIdx C8++[[]])
theorem uV{L:List Sk}{k:Nat}{s:Sk}(h:L[k]?=some s):(Qo L)[k+1]?=some (C8 k s):=by
 have hk:=(ak.1 h).1
 unfold Qo
 rw[fc,cz (by rw[i9];exact hk),iy,h]
 rfl
theorem qF(L:List Sk):(Qo L)[L.length+1]?=some []:=by
 unfold Qo
 rw[fc,c8 (by rw[i9];exact bi _),i9,jn]
 rfl
theorem Ly(L:List Sk):(Qo L).length=L.length+2:=by unfold Qo;simp
theorem Te{L:List Sk}{q:List UInt8}(h:q∈Qo L):q=Gp∨q=[]∨∃k s,L[k]?=some s∧q=C8 k s:=by
 unfold Qo at h
 rcases bm.1 h with h|h
 · exact .inl h
 rcases bt.1 h with h|h
 · obtain⟨k,hk,e⟩:=List.mem_mapIdx.1 h
   exact .inr (.inr ⟨k,_,cb hk,e.symm⟩)
 exact .inr (.inl (bn.1 h))
theorem zO:∀b∈Gp,b≠10:=fun b hb e=>by
 subst e
 rcases On 32 10 _ _ hb with h|⟨q,hq,h⟩
 · cases h
 simp only[bm,d9,dw]at hq
 rcases hq with rfl|rfl
 · exact absurd h cQ
 exact eE ⟨by decide,by decide⟩ ⟨by decide,by decide⟩ 10 cQ cQ h
theorem xC:Gp.length≤714:=by
 have:=join_le 32 Lx [K1 2 5] 6 (fun q hq=>by
   simp only[bm,d9,dw]at hq
   rcases hq with rfl|rfl
   · decide
   exact xB)
 exact b6 this cQ
structure FlS(L:List Sk):Prop where
 sml:∀s∈L,s.Sml
 ok:∀s∈L,s.Ok L.length
 len:1≤L.length∧L.length≤40
theorem FlS.no{L:List Sk}(h:FlS L):∀q∈Qo L,(10:UInt8)∉q:=fun q hq hm=>by
 rcases Te hq with rfl|rfl|⟨k,s,hs,rfl⟩
 · exact zO _ hm rfl
 · cases hm
 have hk:=(ak.1 hs).1
 have:=h.len
 rcases On 32 10 _ _ hm with e|⟨x,hx,hb⟩
 · cases e
 exact Xe oQ (h.sml s (ai hs)) 10 (.inr rfl) x hx hb
theorem FlS.le{L:List Sk}(h:FlS L):(Fj L).length≤30030:=by
 have h1:=join_le 10 Gp (L.mapIdx C8++[[]]) 714 (fun q hq=>by
   rcases Te hq with rfl|rfl|⟨k,s,hs,rfl⟩
   · exact xC
   · decide
   have hk:=(ak.1 hs).1
   have:=h.len
   exact Td oQ (h.sml s (ai hs)))
 have h2:(L.mapIdx C8++[[]]).length≤41:=by have:=h.len;simp;omega
 have h3:(714+1)*((L.mapIdx C8++[[]]).length+1)≤715*42:=gh _ oQ
 exact b6 h1 h3
theorem Sk.Ok.mono{s:Sk}{n m:Int}(h:s.Ok n)(hm:n≤m):s.Ok m:=
 ⟨h.rc,h.mn,h.bk.imp id (fun⟨h1,h2⟩=>⟨⟨h1.1,by omega⟩,h2⟩),h.tl,h.ta,h.nl,⟨fun x hx=>by have:=h.nx.r x hx;omega,h.nx.a⟩⟩
theorem Sk.Ok.same{s t:Sk}{n:Int}(h:s.Ok n)(e:t.v=s.v):t.Ok n:=by
 obtain⟨rc,tl,ta,tc,mn,mx,nx,na,nc,bk,lm⟩:=s
 obtain⟨rc',tl',ta',tc',mn',mx',nx',na',nc',bk',lm'⟩:=t
 cases e
 exact⟨h.rc,h.mn,h.bk,h.tl,h.ta,h.nl,h.nx⟩
def Same(L M:List Sk):Prop:=M.map Sk.v=L.map Sk.v
theorem Same.len{L M:List Sk}(h:Same L M):M.length=L.length:=by
 have:=bh List.length h
 rwa [ef,ef]at this
theorem Same.at_{L M:List Sk}(h:Same L M){t:Sk}{i:Nat}(ht:M[i]?=some t):∃s,L[i]?=some s∧t.v=s.v:=by
 have h1:=bh (fun l=>l[i]?) h
 simp only[ff,ht]at h1
 cases hs:L[i]? with
 |none=>rw[hs]at h1;cases h1
 |some s=>rw[hs]at h1;exact⟨s,rfl,by simpa using h1⟩
theorem Same.ok{L M:List Sk}(h:Same L M){n:Int}(hL:∀s∈L,s.Ok n):∀t∈M,t.Ok n:=fun t ht=>by
 obtain⟨i,hi⟩:=eh.1 ht
 obtain⟨s,hs,e⟩:=h.at_ hi
 exact(hL s (ai hs)).same e
theorem Same.snoc{L M:List Sk}{k:Nat}{s t:Sk}(h:Same (L.take k) M)(hs:L[k]?=some s)(e:t.v=s.v):Same (L.take (k+1)) (M++[t]):=by
 unfold Same at h⊢
 rw[cm,h,Da hs,cm]
 simp[e]
theorem Xf{w:World}{sa:Option Addr}{sc T ti:Nat}{L M:List Sk}(hL:FlS L)(hM:Same L M)(h1:OwnS w 0 T 7 Sk.cells (.slice sa M.length sc) M)(h2:(Dp (M.flatMap (Ky ti))).holds w):FlG w sa none M []:=
 ⟨by rw[hM.len];exact hL.len,Cg h1 (fun _=>rfl),by rw[hM.len];exact hM.ok hL.ok,fun s hs=>gX h2 hs,fun i x h=>by simp at h,a_ _,fun x hx=>by cases hx⟩
theorem zP(k:Nat)(s:Sk):Go.Lib.hasPrefix (C8 k s) D9=true:=kq.2 ⟨_,rfl⟩
theorem qG{e:Nat}{S0:Nat→Prop}{w0 w:World}{As:List Asr}(h:Wx.Sep S0 w0 w As):Wx.Sep S0 w0 w (As++[Dp (([]:List Sk).flatMap (Ky e))]):=h.add (Up.refl _) ⟨fun A h=>by simp at h,List.Pairwise.nil⟩ (fun i h=>by obtain⟨A,h,_⟩:=h;simp at h)
def FlB(b:Nat)(sa:Option Addr)(L:List Sk):Prop:=(∀B o,sa=some ⟨B,o,none⟩→b≤B)∧∀s∈L,(∀B o,s.ta=some ⟨B,o,none⟩→b≤B)∧∀B o,s.na=some ⟨B,o,none⟩→b≤B
structure FlK(b:Nat)(w:World)(sa:Option Addr)(L:List Sk):Prop where
 g:FlG w sa none L []
 b:FlB b sa L
theorem FlK.up{b:Nat}{w w':World}{sa:Option Addr}{L:List Sk}(h:FlK b w sa L)(u:Up w w'):FlK b w' sa L:=⟨h.g.up u,h.b⟩
theorem FlK.sto{b B:Nat}{w w':World}{sa:Option Addr}{L:List Sk}(h:FlK b w sa L)(k:Sto B w w')(hB:B<b):FlK b w' sa L:=
 ⟨⟨h.g.len,Els.fr h.g.E k.fr (fun C o e h1=>by have:=h.b.1 C o e;omega),h.g.g,fun s hs=>⟨Els.fr (h.g.p s hs).1 k.fr (fun C o e h1=>by have:=(h.b.2 s hs).1 C o e;omega),Els.fr (h.g.p s hs).2 k.fr (fun C o e h1=>by have:=(h.b.2 s hs).2 C o e;omega)⟩,fun i x h=>by simp at h,h.g.wl,h.g.wn⟩,h.b⟩
theorem FlB.of{w0 w:World}{As:List Asr}{k m T e sc:Nat}{sa:Option Addr}{L:List Sk}(h:Wx.Sep no w0 w As)(h1:As[k]?=some (Aw T 7 Sk.cells (.slice sa L.length sc) L))(h2:As[m]?=some (Dp (L.flatMap (Ky e)))):FlB w0.heap.size sa L:=
 ⟨fun B o e=>(h.foot k h1 B (by show Value.ownBlock _=_;rw[e];rfl)).resolve_left (fun h=>h),fun s hs=>⟨fun B o ee=>(h.foot m h2 B ⟨_,ii.2 ⟨s,hs,bu⟩,by show Value.ownBlock _=_;unfold Sk.tv;rw[ee];rfl⟩).resolve_left (fun h=>h),
   fun B o ee=>(h.foot m h2 B ⟨_,ii.2 ⟨s,hs,b9 _ bu⟩,by show Value.ownBlock _=_;unfold Sk.nv;rw[ee];rfl⟩).resolve_left (fun h=>h)⟩⟩
section
variable {P:Program}{n:Nat}{ds:List Deferred}{l:Env}{w:World}{d:Option Tmp}{ty:TypeId}{ps:String}{af:Array Edge}{g:Option (Nat×Bool)}
theorem PEv.Fk{T T':TypeId}{x y:Operand}(a b:List UInt8)(hx:Val l x (.string (bs a)))(hy:Val l y (.string (bs b)))(h1:a.length≤1000000)(h2:b.length≤1000000):PEv P n ds l w ⟨d,.binOp .add T x y T',ty,ps,af,g⟩ (.string (bs (a++b))):=
 PEv.Dr (PEv.nK hx hy (by rw[Me,Me];omega)) (bh Value.string (zI a b))
end
theorem iB{y:Nat}(h:y<100):Go.Lib.decDigits y=(if y/10=0 then[]else Go.Lib.decDigits (y/10))++[UInt8.ofNat (48+y%10)]:=by
 by_cases h1:y<10
 · rw[Go.Lib.decDigits_one h1,bg oQ,ig h1]
   rfl
 rw[Go.Lib.decDigits_two h1 h,aq oQ,Go.Lib.decDigits_one (by omega)]
 rfl
theorem JJ:∀k:Nat,k<10→IntKind.u8.wrap (48+(k:Int))=((UInt8.ofNat (48+k)).toNat:Int):=by decide+kernel
structure DgI(x:Int)(y:Nat)(l:List UInt8):Prop where
 lt:y<100
 e:Dx x=if l=[]then Go.Lib.decDigits y else(if y=0 then[]else Go.Lib.decDigits y)++l
theorem DgI.next{x:Int}{y:Nat}{l:List UInt8}(h:DgI x y l)(hy:l=[]∨0<y):DgI x (y/10) (UInt8.ofNat (48+y%10)::l):=by
 refine⟨by have:=h.lt;omega,?_⟩
 rw[aq (by simp),h.e]
 by_cases hl:l=[]
 · subst hl
   rw[bg rfl,iB h.lt]
 rw[aq hl,aq (by have:=hy.resolve_left hl;omega),iB h.lt,c_]
 rfl
theorem DgI.le{x:Int}{y:Nat}{l:List UInt8}(hx:Sm x)(h:DgI x y l):l.length≤2:=by
 by_cases hl:l=[]
 · subst hl;decide
 have h1:=(Ev hx).2.2.1
 rw[h.e,aq hl,am]at h1
 omega
def qH:List Int→List UInt8
 |[]=>[]
 |x::l=>Dj 44 (Dx x) (l.map Dx)
theorem Vq(c:UInt8)(q:List UInt8):∀(qs:List (List UInt8))(p:List UInt8),Dj c p (qs++[q])=Dj c p qs++c::q
 |[],p=>rfl
 |r::qs,p=>by
   show p++c::Dj c r (qs++[q])=(p++c::Dj c r qs)++c::q
   rw[Vq c q qs r]
   simp
theorem aA{l:List Int}{k:Nat}{x:Int}(hx:l[k]?=some x):qH (l.take (k+1))=(if k=0 then qH (l.take k)else qH (l.take k)++[44])++Dx x:=by
 rw[Da hx]
 cases k with
 |zero=>rfl
 |succ k=>
   cases l with
   |nil=>simp at hx
   |cons y l=>
     rw[aq oQ,ju]
     show Dj 44 (Dx y) ((l.take k++[x]).map Dx)=(Dj 44 (Dx y) ((l.take k).map Dx)++[44])++Dx x
     rw[cm,List.map_singleton,Vq]
     simp
theorem zS{l:List Int}(h:∀x∈l,Sm x)(hl:l.length≤8):(qH l).length≤50:=by
 cases l with
 |nil=>decide
 |cons x l=>exact Z9 h hl
theorem zT{l:List Int}(h:∀x∈l,Sm x)(hn:l≠[]):qH l≠[]∧qH l=Kc l:=by
 cases l with
 |nil=>exact absurd rfl hn
 |cons x l=>
   refine⟨fun e=>?_,rfl⟩
   have h1:=(Ev (h x bu)).2.1
   cases l with
   |nil=>exact h1 e
   |cons y l=>exact absurd (bh List.length e) (by simp[qH,Dj])
def mM(L:List Sk)(k:Nat):List UInt8:=Gp++[10]++((L.take k).mapIdx fun i s=>C8 i s++[10]).flatten
theorem qI{L:List Sk}{k:Nat}{s:Sk}(h:L[k]?=some s):mM L (k+1)=mM L k++C8 k s++[10]:=by
 have hk:=(ak.1 h).1
 unfold mM
 rw[Da h,List.mapIdx_append,jw,ca,dk (by omega)]
 simp
theorem aB(c:UInt8):∀(qs:List (List UInt8))(p:List UInt8),Dj c p (qs++[[]])=p++[c]++(qs.map fun q=>q++[c]).flatten
 |[],p=>by simp[Dj]
 |q::qs,p=>by
   show p++c::Dj c q (qs++[[]])=_
   rw[aB c qs q]
   simp
theorem iC(L:List Sk):mM L L.length=Fj L:=by
 unfold mM Fj
 rw[b7,aB,show(L.mapIdx C8).map (fun q=>q++[10])=L.mapIdx fun i s=>C8 i s++[10]from cx fun i=>by rw[ff,iy,iy];cases L[i]?<;>rfl]
theorem zV{L:List Sk}(h:FlS L)(k:Nat)(_:k≤L.length):(mM L k).length≤30030:=by

 have h1:=h.le
 rw[←iC]at h1
 unfold mM at h1⊢
 rw[b7]at h1
 have h2:(L.mapIdx fun i s=>C8 i s++[10]).flatten.length=((L.take k).mapIdx fun i s=>C8 i s++[10]).flatten.length+((L.drop k).mapIdx fun i s=>C8 (i+(L.take k).length) s++[10]).flatten.length:=by
   rw[←am,←jw,←List.mapIdx_append,eg]
 simp only[am,h2]at h1⊢
 omega
theorem Oq(n:Int):iS (IntKind.i64.wrap n):=by
 rw[IntKind.wrap_i64]
 unfold iS
 omega
def FU(l:List Int):Prop:=∃a,0≤a∧a<6∧(l=[a]∨∃b,a<b∧b≤8∧l=[a,b])
def FV(n j:Nat)(l:List Int):Prop:=l=[]∨j+1<n∧(l=[(j:Int)+1]∨∃k,(j:Int)+1<k∧k<n∧l=[(j:Int)+1,k])
structure MkOk(n j:Nat)(s:Sk):Prop where
 rc:1≤s.rc∧s.rc≤5
 mn:1≤s.mn∧s.mn≤s.mx∧s.mx≤49
 tl:FU s.tl
 nx:FV n j s.nx
 bk:s.bk= -1∧s.lm=0∨(0≤s.bk∧s.bk≤j)∧1≤s.lm∧s.lm≤3
def MkS(n:Nat)(L:List Sk):Prop:=∀(j:Nat)(s:Sk),L[j]?=some s→MkOk n j s
theorem MkS.snoc{n:Nat}{L:List Sk}{s:Sk}(h:MkS n L)(hs:MkOk n L.length s):MkS n (L++[s]):=fun j t ht=>by
 by_cases hj:j<L.length
 · rw[cz hj]at ht
   exact h j t ht
 have h1:=(ak.1 ht).1
 rw[am,dp]at h1
 have h2:j=L.length:=by omega
 subst h2
 rw[c8 (bi _),jn]at ht
 cases ht
 exact hs
theorem aD{a b lo hi:Int}(h:lo≤a)(h1:a<b)(h2:b≤hi):AscR [a,b] lo hi:=
 ⟨fun x hx=>by simp only[bm,d9,dw]at hx;omega,by simp[h1]⟩
theorem aE{a lo hi:Int}(h:lo≤a)(h2:a≤hi):AscR [a] lo hi:=⟨fun x hx=>by rw[bn.1 hx];omega,f4 _ _⟩
theorem MkOk.ok{n j:Nat}{s:Sk}(h:MkOk n j s)(hj:j<n):s.Ok n:=by
 obtain⟨a,h1,h2,h3⟩:=h.tl
 refine⟨by have:=h.rc;omega,by have:=h.mn;omega,h.bk.imp id (fun h=>by omega),?_,?_,?_,?_⟩
 · rcases h3 with e|⟨b,_,_,e⟩<;>rw[e]<;>exact⟨by simp,by simp⟩
 · rcases h3 with e|⟨b,h4,h5,e⟩<;>rw[e]
   · exact aE h1 oQ
   exact aD h1 h4 oQ
 · rcases h.nx with e|⟨_,e|⟨k,_,_,e⟩⟩<;>rw[e]<;>simp
 rcases h.nx with e|⟨h4,e|⟨k,h5,h6,e⟩⟩<;>rw[e]
 · exact⟨fun x hx=>(by cases hx),List.Pairwise.nil⟩
 · exact aE oQ oQ
 exact aD oQ h5 oQ
theorem MkOk.sml{n j:Nat}{s:Sk}(h:MkOk n j s)(hj:j<n)(hn:n≤8):s.Sml:=by
 obtain⟨a,h1,h2,h3⟩:=h.tl
 have hr:=h.rc
 have hm:=h.mn
 refine⟨⟨by omega,by omega⟩,fun x hx=>?_,?_,⟨by omega,by omega⟩,⟨by omega,by omega⟩,fun x hx=>?_,?_,h.bk.imp id (fun h=>⟨⟨by omega,by omega⟩,⟨by omega,by omega⟩⟩)⟩
 · rcases h3 with e|⟨b,h4,h5,e⟩<;>rw[e]at hx<;>simp only[bm,d9,dw]at hx<;>exact⟨by omega,by omega⟩
 · rcases h3 with e|⟨b,_,_,e⟩<;>rw[e]<;>exact⟨by simp,by simp⟩
 · rcases h.nx with e|⟨h4,e|⟨k,h5,h6,e⟩⟩<;>rw[e]at hx<;>simp only[bm,d9,dw]at hx
   · exact⟨by omega,by omega⟩
   exact⟨by omega,by omega⟩
 rcases h.nx with e|⟨_,e|⟨k,_,_,e⟩⟩<;>rw[e]<;>simp
theorem MkS.GD{L:List Sk}(h:MkS L.length L)(hl:1≤L.length∧L.length≤8):FlS L:=
 ⟨fun s hs=>by obtain⟨i,hi⟩:=eh.1 hs;exact(h i s hi).sml (ak.1 hi).1 hl.2,
  fun s hs=>by obtain⟨i,hi⟩:=eh.1 hs;exact(h i s hi).ok (ak.1 hi).1,⟨hl.1,by omega⟩⟩
theorem MkS.rT{L:List Sk}(h:MkS L.length L)(hl:1≤L.length∧L.length≤8):Fwd L:=
 ⟨fun i s hs=>by have:=(h i s hs).bk;omega,fun i s hs x hx=>by
   rcases(h i s hs).nx with e|⟨h4,e|⟨k,h5,h6,e⟩⟩<;>rw[e]at hx<;>simp only[bm,d9,dw]at hx<;>omega,
  fun s hs=>by
   obtain⟨i,hi⟩:=eh.1 hs
   rcases(h i s hi).nx with e|⟨_,e|⟨k,_,_,e⟩⟩<;>rw[e]<;>simp,⟨hl.1,by omega⟩⟩
theorem AL:iS 0:=⟨by decide,by decide⟩
theorem i60:bG ⟨0,0,0,0,0,0⟩:=⟨AL,AL,AL,AL,AL,AL⟩
end Go.Wx
namespace Go.Proofs.YthcabjphnacjeaaGreatDoor
open Go.Proofs.Tryz
open Go.Wx Go.RowKit
theorem Ps(c:UInt8)(p:List UInt8)(qs:List (List UInt8))(w:World)(hG:GM w)(hc:∀q∈p::qs,c∉q)(hl:(Dj c p qs).length≤1000000):Ret prog 151 #[.string (bs (Dj c p qs)),.string ⟨#[c]⟩] w fun r w'=>∃B,r=.slice (some ⟨B,0,none⟩) (p::qs).length (p::qs).length∧Blk w' B (Oo (p::qs)) 9∧w.heap.size≤B∧Up w w':=by
 obtain⟨m,hm⟩:=hG
 have h1:1≤(⟨#[c]⟩:ByteArray).size:=bi _
 refine Calls.mono (Tryz.strings_Split (bs (Dj c p qs)) ⟨#[c]⟩ m w (by rw[Me];omega) hm h1) ?_
 rintro e w' ⟨rfl,rfl⟩
 have h2:=Go.Lib.splitB_all (⟨#[c]⟩:ByteArray) h1 0 _ (bs (Dj c p qs)) rfl
 rw[Z7 c p qs hc]at h2⊢
 rw[ef]at h2
 rw[←h2]
 exact⟨_,rfl,_,rfl,Oz w _ 9,bi _,Up.alloc _ _⟩
theorem aF(x:Int)(hx:Sm x)(w:World):Ret prog 248 #[vi x] w fun r w'=>r=.string (bs (Dx x))∧Up w w':=by
 obtain⟨k,hk,rfl,_⟩:=wZ hx
 refine Calls.mono (Tryz.strconv_Itoa_small k hk w) ?_
 rintro e w' ⟨rfl,rfl⟩
 exact⟨_,rfl,rfl,Up.refl _⟩
theorem qJ(x:Int)(hx:Sm x)(w:World):Ret prog 272 #[.string (bs (Dx x))] w fun r w'=>r=.tuple #[vi x,.nilIface]∧Up w w':=by
 have h:=Ev hx
 refine Calls.mono (Tryz.strconv_Atoi (bs (Dx x)) x (by rw[Me];omega) h.2.2.2 w) ?_
 rintro e w' ⟨rfl,t,rfl⟩
 exact⟨_,rfl,rfl,Go.Lib.bytesWorld_below w _ _⟩
theorem uW(a b:List UInt8)(ha:46∉a)(hl:a.length+b.length≤1000)(w:World)(hG:GM w):Ret prog 270 #[.string (bs (a++46::([46]++b))),.string ⟨#[46,46]⟩] w fun r w'=>r=.tuple #[.string (bs a),.string (bs b),.bool true]∧Up w w':=by
 obtain⟨m,hm⟩:=hG
 refine Calls.mono (Tryz.strings_Cut (bs (a++46::([46]++b))) ⟨#[46,46]⟩ m w (by rw[Me];simp;omega) hm) ?_
 rintro e w' ⟨rfl,k,rfl⟩
 rw[gZ,show(⟨#[46,46]⟩:ByteArray).data.toList=46::[46]from rfl,zF 46 [46] a b ha]
 exact⟨_,rfl,rfl,⟨rfl,rfl,rfl,bi _,fun _ _=>rfl⟩⟩
theorem Hk(w:World):Ret prog 246 #[.bool true] w fun _ w'=>Up w w':=by
 have hW:=Up.refl w
 refine cT 6 func246 rfl ?_
 refine Ae (I rfl ?_)
 refine U (.fa (PEv.n1 rfl) (rfl)) ?_
 refine Ah ?_
 refine CW.f rfl ?_
 refine Aj ?_
 refine Db rfl ⟨_,rfl,?_⟩
 exact hW
theorem J8(x:Int)(hx:Sm x)(w:World):Ret prog 249 #[.string (bs (Dx x))] w fun r w'=>r=vi x∧Up w w':=by
 have hW:=Up.refl w
 refine cT 28 func249 rfl ?_
 refine Ae (Az (An (Aa (I rfl ?_))))
 refine A3 (eC (.o rfl) (EQ)) rfl (qJ x hx _) ?_
 rintro _ w1 ⟨rfl,uw1⟩
 have zw1:=uw1.size
 replace hW:=hW.up uw1
 refine I rfl (U (.xt rfl rfl) (U (.xt rfl rfl) (LW.A rfl (LW.A rfl (An (Aa (I rfl ?_)))))))
 refine U (.tr (Z8 underlying192 (.t rfl)) (rfl)) ?_
 refine I rfl ?_
 refine Ar ?_
 refine I rfl ?_
 refine Ar ?_
 refine U (.tr (PEv.geq (.t rfl) (.const _)) (bj (by have:=hx.1;omega))) ?_
 refine U (.pa rfl (fun hp=>wQ)) ?_
 refine I rfl ?_
 refine Ar ?_
 refine I rfl ?_
 refine Ar ?_
 refine U (.tr (PEv.leq (.t rfl) (.const _)) (bj (by have:=hx.2;omega))) ?_
 refine U (.pa rfl (fun hp=>wQ)) ?_
 refine I rfl ?_
 refine Ar ?_
 refine I rfl ?_
 refine Ar ?_
 refine A3 (eC (.o rfl) (wI)) rfl (aF (x) hx _) ?_
 rintro _ w2 ⟨rfl,uw2⟩
 have zw2:=uw2.size
 replace hW:=hW.up uw2
 refine Ar ?_
 refine I rfl ?_
 refine Ar ?_
 refine U (.tr (D8 (.t rfl) (.t rfl)) (S9 rfl)) ?_
 refine U (.pa rfl (fun hp=>wQ)) ?_
 refine A3 (eC (.o rfl) (Nw)) rfl (Hk _) ?_
 rintro _ w3 uw3
 have zw3:=uw3.size
 replace hW:=hW.up uw3
 refine An (Aa (I rfl (LW.A rfl (Ah (Am ?_)))))
 refine KW.q ?_
 exact⟨rfl,hW⟩
theorem Vr(l:List Int)(hne:l≠[])(hl:l.length≤10)(hs:∀x∈l,Sm x)(w:World)(hG:GM w):Ret prog 250 #[.string (bs (Kc l))] w fun r w'=>OwnS w' w.heap.size 3 1 A4 r l∧Up w w':=by
 obtain⟨w0,rfl,hS⟩:=W0 w
 refine cT 20 func250 rfl ?_
 refine Ae (Az (An (Aa (Az (An (Ak ?_))))))
 obtain⟨x0,l0,rfl⟩:∃x m,l=x::m:=by cases l with|nil=>exact absurd rfl hne|cons x m=>exact⟨x,m,rfl⟩
 replace hS:=hS.Lb (OwnS.nil _ 0 3 1 A4)
 change Wx.Sep _ _ _ [_]at hS
 refine Aa (I rfl ?_)
 refine A3 (eC (.ct rfl (.cons (.const _) .nil)) (mU)) rfl (Ps 44 (Dx x0) (l0.map Dx) _ (hG.up hS.Ch) (fun q hq=>by rw[←c9]at hq;obtain⟨x,hx,rfl⟩:=br.1 hq;exact Om (hs x hx) 44 cQ) (zJ (x0::l0) hl hs)) ?_
 rintro _ w1 ⟨Bp,rfl,hK7,zK7,uw1⟩
 have zw1:=uw1.size
 replace hS:=hS.add uw1 (A':=A5 Bp (Oo ((x0::l0).map Dx)) 9) (hK7) (fun i h=>by cases h;exact zK7)
 change Wx.Sep _ _ _ [_,_]at hS
 clear hK7
 rw[←c9,ef]
 obtain⟨l,el⟩:∃l,l=x0::l0:=⟨_,rfl⟩
 rw[←el]at hS hl hs⊢
 clear el
 refine U (.Cl lh (.t rfl)) ?_
 refine U (.move (.const _)) ?_
 refine Ah (Ai ?_)
 refine A7 (σ:=Nat×Go.Value) (fun s w=>(s.1≤l.length)∧(Wx.Sep no w0 w [Aw 3 1 A4 s.2 (l.take s.1),A5 Bp (Oo (l.map Dx)) 9])) (fun s=>[(9,.eq (vi (s.1:Int))),(3,.eq (s.2))]) ([(2,.eq _),(7,.eq _),(8,.eq _)]) (fun s=>l.length-s.1) (0,.slice none 0 0) ?_ tQ ?_
 ·exact⟨a_ _,hS⟩
 rintro⟨k,v⟩ w2 ⟨hk,hS⟩
 dsimp only at hk hS
 change Wx.Sep _ _ _ [_,_]at hS
 change CW _ _ _ _ _ _ _ ([(9,.eq (vi (k:Int))),(3,.eq (v))]++_) _
 refine Ae ?_
 refine U (.l2 rfl rfl) ?_
 refine An ?_
 refine CW.b rfl (fun h10=>?_) (fun h10=>?_)
 ·replace h10:=dQ h10
  refine Aj (Ab (Ak (Ai (Ak ?_))))
  have hkl:k<l.length:=co.1 h10
  obtain⟨x,hx⟩:=Af (xs:=l) (i:=k) hkl
  obtain⟨Bz,oz,az,hcz⟩:=Gj hS.b1 k (Dx x) (by rw[ff,hx];rfl)
  cases az
  refine Aa ?_
  refine U (.Ao lh md (.t rfl) (.t rfl) oQ rfl) ?_
  refine U (.lb rfl (hcz.nth (j:=0) rfl)) ?_
  refine LW.A rfl (Ah (Aa (I rfl (I rfl ?_))))
  refine A3 (eC (.o rfl) (Uo)) rfl (J8 (x) (hs x (ai hx)) _) ?_
  rintro _ w3 ⟨rfl,uw3⟩
  have zw3:=uw3.size
  replace hS:=hS.up uw3
  refine Ap (.buildSlice (xs:=[x]) (enc:=A4) (mk:=vi) ky k6 lf rfl cQ (fun _=>rfl) (fun _=>rfl) (.cu rfl) rfl) rfl ?_
  rintro _ w4 ⟨B16,cB16,rfl,NB16,yB16,xB16⟩
  have eB16:=NB16.at_
  have zB16:=NB16.size
  replace hS:=hS.up NB16.up
  have hE16:=xB16
  refine Ap (.Df (enc:=A4) (bytes:=8) (i:=Tryz.t3) ky kQ rfl rfl rfl rfl cQ (fun _=>rfl) Er (.t rfl) (.t rfl) (hS.own 0 rfl) (Ay hE16) (by simp[maxLen];omega) (by simp;omega)) rfl ?_
  intro v17 w5 Gw5
  have zw5:=Gw5.fr.size
  replace hS:=hS.Ft 0 rfl Gw5
  change Wx.Sep _ _ _ [_,_]at hS
  refine LW.A rfl (LW.nil (Al (Ab (Aa ?_))))
  refine U (.ic rfl oQ) ?_
  refine I rfl (LW.nil (Av ?_))
  exact⟨(k+1,v17),⟨by show k+1≤_;omega,by rw[Da hx];exact hS⟩,tQ,by show l.length-(k+1)<l.length-k;omega⟩
 replace h10:=dQ h10
 refine A9 (Ac (Ac (Aq (Ab (Ae (I rfl (LW.A rfl (Ah (Am ?_)))))))))
 refine KW.q ?_
 have hkl:k=l.length:=by have:¬k<l.length:=fun h=>h10 (co.2 h);omega
 subst hkl
 rw[b7]at hS
 exact⟨(hS.own 0 rfl).Gn (fun i h=>(hS.foot 0 rfl i h).resolve_left (fun h=>h)),hS.Ch⟩
theorem Vs(a b:Int)(ha:Sm a)(hb:Sm b)(w:World)(hG:GM w):Ret prog 247 #[.string (bs (K1 a b))] w fun r w'=>r=.tuple #[vi a,vi b]∧Up w w':=by
 have hW:=Up.refl w
 refine cT 19 func247 rfl ?_
 refine Ae (Az (Az (An (Aa (I rfl ?_)))))
 refine A3 (eC (.ct rfl (.cons (.const _) .nil)) (EP)) rfl (uW (Dx a) (Dx b) (Om ha 46 cQ) (by have:=(Ev ha).2.2.1;have:=(Ev hb).2.2.1;omega) _ hG) ?_
 rintro _ w1 ⟨rfl,uw1⟩
 have zw1:=uw1.size
 replace hW:=hW.up uw1
 refine I rfl (U (.xt rfl rfl) (U (.xt rfl rfl) (U (.xt rfl rfl) (LW.A rfl (LW.A rfl (LW.A rfl (An (Aa (I rfl ?_)))))))))
 refine A3 (eC (.o rfl) (Nw)) rfl (Hk _) ?_
 rintro _ w2 uw2
 have zw2:=uw2.size
 replace hW:=hW.up uw2
 refine An (Aa (I rfl ?_))
 refine A3 (eC (.o rfl) (Uo)) rfl (J8 a ha _) ?_
 rintro _ w3 ⟨rfl,uw3⟩
 have zw3:=uw3.size
 replace hW:=hW.up uw3
 refine I rfl ?_
 refine A3 (eC (.o rfl) (Uo)) rfl (J8 b hb _) ?_
 rintro _ w4 ⟨rfl,uw4⟩
 have zw4:=uw4.size
 replace hW:=hW.up uw4
 refine LW.A rfl (LW.A rfl (Ah (Am ?_)))
 refine F9 rfl rfl rfl ⟨_,rfl,?_⟩
 exact⟨rfl,hW⟩
theorem Pt(p:List UInt8)(qs:List (List UInt8))(adf:Option Addr)(cpf:Nat)(fx:List (List UInt8))(hc:∀q∈p::qs,32∉q)(hl:(Dj 32 p qs).length≤1000000)(hfl:fx.length≤(p::qs).length)(hfx:zL fx (p::qs))(hq:(p::qs).length≤1000)(w:World)(hG:GM w)(hE:Els w adf 1 zH fx):Ret prog 245 #[.string (bs (Dj 32 p qs)),.slice adf fx.length cpf] w fun r w'=>∃B,r=.slice (some ⟨B,0,none⟩) (p::qs).length (p::qs).length∧Blk w' B (Oo (p::qs)) 9∧w.heap.size≤B∧Up w w':=by
 obtain⟨w0,rfl,hS⟩:=W0 w
 refine cT 36 func245 rfl ?_
 refine Ae (Az (An (Aa (I rfl ?_))))
 refine A3 (eC (.ct rfl (.cons (.const _) .nil)) (mU)) rfl (Ps 32 p qs _ (hG.up hS.Ch) hc hl) ?_
 rintro _ w1 ⟨Bp,rfl,hK9,zK9,uw1⟩
 have zw1:=uw1.size
 replace hS:=hS.add uw1 (A':=A5 Bp (Oo (p::qs)) 9) (hK9) (fun i h=>by cases h;exact zK9)
 change Wx.Sep _ _ _ [_]at hS
 clear hK9
 refine LW.A rfl (An (Aa (I rfl ?_)))
 refine U (.Cl lh (.t rfl)) ?_
 refine I rfl ?_
 refine U (.Cl lh (.t rfl)) ?_
 refine U (.tr (PEv.geq (.t rfl) (.t rfl)) (bj oQ)) ?_
 refine A3 (eC (.o rfl) (Nw)) rfl (Hk _) ?_
 rintro _ w2 uw2
 have zw2:=uw2.size
 replace hS:=hS.up uw2
 refine An (Ae (I rfl ?_))
 refine U (.Cl lh (.t rfl)) ?_
 refine U (.move (.const _)) ?_
 refine Ah (Ai ?_)
 refine A7 (σ:=Nat) (fun s w=>(s≤fx.length)∧(Wx.Sep no w0 w [A5 Bp (Oo (p::qs)) 9])) (fun s=>[(18,.eq (vi (s:Int)))]) ([(4,.eq _),(5,.eq _),(16,.eq _),(17,.eq _)]) (fun s=>fx.length-s) 0 ?_ tQ ?_
 ·exact⟨a_ _,hS⟩
 rintro k w3 ⟨hk,hS⟩
 refine Ae ?_
 refine U (.l2 rfl rfl) ?_
 refine An ?_
 refine CW.b rfl (fun h19=>?_) (fun h19=>?_)
 ·replace h19:=dQ h19
  refine Aj (Ab (Ak (Ai (Ak ?_))))
  have hkl:k<fx.length:=co.1 h19
  obtain⟨x,hx⟩:=Af (xs:=fx) (i:=k) hkl
  obtain⟨Bx,ox,ax,hcx⟩:=(Els.up hE hS.Ch) k x hx
  refine Aa (I rfl ?_)
  refine U (.Ao lh md (j:=k) (.t rfl) (.t rfl) oQ ax) ?_
  refine U (.lb rfl (hcx.nth (j:=0) rfl)) ?_
  refine LW.A rfl (LW.A rfl (Ah ?_))
  cases hq6:decide (x=[])with
  |true=>
   refine Aa (I rfl ?_)
   refine U (.tr (D8 (.t rfl) (.const _)) (S9 (b:=[]) (b8 hq6))) ?_
   refine I rfl ?_
   refine Bi ?_
   refine Bi ?_
   refine Bi ?_
   refine Bi ?_
   refine Bi ?_
   refine Bi ?_
   refine U (.Ej (b:=false) (.t rfl) (fun hp=>absurd (show true=false from hp) cQ)) ?_
   refine A3 (eC (.o rfl) (Nw)) rfl (Hk _) ?_
   rintro _ w4 uw4
   have zw4:=uw4.size
   replace hS:=hS.up uw4
   refine LW.nil (Al (Ab (Aa ?_)))
   refine U (.ic rfl oQ) ?_
   refine I rfl (LW.nil (Av ?_))
   exact⟨k+1,⟨by omega,hS⟩,tQ,by first|omega|(dsimp only;omega)⟩
  |false=>
   have hxk:=(hfx k x hx).resolve_left (cr hq6)
   obtain⟨By,oy,ay,hcy⟩:=Gj hS.b0 k x hxk
   cases ay
   refine Aa (I rfl ?_)
   refine U (.fa (D8 (.t rfl) (.const _)) (Vp (b:=[]) (cr hq6))) ?_
   refine I rfl ?_
   refine Ar ?_
   refine I rfl ?_
   refine Ar ?_
   refine I rfl ?_
   refine Ar ?_
   refine U (.Ao lh md (j:=k) (.t rfl) (.t rfl) oQ rfl) ?_
   refine Ar ?_
   refine U (.lb rfl (hcy.nth (j:=0) rfl)) ?_
   refine Ar ?_
   refine I rfl ?_
   refine Ar ?_
   refine U (.tr (D8 (.t rfl) (.t rfl)) (S9 rfl)) ?_
   refine U (.po rfl (fun hp=>wQ)) ?_
   refine A3 (eC (.o rfl) (Nw)) rfl (Hk _) ?_
   rintro _ w5 uw5
   have zw5:=uw5.size
   replace hS:=hS.up uw5
   refine LW.nil (Al (Ab (Aa ?_)))
   refine U (.ic rfl oQ) ?_
   refine I rfl (LW.nil (Av ?_))
   exact⟨k+1,⟨by omega,hS⟩,tQ,by first|omega|(dsimp only;omega)⟩
 replace h19:=dQ h19
 refine A9 (Ac (Ac (Aq (Ab (Ae (I rfl (LW.A rfl (Ah (Am ?_)))))))))
 refine KW.q ?_
 exact⟨_,rfl,hS.blk 0 rfl,(hS.foot 0 rfl Bp rfl).resolve_left (fun h=>h),hS.Ch⟩
theorem qK(Bf:Nat)(w:World)(hG:GM w)(hb:∀i,Cv [A5 Bf (#[vi 0,vi 0,.slice none 0 0,.slice none 0 0]) 29] i→0<i)(hS0:Wx.Sep (Cv [A5 Bf (#[vi 0,vi 0,.slice none 0 0,.slice none 0 0]) 29]) w w [A5 Bf (#[vi 0,vi 0,.slice none 0 0,.slice none 0 0]) 29]):Ret prog 212 #[.pointer (some ⟨Bf,0,none⟩),.string (bs (Gp))] w fun _ w'=>Wx.Sep (Cv [A5 Bf (#[vi 0,vi 0,.slice none 0 0,.slice none 0 0]) 29]) w w' [A5 Bf (Ee (.slice none 0 0)) 29]:=by
 obtain⟨w0,rfl,_⟩:=W0 w
 have hS:=hS0
 refine cT 30 func212 rfl ?_
 refine Ae (I rfl ?_)
 refine Ap (.buildSlice (xs:=([Lx,[]]:List (List UInt8))) (enc:=zH) (mk:=fun l=>.string (bs l)) lh md m7 rfl cQ (fun _=>rfl) (fun _=>rfl) (.cons (.const _) (.cons (.const _) .nil)) rfl) rfl ?_
 rintro _ w1 ⟨B6,cB6,rfl,NB6,yB6,xB6⟩
 have eB6:=NB6.at_
 have zB6:=NB6.size
 replace hS:=hS.up NB6.up
 have hE6:=xB6
 refine A3 (eC (.u rfl rfl) (nB)) rfl (Pt Lx [K1 2 5] _ _ ([Lx,[]]:List (List UInt8)) (fun q hq=>by simp only[bm,d9,dw]at hq;rcases hq with rfl|rfl;(decide);exact eE ⟨by decide,by decide⟩ ⟨by decide,by decide⟩ 32 cQ cQ) (by have:=join_le 32 Lx [K1 2 5] 6 (fun q hq=>by simp only[bm,d9,dw]at hq;rcases hq with rfl|rfl;(decide);exact xB);have h2:([K1 2 5]:List (List UInt8)).length=1:=rfl;rw[h2]at this;omega) cQ (fun i f h=>match i,h with|0,h=>.inr h|1,h=>.inl (dc h).symm|_+2,h=>by cases h) cQ _ (hG.fr hS.fr (fun h=>absurd (hb 0 h) (il 0))) hE6) ?_
 rintro _ w2 ⟨Bw,rfl,hK,zK,uw2⟩
 have zw2:=uw2.size
 replace hE6:=hE6.up uw2
 replace hS:=hS.add uw2 (A':=A5 Bw (Oo [Lx,K1 2 5]) 9) (hK) (fun i h=>by cases h;exact zK)
 change Wx.Sep _ _ _ [_,_]at hS
 clear hK
 refine LW.A rfl (An (Aa (I rfl ?_)))
 refine U (.Cl lh (.t rfl)) ?_
 refine U (.tr (PEv.eql (.t rfl) (.const _)) (rfl)) ?_
 refine A3 (eC (.o rfl) (Nw)) rfl (Hk _) ?_
 rintro _ w3 uw3
 have zw3:=uw3.size
 replace hS:=hS.up uw3
 refine An ?_
 obtain⟨Bx,ox,ax,hcx⟩:=Gj hS.b1 1 (K1 2 5) rfl
 cases ax
 refine Aa (I rfl (I rfl (I rfl ?_)))
 refine U (.Ao lh md (j:=1) (.t rfl) (.const _) cQ rfl) ?_
 refine U (.lb rfl (hcx.nth (j:=0) rfl)) ?_
 refine A3 (eC (.o rfl) (wH)) rfl (Vs 2 5 ⟨by decide,by decide⟩ ⟨by decide,by decide⟩ _ (hG.fr hS.fr (fun h=>absurd (hb 0 h) (il 0)))) ?_
 rintro _ w4 ⟨rfl,uw4⟩
 have zw4:=uw4.size
 replace hS:=hS.up uw4
 refine I rfl (U (.xt rfl rfl) (U (.xt rfl rfl) ?_))
 refine U (.nc rfl) ?_
 refine U (.fB 0 rfl) ?_
 refine Ce (.store k6 (.t rfl) (.t rfl) rfl hS.b0 bQ) ?_
 intro w5 Nw5
 have zw5:=Nw5.size
 replace hS:=hS.Ec 0 rfl (show Set_ _ w5 _ (#[vi 2,vi 0,.slice none 0 0,.slice none 0 0]) _ from Nw5)
 change Wx.Sep _ _ _ [_,_]at hS
 refine U (.nc rfl) ?_
 refine U (.fB 1 rfl) ?_
 refine Ce (.store k6 (.t rfl) (.t rfl) rfl hS.b0 bQ) ?_
 intro w6 Nw6
 have zw6:=Nw6.size
 replace hS:=hS.Ec 0 rfl (show Set_ _ w6 _ (Ee (.slice none 0 0)) _ from Nw6)
 change Wx.Sep _ _ _ [_,_]at hS
 refine Ah (Aa (I rfl ?_))
 refine U (.nc rfl) ?_
 refine U (.lc rfl (hS.b0.agg)) ?_
 refine A3 (eC (.o rfl) (BE)) rfl (Ld none none 0 0 0 0 _) ?_
 rintro _ w7 ⟨rfl,uw7⟩
 have zw7:=uw7.size
 replace hS:=hS.up uw7
 refine A3 (eC (.o rfl) (Nw)) rfl (Hk _) ?_
 rintro _ w8 uw8
 have zw8:=uw8.size
 replace hS:=hS.up uw8
 refine LW.nil ?_
 refine Db rfl ⟨_,rfl,?_⟩
 exact hS.take 1
theorem lE(Bf:Nat)(v:Go.Value)(L:List Sk)(s:Sk)(hs:s.Sml)(hok:s.Ok 40)(hL:L.length<40)(w:World)(hG:GM w)(hb:∀i,Cv [A5 Bf (Ee (v)) 29,Aw 33 7 Sk.cells (v) (L),Dp ((L).flatMap (Ky 3))] i→0<i)(hS0:Wx.Sep (Cv [A5 Bf (Ee (v)) 29,Aw 33 7 Sk.cells (v) (L),Dp ((L).flatMap (Ky 3))]) w w [A5 Bf (Ee (v)) 29,Aw 33 7 Sk.cells (v) (L),Dp ((L).flatMap (Ky 3))]):Ret prog 213 #[.pointer (some ⟨Bf,0,none⟩),.string (bs (C8 L.length s))] w fun _ w'=>∃v' s',Sk.v s'=Sk.v s∧Wx.Sep (Cv [A5 Bf (Ee (v)) 29,Aw 33 7 Sk.cells (v) (L),Dp ((L).flatMap (Ky 3))]) w w' [A5 Bf (Ee (v')) 29,Aw 33 7 Sk.cells (v') (L++[s']),Dp ((L++[s']).flatMap (Ky 3))]:=by
 obtain⟨w0,rfl,_⟩:=W0 w
 obtain⟨ado,cpo,rfl,_⟩:=(hS0.own 1 rfl).sl (fun _=>rfl)
 have hS:=hS0
 have h0:¬Cv [A5 Bf (Ee (.slice ado L.length cpo)) 29,Aw 33 7 Sk.cells (.slice ado L.length cpo) (L),Dp ((L).flatMap (Ky 3))] 0:=fun h=>absurd (hb 0 h) (il 0)
 refine cT 91 func213 rfl ?_
 refine Ae (I rfl (I rfl ?_))
 refine U (.nc rfl) ?_
 refine U (.fB 2 rfl) ?_
 refine U (.lb rfl (hS.b0.Ad rfl)) ?_
 refine U (.Cl k_ (.t rfl)) ?_
 refine A3 (eC (.o rfl) (wI)) rfl (aF (L.length:Int) ⟨gp _,by omega⟩ _) ?_
 rintro _ w1 ⟨rfl,uw1⟩
 have zw1:=uw1.size
 replace hS:=hS.up uw1
 refine Ap (.buildSlice (xs:=([D9,Dx L.length,Qf,[],Jn,[],Lv,[],Lw,[]]:List (List UInt8))) (enc:=zH) (mk:=fun l=>.string (bs l)) lh md m7 rfl cQ (fun _=>rfl) (fun _=>rfl) (.cons (.const _) (.ct rfl (.cons (.const _) (.cons (.const _) (.cons (.const _) (.cons (.const _) (.cons (.const _) (.cons (.const _) (.cons (.const _) (.cons (.const _) .nil)))))))))) rfl) rfl ?_
 rintro _ w2 ⟨B13,cB13,rfl,NB13,yB13,xB13⟩
 have eB13:=NB13.at_
 have zB13:=NB13.size
 replace hS:=hS.up NB13.up
 have hE13:=xB13
 refine A3 (eC (.u rfl rfl) (nB)) rfl (Pt D9 (Hj L.length s) _ _ ([D9,Dx L.length,Qf,[],Jn,[],Lv,[],Lw,[]]:List (List UInt8)) (Xe oQ hs 32 (.inl rfl)) (b6 (Td oQ hs) cQ) (show 10≤_ by rw[qE];split<;>decide) (IW L.length s) (by rw[a8,Ew];split<;>decide) _ (hG.fr hS.fr h0) hE13) ?_
 rintro _ w3 ⟨Bw,rfl,hK,zK,uw3⟩
 have zw3:=uw3.size
 replace hE13:=hE13.up uw3
 replace hS:=hS.add uw3 (A':=A5 Bw (Oo (D9::Hj L.length s)) 9) (hK) (fun i h=>by cases h;exact zK)
 change Wx.Sep _ _ _ [_,_,_,_]at hS
 clear hK
 refine LW.A rfl (An ?_)
 refine Qv 11 9 10 8 5 23 ((⟨0,[],none,0,0,0,[],none,0,0,0⟩:Sk).cells) [.eq (.slice (some ⟨Bw,0,none⟩) (D9::Hj L.length s).length (D9::Hj L.length s).length),.eq (.pointer (some ⟨Bw,0+3*1,none⟩)),.eq (.string (bs (Dx s.rc))),.eq (vi s.rc),.eq (.slice (some ⟨Bw,0,none⟩) (D9::Hj L.length s).length (D9::Hj L.length s).length),.eq (.pointer (some ⟨Bw,0+5*1,none⟩)),.eq (.string (bs (Kc s.tl))),.pred fun v W=>OwnS W w3.drew.heap.size 3 1 A4 v s.tl,.pred fun v W=>∃ad22 cp22,v=.agg (Sk.cells (⟨s.rc,s.tl,ad22,cp22,0,0,[],none,0,-1,0⟩:Sk))∧OwnS W w3.drew.heap.size 3 1 A4 (.slice ad22 s.tl.length cp22) s.tl,.pred fun v _=>∃B,v=.pointer (some ⟨B,0,none⟩),.eq (undef)] [] l5 lr kQ rfl kQ kQ kQ kQ kQ kQ kQ rfl rfl ⟨_,_,_,rfl⟩ _ rfl ⟨_,_,_,rfl⟩ ⟨n_,n_,n_,n_,n_,n_,n_,PhT.pred fun _ _ _ h u=>OwnS.Dc h cQ u,PhT.pred fun _ _ _ h u=>let⟨ad,cp,e,ho⟩:=h;⟨ad,cp,e,ho.Dc cQ u⟩,PhT.pred fun _ _ _ h _=>h,n_,trivial⟩ rfl (fun v W h=>let⟨_,_,e,_⟩:=h;⟨_,e,rfl,Sk.one _⟩) (fun B W=>⟨B,rfl⟩) ?_ ?_
 ·intro W hU0
  have hU:=(Up.drew w3).trans hU0
  have hSW:=hS.up hU
  have zU0:=hU0.size
  obtain⟨B3_,o3_,a3_,hc3⟩:=Gj hSW.b3 3 (Dx s.rc) rfl
  cases a3_
  obtain⟨B5_,o5_,a5_,hc5⟩:=Gj hSW.b3 5 (Kc s.tl) rfl
  cases a5_
  refine aC (.inr ⟨rfl,TU.p (.mv rfl) rfl⟩) ?_
  refine aC (.inr ⟨rfl,TU.p (.Ao lh md (j:=3) (.t rfl) (.const _) (by rw[a8,Ew];split<;>decide) rfl) rfl⟩) ?_
  refine aC (.inr ⟨rfl,TU.p (.lb rfl (hc3.nth (j:=0) rfl)) rfl⟩) ?_
  refine aC (.inr ⟨rfl,TU.c (eC (.o rfl) (Uo)) (J8 s.rc hs.rc W) sQ⟩) ?_
  refine aC (.inr ⟨rfl,TU.p (.mv rfl) rfl⟩) ?_
  refine aC (.inr ⟨rfl,TU.p (.Ao lh md (j:=5) (.t rfl) (.const _) (by rw[a8,Ew];split<;>decide) rfl) rfl⟩) ?_
  refine aC (.inr ⟨rfl,TU.p (.lb rfl (hc5.nth (j:=0) rfl)) rfl⟩) ?_
  refine aC (.inr ⟨rfl,TU.c (eC (.o rfl) (wJ)) (Vr s.tl hs.tn.1 (by have:=hs.tn.2;omega) hs.tl W (hG.fr hSW.fr h0)) (by rintro v W1 ⟨ho,u⟩;exact⟨u,ho.mono zU0⟩)⟩) ?_
  refine aC (.inr ⟨rfl,TU.open (d:=22) rfl fun v hv=>by obtain⟨ad,cp,rfl,_⟩:=OwnS.sl hv (fun _=>rfl);exact TU.p (.build (cs:=Sk.cells ⟨s.rc,s.tl,ad,cp,0,0,[],none,0,-1,0⟩) underlying33 l5 Js (.ct rfl (.ct rfl (.cons (.const _) .nil))) rfl) ⟨ad,cp,rfl,hv⟩⟩) ?_
  refine aC (.inl (.inl rfl)) ?_
  refine aC (.inl (.inr rfl)) ?_
  exact allL.nil
 intro w4 B5 g hU0 zB5_ hB5 hg
 have hU:=(Up.drew w3).trans hU0
 have zw4:=hU.size
 have zdr:w3.drew.heap.size=w3.heap.size:=rfl
 obtain⟨ad22,cp22,e23,ho22⟩:∃ad22 cp22,g 23=.agg (Sk.cells (⟨s.rc,s.tl,ad22,cp22,0,0,[],none,0,-1,0⟩:Sk))∧OwnS w4 w3.drew.heap.size 3 1 A4 (.slice ad22 s.tl.length cp22) s.tl:=hg 8 _ 23 cQ rfl rfl
 rw[e23]at hB5
 replace hB5:Blk w4 B5 (Sk.cells (⟨s.rc,s.tl,ad22,cp22,0,0,[],none,0,-1,0⟩:Sk)) 33:=hB5
 clear e23 hg
 replace hS:=(hS.up (Up.drew _)).IY hU0 (A:=A5 B5 (Sk.cells (⟨s.rc,s.tl,ad22,cp22,0,0,[],none,0,-1,0⟩:Sk)) 33) (B:=Aw 3 1 A4 (.slice ad22 s.tl.length cp22) s.tl) hB5 (ho22.mono (a_ _)) (fun i(e:i=B5)=>by omega) (fun i h=>ho22.base i h) (fun i(e:i=B5)h2=>uU ho22 hB5 cQ (e▸h2))
 clear ho22 hB5
 change Wx.Sep _ _ _ [_,_,_,_,_,_]at hS
 refine An ?_
 obtain⟨B7_,o7_,a7_,hc7⟩:=Gj hS.b3 7 (K1 s.mn s.mx) rfl
 cases a7_
 refine Aa (I rfl ?_)
 refine U (.Ao lh md (j:=7) (.t rfl) (.const _) (by rw[a8,Ew];split<;>decide) rfl) ?_
 refine U (.lb rfl (hc7.nth (j:=0) rfl)) ?_
 refine A3 (eC (.o rfl) (wH)) rfl (Vs s.mn s.mx hs.mn hs.mx _ (hG.fr hS.fr h0)) ?_
 rintro _ w5 ⟨rfl,uw5⟩
 have zw5:=uw5.size
 replace hS:=hS.up uw5
 refine I rfl (U (.xt rfl rfl) (U (.xt rfl rfl) ?_))
 refine U (.fB 2 rfl) ?_
 refine Ce (.store k6 (.t rfl) (.t rfl) rfl hS.b4 bQ) ?_
 intro w6 Nw6
 have zw6:=Nw6.size
 replace hS:=hS.Ec 4 rfl (show Set_ _ w6 _ (((⟨s.rc,s.tl,ad22,cp22,s.mn,0,[],none,0,-1,0⟩:Sk)).cells) _ from Nw6)
 change Wx.Sep _ _ _ [_,_,_,_,_,_]at hS
 refine U (.fB 3 rfl) ?_
 refine Ce (.store k6 (.t rfl) (.t rfl) rfl hS.b4 bQ) ?_
 intro w7 Nw7
 have zw7:=Nw7.size
 replace hS:=hS.Ec 4 rfl (show Set_ _ w7 _ (((⟨s.rc,s.tl,ad22,cp22,s.mn,s.mx,[],none,0,-1,0⟩:Sk)).cells) _ from Nw7)
 change Wx.Sep _ _ _ [_,_,_,_,_,_]at hS
 refine Ah ?_
 refine Ep (fun a1 W=>Ag 91 [] ([(0,.eq (.pointer (some ⟨Bf,0,none⟩))),(1,.eq (.string (bs (C8 L.length s)))),(5,.eq (.pointer (some ⟨B5,0,none⟩))),(4,.eq (.slice (some ⟨Bw,0,none⟩) (D9::Hj L.length s).length (D9::Hj L.length s).length))]) a1 W∧∃adn cpn,Wx.Sep (Cv [A5 Bf (Ee (.slice ado L.length cpo)) 29,Aw 33 7 Sk.cells (.slice ado L.length cpo) (L),Dp ((L).flatMap (Ky 3))]) w0 W [A5 Bf (Ee (.slice ado L.length cpo)) 29,Aw 33 7 Sk.cells (.slice ado L.length cpo) L,Dp (L.flatMap (Ky 3)),A5 Bw (Oo (D9::Hj L.length s)) 9,A5 B5 (Sk.cells (⟨s.rc,s.tl,ad22,cp22,s.mn,s.mx,s.nx,adn,cpn,-1,0⟩:Sk)) 33,Aw 3 1 A4 (.slice ad22 s.tl.length cp22) s.tl,Aw 3 1 A4 (.slice adn s.nx.length cpn) s.nx]) ?_ ?_
 ·skip
  refine Ak ?_
  cases hq3:decide (s.nx=[])with
  |true=>
   have hnx:=b8 hq3
   obtain⟨B9_,o9_,a9_,hc9⟩:=Gj hS.b3 9 (Kc s.nx) rfl;cases a9_
   have hSn:=hS.Lb (OwnS.nil (α:=Int) _ 0 3 1 A4)
   refine Aa (I rfl ?_)
   refine U (.Ao lh md (j:=9) (.t rfl) (.const _) (by rw[a8,Ew];split<;>decide) rfl) ?_
   refine U (.lb rfl (hc9.nth (j:=0) rfl)) ?_
   refine U (.fa (PEv.bO (.t rfl) (.const _)) (bh (! ·) (S9 (b:=[45]) (by rw[hnx];rfl)))) ?_
   refine Ah ?_
   refine CW.f rfl ?_
   refine Aj ?_
   exact fun a ha=>⟨ha.sub tQ,(by first|exact⟨_,_,hS⟩|exact⟨none,0,by rw[hnx];exact hSn⟩)⟩
  |false=>
   have hnx:=cr hq3
   obtain⟨B9_,o9_,a9_,hc9⟩:=Gj hS.b3 9 (Kc s.nx) rfl;cases a9_
   refine Aa (I rfl ?_)
   refine U (.Ao lh md (j:=9) (.t rfl) (.const _) (by rw[a8,Ew];split<;>decide) rfl) ?_
   refine U (.lb rfl (hc9.nth (j:=0) rfl)) ?_
   refine U (.tr (PEv.bO (.t rfl) (.const _)) (bh (! ·) (Vp (b:=[45]) (FQ hs.nx hnx)))) ?_
   refine Ah ?_
   refine CW.v rfl ?_
   refine Aa (I rfl ?_)
   refine U (.Ao lh md (j:=9) (.t rfl) (.const _) (by rw[a8,Ew];split<;>decide) rfl) ?_
   refine U (.lb rfl (hc9.nth (j:=0) rfl)) ?_
   refine A3 (eC (.o rfl) (wJ)) rfl (Vr s.nx hnx (by have:=hs.nn;omega) hs.nx _ (hG.fr hS.fr h0)) ?_
   rintro v40 w8 ⟨hO40,uw8⟩
   have zw8:=uw8.size
   replace hS:=hS.add uw8 (A':=Aw 3 1 A4 v40 s.nx) (hO40.mono (a_ _)) (fun i h=>hO40.base i h)
   change Wx.Sep _ _ _ [_,_,_,_,_,_,_]at hS
   clear hO40
   obtain⟨adn,cpn,rfl,_⟩:=(hS.own 6 rfl).sl (fun _=>rfl)
   refine U (.fB 4 rfl) ?_
   refine Ce (.store mr (.t rfl) (.t rfl) rfl hS.b4 bQ) ?_
   intro w9 Nw9
   have zw9:=Nw9.size
   replace hS:=hS.Ec 4 rfl (show Set_ _ w9 _ (((⟨s.rc,s.tl,ad22,cp22,s.mn,s.mx,s.nx,adn,cpn,-1,0⟩:Sk)).cells) _ from Nw9)
   change Wx.Sep _ _ _ [_,_,_,_,_,_,_]at hS
   refine LW.nil ?_
   exact fun a ha=>⟨ha.sub tQ,(by first|exact⟨_,_,hS⟩|exact⟨none,0,by rw[hnx];exact hSn⟩)⟩
 rintro a1 w10 ⟨ha,⟨adn,cpn,hS⟩⟩
 revert a1
 show CW none _ _ _ _ _ _ _ _
 refine Ep (fun a1 W=>Ag 91 [] ([(0,.eq (.pointer (some ⟨Bf,0,none⟩))),(1,.eq (.string (bs (C8 L.length s)))),(5,.eq (.pointer (some ⟨B5,0,none⟩)))]) a1 W∧Wx.Sep (Cv [A5 Bf (Ee (.slice ado L.length cpo)) 29,Aw 33 7 Sk.cells (.slice ado L.length cpo) (L),Dp ((L).flatMap (Ky 3))]) w0 W [A5 Bf (Ee (.slice ado L.length cpo)) 29,Aw 33 7 Sk.cells (.slice ado L.length cpo) L,Dp (L.flatMap (Ky 3)),A5 B5 (Sk.cells (⟨s.rc,s.tl,ad22,cp22,s.mn,s.mx,s.nx,adn,cpn,s.bk,s.lm⟩:Sk)) 33,Aw 3 1 A4 (.slice ad22 s.tl.length cp22) s.tl,Aw 3 1 A4 (.slice adn s.nx.length cpn) s.nx]) ?_ ?_
 ·skip
  refine Ak ?_
  cases hq5:decide (0≤s.bk)with
  |true=>
   have hbk:=b8 hq5
   have hbs:=hs.bk.resolve_left (fun h=>by omega)
   refine Aa (I rfl ?_)
   refine U (.Cl lh (.t rfl)) ?_
   refine U (.tr (PEv.gtr (.t rfl) (.const _)) (bj (by rw[a8,Ew,bg hbk];decide))) ?_
   refine Ah ?_
   refine CW.v rfl ?_
   refine Ae (I rfl ?_)
   refine Ap (.buildSlice (xs:=([[],[],[],[],[],[],[],[],[],[],No,[],Tc,[]]:List (List UInt8))) (enc:=zH) (mk:=fun l=>.string (bs l)) lh md m7 rfl cQ (fun _=>rfl) (fun _=>rfl) (.cons (.const _) (.cons (.const _) (.cons (.const _) (.cons (.const _) (.cons (.const _) (.cons (.const _) (.cons (.const _) (.cons (.const _) (.cons (.const _) (.cons (.const _) (.cons (.const _) (.cons (.const _) (.cons (.const _) (.cons (.const _) .nil)))))))))))))) rfl) rfl ?_
   rintro _ w11 ⟨B46,cB46,rfl,NB46,yB46,xB46⟩
   have eB46:=NB46.at_
   have zB46:=NB46.size
   replace hS:=hS.up NB46.up
   have hE46:=xB46
   refine A3 (eC (.u rfl rfl) (nB)) rfl (Pt D9 (Hj L.length s) _ _ ([[],[],[],[],[],[],[],[],[],[],No,[],Tc,[]]:List (List UInt8)) (Xe oQ hs 32 (.inl rfl)) (b6 (Td oQ hs) cQ) (show 14≤_ by rw[qE,bg hbk];decide) (IX L.length s hbk) (by rw[a8,Ew];split<;>decide) _ (hG.fr hS.fr h0) hE46) ?_
   rintro _ w12 ⟨Bv,rfl,hK,zK,uw12⟩
   have zw12:=uw12.size
   replace hE46:=hE46.up uw12
   replace hS:=hS.add uw12 (A':=A5 Bv (Oo (D9::Hj L.length s)) 9) (hK) (fun i h=>by cases h;exact zK)
   change Wx.Sep _ _ _ [_,_,_,_,_,_,_,_]at hS
   clear hK
   refine LW.A rfl (An (Aa (I rfl ?_)))
   refine U (.Cl lh (.t rfl)) ?_
   refine U (.tr (PEv.eql (.t rfl) (.const _)) (by rw[a8,Ew,bg hbk];rfl)) ?_
   refine A3 (eC (.o rfl) (Nw)) rfl (Hk _) ?_
   rintro _ w13 uw13
   have zw13:=uw13.size
   replace hS:=hS.up uw13
   refine Ah ?_
   obtain⟨B11_,o11_,a11_,hc11⟩:=Gj (hS.blk 7 rfl) 11 (Dx s.bk) (by unfold Hj;rw[bg hbk];rfl)
   cases a11_
   obtain⟨B13_,o13_,a13_,hc13⟩:=Gj (hS.blk 7 rfl) 13 (Dx s.lm) (by unfold Hj;rw[bg hbk];rfl)
   cases a13_
   refine Cz 9 kQ kQ kQ kQ kQ rfl rfl ?_
   refine J (.mv rfl) ?_
   refine J (.Ao lh md (j:=11) (.t rfl) (.const _) (by rw[a8,Ew];rw[bg hbk];decide) rfl) ?_
   refine J (.lb rfl (hc11.nth (j:=0) rfl)) ?_
   refine HW.c (fun a w _ ha=>Bh (.cu rfl) (Uo) a ha) rfl rfl (fun w hu=>J8 s.bk hbs.1 w) ?_
   refine J (.mv rfl) ?_
   refine J (.Ao lh md (j:=13) (.t rfl) (.const _) (by rw[a8,Ew];rw[bg hbk];decide) rfl) ?_
   refine J (.lb rfl (hc13.nth (j:=0) rfl)) ?_
   refine HW.c (fun a w _ ha=>Bh (.cu rfl) (Uo) a ha) rfl rfl (fun w hu=>J8 s.lm hbs.2 w) ?_
   refine J (.fB 5 rfl) ?_
   refine HW.nil ?_
   intro w14 uw14
   have zw14:=uw14.size
   replace hS:=hS.up uw14
   refine Ce (.store k6 (.t rfl) (.t rfl) rfl hS.b4 bQ) ?_
   intro w15 Nw15
   have zw15:=Nw15.size
   replace hS:=hS.Ec 4 rfl (show Set_ _ w15 _ (((⟨s.rc,s.tl,ad22,cp22,s.mn,s.mx,s.nx,adn,cpn,s.bk,0⟩:Sk)).cells) _ from Nw15)
   change Wx.Sep _ _ _ [_,_,_,_,_,_,_,_]at hS
   refine U (.fB 6 rfl) ?_
   refine Ce (.store k6 (.t rfl) (.t rfl) rfl hS.b4 bQ) ?_
   intro w16 Nw16
   have zw16:=Nw16.size
   replace hS:=hS.Ec 4 rfl (show Set_ _ w16 _ (((⟨s.rc,s.tl,ad22,cp22,s.mn,s.mx,s.nx,adn,cpn,s.bk,s.lm⟩:Sk)).cells) _ from Nw16)
   change Wx.Sep _ _ _ [_,_,_,_,_,_,_,_]at hS
   refine LW.nil ?_
   exact fun a ha=>⟨ha.sub tQ,(by first|exact hS.sub (.cons_cons _ (.cons_cons _ (.cons_cons _ (.cons _ (.cons_cons _ (.cons_cons _ (.cons_cons _ (.cons _ .slnil))))))))|(rw[e1,e2];exact hS.sub (.cons_cons _ (.cons_cons _ (.cons_cons _ (.cons _ (.cons_cons _ (.cons_cons _ (.cons_cons _ .slnil)))))))))⟩
  |false=>
   have hbk:=cr hq5
   obtain⟨e1,e2⟩:=hs.bk.resolve_right (fun h=>by have:=h.1.1;omega)
   refine Aa (I rfl ?_)
   refine U (.Cl lh (.t rfl)) ?_
   refine U (.fa (PEv.gtr (.t rfl) (.const _)) (bx (by rw[a8,Ew,aq hbk];decide))) ?_
   refine Ah ?_
   refine CW.f rfl ?_
   refine Aj ?_
   exact fun a ha=>⟨ha.sub tQ,(by first|exact hS.sub (.cons_cons _ (.cons_cons _ (.cons_cons _ (.cons _ (.cons_cons _ (.cons_cons _ (.cons_cons _ (.cons _ .slnil))))))))|(rw[e1,e2];exact hS.sub (.cons_cons _ (.cons_cons _ (.cons_cons _ (.cons _ (.cons_cons _ (.cons_cons _ (.cons_cons _ .slnil)))))))))⟩
 rintro a1 w17 ⟨ha,hS⟩
 revert a1
 show CW none _ _ _ _ _ _ _ _
 refine Ae ?_
 refine U (.lc rfl (hS.b3.agg)) ?_
 refine A3 (eC (.ct rfl (.cons (.const _) .nil)) (BF)) rfl (Mr (⟨s.rc,s.tl,ad22,cp22,s.mn,s.mx,s.nx,adn,cpn,s.bk,s.lm⟩:Sk) 40 _ cQ ⟨hok.rc,hok.mn,hok.bk,hok.tl,hok.ta,hok.nl,hok.nx⟩ (Cg (hS.own 4 rfl) (fun _=>rfl)) (Cg (hS.own 5 rfl) (fun _=>rfl))) ?_
 rintro _ w18 ⟨rfl,uw18⟩
 have zw18:=uw18.size
 replace hS:=hS.up uw18
 refine I rfl ?_
 refine Ar ?_
 refine I rfl ?_
 refine Ar ?_
 refine U (.nc rfl) ?_
 refine Ar ?_
 refine U (.fB 2 rfl) ?_
 refine Ar ?_
 refine U (.lb rfl (hS.b0.Ad rfl)) ?_
 refine Ar ?_
 refine U (.Cl k_ (.t rfl)) ?_
 refine Ar ?_
 refine U (.tr (PEv.lss (.t rfl) (.const _)) (bj oQ)) ?_
 refine U (.pa rfl (fun hp=>wQ)) ?_
 refine I rfl ?_
 refine Ar ?_
 refine I rfl ?_
 refine Ar ?_
 refine U (.nc rfl) ?_
 refine Ar ?_
 refine U (.fB 3 rfl) ?_
 refine Ar ?_
 refine U (.lb rfl (hS.b0.Ad rfl)) ?_
 refine Ar ?_
 refine U (.Cl ly (.t rfl)) ?_
 refine Ar ?_
 refine U (.tr (PEv.eql (.t rfl) (.const _)) (rfl)) ?_
 refine U (.pa rfl (fun hp=>wQ)) ?_
 refine A3 (eC (.o rfl) (Nw)) rfl (Hk _) ?_
 rintro _ w19 uw19
 have zw19:=uw19.size
 replace hS:=hS.up uw19
 refine Ah ?_
 refine Iy 7 (fun v w''=>Wx.Sep (Cv [A5 Bf (Ee (.slice ado L.length cpo)) 29,Aw 33 7 Sk.cells (.slice ado L.length cpo) (L),Dp ((L).flatMap (Ky 3))]) w0 w'' [A5 Bf (Ee (.slice ado L.length cpo)) 29,Aw 33 7 Sk.cells v (L++[(⟨s.rc,s.tl,ad22,cp22,s.mn,s.mx,s.nx,adn,cpn,s.bk,s.lm⟩:Sk)]),Dp (L.flatMap (Ky 3)),A5 B5 (Sk.cells (⟨s.rc,s.tl,ad22,cp22,s.mn,s.mx,s.nx,adn,cpn,s.bk,s.lm⟩:Sk)) 33,Aw 3 1 A4 (.slice ad22 s.tl.length cp22) s.tl,Aw 3 1 A4 (.slice adn s.nx.length cpn) s.nx]) kQ kQ kQ kQ kQ kQ rfl rfl rfl rfl rfl ?_
 refine J (.mv rfl) ?_
 refine J (.mv rfl) ?_
 refine J (.nc rfl) ?_
 refine J (.fB 2 rfl) ?_
 refine J (.lb rfl (hS.b0.Ad rfl)) ?_
 refine J (.lc rfl (hS.b3.agg)) ?_
 refine HW.r (p:=fun v w=>Sl w v 7 (Sk.cells) [(⟨s.rc,s.tl,ad22,cp22,s.mn,s.mx,s.nx,adn,cpn,s.bk,s.lm⟩:Sk)]) (fun _ _ _ h u=>Sl.up h u) rfl (fun w hu a ha=>let⟨v,w',h1,h2⟩:=REv.buildSlice (xs:=[(⟨s.rc,s.tl,ad22,cp22,s.mn,s.mx,s.nx,adn,cpn,s.bk,s.lm⟩:Sk)]) (enc:=Sk.cells) (mk:=fun s=>.agg s.cells) k_ lr l5 rfl bQ (fun _=>rfl) (fun _=>rfl) (.cu rfl) rfl a ha;⟨v,w',h1,h2.q⟩) rfl ?_
 refine HW.nil ⟨fun a w' hu ha=>?_,?_⟩
 ·exact(REv.open (d:=87) (p:=fun v w=>Sl w v 7 Sk.cells [(⟨s.rc,s.tl,ad22,cp22,s.mn,s.mx,s.nx,adn,cpn,s.bk,s.lm⟩:Sk)]) rfl fun vv hv=>(REv.Df (enc:=Sk.cells) (bytes:=88) (i:=Tryz.t33) k_ kQ rfl rfl rfl rfl cQ (fun _=>rfl) Sk.one (.t rfl) (.t rfl) ((hS.up hu).own 1 rfl) hv (by simp[maxLen];omega) (by simp;omega)).mono fun v' w'' h=>(hS.up hu).Ft 1 rfl h).y ha
 intro v88 w20 hS
 obtain⟨ad88,cp88,rfl,_⟩:=(hS.own 1 rfl).sl (fun _=>rfl)
 refine U (.nc rfl) ?_
 refine U (.fB 2 rfl) ?_
 refine Ce (.store sizeOf26 (.t rfl) (.t rfl) (hS.own 1 rfl).one hS.b0 bQ) ?_
 intro w21 Nw21
 have zw21:=Nw21.size
 replace hS:=hS.Ec 0 rfl (show Set_ _ w21 _ (Ee (.slice ad88 (L++[(⟨s.rc,s.tl,ad22,cp22,s.mn,s.mx,s.nx,adn,cpn,s.bk,s.lm⟩:Sk)]).length cp88)) _ from Nw21)
 change Wx.Sep _ _ _ [_,_,_,_,_,_]at hS
 refine LW.nil ?_
 refine Db rfl ⟨_,rfl,?_⟩
 refine⟨.slice ad88 (L++[(⟨s.rc,s.tl,ad22,cp22,s.mn,s.mx,s.nx,adn,cpn,s.bk,s.lm⟩:Sk)]).length cp88,(⟨s.rc,s.tl,ad22,cp22,s.mn,s.mx,s.nx,adn,cpn,s.bk,s.lm⟩:Sk),rfl,?_⟩
 exact Q8 (Bs:=[_,_]) (s:=(⟨s.rc,s.tl,ad22,cp22,s.mn,s.mx,s.nx,adn,cpn,s.bk,s.lm⟩:Sk)) (hS.sub (.cons_cons _ (.cons_cons _ (.cons_cons _ (.cons _ (.cons_cons _ (.cons_cons _ .slnil)))))))
theorem Xg(a b:List UInt8)(w:World):Ret prog 152 #[.string (bs a),.string (bs b)] w fun r w'=>r=.bool (Go.Lib.hasPrefix a b)∧Up w w':=by
 refine Calls.mono (Tryz.strings_HasPrefix (bs a) (bs b) w) ?_
 rintro e w' ⟨rfl,rfl⟩
 exact⟨_,rfl,rfl,Up.refl _⟩
theorem Tf(B:Nat)(w:World):zC prog 211 #[.pointer (some ⟨B,0,none⟩)] w fun w'=>Up w w':=by
 have hW:=Up.refl w
 refine Xd (n:=5) (args:=[.pointer (some ⟨B,0,none⟩)]) func211 rfl rfl rfl ?_
 refine DW.seq (m:=9) (DW.region ?_)
 refine zE (fun a=>Z2) rfl rfl rfl ?_
 refine DL.p (PEv.assign (.t rfl)) rfl rfl rfl ?_
 refine DL.nil ?_
 refine Ab (Ae (I rfl ?_))
 refine U (.uS underlying20 (.t rfl)) ?_
 refine Ah ?_
 refine CW.f rfl ?_
 refine Aj ?_
 refine Db rfl ⟨_,rfl,?_⟩
 exact hW
theorem eF(Bf:Nat)(w:World)(hG:GM w)(hb:∀i,Cv [A5 Bf (#[vi 0,vi 0,.slice none 0 0,.slice none 0 0]) 29] i→0<i)(hS0:Wx.Sep (Cv [A5 Bf (#[vi 0,vi 0,.slice none 0 0,.slice none 0 0]) 29]) w w [A5 Bf (#[vi 0,vi 0,.slice none 0 0,.slice none 0 0]) 29]):Ret prog 153 #[.pointer (some ⟨Bf,0,none⟩),.string (bs (Gp)),.bool true] w fun r w'=>r=.bool true∧Wx.Sep (Cv [A5 Bf (#[vi 0,vi 0,.slice none 0 0,.slice none 0 0]) 29]) w w' [A5 Bf (Ee (.slice none 0 0)) 29]:=by
 obtain⟨w0,rfl,_⟩:=W0 w
 have hS:=hS0
 have h0:¬Cv [A5 Bf (#[vi 0,vi 0,.slice none 0 0,.slice none 0 0]) 29] 0:=fun h=>absurd (hb 0 h) (il 0)
 refine Ol (n:=22) (m:=9) func153 rfl rfl rfl ?_
 refine Ae ?_
 refine Ap (.Gc mw rfl) rfl ?_
 rintro _ w1 ⟨B6,rfl,NB6⟩
 have eB6:=NB6.at_
 have zB6:=NB6.size
 replace hS:=hS.Cf NB6
 change Wx.Sep _ _ _ [_,_]at hS
 refine An (Aa ?_)
 refine U (.makeFunc (.cu rfl)) ?_
 refine Vo (.t rfl) ?_
 refine An (Ai (Ae (I rfl (LW.A rfl (Ah ?_)))))
 refine CW.v rfl ?_
 refine Aa (I rfl (I rfl ?_))
 replace hS:=hS.Ef 0 rfl
 change Wx.Sep _ _ _ [_,_]at hS
 have hq_:=(show Wx.Sep _ _ _ ([_]++[_])from hS)
 refine A3 (eC (.u rfl rfl) (DS)) rfl (qK Bf _ (hG.fr hS.fr h0) hb hq_.right.self) ?_
 rintro _ w2 uw2
 replace hS:=hq_.frame uw2
 change Wx.Sep _ _ _ [_,_]at hS
 have zw2:=uw2.fr.size
 clear hq_
 refine LW.nil (Al (Ab (Ae ?_)))
 refine Ce (.store l9 (.t rfl) (.const _) rfl hS.b0 bQ) ?_
 intro w3 Nw3
 have zw3:=Nw3.size
 replace hS:=hS.Ec 0 rfl Nw3
 change Wx.Sep _ _ _ [_,_]at hS
 refine Ah (Am ?_)
 refine gY (f:=211) (args:=#[.pointer (some ⟨B6,0,none⟩)]) (by first|exact(wC _ _)|simp[invoke]) rfl (Tf B6 _) (fun w9 u9=>?_)
 replace hS:=hS.up u9
 refine Qx rfl rfl isAgg4 (hS.b0.Ad rfl) ⟨_,rfl,?_⟩
 exact⟨rfl,hS.sub (.cons _ (List.Sublist.refl _))⟩
theorem eG(Bf:Nat)(v:Go.Value)(L:List Sk)(s:Sk)(hs:s.Sml)(hok:s.Ok 40)(hL:L.length<40)(w:World)(hG:GM w)(hb:∀i,Cv [A5 Bf (Ee (v)) 29,Aw 33 7 Sk.cells (v) (L),Dp ((L).flatMap (Ky 3))] i→0<i)(hS0:Wx.Sep (Cv [A5 Bf (Ee (v)) 29,Aw 33 7 Sk.cells (v) (L),Dp ((L).flatMap (Ky 3))]) w w [A5 Bf (Ee (v)) 29,Aw 33 7 Sk.cells (v) (L),Dp ((L).flatMap (Ky 3))]):Ret prog 153 #[.pointer (some ⟨Bf,0,none⟩),.string (bs (C8 L.length s)),.bool false] w fun r w'=>r=.bool true∧∃v' s',Sk.v s'=Sk.v s∧Wx.Sep (Cv [A5 Bf (Ee (v)) 29,Aw 33 7 Sk.cells (v) (L),Dp ((L).flatMap (Ky 3))]) w w' [A5 Bf (Ee (v')) 29,Aw 33 7 Sk.cells (v') (L++[s']),Dp ((L++[s']).flatMap (Ky 3))]:=by
 obtain⟨w0,rfl,_⟩:=W0 w
 have hS:=hS0
 have h0:¬Cv [A5 Bf (Ee (v)) 29,Aw 33 7 Sk.cells (v) (L),Dp ((L).flatMap (Ky 3))] 0:=fun h=>absurd (hb 0 h) (il 0)
 refine Ol (n:=22) (m:=9) func153 rfl rfl rfl ?_
 refine Ae ?_
 refine Ap (.Gc mw rfl) rfl ?_
 rintro _ w1 ⟨B6,rfl,NB6⟩
 have eB6:=NB6.at_
 have zB6:=NB6.size
 replace hS:=hS.Cf NB6
 change Wx.Sep _ _ _ [_,_,_,_]at hS
 refine An (Aa ?_)
 refine U (.makeFunc (.cu rfl)) ?_
 refine Vo (.t rfl) ?_
 refine An (Ai (Ae (I rfl (LW.A rfl (Ah ?_)))))
 refine CW.f rfl ?_
 refine Ae (I rfl ?_)
 refine A3 (eC (.ct rfl (.cons (.const _) .nil)) (mV)) rfl (Xg (C8 L.length s) D9 _) ?_
 rintro _ w2 ⟨rfl,uw2⟩
 have zw2:=uw2.size
 replace hS:=hS.up uw2
 rw[zP]
 refine LW.A rfl (Ah ?_)
 refine CW.v rfl ?_
 refine Aa (I rfl (I rfl ?_))
 replace hS:=hS.Ef 0 rfl
 change Wx.Sep _ _ _ [_,_,_,_]at hS
 replace hS:=hS.Ef 0 rfl
 change Wx.Sep _ _ _ [_,_,_,_]at hS
 replace hS:=hS.Ef 0 rfl
 change Wx.Sep _ _ _ [_,_,_,_]at hS
 have hq_:=(show Wx.Sep _ _ _ ([_]++[_,_,_])from hS)
 refine A3 (eC (.u rfl rfl) (DT)) rfl (lE Bf v L s hs hok hL _ (hG.fr hS.fr h0) hb hq_.right.self) ?_
 rintro _ w3 ⟨v2,s2,hv2,uw3⟩
 replace hS:=hq_.frame uw3
 change Wx.Sep _ _ _ [_,_,_,_]at hS
 have zw3:=uw3.fr.size
 clear hq_
 refine LW.nil (Al (Ab (Ae ?_)))
 refine Ce (.store l9 (.t rfl) (.const _) rfl hS.b0 bQ) ?_
 intro w4 Nw4
 have zw4:=Nw4.size
 replace hS:=hS.Ec 0 rfl Nw4
 change Wx.Sep _ _ _ [_,_,_,_]at hS
 refine Ah (Am ?_)
 refine gY (f:=211) (args:=#[.pointer (some ⟨B6,0,none⟩)]) (by first|exact(wC _ _)|simp[invoke]) rfl (Tf B6 _) (fun w9 u9=>?_)
 replace hS:=hS.up u9
 refine Qx rfl rfl isAgg4 (hS.b0.Ad rfl) ⟨_,rfl,?_⟩
 exact⟨rfl,v2,s2,hv2,hS.sub (.cons _ (List.Sublist.refl _))⟩
theorem lF(L:List Sk)(hL:FlS L)(w:World)(hG:GM w):Ret prog 75 #[.string (bs (Fj L))] w fun r w'=>∃sa sc M,r=.tuple #[.agg (Cx sa M.length sc none 0 0),vi 0,vi 0]∧Same L M∧FlK w.heap.size w' sa M∧Up w w':=by
 obtain⟨w0,rfl,hS⟩:=W0 w
 have hlen:=hL.len
 refine cT 40 func75 rfl ?_
 refine Ae ?_
 refine Ap (.Cb mj) rfl ?_
 rintro _ w1 ⟨B2,rfl,NB2⟩
 have eB2:=NB2.at_
 have zB2:=NB2.size
 replace hS:=hS.Cf NB2
 change Wx.Sep _ _ _ [_]at hS
 refine Az (Az (An (Aa ?_)))
 refine Ap (.Cb mj) rfl ?_
 rintro _ w2 ⟨B5,rfl,NB5⟩
 have eB5:=NB5.at_
 have zB5:=NB5.size
 replace hS:=hS.Cf NB5
 change Wx.Sep _ _ _ [_,_]at hS
 refine An (Aa (I rfl ?_))
 refine A3 (eC (.ct rfl (.cons (.const _) .nil)) (mU)) rfl (Ps 10 Gp (L.mapIdx C8++[[]]) _ (hG.up hS.Ch) hL.no (b6 hL.le cQ)) ?_
 rintro _ w3 ⟨Bp,rfl,hK,zK,uw3⟩
 have zw3:=uw3.size
 replace hS:=hS.add uw3 (A':=A5 Bp (Oo (Qo L)) 9) (hK) (fun i h=>by cases h;exact zK)
 change Wx.Sep _ _ _ [_,_,_]at hS
 clear hK
 rw[show Gp::(L.mapIdx C8++[[]])=Qo L from rfl]
 refine LW.A rfl (An ?_)
 replace hS:=qG (e:=3) ((hS.Ef 1 rfl).Lb (OwnS.nil _ 0 33 7 Sk.cells))
 change Wx.Sep _ _ _ [_,_,_,_,_]at hS
 refine Aa (Az (An (Ae (I rfl ?_))))
 refine U (.Cl lh (.t rfl)) ?_
 refine U (.move (.const _)) ?_
 refine Ah (Ai ?_)
 refine A7 (σ:=Nat×Go.Value×List Sk) (fun s w=>(s.1≤L.length+2)∧(Same (L.take (s.1-1)) s.2.2)∧(s.1=0→s.2.1=.slice none 0 0)∧(Wx.Sep no w0 w [A5 B2 lD 29,A5 Bp (Oo (Qo L)) 9,A5 B5 (FT (s.1) (s.2.1)) 29,Aw 33 7 Sk.cells (s.2.1) (s.2.2),Dp ((s.2.2).flatMap (Ky 3))])) (fun s=>[(14,.eq (vi (s.1:Int))),(7,.eq (.bool (decide (s.1=0))))]) ([(2,.eq _),(5,.eq _),(6,.eq _),(12,.eq _),(13,.eq _)]) (fun s=>L.length+2-s.1) (0,.slice none 0 0,[]) ?_ tQ ?_
 ·exact⟨a_ _,rfl,fun _=>rfl,hS⟩
 rintro⟨k,v,M⟩ w4 ⟨hk,hM,hv0,hS⟩
 dsimp only at hk hM hv0 hS
 change Wx.Sep _ _ _ [_,_,_,_,_]at hS
 change CW _ _ _ _ _ _ _ ([(14,.eq (vi (k:Int))),(7,.eq (.bool (decide (k=0))))]++_) _
 refine Ae ?_
 refine U (.l2 rfl rfl) ?_
 refine An ?_
 refine CW.b rfl (fun h15=>?_) (fun h15=>?_)
 ·replace h15:=dQ h15
  have hkl:k<L.length+2:=by rw[Ly]at h15;exact co.1 h15
  refine Aj (Ab (Ak (Ai (Ak ?_))))
  cases k with
  |zero=>
   obtain rfl:=hv0 rfl
   obtain⟨Bx,ox,ax,hcx⟩:=Gj hS.b1 0 (Gp) rfl
   cases ax
   refine Aa (I rfl ?_)
   refine U (.Ao lh md (j:=0) (.t rfl) (.t rfl) (by rw[Ly];omega) rfl) ?_
   refine U (.lb rfl (hcx.nth (j:=0) rfl)) ?_
   refine LW.A rfl (LW.A rfl (An (Ae (I rfl ?_))))
   refine U (.fa (D8 (.t rfl) (.const _)) (Vp (b:=[]) cQ)) ?_
   refine I rfl ?_
   refine Ar ?_
   refine I rfl ?_
   refine Ar ?_
   refine A3 (eC (.ct rfl (.cons (.const _) .nil)) (mV)) rfl (Xg (Gp) [35] _) ?_
   rintro _ w5 ⟨rfl,uw5⟩
   have zw5:=uw5.size
   replace hS:=hS.up uw5
   rw[show Go.Lib.hasPrefix Gp [35]=false from rfl]
   refine U (.po rfl (fun hp=>wQ)) ?_
   refine Ah ?_
   refine CW.f rfl ?_
   refine Aj (Ab (Ak (Ae (I rfl (I rfl ?_)))))
   replace hS:=hS.Ef 3 rfl
   change Wx.Sep _ _ _ [_,_,_,_,_]at hS
   replace hS:=hS.Ef 3 rfl
   change Wx.Sep _ _ _ [_,_,_,_,_]at hS
   replace hS:=hS.Ef 2 rfl
   change Wx.Sep _ _ _ [_,_,_,_,_]at hS
   have hq_:=(show Wx.Sep _ _ _ ([_,_,_,_]++[_])from hS)
   refine A3 (eC (.ct rfl (.ct rfl (.cu rfl))) (vW)) rfl (eF B5 _ (hG.up hS.Ch) (fun i⟨A_,h1,h2⟩=>by have h3:=((hq_.right.each A_ h1).2 i h2).resolve_left (fun h=>h);have:=hG.lt;omega) hq_.right.self) ?_
   rintro _ w6 ⟨rfl,uw6⟩
   replace hS:=hq_.frame uw6
   change Wx.Sep _ _ _ [_,_,_,_,_]at hS
   have zw6:=uw6.fr.size
   clear hq_
   replace hS:=(hS.Ef 2 rfl).Ef 2 rfl
   change Wx.Sep _ _ _ [_,_,_,_,_]at hS
   refine U (.n1 rfl) ?_
   refine Ah ?_
   refine CW.f rfl ?_
   refine Aj (Ab (Aa ?_))
   refine U (.Dr (v':=.bool (decide (((0+1,Go.Value.slice none 0 0,M)).1=0))) (PEv.assign (.const _)) (by simp)) ?_
   refine LW.nil (Al (Ab (Aa ?_)))
   refine U (.ic rfl oQ) ?_
   refine I rfl (LW.nil (Av ?_))
   exact⟨(0+1,Go.Value.slice none 0 0,M),⟨by show 0+1≤_;omega,hM,(fun h=>by cases h),hS⟩,tQ,by first|(show L.length+2-(0+1)<L.length+2-0;omega)|(show L.length+2-(M.length+1+1)<L.length+2-(M.length+1);omega)|(show L.length+2-(k1+1+1)<L.length+2-(k1+1);omega)⟩
  |succ k1=>
   cases hq6:decide (k1<L.length)with
   |true=>
    have hk1:=b8 hq6
    obtain⟨s,hs⟩:=Af (xs:=L) (i:=k1) hk1
    have hsm:=ai hs
    have hMl:M.length=k1:=by have:=hM.len;rw[ca]at this;omega
    obtain⟨Bx,ox,ax,hcx⟩:=Gj hS.b1 (k1+1) (C8 k1 s) (uV hs)
    cases ax
    refine Aa (I rfl ?_)
    refine U (.Ao lh md (j:=k1+1) (.t rfl) (.t rfl) (by rw[Ly];omega) rfl) ?_
    refine U (.lb rfl (hcx.nth (j:=0) rfl)) ?_
    refine LW.A rfl (LW.A rfl (An (Ae (I rfl ?_))))
    refine U (.fa (D8 (.t rfl) (.const _)) (Vp (b:=[]) (fun e=>by cases e))) ?_
    refine I rfl ?_
    refine Ar ?_
    refine I rfl ?_
    refine Ar ?_
    refine A3 (eC (.ct rfl (.cons (.const _) .nil)) (mV)) rfl (Xg (C8 k1 s) [35] _) ?_
    rintro _ w7 ⟨rfl,uw7⟩
    have zw7:=uw7.size
    replace hS:=hS.up uw7
    rw[show Go.Lib.hasPrefix (C8 k1 s) [35]=false from rfl]
    refine U (.po rfl (fun hp=>wQ)) ?_
    refine Ah ?_
    refine CW.f rfl ?_
    refine Aj (Ab (Ak (Ae (I rfl (I rfl ?_)))))
    replace hS:=hS.Ef 2 rfl
    change Wx.Sep _ _ _ [_,_,_,_,_]at hS
    replace hS:=hS.Ef 2 rfl
    change Wx.Sep _ _ _ [_,_,_,_,_]at hS
    replace hS:=hS.Ef 2 rfl
    change Wx.Sep _ _ _ [_,_,_,_,_]at hS
    have hq_:=(show Wx.Sep _ _ _ ([_,_]++[_,_,_])from hS)
    subst hMl
    refine A3 (eC (.ct rfl (.ct rfl (.cu rfl))) (vW)) rfl (eG B5 v M s (hL.sml s hsm) ((hL.ok s hsm).mono oQ) oQ _ (hG.up hS.Ch) (fun i⟨A_,h1,h2⟩=>by have h3:=((hq_.right.each A_ h1).2 i h2).resolve_left (fun h=>h);have:=hG.lt;omega) hq_.right.self) ?_
    rintro _ w8 ⟨rfl,v2,s2,hv2,uw8⟩
    replace hS:=hq_.frame uw8
    change Wx.Sep _ _ _ [_,_,_,_,_]at hS
    have zw8:=uw8.fr.size
    clear hq_
    refine U (.n1 rfl) ?_
    refine Ah ?_
    refine CW.f rfl ?_
    refine Aj (Ab (Aa ?_))
    refine U (.Dr (v':=.bool (decide (((M.length+1+1,v2,M++[s2])).1=0))) (PEv.assign (.const _)) (by simp)) ?_
    refine LW.nil (Al (Ab (Aa ?_)))
    refine U (.ic rfl oQ) ?_
    refine I rfl (LW.nil (Av ?_))
    exact⟨(M.length+1+1,v2,M++[s2]),⟨by show M.length+1+1≤_;omega,hM.snoc hs hv2,(fun h=>by cases h),hS⟩,tQ,by first|(show L.length+2-(0+1)<L.length+2-0;omega)|(show L.length+2-(M.length+1+1)<L.length+2-(M.length+1);omega)|(show L.length+2-(k1+1+1)<L.length+2-(k1+1);omega)⟩
   |false=>
    have hk1:=cr hq6
    have hkn:k1=L.length:=by omega
    obtain⟨Bx,ox,ax,hcx⟩:=Gj hS.b1 (k1+1) (([]:List UInt8)) (by rw[hkn];exact qF L)
    cases ax
    refine Aa (I rfl ?_)
    refine U (.Ao lh md (j:=k1+1) (.t rfl) (.t rfl) (by rw[Ly];omega) rfl) ?_
    refine U (.lb rfl (hcx.nth (j:=0) rfl)) ?_
    refine LW.A rfl (LW.A rfl (An (Ae (I rfl ?_))))
    refine U (.tr (D8 (.t rfl) (.const _)) (S9 (b:=[]) rfl)) ?_
    refine I rfl ?_
    refine Bi ?_
    refine Bi ?_
    refine U (.Ej (b:=false) (.t rfl) (fun hp=>absurd (show true=false from hp) cQ)) ?_
    refine Ah ?_
    refine CW.v rfl ?_
    refine A9 (Ac (Aq (Ab (Aa ?_))))
    refine U (.ic rfl oQ) ?_
    refine I rfl (LW.nil (Av ?_))
    exact⟨(k1+1+1,v,M),⟨by show k1+1+1≤_;omega,(by show Same (L.take (k1+1)) M;rw[hkn,f7 (Nat.le_succ _)];rw[hkn]at hM;rw[show L.length+1-1=L.length from rfl,b7]at hM;exact hM),(fun h=>by cases h),hS⟩,tQ,by first|(show L.length+2-(0+1)<L.length+2-0;omega)|(show L.length+2-(M.length+1+1)<L.length+2-(M.length+1);omega)|(show L.length+2-(k1+1+1)<L.length+2-(k1+1);omega)⟩
 replace h15:=dQ h15
 have hkn:k=L.length+2:=by rw[Ly]at h15;omega
 subst hkn
 replace hM:Same L M:=by rw[show L.length+2-1=L.length+1 from rfl,f7 (Nat.le_succ _)]at hM;exact hM
 obtain⟨sa,sc,rfl,_⟩:=(hS.own 3 rfl).sl (fun _=>rfl)
 have hFl:=Xf hL hM (hS.own 3 rfl) (hS.get 4 rfl)
 refine A9 (Ac (Ac (Aq (Ab (Ak (Ae ?_))))))
 refine U (.lc rfl (hS.b2.agg)) ?_
 refine A3 (eC (.o rfl) (xL)) rfl (Le sa none sc 0 M [] _ hFl) ?_
 rintro _ w9 ⟨rfl,uw9⟩
 have zw9:=uw9.size
 replace hS:=hS.up uw9
 replace hFl:=hFl.up uw9
 refine U (.n1 rfl) ?_
 refine Ah ?_
 refine CW.f rfl ?_
 refine Aj (Ab (Ae ?_))
 refine U (.lc rfl (hS.b2.agg)) ?_
 have hS4:=hS
 refine Ce (.Cc m4 rfl (.t rfl) (.t rfl) (Hu _ _ _ _ _ _) hS.b0 rfl) ?_
 intro w10 Nw10
 have zw10:=Nw10.size
 replace hS:=hS.Ec 0 rfl (show Set_ _ w10 _ (Cx sa M.length sc none 0 0) _ from Nw10)
 change Wx.Sep _ _ _ [_,_,_,_,_]at hS
 refine Az (Az (Ah (Am ?_)))
 refine lC rfl rfl rfl rfl isAgg29 m4 rfl hS.b0.agg ⟨_,rfl,?_⟩
 exact⟨sa,sc,M,rfl,hM,⟨Xf hL hM (hS.own 3 rfl) (hS.get 4 rfl),FlB.of (k:=3) (m:=4) hS rfl rfl⟩,hS.Ch⟩
theorem iD{k:Nat}{s:Sk}(h:0≤s.bk):C8 k s=((((((((((((((([115,116,101,112,32]++Dx (k:Int))++[32,114,101,99,105,112,101,32])++Dx s.rc)++[32,116,111,111,108,115,32])++Kc s.tl)++[32,116,105,109,101,32])++Dx s.mn)++[46,46])++Dx s.mx)++[32,110,101,120,116,32])++Kc s.nx)++[32,98,97,99,107,32])++Dx s.bk)++[32,108,105,109,105,116,32])++Dx s.lm):=by
 unfold C8 Hj K1
 rw[bg h]
 simp[Dj,D9,Qf,Jn,Lv,Lw,No,Tc]
theorem qL{k:Nat}{s:Sk}(h:¬0≤s.bk):C8 k s=((((((((((([115,116,101,112,32]++Dx (k:Int))++[32,114,101,99,105,112,101,32])++Dx s.rc)++[32,116,111,111,108,115,32])++Kc s.tl)++[32,116,105,109,101,32])++Dx s.mn)++[46,46])++Dx s.mx)++[32,110,101,120,116,32])++Kc s.nx):=by
 unfold C8 Hj K1
 rw[aq h]
 simp[Dj,D9,Qf,Jn,Lv,Lw]
theorem Fa(x:Int)(hx:Sm x)(w:World):Ret prog 42 #[vi x] w fun r w'=>r=.string (bs (Dx x))∧Up w w':=by
 have hW:=Up.refl w
 obtain⟨w0,rfl,_⟩:=W0 w
 obtain⟨m,rfl⟩:∃m:Nat,x=(m:Int):=⟨x.toNat,by have:=hx.1;omega⟩
 refine cT 21 func42 rfl ?_
 refine Ae (Az (An (Aa (Az (An (Ai ?_))))))
 refine A7 (σ:=Nat×List UInt8) (fun s w=>(DgI (m:Int) s.1 s.2)∧(Up w0 w)) (fun s=>[(0,.eq (vi (s.1:Int))),(3,.eq (.string (bs s.2)))]) ([(2,.eq _)]) (fun s=>s.1+(if s.2=[]then 1 else 0)) (m,[]) ?_ tQ ?_
 ·exact⟨⟨by have:=hx.2;show m<100;omega,rfl⟩,hW⟩
 rintro⟨y,l⟩ w1 ⟨hi,hW⟩
 dsimp only at hi
 have hly:=hi.lt
 have hll:=hi.le hx
 change CW _ _ _ _ _ _ _ ([(0,.eq (vi (y:Int))),(3,.eq (.string (bs l)))]++_) _
 refine Ak (Ak ?_)
 cases hq2:decide (l=[])with
 |true=>
  have hl:=b8 hq2
  have hn:=hi.next (.inl hl)
  refine Aa (I rfl ?_)
  refine U (.tr (D8 (.t rfl) (.const _)) (S9 (b:=[]) hl)) ?_
  refine I rfl ?_
  refine Bi ?_
  refine Bi ?_
  refine U (.Ej (b:=false) (.t rfl) (fun hp=>absurd (show true=false from hp) cQ)) ?_
  refine Ah ?_
  refine CW.v rfl ?_
  refine Aj (Ab (Ai (Ae (I rfl ?_))))
  refine U (.Dr (v':=vi ((y%10:Nat):Int)) (PEv.rem (.t rfl) (.const _) cQ) (bh vi rfl)) ?_
  refine U (.add (.const _) (.t rfl) oQ oQ) ?_
  refine U (.Dr (v':=bv (UInt8.ofNat (48+y%10))) (PEv.conv (k':=.u8) (by rw[k9];rfl) ml (.t rfl)) (bh (Go.Value.int .u8) (JJ (y%10) (j2 y (show 0<10 by decide))))) ?_
  refine Ap (.buildSlice (xs:=[UInt8.ofNat (48+y%10)]) (enc:=O5) (mk:=bv) l8 sizeOf5 m8 rfl cQ (fun _=>rfl) (fun _=>rfl) (.cu rfl) rfl) rfl ?_
  rintro _ w2 ⟨B14,cB14,rfl,NB14,yB14,xB14⟩
  have eB14:=NB14.at_
  have zB14:=NB14.size
  replace hW:=hW.up NB14.up
  have hB14:=NB14.blk
  have hE14:=xB14
  refine U (.nM l8 ml lq (.t rfl) (Ay hE14)) ?_
  refine I rfl ?_
  refine U (.Fk ([UInt8.ofNat (48+y%10)]) (l) (.t rfl) (.t rfl) (by first|omega|(simp only[a8,bp];omega)) (by first|omega|(simp only[am,a8,bp];omega))) ?_
  refine LW.A rfl (Ah (Aa (I rfl ?_)))
  refine U (.Dr (v':=vi ((y/10:Nat):Int)) (PEv.quo (.t rfl) (.const _) cQ) (bh vi (Dk (i:=((y/10:Nat):Int)) oQ oQ))) ?_
  refine LW.A rfl (LW.nil (Al (Av ?_)))
  exact⟨(y/10,UInt8.ofNat (48+y%10)::l),⟨hn,hW⟩,tQ,by first|(show y/10+0<y+(if l=[]then 1 else 0);rw[bg hl];omega)|(show y/10+0<y+(if l=[]then 1 else 0);omega)⟩
 |false=>
  have hl:=cr hq2
  refine Aa (I rfl ?_)
  refine U (.fa (D8 (.t rfl) (.const _)) (Vp (b:=[]) hl)) ?_
  refine I rfl ?_
  refine Ar ?_
  refine I rfl ?_
  refine Ar ?_
  refine U (.gtr (.t rfl) (.const _)) ?_
  refine U (.po rfl (fun hp=>wQ)) ?_
  refine Ah ?_
  refine CW.b rfl (fun h9=>?_) (fun h9=>?_)
  ·replace h9:=dQ h9
   have hy0:0<y:=by simpa using h9
   have hn:=hi.next (.inr hy0)
   refine Aj (Ab (Ai (Ae (I rfl ?_))))
   refine U (.Dr (v':=vi ((y%10:Nat):Int)) (PEv.rem (.t rfl) (.const _) cQ) (bh vi rfl)) ?_
   refine U (.add (.const _) (.t rfl) oQ oQ) ?_
   refine U (.Dr (v':=bv (UInt8.ofNat (48+y%10))) (PEv.conv (k':=.u8) (by rw[k9];rfl) ml (.t rfl)) (bh (Go.Value.int .u8) (JJ (y%10) (j2 y (show 0<10 by decide))))) ?_
   refine Ap (.buildSlice (xs:=[UInt8.ofNat (48+y%10)]) (enc:=O5) (mk:=bv) l8 sizeOf5 m8 rfl cQ (fun _=>rfl) (fun _=>rfl) (.cu rfl) rfl) rfl ?_
   rintro _ w3 ⟨B14,cB14,rfl,NB14,yB14,xB14⟩
   have eB14:=NB14.at_
   have zB14:=NB14.size
   replace hW:=hW.up NB14.up
   have hB14:=NB14.blk
   have hE14:=xB14
   refine U (.nM l8 ml lq (.t rfl) (Ay hE14)) ?_
   refine I rfl ?_
   refine U (.Fk ([UInt8.ofNat (48+y%10)]) (l) (.t rfl) (.t rfl) (by first|omega|(simp only[a8,bp];omega)) (by first|omega|(simp only[am,a8,bp];omega))) ?_
   refine LW.A rfl (Ah (Aa (I rfl ?_)))
   refine U (.Dr (v':=vi ((y/10:Nat):Int)) (PEv.quo (.t rfl) (.const _) cQ) (bh vi (Dk (i:=((y/10:Nat):Int)) oQ oQ))) ?_
   refine LW.A rfl (LW.nil (Al (Av ?_)))
   exact⟨(y/10,UInt8.ofNat (48+y%10)::l),⟨hn,hW⟩,tQ,by first|(show y/10+0<y+(if l=[]then 1 else 0);rw[bg hl];omega)|(show y/10+0<y+(if l=[]then 1 else 0);omega)⟩
  replace h9:=dQ h9
  have hy0:y=0:=by simpa using h9
  refine A9 (Ac (Ac (Aq (Ab (Ae (I rfl (LW.A rfl (Ah (Am ?_)))))))))
  refine KW.q ?_
  exact⟨by rw[hi.e,aq hl,hy0,bg rfl];rfl,hW⟩
theorem Vt(ad:Option Addr)(cp:Nat)(l:List Int)(w:World)(hE:Els w ad 1 A4 l)(hl:l.length≤8)(hs:∀x∈l,Sm x):Ret prog 120 #[.slice ad l.length cp] w fun r w'=>r=.string (bs (Kc l))∧Up w w':=by
 have hW:=Up.refl w
 obtain⟨w0,rfl,_⟩:=W0 w
 refine cT 25 func120 rfl ?_
 refine Ae (Az (An (Aa (Az (An (Ae (Az ?_)))))))
 refine Ah (Ai ?_)
 refine A7 (σ:=Nat) (fun s w=>(s≤l.length)∧(Up w0 w)) (fun s=>[(4,.eq (vi (s:Int))),(3,.eq (.string (bs (qH (l.take s)))))]) ([(0,.eq _),(2,.eq _)]) (fun s=>l.length-s) 0 ?_ tQ ?_
 ·exact⟨a_ _,hW⟩
 rintro k w1 ⟨hk,hW⟩
 refine Ak (Ae (I rfl (I rfl ?_)))
 refine U (.Cl ky (.t rfl)) ?_
 refine U (.l2 rfl rfl) ?_
 refine Ah ?_
 refine CW.b rfl (fun h8=>?_) (fun h8=>?_)
 ·replace h8:=dQ h8
  refine Aj (Ab (Ak (Ai (Ak (Ak ?_)))))
  have hkl:k<l.length:=co.1 h8
  have hjl:=zS (l:=l.take k) (fun y hy=>hs y (iw hy)) (by rw[ca];omega)
  obtain⟨x,hx⟩:=Af (xs:=l) (i:=k) hkl
  have hdx:=(Ev (hs x (ai hx))).2.2.1
  obtain⟨Bx,ox,ax,hcx⟩:=(Els.up hE hW) k x hx
  cases k with
  |zero=>
   refine Aa (I rfl ?_)
   refine U (.fa (PEv.gtr (.t rfl) (.const _)) (rfl)) ?_
   refine Ah ?_
   refine CW.f rfl ?_
   refine Aj (Ab (Aa (I rfl (I rfl (I rfl ?_)))))
   refine U (.Ao ky k6 (.t rfl) (.t rfl) oQ ax) ?_
   refine U (.lb rfl (hcx.nth (j:=0) rfl)) ?_
   refine A3 (eC (.o rfl) (Tt)) rfl (Fa x (hs x (ai hx)) _) ?_
   rintro _ w2 ⟨rfl,uw2⟩
   have zw2:=uw2.size
   replace hW:=hW.up uw2
   replace hcx:=hcx.up uw2
   refine U (.Fk (qH (l.take 0)) (Dx x) (.t rfl) (.t rfl) (by first|omega|(simp only[am,a8,bp];omega)) (by first|omega|(simp only[am,a8,bp];omega))) ?_
   refine LW.A rfl (LW.nil (Al (Ab (Aa (I rfl ?_)))))
   refine U (.ic rfl oQ) ?_
   refine LW.A rfl (LW.nil (Av ?_))
   exact⟨0+1,⟨by omega,hW⟩,⟨rfl,by rw[aA hx];rfl,rfl,rfl,trivial⟩,by first|omega|(dsimp only;omega)⟩
  |succ k1=>
   refine Aa (I rfl ?_)
   refine U (.tr (PEv.gtr (.t rfl) (.const _)) (bj oQ)) ?_
   refine Ah ?_
   refine CW.v rfl ?_
   refine Aa (I rfl ?_)
   refine U (.Fk (qH (l.take (k1+1))) ([44]) (.t rfl) (.const _) (by first|omega|(simp only[am,a8,bp];omega)) (by first|omega|(simp only[a8,bp];omega))) ?_
   refine LW.A rfl (Ah (Aa (I rfl (I rfl (I rfl ?_)))))
   refine U (.Ao ky k6 (.t rfl) (.t rfl) oQ ax) ?_
   refine U (.lb rfl (hcx.nth (j:=0) rfl)) ?_
   refine A3 (eC (.o rfl) (Tt)) rfl (Fa x (hs x (ai hx)) _) ?_
   rintro _ w3 ⟨rfl,uw3⟩
   have zw3:=uw3.size
   replace hW:=hW.up uw3
   replace hcx:=hcx.up uw3
   refine U (.Fk (qH (l.take (k1+1))++[44]) (Dx x) (.t rfl) (.t rfl) (by first|omega|(simp only[am,a8,bp];omega)) (by first|omega|(simp only[am,a8,bp];omega))) ?_
   refine LW.A rfl (LW.nil (Al (Ab (Aa (I rfl ?_)))))
   refine U (.ic rfl oQ) ?_
   refine LW.A rfl (LW.nil (Av ?_))
   exact⟨k1+1+1,⟨by omega,hW⟩,⟨rfl,by rw[aA hx];rfl,rfl,rfl,trivial⟩,by first|omega|(dsimp only;omega)⟩
 replace h8:=dQ h8
 have hkl:k=l.length:=by have:¬k<l.length:=fun h=>h8 (co.2 h);omega
 subst hkl
 rw[b7]
 refine A9 (Ac (Ac (Aq (Ab (Ak (Ak ?_))))))
 cases hq8:decide (l=[])with
 |true=>
  have hl0:=b8 hq8
  refine Aa (I rfl ?_)
  refine U (.tr (D8 (.t rfl) (.const _)) (S9 (b:=[]) (by rw[hl0];rfl))) ?_
  refine Ah ?_
  refine CW.v rfl ?_
  refine Ae (Az (Ah (Am (Au ?_))))
  refine KW.q ?_
  first|exact⟨by rw[hl0];rfl,hW⟩|exact⟨by rw[hl0.2],hW⟩
 |false=>
  have hl0:=zT hs (cr hq8)
  refine Aa (I rfl ?_)
  refine U (.fa (D8 (.t rfl) (.const _)) (Vp (b:=[]) hl0.1)) ?_
  refine Ah ?_
  refine CW.f rfl ?_
  refine Aj (Ab (Ae (I rfl (LW.A rfl (Ah (Am ?_))))))
  refine KW.q ?_
  first|exact⟨by rw[hl0];rfl,hW⟩|exact⟨by rw[hl0.2],hW⟩
theorem Xh(k:Nat)(s:Sk)(hk:k<100)(hs:s.Sml)(w:World)(h1:Els w s.ta 1 A4 s.tl)(h2:Els w s.na 1 A4 s.nx):Ret prog 43 #[vi (k:Int),.agg s.cells] w fun r w'=>r=.string (bs (C8 k s))∧Up w w':=by
 obtain⟨w0,rfl,hS⟩:=W0 w
 refine cT 49 func43 rfl ?_
 refine Ae ?_
 refine Ap (.bA rfl) rfl ?_
 rintro _ w1 ⟨B3,rfl,NB3⟩
 have eB3:=NB3.at_
 have zB3:=NB3.size
 replace hS:=hS.Cf NB3
 change Wx.Sep _ _ _ [_]at hS
 refine Az (An ?_)
 have d1:=(Ev (n:=(k:Int)) ⟨gp _,by omega⟩).2.2.1
 have d2:=(Ev hs.rc).2.2.1
 have d3:=(Ev hs.mn).2.2.1
 have d4:=(Ev hs.mx).2.2.1
 have d5:=Z9 hs.tl hs.tn.2
 have d6:=Z9 hs.nx (by have:=hs.nn;omega)
 refine C0 kQ kQ rfl rfl ?_
 refine J (.mv rfl) ?_
 refine HW.c (fun a w _ ha=>Bh (.cu rfl) (Tt) a ha) rfl rfl (fun w hu=>Fa (k:Int) ⟨gp _,by omega⟩ w) ?_
 refine J (.Fk ([115,116,101,112,32]) (Dx (k:Int)) (.const _) (.t rfl) (by first|omega|(simp only[a8,bp];omega)) (by first|omega|(simp only[am,a8,bp];omega))) ?_
 refine J (.Fk (([115,116,101,112,32]++Dx (k:Int))) ([32,114,101,99,105,112,101,32]) (.t rfl) (.const _) (by first|omega|(simp only[am,a8,bp];omega)) (by first|omega|(simp only[a8,bp];omega))) ?_
 refine J (.fB 0 rfl) ?_
 refine J (.lb rfl (hS.b0.Ad rfl)) ?_
 refine HW.c (fun a w _ ha=>Bh (.cu rfl) (Tt) a ha) rfl rfl (fun w hu=>Fa s.rc hs.rc w) ?_
 refine J (.Fk ((([115,116,101,112,32]++Dx (k:Int))++[32,114,101,99,105,112,101,32])) (Dx s.rc) (.t rfl) (.t rfl) (by first|omega|(simp only[am,a8,bp];omega)) (by first|omega|(simp only[am,a8,bp];omega))) ?_
 refine J (.Fk (((([115,116,101,112,32]++Dx (k:Int))++[32,114,101,99,105,112,101,32])++Dx s.rc)) ([32,116,111,111,108,115,32]) (.t rfl) (.const _) (by first|omega|(simp only[am,a8,bp];omega)) (by first|omega|(simp only[a8,bp];omega))) ?_
 refine J (.fB 1 rfl) ?_
 refine J (.lb rfl (hS.b0.Ad rfl)) ?_
 refine HW.c (fun a w _ ha=>Bh (.cu rfl) (vR) a ha) rfl rfl (fun w hu=>Vt s.ta s.tc s.tl w (Els.up h1 (hS.Ch.trans hu)) (by have:=hs.tn;omega) hs.tl) ?_
 refine J (.Fk ((((([115,116,101,112,32]++Dx (k:Int))++[32,114,101,99,105,112,101,32])++Dx s.rc)++[32,116,111,111,108,115,32])) (Kc s.tl) (.t rfl) (.t rfl) (by first|omega|(simp only[am,a8,bp];omega)) (by first|omega|(simp only[am,a8,bp];omega))) ?_
 refine J (.Fk (((((([115,116,101,112,32]++Dx (k:Int))++[32,114,101,99,105,112,101,32])++Dx s.rc)++[32,116,111,111,108,115,32])++Kc s.tl)) ([32,116,105,109,101,32]) (.t rfl) (.const _) (by first|omega|(simp only[am,a8,bp];omega)) (by first|omega|(simp only[a8,bp];omega))) ?_
 refine J (.fB 2 rfl) ?_
 refine J (.lb rfl (hS.b0.Ad rfl)) ?_
 refine HW.c (fun a w _ ha=>Bh (.cu rfl) (Tt) a ha) rfl rfl (fun w hu=>Fa s.mn hs.mn w) ?_
 refine J (.Fk ((((((([115,116,101,112,32]++Dx (k:Int))++[32,114,101,99,105,112,101,32])++Dx s.rc)++[32,116,111,111,108,115,32])++Kc s.tl)++[32,116,105,109,101,32])) (Dx s.mn) (.t rfl) (.t rfl) (by first|omega|(simp only[am,a8,bp];omega)) (by first|omega|(simp only[am,a8,bp];omega))) ?_
 refine J (.Fk (((((((([115,116,101,112,32]++Dx (k:Int))++[32,114,101,99,105,112,101,32])++Dx s.rc)++[32,116,111,111,108,115,32])++Kc s.tl)++[32,116,105,109,101,32])++Dx s.mn)) ([46,46]) (.t rfl) (.const _) (by first|omega|(simp only[am,a8,bp];omega)) (by first|omega|(simp only[a8,bp];omega))) ?_
 refine J (.fB 3 rfl) ?_
 refine J (.lb rfl (hS.b0.Ad rfl)) ?_
 refine HW.c (fun a w _ ha=>Bh (.cu rfl) (Tt) a ha) rfl rfl (fun w hu=>Fa s.mx hs.mx w) ?_
 refine J (.Fk ((((((((([115,116,101,112,32]++Dx (k:Int))++[32,114,101,99,105,112,101,32])++Dx s.rc)++[32,116,111,111,108,115,32])++Kc s.tl)++[32,116,105,109,101,32])++Dx s.mn)++[46,46])) (Dx s.mx) (.t rfl) (.t rfl) (by first|omega|(simp only[am,a8,bp];omega)) (by first|omega|(simp only[am,a8,bp];omega))) ?_
 refine J (.Fk (((((((((([115,116,101,112,32]++Dx (k:Int))++[32,114,101,99,105,112,101,32])++Dx s.rc)++[32,116,111,111,108,115,32])++Kc s.tl)++[32,116,105,109,101,32])++Dx s.mn)++[46,46])++Dx s.mx)) ([32,110,101,120,116,32]) (.t rfl) (.const _) (by first|omega|(simp only[am,a8,bp];omega)) (by first|omega|(simp only[a8,bp];omega))) ?_
 refine J (.fB 4 rfl) ?_
 refine J (.lb rfl (hS.b0.Ad rfl)) ?_
 refine HW.c (fun a w _ ha=>Bh (.cu rfl) (vR) a ha) rfl rfl (fun w hu=>Vt s.na s.nc s.nx w (Els.up h2 (hS.Ch.trans hu)) (by have:=hs.nn;omega) hs.nx) ?_
 refine J (.Fk ((((((((((([115,116,101,112,32]++Dx (k:Int))++[32,114,101,99,105,112,101,32])++Dx s.rc)++[32,116,111,111,108,115,32])++Kc s.tl)++[32,116,105,109,101,32])++Dx s.mn)++[46,46])++Dx s.mx)++[32,110,101,120,116,32])) (Kc s.nx) (.t rfl) (.t rfl) (by first|omega|(simp only[am,a8,bp];omega)) (by first|omega|(simp only[am,a8,bp];omega))) ?_
 refine J (.assign (.t rfl)) ?_
 refine HW.nil ?_
 intro w2 uw2
 have zw2:=uw2.size
 replace hS:=hS.up uw2
 refine Ab (Ak (Ae ?_))
 refine U (.fB 5 rfl) ?_
 refine U (.lb rfl (hS.b0.Ad rfl)) ?_
 refine U (.geq (.t rfl) (.const _)) ?_
 refine Ah ?_
 refine CW.b rfl (fun h36=>?_) (fun h36=>?_)
 ·replace h36:=dQ h36
  have hbk:0≤s.bk:=h36
  have hbs:=hs.bk.resolve_left (fun h=>by omega)
  have d7:=(Ev hbs.1).2.2.1
  have d8:=(Ev hbs.2).2.2.1
  refine Cz 11 kQ kQ kQ kQ kQ rfl rfl ?_
  refine J (.mv rfl) ?_
  refine J (.Fk (((((((((((([115,116,101,112,32]++Dx (k:Int))++[32,114,101,99,105,112,101,32])++Dx s.rc)++[32,116,111,111,108,115,32])++Kc s.tl)++[32,116,105,109,101,32])++Dx s.mn)++[46,46])++Dx s.mx)++[32,110,101,120,116,32])++Kc s.nx)) ([32,98,97,99,107,32]) (.t rfl) (.const _) (by first|omega|(simp only[am,a8,bp];omega)) (by first|omega|(simp only[a8,bp];omega))) ?_
  refine J (.fB 5 rfl) ?_
  refine J (.lb rfl (hS.b0.Ad rfl)) ?_
  refine HW.c (fun a w _ ha=>Bh (.cu rfl) (Tt) a ha) rfl rfl (fun w hu=>Fa s.bk hbs.1 w) ?_
  refine J (.Fk ((((((((((((([115,116,101,112,32]++Dx (k:Int))++[32,114,101,99,105,112,101,32])++Dx s.rc)++[32,116,111,111,108,115,32])++Kc s.tl)++[32,116,105,109,101,32])++Dx s.mn)++[46,46])++Dx s.mx)++[32,110,101,120,116,32])++Kc s.nx)++[32,98,97,99,107,32])) (Dx s.bk) (.t rfl) (.t rfl) (by first|omega|(simp only[am,a8,bp];omega)) (by first|omega|(simp only[am,a8,bp];omega))) ?_
  refine J (.Fk (((((((((((((([115,116,101,112,32]++Dx (k:Int))++[32,114,101,99,105,112,101,32])++Dx s.rc)++[32,116,111,111,108,115,32])++Kc s.tl)++[32,116,105,109,101,32])++Dx s.mn)++[46,46])++Dx s.mx)++[32,110,101,120,116,32])++Kc s.nx)++[32,98,97,99,107,32])++Dx s.bk)) ([32,108,105,109,105,116,32]) (.t rfl) (.const _) (by first|omega|(simp only[am,a8,bp];omega)) (by first|omega|(simp only[a8,bp];omega))) ?_
  refine J (.fB 6 rfl) ?_
  refine J (.lb rfl (hS.b0.Ad rfl)) ?_
  refine HW.c (fun a w _ ha=>Bh (.cu rfl) (Tt) a ha) rfl rfl (fun w hu=>Fa s.lm hbs.2 w) ?_
  refine J (.Fk ((((((((((((((([115,116,101,112,32]++Dx (k:Int))++[32,114,101,99,105,112,101,32])++Dx s.rc)++[32,116,111,111,108,115,32])++Kc s.tl)++[32,116,105,109,101,32])++Dx s.mn)++[46,46])++Dx s.mx)++[32,110,101,120,116,32])++Kc s.nx)++[32,98,97,99,107,32])++Dx s.bk)++[32,108,105,109,105,116,32])) (Dx s.lm) (.t rfl) (.t rfl) (by first|omega|(simp only[am,a8,bp];omega)) (by first|omega|(simp only[am,a8,bp];omega))) ?_
  refine HW.nil ?_
  intro w3 uw3
  have zw3:=uw3.size
  replace hS:=hS.up uw3
  refine LW.A rfl (An (Aa (I rfl (LW.A rfl (Ah (Am ?_))))))
  refine KW.q ?_
  first|exact⟨by rw[iD hbk],hS.Ch⟩|exact⟨by rw[qL hbk],hS.Ch⟩
 replace h36:=dQ h36
 have hbk:¬0≤s.bk:=h36
 refine Aj (Ab (Ae (I rfl (LW.A rfl (Ah (Am ?_))))))
 refine KW.q ?_
 first|exact⟨by rw[iD hbk],hS.Ch⟩|exact⟨by rw[qL hbk],hS.Ch⟩
theorem E6(n lo hi:Int)(w:World)(h:lo≤n∧n≤hi):Ret prog 117 #[vi n,vi lo,vi hi] w fun r w'=>r=.bool true∧Up w w':=by
 have hW:=Up.refl w
 refine cT 15 func117 rfl ?_
 refine Ae (Az (An (Aa (I rfl (I rfl ?_)))))
 refine U (.tr (PEv.geq (.t rfl) (.t rfl)) (bj h.1)) ?_
 refine I rfl ?_
 refine Ar ?_
 refine I rfl ?_
 refine Ar ?_
 refine I rfl ?_
 refine Ar ?_
 refine U (.tr (PEv.leq (.t rfl) (.t rfl)) (bj h.2)) ?_
 refine U (.pa rfl (fun hp=>wQ)) ?_
 refine LW.A rfl (Ah (Am ?_))
 refine KW.q ?_
 exact⟨rfl,hW⟩
theorem eH(w:World):Ret prog 116 #[vi 2,vi 5] w fun r w'=>r=.bool true∧Up w w':=by
 have hW:=Up.refl w
 refine cT 16 func116 rfl ?_
 refine Ae (Az (An (Aa (I rfl ?_))))
 refine U (.geq (.t rfl) (.const _)) ?_
 refine I rfl ?_
 refine G6 rfl rfl ?_
 refine G6 rfl rfl ?_
 refine LW.gr rfl (fun hc=>PEv.leq vQ vQ) ?_
 refine U (.pa rfl (fun hp=>wQ)) ?_
 refine I rfl ?_
 refine G6 rfl rfl ?_
 refine LW.gr rfl (fun hc=>PEv.leq vQ (.const _)) ?_
 refine U (.pa rfl (fun hp=>wQ)) ?_
 refine LW.A rfl (Ah (Am ?_))
 refine KW.q ?_
 exact⟨rfl,hW⟩
theorem aG(ad:Option Addr)(cp:Nat)(l:List Int)(lo hi:Int)(w:World)(hE:Els w ad 1 A4 l)(hl:l.length≤100)(hr:AscR l lo hi):Ret prog 201 #[.slice ad l.length cp,vi lo,vi hi] w fun r w'=>r=.bool true∧Up w w':=by
 have hW:=Up.refl w
 obtain⟨w0,rfl,_⟩:=W0 w
 refine cT 38 func201 rfl ?_
 refine Ae (Az (An (Ae (Az (Ah (Ai ?_))))))
 refine A7 (σ:=Nat) (fun s w=>(s≤l.length)∧(Up w0 w)) (fun s=>[(7,.eq (vi (s:Int)))]) ([(0,.eq _),(1,.eq _),(2,.eq _)]) (fun s=>l.length-s) 0 ?_ tQ ?_
 ·exact⟨a_ _,hW⟩
 rintro k w1 ⟨hk,hW⟩
 refine Ak (Ae (I rfl (I rfl ?_)))
 refine U (.Cl ky (.t rfl)) ?_
 refine U (.l2 rfl rfl) ?_
 refine Ah ?_
 refine CW.b rfl (fun h11=>?_) (fun h11=>?_)
 ·replace h11:=dQ h11
  refine Aj (Ab (Ak (Ai (Ak ?_))))
  have hkl:k<l.length:=co.1 h11
  obtain⟨x,hx⟩:=Af (xs:=l) (i:=k) hkl
  obtain⟨Bx,ox,ax,hcx⟩:=(Els.up hE hW) k x hx
  cases k with
  |zero=>
   refine C0 kQ kQ rfl rfl ?_
   refine J (.mv rfl) ?_
   refine J (.mv rfl) ?_
   refine J (.Ao ky k6 (j:=0) (.t rfl) (.t rfl) oQ ax) ?_
   refine J (.lb rfl (hcx.nth (j:=0) rfl)) ?_
   refine J (.mv rfl) ?_
   refine J (.mv rfl) ?_
   refine HW.c (fun a w _ ha=>Bh (.ct rfl (.ct rfl (.cu rfl))) (Nu) a ha) rfl rfl (fun w hu=>E6 _ _ _ w (by exact hr.r x (ai hx))) ?_
   refine J (.fa (PEv.n1 rfl) (rfl)) ?_
   refine J (.mv rfl) ?_
   refine C1 (.mv rfl) ?_
   refine C1 (.fa (PEv.gtr (.t rfl) (.const _)) (rfl)) ?_
   refine C1 (.mv rfl) ?_
   refine D0 ?_
   refine D0 ?_
   refine D0 ?_
   refine D0 ?_
   refine D0 ?_
   refine D0 ?_
   refine D0 ?_
   refine D0 ?_
   refine D0 ?_
   refine D0 ?_
   refine C1 (.C6 (b:=false) (.t rfl) (fun hp=>absurd (show false=true from hp) cQ)) ?_
   refine J (.po rfl (fun hp=>wQ)) ?_
   refine HW.nil ?_
   intro w2 uw2
   have zw2:=uw2.size
   replace hW:=hW.up uw2
   refine Ab ?_
   refine CW.f rfl ?_
   refine Aj (Al (Ab (Aa (I rfl ?_))))
   refine U (.ic rfl oQ) ?_
   refine LW.A rfl (LW.nil (Av ?_))
   exact⟨0+1,⟨by omega,hW⟩,tQ,by first|omega|(dsimp only;omega)⟩
  |succ k1=>
   obtain⟨y,hy⟩:=Af (xs:=l) (i:=k1) oQ
   obtain⟨By,oy,ay,hcy⟩:=(Els.up hE hW) k1 y hy
   have hyx:=bY hr.a hy hx
   refine C0 kQ kQ rfl rfl ?_
   refine J (.mv rfl) ?_
   refine J (.mv rfl) ?_
   refine J (.Ao ky k6 (j:=k1+1) (.t rfl) (.t rfl) oQ ax) ?_
   refine J (.lb rfl (hcx.nth (j:=0) rfl)) ?_
   refine J (.mv rfl) ?_
   refine J (.mv rfl) ?_
   refine HW.c (fun a w _ ha=>Bh (.ct rfl (.ct rfl (.cu rfl))) (Nu) a ha) rfl rfl (fun w hu=>E6 _ _ _ w (by exact hr.r x (ai hx))) ?_
   refine J (.fa (PEv.n1 rfl) (rfl)) ?_
   refine J (.mv rfl) ?_
   refine C1 (.mv rfl) ?_
   refine C1 (.tr (PEv.gtr (.t rfl) (.const _)) (bj oQ)) ?_
   refine C1 (.mv rfl) ?_
   refine C1 (.mv rfl) ?_
   refine C1 (.mv rfl) ?_
   refine C1 (.Ao ky k6 (j:=k1+1) (.t rfl) (.t rfl) oQ ax) ?_
   refine C1 (.lb rfl (hcx.nth (j:=0) rfl)) ?_
   refine C1 (.mv rfl) ?_
   refine C1 (.mv rfl) ?_
   refine C1 (.Dr (v':=vi (k1:Int)) (PEv.sub (.t rfl) (.const _) oQ oQ) (bh vi oQ)) ?_
   refine C1 (.Ao ky k6 (j:=k1) (.t rfl) (.t rfl) oQ ay) ?_
   refine C1 (.lb rfl (hcy.nth (j:=0) rfl)) ?_
   refine C1 (.fa (PEv.leq (.t rfl) (.t rfl)) (bx oQ)) ?_
   refine C1 (.pa rfl (fun hp=>wQ)) ?_
   refine J (.po rfl (fun hp=>wQ)) ?_
   refine HW.nil ?_
   intro w3 uw3
   have zw3:=uw3.size
   replace hW:=hW.up uw3
   refine Ab ?_
   refine CW.f rfl ?_
   refine Aj (Al (Ab (Aa (I rfl ?_))))
   refine U (.ic rfl oQ) ?_
   refine LW.A rfl (LW.nil (Av ?_))
   exact⟨k1+1+1,⟨by omega,hW⟩,tQ,by first|omega|(dsimp only;omega)⟩
 replace h11:=dQ h11
 refine A9 (Ac (Ac (Aq (Ab (Ae (Az (Ah (Am ?_))))))))
 refine KW.q ?_
 exact⟨rfl,hW⟩
theorem lG(s:Sk)(n:Int)(w:World)(hn:0≤n∧n≤1000)(hg:s.Ok n)(h1:Els w s.ta 1 A4 s.tl)(h2:Els w s.na 1 A4 s.nx):Ret prog 118 #[.agg s.cells,vi n] w fun r w'=>r=.bool true∧Up w w':=by
 obtain⟨w0,rfl,hS⟩:=W0 w
 refine cT 77 func118 rfl ?_
 refine Ae ?_
 refine Ap (.bA rfl) rfl ?_
 rintro _ w1 ⟨B2,rfl,NB2⟩
 have eB2:=NB2.at_
 have zB2:=NB2.size
 replace hS:=hS.Cf NB2
 change Wx.Sep _ _ _ [_]at hS
 refine Az (An (Aa ?_))
 refine U (.fB 1 rfl) ?_
 refine U (.lb rfl (hS.b0.Ad rfl)) ?_
 refine A3 (eC (.ct rfl (.cons (.const _) (.cons (.const _) .nil))) (wB)) rfl (aG s.ta s.tc s.tl 0 59 _ (Els.up h1 hS.Ch) (by have:=hg.tl;omega) hg.ta) ?_
 rintro _ w2 ⟨rfl,uw2⟩
 have zw2:=uw2.size
 replace hS:=hS.up uw2
 refine LW.A rfl (An (Aa ?_))
 refine U (.fB 4 rfl) ?_
 refine U (.lb rfl (hS.b0.Ad rfl)) ?_
 refine I rfl ?_
 refine U (.sub (.t rfl) (.const _) oQ oQ) ?_
 refine A3 (eC (.ct rfl (.cons (.const _) (.cu rfl))) (wB)) rfl (aG s.na s.nc s.nx 0 (n-1) _ (Els.up h2 hS.Ch) (by have:=hg.nl;omega) hg.nx) ?_
 rintro _ w3 ⟨rfl,uw3⟩
 have zw3:=uw3.size
 replace hS:=hS.up uw3
 refine LW.A rfl (An ?_)
 cases hq3:decide (s.bk= -1)with
 |true=>
  obtain⟨e1,e2⟩:=hg.bk.resolve_right (fun h=>by have:=b8 hq3;omega)
  refine Aa ?_
  refine U (.fB 5 rfl) ?_
  refine U (.lb rfl (hS.b0.Ad rfl)) ?_
  refine U (.tr (PEv.eql (.t rfl) (.const _)) (bj e1)) ?_
  refine I rfl ?_
  refine Ar ?_
  refine U (.fB 6 rfl) ?_
  refine Ar ?_
  refine U (.lb rfl (hS.b0.Ad rfl)) ?_
  refine Ar ?_
  refine U (.tr (PEv.eql (.t rfl) (.const _)) (bj e2)) ?_
  refine U (.pa rfl (fun hp=>wQ)) ?_
  refine I rfl ?_
  refine Bi ?_
  refine Bi ?_
  refine Bi ?_
  refine Bi ?_
  refine Bi ?_
  refine Bi ?_
  refine It rfl rfl rfl rfl rfl rfl ?_
  refine It rfl rfl rfl rfl rfl rfl ?_
  refine It rfl rfl rfl rfl rfl rfl ?_
  refine Bi ?_
  refine U (.Ej (b:=false) (.t rfl) (fun hp=>absurd (show true=false from hp) cQ)) ?_
  refine LW.A rfl (An (Aa (I rfl (I rfl ?_))))
  refine Ar ?_
  refine I rfl ?_
  refine U (.pa rfl (fun hp=>wQ)) ?_
  refine I rfl ?_
  refine Ar ?_
  refine I rfl ?_
  refine U (.pa rfl (fun hp=>wQ)) ?_
  refine I rfl ?_
  refine Ar ?_
  refine U (.fB 0 rfl) ?_
  refine Ar ?_
  refine U (.lb rfl (hS.b0.Ad rfl)) ?_
  refine Ar ?_
  refine A3 (eC (.ct rfl (.cons (.const _) (.cons (.const _) .nil))) (Nu)) rfl (E6 _ _ _ _ (by have:=hg.rc;omega)) ?_
  rintro _ w4 ⟨rfl,uw4⟩
  have zw4:=uw4.size
  replace hS:=hS.up uw4
  refine U (.pa rfl (fun hp=>wQ)) ?_
  refine I rfl ?_
  refine Ar ?_
  refine U (.fB 1 rfl) ?_
  refine Ar ?_
  refine U (.lb rfl (hS.b0.Ad rfl)) ?_
  refine Ar ?_
  refine U (.Cl ky (.t rfl)) ?_
  refine Ar ?_
  refine A3 (eC (.ct rfl (.cons (.const _) (.cons (.const _) .nil))) (Nu)) rfl (E6 _ _ _ _ (by have:=hg.tl;omega)) ?_
  rintro _ w5 ⟨rfl,uw5⟩
  have zw5:=uw5.size
  replace hS:=hS.up uw5
  refine U (.pa rfl (fun hp=>wQ)) ?_
  refine I rfl ?_
  refine Ar ?_
  refine U (.fB 4 rfl) ?_
  refine Ar ?_
  refine U (.lb rfl (hS.b0.Ad rfl)) ?_
  refine Ar ?_
  refine U (.Cl ky (.t rfl)) ?_
  refine Ar ?_
  refine U (.tr (PEv.leq (.t rfl) (.const _)) (bj (by have:=hg.nl;omega))) ?_
  refine U (.pa rfl (fun hp=>wQ)) ?_
  refine I rfl ?_
  refine Ar ?_
  refine U (.fB 2 rfl) ?_
  refine Ar ?_
  refine U (.lb rfl (hS.b0.Ad rfl)) ?_
  refine Ar ?_
  refine U (.tr (PEv.geq (.t rfl) (.const _)) (bj (by have:=hg.mn;omega))) ?_
  refine U (.pa rfl (fun hp=>wQ)) ?_
  refine I rfl ?_
  refine Ar ?_
  refine U (.fB 2 rfl) ?_
  refine Ar ?_
  refine U (.lb rfl (hS.b0.Ad rfl)) ?_
  refine Ar ?_
  refine U (.fB 3 rfl) ?_
  refine Ar ?_
  refine U (.lb rfl (hS.b0.Ad rfl)) ?_
  refine Ar ?_
  refine U (.tr (PEv.leq (.t rfl) (.t rfl)) (bj (by have:=hg.mn;omega))) ?_
  refine U (.pa rfl (fun hp=>wQ)) ?_
  refine I rfl ?_
  refine Ar ?_
  refine U (.fB 3 rfl) ?_
  refine Ar ?_
  refine U (.lb rfl (hS.b0.Ad rfl)) ?_
  refine Ar ?_
  refine U (.tr (PEv.leq (.t rfl) (.const _)) (bj (by have:=hg.mn;omega))) ?_
  refine U (.pa rfl (fun hp=>wQ)) ?_
  refine LW.A rfl (Ah (Am ?_))
  refine KW.q ?_
  exact⟨rfl,hS.Ch⟩
 |false=>
  obtain⟨e1,e2⟩:=hg.bk.resolve_left (fun h=>by have:=cr hq3;omega)
  refine Aa ?_
  refine U (.fB 5 rfl) ?_
  refine U (.lb rfl (hS.b0.Ad rfl)) ?_
  refine U (.fa (PEv.eql (.t rfl) (.const _)) (bx oQ)) ?_
  refine I rfl ?_
  refine Bi ?_
  refine Bi ?_
  refine Bi ?_
  refine U (.C6 (b:=false) (.t rfl) (fun hp=>absurd (show false=true from hp) cQ)) ?_
  refine I rfl ?_
  refine Ar ?_
  refine U (.fB 5 rfl) ?_
  refine Ar ?_
  refine U (.lb rfl (hS.b0.Ad rfl)) ?_
  refine Ar ?_
  refine I rfl ?_
  refine Ar ?_
  refine U (.sub (.t rfl) (.const _) oQ oQ) ?_
  refine Ar ?_
  refine A3 (eC (.ct rfl (.cons (.const _) (.cu rfl))) (Nu)) rfl (E6 _ _ _ _ oQ) ?_
  rintro _ w6 ⟨rfl,uw6⟩
  have zw6:=uw6.size
  replace hS:=hS.up uw6
  refine Ar ?_
  refine I rfl ?_
  refine Ar ?_
  refine U (.fB 6 rfl) ?_
  refine Ar ?_
  refine U (.lb rfl (hS.b0.Ad rfl)) ?_
  refine Ar ?_
  refine A3 (eC (.ct rfl (.cons (.const _) (.cons (.const _) .nil))) (Nu)) rfl (E6 _ _ _ _ oQ) ?_
  rintro _ w7 ⟨rfl,uw7⟩
  have zw7:=uw7.size
  replace hS:=hS.up uw7
  refine Ar ?_
  refine U (.pa rfl (fun hp=>wQ)) ?_
  refine U (.po rfl (fun hp=>wQ)) ?_
  refine LW.A rfl (An (Aa (I rfl (I rfl ?_))))
  refine Ar ?_
  refine I rfl ?_
  refine U (.pa rfl (fun hp=>wQ)) ?_
  refine I rfl ?_
  refine Ar ?_
  refine I rfl ?_
  refine U (.pa rfl (fun hp=>wQ)) ?_
  refine I rfl ?_
  refine Ar ?_
  refine U (.fB 0 rfl) ?_
  refine Ar ?_
  refine U (.lb rfl (hS.b0.Ad rfl)) ?_
  refine Ar ?_
  refine A3 (eC (.ct rfl (.cons (.const _) (.cons (.const _) .nil))) (Nu)) rfl (E6 _ _ _ _ (by have:=hg.rc;omega)) ?_
  rintro _ w8 ⟨rfl,uw8⟩
  have zw8:=uw8.size
  replace hS:=hS.up uw8
  refine U (.pa rfl (fun hp=>wQ)) ?_
  refine I rfl ?_
  refine Ar ?_
  refine U (.fB 1 rfl) ?_
  refine Ar ?_
  refine U (.lb rfl (hS.b0.Ad rfl)) ?_
  refine Ar ?_
  refine U (.Cl ky (.t rfl)) ?_
  refine Ar ?_
  refine A3 (eC (.ct rfl (.cons (.const _) (.cons (.const _) .nil))) (Nu)) rfl (E6 _ _ _ _ (by have:=hg.tl;omega)) ?_
  rintro _ w9 ⟨rfl,uw9⟩
  have zw9:=uw9.size
  replace hS:=hS.up uw9
  refine U (.pa rfl (fun hp=>wQ)) ?_
  refine I rfl ?_
  refine Ar ?_
  refine U (.fB 4 rfl) ?_
  refine Ar ?_
  refine U (.lb rfl (hS.b0.Ad rfl)) ?_
  refine Ar ?_
  refine U (.Cl ky (.t rfl)) ?_
  refine Ar ?_
  refine U (.tr (PEv.leq (.t rfl) (.const _)) (bj (by have:=hg.nl;omega))) ?_
  refine U (.pa rfl (fun hp=>wQ)) ?_
  refine I rfl ?_
  refine Ar ?_
  refine U (.fB 2 rfl) ?_
  refine Ar ?_
  refine U (.lb rfl (hS.b0.Ad rfl)) ?_
  refine Ar ?_
  refine U (.tr (PEv.geq (.t rfl) (.const _)) (bj (by have:=hg.mn;omega))) ?_
  refine U (.pa rfl (fun hp=>wQ)) ?_
  refine I rfl ?_
  refine Ar ?_
  refine U (.fB 2 rfl) ?_
  refine Ar ?_
  refine U (.lb rfl (hS.b0.Ad rfl)) ?_
  refine Ar ?_
  refine U (.fB 3 rfl) ?_
  refine Ar ?_
  refine U (.lb rfl (hS.b0.Ad rfl)) ?_
  refine Ar ?_
  refine U (.tr (PEv.leq (.t rfl) (.t rfl)) (bj (by have:=hg.mn;omega))) ?_
  refine U (.pa rfl (fun hp=>wQ)) ?_
  refine I rfl ?_
  refine Ar ?_
  refine U (.fB 3 rfl) ?_
  refine Ar ?_
  refine U (.lb rfl (hS.b0.Ad rfl)) ?_
  refine Ar ?_
  refine U (.tr (PEv.leq (.t rfl) (.const _)) (bj (by have:=hg.mn;omega))) ?_
  refine U (.pa rfl (fun hp=>wQ)) ?_
  refine LW.A rfl (Ah (Am ?_))
  refine KW.q ?_
  exact⟨rfl,hS.Ch⟩
theorem aH(sa:Option Addr)(sc:Nat)(L:List Sk)(w:World)(hF:FlG w sa none L []):Ret prog 41 #[.agg (Cx sa L.length sc none 0 0)] w fun r w'=>r=.bool true∧Up w w':=by
 obtain⟨w0,rfl,hS⟩:=W0 w
 have hlen:=hF.len
 refine cT 73 func41 rfl ?_
 refine Ae ?_
 refine Ap (.bA rfl) rfl ?_
 rintro _ w1 ⟨B1,rfl,NB1⟩
 have eB1:=NB1.at_
 have zB1:=NB1.size
 replace hS:=hS.Cf NB1
 change Wx.Sep _ _ _ [_]at hS
 refine Az (An (Aa ?_))
 refine U (.fB 2 rfl) ?_
 refine U (.lb rfl (hS.b0.Ad rfl)) ?_
 refine U (.Cl k_ (.t rfl)) ?_
 refine LW.A rfl (An (Ae ?_))
 refine U (.fB 0 rfl) ?_
 refine U (.lb rfl (hS.b0.Ad rfl)) ?_
 refine U (.fB 1 rfl) ?_
 refine U (.lb rfl (hS.b0.Ad rfl)) ?_
 refine A3 (eC (.u rfl rfl) (BP)) rfl (eH _) ?_
 rintro _ w2 ⟨rfl,uw2⟩
 have zw2:=uw2.size
 replace hS:=hS.up uw2
 refine U (.n1 rfl) ?_
 refine I rfl ?_
 refine Ar ?_
 refine I rfl ?_
 refine Ar ?_
 refine A3 (eC (.ct rfl (.cons (.const _) (.cons (.const _) .nil))) (Nu)) rfl (E6 _ _ _ _ oQ) ?_
 rintro _ w3 ⟨rfl,uw3⟩
 have zw3:=uw3.size
 replace hS:=hS.up uw3
 refine Ar ?_
 refine U (.n1 rfl) ?_
 refine U (.po rfl (fun hp=>wQ)) ?_
 refine I rfl ?_
 refine Ar ?_
 refine U (.fB 3 rfl) ?_
 refine Ar ?_
 refine U (.lb rfl (hS.b0.Ad rfl)) ?_
 refine Ar ?_
 refine U (.Cl ly (.t rfl)) ?_
 refine Ar ?_
 refine U (.fa (PEv.gtr (.t rfl) (.const _)) (rfl)) ?_
 refine U (.po rfl (fun hp=>wQ)) ?_
 refine Ah ?_
 refine CW.f rfl ?_
 refine Aj (Ab (Ak (Ae (Az (Ah (Ai ?_))))))
 refine A7 (σ:=Nat) (fun s w=>(s≤L.length)∧(Wx.Sep no w0 w [A5 B1 (Cx sa L.length sc none 0 0) 29])) (fun s=>[(4,.eq (vi (s:Int)))]) ([(1,.eq _),(3,.eq _)]) (fun s=>L.length-s) 0 ?_ tQ ?_
 ·exact⟨a_ _,hS⟩
 rintro k w4 ⟨hk,hS⟩
 refine Ak (Ae (I rfl (I rfl ?_)))
 refine U (.l2 rfl rfl) ?_
 refine Ah ?_
 refine CW.b rfl (fun h28=>?_) (fun h28=>?_)
 ·replace h28:=dQ h28
  refine Aj (Ab (Ak (Ai (Ak ?_))))
  have hkl:k<L.length:=co.1 h28
  obtain⟨s,hs⟩:=Af (xs:=L) (i:=k) hkl
  obtain⟨Bs,os,as_,hcs⟩:=(Els.up hF.E hS.Ch) k s hs
  refine Aa ?_
  refine U (.fB 2 rfl) ?_
  refine U (.lb rfl (hS.b0.Ad rfl)) ?_
  refine I rfl ?_
  refine U (.Ao k_ lr (j:=k) (.t rfl) (.t rfl) oQ as_) ?_
  refine U (.lc rfl (hcs)) ?_
  refine I rfl ?_
  refine A3 (eC (.u rfl rfl) (BQ)) rfl (lG s L.length _ oQ (hF.g s (ai hs)) (Els.up (hF.p s (ai hs)).1 hS.Ch) (Els.up (hF.p s (ai hs)).2 hS.Ch)) ?_
  rintro _ w5 ⟨rfl,uw5⟩
  have zw5:=uw5.size
  replace hS:=hS.up uw5
  refine U (.n1 rfl) ?_
  refine Ah ?_
  refine CW.f rfl ?_
  refine Aj (Al (Ab (Aa (I rfl ?_))))
  refine U (.ic rfl oQ) ?_
  refine LW.A rfl (LW.nil (Av ?_))
  exact⟨k+1,⟨by omega,hS⟩,tQ,by first|omega|(dsimp only;omega)⟩
 replace h28:=dQ h28
 refine A9 (Ac (Ac (Aq (Ab (Ak (Ae (Az (Ah (Ai ?_)))))))))
 refine A7 (σ:=Nat) (fun s w=>(s=0)∧(Wx.Sep no w0 w [A5 B1 (Cx sa L.length sc none 0 0) 29])) (fun s=>[(5,.eq (vi (s:Int)))]) ([(1,.eq _),(3,.eq _)]) (fun s=>1-s) 0 ?_ tQ ?_
 ·exact⟨rfl,hS⟩
 rintro j w6 ⟨hj,hS⟩
 subst hj
 refine Ak (Ae (I rfl ?_))
 refine U (.fB 3 rfl) ?_
 refine U (.lb rfl (hS.b0.Ad rfl)) ?_
 refine U (.Cl ly (.t rfl)) ?_
 refine U (.fa (PEv.l2 rfl rfl) (rfl)) ?_
 refine Ah ?_
 refine CW.f rfl ?_
 refine A9 (Ac (Ac (Aq (Ab (Ae (Az (Ah (Am ?_))))))))
 refine KW.q ?_
 exact⟨rfl,hS.Ch⟩
theorem lH(sa:Option Addr)(sc:Nat)(L:List Sk)(w:World)(hF:FlG w sa none L [])(hL:FlS L):Ret prog 18 #[.agg (Cx sa L.length sc none 0 0)] w fun r w'=>r=.tuple #[.string (bs (Fj L)),vi 0]∧Up w w':=by
 obtain⟨w0,rfl,hS⟩:=W0 w
 have hlen:=hF.len
 refine cT 54 func18 rfl ?_
 refine Ae ?_
 refine Ap (.bA rfl) rfl ?_
 rintro _ w1 ⟨B1,rfl,NB1⟩
 have eB1:=NB1.at_
 have zB1:=NB1.size
 replace hS:=hS.Cf NB1
 change Wx.Sep _ _ _ [_]at hS
 refine Az (Az (An (Ae ?_)))
 refine U (.lc rfl (hS.b0.agg)) ?_
 refine A3 (eC (.o rfl) (HC)) rfl (aH sa sc L _ (hF.up hS.Ch)) ?_
 rintro _ w2 ⟨rfl,uw2⟩
 have zw2:=uw2.size
 replace hS:=hS.up uw2
 refine U (.n1 rfl) ?_
 refine Ah ?_
 refine CW.f rfl ?_
 refine Aj (Ab (Ak ?_))
 have d2:=(Ev (n:=2) ⟨by decide,by decide⟩).2.2.1
 have d5:=(Ev (n:=5) ⟨by decide,by decide⟩).2.2.1
 refine C0 kQ kQ rfl rfl ?_
 refine J (.fB 0 rfl) ?_
 refine J (.lb rfl (hS.b0.Ad rfl)) ?_
 refine HW.c (fun a w _ ha=>Bh (.cu rfl) (Tt) a ha) rfl rfl (fun w hu=>Fa 2 ⟨by decide,by decide⟩ w) ?_
 refine J (.Fk ([109,111,118,101,32]) (Dx 2) (.const _) (.t rfl) (by first|omega|(simp only[a8,bp];omega)) (by first|omega|(simp only[am,a8,bp];omega))) ?_
 refine J (.Fk ([109,111,118,101,32]++Dx 2) ([46,46]) (.t rfl) (.const _) (by first|omega|(simp only[am,a8,bp];omega)) (by first|omega|(simp only[a8,bp];omega))) ?_
 refine J (.fB 1 rfl) ?_
 refine J (.lb rfl (hS.b0.Ad rfl)) ?_
 refine HW.c (fun a w _ ha=>Bh (.cu rfl) (Tt) a ha) rfl rfl (fun w hu=>Fa 5 ⟨by decide,by decide⟩ w) ?_
 refine J (.Fk (([109,111,118,101,32]++Dx 2)++[46,46]) (Dx 5) (.t rfl) (.t rfl) (by first|omega|(simp only[am,a8,bp];omega)) (by first|omega|(simp only[am,a8,bp];omega))) ?_
 refine J (.Fk ((([109,111,118,101,32]++Dx 2)++[46,46])++Dx 5) ([10]) (.t rfl) (.const _) (by first|omega|(simp only[am,a8,bp];omega)) (by first|omega|(simp only[a8,bp];omega))) ?_
 refine J (.assign (.t rfl)) ?_
 refine HW.nil ?_
 intro w3 uw3
 have zw3:=uw3.size
 replace hS:=hS.up uw3
 refine Ab (Ak (Ak ?_))
 have ep:(((([109,111,118,101,32]:List UInt8)++Dx 2)++[46,46])++Dx 5)++[10]=mM L 0:=by unfold mM Gp K1;simp[Dj,Lx]
 rw[ep]
 refine Aa (Az (Ah (Ai ?_)))
 refine A7 (σ:=Nat) (fun s w=>(s≤L.length)∧(Wx.Sep no w0 w [A5 B1 (Cx sa L.length sc none 0 0) 29])) (fun s=>[(5,.eq (vi (s:Int))),(4,.eq (.string (bs (mM L s))))]) ([(1,.eq _),(2,.eq _),(3,.eq _)]) (fun s=>L.length-s) 0 ?_ tQ ?_
 ·exact⟨a_ _,hS⟩
 rintro k w4 ⟨hk,hS⟩
 refine Ak (Ae (I rfl ?_))
 refine U (.fB 2 rfl) ?_
 refine U (.lb rfl (hS.b0.Ad rfl)) ?_
 refine U (.Cl k_ (.t rfl)) ?_
 refine U (.l2 rfl rfl) ?_
 refine Ah ?_
 refine CW.b rfl (fun h24=>?_) (fun h24=>?_)
 ·replace h24:=dQ h24
  refine Aj (Ab (Ak (Ai ?_)))
  have hkl:k<L.length:=co.1 h24
  obtain⟨s,hs⟩:=Af (xs:=L) (i:=k) hkl
  obtain⟨Bs,os,as_,hcs⟩:=(Els.up hF.E hS.Ch) k s hs
  have hpl:=zV hL k hk
  have hsl:=Td (k:=k) oQ (hL.sml s (ai hs))
  refine Aa (I rfl (I rfl ?_))
  refine U (.fB 2 rfl) ?_
  refine U (.lb rfl (hS.b0.Ad rfl)) ?_
  refine I rfl ?_
  refine U (.Ao k_ lr (j:=k) (.t rfl) (.t rfl) oQ as_) ?_
  refine U (.lc rfl (hcs)) ?_
  refine A3 (eC (.u rfl rfl) (HD)) rfl (Xh k s oQ (hL.sml s (ai hs)) _ (Els.up (hF.p s (ai hs)).1 hS.Ch) (Els.up (hF.p s (ai hs)).2 hS.Ch)) ?_
  rintro _ w5 ⟨rfl,uw5⟩
  have zw5:=uw5.size
  replace hS:=hS.up uw5
  refine U (.Fk (mM L k) (C8 k s) (.t rfl) (.t rfl) (by first|omega|(simp only[am,a8,bp];omega)) (by first|omega|(simp only[am,a8,bp];omega))) ?_
  refine U (.Fk (mM L k++C8 k s) ([10]) (.t rfl) (.const _) (by first|omega|(simp only[am];omega)) (by first|omega|(simp only[a8,bp];omega))) ?_
  refine LW.A rfl (LW.nil (Al (Ab (Aa (I rfl ?_)))))
  refine U (.ic rfl oQ) ?_
  refine LW.A rfl (LW.nil (Av ?_))
  exact⟨k+1,⟨by omega,hS⟩,⟨rfl,by rw[qI hs];rfl,rfl,rfl,rfl,trivial⟩,by first|omega|(dsimp only;omega)⟩
 replace h24:=dQ h24
 have hkl:k=L.length:=by have:¬k<L.length:=fun h=>h24 (co.2 h);omega
 subst hkl
 rw[iC]
 refine A9 (Ac (Ac (Aq (Ab (Ak (Ae (Az (Ah (Ai ?_)))))))))
 refine A7 (σ:=Nat) (fun s w=>(s=0)∧(Wx.Sep no w0 w [A5 B1 (Cx sa L.length sc none 0 0) 29])) (fun s=>[(6,.eq (vi (s:Int))),(4,.eq (.string (bs (Fj L))))]) ([(1,.eq _),(2,.eq _),(3,.eq _)]) (fun s=>1-s) 0 ?_ tQ ?_
 ·exact⟨rfl,hS⟩
 rintro j w6 ⟨hj,hS⟩
 subst hj
 refine Ak (Ae (I rfl ?_))
 refine U (.fB 3 rfl) ?_
 refine U (.lb rfl (hS.b0.Ad rfl)) ?_
 refine U (.Cl ly (.t rfl)) ?_
 refine U (.fa (PEv.l2 rfl rfl) (rfl)) ?_
 refine Ah ?_
 refine CW.f rfl ?_
 refine A9 (Ac (Ac (Aq (Ab (Ae (I rfl (LW.A rfl (Az (Ah (Am ?_))))))))))
 refine F9 rfl rfl rfl ⟨_,rfl,?_⟩
 exact⟨rfl,hS.Ch⟩
theorem Ez(c n:Int)(w:World)(hn:n≠0):Ret prog 39 #[vi c,vi n] w fun r w'=>r=vi (Ck c n)∧Up w w':=by
 have hW:=Up.refl w
 refine cT 13 func39 rfl ?_
 refine Ae (Az (An (Ae (I rfl ?_))))
 refine U (.lss (.t rfl) (.const _)) ?_
 refine Ah ?_
 refine CW.b rfl (fun h6=>?_) (fun h6=>?_)
 ·replace h6:=dQ h6
  refine Aa (I rfl ?_)
  refine U (.vN (.t rfl) (.const _)) ?_
  refine U (.neg k9 (.t rfl)) ?_
  refine LW.A rfl (An (Aa (I rfl (I rfl ?_))))
  refine U (.rem (.t rfl) (.t rfl) oQ) ?_
  refine LW.A rfl (Ah (Am ?_))
  refine KW.q ?_
  exact⟨by first|(rw[Ck,bg h6])|(rw[Ck,aq (by omega)]),hW⟩
 replace h6:=dQ h6
 refine Aj (Ab (Ae (I rfl (I rfl ?_))))
 refine U (.rem (.t rfl) (.t rfl) oQ) ?_
 refine LW.A rfl (Ah (Am ?_))
 refine KW.q ?_
 exact⟨by first|(rw[Ck,bg h6])|(rw[Ck,aq (by omega)]),hW⟩
set_option maxHeartbeats 1000000 in
theorem qM(ad:Option Addr)(cp:Nat)(xs:List I6)(hxs:∀y∈xs,bG y)(w:World)(hE:Els w ad 6 I6.cells xs):Ret prog 17 #[.slice ad xs.length cp,.slice none 0 0] w fun r w'=>∃av cv L,r=.agg (Cx av L.length cv none 0 0)∧(1≤L.length∧L.length≤8)∧MkS L.length L∧FlK w.heap.size w' av L∧Up w w':=by
 obtain⟨w0,rfl,hS⟩:=W0 w
 obtain⟨n,en⟩:∃n,n=max 1 (min xs.length 8):=⟨_,rfl⟩
 have hn1:1≤n∧n≤8:=by omega
 refine cT 193 func17 rfl ?_
 refine Ae ?_
 refine Ap (.Cb mj) rfl ?_
 rintro _ w1 ⟨B4,rfl,NB4⟩
 have eB4:=NB4.at_
 have zB4:=NB4.size
 replace hS:=hS.Cf NB4
 change Wx.Sep _ _ _ [_]at hS
 refine An (Aa (I rfl ?_))
 refine U (.Cl n8 (.t rfl)) ?_
 refine U (.Dr (v':=vi ((min xs.length 8:Nat):Int)) (Xu (.t rfl) (.const _)) (bh vi oQ)) ?_
 refine U (.Dr (v':=vi (n:Int)) (nN (.const _) (.t rfl)) (bh vi (by rw[en];omega))) ?_
 refine LW.A rfl (An (Aa ?_))
 refine U (.build (cs:=Ee (.slice none 0 0)) underlying29 mj Ml (.cons (.const _) (.cons (.const _) .nil)) rfl) ?_
 refine Ap (.Cb mj) rfl ?_
 rintro _ w2 ⟨B6,rfl,MB6⟩
 refine Ce (.Cc m4 rfl (.t rfl) (.t rfl) (lB rfl) MB6.blk rfl) ?_
 intro w3 LB6
 have NB6:=MB6.set LB6
 clear LB6 MB6
 have eB6:=NB6.at_
 have zB6:=NB6.size
 replace hS:=hS.Cf NB6
 change Wx.Sep _ _ _ [_,_]at hS
 refine An (Ak ?_)
 replace hS:=qG (e:=3) (hS.Lb (OwnS.nil _ 0 33 7 Sk.cells))
 change Wx.Sep _ _ _ [_,_,_,_]at hS
 refine Aa (Az (Ah (Ai ?_)))
 refine A7 (σ:=Nat×Option Addr×Nat×List Sk) (fun s w=>(s.1≤n)∧(MkS n s.2.2.2)∧(s.2.2.2.length=s.1)∧(Wx.Sep no w0 w [A5 B4 lD 29,A5 B6 (Ee (.slice s.2.1 s.2.2.2.length s.2.2.1)) 29,Aw 33 7 Sk.cells (.slice s.2.1 s.2.2.2.length s.2.2.1) (s.2.2.2),Dp ((s.2.2.2).flatMap (Ky 3))])) (fun s=>[(7,.eq (vi (s.1:Int)))]) ([(0,.eq _),(1,.eq _),(4,.eq _),(5,.eq _),(6,.eq _)]) (fun s=>n-s.1) (0,none,0,[]) ?_ tQ ?_
 ·exact⟨a_ _,fun j s h=>by simp at h,rfl,hS⟩
 rintro⟨k,av,cv,L⟩ w4 ⟨hk,hM,hlk,hS⟩
 dsimp only at hk hM hlk hS
 change Wx.Sep _ _ _ [_,_,_,_]at hS
 change CW _ _ _ _ _ _ _ ([(7,.eq (vi (k:Int)))]++_) _
 refine Ak (Ae (I rfl (I rfl ?_)))
 refine U (.l2 rfl rfl) ?_
 refine Ah ?_
 refine CW.b rfl (fun h22=>?_) (fun h22=>?_)
 ·replace h22:=dQ h22
  have hkl:k<n:=co.1 h22
  refine Aj (Ab (Ak (Ai (Ae ?_))))
  refine Ap (.Cb zeroValue109) rfl ?_
  rintro _ w5 ⟨B8,rfl,NB8⟩
  have eB8:=NB8.at_
  have zB8:=NB8.size
  replace hS:=hS.Cf NB8
  change Wx.Sep _ _ _ [_,_,_,_,_]at hS
  refine Ah ?_
  refine Ep (fun a1 W=>Ag 193 [] ([(0,.eq (.slice ad xs.length cp)),(1,.eq (.slice none 0 0)),(4,.eq (.pointer (some ⟨B4,0,none⟩))),(5,.eq (vi (n:Int))),(6,.eq (.pointer (some ⟨B6,0,none⟩))),(7,.eq (vi (k:Int))),(8,.eq (.pointer (some ⟨B8,0,none⟩)))]) a1 W∧∃y,bG y∧Wx.Sep no w0 W [A5 B4 lD 29,A5 B6 (Ee (.slice av L.length cv)) 29,Aw 33 7 Sk.cells (.slice av L.length cv) (L),Dp ((L).flatMap (Ky 3)),A5 B8 (I6.cells y) 109]) ?_ ?_
  ·skip
   refine Ae (I rfl (I rfl ?_))
   refine U (.Cl n8 (.t rfl)) ?_
   refine U (.l2 rfl rfl) ?_
   refine Ah ?_
   refine CW.b rfl (fun h28=>?_) (fun h28=>?_)
   ·replace h28:=dQ h28
    have hkx:k<xs.length:=co.1 h28
    obtain⟨x,hx⟩:=Af (xs:=xs) (i:=k) hkx
    obtain⟨Bx,ox,ax,hcx⟩:=(Els.up hE hS.Ch) k x hx
    refine Aa (I rfl (I rfl ?_))
    refine U (.Ao n8 sizeOf109 (j:=k) (.t rfl) (.t rfl) oQ ax) ?_
    refine U (.lc rfl (hcx)) ?_
    refine Ce (.Cc sizeOf109 rfl (.t rfl) (.t rfl) (I6.one _) hS.b4 rfl) ?_
    intro w6 Nw6
    have zw6:=Nw6.size
    replace hS:=hS.Ec 4 rfl (show Set_ _ w6 _ (I6.cells x) _ from Nw6)
    change Wx.Sep _ _ _ [_,_,_,_,_]at hS
    refine LW.nil ?_
    exact fun a ha=>⟨ha.sub tQ,(by first|exact⟨x,hxs x (ai hx),hS⟩|exact⟨⟨0,0,0,0,0,0⟩,i60,hS⟩)⟩
   replace h28:=dQ h28
   refine Aj ?_
   exact fun a ha=>⟨ha.sub tQ,(by first|exact⟨x,hxs x (ai hx),hS⟩|exact⟨⟨0,0,0,0,0,0⟩,i60,hS⟩)⟩
  rintro a1 w7 ⟨ha,⟨y,hy,hS⟩⟩
  revert a1
  show CW none _ _ _ _ _ _ _ _
  refine Ak ?_
  have hp5:=Fq (c:=y.a) (n:=5) hy.1 cQ
  have hp30:=Fq (c:=y.b) (n:=30) hy.2.1 cQ
  have hp20:=Fq (c:=IntKind.i64.wrap (Int.tdiv y.b 30)) (n:=20) (Oq _) cQ
  obtain⟨mx,emx⟩:∃m,m=1+Ck y.b 30+Ck (IntKind.i64.wrap (Int.tdiv y.b 30)) 20:=⟨_,rfl⟩
  refine Qv 11 9 10 8 9 41 (((⟨0,[],none,0,0,0,[],none,0,0,0⟩:Sk)).cells) [.eq (.pointer (some ⟨B8,0,none⟩)),.eq (vi y.a),.eq (vi (Ck y.a 5)),.eq (vi (1+Ck y.a 5)),.eq (.pointer (some ⟨B8,1,none⟩)),.eq (vi y.b),.eq (vi (Ck y.b 30)),.eq (vi (1+Ck y.b 30)),.eq (.agg ((⟨1+Ck y.a 5,[],none,0,1+Ck y.b 30,0,[],none,0,-1,0⟩:Sk)).cells),.pred fun v _=>∃B,v=.pointer (some ⟨B,0,none⟩),.eq (undef)] [] l5 lr kQ rfl kQ kQ kQ kQ kQ kQ kQ rfl rfl ⟨_,_,_,rfl⟩ _ rfl ⟨_,_,_,rfl⟩ ⟨n_,n_,n_,n_,n_,n_,n_,n_,n_,PhT.pred fun _ _ _ h _=>h,n_,trivial⟩ rfl (fun v W h=>⟨_,h,rfl,Sk.one _⟩) (fun B W=>⟨B,rfl⟩) ?_ ?_
  ·intro W hU0
   have hU:=(Up.drew w7).trans hU0
   have hSW:=hS.up hU
   refine aC (.inr ⟨rfl,TU.p (.Ei (j:=0) l_ k6 (.t rfl) (.const _) cQ) rfl⟩) ?_
   refine aC (.inr ⟨rfl,TU.p (.lb rfl (hSW.b4.Ad rfl)) rfl⟩) ?_
   refine aC (.inr ⟨rfl,TU.c (eC (.ct rfl (.cons (.const _) .nil)) (Qh)) (Ez y.a 5 W cQ) sQ⟩) ?_
   refine aC (.inr ⟨rfl,TU.p (.add (.const _) (.t rfl) oQ oQ) rfl⟩) ?_
   refine aC (.inr ⟨rfl,TU.p (.Ei (j:=1) l_ k6 (.t rfl) (.const _) cQ) rfl⟩) ?_
   refine aC (.inr ⟨rfl,TU.p (.lb rfl (hSW.b4.Ad rfl)) rfl⟩) ?_
   refine aC (.inr ⟨rfl,TU.c (eC (.ct rfl (.cons (.const _) .nil)) (Qh)) (Ez y.b 30 W cQ) sQ⟩) ?_
   refine aC (.inr ⟨rfl,TU.p (.add (.const _) (.t rfl) oQ oQ) rfl⟩) ?_
   refine aC (.inr ⟨rfl,TU.p (.build (cs:=((⟨1+Ck y.a 5,[],none,0,1+Ck y.b 30,0,[],none,0,-1,0⟩:Sk)).cells) underlying33 l5 Js (.ct rfl (.ct rfl (.cons (.const _) .nil))) rfl) rfl⟩) ?_
   refine aC (.inl (.inl rfl)) ?_
   refine aC (.inl (.inr rfl)) ?_
   exact allL.nil
  intro w8 B9 g hU0 zB9_ hB9 hg
  have hU:=(Up.drew w7).trans hU0
  have zw8:=hU.size
  have zdr:w7.drew.heap.size=w7.heap.size:=rfl
  have g41_:g 41=.agg ((⟨1+Ck y.a 5,[],none,0,1+Ck y.b 30,0,[],none,0,-1,0⟩:Sk)).cells:=hg 8 _ 41 cQ rfl rfl
  rw[g41_]at hB9
  replace hB9:Blk w8 B9 (((⟨1+Ck y.a 5,[],none,0,1+Ck y.b 30,0,[],none,0,-1,0⟩:Sk)).cells) 33:=hB9
  change LW _ _ _ _ _ _ _ _ ((9,_)::_) _
  clear hg
  replace hS:=(hS.up (Up.drew _)).add hU0 (A':=A5 B9 (((⟨1+Ck y.a 5,[],none,0,1+Ck y.b 30,0,[],none,0,-1,0⟩:Sk)).cells) 33) hB9 (fun i(e:i=B9)=>by omega)
  change Wx.Sep _ _ _ [_,_,_,_,_,_]at hS
  clear hB9
  refine An ?_
  refine Cz 8 kQ kQ kQ kQ kQ rfl rfl ?_
  refine J (.fB 2 rfl) ?_
  refine J (.lb rfl (hS.b5.Ad rfl)) ?_
  refine J (.Ei (j:=1) l_ k6 (.t rfl) (.const _) cQ) ?_
  refine J (.lb rfl (hS.b4.Ad rfl)) ?_
  refine J (.quo (.t rfl) (.const _) cQ) ?_
  refine HW.c (fun a w _ ha=>Bh (.ct rfl (.cons (.const _) .nil)) (Qh) a ha) rfl rfl (fun w hu=>Ez (IntKind.i64.wrap (Int.tdiv y.b 30)) 20 w cQ) ?_
  refine J (.Dr (v':=vi mx) (PEv.add (.t rfl) (.t rfl) (by dsimp only;omega) (by dsimp only;omega)) (bh vi emx.symm)) ?_
  refine J (.fB 3 rfl) ?_
  refine HW.nil ?_
  intro w9 uw9
  have zw9:=uw9.size
  replace hS:=hS.up uw9
  refine Ce (.store k6 (.t rfl) (.t rfl) rfl hS.b5 bQ) ?_
  intro w10 Nw10
  have zw10:=Nw10.size
  replace hS:=hS.Ec 5 rfl (show Set_ _ w10 _ (((⟨1+Ck y.a 5,[],none,0,1+Ck y.b 30,mx,[],none,0,-1,0⟩:Sk)).cells) _ from Nw10)
  change Wx.Sep _ _ _ [_,_,_,_,_,_]at hS
  refine An (Aa ?_)
  refine U (.Ei (j:=2) l_ k6 (.t rfl) (.const _) cQ) ?_
  refine U (.lb rfl (hS.b4.Ad rfl)) ?_
  refine A3 (eC (.ct rfl (.cons (.const _) .nil)) (Qh)) rfl (Ez (y.c) 6 _ cQ) ?_
  rintro _ w11 ⟨rfl,uw11⟩
  have zw11:=uw11.size
  replace hS:=hS.up uw11
  refine LW.A rfl (An ?_)
  obtain⟨aa,ea⟩:∃a,a=Ck y.c 6:=⟨_,rfl⟩
  have haa:=Fq (c:=y.c) (n:=6) hy.2.2.1 cQ
  rw[←ea]at haa⊢
  refine Aa (I rfl ?_)
  refine Ap (.buildSlice (xs:=([aa]:List Int)) (enc:=A4) (mk:=vi) ky k6 lf rfl cQ (fun _=>rfl) (fun _=>rfl) (.cu rfl) rfl) rfl ?_
  intro v54 w12 hN54
  obtain⟨uw12,B54,rfl,e54,hO54⟩:=NewSl.own hN54 (fun _=>rfl) cQ (by simp[maxLen])
  have zw12:=uw12.size
  replace hS:=hS.add uw12 (A':=Aw 3 1 A4 (.slice (some ⟨B54,0,none⟩) 1 1) ([aa]:List Int)) hO54 (fun i h=>by cases h;exact fh e54.symm)
  change Wx.Sep _ _ _ [_,_,_,_,_,_,_]at hS
  refine U (.fB 1 rfl) ?_
  refine Ce (.store mr (.t rfl) (.t rfl) rfl hS.b5 bQ) ?_
  intro w13 Nw13
  have zw13:=Nw13.size
  replace hS:=hS.Ec 5 rfl (show Set_ _ w13 _ (((⟨1+Ck y.a 5,[aa],some ⟨B54,0,none⟩,1,1+Ck y.b 30,mx,[],none,0,-1,0⟩:Sk)).cells) _ from Nw13)
  change Wx.Sep _ _ _ [_,_,_,_,_,_,_]at hS
  refine Ah ?_
  refine Ep (fun a1 W=>Ag 193 [] ([(0,.eq (.slice ad xs.length cp)),(1,.eq (.slice none 0 0)),(4,.eq (.pointer (some ⟨B4,0,none⟩))),(5,.eq (vi (n:Int))),(6,.eq (.pointer (some ⟨B6,0,none⟩))),(7,.eq (vi (k:Int))),(8,.eq (.pointer (some ⟨B8,0,none⟩))),(9,.eq (.pointer (some ⟨B9,0,none⟩)))]) a1 W∧∃tl ta tc,FU tl∧Wx.Sep no w0 W [A5 B4 lD 29,A5 B6 (Ee (.slice av L.length cv)) 29,Aw 33 7 Sk.cells (.slice av L.length cv) (L),Dp ((L).flatMap (Ky 3)),A5 B8 (I6.cells y) 109,A5 B9 (Sk.cells (⟨1+Ck y.a 5,tl,ta,tc,1+Ck y.b 30,mx,[],none,0,-1,0⟩:Sk)) 33,Aw 3 1 A4 (.slice ta (tl).length tc) (tl)]) ?_ ?_
  ·skip
   refine Ae ?_
   refine U (.Ei (j:=2) l_ k6 (.t rfl) (.const _) cQ) ?_
   refine U (.lb rfl (hS.b4.Ad rfl)) ?_
   refine U (.quo (.t rfl) (.const _) cQ) ?_
   refine A3 (eC (.ct rfl (.cons (.const _) .nil)) (Qh)) rfl (Ez (IntKind.i64.wrap (Int.tdiv y.c 6)) 2 _ cQ) ?_
   rintro _ w14 ⟨rfl,uw14⟩
   have zw14:=uw14.size
   replace hS:=hS.up uw14
   refine U (.eql (.t rfl) (.const _)) ?_
   refine Ah ?_
   refine CW.b rfl (fun h60=>?_) (fun h60=>?_)
   ·replace h60:=dQ h60
    have hp3:=Fq (c:=IntKind.i64.wrap (Int.tdiv y.c 12)) (n:=3) (Oq _) cQ
    refine Iy 10 (fun v w''=>Wx.Sep no w0 w'' [A5 B4 lD 29,A5 B6 (Ee (.slice av L.length cv)) 29,Aw 33 7 Sk.cells (.slice av L.length cv) (L),Dp ((L).flatMap (Ky 3)),A5 B8 (I6.cells y) 109,A5 B9 (Sk.cells (⟨1+Ck y.a 5,[aa],some ⟨B54,0,none⟩,1,1+Ck y.b 30,mx,[],none,0,-1,0⟩:Sk)) 33,Aw 3 1 A4 v [aa,aa+1+Ck (IntKind.i64.wrap (Int.tdiv y.c 12)) 3]]) kQ kQ kQ kQ kQ kQ rfl rfl rfl rfl rfl ?_
    refine J (.fB 1 rfl) ?_
    refine J (.lb rfl (hS.b5.Ad rfl)) ?_
    refine J (.mv rfl) ?_
    refine J (.add (.t rfl) (.const _) oQ oQ) ?_
    refine J (.Ei (j:=2) l_ k6 (.t rfl) (.const _) cQ) ?_
    refine J (.lb rfl (hS.b4.Ad rfl)) ?_
    refine J (.quo (.t rfl) (.const _) cQ) ?_
    refine HW.c (fun a w _ ha=>Bh (.ct rfl (.cons (.const _) .nil)) (Qh) a ha) rfl rfl (fun w hu=>Ez (IntKind.i64.wrap (Int.tdiv y.c 12)) 3 w cQ) ?_
    refine J (.add (.t rfl) (.t rfl) oQ oQ) ?_
    refine HW.r (p:=fun v w=>Sl w v 1 (A4) [aa+1+Ck (IntKind.i64.wrap (Int.tdiv y.c 12)) 3]) (fun _ _ _ h u=>Sl.up h u) rfl (fun w hu a ha=>let⟨v,w',h1,h2⟩:=REv.buildSlice (xs:=[aa+1+Ck (IntKind.i64.wrap (Int.tdiv y.c 12)) 3]) (enc:=A4) (mk:=vi) ky k6 lf rfl bQ (fun _=>rfl) (fun _=>rfl) (.cu rfl) rfl a ha;⟨v,w',h1,h2.q⟩) rfl ?_
    refine HW.nil ⟨fun a w' hu ha=>?_,?_⟩
    ·exact(REv.open (d:=70) (p:=fun v w=>Sl w v 1 A4 [aa+1+Ck (IntKind.i64.wrap (Int.tdiv y.c 12)) 3]) rfl fun vv hv=>(REv.Df (enc:=A4) (bytes:=8) (i:=Tryz.t3) ky kQ rfl rfl rfl rfl cQ (fun _=>rfl) Er (.t rfl) (.t rfl) ((hS.up hu).own 6 rfl) hv (by simp[maxLen]) (by simp)).mono fun v' w'' h=>(hS.up hu).Ft 6 rfl h).y ha
    intro v71 w15 hS
    obtain⟨ad71,cp71,rfl,_⟩:=(hS.own 6 rfl).sl (fun _=>rfl)
    change Wx.Sep _ _ _ [_,_,_,_,_,_,Aw 3 1 A4 (.slice ad71 2 cp71) [aa,aa+1+Ck (IntKind.i64.wrap (Int.tdiv y.c 12)) 3]]at hS
    refine U (.fB 1 rfl) ?_
    refine Ce (.store mr (.t rfl) (.t rfl) (hS.own 6 rfl).one hS.b5 bQ) ?_
    intro w16 Nw16
    have zw16:=Nw16.size
    replace hS:=hS.Ec 5 rfl (show Set_ _ w16 _ (((⟨1+Ck y.a 5,[aa,aa+1+Ck (IntKind.i64.wrap (Int.tdiv y.c 12)) 3],ad71,cp71,1+Ck y.b 30,mx,[],none,0,-1,0⟩:Sk)).cells) _ from Nw16)
    change Wx.Sep _ _ _ [_,_,_,_,_,_,_]at hS
    refine LW.nil ?_
    exact fun a ha=>⟨ha.sub tQ,(by first|exact⟨_,ad71,cp71,⟨aa,haa.1,haa.2,.inr ⟨_,by omega,by omega,rfl⟩⟩,hS⟩|exact⟨_,_,_,⟨aa,haa.1,haa.2,.inl rfl⟩,hS⟩)⟩
   replace h60:=dQ h60
   refine Aj ?_
   exact fun a ha=>⟨ha.sub tQ,(by first|exact⟨_,ad71,cp71,⟨aa,haa.1,haa.2,.inr ⟨_,by omega,by omega,rfl⟩⟩,hS⟩|exact⟨_,_,_,⟨aa,haa.1,haa.2,.inl rfl⟩,hS⟩)⟩
  rintro a1 w17 ⟨ha,⟨tl,ta,tc,htl,hS⟩⟩
  revert a1
  show CW none _ _ _ _ _ _ _ _
  refine Ep (fun a1 W=>Ag 193 [] ([(0,.eq (.slice ad xs.length cp)),(1,.eq (.slice none 0 0)),(4,.eq (.pointer (some ⟨B4,0,none⟩))),(5,.eq (vi (n:Int))),(6,.eq (.pointer (some ⟨B6,0,none⟩))),(7,.eq (vi (k:Int))),(8,.eq (.pointer (some ⟨B8,0,none⟩))),(9,.eq (.pointer (some ⟨B9,0,none⟩)))]) a1 W∧∃nx na nc,FV n k nx∧Wx.Sep no w0 W [A5 B4 lD 29,A5 B6 (Ee (.slice av L.length cv)) 29,Aw 33 7 Sk.cells (.slice av L.length cv) (L),Dp ((L).flatMap (Ky 3)),A5 B8 (I6.cells y) 109,A5 B9 (Sk.cells (⟨1+Ck y.a 5,tl,ta,tc,1+Ck y.b 30,mx,nx,na,nc,-1,0⟩:Sk)) 33,Aw 3 1 A4 (.slice ta (tl).length tc) (tl),Aw 3 1 A4 (.slice na (nx).length nc) (nx)]) ?_ ?_
  ·skip
   refine Ak ?_
   cases hq15:decide (k+1<n)with
   |true=>
    have hkn:=b8 hq15
    refine Aa (I rfl (I rfl ?_))
    refine U (.sub (.t rfl) (.const _) oQ oQ) ?_
    refine U (.tr (PEv.l2 rfl rfl) (bj oQ)) ?_
    refine I rfl ?_
    refine Ar ?_
    refine U (.Ei (j:=3) l_ k6 (.t rfl) (.const _) cQ) ?_
    refine Ar ?_
    refine U (.lb rfl (hS.b4.Ad rfl)) ?_
    refine Ar ?_
    refine A3 (eC (.ct rfl (.cons (.const _) .nil)) (Qh)) rfl (Ez (y.d) 12 _ cQ) ?_
    rintro _ w18 ⟨rfl,uw18⟩
    have zw18:=uw18.size
    replace hS:=hS.up uw18
    refine Ar ?_
    refine U (.gtr (.t rfl) (.const _)) ?_
    refine U (.pa rfl (fun hp=>wQ)) ?_
    refine Ah ?_
    refine CW.b rfl (fun h82=>?_) (fun h82=>?_)
    ·replace h82:=dQ h82
     refine Ae (I rfl ?_)
     refine U (.add (.t rfl) (.const _) oQ oQ) ?_
     refine Ap (.buildSlice (xs:=([(k:Int)+1]:List Int)) (enc:=A4) (mk:=vi) ky k6 lf rfl cQ (fun _=>rfl) (fun _=>rfl) (.cu rfl) rfl) rfl ?_
     intro v85 w19 hN85
     obtain⟨uw19,B85,rfl,e85,hO85⟩:=NewSl.own hN85 (fun _=>rfl) cQ (by simp[maxLen])
     have zw19:=uw19.size
     replace hS:=hS.add uw19 (A':=Aw 3 1 A4 (.slice (some ⟨B85,0,none⟩) 1 1) ([(k:Int)+1]:List Int)) hO85 (fun i h=>by cases h;exact fh e85.symm)
     change Wx.Sep _ _ _ [_,_,_,_,_,_,_,_]at hS
     refine U (.fB 4 rfl) ?_
     refine Ce (.store mr (.t rfl) (.t rfl) rfl hS.b5 bQ) ?_
     intro w20 Nw20
     have zw20:=Nw20.size
     replace hS:=hS.Ec 5 rfl (show Set_ _ w20 _ (((⟨1+Ck y.a 5,tl,ta,tc,1+Ck y.b 30,mx,[(k:Int)+1],some ⟨B85,0,none⟩,1,-1,0⟩:Sk)).cells) _ from Nw20)
     change Wx.Sep _ _ _ [_,_,_,_,_,_,_,_]at hS
     refine An ?_
     have hp17:=Fq (c:=IntKind.i64.wrap (Int.tdiv y.d 12)) (n:=3) (Oq _) cQ
     refine Aa (I rfl ?_)
     refine U (.add (.t rfl) (.const _) oQ oQ) ?_
     refine U (.Ei (j:=3) l_ k6 (.t rfl) (.const _) cQ) ?_
     refine U (.lb rfl (hS.b4.Ad rfl)) ?_
     refine U (.quo (.t rfl) (.const _) cQ) ?_
     refine A3 (eC (.ct rfl (.cons (.const _) .nil)) (Qh)) rfl (Ez (IntKind.i64.wrap (Int.tdiv y.d 12)) 3 _ cQ) ?_
     rintro _ w21 ⟨rfl,uw21⟩
     have zw21:=uw21.size
     replace hS:=hS.up uw21
     refine U (.add (.t rfl) (.t rfl) oQ oQ) ?_
     refine LW.A rfl (An ?_)
     cases hq18:decide ((k:Int)+2+Ck (IntKind.i64.wrap (Int.tdiv y.d 12)) 3<n)with
     |true=>
      have hkk:=b8 hq18
      refine Aa (I rfl (I rfl ?_))
      refine U (.tr (PEv.l2 rfl rfl) (hq18)) ?_
      refine I rfl ?_
      refine Ar ?_
      refine U (.Ei (j:=3) l_ k6 (.t rfl) (.const _) cQ) ?_
      refine Ar ?_
      refine U (.lb rfl (hS.b4.Ad rfl)) ?_
      refine Ar ?_
      refine U (.quo (.t rfl) (.const _) cQ) ?_
      refine Ar ?_
      refine A3 (eC (.ct rfl (.cons (.const _) .nil)) (Qh)) rfl (Ez (IntKind.i64.wrap (Int.tdiv y.d 36)) 3 _ cQ) ?_
      rintro _ w22 ⟨rfl,uw22⟩
      have zw22:=uw22.size
      replace hS:=hS.up uw22
      refine Ar ?_
      refine U (.eql (.t rfl) (.const _)) ?_
      refine U (.pa rfl (fun hp=>wQ)) ?_
      refine Ah ?_
      refine CW.b rfl (fun h103=>?_) (fun h103=>?_)
      ·replace h103:=dQ h103
       refine Aa ?_
       refine U (.fB 4 rfl) ?_
       refine U (.lb rfl (hS.b5.Ad rfl)) ?_
       refine I rfl ?_
       refine Ap (.buildSlice (xs:=[(k:Int)+2+Ck (IntKind.i64.wrap (Int.tdiv y.d 12)) 3]) (enc:=A4) (mk:=vi) ky k6 lf rfl cQ (fun _=>rfl) (fun _=>rfl) (.cu rfl) rfl) rfl ?_
       rintro _ w23 ⟨B107,cB107,rfl,NB107,yB107,xB107⟩
       have eB107:=NB107.at_
       have zB107:=NB107.size
       replace hS:=hS.up NB107.up
       have hE107:=xB107
       refine Ap (.Df (enc:=A4) (bytes:=8) (i:=Tryz.t3) ky kQ rfl rfl rfl rfl cQ (fun _=>rfl) Er (.t rfl) (.t rfl) (hS.own 7 rfl) (Ay hE107) (by simp[maxLen]) (by simp)) rfl ?_
       intro v108 w24 Gw24
       have zw24:=Gw24.fr.size
       replace hS:=hS.Ft 7 rfl Gw24
       change Wx.Sep _ _ _ [_,_,_,_,_,_,_,_]at hS
       obtain⟨ad108,cp108,rfl,_⟩:=(hS.own 7 rfl).sl (fun _=>rfl)
       change Wx.Sep _ _ _ [_,_,_,_,_,_,_,Aw 3 1 A4 (.slice ad108 2 cp108) [(k:Int)+1,(k:Int)+2+Ck (IntKind.i64.wrap (Int.tdiv y.d 12)) 3]]at hS
       refine U (.fB 4 rfl) ?_
       refine Ce (.store mr (.t rfl) (.t rfl) (hS.own 7 rfl).one hS.b5 bQ) ?_
       intro w25 Nw25
       have zw25:=Nw25.size
       replace hS:=hS.Ec 5 rfl (show Set_ _ w25 _ (((⟨1+Ck y.a 5,tl,ta,tc,1+Ck y.b 30,mx,[(k:Int)+1,(k:Int)+2+Ck (IntKind.i64.wrap (Int.tdiv y.d 12)) 3],ad108,cp108,-1,0⟩:Sk)).cells) _ from Nw25)
       change Wx.Sep _ _ _ [_,_,_,_,_,_,_,_]at hS
       refine LW.nil ?_
       exact fun a ha=>⟨ha.sub tQ,(by first|exact⟨_,ad108,cp108,.inr ⟨hkn,.inr ⟨_,by omega,by omega,rfl⟩⟩,hS⟩|exact⟨_,_,_,.inr ⟨hkn,.inl rfl⟩,hS⟩|exact⟨[],none,0,.inl rfl,hS.Lb (OwnS.nil _ 0 3 1 A4)⟩)⟩
      replace h103:=dQ h103
      refine Aj ?_
      exact fun a ha=>⟨ha.sub tQ,(by first|exact⟨_,ad108,cp108,.inr ⟨hkn,.inr ⟨_,by omega,by omega,rfl⟩⟩,hS⟩|exact⟨_,_,_,.inr ⟨hkn,.inl rfl⟩,hS⟩|exact⟨[],none,0,.inl rfl,hS.Lb (OwnS.nil _ 0 3 1 A4)⟩)⟩
     |false=>
      refine Aa (I rfl (I rfl ?_))
      refine U (.fa (PEv.l2 rfl rfl) (hq18)) ?_
      refine I rfl ?_
      refine Bi ?_
      refine Bi ?_
      refine Bi ?_
      refine Bi ?_
      refine Bi ?_
      refine U (.C6 (b:=false) (.t rfl) (fun hp=>absurd (show false=true from hp) cQ)) ?_
      refine Ah ?_
      refine CW.f rfl ?_
      refine Aj ?_
      exact fun a ha=>⟨ha.sub tQ,(by first|exact⟨_,ad108,cp108,.inr ⟨hkn,.inr ⟨_,by omega,by omega,rfl⟩⟩,hS⟩|exact⟨_,_,_,.inr ⟨hkn,.inl rfl⟩,hS⟩|exact⟨[],none,0,.inl rfl,hS.Lb (OwnS.nil _ 0 3 1 A4)⟩)⟩
    replace h82:=dQ h82
    refine Aj ?_
    exact fun a ha=>⟨ha.sub tQ,(by first|exact⟨_,ad108,cp108,.inr ⟨hkn,.inr ⟨_,by omega,by omega,rfl⟩⟩,hS⟩|exact⟨_,_,_,.inr ⟨hkn,.inl rfl⟩,hS⟩|exact⟨[],none,0,.inl rfl,hS.Lb (OwnS.nil _ 0 3 1 A4)⟩)⟩
   |false=>
    have hkn:=cr hq15
    refine Aa (I rfl (I rfl ?_))
    refine U (.sub (.t rfl) (.const _) oQ oQ) ?_
    refine U (.fa (PEv.l2 rfl rfl) (bx oQ)) ?_
    refine I rfl ?_
    refine Bi ?_
    refine Bi ?_
    refine Bi ?_
    refine Bi ?_
    refine U (.C6 (b:=false) (.t rfl) (fun hp=>absurd (show false=true from hp) cQ)) ?_
    refine Ah ?_
    refine CW.f rfl ?_
    refine Aj ?_
    exact fun a ha=>⟨ha.sub tQ,(by first|exact⟨_,ad108,cp108,.inr ⟨hkn,.inr ⟨_,by omega,by omega,rfl⟩⟩,hS⟩|exact⟨_,_,_,.inr ⟨hkn,.inl rfl⟩,hS⟩|exact⟨[],none,0,.inl rfl,hS.Lb (OwnS.nil _ 0 3 1 A4)⟩)⟩
  rintro a1 w26 ⟨ha,⟨nx,na,nc,hnx,hS⟩⟩
  revert a1
  show CW none _ _ _ _ _ _ _ _
  refine Ep (fun a1 W=>Ag 193 [] ([(0,.eq (.slice ad xs.length cp)),(1,.eq (.slice none 0 0)),(4,.eq (.pointer (some ⟨B4,0,none⟩))),(5,.eq (vi (n:Int))),(6,.eq (.pointer (some ⟨B6,0,none⟩))),(7,.eq (vi (k:Int))),(8,.eq (.pointer (some ⟨B8,0,none⟩))),(9,.eq (.pointer (some ⟨B9,0,none⟩)))]) a1 W∧∃bk lm:Int,(bk= -1∧lm=0∨(0≤bk∧bk≤k)∧1≤lm∧lm≤3)∧Wx.Sep no w0 W [A5 B4 lD 29,A5 B6 (Ee (.slice av L.length cv)) 29,Aw 33 7 Sk.cells (.slice av L.length cv) (L),Dp ((L).flatMap (Ky 3)),A5 B8 (I6.cells y) 109,A5 B9 (Sk.cells (⟨1+Ck y.a 5,tl,ta,tc,1+Ck y.b 30,mx,nx,na,nc,bk,lm⟩:Sk)) 33,Aw 3 1 A4 (.slice ta (tl).length tc) (tl),Aw 3 1 A4 (.slice na (nx).length nc) (nx)]) ?_ ?_
  ·skip
   refine Ae ?_
   refine U (.Ei (j:=4) l_ k6 (.t rfl) (.const _) cQ) ?_
   refine U (.lb rfl (hS.b4.Ad rfl)) ?_
   refine A3 (eC (.ct rfl (.cons (.const _) .nil)) (Qh)) rfl (Ez (y.e) 4 _ cQ) ?_
   rintro _ w27 ⟨rfl,uw27⟩
   have zw27:=uw27.size
   replace hS:=hS.up uw27
   refine U (.eql (.t rfl) (.const _)) ?_
   refine Ah ?_
   refine CW.b rfl (fun h113=>?_) (fun h113=>?_)
   ·replace h113:=dQ h113
    refine Ak ?_
    have hb4:=Fq (c:=IntKind.i64.wrap (Int.tdiv y.e 4)) (n:=(k:Int)+1) (Oq _) oQ
    have hb5:=Fq (c:=y.f) (n:=3) hy.2.2.2.2.2 cQ
    refine Aa ?_
    refine U (.Ei (j:=4) l_ k6 (.t rfl) (.const _) cQ) ?_
    refine U (.lb rfl (hS.b4.Ad rfl)) ?_
    refine U (.quo (.t rfl) (.const _) cQ) ?_
    refine I rfl ?_
    refine U (.add (.t rfl) (.const _) oQ oQ) ?_
    refine A3 (eC (.u rfl rfl) (Qh)) rfl (Ez (IntKind.i64.wrap (Int.tdiv y.e 4)) ((k:Int)+1) _ oQ) ?_
    rintro _ w28 ⟨rfl,uw28⟩
    have zw28:=uw28.size
    replace hS:=hS.up uw28
    refine U (.fB 5 rfl) ?_
    refine Ce (.store k6 (.t rfl) (.t rfl) rfl hS.b5 bQ) ?_
    intro w29 Nw29
    have zw29:=Nw29.size
    replace hS:=hS.Ec 5 rfl (show Set_ _ w29 _ (((⟨1+Ck y.a 5,tl,ta,tc,1+Ck y.b 30,mx,nx,na,nc,Ck (IntKind.i64.wrap (Int.tdiv y.e 4)) ((k:Int)+1),0⟩:Sk)).cells) _ from Nw29)
    change Wx.Sep _ _ _ [_,_,_,_,_,_,_,_]at hS
    refine Ah (Aa ?_)
    refine U (.Ei (j:=5) l_ k6 (.t rfl) (.const _) cQ) ?_
    refine U (.lb rfl (hS.b4.Ad rfl)) ?_
    refine A3 (eC (.ct rfl (.cons (.const _) .nil)) (Qh)) rfl (Ez (y.f) 3 _ cQ) ?_
    rintro _ w30 ⟨rfl,uw30⟩
    have zw30:=uw30.size
    replace hS:=hS.up uw30
    refine U (.add (.const _) (.t rfl) oQ oQ) ?_
    refine U (.fB 6 rfl) ?_
    refine Ce (.store k6 (.t rfl) (.t rfl) rfl hS.b5 bQ) ?_
    intro w31 Nw31
    have zw31:=Nw31.size
    replace hS:=hS.Ec 5 rfl (show Set_ _ w31 _ (((⟨1+Ck y.a 5,tl,ta,tc,1+Ck y.b 30,mx,nx,na,nc,Ck (IntKind.i64.wrap (Int.tdiv y.e 4)) ((k:Int)+1),1+Ck y.f 3⟩:Sk)).cells) _ from Nw31)
    change Wx.Sep _ _ _ [_,_,_,_,_,_,_,_]at hS
    refine LW.nil ?_
    exact fun a ha=>⟨ha.sub tQ,(by first|exact⟨_,_,.inr ⟨⟨hb4.1,by omega⟩,by omega,by omega⟩,hS⟩|exact⟨-1,0,.inl ⟨rfl,rfl⟩,hS⟩)⟩
   replace h113:=dQ h113
   refine Aj ?_
   exact fun a ha=>⟨ha.sub tQ,(by first|exact⟨_,_,.inr ⟨⟨hb4.1,by omega⟩,by omega,by omega⟩,hS⟩|exact⟨-1,0,.inl ⟨rfl,rfl⟩,hS⟩)⟩
  rintro a1 w32 ⟨ha,⟨bk,lm,hbk,hS⟩⟩
  revert a1
  show CW none _ _ _ _ _ _ _ _
  refine Aa ?_
  refine U (.fB 2 rfl) ?_
  refine U (.lb rfl (hS.b1.Ad rfl)) ?_
  refine U (.lc rfl (hS.b5.agg)) ?_
  refine Ap (.buildSlice (xs:=[(⟨1+Ck y.a 5,tl,ta,tc,1+Ck y.b 30,mx,nx,na,nc,bk,lm⟩:Sk)]) (enc:=Sk.cells) (mk:=fun s=>.agg s.cells) k_ lr l5 rfl cQ (fun _=>rfl) (fun _=>rfl) (.cu rfl) rfl) rfl ?_
  rintro _ w33 ⟨B129,cB129,rfl,NB129,yB129,xB129⟩
  have eB129:=NB129.at_
  have zB129:=NB129.size
  replace hS:=hS.up NB129.up
  have hE129:=xB129
  refine Ap (.Df (enc:=Sk.cells) (bytes:=88) (i:=Tryz.t33) k_ kQ rfl rfl rfl rfl cQ (fun _=>rfl) Sk.one (.t rfl) (.t rfl) (hS.own 2 rfl) (Ay hE129) (by simp[maxLen];omega) (by simp;omega)) rfl ?_
  intro v130 w34 Gw34
  have zw34:=Gw34.fr.size
  replace hS:=hS.Ft 2 rfl Gw34
  change Wx.Sep _ _ _ [_,_,_,_,_,_,_,_]at hS
  obtain⟨ad130,cp130,rfl,_⟩:=(hS.own 2 rfl).sl (fun _=>rfl)
  refine U (.fB 2 rfl) ?_
  refine Ce (.store sizeOf26 (.t rfl) (.t rfl) (hS.own 2 rfl).one hS.b1 bQ) ?_
  intro w35 Nw35
  have zw35:=Nw35.size
  replace hS:=hS.Ec 1 rfl (show Set_ _ w35 _ (Ee (.slice ad130 (L++[(⟨1+Ck y.a 5,tl,ta,tc,1+Ck y.b 30,mx,nx,na,nc,bk,lm⟩:Sk)]).length cp130)) _ from Nw35)
  change Wx.Sep _ _ _ [_,_,_,_,_,_,_,_]at hS
  refine LW.nil (Al (Ab (Aa (I rfl ?_))))
  refine U (.ic rfl oQ) ?_
  refine LW.A rfl (LW.nil (Av ?_))
  exact⟨(k+1,ad130,cp130,L++[(⟨1+Ck y.a 5,tl,ta,tc,1+Ck y.b 30,mx,nx,na,nc,bk,lm⟩:Sk)]),⟨by show k+1≤n;omega,hM.snoc (by rw[hlk];exact⟨⟨by show 1≤1+Ck y.a 5;omega,by show 1+Ck y.a 5≤5;omega⟩,⟨by show 1≤1+Ck y.b 30;omega,by show 1+Ck y.b 30≤mx;omega,by show mx≤49;omega⟩,htl,hnx,hbk⟩),by show(L++[_]).length=k+1;rw[am,hlk];rfl,Q8 (Bs:=[_,_,_]) (s:=(⟨1+Ck y.a 5,tl,ta,tc,1+Ck y.b 30,mx,nx,na,nc,bk,lm⟩:Sk)) (hS.sub (.cons_cons _ (.cons_cons _ (.cons_cons _ (.cons_cons _ (.cons _ (.cons _ (.cons_cons _ (.cons_cons _ .slnil)))))))))⟩,tQ,by show n-(k+1)<n-k;omega⟩
 replace h22:=dQ h22
 have hkl:¬k<n:=fun h=>h22 (co.2 h)
 refine A9 (Ac (Ac (Aq (Ab (Ak (Ae (Az (Ah (Ai ?_)))))))))
 refine A7 (σ:=Nat) (fun s w=>(s=0)∧(Wx.Sep no w0 w [A5 B4 lD 29,A5 B6 (Ee (.slice av L.length cv)) 29,Aw 33 7 Sk.cells (.slice av L.length cv) (L),Dp ((L).flatMap (Ky 3))])) (fun s=>[(12,.eq (vi (s:Int)))]) ([(1,.eq _),(4,.eq _),(5,.eq _),(6,.eq _)]) (fun s=>1-s) 0 ?_ tQ ?_
 ·exact⟨rfl,hS⟩
 rintro j w36 ⟨hj,hS⟩
 subst hj
 refine Ak (Ae (I rfl (I rfl ?_)))
 refine U (.Cl underlying108 (.t rfl)) ?_
 refine U (.fa (PEv.l2 rfl rfl) (rfl)) ?_
 refine I rfl ?_
 refine Bi ?_
 refine Bi ?_
 refine U (.C6 (b:=false) (.t rfl) (fun hp=>absurd (show false=true from hp) cQ)) ?_
 refine Ah ?_
 refine CW.f rfl ?_
 refine A9 (Ac (Ac (Aq (Ab (Ae ?_)))))
 refine U (.lc rfl (hS.b1.agg)) ?_
 refine Ce (.Cc m4 rfl (.t rfl) (.t rfl) (Hu _ _ _ _ _ _) hS.b0 rfl) ?_
 intro w37 Nw37
 have zw37:=Nw37.size
 replace hS:=hS.Ec 0 rfl (show Set_ _ w37 _ (Cx av L.length cv none 0 0) _ from Nw37)
 change Wx.Sep _ _ _ [_,_,_,_]at hS
 refine Ah (Am ?_)
 refine Fb rfl rfl isAgg29 m4 rfl (hS.b0.agg) ⟨_,rfl,?_⟩
 have hkn:k=n:=by omega
 subst hkn
 have hlr:1≤L.length∧L.length≤8:=by rw[hlk,en];omega
 rw[←hlk]at hM
 exact⟨av,cv,L,rfl,hlr,hM,⟨Xf (hM.GD hlr) (show Same L L from rfl) (hS.own 2 rfl) (hS.get 3 rfl),FlB.of (k:=2) (m:=3) hS rfl rfl⟩,hS.Ch⟩
end Go.Proofs.YthcabjphnacjeaaGreatDoor
