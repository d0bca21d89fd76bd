import Derived.Test.YtnpgbbaniknpkaaGreatDoorKR120
import Derived.Lib.AtoiErrMem
namespace Go.Wx
def D9(n:Int):List UInt8:=Go.Lib.decDigits n.toNat
def Du(c:UInt8)(p:List UInt8):List (List UInt8)→List UInt8
 |[]=>p
 |q::qs=>p++c::Du c q qs
def K0:List Int→List UInt8
 |[]=>[45]
 |x::l=>Du 44 (D9 x) (l.map D9)
theorem Tz(c:UInt8)(t:List UInt8):∀(p r:List UInt8),c∉p→Go.Lib.index (p++c::(t++r)) (c::t)=(p.length:Int)
 |[],r,_=>by
   rw[du]
   unfold Go.Lib.index
   exact bh (k7.2 ⟨r,rfl⟩)
 |b::p,r,h=>by
   have hb:c≠b:=fun e=>h (by rw[e];exact b7)
   have ih:=Tz c t p r (fun hm=>h (b_ _ hm))
   have h2:((c::t).isPrefixOf (b::(p++c::(t++r))))=false:=by simp[List.isPrefixOf,hb]
   rw[e_]
   unfold Go.Lib.index
   rw[h2,ih,aq (by simp),aq (by simp)]
   simp
theorem bC(c:UInt8):∀p:List UInt8,c∉p→Go.Lib.index p [c]= -1
 |[],_=>rfl
 |b::p,h=>by
   have hb:c≠b:=fun e=>h (by rw[e];exact b7)
   have ih:=bC c p (fun hm=>h (b_ _ hm))
   have h2:([c].isPrefixOf (b::p))=false:=by simp[List.isPrefixOf,hb]
   unfold Go.Lib.index
   rw[h2,ih,aq (by simp),bh (by simp)]
theorem bD{p r:List UInt8}{c:UInt8}:(p++c::r).drop (p.length+1)=r:=by
 rw[show p.length+1=(p++[c]).length by simp,show p++c::r=(p++[c])++r by simp,List.drop_left]
theorem T0(c:UInt8):∀(qs:List (List UInt8))(p:List UInt8),(∀q∈p::qs,c∉q)→Go.Lib.splitK [c] 0 (Go.Lib.count (Du c p qs) [c]) (Du c p qs)=p::qs
 |[],p,h=>by
   have:=bC c p (h p b7)
   show Go.Lib.splitK [c] 0 (Go.Lib.count p [c]) p=_
   rw[Go.Lib.count_miss this]
   rfl
 |q::qs,p,h=>by
   have hi:=Tz c [] p (Du c q qs) (h p b7)
   have ih:=T0 c qs q (fun x hx=>h x (b_ _ hx))
   show Go.Lib.splitK [c] 0 (Go.Lib.count (p++c::Du c q qs) [c]) (p++c::Du c q qs)=_
   rw[du]at hi
   rw[Go.Lib.count_hit (by simp) hi,dy,bD,j9 1]
   unfold Go.Lib.splitK
   rw[hi,aq (by simp),dy,jj,fo,kz,bD,ih]
theorem BC(c:UInt8)(t p r:List UInt8)(h:c∉p):Go.Lib.cut (p++c::(t++r)) (c::t)=(p,r,true):=by
 unfold Go.Lib.cut
 rw[Tz c t p r h,bh oQ,jj,kz]
 congr 2
 rw[show p.length+(c::t).length=(p++c::t).length by simp,show p++c::(t++r)=(p++c::t)++r by simp,List.drop_left]
def BY(k:Nat):List UInt8:=if k<10 then[UInt8.ofNat (48+k)]else[UInt8.ofNat (48+k/10),UInt8.ofNat (48+k%10)]
theorem yN{n:Int}(h:0≤n∧n<100):∃k:Nat,k<100∧n=(k:Int)∧D9 n=BY k:=by
 refine⟨n.toNat,by omega,by omega,?_⟩
 unfold D9 BY
 split<;>rename_i hk
 · exact Go.Lib.decDigits_one hk
 exact Go.Lib.decDigits_two hk oQ
theorem BD:∀k,k<100→(∀b∈BY k,48≤b.toNat∧b.toNat≤57)∧BY k≠[]∧(BY k).length≤2∧Go.Lib.atoi (BY k)=some (k:Int):=by decide+kernel
theorem E8{n:Int}(h:0≤n∧n<100):(∀b∈D9 n,48≤b.toNat∧b.toNat≤57)∧D9 n≠[]∧(D9 n).length≤2∧Go.Lib.atoi (D9 n)=some n:=by
 obtain⟨k,hk,rfl,e⟩:=yN h
 rw[e]
 exact BD k hk
theorem Pg{n:Int}(h:0≤n∧n<100)(c:UInt8)(hc:c.toNat<48):c∉D9 n:=fun hm=>by have:=(E8 h).1 c hm;omega
theorem Pj(c b:UInt8):∀(qs:List (List UInt8))(p:List UInt8),b∈Du c p qs→b=c∨∃q∈p::qs,b∈q
 |[],p,h=>.inr ⟨p,b7,h⟩
 |q::qs,p,h=>by
   rcases bt.1 h with h|h
   · exact .inr ⟨p,b7,h⟩
   rcases bp.1 h with h|h
   · exact .inl h
   rcases Pj c b qs q h with h|⟨x,hx,hb⟩
   · exact .inl h
   exact .inr ⟨x,b_ _ hx,hb⟩
def bs(l:List UInt8):ByteArray:=⟨l.toArray⟩
def BE(l:List UInt8):Array Value:=#[.string (bs l)]
theorem jF(l:List UInt8):(bs l).data.toList=l:=rfl
theorem jG(l:List UInt8):(bs l).toList=l:=by rw[ByteArray.toList_eq];rfl
theorem wI(b:ByteArray):bs b.data.toList=b:=rfl
theorem BF(a b:List UInt8):bs a++bs b=bs (a++b):=Vp a (bs b)
theorem M4(l:List UInt8):(bs l).size=l.length:=by simp[bs,ByteArray.size]
def GM(w:World):Prop:=∃m:Int,w.cell? ⟨0,0,none⟩=some (vi m)
theorem GM.lt{w:World}(h:GM w):0<w.heap.size:=by
 obtain⟨m,h⟩:=h
 exact World.block_lt_of_cell? _ _ h
theorem GM.fr{X:Nat→Prop}{w w':World}(h:GM w)(u:Fr X w w')(hX:¬X 0):GM w':=by
 obtain⟨m,h1⟩:=h
 exact⟨m,(World.cell?_of_block (a:=⟨0,0,none⟩) (u.block 0 (GM.lt ⟨m,h1⟩) hX)).trans h1⟩
theorem GM.up{w w':World}(h:GM w)(u:Up w w'):GM w':=h.fr (u.fr no) (fun h=>h)
theorem bE(c:UInt8)(p:List UInt8)(qs:List (List UInt8))(h:∀q∈p::qs,c∉q):Go.Lib.splitB ⟨#[c]⟩ 0 (Go.Lib.countB (bs (Du c p qs)) ⟨#[c]⟩) (bs (Du c p qs))=(p::qs).map bs:=by
 have h1:=Go.Lib.splitB_data ⟨#[c]⟩ 0 (Go.Lib.countB (bs (Du c p qs)) ⟨#[c]⟩) (bs (Du c p qs))
 rw[show(⟨#[c]⟩:ByteArray).data.toList=[c]from rfl,jF,show Go.Lib.countB (bs (Du c p qs)) ⟨#[c]⟩=Go.Lib.count (Du c p qs) [c]from rfl,T0 c qs p h]at h1
 have h2:∀l:List ByteArray,(l.map (·.data.toList)).map bs=l:=fun l=>by
   rw[fd]
   exact(e8 fun b _=>wI b).trans (List.map_id _)
 have h3:=bi (List.map bs) h1
 rw[h2]at h3
 exact h3
def Pk(ps:List (List UInt8)):Array Value:=((ps.map bs).map Value.string).toArray
theorem Gt{w:World}{B e:Nat}{ps:List (List UInt8)}(h:Blk w B (Pk ps) e):Els w (some ⟨B,0,none⟩) 1 BE ps:=fun i x hx=>by
 refine⟨B,0,rfl,fun j v hv=>?_⟩
 match j,hv with
 |0,hv=>
   cases(show Value.string (bs x)=v by simpa[BE]using hv)
   refine h.cell ?_
   simp[Pk,hx]
 |j+1,hv=>simp[BE]at hv
theorem T2{a b:List UInt8}(h:a=b):((bs a).toList==(bs b).toList)=true:=by subst h;exact beq_self_eq_true _
theorem Wh{a b:List UInt8}(h:a≠b):((bs a).toList==(bs b).toList)=false:=by
 rw[jG,jG]
 exact beq_false_of_ne h
section
variable {P:Program}{n:Nat}{ds:List Deferred}{l:Env}{w:World}{d:Option Tmp}{ty:TypeId}{ps:String}{af:Array Edge}{g:Option (Nat×Bool)}
theorem bF{T T':TypeId}{ms:Array (String×TypeId)}{x:Operand}(hT:P.underlying T=some (.interface ms))(hx:Val l x .nilIface):PEv P n ds l w ⟨d,.binOp .eql T x (.const .nilIface) T',ty,ps,af,g⟩ (.bool true):=fun a w' ha _=>by
 refine C0 ?_
 have e1:a.eval (.const .nilIface)=.nilIface:=rfl
 rw[ha.ev hx,e1,Sem.run_bind]
 have:(eqGuard .eql T x (.const .nilIface) .nilIface .nilIface).run P w'=.ok () w':=by unfold eqGuard;cases x<;>rfl
 rw[this]
 have h:∀d:Nat,(Op.equalIn (d+2) T .nilIface .nilIface).run P w'=.ok true w':=fun d=>by simp[Op.equalIn,run_underlying hT]
 simp only[binOp]
 simp[Op.equal,Op.maxDepth,h 9998]
theorem PEv.wJ{T T':TypeId}{ms:Array (String×TypeId)}{x:Operand}(hT:P.underlying T=some (.interface ms))(hx:Val l x .nilIface):PEv P n ds l w ⟨d,.binOp .neq T x (.const .nilIface) T',ty,ps,af,g⟩ (.bool false):=fun a w' ha _=>by
 refine C0 ?_
 have e1:a.eval (.const .nilIface)=.nilIface:=rfl
 rw[ha.ev hx,e1,Sem.run_bind]
 have:(eqGuard .neq T x (.const .nilIface) .nilIface .nilIface).run P w'=.ok () w':=by unfold eqGuard;cases x<;>rfl
 rw[this]
 have h:∀d:Nat,(Op.equalIn (d+2) T .nilIface .nilIface).run P w'=.ok true w':=fun d=>by simp[Op.equalIn,run_underlying hT]
 simp only[binOp]
 simp[Op.equal,Op.maxDepth,h 9998]
end
theorem T3(c:UInt8):∀(qs:List (List UInt8))(p:List UInt8),(Du c p qs).length=((p::qs).map fun q=>q.length+1).sum-1
 |[],p=>by simp[Du]
 |q::qs,p=>by
   have ih:=T3 c qs q
   simp only[Du,ak,bg,ih,c8,j5]
   omega
def Sm(n:Int):Prop:=0≤n∧n<100
theorem BG(l:List Int)(hl:l.length≤10)(hs:∀x∈l,Sm x):(K0 l).length≤1000000:=by
 have h:∀m:List Int,(∀x∈m,Sm x)→((m.map D9).map fun q=>q.length+1).sum≤3*m.length:=by
   intro m
   induction m with
   |nil=>intro _;exact bl _
   |cons x m ih=>
     intro hm
     have h1:=ih (fun y hy=>hm y (b_ _ hy))
     have h2:=(E8 (hm x b7)).2.2.1
     simp only[c8,j5,bg]
     omega
 cases l with
 |nil=>decide
 |cons x m=>
   unfold K0
   rw[T3,←c8]
   have:=h (x::m) hs
   omega
def Eh:List UInt8:=[115,116,101,112]
def Rb:List UInt8:=[114,101,99,105,112,101]
def J6:List UInt8:=[116,111,111,108,115]
def Mm:List UInt8:=[116,105,109,101]
def Mn:List UInt8:=[110,101,120,116]
def Oe:List UInt8:=[98,97,99,107]
def T4:List UInt8:=[108,105,109,105,116]
def Mo:List UInt8:=[109,111,118,101]
def Lq(a b:Int):List UInt8:=D9 a++46::([46]++D9 b)
def Ho(k:Nat)(s:Sk):List (List UInt8):=D9 k::Rb::D9 s.rc::J6::K0 s.tl::Mm::Lq s.mn s.mx::Mn::K0 s.nx::(if 0≤s.bk then[Oe,D9 s.bk,T4,D9 s.lm]else[])
def Dd(k:Nat)(s:Sk):List UInt8:=Du 32 Eh (Ho k s)
def Gx:List UInt8:=Du 32 Mo [Lq 2 5]
def C4(L:List Sk):List UInt8:=Du 10 Gx (L.mapIdx Dd++[[]])
structure Sk.Sml(s:Sk):Prop where
 rc:Sm s.rc
 tl:∀x∈s.tl,Sm x
 tn:s.tl≠[]∧s.tl.length≤8
 mn:Sm s.mn
 mx:Sm s.mx
 nx:∀x∈s.nx,Sm x
 nn:s.nx.length≤4
 bk:s.bk= -1∧s.lm=0∨Sm s.bk∧Sm s.lm
theorem yO{l:List Int}(h:∀x∈l,Sm x)(c:UInt8)(hc:c.toNat<48)(h44:c≠44)(h45:c≠45):c∉K0 l:=by
 cases l with
 |nil=>intro hm;exact h45 (bn.1 hm)
 |cons x l=>
   intro hm
   unfold K0 at hm
   rcases Pj 44 c _ _ hm with e|⟨q,hq,hb⟩
   · exact h44 e
   rw[←c8]at hq
   obtain⟨y,hy,rfl⟩:=bx.1 hq
   exact Pg (h y hy) c hc hb
theorem fQ{a b:Int}(ha:Sm a)(hb:Sm b)(c:UInt8)(hc:c.toNat<48)(h46:c≠46):c∉Lq a b:=fun hm=>by
 unfold Lq at hm
 rcases bt.1 hm with h|h
 · exact Pg ha c hc h
 rcases bp.1 h with h|h
 · exact h46 h
 rcases bt.1 h with h|h
 · exact h46 (bn.1 h)
 exact Pg hb c hc h
theorem X7{k:Nat}{s:Sk}(hk:k<100)(hs:s.Sml)(c:UInt8)(hc:c=32∨c=10):∀q∈Eh::Ho k s,c∉q:=by
 have h48:c.toNat<48:=by rcases hc with rfl|rfl<;>decide
 have h44:c≠44:=by rcases hc with rfl|rfl<;>decide
 have h45:c≠45:=by rcases hc with rfl|rfl<;>decide
 have h46:c≠46:=by rcases hc with rfl|rfl<;>decide
 have kw:∀q∈[Eh,Rb,J6,Mm,Mn,Oe,T4],c∉q:=by rcases hc with rfl|rfl<;>decide
 intro q hq
 unfold Ho at hq
 simp only[bp]at hq
 rcases hq with rfl|rfl|rfl|rfl|rfl|rfl|rfl|rfl|rfl|rfl|hq
 · exact kw _ (by simp)
 · exact Pg ⟨gy k,by omega⟩ c h48
 · exact kw _ (by simp)
 · exact Pg hs.rc c h48
 · exact kw _ (by simp)
 · exact yO hs.tl c h48 h44 h45
 · exact kw _ (by simp)
 · exact fQ hs.mn hs.mx c h48 h46
 · exact kw _ (by simp)
 · exact yO hs.nx c h48 h44 h45
 split at hq
 · rename_i h0
   obtain⟨h1,h2⟩:=hs.bk.resolve_left (fun h=>by omega)
   simp only[bp,ei,d_]at hq
   rcases hq with rfl|rfl|rfl|rfl
   · exact kw _ (by simp)
   · exact Pg h1 c h48
   · exact kw _ (by simp)
   exact Pg h2 c h48
 cases hq
theorem rR{α:Type}(f:α→Nat)(m:Nat):∀l:List α,(∀x∈l,f x≤m)→(l.map f).sum≤m*l.length
 |[],_=>a8 _
 |x::l,h=>by
   have h1:=rR f m l (fun y hy=>h y (b_ _ hy))
   have h2:=h x b7
   rw[c8,j5,bg,g_]
   omega
theorem join_le(c:UInt8)(p:List UInt8)(qs:List (List UInt8))(m:Nat)(h:∀q∈p::qs,q.length≤m):(Du c p qs).length≤(m+1)*(qs.length+1):=by
 rw[T3]
 have:=rR (fun q:List UInt8=>q.length+1) (m+1) (p::qs) (fun q hq=>by have:=h q hq;omega)
 rw[bg]at this
 omega
theorem bG{l:List Int}(h:∀x∈l,Sm x)(hl:l.length≤8):(K0 l).length≤50:=by
 cases l with
 |nil=>decide
 |cons x l=>
   have:=join_le 44 (D9 x) (l.map D9) 2 (fun q hq=>by
     rw[←c8]at hq
     obtain⟨y,hy,rfl⟩:=bx.1 hq
     exact(E8 (h y hy)).2.2.1)
   show(Du 44 (D9 x) (l.map D9)).length≤50
   rw[dv]at this
   rw[bg]at hl
   omega
theorem wK{k:Nat}{s:Sk}(hk:k<100)(hs:s.Sml):∀q∈Eh::Ho k s,q.length≤50:=by
 have dg:∀{x:Int},Sm x→(D9 x).length≤50:=fun hx=>by have:=(E8 hx).2.2.1;omega
 have kw:∀q∈[Eh,Rb,J6,Mm,Mn,Oe,T4],q.length≤50:=by decide
 intro q hq
 unfold Ho at hq
 simp only[bp]at hq
 rcases hq with rfl|rfl|rfl|rfl|rfl|rfl|rfl|rfl|rfl|rfl|hq
 · exact kw _ (by simp)
 · exact dg ⟨gy k,by omega⟩
 · exact kw _ (by simp)
 · exact dg hs.rc
 · exact kw _ (by simp)
 · exact bG hs.tl hs.tn.2
 · exact kw _ (by simp)
 · have h1:=(E8 hs.mn).2.2.1
   have h2:=(E8 hs.mx).2.2.1
   unfold Lq
   simp
   omega
 · exact kw _ (by simp)
 · exact bG hs.nx (by have:=hs.nn;omega)
 split at hq
 · rename_i h0
   obtain⟨h1,h2⟩:=hs.bk.resolve_left (fun h=>by omega)
   simp only[bp,ei,d_]at hq
   rcases hq with rfl|rfl|rfl|rfl
   · exact kw _ (by simp)
   · exact dg h1
   · exact kw _ (by simp)
   exact dg h2
 cases hq
theorem E9(k:Nat)(s:Sk):(Ho k s).length=if 0≤s.bk then 13 else 9:=by unfold Ho;split<;>rfl
theorem rS(k:Nat)(s:Sk):(Eh::Ho k s).length=if 0≤s.bk then 14 else 10:=by rw[bg,E9];split<;>rfl
theorem T5{k:Nat}{s:Sk}(hk:k<100)(hs:s.Sml):(Dd k s).length≤714:=by
 have h:=join_le 32 Eh (Ho k s) 50 (wK hk hs)
 have h2:(Ho k s).length≤13:=by rw[E9];split<;>omega
 have h3:51*((Ho k s).length+1)≤51*14:=gn _ oQ
 exact bu h h3
theorem HJ{l:List Int}(h:∀x∈l,Sm x)(hn:l≠[]):K0 l≠[45]:=by
 cases l with
 |nil=>exact absurd rfl hn
 |cons x l=>
   intro e
   obtain⟨h1,h2,_⟩:=E8 (h x b7)
   have hm:∀b∈D9 x,b∈K0 (x::l):=fun b hb=>by
     unfold K0
     cases l with
     |nil=>exact hb
     |cons y l=>exact eh _ hb
   obtain⟨b,hb⟩:=List.exists_mem_of_ne_nil _ h2
   have h3:=hm b hb
   rw[e]at h3
   have:=h1 b hb
   rw[bn.1 h3]at this
   exact absurd this.1 cQ
def BH(fx ws:List (List UInt8)):Prop:=∀(i:Nat)(f:List UInt8),fx[i]?=some f→f=[]∨ws[i]?=some f
theorem KL(k:Nat)(s:Sk):BH [Eh,D9 k,Rb,[],J6,[],Mm,[],Mn,[]] (Eh::Ho k s):=fun i f h=>
 match i,h with
 |0,h=>.inr h
 |1,h=>.inr h
 |2,h=>.inr h
 |3,h=>.inl (dc h).symm
 |4,h=>.inr h
 |5,h=>.inl (dc h).symm
 |6,h=>.inr h
 |7,h=>.inl (dc h).symm
 |8,h=>.inr h
 |9,h=>.inl (dc h).symm
 |_+10,h=>by cases h
theorem KM(k:Nat)(s:Sk)(h0:0≤s.bk):BH [[],[],[],[],[],[],[],[],[],[],Oe,[],T4,[]] (Eh::Ho k s):=fun i f h=>by
 unfold Ho
 rw[bh h0]
 exact match i,h with
 |0,h=>.inl (dc h).symm
 |1,h=>.inl (dc h).symm
 |2,h=>.inl (dc h).symm
 |3,h=>.inl (dc h).symm
 |4,h=>.inl (dc h).symm
 |5,h=>.inl (dc h).symm
 |6,h=>.inl (dc h).symm
 |7,h=>.inl (dc h).symm
 |8,h=>.inl (dc h).symm
 |9,h=>.inl (dc h).symm
 |10,h=>.inr h
 |11,h=>.inl (dc h).symm
 |12,h=>.inr h
 |13,h=>.inl (dc h).symm
 |_+14,h=>by cases h
def Eo(v:Value):Array Value:=#[vi 2,vi 5,v,.slice none 0 0]
theorem mJ{v:Value}(h:v.oneCell'=true):(Eo v).all (·.oneCell')=true:=by simp[Eo,h,show ∀i:Int,(vi i).oneCell'=true from fun _=>rfl,show(Value.slice none 0 0).oneCell'=true from rfl]
theorem yP:(Lq 2 5).length≤6:=by
 have h1:=(E8 (n:=2) ⟨by decide,by decide⟩).2.2.1
 have h2:=(E8 (n:=5) ⟨by decide,by decide⟩).2.2.1
 unfold Lq
 simp
 omega
theorem OwnS.Dj{α:Type}{enc:α→Array Value}{w w':World}{b k:Nat}{e T:TypeId}{v:Value}{xs:List α}(h:OwnS w b e k enc v xs)(hne:Nat.beq e T=false)(u:KeepT T w w'):OwnS w' b e k enc v xs:=by
 obtain⟨h1,h2⟩:=h
 refine⟨h1,?_⟩
 rcases h2 with h2|⟨g,cap,cur,rfl,hb,hg,rest⟩
 · exact .inl h2
 exact .inr ⟨g,cap,cur,rfl,hb,u.obj g _ hg (fun _ _ e'=>by cases e';simp at hne),rest⟩
theorem Sep.KN{S0:Nat→Prop}{w0 w w':World}{As:List Asr}{A B:Asr}(h:Sep S0 w0 w As)(u:Up w w')(h1:A.holds w')(h2:B.holds w')(n1:∀i,A.foot i→w.heap.size≤i)(n2:∀i,B.foot i→w.heap.size≤i)(hd:∀i,A.foot i→¬B.foot i):Sep S0 w0 w' (As++[A,B]):=by
 have h3:=h.add u (A':=Dw [A,B]) ⟨fun C hC=>by simp at hC;rcases hC with rfl|rfl<;>assumption,by simpa using hd⟩ (fun i⟨C,hC,hi⟩=>by simp at hC;rcases hC with rfl|rfl<;>first|exact n1 i hi|exact n2 i hi)
 have h4:=Sep.unfold (Bs:=As) (As:=[A,B]) (rest:=[]) h3
 simpa using h4
theorem wL{α:Type}{enc:α→Array Value}{w:World}{b e k B:Nat}{v:Value}{xs:List α}{cs:Array Value}{T:TypeId}(h:OwnS w b e k enc v xs)(hb:Blk w B cs T)(hT:e≠T):v.ownBlock≠some B:=fun hv=>by
 obtain⟨h1,h2⟩:=h
 rcases h2 with h2|⟨g,cap,cur,rfl,hb2,hg,rest⟩
 · rw[h2.1]at hv;cases hv
 cases hv
 have:=hg.symm.trans hb
 cases this
 exact hT rfl
def Sk.v(s:Sk):Int×List Int×Int×Int×List Int×Int×Int:=(s.rc,s.tl,s.mn,s.mx,s.nx,s.bk,s.lm)
section
variable {P:Program}{n:Nat}{l:Env}{w:World}{fn:Func}{RR:Ending→World→Prop}
theorem mK{t u x:Tmp}{T:TypeId}{B k:Nat}{cs:Array Value}{y z:Value}(hr:fn.results=#[.cell t T,.tmp u,.tmp x])(hv:lk l t=some (.eq (.pointer (some ⟨B,0,none⟩))))(hu:lk l u=some (.eq y))(hx:lk l x=some (.eq z))(hT:∀w,(isAgg T).run P w=.ok true w)(hs:∀w,(sizeOf T).run P w=.ok k w)(hk:cs.size=k)(hc:AggAt w B 0 cs)
   (hR:RR (.returned (.tuple #[.agg cs,y,z])) w):KW n [] (bodyPost P fn RR .ret) l w:=fun a ha=>
 ⟨ha.defers,.tuple #[.agg cs,y,z],by
   have h1:a.tmps.getD t undef=.pointer (some ⟨B,0,none⟩):=ha.val _ _ hv
   have h2:a.tmps.getD u undef=y:=ha.val _ _ hu
   have h3:a.tmps.getD x undef=z:=ha.val _ _ hx
   rw[bm]at h1 h2 h3
   simp[results,hr,h1,h2,h3,asAddr,F2 hT hs hk hc],hR⟩
end
def mL:Array Value:=#[vi 0,vi 0,.slice none 0 0,.slice none 0 0]
def HK(k:Nat)(v:Value):Array Value:=if k=0 then mL else Eo v
def Rk(L:List Sk):List (List UInt8):=Gx::(L.mapIdx Dd++[[]])
theorem wM{L:List Sk}{k:Nat}{s:Sk}(h:L[k]?=some s):(Rk L)[k+1]?=some (Dd k s):=by
 have hk:=(am.1 h).1
 unfold Rk
 rw[fh,c7 (by rw[iw];exact hk),ii,h]
 rfl
theorem rT(L:List Sk):(Rk L)[L.length+1]?=some []:=by
 unfold Rk
 rw[fh,db (by rw[iw];exact bl _),iw,jq]
 rfl
theorem Mp(L:List Sk):(Rk L).length=L.length+2:=by unfold Rk;simp
theorem T6{L:List Sk}{q:List UInt8}(h:q∈Rk L):q=Gx∨q=[]∨∃k s,L[k]?=some s∧q=Dd k s:=by
 unfold Rk at h
 rcases bp.1 h with h|h
 · exact .inl h
 rcases bt.1 h with h|h
 · obtain⟨k,hk,e⟩:=List.mem_mapIdx.1 h
   exact .inr (.inr ⟨k,_,cx hk,e.symm⟩)
 exact .inr (.inl (bn.1 h))
theorem BI:∀b∈Gx,b≠10:=fun b hb e=>by
 subst e
 rcases Pj 32 10 _ _ hb with h|⟨q,hq,h⟩
 · cases h
 simp only[bp,ei,d_]at hq
 rcases hq with rfl|rfl
 · exact absurd h cQ
 exact fQ ⟨by decide,by decide⟩ ⟨by decide,by decide⟩ 10 cQ cQ h
theorem yQ:Gx.length≤714:=by
 have:=join_le 32 Mo [Lq 2 5] 6 (fun q hq=>by
   simp only[bp,ei,d_]at hq
   rcases hq with rfl|rfl
   · decide
   exact yP)
 exact bu this cQ
structure FlS(L:List Sk):Prop where
 sml:∀s∈L,s.Sml
 ok:∀s∈L,s.Ok L.length
 len:1≤L.length∧L.length≤40
theorem FlS.no{L:List Sk}(h:FlS L):∀q∈Rk L,(10:UInt8)∉q:=fun q hq hm=>by
 rcases T6 hq with rfl|rfl|⟨k,s,hs,rfl⟩
 · exact BI _ hm rfl
 · cases hm
 have hk:=(am.1 hs).1
 have:=h.len
 rcases Pj 32 10 _ _ hm with e|⟨x,hx,hb⟩
 · cases e
 exact X7 oQ (h.sml s (ai hs)) 10 (.inr rfl) x hx hb
theorem FlS.le{L:List Sk}(h:FlS L):(C4 L).length≤30030:=by
 have h1:=join_le 10 Gx (L.mapIdx Dd++[[]]) 714 (fun q hq=>by
   rcases T6 hq with rfl|rfl|⟨k,s,hs,rfl⟩
   · exact yQ
   · decide
   have hk:=(am.1 hs).1
   have:=h.len
   exact T5 oQ (h.sml s (ai hs)))
 have h2:(L.mapIdx Dd++[[]]).length≤41:=by have:=h.len;simp;omega
 have h3:(714+1)*((L.mapIdx Dd++[[]]).length+1)≤715*42:=gn _ oQ
 exact bu h1 h3
theorem Sk.Ok.mono{s:Sk}{n m:Int}(h:s.Ok n)(hm:n≤m):s.Ok m:=
 ⟨h.rc,h.mn,h.bk.imp id (fun⟨h1,h2⟩=>⟨⟨h1.1,by omega⟩,h2⟩),h.tl,h.ta,h.nl,⟨fun x hx=>by have:=h.nx.r x hx;omega,h.nx.a⟩⟩
theorem Sk.Ok.same{s t:Sk}{n:Int}(h:s.Ok n)(e:t.v=s.v):t.Ok n:=by
 obtain⟨rc,tl,ta,tc,mn,mx,nx,na,nc,bk,lm⟩:=s
 obtain⟨rc',tl',ta',tc',mn',mx',nx',na',nc',bk',lm'⟩:=t
 cases e
 exact⟨h.rc,h.mn,h.bk,h.tl,h.ta,h.nl,h.nx⟩
def Same(L M:List Sk):Prop:=M.map Sk.v=L.map Sk.v
theorem Same.len{L M:List Sk}(h:Same L M):M.length=L.length:=by
 have:=bi List.length h
 rwa [dv,dv]at this
theorem Same.at_{L M:List Sk}(h:Same L M){t:Sk}{i:Nat}(ht:M[i]?=some t):∃s,L[i]?=some s∧t.v=s.v:=by
 have h1:=bi (fun l=>l[i]?) h
 simp only[ew,ht]at h1
 cases hs:L[i]? with
 |none=>rw[hs]at h1;cases h1
 |some s=>rw[hs]at h1;exact⟨s,rfl,by simpa using h1⟩
theorem Same.ok{L M:List Sk}(h:Same L M){n:Int}(hL:∀s∈L,s.Ok n):∀t∈M,t.Ok n:=fun t ht=>by
 obtain⟨i,hi⟩:=et.1 ht
 obtain⟨s,hs,e⟩:=h.at_ hi
 exact(hL s (ai hs)).same e
theorem Same.snoc{L M:List Sk}{k:Nat}{s t:Sk}(h:Same (L.take k) M)(hs:L[k]?=some s)(e:t.v=s.v):Same (L.take (k+1)) (M++[t]):=by
 unfold Same at h⊢
 rw[co,h,Df hs,co]
 simp[e]
theorem X8{w:World}{sa:Option Addr}{sc T ti:Nat}{L M:List Sk}(hL:FlS L)(hM:Same L M)(h1:OwnS w 0 T 7 Sk.cells (.slice sa M.length sc) M)(h2:(Dw (M.flatMap (Lm ti))).holds w):FlG w sa none M []:=
 ⟨by rw[hM.len];exact hL.len,Cf h1 (fun _=>rfl),by rw[hM.len];exact hM.ok hL.ok,fun s hs=>jD h2 hs,fun i x h=>by simp at h,a8 _,fun x hx=>by cases hx⟩
theorem BJ(k:Nat)(s:Sk):Go.Lib.hasPrefix (Dd k s) Eh=true:=k7.2 ⟨_,rfl⟩
theorem rU{e:Nat}{S0:Nat→Prop}{w0 w:World}{As:List Asr}(h:Wx.Sep S0 w0 w As):Wx.Sep S0 w0 w (As++[Dw (([]:List Sk).flatMap (Lm e))]):=h.add (Up.refl _) ⟨fun A h=>by simp at h,List.Pairwise.nil⟩ (fun i h=>by obtain⟨A,h,_⟩:=h;simp at h)
def FlB(b:Nat)(sa:Option Addr)(L:List Sk):Prop:=(∀B o,sa=some ⟨B,o,none⟩→b≤B)∧∀s∈L,(∀B o,s.ta=some ⟨B,o,none⟩→b≤B)∧∀B o,s.na=some ⟨B,o,none⟩→b≤B
structure FlK(b:Nat)(w:World)(sa:Option Addr)(L:List Sk):Prop where
 g:FlG w sa none L []
 b:FlB b sa L
theorem FlK.up{b:Nat}{w w':World}{sa:Option Addr}{L:List Sk}(h:FlK b w sa L)(u:Up w w'):FlK b w' sa L:=⟨h.g.up u,h.b⟩
theorem FlK.sto{b B:Nat}{w w':World}{sa:Option Addr}{L:List Sk}(h:FlK b w sa L)(k:Sto B w w')(hB:B<b):FlK b w' sa L:=
 ⟨⟨h.g.len,Els.fr h.g.E k.fr (fun C o e h1=>by have:=h.b.1 C o e;omega),h.g.g,fun s hs=>⟨Els.fr (h.g.p s hs).1 k.fr (fun C o e h1=>by have:=(h.b.2 s hs).1 C o e;omega),Els.fr (h.g.p s hs).2 k.fr (fun C o e h1=>by have:=(h.b.2 s hs).2 C o e;omega)⟩,fun i x h=>by simp at h,h.g.wl,h.g.wn⟩,h.b⟩
theorem FlB.of{w0 w:World}{As:List Asr}{k m T e sc:Nat}{sa:Option Addr}{L:List Sk}(h:Wx.Sep no w0 w As)(h1:As[k]?=some (Aw T 7 Sk.cells (.slice sa L.length sc) L))(h2:As[m]?=some (Dw (L.flatMap (Lm e)))):FlB w0.heap.size sa L:=
 ⟨fun B o e=>(h.foot k h1 B (by show Value.ownBlock _=_;rw[e];rfl)).resolve_left (fun h=>h),fun s hs=>⟨fun B o ee=>(h.foot m h2 B ⟨_,io.2 ⟨s,hs,b7⟩,by show Value.ownBlock _=_;unfold Sk.tv;rw[ee];rfl⟩).resolve_left (fun h=>h),
   fun B o ee=>(h.foot m h2 B ⟨_,io.2 ⟨s,hs,b_ _ b7⟩,by show Value.ownBlock _=_;unfold Sk.nv;rw[ee];rfl⟩).resolve_left (fun h=>h)⟩⟩
section
variable {P:Program}{n:Nat}{ds:List Deferred}{l:Env}{w:World}{d:Option Tmp}{ty:TypeId}{ps:String}{af:Array Edge}{g:Option (Nat×Bool)}
theorem PEv.F1{T T':TypeId}{x y:Operand}(a b:List UInt8)(hx:Val l x (.string (bs a)))(hy:Val l y (.string (bs b)))(h1:a.length≤1000000)(h2:b.length≤1000000):PEv P n ds l w ⟨d,.binOp .add T x y T',ty,ps,af,g⟩ (.string (bs (a++b))):=
 PEv.Dt (PEv.pA hx hy (by rw[M4,M4];omega)) (bi Value.string (BF a b))
end
theorem jH{y:Nat}(h:y<100):Go.Lib.decDigits y=(if y/10=0 then[]else Go.Lib.decDigits (y/10))++[UInt8.ofNat (48+y%10)]:=by
 by_cases h1:y<10
 · rw[Go.Lib.decDigits_one h1,bh oQ,im h1]
   rfl
 rw[Go.Lib.decDigits_two h1 h,aq oQ,Go.Lib.decDigits_one (by omega)]
 rfl
theorem LB:∀k:Nat,k<10→IntKind.u8.wrap (48+(k:Int))=((UInt8.ofNat (48+k)).toNat:Int):=by decide+kernel
structure DgI(x:Int)(y:Nat)(l:List UInt8):Prop where
 lt:y<100
 e:D9 x=if l=[]then Go.Lib.decDigits y else(if y=0 then[]else Go.Lib.decDigits y)++l
theorem DgI.next{x:Int}{y:Nat}{l:List UInt8}(h:DgI x y l)(hy:l=[]∨0<y):DgI x (y/10) (UInt8.ofNat (48+y%10)::l):=by
 refine⟨by have:=h.lt;omega,?_⟩
 rw[aq (by simp),h.e]
 by_cases hl:l=[]
 · subst hl
   rw[bh rfl,jH h.lt]
 rw[aq hl,aq (by have:=hy.resolve_left hl;omega),jH h.lt,c6]
 rfl
theorem DgI.le{x:Int}{y:Nat}{l:List UInt8}(hx:Sm x)(h:DgI x y l):l.length≤2:=by
 by_cases hl:l=[]
 · subst hl;decide
 have h1:=(E8 hx).2.2.1
 rw[h.e,aq hl,ak]at h1
 omega
def rV:List Int→List UInt8
 |[]=>[]
 |x::l=>Du 44 (D9 x) (l.map D9)
theorem Wi(c:UInt8)(q:List UInt8):∀(qs:List (List UInt8))(p:List UInt8),Du c p (qs++[q])=Du c p qs++c::q
 |[],p=>rfl
 |r::qs,p=>by
   show p++c::Du c r (qs++[q])=(p++c::Du c r qs)++c::q
   rw[Wi c q qs r]
   simp
theorem bH{l:List Int}{k:Nat}{x:Int}(hx:l[k]?=some x):rV (l.take (k+1))=(if k=0 then rV (l.take k)else rV (l.take k)++[44])++D9 x:=by
 rw[Df hx]
 cases k with
 |zero=>rfl
 |succ k=>
   cases l with
   |nil=>simp at hx
   |cons y l=>
     rw[aq oQ,j0]
     show Du 44 (D9 y) ((l.take k++[x]).map D9)=(Du 44 (D9 y) ((l.take k).map D9)++[44])++D9 x
     rw[co,List.map_singleton,Wi]
     simp
theorem BL{l:List Int}(h:∀x∈l,Sm x)(hl:l.length≤8):(rV l).length≤50:=by
 cases l with
 |nil=>decide
 |cons x l=>exact bG h hl
theorem BM{l:List Int}(h:∀x∈l,Sm x)(hn:l≠[]):rV l≠[]∧rV l=K0 l:=by
 cases l with
 |nil=>exact absurd rfl hn
 |cons x l=>
   refine⟨fun e=>?_,rfl⟩
   have h1:=(E8 (h x b7)).2.1
   cases l with
   |nil=>exact h1 e
   |cons y l=>exact absurd (bi List.length e) (by simp[rV,Du])
def oA(L:List Sk)(k:Nat):List UInt8:=Gx++[10]++((L.take k).mapIdx fun i s=>Dd i s++[10]).flatten
theorem rW{L:List Sk}{k:Nat}{s:Sk}(h:L[k]?=some s):oA L (k+1)=oA L k++Dd k s++[10]:=by
 have hk:=(am.1 h).1
 unfold oA
 rw[Df h,List.mapIdx_append,j2,cc,dq (by omega)]
 simp
theorem bI(c:UInt8):∀(qs:List (List UInt8))(p:List UInt8),Du c p (qs++[[]])=p++[c]++(qs.map fun q=>q++[c]).flatten
 |[],p=>by simp[Du]
 |q::qs,p=>by
   show p++c::Du c q (qs++[[]])=_
   rw[bI c qs q]
   simp
theorem jI(L:List Sk):oA L L.length=C4 L:=by
 unfold oA C4
 rw[b8,bI,show(L.mapIdx Dd).map (fun q=>q++[10])=L.mapIdx fun i s=>Dd i s++[10]from cr fun i=>by rw[ew,ii,ii];cases L[i]?<;>rfl]
theorem BN{L:List Sk}(h:FlS L)(k:Nat)(_:k≤L.length):(oA L k).length≤30030:=by

 have h1:=h.le
 rw[←jI]at h1
 unfold oA at h1⊢
 rw[b8]at h1
 have h2:(L.mapIdx fun i s=>Dd i s++[10]).flatten.length=((L.take k).mapIdx fun i s=>Dd i s++[10]).flatten.length+((L.drop k).mapIdx fun i s=>Dd (i+(L.take k).length) s++[10]).flatten.length:=by
   rw[←ak,←j2,←List.mapIdx_append,er]
 simp only[ak,h2]at h1⊢
 omega
theorem Pm(n:Int):Yq (IntKind.i64.wrap n):=by
 rw[IntKind.wrap_i64]
 unfold Yq
 omega
def HL(l:List Int):Prop:=∃a,0≤a∧a<6∧(l=[a]∨∃b,a<b∧b≤8∧l=[a,b])
def HM(n j:Nat)(l:List Int):Prop:=l=[]∨j+1<n∧(l=[(j:Int)+1]∨∃k,(j:Int)+1<k∧k<n∧l=[(j:Int)+1,k])
structure MkOk(n j:Nat)(s:Sk):Prop where
 rc:1≤s.rc∧s.rc≤5
 mn:1≤s.mn∧s.mn≤s.mx∧s.mx≤49
 tl:HL s.tl
 nx:HM n j s.nx
 bk:s.bk= -1∧s.lm=0∨(0≤s.bk∧s.bk≤j)∧1≤s.lm∧s.lm≤3
def MkS(n:Nat)(L:List Sk):Prop:=∀(j:Nat)(s:Sk),L[j]?=some s→MkOk n j s
theorem MkS.snoc{n:Nat}{L:List Sk}{s:Sk}(h:MkS n L)(hs:MkOk n L.length s):MkS n (L++[s]):=fun j t ht=>by
 by_cases hj:j<L.length
 · rw[c7 hj]at ht
   exact h j t ht
 have h1:=(am.1 ht).1
 rw[ak,dy]at h1
 have h2:j=L.length:=by omega
 subst h2
 rw[db (bl _),jq]at ht
 cases ht
 exact hs
theorem bJ{a b lo hi:Int}(h:lo≤a)(h1:a<b)(h2:b≤hi):AscR [a,b] lo hi:=
 ⟨fun x hx=>by simp only[bp,ei,d_]at hx;omega,by simp[h1]⟩
theorem bK{a lo hi:Int}(h:lo≤a)(h2:a≤hi):AscR [a] lo hi:=⟨fun x hx=>by rw[bn.1 hx];omega,f9 _ _⟩
theorem MkOk.ok{n j:Nat}{s:Sk}(h:MkOk n j s)(hj:j<n):s.Ok n:=by
 obtain⟨a,h1,h2,h3⟩:=h.tl
 refine⟨by have:=h.rc;omega,by have:=h.mn;omega,h.bk.imp id (fun h=>by omega),?_,?_,?_,?_⟩
 · rcases h3 with e|⟨b,_,_,e⟩<;>rw[e]<;>exact⟨by simp,by simp⟩
 · rcases h3 with e|⟨b,h4,h5,e⟩<;>rw[e]
   · exact bK h1 oQ
   exact bJ h1 h4 oQ
 · rcases h.nx with e|⟨_,e|⟨k,_,_,e⟩⟩<;>rw[e]<;>simp
 rcases h.nx with e|⟨h4,e|⟨k,h5,h6,e⟩⟩<;>rw[e]
 · exact⟨fun x hx=>(by cases hx),List.Pairwise.nil⟩
 · exact bK oQ oQ
 exact bJ oQ h5 oQ
theorem MkOk.sml{n j:Nat}{s:Sk}(h:MkOk n j s)(hj:j<n)(hn:n≤8):s.Sml:=by
 obtain⟨a,h1,h2,h3⟩:=h.tl
 have hr:=h.rc
 have hm:=h.mn
 refine⟨⟨by omega,by omega⟩,fun x hx=>?_,?_,⟨by omega,by omega⟩,⟨by omega,by omega⟩,fun x hx=>?_,?_,h.bk.imp id (fun h=>⟨⟨by omega,by omega⟩,⟨by omega,by omega⟩⟩)⟩
 · rcases h3 with e|⟨b,h4,h5,e⟩<;>rw[e]at hx<;>simp only[bp,ei,d_]at hx<;>exact⟨by omega,by omega⟩
 · rcases h3 with e|⟨b,_,_,e⟩<;>rw[e]<;>exact⟨by simp,by simp⟩
 · rcases h.nx with e|⟨h4,e|⟨k,h5,h6,e⟩⟩<;>rw[e]at hx<;>simp only[bp,ei,d_]at hx
   · exact⟨by omega,by omega⟩
   exact⟨by omega,by omega⟩
 rcases h.nx with e|⟨_,e|⟨k,_,_,e⟩⟩<;>rw[e]<;>simp
theorem MkS.HN{L:List Sk}(h:MkS L.length L)(hl:1≤L.length∧L.length≤8):FlS L:=
 ⟨fun s hs=>by obtain⟨i,hi⟩:=et.1 hs;exact(h i s hi).sml (am.1 hi).1 hl.2,
  fun s hs=>by obtain⟨i,hi⟩:=et.1 hs;exact(h i s hi).ok (am.1 hi).1,⟨hl.1,by omega⟩⟩
theorem MkS.rX{L:List Sk}(h:MkS L.length L)(hl:1≤L.length∧L.length≤8):Fwd L:=
 ⟨fun i s hs=>by have:=(h i s hs).bk;omega,fun i s hs x hx=>by
   rcases(h i s hs).nx with e|⟨h4,e|⟨k,h5,h6,e⟩⟩<;>rw[e]at hx<;>simp only[bp,ei,d_]at hx<;>omega,
  fun s hs=>by
   obtain⟨i,hi⟩:=et.1 hs
   rcases(h i s hi).nx with e|⟨_,e|⟨k,_,_,e⟩⟩<;>rw[e]<;>simp,⟨hl.1,by omega⟩⟩
theorem BZ:Yq 0:=⟨by decide,by decide⟩
theorem i60:cO ⟨0,0,0,0,0,0⟩:=⟨BZ,BZ,BZ,BZ,BZ,BZ⟩
end Go.Wx
namespace Go.Proofs.YtnpgbbaniknpkaaGreatDoor
open Go.Proofs.Tryz
open Go.Wx Go.RowKit
theorem Qj(c:UInt8)(p:List UInt8)(qs:List (List UInt8))(w:World)(hG:GM w)(hc:∀q∈p::qs,c∉q)(hl:(Du c p qs).length≤1000000):Ret prog 157 #[.string (bs (Du c p qs)),.string ⟨#[c]⟩] w fun r w'=>∃B,r=.slice (some ⟨B,0,none⟩) (p::qs).length (p::qs).length∧Blk w' B (Pk (p::qs)) 9∧w.heap.size≤B∧Up w w':=by
 obtain⟨m,hm⟩:=hG
 have h1:1≤(⟨#[c]⟩:ByteArray).size:=bl _
 refine Calls.mono (Tryz.strings_Split (bs (Du c p qs)) ⟨#[c]⟩ m w (by rw[M4];omega) hm h1) ?_
 rintro e w' ⟨rfl,rfl⟩
 have h2:=Go.Lib.splitB_all (⟨#[c]⟩:ByteArray) h1 0 _ (bs (Du c p qs)) rfl
 rw[bE c p qs hc]at h2⊢
 rw[dv]at h2
 rw[←h2]
 exact⟨_,rfl,_,rfl,Pt w _ 9,bl _,Up.alloc _ _⟩
theorem bL(x:Int)(hx:Sm x)(w:World):Ret prog 252 #[vi x] w fun r w'=>r=.string (bs (D9 x))∧Up w w':=by
 obtain⟨k,hk,rfl,_⟩:=yN hx
 refine Calls.mono (Tryz.strconv_Itoa_small k hk w) ?_
 rintro e w' ⟨rfl,rfl⟩
 exact⟨_,rfl,rfl,Up.refl _⟩
theorem rY(x:Int)(hx:Sm x)(w:World):Ret prog 276 #[.string (bs (D9 x))] w fun r w'=>r=.tuple #[vi x,.nilIface]∧Up w w':=by
 have h:=E8 hx
 refine Calls.mono (Tryz.strconv_Atoi (bs (D9 x)) x (by rw[M4];omega) h.2.2.2 w) ?_
 rintro e w' ⟨rfl,t,rfl⟩
 exact⟨_,rfl,rfl,Go.Lib.bytesWorld_below w _ _⟩
theorem wN(a b:List UInt8)(ha:46∉a)(hl:a.length+b.length≤1000)(w:World)(hG:GM w):Ret prog 274 #[.string (bs (a++46::([46]++b))),.string ⟨#[46,46]⟩] w fun r w'=>r=.tuple #[.string (bs a),.string (bs b),.bool true]∧Up w w':=by
 obtain⟨m,hm⟩:=hG
 refine Calls.mono (Tryz.strings_Cut (bs (a++46::([46]++b))) ⟨#[46,46]⟩ m w (by rw[M4];simp;omega) hm) ?_
 rintro e w' ⟨rfl,k,rfl⟩
 rw[jF,show(⟨#[46,46]⟩:ByteArray).data.toList=46::[46]from rfl,BC 46 [46] a b ha]
 exact⟨_,rfl,rfl,⟨rfl,rfl,rfl,bl _,fun _ _=>rfl⟩⟩
theorem Hp(w:World):Ret prog 250 #[.bool true] w fun _ w'=>Up w w':=by
 have hW:=Up.refl w
 refine cT 6 func250 rfl ?_
 refine Af (I rfl ?_)
 refine U (.fa (PEv.n1 rfl) (rfl)) ?_
 refine Ah ?_
 refine CW.f rfl ?_
 refine Aj ?_
 refine Dh rfl ⟨_,rfl,?_⟩
 exact hW
theorem Kq(x:Int)(hx:Sm x)(w:World):Ret prog 253 #[.string (bs (D9 x))] w fun r w'=>r=vi x∧Up w w':=by
 have hW:=Up.refl w
 refine cT 28 func253 rfl ?_
 refine Af (Az (An (Aa (I rfl ?_))))
 refine A4 (eC (.o rfl) (GH)) rfl (rY x hx _) ?_
 rintro _ w1 ⟨rfl,uw1⟩
 have zw1:=uw1.size
 replace hW:=hW.up uw1
 refine I rfl (U (.xt rfl rfl) (U (.xt rfl rfl) (LW.A rfl (LW.A rfl (An (Aa (I rfl ?_)))))))
 refine U (.tr (bF underlying196 (.t rfl)) (rfl)) ?_
 refine I rfl ?_
 refine Au ?_
 refine I rfl ?_
 refine Au ?_
 refine U (.tr (PEv.geq (.t rfl) (.const _)) (bj (by have:=hx.1;omega))) ?_
 refine U (.pa rfl (fun hp=>wQ)) ?_
 refine I rfl ?_
 refine Au ?_
 refine I rfl ?_
 refine Au ?_
 refine U (.tr (PEv.leq (.t rfl) (.const _)) (bj (by have:=hx.2;omega))) ?_
 refine U (.pa rfl (fun hp=>wQ)) ?_
 refine I rfl ?_
 refine Au ?_
 refine I rfl ?_
 refine Au ?_
 refine A4 (eC (.o rfl) (xY)) rfl (bL (x) hx _) ?_
 rintro _ w2 ⟨rfl,uw2⟩
 have zw2:=uw2.size
 replace hW:=hW.up uw2
 refine Au ?_
 refine I rfl ?_
 refine Au ?_
 refine U (.tr (Eg (.t rfl) (.t rfl)) (T2 rfl)) ?_
 refine U (.pa rfl (fun hp=>wQ)) ?_
 refine A4 (eC (.o rfl) (Oq)) rfl (Hp _) ?_
 rintro _ w3 uw3
 have zw3:=uw3.size
 replace hW:=hW.up uw3
 refine An (Aa (I rfl (LW.A rfl (Ah (Am ?_)))))
 refine KW.q ?_
 exact⟨rfl,hW⟩
theorem Wj(l:List Int)(hne:l≠[])(hl:l.length≤10)(hs:∀x∈l,Sm x)(w:World)(hG:GM w):Ret prog 254 #[.string (bs (K0 l))] w fun r w'=>OwnS w' w.heap.size 3 1 A3 r l∧Up w w':=by
 obtain⟨w0,rfl,hS⟩:=W0 w
 refine cT 20 func254 rfl ?_
 refine Af (Az (An (Aa (Az (An (Ai ?_))))))
 obtain⟨x0,l0,rfl⟩:∃x m,l=x::m:=by cases l with|nil=>exact absurd rfl hne|cons x m=>exact⟨x,m,rfl⟩
 replace hS:=hS.Ln (OwnS.nil _ 0 3 1 A3)
 change Wx.Sep _ _ _ [_]at hS
 refine Aa (I rfl ?_)
 refine A4 (eC (.ct rfl (.cons (.const _) .nil)) (oL)) rfl (Qj 44 (D9 x0) (l0.map D9) _ (hG.up hS.Ch) (fun q hq=>by rw[←c8]at hq;obtain⟨x,hx,rfl⟩:=bx.1 hq;exact Pg (hs x hx) 44 cQ) (BG (x0::l0) hl hs)) ?_
 rintro _ w1 ⟨Bp,rfl,hK7,zK7,uw1⟩
 have zw1:=uw1.size
 replace hS:=hS.add uw1 (A':=A5 Bp (Pk ((x0::l0).map D9)) 9) (hK7) (fun i h=>by cases h;exact zK7)
 change Wx.Sep _ _ _ [_,_]at hS
 clear hK7
 rw[←c8,dv]
 obtain⟨l,el⟩:∃l,l=x0::l0:=⟨_,rfl⟩
 rw[←el]at hS hl hs⊢
 clear el
 refine U (.Ck lv (.t rfl)) ?_
 refine U (.move (.const _)) ?_
 refine Ah (Ak ?_)
 refine A6 (σ:=Nat×Go.Value) (fun s w=>(s.1≤l.length)∧(Wx.Sep no w0 w [Aw 3 1 A3 s.2 (l.take s.1),A5 Bp (Pk (l.map D9)) 9])) (fun s=>[(9,.eq (vi (s.1:Int))),(3,.eq (s.2))]) ([(2,.eq _),(7,.eq _),(8,.eq _)]) (fun s=>l.length-s.1) (0,.slice none 0 0) ?_ tQ ?_
 ·exact⟨a8 _,hS⟩
 rintro⟨k,v⟩ w2 ⟨hk,hS⟩
 dsimp only at hk hS
 change Wx.Sep _ _ _ [_,_]at hS
 change CW _ _ _ _ _ _ _ ([(9,.eq (vi (k:Int))),(3,.eq (v))]++_) _
 refine Af ?_
 refine U (.l2 rfl rfl) ?_
 refine An ?_
 refine CW.b rfl (fun h10=>?_) (fun h10=>?_)
 ·replace h10:=dQ h10
  refine Aj (Ac (Ai (Ak (Ai ?_))))
  have hkl:k<l.length:=cm.1 h10
  obtain⟨x,hx⟩:=Ae (xs:=l) (i:=k) hkl
  obtain⟨Bz,oz,az,hcz⟩:=Gt hS.b1 k (D9 x) (by rw[ew,hx];rfl)
  cases az
  refine Aa ?_
  refine U (.Ao lv mj (.t rfl) (.t rfl) oQ rfl) ?_
  refine U (.lb rfl (hcz.nth (j:=0) rfl)) ?_
  refine LW.A rfl (Ah (Aa (I rfl (I rfl ?_))))
  refine A4 (eC (.o rfl) (Vi)) rfl (Kq (x) (hs x (ai hx)) _) ?_
  rintro _ w3 ⟨rfl,uw3⟩
  have zw3:=uw3.size
  replace hS:=hS.up uw3
  refine Ap (.buildSlice (xs:=[x]) (enc:=A3) (mk:=vi) k_ lg lq rfl cQ (fun _=>rfl) (fun _=>rfl) (.cu rfl) rfl) rfl ?_
  rintro _ w4 ⟨B16,cB16,rfl,NB16,yB16,xB16⟩
  have eB16:=NB16.at_
  have zB16:=NB16.size
  replace hS:=hS.up NB16.up
  have hE16:=xB16
  refine Ap (.C3 (enc:=A3) (bytes:=8) (i:=Tryz.t3) k_ kQ rfl rfl rfl rfl cQ (fun _=>rfl) Et (.t rfl) (.t rfl) (hS.own 0 rfl) (Ay hE16) (by simp[maxLen];omega) (by simp;omega)) rfl ?_
  intro v17 w5 Gw5
  have zw5:=Gw5.fr.size
  replace hS:=hS.Fs 0 rfl Gw5
  change Wx.Sep _ _ _ [_,_]at hS
  refine LW.A rfl (LW.nil (Al (Ac (Aa ?_))))
  refine U (.ic rfl oQ) ?_
  refine I rfl (LW.nil (Av ?_))
  exact⟨(k+1,v17),⟨by show k+1≤_;omega,by rw[Df hx];exact hS⟩,tQ,by show l.length-(k+1)<l.length-k;omega⟩
 replace h10:=dQ h10
 refine A8 (Ab (Ab (Aq (Ac (Af (I rfl (LW.A rfl (Ah (Am ?_)))))))))
 refine KW.q ?_
 have hkl:k=l.length:=by have:¬k<l.length:=fun h=>h10 (cm.2 h);omega
 subst hkl
 rw[b8]at hS
 exact⟨(hS.own 0 rfl).F5 (fun i h=>(hS.foot 0 rfl i h).resolve_left (fun h=>h)),hS.Ch⟩
theorem Wk(a b:Int)(ha:Sm a)(hb:Sm b)(w:World)(hG:GM w):Ret prog 251 #[.string (bs (Lq a b))] w fun r w'=>r=.tuple #[vi a,vi b]∧Up w w':=by
 have hW:=Up.refl w
 refine cT 19 func251 rfl ?_
 refine Af (Az (Az (An (Aa (I rfl ?_)))))
 refine A4 (eC (.ct rfl (.cons (.const _) .nil)) (GG)) rfl (wN (D9 a) (D9 b) (Pg ha 46 cQ) (by have:=(E8 ha).2.2.1;have:=(E8 hb).2.2.1;omega) _ hG) ?_
 rintro _ w1 ⟨rfl,uw1⟩
 have zw1:=uw1.size
 replace hW:=hW.up uw1
 refine I rfl (U (.xt rfl rfl) (U (.xt rfl rfl) (U (.xt rfl rfl) (LW.A rfl (LW.A rfl (LW.A rfl (An (Aa (I rfl ?_)))))))))
 refine A4 (eC (.o rfl) (Oq)) rfl (Hp _) ?_
 rintro _ w2 uw2
 have zw2:=uw2.size
 replace hW:=hW.up uw2
 refine An (Aa (I rfl ?_))
 refine A4 (eC (.o rfl) (Vi)) rfl (Kq a ha _) ?_
 rintro _ w3 ⟨rfl,uw3⟩
 have zw3:=uw3.size
 replace hW:=hW.up uw3
 refine I rfl ?_
 refine A4 (eC (.o rfl) (Vi)) rfl (Kq b hb _) ?_
 rintro _ w4 ⟨rfl,uw4⟩
 have zw4:=uw4.size
 replace hW:=hW.up uw4
 refine LW.A rfl (LW.A rfl (Ah (Am ?_)))
 refine Gj rfl rfl rfl ⟨_,rfl,?_⟩
 exact⟨rfl,hW⟩
theorem Qk(p:List UInt8)(qs:List (List UInt8))(adf:Option Addr)(cpf:Nat)(fx:List (List UInt8))(hc:∀q∈p::qs,32∉q)(hl:(Du 32 p qs).length≤1000000)(hfl:fx.length≤(p::qs).length)(hfx:BH fx (p::qs))(hq:(p::qs).length≤1000)(w:World)(hG:GM w)(hE:Els w adf 1 BE fx):Ret prog 249 #[.string (bs (Du 32 p qs)),.slice adf fx.length cpf] w fun r w'=>∃B,r=.slice (some ⟨B,0,none⟩) (p::qs).length (p::qs).length∧Blk w' B (Pk (p::qs)) 9∧w.heap.size≤B∧Up w w':=by
 obtain⟨w0,rfl,hS⟩:=W0 w
 refine cT 36 func249 rfl ?_
 refine Af (Az (An (Aa (I rfl ?_))))
 refine A4 (eC (.ct rfl (.cons (.const _) .nil)) (oL)) rfl (Qj 32 p qs _ (hG.up hS.Ch) hc hl) ?_
 rintro _ w1 ⟨Bp,rfl,hK9,zK9,uw1⟩
 have zw1:=uw1.size
 replace hS:=hS.add uw1 (A':=A5 Bp (Pk (p::qs)) 9) (hK9) (fun i h=>by cases h;exact zK9)
 change Wx.Sep _ _ _ [_]at hS
 clear hK9
 refine LW.A rfl (An (Aa (I rfl ?_)))
 refine U (.Ck lv (.t rfl)) ?_
 refine I rfl ?_
 refine U (.Ck lv (.t rfl)) ?_
 refine U (.tr (PEv.geq (.t rfl) (.t rfl)) (bj oQ)) ?_
 refine A4 (eC (.o rfl) (Oq)) rfl (Hp _) ?_
 rintro _ w2 uw2
 have zw2:=uw2.size
 replace hS:=hS.up uw2
 refine An (Af (I rfl ?_))
 refine U (.Ck lv (.t rfl)) ?_
 refine U (.move (.const _)) ?_
 refine Ah (Ak ?_)
 refine A6 (σ:=Nat) (fun s w=>(s≤fx.length)∧(Wx.Sep no w0 w [A5 Bp (Pk (p::qs)) 9])) (fun s=>[(18,.eq (vi (s:Int)))]) ([(4,.eq _),(5,.eq _),(16,.eq _),(17,.eq _)]) (fun s=>fx.length-s) 0 ?_ tQ ?_
 ·exact⟨a8 _,hS⟩
 rintro k w3 ⟨hk,hS⟩
 refine Af ?_
 refine U (.l2 rfl rfl) ?_
 refine An ?_
 refine CW.b rfl (fun h19=>?_) (fun h19=>?_)
 ·replace h19:=dQ h19
  refine Aj (Ac (Ai (Ak (Ai ?_))))
  have hkl:k<fx.length:=cm.1 h19
  obtain⟨x,hx⟩:=Ae (xs:=fx) (i:=k) hkl
  obtain⟨Bx,ox,ax,hcx⟩:=(Els.up hE hS.Ch) k x hx
  refine Aa (I rfl ?_)
  refine U (.Ao lv mj (j:=k) (.t rfl) (.t rfl) oQ ax) ?_
  refine U (.lb rfl (hcx.nth (j:=0) rfl)) ?_
  refine LW.A rfl (LW.A rfl (Ah ?_))
  cases hq6:decide (x=[])with
  |true=>
   refine Aa (I rfl ?_)
   refine U (.tr (Eg (.t rfl) (.const _)) (T2 (b:=[]) (b9 hq6))) ?_
   refine I rfl ?_
   refine Bh ?_
   refine Bh ?_
   refine Bh ?_
   refine Bh ?_
   refine Bh ?_
   refine Bh ?_
   refine U (.Ev (b:=false) (.t rfl) (fun hp=>absurd (show true=false from hp) cQ)) ?_
   refine A4 (eC (.o rfl) (Oq)) rfl (Hp _) ?_
   rintro _ w4 uw4
   have zw4:=uw4.size
   replace hS:=hS.up uw4
   refine LW.nil (Al (Ac (Aa ?_)))
   refine U (.ic rfl oQ) ?_
   refine I rfl (LW.nil (Av ?_))
   exact⟨k+1,⟨by omega,hS⟩,tQ,by first|omega|(dsimp only;omega)⟩
  |false=>
   have hxk:=(hfx k x hx).resolve_left (cd hq6)
   obtain⟨By,oy,ay,hcy⟩:=Gt hS.b0 k x hxk
   cases ay
   refine Aa (I rfl ?_)
   refine U (.fa (Eg (.t rfl) (.const _)) (Wh (b:=[]) (cd hq6))) ?_
   refine I rfl ?_
   refine Au ?_
   refine I rfl ?_
   refine Au ?_
   refine I rfl ?_
   refine Au ?_
   refine U (.Ao lv mj (j:=k) (.t rfl) (.t rfl) oQ rfl) ?_
   refine Au ?_
   refine U (.lb rfl (hcy.nth (j:=0) rfl)) ?_
   refine Au ?_
   refine I rfl ?_
   refine Au ?_
   refine U (.tr (Eg (.t rfl) (.t rfl)) (T2 rfl)) ?_
   refine U (.po rfl (fun hp=>wQ)) ?_
   refine A4 (eC (.o rfl) (Oq)) rfl (Hp _) ?_
   rintro _ w5 uw5
   have zw5:=uw5.size
   replace hS:=hS.up uw5
   refine LW.nil (Al (Ac (Aa ?_)))
   refine U (.ic rfl oQ) ?_
   refine I rfl (LW.nil (Av ?_))
   exact⟨k+1,⟨by omega,hS⟩,tQ,by first|omega|(dsimp only;omega)⟩
 replace h19:=dQ h19
 refine A8 (Ab (Ab (Aq (Ac (Af (I rfl (LW.A rfl (Ah (Am ?_)))))))))
 refine KW.q ?_
 exact⟨_,rfl,hS.blk 0 rfl,(hS.foot 0 rfl Bp rfl).resolve_left (fun h=>h),hS.Ch⟩
theorem rZ(Bf:Nat)(w:World)(hG:GM w)(hb:∀i,Cy [A5 Bf (#[vi 0,vi 0,.slice none 0 0,.slice none 0 0]) 29] i→0<i)(hS0:Wx.Sep (Cy [A5 Bf (#[vi 0,vi 0,.slice none 0 0,.slice none 0 0]) 29]) w w [A5 Bf (#[vi 0,vi 0,.slice none 0 0,.slice none 0 0]) 29]):Ret prog 216 #[.pointer (some ⟨Bf,0,none⟩),.string (bs (Gx))] w fun _ w'=>Wx.Sep (Cy [A5 Bf (#[vi 0,vi 0,.slice none 0 0,.slice none 0 0]) 29]) w w' [A5 Bf (Eo (.slice none 0 0)) 29]:=by
 obtain⟨w0,rfl,_⟩:=W0 w
 have hS:=hS0
 refine cT 30 func216 rfl ?_
 refine Af (I rfl ?_)
 refine Ap (.buildSlice (xs:=([Mo,[]]:List (List UInt8))) (enc:=BE) (mk:=fun l=>.string (bs l)) lv mj nf rfl cQ (fun _=>rfl) (fun _=>rfl) (.cons (.const _) (.cons (.const _) .nil)) rfl) rfl ?_
 rintro _ w1 ⟨B6,cB6,rfl,NB6,yB6,xB6⟩
 have eB6:=NB6.at_
 have zB6:=NB6.size
 replace hS:=hS.up NB6.up
 have hE6:=xB6
 refine A4 (eC (.u rfl rfl) (oT)) rfl (Qk Mo [Lq 2 5] _ _ ([Mo,[]]:List (List UInt8)) (fun q hq=>by simp only[bp,ei,d_]at hq;rcases hq with rfl|rfl;(decide);exact fQ ⟨by decide,by decide⟩ ⟨by decide,by decide⟩ 32 cQ cQ) (by have:=join_le 32 Mo [Lq 2 5] 6 (fun q hq=>by simp only[bp,ei,d_]at hq;rcases hq with rfl|rfl;(decide);exact yP);have h2:([Lq 2 5]:List (List UInt8)).length=1:=rfl;rw[h2]at this;omega) cQ (fun i f h=>match i,h with|0,h=>.inr h|1,h=>.inl (dc h).symm|_+2,h=>by cases h) cQ _ (hG.fr hS.fr (fun h=>absurd (hb 0 h) (iu 0))) hE6) ?_
 rintro _ w2 ⟨Bw,rfl,hK,zK,uw2⟩
 have zw2:=uw2.size
 replace hE6:=hE6.up uw2
 replace hS:=hS.add uw2 (A':=A5 Bw (Pk [Mo,Lq 2 5]) 9) (hK) (fun i h=>by cases h;exact zK)
 change Wx.Sep _ _ _ [_,_]at hS
 clear hK
 refine LW.A rfl (An (Aa (I rfl ?_)))
 refine U (.Ck lv (.t rfl)) ?_
 refine U (.tr (PEv.eql (.t rfl) (.const _)) (rfl)) ?_
 refine A4 (eC (.o rfl) (Oq)) rfl (Hp _) ?_
 rintro _ w3 uw3
 have zw3:=uw3.size
 replace hS:=hS.up uw3
 refine An ?_
 obtain⟨Bx,ox,ax,hcx⟩:=Gt hS.b1 1 (Lq 2 5) rfl
 cases ax
 refine Aa (I rfl (I rfl (I rfl ?_)))
 refine U (.Ao lv mj (j:=1) (.t rfl) (.const _) cQ rfl) ?_
 refine U (.lb rfl (hcx.nth (j:=0) rfl)) ?_
 refine A4 (eC (.o rfl) (xX)) rfl (Wk 2 5 ⟨by decide,by decide⟩ ⟨by decide,by decide⟩ _ (hG.fr hS.fr (fun h=>absurd (hb 0 h) (iu 0)))) ?_
 rintro _ w4 ⟨rfl,uw4⟩
 have zw4:=uw4.size
 replace hS:=hS.up uw4
 refine I rfl (U (.xt rfl rfl) (U (.xt rfl rfl) ?_))
 refine U (.nc rfl) ?_
 refine U (.fB 0 rfl) ?_
 refine Cd (.store lg (.t rfl) (.t rfl) rfl hS.b0 bQ) ?_
 intro w5 Nw5
 have zw5:=Nw5.size
 replace hS:=hS.Ek 0 rfl (show Set_ _ w5 _ (#[vi 2,vi 0,.slice none 0 0,.slice none 0 0]) _ from Nw5)
 change Wx.Sep _ _ _ [_,_]at hS
 refine U (.nc rfl) ?_
 refine U (.fB 1 rfl) ?_
 refine Cd (.store lg (.t rfl) (.t rfl) rfl hS.b0 bQ) ?_
 intro w6 Nw6
 have zw6:=Nw6.size
 replace hS:=hS.Ek 0 rfl (show Set_ _ w6 _ (Eo (.slice none 0 0)) _ from Nw6)
 change Wx.Sep _ _ _ [_,_]at hS
 refine Ah (Aa (I rfl ?_))
 refine U (.nc rfl) ?_
 refine U (.lc rfl (hS.b0.agg)) ?_
 refine A4 (eC (.o rfl) (CP)) rfl (L2 none none 0 0 0 0 _) ?_
 rintro _ w7 ⟨rfl,uw7⟩
 have zw7:=uw7.size
 replace hS:=hS.up uw7
 refine A4 (eC (.o rfl) (Oq)) rfl (Hp _) ?_
 rintro _ w8 uw8
 have zw8:=uw8.size
 replace hS:=hS.up uw8
 refine LW.nil ?_
 refine Dh rfl ⟨_,rfl,?_⟩
 exact hS.take 1
theorem mM(Bf:Nat)(v:Go.Value)(L:List Sk)(s:Sk)(hs:s.Sml)(hok:s.Ok 40)(hL:L.length<40)(w:World)(hG:GM w)(hb:∀i,Cy [A5 Bf (Eo (v)) 29,Aw 49 7 Sk.cells (v) (L),Dw ((L).flatMap (Lm 3))] i→0<i)(hS0:Wx.Sep (Cy [A5 Bf (Eo (v)) 29,Aw 49 7 Sk.cells (v) (L),Dw ((L).flatMap (Lm 3))]) w w [A5 Bf (Eo (v)) 29,Aw 49 7 Sk.cells (v) (L),Dw ((L).flatMap (Lm 3))]):Ret prog 217 #[.pointer (some ⟨Bf,0,none⟩),.string (bs (Dd L.length s))] w fun _ w'=>∃v' s',Sk.v s'=Sk.v s∧Wx.Sep (Cy [A5 Bf (Eo (v)) 29,Aw 49 7 Sk.cells (v) (L),Dw ((L).flatMap (Lm 3))]) w w' [A5 Bf (Eo (v')) 29,Aw 49 7 Sk.cells (v') (L++[s']),Dw ((L++[s']).flatMap (Lm 3))]:=by
 obtain⟨w0,rfl,_⟩:=W0 w
 obtain⟨ado,cpo,rfl,_⟩:=(hS0.own 1 rfl).sl (fun _=>rfl)
 have hS:=hS0
 have h0:¬Cy [A5 Bf (Eo (.slice ado L.length cpo)) 29,Aw 49 7 Sk.cells (.slice ado L.length cpo) (L),Dw ((L).flatMap (Lm 3))] 0:=fun h=>absurd (hb 0 h) (iu 0)
 refine cT 91 func217 rfl ?_
 refine Af (I rfl (I rfl ?_))
 refine U (.nc rfl) ?_
 refine U (.fB 2 rfl) ?_
 refine U (.lb rfl (hS.b0.Ad rfl)) ?_
 refine U (.Ck lr (.t rfl)) ?_
 refine A4 (eC (.o rfl) (xY)) rfl (bL (L.length:Int) ⟨gy _,by omega⟩ _) ?_
 rintro _ w1 ⟨rfl,uw1⟩
 have zw1:=uw1.size
 replace hS:=hS.up uw1
 refine Ap (.buildSlice (xs:=([Eh,D9 L.length,Rb,[],J6,[],Mm,[],Mn,[]]:List (List UInt8))) (enc:=BE) (mk:=fun l=>.string (bs l)) lv mj nf rfl cQ (fun _=>rfl) (fun _=>rfl) (.cons (.const _) (.ct rfl (.cons (.const _) (.cons (.const _) (.cons (.const _) (.cons (.const _) (.cons (.const _) (.cons (.const _) (.cons (.const _) (.cons (.const _) .nil)))))))))) rfl) rfl ?_
 rintro _ w2 ⟨B13,cB13,rfl,NB13,yB13,xB13⟩
 have eB13:=NB13.at_
 have zB13:=NB13.size
 replace hS:=hS.up NB13.up
 have hE13:=xB13
 refine A4 (eC (.u rfl rfl) (oT)) rfl (Qk Eh (Ho L.length s) _ _ ([Eh,D9 L.length,Rb,[],J6,[],Mm,[],Mn,[]]:List (List UInt8)) (X7 oQ hs 32 (.inl rfl)) (bu (T5 oQ hs) cQ) (show 10≤_ by rw[rS];split<;>decide) (KL L.length s) (by rw[bg,E9];split<;>decide) _ (hG.fr hS.fr h0) hE13) ?_
 rintro _ w3 ⟨Bw,rfl,hK,zK,uw3⟩
 have zw3:=uw3.size
 replace hE13:=hE13.up uw3
 replace hS:=hS.add uw3 (A':=A5 Bw (Pk (Eh::Ho L.length s)) 9) (hK) (fun i h=>by cases h;exact zK)
 change Wx.Sep _ _ _ [_,_,_,_]at hS
 clear hK
 refine LW.A rfl (An ?_)
 refine Rq 11 9 10 8 5 23 ((⟨0,[],none,0,0,0,[],none,0,0,0⟩:Sk).cells) [.eq (.slice (some ⟨Bw,0,none⟩) (Eh::Ho L.length s).length (Eh::Ho L.length s).length),.eq (.pointer (some ⟨Bw,0+3*1,none⟩)),.eq (.string (bs (D9 s.rc))),.eq (vi s.rc),.eq (.slice (some ⟨Bw,0,none⟩) (Eh::Ho L.length s).length (Eh::Ho L.length s).length),.eq (.pointer (some ⟨Bw,0+5*1,none⟩)),.eq (.string (bs (K0 s.tl))),.pred fun v W=>OwnS W w3.drew.heap.size 3 1 A3 v s.tl,.pred fun v W=>∃ad22 cp22,v=.agg (Sk.cells (⟨s.rc,s.tl,ad22,cp22,0,0,[],none,0,-1,0⟩:Sk))∧OwnS W w3.drew.heap.size 3 1 A3 (.slice ad22 s.tl.length cp22) s.tl,.pred fun v _=>∃B,v=.pointer (some ⟨B,0,none⟩),.eq (undef)] [] l_ l4 kQ rfl kQ kQ kQ kQ kQ kQ kQ rfl rfl ⟨_,_,_,rfl⟩ _ rfl ⟨_,_,_,rfl⟩ ⟨ot,ot,ot,ot,ot,ot,ot,PhT.pred fun _ _ _ h u=>OwnS.Dj h cQ u,PhT.pred fun _ _ _ h u=>let⟨ad,cp,e,ho⟩:=h;⟨ad,cp,e,ho.Dj cQ u⟩,PhT.pred fun _ _ _ h _=>h,ot,trivial⟩ rfl (fun v W h=>let⟨_,_,e,_⟩:=h;⟨_,e,rfl,Sk.one _⟩) (fun B W=>⟨B,rfl⟩) ?_ ?_
 ·intro W hU0
  have hU:=(Up.drew w3).trans hU0
  have hSW:=hS.up hU
  have zU0:=hU0.size
  obtain⟨B3_,o3_,a3_,hc3⟩:=Gt hSW.b3 3 (D9 s.rc) rfl
  cases a3_
  obtain⟨B5_,o5_,a5_,hc5⟩:=Gt hSW.b3 5 (K0 s.tl) rfl
  cases a5_
  refine aC (.inr ⟨rfl,TU.p (.mv rfl) rfl⟩) ?_
  refine aC (.inr ⟨rfl,TU.p (.Ao lv mj (j:=3) (.t rfl) (.const _) (by rw[bg,E9];split<;>decide) rfl) rfl⟩) ?_
  refine aC (.inr ⟨rfl,TU.p (.lb rfl (hc3.nth (j:=0) rfl)) rfl⟩) ?_
  refine aC (.inr ⟨rfl,TU.c (eC (.o rfl) (Vi)) (Kq s.rc hs.rc W) sQ⟩) ?_
  refine aC (.inr ⟨rfl,TU.p (.mv rfl) rfl⟩) ?_
  refine aC (.inr ⟨rfl,TU.p (.Ao lv mj (j:=5) (.t rfl) (.const _) (by rw[bg,E9];split<;>decide) rfl) rfl⟩) ?_
  refine aC (.inr ⟨rfl,TU.p (.lb rfl (hc5.nth (j:=0) rfl)) rfl⟩) ?_
  refine aC (.inr ⟨rfl,TU.c (eC (.o rfl) (xZ)) (Wj s.tl hs.tn.1 (by have:=hs.tn.2;omega) hs.tl W (hG.fr hSW.fr h0)) (by rintro v W1 ⟨ho,u⟩;exact⟨u,ho.mono zU0⟩)⟩) ?_
  refine aC (.inr ⟨rfl,TU.open (d:=22) rfl fun v hv=>by obtain⟨ad,cp,rfl,_⟩:=OwnS.sl hv (fun _=>rfl);exact TU.p (.build (cs:=Sk.cells ⟨s.rc,s.tl,ad,cp,0,0,[],none,0,-1,0⟩) underlying49 l_ J9 (.ct rfl (.ct rfl (.cons (.const _) .nil))) rfl) ⟨ad,cp,rfl,hv⟩⟩) ?_
  refine aC (.inl (.inl rfl)) ?_
  refine aC (.inl (.inr rfl)) ?_
  exact allL.nil
 intro w4 B5 g hU0 zB5_ hB5 hg
 have hU:=(Up.drew w3).trans hU0
 have zw4:=hU.size
 have zdr:w3.drew.heap.size=w3.heap.size:=rfl
 obtain⟨ad22,cp22,e23,ho22⟩:∃ad22 cp22,g 23=.agg (Sk.cells (⟨s.rc,s.tl,ad22,cp22,0,0,[],none,0,-1,0⟩:Sk))∧OwnS w4 w3.drew.heap.size 3 1 A3 (.slice ad22 s.tl.length cp22) s.tl:=hg 8 _ 23 cQ rfl rfl
 rw[e23]at hB5
 replace hB5:Blk w4 B5 (Sk.cells (⟨s.rc,s.tl,ad22,cp22,0,0,[],none,0,-1,0⟩:Sk)) 49:=hB5
 clear e23 hg
 replace hS:=(hS.up (Up.drew _)).KN hU0 (A:=A5 B5 (Sk.cells (⟨s.rc,s.tl,ad22,cp22,0,0,[],none,0,-1,0⟩:Sk)) 49) (B:=Aw 3 1 A3 (.slice ad22 s.tl.length cp22) s.tl) hB5 (ho22.mono (a8 _)) (fun i(e:i=B5)=>by omega) (fun i h=>ho22.base i h) (fun i(e:i=B5)h2=>wL ho22 hB5 cQ (e▸h2))
 clear ho22 hB5
 change Wx.Sep _ _ _ [_,_,_,_,_,_]at hS
 refine An ?_
 obtain⟨B7_,o7_,a7_,hc7⟩:=Gt hS.b3 7 (Lq s.mn s.mx) rfl
 cases a7_
 refine Aa (I rfl ?_)
 refine U (.Ao lv mj (j:=7) (.t rfl) (.const _) (by rw[bg,E9];split<;>decide) rfl) ?_
 refine U (.lb rfl (hc7.nth (j:=0) rfl)) ?_
 refine A4 (eC (.o rfl) (xX)) rfl (Wk s.mn s.mx hs.mn hs.mx _ (hG.fr hS.fr h0)) ?_
 rintro _ w5 ⟨rfl,uw5⟩
 have zw5:=uw5.size
 replace hS:=hS.up uw5
 refine I rfl (U (.xt rfl rfl) (U (.xt rfl rfl) ?_))
 refine U (.fB 2 rfl) ?_
 refine Cd (.store lg (.t rfl) (.t rfl) rfl hS.b4 bQ) ?_
 intro w6 Nw6
 have zw6:=Nw6.size
 replace hS:=hS.Ek 4 rfl (show Set_ _ w6 _ (((⟨s.rc,s.tl,ad22,cp22,s.mn,0,[],none,0,-1,0⟩:Sk)).cells) _ from Nw6)
 change Wx.Sep _ _ _ [_,_,_,_,_,_]at hS
 refine U (.fB 3 rfl) ?_
 refine Cd (.store lg (.t rfl) (.t rfl) rfl hS.b4 bQ) ?_
 intro w7 Nw7
 have zw7:=Nw7.size
 replace hS:=hS.Ek 4 rfl (show Set_ _ w7 _ (((⟨s.rc,s.tl,ad22,cp22,s.mn,s.mx,[],none,0,-1,0⟩:Sk)).cells) _ from Nw7)
 change Wx.Sep _ _ _ [_,_,_,_,_,_]at hS
 refine Ah ?_
 refine E1 (fun a1 W=>Ag 91 [] ([(0,.eq (.pointer (some ⟨Bf,0,none⟩))),(1,.eq (.string (bs (Dd L.length s)))),(5,.eq (.pointer (some ⟨B5,0,none⟩))),(4,.eq (.slice (some ⟨Bw,0,none⟩) (Eh::Ho L.length s).length (Eh::Ho L.length s).length))]) a1 W∧∃adn cpn,Wx.Sep (Cy [A5 Bf (Eo (.slice ado L.length cpo)) 29,Aw 49 7 Sk.cells (.slice ado L.length cpo) (L),Dw ((L).flatMap (Lm 3))]) w0 W [A5 Bf (Eo (.slice ado L.length cpo)) 29,Aw 49 7 Sk.cells (.slice ado L.length cpo) L,Dw (L.flatMap (Lm 3)),A5 Bw (Pk (Eh::Ho L.length s)) 9,A5 B5 (Sk.cells (⟨s.rc,s.tl,ad22,cp22,s.mn,s.mx,s.nx,adn,cpn,-1,0⟩:Sk)) 49,Aw 3 1 A3 (.slice ad22 s.tl.length cp22) s.tl,Aw 3 1 A3 (.slice adn s.nx.length cpn) s.nx]) ?_ ?_
 ·skip
  refine Ai ?_
  cases hq3:decide (s.nx=[])with
  |true=>
   have hnx:=b9 hq3
   obtain⟨B9_,o9_,a9_,hc9⟩:=Gt hS.b3 9 (K0 s.nx) rfl;cases a9_
   have hSn:=hS.Ln (OwnS.nil (α:=Int) _ 0 3 1 A3)
   refine Aa (I rfl ?_)
   refine U (.Ao lv mj (j:=9) (.t rfl) (.const _) (by rw[bg,E9];split<;>decide) rfl) ?_
   refine U (.lb rfl (hc9.nth (j:=0) rfl)) ?_
   refine U (.fa (PEv.cZ (.t rfl) (.const _)) (bi (! ·) (T2 (b:=[45]) (by rw[hnx];rfl)))) ?_
   refine Ah ?_
   refine CW.f rfl ?_
   refine Aj ?_
   exact fun a ha=>⟨ha.sub tQ,(by first|exact⟨_,_,hS⟩|exact⟨none,0,by rw[hnx];exact hSn⟩)⟩
  |false=>
   have hnx:=cd hq3
   obtain⟨B9_,o9_,a9_,hc9⟩:=Gt hS.b3 9 (K0 s.nx) rfl;cases a9_
   refine Aa (I rfl ?_)
   refine U (.Ao lv mj (j:=9) (.t rfl) (.const _) (by rw[bg,E9];split<;>decide) rfl) ?_
   refine U (.lb rfl (hc9.nth (j:=0) rfl)) ?_
   refine U (.tr (PEv.cZ (.t rfl) (.const _)) (bi (! ·) (Wh (b:=[45]) (HJ hs.nx hnx)))) ?_
   refine Ah ?_
   refine CW.v rfl ?_
   refine Aa (I rfl ?_)
   refine U (.Ao lv mj (j:=9) (.t rfl) (.const _) (by rw[bg,E9];split<;>decide) rfl) ?_
   refine U (.lb rfl (hc9.nth (j:=0) rfl)) ?_
   refine A4 (eC (.o rfl) (xZ)) rfl (Wj s.nx hnx (by have:=hs.nn;omega) hs.nx _ (hG.fr hS.fr h0)) ?_
   rintro v40 w8 ⟨hO40,uw8⟩
   have zw8:=uw8.size
   replace hS:=hS.add uw8 (A':=Aw 3 1 A3 v40 s.nx) (hO40.mono (a8 _)) (fun i h=>hO40.base i h)
   change Wx.Sep _ _ _ [_,_,_,_,_,_,_]at hS
   clear hO40
   obtain⟨adn,cpn,rfl,_⟩:=(hS.own 6 rfl).sl (fun _=>rfl)
   refine U (.fB 4 rfl) ?_
   refine Cd (.store m4 (.t rfl) (.t rfl) rfl hS.b4 bQ) ?_
   intro w9 Nw9
   have zw9:=Nw9.size
   replace hS:=hS.Ek 4 rfl (show Set_ _ w9 _ (((⟨s.rc,s.tl,ad22,cp22,s.mn,s.mx,s.nx,adn,cpn,-1,0⟩:Sk)).cells) _ from Nw9)
   change Wx.Sep _ _ _ [_,_,_,_,_,_,_]at hS
   refine LW.nil ?_
   exact fun a ha=>⟨ha.sub tQ,(by first|exact⟨_,_,hS⟩|exact⟨none,0,by rw[hnx];exact hSn⟩)⟩
 rintro a1 w10 ⟨ha,⟨adn,cpn,hS⟩⟩
 revert a1
 show CW none _ _ _ _ _ _ _ _
 refine E1 (fun a1 W=>Ag 91 [] ([(0,.eq (.pointer (some ⟨Bf,0,none⟩))),(1,.eq (.string (bs (Dd L.length s)))),(5,.eq (.pointer (some ⟨B5,0,none⟩)))]) a1 W∧Wx.Sep (Cy [A5 Bf (Eo (.slice ado L.length cpo)) 29,Aw 49 7 Sk.cells (.slice ado L.length cpo) (L),Dw ((L).flatMap (Lm 3))]) w0 W [A5 Bf (Eo (.slice ado L.length cpo)) 29,Aw 49 7 Sk.cells (.slice ado L.length cpo) L,Dw (L.flatMap (Lm 3)),A5 B5 (Sk.cells (⟨s.rc,s.tl,ad22,cp22,s.mn,s.mx,s.nx,adn,cpn,s.bk,s.lm⟩:Sk)) 49,Aw 3 1 A3 (.slice ad22 s.tl.length cp22) s.tl,Aw 3 1 A3 (.slice adn s.nx.length cpn) s.nx]) ?_ ?_
 ·skip
  refine Ai ?_
  cases hq5:decide (0≤s.bk)with
  |true=>
   have hbk:=b9 hq5
   have hbs:=hs.bk.resolve_left (fun h=>by omega)
   refine Aa (I rfl ?_)
   refine U (.Ck lv (.t rfl)) ?_
   refine U (.tr (PEv.gtr (.t rfl) (.const _)) (bj (by rw[bg,E9,bh hbk];decide))) ?_
   refine Ah ?_
   refine CW.v rfl ?_
   refine Af (I rfl ?_)
   refine Ap (.buildSlice (xs:=([[],[],[],[],[],[],[],[],[],[],Oe,[],T4,[]]:List (List UInt8))) (enc:=BE) (mk:=fun l=>.string (bs l)) lv mj nf rfl cQ (fun _=>rfl) (fun _=>rfl) (.cons (.const _) (.cons (.const _) (.cons (.const _) (.cons (.const _) (.cons (.const _) (.cons (.const _) (.cons (.const _) (.cons (.const _) (.cons (.const _) (.cons (.const _) (.cons (.const _) (.cons (.const _) (.cons (.const _) (.cons (.const _) .nil)))))))))))))) rfl) rfl ?_
   rintro _ w11 ⟨B46,cB46,rfl,NB46,yB46,xB46⟩
   have eB46:=NB46.at_
   have zB46:=NB46.size
   replace hS:=hS.up NB46.up
   have hE46:=xB46
   refine A4 (eC (.u rfl rfl) (oT)) rfl (Qk Eh (Ho L.length s) _ _ ([[],[],[],[],[],[],[],[],[],[],Oe,[],T4,[]]:List (List UInt8)) (X7 oQ hs 32 (.inl rfl)) (bu (T5 oQ hs) cQ) (show 14≤_ by rw[rS,bh hbk];decide) (KM L.length s hbk) (by rw[bg,E9];split<;>decide) _ (hG.fr hS.fr h0) hE46) ?_
   rintro _ w12 ⟨Bv,rfl,hK,zK,uw12⟩
   have zw12:=uw12.size
   replace hE46:=hE46.up uw12
   replace hS:=hS.add uw12 (A':=A5 Bv (Pk (Eh::Ho L.length s)) 9) (hK) (fun i h=>by cases h;exact zK)
   change Wx.Sep _ _ _ [_,_,_,_,_,_,_,_]at hS
   clear hK
   refine LW.A rfl (An (Aa (I rfl ?_)))
   refine U (.Ck lv (.t rfl)) ?_
   refine U (.tr (PEv.eql (.t rfl) (.const _)) (by rw[bg,E9,bh hbk];rfl)) ?_
   refine A4 (eC (.o rfl) (Oq)) rfl (Hp _) ?_
   rintro _ w13 uw13
   have zw13:=uw13.size
   replace hS:=hS.up uw13
   refine Ah ?_
   obtain⟨B11_,o11_,a11_,hc11⟩:=Gt (hS.blk 7 rfl) 11 (D9 s.bk) (by unfold Ho;rw[bh hbk];rfl)
   cases a11_
   obtain⟨B13_,o13_,a13_,hc13⟩:=Gt (hS.blk 7 rfl) 13 (D9 s.lm) (by unfold Ho;rw[bh hbk];rfl)
   cases a13_
   refine C9 9 kQ kQ kQ kQ kQ rfl rfl ?_
   refine J (.mv rfl) ?_
   refine J (.Ao lv mj (j:=11) (.t rfl) (.const _) (by rw[bg,E9];rw[bh hbk];decide) rfl) ?_
   refine J (.lb rfl (hc11.nth (j:=0) rfl)) ?_
   refine HW.c (fun a w _ ha=>Bi (.cu rfl) (Vi) a ha) rfl rfl (fun w hu=>Kq s.bk hbs.1 w) ?_
   refine J (.mv rfl) ?_
   refine J (.Ao lv mj (j:=13) (.t rfl) (.const _) (by rw[bg,E9];rw[bh hbk];decide) rfl) ?_
   refine J (.lb rfl (hc13.nth (j:=0) rfl)) ?_
   refine HW.c (fun a w _ ha=>Bi (.cu rfl) (Vi) a ha) rfl rfl (fun w hu=>Kq s.lm hbs.2 w) ?_
   refine J (.fB 5 rfl) ?_
   refine HW.nil ?_
   intro w14 uw14
   have zw14:=uw14.size
   replace hS:=hS.up uw14
   refine Cd (.store lg (.t rfl) (.t rfl) rfl hS.b4 bQ) ?_
   intro w15 Nw15
   have zw15:=Nw15.size
   replace hS:=hS.Ek 4 rfl (show Set_ _ w15 _ (((⟨s.rc,s.tl,ad22,cp22,s.mn,s.mx,s.nx,adn,cpn,s.bk,0⟩:Sk)).cells) _ from Nw15)
   change Wx.Sep _ _ _ [_,_,_,_,_,_,_,_]at hS
   refine U (.fB 6 rfl) ?_
   refine Cd (.store lg (.t rfl) (.t rfl) rfl hS.b4 bQ) ?_
   intro w16 Nw16
   have zw16:=Nw16.size
   replace hS:=hS.Ek 4 rfl (show Set_ _ w16 _ (((⟨s.rc,s.tl,ad22,cp22,s.mn,s.mx,s.nx,adn,cpn,s.bk,s.lm⟩:Sk)).cells) _ from Nw16)
   change Wx.Sep _ _ _ [_,_,_,_,_,_,_,_]at hS
   refine LW.nil ?_
   exact fun a ha=>⟨ha.sub tQ,(by first|exact hS.sub (.cons_cons _ (.cons_cons _ (.cons_cons _ (.cons _ (.cons_cons _ (.cons_cons _ (.cons_cons _ (.cons _ .slnil))))))))|(rw[e1,e2];exact hS.sub (.cons_cons _ (.cons_cons _ (.cons_cons _ (.cons _ (.cons_cons _ (.cons_cons _ (.cons_cons _ .slnil)))))))))⟩
  |false=>
   have hbk:=cd hq5
   obtain⟨e1,e2⟩:=hs.bk.resolve_right (fun h=>by have:=h.1.1;omega)
   refine Aa (I rfl ?_)
   refine U (.Ck lv (.t rfl)) ?_
   refine U (.fa (PEv.gtr (.t rfl) (.const _)) (br (by rw[bg,E9,aq hbk];decide))) ?_
   refine Ah ?_
   refine CW.f rfl ?_
   refine Aj ?_
   exact fun a ha=>⟨ha.sub tQ,(by first|exact hS.sub (.cons_cons _ (.cons_cons _ (.cons_cons _ (.cons _ (.cons_cons _ (.cons_cons _ (.cons_cons _ (.cons _ .slnil))))))))|(rw[e1,e2];exact hS.sub (.cons_cons _ (.cons_cons _ (.cons_cons _ (.cons _ (.cons_cons _ (.cons_cons _ (.cons_cons _ .slnil)))))))))⟩
 rintro a1 w17 ⟨ha,hS⟩
 revert a1
 show CW none _ _ _ _ _ _ _ _
 refine Af ?_
 refine U (.lc rfl (hS.b3.agg)) ?_
 refine A4 (eC (.ct rfl (.cons (.const _) .nil)) (xG)) rfl (Nj (⟨s.rc,s.tl,ad22,cp22,s.mn,s.mx,s.nx,adn,cpn,s.bk,s.lm⟩:Sk) 40 _ cQ ⟨hok.rc,hok.mn,hok.bk,hok.tl,hok.ta,hok.nl,hok.nx⟩ (Cf (hS.own 4 rfl) (fun _=>rfl)) (Cf (hS.own 5 rfl) (fun _=>rfl))) ?_
 rintro _ w18 ⟨rfl,uw18⟩
 have zw18:=uw18.size
 replace hS:=hS.up uw18
 refine I rfl ?_
 refine Au ?_
 refine I rfl ?_
 refine Au ?_
 refine U (.nc rfl) ?_
 refine Au ?_
 refine U (.fB 2 rfl) ?_
 refine Au ?_
 refine U (.lb rfl (hS.b0.Ad rfl)) ?_
 refine Au ?_
 refine U (.Ck lr (.t rfl)) ?_
 refine Au ?_
 refine U (.tr (PEv.lss (.t rfl) (.const _)) (bj oQ)) ?_
 refine U (.pa rfl (fun hp=>wQ)) ?_
 refine I rfl ?_
 refine Au ?_
 refine I rfl ?_
 refine Au ?_
 refine U (.nc rfl) ?_
 refine Au ?_
 refine U (.fB 3 rfl) ?_
 refine Au ?_
 refine U (.lb rfl (hS.b0.Ad rfl)) ?_
 refine Au ?_
 refine U (.Ck l9 (.t rfl)) ?_
 refine Au ?_
 refine U (.tr (PEv.eql (.t rfl) (.const _)) (rfl)) ?_
 refine U (.pa rfl (fun hp=>wQ)) ?_
 refine A4 (eC (.o rfl) (Oq)) rfl (Hp _) ?_
 rintro _ w19 uw19
 have zw19:=uw19.size
 replace hS:=hS.up uw19
 refine Ah ?_
 refine Jh 7 (fun v w''=>Wx.Sep (Cy [A5 Bf (Eo (.slice ado L.length cpo)) 29,Aw 49 7 Sk.cells (.slice ado L.length cpo) (L),Dw ((L).flatMap (Lm 3))]) w0 w'' [A5 Bf (Eo (.slice ado L.length cpo)) 29,Aw 49 7 Sk.cells v (L++[(⟨s.rc,s.tl,ad22,cp22,s.mn,s.mx,s.nx,adn,cpn,s.bk,s.lm⟩:Sk)]),Dw (L.flatMap (Lm 3)),A5 B5 (Sk.cells (⟨s.rc,s.tl,ad22,cp22,s.mn,s.mx,s.nx,adn,cpn,s.bk,s.lm⟩:Sk)) 49,Aw 3 1 A3 (.slice ad22 s.tl.length cp22) s.tl,Aw 3 1 A3 (.slice adn s.nx.length cpn) s.nx]) kQ kQ kQ kQ kQ kQ rfl rfl rfl rfl rfl ?_
 refine J (.mv rfl) ?_
 refine J (.mv rfl) ?_
 refine J (.nc rfl) ?_
 refine J (.fB 2 rfl) ?_
 refine J (.lb rfl (hS.b0.Ad rfl)) ?_
 refine J (.lc rfl (hS.b3.agg)) ?_
 refine HW.r (p:=fun v w=>Sl w v 7 (Sk.cells) [(⟨s.rc,s.tl,ad22,cp22,s.mn,s.mx,s.nx,adn,cpn,s.bk,s.lm⟩:Sk)]) (fun _ _ _ h u=>Sl.up h u) rfl (fun w hu a ha=>let⟨v,w',h1,h2⟩:=REv.buildSlice (xs:=[(⟨s.rc,s.tl,ad22,cp22,s.mn,s.mx,s.nx,adn,cpn,s.bk,s.lm⟩:Sk)]) (enc:=Sk.cells) (mk:=fun s=>.agg s.cells) lr l4 l_ rfl bQ (fun _=>rfl) (fun _=>rfl) (.cu rfl) rfl a ha;⟨v,w',h1,h2.q⟩) rfl ?_
 refine HW.nil ⟨fun a w' hu ha=>?_,?_⟩
 ·exact(REv.open (d:=87) (p:=fun v w=>Sl w v 7 Sk.cells [(⟨s.rc,s.tl,ad22,cp22,s.mn,s.mx,s.nx,adn,cpn,s.bk,s.lm⟩:Sk)]) rfl fun vv hv=>(REv.C3 (enc:=Sk.cells) (bytes:=88) (i:=Tryz.t49) lr kQ rfl rfl rfl rfl cQ (fun _=>rfl) Sk.one (.t rfl) (.t rfl) ((hS.up hu).own 1 rfl) hv (by simp[maxLen];omega) (by simp;omega)).mono fun v' w'' h=>(hS.up hu).Fs 1 rfl h).y ha
 intro v88 w20 hS
 obtain⟨ad88,cp88,rfl,_⟩:=(hS.own 1 rfl).sl (fun _=>rfl)
 refine U (.nc rfl) ?_
 refine U (.fB 2 rfl) ?_
 refine Cd (.store sizeOf26 (.t rfl) (.t rfl) (hS.own 1 rfl).one hS.b0 bQ) ?_
 intro w21 Nw21
 have zw21:=Nw21.size
 replace hS:=hS.Ek 0 rfl (show Set_ _ w21 _ (Eo (.slice ad88 (L++[(⟨s.rc,s.tl,ad22,cp22,s.mn,s.mx,s.nx,adn,cpn,s.bk,s.lm⟩:Sk)]).length cp88)) _ from Nw21)
 change Wx.Sep _ _ _ [_,_,_,_,_,_]at hS
 refine LW.nil ?_
 refine Dh rfl ⟨_,rfl,?_⟩
 refine⟨.slice ad88 (L++[(⟨s.rc,s.tl,ad22,cp22,s.mn,s.mx,s.nx,adn,cpn,s.bk,s.lm⟩:Sk)]).length cp88,(⟨s.rc,s.tl,ad22,cp22,s.mn,s.mx,s.nx,adn,cpn,s.bk,s.lm⟩:Sk),rfl,?_⟩
 exact R1 (Bs:=[_,_]) (s:=(⟨s.rc,s.tl,ad22,cp22,s.mn,s.mx,s.nx,adn,cpn,s.bk,s.lm⟩:Sk)) (hS.sub (.cons_cons _ (.cons_cons _ (.cons_cons _ (.cons _ (.cons_cons _ (.cons_cons _ .slnil)))))))
theorem X9(a b:List UInt8)(w:World):Ret prog 158 #[.string (bs a),.string (bs b)] w fun r w'=>r=.bool (Go.Lib.hasPrefix a b)∧Up w w':=by
 refine Calls.mono (Tryz.strings_HasPrefix (bs a) (bs b) w) ?_
 rintro e w' ⟨rfl,rfl⟩
 exact⟨_,rfl,rfl,Up.refl _⟩
theorem T7(B:Nat)(w:World):AZ prog 215 #[.pointer (some ⟨B,0,none⟩)] w fun w'=>Up w w':=by
 have hW:=Up.refl w
 refine X6 (n:=5) (args:=[.pointer (some ⟨B,0,none⟩)]) func215 rfl rfl rfl ?_
 refine DW.seq (m:=9) (DW.region ?_)
 refine BB (fun a=>aY) rfl rfl rfl ?_
 refine DL.p (PEv.assign (.t rfl)) rfl rfl rfl ?_
 refine DL.nil ?_
 refine Ac (Af (I rfl ?_))
 refine U (.wJ underlying20 (.t rfl)) ?_
 refine Ah ?_
 refine CW.f rfl ?_
 refine Aj ?_
 refine Dh rfl ⟨_,rfl,?_⟩
 exact hW
theorem fR(Bf:Nat)(w:World)(hG:GM w)(hb:∀i,Cy [A5 Bf (#[vi 0,vi 0,.slice none 0 0,.slice none 0 0]) 29] i→0<i)(hS0:Wx.Sep (Cy [A5 Bf (#[vi 0,vi 0,.slice none 0 0,.slice none 0 0]) 29]) w w [A5 Bf (#[vi 0,vi 0,.slice none 0 0,.slice none 0 0]) 29]):Ret prog 159 #[.pointer (some ⟨Bf,0,none⟩),.string (bs (Gx)),.bool true] w fun r w'=>r=.bool true∧Wx.Sep (Cy [A5 Bf (#[vi 0,vi 0,.slice none 0 0,.slice none 0 0]) 29]) w w' [A5 Bf (Eo (.slice none 0 0)) 29]:=by
 obtain⟨w0,rfl,_⟩:=W0 w
 have hS:=hS0
 have h0:¬Cy [A5 Bf (#[vi 0,vi 0,.slice none 0 0,.slice none 0 0]) 29] 0:=fun h=>absurd (hb 0 h) (iu 0)
 refine Pf (n:=22) (m:=9) func159 rfl rfl rfl ?_
 refine Af ?_
 refine Ap (.Gl m7 rfl) rfl ?_
 rintro _ w1 ⟨B6,rfl,NB6⟩
 have eB6:=NB6.at_
 have zB6:=NB6.size
 replace hS:=hS.Cg NB6
 change Wx.Sep _ _ _ [_,_]at hS
 refine An (Aa ?_)
 refine U (.makeFunc (.cu rfl)) ?_
 refine Wg (.t rfl) ?_
 refine An (Ak (Af (I rfl (LW.A rfl (Ah ?_)))))
 refine CW.v rfl ?_
 refine Aa (I rfl (I rfl ?_))
 replace hS:=hS.Ep 0 rfl
 change Wx.Sep _ _ _ [_,_]at hS
 have hq_:=(show Wx.Sep _ _ _ ([_]++[_])from hS)
 refine A4 (eC (.u rfl rfl) (FH)) rfl (rZ Bf _ (hG.fr hS.fr h0) hb hq_.right.self) ?_
 rintro _ w2 uw2
 replace hS:=hq_.frame uw2
 change Wx.Sep _ _ _ [_,_]at hS
 have zw2:=uw2.fr.size
 clear hq_
 refine LW.nil (Al (Ac (Af ?_)))
 refine Cd (.store mf (.t rfl) (.const _) rfl hS.b0 bQ) ?_
 intro w3 Nw3
 have zw3:=Nw3.size
 replace hS:=hS.Ek 0 rfl Nw3
 change Wx.Sep _ _ _ [_,_]at hS
 refine Ah (Am ?_)
 refine jE (f:=215) (args:=#[.pointer (some ⟨B6,0,none⟩)]) (by first|exact(xT _ _)|simp[invoke]) rfl (T7 B6 _) (fun w9 u9=>?_)
 replace hS:=hS.up u9
 refine Rs rfl rfl isAgg4 (hS.b0.Ad rfl) ⟨_,rfl,?_⟩
 exact⟨rfl,hS.sub (.cons _ (List.Sublist.refl _))⟩
theorem fS(Bf:Nat)(v:Go.Value)(L:List Sk)(s:Sk)(hs:s.Sml)(hok:s.Ok 40)(hL:L.length<40)(w:World)(hG:GM w)(hb:∀i,Cy [A5 Bf (Eo (v)) 29,Aw 49 7 Sk.cells (v) (L),Dw ((L).flatMap (Lm 3))] i→0<i)(hS0:Wx.Sep (Cy [A5 Bf (Eo (v)) 29,Aw 49 7 Sk.cells (v) (L),Dw ((L).flatMap (Lm 3))]) w w [A5 Bf (Eo (v)) 29,Aw 49 7 Sk.cells (v) (L),Dw ((L).flatMap (Lm 3))]):Ret prog 159 #[.pointer (some ⟨Bf,0,none⟩),.string (bs (Dd L.length s)),.bool false] w fun r w'=>r=.bool true∧∃v' s',Sk.v s'=Sk.v s∧Wx.Sep (Cy [A5 Bf (Eo (v)) 29,Aw 49 7 Sk.cells (v) (L),Dw ((L).flatMap (Lm 3))]) w w' [A5 Bf (Eo (v')) 29,Aw 49 7 Sk.cells (v') (L++[s']),Dw ((L++[s']).flatMap (Lm 3))]:=by
 obtain⟨w0,rfl,_⟩:=W0 w
 have hS:=hS0
 have h0:¬Cy [A5 Bf (Eo (v)) 29,Aw 49 7 Sk.cells (v) (L),Dw ((L).flatMap (Lm 3))] 0:=fun h=>absurd (hb 0 h) (iu 0)
 refine Pf (n:=22) (m:=9) func159 rfl rfl rfl ?_
 refine Af ?_
 refine Ap (.Gl m7 rfl) rfl ?_
 rintro _ w1 ⟨B6,rfl,NB6⟩
 have eB6:=NB6.at_
 have zB6:=NB6.size
 replace hS:=hS.Cg NB6
 change Wx.Sep _ _ _ [_,_,_,_]at hS
 refine An (Aa ?_)
 refine U (.makeFunc (.cu rfl)) ?_
 refine Wg (.t rfl) ?_
 refine An (Ak (Af (I rfl (LW.A rfl (Ah ?_)))))
 refine CW.f rfl ?_
 refine Af (I rfl ?_)
 refine A4 (eC (.ct rfl (.cons (.const _) .nil)) (oM)) rfl (X9 (Dd L.length s) Eh _) ?_
 rintro _ w2 ⟨rfl,uw2⟩
 have zw2:=uw2.size
 replace hS:=hS.up uw2
 rw[BJ]
 refine LW.A rfl (Ah ?_)
 refine CW.v rfl ?_
 refine Aa (I rfl (I rfl ?_))
 replace hS:=hS.Ep 0 rfl
 change Wx.Sep _ _ _ [_,_,_,_]at hS
 replace hS:=hS.Ep 0 rfl
 change Wx.Sep _ _ _ [_,_,_,_]at hS
 replace hS:=hS.Ep 0 rfl
 change Wx.Sep _ _ _ [_,_,_,_]at hS
 have hq_:=(show Wx.Sep _ _ _ ([_]++[_,_,_])from hS)
 refine A4 (eC (.u rfl rfl) (FI)) rfl (mM Bf v L s hs hok hL _ (hG.fr hS.fr h0) hb hq_.right.self) ?_
 rintro _ w3 ⟨v2,s2,hv2,uw3⟩
 replace hS:=hq_.frame uw3
 change Wx.Sep _ _ _ [_,_,_,_]at hS
 have zw3:=uw3.fr.size
 clear hq_
 refine LW.nil (Al (Ac (Af ?_)))
 refine Cd (.store mf (.t rfl) (.const _) rfl hS.b0 bQ) ?_
 intro w4 Nw4
 have zw4:=Nw4.size
 replace hS:=hS.Ek 0 rfl Nw4
 change Wx.Sep _ _ _ [_,_,_,_]at hS
 refine Ah (Am ?_)
 refine jE (f:=215) (args:=#[.pointer (some ⟨B6,0,none⟩)]) (by first|exact(xT _ _)|simp[invoke]) rfl (T7 B6 _) (fun w9 u9=>?_)
 replace hS:=hS.up u9
 refine Rs rfl rfl isAgg4 (hS.b0.Ad rfl) ⟨_,rfl,?_⟩
 exact⟨rfl,v2,s2,hv2,hS.sub (.cons _ (List.Sublist.refl _))⟩
theorem mN(L:List Sk)(hL:FlS L)(w:World)(hG:GM w):Ret prog 84 #[.string (bs (C4 L))] w fun r w'=>∃sa sc M,r=.tuple #[.agg (Cx sa M.length sc none 0 0),vi 0,vi 0]∧Same L M∧FlK w.heap.size w' sa M∧Up w w':=by
 obtain⟨w0,rfl,hS⟩:=W0 w
 have hlen:=hL.len
 refine cT 40 func84 rfl ?_
 refine Af ?_
 refine Ap (.Cb mu) rfl ?_
 rintro _ w1 ⟨B2,rfl,NB2⟩
 have eB2:=NB2.at_
 have zB2:=NB2.size
 replace hS:=hS.Cg NB2
 change Wx.Sep _ _ _ [_]at hS
 refine Az (Az (An (Aa ?_)))
 refine Ap (.Cb mu) rfl ?_
 rintro _ w2 ⟨B5,rfl,NB5⟩
 have eB5:=NB5.at_
 have zB5:=NB5.size
 replace hS:=hS.Cg NB5
 change Wx.Sep _ _ _ [_,_]at hS
 refine An (Aa (I rfl ?_))
 refine A4 (eC (.ct rfl (.cons (.const _) .nil)) (oL)) rfl (Qj 10 Gx (L.mapIdx Dd++[[]]) _ (hG.up hS.Ch) hL.no (bu hL.le cQ)) ?_
 rintro _ w3 ⟨Bp,rfl,hK,zK,uw3⟩
 have zw3:=uw3.size
 replace hS:=hS.add uw3 (A':=A5 Bp (Pk (Rk L)) 9) (hK) (fun i h=>by cases h;exact zK)
 change Wx.Sep _ _ _ [_,_,_]at hS
 clear hK
 rw[show Gx::(L.mapIdx Dd++[[]])=Rk L from rfl]
 refine LW.A rfl (An ?_)
 replace hS:=rU (e:=3) ((hS.Ep 1 rfl).Ln (OwnS.nil _ 0 49 7 Sk.cells))
 change Wx.Sep _ _ _ [_,_,_,_,_]at hS
 refine Aa (Az (An (Af (I rfl ?_))))
 refine U (.Ck lv (.t rfl)) ?_
 refine U (.move (.const _)) ?_
 refine Ah (Ak ?_)
 refine A6 (σ:=Nat×Go.Value×List Sk) (fun s w=>(s.1≤L.length+2)∧(Same (L.take (s.1-1)) s.2.2)∧(s.1=0→s.2.1=.slice none 0 0)∧(Wx.Sep no w0 w [A5 B2 mL 29,A5 Bp (Pk (Rk L)) 9,A5 B5 (HK (s.1) (s.2.1)) 29,Aw 49 7 Sk.cells (s.2.1) (s.2.2),Dw ((s.2.2).flatMap (Lm 3))])) (fun s=>[(14,.eq (vi (s.1:Int))),(7,.eq (.bool (decide (s.1=0))))]) ([(2,.eq _),(5,.eq _),(6,.eq _),(12,.eq _),(13,.eq _)]) (fun s=>L.length+2-s.1) (0,.slice none 0 0,[]) ?_ tQ ?_
 ·exact⟨a8 _,rfl,fun _=>rfl,hS⟩
 rintro⟨k,v,M⟩ w4 ⟨hk,hM,hv0,hS⟩
 dsimp only at hk hM hv0 hS
 change Wx.Sep _ _ _ [_,_,_,_,_]at hS
 change CW _ _ _ _ _ _ _ ([(14,.eq (vi (k:Int))),(7,.eq (.bool (decide (k=0))))]++_) _
 refine Af ?_
 refine U (.l2 rfl rfl) ?_
 refine An ?_
 refine CW.b rfl (fun h15=>?_) (fun h15=>?_)
 ·replace h15:=dQ h15
  have hkl:k<L.length+2:=by rw[Mp]at h15;exact cm.1 h15
  refine Aj (Ac (Ai (Ak (Ai ?_))))
  cases k with
  |zero=>
   obtain rfl:=hv0 rfl
   obtain⟨Bx,ox,ax,hcx⟩:=Gt hS.b1 0 (Gx) rfl
   cases ax
   refine Aa (I rfl ?_)
   refine U (.Ao lv mj (j:=0) (.t rfl) (.t rfl) (by rw[Mp];omega) rfl) ?_
   refine U (.lb rfl (hcx.nth (j:=0) rfl)) ?_
   refine LW.A rfl (LW.A rfl (An (Af (I rfl ?_))))
   refine U (.fa (Eg (.t rfl) (.const _)) (Wh (b:=[]) cQ)) ?_
   refine I rfl ?_
   refine Au ?_
   refine I rfl ?_
   refine Au ?_
   refine A4 (eC (.ct rfl (.cons (.const _) .nil)) (oM)) rfl (X9 (Gx) [35] _) ?_
   rintro _ w5 ⟨rfl,uw5⟩
   have zw5:=uw5.size
   replace hS:=hS.up uw5
   rw[show Go.Lib.hasPrefix Gx [35]=false from rfl]
   refine U (.po rfl (fun hp=>wQ)) ?_
   refine Ah ?_
   refine CW.f rfl ?_
   refine Aj (Ac (Ai (Af (I rfl (I rfl ?_)))))
   replace hS:=hS.Ep 3 rfl
   change Wx.Sep _ _ _ [_,_,_,_,_]at hS
   replace hS:=hS.Ep 3 rfl
   change Wx.Sep _ _ _ [_,_,_,_,_]at hS
   replace hS:=hS.Ep 2 rfl
   change Wx.Sep _ _ _ [_,_,_,_,_]at hS
   have hq_:=(show Wx.Sep _ _ _ ([_,_,_,_]++[_])from hS)
   refine A4 (eC (.ct rfl (.ct rfl (.cu rfl))) (xN)) rfl (fR B5 _ (hG.up hS.Ch) (fun i⟨A_,h1,h2⟩=>by have h3:=((hq_.right.each A_ h1).2 i h2).resolve_left (fun h=>h);have:=hG.lt;omega) hq_.right.self) ?_
   rintro _ w6 ⟨rfl,uw6⟩
   replace hS:=hq_.frame uw6
   change Wx.Sep _ _ _ [_,_,_,_,_]at hS
   have zw6:=uw6.fr.size
   clear hq_
   replace hS:=(hS.Ep 2 rfl).Ep 2 rfl
   change Wx.Sep _ _ _ [_,_,_,_,_]at hS
   refine U (.n1 rfl) ?_
   refine Ah ?_
   refine CW.f rfl ?_
   refine Aj (Ac (Aa ?_))
   refine U (.Dt (v':=.bool (decide (((0+1,Go.Value.slice none 0 0,M)).1=0))) (PEv.assign (.const _)) (by simp)) ?_
   refine LW.nil (Al (Ac (Aa ?_)))
   refine U (.ic rfl oQ) ?_
   refine I rfl (LW.nil (Av ?_))
   exact⟨(0+1,Go.Value.slice none 0 0,M),⟨by show 0+1≤_;omega,hM,(fun h=>by cases h),hS⟩,tQ,by first|(show L.length+2-(0+1)<L.length+2-0;omega)|(show L.length+2-(M.length+1+1)<L.length+2-(M.length+1);omega)|(show L.length+2-(k1+1+1)<L.length+2-(k1+1);omega)⟩
  |succ k1=>
   cases hq6:decide (k1<L.length)with
   |true=>
    have hk1:=b9 hq6
    obtain⟨s,hs⟩:=Ae (xs:=L) (i:=k1) hk1
    have hsm:=ai hs
    have hMl:M.length=k1:=by have:=hM.len;rw[cc]at this;omega
    obtain⟨Bx,ox,ax,hcx⟩:=Gt hS.b1 (k1+1) (Dd k1 s) (wM hs)
    cases ax
    refine Aa (I rfl ?_)
    refine U (.Ao lv mj (j:=k1+1) (.t rfl) (.t rfl) (by rw[Mp];omega) rfl) ?_
    refine U (.lb rfl (hcx.nth (j:=0) rfl)) ?_
    refine LW.A rfl (LW.A rfl (An (Af (I rfl ?_))))
    refine U (.fa (Eg (.t rfl) (.const _)) (Wh (b:=[]) (fun e=>by cases e))) ?_
    refine I rfl ?_
    refine Au ?_
    refine I rfl ?_
    refine Au ?_
    refine A4 (eC (.ct rfl (.cons (.const _) .nil)) (oM)) rfl (X9 (Dd k1 s) [35] _) ?_
    rintro _ w7 ⟨rfl,uw7⟩
    have zw7:=uw7.size
    replace hS:=hS.up uw7
    rw[show Go.Lib.hasPrefix (Dd k1 s) [35]=false from rfl]
    refine U (.po rfl (fun hp=>wQ)) ?_
    refine Ah ?_
    refine CW.f rfl ?_
    refine Aj (Ac (Ai (Af (I rfl (I rfl ?_)))))
    replace hS:=hS.Ep 2 rfl
    change Wx.Sep _ _ _ [_,_,_,_,_]at hS
    replace hS:=hS.Ep 2 rfl
    change Wx.Sep _ _ _ [_,_,_,_,_]at hS
    replace hS:=hS.Ep 2 rfl
    change Wx.Sep _ _ _ [_,_,_,_,_]at hS
    have hq_:=(show Wx.Sep _ _ _ ([_,_]++[_,_,_])from hS)
    subst hMl
    refine A4 (eC (.ct rfl (.ct rfl (.cu rfl))) (xN)) rfl (fS B5 v M s (hL.sml s hsm) ((hL.ok s hsm).mono oQ) oQ _ (hG.up hS.Ch) (fun i⟨A_,h1,h2⟩=>by have h3:=((hq_.right.each A_ h1).2 i h2).resolve_left (fun h=>h);have:=hG.lt;omega) hq_.right.self) ?_
    rintro _ w8 ⟨rfl,v2,s2,hv2,uw8⟩
    replace hS:=hq_.frame uw8
    change Wx.Sep _ _ _ [_,_,_,_,_]at hS
    have zw8:=uw8.fr.size
    clear hq_
    refine U (.n1 rfl) ?_
    refine Ah ?_
    refine CW.f rfl ?_
    refine Aj (Ac (Aa ?_))
    refine U (.Dt (v':=.bool (decide (((M.length+1+1,v2,M++[s2])).1=0))) (PEv.assign (.const _)) (by simp)) ?_
    refine LW.nil (Al (Ac (Aa ?_)))
    refine U (.ic rfl oQ) ?_
    refine I rfl (LW.nil (Av ?_))
    exact⟨(M.length+1+1,v2,M++[s2]),⟨by show M.length+1+1≤_;omega,hM.snoc hs hv2,(fun h=>by cases h),hS⟩,tQ,by first|(show L.length+2-(0+1)<L.length+2-0;omega)|(show L.length+2-(M.length+1+1)<L.length+2-(M.length+1);omega)|(show L.length+2-(k1+1+1)<L.length+2-(k1+1);omega)⟩
   |false=>
    have hk1:=cd hq6
    have hkn:k1=L.length:=by omega
    obtain⟨Bx,ox,ax,hcx⟩:=Gt hS.b1 (k1+1) (([]:List UInt8)) (by rw[hkn];exact rT L)
    cases ax
    refine Aa (I rfl ?_)
    refine U (.Ao lv mj (j:=k1+1) (.t rfl) (.t rfl) (by rw[Mp];omega) rfl) ?_
    refine U (.lb rfl (hcx.nth (j:=0) rfl)) ?_
    refine LW.A rfl (LW.A rfl (An (Af (I rfl ?_))))
    refine U (.tr (Eg (.t rfl) (.const _)) (T2 (b:=[]) rfl)) ?_
    refine I rfl ?_
    refine Bh ?_
    refine Bh ?_
    refine U (.Ev (b:=false) (.t rfl) (fun hp=>absurd (show true=false from hp) cQ)) ?_
    refine Ah ?_
    refine CW.v rfl ?_
    refine A8 (Ab (Aq (Ac (Aa ?_))))
    refine U (.ic rfl oQ) ?_
    refine I rfl (LW.nil (Av ?_))
    exact⟨(k1+1+1,v,M),⟨by show k1+1+1≤_;omega,(by show Same (L.take (k1+1)) M;rw[hkn,gc (Nat.le_succ _)];rw[hkn]at hM;rw[show L.length+1-1=L.length from rfl,b8]at hM;exact hM),(fun h=>by cases h),hS⟩,tQ,by first|(show L.length+2-(0+1)<L.length+2-0;omega)|(show L.length+2-(M.length+1+1)<L.length+2-(M.length+1);omega)|(show L.length+2-(k1+1+1)<L.length+2-(k1+1);omega)⟩
 replace h15:=dQ h15
 have hkn:k=L.length+2:=by rw[Mp]at h15;omega
 subst hkn
 replace hM:Same L M:=by rw[show L.length+2-1=L.length+1 from rfl,gc (Nat.le_succ _)]at hM;exact hM
 obtain⟨sa,sc,rfl,_⟩:=(hS.own 3 rfl).sl (fun _=>rfl)
 have hFl:=X8 hL hM (hS.own 3 rfl) (hS.get 4 rfl)
 refine A8 (Ab (Ab (Aq (Ac (Ai (Af ?_))))))
 refine U (.lc rfl (hS.b2.agg)) ?_
 refine A4 (eC (.o rfl) (zE)) rfl (L3 sa none sc 0 M [] _ hFl) ?_
 rintro _ w9 ⟨rfl,uw9⟩
 have zw9:=uw9.size
 replace hS:=hS.up uw9
 replace hFl:=hFl.up uw9
 refine U (.n1 rfl) ?_
 refine Ah ?_
 refine CW.f rfl ?_
 refine Aj (Ac (Af ?_))
 refine U (.lc rfl (hS.b2.agg)) ?_
 have hS4:=hS
 refine Cd (.Cc m_ rfl (.t rfl) (.t rfl) (Hy _ _ _ _ _ _) hS.b0 rfl) ?_
 intro w10 Nw10
 have zw10:=Nw10.size
 replace hS:=hS.Ek 0 rfl (show Set_ _ w10 _ (Cx sa M.length sc none 0 0) _ from Nw10)
 change Wx.Sep _ _ _ [_,_,_,_,_]at hS
 refine Az (Az (Ah (Am ?_)))
 refine mK rfl rfl rfl rfl isAgg29 m_ rfl hS.b0.agg ⟨_,rfl,?_⟩
 exact⟨sa,sc,M,rfl,hM,⟨X8 hL hM (hS.own 3 rfl) (hS.get 4 rfl),FlB.of (k:=3) (m:=4) hS rfl rfl⟩,hS.Ch⟩
theorem jJ{k:Nat}{s:Sk}(h:0≤s.bk):Dd k s=((((((((((((((([115,116,101,112,32]++D9 (k:Int))++[32,114,101,99,105,112,101,32])++D9 s.rc)++[32,116,111,111,108,115,32])++K0 s.tl)++[32,116,105,109,101,32])++D9 s.mn)++[46,46])++D9 s.mx)++[32,110,101,120,116,32])++K0 s.nx)++[32,98,97,99,107,32])++D9 s.bk)++[32,108,105,109,105,116,32])++D9 s.lm):=by
 unfold Dd Ho Lq
 rw[bh h]
 simp[Du,Eh,Rb,J6,Mm,Mn,Oe,T4]
theorem sA{k:Nat}{s:Sk}(h:¬0≤s.bk):Dd k s=((((((((((([115,116,101,112,32]++D9 (k:Int))++[32,114,101,99,105,112,101,32])++D9 s.rc)++[32,116,111,111,108,115,32])++K0 s.tl)++[32,116,105,109,101,32])++D9 s.mn)++[46,46])++D9 s.mx)++[32,110,101,120,116,32])++K0 s.nx):=by
 unfold Dd Ho Lq
 rw[aq h]
 simp[Du,Eh,Rb,J6,Mm,Mn]
theorem Fq(x:Int)(hx:Sm x)(w:World):Ret prog 46 #[vi x] w fun r w'=>r=.string (bs (D9 x))∧Up w w':=by
 have hW:=Up.refl w
 obtain⟨w0,rfl,_⟩:=W0 w
 obtain⟨m,rfl⟩:∃m:Nat,x=(m:Int):=⟨x.toNat,by have:=hx.1;omega⟩
 refine cT 21 func46 rfl ?_
 refine Af (Az (An (Aa (Az (An (Ak ?_))))))
 refine A6 (σ:=Nat×List UInt8) (fun s w=>(DgI (m:Int) s.1 s.2)∧(Up w0 w)) (fun s=>[(0,.eq (vi (s.1:Int))),(3,.eq (.string (bs s.2)))]) ([(2,.eq _)]) (fun s=>s.1+(if s.2=[]then 1 else 0)) (m,[]) ?_ tQ ?_
 ·exact⟨⟨by have:=hx.2;show m<100;omega,rfl⟩,hW⟩
 rintro⟨y,l⟩ w1 ⟨hi,hW⟩
 dsimp only at hi
 have hly:=hi.lt
 have hll:=hi.le hx
 change CW _ _ _ _ _ _ _ ([(0,.eq (vi (y:Int))),(3,.eq (.string (bs l)))]++_) _
 refine Ai (Ai ?_)
 cases hq2:decide (l=[])with
 |true=>
  have hl:=b9 hq2
  have hn:=hi.next (.inl hl)
  refine Aa (I rfl ?_)
  refine U (.tr (Eg (.t rfl) (.const _)) (T2 (b:=[]) hl)) ?_
  refine I rfl ?_
  refine Bh ?_
  refine Bh ?_
  refine U (.Ev (b:=false) (.t rfl) (fun hp=>absurd (show true=false from hp) cQ)) ?_
  refine Ah ?_
  refine CW.v rfl ?_
  refine Aj (Ac (Ak (Af (I rfl ?_))))
  refine U (.Dt (v':=vi ((y%10:Nat):Int)) (PEv.rem (.t rfl) (.const _) cQ) (bi vi rfl)) ?_
  refine U (.add (.const _) (.t rfl) oQ oQ) ?_
  refine U (.Dt (v':=bv (UInt8.ofNat (48+y%10))) (PEv.conv (k':=.u8) (by rw[li];rfl) mw (.t rfl)) (bi (Go.Value.int .u8) (LB (y%10) (Nat.mod_lt y (show 0<10 by decide))))) ?_
  refine Ap (.buildSlice (xs:=[UInt8.ofNat (48+y%10)]) (enc:=Pz) (mk:=bv) md sizeOf5 ng rfl cQ (fun _=>rfl) (fun _=>rfl) (.cu rfl) rfl) rfl ?_
  rintro _ w2 ⟨B14,cB14,rfl,NB14,yB14,xB14⟩
  have eB14:=NB14.at_
  have zB14:=NB14.size
  replace hW:=hW.up NB14.up
  have hB14:=NB14.blk
  have hE14:=xB14
  refine U (.pC md mw l5 (.t rfl) (Ay hE14)) ?_
  refine I rfl ?_
  refine U (.F1 ([UInt8.ofNat (48+y%10)]) (l) (.t rfl) (.t rfl) (by first|omega|(simp only[bg,bw];omega)) (by first|omega|(simp only[ak,bg,bw];omega))) ?_
  refine LW.A rfl (Ah (Aa (I rfl ?_)))
  refine U (.Dt (v':=vi ((y/10:Nat):Int)) (PEv.quo (.t rfl) (.const _) cQ) (bi vi (Ex (i:=((y/10:Nat):Int)) oQ oQ))) ?_
  refine LW.A rfl (LW.nil (Al (Av ?_)))
  exact⟨(y/10,UInt8.ofNat (48+y%10)::l),⟨hn,hW⟩,tQ,by first|(show y/10+0<y+(if l=[]then 1 else 0);rw[bh hl];omega)|(show y/10+0<y+(if l=[]then 1 else 0);omega)⟩
 |false=>
  have hl:=cd hq2
  refine Aa (I rfl ?_)
  refine U (.fa (Eg (.t rfl) (.const _)) (Wh (b:=[]) hl)) ?_
  refine I rfl ?_
  refine Au ?_
  refine I rfl ?_
  refine Au ?_
  refine U (.gtr (.t rfl) (.const _)) ?_
  refine U (.po rfl (fun hp=>wQ)) ?_
  refine Ah ?_
  refine CW.b rfl (fun h9=>?_) (fun h9=>?_)
  ·replace h9:=dQ h9
   have hy0:0<y:=by simpa using h9
   have hn:=hi.next (.inr hy0)
   refine Aj (Ac (Ak (Af (I rfl ?_))))
   refine U (.Dt (v':=vi ((y%10:Nat):Int)) (PEv.rem (.t rfl) (.const _) cQ) (bi vi rfl)) ?_
   refine U (.add (.const _) (.t rfl) oQ oQ) ?_
   refine U (.Dt (v':=bv (UInt8.ofNat (48+y%10))) (PEv.conv (k':=.u8) (by rw[li];rfl) mw (.t rfl)) (bi (Go.Value.int .u8) (LB (y%10) (Nat.mod_lt y (show 0<10 by decide))))) ?_
   refine Ap (.buildSlice (xs:=[UInt8.ofNat (48+y%10)]) (enc:=Pz) (mk:=bv) md sizeOf5 ng rfl cQ (fun _=>rfl) (fun _=>rfl) (.cu rfl) rfl) rfl ?_
   rintro _ w3 ⟨B14,cB14,rfl,NB14,yB14,xB14⟩
   have eB14:=NB14.at_
   have zB14:=NB14.size
   replace hW:=hW.up NB14.up
   have hB14:=NB14.blk
   have hE14:=xB14
   refine U (.pC md mw l5 (.t rfl) (Ay hE14)) ?_
   refine I rfl ?_
   refine U (.F1 ([UInt8.ofNat (48+y%10)]) (l) (.t rfl) (.t rfl) (by first|omega|(simp only[bg,bw];omega)) (by first|omega|(simp only[ak,bg,bw];omega))) ?_
   refine LW.A rfl (Ah (Aa (I rfl ?_)))
   refine U (.Dt (v':=vi ((y/10:Nat):Int)) (PEv.quo (.t rfl) (.const _) cQ) (bi vi (Ex (i:=((y/10:Nat):Int)) oQ oQ))) ?_
   refine LW.A rfl (LW.nil (Al (Av ?_)))
   exact⟨(y/10,UInt8.ofNat (48+y%10)::l),⟨hn,hW⟩,tQ,by first|(show y/10+0<y+(if l=[]then 1 else 0);rw[bh hl];omega)|(show y/10+0<y+(if l=[]then 1 else 0);omega)⟩
  replace h9:=dQ h9
  have hy0:y=0:=by simpa using h9
  refine A8 (Ab (Ab (Aq (Ac (Af (I rfl (LW.A rfl (Ah (Am ?_)))))))))
  refine KW.q ?_
  exact⟨by rw[hi.e,aq hl,hy0,bh rfl];rfl,hW⟩
theorem Wl(ad:Option Addr)(cp:Nat)(l:List Int)(w:World)(hE:Els w ad 1 A3 l)(hl:l.length≤8)(hs:∀x∈l,Sm x):Ret prog 125 #[.slice ad l.length cp] w fun r w'=>r=.string (bs (K0 l))∧Up w w':=by
 have hW:=Up.refl w
 obtain⟨w0,rfl,_⟩:=W0 w
 refine cT 25 func125 rfl ?_
 refine Af (Az (An (Aa (Az (An (Af (Az ?_)))))))
 refine Ah (Ak ?_)
 refine A6 (σ:=Nat) (fun s w=>(s≤l.length)∧(Up w0 w)) (fun s=>[(4,.eq (vi (s:Int))),(3,.eq (.string (bs (rV (l.take s)))))]) ([(0,.eq _),(2,.eq _)]) (fun s=>l.length-s) 0 ?_ tQ ?_
 ·exact⟨a8 _,hW⟩
 rintro k w1 ⟨hk,hW⟩
 refine Ai (Af (I rfl (I rfl ?_)))
 refine U (.Ck k_ (.t rfl)) ?_
 refine U (.l2 rfl rfl) ?_
 refine Ah ?_
 refine CW.b rfl (fun h8=>?_) (fun h8=>?_)
 ·replace h8:=dQ h8
  refine Aj (Ac (Ai (Ak (Ai (Ai ?_)))))
  have hkl:k<l.length:=cm.1 h8
  have hjl:=BL (l:=l.take k) (fun y hy=>hs y (List.mem_of_mem_take hy)) (by rw[cc];omega)
  obtain⟨x,hx⟩:=Ae (xs:=l) (i:=k) hkl
  have hdx:=(E8 (hs x (ai hx))).2.2.1
  obtain⟨Bx,ox,ax,hcx⟩:=(Els.up hE hW) k x hx
  cases k with
  |zero=>
   refine Aa (I rfl ?_)
   refine U (.fa (PEv.gtr (.t rfl) (.const _)) (rfl)) ?_
   refine Ah ?_
   refine CW.f rfl ?_
   refine Aj (Ac (Aa (I rfl (I rfl (I rfl ?_)))))
   refine U (.Ao k_ lg (.t rfl) (.t rfl) oQ ax) ?_
   refine U (.lb rfl (hcx.nth (j:=0) rfl)) ?_
   refine A4 (eC (.o rfl) (Um)) rfl (Fq x (hs x (ai hx)) _) ?_
   rintro _ w2 ⟨rfl,uw2⟩
   have zw2:=uw2.size
   replace hW:=hW.up uw2
   replace hcx:=hcx.up uw2
   refine U (.F1 (rV (l.take 0)) (D9 x) (.t rfl) (.t rfl) (by first|omega|(simp only[ak,bg,bw];omega)) (by first|omega|(simp only[ak,bg,bw];omega))) ?_
   refine LW.A rfl (LW.nil (Al (Ac (Aa (I rfl ?_)))))
   refine U (.ic rfl oQ) ?_
   refine LW.A rfl (LW.nil (Av ?_))
   exact⟨0+1,⟨by omega,hW⟩,⟨rfl,by rw[bH hx];rfl,rfl,rfl,trivial⟩,by first|omega|(dsimp only;omega)⟩
  |succ k1=>
   refine Aa (I rfl ?_)
   refine U (.tr (PEv.gtr (.t rfl) (.const _)) (bj oQ)) ?_
   refine Ah ?_
   refine CW.v rfl ?_
   refine Aa (I rfl ?_)
   refine U (.F1 (rV (l.take (k1+1))) ([44]) (.t rfl) (.const _) (by first|omega|(simp only[ak,bg,bw];omega)) (by first|omega|(simp only[bg,bw];omega))) ?_
   refine LW.A rfl (Ah (Aa (I rfl (I rfl (I rfl ?_)))))
   refine U (.Ao k_ lg (.t rfl) (.t rfl) oQ ax) ?_
   refine U (.lb rfl (hcx.nth (j:=0) rfl)) ?_
   refine A4 (eC (.o rfl) (Um)) rfl (Fq x (hs x (ai hx)) _) ?_
   rintro _ w3 ⟨rfl,uw3⟩
   have zw3:=uw3.size
   replace hW:=hW.up uw3
   replace hcx:=hcx.up uw3
   refine U (.F1 (rV (l.take (k1+1))++[44]) (D9 x) (.t rfl) (.t rfl) (by first|omega|(simp only[ak,bg,bw];omega)) (by first|omega|(simp only[ak,bg,bw];omega))) ?_
   refine LW.A rfl (LW.nil (Al (Ac (Aa (I rfl ?_)))))
   refine U (.ic rfl oQ) ?_
   refine LW.A rfl (LW.nil (Av ?_))
   exact⟨k1+1+1,⟨by omega,hW⟩,⟨rfl,by rw[bH hx];rfl,rfl,rfl,trivial⟩,by first|omega|(dsimp only;omega)⟩
 replace h8:=dQ h8
 have hkl:k=l.length:=by have:¬k<l.length:=fun h=>h8 (cm.2 h);omega
 subst hkl
 rw[b8]
 refine A8 (Ab (Ab (Aq (Ac (Ai (Ai ?_))))))
 cases hq8:decide (l=[])with
 |true=>
  have hl0:=b9 hq8
  refine Aa (I rfl ?_)
  refine U (.tr (Eg (.t rfl) (.const _)) (T2 (b:=[]) (by rw[hl0];rfl))) ?_
  refine Ah ?_
  refine CW.v rfl ?_
  refine Af (Az (Ah (Am (Ar ?_))))
  refine KW.q ?_
  first|exact⟨by rw[hl0];rfl,hW⟩|exact⟨by rw[hl0.2],hW⟩
 |false=>
  have hl0:=BM hs (cd hq8)
  refine Aa (I rfl ?_)
  refine U (.fa (Eg (.t rfl) (.const _)) (Wh (b:=[]) hl0.1)) ?_
  refine Ah ?_
  refine CW.f rfl ?_
  refine Aj (Ac (Af (I rfl (LW.A rfl (Ah (Am ?_))))))
  refine KW.q ?_
  first|exact⟨by rw[hl0];rfl,hW⟩|exact⟨by rw[hl0.2],hW⟩
theorem Ya(k:Nat)(s:Sk)(hk:k<100)(hs:s.Sml)(w:World)(h1:Els w s.ta 1 A3 s.tl)(h2:Els w s.na 1 A3 s.nx):Ret prog 47 #[vi (k:Int),.agg s.cells] w fun r w'=>r=.string (bs (Dd k s))∧Up w w':=by
 obtain⟨w0,rfl,hS⟩:=W0 w
 refine cT 49 func47 rfl ?_
 refine Af ?_
 refine Ap (.bA rfl) rfl ?_
 rintro _ w1 ⟨B3,rfl,NB3⟩
 have eB3:=NB3.at_
 have zB3:=NB3.size
 replace hS:=hS.Cg NB3
 change Wx.Sep _ _ _ [_]at hS
 refine Az (An ?_)
 have d1:=(E8 (n:=(k:Int)) ⟨gy _,by omega⟩).2.2.1
 have d2:=(E8 hs.rc).2.2.1
 have d3:=(E8 hs.mn).2.2.1
 have d4:=(E8 hs.mx).2.2.1
 have d5:=bG hs.tl hs.tn.2
 have d6:=bG hs.nx (by have:=hs.nn;omega)
 refine C5 kQ kQ rfl rfl ?_
 refine J (.mv rfl) ?_
 refine HW.c (fun a w _ ha=>Bi (.cu rfl) (Um) a ha) rfl rfl (fun w hu=>Fq (k:Int) ⟨gy _,by omega⟩ w) ?_
 refine J (.F1 ([115,116,101,112,32]) (D9 (k:Int)) (.const _) (.t rfl) (by first|omega|(simp only[bg,bw];omega)) (by first|omega|(simp only[ak,bg,bw];omega))) ?_
 refine J (.F1 (([115,116,101,112,32]++D9 (k:Int))) ([32,114,101,99,105,112,101,32]) (.t rfl) (.const _) (by first|omega|(simp only[ak,bg,bw];omega)) (by first|omega|(simp only[bg,bw];omega))) ?_
 refine J (.fB 0 rfl) ?_
 refine J (.lb rfl (hS.b0.Ad rfl)) ?_
 refine HW.c (fun a w _ ha=>Bi (.cu rfl) (Um) a ha) rfl rfl (fun w hu=>Fq s.rc hs.rc w) ?_
 refine J (.F1 ((([115,116,101,112,32]++D9 (k:Int))++[32,114,101,99,105,112,101,32])) (D9 s.rc) (.t rfl) (.t rfl) (by first|omega|(simp only[ak,bg,bw];omega)) (by first|omega|(simp only[ak,bg,bw];omega))) ?_
 refine J (.F1 (((([115,116,101,112,32]++D9 (k:Int))++[32,114,101,99,105,112,101,32])++D9 s.rc)) ([32,116,111,111,108,115,32]) (.t rfl) (.const _) (by first|omega|(simp only[ak,bg,bw];omega)) (by first|omega|(simp only[bg,bw];omega))) ?_
 refine J (.fB 1 rfl) ?_
 refine J (.lb rfl (hS.b0.Ad rfl)) ?_
 refine HW.c (fun a w _ ha=>Bi (.cu rfl) (xI) a ha) rfl rfl (fun w hu=>Wl s.ta s.tc s.tl w (Els.up h1 (hS.Ch.trans hu)) (by have:=hs.tn;omega) hs.tl) ?_
 refine J (.F1 ((((([115,116,101,112,32]++D9 (k:Int))++[32,114,101,99,105,112,101,32])++D9 s.rc)++[32,116,111,111,108,115,32])) (K0 s.tl) (.t rfl) (.t rfl) (by first|omega|(simp only[ak,bg,bw];omega)) (by first|omega|(simp only[ak,bg,bw];omega))) ?_
 refine J (.F1 (((((([115,116,101,112,32]++D9 (k:Int))++[32,114,101,99,105,112,101,32])++D9 s.rc)++[32,116,111,111,108,115,32])++K0 s.tl)) ([32,116,105,109,101,32]) (.t rfl) (.const _) (by first|omega|(simp only[ak,bg,bw];omega)) (by first|omega|(simp only[bg,bw];omega))) ?_
 refine J (.fB 2 rfl) ?_
 refine J (.lb rfl (hS.b0.Ad rfl)) ?_
 refine HW.c (fun a w _ ha=>Bi (.cu rfl) (Um) a ha) rfl rfl (fun w hu=>Fq s.mn hs.mn w) ?_
 refine J (.F1 ((((((([115,116,101,112,32]++D9 (k:Int))++[32,114,101,99,105,112,101,32])++D9 s.rc)++[32,116,111,111,108,115,32])++K0 s.tl)++[32,116,105,109,101,32])) (D9 s.mn) (.t rfl) (.t rfl) (by first|omega|(simp only[ak,bg,bw];omega)) (by first|omega|(simp only[ak,bg,bw];omega))) ?_
 refine J (.F1 (((((((([115,116,101,112,32]++D9 (k:Int))++[32,114,101,99,105,112,101,32])++D9 s.rc)++[32,116,111,111,108,115,32])++K0 s.tl)++[32,116,105,109,101,32])++D9 s.mn)) ([46,46]) (.t rfl) (.const _) (by first|omega|(simp only[ak,bg,bw];omega)) (by first|omega|(simp only[bg,bw];omega))) ?_
 refine J (.fB 3 rfl) ?_
 refine J (.lb rfl (hS.b0.Ad rfl)) ?_
 refine HW.c (fun a w _ ha=>Bi (.cu rfl) (Um) a ha) rfl rfl (fun w hu=>Fq s.mx hs.mx w) ?_
 refine J (.F1 ((((((((([115,116,101,112,32]++D9 (k:Int))++[32,114,101,99,105,112,101,32])++D9 s.rc)++[32,116,111,111,108,115,32])++K0 s.tl)++[32,116,105,109,101,32])++D9 s.mn)++[46,46])) (D9 s.mx) (.t rfl) (.t rfl) (by first|omega|(simp only[ak,bg,bw];omega)) (by first|omega|(simp only[ak,bg,bw];omega))) ?_
 refine J (.F1 (((((((((([115,116,101,112,32]++D9 (k:Int))++[32,114,101,99,105,112,101,32])++D9 s.rc)++[32,116,111,111,108,115,32])++K0 s.tl)++[32,116,105,109,101,32])++D9 s.mn)++[46,46])++D9 s.mx)) ([32,110,101,120,116,32]) (.t rfl) (.const _) (by first|omega|(simp only[ak,bg,bw];omega)) (by first|omega|(simp only[bg,bw];omega))) ?_
 refine J (.fB 4 rfl) ?_
 refine J (.lb rfl (hS.b0.Ad rfl)) ?_
 refine HW.c (fun a w _ ha=>Bi (.cu rfl) (xI) a ha) rfl rfl (fun w hu=>Wl s.na s.nc s.nx w (Els.up h2 (hS.Ch.trans hu)) (by have:=hs.nn;omega) hs.nx) ?_
 refine J (.F1 ((((((((((([115,116,101,112,32]++D9 (k:Int))++[32,114,101,99,105,112,101,32])++D9 s.rc)++[32,116,111,111,108,115,32])++K0 s.tl)++[32,116,105,109,101,32])++D9 s.mn)++[46,46])++D9 s.mx)++[32,110,101,120,116,32])) (K0 s.nx) (.t rfl) (.t rfl) (by first|omega|(simp only[ak,bg,bw];omega)) (by first|omega|(simp only[ak,bg,bw];omega))) ?_
 refine J (.assign (.t rfl)) ?_
 refine HW.nil ?_
 intro w2 uw2
 have zw2:=uw2.size
 replace hS:=hS.up uw2
 refine Ac (Ai (Af ?_))
 refine U (.fB 5 rfl) ?_
 refine U (.lb rfl (hS.b0.Ad rfl)) ?_
 refine U (.geq (.t rfl) (.const _)) ?_
 refine Ah ?_
 refine CW.b rfl (fun h36=>?_) (fun h36=>?_)
 ·replace h36:=dQ h36
  have hbk:0≤s.bk:=h36
  have hbs:=hs.bk.resolve_left (fun h=>by omega)
  have d7:=(E8 hbs.1).2.2.1
  have d8:=(E8 hbs.2).2.2.1
  refine C9 11 kQ kQ kQ kQ kQ rfl rfl ?_
  refine J (.mv rfl) ?_
  refine J (.F1 (((((((((((([115,116,101,112,32]++D9 (k:Int))++[32,114,101,99,105,112,101,32])++D9 s.rc)++[32,116,111,111,108,115,32])++K0 s.tl)++[32,116,105,109,101,32])++D9 s.mn)++[46,46])++D9 s.mx)++[32,110,101,120,116,32])++K0 s.nx)) ([32,98,97,99,107,32]) (.t rfl) (.const _) (by first|omega|(simp only[ak,bg,bw];omega)) (by first|omega|(simp only[bg,bw];omega))) ?_
  refine J (.fB 5 rfl) ?_
  refine J (.lb rfl (hS.b0.Ad rfl)) ?_
  refine HW.c (fun a w _ ha=>Bi (.cu rfl) (Um) a ha) rfl rfl (fun w hu=>Fq s.bk hbs.1 w) ?_
  refine J (.F1 ((((((((((((([115,116,101,112,32]++D9 (k:Int))++[32,114,101,99,105,112,101,32])++D9 s.rc)++[32,116,111,111,108,115,32])++K0 s.tl)++[32,116,105,109,101,32])++D9 s.mn)++[46,46])++D9 s.mx)++[32,110,101,120,116,32])++K0 s.nx)++[32,98,97,99,107,32])) (D9 s.bk) (.t rfl) (.t rfl) (by first|omega|(simp only[ak,bg,bw];omega)) (by first|omega|(simp only[ak,bg,bw];omega))) ?_
  refine J (.F1 (((((((((((((([115,116,101,112,32]++D9 (k:Int))++[32,114,101,99,105,112,101,32])++D9 s.rc)++[32,116,111,111,108,115,32])++K0 s.tl)++[32,116,105,109,101,32])++D9 s.mn)++[46,46])++D9 s.mx)++[32,110,101,120,116,32])++K0 s.nx)++[32,98,97,99,107,32])++D9 s.bk)) ([32,108,105,109,105,116,32]) (.t rfl) (.const _) (by first|omega|(simp only[ak,bg,bw];omega)) (by first|omega|(simp only[bg,bw];omega))) ?_
  refine J (.fB 6 rfl) ?_
  refine J (.lb rfl (hS.b0.Ad rfl)) ?_
  refine HW.c (fun a w _ ha=>Bi (.cu rfl) (Um) a ha) rfl rfl (fun w hu=>Fq s.lm hbs.2 w) ?_
  refine J (.F1 ((((((((((((((([115,116,101,112,32]++D9 (k:Int))++[32,114,101,99,105,112,101,32])++D9 s.rc)++[32,116,111,111,108,115,32])++K0 s.tl)++[32,116,105,109,101,32])++D9 s.mn)++[46,46])++D9 s.mx)++[32,110,101,120,116,32])++K0 s.nx)++[32,98,97,99,107,32])++D9 s.bk)++[32,108,105,109,105,116,32])) (D9 s.lm) (.t rfl) (.t rfl) (by first|omega|(simp only[ak,bg,bw];omega)) (by first|omega|(simp only[ak,bg,bw];omega))) ?_
  refine HW.nil ?_
  intro w3 uw3
  have zw3:=uw3.size
  replace hS:=hS.up uw3
  refine LW.A rfl (An (Aa (I rfl (LW.A rfl (Ah (Am ?_))))))
  refine KW.q ?_
  first|exact⟨by rw[jJ hbk],hS.Ch⟩|exact⟨by rw[sA hbk],hS.Ch⟩
 replace h36:=dQ h36
 have hbk:¬0≤s.bk:=h36
 refine Aj (Ac (Af (I rfl (LW.A rfl (Ah (Am ?_))))))
 refine KW.q ?_
 first|exact⟨by rw[jJ hbk],hS.Ch⟩|exact⟨by rw[sA hbk],hS.Ch⟩
theorem Fi(n lo hi:Int)(w:World)(h:lo≤n∧n≤hi):Ret prog 122 #[vi n,vi lo,vi hi] w fun r w'=>r=.bool true∧Up w w':=by
 have hW:=Up.refl w
 refine cT 15 func122 rfl ?_
 refine Af (Az (An (Aa (I rfl (I rfl ?_)))))
 refine U (.tr (PEv.geq (.t rfl) (.t rfl)) (bj h.1)) ?_
 refine I rfl ?_
 refine Au ?_
 refine I rfl ?_
 refine Au ?_
 refine I rfl ?_
 refine Au ?_
 refine U (.tr (PEv.leq (.t rfl) (.t rfl)) (bj h.2)) ?_
 refine U (.pa rfl (fun hp=>wQ)) ?_
 refine LW.A rfl (Ah (Am ?_))
 refine KW.q ?_
 exact⟨rfl,hW⟩
theorem fT(w:World):Ret prog 121 #[vi 2,vi 5] w fun r w'=>r=.bool true∧Up w w':=by
 have hW:=Up.refl w
 refine cT 16 func121 rfl ?_
 refine Af (Az (An (Aa (I rfl ?_))))
 refine U (.geq (.t rfl) (.const _)) ?_
 refine I rfl ?_
 refine Hc rfl rfl ?_
 refine Hc rfl rfl ?_
 refine LW.gr rfl (fun hc=>PEv.leq vQ vQ) ?_
 refine U (.pa rfl (fun hp=>wQ)) ?_
 refine I rfl ?_
 refine Hc rfl rfl ?_
 refine LW.gr rfl (fun hc=>PEv.leq vQ (.const _)) ?_
 refine U (.pa rfl (fun hp=>wQ)) ?_
 refine LW.A rfl (Ah (Am ?_))
 refine KW.q ?_
 exact⟨rfl,hW⟩
theorem bM(ad:Option Addr)(cp:Nat)(l:List Int)(lo hi:Int)(w:World)(hE:Els w ad 1 A3 l)(hl:l.length≤100)(hr:AscR l lo hi):Ret prog 205 #[.slice ad l.length cp,vi lo,vi hi] w fun r w'=>r=.bool true∧Up w w':=by
 have hW:=Up.refl w
 obtain⟨w0,rfl,_⟩:=W0 w
 refine cT 38 func205 rfl ?_
 refine Af (Az (An (Af (Az (Ah (Ak ?_))))))
 refine A6 (σ:=Nat) (fun s w=>(s≤l.length)∧(Up w0 w)) (fun s=>[(7,.eq (vi (s:Int)))]) ([(0,.eq _),(1,.eq _),(2,.eq _)]) (fun s=>l.length-s) 0 ?_ tQ ?_
 ·exact⟨a8 _,hW⟩
 rintro k w1 ⟨hk,hW⟩
 refine Ai (Af (I rfl (I rfl ?_)))
 refine U (.Ck k_ (.t rfl)) ?_
 refine U (.l2 rfl rfl) ?_
 refine Ah ?_
 refine CW.b rfl (fun h11=>?_) (fun h11=>?_)
 ·replace h11:=dQ h11
  refine Aj (Ac (Ai (Ak (Ai ?_))))
  have hkl:k<l.length:=cm.1 h11
  obtain⟨x,hx⟩:=Ae (xs:=l) (i:=k) hkl
  obtain⟨Bx,ox,ax,hcx⟩:=(Els.up hE hW) k x hx
  cases k with
  |zero=>
   refine C5 kQ kQ rfl rfl ?_
   refine J (.mv rfl) ?_
   refine J (.mv rfl) ?_
   refine J (.Ao k_ lg (j:=0) (.t rfl) (.t rfl) oQ ax) ?_
   refine J (.lb rfl (hcx.nth (j:=0) rfl)) ?_
   refine J (.mv rfl) ?_
   refine J (.mv rfl) ?_
   refine HW.c (fun a w _ ha=>Bi (.ct rfl (.ct rfl (.cu rfl))) (On) a ha) rfl rfl (fun w hu=>Fi _ _ _ w (by exact hr.r x (ai hx))) ?_
   refine J (.fa (PEv.n1 rfl) (rfl)) ?_
   refine J (.mv rfl) ?_
   refine C6 (.mv rfl) ?_
   refine C6 (.fa (PEv.gtr (.t rfl) (.const _)) (rfl)) ?_
   refine C6 (.mv rfl) ?_
   refine Ec ?_
   refine Ec ?_
   refine Ec ?_
   refine Ec ?_
   refine Ec ?_
   refine Ec ?_
   refine Ec ?_
   refine Ec ?_
   refine Ec ?_
   refine Ec ?_
   refine C6 (.Cv (b:=false) (.t rfl) (fun hp=>absurd (show false=true from hp) cQ)) ?_
   refine J (.po rfl (fun hp=>wQ)) ?_
   refine HW.nil ?_
   intro w2 uw2
   have zw2:=uw2.size
   replace hW:=hW.up uw2
   refine Ac ?_
   refine CW.f rfl ?_
   refine Aj (Al (Ac (Aa (I rfl ?_))))
   refine U (.ic rfl oQ) ?_
   refine LW.A rfl (LW.nil (Av ?_))
   exact⟨0+1,⟨by omega,hW⟩,tQ,by first|omega|(dsimp only;omega)⟩
  |succ k1=>
   obtain⟨y,hy⟩:=Ae (xs:=l) (i:=k1) oQ
   obtain⟨By,oy,ay,hcy⟩:=(Els.up hE hW) k1 y hy
   have hyx:=dJ hr.a hy hx
   refine C5 kQ kQ rfl rfl ?_
   refine J (.mv rfl) ?_
   refine J (.mv rfl) ?_
   refine J (.Ao k_ lg (j:=k1+1) (.t rfl) (.t rfl) oQ ax) ?_
   refine J (.lb rfl (hcx.nth (j:=0) rfl)) ?_
   refine J (.mv rfl) ?_
   refine J (.mv rfl) ?_
   refine HW.c (fun a w _ ha=>Bi (.ct rfl (.ct rfl (.cu rfl))) (On) a ha) rfl rfl (fun w hu=>Fi _ _ _ w (by exact hr.r x (ai hx))) ?_
   refine J (.fa (PEv.n1 rfl) (rfl)) ?_
   refine J (.mv rfl) ?_
   refine C6 (.mv rfl) ?_
   refine C6 (.tr (PEv.gtr (.t rfl) (.const _)) (bj oQ)) ?_
   refine C6 (.mv rfl) ?_
   refine C6 (.mv rfl) ?_
   refine C6 (.mv rfl) ?_
   refine C6 (.Ao k_ lg (j:=k1+1) (.t rfl) (.t rfl) oQ ax) ?_
   refine C6 (.lb rfl (hcx.nth (j:=0) rfl)) ?_
   refine C6 (.mv rfl) ?_
   refine C6 (.mv rfl) ?_
   refine C6 (.Dt (v':=vi (k1:Int)) (PEv.sub (.t rfl) (.const _) oQ oQ) (bi vi oQ)) ?_
   refine C6 (.Ao k_ lg (j:=k1) (.t rfl) (.t rfl) oQ ay) ?_
   refine C6 (.lb rfl (hcy.nth (j:=0) rfl)) ?_
   refine C6 (.fa (PEv.leq (.t rfl) (.t rfl)) (br oQ)) ?_
   refine C6 (.pa rfl (fun hp=>wQ)) ?_
   refine J (.po rfl (fun hp=>wQ)) ?_
   refine HW.nil ?_
   intro w3 uw3
   have zw3:=uw3.size
   replace hW:=hW.up uw3
   refine Ac ?_
   refine CW.f rfl ?_
   refine Aj (Al (Ac (Aa (I rfl ?_))))
   refine U (.ic rfl oQ) ?_
   refine LW.A rfl (LW.nil (Av ?_))
   exact⟨k1+1+1,⟨by omega,hW⟩,tQ,by first|omega|(dsimp only;omega)⟩
 replace h11:=dQ h11
 refine A8 (Ab (Ab (Aq (Ac (Af (Az (Ah (Am ?_))))))))
 refine KW.q ?_
 exact⟨rfl,hW⟩
theorem mO(s:Sk)(n:Int)(w:World)(hn:0≤n∧n≤1000)(hg:s.Ok n)(h1:Els w s.ta 1 A3 s.tl)(h2:Els w s.na 1 A3 s.nx):Ret prog 123 #[.agg s.cells,vi n] w fun r w'=>r=.bool true∧Up w w':=by
 obtain⟨w0,rfl,hS⟩:=W0 w
 refine cT 77 func123 rfl ?_
 refine Af ?_
 refine Ap (.bA rfl) rfl ?_
 rintro _ w1 ⟨B2,rfl,NB2⟩
 have eB2:=NB2.at_
 have zB2:=NB2.size
 replace hS:=hS.Cg NB2
 change Wx.Sep _ _ _ [_]at hS
 refine Az (An (Aa ?_))
 refine U (.fB 1 rfl) ?_
 refine U (.lb rfl (hS.b0.Ad rfl)) ?_
 refine A4 (eC (.ct rfl (.cons (.const _) (.cons (.const _) .nil))) (xS)) rfl (bM s.ta s.tc s.tl 0 59 _ (Els.up h1 hS.Ch) (by have:=hg.tl;omega) hg.ta) ?_
 rintro _ w2 ⟨rfl,uw2⟩
 have zw2:=uw2.size
 replace hS:=hS.up uw2
 refine LW.A rfl (An (Aa ?_))
 refine U (.fB 4 rfl) ?_
 refine U (.lb rfl (hS.b0.Ad rfl)) ?_
 refine I rfl ?_
 refine U (.sub (.t rfl) (.const _) oQ oQ) ?_
 refine A4 (eC (.ct rfl (.cons (.const _) (.cu rfl))) (xS)) rfl (bM s.na s.nc s.nx 0 (n-1) _ (Els.up h2 hS.Ch) (by have:=hg.nl;omega) hg.nx) ?_
 rintro _ w3 ⟨rfl,uw3⟩
 have zw3:=uw3.size
 replace hS:=hS.up uw3
 refine LW.A rfl (An ?_)
 cases hq3:decide (s.bk= -1)with
 |true=>
  obtain⟨e1,e2⟩:=hg.bk.resolve_right (fun h=>by have:=b9 hq3;omega)
  refine Aa ?_
  refine U (.fB 5 rfl) ?_
  refine U (.lb rfl (hS.b0.Ad rfl)) ?_
  refine U (.tr (PEv.eql (.t rfl) (.const _)) (bj e1)) ?_
  refine I rfl ?_
  refine Au ?_
  refine U (.fB 6 rfl) ?_
  refine Au ?_
  refine U (.lb rfl (hS.b0.Ad rfl)) ?_
  refine Au ?_
  refine U (.tr (PEv.eql (.t rfl) (.const _)) (bj e2)) ?_
  refine U (.pa rfl (fun hp=>wQ)) ?_
  refine I rfl ?_
  refine Bh ?_
  refine Bh ?_
  refine Bh ?_
  refine Bh ?_
  refine Bh ?_
  refine Bh ?_
  refine Jc rfl rfl rfl rfl rfl rfl ?_
  refine Jc rfl rfl rfl rfl rfl rfl ?_
  refine Jc rfl rfl rfl rfl rfl rfl ?_
  refine Bh ?_
  refine U (.Ev (b:=false) (.t rfl) (fun hp=>absurd (show true=false from hp) cQ)) ?_
  refine LW.A rfl (An (Aa (I rfl (I rfl ?_))))
  refine Au ?_
  refine I rfl ?_
  refine U (.pa rfl (fun hp=>wQ)) ?_
  refine I rfl ?_
  refine Au ?_
  refine I rfl ?_
  refine U (.pa rfl (fun hp=>wQ)) ?_
  refine I rfl ?_
  refine Au ?_
  refine U (.fB 0 rfl) ?_
  refine Au ?_
  refine U (.lb rfl (hS.b0.Ad rfl)) ?_
  refine Au ?_
  refine A4 (eC (.ct rfl (.cons (.const _) (.cons (.const _) .nil))) (On)) rfl (Fi _ _ _ _ (by have:=hg.rc;omega)) ?_
  rintro _ w4 ⟨rfl,uw4⟩
  have zw4:=uw4.size
  replace hS:=hS.up uw4
  refine U (.pa rfl (fun hp=>wQ)) ?_
  refine I rfl ?_
  refine Au ?_
  refine U (.fB 1 rfl) ?_
  refine Au ?_
  refine U (.lb rfl (hS.b0.Ad rfl)) ?_
  refine Au ?_
  refine U (.Ck k_ (.t rfl)) ?_
  refine Au ?_
  refine A4 (eC (.ct rfl (.cons (.const _) (.cons (.const _) .nil))) (On)) rfl (Fi _ _ _ _ (by have:=hg.tl;omega)) ?_
  rintro _ w5 ⟨rfl,uw5⟩
  have zw5:=uw5.size
  replace hS:=hS.up uw5
  refine U (.pa rfl (fun hp=>wQ)) ?_
  refine I rfl ?_
  refine Au ?_
  refine U (.fB 4 rfl) ?_
  refine Au ?_
  refine U (.lb rfl (hS.b0.Ad rfl)) ?_
  refine Au ?_
  refine U (.Ck k_ (.t rfl)) ?_
  refine Au ?_
  refine U (.tr (PEv.leq (.t rfl) (.const _)) (bj (by have:=hg.nl;omega))) ?_
  refine U (.pa rfl (fun hp=>wQ)) ?_
  refine I rfl ?_
  refine Au ?_
  refine U (.fB 2 rfl) ?_
  refine Au ?_
  refine U (.lb rfl (hS.b0.Ad rfl)) ?_
  refine Au ?_
  refine U (.tr (PEv.geq (.t rfl) (.const _)) (bj (by have:=hg.mn;omega))) ?_
  refine U (.pa rfl (fun hp=>wQ)) ?_
  refine I rfl ?_
  refine Au ?_
  refine U (.fB 2 rfl) ?_
  refine Au ?_
  refine U (.lb rfl (hS.b0.Ad rfl)) ?_
  refine Au ?_
  refine U (.fB 3 rfl) ?_
  refine Au ?_
  refine U (.lb rfl (hS.b0.Ad rfl)) ?_
  refine Au ?_
  refine U (.tr (PEv.leq (.t rfl) (.t rfl)) (bj (by have:=hg.mn;omega))) ?_
  refine U (.pa rfl (fun hp=>wQ)) ?_
  refine I rfl ?_
  refine Au ?_
  refine U (.fB 3 rfl) ?_
  refine Au ?_
  refine U (.lb rfl (hS.b0.Ad rfl)) ?_
  refine Au ?_
  refine U (.tr (PEv.leq (.t rfl) (.const _)) (bj (by have:=hg.mn;omega))) ?_
  refine U (.pa rfl (fun hp=>wQ)) ?_
  refine LW.A rfl (Ah (Am ?_))
  refine KW.q ?_
  exact⟨rfl,hS.Ch⟩
 |false=>
  obtain⟨e1,e2⟩:=hg.bk.resolve_left (fun h=>by have:=cd hq3;omega)
  refine Aa ?_
  refine U (.fB 5 rfl) ?_
  refine U (.lb rfl (hS.b0.Ad rfl)) ?_
  refine U (.fa (PEv.eql (.t rfl) (.const _)) (br oQ)) ?_
  refine I rfl ?_
  refine Bh ?_
  refine Bh ?_
  refine Bh ?_
  refine U (.Cv (b:=false) (.t rfl) (fun hp=>absurd (show false=true from hp) cQ)) ?_
  refine I rfl ?_
  refine Au ?_
  refine U (.fB 5 rfl) ?_
  refine Au ?_
  refine U (.lb rfl (hS.b0.Ad rfl)) ?_
  refine Au ?_
  refine I rfl ?_
  refine Au ?_
  refine U (.sub (.t rfl) (.const _) oQ oQ) ?_
  refine Au ?_
  refine A4 (eC (.ct rfl (.cons (.const _) (.cu rfl))) (On)) rfl (Fi _ _ _ _ oQ) ?_
  rintro _ w6 ⟨rfl,uw6⟩
  have zw6:=uw6.size
  replace hS:=hS.up uw6
  refine Au ?_
  refine I rfl ?_
  refine Au ?_
  refine U (.fB 6 rfl) ?_
  refine Au ?_
  refine U (.lb rfl (hS.b0.Ad rfl)) ?_
  refine Au ?_
  refine A4 (eC (.ct rfl (.cons (.const _) (.cons (.const _) .nil))) (On)) rfl (Fi _ _ _ _ oQ) ?_
  rintro _ w7 ⟨rfl,uw7⟩
  have zw7:=uw7.size
  replace hS:=hS.up uw7
  refine Au ?_
  refine U (.pa rfl (fun hp=>wQ)) ?_
  refine U (.po rfl (fun hp=>wQ)) ?_
  refine LW.A rfl (An (Aa (I rfl (I rfl ?_))))
  refine Au ?_
  refine I rfl ?_
  refine U (.pa rfl (fun hp=>wQ)) ?_
  refine I rfl ?_
  refine Au ?_
  refine I rfl ?_
  refine U (.pa rfl (fun hp=>wQ)) ?_
  refine I rfl ?_
  refine Au ?_
  refine U (.fB 0 rfl) ?_
  refine Au ?_
  refine U (.lb rfl (hS.b0.Ad rfl)) ?_
  refine Au ?_
  refine A4 (eC (.ct rfl (.cons (.const _) (.cons (.const _) .nil))) (On)) rfl (Fi _ _ _ _ (by have:=hg.rc;omega)) ?_
  rintro _ w8 ⟨rfl,uw8⟩
  have zw8:=uw8.size
  replace hS:=hS.up uw8
  refine U (.pa rfl (fun hp=>wQ)) ?_
  refine I rfl ?_
  refine Au ?_
  refine U (.fB 1 rfl) ?_
  refine Au ?_
  refine U (.lb rfl (hS.b0.Ad rfl)) ?_
  refine Au ?_
  refine U (.Ck k_ (.t rfl)) ?_
  refine Au ?_
  refine A4 (eC (.ct rfl (.cons (.const _) (.cons (.const _) .nil))) (On)) rfl (Fi _ _ _ _ (by have:=hg.tl;omega)) ?_
  rintro _ w9 ⟨rfl,uw9⟩
  have zw9:=uw9.size
  replace hS:=hS.up uw9
  refine U (.pa rfl (fun hp=>wQ)) ?_
  refine I rfl ?_
  refine Au ?_
  refine U (.fB 4 rfl) ?_
  refine Au ?_
  refine U (.lb rfl (hS.b0.Ad rfl)) ?_
  refine Au ?_
  refine U (.Ck k_ (.t rfl)) ?_
  refine Au ?_
  refine U (.tr (PEv.leq (.t rfl) (.const _)) (bj (by have:=hg.nl;omega))) ?_
  refine U (.pa rfl (fun hp=>wQ)) ?_
  refine I rfl ?_
  refine Au ?_
  refine U (.fB 2 rfl) ?_
  refine Au ?_
  refine U (.lb rfl (hS.b0.Ad rfl)) ?_
  refine Au ?_
  refine U (.tr (PEv.geq (.t rfl) (.const _)) (bj (by have:=hg.mn;omega))) ?_
  refine U (.pa rfl (fun hp=>wQ)) ?_
  refine I rfl ?_
  refine Au ?_
  refine U (.fB 2 rfl) ?_
  refine Au ?_
  refine U (.lb rfl (hS.b0.Ad rfl)) ?_
  refine Au ?_
  refine U (.fB 3 rfl) ?_
  refine Au ?_
  refine U (.lb rfl (hS.b0.Ad rfl)) ?_
  refine Au ?_
  refine U (.tr (PEv.leq (.t rfl) (.t rfl)) (bj (by have:=hg.mn;omega))) ?_
  refine U (.pa rfl (fun hp=>wQ)) ?_
  refine I rfl ?_
  refine Au ?_
  refine U (.fB 3 rfl) ?_
  refine Au ?_
  refine U (.lb rfl (hS.b0.Ad rfl)) ?_
  refine Au ?_
  refine U (.tr (PEv.leq (.t rfl) (.const _)) (bj (by have:=hg.mn;omega))) ?_
  refine U (.pa rfl (fun hp=>wQ)) ?_
  refine LW.A rfl (Ah (Am ?_))
  refine KW.q ?_
  exact⟨rfl,hS.Ch⟩
theorem bN(sa:Option Addr)(sc:Nat)(L:List Sk)(w:World)(hF:FlG w sa none L []):Ret prog 45 #[.agg (Cx sa L.length sc none 0 0)] w fun r w'=>r=.bool true∧Up w w':=by
 obtain⟨w0,rfl,hS⟩:=W0 w
 have hlen:=hF.len
 refine cT 73 func45 rfl ?_
 refine Af ?_
 refine Ap (.bA rfl) rfl ?_
 rintro _ w1 ⟨B1,rfl,NB1⟩
 have eB1:=NB1.at_
 have zB1:=NB1.size
 replace hS:=hS.Cg NB1
 change Wx.Sep _ _ _ [_]at hS
 refine Az (An (Aa ?_))
 refine U (.fB 2 rfl) ?_
 refine U (.lb rfl (hS.b0.Ad rfl)) ?_
 refine U (.Ck lr (.t rfl)) ?_
 refine LW.A rfl (An (Af ?_))
 refine U (.fB 0 rfl) ?_
 refine U (.lb rfl (hS.b0.Ad rfl)) ?_
 refine U (.fB 1 rfl) ?_
 refine U (.lb rfl (hS.b0.Ad rfl)) ?_
 refine A4 (eC (.u rfl rfl) (DD)) rfl (fT _) ?_
 rintro _ w2 ⟨rfl,uw2⟩
 have zw2:=uw2.size
 replace hS:=hS.up uw2
 refine U (.n1 rfl) ?_
 refine I rfl ?_
 refine Au ?_
 refine I rfl ?_
 refine Au ?_
 refine A4 (eC (.ct rfl (.cons (.const _) (.cons (.const _) .nil))) (On)) rfl (Fi _ _ _ _ oQ) ?_
 rintro _ w3 ⟨rfl,uw3⟩
 have zw3:=uw3.size
 replace hS:=hS.up uw3
 refine Au ?_
 refine U (.n1 rfl) ?_
 refine U (.po rfl (fun hp=>wQ)) ?_
 refine I rfl ?_
 refine Au ?_
 refine U (.fB 3 rfl) ?_
 refine Au ?_
 refine U (.lb rfl (hS.b0.Ad rfl)) ?_
 refine Au ?_
 refine U (.Ck l9 (.t rfl)) ?_
 refine Au ?_
 refine U (.fa (PEv.gtr (.t rfl) (.const _)) (rfl)) ?_
 refine U (.po rfl (fun hp=>wQ)) ?_
 refine Ah ?_
 refine CW.f rfl ?_
 refine Aj (Ac (Ai (Af (Az (Ah (Ak ?_))))))
 refine A6 (σ:=Nat) (fun s w=>(s≤L.length)∧(Wx.Sep no w0 w [A5 B1 (Cx sa L.length sc none 0 0) 29])) (fun s=>[(4,.eq (vi (s:Int)))]) ([(1,.eq _),(3,.eq _)]) (fun s=>L.length-s) 0 ?_ tQ ?_
 ·exact⟨a8 _,hS⟩
 rintro k w4 ⟨hk,hS⟩
 refine Ai (Af (I rfl (I rfl ?_)))
 refine U (.l2 rfl rfl) ?_
 refine Ah ?_
 refine CW.b rfl (fun h28=>?_) (fun h28=>?_)
 ·replace h28:=dQ h28
  refine Aj (Ac (Ai (Ak (Ai ?_))))
  have hkl:k<L.length:=cm.1 h28
  obtain⟨s,hs⟩:=Ae (xs:=L) (i:=k) hkl
  obtain⟨Bs,os,as_,hcs⟩:=(Els.up hF.E hS.Ch) k s hs
  refine Aa ?_
  refine U (.fB 2 rfl) ?_
  refine U (.lb rfl (hS.b0.Ad rfl)) ?_
  refine I rfl ?_
  refine U (.Ao lr l4 (j:=k) (.t rfl) (.t rfl) oQ as_) ?_
  refine U (.lc rfl (hcs)) ?_
  refine I rfl ?_
  refine A4 (eC (.u rfl rfl) (DE)) rfl (mO s L.length _ oQ (hF.g s (ai hs)) (Els.up (hF.p s (ai hs)).1 hS.Ch) (Els.up (hF.p s (ai hs)).2 hS.Ch)) ?_
  rintro _ w5 ⟨rfl,uw5⟩
  have zw5:=uw5.size
  replace hS:=hS.up uw5
  refine U (.n1 rfl) ?_
  refine Ah ?_
  refine CW.f rfl ?_
  refine Aj (Al (Ac (Aa (I rfl ?_))))
  refine U (.ic rfl oQ) ?_
  refine LW.A rfl (LW.nil (Av ?_))
  exact⟨k+1,⟨by omega,hS⟩,tQ,by first|omega|(dsimp only;omega)⟩
 replace h28:=dQ h28
 refine A8 (Ab (Ab (Aq (Ac (Ai (Af (Az (Ah (Ak ?_)))))))))
 refine A6 (σ:=Nat) (fun s w=>(s=0)∧(Wx.Sep no w0 w [A5 B1 (Cx sa L.length sc none 0 0) 29])) (fun s=>[(5,.eq (vi (s:Int)))]) ([(1,.eq _),(3,.eq _)]) (fun s=>1-s) 0 ?_ tQ ?_
 ·exact⟨rfl,hS⟩
 rintro j w6 ⟨hj,hS⟩
 subst hj
 refine Ai (Af (I rfl ?_))
 refine U (.fB 3 rfl) ?_
 refine U (.lb rfl (hS.b0.Ad rfl)) ?_
 refine U (.Ck l9 (.t rfl)) ?_
 refine U (.fa (PEv.l2 rfl rfl) (rfl)) ?_
 refine Ah ?_
 refine CW.f rfl ?_
 refine A8 (Ab (Ab (Aq (Ac (Af (Az (Ah (Am ?_))))))))
 refine KW.q ?_
 exact⟨rfl,hS.Ch⟩
theorem mP(sa:Option Addr)(sc:Nat)(L:List Sk)(w:World)(hF:FlG w sa none L [])(hL:FlS L):Ret prog 17 #[.agg (Cx sa L.length sc none 0 0)] w fun r w'=>r=.tuple #[.string (bs (C4 L)),vi 0]∧Up w w':=by
 obtain⟨w0,rfl,hS⟩:=W0 w
 have hlen:=hF.len
 refine cT 54 func17 rfl ?_
 refine Af ?_
 refine Ap (.bA rfl) rfl ?_
 rintro _ w1 ⟨B1,rfl,NB1⟩
 have eB1:=NB1.at_
 have zB1:=NB1.size
 replace hS:=hS.Cg NB1
 change Wx.Sep _ _ _ [_]at hS
 refine Az (Az (An (Af ?_)))
 refine U (.lc rfl (hS.b0.agg)) ?_
 refine A4 (eC (.o rfl) (IY)) rfl (bN sa sc L _ (hF.up hS.Ch)) ?_
 rintro _ w2 ⟨rfl,uw2⟩
 have zw2:=uw2.size
 replace hS:=hS.up uw2
 refine U (.n1 rfl) ?_
 refine Ah ?_
 refine CW.f rfl ?_
 refine Aj (Ac (Ai ?_))
 have d2:=(E8 (n:=2) ⟨by decide,by decide⟩).2.2.1
 have d5:=(E8 (n:=5) ⟨by decide,by decide⟩).2.2.1
 refine C5 kQ kQ rfl rfl ?_
 refine J (.fB 0 rfl) ?_
 refine J (.lb rfl (hS.b0.Ad rfl)) ?_
 refine HW.c (fun a w _ ha=>Bi (.cu rfl) (Um) a ha) rfl rfl (fun w hu=>Fq 2 ⟨by decide,by decide⟩ w) ?_
 refine J (.F1 ([109,111,118,101,32]) (D9 2) (.const _) (.t rfl) (by first|omega|(simp only[bg,bw];omega)) (by first|omega|(simp only[ak,bg,bw];omega))) ?_
 refine J (.F1 ([109,111,118,101,32]++D9 2) ([46,46]) (.t rfl) (.const _) (by first|omega|(simp only[ak,bg,bw];omega)) (by first|omega|(simp only[bg,bw];omega))) ?_
 refine J (.fB 1 rfl) ?_
 refine J (.lb rfl (hS.b0.Ad rfl)) ?_
 refine HW.c (fun a w _ ha=>Bi (.cu rfl) (Um) a ha) rfl rfl (fun w hu=>Fq 5 ⟨by decide,by decide⟩ w) ?_
 refine J (.F1 (([109,111,118,101,32]++D9 2)++[46,46]) (D9 5) (.t rfl) (.t rfl) (by first|omega|(simp only[ak,bg,bw];omega)) (by first|omega|(simp only[ak,bg,bw];omega))) ?_
 refine J (.F1 ((([109,111,118,101,32]++D9 2)++[46,46])++D9 5) ([10]) (.t rfl) (.const _) (by first|omega|(simp only[ak,bg,bw];omega)) (by first|omega|(simp only[bg,bw];omega))) ?_
 refine J (.assign (.t rfl)) ?_
 refine HW.nil ?_
 intro w3 uw3
 have zw3:=uw3.size
 replace hS:=hS.up uw3
 refine Ac (Ai (Ai ?_))
 have ep:(((([109,111,118,101,32]:List UInt8)++D9 2)++[46,46])++D9 5)++[10]=oA L 0:=by unfold oA Gx Lq;simp[Du,Mo]
 rw[ep]
 refine Aa (Az (Ah (Ak ?_)))
 refine A6 (σ:=Nat) (fun s w=>(s≤L.length)∧(Wx.Sep no w0 w [A5 B1 (Cx sa L.length sc none 0 0) 29])) (fun s=>[(5,.eq (vi (s:Int))),(4,.eq (.string (bs (oA L s))))]) ([(1,.eq _),(2,.eq _),(3,.eq _)]) (fun s=>L.length-s) 0 ?_ tQ ?_
 ·exact⟨a8 _,hS⟩
 rintro k w4 ⟨hk,hS⟩
 refine Ai (Af (I rfl ?_))
 refine U (.fB 2 rfl) ?_
 refine U (.lb rfl (hS.b0.Ad rfl)) ?_
 refine U (.Ck lr (.t rfl)) ?_
 refine U (.l2 rfl rfl) ?_
 refine Ah ?_
 refine CW.b rfl (fun h24=>?_) (fun h24=>?_)
 ·replace h24:=dQ h24
  refine Aj (Ac (Ai (Ak ?_)))
  have hkl:k<L.length:=cm.1 h24
  obtain⟨s,hs⟩:=Ae (xs:=L) (i:=k) hkl
  obtain⟨Bs,os,as_,hcs⟩:=(Els.up hF.E hS.Ch) k s hs
  have hpl:=BN hL k hk
  have hsl:=T5 (k:=k) oQ (hL.sml s (ai hs))
  refine Aa (I rfl (I rfl ?_))
  refine U (.fB 2 rfl) ?_
  refine U (.lb rfl (hS.b0.Ad rfl)) ?_
  refine I rfl ?_
  refine U (.Ao lr l4 (j:=k) (.t rfl) (.t rfl) oQ as_) ?_
  refine U (.lc rfl (hcs)) ?_
  refine A4 (eC (.u rfl rfl) (IZ)) rfl (Ya k s oQ (hL.sml s (ai hs)) _ (Els.up (hF.p s (ai hs)).1 hS.Ch) (Els.up (hF.p s (ai hs)).2 hS.Ch)) ?_
  rintro _ w5 ⟨rfl,uw5⟩
  have zw5:=uw5.size
  replace hS:=hS.up uw5
  refine U (.F1 (oA L k) (Dd k s) (.t rfl) (.t rfl) (by first|omega|(simp only[ak,bg,bw];omega)) (by first|omega|(simp only[ak,bg,bw];omega))) ?_
  refine U (.F1 (oA L k++Dd k s) ([10]) (.t rfl) (.const _) (by first|omega|(simp only[ak];omega)) (by first|omega|(simp only[bg,bw];omega))) ?_
  refine LW.A rfl (LW.nil (Al (Ac (Aa (I rfl ?_)))))
  refine U (.ic rfl oQ) ?_
  refine LW.A rfl (LW.nil (Av ?_))
  exact⟨k+1,⟨by omega,hS⟩,⟨rfl,by rw[rW hs];rfl,rfl,rfl,rfl,trivial⟩,by first|omega|(dsimp only;omega)⟩
 replace h24:=dQ h24
 have hkl:k=L.length:=by have:¬k<L.length:=fun h=>h24 (cm.2 h);omega
 subst hkl
 rw[jI]
 refine A8 (Ab (Ab (Aq (Ac (Ai (Af (Az (Ah (Ak ?_)))))))))
 refine A6 (σ:=Nat) (fun s w=>(s=0)∧(Wx.Sep no w0 w [A5 B1 (Cx sa L.length sc none 0 0) 29])) (fun s=>[(6,.eq (vi (s:Int))),(4,.eq (.string (bs (C4 L))))]) ([(1,.eq _),(2,.eq _),(3,.eq _)]) (fun s=>1-s) 0 ?_ tQ ?_
 ·exact⟨rfl,hS⟩
 rintro j w6 ⟨hj,hS⟩
 subst hj
 refine Ai (Af (I rfl ?_))
 refine U (.fB 3 rfl) ?_
 refine U (.lb rfl (hS.b0.Ad rfl)) ?_
 refine U (.Ck l9 (.t rfl)) ?_
 refine U (.fa (PEv.l2 rfl rfl) (rfl)) ?_
 refine Ah ?_
 refine CW.f rfl ?_
 refine A8 (Ab (Ab (Aq (Ac (Af (I rfl (LW.A rfl (Az (Ah (Am ?_))))))))))
 refine Gj rfl rfl rfl ⟨_,rfl,?_⟩
 exact⟨rfl,hS.Ch⟩
theorem Fb(c n:Int)(w:World)(hn:n≠0):Ret prog 43 #[vi c,vi n] w fun r w'=>r=vi (Cj c n)∧Up w w':=by
 have hW:=Up.refl w
 refine cT 13 func43 rfl ?_
 refine Af (Az (An (Af (I rfl ?_))))
 refine U (.lss (.t rfl) (.const _)) ?_
 refine Ah ?_
 refine CW.b rfl (fun h6=>?_) (fun h6=>?_)
 ·replace h6:=dQ h6
  refine Aa (I rfl ?_)
  refine U (.oB (.t rfl) (.const _)) ?_
  refine U (.neg li (.t rfl)) ?_
  refine LW.A rfl (An (Aa (I rfl (I rfl ?_))))
  refine U (.rem (.t rfl) (.t rfl) oQ) ?_
  refine LW.A rfl (Ah (Am ?_))
  refine KW.q ?_
  exact⟨by first|(rw[Cj,bh h6])|(rw[Cj,aq (by omega)]),hW⟩
 replace h6:=dQ h6
 refine Aj (Ac (Af (I rfl (I rfl ?_))))
 refine U (.rem (.t rfl) (.t rfl) oQ) ?_
 refine LW.A rfl (Ah (Am ?_))
 refine KW.q ?_
 exact⟨by first|(rw[Cj,bh h6])|(rw[Cj,aq (by omega)]),hW⟩
set_option maxHeartbeats 1000000 in
theorem sB(ad:Option Addr)(cp:Nat)(xs:List I6)(hxs:∀y∈xs,cO y)(w:World)(hE:Els w ad 6 I6.cells xs):Ret prog 16 #[.slice ad xs.length cp,.slice none 0 0] w fun r w'=>∃av cv L,r=.agg (Cx av L.length cv none 0 0)∧(1≤L.length∧L.length≤8)∧MkS L.length L∧FlK w.heap.size w' av L∧Up w w':=by
 obtain⟨w0,rfl,hS⟩:=W0 w
 obtain⟨n,en⟩:∃n,n=max 1 (min xs.length 8):=⟨_,rfl⟩
 have hn1:1≤n∧n≤8:=by omega
 refine cT 193 func16 rfl ?_
 refine Af ?_
 refine Ap (.Cb mu) rfl ?_
 rintro _ w1 ⟨B4,rfl,NB4⟩
 have eB4:=NB4.at_
 have zB4:=NB4.size
 replace hS:=hS.Cg NB4
 change Wx.Sep _ _ _ [_]at hS
 refine An (Aa (I rfl ?_))
 refine U (.Ck underlying22 (.t rfl)) ?_
 refine U (.Dt (v':=vi ((min xs.length 8:Nat):Int)) (oD (.t rfl) (.const _)) (bi vi oQ)) ?_
 refine U (.Dt (v':=vi (n:Int)) (pD (.const _) (.t rfl)) (bi vi (by rw[en];omega))) ?_
 refine LW.A rfl (An (Aa ?_))
 refine U (.build (cs:=Eo (.slice none 0 0)) underlying29 mu Nd (.cons (.const _) (.cons (.const _) .nil)) rfl) ?_
 refine Ap (.Cb mu) rfl ?_
 rintro _ w2 ⟨B6,rfl,MB6⟩
 refine Cd (.Cc m_ rfl (.t rfl) (.t rfl) (mJ rfl) MB6.blk rfl) ?_
 intro w3 LB6
 have NB6:=MB6.set LB6
 clear LB6 MB6
 have eB6:=NB6.at_
 have zB6:=NB6.size
 replace hS:=hS.Cg NB6
 change Wx.Sep _ _ _ [_,_]at hS
 refine An (Ai ?_)
 replace hS:=rU (e:=3) (hS.Ln (OwnS.nil _ 0 49 7 Sk.cells))
 change Wx.Sep _ _ _ [_,_,_,_]at hS
 refine Aa (Az (Ah (Ak ?_)))
 refine A6 (σ:=Nat×Option Addr×Nat×List Sk) (fun s w=>(s.1≤n)∧(MkS n s.2.2.2)∧(s.2.2.2.length=s.1)∧(Wx.Sep no w0 w [A5 B4 mL 29,A5 B6 (Eo (.slice s.2.1 s.2.2.2.length s.2.2.1)) 29,Aw 49 7 Sk.cells (.slice s.2.1 s.2.2.2.length s.2.2.1) (s.2.2.2),Dw ((s.2.2.2).flatMap (Lm 3))])) (fun s=>[(7,.eq (vi (s.1:Int)))]) ([(0,.eq _),(1,.eq _),(4,.eq _),(5,.eq _),(6,.eq _)]) (fun s=>n-s.1) (0,none,0,[]) ?_ tQ ?_
 ·exact⟨a8 _,fun j s h=>by simp at h,rfl,hS⟩
 rintro⟨k,av,cv,L⟩ w4 ⟨hk,hM,hlk,hS⟩
 dsimp only at hk hM hlk hS
 change Wx.Sep _ _ _ [_,_,_,_]at hS
 change CW _ _ _ _ _ _ _ ([(7,.eq (vi (k:Int)))]++_) _
 refine Ai (Af (I rfl (I rfl ?_)))
 refine U (.l2 rfl rfl) ?_
 refine Ah ?_
 refine CW.b rfl (fun h22=>?_) (fun h22=>?_)
 ·replace h22:=dQ h22
  have hkl:k<n:=cm.1 h22
  refine Aj (Ac (Ai (Ak (Af ?_))))
  refine Ap (.Cb zeroValue114) rfl ?_
  rintro _ w5 ⟨B8,rfl,NB8⟩
  have eB8:=NB8.at_
  have zB8:=NB8.size
  replace hS:=hS.Cg NB8
  change Wx.Sep _ _ _ [_,_,_,_,_]at hS
  refine Ah ?_
  refine E1 (fun a1 W=>Ag 193 [] ([(0,.eq (.slice ad xs.length cp)),(1,.eq (.slice none 0 0)),(4,.eq (.pointer (some ⟨B4,0,none⟩))),(5,.eq (vi (n:Int))),(6,.eq (.pointer (some ⟨B6,0,none⟩))),(7,.eq (vi (k:Int))),(8,.eq (.pointer (some ⟨B8,0,none⟩)))]) a1 W∧∃y,cO y∧Wx.Sep no w0 W [A5 B4 mL 29,A5 B6 (Eo (.slice av L.length cv)) 29,Aw 49 7 Sk.cells (.slice av L.length cv) (L),Dw ((L).flatMap (Lm 3)),A5 B8 (I6.cells y) 114]) ?_ ?_
  ·skip
   refine Af (I rfl (I rfl ?_))
   refine U (.Ck underlying22 (.t rfl)) ?_
   refine U (.l2 rfl rfl) ?_
   refine Ah ?_
   refine CW.b rfl (fun h28=>?_) (fun h28=>?_)
   ·replace h28:=dQ h28
    have hkx:k<xs.length:=cm.1 h28
    obtain⟨x,hx⟩:=Ae (xs:=xs) (i:=k) hkx
    obtain⟨Bx,ox,ax,hcx⟩:=(Els.up hE hS.Ch) k x hx
    refine Aa (I rfl (I rfl ?_))
    refine U (.Ao underlying22 sizeOf114 (j:=k) (.t rfl) (.t rfl) oQ ax) ?_
    refine U (.lc rfl (hcx)) ?_
    refine Cd (.Cc sizeOf114 rfl (.t rfl) (.t rfl) (I6.one _) hS.b4 rfl) ?_
    intro w6 Nw6
    have zw6:=Nw6.size
    replace hS:=hS.Ek 4 rfl (show Set_ _ w6 _ (I6.cells x) _ from Nw6)
    change Wx.Sep _ _ _ [_,_,_,_,_]at hS
    refine LW.nil ?_
    exact fun a ha=>⟨ha.sub tQ,(by first|exact⟨x,hxs x (ai hx),hS⟩|exact⟨⟨0,0,0,0,0,0⟩,i60,hS⟩)⟩
   replace h28:=dQ h28
   refine Aj ?_
   exact fun a ha=>⟨ha.sub tQ,(by first|exact⟨x,hxs x (ai hx),hS⟩|exact⟨⟨0,0,0,0,0,0⟩,i60,hS⟩)⟩
  rintro a1 w7 ⟨ha,⟨y,hy,hS⟩⟩
  revert a1
  show CW none _ _ _ _ _ _ _ _
  refine Ai ?_
  have hp5:=Fp (c:=y.a) (n:=5) hy.1 cQ
  have hp30:=Fp (c:=y.b) (n:=30) hy.2.1 cQ
  have hp20:=Fp (c:=IntKind.i64.wrap (Int.tdiv y.b 30)) (n:=20) (Pm _) cQ
  obtain⟨mx,emx⟩:∃m,m=1+Cj y.b 30+Cj (IntKind.i64.wrap (Int.tdiv y.b 30)) 20:=⟨_,rfl⟩
  refine Rq 11 9 10 8 9 41 (((⟨0,[],none,0,0,0,[],none,0,0,0⟩:Sk)).cells) [.eq (.pointer (some ⟨B8,0,none⟩)),.eq (vi y.a),.eq (vi (Cj y.a 5)),.eq (vi (1+Cj y.a 5)),.eq (.pointer (some ⟨B8,1,none⟩)),.eq (vi y.b),.eq (vi (Cj y.b 30)),.eq (vi (1+Cj y.b 30)),.eq (.agg ((⟨1+Cj y.a 5,[],none,0,1+Cj y.b 30,0,[],none,0,-1,0⟩:Sk)).cells),.pred fun v _=>∃B,v=.pointer (some ⟨B,0,none⟩),.eq (undef)] [] l_ l4 kQ rfl kQ kQ kQ kQ kQ kQ kQ rfl rfl ⟨_,_,_,rfl⟩ _ rfl ⟨_,_,_,rfl⟩ ⟨ot,ot,ot,ot,ot,ot,ot,ot,ot,PhT.pred fun _ _ _ h _=>h,ot,trivial⟩ rfl (fun v W h=>⟨_,h,rfl,Sk.one _⟩) (fun B W=>⟨B,rfl⟩) ?_ ?_
  ·intro W hU0
   have hU:=(Up.drew w7).trans hU0
   have hSW:=hS.up hU
   refine aC (.inr ⟨rfl,TU.p (.Eu (j:=0) mg lg (.t rfl) (.const _) cQ) rfl⟩) ?_
   refine aC (.inr ⟨rfl,TU.p (.lb rfl (hSW.b4.Ad rfl)) rfl⟩) ?_
   refine aC (.inr ⟨rfl,TU.c (eC (.ct rfl (.cons (.const _) .nil)) (Re)) (Fb y.a 5 W cQ) sQ⟩) ?_
   refine aC (.inr ⟨rfl,TU.p (.add (.const _) (.t rfl) oQ oQ) rfl⟩) ?_
   refine aC (.inr ⟨rfl,TU.p (.Eu (j:=1) mg lg (.t rfl) (.const _) cQ) rfl⟩) ?_
   refine aC (.inr ⟨rfl,TU.p (.lb rfl (hSW.b4.Ad rfl)) rfl⟩) ?_
   refine aC (.inr ⟨rfl,TU.c (eC (.ct rfl (.cons (.const _) .nil)) (Re)) (Fb y.b 30 W cQ) sQ⟩) ?_
   refine aC (.inr ⟨rfl,TU.p (.add (.const _) (.t rfl) oQ oQ) rfl⟩) ?_
   refine aC (.inr ⟨rfl,TU.p (.build (cs:=((⟨1+Cj y.a 5,[],none,0,1+Cj y.b 30,0,[],none,0,-1,0⟩:Sk)).cells) underlying49 l_ J9 (.ct rfl (.ct rfl (.cons (.const _) .nil))) rfl) rfl⟩) ?_
   refine aC (.inl (.inl rfl)) ?_
   refine aC (.inl (.inr rfl)) ?_
   exact allL.nil
  intro w8 B9 g hU0 zB9_ hB9 hg
  have hU:=(Up.drew w7).trans hU0
  have zw8:=hU.size
  have zdr:w7.drew.heap.size=w7.heap.size:=rfl
  have g41_:g 41=.agg ((⟨1+Cj y.a 5,[],none,0,1+Cj y.b 30,0,[],none,0,-1,0⟩:Sk)).cells:=hg 8 _ 41 cQ rfl rfl
  rw[g41_]at hB9
  replace hB9:Blk w8 B9 (((⟨1+Cj y.a 5,[],none,0,1+Cj y.b 30,0,[],none,0,-1,0⟩:Sk)).cells) 49:=hB9
  change LW _ _ _ _ _ _ _ _ ((9,_)::_) _
  clear hg
  replace hS:=(hS.up (Up.drew _)).add hU0 (A':=A5 B9 (((⟨1+Cj y.a 5,[],none,0,1+Cj y.b 30,0,[],none,0,-1,0⟩:Sk)).cells) 49) hB9 (fun i(e:i=B9)=>by omega)
  change Wx.Sep _ _ _ [_,_,_,_,_,_]at hS
  clear hB9
  refine An ?_
  refine C9 8 kQ kQ kQ kQ kQ rfl rfl ?_
  refine J (.fB 2 rfl) ?_
  refine J (.lb rfl (hS.b5.Ad rfl)) ?_
  refine J (.Eu (j:=1) mg lg (.t rfl) (.const _) cQ) ?_
  refine J (.lb rfl (hS.b4.Ad rfl)) ?_
  refine J (.quo (.t rfl) (.const _) cQ) ?_
  refine HW.c (fun a w _ ha=>Bi (.ct rfl (.cons (.const _) .nil)) (Re) a ha) rfl rfl (fun w hu=>Fb (IntKind.i64.wrap (Int.tdiv y.b 30)) 20 w cQ) ?_
  refine J (.Dt (v':=vi mx) (PEv.add (.t rfl) (.t rfl) (by dsimp only;omega) (by dsimp only;omega)) (bi vi emx.symm)) ?_
  refine J (.fB 3 rfl) ?_
  refine HW.nil ?_
  intro w9 uw9
  have zw9:=uw9.size
  replace hS:=hS.up uw9
  refine Cd (.store lg (.t rfl) (.t rfl) rfl hS.b5 bQ) ?_
  intro w10 Nw10
  have zw10:=Nw10.size
  replace hS:=hS.Ek 5 rfl (show Set_ _ w10 _ (((⟨1+Cj y.a 5,[],none,0,1+Cj y.b 30,mx,[],none,0,-1,0⟩:Sk)).cells) _ from Nw10)
  change Wx.Sep _ _ _ [_,_,_,_,_,_]at hS
  refine An (Aa ?_)
  refine U (.Eu (j:=2) mg lg (.t rfl) (.const _) cQ) ?_
  refine U (.lb rfl (hS.b4.Ad rfl)) ?_
  refine A4 (eC (.ct rfl (.cons (.const _) .nil)) (Re)) rfl (Fb (y.c) 6 _ cQ) ?_
  rintro _ w11 ⟨rfl,uw11⟩
  have zw11:=uw11.size
  replace hS:=hS.up uw11
  refine LW.A rfl (An ?_)
  obtain⟨aa,ea⟩:∃a,a=Cj y.c 6:=⟨_,rfl⟩
  have haa:=Fp (c:=y.c) (n:=6) hy.2.2.1 cQ
  rw[←ea]at haa⊢
  refine Aa (I rfl ?_)
  refine Ap (.buildSlice (xs:=([aa]:List Int)) (enc:=A3) (mk:=vi) k_ lg lq rfl cQ (fun _=>rfl) (fun _=>rfl) (.cu rfl) rfl) rfl ?_
  intro v54 w12 hN54
  obtain⟨uw12,B54,rfl,e54,hO54⟩:=NewSl.own hN54 (fun _=>rfl) cQ (by simp[maxLen])
  have zw12:=uw12.size
  replace hS:=hS.add uw12 (A':=Aw 3 1 A3 (.slice (some ⟨B54,0,none⟩) 1 1) ([aa]:List Int)) hO54 (fun i h=>by cases h;exact fm e54.symm)
  change Wx.Sep _ _ _ [_,_,_,_,_,_,_]at hS
  refine U (.fB 1 rfl) ?_
  refine Cd (.store m4 (.t rfl) (.t rfl) rfl hS.b5 bQ) ?_
  intro w13 Nw13
  have zw13:=Nw13.size
  replace hS:=hS.Ek 5 rfl (show Set_ _ w13 _ (((⟨1+Cj y.a 5,[aa],some ⟨B54,0,none⟩,1,1+Cj y.b 30,mx,[],none,0,-1,0⟩:Sk)).cells) _ from Nw13)
  change Wx.Sep _ _ _ [_,_,_,_,_,_,_]at hS
  refine Ah ?_
  refine E1 (fun a1 W=>Ag 193 [] ([(0,.eq (.slice ad xs.length cp)),(1,.eq (.slice none 0 0)),(4,.eq (.pointer (some ⟨B4,0,none⟩))),(5,.eq (vi (n:Int))),(6,.eq (.pointer (some ⟨B6,0,none⟩))),(7,.eq (vi (k:Int))),(8,.eq (.pointer (some ⟨B8,0,none⟩))),(9,.eq (.pointer (some ⟨B9,0,none⟩)))]) a1 W∧∃tl ta tc,HL tl∧Wx.Sep no w0 W [A5 B4 mL 29,A5 B6 (Eo (.slice av L.length cv)) 29,Aw 49 7 Sk.cells (.slice av L.length cv) (L),Dw ((L).flatMap (Lm 3)),A5 B8 (I6.cells y) 114,A5 B9 (Sk.cells (⟨1+Cj y.a 5,tl,ta,tc,1+Cj y.b 30,mx,[],none,0,-1,0⟩:Sk)) 49,Aw 3 1 A3 (.slice ta (tl).length tc) (tl)]) ?_ ?_
  ·skip
   refine Af ?_
   refine U (.Eu (j:=2) mg lg (.t rfl) (.const _) cQ) ?_
   refine U (.lb rfl (hS.b4.Ad rfl)) ?_
   refine U (.quo (.t rfl) (.const _) cQ) ?_
   refine A4 (eC (.ct rfl (.cons (.const _) .nil)) (Re)) rfl (Fb (IntKind.i64.wrap (Int.tdiv y.c 6)) 2 _ cQ) ?_
   rintro _ w14 ⟨rfl,uw14⟩
   have zw14:=uw14.size
   replace hS:=hS.up uw14
   refine U (.eql (.t rfl) (.const _)) ?_
   refine Ah ?_
   refine CW.b rfl (fun h60=>?_) (fun h60=>?_)
   ·replace h60:=dQ h60
    have hp3:=Fp (c:=IntKind.i64.wrap (Int.tdiv y.c 12)) (n:=3) (Pm _) cQ
    refine Jh 10 (fun v w''=>Wx.Sep no w0 w'' [A5 B4 mL 29,A5 B6 (Eo (.slice av L.length cv)) 29,Aw 49 7 Sk.cells (.slice av L.length cv) (L),Dw ((L).flatMap (Lm 3)),A5 B8 (I6.cells y) 114,A5 B9 (Sk.cells (⟨1+Cj y.a 5,[aa],some ⟨B54,0,none⟩,1,1+Cj y.b 30,mx,[],none,0,-1,0⟩:Sk)) 49,Aw 3 1 A3 v [aa,aa+1+Cj (IntKind.i64.wrap (Int.tdiv y.c 12)) 3]]) kQ kQ kQ kQ kQ kQ rfl rfl rfl rfl rfl ?_
    refine J (.fB 1 rfl) ?_
    refine J (.lb rfl (hS.b5.Ad rfl)) ?_
    refine J (.mv rfl) ?_
    refine J (.add (.t rfl) (.const _) oQ oQ) ?_
    refine J (.Eu (j:=2) mg lg (.t rfl) (.const _) cQ) ?_
    refine J (.lb rfl (hS.b4.Ad rfl)) ?_
    refine J (.quo (.t rfl) (.const _) cQ) ?_
    refine HW.c (fun a w _ ha=>Bi (.ct rfl (.cons (.const _) .nil)) (Re) a ha) rfl rfl (fun w hu=>Fb (IntKind.i64.wrap (Int.tdiv y.c 12)) 3 w cQ) ?_
    refine J (.add (.t rfl) (.t rfl) oQ oQ) ?_
    refine HW.r (p:=fun v w=>Sl w v 1 (A3) [aa+1+Cj (IntKind.i64.wrap (Int.tdiv y.c 12)) 3]) (fun _ _ _ h u=>Sl.up h u) rfl (fun w hu a ha=>let⟨v,w',h1,h2⟩:=REv.buildSlice (xs:=[aa+1+Cj (IntKind.i64.wrap (Int.tdiv y.c 12)) 3]) (enc:=A3) (mk:=vi) k_ lg lq rfl bQ (fun _=>rfl) (fun _=>rfl) (.cu rfl) rfl a ha;⟨v,w',h1,h2.q⟩) rfl ?_
    refine HW.nil ⟨fun a w' hu ha=>?_,?_⟩
    ·exact(REv.open (d:=70) (p:=fun v w=>Sl w v 1 A3 [aa+1+Cj (IntKind.i64.wrap (Int.tdiv y.c 12)) 3]) rfl fun vv hv=>(REv.C3 (enc:=A3) (bytes:=8) (i:=Tryz.t3) k_ kQ rfl rfl rfl rfl cQ (fun _=>rfl) Et (.t rfl) (.t rfl) ((hS.up hu).own 6 rfl) hv (by simp[maxLen]) (by simp)).mono fun v' w'' h=>(hS.up hu).Fs 6 rfl h).y ha
    intro v71 w15 hS
    obtain⟨ad71,cp71,rfl,_⟩:=(hS.own 6 rfl).sl (fun _=>rfl)
    change Wx.Sep _ _ _ [_,_,_,_,_,_,Aw 3 1 A3 (.slice ad71 2 cp71) [aa,aa+1+Cj (IntKind.i64.wrap (Int.tdiv y.c 12)) 3]]at hS
    refine U (.fB 1 rfl) ?_
    refine Cd (.store m4 (.t rfl) (.t rfl) (hS.own 6 rfl).one hS.b5 bQ) ?_
    intro w16 Nw16
    have zw16:=Nw16.size
    replace hS:=hS.Ek 5 rfl (show Set_ _ w16 _ (((⟨1+Cj y.a 5,[aa,aa+1+Cj (IntKind.i64.wrap (Int.tdiv y.c 12)) 3],ad71,cp71,1+Cj y.b 30,mx,[],none,0,-1,0⟩:Sk)).cells) _ from Nw16)
    change Wx.Sep _ _ _ [_,_,_,_,_,_,_]at hS
    refine LW.nil ?_
    exact fun a ha=>⟨ha.sub tQ,(by first|exact⟨_,ad71,cp71,⟨aa,haa.1,haa.2,.inr ⟨_,by omega,by omega,rfl⟩⟩,hS⟩|exact⟨_,_,_,⟨aa,haa.1,haa.2,.inl rfl⟩,hS⟩)⟩
   replace h60:=dQ h60
   refine Aj ?_
   exact fun a ha=>⟨ha.sub tQ,(by first|exact⟨_,ad71,cp71,⟨aa,haa.1,haa.2,.inr ⟨_,by omega,by omega,rfl⟩⟩,hS⟩|exact⟨_,_,_,⟨aa,haa.1,haa.2,.inl rfl⟩,hS⟩)⟩
  rintro a1 w17 ⟨ha,⟨tl,ta,tc,htl,hS⟩⟩
  revert a1
  show CW none _ _ _ _ _ _ _ _
  refine E1 (fun a1 W=>Ag 193 [] ([(0,.eq (.slice ad xs.length cp)),(1,.eq (.slice none 0 0)),(4,.eq (.pointer (some ⟨B4,0,none⟩))),(5,.eq (vi (n:Int))),(6,.eq (.pointer (some ⟨B6,0,none⟩))),(7,.eq (vi (k:Int))),(8,.eq (.pointer (some ⟨B8,0,none⟩))),(9,.eq (.pointer (some ⟨B9,0,none⟩)))]) a1 W∧∃nx na nc,HM n k nx∧Wx.Sep no w0 W [A5 B4 mL 29,A5 B6 (Eo (.slice av L.length cv)) 29,Aw 49 7 Sk.cells (.slice av L.length cv) (L),Dw ((L).flatMap (Lm 3)),A5 B8 (I6.cells y) 114,A5 B9 (Sk.cells (⟨1+Cj y.a 5,tl,ta,tc,1+Cj y.b 30,mx,nx,na,nc,-1,0⟩:Sk)) 49,Aw 3 1 A3 (.slice ta (tl).length tc) (tl),Aw 3 1 A3 (.slice na (nx).length nc) (nx)]) ?_ ?_
  ·skip
   refine Ai ?_
   cases hq15:decide (k+1<n)with
   |true=>
    have hkn:=b9 hq15
    refine Aa (I rfl (I rfl ?_))
    refine U (.sub (.t rfl) (.const _) oQ oQ) ?_
    refine U (.tr (PEv.l2 rfl rfl) (bj oQ)) ?_
    refine I rfl ?_
    refine Au ?_
    refine U (.Eu (j:=3) mg lg (.t rfl) (.const _) cQ) ?_
    refine Au ?_
    refine U (.lb rfl (hS.b4.Ad rfl)) ?_
    refine Au ?_
    refine A4 (eC (.ct rfl (.cons (.const _) .nil)) (Re)) rfl (Fb (y.d) 12 _ cQ) ?_
    rintro _ w18 ⟨rfl,uw18⟩
    have zw18:=uw18.size
    replace hS:=hS.up uw18
    refine Au ?_
    refine U (.gtr (.t rfl) (.const _)) ?_
    refine U (.pa rfl (fun hp=>wQ)) ?_
    refine Ah ?_
    refine CW.b rfl (fun h82=>?_) (fun h82=>?_)
    ·replace h82:=dQ h82
     refine Af (I rfl ?_)
     refine U (.add (.t rfl) (.const _) oQ oQ) ?_
     refine Ap (.buildSlice (xs:=([(k:Int)+1]:List Int)) (enc:=A3) (mk:=vi) k_ lg lq rfl cQ (fun _=>rfl) (fun _=>rfl) (.cu rfl) rfl) rfl ?_
     intro v85 w19 hN85
     obtain⟨uw19,B85,rfl,e85,hO85⟩:=NewSl.own hN85 (fun _=>rfl) cQ (by simp[maxLen])
     have zw19:=uw19.size
     replace hS:=hS.add uw19 (A':=Aw 3 1 A3 (.slice (some ⟨B85,0,none⟩) 1 1) ([(k:Int)+1]:List Int)) hO85 (fun i h=>by cases h;exact fm e85.symm)
     change Wx.Sep _ _ _ [_,_,_,_,_,_,_,_]at hS
     refine U (.fB 4 rfl) ?_
     refine Cd (.store m4 (.t rfl) (.t rfl) rfl hS.b5 bQ) ?_
     intro w20 Nw20
     have zw20:=Nw20.size
     replace hS:=hS.Ek 5 rfl (show Set_ _ w20 _ (((⟨1+Cj y.a 5,tl,ta,tc,1+Cj y.b 30,mx,[(k:Int)+1],some ⟨B85,0,none⟩,1,-1,0⟩:Sk)).cells) _ from Nw20)
     change Wx.Sep _ _ _ [_,_,_,_,_,_,_,_]at hS
     refine An ?_
     have hp17:=Fp (c:=IntKind.i64.wrap (Int.tdiv y.d 12)) (n:=3) (Pm _) cQ
     refine Aa (I rfl ?_)
     refine U (.add (.t rfl) (.const _) oQ oQ) ?_
     refine U (.Eu (j:=3) mg lg (.t rfl) (.const _) cQ) ?_
     refine U (.lb rfl (hS.b4.Ad rfl)) ?_
     refine U (.quo (.t rfl) (.const _) cQ) ?_
     refine A4 (eC (.ct rfl (.cons (.const _) .nil)) (Re)) rfl (Fb (IntKind.i64.wrap (Int.tdiv y.d 12)) 3 _ cQ) ?_
     rintro _ w21 ⟨rfl,uw21⟩
     have zw21:=uw21.size
     replace hS:=hS.up uw21
     refine U (.add (.t rfl) (.t rfl) oQ oQ) ?_
     refine LW.A rfl (An ?_)
     cases hq18:decide ((k:Int)+2+Cj (IntKind.i64.wrap (Int.tdiv y.d 12)) 3<n)with
     |true=>
      have hkk:=b9 hq18
      refine Aa (I rfl (I rfl ?_))
      refine U (.tr (PEv.l2 rfl rfl) (hq18)) ?_
      refine I rfl ?_
      refine Au ?_
      refine U (.Eu (j:=3) mg lg (.t rfl) (.const _) cQ) ?_
      refine Au ?_
      refine U (.lb rfl (hS.b4.Ad rfl)) ?_
      refine Au ?_
      refine U (.quo (.t rfl) (.const _) cQ) ?_
      refine Au ?_
      refine A4 (eC (.ct rfl (.cons (.const _) .nil)) (Re)) rfl (Fb (IntKind.i64.wrap (Int.tdiv y.d 36)) 3 _ cQ) ?_
      rintro _ w22 ⟨rfl,uw22⟩
      have zw22:=uw22.size
      replace hS:=hS.up uw22
      refine Au ?_
      refine U (.eql (.t rfl) (.const _)) ?_
      refine U (.pa rfl (fun hp=>wQ)) ?_
      refine Ah ?_
      refine CW.b rfl (fun h103=>?_) (fun h103=>?_)
      ·replace h103:=dQ h103
       refine Aa ?_
       refine U (.fB 4 rfl) ?_
       refine U (.lb rfl (hS.b5.Ad rfl)) ?_
       refine I rfl ?_
       refine Ap (.buildSlice (xs:=[(k:Int)+2+Cj (IntKind.i64.wrap (Int.tdiv y.d 12)) 3]) (enc:=A3) (mk:=vi) k_ lg lq rfl cQ (fun _=>rfl) (fun _=>rfl) (.cu rfl) rfl) rfl ?_
       rintro _ w23 ⟨B107,cB107,rfl,NB107,yB107,xB107⟩
       have eB107:=NB107.at_
       have zB107:=NB107.size
       replace hS:=hS.up NB107.up
       have hE107:=xB107
       refine Ap (.C3 (enc:=A3) (bytes:=8) (i:=Tryz.t3) k_ kQ rfl rfl rfl rfl cQ (fun _=>rfl) Et (.t rfl) (.t rfl) (hS.own 7 rfl) (Ay hE107) (by simp[maxLen]) (by simp)) rfl ?_
       intro v108 w24 Gw24
       have zw24:=Gw24.fr.size
       replace hS:=hS.Fs 7 rfl Gw24
       change Wx.Sep _ _ _ [_,_,_,_,_,_,_,_]at hS
       obtain⟨ad108,cp108,rfl,_⟩:=(hS.own 7 rfl).sl (fun _=>rfl)
       change Wx.Sep _ _ _ [_,_,_,_,_,_,_,Aw 3 1 A3 (.slice ad108 2 cp108) [(k:Int)+1,(k:Int)+2+Cj (IntKind.i64.wrap (Int.tdiv y.d 12)) 3]]at hS
       refine U (.fB 4 rfl) ?_
       refine Cd (.store m4 (.t rfl) (.t rfl) (hS.own 7 rfl).one hS.b5 bQ) ?_
       intro w25 Nw25
       have zw25:=Nw25.size
       replace hS:=hS.Ek 5 rfl (show Set_ _ w25 _ (((⟨1+Cj y.a 5,tl,ta,tc,1+Cj y.b 30,mx,[(k:Int)+1,(k:Int)+2+Cj (IntKind.i64.wrap (Int.tdiv y.d 12)) 3],ad108,cp108,-1,0⟩:Sk)).cells) _ from Nw25)
       change Wx.Sep _ _ _ [_,_,_,_,_,_,_,_]at hS
       refine LW.nil ?_
       exact fun a ha=>⟨ha.sub tQ,(by first|exact⟨_,ad108,cp108,.inr ⟨hkn,.inr ⟨_,by omega,by omega,rfl⟩⟩,hS⟩|exact⟨_,_,_,.inr ⟨hkn,.inl rfl⟩,hS⟩|exact⟨[],none,0,.inl rfl,hS.Ln (OwnS.nil _ 0 3 1 A3)⟩)⟩
      replace h103:=dQ h103
      refine Aj ?_
      exact fun a ha=>⟨ha.sub tQ,(by first|exact⟨_,ad108,cp108,.inr ⟨hkn,.inr ⟨_,by omega,by omega,rfl⟩⟩,hS⟩|exact⟨_,_,_,.inr ⟨hkn,.inl rfl⟩,hS⟩|exact⟨[],none,0,.inl rfl,hS.Ln (OwnS.nil _ 0 3 1 A3)⟩)⟩
     |false=>
      refine Aa (I rfl (I rfl ?_))
      refine U (.fa (PEv.l2 rfl rfl) (hq18)) ?_
      refine I rfl ?_
      refine Bh ?_
      refine Bh ?_
      refine Bh ?_
      refine Bh ?_
      refine Bh ?_
      refine U (.Cv (b:=false) (.t rfl) (fun hp=>absurd (show false=true from hp) cQ)) ?_
      refine Ah ?_
      refine CW.f rfl ?_
      refine Aj ?_
      exact fun a ha=>⟨ha.sub tQ,(by first|exact⟨_,ad108,cp108,.inr ⟨hkn,.inr ⟨_,by omega,by omega,rfl⟩⟩,hS⟩|exact⟨_,_,_,.inr ⟨hkn,.inl rfl⟩,hS⟩|exact⟨[],none,0,.inl rfl,hS.Ln (OwnS.nil _ 0 3 1 A3)⟩)⟩
    replace h82:=dQ h82
    refine Aj ?_
    exact fun a ha=>⟨ha.sub tQ,(by first|exact⟨_,ad108,cp108,.inr ⟨hkn,.inr ⟨_,by omega,by omega,rfl⟩⟩,hS⟩|exact⟨_,_,_,.inr ⟨hkn,.inl rfl⟩,hS⟩|exact⟨[],none,0,.inl rfl,hS.Ln (OwnS.nil _ 0 3 1 A3)⟩)⟩
   |false=>
    have hkn:=cd hq15
    refine Aa (I rfl (I rfl ?_))
    refine U (.sub (.t rfl) (.const _) oQ oQ) ?_
    refine U (.fa (PEv.l2 rfl rfl) (br oQ)) ?_
    refine I rfl ?_
    refine Bh ?_
    refine Bh ?_
    refine Bh ?_
    refine Bh ?_
    refine U (.Cv (b:=false) (.t rfl) (fun hp=>absurd (show false=true from hp) cQ)) ?_
    refine Ah ?_
    refine CW.f rfl ?_
    refine Aj ?_
    exact fun a ha=>⟨ha.sub tQ,(by first|exact⟨_,ad108,cp108,.inr ⟨hkn,.inr ⟨_,by omega,by omega,rfl⟩⟩,hS⟩|exact⟨_,_,_,.inr ⟨hkn,.inl rfl⟩,hS⟩|exact⟨[],none,0,.inl rfl,hS.Ln (OwnS.nil _ 0 3 1 A3)⟩)⟩
  rintro a1 w26 ⟨ha,⟨nx,na,nc,hnx,hS⟩⟩
  revert a1
  show CW none _ _ _ _ _ _ _ _
  refine E1 (fun a1 W=>Ag 193 [] ([(0,.eq (.slice ad xs.length cp)),(1,.eq (.slice none 0 0)),(4,.eq (.pointer (some ⟨B4,0,none⟩))),(5,.eq (vi (n:Int))),(6,.eq (.pointer (some ⟨B6,0,none⟩))),(7,.eq (vi (k:Int))),(8,.eq (.pointer (some ⟨B8,0,none⟩))),(9,.eq (.pointer (some ⟨B9,0,none⟩)))]) a1 W∧∃bk lm:Int,(bk= -1∧lm=0∨(0≤bk∧bk≤k)∧1≤lm∧lm≤3)∧Wx.Sep no w0 W [A5 B4 mL 29,A5 B6 (Eo (.slice av L.length cv)) 29,Aw 49 7 Sk.cells (.slice av L.length cv) (L),Dw ((L).flatMap (Lm 3)),A5 B8 (I6.cells y) 114,A5 B9 (Sk.cells (⟨1+Cj y.a 5,tl,ta,tc,1+Cj y.b 30,mx,nx,na,nc,bk,lm⟩:Sk)) 49,Aw 3 1 A3 (.slice ta (tl).length tc) (tl),Aw 3 1 A3 (.slice na (nx).length nc) (nx)]) ?_ ?_
  ·skip
   refine Af ?_
   refine U (.Eu (j:=4) mg lg (.t rfl) (.const _) cQ) ?_
   refine U (.lb rfl (hS.b4.Ad rfl)) ?_
   refine A4 (eC (.ct rfl (.cons (.const _) .nil)) (Re)) rfl (Fb (y.e) 4 _ cQ) ?_
   rintro _ w27 ⟨rfl,uw27⟩
   have zw27:=uw27.size
   replace hS:=hS.up uw27
   refine U (.eql (.t rfl) (.const _)) ?_
   refine Ah ?_
   refine CW.b rfl (fun h113=>?_) (fun h113=>?_)
   ·replace h113:=dQ h113
    refine Ai ?_
    have hb4:=Fp (c:=IntKind.i64.wrap (Int.tdiv y.e 4)) (n:=(k:Int)+1) (Pm _) oQ
    have hb5:=Fp (c:=y.f) (n:=3) hy.2.2.2.2.2 cQ
    refine Aa ?_
    refine U (.Eu (j:=4) mg lg (.t rfl) (.const _) cQ) ?_
    refine U (.lb rfl (hS.b4.Ad rfl)) ?_
    refine U (.quo (.t rfl) (.const _) cQ) ?_
    refine I rfl ?_
    refine U (.add (.t rfl) (.const _) oQ oQ) ?_
    refine A4 (eC (.u rfl rfl) (Re)) rfl (Fb (IntKind.i64.wrap (Int.tdiv y.e 4)) ((k:Int)+1) _ oQ) ?_
    rintro _ w28 ⟨rfl,uw28⟩
    have zw28:=uw28.size
    replace hS:=hS.up uw28
    refine U (.fB 5 rfl) ?_
    refine Cd (.store lg (.t rfl) (.t rfl) rfl hS.b5 bQ) ?_
    intro w29 Nw29
    have zw29:=Nw29.size
    replace hS:=hS.Ek 5 rfl (show Set_ _ w29 _ (((⟨1+Cj y.a 5,tl,ta,tc,1+Cj y.b 30,mx,nx,na,nc,Cj (IntKind.i64.wrap (Int.tdiv y.e 4)) ((k:Int)+1),0⟩:Sk)).cells) _ from Nw29)
    change Wx.Sep _ _ _ [_,_,_,_,_,_,_,_]at hS
    refine Ah (Aa ?_)
    refine U (.Eu (j:=5) mg lg (.t rfl) (.const _) cQ) ?_
    refine U (.lb rfl (hS.b4.Ad rfl)) ?_
    refine A4 (eC (.ct rfl (.cons (.const _) .nil)) (Re)) rfl (Fb (y.f) 3 _ cQ) ?_
    rintro _ w30 ⟨rfl,uw30⟩
    have zw30:=uw30.size
    replace hS:=hS.up uw30
    refine U (.add (.const _) (.t rfl) oQ oQ) ?_
    refine U (.fB 6 rfl) ?_
    refine Cd (.store lg (.t rfl) (.t rfl) rfl hS.b5 bQ) ?_
    intro w31 Nw31
    have zw31:=Nw31.size
    replace hS:=hS.Ek 5 rfl (show Set_ _ w31 _ (((⟨1+Cj y.a 5,tl,ta,tc,1+Cj y.b 30,mx,nx,na,nc,Cj (IntKind.i64.wrap (Int.tdiv y.e 4)) ((k:Int)+1),1+Cj y.f 3⟩:Sk)).cells) _ from Nw31)
    change Wx.Sep _ _ _ [_,_,_,_,_,_,_,_]at hS
    refine LW.nil ?_
    exact fun a ha=>⟨ha.sub tQ,(by first|exact⟨_,_,.inr ⟨⟨hb4.1,by omega⟩,by omega,by omega⟩,hS⟩|exact⟨-1,0,.inl ⟨rfl,rfl⟩,hS⟩)⟩
   replace h113:=dQ h113
   refine Aj ?_
   exact fun a ha=>⟨ha.sub tQ,(by first|exact⟨_,_,.inr ⟨⟨hb4.1,by omega⟩,by omega,by omega⟩,hS⟩|exact⟨-1,0,.inl ⟨rfl,rfl⟩,hS⟩)⟩
  rintro a1 w32 ⟨ha,⟨bk,lm,hbk,hS⟩⟩
  revert a1
  show CW none _ _ _ _ _ _ _ _
  refine Aa ?_
  refine U (.fB 2 rfl) ?_
  refine U (.lb rfl (hS.b1.Ad rfl)) ?_
  refine U (.lc rfl (hS.b5.agg)) ?_
  refine Ap (.buildSlice (xs:=[(⟨1+Cj y.a 5,tl,ta,tc,1+Cj y.b 30,mx,nx,na,nc,bk,lm⟩:Sk)]) (enc:=Sk.cells) (mk:=fun s=>.agg s.cells) lr l4 l_ rfl cQ (fun _=>rfl) (fun _=>rfl) (.cu rfl) rfl) rfl ?_
  rintro _ w33 ⟨B129,cB129,rfl,NB129,yB129,xB129⟩
  have eB129:=NB129.at_
  have zB129:=NB129.size
  replace hS:=hS.up NB129.up
  have hE129:=xB129
  refine Ap (.C3 (enc:=Sk.cells) (bytes:=88) (i:=Tryz.t49) lr kQ rfl rfl rfl rfl cQ (fun _=>rfl) Sk.one (.t rfl) (.t rfl) (hS.own 2 rfl) (Ay hE129) (by simp[maxLen];omega) (by simp;omega)) rfl ?_
  intro v130 w34 Gw34
  have zw34:=Gw34.fr.size
  replace hS:=hS.Fs 2 rfl Gw34
  change Wx.Sep _ _ _ [_,_,_,_,_,_,_,_]at hS
  obtain⟨ad130,cp130,rfl,_⟩:=(hS.own 2 rfl).sl (fun _=>rfl)
  refine U (.fB 2 rfl) ?_
  refine Cd (.store sizeOf26 (.t rfl) (.t rfl) (hS.own 2 rfl).one hS.b1 bQ) ?_
  intro w35 Nw35
  have zw35:=Nw35.size
  replace hS:=hS.Ek 1 rfl (show Set_ _ w35 _ (Eo (.slice ad130 (L++[(⟨1+Cj y.a 5,tl,ta,tc,1+Cj y.b 30,mx,nx,na,nc,bk,lm⟩:Sk)]).length cp130)) _ from Nw35)
  change Wx.Sep _ _ _ [_,_,_,_,_,_,_,_]at hS
  refine LW.nil (Al (Ac (Aa (I rfl ?_))))
  refine U (.ic rfl oQ) ?_
  refine LW.A rfl (LW.nil (Av ?_))
  exact⟨(k+1,ad130,cp130,L++[(⟨1+Cj y.a 5,tl,ta,tc,1+Cj y.b 30,mx,nx,na,nc,bk,lm⟩:Sk)]),⟨by show k+1≤n;omega,hM.snoc (by rw[hlk];exact⟨⟨by show 1≤1+Cj y.a 5;omega,by show 1+Cj y.a 5≤5;omega⟩,⟨by show 1≤1+Cj y.b 30;omega,by show 1+Cj y.b 30≤mx;omega,by show mx≤49;omega⟩,htl,hnx,hbk⟩),by show(L++[_]).length=k+1;rw[ak,hlk];rfl,R1 (Bs:=[_,_,_]) (s:=(⟨1+Cj y.a 5,tl,ta,tc,1+Cj y.b 30,mx,nx,na,nc,bk,lm⟩:Sk)) (hS.sub (.cons_cons _ (.cons_cons _ (.cons_cons _ (.cons_cons _ (.cons _ (.cons _ (.cons_cons _ (.cons_cons _ .slnil)))))))))⟩,tQ,by show n-(k+1)<n-k;omega⟩
 replace h22:=dQ h22
 have hkl:¬k<n:=fun h=>h22 (cm.2 h)
 refine A8 (Ab (Ab (Aq (Ac (Ai (Af (Az (Ah (Ak ?_)))))))))
 refine A6 (σ:=Nat) (fun s w=>(s=0)∧(Wx.Sep no w0 w [A5 B4 mL 29,A5 B6 (Eo (.slice av L.length cv)) 29,Aw 49 7 Sk.cells (.slice av L.length cv) (L),Dw ((L).flatMap (Lm 3))])) (fun s=>[(12,.eq (vi (s:Int)))]) ([(1,.eq _),(4,.eq _),(5,.eq _),(6,.eq _)]) (fun s=>1-s) 0 ?_ tQ ?_
 ·exact⟨rfl,hS⟩
 rintro j w36 ⟨hj,hS⟩
 subst hj
 refine Ai (Af (I rfl (I rfl ?_)))
 refine U (.Ck underlying113 (.t rfl)) ?_
 refine U (.fa (PEv.l2 rfl rfl) (rfl)) ?_
 refine I rfl ?_
 refine Bh ?_
 refine Bh ?_
 refine U (.Cv (b:=false) (.t rfl) (fun hp=>absurd (show false=true from hp) cQ)) ?_
 refine Ah ?_
 refine CW.f rfl ?_
 refine A8 (Ab (Ab (Aq (Ac (Af ?_)))))
 refine U (.lc rfl (hS.b1.agg)) ?_
 refine Cd (.Cc m_ rfl (.t rfl) (.t rfl) (Hy _ _ _ _ _ _) hS.b0 rfl) ?_
 intro w37 Nw37
 have zw37:=Nw37.size
 replace hS:=hS.Ek 0 rfl (show Set_ _ w37 _ (Cx av L.length cv none 0 0) _ from Nw37)
 change Wx.Sep _ _ _ [_,_,_,_]at hS
 refine Ah (Am ?_)
 refine F3 rfl rfl isAgg29 m_ rfl (hS.b0.agg) ⟨_,rfl,?_⟩
 have hkn:k=n:=by omega
 subst hkn
 have hlr:1≤L.length∧L.length≤8:=by rw[hlk,en];omega
 rw[←hlk]at hM
 exact⟨av,cv,L,rfl,hlr,hM,⟨X8 (hM.HN hlr) (show Same L L from rfl) (hS.own 2 rfl) (hS.get 3 rfl),FlB.of (k:=2) (m:=3) hS rfl rfl⟩,hS.Ch⟩
end Go.Proofs.YtnpgbbaniknpkaaGreatDoor
