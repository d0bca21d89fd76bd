import Derived.Test.YtnocngnlpgikaaaGreatDoorKR117
import Derived.Lib.AtoiErrMem
namespace Go.Wx
def Dk(n:Int):List UInt8:=Go.Lib.decDigits n.toNat
def Dc(c:UInt8)(p:List UInt8):List (List UInt8)→List UInt8
 |[]=>p
 |q::qs=>p++c::Dc c q qs
def Jd:List Int→List UInt8
 |[]=>[45]
 |x::l=>Dc 44 (Dk x) (l.map Dk)
theorem Rk(c:UInt8)(t:List UInt8):∀(p r:List UInt8),c∉p→Go.Lib.index (p++c::(t++r)) (c::t)=(p.length:Int)
 |[],r,_=>by
   rw[df]
   unfold Go.Lib.index
   exact ap (jr.2 ⟨r,rfl⟩)
 |b::p,r,h=>by
   have hb:c≠b:=fun e=>h (by rw[e];exact bl)
   have ih:=Rk c t p r (fun hm=>h (bu _ hm))
   have h2:((c::t).isPrefixOf (b::(p++c::(t++r))))=false:=by simp[List.isPrefixOf,hb]
   rw[dp]
   unfold Go.Lib.index
   rw[h2,ih,am (by simp),am (by simp)]
   simp
theorem X2(c:UInt8):∀p:List UInt8,c∉p→Go.Lib.index p [c]= -1
 |[],_=>rfl
 |b::p,h=>by
   have hb:c≠b:=fun e=>h (by rw[e];exact bl)
   have ih:=X2 c p (fun hm=>h (bu _ hm))
   have h2:([c].isPrefixOf (b::p))=false:=by simp[List.isPrefixOf,hb]
   unfold Go.Lib.index
   rw[h2,ih,am (by simp),ap (by simp)]
theorem X3{p r:List UInt8}{c:UInt8}:(p++c::r).drop (p.length+1)=r:=by
 rw[show p.length+1=(p++[c]).length by simp,show p++c::r=(p++[c])++r by simp,List.drop_left]
theorem Rl(c:UInt8):∀(qs:List (List UInt8))(p:List UInt8),(∀q∈p::qs,c∉q)→Go.Lib.splitK [c] 0 (Go.Lib.count (Dc c p qs) [c]) (Dc c p qs)=p::qs
 |[],p,h=>by
   have:=X2 c p (h p bl)
   show Go.Lib.splitK [c] 0 (Go.Lib.count p [c]) p=_
   rw[Go.Lib.count_miss this]
   rfl
 |q::qs,p,h=>by
   have hi:=Rk c [] p (Dc c q qs) (h p bl)
   have ih:=Rl c qs q (fun x hx=>h x (bu _ hx))
   show Go.Lib.splitK [c] 0 (Go.Lib.count (p++c::Dc c q qs) [c]) (p++c::Dc c q qs)=_
   rw[df]at hi
   rw[Go.Lib.count_hit (by simp) hi,du,X3,ji 1]
   unfold Go.Lib.splitK
   rw[hi,am (by simp),du,ip,f7,List.take_left,X3,ih]
theorem tE(c:UInt8)(t p r:List UInt8)(h:c∉p):Go.Lib.cut (p++c::(t++r)) (c::t)=(p,r,true):=by
 unfold Go.Lib.cut
 rw[Rk c t p r h,ap oQ,ip,List.take_left]
 congr 2
 rw[show p.length+(c::t).length=(p++c::t).length by simp,show p++c::(t++r)=(p++c::t)++r by simp,List.drop_left]
def uE(k:Nat):List UInt8:=if k<10 then[UInt8.ofNat (48+k)]else[UInt8.ofNat (48+k/10),UInt8.ofNat (48+k%10)]
theorem rF{n:Int}(h:0≤n∧n<100):∃k:Nat,k<100∧n=(k:Int)∧Dk n=uE k:=by
 refine⟨n.toNat,by omega,by omega,?_⟩
 unfold Dk uE
 split<;>rename_i hk
 · exact Go.Lib.decDigits_one hk
 exact Go.Lib.decDigits_two hk oQ
theorem tF:∀k,k<100→(∀b∈uE k,48≤b.toNat∧b.toNat≤57)∧uE k≠[]∧(uE k).length≤2∧Go.Lib.atoi (uE k)=some (k:Int):=by decide+kernel
theorem Ek{n:Int}(h:0≤n∧n<100):(∀b∈Dk n,48≤b.toNat∧b.toNat≤57)∧Dk n≠[]∧(Dk n).length≤2∧Go.Lib.atoi (Dk n)=some n:=by
 obtain⟨k,hk,rfl,e⟩:=rF h
 rw[e]
 exact tF k hk
theorem Nl{n:Int}(h:0≤n∧n<100)(c:UInt8)(hc:c.toNat<48):c∉Dk n:=fun hm=>by have:=(Ek h).1 c hm;omega
theorem Nn(c b:UInt8):∀(qs:List (List UInt8))(p:List UInt8),b∈Dc c p qs→b=c∨∃q∈p::qs,b∈q
 |[],p,h=>.inr ⟨p,bl,h⟩
 |q::qs,p,h=>by
   rcases bp.1 h with h|h
   · exact .inr ⟨p,bl,h⟩
   rcases bg.1 h with h|h
   · exact .inl h
   rcases Nn c b qs q h with h|⟨x,hx,hb⟩
   · exact .inl h
   exact .inr ⟨x,bu _ hx,hb⟩
def bs(l:List UInt8):ByteArray:=⟨l.toArray⟩
def tG(l:List UInt8):Array Value:=#[.string (bs l)]
theorem dE(l:List UInt8):(bs l).data.toList=l:=rfl
theorem dG(l:List UInt8):(bs l).toList=l:=by rw[ByteArray.toList_eq];rfl
theorem pI(b:ByteArray):bs b.data.toList=b:=rfl
theorem tH(a b:List UInt8):bs a++bs b=bs (a++b):=S7 a (bs b)
theorem Lf(l:List UInt8):(bs l).size=l.length:=by simp[bs,ByteArray.size]
def GM(w:World):Prop:=∃m:Int,w.cell? ⟨0,0,none⟩=some (vi m)
theorem GM.lt{w:World}(h:GM w):0<w.heap.size:=by
 obtain⟨m,h⟩:=h
 exact World.block_lt_of_cell? _ _ h
theorem GM.fr{X:Nat→Prop}{w w':World}(h:GM w)(u:Fr X w w')(hX:¬X 0):GM w':=by
 obtain⟨m,h1⟩:=h
 exact⟨m,(World.cell?_of_block (a:=⟨0,0,none⟩) (u.block 0 (GM.lt ⟨m,h1⟩) hX)).trans h1⟩
theorem GM.up{w w':World}(h:GM w)(u:Up w w'):GM w':=h.fr (u.fr no) (fun h=>h)
theorem X4(c:UInt8)(p:List UInt8)(qs:List (List UInt8))(h:∀q∈p::qs,c∉q):Go.Lib.splitB ⟨#[c]⟩ 0 (Go.Lib.countB (bs (Dc c p qs)) ⟨#[c]⟩) (bs (Dc c p qs))=(p::qs).map bs:=by
 have h1:=Go.Lib.splitB_data ⟨#[c]⟩ 0 (Go.Lib.countB (bs (Dc c p qs)) ⟨#[c]⟩) (bs (Dc c p qs))
 rw[show(⟨#[c]⟩:ByteArray).data.toList=[c]from rfl,dE,show Go.Lib.countB (bs (Dc c p qs)) ⟨#[c]⟩=Go.Lib.count (Dc c p qs) [c]from rfl,Rl c qs p h]at h1
 have h2:∀l:List ByteArray,(l.map (·.data.toList)).map bs=l:=fun l=>by
   rw[fq]
   exact(ff fun b _=>pI b).trans (List.map_id _)
 have h3:=aq (List.map bs) h1
 rw[h2]at h3
 exact h3
def No(ps:List (List UInt8)):Array Value:=((ps.map bs).map Value.string).toArray
theorem F4{w:World}{B e:Nat}{ps:List (List UInt8)}(h:Blk w B (No ps) e):Els w (some ⟨B,0,none⟩) 1 tG ps:=fun i x hx=>by
 refine⟨B,0,rfl,fun j v hv=>?_⟩
 match j,hv with
 |0,hv=>
   cases(show Value.string (bs x)=v by simpa[tG]using hv)
   refine h.cell ?_
   simp[No,hx]
 |j+1,hv=>simp[tG]at hv
theorem Rm{a b:List UInt8}(h:a=b):((bs a).toList==(bs b).toList)=true:=by subst h;exact beq_self_eq_true _
theorem T6{a b:List UInt8}(h:a≠b):((bs a).toList==(bs b).toList)=false:=by
 rw[dG,dG]
 exact beq_false_of_ne h
section
variable {P:Program}{n:Nat}{ds:List Deferred}{l:Env}{w:World}{d:Option Tmp}{ty:TypeId}{ps:String}{af:Array Edge}{g:Option (Nat×Bool)}
theorem X5{T T':TypeId}{ms:Array (String×TypeId)}{x:Operand}(hT:P.underlying T=some (.interface ms))(hx:Val l x .nilIface):PEv P n ds l w ⟨d,.binOp .eql T x (.const .nilIface) T',ty,ps,af,g⟩ (.bool true):=fun a w' ha _=>by
 refine Ct ?_
 have e1:a.eval (.const .nilIface)=.nilIface:=rfl
 rw[ha.ev hx,e1,Sem.run_bind]
 have:(eqGuard .eql T x (.const .nilIface) .nilIface .nilIface).run P w'=.ok () w':=by unfold eqGuard;cases x<;>rfl
 rw[this]
 have h:∀d:Nat,(Op.equalIn (d+2) T .nilIface .nilIface).run P w'=.ok true w':=fun d=>by simp[Op.equalIn,run_underlying hT]
 simp only[binOp]
 simp[Op.equal,Op.maxDepth,h 9998]
theorem PEv.pJ{T T':TypeId}{ms:Array (String×TypeId)}{x:Operand}(hT:P.underlying T=some (.interface ms))(hx:Val l x .nilIface):PEv P n ds l w ⟨d,.binOp .neq T x (.const .nilIface) T',ty,ps,af,g⟩ (.bool false):=fun a w' ha _=>by
 refine Ct ?_
 have e1:a.eval (.const .nilIface)=.nilIface:=rfl
 rw[ha.ev hx,e1,Sem.run_bind]
 have:(eqGuard .neq T x (.const .nilIface) .nilIface .nilIface).run P w'=.ok () w':=by unfold eqGuard;cases x<;>rfl
 rw[this]
 have h:∀d:Nat,(Op.equalIn (d+2) T .nilIface .nilIface).run P w'=.ok true w':=fun d=>by simp[Op.equalIn,run_underlying hT]
 simp only[binOp]
 simp[Op.equal,Op.maxDepth,h 9998]
end
theorem Rn(c:UInt8):∀(qs:List (List UInt8))(p:List UInt8),(Dc c p qs).length=((p::qs).map fun q=>q.length+1).sum-1
 |[],p=>by simp[Dc]
 |q::qs,p=>by
   have ih:=Rn c qs q
   simp only[Dc,ah,ai,ih,co,List.sum_cons]
   omega
def Sm(n:Int):Prop:=0≤n∧n<100
theorem tI(l:List Int)(hl:l.length≤10)(hs:∀x∈l,Sm x):(Jd l).length≤1000000:=by
 have h:∀m:List Int,(∀x∈m,Sm x)→((m.map Dk).map fun q=>q.length+1).sum≤3*m.length:=by
   intro m
   induction m with
   |nil=>intro _;exact a8 _
   |cons x m ih=>
     intro hm
     have h1:=ih (fun y hy=>hm y (bu _ hy))
     have h2:=(Ek (hm x bl)).2.2.1
     simp only[co,List.sum_cons,ai]
     omega
 cases l with
 |nil=>decide
 |cons x m=>
   unfold Jd
   rw[Rn,←co]
   have:=h (x::m) hs
   omega
def Dw:List UInt8:=[115,116,101,112]
def O2:List UInt8:=[114,101,99,105,112,101]
def Iq:List UInt8:=[116,111,111,108,115]
def Kv:List UInt8:=[116,105,109,101]
def Kw:List UInt8:=[110,101,120,116]
def Mm:List UInt8:=[98,97,99,107]
def Ro:List UInt8:=[108,105,109,105,116]
def Ky:List UInt8:=[109,111,118,101]
def Ju(a b:Int):List UInt8:=Dk a++46::([46]++Dk b)
def Gy(k:Nat)(s:Sk):List (List UInt8):=Dk k::O2::Dk s.rc::Iq::Jd s.tl::Kv::Ju s.mn s.mx::Kw::Jd s.nx::(if 0≤s.bk then[Mm,Dk s.bk,Ro,Dk s.lm]else[])
def C3(k:Nat)(s:Sk):List UInt8:=Dc 32 Dw (Gy k s)
def F8:List UInt8:=Dc 32 Ky [Ju 2 5]
def Dr(L:List Sk):List UInt8:=Dc 10 F8 (L.mapIdx C3++[[]])
structure Sk.Sml(s:Sk):Prop where
 rc:Sm s.rc
 tl:∀x∈s.tl,Sm x
 tn:s.tl≠[]∧s.tl.length≤8
 mn:Sm s.mn
 mx:Sm s.mx
 nx:∀x∈s.nx,Sm x
 nn:s.nx.length≤4
 bk:s.bk= -1∧s.lm=0∨Sm s.bk∧Sm s.lm
theorem rG{l:List Int}(h:∀x∈l,Sm x)(c:UInt8)(hc:c.toNat<48)(h44:c≠44)(h45:c≠45):c∉Jd l:=by
 cases l with
 |nil=>intro hm;exact h45 (bh.1 hm)
 |cons x l=>
   intro hm
   unfold Jd at hm
   rcases Nn 44 c _ _ hm with e|⟨q,hq,hb⟩
   · exact h44 e
   rw[←co]at hq
   obtain⟨y,hy,rfl⟩:=bj.1 hq
   exact Nl (h y hy) c hc hb
theorem aS{a b:Int}(ha:Sm a)(hb:Sm b)(c:UInt8)(hc:c.toNat<48)(h46:c≠46):c∉Ju a b:=fun hm=>by
 unfold Ju at hm
 rcases bp.1 hm with h|h
 · exact Nl ha c hc h
 rcases bg.1 h with h|h
 · exact h46 h
 rcases bp.1 h with h|h
 · exact h46 (bh.1 h)
 exact Nl hb c hc h
theorem Vk{k:Nat}{s:Sk}(hk:k<100)(hs:s.Sml)(c:UInt8)(hc:c=32∨c=10):∀q∈Dw::Gy k s,c∉q:=by
 have h48:c.toNat<48:=by rcases hc with rfl|rfl<;>decide
 have h44:c≠44:=by rcases hc with rfl|rfl<;>decide
 have h45:c≠45:=by rcases hc with rfl|rfl<;>decide
 have h46:c≠46:=by rcases hc with rfl|rfl<;>decide
 have kw:∀q∈[Dw,O2,Iq,Kv,Kw,Mm,Ro],c∉q:=by rcases hc with rfl|rfl<;>decide
 intro q hq
 unfold Gy at hq
 simp only[bg]at hq
 rcases hq with rfl|rfl|rfl|rfl|rfl|rfl|rfl|rfl|rfl|rfl|hq
 · exact kw _ (by simp)
 · exact Nl ⟨gw k,by omega⟩ c h48
 · exact kw _ (by simp)
 · exact Nl hs.rc c h48
 · exact kw _ (by simp)
 · exact rG hs.tl c h48 h44 h45
 · exact kw _ (by simp)
 · exact aS hs.mn hs.mx c h48 h46
 · exact kw _ (by simp)
 · exact rG hs.nx c h48 h44 h45
 split at hq
 · rename_i h0
   obtain⟨h1,h2⟩:=hs.bk.resolve_left (fun h=>by omega)
   simp only[bg,c9,db]at hq
   rcases hq with rfl|rfl|rfl|rfl
   · exact kw _ (by simp)
   · exact Nl h1 c h48
   · exact kw _ (by simp)
   exact Nl h2 c h48
 cases hq
theorem lH{α:Type}(f:α→Nat)(m:Nat):∀l:List α,(∀x∈l,f x≤m)→(l.map f).sum≤m*l.length
 |[],_=>au _
 |x::l,h=>by
   have h1:=lH f m l (fun y hy=>h y (bu _ hy))
   have h2:=h x bl
   rw[co,List.sum_cons,ai,gg]
   omega
theorem join_le(c:UInt8)(p:List UInt8)(qs:List (List UInt8))(m:Nat)(h:∀q∈p::qs,q.length≤m):(Dc c p qs).length≤(m+1)*(qs.length+1):=by
 rw[Rn]
 have:=lH (fun q:List UInt8=>q.length+1) (m+1) (p::qs) (fun q hq=>by have:=h q hq;omega)
 rw[ai]at this
 omega
theorem X6{l:List Int}(h:∀x∈l,Sm x)(hl:l.length≤8):(Jd l).length≤50:=by
 cases l with
 |nil=>decide
 |cons x l=>
   have:=join_le 44 (Dk x) (l.map Dk) 2 (fun q hq=>by
     rw[←co]at hq
     obtain⟨y,hy,rfl⟩:=bj.1 hq
     exact(Ek (h y hy)).2.2.1)
   show(Dc 44 (Dk x) (l.map Dk)).length≤50
   rw[dm]at this
   rw[ai]at hl
   omega
theorem pK{k:Nat}{s:Sk}(hk:k<100)(hs:s.Sml):∀q∈Dw::Gy k s,q.length≤50:=by
 have dg:∀{x:Int},Sm x→(Dk x).length≤50:=fun hx=>by have:=(Ek hx).2.2.1;omega
 have kw:∀q∈[Dw,O2,Iq,Kv,Kw,Mm,Ro],q.length≤50:=by decide
 intro q hq
 unfold Gy at hq
 simp only[bg]at hq
 rcases hq with rfl|rfl|rfl|rfl|rfl|rfl|rfl|rfl|rfl|rfl|hq
 · exact kw _ (by simp)
 · exact dg ⟨gw k,by omega⟩
 · exact kw _ (by simp)
 · exact dg hs.rc
 · exact kw _ (by simp)
 · exact X6 hs.tl hs.tn.2
 · exact kw _ (by simp)
 · have h1:=(Ek hs.mn).2.2.1
   have h2:=(Ek hs.mx).2.2.1
   unfold Ju
   simp
   omega
 · exact kw _ (by simp)
 · exact X6 hs.nx (by have:=hs.nn;omega)
 split at hq
 · rename_i h0
   obtain⟨h1,h2⟩:=hs.bk.resolve_left (fun h=>by omega)
   simp only[bg,c9,db]at hq
   rcases hq with rfl|rfl|rfl|rfl
   · exact kw _ (by simp)
   · exact dg h1
   · exact kw _ (by simp)
   exact dg h2
 cases hq
theorem El(k:Nat)(s:Sk):(Gy k s).length=if 0≤s.bk then 13 else 9:=by unfold Gy;split<;>rfl
theorem lI(k:Nat)(s:Sk):(Dw::Gy k s).length=if 0≤s.bk then 14 else 10:=by rw[ai,El];split<;>rfl
theorem Rp{k:Nat}{s:Sk}(hk:k<100)(hs:s.Sml):(C3 k s).length≤714:=by
 have h:=join_le 32 Dw (Gy k s) 50 (pK hk hs)
 have h2:(Gy k s).length≤13:=by rw[El];split<;>omega
 have h3:51*((Gy k s).length+1)≤51*14:=fz _ oQ
 exact br h h3
theorem yR{l:List Int}(h:∀x∈l,Sm x)(hn:l≠[]):Jd l≠[45]:=by
 cases l with
 |nil=>exact absurd rfl hn
 |cons x l=>
   intro e
   obtain⟨h1,h2,_⟩:=Ek (h x bl)
   have hm:∀b∈Dk x,b∈Jd (x::l):=fun b hb=>by
     unfold Jd
     cases l with
     |nil=>exact hb
     |cons y l=>exact et _ hb
   obtain⟨b,hb⟩:=List.exists_mem_of_ne_nil _ h2
   have h3:=hm b hb
   rw[e]at h3
   have:=h1 b hb
   rw[bh.1 h3]at this
   exact absurd this.1 cQ
def tJ(fx ws:List (List UInt8)):Prop:=∀(i:Nat)(f:List UInt8),fx[i]?=some f→f=[]∨ws[i]?=some f
theorem CM(k:Nat)(s:Sk):tJ [Dw,Dk k,O2,[],Iq,[],Kv,[],Kw,[]] (Dw::Gy k s):=fun i f h=>
 match i,h with
 |0,h=>.inr h
 |1,h=>.inr h
 |2,h=>.inr h
 |3,h=>.inl (cr h).symm
 |4,h=>.inr h
 |5,h=>.inl (cr h).symm
 |6,h=>.inr h
 |7,h=>.inl (cr h).symm
 |8,h=>.inr h
 |9,h=>.inl (cr h).symm
 |_+10,h=>by cases h
theorem CN(k:Nat)(s:Sk)(h0:0≤s.bk):tJ [[],[],[],[],[],[],[],[],[],[],Mm,[],Ro,[]] (Dw::Gy k s):=fun i f h=>by
 unfold Gy
 rw[ap h0]
 exact match i,h with
 |0,h=>.inl (cr h).symm
 |1,h=>.inl (cr h).symm
 |2,h=>.inl (cr h).symm
 |3,h=>.inl (cr h).symm
 |4,h=>.inl (cr h).symm
 |5,h=>.inl (cr h).symm
 |6,h=>.inl (cr h).symm
 |7,h=>.inl (cr h).symm
 |8,h=>.inl (cr h).symm
 |9,h=>.inl (cr h).symm
 |10,h=>.inr h
 |11,h=>.inl (cr h).symm
 |12,h=>.inr h
 |13,h=>.inl (cr h).symm
 |_+14,h=>by cases h
def D8(v:Value):Array Value:=#[vi 2,vi 5,v,.slice none 0 0]
theorem gC{v:Value}(h:v.oneCell'=true):(D8 v).all (·.oneCell')=true:=by simp[D8,h,show ∀i:Int,(vi i).oneCell'=true from fun _=>rfl,show(Value.slice none 0 0).oneCell'=true from rfl]
theorem rH:(Ju 2 5).length≤6:=by
 have h1:=(Ek (n:=2) ⟨by decide,by decide⟩).2.2.1
 have h2:=(Ek (n:=5) ⟨by decide,by decide⟩).2.2.1
 unfold Ju
 simp
 omega
theorem OwnS.C8{α:Type}{enc:α→Array Value}{w w':World}{b k:Nat}{e T:TypeId}{v:Value}{xs:List α}(h:OwnS w b e k enc v xs)(hne:Nat.beq e T=false)(u:KeepT T w w'):OwnS w' b e k enc v xs:=by
 obtain⟨h1,h2⟩:=h
 refine⟨h1,?_⟩
 rcases h2 with h2|⟨g,cap,cur,rfl,hb,hg,rest⟩
 · exact .inl h2
 exact .inr ⟨g,cap,cur,rfl,hb,u.obj g _ hg (fun _ _ e'=>by cases e';simp at hne),rest⟩
theorem Sep.CO{S0:Nat→Prop}{w0 w w':World}{As:List Asr}{A B:Asr}(h:Sep S0 w0 w As)(u:Up w w')(h1:A.holds w')(h2:B.holds w')(n1:∀i,A.foot i→w.heap.size≤i)(n2:∀i,B.foot i→w.heap.size≤i)(hd:∀i,A.foot i→¬B.foot i):Sep S0 w0 w' (As++[A,B]):=by
 have h3:=h.add u (A':=Df [A,B]) ⟨fun C hC=>by simp at hC;rcases hC with rfl|rfl<;>assumption,by simpa using hd⟩ (fun i⟨C,hC,hi⟩=>by simp at hC;rcases hC with rfl|rfl<;>first|exact n1 i hi|exact n2 i hi)
 have h4:=Sep.unfold (Bs:=As) (As:=[A,B]) (rest:=[]) h3
 simpa using h4
theorem pL{α:Type}{enc:α→Array Value}{w:World}{b e k B:Nat}{v:Value}{xs:List α}{cs:Array Value}{T:TypeId}(h:OwnS w b e k enc v xs)(hb:Blk w B cs T)(hT:e≠T):v.ownBlock≠some B:=fun hv=>by
 obtain⟨h1,h2⟩:=h
 rcases h2 with h2|⟨g,cap,cur,rfl,hb2,hg,rest⟩
 · rw[h2.1]at hv;cases hv
 cases hv
 have:=hg.symm.trans hb
 cases this
 exact hT rfl
def Sk.v(s:Sk):Int×List Int×Int×Int×List Int×Int×Int:=(s.rc,s.tl,s.mn,s.mx,s.nx,s.bk,s.lm)
section
variable {P:Program}{n:Nat}{l:Env}{w:World}{fn:Func}{RR:Ending→World→Prop}
theorem gD{t u x:Tmp}{T:TypeId}{B k:Nat}{cs:Array Value}{y z:Value}(hr:fn.results=#[.cell t T,.tmp u,.tmp x])(hv:lk l t=some (.eq (.pointer (some ⟨B,0,none⟩))))(hu:lk l u=some (.eq y))(hx:lk l x=some (.eq z))(hT:∀w,(isAgg T).run P w=.ok true w)(hs:∀w,(sizeOf T).run P w=.ok k w)(hk:cs.size=k)(hc:AggAt w B 0 cs)
   (hR:RR (.returned (.tuple #[.agg cs,y,z])) w):KW n [] (bodyPost P fn RR .ret) l w:=fun a ha=>
 ⟨ha.defers,.tuple #[.agg cs,y,z],by
   have h1:a.tmps.getD t undef=.pointer (some ⟨B,0,none⟩):=ha.val _ _ hv
   have h2:a.tmps.getD u undef=y:=ha.val _ _ hu
   have h3:a.tmps.getD x undef=z:=ha.val _ _ hx
   rw[ar]at h1 h2 h3
   simp[results,hr,h1,h2,h3,asAddr,Fc hT hs hk hc],hR⟩
end
def gE:Array Value:=#[vi 0,vi 0,.slice none 0 0,.slice none 0 0]
def yS(k:Nat)(v:Value):Array Value:=if k=0 then gE else D8 v
def Pa(L:List Sk):List (List UInt8):=F8::(L.mapIdx C3++[[]])
theorem pM{L:List Sk}{k:Nat}{s:Sk}(h:L[k]?=some s):(Pa L)[k+1]?=some (C3 k s):=by
 have hk:=(ak.1 h).1
 unfold Pa
 rw[d9,da (by rw[jf];exact hk),i7,h]
 rfl
theorem lJ(L:List Sk):(Pa L)[L.length+1]?=some []:=by
 unfold Pa
 rw[d9,c8 (by rw[jf];exact a8 _),jf,Nat.sub_self]
 rfl
theorem Kz(L:List Sk):(Pa L).length=L.length+2:=by unfold Pa;simp
theorem Rq{L:List Sk}{q:List UInt8}(h:q∈Pa L):q=F8∨q=[]∨∃k s,L[k]?=some s∧q=C3 k s:=by
 unfold Pa at h
 rcases bg.1 h with h|h
 · exact .inl h
 rcases bp.1 h with h|h
 · obtain⟨k,hk,e⟩:=List.mem_mapIdx.1 h
   exact .inr (.inr ⟨k,_,cj hk,e.symm⟩)
 exact .inr (.inl (bh.1 h))
theorem tK:∀b∈F8,b≠10:=fun b hb e=>by
 subst e
 rcases Nn 32 10 _ _ hb with h|⟨q,hq,h⟩
 · cases h
 simp only[bg,c9,db]at hq
 rcases hq with rfl|rfl
 · exact absurd h cQ
 exact aS ⟨by decide,by decide⟩ ⟨by decide,by decide⟩ 10 cQ cQ h
theorem rI:F8.length≤714:=by
 have:=join_le 32 Ky [Ju 2 5] 6 (fun q hq=>by
   simp only[bg,c9,db]at hq
   rcases hq with rfl|rfl
   · decide
   exact rH)
 exact br this cQ
structure FlS(L:List Sk):Prop where
 sml:∀s∈L,s.Sml
 ok:∀s∈L,s.Ok L.length
 len:1≤L.length∧L.length≤40
theorem FlS.no{L:List Sk}(h:FlS L):∀q∈Pa L,(10:UInt8)∉q:=fun q hq hm=>by
 rcases Rq hq with rfl|rfl|⟨k,s,hs,rfl⟩
 · exact tK _ hm rfl
 · cases hm
 have hk:=(ak.1 hs).1
 have:=h.len
 rcases Nn 32 10 _ _ hm with e|⟨x,hx,hb⟩
 · cases e
 exact Vk oQ (h.sml s (ae hs)) 10 (.inr rfl) x hx hb
theorem FlS.le{L:List Sk}(h:FlS L):(Dr L).length≤30030:=by
 have h1:=join_le 10 F8 (L.mapIdx C3++[[]]) 714 (fun q hq=>by
   rcases Rq hq with rfl|rfl|⟨k,s,hs,rfl⟩
   · exact rI
   · decide
   have hk:=(ak.1 hs).1
   have:=h.len
   exact Rp oQ (h.sml s (ae hs)))
 have h2:(L.mapIdx C3++[[]]).length≤41:=by have:=h.len;simp;omega
 have h3:(714+1)*((L.mapIdx C3++[[]]).length+1)≤715*42:=fz _ oQ
 exact br h1 h3
theorem Sk.Ok.mono{s:Sk}{n m:Int}(h:s.Ok n)(hm:n≤m):s.Ok m:=
 ⟨h.rc,h.mn,h.bk.imp id (fun⟨h1,h2⟩=>⟨⟨h1.1,by omega⟩,h2⟩),h.tl,h.ta,h.nl,⟨fun x hx=>by have:=h.nx.r x hx;omega,h.nx.a⟩⟩
theorem Sk.Ok.same{s t:Sk}{n:Int}(h:s.Ok n)(e:t.v=s.v):t.Ok n:=by
 obtain⟨rc,tl,ta,tc,mn,mx,nx,na,nc,bk,lm⟩:=s
 obtain⟨rc',tl',ta',tc',mn',mx',nx',na',nc',bk',lm'⟩:=t
 cases e
 exact⟨h.rc,h.mn,h.bk,h.tl,h.ta,h.nl,h.nx⟩
def Same(L M:List Sk):Prop:=M.map Sk.v=L.map Sk.v
theorem Same.len{L M:List Sk}(h:Same L M):M.length=L.length:=by
 have:=aq List.length h
 rwa [dm,dm]at this
theorem Same.at_{L M:List Sk}(h:Same L M){t:Sk}{i:Nat}(ht:M[i]?=some t):∃s,L[i]?=some s∧t.v=s.v:=by
 have h1:=aq (fun l=>l[i]?) h
 simp only[eh,ht]at h1
 cases hs:L[i]? with
 |none=>rw[hs]at h1;cases h1
 |some s=>rw[hs]at h1;exact⟨s,rfl,by simpa using h1⟩
theorem Same.ok{L M:List Sk}(h:Same L M){n:Int}(hL:∀s∈L,s.Ok n):∀t∈M,t.Ok n:=fun t ht=>by
 obtain⟨i,hi⟩:=dr.1 ht
 obtain⟨s,hs,e⟩:=h.at_ hi
 exact(hL s (ae hs)).same e
theorem Same.snoc{L M:List Sk}{k:Nat}{s t:Sk}(h:Same (L.take k) M)(hs:L[k]?=some s)(e:t.v=s.v):Same (L.take (k+1)) (M++[t]):=by
 unfold Same at h⊢
 rw[cg,h,C5 hs,cg]
 simp[e]
theorem Vl{w:World}{sa:Option Addr}{sc T ti:Nat}{L M:List Sk}(hL:FlS L)(hM:Same L M)(h1:OwnS w 0 T 7 Sk.cells (.slice sa M.length sc) M)(h2:(Df (M.flatMap (Jr ti))).holds w):FlG w sa none M []:=
 ⟨by rw[hM.len];exact hL.len,Cm h1 (fun _=>rfl),by rw[hM.len];exact hM.ok hL.ok,fun s hs=>dC h2 hs,fun i x h=>by simp at h,au _,fun x hx=>by cases hx⟩
theorem tL(k:Nat)(s:Sk):Go.Lib.hasPrefix (C3 k s) Dw=true:=jr.2 ⟨_,rfl⟩
theorem lK{e:Nat}{S0:Nat→Prop}{w0 w:World}{As:List Asr}(h:Wx.Sep S0 w0 w As):Wx.Sep S0 w0 w (As++[Df (([]:List Sk).flatMap (Jr e))]):=h.add (Up.refl _) ⟨fun A h=>by simp at h,List.Pairwise.nil⟩ (fun i h=>by obtain⟨A,h,_⟩:=h;simp at h)
def FlB(b:Nat)(sa:Option Addr)(L:List Sk):Prop:=(∀B o,sa=some ⟨B,o,none⟩→b≤B)∧∀s∈L,(∀B o,s.ta=some ⟨B,o,none⟩→b≤B)∧∀B o,s.na=some ⟨B,o,none⟩→b≤B
structure FlK(b:Nat)(w:World)(sa:Option Addr)(L:List Sk):Prop where
 g:FlG w sa none L []
 b:FlB b sa L
theorem FlK.up{b:Nat}{w w':World}{sa:Option Addr}{L:List Sk}(h:FlK b w sa L)(u:Up w w'):FlK b w' sa L:=⟨h.g.up u,h.b⟩
theorem FlK.sto{b B:Nat}{w w':World}{sa:Option Addr}{L:List Sk}(h:FlK b w sa L)(k:Sto B w w')(hB:B<b):FlK b w' sa L:=
 ⟨⟨h.g.len,Els.fr h.g.E k.fr (fun C o e h1=>by have:=h.b.1 C o e;omega),h.g.g,fun s hs=>⟨Els.fr (h.g.p s hs).1 k.fr (fun C o e h1=>by have:=(h.b.2 s hs).1 C o e;omega),Els.fr (h.g.p s hs).2 k.fr (fun C o e h1=>by have:=(h.b.2 s hs).2 C o e;omega)⟩,fun i x h=>by simp at h,h.g.wl,h.g.wn⟩,h.b⟩
theorem FlB.of{w0 w:World}{As:List Asr}{k m T e sc:Nat}{sa:Option Addr}{L:List Sk}(h:Wx.Sep no w0 w As)(h1:As[k]?=some (Az T 7 Sk.cells (.slice sa L.length sc) L))(h2:As[m]?=some (Df (L.flatMap (Jr e)))):FlB w0.heap.size sa L:=
 ⟨fun B o e=>(h.foot k h1 B (by show Value.ownBlock _=_;rw[e];rfl)).resolve_left (fun h=>h),fun s hs=>⟨fun B o ee=>(h.foot m h2 B ⟨_,gn.2 ⟨s,hs,bl⟩,by show Value.ownBlock _=_;unfold Sk.tv;rw[ee];rfl⟩).resolve_left (fun h=>h),
   fun B o ee=>(h.foot m h2 B ⟨_,gn.2 ⟨s,hs,bu _ bl⟩,by show Value.ownBlock _=_;unfold Sk.nv;rw[ee];rfl⟩).resolve_left (fun h=>h)⟩⟩
section
variable {P:Program}{n:Nat}{ds:List Deferred}{l:Env}{w:World}{d:Option Tmp}{ty:TypeId}{ps:String}{af:Array Edge}{g:Option (Nat×Bool)}
theorem PEv.Fb{T T':TypeId}{x y:Operand}(a b:List UInt8)(hx:Val l x (.string (bs a)))(hy:Val l y (.string (bs b)))(h1:a.length≤1000000)(h2:b.length≤1000000):PEv P n ds l w ⟨d,.binOp .add T x y T',ty,ps,af,g⟩ (.string (bs (a++b))):=
 PEv.Ez (PEv.iX hx hy (by rw[Lf,Lf];omega)) (aq Value.string (tH a b))
end
theorem dH{y:Nat}(h:y<100):Go.Lib.decDigits y=(if y/10=0 then[]else Go.Lib.decDigits (y/10))++[UInt8.ofNat (48+y%10)]:=by
 by_cases h1:y<10
 · rw[Go.Lib.decDigits_one h1,ap oQ,gm h1]
   rfl
 rw[Go.Lib.decDigits_two h1 h,am oQ,Go.Lib.decDigits_one (by omega)]
 rfl
theorem DA:∀k:Nat,k<10→IntKind.u8.wrap (48+(k:Int))=((UInt8.ofNat (48+k)).toNat:Int):=by decide+kernel
structure DgI(x:Int)(y:Nat)(l:List UInt8):Prop where
 lt:y<100
 e:Dk x=if l=[]then Go.Lib.decDigits y else(if y=0 then[]else Go.Lib.decDigits y)++l
theorem DgI.next{x:Int}{y:Nat}{l:List UInt8}(h:DgI x y l)(hy:l=[]∨0<y):DgI x (y/10) (UInt8.ofNat (48+y%10)::l):=by
 refine⟨by have:=h.lt;omega,?_⟩
 rw[am (by simp),h.e]
 by_cases hl:l=[]
 · subst hl
   rw[ap rfl,dH h.lt]
 rw[am hl,am (by have:=hy.resolve_left hl;omega),dH h.lt,cx]
 rfl
theorem DgI.le{x:Int}{y:Nat}{l:List UInt8}(hx:Sm x)(h:DgI x y l):l.length≤2:=by
 by_cases hl:l=[]
 · subst hl;decide
 have h1:=(Ek hx).2.2.1
 rw[h.e,am hl,ah]at h1
 omega
def lL:List Int→List UInt8
 |[]=>[]
 |x::l=>Dc 44 (Dk x) (l.map Dk)
theorem T7(c:UInt8)(q:List UInt8):∀(qs:List (List UInt8))(p:List UInt8),Dc c p (qs++[q])=Dc c p qs++c::q
 |[],p=>rfl
 |r::qs,p=>by
   show p++c::Dc c r (qs++[q])=(p++c::Dc c r qs)++c::q
   rw[T7 c q qs r]
   simp
theorem X7{l:List Int}{k:Nat}{x:Int}(hx:l[k]?=some x):lL (l.take (k+1))=(if k=0 then lL (l.take k)else lL (l.take k)++[44])++Dk x:=by
 rw[C5 hx]
 cases k with
 |zero=>rfl
 |succ k=>
   cases l with
   |nil=>simp at hx
   |cons y l=>
     rw[am oQ,List.take_succ_cons]
     show Dc 44 (Dk y) ((l.take k++[x]).map Dk)=(Dc 44 (Dk y) ((l.take k).map Dk)++[44])++Dk x
     rw[cg,List.map_singleton,T7]
     simp
theorem tM{l:List Int}(h:∀x∈l,Sm x)(hl:l.length≤8):(lL l).length≤50:=by
 cases l with
 |nil=>decide
 |cons x l=>exact X6 h hl
theorem tN{l:List Int}(h:∀x∈l,Sm x)(hn:l≠[]):lL l≠[]∧lL l=Jd l:=by
 cases l with
 |nil=>exact absurd rfl hn
 |cons x l=>
   refine⟨fun e=>?_,rfl⟩
   have h1:=(Ek (h x bl)).2.1
   cases l with
   |nil=>exact h1 e
   |cons y l=>exact absurd (aq List.length e) (by simp[lL,Dc])
def gZ(L:List Sk)(k:Nat):List UInt8:=F8++[10]++((L.take k).mapIdx fun i s=>C3 i s++[10]).flatten
theorem lM{L:List Sk}{k:Nat}{s:Sk}(h:L[k]?=some s):gZ L (k+1)=gZ L k++C3 k s++[10]:=by
 have hk:=(ak.1 h).1
 unfold gZ
 rw[C5 h,List.mapIdx_append,i_,cb,c7 (by omega)]
 simp
theorem X8(c:UInt8):∀(qs:List (List UInt8))(p:List UInt8),Dc c p (qs++[[]])=p++[c]++(qs.map fun q=>q++[c]).flatten
 |[],p=>by simp[Dc]
 |q::qs,p=>by
   show p++c::Dc c q (qs++[[]])=_
   rw[X8 c qs q]
   simp
theorem dI(L:List Sk):gZ L L.length=Dr L:=by
 unfold gZ Dr
 rw[bt,X8,show(L.mapIdx C3).map (fun q=>q++[10])=L.mapIdx fun i s=>C3 i s++[10]from ce fun i=>by rw[eh,i7,i7];cases L[i]?<;>rfl]
theorem tO{L:List Sk}(h:FlS L)(k:Nat)(_:k≤L.length):(gZ L k).length≤30030:=by

 have h1:=h.le
 rw[←dI]at h1
 unfold gZ at h1⊢
 rw[bt]at h1
 have h2:(L.mapIdx fun i s=>C3 i s++[10]).flatten.length=((L.take k).mapIdx fun i s=>C3 i s++[10]).flatten.length+((L.drop k).mapIdx fun i s=>C3 (i+(L.take k).length) s++[10]).flatten.length:=by
   rw[←ah,←i_,←List.mapIdx_append,dl]
 simp only[ah,h2]at h1⊢
 omega
theorem Np(n:Int):Yu (IntKind.i64.wrap n):=by
 rw[IntKind.wrap_i64]
 unfold Yu
 omega
def yT(l:List Int):Prop:=∃a,0≤a∧a<6∧(l=[a]∨∃b,a<b∧b≤8∧l=[a,b])
def yU(n j:Nat)(l:List Int):Prop:=l=[]∨j+1<n∧(l=[(j:Int)+1]∨∃k,(j:Int)+1<k∧k<n∧l=[(j:Int)+1,k])
structure MkOk(n j:Nat)(s:Sk):Prop where
 rc:1≤s.rc∧s.rc≤5
 mn:1≤s.mn∧s.mn≤s.mx∧s.mx≤49
 tl:yT s.tl
 nx:yU n j s.nx
 bk:s.bk= -1∧s.lm=0∨(0≤s.bk∧s.bk≤j)∧1≤s.lm∧s.lm≤3
def MkS(n:Nat)(L:List Sk):Prop:=∀(j:Nat)(s:Sk),L[j]?=some s→MkOk n j s
theorem MkS.snoc{n:Nat}{L:List Sk}{s:Sk}(h:MkS n L)(hs:MkOk n L.length s):MkS n (L++[s]):=fun j t ht=>by
 by_cases hj:j<L.length
 · rw[da hj]at ht
   exact h j t ht
 have h1:=(ak.1 ht).1
 rw[ah,du]at h1
 have h2:j=L.length:=by omega
 subst h2
 rw[c8 (a8 _),Nat.sub_self]at ht
 cases ht
 exact hs
theorem X9{a b lo hi:Int}(h:lo≤a)(h1:a<b)(h2:b≤hi):AscR [a,b] lo hi:=
 ⟨fun x hx=>by simp only[bg,c9,db]at hx;omega,by simp[h1]⟩
theorem Ya{a lo hi:Int}(h:lo≤a)(h2:a≤hi):AscR [a] lo hi:=⟨fun x hx=>by rw[bh.1 hx];omega,fd _ _⟩
theorem MkOk.ok{n j:Nat}{s:Sk}(h:MkOk n j s)(hj:j<n):s.Ok n:=by
 obtain⟨a,h1,h2,h3⟩:=h.tl
 refine⟨by have:=h.rc;omega,by have:=h.mn;omega,h.bk.imp id (fun h=>by omega),?_,?_,?_,?_⟩
 · rcases h3 with e|⟨b,_,_,e⟩<;>rw[e]<;>exact⟨by simp,by simp⟩
 · rcases h3 with e|⟨b,h4,h5,e⟩<;>rw[e]
   · exact Ya h1 oQ
   exact X9 h1 h4 oQ
 · rcases h.nx with e|⟨_,e|⟨k,_,_,e⟩⟩<;>rw[e]<;>simp
 rcases h.nx with e|⟨h4,e|⟨k,h5,h6,e⟩⟩<;>rw[e]
 · exact⟨fun x hx=>(by cases hx),List.Pairwise.nil⟩
 · exact Ya oQ oQ
 exact X9 oQ h5 oQ
theorem MkOk.sml{n j:Nat}{s:Sk}(h:MkOk n j s)(hj:j<n)(hn:n≤8):s.Sml:=by
 obtain⟨a,h1,h2,h3⟩:=h.tl
 have hr:=h.rc
 have hm:=h.mn
 refine⟨⟨by omega,by omega⟩,fun x hx=>?_,?_,⟨by omega,by omega⟩,⟨by omega,by omega⟩,fun x hx=>?_,?_,h.bk.imp id (fun h=>⟨⟨by omega,by omega⟩,⟨by omega,by omega⟩⟩)⟩
 · rcases h3 with e|⟨b,h4,h5,e⟩<;>rw[e]at hx<;>simp only[bg,c9,db]at hx<;>exact⟨by omega,by omega⟩
 · rcases h3 with e|⟨b,_,_,e⟩<;>rw[e]<;>exact⟨by simp,by simp⟩
 · rcases h.nx with e|⟨h4,e|⟨k,h5,h6,e⟩⟩<;>rw[e]at hx<;>simp only[bg,c9,db]at hx
   · exact⟨by omega,by omega⟩
   exact⟨by omega,by omega⟩
 rcases h.nx with e|⟨_,e|⟨k,_,_,e⟩⟩<;>rw[e]<;>simp
theorem MkS.yV{L:List Sk}(h:MkS L.length L)(hl:1≤L.length∧L.length≤8):FlS L:=
 ⟨fun s hs=>by obtain⟨i,hi⟩:=dr.1 hs;exact(h i s hi).sml (ak.1 hi).1 hl.2,
  fun s hs=>by obtain⟨i,hi⟩:=dr.1 hs;exact(h i s hi).ok (ak.1 hi).1,⟨hl.1,by omega⟩⟩
theorem MkS.CP{L:List Sk}(h:MkS L.length L)(hl:1≤L.length∧L.length≤8):Fwd L:=
 ⟨fun i s hs=>by have:=(h i s hs).bk;omega,fun i s hs x hx=>by
   rcases(h i s hs).nx with e|⟨h4,e|⟨k,h5,h6,e⟩⟩<;>rw[e]at hx<;>simp only[bg,c9,db]at hx<;>omega,
  fun s hs=>by
   obtain⟨i,hi⟩:=dr.1 hs
   rcases(h i s hi).nx with e|⟨_,e|⟨k,_,_,e⟩⟩<;>rw[e]<;>simp,⟨hl.1,by omega⟩⟩
theorem uF:Yu 0:=⟨by decide,by decide⟩
theorem i60:Yy ⟨0,0,0,0,0,0⟩:=⟨uF,uF,uF,uF,uF,uF⟩
section
variable {P:Program}{n:Nat}{l:Env}{w:World}{fn:Func}{RR:Ending→World→Prop}
theorem lN{t u:Tmp}{T:TypeId}{B k:Nat}{cs:Array Value}{x:Value}(hr:fn.results=#[.tmp u,.cell t T])(hv:lk l t=some (.eq (.pointer (some ⟨B,0,none⟩))))(hu:lk l u=some (.eq x))(hT:∀w,(isAgg T).run P w=.ok true w)(hs:∀w,(sizeOf T).run P w=.ok k w)(hk:cs.size=k)(hc:AggAt w B 0 cs)
   (hR:RR (.returned (.tuple #[x,.agg cs])) w):KW n [] (bodyPost P fn RR .ret) l w:=fun a ha=>
 ⟨ha.defers,.tuple #[x,.agg cs],by
   have h1:a.tmps.getD t undef=.pointer (some ⟨B,0,none⟩):=ha.val _ _ hv
   have h2:a.tmps.getD u undef=x:=ha.val _ _ hu
   rw[ar]at h1 h2
   simp[results,hr,h1,h2,asAddr,Fc hT hs hk hc],hR⟩
end
def Vm(t:ByteArray):Fact:={ Lv with Kind:=5,Version:=1,Product:=1,Text:=t }
def Js(k:Nat):Fact:={ Lv with Kind:=4,Version:=1,Wafer:=k,Lot:=1+((k/3:Nat):Int),Product:=1 }
def Nq(m:Nat):Fact:={ Lv with Kind:=6,ID:=((m:Nat):Int)+1,Version:=1,Until:=1000000,Tool:=((m/10:Nat):Int),Chamber:=((m/5%2:Nat):Int),Recipe:=((m%5+1:Nat):Int),Revision:=1 }
def T8(k:Nat):List Fact:=((List.range k).drop 1).map Js
def Sx(t:ByteArray)(k:Nat):List Fact:=Vm t::T8 k
def Pb(t:ByteArray)(m:Nat):List Fact:=Sx t 4++(List.range m).map Nq
def lO(t:ByteArray):List Fact:=Pb t 120
theorem aT{k:Nat}(h:1≤k):T8 (k+1)=T8 k++[Js k]:=by
 unfold T8
 rw[ii,List.drop_append_of_le_length (by rw[jk];exact h),cg]
 rfl
theorem gF(t:ByteArray)(m:Nat):Pb t (m+1)=Pb t m++[Nq m]:=by
 unfold Pb
 rw[ii,cg,cx]
 rfl
theorem Yb(t:ByteArray)(k:Nat):(Sx t k).length=1+(k-1):=by simp[Sx,T8];omega
theorem Yc(t:ByteArray)(m:Nat):(Pb t m).length=4+m:=by rw[Pb,ah,Yb];simp
theorem gG(t:ByteArray){k:Nat}(h:1≤k):Sx t (k+1)=Sx t k++[Js k]:=by rw[Sx,aT h];rfl
theorem gH(t:ByteArray):Sx t 4=Pb t 0:=(dv _).symm
theorem CQ{k:Nat}(h:k≤3):IntKind.i64.wrap (Int.tdiv (k:Int) 3)=((k/3:Nat):Int):=by
 rcases(by omega:k=0∨k=1∨k=2∨k=3)with rfl|rfl|rfl|rfl<;>rfl
theorem Nr{α:Type}{w w':World}{ad:Option Addr}{k:Nat}{enc:α→Array Value}{l:List α}(h:Els w ad k enc l)(hk:∀i,(l≠[]∧∃o,ad=some ⟨i,o,none⟩)→i<w.heap.size→w'.heap[i]?=w.heap[i]?):Els w' ad k enc l:=fun i x hx=>by
 obtain⟨B,o,e,hc⟩:=h i x hx
 exact⟨B,o,e,fun j v hv=>(World.cell?_of_block (a:=⟨B,o+i*k+j,none⟩) (hk B ⟨fun e'=>(by rw[e']at hx;cases hx),o,e⟩ (World.block_lt_of_cell? _ _ (hc j v hv)))).trans (hc j v hv)⟩
theorem Pw{α:Type}{w:World}{ad:Option Addr}{k:Nat}{enc:α→Array Value}{l:List α}(h:Els w ad k enc l)(hp:∀x,∃v,(enc x)[0]?=some v){i:Nat}(hi:l≠[]∧∃o,ad=some ⟨i,o,none⟩):i<w.heap.size:=by
 obtain⟨hl,o,e⟩:=hi
 cases l with
 |nil=>exact absurd rfl hl
 |cons x r=>
   obtain⟨B,o',e',hc⟩:=h 0 x rfl
   obtain⟨v,hv⟩:=hp x
   cases e.symm.trans e'
   exact World.block_lt_of_cell? _ _ (hc 0 v hv)
def pN(sa:Option Addr)(L:List Sk):Asr where
 foot:=fun i=>(L≠[]∧∃o,sa=some ⟨i,o,none⟩)∨∃s∈L,(s.tl≠[]∧∃o,s.ta=some ⟨i,o,none⟩)∨(s.nx≠[]∧∃o,s.na=some ⟨i,o,none⟩)
 holds:=fun w=>FlG w sa none L []
 keep w w' h k _:=⟨h.len,Nr h.E (fun i hi=>k i (.inl hi)),h.g,fun s hs=>⟨Nr (h.p s hs).1 (fun i hi=>k i (.inr ⟨s,hs,.inl hi⟩)),Nr (h.p s hs).2 (fun i hi=>k i (.inr ⟨s,hs,.inr hi⟩))⟩,fun i x h=>by simp at h,h.wl,h.wn⟩
 lt w h i:=fun hi=>by
   rcases hi with hi|⟨s,hs,hi|hi⟩
   · exact Pw h.E (fun x=>⟨_,rfl⟩) hi
   · exact Pw (h.p s hs).1 (fun x=>⟨_,rfl⟩) hi
   exact Pw (h.p s hs).2 (fun x=>⟨_,rfl⟩) hi
theorem pO{b:Nat}{sa:Option Addr}{L:List Sk}(h:FlB b sa L)(i:Nat)(hi:(pN sa L).foot i):b≤i:=by
 rcases hi with⟨_,o,e⟩|⟨s,hs,⟨_,o,e⟩|⟨_,o,e⟩⟩
 · exact h.1 i o e
 · exact(h.2 s hs).1 i o e
 exact(h.2 s hs).2 i o e
def CR:Array Value:=#[vi 0,vi 0,.slice none 0 0,.slice none 0 0,.bool false,.slice none 0 0]
def gI(av:Option Addr)(n cv:Nat):Array Value:=#[vi 2,vi 5,.slice av n cv,.slice none 0 0,.bool true,.slice none 0 0]
theorem pP(av:Option Addr)(n cv:Nat):(gI av n cv).all (·.oneCell')=true:=by simp[gI,Value.oneCell']
theorem pQ:CR.all (·.oneCell')=true:=by simp[CR,Value.oneCell']
def Yd(b:Base)(p:Int):Option Fact:=b.Flows.find? fun f=>decide (f.Product=p)
theorem Same.CP{L M:List Sk}(h:Same L M)(hF:Fwd L):Fwd M:=
 ⟨fun i t ht=>by obtain⟨s,hs,e⟩:=h.at_ ht;rw[show t.bk=s.bk from aq (fun v=>v.2.2.2.2.2.1) e];exact hF.b i s hs,
  fun i t ht x hx=>by obtain⟨s,hs,e⟩:=h.at_ ht;rw[show t.nx=s.nx from aq (fun v=>v.2.2.2.2.1) e]at hx;rw[h.len];exact hF.n i s hs x hx,
  fun t ht=>by obtain⟨i,hi⟩:=dr.1 ht;obtain⟨s,hs,e⟩:=h.at_ hi;rw[show t.nx=s.nx from aq (fun v=>v.2.2.2.2.1) e];exact hF.l s (ae hs),by rw[h.len];exact hF.len⟩
theorem lP{l:List Int}{k:Nat}{n x:Int}(h:n∉l.take k)(hx:l[k]?=some x)(e:¬n=x):n∉l.take (k+1):=by
 rw[C5 hx]
 exact fun hm=>(bp.1 hm).elim h (fun hm=>e (bh.1 hm))
structure Rsn where
 num:Int
 fn:Nat
 lb:Array Value
 yes:Bool
def Rsn.cells(r:Rsn):Array Value:=#[vi r.num,.func (.func r.fn) #[] r.lb]
theorem Rsn.one(r:Rsn):r.cells.all (·.oneCell')=true:=by simp[Rsn.cells,Value.oneCell']
abbrev tP(rs:List Rsn):Type:={r:Rsn//r∈rs∧r.yes=true}
structure Kep(G:World→Prop)(w:World):Prop where
 g:G w
 u:∀W W',G W→Up W W'→G W'
theorem Kep.up{G:World→Prop}{w w':World}(h:Kep G w)(u:Up w w'):Kep G w':=⟨h.u _ _ h.g u,h.u⟩
theorem FlK.mono{b b':Nat}{w:World}{sa:Option Addr}{L:List Sk}(h:FlK b w sa L)(hb:b'≤b):FlK b' w sa L:=
 ⟨h.g,fun B o e=>br hb (h.b.1 B o e),fun s hs=>⟨fun B o e=>br hb ((h.b.2 s hs).1 B o e),fun B o e=>br hb ((h.b.2 s hs).2 B o e)⟩⟩
def DO(av:Option Addr)(n cv:Nat):Array Value:=#[vi 2,vi 5,.slice av n cv,.slice none 0 0,.bool false,.slice none 0 0]
def rJ(ad:Option Addr)(l:List Int):Asr where
 foot:=fun i=>l≠[]∧∃o,ad=some ⟨i,o,none⟩
 holds:=fun w=>Els w ad 1 A6 l
 keep _ _ h k _:=Nr h k
 lt _ h _:=Pw h (fun _=>⟨_,rfl⟩)
def Vn(Bk Ba Bo Bs Bb:Nat)(p:Bool):List Rsn:=[⟨1,141,#[.pointer (some ⟨Bk,0,none⟩)],false⟩,⟨2,142,#[.pointer (some ⟨Bk,0,none⟩),.pointer (some ⟨Ba,0,none⟩)],false⟩,⟨4,145,#[.pointer (some ⟨Bo,0,none⟩),.pointer (some ⟨Bs,0,none⟩),.pointer (some ⟨Ba,0,none⟩)],false⟩,⟨8,146,#[.pointer (some ⟨Bo,0,none⟩),.pointer (some ⟨Bs,0,none⟩),.pointer (some ⟨Ba,0,none⟩)],false⟩,⟨16,147,#[.pointer (some ⟨Bb,0,none⟩),.pointer (some ⟨Ba,0,none⟩)],false⟩,⟨32,149,#[.pointer (some ⟨Bb,0,none⟩),.pointer (some ⟨Ba,0,none⟩)],p⟩]
end Go.Wx
namespace Go.Proofs.YtnocngnlpgikaaaGreatDoor
open Go.Proofs.Tryz
open Go.Wx Go.RowKit
theorem Oi(c:UInt8)(p:List UInt8)(qs:List (List UInt8))(w:World)(hG:GM w)(hc:∀q∈p::qs,c∉q)(hl:(Dc c p qs).length≤1000000):Ret prog 193 #[.string (bs (Dc c p qs)),.string ⟨#[c]⟩] w fun r w'=>∃B,r=.slice (some ⟨B,0,none⟩) (p::qs).length (p::qs).length∧Blk w' B (No (p::qs)) 9∧w.heap.size≤B∧Up w w':=by
 obtain⟨m,hm⟩:=hG
 have h1:1≤(⟨#[c]⟩:ByteArray).size:=a8 _
 refine Calls.mono (Tryz.strings_Split (bs (Dc c p qs)) ⟨#[c]⟩ m w (by rw[Lf];omega) hm h1) ?_
 rintro e w' ⟨rfl,rfl⟩
 have h2:=Go.Lib.splitB_all (⟨#[c]⟩:ByteArray) h1 0 _ (bs (Dc c p qs)) rfl
 rw[X4 c p qs hc]at h2⊢
 rw[dm]at h2
 rw[←h2]
 exact⟨_,rfl,_,rfl,Nu w _ 9,a8 _,Up.alloc _ _⟩
theorem Ye(x:Int)(hx:Sm x)(w:World):Ret prog 261 #[vi x] w fun r w'=>r=.string (bs (Dk x))∧Up w w':=by
 obtain⟨k,hk,rfl,_⟩:=rF hx
 refine Calls.mono (Tryz.strconv_Itoa_small k hk w) ?_
 rintro e w' ⟨rfl,rfl⟩
 exact⟨_,rfl,rfl,Up.refl _⟩
theorem lQ(x:Int)(hx:Sm x)(w:World):Ret prog 273 #[.string (bs (Dk x))] w fun r w'=>r=.tuple #[vi x,.nilIface]∧Up w w':=by
 have h:=Ek hx
 refine Calls.mono (Tryz.strconv_Atoi (bs (Dk x)) x (by rw[Lf];omega) h.2.2.2 w) ?_
 rintro e w' ⟨rfl,t,rfl⟩
 exact⟨_,rfl,rfl,Go.Lib.bytesWorld_below w _ _⟩
theorem pR(a b:List UInt8)(ha:46∉a)(hl:a.length+b.length≤1000)(w:World)(hG:GM w):Ret prog 271 #[.string (bs (a++46::([46]++b))),.string ⟨#[46,46]⟩] w fun r w'=>r=.tuple #[.string (bs a),.string (bs b),.bool true]∧Up w w':=by
 obtain⟨m,hm⟩:=hG
 refine Calls.mono (Tryz.strings_Cut (bs (a++46::([46]++b))) ⟨#[46,46]⟩ m w (by rw[Lf];simp;omega) hm) ?_
 rintro e w' ⟨rfl,k,rfl⟩
 rw[dE,show(⟨#[46,46]⟩:ByteArray).data.toList=46::[46]from rfl,tE 46 [46] a b ha]
 exact⟨_,rfl,rfl,⟨rfl,rfl,rfl,a8 _,fun _ _=>rfl⟩⟩
theorem Gz(w:World):Ret prog 259 #[.bool true] w fun _ w'=>Up w w':=by
 have hW:=Up.refl w
 refine cT 6 func259 rfl ?_
 refine Ae (I rfl ?_)
 refine U (.fa (PEv.n1 rfl) (rfl)) ?_
 refine Af ?_
 refine CW.f rfl ?_
 refine Ai ?_
 refine C1 rfl ⟨_,rfl,?_⟩
 exact hW
theorem Jb(x:Int)(hx:Sm x)(w:World):Ret prog 262 #[.string (bs (Dk x))] w fun r w'=>r=vi x∧Up w w':=by
 have hW:=Up.refl w
 refine cT 28 func262 rfl ?_
 refine Ae (Ay (Am (Aa (I rfl ?_))))
 refine A3 (eC (.o rfl) (xX)) rfl (lQ x hx _) ?_
 rintro _ w1 ⟨rfl,uw1⟩
 have zw1:=uw1.size
 replace hW:=hW.up uw1
 refine I rfl (U (.xt rfl rfl) (U (.xt rfl rfl) (LW.A rfl (LW.A rfl (Am (Aa (I rfl ?_)))))))
 refine U (.tr (X5 underlying188 (.t rfl)) (rfl)) ?_
 refine I rfl ?_
 refine Ap ?_
 refine I rfl ?_
 refine Ap ?_
 refine U (.tr (PEv.geq (.t rfl) (.const _)) (be (by have:=hx.1;omega))) ?_
 refine U (.pa rfl (fun hp=>wQ)) ?_
 refine I rfl ?_
 refine Ap ?_
 refine I rfl ?_
 refine Ap ?_
 refine U (.tr (PEv.leq (.t rfl) (.const _)) (be (by have:=hx.2;omega))) ?_
 refine U (.pa rfl (fun hp=>wQ)) ?_
 refine I rfl ?_
 refine Ap ?_
 refine I rfl ?_
 refine Ap ?_
 refine A3 (eC (.o rfl) (qW)) rfl (Ye (x) hx _) ?_
 rintro _ w2 ⟨rfl,uw2⟩
 have zw2:=uw2.size
 replace hW:=hW.up uw2
 refine Ap ?_
 refine I rfl ?_
 refine Ap ?_
 refine U (.tr (Dv (.t rfl) (.t rfl)) (Rm rfl)) ?_
 refine U (.pa rfl (fun hp=>wQ)) ?_
 refine A3 (eC (.o rfl) (Mw)) rfl (Gz _) ?_
 rintro _ w3 uw3
 have zw3:=uw3.size
 replace hW:=hW.up uw3
 refine Am (Aa (I rfl (LW.A rfl (Af (Al ?_)))))
 refine KW.q ?_
 exact⟨rfl,hW⟩
theorem T9(l:List Int)(hne:l≠[])(hl:l.length≤10)(hs:∀x∈l,Sm x)(w:World)(hG:GM w):Ret prog 263 #[.string (bs (Jd l))] w fun r w'=>OwnS w' w.heap.size 3 1 A6 r l∧Up w w':=by
 obtain⟨w0,rfl,hS⟩:=W0 w
 refine cT 20 func263 rfl ?_
 refine Ae (Ay (Am (Aa (Ay (Am (Ak ?_))))))
 obtain⟨x0,l0,rfl⟩:∃x m,l=x::m:=by cases l with|nil=>exact absurd rfl hne|cons x m=>exact⟨x,m,rfl⟩
 replace hS:=hS.M2 (OwnS.nil _ 0 3 1 A6)
 change Wx.Sep _ _ _ [_]at hS
 refine Aa (I rfl ?_)
 refine A3 (eC (.ct rfl (.cons (.const _) .nil)) (iL)) rfl (Oi 44 (Dk x0) (l0.map Dk) _ (hG.up hS.Cl) (fun q hq=>by rw[←co]at hq;obtain⟨x,hx,rfl⟩:=bj.1 hq;exact Nl (hs x hx) 44 cQ) (tI (x0::l0) hl hs)) ?_
 rintro _ w1 ⟨Bp,rfl,hK7,zK7,uw1⟩
 have zw1:=uw1.size
 replace hS:=hS.add uw1 (A':=A4 Bp (No ((x0::l0).map Dk)) 9) (hK7) (fun i h=>by cases h;exact zK7)
 change Wx.Sep _ _ _ [_,_]at hS
 clear hK7
 rw[←co,dm]
 obtain⟨l,el⟩:∃l,l=x0::l0:=⟨_,rfl⟩
 rw[←el]at hS hl hs⊢
 clear el
 refine U (.Cn j1 (.t rfl)) ?_
 refine U (.move (.const _)) ?_
 refine Af (Ah ?_)
 refine A5 (σ:=Nat×Go.Value) (fun s w=>(s.1≤l.length)∧(Wx.Sep no w0 w [Az 3 1 A6 s.2 (l.take s.1),A4 Bp (No (l.map Dk)) 9])) (fun s=>[(9,.eq (vi (s.1:Int))),(3,.eq (s.2))]) ([(2,.eq _),(7,.eq _),(8,.eq _)]) (fun s=>l.length-s.1) (0,.slice none 0 0) ?_ tQ ?_
 ·exact⟨au _,hS⟩
 rintro⟨k,v⟩ w2 ⟨hk,hS⟩
 dsimp only at hk hS
 change Wx.Sep _ _ _ [_,_]at hS
 change CW _ _ _ _ _ _ _ ([(9,.eq (vi (k:Int))),(3,.eq (v))]++_) _
 refine Ae ?_
 refine U (.l2 rfl rfl) ?_
 refine Am ?_
 refine CW.b rfl (fun h10=>?_) (fun h10=>?_)
 ·replace h10:=dQ h10
  refine Ai (Ac (Ak (Ah (Ak ?_))))
  have hkl:k<l.length:=cz.1 h10
  obtain⟨x,hx⟩:=An (xs:=l) (i:=k) hkl
  obtain⟨Bz,oz,az,hcz⟩:=F4 hS.b1 k (Dk x) (by rw[eh,hx];rfl)
  cases az
  refine Aa ?_
  refine U (.Ar j1 kt (.t rfl) (.t rfl) oQ rfl) ?_
  refine U (.lb rfl (hcz.nth (j:=0) rfl)) ?_
  refine LW.A rfl (Af (Aa (I rfl (I rfl ?_))))
  refine A3 (eC (.o rfl) (Sy)) rfl (Jb (x) (hs x (ae hx)) _) ?_
  rintro _ w3 ⟨rfl,uw3⟩
  have zw3:=uw3.size
  replace hS:=hS.up uw3
  refine Aq (.buildSlice (xs:=[x]) (enc:=A6) (mk:=vi) ju jw j2 rfl cQ (fun _=>rfl) (fun _=>rfl) (.cu rfl) rfl) rfl ?_
  rintro _ w4 ⟨B16,cB16,rfl,NB16,yB16,xB16⟩
  have eB16:=NB16.at_
  have zB16:=NB16.size
  replace hS:=hS.up NB16.up
  have hE16:=xB16
  refine Aq (.D7 (enc:=A6) (bytes:=8) (i:=Tryz.t3) ju kQ rfl rfl rfl rfl cQ (fun _=>rfl) Fq (.t rfl) (.t rfl) (hS.own 0 rfl) (Aw hE16) (by simp[maxLen];omega) (by simp;omega)) rfl ?_
  intro v17 w5 Gw5
  have zw5:=Gw5.fr.size
  replace hS:=hS.F9 0 rfl Gw5
  change Wx.Sep _ _ _ [_,_]at hS
  refine LW.A rfl (LW.nil (Aj (Ac (Aa ?_))))
  refine U (.ic rfl oQ) ?_
  refine I rfl (LW.nil (Av ?_))
  exact⟨(k+1,v17),⟨by show k+1≤_;omega,by rw[C5 hx];exact hS⟩,tQ,by show l.length-(k+1)<l.length-k;omega⟩
 replace h10:=dQ h10
 refine A8 (Ab (Ab (Ao (Ac (Ae (I rfl (LW.A rfl (Af (Al ?_)))))))))
 refine KW.q ?_
 have hkl:k=l.length:=by have:¬k<l.length:=fun h=>h10 (cz.2 h);omega
 subst hkl
 rw[bt]at hS
 exact⟨(hS.own 0 rfl).Jk (fun i h=>(hS.foot 0 rfl i h).resolve_left (fun h=>h)),hS.Cl⟩
theorem Ua(a b:Int)(ha:Sm a)(hb:Sm b)(w:World)(hG:GM w):Ret prog 260 #[.string (bs (Ju a b))] w fun r w'=>r=.tuple #[vi a,vi b]∧Up w w':=by
 have hW:=Up.refl w
 refine cT 19 func260 rfl ?_
 refine Ae (Ay (Ay (Am (Aa (I rfl ?_)))))
 refine A3 (eC (.ct rfl (.cons (.const _) .nil)) (xW)) rfl (pR (Dk a) (Dk b) (Nl ha 46 cQ) (by have:=(Ek ha).2.2.1;have:=(Ek hb).2.2.1;omega) _ hG) ?_
 rintro _ w1 ⟨rfl,uw1⟩
 have zw1:=uw1.size
 replace hW:=hW.up uw1
 refine I rfl (U (.xt rfl rfl) (U (.xt rfl rfl) (U (.xt rfl rfl) (LW.A rfl (LW.A rfl (LW.A rfl (Am (Aa (I rfl ?_)))))))))
 refine A3 (eC (.o rfl) (Mw)) rfl (Gz _) ?_
 rintro _ w2 uw2
 have zw2:=uw2.size
 replace hW:=hW.up uw2
 refine Am (Aa (I rfl ?_))
 refine A3 (eC (.o rfl) (Sy)) rfl (Jb a ha _) ?_
 rintro _ w3 ⟨rfl,uw3⟩
 have zw3:=uw3.size
 replace hW:=hW.up uw3
 refine I rfl ?_
 refine A3 (eC (.o rfl) (Sy)) rfl (Jb b hb _) ?_
 rintro _ w4 ⟨rfl,uw4⟩
 have zw4:=uw4.size
 replace hW:=hW.up uw4
 refine LW.A rfl (LW.A rfl (Af (Al ?_)))
 refine Fy rfl rfl rfl ⟨_,rfl,?_⟩
 exact⟨rfl,hW⟩
theorem Oj(p:List UInt8)(qs:List (List UInt8))(adf:Option Addr)(cpf:Nat)(fx:List (List UInt8))(hc:∀q∈p::qs,32∉q)(hl:(Dc 32 p qs).length≤1000000)(hfl:fx.length≤(p::qs).length)(hfx:tJ fx (p::qs))(hq:(p::qs).length≤1000)(w:World)(hG:GM w)(hE:Els w adf 1 tG fx):Ret prog 258 #[.string (bs (Dc 32 p qs)),.slice adf fx.length cpf] w fun r w'=>∃B,r=.slice (some ⟨B,0,none⟩) (p::qs).length (p::qs).length∧Blk w' B (No (p::qs)) 9∧w.heap.size≤B∧Up w w':=by
 obtain⟨w0,rfl,hS⟩:=W0 w
 refine cT 36 func258 rfl ?_
 refine Ae (Ay (Am (Aa (I rfl ?_))))
 refine A3 (eC (.ct rfl (.cons (.const _) .nil)) (iL)) rfl (Oi 32 p qs _ (hG.up hS.Cl) hc hl) ?_
 rintro _ w1 ⟨Bp,rfl,hK9,zK9,uw1⟩
 have zw1:=uw1.size
 replace hS:=hS.add uw1 (A':=A4 Bp (No (p::qs)) 9) (hK9) (fun i h=>by cases h;exact zK9)
 change Wx.Sep _ _ _ [_]at hS
 clear hK9
 refine LW.A rfl (Am (Aa (I rfl ?_)))
 refine U (.Cn j1 (.t rfl)) ?_
 refine I rfl ?_
 refine U (.Cn j1 (.t rfl)) ?_
 refine U (.tr (PEv.geq (.t rfl) (.t rfl)) (be oQ)) ?_
 refine A3 (eC (.o rfl) (Mw)) rfl (Gz _) ?_
 rintro _ w2 uw2
 have zw2:=uw2.size
 replace hS:=hS.up uw2
 refine Am (Ae (I rfl ?_))
 refine U (.Cn j1 (.t rfl)) ?_
 refine U (.move (.const _)) ?_
 refine Af (Ah ?_)
 refine A5 (σ:=Nat) (fun s w=>(s≤fx.length)∧(Wx.Sep no w0 w [A4 Bp (No (p::qs)) 9])) (fun s=>[(18,.eq (vi (s:Int)))]) ([(4,.eq _),(5,.eq _),(16,.eq _),(17,.eq _)]) (fun s=>fx.length-s) 0 ?_ tQ ?_
 ·exact⟨au _,hS⟩
 rintro k w3 ⟨hk,hS⟩
 refine Ae ?_
 refine U (.l2 rfl rfl) ?_
 refine Am ?_
 refine CW.b rfl (fun h19=>?_) (fun h19=>?_)
 ·replace h19:=dQ h19
  refine Ai (Ac (Ak (Ah (Ak ?_))))
  have hkl:k<fx.length:=cz.1 h19
  obtain⟨x,hx⟩:=An (xs:=fx) (i:=k) hkl
  obtain⟨Bx,ox,ax,hcx⟩:=(Els.up hE hS.Cl) k x hx
  refine Aa (I rfl ?_)
  refine U (.Ar j1 kt (j:=k) (.t rfl) (.t rfl) oQ ax) ?_
  refine U (.lb rfl (hcx.nth (j:=0) rfl)) ?_
  refine LW.A rfl (LW.A rfl (Af ?_))
  cases hq6:decide (x=[])with
  |true=>
   refine Aa (I rfl ?_)
   refine U (.tr (Dv (.t rfl) (.const _)) (Rm (b:=[]) (bw hq6))) ?_
   refine I rfl ?_
   refine Bh ?_
   refine Bh ?_
   refine Bh ?_
   refine Bh ?_
   refine Bh ?_
   refine Bh ?_
   refine U (.D5 (b:=false) (.t rfl) (fun hp=>absurd (show true=false from hp) cQ)) ?_
   refine A3 (eC (.o rfl) (Mw)) rfl (Gz _) ?_
   rintro _ w4 uw4
   have zw4:=uw4.size
   replace hS:=hS.up uw4
   refine LW.nil (Aj (Ac (Aa ?_)))
   refine U (.ic rfl oQ) ?_
   refine I rfl (LW.nil (Av ?_))
   exact⟨k+1,⟨by omega,hS⟩,tQ,by first|omega|(dsimp only;omega)⟩
  |false=>
   have hxk:=(hfx k x hx).resolve_left (cc hq6)
   obtain⟨By,oy,ay,hcy⟩:=F4 hS.b0 k x hxk
   cases ay
   refine Aa (I rfl ?_)
   refine U (.fa (Dv (.t rfl) (.const _)) (T6 (b:=[]) (cc hq6))) ?_
   refine I rfl ?_
   refine Ap ?_
   refine I rfl ?_
   refine Ap ?_
   refine I rfl ?_
   refine Ap ?_
   refine U (.Ar j1 kt (j:=k) (.t rfl) (.t rfl) oQ rfl) ?_
   refine Ap ?_
   refine U (.lb rfl (hcy.nth (j:=0) rfl)) ?_
   refine Ap ?_
   refine I rfl ?_
   refine Ap ?_
   refine U (.tr (Dv (.t rfl) (.t rfl)) (Rm rfl)) ?_
   refine U (.po rfl (fun hp=>wQ)) ?_
   refine A3 (eC (.o rfl) (Mw)) rfl (Gz _) ?_
   rintro _ w5 uw5
   have zw5:=uw5.size
   replace hS:=hS.up uw5
   refine LW.nil (Aj (Ac (Aa ?_)))
   refine U (.ic rfl oQ) ?_
   refine I rfl (LW.nil (Av ?_))
   exact⟨k+1,⟨by omega,hS⟩,tQ,by first|omega|(dsimp only;omega)⟩
 replace h19:=dQ h19
 refine A8 (Ab (Ab (Ao (Ac (Ae (I rfl (LW.A rfl (Af (Al ?_)))))))))
 refine KW.q ?_
 exact⟨_,rfl,hS.blk 0 rfl,(hS.foot 0 rfl Bp rfl).resolve_left (fun h=>h),hS.Cl⟩
theorem lR(Bf:Nat)(w:World)(hG:GM w)(hb:∀i,Cp [A4 Bf (#[vi 0,vi 0,.slice none 0 0,.slice none 0 0]) 28] i→0<i)(hS0:Wx.Sep (Cp [A4 Bf (#[vi 0,vi 0,.slice none 0 0,.slice none 0 0]) 28]) w w [A4 Bf (#[vi 0,vi 0,.slice none 0 0,.slice none 0 0]) 28]):Ret prog 234 #[.pointer (some ⟨Bf,0,none⟩),.string (bs (F8))] w fun _ w'=>Wx.Sep (Cp [A4 Bf (#[vi 0,vi 0,.slice none 0 0,.slice none 0 0]) 28]) w w' [A4 Bf (D8 (.slice none 0 0)) 28]:=by
 obtain⟨w0,rfl,_⟩:=W0 w
 have hS:=hS0
 refine cT 30 func234 rfl ?_
 refine Ae (I rfl ?_)
 refine Aq (.buildSlice (xs:=([Ky,[]]:List (List UInt8))) (enc:=tG) (mk:=fun l=>.string (bs l)) j1 kt ly rfl cQ (fun _=>rfl) (fun _=>rfl) (.cons (.const _) (.cons (.const _) .nil)) rfl) rfl ?_
 rintro _ w1 ⟨B6,cB6,rfl,NB6,yB6,xB6⟩
 have eB6:=NB6.at_
 have zB6:=NB6.size
 replace hS:=hS.up NB6.up
 have hE6:=xB6
 refine A3 (eC (.u rfl rfl) (iQ)) rfl (Oj Ky [Ju 2 5] _ _ ([Ky,[]]:List (List UInt8)) (fun q hq=>by simp only[bg,c9,db]at hq;rcases hq with rfl|rfl;(decide);exact aS ⟨by decide,by decide⟩ ⟨by decide,by decide⟩ 32 cQ cQ) (by have:=join_le 32 Ky [Ju 2 5] 6 (fun q hq=>by simp only[bg,c9,db]at hq;rcases hq with rfl|rfl;(decide);exact rH);have h2:([Ju 2 5]:List (List UInt8)).length=1:=rfl;rw[h2]at this;omega) cQ (fun i f h=>match i,h with|0,h=>.inr h|1,h=>.inl (cr h).symm|_+2,h=>by cases h) cQ _ (hG.fr hS.fr (fun h=>absurd (hb 0 h) (gu 0))) hE6) ?_
 rintro _ w2 ⟨Bw,rfl,hK,zK,uw2⟩
 have zw2:=uw2.size
 replace hE6:=hE6.up uw2
 replace hS:=hS.add uw2 (A':=A4 Bw (No [Ky,Ju 2 5]) 9) (hK) (fun i h=>by cases h;exact zK)
 change Wx.Sep _ _ _ [_,_]at hS
 clear hK
 refine LW.A rfl (Am (Aa (I rfl ?_)))
 refine U (.Cn j1 (.t rfl)) ?_
 refine U (.tr (PEv.eql (.t rfl) (.const _)) (rfl)) ?_
 refine A3 (eC (.o rfl) (Mw)) rfl (Gz _) ?_
 rintro _ w3 uw3
 have zw3:=uw3.size
 replace hS:=hS.up uw3
 refine Am ?_
 obtain⟨Bx,ox,ax,hcx⟩:=F4 hS.b1 1 (Ju 2 5) rfl
 cases ax
 refine Aa (I rfl (I rfl (I rfl ?_)))
 refine U (.Ar j1 kt (j:=1) (.t rfl) (.const _) cQ rfl) ?_
 refine U (.lb rfl (hcx.nth (j:=0) rfl)) ?_
 refine A3 (eC (.o rfl) (qV)) rfl (Ua 2 5 ⟨by decide,by decide⟩ ⟨by decide,by decide⟩ _ (hG.fr hS.fr (fun h=>absurd (hb 0 h) (gu 0)))) ?_
 rintro _ w4 ⟨rfl,uw4⟩
 have zw4:=uw4.size
 replace hS:=hS.up uw4
 refine I rfl (U (.xt rfl rfl) (U (.xt rfl rfl) ?_))
 refine U (.nc rfl) ?_
 refine U (.fB 0 rfl) ?_
 refine Cb (.store jw (.t rfl) (.t rfl) rfl hS.b0 bQ) ?_
 intro w5 Nw5
 have zw5:=Nw5.size
 replace hS:=hS.D9 0 rfl (show Set_ _ w5 _ (#[vi 2,vi 0,.slice none 0 0,.slice none 0 0]) _ from Nw5)
 change Wx.Sep _ _ _ [_,_]at hS
 refine U (.nc rfl) ?_
 refine U (.fB 1 rfl) ?_
 refine Cb (.store jw (.t rfl) (.t rfl) rfl hS.b0 bQ) ?_
 intro w6 Nw6
 have zw6:=Nw6.size
 replace hS:=hS.D9 0 rfl (show Set_ _ w6 _ (D8 (.slice none 0 0)) _ from Nw6)
 change Wx.Sep _ _ _ [_,_]at hS
 refine Af (Aa (I rfl ?_))
 refine U (.nc rfl) ?_
 refine U (.lc rfl (hS.b0.agg)) ?_
 refine A3 (eC (.o rfl) (uV)) rfl (Kb none none 0 0 0 0 _) ?_
 rintro _ w7 ⟨rfl,uw7⟩
 have zw7:=uw7.size
 replace hS:=hS.up uw7
 refine A3 (eC (.o rfl) (Mw)) rfl (Gz _) ?_
 rintro _ w8 uw8
 have zw8:=uw8.size
 replace hS:=hS.up uw8
 refine LW.nil ?_
 refine C1 rfl ⟨_,rfl,?_⟩
 exact hS.take 1
theorem gJ(Bf:Nat)(v:Go.Value)(L:List Sk)(s:Sk)(hs:s.Sml)(hok:s.Ok 40)(hL:L.length<40)(w:World)(hG:GM w)(hb:∀i,Cp [A4 Bf (D8 (v)) 28,Az 49 7 Sk.cells (v) (L),Df ((L).flatMap (Jr 3))] i→0<i)(hS0:Wx.Sep (Cp [A4 Bf (D8 (v)) 28,Az 49 7 Sk.cells (v) (L),Df ((L).flatMap (Jr 3))]) w w [A4 Bf (D8 (v)) 28,Az 49 7 Sk.cells (v) (L),Df ((L).flatMap (Jr 3))]):Ret prog 235 #[.pointer (some ⟨Bf,0,none⟩),.string (bs (C3 L.length s))] w fun _ w'=>∃v' s',Sk.v s'=Sk.v s∧Wx.Sep (Cp [A4 Bf (D8 (v)) 28,Az 49 7 Sk.cells (v) (L),Df ((L).flatMap (Jr 3))]) w w' [A4 Bf (D8 (v')) 28,Az 49 7 Sk.cells (v') (L++[s']),Df ((L++[s']).flatMap (Jr 3))]:=by
 obtain⟨w0,rfl,_⟩:=W0 w
 obtain⟨ado,cpo,rfl,_⟩:=(hS0.own 1 rfl).sl (fun _=>rfl)
 have hS:=hS0
 have h0:¬Cp [A4 Bf (D8 (.slice ado L.length cpo)) 28,Az 49 7 Sk.cells (.slice ado L.length cpo) (L),Df ((L).flatMap (Jr 3))] 0:=fun h=>absurd (hb 0 h) (gu 0)
 refine cT 91 func235 rfl ?_
 refine Ae (I rfl (I rfl ?_))
 refine U (.nc rfl) ?_
 refine U (.fB 2 rfl) ?_
 refine U (.lb rfl (hS.b0.Ad rfl)) ?_
 refine U (.Cn j0 (.t rfl)) ?_
 refine A3 (eC (.o rfl) (qW)) rfl (Ye (L.length:Int) ⟨gw _,by omega⟩ _) ?_
 rintro _ w1 ⟨rfl,uw1⟩
 have zw1:=uw1.size
 replace hS:=hS.up uw1
 refine Aq (.buildSlice (xs:=([Dw,Dk L.length,O2,[],Iq,[],Kv,[],Kw,[]]:List (List UInt8))) (enc:=tG) (mk:=fun l=>.string (bs l)) j1 kt ly rfl cQ (fun _=>rfl) (fun _=>rfl) (.cons (.const _) (.ct rfl (.cons (.const _) (.cons (.const _) (.cons (.const _) (.cons (.const _) (.cons (.const _) (.cons (.const _) (.cons (.const _) (.cons (.const _) .nil)))))))))) rfl) rfl ?_
 rintro _ w2 ⟨B13,cB13,rfl,NB13,yB13,xB13⟩
 have eB13:=NB13.at_
 have zB13:=NB13.size
 replace hS:=hS.up NB13.up
 have hE13:=xB13
 refine A3 (eC (.u rfl rfl) (iQ)) rfl (Oj Dw (Gy L.length s) _ _ ([Dw,Dk L.length,O2,[],Iq,[],Kv,[],Kw,[]]:List (List UInt8)) (Vk oQ hs 32 (.inl rfl)) (br (Rp oQ hs) cQ) (show 10≤_ by rw[lI];split<;>decide) (CM L.length s) (by rw[ai,El];split<;>decide) _ (hG.fr hS.fr h0) hE13) ?_
 rintro _ w3 ⟨Bw,rfl,hK,zK,uw3⟩
 have zw3:=uw3.size
 replace hE13:=hE13.up uw3
 replace hS:=hS.add uw3 (A':=A4 Bw (No (Dw::Gy L.length s)) 9) (hK) (fun i h=>by cases h;exact zK)
 change Wx.Sep _ _ _ [_,_,_,_]at hS
 clear hK
 refine LW.A rfl (Am ?_)
 refine bX 11 9 10 8 5 23 ((⟨0,[],none,0,0,0,[],none,0,0,0⟩:Sk).cells) [.eq (.slice (some ⟨Bw,0,none⟩) (Dw::Gy L.length s).length (Dw::Gy L.length s).length),.eq (.pointer (some ⟨Bw,0+3*1,none⟩)),.eq (.string (bs (Dk s.rc))),.eq (vi s.rc),.eq (.slice (some ⟨Bw,0,none⟩) (Dw::Gy L.length s).length (Dw::Gy L.length s).length),.eq (.pointer (some ⟨Bw,0+5*1,none⟩)),.eq (.string (bs (Jd s.tl))),.pred fun v W=>OwnS W w3.drew.heap.size 3 1 A6 v s.tl,.pred fun v W=>∃ad22 cp22,v=.agg (Sk.cells (⟨s.rc,s.tl,ad22,cp22,0,0,[],none,0,-1,0⟩:Sk))∧OwnS W w3.drew.heap.size 3 1 A6 (.slice ad22 s.tl.length cp22) s.tl,.pred fun v _=>∃B,v=.pointer (some ⟨B,0,none⟩),.eq (undef)] [] kz kh kQ rfl kQ kQ kQ kQ kQ kQ kQ rfl rfl ⟨_,_,_,rfl⟩ _ rfl ⟨_,_,_,rfl⟩ ⟨mp,mp,mp,mp,mp,mp,mp,PhT.pred fun _ _ _ h u=>OwnS.C8 h cQ u,PhT.pred fun _ _ _ h u=>let⟨ad,cp,e,ho⟩:=h;⟨ad,cp,e,ho.C8 cQ u⟩,PhT.pred fun _ _ _ h _=>h,mp,trivial⟩ rfl (fun v W h=>let⟨_,_,e,_⟩:=h;⟨_,e,rfl,Sk.one _⟩) (fun B W=>⟨B,rfl⟩) ?_ ?_
 ·intro W hU0
  have hU:=(Up.drew w3).trans hU0
  have hSW:=hS.up hU
  have zU0:=hU0.size
  obtain⟨B3_,o3_,a3_,hc3⟩:=F4 hSW.b3 3 (Dk s.rc) rfl
  cases a3_
  obtain⟨B5_,o5_,a5_,hc5⟩:=F4 hSW.b3 5 (Jd s.tl) rfl
  cases a5_
  refine aC (.inr ⟨rfl,TU.p (.mv rfl) rfl⟩) ?_
  refine aC (.inr ⟨rfl,TU.p (.Ar j1 kt (j:=3) (.t rfl) (.const _) (by rw[ai,El];split<;>decide) rfl) rfl⟩) ?_
  refine aC (.inr ⟨rfl,TU.p (.lb rfl (hc3.nth (j:=0) rfl)) rfl⟩) ?_
  refine aC (.inr ⟨rfl,TU.c (eC (.o rfl) (Sy)) (Jb s.rc hs.rc W) sQ⟩) ?_
  refine aC (.inr ⟨rfl,TU.p (.mv rfl) rfl⟩) ?_
  refine aC (.inr ⟨rfl,TU.p (.Ar j1 kt (j:=5) (.t rfl) (.const _) (by rw[ai,El];split<;>decide) rfl) rfl⟩) ?_
  refine aC (.inr ⟨rfl,TU.p (.lb rfl (hc5.nth (j:=0) rfl)) rfl⟩) ?_
  refine aC (.inr ⟨rfl,TU.c (eC (.o rfl) (qX)) (T9 s.tl hs.tn.1 (by have:=hs.tn.2;omega) hs.tl W (hG.fr hSW.fr h0)) (by rintro v W1 ⟨ho,u⟩;exact⟨u,ho.mono zU0⟩)⟩) ?_
  refine aC (.inr ⟨rfl,TU.open (d:=22) rfl fun v hv=>by obtain⟨ad,cp,rfl,_⟩:=OwnS.sl hv (fun _=>rfl);exact TU.p (.build (cs:=Sk.cells ⟨s.rc,s.tl,ad,cp,0,0,[],none,0,-1,0⟩) underlying49 kz Iu (.ct rfl (.ct rfl (.cons (.const _) .nil))) rfl) ⟨ad,cp,rfl,hv⟩⟩) ?_
  refine aC (.inl (.inl rfl)) ?_
  refine aC (.inl (.inr rfl)) ?_
  exact allL.nil
 intro w4 B5 g hU0 zB5_ hB5 hg
 have hU:=(Up.drew w3).trans hU0
 have zw4:=hU.size
 have zdr:w3.drew.heap.size=w3.heap.size:=rfl
 obtain⟨ad22,cp22,e23,ho22⟩:∃ad22 cp22,g 23=.agg (Sk.cells (⟨s.rc,s.tl,ad22,cp22,0,0,[],none,0,-1,0⟩:Sk))∧OwnS w4 w3.drew.heap.size 3 1 A6 (.slice ad22 s.tl.length cp22) s.tl:=hg 8 _ 23 cQ rfl rfl
 rw[e23]at hB5
 replace hB5:Blk w4 B5 (Sk.cells (⟨s.rc,s.tl,ad22,cp22,0,0,[],none,0,-1,0⟩:Sk)) 49:=hB5
 clear e23 hg
 replace hS:=(hS.up (Up.drew _)).CO hU0 (A:=A4 B5 (Sk.cells (⟨s.rc,s.tl,ad22,cp22,0,0,[],none,0,-1,0⟩:Sk)) 49) (B:=Az 3 1 A6 (.slice ad22 s.tl.length cp22) s.tl) hB5 (ho22.mono (au _)) (fun i(e:i=B5)=>by omega) (fun i h=>ho22.base i h) (fun i(e:i=B5)h2=>pL ho22 hB5 cQ (e▸h2))
 clear ho22 hB5
 change Wx.Sep _ _ _ [_,_,_,_,_,_]at hS
 refine Am ?_
 obtain⟨B7_,o7_,a7_,hc7⟩:=F4 hS.b3 7 (Ju s.mn s.mx) rfl
 cases a7_
 refine Aa (I rfl ?_)
 refine U (.Ar j1 kt (j:=7) (.t rfl) (.const _) (by rw[ai,El];split<;>decide) rfl) ?_
 refine U (.lb rfl (hc7.nth (j:=0) rfl)) ?_
 refine A3 (eC (.o rfl) (qV)) rfl (Ua s.mn s.mx hs.mn hs.mx _ (hG.fr hS.fr h0)) ?_
 rintro _ w5 ⟨rfl,uw5⟩
 have zw5:=uw5.size
 replace hS:=hS.up uw5
 refine I rfl (U (.xt rfl rfl) (U (.xt rfl rfl) ?_))
 refine U (.fB 2 rfl) ?_
 refine Cb (.store jw (.t rfl) (.t rfl) rfl hS.b4 bQ) ?_
 intro w6 Nw6
 have zw6:=Nw6.size
 replace hS:=hS.D9 4 rfl (show Set_ _ w6 _ (((⟨s.rc,s.tl,ad22,cp22,s.mn,0,[],none,0,-1,0⟩:Sk)).cells) _ from Nw6)
 change Wx.Sep _ _ _ [_,_,_,_,_,_]at hS
 refine U (.fB 3 rfl) ?_
 refine Cb (.store jw (.t rfl) (.t rfl) rfl hS.b4 bQ) ?_
 intro w7 Nw7
 have zw7:=Nw7.size
 replace hS:=hS.D9 4 rfl (show Set_ _ w7 _ (((⟨s.rc,s.tl,ad22,cp22,s.mn,s.mx,[],none,0,-1,0⟩:Sk)).cells) _ from Nw7)
 change Wx.Sep _ _ _ [_,_,_,_,_,_]at hS
 refine Af ?_
 refine Ex (fun a1 W=>Ag 91 [] ([(0,.eq (.pointer (some ⟨Bf,0,none⟩))),(1,.eq (.string (bs (C3 L.length s)))),(5,.eq (.pointer (some ⟨B5,0,none⟩))),(4,.eq (.slice (some ⟨Bw,0,none⟩) (Dw::Gy L.length s).length (Dw::Gy L.length s).length))]) a1 W∧∃adn cpn,Wx.Sep (Cp [A4 Bf (D8 (.slice ado L.length cpo)) 28,Az 49 7 Sk.cells (.slice ado L.length cpo) (L),Df ((L).flatMap (Jr 3))]) w0 W [A4 Bf (D8 (.slice ado L.length cpo)) 28,Az 49 7 Sk.cells (.slice ado L.length cpo) L,Df (L.flatMap (Jr 3)),A4 Bw (No (Dw::Gy L.length s)) 9,A4 B5 (Sk.cells (⟨s.rc,s.tl,ad22,cp22,s.mn,s.mx,s.nx,adn,cpn,-1,0⟩:Sk)) 49,Az 3 1 A6 (.slice ad22 s.tl.length cp22) s.tl,Az 3 1 A6 (.slice adn s.nx.length cpn) s.nx]) ?_ ?_
 ·skip
  refine Ak ?_
  cases hq3:decide (s.nx=[])with
  |true=>
   have hnx:=bw hq3
   obtain⟨B9_,o9_,a9_,hc9⟩:=F4 hS.b3 9 (Jd s.nx) rfl;cases a9_
   have hSn:=hS.M2 (OwnS.nil (α:=Int) _ 0 3 1 A6)
   refine Aa (I rfl ?_)
   refine U (.Ar j1 kt (j:=9) (.t rfl) (.const _) (by rw[ai,El];split<;>decide) rfl) ?_
   refine U (.lb rfl (hc9.nth (j:=0) rfl)) ?_
   refine U (.fa (PEv.Y6 (.t rfl) (.const _)) (aq (! ·) (Rm (b:=[45]) (by rw[hnx];rfl)))) ?_
   refine Af ?_
   refine CW.f rfl ?_
   refine Ai ?_
   exact fun a ha=>⟨ha.sub tQ,(by first|exact⟨_,_,hS⟩|exact⟨none,0,by rw[hnx];exact hSn⟩)⟩
  |false=>
   have hnx:=cc hq3
   obtain⟨B9_,o9_,a9_,hc9⟩:=F4 hS.b3 9 (Jd s.nx) rfl;cases a9_
   refine Aa (I rfl ?_)
   refine U (.Ar j1 kt (j:=9) (.t rfl) (.const _) (by rw[ai,El];split<;>decide) rfl) ?_
   refine U (.lb rfl (hc9.nth (j:=0) rfl)) ?_
   refine U (.tr (PEv.Y6 (.t rfl) (.const _)) (aq (! ·) (T6 (b:=[45]) (yR hs.nx hnx)))) ?_
   refine Af ?_
   refine CW.v rfl ?_
   refine Aa (I rfl ?_)
   refine U (.Ar j1 kt (j:=9) (.t rfl) (.const _) (by rw[ai,El];split<;>decide) rfl) ?_
   refine U (.lb rfl (hc9.nth (j:=0) rfl)) ?_
   refine A3 (eC (.o rfl) (qX)) rfl (T9 s.nx hnx (by have:=hs.nn;omega) hs.nx _ (hG.fr hS.fr h0)) ?_
   rintro v40 w8 ⟨hO40,uw8⟩
   have zw8:=uw8.size
   replace hS:=hS.add uw8 (A':=Az 3 1 A6 v40 s.nx) (hO40.mono (au _)) (fun i h=>hO40.base i h)
   change Wx.Sep _ _ _ [_,_,_,_,_,_,_]at hS
   clear hO40
   obtain⟨adn,cpn,rfl,_⟩:=(hS.own 6 rfl).sl (fun _=>rfl)
   refine U (.fB 4 rfl) ?_
   refine Cb (.store lh (.t rfl) (.t rfl) rfl hS.b4 bQ) ?_
   intro w9 Nw9
   have zw9:=Nw9.size
   replace hS:=hS.D9 4 rfl (show Set_ _ w9 _ (((⟨s.rc,s.tl,ad22,cp22,s.mn,s.mx,s.nx,adn,cpn,-1,0⟩:Sk)).cells) _ from Nw9)
   change Wx.Sep _ _ _ [_,_,_,_,_,_,_]at hS
   refine LW.nil ?_
   exact fun a ha=>⟨ha.sub tQ,(by first|exact⟨_,_,hS⟩|exact⟨none,0,by rw[hnx];exact hSn⟩)⟩
 rintro a1 w10 ⟨ha,⟨adn,cpn,hS⟩⟩
 revert a1
 show CW none _ _ _ _ _ _ _ _
 refine Ex (fun a1 W=>Ag 91 [] ([(0,.eq (.pointer (some ⟨Bf,0,none⟩))),(1,.eq (.string (bs (C3 L.length s)))),(5,.eq (.pointer (some ⟨B5,0,none⟩)))]) a1 W∧Wx.Sep (Cp [A4 Bf (D8 (.slice ado L.length cpo)) 28,Az 49 7 Sk.cells (.slice ado L.length cpo) (L),Df ((L).flatMap (Jr 3))]) w0 W [A4 Bf (D8 (.slice ado L.length cpo)) 28,Az 49 7 Sk.cells (.slice ado L.length cpo) L,Df (L.flatMap (Jr 3)),A4 B5 (Sk.cells (⟨s.rc,s.tl,ad22,cp22,s.mn,s.mx,s.nx,adn,cpn,s.bk,s.lm⟩:Sk)) 49,Az 3 1 A6 (.slice ad22 s.tl.length cp22) s.tl,Az 3 1 A6 (.slice adn s.nx.length cpn) s.nx]) ?_ ?_
 ·skip
  refine Ak ?_
  cases hq5:decide (0≤s.bk)with
  |true=>
   have hbk:=bw hq5
   have hbs:=hs.bk.resolve_left (fun h=>by omega)
   refine Aa (I rfl ?_)
   refine U (.Cn j1 (.t rfl)) ?_
   refine U (.tr (PEv.gtr (.t rfl) (.const _)) (be (by rw[ai,El,ap hbk];decide))) ?_
   refine Af ?_
   refine CW.v rfl ?_
   refine Ae (I rfl ?_)
   refine Aq (.buildSlice (xs:=([[],[],[],[],[],[],[],[],[],[],Mm,[],Ro,[]]:List (List UInt8))) (enc:=tG) (mk:=fun l=>.string (bs l)) j1 kt ly rfl cQ (fun _=>rfl) (fun _=>rfl) (.cons (.const _) (.cons (.const _) (.cons (.const _) (.cons (.const _) (.cons (.const _) (.cons (.const _) (.cons (.const _) (.cons (.const _) (.cons (.const _) (.cons (.const _) (.cons (.const _) (.cons (.const _) (.cons (.const _) (.cons (.const _) .nil)))))))))))))) rfl) rfl ?_
   rintro _ w11 ⟨B46,cB46,rfl,NB46,yB46,xB46⟩
   have eB46:=NB46.at_
   have zB46:=NB46.size
   replace hS:=hS.up NB46.up
   have hE46:=xB46
   refine A3 (eC (.u rfl rfl) (iQ)) rfl (Oj Dw (Gy L.length s) _ _ ([[],[],[],[],[],[],[],[],[],[],Mm,[],Ro,[]]:List (List UInt8)) (Vk oQ hs 32 (.inl rfl)) (br (Rp oQ hs) cQ) (show 14≤_ by rw[lI,ap hbk];decide) (CN L.length s hbk) (by rw[ai,El];split<;>decide) _ (hG.fr hS.fr h0) hE46) ?_
   rintro _ w12 ⟨Bv,rfl,hK,zK,uw12⟩
   have zw12:=uw12.size
   replace hE46:=hE46.up uw12
   replace hS:=hS.add uw12 (A':=A4 Bv (No (Dw::Gy L.length s)) 9) (hK) (fun i h=>by cases h;exact zK)
   change Wx.Sep _ _ _ [_,_,_,_,_,_,_,_]at hS
   clear hK
   refine LW.A rfl (Am (Aa (I rfl ?_)))
   refine U (.Cn j1 (.t rfl)) ?_
   refine U (.tr (PEv.eql (.t rfl) (.const _)) (by rw[ai,El,ap hbk];rfl)) ?_
   refine A3 (eC (.o rfl) (Mw)) rfl (Gz _) ?_
   rintro _ w13 uw13
   have zw13:=uw13.size
   replace hS:=hS.up uw13
   refine Af ?_
   obtain⟨B11_,o11_,a11_,hc11⟩:=F4 (hS.blk 7 rfl) 11 (Dk s.bk) (by unfold Gy;rw[ap hbk];rfl)
   cases a11_
   obtain⟨B13_,o13_,a13_,hc13⟩:=F4 (hS.blk 7 rfl) 13 (Dk s.lm) (by unfold Gy;rw[ap hbk];rfl)
   cases a13_
   refine Cz 9 kQ kQ kQ kQ kQ rfl rfl ?_
   refine J (.mv rfl) ?_
   refine J (.Ar j1 kt (j:=11) (.t rfl) (.const _) (by rw[ai,El];rw[ap hbk];decide) rfl) ?_
   refine J (.lb rfl (hc11.nth (j:=0) rfl)) ?_
   refine HW.c (fun a w _ ha=>Bm (.cu rfl) (Sy) a ha) rfl rfl (fun w hu=>Jb s.bk hbs.1 w) ?_
   refine J (.mv rfl) ?_
   refine J (.Ar j1 kt (j:=13) (.t rfl) (.const _) (by rw[ai,El];rw[ap hbk];decide) rfl) ?_
   refine J (.lb rfl (hc13.nth (j:=0) rfl)) ?_
   refine HW.c (fun a w _ ha=>Bm (.cu rfl) (Sy) a ha) rfl rfl (fun w hu=>Jb s.lm hbs.2 w) ?_
   refine J (.fB 5 rfl) ?_
   refine HW.nil ?_
   intro w14 uw14
   have zw14:=uw14.size
   replace hS:=hS.up uw14
   refine Cb (.store jw (.t rfl) (.t rfl) rfl hS.b4 bQ) ?_
   intro w15 Nw15
   have zw15:=Nw15.size
   replace hS:=hS.D9 4 rfl (show Set_ _ w15 _ (((⟨s.rc,s.tl,ad22,cp22,s.mn,s.mx,s.nx,adn,cpn,s.bk,0⟩:Sk)).cells) _ from Nw15)
   change Wx.Sep _ _ _ [_,_,_,_,_,_,_,_]at hS
   refine U (.fB 6 rfl) ?_
   refine Cb (.store jw (.t rfl) (.t rfl) rfl hS.b4 bQ) ?_
   intro w16 Nw16
   have zw16:=Nw16.size
   replace hS:=hS.D9 4 rfl (show Set_ _ w16 _ (((⟨s.rc,s.tl,ad22,cp22,s.mn,s.mx,s.nx,adn,cpn,s.bk,s.lm⟩:Sk)).cells) _ from Nw16)
   change Wx.Sep _ _ _ [_,_,_,_,_,_,_,_]at hS
   refine LW.nil ?_
   exact fun a ha=>⟨ha.sub tQ,(by first|exact hS.sub (.cons_cons _ (.cons_cons _ (.cons_cons _ (.cons _ (.cons_cons _ (.cons_cons _ (.cons_cons _ (.cons _ .slnil))))))))|(rw[e1,e2];exact hS.sub (.cons_cons _ (.cons_cons _ (.cons_cons _ (.cons _ (.cons_cons _ (.cons_cons _ (.cons_cons _ .slnil)))))))))⟩
  |false=>
   have hbk:=cc hq5
   obtain⟨e1,e2⟩:=hs.bk.resolve_right (fun h=>by have:=h.1.1;omega)
   refine Aa (I rfl ?_)
   refine U (.Cn j1 (.t rfl)) ?_
   refine U (.fa (PEv.gtr (.t rfl) (.const _)) (bn (by rw[ai,El,am hbk];decide))) ?_
   refine Af ?_
   refine CW.f rfl ?_
   refine Ai ?_
   exact fun a ha=>⟨ha.sub tQ,(by first|exact hS.sub (.cons_cons _ (.cons_cons _ (.cons_cons _ (.cons _ (.cons_cons _ (.cons_cons _ (.cons_cons _ (.cons _ .slnil))))))))|(rw[e1,e2];exact hS.sub (.cons_cons _ (.cons_cons _ (.cons_cons _ (.cons _ (.cons_cons _ (.cons_cons _ (.cons_cons _ .slnil)))))))))⟩
 rintro a1 w17 ⟨ha,hS⟩
 revert a1
 show CW none _ _ _ _ _ _ _ _
 refine Ae ?_
 refine U (.lc rfl (hS.b3.agg)) ?_
 refine A3 (eC (.ct rfl (.cons (.const _) .nil)) (uW)) rfl (Lq (⟨s.rc,s.tl,ad22,cp22,s.mn,s.mx,s.nx,adn,cpn,s.bk,s.lm⟩:Sk) 40 _ cQ ⟨hok.rc,hok.mn,hok.bk,hok.tl,hok.ta,hok.nl,hok.nx⟩ (Cm (hS.own 4 rfl) (fun _=>rfl)) (Cm (hS.own 5 rfl) (fun _=>rfl))) ?_
 rintro _ w18 ⟨rfl,uw18⟩
 have zw18:=uw18.size
 replace hS:=hS.up uw18
 refine I rfl ?_
 refine Ap ?_
 refine I rfl ?_
 refine Ap ?_
 refine U (.nc rfl) ?_
 refine Ap ?_
 refine U (.fB 2 rfl) ?_
 refine Ap ?_
 refine U (.lb rfl (hS.b0.Ad rfl)) ?_
 refine Ap ?_
 refine U (.Cn j0 (.t rfl)) ?_
 refine Ap ?_
 refine U (.tr (PEv.lss (.t rfl) (.const _)) (be oQ)) ?_
 refine U (.pa rfl (fun hp=>wQ)) ?_
 refine I rfl ?_
 refine Ap ?_
 refine I rfl ?_
 refine Ap ?_
 refine U (.nc rfl) ?_
 refine Ap ?_
 refine U (.fB 3 rfl) ?_
 refine Ap ?_
 refine U (.lb rfl (hS.b0.Ad rfl)) ?_
 refine Ap ?_
 refine U (.Cn j9 (.t rfl)) ?_
 refine Ap ?_
 refine U (.tr (PEv.eql (.t rfl) (.const _)) (rfl)) ?_
 refine U (.pa rfl (fun hp=>wQ)) ?_
 refine A3 (eC (.o rfl) (Mw)) rfl (Gz _) ?_
 rintro _ w19 uw19
 have zw19:=uw19.size
 replace hS:=hS.up uw19
 refine Af ?_
 refine H6 7 (fun v w''=>Wx.Sep (Cp [A4 Bf (D8 (.slice ado L.length cpo)) 28,Az 49 7 Sk.cells (.slice ado L.length cpo) (L),Df ((L).flatMap (Jr 3))]) w0 w'' [A4 Bf (D8 (.slice ado L.length cpo)) 28,Az 49 7 Sk.cells v (L++[(⟨s.rc,s.tl,ad22,cp22,s.mn,s.mx,s.nx,adn,cpn,s.bk,s.lm⟩:Sk)]),Df (L.flatMap (Jr 3)),A4 B5 (Sk.cells (⟨s.rc,s.tl,ad22,cp22,s.mn,s.mx,s.nx,adn,cpn,s.bk,s.lm⟩:Sk)) 49,Az 3 1 A6 (.slice ad22 s.tl.length cp22) s.tl,Az 3 1 A6 (.slice adn s.nx.length cpn) s.nx]) kQ kQ kQ kQ kQ kQ rfl rfl rfl rfl rfl ?_
 refine J (.mv rfl) ?_
 refine J (.mv rfl) ?_
 refine J (.nc rfl) ?_
 refine J (.fB 2 rfl) ?_
 refine J (.lb rfl (hS.b0.Ad rfl)) ?_
 refine J (.lc rfl (hS.b3.agg)) ?_
 refine HW.r (p:=fun v w=>Sl w v 7 (Sk.cells) [(⟨s.rc,s.tl,ad22,cp22,s.mn,s.mx,s.nx,adn,cpn,s.bk,s.lm⟩:Sk)]) (fun _ _ _ h u=>Sl.up h u) rfl (fun w hu a ha=>let⟨v,w',h1,h2⟩:=REv.buildSlice (xs:=[(⟨s.rc,s.tl,ad22,cp22,s.mn,s.mx,s.nx,adn,cpn,s.bk,s.lm⟩:Sk)]) (enc:=Sk.cells) (mk:=fun s=>.agg s.cells) j0 kh kz rfl bQ (fun _=>rfl) (fun _=>rfl) (.cu rfl) rfl a ha;⟨v,w',h1,h2.q⟩) rfl ?_
 refine HW.nil ⟨fun a w' hu ha=>?_,?_⟩
 ·exact(REv.open (d:=87) (p:=fun v w=>Sl w v 7 Sk.cells [(⟨s.rc,s.tl,ad22,cp22,s.mn,s.mx,s.nx,adn,cpn,s.bk,s.lm⟩:Sk)]) rfl fun vv hv=>(REv.D7 (enc:=Sk.cells) (bytes:=88) (i:=Tryz.t49) j0 kQ rfl rfl rfl rfl cQ (fun _=>rfl) Sk.one (.t rfl) (.t rfl) ((hS.up hu).own 1 rfl) hv (by simp[maxLen];omega) (by simp;omega)).mono fun v' w'' h=>(hS.up hu).F9 1 rfl h).y ha
 intro v88 w20 hS
 obtain⟨ad88,cp88,rfl,_⟩:=(hS.own 1 rfl).sl (fun _=>rfl)
 refine U (.nc rfl) ?_
 refine U (.fB 2 rfl) ?_
 refine Cb (.store sizeOf25 (.t rfl) (.t rfl) (hS.own 1 rfl).one hS.b0 bQ) ?_
 intro w21 Nw21
 have zw21:=Nw21.size
 replace hS:=hS.D9 0 rfl (show Set_ _ w21 _ (D8 (.slice ad88 (L++[(⟨s.rc,s.tl,ad22,cp22,s.mn,s.mx,s.nx,adn,cpn,s.bk,s.lm⟩:Sk)]).length cp88)) _ from Nw21)
 change Wx.Sep _ _ _ [_,_,_,_,_,_]at hS
 refine LW.nil ?_
 refine C1 rfl ⟨_,rfl,?_⟩
 refine⟨.slice ad88 (L++[(⟨s.rc,s.tl,ad22,cp22,s.mn,s.mx,s.nx,adn,cpn,s.bk,s.lm⟩:Sk)]).length cp88,(⟨s.rc,s.tl,ad22,cp22,s.mn,s.mx,s.nx,adn,cpn,s.bk,s.lm⟩:Sk),rfl,?_⟩
 exact Pv (Bs:=[_,_]) (s:=(⟨s.rc,s.tl,ad22,cp22,s.mn,s.mx,s.nx,adn,cpn,s.bk,s.lm⟩:Sk)) (hS.sub (.cons_cons _ (.cons_cons _ (.cons_cons _ (.cons _ (.cons_cons _ (.cons_cons _ .slnil)))))))
theorem Vo(a b:List UInt8)(w:World):Ret prog 194 #[.string (bs a),.string (bs b)] w fun r w'=>r=.bool (Go.Lib.hasPrefix a b)∧Up w w':=by
 refine Calls.mono (Tryz.strings_HasPrefix (bs a) (bs b) w) ?_
 rintro e w' ⟨rfl,rfl⟩
 exact⟨_,rfl,rfl,Up.refl _⟩
theorem Rr(B:Nat)(w:World):tC prog 233 #[.pointer (some ⟨B,0,none⟩)] w fun w'=>Up w w':=by
 have hW:=Up.refl w
 refine Vj (n:=5) (args:=[.pointer (some ⟨B,0,none⟩)]) func233 rfl rfl rfl ?_
 refine DW.seq (m:=9) (DW.region ?_)
 refine tD (fun a=>Xz) rfl rfl rfl ?_
 refine DL.p (PEv.assign (.t rfl)) rfl rfl rfl ?_
 refine DL.nil ?_
 refine Ac (Ae (I rfl ?_))
 refine U (.pJ underlying20 (.t rfl)) ?_
 refine Af ?_
 refine CW.f rfl ?_
 refine Ai ?_
 refine C1 rfl ⟨_,rfl,?_⟩
 exact hW
theorem aU(Bf:Nat)(w:World)(hG:GM w)(hb:∀i,Cp [A4 Bf (#[vi 0,vi 0,.slice none 0 0,.slice none 0 0]) 28] i→0<i)(hS0:Wx.Sep (Cp [A4 Bf (#[vi 0,vi 0,.slice none 0 0,.slice none 0 0]) 28]) w w [A4 Bf (#[vi 0,vi 0,.slice none 0 0,.slice none 0 0]) 28]):Ret prog 195 #[.pointer (some ⟨Bf,0,none⟩),.string (bs (F8)),.bool true] w fun r w'=>r=.bool true∧Wx.Sep (Cp [A4 Bf (#[vi 0,vi 0,.slice none 0 0,.slice none 0 0]) 28]) w w' [A4 Bf (D8 (.slice none 0 0)) 28]:=by
 obtain⟨w0,rfl,_⟩:=W0 w
 have hS:=hS0
 have h0:¬Cp [A4 Bf (#[vi 0,vi 0,.slice none 0 0,.slice none 0 0]) 28] 0:=fun h=>absurd (hb 0 h) (gu 0)
 refine Nk (n:=22) (m:=9) func195 rfl rfl rfl ?_
 refine Ae ?_
 refine Aq (.F6 ll rfl) rfl ?_
 rintro _ w1 ⟨B6,rfl,NB6⟩
 have eB6:=NB6.at_
 have zB6:=NB6.size
 replace hS:=hS.Cc NB6
 change Wx.Sep _ _ _ [_,_]at hS
 refine Am (Aa ?_)
 refine U (.makeFunc (.cu rfl)) ?_
 refine T5 (.t rfl) ?_
 refine Am (Ah (Ae (I rfl (LW.A rfl (Af ?_)))))
 refine CW.v rfl ?_
 refine Aa (I rfl (I rfl ?_))
 replace hS:=hS.Ea 0 rfl
 change Wx.Sep _ _ _ [_,_]at hS
 have hq_:=(show Wx.Sep _ _ _ ([_]++[_])from hS)
 refine A3 (eC (.u rfl rfl) (xP)) rfl (lR Bf _ (hG.fr hS.fr h0) hb hq_.right.self) ?_
 rintro _ w2 uw2
 replace hS:=hq_.frame uw2
 change Wx.Sep _ _ _ [_,_]at hS
 have zw2:=uw2.fr.size
 clear hq_
 refine LW.nil (Aj (Ac (Ae ?_)))
 refine Cb (.store km (.t rfl) (.const _) rfl hS.b0 bQ) ?_
 intro w3 Nw3
 have zw3:=Nw3.size
 replace hS:=hS.D9 0 rfl Nw3
 change Wx.Sep _ _ _ [_,_]at hS
 refine Af (Al ?_)
 refine dD (f:=233) (args:=#[.pointer (some ⟨B6,0,none⟩)]) (by first|exact(qR _ _)|simp[invoke]) rfl (Rr B6 _) (fun w9 u9=>?_)
 replace hS:=hS.up u9
 refine Pn rfl rfl isAgg4 (hS.b0.Ad rfl) ⟨_,rfl,?_⟩
 exact⟨rfl,hS.sub (.cons _ (List.Sublist.refl _))⟩
theorem aV(Bf:Nat)(v:Go.Value)(L:List Sk)(s:Sk)(hs:s.Sml)(hok:s.Ok 40)(hL:L.length<40)(w:World)(hG:GM w)(hb:∀i,Cp [A4 Bf (D8 (v)) 28,Az 49 7 Sk.cells (v) (L),Df ((L).flatMap (Jr 3))] i→0<i)(hS0:Wx.Sep (Cp [A4 Bf (D8 (v)) 28,Az 49 7 Sk.cells (v) (L),Df ((L).flatMap (Jr 3))]) w w [A4 Bf (D8 (v)) 28,Az 49 7 Sk.cells (v) (L),Df ((L).flatMap (Jr 3))]):Ret prog 195 #[.pointer (some ⟨Bf,0,none⟩),.string (bs (C3 L.length s)),.bool false] w fun r w'=>r=.bool true∧∃v' s',Sk.v s'=Sk.v s∧Wx.Sep (Cp [A4 Bf (D8 (v)) 28,Az 49 7 Sk.cells (v) (L),Df ((L).flatMap (Jr 3))]) w w' [A4 Bf (D8 (v')) 28,Az 49 7 Sk.cells (v') (L++[s']),Df ((L++[s']).flatMap (Jr 3))]:=by
 obtain⟨w0,rfl,_⟩:=W0 w
 have hS:=hS0
 have h0:¬Cp [A4 Bf (D8 (v)) 28,Az 49 7 Sk.cells (v) (L),Df ((L).flatMap (Jr 3))] 0:=fun h=>absurd (hb 0 h) (gu 0)
 refine Nk (n:=22) (m:=9) func195 rfl rfl rfl ?_
 refine Ae ?_
 refine Aq (.F6 ll rfl) rfl ?_
 rintro _ w1 ⟨B6,rfl,NB6⟩
 have eB6:=NB6.at_
 have zB6:=NB6.size
 replace hS:=hS.Cc NB6
 change Wx.Sep _ _ _ [_,_,_,_]at hS
 refine Am (Aa ?_)
 refine U (.makeFunc (.cu rfl)) ?_
 refine T5 (.t rfl) ?_
 refine Am (Ah (Ae (I rfl (LW.A rfl (Af ?_)))))
 refine CW.f rfl ?_
 refine Ae (I rfl ?_)
 refine A3 (eC (.ct rfl (.cons (.const _) .nil)) (iM)) rfl (Vo (C3 L.length s) Dw _) ?_
 rintro _ w2 ⟨rfl,uw2⟩
 have zw2:=uw2.size
 replace hS:=hS.up uw2
 rw[tL]
 refine LW.A rfl (Af ?_)
 refine CW.v rfl ?_
 refine Aa (I rfl (I rfl ?_))
 replace hS:=hS.Ea 0 rfl
 change Wx.Sep _ _ _ [_,_,_,_]at hS
 replace hS:=hS.Ea 0 rfl
 change Wx.Sep _ _ _ [_,_,_,_]at hS
 replace hS:=hS.Ea 0 rfl
 change Wx.Sep _ _ _ [_,_,_,_]at hS
 have hq_:=(show Wx.Sep _ _ _ ([_]++[_,_,_])from hS)
 refine A3 (eC (.u rfl rfl) (xQ)) rfl (gJ Bf v L s hs hok hL _ (hG.fr hS.fr h0) hb hq_.right.self) ?_
 rintro _ w3 ⟨v2,s2,hv2,uw3⟩
 replace hS:=hq_.frame uw3
 change Wx.Sep _ _ _ [_,_,_,_]at hS
 have zw3:=uw3.fr.size
 clear hq_
 refine LW.nil (Aj (Ac (Ae ?_)))
 refine Cb (.store km (.t rfl) (.const _) rfl hS.b0 bQ) ?_
 intro w4 Nw4
 have zw4:=Nw4.size
 replace hS:=hS.D9 0 rfl Nw4
 change Wx.Sep _ _ _ [_,_,_,_]at hS
 refine Af (Al ?_)
 refine dD (f:=233) (args:=#[.pointer (some ⟨B6,0,none⟩)]) (by first|exact(qR _ _)|simp[invoke]) rfl (Rr B6 _) (fun w9 u9=>?_)
 replace hS:=hS.up u9
 refine Pn rfl rfl isAgg4 (hS.b0.Ad rfl) ⟨_,rfl,?_⟩
 exact⟨rfl,v2,s2,hv2,hS.sub (.cons _ (List.Sublist.refl _))⟩
theorem gK(L:List Sk)(hL:FlS L)(w:World)(hG:GM w):Ret prog 152 #[.string (bs (Dr L))] w fun r w'=>∃sa sc M,r=.tuple #[.agg (Cu sa M.length sc none 0 0),vi 0,vi 0]∧Same L M∧FlK w.heap.size w' sa M∧Up w w':=by
 obtain⟨w0,rfl,hS⟩:=W0 w
 have hlen:=hL.len
 refine cT 40 func152 rfl ?_
 refine Ae ?_
 refine Aq (.Bt k9) rfl ?_
 rintro _ w1 ⟨B2,rfl,NB2⟩
 have eB2:=NB2.at_
 have zB2:=NB2.size
 replace hS:=hS.Cc NB2
 change Wx.Sep _ _ _ [_]at hS
 refine Ay (Ay (Am (Aa ?_)))
 refine Aq (.Bt k9) rfl ?_
 rintro _ w2 ⟨B5,rfl,NB5⟩
 have eB5:=NB5.at_
 have zB5:=NB5.size
 replace hS:=hS.Cc NB5
 change Wx.Sep _ _ _ [_,_]at hS
 refine Am (Aa (I rfl ?_))
 refine A3 (eC (.ct rfl (.cons (.const _) .nil)) (iL)) rfl (Oi 10 F8 (L.mapIdx C3++[[]]) _ (hG.up hS.Cl) hL.no (br hL.le cQ)) ?_
 rintro _ w3 ⟨Bp,rfl,hK,zK,uw3⟩
 have zw3:=uw3.size
 replace hS:=hS.add uw3 (A':=A4 Bp (No (Pa L)) 9) (hK) (fun i h=>by cases h;exact zK)
 change Wx.Sep _ _ _ [_,_,_]at hS
 clear hK
 rw[show F8::(L.mapIdx C3++[[]])=Pa L from rfl]
 refine LW.A rfl (Am ?_)
 replace hS:=lK (e:=3) ((hS.Ea 1 rfl).M2 (OwnS.nil _ 0 49 7 Sk.cells))
 change Wx.Sep _ _ _ [_,_,_,_,_]at hS
 refine Aa (Ay (Am (Ae (I rfl ?_))))
 refine U (.Cn j1 (.t rfl)) ?_
 refine U (.move (.const _)) ?_
 refine Af (Ah ?_)
 refine A5 (σ:=Nat×Go.Value×List Sk) (fun s w=>(s.1≤L.length+2)∧(Same (L.take (s.1-1)) s.2.2)∧(s.1=0→s.2.1=.slice none 0 0)∧(Wx.Sep no w0 w [A4 B2 gE 28,A4 Bp (No (Pa L)) 9,A4 B5 (yS (s.1) (s.2.1)) 28,Az 49 7 Sk.cells (s.2.1) (s.2.2),Df ((s.2.2).flatMap (Jr 3))])) (fun s=>[(14,.eq (vi (s.1:Int))),(7,.eq (.bool (decide (s.1=0))))]) ([(2,.eq _),(5,.eq _),(6,.eq _),(12,.eq _),(13,.eq _)]) (fun s=>L.length+2-s.1) (0,.slice none 0 0,[]) ?_ tQ ?_
 ·exact⟨au _,rfl,fun _=>rfl,hS⟩
 rintro⟨k,v,M⟩ w4 ⟨hk,hM,hv0,hS⟩
 dsimp only at hk hM hv0 hS
 change Wx.Sep _ _ _ [_,_,_,_,_]at hS
 change CW _ _ _ _ _ _ _ ([(14,.eq (vi (k:Int))),(7,.eq (.bool (decide (k=0))))]++_) _
 refine Ae ?_
 refine U (.l2 rfl rfl) ?_
 refine Am ?_
 refine CW.b rfl (fun h15=>?_) (fun h15=>?_)
 ·replace h15:=dQ h15
  have hkl:k<L.length+2:=by rw[Kz]at h15;exact cz.1 h15
  refine Ai (Ac (Ak (Ah (Ak ?_))))
  cases k with
  |zero=>
   obtain rfl:=hv0 rfl
   obtain⟨Bx,ox,ax,hcx⟩:=F4 hS.b1 0 (F8) rfl
   cases ax
   refine Aa (I rfl ?_)
   refine U (.Ar j1 kt (j:=0) (.t rfl) (.t rfl) (by rw[Kz];omega) rfl) ?_
   refine U (.lb rfl (hcx.nth (j:=0) rfl)) ?_
   refine LW.A rfl (LW.A rfl (Am (Ae (I rfl ?_))))
   refine U (.fa (Dv (.t rfl) (.const _)) (T6 (b:=[]) cQ)) ?_
   refine I rfl ?_
   refine Ap ?_
   refine I rfl ?_
   refine Ap ?_
   refine A3 (eC (.ct rfl (.cons (.const _) .nil)) (iM)) rfl (Vo (F8) [35] _) ?_
   rintro _ w5 ⟨rfl,uw5⟩
   have zw5:=uw5.size
   replace hS:=hS.up uw5
   rw[show Go.Lib.hasPrefix F8 [35]=false from rfl]
   refine U (.po rfl (fun hp=>wQ)) ?_
   refine Af ?_
   refine CW.f rfl ?_
   refine Ai (Ac (Ak (Ae (I rfl (I rfl ?_)))))
   replace hS:=hS.Ea 3 rfl
   change Wx.Sep _ _ _ [_,_,_,_,_]at hS
   replace hS:=hS.Ea 3 rfl
   change Wx.Sep _ _ _ [_,_,_,_,_]at hS
   replace hS:=hS.Ea 2 rfl
   change Wx.Sep _ _ _ [_,_,_,_,_]at hS
   have hq_:=(show Wx.Sep _ _ _ ([_,_,_,_]++[_])from hS)
   refine A3 (eC (.ct rfl (.ct rfl (.cu rfl))) (qO)) rfl (aU B5 _ (hG.up hS.Cl) (fun i⟨A_,h1,h2⟩=>by have h3:=((hq_.right.each A_ h1).2 i h2).resolve_left (fun h=>h);have:=hG.lt;omega) hq_.right.self) ?_
   rintro _ w6 ⟨rfl,uw6⟩
   replace hS:=hq_.frame uw6
   change Wx.Sep _ _ _ [_,_,_,_,_]at hS
   have zw6:=uw6.fr.size
   clear hq_
   replace hS:=(hS.Ea 2 rfl).Ea 2 rfl
   change Wx.Sep _ _ _ [_,_,_,_,_]at hS
   refine U (.n1 rfl) ?_
   refine Af ?_
   refine CW.f rfl ?_
   refine Ai (Ac (Aa ?_))
   refine U (.Ez (v':=.bool (decide (((0+1,Go.Value.slice none 0 0,M)).1=0))) (PEv.assign (.const _)) (by simp)) ?_
   refine LW.nil (Aj (Ac (Aa ?_)))
   refine U (.ic rfl oQ) ?_
   refine I rfl (LW.nil (Av ?_))
   exact⟨(0+1,Go.Value.slice none 0 0,M),⟨by show 0+1≤_;omega,hM,(fun h=>by cases h),hS⟩,tQ,by first|(show L.length+2-(0+1)<L.length+2-0;omega)|(show L.length+2-(M.length+1+1)<L.length+2-(M.length+1);omega)|(show L.length+2-(k1+1+1)<L.length+2-(k1+1);omega)⟩
  |succ k1=>
   cases hq6:decide (k1<L.length)with
   |true=>
    have hk1:=bw hq6
    obtain⟨s,hs⟩:=An (xs:=L) (i:=k1) hk1
    have hsm:=ae hs
    have hMl:M.length=k1:=by have:=hM.len;rw[cb]at this;omega
    obtain⟨Bx,ox,ax,hcx⟩:=F4 hS.b1 (k1+1) (C3 k1 s) (pM hs)
    cases ax
    refine Aa (I rfl ?_)
    refine U (.Ar j1 kt (j:=k1+1) (.t rfl) (.t rfl) (by rw[Kz];omega) rfl) ?_
    refine U (.lb rfl (hcx.nth (j:=0) rfl)) ?_
    refine LW.A rfl (LW.A rfl (Am (Ae (I rfl ?_))))
    refine U (.fa (Dv (.t rfl) (.const _)) (T6 (b:=[]) (fun e=>by cases e))) ?_
    refine I rfl ?_
    refine Ap ?_
    refine I rfl ?_
    refine Ap ?_
    refine A3 (eC (.ct rfl (.cons (.const _) .nil)) (iM)) rfl (Vo (C3 k1 s) [35] _) ?_
    rintro _ w7 ⟨rfl,uw7⟩
    have zw7:=uw7.size
    replace hS:=hS.up uw7
    rw[show Go.Lib.hasPrefix (C3 k1 s) [35]=false from rfl]
    refine U (.po rfl (fun hp=>wQ)) ?_
    refine Af ?_
    refine CW.f rfl ?_
    refine Ai (Ac (Ak (Ae (I rfl (I rfl ?_)))))
    replace hS:=hS.Ea 2 rfl
    change Wx.Sep _ _ _ [_,_,_,_,_]at hS
    replace hS:=hS.Ea 2 rfl
    change Wx.Sep _ _ _ [_,_,_,_,_]at hS
    replace hS:=hS.Ea 2 rfl
    change Wx.Sep _ _ _ [_,_,_,_,_]at hS
    have hq_:=(show Wx.Sep _ _ _ ([_,_]++[_,_,_])from hS)
    subst hMl
    refine A3 (eC (.ct rfl (.ct rfl (.cu rfl))) (qO)) rfl (aV B5 v M s (hL.sml s hsm) ((hL.ok s hsm).mono oQ) oQ _ (hG.up hS.Cl) (fun i⟨A_,h1,h2⟩=>by have h3:=((hq_.right.each A_ h1).2 i h2).resolve_left (fun h=>h);have:=hG.lt;omega) hq_.right.self) ?_
    rintro _ w8 ⟨rfl,v2,s2,hv2,uw8⟩
    replace hS:=hq_.frame uw8
    change Wx.Sep _ _ _ [_,_,_,_,_]at hS
    have zw8:=uw8.fr.size
    clear hq_
    refine U (.n1 rfl) ?_
    refine Af ?_
    refine CW.f rfl ?_
    refine Ai (Ac (Aa ?_))
    refine U (.Ez (v':=.bool (decide (((M.length+1+1,v2,M++[s2])).1=0))) (PEv.assign (.const _)) (by simp)) ?_
    refine LW.nil (Aj (Ac (Aa ?_)))
    refine U (.ic rfl oQ) ?_
    refine I rfl (LW.nil (Av ?_))
    exact⟨(M.length+1+1,v2,M++[s2]),⟨by show M.length+1+1≤_;omega,hM.snoc hs hv2,(fun h=>by cases h),hS⟩,tQ,by first|(show L.length+2-(0+1)<L.length+2-0;omega)|(show L.length+2-(M.length+1+1)<L.length+2-(M.length+1);omega)|(show L.length+2-(k1+1+1)<L.length+2-(k1+1);omega)⟩
   |false=>
    have hk1:=cc hq6
    have hkn:k1=L.length:=by omega
    obtain⟨Bx,ox,ax,hcx⟩:=F4 hS.b1 (k1+1) (([]:List UInt8)) (by rw[hkn];exact lJ L)
    cases ax
    refine Aa (I rfl ?_)
    refine U (.Ar j1 kt (j:=k1+1) (.t rfl) (.t rfl) (by rw[Kz];omega) rfl) ?_
    refine U (.lb rfl (hcx.nth (j:=0) rfl)) ?_
    refine LW.A rfl (LW.A rfl (Am (Ae (I rfl ?_))))
    refine U (.tr (Dv (.t rfl) (.const _)) (Rm (b:=[]) rfl)) ?_
    refine I rfl ?_
    refine Bh ?_
    refine Bh ?_
    refine U (.D5 (b:=false) (.t rfl) (fun hp=>absurd (show true=false from hp) cQ)) ?_
    refine Af ?_
    refine CW.v rfl ?_
    refine A8 (Ab (Ao (Ac (Aa ?_))))
    refine U (.ic rfl oQ) ?_
    refine I rfl (LW.nil (Av ?_))
    exact⟨(k1+1+1,v,M),⟨by show k1+1+1≤_;omega,(by show Same (L.take (k1+1)) M;rw[hkn,fg (Nat.le_succ _)];rw[hkn]at hM;rw[show L.length+1-1=L.length from rfl,bt]at hM;exact hM),(fun h=>by cases h),hS⟩,tQ,by first|(show L.length+2-(0+1)<L.length+2-0;omega)|(show L.length+2-(M.length+1+1)<L.length+2-(M.length+1);omega)|(show L.length+2-(k1+1+1)<L.length+2-(k1+1);omega)⟩
 replace h15:=dQ h15
 have hkn:k=L.length+2:=by rw[Kz]at h15;omega
 subst hkn
 replace hM:Same L M:=by rw[show L.length+2-1=L.length+1 from rfl,fg (Nat.le_succ _)]at hM;exact hM
 obtain⟨sa,sc,rfl,_⟩:=(hS.own 3 rfl).sl (fun _=>rfl)
 have hFl:=Vl hL hM (hS.own 3 rfl) (hS.get 4 rfl)
 refine A8 (Ab (Ab (Ao (Ac (Ak (Ae ?_))))))
 refine U (.lc rfl (hS.b2.agg)) ?_
 refine A3 (eC (.o rfl) (rP)) rfl (Kc sa none sc 0 M [] _ hFl) ?_
 rintro _ w9 ⟨rfl,uw9⟩
 have zw9:=uw9.size
 replace hS:=hS.up uw9
 replace hFl:=hFl.up uw9
 refine U (.n1 rfl) ?_
 refine Af ?_
 refine CW.f rfl ?_
 refine Ai (Ac (Ae ?_))
 refine U (.lc rfl (hS.b2.agg)) ?_
 have hS4:=hS
 refine Cb (.Ca lv rfl (.t rfl) (.t rfl) (G7 _ _ _ _ _ _) hS.b0 rfl) ?_
 intro w10 Nw10
 have zw10:=Nw10.size
 replace hS:=hS.D9 0 rfl (show Set_ _ w10 _ (Cu sa M.length sc none 0 0) _ from Nw10)
 change Wx.Sep _ _ _ [_,_,_,_,_]at hS
 refine Ay (Ay (Af (Al ?_)))
 refine gD rfl rfl rfl rfl isAgg28 lv rfl hS.b0.agg ⟨_,rfl,?_⟩
 exact⟨sa,sc,M,rfl,hM,⟨Vl hL hM (hS.own 3 rfl) (hS.get 4 rfl),FlB.of (k:=3) (m:=4) hS rfl rfl⟩,hS.Cl⟩
theorem dJ{k:Nat}{s:Sk}(h:0≤s.bk):C3 k s=((((((((((((((([115,116,101,112,32]++Dk (k:Int))++[32,114,101,99,105,112,101,32])++Dk s.rc)++[32,116,111,111,108,115,32])++Jd s.tl)++[32,116,105,109,101,32])++Dk s.mn)++[46,46])++Dk s.mx)++[32,110,101,120,116,32])++Jd s.nx)++[32,98,97,99,107,32])++Dk s.bk)++[32,108,105,109,105,116,32])++Dk s.lm):=by
 unfold C3 Gy Ju
 rw[ap h]
 simp[Dc,Dw,O2,Iq,Kv,Kw,Mm,Ro]
theorem lS{k:Nat}{s:Sk}(h:¬0≤s.bk):C3 k s=((((((((((([115,116,101,112,32]++Dk (k:Int))++[32,114,101,99,105,112,101,32])++Dk s.rc)++[32,116,111,111,108,115,32])++Jd s.tl)++[32,116,105,109,101,32])++Dk s.mn)++[46,46])++Dk s.mx)++[32,110,101,120,116,32])++Jd s.nx):=by
 unfold C3 Gy Ju
 rw[am h]
 simp[Dc,Dw,O2,Iq,Kv,Kw]
theorem E1(x:Int)(hx:Sm x)(w:World):Ret prog 38 #[vi x] w fun r w'=>r=.string (bs (Dk x))∧Up w w':=by
 have hW:=Up.refl w
 obtain⟨w0,rfl,_⟩:=W0 w
 obtain⟨m,rfl⟩:∃m:Nat,x=(m:Int):=⟨x.toNat,by have:=hx.1;omega⟩
 refine cT 21 func38 rfl ?_
 refine Ae (Ay (Am (Aa (Ay (Am (Ah ?_))))))
 refine A5 (σ:=Nat×List UInt8) (fun s w=>(DgI (m:Int) s.1 s.2)∧(Up w0 w)) (fun s=>[(0,.eq (vi (s.1:Int))),(3,.eq (.string (bs s.2)))]) ([(2,.eq _)]) (fun s=>s.1+(if s.2=[]then 1 else 0)) (m,[]) ?_ tQ ?_
 ·exact⟨⟨by have:=hx.2;show m<100;omega,rfl⟩,hW⟩
 rintro⟨y,l⟩ w1 ⟨hi,hW⟩
 dsimp only at hi
 have hly:=hi.lt
 have hll:=hi.le hx
 change CW _ _ _ _ _ _ _ ([(0,.eq (vi (y:Int))),(3,.eq (.string (bs l)))]++_) _
 refine Ak (Ak ?_)
 cases hq2:decide (l=[])with
 |true=>
  have hl:=bw hq2
  have hn:=hi.next (.inl hl)
  refine Aa (I rfl ?_)
  refine U (.tr (Dv (.t rfl) (.const _)) (Rm (b:=[]) hl)) ?_
  refine I rfl ?_
  refine Bh ?_
  refine Bh ?_
  refine U (.D5 (b:=false) (.t rfl) (fun hp=>absurd (show true=false from hp) cQ)) ?_
  refine Af ?_
  refine CW.v rfl ?_
  refine Ai (Ac (Ah (Ae (I rfl ?_))))
  refine U (.Ez (v':=vi ((y%10:Nat):Int)) (PEv.rem (.t rfl) (.const _) cQ) (aq vi rfl)) ?_
  refine U (.add (.const _) (.t rfl) oQ oQ) ?_
  refine U (.Ez (v':=bv (UInt8.ofNat (48+y%10))) (PEv.conv (k':=.u8) (by rw[jy];rfl) k_ (.t rfl)) (aq (Go.Value.int .u8) (DA (y%10) (Nat.mod_lt y (show 0<10 by decide))))) ?_
  refine Aq (.buildSlice (xs:=[UInt8.ofNat (48+y%10)]) (enc:=Nz) (mk:=bv) kl sizeOf5 lz rfl cQ (fun _=>rfl) (fun _=>rfl) (.cu rfl) rfl) rfl ?_
  rintro _ w2 ⟨B14,cB14,rfl,NB14,yB14,xB14⟩
  have eB14:=NB14.at_
  have zB14:=NB14.size
  replace hW:=hW.up NB14.up
  have hB14:=NB14.blk
  have hE14:=xB14
  refine U (.iZ kl k_ j7 (.t rfl) (Aw hE14)) ?_
  refine I rfl ?_
  refine U (.Fb ([UInt8.ofNat (48+y%10)]) (l) (.t rfl) (.t rfl) (by first|omega|(simp only[ai,bi];omega)) (by first|omega|(simp only[ah,ai,bi];omega))) ?_
  refine LW.A rfl (Af (Aa (I rfl ?_)))
  refine U (.Ez (v':=vi ((y/10:Nat):Int)) (PEv.quo (.t rfl) (.const _) cQ) (aq vi (Eg (i:=((y/10:Nat):Int)) oQ oQ))) ?_
  refine LW.A rfl (LW.nil (Aj (Av ?_)))
  exact⟨(y/10,UInt8.ofNat (48+y%10)::l),⟨hn,hW⟩,tQ,by first|(show y/10+0<y+(if l=[]then 1 else 0);rw[ap hl];omega)|(show y/10+0<y+(if l=[]then 1 else 0);omega)⟩
 |false=>
  have hl:=cc hq2
  refine Aa (I rfl ?_)
  refine U (.fa (Dv (.t rfl) (.const _)) (T6 (b:=[]) hl)) ?_
  refine I rfl ?_
  refine Ap ?_
  refine I rfl ?_
  refine Ap ?_
  refine U (.gtr (.t rfl) (.const _)) ?_
  refine U (.po rfl (fun hp=>wQ)) ?_
  refine Af ?_
  refine CW.b rfl (fun h9=>?_) (fun h9=>?_)
  ·replace h9:=dQ h9
   have hy0:0<y:=by simpa using h9
   have hn:=hi.next (.inr hy0)
   refine Ai (Ac (Ah (Ae (I rfl ?_))))
   refine U (.Ez (v':=vi ((y%10:Nat):Int)) (PEv.rem (.t rfl) (.const _) cQ) (aq vi rfl)) ?_
   refine U (.add (.const _) (.t rfl) oQ oQ) ?_
   refine U (.Ez (v':=bv (UInt8.ofNat (48+y%10))) (PEv.conv (k':=.u8) (by rw[jy];rfl) k_ (.t rfl)) (aq (Go.Value.int .u8) (DA (y%10) (Nat.mod_lt y (show 0<10 by decide))))) ?_
   refine Aq (.buildSlice (xs:=[UInt8.ofNat (48+y%10)]) (enc:=Nz) (mk:=bv) kl sizeOf5 lz rfl cQ (fun _=>rfl) (fun _=>rfl) (.cu rfl) rfl) rfl ?_
   rintro _ w3 ⟨B14,cB14,rfl,NB14,yB14,xB14⟩
   have eB14:=NB14.at_
   have zB14:=NB14.size
   replace hW:=hW.up NB14.up
   have hB14:=NB14.blk
   have hE14:=xB14
   refine U (.iZ kl k_ j7 (.t rfl) (Aw hE14)) ?_
   refine I rfl ?_
   refine U (.Fb ([UInt8.ofNat (48+y%10)]) (l) (.t rfl) (.t rfl) (by first|omega|(simp only[ai,bi];omega)) (by first|omega|(simp only[ah,ai,bi];omega))) ?_
   refine LW.A rfl (Af (Aa (I rfl ?_)))
   refine U (.Ez (v':=vi ((y/10:Nat):Int)) (PEv.quo (.t rfl) (.const _) cQ) (aq vi (Eg (i:=((y/10:Nat):Int)) oQ oQ))) ?_
   refine LW.A rfl (LW.nil (Aj (Av ?_)))
   exact⟨(y/10,UInt8.ofNat (48+y%10)::l),⟨hn,hW⟩,tQ,by first|(show y/10+0<y+(if l=[]then 1 else 0);rw[ap hl];omega)|(show y/10+0<y+(if l=[]then 1 else 0);omega)⟩
  replace h9:=dQ h9
  have hy0:y=0:=by simpa using h9
  refine A8 (Ab (Ab (Ao (Ac (Ae (I rfl (LW.A rfl (Af (Al ?_)))))))))
  refine KW.q ?_
  exact⟨by rw[hi.e,am hl,hy0,ap rfl];rfl,hW⟩
theorem Ub(ad:Option Addr)(cp:Nat)(l:List Int)(w:World)(hE:Els w ad 1 A6 l)(hl:l.length≤8)(hs:∀x∈l,Sm x):Ret prog 111 #[.slice ad l.length cp] w fun r w'=>r=.string (bs (Jd l))∧Up w w':=by
 have hW:=Up.refl w
 obtain⟨w0,rfl,_⟩:=W0 w
 refine cT 25 func111 rfl ?_
 refine Ae (Ay (Am (Aa (Ay (Am (Ae (Ay ?_)))))))
 refine Af (Ah ?_)
 refine A5 (σ:=Nat) (fun s w=>(s≤l.length)∧(Up w0 w)) (fun s=>[(4,.eq (vi (s:Int))),(3,.eq (.string (bs (lL (l.take s)))))]) ([(0,.eq _),(2,.eq _)]) (fun s=>l.length-s) 0 ?_ tQ ?_
 ·exact⟨au _,hW⟩
 rintro k w1 ⟨hk,hW⟩
 refine Ak (Ae (I rfl (I rfl ?_)))
 refine U (.Cn ju (.t rfl)) ?_
 refine U (.l2 rfl rfl) ?_
 refine Af ?_
 refine CW.b rfl (fun h8=>?_) (fun h8=>?_)
 ·replace h8:=dQ h8
  refine Ai (Ac (Ak (Ah (Ak (Ak ?_)))))
  have hkl:k<l.length:=cz.1 h8
  have hjl:=tM (l:=l.take k) (fun y hy=>hs y (List.mem_of_mem_take hy)) (by rw[cb];omega)
  obtain⟨x,hx⟩:=An (xs:=l) (i:=k) hkl
  have hdx:=(Ek (hs x (ae hx))).2.2.1
  obtain⟨Bx,ox,ax,hcx⟩:=(Els.up hE hW) k x hx
  cases k with
  |zero=>
   refine Aa (I rfl ?_)
   refine U (.fa (PEv.gtr (.t rfl) (.const _)) (rfl)) ?_
   refine Af ?_
   refine CW.f rfl ?_
   refine Ai (Ac (Aa (I rfl (I rfl (I rfl ?_)))))
   refine U (.Ar ju jw (.t rfl) (.t rfl) oQ ax) ?_
   refine U (.lb rfl (hcx.nth (j:=0) rfl)) ?_
   refine A3 (eC (.o rfl) (R0)) rfl (E1 x (hs x (ae hx)) _) ?_
   rintro _ w2 ⟨rfl,uw2⟩
   have zw2:=uw2.size
   replace hW:=hW.up uw2
   replace hcx:=hcx.up uw2
   refine U (.Fb (lL (l.take 0)) (Dk x) (.t rfl) (.t rfl) (by first|omega|(simp only[ah,ai,bi];omega)) (by first|omega|(simp only[ah,ai,bi];omega))) ?_
   refine LW.A rfl (LW.nil (Aj (Ac (Aa (I rfl ?_)))))
   refine U (.ic rfl oQ) ?_
   refine LW.A rfl (LW.nil (Av ?_))
   exact⟨0+1,⟨by omega,hW⟩,⟨rfl,by rw[X7 hx];rfl,rfl,rfl,trivial⟩,by first|omega|(dsimp only;omega)⟩
  |succ k1=>
   refine Aa (I rfl ?_)
   refine U (.tr (PEv.gtr (.t rfl) (.const _)) (be oQ)) ?_
   refine Af ?_
   refine CW.v rfl ?_
   refine Aa (I rfl ?_)
   refine U (.Fb (lL (l.take (k1+1))) ([44]) (.t rfl) (.const _) (by first|omega|(simp only[ah,ai,bi];omega)) (by first|omega|(simp only[ai,bi];omega))) ?_
   refine LW.A rfl (Af (Aa (I rfl (I rfl (I rfl ?_)))))
   refine U (.Ar ju jw (.t rfl) (.t rfl) oQ ax) ?_
   refine U (.lb rfl (hcx.nth (j:=0) rfl)) ?_
   refine A3 (eC (.o rfl) (R0)) rfl (E1 x (hs x (ae hx)) _) ?_
   rintro _ w3 ⟨rfl,uw3⟩
   have zw3:=uw3.size
   replace hW:=hW.up uw3
   replace hcx:=hcx.up uw3
   refine U (.Fb (lL (l.take (k1+1))++[44]) (Dk x) (.t rfl) (.t rfl) (by first|omega|(simp only[ah,ai,bi];omega)) (by first|omega|(simp only[ah,ai,bi];omega))) ?_
   refine LW.A rfl (LW.nil (Aj (Ac (Aa (I rfl ?_)))))
   refine U (.ic rfl oQ) ?_
   refine LW.A rfl (LW.nil (Av ?_))
   exact⟨k1+1+1,⟨by omega,hW⟩,⟨rfl,by rw[X7 hx];rfl,rfl,rfl,trivial⟩,by first|omega|(dsimp only;omega)⟩
 replace h8:=dQ h8
 have hkl:k=l.length:=by have:¬k<l.length:=fun h=>h8 (cz.2 h);omega
 subst hkl
 rw[bt]
 refine A8 (Ab (Ab (Ao (Ac (Ak (Ak ?_))))))
 cases hq8:decide (l=[])with
 |true=>
  have hl0:=bw hq8
  refine Aa (I rfl ?_)
  refine U (.tr (Dv (.t rfl) (.const _)) (Rm (b:=[]) (by rw[hl0];rfl))) ?_
  refine Af ?_
  refine CW.v rfl ?_
  refine Ae (Ay (Af (Al (Au ?_))))
  refine KW.q ?_
  first|exact⟨by rw[hl0];rfl,hW⟩|exact⟨by rw[hl0.2],hW⟩
 |false=>
  have hl0:=tN hs (cc hq8)
  refine Aa (I rfl ?_)
  refine U (.fa (Dv (.t rfl) (.const _)) (T6 (b:=[]) hl0.1)) ?_
  refine Af ?_
  refine CW.f rfl ?_
  refine Ai (Ac (Ae (I rfl (LW.A rfl (Af (Al ?_))))))
  refine KW.q ?_
  first|exact⟨by rw[hl0];rfl,hW⟩|exact⟨by rw[hl0.2],hW⟩
theorem Vp(k:Nat)(s:Sk)(hk:k<100)(hs:s.Sml)(w:World)(h1:Els w s.ta 1 A6 s.tl)(h2:Els w s.na 1 A6 s.nx):Ret prog 39 #[vi (k:Int),.agg s.cells] w fun r w'=>r=.string (bs (C3 k s))∧Up w w':=by
 obtain⟨w0,rfl,hS⟩:=W0 w
 refine cT 49 func39 rfl ?_
 refine Ae ?_
 refine Aq (.bA rfl) rfl ?_
 rintro _ w1 ⟨B3,rfl,NB3⟩
 have eB3:=NB3.at_
 have zB3:=NB3.size
 replace hS:=hS.Cc NB3
 change Wx.Sep _ _ _ [_]at hS
 refine Ay (Am ?_)
 have d1:=(Ek (n:=(k:Int)) ⟨gw _,by omega⟩).2.2.1
 have d2:=(Ek hs.rc).2.2.1
 have d3:=(Ek hs.mn).2.2.1
 have d4:=(Ek hs.mx).2.2.1
 have d5:=X6 hs.tl hs.tn.2
 have d6:=X6 hs.nx (by have:=hs.nn;omega)
 refine C7 kQ kQ rfl rfl ?_
 refine J (.mv rfl) ?_
 refine HW.c (fun a w _ ha=>Bm (.cu rfl) (R0) a ha) rfl rfl (fun w hu=>E1 (k:Int) ⟨gw _,by omega⟩ w) ?_
 refine J (.Fb ([115,116,101,112,32]) (Dk (k:Int)) (.const _) (.t rfl) (by first|omega|(simp only[ai,bi];omega)) (by first|omega|(simp only[ah,ai,bi];omega))) ?_
 refine J (.Fb (([115,116,101,112,32]++Dk (k:Int))) ([32,114,101,99,105,112,101,32]) (.t rfl) (.const _) (by first|omega|(simp only[ah,ai,bi];omega)) (by first|omega|(simp only[ai,bi];omega))) ?_
 refine J (.fB 0 rfl) ?_
 refine J (.lb rfl (hS.b0.Ad rfl)) ?_
 refine HW.c (fun a w _ ha=>Bm (.cu rfl) (R0) a ha) rfl rfl (fun w hu=>E1 s.rc hs.rc w) ?_
 refine J (.Fb ((([115,116,101,112,32]++Dk (k:Int))++[32,114,101,99,105,112,101,32])) (Dk s.rc) (.t rfl) (.t rfl) (by first|omega|(simp only[ah,ai,bi];omega)) (by first|omega|(simp only[ah,ai,bi];omega))) ?_
 refine J (.Fb (((([115,116,101,112,32]++Dk (k:Int))++[32,114,101,99,105,112,101,32])++Dk s.rc)) ([32,116,111,111,108,115,32]) (.t rfl) (.const _) (by first|omega|(simp only[ah,ai,bi];omega)) (by first|omega|(simp only[ai,bi];omega))) ?_
 refine J (.fB 1 rfl) ?_
 refine J (.lb rfl (hS.b0.Ad rfl)) ?_
 refine HW.c (fun a w _ ha=>Bm (.cu rfl) (qB) a ha) rfl rfl (fun w hu=>Ub s.ta s.tc s.tl w (Els.up h1 (hS.Cl.trans hu)) (by have:=hs.tn;omega) hs.tl) ?_
 refine J (.Fb ((((([115,116,101,112,32]++Dk (k:Int))++[32,114,101,99,105,112,101,32])++Dk s.rc)++[32,116,111,111,108,115,32])) (Jd s.tl) (.t rfl) (.t rfl) (by first|omega|(simp only[ah,ai,bi];omega)) (by first|omega|(simp only[ah,ai,bi];omega))) ?_
 refine J (.Fb (((((([115,116,101,112,32]++Dk (k:Int))++[32,114,101,99,105,112,101,32])++Dk s.rc)++[32,116,111,111,108,115,32])++Jd s.tl)) ([32,116,105,109,101,32]) (.t rfl) (.const _) (by first|omega|(simp only[ah,ai,bi];omega)) (by first|omega|(simp only[ai,bi];omega))) ?_
 refine J (.fB 2 rfl) ?_
 refine J (.lb rfl (hS.b0.Ad rfl)) ?_
 refine HW.c (fun a w _ ha=>Bm (.cu rfl) (R0) a ha) rfl rfl (fun w hu=>E1 s.mn hs.mn w) ?_
 refine J (.Fb ((((((([115,116,101,112,32]++Dk (k:Int))++[32,114,101,99,105,112,101,32])++Dk s.rc)++[32,116,111,111,108,115,32])++Jd s.tl)++[32,116,105,109,101,32])) (Dk s.mn) (.t rfl) (.t rfl) (by first|omega|(simp only[ah,ai,bi];omega)) (by first|omega|(simp only[ah,ai,bi];omega))) ?_
 refine J (.Fb (((((((([115,116,101,112,32]++Dk (k:Int))++[32,114,101,99,105,112,101,32])++Dk s.rc)++[32,116,111,111,108,115,32])++Jd s.tl)++[32,116,105,109,101,32])++Dk s.mn)) ([46,46]) (.t rfl) (.const _) (by first|omega|(simp only[ah,ai,bi];omega)) (by first|omega|(simp only[ai,bi];omega))) ?_
 refine J (.fB 3 rfl) ?_
 refine J (.lb rfl (hS.b0.Ad rfl)) ?_
 refine HW.c (fun a w _ ha=>Bm (.cu rfl) (R0) a ha) rfl rfl (fun w hu=>E1 s.mx hs.mx w) ?_
 refine J (.Fb ((((((((([115,116,101,112,32]++Dk (k:Int))++[32,114,101,99,105,112,101,32])++Dk s.rc)++[32,116,111,111,108,115,32])++Jd s.tl)++[32,116,105,109,101,32])++Dk s.mn)++[46,46])) (Dk s.mx) (.t rfl) (.t rfl) (by first|omega|(simp only[ah,ai,bi];omega)) (by first|omega|(simp only[ah,ai,bi];omega))) ?_
 refine J (.Fb (((((((((([115,116,101,112,32]++Dk (k:Int))++[32,114,101,99,105,112,101,32])++Dk s.rc)++[32,116,111,111,108,115,32])++Jd s.tl)++[32,116,105,109,101,32])++Dk s.mn)++[46,46])++Dk s.mx)) ([32,110,101,120,116,32]) (.t rfl) (.const _) (by first|omega|(simp only[ah,ai,bi];omega)) (by first|omega|(simp only[ai,bi];omega))) ?_
 refine J (.fB 4 rfl) ?_
 refine J (.lb rfl (hS.b0.Ad rfl)) ?_
 refine HW.c (fun a w _ ha=>Bm (.cu rfl) (qB) a ha) rfl rfl (fun w hu=>Ub s.na s.nc s.nx w (Els.up h2 (hS.Cl.trans hu)) (by have:=hs.nn;omega) hs.nx) ?_
 refine J (.Fb ((((((((((([115,116,101,112,32]++Dk (k:Int))++[32,114,101,99,105,112,101,32])++Dk s.rc)++[32,116,111,111,108,115,32])++Jd s.tl)++[32,116,105,109,101,32])++Dk s.mn)++[46,46])++Dk s.mx)++[32,110,101,120,116,32])) (Jd s.nx) (.t rfl) (.t rfl) (by first|omega|(simp only[ah,ai,bi];omega)) (by first|omega|(simp only[ah,ai,bi];omega))) ?_
 refine J (.assign (.t rfl)) ?_
 refine HW.nil ?_
 intro w2 uw2
 have zw2:=uw2.size
 replace hS:=hS.up uw2
 refine Ac (Ak (Ae ?_))
 refine U (.fB 5 rfl) ?_
 refine U (.lb rfl (hS.b0.Ad rfl)) ?_
 refine U (.geq (.t rfl) (.const _)) ?_
 refine Af ?_
 refine CW.b rfl (fun h36=>?_) (fun h36=>?_)
 ·replace h36:=dQ h36
  have hbk:0≤s.bk:=h36
  have hbs:=hs.bk.resolve_left (fun h=>by omega)
  have d7:=(Ek hbs.1).2.2.1
  have d8:=(Ek hbs.2).2.2.1
  refine Cz 11 kQ kQ kQ kQ kQ rfl rfl ?_
  refine J (.mv rfl) ?_
  refine J (.Fb (((((((((((([115,116,101,112,32]++Dk (k:Int))++[32,114,101,99,105,112,101,32])++Dk s.rc)++[32,116,111,111,108,115,32])++Jd s.tl)++[32,116,105,109,101,32])++Dk s.mn)++[46,46])++Dk s.mx)++[32,110,101,120,116,32])++Jd s.nx)) ([32,98,97,99,107,32]) (.t rfl) (.const _) (by first|omega|(simp only[ah,ai,bi];omega)) (by first|omega|(simp only[ai,bi];omega))) ?_
  refine J (.fB 5 rfl) ?_
  refine J (.lb rfl (hS.b0.Ad rfl)) ?_
  refine HW.c (fun a w _ ha=>Bm (.cu rfl) (R0) a ha) rfl rfl (fun w hu=>E1 s.bk hbs.1 w) ?_
  refine J (.Fb ((((((((((((([115,116,101,112,32]++Dk (k:Int))++[32,114,101,99,105,112,101,32])++Dk s.rc)++[32,116,111,111,108,115,32])++Jd s.tl)++[32,116,105,109,101,32])++Dk s.mn)++[46,46])++Dk s.mx)++[32,110,101,120,116,32])++Jd s.nx)++[32,98,97,99,107,32])) (Dk s.bk) (.t rfl) (.t rfl) (by first|omega|(simp only[ah,ai,bi];omega)) (by first|omega|(simp only[ah,ai,bi];omega))) ?_
  refine J (.Fb (((((((((((((([115,116,101,112,32]++Dk (k:Int))++[32,114,101,99,105,112,101,32])++Dk s.rc)++[32,116,111,111,108,115,32])++Jd s.tl)++[32,116,105,109,101,32])++Dk s.mn)++[46,46])++Dk s.mx)++[32,110,101,120,116,32])++Jd s.nx)++[32,98,97,99,107,32])++Dk s.bk)) ([32,108,105,109,105,116,32]) (.t rfl) (.const _) (by first|omega|(simp only[ah,ai,bi];omega)) (by first|omega|(simp only[ai,bi];omega))) ?_
  refine J (.fB 6 rfl) ?_
  refine J (.lb rfl (hS.b0.Ad rfl)) ?_
  refine HW.c (fun a w _ ha=>Bm (.cu rfl) (R0) a ha) rfl rfl (fun w hu=>E1 s.lm hbs.2 w) ?_
  refine J (.Fb ((((((((((((((([115,116,101,112,32]++Dk (k:Int))++[32,114,101,99,105,112,101,32])++Dk s.rc)++[32,116,111,111,108,115,32])++Jd s.tl)++[32,116,105,109,101,32])++Dk s.mn)++[46,46])++Dk s.mx)++[32,110,101,120,116,32])++Jd s.nx)++[32,98,97,99,107,32])++Dk s.bk)++[32,108,105,109,105,116,32])) (Dk s.lm) (.t rfl) (.t rfl) (by first|omega|(simp only[ah,ai,bi];omega)) (by first|omega|(simp only[ah,ai,bi];omega))) ?_
  refine HW.nil ?_
  intro w3 uw3
  have zw3:=uw3.size
  replace hS:=hS.up uw3
  refine LW.A rfl (Am (Aa (I rfl (LW.A rfl (Af (Al ?_))))))
  refine KW.q ?_
  first|exact⟨by rw[dJ hbk],hS.Cl⟩|exact⟨by rw[lS hbk],hS.Cl⟩
 replace h36:=dQ h36
 have hbk:¬0≤s.bk:=h36
 refine Ai (Ac (Ae (I rfl (LW.A rfl (Af (Al ?_))))))
 refine KW.q ?_
 first|exact⟨by rw[dJ hbk],hS.Cl⟩|exact⟨by rw[lS hbk],hS.Cl⟩
theorem Ev(n lo hi:Int)(w:World)(h:lo≤n∧n≤hi):Ret prog 108 #[vi n,vi lo,vi hi] w fun r w'=>r=.bool true∧Up w w':=by
 have hW:=Up.refl w
 refine cT 15 func108 rfl ?_
 refine Ae (Ay (Am (Aa (I rfl (I rfl ?_)))))
 refine U (.tr (PEv.geq (.t rfl) (.t rfl)) (be h.1)) ?_
 refine I rfl ?_
 refine Ap ?_
 refine I rfl ?_
 refine Ap ?_
 refine I rfl ?_
 refine Ap ?_
 refine U (.tr (PEv.leq (.t rfl) (.t rfl)) (be h.2)) ?_
 refine U (.pa rfl (fun hp=>wQ)) ?_
 refine LW.A rfl (Af (Al ?_))
 refine KW.q ?_
 exact⟨rfl,hW⟩
theorem aW(w:World):Ret prog 107 #[vi 2,vi 5] w fun r w'=>r=.bool true∧Up w w':=by
 have hW:=Up.refl w
 refine cT 16 func107 rfl ?_
 refine Ae (Ay (Am (Aa (I rfl ?_))))
 refine U (.geq (.t rfl) (.const _)) ?_
 refine I rfl ?_
 refine F5 rfl rfl ?_
 refine F5 rfl rfl ?_
 refine LW.gr rfl (fun hc=>PEv.leq vQ vQ) ?_
 refine U (.pa rfl (fun hp=>wQ)) ?_
 refine I rfl ?_
 refine F5 rfl rfl ?_
 refine LW.gr rfl (fun hc=>PEv.leq vQ (.const _)) ?_
 refine U (.pa rfl (fun hp=>wQ)) ?_
 refine LW.A rfl (Af (Al ?_))
 refine KW.q ?_
 exact⟨rfl,hW⟩
theorem Yf(ad:Option Addr)(cp:Nat)(l:List Int)(lo hi:Int)(w:World)(hE:Els w ad 1 A6 l)(hl:l.length≤100)(hr:AscR l lo hi):Ret prog 179 #[.slice ad l.length cp,vi lo,vi hi] w fun r w'=>r=.bool true∧Up w w':=by
 have hW:=Up.refl w
 obtain⟨w0,rfl,_⟩:=W0 w
 refine cT 38 func179 rfl ?_
 refine Ae (Ay (Am (Ae (Ay (Af (Ah ?_))))))
 refine A5 (σ:=Nat) (fun s w=>(s≤l.length)∧(Up w0 w)) (fun s=>[(7,.eq (vi (s:Int)))]) ([(0,.eq _),(1,.eq _),(2,.eq _)]) (fun s=>l.length-s) 0 ?_ tQ ?_
 ·exact⟨au _,hW⟩
 rintro k w1 ⟨hk,hW⟩
 refine Ak (Ae (I rfl (I rfl ?_)))
 refine U (.Cn ju (.t rfl)) ?_
 refine U (.l2 rfl rfl) ?_
 refine Af ?_
 refine CW.b rfl (fun h11=>?_) (fun h11=>?_)
 ·replace h11:=dQ h11
  refine Ai (Ac (Ak (Ah (Ak ?_))))
  have hkl:k<l.length:=cz.1 h11
  obtain⟨x,hx⟩:=An (xs:=l) (i:=k) hkl
  obtain⟨Bx,ox,ax,hcx⟩:=(Els.up hE hW) k x hx
  cases k with
  |zero=>
   refine C7 kQ kQ rfl rfl ?_
   refine J (.mv rfl) ?_
   refine J (.mv rfl) ?_
   refine J (.Ar ju jw (j:=0) (.t rfl) (.t rfl) oQ ax) ?_
   refine J (.lb rfl (hcx.nth (j:=0) rfl)) ?_
   refine J (.mv rfl) ?_
   refine J (.mv rfl) ?_
   refine HW.c (fun a w _ ha=>Bm (.ct rfl (.ct rfl (.cu rfl))) (Mt) a ha) rfl rfl (fun w hu=>Ev _ _ _ w (by exact hr.r x (ae hx))) ?_
   refine J (.fa (PEv.n1 rfl) (rfl)) ?_
   refine J (.mv rfl) ?_
   refine Cv (.mv rfl) ?_
   refine Cv (.fa (PEv.gtr (.t rfl) (.const _)) (rfl)) ?_
   refine Cv (.mv rfl) ?_
   refine Dq ?_
   refine Dq ?_
   refine Dq ?_
   refine Dq ?_
   refine Dq ?_
   refine Dq ?_
   refine Dq ?_
   refine Dq ?_
   refine Dq ?_
   refine Dq ?_
   refine Cv (.C0 (b:=false) (.t rfl) (fun hp=>absurd (show false=true from hp) cQ)) ?_
   refine J (.po rfl (fun hp=>wQ)) ?_
   refine HW.nil ?_
   intro w2 uw2
   have zw2:=uw2.size
   replace hW:=hW.up uw2
   refine Ac ?_
   refine CW.f rfl ?_
   refine Ai (Aj (Ac (Aa (I rfl ?_))))
   refine U (.ic rfl oQ) ?_
   refine LW.A rfl (LW.nil (Av ?_))
   exact⟨0+1,⟨by omega,hW⟩,tQ,by first|omega|(dsimp only;omega)⟩
  |succ k1=>
   obtain⟨y,hy⟩:=An (xs:=l) (i:=k1) oQ
   obtain⟨By,oy,ay,hcy⟩:=(Els.up hE hW) k1 y hy
   have hyx:=jB hr.a hy hx
   refine C7 kQ kQ rfl rfl ?_
   refine J (.mv rfl) ?_
   refine J (.mv rfl) ?_
   refine J (.Ar ju jw (j:=k1+1) (.t rfl) (.t rfl) oQ ax) ?_
   refine J (.lb rfl (hcx.nth (j:=0) rfl)) ?_
   refine J (.mv rfl) ?_
   refine J (.mv rfl) ?_
   refine HW.c (fun a w _ ha=>Bm (.ct rfl (.ct rfl (.cu rfl))) (Mt) a ha) rfl rfl (fun w hu=>Ev _ _ _ w (by exact hr.r x (ae hx))) ?_
   refine J (.fa (PEv.n1 rfl) (rfl)) ?_
   refine J (.mv rfl) ?_
   refine Cv (.mv rfl) ?_
   refine Cv (.tr (PEv.gtr (.t rfl) (.const _)) (be oQ)) ?_
   refine Cv (.mv rfl) ?_
   refine Cv (.mv rfl) ?_
   refine Cv (.mv rfl) ?_
   refine Cv (.Ar ju jw (j:=k1+1) (.t rfl) (.t rfl) oQ ax) ?_
   refine Cv (.lb rfl (hcx.nth (j:=0) rfl)) ?_
   refine Cv (.mv rfl) ?_
   refine Cv (.mv rfl) ?_
   refine Cv (.Ez (v':=vi (k1:Int)) (PEv.sub (.t rfl) (.const _) oQ oQ) (aq vi oQ)) ?_
   refine Cv (.Ar ju jw (j:=k1) (.t rfl) (.t rfl) oQ ay) ?_
   refine Cv (.lb rfl (hcy.nth (j:=0) rfl)) ?_
   refine Cv (.fa (PEv.leq (.t rfl) (.t rfl)) (bn oQ)) ?_
   refine Cv (.pa rfl (fun hp=>wQ)) ?_
   refine J (.po rfl (fun hp=>wQ)) ?_
   refine HW.nil ?_
   intro w3 uw3
   have zw3:=uw3.size
   replace hW:=hW.up uw3
   refine Ac ?_
   refine CW.f rfl ?_
   refine Ai (Aj (Ac (Aa (I rfl ?_))))
   refine U (.ic rfl oQ) ?_
   refine LW.A rfl (LW.nil (Av ?_))
   exact⟨k1+1+1,⟨by omega,hW⟩,tQ,by first|omega|(dsimp only;omega)⟩
 replace h11:=dQ h11
 refine A8 (Ab (Ab (Ao (Ac (Ae (Ay (Af (Al ?_))))))))
 refine KW.q ?_
 exact⟨rfl,hW⟩
theorem gL(s:Sk)(n:Int)(w:World)(hn:0≤n∧n≤1000)(hg:s.Ok n)(h1:Els w s.ta 1 A6 s.tl)(h2:Els w s.na 1 A6 s.nx):Ret prog 109 #[.agg s.cells,vi n] w fun r w'=>r=.bool true∧Up w w':=by
 obtain⟨w0,rfl,hS⟩:=W0 w
 refine cT 77 func109 rfl ?_
 refine Ae ?_
 refine Aq (.bA rfl) rfl ?_
 rintro _ w1 ⟨B2,rfl,NB2⟩
 have eB2:=NB2.at_
 have zB2:=NB2.size
 replace hS:=hS.Cc NB2
 change Wx.Sep _ _ _ [_]at hS
 refine Ay (Am (Aa ?_))
 refine U (.fB 1 rfl) ?_
 refine U (.lb rfl (hS.b0.Ad rfl)) ?_
 refine A3 (eC (.ct rfl (.cons (.const _) (.cons (.const _) .nil))) (qM)) rfl (Yf s.ta s.tc s.tl 0 59 _ (Els.up h1 hS.Cl) (by have:=hg.tl;omega) hg.ta) ?_
 rintro _ w2 ⟨rfl,uw2⟩
 have zw2:=uw2.size
 replace hS:=hS.up uw2
 refine LW.A rfl (Am (Aa ?_))
 refine U (.fB 4 rfl) ?_
 refine U (.lb rfl (hS.b0.Ad rfl)) ?_
 refine I rfl ?_
 refine U (.sub (.t rfl) (.const _) oQ oQ) ?_
 refine A3 (eC (.ct rfl (.cons (.const _) (.cu rfl))) (qM)) rfl (Yf s.na s.nc s.nx 0 (n-1) _ (Els.up h2 hS.Cl) (by have:=hg.nl;omega) hg.nx) ?_
 rintro _ w3 ⟨rfl,uw3⟩
 have zw3:=uw3.size
 replace hS:=hS.up uw3
 refine LW.A rfl (Am ?_)
 cases hq3:decide (s.bk= -1)with
 |true=>
  obtain⟨e1,e2⟩:=hg.bk.resolve_right (fun h=>by have:=bw hq3;omega)
  refine Aa ?_
  refine U (.fB 5 rfl) ?_
  refine U (.lb rfl (hS.b0.Ad rfl)) ?_
  refine U (.tr (PEv.eql (.t rfl) (.const _)) (be e1)) ?_
  refine I rfl ?_
  refine Ap ?_
  refine U (.fB 6 rfl) ?_
  refine Ap ?_
  refine U (.lb rfl (hS.b0.Ad rfl)) ?_
  refine Ap ?_
  refine U (.tr (PEv.eql (.t rfl) (.const _)) (be e2)) ?_
  refine U (.pa rfl (fun hp=>wQ)) ?_
  refine I rfl ?_
  refine Bh ?_
  refine Bh ?_
  refine Bh ?_
  refine Bh ?_
  refine Bh ?_
  refine Bh ?_
  refine H2 rfl rfl rfl rfl rfl rfl ?_
  refine H2 rfl rfl rfl rfl rfl rfl ?_
  refine H2 rfl rfl rfl rfl rfl rfl ?_
  refine Bh ?_
  refine U (.D5 (b:=false) (.t rfl) (fun hp=>absurd (show true=false from hp) cQ)) ?_
  refine LW.A rfl (Am (Aa (I rfl (I rfl ?_))))
  refine Ap ?_
  refine I rfl ?_
  refine U (.pa rfl (fun hp=>wQ)) ?_
  refine I rfl ?_
  refine Ap ?_
  refine I rfl ?_
  refine U (.pa rfl (fun hp=>wQ)) ?_
  refine I rfl ?_
  refine Ap ?_
  refine U (.fB 0 rfl) ?_
  refine Ap ?_
  refine U (.lb rfl (hS.b0.Ad rfl)) ?_
  refine Ap ?_
  refine A3 (eC (.ct rfl (.cons (.const _) (.cons (.const _) .nil))) (Mt)) rfl (Ev _ _ _ _ (by have:=hg.rc;omega)) ?_
  rintro _ w4 ⟨rfl,uw4⟩
  have zw4:=uw4.size
  replace hS:=hS.up uw4
  refine U (.pa rfl (fun hp=>wQ)) ?_
  refine I rfl ?_
  refine Ap ?_
  refine U (.fB 1 rfl) ?_
  refine Ap ?_
  refine U (.lb rfl (hS.b0.Ad rfl)) ?_
  refine Ap ?_
  refine U (.Cn ju (.t rfl)) ?_
  refine Ap ?_
  refine A3 (eC (.ct rfl (.cons (.const _) (.cons (.const _) .nil))) (Mt)) rfl (Ev _ _ _ _ (by have:=hg.tl;omega)) ?_
  rintro _ w5 ⟨rfl,uw5⟩
  have zw5:=uw5.size
  replace hS:=hS.up uw5
  refine U (.pa rfl (fun hp=>wQ)) ?_
  refine I rfl ?_
  refine Ap ?_
  refine U (.fB 4 rfl) ?_
  refine Ap ?_
  refine U (.lb rfl (hS.b0.Ad rfl)) ?_
  refine Ap ?_
  refine U (.Cn ju (.t rfl)) ?_
  refine Ap ?_
  refine U (.tr (PEv.leq (.t rfl) (.const _)) (be (by have:=hg.nl;omega))) ?_
  refine U (.pa rfl (fun hp=>wQ)) ?_
  refine I rfl ?_
  refine Ap ?_
  refine U (.fB 2 rfl) ?_
  refine Ap ?_
  refine U (.lb rfl (hS.b0.Ad rfl)) ?_
  refine Ap ?_
  refine U (.tr (PEv.geq (.t rfl) (.const _)) (be (by have:=hg.mn;omega))) ?_
  refine U (.pa rfl (fun hp=>wQ)) ?_
  refine I rfl ?_
  refine Ap ?_
  refine U (.fB 2 rfl) ?_
  refine Ap ?_
  refine U (.lb rfl (hS.b0.Ad rfl)) ?_
  refine Ap ?_
  refine U (.fB 3 rfl) ?_
  refine Ap ?_
  refine U (.lb rfl (hS.b0.Ad rfl)) ?_
  refine Ap ?_
  refine U (.tr (PEv.leq (.t rfl) (.t rfl)) (be (by have:=hg.mn;omega))) ?_
  refine U (.pa rfl (fun hp=>wQ)) ?_
  refine I rfl ?_
  refine Ap ?_
  refine U (.fB 3 rfl) ?_
  refine Ap ?_
  refine U (.lb rfl (hS.b0.Ad rfl)) ?_
  refine Ap ?_
  refine U (.tr (PEv.leq (.t rfl) (.const _)) (be (by have:=hg.mn;omega))) ?_
  refine U (.pa rfl (fun hp=>wQ)) ?_
  refine LW.A rfl (Af (Al ?_))
  refine KW.q ?_
  exact⟨rfl,hS.Cl⟩
 |false=>
  obtain⟨e1,e2⟩:=hg.bk.resolve_left (fun h=>by have:=cc hq3;omega)
  refine Aa ?_
  refine U (.fB 5 rfl) ?_
  refine U (.lb rfl (hS.b0.Ad rfl)) ?_
  refine U (.fa (PEv.eql (.t rfl) (.const _)) (bn oQ)) ?_
  refine I rfl ?_
  refine Bh ?_
  refine Bh ?_
  refine Bh ?_
  refine U (.C0 (b:=false) (.t rfl) (fun hp=>absurd (show false=true from hp) cQ)) ?_
  refine I rfl ?_
  refine Ap ?_
  refine U (.fB 5 rfl) ?_
  refine Ap ?_
  refine U (.lb rfl (hS.b0.Ad rfl)) ?_
  refine Ap ?_
  refine I rfl ?_
  refine Ap ?_
  refine U (.sub (.t rfl) (.const _) oQ oQ) ?_
  refine Ap ?_
  refine A3 (eC (.ct rfl (.cons (.const _) (.cu rfl))) (Mt)) rfl (Ev _ _ _ _ oQ) ?_
  rintro _ w6 ⟨rfl,uw6⟩
  have zw6:=uw6.size
  replace hS:=hS.up uw6
  refine Ap ?_
  refine I rfl ?_
  refine Ap ?_
  refine U (.fB 6 rfl) ?_
  refine Ap ?_
  refine U (.lb rfl (hS.b0.Ad rfl)) ?_
  refine Ap ?_
  refine A3 (eC (.ct rfl (.cons (.const _) (.cons (.const _) .nil))) (Mt)) rfl (Ev _ _ _ _ oQ) ?_
  rintro _ w7 ⟨rfl,uw7⟩
  have zw7:=uw7.size
  replace hS:=hS.up uw7
  refine Ap ?_
  refine U (.pa rfl (fun hp=>wQ)) ?_
  refine U (.po rfl (fun hp=>wQ)) ?_
  refine LW.A rfl (Am (Aa (I rfl (I rfl ?_))))
  refine Ap ?_
  refine I rfl ?_
  refine U (.pa rfl (fun hp=>wQ)) ?_
  refine I rfl ?_
  refine Ap ?_
  refine I rfl ?_
  refine U (.pa rfl (fun hp=>wQ)) ?_
  refine I rfl ?_
  refine Ap ?_
  refine U (.fB 0 rfl) ?_
  refine Ap ?_
  refine U (.lb rfl (hS.b0.Ad rfl)) ?_
  refine Ap ?_
  refine A3 (eC (.ct rfl (.cons (.const _) (.cons (.const _) .nil))) (Mt)) rfl (Ev _ _ _ _ (by have:=hg.rc;omega)) ?_
  rintro _ w8 ⟨rfl,uw8⟩
  have zw8:=uw8.size
  replace hS:=hS.up uw8
  refine U (.pa rfl (fun hp=>wQ)) ?_
  refine I rfl ?_
  refine Ap ?_
  refine U (.fB 1 rfl) ?_
  refine Ap ?_
  refine U (.lb rfl (hS.b0.Ad rfl)) ?_
  refine Ap ?_
  refine U (.Cn ju (.t rfl)) ?_
  refine Ap ?_
  refine A3 (eC (.ct rfl (.cons (.const _) (.cons (.const _) .nil))) (Mt)) rfl (Ev _ _ _ _ (by have:=hg.tl;omega)) ?_
  rintro _ w9 ⟨rfl,uw9⟩
  have zw9:=uw9.size
  replace hS:=hS.up uw9
  refine U (.pa rfl (fun hp=>wQ)) ?_
  refine I rfl ?_
  refine Ap ?_
  refine U (.fB 4 rfl) ?_
  refine Ap ?_
  refine U (.lb rfl (hS.b0.Ad rfl)) ?_
  refine Ap ?_
  refine U (.Cn ju (.t rfl)) ?_
  refine Ap ?_
  refine U (.tr (PEv.leq (.t rfl) (.const _)) (be (by have:=hg.nl;omega))) ?_
  refine U (.pa rfl (fun hp=>wQ)) ?_
  refine I rfl ?_
  refine Ap ?_
  refine U (.fB 2 rfl) ?_
  refine Ap ?_
  refine U (.lb rfl (hS.b0.Ad rfl)) ?_
  refine Ap ?_
  refine U (.tr (PEv.geq (.t rfl) (.const _)) (be (by have:=hg.mn;omega))) ?_
  refine U (.pa rfl (fun hp=>wQ)) ?_
  refine I rfl ?_
  refine Ap ?_
  refine U (.fB 2 rfl) ?_
  refine Ap ?_
  refine U (.lb rfl (hS.b0.Ad rfl)) ?_
  refine Ap ?_
  refine U (.fB 3 rfl) ?_
  refine Ap ?_
  refine U (.lb rfl (hS.b0.Ad rfl)) ?_
  refine Ap ?_
  refine U (.tr (PEv.leq (.t rfl) (.t rfl)) (be (by have:=hg.mn;omega))) ?_
  refine U (.pa rfl (fun hp=>wQ)) ?_
  refine I rfl ?_
  refine Ap ?_
  refine U (.fB 3 rfl) ?_
  refine Ap ?_
  refine U (.lb rfl (hS.b0.Ad rfl)) ?_
  refine Ap ?_
  refine U (.tr (PEv.leq (.t rfl) (.const _)) (be (by have:=hg.mn;omega))) ?_
  refine U (.pa rfl (fun hp=>wQ)) ?_
  refine LW.A rfl (Af (Al ?_))
  refine KW.q ?_
  exact⟨rfl,hS.Cl⟩
theorem Yg(sa:Option Addr)(sc:Nat)(L:List Sk)(w:World)(hF:FlG w sa none L []):Ret prog 37 #[.agg (Cu sa L.length sc none 0 0)] w fun r w'=>r=.bool true∧Up w w':=by
 obtain⟨w0,rfl,hS⟩:=W0 w
 have hlen:=hF.len
 refine cT 73 func37 rfl ?_
 refine Ae ?_
 refine Aq (.bA rfl) rfl ?_
 rintro _ w1 ⟨B1,rfl,NB1⟩
 have eB1:=NB1.at_
 have zB1:=NB1.size
 replace hS:=hS.Cc NB1
 change Wx.Sep _ _ _ [_]at hS
 refine Ay (Am (Aa ?_))
 refine U (.fB 2 rfl) ?_
 refine U (.lb rfl (hS.b0.Ad rfl)) ?_
 refine U (.Cn j0 (.t rfl)) ?_
 refine LW.A rfl (Am (Ae ?_))
 refine U (.fB 0 rfl) ?_
 refine U (.lb rfl (hS.b0.Ad rfl)) ?_
 refine U (.fB 1 rfl) ?_
 refine U (.lb rfl (hS.b0.Ad rfl)) ?_
 refine A3 (eC (.u rfl rfl) (vA)) rfl (aW _) ?_
 rintro _ w2 ⟨rfl,uw2⟩
 have zw2:=uw2.size
 replace hS:=hS.up uw2
 refine U (.n1 rfl) ?_
 refine I rfl ?_
 refine Ap ?_
 refine I rfl ?_
 refine Ap ?_
 refine A3 (eC (.ct rfl (.cons (.const _) (.cons (.const _) .nil))) (Mt)) rfl (Ev _ _ _ _ oQ) ?_
 rintro _ w3 ⟨rfl,uw3⟩
 have zw3:=uw3.size
 replace hS:=hS.up uw3
 refine Ap ?_
 refine U (.n1 rfl) ?_
 refine U (.po rfl (fun hp=>wQ)) ?_
 refine I rfl ?_
 refine Ap ?_
 refine U (.fB 3 rfl) ?_
 refine Ap ?_
 refine U (.lb rfl (hS.b0.Ad rfl)) ?_
 refine Ap ?_
 refine U (.Cn j9 (.t rfl)) ?_
 refine Ap ?_
 refine U (.fa (PEv.gtr (.t rfl) (.const _)) (rfl)) ?_
 refine U (.po rfl (fun hp=>wQ)) ?_
 refine Af ?_
 refine CW.f rfl ?_
 refine Ai (Ac (Ak (Ae (Ay (Af (Ah ?_))))))
 refine A5 (σ:=Nat) (fun s w=>(s≤L.length)∧(Wx.Sep no w0 w [A4 B1 (Cu sa L.length sc none 0 0) 28])) (fun s=>[(4,.eq (vi (s:Int)))]) ([(1,.eq _),(3,.eq _)]) (fun s=>L.length-s) 0 ?_ tQ ?_
 ·exact⟨au _,hS⟩
 rintro k w4 ⟨hk,hS⟩
 refine Ak (Ae (I rfl (I rfl ?_)))
 refine U (.l2 rfl rfl) ?_
 refine Af ?_
 refine CW.b rfl (fun h28=>?_) (fun h28=>?_)
 ·replace h28:=dQ h28
  refine Ai (Ac (Ak (Ah (Ak ?_))))
  have hkl:k<L.length:=cz.1 h28
  obtain⟨s,hs⟩:=An (xs:=L) (i:=k) hkl
  obtain⟨Bs,os,as_,hcs⟩:=(Els.up hF.E hS.Cl) k s hs
  refine Aa ?_
  refine U (.fB 2 rfl) ?_
  refine U (.lb rfl (hS.b0.Ad rfl)) ?_
  refine I rfl ?_
  refine U (.Ar j0 kh (j:=k) (.t rfl) (.t rfl) oQ as_) ?_
  refine U (.lc rfl (hcs)) ?_
  refine I rfl ?_
  refine A3 (eC (.u rfl rfl) (vB)) rfl (gL s L.length _ oQ (hF.g s (ae hs)) (Els.up (hF.p s (ae hs)).1 hS.Cl) (Els.up (hF.p s (ae hs)).2 hS.Cl)) ?_
  rintro _ w5 ⟨rfl,uw5⟩
  have zw5:=uw5.size
  replace hS:=hS.up uw5
  refine U (.n1 rfl) ?_
  refine Af ?_
  refine CW.f rfl ?_
  refine Ai (Aj (Ac (Aa (I rfl ?_))))
  refine U (.ic rfl oQ) ?_
  refine LW.A rfl (LW.nil (Av ?_))
  exact⟨k+1,⟨by omega,hS⟩,tQ,by first|omega|(dsimp only;omega)⟩
 replace h28:=dQ h28
 refine A8 (Ab (Ab (Ao (Ac (Ak (Ae (Ay (Af (Ah ?_)))))))))
 refine A5 (σ:=Nat) (fun s w=>(s=0)∧(Wx.Sep no w0 w [A4 B1 (Cu sa L.length sc none 0 0) 28])) (fun s=>[(5,.eq (vi (s:Int)))]) ([(1,.eq _),(3,.eq _)]) (fun s=>1-s) 0 ?_ tQ ?_
 ·exact⟨rfl,hS⟩
 rintro j w6 ⟨hj,hS⟩
 subst hj
 refine Ak (Ae (I rfl ?_))
 refine U (.fB 3 rfl) ?_
 refine U (.lb rfl (hS.b0.Ad rfl)) ?_
 refine U (.Cn j9 (.t rfl)) ?_
 refine U (.fa (PEv.l2 rfl rfl) (rfl)) ?_
 refine Af ?_
 refine CW.f rfl ?_
 refine A8 (Ab (Ab (Ao (Ac (Ae (Ay (Af (Al ?_))))))))
 refine KW.q ?_
 exact⟨rfl,hS.Cl⟩
theorem gM(sa:Option Addr)(sc:Nat)(L:List Sk)(w:World)(hF:FlG w sa none L [])(hL:FlS L):Ret prog 16 #[.agg (Cu sa L.length sc none 0 0)] w fun r w'=>r=.tuple #[.string (bs (Dr L)),vi 0]∧Up w w':=by
 obtain⟨w0,rfl,hS⟩:=W0 w
 have hlen:=hF.len
 refine cT 54 func16 rfl ?_
 refine Ae ?_
 refine Aq (.bA rfl) rfl ?_
 rintro _ w1 ⟨B1,rfl,NB1⟩
 have eB1:=NB1.at_
 have zB1:=NB1.size
 replace hS:=hS.Cc NB1
 change Wx.Sep _ _ _ [_]at hS
 refine Ay (Ay (Am (Ae ?_)))
 refine U (.lc rfl (hS.b0.agg)) ?_
 refine A3 (eC (.o rfl) (AL)) rfl (Yg sa sc L _ (hF.up hS.Cl)) ?_
 rintro _ w2 ⟨rfl,uw2⟩
 have zw2:=uw2.size
 replace hS:=hS.up uw2
 refine U (.n1 rfl) ?_
 refine Af ?_
 refine CW.f rfl ?_
 refine Ai (Ac (Ak ?_))
 have d2:=(Ek (n:=2) ⟨by decide,by decide⟩).2.2.1
 have d5:=(Ek (n:=5) ⟨by decide,by decide⟩).2.2.1
 refine C7 kQ kQ rfl rfl ?_
 refine J (.fB 0 rfl) ?_
 refine J (.lb rfl (hS.b0.Ad rfl)) ?_
 refine HW.c (fun a w _ ha=>Bm (.cu rfl) (R0) a ha) rfl rfl (fun w hu=>E1 2 ⟨by decide,by decide⟩ w) ?_
 refine J (.Fb ([109,111,118,101,32]) (Dk 2) (.const _) (.t rfl) (by first|omega|(simp only[ai,bi];omega)) (by first|omega|(simp only[ah,ai,bi];omega))) ?_
 refine J (.Fb ([109,111,118,101,32]++Dk 2) ([46,46]) (.t rfl) (.const _) (by first|omega|(simp only[ah,ai,bi];omega)) (by first|omega|(simp only[ai,bi];omega))) ?_
 refine J (.fB 1 rfl) ?_
 refine J (.lb rfl (hS.b0.Ad rfl)) ?_
 refine HW.c (fun a w _ ha=>Bm (.cu rfl) (R0) a ha) rfl rfl (fun w hu=>E1 5 ⟨by decide,by decide⟩ w) ?_
 refine J (.Fb (([109,111,118,101,32]++Dk 2)++[46,46]) (Dk 5) (.t rfl) (.t rfl) (by first|omega|(simp only[ah,ai,bi];omega)) (by first|omega|(simp only[ah,ai,bi];omega))) ?_
 refine J (.Fb ((([109,111,118,101,32]++Dk 2)++[46,46])++Dk 5) ([10]) (.t rfl) (.const _) (by first|omega|(simp only[ah,ai,bi];omega)) (by first|omega|(simp only[ai,bi];omega))) ?_
 refine J (.assign (.t rfl)) ?_
 refine HW.nil ?_
 intro w3 uw3
 have zw3:=uw3.size
 replace hS:=hS.up uw3
 refine Ac (Ak (Ak ?_))
 have ep:(((([109,111,118,101,32]:List UInt8)++Dk 2)++[46,46])++Dk 5)++[10]=gZ L 0:=by unfold gZ F8 Ju;simp[Dc,Ky]
 rw[ep]
 refine Aa (Ay (Af (Ah ?_)))
 refine A5 (σ:=Nat) (fun s w=>(s≤L.length)∧(Wx.Sep no w0 w [A4 B1 (Cu sa L.length sc none 0 0) 28])) (fun s=>[(5,.eq (vi (s:Int))),(4,.eq (.string (bs (gZ L s))))]) ([(1,.eq _),(2,.eq _),(3,.eq _)]) (fun s=>L.length-s) 0 ?_ tQ ?_
 ·exact⟨au _,hS⟩
 rintro k w4 ⟨hk,hS⟩
 refine Ak (Ae (I rfl ?_))
 refine U (.fB 2 rfl) ?_
 refine U (.lb rfl (hS.b0.Ad rfl)) ?_
 refine U (.Cn j0 (.t rfl)) ?_
 refine U (.l2 rfl rfl) ?_
 refine Af ?_
 refine CW.b rfl (fun h24=>?_) (fun h24=>?_)
 ·replace h24:=dQ h24
  refine Ai (Ac (Ak (Ah ?_)))
  have hkl:k<L.length:=cz.1 h24
  obtain⟨s,hs⟩:=An (xs:=L) (i:=k) hkl
  obtain⟨Bs,os,as_,hcs⟩:=(Els.up hF.E hS.Cl) k s hs
  have hpl:=tO hL k hk
  have hsl:=Rp (k:=k) oQ (hL.sml s (ae hs))
  refine Aa (I rfl (I rfl ?_))
  refine U (.fB 2 rfl) ?_
  refine U (.lb rfl (hS.b0.Ad rfl)) ?_
  refine I rfl ?_
  refine U (.Ar j0 kh (j:=k) (.t rfl) (.t rfl) oQ as_) ?_
  refine U (.lc rfl (hcs)) ?_
  refine A3 (eC (.u rfl rfl) (AM)) rfl (Vp k s oQ (hL.sml s (ae hs)) _ (Els.up (hF.p s (ae hs)).1 hS.Cl) (Els.up (hF.p s (ae hs)).2 hS.Cl)) ?_
  rintro _ w5 ⟨rfl,uw5⟩
  have zw5:=uw5.size
  replace hS:=hS.up uw5
  refine U (.Fb (gZ L k) (C3 k s) (.t rfl) (.t rfl) (by first|omega|(simp only[ah,ai,bi];omega)) (by first|omega|(simp only[ah,ai,bi];omega))) ?_
  refine U (.Fb (gZ L k++C3 k s) ([10]) (.t rfl) (.const _) (by first|omega|(simp only[ah];omega)) (by first|omega|(simp only[ai,bi];omega))) ?_
  refine LW.A rfl (LW.nil (Aj (Ac (Aa (I rfl ?_)))))
  refine U (.ic rfl oQ) ?_
  refine LW.A rfl (LW.nil (Av ?_))
  exact⟨k+1,⟨by omega,hS⟩,⟨rfl,by rw[lM hs];rfl,rfl,rfl,rfl,trivial⟩,by first|omega|(dsimp only;omega)⟩
 replace h24:=dQ h24
 have hkl:k=L.length:=by have:¬k<L.length:=fun h=>h24 (cz.2 h);omega
 subst hkl
 rw[dI]
 refine A8 (Ab (Ab (Ao (Ac (Ak (Ae (Ay (Af (Ah ?_)))))))))
 refine A5 (σ:=Nat) (fun s w=>(s=0)∧(Wx.Sep no w0 w [A4 B1 (Cu sa L.length sc none 0 0) 28])) (fun s=>[(6,.eq (vi (s:Int))),(4,.eq (.string (bs (Dr L))))]) ([(1,.eq _),(2,.eq _),(3,.eq _)]) (fun s=>1-s) 0 ?_ tQ ?_
 ·exact⟨rfl,hS⟩
 rintro j w6 ⟨hj,hS⟩
 subst hj
 refine Ak (Ae (I rfl ?_))
 refine U (.fB 3 rfl) ?_
 refine U (.lb rfl (hS.b0.Ad rfl)) ?_
 refine U (.Cn j9 (.t rfl)) ?_
 refine U (.fa (PEv.l2 rfl rfl) (rfl)) ?_
 refine Af ?_
 refine CW.f rfl ?_
 refine A8 (Ab (Ab (Ao (Ac (Ae (I rfl (LW.A rfl (Ay (Af (Al ?_))))))))))
 refine Fy rfl rfl rfl ⟨_,rfl,?_⟩
 exact⟨rfl,hS.Cl⟩
theorem Er(c n:Int)(w:World)(hn:n≠0):Ret prog 35 #[vi c,vi n] w fun r w'=>r=vi (Ce c n)∧Up w w':=by
 have hW:=Up.refl w
 refine cT 13 func35 rfl ?_
 refine Ae (Ay (Am (Ae (I rfl ?_))))
 refine U (.lss (.t rfl) (.const _)) ?_
 refine Af ?_
 refine CW.b rfl (fun h6=>?_) (fun h6=>?_)
 ·replace h6:=dQ h6
  refine Aa (I rfl ?_)
  refine U (.pZ (.t rfl) (.const _)) ?_
  refine U (.neg jy (.t rfl)) ?_
  refine LW.A rfl (Am (Aa (I rfl (I rfl ?_))))
  refine U (.rem (.t rfl) (.t rfl) oQ) ?_
  refine LW.A rfl (Af (Al ?_))
  refine KW.q ?_
  exact⟨by first|(rw[Ce,ap h6])|(rw[Ce,am (by omega)]),hW⟩
 replace h6:=dQ h6
 refine Ai (Ac (Ae (I rfl (I rfl ?_))))
 refine U (.rem (.t rfl) (.t rfl) oQ) ?_
 refine LW.A rfl (Af (Al ?_))
 refine KW.q ?_
 exact⟨by first|(rw[Ce,ap h6])|(rw[Ce,am (by omega)]),hW⟩
set_option maxHeartbeats 1000000 in
theorem lT(ad:Option Addr)(cp:Nat)(xs:List I6)(hxs:∀y∈xs,Yy y)(w:World)(hE:Els w ad 6 I6.cells xs):Ret prog 15 #[.slice ad xs.length cp,.slice none 0 0] w fun r w'=>∃av cv L,r=.agg (Cu av L.length cv none 0 0)∧(1≤L.length∧L.length≤8)∧MkS L.length L∧FlK w.heap.size w' av L∧Up w w':=by
 obtain⟨w0,rfl,hS⟩:=W0 w
 obtain⟨n,en⟩:∃n,n=max 1 (min xs.length 8):=⟨_,rfl⟩
 have hn1:1≤n∧n≤8:=by omega
 refine cT 193 func15 rfl ?_
 refine Ae ?_
 refine Aq (.Bt k9) rfl ?_
 rintro _ w1 ⟨B4,rfl,NB4⟩
 have eB4:=NB4.at_
 have zB4:=NB4.size
 replace hS:=hS.Cc NB4
 change Wx.Sep _ _ _ [_]at hS
 refine Am (Aa (I rfl ?_))
 refine U (.Cn underlying22 (.t rfl)) ?_
 refine U (.Ez (v':=vi ((min xs.length 8:Nat):Int)) (iD (.t rfl) (.const _)) (aq vi oQ)) ?_
 refine U (.Ez (v':=vi (n:Int)) (jA (.const _) (.t rfl)) (aq vi (by rw[en];omega))) ?_
 refine LW.A rfl (Am (Aa ?_))
 refine U (.build (cs:=D8 (.slice none 0 0)) underlying28 k9 Ll (.cons (.const _) (.cons (.const _) .nil)) rfl) ?_
 refine Aq (.Bt k9) rfl ?_
 rintro _ w2 ⟨B6,rfl,MB6⟩
 refine Cb (.Ca lv rfl (.t rfl) (.t rfl) (gC rfl) MB6.blk rfl) ?_
 intro w3 LB6
 have NB6:=MB6.set LB6
 clear LB6 MB6
 have eB6:=NB6.at_
 have zB6:=NB6.size
 replace hS:=hS.Cc NB6
 change Wx.Sep _ _ _ [_,_]at hS
 refine Am (Ak ?_)
 replace hS:=lK (e:=3) (hS.M2 (OwnS.nil _ 0 49 7 Sk.cells))
 change Wx.Sep _ _ _ [_,_,_,_]at hS
 refine Aa (Ay (Af (Ah ?_)))
 refine A5 (σ:=Nat×Option Addr×Nat×List Sk) (fun s w=>(s.1≤n)∧(MkS n s.2.2.2)∧(s.2.2.2.length=s.1)∧(Wx.Sep no w0 w [A4 B4 gE 28,A4 B6 (D8 (.slice s.2.1 s.2.2.2.length s.2.2.1)) 28,Az 49 7 Sk.cells (.slice s.2.1 s.2.2.2.length s.2.2.1) (s.2.2.2),Df ((s.2.2.2).flatMap (Jr 3))])) (fun s=>[(7,.eq (vi (s.1:Int)))]) ([(0,.eq _),(1,.eq _),(4,.eq _),(5,.eq _),(6,.eq _)]) (fun s=>n-s.1) (0,none,0,[]) ?_ tQ ?_
 ·exact⟨au _,fun j s h=>by simp at h,rfl,hS⟩
 rintro⟨k,av,cv,L⟩ w4 ⟨hk,hM,hlk,hS⟩
 dsimp only at hk hM hlk hS
 change Wx.Sep _ _ _ [_,_,_,_]at hS
 change CW _ _ _ _ _ _ _ ([(7,.eq (vi (k:Int)))]++_) _
 refine Ak (Ae (I rfl (I rfl ?_)))
 refine U (.l2 rfl rfl) ?_
 refine Af ?_
 refine CW.b rfl (fun h22=>?_) (fun h22=>?_)
 ·replace h22:=dQ h22
  have hkl:k<n:=cz.1 h22
  refine Ai (Ac (Ak (Ah (Ae ?_))))
  refine Aq (.Bt zeroValue111) rfl ?_
  rintro _ w5 ⟨B8,rfl,NB8⟩
  have eB8:=NB8.at_
  have zB8:=NB8.size
  replace hS:=hS.Cc NB8
  change Wx.Sep _ _ _ [_,_,_,_,_]at hS
  refine Af ?_
  refine Ex (fun a1 W=>Ag 193 [] ([(0,.eq (.slice ad xs.length cp)),(1,.eq (.slice none 0 0)),(4,.eq (.pointer (some ⟨B4,0,none⟩))),(5,.eq (vi (n:Int))),(6,.eq (.pointer (some ⟨B6,0,none⟩))),(7,.eq (vi (k:Int))),(8,.eq (.pointer (some ⟨B8,0,none⟩)))]) a1 W∧∃y,Yy y∧Wx.Sep no w0 W [A4 B4 gE 28,A4 B6 (D8 (.slice av L.length cv)) 28,Az 49 7 Sk.cells (.slice av L.length cv) (L),Df ((L).flatMap (Jr 3)),A4 B8 (I6.cells y) 111]) ?_ ?_
  ·skip
   refine Ae (I rfl (I rfl ?_))
   refine U (.Cn underlying22 (.t rfl)) ?_
   refine U (.l2 rfl rfl) ?_
   refine Af ?_
   refine CW.b rfl (fun h28=>?_) (fun h28=>?_)
   ·replace h28:=dQ h28
    have hkx:k<xs.length:=cz.1 h28
    obtain⟨x,hx⟩:=An (xs:=xs) (i:=k) hkx
    obtain⟨Bx,ox,ax,hcx⟩:=(Els.up hE hS.Cl) k x hx
    refine Aa (I rfl (I rfl ?_))
    refine U (.Ar underlying22 sizeOf111 (j:=k) (.t rfl) (.t rfl) oQ ax) ?_
    refine U (.lc rfl (hcx)) ?_
    refine Cb (.Ca sizeOf111 rfl (.t rfl) (.t rfl) (I6.one _) hS.b4 rfl) ?_
    intro w6 Nw6
    have zw6:=Nw6.size
    replace hS:=hS.D9 4 rfl (show Set_ _ w6 _ (I6.cells x) _ from Nw6)
    change Wx.Sep _ _ _ [_,_,_,_,_]at hS
    refine LW.nil ?_
    exact fun a ha=>⟨ha.sub tQ,(by first|exact⟨x,hxs x (ae hx),hS⟩|exact⟨⟨0,0,0,0,0,0⟩,i60,hS⟩)⟩
   replace h28:=dQ h28
   refine Ai ?_
   exact fun a ha=>⟨ha.sub tQ,(by first|exact⟨x,hxs x (ae hx),hS⟩|exact⟨⟨0,0,0,0,0,0⟩,i60,hS⟩)⟩
  rintro a1 w7 ⟨ha,⟨y,hy,hS⟩⟩
  revert a1
  show CW none _ _ _ _ _ _ _ _
  refine Ak ?_
  have hp5:=Ed (c:=y.a) (n:=5) hy.1 cQ
  have hp30:=Ed (c:=y.b) (n:=30) hy.2.1 cQ
  have hp20:=Ed (c:=IntKind.i64.wrap (Int.tdiv y.b 30)) (n:=20) (Np _) cQ
  obtain⟨mx,emx⟩:∃m,m=1+Ce y.b 30+Ce (IntKind.i64.wrap (Int.tdiv y.b 30)) 20:=⟨_,rfl⟩
  refine bX 11 9 10 8 9 41 (((⟨0,[],none,0,0,0,[],none,0,0,0⟩:Sk)).cells) [.eq (.pointer (some ⟨B8,0,none⟩)),.eq (vi y.a),.eq (vi (Ce y.a 5)),.eq (vi (1+Ce y.a 5)),.eq (.pointer (some ⟨B8,1,none⟩)),.eq (vi y.b),.eq (vi (Ce y.b 30)),.eq (vi (1+Ce y.b 30)),.eq (.agg ((⟨1+Ce y.a 5,[],none,0,1+Ce y.b 30,0,[],none,0,-1,0⟩:Sk)).cells),.pred fun v _=>∃B,v=.pointer (some ⟨B,0,none⟩),.eq (undef)] [] kz kh kQ rfl kQ kQ kQ kQ kQ kQ kQ rfl rfl ⟨_,_,_,rfl⟩ _ rfl ⟨_,_,_,rfl⟩ ⟨mp,mp,mp,mp,mp,mp,mp,mp,mp,PhT.pred fun _ _ _ h _=>h,mp,trivial⟩ rfl (fun v W h=>⟨_,h,rfl,Sk.one _⟩) (fun B W=>⟨B,rfl⟩) ?_ ?_
  ·intro W hU0
   have hU:=(Up.drew w7).trans hU0
   have hSW:=hS.up hU
   refine aC (.inr ⟨rfl,TU.p (.Ee (j:=0) kp jw (.t rfl) (.const _) cQ) rfl⟩) ?_
   refine aC (.inr ⟨rfl,TU.p (.lb rfl (hSW.b4.Ad rfl)) rfl⟩) ?_
   refine aC (.inr ⟨rfl,TU.c (eC (.ct rfl (.cons (.const _) .nil)) (O4)) (Er y.a 5 W cQ) sQ⟩) ?_
   refine aC (.inr ⟨rfl,TU.p (.add (.const _) (.t rfl) oQ oQ) rfl⟩) ?_
   refine aC (.inr ⟨rfl,TU.p (.Ee (j:=1) kp jw (.t rfl) (.const _) cQ) rfl⟩) ?_
   refine aC (.inr ⟨rfl,TU.p (.lb rfl (hSW.b4.Ad rfl)) rfl⟩) ?_
   refine aC (.inr ⟨rfl,TU.c (eC (.ct rfl (.cons (.const _) .nil)) (O4)) (Er y.b 30 W cQ) sQ⟩) ?_
   refine aC (.inr ⟨rfl,TU.p (.add (.const _) (.t rfl) oQ oQ) rfl⟩) ?_
   refine aC (.inr ⟨rfl,TU.p (.build (cs:=((⟨1+Ce y.a 5,[],none,0,1+Ce y.b 30,0,[],none,0,-1,0⟩:Sk)).cells) underlying49 kz Iu (.ct rfl (.ct rfl (.cons (.const _) .nil))) rfl) rfl⟩) ?_
   refine aC (.inl (.inl rfl)) ?_
   refine aC (.inl (.inr rfl)) ?_
   exact allL.nil
  intro w8 B9 g hU0 zB9_ hB9 hg
  have hU:=(Up.drew w7).trans hU0
  have zw8:=hU.size
  have zdr:w7.drew.heap.size=w7.heap.size:=rfl
  have g41_:g 41=.agg ((⟨1+Ce y.a 5,[],none,0,1+Ce y.b 30,0,[],none,0,-1,0⟩:Sk)).cells:=hg 8 _ 41 cQ rfl rfl
  rw[g41_]at hB9
  replace hB9:Blk w8 B9 (((⟨1+Ce y.a 5,[],none,0,1+Ce y.b 30,0,[],none,0,-1,0⟩:Sk)).cells) 49:=hB9
  change LW _ _ _ _ _ _ _ _ ((9,_)::_) _
  clear hg
  replace hS:=(hS.up (Up.drew _)).add hU0 (A':=A4 B9 (((⟨1+Ce y.a 5,[],none,0,1+Ce y.b 30,0,[],none,0,-1,0⟩:Sk)).cells) 49) hB9 (fun i(e:i=B9)=>by omega)
  change Wx.Sep _ _ _ [_,_,_,_,_,_]at hS
  clear hB9
  refine Am ?_
  refine Cz 8 kQ kQ kQ kQ kQ rfl rfl ?_
  refine J (.fB 2 rfl) ?_
  refine J (.lb rfl (hS.b5.Ad rfl)) ?_
  refine J (.Ee (j:=1) kp jw (.t rfl) (.const _) cQ) ?_
  refine J (.lb rfl (hS.b4.Ad rfl)) ?_
  refine J (.quo (.t rfl) (.const _) cQ) ?_
  refine HW.c (fun a w _ ha=>Bm (.ct rfl (.cons (.const _) .nil)) (O4) a ha) rfl rfl (fun w hu=>Er (IntKind.i64.wrap (Int.tdiv y.b 30)) 20 w cQ) ?_
  refine J (.Ez (v':=vi mx) (PEv.add (.t rfl) (.t rfl) (by dsimp only;omega) (by dsimp only;omega)) (aq vi emx.symm)) ?_
  refine J (.fB 3 rfl) ?_
  refine HW.nil ?_
  intro w9 uw9
  have zw9:=uw9.size
  replace hS:=hS.up uw9
  refine Cb (.store jw (.t rfl) (.t rfl) rfl hS.b5 bQ) ?_
  intro w10 Nw10
  have zw10:=Nw10.size
  replace hS:=hS.D9 5 rfl (show Set_ _ w10 _ (((⟨1+Ce y.a 5,[],none,0,1+Ce y.b 30,mx,[],none,0,-1,0⟩:Sk)).cells) _ from Nw10)
  change Wx.Sep _ _ _ [_,_,_,_,_,_]at hS
  refine Am (Aa ?_)
  refine U (.Ee (j:=2) kp jw (.t rfl) (.const _) cQ) ?_
  refine U (.lb rfl (hS.b4.Ad rfl)) ?_
  refine A3 (eC (.ct rfl (.cons (.const _) .nil)) (O4)) rfl (Er (y.c) 6 _ cQ) ?_
  rintro _ w11 ⟨rfl,uw11⟩
  have zw11:=uw11.size
  replace hS:=hS.up uw11
  refine LW.A rfl (Am ?_)
  obtain⟨aa,ea⟩:∃a,a=Ce y.c 6:=⟨_,rfl⟩
  have haa:=Ed (c:=y.c) (n:=6) hy.2.2.1 cQ
  rw[←ea]at haa⊢
  refine Aa (I rfl ?_)
  refine Aq (.buildSlice (xs:=([aa]:List Int)) (enc:=A6) (mk:=vi) ju jw j2 rfl cQ (fun _=>rfl) (fun _=>rfl) (.cu rfl) rfl) rfl ?_
  intro v54 w12 hN54
  obtain⟨uw12,B54,rfl,e54,hO54⟩:=NewSl.own hN54 (fun _=>rfl) cQ (by simp[maxLen])
  have zw12:=uw12.size
  replace hS:=hS.add uw12 (A':=Az 3 1 A6 (.slice (some ⟨B54,0,none⟩) 1 1) ([aa]:List Int)) hO54 (fun i h=>by cases h;exact eo e54.symm)
  change Wx.Sep _ _ _ [_,_,_,_,_,_,_]at hS
  refine U (.fB 1 rfl) ?_
  refine Cb (.store lh (.t rfl) (.t rfl) rfl hS.b5 bQ) ?_
  intro w13 Nw13
  have zw13:=Nw13.size
  replace hS:=hS.D9 5 rfl (show Set_ _ w13 _ (((⟨1+Ce y.a 5,[aa],some ⟨B54,0,none⟩,1,1+Ce y.b 30,mx,[],none,0,-1,0⟩:Sk)).cells) _ from Nw13)
  change Wx.Sep _ _ _ [_,_,_,_,_,_,_]at hS
  refine Af ?_
  refine Ex (fun a1 W=>Ag 193 [] ([(0,.eq (.slice ad xs.length cp)),(1,.eq (.slice none 0 0)),(4,.eq (.pointer (some ⟨B4,0,none⟩))),(5,.eq (vi (n:Int))),(6,.eq (.pointer (some ⟨B6,0,none⟩))),(7,.eq (vi (k:Int))),(8,.eq (.pointer (some ⟨B8,0,none⟩))),(9,.eq (.pointer (some ⟨B9,0,none⟩)))]) a1 W∧∃tl ta tc,yT tl∧Wx.Sep no w0 W [A4 B4 gE 28,A4 B6 (D8 (.slice av L.length cv)) 28,Az 49 7 Sk.cells (.slice av L.length cv) (L),Df ((L).flatMap (Jr 3)),A4 B8 (I6.cells y) 111,A4 B9 (Sk.cells (⟨1+Ce y.a 5,tl,ta,tc,1+Ce y.b 30,mx,[],none,0,-1,0⟩:Sk)) 49,Az 3 1 A6 (.slice ta (tl).length tc) (tl)]) ?_ ?_
  ·skip
   refine Ae ?_
   refine U (.Ee (j:=2) kp jw (.t rfl) (.const _) cQ) ?_
   refine U (.lb rfl (hS.b4.Ad rfl)) ?_
   refine U (.quo (.t rfl) (.const _) cQ) ?_
   refine A3 (eC (.ct rfl (.cons (.const _) .nil)) (O4)) rfl (Er (IntKind.i64.wrap (Int.tdiv y.c 6)) 2 _ cQ) ?_
   rintro _ w14 ⟨rfl,uw14⟩
   have zw14:=uw14.size
   replace hS:=hS.up uw14
   refine U (.eql (.t rfl) (.const _)) ?_
   refine Af ?_
   refine CW.b rfl (fun h60=>?_) (fun h60=>?_)
   ·replace h60:=dQ h60
    have hp3:=Ed (c:=IntKind.i64.wrap (Int.tdiv y.c 12)) (n:=3) (Np _) cQ
    refine H6 10 (fun v w''=>Wx.Sep no w0 w'' [A4 B4 gE 28,A4 B6 (D8 (.slice av L.length cv)) 28,Az 49 7 Sk.cells (.slice av L.length cv) (L),Df ((L).flatMap (Jr 3)),A4 B8 (I6.cells y) 111,A4 B9 (Sk.cells (⟨1+Ce y.a 5,[aa],some ⟨B54,0,none⟩,1,1+Ce y.b 30,mx,[],none,0,-1,0⟩:Sk)) 49,Az 3 1 A6 v [aa,aa+1+Ce (IntKind.i64.wrap (Int.tdiv y.c 12)) 3]]) kQ kQ kQ kQ kQ kQ rfl rfl rfl rfl rfl ?_
    refine J (.fB 1 rfl) ?_
    refine J (.lb rfl (hS.b5.Ad rfl)) ?_
    refine J (.mv rfl) ?_
    refine J (.add (.t rfl) (.const _) oQ oQ) ?_
    refine J (.Ee (j:=2) kp jw (.t rfl) (.const _) cQ) ?_
    refine J (.lb rfl (hS.b4.Ad rfl)) ?_
    refine J (.quo (.t rfl) (.const _) cQ) ?_
    refine HW.c (fun a w _ ha=>Bm (.ct rfl (.cons (.const _) .nil)) (O4) a ha) rfl rfl (fun w hu=>Er (IntKind.i64.wrap (Int.tdiv y.c 12)) 3 w cQ) ?_
    refine J (.add (.t rfl) (.t rfl) oQ oQ) ?_
    refine HW.r (p:=fun v w=>Sl w v 1 (A6) [aa+1+Ce (IntKind.i64.wrap (Int.tdiv y.c 12)) 3]) (fun _ _ _ h u=>Sl.up h u) rfl (fun w hu a ha=>let⟨v,w',h1,h2⟩:=REv.buildSlice (xs:=[aa+1+Ce (IntKind.i64.wrap (Int.tdiv y.c 12)) 3]) (enc:=A6) (mk:=vi) ju jw j2 rfl bQ (fun _=>rfl) (fun _=>rfl) (.cu rfl) rfl a ha;⟨v,w',h1,h2.q⟩) rfl ?_
    refine HW.nil ⟨fun a w' hu ha=>?_,?_⟩
    ·exact(REv.open (d:=70) (p:=fun v w=>Sl w v 1 A6 [aa+1+Ce (IntKind.i64.wrap (Int.tdiv y.c 12)) 3]) rfl fun vv hv=>(REv.D7 (enc:=A6) (bytes:=8) (i:=Tryz.t3) ju kQ rfl rfl rfl rfl cQ (fun _=>rfl) Fq (.t rfl) (.t rfl) ((hS.up hu).own 6 rfl) hv (by simp[maxLen]) (by simp)).mono fun v' w'' h=>(hS.up hu).F9 6 rfl h).y ha
    intro v71 w15 hS
    obtain⟨ad71,cp71,rfl,_⟩:=(hS.own 6 rfl).sl (fun _=>rfl)
    change Wx.Sep _ _ _ [_,_,_,_,_,_,Az 3 1 A6 (.slice ad71 2 cp71) [aa,aa+1+Ce (IntKind.i64.wrap (Int.tdiv y.c 12)) 3]]at hS
    refine U (.fB 1 rfl) ?_
    refine Cb (.store lh (.t rfl) (.t rfl) (hS.own 6 rfl).one hS.b5 bQ) ?_
    intro w16 Nw16
    have zw16:=Nw16.size
    replace hS:=hS.D9 5 rfl (show Set_ _ w16 _ (((⟨1+Ce y.a 5,[aa,aa+1+Ce (IntKind.i64.wrap (Int.tdiv y.c 12)) 3],ad71,cp71,1+Ce y.b 30,mx,[],none,0,-1,0⟩:Sk)).cells) _ from Nw16)
    change Wx.Sep _ _ _ [_,_,_,_,_,_,_]at hS
    refine LW.nil ?_
    exact fun a ha=>⟨ha.sub tQ,(by first|exact⟨_,ad71,cp71,⟨aa,haa.1,haa.2,.inr ⟨_,by omega,by omega,rfl⟩⟩,hS⟩|exact⟨_,_,_,⟨aa,haa.1,haa.2,.inl rfl⟩,hS⟩)⟩
   replace h60:=dQ h60
   refine Ai ?_
   exact fun a ha=>⟨ha.sub tQ,(by first|exact⟨_,ad71,cp71,⟨aa,haa.1,haa.2,.inr ⟨_,by omega,by omega,rfl⟩⟩,hS⟩|exact⟨_,_,_,⟨aa,haa.1,haa.2,.inl rfl⟩,hS⟩)⟩
  rintro a1 w17 ⟨ha,⟨tl,ta,tc,htl,hS⟩⟩
  revert a1
  show CW none _ _ _ _ _ _ _ _
  refine Ex (fun a1 W=>Ag 193 [] ([(0,.eq (.slice ad xs.length cp)),(1,.eq (.slice none 0 0)),(4,.eq (.pointer (some ⟨B4,0,none⟩))),(5,.eq (vi (n:Int))),(6,.eq (.pointer (some ⟨B6,0,none⟩))),(7,.eq (vi (k:Int))),(8,.eq (.pointer (some ⟨B8,0,none⟩))),(9,.eq (.pointer (some ⟨B9,0,none⟩)))]) a1 W∧∃nx na nc,yU n k nx∧Wx.Sep no w0 W [A4 B4 gE 28,A4 B6 (D8 (.slice av L.length cv)) 28,Az 49 7 Sk.cells (.slice av L.length cv) (L),Df ((L).flatMap (Jr 3)),A4 B8 (I6.cells y) 111,A4 B9 (Sk.cells (⟨1+Ce y.a 5,tl,ta,tc,1+Ce y.b 30,mx,nx,na,nc,-1,0⟩:Sk)) 49,Az 3 1 A6 (.slice ta (tl).length tc) (tl),Az 3 1 A6 (.slice na (nx).length nc) (nx)]) ?_ ?_
  ·skip
   refine Ak ?_
   cases hq15:decide (k+1<n)with
   |true=>
    have hkn:=bw hq15
    refine Aa (I rfl (I rfl ?_))
    refine U (.sub (.t rfl) (.const _) oQ oQ) ?_
    refine U (.tr (PEv.l2 rfl rfl) (be oQ)) ?_
    refine I rfl ?_
    refine Ap ?_
    refine U (.Ee (j:=3) kp jw (.t rfl) (.const _) cQ) ?_
    refine Ap ?_
    refine U (.lb rfl (hS.b4.Ad rfl)) ?_
    refine Ap ?_
    refine A3 (eC (.ct rfl (.cons (.const _) .nil)) (O4)) rfl (Er (y.d) 12 _ cQ) ?_
    rintro _ w18 ⟨rfl,uw18⟩
    have zw18:=uw18.size
    replace hS:=hS.up uw18
    refine Ap ?_
    refine U (.gtr (.t rfl) (.const _)) ?_
    refine U (.pa rfl (fun hp=>wQ)) ?_
    refine Af ?_
    refine CW.b rfl (fun h82=>?_) (fun h82=>?_)
    ·replace h82:=dQ h82
     refine Ae (I rfl ?_)
     refine U (.add (.t rfl) (.const _) oQ oQ) ?_
     refine Aq (.buildSlice (xs:=([(k:Int)+1]:List Int)) (enc:=A6) (mk:=vi) ju jw j2 rfl cQ (fun _=>rfl) (fun _=>rfl) (.cu rfl) rfl) rfl ?_
     intro v85 w19 hN85
     obtain⟨uw19,B85,rfl,e85,hO85⟩:=NewSl.own hN85 (fun _=>rfl) cQ (by simp[maxLen])
     have zw19:=uw19.size
     replace hS:=hS.add uw19 (A':=Az 3 1 A6 (.slice (some ⟨B85,0,none⟩) 1 1) ([(k:Int)+1]:List Int)) hO85 (fun i h=>by cases h;exact eo e85.symm)
     change Wx.Sep _ _ _ [_,_,_,_,_,_,_,_]at hS
     refine U (.fB 4 rfl) ?_
     refine Cb (.store lh (.t rfl) (.t rfl) rfl hS.b5 bQ) ?_
     intro w20 Nw20
     have zw20:=Nw20.size
     replace hS:=hS.D9 5 rfl (show Set_ _ w20 _ (((⟨1+Ce y.a 5,tl,ta,tc,1+Ce y.b 30,mx,[(k:Int)+1],some ⟨B85,0,none⟩,1,-1,0⟩:Sk)).cells) _ from Nw20)
     change Wx.Sep _ _ _ [_,_,_,_,_,_,_,_]at hS
     refine Am ?_
     have hp17:=Ed (c:=IntKind.i64.wrap (Int.tdiv y.d 12)) (n:=3) (Np _) cQ
     refine Aa (I rfl ?_)
     refine U (.add (.t rfl) (.const _) oQ oQ) ?_
     refine U (.Ee (j:=3) kp jw (.t rfl) (.const _) cQ) ?_
     refine U (.lb rfl (hS.b4.Ad rfl)) ?_
     refine U (.quo (.t rfl) (.const _) cQ) ?_
     refine A3 (eC (.ct rfl (.cons (.const _) .nil)) (O4)) rfl (Er (IntKind.i64.wrap (Int.tdiv y.d 12)) 3 _ cQ) ?_
     rintro _ w21 ⟨rfl,uw21⟩
     have zw21:=uw21.size
     replace hS:=hS.up uw21
     refine U (.add (.t rfl) (.t rfl) oQ oQ) ?_
     refine LW.A rfl (Am ?_)
     cases hq18:decide ((k:Int)+2+Ce (IntKind.i64.wrap (Int.tdiv y.d 12)) 3<n)with
     |true=>
      have hkk:=bw hq18
      refine Aa (I rfl (I rfl ?_))
      refine U (.tr (PEv.l2 rfl rfl) (hq18)) ?_
      refine I rfl ?_
      refine Ap ?_
      refine U (.Ee (j:=3) kp jw (.t rfl) (.const _) cQ) ?_
      refine Ap ?_
      refine U (.lb rfl (hS.b4.Ad rfl)) ?_
      refine Ap ?_
      refine U (.quo (.t rfl) (.const _) cQ) ?_
      refine Ap ?_
      refine A3 (eC (.ct rfl (.cons (.const _) .nil)) (O4)) rfl (Er (IntKind.i64.wrap (Int.tdiv y.d 36)) 3 _ cQ) ?_
      rintro _ w22 ⟨rfl,uw22⟩
      have zw22:=uw22.size
      replace hS:=hS.up uw22
      refine Ap ?_
      refine U (.eql (.t rfl) (.const _)) ?_
      refine U (.pa rfl (fun hp=>wQ)) ?_
      refine Af ?_
      refine CW.b rfl (fun h103=>?_) (fun h103=>?_)
      ·replace h103:=dQ h103
       refine Aa ?_
       refine U (.fB 4 rfl) ?_
       refine U (.lb rfl (hS.b5.Ad rfl)) ?_
       refine I rfl ?_
       refine Aq (.buildSlice (xs:=[(k:Int)+2+Ce (IntKind.i64.wrap (Int.tdiv y.d 12)) 3]) (enc:=A6) (mk:=vi) ju jw j2 rfl cQ (fun _=>rfl) (fun _=>rfl) (.cu rfl) rfl) rfl ?_
       rintro _ w23 ⟨B107,cB107,rfl,NB107,yB107,xB107⟩
       have eB107:=NB107.at_
       have zB107:=NB107.size
       replace hS:=hS.up NB107.up
       have hE107:=xB107
       refine Aq (.D7 (enc:=A6) (bytes:=8) (i:=Tryz.t3) ju kQ rfl rfl rfl rfl cQ (fun _=>rfl) Fq (.t rfl) (.t rfl) (hS.own 7 rfl) (Aw hE107) (by simp[maxLen]) (by simp)) rfl ?_
       intro v108 w24 Gw24
       have zw24:=Gw24.fr.size
       replace hS:=hS.F9 7 rfl Gw24
       change Wx.Sep _ _ _ [_,_,_,_,_,_,_,_]at hS
       obtain⟨ad108,cp108,rfl,_⟩:=(hS.own 7 rfl).sl (fun _=>rfl)
       change Wx.Sep _ _ _ [_,_,_,_,_,_,_,Az 3 1 A6 (.slice ad108 2 cp108) [(k:Int)+1,(k:Int)+2+Ce (IntKind.i64.wrap (Int.tdiv y.d 12)) 3]]at hS
       refine U (.fB 4 rfl) ?_
       refine Cb (.store lh (.t rfl) (.t rfl) (hS.own 7 rfl).one hS.b5 bQ) ?_
       intro w25 Nw25
       have zw25:=Nw25.size
       replace hS:=hS.D9 5 rfl (show Set_ _ w25 _ (((⟨1+Ce y.a 5,tl,ta,tc,1+Ce y.b 30,mx,[(k:Int)+1,(k:Int)+2+Ce (IntKind.i64.wrap (Int.tdiv y.d 12)) 3],ad108,cp108,-1,0⟩:Sk)).cells) _ from Nw25)
       change Wx.Sep _ _ _ [_,_,_,_,_,_,_,_]at hS
       refine LW.nil ?_
       exact fun a ha=>⟨ha.sub tQ,(by first|exact⟨_,ad108,cp108,.inr ⟨hkn,.inr ⟨_,by omega,by omega,rfl⟩⟩,hS⟩|exact⟨_,_,_,.inr ⟨hkn,.inl rfl⟩,hS⟩|exact⟨[],none,0,.inl rfl,hS.M2 (OwnS.nil _ 0 3 1 A6)⟩)⟩
      replace h103:=dQ h103
      refine Ai ?_
      exact fun a ha=>⟨ha.sub tQ,(by first|exact⟨_,ad108,cp108,.inr ⟨hkn,.inr ⟨_,by omega,by omega,rfl⟩⟩,hS⟩|exact⟨_,_,_,.inr ⟨hkn,.inl rfl⟩,hS⟩|exact⟨[],none,0,.inl rfl,hS.M2 (OwnS.nil _ 0 3 1 A6)⟩)⟩
     |false=>
      refine Aa (I rfl (I rfl ?_))
      refine U (.fa (PEv.l2 rfl rfl) (hq18)) ?_
      refine I rfl ?_
      refine Bh ?_
      refine Bh ?_
      refine Bh ?_
      refine Bh ?_
      refine Bh ?_
      refine U (.C0 (b:=false) (.t rfl) (fun hp=>absurd (show false=true from hp) cQ)) ?_
      refine Af ?_
      refine CW.f rfl ?_
      refine Ai ?_
      exact fun a ha=>⟨ha.sub tQ,(by first|exact⟨_,ad108,cp108,.inr ⟨hkn,.inr ⟨_,by omega,by omega,rfl⟩⟩,hS⟩|exact⟨_,_,_,.inr ⟨hkn,.inl rfl⟩,hS⟩|exact⟨[],none,0,.inl rfl,hS.M2 (OwnS.nil _ 0 3 1 A6)⟩)⟩
    replace h82:=dQ h82
    refine Ai ?_
    exact fun a ha=>⟨ha.sub tQ,(by first|exact⟨_,ad108,cp108,.inr ⟨hkn,.inr ⟨_,by omega,by omega,rfl⟩⟩,hS⟩|exact⟨_,_,_,.inr ⟨hkn,.inl rfl⟩,hS⟩|exact⟨[],none,0,.inl rfl,hS.M2 (OwnS.nil _ 0 3 1 A6)⟩)⟩
   |false=>
    have hkn:=cc hq15
    refine Aa (I rfl (I rfl ?_))
    refine U (.sub (.t rfl) (.const _) oQ oQ) ?_
    refine U (.fa (PEv.l2 rfl rfl) (bn oQ)) ?_
    refine I rfl ?_
    refine Bh ?_
    refine Bh ?_
    refine Bh ?_
    refine Bh ?_
    refine U (.C0 (b:=false) (.t rfl) (fun hp=>absurd (show false=true from hp) cQ)) ?_
    refine Af ?_
    refine CW.f rfl ?_
    refine Ai ?_
    exact fun a ha=>⟨ha.sub tQ,(by first|exact⟨_,ad108,cp108,.inr ⟨hkn,.inr ⟨_,by omega,by omega,rfl⟩⟩,hS⟩|exact⟨_,_,_,.inr ⟨hkn,.inl rfl⟩,hS⟩|exact⟨[],none,0,.inl rfl,hS.M2 (OwnS.nil _ 0 3 1 A6)⟩)⟩
  rintro a1 w26 ⟨ha,⟨nx,na,nc,hnx,hS⟩⟩
  revert a1
  show CW none _ _ _ _ _ _ _ _
  refine Ex (fun a1 W=>Ag 193 [] ([(0,.eq (.slice ad xs.length cp)),(1,.eq (.slice none 0 0)),(4,.eq (.pointer (some ⟨B4,0,none⟩))),(5,.eq (vi (n:Int))),(6,.eq (.pointer (some ⟨B6,0,none⟩))),(7,.eq (vi (k:Int))),(8,.eq (.pointer (some ⟨B8,0,none⟩))),(9,.eq (.pointer (some ⟨B9,0,none⟩)))]) a1 W∧∃bk lm:Int,(bk= -1∧lm=0∨(0≤bk∧bk≤k)∧1≤lm∧lm≤3)∧Wx.Sep no w0 W [A4 B4 gE 28,A4 B6 (D8 (.slice av L.length cv)) 28,Az 49 7 Sk.cells (.slice av L.length cv) (L),Df ((L).flatMap (Jr 3)),A4 B8 (I6.cells y) 111,A4 B9 (Sk.cells (⟨1+Ce y.a 5,tl,ta,tc,1+Ce y.b 30,mx,nx,na,nc,bk,lm⟩:Sk)) 49,Az 3 1 A6 (.slice ta (tl).length tc) (tl),Az 3 1 A6 (.slice na (nx).length nc) (nx)]) ?_ ?_
  ·skip
   refine Ae ?_
   refine U (.Ee (j:=4) kp jw (.t rfl) (.const _) cQ) ?_
   refine U (.lb rfl (hS.b4.Ad rfl)) ?_
   refine A3 (eC (.ct rfl (.cons (.const _) .nil)) (O4)) rfl (Er (y.e) 4 _ cQ) ?_
   rintro _ w27 ⟨rfl,uw27⟩
   have zw27:=uw27.size
   replace hS:=hS.up uw27
   refine U (.eql (.t rfl) (.const _)) ?_
   refine Af ?_
   refine CW.b rfl (fun h113=>?_) (fun h113=>?_)
   ·replace h113:=dQ h113
    refine Ak ?_
    have hb4:=Ed (c:=IntKind.i64.wrap (Int.tdiv y.e 4)) (n:=(k:Int)+1) (Np _) oQ
    have hb5:=Ed (c:=y.f) (n:=3) hy.2.2.2.2.2 cQ
    refine Aa ?_
    refine U (.Ee (j:=4) kp jw (.t rfl) (.const _) cQ) ?_
    refine U (.lb rfl (hS.b4.Ad rfl)) ?_
    refine U (.quo (.t rfl) (.const _) cQ) ?_
    refine I rfl ?_
    refine U (.add (.t rfl) (.const _) oQ oQ) ?_
    refine A3 (eC (.u rfl rfl) (O4)) rfl (Er (IntKind.i64.wrap (Int.tdiv y.e 4)) ((k:Int)+1) _ oQ) ?_
    rintro _ w28 ⟨rfl,uw28⟩
    have zw28:=uw28.size
    replace hS:=hS.up uw28
    refine U (.fB 5 rfl) ?_
    refine Cb (.store jw (.t rfl) (.t rfl) rfl hS.b5 bQ) ?_
    intro w29 Nw29
    have zw29:=Nw29.size
    replace hS:=hS.D9 5 rfl (show Set_ _ w29 _ (((⟨1+Ce y.a 5,tl,ta,tc,1+Ce y.b 30,mx,nx,na,nc,Ce (IntKind.i64.wrap (Int.tdiv y.e 4)) ((k:Int)+1),0⟩:Sk)).cells) _ from Nw29)
    change Wx.Sep _ _ _ [_,_,_,_,_,_,_,_]at hS
    refine Af (Aa ?_)
    refine U (.Ee (j:=5) kp jw (.t rfl) (.const _) cQ) ?_
    refine U (.lb rfl (hS.b4.Ad rfl)) ?_
    refine A3 (eC (.ct rfl (.cons (.const _) .nil)) (O4)) rfl (Er (y.f) 3 _ cQ) ?_
    rintro _ w30 ⟨rfl,uw30⟩
    have zw30:=uw30.size
    replace hS:=hS.up uw30
    refine U (.add (.const _) (.t rfl) oQ oQ) ?_
    refine U (.fB 6 rfl) ?_
    refine Cb (.store jw (.t rfl) (.t rfl) rfl hS.b5 bQ) ?_
    intro w31 Nw31
    have zw31:=Nw31.size
    replace hS:=hS.D9 5 rfl (show Set_ _ w31 _ (((⟨1+Ce y.a 5,tl,ta,tc,1+Ce y.b 30,mx,nx,na,nc,Ce (IntKind.i64.wrap (Int.tdiv y.e 4)) ((k:Int)+1),1+Ce y.f 3⟩:Sk)).cells) _ from Nw31)
    change Wx.Sep _ _ _ [_,_,_,_,_,_,_,_]at hS
    refine LW.nil ?_
    exact fun a ha=>⟨ha.sub tQ,(by first|exact⟨_,_,.inr ⟨⟨hb4.1,by omega⟩,by omega,by omega⟩,hS⟩|exact⟨-1,0,.inl ⟨rfl,rfl⟩,hS⟩)⟩
   replace h113:=dQ h113
   refine Ai ?_
   exact fun a ha=>⟨ha.sub tQ,(by first|exact⟨_,_,.inr ⟨⟨hb4.1,by omega⟩,by omega,by omega⟩,hS⟩|exact⟨-1,0,.inl ⟨rfl,rfl⟩,hS⟩)⟩
  rintro a1 w32 ⟨ha,⟨bk,lm,hbk,hS⟩⟩
  revert a1
  show CW none _ _ _ _ _ _ _ _
  refine Aa ?_
  refine U (.fB 2 rfl) ?_
  refine U (.lb rfl (hS.b1.Ad rfl)) ?_
  refine U (.lc rfl (hS.b5.agg)) ?_
  refine Aq (.buildSlice (xs:=[(⟨1+Ce y.a 5,tl,ta,tc,1+Ce y.b 30,mx,nx,na,nc,bk,lm⟩:Sk)]) (enc:=Sk.cells) (mk:=fun s=>.agg s.cells) j0 kh kz rfl cQ (fun _=>rfl) (fun _=>rfl) (.cu rfl) rfl) rfl ?_
  rintro _ w33 ⟨B129,cB129,rfl,NB129,yB129,xB129⟩
  have eB129:=NB129.at_
  have zB129:=NB129.size
  replace hS:=hS.up NB129.up
  have hE129:=xB129
  refine Aq (.D7 (enc:=Sk.cells) (bytes:=88) (i:=Tryz.t49) j0 kQ rfl rfl rfl rfl cQ (fun _=>rfl) Sk.one (.t rfl) (.t rfl) (hS.own 2 rfl) (Aw hE129) (by simp[maxLen];omega) (by simp;omega)) rfl ?_
  intro v130 w34 Gw34
  have zw34:=Gw34.fr.size
  replace hS:=hS.F9 2 rfl Gw34
  change Wx.Sep _ _ _ [_,_,_,_,_,_,_,_]at hS
  obtain⟨ad130,cp130,rfl,_⟩:=(hS.own 2 rfl).sl (fun _=>rfl)
  refine U (.fB 2 rfl) ?_
  refine Cb (.store sizeOf25 (.t rfl) (.t rfl) (hS.own 2 rfl).one hS.b1 bQ) ?_
  intro w35 Nw35
  have zw35:=Nw35.size
  replace hS:=hS.D9 1 rfl (show Set_ _ w35 _ (D8 (.slice ad130 (L++[(⟨1+Ce y.a 5,tl,ta,tc,1+Ce y.b 30,mx,nx,na,nc,bk,lm⟩:Sk)]).length cp130)) _ from Nw35)
  change Wx.Sep _ _ _ [_,_,_,_,_,_,_,_]at hS
  refine LW.nil (Aj (Ac (Aa (I rfl ?_))))
  refine U (.ic rfl oQ) ?_
  refine LW.A rfl (LW.nil (Av ?_))
  exact⟨(k+1,ad130,cp130,L++[(⟨1+Ce y.a 5,tl,ta,tc,1+Ce y.b 30,mx,nx,na,nc,bk,lm⟩:Sk)]),⟨by show k+1≤n;omega,hM.snoc (by rw[hlk];exact⟨⟨by show 1≤1+Ce y.a 5;omega,by show 1+Ce y.a 5≤5;omega⟩,⟨by show 1≤1+Ce y.b 30;omega,by show 1+Ce y.b 30≤mx;omega,by show mx≤49;omega⟩,htl,hnx,hbk⟩),by show(L++[_]).length=k+1;rw[ah,hlk];rfl,Pv (Bs:=[_,_,_]) (s:=(⟨1+Ce y.a 5,tl,ta,tc,1+Ce y.b 30,mx,nx,na,nc,bk,lm⟩:Sk)) (hS.sub (.cons_cons _ (.cons_cons _ (.cons_cons _ (.cons_cons _ (.cons _ (.cons _ (.cons_cons _ (.cons_cons _ .slnil)))))))))⟩,tQ,by show n-(k+1)<n-k;omega⟩
 replace h22:=dQ h22
 have hkl:¬k<n:=fun h=>h22 (cz.2 h)
 refine A8 (Ab (Ab (Ao (Ac (Ak (Ae (Ay (Af (Ah ?_)))))))))
 refine A5 (σ:=Nat) (fun s w=>(s=0)∧(Wx.Sep no w0 w [A4 B4 gE 28,A4 B6 (D8 (.slice av L.length cv)) 28,Az 49 7 Sk.cells (.slice av L.length cv) (L),Df ((L).flatMap (Jr 3))])) (fun s=>[(12,.eq (vi (s:Int)))]) ([(1,.eq _),(4,.eq _),(5,.eq _),(6,.eq _)]) (fun s=>1-s) 0 ?_ tQ ?_
 ·exact⟨rfl,hS⟩
 rintro j w36 ⟨hj,hS⟩
 subst hj
 refine Ak (Ae (I rfl (I rfl ?_)))
 refine U (.Cn underlying110 (.t rfl)) ?_
 refine U (.fa (PEv.l2 rfl rfl) (rfl)) ?_
 refine I rfl ?_
 refine Bh ?_
 refine Bh ?_
 refine U (.C0 (b:=false) (.t rfl) (fun hp=>absurd (show false=true from hp) cQ)) ?_
 refine Af ?_
 refine CW.f rfl ?_
 refine A8 (Ab (Ab (Ao (Ac (Ae ?_)))))
 refine U (.lc rfl (hS.b1.agg)) ?_
 refine Cb (.Ca lv rfl (.t rfl) (.t rfl) (G7 _ _ _ _ _ _) hS.b0 rfl) ?_
 intro w37 Nw37
 have zw37:=Nw37.size
 replace hS:=hS.D9 0 rfl (show Set_ _ w37 _ (Cu av L.length cv none 0 0) _ from Nw37)
 change Wx.Sep _ _ _ [_,_,_,_]at hS
 refine Af (Al ?_)
 refine Fz rfl rfl isAgg28 lv rfl (hS.b0.agg) ⟨_,rfl,?_⟩
 have hkn:k=n:=by omega
 subst hkn
 have hlr:1≤L.length∧L.length≤8:=by rw[hlk,en];omega
 rw[←hlk]at hM
 exact⟨av,cv,L,rfl,hlr,hM,⟨Vl (hM.yV hlr) (show Same L L from rfl) (hS.own 2 rfl) (hS.get 3 rfl),FlB.of (k:=2) (m:=3) hS rfl rfl⟩,hS.Cl⟩
set_option maxHeartbeats 1000000 in
theorem pS(ad:Option Addr)(cp:Nat)(xs:List I6)(hxs:∀y∈xs,Yy y)(w:World)(hE:Els w ad 6 I6.cells xs):Ret prog 5 #[.slice ad xs.length cp] w fun r w'=>∃av cv L v,r=.tuple #[v,.agg (Cu av L.length cv none 0 0)]∧(1≤L.length∧L.length≤8)∧MkS L.length L∧Wx.Sep no w w' [pN av L,Az 33 19 Fact.cells v (lO (bs (Dr L)))]:=by
 obtain⟨w0,rfl,hS⟩:=W0 w
 refine cT 59 func5 rfl ?_
 refine Ae (Ay ?_)
 refine Aq (.Bt k9) rfl ?_
 rintro _ w1 ⟨B3,rfl,NB3⟩
 have eB3:=NB3.at_
 have zB3:=NB3.size
 replace hS:=hS.Cc NB3
 change Wx.Sep _ _ _ [_]at hS
 refine Am (Aa (I rfl ?_))
 refine A3 (eC (.ct rfl (.cons (.const _) .nil)) (zW)) rfl (lT ad cp xs hxs _ (Els.up hE hS.Cl)) ?_
 rintro _ w2 ⟨av,cv,L,rfl,hlr,hMk,hF,uw2⟩
 have zw2:=uw2.size
 replace hS:=hS.add uw2 (A':=pN av L) (hF.g) (pO hF.b)
 change Wx.Sep _ _ _ [_,_]at hS
 refine Aq (.Bt k9) rfl ?_
 rintro _ w3 ⟨B4,rfl,MB4⟩
 refine Cb (.Ca lv rfl (.t rfl) (.t rfl) (G7 _ _ _ _ _ _) MB4.blk rfl) ?_
 intro w4 LB4
 have NB4:=MB4.set LB4
 clear LB4 MB4
 have eB4:=NB4.at_
 have zB4:=NB4.size
 replace hS:=hS.Cc NB4
 change Wx.Sep _ _ _ [_,_,_]at hS
 refine Am (Aa ?_)
 refine U (.lc rfl (hS.b2.agg)) ?_
 refine A3 (eC (.o rfl) (zX)) rfl (gM av cv L _ (hS.get 1 rfl) (hMk.yV hlr)) ?_
 rintro _ w5 ⟨rfl,uw5⟩
 have zw5:=uw5.size
 replace hS:=hS.up uw5
 refine I rfl (U (.xt rfl rfl) (U (.xt rfl rfl) (LW.A rfl (LW.A rfl (Am (Aa (I rfl ?_)))))))
 refine U (.build (cs:=(Vm (bs (Dr L))).cells) ke j4 Dy (.cons (.const _) (.cons (.const _) (.cons (.const _) (.cu rfl)))) rfl) ?_
 refine Aq (.buildSlice (xs:=([Vm (bs (Dr L))])) (enc:=Fact.cells) (mk:=fun f=>.agg f.cells) jv jz j4 rfl cQ (fun _=>rfl) (fun _=>rfl) (.cu rfl) rfl) rfl ?_
 intro v22 w6 hN22
 obtain⟨uw6,B22,rfl,e22,hO22⟩:=NewSl.own hN22 (fun _=>rfl) cQ (by simp[maxLen])
 have zw6:=uw6.size
 replace hS:=hS.add uw6 (A':=Az 33 19 Fact.cells (.slice (some ⟨B22,0,none⟩) 1 1) ([Vm (bs (Dr L))])) hO22 (fun i h=>by cases h;exact eo e22.symm)
 change Wx.Sep _ _ _ [_,_,_,_]at hS
 refine LW.A rfl (Am (Ae (Ay (Af (Ah ?_)))))
 refine A5 (σ:=Nat×Go.Value) (fun s w=>(1≤s.1∧s.1≤4)∧(Wx.Sep no w0 w [A4 B3 gE 28,pN av L,A4 B4 (Cu av L.length cv none 0 0) 28,Az 33 19 Fact.cells (s.2) (Sx (bs (Dr L)) s.1)])) (fun s=>[(8,.eq (vi (s.1:Int))),(7,.eq (s.2))]) ([(2,.eq _),(3,.eq _),(4,.eq _)]) (fun s=>4-s.1) (1,.slice (some ⟨B22,0,none⟩) 1 1) ?_ tQ ?_
 ·exact⟨(show 1≤1∧1≤4 by omega),hS⟩
 rintro⟨k,v⟩ w7 ⟨hk,hS⟩
 dsimp only at hk hS
 change Wx.Sep _ _ _ [_,_,_,_]at hS
 change CW _ _ _ _ _ _ _ ([(8,.eq (vi (k:Int))),(7,.eq (v))]++_) _
 refine Ak (Ae (I rfl ?_))
 refine U (.leq (.t rfl) (.const _)) ?_
 refine Af ?_
 refine CW.b rfl (fun h24=>?_) (fun h24=>?_)
 ·replace h24:=dQ h24
  refine Ai (Ac (Ak (Ah ?_)))
  have hlP:=Yb (bs (Dr L)) k
  refine Aa (I rfl (I rfl (I rfl ?_)))
  refine U (.Ez (v':=vi ((k/3:Nat):Int)) (PEv.quo (.t rfl) (.const _) cQ) (aq vi (CQ oQ))) ?_
  refine U (.add (.const _) (.t rfl) oQ oQ) ?_
  refine U (.build (cs:=(Js k).cells) ke j4 Dy (.cons (.const _) (.cons (.const _) (.ct rfl (.ct rfl (.cons (.const _) .nil))))) rfl) ?_
  refine Aq (.buildSlice (xs:=[Js k]) (enc:=Fact.cells) (mk:=fun f=>.agg f.cells) jv jz j4 rfl cQ (fun _=>rfl) (fun _=>rfl) (.cu rfl) rfl) rfl ?_
  rintro _ w8 ⟨B33,cB33,rfl,NB33,yB33,xB33⟩
  have eB33:=NB33.at_
  have zB33:=NB33.size
  replace hS:=hS.up NB33.up
  have hE33:=xB33
  refine Aq (.D7 (enc:=Fact.cells) (bytes:=160) (i:=Tryz.t33) jv kQ rfl rfl rfl rfl cQ (fun _=>rfl) Fact.one (.t rfl) (.t rfl) (hS.own 3 rfl) (Aw hE33) (by simp[maxLen];omega) (by simp;omega)) rfl ?_
  intro v34 w9 Gw9
  have zw9:=Gw9.fr.size
  replace hS:=hS.F9 3 rfl Gw9
  change Wx.Sep _ _ _ [_,_,_,_]at hS
  refine LW.A rfl (LW.nil (Aj (Ac (Aa (I rfl ?_)))))
  refine U (.ic rfl oQ) ?_
  refine LW.A rfl (LW.nil (Av ?_))
  exact⟨(k+1,v34),⟨by show 1≤k+1∧k+1≤4;omega,by show Wx.Sep _ _ _ [_,_,_,Az _ _ _ _ (Sx _ (k+1))];rw[gG _ hk.1];exact hS⟩,tQ,by show 4-(k+1)<4-k;omega⟩
 replace h24:=dQ h24
 refine A8 (Ab (Ab (Ao (Ac (Ak ?_)))))
 have hk4:k=4:=by omega
 subst hk4
 rw[gH]at hS
 refine Aa (Ay (Am (Ae (Ay (Af (Ah ?_))))))
 refine A5 (σ:=Nat×Go.Value) (fun s w=>(s.1≤12)∧(Wx.Sep no w0 w [A4 B3 gE 28,pN av L,A4 B4 (Cu av L.length cv none 0 0) 28,Az 33 19 Fact.cells (s.2) (Pb (bs (Dr L)) (10*s.1))])) (fun s=>[(9,.eq (vi ((10*s.1:Nat):Int))),(10,.eq (vi (s.1:Int))),(7,.eq (s.2))]) ([(2,.eq _),(3,.eq _),(4,.eq _)]) (fun s=>12-s.1) (0,v) ?_ tQ ?_
 ·exact⟨au _,hS⟩
 rintro⟨t,v⟩ w10 ⟨hk,hS⟩
 dsimp only at hk hS
 change Wx.Sep _ _ _ [_,_,_,_]at hS
 change CW _ _ _ _ _ _ _ ([(9,.eq (vi ((10*t:Nat):Int))),(10,.eq (vi (t:Int))),(7,.eq (v))]++_) _
 refine Ak (Ae (I rfl ?_))
 refine U (.lss (.t rfl) (.const _)) ?_
 refine Af ?_
 refine CW.b rfl (fun h36=>?_) (fun h36=>?_)
 ·replace h36:=dQ h36
  refine Ai (Ac (Ak (Ah (Ae (Ay (Af (Ah ?_)))))))
  refine A5 (σ:=Nat×Go.Value) (fun s w=>(s.1≤2)∧(Wx.Sep no w0 w [A4 B3 gE 28,pN av L,A4 B4 (Cu av L.length cv none 0 0) 28,Az 33 19 Fact.cells (s.2) (Pb (bs (Dr L)) (10*t+5*s.1))])) (fun s=>[(9,.eq (vi ((10*t+5*s.1:Nat):Int))),(11,.eq (vi (s.1:Int))),(7,.eq (s.2))]) ([(2,.eq _),(3,.eq _),(4,.eq _),(10,.eq _)]) (fun s=>2-s.1) (0,v) ?_ tQ ?_
  ·exact⟨au _,hS⟩
  rintro⟨c,v⟩ w11 ⟨hk,hS⟩
  dsimp only at hk hS
  change Wx.Sep _ _ _ [_,_,_,_]at hS
  change CW _ _ _ _ _ _ _ ([(9,.eq (vi ((10*t+5*c:Nat):Int))),(11,.eq (vi (c:Int))),(7,.eq (v))]++_) _
  refine Ak (Ae (I rfl ?_))
  refine U (.lss (.t rfl) (.const _)) ?_
  refine Af ?_
  refine CW.b rfl (fun h40=>?_) (fun h40=>?_)
  ·replace h40:=dQ h40
   refine Ai (Ac (Ak (Ah (Ae (Ay (Af (Ah ?_)))))))
   refine A5 (σ:=Nat×Go.Value) (fun s w=>(s.1≤5)∧(Wx.Sep no w0 w [A4 B3 gE 28,pN av L,A4 B4 (Cu av L.length cv none 0 0) 28,Az 33 19 Fact.cells (s.2) (Pb (bs (Dr L)) (10*t+5*c+s.1))])) (fun s=>[(9,.eq (vi ((10*t+5*c+s.1:Nat):Int))),(12,.eq (vi ((s.1+1:Nat):Int))),(7,.eq (s.2))]) ([(2,.eq _),(3,.eq _),(4,.eq _),(10,.eq _),(11,.eq _)]) (fun s=>5-s.1) (0,v) ?_ tQ ?_
   ·exact⟨au _,hS⟩
   rintro⟨j,v⟩ w12 ⟨hk,hS⟩
   dsimp only at hk hS
   change Wx.Sep _ _ _ [_,_,_,_]at hS
   change CW _ _ _ _ _ _ _ ([(9,.eq (vi ((10*t+5*c+j:Nat):Int))),(12,.eq (vi ((j+1:Nat):Int))),(7,.eq (v))]++_) _
   refine Ak (Ae (I rfl ?_))
   refine U (.leq (.t rfl) (.const _)) ?_
   refine Af ?_
   refine CW.b rfl (fun h44=>?_) (fun h44=>?_)
   ·replace h44:=dQ h44
    refine Ai (Ac (Ak (Ah (Ak ?_))))
    obtain⟨m,em⟩:∃m,m=10*t+5*c+j:=⟨_,rfl⟩
    have hlQ:=Yc (bs (Dr L)) m
    refine Aa (I rfl ?_)
    refine U (.Ez (v':=vi ((10*t+5*c+(j+1):Nat):Int)) (PEv.add (.t rfl) (.const _) oQ oQ) (aq vi oQ)) ?_
    refine LW.A rfl (Af ?_)
    rw[←em]at hS
    refine Aa (I rfl ?_)
    refine U (.Ez (v':=vi ((m:Int)+1)) (PEv.mv rfl) (aq vi oQ)) ?_
    refine U (.Ez (v':=vi ((m/10:Nat):Int)) (PEv.mv rfl) (aq vi oQ)) ?_
    refine U (.Ez (v':=vi ((m/5%2:Nat):Int)) (PEv.mv rfl) (aq vi oQ)) ?_
    refine U (.Ez (v':=vi ((m%5+1:Nat):Int)) (PEv.mv rfl) (aq vi oQ)) ?_
    refine U (.build (cs:=(Nq m).cells) ke j4 Dy (.cons (.const _) (.cons (.const _) (.ct rfl (.ct rfl (.ct rfl (.ct rfl (.cons (.const _) (.cons (.const _) .nil)))))))) rfl) ?_
    refine Aq (.buildSlice (xs:=[Nq m]) (enc:=Fact.cells) (mk:=fun f=>.agg f.cells) jv jz j4 rfl cQ (fun _=>rfl) (fun _=>rfl) (.cu rfl) rfl) rfl ?_
    rintro _ w13 ⟨B55,cB55,rfl,NB55,yB55,xB55⟩
    have eB55:=NB55.at_
    have zB55:=NB55.size
    replace hS:=hS.up NB55.up
    have hE55:=xB55
    refine Aq (.D7 (enc:=Fact.cells) (bytes:=160) (i:=Tryz.t33) jv kQ rfl rfl rfl rfl cQ (fun _=>rfl) Fact.one (.t rfl) (.t rfl) (hS.own 3 rfl) (Aw hE55) (by simp[maxLen];omega) (by simp;omega)) rfl ?_
    intro v56 w14 Gw14
    have zw14:=Gw14.fr.size
    replace hS:=hS.F9 3 rfl Gw14
    change Wx.Sep _ _ _ [_,_,_,_]at hS
    refine LW.A rfl (LW.nil (Aj (Ac (Aa (I rfl ?_)))))
    refine U (.Ez (v':=vi ((j+1+1:Nat):Int)) (PEv.add (.t rfl) (.const _) oQ oQ) (aq vi oQ)) ?_
    refine LW.A rfl (LW.nil (Av ?_))
    exact⟨(j+1,v56),⟨by show j+1≤5;omega,by show Wx.Sep _ _ _ [_,_,_,Az _ _ _ _ (Pb _ (10*t+5*c+j+1))];rw[gF,←em];exact hS⟩,tQ,by show 5-(j+1)<5-j;omega⟩
   replace h44:=dQ h44
   refine A8 (Ab (Ab (Ao (Aj (Ac ?_)))))
   have hj5:j=5:=by omega
   subst hj5
   refine Aa (I rfl ?_)
   refine U (.ic rfl oQ) ?_
   refine LW.A rfl (LW.nil (Av ?_))
   exact⟨(c+1,v),⟨by show c+1≤2;omega,hS⟩,tQ,by show 2-(c+1)<2-c;omega⟩
  replace h40:=dQ h40
  refine A8 (Ab (Ab (Ao (Aj (Ac ?_)))))
  have hc2:c=2:=by omega
  subst hc2
  refine Aa (I rfl ?_)
  refine U (.ic rfl oQ) ?_
  refine LW.A rfl (LW.nil (Av ?_))
  exact⟨(t+1,v),⟨by show t+1≤12;omega,hS⟩,tQ,by show 12-(t+1)<12-t;omega⟩
 replace h36:=dQ h36
 refine A8 (Ab (Ab (Ao (Ac (Ak ?_)))))
 have ht12:t=12:=by omega
 subst ht12
 refine Cz 3 kQ kQ kQ kQ kQ rfl rfl ?_
 refine J (.mv rfl) ?_
 refine J (.lc rfl (hS.b2.agg)) ?_
 refine J (.assign (.t rfl)) ?_
 refine HW.nil ?_
 intro w15 uw15
 have zw15:=uw15.size
 replace hS:=hS.up uw15
 refine Cb (.Ca lv rfl (.t rfl) (.t rfl) (G7 _ _ _ _ _ _) hS.b0 rfl) ?_
 intro w16 Nw16
 have zw16:=Nw16.size
 replace hS:=hS.D9 0 rfl Nw16
 change Wx.Sep _ _ _ [_,_,_,_]at hS
 refine Af (Al ?_)
 refine lN rfl rfl rfl isAgg28 lv rfl hS.b0.agg ⟨_,rfl,?_⟩
 exact⟨av,cv,L,_,rfl,hlr,hMk,hS.sub (.cons _ (.cons_cons _ (.cons _ (List.Sublist.refl _))))⟩
theorem lU(ad:Option Addr)(cp:Nat)(f:Go.Value)(w:World):Ret prog 264 #[.slice ad 0 cp,vi 0,vi 0,f] w fun _ w'=>Up w w':=by
 have hW:=Up.refl w
 obtain⟨w0,rfl,_⟩:=W0 w
 refine cT 53 func264 rfl ?_
 refine Ae (I rfl ?_)
 refine U (.add (.t rfl) (.const _) oQ oQ) ?_
 refine LW.A rfl (Af (Ah ?_))
 refine A5 (σ:=Nat) (fun s w=>(s=0)∧(Up w0 w)) (fun s=>[(8,.eq (vi 1)),(0,.eq (.slice ad 0 cp)),(1,.eq (vi 0)),(2,.eq (vi 0)),(3,.eq (f))]) ([]) (fun s=>1-s) 0 ?_ tQ ?_
 ·exact⟨rfl,hW⟩
 rintro j w1 ⟨hj,hW⟩
 subst hj
 refine Ak (Ae (I rfl (I rfl ?_)))
 refine U (.fa (PEv.l2 rfl rfl) (rfl)) ?_
 refine Af ?_
 refine CW.f rfl ?_
 refine A8 (Ab (Ab (Ao ?_)))
 refine C1 rfl ⟨_,rfl,?_⟩
 exact hW
theorem lV(ad:Option Addr)(cp:Nat)(f:Go.Value)(w:World):Ret prog 241 #[.slice ad 0 cp,vi 0,f] w fun _ w'=>Up w w':=by
 have hW:=Up.refl w
 obtain⟨w0,rfl,_⟩:=W0 w
 refine cT 63 func241 rfl ?_
 refine Ae (Ay (Am (Aa (I rfl (Ay (LW.A rfl (Am (Ah ?_))))))))
 refine A5 (σ:=Nat) (fun s w=>(s=0)∧(Up w0 w)) (fun s=>[(7,.eq (vi 0)),(8,.eq (vi 20)),(6,.eq (vi 20)),(0,.eq (.slice ad 0 cp)),(1,.eq (vi 0)),(2,.eq (f))]) ([]) (fun s=>1-s) 0 ?_ tQ ?_
 ·exact⟨rfl,hW⟩
 rintro j w1 ⟨hj,hW⟩
 subst hj
 refine Ak (Ae (I rfl (I rfl ?_)))
 refine U (.fa (PEv.leq (.t rfl) (.t rfl)) (rfl)) ?_
 refine Af ?_
 refine CW.f rfl ?_
 refine A8 (Ab (Ab (Ao (Ac (Ae (I rfl (I rfl (I rfl (I rfl ?_)))))))))
 refine A3 (eC (.ct rfl (.ct rfl (.ct rfl (.cu rfl)))) (xV)) rfl (lU ad cp f _) ?_
 rintro _ w2 uw2
 have zw2:=uw2.size
 replace hW:=hW.up uw2
 refine Af (Ah ?_)
 refine A5 (σ:=Nat) (fun s w=>(s=0)∧(Up w0 w)) (fun s=>[(6,.eq (vi 20)),(1,.eq (vi 0))]) ([(0,.eq _),(2,.eq _)]) (fun s=>1-s) 0 ?_ tQ ?_
 ·exact⟨rfl,hW⟩
 rintro j w3 ⟨hj,hW⟩
 subst hj
 refine Ak (Ae (I rfl (I rfl ?_)))
 refine U (.fa (PEv.l2 rfl rfl) (rfl)) ?_
 refine Af ?_
 refine CW.f rfl ?_
 refine A8 (Ab (Ab (Ao ?_)))
 refine C1 rfl ⟨_,rfl,?_⟩
 exact hW
theorem lW(ad:Option Addr)(cp:Nat)(f:Go.Value)(w:World):Ret prog 202 #[.slice ad 0 cp,f] w fun _ w'=>Up w w':=by
 have hW:=Up.refl w
 obtain⟨w0,rfl,_⟩:=W0 w
 refine cT 9 func202 rfl ?_
 refine Aa (I rfl (I rfl ?_))
 refine U (.Cn underlying258 (.t rfl)) ?_
 refine I rfl ?_
 refine A3 (eC (.ct rfl (.ct rfl (.cu rfl))) (xU)) rfl (lV ad cp f _) ?_
 rintro _ w1 uw1
 have zw1:=uw1.size
 replace hW:=hW.up uw1
 refine LW.nil ?_
 refine C1 rfl ⟨_,rfl,?_⟩
 exact hW
theorem lX(ad:Option Addr)(cp:Nat)(f f2:Go.Value)(w:World):Ret prog 200 #[.slice ad 0 cp,f,f2] w fun r w'=>r=.slice none 0 0∧Up w w':=by
 have hW:=Up.refl w
 obtain⟨w0,rfl,_⟩:=W0 w
 refine cT 27 func200 rfl ?_
 refine Ae (Ay (Am (Aa (Ay (Am (Ae (I rfl ?_)))))))
 refine U (.Cn jv (.t rfl)) ?_
 refine U (.move (.const _)) ?_
 refine Af (Ah ?_)
 refine A5 (σ:=Nat) (fun s w=>(s=0)∧(Up w0 w)) (fun s=>[(12,.eq (vi 0)),(7,.eq (.slice none 0 0)),(11,.eq (vi 0))]) ([(1,.eq _),(2,.eq _),(6,.eq _),(10,.eq _)]) (fun s=>1-s) 0 ?_ tQ ?_
 ·exact⟨rfl,hW⟩
 rintro j w1 ⟨hj,hW⟩
 subst hj
 refine Ae ?_
 refine U (.fa (PEv.l2 rfl rfl) (rfl)) ?_
 refine Am ?_
 refine CW.f rfl ?_
 refine A8 (Ab (Ab (Ao (Ac (Ae (I rfl (LW.A rfl (Af (Al ?_)))))))))
 refine KW.q ?_
 exact⟨rfl,hW⟩
theorem lY(ad:Option Addr)(cp:Nat)(f f2:Go.Value)(w:World):Ret prog 204 #[.slice ad 0 cp,f,f2] w fun r w'=>r=.slice none 0 0∧Up w w':=by
 have hW:=Up.refl w
 obtain⟨w0,rfl,_⟩:=W0 w
 refine cT 27 func204 rfl ?_
 refine Ae (Ay (Am (Aa (Ay (Am (Ae (I rfl ?_)))))))
 refine U (.Cn underlying258 (.t rfl)) ?_
 refine U (.move (.const _)) ?_
 refine Af (Ah ?_)
 refine A5 (σ:=Nat) (fun s w=>(s=0)∧(Up w0 w)) (fun s=>[(12,.eq (vi 0)),(7,.eq (.slice none 0 0)),(11,.eq (vi 0))]) ([(1,.eq _),(2,.eq _),(6,.eq _),(10,.eq _)]) (fun s=>1-s) 0 ?_ tQ ?_
 ·exact⟨rfl,hW⟩
 rintro j w1 ⟨hj,hW⟩
 subst hj
 refine Ae ?_
 refine U (.fa (PEv.l2 rfl rfl) (rfl)) ?_
 refine Am ?_
 refine CW.f rfl ?_
 refine A8 (Ab (Ab (Ao (Ac (Ae (I rfl (LW.A rfl (Af (Al ?_)))))))))
 refine KW.q ?_
 exact⟨rfl,hW⟩
theorem lZ(ad:Option Addr)(cp:Nat)(f:Go.Value)(w:World):Ret prog 155 #[.slice ad 0 cp,f] w fun r w'=>r=.slice none 0 0∧Up w w':=by
 have hW:=Up.refl w
 obtain⟨w0,rfl,_⟩:=W0 w
 refine cT 13 func155 rfl ?_
 refine Ae (Ay (Am (Aa (I rfl (I rfl ?_)))))
 refine A3 (eC (.ct rfl (.cons (.func _) (.cu rfl))) (xG)) rfl (lX ad cp _ _ _) ?_
 rintro _ w1 ⟨rfl,uw1⟩
 have zw1:=uw1.size
 replace hW:=hW.up uw1
 refine LW.A rfl (Am (Aa (I rfl ?_)))
 refine A3 (eC (.ct rfl (.cons (.func _) .nil)) (xH)) rfl (lW none 0 _ _) ?_
 rintro _ w2 uw2
 have zw2:=uw2.size
 replace hW:=hW.up uw2
 refine Am (Aa (I rfl ?_))
 refine A3 (eC (.ct rfl (.cons (.func _) (.cons (.func _) .nil))) (xI)) rfl (lY none 0 _ _ _) ?_
 rintro _ w3 ⟨rfl,uw3⟩
 have zw3:=uw3.size
 replace hW:=hW.up uw3
 refine LW.A rfl (Af (Al ?_))
 refine KW.q ?_
 exact⟨rfl,hW⟩
theorem gN(bc:Array Go.Value)(b:Base)(wafer:Int)(w:World)(hC:BaseC w bc b)(hp:b.Processes=[]):Ret prog 73 #[.agg bc,vi wafer] w fun r w'=>r=.slice none 0 0∧Up w w':=by
 obtain⟨w0,rfl,hS⟩:=W0 w
 obtain⟨v_,h_,ad,cp,rfl,_⟩:=hC.at_ (j:=0) cQ
 rw[show Ib b 0=[]from hp]at h_
 refine cT 12 func73 rfl ?_
 refine Ae ?_
 refine Aq (.bA rfl) rfl ?_
 rintro _ w1 ⟨B2,rfl,NB2⟩
 have eB2:=NB2.at_
 have zB2:=NB2.size
 replace hS:=hS.Cc NB2
 change Wx.Sep _ _ _ [_]at hS
 refine Aq (.O3 (.t rfl) rfl) rfl ?_
 rintro _ w2 ⟨B3,rfl,NB3⟩
 have eB3:=NB3.at_
 have zB3:=NB3.size
 replace hS:=hS.Cc NB3
 change Wx.Sep _ _ _ [_,_]at hS
 refine Ay (Am (Ae ?_))
 refine U (.lb rfl (hS.b1.Ad rfl)) ?_
 refine A3 (eC (.o rfl) (rO)) rfl (Re _ _) ?_
 rintro _ w3 ⟨rfl,uw3⟩
 have zw3:=uw3.size
 replace hS:=hS.up uw3
 refine U (.n1 rfl) ?_
 refine Af ?_
 refine CW.b rfl (fun h7=>?_) (fun h7=>?_)
 ·replace h7:=dQ h7
  refine Ae (Ay (Af (Al (Au ?_))))
  refine KW.q ?_
  exact⟨rfl,hS.Cl⟩
 replace h7:=dQ h7
 refine Ai (Ac (Ae ?_))
 refine U (.fB 0 rfl) ?_
 refine U (.lb rfl (hS.b0.cell h_)) ?_
 refine U (.makeFunc (.ct rfl (.cu rfl))) ?_
 refine A3 (eC (.u rfl rfl) (wK)) rfl (lZ ad cp _ _) ?_
 rintro _ w4 ⟨rfl,uw4⟩
 have zw4:=uw4.size
 replace hS:=hS.up uw4
 refine LW.A rfl (Af (Al ?_))
 refine KW.q ?_
 exact⟨rfl,hS.Cl⟩
theorem mA(ad:Option Addr)(cp:Nat)(f:Go.Value)(w:World):Ret prog 154 #[.slice ad 0 cp,f] w fun r w'=>r=vi (-1)∧Up w w':=by
 have hW:=Up.refl w
 obtain⟨w0,rfl,_⟩:=W0 w
 refine cT 19 func154 rfl ?_
 refine Ae (Ay (Am (Ae (I rfl ?_))))
 refine U (.Cn jv (.t rfl)) ?_
 refine U (.move (.const _)) ?_
 refine Af (Ah ?_)
 refine A5 (σ:=Nat) (fun s w=>(s=0)∧(Up w0 w)) (fun s=>[(8,.eq (vi 0)),(7,.eq (vi 0))]) ([(0,.eq _),(1,.eq _)]) (fun s=>1-s) 0 ?_ tQ ?_
 ·exact⟨rfl,hW⟩
 rintro j w1 ⟨hj,hW⟩
 subst hj
 refine Ae ?_
 refine U (.fa (PEv.l2 rfl rfl) (rfl)) ?_
 refine Am ?_
 refine CW.f rfl ?_
 refine A8 (Ab (Ab (Ao (Ac (Ae (Ay (Af (Al ?_))))))))
 refine KW.q ?_
 exact⟨rfl,hW⟩
theorem mB(ad:Option Addr)(cp:Nat)(f:Go.Value)(w:World):Ret prog 71 #[.slice ad 0 cp,f] w fun r w'=>r=.slice ad 0 cp∧Up w w':=by
 have hW:=Up.refl w
 obtain⟨w0,rfl,_⟩:=W0 w
 refine cT 42 func71 rfl ?_
 refine Ae (Ay (Am (Aa (I rfl (I rfl ?_)))))
 refine A3 (eC (.u rfl rfl) (qH)) rfl (mA ad cp f _) ?_
 rintro _ w1 ⟨rfl,uw1⟩
 have zw1:=uw1.size
 replace hW:=hW.up uw1
 refine LW.A rfl (Am (Ae (I rfl ?_)))
 refine U (.tr (PEv.eql (.t rfl) (.const _)) (rfl)) ?_
 refine Af ?_
 refine CW.v rfl ?_
 refine Ae (I rfl (LW.A rfl (Af (Al (Au ?_)))))
 refine KW.q ?_
 exact⟨rfl,hW⟩
theorem mC(w:World):Ret prog 72 #[.slice none 0 0] w fun r w'=>r=.slice none 0 0∧Up w w':=by
 have hW:=Up.refl w
 obtain⟨w0,rfl,_⟩:=W0 w
 refine cT 8 func72 rfl ?_
 refine Ae (Ay (Am (Ae (I rfl ?_))))
 refine U (.tr (PEv.Uv jv (.t rfl)) (rfl)) ?_
 refine Af ?_
 refine CW.v rfl ?_
 refine Ae (Ay (Af (Al (Au ?_))))
 refine KW.q ?_
 exact⟨rfl,hW⟩
theorem aX(bc:Array Go.Value)(b:Base)(wafer time:Int)(w:World)(hC:BaseC w bc b)(hp:b.Processes=[]):Ret prog 23 #[.agg bc,vi wafer,vi time] w fun r w'=>r=.slice none 0 0∧Up w w':=by
 obtain⟨w0,rfl,hS⟩:=W0 w
 refine cT 13 func23 rfl ?_
 refine Ae ?_
 refine Aq (.bA rfl) rfl ?_
 rintro _ w1 ⟨B3,rfl,NB3⟩
 have eB3:=NB3.at_
 have zB3:=NB3.size
 replace hS:=hS.Cc NB3
 change Wx.Sep _ _ _ [_]at hS
 refine Aq (.O3 (.t rfl) rfl) rfl ?_
 rintro _ w2 ⟨B5,rfl,NB5⟩
 have eB5:=NB5.at_
 have zB5:=NB5.size
 replace hS:=hS.Cc NB5
 change Wx.Sep _ _ _ [_,_]at hS
 refine Ay (Am (Aa ?_))
 refine U (.Hj lq k6 (hC.size) (.t rfl) (hS.b0.agg)) ?_
 refine I rfl ?_
 refine A3 (eC (.u rfl rfl) (BN)) rfl (gN bc b wafer _ (hC.up hS.Cl) hp) ?_
 rintro _ w3 ⟨rfl,uw3⟩
 have zw3:=uw3.size
 replace hS:=hS.up uw3
 refine A3 (eC (.o rfl) (BM)) rfl (mC _) ?_
 rintro _ w4 ⟨rfl,uw4⟩
 have zw4:=uw4.size
 replace hS:=hS.up uw4
 refine U (.makeFunc (.cu rfl)) ?_
 refine A3 (eC (.u rfl rfl) (BL)) rfl (mB none 0 _ _) ?_
 rintro _ w5 ⟨rfl,uw5⟩
 have zw5:=uw5.size
 replace hS:=hS.up uw5
 refine LW.A rfl (Af (Al ?_))
 refine KW.q ?_
 exact⟨rfl,hS.Cl⟩
theorem gO(av:Option Addr)(cv:Nat)(L:List Sk)(w:World)(hF:FlG w av none L [])(s:Sk)(hs:L[0]?=some s):Ret prog 140 #[.agg (gI av L.length cv),vi 0] w fun r w'=>r=.tuple #[.agg s.cells,.bool true]∧Up w w':=by
 obtain⟨w0,rfl,hS⟩:=W0 w
 have hlen:=hF.len
 refine cT 28 func140 rfl ?_
 refine Ae ?_
 refine Aq (.bA rfl) rfl ?_
 rintro _ w1 ⟨B2,rfl,NB2⟩
 have eB2:=NB2.at_
 have zB2:=NB2.size
 replace hS:=hS.Cc NB2
 change Wx.Sep _ _ _ [_]at hS
 refine Aq (.Bt kz) rfl ?_
 rintro _ w2 ⟨B4,rfl,NB4⟩
 have eB4:=NB4.at_
 have zB4:=NB4.size
 replace hS:=hS.Cc NB4
 change Wx.Sep _ _ _ [_,_]at hS
 refine Ay (Am (Ae ?_))
 refine U (.fB 4 rfl) ?_
 refine U (.tr (PEv.lb rfl (hS.b0.Ad rfl)) (rfl)) ?_
 refine U (.n1 rfl) ?_
 refine I rfl ?_
 refine Ap ?_
 refine I rfl ?_
 refine Ap ?_
 refine U (.fa (PEv.lss (.t rfl) (.const _)) (rfl)) ?_
 refine U (.po rfl (fun hp=>(by first|exact .const _|exact .tmp rfl|exact .cond rfl (by first|assumption|simp_all)))) ?_
 refine I rfl ?_
 refine Ap ?_
 refine I rfl ?_
 refine Ap ?_
 refine U (.fB 0 rfl) ?_
 refine Ap ?_
 refine U (.fB 2 rfl) ?_
 refine Ap ?_
 refine U (.lb rfl (hS.b0.Ad rfl)) ?_
 refine Ap ?_
 refine U (.Cn j0 (.t rfl)) ?_
 refine Ap ?_
 refine U (.fa (PEv.geq (.t rfl) (.t rfl)) (bn (by have:=hF.len;omega))) ?_
 refine U (.po rfl (fun hp=>(by first|exact .const _|exact .tmp rfl|exact .cond rfl (by first|assumption|simp_all)))) ?_
 refine Af ?_
 refine CW.f rfl ?_
 refine Ai (Ac (Ak ?_))
 obtain⟨Bs,os,as_,hcs⟩:=(hF.up hS.Cl).E 0 s hs
 refine Aa ?_
 refine U (.fB 0 rfl) ?_
 refine U (.fB 2 rfl) ?_
 refine U (.lb rfl (hS.b0.Ad rfl)) ?_
 refine U (.Ez (v':=vi ((0:Nat):Int)) (PEv.mv rfl) rfl) ?_
 refine U (.Ar j0 kh (j:=0) (.t rfl) (.t rfl) oQ as_) ?_
 refine U (.lc rfl (hcs)) ?_
 refine Cb (.Ca kh rfl (.t rfl) (.t rfl) (Sk.one _) hS.b1 rfl) ?_
 intro w3 Nw3
 have zw3:=Nw3.size
 replace hS:=hS.D9 1 rfl Nw3
 change Wx.Sep _ _ _ [_,_]at hS
 refine Ay (Af (Al ?_))
 refine Xw rfl rfl rfl isAgg49 kh rfl hS.b1.agg ⟨_,rfl,?_⟩
 exact⟨rfl,hS.Cl⟩
theorem gP(av:Option Addr)(m cv:Nat)(w:World):Ret prog 144 #[.agg (gI av m cv)] w fun r w'=>∃B,r=.slice (some ⟨B,0,none⟩) 1 1∧Els w' (some ⟨B,0,none⟩) 1 A6 [0]∧Up w w':=by
 obtain⟨w0,rfl,hS⟩:=W0 w
 refine cT 57 func144 rfl ?_
 refine Ae ?_
 refine Aq (.bA rfl) rfl ?_
 rintro _ w1 ⟨B1,rfl,NB1⟩
 have eB1:=NB1.at_
 have zB1:=NB1.size
 replace hS:=hS.Cc NB1
 change Wx.Sep _ _ _ [_]at hS
 refine Ay (Am (Ah (Ae ?_)))
 refine U (.fB 4 rfl) ?_
 refine U (.tr (PEv.lb rfl (hS.b0.Ad rfl)) (rfl)) ?_
 refine U (.n1 rfl) ?_
 refine LW.A rfl (Af ?_)
 refine CW.f rfl ?_
 refine Ae ?_
 refine U (.fB 5 rfl) ?_
 refine U (.lb rfl (hS.b0.Ad rfl)) ?_
 refine U (.Cn jv (.t rfl)) ?_
 refine U (.tr (PEv.eql (.t rfl) (.const _)) (rfl)) ?_
 refine LW.A rfl (Af ?_)
 refine CW.v rfl ?_
 refine Ae ?_
 refine Aq (.buildSlice (xs:=([0]:List Int)) (enc:=A6) (mk:=vi) ju jw j2 rfl cQ (fun _=>rfl) (fun _=>rfl) (.cons (.const _) .nil) rfl) rfl ?_
 rintro _ w2 ⟨B16,cB16,rfl,NB16,yB16,xB16⟩
 have eB16:=NB16.at_
 have zB16:=NB16.size
 replace hS:=hS.up NB16.up
 have hE16:=xB16
 refine LW.A rfl (Af (Al (A7 (Au ?_))))
 refine KW.q ?_
 exact⟨B16,rfl,hE16,hS.Cl⟩
theorem mD(ad:Option Addr)(cp:Nat)(l:List Int)(x0:Int)(w:World)(hE:Els w ad 1 A6 l)(hl:l.length≤100000):Ret prog 187 #[.slice ad l.length cp,vi x0] w fun r w'=>∃i,r=vi i∧decide (0≤i)=decide (x0∈l)∧Up w w':=by
 have hW:=Up.refl w
 obtain⟨w0,rfl,_⟩:=W0 w
 refine cT 19 func187 rfl ?_
 refine Ae (Ay (Am (Ae (I rfl ?_))))
 refine U (.Cn ju (.t rfl)) ?_
 refine U (.move (.const _)) ?_
 refine Af (Ah ?_)
 refine A5 (σ:=Nat) (fun s w=>(s≤l.length)∧(x0∉l.take s)∧(Up w0 w)) (fun s=>[(8,.eq (vi (s:Int)))]) ([(0,.eq _),(1,.eq _),(7,.eq _)]) (fun s=>l.length-s) 0 ?_ tQ ?_
 ·exact⟨au _,by simp,hW⟩
 rintro k w1 ⟨hk,hn,hW⟩
 refine Ae ?_
 refine U (.l2 rfl rfl) ?_
 refine Am ?_
 refine CW.b rfl (fun h9=>?_) (fun h9=>?_)
 ·replace h9:=dQ h9
  refine Ai (Ac (Ak (Ah (Ae (I rfl (LW.A rfl (Am (Aa (I rfl (I rfl ?_))))))))))
  refine I rfl ?_
  obtain⟨x,hx⟩:=An (xs:=l) (i:=k) oQ
  obtain⟨Bx,ox,ax,hcx⟩:=(Els.up hE hW) _ x hx
  refine U (.Ar ju jw (.t rfl) (.t rfl) oQ ax) ?_
  refine U (.lb rfl (hcx.nth (j:=0) rfl)) ?_
  refine U (.eql (.t rfl) (.t rfl)) ?_
  refine Af ?_
  refine CW.b rfl (fun h16=>?_) (fun h16=>?_)
  ·replace h16:=dQ h16
   refine Ae (I rfl (LW.A rfl (Af (Al (A7 (Au (Au (A7 (Au ?_)))))))))
   refine KW.q ?_
   first|exact⟨_,rfl,by subst h16;rw[be (ae hx)];exact be oQ,hW⟩|exact⟨_,rfl,by rw[show k=l.length by omega,bt]at hn;rw[bn hn];rfl,hW⟩
  replace h16:=dQ h16
  refine Ai (Aj (Ac (Aa ?_)))
  refine U (.ic rfl oQ) ?_
  refine I rfl (LW.nil (Av ?_))
  exact⟨k+1,⟨by omega,lP hn hx h16,hW⟩,tQ,by first|omega|(dsimp only;omega)⟩
 replace h9:=dQ h9
 refine A8 (Ab (Ab (Ao (Ac (Ae (Ay (Af (Al ?_))))))))
 refine KW.q ?_
 first|exact⟨_,rfl,by subst h16;rw[be (ae hx)];exact be oQ,hW⟩|exact⟨_,rfl,by rw[show k=l.length by omega,bt]at hn;rw[bn hn];rfl,hW⟩
theorem Yh(ad:Option Addr)(cp:Nat)(l:List Int)(x0:Int)(w:World)(hE:Els w ad 1 A6 l)(hl:l.length≤100000):Ret prog 143 #[.slice ad l.length cp,vi x0] w fun r w'=>r=.bool (decide (x0∈l))∧Up w w':=by
 have hW:=Up.refl w
 obtain⟨w0,rfl,_⟩:=W0 w
 refine cT 9 func143 rfl ?_
 refine Ae (Ay (Am (Aa (I rfl (I rfl ?_)))))
 refine A3 (eC (.u rfl rfl) (xB)) rfl (mD ad cp l x0 _ (Els.up hE hW) hl) ?_
 rintro _ w1 ⟨i,rfl,hi,uw1⟩
 have zw1:=uw1.size
 replace hW:=hW.up uw1
 refine U (.geq (.t rfl) (.const _)) ?_
 refine LW.A rfl (Af (Al ?_))
 refine KW.q ?_
 exact⟨aq Go.Value.bool hi,hW⟩
theorem mE(av:Option Addr)(m cv:Nat)(Bk:Nat)(w:World)(hK:Blk w Bk (gI av m cv) 142):Ret prog 141 #[.pointer (some ⟨Bk,0,none⟩)] w fun r w'=>r=.bool false∧Up w w':=by
 have hW:=Up.refl w
 obtain⟨w0,rfl,_⟩:=W0 w
 refine cT 5 func141 rfl ?_
 refine Ae (Ay (Am (Aa ?_)))
 refine U (.fB 4 rfl) ?_
 refine U (.tr (PEv.lb rfl ((hK.up hW).Ad rfl)) (rfl)) ?_
 refine U (.n1 rfl) ?_
 refine LW.A rfl (Af (Al ?_))
 refine KW.q ?_
 exact⟨rfl,hW⟩
theorem mF(av:Option Addr)(m cv:Nat)(a:GAct)(Bk Ba:Nat)(w:World)(hK:Blk w Bk (gI av m cv) 142)(hA:Blk w Ba (GAct.cells a) 38)(h0:a.Step=0):Ret prog 142 #[.pointer (some ⟨Bk,0,none⟩),.pointer (some ⟨Ba,0,none⟩)] w fun r w'=>r=.bool false∧Up w w':=by
 have hW:=Up.refl w
 obtain⟨w0,rfl,_⟩:=W0 w
 refine cT 13 func142 rfl ?_
 refine Ae (Ay (Am ?_))
 refine Cz 7 kQ kQ kQ kQ kQ rfl rfl ?_
 refine J (.fB 4 rfl) ?_
 refine J (.tr (PEv.lb rfl (hK.Ad rfl)) (rfl)) ?_
 refine J (.mv rfl) ?_
 refine Cv (.lc rfl (hK.agg)) ?_
 refine rL (ph:=.pred fun v w=>∃B,v=.slice (some ⟨B,0,none⟩) 1 1∧Els w (some ⟨B,0,none⟩) 1 A6 [0]) (fun _ _ _ h u=>let⟨B,e,hE⟩:=h;⟨B,e,hE.up u⟩) rfl rfl rfl rfl rfl (fun a w hu ha=>⟨_,_,Bm (.cu rfl) (vZ) a ha,(gP av m cv w).mono fun v w' h=>let⟨B,e,hE,u⟩:=h;⟨u,B,e,hE⟩⟩) rfl ?_
 refine Cv (.fB 1 rfl) ?_
 refine Cv (.lb rfl (hA.Ad rfl)) ?_
 refine HW.nil ?_
 intro w1 uw1
 have zw1:=uw1.size
 replace hW:=hW.up uw1
 refine Mr (d:=7) rfl fun v7 hp7=>?_
 obtain⟨B7,rfl,hE7⟩:=hp7
 refine Ap ?_
 refine A3 (eC (.u rfl rfl) (qG)) rfl (Yh _ _ ([0]:List Int) a.Step _ hE7 cQ) ?_
 rintro _ w2 ⟨rfl,uw2⟩
 have zw2:=uw2.size
 replace hW:=hW.up uw2
 refine Ap ?_
 refine U (.n1 rfl) ?_
 refine U (.pa rfl (fun hp=>(by first|exact .const _|exact .tmp rfl|exact .cond rfl (by first|assumption|simp_all)))) ?_
 refine LW.A rfl (Af (Al ?_))
 refine KW.q ?_
 exact⟨by simp[h0],hW⟩
theorem mG(a:GAct)(s:Sk)(Bo Bs Ba:Nat)(w:World)(hO:Blk w Bo #[.bool true] 4)(hs:Blk w Bs s.cells 49)(hA:Blk w Ba (GAct.cells a) 38)(hE:Els w s.ta 1 A6 s.tl)(hl:s.tl.length≤100)(hT:a.Tool∈s.tl):Ret prog 145 #[.pointer (some ⟨Bo,0,none⟩),.pointer (some ⟨Bs,0,none⟩),.pointer (some ⟨Ba,0,none⟩)] w fun r w'=>r=.bool false∧Up w w':=by
 have hW:=Up.refl w
 obtain⟨w0,rfl,_⟩:=W0 w
 refine cT 13 func145 rfl ?_
 refine Ae (Ay (Am (Aa ?_)))
 refine U (.tr (PEv.lb rfl ((hO.up hW).Ad rfl)) (rfl)) ?_
 refine I rfl ?_
 refine Ap ?_
 refine U (.fB 1 rfl) ?_
 refine Ap ?_
 refine U (.lb rfl ((hs.up hW).Ad rfl)) ?_
 refine Ap ?_
 refine U (.fB 2 rfl) ?_
 refine Ap ?_
 refine U (.lb rfl ((hA.up hW).Ad rfl)) ?_
 refine Ap ?_
 refine A3 (eC (.u rfl rfl) (qG)) rfl (Yh _ _ s.tl a.Tool _ (Els.up hE hW) oQ) ?_
 rintro _ w1 ⟨rfl,uw1⟩
 have zw1:=uw1.size
 replace hW:=hW.up uw1
 refine Ap ?_
 refine U (.n1 rfl) ?_
 refine U (.pa rfl (fun hp=>(by first|exact .const _|exact .tmp rfl|exact .cond rfl (by first|assumption|simp_all)))) ?_
 refine LW.A rfl (Af (Al ?_))
 refine KW.q ?_
 exact⟨by simp[hT],hW⟩
theorem mH(a:GAct)(s:Sk)(Bo Bs Ba:Nat)(w:World)(hO:Blk w Bo #[.bool true] 4)(hs:Blk w Bs s.cells 49)(hA:Blk w Ba (GAct.cells a) 38)(hR:s.rc=a.Recipe):Ret prog 146 #[.pointer (some ⟨Bo,0,none⟩),.pointer (some ⟨Bs,0,none⟩),.pointer (some ⟨Ba,0,none⟩)] w fun r w'=>r=.bool false∧Up w w':=by
 have hW:=Up.refl w
 obtain⟨w0,rfl,_⟩:=W0 w
 refine cT 12 func146 rfl ?_
 refine Ae (Ay (Am (Aa ?_)))
 refine U (.tr (PEv.lb rfl ((hO.up hW).Ad rfl)) (rfl)) ?_
 refine I rfl ?_
 refine Ap ?_
 refine U (.fB 0 rfl) ?_
 refine Ap ?_
 refine U (.lb rfl ((hs.up hW).Ad rfl)) ?_
 refine Ap ?_
 refine U (.fB 4 rfl) ?_
 refine Ap ?_
 refine U (.lb rfl ((hA.up hW).Ad rfl)) ?_
 refine Ap ?_
 refine U (.fa (PEv.neq (.t rfl) (.t rfl)) (by simp[hR])) ?_
 refine U (.pa rfl (fun hp=>(by first|exact .const _|exact .tmp rfl|exact .cond rfl (by first|assumption|simp_all)))) ?_
 refine LW.A rfl (Af (Al ?_))
 refine KW.q ?_
 exact⟨rfl,hW⟩
theorem mI(bc:Array Go.Value)(b:Base)(a:GAct)(Bb Ba:Nat)(w:World)(hC:BaseC w bc b)(hB:Blk w Bb bc 35)(hA:Blk w Ba (GAct.cells a) 38)(hl:b.Qualified.length≤100000)(hq:Ha b a.Tool a.Chamber a.Recipe a.Revision a.Time=true):Ret prog 147 #[.pointer (some ⟨Bb,0,none⟩),.pointer (some ⟨Ba,0,none⟩)] w fun r w'=>r=.bool false∧Up w w':=by
 have hW:=Up.refl w
 obtain⟨w0,rfl,_⟩:=W0 w
 refine cT 16 func147 rfl ?_
 refine Ae (Ay (Am (Aa ?_)))
 refine U (.Hj lq k6 (hC.size) (.t rfl) ((hB.up hW).agg)) ?_
 refine U (.fB 2 rfl) ?_
 refine U (.lb rfl ((hA.up hW).Ad rfl)) ?_
 refine U (.fB 3 rfl) ?_
 refine U (.lb rfl ((hA.up hW).Ad rfl)) ?_
 refine U (.fB 4 rfl) ?_
 refine U (.lb rfl ((hA.up hW).Ad rfl)) ?_
 refine U (.fB 5 rfl) ?_
 refine U (.lb rfl ((hA.up hW).Ad rfl)) ?_
 refine U (.fB 6 rfl) ?_
 refine U (.lb rfl ((hA.up hW).Ad rfl)) ?_
 refine A3 (eC (.ct rfl (.ct rfl (.ct rfl (.ct rfl (.ct rfl (.cu rfl)))))) (wD)) rfl (Sq bc b _ _ _ _ _ _ (hC.up hW) hl) ?_
 rintro _ w1 ⟨rfl,uw1⟩
 have zw1:=uw1.size
 replace hW:=hW.up uw1
 refine U (.n1 rfl) ?_
 refine LW.A rfl (Af (Al ?_))
 refine KW.q ?_
 exact⟨by rw[hq];rfl,hW⟩
theorem mJ(bc:Array Go.Value)(b:Base)(a:GAct)(Bb Ba:Nat)(w:World)(hC:BaseC w bc b)(hB:Blk w Bb bc 35)(hA:Blk w Ba (GAct.cells a) 38)(hH:b.Holds.length≤1000000000)(hR:b.Releases.length<9223372036854775807)(hL:b.Lots.length<9223372036854775807):Ret prog 149 #[.pointer (some ⟨Bb,0,none⟩),.pointer (some ⟨Ba,0,none⟩)] w fun r w'=>r=.bool (decide (0<(Fo b a).length))∧Up w w':=by
 have hW:=Up.refl w
 obtain⟨w0,rfl,_⟩:=W0 w
 refine cT 8 func149 rfl ?_
 refine Ae (Ay (Am (Aa ?_)))
 refine U (.Hj lq k6 (hC.size) (.t rfl) ((hB.up hW).agg)) ?_
 refine U (.lc rfl ((hA.up hW).agg)) ?_
 refine A3 (eC (.u rfl rfl) (uJ)) rfl (T4 bc b a _ (hC.up hW) hH hR hL) ?_
 rintro v5 w1 ⟨hO5,uw1⟩
 have zw1:=uw1.size
 replace hW:=hW.up uw1
 obtain⟨ad5,cp5,rfl,_⟩:=hO5.sl (fun _=>rfl)
 refine U (.Cn ju (.t rfl)) ?_
 refine U (.gtr (.t rfl) (.const _)) ?_
 refine LW.A rfl (Af (Al ?_))
 refine KW.q ?_
 exact⟨by simp,hW⟩
theorem mK(X Y:Nat→Prop)(B9 Br:Nat)(rs:List Rsn)(G:World→Prop)(w:World)(hGu:∀W W',G W→Up W W'→G W')(hGk:∀W W',G W→Kx w.heap.size X Y W W'→G W')(hGr:∀W,G W→∀r∈rs,Ret prog r.fn (#[]++r.lb) W fun v W'=>v=.bool r.yes∧Up W W')(hen:∀r∈rs,∀args w,(callFunc r.fn args).run prog w=.ok (.enter r.fn args) w)(hl:rs.length≤100)(_:¬X B9)(hRX:¬X Br)(hQ0:Blk w B9 #[.slice (some ⟨Br,0,none⟩) rs.length rs.length] 206)(hE0:Els w (some ⟨Br,0,none⟩) 2 Rsn.cells rs)(hG0:G w):
   IterS prog 150 #[.pointer (some ⟨B9,0,none⟩)] (fun x:tP rs=>#[vi x.1.num]) X Y (fun ys=>ys.map (·.1)=rs.filter (·.yes)) (fun _=>True) (rs.filter (·.yes)).length w:=by
 refine IterS.of ?_
 intro lp J Jx w0 hUw _ hY hJ
 obtain⟨Bd,hBd⟩:∃Bd,Bd=w0.heap.size:=⟨_,rfl⟩
 rw[←hBd]at hJ hY
 clear hBd
 have hQ:=hQ0.up hUw
 have hE:=Els.up hE0 hUw
 have hG:=Kep.up ⟨hG0,hGu⟩ hUw
 refine cT 22 func150 rfl ?_
 refine Ae ?_
 refine U (.lb rfl (hQ.Ad rfl)) ?_
 refine U (.Cn underlying206 (.t rfl)) ?_
 refine U (.move (.const _)) ?_
 refine Af (Ah ?_)
 refine CW.loop (σ:=Nat×List (tP rs)) (fun s w=>s.1≤rs.length∧s.2.map (·.1)=(rs.take s.1).filter (·.yes)∧Jw Bd J s.2 w∧Els w (some ⟨Br,0,none⟩) 2 Rsn.cells rs∧Kep G w) (fun s=>[(0,.eq (.func (.yield lp) #[] #[])),(5,.eq (.slice (some ⟨Br,0,none⟩) rs.length rs.length)),(6,.eq (vi (rs.length:Int))),(7,.eq (vi (s.1:Int)))]) (fun s=>rs.length-s.1) (0,[]) ?_ ?_ ?_
 ·exact⟨au _,rfl,hJ,hE,hG⟩
 ·exact tQ
 rintro⟨k,pre⟩ w1 ⟨hk,hpr,hJ,hE,hG⟩
 dsimp only at hk hpr hJ hE hG
 refine Ae ?_
 refine U (.l2 rfl rfl) ?_
 refine Am ?_
 refine CW.b rfl (fun h8=>?_) (fun h8=>?_)
 ·replace h8:=dQ h8
  refine Ai (Ac (Ak (Ah (Ae ?_))))
  obtain⟨x,hx⟩:=An (xs:=rs) (i:=k) oQ
  obtain⟨Bx,ox,ax,hcx⟩:=hE _ x hx
  refine U (.Ar underlying206 sizeOf202 (.t rfl) (.t rfl) oQ ax) ?_
  refine U (.lc rfl (hcx)) ?_
  refine Aq (.Bt lr) rfl ?_
  rintro _ w2 ⟨B4,rfl,MB4⟩
  refine Cb (.Ca sizeOf202 rfl (.t rfl) (.t rfl) (Rsn.one _) MB4.blk rfl) ?_
  intro w3 LB4
  have NB4:=MB4.set LB4
  clear LB4 MB4
  have eB4:=NB4.at_
  have zB4:=NB4.size
  replace hJ:=hJ.up NB4.up
  replace hE:=hE.up NB4.up
  replace hG:=hG.up NB4.up
  replace hcx:=hcx.up NB4.up
  have hB4:=NB4.blk
  refine Am ?_
  cases hq3:x.yes with
  |false=>
   refine Aa ?_
   refine U (.fB 1 rfl) ?_
   refine U (.lb rfl (hB4.Ad rfl)) ?_
   refine A3 (Cr (.t rfl) .nil (hen x (ae hx))) rfl (hGr _ hG.g x (ae hx)) ?_
   rintro _ w4 ⟨e13,uw4⟩
   have zw4:=uw4.size
   replace hJ:=hJ.up uw4
   replace hE:=hE.up uw4
   replace hG:=hG.up uw4
   replace hB4:=hB4.up uw4
   rw[hq3]at e13
   subst e13
   refine I rfl ?_
   refine Bh ?_
   refine Bh ?_
   refine Bh ?_
   refine Bh ?_
   refine Bh ?_
   refine U (.C0 (b:=false) (.t rfl) (fun hp=>absurd (show false=true from hp) cQ)) ?_
   refine Af ?_
   refine CW.f rfl ?_
   refine Ai (Aj (Ac (Aa ?_)))
   refine U (.ic rfl oQ) ?_
   refine I rfl (LW.nil (Av ?_))
   first|exact⟨(k+1,pre++[⟨x,ae hx,hq3⟩]),⟨by omega,by rw[cg,hpr,I1 hx hq3];rfl,hJ2,hE,hG⟩,tQ,by show rs.length-(k+1)<rs.length-k;omega⟩|exact⟨(k+1,pre),⟨by omega,by rw[Pd hx hq3];exact hpr,hJ,hE,hG⟩,tQ,by show rs.length-(k+1)<rs.length-k;omega⟩
  |true=>
   refine Aa ?_
   refine U (.fB 1 rfl) ?_
   refine U (.lb rfl (hB4.Ad rfl)) ?_
   refine A3 (Cr (.t rfl) .nil (hen x (ae hx))) rfl (hGr _ hG.g x (ae hx)) ?_
   rintro _ w5 ⟨e13,uw5⟩
   have zw5:=uw5.size
   replace hJ:=hJ.up uw5
   replace hE:=hE.up uw5
   replace hG:=hG.up uw5
   replace hB4:=hB4.up uw5
   rw[hq3]at e13
   subst e13
   refine I rfl ?_
   refine Ap ?_
   refine I rfl ?_
   refine Ap ?_
   refine U (.fB 0 rfl) ?_
   refine Ap ?_
   refine U (.lb rfl (hB4.Ad rfl)) ?_
   refine Ap ?_
   refine LW.y (.t rfl) (.cu rfl) rfl rfl (hY _ ⟨x,ae hx,hq3⟩ _ hJ (by have:=bE hx hq3;rw[←hpr,dm]at this;exact this)) ?_
   rintro _ w6 ⟨y,rfl,hcase⟩
   refine Ap ?_
   refine U (.n1 rfl) ?_
   refine U (.pa rfl (fun hp=>(by first|exact .const _|exact .tmp rfl|exact .cond rfl (by first|assumption|simp_all)))) ?_
   refine Af ?_
   refine CW.b rfl (fun h20=>?_) (fun h20=>?_)
   ·replace h20:=dQ h20
    have hy:y=false:=by simpa using h20
    subst hy
    obtain⟨_,hJx⟩:=hcase.resolve_left (by simp)
    refine Al (A7 (Au (Au (A7 ?_))))
    refine Fm rfl ⟨_,rfl,?_⟩
    first|exact .inl ⟨pre,by rw[hpr,hkk,bt],hJ.j⟩|exact .inr ⟨_,trivial,hJx⟩
   replace h20:=dQ h20
   have hy:y=true:=by simpa using h20
   subst hy
   obtain⟨_,hJ2,hN⟩:=hcase.resolve_right (by simp)
   replace hE:=hE.kx hN (fun B o e=>by cases e;exact hRX)
   replace hG:Kep G _:=⟨hGk _ _ hG.g hN,hG.u⟩
   refine Ai (Aj (Ac (Aa ?_)))
   refine U (.ic rfl oQ) ?_
   refine I rfl (LW.nil (Av ?_))
   first|exact⟨(k+1,pre++[⟨x,ae hx,hq3⟩]),⟨by omega,by rw[cg,hpr,I1 hx hq3];rfl,hJ2,hE,hG⟩,tQ,by show rs.length-(k+1)<rs.length-k;omega⟩|exact⟨(k+1,pre),⟨by omega,by rw[Pd hx hq3];exact hpr,hJ,hE,hG⟩,tQ,by show rs.length-(k+1)<rs.length-k;omega⟩
 replace h8:=dQ h8
 have hkk:k=rs.length:=by omega
 refine A8 (Ab (Ab (Ao ?_)))
 refine C1 rfl ⟨_,rfl,?_⟩
 first|exact .inl ⟨pre,by rw[hpr,hkk,bt],hJ.j⟩|exact .inr ⟨_,trivial,hJx⟩
theorem gQ(f:Fact)(id:Int)(B:Nat)(w:World)(hB:Blk w B #[vi id] 3):Ret prog 192 #[.agg f.cells,.pointer (some ⟨B,0,none⟩)] w fun r w'=>r=.bool (decide (f.Product=id))∧Up w w':=by
 have hW:=Up.refl w
 obtain⟨w0,rfl,_⟩:=W0 w
 refine cT 8 func192 rfl ?_
 refine Ae ?_
 refine Aq (.bA rfl) rfl ?_
 rintro _ w1 ⟨B2,rfl,NB2⟩
 have eB2:=NB2.at_
 have zB2:=NB2.size
 replace hW:=hW.up NB2.up
 have hB2:=NB2.blk
 refine Ay (Am (Aa ?_))
 refine U (.fB 10 rfl) ?_
 refine U (.lb rfl (hB2.Ad rfl)) ?_
 refine U (.lb rfl ((hB.up hW).Ad rfl)) ?_
 refine U (.eql (.t rfl) (.t rfl)) ?_
 refine LW.A rfl (Af (Al ?_))
 refine KW.q ?_
 exact⟨rfl,hW⟩
theorem mL(bc:Array Go.Value)(b:Base)(id:Int)(w:World)(hC:BaseC w bc b)(hl:b.Flows.length≤100000):Ret prog 151 #[.agg bc,vi id] w fun r w'=>r=.tuple #[.agg ((Yd b id).getD Lv).cells,.bool (Yd b id).isSome]∧Up w w':=by
 obtain⟨w0,rfl,hS⟩:=W0 w
 obtain⟨v4,h4,hr4⟩:=hC.DC
 obtain⟨ad,cp,rfl,hE0⟩:=hr4
 refine cT 12 func151 rfl ?_
 refine Ae ?_
 refine Aq (.bA rfl) rfl ?_
 rintro _ w1 ⟨B2,rfl,NB2⟩
 have eB2:=NB2.at_
 have zB2:=NB2.size
 replace hS:=hS.Cc NB2
 change Wx.Sep _ _ _ [_]at hS
 refine Aq (.O3 (.t rfl) rfl) rfl ?_
 rintro _ w2 ⟨B3,rfl,NB3⟩
 have eB3:=NB3.at_
 have zB3:=NB3.size
 replace hS:=hS.Cc NB3
 change Wx.Sep _ _ _ [_,_]at hS
 refine Aq (.Bt j4) rfl ?_
 rintro _ w3 ⟨B4,rfl,NB4⟩
 have eB4:=NB4.at_
 have zB4:=NB4.size
 replace hS:=hS.Cc NB4
 change Wx.Sep _ _ _ [_,_,_]at hS
 refine Ay (Am (Aa ?_))
 refine U (.fB 4 rfl) ?_
 refine U (.lb rfl (hS.b0.cell h4)) ?_
 refine U (.makeFunc (.cu rfl)) ?_
 refine A3 (eC (.u rfl rfl) (qN)) rfl (Ty 192 #[.pointer (some ⟨B3,0,none⟩)] (fun f=>decide (f.Product=id)) xD ad cp b.Flows _ (Els.up hE0 hS.Cl) hl (fun W u x=>gQ x id B3 W (hS.b1.up u))) ?_
 rintro _ w4 ⟨rfl,uw4⟩
 have zw4:=uw4.size
 replace hS:=hS.up uw4
 refine U (.xt rfl rfl) (U (.xt rfl rfl) ?_)
 refine Cb (.Ca jz rfl (.t rfl) (.t rfl) eQ hS.b2 rfl) ?_
 intro w5 Nw5
 have zw5:=Nw5.size
 replace hS:=hS.D9 2 rfl Nw5
 change Wx.Sep _ _ _ [_,_,_]at hS
 refine LW.A rfl (Af (Al ?_))
 refine Q8 rfl rfl rfl isAgg33 jz rfl (hS.b2).agg ⟨_,rfl,?_⟩
 exact⟨rfl,hS.Cl⟩
theorem tR(bc:Array Go.Value)(b:Base)(wafer time:Int)(f:Fact)(L:List Sk)(w:World)(hC:BaseC w bc b)(hlen:b.Lots.length<9223372036854775807)(hfl:b.Flows.length≤100000)(hpr:(Gb b.Lots wafer time).2≠0)(hf:Yd b (Gb b.Lots wafer time).2=some f)(hT:f.Text=bs (Dr L))(hL:FlS L)(hFw:Fwd L)(hG:GM w):Ret prog 70 #[.agg bc,vi wafer,vi time,.slice none 0 0] w fun r w'=>∃av cv M t,r=.agg (gI av M.length cv)∧Same L M∧M[0]?=some t∧FlK w.heap.size w' av M∧Up w w':=by
 obtain⟨w0,rfl,hS⟩:=W0 w
 refine cT 57 func70 rfl ?_
 refine Ae ?_
 refine Aq (.bA rfl) rfl ?_
 rintro _ w1 ⟨B4,rfl,NB4⟩
 have eB4:=NB4.at_
 have zB4:=NB4.size
 replace hS:=hS.Cc NB4
 change Wx.Sep _ _ _ [_]at hS
 refine Aq (.Bt zeroValue142) rfl ?_
 rintro _ w2 ⟨B8,rfl,NB8⟩
 have eB8:=NB8.at_
 have zB8:=NB8.size
 replace hS:=hS.Cc NB8
 change Wx.Sep _ _ _ [_,_]at hS
 refine Am (Aa (I rfl ?_))
 refine U (.build (cs:=CR) underlying142 zeroValue142 P9 (.cu rfl) rfl) ?_
 refine Aq (.Bt zeroValue142) rfl ?_
 rintro _ w3 ⟨B9,rfl,MB9⟩
 refine Cb (.Ca sizeOf142 rfl (.t rfl) (.t rfl) pQ MB9.blk rfl) ?_
 intro w4 LB9
 have NB9:=MB9.set LB9
 clear LB9 MB9
 have eB9:=NB9.at_
 have zB9:=NB9.size
 replace hS:=hS.Cc NB9
 change Wx.Sep _ _ _ [_,_,_]at hS
 refine Am (Aa ?_)
 refine U (.Hj lq k6 (hC.size) (.t rfl) (hS.b0.agg)) ?_
 refine I rfl (I rfl ?_)
 refine A3 (eC (.ct rfl (.ct rfl (.cu rfl))) (zP)) rfl (Vc bc b wafer time _ (hC.up hS.Cl) hlen) ?_
 rintro _ w5 ⟨rfl,uw5⟩
 have zw5:=uw5.size
 replace hS:=hS.up uw5
 refine I rfl (U (.xt rfl rfl) (U (.xt rfl rfl) (LW.A rfl (LW.A rfl (Am (Ae (I rfl ?_)))))))
 refine U (.fa (PEv.eql (.t rfl) (.const _)) (bn hpr)) ?_
 refine Af ?_
 refine CW.f rfl ?_
 refine Ai (Ac (Ae ?_))
 refine U (.Hj lq k6 (hC.size) (.t rfl) (hS.b0.agg)) ?_
 refine I rfl ?_
 refine A3 (eC (.u rfl rfl) (wH)) rfl (mL bc b _ _ (hC.up hS.Cl) hfl) ?_
 rintro _ w6 ⟨e29,uw6⟩
 have zw6:=uw6.size
 replace hS:=hS.up uw6
 rw[hf]at e29
 subst e29
 refine I rfl (U (.xt rfl rfl) ?_)
 refine U (.tr (PEv.xt rfl rfl) (rfl)) ?_
 refine Aq (.Bt j4) rfl ?_
 rintro _ w7 ⟨B12,rfl,MB12⟩
 refine Cb (.Ca jz rfl (.t rfl) (.t rfl) (Fact.one _) MB12.blk rfl) ?_
 intro w8 LB12
 have NB12:=MB12.set LB12
 clear LB12 MB12
 have eB12:=NB12.at_
 have zB12:=NB12.size
 replace hS:=hS.Cc NB12
 change Wx.Sep _ _ _ [_,_,_,_]at hS
 refine LW.A rfl (Am (Ae (I rfl ?_)))
 refine U (.n1 rfl) ?_
 refine Af ?_
 refine CW.f rfl ?_
 refine Ai (Ac (Ae ?_))
 refine U (.fB 18 rfl) ?_
 refine U (.Ez (v':=.string (bs (Dr L))) (PEv.lb rfl (hS.b3.Ad rfl)) (aq Value.string hT)) ?_
 refine A3 (eC (.o rfl) (wI)) rfl (gK L hL _ (hG.up hS.Cl)) ?_
 rintro _ w9 ⟨sa,sc,M,rfl,hM,hFk,uw9⟩
 have zw9:=uw9.size
 replace hS:=hS.up uw9
 refine I rfl (U (.xt rfl rfl) (U (.xt rfl rfl) (U (.xt rfl rfl) ?_)))
 refine Aq (.Bt k9) rfl ?_
 rintro _ w10 ⟨B14,rfl,MB14⟩
 refine Cb (.Ca lv rfl (.t rfl) (.t rfl) (G7 _ _ _ _ _ _) MB14.blk rfl) ?_
 intro w11 LB14
 have NB14:=MB14.set LB14
 clear LB14 MB14
 have eB14:=NB14.at_
 have zB14:=NB14.size
 replace hFk:=hFk.up NB14.up
 replace hS:=hS.Cc NB14
 change Wx.Sep _ _ _ [_,_,_,_,_]at hS
 refine LW.A rfl (LW.A rfl (Am (Ae (I rfl ?_))))
 refine U (.tr (PEv.eql (.t rfl) (.const _)) (rfl)) ?_
 refine I rfl ?_
 refine Ap ?_
 refine U (.lc rfl (hS.b4.agg)) ?_
 refine Ap ?_
 refine A3 (eC (.o rfl) (wJ)) rfl (aR sa none sc 0 M [] _ hFk.g (hM.CP hFw)) ?_
 rintro _ w12 ⟨rfl,uw12⟩
 have zw12:=uw12.size
 replace hS:=hS.up uw12
 replace hFk:=hFk.up uw12
 refine Ap ?_
 refine U (.Y5 (off:=0) underlying51 rfl rfl j_ (.t rfl) rfl) ?_
 refine Ap ?_
 refine U (.tr (PEv.eql (.t rfl) (.const _)) (rfl)) ?_
 refine U (.pa rfl (fun hp=>wQ)) ?_
 refine Af ?_
 refine CW.v rfl ?_
 refine Aa ?_
 refine U (.lc rfl (hS.b4.agg)) ?_
 refine U (.fB 0 rfl) ?_
 refine Cb (.S1 lv rfl (.t rfl) (.t rfl) (G7 _ _ _ _ _ _) hS.b2 bQ) ?_
 intro w13 Nw13
 have zw13:=Nw13.size
 replace hS:=hS.D9 2 rfl (show Set_ _ w13 _ (DO sa M.length sc) _ from Nw13)
 change Wx.Sep _ _ _ [_,_,_,_,_]at hS
 replace hFk:=hFk.sto Nw13.sto oQ
 refine U (.fB 4 rfl) ?_
 refine Cb (.store km (.t rfl) (.const _) rfl hS.b2 bQ) ?_
 intro w14 Nw14
 have zw14:=Nw14.size
 replace hS:=hS.D9 2 rfl (show Set_ _ w14 _ (gI sa M.length sc) _ from Nw14)
 change Wx.Sep _ _ _ [_,_,_,_,_]at hS
 replace hFk:=hFk.sto Nw14.sto oQ
 refine Am (Aa ?_)
 refine U (.lc rfl (hS.b2.agg)) ?_
 refine Cb (.Ca sizeOf142 rfl (.t rfl) (.t rfl) (pP _ _ _) hS.b1 rfl) ?_
 intro w15 Nw15
 have zw15:=Nw15.size
 replace hS:=hS.D9 1 rfl Nw15
 change Wx.Sep _ _ _ [_,_,_,_,_]at hS
 replace hFk:=hFk.sto Nw15.sto oQ
 refine Af (Al ?_)
 refine Fz rfl rfl isAgg142 sizeOf142 rfl (hS.b1.agg) ⟨_,rfl,?_⟩
 obtain⟨t,ht⟩:=An (xs:=M) (i:=0) (by have:=hL.len;have:=hM.len;omega)
 exact⟨sa,sc,M,t,rfl,hM,ht,hFk.mono oQ,hS.Cl⟩
theorem Yi(bc:Array Go.Value)(b:Base)(a:GAct)(av:Option Addr)(cv:Nat)(L:List Sk)(s:Sk)(p:Bool)(w:World)(hC:BaseC w bc b)(hF:FlG w av none L [])(hs:L[0]?=some s)(h0:a.Step=0):Ret prog 69 #[.agg bc,.agg (GAct.cells a),.agg (gI av L.length cv)] w fun r w'=>∃Bb Ba Bk Bs Bo Br B9,r=.func (.func 150) #[] #[.pointer (some ⟨B9,0,none⟩)]∧Wx.Sep no w w' [A4 Bb bc 35,A4 Ba (GAct.cells a) 38,A4 Bk (gI av L.length cv) 142,A4 Bs s.cells 49,A4 Bo #[.bool true] 4,Az 202 2 Rsn.cells (.slice (some ⟨Br,0,none⟩) 6 6) (Vn Bk Ba Bo Bs Bb p),A4 B9 #[.slice (some ⟨Br,0,none⟩) 6 6] 206]:=by
 obtain⟨w0,rfl,hS⟩:=W0 w
 refine cT 31 func69 rfl ?_
 refine Ae ?_
 refine Aq (.bA rfl) rfl ?_
 rintro _ w1 ⟨B3,rfl,NB3⟩
 have eB3:=NB3.at_
 have zB3:=NB3.size
 replace hS:=hS.Cc NB3
 change Wx.Sep _ _ _ [_]at hS
 refine Aq (.bA rfl) rfl ?_
 rintro _ w2 ⟨B4,rfl,NB4⟩
 have eB4:=NB4.at_
 have zB4:=NB4.size
 replace hS:=hS.Cc NB4
 change Wx.Sep _ _ _ [_,_]at hS
 refine Aq (.bA rfl) rfl ?_
 rintro _ w3 ⟨B5,rfl,NB5⟩
 have eB5:=NB5.at_
 have zB5:=NB5.size
 replace hS:=hS.Cc NB5
 change Wx.Sep _ _ _ [_,_,_]at hS
 refine Ay (Am (Aa ?_))
 refine U (.lc rfl (hS.b2.agg)) ?_
 refine U (.fB 1 rfl) ?_
 refine U (.Ez (v':=vi 0) (PEv.lb rfl (hS.b1.Ad rfl)) (aq vi h0)) ?_
 refine A3 (eC (.u rfl rfl) (vW)) rfl (gO av cv L _ (hF.up hS.Cl) s hs) ?_
 rintro _ w4 ⟨rfl,uw4⟩
 have zw4:=uw4.size
 replace hS:=hS.up uw4
 refine I rfl (U (.xt rfl rfl) (U (.xt rfl rfl) ?_))
 refine Aq (.Bt kz) rfl ?_
 rintro _ w5 ⟨B7,rfl,NB7⟩
 have eB7:=NB7.at_
 have zB7:=NB7.size
 replace hS:=hS.Cc NB7
 change Wx.Sep _ _ _ [_,_,_,_]at hS
 refine Aq (.F6 ll rfl) rfl ?_
 rintro _ w6 ⟨B8,rfl,NB8⟩
 have eB8:=NB8.at_
 have zB8:=NB8.size
 replace hS:=hS.Cc NB8
 change Wx.Sep _ _ _ [_,_,_,_,_]at hS
 refine Cb (.Ca kh rfl (.t rfl) (.t rfl) (Sk.one _) hS.b3 rfl) ?_
 intro w7 Nw7
 have zw7:=Nw7.size
 replace hS:=hS.D9 3 rfl (show Set_ _ w7 _ (s.cells) _ from Nw7)
 change Wx.Sep _ _ _ [_,_,_,_,_]at hS
 refine Cb (.store km (.t rfl) (.t rfl) rfl hS.b4 bQ) ?_
 intro w8 Nw8
 have zw8:=Nw8.size
 replace hS:=hS.D9 4 rfl Nw8
 change Wx.Sep _ _ _ [_,_,_,_,_]at hS
 refine Am (Aa ?_)
 refine U (.makeFunc (.cu rfl)) ?_
 refine U (.build (cs:=Rsn.cells ⟨1,141,#[.pointer (some ⟨B5,0,none⟩)],false⟩) lx lr E7 (.cons (.const _) (.cu rfl)) rfl) ?_
 refine U (.makeFunc (.ct rfl (.cu rfl))) ?_
 refine U (.build (cs:=Rsn.cells ⟨2,142,#[.pointer (some ⟨B5,0,none⟩),.pointer (some ⟨B4,0,none⟩)],false⟩) lx lr E7 (.cons (.const _) (.cu rfl)) rfl) ?_
 refine U (.makeFunc (.ct rfl (.ct rfl (.cu rfl)))) ?_
 refine U (.build (cs:=Rsn.cells ⟨4,145,#[.pointer (some ⟨B8,0,none⟩),.pointer (some ⟨B7,0,none⟩),.pointer (some ⟨B4,0,none⟩)],false⟩) lx lr E7 (.cons (.const _) (.cu rfl)) rfl) ?_
 refine U (.makeFunc (.ct rfl (.ct rfl (.cu rfl)))) ?_
 refine U (.build (cs:=Rsn.cells ⟨8,146,#[.pointer (some ⟨B8,0,none⟩),.pointer (some ⟨B7,0,none⟩),.pointer (some ⟨B4,0,none⟩)],false⟩) lx lr E7 (.cons (.const _) (.cu rfl)) rfl) ?_
 refine U (.makeFunc (.ct rfl (.cu rfl))) ?_
 refine U (.build (cs:=Rsn.cells ⟨16,147,#[.pointer (some ⟨B3,0,none⟩),.pointer (some ⟨B4,0,none⟩)],false⟩) lx lr E7 (.cons (.const _) (.cu rfl)) rfl) ?_
 refine U (.makeFunc (.ct rfl (.cu rfl))) ?_
 refine U (.build (cs:=Rsn.cells ⟨32,149,#[.pointer (some ⟨B3,0,none⟩),.pointer (some ⟨B4,0,none⟩)],p⟩) lx lr E7 (.cons (.const _) (.cu rfl)) rfl) ?_
 refine Aq (.buildSlice (xs:=([⟨1,141,#[.pointer (some ⟨B5,0,none⟩)],false⟩,⟨2,142,#[.pointer (some ⟨B5,0,none⟩),.pointer (some ⟨B4,0,none⟩)],false⟩,⟨4,145,#[.pointer (some ⟨B8,0,none⟩),.pointer (some ⟨B7,0,none⟩),.pointer (some ⟨B4,0,none⟩)],false⟩,⟨8,146,#[.pointer (some ⟨B8,0,none⟩),.pointer (some ⟨B7,0,none⟩),.pointer (some ⟨B4,0,none⟩)],false⟩,⟨16,147,#[.pointer (some ⟨B3,0,none⟩),.pointer (some ⟨B4,0,none⟩)],false⟩,⟨32,149,#[.pointer (some ⟨B3,0,none⟩),.pointer (some ⟨B4,0,none⟩)],p⟩]:List Rsn)) (enc:=Rsn.cells) (mk:=fun r=>.agg r.cells) underlying206 sizeOf202 lr rfl cQ (fun _=>rfl) (fun _=>rfl) (.ct rfl (.ct rfl (.ct rfl (.ct rfl (.ct rfl (.cu rfl)))))) rfl) rfl ?_
 intro v29 w9 hN29
 obtain⟨uw9,B29,rfl,e29,hO29⟩:=NewSl.own hN29 (fun _=>rfl) cQ (by simp[maxLen])
 have zw9:=uw9.size
 replace hS:=hS.add uw9 (A':=Az 202 2 Rsn.cells (.slice (some ⟨B29,0,none⟩) 6 6) ([⟨1,141,#[.pointer (some ⟨B5,0,none⟩)],false⟩,⟨2,142,#[.pointer (some ⟨B5,0,none⟩),.pointer (some ⟨B4,0,none⟩)],false⟩,⟨4,145,#[.pointer (some ⟨B8,0,none⟩),.pointer (some ⟨B7,0,none⟩),.pointer (some ⟨B4,0,none⟩)],false⟩,⟨8,146,#[.pointer (some ⟨B8,0,none⟩),.pointer (some ⟨B7,0,none⟩),.pointer (some ⟨B4,0,none⟩)],false⟩,⟨16,147,#[.pointer (some ⟨B3,0,none⟩),.pointer (some ⟨B4,0,none⟩)],false⟩,⟨32,149,#[.pointer (some ⟨B3,0,none⟩),.pointer (some ⟨B4,0,none⟩)],p⟩]:List Rsn)) hO29 (fun i h=>by cases h;exact eo e29.symm)
 change Wx.Sep _ _ _ [_,_,_,_,_,_]at hS
 refine Aq (.F6 zeroValue206 rfl) rfl ?_
 rintro _ w10 ⟨B9,rfl,MB9⟩
 refine Cb (.store sizeOf206 (.t rfl) (.t rfl) rfl MB9.blk cQ) ?_
 intro w11 LB9
 have NB9:=MB9.set LB9
 clear LB9 MB9
 have eB9:=NB9.at_
 have zB9:=NB9.size
 replace hS:=hS.Cc NB9
 change Wx.Sep _ _ _ [_,_,_,_,_,_,_]at hS
 refine Am (Aa ?_)
 refine U (.makeFunc (.cu rfl)) ?_
 refine LW.A rfl (Af (Al ?_))
 refine KW.q ?_
 exact⟨B3,B4,B5,B7,B8,B29,B9,rfl,hS⟩
end Go.Proofs.YtnocngnlpgikaaaGreatDoor
