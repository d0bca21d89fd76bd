import Derived.Test.YtnocngnlpgikaaaGreatDoorKR18
namespace Go.Wx
def Hp(D:List Bool)(n:Nat):Bool:=D.getD n false
def nR(D E:List Bool):Prop:=∀n,Hp D n=true→Hp E n=true
theorem M4{D:List Bool}{n m:Nat}(h:n<D.length):Hp (D.set n true) m=(decide (n=m)||Hp D m):=by
 unfold Hp
 rw[cy,cy,ft]
 by_cases e:n=m
 · subst e;simp[h]
 simp[e]
theorem nS{D:List Bool}{n:Nat}(h:n<D.length):nR D (D.set n true):=fun m hm=>by rw[M4 h,hm,Bool.or_true]
def Tf(D:List Bool):Nat:=D.count false
theorem K7:∀{D:List Bool}{n:Nat},n<D.length→Hp D n=false→Tf (D.set n true)+1=Tf D
 |[],_,h,_=>by simp at h
 |a::D,0,_,h=>by
   have:a=false:=h
   subst this
   simp[Tf]
 |a::D,n+1,h,e=>by
   have ih:=K7 (D:=D) (n:=n) (by simpa using h) (by simpa[Hp]using e)
   unfold Tf at ih⊢
   rw[f8,i0,i0]
   omega
theorem jJ:∀{D E:List Bool},D.length=E.length→nR D E→Tf E≤Tf D
 |[],[],_,_=>a8 _
 |a::D,b::E,hl,h=>by
   have ih:=jJ (D:=D) (E:=E) (by simpa using hl) (fun n hn=>by simpa[Hp]using h (n+1) (by simpa[Hp]using hn))
   have h0:a=true→b=true:=by simpa[Hp]using h 0
   unfold Tf at ih⊢
   rw[i0,i0]
   cases a<;>cases b<;>simp_all<;>omega
def zG(af:Nat→List Nat)(D:List Bool):Prop:=∀m,Hp D m=true→∀k∈af m,Hp D k=true
structure Vis(af:Nat→List Nat)(D E:List Bool)(n:Nat):Prop where
 len:E.length=D.length
 le:nR D E
 at_:Hp E n=true
 cl:∀m,Hp E m=true→Hp D m=false→∀k∈af m,Hp E k=true
 mn:∀C,zG af C→nR D C→Hp C n=true→nR E C
structure VisL(af:Nat→List Nat)(D E:List Bool)(n:Nat)(l:List Nat):Prop where
 len:E.length=D.length
 le:nR D E
 at_:Hp E n=true
 cl:∀m,m≠n→Hp E m=true→Hp D m=false→∀k∈af m,Hp E k=true
 done:∀k∈l,Hp E k=true
 mn:∀C,zG af C→nR D C→Hp C n=true→nR E C
theorem sE{D C:List Bool}{n m:Nat}(h:n<D.length)(h1:nR D C)(h2:Hp C n=true)(hm:Hp (D.set n true) m=true):Hp C m=true:=by
 rw[M4 h]at hm
 rcases jd.1 hm with e|e
 · rw[←bw e];exact h2
 exact h1 m e
theorem VisL.start{af:Nat→List Nat}{D:List Bool}{n:Nat}(h:n<D.length):VisL af D (D.set n true) n []:=
 ⟨de,nS h,by rw[M4 h];simp,fun m hm h1 h2=>by rw[M4 h,h2]at h1;simp at h1;exact absurd h1.symm hm,fun k hk=>(by cases hk),fun C _ h1 h2 m hm=>sE h h1 h2 hm⟩
theorem VisL.skip{af:Nat→List Nat}{D E:List Bool}{n k:Nat}{l:List Nat}(h:VisL af D E n l)(hk:Hp E k=true):VisL af D E n (l++[k]):=
 ⟨h.len,h.le,h.at_,h.cl,fun x hx=>(bp.1 hx).elim (h.done x) (fun hx=>by rw[bh.1 hx];exact hk),h.mn⟩
theorem VisL.more{af:Nat→List Nat}{D E G:List Bool}{n k:Nat}{l:List Nat}(h:VisL af D E n l)(hk:k∈af n)(v:Vis af E G k):VisL af D G n (l++[k]):=
 ⟨v.len.trans h.len,fun m hm=>v.le m (h.le m hm),v.le n h.at_,fun m hm h1 h2 x hx=>by
   by_cases he:Hp E m=true
   · exact v.le x (h.cl m hm he h2 x hx)
   exact v.cl m h1 (by simpa using he) x hx,
  fun x hx=>(bp.1 hx).elim (fun hx=>v.le x (h.done x hx)) (fun hx=>by rw[bh.1 hx];exact v.at_),fun C hC h1 h2=>v.mn C hC (h.mn C hC h1 h2) (hC n h2 k hk)⟩
theorem VisL.fin{af:Nat→List Nat}{D E:List Bool}{n:Nat}(h:VisL af D E n (af n)):Vis af D E n:=
 ⟨h.len,h.le,h.at_,fun m h1 h2 k hk=>by
   by_cases e:m=n
   · subst e;exact h.done k hk
   exact h.cl m e h1 h2 k hk,h.mn⟩
theorem Vis.CI{af:Nat→List Nat}{N n:Nat}{E:List Bool}(v:Vis af (List.replicate N false) E n):zG af E:=fun m hm=>v.cl m hm (by unfold Hp;rw[cy,List.getElem?_replicate];split<;>rfl)
theorem cG(af nx:Nat→List Nat)(N:Nat)(hsub:∀m,∀k∈nx m,k∈af m)(hfw:∀m,∀k∈nx m,m<k∧k<N):∀(j m:Nat),m<N→N-m≤j→∃e,e<N∧nx e=[]∧∀D,zG af D→Hp D m=true→Hp D e=true
 |0,m,h,hj=>by omega
 |j+1,m,h,hj=>by
   cases hn:nx m with
   |nil=>exact⟨m,h,hn,fun D _ hD=>hD⟩
   |cons k r=>
     have hk:k∈nx m:=by rw[hn];exact bl
     obtain⟨e,h1,h2,h3⟩:=cG af nx N hsub hfw j k (hfw m k hk).2 (by have:=(hfw m k hk).1;omega)
     exact⟨e,h1,h2,fun D hD hm=>h3 D hD (hD m hm k (hsub m k hk))⟩
theorem jK{α:Type}{enc:α→Array Value}{w:World}{ad:Option Addr}{k:Nat}{xs:List α}(hE:Els w ad k enc xs)(hs:∀x,(enc x).size=k)(hk:0<k)(hne:xs≠[]){B o:Nat}(e:ad=some ⟨B,o,none⟩):B<w.heap.size:=by
 cases xs with
 |nil=>exact absurd rfl hne
 |cons x l=>
   obtain⟨B',o',e',hc⟩:=hE 0 x rfl
   rw[e]at e'
   cases e'
   exact block_lt_of_cell (hc 0 _ (b6 (by rw[hs];exact hk)))
structure FlR(b:Nat)(w:World)(sa:Option Addr)(L:List Sk):Prop where
 E:Els w sa 7 Sk.cells L
 p:∀s∈L,Els w s.na 1 A6 s.nx
 ls:L≠[]→∀B o,sa=some ⟨B,o,none⟩→B<b
 ln:∀s∈L,s.nx≠[]→∀B o,s.na=some ⟨B,o,none⟩→B<b
theorem cH{α:Type}{X:Nat→Prop}{enc:α→Array Value}{w w':World}{ad:Option Addr}{k b:Nat}{xs:List α}(h:Els w ad k enc xs)(f:Fr X w w')(hX:∀i,X i→b≤i)(hb:xs≠[]→∀B o,ad=some ⟨B,o,none⟩→B<b):Els w' ad k enc xs:=fun i x hx=>
 Els.fr h f (fun B o e hB=>by have:=hX B hB;have:=hb (fun e=>by rw[e]at hx;cases hx) B o e;omega) i x hx
theorem FlR.fr{X:Nat→Prop}{b:Nat}{w w':World}{sa:Option Addr}{L:List Sk}(h:FlR b w sa L)(f:Fr X w w')(hX:∀i,X i→b≤i):FlR b w' sa L:=
 ⟨cH h.E f hX h.ls,fun s hs=>cH (h.p s hs) f hX (h.ln s hs),h.ls,h.ln⟩
theorem FlG.R{w:World}{sa wa:Option Addr}{L:List Sk}{Ws:List Wn}(h:FlG w sa wa L Ws):FlR w.heap.size w sa L:=
 ⟨h.E,fun s hs=>(h.p s hs).2,fun hne _ _ e=>jK h.E (fun _=>rfl) cQ hne e,fun s hs hne _ _ e=>jK (h.p s hs).2 (fun _=>rfl) cQ hne e⟩
structure Fwd(L:List Sk):Prop where
 b:∀(i:Nat)(s:Sk),L[i]?=some s→ -1≤s.bk∧s.bk≤i
 n:∀(i:Nat)(s:Sk),L[i]?=some s→∀x∈s.nx,(i:Int)<x∧x<L.length
 l:∀s∈L,s.nx.length≤4
 len:1≤L.length∧L.length≤40
def Wj(L:List Sk)(m:Nat):List Nat:=match L[m]? with
 |some s=>(Ka s).map Int.toNat
 |.none=>[]
def uA(L:List Sk)(m:Nat):List Nat:=match L[m]? with
 |some s=>s.nx.map Int.toNat
 |.none=>[]
theorem Zw{L:List Sk}{m:Nat}{s:Sk}(h:L[m]?=some s):Wj L m=(Ka s).map Int.toNat:=by unfold Wj;rw[h]
theorem Fwd.DM{L:List Sk}(h:Fwd L){i:Nat}{s:Sk}(hs:L[i]?=some s):∀x∈Ka s,0≤x∧x<L.length:=fun x hx=>by
 have hi:=(ak.1 hs).1
 have h1:=h.b i s hs
 have h2:=h.n i s hs
 unfold Ka at hx
 split at hx
 · rcases bg.1 hx with rfl|hx
   · omega
   have:=h2 x hx;omega
 have:=h2 x hx;omega
theorem nT(l:List Int):(l.attach.map fun x=>x.1.toNat)=l.map Int.toNat:=by
 rw[←List.attach_map_subtype_val l]
 simp
theorem Jm{D:List Bool}{n:Nat}(h:n<D.length):D[n]?=some (Hp D n):=by
 unfold Hp
 rw[cy,cj h]
 rfl
theorem eN{α:Type}{enc:α→Array Value}{As:List Asr}{e k:Nat}{v:Value}{xs ys:List α}{i:Nat}(h:Cp (As++[Az e k enc v xs]) i):Cp (As++[Az e k enc v ys]) i:=by
 rcases G9.1 h with h|⟨A,hA,hi⟩
 · exact G9.2 (.inl h)
 rw[bh.1 hA]at hi
 exact G9.2 (.inr (eI hi))
def Fp(E:List Bool)(k:Nat):List Int:=((List.range k).filter (Hp E)).map fun i:Nat=>(i:Int)
theorem M5{E:List Bool}{k:Nat}(h:Hp E k=true):Fp E (k+1)=Fp E k++[(k:Int)]:=by
 unfold Fp
 rw[ii,dc,List.filter_cons_of_pos h,ij,cg]
 rfl
theorem Pp{E:List Bool}{k:Nat}(h:Hp E k=false):Fp E (k+1)=Fp E k:=by
 unfold Fp
 rw[ii,dc,iw (by rw[h];decide),ij,dv]
theorem Kh(E:List Bool)(k:Nat):(Fp E k).length≤k:=by
 unfold Fp
 rw[dm]
 exact br (fm _ _) (by rw[jk];exact a8 _)
theorem Ki{E:List Bool}{k:Nat}{x:Int}:x∈Fp E k↔∃i:Nat,x=(i:Int)∧i<k∧Hp E i=true:=by
 unfold Fp
 simp only[bj,d_,b_]
 constructor
 · rintro⟨i,⟨h1,h2⟩,rfl⟩;exact⟨i,rfl,h1,h2⟩
 rintro⟨i,rfl,h1,h2⟩;exact⟨i,⟨h1,h2⟩,rfl⟩
def Lj(L:List Sk)(x:Int):Bool:=match L[x.toNat]? with
 |some s=>decide (s.nx.length=0)
 |.none=>false
theorem jL(n x:Nat):Hp (List.replicate n false) x=false:=by
 unfold Hp
 rw[cy,List.getElem?_replicate]
 split<;>rfl
structure Fld where
 off:Nat
 lo:Int
 hi:Int
def Cj(o:Nat):Fld:=⟨o,1,1000000⟩
def Cq:List Fld:=[Cj 1]
def Jn:List Fld:=[Cj 14,Cj 15]
def Cy:List Fld:=[⟨11,0,59⟩,⟨12,0,3⟩]
def Ch:Fld:=⟨5,0,1000000⟩
def Dp:List Fld:=[Ch,⟨6,0,1000000⟩]
def Iw:List Fld:=[⟨7,0,1000000⟩,⟨9,0,1000000⟩,⟨11,0,60⟩,⟨12,0,4⟩,⟨13,0,40⟩,⟨14,0,1000000⟩,⟨15,0,1000000⟩]
def Hg:Fld:=⟨17,1,255⟩
def Jt:Fld:=⟨16,-1000000,1000000⟩
theorem Tg{α:Type}{xss:List (List α)}{k:Nat}{ys:List α}(h:xss[k]?=some ys):(xss.take (k+1)).flatten=(xss.take k).flatten++ys:=by
 obtain⟨hk,e⟩:=ak.1 h
 rw[gc,h];simp
theorem Sf{α:Type}(xss:List (List α))(k:Nat):((xss.take k).flatten).length≤xss.flatten.length:=by
 have:xss.flatten=(xss.take k).flatten++(xss.drop k).flatten:=by rw[←i_,dl]
 rw[this,ah];omega
def Kj:List (List Fld):=[[],Cq++[Cj 7]++Cy++[⟨13,0,39⟩]++Jn++Dp++[⟨16,-10000000,10000000⟩],Cq++[Ch,Jt],Cq++[Cj 7,Cj 8,Ch],[Cj 7,Cj 9,Cj 10,Ch],[Cj 10],Cq++Cy++Jn++Dp,Cq++Iw++Dp++[Hg],[Cj 8,Hg,Ch],Cq++Cy++[Ch],[Cj 14,Ch,Jt],Cq++Cy++Dp]
def N3:List (List Fld):=[[],Cq,Cq,Cq,[Cj 7,Ch],[Cj 10],Cq,Cq,[Cj 8,Hg],Cq,[Cj 14,Ch],Cq]
def fieldsOf(k:Int):List Fld:=Kj.getD k.toNat []
def Eb(k:Int):List Fld:=N3.getD k.toNat []
def Gr(k:Int):Nat:=[0,1,0,2,0,0,1,1,0,0,0,1].getD k.toNat 0
def Gg(k:Int):Bool:=decide (k=5)
end Go.Wx
namespace Go.Proofs.YtnocngnlpgikaaaGreatDoor
open Go.Proofs.Tryz
open Go.Wx Go.RowKit
theorem Zx(b Bo g Bf Bv:Nat)(sa wa:Option Addr)(sc m wc:Nat)(L:List Sk)(hFw:Fwd L)(D:List Bool)(n:Nat)(w:World)(hlD:D.length=L.length)(hn:n<L.length)(hnD:Hp D n=false)(hR:FlR b w sa L)(hbw:b≤w.heap.size)(hb:∀i,Cp ([A4 Bo #[.slice (some ⟨g,0,none⟩) L.length L.length] 255,A4 Bf (Cu sa L.length sc wa m wc) 28,A4 Bv #[.func (.func 240) #[] #[.pointer (some ⟨Bo,0,none⟩),.pointer (some ⟨Bf,0,none⟩),.pointer (some ⟨Bv,0,none⟩)]] 296,Az 4 1 Jy (.slice (some ⟨g,0,none⟩) L.length L.length) (D)]) i→b≤i)(hS0:Wx.Sep (Cp ([A4 Bo #[.slice (some ⟨g,0,none⟩) L.length L.length] 255,A4 Bf (Cu sa L.length sc wa m wc) 28,A4 Bv #[.func (.func 240) #[] #[.pointer (some ⟨Bo,0,none⟩),.pointer (some ⟨Bf,0,none⟩),.pointer (some ⟨Bv,0,none⟩)]] 296,Az 4 1 Jy (.slice (some ⟨g,0,none⟩) L.length L.length) (D)])) w w ([A4 Bo #[.slice (some ⟨g,0,none⟩) L.length L.length] 255,A4 Bf (Cu sa L.length sc wa m wc) 28,A4 Bv #[.func (.func 240) #[] #[.pointer (some ⟨Bo,0,none⟩),.pointer (some ⟨Bf,0,none⟩),.pointer (some ⟨Bv,0,none⟩)]] 296,Az 4 1 Jy (.slice (some ⟨g,0,none⟩) L.length L.length) (D)]))(ih:∀(D':List Bool)(x:Nat)(W:World),Tf D'<Tf D→D'.length=L.length→x<L.length→Hp D' x=false→FlR b W sa L→b≤W.heap.size→(∀i,Cp ([A4 Bo #[.slice (some ⟨g,0,none⟩) L.length L.length] 255,A4 Bf (Cu sa L.length sc wa m wc) 28,A4 Bv #[.func (.func 240) #[] #[.pointer (some ⟨Bo,0,none⟩),.pointer (some ⟨Bf,0,none⟩),.pointer (some ⟨Bv,0,none⟩)]] 296,Az 4 1 Jy (.slice (some ⟨g,0,none⟩) L.length L.length) (D')]) i→b≤i)→Wx.Sep (Cp ([A4 Bo #[.slice (some ⟨g,0,none⟩) L.length L.length] 255,A4 Bf (Cu sa L.length sc wa m wc) 28,A4 Bv #[.func (.func 240) #[] #[.pointer (some ⟨Bo,0,none⟩),.pointer (some ⟨Bf,0,none⟩),.pointer (some ⟨Bv,0,none⟩)]] 296,Az 4 1 Jy (.slice (some ⟨g,0,none⟩) L.length L.length) (D')])) W W ([A4 Bo #[.slice (some ⟨g,0,none⟩) L.length L.length] 255,A4 Bf (Cu sa L.length sc wa m wc) 28,A4 Bv #[.func (.func 240) #[] #[.pointer (some ⟨Bo,0,none⟩),.pointer (some ⟨Bf,0,none⟩),.pointer (some ⟨Bv,0,none⟩)]] 296,Az 4 1 Jy (.slice (some ⟨g,0,none⟩) L.length L.length) (D')])→  Ret prog 240 #[vi (x:Int),.pointer (some ⟨Bo,0,none⟩),.pointer (some ⟨Bf,0,none⟩),.pointer (some ⟨Bv,0,none⟩)] W fun _ w'=>∃E,Wx.Sep (Cp ([A4 Bo #[.slice (some ⟨g,0,none⟩) L.length L.length] 255,A4 Bf (Cu sa L.length sc wa m wc) 28,A4 Bv #[.func (.func 240) #[] #[.pointer (some ⟨Bo,0,none⟩),.pointer (some ⟨Bf,0,none⟩),.pointer (some ⟨Bv,0,none⟩)]] 296,Az 4 1 Jy (.slice (some ⟨g,0,none⟩) L.length L.length) (D')])) W w' ([A4 Bo #[.slice (some ⟨g,0,none⟩) L.length L.length] 255,A4 Bf (Cu sa L.length sc wa m wc) 28,A4 Bv #[.func (.func 240) #[] #[.pointer (some ⟨Bo,0,none⟩),.pointer (some ⟨Bf,0,none⟩),.pointer (some ⟨Bv,0,none⟩)]] 296,Az 4 1 Jy (.slice (some ⟨g,0,none⟩) L.length L.length) (E)])∧Vis (Wj L) D' E x):Ret prog 240 #[vi (n:Int),.pointer (some ⟨Bo,0,none⟩),.pointer (some ⟨Bf,0,none⟩),.pointer (some ⟨Bv,0,none⟩)] w fun _ w'=>∃E,Wx.Sep (Cp ([A4 Bo #[.slice (some ⟨g,0,none⟩) L.length L.length] 255,A4 Bf (Cu sa L.length sc wa m wc) 28,A4 Bv #[.func (.func 240) #[] #[.pointer (some ⟨Bo,0,none⟩),.pointer (some ⟨Bf,0,none⟩),.pointer (some ⟨Bv,0,none⟩)]] 296,Az 4 1 Jy (.slice (some ⟨g,0,none⟩) L.length L.length) (D)])) w w' ([A4 Bo #[.slice (some ⟨g,0,none⟩) L.length L.length] 255,A4 Bf (Cu sa L.length sc wa m wc) 28,A4 Bv #[.func (.func 240) #[] #[.pointer (some ⟨Bo,0,none⟩),.pointer (some ⟨Bf,0,none⟩),.pointer (some ⟨Bv,0,none⟩)]] 296,Az 4 1 Jy (.slice (some ⟨g,0,none⟩) L.length L.length) (E)])∧Vis (Wj L) D E n:=by
 obtain⟨w0,rfl,_⟩:=W0 w
 have hD0:D[n]?=some false:=by rw[Jm oQ,hnD]
 have hS:=(((hS0.Zq.Ea 0 rfl).Ea 0 rfl).Ea 0 rfl).Ea 0 rfl
 change Wx.Sep _ _ _ [_,_,_,_,_]at hS
 refine Et (n:=24) func240 rfl rfl rfl ?_
 refine Ae ?_
 refine U (.lb rfl (hS.b1.Ad rfl)) ?_
 refine I rfl ?_
 refine U (.Ar j8 km (j:=n) (.t rfl) (.t rfl) oQ rfl) ?_
 refine Cb (.Hy (enc:=Jy) (k:=1) (z:=true) (i:=n) (j:=0) km (fun _=>rfl) rfl (.t rfl) (.const _) (hS.own 4 rfl) hD0 cQ rfl) ?_
 intro w1 Gw1
 have zw1:=Gw1.fr.size
 replace hS:=hS.F9 4 rfl Gw1
 change Wx.Sep _ _ _ [_,_,_,_,_]at hS
 refine Am ?_
 have hR1:=hR.fr hS.fr hb
 obtain⟨sk,hsk⟩:=An (xs:=L) (i:=n) hn
 obtain⟨Bs,os,as_,hcs⟩:=hR1.E n sk hsk
 have hsm:=ae hsk
 refine Aa ?_
 refine U (.fB 2 rfl) ?_
 refine U (.lb rfl (hS.b2.Ad rfl)) ?_
 refine I rfl ?_
 refine U (.Ar j0 kh (j:=n) (.t rfl) (.t rfl) oQ as_) ?_
 refine U (.lc rfl (hcs)) ?_
 refine A3 (eC (.o rfl) (qQ)) rfl (Td sk _) ?_
 rintro _ w2 ⟨⟨B8,rfl,hK8,hn8⟩,uw2⟩
 have zw2:=uw2.size
 replace hS:=hS.add uw2 (A':=A4 B8 sk.cells 49) (hK8) (fun i h=>by cases h;exact hn8)
 change Wx.Sep _ _ _ [_,_,_,_,_,_]at hS
 replace hS:=(((hS.Ea 1 rfl).Ea 1 rfl).Ea 1 rfl).Ea 1 rfl
 change Wx.Sep _ _ _ [_,_,_,_,_,_]at hS
 have hR2:=hR.fr hS.fr hb
 have zw0:=hS.size
 refine Af (Ah ?_)
 obtain⟨bq,hbq⟩:∃bq,bq=w2.heap.size:=⟨_,rfl⟩
 refine Ke (Zs:=[_,_]) (σ:=List Bool) (fun s=>[A4 Bo #[.slice (some ⟨g,0,none⟩) L.length L.length] 255,A4 Bf (Cu sa L.length sc wa m wc) 28,A4 Bv #[.func (.func 240) #[] #[.pointer (some ⟨Bo,0,none⟩),.pointer (some ⟨Bf,0,none⟩),.pointer (some ⟨Bv,0,none⟩)]] 296,Az 4 1 Jy (.slice (some ⟨g,0,none⟩) L.length L.length) (s)]) (fun pre s=>(VisL (Wj L) D s n (pre.map fun x:{x:Int//x∈Ka sk}=>x.1.toNat))) (fun _ _ _=>False) (fun x b=>[]) (fun x b=>[(5,.eq (vi x.1)),(1,.eq (.pointer (some ⟨Bo,0,none⟩))),(2,.eq (.pointer (some ⟨Bf,0,none⟩))),(3,.eq (.pointer (some ⟨Bv,0,none⟩)))]) (D.set n true) (.t rfl) (fun args w=>qU args w) (Ou _ _ B8 sk _ (fun hne B o e h=>h.1.elim (fun h2=>by have h1:=hR.ln sk hsm hne B o e;have h3:=hb _ h2;omega) (fun h2=>by have h1:=hR.ln sk hsm hne B o e;omega)) (fun h=>h.2 ⟨_,bu _ bl,rfl⟩) hS.b1 (hR2.p sk hsm) (fun x hx=>by have h1:=(hFw.b n sk hsk).2;have h2:=(hFw.n n sk hsk x hx).1;omega) (hFw.b n sk hsk).1 (by have:=hFw.l sk hsm;omega) (Ka sk) rfl) (fun _=>rfl) rfl (fun _ _=>rfl) (show Wx.Sep _ _ _ ([_,_]++[_,_,_,_])from hS) (VisL.start oQ) ?_ ?_ ?_ ?_
 ·intro lp x w3
  have hS:=Sep.start no w3
  refine G1 rfl ?_
  refine Aa (LW.A rfl (LW.nil ?_))
  exact fun a ha=>⟨0,hS,.nil _ _,ha.sub tQ⟩
 ·rintro lp pre x E b w4 hJ hlt hqw hS0 hS
  rw[←hbq]at hqw⊢
  have zq:=hqw
  change Wx.Sep _ _ _ [_,_,_,_]at hS
  have hx0:=hFw.DM hsk x.1 x.2
  have hEl:E.length=L.length:=hJ.len.trans hlD
  obtain⟨Bz,oz,az,hcz⟩:=(Cm (hS.own 3 rfl) (fun _=>rfl)) x.1.toNat _ (Jm oQ)
  cases az
  have hUn:Tf E<Tf D:=by have h1:=jJ (hJ.len.trans (de (i:=n) (a:=true)).symm).symm (fun j hj=>by rw[M4 (by omega)]at hj;rcases jd.1 hj with h|h;(rw[←bw h];exact hJ.at_);exact hJ.le j h);have h2:=K7 (D:=D) (n:=n) oQ hnD;omega
  refine Ah (Ae ?_)
  refine U (.lb rfl (hS.b0.Ad rfl)) ?_
  refine U (.Ez (v':=vi (x.1.toNat:Int)) (PEv.mv rfl) (aq vi oQ)) ?_
  refine U (.Ar j8 km (j:=x.1.toNat) (.t rfl) (.t rfl) oQ rfl) ?_
  refine U (.lb rfl (hcz.nth (j:=0) rfl)) ?_
  refine U (.n1 rfl) ?_
  refine Af ?_
  refine CW.b rfl (fun h20=>?_) (fun h20=>?_)
  ·replace h20:=dQ h20
   refine Aa ?_
   refine U (.lb rfl (hS.b2.Ad rfl)) ?_
   refine U (.Ez (v':=vi (x.1.toNat:Int)) (PEv.mv rfl) (aq vi oQ)) ?_
   refine A3 (Cr (f:=240) (lb:=#[.pointer (some ⟨Bo,0,none⟩),.pointer (some ⟨Bf,0,none⟩),.pointer (some ⟨Bv,0,none⟩)]) (.t rfl) (.cu rfl) (qS)) rfl (ih E x.1.toNat _ hUn hEl oQ (by simpa using h20) (hR.fr hS0.fr hb) oQ (fun i hi=>hb i (eN (As:=[_,_,_]) hi)) hS) ?_
   rintro _ w5 ⟨E2,hS,hV⟩
   refine LW.nil (Aj ?_)
   first|exact fun _ _=>⟨E2,[],(by rw[cg];exact hJ.more (by rw[Zw hsk];exact bj.2 ⟨x.1,x.2,rfl⟩) hV),hS,.cons (Li hS.b0) (.cons (Li hS.b1) (.cons (Li hS.b2) (.cons (jE (hS.own 3 rfl)) (.nil _ _))))⟩|exact fun _ _=>⟨E,[],(by rw[cg];exact hJ.skip (by simpa using h20)),hS,.cons (Li hS.b0) (.cons (Li hS.b1) (.cons (Li hS.b2) (.cons (jE (hS.own 3 rfl)) (.nil _ _))))⟩
  replace h20:=dQ h20
  refine Ai (Aj ?_)
  first|exact fun _ _=>⟨E2,[],(by rw[cg];exact hJ.more (by rw[Zw hsk];exact bj.2 ⟨x.1,x.2,rfl⟩) hV),hS,.cons (Li hS.b0) (.cons (Li hS.b1) (.cons (Li hS.b2) (.cons (jE (hS.own 3 rfl)) (.nil _ _))))⟩|exact fun _ _=>⟨E,[],(by rw[cg];exact hJ.skip (by simpa using h20)),hS,.cons (Li hS.b0) (.cons (Li hS.b1) (.cons (Li hS.b2) (.cons (jE (hS.own 3 rfl)) (.nil _ _))))⟩
 ·rintro Dm ys E w6 hDq hYs hJ hqw hS
  rw[←hbq]at hDq hqw
  have zq:=hqw
  replace hS:=Ut (Ds:=[]) (As:=[_]) (Bs:=[_,_,_,_]) hS
  change Wx.Sep _ _ _ [_,_,_,_,_,_]at hS
  refine Aj ?_
  refine L7 rfl (Dm::[]) _ (hS.get 0 rfl).1 (hS.get 0 rfl).2 ?_
  intro w7 hF_
  replace hS:=hS.step 0 rfl (A':=eJ) hF_ trivial (fun _ h=>h.elim)
  change Wx.Sep _ _ _ [_,_,_,_,_,_]at hS
  have zw7:=hF_.size
  refine Fm rfl ⟨_,rfl,?_⟩
  refine⟨E,hS.sub (.cons _ (.cons _ (List.Sublist.refl _))),?_⟩
  subst hYs
  rw[nT,←Zw hsk]at hJ
  exact hJ.fin
 exact fun _ _ _ _ _ _ _ h=>h.elim
theorem eO(b Bo g Bf Bv:Nat)(sa wa:Option Addr)(sc m wc:Nat)(L:List Sk)(hFw:Fwd L)  :∀(k:Nat)(D:List Bool)(n:Nat)(w:World),Tf D≤k→D.length=L.length→n<L.length→Hp D n=false→FlR b w sa L→b≤w.heap.size→(∀i,Cp ([A4 Bo #[.slice (some ⟨g,0,none⟩) L.length L.length] 255,A4 Bf (Cu sa L.length sc wa m wc) 28,A4 Bv #[.func (.func 240) #[] #[.pointer (some ⟨Bo,0,none⟩),.pointer (some ⟨Bf,0,none⟩),.pointer (some ⟨Bv,0,none⟩)]] 296,Az 4 1 Jy (.slice (some ⟨g,0,none⟩) L.length L.length) (D)]) i→b≤i)→Wx.Sep (Cp ([A4 Bo #[.slice (some ⟨g,0,none⟩) L.length L.length] 255,A4 Bf (Cu sa L.length sc wa m wc) 28,A4 Bv #[.func (.func 240) #[] #[.pointer (some ⟨Bo,0,none⟩),.pointer (some ⟨Bf,0,none⟩),.pointer (some ⟨Bv,0,none⟩)]] 296,Az 4 1 Jy (.slice (some ⟨g,0,none⟩) L.length L.length) (D)])) w w ([A4 Bo #[.slice (some ⟨g,0,none⟩) L.length L.length] 255,A4 Bf (Cu sa L.length sc wa m wc) 28,A4 Bv #[.func (.func 240) #[] #[.pointer (some ⟨Bo,0,none⟩),.pointer (some ⟨Bf,0,none⟩),.pointer (some ⟨Bv,0,none⟩)]] 296,Az 4 1 Jy (.slice (some ⟨g,0,none⟩) L.length L.length) (D)])→  Ret prog 240 #[vi (n:Int),.pointer (some ⟨Bo,0,none⟩),.pointer (some ⟨Bf,0,none⟩),.pointer (some ⟨Bv,0,none⟩)] w fun _ w'=>∃E,Wx.Sep (Cp ([A4 Bo #[.slice (some ⟨g,0,none⟩) L.length L.length] 255,A4 Bf (Cu sa L.length sc wa m wc) 28,A4 Bv #[.func (.func 240) #[] #[.pointer (some ⟨Bo,0,none⟩),.pointer (some ⟨Bf,0,none⟩),.pointer (some ⟨Bv,0,none⟩)]] 296,Az 4 1 Jy (.slice (some ⟨g,0,none⟩) L.length L.length) (D)])) w w' ([A4 Bo #[.slice (some ⟨g,0,none⟩) L.length L.length] 255,A4 Bf (Cu sa L.length sc wa m wc) 28,A4 Bv #[.func (.func 240) #[] #[.pointer (some ⟨Bo,0,none⟩),.pointer (some ⟨Bf,0,none⟩),.pointer (some ⟨Bv,0,none⟩)]] 296,Az 4 1 Jy (.slice (some ⟨g,0,none⟩) L.length L.length) (E)])∧Vis (Wj L) D E n:=by
 intro k
 induction k with
 |zero=>exact fun D n w h h1 h2 h3=>absurd (K7 (D:=D) (n:=n) oQ h3) oQ
 |succ k ih=>exact fun D n w h h1 h2 h3 h4 h5 h6 h7=>Zx b Bo g Bf Bv sa wa sc m wc L hFw D n w h1 h2 h3 h4 h5 h6 h7 (fun D' x W hu=>ih D' x W oQ)
theorem Kk(sa wa:Option Addr)(sc wc:Nat)(L:List Sk)(Ws:List Wn)(w:World)(hF:FlG w sa wa L Ws)(hFw:Fwd L)(x:Nat)(hx:x<L.length):Ret prog 198 #[.agg (Cu sa L.length sc wa Ws.length wc),vi (x:Int)] w fun r w'=>∃g E,r=.slice (some ⟨g,0,none⟩) L.length L.length∧Vis (Wj L) (List.replicate L.length false) E x∧OwnS w' w.heap.size 4 1 Jy (.slice (some ⟨g,0,none⟩) L.length L.length) E∧Up w w':=by
 obtain⟨w0,rfl,hS⟩:=W0 w
 have hlen:=hF.len
 refine cT 16 func198 rfl ?_
 refine Ae ?_
 refine Aq (.bA rfl) rfl ?_
 rintro _ w1 ⟨B2,rfl,NB2⟩
 have eB2:=NB2.at_
 have zB2:=NB2.size
 replace hS:=hS.Cc NB2
 change Wx.Sep _ _ _ [_]at hS
 refine Ay (Am (Aa ?_))
 refine U (.fB 2 rfl) ?_
 refine U (.lb rfl (hS.b0.Ad rfl)) ?_
 refine U (.Cn j0 (.t rfl)) ?_
 refine Aq (.jH (m:=L.length) (enc:=Jy) (x0:=false) (i:=Tryz.t4) rfl rfl j8 kQ rfl rfl cQ (.t rfl) (.t rfl) (by have:=hF.len;omega)) rfl ?_
 rintro _ w2 ⟨uM,g,zM,rfl,hOM⟩
 have zw2:=uM.size
 replace hS:=hS.add uM (A':=Az 4 1 Jy (.slice (some ⟨g,0,none⟩) L.length L.length) (List.replicate L.length false)) hOM (fun i h=>by cases h;exact zM)
 clear hOM
 change Wx.Sep _ _ _ [_,_]at hS
 refine Aq (.F6 zeroValue255 rfl) rfl ?_
 rintro _ w3 ⟨B5,rfl,MB5⟩
 refine Cb (.store sizeOf255 (.t rfl) (.t rfl) rfl MB5.blk cQ) ?_
 intro w4 LB5
 have NB5:=MB5.set LB5
 clear LB5 MB5
 have eB5:=NB5.at_
 have zB5:=NB5.size
 replace hS:=hS.Cc NB5
 change Wx.Sep _ _ _ [_,_,_]at hS
 refine Am (Aa ?_)
 refine Aq (.F6 zeroValue296 rfl) rfl ?_
 rintro _ w5 ⟨B6,rfl,NB6⟩
 have eB6:=NB6.at_
 have zB6:=NB6.size
 replace hS:=hS.Cc NB6
 change Wx.Sep _ _ _ [_,_,_,_]at hS
 refine Am (Aa ?_)
 refine U (.makeFunc (.ct rfl (.ct rfl (.cu rfl)))) ?_
 refine Cb (.store sizeOf296 (.t rfl) (.t rfl) rfl hS.b3 bQ) ?_
 intro w6 Nw6
 have zw6:=Nw6.size
 replace hS:=hS.D9 3 rfl Nw6
 change Wx.Sep _ _ _ [_,_,_,_]at hS
 refine Am (Aa ?_)
 refine U (.lb rfl (hS.b3.Ad rfl)) ?_
 refine I rfl ?_
 replace hS:=hS.Ea 2 rfl
 change Wx.Sep _ _ _ [_,_,_,_]at hS
 replace hS:=hS.Ea 0 rfl
 change Wx.Sep _ _ _ [_,_,_,_]at hS
 replace hS:=hS.Ea 1 rfl
 change Wx.Sep _ _ _ [_,_,_,_]at hS
 replace hS:=hS.Ea 0 rfl
 change Wx.Sep _ _ _ [_,_,_,_]at hS
 have hq_:=(show Wx.Sep _ _ _ ([]++[_,_,_,_])from hS)
 refine A3 (Cr (f:=240) (lb:=#[.pointer (some ⟨B5,0,none⟩),.pointer (some ⟨B2,0,none⟩),.pointer (some ⟨B6,0,none⟩)]) (.t rfl) (.cu rfl) (qS)) rfl (eO w0.heap.size B5 g B2 B6 sa wa sc Ws.length wc L hFw _ (List.replicate L.length false) x _ (a8 _) fk hx (jL _ _) (hF.R.fr (hS.Cl.fr no) (fun i h=>h.elim)) hS.Cl.size (fun i⟨A_,h1,h2⟩=>((hq_.right.each A_ h1).2 i h2).resolve_left (fun h=>h)) hq_.right.self) ?_
 rintro _ w7 ⟨E,uw7,hV⟩
 replace hS:=hq_.frame uw7
 change Wx.Sep _ _ _ [_,_,_,_]at hS
 have zw7:=uw7.fr.size
 clear hq_
 refine Am (Aa ?_)
 refine U (.lb rfl (hS.b0.Ad rfl)) ?_
 refine LW.A rfl (Af (Al ?_))
 refine KW.q ?_
 exact⟨_,_,rfl,hV,(hS.own 3 rfl).Jk (fun i h=>(hS.foot 3 rfl i h).resolve_left (fun h=>h)),hS.Cl⟩
theorem Th(sa wa:Option Addr)(sc wc:Nat)(L:List Sk)(Ws:List Wn)(w:World)(hF:FlG w sa wa L Ws)(hFw:Fwd L)(x:Nat)(hx:x<L.length):Ret prog 196 #[.agg (Cu sa L.length sc wa Ws.length wc),vi (x:Int)] w fun r w'=>∃E,Vis (Wj L) (List.replicate L.length false) E x∧OwnS w' w.heap.size 3 1 A6 r (Fp E L.length)∧Up w w':=by
 obtain⟨w0,rfl,hS⟩:=W0 w
 have hlen:=hF.len
 refine cT 28 func196 rfl ?_
 refine Ae ?_
 refine Aq (.bA rfl) rfl ?_
 rintro _ w1 ⟨B2,rfl,NB2⟩
 have eB2:=NB2.at_
 have zB2:=NB2.size
 replace hS:=hS.Cc NB2
 change Wx.Sep _ _ _ [_]at hS
 refine Ay (Am (Ae ?_))
 refine U (.lc rfl (hS.b0.agg)) ?_
 refine I rfl ?_
 refine Aq (.buildSlice (xs:=([(x:Int)]:List Int)) (enc:=A6) (mk:=vi) ju jw j2 rfl cQ (fun _=>rfl) (fun _=>rfl) (.cu rfl) rfl) rfl ?_
 rintro _ w2 ⟨B9,cB9,rfl,NB9,yB9,xB9⟩
 have eB9:=NB9.at_
 have zB9:=NB9.size
 replace hS:=hS.up NB9.up
 have hE9:=xB9
 refine A3 (eC (.u rfl rfl) (iJ)) rfl (Qk sa wa sc wc L Ws _ (hF.up hS.Cl) _ _ ([(x:Int)]:List Int) hE9 bQ (fun y hy=>by rw[bh.1 hy];omega)) ?_
 rintro _ w3 ⟨rfl,uw3⟩
 have zw3:=uw3.size
 replace hS:=hS.up uw3
 replace hE9:=hE9.up uw3
 refine U (.n1 rfl) ?_
 refine Af ?_
 refine CW.f rfl ?_
 refine Ai (Ac (Ak (Ak ?_)))
 replace hS:=hS.M2 (OwnS.nil _ 0 3 1 A6)
 change Wx.Sep _ _ _ [_,_]at hS
 refine Aa ?_
 refine U (.lc rfl (hS.b0.agg)) ?_
 refine I rfl ?_
 refine A3 (eC (.u rfl rfl) (iN)) rfl (Kk sa wa sc wc L Ws _ (hF.up hS.Cl) hFw x hx) ?_
 rintro _ w4 ⟨g,E,rfl,hV,hEE,uw4⟩
 have zw4:=uw4.size
 replace hE9:=hE9.up uw4
 replace hS:=hS.add uw4 (A':=Az 4 1 Jy (.slice (some ⟨g,0,none⟩) L.length L.length) E) (hEE.mono (au _)) (fun i h=>hEE.base i h)
 change Wx.Sep _ _ _ [_,_,_]at hS
 clear hEE
 have hEl:E.length=L.length:=hV.len.trans fk
 refine U (.Cn j8 (.t rfl)) ?_
 refine U (.move (.const _)) ?_
 refine Af (Ah ?_)
 refine A5 (σ:=Nat×Go.Value) (fun s w=>(s.1≤L.length)∧(Wx.Sep no w0 w [A4 B2 (Cu sa L.length sc wa Ws.length wc) 28,Az 3 1 A6 s.2 (Fp E s.1),Az 4 1 Jy (.slice (some ⟨g,0,none⟩) L.length L.length) E])) (fun s=>[(16,.eq (vi (s.1:Int))),(4,.eq (s.2))]) ([(14,.eq _),(15,.eq _)]) (fun s=>L.length-s.1) (0,.slice none 0 0) ?_ tQ ?_
 ·exact⟨au _,hS⟩
 rintro⟨k,v⟩ w5 ⟨hk,hS⟩
 dsimp only at hk hS
 change Wx.Sep _ _ _ [_,_,_]at hS
 change CW _ _ _ _ _ _ _ ([(16,.eq (vi (k:Int))),(4,.eq (v))]++_) _
 refine Ae ?_
 refine U (.l2 rfl rfl) ?_
 refine Am ?_
 refine CW.b rfl (fun h17=>?_) (fun h17=>?_)
 ·replace h17:=dQ h17
  refine Ai (Ac (Ak (Ah (Ak ?_))))
  have hkl:k<L.length:=cz.1 h17
  obtain⟨Bz,oz,az,hcz⟩:=(Cm (hS.own 2 rfl) (fun _=>rfl)) k _ (Jm oQ)
  cases az
  refine Aa (I rfl ?_)
  refine U (.Ar j8 km (j:=k) (.t rfl) (.t rfl) oQ rfl) ?_
  refine U (.lb rfl (hcz.nth (j:=0) rfl)) ?_
  refine LW.A rfl (LW.A rfl (Am (Aa (I rfl (Af ?_)))))
  refine CW.b rfl (fun h21=>?_) (fun h21=>?_)
  ·replace h21:=dQ h21
   refine Aa (I rfl (I rfl ?_))
   refine Aq (.buildSlice (xs:=[(k:Int)]) (enc:=A6) (mk:=vi) ju jw j2 rfl cQ (fun _=>rfl) (fun _=>rfl) (.cu rfl) rfl) rfl ?_
   rintro _ w6 ⟨B24,cB24,rfl,NB24,yB24,xB24⟩
   have eB24:=NB24.at_
   have zB24:=NB24.size
   replace hS:=hS.up NB24.up
   have hE24:=xB24
   refine Aq (.D7 (enc:=A6) (bytes:=8) (i:=Tryz.t3) ju kQ rfl rfl rfl rfl cQ (fun _=>rfl) Fq (.t rfl) (.t rfl) (hS.own 1 rfl) (Aw hE24) (by have:=Kh E k;simp[maxLen];have:=hF.len;omega) (by have:=Kh E k;simp;have:=hF.len;omega)) rfl ?_
   intro v25 w7 Gw7
   have zw7:=Gw7.fr.size
   replace hS:=hS.F9 1 rfl Gw7
   change Wx.Sep _ _ _ [_,_,_]at hS
   refine LW.A rfl (LW.nil (Aj (Ac (Aa ?_))))
   refine U (.ic rfl oQ) ?_
   refine I rfl (LW.nil (Av ?_))
   first|exact⟨(k+1,v25),⟨by show k+1≤_;omega,by first|(rw[M5 h21];exact hS)|(rw[Pp h21];exact hS)⟩,tQ,by show L.length-(k+1)<L.length-k;omega⟩|exact⟨(k+1,v),⟨by show k+1≤_;omega,by first|(rw[M5 h21];exact hS)|(rw[Pp h21];exact hS)⟩,tQ,by show L.length-(k+1)<L.length-k;omega⟩
  replace h21:=dQ h21
  refine Ai (Aj (Ac (Aa ?_)))
  refine U (.ic rfl oQ) ?_
  refine I rfl (LW.nil (Av ?_))
  first|exact⟨(k+1,v25),⟨by show k+1≤_;omega,by first|(rw[M5 h21];exact hS)|(rw[Pp h21];exact hS)⟩,tQ,by show L.length-(k+1)<L.length-k;omega⟩|exact⟨(k+1,v),⟨by show k+1≤_;omega,by first|(rw[M5 h21];exact hS)|(rw[Pp h21];exact hS)⟩,tQ,by show L.length-(k+1)<L.length-k;omega⟩
 replace h17:=dQ h17
 refine A8 (Ab (Ab (Ao (Ac (Ak ?_)))))
 have hkl:k=L.length:=by have:¬k<L.length:=fun h=>h17 (cz.2 h);omega
 subst hkl
 refine Aa (I rfl (LW.A rfl (Af (Al ?_))))
 refine KW.q ?_
 exact⟨E,hV,(hS.own 1 rfl).Jk (fun i h=>(hS.foot 1 rfl i h).resolve_left (fun h=>h)),hS.Cl⟩
def nU:Nat→FuncId:=fun o=>match o with
 |1=>116
 |5=>183
 |6=>182
 |7=>120
 |8=>133
 |9=>121
 |10=>134
 |11=>122
 |12=>123
 |13=>124
 |14=>117
 |15=>118
 |16=>126
 |17=>125
 |_=>0
def Fld.cells(x:Fld):Array Go.Value:=#[.func (.func (nU x.off)) #[] #[],vi x.lo,vi x.hi]
theorem Fld.one(x:Fld):(Fld.cells x).all (·.oneCell')=true:=by simp[Fld.cells,Value.oneCell']
theorem sF(b:Nat)(w:World):Ret prog 116 #[.pointer (some ⟨b,0,none⟩)] w fun r w'=>r=.pointer (some ⟨b,1,none⟩)∧Up w w':=by
 have hW:=Up.refl w
 refine cT 6 func116 rfl (Ae (Ay (Am (Aa (I rfl (U (.nc rfl) (U (.fB 1 rfl) (LW.A rfl (Af (Al (KW.q ?_)))))))))))
 exact⟨rfl,hW⟩
theorem jM(b:Nat)(w:World):Ret prog 183 #[.pointer (some ⟨b,0,none⟩)] w fun r w'=>r=.pointer (some ⟨b,5,none⟩)∧Up w w':=by
 have hW:=Up.refl w
 refine cT 6 func183 rfl (Ae (Ay (Am (Aa (I rfl (U (.nc rfl) (U (.fB 5 rfl) (LW.A rfl (Af (Al (KW.q ?_)))))))))))
 exact⟨rfl,hW⟩
theorem eP(b:Nat)(w:World):Ret prog 182 #[.pointer (some ⟨b,0,none⟩)] w fun r w'=>r=.pointer (some ⟨b,6,none⟩)∧Up w w':=by
 have hW:=Up.refl w
 refine cT 6 func182 rfl (Ae (Ay (Am (Aa (I rfl (U (.nc rfl) (U (.fB 6 rfl) (LW.A rfl (Af (Al (KW.q ?_)))))))))))
 exact⟨rfl,hW⟩
theorem eS(b:Nat)(w:World):Ret prog 120 #[.pointer (some ⟨b,0,none⟩)] w fun r w'=>r=.pointer (some ⟨b,7,none⟩)∧Up w w':=by
 have hW:=Up.refl w
 refine cT 6 func120 rfl (Ae (Ay (Am (Aa (I rfl (U (.nc rfl) (U (.fB 7 rfl) (LW.A rfl (Af (Al (KW.q ?_)))))))))))
 exact⟨rfl,hW⟩
theorem eT(b:Nat)(w:World):Ret prog 133 #[.pointer (some ⟨b,0,none⟩)] w fun r w'=>r=.pointer (some ⟨b,8,none⟩)∧Up w w':=by
 have hW:=Up.refl w
 refine cT 6 func133 rfl (Ae (Ay (Am (Aa (I rfl (U (.nc rfl) (U (.fB 8 rfl) (LW.A rfl (Af (Al (KW.q ?_)))))))))))
 exact⟨rfl,hW⟩
theorem nV(b:Nat)(w:World):Ret prog 121 #[.pointer (some ⟨b,0,none⟩)] w fun r w'=>r=.pointer (some ⟨b,9,none⟩)∧Up w w':=by
 have hW:=Up.refl w
 refine cT 6 func121 rfl (Ae (Ay (Am (Aa (I rfl (U (.nc rfl) (U (.fB 9 rfl) (LW.A rfl (Af (Al (KW.q ?_)))))))))))
 exact⟨rfl,hW⟩
theorem Wk(b:Nat)(w:World):Ret prog 134 #[.pointer (some ⟨b,0,none⟩)] w fun r w'=>r=.pointer (some ⟨b,10,none⟩)∧Up w w':=by
 have hW:=Up.refl w
 refine cT 6 func134 rfl (Ae (Ay (Am (Aa (I rfl (U (.nc rfl) (U (.fB 10 rfl) (LW.A rfl (Af (Al (KW.q ?_)))))))))))
 exact⟨rfl,hW⟩
theorem jN(b:Nat)(w:World):Ret prog 122 #[.pointer (some ⟨b,0,none⟩)] w fun r w'=>r=.pointer (some ⟨b,11,none⟩)∧Up w w':=by
 have hW:=Up.refl w
 refine cT 6 func122 rfl (Ae (Ay (Am (Aa (I rfl (U (.nc rfl) (U (.fB 11 rfl) (LW.A rfl (Af (Al (KW.q ?_)))))))))))
 exact⟨rfl,hW⟩
theorem Wl(b:Nat)(w:World):Ret prog 123 #[.pointer (some ⟨b,0,none⟩)] w fun r w'=>r=.pointer (some ⟨b,12,none⟩)∧Up w w':=by
 have hW:=Up.refl w
 refine cT 6 func123 rfl (Ae (Ay (Am (Aa (I rfl (U (.nc rfl) (U (.fB 12 rfl) (LW.A rfl (Af (Al (KW.q ?_)))))))))))
 exact⟨rfl,hW⟩
theorem jO(b:Nat)(w:World):Ret prog 124 #[.pointer (some ⟨b,0,none⟩)] w fun r w'=>r=.pointer (some ⟨b,13,none⟩)∧Up w w':=by
 have hW:=Up.refl w
 refine cT 6 func124 rfl (Ae (Ay (Am (Aa (I rfl (U (.nc rfl) (U (.fB 13 rfl) (LW.A rfl (Af (Al (KW.q ?_)))))))))))
 exact⟨rfl,hW⟩
theorem Zy(b:Nat)(w:World):Ret prog 117 #[.pointer (some ⟨b,0,none⟩)] w fun r w'=>r=.pointer (some ⟨b,14,none⟩)∧Up w w':=by
 have hW:=Up.refl w
 refine cT 6 func117 rfl (Ae (Ay (Am (Aa (I rfl (U (.nc rfl) (U (.fB 14 rfl) (LW.A rfl (Af (Al (KW.q ?_)))))))))))
 exact⟨rfl,hW⟩
theorem Uw(b:Nat)(w:World):Ret prog 118 #[.pointer (some ⟨b,0,none⟩)] w fun r w'=>r=.pointer (some ⟨b,15,none⟩)∧Up w w':=by
 have hW:=Up.refl w
 refine cT 6 func118 rfl (Ae (Ay (Am (Aa (I rfl (U (.nc rfl) (U (.fB 15 rfl) (LW.A rfl (Af (Al (KW.q ?_)))))))))))
 exact⟨rfl,hW⟩
theorem eU(b:Nat)(w:World):Ret prog 126 #[.pointer (some ⟨b,0,none⟩)] w fun r w'=>r=.pointer (some ⟨b,16,none⟩)∧Up w w':=by
 have hW:=Up.refl w
 refine cT 6 func126 rfl (Ae (Ay (Am (Aa (I rfl (U (.nc rfl) (U (.fB 16 rfl) (LW.A rfl (Af (Al (KW.q ?_)))))))))))
 exact⟨rfl,hW⟩
theorem Wm(b:Nat)(w:World):Ret prog 125 #[.pointer (some ⟨b,0,none⟩)] w fun r w'=>r=.pointer (some ⟨b,17,none⟩)∧Up w w':=by
 have hW:=Up.refl w
 refine cT 6 func125 rfl (Ae (Ay (Am (Aa (I rfl (U (.nc rfl) (U (.fB 17 rfl) (LW.A rfl (Af (Al (KW.q ?_)))))))))))
 exact⟨rfl,hW⟩
theorem C9(g:FuncId)(w:World):Ret prog 115 #[.func (.func g) #[] #[]] w fun r w'=>r=.agg #[.func (.func g) #[] #[],vi 1,vi 1000000]∧Up w w':=by
 have hW:=Up.refl w
 refine cT 5 func115 rfl (Ae (Aq (.Bt jx) rfl ?_))
 rintro _ w1 ⟨B2,rfl,NB2⟩
 have eB2:=NB2.at_
 replace hW:=hW.up NB2.up
 have hB2:=NB2.blk
 refine Am (Aa (I rfl (U (.build (cs:=#[.func (.func g) #[] #[],vi 1,vi 1000000]) j6 jx Ci (.ct rfl (.cons (.const _) (.cons (.const _) .nil))) rfl) (Cb (.Ca j5 rfl (.t rfl) (.t rfl) eQ hB2 rfl) ?_))))
 intro w2 Nw2
 replace hW:=hW.sto Nw2.sto oQ
 replace hB2:=Nw2.blk
 refine Af (Al (Fz rfl rfl isAgg184 j5 rfl (hB2.agg) ⟨_,rfl,?_⟩))
 exact⟨rfl,hW⟩
theorem Gs(w:World):Ret prog 131 #[] w fun r w'=>r=.agg (Fld.cells Ch)∧Up w w':=by
 have hW:=Up.refl w
 refine cT 2 func131 rfl (Ae (Aq (.Bt jx) rfl ?_))
 rintro _ w1 ⟨B0,rfl,NB0⟩
 have eB0:=NB0.at_
 replace hW:=hW.up NB0.up
 have hB0:=NB0.blk
 refine Am (Aa (U (.build (cs:=(Fld.cells Ch)) j6 jx Ci (.cons (.func _) (.cons (.const _) (.cons (.const _) .nil))) rfl) (Cb (.Ca j5 rfl (.t rfl) (.t rfl) (Fld.one _) hB0 rfl) ?_)))
 intro w2 Nw2
 replace hW:=hW.sto Nw2.sto oQ
 replace hB0:=Nw2.blk
 refine Af (Al (Fz rfl rfl isAgg184 j5 rfl (hB0.agg) ⟨_,rfl,?_⟩))
 exact⟨rfl,hW⟩
theorem K8(w:World):Ret prog 128 #[] w fun r w'=>SlT 184 w' r 3 Fld.cells Cy∧Up w w':=by
 have hW:=Up.refl w
 refine cT 4 func128 rfl (Ae (Ay (Am (Aa (U (.build (cs:=(Fld.cells ⟨11,0,59⟩)) j6 jx Ci (.cons (.func _) (.cons (.const _) (.cons (.const _) .nil))) rfl) (U (.build (cs:=(Fld.cells ⟨12,0,3⟩)) j6 jx Ci (.cons (.func _) (.cons (.const _) (.cons (.const _) .nil))) rfl) (Aq (.buildSlice (xs:=Cy) (enc:=Fld.cells) (mk:=fun x:Fld=>.agg (Fld.cells x)) j3 j5 jx rfl cQ (fun _=>rfl) (fun _=>rfl) (.ct rfl (.cu rfl)) rfl) rfl ?_)))))))
 rintro _ w1 ⟨B3,cB3,rfl,NB3,yB3,xB3⟩
 replace hW:=hW.up NB3.up
 have hB3:=NB3.blk
 have hE3:=xB3
 refine LW.A rfl (Af (Al (KW.q ?_)))
 exact⟨SlT.lit ⟨B3,cB3,rfl,NB3,yB3,hE3⟩,hW⟩
theorem M6(w:World):Ret prog 129 #[] w fun r w'=>SlT 184 w' r 3 Fld.cells Dp∧Up w w':=by
 have hW:=Up.refl w
 refine cT 4 func129 rfl (Ae (Ay (Am (Aa (A3 (eC .nil (Mv)) rfl (Gs _) ?_)))))
 rintro _ w1 ⟨rfl,uw1⟩
 replace hW:=hW.up uw1
 refine U (.build (cs:=(Fld.cells ⟨6,0,1000000⟩)) j6 jx Ci (.cons (.func _) (.cons (.const _) (.cons (.const _) .nil))) rfl) (Aq (.buildSlice (xs:=Dp) (enc:=Fld.cells) (mk:=fun x:Fld=>.agg (Fld.cells x)) j3 j5 jx rfl cQ (fun _=>rfl) (fun _=>rfl) (.ct rfl (.cu rfl)) rfl) rfl ?_)
 rintro _ w2 ⟨B3,cB3,rfl,NB3,yB3,xB3⟩
 replace hW:=hW.up NB3.up
 have hB3:=NB3.blk
 have hE3:=xB3
 refine LW.A rfl (Af (Al (KW.q ?_)))
 exact⟨SlT.lit ⟨B3,cB3,rfl,NB3,yB3,hE3⟩,hW⟩
theorem H7(ad:Option Addr)(cp:Nat)(vs:List Go.Value)(xss:List (List Fld))(w:World)(hE0:Els w ad 1 (fun v=>#[v]) vs)(hl:xss.length=vs.length)(hx0:∀(i:Nat)(v:Go.Value)(xs:List Fld),vs[i]?=some v→xss[i]?=some xs→Sl w v 3 Fld.cells xs)(hv:vs.length≤1000)(hb:xss.flatten.length≤1000):Ret prog 127 #[.slice ad vs.length cp] w fun r w'=>SlT 184 w' r 3 Fld.cells xss.flatten∧Up w w':=by
 obtain⟨w0,rfl,hS⟩:=W0 w
 refine cT 16 func127 rfl (Ae (Ay (Am (Ak ?_))))
 replace hS:=hS.add (Up.refl _) (A':=Az 184 3 Fld.cells (.slice none 0 0) ([]:List Fld)) (OwnS.nil _ _ _ _ _) (fun i h=>by cases h)
 refine Aa (I rfl (U (.Cn lf (.t rfl)) (U (.move (.const _)) (Af (Ah (A5 (σ:=Nat×Go.Value) (fun s w=>(s.1≤vs.length)∧(Sep no w0 w [Az 184 3 Fld.cells s.2 ((xss.take s.1).flatten)])) (fun s=>[(7,.eq (vi (s.1:Int))),(2,.eq (s.2))]) ([(5,.eq _),(6,.eq _)]) (fun s=>vs.length-s.1) (0,.slice none 0 0) ?_ tQ ?_))))))
 ·exact⟨au _,hS⟩
 rintro⟨k,v⟩ w1 ⟨hkk,hS⟩
 dsimp only at hkk hS
 refine Ae (U (.l2 rfl rfl) (Am (CW.b rfl (fun h8=>?_) (fun h8=>?_))))
 ·refine Ai (Ac (Ak (Ah (Ak ?_))))
  have hE:=hE0.up hS.Cl
  have hkl:k<vs.length:=by simp at h8;omega
  refine Aa ?_
  obtain⟨x,hx⟩:=An (xs:=vs) (i:=k) oQ
  obtain⟨Bx,ox,ax,hcx⟩:=hE _ x hx
  refine U (.Ar lf l8 (.t rfl) (.t rfl) oQ ax) (U (.lb rfl (hcx.nth (j:=0) rfl)) (LW.A rfl (Af ?_)))
  obtain⟨ys,hys⟩:=An (xs:=xss) (i:=k) oQ
  have hSl:=((hx0 k x ys hx hys).up hS.Cl)
  have hfl:=Sf xss (k+1)
  rw[Tg hys,ah]at hfl
  refine Aa (I rfl (I rfl (Aq (.D7 (enc:=Fld.cells) (bytes:=24) (i:=Tryz.t184) j3 kQ rfl rfl rfl rfl cQ (fun _=>rfl) Fld.one (.t rfl) (.t rfl) (hS.own 0 rfl) hSl (by simp only[maxLen];omega) oQ) rfl ?_)))
  intro v13 w2 Gw2
  replace hS:=hS.F9 0 rfl Gw2
  refine LW.A rfl (LW.nil (Aj (Ac (Aa (U (.ic rfl oQ) (I rfl (LW.nil (Av ?_))))))))
  exact⟨(k+1,v13),⟨by omega,by rw[Tg hys];exact hS⟩,tQ,by omega⟩
 refine A8 (Ab (Ab (Ao (Ac (Ae (I rfl (LW.A rfl (Af (Al (KW.q ?_))))))))))
 have hk2:xss.take k=xss:=fg (by simp at h8;omega)
 rw[hk2]at hS
 exact⟨SlT.own (hS.own 0 rfl) (fun _=>rfl),hS.Cl⟩
def E0:Nat→FuncId:=fun o=>match o with
 |1=>130
 |2=>119
 |_=>132
def ShV(w:World)(v:Go.Value)(fs ks:List Fld)(r:Nat)(t:Bool):Prop:=∃v1 v2,v=.agg #[v1,v2,.func (.func (E0 r)) #[] #[],.bool t]∧SlT 184 w v1 3 Fld.cells fs∧SlT 184 w v2 3 Fld.cells ks
theorem ShV.G0{w w':World}{v:Go.Value}{fs ks:List Fld}{r:Nat}{t:Bool}(h:ShV w v fs ks r t)(u:Cel w w'):ShV w' v fs ks r t:=let⟨v1,v2,e,h1,h2⟩:=h;⟨v1,v2,e,h1.G0 u,h2.G0 u⟩
def SlS(w:World)(v:Go.Value)(xss:List (List Fld)):Prop:=∃vs:List Go.Value,Sl w v 1 (fun v=>#[v]) vs∧xss.length=vs.length∧∀(i:Nat)(v:Go.Value)(xs:List Fld),vs[i]?=some v→xss[i]?=some xs→Sl w v 3 Fld.cells xs
theorem SlS.G0{w w':World}{v:Go.Value}{xss:List (List Fld)}(h:SlS w v xss)(u:Cel w w'):SlS w' v xss:=let⟨vs,h1,h2,h3⟩:=h;⟨vs,h1.G0 u,h2,fun i v xs a b=>(h3 i v xs a b).G0 u⟩
theorem Jo(xss:List (List Fld)):PhC (.pred fun v w=>SlS w v xss):=fun _ _ _ h u=>SlS.G0 h u
theorem Gt(fs ks:List Fld)(r:Nat)(t:Bool):PhC (.pred fun v w=>ShV w v fs ks r t):=fun _ _ _ h u=>ShV.G0 h u
def ShMap(w:World)(b:Nat):Prop:=∃kv,IMap w b kv∧(∀k v,(k,v)∈kv→ShV w v (fieldsOf k) (Eb k) (Gr k) (Gg k))∧∀k,k∈kv.map (·.1)↔1≤k∧k≤11
def AllSl(w:World):List Go.Value→List (List Fld)→Prop
 |[],[]=>True
 |v::vs,xs::xss=>Sl w v 3 Fld.cells xs∧AllSl w vs xss
 |_,_=>False
def Sh(t:Option Addr×Nat×Nat):Go.Value:=.slice t.1 t.2.1 t.2.2
theorem Els.Hh{α:Type}{mk:α→Go.Value}{w:World}{ad:Option Addr}{xs:List α}(h:Els w ad 1 (fun x=>#[mk x]) xs):Els w ad 1 (fun v=>#[v]) (xs.map mk):=fun i v hv=>by
 rw[eh]at hv
 cases hx:xs[i]? with
 |none=>rw[hx]at hv;cases hv
 |some x=>rw[hx]at hv;cases hv;exact h i x hx
theorem AllSl.at{w:World}:∀{vs:List Go.Value}{xss:List (List Fld)},AllSl w vs xss→xss.length=vs.length∧∀(i:Nat)(v:Go.Value)(xs:List Fld),vs[i]?=some v→xss[i]?=some xs→Sl w v 3 Fld.cells xs
 |[],[],_=>⟨rfl,fun i v xs h=>by simp at h⟩
 |v::vs,xs::xss,h=>⟨by simp[(AllSl.at h.2).1],fun i v' xs' e1 e2=>by
   match i with
   |0=>cases e1;cases e2;exact h.1
   |i+1=>rw[d9]at e1 e2;exact(AllSl.at h.2).2 i v' xs' e1 e2⟩
 |[],_::_,h=>h.elim
 |_::_,[],h=>h.elim
theorem AllSl.up{w w':World}(u:Up w w'):∀{vs:List Go.Value}{xss:List (List Fld)},AllSl w vs xss→AllSl w' vs xss
 |[],[],_=>trivial
 |_::_,_::_,h=>⟨h.1.G0 u.G0,AllSl.up u h.2⟩
 |[],_::_,h=>h.elim
 |_::_,[],h=>h.elim
set_option maxHeartbeats 8000000 in
theorem Jp(w:World):Ret prog 45 #[] w fun r w'=>∃b,r=.map (some b)∧ShMap w' b∧Up w w':=by
 have hW:=Up.refl w
 refine cT 118 func45 rfl (Ae (Ay (Am (Aa (A3 (eC (.cons (.func _) .nil) (Hk)) rfl (C9 _ _) ?_)))))
 rintro _ w1 ⟨rfl,uw1⟩
 replace hW:=hW.up uw1
 refine Aq (.buildSlice (xs:=Cq) (enc:=Fld.cells) (mk:=fun x:Fld=>.agg (Fld.cells x)) j3 j5 jx rfl cQ (fun _=>rfl) (fun _=>rfl) (.cu rfl) rfl) rfl ?_
 rintro _ w2 ⟨B8,cB8,rfl,NB8,yB8,xB8⟩
 replace hW:=hW.up NB8.up
 have hB8:=NB8.blk
 have hE8:=xB8
 refine LW.A rfl (Am ?_)
 have hT8:=SlT.lit ⟨B8,cB8,rfl,NB8,yB8,hE8⟩
 refine Aa (A3 (eC (.cons (.func _) .nil) (Hk)) rfl (C9 _ _) ?_)
 rintro _ w3 ⟨rfl,uw3⟩
 replace hW:=hW.up uw3
 replace hB8:=hB8.up uw3
 replace hE8:=hE8.up uw3
 replace hT8:=hT8.up uw3
 refine A3 (eC (.cons (.func _) .nil) (Hk)) rfl (C9 _ _) ?_
 rintro _ w4 ⟨rfl,uw4⟩
 replace hW:=hW.up uw4
 replace hB8:=hB8.up uw4
 replace hE8:=hE8.up uw4
 replace hT8:=hT8.up uw4
 refine Aq (.buildSlice (xs:=Jn) (enc:=Fld.cells) (mk:=fun x:Fld=>.agg (Fld.cells x)) j3 j5 jx rfl cQ (fun _=>rfl) (fun _=>rfl) (.ct rfl (.cu rfl)) rfl) rfl ?_
 rintro _ w5 ⟨B11,cB11,rfl,NB11,yB11,xB11⟩
 replace hW:=hW.up NB11.up
 replace hB8:=hB8.up NB11.up
 replace hE8:=hE8.up NB11.up
 replace hT8:=hT8.up NB11.up
 have hB11:=NB11.blk
 have hE11:=xB11
 refine LW.A rfl (Am ?_)
 have hT11:=SlT.lit ⟨B11,cB11,rfl,NB11,yB11,hE11⟩
 refine Aa (U (.assign (.func _)) (Am (Aa (U (.build (cs:=(Fld.cells ⟨7,0,1000000⟩)) j6 jx Ci (.cons (.func _) (.cons (.const _) (.cons (.const _) .nil))) rfl) (U (.build (cs:=(Fld.cells ⟨9,0,1000000⟩)) j6 jx Ci (.cons (.func _) (.cons (.const _) (.cons (.const _) .nil))) rfl) (U (.build (cs:=(Fld.cells ⟨11,0,60⟩)) j6 jx Ci (.cons (.func _) (.cons (.const _) (.cons (.const _) .nil))) rfl) (U (.build (cs:=(Fld.cells ⟨12,0,4⟩)) j6 jx Ci (.cons (.func _) (.cons (.const _) (.cons (.const _) .nil))) rfl) (U (.build (cs:=(Fld.cells ⟨13,0,40⟩)) j6 jx Ci (.cons (.func _) (.cons (.const _) (.cons (.const _) .nil))) rfl) (U (.build (cs:=(Fld.cells ⟨14,0,1000000⟩)) j6 jx Ci (.cons (.func _) (.cons (.const _) (.cons (.const _) .nil))) rfl) (U (.build (cs:=(Fld.cells ⟨15,0,1000000⟩)) j6 jx Ci (.cons (.func _) (.cons (.const _) (.cons (.const _) .nil))) rfl) (Aq (.buildSlice (xs:=Iw) (enc:=Fld.cells) (mk:=fun x:Fld=>.agg (Fld.cells x)) j3 j5 jx rfl cQ (fun _=>rfl) (fun _=>rfl) (.ct rfl (.ct rfl (.ct rfl (.ct rfl (.ct rfl (.ct rfl (.cu rfl))))))) rfl) rfl ?_)))))))))))
 rintro _ w6 ⟨B19,cB19,rfl,NB19,yB19,xB19⟩
 replace hW:=hW.up NB19.up
 replace hB8:=hB8.up NB19.up
 replace hE8:=hE8.up NB19.up
 replace hT8:=hT8.up NB19.up
 replace hB11:=hB11.up NB19.up
 replace hE11:=hE11.up NB19.up
 replace hT11:=hT11.up NB19.up
 have hB19:=NB19.blk
 have hE19:=xB19
 refine LW.A rfl (Am ?_)
 have hT19:=SlT.lit ⟨B19,cB19,rfl,NB19,yB19,hE19⟩
 refine Aa (U (.build (cs:=(Fld.cells Hg)) j6 jx Ci (.cons (.func _) (.cons (.const _) (.cons (.const _) .nil))) rfl) (Aq (.Bt jx) rfl ?_))
 rintro _ w7 ⟨B5,rfl,MB5⟩
 refine Cb (.Ca j5 rfl (.t rfl) (.t rfl) (Fld.one _) MB5.blk rfl) ?_
 intro w8 LB5
 have NB5:=MB5.set LB5
 replace hW:=hW.up NB5.up
 replace hB8:=hB8.up NB5.up
 replace hE8:=hE8.up NB5.up
 replace hT8:=hT8.up NB5.up
 replace hB11:=hB11.up NB5.up
 replace hE11:=hE11.up NB5.up
 replace hT11:=hT11.up NB5.up
 replace hB19:=hB19.up NB5.up
 replace hE19:=hE19.up NB5.up
 replace hT19:=hT19.up NB5.up
 have hB5:=NB5.blk
 refine Am (Aa (U (.build (cs:=(Fld.cells Jt)) j6 jx Ci (.cons (.func _) (.cons (.const _) (.cons (.const _) .nil))) rfl) (Aq (.Bt jx) rfl ?_)))
 rintro _ w9 ⟨B6,rfl,MB6⟩
 refine Cb (.Ca j5 rfl (.t rfl) (.t rfl) (Fld.one _) MB6.blk rfl) ?_
 intro w10 LB6
 have NB6:=MB6.set LB6
 replace hW:=hW.up NB6.up
 replace hB8:=hB8.up NB6.up
 replace hE8:=hE8.up NB6.up
 replace hT8:=hT8.up NB6.up
 replace hB11:=hB11.up NB6.up
 replace hE11:=hE11.up NB6.up
 replace hT11:=hT11.up NB6.up
 replace hB19:=hB19.up NB6.up
 replace hE19:=hE19.up NB6.up
 replace hT19:=hT19.up NB6.up
 replace hB5:=hB5.up NB6.up
 have hB6:=NB6.blk
 refine Am (dV 106 0 22 [(15,1,36),(24,2,44),(35,3,54),(45,4,63),(51,5,68),(60,6,76),(70,7,85),(79,8,93),(88,9,101),(97,10,109),(105,11,116)] [(.pred fun v _=>∃b,v=.map (some b)),(.pred fun v w=>SlT 184 w v 3 Fld.cells (Cq)),(.eq (.agg (Fld.cells (Cj 7)))),(.pred fun v w=>SlT 184 w v 3 Fld.cells ([Cj 7])),(.pred fun v w=>SlT 184 w v 3 Fld.cells (Cy)),(.eq (.agg (Fld.cells (⟨13,0,39⟩)))),(.pred fun v w=>SlT 184 w v 3 Fld.cells ([⟨13,0,39⟩])),(.pred fun v w=>SlT 184 w v 3 Fld.cells (Jn)),(.pred fun v w=>SlT 184 w v 3 Fld.cells (Dp)),(.eq (.agg (Fld.cells (⟨16,-10000000,10000000⟩)))),(.pred fun v w=>SlT 184 w v 3 Fld.cells ([⟨16,-10000000,10000000⟩])),(.pred fun v w=>SlS w v [Cq,[Cj 7],Cy,[⟨13,0,39⟩],Jn,Dp,[⟨16,-10000000,10000000⟩]]),(.pred fun v w=>SlT 184 w v 3 Fld.cells (List.flatten [Cq,[Cj 7],Cy,[⟨13,0,39⟩],Jn,Dp,[⟨16,-10000000,10000000⟩]])),(.pred fun v w=>SlT 184 w v 3 Fld.cells (Cq)),(.pred fun v w=>ShV w v (List.flatten [Cq,[Cj 7],Cy,[⟨13,0,39⟩],Jn,Dp,[⟨16,-10000000,10000000⟩]]) (Cq) 1 false),(.eq undef),(.pred fun v w=>SlT 184 w v 3 Fld.cells (Cq)),(.eq (.agg (Fld.cells (Ch)))),(.eq (.agg (Fld.cells (Jt)))),(.pred fun v w=>SlT 184 w v 3 Fld.cells ([Ch,Jt])),(.pred fun v w=>SlS w v [Cq,[Ch,Jt]]),(.pred fun v w=>SlT 184 w v 3 Fld.cells (List.flatten [Cq,[Ch,Jt]])),(.pred fun v w=>SlT 184 w v 3 Fld.cells (Cq)),(.pred fun v w=>ShV w v (List.flatten [Cq,[Ch,Jt]]) (Cq) 0 false),(.eq undef),(.pred fun v w=>SlT 184 w v 3 Fld.cells (Cq)),(.eq (.agg (Fld.cells (Cj 7)))),(.eq (.agg (Fld.cells (Cj 8)))),(.eq (.agg (Fld.cells (Ch)))),(.pred fun v w=>SlT 184 w v 3 Fld.cells ([Cj 7,Cj 8,Ch])),(.pred fun v w=>SlS w v [Cq,[Cj 7,Cj 8,Ch]]),(.pred fun v w=>SlT 184 w v 3 Fld.cells (List.flatten [Cq,[Cj 7,Cj 8,Ch]])),(.pred fun v w=>SlT 184 w v 3 Fld.cells (Cq)),(.eq (.func (.func (E0 2)) #[] #[])),(.pred fun v w=>ShV w v (List.flatten [Cq,[Cj 7,Cj 8,Ch]]) (Cq) 2 false),(.eq undef),(.eq (.agg (Fld.cells (Cj 7)))),(.eq (.agg (Fld.cells (Cj 9)))),(.eq (.agg (Fld.cells (Cj 10)))),(.eq (.agg (Fld.cells (Ch)))),(.pred fun v w=>SlT 184 w v 3 Fld.cells ([Cj 7,Cj 9,Cj 10,Ch])),(.eq (.agg (Fld.cells (Cj 7)))),(.eq (.agg (Fld.cells (Ch)))),(.pred fun v w=>SlT 184 w v 3 Fld.cells ([Cj 7,Ch])),(.pred fun v w=>ShV w v ([Cj 7,Cj 9,Cj 10,Ch]) ([Cj 7,Ch]) 0 false),(.eq undef),(.eq (.agg (Fld.cells (Cj 10)))),(.pred fun v w=>SlT 184 w v 3 Fld.cells ([Cj 10])),(.eq (.agg (Fld.cells (Cj 10)))),(.pred fun v w=>SlT 184 w v 3 Fld.cells ([Cj 10])),(.pred fun v w=>ShV w v ([Cj 10]) ([Cj 10]) 0 true),(.eq undef),(.pred fun v w=>SlT 184 w v 3 Fld.cells (Cq)),(.pred fun v w=>SlT 184 w v 3 Fld.cells (Cy)),(.pred fun v w=>SlT 184 w v 3 Fld.cells (Jn)),(.pred fun v w=>SlT 184 w v 3 Fld.cells (Dp)),(.pred fun v w=>SlS w v [Cq,Cy,Jn,Dp]),(.pred fun v w=>SlT 184 w v 3 Fld.cells (List.flatten [Cq,Cy,Jn,Dp])),(.pred fun v w=>SlT 184 w v 3 Fld.cells (Cq)),(.pred fun v w=>ShV w v (List.flatten [Cq,Cy,Jn,Dp]) (Cq) 1 false),(.eq undef),(.pred fun v w=>SlT 184 w v 3 Fld.cells (Cq)),(.pred fun v w=>SlT 184 w v 3 Fld.cells (Iw)),(.pred fun v w=>SlT 184 w v 3 Fld.cells (Dp)),(.eq (.agg (Fld.cells (Hg)))),(.pred fun v w=>SlT 184 w v 3 Fld.cells ([Hg])),(.pred fun v w=>SlS w v [Cq,Iw,Dp,[Hg]]),(.pred fun v w=>SlT 184 w v 3 Fld.cells (List.flatten [Cq,Iw,Dp,[Hg]])),(.pred fun v w=>SlT 184 w v 3 Fld.cells (Cq)),(.pred fun v w=>ShV w v (List.flatten [Cq,Iw,Dp,[Hg]]) (Cq) 1 false),(.eq undef),(.eq (.agg (Fld.cells (Cj 8)))),(.eq (.agg (Fld.cells (Hg)))),(.eq (.agg (Fld.cells (Ch)))),(.pred fun v w=>SlT 184 w v 3 Fld.cells ([Cj 8,Hg,Ch])),(.eq (.agg (Fld.cells (Cj 8)))),(.eq (.agg (Fld.cells (Hg)))),(.pred fun v w=>SlT 184 w v 3 Fld.cells ([Cj 8,Hg])),(.pred fun v w=>ShV w v ([Cj 8,Hg,Ch]) ([Cj 8,Hg]) 0 false),(.eq undef),(.pred fun v w=>SlT 184 w v 3 Fld.cells (Cq)),(.pred fun v w=>SlT 184 w v 3 Fld.cells (Cy)),(.eq (.agg (Fld.cells (Ch)))),(.pred fun v w=>SlT 184 w v 3 Fld.cells ([Ch])),(.pred fun v w=>SlS w v [Cq,Cy,[Ch]]),(.pred fun v w=>SlT 184 w v 3 Fld.cells (List.flatten [Cq,Cy,[Ch]])),(.pred fun v w=>SlT 184 w v 3 Fld.cells (Cq)),(.pred fun v w=>ShV w v (List.flatten [Cq,Cy,[Ch]]) (Cq) 0 false),(.eq undef),(.eq (.agg (Fld.cells (Cj 14)))),(.eq (.agg (Fld.cells (Ch)))),(.eq (.agg (Fld.cells (Jt)))),(.pred fun v w=>SlT 184 w v 3 Fld.cells ([Cj 14,Ch,Jt])),(.eq (.agg (Fld.cells (Cj 14)))),(.eq (.agg (Fld.cells (Ch)))),(.pred fun v w=>SlT 184 w v 3 Fld.cells ([Cj 14,Ch])),(.pred fun v w=>ShV w v ([Cj 14,Ch,Jt]) ([Cj 14,Ch]) 0 false),(.eq undef),(.pred fun v w=>SlT 184 w v 3 Fld.cells (Cq)),(.pred fun v w=>SlT 184 w v 3 Fld.cells (Cy)),(.pred fun v w=>SlT 184 w v 3 Fld.cells (Dp)),(.pred fun v w=>SlS w v [Cq,Cy,Dp]),(.pred fun v w=>SlT 184 w v 3 Fld.cells (List.flatten [Cq,Cy,Dp])),(.pred fun v w=>SlT 184 w v 3 Fld.cells (Cq)),(.pred fun v w=>ShV w v (List.flatten [Cq,Cy,Dp]) (Cq) 1 false),(.eq undef)] me jy kQ rfl kQ kQ kQ kQ kQ kQ kQ rfl cQ ⟨_,_,rfl⟩ ⟨PhC.pred fun _ _ _ h _=>h,Cd _ _ _ _,PhC.eq _,Cd _ _ _ _,Cd _ _ _ _,PhC.eq _,Cd _ _ _ _,Cd _ _ _ _,Cd _ _ _ _,PhC.eq _,Cd _ _ _ _,Jo _,Cd _ _ _ _,Cd _ _ _ _,Gt _ _ _ _,PhC.eq _,Cd _ _ _ _,PhC.eq _,PhC.eq _,Cd _ _ _ _,Jo _,Cd _ _ _ _,Cd _ _ _ _,Gt _ _ _ _,PhC.eq _,Cd _ _ _ _,PhC.eq _,PhC.eq _,PhC.eq _,Cd _ _ _ _,Jo _,Cd _ _ _ _,Cd _ _ _ _,PhC.eq _,Gt _ _ _ _,PhC.eq _,PhC.eq _,PhC.eq _,PhC.eq _,PhC.eq _,Cd _ _ _ _,PhC.eq _,PhC.eq _,Cd _ _ _ _,Gt _ _ _ _,PhC.eq _,PhC.eq _,Cd _ _ _ _,PhC.eq _,Cd _ _ _ _,Gt _ _ _ _,PhC.eq _,Cd _ _ _ _,Cd _ _ _ _,Cd _ _ _ _,Cd _ _ _ _,Jo _,Cd _ _ _ _,Cd _ _ _ _,Gt _ _ _ _,PhC.eq _,Cd _ _ _ _,Cd _ _ _ _,Cd _ _ _ _,PhC.eq _,Cd _ _ _ _,Jo _,Cd _ _ _ _,Cd _ _ _ _,Gt _ _ _ _,PhC.eq _,PhC.eq _,PhC.eq _,PhC.eq _,Cd _ _ _ _,PhC.eq _,PhC.eq _,Cd _ _ _ _,Gt _ _ _ _,PhC.eq _,Cd _ _ _ _,Cd _ _ _ _,PhC.eq _,Cd _ _ _ _,Jo _,Cd _ _ _ _,Cd _ _ _ _,Gt _ _ _ _,PhC.eq _,PhC.eq _,PhC.eq _,PhC.eq _,Cd _ _ _ _,PhC.eq _,PhC.eq _,Cd _ _ _ _,Gt _ _ _ _,PhC.eq _,Cd _ _ _ _,Cd _ _ _ _,Cd _ _ _ _,Jo _,Cd _ _ _ _,Cd _ _ _ _,Gt _ _ _ _,PhC.eq _,trivial⟩ (fun b W=>⟨b,rfl⟩) ?_ ?_)
 ·intro W hC0
  have hC:=(Up.drew w10).G0.trans hC0
  refine aC (.inl (.inl rfl)) (aC (.inr ⟨rfl,rfl,TU.p (.mv rfl) (SlT.G0 hT8 hC)⟩) (aC (.inr ⟨rfl,rfl,TU.c (eC (.cons (.func _) .nil) (Hk)) (C9 _ _) sQ⟩) (aC (.inr ⟨rfl,rfl,TU.r (REv.buildSlice (xs:=([Cj 7]:List Fld)) (enc:=Fld.cells) (mk:=fun x:Fld=>.agg (Fld.cells x)) j3 j5 jx rfl cQ (fun _=>rfl) (fun _=>rfl) (.cu rfl) rfl) (by rintro _ W1 ⟨B,c,rfl,N,y,x⟩;exact⟨N.up,SlT.lit ⟨B,c,rfl,N,y,x⟩⟩)⟩) (aC (.inr ⟨rfl,rfl,TU.c (eC .nil (bG)) (K8 _) (fun v W1 h=>⟨h.2,h.1⟩)⟩) (aC (.inr ⟨rfl,rfl,TU.p (.build (cs:=Fld.cells ⟨13,0,39⟩) j6 jx Ci (.cons (.func _) (.cons (.const _) (.cons (.const _) .nil))) rfl) rfl⟩) (aC (.inr ⟨rfl,rfl,TU.r (REv.buildSlice (xs:=([⟨13,0,39⟩]:List Fld)) (enc:=Fld.cells) (mk:=fun x:Fld=>.agg (Fld.cells x)) j3 j5 jx rfl cQ (fun _=>rfl) (fun _=>rfl) (.cu rfl) rfl) (by rintro _ W1 ⟨B,c,rfl,N,y,x⟩;exact⟨N.up,SlT.lit ⟨B,c,rfl,N,y,x⟩⟩)⟩) (aC (.inr ⟨rfl,rfl,TU.p (.mv rfl) (SlT.G0 hT11 hC)⟩) (aC (.inr ⟨rfl,rfl,TU.c (eC .nil (bH)) (M6 _) (fun v W1 h=>⟨h.2,h.1⟩)⟩) (aC (.inr ⟨rfl,rfl,TU.p (.build (cs:=Fld.cells ⟨16,-10000000,10000000⟩) j6 jx Ci (.cons (.func _) (.cons (.const _) (.cons (.const _) .nil))) rfl) rfl⟩) (aC (.inr ⟨rfl,rfl,TU.r (REv.buildSlice (xs:=([⟨16,-10000000,10000000⟩]:List Fld)) (enc:=Fld.cells) (mk:=fun x:Fld=>.agg (Fld.cells x)) j3 j5 jx rfl cQ (fun _=>rfl) (fun _=>rfl) (.cu rfl) rfl) (by rintro _ W1 ⟨B,c,rfl,N,y,x⟩;exact⟨N.up,SlT.lit ⟨B,c,rfl,N,y,x⟩⟩)⟩) (aC (.inr ⟨rfl,rfl,TU.open (d:=23) rfl (by rintro _ ⟨⟨a23,c23,rfl,x23⟩,_⟩;exact TU.open (d:=25) rfl (by rintro _ ⟨⟨a25,c25,rfl,x25⟩,_⟩;exact TU.open (d:=26) rfl (by rintro _ ⟨⟨a26,c26,rfl,x26⟩,_⟩;exact TU.open (d:=28) rfl (by rintro _ ⟨⟨a28,c28,rfl,x28⟩,_⟩;exact TU.open (d:=29) rfl (by rintro _ ⟨⟨a29,c29,rfl,x29⟩,_⟩;exact TU.open (d:=30) rfl (by rintro _ ⟨⟨a30,c30,rfl,x30⟩,_⟩;exact TU.open (d:=32) rfl (by rintro _ ⟨⟨a32,c32,rfl,x32⟩,_⟩;exact TU.r (REv.buildSlice (xs:=[(a23,List.length (Cq),c23),(a25,List.length ([Cj 7]),c25),(a26,List.length (Cy),c26),(a28,List.length ([⟨13,0,39⟩]),c28),(a29,List.length (Jn),c29),(a30,List.length (Dp),c30),(a32,List.length ([⟨16,-10000000,10000000⟩]),c32)]) (enc:=fun t=>#[Sh t]) (mk:=Sh) lf l8 l5 rfl cQ (fun _=>rfl) (fun _=>rfl) (.ct rfl (.ct rfl (.ct rfl (.ct rfl (.ct rfl (.ct rfl (.cu rfl))))))) rfl) (by rintro _ W1 ⟨B,c,rfl,N,y,x⟩;exact⟨N.up,_,Aw (Els.Hh x),(AllSl.up N.up (vs:=List.map Sh [(a23,List.length (Cq),c23),(a25,List.length ([Cj 7]),c25),(a26,List.length (Cy),c26),(a28,List.length ([⟨13,0,39⟩]),c28),(a29,List.length (Jn),c29),(a30,List.length (Dp),c30),(a32,List.length ([⟨16,-10000000,10000000⟩]),c32)]) (xss:=[Cq,[Cj 7],Cy,[⟨13,0,39⟩],Jn,Dp,[⟨16,-10000000,10000000⟩]]) ⟨Aw x23,Aw x25,Aw x26,Aw x28,Aw x29,Aw x30,Aw x32,trivial⟩).at⟩))))))))⟩) (aC (.inr ⟨rfl,rfl,TU.open (d:=33) rfl (by rintro v ⟨vs,⟨ad,cp,rfl,hE⟩,hl,hx⟩;exact TU.c (eC (.o rfl) (P8)) (H7 ad cp vs _ _ hE hl hx (by rw[←hl];decide) cQ) (fun v W1 h=>⟨h.2,h.1⟩))⟩) (aC (.inr ⟨rfl,rfl,TU.p (.mv rfl) (SlT.G0 hT8 hC)⟩) (aC (.inr ⟨rfl,rfl,TU.open (d:=34) rfl (by rintro _ ⟨⟨a34,c34,rfl,x34⟩,p34⟩;exact TU.open (d:=35) rfl (by rintro _ ⟨⟨b35,d35,rfl,y35⟩,q35⟩;exact TU.p (.build (cs:=#[.slice a34 (List.length (List.flatten [Cq,[Cj 7],Cy,[⟨13,0,39⟩],Jn,Dp,[⟨16,-10000000,10000000⟩]])) c34,.slice b35 (List.length (Cq)) d35,.func (.func (E0 1)) #[] #[],.bool false]) kj kc C4 (.ct rfl (.ct rfl (.cons (.func _) (.cons (.const _) .nil)))) rfl) ⟨_,_,rfl,⟨Aw x34,p34⟩,⟨Aw y35,q35⟩⟩))⟩) (aC (.inl (.inr ⟨rfl,by intro j hj e;simp only[bg,cm,db]at hj;rcases hj with rfl|rfl|rfl|rfl|rfl|rfl|rfl|rfl|rfl|rfl|rfl<;>first|exact absurd e cQ|exact⟨_,_,_,rfl⟩⟩)) (aC (.inr ⟨rfl,rfl,TU.p (.mv rfl) (SlT.G0 hT8 hC)⟩) (aC (.inr ⟨rfl,rfl,TU.c (eC .nil (Mv)) (Gs _) sQ⟩) (aC (.inr ⟨rfl,rfl,TU.p (.lc rfl (AggAt.G0 hB6.agg hC)) rfl⟩) (aC (.inr ⟨rfl,rfl,TU.r (REv.buildSlice (xs:=([Ch,Jt]:List Fld)) (enc:=Fld.cells) (mk:=fun x:Fld=>.agg (Fld.cells x)) j3 j5 jx rfl cQ (fun _=>rfl) (fun _=>rfl) (.ct rfl (.cu rfl)) rfl) (by rintro _ W1 ⟨B,c,rfl,N,y,x⟩;exact⟨N.up,SlT.lit ⟨B,c,rfl,N,y,x⟩⟩)⟩) (aC (.inr ⟨rfl,rfl,TU.open (d:=37) rfl (by rintro _ ⟨⟨a37,c37,rfl,x37⟩,_⟩;exact TU.open (d:=40) rfl (by rintro _ ⟨⟨a40,c40,rfl,x40⟩,_⟩;exact TU.r (REv.buildSlice (xs:=[(a37,List.length (Cq),c37),(a40,List.length ([Ch,Jt]),c40)]) (enc:=fun t=>#[Sh t]) (mk:=Sh) lf l8 l5 rfl cQ (fun _=>rfl) (fun _=>rfl) (.ct rfl (.cu rfl)) rfl) (by rintro _ W1 ⟨B,c,rfl,N,y,x⟩;exact⟨N.up,_,Aw (Els.Hh x),(AllSl.up N.up (vs:=List.map Sh [(a37,List.length (Cq),c37),(a40,List.length ([Ch,Jt]),c40)]) (xss:=[Cq,[Ch,Jt]]) ⟨Aw x37,Aw x40,trivial⟩).at⟩)))⟩) (aC (.inr ⟨rfl,rfl,TU.open (d:=41) rfl (by rintro v ⟨vs,⟨ad,cp,rfl,hE⟩,hl,hx⟩;exact TU.c (eC (.o rfl) (P8)) (H7 ad cp vs _ _ hE hl hx (by rw[←hl];decide) cQ) (fun v W1 h=>⟨h.2,h.1⟩))⟩) (aC (.inr ⟨rfl,rfl,TU.p (.mv rfl) (SlT.G0 hT8 hC)⟩) (aC (.inr ⟨rfl,rfl,TU.open (d:=42) rfl (by rintro _ ⟨⟨a42,c42,rfl,x42⟩,p42⟩;exact TU.open (d:=43) rfl (by rintro _ ⟨⟨b43,d43,rfl,y43⟩,q43⟩;exact TU.p (.build (cs:=#[.slice a42 (List.length (List.flatten [Cq,[Ch,Jt]])) c42,.slice b43 (List.length (Cq)) d43,.func (.func (E0 0)) #[] #[],.bool false]) kj kc C4 (.ct rfl (.ct rfl (.cons (.func _) (.cons (.const _) .nil)))) rfl) ⟨_,_,rfl,⟨Aw x42,p42⟩,⟨Aw y43,q43⟩⟩))⟩) (aC (.inl (.inr ⟨rfl,by intro j hj e;simp only[bg,cm,db]at hj;rcases hj with rfl|rfl|rfl|rfl|rfl|rfl|rfl|rfl|rfl|rfl|rfl<;>first|exact absurd e cQ|exact⟨_,_,_,rfl⟩⟩)) (aC (.inr ⟨rfl,rfl,TU.p (.mv rfl) (SlT.G0 hT8 hC)⟩) (aC (.inr ⟨rfl,rfl,TU.c (eC (.cons (.func _) .nil) (Hk)) (C9 _ _) sQ⟩) (aC (.inr ⟨rfl,rfl,TU.c (eC (.cons (.func _) .nil) (Hk)) (C9 _ _) sQ⟩) (aC (.inr ⟨rfl,rfl,TU.c (eC .nil (Mv)) (Gs _) sQ⟩) (aC (.inr ⟨rfl,rfl,TU.r (REv.buildSlice (xs:=([Cj 7,Cj 8,Ch]:List Fld)) (enc:=Fld.cells) (mk:=fun x:Fld=>.agg (Fld.cells x)) j3 j5 jx rfl cQ (fun _=>rfl) (fun _=>rfl) (.ct rfl (.ct rfl (.cu rfl))) rfl) (by rintro _ W1 ⟨B,c,rfl,N,y,x⟩;exact⟨N.up,SlT.lit ⟨B,c,rfl,N,y,x⟩⟩)⟩) (aC (.inr ⟨rfl,rfl,TU.open (d:=45) rfl (by rintro _ ⟨⟨a45,c45,rfl,x45⟩,_⟩;exact TU.open (d:=49) rfl (by rintro _ ⟨⟨a49,c49,rfl,x49⟩,_⟩;exact TU.r (REv.buildSlice (xs:=[(a45,List.length (Cq),c45),(a49,List.length ([Cj 7,Cj 8,Ch]),c49)]) (enc:=fun t=>#[Sh t]) (mk:=Sh) lf l8 l5 rfl cQ (fun _=>rfl) (fun _=>rfl) (.ct rfl (.cu rfl)) rfl) (by rintro _ W1 ⟨B,c,rfl,N,y,x⟩;exact⟨N.up,_,Aw (Els.Hh x),(AllSl.up N.up (vs:=List.map Sh [(a45,List.length (Cq),c45),(a49,List.length ([Cj 7,Cj 8,Ch]),c49)]) (xss:=[Cq,[Cj 7,Cj 8,Ch]]) ⟨Aw x45,Aw x49,trivial⟩).at⟩)))⟩) (aC (.inr ⟨rfl,rfl,TU.open (d:=50) rfl (by rintro v ⟨vs,⟨ad,cp,rfl,hE⟩,hl,hx⟩;exact TU.c (eC (.o rfl) (P8)) (H7 ad cp vs _ _ hE hl hx (by rw[←hl];decide) cQ) (fun v W1 h=>⟨h.2,h.1⟩))⟩) (aC (.inr ⟨rfl,rfl,TU.p (.mv rfl) (SlT.G0 hT8 hC)⟩) (aC (.inr ⟨rfl,rfl,TU.p (.mv rfl) rfl⟩) (aC (.inr ⟨rfl,rfl,TU.open (d:=51) rfl (by rintro _ ⟨⟨a51,c51,rfl,x51⟩,p51⟩;exact TU.open (d:=52) rfl (by rintro _ ⟨⟨b52,d52,rfl,y52⟩,q52⟩;exact TU.p (.build (cs:=#[.slice a51 (List.length (List.flatten [Cq,[Cj 7,Cj 8,Ch]])) c51,.slice b52 (List.length (Cq)) d52,.func (.func (E0 2)) #[] #[],.bool false]) kj kc C4 (.ct rfl (.ct rfl (.ct rfl (.cons (.const _) .nil)))) rfl) ⟨_,_,rfl,⟨Aw x51,p51⟩,⟨Aw y52,q52⟩⟩))⟩) (aC (.inl (.inr ⟨rfl,by intro j hj e;simp only[bg,cm,db]at hj;rcases hj with rfl|rfl|rfl|rfl|rfl|rfl|rfl|rfl|rfl|rfl|rfl<;>first|exact absurd e cQ|exact⟨_,_,_,rfl⟩⟩)) (aC (.inr ⟨rfl,rfl,TU.c (eC (.cons (.func _) .nil) (Hk)) (C9 _ _) sQ⟩) (aC (.inr ⟨rfl,rfl,TU.c (eC (.cons (.func _) .nil) (Hk)) (C9 _ _) sQ⟩) (aC (.inr ⟨rfl,rfl,TU.c (eC (.cons (.func _) .nil) (Hk)) (C9 _ _) sQ⟩) (aC (.inr ⟨rfl,rfl,TU.c (eC .nil (Mv)) (Gs _) sQ⟩) (aC (.inr ⟨rfl,rfl,TU.r (REv.buildSlice (xs:=([Cj 7,Cj 9,Cj 10,Ch]:List Fld)) (enc:=Fld.cells) (mk:=fun x:Fld=>.agg (Fld.cells x)) j3 j5 jx rfl cQ (fun _=>rfl) (fun _=>rfl) (.ct rfl (.ct rfl (.ct rfl (.cu rfl)))) rfl) (by rintro _ W1 ⟨B,c,rfl,N,y,x⟩;exact⟨N.up,SlT.lit ⟨B,c,rfl,N,y,x⟩⟩)⟩) (aC (.inr ⟨rfl,rfl,TU.c (eC (.cons (.func _) .nil) (Hk)) (C9 _ _) sQ⟩) (aC (.inr ⟨rfl,rfl,TU.c (eC .nil (Mv)) (Gs _) sQ⟩) (aC (.inr ⟨rfl,rfl,TU.r (REv.buildSlice (xs:=([Cj 7,Ch]:List Fld)) (enc:=Fld.cells) (mk:=fun x:Fld=>.agg (Fld.cells x)) j3 j5 jx rfl cQ (fun _=>rfl) (fun _=>rfl) (.ct rfl (.cu rfl)) rfl) (by rintro _ W1 ⟨B,c,rfl,N,y,x⟩;exact⟨N.up,SlT.lit ⟨B,c,rfl,N,y,x⟩⟩)⟩) (aC (.inr ⟨rfl,rfl,TU.open (d:=59) rfl (by rintro _ ⟨⟨a59,c59,rfl,x59⟩,p59⟩;exact TU.open (d:=62) rfl (by rintro _ ⟨⟨b62,d62,rfl,y62⟩,q62⟩;exact TU.p (.build (cs:=#[.slice a59 (List.length ([Cj 7,Cj 9,Cj 10,Ch])) c59,.slice b62 (List.length ([Cj 7,Ch])) d62,.func (.func (E0 0)) #[] #[],.bool false]) kj kc C4 (.ct rfl (.ct rfl (.cons (.func _) (.cons (.const _) .nil)))) rfl) ⟨_,_,rfl,⟨Aw x59,p59⟩,⟨Aw y62,q62⟩⟩))⟩) (aC (.inl (.inr ⟨rfl,by intro j hj e;simp only[bg,cm,db]at hj;rcases hj with rfl|rfl|rfl|rfl|rfl|rfl|rfl|rfl|rfl|rfl|rfl<;>first|exact absurd e cQ|exact⟨_,_,_,rfl⟩⟩)) (aC (.inr ⟨rfl,rfl,TU.c (eC (.cons (.func _) .nil) (Hk)) (C9 _ _) sQ⟩) (aC (.inr ⟨rfl,rfl,TU.r (REv.buildSlice (xs:=([Cj 10]:List Fld)) (enc:=Fld.cells) (mk:=fun x:Fld=>.agg (Fld.cells x)) j3 j5 jx rfl cQ (fun _=>rfl) (fun _=>rfl) (.cu rfl) rfl) (by rintro _ W1 ⟨B,c,rfl,N,y,x⟩;exact⟨N.up,SlT.lit ⟨B,c,rfl,N,y,x⟩⟩)⟩) (aC (.inr ⟨rfl,rfl,TU.c (eC (.cons (.func _) .nil) (Hk)) (C9 _ _) sQ⟩) (aC (.inr ⟨rfl,rfl,TU.r (REv.buildSlice (xs:=([Cj 10]:List Fld)) (enc:=Fld.cells) (mk:=fun x:Fld=>.agg (Fld.cells x)) j3 j5 jx rfl cQ (fun _=>rfl) (fun _=>rfl) (.cu rfl) rfl) (by rintro _ W1 ⟨B,c,rfl,N,y,x⟩;exact⟨N.up,SlT.lit ⟨B,c,rfl,N,y,x⟩⟩)⟩) (aC (.inr ⟨rfl,rfl,TU.open (d:=65) rfl (by rintro _ ⟨⟨a65,c65,rfl,x65⟩,p65⟩;exact TU.open (d:=67) rfl (by rintro _ ⟨⟨b67,d67,rfl,y67⟩,q67⟩;exact TU.p (.build (cs:=#[.slice a65 (List.length ([Cj 10])) c65,.slice b67 (List.length ([Cj 10])) d67,.func (.func (E0 0)) #[] #[],.bool true]) kj kc C4 (.ct rfl (.ct rfl (.cons (.func _) (.cons (.const _) .nil)))) rfl) ⟨_,_,rfl,⟨Aw x65,p65⟩,⟨Aw y67,q67⟩⟩))⟩) (aC (.inl (.inr ⟨rfl,by intro j hj e;simp only[bg,cm,db]at hj;rcases hj with rfl|rfl|rfl|rfl|rfl|rfl|rfl|rfl|rfl|rfl|rfl<;>first|exact absurd e cQ|exact⟨_,_,_,rfl⟩⟩)) (aC (.inr ⟨rfl,rfl,TU.p (.mv rfl) (SlT.G0 hT8 hC)⟩) (aC (.inr ⟨rfl,rfl,TU.c (eC .nil (bG)) (K8 _) (fun v W1 h=>⟨h.2,h.1⟩)⟩) (aC (.inr ⟨rfl,rfl,TU.p (.mv rfl) (SlT.G0 hT11 hC)⟩) (aC (.inr ⟨rfl,rfl,TU.c (eC .nil (bH)) (M6 _) (fun v W1 h=>⟨h.2,h.1⟩)⟩) (aC (.inr ⟨rfl,rfl,TU.open (d:=69) rfl (by rintro _ ⟨⟨a69,c69,rfl,x69⟩,_⟩;exact TU.open (d:=70) rfl (by rintro _ ⟨⟨a70,c70,rfl,x70⟩,_⟩;exact TU.open (d:=71) rfl (by rintro _ ⟨⟨a71,c71,rfl,x71⟩,_⟩;exact TU.open (d:=72) rfl (by rintro _ ⟨⟨a72,c72,rfl,x72⟩,_⟩;exact TU.r (REv.buildSlice (xs:=[(a69,List.length (Cq),c69),(a70,List.length (Cy),c70),(a71,List.length (Jn),c71),(a72,List.length (Dp),c72)]) (enc:=fun t=>#[Sh t]) (mk:=Sh) lf l8 l5 rfl cQ (fun _=>rfl) (fun _=>rfl) (.ct rfl (.ct rfl (.ct rfl (.cu rfl)))) rfl) (by rintro _ W1 ⟨B,c,rfl,N,y,x⟩;exact⟨N.up,_,Aw (Els.Hh x),(AllSl.up N.up (vs:=List.map Sh [(a69,List.length (Cq),c69),(a70,List.length (Cy),c70),(a71,List.length (Jn),c71),(a72,List.length (Dp),c72)]) (xss:=[Cq,Cy,Jn,Dp]) ⟨Aw x69,Aw x70,Aw x71,Aw x72,trivial⟩).at⟩)))))⟩) (aC (.inr ⟨rfl,rfl,TU.open (d:=73) rfl (by rintro v ⟨vs,⟨ad,cp,rfl,hE⟩,hl,hx⟩;exact TU.c (eC (.o rfl) (P8)) (H7 ad cp vs _ _ hE hl hx (by rw[←hl];decide) cQ) (fun v W1 h=>⟨h.2,h.1⟩))⟩) (aC (.inr ⟨rfl,rfl,TU.p (.mv rfl) (SlT.G0 hT8 hC)⟩) (aC (.inr ⟨rfl,rfl,TU.open (d:=74) rfl (by rintro _ ⟨⟨a74,c74,rfl,x74⟩,p74⟩;exact TU.open (d:=75) rfl (by rintro _ ⟨⟨b75,d75,rfl,y75⟩,q75⟩;exact TU.p (.build (cs:=#[.slice a74 (List.length (List.flatten [Cq,Cy,Jn,Dp])) c74,.slice b75 (List.length (Cq)) d75,.func (.func (E0 1)) #[] #[],.bool false]) kj kc C4 (.ct rfl (.ct rfl (.cons (.func _) (.cons (.const _) .nil)))) rfl) ⟨_,_,rfl,⟨Aw x74,p74⟩,⟨Aw y75,q75⟩⟩))⟩) (aC (.inl (.inr ⟨rfl,by intro j hj e;simp only[bg,cm,db]at hj;rcases hj with rfl|rfl|rfl|rfl|rfl|rfl|rfl|rfl|rfl|rfl|rfl<;>first|exact absurd e cQ|exact⟨_,_,_,rfl⟩⟩)) (aC (.inr ⟨rfl,rfl,TU.p (.mv rfl) (SlT.G0 hT8 hC)⟩) (aC (.inr ⟨rfl,rfl,TU.p (.mv rfl) (SlT.G0 hT19 hC)⟩) (aC (.inr ⟨rfl,rfl,TU.c (eC .nil (bH)) (M6 _) (fun v W1 h=>⟨h.2,h.1⟩)⟩) (aC (.inr ⟨rfl,rfl,TU.p (.lc rfl (AggAt.G0 hB5.agg hC)) rfl⟩) (aC (.inr ⟨rfl,rfl,TU.r (REv.buildSlice (xs:=([Hg]:List Fld)) (enc:=Fld.cells) (mk:=fun x:Fld=>.agg (Fld.cells x)) j3 j5 jx rfl cQ (fun _=>rfl) (fun _=>rfl) (.cu rfl) rfl) (by rintro _ W1 ⟨B,c,rfl,N,y,x⟩;exact⟨N.up,SlT.lit ⟨B,c,rfl,N,y,x⟩⟩)⟩) (aC (.inr ⟨rfl,rfl,TU.open (d:=77) rfl (by rintro _ ⟨⟨a77,c77,rfl,x77⟩,_⟩;exact TU.open (d:=78) rfl (by rintro _ ⟨⟨a78,c78,rfl,x78⟩,_⟩;exact TU.open (d:=79) rfl (by rintro _ ⟨⟨a79,c79,rfl,x79⟩,_⟩;exact TU.open (d:=81) rfl (by rintro _ ⟨⟨a81,c81,rfl,x81⟩,_⟩;exact TU.r (REv.buildSlice (xs:=[(a77,List.length (Cq),c77),(a78,List.length (Iw),c78),(a79,List.length (Dp),c79),(a81,List.length ([Hg]),c81)]) (enc:=fun t=>#[Sh t]) (mk:=Sh) lf l8 l5 rfl cQ (fun _=>rfl) (fun _=>rfl) (.ct rfl (.ct rfl (.ct rfl (.cu rfl)))) rfl) (by rintro _ W1 ⟨B,c,rfl,N,y,x⟩;exact⟨N.up,_,Aw (Els.Hh x),(AllSl.up N.up (vs:=List.map Sh [(a77,List.length (Cq),c77),(a78,List.length (Iw),c78),(a79,List.length (Dp),c79),(a81,List.length ([Hg]),c81)]) (xss:=[Cq,Iw,Dp,[Hg]]) ⟨Aw x77,Aw x78,Aw x79,Aw x81,trivial⟩).at⟩)))))⟩) (aC (.inr ⟨rfl,rfl,TU.open (d:=82) rfl (by rintro v ⟨vs,⟨ad,cp,rfl,hE⟩,hl,hx⟩;exact TU.c (eC (.o rfl) (P8)) (H7 ad cp vs _ _ hE hl hx (by rw[←hl];decide) cQ) (fun v W1 h=>⟨h.2,h.1⟩))⟩) (aC (.inr ⟨rfl,rfl,TU.p (.mv rfl) (SlT.G0 hT8 hC)⟩) (aC (.inr ⟨rfl,rfl,TU.open (d:=83) rfl (by rintro _ ⟨⟨a83,c83,rfl,x83⟩,p83⟩;exact TU.open (d:=84) rfl (by rintro _ ⟨⟨b84,d84,rfl,y84⟩,q84⟩;exact TU.p (.build (cs:=#[.slice a83 (List.length (List.flatten [Cq,Iw,Dp,[Hg]])) c83,.slice b84 (List.length (Cq)) d84,.func (.func (E0 1)) #[] #[],.bool false]) kj kc C4 (.ct rfl (.ct rfl (.cons (.func _) (.cons (.const _) .nil)))) rfl) ⟨_,_,rfl,⟨Aw x83,p83⟩,⟨Aw y84,q84⟩⟩))⟩) (aC (.inl (.inr ⟨rfl,by intro j hj e;simp only[bg,cm,db]at hj;rcases hj with rfl|rfl|rfl|rfl|rfl|rfl|rfl|rfl|rfl|rfl|rfl<;>first|exact absurd e cQ|exact⟨_,_,_,rfl⟩⟩)) (aC (.inr ⟨rfl,rfl,TU.c (eC (.cons (.func _) .nil) (Hk)) (C9 _ _) sQ⟩) (aC (.inr ⟨rfl,rfl,TU.p (.lc rfl (AggAt.G0 hB5.agg hC)) rfl⟩) (aC (.inr ⟨rfl,rfl,TU.c (eC .nil (Mv)) (Gs _) sQ⟩) (aC (.inr ⟨rfl,rfl,TU.r (REv.buildSlice (xs:=([Cj 8,Hg,Ch]:List Fld)) (enc:=Fld.cells) (mk:=fun x:Fld=>.agg (Fld.cells x)) j3 j5 jx rfl cQ (fun _=>rfl) (fun _=>rfl) (.ct rfl (.ct rfl (.cu rfl))) rfl) (by rintro _ W1 ⟨B,c,rfl,N,y,x⟩;exact⟨N.up,SlT.lit ⟨B,c,rfl,N,y,x⟩⟩)⟩) (aC (.inr ⟨rfl,rfl,TU.c (eC (.cons (.func _) .nil) (Hk)) (C9 _ _) sQ⟩) (aC (.inr ⟨rfl,rfl,TU.p (.lc rfl (AggAt.G0 hB5.agg hC)) rfl⟩) (aC (.inr ⟨rfl,rfl,TU.r (REv.buildSlice (xs:=([Cj 8,Hg]:List Fld)) (enc:=Fld.cells) (mk:=fun x:Fld=>.agg (Fld.cells x)) j3 j5 jx rfl cQ (fun _=>rfl) (fun _=>rfl) (.ct rfl (.cu rfl)) rfl) (by rintro _ W1 ⟨B,c,rfl,N,y,x⟩;exact⟨N.up,SlT.lit ⟨B,c,rfl,N,y,x⟩⟩)⟩) (aC (.inr ⟨rfl,rfl,TU.open (d:=89) rfl (by rintro _ ⟨⟨a89,c89,rfl,x89⟩,p89⟩;exact TU.open (d:=92) rfl (by rintro _ ⟨⟨b92,d92,rfl,y92⟩,q92⟩;exact TU.p (.build (cs:=#[.slice a89 (List.length ([Cj 8,Hg,Ch])) c89,.slice b92 (List.length ([Cj 8,Hg])) d92,.func (.func (E0 0)) #[] #[],.bool false]) kj kc C4 (.ct rfl (.ct rfl (.cons (.func _) (.cons (.const _) .nil)))) rfl) ⟨_,_,rfl,⟨Aw x89,p89⟩,⟨Aw y92,q92⟩⟩))⟩) (aC (.inl (.inr ⟨rfl,by intro j hj e;simp only[bg,cm,db]at hj;rcases hj with rfl|rfl|rfl|rfl|rfl|rfl|rfl|rfl|rfl|rfl|rfl<;>first|exact absurd e cQ|exact⟨_,_,_,rfl⟩⟩)) (aC (.inr ⟨rfl,rfl,TU.p (.mv rfl) (SlT.G0 hT8 hC)⟩) (aC (.inr ⟨rfl,rfl,TU.c (eC .nil (bG)) (K8 _) (fun v W1 h=>⟨h.2,h.1⟩)⟩) (aC (.inr ⟨rfl,rfl,TU.c (eC .nil (Mv)) (Gs _) sQ⟩) (aC (.inr ⟨rfl,rfl,TU.r (REv.buildSlice (xs:=([Ch]:List Fld)) (enc:=Fld.cells) (mk:=fun x:Fld=>.agg (Fld.cells x)) j3 j5 jx rfl cQ (fun _=>rfl) (fun _=>rfl) (.cu rfl) rfl) (by rintro _ W1 ⟨B,c,rfl,N,y,x⟩;exact⟨N.up,SlT.lit ⟨B,c,rfl,N,y,x⟩⟩)⟩) (aC (.inr ⟨rfl,rfl,TU.open (d:=94) rfl (by rintro _ ⟨⟨a94,c94,rfl,x94⟩,_⟩;exact TU.open (d:=95) rfl (by rintro _ ⟨⟨a95,c95,rfl,x95⟩,_⟩;exact TU.open (d:=97) rfl (by rintro _ ⟨⟨a97,c97,rfl,x97⟩,_⟩;exact TU.r (REv.buildSlice (xs:=[(a94,List.length (Cq),c94),(a95,List.length (Cy),c95),(a97,List.length ([Ch]),c97)]) (enc:=fun t=>#[Sh t]) (mk:=Sh) lf l8 l5 rfl cQ (fun _=>rfl) (fun _=>rfl) (.ct rfl (.ct rfl (.cu rfl))) rfl) (by rintro _ W1 ⟨B,c,rfl,N,y,x⟩;exact⟨N.up,_,Aw (Els.Hh x),(AllSl.up N.up (vs:=List.map Sh [(a94,List.length (Cq),c94),(a95,List.length (Cy),c95),(a97,List.length ([Ch]),c97)]) (xss:=[Cq,Cy,[Ch]]) ⟨Aw x94,Aw x95,Aw x97,trivial⟩).at⟩))))⟩) (aC (.inr ⟨rfl,rfl,TU.open (d:=98) rfl (by rintro v ⟨vs,⟨ad,cp,rfl,hE⟩,hl,hx⟩;exact TU.c (eC (.o rfl) (P8)) (H7 ad cp vs _ _ hE hl hx (by rw[←hl];decide) cQ) (fun v W1 h=>⟨h.2,h.1⟩))⟩) (aC (.inr ⟨rfl,rfl,TU.p (.mv rfl) (SlT.G0 hT8 hC)⟩) (aC (.inr ⟨rfl,rfl,TU.open (d:=99) rfl (by rintro _ ⟨⟨a99,c99,rfl,x99⟩,p99⟩;exact TU.open (d:=100) rfl (by rintro _ ⟨⟨b100,d100,rfl,y100⟩,q100⟩;exact TU.p (.build (cs:=#[.slice a99 (List.length (List.flatten [Cq,Cy,[Ch]])) c99,.slice b100 (List.length (Cq)) d100,.func (.func (E0 0)) #[] #[],.bool false]) kj kc C4 (.ct rfl (.ct rfl (.cons (.func _) (.cons (.const _) .nil)))) rfl) ⟨_,_,rfl,⟨Aw x99,p99⟩,⟨Aw y100,q100⟩⟩))⟩) (aC (.inl (.inr ⟨rfl,by intro j hj e;simp only[bg,cm,db]at hj;rcases hj with rfl|rfl|rfl|rfl|rfl|rfl|rfl|rfl|rfl|rfl|rfl<;>first|exact absurd e cQ|exact⟨_,_,_,rfl⟩⟩)) (aC (.inr ⟨rfl,rfl,TU.c (eC (.cons (.func _) .nil) (Hk)) (C9 _ _) sQ⟩) (aC (.inr ⟨rfl,rfl,TU.c (eC .nil (Mv)) (Gs _) sQ⟩) (aC (.inr ⟨rfl,rfl,TU.p (.lc rfl (AggAt.G0 hB6.agg hC)) rfl⟩) (aC (.inr ⟨rfl,rfl,TU.r (REv.buildSlice (xs:=([Cj 14,Ch,Jt]:List Fld)) (enc:=Fld.cells) (mk:=fun x:Fld=>.agg (Fld.cells x)) j3 j5 jx rfl cQ (fun _=>rfl) (fun _=>rfl) (.ct rfl (.ct rfl (.cu rfl))) rfl) (by rintro _ W1 ⟨B,c,rfl,N,y,x⟩;exact⟨N.up,SlT.lit ⟨B,c,rfl,N,y,x⟩⟩)⟩) (aC (.inr ⟨rfl,rfl,TU.c (eC (.cons (.func _) .nil) (Hk)) (C9 _ _) sQ⟩) (aC (.inr ⟨rfl,rfl,TU.c (eC .nil (Mv)) (Gs _) sQ⟩) (aC (.inr ⟨rfl,rfl,TU.r (REv.buildSlice (xs:=([Cj 14,Ch]:List Fld)) (enc:=Fld.cells) (mk:=fun x:Fld=>.agg (Fld.cells x)) j3 j5 jx rfl cQ (fun _=>rfl) (fun _=>rfl) (.ct rfl (.cu rfl)) rfl) (by rintro _ W1 ⟨B,c,rfl,N,y,x⟩;exact⟨N.up,SlT.lit ⟨B,c,rfl,N,y,x⟩⟩)⟩) (aC (.inr ⟨rfl,rfl,TU.open (d:=105) rfl (by rintro _ ⟨⟨a105,c105,rfl,x105⟩,p105⟩;exact TU.open (d:=108) rfl (by rintro _ ⟨⟨b108,d108,rfl,y108⟩,q108⟩;exact TU.p (.build (cs:=#[.slice a105 (List.length ([Cj 14,Ch,Jt])) c105,.slice b108 (List.length ([Cj 14,Ch])) d108,.func (.func (E0 0)) #[] #[],.bool false]) kj kc C4 (.ct rfl (.ct rfl (.cons (.func _) (.cons (.const _) .nil)))) rfl) ⟨_,_,rfl,⟨Aw x105,p105⟩,⟨Aw y108,q108⟩⟩))⟩) (aC (.inl (.inr ⟨rfl,by intro j hj e;simp only[bg,cm,db]at hj;rcases hj with rfl|rfl|rfl|rfl|rfl|rfl|rfl|rfl|rfl|rfl|rfl<;>first|exact absurd e cQ|exact⟨_,_,_,rfl⟩⟩)) (aC (.inr ⟨rfl,rfl,TU.p (.mv rfl) (SlT.G0 hT8 hC)⟩) (aC (.inr ⟨rfl,rfl,TU.c (eC .nil (bG)) (K8 _) (fun v W1 h=>⟨h.2,h.1⟩)⟩) (aC (.inr ⟨rfl,rfl,TU.c (eC .nil (bH)) (M6 _) (fun v W1 h=>⟨h.2,h.1⟩)⟩) (aC (.inr ⟨rfl,rfl,TU.open (d:=110) rfl (by rintro _ ⟨⟨a110,c110,rfl,x110⟩,_⟩;exact TU.open (d:=111) rfl (by rintro _ ⟨⟨a111,c111,rfl,x111⟩,_⟩;exact TU.open (d:=112) rfl (by rintro _ ⟨⟨a112,c112,rfl,x112⟩,_⟩;exact TU.r (REv.buildSlice (xs:=[(a110,List.length (Cq),c110),(a111,List.length (Cy),c111),(a112,List.length (Dp),c112)]) (enc:=fun t=>#[Sh t]) (mk:=Sh) lf l8 l5 rfl cQ (fun _=>rfl) (fun _=>rfl) (.ct rfl (.ct rfl (.cu rfl))) rfl) (by rintro _ W1 ⟨B,c,rfl,N,y,x⟩;exact⟨N.up,_,Aw (Els.Hh x),(AllSl.up N.up (vs:=List.map Sh [(a110,List.length (Cq),c110),(a111,List.length (Cy),c111),(a112,List.length (Dp),c112)]) (xss:=[Cq,Cy,Dp]) ⟨Aw x110,Aw x111,Aw x112,trivial⟩).at⟩))))⟩) (aC (.inr ⟨rfl,rfl,TU.open (d:=113) rfl (by rintro v ⟨vs,⟨ad,cp,rfl,hE⟩,hl,hx⟩;exact TU.c (eC (.o rfl) (P8)) (H7 ad cp vs _ _ hE hl hx (by rw[←hl];decide) cQ) (fun v W1 h=>⟨h.2,h.1⟩))⟩) (aC (.inr ⟨rfl,rfl,TU.p (.mv rfl) (SlT.G0 hT8 hC)⟩) (aC (.inr ⟨rfl,rfl,TU.open (d:=114) rfl (by rintro _ ⟨⟨a114,c114,rfl,x114⟩,p114⟩;exact TU.open (d:=115) rfl (by rintro _ ⟨⟨b115,d115,rfl,y115⟩,q115⟩;exact TU.p (.build (cs:=#[.slice a114 (List.length (List.flatten [Cq,Cy,Dp])) c114,.slice b115 (List.length (Cq)) d115,.func (.func (E0 1)) #[] #[],.bool false]) kj kc C4 (.ct rfl (.ct rfl (.cons (.func _) (.cons (.const _) .nil)))) rfl) ⟨_,_,rfl,⟨Aw x114,p114⟩,⟨Aw y115,q115⟩⟩))⟩) (aC (.inl (.inr ⟨rfl,by intro j hj e;simp only[bg,cm,db]at hj;rcases hj with rfl|rfl|rfl|rfl|rfl|rfl|rfl|rfl|rfl|rfl|rfl<;>first|exact absurd e cQ|exact⟨_,_,_,rfl⟩⟩)) ?_)))))))))))))))))))))))))))))))))))))))))))))))))))))))))))))))))))))))))))))))))))))))))))))))))))))))))
  exact allL.nil
 intro W b kv g hU hM hP hg
 have hW:=hW.trans ((Up.drew _).trans hU)
 refine I rfl (LW.A rfl (Af (Al (KW.q ?_))))
 refine⟨_,rfl,⟨kv,hM,?_,?_⟩,hW⟩
 ·intro k v hm
  have:=hP.mem_iff.1 hm
  simp only[co,e_,bg,cm,db,Prod.mk.injEq]at this
  rcases this with⟨rfl,rfl⟩|⟨rfl,rfl⟩|⟨rfl,rfl⟩|⟨rfl,rfl⟩|⟨rfl,rfl⟩|⟨rfl,rfl⟩|⟨rfl,rfl⟩|⟨rfl,rfl⟩|⟨rfl,rfl⟩|⟨rfl,rfl⟩|⟨rfl,rfl⟩
  · exact hg 14 _ 36 cQ rfl rfl
  · exact hg 23 _ 44 cQ rfl rfl
  · exact hg 34 _ 54 cQ rfl rfl
  · exact hg 44 _ 63 cQ rfl rfl
  · exact hg 50 _ 68 cQ rfl rfl
  · exact hg 59 _ 76 cQ rfl rfl
  · exact hg 69 _ 85 cQ rfl rfl
  · exact hg 78 _ 93 cQ rfl rfl
  · exact hg 87 _ 101 cQ rfl rfl
  · exact hg 96 _ 109 cQ rfl rfl
  exact hg 104 _ 116 cQ rfl rfl
 intro k
 rw[(hP.map (·.1)).mem_iff]
 simp
 omega
end Go.Proofs.YtnocngnlpgikaaaGreatDoor
namespace Go.Proofs
open Go.Proofs.Tryz
open Go.Wx Go.RowKit
set_option maxRecDepth 4000 in
theorem Ov(f g:Fact)(w:World):(Op.equalIn 10000 33 (.agg f.cells) (.agg g.cells)).run prog w=.ok (E5 f g) w:=by
 have hf:Tryz.prog.underlying 33=some (.struct (Tryz.prog.fieldsOf 33)):=by rw[Program.fieldsOf,ke]
 rw[run_equalIn_agg w 9999 33 _ _ hf stoodInHeld33]
 have h:(Op.eqFields 9999 f.cells g.cells (Tryz.prog.fieldsOf 33).toList).run prog w=.ok (E5 f g) w:=by
   rw[Program.fieldsOf,ke]
   dsimp only
   iterate 4 (refine Uh cQ j_ rfl rfl (run_equalIn_int w 9998 _ _ _ _ _ jy) ?_)
   refine Uh cQ isAgg4 rfl rfl (run_equalIn_bool' w 9998 _ _ _ l1) ?_
   iterate 13 (refine Uh cQ j_ rfl rfl (run_equalIn_int w 9998 _ _ _ _ _ jy) ?_)
   rw[show(f.Text.toList==g.Text.toList)=((f.Text.toList==g.Text.toList)&&true)by simp]
   exact Uh cQ isAgg9 rfl rfl (run_equalIn_string w 9998 _ _ _ j7) rfl
 exact h
end Go.Proofs
namespace Go.Wx
def Gk(f:Fact)(o:Nat):Int:=match o with
 |1=>f.ID
 |5=>f.Time
 |6=>f.Until
 |7=>f.Wafer
 |8=>f.Other
 |9=>f.Lot
 |10=>f.Product
 |11=>f.Tool
 |12=>f.Chamber
 |13=>f.Step
 |14=>f.Recipe
 |15=>f.Revision
 |16=>f.Value
 |17=>f.Parties
 |_=>0
def eV(f:Fact)(o:Nat)(n:Int):Fact:=match o with
 |1=>{ f with ID:=n }
 |5=>{ f with Time:=n }
 |6=>{ f with Until:=n }
 |7=>{ f with Wafer:=n }
 |8=>{ f with Other:=n }
 |9=>{ f with Lot:=n }
 |10=>{ f with Product:=n }
 |11=>{ f with Tool:=n }
 |12=>{ f with Chamber:=n }
 |13=>{ f with Step:=n }
 |14=>{ f with Recipe:=n }
 |15=>{ f with Revision:=n }
 |16=>{ f with Value:=n }
 |17=>{ f with Parties:=n }
 |_=>f
def E8(o:Nat):Bool:=Nat.beq o 1||(Nat.ble 5 o&&Nat.ble o 17)
theorem D0{o:Nat}(h:E8 o=true):o=1∨o=5∨o=6∨o=7∨o=8∨o=9∨o=10∨o=11∨o=12∨o=13∨o=14∨o=15∨o=16∨o=17:=by
 simp[E8]at h;omega
theorem Ti(k:Int):∀x∈fieldsOf k,E8 x.off=true:=by
 intro x hx
 have h:∀l∈Kj,∀y∈l,E8 y.off=true:=by decide
 unfold fieldsOf at hx
 rw[cy]at hx
 cases hl:Kj[k.toNat]? with
 |none=>rw[hl]at hx;simp at hx
 |some l=>rw[hl]at hx;exact h l (ae hl) x (by simpa using hx)
theorem N4{f:Fact}{o:Nat}(h:E8 o=true):nth f.cells.toList o=some (vi (Gk f o)):=by
 rcases D0 h with rfl|rfl|rfl|rfl|rfl|rfl|rfl|rfl|rfl|rfl|rfl|rfl|rfl|rfl<;>rfl
theorem Zz{f:Fact}{o:Nat}{n:Int}(h:E8 o=true):f.cells.setIfInBounds o (vi n)=(eV f o n).cells:=by
 rcases D0 h with rfl|rfl|rfl|rfl|rfl|rfl|rfl|rfl|rfl|rfl|rfl|rfl|rfl|rfl<;>rfl
def M7(r:Nat)(f:Fact):Bool:=match r with
 |1=>decide (f.Time≤f.Until)
 |2=> !decide (f.Wafer=f.Other)
 |_=>true
def Hi:List Fld→Fact→Option Fact
 |[],g=>some g
 |x::r,g=>if Gk g x.off<x.lo∨x.hi<Gk g x.off then none else Hi r (eV g x.off 0)
def H8(k v d:Int)(g:Bool):Fact:=⟨k,0,v,d,g,0,0,0,0,0,0,0,0,0,0,0,0,0,ByteArray.empty⟩
def preB(f:Fact):Bool:=decide (f.Version<1)||decide (1000000<f.Version)||decide (f.Day<0)||decide (100000<f.Day)||decide (8192<(f.Text.size:Int))
def Bi(f:Fact):Bool:=decide (1≤f.Kind∧f.Kind≤11)&&(!(preB f|| !M7 (Gr f.Kind) f)&&
 match Hi (fieldsOf f.Kind) f with
 |none=>false
 |some g=>E5 (if Gg f.Kind then{ g with Text:=ByteArray.empty }else g) (H8 f.Kind f.Version f.Day f.Gone))
def cI(f:Fact):Fact:=H8 f.Kind f.Version f.Day f.Gone
theorem eW{fs:List Fld}{f g:Fact}{k:Nat}{x:Fld}(hg:Hi fs f=Hi (fs.drop k) g)(hx:fs[k]?=some x)(h:¬(Gk g x.off<x.lo∨x.hi<Gk g x.off)):Hi fs f=Hi (fs.drop (k+1)) (eV g x.off 0):=by
 obtain⟨hk,e⟩:=ak.1 hx
 rw[hg,ef hk,e]
 simp only[Hi,am h]
theorem eX{fs:List Fld}{f g:Fact}{k:Nat}{x:Fld}(hg:Hi fs f=Hi (fs.drop k) g)(hx:fs[k]?=some x)(h:Gk g x.off<x.lo∨x.hi<Gk g x.off):Hi fs f=none:=by
 obtain⟨hk,e⟩:=ak.1 hx
 rw[hg,ef hk,e]
 simp only[Hi,ap h]
theorem Mb(k:Int):(fieldsOf k).length≤16:=by
 have h:∀l∈Kj,l.length≤16:=by decide
 unfold fieldsOf
 rw[cy]
 cases hl:Kj[k.toNat]? with
 |none=>simp
 |some l=>exact h l (ae hl)
theorem yH{f:Fact}(h:¬(1≤f.Kind∧f.Kind≤11)):false=Bi f:=by simp[Bi,bn h]
theorem yI{f:Fact}(h:preB f=true):false=Bi f:=by simp[Bi,h]
theorem sG{f:Fact}{r:Nat}(hr:r=Gr f.Kind)(h:M7 r f=false):false=Bi f:=by subst hr;simp[Bi,h]
theorem sH{f:Fact}(h:Hi (fieldsOf f.Kind) f=none):false=Bi f:=by simp[Bi,h]
theorem Z0{f:Fact}{o:Nat}(h:E8 o=true):o+1≤f.cells.size:=by
 rcases D0 h with rfl|rfl|rfl|rfl|rfl|rfl|rfl|rfl|rfl|rfl|rfl|rfl|rfl|rfl<;>exact a_ rfl
theorem sI{f g:Fact}{r:Nat}{t:Bool}(hk:1≤f.Kind∧f.Kind≤11)(hp:preB f=false)(hr:r=Gr f.Kind)(h:M7 r f=true)(hg:Hi (fieldsOf f.Kind) f=some g)(ht0:t=Gg f.Kind)(ht:t=true):E5 ({ g with Text:=ByteArray.empty }:Fact) (cI f)=Bi f:=by
 subst hr ht0;simp only[Bi,be hk,hp,h,hg,ht];rfl
theorem sJ{f g:Fact}{r:Nat}{t:Bool}(hk:1≤f.Kind∧f.Kind≤11)(hp:preB f=false)(hr:r=Gr f.Kind)(h:M7 r f=true)(hg:Hi (fieldsOf f.Kind) f=some g)(ht0:t=Gg f.Kind)(ht:t=false):E5 g (cI f)=Bi f:=by
 subst hr ht0;simp only[Bi,be hk,hp,h,hg,ht];rfl
theorem Wo{fs:List Fld}{f g:Fact}{k:Nat}(hg:Hi fs f=Hi (fs.drop k) g)(hk:fs.length≤k):Hi fs f=some g:=by
 rw[hg,gz hk]
 rfl
def CJ(p:UInt8×Bool):Array Go.Value:=#[bv p.1,.bool p.2]
theorem sK(z:Nat):Qe z≠[]:=by unfold Qe Nw;split<;>simp
theorem PEv.val{P:Program}{n:Nat}{ds:List Deferred}{l:Env}{w:World}{o:Oper}{v v':Go.Value}(h:PEv P n ds l w o v)(e:v=v'):PEv P n ds l w o v':=e▸h
theorem jP{pre:List (UInt8×Bool)}{z zz:Nat}{b:Bool}(hb:b=true↔zz<128)(h:Qe z=pre++Qe zz)(hz:b=true):pre++[(UInt8.ofNat (zz%128),b)]=Qe z:=by
 have hz1:=hb.1 hz
 rw[h,dY hz1,gm hz1,hz]
theorem jQ{pre:List (UInt8×Bool)}{z zz:Nat}{b:Bool}(hb:b=true↔zz<128)(h:Qe z=pre++Qe zz)(hz:b=false)(h64:zz<18446744073709551616):Qe z=(pre++[(UInt8.ofNat (zz%128),b)])++Qe (zz/128)∧zz/128<zz:=by
 have hz1:¬zz<128:=fun e=>by rw[hb.2 e]at hz;cases hz
 rw[h,nG hz1 h64,hz]
 exact⟨by simp,by omega⟩
theorem jR{zz:Nat}{b:Bool}(hb:b=decide ((zz:Int)<128)):b=true↔zz<128:=⟨fun h=>by have:=bw (hb.symm.trans h);omega,fun h=>hb.trans (be oQ)⟩
theorem jS{pre:List (UInt8×Bool)}{z zz:Nat}(h:Qe z=pre++Qe zz):pre.length<10:=by
 have h1:=bN z
 have h2:=i9.2 (sK zz)
 rw[h,ah]at h1
 omega
theorem nW{x:UInt8×Bool}(h:(!x.2)=true):V4 x=x.1|||128:=am (by simpa using h)
theorem jT{x:UInt8×Bool}(h:(!x.2)=false):V4 x=x.1:=ap (by simpa using h)
def sL(n:Int):Int:=if Nt n then 0 else 10
theorem nX{n:Int}(h:Nt n):encI n=(Qe (bM n)).map V4:=by rw[encI,ap h];rfl
theorem jU{n:Int}(h:¬Nt n):encI n=[]:=by rw[encI,am h]
theorem Wp(t:List UInt8):(Za t).length≤10+t.length:=by
 have:=M0 (t.length:Int)
 unfold Za
 rw[ah]
 omega
theorem Ux(t:ByteArray):t.data.toList.length=t.size:=cw
theorem Qn(c:List UInt8):(⟨c.toArray⟩:ByteArray).size=c.length:=by simp[ByteArray.size]
theorem nY(k:Int):∀x∈Eb k,E8 x.off=true:=by
 intro x hx
 have h:∀l∈N3,∀y∈l,E8 y.off=true:=by decide
 unfold Eb at hx
 rw[cy]at hx
 cases hl:N3[k.toNat]? with
 |none=>rw[hl]at hx;simp at hx
 |some l=>rw[hl]at hx;exact h l (ae hl) x (by simpa using hx)
theorem Wq(k:Int):(Eb k).length≤16:=by
 have h:∀l∈N3,l.length≤16:=by decide
 unfold Eb
 rw[cy]
 cases hl:N3[k.toNat]? with
 |none=>simp
 |some l=>exact h l (ae hl)
def Ec(fs:List Fld)(f:Fact):List Int:=fs.map fun x=>Gk f x.off
theorem Mc(fs:List Fld)(f:Fact):(Ec fs f).length=fs.length:=by simp[Ec]
theorem Ow{fs:List Fld}{f:Fact}{k:Nat}{x:Fld}(h:fs[k]?=some x):(Ec fs f).take (k+1)=(Ec fs f).take k++[Gk f x.off]:=Cs (by simp[Ec,h])
def I7(b:Bool):Int:=if b then 1 else 0
def M8(f:Fact):List Int:=f.Kind::Ec (Eb f.Kind) f
def Cf(f:Fact):List UInt8:=if Bi f then Co (M8 f)else[]
def N5(f:Fact):List Int:=[f.Kind,f.Version,f.Day,I7 f.Gone]++Ec (fieldsOf f.Kind) f
def Hq(f:Fact):List UInt8:=Co (N5 f)++if Gg f.Kind then Za f.Text.data.toList else[]
def Qo(f:Fact):List UInt8:=if Bi f then Hq f else[]
def Dx(a b:Fact):Bool:=Bi a&&Bi b&&(Cf a==Cf b)&&(decide (b.Version<a.Version)||(decide (a.Version=b.Version)&&decide (0<Go.Lib.compareBytes (Hq a) (Hq b))))
theorem Ej{f:Fact}(h:Bi f=true):1≤f.Kind∧f.Kind≤11:=by
 unfold Bi at h
 simp only[bm,fc]at h
 exact h.1
theorem K9{f:Fact}(h:Bi f=true):preB f=false:=by
 unfold Bi at h
 simp only[bm]at h
 have:=h.2.1
 simp only[ir,ig]at this
 exact this.1
theorem Md{f:Fact}(h:Bi f=true):f.Text.size≤8192:=by
 have:=K9 h
 simp only[preB,ig,gx]at this
 omega
theorem cJ{f:Fact}(h:Bi f=true):Co (M8 f)≠[]:=by
 have hk:=Ej h
 intro e
 unfold M8 Co at e
 rw[cd,iy]at e
 exact bP (by unfold Nt;omega) e.1
theorem cK{f:Fact}(h:Bi f=true):Hq f≠[]:=by
 have hk:=Ej h
 intro e
 unfold Hq N5 Co at e
 rw[iy,dp,cd,iy]at e
 exact bP (by unfold Nt;omega) e.1.1
theorem Tj(a b:List Int):Co (a++b)=Co a++Co b:=by simp[Co]
theorem nZ(f:Fact):([]++Co [f.Kind]).length+10*(Eb f.Kind).length≤10000:=by
 have h1:=Wq f.Kind
 have h2:=G6 [f.Kind]
 rw[df]
 simp only[ai,bi]at h2
 omega
theorem oA(f:Fact):(Co (M8 f)).length≤1000000000:=by
 have h1:=Wq f.Kind
 have h2:=G6 (M8 f)
 have h3:(M8 f).length=1+(Eb f.Kind).length:=by simp[M8,Ec];omega
 omega
theorem cL(b:ByteArray):∀(k i:Nat)(r:List UInt8),b.size-i=k→ByteArray.toList.loop b i r=r.reverse++b.data.toList.drop i
 |0,i,r,h=>by
   unfold ByteArray.toList.loop
   rw[am oQ,gz (by rw[cw];have:b.data.size=b.size:=rfl;omega),dv]
 |k+1,i,r,h=>by
   unfold ByteArray.toList.loop
   have hi:i<b.size:=by omega
   rw[ap hi,cL b k (i+1) _ (by omega)]
   have hi':i<b.data.toList.length:=by rw[cw];exact hi
   rw[ef hi']
   have:b.get! i=b.data.toList[i]:=by
     rw[Array.getElem_toList]
     show b.data[i]! =_
     exact getElem!_pos b.data i hi
   rw[this];simp
theorem Hz(b:ByteArray):b.toList=b.data.toList:=by
 unfold ByteArray.toList
 rw[cL b b.size 0 [] rfl];simp
structure ElT{α:Type}(w:World)(ad:Option Addr)(T:TypeId)(k:Nat)(enc:α→Array Value)(xs:List α):Prop where
 els:Els w ad k enc xs
 ty:∀B o,ad=some ⟨B,o,none⟩→∃cs x,w.heap[B]?=some (Obj.cells cs T x)
theorem ElT.up{α:Type}{w w':World}{ad:Option Addr}{T:TypeId}{k:Nat}{enc:α→Array Value}{xs:List α}(h:ElT w ad T k enc xs)(u:Up w w'):ElT w' ad T k enc xs:=⟨Els.up h.els u,fun B o e=>let⟨cs,x,hc⟩:=h.ty B o e;⟨cs,x,(u.block (lt_of_block hc)).trans hc⟩⟩
theorem ElT.fr{α:Type}{S:Nat→Prop}{w w':World}{ad:Option Addr}{T:TypeId}{k:Nat}{enc:α→Array Value}{xs:List α}(h:ElT w ad T k enc xs)(f:Fr S w w')(hn:∀B cs x,w.heap[B]?=some (Obj.cells cs T x)→¬S B):ElT w' ad T k enc xs:=
 ⟨h.els.fr f (fun B o e=>let⟨cs,x,hc⟩:=h.ty B o e;hn B cs x hc),fun B o e=>let⟨cs,x,hc⟩:=h.ty B o e;⟨cs,x,(f.block _ (lt_of_block hc) (hn B cs x hc)).trans hc⟩⟩
theorem oB(f:Fact):([]++Co [f.Kind,f.Version,f.Day,I7 f.Gone]).length+10*(fieldsOf f.Kind).length≤10000:=by
 have h1:=Mb f.Kind
 have h2:=G6 [f.Kind,f.Version,f.Day,I7 f.Gone]
 rw[df]
 simp only[ai,bi]at h2
 omega
theorem jV(f:Fact):(Co (N5 f)).length≤200:=by
 have h1:=Mb f.Kind
 have h2:=G6 (N5 f)
 have h3:(N5 f).length=4+(fieldsOf f.Kind).length:=by simp[N5,Ec];omega
 omega
theorem cM{f:Fact}(h:Bi f=true):(Hq f).length≤9000:=by
 have h1:=jV f
 have h2:=Md h
 unfold Hq
 rw[ah]
 split
 · have:=Wp f.Text.data.toList
   rw[Ux]at this
   omega
 simp;omega
theorem eY{f:Fact}(h:Gg f.Kind=true):Co (N5 f)++Za f.Text.data.toList=Hq f:=by rw[Hq,ap h]
theorem oC{f:Fact}(h:Gg f.Kind=false):Co (N5 f)=Hq f:=by rw[Hq,am (by rw[h];exact b7),dv]
def Ox(f:Fact):Int:=if Bi f then 0 else 150
theorem Uy(a b:Fact):((⟨(Cf a).toArray⟩:ByteArray).toList==(⟨(Cf b).toArray⟩:ByteArray).toList)=(Cf a==Cf b):=by rw[Hz,Hz]
theorem Wr{a b:Fact}(h:(Bi a&&Bi b)=false):false=Dx a b:=by simp[Dx,h]
theorem jW{a b:Fact}(h:(!((⟨(Cf a).toArray⟩:ByteArray).toList==(⟨(Cf b).toArray⟩:ByteArray).toList))=true):false=Dx a b:=by
 rw[Uy]at h
 simp only[ir]at h
 simp[Dx,h]
theorem jX{a b:Fact}(ha:Bi a=true)(hb:Bi b=true)(h:(!((⟨(Cf a).toArray⟩:ByteArray).toList==(⟨(Cf b).toArray⟩:ByteArray).toList))=false)(hv:(!decide (a.Version=b.Version))=true):decide (b.Version<a.Version)=Dx a b:=by
 rw[Uy]at h
 simp only[Bool.not_eq_false']at h
 have hv:a.Version≠b.Version:=by simpa using hv
 simp[Dx,ha,hb,h,hv]
theorem jY{a b:Fact}(ha:Bi a=true)(hb:Bi b=true)(h:(!((⟨(Cf a).toArray⟩:ByteArray).toList==(⟨(Cf b).toArray⟩:ByteArray).toList))=false)(hv:(!decide (a.Version=b.Version))=false):decide (0<Go.Lib.compareBytes (Qo a) (Qo b))=Dx a b:=by
 rw[Uy]at h
 simp only[Bool.not_eq_false']at h
 have hv:a.Version=b.Version:=by simpa using hv
 simp only[Dx,ha,hb,h,hv,Qo,if_true,Bool.true_and,decide_true,Bool.and_true,Int.lt_irrefl,decide_false,fy]
section
variable {α:Type}
def swp(xs:List α)(i j:Nat):List α:=match xs[i]?,xs[j]? with
 |some x,some y=>(xs.set i y).set j x
 |_,_=>xs
theorem Me(xs:List α)(i j:Nat):(swp xs i j).length=xs.length:=by
 unfold swp
 split<;>simp
theorem Uz{xs:List α}{i j:Nat}{x y:α}(hi:xs[i]?=some x)(hj:xs[j]?=some y):swp xs i j=(xs.set i y).set j x:=by
 unfold swp;rw[hi,hj]
theorem swp_get{xs:List α}{i j:Nat}(hi:i<xs.length)(hj:j<xs.length)(q:Nat):(swp xs i j)[q]?=if q=j then xs[i]? else if q=i then xs[j]? else xs[q]?:=by
 rw[Uz (cj hi) (cj hj),ft]
 by_cases h1:j=q
 · subst h1
   rw[ap rfl,ap (by simpa using hj),ap rfl,cj hi]
 rw[am h1,am (Ne.symm h1),ft]
 by_cases h2:i=q
 · subst h2
   rw[ap rfl,ap hi,ap rfl,cj hj]
 rw[am h2,am (Ne.symm h2)]
def Rx(xs:List α)(a b:Nat):Nat→List α
 |0=>xs
 |n+1=>swp (Rx xs a b n) (a+n) (b+n)
theorem Fv(xs:List α)(a b:Nat):∀n,(Rx xs a b n).length=xs.length
 |0=>rfl
 |n+1=>by rw[Rx,Me,Fv xs a b n]
theorem La{xs:List α}{a b:Nat}:∀{n:Nat},a+n≤b→b+n≤xs.length→∀q,(Rx xs a b n)[q]?=if a≤q∧q<a+n then xs[q-a+b]? else if b≤q∧q<b+n then xs[q-b+a]? else xs[q]?
 |0,_,_,q=>by rw[Rx,am oQ,am (by omega)]
 |n+1,h1,h2,q=>by
   rw[Rx,swp_get (by rw[Fv];omega) (by rw[Fv];omega)]
   rw[La (n:=n) oQ oQ (a+n),La (n:=n) oQ oQ (b+n),La (n:=n) oQ oQ q]
   by_cases c1:q=b+n
   · rw[ap c1,am oQ,am oQ,am oQ,ap (by omega)]
     congr 1;omega
   rw[am c1]
   by_cases c2:q=a+n
   · rw[ap c2,am oQ,am oQ,ap (by omega)]
     congr 1;omega
   rw[am c2]
   by_cases c3:a≤q∧q<a+n
   · rw[ap c3,ap (by omega)]
   have e1:¬(a≤q∧q<a+(n+1)):=by omega
   rw[am c3,am e1]
   by_cases c4:b≤q∧q<b+n
   · rw[ap c4,ap (by omega)]
   have e2:¬(b≤q∧q<b+(n+1)):=by omega
   rw[am c4,am e2]
def I0(xs:List α)(a m b:Nat):List α:=Ey xs a b (Cw xs m b++Cw xs a m)
theorem U0{xs:List α}{a m b:Nat}(h1:a≤m)(h2:m≤b)(hb:b≤xs.length):(Cw xs m b++Cw xs a m).length=b-a:=by
 rw[ah,Cg hb,Cg (by omega)];omega
theorem Ff{xs:List α}{a m b:Nat}(h1:a≤m)(h2:m≤b)(hb:b≤xs.length):(I0 xs a m b).length=xs.length:=Di oQ hb (U0 h1 h2 hb)
theorem Ih{xs:List α}{a m b:Nat}(h1:a≤m)(h2:m≤b)(hb:b≤xs.length)(q:Nat):(I0 xs a m b)[q]?=if q<a then xs[q]? else if q<a+(b-m)then xs[q-a+m]? else if q<b then xs[q-(b-m)]? else xs[q]?:=by
 unfold I0
 rw[Fe oQ hb (U0 h1 h2 hb)]
 by_cases c1:q<a
 · rw[ap c1,ap c1]
 rw[am c1,am c1]
 by_cases c2:q<a+(b-m)
 · rw[ap oQ,ap c2,da (by rw[Cg hb];omega),Gd (by omega)]
   congr 1;omega
 rw[am c2]
 by_cases c3:q<b
 · rw[ap c3,ap c3,c8 (by rw[Cg hb];omega),Cg hb,Gd (by omega)]
   congr 1;omega
 rw[am c3,am c3]
theorem oD{xs:List α}{m i j:Nat}(hi:i≤m)(hij:j<i)(hj:0<j)(hb:m+j≤xs.length):I0 (Rx xs (m-i) m j) (m-(i-j)) m (m+j)=I0 xs (m-i) m (m+j):=by
 apply ce
 intro q
 have hl:=Fv xs (m-i) m j
 rw[Ih oQ oQ (by rw[hl];exact hb),Ih oQ oQ hb]
 have g:∀q,(Rx xs (m-i) m j)[q]?=_:=fun q=>La oQ hb q
 rw[g,g,g]
 by_cases c1:q<m-i
 · rw[ap oQ,am oQ,am oQ,ap c1]
 by_cases c2:q<m-i+j
 · rw[ap oQ,ap oQ,am c1,ap (by omega)]
 by_cases c3:q<m-(i-j)+j
 · rw[am oQ,ap oQ,am oQ,ap oQ,am c1,am oQ,ap (by omega)]
   congr 1;omega
 by_cases c4:q<m+j
 · rw[am oQ,am oQ,ap c4,am oQ,am oQ,am c1,am oQ,ap c4]
 rw[am oQ,am oQ,am c4,am oQ,am oQ,am c1,am oQ,am c4]
theorem eZ{xs:List α}{m i j:Nat}(hi:i≤m)(hij:i<j)(h0:0<i)(hb:m+j≤xs.length):I0 (Rx xs (m-i) (m+j-i) i) (m-i) m (m+(j-i))=I0 xs (m-i) m (m+j):=by
 apply ce
 intro q
 have hl:=Fv xs (m-i) (m+j-i) i
 rw[Ih oQ oQ (by rw[hl];omega),Ih oQ oQ hb]
 have g:∀q,(Rx xs (m-i) (m+j-i) i)[q]?=_:=fun q=>La oQ oQ q
 rw[g,g,g]
 by_cases c1:q<m-i
 · rw[ap c1,am oQ,am oQ,ap c1]
 by_cases c2:q<m-i+(j-i)
 · rw[am c1,ap oQ,am oQ,am oQ,am c1,ap (by omega)]
 by_cases c3:q<m+(j-i)
 · rw[am c1,am oQ,ap c3,ap oQ,am c1,ap (by omega)]
   congr 1;omega
 by_cases c4:q<m+j
 · rw[am c1,am oQ,am c3,am oQ,ap oQ,am c1,am oQ,ap c4]
   congr 1;omega
 rw[am c1,am oQ,am c3,am oQ,am oQ,am c1,am oQ,am c4]
theorem jZ{xs:List α}{m i:Nat}(hi:i≤m)(hb:m+i≤xs.length):Rx xs (m-i) m i=I0 xs (m-i) m (m+i):=by
 apply ce
 intro q
 rw[Ih oQ oQ hb,La oQ hb]
 by_cases c1:q<m-i
 · rw[am oQ,am oQ,ap c1]
 by_cases c2:q<m
 · rw[ap oQ,am c1,ap (by omega)]
 by_cases c3:q<m+i
 · rw[am oQ,ap oQ,am c1,am oQ,ap c3]
   congr 1;omega
 rw[am oQ,am oQ,am c1,am oQ,am c3]
theorem kA{xs:List α}{m b:Nat}(h:m≤b)(hb:b≤xs.length):I0 xs m m b=xs:=by
 rw[I0,F3 (a:=m) (b:=m) (a8 _),dv,Gq h hb]
theorem fC{xs:List α}{a m:Nat}(h:a≤m)(hb:m≤xs.length):I0 xs a m m=xs:=by
 rw[I0,F3 (a:=m) (b:=m) (a8 _),df,Gq h hb]
def Cx(A:List α)(x:α)(p:Nat):List α:=A.take p++x::A.drop p
theorem Dz(A:List α)(x:α)(p:Nat):(Cx A x p).length=A.length+1:=by simp[Cx];omega
theorem Mf{A:List α}{x:α}{p:Nat}(h:p≤A.length):(Cx A x p)[p]?=some x:=by
 rw[Cx,c8 (by simp;omega)]
 have:p-(A.take p).length=0:=by simp;omega
 rw[this];rfl
theorem Hr{A:List α}{x:α}{p q:Nat}(h:p≤A.length)(hq:q<p):(Cx A x p)[q]?=A[q]?:=by
 rw[Cx,da (by simp;omega),f9,ap hq]
theorem Ht{A:List α}{x:α}{p q:Nat}(h:p≤A.length)(hq:p<q):(Cx A x p)[q]?=A[q-1]?:=by
 rw[Cx,c8 (by simp;omega)]
 have e:q-(A.take p).length=(q-p-1)+1:=by simp;omega
 rw[e,d9,gv]
 congr 1;omega
theorem Qp{A:List α}{x:α}{p:Nat}(h:p<A.length):swp (Cx A x p) p (p+1)=Cx A x (p+1):=by
 have hl:=Dz A x p
 apply ce
 intro q
 rw[swp_get oQ (by omega)]
 by_cases c1:q=p+1
 · rw[ap c1,c1,Mf oQ,Mf (by omega)]
 rw[am c1]
 by_cases c2:q=p
 · rw[ap c2,c2,Ht oQ oQ,Hr oQ (by omega)];simp
 rw[am c2]
 by_cases c3:q<p
 · rw[Hr oQ c3,Hr oQ (by omega)]
 rw[Ht oQ oQ,Ht oQ (by omega)]
theorem kB{xs:List α}{i j:Nat}(hi:i<xs.length)(hj:j<xs.length)(hne:i≠j):swp xs i j=swp xs j i:=by
 apply ce
 intro q
 rw[swp_get hi hj,swp_get hj hi]
 by_cases c1:q=j
 · rw[ap c1,am oQ,ap c1]
 rw[am c1]
 by_cases c2:q=i
 · rw[ap c2,ap c2]
 rw[am c2,am c2,am c1]
theorem cO{xs ys:List α}{a b i j:Nat}(h1:a≤b)(hb:b≤xs.length)(hy:ys.length=b-a)(hi:i<ys.length)(hj:j<ys.length):swp (Ey xs a b ys) (a+i) (a+j)=Ey xs a b (swp ys i j):=by
 have hl:=Di h1 hb hy
 have hi':a+i<(Ey xs a b ys).length:=by omega
 have hj':a+j<(Ey xs a b ys).length:=by omega
 have e1:(Ey xs a b ys)[a+i]?=ys[i]?:=by rw[Fe h1 hb hy,am oQ,ap (by omega)];congr 1;omega
 have e2:(Ey xs a b ys)[a+j]?=ys[j]?:=by rw[Fe h1 hb hy,am oQ,ap (by omega)];congr 1;omega
 apply ce
 intro q
 rw[swp_get hi' hj' q,e1,e2,Fe h1 hb hy q,Fe h1 hb (by rw[Me];exact hy) q,swp_get hi hj]
 by_cases c0:q<a
 · rw[am oQ,am oQ,ap c0,ap c0]
 rw[am c0,am c0]
 by_cases c1:q=a+j
 · have d1:q-a=j:=by omega
   rw[ap c1,ap (show q<b by omega),ap d1]
 have d1:¬q-a=j:=by omega
 rw[am c1,am d1]
 by_cases c2:q=a+i
 · have d2:q-a=i:=by omega
   rw[ap c2,ap (show q<b by omega),ap d2]
 have d2:¬q-a=i:=by omega
 rw[am c2,am d2]
theorem Tk(A:List α)(x:α):Cx A x A.length=A++[x]:=by simp[Cx]
theorem Wt(A:List α)(x:α):Cx A x 0=x::A:=by simp[Cx]
theorem oE{xs:List α}{i j:Nat}(hi:i<xs.length)(hj:j<xs.length):swp (swp xs i j) i j=xs:=by
 have hl:=Me xs i j
 apply ce
 intro q
 rw[swp_get (xs:=swp xs i j) oQ oQ q,swp_get hi hj i,swp_get hi hj j,swp_get hi hj q]
 by_cases c1:q=j
 · rw[ap c1,c1]
   by_cases c2:i=j
   · rw[ap c2,c2]
   rw[am c2,ap rfl]
 rw[am c1,am c1]
 by_cases c2:q=i
 · rw[ap c2,ap rfl,c2]
 rw[am c2,am c2]
end
theorem Wu{α:Type}{xs zs:List α}{a i:Nat}{x:α}(h1:a≤i)(hx:xs[i]?=some x)(hz:zs.length=i-a):Ey xs a (i+1) (zs++[x])=Ey xs a i zs:=by
 obtain⟨hi,e⟩:=ak.1 hx
 have hl:=Di (ys:=zs) h1 (by omega:i≤xs.length) hz
 rw[←bW (m:=i) h1 oQ oQ hz (by simp)]
 have e2:[x]=Cw (Ey xs a i zs) i (i+1):=by
   rw[Eu h1 oQ hz (.inr (a8 _))]
   apply ce
   intro q
   by_cases h:i+q<i+1
   · have:q=0:=by omega
     subst this
     rw[Gd h,f7,hx];rfl
   rw[ck (by simp;omega),ck (by rw[Cg (by omega)];omega)]
 rw[e2,Gq oQ (by omega)]
theorem Kl{α:Type}{xs:List α}{a i:Nat}{x:α}(h1:a≤i)(hx:xs[i]?=some x):Cw xs a (i+1)=Cw xs a i++[x]:=by
 obtain⟨hi,e⟩:=ak.1 hx
 rw[F2 h1 oQ (by omega)]
 congr 1
 apply ce
 intro q
 by_cases h:i+q<i+1
 · have:q=0:=by omega
   subst this
   rw[Gd h,f7,hx];rfl
 rw[ck (by rw[Cg (by omega)];omega),ck (by simp;omega)]
theorem Wv{α:Type}{xs zs:List α}{a b p:Nat}{x:α}(h1:a≤b)(hb:b≤xs.length)(hz:zs.length+1=b-a)(hp:p≤zs.length):(Ey xs a b (Cx zs x p))[a+p]?=some x:=by
 rw[Fe h1 hb (by rw[Dz];exact hz),am oQ,ap (by omega)]
 have:a+p-a=p:=by omega
 rw[this,Mf hp]
theorem Mg{α:Type}{xs zs:List α}{a b p q:Nat}{x:α}(h1:a≤b)(hb:b≤xs.length)(hz:zs.length+1=b-a)(hp:p≤zs.length)(hq:q<p):(Ey xs a b (Cx zs x p))[a+q]?=zs[q]?:=by
 rw[Fe h1 hb (by rw[Dz];exact hz),am oQ,ap (by omega)]
 have:a+q-a=q:=by omega
 rw[this,Hr hp hq]
theorem Qq{α:Type}{xs zs:List α}{a b p q:Nat}{x:α}(h1:a≤b)(hb:b≤xs.length)(hz:zs.length+1=b-a)(hq:p<q)(hqz:q≤zs.length):(Ey xs a b (Cx zs x p))[a+q]?=zs[q-1]?:=by
 rw[Fe h1 hb (by rw[Dz];exact hz),am oQ,ap (by omega)]
 have:a+q-a=q:=by omega
 rw[this,Ht oQ hq]
theorem Ww{α:Type}{xs zs:List α}{a b p:Nat}{x y:α}(h1:a≤b)(hb:b≤xs.length)(hz:zs.length+1=b-a)(hp:p<zs.length)(hy:zs[p]?=some y):((Ey xs a b (Cx zs x (p+1))).set (a+(p+1)) y).set (a+p) x=Ey xs a b (Cx zs x p):=by
 have hl:=Dz zs x (p+1)
 rw[←Uz (Wv (p:=p+1) h1 hb hz oQ) ((Mg (p:=p+1) h1 hb hz oQ (show p<p+1 by omega)).trans hy),cO h1 hb (by rw[hl];exact hz) oQ oQ,kB oQ oQ oQ,←Qp hp,oE (by rw[Dz];omega) (by rw[Dz];omega)]
theorem sM{α:Type}{xs zs:List α}{a b p:Nat}{x y:α}(h1:a≤b)(hb:b≤xs.length)(hz:zs.length+1=b-a)(hp:p<zs.length)(hy:zs[p]?=some y):((Ey xs a b (Cx zs x p)).set (a+p) y).set (a+(p+1)) x=Ey xs a b (Cx zs x (p+1)):=by
 have hl:=Dz zs x p
 rw[←Uz (Wv h1 hb hz oQ) ((Qq (q:=p+1) h1 hb hz (show p<p+1 by omega) oQ).trans hy),cO h1 hb (by rw[hl];exact hz) oQ oQ,Qp hp]
theorem StS.snoc{α:Type}{key:α→K2}{L zs:List α}{x:α}{p:Nat}(h:StS key L zs)(hp:p≤zs.length)(hgt:∀y∈zs.drop p,Hc (key x) (key y)=true)(hle:p=0∨∃y,zs[p-1]?=some y∧Hc (key x) (key y)=false):StS key (L++[x]) (Cx zs x p):=by
 have h1:StS key (zs++[x]) (Cx zs x p):=StS.put h.ord hgt (fun y hy=>by
   rcases hle with rfl|⟨z,hz,hzl⟩
   · simp at hy
   obtain⟨q,hq,rfl⟩:=er.1 hy
   rw[List.getElem_take]
   have hq':q<p:=by simp at hq;omega
   obtain⟨hz1,rfl⟩:=ak.1 hz
   rcases dy q (p-1)with h3|h3
   · exact I4 (dw.1 h.ord q (p-1) oQ hz1 h3) hzl
   have:q=p-1:=by omega
   subst this
   exact hzl)
 exact⟨h1.ord,(h.same.eG (sameF.refl [x])).trans h1.same⟩
theorem oF{α:Type}{key:α→K2}{l:List α}(h:l.length≤1):Iv key l:=by
 match l,h with
 |[],_=>exact List.Pairwise.nil
 |[x],_=>exact fd _ _
 |_::_::_,h=>simp at h
theorem fD{α:Type}{zs:List α}{p:Nat}{y:α}{P:α→Prop}(hp:1≤p)(hy:zs[p-1]?=some y)(h:∀z∈zs.drop p,P z)(hP:P y):∀z∈zs.drop (p-1),P z:=by
 obtain⟨h1,rfl⟩:=ak.1 hy
 rw[ef h1,show p-1+1=p by omega]
 intro z hz
 rcases bg.1 hz with rfl|hz
 · exact hP
 exact h z hz
section
variable {α:Type}{key:α→K2}
theorem Ii{xs:List α}{a b c d:Nat}(h:Iv key (Cw xs a b))(h1:a≤c)(h2:d≤b):Iv key (Cw xs c d):=by
 have e:(xs.take d).drop c=((xs.take d).drop a).drop (c-a):=by rw[js];congr 1;omega
 have p:xs.take d=(xs.take b).take d:=by rw[f5,c7 h2]
 have q:((xs.take d).drop a).Sublist ((xs.take b).drop a):=by
   rw[p,List.drop_take]
   exact List.take_sublist _ _
 have r:(Cw xs c d).Sublist (Cw xs a b):=by
   unfold Cw
   rw[e]
   exact(jl _ _).trans q
 exact List.Pairwise.sublist r h
theorem Ij{xs:List α}{a b p q:Nat}{u v:α}(h:Iv key (Cw xs a b))(h1:a≤p)(h2:p≤q)(h3:q<b)(hu:xs[p]?=some u)(hv:xs[q]?=some v):Hc (key v) (key u)=false:=by
 rcases dy p q with hl|hl
 · have e1:(Cw xs a b)[p-a]?=some u:=by rw[Gd (by omega)];rw[show a+(p-a)=p by omega];exact hu
   have e2:(Cw xs a b)[q-a]?=some v:=by rw[Gd (by omega)];rw[show a+(q-a)=q by omega];exact hv
   obtain⟨i1,rfl⟩:=ak.1 e1
   obtain⟨i2,rfl⟩:=ak.1 e2
   exact dw.1 h _ _ i1 i2 oQ
 have:p=q:=by omega
 subst this
 rw[hu]at hv;cases hv
 exact Ji _
theorem Ik{xs:List α}{a b:Nat}{x:α}(hb:b≤xs.length)(h:x∈Cw xs a b):∃q,a≤q∧q<b∧xs[q]?=some x:=by
 obtain⟨i,e⟩:=dr.1 h
 have hi:=(ak.1 e).1
 rw[Cg hb]at hi
 rw[Gd (by omega)]at e
 exact⟨a+i,by omega,by omega,e⟩
theorem kC{xs:List α}{a mm b s e:Nat}(hA:Iv key (Cw xs a mm))(hB:Iv key (Cw xs mm b))(h2:s≤mm)(h3:mm≤e)(hb:b≤xs.length)
   (h:s≤a∨b≤e∨∃u v,xs[e]?=some u∧xs[s-1]?=some v∧Hc (key u) (key v)=false):∀x∈Cw xs a s,∀y∈Cw xs e b,Hc (key y) (key x)=false:=by
 intro x hx y hy
 rcases h with h|h|⟨u,v,hu,hv,hl⟩
 · rw[F3 h]at hx;simp at hx
 · rw[F3 h]at hy;simp at hy
 obtain⟨p,p1,p2,hp⟩:=Ik (by have:=(ak.1 hv).1;omega) hx
 obtain⟨q,q1,q2,hq⟩:=Ik hb hy
 have a1:=Ij hA p1 (show p≤s-1 by omega) oQ hp hv
 have a2:=Ij hB (show mm≤e by omega) q1 q2 hu hq
 exact I4 (I4 a1 hl) a2
theorem kD{xs:List α}{a mm b s e:Nat}(hA:Iv key (Cw xs a mm))(hB:Iv key (Cw xs mm b))(h1:a≤s)(h4:e≤b)(hb:b≤xs.length)(hmb:mm≤b)
   (h:mm≤s∨e≤mm∨∃u v,xs[e-1]?=some u∧xs[s]?=some v∧Hc (key u) (key v)=true):∀v∈Cw xs mm e,∀u∈Cw xs s mm,Hc (key v) (key u)=true:=by
 intro x hx y hy
 rcases h with h|h|⟨u,v,hu,hv,hl⟩
 · rw[F3 h]at hy;simp at hy
 · rw[F3 h]at hx;simp at hx
 obtain⟨p,p1,p2,hp⟩:=Ik oQ hx
 obtain⟨q,q1,q2,hq⟩:=Ik oQ hy
 have a1:=Ij hB p1 (show p≤e-1 by omega) oQ hp hu
 have a2:=Ij hA h1 q1 q2 hv hq
 exact Uq (bT a1 hl) a2
theorem Wy{xs:List α}{s mm e:Nat}(h1:s≤mm)(h2:mm≤e)(hb:e≤xs.length):Cw (I0 xs s mm e) s (s+(e-mm))=Cw xs mm e:=by
 have hl:=Ff h1 h2 hb
 apply ce
 intro i
 by_cases h:i<e-mm
 · rw[Gd oQ,Gd oQ,Ih h1 h2 hb,am oQ,ap (by omega)]
   congr 1;omega
 rw[ck (by rw[Cg (by omega)];omega),ck (by rw[Cg hb];omega)]
theorem Wz{xs:List α}{s mm e:Nat}(h1:s≤mm)(h2:mm≤e)(hb:e≤xs.length):Cw (I0 xs s mm e) (s+(e-mm)) e=Cw xs s mm:=by
 have hl:=Ff h1 h2 hb
 apply ce
 intro i
 by_cases h:i<mm-s
 · rw[Gd oQ,Gd oQ,Ih h1 h2 hb,am oQ,am oQ,ap (by omega)]
   congr 1;omega
 rw[ck (by rw[Cg (by omega)];omega),ck (by rw[Cg (by omega)];omega)]
theorem Pq{xs:List α}{s mm e c d:Nat}(h1:s≤mm)(h2:mm≤e)(hb:e≤xs.length)(h:d≤s∨e≤c):Cw (I0 xs s mm e) c d=Cw xs c d:=Eu oQ hb (U0 h1 h2 hb) h
theorem oG{xs zs:List α}{a b s mm e:Nat}(h0:a≤s)(h1:s≤mm)(h2:mm≤e)(h3:e≤b)(hb:b≤xs.length)(hz:zs.length=b-a):Ey (I0 xs s mm e) a b zs=Ey xs a b zs:=by
 have hl:=Ff h1 h2 (by omega:e≤xs.length)
 apply ce
 intro q
 rw[Fe oQ oQ hz,Fe oQ hb hz,Ih h1 h2 (by omega)]
 by_cases c1:q<a
 · rw[ap c1,ap c1,ap (by omega)]
 rw[am c1,am c1]
 by_cases c2:q<b
 · rw[ap c2,ap c2]
 rw[am c2,am c2,am oQ,am oQ,am (by omega)]
theorem W5{xs:List α}{a s mm e mid:Nat}(h0:a≤s)(h1:s≤mm)(h2:mm≤e)(hb:e≤xs.length)(hm:mid=s+(e-mm)):Cw (I0 xs s mm e) a mid=Cw xs a s++Cw xs mm e:=by
 subst hm
 rw[F2 (m:=s) h0 oQ (by rw[Ff h1 h2 hb];omega),Pq h1 h2 hb (.inl (a8 _)),Wy h1 h2 hb]
theorem Tl{xs:List α}{s mm e b mid:Nat}(h1:s≤mm)(h2:mm≤e)(h3:e≤b)(hb:b≤xs.length)(hm:mid=s+(e-mm)):Cw (I0 xs s mm e) mid b=Cw xs s mm++Cw xs e b:=by
 subst hm
 rw[F2 (m:=e) oQ h3 (by rw[Ff h1 h2 (by omega)];omega),Pq h1 h2 oQ (.inr (a8 _)),Wz h1 h2 (by omega)]
theorem W6{xs X Y:List α}{a mm b s e mid:Nat}(h0:a≤s)(h1:s≤mm)(h2:mm≤e)(h3:e≤b)(hb:b≤xs.length)(hm:mid=s+(e-mm))(hA:Iv key (Cw xs a mm))(hB:Iv key (Cw xs mm b))
   (k1:∀x∈Cw xs a s,∀y∈Cw xs e b,Hc (key y) (key x)=false)(k2:∀v∈Cw xs mm e,∀u∈Cw xs s mm,Hc (key v) (key u)=true)
   (hX:StS key (Cw (I0 xs s mm e) a mid) X)(hY:StS key (Cw (Ey (I0 xs s mm e) a mid X) mid b) Y):StS key (Cw xs a b) (X++Y)∧Ey (Ey (I0 xs s mm e) a mid X) mid b Y=Ey xs a b (X++Y):=by
 have hl:=Ff h1 h2 (by omega:e≤xs.length)
 have hXl:X.length=mid-a:=by rw[hX.same.length,Cg (by omega)]
 rw[Eu oQ oQ hXl (.inr (a8 _))]at hY
 have hYl:Y.length=b-mid:=by rw[hY.same.length,Cg (by omega)]
 rw[W5 h0 h1 h2 oQ hm]at hX
 rw[Tl h1 h2 h3 hb hm]at hY
 have eA:Cw xs a s++Cw xs s mm=Cw xs a mm:=(F2 h0 h1 oQ).symm
 have eB:Cw xs mm e++Cw xs e b=Cw xs mm b:=(F2 h2 h3 hb).symm
 refine⟨?_,?_⟩
 · have:=Ze (by rw[eA];exact hA) (by rw[eB];exact hB) k1 k2 hX hY
   rw[eA,eB,←F2 oQ oQ hb]at this
   exact this
 rw[bW oQ oQ oQ hXl hYl,oG h0 h1 h2 h3 hb (by rw[ah];omega)]
theorem oH{xs:List α}{a b i:Nat}{x:α}(hb:b≤xs.length)(hx:xs[a]?=some x)(hab:a+1≤i)(hib:i≤b)(hB:Iv key (Cw xs (a+1) b))(hL:∀q y,a+1≤q→q<i→xs[q]?=some y→Hc (key y) (key x)=true)(hR:∀q y,i≤q→q<b→xs[q]?=some y→Hc (key y) (key x)=false):
   StS key (Cw xs a b) (Cx (Cw xs (a+1) b) x (i-(a+1))):=by
 have e:Cw xs a b=x::Cw xs (a+1) b:=by
   rw[F2 (m:=a+1) oQ oQ hb,Kl (a8 a) hx,F3 (a8 a)];rfl
 have t:(Cw xs (a+1) b).take (i-(a+1))=Cw xs (a+1) i:=by
   unfold Cw
   rw[List.take_drop,f5,show a+1+(i-(a+1))=i by omega,c7 hib]
 have d:(Cw xs (a+1) b).drop (i-(a+1))=Cw xs i b:=by
   unfold Cw
   rw[js,show a+1+(i-(a+1))=i by omega]
 rw[e]
 refine iY hB (fun y hy=>?_) (fun y hy=>?_)
 · rw[t]at hy
   obtain⟨q,q1,q2,hq⟩:=Ik oQ hy
   exact hL q y q1 q2 hq
 rw[d]at hy
 obtain⟨q,q1,q2,hq⟩:=Ik hb hy
 exact hR q y q1 q2 hq
theorem kE{xs:List α}{a m i:Nat}{x:α}(hx:xs[m]?=some x)(h1:a≤i)(h2:i≤m)(hA:Iv key (Cw xs a m))(hL:∀q y,a≤q→q<i→xs[q]?=some y→Hc (key x) (key y)=false)(hR:∀q y,i≤q→q<m→xs[q]?=some y→Hc (key x) (key y)=true):
   StS key (Cw xs a (m+1)) (Cx (Cw xs a m) x (i-a)):=by
 have hm:=(ak.1 hx).1
 have t:(Cw xs a m).take (i-a)=Cw xs a i:=by
   unfold Cw
   rw[List.take_drop,f5,show a+(i-a)=i by omega,c7 h2]
 have d:(Cw xs a m).drop (i-a)=Cw xs i m:=by
   unfold Cw
   rw[js,show a+(i-a)=i by omega]
 rw[Kl oQ hx]
 refine StS.put hA (fun y hy=>?_) (fun y hy=>?_)
 · rw[d]at hy
   obtain⟨q,q1,q2,hq⟩:=Ik oQ hy
   exact hR q y q1 q2 hq
 rw[t]at hy
 obtain⟨q,q1,q2,hq⟩:=Ik oQ hy
 exact hL q y q1 q2 hq
theorem kF{xs:List α}{s mm e:Nat}(h:¬(s<mm∧mm<e))(h1:s≤mm)(h2:mm≤e)(hb:e≤xs.length):I0 xs s mm e=xs:=by
 rcases dy s mm with h3|h3
 · have:e=mm:=by omega
   subst this
   exact fC h1 hb
 have:s=mm:=by omega
 subst this
 exact kA h2 hb
theorem fE{xs:List α}{a mm b s e mid:Nat}(hA:Iv key (Cw xs a mm))(hB:Iv key (Cw xs mm b))(h0:a≤s)(h1:s≤mm)(h2:mm≤e)(h3:e≤b)(hb:b≤xs.length)(hm:mid=s+(e-mm))(h:¬(a<s∧s<mid)):Iv key (Cw (I0 xs s mm e) a mid):=by
 rw[W5 h0 h1 h2 oQ hm]
 rcases dy a s with h4|h4
 · rw[F3 (show e≤mm by omega),dv]
   exact Ii hA (a8 _) h1
 rw[F3 h4,df]
 exact Ii hB (a8 _) h3
theorem fF{xs X:List α}{a mm b s e mid:Nat}(hA:Iv key (Cw xs a mm))(hB:Iv key (Cw xs mm b))(h0:a≤s)(h1:s≤mm)(h2:mm≤e)(h3:e≤b)(hb:b≤xs.length)(hm:mid=s+(e-mm))(hX:X.length=mid-a)(h:¬(mid<e∧e<b)):Iv key (Cw (Ey (I0 xs s mm e) a mid X) mid b):=by
 have hl:=Ff h1 h2 (by omega:e≤xs.length)
 rw[Eu oQ oQ hX (.inr (a8 _)),Tl h1 h2 h3 hb hm]
 rcases dy mid e with h4|h4
 · rw[F3 (show b≤e by omega),dv]
   exact Ii hA h0 (a8 _)
 rw[F3 (show mm≤s by omega),df]
 exact Ii hB h2 (a8 _)
theorem cP{xs:List α}{a mm b s e mid:Nat}(hA:Iv key (Cw xs a mm))(hB:Iv key (Cw xs mm b))(h1:s≤mm)(h2:mm≤e)(h3:e≤b)(hb:b≤xs.length)(hm:mid=s+(e-mm)):Iv key (Cw (I0 xs s mm e) a s)∧Iv key (Cw (I0 xs s mm e) s mid):=by
 subst hm
 rw[Pq h1 h2 oQ (.inl (a8 _)),Wy h1 h2 (by omega)]
 exact⟨Ii hA (a8 _) h1,Ii hB (a8 _) h3⟩
theorem cR{xs X:List α}{a mm b s e mid:Nat}(hA:Iv key (Cw xs a mm))(hB:Iv key (Cw xs mm b))(h0:a≤s)(h1:s≤mm)(h2:mm≤e)(h3:e≤b)(hb:b≤xs.length)(hm:mid=s+(e-mm))(hX:X.length=mid-a):Iv key (Cw (Ey (I0 xs s mm e) a mid X) mid e)∧Iv key (Cw (Ey (I0 xs s mm e) a mid X) e b):=by
 have hl:=Ff h1 h2 (by omega:e≤xs.length)
 rw[Eu oQ oQ hX (.inr (a8 _)),Eu oQ oQ hX (.inr oQ),Pq h1 h2 oQ (.inr (a8 _))]
 subst hm
 rw[Wz h1 h2 (by omega)]
 exact⟨Ii hA h0 (a8 _),Ii hB h2 (a8 _)⟩
def Bks(key:α→K2)(ys:List α)(B:Nat):Prop:=∀i,Iv key (Cw ys (B*i) (min (B*i+B) ys.length))
def Ins(key:α→K2)(ys:List α)(B a:Nat):Prop:=(∃q,a=B*q)∧∀i,B*(i+1)≤a→Iv key (Cw ys (B*i) (B*i+B))
def Mrg(key:α→K2)(ys:List α)(B a:Nat):Prop:=Ins key ys (2*B) a∧∀i,a≤B*i→Iv key (Cw ys (B*i) (min (B*i+B) ys.length))
theorem Ins.zero(ys:List α)(B:Nat)(hB:0<B):Ins key ys B 0:=⟨⟨0,rfl⟩,fun i h=>by
 rw[gg,ez]at h
 omega⟩
theorem Ins.step{ys zs:List α}{B a:Nat}(hB:0<B)(h:Ins key ys B a)(hb:a+B≤ys.length)(hz:StS key (Cw ys a (a+B)) zs):Ins key (Ey ys a (a+B) zs) B (a+B):=by
 obtain⟨⟨q,rfl⟩,hs⟩:=h
 have hzl:zs.length=B*q+B-B*q:=by rw[hz.same.length,Cg hb]
 refine⟨⟨q+1,by rw[gg,ez]⟩,fun i hi=>?_⟩
 have hle:i≤q:=by
   have:B*(i+1)≤B*(q+1):=by rw[gg B q 1,ez];exact hi
   have:=Nat.le_of_mul_le_mul_left this hB
   omega
 rcases dy i q with h|h
 · have h1:B*(i+1)≤B*q:=fz B h
   rw[Eu oQ hb hzl (.inl (by rw[gg,ez]at h1;exact h1))]
   exact hs i h1
 have:i=q:=by omega
 subst this
 rw[bV oQ hb hzl]
 exact hz.ord
theorem Ins.last{ys zs:List α}{B a:Nat}(h:Ins key ys B a)(ha:a≤ys.length)(hb:ys.length<a+B)(hz:StS key (Cw ys a ys.length) zs):Bks key (Ey ys a ys.length zs) B:=by
 obtain⟨⟨q,rfl⟩,hs⟩:=h
 have hzl:zs.length=ys.length-B*q:=by rw[hz.same.length,Cg (a8 _)]
 have hl:=Di ha (a8 _) hzl
 intro i
 rw[hl]
 rcases im i q with h|h|h
 · have h1:B*(i+1)≤B*q:=fz B h
   have h2:B*i+B≤B*q:=by rw[gg,ez]at h1;exact h1
   rw[c7 oQ,Eu ha (a8 _) hzl (.inl h2)]
   exact hs i h1
 · subst h
   rw[g9 oQ,bV ha (a8 _) hzl]
   exact hz.ord
 have h1:B*(q+1)≤B*i:=fz B h
 rw[gg,ez]at h1
 rw[F3 (by omega)]
 exact List.Pairwise.nil
theorem Mrg.start{ys:List α}{B:Nat}(hB:0<B)(h:Bks key ys B):Mrg key ys B 0:=⟨Ins.zero ys (2*B) oQ,fun i _=>h i⟩
theorem Mrg.pre{ys:List α}{B a:Nat}(h:Mrg key ys B a)(hb:2*B+a≤ys.length):Iv key (Cw ys a (a+B))∧Iv key (Cw ys (a+B) (2*B+a)):=by
 obtain⟨⟨⟨q,hq⟩,_⟩,hs⟩:=h
 have e1:a=B*(2*q):=by rw[hq,ik 2 B,Nat.mul_assoc]
 have e2:a+B=B*(2*q+1):=by rw[gg,ez,←e1]
 have h1:=hs (2*q) oQ
 have h2:=hs (2*q+1) oQ
 rw[←e1,c7 (by omega)]at h1
 rw[←e2,c7 oQ,show a+B+B=2*B+a by omega]at h2
 exact⟨h1,h2⟩
theorem Mrg.step{ys zs:List α}{B a:Nat}(hB:0<B)(h:Mrg key ys B a)(hb:2*B+a≤ys.length)(hz:StS key (Cw ys a (2*B+a)) zs):Mrg key (Ey ys a (2*B+a) zs) B (2*B+a):=by
 have e:2*B+a=a+2*B:=by omega
 rw[e]at hb hz⊢
 have hzl:zs.length=a+2*B-a:=by rw[hz.same.length,Cg hb]
 refine⟨h.1.step oQ hb hz,fun i hi=>?_⟩
 rw[Di oQ hb hzl,Eu oQ hb hzl (.inr hi)]
 exact h.2 i oQ
theorem Mrg.yJ{ys:List α}{B a:Nat}(h:Mrg key ys B a)(h1:a+B<ys.length)(hb:ys.length<2*B+a):Iv key (Cw ys a (a+B))∧Iv key (Cw ys (a+B) ys.length):=by
 obtain⟨⟨⟨q,hq⟩,_⟩,hs⟩:=h
 have e1:a=B*(2*q):=by rw[hq,ik 2 B,Nat.mul_assoc]
 have e2:a+B=B*(2*q+1):=by rw[gg,ez,←e1]
 have k1:=hs (2*q) oQ
 have k2:=hs (2*q+1) oQ
 rw[←e1,c7 (by omega)]at k1
 rw[←e2,g9 (by omega)]at k2
 exact⟨k1,k2⟩
theorem Mrg.last{ys zs:List α}{B a:Nat}(h:Mrg key ys B a)(ha:a≤ys.length)(hb:ys.length<2*B+a)(hz:StS key (Cw ys a ys.length) zs):Bks key (Ey ys a ys.length zs) (2*B):=h.1.last ha oQ hz
theorem Mrg.done{ys:List α}{B a:Nat}(h:Mrg key ys B a)(ha:a≤ys.length)(hb:ys.length<2*B+a)(h1:¬a+B<ys.length):Bks key ys (2*B):=by
 have hs:Iv key (Cw ys a ys.length):=by
   obtain⟨⟨⟨q,hq⟩,_⟩,hs⟩:=h
   have e1:a=B*(2*q):=by rw[hq,ik 2 B,Nat.mul_assoc]
   have k1:=hs (2*q) oQ
   rw[←e1,g9 (by omega)]at k1
   exact k1
 have:=h.last ha hb (StS.refl hs)
 rwa [Gq ha (a8 _)]at this
theorem Bks.all{xs ys:List α}{B:Nat}(h:Bks key ys B)(hB:ys.length≤B)(hs:sameF key xs ys):StS key xs ys:=by
 have:=h 0
 rw[Nat.mul_zero,c_,g9 hB,nM]at this
 exact⟨this,hs⟩
theorem sameF.step{xs ys zs:List α}{a b:Nat}(h:sameF key xs ys)(h1:a≤b)(hb:b≤ys.length)(hz:StS key (Cw ys a b) zs):sameF key xs (Wx.Ey ys a b zs):=h.trans (sameF.Ey h1 hb hz.same)
def fG(key:α→K2)(x:α):List α→List α
 |[]=>[x]
 |y::l=>if Hc (key x) (key y)=true then x::y::l else y::fG key x l
def Ls(key:α→K2)(l:List α):List α:=l.foldl (fun acc x=>fG key x acc) []
theorem W7(x:α):∀(l:List α),Iv key l→∃p,fG key x l=Cx l x p∧p≤l.length∧(∀y∈l.drop p,Hc (key x) (key y)=true)∧(p=0∨∃y,l[p-1]?=some y∧Hc (key x) (key y)=false)
 |[],_=>⟨0,rfl,a8 _,by simp,.inl rfl⟩
 |y::l,h=>by
   unfold fG
   split
   · rename_i hlt
     refine⟨0,by simp[Cx],au _,fun z hz=>?_,.inl rfl⟩
     rcases bg.1 (by simpa using hz:z∈y::l)with rfl|hz
     · exact hlt
     exact Uq hlt ((dq.1 h).1 z hz)
   rename_i hlt
   obtain⟨p,e,hp,h1,h2⟩:=W7 x l (dq.1 h).2
   refine⟨p+1,by rw[e];rfl,by simpa using hp,by simpa using h1,.inr ?_⟩
   rcases h2 with rfl|⟨z,hz,hl⟩
   · exact⟨y,rfl,by simpa using hlt⟩
   refine⟨z,?_,hl⟩
   have:0<p:=by
     rcases Nat.eq_zero_or_pos p with rfl|h
     · rw[Nat.zero_sub]at hz
       cases l with
       |nil=>simp at hz
       |cons w l=>
         exfalso
         simp at hz;subst hz
         have:=h1 w (by simp)
         rw[hl]at this;cases this
     exact h
   rw[show p+1-1=(p-1)+1 by omega,d9]
   exact hz
theorem H0(l:List α):StS key l (Ls key l):=by
 suffices h:∀(r done acc:List α),StS key done acc→StS key (done++r) (r.foldl (fun acc x=>fG key x acc) acc)by
   have:=h l [] [] ⟨List.Pairwise.nil,fun _=>rfl⟩
   simpa[Ls]using this
 intro r
 induction r with
 |nil=>intro done acc h;simpa using h
 |cons x r ih=>
   intro done acc h
   obtain⟨p,e,hp,h1,h2⟩:=W7 (key:=key) x acc h.ord
   have:=ih (done++[x]) (fG key x acc) (by rw[e];exact h.snoc hp h1 h2)
   simpa using this
theorem StS.eq{l s:List α}(h:StS key l s):s=Ls key l:=h.unique (H0 l)
end
end Go.Wx
namespace Go.Proofs.YtnocngnlpgikaaaGreatDoor
open Go.Proofs.Tryz
open Go.Wx Go.RowKit
theorem fH(f:Fact)(w:World):Ret prog 132 #[.agg f.cells] w fun r w'=>r=.bool (M7 0 f)∧Up w w':=by
 have hW:=Up.refl w
 refine cT 3 func132 rfl (Ae (Aq (.bA rfl) rfl ?_))
 rintro _ w1 ⟨B1,rfl,NB1⟩
 replace hW:=hW.up NB1.up
 have hB1:=NB1.blk
 refine Ay (Am (Aa (Ay (Af (Al (KW.q ?_))))))
 exact⟨rfl,hW⟩
theorem Z1(f:Fact)(w:World):Ret prog 130 #[.agg f.cells] w fun r w'=>r=.bool (M7 1 f)∧Up w w':=by
 have hW:=Up.refl w
 refine cT 8 func130 rfl (Ae (Aq (.bA rfl) rfl ?_))
 rintro _ w1 ⟨B1,rfl,NB1⟩
 replace hW:=hW.up NB1.up
 have hB1:=NB1.blk
 refine Ay (Am (Aa (U (.fB 5 rfl) (U (.lb rfl (hB1.Ad rfl)) (U (.fB 6 rfl) (U (.lb rfl (hB1.Ad rfl)) (U (.leq (.t rfl) (.t rfl)) (LW.A rfl (Af (Al (KW.q ?_)))))))))))
 exact⟨rfl,hW⟩
theorem fI(f:Fact)(w:World):Ret prog 119 #[.agg f.cells] w fun r w'=>r=.bool (M7 2 f)∧Up w w':=by
 have hW:=Up.refl w
 refine cT 8 func119 rfl (Ae (Aq (.bA rfl) rfl ?_))
 rintro _ w1 ⟨B1,rfl,NB1⟩
 replace hW:=hW.up NB1.up
 have hB1:=NB1.blk
 refine Ay (Am (Aa (U (.fB 7 rfl) (U (.lb rfl (hB1.Ad rfl)) (U (.fB 8 rfl) (U (.lb rfl (hB1.Ad rfl)) (U (.neq (.t rfl) (.t rfl)) (LW.A rfl (Af (Al (KW.q ?_)))))))))))
 exact⟨rfl,hW⟩
theorem cU(o b:Nat)(w:World)(ho:E8 o=true):Ret prog (nU o) #[.pointer (some ⟨b,0,none⟩)] w fun r w'=>r=.pointer (some ⟨b,o,none⟩)∧Up w w':=by
 rcases D0 ho with rfl|rfl|rfl|rfl|rfl|rfl|rfl|rfl|rfl|rfl|rfl|rfl|rfl|rfl
 · exact sF b w
 · exact jM b w
 · exact eP b w
 · exact eS b w
 · exact eT b w
 · exact nV b w
 · exact Wk b w
 · exact jN b w
 · exact Wl b w
 · exact jO b w
 · exact Zy b w
 · exact Uw b w
 · exact eU b w
 exact Wm b w
theorem kG(o:Nat)(ho:E8 o=true):∀(args:Array Go.Value)(w:World),(callFunc (nU o) args).run prog w=.ok (.enter (nU o) args) w:=by
 rcases D0 ho with rfl|rfl|rfl|rfl|rfl|rfl|rfl|rfl|rfl|rfl|rfl|rfl|rfl|rfl
 · exact vD
 · exact xA
 · exact wZ
 · exact vH
 · exact vR
 · exact vI
 · exact vS
 · exact vJ
 · exact vK
 · exact vL
 · exact vE
 · exact vF
 · exact vN
 exact vM
theorem kH(r:Nat)(f:Fact)(w:World)(hr:r<3):Ret prog (E0 r) #[.agg f.cells] w fun v w'=>v=.bool (M7 r f)∧Up w w':=by
 match r,hr with
 |0,_=>exact fH f w
 |1,_=>exact Z1 f w
 |2,_=>exact fI f w
theorem oI(r:Nat)(hr:r<3):∀(args:Array Go.Value)(w:World),(callFunc (E0 r) args).run prog w=.ok (.enter (E0 r) args) w:=by
 match r,hr with
 |0,_=>exact vP
 |1,_=>exact vO
 |2,_=>exact vG
theorem oJ(k:Int):Gr k<3:=by
 unfold Gr
 rw[cy]
 have h:∀x∈[0,1,0,2,0,0,1,1,0,0,0,1],x<3:=by decide
 cases hl:[0,1,0,2,0,0,1,1,0,0,0,1][k.toNat]? with
 |none=>simp
 |some x=>exact h x (ae hl)
theorem ShV.C8{w w':World}{v:Go.Value}{fs ks:List Fld}{r:Nat}{t:Bool}(h:ShV w v fs ks r t)(u:KeepT 130 w w'):ShV w' v fs ks r t:=let⟨v1,v2,e,h1,h2⟩:=h;⟨v1,v2,e,h1.C8 rfl u,h2.C8 rfl u⟩
theorem ShMap.C8{w w':World}{b:Nat}(h:ShMap w b)(u:KeepT 130 w w'):ShMap w' b:=let⟨kv,h1,h2,h3⟩:=h;⟨kv,h1.C8 u,fun k v m=>(h2 k v m).C8 u,h3⟩
def ShM(v:Go.Value)(w:World):Prop:=∃b,v=.map (some b)∧ShMap w b
theorem ShM.C8{v:Go.Value}{w w':World}(h:ShM v w)(u:KeepT 130 w w'):ShM v w':=let⟨b,e,m⟩:=h;⟨b,e,m.C8 u⟩
def shOf(f:Fact)(v:Go.Value)(w:World):Prop:=ShV w v (fieldsOf f.Kind) (Eb f.Kind) (Gr f.Kind) (Gg f.Kind)
def rB(f:Fact)(v:Go.Value)(w:World):Prop:=∃s,v=.tuple #[s,.bool true]∧shOf f s w
def U1:Go.Value:=.agg #[.slice none 0 0,.slice none 0 0,.nilFunc,.bool false]
theorem shOf.agg{f:Fact}{v:Go.Value}{w:World}(h:shOf f v w):∃cs,v=.agg cs∧cs.size=4∧cs.all (·.oneCell')=true:=by
 obtain⟨v1,v2,rfl,⟨⟨a1,c1,rfl,_⟩,_⟩,⟨a2,c2,rfl,_⟩,_⟩:=h
 exact⟨_,rfl,rfl,by simp[Value.oneCell']⟩
set_option maxHeartbeats 4000000 in
theorem Lb(f:Fact)(w:World):Ret prog 41 #[.agg f.cells] w fun r w'=>r=.bool (Bi f)∧Up w w':=by
 obtain⟨w0,rfl,hS⟩:=W0 w
 refine cT 93 func41 rfl (Ae (Aq (.bA rfl) rfl ?_))
 rintro _ w1 ⟨B1,rfl,NB1⟩
 replace hS:=hS.Cc NB1
 refine Ay (Am ?_)
 cases hq1:decide (1≤f.Kind∧f.Kind≤11)with
 |true=>
  have hkn:=bw hq1
  obtain⟨r0,hr0⟩:∃r,r=Gr f.Kind:=⟨_,rfl⟩
  have hr3:r0<3:=by rw[hr0];exact oJ _
  obtain⟨t0,ht0⟩:∃t,t=Gg f.Kind:=⟨_,rfl⟩
  have hB1T:=hS.blk 0 rfl
  have hU0:=hS.Cl
  refine CW.box 9 7 8 5 3 14 #[.slice none 0 0,.slice none 0 0,.nilFunc,.bool false] [.pred ShM,.eq (.pointer (some ⟨B1,0,none⟩)),.eq (vi f.Kind),.pred (rB f),.pred (rB f),.pred (shOf f),.eq (.bool true),.pred fun v _=>∃B,v=.pointer (some ⟨B,0,none⟩),.eq undef] [15] kc sizeOf130 kQ rfl kQ kQ kQ kQ kQ kQ kQ rfl rfl ⟨_,_,_,rfl⟩ _ rfl ⟨_,_,_,rfl⟩ ⟨PhT.pred fun _ _ _ h u=>ShM.C8 h u,mp,mp,PhT.pred fun _ _ _ h u=>let⟨s,e,h⟩:=h;⟨s,e,ShV.C8 h u⟩,PhT.pred fun _ _ _ h u=>let⟨s,e,h⟩:=h;⟨s,e,ShV.C8 h u⟩,PhT.pred fun _ _ _ h u=>ShV.C8 h u,mp,PhT.pred fun _ _ _ h _=>h,mp,trivial⟩ rfl (fun v W h=>shOf.agg h) (fun B W=>⟨B,rfl⟩) ?_ ?_
  ·intro W hK0
   have hK:=(Up.drew w1).C8.trans hK0
   have hB1W:=Blk.C8 hB1T (T:=130) rfl hK
   refine aC (.inr ⟨rfl,TU.c (eC .nil (nA)) (Jp _) (fun v W1 h=>let⟨b,e,m,u⟩:=h;⟨u,b,e,m⟩)⟩) (aC (.inr ⟨rfl,TU.p (.fB 0 rfl) rfl⟩) (aC (.inr ⟨rfl,TU.p (.lb rfl (hB1W.Ad rfl)) rfl⟩) (aC (.inr ⟨rfl,TU.open (d:=10) rfl (by rintro _ ⟨b,rfl,kv,hI,hV,hK⟩;obtain⟨⟨k0,sv⟩,hkv,e0⟩:=bj.1 ((hK f.Kind).2 hkn);cases e0;exact TU.p (.Hx me jy (.t rfl) (.t rfl) hI hkv) ⟨_,rfl,hV _ _ hkv⟩)⟩) (aC (.inr ⟨rfl,TU.open (d:=13) rfl (by rintro _ ⟨s,rfl,h⟩;exact TU.p (.mv rfl) ⟨s,rfl,h⟩)⟩) (aC (.inr ⟨rfl,TU.open (d:=9) rfl (by rintro _ ⟨s,rfl,h⟩;exact TU.p (.xt rfl rfl) h)⟩) (aC (.inr ⟨rfl,TU.open (d:=9) rfl (by rintro _ ⟨s,rfl,h⟩;exact TU.p (.xt rfl rfl) rfl)⟩) (aC (.inl (.inl rfl)) (aC (.inl (.inr rfl)) ?_))))))))
   exact allL.nil
  intro wT B3 g hU hBn hB3 hg
  have h15:g 15=.bool true:=hg 6 _ 15 cQ rfl rfl
  have hUT:=(Up.drew _).trans hU
  have hB1X:=hB1T.up hUT
  replace hB1T:=hB1X
  replace hU0:=hU0.trans hUT
  obtain⟨v1,v2,e14,hs1,hs2⟩:=hg 5 _ 14 cQ rfl rfl
  rw[e14]at hB3
  obtain⟨⟨ad,cp,rfl,hE0⟩,_⟩:=hs1
  obtain⟨⟨ad2,cp2,rfl,hE2⟩,_⟩:=hs2
  rw[←hr0,←ht0]at hB3
  replace hB3:Blk wT B3 #[.slice ad (fieldsOf f.Kind).length cp,.slice ad2 (Eb f.Kind).length cp2,.func (.func (E0 r0)) #[] #[],.bool t0] 130:=hB3
  have hB3T:=hB3
  change LW _ _ _ _ _ _ _ _ ((3,_)::(15,.eq (g 15))::_) _
  rw[h15]
  replace hS:=(Sep.start no wT)
  refine LW.A rfl (Am (Ak ?_))
  cases hq2:preB f with
  |true=>
   refine Aa (U (.tr (PEv.mv rfl) (rfl)) (U (.n1 rfl) (I rfl (Ap (U (.fB 2 rfl) (Ap (U (.lb rfl ((hB1T.up hS.Cl).Ad rfl)) (Ap (U (.lss (.t rfl) (.const _)) (U (.po rfl (fun hp=>(by exact .tmp rfl))) (I rfl (LW.gr rfl (fun hc=>PEv.fB 2 rfl) (LW.gr rfl (fun hc=>PEv.load j_ vQ ((hB1T.up hS.Cl).Ad rfl)) (LW.gr rfl (fun hc=>PEv.gtr vQ (.const _)) (U (.po rfl (fun hp=>(by exact .cond rfl (by simp_all)))) (I rfl (LW.gr rfl (fun hc=>PEv.fB 3 rfl) (LW.gr rfl (fun hc=>PEv.load j_ vQ ((hB1T.up hS.Cl).Ad rfl)) (LW.gr rfl (fun hc=>PEv.lss vQ (.const _)) (U (.po rfl (fun hp=>(by exact .cond rfl (by simp_all)))) (I rfl (LW.gr rfl (fun hc=>PEv.fB 3 rfl) (LW.gr rfl (fun hc=>PEv.load j_ vQ ((hB1T.up hS.Cl).Ad rfl)) (LW.gr rfl (fun hc=>PEv.gtr vQ (.const _)) (U (.po rfl (fun hp=>(by exact .cond rfl (by simp_all)))) (I rfl (LW.gr rfl (fun hc=>PEv.fB 18 rfl) (LW.gr rfl (fun hc=>PEv.load isAgg9 vQ ((hB1T.up hS.Cl).Ad rfl)) (LW.gr rfl (fun hc=>PEv.P0 j7 vQ) (LW.gr rfl (fun hc=>PEv.gtr vQ (.const _)) (U (.po rfl (fun hp=>(by exact .cond rfl (by simp_all)))) (U (.tr (PEv.mv rfl) (by simpa[preB]using hq2)) (Bh (Bh (Bh (Bh (Bh (U (.D5 (b:=false) (.t rfl) (fun hp=>absurd (show true=false from hp) cQ)) (Af (CW.v rfl (Ae (Ay (Af (Al (Au (KW.q ?_))))))))))))))))))))))))))))))))))))))))))))))
   refine⟨aq Go.Value.bool ?_,hU0.trans hS.Cl⟩
   exact yI hq2
  |false=>
   obtain⟨hp1,hp2,hp3,hp4,hp5⟩:¬f.Version<1∧¬1000000<f.Version∧¬f.Day<0∧¬100000<f.Day∧¬8192<(f.Text.size:Int):=by simp[preB]at hq2;omega
   refine Aa (U (.tr (PEv.mv rfl) (rfl)) (U (.n1 rfl) (I rfl (Ap (U (.fB 2 rfl) (Ap (U (.lb rfl ((hB1T.up hS.Cl).Ad rfl)) (Ap (U (.fa (PEv.lss (.t rfl) (.const _)) (bn hp1)) (U (.po rfl (fun hp=>(by exact .tmp rfl))) (I rfl (Ap (U (.fB 2 rfl) (Ap (U (.lb rfl ((hB1T.up hS.Cl).Ad rfl)) (Ap (U (.fa (PEv.gtr (.t rfl) (.const _)) (bn hp2)) (U (.po rfl (fun hp=>(by exact .tmp rfl))) (I rfl (Ap (U (.fB 3 rfl) (Ap (U (.lb rfl ((hB1T.up hS.Cl).Ad rfl)) (Ap (U (.fa (PEv.lss (.t rfl) (.const _)) (bn hp3)) (U (.po rfl (fun hp=>(by exact .tmp rfl))) (I rfl (Ap (U (.fB 3 rfl) (Ap (U (.lb rfl ((hB1T.up hS.Cl).Ad rfl)) (Ap (U (.fa (PEv.gtr (.t rfl) (.const _)) (bn hp4)) (U (.po rfl (fun hp=>(by exact .tmp rfl))) (I rfl (Ap (U (.fB 18 rfl) (Ap (U (.lb rfl ((hB1T.up hS.Cl).Ad rfl)) (Ap (U (.P0 j7 (.t rfl)) (Ap (U (.fa (PEv.gtr (.t rfl) (.const _)) (bn hp5)) (U (.po rfl (fun hp=>(by exact .tmp rfl))) (I rfl (Ap (U (.fB 2 rfl) (Ap (U (.lb rfl ((hB3T.up hS.Cl).Ad rfl)) (Ap (U (.lc rfl ((hB1T.up hS.Cl).agg)) (Ap (A3 (Fa (.t rfl) (.cu rfl) (oI r0 hr3)) rfl (kH r0 f _ hr3) ?_)))))))))))))))))))))))))))))))))))))))))))))))))))))
   rintro _ w2 ⟨rfl,uw2⟩
   replace hS:=hS.up uw2
   refine Ap (U (.n1 rfl) (U (.po rfl (fun hp=>(by exact .tmp rfl))) (Af (CW.b rfl (fun h50=>?_) (fun h50=>?_)))))
   ·refine Ae (Ay (Af (Al (Au (KW.q ?_)))))
    refine⟨aq Go.Value.bool ?_,hU0.trans hS.Cl⟩
    exact sG hr0 (by simpa using h50)
   refine Ai (Ac (Ae (U (.lc rfl ((hB1T.up hS.Cl).agg)) (Aq (.Bt j4) rfl ?_))))
   rintro _ w3 ⟨B5,rfl,MB5⟩
   refine Cb (.Ca jz rfl (.t rfl) (.t rfl) eQ MB5.blk rfl) ?_
   intro w4 LB5
   have NB5:=MB5.set LB5
   replace hS:=hS.Cc NB5
   refine Am (Ae (U (.fB 0 rfl) (U (.lb rfl ((hB3T.up hS.Cl).Ad rfl)) (U (.Cn j3 (.t rfl)) (U (.move (.const _)) (Af (Ah (A5 (σ:=Nat×Fact) (fun s w=>(s.1≤(fieldsOf f.Kind).length)∧(Hi (fieldsOf f.Kind) f=Hi ((fieldsOf f.Kind).drop s.1) s.2)∧(Sep no wT w [A4 B5 s.2.cells 33])) (fun s=>[(55,.eq (vi (s.1:Int)))]) ([(1,.eq _),(3,.eq _),(5,.eq _),(53,.eq _),(54,.eq _)]) (fun s=>(fieldsOf f.Kind).length-s.1) (0,f) ?_ tQ ?_))))))))
   ·exact⟨au _,rfl,hS⟩
   rintro⟨k,g⟩ w5 ⟨hkk,hg,hS⟩
   refine Ae (U (.l2 rfl rfl) (Am (CW.b rfl (fun h56=>?_) (fun h56=>?_))))
   ·refine Ai (Ac (Ak (Ah (Ak ?_))))
    have hfl:=Mb f.Kind
    have hE:=Els.up hE0 hS.Cl
    have hkl:k<(fieldsOf f.Kind).length:=by simp at h56;omega
    refine Aa ?_
    obtain⟨x,hx⟩:=An (xs:=fieldsOf f.Kind) (i:=k) oQ
    obtain⟨Bx,ox,ax,hcx⟩:=hE _ x hx
    refine U (.Ar j3 j5 (.t rfl) (.t rfl) oQ ax) (U (.lc rfl (hcx)) (Aq (.Bt jx) rfl ?_))
    rintro _ w6 ⟨B7,rfl,MB7⟩
    refine Cb (.Ca j5 rfl (.t rfl) (.t rfl) (Fld.one _) MB7.blk rfl) ?_
    intro w7 LB7
    have NB7:=MB7.set LB7
    replace hcx:=hcx.up NB7.up
    replace hS:=hS.Cc NB7
    refine Am ?_
    have hox:=Ti _ x (ae hx)
    refine Aa (U (.fB 0 rfl) (U (.lb rfl (hS.b1.Ad rfl)) (A3 (Fa (.t rfl) (.cu rfl) (kG x.off hox)) rfl (cU x.off _ _ hox) ?_)))
    rintro _ w8 ⟨rfl,uw8⟩
    replace hS:=hS.up uw8
    refine LW.A rfl (Am (Ak (C7 kQ kQ rfl rfl (J (.mv rfl) (J (.nc rfl) (J (.lb rfl (hS.b0.Ad (N4 hox))) (J (.fB 1 rfl) (J (.lb rfl (hS.b1.Ad (v:=vi x.lo) rfl)) (J (.l2 rfl rfl) (J (.mv rfl) (Gi rfl rfl rfl rfl rfl rfl (fun hc=>PEv.mv rfl) (Gi rfl rfl rfl rfl rfl rfl (fun hc=>PEv.nilCheck vQ) (Gi rfl rfl rfl rfl rfl rfl (fun hc=>PEv.load j_ vQ (hS.b0.Ad (N4 hox))) (Gi rfl rfl rfl rfl rfl rfl (fun hc=>PEv.fB 2 rfl) (Gi rfl rfl rfl rfl rfl rfl (fun hc=>PEv.load j_ vQ (hS.b1.Ad (v:=vi x.hi) rfl)) (Gi rfl rfl rfl rfl rfl rfl (fun hc=>PEv.gtr vQ vQ) (J (.po rfl (fun hp=>(by exact .cond rfl (by simp_all)))) (HW.nil ?_))))))))))))))))))
    intro w9 uw9
    replace hS:=hS.up uw9
    refine Ac (CW.b rfl (fun h75=>?_) (fun h75=>?_))
    ·refine Ae (Ay (Af (Al (Au (A7 (Au (Au (A7 (Au (KW.q ?_))))))))))
     refine⟨aq Go.Value.bool ?_,hU0.trans hS.Cl⟩
     exact sH (eX hg hx (by simp at h75;omega))
    refine Ai (Ac (Aa (I rfl (U (.nc rfl) (Cb (.store jw (.t rfl) (.const _) rfl hS.b0 (Z0 hox)) ?_)))))
    intro w10 Nw10
    have zw10:=Nw10.size
    replace hS:=hS.D9 0 rfl (by rw[Zz hox]at Nw10;exact Nw10)
    refine LW.nil (Aj (Ac (Aa (U (.ic rfl oQ) (I rfl (LW.nil (Av ?_)))))))
    exact⟨(k+1,eV g x.off 0),⟨by omega,eW hg hx (by simp at h75;omega),hS.take 1⟩,tQ,by omega⟩
   refine A8 (Ab (Ab (Ao (Ac (Ak (Ae (U (.fB 3 rfl) (U (.lb rfl ((hB3T.up hS.Cl).Ad rfl)) (Af (CW.b rfl (fun h80=>?_) (fun h80=>?_)))))))))))
   ·refine Aa (U (.fB 18 rfl) (Cb (.store kt (.t rfl) (.const _) rfl hS.b0 bQ) ?_))
    intro w11 Nw11
    replace hS:=hS.D9 0 rfl (show Set_ _ w11 _ (({ g with Text:=ByteArray.empty }:Fact).cells) _ from Nw11)
    refine Am (Aa (U (.lc rfl (hS.b0.agg)) (U (.fB 0 rfl) (U (.lb rfl ((hB1T.up hS.Cl).Ad rfl)) (U (.fB 2 rfl) (U (.lb rfl ((hB1T.up hS.Cl).Ad rfl)) (U (.fB 3 rfl) (U (.lb rfl ((hB1T.up hS.Cl).Ad rfl)) (U (.fB 4 rfl) (U (.lb rfl ((hB1T.up hS.Cl).Ad rfl)) (U (.build (cs:=(cI f).cells) ke j4 Dy (.ct rfl (.ct rfl (.ct rfl (.cu rfl)))) rfl) (U (.rK eqGuardType33 (Ov _ _) (.t rfl) (.t rfl)) (LW.A rfl (Af (Al (KW.q ?_))))))))))))))))
    refine⟨aq Go.Value.bool ?_,hU0.trans hS.Cl⟩
    exact sI hkn hq2 hr0 (by simpa using h50) (Wo hg (by simp at h56;omega)) ht0 h80
   refine Ai (Ac (Ae (U (.lc rfl (hS.b0.agg)) (U (.fB 0 rfl) (U (.lb rfl ((hB1T.up hS.Cl).Ad rfl)) (U (.fB 2 rfl) (U (.lb rfl ((hB1T.up hS.Cl).Ad rfl)) (U (.fB 3 rfl) (U (.lb rfl ((hB1T.up hS.Cl).Ad rfl)) (U (.fB 4 rfl) (U (.lb rfl ((hB1T.up hS.Cl).Ad rfl)) (U (.build (cs:=(cI f).cells) ke j4 Dy (.ct rfl (.ct rfl (.ct rfl (.cu rfl)))) rfl) (U (.rK eqGuardType33 (Ov _ _) (.t rfl) (.t rfl)) (LW.A rfl (Af (Al (KW.q ?_)))))))))))))))))
   refine⟨aq Go.Value.bool ?_,hU0.trans hS.Cl⟩
   exact sJ hkn hq2 hr0 (by simpa using h50) (Wo hg (by simp at h56;omega)) ht0 h80
 |false=>
  have hkn:=cc hq1
  have hB1T:=hS.blk 0 rfl
  have hU0:=hS.Cl
  refine CW.box 9 7 8 5 3 14 #[.slice none 0 0,.slice none 0 0,.nilFunc,.bool false] [.pred ShM,.eq (.pointer (some ⟨B1,0,none⟩)),.eq (vi f.Kind),.eq (.tuple #[U1,.bool false]),.eq (.tuple #[U1,.bool false]),.eq U1,.eq (.bool false),.pred fun v _=>∃B,v=.pointer (some ⟨B,0,none⟩),.eq undef] [15] kc sizeOf130 kQ rfl kQ kQ kQ kQ kQ kQ kQ rfl rfl ⟨_,_,_,rfl⟩ _ rfl ⟨_,_,_,rfl⟩ ⟨PhT.pred fun _ _ _ h u=>ShM.C8 h u,mp,mp,mp,mp,mp,mp,PhT.pred fun _ _ _ h _=>h,mp,trivial⟩ rfl (fun v W h=>⟨_,h,rfl,by simp[Value.oneCell']⟩) (fun B W=>⟨B,rfl⟩) ?_ ?_
  ·intro W hK0
   have hK:=(Up.drew w1).C8.trans hK0
   have hB1W:=Blk.C8 hB1T (T:=130) rfl hK
   refine aC (.inr ⟨rfl,TU.c (eC .nil (nA)) (Jp _) (fun v W1 h=>let⟨b,e,m,u⟩:=h;⟨u,b,e,m⟩)⟩) (aC (.inr ⟨rfl,TU.p (.fB 0 rfl) rfl⟩) (aC (.inr ⟨rfl,TU.p (.lb rfl (hB1W.Ad rfl)) rfl⟩) (aC (.inr ⟨rfl,TU.open (d:=10) rfl (by rintro _ ⟨b,rfl,kv,hI,hV,hK⟩;exact TU.p (.Qd me jy kc (.t rfl) (.t rfl) hI (fun h=>hkn ((hK f.Kind).1 h))) rfl)⟩) (aC (.inr ⟨rfl,TU.p (.mv rfl) rfl⟩) (aC (.inr ⟨rfl,TU.p (.xt rfl rfl) rfl⟩) (aC (.inr ⟨rfl,TU.p (.xt rfl rfl) rfl⟩) (aC (.inl (.inl rfl)) (aC (.inl (.inr rfl)) ?_))))))))
   exact allL.nil
  intro wT B3 g hU hBn hB3 hg
  have h15:g 15=.bool false:=hg 6 _ 15 cQ rfl rfl
  have hUT:=(Up.drew _).trans hU
  have hB1X:=hB1T.up hUT
  replace hB1T:=hB1X
  replace hU0:=hU0.trans hUT
  have e14:g 14=U1:=hg 5 _ 14 cQ rfl rfl
  rw[e14]at hB3
  replace hB3:Blk wT B3 #[.slice none 0 0,.slice none 0 0,.nilFunc,.bool false] 130:=hB3
  change LW _ _ _ _ _ _ _ _ ((3,_)::(15,.eq (g 15))::_) _
  rw[h15]
  replace hS:=(Sep.start no wT)
  refine LW.A rfl (Am (Ae (U (.fa (PEv.mv rfl) (rfl)) (U (.n1 rfl) (I rfl (Bh (Bh (Bh (U (.D5 (b:=false) (.t rfl) (fun hp=>absurd (show true=false from hp) cQ)) (I rfl (Bh (Bh (Bh (U (.D5 (b:=false) (.t rfl) (fun hp=>absurd (show true=false from hp) cQ)) (I rfl (Bh (Bh (Bh (U (.D5 (b:=false) (.t rfl) (fun hp=>absurd (show true=false from hp) cQ)) (I rfl (Bh (Bh (Bh (U (.D5 (b:=false) (.t rfl) (fun hp=>absurd (show true=false from hp) cQ)) (I rfl (Bh (Bh (Bh (Bh (U (.D5 (b:=false) (.t rfl) (fun hp=>absurd (show true=false from hp) cQ)) (I rfl (Bh (Bh (Bh (Bh (Bh (U (.D5 (b:=false) (.t rfl) (fun hp=>absurd (show true=false from hp) cQ)) (Af (CW.v rfl (Ae (Ay (Af (Al (Au (KW.q ?_)))))))))))))))))))))))))))))))))))))))))))))
  refine⟨aq Go.Value.bool ?_,hU0.trans hS.Cl⟩
  exact yH hkn
theorem Z2(z:Nat)(w:World):Ret prog 180 #[vu z] w fun r w'=>(∃B,r=.func (.func 228) #[] #[.pointer (some ⟨B,0,none⟩)]∧Blk w' B #[vu z] 240∧w.heap.size≤B)∧Up w w':=by
 have hW:=Up.refl w
 refine cT 4 func180 rfl (Ae (Aq (.O3 (.t rfl) rfl) rfl ?_))
 rintro _ w1 ⟨B1,rfl,NB1⟩
 have eB1:=NB1.at_
 replace hW:=hW.up NB1.up
 have hB1:=NB1.blk
 refine Ay (Am (Aa (U (.makeFunc (.cu rfl)) (LW.A rfl (Af (Al (KW.q ?_)))))))
 exact⟨⟨_,rfl,hB1,by omega⟩,hW⟩
theorem W8(B1 z:Nat)(w:World)(hz:z<18446744073709551616)(hB:Blk w B1 #[vu z] 240):qZ prog 228 #[.pointer (some ⟨B1,0,none⟩)] CJ (fun b=>b=B1) (fun ys=>ys=Qe z) 10 w:=by
 intro lp J w0 hUw hJZ hY hJ
 have hB1:=hB.up hUw
 refine cT 18 func228 rfl (Ah (CW.loop (σ:=List (UInt8×Bool)×Nat) (fun s w=>Qe z=s.1++Qe s.2∧s.2<18446744073709551616∧J s.1 w∧Blk w B1 #[vu s.2] 240) (fun s=>[(0,.eq (.func (.yield lp) #[] #[])),(1,.eq (.pointer (some ⟨B1,0,none⟩)))]) (fun s=>s.2) ([],z) ?_ ?_ ?_))
 ·exact⟨rfl,hz,hJ,hB1⟩
 ·exact tQ
 rintro⟨pre,zz⟩ w1 ⟨hg,h64,hJ,hB1⟩
 obtain⟨lb,hlb⟩:∃b,b=decide ((zz:Int)<128):=⟨_,rfl⟩
 refine Ah (Ae (U (.lb rfl ((hB1).Ad rfl)) (U (.val (v':=.bool lb) (PEv.lss (.t rfl) (.const _)) (aq Go.Value.bool hlb.symm)) (LW.A rfl (Am (Ae (I rfl (U (.lb rfl ((hB1).Ad rfl)) (U (.val (v':=vu (zz%128)) (dW (.t rfl) (.const _)) (aq (Go.Value.int .u64) (rT h64))) (U (.val (v':=bv (UInt8.ofNat (zz%128))) (PEv.conv (k':=.u8) (by rw[l6];rfl) k_ (.t rfl)) (nI (z:=zz%128))) (I rfl ?_)))))))))))
 have hY2:=hY pre (UInt8.ofNat (zz%128),lb) _ hJ (jS hg)
 refine LW.y (vs:=[bv (UInt8.ofNat (zz%128)),.bool lb]) (.t rfl) (.ct rfl (.cu rfl)) rfl rfl hY2 ?_
 rintro _ w2 ⟨rfl,hJ2,hkp⟩
 replace hB1:Blk w2 B1 _ _:=(hkp B1 rfl).trans hB1
 refine U (.n1 rfl) (I rfl (F5 rfl rfl (U (.po rfl (fun hp=>(by exact .cond rfl (by simp_all)))) (Af (CW.b rfl (fun h15=>?_) (fun h15=>?_))))))
 ·refine Al (Au (A7 (Au (A7 (Fm rfl ⟨_,rfl,?_⟩)))))
  exact⟨_,jP (jR hlb) hg (by simpa using h15),hJ2⟩
 refine Ai (Ac (Aa (U (.lb rfl ((hB1).Ad rfl)) (U (.val (v':=vu (zz/128)) (PEv.S2 (j:=7) (.t rfl) (.const _)) (aq (Go.Value.int .u64) (CH (z:=zz)))) (Cb (.store sizeOf240 (.t rfl) (.t rfl) rfl hB1 bQ) ?_)))))
 intro w3 Nw3
 replace hB1:=Nw3.blk
 replace hB1:Blk w3 B1 #[vu (zz/128)] _:=hB1
 refine LW.nil (Aj (Av ?_))
 have hnx:=jQ (jR hlb) hg (by simpa using h15) h64
 exact⟨(_,zz/128),⟨hnx.1,by dsimp only;omega,hJZ _ _ _ hJ2 Nw3.sto.fr,hB1⟩,tQ,hnx.2⟩
theorem Qr(n:Int)(w:World):Ret prog 112 #[vi n] w fun r w'=>r=.tuple #[.string ⟨(encI n).toArray⟩,vi (sL n)]∧Up w w':=by
 have hW:=Up.refl w
 obtain⟨w0,rfl,_⟩:=W0 w
 refine Et (n:=33) func112 rfl rfl rfl (Ae (Ay (Ay (Am (Ak ?_)))))
 cases hq1:decide (Nt n)with
 |true=>
  have hin:=bw hq1
  obtain⟨hin1,hin2⟩:=hin
  have hin:Nt n:=⟨hin1,hin2⟩
  refine Aa (I rfl (U (.fa (PEv.lss (.t rfl) (.const _)) (bn oQ)) (I rfl (Ap (I rfl (Ap (U (.fa (PEv.gtr (.t rfl) (.const _)) (bn oQ)) (U (.po rfl (fun hp=>(by exact .tmp rfl))) (Af (CW.f rfl (Ai (Ac (Ae (Aq (.F6 zeroValue120 rfl) rfl ?_))))))))))))))
  rintro _ w1 ⟨B4,rfl,NB4⟩
  have eB4:=NB4.at_
  have zB4:=NB4.size
  replace hW:=hW.up NB4.up
  have hB4:=NB4.blk
  refine Am (Ae (I rfl (U (.conv (k':=.u64) (by rw[jy];rfl) l6 (.t rfl)) (U (.yC (j:=1) (.t rfl) (.const _)) (I rfl (U (.S2 (j:=63) (.t rfl) (.const _)) (U (.conv (k':=.u64) (by rw[jy];rfl) l6 (.t rfl)) (U (.val (v':=vu (bM n)) (dX (.t rfl) (.t rfl)) (aq (Go.Value.int .u64) (iW hin))) (A3 (eC (.o rfl) (wX)) rfl (Z2 _ _) ?_)))))))))
  rintro _ w2 ⟨⟨B1,rfl,hBz,zz1⟩,uw2⟩
  have zw2:=uw2.size
  replace hW:=hW.up uw2
  replace hB4:=hB4.up uw2
  refine Af (Ah ?_)
  obtain⟨bq,hbq⟩:∃bq,bq=w2.heap.size:=⟨_,rfl⟩
  have zBz:=hBz.lt
  refine Se (fun b=>b=B1) (fun pre W=>Sz bq W∧∃v,Blk W B4 #[v] 120∧OwnS W bq 5 1 Nz v (pre.map V4)∧Up w0 W) (fun x=>[(5,.eq (bv x.1)),(6,.eq (.bool x.2)),(4,.eq (.pointer (some ⟨B4,0,none⟩)))]) (.t rfl) (fun args w=>xN args w) (fun W hu=>W8 B1 (bM n) W (Y7 hin.1 hin.2) (hBz.up hu)) (fun _=>rfl) rfl ?_ ?_ ?_ ?_ ?_ (fun _=>rfl) ?_ ?_
  ·rintro b rfl
   omega
  ·rw[←hbq]
   intro pre W W' row hs hg hr
   obtain⟨hZ,v,hB4,hO,hW⟩:=hs
   exact⟨hZ.ko (Ko.grown hg hr),v,hB4.ko (Ko.grown hg hr),hO.ko (Ko.grown hg hr),hW.ko (Ko.grown hg hr) oQ⟩
  ·intro pre W W' hs hf
   obtain⟨hZ,v,hB4,hO,hW⟩:=hs
   exact⟨hZ.nO hf,v,hB4.nO hf oQ,hO.nO hf (fun b e=>by subst e;omega),hW.nO hf (fun b e=>by subst e;omega)⟩
  ·exact⟨eo hbq,_,hB4,OwnS.nil _ _ _ _ _,hW⟩
  ·intro lp x w3
   refine Zp rfl rfl (Ae (LW.A rfl (Af (Aa (LW.A rfl (LW.nil ?_))))))
   exact fun a ha=>⟨rfl,ha.sub tQ⟩
  ·rw[←hbq]
   intro lp pre x w4 hs hlt
   obtain⟨hZ,v,hB4,hO,hW⟩:=hs
   have zq:=hZ.le
   have hK:=Kf.refl bq w4
   have hI1:=Zk.refl (B:=B1) (w:=w4) oQ
   refine Ah (Ak (Ae (I rfl (U (.n1 rfl) (Af (CW.b rfl (fun h24=>?_) (fun h24=>?_)))))))
   ·refine Aa (I rfl (U (.val (v':=bv (x.1|||128)) (PEv.uG (.t rfl) (.const _)) (aq (Go.Value.int .u8) yD)) (LW.A rfl (Af (Aa (U (.lb rfl (hB4.Ad rfl)) (I rfl (Aq (.buildSlice (xs:=[_]) (enc:=Nz) (mk:=bv) kl sizeOf5 lz rfl cQ (fun _=>rfl) (fun _=>rfl) (.cu rfl) rfl) rfl ?_))))))))
    rintro _ w5 ⟨B29,cB29,rfl,NB29,yB29,xB29⟩
    have eB29:=NB29.at_
    have zB29:=NB29.size
    replace hZ:=hZ.up NB29.up
    replace hB4:=hB4.up NB29.up
    replace hO:=hO.up NB29.up
    replace hW:=hW.up NB29.up
    replace hK:=hK.up NB29.up
    replace hI1:=hI1.up NB29.up
    have hB29:=NB29.blk
    have hE29:=xB29
    refine Aq (.append (enc:=Nz) (base:=bq) (bytes:=1) (i:=Tryz.t5) kl kQ rfl rfl rfl rfl cQ (fun _=>rfl) bR (.t rfl) (.t rfl) hO (Aw hE29) (by simp) (by simp[maxLen];omega) (by simp;omega) oQ) rfl ?_
    rintro v30 w6 ⟨Ow6,Gw6⟩
    replace hZ:=hZ.gr Gw6 rfl
    replace hB4:=hB4.gr Gw6 oQ
    replace hW:=hW.gr Gw6 oQ
    replace hK:=hK.gr Gw6
    replace hI1:=hI1.gr Gw6 oQ
    replace hO:=Ow6
    refine Cb (.store sizeOf120 (.t rfl) (.t rfl) hO.one hB4 bQ) ?_
    intro w7 Nw7
    replace hZ:=hZ.sto Nw7.sto oQ
    replace hO:=hO.sto Nw7.sto oQ
    replace hW:=hW.sto Nw7.sto oQ
    replace hK:=hK.sto Nw7.sto (.inr (.inr ⟨_,_,hB4⟩))
    replace hI1:=hI1.sto Nw7.sto oQ
    replace hB4:=Nw7.blk
    replace hB4:Blk w7 B4 #[v30] _:=hB4
    refine LW.nil (Aj ?_)
    exact fun a ha=>⟨hK,fun b e=>by subst e;exact hI1.same,hZ,_,hB4,by rw[cg,co,e_];(rw[nW h24];exact hO),hW⟩
   refine Ai (Ac (Aa (U (.lb rfl (hB4.Ad rfl)) (I rfl (Aq (.buildSlice (xs:=[_]) (enc:=Nz) (mk:=bv) kl sizeOf5 lz rfl cQ (fun _=>rfl) (fun _=>rfl) (.cu rfl) rfl) rfl ?_)))))
   rintro _ w8 ⟨B29,cB29,rfl,NB29,yB29,xB29⟩
   have eB29:=NB29.at_
   have zB29:=NB29.size
   replace hZ:=hZ.up NB29.up
   replace hB4:=hB4.up NB29.up
   replace hO:=hO.up NB29.up
   replace hW:=hW.up NB29.up
   replace hK:=hK.up NB29.up
   replace hI1:=hI1.up NB29.up
   have hE29:=xB29
   refine Aq (.append (enc:=Nz) (base:=bq) (bytes:=1) (i:=Tryz.t5) kl kQ rfl rfl rfl rfl cQ (fun _=>rfl) bR (.t rfl) (.t rfl) hO (Aw hE29) (by simp) (by simp[maxLen];omega) (by simp;omega) oQ) rfl ?_
   rintro v30 w9 ⟨Ow9,Gw9⟩
   replace hZ:=hZ.gr Gw9 rfl
   replace hB4:=hB4.gr Gw9 oQ
   replace hW:=hW.gr Gw9 oQ
   replace hK:=hK.gr Gw9
   replace hI1:=hI1.gr Gw9 oQ
   replace hO:=Ow9
   refine Cb (.store sizeOf120 (.t rfl) (.t rfl) hO.one hB4 bQ) ?_
   intro w10 Nw10
   replace hZ:=hZ.sto Nw10.sto oQ
   replace hO:=hO.sto Nw10.sto oQ
   replace hW:=hW.sto Nw10.sto oQ
   replace hK:=hK.sto Nw10.sto (.inr (.inr ⟨_,_,hB4⟩))
   replace hI1:=hI1.sto Nw10.sto oQ
   replace hB4:=Nw10.blk
   replace hB4:Blk w10 B4 #[v30] _:=hB4
   refine LW.nil (Aj ?_)
   exact fun a ha=>⟨hK,fun b e=>by subst e;exact hI1.same,hZ,_,hB4,by rw[cg,co,e_];(rw[jT h24];exact hO),hW⟩
  intro D ys w11 hDb hSy hs hD
  rw[←hbq]at hDb
  obtain⟨hZ,v,hB4,hO,hW⟩:=hs
  replace hD:Ob w11 D (.deferred (some [])):=hD
  refine Aj (Ac (Ae (U (.lb rfl (hB4.Ad rfl)) (U (.rU kl k_ j7 (.t rfl) hO) (LW.A rfl (Ay (Af (Al (K1 hD rfl ?_)))))))))
  replace hZ:=hZ.ko (Ko.putObj (.deferred none) hD rfl hDb)
  replace hB4:=hB4.ko (Ko.putObj (.deferred none) hD rfl hDb)
  replace hO:=hO.ko (Ko.putObj (.deferred none) hD rfl hDb)
  replace hW:=hW.putObj (D:=D) (.deferred none) oQ
  refine Fy rfl rfl rfl ⟨_,rfl,?_⟩
  (rw[nX hin,sL,ap hin];subst hSy;exact⟨rfl,hW⟩)
 |false=>
  have hin:=cc hq1
  refine Aa (I rfl (U (.lss (.t rfl) (.const _)) (I rfl (F5 rfl rfl (LW.gr rfl (fun hc=>PEv.gtr vQ (.const _)) (U (.po rfl (fun hp=>(by exact .cond rfl (by simp_all)))) (Af (CW.b rfl (fun h12=>?_) (fun h12=>?_)))))))))
  ·refine Ae (Ay (Ay (Af (Al (Au (P7 (Fy rfl rfl rfl ⟨_,rfl,?_⟩)))))))
   (rw[jU hin,sL,am hin];exact⟨rfl,hW⟩)
  exfalso
  apply hin
  unfold Nt
  simp at h12
  omega
theorem Si(t:ByteArray)(w:World)(ht:t.size≤65536):Ret prog 136 #[.string t] w fun r w'=>r=.tuple #[.string ⟨(Za t.data.toList).toArray⟩,vi 0]∧Up w w':=by
 have hW:=Up.refl w
 refine cT 18 func136 rfl (Ae (Ay (Ay (Am (Ae (I rfl (U (.P0 j7 (.t rfl)) (U (.fa (PEv.gtr (.t rfl) (.const _)) (bn oQ)) (Af (CW.f rfl (Ai (Ac (Ae (I rfl (U (.P0 j7 (.t rfl)) (A3 (eC (.o rfl) (qC)) rfl (Qr _ _) ?_))))))))))))))))
 rintro _ w1 ⟨rfl,uw1⟩
 replace hW:=hW.up uw1
 refine I rfl (U (.xt rfl rfl) (U (.xt rfl rfl) (LW.A rfl (LW.A rfl (Am (Aa (I rfl (I rfl (U (.iX (.t rfl) (.t rfl) (by rw[Qn];have:=M0 (t.size:Int);omega)) (LW.A rfl (Ay (Af (Al (Fy rfl rfl rfl ⟨_,rfl,?_⟩))))))))))))))
 refine⟨?_,hW⟩
 rw[S7,Za,Ux]
theorem Sj(D:Wri)(bs:List UInt8)(w:World)(hD:(Dt 124 5 D (bs)).holds w):Ret prog 181 #[.pointer (some ⟨D.bd,0,none⟩)] w fun r w'=>r=.tuple #[]∧Stp (Dt 124 5 D (bs)) (Dt 124 5 ⟨D.bd,true,D.bf⟩ (bs)) w w':=by
 have hS:=Ny hD
 obtain⟨B,us,bf⟩:=D
 refine cT 20 func181 rfl (Ak ?_)
 cases hq0:us with
 |false=>
  subst hq0
  replace hS:Sep _ w w [A4 B #[.pointer none,bf] 124,Az 5 1 Nz bf bs]:=hS
  refine Aa (I rfl (U (.nc rfl) (U (.fB 0 rfl) (U (.lb rfl (hS.b0.Ad rfl)) (U (.tr (PEv.Je mf (.t rfl)) (rfl)) (Af (CW.v rfl (Aa (I rfl (I rfl (U (.yE (k:=1) mf underlying291 kQ (.t rfl) hS.b0 (by simp)) (U (.ext (.cu rfl) (Uo func229 rfl rfl kQ kQ _)) (U (.nJ (k:=2) underlying291 mf kQ (.t rfl) hS.b0 kQ) (U (.nc rfl) (U (.fB 0 rfl) (Cb (.store sizeOf119 (.t rfl) (.t rfl) rfl hS.b0 bQ) ?_))))))))))))))))
  intro w1 Nw1
  replace hS:=hS.D9 0 rfl (show Set_ _ w1 _ (#[.pointer (some ⟨B,0,none⟩),bf]) _ from Nw1)
  refine LW.nil (C1 rfl ⟨_,rfl,?_⟩)
  exact⟨rfl,Jh (rest:=[]) hS⟩
 |true=>
  subst hq0
  replace hS:Sep _ w w [A4 B #[.pointer (some ⟨B,0,none⟩),bf] 124,Az 5 1 Nz bf bs]:=hS
  refine Aa (I rfl (U (.nc rfl) (U (.fB 0 rfl) (U (.lb rfl (hS.b0.Ad rfl)) (U (.fa (PEv.Je mf (.t rfl)) (rfl)) (Af (CW.f rfl (Ae (I rfl (U (.nc rfl) (U (.fB 0 rfl) (U (.lb rfl (hS.b0.Ad rfl)) (I rfl (U (.fa (V5 (k:=2) mf kQ (.t rfl) (.t rfl)) (rfl)) (Af (CW.f rfl (Ai (C1 rfl ⟨_,rfl,?_⟩))))))))))))))))))
  exact⟨rfl,Jh (rest:=[]) hS⟩
theorem O7(t:ByteArray)(D:Wri)(bs:List UInt8)(w:World)(hD:(Dt 124 5 D (bs)).holds w)(hlen:bs.length+t.size≤140737488355328):Ret prog 113 #[.pointer (some ⟨D.bd,0,none⟩),.string t] w fun r w'=>r=.tuple #[vi (t.size:Int),.nilIface]∧∃bf,Stp (Dt 124 5 D (bs)) (Dt 124 5 ⟨D.bd,true,bf⟩ (bs++t.data.toList)) w w':=by
 have hS:=Sep.cons hD (fun _ h=>h) (Sep.start _ _) (by simp)
 refine cT 19 func113 rfl (Ae (Ay (Ay (Am (Aa (I rfl (A3 (eC (.o rfl) (wY)) rfl (Sj D bs _ (hS.get 0 rfl)) ?_)))))))
 rintro _ w1 ⟨rfl,uw1⟩
 replace hS:=hS.F9 0 rfl uw1
 refine Am ?_
 replace hS:=Sep.unfold (Bs:=[]) (rest:=[]) hS
 replace hS:Sep _ _ _ [A4 D.bd #[.pointer (some ⟨D.bd,0,none⟩),D.bf] 124,Az 5 1 Nz D.bf bs]:=hS
 refine Aa (I rfl (I rfl (U (.nc rfl) (U (.fB 1 rfl) (U (.lb rfl (hS.b0.Ad rfl)) (I rfl (Aq (.eD (i:=Tryz.t5) kl j7 kQ rfl rfl rfl (.t rfl) (.t rfl) (hS.own 1 rfl) oQ) rfl ?_)))))))
 intro v14 w2 Gw2
 replace hS:=hS.F9 1 rfl Gw2
 refine U (.nc rfl) (U (.fB 1 rfl) (Cb (.store sizeOf120 (.t rfl) (.t rfl) (hS.own 1 rfl).one hS.b0 bQ) ?_))
 intro w3 Nw3
 replace hS:=hS.D9 0 rfl (show Set_ _ w3 _ (#[.pointer (some ⟨D.bd,0,none⟩),v14]) _ from Nw3)
 refine Am (Aa (I rfl (U (.P0 j7 (.t rfl)) (LW.A rfl (Ay (Af (Al (Fy rfl rfl rfl ⟨_,rfl,?_⟩))))))))
 exact⟨rfl,v14,Jh (rest:=[]) hS⟩
theorem Z3(D:Wri)(bs:List UInt8)(w:World)(hD:(Dt 124 5 D (bs)).holds w)(hne:bs≠[])(hlen:bs.length≤1000000000):Ret prog 46 #[.pointer (some ⟨D.bd,0,none⟩)] w fun r w'=>r=.string ⟨bs.toArray⟩∧Fr (Dt 124 5 D (bs)).foot w w':=by
 have hS:=Ny hD
 obtain⟨B,us,bf⟩:=D
 obtain⟨g,cp,rfl,hcp⟩:∃g cp,bf=.slice (some ⟨g,0,none⟩) bs.length cp∧cp≠0:=by
   have h0:0<bs.length:=i9.2 hne
   obtain⟨_,⟨rfl,hn⟩|⟨g,cap,cur,rfl,_,_,hc,_⟩⟩:=Qg hD
   · omega
   exact⟨g,cap,rfl,by omega⟩
 replace hS:Sep _ w w [A4 B #[(⟨B,us,.slice (some ⟨g,0,none⟩) bs.length cp⟩:Wri).ad,.slice (some ⟨g,0,none⟩) bs.length cp] 124,Az 5 1 Nz (.slice (some ⟨g,0,none⟩) bs.length cp) bs]:=hS
 refine cT 14 func46 rfl (Ae (Ay (Am (Cz 10 kQ kQ kQ kQ kQ rfl rfl (J (.mv rfl) (J (.nc rfl) (J (.fB 1 rfl) (J (.lb rfl (hS.b0.Ad rfl)) (J (.eE hcp (.t rfl)) (J (.mv rfl) (J (.nc rfl) (J (.fB 1 rfl) (J (.lb rfl (hS.b0.Ad rfl)) (J (.Cn kl (.t rfl)) (HW.nil ?_)))))))))))))))
 intro w1 uw1
 replace hS:=hS.up uw1
 refine Aq (.eF underlying195 kQ (.t rfl) (.t rfl) (hS.own 1 rfl) hne oQ) rfl ?_
 rintro _ w2 ⟨rfl,hF⟩
 refine LW.A rfl (Af (Al (KW.q ?_)))
 exact⟨rfl,hS.fr.next hF (fun i hi=>.inl (Zb (.inr hi)))⟩
theorem Lt(b:Nat)(t:ByteArray)(D:Wri)(bs:List UInt8)(w:World)(hD:(Dt 124 5 D (bs)).holds w)(hb:D.bd=b)(hlen:bs.length+t.size≤140737488355328):Ret prog 113 #[.pointer (some ⟨b,0,none⟩),.string t] w fun r w'=>r=.tuple #[vi (t.size:Int),.nilIface]∧∃bf,Stp (Dt 124 5 D (bs)) (Dt 124 5 ⟨b,true,bf⟩ (bs++t.data.toList)) w w':=by subst hb;exact O7 t D bs w hD hlen
theorem oK(ad:Option Addr)(cp:Nat)(l:List Int)(D:Wri)(bs:List UInt8)(w:World)(hD:(Dt 124 5 D (bs)).holds w)(hE0:Els w ad 1 A6 l)(hne:∀B o,ad=some ⟨B,o,none⟩→¬(Dt 124 5 D (bs)).foot B)(hlen:bs.length+10*l.length≤1000000000):Ret prog 42 #[.pointer (some ⟨D.bd,0,none⟩),.slice ad l.length cp] w fun r w'=>r=.tuple #[]∧∃D',D'.bd=D.bd∧Stp (Dt 124 5 D (bs)) (Dt 124 5 D' (bs++Co l)) w w':=by
 obtain⟨w0,rfl,_⟩:=W0 w
 have hS:=Sep.cons hD (fun _ h=>h) (Sep.start _ _) (by simp)
 refine cT 25 func42 rfl (Ae (I rfl (U (.Cn ju (.t rfl)) (U (.move (.const _)) (Af (Ah (A5 (σ:=Nat×Wri) (fun s w=>(s.1≤l.length)∧(s.2.bd=D.bd)∧(Sep (Dt 124 5 D (bs)).foot w0 w [Dt 124 5 s.2 (bs++Co (l.take s.1))])) (fun s=>[(10,.eq (vi (s.1:Int)))]) ([(0,.eq _),(8,.eq _),(9,.eq _)]) (fun s=>l.length-s.1) (0,D) ?_ tQ ?_)))))))
 ·exact⟨au _,rfl,by simpa[Co]using hS⟩
 rintro⟨k,D1⟩ w1 ⟨hkk,hbd,hS⟩
 dsimp only at hkk hbd hS
 refine Ae (U (.l2 rfl rfl) (Am (CW.b rfl (fun h11=>?_) (fun h11=>?_))))
 ·refine Ai (Ac (Ak (Ah (Ak ?_))))
  have hE:=hE0.fr hS.fr hne
  have hkl:k<l.length:=by simp at h11;omega
  refine Aa ?_
  obtain⟨x,hx⟩:=An (xs:=l) (i:=k) oQ
  obtain⟨Bx,ox,ax,hcx⟩:=hE _ x hx
  refine U (.Ar ju jw (.t rfl) (.t rfl) oQ ax) (U (.lb rfl (hcx.nth (j:=0) rfl)) (LW.A rfl (Am (Aa (I rfl (A3 (eC (.o rfl) (qC)) rfl (Qr x _) ?_))))))
  rintro _ w2 ⟨rfl,uw2⟩
  replace hS:=hS.up uw2
  refine I rfl (U (.xt rfl rfl) (U (.xt rfl rfl) (LW.A rfl (LW.A rfl (Af (Aa (I rfl (U (.nc rfl) (U (.fB 0 rfl) (I rfl (A3 (eC (.u rfl rfl) (qD)) rfl (Lt D.bd _ D1 _ _ (hS.get 0 rfl) hbd (by rw[Qn,ah];have:=M0 x;have:=G6 (l.take k);have:=List.length_take_le k l;omega)) ?_)))))))))))
  rintro _ w3 ⟨rfl,bf,uw3⟩
  replace hS:=hS.F9 0 rfl uw3
  refine LW.nil (Aj (Ac (Aa (U (.ic rfl oQ) (I rfl (LW.nil (Av ?_)))))))
  exact⟨(k+1,⟨D.bd,true,bf⟩),⟨by omega,rfl,by rw[Y8 hx,←cx];exact hS⟩,tQ,by omega⟩
 refine A8 (Ab (Ab (Ao (C1 rfl ⟨_,rfl,?_⟩))))
 have hk2:l.take k=l:=fg (by simp at h11;omega)
 rw[hk2]at hS
 exact⟨rfl,D1,hbd,⟨hS.fr,hS.get 0 rfl,hS.foot 0 rfl⟩⟩
theorem kJ(b:Nat)(ad:Option Addr)(cp:Nat)(l:List Int)(D:Wri)(bs:List UInt8)(w:World)(hD:(Dt 124 5 D (bs)).holds w)(hb:D.bd=b)(hE0:Els w ad 1 A6 l)(hne:∀B o,ad=some ⟨B,o,none⟩→¬(Dt 124 5 D (bs)).foot B)(hlen:bs.length+10*l.length≤1000000000):Ret prog 42 #[.pointer (some ⟨b,0,none⟩),.slice ad l.length cp] w fun r w'=>r=.tuple #[]∧∃D',D'.bd=b∧Stp (Dt 124 5 D (bs)) (Dt 124 5 D' (bs++Co l)) w w':=by subst hb;exact oK ad cp l D bs w hD hE0 hne hlen
theorem Qs(b:Nat)(D:Wri)(bs:List UInt8)(w:World)(hD:(Dt 124 5 D (bs)).holds w)(hb:D.bd=b)(hne:bs≠[])(hlen:bs.length≤1000000000):Ret prog 46 #[.pointer (some ⟨b,0,none⟩)] w fun r w'=>r=.string ⟨bs.toArray⟩∧Fr (Dt 124 5 D (bs)).foot w w':=by subst hb;exact Z3 D bs w hD hne hlen
theorem kK(b:Bool)(w:World):Ret prog 135 #[.bool b] w fun r w'=>r=vi (I7 b)∧Up w w':=by
 have hW:=Up.refl w
 refine cT 4 func135 rfl (Ae (Ay (Am (Ae (I rfl (Af (CW.b rfl (fun h3=>?_) (fun h3=>?_))))))))
 ·refine Ae (Ay (Af (Al (Au (KW.q ?_)))))
  refine⟨?_,hW⟩
  simp[I7,h3]
 refine Ai (Ac (Ae (Ay (Af (Al (KW.q ?_))))))
 refine⟨?_,hW⟩
 simp[I7,h3]
theorem Oy(f:Fact)(ad:Option Addr)(k cp:Nat)(w:World):Ret prog 44 #[.agg f.cells,.slice ad k cp] w fun r w'=>(∃Ba Bb,r=.func (.func 114) #[] #[.pointer (some ⟨Ba,0,none⟩),.pointer (some ⟨Bb,0,none⟩)]∧Blk w' Ba #[.slice ad k cp] 128∧Blk w' Bb f.cells 33)∧Up w w':=by
 have hW:=Up.refl w
 refine cT 6 func44 rfl (Ae (Aq (.bA rfl) rfl ?_))
 rintro _ w1 ⟨B2,rfl,NB2⟩
 replace hW:=hW.up NB2.up
 have hB2:=NB2.blk
 refine Aq (.O3 (.t rfl) rfl) rfl ?_
 rintro _ w2 ⟨B3,rfl,NB3⟩
 replace hW:=hW.up NB3.up
 replace hB2:=hB2.up NB3.up
 have hB3:=NB3.blk
 refine Ay (Am (Aa (U (.makeFunc (.ct rfl (.cu rfl))) (LW.A rfl (Af (Al (KW.q ?_)))))))
 exact⟨⟨_,_,rfl,hB3,hB2⟩,hW⟩
theorem U2(X Y:Nat→Prop)(B3 B2:Nat)(ad:Option Addr)(cp:Nat)(l:List Fld)(f:Fact)(w:World)(hEX:∀B o,ad=some ⟨B,o,none⟩→¬X B)(hQX:¬X B3)(hFX:¬X B2)(hQ0:Blk w B3 #[.slice ad l.length cp] 128)(hF0:Blk w B2 f.cells 33)(hE0:Els w ad 3 Fld.cells l)(hlen:l.length≤1000)(hok:∀x∈l,E8 x.off=true):
   IterS prog 114 #[.pointer (some ⟨B3,0,none⟩),.pointer (some ⟨B2,0,none⟩)] A6 X Y (fun ys=>ys=Ec l f) (fun pre=>pre<+:Ec l f) (Ec l f).length w:=by
 refine IterS.of ?_
 intro lp J Jx w0 hUw _ hY hJ
 obtain⟨Bd,hBd⟩:∃Bd,Bd=w0.heap.size:=⟨_,rfl⟩
 rw[←hBd]at hJ hY
 have hQ:=hQ0.up hUw
 have hF:=hF0.up hUw
 have hE:=Els.up hE0 hUw
 refine cT 21 func114 rfl (Ae (U (.lb rfl (hQ.Ad rfl)) (U (.Cn j3 (.t rfl)) (U (.move (.const _)) (Af (Ah (CW.loop (σ:=Nat) (fun s w=>s≤l.length∧Jw Bd J ((Ec l f).take s) w∧Els w ad 3 Fld.cells l∧Blk w B3 #[.slice ad l.length cp] 128∧Blk w B2 f.cells 33) (fun s=>[(0,.eq (.func (.yield lp) #[] #[])),(1,.eq (.pointer (some ⟨B3,0,none⟩))),(2,.eq (.pointer (some ⟨B2,0,none⟩))),(6,.eq (.slice ad l.length cp)),(7,.eq (vi (l.length:Int))),(8,.eq (vi (s:Int)))]) (fun s=>l.length-s) 0 ?_ ?_ ?_)))))))
 ·exact⟨au _,hJ,hE,hQ,hF⟩
 ·exact tQ
 rintro k w1 ⟨hk,hJ,hE,hQ,hF⟩
 refine Ae (U (.l2 rfl rfl) (Am (CW.b rfl (fun h9=>?_) (fun h9=>?_))))
 ·refine Ai (Ac (Ak (Ah (Ak ?_))))
  have hkl:k<l.length:=by simp at h9;omega
  refine Aa ?_
  obtain⟨x,hx⟩:=An (xs:=l) (i:=k) oQ
  obtain⟨Bx,ox,ax,hcx⟩:=hE _ x hx
  refine U (.Ar j3 j5 (.t rfl) (.t rfl) oQ ax) (U (.lc rfl (hcx)) (Aq (.Bt jx) rfl ?_))
  rintro _ w2 ⟨B5,rfl,MB5⟩
  refine Cb (.Ca j5 rfl (.t rfl) (.t rfl) (Fld.one _) MB5.blk rfl) ?_
  intro w3 LB5
  have NB5:=MB5.set LB5
  replace hJ:=hJ.up NB5.up
  replace hE:=hE.up NB5.up
  replace hQ:=hQ.up NB5.up
  replace hF:=hF.up NB5.up
  replace hcx:=hcx.up NB5.up
  have hB5:=NB5.blk
  refine Am ?_
  have hox:=hok x (ae hx)
  refine Aa (I rfl (U (.fB 0 rfl) (U (.lb rfl (hB5.Ad rfl)) (A3 (Fa (.t rfl) (.cu rfl) (kG x.off hox)) rfl (cU x.off _ _ hox) ?_))))
  rintro _ w4 ⟨rfl,uw4⟩
  replace hJ:=hJ.up uw4
  replace hE:=hE.up uw4
  replace hQ:=hQ.up uw4
  replace hF:=hF.up uw4
  replace hcx:=hcx.up uw4
  replace hB5:=hB5.up uw4
  refine U (.nc rfl) (U (.lb rfl (hF.Ad (N4 hox))) (LW.y (.t rfl) (.cu rfl) rfl rfl (hY _ (Gk f x.off) _ hJ (by rw[cb,Mc];omega)) ?_))
  rintro _ w5 ⟨y,rfl,hcase⟩
  refine U (.n1 rfl) (Af (CW.b rfl (fun h19=>?_) (fun h19=>?_)))
  ·have hy:y=false:=by simpa using h19
   subst hy
   obtain⟨_,hJx⟩:=hcase.resolve_left (by simp)
   refine Al (A7 (Au (Au (A7 (Fm rfl ⟨_,rfl,?_⟩)))))
   exact .inr ⟨_,by rw[←Ow hx];exact List.take_prefix _ _,hJx⟩
  have hy:y=true:=by simpa using h19
  subst hy
  obtain⟨_,hJ2,hN⟩:=hcase.resolve_right (by simp)
  replace hE:=hE.kx hN hEX
  replace hQ:=hQ.kx hN hQX
  replace hF:=hF.kx hN hFX
  rw[←Ow hx]at hJ2
  refine Ai (Aj (Ac (Aa (U (.ic rfl oQ) (I rfl (LW.nil (Av ?_)))))))
  exact⟨k+1,⟨by omega,hJ2,hE,hQ,hF⟩,tQ,by omega⟩
 have hkk:k=l.length:=by simp at h9;omega
 refine A8 (Ab (Ab (Ao (C1 rfl ⟨_,rfl,?_⟩))))
 exact .inl ⟨_,rfl,by rw[hkk,←Mc l f,bt]at hJ;exact hJ.j⟩
theorem Z4(gf:Nat)(lb:Array Go.Value)(Hh:List Int)(Sp:List Int→Prop)(D:Wri)(bs:List UInt8)(w:World)(hD:(Dt 124 5 D (bs)).holds w)(en:∀args w,(callFunc gf args).run prog w=.ok (.enter gf args) w)(hit:∀W(X:Nat→Prop),Up w W→(∀i,X i→(Dt 124 5 D (bs)).foot i∨w.heap.size≤i)→IterS prog gf lb A6 X (fun _=>False) (fun ys=>ys=Hh) Sp Hh.length W)(hlen:bs.length+10*Hh.length≤1000000):Ret prog 43 #[.pointer (some ⟨D.bd,0,none⟩),.func (.func gf) #[] lb] w fun r w'=>r=.tuple #[]∧∃D',D'.bd=D.bd∧Stp (Dt 124 5 D (bs)) (Dt 124 5 D' (bs++Co Hh)) w w':=by
 have hW:=Up.refl w
 obtain⟨w0,rfl,_⟩:=W0 w
 have hU0:Stp (Dt 124 5 D (bs)) (Dt 124 5 D (bs)) w0 w0:=Stp.refl hD
 refine Et (n:=11) func43 rfl rfl rfl (Ae (Aq (.O3 (.t rfl) rfl) rfl ?_))
 rintro _ w1 ⟨B2,rfl,NB2⟩
 have eB2:=NB2.at_
 have zB2:=NB2.size
 replace hW:=hW.up NB2.up
 replace hU0:=hU0.up NB2.up
 have hB2:=NB2.blk
 refine Am (Aa (I rfl (Af (Ah ?_))))
 obtain⟨bq,hbq⟩:∃bq,bq=w1.heap.size:=⟨_,rfl⟩
 refine CW.rangeFunc (fun i=>(Dt 124 5 D (bs)).foot i∨bq≤i) (fun _=>False) (fun pre W=>Sz bq W∧∃D1:Wri,D1.bd=D.bd∧Blk W B2 #[.pointer (some ⟨D.bd,0,none⟩)] 118∧Stp (Dt 124 5 D (bs)) (Dt 124 5 D1 (bs++Co pre)) w1 W) (fun c pre W=>Sz bq W∧False) (fun x a' W=>Ag 11 [] ([(4,.eq (vi x)),(2,.eq (.pointer (some ⟨B2,0,none⟩)))]) a' W) (.t rfl) en (hit _ _ hW (fun i hi=>hi.imp id (fun h=>by omega))) (fun _=>rfl) rfl ?_ ?_ ?_ ?_ ?_ ?_ ?_ ?_
 ·rw[←hbq]
  intro pre W W' row hs hg hr
  obtain⟨hZ,D1,hbd,hB2,hUp⟩:=hs
  exact⟨hZ.ko (Ko.grown hg hr),D1,hbd,hB2.ko (Ko.grown hg hr),hUp.ko (Ko.grown hg hr) oQ⟩
 ·rw[←hbq]
  intro c pre W W' row hs hg hr
  obtain⟨hZ,hF⟩:=hs
  exact⟨hZ.ko (Ko.grown hg hr),hF⟩
 ·intro x a' u W W' row hs hg hr
  exact hs.world rfl _
 ·exact⟨eo hbq,_,rfl,hB2,by simpa[Co]using Stp.refl hU0.holds⟩
 ·rw[←hbq]
  intro lp pre x w2 K hs hk a ha
  obtain⟨hZ,D1,hbd,hB2,hUp⟩:=hs
  have zq:=hZ.le
  have hK:=Kf.refl bq w2
  have hN:=Kx.refl bq (fun i=>(Dt 124 5 D (bs)).foot i∨bq≤i) (fun _=>False) w2
  revert a
  refine G1 (p:=6) rfl (Aa (LW.A rfl (LW.nil ?_)))
  exact fun a ha=>hk a _ hK hN ⟨hZ,D1,hbd,hB2,hUp⟩ (ha.sub tQ)
 ·rw[←hbq]
  intro lp pre x a' w3 hs hx hlt
  obtain⟨hZ,D1,hbd,hB2,hUp⟩:=hs
  have ha:=hx
  have zq:=hZ.le
  have hK:=Kf.refl bq w3
  have hN:=Kx.refl bq (fun i=>(Dt 124 5 D (bs)).foot i∨bq≤i) (fun _=>False) w3
  refine(show CW (some lp) 8 _ 11 [] _ (ownPostG bq (Kx bq (fun i=>(Dt 124 5 D (bs)).foot i∨bq≤i) (fun _=>False)) _ _ (pre++[x]) w3) ([(4,.eq (vi x)),(2,.eq (.pointer (some ⟨B2,0,none⟩)))]) w3 from ?_) a' ha
  refine Ah (Aa (U (.lb rfl (hB2.Ad rfl)) (I rfl (Aq (.buildSlice (xs:=[x]) (enc:=A6) (mk:=vi) ju jw j2 rfl cQ (fun _=>rfl) (fun _=>rfl) (.cu rfl) rfl) rfl ?_))))
  rintro _ w4 ⟨B9,cB9,rfl,NB9,yB9,xB9⟩
  replace hZ:=hZ.up NB9.up
  replace hB2:=hB2.up NB9.up
  replace hUp:=hUp.up NB9.up
  replace hK:=hK.up NB9.up
  replace hN:=hN.up NB9.up
  have hB9:=NB9.blk
  have hE9:=xB9
  refine A3 (eC (.u rfl rfl) (rQ)) rfl (kJ D.bd _ _ [x] D1 _ _ hUp.holds hbd hE9 (fun B o e=>by cases e;exact Ig hUp.holds hB9 rfl rfl) (by rw[ah];have:=G6 pre;simp;omega)) ?_
  rintro _ w5 ⟨rfl,D2,hb2,hP2⟩
  have hWc:=Zc hUp.holds
  have hXs:∀i,(Dt 124 5 D1 (bs++Co pre)).foot i→((Dt 124 5 D (bs)).foot i∨bq≤i):=fun i hi=>(hUp.sub i hi).imp id (fun h=>by omega)
  replace hN:=hN.trans (Kx.fr (bq:=bq) (Y:=fun _=>False) hP2.fr hXs hWc)
  replace hK:=hK.trans (Kf.fr (bq:=bq) hP2.fr hWc)
  replace hB2:=hB2.fr hP2.fr (Ig hUp.holds hB2 rfl rfl)
  replace hUp:=hUp.trans hP2
  rw[cx,dZ,←Y9]at hUp
  have hZ2:Sz bq w5:=br hZ.le hP2.fr.size
  refine LW.nil (Aj ?_)
  exact fun a ha=>⟨hK,hN,hZ2,D2,hb2,hB2,hUp⟩
 ·intro D ys w6 hDb hS hs hD
  rw[←hbq]at hDb
  obtain⟨hZ,D1,hbd,hB2,hUp⟩:=hs
  replace hD:Ob w6 D (.deferred (some [])):=hD
  refine Aj (K1 hD rfl ?_)
  replace hZ:=hZ.ko (Ko.putObj (.deferred none) hD rfl hDb)
  replace hB2:=hB2.ko (Ko.putObj (.deferred none) hD rfl hDb)
  replace hUp:=hUp.ko (Ko.putObj (.deferred none) hD rfl hDb) oQ
  refine Fm rfl ⟨_,rfl,?_⟩
  subst hS
  exact⟨rfl,D1,hbd,hU0.trans hUp⟩
 intro D c pre w7 hDb hpre hs hD
 rw[←hbq]at hDb
 obtain⟨hZ,hF⟩:=hs
 replace hD:Ob w7 D (.deferred (some [])):=hD
 exact hF.elim
theorem Tm(b:Nat)(Ba Bb:Nat)(ad:Option Addr)(cp:Nat)(l:List Fld)(f:Fact)(D:Wri)(bs:List UInt8)(w:World)(hD:(Dt 124 5 D (bs)).holds w)(hb:D.bd=b)(hQ:Blk w Ba #[.slice ad l.length cp] 128)(hF:Blk w Bb f.cells 33)(hE:Els w ad 3 Fld.cells l)(hT:∀B o,ad=some ⟨B,o,none⟩→B<w.heap.size∧¬(Dt 124 5 D (bs)).foot B)(hlen:bs.length+10*l.length≤10000)(hok:∀x∈l,E8 x.off=true):
   Ret prog 43 #[.pointer (some ⟨b,0,none⟩),.func (.func 114) #[] #[.pointer (some ⟨Ba,0,none⟩),.pointer (some ⟨Bb,0,none⟩)]] w fun r w'=>r=.tuple #[]∧∃D',D'.bd=b∧Stp (Dt 124 5 D (bs)) (Dt 124 5 D' (bs++Co (Ec l f))) w w':=by
 subst hb
 refine Z4 114 _ (Ec l f) (fun pre=>pre<+:Ec l f) D bs w hD vC ?_ (by rw[Mc];omega)
 intro W X hU hX
 refine U2 X (fun _=>False) Ba Bb ad cp l f W (fun B o e hx=>?_) (fun hx=>?_) (fun hx=>?_) (hQ.up hU) (hF.up hU) (Els.up hE hU) oQ hok
 · obtain⟨h1,h2⟩:=hT B o e
   exact(hX B hx).elim h2 (fun h=>by omega)
 · have:=hQ.lt
   exact(hX Ba hx).elim (Ig hD hQ rfl rfl) (fun h=>by omega)
 have:=hF.lt
 exact(hX Bb hx).elim (Ig hD hF rfl rfl) (fun h=>by omega)
theorem U3(f:Fact)(w:World):Ret prog 17 #[.agg f.cells] w fun r w'=>r=.string ⟨(Cf f).toArray⟩∧Up w w':=by
 obtain⟨w0,rfl,hS⟩:=W0 w
 refine cT 27 func17 rfl (Ae (Aq (.bA rfl) rfl ?_))
 rintro _ w1 ⟨B1,rfl,NB1⟩
 replace hS:=hS.Cc NB1
 refine Ay (Am (Ak ?_))
 cases hq1:Bi f with
 |true=>
  have hkn:=Ej hq1
  refine Aa (U (.lc rfl (hS.b0.agg)) (A3 (eC (.o rfl) (mZ)) rfl (Lb f _) ?_))
  rintro _ w2 ⟨rfl,uw2⟩
  replace hS:=hS.up uw2
  refine U (.fa (PEv.n1 rfl) (by rw[hq1];rfl)) (Af (CW.f rfl (Ai (Ac (Ae (U (.build (cs:=#[.pointer none,.slice none 0 0]) underlying124 zeroValue124 J5 .nil rfl) (Aq (.bA rfl) rfl ?_)))))))
  rintro _ w3 ⟨B8,rfl,NB8⟩
  replace hS:=hS.Cc NB8
  refine LW.A rfl (Am ?_)
  replace hS:=bS (Bs:=[_]) (e:=5) hS
  have hA0:=hS.get 1 rfl
  refine Aa (I rfl (U (.fB 0 rfl) (U (.lb rfl (hS.b0.Ad rfl)) (Aq (.buildSlice (xs:=[f.Kind]) (enc:=A6) (mk:=vi) ju jw j2 rfl cQ (fun _=>rfl) (fun _=>rfl) (.cu rfl) rfl) rfl ?_))))
  rintro _ w4 ⟨B12,cB12,rfl,NB12,yB12,xB12⟩
  have eB12:=NB12.at_
  replace hS:=hS.up NB12.up
  have hE12:=xB12
  refine A3 (eC (.u rfl rfl) (rQ)) rfl (kJ B8 _ _ [f.Kind] ⟨B8,false,.slice none 0 0⟩ _ _ (hS.get 1 rfl) rfl hE12 (fun B o e=>by cases e;intro hf;have:=Asr.lt _ _ hA0 _ hf;omega) (by simp)) ?_
  rintro _ w5 ⟨rfl,D1,hb1,uw5⟩
  replace hS:=hS.F9 1 rfl uw5
  refine Am (Pf 8 [.eq (.pointer (some ⟨B8,0,none⟩)),.eq (.agg f.cells),.pred ShM,.eq (.pointer (some ⟨B1,0,none⟩)),.eq (vi f.Kind),.pred (shOf f),.pred (fun v w=>SlT 184 w v 3 Fld.cells (Eb f.Kind)),.pred (fun v w=>∃Ba Bb ad cp,v=.func (.func 114) #[] #[.pointer (some ⟨Ba,0,none⟩),.pointer (some ⟨Bb,0,none⟩)]∧Blk w Ba #[.slice ad (Eb f.Kind).length cp] 128∧Blk w Bb f.cells 33∧SlT 184 w (.slice ad (Eb f.Kind).length cp) 3 Fld.cells (Eb f.Kind))] [14,21] kQ rfl kQ kQ kQ kQ kQ kQ kQ ⟨ml,ml,PhU.pred fun _ _ _ h u=>ShM.C8 h u.C8,ml,ml,PhU.pred fun _ _ _ h u=>ShV.C8 h u.C8,PhU.pred fun _ _ _ h u=>SlT.G0 h u.G0,PhU.pred fun _ _ _ h u=>let⟨Ba,Bb,ad,cp,e,h1,h2,h3⟩:=h;⟨Ba,Bb,ad,cp,e,h1.up u,h2.up u,SlT.G0 h3 u.G0⟩,trivial⟩ ?_ ?_)
  ·intro W hU0
   have hU:=(Up.drew w5).trans hU0
   refine aC ⟨rfl,TU.p (.mv rfl) rfl⟩ (aC ⟨rfl,TU.p (.lc rfl ((hS.b0.up hU).agg)) rfl⟩ (aC ⟨rfl,TU.c (eC .nil (nA)) (Jp _) (fun v W1 h=>let⟨b,e,m,u⟩:=h;⟨u,b,e,m⟩)⟩ (aC ⟨rfl,TU.p (.fB 0 rfl) rfl⟩ (aC ⟨rfl,TU.p (.lb rfl ((hS.b0.up hU).Ad rfl)) rfl⟩ (aC ⟨rfl,TU.open (d:=16) rfl (by rintro _ ⟨b,rfl,kv,hI,hV,hK⟩;obtain⟨⟨k0,sv⟩,hkv,e0⟩:=bj.1 ((hK f.Kind).2 hkn);cases e0;exact TU.p (.Hx (ok:=false) me jy (.t rfl) (.t rfl) hI hkv) (hV _ _ hkv))⟩ (aC ⟨rfl,TU.open (d:=19) rfl (by rintro _ ⟨v1,v2,rfl,h1,h2⟩;exact TU.p (.Y5 (off:=1) kj rfl rfl isAgg128 (.t rfl) rfl) h2)⟩ (aC ⟨rfl,TU.open (d:=20) rfl (by rintro _ ⟨⟨ad,cp,rfl,hE⟩,hT⟩;exact TU.c (eC (.u rfl rfl) (uN)) (Oy f ad _ cp _) (fun v W1 h=>let⟨⟨Ba,Bb,e,h1,h2⟩,u⟩:=h;⟨u,Ba,Bb,ad,cp,e,h1,h2,SlT.G0 ⟨⟨ad,cp,rfl,hE⟩,hT⟩ u.G0⟩))⟩ ?_)))))))
   exact allL.nil
  intro w6 g hU0 hg
  have hU:=(Up.drew w5).trans hU0
  replace hS:=hS.up hU
  have e14:g 14=.pointer (some ⟨B8,0,none⟩):=hg 0 _ 14 cQ rfl rfl
  obtain⟨Ba,Bb,ad,cp2,e21,hBa,hBb,⟨ad1,cp1,e1,hE⟩,hT⟩:=hg 7 _ 21 cQ rfl rfl
  cases e1
  change LW _ _ _ _ _ _ _ _ ((14,.eq (g 14))::(21,.eq (g 21))::_) _
  rw[e14,e21]
  refine A3 (eC (.u rfl rfl) (uL)) rfl (Tm B8 Ba Bb ad cp2 _ f D1 _ _ (hS.get 1 rfl) hb1 hBa hBb hE (fun B o e=>by obtain⟨cs,x,hc⟩:=hT B o _ _ (by rw[e]);exact⟨lt_of_block hc,Ig (hS.get 1 rfl) hc rfl rfl⟩) (nZ f) (nY f.Kind)) ?_
  rintro _ w7 ⟨rfl,D2,hb2,uw7⟩
  replace hS:=hS.F9 1 rfl uw7
  rw[df,←Tj]at hS
  have hKL:[f.Kind]++Ec (Eb f.Kind) f=M8 f:=rfl
  rw[hKL]at hS
  refine Am (Aa (I rfl (U (.nc rfl) (U (.fB 0 rfl) (A3 (eC (.o rfl) (rR)) rfl (Qs B8 D2 _ _ (hS.get 1 rfl) hb2 (cJ hq1) (oA f)) ?_)))))
  rintro _ w8 ⟨rfl,hF⟩
  refine LW.A rfl (Af (Al (KW.q ?_)))
  rw[Cf,ap hq1]
  exact⟨rfl,(hS.fr.next hF (hS.foot 1 rfl)).nD (fun _ h=>h)⟩
 |false=>
  refine Aa (U (.lc rfl (hS.b0.agg)) (A3 (eC (.o rfl) (mZ)) rfl (Lb f _) ?_))
  rintro _ w9 ⟨rfl,uw9⟩
  replace hS:=hS.up uw9
  refine U (.tr (PEv.n1 rfl) (by rw[hq1];rfl)) (Af (CW.v rfl (Ae (Ay (Af (Al (Au (KW.q ?_))))))))
  rw[Cf,am (by rw[hq1];exact b7)]
  exact⟨rfl,hS.Cl⟩
theorem Qt(f:Fact)(w:World):Ret prog 47 #[.agg f.cells] w fun r w'=>r=.tuple #[.string ⟨(Qo f).toArray⟩,vi (Ox f)]∧Up w w':=by
 obtain⟨w0,rfl,hS⟩:=W0 w
 refine cT 52 func47 rfl (Ae (Aq (.bA rfl) rfl ?_))
 rintro _ w1 ⟨B1,rfl,NB1⟩
 have eB1:=NB1.at_
 have zB1:=NB1.size
 replace hS:=hS.Cc NB1
 refine Ay (Ay (Am (Ak ?_)))
 cases hq1:Bi f with
 |true=>
  have hkn:=Ej hq1
  refine Aa (U (.lc rfl (hS.b0.agg)) (A3 (eC (.o rfl) (mZ)) rfl (Lb f _) ?_))
  rintro _ w2 ⟨rfl,uw2⟩
  have zw2:=uw2.size
  replace hS:=hS.up uw2
  refine U (.fa (PEv.n1 rfl) (by rw[hq1];rfl)) (Af (CW.f rfl (Ai (Ac (Ak ?_)))))
  have hB1T:=hS.blk 0 rfl
  have hU0:=hS.Cl
  refine CW.box 6 4 5 3 4 14 #[.slice none 0 0,.slice none 0 0,.nilFunc,.bool false] [.pred ShM,.eq (.pointer (some ⟨B1,0,none⟩)),.eq (vi f.Kind),.pred (shOf f),.pred fun v _=>∃B,v=.pointer (some ⟨B,0,none⟩),.eq undef] [] kc sizeOf130 kQ rfl kQ kQ kQ kQ kQ kQ kQ rfl rfl ⟨_,_,_,rfl⟩ _ rfl ⟨_,_,_,rfl⟩ ⟨PhT.pred fun _ _ _ h u=>ShM.C8 h u,mp,mp,PhT.pred fun _ _ _ h u=>ShV.C8 h u,PhT.pred fun _ _ _ h _=>h,mp,trivial⟩ rfl (fun v W h=>shOf.agg h) (fun B W=>⟨B,rfl⟩) ?_ ?_
  ·intro W hK0
   have hK:=(Up.drew w2).C8.trans hK0
   have hB1W:=Blk.C8 hB1T (T:=130) rfl hK
   refine aC (.inr ⟨rfl,TU.c (eC .nil (nA)) (Jp _) (fun v W1 h=>let⟨b,e,m,u⟩:=h;⟨u,b,e,m⟩)⟩) (aC (.inr ⟨rfl,TU.p (.fB 0 rfl) rfl⟩) (aC (.inr ⟨rfl,TU.p (.lb rfl (hB1W.Ad rfl)) rfl⟩) (aC (.inr ⟨rfl,TU.open (d:=11) rfl (by rintro _ ⟨b,rfl,kv,hI,hV,hK⟩;obtain⟨⟨k0,sv⟩,hkv,e0⟩:=bj.1 ((hK f.Kind).2 hkn);cases e0;exact TU.p (.Hx (ok:=false) me jy (.t rfl) (.t rfl) hI hkv) (hV _ _ hkv))⟩) (aC (.inl (.inl rfl)) (aC (.inl (.inr rfl)) ?_)))))
   exact allL.nil
  intro wT B4 g hU hBn hB4 hg
  have hUT:=(Up.drew _).trans hU
  obtain⟨v1,v2,e14,hs1,hs2⟩:=hg 3 _ 14 cQ rfl rfl
  rw[e14]at hB4
  obtain⟨⟨ad,cp,rfl,hE1⟩,hT0⟩:=hs1
  obtain⟨⟨ad2,cp2,rfl,hE2⟩,_⟩:=hs2
  replace hB4:Blk wT B4 #[.slice ad (fieldsOf f.Kind).length cp,.slice ad2 (Eb f.Kind).length cp2,.func (.func (E0 (Gr f.Kind))) #[] #[],.bool (Gg f.Kind)] 130:=hB4
  have hB1X:=hB1T.up hUT
  replace hU0:=hU0.trans hUT
  have hB14:B1≠B4:=fun e=>by have:=hB1T.lt;have:=(Up.drew w2).size;omega
  have zB4:w0.heap.size≤B4:=by have:=hS.size;have:=(Up.drew w2).size;omega
  have hE0:ElT wT ad 184 3 Fld.cells (fieldsOf f.Kind):=⟨hE1,fun B o e=>hT0 B o _ _ (by rw[e])⟩
  replace hS:Wx.Sep no w0 wT [A4 B1 f.cells 33,A4 B4 #[.slice ad (fieldsOf f.Kind).length cp,.slice ad2 (Eb f.Kind).length cp2,.func (.func (E0 (Gr f.Kind))) #[] #[],.bool (Gg f.Kind)] 130]:=⟨hU0.fr _,fun A hA=>by simp only[bg,cm,db]at hA;rcases hA with rfl|rfl;exact⟨hB1X,hS.foot 0 rfl⟩;exact⟨hB4,fun i(e:i=B4)=>.inr oQ⟩,List.Pairwise.cons (fun A hA i(e1:i=B1)=>by simp only[bh]at hA;subst hA;exact fun(e2:i=B4)=>hB14 (e1.symm.trans e2)) (fd _ _)⟩
  refine Am (Aa (U (.build (cs:=#[.pointer none,.slice none 0 0]) underlying124 zeroValue124 J5 .nil rfl) (Aq (.bA rfl) rfl ?_)))
  rintro _ w3 ⟨B16,rfl,NB16⟩
  replace hE0:=hE0.up NB16.up
  replace hS:=hS.Cc NB16
  refine LW.A rfl (Am ?_)
  replace hS:=bS (Bs:=[_,_]) (e:=5) hS
  refine Pf 11 [.eq (.pointer (some ⟨B16,0,none⟩)),.eq (.pointer (some ⟨B1,0,none⟩)),.eq (vi f.Kind),.eq (.pointer (some ⟨B1,2,none⟩)),.eq (vi f.Version),.eq (.pointer (some ⟨B1,3,none⟩)),.eq (vi f.Day),.eq (.pointer (some ⟨B1,4,none⟩)),.eq (.bool f.Gone),.eq (vi (I7 f.Gone)),.pred (fun v w=>SlT 3 w v 1 A6 [f.Kind,f.Version,f.Day,I7 f.Gone])] [17,27] kQ rfl kQ kQ kQ kQ kQ kQ kQ ⟨ml,ml,ml,ml,ml,ml,ml,ml,ml,ml,PhU.pred fun _ _ _ h u=>SlT.G0 h u.G0,trivial⟩ ?_ ?_
  ·intro W hU0
   have hU:=(Up.drew w3).trans hU0
   refine aC ⟨rfl,TU.p (.mv rfl) rfl⟩ (aC ⟨rfl,TU.p (.fB 0 rfl) rfl⟩ (aC ⟨rfl,TU.p (.lb rfl ((hS.b0.up hU).Ad rfl)) rfl⟩ (aC ⟨rfl,TU.p (.fB 2 rfl) rfl⟩ (aC ⟨rfl,TU.p (.lb rfl ((hS.b0.up hU).Ad rfl)) rfl⟩ (aC ⟨rfl,TU.p (.fB 3 rfl) rfl⟩ (aC ⟨rfl,TU.p (.lb rfl ((hS.b0.up hU).Ad rfl)) rfl⟩ (aC ⟨rfl,TU.p (.fB 4 rfl) rfl⟩ (aC ⟨rfl,TU.p (.lb rfl ((hS.b0.up hU).Ad rfl)) rfl⟩ (aC ⟨rfl,TU.c (eC (.o rfl) (vT)) (kK f.Gone _) sQ⟩ (aC ⟨rfl,TU.r (REv.buildSlice (xs:=[f.Kind,f.Version,f.Day,I7 f.Gone]) (enc:=A6) (mk:=vi) ju jw j2 rfl cQ (fun _=>rfl) (fun _=>rfl) (.ct rfl (.ct rfl (.ct rfl (.cu rfl)))) rfl) (by rintro _ W1 ⟨B,c,rfl,N,y,x⟩;exact⟨N.up,SlT.lit ⟨B,c,rfl,N,y,x⟩⟩)⟩ ?_))))))))))
   exact allL.nil
  intro w4 g hU0 hg
  have hU:=(Up.drew w3).trans hU0
  replace hS:=hS.up hU
  replace hE0:=hE0.up hU
  have e17:g 17=.pointer (some ⟨B16,0,none⟩):=hg 0 _ 17 cQ rfl rfl
  obtain⟨⟨ad3,cp3,e27,hE27⟩,hT27⟩:=hg 10 _ 27 cQ rfl rfl
  change LW _ _ _ _ _ _ _ _ ((17,.eq (g 17))::(27,.eq (g 27))::_) _
  rw[e17,e27]
  have hA0:=hS.get 2 rfl
  refine A3 (eC (.u rfl rfl) (rQ)) rfl (kJ B16 ad3 cp3 [f.Kind,f.Version,f.Day,I7 f.Gone] ⟨B16,false,.slice none 0 0⟩ _ _ (hS.get 2 rfl) rfl hE27 (fun B o e=>by obtain⟨cs,x,hc⟩:=hT27 B o _ _ (by rw[e27,e]);exact Ig hA0 hc rfl rfl) (by simp)) ?_
  rintro _ w5 ⟨rfl,D1,hb1,uw5⟩
  replace hS:=hS.F9 2 rfl uw5
  replace hE0:=hE0.fr uw5.fr (fun B cs x hc=>Ig hA0 hc rfl rfl)
  refine Am (Aa (I rfl (U (.lc rfl (hS.b0.agg)) (U (.fB 0 rfl) (U (.lb rfl (hS.b1.Ad rfl)) (A3 (eC (.u rfl rfl) (uN)) rfl (Oy f ad _ cp _) ?_))))))
  rintro _ w6 ⟨⟨Ba,Bb,rfl,hBa,hBb⟩,uw6⟩
  replace hS:=hS.up uw6
  replace hE0:=hE0.up uw6
  refine A3 (eC (.u rfl rfl) (uL)) rfl (Tm B16 Ba Bb ad cp _ f D1 _ _ (hS.get 2 rfl) hb1 hBa hBb hE0.els (fun B o e=>by obtain⟨cs,x,hc⟩:=hE0.ty B o e;exact⟨lt_of_block hc,Ig (hS.get 2 rfl) hc rfl rfl⟩) (oB f) (Ti f.Kind)) ?_
  rintro _ w7 ⟨rfl,D2,hb2,uw7⟩
  replace hS:=hS.F9 2 rfl uw7
  rw[df,←Tj]at hS
  have hKL:[f.Kind,f.Version,f.Day,I7 f.Gone]++Ec (fieldsOf f.Kind) f=N5 f:=rfl
  rw[hKL]at hS
  refine Am (Ae (U (.fB 3 rfl) (U (.lb rfl (hS.b1.Ad rfl)) (Af (CW.b rfl (fun h36=>?_) (fun h36=>?_))))))
  ·replace h36:=dQ h36
   refine Ae (U (.fB 18 rfl) (U (.lb rfl (hS.b0.Ad rfl)) (A3 (eC (.o rfl) (vU)) rfl (Si f.Text _ (by have:=Md hq1;omega)) ?_)))
   rintro _ w8 ⟨rfl,uw8⟩
   replace hS:=hS.up uw8
   refine I rfl (U (.xt rfl rfl) (U (.xt rfl rfl) (LW.A rfl (LW.A rfl (Af (Aa (I rfl (U (.nc rfl) (U (.fB 0 rfl) (I rfl (A3 (eC (.u rfl rfl) (qD)) rfl (Lt B16 _ D2 _ _ (hS.get 2 rfl) hb2 (by rw[Qn];have:=Wp f.Text.data.toList;rw[Ux]at this;have:=Md hq1;have:=jV f;omega)) ?_)))))))))))
   rintro _ w9 ⟨rfl,bf,uw9⟩
   replace hS:=hS.F9 2 rfl uw9
   refine Am ?_
   obtain⟨D3,hb3,hS3⟩:∃D3:Wri,D3.bd=B16∧Wx.Sep no w0 w9 [A4 B1 f.cells 33,A4 B4 #[.slice ad (fieldsOf f.Kind).length cp,.slice ad2 (Eb f.Kind).length cp2,.func (.func (E0 (Gr f.Kind))) #[] #[],.bool (Gg f.Kind)] 130,Dt 124 5 D3 (Hq f)]:=by exact⟨⟨B16,true,bf⟩,rfl,by rw[←eY (be h36)];exact hS⟩
   replace hS:=hS3
   refine Aa (I rfl (U (.nc rfl) (U (.fB 0 rfl) (A3 (eC (.o rfl) (rR)) rfl (Qs B16 D3 _ _ (hS.get 2 rfl) hb3 (cK hq1) (by have:=cM hq1;omega)) ?_))))
   rintro _ w10 ⟨rfl,hF⟩
   refine LW.A rfl (Ay (Af (Al (Fy rfl rfl rfl ⟨_,rfl,?_⟩))))
   rw[Qo,Ox,ap hq1,ap hq1]
   exact⟨rfl,(hS.fr.next hF (hS.foot 2 rfl)).nD (fun _ h=>h)⟩
  replace h36:=dQ h36
  refine Ai (Ac (Ak ?_))
  obtain⟨D3,hb3,hS3⟩:∃D3:Wri,D3.bd=B16∧Wx.Sep no w0 w7 [A4 B1 f.cells 33,A4 B4 #[.slice ad (fieldsOf f.Kind).length cp,.slice ad2 (Eb f.Kind).length cp2,.func (.func (E0 (Gr f.Kind))) #[] #[],.bool (Gg f.Kind)] 130,Dt 124 5 D3 (Hq f)]:=by exact⟨D2,hb2,by rw[←oC (bn h36)];exact hS⟩
  replace hS:=hS3
  refine Aa (I rfl (U (.nc rfl) (U (.fB 0 rfl) (A3 (eC (.o rfl) (rR)) rfl (Qs B16 D3 _ _ (hS.get 2 rfl) hb3 (cK hq1) (by have:=cM hq1;omega)) ?_))))
  rintro _ w11 ⟨rfl,hF⟩
  refine LW.A rfl (Ay (Af (Al (Fy rfl rfl rfl ⟨_,rfl,?_⟩))))
  rw[Qo,Ox,ap hq1,ap hq1]
  exact⟨rfl,(hS.fr.next hF (hS.foot 2 rfl)).nD (fun _ h=>h)⟩
 |false=>
  refine Aa (U (.lc rfl (hS.b0.agg)) (A3 (eC (.o rfl) (mZ)) rfl (Lb f _) ?_))
  rintro _ w12 ⟨rfl,uw12⟩
  replace hS:=hS.up uw12
  refine U (.tr (PEv.n1 rfl) (by rw[hq1];rfl)) (Af (CW.v rfl (Ae (Ay (Ay (Af (Al (Au (Fy rfl rfl rfl ⟨_,rfl,?_⟩)))))))))
  rw[Qo,Ox,am (by rw[hq1];exact b7),am (by rw[hq1];exact b7)]
  exact⟨rfl,hS.Cl⟩
theorem M9(a b:ByteArray)(w:World):Ret prog 137 #[.string a,.string b] w fun r w'=>r=vi (Go.Lib.compareBytes a.data.toList b.data.toList)∧Up w w':=by
 have hW:=Up.refl w
 refine cT 8 func137 rfl (Ae (Ay (Am (Aa (I rfl (I rfl (U (.ext (.ct rfl (.cu rfl)) (R8 func184 rfl rfl kQ kQ _ _)) (LW.A rfl (Af (Al (KW.q ?_)))))))))))
 exact⟨rfl,hW⟩
theorem W9(a b:ByteArray)(w:World):Ret prog 48 #[.string a,.string b] w fun r w'=>r=vi (Go.Lib.compareBytes a.data.toList b.data.toList)∧Up w w':=by
 have hW:=Up.refl w
 refine cT 8 func48 rfl (Ae (Ay (Am (Aa (I rfl (I rfl (A3 (eC (.u rfl rfl) (vV)) rfl (M9 a b _) ?_)))))))
 rintro _ w1 ⟨rfl,uw1⟩
 replace hW:=hW.up uw1
 refine LW.A rfl (Af (Al (KW.q ?_)))
 exact⟨rfl,hW⟩
theorem U4(a b:Fact)(w:World):Ret prog 18 #[.agg a.cells,.agg b.cells] w fun r w'=>r=.bool (Dx a b)∧Up w w':=by
 have hW:=Up.refl w
 refine cT 44 func18 rfl (Ae (Aq (.bA rfl) rfl ?_))
 rintro _ w1 ⟨B2,rfl,NB2⟩
 replace hW:=hW.up NB2.up
 have hB2:=NB2.blk
 refine Aq (.bA rfl) rfl ?_
 rintro _ w2 ⟨B3,rfl,NB3⟩
 replace hW:=hW.up NB3.up
 replace hB2:=hB2.up NB3.up
 have hB3:=NB3.blk
 refine Ay (Am (Aa (U (.lc rfl (hB2.agg)) (A3 (eC (.o rfl) (uO)) rfl (Qt a _) ?_))))
 rintro _ w3 ⟨rfl,uw3⟩
 replace hW:=hW.up uw3
 replace hB2:=hB2.up uw3
 replace hB3:=hB3.up uw3
 refine I rfl (U (.xt rfl rfl) (U (.xt rfl rfl) (LW.A rfl (LW.A rfl (Am (Aa (U (.lc rfl (hB3.agg)) (A3 (eC (.o rfl) (uO)) rfl (Qt b _) ?_))))))))
 rintro _ w4 ⟨rfl,uw4⟩
 replace hW:=hW.up uw4
 replace hB2:=hB2.up uw4
 replace hB3:=hB3.up uw4
 refine I rfl (U (.xt rfl rfl) (U (.xt rfl rfl) (LW.A rfl (LW.A rfl (Am (Ah (Ak (Ak ?_))))))))
 cases hq3:Bi a with
 |false=>
  refine Aa (I rfl (U (.tr (PEv.neq (.t rfl) (.const _)) (by rw[Ox,am (by rw[hq3];exact b7)];rfl)) (LW.A rfl (Af (CW.v rfl (Ai (Ac (CW.v rfl (Ae (Ay (Af (Al (A7 (Au (KW.q ?_)))))))))))))))
  refine⟨aq Go.Value.bool ?_,hW⟩
  exact Wr (by rw[hq3];rfl)
 |true=>
  refine Aa (I rfl (U (.fa (PEv.neq (.t rfl) (.const _)) (by rw[Ox,ap hq3];rfl)) (LW.A rfl (Af (CW.f rfl (Ak ?_))))))
  cases hq4:Bi b with
  |false=>
   refine Aa (I rfl (U (.tr (PEv.neq (.t rfl) (.const _)) (by rw[Ox,am (by rw[hq4];exact b7)];rfl)) (LW.A rfl (Af (CW.v rfl (Ai (Ac (CW.v rfl (Ae (Ay (Af (Al (A7 (Au (KW.q ?_)))))))))))))))
   refine⟨aq Go.Value.bool ?_,hW⟩
   exact Wr (by rw[hq3,hq4];rfl)
  |true=>
   refine Aa (I rfl (U (.fa (PEv.neq (.t rfl) (.const _)) (by rw[Ox,ap hq4];rfl)) (LW.A rfl (Af (CW.f rfl (C7 kQ kQ rfl rfl (J (.lc rfl (hB2.agg)) (HW.c (fun a w _ ha=>Bm (.cu rfl) (rN) a ha) rfl rfl (fun w hu=>U3 a w) (J (.lc rfl (hB3.agg)) (HW.c (fun a w _ ha=>Bm (.cu rfl) (rN) a ha) rfl rfl (fun w hu=>U3 b w) (J (.Y6 (.t rfl) (.t rfl)) (J (.assign (.t rfl)) (HW.nil ?_)))))))))))))
   intro w5 uw5
   replace hW:=hW.up uw5
   replace hB2:=hB2.up uw5
   replace hB3:=hB3.up uw5
   refine Ac (CW.b rfl (fun h19=>?_) (fun h19=>?_))
   ·refine Ae (Ay (Af (Al (A7 (Au (KW.q ?_))))))
    refine⟨aq Go.Value.bool ?_,hW⟩
    exact jW h19
   refine Ae (U (.fB 2 rfl) (U (.lb rfl (hB2.Ad rfl)) (U (.fB 2 rfl) (U (.lb rfl (hB3.Ad rfl)) (U (.neq (.t rfl) (.t rfl)) (LW.A rfl (Af (CW.b rfl (fun h29=>?_) (fun h29=>?_)))))))))
   ·refine Ae (U (.fB 2 rfl) (U (.lb rfl (hB2.Ad rfl)) (U (.fB 2 rfl) (U (.lb rfl (hB3.Ad rfl)) (U (.gtr (.t rfl) (.t rfl)) (LW.A rfl (Af (Al (A7 (Au (KW.q ?_)))))))))))
    refine⟨aq Go.Value.bool ?_,hW⟩
    exact jX hq3 hq4 h19 h29
   refine Ai (Aj (Ac (Ae (I rfl (I rfl (A3 (eC (.u rfl rfl) (AN)) rfl (W9 _ _ _) ?_))))))
   rintro _ w6 ⟨rfl,uw6⟩
   replace hW:=hW.up uw6
   replace hB2:=hB2.up uw6
   replace hB3:=hB3.up uw6
   refine U (.gtr (.t rfl) (.const _)) (LW.A rfl (Af (Al (KW.q ?_))))
   refine⟨aq Go.Value.bool ?_,hW⟩
   exact jY hq3 hq4 h19 h29
end Go.Proofs.YtnocngnlpgikaaaGreatDoor
namespace Go.Wx
open Go.RowKit
theorem U5{d d':Nat}{p q:Op}{t t':TypeId}{s s':String}{a a':Array Edge}{g g':Option (Nat×Bool)}(h:some (⟨some d,p,t,s,a,g⟩:Oper)=some ⟨some d',q,t',s',a',g'⟩):d=d':=by
 injection h with h
 injection h with h
 injection h
theorem yK{d d':Option Nat}{x x':Operand}{y y':Nat}{T T' t t':TypeId}{s s':String}{a a':Array Edge}{g g':Option (Nat×Bool)}(h:some (⟨d,.store T x (.tmp y),t,s,a,g⟩:Oper)=some ⟨d',.store T' x' (.tmp y'),t',s',a',g'⟩):y=y':=by
 injection h with h
 injection h with _ h
 injection h with _ _ h
 injection h
structure Bv where
 ia:Nat
 is:Nat
 isv:Nat
 sa:Nat
 sv:Nat
def Hl(v:Value)(B:Nat):Prop:=v=.pointer (some ⟨B,0,none⟩)
section
variable {R:Option Nat}{m:Nat}{P:Program}{n:Nat}{ds:List Deferred}{Q:Exit→Go.Act→World→Prop}{l:Env}{w:World}{ops:Array Oper}
def yL(bs:List Bv)(T:TypeId)(z:Array Value)(w0:World)(L:Nat→Bool)(f:Nat→Value)(W:World):Prop:=
 Up w0 W∧(∀b∈bs,(L b.is=true→L b.ia=true)∧(L b.ia=true→∃B,Hl (f b.sa) B∧w0.heap.size≤B∧Blk W B (if L b.is=true then(f b.sv).cells else z) T))∧
   bs.Pairwise fun b c=>L b.ia=true→L c.ia=true→∀B,Hl (f b.sa) B→¬Hl (f c.sa) B
def Z5(bs:List Bv):Bool:=bs.all fun b=>bs.all fun c=>(!Nat.beq b.ia c.is)&&((Nat.beq b.ia c.ia&&Nat.beq b.is c.is)||(!Nat.beq b.ia c.ia&& !Nat.beq b.is c.is&& !Nat.beq b.sa c.sa))
theorem I8{bs:List Bv}(h:Z5 bs=true){b c:Bv}(hb:b∈bs)(hc:c∈bs):b.ia≠c.is∧((b.ia=c.ia∧b.is=c.is)∨(b.ia≠c.ia∧b.is≠c.is∧b.sa≠c.sa)):=by
 have h1:=cn.1 (cn.1 h b hb) c hc
 simp only[bm,fp,ir]at h1
 refine⟨fun e=>?_,?_⟩
 · have:=h1.1;rw[e]at this;simp at this
 rcases h1.2 with⟨a,b⟩|⟨⟨a,b⟩,c⟩
 · exact .inl ⟨ca a,ca b⟩
 exact .inr ⟨fun e=>by rw[e]at a;simp at a,fun e=>by rw[e]at b;simp at b,fun e=>by rw[e]at c;simp at c⟩
theorem AWF.vars{k:Nat}{bs:List Bv}{T:TypeId}{z:Array Value}{base:Env}(ph:Nat→Ph){f0:Nat→Value}(hz:∀w,(zeroValue T).run P w=.ok (.agg z) w)(hs:∀w,(sizeOf T).run P w=.ok z.size w)
   (hph:∀i v w w',(ph i).holds v w→KeepT T w w'→(ph i).holds v w')(hA:D6 ops=true)(hC:(Nat.beq k ops.size||Ft ops k)=true)(hF:I3 ops k=true)(hks:Nat.ble k ops.size=true)
   (hD:G5 n ops 0 k=true)(hbp:Ck base=true)(hbd:∀i ph,lk base i=some ph→∀(j:Nat)(o:Oper),0≤j→j<k→ops[j]?=some o→o.dst≠some i)(hv:Z5 bs=true)(hnd:bs.Pairwise fun b c=>b.ia≠c.ia)
   (hlit:∀b∈bs,My ops b.ia [(b.is,0,b.sv)]=true)(hk:∀b∈bs,b.is<k∧b.ia<k)
   (hia:∀b∈bs,∃ty ps af,ops[b.ia]?=some ⟨some b.sa,.alloc T,ty,ps,af,none⟩)(his:∀b∈bs,∃ty ps af,ops[b.is]?=some ⟨none,.store T (.tmp b.sa) (.tmp b.sv),ty,ps,af,none⟩)
   (hlk:∀b∈bs,∀o,ops[b.is]?=some o→lk (L4 ops ph 0 o++base) b.sv=some (ph b.isv))(hsv:∀b∈bs,∀v W,(ph b.isv).holds v W→∃cs,v=.agg cs∧cs.size=z.size∧cs.all (·.oneCell')=true)
   (hpa:∀b∈bs,∀B W,(ph b.ia).holds (.pointer (some ⟨B,0,none⟩)) W)
   (hop:∀i o,i<k→(∀b∈bs,i≠b.ia∧i≠b.is)→ops[i]?=some o→o.guard=none∧∀W,KeepT T w W→∀a,Ag n ds (L4 ops ph 0 o++base) a W→gV P o a W (fun v W'=>Up W W'∧(ph i).holds v W'))
   (hend:∀f W,Up w W→(∀b∈bs,∃B,Hl (f b.sa) B∧w.heap.size≤B∧Blk W B (f b.sv).cells T)→(bs.Pairwise fun b c=>∀B,Hl (f b.sa) B→¬Hl (f c.sa) B)→AWF R m P n ds ops Q k (Hn ops ph 0 k++base) f W):AWF R m P n ds ops Q 0 base f0 w:=by
 have ptr1:∀{v:Value}{B B':Nat},Hl v B→Hl v B'→B=B':=fun h1 h2=>by unfold Hl at h1 h2;rw[h1]at h2;cases h2;rfl
 refine Jg ph (KeepT T) (yL bs T z w) (KeepT.refl T) (fun _ _ _=>KeepT.trans) hph hA hC hF hks (by simp) hD hbp hbd ?_ ⟨Up.refl w,fun b hb=>⟨fun h=>by simp at h,fun h=>by simp at h⟩,List.pairwise_iff_forall_sublist.2 fun _ h=>by simp at h⟩ ?_
 · intro i o _ hi hio L f W hRel hDn hLi hed hInv
   obtain⟨hUp,hB,hP⟩:=hInv
   -- slots of addresses are written by their allocs alone
   have saOf:∀c∈bs,c.ia≠i→o.dst≠some c.sa:=fun c hc hne ed=>by
     obtain⟨ty,ps,af,h⟩:=hia c hc
     exact(De hD (au _) hi hio ed).2 c.ia _ (au _) (hk c hc).2 hne h rfl
   have svOf:∀c∈bs,L c.is=true→o.dst≠some c.sv:=fun c hc hLs ed=>by
     obtain⟨os,hos,hods,⟨e,he,hbe,hon⟩,⟨e',he',hbe',pv,hpv,hpvd⟩⟩:=Gn (hlit c hc) bl
     have h2:=hDn _ _ hos hLs e' he' hbe'
     have h3:=Du hA hos e' he' hbe'
     have h4:=(hk c hc).1
     by_cases ee:e'.on=i
     · rw[ee,hLi]at h2;cases h2
     exact(De hD (au _) hi hio ed).2 e'.on pv (au _) (by have h3':e'.on<c.is:=h3;omega) ee hpv hpvd
   by_cases e0:∃b∈bs,i=b.ia
   · obtain⟨b,hb,rfl⟩:=e0
     obtain⟨ty,ps,af,hia0⟩:=hia b hb
     rw[hio]at hia0;cases hia0
     intro a ha hsl
     rw[ap (by simp[Region.wanted])]
     obtain⟨v,W',hr,B,rfl,N⟩:=REv.Bt (P:=P) (n:=n) (ds:=ds) (l:=L4 ops ph 0 _++base) (w:=W) (d:=some b.sa) (ty:=ty) (ps:=ps) (af:=af) (g:=none) hz a ha
     have hLs:L b.is=false:=by
       cases h:L b.is with
       |false=>rfl
       |true=>rw[(hB b hb).1 h]at hLi;cases hLi
     have ne:∀c∈bs,c.is≠b.ia:=fun c hc=>Ne.symm (I8 hv hb hc).1
     have old:∀c∈bs,c.ia≠b.ia→C6 L b.ia c.ia=L c.ia∧E3 f (some b.sa) (.pointer (some ⟨B,0,none⟩)) c.sa=f c.sa:=fun c hc hne=>by
       have h1:b.sa≠c.sa:=by
         rcases(I8 hv hb hc).2 with⟨h,_⟩|⟨_,_,h⟩
         · exact absurd h.symm hne
         exact h
       exact⟨by simp[C6,hne],by simp[E3,h1]⟩
     refine .inl (.inl ⟨_,W',hr,N.up.C8,fun _ _=>hpa b hb B W',hUp.trans N.up,fun c hc=>?_,?_⟩)
     · have ns:C6 L b.ia c.is=L c.is:=by simp[C6,ne c hc]
       by_cases hcb:c.ia=b.ia
       · have hsa:c.sa=b.sa:=by
           obtain⟨_,_,_,h⟩:=hia c hc
           rw[hcb,hio]at h;exact(U5 h).symm
         have his':c.is=b.is:=by
           rcases(I8 hv hc hb).2 with⟨_,h⟩|⟨h,_⟩
           · exact h
           exact absurd hcb h
         refine⟨fun _=>by rw[hcb];simp[C6],fun _=>⟨B,by rw[hsa];simp[Hl,E3],by rw[N.at_];exact hUp.size,?_⟩⟩
         rw[ns,his',hLs]
         exact N.blk
       obtain⟨o1,o2⟩:=old c hc hcb
       refine⟨fun h=>by rw[o1];rw[ns]at h;exact(hB c hc).1 h,fun h=>?_⟩
       rw[o1]at h
       obtain⟨B',h1,h2,h3⟩:=(hB c hc).2 h
       refine⟨B',by rw[o2];exact h1,h2,?_⟩
       rw[ns]
       cases hLc:L c.is with
       |false=>rw[hLc]at h3;exact h3.up N.up
       |true=>
         rw[hLc]at h3
         have h4:E3 f (some b.sa) (.pointer (some ⟨B,0,none⟩)) c.sv=f c.sv:=by
           have h5:=svOf c hc hLc
           have h6:b.sa≠c.sv:=fun e=>h5 (by rw[e])
           simp[E3,h6]
         rw[h4]
         exact h3.up N.up
     refine List.Pairwise.imp_of_mem ?_ (hnd.and hP)
     rintro c c' hc hc' ⟨hne,hp⟩ h1 h2 X hx hx'
     by_cases ec:c.ia=b.ia
     · have ec':c'.ia≠b.ia:=fun e=>hne (ec.trans e.symm)
       obtain⟨q1,q2⟩:=old c' hc' ec'
       rw[q1]at h2;rw[q2]at hx'
       obtain⟨B',h3,_,h5⟩:=(hB c' hc').2 h2
       have hsa:c.sa=b.sa:=by
         obtain⟨_,_,_,h⟩:=hia c hc
         rw[ec,hio]at h;exact(U5 h).symm
       have hxB:X=B:=ptr1 hx (by rw[hsa];simp[Hl,E3])
       have:=ptr1 hx' h3
       have h6:=h5.lt
       rw[N.at_]at hxB
       omega
     obtain⟨q1,q2⟩:=old c hc ec
     rw[q1]at h1;rw[q2]at hx
     by_cases ec':c'.ia=b.ia
     · obtain⟨B',h3,_,h5⟩:=(hB c hc).2 h1
       have hsa:c'.sa=b.sa:=by
         obtain⟨_,_,_,h⟩:=hia c' hc'
         rw[ec',hio]at h;exact(U5 h).symm
       have hxB:X=B:=ptr1 hx' (by rw[hsa];simp[Hl,E3])
       have:=ptr1 hx h3
       have h6:=h5.lt
       rw[N.at_]at hxB
       omega
     obtain⟨q1',q2'⟩:=old c' hc' ec'
     rw[q1']at h2;rw[q2']at hx'
     exact hp h1 h2 X hx hx'
   have e0':∀b∈bs,b.ia≠i:=fun b hb e=>e0 ⟨b,hb,e.symm⟩
   by_cases e1:∃b∈bs,i=b.is
   · obtain⟨b,hb,rfl⟩:=e1
     obtain⟨os,hos,hods,⟨e,he,hbe,hon⟩,_⟩:=Gn (hlit b hb) bl
     have hLa:L b.ia=true:=by rw[hos]at hio;cases hio;rw[←hon];exact hed e he hbe
     obtain⟨ty,ps,af,his0⟩:=his b hb
     rw[hio]at his0;cases his0
     intro a ha hsl
     rw[ap (by simp[Region.wanted])]
     obtain⟨B,h1,hBs,hblk⟩:=(hB b hb).2 hLa
     rw[hLi]at hblk
     obtain⟨cs,hcs,hcz,hc1⟩:=hsv b hb _ W (ha.val b.sv _ (hlk b hb _ hio))
     have hfs:f b.sv=.agg cs:=by rw[←hsl];exact hcs
     have hsn:b.sa≠b.sv:=fun e'=>by unfold Hl at h1;rw[e',hfs]at h1;cases h1
     have hag:Ag n ds [(b.sv,.eq (.agg cs)),(b.sa,.eq (.pointer (some ⟨B,0,none⟩)))] a W:=by
       refine⟨ha.defers,ha.size,fun t q ht=>?_⟩
       by_cases e1:t=b.sv
       · subst e1;rw[A9]at ht;cases ht;exact hcs
       rw[Be e1]at ht
       by_cases e2:t=b.sa
       · subst e2;rw[A9]at ht;cases ht;exact(hsl _).trans h1
       rw[Be e2]at ht;cases ht
     obtain⟨W',hr,hset⟩:=SEv.Ca (P:=P) (n:=n) (ds:=ds) (w:=W) (l:=[(b.sv,.eq (.agg cs)),(b.sa,.eq (.pointer (some ⟨B,0,none⟩)))]) (x:=.tmp b.sa) (y:=.tmp b.sv) (ty:=ty) (ps:=ps) (af:=af) (g:=none) hs hcz (.tmp (by rw[Be hsn,A9])) (.tmp A9) hc1 hblk (by simp) a hag
     have na:∀c∈bs,C6 L b.is c.ia=L c.ia:=fun c hc=>by
       have:=(I8 hv hc hb).1
       simp[C6,this]
     refine .inr ⟨W',hr,hset.sto.C8 (by rw[hset.size];exact a8 _) hblk,(fun d hd=>by cases hd),hUp.sto hset.sto hBs,fun c hc=>?_,?_⟩
     · by_cases hcb:c.is=b.is
       · have hca:c.ia=b.ia∧c.sa=b.sa:=by
           rcases(I8 hv hc hb).2 with⟨h,_⟩|⟨_,h,_⟩
           · refine⟨h,?_⟩
             obtain⟨_,_,_,h1⟩:=hia c hc
             obtain⟨_,_,_,h2⟩:=hia b hb
             rw[h,h2]at h1;exact(U5 h1).symm
           exact absurd hcb h
         have hcv:c.sv=b.sv:=by
           obtain⟨_,_,_,h1⟩:=his c hc
           rw[hcb,hio]at h1;exact(yK h1).symm
         refine⟨fun _=>by rw[na c hc,hca.1];exact hLa,fun _=>⟨B,by rw[hca.2];exact h1,hBs,?_⟩⟩
         have h2:C6 L b.is c.is=true:=by simp[C6,hcb]
         rw[h2,ap rfl,hcv]
         show Blk W' B (f b.sv).cells T
         rw[hfs]
         exact hset.blk
       have ns:C6 L b.is c.is=L c.is:=by simp[C6,hcb]
       refine⟨fun h=>by rw[na c hc];rw[ns]at h;exact(hB c hc).1 h,fun h=>?_⟩
       rw[na c hc]at h
       obtain⟨B',h3,h4,h5⟩:=(hB c hc).2 h
       have hne:B'≠B:=by
         have hcne:c≠b:=fun e=>hcb (by rw[e])
         intro e
         subst e
         rcases er.1 hc with⟨ic,hic,ec⟩
         rcases er.1 hb with⟨ib,hib,eb⟩
         rcases im ic ib with q|q|q
         · have:=dw.1 hP ic ib hic hib q
           rw[ec,eb]at this
           exact this h hLa B' h3 h1
         · subst q;exact hcne (ec.symm.trans eb)
         have:=dw.1 hP ib ic hib hic q
         rw[ec,eb]at this
         exact this hLa h B' h1 h3
       refine⟨B',h3,h4,?_⟩
       rw[ns]
       exact h5.sto hset.sto hne
     refine List.Pairwise.imp_of_mem ?_ hP
     intro c c' hc hc' hp h1 h2 X hx hx'
     rw[na c hc]at h1
     rw[na c' hc']at h2
     exact hp h1 h2 X hx hx'
   have e1':∀b∈bs,b.is≠i:=fun b hb e=>e1 ⟨b,hb,e.symm⟩
   obtain⟨hg,hop⟩:=hop i o hi (fun b hb=>⟨Ne.symm (e0' b hb),Ne.symm (e1' b hb)⟩) hio
   intro a ha hsl
   rw[ap (by simp[Region.wanted,hg])]
   have done:∀v W',Up W W'∧(ph i).holds v W'→KeepT T W W'∧(∀d,o.dst=some d→(ph i).holds v W')∧yL bs T z w (C6 L i) (E3 f o.dst v) W':=by
     rintro v W' ⟨hu,hv'⟩
     have ela:∀c∈bs,C6 L i c.ia=L c.ia:=fun c hc=>by simp[C6,e0' c hc]
     have els:∀c∈bs,C6 L i c.is=L c.is:=fun c hc=>by simp[C6,e1' c hc]
     have esa:∀c∈bs,E3 f o.dst v c.sa=f c.sa:=fun c hc=>by simp[E3,saOf c hc (e0' c hc)]
     refine⟨hu.C8,fun _ _=>hv',hUp.trans hu,fun c hc=>⟨fun h=>by rw[ela c hc];rw[els c hc]at h;exact(hB c hc).1 h,fun h=>?_⟩,?_⟩
     · rw[ela c hc]at h
       obtain⟨B,h1,h2,h3⟩:=(hB c hc).2 h
       refine⟨B,by rw[esa c hc];exact h1,h2,?_⟩
       rw[els c hc]
       cases hLc:L c.is with
       |false=>rw[hLc]at h3;exact h3.up hu
       |true=>
         rw[hLc]at h3
         have h4:E3 f o.dst v c.sv=f c.sv:=by simp[E3,svOf c hc hLc]
         rw[h4]
         exact h3.up hu
     refine List.Pairwise.imp_of_mem ?_ hP
     intro c c' hc hc' hp h1 h2 X hx hx'
     rw[ela c hc]at h1;rw[ela c' hc']at h2
     rw[esa c hc]at hx;rw[esa c' hc']at hx'
     exact hp h1 h2 X hx hx'
   rcases hop W hRel a ha with⟨v,W',hr,hp⟩|⟨fn,args,w1,hr,hc⟩
   · exact .inl (.inl ⟨v,W',hr,done v W' hp⟩)
   exact .inl (.inr ⟨fn,args,w1,hr,hc.mono done⟩)
 intro f W hRel hInv
 obtain⟨hUp,hB,hP⟩:=hInv
 refine hend f W hUp (fun b hb=>?_) ?_
 · obtain⟨B,h1,h2,h3⟩:=(hB b hb).2 (by simpa using(hk b hb).2)
   rw[ap (by simpa using(hk b hb).1)]at h3
   exact⟨B,h1,h2,h3⟩
 refine List.Pairwise.imp_of_mem ?_ hP
 intro c c' hc hc' hp X hx hx'
 exact hp (by simpa using(hk c hc).2) (by simpa using(hk c' hc').2) X hx hx'
theorem CW.vars{id:Nat}{opsL:List Oper}(k:Nat)(bs:List Bv)(z:Array Value)(phs:List Ph)(keep:List Nat){T:TypeId}(hz:∀w,(zeroValue T).run P w=.ok (.agg z) w)(hs:∀w,(sizeOf T).run P w=.ok z.size w)(hm:P.follows .mixedOrders=true)(hl:Ck l=true)
   (hA:D6 opsL.toArray=true)(hC:(Nat.beq k opsL.toArray.size||Ft opsL.toArray k)=true)(hF:I3 opsL.toArray k=true)(hks:Nat.ble k opsL.toArray.size=true)(hD:G5 n opsL.toArray 0 k=true)(hTl:G3 opsL.toArray k=true)
   (hfree:J8 l (opsL.take k)=true)(hv:Z5 bs=true)(hnd:(bs.map (·.ia)).Nodup)(hlit:(bs.all fun b=>My opsL.toArray b.ia [(b.is,0,b.sv)])=true)(hk:(bs.all fun b=>Nat.ble (b.is+1) k&&Nat.ble (b.ia+1) k)=true)
   (hia:∀b∈bs,∃ty ps af,opsL[b.ia]?=some ⟨some b.sa,.alloc T,ty,ps,af,none⟩)(his:∀b∈bs,∃ty ps af,opsL[b.is]?=some ⟨none,.store T (.tmp b.sa) (.tmp b.sv),ty,ps,af,none⟩)(hph:allT T phs)
   (hlk:∀b∈bs,∀o,opsL[b.is]?=some o→lk (L4 opsL.toArray (fun i=>phs.getD i (.eq undef)) 0 o++l) b.sv=some (phs.getD b.isv (.eq undef)))(hsv:∀b∈bs,∀v W,(phs.getD b.isv (.eq undef)).holds v W→∃cs,v=.agg cs∧cs.size=z.size∧cs.all (·.oneCell')=true)
   (hpa:∀b∈bs,∀B W,(phs.getD b.ia (.eq undef)).holds (.pointer (some ⟨B,0,none⟩)) W)
   (hop:∀W,KeepT T w.drew W→allL (fun i o=>(∃b∈bs,i=b.ia∨i=b.is)∨(o.guard=none∧TU P n ds (L4 opsL.toArray (fun i=>phs.getD i (.eq undef)) 0 o++l) W o (phs.getD i (.eq undef)))) 0 (opsL.take k))
   (hend:∀W(g:Nat→Value),Up w.drew W→(∀b∈bs,∃B,Hl (g b.sa) B∧w.drew.heap.size≤B∧Blk W B (g b.sv).cells T)→(bs.Pairwise fun b c=>∀B,Hl (g b.sa) B→¬Hl (g c.sa) B)→(∀i o d,i<k→opsL[i]?=some o→o.dst=some d→(phs.getD i (.eq undef)).holds (g d) W)→LW R m P n ds opsL.toArray Q (opsL.drop k) (keep.map (fun d=>(d,.eq (g d)))++l) W):
   CW R m P n ds (.region id opsL.toArray true) Q l w:=by
 have hks':k≤opsL.length:=by have:=a_ hks;simp at this;omega
 have sub:∀j o,j<k→opsL.toArray[j]?=some o→(opsL.take k)[j]?=some o:=fun j o hjk ho=>by
   rw[di hjk];simpa using ho
 have hbd:∀i ph,lk l i=some ph→∀(j:Nat)(o:Oper),0≤j→j<k→opsL.toArray[j]?=some o→o.dst≠some i:=fun i ph hi j o _ hjk ho=>G4 hfree hi (ae (sub j o hjk ho))
 have toL:∀(i:Nat)(o:Oper),opsL.toArray[i]?=some o→opsL[i]?=some o:=fun i o h=>by simpa using h
 refine Fu hm hl fun fuel listed a hf hu ha=>(AWF.vars (k:=k) (bs:=bs) (T:=T) (z:=z) (fun i=>phs.getD i (.eq undef)) (f0:=fun t=>a.tmps.getD t undef) hz hs (fun i v w w' h u=>(hph.at i) v w w' h u) hA hC hF hks hD hl hbd hv (jj.1 hnd) (fun b hb=>cn.1 hlit b hb) ?_ ?_ ?_ (fun b hb o ho=>hlk b hb o (toL _ _ ho)) hsv hpa ?_ ?_ fuel listed a hf hu ha (fun _=>rfl))
 · intro b hb
   have:=cn.1 hk b hb
   simp only[bm]at this
   exact⟨a_ this.1,a_ this.2⟩
 · intro b hb
   obtain⟨ty,ps,af,h⟩:=hia b hb
   exact⟨ty,ps,af,by simpa using h⟩
 · intro b hb
   obtain⟨ty,ps,af,h⟩:=his b hb
   exact⟨ty,ps,af,by simpa using h⟩
 · intro i o hi hn ho
   have h0:=(hop w.drew (KeepT.refl T _)).at (sub i o hi ho)
   rw[c_]at h0
   rcases h0 with⟨b,hb,e|e⟩|⟨hg,_⟩
   · exact absurd e (hn b hb).1
   · exact absurd e (hn b hb).2
   refine⟨hg,fun W hW a ha=>?_⟩
   have h3:=(hop W hW).at (sub i o hi ho)
   rw[c_]at h3
   rcases h3 with⟨b,hb,e|e⟩|⟨_,h⟩
   · exact absurd e (hn b hb).1
   · exact absurd e (hn b hb).2
   exact h a ha
 intro f W hUp hblk hpw fuel' listed' a' hf' hu' ha' hsl'
 have key:∀i o d,i<k→opsL[i]?=some o→o.dst=some d→(phs.getD i (.eq undef)).holds (f d) W:=by
   intro i o d hik ho hd
   have ho':opsL.toArray[i]?=some o:=by simpa using ho
   have hmem:(d,phs.getD i (.eq undef))∈Hn opsL.toArray (fun i=>phs.getD i (.eq undef)) 0 k:=by
     unfold Hn
     rw[fi]
     exact⟨i,b_.2 hik,by rw[ap (by simp),ho'];simp[hd]⟩
   obtain⟨q',hq⟩:=Hw hmem
   obtain⟨j,p,_,hjk,hp,hpd,e⟩:=F1 hq
   have:j=i:=by
     by_cases ee:j=i
     · exact ee
     exact absurd hpd ((De hD (au _) hik ho' hd).2 j p (au _) hjk ee hp)
   subst this
   have:=ha'.val d q' (K4 hq)
   rw[hsl',e]at this
   exact this
 refine Fs hTl hA (opsL.toArray.size-k) k fuel' listed' a' W rfl (by simp;omega) (a8 _) hf' hu' (hend W f hUp hblk hpw key a' ⟨ha'.defers,ha'.size,fun t q ht=>?_⟩)
 rcases Dd ht with h|h
 · obtain⟨d,_,he⟩:=bj.1 (J7 h)
   cases he
   exact hsl' _
 refine ha'.val t q ?_
 rw[Gp]
 · exact h
 cases hq:lk (Hn opsL.toArray (fun i=>phs.getD i (.eq undef)) 0 k) t with
 |none=>rfl
 |some q'=>
   obtain⟨j,p,_,hjk,hp,hpd,_⟩:=F1 hq
   exact absurd hpd (hbd t q h j p (au _) hjk hp)
end
end Go.Wx
