import Derived.Test.YtbcnnkfopoiifaaGreatDoorKR121
namespace Go.Wx
def Yh(a b:Fact):List Int→Bool
 |[]=>false
 |n::l=>if F6 a n=F6 b n then Yh a b l else decide (F6 a n<F6 b n)
theorem eE(k:Int)(a b:Fact):Yh a b (S7 k)=Gh (Ff k a) (Ff k b):=by
 rw[fy,Qf]
 by_cases h4:k=4
 · subst h4
   show(if a.Wafer=b.Wafer then(if a.Time=b.Time then false else decide (a.Time<b.Time))else decide (a.Wafer<b.Wafer))=true↔(a.Wafer<b.Wafer∨(a.Wafer=b.Wafer∧a.Time<b.Time))
   split
   · split<;>simp<;>omega
   simp;omega
 by_cases h5:k=5
 · subst h5
   show(if a.Product=b.Product then false else decide (a.Product<b.Product))=true↔(a.Product<b.Product∨(a.Product=b.Product∧(0:Int)<0))
   split<;>simp<;>omega
 by_cases h8:k=8
 · subst h8
   show(if a.Other=b.Other then(if a.Parties=b.Parties then false else decide (a.Parties<b.Parties))else decide (a.Other<b.Other))=true↔(a.Other<b.Other∨(a.Other=b.Other∧a.Parties<b.Parties))
   split
   · split<;>simp<;>omega
   simp;omega
 by_cases h10:k=10
 · subst h10
   show(if a.Recipe=b.Recipe then(if a.Time=b.Time then false else decide (a.Time<b.Time))else decide (a.Recipe<b.Recipe))=true↔(a.Recipe<b.Recipe∨(a.Recipe=b.Recipe∧a.Time<b.Time))
   split
   · split<;>simp<;>omega
   simp;omega
 have hk:S7 k=[0]:=by unfold S7;rw[ae h4,ae h5,ae h8,ae h10]
 have ho:∀g:Fact,Ff k g=(g.ID,0):=fun g=>by unfold Ff;split<;>first|omega|rfl
 rw[ho,ho,hk]
 show(if a.ID=b.ID then false else decide (a.ID<b.ID))=true↔(a.ID<b.ID∨(a.ID=b.ID∧(0:Int)<0))
 split<;>simp<;>omega
theorem eF{a b:Fact}{l:List Int}{i:Nat}{n:Int}(h:l[i]?=some n):Yh a b (l.drop i)=if F6 a n=F6 b n then Yh a b (l.drop (i+1))else decide (F6 a n<F6 b n):=by
 obtain⟨hk,e⟩:=ai.1 h
 rw[ce hk,e];rfl
def vL(l:List Fact)(f:Fact)(p:Nat):Prop:=p≤l.length∧(∀y∈l.drop p,Gh (Ff f.Kind f) (Ff f.Kind y)=true)∧(p=0∨∃y,l[p-1]?=some y∧Gh (Ff f.Kind f) (Ff f.Kind y)=false)
theorem AR{l:List Fact}{f:Fact}{p:Nat}(h:vL l f p)(hs:I0 (Ff f.Kind) l):Cs l f p=Y4 (Ff f.Kind) f l:=by
 obtain⟨q,e,hq,h1,h2⟩:=Qk (key:=Ff f.Kind) f l hs
 rw[e]
 obtain⟨hp,g1,g2⟩:=h
 have key:∀{p q:Nat},q≤l.length→(∀y∈l.drop p,Gh (Ff f.Kind f) (Ff f.Kind y)=true)→(q=0∨∃y,l[q-1]?=some y∧Gh (Ff f.Kind f) (Ff f.Kind y)=false)→q≤p:=fun{p q}hq g1 g2=>by
   rcases g2 with rfl|⟨y,hy,hl⟩
   · omega
   rcases dq p q with h|h
   · have:=g1 y (fj.2 ⟨q-1-p,by rw[eh,show p+(q-1-p)=q-1 by omega];exact hy⟩)
     rw[hl]at this;cases this
   exact h
 rw[Nat.le_antisymm (key hp h1 g2) (key hq g1 h2)]
def Sf(Q:List Fact)(j:Nat):List Fact:=Hl (Ff ((j+1:Nat):Int)) (Q.filter fun f=>decide (f.Kind=((j+1:Nat):Int)))
theorem vM(Q:List Fact)(j:Nat):I0 (Ff ((j+1:Nat):Int)) (Sf Q j):=(El _).ord
theorem Gx(Q:List Fact)(j:Nat):(Sf Q j).length≤Q.length:=by
 unfold Sf
 have h:=(El (key:=Ff ((j+1:Nat):Int)) (Q.filter fun f=>decide (f.Kind=((j+1:Nat):Int)))).same.length
 rw[h]
 exact cm _ _
theorem vN{Q:List Fact}{f:Fact}{j:Nat}(h:f.Kind=((j+1:Nat):Int)):Sf (Q++[f]) j=Y4 (Ff f.Kind) f (Sf Q j):=by
 unfold Sf
 rw[cj,h]
 simp only[de,decide_true,if_true,ir,h]
 unfold Hl
 rw[ew];rfl
theorem iW{Q:List Fact}{f:Fact}{j:Nat}(h:f.Kind≠((j+1:Nat):Int)):Sf (Q++[f]) j=Sf Q j:=by
 unfold Sf
 rw[cj]
 have e:decide (f.Kind=((j+1:Nat):Int))=false:=bg h
 simp only[de,e,ir,dy,jh,if_false]
def LsO(w:World)(tF:TypeId)(bc:Array Go.Value)(Q:List Fact):Prop:=bc.size=11∧∀j,j<11→∃v,bc[j]?=some v∧OwnS w 0 tF 19 Fact.cells v (Sf Q j)
theorem LsO.up{w w':World}{tF:TypeId}{bc:Array Go.Value}{Q:List Fact}(h:LsO w tF bc Q)(u:Up w w'):LsO w' tF bc Q:=⟨h.1,fun j hj=>let⟨v,e,ho⟩:=h.2 j hj;⟨v,e,ho.up u⟩⟩
theorem LsO.sto{w w':World}{tF T:TypeId}{bc cs:Array Go.Value}{Q:List Fact}{B:Nat}(h:LsO w tF bc Q)(hb:Blk w B cs T)(hT:T≠tF)(u:Sto B w w'):LsO w' tF bc Q:=⟨h.1,fun j hj=>let⟨v,e,ho⟩:=h.2 j hj;⟨v,e,ho.S8 hb hT u⟩⟩
theorem LsO.put{w:World}{tF:TypeId}{bc:Array Go.Value}{Q:List Fact}{f:Fact}{j:Nat}{v:Go.Value}{p:Nat}(h:LsO w tF bc Q)(hk:f.Kind=((j+1:Nat):Int))(hj:j<11)(hp:vL (Sf Q j) f p)(ho:OwnS w 0 tF 19 Fact.cells v (Cs (Sf Q j) f p)):LsO w tF (bc.setIfInBounds j v) (Q++[f]):=by
 refine⟨by rw[Array.size_setIfInBounds];exact h.1,fun i hi=>?_⟩
 by_cases e:i=j
 · subst e
   refine⟨v,by rw[Array.getElem?_setIfInBounds_self_of_lt (by rw[h.1];exact hj)],?_⟩
   rw[vN hk,←AR hp (by rw[hk];exact vM Q i)]
   exact ho
 obtain⟨u,e1,h1⟩:=h.2 i hi
 refine⟨u,by rw[gu (Ne.symm e)];exact e1,?_⟩
 rw[iW (by rw[hk];intro h2;exact e oQ)]
 exact h1
theorem LsO.one{w:World}{tF:TypeId}{bc:Array Go.Value}{Q:List Fact}(h:LsO w tF bc Q):bc.all (·.oneCell')=true:=by
 rw[Array.all_eq_true]
 intro i hi
 obtain⟨v,e,ho⟩:=h.2 i (by rw[←h.1];exact hi)
 have:bc[i]=v:=(bh.1 e).2
 rw[this]
 exact ho.one
theorem pA{w:World}{tF:TypeId}{bc:Array Go.Value}{Q:List Fact}{b:Base}(h:LsO w tF bc Q)(hb:∀j,j<11→Sf Q j=C2 b j):BaseC w bc b:=by
 have g:∀j,j<11→∃v,bc[j]?=some v∧Sl w v 19 Fact.cells (C2 b j):=fun j hj=>let⟨v,e,ho⟩:=h.2 j hj;⟨v,e,by rw[←hb j hj];exact ho.sl (fun _=>rfl)⟩
 obtain⟨v0,e0,h0⟩:=g 0 cQ
 obtain⟨v1,e1,h1⟩:=g 1 cQ
 obtain⟨v2,e2,h2⟩:=g 2 cQ
 obtain⟨v3,e3,h3⟩:=g 3 cQ
 obtain⟨v4,e4,h4⟩:=g 4 cQ
 obtain⟨v5,e5,h5⟩:=g 5 cQ
 obtain⟨v6,e6,h6⟩:=g 6 cQ
 obtain⟨v7,e7,h7⟩:=g 7 cQ
 obtain⟨v8,e8,h8⟩:=g 8 cQ
 obtain⟨v9,e9,h9⟩:=g 9 cQ
 obtain⟨v10,e10,h10⟩:=g 10 cQ
 refine⟨v0,v1,v2,v3,v4,v5,v6,v7,v8,v9,v10,?_,h0,h1,h2,h3,h4,h5,h6,h7,h8,h9,h10⟩
 apply Array.ext_getElem?
 intro i
 match i with
 |0=>exact e0
 |1=>exact e1
 |2=>exact e2
 |3=>exact e3
 |4=>exact e4
 |5=>exact e5
 |6=>exact e6
 |7=>exact e7
 |8=>exact e8
 |9=>exact e9
 |10=>exact e10
 |k+11=>rw[i4 (by have:=h.1;omega),i4 (by simp)]
theorem LsO.nil(w:World)(tF:TypeId):LsO w tF #[.slice none 0 0,.slice none 0 0,.slice none 0 0,.slice none 0 0,.slice none 0 0,.slice none 0 0,.slice none 0 0,.slice none 0 0,.slice none 0 0,.slice none 0 0,.slice none 0 0] []:=⟨rfl,fun j hj=>by
 refine⟨.slice none 0 0,?_,OwnS.nil _ _ _ _ _⟩
 match j,hj with
 |0,_|1,_|2,_|3,_|4,_|5,_|6,_|7,_|8,_|9,_|10,_=>rfl⟩
theorem vO{L:List Fact}{d:Int}{i:Nat}{f:Fact}(hf:L[i]?=some f)(h:O2 d f=true∨dU L d i f L.length=false):qL L d (i+1)=qL L d i:=by
 rw[qL,hf]
 have:FD L d i=false:=by
   unfold FD;rw[hf]
   rcases h with h|h<;>simp[h]
 simp[this]
theorem Np{L:List Fact}{d:Int}{i:Nat}{f:Fact}(hf:L[i]?=some f)(h:O2 d f=false)(hb:dU L d i f L.length=true):qL L d (i+1)=qL L d i++[f]:=by
 rw[qL,hf]
 have:FD L d i=true:=by unfold FD;rw[hf];simp[h,hb]
 simp[this]
theorem Mo(L:List Fact)(d:Int):∀n,(qL L d n).length≤n
 |0=>av _
 |n+1=>by
   rw[qL,au]
   refine Nat.add_le_add (Mo L d n) ?_
   split
   · split<;>simp
   simp
theorem AS(f:Fact):((⟨(Bm f).toArray⟩:ByteArray).toList==(⟨#[]⟩:ByteArray).toList)=decide (Bm f=[]):=by rw[Fs,Fs,fy];simp
theorem vP(g f:Fact):((⟨(Bm g).toArray⟩:ByteArray).toList==(⟨(Bm f).toArray⟩:ByteArray).toList)=decide (Bm g=Bm f):=by rw[Fs,Fs,fy];simp
theorem Yi{L:List Fact}{d:Int}{i k n:Nat}{f:Fact}(h:dU L d i f k=false)(hk:k≤n):dU L d i f n=false:=by
 rw[dv]at h⊢
 intro hn
 exact h (Tp.2 fun j hj=>Tp.1 hn j oQ)
theorem vR{d:Int}{i k:Nat}{f g:Fact}(hd:f.Day≤d):(!(decide (g.Day≤d)&&decide (Bm g=Bm f))||(!Dz g f&&(decide ((i:Int)≤(k:Int))|| !Cw g f)))= !Lt d i f k g:=by
 unfold Lt
 rw[fy]
 by_cases h1:g.Day≤d∧Bm g=Bm f
 · simp[h1.1,h1.2]
 have hp:¬(g.Day≤d∧Dz g f=true):=fun h=>h1 ⟨h.1,(Is.1 h.2).2.2.1⟩
 have he:Cw g f=false:=by
   rw[dv];intro e
   have:=Kw.1 e
   subst this
   exact h1 ⟨hd,rfl⟩
 have h2:(decide (g.Day≤d)&&decide (Bm g=Bm f))=false:=by rw[dv];intro h;simp at h;exact h1 h
 have h3:(decide (g.Day≤d)&&Dz g f)=false:=by rw[dv];intro h;simp at h;exact hp h
 rw[h2,h3,he];simp
def Tr(l:List Fact)(f:Fact):Bool:=l.any fun g=>Cw g f
theorem lQ{l:List Fact}{f:Fact}:Tr l f=true↔f∈l:=by
 unfold Tr
 rw[fm]
 exact⟨fun⟨g,hg,e⟩=>by rw[Kw]at e;exact e▸hg,fun h=>⟨f,h,J7 f⟩⟩
theorem AT{l:List Fact}{k:Nat}{x f:Fact}(hx:l[k]?=some x)(h:Cw x f=true):Tr l f=true:=lQ.2 (Kw.1 h▸am hx)
theorem vS{l:List Fact}{k:Nat}{x f:Fact}(hx:l[k]?=some x)(h:Cw x f=false)(hk:Tr (l.take k) f=false):Tr (l.take (k+1)) f=false:=by
 unfold Tr at hk⊢
 rw[cn,hx,ju,hk]
 simp[h]
def Ot(a b:List Fact):List Fact:=(a.filter fun x=> !Tr b x)++b.filter fun x=> !Tr a x
theorem AU{a b:List Fact}{x:Fact}:x∈Ot a b↔(x∈a∧x∉b)∨(x∈b∧x∉a):=by
 have h:∀l:List Fact,(!Tr l x)=true↔x∉l:=fun l=>by rw[←lQ (l:=l)];simp
 unfold Ot
 rw[be,bx,bx,h,h]
theorem Tt(a b:List Fact):(Ot a b).length≤a.length+b.length:=by
 unfold Ot
 rw[au]
 exact Nat.add_le_add (cm _ _) (cm _ _)
def H8(b:Base)(f p:Fact):Bool:=
 if f.Kind=1 then((decide (f.Tool=p.Tool)&&decide (f.Chamber=p.Chamber))&&decide (f.Recipe=p.Recipe))
 else if f.Kind=2 then((((Ec b f.ID).isSome&&decide (((Ec b f.ID).getD Dc).Tool=p.Tool))&&decide (((Ec b f.ID).getD Dc).Chamber=p.Chamber))&&decide (((Ec b f.ID).getD Dc).Recipe=p.Recipe))
 else if f.Kind=9 then(decide (f.Tool=p.Tool)&&decide (f.Chamber=p.Chamber))
 else if f.Kind=10 then decide (f.Recipe=p.Recipe)else false
def O4(b:Base)(f:Fact):Bool:=if f.Kind=1 then true else if f.Kind=2 then(Ec b f.ID).isSome else if f.Kind=9 then true else if f.Kind=10 then true else false
theorem vT{b:Base}{f p:Fact}(h:f.Kind=1):H8 b f p=((decide (f.Tool=p.Tool)&&decide (f.Chamber=p.Chamber))&&decide (f.Recipe=p.Recipe))∧O4 b f=true:=⟨ak h,ak h⟩
theorem vU{b:Base}{f p:Fact}(h1:¬f.Kind=1)(h:f.Kind=2):H8 b f p=((((Ec b f.ID).isSome&&decide (((Ec b f.ID).getD Dc).Tool=p.Tool))&&decide (((Ec b f.ID).getD Dc).Chamber=p.Chamber))&&decide (((Ec b f.ID).getD Dc).Recipe=p.Recipe))∧O4 b f=(Ec b f.ID).isSome:=⟨(ae h1).trans (ak h),(ae h1).trans (ak h)⟩
theorem vV{b:Base}{f p:Fact}(h1:¬f.Kind=1)(h2:¬f.Kind=2)(h:f.Kind=9):H8 b f p=(decide (f.Tool=p.Tool)&&decide (f.Chamber=p.Chamber))∧O4 b f=true:=⟨(ae h1).trans ((ae h2).trans (ak h)),(ae h1).trans ((ae h2).trans (ak h))⟩
theorem iX{b:Base}{f p:Fact}(h1:¬f.Kind=1)(h2:¬f.Kind=2)(h3:¬f.Kind=9)(h:f.Kind=10):H8 b f p=decide (f.Recipe=p.Recipe)∧O4 b f=true:=⟨(ae h1).trans ((ae h2).trans ((ae h3).trans (ak h))),(ae h1).trans ((ae h2).trans ((ae h3).trans (ak h)))⟩
theorem vW{b:Base}{f p:Fact}(h1:¬f.Kind=1)(h2:¬f.Kind=2)(h3:¬f.Kind=9)(h:¬f.Kind=10):H8 b f p=false∧O4 b f=false:=⟨(ae h1).trans ((ae h2).trans ((ae h3).trans (ae h))),(ae h1).trans ((ae h2).trans ((ae h3).trans (ae h)))⟩
theorem FF{l:List Fact}(h:l.length≤100)(d:Int):(Dj l d).Processes.length≤100∧(Dj l d).Resets.length≤100∧(Dj l d).Measures.length≤100∧(Dj l d).Targets.length≤100:=by
 have k:∀j,j<11→(C2 (Dj l d) j).length≤100:=fun j hj=>bb ((R7 l d hj).length_le_of_subset fun _ hx=>((F3 hj).1 hx).1.1) h
 exact⟨k 0 cQ,k 8 cQ,k 1 cQ,k 9 cQ⟩
theorem vX{w w':World}{B:Nat}{cs:Array Go.Value}{T:TypeId}{ad:Option Addr}{xs:List Fact}(h:Els w ad 19 Fact.cells xs)(hb:Blk w B cs T)(hc:cs.size<19)(u:Sto B w w'):Els w' ad 19 Fact.cells xs:=fun i x hx=>by
 obtain⟨B',o,h1,h2⟩:=h i x hx
 refine⟨B',o,h1,h2.sto u fun e=>?_⟩
 subst e
 have h3:=h2 18 (.string x.Text) rfl
 have h4:w.cell? ⟨B',o+i*19+18,none⟩=cs[o+i*19+18]?:=by unfold World.cell?;rw[hb];rfl
 rw[h4]at h3
 obtain⟨h5,_⟩:=bh.1 h3
 omega
theorem pB{w w':World}{B:Nat}{cs:Array Go.Value}{T:TypeId}{bc:Array Go.Value}{b:Base}(h:BaseC w bc b)(hb:Blk w B cs T)(hc:cs.size<19)(u:Sto B w w'):BaseC w' bc b:=by
 obtain⟨v0,v1,v2,v3,v4,v5,v6,v7,v8,v9,v10,e,h0,h1,h2,h3,h4,h5,h6,h7,h8,h9,h10⟩:=h
 have f:∀{v:Go.Value}{xs:List Fact},Sl w v 19 Fact.cells xs→Sl w' v 19 Fact.cells xs:=fun⟨ad,c,e,hE⟩=>⟨ad,c,e,vX hE hb hc u⟩
 exact⟨v0,v1,v2,v3,v4,v5,v6,v7,v8,v9,v10,e,f h0,f h1,f h2,f h3,f h4,f h5,f h6,f h7,f h8,f h9,f h10⟩
def Wo(g:Grp):Fact:={ Dc with Tool:=g.t,Chamber:=g.c,Recipe:=g.r }
def Kj(a b:Base):List Fact:=Ot a.Processes b.Processes++Ot a.Measures b.Measures++Ot a.Resets b.Resets++Ot a.Targets b.Targets
theorem vY{a b:Base}(ha:a.Processes.length≤100∧a.Resets.length≤100∧a.Measures.length≤100∧a.Targets.length≤100)(hb:b.Processes.length≤100∧b.Resets.length≤100∧b.Measures.length≤100∧b.Targets.length≤100):(Ot a.Processes b.Processes).length≤200∧(Ot a.Measures b.Measures).length≤200∧(Ot a.Resets b.Resets).length≤200∧(Ot a.Targets b.Targets).length≤200:=by
 have h1:=Tt a.Processes b.Processes
 have h2:=Tt a.Measures b.Measures
 have h3:=Tt a.Resets b.Resets
 have h4:=Tt a.Targets b.Targets
 omega
def O5(b:Base)(fs:List Fact)(gs:List Grp):List Grp:=gs.filter fun g=>fs.any fun f=>H8 b f (Wo g)
def Nq(L l:List Fact):Nat:=(O5 (Dj (L++l) 100000) (Kj (Dj L 100000) (Dj (L++l) 100000)) (C6 (Dj (L++l) 100000).Processes)).length
theorem vZ{b:Base}{fs:List Fact}{gs:List Grp}{i:Nat}{g:Grp}(hg:gs[i]?=some g)(h:(fs.any fun f=>H8 b f (Wo g))=true):(O5 b fs (gs.take (i+1))).length=(O5 b fs (gs.take i)).length+1:=by
 unfold O5
 rw[cn,hg,ez,cj,au]
 simp[h]
theorem AV{b:Base}{fs:List Fact}{gs:List Grp}{i:Nat}{g:Grp}(hg:gs[i]?=some g)(h:(fs.any fun f=>H8 b f (Wo g))=false):(O5 b fs (gs.take (i+1))).length=(O5 b fs (gs.take i)).length:=by
 unfold O5
 rw[cn,hg,ez,cj,au]
 simp[h]
theorem eG(b:Base)(fs:List Fact)(gs:List Grp):(O5 b fs gs).length≤gs.length:=cm _ _
theorem wA{l:List Fact}{k:Nat}{x:Fact}(p:Fact→Bool)(h:l[k]?=some x):(l.take (k+1)).any p=((l.take k).any p||p x):=by rw[cn,h,ju];simp
theorem Z0{kb:Base}{f:Fact}(hg:f.Gone=false)(g:Grp):H8 kb f (Wo g)=Fl kb f g:=by
 have e:∀p:Fact,decide (g=H6 p)=((decide (p.Tool=g.t)&&decide (p.Chamber=g.c))&&decide (p.Recipe=g.r)):=fun p=>by
   obtain⟨t,c,r⟩:=g
   rw[fy]
   simp only[fi,aw]
   unfold H6
   exact⟨fun h=>(by injection h with h1 h2 h3;exact⟨⟨h1.symm,h2.symm⟩,h3.symm⟩),fun⟨⟨h1,h2⟩,h3⟩=>by rw[h1,h2,h3]⟩
 unfold Fl
 rw[hg]
 show _=(true&&_)
 rw[gp]
 by_cases h1:f.Kind=1
 · rw[(vT h1).1,ak h1,e];rfl
 rw[ae h1]
 by_cases h2:f.Kind=2
 · rw[(vU h1 h2).1,ak h2]
   unfold zF
   cases Ec kb f.ID with
   |none=>rfl
   |some q=>rw[Option.any_some,e];rfl
 rw[ae h2]
 have sy:∀a b:Int,decide (a=b)=decide (b=a):=fun a b=>decide_eq_decide.2 ⟨kp,kp⟩
 by_cases h9:f.Kind=9
 · rw[(vV h1 h2 h9).1,ak h9,sy f.Tool,sy f.Chamber];rfl
 rw[ae h9]
 by_cases h10:f.Kind=10
 · rw[(iX h1 h2 h9 h10).1,ak h10,sy f.Recipe];rfl
 rw[(vW h1 h2 h9 h10).1,ae h10]
def eH(f:Fact):Prop:=f.Kind=1∨f.Kind=2∨f.Kind=9∨f.Kind=10
theorem Vy{A B:List Fact}{d:Int}{f:Fact}:f∈Kj (Dj A d) (Dj B d)↔eH f∧f.Gone=false∧((M6 A d f∧¬M6 B d f)∨(M6 B d f∧¬M6 A d f)):=by
 have key:∀j,j<11→(f∈Ot (C2 (Dj A d) j) (C2 (Dj B d) j)↔f.Kind=((j+1:Nat):Int)∧f.Gone=false∧((M6 A d f∧¬M6 B d f)∨(M6 B d f∧¬M6 A d f))):=fun j hj=>by
   rw[AU,F3 hj,F3 hj]
   constructor
   · rintro(⟨⟨h1,h2,h3⟩,h4⟩|⟨⟨h1,h2,h3⟩,h4⟩)
     · exact⟨h3,h2,.inl ⟨h1,fun h=>h4 ⟨h,h2,h3⟩⟩⟩
     exact⟨h3,h2,.inr ⟨h1,fun h=>h4 ⟨h,h2,h3⟩⟩⟩
   rintro⟨h3,h2,(⟨h1,h4⟩|⟨h1,h4⟩)⟩
   · exact .inl ⟨⟨h1,h2,h3⟩,fun h=>h4 h.1⟩
   exact .inr ⟨⟨h1,h2,h3⟩,fun h=>h4 h.1⟩
 unfold Kj eH
 rw[be,be,be]
 have k0:=key 0 cQ
 have k1:=key 1 cQ
 have k8:=key 8 cQ
 have k9:=key 9 cQ
 rw[show Ot (Dj A d).Processes (Dj B d).Processes=Ot (C2 (Dj A d) 0) (C2 (Dj B d) 0)from rfl,show Ot (Dj A d).Measures (Dj B d).Measures=Ot (C2 (Dj A d) 1) (C2 (Dj B d) 1)from rfl,show Ot (Dj A d).Resets (Dj B d).Resets=Ot (C2 (Dj A d) 8) (C2 (Dj B d) 8)from rfl,show Ot (Dj A d).Targets (Dj B d).Targets=Ot (C2 (Dj A d) 9) (C2 (Dj B d) 9)from rfl,k0,k1,k8,k9]
 constructor
 · rintro(((⟨h,k⟩|⟨h,k⟩)|⟨h,k⟩)|⟨h,k⟩)
   · exact⟨.inl h,k⟩
   · exact⟨.inr (.inl h),k⟩
   · exact⟨.inr (.inr (.inl h)),k⟩
   exact⟨.inr (.inr (.inr h)),k⟩
 rintro⟨h|h|h|h,k⟩
 · exact .inl (.inl (.inl ⟨h,k⟩))
 · exact .inl (.inl (.inr ⟨h,k⟩))
 · exact .inl (.inr ⟨h,k⟩)
 exact .inr ⟨h,k⟩
theorem Z1{l:List Fact}{x:Fact}(h:M6 l 100000 x):Kv (Bj l 100000) (Bm x)=x:=by
 unfold Kv
 rw[On.1 h]
 rfl
theorem Sg{kb:Base}{x:Fact}{g:Grp}(h:Fl kb x g=true):eH x∧x.Gone=false∧x.Kind≠0:=by
 obtain⟨h1,h2⟩:=iN h
 have hm:eH x:=by
   rcases h2 with⟨e,_⟩|⟨e,_⟩|⟨e,_⟩|⟨e,_⟩
   · exact .inl e
   · exact .inr (.inl e)
   · exact .inr (.inr (.inl e))
   exact .inr (.inr (.inr e))
 exact⟨hm,h1,fun e=>by unfold eH at hm;omega⟩
theorem FG{all l:List Fact}{kb:Base}{g:Grp}:(∃k,V0 (Bj all 100000) (Bj (all++l) 100000) kb k g=true)↔∃f∈Kj (Dj all 100000) (Dj (all++l) 100000),H8 kb f (Wo g)=true:=by
 constructor
 · rintro⟨k,h⟩
   unfold V0 at h
   rw[aw,f8]at h
   obtain⟨hne,h⟩:=h
   have hne:Kv (Bj all 100000) k≠Kv (Bj (all++l) 100000) k:=fun e=>by rw[e,J7]at hne;cases hne
   rcases h with h|h
   · obtain⟨h1,h2,h3⟩:=Sg h
     obtain⟨h4,h5⟩:=To h3
     refine⟨_,Vy.2 ⟨h1,h2,.inl ⟨h4,fun he=>hne ?_⟩⟩,by rw[Z0 h2];exact h⟩
     have:=Z1 he
     rw[h5]at this
     exact this.symm
   obtain⟨h1,h2,h3⟩:=Sg h
   obtain⟨h4,h5⟩:=To h3
   refine⟨_,Vy.2 ⟨h1,h2,.inr ⟨h4,fun he=>hne ?_⟩⟩,by rw[Z0 h2];exact h⟩
   have:=Z1 he
   rw[h5]at this
   exact this
 rintro⟨f,hf,h⟩
 obtain⟨h1,h2,h3⟩:=Vy.1 hf
 rw[Z0 h2]at h
 have hk:=(Sg h).2.2
 refine⟨Bm f,?_⟩
 unfold V0
 rw[aw,f8,gn]
 rcases h3 with⟨h3,h4⟩|⟨h3,h4⟩
 · rw[Z1 h3]
   refine⟨?_,.inl h⟩
   cases e:Cw f (Kv (Bj (all++l) 100000) (Bm f))with
   |false=>rfl
   |true=>
     have e:=Kw.1 e
     have:=(To (l:=all++l) (k:=Bm f) (by rw[←e];exact hk)).1
     rw[←e]at this
     exact absurd this h4
 rw[Z1 h3]
 refine⟨?_,.inr h⟩
 cases e:Cw (Kv (Bj all 100000) (Bm f)) f with
 |false=>rfl
 |true=>
   have e:=Kw.1 e
   have:=(To (l:=all) (k:=Bm f) (by rw[e];exact hk)).1
   rw[e]at this
   exact absurd this h4
theorem pC(all l:List Fact):Nq all l=Mi all l:=by
 unfold Nq Mi O5
 congr 1
 refine h_ fun g _=>?_
 rw[fy,fm,fm]
 exact FG.symm.trans KZ.symm
theorem eI(l:List Fact):Kc (Dj l 100000)=Ic (Dj l 100000) (Dj l 100000).Processes:=by
 unfold Kc
 refine kr ?_
 have h:=Zi l 100000 (j:=0) cQ
 unfold I0 at h
 unfold Ic
 rw[g_]
 refine((show List.Pairwise _ (Dj l 100000).Processes from h).sublist fh).imp fun{x y}hxy=>a8 ?_
 have hxy:=hxy
 unfold Gh Ff at hxy
 simp at hxy
 omega
section
variable {S0:Nat→Prop}{w0 w w':World}{Zs As As' Ys:List Asr}
theorem Sep.FH(h:Sep S0 w0 w (Zs++(As++Ys)))(k:Sep (Cl As) w w' As'):Sep S0 w0 w' (Zs++(As'++Ys)):=by
 have p:∀Bs:List Asr,(Zs++(Bs++Ys)).Perm ((Zs++Ys)++Bs):=fun Bs=>by
   rw[dm]
   exact List.perm_append_comm.append_left Zs
 exact((h.perm (p As)).frame k).perm (p As').symm
theorem Sep.LI(h:Sep S0 w0 w (Zs++(As++Ys))):Sep (Cl As) w w As:=h.right.left.self
theorem Sep.OG(h:Sep S0 w0 w (Zs++(As++Ys))){i:Nat}(hz:Cl Zs i):¬Cl As i:=Sep.oB (Zs:=Zs) (As:=As) (h.sub ((iq As Ys).append_left Zs)) hz
end
def Wp(f:Fact):Fact:={ f with Text:=f.Text.extract 0 (if(50:Int)<f.Text.size then(50:Int)else f.Text.size).toNat }
def Lv(l:List Fact):List Fact:=(l.take 8).map Wp
theorem wB(l:List Fact):(Lv l).length≤8:=by
 unfold Lv
 rw[cd,bu]
 omega
theorem pD{l:List Fact}{k:Nat}{x:Fact}(h:l[k]?=some x):(l.take (k+1)).map Wp=(l.take k).map Wp++[Wp x]:=by
 rw[cn,h,cq]
 rfl
theorem wC{l:List Fact}{k:Nat}(hk:k≤l.length)(h8:k≤8)(h:(decide (k<l.length)&&decide (k<8))=false):(l.take k).map Wp=Lv l:=by
 unfold Lv
 congr 1
 by_cases h1:k<l.length
 · have:k=8:=by simp[h1]at h;omega
   rw[this]
 rw[show k=l.length by omega,br,di (by omega)]
def OR(ad:Option Addr)(cp:Nat)(l:List Fact)(p8 q:Prt):Prop:=q.Sc ad cp l∨q=p8
theorem eJ{c n:Int}(hc:F8 c)(hn:0<n)(hn2:n≤1000):F8 (A6 c n):=by
 have h:=Po hc hn
 unfold F8
 omega
end Go.Wx
namespace Go.Proofs.YtbcnnkfopoiifaaGreatDoor
open Go.Proofs.Tryz
open Go.Wx Go.RowKit
theorem pE(a b:Fact)(w:World):Ret prog 138 #[.agg a.cells,.agg b.cells] w fun r w'=>r=.bool (Gh (Ff a.Kind a) (Ff a.Kind b))∧Up w w':=by
 have hW:=Up.refl w
 obtain⟨w0,rfl,_⟩:=W0 w
 refine cT 36 func138 rfl (Af (Ao (.bA rfl) rfl ?_))
 rintro _ w1 ⟨B2,rfl,NB2⟩
 replace hW:=hW.up NB2.up
 have hB2:=NB2.blk
 refine Ao (.bA rfl) rfl ?_
 rintro _ w2 ⟨B3,rfl,NB3⟩
 replace hW:=hW.up NB3.up
 replace hB2:=hB2.up NB3.up
 have hB3:=NB3.blk
 refine J (Ar (Aa (I (.fB 0 rfl) (I (.lb rfl (hB2.An rfl)) (A3 (eC (.o rfl) (BB)) rfl (O3 a.Kind _) ?_)))))
 rintro _ w3 ⟨adk,cpk,rfl,hEk,uw3⟩
 replace hW:=hW.up uw3
 replace hB2:=hB2.up uw3
 replace hB3:=hB3.up uw3
 have hkl:=Zz a.Kind
 refine LW.A rfl (Ar (Af (J (Ai (Ap (A9 (σ:=Nat) (fun s w=>(s≤(S7 a.Kind).length)∧(Yh a b (S7 a.Kind)=Yh a b ((S7 a.Kind).drop s))∧(Up w0 w)∧(Blk w B2 a.cells 51)∧(Blk w B3 b.cells 51)∧(Els w adk 1 Cm (S7 a.Kind))) (fun s=>[(6,.eq (vi (s:Int)))]) ([(2,.eq _),(3,.eq _),(5,.eq _)]) (fun s=>(S7 a.Kind).length-s) 0 ?_ tQ ?_))))))
 ·exact⟨ao _,rfl,hW,hB2,hB3,hEk⟩
 rintro i w4 ⟨hi,hq,hW,hB2,hB3,hEk⟩
 refine Al (Af (Ac rfl (Ac rfl (I (.Df lg (.t rfl)) (I (.l2 rfl rfl) (Ai (CW.b rfl (fun h15=>?_) (fun h15=>?_))))))))
 ·replace h15:=dQ h15
  refine Ak (Ab (Al (Ap (Al ?_))))
  obtain⟨x,hx⟩:=Av (xs:=S7 a.Kind) (i:=i) oQ
  obtain⟨Bx,ox,ax,hcx⟩:=hEk i x hx
  obtain⟨hx0,hx14⟩:=CL (am hx)
  obtain⟨n,rfl⟩:∃n:Nat,x=(n:Int):=⟨x.toNat,by omega⟩
  have hn14:n<14:=by omega
  refine Cg kQ kQ rfl rfl (Am (.lc rfl (hB2.agg)) (Am (.mv rfl) (Am (.mv rfl) (Am (.Ay lg lf (.t rfl) (.t rfl) oQ ax) (Am (.lb rfl (hcx.nth (j:=0) rfl)) (HW.c (fun a w _ ha=>Bq (.ct rfl (.cu rfl)) (aH) a ha) rfl rfl (fun w hu=>Q6 a n _ hn14) (Am (.assign (.t rfl)) (HW.nil ?_))))))))
  intro w5 uw5
  replace hW:=hW.up uw5
  replace hB2:=hB2.up uw5
  replace hB3:=hB3.up uw5
  replace hEk:=hEk.up uw5
  refine Ab (Al ?_)
  obtain⟨Bx,ox,ax,hcx⟩:=hEk i _ hx
  refine Cg kQ kQ rfl rfl (Am (.lc rfl (hB3.agg)) (Am (.mv rfl) (Am (.mv rfl) (Am (.Ay lg lf (.t rfl) (.t rfl) oQ ax) (Am (.lb rfl (hcx.nth (j:=0) rfl)) (HW.c (fun a w _ ha=>Bq (.ct rfl (.cu rfl)) (aH) a ha) rfl rfl (fun w hu=>Q6 b n _ hn14) (Am (.assign (.t rfl)) (HW.nil ?_))))))))
  intro w6 uw6
  replace hW:=hW.up uw6
  replace hB2:=hB2.up uw6
  replace hB3:=hB3.up uw6
  replace hEk:=hEk.up uw6
  refine Ab (Af (Ac rfl (Ac rfl (I (.neq (.t rfl) (.t rfl)) (Ai (CW.b rfl (fun h32=>?_) (fun h32=>?_)))))))
  ·replace h32:=dQ h32
   have hne:¬F6 a (n:Int)=F6 b (n:Int):=by simpa using h32
   refine Af (Ac rfl (Ac rfl (I (.l2 rfl rfl) (LW.A rfl (Ai (Aj (Aw (Ah (Ah (Aw (Ah (KW.q ?_))))))))))))
   refine⟨?_,hW⟩
   rw[←eE,hq]
   rw[eF hx,ae hne]
  replace h32:=dQ h32
  have heq:F6 a (n:Int)=F6 b (n:Int):=by simpa using h32
  refine Ak (Ae (Ab (Aa (Ac rfl (I (.ic rfl oQ) (LW.A rfl (LW.nil (Aq ?_))))))))
  exact⟨i+1,⟨by omega,by rw[hq,eF hx,ak heq],hW,hB2,hB3,hEk⟩,tQ,by omega⟩
 replace h15:=dQ h15
 have hie:i=(S7 a.Kind).length:=by omega
 refine A7 (Ad (Ad (Au (Ab (Af (J (Ai (Aj (KW.q ?_)))))))))
 refine⟨?_,hW⟩
 rw[←eE,hq]
 (rw[hie,j_];rfl)
theorem Gy(ad:Option Addr)(cp:Nat)(l:List Fact)(f:Fact)(w:World)(hE:Els w ad 19 Fact.cells l)(hcp:l.length≤cp)(hl:l.length≤100000):Ret prog 85 #[.slice ad l.length cp,.agg f.cells] w fun r w'=>∃p,vL l f p∧OwnS w' 0 51 19 Fact.cells r (Cs l f p)∧Up w w':=by
 have hW:=Up.refl w
 obtain⟨w0,rfl,_⟩:=W0 w
 refine cT 32 func85 rfl (Af (Ao (.bA rfl) rfl ?_))
 rintro _ w1 ⟨B3,rfl,NB3⟩
 replace hW:=hW.up NB3.up
 have hB3:=NB3.blk
 refine J (Ar (Aa (Ac rfl (I (.Df k6 (.t rfl)) (LW.A rfl (Ar (Ap (A9 (σ:=Nat) (fun s w=>(s≤l.length)∧(∀y∈l.drop s,Gh (Ff f.Kind f) (Ff f.Kind y)=true)∧(Up w0 w)∧(Blk w B3 f.cells 51)) (fun s=>[(5,.eq (vi (s:Int)))]) ([(0,.eq _),(3,.eq _),(4,.eq _)]) (fun s=>s) l.length ?_ tQ ?_))))))))
 ·exact⟨av _,(fun y hy=>by rw[j_]at hy;cases hy),hW,hB3⟩
 rintro k w2 ⟨hk,hd,hW,hB3⟩
 refine Al (Al ?_)
 cases hq2:decide (0<k)with
 |true=>
  have hk0:=bj hq2
  obtain⟨y,hy⟩:=Av (xs:=l) (i:=k-1) oQ
  obtain⟨By,oy,ay,hcy⟩:=(Els.up hE hW) (k-1) y hy
  refine Cg kQ kQ rfl rfl (Am (.mv rfl) (Am (.tr (PEv.gtr (.t rfl) (.const _)) (a8 oQ)) (Am (.mv rfl) (A4 (.lc rfl (hB3.agg)) (A4 (.mv rfl) (A4 (.mv rfl) (A4 (.dec (.t rfl) oQ oQ) (A4 (.Ay k6 k7 (.t rfl) (.t rfl) oQ ay) (A4 (.lc rfl (hcy)) (Mv rfl rfl rfl rfl rfl (fun a w _ ha=>Bq (.ct rfl (.cu rfl)) (HU) a ha) rfl (fun w hu=>pE f y _) (Am (.pa rfl (fun hp=>(by exact .tmp rfl))) (HW.nil ?_))))))))))))
  intro w3 uw3
  replace hW:=hW.up uw3
  replace hB3:=hB3.up uw3
  refine Ab (CW.b rfl (fun h18=>?_) (fun h18=>?_))
  ·have hlt:Gh (Ff f.Kind f) (Ff f.Kind y)=true:=by simpa using h18
   refine Ak (Ab (Ap (Aa (Ac rfl (I (.dec (.t rfl) oQ oQ) (LW.A rfl (LW.nil (Ae (Aq ?_)))))))))
   exact⟨k-1,⟨by omega,(fun z hz=>by rw[ce oQ,show k-1+1=k by omega]at hz;exact(ap.1 hz).elim (fun h=>by rw[h,(ai.1 hy).2];exact hlt) (fun h=>hd z h)),hW,hB3⟩,tQ,by omega⟩
  have hnl:Gh (Ff f.Kind f) (Ff f.Kind y)=false:=by simpa using h18
  refine A7 (Ad (Ad (Au (Ab (Al (Eo 11 [.eq (.slice ad l.length cp),.eq (vi (k:Int)),.eq (vi (k:Int)),.eq (.slice ad (l.take k).length (l.take k).length),.eq (.agg f.cells),.pred fun v W=>∃B,v=.slice (some ⟨B,0,none⟩) [f].length [f].length∧Els W (some ⟨B,0,none⟩) 19 Fact.cells [f],.eq (.slice ad l.length cp),.eq (vi (k:Int)),.eq (.slice (if cp=k then ad else ad.map (·.add (k*19))) (l.length-k) (cp-k)),.pred fun v W=>Sl W v 19 Fact.cells ([f]++(l.drop k)),.pred fun v W=>OwnS W 0 51 19 Fact.cells v (Cs l f k)] [31] kQ rfl kQ kQ kQ kQ kQ kQ kQ ⟨nm,nm,nm,nm,nm,PhU.pred fun _ _ _ h u=>let⟨B,e,hE⟩:=h;⟨B,e,hE.up u⟩,nm,nm,nm,PhU.pred fun _ _ _ h u=>Sl.up h u,PhU.pred fun _ _ _ h u=>OwnS.up h u,trivial⟩ ?_ ?_))))))
  ·intro W hU0
   have hU:=(Up.drew w3).trans hU0
   have hEW:=Els.up hE (hW.trans hU)
   have hlk:(l.take k).length=k:=by rw[bu];omega
   refine aC ⟨rfl,TU.p (.mv rfl) rfl⟩ (aC ⟨rfl,TU.p (.mv rfl) rfl⟩ (aC ⟨rfl,TU.p (.mv rfl) rfl⟩ (aC ⟨rfl,TU.p (.val (v':=.slice ad (l.take k).length (l.take k).length) (J3 k6 k7 (.t rfl) (.t rfl) (.t rfl) oQ) (by rw[hlk])) rfl⟩ (aC ⟨rfl,TU.p (.lc rfl ((hB3.up hU).agg)) rfl⟩ (aC ⟨rfl,TU.r (REv.buildSlice (xs:=[f]) (enc:=Fact.cells) (mk:=fun f:Fact=>.agg f.cells) k6 k7 k_ rfl bQ (fun _=>rfl) (fun _=>rfl) (.cu rfl) rfl) (fun v W' h=>let⟨B,cs,e,N,_,hE1⟩:=h;⟨N.up,B,e,hE1⟩)⟩ (aC ⟨rfl,TU.p (.mv rfl) rfl⟩ (aC ⟨rfl,TU.p (.mv rfl) rfl⟩ (aC ⟨rfl,TU.p (.sliceFrom k6 k7 (.t rfl) (.t rfl) oQ) rfl⟩ (aC ⟨rfl,TU.open (d:=26) rfl fun v hv=>by obtain⟨B,rfl,hE5⟩:=hv;exact TU.r (Fh (enc:=Fact.cells) (k:=19) (bytes:=160) (i:=Tryz.t51) (xs:=[f]) (ys:=(l.drop k)) k6 kQ rfl rfl rfl rfl cQ (fun _=>rfl) (.t rfl) (.t rfl) hE5 (Els.drop hEW hcp) (by simp[maxLen];omega) (by simp;omega)) (fun _ _ h=>⟨h.1,h.2.1⟩)⟩ (aC ⟨rfl,TU.open (d:=30) rfl fun v hv=>TU.r (Fh (enc:=Fact.cells) (k:=19) (bytes:=160) (i:=Tryz.t51) (xs:=(l.take k)) (ys:=([f]++(l.drop k))) k6 kQ rfl rfl rfl rfl cQ (fun _=>rfl) (.t rfl) (.t rfl) (Els.take hEW) hv (by simp[maxLen];omega) (by simp;omega)) (fun _ _ h=>⟨h.1,(h.2.2 (by simp)).mono (ao _)⟩)⟩ ?_))))))))))
   exact allL.nil
  intro w4 g hU0 hg
  have hU:=(Up.drew w3).trans hU0
  replace hW:=hW.up hU
  replace hB3:=hB3.up hU
  have hO:OwnS w4 0 51 19 Fact.cells (g 31) (Cs l f k):=hg 10 _ 31 cQ rfl rfl
  refine LW.A rfl (Ai (Aj (KW.q ?_)))
  refine⟨k,⟨hk,hd,?_⟩,hO,hW⟩
  exact .inr ⟨y,hy,hnl⟩
 |false=>
  have hk0:=db hq2
  refine Cg kQ kQ rfl rfl (Am (.mv rfl) (Am (.fa (PEv.gtr (.t rfl) (.const _)) (bg oQ)) (Am (.mv rfl) (C0 (C0 (C0 (C0 (C0 (C0 (C0 (Am (.De (b:=false) (.t rfl) (fun hp=>absurd (show false=true from hp) cQ)) (HW.nil ?_))))))))))))
  intro w5 uw5
  replace hW:=hW.up uw5
  replace hB3:=hB3.up uw5
  refine Ab (CW.f rfl (A7 (Ad (Ad (Au (Ab (Al (Eo 11 [.eq (.slice ad l.length cp),.eq (vi (k:Int)),.eq (vi (k:Int)),.eq (.slice ad (l.take k).length (l.take k).length),.eq (.agg f.cells),.pred fun v W=>∃B,v=.slice (some ⟨B,0,none⟩) [f].length [f].length∧Els W (some ⟨B,0,none⟩) 19 Fact.cells [f],.eq (.slice ad l.length cp),.eq (vi (k:Int)),.eq (.slice (if cp=k then ad else ad.map (·.add (k*19))) (l.length-k) (cp-k)),.pred fun v W=>Sl W v 19 Fact.cells ([f]++(l.drop k)),.pred fun v W=>OwnS W 0 51 19 Fact.cells v (Cs l f k)] [31] kQ rfl kQ kQ kQ kQ kQ kQ kQ ⟨nm,nm,nm,nm,nm,PhU.pred fun _ _ _ h u=>let⟨B,e,hE⟩:=h;⟨B,e,hE.up u⟩,nm,nm,nm,PhU.pred fun _ _ _ h u=>Sl.up h u,PhU.pred fun _ _ _ h u=>OwnS.up h u,trivial⟩ ?_ ?_))))))))
  ·intro W hU0
   have hU:=(Up.drew w5).trans hU0
   have hEW:=Els.up hE (hW.trans hU)
   have hlk:(l.take k).length=k:=by rw[bu];omega
   refine aC ⟨rfl,TU.p (.mv rfl) rfl⟩ (aC ⟨rfl,TU.p (.mv rfl) rfl⟩ (aC ⟨rfl,TU.p (.mv rfl) rfl⟩ (aC ⟨rfl,TU.p (.val (v':=.slice ad (l.take k).length (l.take k).length) (J3 k6 k7 (.t rfl) (.t rfl) (.t rfl) oQ) (by rw[hlk])) rfl⟩ (aC ⟨rfl,TU.p (.lc rfl ((hB3.up hU).agg)) rfl⟩ (aC ⟨rfl,TU.r (REv.buildSlice (xs:=[f]) (enc:=Fact.cells) (mk:=fun f:Fact=>.agg f.cells) k6 k7 k_ rfl bQ (fun _=>rfl) (fun _=>rfl) (.cu rfl) rfl) (fun v W' h=>let⟨B,cs,e,N,_,hE1⟩:=h;⟨N.up,B,e,hE1⟩)⟩ (aC ⟨rfl,TU.p (.mv rfl) rfl⟩ (aC ⟨rfl,TU.p (.mv rfl) rfl⟩ (aC ⟨rfl,TU.p (.sliceFrom k6 k7 (.t rfl) (.t rfl) oQ) rfl⟩ (aC ⟨rfl,TU.open (d:=26) rfl fun v hv=>by obtain⟨B,rfl,hE5⟩:=hv;exact TU.r (Fh (enc:=Fact.cells) (k:=19) (bytes:=160) (i:=Tryz.t51) (xs:=[f]) (ys:=(l.drop k)) k6 kQ rfl rfl rfl rfl cQ (fun _=>rfl) (.t rfl) (.t rfl) hE5 (Els.drop hEW hcp) (by simp[maxLen];omega) (by simp;omega)) (fun _ _ h=>⟨h.1,h.2.1⟩)⟩ (aC ⟨rfl,TU.open (d:=30) rfl fun v hv=>TU.r (Fh (enc:=Fact.cells) (k:=19) (bytes:=160) (i:=Tryz.t51) (xs:=(l.take k)) (ys:=([f]++(l.drop k))) k6 kQ rfl rfl rfl rfl cQ (fun _=>rfl) (.t rfl) (.t rfl) (Els.take hEW) hv (by simp[maxLen];omega) (by simp;omega)) (fun _ _ h=>⟨h.1,(h.2.2 (by simp)).mono (ao _)⟩)⟩ ?_))))))))))
   exact allL.nil
  intro w6 g hU0 hg
  have hU:=(Up.drew w5).trans hU0
  replace hW:=hW.up hU
  replace hB3:=hB3.up hU
  have hO:OwnS w6 0 51 19 Fact.cells (g 31) (Cs l f k):=hg 10 _ 31 cQ rfl rfl
  refine LW.A rfl (Ai (Aj (KW.q ?_)))
  refine⟨k,⟨hk,hd,?_⟩,hO,hW⟩
  exact .inl oQ
set_option maxHeartbeats 8000000 in
theorem AX(ad:Option Addr)(cp:Nat)(L:List Fact)(day:Int)(w:World)(hE:Els w ad 19 Fact.cells L)(hl:L.length≤10000):Ret prog 39 #[.slice ad L.length cp,vi day] w fun r w'=>∃bc,r=.agg bc∧BaseC w' bc (Dj L day)∧Up w w':=by
 have hW:=Up.refl w
 obtain⟨w0,rfl,_⟩:=W0 w
 refine cT 166 func39 rfl (Af (Ao (.Bi mp) rfl ?_))
 rintro _ w1 ⟨B4,rfl,NB4⟩
 have eB4:=NB4.at_
 have zB4:=NB4.size
 replace hW:=hW.up NB4.up
 have hB4:=NB4.blk
 refine Ar (Aa (I (.build (cs:=#[.slice none 0 0,.slice none 0 0,.slice none 0 0,.slice none 0 0,.slice none 0 0,.slice none 0 0,.slice none 0 0,.slice none 0 0,.slice none 0 0,.slice none 0 0,.slice none 0 0]) underlying39 mp V4 .nil rfl) (Ao (.Bi mp) rfl ?_)))
 rintro _ w2 ⟨B5,rfl,MB5⟩
 refine Bh (.A5 lw rfl (.t rfl) (.t rfl) eQ MB5.blk rfl) ?_
 intro w3 LB5
 have NB5:=MB5.set LB5
 clear LB5 MB5
 have eB5:=NB5.at_
 have zB5:=NB5.size
 replace hW:=hW.up NB5.up
 replace hB4:=hB4.up NB5.up
 have hB5:=NB5.blk
 refine Ar (Af (J (Ai (Ap (A9 (σ:=Nat×Array Go.Value) (fun s w=>(s.1≤L.length)∧(Up w0 w)∧(Blk w B4 #[.slice none 0 0,.slice none 0 0,.slice none 0 0,.slice none 0 0,.slice none 0 0,.slice none 0 0,.slice none 0 0,.slice none 0 0,.slice none 0 0,.slice none 0 0,.slice none 0 0] 39)∧(Blk w B5 s.2 39)∧(LsO w 51 s.2 (qL L day s.1))) (fun s=>[(6,.eq (vi (s.1:Int)))]) ([(0,.eq _),(1,.eq _),(4,.eq _),(5,.eq _)]) (fun s=>L.length-s.1) (0,#[.slice none 0 0,.slice none 0 0,.slice none 0 0,.slice none 0 0,.slice none 0 0,.slice none 0 0,.slice none 0 0,.slice none 0 0,.slice none 0 0,.slice none 0 0,.slice none 0 0]) ?_ tQ ?_)))))
 ·exact⟨ao _,hW,hB4,hB5,LsO.nil _ _⟩
 rintro⟨i,bc⟩ w4 ⟨hi,hW,hB4,hB5,hL⟩
 dsimp only at hi hB5 hL
 change CW _ _ _ _ _ _ _ ([(6,.eq (vi (i:Int)))]++_) _
 refine Al (Af (Ac rfl (Ac rfl (I (.Df k6 (.t rfl)) (I (.l2 rfl rfl) (Ai (CW.b rfl (fun h16=>?_) (fun h16=>?_))))))))
 ·replace h16:=dQ h16
  refine Ak (Ab (Al (Ap (Al ?_))))
  have zB5l:=hB5.lt
  obtain⟨f,hf⟩:=Av (xs:=L) (i:=i) oQ
  obtain⟨Bf,of_,af,hcf⟩:=(Els.up hE hW) i f hf
  refine Aa (Ac rfl (Ac rfl (I (.Ay k6 k7 (.t rfl) (.t rfl) oQ af) (I (.lc rfl (hcf)) (Ao (.Bi k_) rfl ?_)))))
  rintro _ w5 ⟨B7,rfl,MB7⟩
  refine Bh (.A5 k7 rfl (.t rfl) (.t rfl) eQ MB7.blk rfl) ?_
  intro w6 LB7
  have NB7:=MB7.set LB7
  clear LB7 MB7
  have eB7:=NB7.at_
  have zB7:=NB7.size
  replace hW:=hW.up NB7.up
  replace hB4:=hB4.up NB7.up
  replace hB5:=hB5.up NB7.up
  replace hL:=hL.up NB7.up
  have hB7:=NB7.blk
  refine Ar (Aa (I (.lc rfl (hB7.agg)) (A3 (eC (.o rfl) (wV)) rfl (Rm f _) ?_)))
  rintro _ w7 ⟨rfl,uw7⟩
  replace hW:=hW.up uw7
  replace hB4:=hB4.up uw7
  replace hB5:=hB5.up uw7
  replace hL:=hL.up uw7
  replace hB7:=hB7.up uw7
  refine LW.A rfl (Ar (Af (Ac rfl (I (.val (v':=.bool (decide (Bm f=[]))) (Gp (.t rfl) (.const _)) (by rw[AS])) (Ac rfl (LW.gr rfl (fun hc=>PEv.fB 3 rfl) (LW.gr rfl (fun hc=>PEv.load ly vQ (hB7.An rfl)) (Dk rfl rfl (LW.gr rfl (fun hc=>PEv.gtr vQ vQ) (I (.po rfl (fun hp=>(by exact .cond rfl (by(rw[hp];rfl))))) (Ac rfl (LW.gr rfl (fun hc=>PEv.fB 4 rfl) (LW.gr rfl (fun hc=>PEv.load isAgg4 vQ (hB7.An rfl)) (I (.po rfl (fun hp=>(by exact .cond rfl (by(rw[hp];rfl))))) (Ai (CW.b rfl (fun h36=>?_) (fun h36=>?_)))))))))))))))))
  ·replace h36:=dQ h36
   have hsk:O2 day f=true:=by unfold O2;simpa using h36
   refine A7 (Ad (Au (Ab (Aa (Ac rfl (I (.ic rfl oQ) (LW.A rfl (LW.nil (Aq ?_)))))))))
   exact⟨(i+1,bc),⟨by show i+1≤_;omega,hW,hB4,hB5,by rw[vO hf (by exact .inl hsk)];exact hL⟩,tQ,by show L.length-(i+1)<L.length-i;omega⟩
  replace h36:=dQ h36
  have hsk:O2 day f=false:=by unfold O2;rw[←jo];simpa using h36
  have hk0:Bm f≠[]:=fun e=>by simp[O2,e]at hsk
  have hfd:f.Day≤day:=by simp[O2]at hsk;omega
  refine Ak (Ab (Af (J (Ar (Af (J (Ai (Ap (A9 (σ:=Nat×Bool) (fun s w=>(s.1≤L.length)∧(s.2=dU L day i f s.1)∧(Up w0 w)∧(Blk w B4 #[.slice none 0 0,.slice none 0 0,.slice none 0 0,.slice none 0 0,.slice none 0 0,.slice none 0 0,.slice none 0 0,.slice none 0 0,.slice none 0 0,.slice none 0 0,.slice none 0 0] 39)∧(Blk w B5 bc 39)∧(LsO w 51 bc (qL L day i))∧(Blk w B7 f.cells 51)) (fun s=>[(10,.eq (vi (s.1:Int))),(9,.eq (.bool s.2))]) ([(0,.eq _),(1,.eq _),(4,.eq _),(5,.eq _),(6,.eq _),(7,.eq _),(8,.eq _)]) (fun s=>L.length-s.1) (0,true) ?_ tQ ?_)))))))))
  ·exact⟨ao _,rfl,hW,hB4,hB5,hL,hB7⟩
  rintro⟨k,c⟩ w8 ⟨hk,hc,hW,hB4,hB5,hL,hB7⟩
  dsimp only at hk hc
  change CW _ _ _ _ _ _ _ ([(10,.eq (vi (k:Int))),(9,.eq (.bool c))]++_) _
  refine Al (Af (Ac rfl (Ac rfl (I (.Df k6 (.t rfl)) (I (.l2 rfl rfl) (Ac rfl (Dk rfl rfl (I (.pa rfl (fun hp=>(by exact .cond rfl (by(rw[hp];rfl))))) (Ai (CW.b rfl (fun h43=>?_) (fun h43=>?_)))))))))))
  ·replace h43:=dQ h43
   have hkc:k<L.length∧c=true:=by simpa using h43
   obtain⟨hkl,hct⟩:=hkc
   refine Ak (Ab (Al (Ap (Al ?_))))
   obtain⟨g,hg⟩:=Av (xs:=L) (i:=k) oQ
   obtain⟨Bg,og,ag,hcg⟩:=(Els.up hE hW) k g hg
   refine Aa (Ac rfl (Ac rfl (I (.Ay k6 k7 (.t rfl) (.t rfl) oQ ag) (I (.fB 3 rfl) (I (.lb rfl (hcg.nth (j:=3) rfl)) (Ac rfl (I (.leq (.t rfl) (.t rfl)) (Ac rfl (Dk rfl rfl (Dk rfl rfl (LW.gr rfl (fun hc=>PEv.Ay k6 k7 vQ vQ oQ ag) (LW.gr rfl (fun hc=>PEv.Ef m2 k7 rfl vQ (hcg)) (Z5 rfl rfl rfl rfl rfl rfl rfl rfl (fun hc=>Bq (.cons vQ .nil) (wV)) (fun hc=>Rm g _) ?_)))))))))))))
   intro w9 uw9
   replace hW:=hW.up uw9
   replace hB4:=hB4.up uw9
   replace hB5:=hB5.up uw9
   replace hL:=hL.up uw9
   replace hB7:=hB7.up uw9
   refine Dk rfl rfl (LW.gr rfl (fun hc=>Gp vQ vQ) (I (.val (v':=.bool (decide (g.Day≤day)&&decide (Bm g=Bm f))) (PEv.pa rfl (fun hp=>(by exact .cond rfl (by(rw[hp];rfl))))) (by rw[vP])) (LW.A rfl (Ai ?_))))
   obtain⟨Bg,og,ag,hcg⟩:=(Els.up hE hW) k g hg
   refine Cg kQ kQ rfl rfl (Am (.mv rfl) (Am (.n1 rfl) (Am (.mv rfl) (Ld rfl rfl rfl rfl rfl rfl (fun hc=>PEv.mv rfl) (Ld rfl rfl rfl rfl rfl rfl (fun hc=>PEv.mv rfl) (Ld rfl rfl rfl rfl rfl rfl (fun hc=>PEv.Ay k6 k7 vQ vQ oQ ag) (Ld rfl rfl rfl rfl rfl rfl (fun hc=>PEv.Ef m2 k7 rfl vQ (hcg)) (Ld rfl rfl rfl rfl rfl rfl (fun hc=>PEv.lc rfl (hB7.agg)) (FV rfl rfl rfl rfl rfl rfl (fun hc a w _ ha=>Bq (.cons vQ (.cons vQ .nil)) (NG) a ha) (fun hc w hu=>Wn g f _) (Ld rfl rfl rfl rfl rfl rfl (fun hc=>PEv.not vQ) (Ld rfl rfl rfl rfl rfl rfl (fun hc=>PEv.move vQ) (Mt rfl rfl rfl rfl rfl rfl (fun hc=>PEv.mv rfl) (Mt rfl rfl rfl rfl rfl rfl (fun hc=>PEv.mv rfl) (Mt rfl rfl rfl rfl rfl rfl (fun hc=>PEv.geq vQ vQ) (Mt rfl rfl rfl rfl rfl rfl (fun hc=>PEv.move vQ) (Mt rfl rfl rfl rfl rfl rfl (fun hc=>PEv.mv rfl) (Mt rfl rfl rfl rfl rfl rfl (fun hc=>PEv.mv rfl) (Mt rfl rfl rfl rfl rfl rfl (fun hc=>PEv.Ay k6 k7 vQ vQ oQ ag) (Mt rfl rfl rfl rfl rfl rfl (fun hc=>PEv.Ef m2 k7 rfl vQ (hcg)) (Mt rfl rfl rfl rfl rfl rfl (fun hc=>PEv.lc rfl (hB7.agg)) (Mt rfl rfl rfl rfl rfl rfl (fun hc=>PEv.wJ m4 (Hk _ _) vQ vQ) (Mt rfl rfl rfl rfl rfl rfl (fun hc=>PEv.Ee vQ (fun hp=>(by exact .cond rfl (by(rw[hc,hp];rfl))))) (Ld rfl rfl rfl rfl rfl rfl (fun hc=>PEv.De vQ (fun hp=>(by exact .cond rfl (by(rw[hc,hp];rfl))))) (Am (.val (v':=.bool (!Lt day i f k g)) (PEv.po rfl (fun hp=>(by exact .cond rfl (by(rw[hp];rfl))))) (by rw[←vR hfd])) (Am (.assign (.t rfl)) (HW.nil ?_))))))))))))))))))))))))))
   intro w10 uw10
   replace hW:=hW.up uw10
   replace hB4:=hB4.up uw10
   replace hB5:=hB5.up uw10
   replace hL:=hL.up uw10
   replace hB7:=hB7.up uw10
   refine Ae (Ab (Aa (Ac rfl (I (.ic rfl oQ) (LW.A rfl (LW.nil (Aq ?_)))))))
   exact⟨(k+1,!Lt day i f k g),⟨by show k+1≤_;omega,by show(!Lt day i f k g)=_;cases hbb:Lt day i f k g with|true=>exact(AO hg hbb).symm|false=>rw[FC hg hbb,←hc,hct];rfl,hW,hB4,hB5,hL,hB7⟩,tQ,by show L.length-(k+1)<L.length-k;omega⟩
  replace h43:=dQ h43
  have hend:dU L day i f L.length=c:=by
   cases c with
   |false=>exact Yi hc.symm hk
   |true=>rw[show L.length=k by simp at h43;omega];exact hc.symm
  refine A7 (Ad (Ad (Au (Ab (Al (Af (Ac rfl (I (.n1 rfl) (Ai (CW.b rfl (fun h87=>?_) (fun h87=>?_)))))))))))
  ·replace h87:=dQ h87
   have hbf:dU L day i f L.length=false:=by rw[hend];simpa using h87
   have hkl:=av L.length
   refine A7 (Ad (Au (Ab (Aa (Ac rfl (I (.ic rfl oQ) (LW.A rfl (LW.nil (Aq ?_)))))))))
   exact⟨(i+1,bc),⟨by show i+1≤_;omega,hW,hB4,hB5,by rw[vO hf (by exact .inr (Yi hbf hkl))];exact hL⟩,tQ,by show L.length-(i+1)<L.length-i;omega⟩
  replace h87:=dQ h87
  have hbt:dU L day i f L.length=true:=by rw[hend];simpa using h87
  refine Ak (Ab (Af (I (.fB 0 rfl) (I (.lb rfl (hB7.An rfl)) (Ai (Ap (Af (I (.eql (.t rfl) (.const _)) (LW.A rfl (Ai (CW.b rfl (fun h95=>?_) (fun h95=>?_))))))))))))
  ·replace h95:=dQ h95
   have hkd:f.Kind=(((0:Nat)+1:Nat):Int):=h95
   obtain⟨v,hv,hO⟩:=hL.2 0 cQ
   obtain⟨adv,cpv,rfl,hEv⟩:=hO.sl (fun _=>rfl)
   have hrl:=bb (Gx (qL L day i) 0) (Mo L day i)
   have hcv:=Gi hO
   refine Aa (I (.fB 0 rfl) (I (.lb rfl (hB5.cell hv)) (I (.lc rfl (hB7.agg)) (A3 (eC (.u rfl rfl) (T2)) rfl (Gy adv cpv _ f _ hEv hcv oQ) ?_))))
   rintro v100 w11 ⟨p,hp,hO2,uw11⟩
   replace hW:=hW.up uw11
   replace hB4:=hB4.up uw11
   replace hB5:=hB5.up uw11
   replace hL:=hL.up uw11
   replace hB7:=hB7.up uw11
   refine I (.fB 0 rfl) (Bh (.store mf (.t rfl) (.t rfl) hO2.one hB5 (by rw[hL.1];exact ah rfl)) ?_)
   intro w12 Nw12
   replace hW:=hW.sto Nw12.sto oQ
   replace hB4:=hB4.sto Nw12.sto oQ
   replace hL:=hL.sto hB5 cQ Nw12.sto
   replace hB7:=hB7.sto Nw12.sto oQ
   replace hO2:=hO2.S8 hB5 cQ Nw12.sto
   replace hB5:=Nw12.blk
   refine LW.nil (Ae (Ae (Ab (Aa (Ac rfl (I (.ic rfl oQ) (LW.A rfl (LW.nil (Aq ?_)))))))))
   exact⟨(i+1,bc.setIfInBounds 0 v100),⟨by show i+1≤_;omega,hW,hB4,hB5,by rw[Np hf hsk hbt];exact LsO.put hL hkd cQ hp hO2⟩,tQ,by show L.length-(i+1)<L.length-i;omega⟩
  replace h95:=dQ h95
  refine Af (I (.eql (.t rfl) (.const _)) (LW.A rfl (Ai (CW.b rfl (fun h102=>?_) (fun h102=>?_)))))
  ·replace h102:=dQ h102
   have hkd:f.Kind=(((1:Nat)+1:Nat):Int):=h102
   obtain⟨v,hv,hO⟩:=hL.2 1 cQ
   obtain⟨adv,cpv,rfl,hEv⟩:=hO.sl (fun _=>rfl)
   have hrl:=bb (Gx (qL L day i) 1) (Mo L day i)
   have hcv:=Gi hO
   refine Aa (I (.fB 1 rfl) (I (.lb rfl (hB5.cell hv)) (I (.lc rfl (hB7.agg)) (A3 (eC (.u rfl rfl) (T2)) rfl (Gy adv cpv _ f _ hEv hcv oQ) ?_))))
   rintro v107 w13 ⟨p,hp,hO2,uw13⟩
   replace hW:=hW.up uw13
   replace hB4:=hB4.up uw13
   replace hB5:=hB5.up uw13
   replace hL:=hL.up uw13
   replace hB7:=hB7.up uw13
   refine I (.fB 1 rfl) (Bh (.store mf (.t rfl) (.t rfl) hO2.one hB5 (by rw[hL.1];exact ah rfl)) ?_)
   intro w14 Nw14
   replace hW:=hW.sto Nw14.sto oQ
   replace hB4:=hB4.sto Nw14.sto oQ
   replace hL:=hL.sto hB5 cQ Nw14.sto
   replace hB7:=hB7.sto Nw14.sto oQ
   replace hO2:=hO2.S8 hB5 cQ Nw14.sto
   replace hB5:=Nw14.blk
   refine LW.nil (Ae (Ae (Ab (Aa (Ac rfl (I (.ic rfl oQ) (LW.A rfl (LW.nil (Aq ?_)))))))))
   exact⟨(i+1,bc.setIfInBounds 1 v107),⟨by show i+1≤_;omega,hW,hB4,hB5,by rw[Np hf hsk hbt];exact LsO.put hL hkd cQ hp hO2⟩,tQ,by show L.length-(i+1)<L.length-i;omega⟩
  replace h102:=dQ h102
  refine Af (I (.eql (.t rfl) (.const _)) (LW.A rfl (Ai (CW.b rfl (fun h109=>?_) (fun h109=>?_)))))
  ·replace h109:=dQ h109
   have hkd:f.Kind=(((2:Nat)+1:Nat):Int):=h109
   obtain⟨v,hv,hO⟩:=hL.2 2 cQ
   obtain⟨adv,cpv,rfl,hEv⟩:=hO.sl (fun _=>rfl)
   have hrl:=bb (Gx (qL L day i) 2) (Mo L day i)
   have hcv:=Gi hO
   refine Aa (I (.fB 2 rfl) (I (.lb rfl (hB5.cell hv)) (I (.lc rfl (hB7.agg)) (A3 (eC (.u rfl rfl) (T2)) rfl (Gy adv cpv _ f _ hEv hcv oQ) ?_))))
   rintro v114 w15 ⟨p,hp,hO2,uw15⟩
   replace hW:=hW.up uw15
   replace hB4:=hB4.up uw15
   replace hB5:=hB5.up uw15
   replace hL:=hL.up uw15
   replace hB7:=hB7.up uw15
   refine I (.fB 2 rfl) (Bh (.store mf (.t rfl) (.t rfl) hO2.one hB5 (by rw[hL.1];exact ah rfl)) ?_)
   intro w16 Nw16
   replace hW:=hW.sto Nw16.sto oQ
   replace hB4:=hB4.sto Nw16.sto oQ
   replace hL:=hL.sto hB5 cQ Nw16.sto
   replace hB7:=hB7.sto Nw16.sto oQ
   replace hO2:=hO2.S8 hB5 cQ Nw16.sto
   replace hB5:=Nw16.blk
   refine LW.nil (Ae (Ae (Ab (Aa (Ac rfl (I (.ic rfl oQ) (LW.A rfl (LW.nil (Aq ?_)))))))))
   exact⟨(i+1,bc.setIfInBounds 2 v114),⟨by show i+1≤_;omega,hW,hB4,hB5,by rw[Np hf hsk hbt];exact LsO.put hL hkd cQ hp hO2⟩,tQ,by show L.length-(i+1)<L.length-i;omega⟩
  replace h109:=dQ h109
  refine Af (I (.eql (.t rfl) (.const _)) (LW.A rfl (Ai (CW.b rfl (fun h116=>?_) (fun h116=>?_)))))
  ·replace h116:=dQ h116
   have hkd:f.Kind=(((3:Nat)+1:Nat):Int):=h116
   obtain⟨v,hv,hO⟩:=hL.2 3 cQ
   obtain⟨adv,cpv,rfl,hEv⟩:=hO.sl (fun _=>rfl)
   have hrl:=bb (Gx (qL L day i) 3) (Mo L day i)
   have hcv:=Gi hO
   refine Aa (I (.fB 3 rfl) (I (.lb rfl (hB5.cell hv)) (I (.lc rfl (hB7.agg)) (A3 (eC (.u rfl rfl) (T2)) rfl (Gy adv cpv _ f _ hEv hcv oQ) ?_))))
   rintro v121 w17 ⟨p,hp,hO2,uw17⟩
   replace hW:=hW.up uw17
   replace hB4:=hB4.up uw17
   replace hB5:=hB5.up uw17
   replace hL:=hL.up uw17
   replace hB7:=hB7.up uw17
   refine I (.fB 3 rfl) (Bh (.store mf (.t rfl) (.t rfl) hO2.one hB5 (by rw[hL.1];exact ah rfl)) ?_)
   intro w18 Nw18
   replace hW:=hW.sto Nw18.sto oQ
   replace hB4:=hB4.sto Nw18.sto oQ
   replace hL:=hL.sto hB5 cQ Nw18.sto
   replace hB7:=hB7.sto Nw18.sto oQ
   replace hO2:=hO2.S8 hB5 cQ Nw18.sto
   replace hB5:=Nw18.blk
   refine LW.nil (Ae (Ae (Ab (Aa (Ac rfl (I (.ic rfl oQ) (LW.A rfl (LW.nil (Aq ?_)))))))))
   exact⟨(i+1,bc.setIfInBounds 3 v121),⟨by show i+1≤_;omega,hW,hB4,hB5,by rw[Np hf hsk hbt];exact LsO.put hL hkd cQ hp hO2⟩,tQ,by show L.length-(i+1)<L.length-i;omega⟩
  replace h116:=dQ h116
  refine Af (I (.eql (.t rfl) (.const _)) (LW.A rfl (Ai (CW.b rfl (fun h123=>?_) (fun h123=>?_)))))
  ·replace h123:=dQ h123
   have hkd:f.Kind=(((4:Nat)+1:Nat):Int):=h123
   obtain⟨v,hv,hO⟩:=hL.2 4 cQ
   obtain⟨adv,cpv,rfl,hEv⟩:=hO.sl (fun _=>rfl)
   have hrl:=bb (Gx (qL L day i) 4) (Mo L day i)
   have hcv:=Gi hO
   refine Aa (I (.fB 4 rfl) (I (.lb rfl (hB5.cell hv)) (I (.lc rfl (hB7.agg)) (A3 (eC (.u rfl rfl) (T2)) rfl (Gy adv cpv _ f _ hEv hcv oQ) ?_))))
   rintro v128 w19 ⟨p,hp,hO2,uw19⟩
   replace hW:=hW.up uw19
   replace hB4:=hB4.up uw19
   replace hB5:=hB5.up uw19
   replace hL:=hL.up uw19
   replace hB7:=hB7.up uw19
   refine I (.fB 4 rfl) (Bh (.store mf (.t rfl) (.t rfl) hO2.one hB5 (by rw[hL.1];exact ah rfl)) ?_)
   intro w20 Nw20
   replace hW:=hW.sto Nw20.sto oQ
   replace hB4:=hB4.sto Nw20.sto oQ
   replace hL:=hL.sto hB5 cQ Nw20.sto
   replace hB7:=hB7.sto Nw20.sto oQ
   replace hO2:=hO2.S8 hB5 cQ Nw20.sto
   replace hB5:=Nw20.blk
   refine LW.nil (Ae (Ae (Ab (Aa (Ac rfl (I (.ic rfl oQ) (LW.A rfl (LW.nil (Aq ?_)))))))))
   exact⟨(i+1,bc.setIfInBounds 4 v128),⟨by show i+1≤_;omega,hW,hB4,hB5,by rw[Np hf hsk hbt];exact LsO.put hL hkd cQ hp hO2⟩,tQ,by show L.length-(i+1)<L.length-i;omega⟩
  replace h123:=dQ h123
  refine Af (I (.eql (.t rfl) (.const _)) (LW.A rfl (Ai (CW.b rfl (fun h130=>?_) (fun h130=>?_)))))
  ·replace h130:=dQ h130
   have hkd:f.Kind=(((5:Nat)+1:Nat):Int):=h130
   obtain⟨v,hv,hO⟩:=hL.2 5 cQ
   obtain⟨adv,cpv,rfl,hEv⟩:=hO.sl (fun _=>rfl)
   have hrl:=bb (Gx (qL L day i) 5) (Mo L day i)
   have hcv:=Gi hO
   refine Aa (I (.fB 5 rfl) (I (.lb rfl (hB5.cell hv)) (I (.lc rfl (hB7.agg)) (A3 (eC (.u rfl rfl) (T2)) rfl (Gy adv cpv _ f _ hEv hcv oQ) ?_))))
   rintro v135 w21 ⟨p,hp,hO2,uw21⟩
   replace hW:=hW.up uw21
   replace hB4:=hB4.up uw21
   replace hB5:=hB5.up uw21
   replace hL:=hL.up uw21
   replace hB7:=hB7.up uw21
   refine I (.fB 5 rfl) (Bh (.store mf (.t rfl) (.t rfl) hO2.one hB5 (by rw[hL.1];exact ah rfl)) ?_)
   intro w22 Nw22
   replace hW:=hW.sto Nw22.sto oQ
   replace hB4:=hB4.sto Nw22.sto oQ
   replace hL:=hL.sto hB5 cQ Nw22.sto
   replace hB7:=hB7.sto Nw22.sto oQ
   replace hO2:=hO2.S8 hB5 cQ Nw22.sto
   replace hB5:=Nw22.blk
   refine LW.nil (Ae (Ae (Ab (Aa (Ac rfl (I (.ic rfl oQ) (LW.A rfl (LW.nil (Aq ?_)))))))))
   exact⟨(i+1,bc.setIfInBounds 5 v135),⟨by show i+1≤_;omega,hW,hB4,hB5,by rw[Np hf hsk hbt];exact LsO.put hL hkd cQ hp hO2⟩,tQ,by show L.length-(i+1)<L.length-i;omega⟩
  replace h130:=dQ h130
  refine Af (I (.eql (.t rfl) (.const _)) (LW.A rfl (Ai (CW.b rfl (fun h137=>?_) (fun h137=>?_)))))
  ·replace h137:=dQ h137
   have hkd:f.Kind=(((6:Nat)+1:Nat):Int):=h137
   obtain⟨v,hv,hO⟩:=hL.2 6 cQ
   obtain⟨adv,cpv,rfl,hEv⟩:=hO.sl (fun _=>rfl)
   have hrl:=bb (Gx (qL L day i) 6) (Mo L day i)
   have hcv:=Gi hO
   refine Aa (I (.fB 6 rfl) (I (.lb rfl (hB5.cell hv)) (I (.lc rfl (hB7.agg)) (A3 (eC (.u rfl rfl) (T2)) rfl (Gy adv cpv _ f _ hEv hcv oQ) ?_))))
   rintro v142 w23 ⟨p,hp,hO2,uw23⟩
   replace hW:=hW.up uw23
   replace hB4:=hB4.up uw23
   replace hB5:=hB5.up uw23
   replace hL:=hL.up uw23
   replace hB7:=hB7.up uw23
   refine I (.fB 6 rfl) (Bh (.store mf (.t rfl) (.t rfl) hO2.one hB5 (by rw[hL.1];exact ah rfl)) ?_)
   intro w24 Nw24
   replace hW:=hW.sto Nw24.sto oQ
   replace hB4:=hB4.sto Nw24.sto oQ
   replace hL:=hL.sto hB5 cQ Nw24.sto
   replace hB7:=hB7.sto Nw24.sto oQ
   replace hO2:=hO2.S8 hB5 cQ Nw24.sto
   replace hB5:=Nw24.blk
   refine LW.nil (Ae (Ae (Ab (Aa (Ac rfl (I (.ic rfl oQ) (LW.A rfl (LW.nil (Aq ?_)))))))))
   exact⟨(i+1,bc.setIfInBounds 6 v142),⟨by show i+1≤_;omega,hW,hB4,hB5,by rw[Np hf hsk hbt];exact LsO.put hL hkd cQ hp hO2⟩,tQ,by show L.length-(i+1)<L.length-i;omega⟩
  replace h137:=dQ h137
  refine Af (I (.eql (.t rfl) (.const _)) (LW.A rfl (Ai (CW.b rfl (fun h144=>?_) (fun h144=>?_)))))
  ·replace h144:=dQ h144
   have hkd:f.Kind=(((7:Nat)+1:Nat):Int):=h144
   obtain⟨v,hv,hO⟩:=hL.2 7 cQ
   obtain⟨adv,cpv,rfl,hEv⟩:=hO.sl (fun _=>rfl)
   have hrl:=bb (Gx (qL L day i) 7) (Mo L day i)
   have hcv:=Gi hO
   refine Aa (I (.fB 7 rfl) (I (.lb rfl (hB5.cell hv)) (I (.lc rfl (hB7.agg)) (A3 (eC (.u rfl rfl) (T2)) rfl (Gy adv cpv _ f _ hEv hcv oQ) ?_))))
   rintro v149 w25 ⟨p,hp,hO2,uw25⟩
   replace hW:=hW.up uw25
   replace hB4:=hB4.up uw25
   replace hB5:=hB5.up uw25
   replace hL:=hL.up uw25
   replace hB7:=hB7.up uw25
   refine I (.fB 7 rfl) (Bh (.store mf (.t rfl) (.t rfl) hO2.one hB5 (by rw[hL.1];exact ah rfl)) ?_)
   intro w26 Nw26
   replace hW:=hW.sto Nw26.sto oQ
   replace hB4:=hB4.sto Nw26.sto oQ
   replace hL:=hL.sto hB5 cQ Nw26.sto
   replace hB7:=hB7.sto Nw26.sto oQ
   replace hO2:=hO2.S8 hB5 cQ Nw26.sto
   replace hB5:=Nw26.blk
   refine LW.nil (Ae (Ae (Ab (Aa (Ac rfl (I (.ic rfl oQ) (LW.A rfl (LW.nil (Aq ?_)))))))))
   exact⟨(i+1,bc.setIfInBounds 7 v149),⟨by show i+1≤_;omega,hW,hB4,hB5,by rw[Np hf hsk hbt];exact LsO.put hL hkd cQ hp hO2⟩,tQ,by show L.length-(i+1)<L.length-i;omega⟩
  replace h144:=dQ h144
  refine Af (I (.eql (.t rfl) (.const _)) (LW.A rfl (Ai (CW.b rfl (fun h151=>?_) (fun h151=>?_)))))
  ·replace h151:=dQ h151
   have hkd:f.Kind=(((8:Nat)+1:Nat):Int):=h151
   obtain⟨v,hv,hO⟩:=hL.2 8 cQ
   obtain⟨adv,cpv,rfl,hEv⟩:=hO.sl (fun _=>rfl)
   have hrl:=bb (Gx (qL L day i) 8) (Mo L day i)
   have hcv:=Gi hO
   refine Aa (I (.fB 8 rfl) (I (.lb rfl (hB5.cell hv)) (I (.lc rfl (hB7.agg)) (A3 (eC (.u rfl rfl) (T2)) rfl (Gy adv cpv _ f _ hEv hcv oQ) ?_))))
   rintro v156 w27 ⟨p,hp,hO2,uw27⟩
   replace hW:=hW.up uw27
   replace hB4:=hB4.up uw27
   replace hB5:=hB5.up uw27
   replace hL:=hL.up uw27
   replace hB7:=hB7.up uw27
   refine I (.fB 8 rfl) (Bh (.store mf (.t rfl) (.t rfl) hO2.one hB5 (by rw[hL.1];exact ah rfl)) ?_)
   intro w28 Nw28
   replace hW:=hW.sto Nw28.sto oQ
   replace hB4:=hB4.sto Nw28.sto oQ
   replace hL:=hL.sto hB5 cQ Nw28.sto
   replace hB7:=hB7.sto Nw28.sto oQ
   replace hO2:=hO2.S8 hB5 cQ Nw28.sto
   replace hB5:=Nw28.blk
   refine LW.nil (Ae (Ae (Ab (Aa (Ac rfl (I (.ic rfl oQ) (LW.A rfl (LW.nil (Aq ?_)))))))))
   exact⟨(i+1,bc.setIfInBounds 8 v156),⟨by show i+1≤_;omega,hW,hB4,hB5,by rw[Np hf hsk hbt];exact LsO.put hL hkd cQ hp hO2⟩,tQ,by show L.length-(i+1)<L.length-i;omega⟩
  replace h151:=dQ h151
  refine Af (I (.eql (.t rfl) (.const _)) (LW.A rfl (Ai (CW.b rfl (fun h158=>?_) (fun h158=>?_)))))
  ·replace h158:=dQ h158
   have hkd:f.Kind=(((9:Nat)+1:Nat):Int):=h158
   obtain⟨v,hv,hO⟩:=hL.2 9 cQ
   obtain⟨adv,cpv,rfl,hEv⟩:=hO.sl (fun _=>rfl)
   have hrl:=bb (Gx (qL L day i) 9) (Mo L day i)
   have hcv:=Gi hO
   refine Aa (I (.fB 9 rfl) (I (.lb rfl (hB5.cell hv)) (I (.lc rfl (hB7.agg)) (A3 (eC (.u rfl rfl) (T2)) rfl (Gy adv cpv _ f _ hEv hcv oQ) ?_))))
   rintro v163 w29 ⟨p,hp,hO2,uw29⟩
   replace hW:=hW.up uw29
   replace hB4:=hB4.up uw29
   replace hB5:=hB5.up uw29
   replace hL:=hL.up uw29
   replace hB7:=hB7.up uw29
   refine I (.fB 9 rfl) (Bh (.store mf (.t rfl) (.t rfl) hO2.one hB5 (by rw[hL.1];exact ah rfl)) ?_)
   intro w30 Nw30
   replace hW:=hW.sto Nw30.sto oQ
   replace hB4:=hB4.sto Nw30.sto oQ
   replace hL:=hL.sto hB5 cQ Nw30.sto
   replace hB7:=hB7.sto Nw30.sto oQ
   replace hO2:=hO2.S8 hB5 cQ Nw30.sto
   replace hB5:=Nw30.blk
   refine LW.nil (Ae (Ae (Ab (Aa (Ac rfl (I (.ic rfl oQ) (LW.A rfl (LW.nil (Aq ?_)))))))))
   exact⟨(i+1,bc.setIfInBounds 9 v163),⟨by show i+1≤_;omega,hW,hB4,hB5,by rw[Np hf hsk hbt];exact LsO.put hL hkd cQ hp hO2⟩,tQ,by show L.length-(i+1)<L.length-i;omega⟩
  replace h158:=dQ h158
  have hkd:f.Kind=(((10:Nat)+1:Nat):Int):=by have:=Dq (Hh hk0);omega
  obtain⟨v,hv,hO⟩:=hL.2 10 cQ
  obtain⟨adv,cpv,rfl,hEv⟩:=hO.sl (fun _=>rfl)
  have hrl:=bb (Gx (qL L day i) 10) (Mo L day i)
  have hcv:=Gi hO
  refine Aa (I (.fB 10 rfl) (I (.lb rfl (hB5.cell hv)) (I (.lc rfl (hB7.agg)) (A3 (eC (.u rfl rfl) (T2)) rfl (Gy adv cpv _ f _ hEv hcv oQ) ?_))))
  rintro v93 w31 ⟨p,hp,hO2,uw31⟩
  replace hW:=hW.up uw31
  replace hB4:=hB4.up uw31
  replace hB5:=hB5.up uw31
  replace hL:=hL.up uw31
  replace hB7:=hB7.up uw31
  refine I (.fB 10 rfl) (Bh (.store mf (.t rfl) (.t rfl) hO2.one hB5 (by rw[hL.1];exact ah rfl)) ?_)
  intro w32 Nw32
  replace hW:=hW.sto Nw32.sto oQ
  replace hB4:=hB4.sto Nw32.sto oQ
  replace hL:=hL.sto hB5 cQ Nw32.sto
  replace hB7:=hB7.sto Nw32.sto oQ
  replace hO2:=hO2.S8 hB5 cQ Nw32.sto
  replace hB5:=Nw32.blk
  refine LW.nil (Ae (Ae (Ab (Aa (Ac rfl (I (.ic rfl oQ) (LW.A rfl (LW.nil (Aq ?_)))))))))
  exact⟨(i+1,bc.setIfInBounds 10 v93),⟨by show i+1≤_;omega,hW,hB4,hB5,by rw[Np hf hsk hbt];exact LsO.put hL hkd cQ hp hO2⟩,tQ,by show L.length-(i+1)<L.length-i;omega⟩
 replace h16:=dQ h16
 refine A7 (Ad (Ad (Au (Ab (Af (I (.Ef l7 lw (hL.1) (.t rfl) (hB5.agg)) (Bh (.A5 lw (hL.1) (.t rfl) (.t rfl) (hL.one) hB4 rfl) ?_)))))))
 intro w33 Nw33
 replace hW:=hW.sto Nw33.sto oQ
 replace hB5:=hB5.sto Nw33.sto oQ
 replace hL:=hL.sto hB4 cQ Nw33.sto
 replace hB4:=Nw33.blk
 refine Ai (Aj (Dy rfl rfl l7 lw (hL.1) (hB4.agg) ⟨_,rfl,?_⟩))
 exact⟨_,rfl,pA hL (fun j hj=>by rw[show i=L.length by omega];exact AP L day hj),hW⟩
theorem eK(ad:Option Addr)(cp:Nat)(l:List Fact)(f:Fact)(w:World)(hE:Els w ad 19 Fact.cells l)(hl:l.length≤1000000):Ret prog 65 #[.slice ad l.length cp,.agg f.cells] w fun r w'=>r=.bool (Tr l f)∧Up w w':=by
 obtain⟨w0,rfl,hS⟩:=W0 w
 refine cT 18 func65 rfl (Af (Ao (.bA rfl) rfl ?_))
 rintro _ w1 ⟨B3,rfl,NB3⟩
 replace hS:=hS.Bn NB3
 refine J (Ar (Af (J (Ai (Ap (A9 (σ:=Nat) (fun s w=>(s≤l.length)∧(Tr (l.take s) f=false)∧(Wx.Sep no w0 w [Ch B3 f.cells 51])) (fun s=>[(5,.eq (vi (s:Int)))]) ([(0,.eq _),(3,.eq _)]) (fun s=>l.length-s) 0 ?_ tQ ?_))))))
 ·exact⟨ao _,rfl,hS⟩
 rintro k w2 ⟨hk,hn,hS⟩
 refine Al (Af (Ac rfl (Ac rfl (I (.Df k6 (.t rfl)) (I (.l2 rfl rfl) (Ai (CW.b rfl (fun h9=>?_) (fun h9=>?_))))))))
 ·replace h9:=dQ h9
  refine Ak (Ab (Al (Ap (Al ?_))))
  obtain⟨x,hx⟩:=Av (xs:=l) (i:=k) oQ
  obtain⟨Bx,ox,ax,hcx⟩:=(Els.up hE hS.Cj) k x hx
  refine Cg kQ kQ rfl rfl (Am (.mv rfl) (Am (.mv rfl) (Am (.Ay k6 k7 (.t rfl) (.t rfl) oQ ax) (Am (.lc rfl (hcx)) (Am (.lc rfl (hS.b0.agg)) (Am (.Yl m4 (Hk _ _) (.t rfl) (.t rfl)) (HW.nil ?_)))))))
  intro w3 uw3
  replace hS:=hS.up uw3
  replace hcx:=hcx.up uw3
  refine Ab (CW.b rfl (fun h17=>?_) (fun h17=>?_))
  ·replace h17:=dQ h17
   have hr:=AT hx h17
   refine Af (J (Ai (Aj (Aw (Ah (Ah (Aw (Ah (KW.q ?_)))))))))
   exact⟨by rw[hr],hS.Cj⟩
  replace h17:=dQ h17
  skip
  refine Ak (Ae (Ab (Aa (Ac rfl (I (.ic rfl oQ) (LW.A rfl (LW.nil (Aq ?_))))))))
  exact⟨k+1,⟨by omega,vS hx h17 hn,hS.take 1⟩,tQ,by omega⟩
 replace h9:=dQ h9
 have hkl:k=l.length:=by omega
 rw[hkl,br]at hn
 refine A7 (Ad (Ad (Au (Ab (Af (J (Ai (Aj (KW.q ?_)))))))))
 exact⟨by rw[hn],hS.Cj⟩
theorem Kz(ada adb:Option Addr)(cpa cpb:Nat)(a b:List Fact)(w:World)(hEa:Els w ada 19 Fact.cells a)(hEb:Els w adb 19 Fact.cells b)(hla:a.length≤100000)(hlb:b.length≤100000):Ret prog 34 #[.slice ada a.length cpa,.slice adb b.length cpb] w fun r w'=>OwnS w' w.heap.size 51 19 Fact.cells r (Ot a b)∧Up w w':=by
 obtain⟨w0,rfl,hS⟩:=W0 w
 refine cT 53 func34 rfl (Af (J (Ar (Aa (J (Ar (Al ?_)))))))
 replace hS:=hS.add (Up.refl _) (A':=A8 51 19 Fact.cells (.slice none 0 0) ([]:List Fact)) (OwnS.nil _ _ _ _ _) (fun i h=>by cases h)
 refine Aa (J (Ai (Ap (A9 (σ:=Nat×Go.Value) (fun s w=>(s.1≤a.length)∧(Wx.Sep no w0 w [A8 51 19 Fact.cells (s.2) ((a.take s.1).filter (fun x=> !Tr b x))])) (fun s=>[(6,.eq (vi (s.1:Int))),(5,.eq (s.2))]) ([(0,.eq _),(1,.eq _),(4,.eq _)]) (fun s=>a.length-s.1) (0,.slice none 0 0) ?_ tQ ?_))))
 ·exact⟨ao _,hS⟩
 rintro⟨k,v⟩ w1 ⟨hk,hS⟩
 change CW _ _ _ _ _ _ _ ([(6,.eq (vi (k:Int))),(5,.eq (v))]++_) _
 refine Al (Af (Ac rfl (Ac rfl (I (.Df k6 (.t rfl)) (I (.l2 rfl rfl) (Ai (CW.b rfl (fun h13=>?_) (fun h13=>?_))))))))
 ·replace h13:=dQ h13
  refine Ak (Ab (Al (Ap (Al ?_))))
  obtain⟨x,hx⟩:=Av (xs:=a) (i:=k) oQ
  obtain⟨Bx,ox,ax,hcx⟩:=(Els.up hEa hS.Cj) k x hx
  refine Aa (Ac rfl (Ac rfl (Ac rfl (I (.Ay k6 k7 (.t rfl) (.t rfl) oQ ax) (I (.lc rfl (hcx)) (A3 (eC (.u rfl rfl) (GR)) rfl (eK adb cpb b x _ (Els.up hEb hS.Cj) oQ) ?_))))))
  rintro _ w2 ⟨rfl,uw2⟩
  replace hS:=hS.up uw2
  replace hcx:=hcx.up uw2
  refine LW.A rfl (Ar (Aa (Ac rfl (I (.n1 rfl) (Ai (CW.b rfl (fun h23=>?_) (fun h23=>?_)))))))
  ·replace h23:=dQ h23
   have hp:(fun x=> !Tr b x) x=true:=h23
   refine Aa (Ac rfl (Ac rfl (Ac rfl (I (.Ay k6 k7 (.t rfl) (.t rfl) oQ ax) (I (.lc rfl (hcx)) (Ao (.buildSlice (xs:=[x]) (enc:=Fact.cells) (mk:=fun f:Fact=>.agg f.cells) k6 k7 k_ rfl cQ (fun _=>rfl) (fun _=>rfl) (.cu rfl) rfl) rfl ?_))))))
   rintro _ w3 ⟨B29,cB29,rfl,NB29,yB29,xB29⟩
   replace hS:=hS.up NB29.up
   replace hcx:=hcx.up NB29.up
   have hE29:=xB29
   refine Ao (.Cu (enc:=Fact.cells) (bytes:=160) (i:=Tryz.t51) k6 kQ rfl rfl rfl rfl cQ (fun _=>rfl) Fact.one (.t rfl) (.t rfl) (hS.own 0 rfl) (Az hE29) (by have:=H5 (fun x=> !Tr b x) a k;simp[maxLen];omega) (by have:=H5 (fun x=> !Tr b x) a k;simp;omega)) rfl ?_
   intro v30 w4 Gw4
   replace hS:=hS.E5 0 rfl Gw4
   refine LW.A rfl (LW.nil (Ae (Ab (Aa (Ac rfl (I (.ic rfl oQ) (LW.A rfl (LW.nil (Aq ?_)))))))))
   exact⟨(k+1,v30),⟨by show k+1≤_;omega,by(rw[M5 hx hp];exact hS.take 1)⟩,tQ,by show a.length-(k+1)<a.length-k;omega⟩
  replace h23:=dQ h23
  have hp:(fun x=> !Tr b x) x=false:=h23
  refine Ak (Ae (Ab (Aa (Ac rfl (I (.ic rfl oQ) (LW.A rfl (LW.nil (Aq ?_))))))))
  exact⟨(k+1,v),⟨by show k+1≤_;omega,by(rw[U3 hx hp];exact hS.take 1)⟩,tQ,by show a.length-(k+1)<a.length-k;omega⟩
 replace h13:=dQ h13
 refine A7 (Ad (Ad (Au (Ab (Al (Al ?_))))))
 have hkl:k=a.length:=by omega
 rw[hkl,br]at hS
 refine Aa (J (Ai (Ap (A9 (σ:=Nat×Go.Value) (fun s w=>(s.1≤b.length)∧(Wx.Sep no w0 w [A8 51 19 Fact.cells (s.2) (a.filter (fun x=> !Tr b x)++(b.take s.1).filter (fun x=> !Tr a x))])) (fun s=>[(8,.eq (vi (s.1:Int))),(5,.eq (s.2))]) ([(0,.eq _),(1,.eq _),(4,.eq _)]) (fun s=>b.length-s.1) (0,v) ?_ tQ ?_))))
 ·exact⟨ao _,by rw[jc,ir,dy];exact hS⟩
 rintro⟨j,u⟩ w5 ⟨hj,hS⟩
 change CW _ _ _ _ _ _ _ ([(8,.eq (vi (j:Int))),(5,.eq (u))]++_) _
 refine Al (Af (Ac rfl (Ac rfl (I (.Df k6 (.t rfl)) (I (.l2 rfl rfl) (Ai (CW.b rfl (fun h34=>?_) (fun h34=>?_))))))))
 ·replace h34:=dQ h34
  refine Ak (Ab (Al (Ap (Al ?_))))
  obtain⟨x,hx⟩:=Av (xs:=b) (i:=j) oQ
  obtain⟨Bx,ox,ax,hcx⟩:=(Els.up hEb hS.Cj) j x hx
  refine Aa (Ac rfl (Ac rfl (Ac rfl (I (.Ay k6 k7 (.t rfl) (.t rfl) oQ ax) (I (.lc rfl (hcx)) (A3 (eC (.u rfl rfl) (GR)) rfl (eK ada cpa a x _ (Els.up hEa hS.Cj) oQ) ?_))))))
  rintro _ w6 ⟨rfl,uw6⟩
  replace hS:=hS.up uw6
  replace hcx:=hcx.up uw6
  refine LW.A rfl (Ar (Aa (Ac rfl (I (.n1 rfl) (Ai (CW.b rfl (fun h44=>?_) (fun h44=>?_)))))))
  ·replace h44:=dQ h44
   have hp:(fun x=> !Tr a x) x=true:=h44
   refine Aa (Ac rfl (Ac rfl (Ac rfl (I (.Ay k6 k7 (.t rfl) (.t rfl) oQ ax) (I (.lc rfl (hcx)) (Ao (.buildSlice (xs:=[x]) (enc:=Fact.cells) (mk:=fun f:Fact=>.agg f.cells) k6 k7 k_ rfl cQ (fun _=>rfl) (fun _=>rfl) (.cu rfl) rfl) rfl ?_))))))
   rintro _ w7 ⟨B50,cB50,rfl,NB50,yB50,xB50⟩
   replace hS:=hS.up NB50.up
   replace hcx:=hcx.up NB50.up
   have hE50:=xB50
   refine Ao (.Cu (enc:=Fact.cells) (bytes:=160) (i:=Tryz.t51) k6 kQ rfl rfl rfl rfl cQ (fun _=>rfl) Fact.one (.t rfl) (.t rfl) (hS.own 0 rfl) (Az hE50) (by have:=H5 (fun x=> !Tr a x) b j;have:=cm (fun x=> !Tr b x) a;simp only[maxLen,au,b9,da];omega) (by have:=H5 (fun x=> !Tr a x) b j;have:=cm (fun x=> !Tr b x) a;simp only[au,b9,da];omega)) rfl ?_
   intro v51 w8 Gw8
   replace hS:=hS.E5 0 rfl Gw8
   refine LW.A rfl (LW.nil (Ae (Ab (Aa (Ac rfl (I (.ic rfl oQ) (LW.A rfl (LW.nil (Aq ?_)))))))))
   exact⟨(j+1,v51),⟨by show j+1≤_;omega,by(rw[M5 hx hp,←dm];exact hS.take 1)⟩,tQ,by show b.length-(j+1)<b.length-j;omega⟩
  replace h44:=dQ h44
  have hp:(fun x=> !Tr a x) x=false:=h44
  refine Ak (Ae (Ab (Aa (Ac rfl (I (.ic rfl oQ) (LW.A rfl (LW.nil (Aq ?_))))))))
  exact⟨(j+1,u),⟨by show j+1≤_;omega,by(rw[U3 hx hp];exact hS.take 1)⟩,tQ,by show b.length-(j+1)<b.length-j;omega⟩
 replace h34:=dQ h34
 refine A7 (Ad (Ad (Au (Ab (Al ?_)))))
 have hjl:j=b.length:=by omega
 rw[hjl,br]at hS
 refine Aa (Ac rfl (LW.A rfl (Ai (Aj (KW.q ?_)))))
 exact⟨(hS.own 0 rfl).I1 (fun i h=>(hS.foot 0 rfl i h).resolve_left (fun h=>h)),hS.Cj⟩
theorem Z2(bc:Array Go.Value)(b:Base)(f p:Fact)(w:World)(hC:BaseC w bc b)(hl:b.Processes.length≤100000):Ret prog 36 #[.agg bc,.agg f.cells,.agg p.cells] w fun r w'=>r=.tuple #[.bool (H8 b f p),.bool (O4 b f)]∧Up w w':=by
 obtain⟨w0,rfl,hS⟩:=W0 w
 refine cT 75 func36 rfl (Af (Ao (.bA rfl) rfl ?_))
 rintro _ w1 ⟨B3,rfl,NB3⟩
 replace hS:=hS.Bn NB3
 refine Ao (.bA rfl) rfl ?_
 rintro _ w2 ⟨B4,rfl,NB4⟩
 replace hS:=hS.Bn NB4
 refine Ao (.bA rfl) rfl ?_
 rintro _ w3 ⟨B5,rfl,NB5⟩
 replace hS:=hS.Bn NB5
 refine J (J (Ar (Aa (I (.fB 11 rfl) (I (.lb rfl (hS.b1.An rfl)) (I (.fB 11 rfl) (I (.lb rfl (hS.b2.An rfl)) (I (.eql (.t rfl) (.t rfl)) (Ac rfl (LW.gr rfl (fun hc=>PEv.fB 12 rfl) (LW.gr rfl (fun hc=>PEv.load ly vQ (hS.b1.An rfl)) (LW.gr rfl (fun hc=>PEv.fB 12 rfl) (LW.gr rfl (fun hc=>PEv.load ly vQ (hS.b2.An rfl)) (LW.gr rfl (fun hc=>PEv.eql vQ vQ) (I (.pa rfl (fun hp=>(by exact .cond rfl (by(rw[hp];rfl))))) (LW.A rfl (Ar (Aa (I (.fB 14 rfl) (I (.lb rfl (hS.b1.An rfl)) (I (.fB 14 rfl) (I (.lb rfl (hS.b2.An rfl)) (I (.eql (.t rfl) (.t rfl)) (LW.A rfl (Ar (Af (I (.fB 0 rfl) (I (.lb rfl (hS.b1.An rfl)) (Ai (Ap (Af (I (.eql (.t rfl) (.const _)) (LW.A rfl (Ai (CW.b rfl (fun h31=>?_) (fun h31=>?_))))))))))))))))))))))))))))))))))))
 ·replace h31:=dQ h31
  refine Af (Ac rfl (Ac rfl (Dk rfl rfl (I (.pa rfl (fun hp=>(by exact .cond rfl (by(rw[hp];rfl))))) (LW.A rfl (J (Ai (Aj (Aw (Ah (Br rfl rfl rfl ⟨_,rfl,?_⟩)))))))))))
  exact⟨by rw[(vT (p:=p) (b:=b) h31).1,(vT (p:=p) (b:=b) h31).2],hS.Cj⟩
 replace h31:=dQ h31
 refine Af (I (.eql (.t rfl) (.const _)) (LW.A rfl (Ai (CW.b rfl (fun h37=>?_) (fun h37=>?_)))))
 ·replace h37:=dQ h37
  refine Af (I (.Ef l7 lw (hC.size) (.t rfl) (hS.b0.agg)) (I (.fB 1 rfl) (I (.lb rfl (hS.b1.An rfl)) (A3 (eC (.u rfl rfl) (CV)) rfl (Me bc b f.ID _ (hC.up hS.Cj) hl) ?_))))
  rintro _ w4 ⟨rfl,uw4⟩
  replace hS:=hS.up uw4
  refine Ac rfl (I (.xt rfl rfl) (I (.xt rfl rfl) (Ao (.Bi k_) rfl ?_)))
  rintro _ w5 ⟨B10,rfl,MB10⟩
  refine Bh (.A5 k7 rfl (.t rfl) (.t rfl) (Fact.one _) MB10.blk rfl) ?_
  intro w6 LB10
  have NB10:=MB10.set LB10
  clear LB10 MB10
  replace hS:=hS.Bn NB10
  refine LW.A rfl (Ar (Aa (Ac rfl (Ac rfl (LW.gr rfl (fun hc=>PEv.fB 11 rfl) (LW.gr rfl (fun hc=>PEv.load ly vQ (hS.b3.An rfl)) (LW.gr rfl (fun hc=>PEv.fB 11 rfl) (LW.gr rfl (fun hc=>PEv.load ly vQ (hS.b2.An rfl)) (LW.gr rfl (fun hc=>PEv.eql vQ vQ) (I (.pa rfl (fun hp=>(by exact .cond rfl (by(rw[hp];rfl))))) (Ac rfl (LW.gr rfl (fun hc=>PEv.fB 12 rfl) (LW.gr rfl (fun hc=>PEv.load ly vQ (hS.b3.An rfl)) (LW.gr rfl (fun hc=>PEv.fB 12 rfl) (LW.gr rfl (fun hc=>PEv.load ly vQ (hS.b2.An rfl)) (LW.gr rfl (fun hc=>PEv.eql vQ vQ) (I (.pa rfl (fun hp=>(by exact .cond rfl (by(rw[hp];rfl))))) (Ac rfl (LW.gr rfl (fun hc=>PEv.fB 14 rfl) (LW.gr rfl (fun hc=>PEv.load ly vQ (hS.b3.An rfl)) (LW.gr rfl (fun hc=>PEv.fB 14 rfl) (LW.gr rfl (fun hc=>PEv.load ly vQ (hS.b2.An rfl)) (LW.gr rfl (fun hc=>PEv.eql vQ vQ) (I (.pa rfl (fun hp=>(by exact .cond rfl (by(rw[hp];rfl))))) (Ac rfl (LW.A rfl (LW.A rfl (Ai (Aj (Aw (Ah (Br rfl rfl rfl ⟨_,rfl,?_⟩))))))))))))))))))))))))))))))))
  exact⟨by rw[(vU (p:=p) (b:=b) h31 h37).1,(vU (p:=p) (b:=b) h31 h37).2],hS.Cj⟩
 replace h37:=dQ h37
 refine Af (I (.eql (.t rfl) (.const _)) (LW.A rfl (Ai (CW.b rfl (fun h69=>?_) (fun h69=>?_)))))
 ·replace h69:=dQ h69
  refine Af (Ac rfl (LW.A rfl (J (Ai (Aj (Aw (Ah (Br rfl rfl rfl ⟨_,rfl,?_⟩))))))))
  exact⟨by rw[(vV (p:=p) (b:=b) h31 h37 h69).1,(vV (p:=p) (b:=b) h31 h37 h69).2],hS.Cj⟩
 replace h69:=dQ h69
 refine Af (I (.eql (.t rfl) (.const _)) (LW.A rfl (Ai (CW.b rfl (fun h72=>?_) (fun h72=>?_)))))
 ·replace h72:=dQ h72
  refine Af (Ac rfl (LW.A rfl (J (Ai (Aj (Aw (Ah (Br rfl rfl rfl ⟨_,rfl,?_⟩))))))))
  exact⟨by rw[(iX (p:=p) (b:=b) h31 h37 h69 h72).1,(iX (p:=p) (b:=b) h31 h37 h69 h72).2],hS.Cj⟩
 replace h72:=dQ h72
 refine Ak (Ae (Ab (Af (J (J (Ai (Aj (Br rfl rfl rfl ⟨_,rfl,?_⟩))))))))
 exact⟨by rw[(vW (p:=p) (b:=b) h31 h37 h69 h72).1,(vW (p:=p) (b:=b) h31 h37 h69 h72).2],hS.Cj⟩
theorem Lw(E d:Nat)(ad:Option Addr)(cp:Nat)(L:List Fact)(w:World)(hE:Blk w E #[.slice ad L.length cp,vi (d:Int)] 30)(hL:Els w ad 19 Fact.cells L)(hl:L.length≤1000):Ret prog 14 #[.pointer (some ⟨E,0,none⟩)] w fun r w'=>∃bc,r=.agg bc∧BaseC w' bc (Dj L 100000)∧Up w w':=by
 obtain⟨w0,rfl,hS⟩:=W0 w
 refine cT 8 func14 rfl (Af (Ao (.Bi mp) rfl ?_))
 rintro _ w1 ⟨B2,rfl,NB2⟩
 replace hS:=hS.Bn NB2
 refine Ar (Aa (Ac rfl (I (.nc rfl) (I (.fB 0 rfl) (I (.lb rfl ((hE.up hS.Cj).An rfl)) (A3 (eC (.ct rfl (.cons (.const _) .nil)) (ME)) rfl (AX ad cp L 100000 _ (Els.up hL hS.Cj) oQ) ?_))))))
 rintro _ w2 ⟨bc,rfl,hC,uw2⟩
 replace hS:=hS.up uw2
 have hB2o:=hS.blk 0 rfl
 have hno2:∀(i:Nat)(n:Int),(#[.slice none 0 0,.slice none 0 0,.slice none 0 0,.slice none 0 0,.slice none 0 0,.slice none 0 0,.slice none 0 0,.slice none 0 0,.slice none 0 0,.slice none 0 0,.slice none 0 0]:Array Go.Value)[i]?≠some (vi n):=KS
 refine Bh (.A5 lw hC.size (.t rfl) (.t rfl) hC.one hS.b0 rfl) ?_
 intro w3 Nw3
 replace hS:=hS.Co 0 rfl (show Set_ _ w3 _ (bc) _ from Nw3)
 replace hC:=sT hC hB2o hno2 Nw3.sto
 refine Ai (Aj (Dy rfl rfl l7 lw hC.size (hS.b0.agg) ⟨_,rfl,?_⟩))
 exact⟨bc,rfl,hC,hS.Cj⟩
theorem pF(E d:Nat)(ad:Option Addr)(cp:Nat)(L:List Fact)(t c q:Int)(w:World)(hE:Blk w E #[.slice ad L.length cp,vi (d:Int)] 30)(hL:Els w ad 19 Fact.cells L)(hl:L.length≤100):Ret prog 21 #[.pointer (some ⟨E,0,none⟩),vi t,vi c,vi q] w fun r0 w'=>∃v M,r0=v∧M.map DP.dec=Gt (Dj L 100000) t c q∧Wx.Sep no w w' [A8 57 6 DP.cells v M,E8 (Fb 3 M)]:=by
 obtain⟨w0,rfl,hS⟩:=W0 w
 refine cT 15 func21 rfl (Af (J (Ar (Aa (Ac rfl (A3 (eC (.o rfl) (pL)) rfl (Lw E d ad cp L _ (hE.up hS.Cj) (Els.up hL hS.Cj) oQ) ?_))))))
 rintro _ w1 ⟨bc,rfl,hC,uw1⟩
 replace hS:=hS.up uw1
 refine Ac rfl (Ac rfl (Ac rfl (A3 (eC (.ct rfl (.ct rfl (.ct rfl (.cu rfl)))) (GJ)) rfl (Nd bc (Dj L 100000) t c q _ hC (by have:=(FF hl 100000).1;omega) (by have:=(FF hl 100000).2.1;omega) (by have:=(FF hl 100000).2.2.1;omega) (by have:=(FF hl 100000).2.2.2;omega)) ?_)))
 rintro _ w2 ⟨v14,M,rfl,hM,hT⟩
 replace hS:=hS.join hT
 refine LW.A rfl (Ai (Aj (KW.q ?_)))
 exact⟨_,M,rfl,hM,hS⟩
set_option maxHeartbeats 4000000 in
theorem wD(E d:Nat)(ad adl:Option Addr)(cp cpl:Nat)(L l:List Fact)(w:World)(hS0:Wx.Sep (Cl [Ch E #[.slice ad L.length cp,vi ((d:Int))] 30,A8 51 19 Fact.cells (.slice ad L.length cp) (L)]) w w [Ch E #[.slice ad L.length cp,vi ((d:Int))] 30,A8 51 19 Fact.cells (.slice ad L.length cp) (L)])(hd:d≤1000000)(hl:L.length+l.length≤100)(hEl:Els w adl 19 Fact.cells l)(hLb:∀(i:Nat)(x:Fact),l[i]?=some x→∀B o,adl=some ⟨B,o,none⟩→¬Cl [Ch E #[.slice ad L.length cp,vi ((d:Int))] 30,A8 51 19 Fact.cells (.slice ad L.length cp) (L)] B):Ret prog 10 #[.pointer (some ⟨E,0,none⟩),.slice adl l.length cpl] w fun r w'=>r=vi (Nq L l:Int)∧∃ad' cp',Wx.Sep (Cl [Ch E #[.slice ad L.length cp,vi ((d:Int))] 30,A8 51 19 Fact.cells (.slice ad L.length cp) (L)]) w w' [Ch E #[(.slice ad' (L++l).length cp'),vi (((d+Nq L l:Nat):Int))] 30,A8 51 19 Fact.cells ((.slice ad' (L++l).length cp')) (L++l)]:=by
 obtain⟨w0,rfl,_⟩:=W0 w
 have hS:=hS0
 change Wx.Sep _ _ _ [_,_]at hS
 refine cT 114 func10 rfl (Af (J (Ar (Aa (Ac rfl (A3 (eC (.o rfl) (pL)) rfl (Lw E d ad cp L _ hS.b0 (D9 (hS.own 1 rfl) (fun _=>rfl)) oQ) ?_))))))
 rintro _ w1 ⟨bca,rfl,hCa,uw1⟩
 replace hS:=hS.up uw1
 refine Ao (.Bi mp) rfl ?_
 rintro _ w2 ⟨B5,rfl,MB5⟩
 refine Bh (.A5 lw hCa.size (.t rfl) (.t rfl) hCa.one MB5.blk rfl) ?_
 intro w3 LB5
 have NB5:=MB5.set LB5
 have eB5:=NB5.at_
 replace hCa:=hCa.up NB5.up
 replace hS:=hS.Bn NB5
 change Wx.Sep _ _ _ [_,_,_]at hS
 refine Ar ?_
 have hSA:=hS
 have hS:=Sep.start no w3
 refine Aa (Ac rfl (Ao (.buildSlice (xs:=([]:List Fact)) (enc:=Fact.cells) (mk:=fun f:Fact=>.agg f.cells) k6 k7 k_ rfl cQ (fun _=>rfl) (fun _=>rfl) .nil rfl) rfl ?_))
 intro v19 w4 hN19
 obtain⟨uw4,B19,rfl,e19,hO19⟩:=NewSl.own hN19 (fun _=>rfl) cQ (by simp[maxLen])
 replace hS:=hS.add uw4 (A':=A8 51 19 Fact.cells (.slice (some ⟨B19,0,none⟩) 0 0) ([]:List Fact)) hO19 (fun i h=>by cases h;exact jb e19.symm)
 change Wx.Sep _ _ _ [_]at hS
 refine Ac rfl (I (.nc rfl) (I (.fB 0 rfl) (I (.lb rfl ((hSA.b0.up hS.Cj).An rfl)) (Ao (.Cu (enc:=Fact.cells) (bytes:=160) (i:=Tryz.t51) k6 kQ rfl rfl rfl rfl cQ (fun _=>rfl) Fact.one (.t rfl) (.t rfl) (hS.own 0 rfl) (Az (Els.up (D9 (hSA.own 1 rfl) (fun _=>rfl)) hS.Cj)) (by simp only[maxLen,da];omega) (by simp only[da];omega)) rfl ?_))))
 intro v24 w5 Gw5
 replace hS:=hS.E5 0 rfl Gw5
 change Wx.Sep _ _ _ [_]at hS
 rw[eo]at hS
 refine Ac rfl (Ao (.Cu (enc:=Fact.cells) (bytes:=160) (i:=Tryz.t51) k6 kQ rfl rfl rfl rfl cQ (fun _=>rfl) Fact.one (.t rfl) (.t rfl) (hS.own 0 rfl) (Az (Els.up (fun i_ x_ hx_=>Els.fr hEl hSA.fr (hLb i_ x_ hx_) i_ x_ hx_) hS.Cj)) (by simp only[maxLen];omega) oQ) rfl ?_)
 intro v26 w6 Gw6
 replace hS:=hS.E5 0 rfl Gw6
 change Wx.Sep _ _ _ [_]at hS
 refine I (.nc rfl) (I (.fB 0 rfl) ?_)
 obtain⟨ad26,cp26,rfl,_⟩:=(hS.own 0 rfl).sl (fun _=>rfl)
 have hUa:=hS.Cj
 replace hS:=hSA.join hS
 replace hCa:=hCa.up hUa
 have hone26:=(hS.own 3 rfl).one
 refine Bh (.store mf (.t rfl) (.t rfl) hone26 hS.b0 bQ) ?_
 intro w7 Nw7
 replace hCa:=pB hCa hS.b0 bQ Nw7.sto
 replace hS:=hS.Co 0 rfl (show Set_ _ w7 _ (#[.slice ad26 (L++l).length cp26,vi (d:Int)]) _ from Nw7)
 refine Ar (Aa (Ac rfl (A3 (eC (.o rfl) (pL)) rfl (Lw E d ad26 cp26 (L++l) _ hS.b0 (D9 (hS.own 3 rfl) (fun _=>rfl)) (by rw[au];omega)) ?_)))
 rintro _ w8 ⟨bcb,rfl,hCb,uw8⟩
 replace hS:=hS.up uw8
 replace hCa:=hCa.up uw8
 refine Ao (.Bi mp) rfl ?_
 rintro _ w9 ⟨B6,rfl,MB6⟩
 refine Bh (.A5 lw hCb.size (.t rfl) (.t rfl) hCb.one MB6.blk rfl) ?_
 intro w10 LB6
 have NB6:=MB6.set LB6
 have eB6:=NB6.at_
 replace hCa:=hCa.up NB6.up
 replace hCb:=hCb.up NB6.up
 replace hS:=hS.Bn NB6
 refine Ar ?_
 obtain⟨wE,ewE⟩:∃W,W=w10:=⟨_,rfl⟩
 have hS4:=hS.sub (.cons_cons _ (.cons _ (.cons _ (.cons_cons _ (.cons _ .slnil)))))
 have hB5o:=hS.blk 2 rfl
 have hB6o:=hS.blk 4 rfl
 replace hS4:Wx.Sep (Cl [Ch E #[.slice ad L.length cp,vi ((d:Int))] 30,A8 51 19 Fact.cells (.slice ad L.length cp) (L)]) w0 wE [Ch E #[.slice ad26 (L++l).length cp26,vi ((d:Int))] 30,A8 51 19 Fact.cells (.slice ad26 (L++l).length cp26) (L++l)]:=by rw[ewE];exact hS4
 rw[←ewE]at hB5o hB6o hCa hCb
 have hS:Wx.Sep no wE w10 []:=by rw[ewE];exact Sep.start no _
 have hla:=FF (l:=L) oQ 100000
 have hlb:=FF (l:=L++l) (by rw[au];omega) 100000
 obtain⟨a,ea⟩:∃a,a=Dj L 100000:=⟨_,rfl⟩
 obtain⟨b,eb⟩:∃b,b=Dj (L++l) 100000:=⟨_,rfl⟩
 rw[←ea]at hCa hla
 rw[←eb]at hCb hlb
 have hfl:=vY hla hlb
 obtain⟨hf1,hf2,hf3,hf4⟩:=hfl
 obtain⟨hla1,hla2,hla3,hla4⟩:=hla
 obtain⟨hlb1,hlb2,hlb3,hlb4⟩:=hlb
 obtain⟨_,ha0,ada0,cpa0,rfl,hEa0_⟩:=hCa.CO
 have hEa0:Els wE ada0 19 Fact.cells a.Processes:=hEa0_
 obtain⟨_,hb0,adb0,cpb0,rfl,hEb0_⟩:=hCb.CO
 have hEb0:Els wE adb0 19 Fact.cells b.Processes:=hEb0_
 obtain⟨_,ha1,ada1,cpa1,rfl,hEa1_⟩:=hCa.LK
 have hEa1:Els wE ada1 19 Fact.cells a.Measures:=hEa1_
 obtain⟨_,hb1,adb1,cpb1,rfl,hEb1_⟩:=hCb.LK
 have hEb1:Els wE adb1 19 Fact.cells b.Measures:=hEb1_
 obtain⟨_,ha8,ada8,cpa8,rfl,hEa8_⟩:=hCa.at8
 have hEa8:Els wE ada8 19 Fact.cells a.Resets:=hEa8_
 obtain⟨_,hb8,adb8,cpb8,rfl,hEb8_⟩:=hCb.at8
 have hEb8:Els wE adb8 19 Fact.cells b.Resets:=hEb8_
 obtain⟨_,ha9,ada9,cpa9,rfl,hEa9_⟩:=hCa.at9
 have hEa9:Els wE ada9 19 Fact.cells a.Targets:=hEa9_
 obtain⟨_,hb9,adb9,cpb9,rfl,hEb9_⟩:=hCb.at9
 have hEb9:Els wE adb9 19 Fact.cells b.Targets:=hEb9_
 refine Aa (I (.fB 0 rfl) (I (.lb rfl ((hB5o.up hS.Cj).cell ha0)) (I (.fB 0 rfl) (I (.lb rfl ((hB6o.up hS.Cj).cell hb0)) (A3 (eC (.u rfl rfl) (wR)) rfl (Kz ada0 adb0 cpa0 cpb0 a.Processes b.Processes _ (Els.up hEa0 hS.Cj) (Els.up hEb0 hS.Cj) oQ oQ) ?_)))))
 rintro v35 w11 ⟨hO35,uw11⟩
 replace hS:=hS.add uw11 (A':=A8 51 19 Fact.cells v35 (Ot a.Processes b.Processes)) (hO35.mono (ao _)) (fun i h=>hO35.base i h)
 refine LW.A rfl (Ar (Aa (Ac rfl (I (.fB 1 rfl) (I (.lb rfl ((hB5o.up hS.Cj).cell ha1)) (I (.fB 1 rfl) (I (.lb rfl ((hB6o.up hS.Cj).cell hb1)) (A3 (eC (.u rfl rfl) (wR)) rfl (Kz ada1 adb1 cpa1 cpb1 a.Measures b.Measures _ (Els.up hEa1 hS.Cj) (Els.up hEb1 hS.Cj) oQ oQ) ?_))))))))
 rintro v41 w12 ⟨hO41,uw12⟩
 replace hS:=hS.add uw12 (A':=A8 51 19 Fact.cells v41 (Ot a.Measures b.Measures)) (hO41.mono (ao _)) (fun i h=>hO41.base i h)
 refine Ao (.Cu (enc:=Fact.cells) (bytes:=160) (i:=Tryz.t51) k6 kQ rfl rfl rfl rfl cQ (fun _=>rfl) Fact.one (.t rfl) (.t rfl) (hS.own 0 rfl) ((hS.own 1 rfl).sl (fun _=>rfl)) (by simp only[maxLen];omega) (by(try simp only[au]);omega)) rfl ?_
 intro v42 w13 Gw13
 replace hS:=hS.E5 0 rfl Gw13
 refine LW.A rfl (Ar (Aa (Ac rfl (I (.fB 8 rfl) (I (.lb rfl ((hB5o.up hS.Cj).cell ha8)) (I (.fB 8 rfl) (I (.lb rfl ((hB6o.up hS.Cj).cell hb8)) (A3 (eC (.u rfl rfl) (wR)) rfl (Kz ada8 adb8 cpa8 cpb8 a.Resets b.Resets _ (Els.up hEa8 hS.Cj) (Els.up hEb8 hS.Cj) oQ oQ) ?_))))))))
 rintro v48 w14 ⟨hO48,uw14⟩
 replace hS:=hS.add uw14 (A':=A8 51 19 Fact.cells v48 (Ot a.Resets b.Resets)) (hO48.mono (ao _)) (fun i h=>hO48.base i h)
 refine Ao (.Cu (enc:=Fact.cells) (bytes:=160) (i:=Tryz.t51) k6 kQ rfl rfl rfl rfl cQ (fun _=>rfl) Fact.one (.t rfl) (.t rfl) (hS.own 0 rfl) ((hS.own 2 rfl).sl (fun _=>rfl)) (by simp only[maxLen,au];omega) (by(try simp only[au]);omega)) rfl ?_
 intro v49 w15 Gw15
 replace hS:=hS.E5 0 rfl Gw15
 refine LW.A rfl (Ar (Aa (Ac rfl (I (.fB 9 rfl) (I (.lb rfl ((hB5o.up hS.Cj).cell ha9)) (I (.fB 9 rfl) (I (.lb rfl ((hB6o.up hS.Cj).cell hb9)) (A3 (eC (.u rfl rfl) (wR)) rfl (Kz ada9 adb9 cpa9 cpb9 a.Targets b.Targets _ (Els.up hEa9 hS.Cj) (Els.up hEb9 hS.Cj) oQ oQ) ?_))))))))
 rintro v55 w16 ⟨hO55,uw16⟩
 replace hS:=hS.add uw16 (A':=A8 51 19 Fact.cells v55 (Ot a.Targets b.Targets)) (hO55.mono (ao _)) (fun i h=>hO55.base i h)
 refine Ao (.Cu (enc:=Fact.cells) (bytes:=160) (i:=Tryz.t51) k6 kQ rfl rfl rfl rfl cQ (fun _=>rfl) Fact.one (.t rfl) (.t rfl) (hS.own 0 rfl) ((hS.own 3 rfl).sl (fun _=>rfl)) (by simp only[maxLen,au];omega) (by(try simp only[au]);omega)) rfl ?_
 intro v56 w17 Gw17
 replace hS:=hS.E5 0 rfl Gw17
 refine LW.A rfl (Ar (Aa (J (Ar (Aa (I (.Ef l7 lw (hCb.size) (.t rfl) ((hB6o.up hS.Cj).agg)) (A3 (eC (.o rfl) (MB)) rfl (iV _ b _ (hCb.up hS.Cj) oQ) ?_)))))))
 rintro v58 w18 ⟨hO58,uw18⟩
 replace hS:=hS.add uw18 (A':=A8 85 3 Grp.cells (v58) ((C6 b.Processes))) (hO58.mono (ao _)) (fun i h=>hO58.base i h)
 obtain⟨adg,cpg,rfl,_⟩:=(hS.own 4 rfl).sl (fun _=>rfl)
 refine LW.A rfl (Ar (Al ?_))
 rw[show Ot a.Processes b.Processes++Ot a.Measures b.Measures++Ot a.Resets b.Resets++Ot a.Targets b.Targets=Kj a b from rfl]at hS
 obtain⟨adf,cpf,rfl,_⟩:=(hS.own 0 rfl).sl (fun _=>rfl)
 replace hS:=hS.sub (.cons_cons _ (.cons _ (.cons _ (.cons _ (.cons_cons _ .slnil)))))
 have hFe:(Kj a b).length=(Ot a.Processes b.Processes).length+(Ot a.Measures b.Measures).length+(Ot a.Resets b.Resets).length+(Ot a.Targets b.Targets).length:=by unfold Kj;simp only[au]
 have hFl:(Kj a b).length≤800:=by omega
 have hgl:(C6 b.Processes).length≤b.Processes.length:=by have h:=Ye b.Processes b.Processes.length;rwa [br]at h
 refine Aa (J (Ai (Ap (A9 (σ:=Nat×Nat) (fun s w=>(s.1≤(C6 b.Processes).length)∧(s.2=(O5 b (Kj a b) ((C6 b.Processes).take s.1)).length)∧(Wx.Sep no wE w [A8 51 19 Fact.cells (.slice adf (Kj a b).length cpf) ((Kj a b)),A8 85 3 Grp.cells (.slice adg (C6 b.Processes).length cpg) ((C6 b.Processes))])) (fun s=>[(10,.eq (vi (s.1:Int))),(8,.eq (vi (s.2:Int)))]) ([(0,.eq _),(4,.eq _),(6,.eq _),(7,.eq _),(9,.eq _)]) (fun s=>(C6 b.Processes).length-s.1) (0,0) ?_ tQ ?_))))
 ·exact⟨ao _,rfl,hS⟩
 rintro⟨i,c⟩ w19 ⟨hi,hc,hS⟩
 dsimp only at hi hc hS
 have hcb:c≤(C6 b.Processes).length:=by rw[hc];exact bb (eG _ _ _) (List.length_take_le' _ _)
 change CW _ _ _ _ _ _ _ ([(10,.eq (vi (i:Int))),(8,.eq (vi (c:Int)))]++_) _
 refine Al (Af (Ac rfl (Ac rfl (I (.Df mw (.t rfl)) (I (.l2 rfl rfl) (Ai (CW.b rfl (fun h62=>?_) (fun h62=>?_))))))))
 ·replace h62:=dQ h62
  refine Ak (Ab (Al (Ap (Al ?_))))
  obtain⟨gr,hgr⟩:=Av (xs:=(C6 b.Processes)) (i:=i) oQ
  obtain⟨Bg,og_,ag_,hcg⟩:=(D9 (hS.own 1 rfl) (fun _=>rfl)) i gr hgr
  refine Nv 18 16 17 15 11 80 (Dc.cells) [.eq (.slice adg (C6 b.Processes).length cpg),.eq (vi (i:Int)),.eq (.pointer (some ⟨Bg,og_+i*3,none⟩)),.eq (.pointer (some ⟨Bg,og_+i*3+0,none⟩)),.eq (vi gr.t),.eq (.slice adg (C6 b.Processes).length cpg),.eq (vi (i:Int)),.eq (.pointer (some ⟨Bg,og_+i*3,none⟩)),.eq (.pointer (some ⟨Bg,og_+i*3+1,none⟩)),.eq (vi gr.c),.eq (.slice adg (C6 b.Processes).length cpg),.eq (vi (i:Int)),.eq (.pointer (some ⟨Bg,og_+i*3,none⟩)),.eq (.pointer (some ⟨Bg,og_+i*3+2,none⟩)),.eq (vi gr.r),.eq (.agg (Wo gr).cells),.pred fun v _=>∃B,v=.pointer (some ⟨B,0,none⟩),.eq (undef)] [] k_ k7 kQ rfl kQ kQ kQ kQ kQ kQ kQ rfl rfl ⟨_,_,_,rfl⟩ _ rfl ⟨_,_,_,rfl⟩ ⟨nn,nn,nn,nn,nn,nn,nn,nn,nn,nn,nn,nn,nn,nn,nn,nn,PhT.pred fun _ _ _ h _=>h,nn,trivial⟩ rfl (fun v W h=>⟨_,h,rfl,Fact.one _⟩) (fun B W=>⟨B,rfl⟩) ?_ ?_
  ·intro W hU0
   have hU:=(Up.drew w19).trans hU0
   refine aC (.inr ⟨rfl,TU.p (.mv rfl) rfl⟩) (aC (.inr ⟨rfl,TU.p (.mv rfl) rfl⟩) (aC (.inr ⟨rfl,TU.p (.Ay (j:=i) (k:=(C6 b.Processes).length) mw nj (.t rfl) (.t rfl) oQ ag_) rfl⟩) (aC (.inr ⟨rfl,TU.p (.Bu (j:=0) nk lf (.t rfl) (.const _) cQ) rfl⟩) (aC (.inr ⟨rfl,TU.p (.lb rfl ((AggAt.up hcg hU).nth (j:=0) rfl)) rfl⟩) (aC (.inr ⟨rfl,TU.p (.mv rfl) rfl⟩) (aC (.inr ⟨rfl,TU.p (.mv rfl) rfl⟩) (aC (.inr ⟨rfl,TU.p (.Ay (j:=i) (k:=(C6 b.Processes).length) mw nj (.t rfl) (.t rfl) oQ ag_) rfl⟩) (aC (.inr ⟨rfl,TU.p (.Bu (j:=1) nk lf (.t rfl) (.const _) cQ) rfl⟩) (aC (.inr ⟨rfl,TU.p (.lb rfl ((AggAt.up hcg hU).nth (j:=1) rfl)) rfl⟩) (aC (.inr ⟨rfl,TU.p (.mv rfl) rfl⟩) (aC (.inr ⟨rfl,TU.p (.mv rfl) rfl⟩) (aC (.inr ⟨rfl,TU.p (.Ay (j:=i) (k:=(C6 b.Processes).length) mw nj (.t rfl) (.t rfl) oQ ag_) rfl⟩) (aC (.inr ⟨rfl,TU.p (.Bu (j:=2) nk lf (.t rfl) (.const _) cQ) rfl⟩) (aC (.inr ⟨rfl,TU.p (.lb rfl ((AggAt.up hcg hU).nth (j:=2) rfl)) rfl⟩) (aC (.inr ⟨rfl,TU.p (.build (cs:=(Wo gr).cells) me k_ Fg (.ct rfl (.ct rfl (.cu rfl))) kQ) rfl⟩) (aC (.inl (.inl rfl)) (aC (.inl (.inr rfl)) ?_)))))))))))))))))
   exact allL.nil
  intro w20 B11 g hU0 zB11_ hB11 hg
  have hU:=(Up.drew w19).trans hU0
  have zw20:=hU.size
  have zdr:w19.drew.heap.size=w19.heap.size:=rfl
  have g80_:g 80=.agg (Wo gr).cells:=hg 15 _ 80 cQ rfl rfl
  rw[g80_]at hB11
  replace hB11:Blk w20 B11 ((Wo gr).cells) 51:=hB11
  change LW _ _ _ _ _ _ _ _ ((11,_)::_) _
  replace hcg:=hcg.up hU
  replace hS:=(hS.up (Up.drew _)).add hU0 (A':=Ch B11 ((Wo gr).cells) 51) hB11 (fun i(e:i=B11)=>by omega)
  refine Ar (Aa (J (Ar (Af (J (Ai (Ap (A9 (σ:=Nat×Bool) (fun s w=>(s.1≤(Kj a b).length)∧(s.2=((Kj a b).take s.1).any (fun f=>H8 b f (Wo gr)))∧(Wx.Sep no wE w [A8 51 19 Fact.cells (.slice adf (Kj a b).length cpf) ((Kj a b)),A8 85 3 Grp.cells (.slice adg (C6 b.Processes).length cpg) ((C6 b.Processes)),Ch B11 (Wo gr).cells 51])) (fun s=>[(13,.eq (vi (s.1:Int))),(12,.eq (.bool s.2))]) ([(0,.eq _),(4,.eq _),(6,.eq _),(7,.eq _),(8,.eq _),(9,.eq _),(10,.eq _),(11,.eq _)]) (fun s=>(Kj a b).length-s.1) (0,false) ?_ tQ ?_))))))))
  ·exact⟨ao _,rfl,hS⟩
  rintro⟨k,an⟩ w21 ⟨hk,han,hS⟩
  dsimp only at hk han hS
  change CW _ _ _ _ _ _ _ ([(13,.eq (vi (k:Int))),(12,.eq (.bool an))]++_) _
  refine Al (Af (Ac rfl (Ac rfl (I (.Df k6 (.t rfl)) (I (.l2 rfl rfl) (Ai (CW.b rfl (fun h84=>?_) (fun h84=>?_))))))))
  ·replace h84:=dQ h84
   refine Ak (Ab (Al (Ap (Al ?_))))
   obtain⟨x,hx⟩:=Av (xs:=(Kj a b)) (i:=k) oQ
   obtain⟨Bx,ox,ax,hcx⟩:=(D9 (hS.own 0 rfl) (fun _=>rfl)) k x hx
   refine Eo 12 [.eq (.agg bcb),.eq (.slice adf (Kj a b).length cpf),.eq (vi (k:Int)),.eq (.pointer (some ⟨Bx,ox+k*19,none⟩)),.eq (.agg x.cells),.eq (.agg (Wo gr).cells),.eq (.tuple #[.bool (H8 b x (Wo gr)),.bool (O4 b x)]),.eq (.tuple #[.bool (H8 b x (Wo gr)),.bool (O4 b x)]),.eq (.bool (H8 b x (Wo gr))),.eq (.bool (O4 b x)),.eq (.bool (H8 b x (Wo gr))),.eq (.bool (O4 b x))] [14] kQ rfl kQ kQ kQ kQ kQ kQ kQ uQ ?_ ?_
   ·intro W hU0
    have hU:=(Up.drew w21).trans hU0
    have hSW:=hS.up hU
    refine aC ⟨rfl,TU.p (.Ef l7 lw hCb.size (.t rfl) (((hB6o.up hS.Cj).up hU).agg)) rfl⟩ (aC ⟨rfl,TU.p (.mv rfl) rfl⟩ (aC ⟨rfl,TU.p (.mv rfl) rfl⟩ (aC ⟨rfl,TU.p (.Ay k6 k7 (.t rfl) (.t rfl) oQ ax) rfl⟩ (aC ⟨rfl,TU.p (.lc rfl (AggAt.up hcx hU)) rfl⟩ (aC ⟨rfl,TU.p (.lc rfl (hSW.b2.agg)) rfl⟩ (aC ⟨rfl,TU.c (eC (.ct rfl (.ct rfl (.cu rfl))) (MC)) (Z2 _ b x (Wo gr) _ ((hCb.up hS.Cj).up hU) oQ) sQ⟩ (aC ⟨rfl,TU.p (.mv rfl) rfl⟩ (aC ⟨rfl,TU.p (.xt rfl rfl) rfl⟩ (aC ⟨rfl,TU.p (.xt rfl rfl) rfl⟩ (aC ⟨rfl,TU.p (.assign (.t rfl)) rfl⟩ (aC ⟨rfl,TU.p (.assign (.t rfl)) rfl⟩ ?_)))))))))))
    exact allL.nil
   intro w22 g hU0 hg
   have hU:=(Up.drew w21).trans hU0
   replace hS:=hS.up hU
   replace hcx:=hcx.up hU
   have e14:g 14=_:=hg 10 _ 14 cQ rfl rfl
   change LW _ _ _ _ _ _ _ _ ((14,.eq (g 14))::_) _
   rw[e14]
   refine Ai (Aa (Ac rfl (Ac rfl (Dk rfl rfl (I (.po rfl (fun hp=>(by exact .cond rfl (by(rw[hp];rfl))))) (LW.A rfl (LW.nil (Ae (Ab (Aa (Ac rfl (I (.ic rfl oQ) (LW.A rfl (LW.nil (Aq ?_)))))))))))))))
   exact⟨(k+1,an||H8 b x (Wo gr)),⟨by show k+1≤_;omega,by show(an||H8 b x (Wo gr))=_;rw[wA (fun f=>H8 b f (Wo gr)) hx,←han],hS.take 3⟩,tQ,by show(Kj a b).length-(k+1)<(Kj a b).length-k;omega⟩
  replace h84:=dQ h84
  refine A7 (Ad (Ad (Au (Ab (Al ?_)))))
  have hkl:k=(Kj a b).length:=by omega
  rw[hkl,br]at han
  refine Aa (Ac rfl (Ai (CW.b rfl (fun h101=>?_) (fun h101=>?_))))
  ·replace h101:=dQ h101
   rw[h101]at han
   replace han:=han.symm
   refine Aa (Ac rfl (I (.ic rfl oQ) (LW.A rfl (LW.nil (Ae (Ab (Aa (Ac rfl (I (.ic rfl oQ) (LW.A rfl (LW.nil (Aq ?_))))))))))))
   exact⟨(i+1,c+1),⟨by show i+1≤_;omega,by show c+1=_;rw[vZ hgr han,hc],hS.take 2⟩,tQ,by show(C6 b.Processes).length-(i+1)<(C6 b.Processes).length-i;omega⟩
  replace h101:=dQ h101
  rw[h101]at han
  replace han:=han.symm
  refine Ak (Ae (Ab (Aa (Ac rfl (I (.ic rfl oQ) (LW.A rfl (LW.nil (Aq ?_))))))))
  exact⟨(i+1,c),⟨by show i+1≤_;omega,by show c=_;rw[AV hgr han];exact hc,hS.take 2⟩,tQ,by show(C6 b.Processes).length-(i+1)<(C6 b.Processes).length-i;omega⟩
 replace h62:=dQ h62
 refine A7 (Ad (Ad (Au (Ab (Al ?_)))))
 have hil:i=(C6 b.Processes).length:=by omega
 rw[hil,br]at hc
 have hcl:c≤100:=by have h:=eG b (Kj a b) (C6 b.Processes);omega
 have hcN:c=Nq L l:=by rw[hc,ea,eb];rfl
 replace hS:=hS4.up hS.Cj
 refine Aa (Ac rfl (Ac rfl (I (.nc rfl) (I (.fB 1 rfl) (I (.lb rfl (hS.b0.An rfl)) (Ac rfl (I (.val (v':=vi ((d+c:Nat):Int)) (PEv.add (.t rfl) (.t rfl) oQ oQ) (a_ vi oQ)) (I (.nc rfl) (I (.fB 1 rfl) (Bh (.store lf (.t rfl) (.t rfl) rfl hS.b0 bQ) ?_))))))))))
 intro w23 Nw23
 replace hS:=hS.Co 0 rfl (show Set_ _ w23 _ (#[.slice ad26 (L++l).length cp26,vi ((d+c:Nat):Int)]) _ from Nw23)
 refine Ar (Aa (Ac rfl (LW.A rfl (Ai (Aj (KW.q ?_))))))
 refine⟨by rw[hcN],ad26,cp26,?_⟩
 rw[hcN]at hS
 exact hS
set_option maxHeartbeats 4000000 in
theorem pG(E d:Nat)(ad:Option Addr)(cp:Nat)(L:List Fact)(w:World)(hE:Blk w E #[.slice ad L.length cp,vi (d:Int)] 30)(hL:Els w ad 19 Fact.cells L)(hl:L.length≤100):Ret prog 17 #[.pointer (some ⟨E,0,none⟩)] w fun r w'=>OwnS w' w.heap.size 3 1 Cm r (Ic (Dj L 100000) (Dj L 100000).Processes)∧Up w w':=by
 obtain⟨w0,rfl,hS⟩:=W0 w
 refine cT 46 func17 rfl ?_
 refine Af (J (Ar (Aa (Ac rfl ?_))))
 refine A3 (eC (.o rfl) (pL)) rfl (Lw E d ad cp L _ (hE.up hS.Cj) (Els.up hL hS.Cj) oQ) ?_
 rintro _ w1 ⟨bc,rfl,hC,uw1⟩
 have zw1:=uw1.size
 replace hS:=hS.up uw1
 refine Ao (.Bi mp) rfl ?_
 rintro _ w2 ⟨B3,rfl,MB3⟩
 refine Bh (.A5 lw hC.size (.t rfl) (.t rfl) hC.one MB3.blk rfl) ?_
 intro w3 LB3
 have NB3:=MB3.set LB3
 clear LB3 MB3
 have eB3:=NB3.at_
 have zB3:=NB3.size
 replace hC:=hC.up NB3.up
 replace hS:=hS.Bn NB3
 change Wx.Sep _ _ _ [_]at hS
 refine Ar ?_
 have hU0:=hS.Cj
 have hB3o:=hS.blk 0 rfl
 clear hS
 obtain⟨wE,ewE⟩:∃W,W=w3:=⟨_,rfl⟩
 rw[←ewE]at hU0 hB3o hC
 have hS:Wx.Sep no wE w3 []:=by rw[ewE];exact Sep.start no _
 have hlb:=FF hl 100000
 have hV:∀f∈(Dj L 100000).Processes,F8 f.Value:=Zw
 obtain⟨b,eb⟩:∃b,b=Dj L 100000:=⟨_,rfl⟩
 rw[←eb]at hC hlb hV⊢
 obtain⟨hb1,hb2,hb3,hb4⟩:=hlb
 obtain⟨_,h0,adP,cpP,rfl,hEP_⟩:=hC.CO
 have hEP:Els wE adP 19 Fact.cells b.Processes:=hEP_
 replace hS:=hS.add (Up.refl _) (A':=A8 3 1 Cm (.slice none 0 0) (Ic b (b.Processes.take 0))) (OwnS.nil _ _ _ _ _) (fun i h=>by cases h)
 change Wx.Sep _ _ _ [_]at hS
 refine Aa (J (Ar (Af (J (Ai (Ap ?_))))))
 refine A9 (σ:=Nat×Go.Value) (fun s w=>(s.1≤b.Processes.length)∧(Wx.Sep no wE w [A8 3 1 Cm (s.2) (Ic b (b.Processes.take s.1))])) (fun s=>[(5,.eq (vi (s.1:Int))),(4,.eq (s.2))]) ([(2,.eq _),(3,.eq _)]) (fun s=>b.Processes.length-s.1) (0,.slice none 0 0) ?_ tQ ?_
 ·exact⟨ao _,hS⟩
 rintro⟨i,v⟩ w4 ⟨hi,hS⟩
 dsimp only at hi hS
 change Wx.Sep _ _ _ [_]at hS
 change CW _ _ _ _ _ _ _ ([(5,.eq (vi (i:Int))),(4,.eq (v))]++_) _
 refine Al (Af (Ac rfl ?_))
 refine I (.fB 0 rfl) ?_
 refine I (.lb rfl ((hB3o.up hS.Cj).cell h0)) ?_
 refine I (.Df k6 (.t rfl)) ?_
 refine I (.l2 rfl rfl) ?_
 refine Ai ?_
 refine CW.b rfl (fun h15=>?_) (fun h15=>?_)
 ·replace h15:=dQ h15
  refine Ak (Ab (Al (Ap (Al ?_))))
  obtain⟨x,hx⟩:=Av (xs:=b.Processes) (i:=i) oQ
  obtain⟨Bx,ox,ax,hcx⟩:=(Els.up hEP hS.Cj) i x hx
  have hll:(Ic b (b.Processes.take i)).length≤b.Processes.length:=bb (Rj b _ _) (av _)
  refine Nv 16 12 13 9 6 27 (DP.cells ⟨Ik,none,0⟩) [.eq (.agg bc),.eq (.pointer (some ⟨B3,0,none⟩)),.eq (.slice adP b.Processes.length cpP),.eq (vi (i:Int)),.eq (.pointer (some ⟨Bx,ox+i*19,none⟩)),.eq (.pointer (some ⟨Bx,ox+i*19+1,none⟩)),.eq (vi x.ID),.pred fun v _=>∃ad cp,v=.tuple #[.agg (DP.cells ⟨(F9 b x.ID).1,ad,cp⟩),.bool (F9 b x.ID).2.1,vi (F9 b x.ID).2.2],.pred fun v _=>∃ad cp,v=.tuple #[.agg (DP.cells ⟨(F9 b x.ID).1,ad,cp⟩),.bool (F9 b x.ID).2.1,vi (F9 b x.ID).2.2],.pred fun v _=>∃ad cp,v=.agg (DP.cells ⟨(F9 b x.ID).1,ad,cp⟩),.eq (.bool (F9 b x.ID).2.1),.eq (vi (F9 b x.ID).2.2),.pred fun v _=>∃B,v=.pointer (some ⟨B,0,none⟩),.eq (undef),.eq (.bool (F9 b x.ID).2.1),.eq (vi (F9 b x.ID).2.2)] [7,8] l5 lr kQ rfl kQ kQ kQ kQ kQ kQ kQ rfl rfl ⟨_,_,_,rfl⟩ _ rfl ⟨_,_,_,rfl⟩ ⟨nn,nn,nn,nn,nn,nn,nn,PhT.pred fun _ _ _ h _=>h,PhT.pred fun _ _ _ h _=>h,PhT.pred fun _ _ _ h _=>h,nn,nn,PhT.pred fun _ _ _ h _=>h,nn,nn,nn,trivial⟩ rfl (fun v W h=>let⟨ad,cp,e⟩:=h;⟨_,e,rfl,DP.one _⟩) (fun B W=>⟨B,rfl⟩) ?_ ?_
  ·intro W hU0
   have hU:=(Up.drew w4).trans hU0
   refine aC (.inr ⟨rfl,TU.p (.Ef l7 lw hC.size (.t rfl) (((hB3o.up hS.Cj).up hU).agg)) rfl⟩) ?_
   refine aC (.inr ⟨rfl,TU.p (.fB 0 rfl) rfl⟩) ?_
   refine aC (.inr ⟨rfl,TU.p (.lb rfl (((hB3o.up hS.Cj).up hU).cell h0)) rfl⟩) ?_
   refine aC (.inr ⟨rfl,TU.p (.mv rfl) rfl⟩) ?_
   refine aC (.inr ⟨rfl,TU.p (.Ay k6 k7 (.t rfl) (.t rfl) oQ ax) rfl⟩) ?_
   refine aC (.inr ⟨rfl,TU.p (.fB 1 rfl) rfl⟩) ?_
   refine aC (.inr ⟨rfl,TU.p (.lb rfl ((AggAt.up hcx hU).nth (j:=1) rfl)) rfl⟩) ?_
   refine aC (.inr ⟨rfl,TU.c (eC (.u rfl rfl) (MH)) (Zo bc b x.ID _ ((hC.up hS.Cj).up hU) oQ oQ oQ oQ hV) (by rintro v W1 ⟨q,rfl,⟨adu,cpu,rfl,_⟩,u⟩;exact⟨u,adu,cpu,rfl⟩)⟩) ?_
   refine aC (.inr ⟨rfl,TU.open (d:=26) rfl (by rintro _ ⟨adu,cpu,rfl⟩;exact TU.p (.mv rfl) ⟨adu,cpu,rfl⟩)⟩) ?_
   refine aC (.inr ⟨rfl,TU.open (d:=18) rfl (by rintro _ ⟨adu,cpu,rfl⟩;exact TU.p (.xt rfl rfl) ⟨adu,cpu,rfl⟩)⟩) ?_
   refine aC (.inr ⟨rfl,TU.open (d:=18) rfl (by rintro _ ⟨adu,cpu,rfl⟩;exact TU.p (.xt rfl rfl) rfl)⟩) ?_
   refine aC (.inr ⟨rfl,TU.open (d:=18) rfl (by rintro _ ⟨adu,cpu,rfl⟩;exact TU.p (.xt rfl rfl) rfl)⟩) ?_
   refine aC (.inl (.inl rfl)) ?_
   refine aC (.inl (.inr rfl)) ?_
   refine aC (.inr ⟨rfl,TU.p (.assign (.t rfl)) rfl⟩) ?_
   refine aC (.inr ⟨rfl,TU.p (.assign (.t rfl)) rfl⟩) ?_
   exact allL.nil
  intro w5 B6 g hU0 zB6_ hB6 hg
  have hU:=(Up.drew w4).trans hU0
  have zw5:=hU.size
  have e7:g 7=.bool (F9 b x.ID).2.1:=hg 14 _ 7 cQ rfl rfl
  have e8:g 8=vi (F9 b x.ID).2.2:=hg 15 _ 8 cQ rfl rfl
  change LW _ _ _ _ _ _ _ _ ((6,_)::(7,.eq (g 7))::(8,.eq (g 8))::_) _
  rw[e7,e8]
  clear e7 e8 hg hB6
  replace hcx:=AggAt.up hcx hU
  replace hS:=hS.up hU
  change Wx.Sep _ _ _ [_]at hS
  refine Ar (Aa (Ac rfl ?_))
  refine I (.eql (.t rfl) (.const _)) ?_
  refine Ac rfl ?_
  refine Dk rfl rfl ?_
  refine LW.gr rfl (fun hc=>PEv.not vQ) ?_
  refine I (.pa rfl (fun hp=>wQ)) ?_
  refine Ai ?_
  refine CW.b rfl (fun h35=>?_) (fun h35=>?_)
  ·replace h35:=dQ h35
   have hlt:Mj b x.ID=true:=by unfold Mj;exact h35
   refine Aa (Ac rfl ?_)
   refine I (.fB 0 rfl) ?_
   refine I (.lb rfl ((hB3o.up hS.Cj).cell h0)) ?_
   refine Ac rfl ?_
   refine I (.Ay k6 k7 (.t rfl) (.t rfl) oQ ax) ?_
   refine I (.fB 1 rfl) ?_
   refine I (.lb rfl (hcx.nth (j:=1) rfl)) ?_
   refine Ao (.buildSlice (xs:=[x.ID]) (enc:=Cm) (mk:=vi) lg lf ls rfl cQ (fun _=>rfl) (fun _=>rfl) (.cu rfl) rfl) rfl ?_
   rintro _ w6 ⟨B43,cB43,rfl,NB43,yB43,xB43⟩
   have eB43:=NB43.at_
   have zB43:=NB43.size
   replace hS:=hS.up NB43.up
   replace hcx:=hcx.up NB43.up
   have hE43:=xB43
   refine Ao (.Cu (enc:=Cm) (bytes:=8) (i:=Tryz.t3) lg kQ rfl rfl rfl rfl cQ (fun _=>rfl) My (.t rfl) (.t rfl) (hS.own 0 rfl) (Az hE43) (by simp only[maxLen,b9,da];omega) (by simp only[b9,da];omega)) rfl ?_
   intro v44 w7 Gw7
   have zw7:=Gw7.fr.size
   replace hS:=hS.E5 0 rfl Gw7
   change Wx.Sep _ _ _ [_]at hS
   refine LW.A rfl (LW.nil (Ae (Ab (Aa (Ac rfl ?_)))))
   refine I (.ic rfl oQ) ?_
   refine LW.A rfl (LW.nil (Aq ?_))
   first|exact⟨(i+1,v44),⟨by show i+1≤_;omega,by first|(rw[Nj hx hlt];exact hS.take 1)|(rw[Ri hx hlt];exact hS.take 1)⟩,tQ,by show b.Processes.length-(i+1)<b.Processes.length-i;omega⟩|exact⟨(i+1,v),⟨by show i+1≤_;omega,by first|(rw[Nj hx hlt];exact hS.take 1)|(rw[Ri hx hlt];exact hS.take 1)⟩,tQ,by show b.Processes.length-(i+1)<b.Processes.length-i;omega⟩
  replace h35:=dQ h35
  have hlt:Mj b x.ID=false:=by unfold Mj;exact h35
  refine Ak (Ae (Ab (Aa (Ac rfl ?_))))
  refine I (.ic rfl oQ) ?_
  refine LW.A rfl (LW.nil (Aq ?_))
  first|exact⟨(i+1,v44),⟨by show i+1≤_;omega,by first|(rw[Nj hx hlt];exact hS.take 1)|(rw[Ri hx hlt];exact hS.take 1)⟩,tQ,by show b.Processes.length-(i+1)<b.Processes.length-i;omega⟩|exact⟨(i+1,v),⟨by show i+1≤_;omega,by first|(rw[Nj hx hlt];exact hS.take 1)|(rw[Ri hx hlt];exact hS.take 1)⟩,tQ,by show b.Processes.length-(i+1)<b.Processes.length-i;omega⟩
 replace h15:=dQ h15
 refine A7 (Ad (Ad (Au (Ab (Af (Ac rfl (LW.A rfl (Ai (Aj ?_)))))))))
 refine KW.q ?_
 rw[show i=b.Processes.length by omega,br]at hS
 exact⟨(hS.own 0 rfl).I1 (fun i h=>bb hU0.size ((hS.foot 0 rfl i h).resolve_left (fun h=>h))),hU0.trans hS.Cj⟩
theorem wF(ad:Option Addr)(cp:Nat)(l:List Fact)(w:World)(hE:Els w ad 19 Fact.cells l):Ret prog 8 #[.slice ad l.length cp] w fun r w'=>OwnS w' w.heap.size 51 19 Fact.cells r (Lv l)∧Up w w':=by
 have hW:=Up.refl w
 obtain⟨w0,rfl,_⟩:=W0 w
 refine cT 33 func8 rfl ?_
 refine Af (J (Ar (Aa (J (Ar (Af (J ?_)))))))
 refine Ai (Ap ?_)
 refine CW.loop (σ:=Nat×Value) (fun s w=>(s.1≤l.length∧s.1≤8)∧OwnS w w0.heap.size 51 19 Fact.cells s.2 ((l.take s.1).map Wp)∧Up w0 w) (fun s=>[(0,.eq (.slice ad l.length cp)),(3,.eq s.2),(4,.eq (vi (s.1:Int)))]) (fun s=>l.length-s.1) (0,.slice none 0 0) ?_ ?_ ?_
 ·exact⟨⟨ao _,by omega⟩,OwnS.nil _ _ _ _ _,hW⟩
 ·exact tQ
 rintro⟨k,v⟩ w1 ⟨⟨hk,hk8⟩,hO,hW⟩
 dsimp only at hk hk8 hO
 have zW:=hW.size
 refine Al (Af (Ac rfl (Ac rfl ?_)))
 refine I (.Df k6 (.t rfl)) ?_
 refine I (.l2 rfl rfl) ?_
 refine Ac rfl ?_
 refine Dk rfl rfl ?_
 refine LW.gr rfl (fun hc=>PEv.lss vQ (.const _)) ?_
 refine I (.pa rfl (fun hp=>(by first|exact .const _|exact .tmp rfl|exact .cond rfl (by first|assumption|simp_all)))) ?_
 refine Ai ?_
 refine CW.b rfl (fun h13=>?_) (fun h13=>?_)
 ·replace h13:=dQ h13
  have hk1:k<l.length∧k<8:=by simp at h13;omega
  refine Ak (Ab (Al (Ap (Al ?_))))
  obtain⟨x,hx⟩:=Av (xs:=l) (i:=k) oQ
  obtain⟨B,o,had,hc0⟩:=hE k x hx
  have hcell:=hc0.up hW
  have hlen:((l.take k).map Wp).length=k:=by rw[cd,bu];omega
  have hO4:=hO
  have hU4:=Up.refl w1
  refine Aa (Ac rfl (Ac rfl ?_))
  refine I (.Ay k6 k7 (.t rfl) (.t rfl) oQ had) ?_
  refine I (.lc rfl (hcell)) ?_
  refine Ao (.Bi k_) rfl ?_
  rintro _ w2 ⟨B5,rfl,MB5⟩
  refine Bh (.A5 k7 rfl (.t rfl) (.t rfl) eQ MB5.blk rfl) ?_
  intro w3 LB5
  have NB5:=MB5.set LB5
  clear LB5 MB5
  have eB5:=NB5.at_
  have zB5:=NB5.size
  replace hW:=hW.up NB5.up
  replace hU4:=hU4.up NB5.up
  have hB5:=NB5.blk
  refine Ar (Aa ?_)
  refine I (.fB 18 rfl) ?_
  refine I (.lb rfl (hB5.An rfl)) ?_
  refine I (.fB 18 rfl) ?_
  refine I (.lb rfl (hB5.An rfl)) ?_
  refine I (.Lx lu (.t rfl)) ?_
  refine I (.min2 (.t rfl) (.const _)) ?_
  refine I (.FU lu (.t rfl) (.t rfl) (by split<;>omega) (by split<;>omega)) ?_
  refine I (.fB 18 rfl) ?_
  refine Bh (.store sizeOf9 (.t rfl) (.t rfl) rfl hB5 bQ) ?_
  intro w4 Nw4
  have zw4:=Nw4.size
  replace hW:=hW.sto Nw4.sto oQ
  replace hU4:=hU4.sto Nw4.sto oQ
  replace hB5:=Nw4.blk
  replace hB5:Blk w4 B5 (Wp x).cells _:=hB5
  refine Ai ?_
  have hO:=hO4.up hU4
  refine Aa (Ac rfl ?_)
  refine I (.lc rfl (hB5.agg)) ?_
  refine Ao (.buildSlice (xs:=[Wp x]) (enc:=Fact.cells) (mk:=fun f=>.agg f.cells) k6 k7 k_ rfl cQ (fun _=>rfl) (fun _=>rfl) (.cu rfl) rfl) rfl ?_
  rintro _ w5 ⟨B30,cB30,rfl,NB30,yB30,xB30⟩
  have eB30:=NB30.at_
  have zB30:=NB30.size
  replace hW:=hW.up NB30.up
  replace hB5:=hB5.up NB30.up
  replace hO:=hO.up NB30.up
  have hB30:=NB30.blk
  have hE30:=xB30
  refine Ao (.append (enc:=Fact.cells) (base:=w0.heap.size) (bytes:=160) (i:=Tryz.t51) k6 kQ rfl rfl rfl rfl cQ (fun _=>rfl) Fact.one (.t rfl) (.t rfl) hO (Az hE30) (by simp) (by rw[hlen];simp[maxLen];omega) (by rw[hlen];simp;omega) oQ) rfl ?_
  rintro v31 w6 ⟨Ow6,Gw6⟩
  have zw6:=Gw6.size
  replace hW:=hW.gr Gw6 oQ
  replace hO:=Ow6
  refine LW.A rfl (LW.nil (Ae (Ab (Aa (Ac rfl ?_)))))
  refine I (.ic rfl oQ) ?_
  refine LW.A rfl (LW.nil (Aq ?_))
  exact⟨(k+1,v31),⟨⟨by omega,by omega⟩,by rw[pD hx];exact hO,hW⟩,tQ,by dsimp only;omega⟩
 replace h13:=dQ h13
 have hr:(l.take k).map Wp=Lv l:=wC hk hk8 (by simp at h13⊢;intro h;have:=h13 h;omega)
 refine A7 (Ad (Ad (Au (Ab (Af (Ac rfl (LW.A rfl (Ai (Aj ?_)))))))))
 refine KW.q ?_
 exact⟨hr▸hO,hW⟩
end Go.Proofs.YtbcnnkfopoiifaaGreatDoor
namespace Go.Wx
open Go.RowKit
section
variable {R:Option Nat}{m:Nat}{P:Program}{n:Nat}{ds:List Deferred}{Q:Exit→Go.Act→World→Prop}{w:World}
theorem AWU.free{opsL:List Oper}(s k:Nat)(phs:List Ph)(keep:List Nat){base:Env}(hl:Cf base=true)
   (hA:Ea opsL.toArray=true)(hC:(Nat.beq k opsL.toArray.size||Fm opsL.toArray k)=true)(hF:I8 opsL.toArray k=true)(hks:Nat.ble k opsL.toArray.size=true)(hsk:Nat.ble s k=true)(hD:Ht n opsL.toArray s k=true)(hTl:Hq opsL.toArray k=true)
   (hfree:K5 base ((opsL.take k).drop s)=true)(hph:allU phs)
   (hop:∀W,Up w W→allL (fun i o=>TOp P n ds opsL.toArray (Py opsL.toArray (fun i=>phs.getD (i-s) (.eq undef)) s o++base) W o (fun v W'=>Up W W'∧(phs.getD (i-s) (.eq undef)).holds v W')) s ((opsL.take k).drop s))
   (hend:∀W(g:Nat→Value),Up w W→(∀i o d,s≤i→i<k→opsL[i]?=some o→o.dst=some d→(phs.getD (i-s) (.eq undef)).holds (g d) W)→LW R m P n ds opsL.toArray Q (opsL.drop k) (keep.map (fun d=>(d,.eq (g d)))++base) W):
   AWU R m P n ds opsL.toArray Q s base w:=by
 have hks':k≤opsL.length:=by have:=ah hks;simp at this;omega
 have hsk':s≤k:=ah hsk
 have sub:∀j o,s≤j→j<k→opsL.toArray[j]?=some o→((opsL.take k).drop s)[j-s]?=some o:=fun j o hj hjk ho=>by
   rw[eh,show s+(j-s)=j by omega,cz hjk];simpa using ho
 have hbd:∀i ph,lk base i=some ph→∀(j:Nat)(o:Oper),s≤j→j<k→opsL.toArray[j]?=some o→o.dst≠some i:=fun i ph hi j o hj hjk ho=>Gz hfree hi (am (sub j o hj hjk ho))
 intro fuel listed a hf hu ha
 refine Kl (k:=k) (fun i=>phs.getD (i-s) (.eq undef)) Up (fun _ _ _=>True) (f0:=fun t=>a.tmps.getD t undef) Up.refl (fun _ _ _=>Up.trans) (fun i v w w' h u=>(hph.at (i-s)) v w w' h u) hA hC hF hks hsk hD hl hbd ?_ trivial ?_ fuel listed a hf hu ha (fun _=>rfl)
 · intro i o hs hi hio L f W hU _ _ _ _ a ha _
   have h3:=(hop W hU).at (sub i o hs hi hio)
   rw[show s+(i-s)=i by omega]at h3
   have h4:=h3 a ha
   have done:∀v W',Up W W'∧(phs.getD (i-s) (.eq undef)).holds v W'→Up W W'∧(∀d,o.dst=some d→(phs.getD (i-s) (.eq undef)).holds v W')∧True:=fun v W' h=>⟨h.1,fun _ _=>h.2,trivial⟩
   by_cases hw:Region.wanted o (yielded opsL.toArray a.tmps)=true
   · rw[ak hw]at h4⊢
     rcases h4 with⟨v,W',hr,hp⟩|⟨fn,args,w1,hr,hc⟩
     · exact .inl (.inl ⟨v,W',hr,done v W' hp⟩)
     exact .inl (.inr ⟨fn,args,w1,hr,hc.mono done⟩)
   rw[ae hw]at h4⊢
   exact done _ _ h4
 intro f W hUp _ fuel' listed' a' hf' hu' ha' hsl'
 have key:∀i o d,s≤i→i<k→opsL[i]?=some o→o.dst=some d→(phs.getD (i-s) (.eq undef)).holds (f d) W:=by
   intro i o d hsi hik ho hd
   have ho':opsL.toArray[i]?=some o:=by simpa using ho
   have hmem:(d,phs.getD (i-s) (.eq undef))∈Hu opsL.toArray (fun i=>phs.getD (i-s) (.eq undef)) s k:=by
     unfold Hu
     rw[ef]
     exact⟨i,bl.2 hik,by rw[ak (eu hsi),ho'];simp[hd]⟩
   obtain⟨q',hq⟩:=Hj hmem
   obtain⟨j,p,hsj,hjk,hp,hpd,e⟩:=F2 hq
   have:j=i:=by
     by_cases ee:j=i
     · exact ee
     exact absurd hpd ((D7 hD hsi hik ho' hd).2 j p hsj hjk ee hp)
   subst this
   have:=ha'.val d q' (Km hq)
   rw[hsl',e]at this
   exact this
 refine Gb hTl hA (opsL.toArray.size-k) k fuel' listed' a' W rfl (by simp;omega) (av _) hf' hu' ?_
 refine hend W f hUp key a' ⟨ha'.defers,ha'.size,fun t q ht=>?_⟩
 rcases C3 ht with h|h
 · obtain⟨d,_,he⟩:=aq.1 (J2 h)
   cases he
   exact hsl' _
 refine ha'.val t q ?_
 rw[Hw]
 · exact h
 cases hq:lk (Hu opsL.toArray (fun i=>phs.getD (i-s) (.eq undef)) s k) t with
 |none=>rfl
 |some q'=>
   obtain⟨j,p,hsj,hjk,hp,hpd,_⟩:=F2 hq
   exact absurd hpd (hbd t q h j p hsj hjk hp)
end
section
variable {P:Program}{n:Nat}{ds:List Deferred}{w:World}{ops:Array Oper}
theorem TOp.open{env:Env}{o:Oper}{X:Value→World→Prop}{d:Nat}{p:Value→World→Prop}(hd:lk env d=some (.pred p))(h:∀v,p v w→TOp P n ds ops ((d,.eq v)::env) w o X):TOp P n ds ops env w o X:=fun a ha=>
 h _ (ha.val d _ hd) a (ha.KC rfl)
end
end Go.Wx
namespace Go.Proofs.YtbcnnkfopoiifaaGreatDoor
open Go.Proofs.Tryz
open Go.Wx Go.RowKit
def pH(a1:Option Addr)(c1:Nat)(xs:List I6)(a2:Option Addr)(c2:Nat)(raw:List Fact)(a3:Option Addr)(c3:Nat)(Qs:List Prt):List Asr:=[A8 51 19 Fact.cells (.slice a1 (Vc xs).length c1) (Vc xs),A8 51 19 Fact.cells (.slice a2 (Lv raw).length c2) (Lv raw),A8 24 1 Prt.enc (.slice a3 Qs.length c3) Qs]
def wH(B:Nat)(a:Option Addr)(c:Nat)(L:List Fact)(d:Nat):List Asr:=[Ch B #[.slice a L.length c,vi (d:Int)] 30,A8 51 19 Fact.cells (.slice a L.length c) (L)]
theorem FI(v1 v2:Go.Value)(b:Base)(w:World)(h1:BaseV w v1 b)(h2:BaseV w v2 b)(hs:short b):Ret prog 12 #[v1,v2] w fun r w'=>r=.bool true∧Up w w':=by
 obtain⟨b1,rfl,hC1⟩:=h1
 obtain⟨b2,rfl,hC2⟩:=h2
 exact(sF b1 b2 b b w hC1 hC2 hs).mono fun r w' h=>⟨h.1.trans (by rw[gG]),h.2⟩
set_option maxHeartbeats 8000000 in
theorem Ke(ad as_ ar:Option Addr)(cp cs cr:Nat)(xs:List I6)(zs:List Int)(raw:List Fact)(tool chamber recipe:Int)(w:World)(hE1:Els w ad 6 I6.cells xs)(hZ1:Els w as_ 1 Cm zs)(hz:∀z∈zs,F8 z)(hR1:Els w ar 19 Fact.cells raw)(ht:F8 tool∧F8 chamber∧F8 recipe):Ret prog 3 #[.slice ad xs.length cp,.slice as_ zs.length cs,.slice ar raw.length cr,vi tool,vi chamber,vi recipe] w fun r w'=>r=.bool true∧Up w w':=by
 obtain⟨w0,rfl,hS⟩:=W0 w
 refine cT 114 func3 rfl ?_
 refine Af (J (Ar (Aa ?_)))
 refine A3 (eC .nil (OK)) rfl (iU _) ?_
 rintro _ w1 ⟨rfl,uw1⟩
 have zw1:=uw1.size
 replace hS:=hS.up uw1
 refine LW.A rfl (Ar (Aa ?_))
 refine A3 (eC .nil (OH)) rfl (dP _) ?_
 rintro _ w2 ⟨z0,rfl,ha0,hn0,hz0,hN0⟩
 replace hS:=hS.join hN0
 change Wx.Sep _ _ _ [_,_,_,_,_]at hS
 clear hN0
 refine LW.A rfl (Ar (Aa ?_))
 refine I (.build (cs:=#[.slice none 0 0,vi 0]) underlying30 zeroValue30 V3 .nil kQ) ?_
 refine Ao (.bA rfl) rfl ?_
 rintro _ w3 ⟨B23,rfl,NB23⟩
 have eB23:=NB23.at_
 have zB23:=NB23.size
 replace hS:=hS.Bn NB23
 change Wx.Sep _ _ _ [_,_,_,_,_,_]at hS
 refine LW.A rfl (Ar (Aa (Ac rfl ?_)))
 refine A3 (eC (.o rfl) (OM)) rfl (sY ad cp xs _ (Els.up hE1 hS.Cj)) ?_
 rintro v25 w4 ⟨hO25,uw4⟩
 have zw4:=uw4.size
 replace hS:=hS.add uw4 (A':=A8 51 19 Fact.cells (v25) (Vc xs)) (hO25.mono (ao _)) (fun i h=>hO25.base i h)
 change Wx.Sep _ _ _ [_,_,_,_,_,_,_]at hS
 clear hO25
 obtain⟨ad25,cp25,rfl,_⟩:=(hS.own 6 rfl).sl (fun _=>rfl)
 have hxl:=Jn xs
 refine Ac rfl ?_
 refine A3 (eC (.u rfl rfl) (OL)) rfl (oZ ad25 as_ cp25 cs (Vc xs) zs _ (Gi (hS.own 6 rfl)) oQ (Els.up hZ1 hS.Cj) hz) ?_
 rintro v27 w5 ⟨Ps,hO27,hcat,hPl,hPg,uw5⟩
 have zw5:=uw5.size
 replace hS:=hS.add uw5 (A':=A8 24 1 Prt.enc v27 Ps) (hO27.mono (ao _)) (fun i h=>hO27.base i h)
 change Wx.Sep _ _ _ [_,_,_,_,_,_,_,_]at hS
 clear hO27
 refine Ac rfl ?_
 refine A3 (eC (.o rfl) (ON)) rfl (wF ar cr raw _ (Els.up hR1 hS.Cj)) ?_
 rintro v29 w6 ⟨hO29,uw6⟩
 have zw6:=uw6.size
 replace hS:=hS.add uw6 (A':=A8 51 19 Fact.cells (v29) (Lv raw)) (hO29.mono (ao _)) (fun i h=>hO29.base i h)
 change Wx.Sep _ _ _ [_,_,_,_,_,_,_,_,_]at hS
 clear hO29
 obtain⟨ad29,cp29,rfl,_⟩:=(hS.own 8 rfl).sl (fun _=>rfl)
 have hfl:=wB raw
 refine Ao (.buildSlice (xs:=[(⟨ad29,cp29,Lv raw⟩:Prt)]) (enc:=Prt.enc) (mk:=Prt.val) mu mf zeroValue24 rfl cQ (fun _=>rfl) (fun _=>rfl) (.cu rfl) rfl) rfl ?_
 rintro _ w7 ⟨B30,cB30,rfl,NB30,yB30,xB30⟩
 have eB30:=NB30.at_
 have zB30:=NB30.size
 replace hS:=hS.up NB30.up
 have hE30:=xB30
 refine Ao (.Cu (enc:=Prt.enc) (bytes:=24) (i:=Tryz.t24) mu kQ rfl rfl rfl rfl cQ (fun _=>rfl) Prt.one (.t rfl) (.t rfl) (hS.own 7 rfl) (Az hE30) (by simp[maxLen];omega) (by simp;omega)) rfl ?_
 intro v31 w8 Gw8
 have zw8:=Gw8.fr.size
 replace hS:=hS.E5 7 rfl Gw8
 change Wx.Sep _ _ _ [_,_,_,_,_,_,_,_,_]at hS
 refine LW.A rfl (Ar (Al ?_))
 replace hS:=hS.mD (OwnS.nil _ 0 51 19 Fact.cells)
 replace hS:=hS.Eb 6 rfl
 replace hS:=hS.Eb 7 rfl
 replace hS:=hS.Eb 6 rfl
 replace hS:=hS.Eb 5 rfl
 replace hS:=hS.Eb 5 rfl
 replace hS:=hS.Eb 0 rfl
 replace hS:=hS.Eb 0 rfl
 replace hS:=hS.Eb 0 rfl
 replace hS:=hS.Eb 0 rfl
 replace hS:=hS.Eb 0 rfl
 change Wx.Sep _ _ _ [_,_,_,_,_,_,_,_,_,_]at hS
 have hQok:∀q∈(Ps++[(⟨ad29,cp29,Lv raw⟩:Prt)]),OR ad25 cp25 (Vc xs) (⟨ad29,cp29,Lv raw⟩:Prt) q:=fun q hq=>(be.1 hq).elim (fun h=>.inl (hPg q h)) fun h=>.inr (aa.1 h)
 have hQl:(Ps++[(⟨ad29,cp29,Lv raw⟩:Prt)]).length≤9:=by rw[au,cl];omega
 have hQc:(Fj (Ps++[(⟨ad29,cp29,Lv raw⟩:Prt)])).length≤38:=by rw[Oo,hcat,au];show _+(Lv raw).length≤38;omega
 obtain⟨Qs,eQ⟩:∃Qs,Qs=(Ps++[(⟨ad29,cp29,Lv raw⟩:Prt)]):=⟨_,rfl⟩
 rw[←eQ]at hQok hQl hQc hS
 obtain⟨ad16,cp16,rfl,_⟩:=(hS.own 2 rfl).sl (fun _=>rfl)
 clear eQ hcat hPl hPg
 refine Aa (J (Ai (Ap ?_)))
 refine A9 (σ:=Nat×Eng×Nat×Option Addr×Nat) (fun s w=>(s.1≤Qs.length)∧(s.2.1.Ok s.1)∧(s.2.1.all=Fj (Qs.take s.1))∧(s.2.1.n=(s.2.2.1:Int))∧(s.2.2.1≤100*s.1)∧(Wx.Sep no w0 w ((pH ad25 cp25 xs ad29 cp29 raw ad16 cp16 Qs)++((wH B23 s.2.2.2.1 s.2.2.2.2 (Fj (Qs.take s.1)) (s.2.2.1))++Eng.As s.2.1)))) (fun s=>[(17,.eq (vi (s.1:Int))),(14,.eq (.pointer (some ⟨s.2.1.E,0,none⟩)))]) ([(3,.eq _),(4,.eq _),(5,.eq _),(13,.eq _),(15,.eq _),(16,.eq _)]) (fun s=>Qs.length-s.1) (0,z0,0,none,0) ?_ tQ ?_
 ·exact⟨ao _,hz0,ha0,hn0,ao _,hS⟩
 rintro⟨i,z,d,ad2,cp2⟩ w9 ⟨hi,hzk,hza,hzn,hdl,hS⟩
 dsimp only at hi hzk hza hzn hdl hS
 change Wx.Sep _ _ _ [_,_,_,_,_,_,_,_,_,_]at hS
 change CW _ _ _ _ _ _ _ ([(17,.eq (vi (i:Int))),(14,.eq (.pointer (some ⟨z.E,0,none⟩)))]++_) _
 refine Al (Af (Ac rfl (Ac rfl ?_)))
 refine I (.Df mu (.t rfl)) ?_
 refine I (.l2 rfl rfl) ?_
 refine Ai ?_
 refine CW.b rfl (fun h35=>?_) (fun h35=>?_)
 ·replace h35:=dQ h35
  refine Ak (Ab (Al (Ap (Al (Al ?_)))))
  have hil:i<Qs.length:=by omega
  obtain⟨p,hp⟩:∃p,Qs[i]?=some p:=⟨_,b_ hil⟩
  have hqp:=hQok p (am hp)
  obtain⟨Bx,ox,ax,hcx0⟩:=(D9 (hS.own 2 rfl) (fun _=>rfl)) i p hp
  clear hcx0
  have hcl:=Vq Qs (i+1)
  have hcl2:(Fj (Qs.take i)).length+p.xs.length≤100:=by rw[Oq hp,au]at hcl;omega
  have hPart:∀W,OwnS W 0 51 19 Fact.cells (.slice ad25 (Vc xs).length cp25) (Vc xs)→OwnS W 0 51 19 Fact.cells (.slice ad29 (Lv raw).length cp29) (Lv raw)→Els W p.ad 19 Fact.cells p.xs:=fun W h1 h2=>by
   rcases hqp with hg|rfl
   · exact uZ hg (Gi h1) (D9 h1 (fun _=>rfl))
   exact D9 h2 (fun _=>rfl)
  have hFoot2:∀B o,p.ad=some ⟨B,o,none⟩→(A8 51 19 Fact.cells (.slice ad25 (Vc xs).length cp25) (Vc xs)).foot B∨(A8 51 19 Fact.cells (.slice ad29 (Lv raw).length cp29) (Lv raw)).foot B:=fun B o e=>by
   rcases hqp with hg|rfl
   · exact .inl (vB (vA hg) e)
   exact .inr (vC e)
  have hFootM:∀B o,p.ad=some ⟨B,o,none⟩→Cl (pH ad25 cp25 xs ad29 cp29 raw ad16 cp16 Qs) B:=fun B o e=>(hFoot2 B o e).elim (fun h=>⟨_,am (i:=0) rfl,h⟩) fun h=>⟨_,am (i:=1) rfl,h⟩
  have hFoot:∀{Ys}B o,p.ad=some ⟨B,o,none⟩→Cl ((pH ad25 cp25 xs ad29 cp29 raw ad16 cp16 Qs)++Ys) B:=fun B o e=>let⟨A,hA,hf⟩:=hFootM B o e;⟨A,dw _ hA,hf⟩
  refine Ga kQ rfl ?_
  obtain⟨w10,hdr⟩:∃W,W=w9.drew:=⟨_,rfl⟩
  have uw10:Up w9 w10:=by rw[hdr];exact Up.drew _
  rw[←hdr]
  clear hdr
  have zw10:=uw10.size
  replace hS:=hS.up uw10
  refine qH 0 12 5 11 (fun q_=>[.pointer (some ⟨z.E,0,none⟩),.slice ad16 Qs.length cp16,vi (i:Int),.pointer (some ⟨Bx,ox+i*1,none⟩),p.val,vi ((Mi z.all p.xs:Nat):Int),.pointer (some ⟨B23,0,none⟩),.slice ad16 Qs.length cp16,vi (i:Int),.pointer (some ⟨Bx,ox+i*1,none⟩),p.val,vi ((Nq (Fj (Qs.take i)) p.xs:Nat):Int)].getD (q_-0) undef) (fun b1 b2 W=>∃(z2:Eng)(a2:Option Addr)(c2:Nat),(bif b1 then(z2.E=z.E∧z2.all=z.all++p.xs∧z2.n=z.n+((Mi z.all p.xs:Nat):Int)∧z2.Ok (i+1))else z2=z)∧Wx.Sep no w0 W ((pH ad25 cp25 xs ad29 cp29 raw ad16 cp16 Qs)++((wH B23 a2 c2 (bif b2 then Fj (Qs.take i)++p.xs else Fj (Qs.take i)) (bif b2 then d+Nq (Fj (Qs.take i)) p.xs else d))++Eng.As z2))) kQ kQ kQ kQ kQ kQ kQ kQ kQ kQ kQ rfl rfl ?_ _ _ rfl rfl ?_ ?_ (⟨z,ad2,cp2,rfl,hS⟩) ?_
  ·intro b1 b2 W hSt
   have hSt0:=hSt
   clear hS
   obtain⟨z2,a2,c2,hz2,hS⟩:=hSt0
   have hEP:=D9 ((show Wx.Sep no w0 W (_::_::A8 24 1 Prt.enc (.slice ad16 Qs.length cp16) Qs::_)from hS).own 2 rfl) (fun _=>rfl)
   obtain⟨Bx_,ox_,ax_,hcx⟩:=hEP i p hp
   obtain⟨rfl,rfl⟩:Bx_=Bx∧ox_=ox:=by have:=ax_.symm.trans ax;injection this with e;injection e with e1 e2;exact⟨e1,e2⟩
   refine aC (fun _ _=>?_) ?_
   ·exact TOp.p (hg:=rfl) (PEv.mv rfl) ⟨rfl,hSt⟩
   refine aC (fun _ _=>?_) ?_
   ·exact TOp.p (hg:=rfl) (PEv.mv rfl) ⟨rfl,hSt⟩
   refine aC (fun _ _=>?_) ?_
   ·exact TOp.p (hg:=rfl) (PEv.mv rfl) ⟨rfl,hSt⟩
   refine aC (fun _ _=>?_) ?_
   ·exact TOp.p (hg:=rfl) (PEv.Ay (j:=i) (k:=Qs.length) mu mf (.t rfl) (.t rfl) oQ ax) ⟨rfl,hSt⟩
   refine aC (fun _ _=>?_) ?_
   ·exact TOp.p (hg:=rfl) (PEv.lb rfl (hcx.nth (j:=0) rfl)) ⟨rfl,hSt⟩
   refine aC (fun h _=>absurd rfl h) ?_
   refine aC (fun _ _=>?_) ?_
   ·exact TOp.p (hg:=rfl) (PEv.mv rfl) ⟨rfl,hSt⟩
   refine aC (fun _ _=>?_) ?_
   ·exact TOp.p (hg:=rfl) (PEv.mv rfl) ⟨rfl,hSt⟩
   refine aC (fun _ _=>?_) ?_
   ·exact TOp.p (hg:=rfl) (PEv.mv rfl) ⟨rfl,hSt⟩
   refine aC (fun _ _=>?_) ?_
   ·exact TOp.p (hg:=rfl) (PEv.Ay (j:=i) (k:=Qs.length) mu mf (.t rfl) (.t rfl) oQ ax) ⟨rfl,hSt⟩
   refine aC (fun _ _=>?_) ?_
   ·exact TOp.p (hg:=rfl) (PEv.lb rfl (hcx.nth (j:=0) rfl)) ⟨rfl,hSt⟩
   refine aC (fun _ h=>absurd rfl h) ?_
   exact allL.nil
  ·intro b W hSt
   have hSt0:=hSt
   clear hS
   obtain⟨z2,a2,c2,hz2,hS⟩:=hSt0
   replace hz2:z2=z:=hz2
   subst hz2
   have hEp:=hPart W (hS.own 0 rfl) (hS.own 1 rfl)
   refine TOp.c (eC (.u rfl rfl) (CQ)) rfl (Kb z2 i p.ad p.cp p.xs W hzk oQ (by rw[hza,←Oq hp];have:=Vq Qs (i+1);omega) hEp (fun _ B o e h=>(show Wx.Sep no w0 W (((pH ad25 cp25 xs ad29 cp29 raw ad16 cp16 Qs)++(wH B23 a2 c2 (bif b then Fj (Qs.take i)++p.xs else Fj (Qs.take i)) (bif b then d+Nq (Fj (Qs.take i)) p.xs else d)))++Eng.As z2)from hS).oB (hFoot B o e) h) (show Wx.Sep no w0 W (((pH ad25 cp25 xs ad29 cp29 raw ad16 cp16 Qs)++(wH B23 a2 c2 (bif b then Fj (Qs.take i)++p.xs else Fj (Qs.take i)) (bif b then d+Nq (Fj (Qs.take i)) p.xs else d)))++Eng.As z2)from hS).right.self) ?_
   rintro _ W1 ⟨z3,rfl,h1,h2,h3,h4,u⟩
   exact⟨rfl,z3,a2,c2,⟨h1,h2,h3,h4⟩,(show Wx.Sep no w0 W (((pH ad25 cp25 xs ad29 cp29 raw ad16 cp16 Qs)++(wH B23 a2 c2 (bif b then Fj (Qs.take i)++p.xs else Fj (Qs.take i)) (bif b then d+Nq (Fj (Qs.take i)) p.xs else d)))++Eng.As z2)from hS).frame u⟩
  ·intro b W hSt
   have hSt0:=hSt
   clear hS
   obtain⟨z2,a2,c2,hz2,hS⟩:=hSt0
   have hEp:=hPart W (hS.own 0 rfl) (hS.own 1 rfl)
   refine TOp.c (eC (.u rfl rfl) (LQ)) rfl (wD B23 d a2 p.ad c2 p.cp (Fj (Qs.take i)) p.xs W (show Wx.Sep no w0 W ((pH ad25 cp25 xs ad29 cp29 raw ad16 cp16 Qs)++((wH B23 a2 c2 (Fj (Qs.take i)) (d))++Eng.As z2))from hS).LI oQ hcl2 hEp (fun _ _ _ B o e h=>(show Wx.Sep no w0 W ((pH ad25 cp25 xs ad29 cp29 raw ad16 cp16 Qs)++((wH B23 a2 c2 (Fj (Qs.take i)) (d))++Eng.As z2))from hS).OG (hFootM B o e) h)) ?_
   rintro _ W1 ⟨rfl,a3,c3,u⟩
   exact⟨rfl,z2,a3,c3,hz2,(show Wx.Sep no w0 W ((pH ad25 cp25 xs ad29 cp29 raw ad16 cp16 Qs)++((wH B23 a2 c2 (Fj (Qs.take i)) (d))++Eng.As z2))from hS).FH u⟩
  intro w11 hSt
  clear hS
  obtain⟨z2,a2,c2,hz2_,hS⟩:=hSt
  obtain⟨hp2,ha2,hn2,hz2⟩:z2.E=z.E∧z2.all=z.all++p.xs∧z2.n=z.n+((Mi z.all p.xs:Nat):Int)∧z2.Ok (i+1):=hz2_
  replace hS:Wx.Sep no w0 _ ((pH ad25 cp25 xs ad29 cp29 raw ad16 cp16 Qs)++((wH B23 a2 c2 (Fj (Qs.take i)++p.xs) (d+Nq (Fj (Qs.take i)) p.xs))++Eng.As z2)):=hS
  change Wx.Sep _ _ _ [_,_,_,_,_,_,_,_,_,_]at hS
  rw[hza,←Oq hp]at ha2
  rw[←Oq hp]at hS
  have hrc:Nq (Fj (Qs.take i)) p.xs=Mi z.all p.xs:=by rw[hza];exact pC _ _
  have hnd2:z2.n=((d+Nq (Fj (Qs.take i)) p.xs:Nat):Int):=by rw[hn2,hzn,hrc];omega
  have hk2:z2.kb=Dj (Fj (Qs.take (i+1))) 100000:=by unfold Eng.kb;rw[ha2]
  have hL2:(Fj (Qs.take (i+1))).length≤100:=by have:=Vq Qs (i+1);omega
  have hsh2:short z2.kb:=mZ (bb hz2.len cQ) _
  have hlL:(Kc z2.kb).length≤1000000000:=by have h1:=Rj z2.kb z2.kb.Processes z2.kb.Processes.length;rw[br]at h1;have h2:=(Gu hz2).1;unfold Kc;rw[List.length_mergeSort];omega
  rw[←hp2]
  refine AWU.free 12 38 [.eq (.bool false),.eq (.bool false),.eq (.pointer (some ⟨z2.E,0,none⟩)),.eq (vi z2.n),.eq (.pointer (some ⟨B23,0,none⟩)),.eq (.pointer (some ⟨B23,0,none⟩)),.eq (.pointer (some ⟨B23,1,none⟩)),.eq (vi ((d+Nq (Fj (Qs.take i)) p.xs:Nat):Int)),.eq (.bool false),.eq (.bool false),.eq (.bool false),.eq (.pointer (some ⟨z2.E,0,none⟩)),.pred fun v w=>BaseV w v z2.kb,.eq (.pointer (some ⟨B23,0,none⟩)),.pred fun v w=>BaseV w v z2.kb,.eq (.bool true),.eq (.bool false),.eq (.bool false),.eq (.bool false),.eq (.pointer (some ⟨z2.E,0,none⟩)),.pred fun v w=>Sl w v 1 Cm (Kc z2.kb),.eq (.pointer (some ⟨B23,0,none⟩)),.pred fun v w=>Sl w v 1 Cm (Kc z2.kb),.eq (.bool true),.eq (.bool false),.eq (.bool false)] [75] rfl kQ kQ kQ kQ kQ kQ kQ kQ ⟨nm,nm,nm,nm,nm,nm,nm,nm,nm,nm,nm,nm,PhU.pred fun _ _ _ h u=>BaseV.up h u,nm,PhU.pred fun _ _ _ h u=>BaseV.up h u,nm,nm,nm,nm,nm,PhU.pred fun _ _ _ h u=>Sl.up h u,nm,PhU.pred fun _ _ _ h u=>Sl.up h u,nm,nm,nm,trivial⟩ ?_ ?_
  ·intro W hU
   have hSW:=hS.up hU
   refine aC (TOp.p (PEv.fa (PEv.neq (.t rfl) (.t rfl)) (by rw[hrc];simp)) rfl ⟨Up.refl _,rfl⟩) ?_
   refine aC (TOp.p (PEv.mv rfl) rfl ⟨Up.refl _,rfl⟩) ?_
   refine aC (Iz rfl rfl rfl rfl rfl (PEv.mv rfl) ⟨Up.refl _,rfl⟩) ?_
   refine aC (Pa rfl rfl rfl rfl rfl (eC (.o rfl) FY) (Yc z2.E z2.bf z2.bd z2.bc z2.n W hz2.hbc hSW.b5) sQ) ?_
   refine aC (Iz rfl rfl rfl rfl rfl (PEv.mv rfl) ⟨Up.refl _,rfl⟩) ?_
   refine aC (Iz rfl rfl rfl rfl rfl (PEv.nc rfl) ⟨Up.refl _,rfl⟩) ?_
   refine aC (Iz rfl rfl rfl rfl rfl (PEv.fB 1 rfl) ⟨Up.refl _,rfl⟩) ?_
   refine aC (Iz rfl rfl rfl rfl rfl (PEv.lb rfl (hSW.b3.An (o:=1) rfl)) ⟨Up.refl _,rfl⟩) ?_
   refine aC (Iz rfl rfl rfl rfl rfl (PEv.fa (PEv.neq (.t rfl) (.t rfl)) (by rw[hnd2];simp)) ⟨Up.refl _,rfl⟩) ?_
   refine aC (TOp.p (PEv.po rfl (fun hp=>wQ)) rfl ⟨Up.refl _,rfl⟩) ?_
   refine aC (TOp.p (PEv.mv rfl) rfl ⟨Up.refl _,rfl⟩) ?_
   refine aC (Iz rfl rfl rfl rfl rfl (PEv.mv rfl) ⟨Up.refl _,rfl⟩) ?_
   refine aC (Pa rfl rfl rfl rfl rfl (eC (.o rfl) FZ) (Ya z2.E z2.bf z2.bd z2.bc z2.n z2.all W hSW.b5 (hSW.get 6 rfl) (bb hz2.len cQ)) (fun v W' h=>let⟨bc1,e,hC,_,u⟩:=h;⟨u,bc1,e,hC⟩)) ?_
   refine aC (Iz rfl rfl rfl rfl rfl (PEv.mv rfl) ⟨Up.refl _,rfl⟩) ?_
   refine aC (Pa rfl rfl rfl rfl rfl (eC (.o rfl) pL) (Lw B23 _ a2 c2 (Fj (Qs.take (i+1))) W hSW.b3 (D9 (hSW.own 4 rfl) (fun _=>rfl)) (bb hL2 cQ)) (fun v W' h=>let⟨bc1,e,hC,u⟩:=h;⟨u,bc1,e,hk2▸hC⟩)) ?_
   refine aC (TOp.open (d:=62) (p:=fun v w=>BaseV w v z2.kb) rfl fun v1 k1=>TOp.open (d:=64) (p:=fun v w=>BaseV w v z2.kb) rfl fun v2 k2=>Pa rfl rfl rfl rfl rfl (eC (.u rfl rfl) LR) (FI v1 v2 z2.kb W k1 k2 hsh2) sQ) ?_
   refine aC (Iz rfl rfl rfl rfl rfl (PEv.fa (PEv.n1 rfl) (rfl)) ⟨Up.refl _,rfl⟩) ?_
   refine aC (TOp.p (PEv.po rfl (fun hp=>wQ)) rfl ⟨Up.refl _,rfl⟩) ?_
   refine aC (TOp.p (PEv.mv rfl) rfl ⟨Up.refl _,rfl⟩) ?_
   refine aC (Iz rfl rfl rfl rfl rfl (PEv.mv rfl) ⟨Up.refl _,rfl⟩) ?_
   refine aC (Pa rfl rfl rfl rfl rfl (eC (.o rfl) CR) (Sd z2.E z2.bf z2.bd z2.bc z2.n z2.kb W hz2.hbc hSW.b5 (hSW.get 7 rfl) (Gu hz2).1 (Gu hz2).2.1 (Gu hz2).2.2.1 (Gu hz2).2.2.2 Zw) (fun v W' h=>⟨h.2,h.1.sl (fun _=>rfl)⟩)) ?_
   refine aC (Iz rfl rfl rfl rfl rfl (PEv.mv rfl) ⟨Up.refl _,rfl⟩) ?_
   refine aC (Pa rfl rfl rfl rfl rfl (eC (.o rfl) LS) (pG B23 _ a2 c2 (Fj (Qs.take (i+1))) W hSW.b3 (D9 (hSW.own 4 rfl) (fun _=>rfl)) hL2) (fun v W' h=>⟨h.2,by have h1:=h.1.sl (fun _=>rfl);rw[←eI,←hk2]at h1;exact h1⟩)) ?_
   refine aC (TOp.open (d:=70) (p:=fun v w=>Sl w v 1 Cm (Kc z2.kb)) rfl fun v1 k1=>TOp.open (d:=72) (p:=fun v w=>Sl w v 1 Cm (Kc z2.kb)) rfl fun v2 k2=>Pa rfl rfl rfl rfl rfl (eC (.u rfl rfl) GA) (Rk v1 v2 (Kc z2.kb) (Kc z2.kb) W k1 k2 hlL hlL) (by rintro _ W1 ⟨rfl,u⟩;exact⟨u,by rw[a8 rfl];rfl⟩)) ?_
   refine aC (Iz rfl rfl rfl rfl rfl (PEv.fa (PEv.n1 rfl) (rfl)) ⟨Up.refl _,rfl⟩) ?_
   refine aC (TOp.p (PEv.po rfl (fun hp=>wQ)) rfl ⟨Up.refl _,rfl⟩) ?_
   exact allL.nil
  intro w12 g hU hg
  have zw12:=hU.size
  replace hS:=hS.up hU
  have e75:g 75=.bool false:=hg 37 _ 75 cQ cQ rfl rfl
  change LW _ _ _ _ _ _ _ _ ((75,.eq (g 75))::_) _
  rw[e75]
  clear e75 hg
  refine Ai ?_
  refine CW.f rfl ?_
  refine Ak (Ab (Al ?_))
  have hp21:=Po (c:=recipe) (n:=2) ht.2.2 cQ
  have hgA:∀g∈([(⟨tool,chamber,recipe⟩:Grp),(⟨A6 tool 2,A6 chamber 2,1+A6 recipe 2⟩:Grp)]:List Grp),F8 g.t∧F8 g.c∧F8 g.r:=fun g h=>by
   rcases ap.1 h with rfl|h
   · exact ht
   rw[aa.1 h];exact⟨eJ ht.1 cQ cQ,eJ ht.2.1 cQ cQ,by show F8 (1+A6 recipe 2);unfold F8;omega⟩
  refine Aa (Ac rfl (Ac rfl (Ac rfl ?_)))
  refine I (.H2 (cs:=Grp.cells (⟨tool,chamber,recipe⟩:Grp)) mz zeroValue43 lf (.ct rfl (.ct rfl (.cu rfl))) rfl) ?_
  refine Ac rfl ?_
  refine A3 (eC (.ct rfl (.cons (.const _) .nil)) (wP)) rfl (Ml _ _ _ cQ) ?_
  rintro _ w13 ⟨rfl,uw13⟩
  have zw13:=uw13.size
  replace hS:=hS.up uw13
  refine Ac rfl ?_
  refine A3 (eC (.ct rfl (.cons (.const _) .nil)) (wP)) rfl (Ml _ _ _ cQ) ?_
  rintro _ w14 ⟨rfl,uw14⟩
  have zw14:=uw14.size
  replace hS:=hS.up uw14
  refine Ac rfl ?_
  refine A3 (eC (.ct rfl (.cons (.const _) .nil)) (wP)) rfl (Ml _ _ _ cQ) ?_
  rintro _ w15 ⟨rfl,uw15⟩
  have zw15:=uw15.size
  replace hS:=hS.up uw15
  refine I (.add (.const _) (.t rfl) oQ oQ) ?_
  refine I (.H2 (cs:=Grp.cells (⟨A6 tool 2,A6 chamber 2,1+A6 recipe 2⟩:Grp)) mz zeroValue43 lf (.ct rfl (.ct rfl (.cu rfl))) rfl) ?_
  refine Ao (.buildSlice (xs:=[(⟨tool,chamber,recipe⟩:Grp),(⟨A6 tool 2,A6 chamber 2,1+A6 recipe 2⟩:Grp)]) (enc:=Grp.cells) (mk:=fun g:Grp=>.agg g.cells) underlying45 sizeOf43 zeroValue43 rfl cQ (fun _=>rfl) (fun _=>rfl) (.ct rfl (.cu rfl)) rfl) rfl ?_
  intro v88 w16 hN88
  obtain⟨u88,B88,rfl,e88,hO88⟩:=NewSl.own hN88 (fun _=>rfl) cQ (by simp[maxLen])
  have zw16:=u88.size
  replace hS:=hS.add u88 (A':=A8 43 3 Grp.cells (.slice (some ⟨B88,0,none⟩) 2 2) [(⟨tool,chamber,recipe⟩:Grp),(⟨A6 tool 2,A6 chamber 2,1+A6 recipe 2⟩:Grp)]) hO88 (fun i h=>by cases h;exact jb e88.symm)
  clear hO88 hN88
  change Wx.Sep _ _ _ [_,_,_,_,_,_,_,_,_,_,_]at hS
  refine I (.Df underlying45 (.t rfl)) ?_
  refine I (.move (.const _)) ?_
  refine Ai (Ap ?_)
  refine A9 (σ:=Nat) (fun s w=>(s≤2)∧(Wx.Sep no w0 w ((pH ad25 cp25 xs ad29 cp29 raw ad16 cp16 Qs)++((wH B23 a2 c2 (Fj (Qs.take (i+1))) (d+Nq (Fj (Qs.take i)) p.xs))++Eng.As z2)++[A8 43 3 Grp.cells (.slice (some ⟨B88,0,none⟩) 2 2) [(⟨tool,chamber,recipe⟩:Grp),(⟨A6 tool 2,A6 chamber 2,1+A6 recipe 2⟩:Grp)]]))) (fun s=>[(90,.eq (vi (s:Int)))]) ([(3,.eq _),(4,.eq _),(5,.eq _),(13,.eq _),(14,.eq _),(15,.eq _),(16,.eq _),(17,.eq _),(88,.eq _),(89,.eq _)]) (fun s=>2-s) 0 ?_ tQ ?_
  ·exact⟨ao _,hS⟩
  rintro j w17 ⟨hj,hS⟩
  refine Al ?_
  skip
  refine Aa ?_
  refine I (.l2 rfl rfl) ?_
  refine Ar ?_
  refine CW.b rfl (fun h91=>?_) (fun h91=>?_)
  ·replace h91:=dQ h91
   refine Ak (Ab (Al (Ap (Al ?_))))
   have hj2:j<2:=by first|exact Int.ofNat_lt.1 h91|exact Int.ofNat_lt.1 (bj h91)|(have h:=h91;simp at h;omega)
   obtain⟨g,hg0⟩:∃g,([(⟨tool,chamber,recipe⟩:Grp),(⟨A6 tool 2,A6 chamber 2,1+A6 recipe 2⟩:Grp)]:List Grp)[j]?=some g:=⟨_,b_ (by simp;omega)⟩
   obtain⟨By,oy,ay,hcy⟩:=(D9 (hS.own 10 rfl) (fun _=>rfl)) j g hg0
   have hgi:F8 g.t∧F8 g.c∧F8 g.r:=hgA g (am hg0)
   refine Aa ?_
   refine I (.Ay underlying45 sizeOf43 (j:=j) (.t rfl) (.t rfl) hj2 ay) ?_
   refine I (.lc rfl (hcy)) ?_
   refine Ao (.Bi zeroValue43) rfl ?_
   rintro _ w18 ⟨B19,rfl,MB19⟩
   refine Bh (.A5 sizeOf43 rfl (.t rfl) (.t rfl) (Grp.one _) MB19.blk rfl) ?_
   intro w19 LB19
   have NB19:=MB19.set LB19
   clear LB19 MB19
   have eB19:=NB19.at_
   have zB19:=NB19.size
   replace hS:=hS.Bn NB19
   change Wx.Sep _ _ _ [_,_,_,_,_,_,_,_,_,_,_,_]at hS
   refine Ar ?_
   refine Eo 18 [.eq (.pointer (some ⟨z2.E,0,none⟩)),.eq (.pointer (some ⟨B19,0,none⟩)),.eq (vi g.t),.eq (.pointer (some ⟨B19,1,none⟩)),.eq (vi g.c),.eq (.pointer (some ⟨B19,2,none⟩)),.eq (vi g.r),.pred fun v w=>DecsE w v (Gt z2.kb g.t g.c g.r),.eq (.pointer (some ⟨B23,0,none⟩)),.eq (.pointer (some ⟨B19,0,none⟩)),.eq (vi g.t),.eq (.pointer (some ⟨B19,1,none⟩)),.eq (vi g.c),.eq (.pointer (some ⟨B19,2,none⟩)),.eq (vi g.r),.pred fun v w=>DecsE w v (Gt z2.kb g.t g.c g.r),.eq (.bool true),.eq (.bool false)] [111] kQ rfl kQ kQ kQ kQ kQ kQ kQ ⟨nm,nm,nm,nm,nm,nm,nm,PhU.pred fun _ _ _ h u=>DecsE.up h u,nm,nm,nm,nm,nm,nm,nm,PhU.pred fun _ _ _ h u=>DecsE.up h u,nm,nm,trivial⟩ ?_ ?_
   ·intro W hU0
    have hU:=(Up.drew w19).trans hU0
    have hSW:=hS.up hU
    refine aC ⟨rfl,TU.p (.mv rfl) rfl⟩ ?_
    refine aC ⟨rfl,TU.p (.Bu (j:=0) mz lf (.t rfl) (.const _) cQ) rfl⟩ ?_
    refine aC ⟨rfl,TU.p (.lb rfl ((hSW.blk 11 rfl).An (o:=0) rfl)) rfl⟩ ?_
    refine aC ⟨rfl,TU.p (.Bu (j:=1) mz lf (.t rfl) (.const _) cQ) rfl⟩ ?_
    refine aC ⟨rfl,TU.p (.lb rfl ((hSW.blk 11 rfl).An (o:=1) rfl)) rfl⟩ ?_
    refine aC ⟨rfl,TU.p (.Bu (j:=2) mz lf (.t rfl) (.const _) cQ) rfl⟩ ?_
    refine aC ⟨rfl,TU.p (.lb rfl ((hSW.blk 11 rfl).An (o:=2) rfl)) rfl⟩ ?_
    refine aC ⟨rfl,TU.c (eC (.ct rfl (.ct rfl (.ct rfl (.cu rfl)))) (GB)) (iT z2.E z2.bf z2.bd z2.bc z2.n z2.D z2.kb g.t g.c g.r W hgi hz2.hbc hz2.keys hz2.dks (Gu hz2).1 hSW.b5 (hSW.get 8 rfl) (hSW.get 9 rfl)) (fun _ _ h=>⟨h.2,h.1⟩)⟩ ?_
    refine aC ⟨rfl,TU.p (.mv rfl) rfl⟩ ?_
    refine aC ⟨rfl,TU.p (.Bu (j:=0) mz lf (.t rfl) (.const _) cQ) rfl⟩ ?_
    refine aC ⟨rfl,TU.p (.lb rfl ((hSW.blk 11 rfl).An (o:=0) rfl)) rfl⟩ ?_
    refine aC ⟨rfl,TU.p (.Bu (j:=1) mz lf (.t rfl) (.const _) cQ) rfl⟩ ?_
    refine aC ⟨rfl,TU.p (.lb rfl ((hSW.blk 11 rfl).An (o:=1) rfl)) rfl⟩ ?_
    refine aC ⟨rfl,TU.p (.Bu (j:=2) mz lf (.t rfl) (.const _) cQ) rfl⟩ ?_
    refine aC ⟨rfl,TU.p (.lb rfl ((hSW.blk 11 rfl).An (o:=2) rfl)) rfl⟩ ?_
    refine aC ⟨rfl,TU.c (eC (.ct rfl (.ct rfl (.ct rfl (.cu rfl)))) (LV)) (pF B23 _ a2 c2 (Fj (Qs.take (i+1))) g.t g.c g.r W hSW.b3 (D9 (hSW.own 4 rfl) (fun _=>rfl)) hL2) (fun v W' h=>let⟨_,M,e,hm,hT⟩:=h;⟨hT.Cj,by rw[e,hk2];exact cI hT hm⟩)⟩ ?_
    refine aC ⟨rfl,TU.open (d:=101) (p:=fun v w=>DecsE w v (Gt z2.kb g.t g.c g.r)) rfl fun v1 k1=>TU.open (d:=109) (p:=fun v w=>DecsE w v (Gt z2.kb g.t g.c g.r)) rfl fun v2 k2=>TU.c (eC (.u rfl rfl) (LU)) (Zj v1 v2 (Gt z2.kb g.t g.c g.r) (Gt z2.kb g.t g.c g.r) W k1 k2 (by rw[Q4];exact bb (Iv _ _ _ _) (bb (Gu hz2).1 cQ)) (fun D hD=>bb (Xx _ _ _ _ D hD) (bb (Iv _ _ _ _) (bb (Gu hz2).1 cQ)))) (by rintro _ W1 ⟨rfl,u⟩;exact⟨u,by rw[S3];rfl⟩)⟩ ?_
    refine aC ⟨rfl,TU.p (.fa (PEv.n1 rfl) (rfl)) rfl⟩ ?_
    exact allL.nil
   intro w20 g hU0 hg
   have hU:=(Up.drew w19).trans hU0
   have zw20:=hU.size
   replace hS:=hS.up hU
   have e111:g 111=.bool false:=hg 17 _ 111 cQ rfl rfl
   change LW _ _ _ _ _ _ _ _ ((111,.eq (g 111))::_) _
   rw[e111]
   clear e111 hg
   refine Ai ?_
   refine CW.f rfl ?_
   refine Ak (Ae (Ab (Aa ?_)))
   refine I (.ic rfl oQ) ?_
   refine Ac rfl (LW.nil (Aq ?_))
   exact⟨j+1,⟨by omega,hS.take 11⟩,tQ,by first|omega|(dsimp only;omega)⟩
  replace h91:=dQ h91
  refine A7 (Ad (Ad (Au (Ae (Ab (Aa (Ac rfl ?_)))))))
  refine I (.ic rfl oQ) ?_
  refine LW.A rfl (LW.nil (Aq ?_))
  exact⟨(i+1,z2,d+Nq (Fj (Qs.take i)) p.xs,a2,c2),⟨by show i+1≤_;omega,hz2,ha2,hnd2,by have:=hz2.wk.2;rw[hnd2]at this;show d+Nq (Fj (Qs.take i)) p.xs≤100*(i+1);omega,hS.take 10⟩,tQ,by show Qs.length-(i+1)<Qs.length-i;omega⟩
 replace h35:=dQ h35
 refine A7 (Ad (Ad (Au (Ab (Af (Ac rfl (LW.A rfl (Ai (Aj ?_)))))))))
 refine KW.q ?_
 exact⟨rfl,hS.Cj⟩
end Go.Proofs.YtbcnnkfopoiifaaGreatDoor
