import Derived.Test.YtnpgbbaniknpkaaGreatDoorKR110
namespace Go.Wx
def KI(p:UInt8×Bool):Array Go.Value:=#[bv p.1,.bool p.2]
theorem AG(z:Nat):Sr z≠[]:=by unfold Sr Pw;split<;>simp
theorem PEv.val{P:Program}{n:Nat}{ds:List Deferred}{l:Env}{w:World}{o:Oper}{v v':Go.Value}(h:PEv P n ds l w o v)(e:v=v'):PEv P n ds l w o v':=e▸h
theorem pU{pre:List (UInt8×Bool)}{z zz:Nat}{b:Bool}(hb:b=true↔zz<128)(h:Sr z=pre++Sr zz)(hz:b=true):pre++[(UInt8.ofNat (zz%128),b)]=Sr z:=by
 have hz1:=hb.1 hz
 rw[h,kJ hz1,im hz1,hz]
theorem pV{pre:List (UInt8×Bool)}{z zz:Nat}{b:Bool}(hb:b=true↔zz<128)(h:Sr z=pre++Sr zz)(hz:b=false)(h64:zz<18446744073709551616):Sr z=(pre++[(UInt8.ofNat (zz%128),b)])++Sr (zz/128)∧zz/128<zz:=by
 have hz1:¬zz<128:=fun e=>by rw[hb.2 e]at hz;cases hz
 rw[h,tV hz1 h64,hz]
 exact⟨by simp,by omega⟩
theorem pW{zz:Nat}{b:Bool}(hb:b=decide ((zz:Int)<128)):b=true↔zz<128:=⟨fun h=>by have:=b9 (hb.symm.trans h);omega,fun h=>hb.trans (bj oQ)⟩
theorem pX{pre:List (UInt8×Bool)}{z zz:Nat}(h:Sr z=pre++Sr zz):pre.length<10:=by
 have h1:=gR z
 have h2:=gb.2 (AG zz)
 rw[h,ak]at h1
 omega
theorem uO{x:UInt8×Bool}(h:(!x.2)=true):Y2 x=x.1|||128:=aq (by simpa using h)
theorem pY{x:UInt8×Bool}(h:(!x.2)=false):Y2 x=x.1:=bh (by simpa using h)
def AH(n:Int):Int:=if Ps n then 0 else 10
theorem uP{n:Int}(h:Ps n):encI n=(Sr (gQ n)).map Y2:=by rw[encI,bh h];rfl
theorem pZ{n:Int}(h:¬Ps n):encI n=[]:=by rw[encI,aq h]
theorem Zo(t:List UInt8):(dD t).length≤10+t.length:=by
 have:=Oy (t.length:Int)
 unfold dD
 rw[ak]
 omega
theorem Xj(t:ByteArray):t.data.toList.length=t.size:=c9
theorem S3(c:List UInt8):(⟨c.toArray⟩:ByteArray).size=c.length:=by simp[ByteArray.size]
theorem uS(k:Int):∀x∈Er k,Fx x.off=true:=by
 intro x hx
 have h:∀l∈P3,∀y∈l,Fx y.off=true:=by decide
 unfold Er at hx
 rw[cg]at hx
 cases hl:P3[k.toNat]? with
 |none=>rw[hl]at hx;simp at hx
 |some l=>rw[hl]at hx;exact h l (ai hl) x (by simpa using hx)
theorem Zp(k:Int):(Er k).length≤16:=by
 have h:∀l∈P3,l.length≤16:=by decide
 unfold Er
 rw[cg]
 cases hl:P3[k.toNat]? with
 |none=>simp
 |some l=>exact h l (ai hl)
def Es(fs:List Fld)(f:Fact):List Int:=fs.map fun x=>Hd f x.off
theorem Nz(fs:List Fld)(f:Fact):(Es fs f).length=fs.length:=by simp[Es]
theorem Q0{fs:List Fld}{f:Fact}{k:Nat}{x:Fld}(h:fs[k]?=some x):(Es fs f).take (k+1)=(Es fs f).take k++[Hd f x.off]:=Cr (by simp[Es,h])
def Ki(b:Bool):Int:=if b then 1 else 0
def O4(f:Fact):List Int:=f.Kind::Es (Er f.Kind) f
def Cm(f:Fact):List UInt8:=if Ca f then Cw (O4 f)else[]
def P5(f:Fact):List Int:=[f.Kind,f.Version,f.Day,Ki f.Gone]++Es (fieldsOf f.Kind) f
def Iu(f:Fact):List UInt8:=Cw (P5 f)++if G9 f.Kind then dD f.Text.data.toList else[]
def S4(f:Fact):List UInt8:=if Ca f then Iu f else[]
def E0(a b:Fact):Bool:=Ca a&&Ca b&&(Cm a==Cm b)&&(decide (b.Version<a.Version)||(decide (a.Version=b.Version)&&decide (0<Go.Lib.compareBytes (Iu a) (Iu b))))
theorem E6{f:Fact}(h:Ca f=true):1≤f.Kind∧f.Kind≤11:=by
 unfold Ca at h
 simp only[b6,gj]at h
 exact h.1
theorem Mz{f:Fact}(h:Ca f=true):preB f=false:=by
 unfold Ca at h
 simp only[b6]at h
 have:=h.2.1
 simp only[jl,jc]at this
 exact this.1
theorem N0{f:Fact}(h:Ca f=true):f.Text.size≤8192:=by
 have:=Mz h
 simp only[preB,jc,jo]at this
 omega
theorem iL{f:Fact}(h:Ca f=true):Cw (O4 f)≠[]:=by
 have hk:=E6 h
 intro e
 unfold O4 Cw at e
 rw[cw,jr]at e
 exact gT (by unfold Ps;omega) e.1
theorem iM{f:Fact}(h:Ca f=true):Iu f≠[]:=by
 have hk:=E6 h
 intro e
 unfold Iu P5 Cw at e
 rw[jr,e_,cw,jr]at e
 exact gT (by unfold Ps;omega) e.1.1
theorem V0(a b:List Int):Cw (a++b)=Cw a++Cw b:=by simp[Cw]
theorem uT(f:Fact):([]++Cw [f.Kind]).length+10*(Er f.Kind).length≤10000:=by
 have h1:=Zp f.Kind
 have h2:=Hx [f.Kind]
 rw[du]
 simp only[bg,bw]at h2
 omega
theorem uU(f:Fact):(Cw (O4 f)).length≤1000000000:=by
 have h1:=Zp f.Kind
 have h2:=Hx (O4 f)
 have h3:(O4 f).length=1+(Er f.Kind).length:=by simp[O4,Es];omega
 omega
theorem iN(b:ByteArray):∀(k i:Nat)(r:List UInt8),b.size-i=k→ByteArray.toList.loop b i r=r.reverse++b.data.toList.drop i
 |0,i,r,h=>by
   unfold ByteArray.toList.loop
   rw[aq oQ,i7 (by rw[c9];have:b.data.size=b.size:=rfl;omega),dk]
 |k+1,i,r,h=>by
   unfold ByteArray.toList.loop
   have hi:i<b.size:=by omega
   rw[bh hi,iN b k (i+1) _ (by omega)]
   have hi':i<b.data.toList.length:=by rw[c9];exact hi
   rw[fj hi']
   have:b.get! i=b.data.toList[i]:=by
     rw[Array.getElem_toList]
     show b.data[i]! =_
     exact getElem!_pos b.data i hi
   rw[this];simp
theorem Ja(b:ByteArray):b.toList=b.data.toList:=by
 unfold ByteArray.toList
 rw[iN b b.size 0 [] rfl];simp
structure ElT{α:Type}(w:World)(ad:Option Addr)(T:TypeId)(k:Nat)(enc:α→Array Value)(xs:List α):Prop where
 els:Els w ad k enc xs
 ty:∀B o,ad=some ⟨B,o,none⟩→∃cs x,w.heap[B]?=some (Obj.cells cs T x)
theorem ElT.up{α:Type}{w w':World}{ad:Option Addr}{T:TypeId}{k:Nat}{enc:α→Array Value}{xs:List α}(h:ElT w ad T k enc xs)(u:Up w w'):ElT w' ad T k enc xs:=⟨Els.up h.els u,fun B o e=>let⟨cs,x,hc⟩:=h.ty B o e;⟨cs,x,(u.block (lt_of_block hc)).trans hc⟩⟩
theorem ElT.fr{α:Type}{S:Nat→Prop}{w w':World}{ad:Option Addr}{T:TypeId}{k:Nat}{enc:α→Array Value}{xs:List α}(h:ElT w ad T k enc xs)(f:Fr S w w')(hn:∀B cs x,w.heap[B]?=some (Obj.cells cs T x)→¬S B):ElT w' ad T k enc xs:=
 ⟨h.els.fr f (fun B o e=>let⟨cs,x,hc⟩:=h.ty B o e;hn B cs x hc),fun B o e=>let⟨cs,x,hc⟩:=h.ty B o e;⟨cs,x,(f.block _ (lt_of_block hc) (hn B cs x hc)).trans hc⟩⟩
theorem uV(f:Fact):([]++Cw [f.Kind,f.Version,f.Day,Ki f.Gone]).length+10*(fieldsOf f.Kind).length≤10000:=by
 have h1:=Ny f.Kind
 have h2:=Hx [f.Kind,f.Version,f.Day,Ki f.Gone]
 rw[du]
 simp only[bg,bw]at h2
 omega
theorem qA(f:Fact):(Cw (P5 f)).length≤200:=by
 have h1:=Ny f.Kind
 have h2:=Hx (P5 f)
 have h3:(P5 f).length=4+(fieldsOf f.Kind).length:=by simp[P5,Es];omega
 omega
theorem iO{f:Fact}(h:Ca f=true):(Iu f).length≤9000:=by
 have h1:=qA f
 have h2:=N0 h
 unfold Iu
 rw[ak]
 split
 · have:=Zo f.Text.data.toList
   rw[Xj]at this
   omega
 simp;omega
theorem lH{f:Fact}(h:G9 f.Kind=true):Cw (P5 f)++dD f.Text.data.toList=Iu f:=by rw[Iu,bh h]
theorem uW{f:Fact}(h:G9 f.Kind=false):Cw (P5 f)=Iu f:=by rw[Iu,aq (by rw[h];exact ca),dk]
def Q3(f:Fact):Int:=if Ca f then 0 else 150
theorem Xk(a b:Fact):((⟨(Cm a).toArray⟩:ByteArray).toList==(⟨(Cm b).toArray⟩:ByteArray).toList)=(Cm a==Cm b):=by rw[Ja,Ja]
theorem Zq{a b:Fact}(h:(Ca a&&Ca b)=false):false=E0 a b:=by simp[E0,h]
theorem qB{a b:Fact}(h:(!((⟨(Cm a).toArray⟩:ByteArray).toList==(⟨(Cm b).toArray⟩:ByteArray).toList))=true):false=E0 a b:=by
 rw[Xk]at h
 simp only[jl]at h
 simp[E0,h]
theorem qC{a b:Fact}(ha:Ca a=true)(hb:Ca b=true)(h:(!((⟨(Cm a).toArray⟩:ByteArray).toList==(⟨(Cm b).toArray⟩:ByteArray).toList))=false)(hv:(!decide (a.Version=b.Version))=true):decide (b.Version<a.Version)=E0 a b:=by
 rw[Xk]at h
 simp only[Bool.not_eq_false']at h
 have hv:a.Version≠b.Version:=by simpa using hv
 simp[E0,ha,hb,h,hv]
theorem qD{a b:Fact}(ha:Ca a=true)(hb:Ca b=true)(h:(!((⟨(Cm a).toArray⟩:ByteArray).toList==(⟨(Cm b).toArray⟩:ByteArray).toList))=false)(hv:(!decide (a.Version=b.Version))=false):decide (0<Go.Lib.compareBytes (S4 a) (S4 b))=E0 a b:=by
 rw[Xk]at h
 simp only[Bool.not_eq_false']at h
 have hv:a.Version=b.Version:=by simpa using hv
 simp only[E0,ha,hb,h,hv,S4,if_true,Bool.true_and,decide_true,Bool.and_true,Int.lt_irrefl,decide_false,g7]
section
variable {α:Type}
def swp(xs:List α)(i j:Nat):List α:=match xs[i]?,xs[j]? with
 |some x,some y=>(xs.set i y).set j x
 |_,_=>xs
theorem N1(xs:List α)(i j:Nat):(swp xs i j).length=xs.length:=by
 unfold swp
 split<;>simp
theorem Xl{xs:List α}{i j:Nat}{x y:α}(hi:xs[i]?=some x)(hj:xs[j]?=some y):swp xs i j=(xs.set i y).set j x:=by
 unfold swp;rw[hi,hj]
theorem swp_get{xs:List α}{i j:Nat}(hi:i<xs.length)(hj:j<xs.length)(q:Nat):(swp xs i j)[q]?=if q=j then xs[i]? else if q=i then xs[j]? else xs[q]?:=by
 rw[Xl (cx hi) (cx hj),gm]
 by_cases h1:j=q
 · subst h1
   rw[bh rfl,bh (by simpa using hj),bh rfl,cx hi]
 rw[aq h1,aq (Ne.symm h1),gm]
 by_cases h2:i=q
 · subst h2
   rw[bh rfl,bh hi,bh rfl,cx hj]
 rw[aq h2,aq (Ne.symm h2)]
def Uj(xs:List α)(a b:Nat):Nat→List α
 |0=>xs
 |n+1=>swp (Uj xs a b n) (a+n) (b+n)
theorem Gm(xs:List α)(a b:Nat):∀n,(Uj xs a b n).length=xs.length
 |0=>rfl
 |n+1=>by rw[Uj,N1,Gm xs a b n]
theorem M0{xs:List α}{a b:Nat}:∀{n:Nat},a+n≤b→b+n≤xs.length→∀q,(Uj xs a b n)[q]?=if a≤q∧q<a+n then xs[q-a+b]? else if b≤q∧q<b+n then xs[q-b+a]? else xs[q]?
 |0,_,_,q=>by rw[Uj,aq oQ,aq (by omega)]
 |n+1,h1,h2,q=>by
   rw[Uj,swp_get (by rw[Gm];omega) (by rw[Gm];omega)]
   rw[M0 (n:=n) oQ oQ (a+n),M0 (n:=n) oQ oQ (b+n),M0 (n:=n) oQ oQ q]
   by_cases c1:q=b+n
   · rw[bh c1,aq oQ,aq oQ,aq oQ,bh (by omega)]
     congr 1;omega
   rw[aq c1]
   by_cases c2:q=a+n
   · rw[bh c2,aq oQ,aq oQ,bh (by omega)]
     congr 1;omega
   rw[aq c2]
   by_cases c3:a≤q∧q<a+n
   · rw[bh c3,bh (by omega)]
   have e1:¬(a≤q∧q<a+(n+1)):=by omega
   rw[aq c3,aq e1]
   by_cases c4:b≤q∧q<b+n
   · rw[bh c4,bh (by omega)]
   have e2:¬(b≤q∧q<b+(n+1)):=by omega
   rw[aq c4,aq e2]
def Kc(xs:List α)(a m b:Nat):List α:=Fl xs a b (C7 xs m b++C7 xs a m)
theorem Xm{xs:List α}{a m b:Nat}(h1:a≤m)(h2:m≤b)(hb:b≤xs.length):(C7 xs m b++C7 xs a m).length=b-a:=by
 rw[ak,Cn hb,Cn (by omega)];omega
theorem F6{xs:List α}{a m b:Nat}(h1:a≤m)(h2:m≤b)(hb:b≤xs.length):(Kc xs a m b).length=xs.length:=D4 oQ hb (Xm h1 h2 hb)
theorem J0{xs:List α}{a m b:Nat}(h1:a≤m)(h2:m≤b)(hb:b≤xs.length)(q:Nat):(Kc xs a m b)[q]?=if q<a then xs[q]? else if q<a+(b-m)then xs[q-a+m]? else if q<b then xs[q-(b-m)]? else xs[q]?:=by
 unfold Kc
 rw[F4 oQ hb (Xm h1 h2 hb)]
 by_cases c1:q<a
 · rw[bh c1,bh c1]
 rw[aq c1,aq c1]
 by_cases c2:q<a+(b-m)
 · rw[bh oQ,bh c2,c7 (by rw[Cn hb];omega),G3 (by omega)]
   congr 1;omega
 rw[aq c2]
 by_cases c3:q<b
 · rw[bh c3,bh c3,db (by rw[Cn hb];omega),Cn hb,G3 (by omega)]
   congr 1;omega
 rw[aq c3,aq c3]
theorem uX{xs:List α}{m i j:Nat}(hi:i≤m)(hij:j<i)(hj:0<j)(hb:m+j≤xs.length):Kc (Uj xs (m-i) m j) (m-(i-j)) m (m+j)=Kc xs (m-i) m (m+j):=by
 apply cr
 intro q
 have hl:=Gm xs (m-i) m j
 rw[J0 oQ oQ (by rw[hl];exact hb),J0 oQ oQ hb]
 have g:∀q,(Uj xs (m-i) m j)[q]?=_:=fun q=>M0 oQ hb q
 rw[g,g,g]
 by_cases c1:q<m-i
 · rw[bh oQ,aq oQ,aq oQ,bh c1]
 by_cases c2:q<m-i+j
 · rw[bh oQ,bh oQ,aq c1,bh (by omega)]
 by_cases c3:q<m-(i-j)+j
 · rw[aq oQ,bh oQ,aq oQ,bh oQ,aq c1,aq oQ,bh (by omega)]
   congr 1;omega
 by_cases c4:q<m+j
 · rw[aq oQ,aq oQ,bh c4,aq oQ,aq oQ,aq c1,aq oQ,bh c4]
 rw[aq oQ,aq oQ,aq c4,aq oQ,aq oQ,aq c1,aq oQ,aq c4]
theorem lI{xs:List α}{m i j:Nat}(hi:i≤m)(hij:i<j)(h0:0<i)(hb:m+j≤xs.length):Kc (Uj xs (m-i) (m+j-i) i) (m-i) m (m+(j-i))=Kc xs (m-i) m (m+j):=by
 apply cr
 intro q
 have hl:=Gm xs (m-i) (m+j-i) i
 rw[J0 oQ oQ (by rw[hl];omega),J0 oQ oQ hb]
 have g:∀q,(Uj xs (m-i) (m+j-i) i)[q]?=_:=fun q=>M0 oQ oQ q
 rw[g,g,g]
 by_cases c1:q<m-i
 · rw[bh c1,aq oQ,aq oQ,bh c1]
 by_cases c2:q<m-i+(j-i)
 · rw[aq c1,bh oQ,aq oQ,aq oQ,aq c1,bh (by omega)]
 by_cases c3:q<m+(j-i)
 · rw[aq c1,aq oQ,bh c3,bh oQ,aq c1,bh (by omega)]
   congr 1;omega
 by_cases c4:q<m+j
 · rw[aq c1,aq oQ,aq c3,aq oQ,bh oQ,aq c1,aq oQ,bh c4]
   congr 1;omega
 rw[aq c1,aq oQ,aq c3,aq oQ,aq oQ,aq c1,aq oQ,aq c4]
theorem qE{xs:List α}{m i:Nat}(hi:i≤m)(hb:m+i≤xs.length):Uj xs (m-i) m i=Kc xs (m-i) m (m+i):=by
 apply cr
 intro q
 rw[J0 oQ oQ hb,M0 oQ hb]
 by_cases c1:q<m-i
 · rw[aq oQ,aq oQ,bh c1]
 by_cases c2:q<m
 · rw[bh oQ,aq c1,bh (by omega)]
 by_cases c3:q<m+i
 · rw[aq oQ,bh oQ,aq c1,aq oQ,bh c3]
   congr 1;omega
 rw[aq oQ,aq oQ,aq c1,aq oQ,aq c3]
theorem qF{xs:List α}{m b:Nat}(h:m≤b)(hb:b≤xs.length):Kc xs m m b=xs:=by
 rw[Kc,Gr (a:=m) (b:=m) (bl _),dk,Hi h hb]
theorem lJ{xs:List α}{a m:Nat}(h:a≤m)(hb:m≤xs.length):Kc xs a m m=xs:=by
 rw[Kc,Gr (a:=m) (b:=m) (bl _),du,Hi h hb]
def C2(A:List α)(x:α)(p:Nat):List α:=A.take p++x::A.drop p
theorem Ej(A:List α)(x:α)(p:Nat):(C2 A x p).length=A.length+1:=by simp[C2];omega
theorem N2{A:List α}{x:α}{p:Nat}(h:p≤A.length):(C2 A x p)[p]?=some x:=by
 rw[C2,db (by simp;omega)]
 have:p-(A.take p).length=0:=by simp;omega
 rw[this];rfl
theorem Iv{A:List α}{x:α}{p q:Nat}(h:p≤A.length)(hq:q<p):(C2 A x p)[q]?=A[q]?:=by
 rw[C2,c7 (by simp;omega),fp,bh hq]
theorem Iw{A:List α}{x:α}{p q:Nat}(h:p≤A.length)(hq:p<q):(C2 A x p)[q]?=A[q-1]?:=by
 rw[C2,db (by simp;omega)]
 have e:q-(A.take p).length=(q-p-1)+1:=by simp;omega
 rw[e,fh,ge]
 congr 1;omega
theorem S5{A:List α}{x:α}{p:Nat}(h:p<A.length):swp (C2 A x p) p (p+1)=C2 A x (p+1):=by
 have hl:=Ej A x p
 apply cr
 intro q
 rw[swp_get oQ (by omega)]
 by_cases c1:q=p+1
 · rw[bh c1,c1,N2 oQ,N2 (by omega)]
 rw[aq c1]
 by_cases c2:q=p
 · rw[bh c2,c2,Iw oQ oQ,Iv oQ (by omega)];simp
 rw[aq c2]
 by_cases c3:q<p
 · rw[Iv oQ c3,Iv oQ (by omega)]
 rw[Iw oQ oQ,Iw oQ (by omega)]
theorem qG{xs:List α}{i j:Nat}(hi:i<xs.length)(hj:j<xs.length)(hne:i≠j):swp xs i j=swp xs j i:=by
 apply cr
 intro q
 rw[swp_get hi hj,swp_get hj hi]
 by_cases c1:q=j
 · rw[bh c1,aq oQ,bh c1]
 rw[aq c1]
 by_cases c2:q=i
 · rw[bh c2,bh c2]
 rw[aq c2,aq c2,aq c1]
theorem iP{xs ys:List α}{a b i j:Nat}(h1:a≤b)(hb:b≤xs.length)(hy:ys.length=b-a)(hi:i<ys.length)(hj:j<ys.length):swp (Fl xs a b ys) (a+i) (a+j)=Fl xs a b (swp ys i j):=by
 have hl:=D4 h1 hb hy
 have hi':a+i<(Fl xs a b ys).length:=by omega
 have hj':a+j<(Fl xs a b ys).length:=by omega
 have e1:(Fl xs a b ys)[a+i]?=ys[i]?:=by rw[F4 h1 hb hy,aq oQ,bh (by omega)];congr 1;omega
 have e2:(Fl xs a b ys)[a+j]?=ys[j]?:=by rw[F4 h1 hb hy,aq oQ,bh (by omega)];congr 1;omega
 apply cr
 intro q
 rw[swp_get hi' hj' q,e1,e2,F4 h1 hb hy q,F4 h1 hb (by rw[N1];exact hy) q,swp_get hi hj]
 by_cases c0:q<a
 · rw[aq oQ,aq oQ,bh c0,bh c0]
 rw[aq c0,aq c0]
 by_cases c1:q=a+j
 · have d1:q-a=j:=by omega
   rw[bh c1,bh (show q<b by omega),bh d1]
 have d1:¬q-a=j:=by omega
 rw[aq c1,aq d1]
 by_cases c2:q=a+i
 · have d2:q-a=i:=by omega
   rw[bh c2,bh (show q<b by omega),bh d2]
 have d2:¬q-a=i:=by omega
 rw[aq c2,aq d2]
theorem V1(A:List α)(x:α):C2 A x A.length=A++[x]:=by simp[C2]
theorem Zr(A:List α)(x:α):C2 A x 0=x::A:=by simp[C2]
theorem uY{xs:List α}{i j:Nat}(hi:i<xs.length)(hj:j<xs.length):swp (swp xs i j) i j=xs:=by
 have hl:=N1 xs i j
 apply cr
 intro q
 rw[swp_get (xs:=swp xs i j) oQ oQ q,swp_get hi hj i,swp_get hi hj j,swp_get hi hj q]
 by_cases c1:q=j
 · rw[bh c1,c1]
   by_cases c2:i=j
   · rw[bh c2,c2]
   rw[aq c2,bh rfl]
 rw[aq c1,aq c1]
 by_cases c2:q=i
 · rw[bh c2,bh rfl,c2]
 rw[aq c2,aq c2]
end
theorem Zt{α:Type}{xs zs:List α}{a i:Nat}{x:α}(h1:a≤i)(hx:xs[i]?=some x)(hz:zs.length=i-a):Fl xs a (i+1) (zs++[x])=Fl xs a i zs:=by
 obtain⟨hi,e⟩:=am.1 hx
 have hl:=D4 (ys:=zs) h1 (by omega:i≤xs.length) hz
 rw[←gZ (m:=i) h1 oQ oQ hz (by simp)]
 have e2:[x]=C7 (Fl xs a i zs) i (i+1):=by
   rw[Fh h1 oQ hz (.inr (bl _))]
   apply cr
   intro q
   by_cases h:i+q<i+1
   · have:q=0:=by omega
     subst this
     rw[G3 h,fo,hx];rfl
   rw[cy (by simp;omega),cy (by rw[Cn (by omega)];omega)]
 rw[e2,Hi oQ (by omega)]
theorem Mb{α:Type}{xs:List α}{a i:Nat}{x:α}(h1:a≤i)(hx:xs[i]?=some x):C7 xs a (i+1)=C7 xs a i++[x]:=by
 obtain⟨hi,e⟩:=am.1 hx
 rw[Gq h1 oQ (by omega)]
 congr 1
 apply cr
 intro q
 by_cases h:i+q<i+1
 · have:q=0:=by omega
   subst this
   rw[G3 h,fo,hx];rfl
 rw[cy (by rw[Cn (by omega)];omega),cy (by simp;omega)]
theorem Zu{α:Type}{xs zs:List α}{a b p:Nat}{x:α}(h1:a≤b)(hb:b≤xs.length)(hz:zs.length+1=b-a)(hp:p≤zs.length):(Fl xs a b (C2 zs x p))[a+p]?=some x:=by
 rw[F4 h1 hb (by rw[Ej];exact hz),aq oQ,bh (by omega)]
 have:a+p-a=p:=by omega
 rw[this,N2 hp]
theorem N3{α:Type}{xs zs:List α}{a b p q:Nat}{x:α}(h1:a≤b)(hb:b≤xs.length)(hz:zs.length+1=b-a)(hp:p≤zs.length)(hq:q<p):(Fl xs a b (C2 zs x p))[a+q]?=zs[q]?:=by
 rw[F4 h1 hb (by rw[Ej];exact hz),aq oQ,bh (by omega)]
 have:a+q-a=q:=by omega
 rw[this,Iv hp hq]
theorem S6{α:Type}{xs zs:List α}{a b p q:Nat}{x:α}(h1:a≤b)(hb:b≤xs.length)(hz:zs.length+1=b-a)(hq:p<q)(hqz:q≤zs.length):(Fl xs a b (C2 zs x p))[a+q]?=zs[q-1]?:=by
 rw[F4 h1 hb (by rw[Ej];exact hz),aq oQ,bh (by omega)]
 have:a+q-a=q:=by omega
 rw[this,Iw oQ hq]
theorem Zv{α:Type}{xs zs:List α}{a b p:Nat}{x y:α}(h1:a≤b)(hb:b≤xs.length)(hz:zs.length+1=b-a)(hp:p<zs.length)(hy:zs[p]?=some y):((Fl xs a b (C2 zs x (p+1))).set (a+(p+1)) y).set (a+p) x=Fl xs a b (C2 zs x p):=by
 have hl:=Ej zs x (p+1)
 rw[←Xl (Zu (p:=p+1) h1 hb hz oQ) ((N3 (p:=p+1) h1 hb hz oQ (show p<p+1 by omega)).trans hy),iP h1 hb (by rw[hl];exact hz) oQ oQ,qG oQ oQ oQ,←S5 hp,uY (by rw[Ej];omega) (by rw[Ej];omega)]
theorem AI{α:Type}{xs zs:List α}{a b p:Nat}{x y:α}(h1:a≤b)(hb:b≤xs.length)(hz:zs.length+1=b-a)(hp:p<zs.length)(hy:zs[p]?=some y):((Fl xs a b (C2 zs x p)).set (a+p) y).set (a+(p+1)) x=Fl xs a b (C2 zs x (p+1)):=by
 have hl:=Ej zs x p
 rw[←Xl (Zu h1 hb hz oQ) ((S6 (q:=p+1) h1 hb hz (show p<p+1 by omega) oQ).trans hy),iP h1 hb (by rw[hl];exact hz) oQ oQ,S5 hp]
theorem StS.snoc{α:Type}{key:α→K2}{L zs:List α}{x:α}{p:Nat}(h:StS key L zs)(hp:p≤zs.length)(hgt:∀y∈zs.drop p,H4 (key x) (key y)=true)(hle:p=0∨∃y,zs[p-1]?=some y∧H4 (key x) (key y)=false):StS key (L++[x]) (C2 zs x p):=by
 have h1:StS key (zs++[x]) (C2 zs x p):=StS.put h.ord hgt (fun y hy=>by
   rcases hle with rfl|⟨z,hz,hzl⟩
   · simp at hy
   obtain⟨q,hq,rfl⟩:=fb.1 hy
   rw[List.getElem_take]
   have hq':q<p:=by simp at hq;omega
   obtain⟨hz1,rfl⟩:=am.1 hz
   rcases fg q (p-1)with h3|h3
   · exact Kg (dw.1 h.ord q (p-1) oQ hz1 h3) hzl
   have:q=p-1:=by omega
   subst this
   exact hzl)
 exact⟨h1.ord,(h.same.kO (sameF.refl [x])).trans h1.same⟩
theorem uZ{α:Type}{key:α→K2}{l:List α}(h:l.length≤1):Jr key l:=by
 match l,h with
 |[],_=>exact List.Pairwise.nil
 |[x],_=>exact f9 _ _
 |_::_::_,h=>simp at h
theorem lK{α:Type}{zs:List α}{p:Nat}{y:α}{P:α→Prop}(hp:1≤p)(hy:zs[p-1]?=some y)(h:∀z∈zs.drop p,P z)(hP:P y):∀z∈zs.drop (p-1),P z:=by
 obtain⟨h1,rfl⟩:=am.1 hy
 rw[fj h1,show p-1+1=p by omega]
 intro z hz
 rcases bp.1 hz with rfl|hz
 · exact hP
 exact h z hz
section
variable {α:Type}{key:α→K2}
theorem J1{xs:List α}{a b c d:Nat}(h:Jr key (C7 xs a b))(h1:a≤c)(h2:d≤b):Jr key (C7 xs c d):=by
 have e:(xs.take d).drop c=((xs.take d).drop a).drop (c-a):=by rw[k8];congr 1;omega
 have p:xs.take d=(xs.take b).take d:=by rw[gu,dq h2]
 have q:((xs.take d).drop a).Sublist ((xs.take b).drop a):=by
   rw[p,List.drop_take]
   exact List.take_sublist _ _
 have r:(C7 xs c d).Sublist (C7 xs a b):=by
   unfold C7
   rw[e]
   exact(kh _ _).trans q
 exact List.Pairwise.sublist r h
theorem J2{xs:List α}{a b p q:Nat}{u v:α}(h:Jr key (C7 xs a b))(h1:a≤p)(h2:p≤q)(h3:q<b)(hu:xs[p]?=some u)(hv:xs[q]?=some v):H4 (key v) (key u)=false:=by
 rcases fg p q with hl|hl
 · have e1:(C7 xs a b)[p-a]?=some u:=by rw[G3 (by omega)];rw[show a+(p-a)=p by omega];exact hu
   have e2:(C7 xs a b)[q-a]?=some v:=by rw[G3 (by omega)];rw[show a+(q-a)=q by omega];exact hv
   obtain⟨i1,rfl⟩:=am.1 e1
   obtain⟨i2,rfl⟩:=am.1 e2
   exact dw.1 h _ _ i1 i2 oQ
 have:p=q:=by omega
 subst this
 rw[hu]at hv;cases hv
 exact La _
theorem J3{xs:List α}{a b:Nat}{x:α}(hb:b≤xs.length)(h:x∈C7 xs a b):∃q,a≤q∧q<b∧xs[q]?=some x:=by
 obtain⟨i,e⟩:=et.1 h
 have hi:=(am.1 e).1
 rw[Cn hb]at hi
 rw[G3 (by omega)]at e
 exact⟨a+i,by omega,by omega,e⟩
theorem qH{xs:List α}{a mm b s e:Nat}(hA:Jr key (C7 xs a mm))(hB:Jr key (C7 xs mm b))(h2:s≤mm)(h3:mm≤e)(hb:b≤xs.length)
   (h:s≤a∨b≤e∨∃u v,xs[e]?=some u∧xs[s-1]?=some v∧H4 (key u) (key v)=false):∀x∈C7 xs a s,∀y∈C7 xs e b,H4 (key y) (key x)=false:=by
 intro x hx y hy
 rcases h with h|h|⟨u,v,hu,hv,hl⟩
 · rw[Gr h]at hx;simp at hx
 · rw[Gr h]at hy;simp at hy
 obtain⟨p,p1,p2,hp⟩:=J3 (by have:=(am.1 hv).1;omega) hx
 obtain⟨q,q1,q2,hq⟩:=J3 hb hy
 have a1:=J2 hA p1 (show p≤s-1 by omega) oQ hp hv
 have a2:=J2 hB (show mm≤e by omega) q1 q2 hu hq
 exact Kg (Kg a1 hl) a2
theorem qI{xs:List α}{a mm b s e:Nat}(hA:Jr key (C7 xs a mm))(hB:Jr key (C7 xs mm b))(h1:a≤s)(h4:e≤b)(hb:b≤xs.length)(hmb:mm≤b)
   (h:mm≤s∨e≤mm∨∃u v,xs[e-1]?=some u∧xs[s]?=some v∧H4 (key u) (key v)=true):∀v∈C7 xs mm e,∀u∈C7 xs s mm,H4 (key v) (key u)=true:=by
 intro x hx y hy
 rcases h with h|h|⟨u,v,hu,hv,hl⟩
 · rw[Gr h]at hy;simp at hy
 · rw[Gr h]at hx;simp at hx
 obtain⟨p,p1,p2,hp⟩:=J3 oQ hx
 obtain⟨q,q1,q2,hq⟩:=J3 oQ hy
 have a1:=J2 hB p1 (show p≤e-1 by omega) oQ hp hu
 have a2:=J2 hA h1 q1 q2 hv hq
 exact Xb (gW a1 hl) a2
theorem Zw{xs:List α}{s mm e:Nat}(h1:s≤mm)(h2:mm≤e)(hb:e≤xs.length):C7 (Kc xs s mm e) s (s+(e-mm))=C7 xs mm e:=by
 have hl:=F6 h1 h2 hb
 apply cr
 intro i
 by_cases h:i<e-mm
 · rw[G3 oQ,G3 oQ,J0 h1 h2 hb,aq oQ,bh (by omega)]
   congr 1;omega
 rw[cy (by rw[Cn (by omega)];omega),cy (by rw[Cn hb];omega)]
theorem Zx{xs:List α}{s mm e:Nat}(h1:s≤mm)(h2:mm≤e)(hb:e≤xs.length):C7 (Kc xs s mm e) (s+(e-mm)) e=C7 xs s mm:=by
 have hl:=F6 h1 h2 hb
 apply cr
 intro i
 by_cases h:i<mm-s
 · rw[G3 oQ,G3 oQ,J0 h1 h2 hb,aq oQ,aq oQ,bh (by omega)]
   congr 1;omega
 rw[cy (by rw[Cn (by omega)];omega),cy (by rw[Cn (by omega)];omega)]
theorem Rv{xs:List α}{s mm e c d:Nat}(h1:s≤mm)(h2:mm≤e)(hb:e≤xs.length)(h:d≤s∨e≤c):C7 (Kc xs s mm e) c d=C7 xs c d:=Fh oQ hb (Xm h1 h2 hb) h
theorem vA{xs zs:List α}{a b s mm e:Nat}(h0:a≤s)(h1:s≤mm)(h2:mm≤e)(h3:e≤b)(hb:b≤xs.length)(hz:zs.length=b-a):Fl (Kc xs s mm e) a b zs=Fl xs a b zs:=by
 have hl:=F6 h1 h2 (by omega:e≤xs.length)
 apply cr
 intro q
 rw[F4 oQ oQ hz,F4 oQ hb hz,J0 h1 h2 (by omega)]
 by_cases c1:q<a
 · rw[bh c1,bh c1,bh (by omega)]
 rw[aq c1,aq c1]
 by_cases c2:q<b
 · rw[bh c2,bh c2]
 rw[aq c2,aq c2,aq oQ,aq oQ,aq (by omega)]
theorem Zy{xs:List α}{a s mm e mid:Nat}(h0:a≤s)(h1:s≤mm)(h2:mm≤e)(hb:e≤xs.length)(hm:mid=s+(e-mm)):C7 (Kc xs s mm e) a mid=C7 xs a s++C7 xs mm e:=by
 subst hm
 rw[Gq (m:=s) h0 oQ (by rw[F6 h1 h2 hb];omega),Rv h1 h2 hb (.inl (bl _)),Zw h1 h2 hb]
theorem V2{xs:List α}{s mm e b mid:Nat}(h1:s≤mm)(h2:mm≤e)(h3:e≤b)(hb:b≤xs.length)(hm:mid=s+(e-mm)):C7 (Kc xs s mm e) mid b=C7 xs s mm++C7 xs e b:=by
 subst hm
 rw[Gq (m:=e) oQ h3 (by rw[F6 h1 h2 (by omega)];omega),Rv h1 h2 oQ (.inr (bl _)),Zx h1 h2 (by omega)]
theorem Zz{xs X Y:List α}{a mm b s e mid:Nat}(h0:a≤s)(h1:s≤mm)(h2:mm≤e)(h3:e≤b)(hb:b≤xs.length)(hm:mid=s+(e-mm))(hA:Jr key (C7 xs a mm))(hB:Jr key (C7 xs mm b))
   (k1:∀x∈C7 xs a s,∀y∈C7 xs e b,H4 (key y) (key x)=false)(k2:∀v∈C7 xs mm e,∀u∈C7 xs s mm,H4 (key v) (key u)=true)
   (hX:StS key (C7 (Kc xs s mm e) a mid) X)(hY:StS key (C7 (Fl (Kc xs s mm e) a mid X) mid b) Y):StS key (C7 xs a b) (X++Y)∧Fl (Fl (Kc xs s mm e) a mid X) mid b Y=Fl xs a b (X++Y):=by
 have hl:=F6 h1 h2 (by omega:e≤xs.length)
 have hXl:X.length=mid-a:=by rw[hX.same.length,Cn (by omega)]
 rw[Fh oQ oQ hXl (.inr (bl _))]at hY
 have hYl:Y.length=b-mid:=by rw[hY.same.length,Cn (by omega)]
 rw[Zy h0 h1 h2 oQ hm]at hX
 rw[V2 h1 h2 h3 hb hm]at hY
 have eA:C7 xs a s++C7 xs s mm=C7 xs a mm:=(Gq h0 h1 oQ).symm
 have eB:C7 xs mm e++C7 xs e b=C7 xs mm b:=(Gq h2 h3 hb).symm
 refine⟨?_,?_⟩
 · have:=dI (by rw[eA];exact hA) (by rw[eB];exact hB) k1 k2 hX hY
   rw[eA,eB,←Gq oQ oQ hb]at this
   exact this
 rw[gZ oQ oQ oQ hXl hYl,vA h0 h1 h2 h3 hb (by rw[ak];omega)]
theorem vB{xs:List α}{a b i:Nat}{x:α}(hb:b≤xs.length)(hx:xs[a]?=some x)(hab:a+1≤i)(hib:i≤b)(hB:Jr key (C7 xs (a+1) b))(hL:∀q y,a+1≤q→q<i→xs[q]?=some y→H4 (key y) (key x)=true)(hR:∀q y,i≤q→q<b→xs[q]?=some y→H4 (key y) (key x)=false):
   StS key (C7 xs a b) (C2 (C7 xs (a+1) b) x (i-(a+1))):=by
 have e:C7 xs a b=x::C7 xs (a+1) b:=by
   rw[Gq (m:=a+1) oQ oQ hb,Mb (bl a) hx,Gr (bl a)];rfl
 have t:(C7 xs (a+1) b).take (i-(a+1))=C7 xs (a+1) i:=by
   unfold C7
   rw[List.take_drop,gu,show a+1+(i-(a+1))=i by omega,dq hib]
 have d:(C7 xs (a+1) b).drop (i-(a+1))=C7 xs i b:=by
   unfold C7
   rw[k8,show a+1+(i-(a+1))=i by omega]
 rw[e]
 refine pB hB (fun y hy=>?_) (fun y hy=>?_)
 · rw[t]at hy
   obtain⟨q,q1,q2,hq⟩:=J3 oQ hy
   exact hL q y q1 q2 hq
 rw[d]at hy
 obtain⟨q,q1,q2,hq⟩:=J3 hb hy
 exact hR q y q1 q2 hq
theorem qJ{xs:List α}{a m i:Nat}{x:α}(hx:xs[m]?=some x)(h1:a≤i)(h2:i≤m)(hA:Jr key (C7 xs a m))(hL:∀q y,a≤q→q<i→xs[q]?=some y→H4 (key x) (key y)=false)(hR:∀q y,i≤q→q<m→xs[q]?=some y→H4 (key x) (key y)=true):
   StS key (C7 xs a (m+1)) (C2 (C7 xs a m) x (i-a)):=by
 have hm:=(am.1 hx).1
 have t:(C7 xs a m).take (i-a)=C7 xs a i:=by
   unfold C7
   rw[List.take_drop,gu,show a+(i-a)=i by omega,dq h2]
 have d:(C7 xs a m).drop (i-a)=C7 xs i m:=by
   unfold C7
   rw[k8,show a+(i-a)=i by omega]
 rw[Mb oQ hx]
 refine StS.put hA (fun y hy=>?_) (fun y hy=>?_)
 · rw[d]at hy
   obtain⟨q,q1,q2,hq⟩:=J3 oQ hy
   exact hR q y q1 q2 hq
 rw[t]at hy
 obtain⟨q,q1,q2,hq⟩:=J3 oQ hy
 exact hL q y q1 q2 hq
theorem qK{xs:List α}{s mm e:Nat}(h:¬(s<mm∧mm<e))(h1:s≤mm)(h2:mm≤e)(hb:e≤xs.length):Kc xs s mm e=xs:=by
 rcases fg s mm with h3|h3
 · have:e=mm:=by omega
   subst this
   exact lJ h1 hb
 have:s=mm:=by omega
 subst this
 exact qF h2 hb
theorem lL{xs:List α}{a mm b s e mid:Nat}(hA:Jr key (C7 xs a mm))(hB:Jr key (C7 xs mm b))(h0:a≤s)(h1:s≤mm)(h2:mm≤e)(h3:e≤b)(hb:b≤xs.length)(hm:mid=s+(e-mm))(h:¬(a<s∧s<mid)):Jr key (C7 (Kc xs s mm e) a mid):=by
 rw[Zy h0 h1 h2 oQ hm]
 rcases fg a s with h4|h4
 · rw[Gr (show e≤mm by omega),dk]
   exact J1 hA (bl _) h1
 rw[Gr h4,du]
 exact J1 hB (bl _) h3
theorem lM{xs X:List α}{a mm b s e mid:Nat}(hA:Jr key (C7 xs a mm))(hB:Jr key (C7 xs mm b))(h0:a≤s)(h1:s≤mm)(h2:mm≤e)(h3:e≤b)(hb:b≤xs.length)(hm:mid=s+(e-mm))(hX:X.length=mid-a)(h:¬(mid<e∧e<b)):Jr key (C7 (Fl (Kc xs s mm e) a mid X) mid b):=by
 have hl:=F6 h1 h2 (by omega:e≤xs.length)
 rw[Fh oQ oQ hX (.inr (bl _)),V2 h1 h2 h3 hb hm]
 rcases fg mid e with h4|h4
 · rw[Gr (show b≤e by omega),dk]
   exact J1 hA h0 (bl _)
 rw[Gr (show mm≤s by omega),du]
 exact J1 hB h2 (bl _)
theorem iQ{xs:List α}{a mm b s e mid:Nat}(hA:Jr key (C7 xs a mm))(hB:Jr key (C7 xs mm b))(h1:s≤mm)(h2:mm≤e)(h3:e≤b)(hb:b≤xs.length)(hm:mid=s+(e-mm)):Jr key (C7 (Kc xs s mm e) a s)∧Jr key (C7 (Kc xs s mm e) s mid):=by
 subst hm
 rw[Rv h1 h2 oQ (.inl (bl _)),Zw h1 h2 (by omega)]
 exact⟨J1 hA (bl _) h1,J1 hB (bl _) h3⟩
theorem iR{xs X:List α}{a mm b s e mid:Nat}(hA:Jr key (C7 xs a mm))(hB:Jr key (C7 xs mm b))(h0:a≤s)(h1:s≤mm)(h2:mm≤e)(h3:e≤b)(hb:b≤xs.length)(hm:mid=s+(e-mm))(hX:X.length=mid-a):Jr key (C7 (Fl (Kc xs s mm e) a mid X) mid e)∧Jr key (C7 (Fl (Kc xs s mm e) a mid X) e b):=by
 have hl:=F6 h1 h2 (by omega:e≤xs.length)
 rw[Fh oQ oQ hX (.inr (bl _)),Fh oQ oQ hX (.inr oQ),Rv h1 h2 oQ (.inr (bl _))]
 subst hm
 rw[Zx h1 h2 (by omega)]
 exact⟨J1 hA h0 (bl _),J1 hB h2 (bl _)⟩
def Bks(key:α→K2)(ys:List α)(B:Nat):Prop:=∀i,Jr key (C7 ys (B*i) (min (B*i+B) ys.length))
def Ins(key:α→K2)(ys:List α)(B a:Nat):Prop:=(∃q,a=B*q)∧∀i,B*(i+1)≤a→Jr key (C7 ys (B*i) (B*i+B))
def Mrg(key:α→K2)(ys:List α)(B a:Nat):Prop:=Ins key ys (2*B) a∧∀i,a≤B*i→Jr key (C7 ys (B*i) (min (B*i+B) ys.length))
theorem Ins.zero(ys:List α)(B:Nat)(hB:0<B):Ins key ys B 0:=⟨⟨0,rfl⟩,fun i h=>by
 rw[g_,fz]at h
 omega⟩
theorem Ins.step{ys zs:List α}{B a:Nat}(hB:0<B)(h:Ins key ys B a)(hb:a+B≤ys.length)(hz:StS key (C7 ys a (a+B)) zs):Ins key (Fl ys a (a+B) zs) B (a+B):=by
 obtain⟨⟨q,rfl⟩,hs⟩:=h
 have hzl:zs.length=B*q+B-B*q:=by rw[hz.same.length,Cn hb]
 refine⟨⟨q+1,by rw[g_,fz]⟩,fun i hi=>?_⟩
 have hle:i≤q:=by
   have:B*(i+1)≤B*(q+1):=by rw[g_ B q 1,fz];exact hi
   have:=Nat.le_of_mul_le_mul_left this hB
   omega
 rcases fg i q with h|h
 · have h1:B*(i+1)≤B*q:=gn B h
   rw[Fh oQ hb hzl (.inl (by rw[g_,fz]at h1;exact h1))]
   exact hs i h1
 have:i=q:=by omega
 subst this
 rw[gY oQ hb hzl]
 exact hz.ord
theorem Ins.last{ys zs:List α}{B a:Nat}(h:Ins key ys B a)(ha:a≤ys.length)(hb:ys.length<a+B)(hz:StS key (C7 ys a ys.length) zs):Bks key (Fl ys a ys.length zs) B:=by
 obtain⟨⟨q,rfl⟩,hs⟩:=h
 have hzl:zs.length=ys.length-B*q:=by rw[hz.same.length,Cn (bl _)]
 have hl:=D4 ha (bl _) hzl
 intro i
 rw[hl]
 rcases i5 i q with h|h|h
 · have h1:B*(i+1)≤B*q:=gn B h
   have h2:B*i+B≤B*q:=by rw[g_,fz]at h1;exact h1
   rw[dq oQ,Fh ha (bl _) hzl (.inl h2)]
   exact hs i h1
 · subst h
   rw[i_ oQ,gY ha (bl _) hzl]
   exact hz.ord
 have h1:B*(q+1)≤B*i:=gn B h
 rw[g_,fz]at h1
 rw[Gr (by omega)]
 exact List.Pairwise.nil
theorem Mrg.start{ys:List α}{B:Nat}(hB:0<B)(h:Bks key ys B):Mrg key ys B 0:=⟨Ins.zero ys (2*B) oQ,fun i _=>h i⟩
theorem Mrg.pre{ys:List α}{B a:Nat}(h:Mrg key ys B a)(hb:2*B+a≤ys.length):Jr key (C7 ys a (a+B))∧Jr key (C7 ys (a+B) (2*B+a)):=by
 obtain⟨⟨⟨q,hq⟩,_⟩,hs⟩:=h
 have e1:a=B*(2*q):=by rw[hq,i4 2 B,Nat.mul_assoc]
 have e2:a+B=B*(2*q+1):=by rw[g_,fz,←e1]
 have h1:=hs (2*q) oQ
 have h2:=hs (2*q+1) oQ
 rw[←e1,dq (by omega)]at h1
 rw[←e2,dq oQ,show a+B+B=2*B+a by omega]at h2
 exact⟨h1,h2⟩
theorem Mrg.step{ys zs:List α}{B a:Nat}(hB:0<B)(h:Mrg key ys B a)(hb:2*B+a≤ys.length)(hz:StS key (C7 ys a (2*B+a)) zs):Mrg key (Fl ys a (2*B+a) zs) B (2*B+a):=by
 have e:2*B+a=a+2*B:=by omega
 rw[e]at hb hz⊢
 have hzl:zs.length=a+2*B-a:=by rw[hz.same.length,Cn hb]
 refine⟨h.1.step oQ hb hz,fun i hi=>?_⟩
 rw[D4 oQ hb hzl,Fh oQ hb hzl (.inr hi)]
 exact h.2 i oQ
theorem Mrg.HB{ys:List α}{B a:Nat}(h:Mrg key ys B a)(h1:a+B<ys.length)(hb:ys.length<2*B+a):Jr key (C7 ys a (a+B))∧Jr key (C7 ys (a+B) ys.length):=by
 obtain⟨⟨⟨q,hq⟩,_⟩,hs⟩:=h
 have e1:a=B*(2*q):=by rw[hq,i4 2 B,Nat.mul_assoc]
 have e2:a+B=B*(2*q+1):=by rw[g_,fz,←e1]
 have k1:=hs (2*q) oQ
 have k2:=hs (2*q+1) oQ
 rw[←e1,dq (by omega)]at k1
 rw[←e2,i_ (by omega)]at k2
 exact⟨k1,k2⟩
theorem Mrg.last{ys zs:List α}{B a:Nat}(h:Mrg key ys B a)(ha:a≤ys.length)(hb:ys.length<2*B+a)(hz:StS key (C7 ys a ys.length) zs):Bks key (Fl ys a ys.length zs) (2*B):=h.1.last ha oQ hz
theorem Mrg.done{ys:List α}{B a:Nat}(h:Mrg key ys B a)(ha:a≤ys.length)(hb:ys.length<2*B+a)(h1:¬a+B<ys.length):Bks key ys (2*B):=by
 have hs:Jr key (C7 ys a ys.length):=by
   obtain⟨⟨⟨q,hq⟩,_⟩,hs⟩:=h
   have e1:a=B*(2*q):=by rw[hq,i4 2 B,Nat.mul_assoc]
   have k1:=hs (2*q) oQ
   rw[←e1,i_ (by omega)]at k1
   exact k1
 have:=h.last ha hb (StS.refl hs)
 rwa [Hi ha (bl _)]at this
theorem Bks.all{xs ys:List α}{B:Nat}(h:Bks key ys B)(hB:ys.length≤B)(hs:sameF key xs ys):StS key xs ys:=by
 have:=h 0
 rw[Nat.mul_zero,dp,i_ hB,uC]at this
 exact⟨this,hs⟩
theorem sameF.step{xs ys zs:List α}{a b:Nat}(h:sameF key xs ys)(h1:a≤b)(hb:b≤ys.length)(hz:StS key (C7 ys a b) zs):sameF key xs (Wx.Fl ys a b zs):=h.trans (sameF.Fl h1 hb hz.same)
def lN(key:α→K2)(x:α):List α→List α
 |[]=>[x]
 |y::l=>if H4 (key x) (key y)=true then x::y::l else y::lN key x l
def H9(key:α→K2)(l:List α):List α:=l.foldl (fun acc x=>lN key x acc) []
theorem Z0(x:α):∀(l:List α),Jr key l→∃p,lN key x l=C2 l x p∧p≤l.length∧(∀y∈l.drop p,H4 (key x) (key y)=true)∧(p=0∨∃y,l[p-1]?=some y∧H4 (key x) (key y)=false)
 |[],_=>⟨0,rfl,bl _,by simp,.inl rfl⟩
 |y::l,h=>by
   unfold lN
   split
   · rename_i hlt
     refine⟨0,by simp[C2],a8 _,fun z hz=>?_,.inl rfl⟩
     rcases bp.1 (by simpa using hz:z∈y::l)with rfl|hz
     · exact hlt
     exact Xb hlt ((eg.1 h).1 z hz)
   rename_i hlt
   obtain⟨p,e,hp,h1,h2⟩:=Z0 x l (eg.1 h).2
   refine⟨p+1,by rw[e];rfl,by simpa using hp,by simpa using h1,.inr ?_⟩
   rcases h2 with rfl|⟨z,hz,hl⟩
   · exact⟨y,rfl,by simpa using hlt⟩
   refine⟨z,?_,hl⟩
   have:0<p:=by
     rcases Nat.eq_zero_or_pos p with rfl|h
     · rw[Nat.zero_sub]at hz
       cases l with
       |nil=>simp at hz
       |cons w l=>
         exfalso
         simp at hz;subst hz
         have:=h1 w (by simp)
         rw[hl]at this;cases this
     exact h
   rw[show p+1-1=(p-1)+1 by omega,fh]
   exact hz
theorem D8(l:List α):StS key l (H9 key l):=by
 suffices h:∀(r done acc:List α),StS key done acc→StS key (done++r) (r.foldl (fun acc x=>lN key x acc) acc)by
   have:=h l [] [] ⟨List.Pairwise.nil,fun _=>rfl⟩
   simpa[H9]using this
 intro r
 induction r with
 |nil=>intro done acc h;simpa using h
 |cons x r ih=>
   intro done acc h
   obtain⟨p,e,hp,h1,h2⟩:=Z0 (key:=key) x acc h.ord
   have:=ih (done++[x]) (lN key x acc) (by rw[e];exact h.snoc hp h1 h2)
   simpa using this
theorem StS.eq{l s:List α}(h:StS key l s):s=H9 key l:=h.unique (D8 l)
end
end Go.Wx
namespace Go.Proofs.YtnpgbbaniknpkaaGreatDoor
open Go.Proofs.Tryz
open Go.Wx Go.RowKit
theorem eM(z:Nat)(w:World):Ret prog 206 #[vu z] w fun r w'=>(∃B,r=.func (.func 243) #[] #[.pointer (some ⟨B,0,none⟩)]∧Blk w' B #[vu z] 243∧w.heap.size≤B)∧Up w w':=by
 have hW:=Up.refl w
 refine cT 4 func206 rfl (Af (Ap (.Pu (.t rfl) rfl) rfl ?_))
 rintro _ w1 ⟨B1,rfl,NB1⟩
 have eB1:=NB1.at_
 replace hW:=hW.up NB1.up
 have hB1:=NB1.blk
 refine Az (An (Aa (U (.makeFunc (.cu rfl)) (LW.A rfl (Ah (Am (KW.q ?_)))))))
 exact⟨⟨_,rfl,hB1,by omega⟩,hW⟩
theorem Z1(B1 z:Nat)(w:World)(hz:z<18446744073709551616)(hB:Blk w B1 #[vu z] 243):yG prog 243 #[.pointer (some ⟨B1,0,none⟩)] KI (fun b=>b=B1) (fun ys=>ys=Sr z) 10 w:=by
 intro lp J w0 hUw hJZ hY hJ
 have hB1:=hB.up hUw
 refine cT 18 func243 rfl (Ak (CW.loop (σ:=List (UInt8×Bool)×Nat) (fun s w=>Sr z=s.1++Sr s.2∧s.2<18446744073709551616∧J s.1 w∧Blk w B1 #[vu s.2] 243) (fun s=>[(0,.eq (.func (.yield lp) #[] #[])),(1,.eq (.pointer (some ⟨B1,0,none⟩)))]) (fun s=>s.2) ([],z) ?_ ?_ ?_))
 ·exact⟨rfl,hz,hJ,hB1⟩
 ·exact tQ
 rintro⟨pre,zz⟩ w1 ⟨hg,h64,hJ,hB1⟩
 obtain⟨lb,hlb⟩:∃b,b=decide ((zz:Int)<128):=⟨_,rfl⟩
 refine Ak (Af (U (.lb rfl ((hB1).Ad rfl)) (U (.val (v':=.bool lb) (PEv.lss (.t rfl) (.const _)) (bi Go.Value.bool hlb.symm)) (LW.A rfl (An (Af (I rfl (U (.lb rfl ((hB1).Ad rfl)) (U (.val (v':=vu (zz%128)) (kG (.t rfl) (.const _)) (bi (Go.Value.int .u64) (zI h64))) (U (.val (v':=bv (UInt8.ofNat (zz%128))) (PEv.conv (k':=.u8) (by rw[nk];rfl) mw (.t rfl)) (tX (z:=zz%128))) (I rfl ?_)))))))))))
 have hY2:=hY pre (UInt8.ofNat (zz%128),lb) _ hJ (pX hg)
 refine LW.y (vs:=[bv (UInt8.ofNat (zz%128)),.bool lb]) (.t rfl) (.ct rfl (.cu rfl)) rfl rfl hY2 ?_
 rintro _ w2 ⟨rfl,hJ2,hkp⟩
 replace hB1:Blk w2 B1 _ _:=(hkp B1 rfl).trans hB1
 refine U (.n1 rfl) (I rfl (Hc rfl rfl (U (.po rfl (fun hp=>(by exact .cond rfl (by simp_all)))) (Ah (CW.b rfl (fun h15=>?_) (fun h15=>?_))))))
 ·refine Am (Ar (A7 (Ar (A7 (Gi rfl ⟨_,rfl,?_⟩)))))
  exact⟨_,pU (pW hlb) hg (by simpa using h15),hJ2⟩
 refine Aj (Ac (Aa (U (.lb rfl ((hB1).Ad rfl)) (U (.val (v':=vu (zz/128)) (PEv.Vk (j:=7) (.t rfl) (.const _)) (bi (Go.Value.int .u64) (KG (z:=zz)))) (Cd (.store sizeOf243 (.t rfl) (.t rfl) rfl hB1 bQ) ?_)))))
 intro w3 Nw3
 replace hB1:=Nw3.blk
 replace hB1:Blk w3 B1 #[vu (zz/128)] _:=hB1
 refine LW.nil (Al (Av ?_))
 have hnx:=pV (pW hlb) hg (by simpa using h15) h64
 exact⟨(_,zz/128),⟨hnx.1,by dsimp only;omega,hJZ _ _ _ hJ2 Nw3.sto.fr,hB1⟩,tQ,hnx.2⟩
theorem S7(n:Int)(w:World):Ret prog 127 #[vi n] w fun r w'=>r=.tuple #[.string ⟨(encI n).toArray⟩,vi (AH n)]∧Up w w':=by
 have hW:=Up.refl w
 obtain⟨w0,rfl,_⟩:=W0 w
 refine Ff (n:=33) func127 rfl rfl rfl (Af (Az (Az (An (Ai ?_)))))
 cases hq1:decide (Ps n)with
 |true=>
  have hin:=b9 hq1
  obtain⟨hin1,hin2⟩:=hin
  have hin:Ps n:=⟨hin1,hin2⟩
  refine Aa (I rfl (U (.fa (PEv.lss (.t rfl) (.const _)) (br oQ)) (I rfl (Au (I rfl (Au (U (.fa (PEv.gtr (.t rfl) (.const _)) (br oQ)) (U (.po rfl (fun hp=>(by exact .tmp rfl))) (Ah (CW.f rfl (Aj (Ac (Af (Ap (.Gl zeroValue124 rfl) rfl ?_))))))))))))))
  rintro _ w1 ⟨B4,rfl,NB4⟩
  have eB4:=NB4.at_
  have zB4:=NB4.size
  replace hW:=hW.up NB4.up
  have hB4:=NB4.blk
  refine An (Af (I rfl (U (.conv (k':=.u64) (by rw[li];rfl) nk (.t rfl)) (U (.GU (j:=1) (.t rfl) (.const _)) (I rfl (U (.Vk (j:=63) (.t rfl) (.const _)) (U (.conv (k':=.u64) (by rw[li];rfl) nk (.t rfl)) (U (.val (v':=vu (gQ n)) (kH (.t rfl) (.t rfl)) (bi (Go.Value.int .u64) (oZ hin))) (A4 (eC (.o rfl) (FC)) rfl (eM _ _) ?_)))))))))
  rintro _ w2 ⟨⟨B1,rfl,hBz,zz1⟩,uw2⟩
  have zw2:=uw2.size
  replace hW:=hW.up uw2
  replace hB4:=hB4.up uw2
  refine Ah (Ak ?_)
  obtain⟨bq,hbq⟩:∃bq,bq=w2.heap.size:=⟨_,rfl⟩
  have zBz:=hBz.lt
  refine Uz (fun b=>b=B1) (fun pre W=>Sz bq W∧∃v,Blk W B4 #[v] 124∧OwnS W bq 5 1 Pz v (pre.map Y2)∧Up w0 W) (fun x=>[(5,.eq (bv x.1)),(6,.eq (.bool x.2)),(4,.eq (.pointer (some ⟨B4,0,none⟩)))]) (.t rfl) (fun args w=>FY args w) (fun W hu=>Z1 B1 (gQ n) W (dA hin.1 hin.2) (hBz.up hu)) (fun _=>rfl) rfl ?_ ?_ ?_ ?_ ?_ (fun _=>rfl) ?_ ?_
  ·rintro b rfl
   omega
  ·rw[←hbq]
   intro pre W W' row hs hg hr
   obtain⟨hZ,v,hB4,hO,hW⟩:=hs
   exact⟨hZ.ko (Ko.grown hg hr),v,hB4.ko (Ko.grown hg hr),hO.ko (Ko.grown hg hr),hW.ko (Ko.grown hg hr) oQ⟩
  ·intro pre W W' hs hf
   obtain⟨hZ,v,hB4,hO,hW⟩:=hs
   exact⟨hZ.uD hf,v,hB4.uD hf oQ,hO.uD hf (fun b e=>by subst e;omega),hW.uD hf (fun b e=>by subst e;omega)⟩
  ·exact⟨fm hbq,_,hB4,OwnS.nil _ _ _ _ _,hW⟩
  ·intro lp x w3
   refine dV rfl rfl (Af (LW.A rfl (Ah (Aa (LW.A rfl (LW.nil ?_))))))
   exact fun a ha=>⟨rfl,ha.sub tQ⟩
  ·rw[←hbq]
   intro lp pre x w4 hs hlt
   obtain⟨hZ,v,hB4,hO,hW⟩:=hs
   have zq:=hZ.le
   have hK:=Kf.refl bq w4
   have hI1:=Zk.refl (B:=B1) (w:=w4) oQ
   refine Ak (Ai (Af (I rfl (U (.n1 rfl) (Ah (CW.b rfl (fun h24=>?_) (fun h24=>?_)))))))
   ·refine Aa (I rfl (U (.val (v':=bv (x.1|||128)) (PEv.CA (.t rfl) (.const _)) (bi (Go.Value.int .u8) GV)) (LW.A rfl (Ah (Aa (U (.lb rfl (hB4.Ad rfl)) (I rfl (Ap (.buildSlice (xs:=[_]) (enc:=Pz) (mk:=bv) md sizeOf5 ng rfl cQ (fun _=>rfl) (fun _=>rfl) (.cu rfl) rfl) rfl ?_))))))))
    rintro _ w5 ⟨B29,cB29,rfl,NB29,yB29,xB29⟩
    have eB29:=NB29.at_
    have zB29:=NB29.size
    replace hZ:=hZ.up NB29.up
    replace hB4:=hB4.up NB29.up
    replace hO:=hO.up NB29.up
    replace hW:=hW.up NB29.up
    replace hK:=hK.up NB29.up
    replace hI1:=hI1.up NB29.up
    have hB29:=NB29.blk
    have hE29:=xB29
    refine Ap (.append (enc:=Pz) (base:=bq) (bytes:=1) (i:=Tryz.t5) md kQ rfl rfl rfl rfl cQ (fun _=>rfl) gU (.t rfl) (.t rfl) hO (Ay hE29) (by simp) (by simp[maxLen];omega) (by simp;omega) oQ) rfl ?_
    rintro v30 w6 ⟨Ow6,Gw6⟩
    replace hZ:=hZ.gr Gw6 rfl
    replace hB4:=hB4.gr Gw6 oQ
    replace hW:=hW.gr Gw6 oQ
    replace hK:=hK.gr Gw6
    replace hI1:=hI1.gr Gw6 oQ
    replace hO:=Ow6
    refine Cd (.store sizeOf124 (.t rfl) (.t rfl) hO.one hB4 bQ) ?_
    intro w7 Nw7
    replace hZ:=hZ.sto Nw7.sto oQ
    replace hO:=hO.sto Nw7.sto oQ
    replace hW:=hW.sto Nw7.sto oQ
    replace hK:=hK.sto Nw7.sto (.inr (.inr ⟨_,_,hB4⟩))
    replace hI1:=hI1.sto Nw7.sto oQ
    replace hB4:=Nw7.blk
    replace hB4:Blk w7 B4 #[v30] _:=hB4
    refine LW.nil (Al ?_)
    exact fun a ha=>⟨hK,fun b e=>by subst e;exact hI1.same,hZ,_,hB4,by rw[co,c8,fq];(rw[uO h24];exact hO),hW⟩
   refine Aj (Ac (Aa (U (.lb rfl (hB4.Ad rfl)) (I rfl (Ap (.buildSlice (xs:=[_]) (enc:=Pz) (mk:=bv) md sizeOf5 ng rfl cQ (fun _=>rfl) (fun _=>rfl) (.cu rfl) rfl) rfl ?_)))))
   rintro _ w8 ⟨B29,cB29,rfl,NB29,yB29,xB29⟩
   have eB29:=NB29.at_
   have zB29:=NB29.size
   replace hZ:=hZ.up NB29.up
   replace hB4:=hB4.up NB29.up
   replace hO:=hO.up NB29.up
   replace hW:=hW.up NB29.up
   replace hK:=hK.up NB29.up
   replace hI1:=hI1.up NB29.up
   have hE29:=xB29
   refine Ap (.append (enc:=Pz) (base:=bq) (bytes:=1) (i:=Tryz.t5) md kQ rfl rfl rfl rfl cQ (fun _=>rfl) gU (.t rfl) (.t rfl) hO (Ay hE29) (by simp) (by simp[maxLen];omega) (by simp;omega) oQ) rfl ?_
   rintro v30 w9 ⟨Ow9,Gw9⟩
   replace hZ:=hZ.gr Gw9 rfl
   replace hB4:=hB4.gr Gw9 oQ
   replace hW:=hW.gr Gw9 oQ
   replace hK:=hK.gr Gw9
   replace hI1:=hI1.gr Gw9 oQ
   replace hO:=Ow9
   refine Cd (.store sizeOf124 (.t rfl) (.t rfl) hO.one hB4 bQ) ?_
   intro w10 Nw10
   replace hZ:=hZ.sto Nw10.sto oQ
   replace hO:=hO.sto Nw10.sto oQ
   replace hW:=hW.sto Nw10.sto oQ
   replace hK:=hK.sto Nw10.sto (.inr (.inr ⟨_,_,hB4⟩))
   replace hI1:=hI1.sto Nw10.sto oQ
   replace hB4:=Nw10.blk
   replace hB4:Blk w10 B4 #[v30] _:=hB4
   refine LW.nil (Al ?_)
   exact fun a ha=>⟨hK,fun b e=>by subst e;exact hI1.same,hZ,_,hB4,by rw[co,c8,fq];(rw[pY h24];exact hO),hW⟩
  intro D ys w11 hDb hSy hs hD
  rw[←hbq]at hDb
  obtain⟨hZ,v,hB4,hO,hW⟩:=hs
  replace hD:Ob w11 D (.deferred (some [])):=hD
  refine Al (Ac (Af (U (.lb rfl (hB4.Ad rfl)) (U (.zJ md mw l5 (.t rfl) hO) (LW.A rfl (Az (Ah (Am (Mq hD rfl ?_)))))))))
  replace hZ:=hZ.ko (Ko.putObj (.deferred none) hD rfl hDb)
  replace hB4:=hB4.ko (Ko.putObj (.deferred none) hD rfl hDb)
  replace hO:=hO.ko (Ko.putObj (.deferred none) hD rfl hDb)
  replace hW:=hW.putObj (D:=D) (.deferred none) oQ
  refine Gj rfl rfl rfl ⟨_,rfl,?_⟩
  (rw[uP hin,AH,bh hin];subst hSy;exact⟨rfl,hW⟩)
 |false=>
  have hin:=cd hq1
  refine Aa (I rfl (U (.lss (.t rfl) (.const _)) (I rfl (Hc rfl rfl (LW.gr rfl (fun hc=>PEv.gtr vQ (.const _)) (U (.po rfl (fun hp=>(by exact .cond rfl (by simp_all)))) (Ah (CW.b rfl (fun h12=>?_) (fun h12=>?_)))))))))
  ·refine Af (Az (Az (Ah (Am (Ar (Sa (Gj rfl rfl rfl ⟨_,rfl,?_⟩)))))))
   (rw[pZ hin,AH,aq hin];exact⟨rfl,hW⟩)
  exfalso
  apply hin
  unfold Ps
  simp at h12
  omega
theorem U2(t:ByteArray)(w:World)(ht:t.size≤65536):Ret prog 151 #[.string t] w fun r w'=>r=.tuple #[.string ⟨(dD t.data.toList).toArray⟩,vi 0]∧Up w w':=by
 have hW:=Up.refl w
 refine cT 18 func151 rfl (Af (Az (Az (An (Af (I rfl (U (.R3 l5 (.t rfl)) (U (.fa (PEv.gtr (.t rfl) (.const _)) (br oQ)) (Ah (CW.f rfl (Aj (Ac (Af (I rfl (U (.R3 l5 (.t rfl)) (A4 (eC (.o rfl) (xJ)) rfl (S7 _ _) ?_))))))))))))))))
 rintro _ w1 ⟨rfl,uw1⟩
 replace hW:=hW.up uw1
 refine I rfl (U (.xt rfl rfl) (U (.xt rfl rfl) (LW.A rfl (LW.A rfl (An (Aa (I rfl (I rfl (U (.pA (.t rfl) (.t rfl) (by rw[S3];have:=Oy (t.size:Int);omega)) (LW.A rfl (Az (Ah (Am (Gj rfl rfl rfl ⟨_,rfl,?_⟩))))))))))))))
 refine⟨?_,hW⟩
 rw[Vp,dD,Xj]
theorem U3(D:Wri)(bs:List UInt8)(w:World)(hD:(Ed 128 5 D (bs)).holds w):Ret prog 207 #[.pointer (some ⟨D.bd,0,none⟩)] w fun r w'=>r=.tuple #[]∧Stp (Ed 128 5 D (bs)) (Ed 128 5 ⟨D.bd,true,D.bf⟩ (bs)) w w':=by
 have hS:=Py hD
 obtain⟨B,us,bf⟩:=D
 refine cT 20 func207 rfl (Ai ?_)
 cases hq0:us with
 |false=>
  subst hq0
  replace hS:Sep _ w w [A5 B #[.pointer none,bf] 128,Aw 5 1 Pz bf bs]:=hS
  refine Aa (I rfl (U (.nc rfl) (U (.fB 0 rfl) (U (.lb rfl (hS.b0.Ad rfl)) (U (.tr (PEv.K3 n7 (.t rfl)) (rfl)) (Ah (CW.v rfl (Aa (I rfl (I rfl (U (.GW (k:=1) n7 underlying298 kQ (.t rfl) hS.b0 (by simp)) (U (.ext (.cu rfl) (Xa func244 rfl rfl kQ kQ _)) (U (.tY (k:=2) underlying298 n7 kQ (.t rfl) hS.b0 kQ) (U (.nc rfl) (U (.fB 0 rfl) (Cd (.store sizeOf123 (.t rfl) (.t rfl) rfl hS.b0 bQ) ?_))))))))))))))))
  intro w1 Nw1
  replace hS:=hS.Ek 0 rfl (show Set_ _ w1 _ (#[.pointer (some ⟨B,0,none⟩),bf]) _ from Nw1)
  refine LW.nil (Dh rfl ⟨_,rfl,?_⟩)
  exact⟨rfl,K9 (rest:=[]) hS⟩
 |true=>
  subst hq0
  replace hS:Sep _ w w [A5 B #[.pointer (some ⟨B,0,none⟩),bf] 128,Aw 5 1 Pz bf bs]:=hS
  refine Aa (I rfl (U (.nc rfl) (U (.fB 0 rfl) (U (.lb rfl (hS.b0.Ad rfl)) (U (.fa (PEv.K3 n7 (.t rfl)) (rfl)) (Ah (CW.f rfl (Af (I rfl (U (.nc rfl) (U (.fB 0 rfl) (U (.lb rfl (hS.b0.Ad rfl)) (I rfl (U (.fa (Y3 (k:=2) n7 kQ (.t rfl) (.t rfl)) (rfl)) (Ah (CW.f rfl (Aj (Dh rfl ⟨_,rfl,?_⟩))))))))))))))))))
  exact⟨rfl,K9 (rest:=[]) hS⟩
theorem Rh(t:ByteArray)(D:Wri)(bs:List UInt8)(w:World)(hD:(Ed 128 5 D (bs)).holds w)(hlen:bs.length+t.size≤140737488355328):Ret prog 128 #[.pointer (some ⟨D.bd,0,none⟩),.string t] w fun r w'=>r=.tuple #[vi (t.size:Int),.nilIface]∧∃bf,Stp (Ed 128 5 D (bs)) (Ed 128 5 ⟨D.bd,true,bf⟩ (bs++t.data.toList)) w w':=by
 have hS:=Sep.cons hD (fun _ h=>h) (Sep.start _ _) (by simp)
 refine cT 19 func128 rfl (Af (Az (Az (An (Aa (I rfl (A4 (eC (.o rfl) (FD)) rfl (U3 D bs _ (hS.get 0 rfl)) ?_)))))))
 rintro _ w1 ⟨rfl,uw1⟩
 replace hS:=hS.Fs 0 rfl uw1
 refine An ?_
 replace hS:=Sep.unfold (Bs:=[]) (rest:=[]) hS
 replace hS:Sep _ _ _ [A5 D.bd #[.pointer (some ⟨D.bd,0,none⟩),D.bf] 128,Aw 5 1 Pz D.bf bs]:=hS
 refine Aa (I rfl (I rfl (U (.nc rfl) (U (.fB 1 rfl) (U (.lb rfl (hS.b0.Ad rfl)) (I rfl (Ap (.kL (i:=Tryz.t5) md l5 kQ rfl rfl rfl (.t rfl) (.t rfl) (hS.own 1 rfl) oQ) rfl ?_)))))))
 intro v14 w2 Gw2
 replace hS:=hS.Fs 1 rfl Gw2
 refine U (.nc rfl) (U (.fB 1 rfl) (Cd (.store sizeOf124 (.t rfl) (.t rfl) (hS.own 1 rfl).one hS.b0 bQ) ?_))
 intro w3 Nw3
 replace hS:=hS.Ek 0 rfl (show Set_ _ w3 _ (#[.pointer (some ⟨D.bd,0,none⟩),v14]) _ from Nw3)
 refine An (Aa (I rfl (U (.R3 l5 (.t rfl)) (LW.A rfl (Az (Ah (Am (Gj rfl rfl rfl ⟨_,rfl,?_⟩))))))))
 exact⟨rfl,v14,K9 (rest:=[]) hS⟩
theorem eN(D:Wri)(bs:List UInt8)(w:World)(hD:(Ed 128 5 D (bs)).holds w)(hne:bs≠[])(hlen:bs.length≤1000000000):Ret prog 56 #[.pointer (some ⟨D.bd,0,none⟩)] w fun r w'=>r=.string ⟨bs.toArray⟩∧Fr (Ed 128 5 D (bs)).foot w w':=by
 have hS:=Py hD
 obtain⟨B,us,bf⟩:=D
 obtain⟨g,cp,rfl,hcp⟩:∃g cp,bf=.slice (some ⟨g,0,none⟩) bs.length cp∧cp≠0:=by
   have h0:0<bs.length:=gb.2 hne
   obtain⟨_,⟨rfl,hn⟩|⟨g,cap,cur,rfl,_,_,hc,_⟩⟩:=St hD
   · omega
   exact⟨g,cap,rfl,by omega⟩
 replace hS:Sep _ w w [A5 B #[(⟨B,us,.slice (some ⟨g,0,none⟩) bs.length cp⟩:Wri).ad,.slice (some ⟨g,0,none⟩) bs.length cp] 128,Aw 5 1 Pz (.slice (some ⟨g,0,none⟩) bs.length cp) bs]:=hS
 refine cT 14 func56 rfl (Af (Az (An (C9 10 kQ kQ kQ kQ kQ rfl rfl (J (.mv rfl) (J (.nc rfl) (J (.fB 1 rfl) (J (.lb rfl (hS.b0.Ad rfl)) (J (.kM hcp (.t rfl)) (J (.mv rfl) (J (.nc rfl) (J (.fB 1 rfl) (J (.lb rfl (hS.b0.Ad rfl)) (J (.Ck md (.t rfl)) (HW.nil ?_)))))))))))))))
 intro w1 uw1
 replace hS:=hS.up uw1
 refine Ap (.kN underlying203 kQ (.t rfl) (.t rfl) (hS.own 1 rfl) hne oQ) rfl ?_
 rintro _ w2 ⟨rfl,hF⟩
 refine LW.A rfl (Ah (Am (KW.q ?_)))
 exact⟨rfl,hS.fr.next hF (fun i hi=>.inl (dE (.inr hi)))⟩
theorem Nl(b:Nat)(t:ByteArray)(D:Wri)(bs:List UInt8)(w:World)(hD:(Ed 128 5 D (bs)).holds w)(hb:D.bd=b)(hlen:bs.length+t.size≤140737488355328):Ret prog 128 #[.pointer (some ⟨b,0,none⟩),.string t] w fun r w'=>r=.tuple #[vi (t.size:Int),.nilIface]∧∃bf,Stp (Ed 128 5 D (bs)) (Ed 128 5 ⟨b,true,bf⟩ (bs++t.data.toList)) w w':=by subst hb;exact Rh t D bs w hD hlen
theorem vC(ad:Option Addr)(cp:Nat)(l:List Int)(D:Wri)(bs:List UInt8)(w:World)(hD:(Ed 128 5 D (bs)).holds w)(hE0:Els w ad 1 A3 l)(hne:∀B o,ad=some ⟨B,o,none⟩→¬(Ed 128 5 D (bs)).foot B)(hlen:bs.length+10*l.length≤1000000000):Ret prog 52 #[.pointer (some ⟨D.bd,0,none⟩),.slice ad l.length cp] w fun r w'=>r=.tuple #[]∧∃D',D'.bd=D.bd∧Stp (Ed 128 5 D (bs)) (Ed 128 5 D' (bs++Cw l)) w w':=by
 obtain⟨w0,rfl,_⟩:=W0 w
 have hS:=Sep.cons hD (fun _ h=>h) (Sep.start _ _) (by simp)
 refine cT 25 func52 rfl (Af (I rfl (U (.Ck k_ (.t rfl)) (U (.move (.const _)) (Ah (Ak (A6 (σ:=Nat×Wri) (fun s w=>(s.1≤l.length)∧(s.2.bd=D.bd)∧(Sep (Ed 128 5 D (bs)).foot w0 w [Ed 128 5 s.2 (bs++Cw (l.take s.1))])) (fun s=>[(10,.eq (vi (s.1:Int)))]) ([(0,.eq _),(8,.eq _),(9,.eq _)]) (fun s=>l.length-s.1) (0,D) ?_ tQ ?_)))))))
 ·exact⟨a8 _,rfl,by simpa[Cw]using hS⟩
 rintro⟨k,D1⟩ w1 ⟨hkk,hbd,hS⟩
 dsimp only at hkk hbd hS
 refine Af (U (.l2 rfl rfl) (An (CW.b rfl (fun h11=>?_) (fun h11=>?_))))
 ·refine Aj (Ac (Ai (Ak (Ai ?_))))
  have hE:=hE0.fr hS.fr hne
  have hkl:k<l.length:=by simp at h11;omega
  refine Aa ?_
  obtain⟨x,hx⟩:=Ae (xs:=l) (i:=k) oQ
  obtain⟨Bx,ox,ax,hcx⟩:=hE _ x hx
  refine U (.Ao k_ lg (.t rfl) (.t rfl) oQ ax) (U (.lb rfl (hcx.nth (j:=0) rfl)) (LW.A rfl (An (Aa (I rfl (A4 (eC (.o rfl) (xJ)) rfl (S7 x _) ?_))))))
  rintro _ w2 ⟨rfl,uw2⟩
  replace hS:=hS.up uw2
  refine I rfl (U (.xt rfl rfl) (U (.xt rfl rfl) (LW.A rfl (LW.A rfl (Ah (Aa (I rfl (U (.nc rfl) (U (.fB 0 rfl) (I rfl (A4 (eC (.u rfl rfl) (xK)) rfl (Nl D.bd _ D1 _ _ (hS.get 0 rfl) hbd (by rw[S3,ak];have:=Oy x;have:=Hx (l.take k);have:=List.length_take_le k l;omega)) ?_)))))))))))
  rintro _ w3 ⟨rfl,bf,uw3⟩
  replace hS:=hS.Fs 0 rfl uw3
  refine LW.nil (Al (Ac (Aa (U (.ic rfl oQ) (I rfl (LW.nil (Av ?_)))))))
  exact⟨(k+1,⟨D.bd,true,bf⟩),⟨by omega,rfl,by rw[dB hx,←c6];exact hS⟩,tQ,by omega⟩
 refine A8 (Ab (Ab (Aq (Dh rfl ⟨_,rfl,?_⟩))))
 have hk2:l.take k=l:=gc (by simp at h11;omega)
 rw[hk2]at hS
 exact⟨rfl,D1,hbd,⟨hS.fr,hS.get 0 rfl,hS.foot 0 rfl⟩⟩
theorem qL(b:Nat)(ad:Option Addr)(cp:Nat)(l:List Int)(D:Wri)(bs:List UInt8)(w:World)(hD:(Ed 128 5 D (bs)).holds w)(hb:D.bd=b)(hE0:Els w ad 1 A3 l)(hne:∀B o,ad=some ⟨B,o,none⟩→¬(Ed 128 5 D (bs)).foot B)(hlen:bs.length+10*l.length≤1000000000):Ret prog 52 #[.pointer (some ⟨b,0,none⟩),.slice ad l.length cp] w fun r w'=>r=.tuple #[]∧∃D',D'.bd=b∧Stp (Ed 128 5 D (bs)) (Ed 128 5 D' (bs++Cw l)) w w':=by subst hb;exact vC ad cp l D bs w hD hE0 hne hlen
theorem S8(b:Nat)(D:Wri)(bs:List UInt8)(w:World)(hD:(Ed 128 5 D (bs)).holds w)(hb:D.bd=b)(hne:bs≠[])(hlen:bs.length≤1000000000):Ret prog 56 #[.pointer (some ⟨b,0,none⟩)] w fun r w'=>r=.string ⟨bs.toArray⟩∧Fr (Ed 128 5 D (bs)).foot w w':=by subst hb;exact eN D bs w hD hne hlen
theorem qM(b:Bool)(w:World):Ret prog 150 #[.bool b] w fun r w'=>r=vi (Ki b)∧Up w w':=by
 have hW:=Up.refl w
 refine cT 4 func150 rfl (Af (Az (An (Af (I rfl (Ah (CW.b rfl (fun h3=>?_) (fun h3=>?_))))))))
 ·refine Af (Az (Ah (Am (Ar (KW.q ?_)))))
  refine⟨?_,hW⟩
  simp[Ki,h3]
 refine Aj (Ac (Af (Az (Ah (Am (KW.q ?_))))))
 refine⟨?_,hW⟩
 simp[Ki,h3]
theorem Q4(f:Fact)(ad:Option Addr)(k cp:Nat)(w:World):Ret prog 54 #[.agg f.cells,.slice ad k cp] w fun r w'=>(∃Ba Bb,r=.func (.func 129) #[] #[.pointer (some ⟨Ba,0,none⟩),.pointer (some ⟨Bb,0,none⟩)]∧Blk w' Ba #[.slice ad k cp] 134∧Blk w' Bb f.cells 35)∧Up w w':=by
 have hW:=Up.refl w
 refine cT 6 func54 rfl (Af (Ap (.bA rfl) rfl ?_))
 rintro _ w1 ⟨B2,rfl,NB2⟩
 replace hW:=hW.up NB2.up
 have hB2:=NB2.blk
 refine Ap (.Pu (.t rfl) rfl) rfl ?_
 rintro _ w2 ⟨B3,rfl,NB3⟩
 replace hW:=hW.up NB3.up
 replace hB2:=hB2.up NB3.up
 have hB3:=NB3.blk
 refine Az (An (Aa (U (.makeFunc (.ct rfl (.cu rfl))) (LW.A rfl (Ah (Am (KW.q ?_)))))))
 exact⟨⟨_,_,rfl,hB3,hB2⟩,hW⟩
theorem Xn(X Y:Nat→Prop)(B3 B2:Nat)(ad:Option Addr)(cp:Nat)(l:List Fld)(f:Fact)(w:World)(hEX:∀B o,ad=some ⟨B,o,none⟩→¬X B)(hQX:¬X B3)(hFX:¬X B2)(hQ0:Blk w B3 #[.slice ad l.length cp] 134)(hF0:Blk w B2 f.cells 35)(hE0:Els w ad 3 Fld.cells l)(hlen:l.length≤1000)(hok:∀x∈l,Fx x.off=true):
   IterS prog 129 #[.pointer (some ⟨B3,0,none⟩),.pointer (some ⟨B2,0,none⟩)] A3 X Y (fun ys=>ys=Es l f) (fun pre=>pre<+:Es l f) (Es l f).length w:=by
 refine IterS.of ?_
 intro lp J Jx w0 hUw _ hY hJ
 obtain⟨Bd,hBd⟩:∃Bd,Bd=w0.heap.size:=⟨_,rfl⟩
 rw[←hBd]at hJ hY
 have hQ:=hQ0.up hUw
 have hF:=hF0.up hUw
 have hE:=Els.up hE0 hUw
 refine cT 21 func129 rfl (Af (U (.lb rfl (hQ.Ad rfl)) (U (.Ck lw (.t rfl)) (U (.move (.const _)) (Ah (Ak (CW.loop (σ:=Nat) (fun s w=>s≤l.length∧Jw Bd J ((Es l f).take s) w∧Els w ad 3 Fld.cells l∧Blk w B3 #[.slice ad l.length cp] 134∧Blk w B2 f.cells 35) (fun s=>[(0,.eq (.func (.yield lp) #[] #[])),(1,.eq (.pointer (some ⟨B3,0,none⟩))),(2,.eq (.pointer (some ⟨B2,0,none⟩))),(6,.eq (.slice ad l.length cp)),(7,.eq (vi (l.length:Int))),(8,.eq (vi (s:Int)))]) (fun s=>l.length-s) 0 ?_ ?_ ?_)))))))
 ·exact⟨a8 _,hJ,hE,hQ,hF⟩
 ·exact tQ
 rintro k w1 ⟨hk,hJ,hE,hQ,hF⟩
 refine Af (U (.l2 rfl rfl) (An (CW.b rfl (fun h9=>?_) (fun h9=>?_))))
 ·refine Aj (Ac (Ai (Ak (Ai ?_))))
  have hkl:k<l.length:=by simp at h9;omega
  refine Aa ?_
  obtain⟨x,hx⟩:=Ae (xs:=l) (i:=k) oQ
  obtain⟨Bx,ox,ax,hcx⟩:=hE _ x hx
  refine U (.Ao lw ly (.t rfl) (.t rfl) oQ ax) (U (.lc rfl (hcx)) (Ap (.Cb lj) rfl ?_))
  rintro _ w2 ⟨B5,rfl,MB5⟩
  refine Cd (.Cc ly rfl (.t rfl) (.t rfl) (Fld.one _) MB5.blk rfl) ?_
  intro w3 LB5
  have NB5:=MB5.set LB5
  replace hJ:=hJ.up NB5.up
  replace hE:=hE.up NB5.up
  replace hQ:=hQ.up NB5.up
  replace hF:=hF.up NB5.up
  replace hcx:=hcx.up NB5.up
  have hB5:=NB5.blk
  refine An ?_
  have hox:=hok x (ai hx)
  refine Aa (I rfl (U (.fB 0 rfl) (U (.lb rfl (hB5.Ad rfl)) (A4 (Ey (.t rfl) (.cu rfl) (pS x.off hox)) rfl (iK x.off _ _ hox) ?_))))
  rintro _ w4 ⟨rfl,uw4⟩
  replace hJ:=hJ.up uw4
  replace hE:=hE.up uw4
  replace hQ:=hQ.up uw4
  replace hF:=hF.up uw4
  replace hcx:=hcx.up uw4
  replace hB5:=hB5.up uw4
  refine U (.nc rfl) (U (.lb rfl (hF.Ad (P4 hox))) (LW.y (.t rfl) (.cu rfl) rfl rfl (hY _ (Hd f x.off) _ hJ (by rw[cc,Nz];omega)) ?_))
  rintro _ w5 ⟨y,rfl,hcase⟩
  refine U (.n1 rfl) (Ah (CW.b rfl (fun h19=>?_) (fun h19=>?_)))
  ·have hy:y=false:=by simpa using h19
   subst hy
   obtain⟨_,hJx⟩:=hcase.resolve_left (by simp)
   refine Am (A7 (Ar (Ar (A7 (Gi rfl ⟨_,rfl,?_⟩)))))
   exact .inr ⟨_,by rw[←Q0 hx];exact List.take_prefix _ _,hJx⟩
  have hy:y=true:=by simpa using h19
  subst hy
  obtain⟨_,hJ2,hN⟩:=hcase.resolve_right (by simp)
  replace hE:=hE.kx hN hEX
  replace hQ:=hQ.kx hN hQX
  replace hF:=hF.kx hN hFX
  rw[←Q0 hx]at hJ2
  refine Aj (Al (Ac (Aa (U (.ic rfl oQ) (I rfl (LW.nil (Av ?_)))))))
  exact⟨k+1,⟨by omega,hJ2,hE,hQ,hF⟩,tQ,by omega⟩
 have hkk:k=l.length:=by simp at h9;omega
 refine A8 (Ab (Ab (Aq (Dh rfl ⟨_,rfl,?_⟩))))
 exact .inl ⟨_,rfl,by rw[hkk,←Nz l f,b8]at hJ;exact hJ.j⟩
theorem eO(gf:Nat)(lb:Array Go.Value)(Ig:List Int)(Sp:List Int→Prop)(D:Wri)(bs:List UInt8)(w:World)(hD:(Ed 128 5 D (bs)).holds w)(en:∀args w,(callFunc gf args).run prog w=.ok (.enter gf args) w)(hit:∀W(X:Nat→Prop),Up w W→(∀i,X i→(Ed 128 5 D (bs)).foot i∨w.heap.size≤i)→IterS prog gf lb A3 X (fun _=>False) (fun ys=>ys=Ig) Sp Ig.length W)(hlen:bs.length+10*Ig.length≤1000000):Ret prog 53 #[.pointer (some ⟨D.bd,0,none⟩),.func (.func gf) #[] lb] w fun r w'=>r=.tuple #[]∧∃D',D'.bd=D.bd∧Stp (Ed 128 5 D (bs)) (Ed 128 5 D' (bs++Cw Ig)) w w':=by
 have hW:=Up.refl w
 obtain⟨w0,rfl,_⟩:=W0 w
 have hU0:Stp (Ed 128 5 D (bs)) (Ed 128 5 D (bs)) w0 w0:=Stp.refl hD
 refine Ff (n:=11) func53 rfl rfl rfl (Af (Ap (.Pu (.t rfl) rfl) rfl ?_))
 rintro _ w1 ⟨B2,rfl,NB2⟩
 have eB2:=NB2.at_
 have zB2:=NB2.size
 replace hW:=hW.up NB2.up
 replace hU0:=hU0.up NB2.up
 have hB2:=NB2.blk
 refine An (Aa (I rfl (Ah (Ak ?_))))
 obtain⟨bq,hbq⟩:∃bq,bq=w1.heap.size:=⟨_,rfl⟩
 refine CW.rangeFunc (fun i=>(Ed 128 5 D (bs)).foot i∨bq≤i) (fun _=>False) (fun pre W=>Sz bq W∧∃D1:Wri,D1.bd=D.bd∧Blk W B2 #[.pointer (some ⟨D.bd,0,none⟩)] 122∧Stp (Ed 128 5 D (bs)) (Ed 128 5 D1 (bs++Cw pre)) w1 W) (fun c pre W=>Sz bq W∧False) (fun x a' W=>Ag 11 [] ([(4,.eq (vi x)),(2,.eq (.pointer (some ⟨B2,0,none⟩)))]) a' W) (.t rfl) en (hit _ _ hW (fun i hi=>hi.imp id (fun h=>by omega))) (fun _=>rfl) rfl ?_ ?_ ?_ ?_ ?_ ?_ ?_ ?_
 ·rw[←hbq]
  intro pre W W' row hs hg hr
  obtain⟨hZ,D1,hbd,hB2,hUp⟩:=hs
  exact⟨hZ.ko (Ko.grown hg hr),D1,hbd,hB2.ko (Ko.grown hg hr),hUp.ko (Ko.grown hg hr) oQ⟩
 ·rw[←hbq]
  intro c pre W W' row hs hg hr
  obtain⟨hZ,hF⟩:=hs
  exact⟨hZ.ko (Ko.grown hg hr),hF⟩
 ·intro x a' u W W' row hs hg hr
  exact hs.world rfl _
 ·exact⟨fm hbq,_,rfl,hB2,by simpa[Cw]using Stp.refl hU0.holds⟩
 ·rw[←hbq]
  intro lp pre x w2 K hs hk a ha
  obtain⟨hZ,D1,hbd,hB2,hUp⟩:=hs
  have zq:=hZ.le
  have hK:=Kf.refl bq w2
  have hN:=Kx.refl bq (fun i=>(Ed 128 5 D (bs)).foot i∨bq≤i) (fun _=>False) w2
  revert a
  refine Ht (p:=6) rfl (Aa (LW.A rfl (LW.nil ?_)))
  exact fun a ha=>hk a _ hK hN ⟨hZ,D1,hbd,hB2,hUp⟩ (ha.sub tQ)
 ·rw[←hbq]
  intro lp pre x a' w3 hs hx hlt
  obtain⟨hZ,D1,hbd,hB2,hUp⟩:=hs
  have ha:=hx
  have zq:=hZ.le
  have hK:=Kf.refl bq w3
  have hN:=Kx.refl bq (fun i=>(Ed 128 5 D (bs)).foot i∨bq≤i) (fun _=>False) w3
  refine(show CW (some lp) 8 _ 11 [] _ (ownPostG bq (Kx bq (fun i=>(Ed 128 5 D (bs)).foot i∨bq≤i) (fun _=>False)) _ _ (pre++[x]) w3) ([(4,.eq (vi x)),(2,.eq (.pointer (some ⟨B2,0,none⟩)))]) w3 from ?_) a' ha
  refine Ak (Aa (U (.lb rfl (hB2.Ad rfl)) (I rfl (Ap (.buildSlice (xs:=[x]) (enc:=A3) (mk:=vi) k_ lg lq rfl cQ (fun _=>rfl) (fun _=>rfl) (.cu rfl) rfl) rfl ?_))))
  rintro _ w4 ⟨B9,cB9,rfl,NB9,yB9,xB9⟩
  replace hZ:=hZ.up NB9.up
  replace hB2:=hB2.up NB9.up
  replace hUp:=hUp.up NB9.up
  replace hK:=hK.up NB9.up
  replace hN:=hN.up NB9.up
  have hB9:=NB9.blk
  have hE9:=xB9
  refine A4 (eC (.u rfl rfl) (zF)) rfl (qL D.bd _ _ [x] D1 _ _ hUp.holds hbd hE9 (fun B o e=>by cases e;exact Jy hUp.holds hB9 rfl rfl) (by rw[ak];have:=Hx pre;simp;omega)) ?_
  rintro _ w5 ⟨rfl,D2,hb2,hP2⟩
  have hWc:=dG hUp.holds
  have hXs:∀i,(Ed 128 5 D1 (bs++Cw pre)).foot i→((Ed 128 5 D (bs)).foot i∨bq≤i):=fun i hi=>(hUp.sub i hi).imp id (fun h=>by omega)
  replace hN:=hN.trans (Kx.fr (bq:=bq) (Y:=fun _=>False) hP2.fr hXs hWc)
  replace hK:=hK.trans (Kf.fr (bq:=bq) hP2.fr hWc)
  replace hB2:=hB2.fr hP2.fr (Jy hUp.holds hB2 rfl rfl)
  replace hUp:=hUp.trans hP2
  rw[c6,kK,←dC]at hUp
  have hZ2:Sz bq w5:=bu hZ.le hP2.fr.size
  refine LW.nil (Al ?_)
  exact fun a ha=>⟨hK,hN,hZ2,D2,hb2,hB2,hUp⟩
 ·intro D ys w6 hDb hS hs hD
  rw[←hbq]at hDb
  obtain⟨hZ,D1,hbd,hB2,hUp⟩:=hs
  replace hD:Ob w6 D (.deferred (some [])):=hD
  refine Al (Mq hD rfl ?_)
  replace hZ:=hZ.ko (Ko.putObj (.deferred none) hD rfl hDb)
  replace hB2:=hB2.ko (Ko.putObj (.deferred none) hD rfl hDb)
  replace hUp:=hUp.ko (Ko.putObj (.deferred none) hD rfl hDb) oQ
  refine Gi rfl ⟨_,rfl,?_⟩
  subst hS
  exact⟨rfl,D1,hbd,hU0.trans hUp⟩
 intro D c pre w7 hDb hpre hs hD
 rw[←hbq]at hDb
 obtain⟨hZ,hF⟩:=hs
 replace hD:Ob w7 D (.deferred (some [])):=hD
 exact hF.elim
theorem V3(b:Nat)(Ba Bb:Nat)(ad:Option Addr)(cp:Nat)(l:List Fld)(f:Fact)(D:Wri)(bs:List UInt8)(w:World)(hD:(Ed 128 5 D (bs)).holds w)(hb:D.bd=b)(hQ:Blk w Ba #[.slice ad l.length cp] 134)(hF:Blk w Bb f.cells 35)(hE:Els w ad 3 Fld.cells l)(hT:∀B o,ad=some ⟨B,o,none⟩→B<w.heap.size∧¬(Ed 128 5 D (bs)).foot B)(hlen:bs.length+10*l.length≤10000)(hok:∀x∈l,Fx x.off=true):
   Ret prog 53 #[.pointer (some ⟨b,0,none⟩),.func (.func 129) #[] #[.pointer (some ⟨Ba,0,none⟩),.pointer (some ⟨Bb,0,none⟩)]] w fun r w'=>r=.tuple #[]∧∃D',D'.bd=b∧Stp (Ed 128 5 D (bs)) (Ed 128 5 D' (bs++Cw (Es l f))) w w':=by
 subst hb
 refine eO 129 _ (Es l f) (fun pre=>pre<+:Es l f) D bs w hD DG ?_ (by rw[Nz];omega)
 intro W X hU hX
 refine Xn X (fun _=>False) Ba Bb ad cp l f W (fun B o e hx=>?_) (fun hx=>?_) (fun hx=>?_) (hQ.up hU) (hF.up hU) (Els.up hE hU) oQ hok
 · obtain⟨h1,h2⟩:=hT B o e
   exact(hX B hx).elim h2 (fun h=>by omega)
 · have:=hQ.lt
   exact(hX Ba hx).elim (Jy hD hQ rfl rfl) (fun h=>by omega)
 have:=hF.lt
 exact(hX Bb hx).elim (Jy hD hF rfl rfl) (fun h=>by omega)
theorem Xo(f:Fact)(w:World):Ret prog 21 #[.agg f.cells] w fun r w'=>r=.string ⟨(Cm f).toArray⟩∧Up w w':=by
 obtain⟨w0,rfl,hS⟩:=W0 w
 refine cT 27 func21 rfl (Af (Ap (.bA rfl) rfl ?_))
 rintro _ w1 ⟨B1,rfl,NB1⟩
 replace hS:=hS.Cg NB1
 refine Az (An (Ai ?_))
 cases hq1:Ca f with
 |true=>
  have hkn:=E6 hq1
  refine Aa (U (.lc rfl (hS.b0.agg)) (A4 (eC (.o rfl) (tL)) rfl (My f _) ?_))
  rintro _ w2 ⟨rfl,uw2⟩
  replace hS:=hS.up uw2
  refine U (.fa (PEv.n1 rfl) (by rw[hq1];rfl)) (Ah (CW.f rfl (Aj (Ac (Af (U (.build (cs:=#[.pointer none,.slice none 0 0]) underlying128 zeroValue128 Lx .nil rfl) (Ap (.bA rfl) rfl ?_)))))))
  rintro _ w3 ⟨B8,rfl,NB8⟩
  replace hS:=hS.Cg NB8
  refine LW.A rfl (An ?_)
  replace hS:=gV (Bs:=[_]) (e:=5) hS
  have hA0:=hS.get 1 rfl
  refine Aa (I rfl (U (.fB 0 rfl) (U (.lb rfl (hS.b0.Ad rfl)) (Ap (.buildSlice (xs:=[f.Kind]) (enc:=A3) (mk:=vi) k_ lg lq rfl cQ (fun _=>rfl) (fun _=>rfl) (.cu rfl) rfl) rfl ?_))))
  rintro _ w4 ⟨B12,cB12,rfl,NB12,yB12,xB12⟩
  have eB12:=NB12.at_
  replace hS:=hS.up NB12.up
  have hE12:=xB12
  refine A4 (eC (.u rfl rfl) (zF)) rfl (qL B8 _ _ [f.Kind] ⟨B8,false,.slice none 0 0⟩ _ _ (hS.get 1 rfl) rfl hE12 (fun B o e=>by cases e;intro hf;have:=Asr.lt _ _ hA0 _ hf;omega) (by simp)) ?_
  rintro _ w5 ⟨rfl,D1,hb1,uw5⟩
  replace hS:=hS.Fs 1 rfl uw5
  refine An (Ju 8 [.eq (.pointer (some ⟨B8,0,none⟩)),.eq (.agg f.cells),.pred ShM,.eq (.pointer (some ⟨B1,0,none⟩)),.eq (vi f.Kind),.pred (shOf f),.pred (fun v w=>SlT 191 w v 3 Fld.cells (Er f.Kind)),.pred (fun v w=>∃Ba Bb ad cp,v=.func (.func 129) #[] #[.pointer (some ⟨Ba,0,none⟩),.pointer (some ⟨Bb,0,none⟩)]∧Blk w Ba #[.slice ad (Er f.Kind).length cp] 134∧Blk w Bb f.cells 35∧SlT 191 w (.slice ad (Er f.Kind).length cp) 3 Fld.cells (Er f.Kind))] [14,21] kQ rfl kQ kQ kQ kQ kQ kQ kQ ⟨om,om,PhU.pred fun _ _ _ h u=>ShM.Dj h u.Dj,om,om,PhU.pred fun _ _ _ h u=>ShV.Dj h u.Dj,PhU.pred fun _ _ _ h u=>SlT.G7 h u.G7,PhU.pred fun _ _ _ h u=>let⟨Ba,Bb,ad,cp,e,h1,h2,h3⟩:=h;⟨Ba,Bb,ad,cp,e,h1.up u,h2.up u,SlT.G7 h3 u.G7⟩,trivial⟩ ?_ ?_)
  ·intro W hU0
   have hU:=(Up.drew w5).trans hU0
   refine aC ⟨rfl,TU.p (.mv rfl) rfl⟩ (aC ⟨rfl,TU.p (.lc rfl ((hS.b0.up hU).agg)) rfl⟩ (aC ⟨rfl,TU.c (eC .nil (tM)) (Lf _) (fun v W1 h=>let⟨b,e,m,u⟩:=h;⟨u,b,e,m⟩)⟩ (aC ⟨rfl,TU.p (.fB 0 rfl) rfl⟩ (aC ⟨rfl,TU.p (.lb rfl ((hS.b0.up hU).Ad rfl)) rfl⟩ (aC ⟨rfl,TU.open (d:=16) rfl (by rintro _ ⟨b,rfl,kv,hI,hV,hK⟩;obtain⟨⟨k0,sv⟩,hkv,e0⟩:=bx.1 ((hK f.Kind).2 hkn);cases e0;exact TU.p (.Hw (ok:=false) n6 li (.t rfl) (.t rfl) hI hkv) (hV _ _ hkv))⟩ (aC ⟨rfl,TU.open (d:=19) rfl (by rintro _ ⟨v1,v2,rfl,h1,h2⟩;exact TU.p (.cY (off:=1) mc rfl rfl isAgg134 (.t rfl) rfl) h2)⟩ (aC ⟨rfl,TU.open (d:=20) rfl (by rintro _ ⟨⟨ad,cp,rfl,hE⟩,hT⟩;exact TU.c (eC (.u rfl rfl) (CJ)) (Q4 f ad _ cp _) (fun v W1 h=>let⟨⟨Ba,Bb,e,h1,h2⟩,u⟩:=h;⟨u,Ba,Bb,ad,cp,e,h1,h2,SlT.G7 ⟨⟨ad,cp,rfl,hE⟩,hT⟩ u.G7⟩))⟩ ?_)))))))
   exact allL.nil
  intro w6 g hU0 hg
  have hU:=(Up.drew w5).trans hU0
  replace hS:=hS.up hU
  have e14:g 14=.pointer (some ⟨B8,0,none⟩):=hg 0 _ 14 cQ rfl rfl
  obtain⟨Ba,Bb,ad,cp2,e21,hBa,hBb,⟨ad1,cp1,e1,hE⟩,hT⟩:=hg 7 _ 21 cQ rfl rfl
  cases e1
  change LW _ _ _ _ _ _ _ _ ((14,.eq (g 14))::(21,.eq (g 21))::_) _
  rw[e14,e21]
  refine A4 (eC (.u rfl rfl) (CI)) rfl (V3 B8 Ba Bb ad cp2 _ f D1 _ _ (hS.get 1 rfl) hb1 hBa hBb hE (fun B o e=>by obtain⟨cs,x,hc⟩:=hT B o _ _ (by rw[e]);exact⟨lt_of_block hc,Jy (hS.get 1 rfl) hc rfl rfl⟩) (uT f) (uS f.Kind)) ?_
  rintro _ w7 ⟨rfl,D2,hb2,uw7⟩
  replace hS:=hS.Fs 1 rfl uw7
  rw[du,←V0]at hS
  have hKL:[f.Kind]++Es (Er f.Kind) f=O4 f:=rfl
  rw[hKL]at hS
  refine An (Aa (I rfl (U (.nc rfl) (U (.fB 0 rfl) (A4 (eC (.o rfl) (zG)) rfl (S8 B8 D2 _ _ (hS.get 1 rfl) hb2 (iL hq1) (uU f)) ?_)))))
  rintro _ w8 ⟨rfl,hF⟩
  refine LW.A rfl (Ah (Am (KW.q ?_)))
  rw[Cm,bh hq1]
  exact⟨rfl,(hS.fr.next hF (hS.foot 1 rfl)).tS (fun _ h=>h)⟩
 |false=>
  refine Aa (U (.lc rfl (hS.b0.agg)) (A4 (eC (.o rfl) (tL)) rfl (My f _) ?_))
  rintro _ w9 ⟨rfl,uw9⟩
  replace hS:=hS.up uw9
  refine U (.tr (PEv.n1 rfl) (by rw[hq1];rfl)) (Ah (CW.v rfl (Af (Az (Ah (Am (Ar (KW.q ?_))))))))
  rw[Cm,aq (by rw[hq1];exact ca)]
  exact⟨rfl,hS.Ch⟩
theorem S9(f:Fact)(w:World):Ret prog 57 #[.agg f.cells] w fun r w'=>r=.tuple #[.string ⟨(S4 f).toArray⟩,vi (Q3 f)]∧Up w w':=by
 obtain⟨w0,rfl,hS⟩:=W0 w
 refine cT 52 func57 rfl (Af (Ap (.bA rfl) rfl ?_))
 rintro _ w1 ⟨B1,rfl,NB1⟩
 have eB1:=NB1.at_
 have zB1:=NB1.size
 replace hS:=hS.Cg NB1
 refine Az (Az (An (Ai ?_)))
 cases hq1:Ca f with
 |true=>
  have hkn:=E6 hq1
  refine Aa (U (.lc rfl (hS.b0.agg)) (A4 (eC (.o rfl) (tL)) rfl (My f _) ?_))
  rintro _ w2 ⟨rfl,uw2⟩
  have zw2:=uw2.size
  replace hS:=hS.up uw2
  refine U (.fa (PEv.n1 rfl) (by rw[hq1];rfl)) (Ah (CW.f rfl (Aj (Ac (Ai ?_)))))
  have hB1T:=hS.blk 0 rfl
  have hU0:=hS.Ch
  refine CW.box 6 4 5 3 4 14 #[.slice none 0 0,.slice none 0 0,.nilFunc,.bool false] [.pred ShM,.eq (.pointer (some ⟨B1,0,none⟩)),.eq (vi f.Kind),.pred (shOf f),.pred fun v _=>∃B,v=.pointer (some ⟨B,0,none⟩),.eq undef] [] ma sizeOf136 kQ rfl kQ kQ kQ kQ kQ kQ kQ rfl rfl ⟨_,_,_,rfl⟩ _ rfl ⟨_,_,_,rfl⟩ ⟨PhT.pred fun _ _ _ h u=>ShM.Dj h u,ot,ot,PhT.pred fun _ _ _ h u=>ShV.Dj h u,PhT.pred fun _ _ _ h _=>h,ot,trivial⟩ rfl (fun v W h=>shOf.agg h) (fun B W=>⟨B,rfl⟩) ?_ ?_
  ·intro W hK0
   have hK:=(Up.drew w2).Dj.trans hK0
   have hB1W:=Blk.Dj hB1T (T:=136) rfl hK
   refine aC (.inr ⟨rfl,TU.c (eC .nil (tM)) (Lf _) (fun v W1 h=>let⟨b,e,m,u⟩:=h;⟨u,b,e,m⟩)⟩) (aC (.inr ⟨rfl,TU.p (.fB 0 rfl) rfl⟩) (aC (.inr ⟨rfl,TU.p (.lb rfl (hB1W.Ad rfl)) rfl⟩) (aC (.inr ⟨rfl,TU.open (d:=11) rfl (by rintro _ ⟨b,rfl,kv,hI,hV,hK⟩;obtain⟨⟨k0,sv⟩,hkv,e0⟩:=bx.1 ((hK f.Kind).2 hkn);cases e0;exact TU.p (.Hw (ok:=false) n6 li (.t rfl) (.t rfl) hI hkv) (hV _ _ hkv))⟩) (aC (.inl (.inl rfl)) (aC (.inl (.inr rfl)) ?_)))))
   exact allL.nil
  intro wT B4 g hU hBn hB4 hg
  have hUT:=(Up.drew _).trans hU
  obtain⟨v1,v2,e14,hs1,hs2⟩:=hg 3 _ 14 cQ rfl rfl
  rw[e14]at hB4
  obtain⟨⟨ad,cp,rfl,hE1⟩,hT0⟩:=hs1
  obtain⟨⟨ad2,cp2,rfl,hE2⟩,_⟩:=hs2
  replace hB4:Blk wT B4 #[.slice ad (fieldsOf f.Kind).length cp,.slice ad2 (Er f.Kind).length cp2,.func (.func (Fm (G8 f.Kind))) #[] #[],.bool (G9 f.Kind)] 136:=hB4
  have hB1X:=hB1T.up hUT
  replace hU0:=hU0.trans hUT
  have hB14:B1≠B4:=fun e=>by have:=hB1T.lt;have:=(Up.drew w2).size;omega
  have zB4:w0.heap.size≤B4:=by have:=hS.size;have:=(Up.drew w2).size;omega
  have hE0:ElT wT ad 191 3 Fld.cells (fieldsOf f.Kind):=⟨hE1,fun B o e=>hT0 B o _ _ (by rw[e])⟩
  replace hS:Wx.Sep no w0 wT [A5 B1 f.cells 35,A5 B4 #[.slice ad (fieldsOf f.Kind).length cp,.slice ad2 (Er f.Kind).length cp2,.func (.func (Fm (G8 f.Kind))) #[] #[],.bool (G9 f.Kind)] 136]:=⟨hU0.fr _,fun A hA=>by simp only[bp,df,d_]at hA;rcases hA with rfl|rfl;exact⟨hB1X,hS.foot 0 rfl⟩;exact⟨hB4,fun i(e:i=B4)=>.inr oQ⟩,List.Pairwise.cons (fun A hA i(e1:i=B1)=>by simp only[bn]at hA;subst hA;exact fun(e2:i=B4)=>hB14 (e1.symm.trans e2)) (f9 _ _)⟩
  refine An (Aa (U (.build (cs:=#[.pointer none,.slice none 0 0]) underlying128 zeroValue128 Lx .nil rfl) (Ap (.bA rfl) rfl ?_)))
  rintro _ w3 ⟨B16,rfl,NB16⟩
  replace hE0:=hE0.up NB16.up
  replace hS:=hS.Cg NB16
  refine LW.A rfl (An ?_)
  replace hS:=gV (Bs:=[_,_]) (e:=5) hS
  refine Ju 11 [.eq (.pointer (some ⟨B16,0,none⟩)),.eq (.pointer (some ⟨B1,0,none⟩)),.eq (vi f.Kind),.eq (.pointer (some ⟨B1,2,none⟩)),.eq (vi f.Version),.eq (.pointer (some ⟨B1,3,none⟩)),.eq (vi f.Day),.eq (.pointer (some ⟨B1,4,none⟩)),.eq (.bool f.Gone),.eq (vi (Ki f.Gone)),.pred (fun v w=>SlT 3 w v 1 A3 [f.Kind,f.Version,f.Day,Ki f.Gone])] [17,27] kQ rfl kQ kQ kQ kQ kQ kQ kQ ⟨om,om,om,om,om,om,om,om,om,om,PhU.pred fun _ _ _ h u=>SlT.G7 h u.G7,trivial⟩ ?_ ?_
  ·intro W hU0
   have hU:=(Up.drew w3).trans hU0
   refine aC ⟨rfl,TU.p (.mv rfl) rfl⟩ (aC ⟨rfl,TU.p (.fB 0 rfl) rfl⟩ (aC ⟨rfl,TU.p (.lb rfl ((hS.b0.up hU).Ad rfl)) rfl⟩ (aC ⟨rfl,TU.p (.fB 2 rfl) rfl⟩ (aC ⟨rfl,TU.p (.lb rfl ((hS.b0.up hU).Ad rfl)) rfl⟩ (aC ⟨rfl,TU.p (.fB 3 rfl) rfl⟩ (aC ⟨rfl,TU.p (.lb rfl ((hS.b0.up hU).Ad rfl)) rfl⟩ (aC ⟨rfl,TU.p (.fB 4 rfl) rfl⟩ (aC ⟨rfl,TU.p (.lb rfl ((hS.b0.up hU).Ad rfl)) rfl⟩ (aC ⟨rfl,TU.c (eC (.o rfl) (DY)) (qM f.Gone _) sQ⟩ (aC ⟨rfl,TU.r (REv.buildSlice (xs:=[f.Kind,f.Version,f.Day,Ki f.Gone]) (enc:=A3) (mk:=vi) k_ lg lq rfl cQ (fun _=>rfl) (fun _=>rfl) (.ct rfl (.ct rfl (.ct rfl (.cu rfl)))) rfl) (by rintro _ W1 ⟨B,c,rfl,N,y,x⟩;exact⟨N.up,SlT.lit ⟨B,c,rfl,N,y,x⟩⟩)⟩ ?_))))))))))
   exact allL.nil
  intro w4 g hU0 hg
  have hU:=(Up.drew w3).trans hU0
  replace hS:=hS.up hU
  replace hE0:=hE0.up hU
  have e17:g 17=.pointer (some ⟨B16,0,none⟩):=hg 0 _ 17 cQ rfl rfl
  obtain⟨⟨ad3,cp3,e27,hE27⟩,hT27⟩:=hg 10 _ 27 cQ rfl rfl
  change LW _ _ _ _ _ _ _ _ ((17,.eq (g 17))::(27,.eq (g 27))::_) _
  rw[e17,e27]
  have hA0:=hS.get 2 rfl
  refine A4 (eC (.u rfl rfl) (zF)) rfl (qL B16 ad3 cp3 [f.Kind,f.Version,f.Day,Ki f.Gone] ⟨B16,false,.slice none 0 0⟩ _ _ (hS.get 2 rfl) rfl hE27 (fun B o e=>by obtain⟨cs,x,hc⟩:=hT27 B o _ _ (by rw[e27,e]);exact Jy hA0 hc rfl rfl) (by simp)) ?_
  rintro _ w5 ⟨rfl,D1,hb1,uw5⟩
  replace hS:=hS.Fs 2 rfl uw5
  replace hE0:=hE0.fr uw5.fr (fun B cs x hc=>Jy hA0 hc rfl rfl)
  refine An (Aa (I rfl (U (.lc rfl (hS.b0.agg)) (U (.fB 0 rfl) (U (.lb rfl (hS.b1.Ad rfl)) (A4 (eC (.u rfl rfl) (CJ)) rfl (Q4 f ad _ cp _) ?_))))))
  rintro _ w6 ⟨⟨Ba,Bb,rfl,hBa,hBb⟩,uw6⟩
  replace hS:=hS.up uw6
  replace hE0:=hE0.up uw6
  refine A4 (eC (.u rfl rfl) (CI)) rfl (V3 B16 Ba Bb ad cp _ f D1 _ _ (hS.get 2 rfl) hb1 hBa hBb hE0.els (fun B o e=>by obtain⟨cs,x,hc⟩:=hE0.ty B o e;exact⟨lt_of_block hc,Jy (hS.get 2 rfl) hc rfl rfl⟩) (uV f) (Vz f.Kind)) ?_
  rintro _ w7 ⟨rfl,D2,hb2,uw7⟩
  replace hS:=hS.Fs 2 rfl uw7
  rw[du,←V0]at hS
  have hKL:[f.Kind,f.Version,f.Day,Ki f.Gone]++Es (fieldsOf f.Kind) f=P5 f:=rfl
  rw[hKL]at hS
  refine An (Af (U (.fB 3 rfl) (U (.lb rfl (hS.b1.Ad rfl)) (Ah (CW.b rfl (fun h36=>?_) (fun h36=>?_))))))
  ·replace h36:=dQ h36
   refine Af (U (.fB 18 rfl) (U (.lb rfl (hS.b0.Ad rfl)) (A4 (eC (.o rfl) (DZ)) rfl (U2 f.Text _ (by have:=N0 hq1;omega)) ?_)))
   rintro _ w8 ⟨rfl,uw8⟩
   replace hS:=hS.up uw8
   refine I rfl (U (.xt rfl rfl) (U (.xt rfl rfl) (LW.A rfl (LW.A rfl (Ah (Aa (I rfl (U (.nc rfl) (U (.fB 0 rfl) (I rfl (A4 (eC (.u rfl rfl) (xK)) rfl (Nl B16 _ D2 _ _ (hS.get 2 rfl) hb2 (by rw[S3];have:=Zo f.Text.data.toList;rw[Xj]at this;have:=N0 hq1;have:=qA f;omega)) ?_)))))))))))
   rintro _ w9 ⟨rfl,bf,uw9⟩
   replace hS:=hS.Fs 2 rfl uw9
   refine An ?_
   obtain⟨D3,hb3,hS3⟩:∃D3:Wri,D3.bd=B16∧Wx.Sep no w0 w9 [A5 B1 f.cells 35,A5 B4 #[.slice ad (fieldsOf f.Kind).length cp,.slice ad2 (Er f.Kind).length cp2,.func (.func (Fm (G8 f.Kind))) #[] #[],.bool (G9 f.Kind)] 136,Ed 128 5 D3 (Iu f)]:=by exact⟨⟨B16,true,bf⟩,rfl,by rw[←lH (bj h36)];exact hS⟩
   replace hS:=hS3
   refine Aa (I rfl (U (.nc rfl) (U (.fB 0 rfl) (A4 (eC (.o rfl) (zG)) rfl (S8 B16 D3 _ _ (hS.get 2 rfl) hb3 (iM hq1) (by have:=iO hq1;omega)) ?_))))
   rintro _ w10 ⟨rfl,hF⟩
   refine LW.A rfl (Az (Ah (Am (Gj rfl rfl rfl ⟨_,rfl,?_⟩))))
   rw[S4,Q3,bh hq1,bh hq1]
   exact⟨rfl,(hS.fr.next hF (hS.foot 2 rfl)).tS (fun _ h=>h)⟩
  replace h36:=dQ h36
  refine Aj (Ac (Ai ?_))
  obtain⟨D3,hb3,hS3⟩:∃D3:Wri,D3.bd=B16∧Wx.Sep no w0 w7 [A5 B1 f.cells 35,A5 B4 #[.slice ad (fieldsOf f.Kind).length cp,.slice ad2 (Er f.Kind).length cp2,.func (.func (Fm (G8 f.Kind))) #[] #[],.bool (G9 f.Kind)] 136,Ed 128 5 D3 (Iu f)]:=by exact⟨D2,hb2,by rw[←uW (br h36)];exact hS⟩
  replace hS:=hS3
  refine Aa (I rfl (U (.nc rfl) (U (.fB 0 rfl) (A4 (eC (.o rfl) (zG)) rfl (S8 B16 D3 _ _ (hS.get 2 rfl) hb3 (iM hq1) (by have:=iO hq1;omega)) ?_))))
  rintro _ w11 ⟨rfl,hF⟩
  refine LW.A rfl (Az (Ah (Am (Gj rfl rfl rfl ⟨_,rfl,?_⟩))))
  rw[S4,Q3,bh hq1,bh hq1]
  exact⟨rfl,(hS.fr.next hF (hS.foot 2 rfl)).tS (fun _ h=>h)⟩
 |false=>
  refine Aa (U (.lc rfl (hS.b0.agg)) (A4 (eC (.o rfl) (tL)) rfl (My f _) ?_))
  rintro _ w12 ⟨rfl,uw12⟩
  replace hS:=hS.up uw12
  refine U (.tr (PEv.n1 rfl) (by rw[hq1];rfl)) (Ah (CW.v rfl (Af (Az (Az (Ah (Am (Ar (Gj rfl rfl rfl ⟨_,rfl,?_⟩)))))))))
  rw[S4,Q3,aq (by rw[hq1];exact ca),aq (by rw[hq1];exact ca)]
  exact⟨rfl,hS.Ch⟩
theorem O5(a b:ByteArray)(w:World):Ret prog 152 #[.string a,.string b] w fun r w'=>r=vi (Go.Lib.compareBytes a.data.toList b.data.toList)∧Up w w':=by
 have hW:=Up.refl w
 refine cT 8 func152 rfl (Af (Az (An (Aa (I rfl (I rfl (U (.ext (.ct rfl (.cu rfl)) (Ut func210 rfl rfl kQ kQ _ _)) (LW.A rfl (Ah (Am (KW.q ?_)))))))))))
 exact⟨rfl,hW⟩
theorem Z2(a b:ByteArray)(w:World):Ret prog 58 #[.string a,.string b] w fun r w'=>r=vi (Go.Lib.compareBytes a.data.toList b.data.toList)∧Up w w':=by
 have hW:=Up.refl w
 refine cT 8 func58 rfl (Af (Az (An (Aa (I rfl (I rfl (A4 (eC (.u rfl rfl) (EA)) rfl (O5 a b _) ?_)))))))
 rintro _ w1 ⟨rfl,uw1⟩
 replace hW:=hW.up uw1
 refine LW.A rfl (Ah (Am (KW.q ?_)))
 exact⟨rfl,hW⟩
theorem Xp(a b:Fact)(w:World):Ret prog 22 #[.agg a.cells,.agg b.cells] w fun r w'=>r=.bool (E0 a b)∧Up w w':=by
 have hW:=Up.refl w
 refine cT 44 func22 rfl (Af (Ap (.bA rfl) rfl ?_))
 rintro _ w1 ⟨B2,rfl,NB2⟩
 replace hW:=hW.up NB2.up
 have hB2:=NB2.blk
 refine Ap (.bA rfl) rfl ?_
 rintro _ w2 ⟨B3,rfl,NB3⟩
 replace hW:=hW.up NB3.up
 replace hB2:=hB2.up NB3.up
 have hB3:=NB3.blk
 refine Az (An (Aa (U (.lc rfl (hB2.agg)) (A4 (eC (.o rfl) (CK)) rfl (S9 a _) ?_))))
 rintro _ w3 ⟨rfl,uw3⟩
 replace hW:=hW.up uw3
 replace hB2:=hB2.up uw3
 replace hB3:=hB3.up uw3
 refine I rfl (U (.xt rfl rfl) (U (.xt rfl rfl) (LW.A rfl (LW.A rfl (An (Aa (U (.lc rfl (hB3.agg)) (A4 (eC (.o rfl) (CK)) rfl (S9 b _) ?_))))))))
 rintro _ w4 ⟨rfl,uw4⟩
 replace hW:=hW.up uw4
 replace hB2:=hB2.up uw4
 replace hB3:=hB3.up uw4
 refine I rfl (U (.xt rfl rfl) (U (.xt rfl rfl) (LW.A rfl (LW.A rfl (An (Ak (Ai (Ai ?_))))))))
 cases hq3:Ca a with
 |false=>
  refine Aa (I rfl (U (.tr (PEv.neq (.t rfl) (.const _)) (by rw[Q3,aq (by rw[hq3];exact ca)];rfl)) (LW.A rfl (Ah (CW.v rfl (Aj (Ac (CW.v rfl (Af (Az (Ah (Am (A7 (Ar (KW.q ?_)))))))))))))))
  refine⟨bi Go.Value.bool ?_,hW⟩
  exact Zq (by rw[hq3];rfl)
 |true=>
  refine Aa (I rfl (U (.fa (PEv.neq (.t rfl) (.const _)) (by rw[Q3,bh hq3];rfl)) (LW.A rfl (Ah (CW.f rfl (Ai ?_))))))
  cases hq4:Ca b with
  |false=>
   refine Aa (I rfl (U (.tr (PEv.neq (.t rfl) (.const _)) (by rw[Q3,aq (by rw[hq4];exact ca)];rfl)) (LW.A rfl (Ah (CW.v rfl (Aj (Ac (CW.v rfl (Af (Az (Ah (Am (A7 (Ar (KW.q ?_)))))))))))))))
   refine⟨bi Go.Value.bool ?_,hW⟩
   exact Zq (by rw[hq3,hq4];rfl)
  |true=>
   refine Aa (I rfl (U (.fa (PEv.neq (.t rfl) (.const _)) (by rw[Q3,bh hq4];rfl)) (LW.A rfl (Ah (CW.f rfl (C5 kQ kQ rfl rfl (J (.lc rfl (hB2.agg)) (HW.c (fun a w _ ha=>Bi (.cu rfl) (yW) a ha) rfl rfl (fun w hu=>Xo a w) (J (.lc rfl (hB3.agg)) (HW.c (fun a w _ ha=>Bi (.cu rfl) (yW) a ha) rfl rfl (fun w hu=>Xo b w) (J (.cZ (.t rfl) (.t rfl)) (J (.assign (.t rfl)) (HW.nil ?_)))))))))))))
   intro w5 uw5
   replace hW:=hW.up uw5
   replace hB2:=hB2.up uw5
   replace hB3:=hB3.up uw5
   refine Ac (CW.b rfl (fun h19=>?_) (fun h19=>?_))
   ·refine Af (Az (Ah (Am (A7 (Ar (KW.q ?_))))))
    refine⟨bi Go.Value.bool ?_,hW⟩
    exact qB h19
   refine Af (U (.fB 2 rfl) (U (.lb rfl (hB2.Ad rfl)) (U (.fB 2 rfl) (U (.lb rfl (hB3.Ad rfl)) (U (.neq (.t rfl) (.t rfl)) (LW.A rfl (Ah (CW.b rfl (fun h29=>?_) (fun h29=>?_)))))))))
   ·refine Af (U (.fB 2 rfl) (U (.lb rfl (hB2.Ad rfl)) (U (.fB 2 rfl) (U (.lb rfl (hB3.Ad rfl)) (U (.gtr (.t rfl) (.t rfl)) (LW.A rfl (Ah (Am (A7 (Ar (KW.q ?_)))))))))))
    refine⟨bi Go.Value.bool ?_,hW⟩
    exact qC hq3 hq4 h19 h29
   refine Aj (Al (Ac (Af (I rfl (I rfl (A4 (eC (.u rfl rfl) (JC)) rfl (Z2 _ _ _) ?_))))))
   rintro _ w6 ⟨rfl,uw6⟩
   replace hW:=hW.up uw6
   replace hB2:=hB2.up uw6
   replace hB3:=hB3.up uw6
   refine U (.gtr (.t rfl) (.const _)) (LW.A rfl (Ah (Am (KW.q ?_))))
   refine⟨bi Go.Value.bool ?_,hW⟩
   exact qD hq3 hq4 h19 h29
end Go.Proofs.YtnpgbbaniknpkaaGreatDoor
namespace Go.Wx
open Go.RowKit
theorem Xq{d d':Nat}{p q:Op}{t t':TypeId}{s s':String}{a a':Array Edge}{g g':Option (Nat×Bool)}(h:some (⟨some d,p,t,s,a,g⟩:Oper)=some ⟨some d',q,t',s',a',g'⟩):d=d':=by
 injection h with h
 injection h with h
 injection h
theorem HC{d d':Option Nat}{x x':Operand}{y y':Nat}{T T' t t':TypeId}{s s':String}{a a':Array Edge}{g g':Option (Nat×Bool)}(h:some (⟨d,.store T x (.tmp y),t,s,a,g⟩:Oper)=some ⟨d',.store T' x' (.tmp y'),t',s',a',g'⟩):y=y':=by
 injection h with h
 injection h with _ h
 injection h with _ _ h
 injection h
structure Bv where
 ia:Nat
 is:Nat
 isv:Nat
 sa:Nat
 sv:Nat
def Im(v:Value)(B:Nat):Prop:=v=.pointer (some ⟨B,0,none⟩)
section
variable {R:Option Nat}{m:Nat}{P:Program}{n:Nat}{ds:List Deferred}{Q:Exit→Go.Act→World→Prop}{l:Env}{w:World}{ops:Array Oper}
def HD(bs:List Bv)(T:TypeId)(z:Array Value)(w0:World)(L:Nat→Bool)(f:Nat→Value)(W:World):Prop:=
 Up w0 W∧(∀b∈bs,(L b.is=true→L b.ia=true)∧(L b.ia=true→∃B,Im (f b.sa) B∧w0.heap.size≤B∧Blk W B (if L b.is=true then(f b.sv).cells else z) T))∧
   bs.Pairwise fun b c=>L b.ia=true→L c.ia=true→∀B,Im (f b.sa) B→¬Im (f c.sa) B
def eP(bs:List Bv):Bool:=bs.all fun b=>bs.all fun c=>(!Nat.beq b.ia c.is)&&((Nat.beq b.ia c.ia&&Nat.beq b.is c.is)||(!Nat.beq b.ia c.ia&& !Nat.beq b.is c.is&& !Nat.beq b.sa c.sa))
theorem Kj{bs:List Bv}(h:eP bs=true){b c:Bv}(hb:b∈bs)(hc:c∈bs):b.ia≠c.is∧((b.ia=c.ia∧b.is=c.is)∨(b.ia≠c.ia∧b.is≠c.is∧b.sa≠c.sa)):=by
 have h1:=di.1 (di.1 h b hb) c hc
 simp only[b6,gi,jl]at h1
 refine⟨fun e=>?_,?_⟩
 · have:=h1.1;rw[e]at this;simp at this
 rcases h1.2 with⟨a,b⟩|⟨⟨a,b⟩,c⟩
 · exact .inl ⟨ci a,ci b⟩
 exact .inr ⟨fun e=>by rw[e]at a;simp at a,fun e=>by rw[e]at b;simp at b,fun e=>by rw[e]at c;simp at c⟩
theorem AWF.vars{k:Nat}{bs:List Bv}{T:TypeId}{z:Array Value}{base:Env}(ph:Nat→Ph){f0:Nat→Value}(hz:∀w,(zeroValue T).run P w=.ok (.agg z) w)(hs:∀w,(sizeOf T).run P w=.ok z.size w)
   (hph:∀i v w w',(ph i).holds v w→KeepT T w w'→(ph i).holds v w')(hA:Dz ops=true)(hC:(Nat.beq k ops.size||Fv ops k)=true)(hF:Ik ops k=true)(hks:Nat.ble k ops.size=true)
   (hD:Gw n ops 0 k=true)(hbp:Cq base=true)(hbd:∀i ph,lk base i=some ph→∀(j:Nat)(o:Oper),0≤j→j<k→ops[j]?=some o→o.dst≠some i)(hv:eP bs=true)(hnd:bs.Pairwise fun b c=>b.ia≠c.ia)
   (hlit:∀b∈bs,Ou ops b.ia [(b.is,0,b.sv)]=true)(hk:∀b∈bs,b.is<k∧b.ia<k)
   (hia:∀b∈bs,∃ty ps af,ops[b.ia]?=some ⟨some b.sa,.alloc T,ty,ps,af,none⟩)(his:∀b∈bs,∃ty ps af,ops[b.is]?=some ⟨none,.store T (.tmp b.sa) (.tmp b.sv),ty,ps,af,none⟩)
   (hlk:∀b∈bs,∀o,ops[b.is]?=some o→lk (Jt ops ph 0 o++base) b.sv=some (ph b.isv))(hsv:∀b∈bs,∀v W,(ph b.isv).holds v W→∃cs,v=.agg cs∧cs.size=z.size∧cs.all (·.oneCell')=true)
   (hpa:∀b∈bs,∀B W,(ph b.ia).holds (.pointer (some ⟨B,0,none⟩)) W)
   (hop:∀i o,i<k→(∀b∈bs,i≠b.ia∧i≠b.is)→ops[i]?=some o→o.guard=none∧∀W,KeepT T w W→∀a,Ag n ds (Jt ops ph 0 o++base) a W→cK P o a W (fun v W'=>Up W W'∧(ph i).holds v W'))
   (hend:∀f W,Up w W→(∀b∈bs,∃B,Im (f b.sa) B∧w.heap.size≤B∧Blk W B (f b.sv).cells T)→(bs.Pairwise fun b c=>∀B,Im (f b.sa) B→¬Im (f c.sa) B)→AWF R m P n ds ops Q k (Hg ops ph 0 k++base) f W):AWF R m P n ds ops Q 0 base f0 w:=by
 have ptr1:∀{v:Value}{B B':Nat},Im v B→Im v B'→B=B':=fun h1 h2=>by unfold Im at h1 h2;rw[h1]at h2;cases h2;rfl
 refine H3 ph (KeepT T) (HD bs T z w) (KeepT.refl T) (fun _ _ _=>KeepT.trans) hph hA hC hF hks (by simp) hD hbp hbd ?_ ⟨Up.refl w,fun b hb=>⟨fun h=>by simp at h,fun h=>by simp at h⟩,List.pairwise_iff_forall_sublist.2 fun _ h=>by simp at h⟩ ?_
 · intro i o _ hi hio L f W hRel hDn hLi hed hInv
   obtain⟨hUp,hB,hP⟩:=hInv
   -- slots of addresses are written by their allocs alone
   have saOf:∀c∈bs,c.ia≠i→o.dst≠some c.sa:=fun c hc hne ed=>by
     obtain⟨ty,ps,af,h⟩:=hia c hc
     exact(Da hD (a8 _) hi hio ed).2 c.ia _ (a8 _) (hk c hc).2 hne h rfl
   have svOf:∀c∈bs,L c.is=true→o.dst≠some c.sv:=fun c hc hLs ed=>by
     obtain⟨os,hos,hods,⟨e,he,hbe,hon⟩,⟨e',he',hbe',pv,hpv,hpvd⟩⟩:=Hh (hlit c hc) b7
     have h2:=hDn _ _ hos hLs e' he' hbe'
     have h3:=Ef hA hos e' he' hbe'
     have h4:=(hk c hc).1
     by_cases ee:e'.on=i
     · rw[ee,hLi]at h2;cases h2
     exact(Da hD (a8 _) hi hio ed).2 e'.on pv (a8 _) (by have h3':e'.on<c.is:=h3;omega) ee hpv hpvd
   by_cases e0:∃b∈bs,i=b.ia
   · obtain⟨b,hb,rfl⟩:=e0
     obtain⟨ty,ps,af,hia0⟩:=hia b hb
     rw[hio]at hia0;cases hia0
     intro a ha hsl
     rw[bh (by simp[Region.wanted])]
     obtain⟨v,W',hr,B,rfl,N⟩:=REv.Cb (P:=P) (n:=n) (ds:=ds) (l:=Jt ops ph 0 _++base) (w:=W) (d:=some b.sa) (ty:=ty) (ps:=ps) (af:=af) (g:=none) hz a ha
     have hLs:L b.is=false:=by
       cases h:L b.is with
       |false=>rfl
       |true=>rw[(hB b hb).1 h]at hLi;cases hLi
     have ne:∀c∈bs,c.is≠b.ia:=fun c hc=>Ne.symm (Kj hv hb hc).1
     have old:∀c∈bs,c.ia≠b.ia→Cs L b.ia c.ia=L c.ia∧Dv f (some b.sa) (.pointer (some ⟨B,0,none⟩)) c.sa=f c.sa:=fun c hc hne=>by
       have h1:b.sa≠c.sa:=by
         rcases(Kj hv hb hc).2 with⟨h,_⟩|⟨_,_,h⟩
         · exact absurd h.symm hne
         exact h
       exact⟨by simp[Cs,hne],by simp[Dv,h1]⟩
     refine .inl (.inl ⟨_,W',hr,N.up.Dj,fun _ _=>hpa b hb B W',hUp.trans N.up,fun c hc=>?_,?_⟩)
     · have ns:Cs L b.ia c.is=L c.is:=by simp[Cs,ne c hc]
       by_cases hcb:c.ia=b.ia
       · have hsa:c.sa=b.sa:=by
           obtain⟨_,_,_,h⟩:=hia c hc
           rw[hcb,hio]at h;exact(Xq h).symm
         have his':c.is=b.is:=by
           rcases(Kj hv hc hb).2 with⟨_,h⟩|⟨h,_⟩
           · exact h
           exact absurd hcb h
         refine⟨fun _=>by rw[hcb];simp[Cs],fun _=>⟨B,by rw[hsa];simp[Im,Dv],by rw[N.at_];exact hUp.size,?_⟩⟩
         rw[ns,his',hLs]
         exact N.blk
       obtain⟨o1,o2⟩:=old c hc hcb
       refine⟨fun h=>by rw[o1];rw[ns]at h;exact(hB c hc).1 h,fun h=>?_⟩
       rw[o1]at h
       obtain⟨B',h1,h2,h3⟩:=(hB c hc).2 h
       refine⟨B',by rw[o2];exact h1,h2,?_⟩
       rw[ns]
       cases hLc:L c.is with
       |false=>rw[hLc]at h3;exact h3.up N.up
       |true=>
         rw[hLc]at h3
         have h4:Dv f (some b.sa) (.pointer (some ⟨B,0,none⟩)) c.sv=f c.sv:=by
           have h5:=svOf c hc hLc
           have h6:b.sa≠c.sv:=fun e=>h5 (by rw[e])
           simp[Dv,h6]
         rw[h4]
         exact h3.up N.up
     refine List.Pairwise.imp_of_mem ?_ (hnd.and hP)
     rintro c c' hc hc' ⟨hne,hp⟩ h1 h2 X hx hx'
     by_cases ec:c.ia=b.ia
     · have ec':c'.ia≠b.ia:=fun e=>hne (ec.trans e.symm)
       obtain⟨q1,q2⟩:=old c' hc' ec'
       rw[q1]at h2;rw[q2]at hx'
       obtain⟨B',h3,_,h5⟩:=(hB c' hc').2 h2
       have hsa:c.sa=b.sa:=by
         obtain⟨_,_,_,h⟩:=hia c hc
         rw[ec,hio]at h;exact(Xq h).symm
       have hxB:X=B:=ptr1 hx (by rw[hsa];simp[Im,Dv])
       have:=ptr1 hx' h3
       have h6:=h5.lt
       rw[N.at_]at hxB
       omega
     obtain⟨q1,q2⟩:=old c hc ec
     rw[q1]at h1;rw[q2]at hx
     by_cases ec':c'.ia=b.ia
     · obtain⟨B',h3,_,h5⟩:=(hB c hc).2 h1
       have hsa:c'.sa=b.sa:=by
         obtain⟨_,_,_,h⟩:=hia c' hc'
         rw[ec',hio]at h;exact(Xq h).symm
       have hxB:X=B:=ptr1 hx' (by rw[hsa];simp[Im,Dv])
       have:=ptr1 hx h3
       have h6:=h5.lt
       rw[N.at_]at hxB
       omega
     obtain⟨q1',q2'⟩:=old c' hc' ec'
     rw[q1']at h2;rw[q2']at hx'
     exact hp h1 h2 X hx hx'
   have e0':∀b∈bs,b.ia≠i:=fun b hb e=>e0 ⟨b,hb,e.symm⟩
   by_cases e1:∃b∈bs,i=b.is
   · obtain⟨b,hb,rfl⟩:=e1
     obtain⟨os,hos,hods,⟨e,he,hbe,hon⟩,_⟩:=Hh (hlit b hb) b7
     have hLa:L b.ia=true:=by rw[hos]at hio;cases hio;rw[←hon];exact hed e he hbe
     obtain⟨ty,ps,af,his0⟩:=his b hb
     rw[hio]at his0;cases his0
     intro a ha hsl
     rw[bh (by simp[Region.wanted])]
     obtain⟨B,h1,hBs,hblk⟩:=(hB b hb).2 hLa
     rw[hLi]at hblk
     obtain⟨cs,hcs,hcz,hc1⟩:=hsv b hb _ W (ha.val b.sv _ (hlk b hb _ hio))
     have hfs:f b.sv=.agg cs:=by rw[←hsl];exact hcs
     have hsn:b.sa≠b.sv:=fun e'=>by unfold Im at h1;rw[e',hfs]at h1;cases h1
     have hag:Ag n ds [(b.sv,.eq (.agg cs)),(b.sa,.eq (.pointer (some ⟨B,0,none⟩)))] a W:=by
       refine⟨ha.defers,ha.size,fun t q ht=>?_⟩
       by_cases e1:t=b.sv
       · subst e1;rw[A9]at ht;cases ht;exact hcs
       rw[Be e1]at ht
       by_cases e2:t=b.sa
       · subst e2;rw[A9]at ht;cases ht;exact(hsl _).trans h1
       rw[Be e2]at ht;cases ht
     obtain⟨W',hr,hset⟩:=SEv.Cc (P:=P) (n:=n) (ds:=ds) (w:=W) (l:=[(b.sv,.eq (.agg cs)),(b.sa,.eq (.pointer (some ⟨B,0,none⟩)))]) (x:=.tmp b.sa) (y:=.tmp b.sv) (ty:=ty) (ps:=ps) (af:=af) (g:=none) hs hcz (.tmp (by rw[Be hsn,A9])) (.tmp A9) hc1 hblk (by simp) a hag
     have na:∀c∈bs,Cs L b.is c.ia=L c.ia:=fun c hc=>by
       have:=(Kj hv hc hb).1
       simp[Cs,this]
     refine .inr ⟨W',hr,hset.sto.Dj (by rw[hset.size];exact bl _) hblk,(fun d hd=>by cases hd),hUp.sto hset.sto hBs,fun c hc=>?_,?_⟩
     · by_cases hcb:c.is=b.is
       · have hca:c.ia=b.ia∧c.sa=b.sa:=by
           rcases(Kj hv hc hb).2 with⟨h,_⟩|⟨_,h,_⟩
           · refine⟨h,?_⟩
             obtain⟨_,_,_,h1⟩:=hia c hc
             obtain⟨_,_,_,h2⟩:=hia b hb
             rw[h,h2]at h1;exact(Xq h1).symm
           exact absurd hcb h
         have hcv:c.sv=b.sv:=by
           obtain⟨_,_,_,h1⟩:=his c hc
           rw[hcb,hio]at h1;exact(HC h1).symm
         refine⟨fun _=>by rw[na c hc,hca.1];exact hLa,fun _=>⟨B,by rw[hca.2];exact h1,hBs,?_⟩⟩
         have h2:Cs L b.is c.is=true:=by simp[Cs,hcb]
         rw[h2,bh rfl,hcv]
         show Blk W' B (f b.sv).cells T
         rw[hfs]
         exact hset.blk
       have ns:Cs L b.is c.is=L c.is:=by simp[Cs,hcb]
       refine⟨fun h=>by rw[na c hc];rw[ns]at h;exact(hB c hc).1 h,fun h=>?_⟩
       rw[na c hc]at h
       obtain⟨B',h3,h4,h5⟩:=(hB c hc).2 h
       have hne:B'≠B:=by
         have hcne:c≠b:=fun e=>hcb (by rw[e])
         intro e
         subst e
         rcases fb.1 hc with⟨ic,hic,ec⟩
         rcases fb.1 hb with⟨ib,hib,eb⟩
         rcases i5 ic ib with q|q|q
         · have:=dw.1 hP ic ib hic hib q
           rw[ec,eb]at this
           exact this h hLa B' h3 h1
         · subst q;exact hcne (ec.symm.trans eb)
         have:=dw.1 hP ib ic hib hic q
         rw[ec,eb]at this
         exact this hLa h B' h1 h3
       refine⟨B',h3,h4,?_⟩
       rw[ns]
       exact h5.sto hset.sto hne
     refine List.Pairwise.imp_of_mem ?_ hP
     intro c c' hc hc' hp h1 h2 X hx hx'
     rw[na c hc]at h1
     rw[na c' hc']at h2
     exact hp h1 h2 X hx hx'
   have e1':∀b∈bs,b.is≠i:=fun b hb e=>e1 ⟨b,hb,e.symm⟩
   obtain⟨hg,hop⟩:=hop i o hi (fun b hb=>⟨Ne.symm (e0' b hb),Ne.symm (e1' b hb)⟩) hio
   intro a ha hsl
   rw[bh (by simp[Region.wanted,hg])]
   have done:∀v W',Up W W'∧(ph i).holds v W'→KeepT T W W'∧(∀d,o.dst=some d→(ph i).holds v W')∧HD bs T z w (Cs L i) (Dv f o.dst v) W':=by
     rintro v W' ⟨hu,hv'⟩
     have ela:∀c∈bs,Cs L i c.ia=L c.ia:=fun c hc=>by simp[Cs,e0' c hc]
     have els:∀c∈bs,Cs L i c.is=L c.is:=fun c hc=>by simp[Cs,e1' c hc]
     have esa:∀c∈bs,Dv f o.dst v c.sa=f c.sa:=fun c hc=>by simp[Dv,saOf c hc (e0' c hc)]
     refine⟨hu.Dj,fun _ _=>hv',hUp.trans hu,fun c hc=>⟨fun h=>by rw[ela c hc];rw[els c hc]at h;exact(hB c hc).1 h,fun h=>?_⟩,?_⟩
     · rw[ela c hc]at h
       obtain⟨B,h1,h2,h3⟩:=(hB c hc).2 h
       refine⟨B,by rw[esa c hc];exact h1,h2,?_⟩
       rw[els c hc]
       cases hLc:L c.is with
       |false=>rw[hLc]at h3;exact h3.up hu
       |true=>
         rw[hLc]at h3
         have h4:Dv f o.dst v c.sv=f c.sv:=by simp[Dv,svOf c hc hLc]
         rw[h4]
         exact h3.up hu
     refine List.Pairwise.imp_of_mem ?_ hP
     intro c c' hc hc' hp h1 h2 X hx hx'
     rw[ela c hc]at h1;rw[ela c' hc']at h2
     rw[esa c hc]at hx;rw[esa c' hc']at hx'
     exact hp h1 h2 X hx hx'
   rcases hop W hRel a ha with⟨v,W',hr,hp⟩|⟨fn,args,w1,hr,hc⟩
   · exact .inl (.inl ⟨v,W',hr,done v W' hp⟩)
   exact .inl (.inr ⟨fn,args,w1,hr,hc.mono done⟩)
 intro f W hRel hInv
 obtain⟨hUp,hB,hP⟩:=hInv
 refine hend f W hUp (fun b hb=>?_) ?_
 · obtain⟨B,h1,h2,h3⟩:=(hB b hb).2 (by simpa using(hk b hb).2)
   rw[bh (by simpa using(hk b hb).1)]at h3
   exact⟨B,h1,h2,h3⟩
 refine List.Pairwise.imp_of_mem ?_ hP
 intro c c' hc hc' hp X hx hx'
 exact hp (by simpa using(hk c hc).2) (by simpa using(hk c' hc').2) X hx hx'
theorem CW.vars{id:Nat}{opsL:List Oper}(k:Nat)(bs:List Bv)(z:Array Value)(phs:List Ph)(keep:List Nat){T:TypeId}(hz:∀w,(zeroValue T).run P w=.ok (.agg z) w)(hs:∀w,(sizeOf T).run P w=.ok z.size w)(hm:P.follows .mixedOrders=true)(hl:Cq l=true)
   (hA:Dz opsL.toArray=true)(hC:(Nat.beq k opsL.toArray.size||Fv opsL.toArray k)=true)(hF:Ik opsL.toArray k=true)(hks:Nat.ble k opsL.toArray.size=true)(hD:Gw n opsL.toArray 0 k=true)(hTl:Gv opsL.toArray k=true)
   (hfree:Ji l (opsL.take k)=true)(hv:eP bs=true)(hnd:(bs.map (·.ia)).Nodup)(hlit:(bs.all fun b=>Ou opsL.toArray b.ia [(b.is,0,b.sv)])=true)(hk:(bs.all fun b=>Nat.ble (b.is+1) k&&Nat.ble (b.ia+1) k)=true)
   (hia:∀b∈bs,∃ty ps af,opsL[b.ia]?=some ⟨some b.sa,.alloc T,ty,ps,af,none⟩)(his:∀b∈bs,∃ty ps af,opsL[b.is]?=some ⟨none,.store T (.tmp b.sa) (.tmp b.sv),ty,ps,af,none⟩)(hph:allT T phs)
   (hlk:∀b∈bs,∀o,opsL[b.is]?=some o→lk (Jt opsL.toArray (fun i=>phs.getD i (.eq undef)) 0 o++l) b.sv=some (phs.getD b.isv (.eq undef)))(hsv:∀b∈bs,∀v W,(phs.getD b.isv (.eq undef)).holds v W→∃cs,v=.agg cs∧cs.size=z.size∧cs.all (·.oneCell')=true)
   (hpa:∀b∈bs,∀B W,(phs.getD b.ia (.eq undef)).holds (.pointer (some ⟨B,0,none⟩)) W)
   (hop:∀W,KeepT T w.drew W→allL (fun i o=>(∃b∈bs,i=b.ia∨i=b.is)∨(o.guard=none∧TU P n ds (Jt opsL.toArray (fun i=>phs.getD i (.eq undef)) 0 o++l) W o (phs.getD i (.eq undef)))) 0 (opsL.take k))
   (hend:∀W(g:Nat→Value),Up w.drew W→(∀b∈bs,∃B,Im (g b.sa) B∧w.drew.heap.size≤B∧Blk W B (g b.sv).cells T)→(bs.Pairwise fun b c=>∀B,Im (g b.sa) B→¬Im (g c.sa) B)→(∀i o d,i<k→opsL[i]?=some o→o.dst=some d→(phs.getD i (.eq undef)).holds (g d) W)→LW R m P n ds opsL.toArray Q (opsL.drop k) (keep.map (fun d=>(d,.eq (g d)))++l) W):
   CW R m P n ds (.region id opsL.toArray true) Q l w:=by
 have hks':k≤opsL.length:=by have:=a_ hks;simp at this;omega
 have sub:∀j o,j<k→opsL.toArray[j]?=some o→(opsL.take k)[j]?=some o:=fun j o hjk ho=>by
   rw[dm hjk];simpa using ho
 have hbd:∀i ph,lk l i=some ph→∀(j:Nat)(o:Oper),0≤j→j<k→opsL.toArray[j]?=some o→o.dst≠some i:=fun i ph hi j o _ hjk ho=>Gf hfree hi (ai (sub j o hjk ho))
 have toL:∀(i:Nat)(o:Oper),opsL.toArray[i]?=some o→opsL[i]?=some o:=fun i o h=>by simpa using h
 refine Db hm hl fun fuel listed a hf hu ha=>(AWF.vars (k:=k) (bs:=bs) (T:=T) (z:=z) (fun i=>phs.getD i (.eq undef)) (f0:=fun t=>a.tmps.getD t undef) hz hs (fun i v w w' h u=>(hph.at i) v w w' h u) hA hC hF hks hD hl hbd hv (gk.1 hnd) (fun b hb=>di.1 hlit b hb) ?_ ?_ ?_ (fun b hb o ho=>hlk b hb o (toL _ _ ho)) hsv hpa ?_ ?_ fuel listed a hf hu ha (fun _=>rfl))
 · intro b hb
   have:=di.1 hk b hb
   simp only[b6]at this
   exact⟨a_ this.1,a_ this.2⟩
 · intro b hb
   obtain⟨ty,ps,af,h⟩:=hia b hb
   exact⟨ty,ps,af,by simpa using h⟩
 · intro b hb
   obtain⟨ty,ps,af,h⟩:=his b hb
   exact⟨ty,ps,af,by simpa using h⟩
 · intro i o hi hn ho
   have h0:=(hop w.drew (KeepT.refl T _)).at (sub i o hi ho)
   rw[dp]at h0
   rcases h0 with⟨b,hb,e|e⟩|⟨hg,_⟩
   · exact absurd e (hn b hb).1
   · exact absurd e (hn b hb).2
   refine⟨hg,fun W hW a ha=>?_⟩
   have h3:=(hop W hW).at (sub i o hi ho)
   rw[dp]at h3
   rcases h3 with⟨b,hb,e|e⟩|⟨_,h⟩
   · exact absurd e (hn b hb).1
   · exact absurd e (hn b hb).2
   exact h a ha
 intro f W hUp hblk hpw fuel' listed' a' hf' hu' ha' hsl'
 have key:∀i o d,i<k→opsL[i]?=some o→o.dst=some d→(phs.getD i (.eq undef)).holds (f d) W:=by
   intro i o d hik ho hd
   have ho':opsL.toArray[i]?=some o:=by simpa using ho
   have hmem:(d,phs.getD i (.eq undef))∈Hg opsL.toArray (fun i=>phs.getD i (.eq undef)) 0 k:=by
     unfold Hg
     rw[f5]
     exact⟨i,cn.2 hik,by rw[bh (by simp),ho'];simp[hd]⟩
   obtain⟨q',hq⟩:=Hv hmem
   obtain⟨j,p,_,hjk,hp,hpd,e⟩:=Fg hq
   have:j=i:=by
     by_cases ee:j=i
     · exact ee
     exact absurd hpd ((Da hD (a8 _) hik ho' hd).2 j p (a8 _) hjk ee hp)
   subst this
   have:=ha'.val d q' (K8 hq)
   rw[hsl',e]at this
   exact this
 refine E4 hTl hA (opsL.toArray.size-k) k fuel' listed' a' W rfl (by simp;omega) (bl _) hf' hu' (hend W f hUp hblk hpw key a' ⟨ha'.defers,ha'.size,fun t q ht=>?_⟩)
 rcases Dq ht with h|h
 · obtain⟨d,_,he⟩:=bx.1 (K7 h)
   cases he
   exact hsl' _
 refine ha'.val t q ?_
 rw[F8]
 · exact h
 cases hq:lk (Hg opsL.toArray (fun i=>phs.getD i (.eq undef)) 0 k) t with
 |none=>rfl
 |some q'=>
   obtain⟨j,p,_,hjk,hp,hpd,_⟩:=Fg hq
   exact absurd hpd (hbd t q h j p (a8 _) hjk hp)
end
end Go.Wx
