import Derived.Test.YtbcnnkfopoiifaaGreatDoorKR110
namespace Go.Wx
def NQ(p:UInt8×Bool):Array Go.Value:=#[bv p.1,.bool p.2]
theorem DM(z:Nat):T8 z≠[]:=by unfold T8 Rs;split<;>simp
theorem PEv.val{P:Program}{n:Nat}{ds:List Deferred}{l:Env}{w:World}{o:Oper}{v v':Go.Value}(h:PEv P n ds l w o v)(e:v=v'):PEv P n ds l w o v':=e▸h
theorem qQ{pre:List (UInt8×Bool)}{z zz:Nat}{b:Bool}(hb:b=true↔zz<128)(h:T8 z=pre++T8 zz)(hz:b=true):pre++[(UInt8.ofNat (zz%128),b)]=T8 z:=by
 have hz1:=hb.1 hz
 rw[h,Wz hz1,i6 hz1,hz]
theorem qR{pre:List (UInt8×Bool)}{z zz:Nat}{b:Bool}(hb:b=true↔zz<128)(h:T8 z=pre++T8 zz)(hz:b=false)(h64:zz<18446744073709551616):T8 z=(pre++[(UInt8.ofNat (zz%128),b)])++T8 (zz/128)∧zz/128<zz:=by
 have hz1:¬zz<128:=fun e=>by rw[hb.2 e]at hz;cases hz
 rw[h,jI hz1 h64,hz]
 exact⟨by simp,by omega⟩
theorem qS{zz:Nat}{b:Bool}(hb:b=decide ((zz:Int)<128)):b=true↔zz<128:=⟨fun h=>by have:=bj (hb.symm.trans h);omega,fun h=>hb.trans (a8 oQ)⟩
theorem qT{pre:List (UInt8×Bool)}{z zz:Nat}(h:T8 z=pre++T8 zz):pre.length<10:=by
 have h1:=Yu z
 have h2:=jy.2 (DM zz)
 rw[h,au]at h1
 omega
theorem xN{x:UInt8×Bool}(h:(!x.2)=true):aM x=x.1|||128:=ae (by simpa using h)
theorem qU{x:UInt8×Bool}(h:(!x.2)=false):aM x=x.1:=ak (by simpa using h)
def mM(n:Int):Int:=if Mm n then 0 else 10
theorem kD{n:Int}(h:Mm n):encI n=(T8 (Sq n)).map aM:=by rw[encI,ak h];rfl
theorem bC{n:Int}(h:¬Mm n):encI n=[]:=by rw[encI,ae h]
theorem Qh(t:List UInt8):(Yv t).length≤10+t.length:=by
 have:=Hs (t.length:Int)
 unfold Yv
 rw[au]
 omega
theorem Nz(t:ByteArray):t.data.toList.length=t.size:=dc
theorem D8(c:List UInt8):(⟨c.toArray⟩:ByteArray).size=c.length:=by simp[ByteArray.size]
theorem xO(k:Int):∀x∈Fo k,E6 x.off=true:=by
 intro x hx
 have h:∀l∈Uf,∀y∈l,E6 y.off=true:=by decide
 unfold Fo at hx
 rw[d8]at hx
 cases hl:Uf[k.toNat]? with
 |none=>rw[hl]at hx;simp at hx
 |some l=>rw[hl]at hx;exact h l (am hl) x (by simpa using hx)
theorem bD(k:Int):(Fo k).length≤16:=by
 have h:∀l∈Uf,l.length≤16:=by decide
 unfold Fo
 rw[d8]
 cases hl:Uf[k.toNat]? with
 |none=>simp
 |some l=>exact h l (am hl)
def Fe(fs:List Fld)(f:Fact):List Int:=fs.map fun x=>Fk f x.off
theorem Pe(fs:List Fld)(f:Fact):(Fe fs f).length=fs.length:=by simp[Fe]
theorem Sr{fs:List Fld}{f:Fact}{k:Nat}{x:Fld}(h:fs[k]?=some x):(Fe fs f).take (k+1)=(Fe fs f).take k++[Fk f x.off]:=C8 (by simp[Fe,h])
def J5(b:Bool):Int:=if b then 1 else 0
def Pf(f:Fact):List Int:=f.Kind::Fe (Fo f.Kind) f
def Bm(f:Fact):List UInt8:=if Bw f then Cc (Pf f)else[]
def K7(f:Fact):List Int:=[f.Kind,f.Version,f.Day,J5 f.Gone]++Fe (fieldsOf f.Kind) f
def Hb(f:Fact):List UInt8:=Cc (K7 f)++if Ey f.Kind then Yv f.Text.data.toList else[]
def Ib(f:Fact):List UInt8:=if Bw f then Hb f else[]
def Dz(a b:Fact):Bool:=Bw a&&Bw b&&(Bm a==Bm b)&&(decide (b.Version<a.Version)||(decide (a.Version=b.Version)&&decide (0<Go.Lib.compareBytes (Hb a) (Hb b))))
theorem Dq{f:Fact}(h:Bw f=true):1≤f.Kind∧f.Kind≤11:=by
 unfold Bw at h
 simp only[aw,fi]at h
 exact h.1
theorem Lg{f:Fact}(h:Bw f=true):preB f=false:=by
 unfold Bw at h
 simp only[aw]at h
 have:=h.2.1
 simp only[gn,df]at this
 exact this.1
theorem Hg{f:Fact}(h:Bw f=true):f.Text.size≤8192:=by
 have:=Lg h
 simp only[preB,df,f6]at this
 omega
theorem xP{f:Fact}(h:Bw f=true):Cc (Pf f)≠[]:=by
 have hk:=Dq h
 intro e
 unfold Pf Cc at e
 rw[du,jq]at e
 exact jK (by unfold Mm;omega) e.1
theorem kE{f:Fact}(h:Bw f=true):Hb f≠[]:=by
 have hk:=Dq h
 intro e
 unfold Hb K7 Cc at e
 rw[jq,fl,du,jq]at e
 exact jK (by unfold Mm;omega) e.1.1
theorem N1(a b:List Int):Cc (a++b)=Cc a++Cc b:=by simp[Cc]
theorem xQ(f:Fact):([]++Cc [f.Kind]).length+10*(Fo f.Kind).length≤10000:=by
 have h1:=bD f.Kind
 have h2:=Ex [f.Kind]
 rw[eo]
 simp only[b9,da]at h2
 omega
theorem xR(f:Fact):(Cc (Pf f)).length≤1000000000:=by
 have h1:=bD f.Kind
 have h2:=Ex (Pf f)
 have h3:(Pf f).length=1+(Fo f.Kind).length:=by simp[Pf,Fe];omega
 omega
theorem kF(b:ByteArray):∀(k i:Nat)(r:List UInt8),b.size-i=k→ByteArray.toList.loop b i r=r.reverse++b.data.toList.drop i
 |0,i,r,h=>by
   unfold ByteArray.toList.loop
   rw[ae oQ,fc (by rw[dc];have:b.data.size=b.size:=rfl;omega),dy]
 |k+1,i,r,h=>by
   unfold ByteArray.toList.loop
   have hi:i<b.size:=by omega
   rw[ak hi,kF b k (i+1) _ (by omega)]
   have hi':i<b.data.toList.length:=by rw[dc];exact hi
   rw[ce hi']
   have:b.get! i=b.data.toList[i]:=by
     rw[Array.getElem_toList]
     show b.data[i]! =_
     exact getElem!_pos b.data i hi
   rw[this];simp
theorem Fs(b:ByteArray):b.toList=b.data.toList:=by
 unfold ByteArray.toList
 rw[kF b b.size 0 [] rfl];simp
structure ElT{α:Type}(w:World)(ad:Option Addr)(T:TypeId)(k:Nat)(enc:α→Array Value)(xs:List α):Prop where
 els:Els w ad k enc xs
 ty:∀B o,ad=some ⟨B,o,none⟩→∃cs x,w.heap[B]?=some (Obj.cells cs T x)
theorem ElT.up{α:Type}{w w':World}{ad:Option Addr}{T:TypeId}{k:Nat}{enc:α→Array Value}{xs:List α}(h:ElT w ad T k enc xs)(u:Up w w'):ElT w' ad T k enc xs:=⟨Els.up h.els u,fun B o e=>let⟨cs,x,hc⟩:=h.ty B o e;⟨cs,x,(u.block (lt_of_block hc)).trans hc⟩⟩
theorem ElT.fr{α:Type}{S:Nat→Prop}{w w':World}{ad:Option Addr}{T:TypeId}{k:Nat}{enc:α→Array Value}{xs:List α}(h:ElT w ad T k enc xs)(f:Fr S w w')(hn:∀B cs x,w.heap[B]?=some (Obj.cells cs T x)→¬S B):ElT w' ad T k enc xs:=
 ⟨h.els.fr f (fun B o e=>let⟨cs,x,hc⟩:=h.ty B o e;hn B cs x hc),fun B o e=>let⟨cs,x,hc⟩:=h.ty B o e;⟨cs,x,(f.block _ (lt_of_block hc) (hn B cs x hc)).trans hc⟩⟩
theorem xS(f:Fact):([]++Cc [f.Kind,f.Version,f.Day,J5 f.Gone]).length+10*(fieldsOf f.Kind).length≤10000:=by
 have h1:=Pd f.Kind
 have h2:=Ex [f.Kind,f.Version,f.Day,J5 f.Gone]
 rw[eo]
 simp only[b9,da]at h2
 omega
theorem Y1(f:Fact):(Cc (K7 f)).length≤200:=by
 have h1:=Pd f.Kind
 have h2:=Ex (K7 f)
 have h3:(K7 f).length=4+(fieldsOf f.Kind).length:=by simp[K7,Fe];omega
 omega
theorem kG{f:Fact}(h:Bw f=true):(Hb f).length≤9000:=by
 have h1:=Y1 f
 have h2:=Hg h
 unfold Hb
 rw[au]
 split
 · have:=Qh f.Text.data.toList
   rw[Nz]at this
   omega
 simp;omega
theorem mN{f:Fact}(h:Ey f.Kind=true):Cc (K7 f)++Yv f.Text.data.toList=Hb f:=by rw[Hb,ak h]
theorem xU{f:Fact}(h:Ey f.Kind=false):Cc (K7 f)=Hb f:=by rw[Hb,ae (by rw[h];exact bi),dy]
def H0(f:Fact):Int:=if Bw f then 0 else 150
theorem Qi(a b:Fact):((⟨(Bm a).toArray⟩:ByteArray).toList==(⟨(Bm b).toArray⟩:ByteArray).toList)=(Bm a==Bm b):=by rw[Fs,Fs]
theorem Qj{a b:Fact}(h:(Bw a&&Bw b)=false):false=Dz a b:=by simp[Dz,h]
theorem qV{a b:Fact}(h:(!((⟨(Bm a).toArray⟩:ByteArray).toList==(⟨(Bm b).toArray⟩:ByteArray).toList))=true):false=Dz a b:=by
 rw[Qi]at h
 simp only[gn]at h
 simp[Dz,h]
theorem qW{a b:Fact}(ha:Bw a=true)(hb:Bw b=true)(h:(!((⟨(Bm a).toArray⟩:ByteArray).toList==(⟨(Bm b).toArray⟩:ByteArray).toList))=false)(hv:(!decide (a.Version=b.Version))=true):decide (b.Version<a.Version)=Dz a b:=by
 rw[Qi]at h
 simp only[iv]at h
 have hv:a.Version≠b.Version:=by simpa using hv
 simp[Dz,ha,hb,h,hv]
theorem qX{a b:Fact}(ha:Bw a=true)(hb:Bw b=true)(h:(!((⟨(Bm a).toArray⟩:ByteArray).toList==(⟨(Bm b).toArray⟩:ByteArray).toList))=false)(hv:(!decide (a.Version=b.Version))=false):decide (0<Go.Lib.compareBytes (Ib a) (Ib b))=Dz a b:=by
 rw[Qi]at h
 simp only[iv]at h
 have hv:a.Version=b.Version:=by simpa using hv
 simp only[Dz,ha,hb,h,hv,Ib,if_true,gp,decide_true,Bool.and_true,Int.lt_irrefl,decide_false,fo]
section
variable {α:Type}
def swp(xs:List α)(i j:Nat):List α:=match xs[i]?,xs[j]? with
 |some x,some y=>(xs.set i y).set j x
 |_,_=>xs
theorem Pg(xs:List α)(i j:Nat):(swp xs i j).length=xs.length:=by
 unfold swp
 split<;>simp
theorem Y2{xs:List α}{i j:Nat}{x y:α}(hi:xs[i]?=some x)(hj:xs[j]?=some y):swp xs i j=(xs.set i y).set j x:=by
 unfold swp;rw[hi,hj]
theorem swp_get{xs:List α}{i j:Nat}(hi:i<xs.length)(hj:j<xs.length)(q:Nat):(swp xs i j)[q]?=if q=j then xs[i]? else if q=i then xs[j]? else xs[q]?:=by
 rw[Y2 (b_ hi) (b_ hj),f7]
 by_cases h1:j=q
 · subst h1
   rw[ak rfl,ak (by simpa using hj),ak rfl,b_ hi]
 rw[ae h1,ae (Ne.symm h1),f7]
 by_cases h2:i=q
 · subst h2
   rw[ak rfl,ak hi,ak rfl,b_ hj]
 rw[ae h2,ae (Ne.symm h2)]
def Vz(xs:List α)(a b:Nat):Nat→List α
 |0=>xs
 |n+1=>swp (Vz xs a b n) (a+n) (b+n)
theorem Gr(xs:List α)(a b:Nat):∀n,(Vz xs a b n).length=xs.length
 |0=>rfl
 |n+1=>by rw[Vz,Pg,Gr xs a b n]
theorem N2{xs:List α}{a b:Nat}:∀{n:Nat},a+n≤b→b+n≤xs.length→∀q,(Vz xs a b n)[q]?=if a≤q∧q<a+n then xs[q-a+b]? else if b≤q∧q<b+n then xs[q-b+a]? else xs[q]?
 |0,_,_,q=>by rw[Vz,ae oQ,ae (by omega)]
 |n+1,h1,h2,q=>by
   rw[Vz,swp_get (by rw[Gr];omega) (by rw[Gr];omega)]
   rw[N2 (n:=n) oQ oQ (a+n),N2 (n:=n) oQ oQ (b+n),N2 (n:=n) oQ oQ q]
   by_cases c1:q=b+n
   · rw[ak c1,ae oQ,ae oQ,ae oQ,ak (by omega)]
     congr 1;omega
   rw[ae c1]
   by_cases c2:q=a+n
   · rw[ak c2,ae oQ,ae oQ,ak (by omega)]
     congr 1;omega
   rw[ae c2]
   by_cases c3:a≤q∧q<a+n
   · rw[ak c3,ak (by omega)]
   have e1:¬(a≤q∧q<a+(n+1)):=by omega
   rw[ae c3,ae e1]
   by_cases c4:b≤q∧q<b+n
   · rw[ak c4,ak (by omega)]
   have e2:¬(b≤q∧q<b+(n+1)):=by omega
   rw[ae c4,ae e2]
def Lb(xs:List α)(a m b:Nat):List α:=Fz xs a b (C9 xs m b++C9 xs a m)
theorem Y3{xs:List α}{a m b:Nat}(h1:a≤m)(h2:m≤b)(hb:b≤xs.length):(C9 xs m b++C9 xs a m).length=b-a:=by
 rw[au,Cn hb,Cn (by omega)];omega
theorem Gd{xs:List α}{a m b:Nat}(h1:a≤m)(h2:m≤b)(hb:b≤xs.length):(Lb xs a m b).length=xs.length:=Eh oQ hb (Y3 h1 h2 hb)
theorem Kp{xs:List α}{a m b:Nat}(h1:a≤m)(h2:m≤b)(hb:b≤xs.length)(q:Nat):(Lb xs a m b)[q]?=if q<a then xs[q]? else if q<a+(b-m)then xs[q-a+m]? else if q<b then xs[q-(b-m)]? else xs[q]?:=by
 unfold Lb
 rw[Gc oQ hb (Y3 h1 h2 hb)]
 by_cases c1:q<a
 · rw[ak c1,ak c1]
 rw[ae c1,ae c1]
 by_cases c2:q<a+(b-m)
 · rw[ak oQ,ak c2,fg (by rw[Cn hb];omega),Hd (by omega)]
   congr 1;omega
 rw[ae c2]
 by_cases c3:q<b
 · rw[ak c3,ak c3,d7 (by rw[Cn hb];omega),Cn hb,Hd (by omega)]
   congr 1;omega
 rw[ae c3,ae c3]
theorem xV{xs:List α}{m i j:Nat}(hi:i≤m)(hij:j<i)(hj:0<j)(hb:m+j≤xs.length):Lb (Vz xs (m-i) m j) (m-(i-j)) m (m+j)=Lb xs (m-i) m (m+j):=by
 apply ck
 intro q
 have hl:=Gr xs (m-i) m j
 rw[Kp oQ oQ (by rw[hl];exact hb),Kp oQ oQ hb]
 have g:∀q,(Vz xs (m-i) m j)[q]?=_:=fun q=>N2 oQ hb q
 rw[g,g,g]
 by_cases c1:q<m-i
 · rw[ak oQ,ae oQ,ae oQ,ak c1]
 by_cases c2:q<m-i+j
 · rw[ak oQ,ak oQ,ae c1,ak (by omega)]
 by_cases c3:q<m-(i-j)+j
 · rw[ae oQ,ak oQ,ae oQ,ak oQ,ae c1,ae oQ,ak (by omega)]
   congr 1;omega
 by_cases c4:q<m+j
 · rw[ae oQ,ae oQ,ak c4,ae oQ,ae oQ,ae c1,ae oQ,ak c4]
 rw[ae oQ,ae oQ,ae c4,ae oQ,ae oQ,ae c1,ae oQ,ae c4]
theorem mO{xs:List α}{m i j:Nat}(hi:i≤m)(hij:i<j)(h0:0<i)(hb:m+j≤xs.length):Lb (Vz xs (m-i) (m+j-i) i) (m-i) m (m+(j-i))=Lb xs (m-i) m (m+j):=by
 apply ck
 intro q
 have hl:=Gr xs (m-i) (m+j-i) i
 rw[Kp oQ oQ (by rw[hl];omega),Kp oQ oQ hb]
 have g:∀q,(Vz xs (m-i) (m+j-i) i)[q]?=_:=fun q=>N2 oQ oQ q
 rw[g,g,g]
 by_cases c1:q<m-i
 · rw[ak c1,ae oQ,ae oQ,ak c1]
 by_cases c2:q<m-i+(j-i)
 · rw[ae c1,ak oQ,ae oQ,ae oQ,ae c1,ak (by omega)]
 by_cases c3:q<m+(j-i)
 · rw[ae c1,ae oQ,ak c3,ak oQ,ae c1,ak (by omega)]
   congr 1;omega
 by_cases c4:q<m+j
 · rw[ae c1,ae oQ,ae c3,ae oQ,ak oQ,ae c1,ae oQ,ak c4]
   congr 1;omega
 rw[ae c1,ae oQ,ae c3,ae oQ,ae oQ,ae c1,ae oQ,ae c4]
theorem qY{xs:List α}{m i:Nat}(hi:i≤m)(hb:m+i≤xs.length):Vz xs (m-i) m i=Lb xs (m-i) m (m+i):=by
 apply ck
 intro q
 rw[Kp oQ oQ hb,N2 oQ hb]
 by_cases c1:q<m-i
 · rw[ae oQ,ae oQ,ak c1]
 by_cases c2:q<m
 · rw[ak oQ,ae c1,ak (by omega)]
 by_cases c3:q<m+i
 · rw[ae oQ,ak oQ,ae c1,ae oQ,ak c3]
   congr 1;omega
 rw[ae oQ,ae oQ,ae c1,ae oQ,ae c3]
theorem qZ{xs:List α}{m b:Nat}(h:m≤b)(hb:b≤xs.length):Lb xs m m b=xs:=by
 rw[Lb,G2 (a:=m) (b:=m) (av _),dy,Hx h hb]
theorem mP{xs:List α}{a m:Nat}(h:a≤m)(hb:m≤xs.length):Lb xs a m m=xs:=by
 rw[Lb,G2 (a:=m) (b:=m) (av _),eo,Hx h hb]
def Cs(A:List α)(x:α)(p:Nat):List α:=A.take p++x::A.drop p
theorem E1(A:List α)(x:α)(p:Nat):(Cs A x p).length=A.length+1:=by simp[Cs];omega
theorem Pj{A:List α}{x:α}{p:Nat}(h:p≤A.length):(Cs A x p)[p]?=some x:=by
 rw[Cs,d7 (by simp;omega)]
 have:p-(A.take p).length=0:=by simp;omega
 rw[this];rfl
theorem Jg{A:List α}{x:α}{p q:Nat}(h:p≤A.length)(hq:q<p):(Cs A x p)[q]?=A[q]?:=by
 rw[Cs,fg (by simp;omega),iu,ak hq]
theorem Jh{A:List α}{x:α}{p q:Nat}(h:p≤A.length)(hq:p<q):(Cs A x p)[q]?=A[q-1]?:=by
 rw[Cs,d7 (by simp;omega)]
 have e:q-(A.take p).length=(q-p-1)+1:=by simp;omega
 rw[e,gx,eh]
 congr 1;omega
theorem Uh{A:List α}{x:α}{p:Nat}(h:p<A.length):swp (Cs A x p) p (p+1)=Cs A x (p+1):=by
 have hl:=E1 A x p
 apply ck
 intro q
 rw[swp_get oQ (by omega)]
 by_cases c1:q=p+1
 · rw[ak c1,c1,Pj oQ,Pj (by omega)]
 rw[ae c1]
 by_cases c2:q=p
 · rw[ak c2,c2,Jh oQ oQ,Jg oQ (by omega)];simp
 rw[ae c2]
 by_cases c3:q<p
 · rw[Jg oQ c3,Jg oQ (by omega)]
 rw[Jh oQ oQ,Jh oQ (by omega)]
theorem rA{xs:List α}{i j:Nat}(hi:i<xs.length)(hj:j<xs.length)(hne:i≠j):swp xs i j=swp xs j i:=by
 apply ck
 intro q
 rw[swp_get hi hj,swp_get hj hi]
 by_cases c1:q=j
 · rw[ak c1,ae oQ,ak c1]
 rw[ae c1]
 by_cases c2:q=i
 · rw[ak c2,ak c2]
 rw[ae c2,ae c2,ae c1]
theorem kH{xs ys:List α}{a b i j:Nat}(h1:a≤b)(hb:b≤xs.length)(hy:ys.length=b-a)(hi:i<ys.length)(hj:j<ys.length):swp (Fz xs a b ys) (a+i) (a+j)=Fz xs a b (swp ys i j):=by
 have hl:=Eh h1 hb hy
 have hi':a+i<(Fz xs a b ys).length:=by omega
 have hj':a+j<(Fz xs a b ys).length:=by omega
 have e1:(Fz xs a b ys)[a+i]?=ys[i]?:=by rw[Gc h1 hb hy,ae oQ,ak (by omega)];congr 1;omega
 have e2:(Fz xs a b ys)[a+j]?=ys[j]?:=by rw[Gc h1 hb hy,ae oQ,ak (by omega)];congr 1;omega
 apply ck
 intro q
 rw[swp_get hi' hj' q,e1,e2,Gc h1 hb hy q,Gc h1 hb (by rw[Pg];exact hy) q,swp_get hi hj]
 by_cases c0:q<a
 · rw[ae oQ,ae oQ,ak c0,ak c0]
 rw[ae c0,ae c0]
 by_cases c1:q=a+j
 · have d1:q-a=j:=by omega
   rw[ak c1,ak (show q<b by omega),ak d1]
 have d1:¬q-a=j:=by omega
 rw[ae c1,ae d1]
 by_cases c2:q=a+i
 · have d2:q-a=i:=by omega
   rw[ak c2,ak (show q<b by omega),ak d2]
 have d2:¬q-a=i:=by omega
 rw[ae c2,ae d2]
theorem Xc(A:List α)(x:α):Cs A x A.length=A++[x]:=by simp[Cs]
theorem bE(A:List α)(x:α):Cs A x 0=x::A:=by simp[Cs]
theorem xW{xs:List α}{i j:Nat}(hi:i<xs.length)(hj:j<xs.length):swp (swp xs i j) i j=xs:=by
 have hl:=Pg xs i j
 apply ck
 intro q
 rw[swp_get (xs:=swp xs i j) oQ oQ q,swp_get hi hj i,swp_get hi hj j,swp_get hi hj q]
 by_cases c1:q=j
 · rw[ak c1,c1]
   by_cases c2:i=j
   · rw[ak c2,c2]
   rw[ae c2,ak rfl]
 rw[ae c1,ae c1]
 by_cases c2:q=i
 · rw[ak c2,ak rfl,c2]
 rw[ae c2,ae c2]
end
theorem bF{α:Type}{xs zs:List α}{a i:Nat}{x:α}(h1:a≤i)(hx:xs[i]?=some x)(hz:zs.length=i-a):Fz xs a (i+1) (zs++[x])=Fz xs a i zs:=by
 obtain⟨hi,e⟩:=ai.1 hx
 have hl:=Eh (ys:=zs) h1 (by omega:i≤xs.length) hz
 rw[←kA (m:=i) h1 oQ oQ hz (by simp)]
 have e2:[x]=C9 (Fz xs a i zs) i (i+1):=by
   rw[Fv h1 oQ hz (.inr (av _))]
   apply ck
   intro q
   by_cases h:i+q<i+1
   · have:q=0:=by omega
     subst this
     rw[Hd h,jp,hx];rfl
   rw[cw (by simp;omega),cw (by rw[Cn (by omega)];omega)]
 rw[e2,Hx oQ (by omega)]
theorem M4{α:Type}{xs:List α}{a i:Nat}{x:α}(h1:a≤i)(hx:xs[i]?=some x):C9 xs a (i+1)=C9 xs a i++[x]:=by
 obtain⟨hi,e⟩:=ai.1 hx
 rw[G1 h1 oQ (by omega)]
 congr 1
 apply ck
 intro q
 by_cases h:i+q<i+1
 · have:q=0:=by omega
   subst this
   rw[Hd h,jp,hx];rfl
 rw[cw (by rw[Cn (by omega)];omega),cw (by simp;omega)]
theorem bG{α:Type}{xs zs:List α}{a b p:Nat}{x:α}(h1:a≤b)(hb:b≤xs.length)(hz:zs.length+1=b-a)(hp:p≤zs.length):(Fz xs a b (Cs zs x p))[a+p]?=some x:=by
 rw[Gc h1 hb (by rw[E1];exact hz),ae oQ,ak (by omega)]
 have:a+p-a=p:=by omega
 rw[this,Pj hp]
theorem Pk{α:Type}{xs zs:List α}{a b p q:Nat}{x:α}(h1:a≤b)(hb:b≤xs.length)(hz:zs.length+1=b-a)(hp:p≤zs.length)(hq:q<p):(Fz xs a b (Cs zs x p))[a+q]?=zs[q]?:=by
 rw[Gc h1 hb (by rw[E1];exact hz),ae oQ,ak (by omega)]
 have:a+q-a=q:=by omega
 rw[this,Jg hp hq]
theorem Ui{α:Type}{xs zs:List α}{a b p q:Nat}{x:α}(h1:a≤b)(hb:b≤xs.length)(hz:zs.length+1=b-a)(hq:p<q)(hqz:q≤zs.length):(Fz xs a b (Cs zs x p))[a+q]?=zs[q-1]?:=by
 rw[Gc h1 hb (by rw[E1];exact hz),ae oQ,ak (by omega)]
 have:a+q-a=q:=by omega
 rw[this,Jh oQ hq]
theorem bH{α:Type}{xs zs:List α}{a b p:Nat}{x y:α}(h1:a≤b)(hb:b≤xs.length)(hz:zs.length+1=b-a)(hp:p<zs.length)(hy:zs[p]?=some y):((Fz xs a b (Cs zs x (p+1))).set (a+(p+1)) y).set (a+p) x=Fz xs a b (Cs zs x p):=by
 have hl:=E1 zs x (p+1)
 rw[←Y2 (bG (p:=p+1) h1 hb hz oQ) ((Pk (p:=p+1) h1 hb hz oQ (show p<p+1 by omega)).trans hy),kH h1 hb (by rw[hl];exact hz) oQ oQ,rA oQ oQ oQ,←Uh hp,xW (by rw[E1];omega) (by rw[E1];omega)]
theorem DN{α:Type}{xs zs:List α}{a b p:Nat}{x y:α}(h1:a≤b)(hb:b≤xs.length)(hz:zs.length+1=b-a)(hp:p<zs.length)(hy:zs[p]?=some y):((Fz xs a b (Cs zs x p)).set (a+p) y).set (a+(p+1)) x=Fz xs a b (Cs zs x (p+1)):=by
 have hl:=E1 zs x p
 rw[←Y2 (bG h1 hb hz oQ) ((Ui (q:=p+1) h1 hb hz (show p<p+1 by omega) oQ).trans hy),kH h1 hb (by rw[hl];exact hz) oQ oQ,Uh hp]
theorem StS.snoc{α:Type}{key:α→K2}{L zs:List α}{x:α}{p:Nat}(h:StS key L zs)(hp:p≤zs.length)(hgt:∀y∈zs.drop p,Gh (key x) (key y)=true)(hle:p=0∨∃y,zs[p-1]?=some y∧Gh (key x) (key y)=false):StS key (L++[x]) (Cs zs x p):=by
 have h1:StS key (zs++[x]) (Cs zs x p):=StS.put h.ord hgt (fun y hy=>by
   rcases hle with rfl|⟨z,hz,hzl⟩
   · simp at hy
   obtain⟨q,hq,rfl⟩:=fb.1 hy
   rw[j3]
   have hq':q<p:=by simp at hq;omega
   obtain⟨hz1,rfl⟩:=ai.1 hz
   rcases dq q (p-1)with h3|h3
   · exact Lf (fe.1 h.ord q (p-1) oQ hz1 h3) hzl
   have:q=p-1:=by omega
   subst this
   exact hzl)
 exact⟨h1.ord,(h.same.mC (sameF.refl [x])).trans h1.same⟩
theorem xX{α:Type}{key:α→K2}{l:List α}(h:l.length≤1):I0 key l:=by
 match l,h with
 |[],_=>exact List.Pairwise.nil
 |[x],_=>exact gv _ _
 |_::_::_,h=>simp at h
theorem mQ{α:Type}{zs:List α}{p:Nat}{y:α}{P:α→Prop}(hp:1≤p)(hy:zs[p-1]?=some y)(h:∀z∈zs.drop p,P z)(hP:P y):∀z∈zs.drop (p-1),P z:=by
 obtain⟨h1,rfl⟩:=ai.1 hy
 rw[ce h1,show p-1+1=p by omega]
 intro z hz
 rcases ap.1 hz with rfl|hz
 · exact hP
 exact h z hz
section
variable {α:Type}{key:α→K2}
theorem Kq{xs:List α}{a b c d:Nat}(h:I0 key (C9 xs a b))(h1:a≤c)(h2:d≤b):I0 key (C9 xs c d):=by
 have e:(xs.take d).drop c=((xs.take d).drop a).drop (c-a):=by rw[kt];congr 1;omega
 have p:xs.take d=(xs.take b).take d:=by rw[fq,cv h2]
 have q:((xs.take d).drop a).Sublist ((xs.take b).drop a):=by
   rw[p,List.drop_take]
   exact List.take_sublist _ _
 have r:(C9 xs c d).Sublist (C9 xs a b):=by
   unfold C9
   rw[e]
   exact(j6 _ _).trans q
 exact List.Pairwise.sublist r h
theorem Kr{xs:List α}{a b p q:Nat}{u v:α}(h:I0 key (C9 xs a b))(h1:a≤p)(h2:p≤q)(h3:q<b)(hu:xs[p]?=some u)(hv:xs[q]?=some v):Gh (key v) (key u)=false:=by
 rcases dq p q with hl|hl
 · have e1:(C9 xs a b)[p-a]?=some u:=by rw[Hd (by omega)];rw[show a+(p-a)=p by omega];exact hu
   have e2:(C9 xs a b)[q-a]?=some v:=by rw[Hd (by omega)];rw[show a+(q-a)=q by omega];exact hv
   obtain⟨i1,rfl⟩:=ai.1 e1
   obtain⟨i2,rfl⟩:=ai.1 e2
   exact fe.1 h _ _ i1 i2 oQ
 have:p=q:=by omega
 subst this
 rw[hu]at hv;cases hv
 exact L3 _
theorem Ks{xs:List α}{a b:Nat}{x:α}(hb:b≤xs.length)(h:x∈C9 xs a b):∃q,a≤q∧q<b∧xs[q]?=some x:=by
 obtain⟨i,e⟩:=fj.1 h
 have hi:=(ai.1 e).1
 rw[Cn hb]at hi
 rw[Hd (by omega)]at e
 exact⟨a+i,by omega,by omega,e⟩
theorem rB{xs:List α}{a mm b s e:Nat}(hA:I0 key (C9 xs a mm))(hB:I0 key (C9 xs mm b))(h2:s≤mm)(h3:mm≤e)(hb:b≤xs.length)
   (h:s≤a∨b≤e∨∃u v,xs[e]?=some u∧xs[s-1]?=some v∧Gh (key u) (key v)=false):∀x∈C9 xs a s,∀y∈C9 xs e b,Gh (key y) (key x)=false:=by
 intro x hx y hy
 rcases h with h|h|⟨u,v,hu,hv,hl⟩
 · rw[G2 h]at hx;simp at hx
 · rw[G2 h]at hy;simp at hy
 obtain⟨p,p1,p2,hp⟩:=Ks (by have:=(ai.1 hv).1;omega) hx
 obtain⟨q,q1,q2,hq⟩:=Ks hb hy
 have a1:=Kr hA p1 (show p≤s-1 by omega) oQ hp hv
 have a2:=Kr hB (show mm≤e by omega) q1 q2 hu hq
 exact Lf (Lf a1 hl) a2
theorem rC{xs:List α}{a mm b s e:Nat}(hA:I0 key (C9 xs a mm))(hB:I0 key (C9 xs mm b))(h1:a≤s)(h4:e≤b)(hb:b≤xs.length)(hmb:mm≤b)
   (h:mm≤s∨e≤mm∨∃u v,xs[e-1]?=some u∧xs[s]?=some v∧Gh (key u) (key v)=true):∀v∈C9 xs mm e,∀u∈C9 xs s mm,Gh (key v) (key u)=true:=by
 intro x hx y hy
 rcases h with h|h|⟨u,v,hu,hv,hl⟩
 · rw[G2 h]at hy;simp at hy
 · rw[G2 h]at hx;simp at hx
 obtain⟨p,p1,p2,hp⟩:=Ks oQ hx
 obtain⟨q,q1,q2,hq⟩:=Ks oQ hy
 have a1:=Kr hB p1 (show p≤e-1 by omega) oQ hp hu
 have a2:=Kr hA h1 q1 q2 hv hq
 exact Yx (jX a1 hl) a2
theorem bI{xs:List α}{s mm e:Nat}(h1:s≤mm)(h2:mm≤e)(hb:e≤xs.length):C9 (Lb xs s mm e) s (s+(e-mm))=C9 xs mm e:=by
 have hl:=Gd h1 h2 hb
 apply ck
 intro i
 by_cases h:i<e-mm
 · rw[Hd oQ,Hd oQ,Kp h1 h2 hb,ae oQ,ak (by omega)]
   congr 1;omega
 rw[cw (by rw[Cn (by omega)];omega),cw (by rw[Cn hb];omega)]
theorem bJ{xs:List α}{s mm e:Nat}(h1:s≤mm)(h2:mm≤e)(hb:e≤xs.length):C9 (Lb xs s mm e) (s+(e-mm)) e=C9 xs s mm:=by
 have hl:=Gd h1 h2 hb
 apply ck
 intro i
 by_cases h:i<mm-s
 · rw[Hd oQ,Hd oQ,Kp h1 h2 hb,ae oQ,ae oQ,ak (by omega)]
   congr 1;omega
 rw[cw (by rw[Cn (by omega)];omega),cw (by rw[Cn (by omega)];omega)]
theorem Ti{xs:List α}{s mm e c d:Nat}(h1:s≤mm)(h2:mm≤e)(hb:e≤xs.length)(h:d≤s∨e≤c):C9 (Lb xs s mm e) c d=C9 xs c d:=Fv oQ hb (Y3 h1 h2 hb) h
theorem xY{xs zs:List α}{a b s mm e:Nat}(h0:a≤s)(h1:s≤mm)(h2:mm≤e)(h3:e≤b)(hb:b≤xs.length)(hz:zs.length=b-a):Fz (Lb xs s mm e) a b zs=Fz xs a b zs:=by
 have hl:=Gd h1 h2 (by omega:e≤xs.length)
 apply ck
 intro q
 rw[Gc oQ oQ hz,Gc oQ hb hz,Kp h1 h2 (by omega)]
 by_cases c1:q<a
 · rw[ak c1,ak c1,ak (by omega)]
 rw[ae c1,ae c1]
 by_cases c2:q<b
 · rw[ak c2,ak c2]
 rw[ae c2,ae c2,ae oQ,ae oQ,ae (by omega)]
theorem bK{xs:List α}{a s mm e mid:Nat}(h0:a≤s)(h1:s≤mm)(h2:mm≤e)(hb:e≤xs.length)(hm:mid=s+(e-mm)):C9 (Lb xs s mm e) a mid=C9 xs a s++C9 xs mm e:=by
 subst hm
 rw[G1 (m:=s) h0 oQ (by rw[Gd h1 h2 hb];omega),Ti h1 h2 hb (.inl (av _)),bI h1 h2 hb]
theorem Xd{xs:List α}{s mm e b mid:Nat}(h1:s≤mm)(h2:mm≤e)(h3:e≤b)(hb:b≤xs.length)(hm:mid=s+(e-mm)):C9 (Lb xs s mm e) mid b=C9 xs s mm++C9 xs e b:=by
 subst hm
 rw[G1 (m:=e) oQ h3 (by rw[Gd h1 h2 (by omega)];omega),Ti h1 h2 oQ (.inr (av _)),bJ h1 h2 (by omega)]
theorem bL{xs X Y:List α}{a mm b s e mid:Nat}(h0:a≤s)(h1:s≤mm)(h2:mm≤e)(h3:e≤b)(hb:b≤xs.length)(hm:mid=s+(e-mm))(hA:I0 key (C9 xs a mm))(hB:I0 key (C9 xs mm b))
   (k1:∀x∈C9 xs a s,∀y∈C9 xs e b,Gh (key y) (key x)=false)(k2:∀v∈C9 xs mm e,∀u∈C9 xs s mm,Gh (key v) (key u)=true)
   (hX:StS key (C9 (Lb xs s mm e) a mid) X)(hY:StS key (C9 (Fz (Lb xs s mm e) a mid X) mid b) Y):StS key (C9 xs a b) (X++Y)∧Fz (Fz (Lb xs s mm e) a mid X) mid b Y=Fz xs a b (X++Y):=by
 have hl:=Gd h1 h2 (by omega:e≤xs.length)
 have hXl:X.length=mid-a:=by rw[hX.same.length,Cn (by omega)]
 rw[Fv oQ oQ hXl (.inr (av _))]at hY
 have hYl:Y.length=b-mid:=by rw[hY.same.length,Cn (by omega)]
 rw[bK h0 h1 h2 oQ hm]at hX
 rw[Xd h1 h2 h3 hb hm]at hY
 have eA:C9 xs a s++C9 xs s mm=C9 xs a mm:=(G1 h0 h1 oQ).symm
 have eB:C9 xs mm e++C9 xs e b=C9 xs mm b:=(G1 h2 h3 hb).symm
 refine⟨?_,?_⟩
 · have:=fM (by rw[eA];exact hA) (by rw[eB];exact hB) k1 k2 hX hY
   rw[eA,eB,←G1 oQ oQ hb]at this
   exact this
 rw[kA oQ oQ oQ hXl hYl,xY h0 h1 h2 h3 hb (by rw[au];omega)]
theorem xZ{xs:List α}{a b i:Nat}{x:α}(hb:b≤xs.length)(hx:xs[a]?=some x)(hab:a+1≤i)(hib:i≤b)(hB:I0 key (C9 xs (a+1) b))(hL:∀q y,a+1≤q→q<i→xs[q]?=some y→Gh (key y) (key x)=true)(hR:∀q y,i≤q→q<b→xs[q]?=some y→Gh (key y) (key x)=false):
   StS key (C9 xs a b) (Cs (C9 xs (a+1) b) x (i-(a+1))):=by
 have e:C9 xs a b=x::C9 xs (a+1) b:=by
   rw[G1 (m:=a+1) oQ oQ hb,M4 (av a) hx,G2 (av a)];rfl
 have t:(C9 xs (a+1) b).take (i-(a+1))=C9 xs (a+1) i:=by
   unfold C9
   rw[List.take_drop,fq,show a+1+(i-(a+1))=i by omega,cv hib]
 have d:(C9 xs (a+1) b).drop (i-(a+1))=C9 xs i b:=by
   unfold C9
   rw[kt,show a+1+(i-(a+1))=i by omega]
 rw[e]
 refine qJ hB (fun y hy=>?_) (fun y hy=>?_)
 · rw[t]at hy
   obtain⟨q,q1,q2,hq⟩:=Ks oQ hy
   exact hL q y q1 q2 hq
 rw[d]at hy
 obtain⟨q,q1,q2,hq⟩:=Ks hb hy
 exact hR q y q1 q2 hq
theorem rD{xs:List α}{a m i:Nat}{x:α}(hx:xs[m]?=some x)(h1:a≤i)(h2:i≤m)(hA:I0 key (C9 xs a m))(hL:∀q y,a≤q→q<i→xs[q]?=some y→Gh (key x) (key y)=false)(hR:∀q y,i≤q→q<m→xs[q]?=some y→Gh (key x) (key y)=true):
   StS key (C9 xs a (m+1)) (Cs (C9 xs a m) x (i-a)):=by
 have hm:=(ai.1 hx).1
 have t:(C9 xs a m).take (i-a)=C9 xs a i:=by
   unfold C9
   rw[List.take_drop,fq,show a+(i-a)=i by omega,cv h2]
 have d:(C9 xs a m).drop (i-a)=C9 xs i m:=by
   unfold C9
   rw[kt,show a+(i-a)=i by omega]
 rw[M4 oQ hx]
 refine StS.put hA (fun y hy=>?_) (fun y hy=>?_)
 · rw[d]at hy
   obtain⟨q,q1,q2,hq⟩:=Ks oQ hy
   exact hR q y q1 q2 hq
 rw[t]at hy
 obtain⟨q,q1,q2,hq⟩:=Ks oQ hy
 exact hL q y q1 q2 hq
theorem rE{xs:List α}{s mm e:Nat}(h:¬(s<mm∧mm<e))(h1:s≤mm)(h2:mm≤e)(hb:e≤xs.length):Lb xs s mm e=xs:=by
 rcases dq s mm with h3|h3
 · have:e=mm:=by omega
   subst this
   exact mP h1 hb
 have:s=mm:=by omega
 subst this
 exact qZ h2 hb
theorem mR{xs:List α}{a mm b s e mid:Nat}(hA:I0 key (C9 xs a mm))(hB:I0 key (C9 xs mm b))(h0:a≤s)(h1:s≤mm)(h2:mm≤e)(h3:e≤b)(hb:b≤xs.length)(hm:mid=s+(e-mm))(h:¬(a<s∧s<mid)):I0 key (C9 (Lb xs s mm e) a mid):=by
 rw[bK h0 h1 h2 oQ hm]
 rcases dq a s with h4|h4
 · rw[G2 (show e≤mm by omega),dy]
   exact Kq hA (av _) h1
 rw[G2 h4,eo]
 exact Kq hB (av _) h3
theorem mS{xs X:List α}{a mm b s e mid:Nat}(hA:I0 key (C9 xs a mm))(hB:I0 key (C9 xs mm b))(h0:a≤s)(h1:s≤mm)(h2:mm≤e)(h3:e≤b)(hb:b≤xs.length)(hm:mid=s+(e-mm))(hX:X.length=mid-a)(h:¬(mid<e∧e<b)):I0 key (C9 (Fz (Lb xs s mm e) a mid X) mid b):=by
 have hl:=Gd h1 h2 (by omega:e≤xs.length)
 rw[Fv oQ oQ hX (.inr (av _)),Xd h1 h2 h3 hb hm]
 rcases dq mid e with h4|h4
 · rw[G2 (show b≤e by omega),dy]
   exact Kq hA h0 (av _)
 rw[G2 (show mm≤s by omega),eo]
 exact Kq hB h2 (av _)
theorem kJ{xs:List α}{a mm b s e mid:Nat}(hA:I0 key (C9 xs a mm))(hB:I0 key (C9 xs mm b))(h1:s≤mm)(h2:mm≤e)(h3:e≤b)(hb:b≤xs.length)(hm:mid=s+(e-mm)):I0 key (C9 (Lb xs s mm e) a s)∧I0 key (C9 (Lb xs s mm e) s mid):=by
 subst hm
 rw[Ti h1 h2 oQ (.inl (av _)),bI h1 h2 (by omega)]
 exact⟨Kq hA (av _) h1,Kq hB (av _) h3⟩
theorem kK{xs X:List α}{a mm b s e mid:Nat}(hA:I0 key (C9 xs a mm))(hB:I0 key (C9 xs mm b))(h0:a≤s)(h1:s≤mm)(h2:mm≤e)(h3:e≤b)(hb:b≤xs.length)(hm:mid=s+(e-mm))(hX:X.length=mid-a):I0 key (C9 (Fz (Lb xs s mm e) a mid X) mid e)∧I0 key (C9 (Fz (Lb xs s mm e) a mid X) e b):=by
 have hl:=Gd h1 h2 (by omega:e≤xs.length)
 rw[Fv oQ oQ hX (.inr (av _)),Fv oQ oQ hX (.inr oQ),Ti h1 h2 oQ (.inr (av _))]
 subst hm
 rw[bJ h1 h2 (by omega)]
 exact⟨Kq hA h0 (av _),Kq hB h2 (av _)⟩
def Bks(key:α→K2)(ys:List α)(B:Nat):Prop:=∀i,I0 key (C9 ys (B*i) (min (B*i+B) ys.length))
def Ins(key:α→K2)(ys:List α)(B a:Nat):Prop:=(∃q,a=B*q)∧∀i,B*(i+1)≤a→I0 key (C9 ys (B*i) (B*i+B))
def Mrg(key:α→K2)(ys:List α)(B a:Nat):Prop:=Ins key ys (2*B) a∧∀i,a≤B*i→I0 key (C9 ys (B*i) (min (B*i+B) ys.length))
theorem Ins.zero(ys:List α)(B:Nat)(hB:0<B):Ins key ys B 0:=⟨⟨0,rfl⟩,fun i h=>by
 rw[iw,ig]at h
 omega⟩
theorem Ins.step{ys zs:List α}{B a:Nat}(hB:0<B)(h:Ins key ys B a)(hb:a+B≤ys.length)(hz:StS key (C9 ys a (a+B)) zs):Ins key (Fz ys a (a+B) zs) B (a+B):=by
 obtain⟨⟨q,rfl⟩,hs⟩:=h
 have hzl:zs.length=B*q+B-B*q:=by rw[hz.same.length,Cn hb]
 refine⟨⟨q+1,by rw[iw,ig]⟩,fun i hi=>?_⟩
 have hle:i≤q:=by
   have:B*(i+1)≤B*(q+1):=by rw[iw B q 1,ig];exact hi
   have:=Nat.le_of_mul_le_mul_left this hB
   omega
 rcases dq i q with h|h
 · have h1:B*(i+1)≤B*q:=jx B h
   rw[Fv oQ hb hzl (.inl (by rw[iw,ig]at h1;exact h1))]
   exact hs i h1
 have:i=q:=by omega
 subst this
 rw[jZ oQ hb hzl]
 exact hz.ord
theorem Ins.last{ys zs:List α}{B a:Nat}(h:Ins key ys B a)(ha:a≤ys.length)(hb:ys.length<a+B)(hz:StS key (C9 ys a ys.length) zs):Bks key (Fz ys a ys.length zs) B:=by
 obtain⟨⟨q,rfl⟩,hs⟩:=h
 have hzl:zs.length=ys.length-B*q:=by rw[hz.same.length,Cn (av _)]
 have hl:=Eh ha (av _) hzl
 intro i
 rw[hl]
 rcases jk i q with h|h|h
 · have h1:B*(i+1)≤B*q:=jx B h
   have h2:B*i+B≤B*q:=by rw[iw,ig]at h1;exact h1
   rw[cv oQ,Fv ha (av _) hzl (.inl h2)]
   exact hs i h1
 · subst h
   rw[gc oQ,jZ ha (av _) hzl]
   exact hz.ord
 have h1:B*(q+1)≤B*i:=jx B h
 rw[iw,ig]at h1
 rw[G2 (by omega)]
 exact List.Pairwise.nil
theorem Mrg.start{ys:List α}{B:Nat}(hB:0<B)(h:Bks key ys B):Mrg key ys B 0:=⟨Ins.zero ys (2*B) oQ,fun i _=>h i⟩
theorem Mrg.pre{ys:List α}{B a:Nat}(h:Mrg key ys B a)(hb:2*B+a≤ys.length):I0 key (C9 ys a (a+B))∧I0 key (C9 ys (a+B) (2*B+a)):=by
 obtain⟨⟨⟨q,hq⟩,_⟩,hs⟩:=h
 have e1:a=B*(2*q):=by rw[hq,i0 2 B,Nat.mul_assoc]
 have e2:a+B=B*(2*q+1):=by rw[iw,ig,←e1]
 have h1:=hs (2*q) oQ
 have h2:=hs (2*q+1) oQ
 rw[←e1,cv (by omega)]at h1
 rw[←e2,cv oQ,show a+B+B=2*B+a by omega]at h2
 exact⟨h1,h2⟩
theorem Mrg.step{ys zs:List α}{B a:Nat}(hB:0<B)(h:Mrg key ys B a)(hb:2*B+a≤ys.length)(hz:StS key (C9 ys a (2*B+a)) zs):Mrg key (Fz ys a (2*B+a) zs) B (2*B+a):=by
 have e:2*B+a=a+2*B:=by omega
 rw[e]at hb hz⊢
 have hzl:zs.length=a+2*B-a:=by rw[hz.same.length,Cn hb]
 refine⟨h.1.step oQ hb hz,fun i hi=>?_⟩
 rw[Eh oQ hb hzl,Fv oQ hb hzl (.inr hi)]
 exact h.2 i oQ
theorem Mrg.KF{ys:List α}{B a:Nat}(h:Mrg key ys B a)(h1:a+B<ys.length)(hb:ys.length<2*B+a):I0 key (C9 ys a (a+B))∧I0 key (C9 ys (a+B) ys.length):=by
 obtain⟨⟨⟨q,hq⟩,_⟩,hs⟩:=h
 have e1:a=B*(2*q):=by rw[hq,i0 2 B,Nat.mul_assoc]
 have e2:a+B=B*(2*q+1):=by rw[iw,ig,←e1]
 have k1:=hs (2*q) oQ
 have k2:=hs (2*q+1) oQ
 rw[←e1,cv (by omega)]at k1
 rw[←e2,gc (by omega)]at k2
 exact⟨k1,k2⟩
theorem Mrg.last{ys zs:List α}{B a:Nat}(h:Mrg key ys B a)(ha:a≤ys.length)(hb:ys.length<2*B+a)(hz:StS key (C9 ys a ys.length) zs):Bks key (Fz ys a ys.length zs) (2*B):=h.1.last ha oQ hz
theorem Mrg.done{ys:List α}{B a:Nat}(h:Mrg key ys B a)(ha:a≤ys.length)(hb:ys.length<2*B+a)(h1:¬a+B<ys.length):Bks key ys (2*B):=by
 have hs:I0 key (C9 ys a ys.length):=by
   obtain⟨⟨⟨q,hq⟩,_⟩,hs⟩:=h
   have e1:a=B*(2*q):=by rw[hq,i0 2 B,Nat.mul_assoc]
   have k1:=hs (2*q) oQ
   rw[←e1,gc (by omega)]at k1
   exact k1
 have:=h.last ha hb (StS.refl hs)
 rwa [Hx ha (av _)]at this
theorem Bks.all{xs ys:List α}{B:Nat}(h:Bks key ys B)(hB:ys.length≤B)(hs:sameF key xs ys):StS key xs ys:=by
 have:=h 0
 rw[Nat.mul_zero,dp,gc hB,xI]at this
 exact⟨this,hs⟩
theorem sameF.step{xs ys zs:List α}{a b:Nat}(h:sameF key xs ys)(h1:a≤b)(hb:b≤ys.length)(hz:StS key (C9 ys a b) zs):sameF key xs (Wx.Fz ys a b zs):=h.trans (sameF.Fz h1 hb hz.same)
def Y4(key:α→K2)(x:α):List α→List α
 |[]=>[x]
 |y::l=>if Gh (key x) (key y)=true then x::y::l else y::Y4 key x l
def Hl(key:α→K2)(l:List α):List α:=l.foldl (fun acc x=>Y4 key x acc) []
theorem Qk(x:α):∀(l:List α),I0 key l→∃p,Y4 key x l=Cs l x p∧p≤l.length∧(∀y∈l.drop p,Gh (key x) (key y)=true)∧(p=0∨∃y,l[p-1]?=some y∧Gh (key x) (key y)=false)
 |[],_=>⟨0,rfl,av _,by simp,.inl rfl⟩
 |y::l,h=>by
   unfold Y4
   split
   · rename_i hlt
     refine⟨0,by simp[Cs],ao _,fun z hz=>?_,.inl rfl⟩
     rcases ap.1 (by simpa using hz:z∈y::l)with rfl|hz
     · exact hlt
     exact Yx hlt ((d6.1 h).1 z hz)
   rename_i hlt
   obtain⟨p,e,hp,h1,h2⟩:=Qk x l (d6.1 h).2
   refine⟨p+1,by rw[e];rfl,by simpa using hp,by simpa using h1,.inr ?_⟩
   rcases h2 with rfl|⟨z,hz,hl⟩
   · exact⟨y,rfl,by simpa using hlt⟩
   refine⟨z,?_,hl⟩
   have:0<p:=by
     rcases Nat.eq_zero_or_pos p with rfl|h
     · rw[Nat.zero_sub]at hz
       cases l with
       |nil=>simp at hz
       |cons w l=>
         exfalso
         simp at hz;subst hz
         have:=h1 w (by simp)
         rw[hl]at this;cases this
     exact h
   rw[show p+1-1=(p-1)+1 by omega,gx]
   exact hz
theorem El(l:List α):StS key l (Hl key l):=by
 suffices h:∀(r done acc:List α),StS key done acc→StS key (done++r) (r.foldl (fun acc x=>Y4 key x acc) acc)by
   have:=h l [] [] ⟨List.Pairwise.nil,fun _=>rfl⟩
   simpa[Hl]using this
 intro r
 induction r with
 |nil=>intro done acc h;simpa using h
 |cons x r ih=>
   intro done acc h
   obtain⟨p,e,hp,h1,h2⟩:=Qk (key:=key) x acc h.ord
   have:=ih (done++[x]) (Y4 key x acc) (by rw[e];exact h.snoc hp h1 h2)
   simpa using this
theorem StS.eq{l s:List α}(h:StS key l s):s=Hl key l:=h.unique (El l)
end
end Go.Wx
namespace Go.Proofs.YtbcnnkfopoiifaaGreatDoor
open Go.Proofs.Tryz
open Go.Wx Go.RowKit
theorem fS(z:Nat)(w:World):Ret prog 166 #[vu z] w fun r w'=>(∃B,r=.func (.func 207) #[] #[.pointer (some ⟨B,0,none⟩)]∧Blk w' B #[vu z] 184∧w.heap.size≤B)∧Up w w':=by
 have hW:=Up.refl w
 refine cT 4 func166 rfl (Af (Ao (.Ro (.t rfl) rfl) rfl ?_))
 rintro _ w1 ⟨B1,rfl,NB1⟩
 have eB1:=NB1.at_
 replace hW:=hW.up NB1.up
 have hB1:=NB1.blk
 refine J (Ar (Aa (I (.makeFunc (.cu rfl)) (LW.A rfl (Ai (Aj (KW.q ?_)))))))
 exact⟨⟨_,rfl,hB1,by omega⟩,hW⟩
theorem bM(B1 z:Nat)(w:World)(hz:z<18446744073709551616)(hB:Blk w B1 #[vu z] 184):BW prog 207 #[.pointer (some ⟨B1,0,none⟩)] NQ (fun b=>b=B1) (fun ys=>ys=T8 z) 10 w:=by
 intro lp J w0 hUw hJZ hY hJ
 have hB1:=hB.up hUw
 refine cT 18 func207 rfl (Ap (CW.loop (σ:=List (UInt8×Bool)×Nat) (fun s w=>T8 z=s.1++T8 s.2∧s.2<18446744073709551616∧J s.1 w∧Blk w B1 #[vu s.2] 184) (fun s=>[(0,.eq (.func (.yield lp) #[] #[])),(1,.eq (.pointer (some ⟨B1,0,none⟩)))]) (fun s=>s.2) ([],z) ?_ ?_ ?_))
 ·exact⟨rfl,hz,hJ,hB1⟩
 ·exact tQ
 rintro⟨pre,zz⟩ w1 ⟨hg,h64,hJ,hB1⟩
 obtain⟨lb,hlb⟩:∃b,b=decide ((zz:Int)<128):=⟨_,rfl⟩
 refine Ap (Af (I (.lb rfl ((hB1).An rfl)) (I (.val (v':=.bool lb) (PEv.lss (.t rfl) (.const _)) (a_ Go.Value.bool hlb.symm)) (LW.A rfl (Ar (Af (Ac rfl (I (.lb rfl ((hB1).An rfl)) (I (.val (v':=vu (zz%128)) (lU (.t rfl) (.const _)) (a_ (Go.Value.int .u64) (CY h64))) (I (.val (v':=bv (UInt8.ofNat (zz%128))) (PEv.conv (k':=.u8) (by rw[lz];rfl) nb (.t rfl)) (jL (z:=zz%128))) (Ac rfl ?_)))))))))))
 have hY2:=hY pre (UInt8.ofNat (zz%128),lb) _ hJ (qT hg)
 refine LW.y (vs:=[bv (UInt8.ofNat (zz%128)),.bool lb]) (.t rfl) (.ct rfl (.cu rfl)) rfl rfl hY2 ?_
 rintro _ w2 ⟨rfl,hJ2,hkp⟩
 replace hB1:Blk w2 B1 _ _:=(hkp B1 rfl).trans hB1
 refine I (.n1 rfl) (Ac rfl (Dk rfl rfl (I (.po rfl (fun hp=>(by exact .cond rfl (by simp_all)))) (Ai (CW.b rfl (fun h15=>?_) (fun h15=>?_))))))
 ·refine Aj (Ah (Aw (Ah (Aw (Nr rfl ⟨_,rfl,?_⟩)))))
  exact⟨_,qQ (qS hlb) hg (by simpa using h15),hJ2⟩
 refine Ak (Ab (Aa (I (.lb rfl ((hB1).An rfl)) (I (.val (v':=vu (zz/128)) (PEv.Ww (j:=7) (.t rfl) (.const _)) (a_ (Go.Value.int .u64) (NO (z:=zz)))) (Bh (.store sizeOf184 (.t rfl) (.t rfl) rfl hB1 bQ) ?_)))))
 intro w3 Nw3
 replace hB1:=Nw3.blk
 replace hB1:Blk w3 B1 #[vu (zz/128)] _:=hB1
 refine LW.nil (Ae (Aq ?_))
 have hnx:=qR (qS hlb) hg (by simpa using h15) h64
 exact⟨(_,zz/128),⟨hnx.1,by dsimp only;omega,hJZ _ _ _ hJ2 Nw3.sto.fr,hB1⟩,tQ,hnx.2⟩
theorem Uj(n:Int)(w:World):Ret prog 97 #[vi n] w fun r w'=>r=.tuple #[.string ⟨(encI n).toArray⟩,vi (mM n)]∧Up w w':=by
 have hW:=Up.refl w
 obtain⟨w0,rfl,_⟩:=W0 w
 refine Ly (n:=33) func97 rfl rfl rfl (Af (J (J (Ar (Al ?_)))))
 cases hq1:decide (Mm n)with
 |true=>
  have hin:=bj hq1
  obtain⟨hin1,hin2⟩:=hin
  have hin:Mm n:=⟨hin1,hin2⟩
  refine Aa (Ac rfl (I (.fa (PEv.lss (.t rfl) (.const _)) (bg oQ)) (Ac rfl (Cq (Ac rfl (Cq (I (.fa (PEv.gtr (.t rfl) (.const _)) (bg oQ)) (I (.po rfl (fun hp=>(by exact .tmp rfl))) (Ai (CW.f rfl (Ak (Ab (Af (Ao (.Tv zeroValue109 rfl) rfl ?_))))))))))))))
  rintro _ w1 ⟨B4,rfl,NB4⟩
  have eB4:=NB4.at_
  have zB4:=NB4.size
  replace hW:=hW.up NB4.up
  have hB4:=NB4.blk
  refine Ar (Af (Ac rfl (I (.conv (k':=.u64) (by rw[lh];rfl) lz (.t rfl)) (I (.JS (j:=1) (.t rfl) (.const _)) (Ac rfl (I (.Ww (j:=63) (.t rfl) (.const _)) (I (.conv (k':=.u64) (by rw[lh];rfl) lz (.t rfl)) (I (.val (v':=vu (Sq n)) (lV (.t rfl) (.t rfl)) (a_ (Go.Value.int .u64) (qA hin))) (A3 (eC (.o rfl) (IH)) rfl (fS _ _) ?_)))))))))
  rintro _ w2 ⟨⟨B1,rfl,hBz,zz1⟩,uw2⟩
  have zw2:=uw2.size
  replace hW:=hW.up uw2
  replace hB4:=hB4.up uw2
  refine Ai (Ap ?_)
  obtain⟨bq,hbq⟩:∃bq,bq=w2.heap.size:=⟨_,rfl⟩
  have zBz:=hBz.lt
  refine Wc (fun b=>b=B1) (fun pre W=>Sz bq W∧∃v,Blk W B4 #[v] 109∧OwnS W bq 5 1 Px v (pre.map aM)∧Up w0 W) (fun x=>[(5,.eq (bv x.1)),(6,.eq (.bool x.2)),(4,.eq (.pointer (some ⟨B4,0,none⟩)))]) (.t rfl) (fun args w=>JA args w) (fun W hu=>bM B1 (Sq n) W (Yt hin.1 hin.2) (hBz.up hu)) (fun _=>rfl) rfl ?_ ?_ ?_ ?_ ?_ (fun _=>rfl) ?_ ?_
  ·rintro b rfl
   omega
  ·rw[←hbq]
   intro pre W W' row hs hg hr
   obtain⟨hZ,v,hB4,hO,hW⟩:=hs
   exact⟨hZ.ko (Ko.grown hg hr),v,hB4.ko (Ko.grown hg hr),hO.ko (Ko.grown hg hr),hW.ko (Ko.grown hg hr) oQ⟩
  ·intro pre W W' hs hf
   obtain⟨hZ,v,hB4,hO,hW⟩:=hs
   exact⟨hZ.Xb hf,v,hB4.Xb hf oQ,hO.Xb hf (fun b e=>by subst e;omega),hW.Xb hf (fun b e=>by subst e;omega)⟩
  ·exact⟨jb hbq,_,hB4,OwnS.nil _ _ _ _ _,hW⟩
  ·intro lp x w3
   refine fR rfl rfl (Af (LW.A rfl (Ai (Aa (LW.A rfl (LW.nil ?_))))))
   exact fun a ha=>⟨rfl,ha.sub tQ⟩
  ·rw[←hbq]
   intro lp pre x w4 hs hlt
   obtain⟨hZ,v,hB4,hO,hW⟩:=hs
   have zq:=hZ.le
   have hK:=Kf.refl bq w4
   have hI1:=Zk.refl (B:=B1) (w:=w4) oQ
   refine Ap (Al (Af (Ac rfl (I (.n1 rfl) (Ai (CW.b rfl (fun h24=>?_) (fun h24=>?_)))))))
   ·refine Aa (Ac rfl (I (.val (v':=bv (x.1|||128)) (pI (.t rfl) (.const _)) (a_ (Go.Value.int .u8) JT)) (LW.A rfl (Ai (Aa (I (.lb rfl (hB4.An rfl)) (Ac rfl (Ao (.buildSlice (xs:=[_]) (enc:=Px) (mk:=bv) l_ sizeOf5 zeroValue5 rfl cQ (fun _=>rfl) (fun _=>rfl) (.cu rfl) rfl) rfl ?_))))))))
    rintro _ w5 ⟨B29,cB29,rfl,NB29,yB29,xB29⟩
    have eB29:=NB29.at_
    have zB29:=NB29.size
    replace hZ:=hZ.up NB29.up
    replace hB4:=hB4.up NB29.up
    replace hO:=hO.up NB29.up
    replace hW:=hW.up NB29.up
    replace hK:=hK.up NB29.up
    replace hI1:=hI1.up NB29.up
    have hB29:=NB29.blk
    have hE29:=xB29
    refine Ao (.append (enc:=Px) (base:=bq) (bytes:=1) (i:=Tryz.t5) l_ kQ rfl rfl rfl rfl cQ (fun _=>rfl) Te (.t rfl) (.t rfl) hO (Az hE29) (by simp) (by simp[maxLen];omega) (by simp;omega) oQ) rfl ?_
    rintro v30 w6 ⟨Ow6,Gw6⟩
    replace hZ:=hZ.gr Gw6 rfl
    replace hB4:=hB4.gr Gw6 oQ
    replace hW:=hW.gr Gw6 oQ
    replace hK:=hK.gr Gw6
    replace hI1:=hI1.gr Gw6 oQ
    replace hO:=Ow6
    refine Bh (.store sizeOf109 (.t rfl) (.t rfl) hO.one hB4 bQ) ?_
    intro w7 Nw7
    replace hZ:=hZ.sto Nw7.sto oQ
    replace hO:=hO.sto Nw7.sto oQ
    replace hW:=hW.sto Nw7.sto oQ
    replace hK:=hK.sto Nw7.sto (.inr (.inr ⟨_,_,hB4⟩))
    replace hI1:=hI1.sto Nw7.sto oQ
    replace hB4:=Nw7.blk
    replace hB4:Blk w7 B4 #[v30] _:=hB4
    refine LW.nil (Ae ?_)
    exact fun a ha=>⟨hK,fun b e=>by subst e;exact hI1.same,hZ,_,hB4,by rw[cq,cy,f4];(rw[xN h24];exact hO),hW⟩
   refine Ak (Ab (Aa (I (.lb rfl (hB4.An rfl)) (Ac rfl (Ao (.buildSlice (xs:=[_]) (enc:=Px) (mk:=bv) l_ sizeOf5 zeroValue5 rfl cQ (fun _=>rfl) (fun _=>rfl) (.cu rfl) rfl) rfl ?_)))))
   rintro _ w8 ⟨B29,cB29,rfl,NB29,yB29,xB29⟩
   have eB29:=NB29.at_
   have zB29:=NB29.size
   replace hZ:=hZ.up NB29.up
   replace hB4:=hB4.up NB29.up
   replace hO:=hO.up NB29.up
   replace hW:=hW.up NB29.up
   replace hK:=hK.up NB29.up
   replace hI1:=hI1.up NB29.up
   have hE29:=xB29
   refine Ao (.append (enc:=Px) (base:=bq) (bytes:=1) (i:=Tryz.t5) l_ kQ rfl rfl rfl rfl cQ (fun _=>rfl) Te (.t rfl) (.t rfl) hO (Az hE29) (by simp) (by simp[maxLen];omega) (by simp;omega) oQ) rfl ?_
   rintro v30 w9 ⟨Ow9,Gw9⟩
   replace hZ:=hZ.gr Gw9 rfl
   replace hB4:=hB4.gr Gw9 oQ
   replace hW:=hW.gr Gw9 oQ
   replace hK:=hK.gr Gw9
   replace hI1:=hI1.gr Gw9 oQ
   replace hO:=Ow9
   refine Bh (.store sizeOf109 (.t rfl) (.t rfl) hO.one hB4 bQ) ?_
   intro w10 Nw10
   replace hZ:=hZ.sto Nw10.sto oQ
   replace hO:=hO.sto Nw10.sto oQ
   replace hW:=hW.sto Nw10.sto oQ
   replace hK:=hK.sto Nw10.sto (.inr (.inr ⟨_,_,hB4⟩))
   replace hI1:=hI1.sto Nw10.sto oQ
   replace hB4:=Nw10.blk
   replace hB4:Blk w10 B4 #[v30] _:=hB4
   refine LW.nil (Ae ?_)
   exact fun a ha=>⟨hK,fun b e=>by subst e;exact hI1.same,hZ,_,hB4,by rw[cq,cy,f4];(rw[qU h24];exact hO),hW⟩
  intro D ys w11 hDb hSy hs hD
  rw[←hbq]at hDb
  obtain⟨hZ,v,hB4,hO,hW⟩:=hs
  replace hD:Ob w11 D (.deferred (some [])):=hD
  refine Ae (Ab (Af (I (.lb rfl (hB4.An rfl)) (I (.qB l_ nb lu (.t rfl) hO) (LW.A rfl (J (Ai (Aj (Ws hD rfl ?_)))))))))
  replace hZ:=hZ.ko (Ko.putObj (.deferred none) hD rfl hDb)
  replace hB4:=hB4.ko (Ko.putObj (.deferred none) hD rfl hDb)
  replace hO:=hO.ko (Ko.putObj (.deferred none) hD rfl hDb)
  replace hW:=hW.putObj (D:=D) (.deferred none) oQ
  refine Br rfl rfl rfl ⟨_,rfl,?_⟩
  (rw[kD hin,mM,ak hin];subst hSy;exact⟨rfl,hW⟩)
 |false=>
  have hin:=db hq1
  refine Aa (Ac rfl (I (.lss (.t rfl) (.const _)) (Ac rfl (Dk rfl rfl (LW.gr rfl (fun hc=>PEv.gtr vQ (.const _)) (I (.po rfl (fun hp=>(by exact .cond rfl (by simp_all)))) (Ai (CW.b rfl (fun h12=>?_) (fun h12=>?_)))))))))
  ·refine Af (J (J (Ai (Aj (Ah (eU (Br rfl rfl rfl ⟨_,rfl,?_⟩)))))))
   (rw[bC hin,mM,ae hin];exact⟨rfl,hW⟩)
  exfalso
  apply hin
  unfold Mm
  simp at h12
  omega
theorem Wd(t:ByteArray)(w:World)(ht:t.size≤65536):Ret prog 164 #[.string t] w fun r w'=>r=.tuple #[.string ⟨(Yv t.data.toList).toArray⟩,vi 0]∧Up w w':=by
 have hW:=Up.refl w
 refine cT 18 func164 rfl (Af (J (J (Ar (Af (Ac rfl (I (.Lx lu (.t rfl)) (I (.fa (PEv.gtr (.t rfl) (.const _)) (bg oQ)) (Ai (CW.f rfl (Ak (Ab (Af (Ac rfl (I (.Lx lu (.t rfl)) (A3 (eC (.o rfl) (GU)) rfl (Uj _ _) ?_))))))))))))))))
 rintro _ w1 ⟨rfl,uw1⟩
 replace hW:=hW.up uw1
 refine Ac rfl (I (.xt rfl rfl) (I (.xt rfl rfl) (LW.A rfl (LW.A rfl (Ar (Aa (Ac rfl (Ac rfl (I (.K3 (.t rfl) (.t rfl) (by rw[D8];have:=Hs (t.size:Int);omega)) (LW.A rfl (J (Ai (Aj (Br rfl rfl rfl ⟨_,rfl,?_⟩))))))))))))))
 refine⟨?_,hW⟩
 rw[Rv,Yv,Nz]
theorem We(D:Wri)(bs:List UInt8)(w:World)(hD:(Ep 113 5 D (bs)).holds w):Ret prog 167 #[.pointer (some ⟨D.bd,0,none⟩)] w fun r w'=>r=.tuple #[]∧Stp (Ep 113 5 D (bs)) (Ep 113 5 ⟨D.bd,true,D.bf⟩ (bs)) w w':=by
 have hS:=Ru hD
 obtain⟨B,us,bf⟩:=D
 refine cT 20 func167 rfl (Al ?_)
 cases hq0:us with
 |false=>
  subst hq0
  replace hS:Sep _ w w [Ch B #[.pointer none,bf] 113,A8 5 1 Px bf bs]:=hS
  refine Aa (Ac rfl (I (.nc rfl) (I (.fB 0 rfl) (I (.lb rfl (hS.b0.An rfl)) (I (.tr (Gl nh (.t rfl)) (rfl)) (Ai (CW.v rfl (Aa (Ac rfl (Ac rfl (I (.JU (k:=1) nh underlying235 kQ (.t rfl) hS.b0 (by simp)) (I (.ext (.cu rfl) (Yw func208 rfl rfl kQ kQ _)) (I (.wZ (k:=2) underlying235 nh kQ (.t rfl) hS.b0 kQ) (I (.nc rfl) (I (.fB 0 rfl) (Bh (.store sizeOf108 (.t rfl) (.t rfl) rfl hS.b0 bQ) ?_))))))))))))))))
  intro w1 Nw1
  replace hS:=hS.Co 0 rfl (show Set_ _ w1 _ (#[.pointer (some ⟨B,0,none⟩),bf]) _ from Nw1)
  refine LW.nil (Di rfl ⟨_,rfl,?_⟩)
  exact⟨rfl,L0 (rest:=[]) hS⟩
 |true=>
  subst hq0
  replace hS:Sep _ w w [Ch B #[.pointer (some ⟨B,0,none⟩),bf] 113,A8 5 1 Px bf bs]:=hS
  refine Aa (Ac rfl (I (.nc rfl) (I (.fB 0 rfl) (I (.lb rfl (hS.b0.An rfl)) (I (.fa (Gl nh (.t rfl)) (rfl)) (Ai (CW.f rfl (Af (Ac rfl (I (.nc rfl) (I (.fB 0 rfl) (I (.lb rfl (hS.b0.An rfl)) (Ac rfl (I (.fa (aP (k:=2) nh kQ (.t rfl) (.t rfl)) (rfl)) (Ai (CW.f rfl (Ak (Di rfl ⟨_,rfl,?_⟩))))))))))))))))))
  exact⟨rfl,L0 (rest:=[]) hS⟩
theorem Tb(t:ByteArray)(D:Wri)(bs:List UInt8)(w:World)(hD:(Ep 113 5 D (bs)).holds w)(hlen:bs.length+t.size≤140737488355328):Ret prog 98 #[.pointer (some ⟨D.bd,0,none⟩),.string t] w fun r w'=>r=.tuple #[vi (t.size:Int),.nilIface]∧∃bf,Stp (Ep 113 5 D (bs)) (Ep 113 5 ⟨D.bd,true,bf⟩ (bs++t.data.toList)) w w':=by
 have hS:=Sep.cons hD (fun _ h=>h) (Sep.start _ _) (by simp)
 refine cT 19 func98 rfl (Af (J (J (Ar (Aa (Ac rfl (A3 (eC (.o rfl) (II)) rfl (We D bs _ (hS.get 0 rfl)) ?_)))))))
 rintro _ w1 ⟨rfl,uw1⟩
 replace hS:=hS.E5 0 rfl uw1
 refine Ar ?_
 replace hS:=Sep.unfold (Bs:=[]) (rest:=[]) hS
 replace hS:Sep _ _ _ [Ch D.bd #[.pointer (some ⟨D.bd,0,none⟩),D.bf] 113,A8 5 1 Px D.bf bs]:=hS
 refine Aa (Ac rfl (Ac rfl (I (.nc rfl) (I (.fB 1 rfl) (I (.lb rfl (hS.b0.An rfl)) (Ac rfl (Ao (.lX (i:=Tryz.t5) l_ lu kQ rfl rfl rfl (.t rfl) (.t rfl) (hS.own 1 rfl) oQ) rfl ?_)))))))
 intro v14 w2 Gw2
 replace hS:=hS.E5 1 rfl Gw2
 refine I (.nc rfl) (I (.fB 1 rfl) (Bh (.store sizeOf109 (.t rfl) (.t rfl) (hS.own 1 rfl).one hS.b0 bQ) ?_))
 intro w3 Nw3
 replace hS:=hS.Co 0 rfl (show Set_ _ w3 _ (#[.pointer (some ⟨D.bd,0,none⟩),v14]) _ from Nw3)
 refine Ar (Aa (Ac rfl (I (.Lx lu (.t rfl)) (LW.A rfl (J (Ai (Aj (Br rfl rfl rfl ⟨_,rfl,?_⟩))))))))
 exact⟨rfl,v14,L0 (rest:=[]) hS⟩
theorem fT(D:Wri)(bs:List UInt8)(w:World)(hD:(Ep 113 5 D (bs)).holds w)(hne:bs≠[])(hlen:bs.length≤1000000000):Ret prog 53 #[.pointer (some ⟨D.bd,0,none⟩)] w fun r w'=>r=.string ⟨bs.toArray⟩∧Fr (Ep 113 5 D (bs)).foot w w':=by
 have hS:=Ru hD
 obtain⟨B,us,bf⟩:=D
 obtain⟨g,cp,rfl,hcp⟩:∃g cp,bf=.slice (some ⟨g,0,none⟩) bs.length cp∧cp≠0:=by
   have h0:0<bs.length:=jy.2 hne
   obtain⟨_,⟨rfl,hn⟩|⟨g,cap,cur,rfl,_,_,hc,_⟩⟩:=Ua hD
   · omega
   exact⟨g,cap,rfl,by omega⟩
 replace hS:Sep _ w w [Ch B #[(⟨B,us,.slice (some ⟨g,0,none⟩) bs.length cp⟩:Wri).ad,.slice (some ⟨g,0,none⟩) bs.length cp] 113,A8 5 1 Px (.slice (some ⟨g,0,none⟩) bs.length cp) bs]:=hS
 refine cT 14 func53 rfl (Af (J (Ar (Fy 10 kQ kQ kQ kQ kQ rfl rfl (Am (.mv rfl) (Am (.nc rfl) (Am (.fB 1 rfl) (Am (.lb rfl (hS.b0.An rfl)) (Am (.lY hcp (.t rfl)) (Am (.mv rfl) (Am (.nc rfl) (Am (.fB 1 rfl) (Am (.lb rfl (hS.b0.An rfl)) (Am (.Df l_ (.t rfl)) (HW.nil ?_)))))))))))))))
 intro w1 uw1
 replace hS:=hS.up uw1
 refine Ao (.lZ underlying171 kQ (.t rfl) (.t rfl) (hS.own 1 rfl) hne oQ) rfl ?_
 rintro _ w2 ⟨rfl,hF⟩
 refine LW.A rfl (Ai (Aj (KW.q ?_)))
 exact⟨rfl,hS.fr.next hF (fun i hi=>.inl (fG (.inr hi)))⟩
theorem Ox(b:Nat)(t:ByteArray)(D:Wri)(bs:List UInt8)(w:World)(hD:(Ep 113 5 D (bs)).holds w)(hb:D.bd=b)(hlen:bs.length+t.size≤140737488355328):Ret prog 98 #[.pointer (some ⟨b,0,none⟩),.string t] w fun r w'=>r=.tuple #[vi (t.size:Int),.nilIface]∧∃bf,Stp (Ep 113 5 D (bs)) (Ep 113 5 ⟨b,true,bf⟩ (bs++t.data.toList)) w w':=by subst hb;exact Tb t D bs w hD hlen
theorem yA(ad:Option Addr)(cp:Nat)(l:List Int)(D:Wri)(bs:List UInt8)(w:World)(hD:(Ep 113 5 D (bs)).holds w)(hE0:Els w ad 1 Cm l)(hne:∀B o,ad=some ⟨B,o,none⟩→¬(Ep 113 5 D (bs)).foot B)(hlen:bs.length+10*l.length≤1000000000):Ret prog 49 #[.pointer (some ⟨D.bd,0,none⟩),.slice ad l.length cp] w fun r w'=>r=.tuple #[]∧∃D',D'.bd=D.bd∧Stp (Ep 113 5 D (bs)) (Ep 113 5 D' (bs++Cc l)) w w':=by
 obtain⟨w0,rfl,_⟩:=W0 w
 have hS:=Sep.cons hD (fun _ h=>h) (Sep.start _ _) (by simp)
 refine cT 25 func49 rfl (Af (Ac rfl (I (.Df lg (.t rfl)) (I (.move (.const _)) (Ai (Ap (A9 (σ:=Nat×Wri) (fun s w=>(s.1≤l.length)∧(s.2.bd=D.bd)∧(Sep (Ep 113 5 D (bs)).foot w0 w [Ep 113 5 s.2 (bs++Cc (l.take s.1))])) (fun s=>[(10,.eq (vi (s.1:Int)))]) ([(0,.eq _),(8,.eq _),(9,.eq _)]) (fun s=>l.length-s.1) (0,D) ?_ tQ ?_)))))))
 ·exact⟨ao _,rfl,by simpa[Cc]using hS⟩
 rintro⟨k,D1⟩ w1 ⟨hkk,hbd,hS⟩
 dsimp only at hkk hbd hS
 refine Af (I (.l2 rfl rfl) (Ar (CW.b rfl (fun h11=>?_) (fun h11=>?_))))
 ·refine Ak (Ab (Al (Ap (Al ?_))))
  have hE:=hE0.fr hS.fr hne
  have hkl:k<l.length:=by simp at h11;omega
  refine Aa ?_
  obtain⟨x,hx⟩:=Av (xs:=l) (i:=k) oQ
  obtain⟨Bx,ox,ax,hcx⟩:=hE _ x hx
  refine I (.Ay lg lf (.t rfl) (.t rfl) oQ ax) (I (.lb rfl (hcx.nth (j:=0) rfl)) (LW.A rfl (Ar (Aa (Ac rfl (A3 (eC (.o rfl) (GU)) rfl (Uj x _) ?_))))))
  rintro _ w2 ⟨rfl,uw2⟩
  replace hS:=hS.up uw2
  refine Ac rfl (I (.xt rfl rfl) (I (.xt rfl rfl) (LW.A rfl (LW.A rfl (Ai (Aa (Ac rfl (I (.nc rfl) (I (.fB 0 rfl) (Ac rfl (A3 (eC (.u rfl rfl) (GV)) rfl (Ox D.bd _ D1 _ _ (hS.get 0 rfl) hbd (by rw[D8,au];have:=Hs x;have:=Ex (l.take k);have:=i9 k l;omega)) ?_)))))))))))
  rintro _ w3 ⟨rfl,bf,uw3⟩
  replace hS:=hS.E5 0 rfl uw3
  refine LW.nil (Ae (Ab (Aa (I (.ic rfl oQ) (Ac rfl (LW.nil (Aq ?_)))))))
  exact⟨(k+1,⟨D.bd,true,bf⟩),⟨by omega,rfl,by rw[Lz hx,←dm];exact hS⟩,tQ,by omega⟩
 refine A7 (Ad (Ad (Au (Di rfl ⟨_,rfl,?_⟩))))
 have hk2:l.take k=l:=di (by simp at h11;omega)
 rw[hk2]at hS
 exact⟨rfl,D1,hbd,⟨hS.fr,hS.get 0 rfl,hS.foot 0 rfl⟩⟩
theorem rF(b:Nat)(ad:Option Addr)(cp:Nat)(l:List Int)(D:Wri)(bs:List UInt8)(w:World)(hD:(Ep 113 5 D (bs)).holds w)(hb:D.bd=b)(hE0:Els w ad 1 Cm l)(hne:∀B o,ad=some ⟨B,o,none⟩→¬(Ep 113 5 D (bs)).foot B)(hlen:bs.length+10*l.length≤1000000000):Ret prog 49 #[.pointer (some ⟨b,0,none⟩),.slice ad l.length cp] w fun r w'=>r=.tuple #[]∧∃D',D'.bd=b∧Stp (Ep 113 5 D (bs)) (Ep 113 5 D' (bs++Cc l)) w w':=by subst hb;exact yA ad cp l D bs w hD hE0 hne hlen
theorem Uk(b:Nat)(D:Wri)(bs:List UInt8)(w:World)(hD:(Ep 113 5 D (bs)).holds w)(hb:D.bd=b)(hne:bs≠[])(hlen:bs.length≤1000000000):Ret prog 53 #[.pointer (some ⟨b,0,none⟩)] w fun r w'=>r=.string ⟨bs.toArray⟩∧Fr (Ep 113 5 D (bs)).foot w w':=by subst hb;exact fT D bs w hD hne hlen
theorem rG(b:Bool)(w:World):Ret prog 163 #[.bool b] w fun r w'=>r=vi (J5 b)∧Up w w':=by
 have hW:=Up.refl w
 refine cT 4 func163 rfl (Af (J (Ar (Af (Ac rfl (Ai (CW.b rfl (fun h3=>?_) (fun h3=>?_))))))))
 ·refine Af (J (Ai (Aj (Ah (KW.q ?_)))))
  refine⟨?_,hW⟩
  simp[J5,h3]
 refine Ak (Ab (Af (J (Ai (Aj (KW.q ?_))))))
 refine⟨?_,hW⟩
 simp[J5,h3]
theorem Ss(f:Fact)(ad:Option Addr)(k cp:Nat)(w:World):Ret prog 51 #[.agg f.cells,.slice ad k cp] w fun r w'=>(∃Ba Bb,r=.func (.func 99) #[] #[.pointer (some ⟨Ba,0,none⟩),.pointer (some ⟨Bb,0,none⟩)]∧Blk w' Ba #[.slice ad k cp] 119∧Blk w' Bb f.cells 51)∧Up w w':=by
 have hW:=Up.refl w
 refine cT 6 func51 rfl (Af (Ao (.bA rfl) rfl ?_))
 rintro _ w1 ⟨B2,rfl,NB2⟩
 replace hW:=hW.up NB2.up
 have hB2:=NB2.blk
 refine Ao (.Ro (.t rfl) rfl) rfl ?_
 rintro _ w2 ⟨B3,rfl,NB3⟩
 replace hW:=hW.up NB3.up
 replace hB2:=hB2.up NB3.up
 have hB3:=NB3.blk
 refine J (Ar (Aa (I (.makeFunc (.ct rfl (.cu rfl))) (LW.A rfl (Ai (Aj (KW.q ?_)))))))
 exact⟨⟨_,_,rfl,hB3,hB2⟩,hW⟩
theorem Y5(X Y:Nat→Prop)(B3 B2:Nat)(ad:Option Addr)(cp:Nat)(l:List Fld)(f:Fact)(w:World)(hEX:∀B o,ad=some ⟨B,o,none⟩→¬X B)(hQX:¬X B3)(hFX:¬X B2)(hQ0:Blk w B3 #[.slice ad l.length cp] 119)(hF0:Blk w B2 f.cells 51)(hE0:Els w ad 3 Fld.cells l)(hlen:l.length≤1000)(hok:∀x∈l,E6 x.off=true):
   IterS prog 99 #[.pointer (some ⟨B3,0,none⟩),.pointer (some ⟨B2,0,none⟩)] Cm X Y (fun ys=>ys=Fe l f) (fun pre=>pre<+:Fe l f) (Fe l f).length w:=by
 refine IterS.of ?_
 intro lp J Jx w0 hUw _ hY hJ
 obtain⟨Bd,hBd⟩:∃Bd,Bd=w0.heap.size:=⟨_,rfl⟩
 rw[←hBd]at hJ hY
 have hQ:=hQ0.up hUw
 have hF:=hF0.up hUw
 have hE:=Els.up hE0 hUw
 refine cT 21 func99 rfl (Af (I (.lb rfl (hQ.An rfl)) (I (.Df ln (.t rfl)) (I (.move (.const _)) (Ai (Ap (CW.loop (σ:=Nat) (fun s w=>s≤l.length∧Jw Bd J ((Fe l f).take s) w∧Els w ad 3 Fld.cells l∧Blk w B3 #[.slice ad l.length cp] 119∧Blk w B2 f.cells 51) (fun s=>[(0,.eq (.func (.yield lp) #[] #[])),(1,.eq (.pointer (some ⟨B3,0,none⟩))),(2,.eq (.pointer (some ⟨B2,0,none⟩))),(6,.eq (.slice ad l.length cp)),(7,.eq (vi (l.length:Int))),(8,.eq (vi (s:Int)))]) (fun s=>l.length-s) 0 ?_ ?_ ?_)))))))
 ·exact⟨ao _,hJ,hE,hQ,hF⟩
 ·exact tQ
 rintro k w1 ⟨hk,hJ,hE,hQ,hF⟩
 refine Af (I (.l2 rfl rfl) (Ar (CW.b rfl (fun h9=>?_) (fun h9=>?_))))
 ·refine Ak (Ab (Al (Ap (Al ?_))))
  have hkl:k<l.length:=by simp at h9;omega
  refine Aa ?_
  obtain⟨x,hx⟩:=Av (xs:=l) (i:=k) oQ
  obtain⟨Bx,ox,ax,hcx⟩:=hE _ x hx
  refine I (.Ay ln lx (.t rfl) (.t rfl) oQ ax) (I (.lc rfl (hcx)) (Ao (.Bi li) rfl ?_))
  rintro _ w2 ⟨B5,rfl,MB5⟩
  refine Bh (.A5 lx rfl (.t rfl) (.t rfl) (Fld.one _) MB5.blk rfl) ?_
  intro w3 LB5
  have NB5:=MB5.set LB5
  replace hJ:=hJ.up NB5.up
  replace hE:=hE.up NB5.up
  replace hQ:=hQ.up NB5.up
  replace hF:=hF.up NB5.up
  replace hcx:=hcx.up NB5.up
  have hB5:=NB5.blk
  refine Ar ?_
  have hox:=hok x (am hx)
  refine Aa (Ac rfl (I (.fB 0 rfl) (I (.lb rfl (hB5.An rfl)) (A3 (Ft (.t rfl) (.cu rfl) (qO x.off hox)) rfl (kC x.off _ _ hox) ?_))))
  rintro _ w4 ⟨rfl,uw4⟩
  replace hJ:=hJ.up uw4
  replace hE:=hE.up uw4
  replace hQ:=hQ.up uw4
  replace hF:=hF.up uw4
  replace hcx:=hcx.up uw4
  replace hB5:=hB5.up uw4
  refine I (.nc rfl) (I (.lb rfl (hF.An (Rx hox))) (LW.y (.t rfl) (.cu rfl) rfl rfl (hY _ (Fk f x.off) _ hJ (by rw[bu,Pe];omega)) ?_))
  rintro _ w5 ⟨y,rfl,hcase⟩
  refine I (.n1 rfl) (Ai (CW.b rfl (fun h19=>?_) (fun h19=>?_)))
  ·have hy:y=false:=by simpa using h19
   subst hy
   obtain⟨_,hJx⟩:=hcase.resolve_left (by simp)
   refine Aj (Aw (Ah (Ah (Aw (Nr rfl ⟨_,rfl,?_⟩)))))
   exact .inr ⟨_,by rw[←Sr hx];exact List.take_prefix _ _,hJx⟩
  have hy:y=true:=by simpa using h19
  subst hy
  obtain⟨_,hJ2,hN⟩:=hcase.resolve_right (by simp)
  replace hE:=hE.kx hN hEX
  replace hQ:=hQ.kx hN hQX
  replace hF:=hF.kx hN hFX
  rw[←Sr hx]at hJ2
  refine Ak (Ae (Ab (Aa (I (.ic rfl oQ) (Ac rfl (LW.nil (Aq ?_)))))))
  exact⟨k+1,⟨by omega,hJ2,hE,hQ,hF⟩,tQ,by omega⟩
 have hkk:k=l.length:=by simp at h9;omega
 refine A7 (Ad (Ad (Au (Di rfl ⟨_,rfl,?_⟩))))
 exact .inl ⟨_,rfl,by rw[hkk,←Pe l f,br]at hJ;exact hJ.j⟩
theorem fU(gf:Nat)(lb:Array Go.Value)(I2:List Int)(Sp:List Int→Prop)(D:Wri)(bs:List UInt8)(w:World)(hD:(Ep 113 5 D (bs)).holds w)(en:∀args w,(callFunc gf args).run prog w=.ok (.enter gf args) w)(hit:∀W(X:Nat→Prop),Up w W→(∀i,X i→(Ep 113 5 D (bs)).foot i∨w.heap.size≤i)→IterS prog gf lb Cm X (fun _=>False) (fun ys=>ys=I2) Sp I2.length W)(hlen:bs.length+10*I2.length≤1000000):Ret prog 50 #[.pointer (some ⟨D.bd,0,none⟩),.func (.func gf) #[] lb] w fun r w'=>r=.tuple #[]∧∃D',D'.bd=D.bd∧Stp (Ep 113 5 D (bs)) (Ep 113 5 D' (bs++Cc I2)) w w':=by
 have hW:=Up.refl w
 obtain⟨w0,rfl,_⟩:=W0 w
 have hU0:Stp (Ep 113 5 D (bs)) (Ep 113 5 D (bs)) w0 w0:=Stp.refl hD
 refine Ly (n:=11) func50 rfl rfl rfl (Af (Ao (.Ro (.t rfl) rfl) rfl ?_))
 rintro _ w1 ⟨B2,rfl,NB2⟩
 have eB2:=NB2.at_
 have zB2:=NB2.size
 replace hW:=hW.up NB2.up
 replace hU0:=hU0.up NB2.up
 have hB2:=NB2.blk
 refine Ar (Aa (Ac rfl (Ai (Ap ?_))))
 obtain⟨bq,hbq⟩:∃bq,bq=w1.heap.size:=⟨_,rfl⟩
 refine CW.rangeFunc (fun i=>(Ep 113 5 D (bs)).foot i∨bq≤i) (fun _=>False) (fun pre W=>Sz bq W∧∃D1:Wri,D1.bd=D.bd∧Blk W B2 #[.pointer (some ⟨D.bd,0,none⟩)] 107∧Stp (Ep 113 5 D (bs)) (Ep 113 5 D1 (bs++Cc pre)) w1 W) (fun c pre W=>Sz bq W∧False) (fun x a' W=>Ag 11 [] ([(4,.eq (vi x)),(2,.eq (.pointer (some ⟨B2,0,none⟩)))]) a' W) (.t rfl) en (hit _ _ hW (fun i hi=>hi.imp id (fun h=>by omega))) (fun _=>rfl) rfl ?_ ?_ ?_ ?_ ?_ ?_ ?_ ?_
 ·rw[←hbq]
  intro pre W W' row hs hg hr
  obtain⟨hZ,D1,hbd,hB2,hUp⟩:=hs
  exact⟨hZ.ko (Ko.grown hg hr),D1,hbd,hB2.ko (Ko.grown hg hr),hUp.ko (Ko.grown hg hr) oQ⟩
 ·rw[←hbq]
  intro c pre W W' row hs hg hr
  obtain⟨hZ,hF⟩:=hs
  exact⟨hZ.ko (Ko.grown hg hr),hF⟩
 ·intro x a' u W W' row hs hg hr
  exact hs.world rfl _
 ·exact⟨jb hbq,_,rfl,hB2,by simpa[Cc]using Stp.refl hU0.holds⟩
 ·rw[←hbq]
  intro lp pre x w2 K hs hk a ha
  obtain⟨hZ,D1,hbd,hB2,hUp⟩:=hs
  have zq:=hZ.le
  have hK:=Kf.refl bq w2
  have hN:=Kx.refl bq (fun i=>(Ep 113 5 D (bs)).foot i∨bq≤i) (fun _=>False) w2
  revert a
  refine Tz (p:=6) rfl (Aa (LW.A rfl (LW.nil ?_)))
  exact fun a ha=>hk a _ hK hN ⟨hZ,D1,hbd,hB2,hUp⟩ (ha.sub tQ)
 ·rw[←hbq]
  intro lp pre x a' w3 hs hx hlt
  obtain⟨hZ,D1,hbd,hB2,hUp⟩:=hs
  have ha:=hx
  have zq:=hZ.le
  have hK:=Kf.refl bq w3
  have hN:=Kx.refl bq (fun i=>(Ep 113 5 D (bs)).foot i∨bq≤i) (fun _=>False) w3
  refine(show CW (some lp) 8 _ 11 [] _ (ownPostG bq (Kx bq (fun i=>(Ep 113 5 D (bs)).foot i∨bq≤i) (fun _=>False)) _ _ (pre++[x]) w3) ([(4,.eq (vi x)),(2,.eq (.pointer (some ⟨B2,0,none⟩)))]) w3 from ?_) a' ha
  refine Ap (Aa (I (.lb rfl (hB2.An rfl)) (Ac rfl (Ao (.buildSlice (xs:=[x]) (enc:=Cm) (mk:=vi) lg lf ls rfl cQ (fun _=>rfl) (fun _=>rfl) (.cu rfl) rfl) rfl ?_))))
  rintro _ w4 ⟨B9,cB9,rfl,NB9,yB9,xB9⟩
  replace hZ:=hZ.up NB9.up
  replace hB2:=hB2.up NB9.up
  replace hUp:=hUp.up NB9.up
  replace hK:=hK.up NB9.up
  replace hN:=hN.up NB9.up
  have hB9:=NB9.blk
  have hE9:=xB9
  refine A3 (eC (.u rfl rfl) (CT)) rfl (rF D.bd _ _ [x] D1 _ _ hUp.holds hbd hE9 (fun B o e=>by cases e;exact Kk hUp.holds hB9 rfl rfl) (by rw[au];have:=Ex pre;simp;omega)) ?_
  rintro _ w5 ⟨rfl,D2,hb2,hP2⟩
  have hWc:=fH hUp.holds
  have hXs:∀i,(Ep 113 5 D1 (bs++Cc pre)).foot i→((Ep 113 5 D (bs)).foot i∨bq≤i):=fun i hi=>(hUp.sub i hi).imp id (fun h=>by omega)
  replace hN:=hN.trans (Kx.fr (bq:=bq) (Y:=fun _=>False) hP2.fr hXs hWc)
  replace hK:=hK.trans (Kf.fr (bq:=bq) hP2.fr hWc)
  replace hB2:=hB2.fr hP2.fr (Kk hUp.holds hB2 rfl rfl)
  replace hUp:=hUp.trans hP2
  rw[dm,lW,←fF]at hUp
  have hZ2:Sz bq w5:=bb hZ.le hP2.fr.size
  refine LW.nil (Ae ?_)
  exact fun a ha=>⟨hK,hN,hZ2,D2,hb2,hB2,hUp⟩
 ·intro D ys w6 hDb hS hs hD
  rw[←hbq]at hDb
  obtain⟨hZ,D1,hbd,hB2,hUp⟩:=hs
  replace hD:Ob w6 D (.deferred (some [])):=hD
  refine Ae (Ws hD rfl ?_)
  replace hZ:=hZ.ko (Ko.putObj (.deferred none) hD rfl hDb)
  replace hB2:=hB2.ko (Ko.putObj (.deferred none) hD rfl hDb)
  replace hUp:=hUp.ko (Ko.putObj (.deferred none) hD rfl hDb) oQ
  refine Nr rfl ⟨_,rfl,?_⟩
  subst hS
  exact⟨rfl,D1,hbd,hU0.trans hUp⟩
 intro D c pre w7 hDb hpre hs hD
 rw[←hbq]at hDb
 obtain⟨hZ,hF⟩:=hs
 replace hD:Ob w7 D (.deferred (some [])):=hD
 exact hF.elim
theorem Xe(b:Nat)(Ba Bb:Nat)(ad:Option Addr)(cp:Nat)(l:List Fld)(f:Fact)(D:Wri)(bs:List UInt8)(w:World)(hD:(Ep 113 5 D (bs)).holds w)(hb:D.bd=b)(hQ:Blk w Ba #[.slice ad l.length cp] 119)(hF:Blk w Bb f.cells 51)(hE:Els w ad 3 Fld.cells l)(hT:∀B o,ad=some ⟨B,o,none⟩→B<w.heap.size∧¬(Ep 113 5 D (bs)).foot B)(hlen:bs.length+10*l.length≤10000)(hok:∀x∈l,E6 x.off=true):
   Ret prog 50 #[.pointer (some ⟨b,0,none⟩),.func (.func 99) #[] #[.pointer (some ⟨Ba,0,none⟩),.pointer (some ⟨Bb,0,none⟩)]] w fun r w'=>r=.tuple #[]∧∃D',D'.bd=b∧Stp (Ep 113 5 D (bs)) (Ep 113 5 D' (bs++Cc (Fe l f))) w w':=by
 subst hb
 refine fU 99 _ (Fe l f) (fun pre=>pre<+:Fe l f) D bs w hD NM ?_ (by rw[Pe];omega)
 intro W X hU hX
 refine Y5 X (fun _=>False) Ba Bb ad cp l f W (fun B o e hx=>?_) (fun hx=>?_) (fun hx=>?_) (hQ.up hU) (hF.up hU) (Els.up hE hU) oQ hok
 · obtain⟨h1,h2⟩:=hT B o e
   exact(hX B hx).elim h2 (fun h=>by omega)
 · have:=hQ.lt
   exact(hX Ba hx).elim (Kk hD hQ rfl rfl) (fun h=>by omega)
 have:=hF.lt
 exact(hX Bb hx).elim (Kk hD hF rfl rfl) (fun h=>by omega)
theorem Ql(f:Fact)(w:World):Ret prog 27 #[.agg f.cells] w fun r w'=>r=.string ⟨(Bm f).toArray⟩∧Up w w':=by
 obtain⟨w0,rfl,hS⟩:=W0 w
 refine cT 27 func27 rfl (Af (Ao (.bA rfl) rfl ?_))
 rintro _ w1 ⟨B1,rfl,NB1⟩
 replace hS:=hS.Bn NB1
 refine J (Ar (Al ?_))
 cases hq1:Bw f with
 |true=>
  have hkn:=Dq hq1
  refine Aa (I (.lc rfl (hS.b0.agg)) (A3 (eC (.o rfl) (wS)) rfl (Ny f _) ?_))
  rintro _ w2 ⟨rfl,uw2⟩
  replace hS:=hS.up uw2
  refine I (.fa (PEv.n1 rfl) (by rw[hq1];rfl)) (Ai (CW.f rfl (Ak (Ab (Af (I (.build (cs:=#[.pointer none,.slice none 0 0]) underlying113 zeroValue113 Mz .nil rfl) (Ao (.bA rfl) rfl ?_)))))))
  rintro _ w3 ⟨B8,rfl,NB8⟩
  replace hS:=hS.Bn NB8
  refine LW.A rfl (Ar ?_)
  replace hS:=jM (Bs:=[_]) (e:=5) hS
  have hA0:=hS.get 1 rfl
  refine Aa (Ac rfl (I (.fB 0 rfl) (I (.lb rfl (hS.b0.An rfl)) (Ao (.buildSlice (xs:=[f.Kind]) (enc:=Cm) (mk:=vi) lg lf ls rfl cQ (fun _=>rfl) (fun _=>rfl) (.cu rfl) rfl) rfl ?_))))
  rintro _ w4 ⟨B12,cB12,rfl,NB12,yB12,xB12⟩
  have eB12:=NB12.at_
  replace hS:=hS.up NB12.up
  have hE12:=xB12
  refine A3 (eC (.u rfl rfl) (CT)) rfl (rF B8 _ _ [f.Kind] ⟨B8,false,.slice none 0 0⟩ _ _ (hS.get 1 rfl) rfl hE12 (fun B o e=>by cases e;intro hf;have:=Asr.lt _ _ hA0 _ hf;omega) (by simp)) ?_
  rintro _ w5 ⟨rfl,D1,hb1,uw5⟩
  replace hS:=hS.E5 1 rfl uw5
  refine Ar (Eo 8 [.eq (.pointer (some ⟨B8,0,none⟩)),.eq (.agg f.cells),.pred ShM,.eq (.pointer (some ⟨B1,0,none⟩)),.eq (vi f.Kind),.pred (shOf f),.pred (fun v w=>SlT 158 w v 3 Fld.cells (Fo f.Kind)),.pred (fun v w=>∃Ba Bb ad cp,v=.func (.func 99) #[] #[.pointer (some ⟨Ba,0,none⟩),.pointer (some ⟨Bb,0,none⟩)]∧Blk w Ba #[.slice ad (Fo f.Kind).length cp] 119∧Blk w Bb f.cells 51∧SlT 158 w (.slice ad (Fo f.Kind).length cp) 3 Fld.cells (Fo f.Kind))] [14,21] kQ rfl kQ kQ kQ kQ kQ kQ kQ ⟨nm,nm,PhU.pred fun _ _ _ h u=>ShM.Da h u.Da,nm,nm,PhU.pred fun _ _ _ h u=>ShV.Da h u.Da,PhU.pred fun _ _ _ h u=>SlT.H9 h u.H9,PhU.pred fun _ _ _ h u=>let⟨Ba,Bb,ad,cp,e,h1,h2,h3⟩:=h;⟨Ba,Bb,ad,cp,e,h1.up u,h2.up u,SlT.H9 h3 u.H9⟩,trivial⟩ ?_ ?_)
  ·intro W hU0
   have hU:=(Up.drew w5).trans hU0
   refine aC ⟨rfl,TU.p (.mv rfl) rfl⟩ (aC ⟨rfl,TU.p (.lc rfl ((hS.b0.up hU).agg)) rfl⟩ (aC ⟨rfl,TU.c (eC .nil (wU)) (L7 _) (fun v W1 h=>let⟨b,e,m,u⟩:=h;⟨u,b,e,m⟩)⟩ (aC ⟨rfl,TU.p (.fB 0 rfl) rfl⟩ (aC ⟨rfl,TU.p (.lb rfl ((hS.b0.up hU).An rfl)) rfl⟩ (aC ⟨rfl,TU.open (d:=16) rfl (by rintro _ ⟨b,rfl,kv,hI,hV,hK⟩;obtain⟨⟨k0,sv⟩,hkv,e0⟩:=aq.1 ((hK f.Kind).2 hkn);cases e0;exact TU.p (.Ek (ok:=false) ng lh (.t rfl) (.t rfl) hI hkv) (hV _ _ hkv))⟩ (aC ⟨rfl,TU.open (d:=19) rfl (by rintro _ ⟨v1,v2,rfl,h1,h2⟩;exact TU.p (.fK (off:=1) l8 rfl rfl isAgg119 (.t rfl) rfl) h2)⟩ (aC ⟨rfl,TU.open (d:=20) rfl (by rintro _ ⟨⟨ad,cp,rfl,hE⟩,hT⟩;exact TU.c (eC (.u rfl rfl) (GM)) (Ss f ad _ cp _) (fun v W1 h=>let⟨⟨Ba,Bb,e,h1,h2⟩,u⟩:=h;⟨u,Ba,Bb,ad,cp,e,h1,h2,SlT.H9 ⟨⟨ad,cp,rfl,hE⟩,hT⟩ u.H9⟩))⟩ ?_)))))))
   exact allL.nil
  intro w6 g hU0 hg
  have hU:=(Up.drew w5).trans hU0
  replace hS:=hS.up hU
  have e14:g 14=.pointer (some ⟨B8,0,none⟩):=hg 0 _ 14 cQ rfl rfl
  obtain⟨Ba,Bb,ad,cp2,e21,hBa,hBb,⟨ad1,cp1,e1,hE⟩,hT⟩:=hg 7 _ 21 cQ rfl rfl
  cases e1
  change LW _ _ _ _ _ _ _ _ ((14,.eq (g 14))::(21,.eq (g 21))::_) _
  rw[e14,e21]
  refine A3 (eC (.u rfl rfl) (GL)) rfl (Xe B8 Ba Bb ad cp2 _ f D1 _ _ (hS.get 1 rfl) hb1 hBa hBb hE (fun B o e=>by obtain⟨cs,x,hc⟩:=hT B o _ _ (by rw[e]);exact⟨lt_of_block hc,Kk (hS.get 1 rfl) hc rfl rfl⟩) (xQ f) (xO f.Kind)) ?_
  rintro _ w7 ⟨rfl,D2,hb2,uw7⟩
  replace hS:=hS.E5 1 rfl uw7
  rw[eo,←N1]at hS
  have hKL:[f.Kind]++Fe (Fo f.Kind) f=Pf f:=rfl
  rw[hKL]at hS
  refine Ar (Aa (Ac rfl (I (.nc rfl) (I (.fB 0 rfl) (A3 (eC (.o rfl) (CU)) rfl (Uk B8 D2 _ _ (hS.get 1 rfl) hb2 (xP hq1) (xR f)) ?_)))))
  rintro _ w8 ⟨rfl,hF⟩
  refine LW.A rfl (Ai (Aj (KW.q ?_)))
  rw[Bm,ak hq1]
  exact⟨rfl,(hS.fr.next hF (hS.foot 1 rfl)).fD (fun _ h=>h)⟩
 |false=>
  refine Aa (I (.lc rfl (hS.b0.agg)) (A3 (eC (.o rfl) (wS)) rfl (Ny f _) ?_))
  rintro _ w9 ⟨rfl,uw9⟩
  replace hS:=hS.up uw9
  refine I (.tr (PEv.n1 rfl) (by rw[hq1];rfl)) (Ai (CW.v rfl (Af (J (Ai (Aj (Ah (KW.q ?_))))))))
  rw[Bm,ae (by rw[hq1];exact bi)]
  exact⟨rfl,hS.Cj⟩
theorem Ul(f:Fact)(w:World):Ret prog 95 #[.agg f.cells] w fun r w'=>r=.tuple #[.string ⟨(Ib f).toArray⟩,vi (H0 f)]∧Up w w':=by
 obtain⟨w0,rfl,hS⟩:=W0 w
 refine cT 52 func95 rfl (Af (Ao (.bA rfl) rfl ?_))
 rintro _ w1 ⟨B1,rfl,NB1⟩
 have eB1:=NB1.at_
 have zB1:=NB1.size
 replace hS:=hS.Bn NB1
 refine J (J (Ar (Al ?_)))
 cases hq1:Bw f with
 |true=>
  have hkn:=Dq hq1
  refine Aa (I (.lc rfl (hS.b0.agg)) (A3 (eC (.o rfl) (wS)) rfl (Ny f _) ?_))
  rintro _ w2 ⟨rfl,uw2⟩
  have zw2:=uw2.size
  replace hS:=hS.up uw2
  refine I (.fa (PEv.n1 rfl) (by rw[hq1];rfl)) (Ai (CW.f rfl (Ak (Ab (Al ?_)))))
  have hB1T:=hS.blk 0 rfl
  have hU0:=hS.Cj
  refine CW.box 6 4 5 3 4 14 #[.slice none 0 0,.slice none 0 0,.nilFunc,.bool false] [.pred ShM,.eq (.pointer (some ⟨B1,0,none⟩)),.eq (vi f.Kind),.pred (shOf f),.pred fun v _=>∃B,v=.pointer (some ⟨B,0,none⟩),.eq undef] [] l6 sizeOf121 kQ rfl kQ kQ kQ kQ kQ kQ kQ rfl rfl ⟨_,_,_,rfl⟩ _ rfl ⟨_,_,_,rfl⟩ ⟨PhT.pred fun _ _ _ h u=>ShM.Da h u,nn,nn,PhT.pred fun _ _ _ h u=>ShV.Da h u,PhT.pred fun _ _ _ h _=>h,nn,trivial⟩ rfl (fun v W h=>shOf.agg h) (fun B W=>⟨B,rfl⟩) ?_ ?_
  ·intro W hK0
   have hK:=(Up.drew w2).Da.trans hK0
   have hB1W:=Blk.Da hB1T (T:=121) rfl hK
   refine aC (.inr ⟨rfl,TU.c (eC .nil (wU)) (L7 _) (fun v W1 h=>let⟨b,e,m,u⟩:=h;⟨u,b,e,m⟩)⟩) (aC (.inr ⟨rfl,TU.p (.fB 0 rfl) rfl⟩) (aC (.inr ⟨rfl,TU.p (.lb rfl (hB1W.An rfl)) rfl⟩) (aC (.inr ⟨rfl,TU.open (d:=11) rfl (by rintro _ ⟨b,rfl,kv,hI,hV,hK⟩;obtain⟨⟨k0,sv⟩,hkv,e0⟩:=aq.1 ((hK f.Kind).2 hkn);cases e0;exact TU.p (.Ek (ok:=false) ng lh (.t rfl) (.t rfl) hI hkv) (hV _ _ hkv))⟩) (aC (.inl (.inl rfl)) (aC (.inl (.inr rfl)) ?_)))))
   exact allL.nil
  intro wT B4 g hU hBn hB4 hg
  have hUT:=(Up.drew _).trans hU
  obtain⟨v1,v2,e14,hs1,hs2⟩:=hg 3 _ 14 cQ rfl rfl
  rw[e14]at hB4
  obtain⟨⟨ad,cp,rfl,hE1⟩,hT0⟩:=hs1
  obtain⟨⟨ad2,cp2,rfl,hE2⟩,_⟩:=hs2
  replace hB4:Blk wT B4 #[.slice ad (fieldsOf f.Kind).length cp,.slice ad2 (Fo f.Kind).length cp2,.func (.func (F0 (Ei f.Kind))) #[] #[],.bool (Ey f.Kind)] 121:=hB4
  have hB1X:=hB1T.up hUT
  replace hU0:=hU0.trans hUT
  have hB14:B1≠B4:=fun e=>by have:=hB1T.lt;have:=(Up.drew w2).size;omega
  have zB4:w0.heap.size≤B4:=by have:=hS.size;have:=(Up.drew w2).size;omega
  have hE0:ElT wT ad 158 3 Fld.cells (fieldsOf f.Kind):=⟨hE1,fun B o e=>hT0 B o _ _ (by rw[e])⟩
  replace hS:Wx.Sep no w0 wT [Ch B1 f.cells 51,Ch B4 #[.slice ad (fieldsOf f.Kind).length cp,.slice ad2 (Fo f.Kind).length cp2,.func (.func (F0 (Ei f.Kind))) #[] #[],.bool (Ey f.Kind)] 121]:=⟨hU0.fr _,fun A hA=>by simp only[ap,ba,b8]at hA;rcases hA with rfl|rfl;exact⟨hB1X,hS.foot 0 rfl⟩;exact⟨hB4,fun i(e:i=B4)=>.inr oQ⟩,List.Pairwise.cons (fun A hA i(e1:i=B1)=>by simp only[aa]at hA;subst hA;exact fun(e2:i=B4)=>hB14 (e1.symm.trans e2)) (gv _ _)⟩
  refine Ar (Aa (I (.build (cs:=#[.pointer none,.slice none 0 0]) underlying113 zeroValue113 Mz .nil rfl) (Ao (.bA rfl) rfl ?_)))
  rintro _ w3 ⟨B16,rfl,NB16⟩
  replace hE0:=hE0.up NB16.up
  replace hS:=hS.Bn NB16
  refine LW.A rfl (Ar ?_)
  replace hS:=jM (Bs:=[_,_]) (e:=5) hS
  refine Eo 11 [.eq (.pointer (some ⟨B16,0,none⟩)),.eq (.pointer (some ⟨B1,0,none⟩)),.eq (vi f.Kind),.eq (.pointer (some ⟨B1,2,none⟩)),.eq (vi f.Version),.eq (.pointer (some ⟨B1,3,none⟩)),.eq (vi f.Day),.eq (.pointer (some ⟨B1,4,none⟩)),.eq (.bool f.Gone),.eq (vi (J5 f.Gone)),.pred (fun v w=>SlT 3 w v 1 Cm [f.Kind,f.Version,f.Day,J5 f.Gone])] [17,27] kQ rfl kQ kQ kQ kQ kQ kQ kQ ⟨nm,nm,nm,nm,nm,nm,nm,nm,nm,nm,PhU.pred fun _ _ _ h u=>SlT.H9 h u.H9,trivial⟩ ?_ ?_
  ·intro W hU0
   have hU:=(Up.drew w3).trans hU0
   refine aC ⟨rfl,TU.p (.mv rfl) rfl⟩ (aC ⟨rfl,TU.p (.fB 0 rfl) rfl⟩ (aC ⟨rfl,TU.p (.lb rfl ((hS.b0.up hU).An rfl)) rfl⟩ (aC ⟨rfl,TU.p (.fB 2 rfl) rfl⟩ (aC ⟨rfl,TU.p (.lb rfl ((hS.b0.up hU).An rfl)) rfl⟩ (aC ⟨rfl,TU.p (.fB 3 rfl) rfl⟩ (aC ⟨rfl,TU.p (.lb rfl ((hS.b0.up hU).An rfl)) rfl⟩ (aC ⟨rfl,TU.p (.fB 4 rfl) rfl⟩ (aC ⟨rfl,TU.p (.lb rfl ((hS.b0.up hU).An rfl)) rfl⟩ (aC ⟨rfl,TU.c (eC (.o rfl) (IE)) (rG f.Gone _) sQ⟩ (aC ⟨rfl,TU.r (REv.buildSlice (xs:=[f.Kind,f.Version,f.Day,J5 f.Gone]) (enc:=Cm) (mk:=vi) lg lf ls rfl cQ (fun _=>rfl) (fun _=>rfl) (.ct rfl (.ct rfl (.ct rfl (.cu rfl)))) rfl) (by rintro _ W1 ⟨B,c,rfl,N,y,x⟩;exact⟨N.up,SlT.lit ⟨B,c,rfl,N,y,x⟩⟩)⟩ ?_))))))))))
   exact allL.nil
  intro w4 g hU0 hg
  have hU:=(Up.drew w3).trans hU0
  replace hS:=hS.up hU
  replace hE0:=hE0.up hU
  have e17:g 17=.pointer (some ⟨B16,0,none⟩):=hg 0 _ 17 cQ rfl rfl
  obtain⟨⟨ad3,cp3,e27,hE27⟩,hT27⟩:=hg 10 _ 27 cQ rfl rfl
  change LW _ _ _ _ _ _ _ _ ((17,.eq (g 17))::(27,.eq (g 27))::_) _
  rw[e17,e27]
  have hA0:=hS.get 2 rfl
  refine A3 (eC (.u rfl rfl) (CT)) rfl (rF B16 ad3 cp3 [f.Kind,f.Version,f.Day,J5 f.Gone] ⟨B16,false,.slice none 0 0⟩ _ _ (hS.get 2 rfl) rfl hE27 (fun B o e=>by obtain⟨cs,x,hc⟩:=hT27 B o _ _ (by rw[e27,e]);exact Kk hA0 hc rfl rfl) (by simp)) ?_
  rintro _ w5 ⟨rfl,D1,hb1,uw5⟩
  replace hS:=hS.E5 2 rfl uw5
  replace hE0:=hE0.fr uw5.fr (fun B cs x hc=>Kk hA0 hc rfl rfl)
  refine Ar (Aa (Ac rfl (I (.lc rfl (hS.b0.agg)) (I (.fB 0 rfl) (I (.lb rfl (hS.b1.An rfl)) (A3 (eC (.u rfl rfl) (GM)) rfl (Ss f ad _ cp _) ?_))))))
  rintro _ w6 ⟨⟨Ba,Bb,rfl,hBa,hBb⟩,uw6⟩
  replace hS:=hS.up uw6
  replace hE0:=hE0.up uw6
  refine A3 (eC (.u rfl rfl) (GL)) rfl (Xe B16 Ba Bb ad cp _ f D1 _ _ (hS.get 2 rfl) hb1 hBa hBb hE0.els (fun B o e=>by obtain⟨cs,x,hc⟩:=hE0.ty B o e;exact⟨lt_of_block hc,Kk (hS.get 2 rfl) hc rfl rfl⟩) (xS f) (Nx f.Kind)) ?_
  rintro _ w7 ⟨rfl,D2,hb2,uw7⟩
  replace hS:=hS.E5 2 rfl uw7
  rw[eo,←N1]at hS
  have hKL:[f.Kind,f.Version,f.Day,J5 f.Gone]++Fe (fieldsOf f.Kind) f=K7 f:=rfl
  rw[hKL]at hS
  refine Ar (Af (I (.fB 3 rfl) (I (.lb rfl (hS.b1.An rfl)) (Ai (CW.b rfl (fun h36=>?_) (fun h36=>?_))))))
  ·replace h36:=dQ h36
   refine Af (I (.fB 18 rfl) (I (.lb rfl (hS.b0.An rfl)) (A3 (eC (.o rfl) (IF)) rfl (Wd f.Text _ (by have:=Hg hq1;omega)) ?_)))
   rintro _ w8 ⟨rfl,uw8⟩
   replace hS:=hS.up uw8
   refine Ac rfl (I (.xt rfl rfl) (I (.xt rfl rfl) (LW.A rfl (LW.A rfl (Ai (Aa (Ac rfl (I (.nc rfl) (I (.fB 0 rfl) (Ac rfl (A3 (eC (.u rfl rfl) (GV)) rfl (Ox B16 _ D2 _ _ (hS.get 2 rfl) hb2 (by rw[D8];have:=Qh f.Text.data.toList;rw[Nz]at this;have:=Hg hq1;have:=Y1 f;omega)) ?_)))))))))))
   rintro _ w9 ⟨rfl,bf,uw9⟩
   replace hS:=hS.E5 2 rfl uw9
   refine Ar ?_
   obtain⟨D3,hb3,hS3⟩:∃D3:Wri,D3.bd=B16∧Wx.Sep no w0 w9 [Ch B1 f.cells 51,Ch B4 #[.slice ad (fieldsOf f.Kind).length cp,.slice ad2 (Fo f.Kind).length cp2,.func (.func (F0 (Ei f.Kind))) #[] #[],.bool (Ey f.Kind)] 121,Ep 113 5 D3 (Hb f)]:=by exact⟨⟨B16,true,bf⟩,rfl,by rw[←mN (a8 h36)];exact hS⟩
   replace hS:=hS3
   refine Aa (Ac rfl (I (.nc rfl) (I (.fB 0 rfl) (A3 (eC (.o rfl) (CU)) rfl (Uk B16 D3 _ _ (hS.get 2 rfl) hb3 (kE hq1) (by have:=kG hq1;omega)) ?_))))
   rintro _ w10 ⟨rfl,hF⟩
   refine LW.A rfl (J (Ai (Aj (Br rfl rfl rfl ⟨_,rfl,?_⟩))))
   rw[Ib,H0,ak hq1,ak hq1]
   exact⟨rfl,(hS.fr.next hF (hS.foot 2 rfl)).fD (fun _ h=>h)⟩
  replace h36:=dQ h36
  refine Ak (Ab (Al ?_))
  obtain⟨D3,hb3,hS3⟩:∃D3:Wri,D3.bd=B16∧Wx.Sep no w0 w7 [Ch B1 f.cells 51,Ch B4 #[.slice ad (fieldsOf f.Kind).length cp,.slice ad2 (Fo f.Kind).length cp2,.func (.func (F0 (Ei f.Kind))) #[] #[],.bool (Ey f.Kind)] 121,Ep 113 5 D3 (Hb f)]:=by exact⟨D2,hb2,by rw[←xU (bg h36)];exact hS⟩
  replace hS:=hS3
  refine Aa (Ac rfl (I (.nc rfl) (I (.fB 0 rfl) (A3 (eC (.o rfl) (CU)) rfl (Uk B16 D3 _ _ (hS.get 2 rfl) hb3 (kE hq1) (by have:=kG hq1;omega)) ?_))))
  rintro _ w11 ⟨rfl,hF⟩
  refine LW.A rfl (J (Ai (Aj (Br rfl rfl rfl ⟨_,rfl,?_⟩))))
  rw[Ib,H0,ak hq1,ak hq1]
  exact⟨rfl,(hS.fr.next hF (hS.foot 2 rfl)).fD (fun _ h=>h)⟩
 |false=>
  refine Aa (I (.lc rfl (hS.b0.agg)) (A3 (eC (.o rfl) (wS)) rfl (Ny f _) ?_))
  rintro _ w12 ⟨rfl,uw12⟩
  replace hS:=hS.up uw12
  refine I (.tr (PEv.n1 rfl) (by rw[hq1];rfl)) (Ai (CW.v rfl (Af (J (J (Ai (Aj (Ah (Br rfl rfl rfl ⟨_,rfl,?_⟩)))))))))
  rw[Ib,H0,ae (by rw[hq1];exact bi),ae (by rw[hq1];exact bi)]
  exact⟨rfl,hS.Cj⟩
theorem Qm(a b:ByteArray)(w:World):Ret prog 165 #[.string a,.string b] w fun r w'=>r=vi (Go.Lib.compareBytes a.data.toList b.data.toList)∧Up w w':=by
 have hW:=Up.refl w
 refine cT 8 func165 rfl (Af (J (Ar (Aa (Ac rfl (Ac rfl (I (.ext (.ct rfl (.cu rfl)) (V9 func206 rfl rfl kQ kQ _ _)) (LW.A rfl (Ai (Aj (KW.q ?_)))))))))))
 exact⟨rfl,hW⟩
theorem bN(a b:ByteArray)(w:World):Ret prog 96 #[.string a,.string b] w fun r w'=>r=vi (Go.Lib.compareBytes a.data.toList b.data.toList)∧Up w w':=by
 have hW:=Up.refl w
 refine cT 8 func96 rfl (Af (J (Ar (Aa (Ac rfl (Ac rfl (A3 (eC (.u rfl rfl) (IG)) rfl (Qm a b _) ?_)))))))
 rintro _ w1 ⟨rfl,uw1⟩
 replace hW:=hW.up uw1
 refine LW.A rfl (Ai (Aj (KW.q ?_)))
 exact⟨rfl,hW⟩
theorem Qn(a b:Fact)(w:World):Ret prog 47 #[.agg a.cells,.agg b.cells] w fun r w'=>r=.bool (Dz a b)∧Up w w':=by
 have hW:=Up.refl w
 refine cT 44 func47 rfl (Af (Ao (.bA rfl) rfl ?_))
 rintro _ w1 ⟨B2,rfl,NB2⟩
 replace hW:=hW.up NB2.up
 have hB2:=NB2.blk
 refine Ao (.bA rfl) rfl ?_
 rintro _ w2 ⟨B3,rfl,NB3⟩
 replace hW:=hW.up NB3.up
 replace hB2:=hB2.up NB3.up
 have hB3:=NB3.blk
 refine J (Ar (Aa (I (.lc rfl (hB2.agg)) (A3 (eC (.o rfl) (GS)) rfl (Ul a _) ?_))))
 rintro _ w3 ⟨rfl,uw3⟩
 replace hW:=hW.up uw3
 replace hB2:=hB2.up uw3
 replace hB3:=hB3.up uw3
 refine Ac rfl (I (.xt rfl rfl) (I (.xt rfl rfl) (LW.A rfl (LW.A rfl (Ar (Aa (I (.lc rfl (hB3.agg)) (A3 (eC (.o rfl) (GS)) rfl (Ul b _) ?_))))))))
 rintro _ w4 ⟨rfl,uw4⟩
 replace hW:=hW.up uw4
 replace hB2:=hB2.up uw4
 replace hB3:=hB3.up uw4
 refine Ac rfl (I (.xt rfl rfl) (I (.xt rfl rfl) (LW.A rfl (LW.A rfl (Ar (Ap (Al (Al ?_))))))))
 cases hq3:Bw a with
 |false=>
  refine Aa (Ac rfl (I (.tr (PEv.neq (.t rfl) (.const _)) (by rw[H0,ae (by rw[hq3];exact bi)];rfl)) (LW.A rfl (Ai (CW.v rfl (Ak (Ab (CW.v rfl (Af (J (Ai (Aj (Aw (Ah (KW.q ?_)))))))))))))))
  refine⟨a_ Go.Value.bool ?_,hW⟩
  exact Qj (by rw[hq3];rfl)
 |true=>
  refine Aa (Ac rfl (I (.fa (PEv.neq (.t rfl) (.const _)) (by rw[H0,ak hq3];rfl)) (LW.A rfl (Ai (CW.f rfl (Al ?_))))))
  cases hq4:Bw b with
  |false=>
   refine Aa (Ac rfl (I (.tr (PEv.neq (.t rfl) (.const _)) (by rw[H0,ae (by rw[hq4];exact bi)];rfl)) (LW.A rfl (Ai (CW.v rfl (Ak (Ab (CW.v rfl (Af (J (Ai (Aj (Aw (Ah (KW.q ?_)))))))))))))))
   refine⟨a_ Go.Value.bool ?_,hW⟩
   exact Qj (by rw[hq3,hq4];rfl)
  |true=>
   refine Aa (Ac rfl (I (.fa (PEv.neq (.t rfl) (.const _)) (by rw[H0,ak hq4];rfl)) (LW.A rfl (Ai (CW.f rfl (Cg kQ kQ rfl rfl (Am (.lc rfl (hB2.agg)) (HW.c (fun a w _ ha=>Bq (.cu rfl) (pM) a ha) rfl rfl (fun w hu=>Ql a w) (Am (.lc rfl (hB3.agg)) (HW.c (fun a w _ ha=>Bq (.cu rfl) (pM) a ha) rfl rfl (fun w hu=>Ql b w) (Am (.fE (.t rfl) (.t rfl)) (Am (.assign (.t rfl)) (HW.nil ?_)))))))))))))
   intro w5 uw5
   replace hW:=hW.up uw5
   replace hB2:=hB2.up uw5
   replace hB3:=hB3.up uw5
   refine Ab (CW.b rfl (fun h19=>?_) (fun h19=>?_))
   ·refine Af (J (Ai (Aj (Aw (Ah (KW.q ?_))))))
    refine⟨a_ Go.Value.bool ?_,hW⟩
    exact qV h19
   refine Af (I (.fB 2 rfl) (I (.lb rfl (hB2.An rfl)) (I (.fB 2 rfl) (I (.lb rfl (hB3.An rfl)) (I (.neq (.t rfl) (.t rfl)) (LW.A rfl (Ai (CW.b rfl (fun h29=>?_) (fun h29=>?_)))))))))
   ·refine Af (I (.fB 2 rfl) (I (.lb rfl (hB2.An rfl)) (I (.fB 2 rfl) (I (.lb rfl (hB3.An rfl)) (I (.gtr (.t rfl) (.t rfl)) (LW.A rfl (Ai (Aj (Aw (Ah (KW.q ?_)))))))))))
    refine⟨a_ Go.Value.bool ?_,hW⟩
    exact qW hq3 hq4 h19 h29
   refine Ak (Ae (Ab (Af (Ac rfl (Ac rfl (A3 (eC (.u rfl rfl) (NL)) rfl (bN _ _ _) ?_))))))
   rintro _ w6 ⟨rfl,uw6⟩
   replace hW:=hW.up uw6
   replace hB2:=hB2.up uw6
   replace hB3:=hB3.up uw6
   refine I (.gtr (.t rfl) (.const _)) (LW.A rfl (Ai (Aj (KW.q ?_))))
   refine⟨a_ Go.Value.bool ?_,hW⟩
   exact qX hq3 hq4 h19 h29
end Go.Proofs.YtbcnnkfopoiifaaGreatDoor
namespace Go.Wx
open Go.RowKit
theorem Y6{d d':Nat}{p q:Op}{t t':TypeId}{s s':String}{a a':Array Edge}{g g':Option (Nat×Bool)}(h:some (⟨some d,p,t,s,a,g⟩:Oper)=some ⟨some d',q,t',s',a',g'⟩):d=d':=by
 injection h with h
 injection h with h
 injection h
theorem KG{d d':Option Nat}{x x':Operand}{y y':Nat}{T T' t t':TypeId}{s s':String}{a a':Array Edge}{g g':Option (Nat×Bool)}(h:some (⟨d,.store T x (.tmp y),t,s,a,g⟩:Oper)=some ⟨d',.store T' x' (.tmp y'),t',s',a',g'⟩):y=y':=by
 injection h with h
 injection h with _ h
 injection h with _ _ h
 injection h
structure Bv where
 ia:Nat
 is:Nat
 isv:Nat
 sa:Nat
 sv:Nat
def I9(v:Value)(B:Nat):Prop:=v=.pointer (some ⟨B,0,none⟩)
section
variable {R:Option Nat}{m:Nat}{P:Program}{n:Nat}{ds:List Deferred}{Q:Exit→Go.Act→World→Prop}{l:Env}{w:World}{ops:Array Oper}
def KH(bs:List Bv)(T:TypeId)(z:Array Value)(w0:World)(L:Nat→Bool)(f:Nat→Value)(W:World):Prop:=
 Up w0 W∧(∀b∈bs,(L b.is=true→L b.ia=true)∧(L b.ia=true→∃B,I9 (f b.sa) B∧w0.heap.size≤B∧Blk W B (if L b.is=true then(f b.sv).cells else z) T))∧
   bs.Pairwise fun b c=>L b.ia=true→L c.ia=true→∀B,I9 (f b.sa) B→¬I9 (f c.sa) B
def fV(bs:List Bv):Bool:=bs.all fun b=>bs.all fun c=>(!Nat.beq b.ia c.is)&&((Nat.beq b.ia c.ia&&Nat.beq b.is c.is)||(!Nat.beq b.ia c.ia&& !Nat.beq b.is c.is&& !Nat.beq b.sa c.sa))
theorem Lh{bs:List Bv}(h:fV bs=true){b c:Bv}(hb:b∈bs)(hc:c∈bs):b.ia≠c.is∧((b.ia=c.ia∧b.is=c.is)∨(b.ia≠c.ia∧b.is≠c.is∧b.sa≠c.sa)):=by
 have h1:=b7.1 (b7.1 h b hb) c hc
 simp only[aw,f8,gn]at h1
 refine⟨fun e=>?_,?_⟩
 · have:=h1.1;rw[e]at this;simp at this
 rcases h1.2 with⟨a,b⟩|⟨⟨a,b⟩,c⟩
 · exact .inl ⟨ci a,ci b⟩
 exact .inr ⟨fun e=>by rw[e]at a;simp at a,fun e=>by rw[e]at b;simp at b,fun e=>by rw[e]at c;simp at c⟩
theorem AWF.vars{k:Nat}{bs:List Bv}{T:TypeId}{z:Array Value}{base:Env}(ph:Nat→Ph){f0:Nat→Value}(hz:∀w,(zeroValue T).run P w=.ok (.agg z) w)(hs:∀w,(sizeOf T).run P w=.ok z.size w)
   (hph:∀i v w w',(ph i).holds v w→KeepT T w w'→(ph i).holds v w')(hA:Ea ops=true)(hC:(Nat.beq k ops.size||Fm ops k)=true)(hF:I8 ops k=true)(hks:Nat.ble k ops.size=true)
   (hD:Ht n ops 0 k=true)(hbp:Cf base=true)(hbd:∀i ph,lk base i=some ph→∀(j:Nat)(o:Oper),0≤j→j<k→ops[j]?=some o→o.dst≠some i)(hv:fV bs=true)(hnd:bs.Pairwise fun b c=>b.ia≠c.ia)
   (hlit:∀b∈bs,Qe ops b.ia [(b.is,0,b.sv)]=true)(hk:∀b∈bs,b.is<k∧b.ia<k)
   (hia:∀b∈bs,∃ty ps af,ops[b.ia]?=some ⟨some b.sa,.alloc T,ty,ps,af,none⟩)(his:∀b∈bs,∃ty ps af,ops[b.is]?=some ⟨none,.store T (.tmp b.sa) (.tmp b.sv),ty,ps,af,none⟩)
   (hlk:∀b∈bs,∀o,ops[b.is]?=some o→lk (Py ops ph 0 o++base) b.sv=some (ph b.isv))(hsv:∀b∈bs,∀v W,(ph b.isv).holds v W→∃cs,v=.agg cs∧cs.size=z.size∧cs.all (·.oneCell')=true)
   (hpa:∀b∈bs,∀B W,(ph b.ia).holds (.pointer (some ⟨B,0,none⟩)) W)
   (hop:∀i o,i<k→(∀b∈bs,i≠b.ia∧i≠b.is)→ops[i]?=some o→o.guard=none∧∀W,KeepT T w W→∀a,Ag n ds (Py ops ph 0 o++base) a W→eS P o a W (fun v W'=>Up W W'∧(ph i).holds v W'))
   (hend:∀f W,Up w W→(∀b∈bs,∃B,I9 (f b.sa) B∧w.heap.size≤B∧Blk W B (f b.sv).cells T)→(bs.Pairwise fun b c=>∀B,I9 (f b.sa) B→¬I9 (f c.sa) B)→AWF R m P n ds ops Q k (Hu ops ph 0 k++base) f W):AWF R m P n ds ops Q 0 base f0 w:=by
 have ptr1:∀{v:Value}{B B':Nat},I9 v B→I9 v B'→B=B':=fun h1 h2=>by unfold I9 at h1 h2;rw[h1]at h2;cases h2;rfl
 refine Kl ph (KeepT T) (KH bs T z w) (KeepT.refl T) (fun _ _ _=>KeepT.trans) hph hA hC hF hks (by simp) hD hbp hbd ?_ ⟨Up.refl w,fun b hb=>⟨fun h=>by simp at h,fun h=>by simp at h⟩,List.pairwise_iff_forall_sublist.2 fun _ h=>by simp at h⟩ ?_
 · intro i o _ hi hio L f W hRel hDn hLi hed hInv
   obtain⟨hUp,hB,hP⟩:=hInv
   -- slots of addresses are written by their allocs alone
   have saOf:∀c∈bs,c.ia≠i→o.dst≠some c.sa:=fun c hc hne ed=>by
     obtain⟨ty,ps,af,h⟩:=hia c hc
     exact(D7 hD (ao _) hi hio ed).2 c.ia _ (ao _) (hk c hc).2 hne h rfl
   have svOf:∀c∈bs,L c.is=true→o.dst≠some c.sv:=fun c hc hLs ed=>by
     obtain⟨os,hos,hods,⟨e,he,hbe,hon⟩,⟨e',he',hbe',pv,hpv,hpvd⟩⟩:=Hv (hlit c hc) bp
     have h2:=hDn _ _ hos hLs e' he' hbe'
     have h3:=D4 hA hos e' he' hbe'
     have h4:=(hk c hc).1
     by_cases ee:e'.on=i
     · rw[ee,hLi]at h2;cases h2
     exact(D7 hD (ao _) hi hio ed).2 e'.on pv (ao _) (by have h3':e'.on<c.is:=h3;omega) ee hpv hpvd
   by_cases e0:∃b∈bs,i=b.ia
   · obtain⟨b,hb,rfl⟩:=e0
     obtain⟨ty,ps,af,hia0⟩:=hia b hb
     rw[hio]at hia0;cases hia0
     intro a ha hsl
     rw[ak (by simp[Region.wanted])]
     obtain⟨v,W',hr,B,rfl,N⟩:=REv.Bi (P:=P) (n:=n) (ds:=ds) (l:=Py ops ph 0 _++base) (w:=W) (d:=some b.sa) (ty:=ty) (ps:=ps) (af:=af) (g:=none) hz a ha
     have hLs:L b.is=false:=by
       cases h:L b.is with
       |false=>rfl
       |true=>rw[(hB b hb).1 h]at hLi;cases hLi
     have ne:∀c∈bs,c.is≠b.ia:=fun c hc=>Ne.symm (Lh hv hb hc).1
     have old:∀c∈bs,c.ia≠b.ia→Dr L b.ia c.ia=L c.ia∧G0 f (some b.sa) (.pointer (some ⟨B,0,none⟩)) c.sa=f c.sa:=fun c hc hne=>by
       have h1:b.sa≠c.sa:=by
         rcases(Lh hv hb hc).2 with⟨h,_⟩|⟨_,_,h⟩
         · exact absurd h.symm hne
         exact h
       exact⟨by simp[Dr,hne],by simp[G0,h1]⟩
     refine .inl (.inl ⟨_,W',hr,N.up.Da,fun _ _=>hpa b hb B W',hUp.trans N.up,fun c hc=>?_,?_⟩)
     · have ns:Dr L b.ia c.is=L c.is:=by simp[Dr,ne c hc]
       by_cases hcb:c.ia=b.ia
       · have hsa:c.sa=b.sa:=by
           obtain⟨_,_,_,h⟩:=hia c hc
           rw[hcb,hio]at h;exact(Y6 h).symm
         have his':c.is=b.is:=by
           rcases(Lh hv hc hb).2 with⟨_,h⟩|⟨h,_⟩
           · exact h
           exact absurd hcb h
         refine⟨fun _=>by rw[hcb];simp[Dr],fun _=>⟨B,by rw[hsa];simp[I9,G0],by rw[N.at_];exact hUp.size,?_⟩⟩
         rw[ns,his',hLs]
         exact N.blk
       obtain⟨o1,o2⟩:=old c hc hcb
       refine⟨fun h=>by rw[o1];rw[ns]at h;exact(hB c hc).1 h,fun h=>?_⟩
       rw[o1]at h
       obtain⟨B',h1,h2,h3⟩:=(hB c hc).2 h
       refine⟨B',by rw[o2];exact h1,h2,?_⟩
       rw[ns]
       cases hLc:L c.is with
       |false=>rw[hLc]at h3;exact h3.up N.up
       |true=>
         rw[hLc]at h3
         have h4:G0 f (some b.sa) (.pointer (some ⟨B,0,none⟩)) c.sv=f c.sv:=by
           have h5:=svOf c hc hLc
           have h6:b.sa≠c.sv:=fun e=>h5 (by rw[e])
           simp[G0,h6]
         rw[h4]
         exact h3.up N.up
     refine List.Pairwise.imp_of_mem ?_ (hnd.and hP)
     rintro c c' hc hc' ⟨hne,hp⟩ h1 h2 X hx hx'
     by_cases ec:c.ia=b.ia
     · have ec':c'.ia≠b.ia:=fun e=>hne (ec.trans e.symm)
       obtain⟨q1,q2⟩:=old c' hc' ec'
       rw[q1]at h2;rw[q2]at hx'
       obtain⟨B',h3,_,h5⟩:=(hB c' hc').2 h2
       have hsa:c.sa=b.sa:=by
         obtain⟨_,_,_,h⟩:=hia c hc
         rw[ec,hio]at h;exact(Y6 h).symm
       have hxB:X=B:=ptr1 hx (by rw[hsa];simp[I9,G0])
       have:=ptr1 hx' h3
       have h6:=h5.lt
       rw[N.at_]at hxB
       omega
     obtain⟨q1,q2⟩:=old c hc ec
     rw[q1]at h1;rw[q2]at hx
     by_cases ec':c'.ia=b.ia
     · obtain⟨B',h3,_,h5⟩:=(hB c hc).2 h1
       have hsa:c'.sa=b.sa:=by
         obtain⟨_,_,_,h⟩:=hia c' hc'
         rw[ec',hio]at h;exact(Y6 h).symm
       have hxB:X=B:=ptr1 hx' (by rw[hsa];simp[I9,G0])
       have:=ptr1 hx h3
       have h6:=h5.lt
       rw[N.at_]at hxB
       omega
     obtain⟨q1',q2'⟩:=old c' hc' ec'
     rw[q1']at h2;rw[q2']at hx'
     exact hp h1 h2 X hx hx'
   have e0':∀b∈bs,b.ia≠i:=fun b hb e=>e0 ⟨b,hb,e.symm⟩
   by_cases e1:∃b∈bs,i=b.is
   · obtain⟨b,hb,rfl⟩:=e1
     obtain⟨os,hos,hods,⟨e,he,hbe,hon⟩,_⟩:=Hv (hlit b hb) bp
     have hLa:L b.ia=true:=by rw[hos]at hio;cases hio;rw[←hon];exact hed e he hbe
     obtain⟨ty,ps,af,his0⟩:=his b hb
     rw[hio]at his0;cases his0
     intro a ha hsl
     rw[ak (by simp[Region.wanted])]
     obtain⟨B,h1,hBs,hblk⟩:=(hB b hb).2 hLa
     rw[hLi]at hblk
     obtain⟨cs,hcs,hcz,hc1⟩:=hsv b hb _ W (ha.val b.sv _ (hlk b hb _ hio))
     have hfs:f b.sv=.agg cs:=by rw[←hsl];exact hcs
     have hsn:b.sa≠b.sv:=fun e'=>by unfold I9 at h1;rw[e',hfs]at h1;cases h1
     have hag:Ag n ds [(b.sv,.eq (.agg cs)),(b.sa,.eq (.pointer (some ⟨B,0,none⟩)))] a W:=by
       refine⟨ha.defers,ha.size,fun t q ht=>?_⟩
       by_cases e1:t=b.sv
       · subst e1;rw[Bk]at ht;cases ht;exact hcs
       rw[Bl e1]at ht
       by_cases e2:t=b.sa
       · subst e2;rw[Bk]at ht;cases ht;exact(hsl _).trans h1
       rw[Bl e2]at ht;cases ht
     obtain⟨W',hr,hset⟩:=SEv.A5 (P:=P) (n:=n) (ds:=ds) (w:=W) (l:=[(b.sv,.eq (.agg cs)),(b.sa,.eq (.pointer (some ⟨B,0,none⟩)))]) (x:=.tmp b.sa) (y:=.tmp b.sv) (ty:=ty) (ps:=ps) (af:=af) (g:=none) hs hcz (.tmp (by rw[Bl hsn,Bk])) (.tmp Bk) hc1 hblk (by simp) a hag
     have na:∀c∈bs,Dr L b.is c.ia=L c.ia:=fun c hc=>by
       have:=(Lh hv hc hb).1
       simp[Dr,this]
     refine .inr ⟨W',hr,hset.sto.Da (by rw[hset.size];exact av _) hblk,(fun d hd=>by cases hd),hUp.sto hset.sto hBs,fun c hc=>?_,?_⟩
     · by_cases hcb:c.is=b.is
       · have hca:c.ia=b.ia∧c.sa=b.sa:=by
           rcases(Lh hv hc hb).2 with⟨h,_⟩|⟨_,h,_⟩
           · refine⟨h,?_⟩
             obtain⟨_,_,_,h1⟩:=hia c hc
             obtain⟨_,_,_,h2⟩:=hia b hb
             rw[h,h2]at h1;exact(Y6 h1).symm
           exact absurd hcb h
         have hcv:c.sv=b.sv:=by
           obtain⟨_,_,_,h1⟩:=his c hc
           rw[hcb,hio]at h1;exact(KG h1).symm
         refine⟨fun _=>by rw[na c hc,hca.1];exact hLa,fun _=>⟨B,by rw[hca.2];exact h1,hBs,?_⟩⟩
         have h2:Dr L b.is c.is=true:=by simp[Dr,hcb]
         rw[h2,ak rfl,hcv]
         show Blk W' B (f b.sv).cells T
         rw[hfs]
         exact hset.blk
       have ns:Dr L b.is c.is=L c.is:=by simp[Dr,hcb]
       refine⟨fun h=>by rw[na c hc];rw[ns]at h;exact(hB c hc).1 h,fun h=>?_⟩
       rw[na c hc]at h
       obtain⟨B',h3,h4,h5⟩:=(hB c hc).2 h
       have hne:B'≠B:=by
         have hcne:c≠b:=fun e=>hcb (by rw[e])
         intro e
         subst e
         rcases fb.1 hc with⟨ic,hic,ec⟩
         rcases fb.1 hb with⟨ib,hib,eb⟩
         rcases jk ic ib with q|q|q
         · have:=fe.1 hP ic ib hic hib q
           rw[ec,eb]at this
           exact this h hLa B' h3 h1
         · subst q;exact hcne (ec.symm.trans eb)
         have:=fe.1 hP ib ic hib hic q
         rw[ec,eb]at this
         exact this hLa h B' h1 h3
       refine⟨B',h3,h4,?_⟩
       rw[ns]
       exact h5.sto hset.sto hne
     refine List.Pairwise.imp_of_mem ?_ hP
     intro c c' hc hc' hp h1 h2 X hx hx'
     rw[na c hc]at h1
     rw[na c' hc']at h2
     exact hp h1 h2 X hx hx'
   have e1':∀b∈bs,b.is≠i:=fun b hb e=>e1 ⟨b,hb,e.symm⟩
   obtain⟨hg,hop⟩:=hop i o hi (fun b hb=>⟨Ne.symm (e0' b hb),Ne.symm (e1' b hb)⟩) hio
   intro a ha hsl
   rw[ak (by simp[Region.wanted,hg])]
   have done:∀v W',Up W W'∧(ph i).holds v W'→KeepT T W W'∧(∀d,o.dst=some d→(ph i).holds v W')∧KH bs T z w (Dr L i) (G0 f o.dst v) W':=by
     rintro v W' ⟨hu,hv'⟩
     have ela:∀c∈bs,Dr L i c.ia=L c.ia:=fun c hc=>by simp[Dr,e0' c hc]
     have els:∀c∈bs,Dr L i c.is=L c.is:=fun c hc=>by simp[Dr,e1' c hc]
     have esa:∀c∈bs,G0 f o.dst v c.sa=f c.sa:=fun c hc=>by simp[G0,saOf c hc (e0' c hc)]
     refine⟨hu.Da,fun _ _=>hv',hUp.trans hu,fun c hc=>⟨fun h=>by rw[ela c hc];rw[els c hc]at h;exact(hB c hc).1 h,fun h=>?_⟩,?_⟩
     · rw[ela c hc]at h
       obtain⟨B,h1,h2,h3⟩:=(hB c hc).2 h
       refine⟨B,by rw[esa c hc];exact h1,h2,?_⟩
       rw[els c hc]
       cases hLc:L c.is with
       |false=>rw[hLc]at h3;exact h3.up hu
       |true=>
         rw[hLc]at h3
         have h4:G0 f o.dst v c.sv=f c.sv:=by simp[G0,svOf c hc hLc]
         rw[h4]
         exact h3.up hu
     refine List.Pairwise.imp_of_mem ?_ hP
     intro c c' hc hc' hp h1 h2 X hx hx'
     rw[ela c hc]at h1;rw[ela c' hc']at h2
     rw[esa c hc]at hx;rw[esa c' hc']at hx'
     exact hp h1 h2 X hx hx'
   rcases hop W hRel a ha with⟨v,W',hr,hp⟩|⟨fn,args,w1,hr,hc⟩
   · exact .inl (.inl ⟨v,W',hr,done v W' hp⟩)
   exact .inl (.inr ⟨fn,args,w1,hr,hc.mono done⟩)
 intro f W hRel hInv
 obtain⟨hUp,hB,hP⟩:=hInv
 refine hend f W hUp (fun b hb=>?_) ?_
 · obtain⟨B,h1,h2,h3⟩:=(hB b hb).2 (by simpa using(hk b hb).2)
   rw[ak (by simpa using(hk b hb).1)]at h3
   exact⟨B,h1,h2,h3⟩
 refine List.Pairwise.imp_of_mem ?_ hP
 intro c c' hc hc' hp X hx hx'
 exact hp (by simpa using(hk c hc).2) (by simpa using(hk c' hc').2) X hx hx'
theorem CW.vars{id:Nat}{opsL:List Oper}(k:Nat)(bs:List Bv)(z:Array Value)(phs:List Ph)(keep:List Nat){T:TypeId}(hz:∀w,(zeroValue T).run P w=.ok (.agg z) w)(hs:∀w,(sizeOf T).run P w=.ok z.size w)(hm:P.follows .mixedOrders=true)(hl:Cf l=true)
   (hA:Ea opsL.toArray=true)(hC:(Nat.beq k opsL.toArray.size||Fm opsL.toArray k)=true)(hF:I8 opsL.toArray k=true)(hks:Nat.ble k opsL.toArray.size=true)(hD:Ht n opsL.toArray 0 k=true)(hTl:Hq opsL.toArray k=true)
   (hfree:K5 l (opsL.take k)=true)(hv:fV bs=true)(hnd:(bs.map (·.ia)).Nodup)(hlit:(bs.all fun b=>Qe opsL.toArray b.ia [(b.is,0,b.sv)])=true)(hk:(bs.all fun b=>Nat.ble (b.is+1) k&&Nat.ble (b.ia+1) k)=true)
   (hia:∀b∈bs,∃ty ps af,opsL[b.ia]?=some ⟨some b.sa,.alloc T,ty,ps,af,none⟩)(his:∀b∈bs,∃ty ps af,opsL[b.is]?=some ⟨none,.store T (.tmp b.sa) (.tmp b.sv),ty,ps,af,none⟩)(hph:allT T phs)
   (hlk:∀b∈bs,∀o,opsL[b.is]?=some o→lk (Py opsL.toArray (fun i=>phs.getD i (.eq undef)) 0 o++l) b.sv=some (phs.getD b.isv (.eq undef)))(hsv:∀b∈bs,∀v W,(phs.getD b.isv (.eq undef)).holds v W→∃cs,v=.agg cs∧cs.size=z.size∧cs.all (·.oneCell')=true)
   (hpa:∀b∈bs,∀B W,(phs.getD b.ia (.eq undef)).holds (.pointer (some ⟨B,0,none⟩)) W)
   (hop:∀W,KeepT T w.drew W→allL (fun i o=>(∃b∈bs,i=b.ia∨i=b.is)∨(o.guard=none∧TU P n ds (Py opsL.toArray (fun i=>phs.getD i (.eq undef)) 0 o++l) W o (phs.getD i (.eq undef)))) 0 (opsL.take k))
   (hend:∀W(g:Nat→Value),Up w.drew W→(∀b∈bs,∃B,I9 (g b.sa) B∧w.drew.heap.size≤B∧Blk W B (g b.sv).cells T)→(bs.Pairwise fun b c=>∀B,I9 (g b.sa) B→¬I9 (g c.sa) B)→(∀i o d,i<k→opsL[i]?=some o→o.dst=some d→(phs.getD i (.eq undef)).holds (g d) W)→LW R m P n ds opsL.toArray Q (opsL.drop k) (keep.map (fun d=>(d,.eq (g d)))++l) W):
   CW R m P n ds (.region id opsL.toArray true) Q l w:=by
 have hks':k≤opsL.length:=by have:=ah hks;simp at this;omega
 have sub:∀j o,j<k→opsL.toArray[j]?=some o→(opsL.take k)[j]?=some o:=fun j o hjk ho=>by
   rw[cz hjk];simpa using ho
 have hbd:∀i ph,lk l i=some ph→∀(j:Nat)(o:Oper),0≤j→j<k→opsL.toArray[j]?=some o→o.dst≠some i:=fun i ph hi j o _ hjk ho=>Gz hfree hi (am (sub j o hjk ho))
 have toL:∀(i:Nat)(o:Oper),opsL.toArray[i]?=some o→opsL[i]?=some o:=fun i o h=>by simpa using h
 refine Ga hm hl fun fuel listed a hf hu ha=>(AWF.vars (k:=k) (bs:=bs) (T:=T) (z:=z) (fun i=>phs.getD i (.eq undef)) (f0:=fun t=>a.tmps.getD t undef) hz hs (fun i v w w' h u=>(hph.at i) v w w' h u) hA hC hF hks hD hl hbd hv (g_.1 hnd) (fun b hb=>b7.1 hlit b hb) ?_ ?_ ?_ (fun b hb o ho=>hlk b hb o (toL _ _ ho)) hsv hpa ?_ ?_ fuel listed a hf hu ha (fun _=>rfl))
 · intro b hb
   have:=b7.1 hk b hb
   simp only[aw]at this
   exact⟨ah this.1,ah this.2⟩
 · intro b hb
   obtain⟨ty,ps,af,h⟩:=hia b hb
   exact⟨ty,ps,af,by simpa using h⟩
 · intro b hb
   obtain⟨ty,ps,af,h⟩:=his b hb
   exact⟨ty,ps,af,by simpa using h⟩
 · intro i o hi hn ho
   have h0:=(hop w.drew (KeepT.refl T _)).at (sub i o hi ho)
   rw[dp]at h0
   rcases h0 with⟨b,hb,e|e⟩|⟨hg,_⟩
   · exact absurd e (hn b hb).1
   · exact absurd e (hn b hb).2
   refine⟨hg,fun W hW a ha=>?_⟩
   have h3:=(hop W hW).at (sub i o hi ho)
   rw[dp]at h3
   rcases h3 with⟨b,hb,e|e⟩|⟨_,h⟩
   · exact absurd e (hn b hb).1
   · exact absurd e (hn b hb).2
   exact h a ha
 intro f W hUp hblk hpw fuel' listed' a' hf' hu' ha' hsl'
 have key:∀i o d,i<k→opsL[i]?=some o→o.dst=some d→(phs.getD i (.eq undef)).holds (f d) W:=by
   intro i o d hik ho hd
   have ho':opsL.toArray[i]?=some o:=by simpa using ho
   have hmem:(d,phs.getD i (.eq undef))∈Hu opsL.toArray (fun i=>phs.getD i (.eq undef)) 0 k:=by
     unfold Hu
     rw[ef]
     exact⟨i,bl.2 hik,by rw[ak (by simp),ho'];simp[hd]⟩
   obtain⟨q',hq⟩:=Hj hmem
   obtain⟨j,p,_,hjk,hp,hpd,e⟩:=F2 hq
   have:j=i:=by
     by_cases ee:j=i
     · exact ee
     exact absurd hpd ((D7 hD (ao _) hik ho' hd).2 j p (ao _) hjk ee hp)
   subst this
   have:=ha'.val d q' (Km hq)
   rw[hsl',e]at this
   exact this
 refine Gb hTl hA (opsL.toArray.size-k) k fuel' listed' a' W rfl (by simp;omega) (av _) hf' hu' (hend W f hUp hblk hpw key a' ⟨ha'.defers,ha'.size,fun t q ht=>?_⟩)
 rcases C3 ht with h|h
 · obtain⟨d,_,he⟩:=aq.1 (J2 h)
   cases he
   exact hsl' _
 refine ha'.val t q ?_
 rw[Hw]
 · exact h
 cases hq:lk (Hu opsL.toArray (fun i=>phs.getD i (.eq undef)) 0 k) t with
 |none=>rfl
 |some q'=>
   obtain⟨j,p,_,hjk,hp,hpd,_⟩:=F2 hq
   exact absurd hpd (hbd t q h j p (ao _) hjk hp)
end
end Go.Wx
