import Derived.Test.YthcabjphnacjeaaGreatDoorKR110
namespace Go.Wx
def IR(p:UInt8×Bool):Array Go.Value:=#[bv p.1,.bool p.2]
theorem yH(z:Nat):Rs z≠[]:=by unfold Rs O2;split<;>simp
theorem PEv.val{P:Program}{n:Nat}{ds:List Deferred}{l:Env}{w:World}{o:Oper}{v v':Go.Value}(h:PEv P n ds l w o v)(e:v=v'):PEv P n ds l w o v':=e▸h
theorem oE{pre:List (UInt8×Bool)}{z zz:Nat}{b:Bool}(hb:b=true↔zz<128)(h:Rs z=pre++Rs zz)(hz:b=true):pre++[(UInt8.ofNat (zz%128),b)]=Rs z:=by
 have hz1:=hb.1 hz
 rw[h,jA hz1,ig hz1,hz]
theorem oF{pre:List (UInt8×Bool)}{z zz:Nat}{b:Bool}(hb:b=true↔zz<128)(h:Rs z=pre++Rs zz)(hz:b=false)(h64:zz<18446744073709551616):Rs z=(pre++[(UInt8.ofNat (zz%128),b)])++Rs (zz/128)∧zz/128<zz:=by
 have hz1:¬zz<128:=fun e=>by rw[hb.2 e]at hz;cases hz
 rw[h,sD hz1 h64,hz]
 exact⟨by simp,by omega⟩
theorem oG{zz:Nat}{b:Bool}(hb:b=decide ((zz:Int)<128)):b=true↔zz<128:=⟨fun h=>by have:=b8 (hb.symm.trans h);omega,fun h=>hb.trans (bj oQ)⟩
theorem oH{pre:List (UInt8×Bool)}{z zz:Nat}(h:Rs z=pre++Rs zz):pre.length<10:=by
 have h1:=fJ z
 have h2:=f5.2 (yH zz)
 rw[h,am]at h1
 omega
theorem sV{x:UInt8×Bool}(h:(!x.2)=true):X8 x=x.1|||128:=aq (by simpa using h)
theorem oI{x:UInt8×Bool}(h:(!x.2)=false):X8 x=x.1:=bg (by simpa using h)
def yI(n:Int):Int:=if Oy n then 0 else 10
theorem sW{n:Int}(h:Oy n):encI n=(Rs (fI n)).map X8:=by rw[encI,bg h];rfl
theorem oJ{n:Int}(h:¬Oy n):encI n=[]:=by rw[encI,aq h]
theorem Ys(t:List UInt8):(bT t).length≤10+t.length:=by
 have:=N1 (t.length:Int)
 unfold bT
 rw[am]
 omega
theorem Wk(t:ByteArray):t.data.toList.length=t.size:=c6
theorem R3(c:List UInt8):(⟨c.toArray⟩:ByteArray).size=c.length:=by simp[ByteArray.size]
theorem sX(k:Int):∀x∈Eg k,Fh x.off=true:=by
 intro x hx
 have h:∀l∈O9,∀y∈l,Fh y.off=true:=by decide
 unfold Eg at hx
 rw[cn]at hx
 cases hl:O9[k.toNat]? with
 |none=>rw[hl]at hx;simp at hx
 |some l=>rw[hl]at hx;exact h l (ai hl) x (by simpa using hx)
theorem Yt(k:Int):(Eg k).length≤16:=by
 have h:∀l∈O9,l.length≤16:=by decide
 unfold Eg
 rw[cn]
 cases hl:O9[k.toNat]? with
 |none=>simp
 |some l=>exact h l (ai hl)
def Eh(fs:List Fld)(f:Fact):List Int:=fs.map fun x=>G7 f x.off
theorem M8(fs:List Fld)(f:Fact):(Eh fs f).length=fs.length:=by simp[Eh]
theorem P5{fs:List Fld}{f:Fact}{k:Nat}{x:Fld}(h:fs[k]?=some x):(Eh fs f).take (k+1)=(Eh fs f).take k++[G7 f x.off]:=Ct (by simp[Eh,h])
def J2(b:Bool):Int:=if b then 1 else 0
def N8(f:Fact):List Int:=f.Kind::Eh (Eg f.Kind) f
def Cj(f:Fact):List UInt8:=if Ca f then Cu (N8 f)else[]
def Pb(f:Fact):List Int:=[f.Kind,f.Version,f.Day,J2 f.Gone]++Eh (fieldsOf f.Kind) f
def Ii(f:Fact):List UInt8:=Cu (Pb f)++if G1 f.Kind then bT f.Text.data.toList else[]
def R4(f:Fact):List UInt8:=if Ca f then Ii f else[]
def Ex(a b:Fact):Bool:=Ca a&&Ca b&&(Cj a==Cj b)&&(decide (b.Version<a.Version)||(decide (a.Version=b.Version)&&decide (0<Go.Lib.compareBytes (Ii a) (Ii b))))
theorem Eu{f:Fact}(h:Ca f=true):1≤f.Kind∧f.Kind≤11:=by
 unfold Ca at h
 simp only[bw,ge]at h
 exact h.1
theorem L9{f:Fact}(h:Ca f=true):preB f=false:=by
 unfold Ca at h
 simp only[bw]at h
 have:=h.2.1
 simp only[jh,i0]at this
 exact this.1
theorem Na{f:Fact}(h:Ca f=true):f.Text.size≤8192:=by
 have:=L9 h
 simp only[preB,i0,jk]at this
 omega
theorem gE{f:Fact}(h:Ca f=true):Cu (N8 f)≠[]:=by
 have hk:=Eu h
 intro e
 unfold N8 Cu at e
 rw[cw,jo]at e
 exact fL (by unfold Oy;omega) e.1
theorem gF{f:Fact}(h:Ca f=true):Ii f≠[]:=by
 have hk:=Eu h
 intro e
 unfold Ii Pb Cu at e
 rw[jo,eu,cw,jo]at e
 exact fL (by unfold Oy;omega) e.1.1
theorem U8(a b:List Int):Cu (a++b)=Cu a++Cu b:=by simp[Cu]
theorem sY(f:Fact):([]++Cu [f.Kind]).length+10*(Eg f.Kind).length≤10000:=by
 have h1:=Yt f.Kind
 have h2:=Ht [f.Kind]
 rw[d_]
 simp only[a8,bp]at h2
 omega
theorem sZ(f:Fact):(Cu (N8 f)).length≤1000000000:=by
 have h1:=Yt f.Kind
 have h2:=Ht (N8 f)
 have h3:(N8 f).length=1+(Eg f.Kind).length:=by simp[N8,Eh];omega
 omega
theorem gG(b:ByteArray):∀(k i:Nat)(r:List UInt8),b.size-i=k→ByteArray.toList.loop b i r=r.reverse++b.data.toList.drop i
 |0,i,r,h=>by
   unfold ByteArray.toList.loop
   rw[aq oQ,ip (by rw[c6];have:b.data.size=b.size:=rfl;omega),dq]
 |k+1,i,r,h=>by
   unfold ByteArray.toList.loop
   have hi:i<b.size:=by omega
   rw[bg hi,gG b k (i+1) _ (by omega)]
   have hi':i<b.data.toList.length:=by rw[c6];exact hi
   rw[fe hi']
   have:b.get! i=b.data.toList[i]:=by
     rw[Array.getElem_toList]
     show b.data[i]! =_
     exact getElem!_pos b.data i hi
   rw[this];simp
theorem Is(b:ByteArray):b.toList=b.data.toList:=by
 unfold ByteArray.toList
 rw[gG b b.size 0 [] rfl];simp
structure ElT{α:Type}(w:World)(ad:Option Addr)(T:TypeId)(k:Nat)(enc:α→Array Value)(xs:List α):Prop where
 els:Els w ad k enc xs
 ty:∀B o,ad=some ⟨B,o,none⟩→∃cs x,w.heap[B]?=some (Obj.cells cs T x)
theorem ElT.up{α:Type}{w w':World}{ad:Option Addr}{T:TypeId}{k:Nat}{enc:α→Array Value}{xs:List α}(h:ElT w ad T k enc xs)(u:Up w w'):ElT w' ad T k enc xs:=⟨Els.up h.els u,fun B o e=>let⟨cs,x,hc⟩:=h.ty B o e;⟨cs,x,(u.block (lt_of_block hc)).trans hc⟩⟩
theorem ElT.fr{α:Type}{S:Nat→Prop}{w w':World}{ad:Option Addr}{T:TypeId}{k:Nat}{enc:α→Array Value}{xs:List α}(h:ElT w ad T k enc xs)(f:Fr S w w')(hn:∀B cs x,w.heap[B]?=some (Obj.cells cs T x)→¬S B):ElT w' ad T k enc xs:=
 ⟨h.els.fr f (fun B o e=>let⟨cs,x,hc⟩:=h.ty B o e;hn B cs x hc),fun B o e=>let⟨cs,x,hc⟩:=h.ty B o e;⟨cs,x,(f.block _ (lt_of_block hc) (hn B cs x hc)).trans hc⟩⟩
theorem tA(f:Fact):([]++Cu [f.Kind,f.Version,f.Day,J2 f.Gone]).length+10*(fieldsOf f.Kind).length≤10000:=by
 have h1:=M7 f.Kind
 have h2:=Ht [f.Kind,f.Version,f.Day,J2 f.Gone]
 rw[d_]
 simp only[a8,bp]at h2
 omega
theorem oK(f:Fact):(Cu (Pb f)).length≤200:=by
 have h1:=M7 f.Kind
 have h2:=Ht (Pb f)
 have h3:(Pb f).length=4+(fieldsOf f.Kind).length:=by simp[Pb,Eh];omega
 omega
theorem gH{f:Fact}(h:Ca f=true):(Ii f).length≤9000:=by
 have h1:=oK f
 have h2:=Na h
 unfold Ii
 rw[am]
 split
 · have:=Ys f.Text.data.toList
   rw[Wk]at this
   omega
 simp;omega
theorem jX{f:Fact}(h:G1 f.Kind=true):Cu (Pb f)++bT f.Text.data.toList=Ii f:=by rw[Ii,bg h]
theorem tB{f:Fact}(h:G1 f.Kind=false):Cu (Pb f)=Ii f:=by rw[Ii,aq (by rw[h];exact cg),dq]
def P6(f:Fact):Int:=if Ca f then 0 else 150
theorem Wl(a b:Fact):((⟨(Cj a).toArray⟩:ByteArray).toList==(⟨(Cj b).toArray⟩:ByteArray).toList)=(Cj a==Cj b):=by rw[Is,Is]
theorem Yu{a b:Fact}(h:(Ca a&&Ca b)=false):false=Ex a b:=by simp[Ex,h]
theorem oL{a b:Fact}(h:(!((⟨(Cj a).toArray⟩:ByteArray).toList==(⟨(Cj b).toArray⟩:ByteArray).toList))=true):false=Ex a b:=by
 rw[Wl]at h
 simp only[jh]at h
 simp[Ex,h]
theorem oM{a b:Fact}(ha:Ca a=true)(hb:Ca b=true)(h:(!((⟨(Cj a).toArray⟩:ByteArray).toList==(⟨(Cj b).toArray⟩:ByteArray).toList))=false)(hv:(!decide (a.Version=b.Version))=true):decide (b.Version<a.Version)=Ex a b:=by
 rw[Wl]at h
 simp only[Bool.not_eq_false']at h
 have hv:a.Version≠b.Version:=by simpa using hv
 simp[Ex,ha,hb,h,hv]
theorem oN{a b:Fact}(ha:Ca a=true)(hb:Ca b=true)(h:(!((⟨(Cj a).toArray⟩:ByteArray).toList==(⟨(Cj b).toArray⟩:ByteArray).toList))=false)(hv:(!decide (a.Version=b.Version))=false):decide (0<Go.Lib.compareBytes (R4 a) (R4 b))=Ex a b:=by
 rw[Wl]at h
 simp only[Bool.not_eq_false']at h
 have hv:a.Version=b.Version:=by simpa using hv
 simp only[Ex,ha,hb,h,hv,R4,if_true,Bool.true_and,decide_true,Bool.and_true,Int.lt_irrefl,decide_false,gy]
section
variable {α:Type}
def swp(xs:List α)(i j:Nat):List α:=match xs[i]?,xs[j]? with
 |some x,some y=>(xs.set i y).set j x
 |_,_=>xs
theorem Nb(xs:List α)(i j:Nat):(swp xs i j).length=xs.length:=by
 unfold swp
 split<;>simp
theorem Wm{xs:List α}{i j:Nat}{x y:α}(hi:xs[i]?=some x)(hj:xs[j]?=some y):swp xs i j=(xs.set i y).set j x:=by
 unfold swp;rw[hi,hj]
theorem swp_get{xs:List α}{i j:Nat}(hi:i<xs.length)(hj:j<xs.length)(q:Nat):(swp xs i j)[q]?=if q=j then xs[i]? else if q=i then xs[j]? else xs[q]?:=by
 rw[Wm (cb hi) (cb hj),gg]
 by_cases h1:j=q
 · subst h1
   rw[bg rfl,bg (by simpa using hj),bg rfl,cb hi]
 rw[aq h1,aq (Ne.symm h1),gg]
 by_cases h2:i=q
 · subst h2
   rw[bg rfl,bg hi,bg rfl,cb hj]
 rw[aq h2,aq (Ne.symm h2)]
def Tp(xs:List α)(a b:Nat):Nat→List α
 |0=>xs
 |n+1=>swp (Tp xs a b n) (a+n) (b+n)
theorem Gd(xs:List α)(a b:Nat):∀n,(Tp xs a b n).length=xs.length
 |0=>rfl
 |n+1=>by rw[Tp,Nb,Gd xs a b n]
theorem Ma{xs:List α}{a b:Nat}:∀{n:Nat},a+n≤b→b+n≤xs.length→∀q,(Tp xs a b n)[q]?=if a≤q∧q<a+n then xs[q-a+b]? else if b≤q∧q<b+n then xs[q-b+a]? else xs[q]?
 |0,_,_,q=>by rw[Tp,aq oQ,aq (by omega)]
 |n+1,h1,h2,q=>by
   rw[Tp,swp_get (by rw[Gd];omega) (by rw[Gd];omega)]
   rw[Ma (n:=n) oQ oQ (a+n),Ma (n:=n) oQ oQ (b+n),Ma (n:=n) oQ oQ q]
   by_cases c1:q=b+n
   · rw[bg c1,aq oQ,aq oQ,aq oQ,bg (by omega)]
     congr 1;omega
   rw[aq c1]
   by_cases c2:q=a+n
   · rw[bg c2,aq oQ,aq oQ,bg (by omega)]
     congr 1;omega
   rw[aq c2]
   by_cases c3:a≤q∧q<a+n
   · rw[bg c3,bg (by omega)]
   have e1:¬(a≤q∧q<a+(n+1)):=by omega
   rw[aq c3,aq e1]
   by_cases c4:b≤q∧q<b+n
   · rw[bg c4,bg (by omega)]
   have e2:¬(b≤q∧q<b+(n+1)):=by omega
   rw[aq c4,aq e2]
def Jy(xs:List α)(a m b:Nat):List α:=E8 xs a b (C2 xs m b++C2 xs a m)
theorem Wo{xs:List α}{a m b:Nat}(h1:a≤m)(h2:m≤b)(hb:b≤xs.length):(C2 xs m b++C2 xs a m).length=b-a:=by
 rw[am,Cm hb,Cm (by omega)];omega
theorem Fo{xs:List α}{a m b:Nat}(h1:a≤m)(h2:m≤b)(hb:b≤xs.length):(Jy xs a m b).length=xs.length:=Dv oQ hb (Wo h1 h2 hb)
theorem Je{xs:List α}{a m b:Nat}(h1:a≤m)(h2:m≤b)(hb:b≤xs.length)(q:Nat):(Jy xs a m b)[q]?=if q<a then xs[q]? else if q<a+(b-m)then xs[q-a+m]? else if q<b then xs[q-(b-m)]? else xs[q]?:=by
 unfold Jy
 rw[Fm oQ hb (Wo h1 h2 hb)]
 by_cases c1:q<a
 · rw[bg c1,bg c1]
 rw[aq c1,aq c1]
 by_cases c2:q<a+(b-m)
 · rw[bg oQ,bg c2,cz (by rw[Cm hb];omega),Gv (by omega)]
   congr 1;omega
 rw[aq c2]
 by_cases c3:q<b
 · rw[bg c3,bg c3,c8 (by rw[Cm hb];omega),Cm hb,Gv (by omega)]
   congr 1;omega
 rw[aq c3,aq c3]
theorem tC{xs:List α}{m i j:Nat}(hi:i≤m)(hij:j<i)(hj:0<j)(hb:m+j≤xs.length):Jy (Tp xs (m-i) m j) (m-(i-j)) m (m+j)=Jy xs (m-i) m (m+j):=by
 apply cx
 intro q
 have hl:=Gd xs (m-i) m j
 rw[Je oQ oQ (by rw[hl];exact hb),Je oQ oQ hb]
 have g:∀q,(Tp xs (m-i) m j)[q]?=_:=fun q=>Ma oQ hb q
 rw[g,g,g]
 by_cases c1:q<m-i
 · rw[bg oQ,aq oQ,aq oQ,bg c1]
 by_cases c2:q<m-i+j
 · rw[bg oQ,bg oQ,aq c1,bg (by omega)]
 by_cases c3:q<m-(i-j)+j
 · rw[aq oQ,bg oQ,aq oQ,bg oQ,aq c1,aq oQ,bg (by omega)]
   congr 1;omega
 by_cases c4:q<m+j
 · rw[aq oQ,aq oQ,bg c4,aq oQ,aq oQ,aq c1,aq oQ,bg c4]
 rw[aq oQ,aq oQ,aq c4,aq oQ,aq oQ,aq c1,aq oQ,aq c4]
theorem jY{xs:List α}{m i j:Nat}(hi:i≤m)(hij:i<j)(h0:0<i)(hb:m+j≤xs.length):Jy (Tp xs (m-i) (m+j-i) i) (m-i) m (m+(j-i))=Jy xs (m-i) m (m+j):=by
 apply cx
 intro q
 have hl:=Gd xs (m-i) (m+j-i) i
 rw[Je oQ oQ (by rw[hl];omega),Je oQ oQ hb]
 have g:∀q,(Tp xs (m-i) (m+j-i) i)[q]?=_:=fun q=>Ma oQ oQ q
 rw[g,g,g]
 by_cases c1:q<m-i
 · rw[bg c1,aq oQ,aq oQ,bg c1]
 by_cases c2:q<m-i+(j-i)
 · rw[aq c1,bg oQ,aq oQ,aq oQ,aq c1,bg (by omega)]
 by_cases c3:q<m+(j-i)
 · rw[aq c1,aq oQ,bg c3,bg oQ,aq c1,bg (by omega)]
   congr 1;omega
 by_cases c4:q<m+j
 · rw[aq c1,aq oQ,aq c3,aq oQ,bg oQ,aq c1,aq oQ,bg c4]
   congr 1;omega
 rw[aq c1,aq oQ,aq c3,aq oQ,aq oQ,aq c1,aq oQ,aq c4]
theorem oO{xs:List α}{m i:Nat}(hi:i≤m)(hb:m+i≤xs.length):Tp xs (m-i) m i=Jy xs (m-i) m (m+i):=by
 apply cx
 intro q
 rw[Je oQ oQ hb,Ma oQ hb]
 by_cases c1:q<m-i
 · rw[aq oQ,aq oQ,bg c1]
 by_cases c2:q<m
 · rw[bg oQ,aq c1,bg (by omega)]
 by_cases c3:q<m+i
 · rw[aq oQ,bg oQ,aq c1,aq oQ,bg c3]
   congr 1;omega
 rw[aq oQ,aq oQ,aq c1,aq oQ,aq c3]
theorem oP{xs:List α}{m b:Nat}(h:m≤b)(hb:b≤xs.length):Jy xs m m b=xs:=by
 rw[Jy,Gh (a:=m) (b:=m) (bi _),dq,Hc h hb]
theorem jZ{xs:List α}{a m:Nat}(h:a≤m)(hb:m≤xs.length):Jy xs a m m=xs:=by
 rw[Jy,Gh (a:=m) (b:=m) (bi _),d_,Hc h hb]
def C3(A:List α)(x:α)(p:Nat):List α:=A.take p++x::A.drop p
theorem Eb(A:List α)(x:α)(p:Nat):(C3 A x p).length=A.length+1:=by simp[C3];omega
theorem Nc{A:List α}{x:α}{p:Nat}(h:p≤A.length):(C3 A x p)[p]?=some x:=by
 rw[C3,c8 (by simp;omega)]
 have:p-(A.take p).length=0:=by simp;omega
 rw[this];rfl
theorem Ij{A:List α}{x:α}{p q:Nat}(h:p≤A.length)(hq:q<p):(C3 A x p)[q]?=A[q]?:=by
 rw[C3,cz (by simp;omega),fj,bg hq]
theorem Ik{A:List α}{x:α}{p q:Nat}(h:p≤A.length)(hq:p<q):(C3 A x p)[q]?=A[q-1]?:=by
 rw[C3,c8 (by simp;omega)]
 have e:q-(A.take p).length=(q-p-1)+1:=by simp;omega
 rw[e,fc,gn]
 congr 1;omega
theorem R5{A:List α}{x:α}{p:Nat}(h:p<A.length):swp (C3 A x p) p (p+1)=C3 A x (p+1):=by
 have hl:=Eb A x p
 apply cx
 intro q
 rw[swp_get oQ (by omega)]
 by_cases c1:q=p+1
 · rw[bg c1,c1,Nc oQ,Nc (by omega)]
 rw[aq c1]
 by_cases c2:q=p
 · rw[bg c2,c2,Ik oQ oQ,Ij oQ (by omega)];simp
 rw[aq c2]
 by_cases c3:q<p
 · rw[Ij oQ c3,Ij oQ (by omega)]
 rw[Ik oQ oQ,Ik oQ (by omega)]
theorem oR{xs:List α}{i j:Nat}(hi:i<xs.length)(hj:j<xs.length)(hne:i≠j):swp xs i j=swp xs j i:=by
 apply cx
 intro q
 rw[swp_get hi hj,swp_get hj hi]
 by_cases c1:q=j
 · rw[bg c1,aq oQ,bg c1]
 rw[aq c1]
 by_cases c2:q=i
 · rw[bg c2,bg c2]
 rw[aq c2,aq c2,aq c1]
theorem gI{xs ys:List α}{a b i j:Nat}(h1:a≤b)(hb:b≤xs.length)(hy:ys.length=b-a)(hi:i<ys.length)(hj:j<ys.length):swp (E8 xs a b ys) (a+i) (a+j)=E8 xs a b (swp ys i j):=by
 have hl:=Dv h1 hb hy
 have hi':a+i<(E8 xs a b ys).length:=by omega
 have hj':a+j<(E8 xs a b ys).length:=by omega
 have e1:(E8 xs a b ys)[a+i]?=ys[i]?:=by rw[Fm h1 hb hy,aq oQ,bg (by omega)];congr 1;omega
 have e2:(E8 xs a b ys)[a+j]?=ys[j]?:=by rw[Fm h1 hb hy,aq oQ,bg (by omega)];congr 1;omega
 apply cx
 intro q
 rw[swp_get hi' hj' q,e1,e2,Fm h1 hb hy q,Fm h1 hb (by rw[Nb];exact hy) q,swp_get hi hj]
 by_cases c0:q<a
 · rw[aq oQ,aq oQ,bg c0,bg c0]
 rw[aq c0,aq c0]
 by_cases c1:q=a+j
 · have d1:q-a=j:=by omega
   rw[bg c1,bg (show q<b by omega),bg d1]
 have d1:¬q-a=j:=by omega
 rw[aq c1,aq d1]
 by_cases c2:q=a+i
 · have d2:q-a=i:=by omega
   rw[bg c2,bg (show q<b by omega),bg d2]
 have d2:¬q-a=i:=by omega
 rw[aq c2,aq d2]
theorem U9(A:List α)(x:α):C3 A x A.length=A++[x]:=by simp[C3]
theorem Yv(A:List α)(x:α):C3 A x 0=x::A:=by simp[C3]
theorem tD{xs:List α}{i j:Nat}(hi:i<xs.length)(hj:j<xs.length):swp (swp xs i j) i j=xs:=by
 have hl:=Nb xs i j
 apply cx
 intro q
 rw[swp_get (xs:=swp xs i j) oQ oQ q,swp_get hi hj i,swp_get hi hj j,swp_get hi hj q]
 by_cases c1:q=j
 · rw[bg c1,c1]
   by_cases c2:i=j
   · rw[bg c2,c2]
   rw[aq c2,bg rfl]
 rw[aq c1,aq c1]
 by_cases c2:q=i
 · rw[bg c2,bg rfl,c2]
 rw[aq c2,aq c2]
end
theorem Yw{α:Type}{xs zs:List α}{a i:Nat}{x:α}(h1:a≤i)(hx:xs[i]?=some x)(hz:zs.length=i-a):E8 xs a (i+1) (zs++[x])=E8 xs a i zs:=by
 obtain⟨hi,e⟩:=ak.1 hx
 have hl:=Dv (ys:=zs) h1 (by omega:i≤xs.length) hz
 rw[←fR (m:=i) h1 oQ oQ hz (by simp)]
 have e2:[x]=C2 (E8 xs a i zs) i (i+1):=by
   rw[E5 h1 oQ hz (.inr (bi _))]
   apply cx
   intro q
   by_cases h:i+q<i+1
   · have:q=0:=by omega
     subst this
     rw[Gv h,f6,hx];rfl
   rw[cy (by simp;omega),cy (by rw[Cm (by omega)];omega)]
 rw[e2,Hc oQ (by omega)]
theorem Lm{α:Type}{xs:List α}{a i:Nat}{x:α}(h1:a≤i)(hx:xs[i]?=some x):C2 xs a (i+1)=C2 xs a i++[x]:=by
 obtain⟨hi,e⟩:=ak.1 hx
 rw[Gg h1 oQ (by omega)]
 congr 1
 apply cx
 intro q
 by_cases h:i+q<i+1
 · have:q=0:=by omega
   subst this
   rw[Gv h,f6,hx];rfl
 rw[cy (by rw[Cm (by omega)];omega),cy (by simp;omega)]
theorem Yx{α:Type}{xs zs:List α}{a b p:Nat}{x:α}(h1:a≤b)(hb:b≤xs.length)(hz:zs.length+1=b-a)(hp:p≤zs.length):(E8 xs a b (C3 zs x p))[a+p]?=some x:=by
 rw[Fm h1 hb (by rw[Eb];exact hz),aq oQ,bg (by omega)]
 have:a+p-a=p:=by omega
 rw[this,Nc hp]
theorem Nd{α:Type}{xs zs:List α}{a b p q:Nat}{x:α}(h1:a≤b)(hb:b≤xs.length)(hz:zs.length+1=b-a)(hp:p≤zs.length)(hq:q<p):(E8 xs a b (C3 zs x p))[a+q]?=zs[q]?:=by
 rw[Fm h1 hb (by rw[Eb];exact hz),aq oQ,bg (by omega)]
 have:a+q-a=q:=by omega
 rw[this,Ij hp hq]
theorem R6{α:Type}{xs zs:List α}{a b p q:Nat}{x:α}(h1:a≤b)(hb:b≤xs.length)(hz:zs.length+1=b-a)(hq:p<q)(hqz:q≤zs.length):(E8 xs a b (C3 zs x p))[a+q]?=zs[q-1]?:=by
 rw[Fm h1 hb (by rw[Eb];exact hz),aq oQ,bg (by omega)]
 have:a+q-a=q:=by omega
 rw[this,Ik oQ hq]
theorem Yy{α:Type}{xs zs:List α}{a b p:Nat}{x y:α}(h1:a≤b)(hb:b≤xs.length)(hz:zs.length+1=b-a)(hp:p<zs.length)(hy:zs[p]?=some y):((E8 xs a b (C3 zs x (p+1))).set (a+(p+1)) y).set (a+p) x=E8 xs a b (C3 zs x p):=by
 have hl:=Eb zs x (p+1)
 rw[←Wm (Yx (p:=p+1) h1 hb hz oQ) ((Nd (p:=p+1) h1 hb hz oQ (show p<p+1 by omega)).trans hy),gI h1 hb (by rw[hl];exact hz) oQ oQ,oR oQ oQ oQ,←R5 hp,tD (by rw[Eb];omega) (by rw[Eb];omega)]
theorem yJ{α:Type}{xs zs:List α}{a b p:Nat}{x y:α}(h1:a≤b)(hb:b≤xs.length)(hz:zs.length+1=b-a)(hp:p<zs.length)(hy:zs[p]?=some y):((E8 xs a b (C3 zs x p)).set (a+p) y).set (a+(p+1)) x=E8 xs a b (C3 zs x (p+1)):=by
 have hl:=Eb zs x p
 rw[←Wm (Yx h1 hb hz oQ) ((R6 (q:=p+1) h1 hb hz (show p<p+1 by omega) oQ).trans hy),gI h1 hb (by rw[hl];exact hz) oQ oQ,R5 hp]
theorem StS.snoc{α:Type}{key:α→K2}{L zs:List α}{x:α}{p:Nat}(h:StS key L zs)(hp:p≤zs.length)(hgt:∀y∈zs.drop p,Hz (key x) (key y)=true)(hle:p=0∨∃y,zs[p-1]?=some y∧Hz (key x) (key y)=false):StS key (L++[x]) (C3 zs x p):=by
 have h1:StS key (zs++[x]) (C3 zs x p):=StS.put h.ord hgt (fun y hy=>by
   rcases hle with rfl|⟨z,hz,hzl⟩
   · simp at hy
   obtain⟨q,hq,rfl⟩:=fk.1 hy
   rw[List.getElem_take]
   have hq':q<p:=by simp at hq;omega
   obtain⟨hz1,rfl⟩:=ak.1 hz
   rcases fb q (p-1)with h3|h3
   · exact J0 (ei.1 h.ord q (p-1) oQ hz1 h3) hzl
   have:q=p-1:=by omega
   subst this
   exact hzl)
 exact⟨h1.ord,(h.same.jF (sameF.refl [x])).trans h1.same⟩
theorem tE{α:Type}{key:α→K2}{l:List α}(h:l.length≤1):Ja key l:=by
 match l,h with
 |[],_=>exact List.Pairwise.nil
 |[x],_=>exact f4 _ _
 |_::_::_,h=>simp at h
theorem kA{α:Type}{zs:List α}{p:Nat}{y:α}{P:α→Prop}(hp:1≤p)(hy:zs[p-1]?=some y)(h:∀z∈zs.drop p,P z)(hP:P y):∀z∈zs.drop (p-1),P z:=by
 obtain⟨h1,rfl⟩:=ak.1 hy
 rw[fe h1,show p-1+1=p by omega]
 intro z hz
 rcases bm.1 hz with rfl|hz
 · exact hP
 exact h z hz
section
variable {α:Type}{key:α→K2}
theorem Jf{xs:List α}{a b c d:Nat}(h:Ja key (C2 xs a b))(h1:a≤c)(h2:d≤b):Ja key (C2 xs c d):=by
 have e:(xs.take d).drop c=((xs.take d).drop a).drop (c-a):=by rw[kr];congr 1;omega
 have p:xs.take d=(xs.take b).take d:=by rw[gj,dk h2]
 have q:((xs.take d).drop a).Sublist ((xs.take b).drop a):=by
   rw[p,List.drop_take]
   exact List.take_sublist _ _
 have r:(C2 xs c d).Sublist (C2 xs a b):=by
   unfold C2
   rw[e]
   exact(j7 _ _).trans q
 exact List.Pairwise.sublist r h
theorem Jg{xs:List α}{a b p q:Nat}{u v:α}(h:Ja key (C2 xs a b))(h1:a≤p)(h2:p≤q)(h3:q<b)(hu:xs[p]?=some u)(hv:xs[q]?=some v):Hz (key v) (key u)=false:=by
 rcases fb p q with hl|hl
 · have e1:(C2 xs a b)[p-a]?=some u:=by rw[Gv (by omega)];rw[show a+(p-a)=p by omega];exact hu
   have e2:(C2 xs a b)[q-a]?=some v:=by rw[Gv (by omega)];rw[show a+(q-a)=q by omega];exact hv
   obtain⟨i1,rfl⟩:=ak.1 e1
   obtain⟨i2,rfl⟩:=ak.1 e2
   exact ei.1 h _ _ i1 i2 oQ
 have:p=q:=by omega
 subst this
 rw[hu]at hv;cases hv
 exact Kl _
theorem Jh{xs:List α}{a b:Nat}{x:α}(hb:b≤xs.length)(h:x∈C2 xs a b):∃q,a≤q∧q<b∧xs[q]?=some x:=by
 obtain⟨i,e⟩:=eh.1 h
 have hi:=(ak.1 e).1
 rw[Cm hb]at hi
 rw[Gv (by omega)]at e
 exact⟨a+i,by omega,by omega,e⟩
theorem oS{xs:List α}{a mm b s e:Nat}(hA:Ja key (C2 xs a mm))(hB:Ja key (C2 xs mm b))(h2:s≤mm)(h3:mm≤e)(hb:b≤xs.length)
   (h:s≤a∨b≤e∨∃u v,xs[e]?=some u∧xs[s-1]?=some v∧Hz (key u) (key v)=false):∀x∈C2 xs a s,∀y∈C2 xs e b,Hz (key y) (key x)=false:=by
 intro x hx y hy
 rcases h with h|h|⟨u,v,hu,hv,hl⟩
 · rw[Gh h]at hx;simp at hx
 · rw[Gh h]at hy;simp at hy
 obtain⟨p,p1,p2,hp⟩:=Jh (by have:=(ak.1 hv).1;omega) hx
 obtain⟨q,q1,q2,hq⟩:=Jh hb hy
 have a1:=Jg hA p1 (show p≤s-1 by omega) oQ hp hv
 have a2:=Jg hB (show mm≤e by omega) q1 q2 hu hq
 exact J0 (J0 a1 hl) a2
theorem oT{xs:List α}{a mm b s e:Nat}(hA:Ja key (C2 xs a mm))(hB:Ja key (C2 xs mm b))(h1:a≤s)(h4:e≤b)(hb:b≤xs.length)(hmb:mm≤b)
   (h:mm≤s∨e≤mm∨∃u v,xs[e-1]?=some u∧xs[s]?=some v∧Hz (key u) (key v)=true):∀v∈C2 xs mm e,∀u∈C2 xs s mm,Hz (key v) (key u)=true:=by
 intro x hx y hy
 rcases h with h|h|⟨u,v,hu,hv,hl⟩
 · rw[Gh h]at hy;simp at hy
 · rw[Gh h]at hx;simp at hx
 obtain⟨p,p1,p2,hp⟩:=Jh oQ hx
 obtain⟨q,q1,q2,hq⟩:=Jh oQ hy
 have a1:=Jg hB p1 (show p≤e-1 by omega) oQ hp hu
 have a2:=Jg hA h1 q1 q2 hv hq
 exact Wc (fO a1 hl) a2
theorem Yz{xs:List α}{s mm e:Nat}(h1:s≤mm)(h2:mm≤e)(hb:e≤xs.length):C2 (Jy xs s mm e) s (s+(e-mm))=C2 xs mm e:=by
 have hl:=Fo h1 h2 hb
 apply cx
 intro i
 by_cases h:i<e-mm
 · rw[Gv oQ,Gv oQ,Je h1 h2 hb,aq oQ,bg (by omega)]
   congr 1;omega
 rw[cy (by rw[Cm (by omega)];omega),cy (by rw[Cm hb];omega)]
theorem Y0{xs:List α}{s mm e:Nat}(h1:s≤mm)(h2:mm≤e)(hb:e≤xs.length):C2 (Jy xs s mm e) (s+(e-mm)) e=C2 xs s mm:=by
 have hl:=Fo h1 h2 hb
 apply cx
 intro i
 by_cases h:i<mm-s
 · rw[Gv oQ,Gv oQ,Je h1 h2 hb,aq oQ,aq oQ,bg (by omega)]
   congr 1;omega
 rw[cy (by rw[Cm (by omega)];omega),cy (by rw[Cm (by omega)];omega)]
theorem Q0{xs:List α}{s mm e c d:Nat}(h1:s≤mm)(h2:mm≤e)(hb:e≤xs.length)(h:d≤s∨e≤c):C2 (Jy xs s mm e) c d=C2 xs c d:=E5 oQ hb (Wo h1 h2 hb) h
theorem tF{xs zs:List α}{a b s mm e:Nat}(h0:a≤s)(h1:s≤mm)(h2:mm≤e)(h3:e≤b)(hb:b≤xs.length)(hz:zs.length=b-a):E8 (Jy xs s mm e) a b zs=E8 xs a b zs:=by
 have hl:=Fo h1 h2 (by omega:e≤xs.length)
 apply cx
 intro q
 rw[Fm oQ oQ hz,Fm oQ hb hz,Je h1 h2 (by omega)]
 by_cases c1:q<a
 · rw[bg c1,bg c1,bg (by omega)]
 rw[aq c1,aq c1]
 by_cases c2:q<b
 · rw[bg c2,bg c2]
 rw[aq c2,aq c2,aq oQ,aq oQ,aq (by omega)]
theorem Y1{xs:List α}{a s mm e mid:Nat}(h0:a≤s)(h1:s≤mm)(h2:mm≤e)(hb:e≤xs.length)(hm:mid=s+(e-mm)):C2 (Jy xs s mm e) a mid=C2 xs a s++C2 xs mm e:=by
 subst hm
 rw[Gg (m:=s) h0 oQ (by rw[Fo h1 h2 hb];omega),Q0 h1 h2 hb (.inl (bi _)),Yz h1 h2 hb]
theorem Va{xs:List α}{s mm e b mid:Nat}(h1:s≤mm)(h2:mm≤e)(h3:e≤b)(hb:b≤xs.length)(hm:mid=s+(e-mm)):C2 (Jy xs s mm e) mid b=C2 xs s mm++C2 xs e b:=by
 subst hm
 rw[Gg (m:=e) oQ h3 (by rw[Fo h1 h2 (by omega)];omega),Q0 h1 h2 oQ (.inr (bi _)),Y0 h1 h2 (by omega)]
theorem Y2{xs X Y:List α}{a mm b s e mid:Nat}(h0:a≤s)(h1:s≤mm)(h2:mm≤e)(h3:e≤b)(hb:b≤xs.length)(hm:mid=s+(e-mm))(hA:Ja key (C2 xs a mm))(hB:Ja key (C2 xs mm b))
   (k1:∀x∈C2 xs a s,∀y∈C2 xs e b,Hz (key y) (key x)=false)(k2:∀v∈C2 xs mm e,∀u∈C2 xs s mm,Hz (key v) (key u)=true)
   (hX:StS key (C2 (Jy xs s mm e) a mid) X)(hY:StS key (C2 (E8 (Jy xs s mm e) a mid X) mid b) Y):StS key (C2 xs a b) (X++Y)∧E8 (E8 (Jy xs s mm e) a mid X) mid b Y=E8 xs a b (X++Y):=by
 have hl:=Fo h1 h2 (by omega:e≤xs.length)
 have hXl:X.length=mid-a:=by rw[hX.same.length,Cm (by omega)]
 rw[E5 oQ oQ hXl (.inr (bi _))]at hY
 have hYl:Y.length=b-mid:=by rw[hY.same.length,Cm (by omega)]
 rw[Y1 h0 h1 h2 oQ hm]at hX
 rw[Va h1 h2 h3 hb hm]at hY
 have eA:C2 xs a s++C2 xs s mm=C2 xs a mm:=(Gg h0 h1 oQ).symm
 have eB:C2 xs mm e++C2 xs e b=C2 xs mm b:=(Gg h2 h3 hb).symm
 refine⟨?_,?_⟩
 · have:=bX (by rw[eA];exact hA) (by rw[eB];exact hB) k1 k2 hX hY
   rw[eA,eB,←Gg oQ oQ hb]at this
   exact this
 rw[fR oQ oQ oQ hXl hYl,tF h0 h1 h2 h3 hb (by rw[am];omega)]
theorem tG{xs:List α}{a b i:Nat}{x:α}(hb:b≤xs.length)(hx:xs[a]?=some x)(hab:a+1≤i)(hib:i≤b)(hB:Ja key (C2 xs (a+1) b))(hL:∀q y,a+1≤q→q<i→xs[q]?=some y→Hz (key y) (key x)=true)(hR:∀q y,i≤q→q<b→xs[q]?=some y→Hz (key y) (key x)=false):
   StS key (C2 xs a b) (C3 (C2 xs (a+1) b) x (i-(a+1))):=by
 have e:C2 xs a b=x::C2 xs (a+1) b:=by
   rw[Gg (m:=a+1) oQ oQ hb,Lm (bi a) hx,Gh (bi a)];rfl
 have t:(C2 xs (a+1) b).take (i-(a+1))=C2 xs (a+1) i:=by
   unfold C2
   rw[List.take_drop,gj,show a+1+(i-(a+1))=i by omega,dk hib]
 have d:(C2 xs (a+1) b).drop (i-(a+1))=C2 xs i b:=by
   unfold C2
   rw[kr,show a+1+(i-(a+1))=i by omega]
 rw[e]
 refine nL hB (fun y hy=>?_) (fun y hy=>?_)
 · rw[t]at hy
   obtain⟨q,q1,q2,hq⟩:=Jh oQ hy
   exact hL q y q1 q2 hq
 rw[d]at hy
 obtain⟨q,q1,q2,hq⟩:=Jh hb hy
 exact hR q y q1 q2 hq
theorem oU{xs:List α}{a m i:Nat}{x:α}(hx:xs[m]?=some x)(h1:a≤i)(h2:i≤m)(hA:Ja key (C2 xs a m))(hL:∀q y,a≤q→q<i→xs[q]?=some y→Hz (key x) (key y)=false)(hR:∀q y,i≤q→q<m→xs[q]?=some y→Hz (key x) (key y)=true):
   StS key (C2 xs a (m+1)) (C3 (C2 xs a m) x (i-a)):=by
 have hm:=(ak.1 hx).1
 have t:(C2 xs a m).take (i-a)=C2 xs a i:=by
   unfold C2
   rw[List.take_drop,gj,show a+(i-a)=i by omega,dk h2]
 have d:(C2 xs a m).drop (i-a)=C2 xs i m:=by
   unfold C2
   rw[kr,show a+(i-a)=i by omega]
 rw[Lm oQ hx]
 refine StS.put hA (fun y hy=>?_) (fun y hy=>?_)
 · rw[d]at hy
   obtain⟨q,q1,q2,hq⟩:=Jh oQ hy
   exact hR q y q1 q2 hq
 rw[t]at hy
 obtain⟨q,q1,q2,hq⟩:=Jh oQ hy
 exact hL q y q1 q2 hq
theorem oV{xs:List α}{s mm e:Nat}(h:¬(s<mm∧mm<e))(h1:s≤mm)(h2:mm≤e)(hb:e≤xs.length):Jy xs s mm e=xs:=by
 rcases fb s mm with h3|h3
 · have:e=mm:=by omega
   subst this
   exact jZ h1 hb
 have:s=mm:=by omega
 subst this
 exact oP h2 hb
theorem kB{xs:List α}{a mm b s e mid:Nat}(hA:Ja key (C2 xs a mm))(hB:Ja key (C2 xs mm b))(h0:a≤s)(h1:s≤mm)(h2:mm≤e)(h3:e≤b)(hb:b≤xs.length)(hm:mid=s+(e-mm))(h:¬(a<s∧s<mid)):Ja key (C2 (Jy xs s mm e) a mid):=by
 rw[Y1 h0 h1 h2 oQ hm]
 rcases fb a s with h4|h4
 · rw[Gh (show e≤mm by omega),dq]
   exact Jf hA (bi _) h1
 rw[Gh h4,d_]
 exact Jf hB (bi _) h3
theorem kC{xs X:List α}{a mm b s e mid:Nat}(hA:Ja key (C2 xs a mm))(hB:Ja key (C2 xs mm b))(h0:a≤s)(h1:s≤mm)(h2:mm≤e)(h3:e≤b)(hb:b≤xs.length)(hm:mid=s+(e-mm))(hX:X.length=mid-a)(h:¬(mid<e∧e<b)):Ja key (C2 (E8 (Jy xs s mm e) a mid X) mid b):=by
 have hl:=Fo h1 h2 (by omega:e≤xs.length)
 rw[E5 oQ oQ hX (.inr (bi _)),Va h1 h2 h3 hb hm]
 rcases fb mid e with h4|h4
 · rw[Gh (show b≤e by omega),dq]
   exact Jf hA h0 (bi _)
 rw[Gh (show mm≤s by omega),d_]
 exact Jf hB h2 (bi _)
theorem gJ{xs:List α}{a mm b s e mid:Nat}(hA:Ja key (C2 xs a mm))(hB:Ja key (C2 xs mm b))(h1:s≤mm)(h2:mm≤e)(h3:e≤b)(hb:b≤xs.length)(hm:mid=s+(e-mm)):Ja key (C2 (Jy xs s mm e) a s)∧Ja key (C2 (Jy xs s mm e) s mid):=by
 subst hm
 rw[Q0 h1 h2 oQ (.inl (bi _)),Yz h1 h2 (by omega)]
 exact⟨Jf hA (bi _) h1,Jf hB (bi _) h3⟩
theorem gK{xs X:List α}{a mm b s e mid:Nat}(hA:Ja key (C2 xs a mm))(hB:Ja key (C2 xs mm b))(h0:a≤s)(h1:s≤mm)(h2:mm≤e)(h3:e≤b)(hb:b≤xs.length)(hm:mid=s+(e-mm))(hX:X.length=mid-a):Ja key (C2 (E8 (Jy xs s mm e) a mid X) mid e)∧Ja key (C2 (E8 (Jy xs s mm e) a mid X) e b):=by
 have hl:=Fo h1 h2 (by omega:e≤xs.length)
 rw[E5 oQ oQ hX (.inr (bi _)),E5 oQ oQ hX (.inr oQ),Q0 h1 h2 oQ (.inr (bi _))]
 subst hm
 rw[Y0 h1 h2 (by omega)]
 exact⟨Jf hA h0 (bi _),Jf hB h2 (bi _)⟩
def Bks(key:α→K2)(ys:List α)(B:Nat):Prop:=∀i,Ja key (C2 ys (B*i) (min (B*i+B) ys.length))
def Ins(key:α→K2)(ys:List α)(B a:Nat):Prop:=(∃q,a=B*q)∧∀i,B*(i+1)≤a→Ja key (C2 ys (B*i) (B*i+B))
def Mrg(key:α→K2)(ys:List α)(B a:Nat):Prop:=Ins key ys (2*B) a∧∀i,a≤B*i→Ja key (C2 ys (B*i) (min (B*i+B) ys.length))
theorem Ins.zero(ys:List α)(B:Nat)(hB:0<B):Ins key ys B 0:=⟨⟨0,rfl⟩,fun i h=>by
 rw[g7,fq]at h
 omega⟩
theorem Ins.step{ys zs:List α}{B a:Nat}(hB:0<B)(h:Ins key ys B a)(hb:a+B≤ys.length)(hz:StS key (C2 ys a (a+B)) zs):Ins key (E8 ys a (a+B) zs) B (a+B):=by
 obtain⟨⟨q,rfl⟩,hs⟩:=h
 have hzl:zs.length=B*q+B-B*q:=by rw[hz.same.length,Cm hb]
 refine⟨⟨q+1,by rw[g7,fq]⟩,fun i hi=>?_⟩
 have hle:i≤q:=by
   have:B*(i+1)≤B*(q+1):=by rw[g7 B q 1,fq];exact hi
   have:=Nat.le_of_mul_le_mul_left this hB
   omega
 rcases fb i q with h|h
 · have h1:B*(i+1)≤B*q:=gh B h
   rw[E5 oQ hb hzl (.inl (by rw[g7,fq]at h1;exact h1))]
   exact hs i h1
 have:i=q:=by omega
 subst this
 rw[fQ oQ hb hzl]
 exact hz.ord
theorem Ins.last{ys zs:List α}{B a:Nat}(h:Ins key ys B a)(ha:a≤ys.length)(hb:ys.length<a+B)(hz:StS key (C2 ys a ys.length) zs):Bks key (E8 ys a ys.length zs) B:=by
 obtain⟨⟨q,rfl⟩,hs⟩:=h
 have hzl:zs.length=ys.length-B*q:=by rw[hz.same.length,Cm (bi _)]
 have hl:=Dv ha (bi _) hzl
 intro i
 rw[hl]
 rcases jc i q with h|h|h
 · have h1:B*(i+1)≤B*q:=gh B h
   have h2:B*i+B≤B*q:=by rw[g7,fq]at h1;exact h1
   rw[dk oQ,E5 ha (bi _) hzl (.inl h2)]
   exact hs i h1
 · subst h
   rw[iu oQ,fQ ha (bi _) hzl]
   exact hz.ord
 have h1:B*(q+1)≤B*i:=gh B h
 rw[g7,fq]at h1
 rw[Gh (by omega)]
 exact List.Pairwise.nil
theorem Mrg.start{ys:List α}{B:Nat}(hB:0<B)(h:Bks key ys B):Mrg key ys B 0:=⟨Ins.zero ys (2*B) oQ,fun i _=>h i⟩
theorem Mrg.pre{ys:List α}{B a:Nat}(h:Mrg key ys B a)(hb:2*B+a≤ys.length):Ja key (C2 ys a (a+B))∧Ja key (C2 ys (a+B) (2*B+a)):=by
 obtain⟨⟨⟨q,hq⟩,_⟩,hs⟩:=h
 have e1:a=B*(2*q):=by rw[hq,i7 2 B,Nat.mul_assoc]
 have e2:a+B=B*(2*q+1):=by rw[g7,fq,←e1]
 have h1:=hs (2*q) oQ
 have h2:=hs (2*q+1) oQ
 rw[←e1,dk (by omega)]at h1
 rw[←e2,dk oQ,show a+B+B=2*B+a by omega]at h2
 exact⟨h1,h2⟩
theorem Mrg.step{ys zs:List α}{B a:Nat}(hB:0<B)(h:Mrg key ys B a)(hb:2*B+a≤ys.length)(hz:StS key (C2 ys a (2*B+a)) zs):Mrg key (E8 ys a (2*B+a) zs) B (2*B+a):=by
 have e:2*B+a=a+2*B:=by omega
 rw[e]at hb hz⊢
 have hzl:zs.length=a+2*B-a:=by rw[hz.same.length,Cm hb]
 refine⟨h.1.step oQ hb hz,fun i hi=>?_⟩
 rw[Dv oQ hb hzl,E5 oQ hb hzl (.inr hi)]
 exact h.2 i oQ
theorem Mrg.FI{ys:List α}{B a:Nat}(h:Mrg key ys B a)(h1:a+B<ys.length)(hb:ys.length<2*B+a):Ja key (C2 ys a (a+B))∧Ja key (C2 ys (a+B) ys.length):=by
 obtain⟨⟨⟨q,hq⟩,_⟩,hs⟩:=h
 have e1:a=B*(2*q):=by rw[hq,i7 2 B,Nat.mul_assoc]
 have e2:a+B=B*(2*q+1):=by rw[g7,fq,←e1]
 have k1:=hs (2*q) oQ
 have k2:=hs (2*q+1) oQ
 rw[←e1,dk (by omega)]at k1
 rw[←e2,iu (by omega)]at k2
 exact⟨k1,k2⟩
theorem Mrg.last{ys zs:List α}{B a:Nat}(h:Mrg key ys B a)(ha:a≤ys.length)(hb:ys.length<2*B+a)(hz:StS key (C2 ys a ys.length) zs):Bks key (E8 ys a ys.length zs) (2*B):=h.1.last ha oQ hz
theorem Mrg.done{ys:List α}{B a:Nat}(h:Mrg key ys B a)(ha:a≤ys.length)(hb:ys.length<2*B+a)(h1:¬a+B<ys.length):Bks key ys (2*B):=by
 have hs:Ja key (C2 ys a ys.length):=by
   obtain⟨⟨⟨q,hq⟩,_⟩,hs⟩:=h
   have e1:a=B*(2*q):=by rw[hq,i7 2 B,Nat.mul_assoc]
   have k1:=hs (2*q) oQ
   rw[←e1,iu (by omega)]at k1
   exact k1
 have:=h.last ha hb (StS.refl hs)
 rwa [Hc ha (bi _)]at this
theorem Bks.all{xs ys:List α}{B:Nat}(h:Bks key ys B)(hB:ys.length≤B)(hs:sameF key xs ys):StS key xs ys:=by
 have:=h 0
 rw[Nat.mul_zero,dm,iu hB,sJ]at this
 exact⟨this,hs⟩
theorem sameF.step{xs ys zs:List α}{a b:Nat}(h:sameF key xs ys)(h1:a≤b)(hb:b≤ys.length)(hz:StS key (C2 ys a b) zs):sameF key xs (Wx.E8 ys a b zs):=h.trans (sameF.E8 h1 hb hz.same)
def kD(key:α→K2)(x:α):List α→List α
 |[]=>[x]
 |y::l=>if Hz (key x) (key y)=true then x::y::l else y::kD key x l
def Ji(key:α→K2)(l:List α):List α:=l.foldl (fun acc x=>kD key x acc) []
theorem Y3(x:α):∀(l:List α),Ja key l→∃p,kD key x l=C3 l x p∧p≤l.length∧(∀y∈l.drop p,Hz (key x) (key y)=true)∧(p=0∨∃y,l[p-1]?=some y∧Hz (key x) (key y)=false)
 |[],_=>⟨0,rfl,bi _,by simp,.inl rfl⟩
 |y::l,h=>by
   unfold kD
   split
   · rename_i hlt
     refine⟨0,by simp[C3],a_ _,fun z hz=>?_,.inl rfl⟩
     rcases bm.1 (by simpa using hz:z∈y::l)with rfl|hz
     · exact hlt
     exact Wc hlt ((dz.1 h).1 z hz)
   rename_i hlt
   obtain⟨p,e,hp,h1,h2⟩:=Y3 x l (dz.1 h).2
   refine⟨p+1,by rw[e];rfl,by simpa using hp,by simpa using h1,.inr ?_⟩
   rcases h2 with rfl|⟨z,hz,hl⟩
   · exact⟨y,rfl,by simpa using hlt⟩
   refine⟨z,?_,hl⟩
   have:0<p:=by
     rcases Nat.eq_zero_or_pos p with rfl|h
     · rw[Nat.zero_sub]at hz
       cases l with
       |nil=>simp at hz
       |cons w l=>
         exfalso
         simp at hz;subst hz
         have:=h1 w (by simp)
         rw[hl]at this;cases this
     exact h
   rw[show p+1-1=(p-1)+1 by omega,fc]
   exact hz
theorem Gi(l:List α):StS key l (Ji key l):=by
 suffices h:∀(r done acc:List α),StS key done acc→StS key (done++r) (r.foldl (fun acc x=>kD key x acc) acc)by
   have:=h l [] [] ⟨List.Pairwise.nil,fun _=>rfl⟩
   simpa[Ji]using this
 intro r
 induction r with
 |nil=>intro done acc h;simpa using h
 |cons x r ih=>
   intro done acc h
   obtain⟨p,e,hp,h1,h2⟩:=Y3 (key:=key) x acc h.ord
   have:=ih (done++[x]) (kD key x acc) (by rw[e];exact h.snoc hp h1 h2)
   simpa using this
theorem StS.eq{l s:List α}(h:StS key l s):s=Ji key l:=h.unique (Gi l)
end
end Go.Wx
namespace Go.Proofs.YthcabjphnacjeaaGreatDoor
open Go.Proofs.Tryz
open Go.Wx Go.RowKit
theorem cZ(z:Nat)(w:World):Ret prog 202 #[vu z] w fun r w'=>(∃B,r=.func (.func 239) #[] #[.pointer (some ⟨B,0,none⟩)]∧Blk w' B #[vu z] 241∧w.heap.size≤B)∧Up w w':=by
 have hW:=Up.refl w
 refine cT 4 func202 rfl (Ae (Ap (.O0 (.t rfl) rfl) rfl ?_))
 rintro _ w1 ⟨B1,rfl,NB1⟩
 have eB1:=NB1.at_
 replace hW:=hW.up NB1.up
 have hB1:=NB1.blk
 refine Az (An (Aa (U (.makeFunc (.cu rfl)) (LW.A rfl (Ah (Am (KW.q ?_)))))))
 exact⟨⟨_,rfl,hB1,by omega⟩,hW⟩
theorem Y4(B1 z:Nat)(w:World)(hz:z<18446744073709551616)(hB:Blk w B1 #[vu z] 241):wR prog 239 #[.pointer (some ⟨B1,0,none⟩)] IR (fun b=>b=B1) (fun ys=>ys=Rs z) 10 w:=by
 intro lp J w0 hUw hJZ hY hJ
 have hB1:=hB.up hUw
 refine cT 18 func239 rfl (Ai (CW.loop (σ:=List (UInt8×Bool)×Nat) (fun s w=>Rs z=s.1++Rs s.2∧s.2<18446744073709551616∧J s.1 w∧Blk w B1 #[vu s.2] 241) (fun s=>[(0,.eq (.func (.yield lp) #[] #[])),(1,.eq (.pointer (some ⟨B1,0,none⟩)))]) (fun s=>s.2) ([],z) ?_ ?_ ?_))
 ·exact⟨rfl,hz,hJ,hB1⟩
 ·exact tQ
 rintro⟨pre,zz⟩ w1 ⟨hg,h64,hJ,hB1⟩
 obtain⟨lb,hlb⟩:∃b,b=decide ((zz:Int)<128):=⟨_,rfl⟩
 refine Ai (Ae (U (.lb rfl ((hB1).Ad rfl)) (U (.val (v':=.bool lb) (PEv.lss (.t rfl) (.const _)) (bh Go.Value.bool hlb.symm)) (LW.A rfl (An (Ae (I rfl (U (.lb rfl ((hB1).Ad rfl)) (U (.val (v':=vu (zz%128)) (iY (.t rfl) (.const _)) (bh (Go.Value.int .u64) (xQ h64))) (U (.val (v':=bv (UInt8.ofNat (zz%128))) (PEv.conv (k':=.u8) (by rw[nd];rfl) ml (.t rfl)) (sF (z:=zz%128))) (I rfl ?_)))))))))))
 have hY2:=hY pre (UInt8.ofNat (zz%128),lb) _ hJ (oH hg)
 refine LW.y (vs:=[bv (UInt8.ofNat (zz%128)),.bool lb]) (.t rfl) (.ct rfl (.cu rfl)) rfl rfl hY2 ?_
 rintro _ w2 ⟨rfl,hJ2,hkp⟩
 replace hB1:Blk w2 B1 _ _:=(hkp B1 rfl).trans hB1
 refine U (.n1 rfl) (I rfl (G6 rfl rfl (U (.po rfl (fun hp=>(by exact .cond rfl (by simp_all)))) (Ah (CW.b rfl (fun h15=>?_) (fun h15=>?_))))))
 ·refine Am (Au (A6 (Au (A6 (F8 rfl ⟨_,rfl,?_⟩)))))
  exact⟨_,oE (oG hlb) hg (by simpa using h15),hJ2⟩
 refine Aj (Ab (Aa (U (.lb rfl ((hB1).Ad rfl)) (U (.val (v':=vu (zz/128)) (PEv.Us (j:=7) (.t rfl) (.const _)) (bh (Go.Value.int .u64) (IP (z:=zz)))) (Ce (.store sizeOf241 (.t rfl) (.t rfl) rfl hB1 bQ) ?_)))))
 intro w3 Nw3
 replace hB1:=Nw3.blk
 replace hB1:Blk w3 B1 #[vu (zz/128)] _:=hB1
 refine LW.nil (Al (Av ?_))
 have hnx:=oF (oG hlb) hg (by simpa using h15) h64
 exact⟨(_,zz/128),⟨hnx.1,by dsimp only;omega,hJZ _ _ _ hJ2 Nw3.sto.fr,hB1⟩,tQ,hnx.2⟩
theorem R7(n:Int)(w:World):Ret prog 121 #[vi n] w fun r w'=>r=.tuple #[.string ⟨(encI n).toArray⟩,vi (yI n)]∧Up w w':=by
 have hW:=Up.refl w
 obtain⟨w0,rfl,_⟩:=W0 w
 refine E3 (n:=33) func121 rfl rfl rfl (Ae (Az (Az (An (Ak ?_)))))
 cases hq1:decide (Oy n)with
 |true=>
  have hin:=b8 hq1
  obtain⟨hin1,hin2⟩:=hin
  have hin:Oy n:=⟨hin1,hin2⟩
  refine Aa (I rfl (U (.fa (PEv.lss (.t rfl) (.const _)) (bx oQ)) (I rfl (Ar (I rfl (Ar (U (.fa (PEv.gtr (.t rfl) (.const _)) (bx oQ)) (U (.po rfl (fun hp=>(by exact .tmp rfl))) (Ah (CW.f rfl (Aj (Ab (Ae (Ap (.Gc zeroValue117 rfl) rfl ?_))))))))))))))
  rintro _ w1 ⟨B4,rfl,NB4⟩
  have eB4:=NB4.at_
  have zB4:=NB4.size
  replace hW:=hW.up NB4.up
  have hB4:=NB4.blk
  refine An (Ae (I rfl (U (.conv (k':=.u64) (by rw[k9];rfl) nd (.t rfl)) (U (.FB (j:=1) (.t rfl) (.const _)) (I rfl (U (.Us (j:=63) (.t rfl) (.const _)) (U (.conv (k':=.u64) (by rw[k9];rfl) nd (.t rfl)) (U (.val (v':=vu (fI n)) (iZ (.t rfl) (.t rfl)) (bh (Go.Value.int .u64) (nJ hin))) (A3 (eC (.o rfl) (DO)) rfl (cZ _ _) ?_)))))))))
  rintro _ w2 ⟨⟨B1,rfl,hBz,zz1⟩,uw2⟩
  have zw2:=uw2.size
  replace hW:=hW.up uw2
  replace hB4:=hB4.up uw2
  refine Ah (Ai ?_)
  obtain⟨bq,hbq⟩:∃bq,bq=w2.heap.size:=⟨_,rfl⟩
  have zBz:=hBz.lt
  refine T7 (fun b=>b=B1) (fun pre W=>Sz bq W∧∃v,Blk W B4 #[v] 117∧OwnS W bq 5 1 O5 v (pre.map X8)∧Up w0 W) (fun x=>[(5,.eq (bv x.1)),(6,.eq (.bool x.2)),(4,.eq (.pointer (some ⟨B4,0,none⟩)))]) (.t rfl) (fun args w=>EI args w) (fun W hu=>Y4 B1 (fI n) W (bP hin.1 hin.2) (hBz.up hu)) (fun _=>rfl) rfl ?_ ?_ ?_ ?_ ?_ (fun _=>rfl) ?_ ?_
  ·rintro b rfl
   omega
  ·rw[←hbq]
   intro pre W W' row hs hg hr
   obtain⟨hZ,v,hB4,hO,hW⟩:=hs
   exact⟨hZ.ko (Ko.grown hg hr),v,hB4.ko (Ko.grown hg hr),hO.ko (Ko.grown hg hr),hW.ko (Ko.grown hg hr) oQ⟩
  ·intro pre W W' hs hf
   obtain⟨hZ,v,hB4,hO,hW⟩:=hs
   exact⟨hZ.sK hf,v,hB4.sK hf oQ,hO.sK hf (fun b e=>by subst e;omega),hW.sK hf (fun b e=>by subst e;omega)⟩
  ·exact⟨fh hbq,_,hB4,OwnS.nil _ _ _ _ _,hW⟩
  ·intro lp x w3
   refine cI rfl rfl (Ae (LW.A rfl (Ah (Aa (LW.A rfl (LW.nil ?_))))))
   exact fun a ha=>⟨rfl,ha.sub tQ⟩
  ·rw[←hbq]
   intro lp pre x w4 hs hlt
   obtain⟨hZ,v,hB4,hO,hW⟩:=hs
   have zq:=hZ.le
   have hK:=Kf.refl bq w4
   have hI1:=Zk.refl (B:=B1) (w:=w4) oQ
   refine Ai (Ak (Ae (I rfl (U (.n1 rfl) (Ah (CW.b rfl (fun h24=>?_) (fun h24=>?_)))))))
   ·refine Aa (I rfl (U (.val (v':=bv (x.1|||128)) (PEv.AM (.t rfl) (.const _)) (bh (Go.Value.int .u8) FC)) (LW.A rfl (Ah (Aa (U (.lb rfl (hB4.Ad rfl)) (I rfl (Ap (.buildSlice (xs:=[_]) (enc:=O5) (mk:=bv) l8 sizeOf5 m8 rfl cQ (fun _=>rfl) (fun _=>rfl) (.cu rfl) rfl) rfl ?_))))))))
    rintro _ w5 ⟨B29,cB29,rfl,NB29,yB29,xB29⟩
    have eB29:=NB29.at_
    have zB29:=NB29.size
    replace hZ:=hZ.up NB29.up
    replace hB4:=hB4.up NB29.up
    replace hO:=hO.up NB29.up
    replace hW:=hW.up NB29.up
    replace hK:=hK.up NB29.up
    replace hI1:=hI1.up NB29.up
    have hB29:=NB29.blk
    have hE29:=xB29
    refine Ap (.append (enc:=O5) (base:=bq) (bytes:=1) (i:=Tryz.t5) l8 kQ rfl rfl rfl rfl cQ (fun _=>rfl) fM (.t rfl) (.t rfl) hO (Ay hE29) (by simp) (by simp[maxLen];omega) (by simp;omega) oQ) rfl ?_
    rintro v30 w6 ⟨Ow6,Gw6⟩
    replace hZ:=hZ.gr Gw6 rfl
    replace hB4:=hB4.gr Gw6 oQ
    replace hW:=hW.gr Gw6 oQ
    replace hK:=hK.gr Gw6
    replace hI1:=hI1.gr Gw6 oQ
    replace hO:=Ow6
    refine Ce (.store sizeOf117 (.t rfl) (.t rfl) hO.one hB4 bQ) ?_
    intro w7 Nw7
    replace hZ:=hZ.sto Nw7.sto oQ
    replace hO:=hO.sto Nw7.sto oQ
    replace hW:=hW.sto Nw7.sto oQ
    replace hK:=hK.sto Nw7.sto (.inr (.inr ⟨_,_,hB4⟩))
    replace hI1:=hI1.sto Nw7.sto oQ
    replace hB4:=Nw7.blk
    replace hB4:Blk w7 B4 #[v30] _:=hB4
    refine LW.nil (Al ?_)
    exact fun a ha=>⟨hK,fun b e=>by subst e;exact hI1.same,hZ,_,hB4,by rw[cm,c9,fy];(rw[sV h24];exact hO),hW⟩
   refine Aj (Ab (Aa (U (.lb rfl (hB4.Ad rfl)) (I rfl (Ap (.buildSlice (xs:=[_]) (enc:=O5) (mk:=bv) l8 sizeOf5 m8 rfl cQ (fun _=>rfl) (fun _=>rfl) (.cu rfl) rfl) rfl ?_)))))
   rintro _ w8 ⟨B29,cB29,rfl,NB29,yB29,xB29⟩
   have eB29:=NB29.at_
   have zB29:=NB29.size
   replace hZ:=hZ.up NB29.up
   replace hB4:=hB4.up NB29.up
   replace hO:=hO.up NB29.up
   replace hW:=hW.up NB29.up
   replace hK:=hK.up NB29.up
   replace hI1:=hI1.up NB29.up
   have hE29:=xB29
   refine Ap (.append (enc:=O5) (base:=bq) (bytes:=1) (i:=Tryz.t5) l8 kQ rfl rfl rfl rfl cQ (fun _=>rfl) fM (.t rfl) (.t rfl) hO (Ay hE29) (by simp) (by simp[maxLen];omega) (by simp;omega) oQ) rfl ?_
   rintro v30 w9 ⟨Ow9,Gw9⟩
   replace hZ:=hZ.gr Gw9 rfl
   replace hB4:=hB4.gr Gw9 oQ
   replace hW:=hW.gr Gw9 oQ
   replace hK:=hK.gr Gw9
   replace hI1:=hI1.gr Gw9 oQ
   replace hO:=Ow9
   refine Ce (.store sizeOf117 (.t rfl) (.t rfl) hO.one hB4 bQ) ?_
   intro w10 Nw10
   replace hZ:=hZ.sto Nw10.sto oQ
   replace hO:=hO.sto Nw10.sto oQ
   replace hW:=hW.sto Nw10.sto oQ
   replace hK:=hK.sto Nw10.sto (.inr (.inr ⟨_,_,hB4⟩))
   replace hI1:=hI1.sto Nw10.sto oQ
   replace hB4:=Nw10.blk
   replace hB4:Blk w10 B4 #[v30] _:=hB4
   refine LW.nil (Al ?_)
   exact fun a ha=>⟨hK,fun b e=>by subst e;exact hI1.same,hZ,_,hB4,by rw[cm,c9,fy];(rw[oI h24];exact hO),hW⟩
  intro D ys w11 hDb hSy hs hD
  rw[←hbq]at hDb
  obtain⟨hZ,v,hB4,hO,hW⟩:=hs
  replace hD:Ob w11 D (.deferred (some [])):=hD
  refine Al (Ab (Ae (U (.lb rfl (hB4.Ad rfl)) (U (.xR l8 ml lq (.t rfl) hO) (LW.A rfl (Az (Ah (Am (L0 hD rfl ?_)))))))))
  replace hZ:=hZ.ko (Ko.putObj (.deferred none) hD rfl hDb)
  replace hB4:=hB4.ko (Ko.putObj (.deferred none) hD rfl hDb)
  replace hO:=hO.ko (Ko.putObj (.deferred none) hD rfl hDb)
  replace hW:=hW.putObj (D:=D) (.deferred none) oQ
  refine F9 rfl rfl rfl ⟨_,rfl,?_⟩
  (rw[sW hin,yI,bg hin];subst hSy;exact⟨rfl,hW⟩)
 |false=>
  have hin:=cr hq1
  refine Aa (I rfl (U (.lss (.t rfl) (.const _)) (I rfl (G6 rfl rfl (LW.gr rfl (fun hc=>PEv.gtr vQ (.const _)) (U (.po rfl (fun hp=>(by exact .cond rfl (by simp_all)))) (Ah (CW.b rfl (fun h12=>?_) (fun h12=>?_)))))))))
  ·refine Ae (Az (Az (Ah (Am (Au (Ri (F9 rfl rfl rfl ⟨_,rfl,?_⟩)))))))
   (rw[oJ hin,yI,aq hin];exact⟨rfl,hW⟩)
  exfalso
  apply hin
  unfold Oy
  simp at h12
  omega
theorem Ua(t:ByteArray)(w:World)(ht:t.size≤65536):Ret prog 145 #[.string t] w fun r w'=>r=.tuple #[.string ⟨(bT t.data.toList).toArray⟩,vi 0]∧Up w w':=by
 have hW:=Up.refl w
 refine cT 18 func145 rfl (Ae (Az (Az (An (Ae (I rfl (U (.Ra lq (.t rfl)) (U (.fa (PEv.gtr (.t rfl) (.const _)) (bx oQ)) (Ah (CW.f rfl (Aj (Ab (Ae (I rfl (U (.Ra lq (.t rfl)) (A3 (eC (.o rfl) (vS)) rfl (R7 _ _) ?_))))))))))))))))
 rintro _ w1 ⟨rfl,uw1⟩
 replace hW:=hW.up uw1
 refine I rfl (U (.xt rfl rfl) (U (.xt rfl rfl) (LW.A rfl (LW.A rfl (An (Aa (I rfl (I rfl (U (.nK (.t rfl) (.t rfl) (by rw[R3];have:=N1 (t.size:Int);omega)) (LW.A rfl (Az (Ah (Am (F9 rfl rfl rfl ⟨_,rfl,?_⟩))))))))))))))
 refine⟨?_,hW⟩
 rw[Ux,bT,Wk]
theorem Ub(D:Wri)(bs:List UInt8)(w:World)(hD:(D4 121 5 D (bs)).holds w):Ret prog 203 #[.pointer (some ⟨D.bd,0,none⟩)] w fun r w'=>r=.tuple #[]∧Stp (D4 121 5 D (bs)) (D4 121 5 ⟨D.bd,true,D.bf⟩ (bs)) w w':=by
 have hS:=O4 hD
 obtain⟨B,us,bf⟩:=D
 refine cT 20 func203 rfl (Ak ?_)
 cases hq0:us with
 |false=>
  subst hq0
  replace hS:Sep _ w w [A5 B #[.pointer none,bf] 121,Aw 5 1 O5 bf bs]:=hS
  refine Aa (I rfl (U (.nc rfl) (U (.fB 0 rfl) (U (.lb rfl (hS.b0.Ad rfl)) (U (.tr (PEv.Kd nt (.t rfl)) (rfl)) (Ah (CW.v rfl (Aa (I rfl (I rfl (U (.FD (k:=1) nt underlying297 kQ (.t rfl) hS.b0 (by simp)) (U (.ext (.cu rfl) (Wb func240 rfl rfl kQ kQ _)) (U (.sG (k:=2) underlying297 nt kQ (.t rfl) hS.b0 kQ) (U (.nc rfl) (U (.fB 0 rfl) (Ce (.store sizeOf116 (.t rfl) (.t rfl) rfl hS.b0 bQ) ?_))))))))))))))))
  intro w1 Nw1
  replace hS:=hS.Ec 0 rfl (show Set_ _ w1 _ (#[.pointer (some ⟨B,0,none⟩),bf]) _ from Nw1)
  refine LW.nil (Db rfl ⟨_,rfl,?_⟩)
  exact⟨rfl,Kk (rest:=[]) hS⟩
 |true=>
  subst hq0
  replace hS:Sep _ w w [A5 B #[.pointer (some ⟨B,0,none⟩),bf] 121,Aw 5 1 O5 bf bs]:=hS
  refine Aa (I rfl (U (.nc rfl) (U (.fB 0 rfl) (U (.lb rfl (hS.b0.Ad rfl)) (U (.fa (PEv.Kd nt (.t rfl)) (rfl)) (Ah (CW.f rfl (Ae (I rfl (U (.nc rfl) (U (.fB 0 rfl) (U (.lb rfl (hS.b0.Ad rfl)) (I rfl (U (.fa (X9 (k:=2) nt kQ (.t rfl) (.t rfl)) (rfl)) (Ah (CW.f rfl (Aj (Db rfl ⟨_,rfl,?_⟩))))))))))))))))))
  exact⟨rfl,Kk (rest:=[]) hS⟩
theorem Qk(t:ByteArray)(D:Wri)(bs:List UInt8)(w:World)(hD:(D4 121 5 D (bs)).holds w)(hlen:bs.length+t.size≤140737488355328):Ret prog 122 #[.pointer (some ⟨D.bd,0,none⟩),.string t] w fun r w'=>r=.tuple #[vi (t.size:Int),.nilIface]∧∃bf,Stp (D4 121 5 D (bs)) (D4 121 5 ⟨D.bd,true,bf⟩ (bs++t.data.toList)) w w':=by
 have hS:=Sep.cons hD (fun _ h=>h) (Sep.start _ _) (by simp)
 refine cT 19 func122 rfl (Ae (Az (Az (An (Aa (I rfl (A3 (eC (.o rfl) (DP)) rfl (Ub D bs _ (hS.get 0 rfl)) ?_)))))))
 rintro _ w1 ⟨rfl,uw1⟩
 replace hS:=hS.Ft 0 rfl uw1
 refine An ?_
 replace hS:=Sep.unfold (Bs:=[]) (rest:=[]) hS
 replace hS:Sep _ _ _ [A5 D.bd #[.pointer (some ⟨D.bd,0,none⟩),D.bf] 121,Aw 5 1 O5 D.bf bs]:=hS
 refine Aa (I rfl (I rfl (U (.nc rfl) (U (.fB 1 rfl) (U (.lb rfl (hS.b0.Ad rfl)) (I rfl (Ap (.jC (i:=Tryz.t5) l8 lq kQ rfl rfl rfl (.t rfl) (.t rfl) (hS.own 1 rfl) oQ) rfl ?_)))))))
 intro v14 w2 Gw2
 replace hS:=hS.Ft 1 rfl Gw2
 refine U (.nc rfl) (U (.fB 1 rfl) (Ce (.store sizeOf117 (.t rfl) (.t rfl) (hS.own 1 rfl).one hS.b0 bQ) ?_))
 intro w3 Nw3
 replace hS:=hS.Ec 0 rfl (show Set_ _ w3 _ (#[.pointer (some ⟨D.bd,0,none⟩),v14]) _ from Nw3)
 refine An (Aa (I rfl (U (.Ra lq (.t rfl)) (LW.A rfl (Az (Ah (Am (F9 rfl rfl rfl ⟨_,rfl,?_⟩))))))))
 exact⟨rfl,v14,Kk (rest:=[]) hS⟩
theorem dA(D:Wri)(bs:List UInt8)(w:World)(hD:(D4 121 5 D (bs)).holds w)(hne:bs≠[])(hlen:bs.length≤1000000000):Ret prog 50 #[.pointer (some ⟨D.bd,0,none⟩)] w fun r w'=>r=.string ⟨bs.toArray⟩∧Fr (D4 121 5 D (bs)).foot w w':=by
 have hS:=O4 hD
 obtain⟨B,us,bf⟩:=D
 obtain⟨g,cp,rfl,hcp⟩:∃g cp,bf=.slice (some ⟨g,0,none⟩) bs.length cp∧cp≠0:=by
   have h0:0<bs.length:=f5.2 hne
   obtain⟨_,⟨rfl,hn⟩|⟨g,cap,cur,rfl,_,_,hc,_⟩⟩:=Ru hD
   · omega
   exact⟨g,cap,rfl,by omega⟩
 replace hS:Sep _ w w [A5 B #[(⟨B,us,.slice (some ⟨g,0,none⟩) bs.length cp⟩:Wri).ad,.slice (some ⟨g,0,none⟩) bs.length cp] 121,Aw 5 1 O5 (.slice (some ⟨g,0,none⟩) bs.length cp) bs]:=hS
 refine cT 14 func50 rfl (Ae (Az (An (Cz 10 kQ kQ kQ kQ kQ rfl rfl (J (.mv rfl) (J (.nc rfl) (J (.fB 1 rfl) (J (.lb rfl (hS.b0.Ad rfl)) (J (.jD hcp (.t rfl)) (J (.mv rfl) (J (.nc rfl) (J (.fB 1 rfl) (J (.lb rfl (hS.b0.Ad rfl)) (J (.Cl l8 (.t rfl)) (HW.nil ?_)))))))))))))))
 intro w1 uw1
 replace hS:=hS.up uw1
 refine Ap (.jE underlying199 kQ (.t rfl) (.t rfl) (hS.own 1 rfl) hne oQ) rfl ?_
 rintro _ w2 ⟨rfl,hF⟩
 refine LW.A rfl (Ah (Am (KW.q ?_)))
 exact⟨rfl,hS.fr.next hF (fun i hi=>.inl (bU (.inr hi)))⟩
theorem Mt(b:Nat)(t:ByteArray)(D:Wri)(bs:List UInt8)(w:World)(hD:(D4 121 5 D (bs)).holds w)(hb:D.bd=b)(hlen:bs.length+t.size≤140737488355328):Ret prog 122 #[.pointer (some ⟨b,0,none⟩),.string t] w fun r w'=>r=.tuple #[vi (t.size:Int),.nilIface]∧∃bf,Stp (D4 121 5 D (bs)) (D4 121 5 ⟨b,true,bf⟩ (bs++t.data.toList)) w w':=by subst hb;exact Qk t D bs w hD hlen
theorem tH(ad:Option Addr)(cp:Nat)(l:List Int)(D:Wri)(bs:List UInt8)(w:World)(hD:(D4 121 5 D (bs)).holds w)(hE0:Els w ad 1 A4 l)(hne:∀B o,ad=some ⟨B,o,none⟩→¬(D4 121 5 D (bs)).foot B)(hlen:bs.length+10*l.length≤1000000000):Ret prog 46 #[.pointer (some ⟨D.bd,0,none⟩),.slice ad l.length cp] w fun r w'=>r=.tuple #[]∧∃D',D'.bd=D.bd∧Stp (D4 121 5 D (bs)) (D4 121 5 D' (bs++Cu l)) w w':=by
 obtain⟨w0,rfl,_⟩:=W0 w
 have hS:=Sep.cons hD (fun _ h=>h) (Sep.start _ _) (by simp)
 refine cT 25 func46 rfl (Ae (I rfl (U (.Cl ky (.t rfl)) (U (.move (.const _)) (Ah (Ai (A7 (σ:=Nat×Wri) (fun s w=>(s.1≤l.length)∧(s.2.bd=D.bd)∧(Sep (D4 121 5 D (bs)).foot w0 w [D4 121 5 s.2 (bs++Cu (l.take s.1))])) (fun s=>[(10,.eq (vi (s.1:Int)))]) ([(0,.eq _),(8,.eq _),(9,.eq _)]) (fun s=>l.length-s.1) (0,D) ?_ tQ ?_)))))))
 ·exact⟨a_ _,rfl,by simpa[Cu]using hS⟩
 rintro⟨k,D1⟩ w1 ⟨hkk,hbd,hS⟩
 dsimp only at hkk hbd hS
 refine Ae (U (.l2 rfl rfl) (An (CW.b rfl (fun h11=>?_) (fun h11=>?_))))
 ·refine Aj (Ab (Ak (Ai (Ak ?_))))
  have hE:=hE0.fr hS.fr hne
  have hkl:k<l.length:=by simp at h11;omega
  refine Aa ?_
  obtain⟨x,hx⟩:=Af (xs:=l) (i:=k) oQ
  obtain⟨Bx,ox,ax,hcx⟩:=hE _ x hx
  refine U (.Ao ky k6 (.t rfl) (.t rfl) oQ ax) (U (.lb rfl (hcx.nth (j:=0) rfl)) (LW.A rfl (An (Aa (I rfl (A3 (eC (.o rfl) (vS)) rfl (R7 x _) ?_))))))
  rintro _ w2 ⟨rfl,uw2⟩
  replace hS:=hS.up uw2
  refine I rfl (U (.xt rfl rfl) (U (.xt rfl rfl) (LW.A rfl (LW.A rfl (Ah (Aa (I rfl (U (.nc rfl) (U (.fB 0 rfl) (I rfl (A3 (eC (.u rfl rfl) (vT)) rfl (Mt D.bd _ D1 _ _ (hS.get 0 rfl) hbd (by rw[R3,am];have:=N1 x;have:=Ht (l.take k);have:=List.length_take_le k l;omega)) ?_)))))))))))
  rintro _ w3 ⟨rfl,bf,uw3⟩
  replace hS:=hS.Ft 0 rfl uw3
  refine LW.nil (Al (Ab (Aa (U (.ic rfl oQ) (I rfl (LW.nil (Av ?_)))))))
  exact⟨(k+1,⟨D.bd,true,bf⟩),⟨by omega,rfl,by rw[bR hx,←c_];exact hS⟩,tQ,by omega⟩
 refine A9 (Ac (Ac (Aq (Db rfl ⟨_,rfl,?_⟩))))
 have hk2:l.take k=l:=f7 (by simp at h11;omega)
 rw[hk2]at hS
 exact⟨rfl,D1,hbd,⟨hS.fr,hS.get 0 rfl,hS.foot 0 rfl⟩⟩
theorem oW(b:Nat)(ad:Option Addr)(cp:Nat)(l:List Int)(D:Wri)(bs:List UInt8)(w:World)(hD:(D4 121 5 D (bs)).holds w)(hb:D.bd=b)(hE0:Els w ad 1 A4 l)(hne:∀B o,ad=some ⟨B,o,none⟩→¬(D4 121 5 D (bs)).foot B)(hlen:bs.length+10*l.length≤1000000000):Ret prog 46 #[.pointer (some ⟨b,0,none⟩),.slice ad l.length cp] w fun r w'=>r=.tuple #[]∧∃D',D'.bd=b∧Stp (D4 121 5 D (bs)) (D4 121 5 D' (bs++Cu l)) w w':=by subst hb;exact tH ad cp l D bs w hD hE0 hne hlen
theorem R8(b:Nat)(D:Wri)(bs:List UInt8)(w:World)(hD:(D4 121 5 D (bs)).holds w)(hb:D.bd=b)(hne:bs≠[])(hlen:bs.length≤1000000000):Ret prog 50 #[.pointer (some ⟨b,0,none⟩)] w fun r w'=>r=.string ⟨bs.toArray⟩∧Fr (D4 121 5 D (bs)).foot w w':=by subst hb;exact dA D bs w hD hne hlen
theorem oX(b:Bool)(w:World):Ret prog 144 #[.bool b] w fun r w'=>r=vi (J2 b)∧Up w w':=by
 have hW:=Up.refl w
 refine cT 4 func144 rfl (Ae (Az (An (Ae (I rfl (Ah (CW.b rfl (fun h3=>?_) (fun h3=>?_))))))))
 ·refine Ae (Az (Ah (Am (Au (KW.q ?_)))))
  refine⟨?_,hW⟩
  simp[J2,h3]
 refine Aj (Ab (Ae (Az (Ah (Am (KW.q ?_))))))
 refine⟨?_,hW⟩
 simp[J2,h3]
theorem P7(f:Fact)(ad:Option Addr)(k cp:Nat)(w:World):Ret prog 48 #[.agg f.cells,.slice ad k cp] w fun r w'=>(∃Ba Bb,r=.func (.func 123) #[] #[.pointer (some ⟨Ba,0,none⟩),.pointer (some ⟨Bb,0,none⟩)]∧Blk w' Ba #[.slice ad k cp] 127∧Blk w' Bb f.cells 47)∧Up w w':=by
 have hW:=Up.refl w
 refine cT 6 func48 rfl (Ae (Ap (.bA rfl) rfl ?_))
 rintro _ w1 ⟨B2,rfl,NB2⟩
 replace hW:=hW.up NB2.up
 have hB2:=NB2.blk
 refine Ap (.O0 (.t rfl) rfl) rfl ?_
 rintro _ w2 ⟨B3,rfl,NB3⟩
 replace hW:=hW.up NB3.up
 replace hB2:=hB2.up NB3.up
 have hB3:=NB3.blk
 refine Az (An (Aa (U (.makeFunc (.ct rfl (.cu rfl))) (LW.A rfl (Ah (Am (KW.q ?_)))))))
 exact⟨⟨_,_,rfl,hB3,hB2⟩,hW⟩
theorem Wp(X Y:Nat→Prop)(B3 B2:Nat)(ad:Option Addr)(cp:Nat)(l:List Fld)(f:Fact)(w:World)(hEX:∀B o,ad=some ⟨B,o,none⟩→¬X B)(hQX:¬X B3)(hFX:¬X B2)(hQ0:Blk w B3 #[.slice ad l.length cp] 127)(hF0:Blk w B2 f.cells 47)(hE0:Els w ad 3 Fld.cells l)(hlen:l.length≤1000)(hok:∀x∈l,Fh x.off=true):
   IterS prog 123 #[.pointer (some ⟨B3,0,none⟩),.pointer (some ⟨B2,0,none⟩)] A4 X Y (fun ys=>ys=Eh l f) (fun pre=>pre<+:Eh l f) (Eh l f).length w:=by
 refine IterS.of ?_
 intro lp J Jx w0 hUw _ hY hJ
 obtain⟨Bd,hBd⟩:∃Bd,Bd=w0.heap.size:=⟨_,rfl⟩
 rw[←hBd]at hJ hY
 have hQ:=hQ0.up hUw
 have hF:=hF0.up hUw
 have hE:=Els.up hE0 hUw
 refine cT 21 func123 rfl (Ae (U (.lb rfl (hQ.Ad rfl)) (U (.Cl li (.t rfl)) (U (.move (.const _)) (Ah (Ai (CW.loop (σ:=Nat) (fun s w=>s≤l.length∧Jw Bd J ((Eh l f).take s) w∧Els w ad 3 Fld.cells l∧Blk w B3 #[.slice ad l.length cp] 127∧Blk w B2 f.cells 47) (fun s=>[(0,.eq (.func (.yield lp) #[] #[])),(1,.eq (.pointer (some ⟨B3,0,none⟩))),(2,.eq (.pointer (some ⟨B2,0,none⟩))),(6,.eq (.slice ad l.length cp)),(7,.eq (vi (l.length:Int))),(8,.eq (vi (s:Int)))]) (fun s=>l.length-s) 0 ?_ ?_ ?_)))))))
 ·exact⟨a_ _,hJ,hE,hQ,hF⟩
 ·exact tQ
 rintro k w1 ⟨hk,hJ,hE,hQ,hF⟩
 refine Ae (U (.l2 rfl rfl) (An (CW.b rfl (fun h9=>?_) (fun h9=>?_))))
 ·refine Aj (Ab (Ak (Ai (Ak ?_))))
  have hkl:k<l.length:=by simp at h9;omega
  refine Aa ?_
  obtain⟨x,hx⟩:=Af (xs:=l) (i:=k) oQ
  obtain⟨Bx,ox,ax,hcx⟩:=hE _ x hx
  refine U (.Ao li lj (.t rfl) (.t rfl) oQ ax) (U (.lc rfl (hcx)) (Ap (.Cb k8) rfl ?_))
  rintro _ w2 ⟨B5,rfl,MB5⟩
  refine Ce (.Cc lj rfl (.t rfl) (.t rfl) (Fld.one _) MB5.blk rfl) ?_
  intro w3 LB5
  have NB5:=MB5.set LB5
  replace hJ:=hJ.up NB5.up
  replace hE:=hE.up NB5.up
  replace hQ:=hQ.up NB5.up
  replace hF:=hF.up NB5.up
  replace hcx:=hcx.up NB5.up
  have hB5:=NB5.blk
  refine An ?_
  have hox:=hok x (ai hx)
  refine Aa (I rfl (U (.fB 0 rfl) (U (.lb rfl (hB5.Ad rfl)) (A3 (El (.t rfl) (.cu rfl) (oC x.off hox)) rfl (gD x.off _ _ hox) ?_))))
  rintro _ w4 ⟨rfl,uw4⟩
  replace hJ:=hJ.up uw4
  replace hE:=hE.up uw4
  replace hQ:=hQ.up uw4
  replace hF:=hF.up uw4
  replace hcx:=hcx.up uw4
  replace hB5:=hB5.up uw4
  refine U (.nc rfl) (U (.lb rfl (hF.Ad (Pa hox))) (LW.y (.t rfl) (.cu rfl) rfl rfl (hY _ (G7 f x.off) _ hJ (by rw[ca,M8];omega)) ?_))
  rintro _ w5 ⟨y,rfl,hcase⟩
  refine U (.n1 rfl) (Ah (CW.b rfl (fun h19=>?_) (fun h19=>?_)))
  ·have hy:y=false:=by simpa using h19
   subst hy
   obtain⟨_,hJx⟩:=hcase.resolve_left (by simp)
   refine Am (A6 (Au (Au (A6 (F8 rfl ⟨_,rfl,?_⟩)))))
   exact .inr ⟨_,by rw[←P5 hx];exact List.take_prefix _ _,hJx⟩
  have hy:y=true:=by simpa using h19
  subst hy
  obtain⟨_,hJ2,hN⟩:=hcase.resolve_right (by simp)
  replace hE:=hE.kx hN hEX
  replace hQ:=hQ.kx hN hQX
  replace hF:=hF.kx hN hFX
  rw[←P5 hx]at hJ2
  refine Aj (Al (Ab (Aa (U (.ic rfl oQ) (I rfl (LW.nil (Av ?_)))))))
  exact⟨k+1,⟨by omega,hJ2,hE,hQ,hF⟩,tQ,by omega⟩
 have hkk:k=l.length:=by simp at h9;omega
 refine A9 (Ac (Ac (Aq (Db rfl ⟨_,rfl,?_⟩))))
 exact .inl ⟨_,rfl,by rw[hkk,←M8 l f,b7]at hJ;exact hJ.j⟩
theorem dB(gf:Nat)(lb:Array Go.Value)(H6:List Int)(Sp:List Int→Prop)(D:Wri)(bs:List UInt8)(w:World)(hD:(D4 121 5 D (bs)).holds w)(en:∀args w,(callFunc gf args).run prog w=.ok (.enter gf args) w)(hit:∀W(X:Nat→Prop),Up w W→(∀i,X i→(D4 121 5 D (bs)).foot i∨w.heap.size≤i)→IterS prog gf lb A4 X (fun _=>False) (fun ys=>ys=H6) Sp H6.length W)(hlen:bs.length+10*H6.length≤1000000):Ret prog 47 #[.pointer (some ⟨D.bd,0,none⟩),.func (.func gf) #[] lb] w fun r w'=>r=.tuple #[]∧∃D',D'.bd=D.bd∧Stp (D4 121 5 D (bs)) (D4 121 5 D' (bs++Cu H6)) w w':=by
 have hW:=Up.refl w
 obtain⟨w0,rfl,_⟩:=W0 w
 have hU0:Stp (D4 121 5 D (bs)) (D4 121 5 D (bs)) w0 w0:=Stp.refl hD
 refine E3 (n:=11) func47 rfl rfl rfl (Ae (Ap (.O0 (.t rfl) rfl) rfl ?_))
 rintro _ w1 ⟨B2,rfl,NB2⟩
 have eB2:=NB2.at_
 have zB2:=NB2.size
 replace hW:=hW.up NB2.up
 replace hU0:=hU0.up NB2.up
 have hB2:=NB2.blk
 refine An (Aa (I rfl (Ah (Ai ?_))))
 obtain⟨bq,hbq⟩:∃bq,bq=w1.heap.size:=⟨_,rfl⟩
 refine CW.rangeFunc (fun i=>(D4 121 5 D (bs)).foot i∨bq≤i) (fun _=>False) (fun pre W=>Sz bq W∧∃D1:Wri,D1.bd=D.bd∧Blk W B2 #[.pointer (some ⟨D.bd,0,none⟩)] 115∧Stp (D4 121 5 D (bs)) (D4 121 5 D1 (bs++Cu pre)) w1 W) (fun c pre W=>Sz bq W∧False) (fun x a' W=>Ag 11 [] ([(4,.eq (vi x)),(2,.eq (.pointer (some ⟨B2,0,none⟩)))]) a' W) (.t rfl) en (hit _ _ hW (fun i hi=>hi.imp id (fun h=>by omega))) (fun _=>rfl) rfl ?_ ?_ ?_ ?_ ?_ ?_ ?_ ?_
 ·rw[←hbq]
  intro pre W W' row hs hg hr
  obtain⟨hZ,D1,hbd,hB2,hUp⟩:=hs
  exact⟨hZ.ko (Ko.grown hg hr),D1,hbd,hB2.ko (Ko.grown hg hr),hUp.ko (Ko.grown hg hr) oQ⟩
 ·rw[←hbq]
  intro c pre W W' row hs hg hr
  obtain⟨hZ,hF⟩:=hs
  exact⟨hZ.ko (Ko.grown hg hr),hF⟩
 ·intro x a' u W W' row hs hg hr
  exact hs.world rfl _
 ·exact⟨fh hbq,_,rfl,hB2,by simpa[Cu]using Stp.refl hU0.holds⟩
 ·rw[←hbq]
  intro lp pre x w2 K hs hk a ha
  obtain⟨hZ,D1,hbd,hB2,hUp⟩:=hs
  have zq:=hZ.le
  have hK:=Kf.refl bq w2
  have hN:=Kx.refl bq (fun i=>(D4 121 5 D (bs)).foot i∨bq≤i) (fun _=>False) w2
  revert a
  refine Ho (p:=6) rfl (Aa (LW.A rfl (LW.nil ?_)))
  exact fun a ha=>hk a _ hK hN ⟨hZ,D1,hbd,hB2,hUp⟩ (ha.sub tQ)
 ·rw[←hbq]
  intro lp pre x a' w3 hs hx hlt
  obtain⟨hZ,D1,hbd,hB2,hUp⟩:=hs
  have ha:=hx
  have zq:=hZ.le
  have hK:=Kf.refl bq w3
  have hN:=Kx.refl bq (fun i=>(D4 121 5 D (bs)).foot i∨bq≤i) (fun _=>False) w3
  refine(show CW (some lp) 8 _ 11 [] _ (ownPostG bq (Kx bq (fun i=>(D4 121 5 D (bs)).foot i∨bq≤i) (fun _=>False)) _ _ (pre++[x]) w3) ([(4,.eq (vi x)),(2,.eq (.pointer (some ⟨B2,0,none⟩)))]) w3 from ?_) a' ha
  refine Ai (Aa (U (.lb rfl (hB2.Ad rfl)) (I rfl (Ap (.buildSlice (xs:=[x]) (enc:=A4) (mk:=vi) ky k6 lf rfl cQ (fun _=>rfl) (fun _=>rfl) (.cu rfl) rfl) rfl ?_))))
  rintro _ w4 ⟨B9,cB9,rfl,NB9,yB9,xB9⟩
  replace hZ:=hZ.up NB9.up
  replace hB2:=hB2.up NB9.up
  replace hUp:=hUp.up NB9.up
  replace hK:=hK.up NB9.up
  replace hN:=hN.up NB9.up
  have hB9:=NB9.blk
  have hE9:=xB9
  refine A3 (eC (.u rfl rfl) (xM)) rfl (oW D.bd _ _ [x] D1 _ _ hUp.holds hbd hE9 (fun B o e=>by cases e;exact Jc hUp.holds hB9 rfl rfl) (by rw[am];have:=Ht pre;simp;omega)) ?_
  rintro _ w5 ⟨rfl,D2,hb2,hP2⟩
  have hWc:=bV hUp.holds
  have hXs:∀i,(D4 121 5 D1 (bs++Cu pre)).foot i→((D4 121 5 D (bs)).foot i∨bq≤i):=fun i hi=>(hUp.sub i hi).imp id (fun h=>by omega)
  replace hN:=hN.trans (Kx.fr (bq:=bq) (Y:=fun _=>False) hP2.fr hXs hWc)
  replace hK:=hK.trans (Kf.fr (bq:=bq) hP2.fr hWc)
  replace hB2:=hB2.fr hP2.fr (Jc hUp.holds hB2 rfl rfl)
  replace hUp:=hUp.trans hP2
  rw[c_,jB,←bS]at hUp
  have hZ2:Sz bq w5:=b6 hZ.le hP2.fr.size
  refine LW.nil (Al ?_)
  exact fun a ha=>⟨hK,hN,hZ2,D2,hb2,hB2,hUp⟩
 ·intro D ys w6 hDb hS hs hD
  rw[←hbq]at hDb
  obtain⟨hZ,D1,hbd,hB2,hUp⟩:=hs
  replace hD:Ob w6 D (.deferred (some [])):=hD
  refine Al (L0 hD rfl ?_)
  replace hZ:=hZ.ko (Ko.putObj (.deferred none) hD rfl hDb)
  replace hB2:=hB2.ko (Ko.putObj (.deferred none) hD rfl hDb)
  replace hUp:=hUp.ko (Ko.putObj (.deferred none) hD rfl hDb) oQ
  refine F8 rfl ⟨_,rfl,?_⟩
  subst hS
  exact⟨rfl,D1,hbd,hU0.trans hUp⟩
 intro D c pre w7 hDb hpre hs hD
 rw[←hbq]at hDb
 obtain⟨hZ,hF⟩:=hs
 replace hD:Ob w7 D (.deferred (some [])):=hD
 exact hF.elim
theorem Vb(b:Nat)(Ba Bb:Nat)(ad:Option Addr)(cp:Nat)(l:List Fld)(f:Fact)(D:Wri)(bs:List UInt8)(w:World)(hD:(D4 121 5 D (bs)).holds w)(hb:D.bd=b)(hQ:Blk w Ba #[.slice ad l.length cp] 127)(hF:Blk w Bb f.cells 47)(hE:Els w ad 3 Fld.cells l)(hT:∀B o,ad=some ⟨B,o,none⟩→B<w.heap.size∧¬(D4 121 5 D (bs)).foot B)(hlen:bs.length+10*l.length≤10000)(hok:∀x∈l,Fh x.off=true):
   Ret prog 47 #[.pointer (some ⟨b,0,none⟩),.func (.func 123) #[] #[.pointer (some ⟨Ba,0,none⟩),.pointer (some ⟨Bb,0,none⟩)]] w fun r w'=>r=.tuple #[]∧∃D',D'.bd=b∧Stp (D4 121 5 D (bs)) (D4 121 5 D' (bs++Cu (Eh l f))) w w':=by
 subst hb
 refine dB 123 _ (Eh l f) (fun pre=>pre<+:Eh l f) D bs w hD BR ?_ (by rw[M8];omega)
 intro W X hU hX
 refine Wp X (fun _=>False) Ba Bb ad cp l f W (fun B o e hx=>?_) (fun hx=>?_) (fun hx=>?_) (hQ.up hU) (hF.up hU) (Els.up hE hU) oQ hok
 · obtain⟨h1,h2⟩:=hT B o e
   exact(hX B hx).elim h2 (fun h=>by omega)
 · have:=hQ.lt
   exact(hX Ba hx).elim (Jc hD hQ rfl rfl) (fun h=>by omega)
 have:=hF.lt
 exact(hX Bb hx).elim (Jc hD hF rfl rfl) (fun h=>by omega)
theorem Wq(f:Fact)(w:World):Ret prog 19 #[.agg f.cells] w fun r w'=>r=.string ⟨(Cj f).toArray⟩∧Up w w':=by
 obtain⟨w0,rfl,hS⟩:=W0 w
 refine cT 27 func19 rfl (Ae (Ap (.bA rfl) rfl ?_))
 rintro _ w1 ⟨B1,rfl,NB1⟩
 replace hS:=hS.Cf NB1
 refine Az (An (Ak ?_))
 cases hq1:Ca f with
 |true=>
  have hkn:=Eu hq1
  refine Aa (U (.lc rfl (hS.b0.agg)) (A3 (eC (.o rfl) (rW)) rfl (L8 f _) ?_))
  rintro _ w2 ⟨rfl,uw2⟩
  replace hS:=hS.up uw2
  refine U (.fa (PEv.n1 rfl) (by rw[hq1];rfl)) (Ah (CW.f rfl (Aj (Ab (Ae (U (.build (cs:=#[.pointer none,.slice none 0 0]) underlying121 zeroValue121 K8 .nil rfl) (Ap (.bA rfl) rfl ?_)))))))
  rintro _ w3 ⟨B8,rfl,NB8⟩
  replace hS:=hS.Cf NB8
  refine LW.A rfl (An ?_)
  replace hS:=fN (Bs:=[_]) (e:=5) hS
  have hA0:=hS.get 1 rfl
  refine Aa (I rfl (U (.fB 0 rfl) (U (.lb rfl (hS.b0.Ad rfl)) (Ap (.buildSlice (xs:=[f.Kind]) (enc:=A4) (mk:=vi) ky k6 lf rfl cQ (fun _=>rfl) (fun _=>rfl) (.cu rfl) rfl) rfl ?_))))
  rintro _ w4 ⟨B12,cB12,rfl,NB12,yB12,xB12⟩
  have eB12:=NB12.at_
  replace hS:=hS.up NB12.up
  have hE12:=xB12
  refine A3 (eC (.u rfl rfl) (xM)) rfl (oW B8 _ _ [f.Kind] ⟨B8,false,.slice none 0 0⟩ _ _ (hS.get 1 rfl) rfl hE12 (fun B o e=>by cases e;intro hf;have:=Asr.lt _ _ hA0 _ hf;omega) (by simp)) ?_
  rintro _ w5 ⟨rfl,D1,hb1,uw5⟩
  replace hS:=hS.Ft 1 rfl uw5
  refine An (L3 8 [.eq (.pointer (some ⟨B8,0,none⟩)),.eq (.agg f.cells),.pred ShM,.eq (.pointer (some ⟨B1,0,none⟩)),.eq (vi f.Kind),.pred (shOf f),.pred (fun v w=>SlT 187 w v 3 Fld.cells (Eg f.Kind)),.pred (fun v w=>∃Ba Bb ad cp,v=.func (.func 123) #[] #[.pointer (some ⟨Ba,0,none⟩),.pointer (some ⟨Bb,0,none⟩)]∧Blk w Ba #[.slice ad (Eg f.Kind).length cp] 127∧Blk w Bb f.cells 47∧SlT 187 w (.slice ad (Eg f.Kind).length cp) 3 Fld.cells (Eg f.Kind))] [14,21] kQ rfl kQ kQ kQ kQ kQ kQ kQ ⟨n9,n9,PhU.pred fun _ _ _ h u=>ShM.Dc h u.Dc,n9,n9,PhU.pred fun _ _ _ h u=>ShV.Dc h u.Dc,PhU.pred fun _ _ _ h u=>SlT.G0 h u.G0,PhU.pred fun _ _ _ h u=>let⟨Ba,Bb,ad,cp,e,h1,h2,h3⟩:=h;⟨Ba,Bb,ad,cp,e,h1.up u,h2.up u,SlT.G0 h3 u.G0⟩,trivial⟩ ?_ ?_)
  ·intro W hU0
   have hU:=(Up.drew w5).trans hU0
   refine aC ⟨rfl,TU.p (.mv rfl) rfl⟩ (aC ⟨rfl,TU.p (.lc rfl ((hS.b0.up hU).agg)) rfl⟩ (aC ⟨rfl,TU.c (eC .nil (rX)) (Kr _) (fun v W1 h=>let⟨b,e,m,u⟩:=h;⟨u,b,e,m⟩)⟩ (aC ⟨rfl,TU.p (.fB 0 rfl) rfl⟩ (aC ⟨rfl,TU.p (.lb rfl ((hS.b0.up hU).Ad rfl)) rfl⟩ (aC ⟨rfl,TU.open (d:=16) rfl (by rintro _ ⟨b,rfl,kv,hI,hV,hK⟩;obtain⟨⟨k0,sv⟩,hkv,e0⟩:=br.1 ((hK f.Kind).2 hkn);cases e0;exact TU.p (.Hr (ok:=false) nr k9 (.t rfl) (.t rfl) hI hkv) (hV _ _ hkv))⟩ (aC ⟨rfl,TU.open (d:=19) rfl (by rintro _ ⟨v1,v2,rfl,h1,h2⟩;exact TU.p (.bN (off:=1) l7 rfl rfl isAgg127 (.t rfl) rfl) h2)⟩ (aC ⟨rfl,TU.open (d:=20) rfl (by rintro _ ⟨⟨ad,cp,rfl,hE⟩,hT⟩;exact TU.c (eC (.u rfl rfl) (AX)) (P7 f ad _ cp _) (fun v W1 h=>let⟨⟨Ba,Bb,e,h1,h2⟩,u⟩:=h;⟨u,Ba,Bb,ad,cp,e,h1,h2,SlT.G0 ⟨⟨ad,cp,rfl,hE⟩,hT⟩ u.G0⟩))⟩ ?_)))))))
   exact allL.nil
  intro w6 g hU0 hg
  have hU:=(Up.drew w5).trans hU0
  replace hS:=hS.up hU
  have e14:g 14=.pointer (some ⟨B8,0,none⟩):=hg 0 _ 14 cQ rfl rfl
  obtain⟨Ba,Bb,ad,cp2,e21,hBa,hBb,⟨ad1,cp1,e1,hE⟩,hT⟩:=hg 7 _ 21 cQ rfl rfl
  cases e1
  change LW _ _ _ _ _ _ _ _ ((14,.eq (g 14))::(21,.eq (g 21))::_) _
  rw[e14,e21]
  refine A3 (eC (.u rfl rfl) (AW)) rfl (Vb B8 Ba Bb ad cp2 _ f D1 _ _ (hS.get 1 rfl) hb1 hBa hBb hE (fun B o e=>by obtain⟨cs,x,hc⟩:=hT B o _ _ (by rw[e]);exact⟨lt_of_block hc,Jc (hS.get 1 rfl) hc rfl rfl⟩) (sY f) (sX f.Kind)) ?_
  rintro _ w7 ⟨rfl,D2,hb2,uw7⟩
  replace hS:=hS.Ft 1 rfl uw7
  rw[d_,←U8]at hS
  have hKL:[f.Kind]++Eh (Eg f.Kind) f=N8 f:=rfl
  rw[hKL]at hS
  refine An (Aa (I rfl (U (.nc rfl) (U (.fB 0 rfl) (A3 (eC (.o rfl) (xN)) rfl (R8 B8 D2 _ _ (hS.get 1 rfl) hb2 (gE hq1) (sZ f)) ?_)))))
  rintro _ w8 ⟨rfl,hF⟩
  refine LW.A rfl (Ah (Am (KW.q ?_)))
  rw[Cj,bg hq1]
  exact⟨rfl,(hS.fr.next hF (hS.foot 1 rfl)).sB (fun _ h=>h)⟩
 |false=>
  refine Aa (U (.lc rfl (hS.b0.agg)) (A3 (eC (.o rfl) (rW)) rfl (L8 f _) ?_))
  rintro _ w9 ⟨rfl,uw9⟩
  replace hS:=hS.up uw9
  refine U (.tr (PEv.n1 rfl) (by rw[hq1];rfl)) (Ah (CW.v rfl (Ae (Az (Ah (Am (Au (KW.q ?_))))))))
  rw[Cj,aq (by rw[hq1];exact cg)]
  exact⟨rfl,hS.Ch⟩
theorem R9(f:Fact)(w:World):Ret prog 51 #[.agg f.cells] w fun r w'=>r=.tuple #[.string ⟨(R4 f).toArray⟩,vi (P6 f)]∧Up w w':=by
 obtain⟨w0,rfl,hS⟩:=W0 w
 refine cT 52 func51 rfl (Ae (Ap (.bA rfl) rfl ?_))
 rintro _ w1 ⟨B1,rfl,NB1⟩
 have eB1:=NB1.at_
 have zB1:=NB1.size
 replace hS:=hS.Cf NB1
 refine Az (Az (An (Ak ?_)))
 cases hq1:Ca f with
 |true=>
  have hkn:=Eu hq1
  refine Aa (U (.lc rfl (hS.b0.agg)) (A3 (eC (.o rfl) (rW)) rfl (L8 f _) ?_))
  rintro _ w2 ⟨rfl,uw2⟩
  have zw2:=uw2.size
  replace hS:=hS.up uw2
  refine U (.fa (PEv.n1 rfl) (by rw[hq1];rfl)) (Ah (CW.f rfl (Aj (Ab (Ak ?_)))))
  have hB1T:=hS.blk 0 rfl
  have hU0:=hS.Ch
  refine CW.box 6 4 5 3 4 14 #[.slice none 0 0,.slice none 0 0,.nilFunc,.bool false] [.pred ShM,.eq (.pointer (some ⟨B1,0,none⟩)),.eq (vi f.Kind),.pred (shOf f),.pred fun v _=>∃B,v=.pointer (some ⟨B,0,none⟩),.eq undef] [] l4 sizeOf129 kQ rfl kQ kQ kQ kQ kQ kQ kQ rfl rfl ⟨_,_,_,rfl⟩ _ rfl ⟨_,_,_,rfl⟩ ⟨PhT.pred fun _ _ _ h u=>ShM.Dc h u,n_,n_,PhT.pred fun _ _ _ h u=>ShV.Dc h u,PhT.pred fun _ _ _ h _=>h,n_,trivial⟩ rfl (fun v W h=>shOf.agg h) (fun B W=>⟨B,rfl⟩) ?_ ?_
  ·intro W hK0
   have hK:=(Up.drew w2).Dc.trans hK0
   have hB1W:=Blk.Dc hB1T (T:=129) rfl hK
   refine aC (.inr ⟨rfl,TU.c (eC .nil (rX)) (Kr _) (fun v W1 h=>let⟨b,e,m,u⟩:=h;⟨u,b,e,m⟩)⟩) (aC (.inr ⟨rfl,TU.p (.fB 0 rfl) rfl⟩) (aC (.inr ⟨rfl,TU.p (.lb rfl (hB1W.Ad rfl)) rfl⟩) (aC (.inr ⟨rfl,TU.open (d:=11) rfl (by rintro _ ⟨b,rfl,kv,hI,hV,hK⟩;obtain⟨⟨k0,sv⟩,hkv,e0⟩:=br.1 ((hK f.Kind).2 hkn);cases e0;exact TU.p (.Hr (ok:=false) nr k9 (.t rfl) (.t rfl) hI hkv) (hV _ _ hkv))⟩) (aC (.inl (.inl rfl)) (aC (.inl (.inr rfl)) ?_)))))
   exact allL.nil
  intro wT B4 g hU hBn hB4 hg
  have hUT:=(Up.drew _).trans hU
  obtain⟨v1,v2,e14,hs1,hs2⟩:=hg 3 _ 14 cQ rfl rfl
  rw[e14]at hB4
  obtain⟨⟨ad,cp,rfl,hE1⟩,hT0⟩:=hs1
  obtain⟨⟨ad2,cp2,rfl,hE2⟩,_⟩:=hs2
  replace hB4:Blk wT B4 #[.slice ad (fieldsOf f.Kind).length cp,.slice ad2 (Eg f.Kind).length cp2,.func (.func (E9 (Hd f.Kind))) #[] #[],.bool (G1 f.Kind)] 129:=hB4
  have hB1X:=hB1T.up hUT
  replace hU0:=hU0.trans hUT
  have hB14:B1≠B4:=fun e=>by have:=hB1T.lt;have:=(Up.drew w2).size;omega
  have zB4:w0.heap.size≤B4:=by have:=hS.size;have:=(Up.drew w2).size;omega
  have hE0:ElT wT ad 187 3 Fld.cells (fieldsOf f.Kind):=⟨hE1,fun B o e=>hT0 B o _ _ (by rw[e])⟩
  replace hS:Wx.Sep no w0 wT [A5 B1 f.cells 47,A5 B4 #[.slice ad (fieldsOf f.Kind).length cp,.slice ad2 (Eg f.Kind).length cp2,.func (.func (E9 (Hd f.Kind))) #[] #[],.bool (G1 f.Kind)] 129]:=⟨hU0.fr _,fun A hA=>by simp only[bm,da,dw]at hA;rcases hA with rfl|rfl;exact⟨hB1X,hS.foot 0 rfl⟩;exact⟨hB4,fun i(e:i=B4)=>.inr oQ⟩,List.Pairwise.cons (fun A hA i(e1:i=B1)=>by simp only[bn]at hA;subst hA;exact fun(e2:i=B4)=>hB14 (e1.symm.trans e2)) (f4 _ _)⟩
  refine An (Aa (U (.build (cs:=#[.pointer none,.slice none 0 0]) underlying121 zeroValue121 K8 .nil rfl) (Ap (.bA rfl) rfl ?_)))
  rintro _ w3 ⟨B16,rfl,NB16⟩
  replace hE0:=hE0.up NB16.up
  replace hS:=hS.Cf NB16
  refine LW.A rfl (An ?_)
  replace hS:=fN (Bs:=[_,_]) (e:=5) hS
  refine L3 11 [.eq (.pointer (some ⟨B16,0,none⟩)),.eq (.pointer (some ⟨B1,0,none⟩)),.eq (vi f.Kind),.eq (.pointer (some ⟨B1,2,none⟩)),.eq (vi f.Version),.eq (.pointer (some ⟨B1,3,none⟩)),.eq (vi f.Day),.eq (.pointer (some ⟨B1,4,none⟩)),.eq (.bool f.Gone),.eq (vi (J2 f.Gone)),.pred (fun v w=>SlT 3 w v 1 A4 [f.Kind,f.Version,f.Day,J2 f.Gone])] [17,27] kQ rfl kQ kQ kQ kQ kQ kQ kQ ⟨n9,n9,n9,n9,n9,n9,n9,n9,n9,n9,PhU.pred fun _ _ _ h u=>SlT.G0 h u.G0,trivial⟩ ?_ ?_
  ·intro W hU0
   have hU:=(Up.drew w3).trans hU0
   refine aC ⟨rfl,TU.p (.mv rfl) rfl⟩ (aC ⟨rfl,TU.p (.fB 0 rfl) rfl⟩ (aC ⟨rfl,TU.p (.lb rfl ((hS.b0.up hU).Ad rfl)) rfl⟩ (aC ⟨rfl,TU.p (.fB 2 rfl) rfl⟩ (aC ⟨rfl,TU.p (.lb rfl ((hS.b0.up hU).Ad rfl)) rfl⟩ (aC ⟨rfl,TU.p (.fB 3 rfl) rfl⟩ (aC ⟨rfl,TU.p (.lb rfl ((hS.b0.up hU).Ad rfl)) rfl⟩ (aC ⟨rfl,TU.p (.fB 4 rfl) rfl⟩ (aC ⟨rfl,TU.p (.lb rfl ((hS.b0.up hU).Ad rfl)) rfl⟩ (aC ⟨rfl,TU.c (eC (.o rfl) (CI)) (oX f.Gone _) sQ⟩ (aC ⟨rfl,TU.r (REv.buildSlice (xs:=[f.Kind,f.Version,f.Day,J2 f.Gone]) (enc:=A4) (mk:=vi) ky k6 lf rfl cQ (fun _=>rfl) (fun _=>rfl) (.ct rfl (.ct rfl (.ct rfl (.cu rfl)))) rfl) (by rintro _ W1 ⟨B,c,rfl,N,y,x⟩;exact⟨N.up,SlT.lit ⟨B,c,rfl,N,y,x⟩⟩)⟩ ?_))))))))))
   exact allL.nil
  intro w4 g hU0 hg
  have hU:=(Up.drew w3).trans hU0
  replace hS:=hS.up hU
  replace hE0:=hE0.up hU
  have e17:g 17=.pointer (some ⟨B16,0,none⟩):=hg 0 _ 17 cQ rfl rfl
  obtain⟨⟨ad3,cp3,e27,hE27⟩,hT27⟩:=hg 10 _ 27 cQ rfl rfl
  change LW _ _ _ _ _ _ _ _ ((17,.eq (g 17))::(27,.eq (g 27))::_) _
  rw[e17,e27]
  have hA0:=hS.get 2 rfl
  refine A3 (eC (.u rfl rfl) (xM)) rfl (oW B16 ad3 cp3 [f.Kind,f.Version,f.Day,J2 f.Gone] ⟨B16,false,.slice none 0 0⟩ _ _ (hS.get 2 rfl) rfl hE27 (fun B o e=>by obtain⟨cs,x,hc⟩:=hT27 B o _ _ (by rw[e27,e]);exact Jc hA0 hc rfl rfl) (by simp)) ?_
  rintro _ w5 ⟨rfl,D1,hb1,uw5⟩
  replace hS:=hS.Ft 2 rfl uw5
  replace hE0:=hE0.fr uw5.fr (fun B cs x hc=>Jc hA0 hc rfl rfl)
  refine An (Aa (I rfl (U (.lc rfl (hS.b0.agg)) (U (.fB 0 rfl) (U (.lb rfl (hS.b1.Ad rfl)) (A3 (eC (.u rfl rfl) (AX)) rfl (P7 f ad _ cp _) ?_))))))
  rintro _ w6 ⟨⟨Ba,Bb,rfl,hBa,hBb⟩,uw6⟩
  replace hS:=hS.up uw6
  replace hE0:=hE0.up uw6
  refine A3 (eC (.u rfl rfl) (AW)) rfl (Vb B16 Ba Bb ad cp _ f D1 _ _ (hS.get 2 rfl) hb1 hBa hBb hE0.els (fun B o e=>by obtain⟨cs,x,hc⟩:=hE0.ty B o e;exact⟨lt_of_block hc,Jc (hS.get 2 rfl) hc rfl rfl⟩) (tA f) (U7 f.Kind)) ?_
  rintro _ w7 ⟨rfl,D2,hb2,uw7⟩
  replace hS:=hS.Ft 2 rfl uw7
  rw[d_,←U8]at hS
  have hKL:[f.Kind,f.Version,f.Day,J2 f.Gone]++Eh (fieldsOf f.Kind) f=Pb f:=rfl
  rw[hKL]at hS
  refine An (Ae (U (.fB 3 rfl) (U (.lb rfl (hS.b1.Ad rfl)) (Ah (CW.b rfl (fun h36=>?_) (fun h36=>?_))))))
  ·replace h36:=dQ h36
   refine Ae (U (.fB 18 rfl) (U (.lb rfl (hS.b0.Ad rfl)) (A3 (eC (.o rfl) (CJ)) rfl (Ua f.Text _ (by have:=Na hq1;omega)) ?_)))
   rintro _ w8 ⟨rfl,uw8⟩
   replace hS:=hS.up uw8
   refine I rfl (U (.xt rfl rfl) (U (.xt rfl rfl) (LW.A rfl (LW.A rfl (Ah (Aa (I rfl (U (.nc rfl) (U (.fB 0 rfl) (I rfl (A3 (eC (.u rfl rfl) (vT)) rfl (Mt B16 _ D2 _ _ (hS.get 2 rfl) hb2 (by rw[R3];have:=Ys f.Text.data.toList;rw[Wk]at this;have:=Na hq1;have:=oK f;omega)) ?_)))))))))))
   rintro _ w9 ⟨rfl,bf,uw9⟩
   replace hS:=hS.Ft 2 rfl uw9
   refine An ?_
   obtain⟨D3,hb3,hS3⟩:∃D3:Wri,D3.bd=B16∧Wx.Sep no w0 w9 [A5 B1 f.cells 47,A5 B4 #[.slice ad (fieldsOf f.Kind).length cp,.slice ad2 (Eg f.Kind).length cp2,.func (.func (E9 (Hd f.Kind))) #[] #[],.bool (G1 f.Kind)] 129,D4 121 5 D3 (Ii f)]:=by exact⟨⟨B16,true,bf⟩,rfl,by rw[←jX (bj h36)];exact hS⟩
   replace hS:=hS3
   refine Aa (I rfl (U (.nc rfl) (U (.fB 0 rfl) (A3 (eC (.o rfl) (xN)) rfl (R8 B16 D3 _ _ (hS.get 2 rfl) hb3 (gF hq1) (by have:=gH hq1;omega)) ?_))))
   rintro _ w10 ⟨rfl,hF⟩
   refine LW.A rfl (Az (Ah (Am (F9 rfl rfl rfl ⟨_,rfl,?_⟩))))
   rw[R4,P6,bg hq1,bg hq1]
   exact⟨rfl,(hS.fr.next hF (hS.foot 2 rfl)).sB (fun _ h=>h)⟩
  replace h36:=dQ h36
  refine Aj (Ab (Ak ?_))
  obtain⟨D3,hb3,hS3⟩:∃D3:Wri,D3.bd=B16∧Wx.Sep no w0 w7 [A5 B1 f.cells 47,A5 B4 #[.slice ad (fieldsOf f.Kind).length cp,.slice ad2 (Eg f.Kind).length cp2,.func (.func (E9 (Hd f.Kind))) #[] #[],.bool (G1 f.Kind)] 129,D4 121 5 D3 (Ii f)]:=by exact⟨D2,hb2,by rw[←tB (bx h36)];exact hS⟩
  replace hS:=hS3
  refine Aa (I rfl (U (.nc rfl) (U (.fB 0 rfl) (A3 (eC (.o rfl) (xN)) rfl (R8 B16 D3 _ _ (hS.get 2 rfl) hb3 (gF hq1) (by have:=gH hq1;omega)) ?_))))
  rintro _ w11 ⟨rfl,hF⟩
  refine LW.A rfl (Az (Ah (Am (F9 rfl rfl rfl ⟨_,rfl,?_⟩))))
  rw[R4,P6,bg hq1,bg hq1]
  exact⟨rfl,(hS.fr.next hF (hS.foot 2 rfl)).sB (fun _ h=>h)⟩
 |false=>
  refine Aa (U (.lc rfl (hS.b0.agg)) (A3 (eC (.o rfl) (rW)) rfl (L8 f _) ?_))
  rintro _ w12 ⟨rfl,uw12⟩
  replace hS:=hS.up uw12
  refine U (.tr (PEv.n1 rfl) (by rw[hq1];rfl)) (Ah (CW.v rfl (Ae (Az (Az (Ah (Am (Au (F9 rfl rfl rfl ⟨_,rfl,?_⟩)))))))))
  rw[R4,P6,aq (by rw[hq1];exact cg),aq (by rw[hq1];exact cg)]
  exact⟨rfl,hS.Ch⟩
theorem N9(a b:ByteArray)(w:World):Ret prog 146 #[.string a,.string b] w fun r w'=>r=vi (Go.Lib.compareBytes a.data.toList b.data.toList)∧Up w w':=by
 have hW:=Up.refl w
 refine cT 8 func146 rfl (Ae (Az (An (Aa (I rfl (I rfl (U (.ext (.ct rfl (.cu rfl)) (T0 func206 rfl rfl kQ kQ _ _)) (LW.A rfl (Ah (Am (KW.q ?_)))))))))))
 exact⟨rfl,hW⟩
theorem Y5(a b:ByteArray)(w:World):Ret prog 52 #[.string a,.string b] w fun r w'=>r=vi (Go.Lib.compareBytes a.data.toList b.data.toList)∧Up w w':=by
 have hW:=Up.refl w
 refine cT 8 func52 rfl (Ae (Az (An (Aa (I rfl (I rfl (A3 (eC (.u rfl rfl) (CK)) rfl (N9 a b _) ?_)))))))
 rintro _ w1 ⟨rfl,uw1⟩
 replace hW:=hW.up uw1
 refine LW.A rfl (Ah (Am (KW.q ?_)))
 exact⟨rfl,hW⟩
theorem Wr(a b:Fact)(w:World):Ret prog 20 #[.agg a.cells,.agg b.cells] w fun r w'=>r=.bool (Ex a b)∧Up w w':=by
 have hW:=Up.refl w
 refine cT 44 func20 rfl (Ae (Ap (.bA rfl) rfl ?_))
 rintro _ w1 ⟨B2,rfl,NB2⟩
 replace hW:=hW.up NB2.up
 have hB2:=NB2.blk
 refine Ap (.bA rfl) rfl ?_
 rintro _ w2 ⟨B3,rfl,NB3⟩
 replace hW:=hW.up NB3.up
 replace hB2:=hB2.up NB3.up
 have hB3:=NB3.blk
 refine Az (An (Aa (U (.lc rfl (hB2.agg)) (A3 (eC (.o rfl) (AY)) rfl (R9 a _) ?_))))
 rintro _ w3 ⟨rfl,uw3⟩
 replace hW:=hW.up uw3
 replace hB2:=hB2.up uw3
 replace hB3:=hB3.up uw3
 refine I rfl (U (.xt rfl rfl) (U (.xt rfl rfl) (LW.A rfl (LW.A rfl (An (Aa (U (.lc rfl (hB3.agg)) (A3 (eC (.o rfl) (AY)) rfl (R9 b _) ?_))))))))
 rintro _ w4 ⟨rfl,uw4⟩
 replace hW:=hW.up uw4
 replace hB2:=hB2.up uw4
 replace hB3:=hB3.up uw4
 refine I rfl (U (.xt rfl rfl) (U (.xt rfl rfl) (LW.A rfl (LW.A rfl (An (Ai (Ak (Ak ?_))))))))
 cases hq3:Ca a with
 |false=>
  refine Aa (I rfl (U (.tr (PEv.neq (.t rfl) (.const _)) (by rw[P6,aq (by rw[hq3];exact cg)];rfl)) (LW.A rfl (Ah (CW.v rfl (Aj (Ab (CW.v rfl (Ae (Az (Ah (Am (A6 (Au (KW.q ?_)))))))))))))))
  refine⟨bh Go.Value.bool ?_,hW⟩
  exact Yu (by rw[hq3];rfl)
 |true=>
  refine Aa (I rfl (U (.fa (PEv.neq (.t rfl) (.const _)) (by rw[P6,bg hq3];rfl)) (LW.A rfl (Ah (CW.f rfl (Ak ?_))))))
  cases hq4:Ca b with
  |false=>
   refine Aa (I rfl (U (.tr (PEv.neq (.t rfl) (.const _)) (by rw[P6,aq (by rw[hq4];exact cg)];rfl)) (LW.A rfl (Ah (CW.v rfl (Aj (Ab (CW.v rfl (Ae (Az (Ah (Am (A6 (Au (KW.q ?_)))))))))))))))
   refine⟨bh Go.Value.bool ?_,hW⟩
   exact Yu (by rw[hq3,hq4];rfl)
  |true=>
   refine Aa (I rfl (U (.fa (PEv.neq (.t rfl) (.const _)) (by rw[P6,bg hq4];rfl)) (LW.A rfl (Ah (CW.f rfl (C0 kQ kQ rfl rfl (J (.lc rfl (hB2.agg)) (HW.c (fun a w _ ha=>Bh (.cu rfl) (xG) a ha) rfl rfl (fun w hu=>Wq a w) (J (.lc rfl (hB3.agg)) (HW.c (fun a w _ ha=>Bh (.cu rfl) (xG) a ha) rfl rfl (fun w hu=>Wq b w) (J (.bO (.t rfl) (.t rfl)) (J (.assign (.t rfl)) (HW.nil ?_)))))))))))))
   intro w5 uw5
   replace hW:=hW.up uw5
   replace hB2:=hB2.up uw5
   replace hB3:=hB3.up uw5
   refine Ab (CW.b rfl (fun h19=>?_) (fun h19=>?_))
   ·refine Ae (Az (Ah (Am (A6 (Au (KW.q ?_))))))
    refine⟨bh Go.Value.bool ?_,hW⟩
    exact oL h19
   refine Ae (U (.fB 2 rfl) (U (.lb rfl (hB2.Ad rfl)) (U (.fB 2 rfl) (U (.lb rfl (hB3.Ad rfl)) (U (.neq (.t rfl) (.t rfl)) (LW.A rfl (Ah (CW.b rfl (fun h29=>?_) (fun h29=>?_)))))))))
   ·refine Ae (U (.fB 2 rfl) (U (.lb rfl (hB2.Ad rfl)) (U (.fB 2 rfl) (U (.lb rfl (hB3.Ad rfl)) (U (.gtr (.t rfl) (.t rfl)) (LW.A rfl (Ah (Am (A6 (Au (KW.q ?_)))))))))))
    refine⟨bh Go.Value.bool ?_,hW⟩
    exact oM hq3 hq4 h19 h29
   refine Aj (Al (Ab (Ae (I rfl (I rfl (A3 (eC (.u rfl rfl) (HE)) rfl (Y5 _ _ _) ?_))))))
   rintro _ w6 ⟨rfl,uw6⟩
   replace hW:=hW.up uw6
   replace hB2:=hB2.up uw6
   replace hB3:=hB3.up uw6
   refine U (.gtr (.t rfl) (.const _)) (LW.A rfl (Ah (Am (KW.q ?_))))
   refine⟨bh Go.Value.bool ?_,hW⟩
   exact oN hq3 hq4 h19 h29
end Go.Proofs.YthcabjphnacjeaaGreatDoor
namespace Go.Wx
open Go.RowKit
theorem Wt{d d':Nat}{p q:Op}{t t':TypeId}{s s':String}{a a':Array Edge}{g g':Option (Nat×Bool)}(h:some (⟨some d,p,t,s,a,g⟩:Oper)=some ⟨some d',q,t',s',a',g'⟩):d=d':=by
 injection h with h
 injection h with h
 injection h
theorem FJ{d d':Option Nat}{x x':Operand}{y y':Nat}{T T' t t':TypeId}{s s':String}{a a':Array Edge}{g g':Option (Nat×Bool)}(h:some (⟨d,.store T x (.tmp y),t,s,a,g⟩:Oper)=some ⟨d',.store T' x' (.tmp y'),t',s',a',g'⟩):y=y':=by
 injection h with h
 injection h with _ h
 injection h with _ _ h
 injection h
structure Bv where
 ia:Nat
 is:Nat
 isv:Nat
 sa:Nat
 sv:Nat
def Ia(v:Value)(B:Nat):Prop:=v=.pointer (some ⟨B,0,none⟩)
section
variable {R:Option Nat}{m:Nat}{P:Program}{n:Nat}{ds:List Deferred}{Q:Exit→Go.Act→World→Prop}{l:Env}{w:World}{ops:Array Oper}
def FK(bs:List Bv)(T:TypeId)(z:Array Value)(w0:World)(L:Nat→Bool)(f:Nat→Value)(W:World):Prop:=
 Up w0 W∧(∀b∈bs,(L b.is=true→L b.ia=true)∧(L b.ia=true→∃B,Ia (f b.sa) B∧w0.heap.size≤B∧Blk W B (if L b.is=true then(f b.sv).cells else z) T))∧
   bs.Pairwise fun b c=>L b.ia=true→L c.ia=true→∀B,Ia (f b.sa) B→¬Ia (f c.sa) B
def dC(bs:List Bv):Bool:=bs.all fun b=>bs.all fun c=>(!Nat.beq b.ia c.is)&&((Nat.beq b.ia c.ia&&Nat.beq b.is c.is)||(!Nat.beq b.ia c.ia&& !Nat.beq b.is c.is&& !Nat.beq b.sa c.sa))
theorem J3{bs:List Bv}(h:dC bs=true){b c:Bv}(hb:b∈bs)(hc:c∈bs):b.ia≠c.is∧((b.ia=c.ia∧b.is=c.is)∨(b.ia≠c.ia∧b.is≠c.is∧b.sa≠c.sa)):=by
 have h1:=db.1 (db.1 h b hb) c hc
 simp only[bw,gc,jh]at h1
 refine⟨fun e=>?_,?_⟩
 · have:=h1.1;rw[e]at this;simp at this
 rcases h1.2 with⟨a,b⟩|⟨⟨a,b⟩,c⟩
 · exact .inl ⟨ce a,ce b⟩
 exact .inr ⟨fun e=>by rw[e]at a;simp at a,fun e=>by rw[e]at b;simp at b,fun e=>by rw[e]at c;simp at c⟩
theorem AWF.vars{k:Nat}{bs:List Bv}{T:TypeId}{z:Array Value}{base:Env}(ph:Nat→Ph){f0:Nat→Value}(hz:∀w,(zeroValue T).run P w=.ok (.agg z) w)(hs:∀w,(sizeOf T).run P w=.ok z.size w)
   (hph:∀i v w w',(ph i).holds v w→KeepT T w w'→(ph i).holds v w')(hA:Dt ops=true)(hC:(Nat.beq k ops.size||Ff ops k)=true)(hF:H8 ops k=true)(hks:Nat.ble k ops.size=true)
   (hD:Gm n ops 0 k=true)(hbp:Cn base=true)(hbd:∀i ph,lk base i=some ph→∀(j:Nat)(o:Oper),0≤j→j<k→ops[j]?=some o→o.dst≠some i)(hv:dC bs=true)(hnd:bs.Pairwise fun b c=>b.ia≠c.ia)
   (hlit:∀b∈bs,Ny ops b.ia [(b.is,0,b.sv)]=true)(hk:∀b∈bs,b.is<k∧b.ia<k)
   (hia:∀b∈bs,∃ty ps af,ops[b.ia]?=some ⟨some b.sa,.alloc T,ty,ps,af,none⟩)(his:∀b∈bs,∃ty ps af,ops[b.is]?=some ⟨none,.store T (.tmp b.sa) (.tmp b.sv),ty,ps,af,none⟩)
   (hlk:∀b∈bs,∀o,ops[b.is]?=some o→lk (Jb ops ph 0 o++base) b.sv=some (ph b.isv))(hsv:∀b∈bs,∀v W,(ph b.isv).holds v W→∃cs,v=.agg cs∧cs.size=z.size∧cs.all (·.oneCell')=true)
   (hpa:∀b∈bs,∀B W,(ph b.ia).holds (.pointer (some ⟨B,0,none⟩)) W)
   (hop:∀i o,i<k→(∀b∈bs,i≠b.ia∧i≠b.is)→ops[i]?=some o→o.guard=none∧∀W,KeepT T w W→∀a,Ag n ds (Jb ops ph 0 o++base) a W→bD P o a W (fun v W'=>Up W W'∧(ph i).holds v W'))
   (hend:∀f W,Up w W→(∀b∈bs,∃B,Ia (f b.sa) B∧w.heap.size≤B∧Blk W B (f b.sv).cells T)→(bs.Pairwise fun b c=>∀B,Ia (f b.sa) B→¬Ia (f c.sa) B)→AWF R m P n ds ops Q k (Ha ops ph 0 k++base) f W):AWF R m P n ds ops Q 0 base f0 w:=by
 have ptr1:∀{v:Value}{B B':Nat},Ia v B→Ia v B'→B=B':=fun h1 h2=>by unfold Ia at h1 h2;rw[h1]at h2;cases h2;rfl
 refine Hy ph (KeepT T) (FK bs T z w) (KeepT.refl T) (fun _ _ _=>KeepT.trans) hph hA hC hF hks (by simp) hD hbp hbd ?_ ⟨Up.refl w,fun b hb=>⟨fun h=>by simp at h,fun h=>by simp at h⟩,List.pairwise_iff_forall_sublist.2 fun _ h=>by simp at h⟩ ?_
 · intro i o _ hi hio L f W hRel hDn hLi hed hInv
   obtain⟨hUp,hB,hP⟩:=hInv
   -- slots of addresses are written by their allocs alone
   have saOf:∀c∈bs,c.ia≠i→o.dst≠some c.sa:=fun c hc hne ed=>by
     obtain⟨ty,ps,af,h⟩:=hia c hc
     exact(C5 hD (a_ _) hi hio ed).2 c.ia _ (a_ _) (hk c hc).2 hne h rfl
   have svOf:∀c∈bs,L c.is=true→o.dst≠some c.sv:=fun c hc hLs ed=>by
     obtain⟨os,hos,hods,⟨e,he,hbe,hon⟩,⟨e',he',hbe',pv,hpv,hpvd⟩⟩:=Hb (hlit c hc) bu
     have h2:=hDn _ _ hos hLs e' he' hbe'
     have h3:=D7 hA hos e' he' hbe'
     have h4:=(hk c hc).1
     by_cases ee:e'.on=i
     · rw[ee,hLi]at h2;cases h2
     exact(C5 hD (a_ _) hi hio ed).2 e'.on pv (a_ _) (by have h3':e'.on<c.is:=h3;omega) ee hpv hpvd
   by_cases e0:∃b∈bs,i=b.ia
   · obtain⟨b,hb,rfl⟩:=e0
     obtain⟨ty,ps,af,hia0⟩:=hia b hb
     rw[hio]at hia0;cases hia0
     intro a ha hsl
     rw[bg (by simp[Region.wanted])]
     obtain⟨v,W',hr,B,rfl,N⟩:=REv.Cb (P:=P) (n:=n) (ds:=ds) (l:=Jb ops ph 0 _++base) (w:=W) (d:=some b.sa) (ty:=ty) (ps:=ps) (af:=af) (g:=none) hz a ha
     have hLs:L b.is=false:=by
       cases h:L b.is with
       |false=>rfl
       |true=>rw[(hB b hb).1 h]at hLi;cases hLi
     have ne:∀c∈bs,c.is≠b.ia:=fun c hc=>Ne.symm (J3 hv hb hc).1
     have old:∀c∈bs,c.ia≠b.ia→Cp L b.ia c.ia=L c.ia∧Dl f (some b.sa) (.pointer (some ⟨B,0,none⟩)) c.sa=f c.sa:=fun c hc hne=>by
       have h1:b.sa≠c.sa:=by
         rcases(J3 hv hb hc).2 with⟨h,_⟩|⟨_,_,h⟩
         · exact absurd h.symm hne
         exact h
       exact⟨by simp[Cp,hne],by simp[Dl,h1]⟩
     refine .inl (.inl ⟨_,W',hr,N.up.Dc,fun _ _=>hpa b hb B W',hUp.trans N.up,fun c hc=>?_,?_⟩)
     · have ns:Cp L b.ia c.is=L c.is:=by simp[Cp,ne c hc]
       by_cases hcb:c.ia=b.ia
       · have hsa:c.sa=b.sa:=by
           obtain⟨_,_,_,h⟩:=hia c hc
           rw[hcb,hio]at h;exact(Wt h).symm
         have his':c.is=b.is:=by
           rcases(J3 hv hc hb).2 with⟨_,h⟩|⟨h,_⟩
           · exact h
           exact absurd hcb h
         refine⟨fun _=>by rw[hcb];simp[Cp],fun _=>⟨B,by rw[hsa];simp[Ia,Dl],by rw[N.at_];exact hUp.size,?_⟩⟩
         rw[ns,his',hLs]
         exact N.blk
       obtain⟨o1,o2⟩:=old c hc hcb
       refine⟨fun h=>by rw[o1];rw[ns]at h;exact(hB c hc).1 h,fun h=>?_⟩
       rw[o1]at h
       obtain⟨B',h1,h2,h3⟩:=(hB c hc).2 h
       refine⟨B',by rw[o2];exact h1,h2,?_⟩
       rw[ns]
       cases hLc:L c.is with
       |false=>rw[hLc]at h3;exact h3.up N.up
       |true=>
         rw[hLc]at h3
         have h4:Dl f (some b.sa) (.pointer (some ⟨B,0,none⟩)) c.sv=f c.sv:=by
           have h5:=svOf c hc hLc
           have h6:b.sa≠c.sv:=fun e=>h5 (by rw[e])
           simp[Dl,h6]
         rw[h4]
         exact h3.up N.up
     refine List.Pairwise.imp_of_mem ?_ (hnd.and hP)
     rintro c c' hc hc' ⟨hne,hp⟩ h1 h2 X hx hx'
     by_cases ec:c.ia=b.ia
     · have ec':c'.ia≠b.ia:=fun e=>hne (ec.trans e.symm)
       obtain⟨q1,q2⟩:=old c' hc' ec'
       rw[q1]at h2;rw[q2]at hx'
       obtain⟨B',h3,_,h5⟩:=(hB c' hc').2 h2
       have hsa:c.sa=b.sa:=by
         obtain⟨_,_,_,h⟩:=hia c hc
         rw[ec,hio]at h;exact(Wt h).symm
       have hxB:X=B:=ptr1 hx (by rw[hsa];simp[Ia,Dl])
       have:=ptr1 hx' h3
       have h6:=h5.lt
       rw[N.at_]at hxB
       omega
     obtain⟨q1,q2⟩:=old c hc ec
     rw[q1]at h1;rw[q2]at hx
     by_cases ec':c'.ia=b.ia
     · obtain⟨B',h3,_,h5⟩:=(hB c hc).2 h1
       have hsa:c'.sa=b.sa:=by
         obtain⟨_,_,_,h⟩:=hia c' hc'
         rw[ec',hio]at h;exact(Wt h).symm
       have hxB:X=B:=ptr1 hx' (by rw[hsa];simp[Ia,Dl])
       have:=ptr1 hx h3
       have h6:=h5.lt
       rw[N.at_]at hxB
       omega
     obtain⟨q1',q2'⟩:=old c' hc' ec'
     rw[q1']at h2;rw[q2']at hx'
     exact hp h1 h2 X hx hx'
   have e0':∀b∈bs,b.ia≠i:=fun b hb e=>e0 ⟨b,hb,e.symm⟩
   by_cases e1:∃b∈bs,i=b.is
   · obtain⟨b,hb,rfl⟩:=e1
     obtain⟨os,hos,hods,⟨e,he,hbe,hon⟩,_⟩:=Hb (hlit b hb) bu
     have hLa:L b.ia=true:=by rw[hos]at hio;cases hio;rw[←hon];exact hed e he hbe
     obtain⟨ty,ps,af,his0⟩:=his b hb
     rw[hio]at his0;cases his0
     intro a ha hsl
     rw[bg (by simp[Region.wanted])]
     obtain⟨B,h1,hBs,hblk⟩:=(hB b hb).2 hLa
     rw[hLi]at hblk
     obtain⟨cs,hcs,hcz,hc1⟩:=hsv b hb _ W (ha.val b.sv _ (hlk b hb _ hio))
     have hfs:f b.sv=.agg cs:=by rw[←hsl];exact hcs
     have hsn:b.sa≠b.sv:=fun e'=>by unfold Ia at h1;rw[e',hfs]at h1;cases h1
     have hag:Ag n ds [(b.sv,.eq (.agg cs)),(b.sa,.eq (.pointer (some ⟨B,0,none⟩)))] a W:=by
       refine⟨ha.defers,ha.size,fun t q ht=>?_⟩
       by_cases e1:t=b.sv
       · subst e1;rw[A8]at ht;cases ht;exact hcs
       rw[Be e1]at ht
       by_cases e2:t=b.sa
       · subst e2;rw[A8]at ht;cases ht;exact(hsl _).trans h1
       rw[Be e2]at ht;cases ht
     obtain⟨W',hr,hset⟩:=SEv.Cc (P:=P) (n:=n) (ds:=ds) (w:=W) (l:=[(b.sv,.eq (.agg cs)),(b.sa,.eq (.pointer (some ⟨B,0,none⟩)))]) (x:=.tmp b.sa) (y:=.tmp b.sv) (ty:=ty) (ps:=ps) (af:=af) (g:=none) hs hcz (.tmp (by rw[Be hsn,A8])) (.tmp A8) hc1 hblk (by simp) a hag
     have na:∀c∈bs,Cp L b.is c.ia=L c.ia:=fun c hc=>by
       have:=(J3 hv hc hb).1
       simp[Cp,this]
     refine .inr ⟨W',hr,hset.sto.Dc (by rw[hset.size];exact bi _) hblk,(fun d hd=>by cases hd),hUp.sto hset.sto hBs,fun c hc=>?_,?_⟩
     · by_cases hcb:c.is=b.is
       · have hca:c.ia=b.ia∧c.sa=b.sa:=by
           rcases(J3 hv hc hb).2 with⟨h,_⟩|⟨_,h,_⟩
           · refine⟨h,?_⟩
             obtain⟨_,_,_,h1⟩:=hia c hc
             obtain⟨_,_,_,h2⟩:=hia b hb
             rw[h,h2]at h1;exact(Wt h1).symm
           exact absurd hcb h
         have hcv:c.sv=b.sv:=by
           obtain⟨_,_,_,h1⟩:=his c hc
           rw[hcb,hio]at h1;exact(FJ h1).symm
         refine⟨fun _=>by rw[na c hc,hca.1];exact hLa,fun _=>⟨B,by rw[hca.2];exact h1,hBs,?_⟩⟩
         have h2:Cp L b.is c.is=true:=by simp[Cp,hcb]
         rw[h2,bg rfl,hcv]
         show Blk W' B (f b.sv).cells T
         rw[hfs]
         exact hset.blk
       have ns:Cp L b.is c.is=L c.is:=by simp[Cp,hcb]
       refine⟨fun h=>by rw[na c hc];rw[ns]at h;exact(hB c hc).1 h,fun h=>?_⟩
       rw[na c hc]at h
       obtain⟨B',h3,h4,h5⟩:=(hB c hc).2 h
       have hne:B'≠B:=by
         have hcne:c≠b:=fun e=>hcb (by rw[e])
         intro e
         subst e
         rcases fk.1 hc with⟨ic,hic,ec⟩
         rcases fk.1 hb with⟨ib,hib,eb⟩
         rcases jc ic ib with q|q|q
         · have:=ei.1 hP ic ib hic hib q
           rw[ec,eb]at this
           exact this h hLa B' h3 h1
         · subst q;exact hcne (ec.symm.trans eb)
         have:=ei.1 hP ib ic hib hic q
         rw[ec,eb]at this
         exact this hLa h B' h1 h3
       refine⟨B',h3,h4,?_⟩
       rw[ns]
       exact h5.sto hset.sto hne
     refine List.Pairwise.imp_of_mem ?_ hP
     intro c c' hc hc' hp h1 h2 X hx hx'
     rw[na c hc]at h1
     rw[na c' hc']at h2
     exact hp h1 h2 X hx hx'
   have e1':∀b∈bs,b.is≠i:=fun b hb e=>e1 ⟨b,hb,e.symm⟩
   obtain⟨hg,hop⟩:=hop i o hi (fun b hb=>⟨Ne.symm (e0' b hb),Ne.symm (e1' b hb)⟩) hio
   intro a ha hsl
   rw[bg (by simp[Region.wanted,hg])]
   have done:∀v W',Up W W'∧(ph i).holds v W'→KeepT T W W'∧(∀d,o.dst=some d→(ph i).holds v W')∧FK bs T z w (Cp L i) (Dl f o.dst v) W':=by
     rintro v W' ⟨hu,hv'⟩
     have ela:∀c∈bs,Cp L i c.ia=L c.ia:=fun c hc=>by simp[Cp,e0' c hc]
     have els:∀c∈bs,Cp L i c.is=L c.is:=fun c hc=>by simp[Cp,e1' c hc]
     have esa:∀c∈bs,Dl f o.dst v c.sa=f c.sa:=fun c hc=>by simp[Dl,saOf c hc (e0' c hc)]
     refine⟨hu.Dc,fun _ _=>hv',hUp.trans hu,fun c hc=>⟨fun h=>by rw[ela c hc];rw[els c hc]at h;exact(hB c hc).1 h,fun h=>?_⟩,?_⟩
     · rw[ela c hc]at h
       obtain⟨B,h1,h2,h3⟩:=(hB c hc).2 h
       refine⟨B,by rw[esa c hc];exact h1,h2,?_⟩
       rw[els c hc]
       cases hLc:L c.is with
       |false=>rw[hLc]at h3;exact h3.up hu
       |true=>
         rw[hLc]at h3
         have h4:Dl f o.dst v c.sv=f c.sv:=by simp[Dl,svOf c hc hLc]
         rw[h4]
         exact h3.up hu
     refine List.Pairwise.imp_of_mem ?_ hP
     intro c c' hc hc' hp h1 h2 X hx hx'
     rw[ela c hc]at h1;rw[ela c' hc']at h2
     rw[esa c hc]at hx;rw[esa c' hc']at hx'
     exact hp h1 h2 X hx hx'
   rcases hop W hRel a ha with⟨v,W',hr,hp⟩|⟨fn,args,w1,hr,hc⟩
   · exact .inl (.inl ⟨v,W',hr,done v W' hp⟩)
   exact .inl (.inr ⟨fn,args,w1,hr,hc.mono done⟩)
 intro f W hRel hInv
 obtain⟨hUp,hB,hP⟩:=hInv
 refine hend f W hUp (fun b hb=>?_) ?_
 · obtain⟨B,h1,h2,h3⟩:=(hB b hb).2 (by simpa using(hk b hb).2)
   rw[bg (by simpa using(hk b hb).1)]at h3
   exact⟨B,h1,h2,h3⟩
 refine List.Pairwise.imp_of_mem ?_ hP
 intro c c' hc hc' hp X hx hx'
 exact hp (by simpa using(hk c hc).2) (by simpa using(hk c' hc').2) X hx hx'
theorem CW.vars{id:Nat}{opsL:List Oper}(k:Nat)(bs:List Bv)(z:Array Value)(phs:List Ph)(keep:List Nat){T:TypeId}(hz:∀w,(zeroValue T).run P w=.ok (.agg z) w)(hs:∀w,(sizeOf T).run P w=.ok z.size w)(hm:P.follows .mixedOrders=true)(hl:Cn l=true)
   (hA:Dt opsL.toArray=true)(hC:(Nat.beq k opsL.toArray.size||Ff opsL.toArray k)=true)(hF:H8 opsL.toArray k=true)(hks:Nat.ble k opsL.toArray.size=true)(hD:Gm n opsL.toArray 0 k=true)(hTl:Gl opsL.toArray k=true)
   (hfree:Iz l (opsL.take k)=true)(hv:dC bs=true)(hnd:(bs.map (·.ia)).Nodup)(hlit:(bs.all fun b=>Ny opsL.toArray b.ia [(b.is,0,b.sv)])=true)(hk:(bs.all fun b=>Nat.ble (b.is+1) k&&Nat.ble (b.ia+1) k)=true)
   (hia:∀b∈bs,∃ty ps af,opsL[b.ia]?=some ⟨some b.sa,.alloc T,ty,ps,af,none⟩)(his:∀b∈bs,∃ty ps af,opsL[b.is]?=some ⟨none,.store T (.tmp b.sa) (.tmp b.sv),ty,ps,af,none⟩)(hph:allT T phs)
   (hlk:∀b∈bs,∀o,opsL[b.is]?=some o→lk (Jb opsL.toArray (fun i=>phs.getD i (.eq undef)) 0 o++l) b.sv=some (phs.getD b.isv (.eq undef)))(hsv:∀b∈bs,∀v W,(phs.getD b.isv (.eq undef)).holds v W→∃cs,v=.agg cs∧cs.size=z.size∧cs.all (·.oneCell')=true)
   (hpa:∀b∈bs,∀B W,(phs.getD b.ia (.eq undef)).holds (.pointer (some ⟨B,0,none⟩)) W)
   (hop:∀W,KeepT T w.drew W→allL (fun i o=>(∃b∈bs,i=b.ia∨i=b.is)∨(o.guard=none∧TU P n ds (Jb opsL.toArray (fun i=>phs.getD i (.eq undef)) 0 o++l) W o (phs.getD i (.eq undef)))) 0 (opsL.take k))
   (hend:∀W(g:Nat→Value),Up w.drew W→(∀b∈bs,∃B,Ia (g b.sa) B∧w.drew.heap.size≤B∧Blk W B (g b.sv).cells T)→(bs.Pairwise fun b c=>∀B,Ia (g b.sa) B→¬Ia (g c.sa) B)→(∀i o d,i<k→opsL[i]?=some o→o.dst=some d→(phs.getD i (.eq undef)).holds (g d) W)→LW R m P n ds opsL.toArray Q (opsL.drop k) (keep.map (fun d=>(d,.eq (g d)))++l) W):
   CW R m P n ds (.region id opsL.toArray true) Q l w:=by
 have hks':k≤opsL.length:=by have:=be hks;simp at this;omega
 have sub:∀j o,j<k→opsL.toArray[j]?=some o→(opsL.take k)[j]?=some o:=fun j o hjk ho=>by
   rw[di hjk];simpa using ho
 have hbd:∀i ph,lk l i=some ph→∀(j:Nat)(o:Oper),0≤j→j<k→opsL.toArray[j]?=some o→o.dst≠some i:=fun i ph hi j o _ hjk ho=>F4 hfree hi (ai (sub j o hjk ho))
 have toL:∀(i:Nat)(o:Oper),opsL.toArray[i]?=some o→opsL[i]?=some o:=fun i o h=>by simpa using h
 refine Em hm hl fun fuel listed a hf hu ha=>(AWF.vars (k:=k) (bs:=bs) (T:=T) (z:=z) (fun i=>phs.getD i (.eq undef)) (f0:=fun t=>a.tmps.getD t undef) hz hs (fun i v w w' h u=>(hph.at i) v w w' h u) hA hC hF hks hD hl hbd hv (je.1 hnd) (fun b hb=>db.1 hlit b hb) ?_ ?_ ?_ (fun b hb o ho=>hlk b hb o (toL _ _ ho)) hsv hpa ?_ ?_ fuel listed a hf hu ha (fun _=>rfl))
 · intro b hb
   have:=db.1 hk b hb
   simp only[bw]at this
   exact⟨be this.1,be this.2⟩
 · intro b hb
   obtain⟨ty,ps,af,h⟩:=hia b hb
   exact⟨ty,ps,af,by simpa using h⟩
 · intro b hb
   obtain⟨ty,ps,af,h⟩:=his b hb
   exact⟨ty,ps,af,by simpa using h⟩
 · intro i o hi hn ho
   have h0:=(hop w.drew (KeepT.refl T _)).at (sub i o hi ho)
   rw[dm]at h0
   rcases h0 with⟨b,hb,e|e⟩|⟨hg,_⟩
   · exact absurd e (hn b hb).1
   · exact absurd e (hn b hb).2
   refine⟨hg,fun W hW a ha=>?_⟩
   have h3:=(hop W hW).at (sub i o hi ho)
   rw[dm]at h3
   rcases h3 with⟨b,hb,e|e⟩|⟨_,h⟩
   · exact absurd e (hn b hb).1
   · exact absurd e (hn b hb).2
   exact h a ha
 intro f W hUp hblk hpw fuel' listed' a' hf' hu' ha' hsl'
 have key:∀i o d,i<k→opsL[i]?=some o→o.dst=some d→(phs.getD i (.eq undef)).holds (f d) W:=by
   intro i o d hik ho hd
   have ho':opsL.toArray[i]?=some o:=by simpa using ho
   have hmem:(d,phs.getD i (.eq undef))∈Ha opsL.toArray (fun i=>phs.getD i (.eq undef)) 0 k:=by
     unfold Ha
     rw[ft]
     exact⟨i,ck.2 hik,by rw[bg (by simp),ho'];simp[hd]⟩
   obtain⟨q',hq⟩:=Hq hmem
   obtain⟨j,p,_,hjk,hp,hpd,e⟩:=E4 hq
   have:j=i:=by
     by_cases ee:j=i
     · exact ee
     exact absurd hpd ((C5 hD (a_ _) hik ho' hd).2 j p (a_ _) hjk ee hp)
   subst this
   have:=ha'.val d q' (Kj hq)
   rw[hsl',e]at this
   exact this
 refine Es hTl hA (opsL.toArray.size-k) k fuel' listed' a' W rfl (by simp;omega) (bi _) hf' hu' (hend W f hUp hblk hpw key a' ⟨ha'.defers,ha'.size,fun t q ht=>?_⟩)
 rcases Dg ht with h|h
 · obtain⟨d,_,he⟩:=br.1 (Ki h)
   cases he
   exact hsl' _
 refine ha'.val t q ?_
 rw[Fv]
 · exact h
 cases hq:lk (Ha opsL.toArray (fun i=>phs.getD i (.eq undef)) 0 k) t with
 |none=>rfl
 |some q'=>
   obtain⟨j,p,_,hjk,hp,hpd,_⟩:=E4 hq
   exact absurd hpd (hbd t q h j p (a_ _) hjk hp)
end
end Go.Wx
