import Derived.Test.YtbcnnkfopoiifaaGreatDoorKR120
import Derived.Sort.OwnSortedInts
namespace Go.Wx
theorem dR(ks:List Int):ks.flatMap (fun x=>(Cm x).toList)=ks.map vi:=by
 induction ks with
 |nil=>rfl
 |cons k ks ih=>rw[du,ih];rfl
def Mj(kb:Base)(id:Int):Bool:=decide ((F9 kb id).2.2=0)&& !(F9 kb id).2.1
def Ic(kb:Base)(l:List Fact):List Int:=(l.filter fun p=>Mj kb p.ID).map (·.ID)
def Kc(kb:Base):List Int:=(Ic kb kb.Processes).mergeSort fun x y=>decide (x≤y)
theorem Nj{kb:Base}{l:List Fact}{i:Nat}{x:Fact}(h:l[i]?=some x)(hx:Mj kb x.ID=true):Ic kb (l.take (i+1))=Ic kb (l.take i)++[x.ID]:=by
 unfold Ic
 rw[cn,h,ez,cj,cq]
 simp[hx]
theorem Ri{kb:Base}{l:List Fact}{i:Nat}{x:Fact}(h:l[i]?=some x)(hx:Mj kb x.ID=false):Ic kb (l.take (i+1))=Ic kb (l.take i):=by
 unfold Ic
 rw[cn,h,ez,cj,cq]
 simp[hx]
theorem Rj(kb:Base)(l:List Fact)(i:Nat):(Ic kb (l.take i)).length≤l.length:=by
 unfold Ic
 rw[cd]
 exact bb (cm _ _) (by rw[bu];omega)
theorem uS{α:Type}{w:World}{ad:Option Addr}{n c k:Nat}{enc:α→Array Go.Value}{xs:List α}(h:Sl w (.slice ad n c) k enc xs):Els w ad k enc xs:=by
 obtain⟨a,c',e,he⟩:=h
 cases e
 exact he
theorem uT{b:Base}{t c r:Int}(h:∀p∈b.Processes,H6 p≠⟨t,c,r⟩):Gt b t c r=[]:=by
 have:Md b t c r=[]:=gy.2 fun x hx=>by
   obtain⟨h1,h2,h3,h4⟩:=Zn.1 hx
   exact h x h1 (by unfold H6;rw[h2,h3,h4])
 unfold Gt
 rw[this]
 rfl
theorem uU{b:Base}{t c r:Int}:(∃p∈b.Processes,H6 p=⟨t,c,r⟩)∨Gt b t c r=[]:=by
 by_cases h:∃p∈b.Processes,H6 p=⟨t,c,r⟩
 · exact .inl h
 exact .inr (uT fun p hp e=>h ⟨p,hp,e⟩)
theorem Zv{xs ys:List Int}{k:Nat}{x y:Int}(h:xs.take k=ys.take k)(hx:xs[k]?=some x)(hy:ys[k]?=some y)(e:x=y):xs.take (k+1)=ys.take (k+1):=by rw[C8 hx,C8 hy,h,e]
theorem uV{xs ys:List Int}{k:Nat}{x y:Int}(hx:xs[k]?=some x)(hy:ys[k]?=some y)(e:¬x=y):¬xs=ys:=fun h=>e (by subst h;rw[hx]at hy;cases hy;rfl)
def O1(k:Int):Fact:=⟨10,0,1,0,false,0,0,0,0,0,0,0,0,0,k,0,100,0,ByteArray.empty⟩
def Ky(a b c:Int):Fact:=⟨1,a,1,0,false,b,b,1,0,0,0,4,0,0,9,1,c,0,ByteArray.empty⟩
structure Prt where
 ad:Option Addr
 cp:Nat
 xs:List Fact
def Prt.val(p:Prt):Go.Value:=.slice p.ad p.xs.length p.cp
def Prt.enc(p:Prt):Array Go.Value:=#[p.val]
theorem Prt.one(p:Prt):p.enc.all (·.oneCell')=true:=by simp[Prt.enc,Prt.val,Value.oneCell']
def uW(ad ad':Option Addr):Prop:=∀B o,ad'=some ⟨B,o,none⟩→∃o' s,ad=some ⟨B,o',s⟩
theorem oR{ad:Option Addr}(k c i:Nat):uW ad (if c=i then ad else ad.map (·.add k)):=fun B o h=>by
 split at h
 · exact⟨o,none,h⟩
 cases ad with
 |none=>cases h
 |some a=>
   obtain⟨b,o',s⟩:=a
   injection h with h
   have hb:(Addr.add ⟨b,o',s⟩ k).block=B:=by rw[show Addr.add ⟨b,o',s⟩ k=⟨B,o,none⟩from h]
   unfold Addr.add at hb
   split at hb<;>exact⟨o',s,by rw[←hb]⟩
def Prt.Sc(ad:Option Addr)(cp:Nat)(l:List Fact)(p:Prt):Prop:=∃i m,i+m≤l.length∧p=⟨(if cp=i then ad else ad.map (·.add (i*19))),cp-i,(l.drop i).take m⟩
def Fj(Ps:List Prt):List Fact:=Ps.flatMap (·.xs)
theorem Oo(Ps:List Prt)(p:Prt):Fj (Ps++[p])=Fj Ps++p.xs:=by unfold Fj;rw[ip];simp
theorem oS{l:List Fact}{i m:Nat}:l.take i++(l.drop i).take m=l.take (i+m):=(List.take_add).symm
theorem Yd{ad:Option Addr}{cp:Nat}{l:List Fact}{Ps:List Prt}{p:Prt}(h:∀q∈Ps,q.Sc ad cp l)(hp:p.Sc ad cp l):∀q∈Ps++[p],q.Sc ad cp l:=fun q hq=>(be.1 hq).elim (h q) fun e=>by rw[aa.1 e];exact hp
def m21:Fact:=⟨2,1,1,0,false,15,0,0,0,0,0,0,0,0,0,0,108,0,ByteArray.empty⟩
def OC:List Fact:=[]++[O1 9]
def OD:List Fact:=OC++[Ky 1 10 100000]
def FP:List Fact:=OD++[Ky 2 20 98000,Ky 3 30 98000]
def FQ:List Fact:=FP++[m21]
def OE:List Fact:=FQ++[m21]
def LM:List Fact:=OE++[O1 8]
theorem CF:Mi [] [O1 9]=0:=by kernel_rfl
theorem CG:Mi OC [Ky 1 10 100000]=1:=by kernel_rfl
theorem CH:Mi OD [Ky 2 20 98000,Ky 3 30 98000]=1:=by kernel_rfl
theorem CI:Mi FP [m21]=1:=by kernel_rfl
theorem CJ:Mi FQ [m21]=0:=by kernel_rfl
theorem CK:Mi OE [O1 8]=0:=by kernel_rfl
theorem LA:Ic (Dj FP 100000) (Dj FP 100000).Processes=[2,3]:=by kernel_rfl
theorem LB:Ic (Dj FQ 100000) (Dj FQ 100000).Processes=[]:=by kernel_rfl
theorem uX{z:Eng}(h:z.all=FP):Kc z.kb=[2,3]:=by
 unfold Kc Eng.kb
 rw[h,LA]
 exact kr (by simp)
theorem uY{z:Eng}(h:z.all=FQ):Kc z.kb=[]:=by
 unfold Kc Eng.kb
 rw[h,LB]
 simp
theorem LC:Gt (Dj LM 100000) 4 0 9=[⟨1,⟨100,1⟩,⟨0,1⟩,[]⟩,⟨2,⟨98,1⟩,⟨2,1⟩,[1]⟩,⟨3,⟨98,1⟩,⟨2,1⟩,[1]⟩]:=by kernel_rfl
theorem LD:(Dj LM 100000).Processes.length=3:=by kernel_rfl
theorem Zw{al:List Fact}{d:Int}:∀p∈(Dj al d).Processes,F8 p.Value:=fun p hp=>by
 have h:=(F3 (j:=0) cQ).1 hp
 obtain⟨h1,h2,_⟩:=It (G5 h.1)
 by_cases e:∃x∈fieldsOf p.Kind,x.off=16
 · obtain⟨x,hx,e⟩:=e
   have:=h2 x hx
   rw[e]at this
   have h3:Mm p.Value:=this
   unfold Mm at h3
   unfold F8
   omega
 have h3:p.Value=0:=h1 16 cQ fun x hx e'=>e ⟨x,hx,e'⟩
 rw[h3]
 exact⟨by decide,by decide⟩
theorem uZ{w:World}{ad:Option Addr}{cp:Nat}{l:List Fact}{p:Prt}(h:p.Sc ad cp l)(hc:l.length≤cp)(hE:Els w ad 19 Fact.cells l):Els w p.ad 19 Fact.cells p.xs:=by
 obtain⟨i,m,hm,rfl⟩:=h
 exact uS (Els.part hE (Nat.le_add_right i m) hm hc |> fun h=>by rw[show i+m-i=m by omega]at h;exact h)
theorem vA{ad:Option Addr}{cp:Nat}{l:List Fact}{p:Prt}(h:p.Sc ad cp l):uW ad p.ad:=by
 obtain⟨i,m,_,rfl⟩:=h
 exact oR _ _ _
theorem Oq{Ps:List Prt}{i:Nat}{p:Prt}(h:Ps[i]?=some p):Fj (Ps.take (i+1))=Fj (Ps.take i)++p.xs:=by
 rw[cn,h,ez,Oo]
theorem Vq(Ps:List Prt)(i:Nat):(Fj (Ps.take i)).length≤(Fj Ps).length:=by
 have:Fj Ps=Fj (Ps.take i)++Fj (Ps.drop i):=by
   unfold Fj
   rw[←ip,dg]
 rw[this,au]
 omega
theorem vB{e k:Nat}{enc:Fact→Array Go.Value}{ad ad':Option Addr}{n c B o:Nat}{xs:List Fact}(h:uW ad ad')(e':ad'=some ⟨B,o,none⟩):(A8 e k enc (.slice ad n c) xs).foot B:=by
 obtain⟨o',s,rfl⟩:=h B o e'
 rfl
theorem vC{e k:Nat}{enc:Fact→Array Go.Value}{ad:Option Addr}{n c B o:Nat}{xs:List Fact}(h:ad=some ⟨B,o,none⟩):(A8 e k enc (.slice ad n c) xs).foot B:=by subst h;rfl
theorem To{l:List Fact}{k:List UInt8}(h:(Kv (Bj l 100000) k).Kind≠0):M6 l 100000 (Kv (Bj l 100000) k)∧Bm (Kv (Bj l 100000) k)=k:=by
 unfold Kv at h⊢
 cases hg:Fi (Bj l 100000) k with
 |none=>rw[hg]at h;exact absurd rfl h
 |some x=>
   have hk:Bm x=k:=by
     have hg2:=hg
     unfold Fi at hg2
     obtain⟨q,hq,hqy⟩:=fp.1 hg2
     have hq1:=d_ hq
     have hq2:(q.1==k)=true:=gz (p:=fun p:List UInt8×Fact=>p.1==k) hq
     have:=((M7 l 100000).ok q hq1).1
     rw[←hqy,←this];simpa using hq2
   exact⟨On.2 (by rw[b6,hk];exact hg),hk⟩
theorem iN{kb:Base}{x:Fact}{g:Grp}(h:Fl kb x g=true):x.Gone=false∧((x.Kind=1∧g=H6 x)∨(x.Kind=2∧zF kb x g=true)∨(x.Kind=9∧g.t=x.Tool∧g.c=x.Chamber)∨(x.Kind=10∧g.r=x.Recipe)):=by
 unfold Fl at h
 rw[aw]at h
 obtain⟨h1,h2⟩:=h
 refine⟨by simpa using h1,?_⟩
 split at h2
 · rename_i e;exact .inl ⟨e,bj h2⟩
 split at h2
 · rename_i e;exact .inr (.inl ⟨e,h2⟩)
 split at h2
 · rename_i e;rw[aw]at h2;exact .inr (.inr (.inl ⟨e,bj h2.1,bj h2.2⟩))
 split at h2
 · rename_i e;exact .inr (.inr (.inr ⟨e,bj h2⟩))
 cases h2
theorem Ye(l:List Fact)(i:Nat):(C6 (l.take i)).length≤i:=by
 have h:=(Ni (l.take i)).length_le_of_subset (l₂:=(l.take i).map H6) fun g hg=>by
   obtain⟨p,hp,e⟩:=(Lq _ g).1 hg
   exact aq.2 ⟨p,hp,e⟩
 rw[cd,bu]at h
 omega
theorem vD{L:List Grp}{g:Grp}{k:Nat}(h:true=decide (g∈L.take k)):true=decide (g∈L.take (k+1)):=by
 have h1:=bj h.symm
 refine(a8 ?_).symm
 rw[cn]
 exact dw _ h1
theorem AL{L:List Grp}{g x:Grp}{k:Nat}(hx:L[k]?=some x)(h:false=decide (g∈L.take k)):decide (x=g)=decide (g∈L.take (k+1)):=by
 have h1:=db h.symm
 rw[cn,hx,ez]
 by_cases e:x=g
 · rw[a8 e,a8 (fk _ (aa.2 e.symm))]
 rw[bg e,bg fun hm=>(be.1 hm).elim h1 fun hm=>e (aa.1 hm).symm]
theorem AM{L:List Grp}{g x:Grp}{k:Nat}{b:Bool}(hx:L[k]?=some x)(h:b=decide (g∈L.take k)):(b||decide (x=g))=decide (g∈L.take (k+1)):=by
 cases b with
 |true=>exact vD h
 |false=>exact AL hx h
theorem dS:∀{fs:List Fld}{f g:Fact},(∀x∈fs,E6 x.off=true)→(fs.map (·.off)).Nodup→Ih fs f=some g→∀x∈fs,x.lo≤Fk f x.off∧Fk f x.off≤x.hi
 |[],_,_,_,_,_=>fun x hx=>by cases hx
 |x::fs,f,g,hf,hn,h=>by
   rw[cy,gk]at hn
   unfold Ih at h
   split at h
   · cases h
   rename_i hx
   intro y hy
   rcases ap.1 hy with rfl|hy
   · exact⟨by omega,by omega⟩
   have:=dS (fun z hz=>hf z (bw _ hz)) hn.2 h y hy
   rw[N9 (hf x bp) (hf y (bw _ hy)),ae (fun e=>hn.1 (aq.2 ⟨y,hy,e.symm⟩))]at this
   exact this
theorem oT{f:Fact}{k:Int}(h:Bw f=true)(hk:f.Kind=k)(hn:((fieldsOf k).map (·.off)).Nodup):∀x∈fieldsOf k,x.lo≤Fk f x.off∧Fk f x.off≤x.hi:=by
 unfold Bw at h
 rw[aw,aw]at h
 have h3:=h.2.2
 subst hk
 cases hr:Ih (fieldsOf f.Kind) f with
 |none=>rw[hr]at h3;cases h3
 |some g=>exact dS (fun x hx=>(U5 f.Kind x hx).1) hn hr
def S7(k:Int):List Int:=if k=4 then[1,10]else if k=5 then[4]else if k=8 then[2,13]else if k=10 then[8,10]else[0]
theorem CL{k n:Int}(h:n∈S7 k):0≤n∧n<14:=by
 unfold S7 at h
 split at h
 · simp at h;omega
 split at h
 · simp at h;omega
 split at h
 · simp at h;omega
 split at h
 · simp at h;omega
 simp at h;omega
theorem AN{l:List Fact}{d:Int}{x:Fact}(h:M6 l d x):Bw x=true:=Hh h.2.1
theorem OF{l:List Fact}{d:Int}{x y:Fact}(hx:M6 l d x)(hy:M6 l d y)(e:Bm x=Bm y):x=y:=Mc (AN hx) (AN hy) e (hy.2.2.2 x hx.1 hx.2.2.1) (hx.2.2.2 y hy.1 hy.2.2.1)
def Lt(d:Int)(i:Nat)(f:Fact)(k:Nat)(g:Fact):Bool:=(decide (g.Day≤d)&&Dz g f)||(decide ((k:Int)<(i:Int))&&Cw g f)
def dU(L:List Fact)(d:Int)(i:Nat)(f:Fact):Nat→Bool
 |0=>true
 |k+1=>dU L d i f k&& !(match L[k]? with|none=>false|some g=>Lt d i f k g)
theorem AO{L:List Fact}{d:Int}{i k:Nat}{f g:Fact}(h:L[k]?=some g)(hb:Lt d i f k g=true):dU L d i f (k+1)=false:=by
 unfold dU;rw[h];dsimp only;rw[hb];simp
theorem FC{L:List Fact}{d:Int}{i k:Nat}{f g:Fact}(h:L[k]?=some g)(hb:Lt d i f k g=false):dU L d i f (k+1)=dU L d i f k:=by
 rw[dU,h];dsimp only;rw[hb];simp
theorem Tp{L:List Fact}{d:Int}{i:Nat}{f:Fact}:∀{n:Nat},dU L d i f n=true↔∀k,k<n→∀g,L[k]?=some g→Lt d i f k g=false
 |0=>⟨fun _ k hk=>by omega,fun _=>rfl⟩
 |n+1=>by
   rw[dU,aw,Tp]
   constructor
   · rintro⟨h1,h2⟩ k hk g hg
     by_cases e:k=n
     · subst e;rw[hg]at h2;simpa using h2
     exact h1 k oQ g hg
   intro h
   refine⟨fun k hk g hg=>h k oQ g hg,?_⟩
   cases e:L[n]? with
   |none=>rfl
   |some g=>dsimp only;rw[h n oQ g e];rfl
def O2(d:Int)(f:Fact):Bool:=(decide (Bm f=[])||decide (d<f.Day))||f.Gone
def FD(L:List Fact)(d:Int)(i:Nat):Bool:=match L[i]? with
 |none=>false
 |some f=> !O2 d f&&dU L d i f L.length
def FE(L:List Fact)(d:Int):List Fact:=(Fp (Bj L d)).filter fun f=> !f.Gone
theorem Tq{L:List Fact}{d:Int}{f:Fact}:f∈FE L d↔M6 L d f∧f.Gone=false:=by unfold FE;rw[bx,Ll];simp
def qL(L:List Fact)(d:Int):Nat→List Fact
 |0=>[]
 |i+1=>qL L d i++(match L[i]? with|some f=>if FD L d i then[f]else[]|none=>[])
theorem Zx{L:List Fact}{d:Int}{i:Nat}{f:Fact}(hf:L[i]?=some f):FD L d i=true↔(f∈FE L d∧∀k,k<i→L[k]?≠some f):=by
 have hi:=(ai.1 hf).1
 unfold FD
 rw[hf]
 dsimp only
 rw[aw,gn,Tp]
 unfold O2
 rw[df,df,f6,f6,Tq]
 constructor
 · rintro⟨⟨⟨a,b⟩,c⟩,h⟩
   refine⟨⟨⟨am hf,a,by omega,fun g hg hd=>?_⟩,c⟩,fun k hk hkf=>?_⟩
   · obtain⟨k,hk⟩:=fj.1 hg
     have:=h k (ai.1 hk).1 g hk
     unfold Lt at this
     rw[df,a8 hd,gp]at this
     exact this.1
   have:=h k oQ f hkf
   unfold Lt at this
   rw[df,a8 (by omega:(k:Int)<(i:Int)),J7]at this
   exact absurd this.2 cQ
 rintro⟨⟨⟨_,a,b,h⟩,c⟩,h2⟩
 refine⟨⟨⟨a,by omega⟩,c⟩,fun k hk g hg=>?_⟩
 unfold Lt
 rw[df]
 constructor
 · by_cases hd:g.Day≤d
   · rw[h g (am hg) hd,ji]
   rw[bg hd,kz]
 by_cases hki:(k:Int)<(i:Int)
 · rw[Bool.and_eq_false_iff];right
   rw[dv]
   intro e
   exact h2 k oQ (by rw[hg,tX e])
 rw[bg hki,kz]
theorem vE{L:List Fact}{d:Int}{x:Fact}:∀n,n≤L.length→(x∈qL L d n↔x∈FE L d∧∃k,k<n∧L[k]?=some x)
 |0,_=>⟨fun h=>(by cases h),fun⟨_,k,hk,_⟩=>oQ⟩
 |n+1,hn=>by
   obtain⟨f,hf⟩:=Av (xs:=L) (i:=n) oQ
   rw[qL,be,vE n oQ,hf]
   dsimp only
   constructor
   · rintro(⟨h1,k,hk,h2⟩|h)
     · exact⟨h1,k,by omega,h2⟩
     split at h
     · rename_i hk
       cases aa.1 h
       exact⟨((Zx hf).1 hk).1,n,by omega,hf⟩
     cases h
   rintro⟨h1,k,hk,h2⟩
   by_cases hkn:∃k',k'<n∧L[k']?=some x
   · exact .inl ⟨h1,hkn⟩
   have e:k=n:=by
     by_cases e:k=n
     · exact e
     exact absurd ⟨k,by omega,h2⟩ hkn
   subst e
   rw[hf]at h2
   cases h2
   right
   rw[ak ((Zx hf).2 ⟨h1,fun k' hk' hx=>hkn ⟨k',hk',hx⟩⟩)]
   simp
theorem Zy(L:List Fact)(d:Int):∀n,n≤L.length→(qL L d n).Nodup
 |0,_=>dz
 |n+1,hn=>by
   obtain⟨f,hf⟩:=Av (xs:=L) (i:=n) oQ
   rw[qL,hf]
   dsimp only
   split
   · rename_i hk
     rw[dl]
     refine⟨Zy L d n oQ,by simp,fun a ha c hc=>?_⟩
     cases aa.1 hc
     intro e
     subst e
     obtain⟨_,k,hkn,hx⟩:=(vE n oQ).1 ha
     exact((Zx hf).1 hk).2 k hkn hx
   rw[dy];exact Zy L d n oQ
theorem AP(L:List Fact)(d:Int){j:Nat}(hj:j<11):Hl (Ff ((j+1:Nat):Int)) ((qL L d L.length).filter fun f=>decide (f.Kind=((j+1:Nat):Int)))=C2 (Dj L d) j:=by
 rw[N7 L d hj]
 unfold Er
 rw[ak (aa.2 rfl)]
 have e:(Fp (Bj L d)).filter (fun f=> !f.Gone&&decide (f.Kind=((j+1:Nat):Int)))=(FE L d).filter (fun f=>decide (f.Kind=((j+1:Nat):Int))):=by
   unfold FE
   rw[ei]
   apply h_
   intro x _
   rw[Bool.and_comm]
 rw[e]
 have hp:(qL L d L.length).Perm (FE L d):=Ir (Zy L d _ (av _)) ((Jl L d).filter _) fun x=>by
   rw[vE _ (av _)]
   refine⟨fun h=>h.1,fun h=>⟨h,?_⟩⟩
   obtain⟨k,hk⟩:=fj.1 (Tq.1 h).1.1
   exact⟨k,(ai.1 hk).1,hk⟩
 refine Pn (hp.filter _) fun x hx y hy h=>?_
 rw[bx]at hx hy
 have ex:=(Tq.1 (hp.subset hx.1)).1
 have ey:=(Tq.1 (hp.subset hy.1)).1
 exact OF ex ey (L9 (AN ex) (AN ey) (bj hx.2) (bj hy.2) h)
theorem iO{z:Nat}(h:z<128):Qa z=[UInt8.ofNat z]:=by unfold Qa;rw[Wz h];rfl
theorem vF{z:Nat}(h:¬z<128)(hz:z<18446744073709551616):Qa z=(UInt8.ofNat (z%128)|||128)::Qa (z/128):=by
 unfold Qa;rw[jI h hz];rfl
theorem LF{z:Nat}:Value.int .u8 (IntKind.u8.wrap (IntKind.u64.wrap ((z:Int).tmod 128+128)))=bv (UInt8.ofNat (z%128)|||128):=by
 have h1:(UInt8.ofNat (z%128)|||128).toNat=z%128+128:=aN (cx _ cQ)
 have h2:(z:Int).tmod 128=((z%128:Nat):Int):=rfl
 unfold bv
 rw[h1,h2,Dv,show IntKind.u8.wrap=fun i=>i%256 from by funext i;rw[IntKind.wrap_u8]]
 have:=cx z (show 0<128 by decide)
 congr 1
 dsimp only
 omega
theorem Lu(z:Nat):(Qa z).length≤10:=by unfold Qa;rw[cd];exact Yu z
def F7(k:Int):List Int:=if k=1 then[0,1,5,6,7,8,9,10,11,12]else if k=2 then[0,10,12]else if k=3 then[0,1,2,10]else if k=4 then[1,3,4,10]else if k=5 then[4]else if k=6 then[0,5,6,8,9,10,11]else if k=7 then[0,1,3,5,6,7,8,9,10,11,13]else if k=8 then[2,13,10]else if k=9 then[0,5,6,10]else if k=10 then[8,10,12]else if k=11 then[0,5,6,10,11]else[]
def Gv(k j:Int):Int×Int:=if j=5 then(0,59+(if k=7 then 1 else 0))else if j=6 then(0,3+(if k=7 then 1 else 0))else if j=7 then(0,39+(if k=7 then 1 else 0))else if j=10 then(0,1000000)else if j=11 then(0,1000000)else if j=13 then(1,255)else if j=12 then(if k=1 then(-10000000,10000000)else(-1000000,1000000))else if k=7∧j≠0 then(0,1000000)else(1,1000000)
def Vr(l:List Int)(n:Int):Bool:=l.any fun x=>decide (x=n)
def Vs(f:Fact):Bool:=decide (((F7 f.Kind).length:Int)=0)||decide (f.Version<1)||decide (1000000<f.Version)||decide (f.Day<0)||decide (100000<f.Day)||decide (8192<(f.Text.size:Int))||(!decide (f.Kind=5)&& !(f.Text.toList==(⟨#[]⟩:ByteArray).toList))
def Pw(f:Fact)(j:Nat):Bool:=(Vr (F7 f.Kind) j&&(decide (F6 f j<(Gv f.Kind j).1)||decide ((Gv f.Kind j).2<F6 f j)))||(!Vr (F7 f.Kind) j&& !decide (F6 f j=0))
def vG(f:Fact):Bool:=(!Vr (F7 f.Kind) 11||decide (f.Time≤f.Until))&&(!decide (f.Kind=3)|| !decide (f.Wafer=f.Other))
def Nk(f:Fact):Bool:= !Vs f&&((List.range 14).all fun j=> !Pw f j)&&vG f
theorem oU{l:List Int}{i:Nat}{x n:Int}(hx:l[i]?=some x)(h:((l.take i).any fun x=>decide (x=n))=false)(hn:¬x=n):((l.take (i+1)).any fun x=>decide (x=n))=false:=by rw[C8 hx,ju,h];simp[hn]
theorem iP{f:Fact}(h:Vs f=true):false=Nk f:=by simp[Nk,h]
theorem iQ{f:Fact}{j:Nat}(hj:j<14)(h:Pw f j=true):false=Nk f:=by
 have:((List.range 14).all fun j=> !Pw f j)=false:=by
   rw[dv];intro e
   have:=b7.1 e j (bl.2 hj)
   rw[h]at this;cases this
 simp[Nk,this]
theorem Vt{f:Fact}(h:Vs f=false)(hb:∀j,j<14→Pw f j=false):vG f=Nk f:=by
 have:((List.range 14).all fun j=> !Pw f j)=true:=b7.2 fun j hj=>by rw[hb j (bl.1 hj)];rfl
 simp[Nk,h,this]
theorem lP(k:Int):∀n∈F7 k,0≤n∧n<14:=by
 intro n h
 unfold F7 at h
 (repeat' split at h)<;>simp at h<;>omega
theorem Nl(k:Int):(F7 k).length≤11:=by unfold F7;(repeat' split)<;>simp
def oV(j:Nat):Nat:=[1,7,8,9,10,11,12,13,14,15,5,6,16,17].getD j 0
theorem Vu{f:Fact}{j:Nat}(h:j<14):F6 f (j:Int)=Fk f (oV j):=by
 match j,h with
 |0,_|1,_|2,_|3,_|4,_|5,_|6,_|7,_|8,_|9,_|10,_|11,_|12,_|13,_=>rfl
theorem vH{o:Nat}(h:E6 o=true):∃j,j<14∧oV j=o:=by
 rcases Dh h with rfl|rfl|rfl|rfl|rfl|rfl|rfl|rfl|rfl|rfl|rfl|rfl|rfl|rfl
 all_goals first|exact⟨0,by decide,rfl⟩|exact⟨1,by decide,rfl⟩|exact⟨2,by decide,rfl⟩|exact⟨3,by decide,rfl⟩|exact⟨4,by decide,rfl⟩|exact⟨5,by decide,rfl⟩|exact⟨6,by decide,rfl⟩|exact⟨7,by decide,rfl⟩|exact⟨8,by decide,rfl⟩|exact⟨9,by decide,rfl⟩|exact⟨10,by decide,rfl⟩|exact⟨11,by decide,rfl⟩|exact⟨12,by decide,rfl⟩|exact⟨13,by decide,rfl⟩
theorem vI:∀k∈List.range 12,∀j∈List.range 14,∀x∈fieldsOf (k:Int),x.off=oV j→Vr (F7 (k:Int)) (j:Int)=true∧Gv (k:Int) (j:Int)=(x.lo,x.hi):=by decide+kernel
theorem CM:∀k∈List.range 12,∀j∈List.range 14,Vr (F7 (k:Int)) (j:Int)=true→∃x∈fieldsOf (k:Int),x.off=oV j:=by decide+kernel
theorem CN:∀k∈List.range 12,Vr (F7 (k:Int)) 11=decide (Ei (k:Int)=1)∧(decide ((k:Int)=3)=decide (Ei (k:Int)=2))∧Ey (k:Int)=decide ((k:Int)=5)∧((fieldsOf (k:Int)).map (·.off)).Nodup∧(k≠0→(F7 (k:Int)).length≠0):=by decide+kernel
theorem oW{k:Int}(h:(F7 k).length≠0):1≤k∧k≤11:=by
 unfold F7 at h
 (repeat' split at h)<;>first|omega|exact absurd rfl h
theorem Yf:∀{fs:List Fld}{f:Fact},(∀x∈fs,E6 x.off=true)→(fs.map (·.off)).Nodup→(∀x∈fs,x.lo≤Fk f x.off∧Fk f x.off≤x.hi)→∃g,Ih fs f=some g∧(g.Kind=f.Kind∧g.Version=f.Version∧g.Day=f.Day∧g.Gone=f.Gone∧g.Text=f.Text)∧∀o,E6 o=true→Fk g o=if o∈fs.map (·.off)then 0 else Fk f o
 |[],f,_,_,_=>⟨f,rfl,⟨rfl,rfl,rfl,rfl,rfl⟩,fun o _=>by simp⟩
 |x::fs,f,ho,hn,hl=>by
   rw[cy,gk]at hn
   have hx:=hl x bp
   have hox:=ho x bp
   obtain⟨g,h1,h2,h3⟩:=Yf (fs:=fs) (f:=S9 f x.off 0) (fun y hy=>ho y (bw _ hy)) hn.2 (fun y hy=>by
     rw[N9 hox (ho y (bw _ hy)),ae (fun e=>hn.1 (aq.2 ⟨y,hy,e.symm⟩))]
     exact hl y (bw _ hy))
   refine⟨g,by unfold Ih;rw[ae (by omega)];exact h1,?_,fun o hoo=>?_⟩
   · have:(S9 f x.off 0).Kind=f.Kind∧(S9 f x.off 0).Version=f.Version∧(S9 f x.off 0).Day=f.Day∧(S9 f x.off 0).Gone=f.Gone∧(S9 f x.off 0).Text=f.Text:=by
       rcases Dh hox with e|e|e|e|e|e|e|e|e|e|e|e|e|e<;>rw[e]<;>exact⟨rfl,rfl,rfl,rfl,rfl⟩
     rw[this.1,this.2.1,this.2.2.1,this.2.2.2.1,this.2.2.2.2]at h2
     exact h2
   rw[h3 o hoo,N9 hox hoo]
   by_cases e:o=x.off
   · subst e;simp
   simp[e,Ne.symm e]
theorem dV{t:ByteArray}:(t.toList==(⟨#[]⟩:ByteArray).toList)=decide (t.toList=[]):=by rw[fy];simp
theorem Vv(f:Fact):Nk f=Bw f:=by
 rw[fy]
 constructor
 · intro h
   unfold Nk vG at h
   rw[aw,aw,aw]at h
   obtain⟨⟨h1,h2⟩,h3,h4⟩:=h
   have hp:Vs f=false:=by simpa using h1
   unfold Vs at hp
   simp only[df,f6]at hp
   obtain⟨⟨⟨⟨⟨⟨p0,p1⟩,p2⟩,p3⟩,p4⟩,p5⟩,p6⟩:=hp
   have hk:=oW (k:=f.Kind) oQ
   obtain⟨k,ek⟩:∃k:Nat,f.Kind=(k:Int):=⟨f.Kind.toNat,by omega⟩
   have hkr:k∈List.range 12:=bl.2 oQ
   obtain⟨t1,t2,t3,t4,_⟩:=CN k hkr
   have hb:∀j,j<14→Pw f j=false:=fun j hj=>by have:=b7.1 h2 j (bl.2 hj);simpa using this
   have hl:∀x∈fieldsOf f.Kind,x.lo≤Fk f x.off∧Fk f x.off≤x.hi:=fun x hx=>by
     obtain⟨j,hj,ej⟩:=vH (Nx f.Kind x hx)
     obtain⟨u1,u2⟩:=vI k hkr j (bl.2 hj) x (ek▸hx) ej.symm
     have:=hb j hj
     unfold Pw at this
     rw[ek,u1,u2,Vu hj,ej]at this
     simp at this
     omega
   have hz:∀o,E6 o=true→o∉(fieldsOf f.Kind).map (·.off)→Fk f o=0:=fun o ho hn=>by
     obtain⟨j,hj,rfl⟩:=vH ho
     have hh:Vr (F7 f.Kind) j=false:=by
       rw[dv];intro e
       rw[ek]at e
       obtain⟨x,hx,ex⟩:=CM k hkr j (bl.2 hj) e
       exact hn (aq.2 ⟨x,ek▸hx,ex⟩)
     have:=hb j hj
     unfold Pw at this
     rw[hh,Vu hj]at this
     simpa using this
   obtain⟨g,hg,⟨g1,g2,g3,g4,g5⟩,g6⟩:=Yf (Nx f.Kind) (by rw[ek];exact t4) hl
   unfold Bw
   rw[a8 hk,hg]
   have hpre:preB f=false:=by unfold preB;simp[p1,p2,p3,p4,p5]
   have hrest:Kn (Ei f.Kind) f=true:=by
     rw[ek]at h3 h4⊢
     rw[t1]at h3;rw[t2]at h4
     have:Ei (k:Int)=0∨Ei (k:Int)=1∨Ei (k:Int)=2:=(show ∀k∈List.range 12,Ei (k:Int)=0∨Ei (k:Int)=1∨Ei (k:Int)=2 by decide) k hkr
     rcases this with e|e|e<;>rw[e]at h3 h4⊢
     · rfl
     · simpa[Kn]using h3
     simpa[Kn]using h4
   rw[hpre,hrest]
   show(true&&(!(false|| !true)&&_))=true
   have e:(if Ey f.Kind then{ g with Text:=ByteArray.empty }else g)=Ug f.Kind f.Version f.Day f.Gone:=by
     have ht:Ey f.Kind=false→g.Text=ByteArray.empty:=fun ht=>by
       rw[g5]
       rw[ek,t3]at ht
       rw[ek,ht,dV]at p6
       exact U6 (by simpa using p6)
     cases ht0:Ey f.Kind with
     |true=>exact Qw g1 g2 g3 g4 rfl (fun o ho=>by
         show Fk g o=_
         rw[g6 o ho]
         have:Fk (Ug f.Kind f.Version f.Day f.Gone) o=0:=by rcases Dh ho with e|e|e|e|e|e|e|e|e|e|e|e|e|e<;>rw[e]<;>rfl
         rw[this]
         split
         · rfl
         rename_i hno;exact hz o ho hno)
     |false=>exact Qw g1 g2 g3 g4 (ht ht0) (fun o ho=>by
         show Fk g o=_
         rw[g6 o ho]
         have:Fk (Ug f.Kind f.Version f.Day f.Gone) o=0:=by rcases Dh ho with e|e|e|e|e|e|e|e|e|e|e|e|e|e<;>rw[e]<;>rfl
         rw[this]
         split
         · rfl
         rename_i hno;exact hz o ho hno)
   dsimp only
   rw[e]
   simp[J7]
 intro h
 have hk:=Dq h
 obtain⟨k,ek⟩:∃k:Nat,f.Kind=(k:Int):=⟨f.Kind.toNat,by omega⟩
 have hkr:k∈List.range 12:=bl.2 oQ
 obtain⟨t1,t2,t3,t4,t5⟩:=CN k hkr
 have hp:=Lg h
 obtain⟨v1,_,v3⟩:=It h
 have hl:=oT h rfl (by rw[ek];exact t4)
 have hpre:Vs f=false:=by
   unfold preB at hp
   simp only[df]at hp
   unfold Vs
   rw[hp.1.1.1.1,hp.1.1.1.2,hp.1.1.2,hp.1.2,hp.2,dV]
   have e1:decide (((F7 f.Kind).length:Int)=0)=false:=bg (by rw[ek];have:=t5 (by omega);omega)
   rw[e1]
   cases e5:decide (f.Kind=5)with
   |true=>rfl
   |false=>
     have:=v3 (by rw[ek,t3,←ek];exact e5)
     rw[this];rfl
 have hb:∀j,j<14→Pw f j=false:=fun j hj=>by
   unfold Pw
   rw[Vu hj]
   cases hh:Vr (F7 f.Kind) j with
   |true=>
     rw[ek]at hh
     obtain⟨x,hx,ex⟩:=CM k hkr j (bl.2 hj) hh
     obtain⟨_,u2⟩:=vI k hkr j (bl.2 hj) x hx ex
     have:=hl x (ek▸hx)
     rw[ek,u2,←ex]
     simp;omega
   |false=>
     have:=v1 (oV j) ((show ∀j∈List.range 14,E6 (oV j)=true by decide) j (bl.2 hj)) (fun x hx e=>by
       have:=(vI k hkr j (bl.2 hj) x (ek▸hx) e).1
       rw[←ek,hh]at this;cases this)
     rw[this];simp
 rw[←Vt hpre hb]
 have hrest:Kn (Ei f.Kind) f=true:=by
   unfold Bw at h
   simp only[aw]at h
   have:=h.2.1
   simp only[gn,df]at this
   simpa using this.2
 unfold vG
 rw[ek]at hrest⊢
 rw[t1,t2]
 have:Ei (k:Int)=0∨Ei (k:Int)=1∨Ei (k:Int)=2:=(show ∀k∈List.range 12,Ei (k:Int)=0∨Ei (k:Int)=1∨Ei (k:Int)=2 by decide) k hkr
 rcases this with e|e|e<;>rw[e]at hrest⊢
 · rfl
 · simpa[Kn]using hrest
 simpa[Kn]using hrest
section
variable {P:Program}{n:Nat}{ds:List Deferred}{l:Env}{w:World}{d:Option Tmp}{ty:TypeId}{ps:String}{af:Array Edge}{g:Option (Nat×Bool)}
theorem iR{T T':TypeId}{x y:Operand}{a b:ByteArray}(hx:Val l x (.string a))(hy:Val l y (.string b)):PEv P n ds l w ⟨d,.binOp .gtr T x y T',ty,ps,af,g⟩ (.bool (!(Op.bytesLess a.toList b.toList||(a.toList==b.toList)))):=fun ac w' ha _=>by
 refine Cp ?_
 rw[ha.ev hx,ha.ev hy,Sem.run_bind]
 have:(eqGuard .gtr T x y (.string a) (.string b)).run P w'=.ok () w':=by unfold eqGuard;rfl
 rw[this]
 simp[binOp,Op.stringOp]
end
theorem dW:∀(a b:List UInt8),(!(Op.bytesLess a b||(a==b)))=decide (0<Go.Lib.compareBytes a b)
 |[],[]=>rfl
 |[],_::_=>rfl
 |_::_,[]=>rfl
 |x::a,y::b=>by
   have ih:=dW a b
   unfold Op.bytesLess Go.Lib.compareBytes
   by_cases h1:x<y
   · simp[h1]
   by_cases h2:y<x
   · have hne:x≠y:=fun e=>by subst e;exact h1 h2
     simp[h1,h2,hne]
   have e:x=y:=by
     have h1':¬x.toNat<y.toNat:=h1
     have h2':¬y.toNat<x.toNat:=h2
     exact UInt8.toNat_inj.1 oQ
   subst e
   simp only[h1,if_false,decide_false,fo]
   rw[←ih]
   simp
theorem Gw(a b:List UInt8):(⟨a.toArray⟩:ByteArray)++(⟨b.toArray⟩:ByteArray)=⟨(a++b).toArray⟩:=by rw[Rv]
theorem AQ{a b:Fact}(h:Bm a≠Bm b):Dz a b=false:=by simp[Dz,h]
theorem vJ{k:Int}(h:1≤k∧k≤11)(f:Fact):(S7 k).map (F6 f)=Fe (Fo k) f:=by
 have:k=1∨k=2∨k=3∨k=4∨k=5∨k=6∨k=7∨k=8∨k=9∨k=10∨k=11:=by omega
 rcases this with rfl|rfl|rfl|rfl|rfl|rfl|rfl|rfl|rfl|rfl|rfl<;>rfl
theorem dX{k:Int}(h:1≤k∧k≤11)(f:Fact):(F7 k).map (F6 f)=Fe (fieldsOf k) f:=by
 have:k=1∨k=2∨k=3∨k=4∨k=5∨k=6∨k=7∨k=8∨k=9∨k=10∨k=11:=by omega
 rcases this with rfl|rfl|rfl|rfl|rfl|rfl|rfl|rfl|rfl|rfl|rfl<;>rfl
theorem Zz(k:Int):(S7 k).length≤2:=by unfold S7;(repeat' split)<;>simp
theorem oX{a b:Fact}(ha:Bw a=true)(hb:Bw b=true)(hk:Bm a=Bm b):(decide (b.Version<a.Version)||(decide (a.Version=b.Version)&&(!(Op.bytesLess (⟨(Ib a).toArray⟩:ByteArray).toList (⟨(Ib b).toArray⟩:ByteArray).toList||((⟨(Ib a).toArray⟩:ByteArray).toList==(⟨(Ib b).toArray⟩:ByteArray).toList)))))=Dz a b:=by
 rw[dW,Fs,Fs]
 unfold Dz Ib
 rw[ha,hb,hk]
 simp
end Go.Wx
namespace Go.Proofs.YtbcnnkfopoiifaaGreatDoor
open Go.Proofs.Tryz
open Go.Wx Go.RowKit
theorem oY(v:Go.Value)(ks:List Int)(w:World)(h:OwnS w 0 3 1 Cm v ks)(hlen:ks.length<4611686018427387904):Ret prog 41 #[v] w fun r w'=>r=.tuple #[]∧Stp (A8 3 1 Cm v ks) (A8 3 1 Cm v (ks.mergeSort fun x y=>decide (x≤y))) w w':=by
 have h0:=h
 obtain⟨h1,⟨rfl,hn⟩|⟨g,cap,cur,rfl,hg,hb,h2,h3,h4,h5⟩⟩:=h
 · have hks:ks=[]:=dx hn
   subst hks
   refine Calls.mono (Tryz.slices_Sort_int_none none 0 w) ?_
   rintro e' w' ⟨rfl,rfl⟩
   exact⟨_,rfl,rfl,Fr.refl _ _,show OwnS w' 0 3 1 Cm (.slice none 0 0) (List.mergeSort [] _)from by simpa using h0,fun _ h=>.inl h⟩
 rw[dR]at h5
 have hl:g<w.heap.size:=lt_of_block hb
 refine Calls.mono (Tryz.slices_Sort_int g 0 cap ks w (Go.holds_of_blockI hb (by simpa using h5)) hl hlen) ?_
 rintro e' w' ⟨rfl,n,os,rfl⟩
 have hg2:=Go.grownBy_sortedI (w:=w) (g:=g) (n:=n) (os:=os) (ks.mergeSort fun x y=>decide (x≤y)).toArray
 have ho:=Go.ownsRow_sortedI (w:=w) (n:=n) (os:=os) (ss:=ks) (ts:=ks.mergeSort fun x y=>decide (x≤y)) (by simp) hg hb h2 h3 h4
 refine⟨_,rfl,rfl,⟨hg2.os,hg2.tape,hg2.output,hg2.size,fun i hi hn=>hg2.block i hi (fun e=>hn (by cases e;rfl))⟩,?_,fun _ h=>.inl h⟩
 show World.ownsRow _ _ _ _ _ _ _
 rw[dR,List.length_mergeSort]
 exact ho
theorem iS(ad:Option Addr)(cp:Nat)(l:List Int)(w:World)(hE0:Els w ad 1 Cm l)(hl:l.length≤1000000000):Ret prog 44 #[.slice ad l.length cp] w fun r w'=>OwnS w' w.heap.size 3 1 Cm r l∧Up w w':=by
 obtain⟨w0,rfl,hS⟩:=W0 w
 refine cT 8 func44 rfl (Af (J (Ar (Af (Ac rfl (I (.kP lg (.t rfl)) (Ai (CW.b rfl (fun h4=>?_) (fun h4=>?_)))))))))
 ·have hnil:l=[]:=by cases l with|nil=>rfl|cons x r=>(obtain⟨B,o,e,_⟩:=hE0 0 x rfl;rw[e]at h4;cases h4)
  refine Af (J (Ai (Aj (Ah (KW.q ?_)))))
  (subst hnil;exact⟨OwnS.nil _ _ _ _ _,hS.Cj⟩)
 refine Ak (Ab (Af (Ao (.buildSlice (xs:=([]:List Int)) (enc:=Cm) (mk:=vi) lg lf ls rfl cQ (fun _=>rfl) (fun _=>rfl) .nil rfl) rfl ?_)))
 intro v5 w1 hN5
 obtain⟨uw1,B5,rfl,hO5⟩:=T0 hN5 (av _)
 replace hS:=hS.add uw1 (A':=A8 3 1 Cm (.slice (some ⟨B5,0,none⟩) 0 0) ([]:List Int)) (hO5.mono (ao _)) (fun i h=>hO5.base i h)
 refine Ac rfl (Ao (.Cu (enc:=Cm) (bytes:=8) (i:=Tryz.t3) lg kQ rfl rfl rfl rfl cQ (fun _=>rfl) My (.t rfl) (.t rfl) (hS.own 0 rfl) (Az (Els.up hE0 hS.Cj)) (by simp[maxLen];omega) (by simp;omega)) rfl ?_)
 intro v7 w2 Gw2
 replace hS:=hS.E5 0 rfl Gw2
 refine LW.A rfl (Ai (Aj (KW.q ?_)))
 exact⟨(hS.own 0 rfl).I1 (fun i h=>(hS.foot 0 rfl i h).resolve_left (fun h=>h)),hS.Cj⟩
theorem Sd(E bf bd:Nat)(bc:Array Go.Value)(nw:Int)(kb:Base)(w:World)(hbc:bc.size=11)(hE:Blk w E (EC bf bc bd nw) 62)(hC:BaseC w bc kb)(hlP:kb.Processes.length≤100)(hlM:kb.Measures.length≤100)(hlR:kb.Resets.length≤100)(hlT:kb.Targets.length≤100)(hV:∀f∈kb.Processes,F8 f.Value):Ret prog 16 #[.pointer (some ⟨E,0,none⟩)] w fun r w'=>OwnS w' w.heap.size 3 1 Cm r (Kc kb)∧Up w w':=by
 obtain⟨w0,rfl,hS⟩:=W0 w
 refine cT 46 func16 rfl (Af (J (Ar (Af (Ac rfl (I (.fa (Gl m9 (.t rfl)) (rfl)) (Ai (CW.f rfl (Ak (Ab (Al (Al ?_))))))))))))
 obtain⟨_,hvp,adp,cpp,rfl,hEp0⟩:=BaseC.at_ hC (j:=0) cQ
 replace hvp:bc[0]?=some (.slice adp kb.Processes.length cpp):=hvp
 have hEp:Els _ adp 19 Fact.cells kb.Processes:=hEp0
 replace hS:=hS.mD (OwnS.nil _ 0 3 1 Cm)
 refine Aa (Ac rfl (I (.nc rfl) (I (.fB 1 rfl) (I (.fB 0 rfl) (I (.lb rfl (tL (hE.up hS.Cj) hvp)) (I (.Df k6 (.t rfl)) (I (.move (.const _)) (Ai (Ap (A9 (σ:=Nat×Go.Value) (fun s w=>(s.1≤kb.Processes.length)∧(Wx.Sep no w0 w [A8 3 1 Cm s.2 (Ic kb (kb.Processes.take s.1))])) (fun s=>[(16,.eq (vi (s.1:Int))),(2,.eq (s.2))]) ([(0,.eq _),(14,.eq _),(15,.eq _)]) (fun s=>kb.Processes.length-s.1) (0,.slice none 0 0) ?_ tQ ?_))))))))))
 ·exact⟨ao _,hS⟩
 rintro⟨i,v⟩ w1 ⟨hi,hS⟩
 change CW _ _ _ _ _ _ _ ([(16,.eq (vi (i:Int))),(2,.eq (v))]++_) _
 refine Al ?_
 skip
 refine Aa (I (.l2 rfl rfl) (Ar (CW.b rfl (fun h17=>?_) (fun h17=>?_))))
 ·replace h17:=dQ h17
  refine Ak (Ab (Al (Ap (Al ?_))))
  have hil:i<kb.Processes.length:=by omega
  obtain⟨x,hx⟩:∃x,kb.Processes[i]?=some x:=⟨_,b_ hil⟩
  obtain⟨Bx,ox,ax,hcx⟩:=(Els.up hEp hS.Cj) i x hx
  have hll:=Rj kb kb.Processes i
  refine Aa (I (.Ay k6 k7 (j:=i) (.t rfl) (.t rfl) oQ ax) (I (.lc rfl (hcx)) (Ao (.Bi k_) rfl ?_)))
  rintro _ w2 ⟨B4,rfl,MB4⟩
  refine Bh (.A5 k7 rfl (.t rfl) (.t rfl) (Fact.one _) MB4.blk rfl) ?_
  intro w3 LB4
  have NB4:=MB4.set LB4
  replace hS:=hS.Bn NB4
  refine Ar (Nv 15 11 12 8 5 28 (DP.cells ⟨Ik,none,0⟩) [.eq (.pointer (some ⟨E,0,none⟩)),.eq (.pointer (some ⟨E,0,none⟩)),.eq (.pointer (some ⟨E,1,none⟩)),.eq (.agg bc),.eq (.pointer (some ⟨B4,1,none⟩)),.eq (vi x.ID),.pred (fun v _=>∃ad cp,v=.tuple #[.agg (DP.cells ⟨(F9 kb x.ID).1,ad,cp⟩),.bool (F9 kb x.ID).2.1,vi (F9 kb x.ID).2.2]),.pred (fun v _=>∃ad cp,v=.tuple #[.agg (DP.cells ⟨(F9 kb x.ID).1,ad,cp⟩),.bool (F9 kb x.ID).2.1,vi (F9 kb x.ID).2.2]),.pred (fun v _=>∃ad cp,v=.agg (DP.cells ⟨(F9 kb x.ID).1,ad,cp⟩)),.eq (.bool (F9 kb x.ID).2.1),.eq (vi (F9 kb x.ID).2.2),.pred fun v _=>∃B,v=.pointer (some ⟨B,0,none⟩),.eq undef,.eq (.bool (F9 kb x.ID).2.1),.eq (vi (F9 kb x.ID).2.2)] [6,7] l5 lr kQ rfl kQ kQ kQ kQ kQ kQ kQ rfl rfl ⟨_,_,_,rfl⟩ _ rfl ⟨_,_,_,rfl⟩ ⟨nn,nn,nn,nn,nn,nn,PhT.pred fun _ _ _ h _=>h,PhT.pred fun _ _ _ h _=>h,PhT.pred fun _ _ _ h _=>h,nn,nn,PhT.pred fun _ _ _ h _=>h,nn,nn,nn,trivial⟩ rfl (fun v W h=>let⟨ad,cp,e⟩:=h;⟨_,e,rfl,DP.one _⟩) (fun B W=>⟨B,rfl⟩) ?_ ?_)
  ·intro W hU0
   have hU:=(Up.drew w3).trans hU0
   have hSW:=hS.up hU
   have hEW:=hE.up hSW.Cj
   have hCW:=BaseC.up hC hSW.Cj
   refine aC (.inr ⟨rfl,TU.p (.mv rfl) rfl⟩) (aC (.inr ⟨rfl,TU.p (.nc rfl) rfl⟩) (aC (.inr ⟨rfl,TU.p (.fB 1 rfl) rfl⟩) (aC (.inr ⟨rfl,TU.p (.Ef l7 lw hbc (.t rfl) (Q9 hEW)) rfl⟩) (aC (.inr ⟨rfl,TU.p (.fB 1 rfl) rfl⟩) (aC (.inr ⟨rfl,TU.p (.lb rfl (hSW.b1.An rfl)) rfl⟩) (aC (.inr ⟨rfl,TU.c (eC (.u rfl rfl) (MF)) (cJ bc kb x.ID W hCW oQ oQ oQ oQ hV) (by rintro _ W1 ⟨v,rfl,⟨ad,cp,rfl,_⟩,u⟩;exact⟨u,ad,cp,rfl⟩)⟩) (aC (.inr ⟨rfl,TU.open (d:=27) rfl fun v hv=>TU.p (.mv rfl) hv⟩) (aC (.inr ⟨rfl,TU.open (d:=20) rfl fun v hv=>by obtain⟨ad,cp,rfl⟩:=hv;exact TU.p (.xt rfl rfl) ⟨ad,cp,rfl⟩⟩) (aC (.inr ⟨rfl,TU.open (d:=20) rfl fun v hv=>by obtain⟨ad,cp,rfl⟩:=hv;exact TU.p (.xt rfl rfl) rfl⟩) (aC (.inr ⟨rfl,TU.open (d:=20) rfl fun v hv=>by obtain⟨ad,cp,rfl⟩:=hv;exact TU.p (.xt rfl rfl) rfl⟩) (aC (.inl (.inl rfl)) (aC (.inl (.inr rfl)) (aC (.inr ⟨rfl,TU.p (.assign (.t rfl)) rfl⟩) (aC (.inr ⟨rfl,TU.p (.assign (.t rfl)) rfl⟩) ?_))))))))))))))
   exact allL.nil
  intro w4 B5 g hU0 zB5_ _ hg
  have hU:=(Up.drew w3).trans hU0
  have e6:g 6=.bool (F9 kb x.ID).2.1:=hg 13 _ 6 cQ rfl rfl
  have e7:g 7=vi (F9 kb x.ID).2.2:=hg 14 _ 7 cQ rfl rfl
  change LW _ _ _ _ _ _ _ _ ((5,_)::(6,.eq (g 6))::(7,.eq (g 7))::_) _
  rw[e6,e7]
  replace hS:=hS.up hU
  refine Ar (Aa (Ac rfl (I (.eql (.t rfl) (.const _)) (Ac rfl (Dk rfl rfl (LW.gr rfl (fun hc=>PEv.not vQ) (I (.pa rfl (fun hp=>(by exact .cond rfl (by simp_all)))) (Ai (CW.b rfl (fun h36=>?_) (fun h36=>?_))))))))))
  ·replace h36:=dQ h36
   refine Aa (Ac rfl (I (.fB 1 rfl) (I (.lb rfl (hS.b1.An rfl)) (Ao (.buildSlice (xs:=[x.ID]) (enc:=Cm) (mk:=vi) lg lf ls rfl cQ (fun _=>rfl) (fun _=>rfl) (.cu rfl) rfl) rfl ?_))))
   rintro _ w5 ⟨B40,cB40,rfl,NB40,yB40,xB40⟩
   replace hS:=hS.up NB40.up
   have hE40:=xB40
   refine Ao (.Cu (enc:=Cm) (bytes:=8) (i:=Tryz.t3) lg kQ rfl rfl rfl rfl cQ (fun _=>rfl) My (.t rfl) (.t rfl) (hS.own 0 rfl) (Az hE40) (by simp[maxLen];omega) (by simp;omega)) rfl ?_
   intro v41 w6 Gw6
   replace hS:=hS.E5 0 rfl Gw6
   refine LW.A rfl (LW.nil (Ae (Ab (Aa (I (.ic rfl oQ) (Ac rfl (LW.nil (Aq ?_))))))))
   exact⟨(i+1,v41),⟨by show i+1≤_;omega,by rw[Nj hx (by simpa[Mj]using h36)];exact hS.take 1⟩,tQ,by show kb.Processes.length-(i+1)<kb.Processes.length-i;omega⟩
  replace h36:=dQ h36
  refine Ak (Ae (Ab (Aa (I (.ic rfl oQ) (Ac rfl (LW.nil (Aq ?_)))))))
  exact⟨(i+1,v),⟨by show i+1≤_;omega,by rw[Ri hx (by simpa[Mj]using h36)];exact hS.take 1⟩,tQ,by show kb.Processes.length-(i+1)<kb.Processes.length-i;omega⟩
 replace h17:=dQ h17
 refine A7 (Ad (Ad (Au (Ab (Al ?_)))))
 have hie:i=kb.Processes.length:=by omega
 rw[hie,br]at hS
 refine Aa (Ac rfl (A3 (eC (.o rfl) (MG)) rfl (oY _ _ _ (hS.own 0 rfl) (by have:=Rj kb kb.Processes kb.Processes.length;rw[br]at this;omega)) ?_))
 rintro _ w7 ⟨rfl,uw7⟩
 replace hS:=hS.E5 0 rfl uw7
 refine Ar (Aa (Ac rfl (LW.A rfl (Ai (Aj (KW.q ?_))))))
 exact⟨(hS.own 0 rfl).I1 (fun i h=>(hS.foot 0 rfl i h).resolve_left (fun h=>h)),hS.Cj⟩
theorem LG{D:List DE}{kb:Base}{bd:Nat}{w:World}(hM:Mk.IMap Ca w bd (D.map DE.kv))(hDD:(Mn D).holds w)(hk:∀g,g∈D.map (·.g)↔∃p∈kb.Processes,H6 p=g)(hd:∀e∈D,dk kb e)(t c r:Int)(ho:F8 t∧F8 c∧F8 r):∃ad cp L,(∀(n:Nat)(ds:List Deferred)(l:Env)(d:Option Tmp)(ty:TypeId)(ps:String)(af:Array Edge)(g:Option (Nat×Bool))(mo x:Operand),Val l mo (.map (some bd))→Val l x (.agg (Grp.mk t c r).cells)→PEv prog n ds l w ⟨d,.lookup 60 mo x false,ty,ps,af,g⟩ (.slice ad (List.length (α:=DP) L) cp))∧Els w ad 6 DP.cells L∧(∀p∈L,Sl w p.uv 1 Cm p.dec.uses)∧L.map DP.dec=Gt kb t c r:=by
 by_cases h:(Grp.mk t c r)∈D.map (·.g)
 · obtain⟨e,he,hg⟩:=aq.1 h
   have hA:(eN e).holds w:=hDD.1 _ (aq.2 ⟨e,he,rfl⟩)
   have hO:OwnS w 0 57 6 DP.cells e.v e.L:=hA.1 _ bp
   have hU:(E8 (Fb 3 e.L)).holds w:=hA.1 _ (bw _ bp)
   obtain⟨ad,cp,hv,hE⟩:=hO.sl (fun _=>rfl)
   refine⟨ad,cp,e.L,fun n ds l d ty ps af g mo x hm hx=>?_,hE,Js hU,?_⟩
   · exact Mk.PEv.Ek (Q:=Ca) (ok:=false) (v:=.slice ad e.L.length cp) mr La (show Ca.ok (Grp.mk t c r)from ho) hm hx hM (aq.2 ⟨e,he,by unfold DE.kv;rw[hg,hv]⟩)
   have:=hd e he
   unfold dk at this
   rw[hg]at this
   exact this
 refine⟨none,0,[],fun n ds l d ty ps af g mo x hm hx=>?_,fun i x hx=>(by simp at hx),fun _ h=>(by cases h),?_⟩
 · exact Mk.PEv.Ha (Q:=Ca) (ok:=false) mr La (show Ca.ok (Grp.mk t c r)from ho) zeroValue47 hm hx hM (by rw[Rb];exact h)
 rcases uU (b:=kb) (t:=t) (c:=c) (r:=r)with h1|h1
 · exact absurd ((hk _).2 h1) h
 rw[h1];rfl
theorem Yg(E bf bd:Nat)(bc:Array Go.Value)(nw:Int)(D:List DE)(kb:Base)(t c r:Int)(w:World)(hbc:bc.size=11)(ho:F8 t∧F8 c∧F8 r)(hlP:kb.Processes.length≤100)(hk:∀g,g∈D.map (·.g)↔∃p∈kb.Processes,H6 p=g)(hd:∀e∈D,dk kb e)(hE:Blk w E (EC bf bc bd nw) 62)(hM:Mk.IMap Ca w bd (D.map DE.kv))(hDD:(Mn D).holds w):Ret prog 20 #[.pointer (some ⟨E,0,none⟩),vi t,vi c,vi r] w fun r0 w'=>∃v L,r0=v∧L.map DP.dec=Gt kb t c r∧Wx.Sep no w w' [A8 57 6 DP.cells v L,E8 (Fb 3 L)]:=by
 obtain⟨w0,rfl,hS⟩:=W0 w
 refine cT 37 func20 rfl (Af (J (Ar (Af (Ac rfl (I (.fa (Gl m9 (.t rfl)) (rfl)) (Ai (CW.f rfl (Ak (Ab (Al (Al ?_))))))))))))
 obtain⟨ad0,cp0,Ls,hlk,hEl,hUs,hdec⟩:=LG (Mk.IMap.up hM hS.Cj) ((Mn D).keep _ _ hDD (fun _ _ hl=>hS.Cj.block hl) hS.Cj.size) hk hd t c r ho
 have hLn:Ls.length≤100:=by have h1:=Q4 kb t c r;have h2:=Iv kb t c r;rw[←hdec,cd]at h1;omega
 have huse:∀x∈Ls,x.dec.uses.length≤1000000000:=fun x hx=>by have h1:=Xx kb t c r x.dec (by rw[←hdec];exact aq.2 ⟨x,hx,rfl⟩);have h2:=Iv kb t c r;omega
 replace hS:=hS.add (Up.refl _) (A':=A8 57 6 DP.cells (.slice none 0 0) ([]:List DP)) (OwnS.nil _ _ _ _ _) (by intro i h;cases h)
 replace hS:=hS.add (Up.refl _) (A':=E8 (Fb 3 [])) ⟨by simp[Fb],by simp[Fb]⟩ (by rintro i ⟨A,hA,_⟩;simp[Fb]at hA)
 refine Aa (Ac rfl (I (.nc rfl) (I (.fB 12 rfl) (I (.lb rfl ((hE.up hS.Cj).cell (Pu hbc))) (Ac rfl (Ac rfl (Ac rfl (I (.build (cs:=(Grp.mk t c r).cells) mq m6 Ov (.ct rfl (.ct rfl (.cu rfl))) rfl) (I (hlk _ _ _ _ _ _ _ _ _ _ (.t rfl) (.t rfl)) (I (.Df lq (.t rfl)) (I (.move (.const _)) (Ai (Ap (A9 (σ:=Nat×Go.Value×List DP) (fun s w=>(s.1≤Ls.length)∧(s.2.2.map DP.dec=(Ls.take s.1).map DP.dec)∧(Wx.Sep no w0 w [A8 57 6 DP.cells s.2.1 s.2.2,E8 (Fb 3 s.2.2)])) (fun s=>[(23,.eq (vi (s.1:Int))),(8,.eq (s.2.1))]) ([(21,.eq _),(22,.eq _)]) (fun s=>Ls.length-s.1) (0,.slice none 0 0,[]) ?_ tQ ?_))))))))))))))
 ·exact⟨ao _,rfl,hS⟩
 rintro⟨i,v,L⟩ w1 ⟨hi,hL,hS⟩
 dsimp only at hi hL hS
 have hLl:L.length≤i:=by have h:=a_ List.length hL;rw[cd,cd,bu]at h;omega
 change CW _ _ _ _ _ _ _ ([(23,.eq (vi (i:Int))),(8,.eq (v))]++_) _
 refine Af (I (.l2 rfl rfl) (Ar (CW.b rfl (fun h24=>?_) (fun h24=>?_))))
 ·replace h24:=dQ h24
  refine Ak (Ab (Al (Ap (Al ?_))))
  have hil:i<Ls.length:=by omega
  obtain⟨x,hx⟩:∃x,Ls[i]?=some x:=⟨_,b_ hil⟩
  obtain⟨Bx,ox,ax,hcx⟩:=(Els.up hEl hS.Cj) i x hx
  have hxm:=am hx
  refine Aa (I (.Ay lq lr (j:=i) (.t rfl) (.t rfl) oQ ax) (I (.lc rfl (hcx)) (Ao (.Bi l5) rfl ?_)))
  rintro _ w2 ⟨B10,rfl,MB10⟩
  refine Bh (.A5 lr rfl (.t rfl) (.t rfl) (DP.one _) MB10.blk rfl) ?_
  intro w3 LB10
  have NB10:=MB10.set LB10
  replace hS:=hS.Bn NB10
  refine Ar (Aa (I (.fB 5 rfl) (I (.lb rfl (hS.b2.An rfl)) ?_)))
  have huL:x.dec.uses.length≤1000000000:=huse x hxm
  refine A3 (eC (.o rfl) (MJ)) rfl (iS x.ad x.cp x.dec.uses _ (Els.up (uS (hUs x hxm)) hS.Cj) huL) ?_
  rintro v29 w4 ⟨hO29,uw4⟩
  replace hS:=hS.add uw4 (A':=A8 3 1 Cm v29 x.dec.uses) (hO29.mono (ao _)) (fun i h=>(hO29.base i h))
  obtain⟨ad29,cp29,rfl,_⟩:=hO29.sl (fun _=>rfl)
  refine I (.fB 5 rfl) (Bh (.store sizeOf23 (.t rfl) (.t rfl) rfl hS.b2 bQ) ?_)
  intro w5 Nw5
  replace hS:=hS.Co 2 rfl (show Set_ _ w5 _ (DP.cells (⟨x.dec,ad29,cp29⟩:DP)) _ from Nw5)
  refine Ai (Aa (Ac rfl (I (.lc rfl (hS.b2.agg)) (Ao (.buildSlice (xs:=[(⟨x.dec,ad29,cp29⟩:DP)]) (enc:=DP.cells) (mk:=fun p=>.agg p.cells) lq lr l5 rfl cQ (fun _=>rfl) (fun _=>rfl) (.cu rfl) rfl) rfl ?_))))
  rintro _ w6 ⟨B33,cB33,rfl,NB33,yB33,xB33⟩
  replace hS:=hS.up NB33.up
  have hE33:=xB33
  refine Ao (.Cu (enc:=DP.cells) (bytes:=64) (i:=Tryz.t57) lq kQ rfl rfl rfl rfl cQ (fun _=>rfl) DP.one (.t rfl) (.t rfl) (hS.own 0 rfl) (Az hE33) (by simp[maxLen];omega) (by simp;omega)) rfl ?_
  intro v34 w7 Gw7
  replace hS:=hS.E5 0 rfl Gw7
  refine LW.A rfl (LW.nil (Ae (Ab ?_)))
  have h9:=R5 (Bs:=[_]) (hS.sub (.cons_cons _ (.cons_cons _ (.cons _ (.cons_cons _ .slnil)))))
  replace h9:Wx.Sep no w0 w7 ([_]++[E8 (Fb 3 L++[A8 3 1 Cm (DP.uv (⟨x.dec,ad29,cp29⟩:DP)) (DP.dec (⟨x.dec,ad29,cp29⟩:DP)).uses])]):=h9
  rw[Pq]at h9
  refine Aa (I (.ic rfl oQ) (Ac rfl (LW.nil (Aq ?_))))
  exact⟨(i+1,v34,L++[(⟨x.dec,ad29,cp29⟩:DP)]),⟨by show i+1≤_;omega,by rw[cq,hL,cn,hx,cq];rfl,h9⟩,tQ,by show Ls.length-(i+1)<Ls.length-i;omega⟩
 replace h24:=dQ h24
 refine A7 (Ad (Ad (Au (Ab (Af (Ac rfl (LW.A rfl (Ai (Aj (KW.q ?_))))))))))
 have hie:i=Ls.length:=by omega
 rw[hie,br]at hL
 exact⟨_,L,rfl,hL.trans hdec,hS⟩
theorem Rk(v1 v2:Value)(xs ys:List Int)(w:World)(h1:Sl w v1 1 Cm xs)(h2:Sl w v2 1 Cm ys)(hx0:xs.length≤1000000000)(hy0:ys.length≤1000000000):Ret prog 15 #[v1,v2] w fun r w'=>r=.bool (decide (xs=ys))∧Up w w':=by
 have hW:=Up.refl w
 obtain⟨w0,rfl,_⟩:=W0 w
 obtain⟨ad,cp,rfl,hE1⟩:=h1
 obtain⟨ad',cp',rfl,hE2⟩:=h2
 refine cT 26 func15 rfl (Af (J (Ar (Af (Ac rfl (I (.Df lg (.t rfl)) (Ac rfl (I (.Df lg (.t rfl)) (I (.neq (.t rfl) (.t rfl)) (Ai (CW.b rfl (fun h10=>?_) (fun h10=>?_))))))))))))
 ·replace h10:=dQ h10
  have hr:decide (xs=ys)=false:=bg (fun h=>by subst h;simp at h10)
  refine Af (J (Ai (Aj (Ah (KW.q ?_)))))
  exact⟨by rw[hr],hW⟩
 replace h10:=dQ h10
 have hlen:xs.length=ys.length:=Int.ofNat.inj (show Int.ofNat _=Int.ofNat _ from(by simpa using h10:(xs.length:Int)=ys.length))
 refine Ak (Ab (Al (Af (J (Ai (Ap (CW.loop (σ:=Nat) (fun s w=>(s≤xs.length∧xs.take s=ys.take s)∧Els w ad 1 Cm xs∧Els w ad' 1 Cm ys∧Up w0 w) (fun s=>[(0,.eq (.slice ad xs.length cp)),(1,.eq (.slice ad' ys.length cp')),(5,.eq (vi (s:Int)))]) (fun s=>xs.length-s) 0 ?_ ?_ ?_)))))))
 ·exact⟨⟨ao _,rfl⟩,hE1,hE2,hW⟩
 ·exact tQ
 rintro k w1 ⟨⟨hk,hT⟩,hE1,hE2,hW⟩
 refine Al (Af (Ac rfl (Ac rfl (I (.Df lg (.t rfl)) (I (.l2 rfl rfl) (Ai (CW.b rfl (fun h14=>?_) (fun h14=>?_))))))))
 ·replace h14:=dQ h14
  refine Ak (Ab (Al (Ap (Al ?_))))
  obtain⟨x,hx⟩:=Av (xs:=xs) (i:=k) oQ
  obtain⟨y,hy⟩:=Av (xs:=ys) (i:=k) oQ
  obtain⟨B,o,had,hcell⟩:=hE1 k x hx
  obtain⟨B',o',had',hcell'⟩:=hE2 k y hy
  refine Cg kQ kQ rfl rfl (Am (.mv rfl) (Am (.mv rfl) (Am (.Ay lg lf (.t rfl) (.t rfl) oQ had) (Am (.lb rfl (hcell.nth (j:=0) rfl)) (Am (.mv rfl) (Am (.mv rfl) (Am (.Ay lg lf (.t rfl) (.t rfl) oQ had') (Am (.lb rfl (hcell'.nth (j:=0) rfl)) (Am (.neq (.t rfl) (.t rfl)) (HW.nil ?_))))))))))
  intro w2 uw2
  replace hE1:=hE1.up uw2
  replace hE2:=hE2.up uw2
  replace hW:=hW.up uw2
  refine Ab (CW.b rfl (fun h25=>?_) (fun h25=>?_))
  ·replace h25:=dQ h25
   have hr:decide (xs=ys)=false:=bg (uV hx hy (by simpa using h25))
   refine Af (J (Ai (Aj (Aw (Ah (Ah (Aw (Ah (KW.q ?_)))))))))
   exact⟨by rw[hr],hW⟩
  replace h25:=dQ h25
  refine Ak (Ae (Ab (Aa (Ac rfl (I (.ic rfl oQ) (LW.A rfl (LW.nil (Aq ?_))))))))
  exact⟨k+1,⟨⟨by omega,Zv hT hx hy (by simpa using h25)⟩,hE1,hE2,hW⟩,tQ,by omega⟩
 replace h14:=dQ h14
 have hr:decide (xs=ys)=true:=a8 (by have:=hT;rw[show k=xs.length by omega,br,hlen,br]at this;exact this)
 refine A7 (Ad (Ad (Au (Ab (Af (J (Ai (Aj (KW.q ?_)))))))))
 exact⟨by rw[hr],hW⟩
theorem Ml(c n:Int)(w:World)(hn:n≠0):Ret prog 18 #[vi c,vi n] w fun r w'=>r=vi (A6 c n)∧Up w w':=by
 have hW:=Up.refl w
 refine cT 13 func18 rfl (Af (J (Ar (Af (Ac rfl (I (.lss (.t rfl) (.const _)) (Ai (CW.b rfl (fun h6=>?_) (fun h6=>?_)))))))))
 ·replace h6:=dQ h6
  refine Aa (Ac rfl (I (.Gk (.t rfl) (.const _)) (I (.neg lh (.t rfl)) (LW.A rfl (Ar (Aa (Ac rfl (Ac rfl (I (.rem (.t rfl) (.t rfl) oQ) (LW.A rfl (Ai (Aj (KW.q ?_)))))))))))))
  exact⟨by(rw[A6,ak h6]),hW⟩
 replace h6:=dQ h6
 refine Ak (Ab (Af (Ac rfl (Ac rfl (I (.rem (.t rfl) (.t rfl) oQ) (LW.A rfl (Ai (Aj (KW.q ?_)))))))))
 exact⟨by(rw[A6,ae (by omega)]),hW⟩
theorem Rl(k:Int)(w:World):Ret prog 22 #[vi k] w fun r w'=>r=.agg (O1 k).cells∧Up w w':=by
 obtain⟨w0,rfl,hS⟩:=W0 w
 refine cT 5 func22 rfl (Af (Ao (.Bi k_) rfl ?_))
 rintro _ w1 ⟨B2,rfl,NB2⟩
 replace hS:=hS.Bn NB2
 refine Ar (Aa (Ac rfl (I (.build (cs:=(O1 k).cells) me k_ Fg (.cons (.const _) (.cons (.const _) (.ct rfl (.cons (.const _) .nil)))) kQ) (Bh (.A5 k7 rfl (.t rfl) (.t rfl) (Fact.one _) hS.b0 rfl) ?_))))
 intro w2 Nw2
 replace hS:=hS.Co 0 rfl Nw2
 refine Ai (Aj (Dy rfl rfl m2 k7 rfl (hS.b0.agg) ⟨_,rfl,?_⟩))
 exact⟨rfl,hS.Cj⟩
theorem Se(a b c:Int)(w:World):Ret prog 23 #[vi a,vi b,vi c] w fun r w'=>r=.agg (Ky a b c).cells∧Up w w':=by
 obtain⟨w0,rfl,hS⟩:=W0 w
 refine cT 12 func23 rfl (Af (Ao (.Bi k_) rfl ?_))
 rintro _ w1 ⟨B6,rfl,NB6⟩
 replace hS:=hS.Bn NB6
 refine Ar (Aa (Ac rfl (Ac rfl (Ac rfl (Ac rfl (I (.build (cs:=(Ky a b c).cells) me k_ Fg (.cons (.const _) (.cons (.const _) (.ct rfl (.cons (.const _) (.cons (.const _) (.cons (.const _) (.cons (.const _) (.ct rfl (.ct rfl (.cu rfl)))))))))) kQ) (Bh (.A5 k7 rfl (.t rfl) (.t rfl) (Fact.one _) hS.b0 rfl) ?_)))))))
 intro w2 Nw2
 replace hS:=hS.Co 0 rfl Nw2
 refine Ai (Aj (Dy rfl rfl m2 k7 rfl (hS.b0.agg) ⟨_,rfl,?_⟩))
 exact⟨rfl,hS.Cj⟩
theorem iT(E bf bd:Nat)(bc:Array Go.Value)(nw:Int)(D:List DE)(kb:Base)(t c r:Int)(w:World)(ho:F8 t∧F8 c∧F8 r)(hbc:bc.size=11)(hk:∀g,g∈D.map (·.g)↔∃p∈kb.Processes,H6 p=g)(hd:∀e∈D,dk kb e)(hlP:kb.Processes.length≤100)(hE:Blk w E (EC bf bc bd nw) 62)(hM:Mk.IMap Ca w bd (D.map DE.kv))(hDD:(Mn D).holds w):Ret prog 20 #[.pointer (some ⟨E,0,none⟩),vi t,vi c,vi r] w fun r0 w'=>DecsE w' r0 (Gt kb t c r)∧Up w w':=
 (Yg E bf bd bc nw D kb t c r w hbc ho hlP hk hd hE hM hDD).mono fun r0 w'⟨v,L,e,hm,hT⟩=>⟨by rw[e];exact cI hT hm,hT.Cj⟩
theorem oZ(ad as_:Option Addr)(cp cs:Nat)(l:List Fact)(zs:List Int)(w:World)(hcp:l.length≤cp)(hl:l.length≤100000)(hZ0:Els w as_ 1 Cm zs)(hz:∀z∈zs,F8 z):Ret prog 6 #[.slice ad l.length cp,.slice as_ zs.length cs] w fun r w'=>∃Ps:List Prt,OwnS w' w.heap.size 24 1 Prt.enc r Ps∧Fj Ps=l∧Ps.length≤8∧(∀p∈Ps,p.Sc ad cp l)∧Up w w':=by
 obtain⟨w0,rfl,hS⟩:=W0 w
 refine cT 47 func6 rfl (Af (J (Ar (Aa (J (Ar ?_))))))
 replace hS:=hS.mD (OwnS.nil _ 0 24 1 Prt.enc)
 refine Aa (J (Ar (Al ?_)))
 skip
 refine Aa (J (Ai (Ap (A9 (σ:=Nat×Nat×Go.Value×List Prt) (fun s w=>(s.1≤7)∧(s.2.1≤l.length)∧(Fj s.2.2.2=l.take s.2.1)∧(s.2.2.2.length≤s.1)∧(∀p∈s.2.2.2,p.Sc ad cp l)∧(Wx.Sep no w0 w [A8 24 1 Prt.enc s.2.2.1 (s.2.2.2)])) (fun s=>[(7,.eq (vi (s.1:Int))),(6,.eq (vi (s.2.1:Int))),(5,.eq (s.2.2.1))]) ([(0,.eq _),(1,.eq _),(4,.eq _)]) (fun s=>7-s.1) (0,0,.slice none 0 0,[]) ?_ tQ ?_))))
 ·exact⟨ao _,ao _,rfl,av _,fun _ h=>(by cases h),hS⟩
 rintro⟨i,at_,v,Ps⟩ w1 ⟨hi,hat,hcat,hPl,hPg,hS⟩
 dsimp only at hi hat hcat hPl hPg hS
 change CW _ _ _ _ _ _ _ ([(7,.eq (vi (i:Int))),(6,.eq (vi (at_:Int))),(5,.eq (v))]++_) _
 refine Al (Al ?_)
 skip
 refine Aa (Ac rfl (Ac rfl (I (.Df lg (.t rfl)) (I (.l2 rfl rfl) (Ac rfl (Dk rfl rfl (LW.gr rfl (fun hc=>PEv.lss vQ (.const _)) (I (.pa rfl (fun hp=>(by exact .cond rfl (by(rw[hp];rfl))))) (Ai (CW.b rfl (fun h16=>?_) (fun h16=>?_)))))))))))
 ·refine Ak (Ab (Al (Ap (Al ?_))))
  have hiz:i<zs.length∧i<7:=by have h5:=h16;simp at h5;omega
  obtain⟨z,hzx⟩:∃z,zs[i]?=some z:=⟨_,b_ hiz.1⟩
  obtain⟨Bz,oz,az,hcz⟩:=(Els.up hZ0 hS.Cj) i z hzx
  have hzi:=hz z (am hzx)
  refine Aa (Ac rfl (Ac rfl (I (.Ay lg lf (j:=i) (.t rfl) (.t rfl) oQ az) (I (.lb rfl (hcz.nth (j:=0) rfl)) (Ac rfl (I (.Df k6 (.t rfl)) (Ac rfl (I (.sub (.t rfl) (.t rfl) oQ oQ) (I (.add (.t rfl) (.const _) oQ oQ) (A3 (eC (.u rfl rfl) (wP)) rfl (Ml z _ _ oQ) ?_))))))))))
  rintro _ w2 ⟨rfl,uw2⟩
  replace hS:=hS.up uw2
  have hpr:=Po (c:=z) (n:=(l.length:Int)-(at_:Int)+1) hzi oQ
  obtain⟨m,hm⟩:∃m:Nat,A6 z ((l.length:Int)-(at_:Int)+1)=m:=⟨(A6 z ((l.length:Int)-(at_:Int)+1)).toNat,by omega⟩
  rw[hm]at hpr⊢
  have hml:at_+m≤l.length:=by omega
  have hgP:Prt.Sc ad cp l (⟨(if cp=at_ then ad else ad.map (·.add (at_*19))),cp-at_,(l.drop at_).take m⟩:Prt):=⟨at_,m,hml,rfl⟩
  refine LW.A rfl (Ar (Aa (Ac rfl (Ac rfl (Ac rfl (Ac rfl (Ac rfl (I (.as (v':=vi ((at_+m:Nat):Int)) (PEv.add (.t rfl) (.t rfl) oQ oQ) (a_ vi oQ)) (I (.as (v':=Prt.val (⟨(if cp=at_ then ad else ad.map (·.add (at_*19))),cp-at_,(l.drop at_).take m⟩:Prt)) (aW (i:=at_) (j:=at_+m) k6 k7 (.t rfl) (.t rfl) (.t rfl) oQ oQ) (by unfold Prt.val;rw[show(List.take m (List.drop at_ l)).length=at_+m-at_ by rw[bu,gd];omega])) (Ao (.buildSlice (xs:=[(⟨(if cp=at_ then ad else ad.map (·.add (at_*19))),cp-at_,(l.drop at_).take m⟩:Prt)]) (enc:=Prt.enc) (mk:=Prt.val) mu mf zeroValue24 rfl cQ (fun _=>rfl) (fun _=>rfl) (.cu rfl) rfl) rfl ?_))))))))))
  rintro _ w3 ⟨B36,cB36,rfl,NB36,yB36,xB36⟩
  replace hS:=hS.up NB36.up
  have hE36:=xB36
  refine Ao (.Cu (enc:=Prt.enc) (bytes:=24) (i:=Tryz.t24) mu kQ rfl rfl rfl rfl cQ (fun _=>rfl) Prt.one (.t rfl) (.t rfl) (hS.own 0 rfl) (Az hE36) (by simp[maxLen];omega) (by simp;omega)) rfl ?_
  intro v37 w4 Gw4
  replace hS:=hS.E5 0 rfl Gw4
  refine LW.A rfl (Ai (Aa (Ac rfl (Ac rfl (I (.as (v':=vi ((at_+m:Nat):Int)) (PEv.add (.t rfl) (.t rfl) oQ oQ) (a_ vi oQ)) (LW.A rfl (LW.nil (Ae (Ab (Aa (Ac rfl (I (.ic rfl oQ) (LW.A rfl (LW.nil (Aq ?_)))))))))))))))
  exact⟨(i+1,at_+m,v37,Ps++[(⟨(if cp=at_ then ad else ad.map (·.add (at_*19))),cp-at_,(l.drop at_).take m⟩:Prt)]),⟨by show i+1≤7;omega,hml,by rw[Oo,hcat];exact oS,by rw[au,cl];show Ps.length+1≤i+1;omega,Yd hPg hgP,hS⟩,tQ,by show 7-(i+1)<7-i;omega⟩
 refine A7 (Ad (Ad (Au (Ab (Af (Ac rfl (Ac rfl (Ac rfl (I (.as (v':=Prt.val (⟨(if cp=at_ then ad else ad.map (·.add (at_*19))),cp-at_,l.drop at_⟩:Prt)) (PEv.sliceFrom (j:=at_) k6 k7 (.t rfl) (.t rfl) oQ) (by unfold Prt.val;rw[show(List.drop at_ l).length=l.length-at_ by rw[gd]])) (Ao (.buildSlice (xs:=[(⟨(if cp=at_ then ad else ad.map (·.add (at_*19))),cp-at_,l.drop at_⟩:Prt)]) (enc:=Prt.enc) (mk:=Prt.val) mu mf zeroValue24 rfl cQ (fun _=>rfl) (fun _=>rfl) (.cu rfl) rfl) rfl ?_))))))))))
 rintro _ w5 ⟨B45,cB45,rfl,NB45,yB45,xB45⟩
 replace hS:=hS.up NB45.up
 have hE45:=xB45
 refine Ao (.Cu (enc:=Prt.enc) (bytes:=24) (i:=Tryz.t24) mu kQ rfl rfl rfl rfl cQ (fun _=>rfl) Prt.one (.t rfl) (.t rfl) (hS.own 0 rfl) (Az hE45) (by simp[maxLen];omega) (by simp;omega)) rfl ?_
 intro v46 w6 Gw6
 replace hS:=hS.E5 0 rfl Gw6
 refine LW.A rfl (Ai (Aj (KW.q ?_)))
 refine⟨Ps++[(⟨(if cp=at_ then ad else ad.map (·.add (at_*19))),cp-at_,l.drop at_⟩:Prt)],(hS.own 0 rfl).I1 (fun i h=>(hS.foot 0 rfl i h).resolve_left (fun h=>h)),by rw[Oo,hcat];exact dg _ _,by rw[au,cl];omega,Yd hPg ⟨at_,l.length-at_,by omega,by rw[di (by rw[gd];omega)]⟩,hS.Cj⟩
set_option maxHeartbeats 4000000 in
theorem iU(w:World):Ret prog 4 #[] w fun r w'=>r=.bool true∧Up w w':=by
 obtain⟨w0,rfl,hS⟩:=W0 w
 refine cT 101 func4 rfl (Af (J (Ar (Aa (A3 (eC .nil (OH)) rfl (dP _) ?_)))))
 rintro _ w1 ⟨z0,rfl,ha0,hn0,hz0,hN0⟩
 replace hS:=hS.join hN0
 refine LW.A rfl (Ar (Af (Ac rfl (I (.fa (Gl m9 (.t rfl)) (rfl)) (Ai (CW.f rfl (Ak (Ab (Af (I (.build (cs:=m21.cells) me k_ Fg (.cons (.const _) (.cons (.const _) (.cons (.const _) (.cons (.const _) (.cons (.const _) .nil))))) kQ) (Ao (.buildSlice (xs:=[m21]) (enc:=Fact.cells) (mk:=fun f:Fact=>.agg f.cells) k6 k7 k_ rfl cQ (fun _=>rfl) (fun _=>rfl) (.cu rfl) rfl) rfl ?_)))))))))))
 intro v16 w2 hN16
 obtain⟨u16,B16,rfl,e16,hO16⟩:=NewSl.own hN16 (fun _=>rfl) cQ (by simp[maxLen])
 replace hS:=hS.add u16 (A':=A8 51 19 Fact.cells (.slice (some ⟨B16,0,none⟩) 1 1) [m21]) hO16 (fun i h=>by cases h;exact jb e16.symm)
 refine LW.A rfl (Ar (Aa (Ac rfl (A3 (eC (.cons (.const _) .nil) (GC)) rfl (Rl _ _) ?_))))
 rintro _ w3 ⟨rfl,uw3⟩
 replace hS:=hS.up uw3
 have hSp20:=fun i(h:Cl z0.As i)=>Sep.FO (Sep.left (show Wx.Sep _ _ _ (z0.As++[_])from hS)) h
 refine Ao (.buildSlice (xs:=[O1 9]) (enc:=Fact.cells) (mk:=fun f:Fact=>.agg f.cells) k6 k7 k_ rfl cQ (fun _=>rfl) (fun _=>rfl) (.cu rfl) rfl) rfl ?_
 rintro _ w4 ⟨B19,cB19,rfl,NB19,yB19,xB19⟩
 have eB19:=NB19.at_
 replace hS:=hS.up NB19.up
 have hE19:=xB19
 replace hS:=hS.Eb 0 rfl
 replace hS:=hS.Eb 0 rfl
 replace hS:=hS.Eb 0 rfl
 replace hS:=hS.Eb 0 rfl
 replace hS:=hS.Eb 0 rfl
 have hq_:=(show Wx.Sep _ _ _ ([_]++[_,_,_,_,_])from hS)
 refine A3 (eC (.u rfl rfl) (CQ)) rfl (Kb z0 0 (some ⟨B19,0,none⟩) _ [O1 9] _ hz0 cQ (by rw[ha0];decide) hE19 (fun _ B o e h=>by cases e;have:=hSp20 _ h;omega) hq_.right.self) ?_
 rintro _ w5 ⟨z1,rfl,hp1,ha1,hn1,hz1,uw5⟩
 replace hS:=hq_.frame uw5
 have zw5:=uw5.fr.size
 rw[ha0,CF]at hn1
 rw[ha0,CF,←hp1]
 replace ha1:z1.all=OC:=by rw[ha1,ha0];rfl
 rw[hn0]at hn1
 refine LW.A rfl (Ar (Aa (Ac rfl (A3 (eC (.cons (.const _) (.cons (.const _) (.cons (.const _) .nil))) (CS)) rfl (Se _ _ _ _) ?_))))
 rintro _ w6 ⟨rfl,uw6⟩
 replace hS:=hS.up uw6
 have hSp24:=fun i(h:Cl z1.As i)=>Sep.FO (Sep.right (show Wx.Sep _ _ _ ([_]++z1.As)from hS)) h
 refine Ao (.buildSlice (xs:=[Ky 1 10 100000]) (enc:=Fact.cells) (mk:=fun f:Fact=>.agg f.cells) k6 k7 k_ rfl cQ (fun _=>rfl) (fun _=>rfl) (.cu rfl) rfl) rfl ?_
 rintro _ w7 ⟨B23,cB23,rfl,NB23,yB23,xB23⟩
 have eB23:=NB23.at_
 replace hS:=hS.up NB23.up
 have hE23:=xB23
 replace hS:=hS.Eb 1 rfl
 replace hS:=hS.Eb 1 rfl
 replace hS:=hS.Eb 1 rfl
 replace hS:=hS.Eb 1 rfl
 replace hS:=hS.Eb 1 rfl
 have hq_:=(show Wx.Sep _ _ _ ([_]++[_,_,_,_,_])from hS)
 refine A3 (eC (.u rfl rfl) (CQ)) rfl (Kb z1 1 (some ⟨B23,0,none⟩) _ [Ky 1 10 100000] _ hz1 cQ (by rw[ha1];decide) hE23 (fun _ B o e h=>by cases e;have:=hSp24 _ h;omega) hq_.right.self) ?_
 rintro _ w8 ⟨z2,rfl,hp2,ha2,hn2,hz2,uw8⟩
 replace hS:=hq_.frame uw8
 have zw8:=uw8.fr.size
 rw[ha1,CG]at hn2
 rw[ha1,CG,←hp2]
 replace ha2:z2.all=OD:=by rw[ha2,ha1];rfl
 rw[hn1]at hn2
 refine LW.A rfl (Ar (Aa (Ac rfl (A3 (eC (.cons (.const _) (.cons (.const _) (.cons (.const _) .nil))) (CS)) rfl (Se _ _ _ _) ?_))))
 rintro _ w9 ⟨rfl,uw9⟩
 replace hS:=hS.up uw9
 refine A3 (eC (.cons (.const _) (.cons (.const _) (.cons (.const _) .nil))) (CS)) rfl (Se _ _ _ _) ?_
 rintro _ w10 ⟨rfl,uw10⟩
 replace hS:=hS.up uw10
 have hSp29:=fun i(h:Cl z2.As i)=>Sep.FO (Sep.right (show Wx.Sep _ _ _ ([_]++z2.As)from hS)) h
 refine Ao (.buildSlice (xs:=[Ky 2 20 98000,Ky 3 30 98000]) (enc:=Fact.cells) (mk:=fun f:Fact=>.agg f.cells) k6 k7 k_ rfl cQ (fun _=>rfl) (fun _=>rfl) (.ct rfl (.cu rfl)) rfl) rfl ?_
 rintro _ w11 ⟨B28,cB28,rfl,NB28,yB28,xB28⟩
 have eB28:=NB28.at_
 replace hS:=hS.up NB28.up
 have hE28:=xB28
 replace hS:=hS.Eb 1 rfl
 replace hS:=hS.Eb 1 rfl
 replace hS:=hS.Eb 1 rfl
 replace hS:=hS.Eb 1 rfl
 replace hS:=hS.Eb 1 rfl
 have hq_:=(show Wx.Sep _ _ _ ([_]++[_,_,_,_,_])from hS)
 refine A3 (eC (.u rfl rfl) (CQ)) rfl (Kb z2 2 (some ⟨B28,0,none⟩) _ [Ky 2 20 98000,Ky 3 30 98000] _ hz2 cQ (by rw[ha2];decide) hE28 (fun _ B o e h=>by cases e;have:=hSp29 _ h;omega) hq_.right.self) ?_
 rintro _ w12 ⟨z3,rfl,hp3,ha3,hn3,hz3,uw12⟩
 replace hS:=hq_.frame uw12
 have zw12:=uw12.fr.size
 rw[ha2,CH]at hn3
 rw[ha2,CH,←hp3]
 replace ha3:z3.all=FP:=by rw[ha3,ha2];rfl
 rw[hn2]at hn3
 refine LW.A rfl (Ar (Aa (Ac rfl (A3 (eC (.o rfl) (CR)) rfl (Sd z3.E z3.bf z3.bd z3.bc z3.n z3.kb _ hz3.hbc hS.b1 (hS.get 3 rfl) (Gu hz3).1 (Gu hz3).2.1 (Gu hz3).2.2.1 (Gu hz3).2.2.2 Zw) ?_))))
 rintro v31 w13 ⟨hO31,uw13⟩
 have zw13:=uw13.size
 replace hS:=hS.add uw13 (A':=A8 3 1 Cm v31 [2,3]) (by rw[uX ha3]at hO31;exact hO31.mono (ao _)) (fun i h=>hO31.base i h)
 obtain⟨ad31,cp31,rfl,_⟩:=(hS.own 6 rfl).sl (fun _=>rfl)
 refine LW.A rfl (Ar (Aa (Ac rfl (Ac rfl ?_))))
 replace hS:=hS.Eb 1 rfl
 replace hS:=hS.Eb 1 rfl
 replace hS:=hS.Eb 1 rfl
 replace hS:=hS.Eb 1 rfl
 replace hS:=hS.Eb 1 rfl
 have hq_:=(show Wx.Sep _ _ _ ([_,_]++[_,_,_,_,_])from hS)
 refine A3 (eC (.u rfl rfl) (CQ)) rfl (Kb z3 3 (some ⟨B16,0,none⟩) _ [m21] _ hz3 cQ (by rw[ha3];decide) (D9 (hq_.left.own 0 rfl) (fun _=>rfl)) (fun _ B o e h=>hq_.oB ⟨_,am (i:=0) rfl,by cases e;rfl⟩ h) hq_.right.self) ?_
 rintro _ w14 ⟨z4,rfl,hp4,ha4,hn4,hz4,uw14⟩
 replace hS:=hq_.frame uw14
 have zw14:=uw14.fr.size
 rw[ha3,CI]at hn4
 rw[ha3,CI,←hp4]
 replace ha4:z4.all=FQ:=by rw[ha4,ha3];rfl
 rw[hn3]at hn4
 refine LW.A rfl (Ar (Aa (Ac rfl (A3 (eC (.o rfl) (CR)) rfl (Sd z4.E z4.bf z4.bd z4.bc z4.n z4.kb _ hz4.hbc hS.b2 (hS.get 4 rfl) (Gu hz4).1 (Gu hz4).2.1 (Gu hz4).2.2.1 (Gu hz4).2.2.2 Zw) ?_))))
 rintro v36 w15 ⟨hO36,uw15⟩
 have zw15:=uw15.size
 replace hS:=hS.add uw15 (A':=A8 3 1 Cm v36 ([]:List Int)) (by rw[uY ha4]at hO36;exact hO36.mono (ao _)) (fun i h=>hO36.base i h)
 obtain⟨ad36,cp36,rfl,_⟩:=(hS.own 7 rfl).sl (fun _=>rfl)
 refine LW.A rfl (Ar (Aa (Ac rfl (Ac rfl ?_))))
 replace hS:=hS.Eb 2 rfl
 replace hS:=hS.Eb 2 rfl
 replace hS:=hS.Eb 2 rfl
 replace hS:=hS.Eb 2 rfl
 replace hS:=hS.Eb 2 rfl
 have hq_:=(show Wx.Sep _ _ _ ([_,_,_]++[_,_,_,_,_])from hS)
 refine A3 (eC (.u rfl rfl) (CQ)) rfl (Kb z4 4 (some ⟨B16,0,none⟩) _ [m21] _ hz4 cQ (by rw[ha4];decide) (D9 (hq_.left.own 0 rfl) (fun _=>rfl)) (fun _ B o e h=>hq_.oB ⟨_,am (i:=0) rfl,by cases e;rfl⟩ h) hq_.right.self) ?_
 rintro _ w16 ⟨z5,rfl,hp5,ha5,hn5,hz5,uw16⟩
 replace hS:=hq_.frame uw16
 have zw16:=uw16.fr.size
 rw[ha4,CJ]at hn5
 rw[ha4,CJ,←hp5]
 replace ha5:z5.all=OE:=by rw[ha5,ha4];rfl
 rw[hn4]at hn5
 refine LW.A rfl (Ar (Aa (Ac rfl (A3 (eC (.cons (.const _) .nil) (GC)) rfl (Rl _ _) ?_))))
 rintro _ w17 ⟨rfl,uw17⟩
 replace hS:=hS.up uw17
 have hSp43:=fun i(h:Cl z5.As i)=>Sep.FO (Sep.right (show Wx.Sep _ _ _ ([_,_,_]++z5.As)from hS)) h
 refine Ao (.buildSlice (xs:=[O1 8]) (enc:=Fact.cells) (mk:=fun f:Fact=>.agg f.cells) k6 k7 k_ rfl cQ (fun _=>rfl) (fun _=>rfl) (.cu rfl) rfl) rfl ?_
 rintro _ w18 ⟨B42,cB42,rfl,NB42,yB42,xB42⟩
 have eB42:=NB42.at_
 replace hS:=hS.up NB42.up
 have hE42:=xB42
 replace hS:=hS.Eb 3 rfl
 replace hS:=hS.Eb 3 rfl
 replace hS:=hS.Eb 3 rfl
 replace hS:=hS.Eb 3 rfl
 replace hS:=hS.Eb 3 rfl
 have hq_:=(show Wx.Sep _ _ _ ([_,_,_]++[_,_,_,_,_])from hS)
 refine A3 (eC (.u rfl rfl) (CQ)) rfl (Kb z5 5 (some ⟨B42,0,none⟩) _ [O1 8] _ hz5 cQ (by rw[ha5];decide) hE42 (fun _ B o e h=>by cases e;have:=hSp43 _ h;omega) hq_.right.self) ?_
 rintro _ w19 ⟨z6,rfl,hp6,ha6,hn6,hz6,uw19⟩
 replace hS:=hq_.frame uw19
 have zw19:=uw19.fr.size
 rw[ha5,CK]at hn6
 rw[ha5,CK,←hp6]
 replace ha6:z6.all=LM:=by rw[ha6,ha5];rfl
 rw[hn5]at hn6
 refine LW.A rfl (Ar (Aa (Ac rfl (A3 (eC (.ct rfl (.cons (.const _) (.cons (.const _) (.cons (.const _) .nil)))) (GB)) rfl (Yg z6.E z6.bf z6.bd z6.bc z6.n z6.D z6.kb 4 0 9 _ hz6.hbc ⟨by simp[F8],by simp[F8],by simp[F8]⟩ (Gu hz6).1 hz6.keys hz6.dks hS.b3 (hS.get 6 rfl) (hS.get 7 rfl)) ?_))))
 rintro v45 w20 ⟨_,L45,rfl,hm45,hT45⟩
 have hk6:z6.kb=Dj LM 100000:=by unfold Eng.kb;rw[ha6]
 rw[hk6,LC]at hm45
 obtain⟨a1,c1,a2,c2,a3,c3,rfl⟩:=NX hm45
 replace hS:=hS.join hT45
 obtain⟨ad45,cp45,rfl,_⟩:=(hS.own 8 rfl).sl (fun _=>rfl)
 obtain⟨Bx,ox,ax,hpx,hqx,hrx⟩:=KR ((hS.own 8 rfl).els (fun _=>rfl))
 refine LW.A rfl (Ar (Af (Ac rfl (I (.Df lq (.t rfl)) (I (.fa (PEv.neq (.t rfl) (.const _)) (rfl)) (Ai (CW.f rfl (Ak (Ab (Af (Ac rfl (I (.tr (PEv.eql (.t rfl) (.const _)) (rfl)) (Ac rfl (Cq (Ac rfl (Cq (I (.tr (PEv.eql (.t rfl) (.const _)) (rfl)) (I (.pa rfl (fun hp=>(by exact .tmp rfl))) (Ac rfl (Cq (Ac rfl (Cq (I (.tr (PEv.eql (.t rfl) (.const _)) (rfl)) (I (.pa rfl (fun hp=>(by exact .tmp rfl))) (Ac rfl (Cq (Ac rfl (Cq (Ao (.buildSlice (xs:=[2,3]) (enc:=Cm) (mk:=vi) lg lf ls rfl cQ (fun _=>rfl) (fun _=>rfl) (.cons (.const _) (.cons (.const _) .nil)) rfl) rfl ?_)))))))))))))))))))))))))))))
 rintro _ w21 ⟨B61,cB61,rfl,NB61,yB61,xB61⟩
 replace hS:=hS.up NB61.up
 replace hqx:=hqx.up NB61.up
 have hE61:=xB61
 refine Cq (A3 (eC (.u rfl rfl) (GA)) rfl (Rk _ _ [2,3] [2,3] _ ((hS.own 1 rfl).sl (fun _=>rfl)) (Az hE61) cQ cQ) ?_)
 rintro _ w22 ⟨rfl,uw22⟩
 replace hS:=hS.up uw22
 replace hqx:=hqx.up uw22
 rw[show decide (([2,3]:List Int)=[2,3])=true from a8 rfl]
 refine I (.pa rfl (fun hp=>(by exact .tmp rfl))) (Ac rfl (Cq (Ac rfl (Cq (I (.tr (PEv.eql (.t rfl) (.const _)) (rfl)) (I (.pa rfl (fun hp=>(by exact .tmp rfl))) (Ac rfl (Cq (Ac rfl (Cq (I (.Df lg (.t rfl)) (Cq (I (.tr (PEv.eql (.t rfl) (.const _)) (rfl)) (I (.pa rfl (fun hp=>(by exact .tmp rfl))) (Ac rfl (Cq (Ac rfl (Cq (I (.tr (PEv.eql (.t rfl) (.const _)) (rfl)) (I (.pa rfl (fun hp=>(by exact .tmp rfl))) (Ac rfl (Cq (Ac rfl (Cq (I (.tr (PEv.eql (.t rfl) (.const _)) (rfl)) (I (.pa rfl (fun hp=>(by exact .tmp rfl))) (Ac rfl (Cq (Ac rfl (Cq (A3 (eC (.o rfl) (FY)) rfl (Yc z6.E z6.bf z6.bd z6.bc z6.n _ hz6.hbc hS.b3) ?_)))))))))))))))))))))))))))))))
 rintro _ w23 ⟨rfl,uw23⟩
 replace hS:=hS.up uw23
 replace hqx:=hqx.up uw23
 refine Cq (I (.tr (PEv.eql (.t rfl) (.const _)) (by rw[hn6];rfl)) (I (.pa rfl (fun hp=>(by exact .tmp rfl))) (Ac rfl (Cq (Ac rfl (Cq (I (.Ay lq lr (j:=1) (.t rfl) (.const _) bQ ax) (Cq (I (.fB 1 rfl) (Cq (I (.lc rfl (Zh hqx)) (Cq (I (.build (cs:=(Rt.mk 98 1).cells) mc lm Ed (.cons (.const _) (.cons (.const _) .nil)) kQ) (Cq (I (.tr (PEv.Yl ni (Ln _ _) (.t rfl) (.t rfl)) (cH _)) (I (.pa rfl (fun hp=>(by exact .tmp rfl))) (Ac rfl (Cq (Ac rfl (Cq (A3 (eC (.o rfl) (FZ)) rfl (Ya z6.E z6.bf z6.bd z6.bc z6.n z6.all _ hS.b3 (hS.get 4 rfl) (bb hz6.len cQ)) ?_)))))))))))))))))))))
 rintro _ w24 ⟨bc96,rfl,hC96,_,uw24⟩
 replace hS:=hS.up uw24
 replace hqx:=hqx.up uw24
 obtain⟨v96,hv96,ad96,cp96,rfl,_⟩:=hC96.at_ (j:=0) cQ
 have hl96:(C2 (Dj z6.all 100000) 0).length=3:=by rw[ha6];exact LD
 rw[hl96]at hv96
 refine Cq (I (.fK (off:=0) underlying39 rfl rfl isAgg24 (.t rfl) hv96) (Cq (I (.Df k6 (.t rfl)) (Cq (I (.tr (PEv.eql (.t rfl) (.const _)) (rfl)) (I (.pa rfl (fun hp=>(by exact .tmp rfl))) (LW.A rfl (Ai (Aj (KW.q ?_))))))))))
 exact⟨rfl,hS.Cj⟩
theorem vK{P:Program}{d:Nat}{e:TypeId}{c:Nat}{xs ys:Array Go.Value}{i:Nat}{is:List Nat}{w:World}{a b:Go.Value}{r q:Bool}(hs:∀w,(isAgg e).run P w=.ok false w)(hx:xs[i*c]?=some a)(hy:ys[i*c]?=some b)(he:(Op.equalIn d e a b).run P w=.ok r w)(hq:(Op.eqItems d e c xs ys is).run P w=.ok q w):(Op.eqItems d e c xs ys (i::is)).run P w=.ok (r&&q) w:=by
 have h1:(part e xs (i*c)).run P w=.ok a w:=by simp[part,hs,hx,Result.andThen]
 have h2:(part e ys (i*c)).run P w=.ok b w:=by simp[part,hs,hy,Result.andThen]
 simp only[Op.eqItems,Sem.run_bind,h1,h2,he,Result.andThen_ok]
 cases r<;>simp[hq]
set_option maxRecDepth 4000 in
theorem LH(a b:Grp)(w:World):(Op.equalIn 10000 85 (.agg a.cells) (.agg b.cells)).run prog w=.ok (decide (a=b)) w:=by
 have hc:=dK
 have h:(Op.eqItems 9999 3 (Tryz.prog.cellsOf 3) a.cells b.cells [0,1,2]).run prog w=.ok (Zq a b) w:=by
   rw[hc]
   iterate 3 (refine vK ly rfl rfl (run_equalIn_int w 9998 _ _ _ _ _ lh) ?_)
   rfl
 obtain⟨i,hi⟩:=jl.1 (show(Tryz.prog.info? 3).isSome=true by kernel_rfl)
 rw[←X3,←h]
 exact run_equalIn_array (w:=w) 9999 a.cells b.cells nk hi
set_option maxHeartbeats 4000000 in
theorem iV(bc:Array Go.Value)(b:Base)(w:World)(hC:BaseC w bc b)(hl:b.Processes.length≤100000):Ret prog 35 #[.agg bc] w fun r w'=>OwnS w' w.heap.size 85 3 Grp.cells r (C6 b.Processes)∧Up w w':=by
 obtain⟨w0,rfl,hS⟩:=W0 w
 refine cT 50 func35 rfl (Af (Ao (.bA rfl) rfl ?_))
 rintro _ w1 ⟨B1,rfl,NB1⟩
 replace hS:=hS.Bn NB1
 refine J (Ar ?_)
 obtain⟨v0,h0,hs0⟩:=hC.at_ (j:=0) cQ
 obtain⟨ad0,cp0,rfl,hE0⟩:=(show Sl w0 v0 19 Fact.cells b.Processes from hs0)
 refine Aa (J (Ar (Al ?_)))
 replace hS:=hS.mD (OwnS.nil _ 0 85 3 Grp.cells)
 refine Aa (J (Ai (Ap (A9 (σ:=Nat×Go.Value) (fun s w=>(s.1≤b.Processes.length)∧(Wx.Sep no w0 w [Ch B1 bc 39,A8 85 3 Grp.cells s.2 (C6 (b.Processes.take s.1))])) (fun s=>[(4,.eq (vi (s.1:Int))),(3,.eq (s.2))]) ([(1,.eq _),(2,.eq _)]) (fun s=>b.Processes.length-s.1) (0,.slice none 0 0) ?_ tQ ?_))))
 ·exact⟨ao _,hS⟩
 rintro⟨i,v⟩ w2 ⟨hi,hS⟩
 dsimp only at hi hS
 change CW _ _ _ _ _ _ _ ([(4,.eq (vi (i:Int))),(3,.eq (v))]++_) _
 refine Al (Af (Ac rfl (I (.fB 0 rfl) (I (.lb rfl (hS.b0.cell h0)) (I (.Df k6 (.t rfl)) (I (.l2 rfl rfl) (Ai (CW.b rfl (fun h13=>?_) (fun h13=>?_)))))))))
 ·replace h13:=dQ h13
  refine Ak (Ab (Al (Ap (Al ?_))))
  obtain⟨x,hx⟩:=Av (xs:=b.Processes) (i:=i) oQ
  obtain⟨Bx,ox,ax,hcx⟩:=(Els.up hE0 hS.Cj) i x hx
  have hLl:(C6 (b.Processes.take i)).length≤i:=Ye _ _
  obtain⟨ad3,cp3,rfl,_⟩:=(hS.own 1 rfl).sl (fun _=>rfl)
  refine Aa (I (.fB 0 rfl) (I (.lb rfl (hS.b0.cell h0)) (Ac rfl (I (.Ay k6 k7 (.t rfl) (.t rfl) oQ ax) (I (.lc rfl (hcx)) (Ao (.Bi k_) rfl ?_))))))
  rintro _ w3 ⟨B5,rfl,MB5⟩
  refine Bh (.A5 k7 rfl (.t rfl) (.t rfl) (Fact.one _) MB5.blk rfl) ?_
  intro w4 LB5
  have NB5:=MB5.set LB5
  replace hS:=hS.Bn NB5
  refine Ar (Aa (I (.fB 11 rfl) (I (.lb rfl (hS.b2.An rfl)) (I (.fB 12 rfl) (I (.lb rfl (hS.b2.An rfl)) (I (.fB 14 rfl) (I (.lb rfl (hS.b2.An rfl)) (I (.H2 (cs:=(H6 x).cells) nk zeroValue85 lf (.ct rfl (.ct rfl (.cu rfl))) rfl) (Ao (.Bi zeroValue85) rfl ?_)))))))))
  rintro _ w5 ⟨B6,rfl,MB6⟩
  refine Bh (.A5 nj rfl (.t rfl) (.t rfl) (Grp.one _) MB6.blk rfl) ?_
  intro w6 LB6
  have NB6:=MB6.set LB6
  replace hS:=hS.Bn NB6
  refine Ar (Aa (J (Ar (Af (J (Ai (Ap (A9 (σ:=Nat×Bool) (fun s w=>(s.1≤(C6 (b.Processes.take i)).length)∧(s.2=decide (H6 x∈(C6 (b.Processes.take i)).take s.1))∧(Up w6 w)) (fun s=>[(8,.eq (vi (s.1:Int))),(7,.eq (.bool s.2))]) ([(1,.eq _),(2,.eq _),(3,.eq _),(4,.eq _),(6,.eq _)]) (fun s=>(C6 (b.Processes.take i)).length-s.1) (0,false) ?_ tQ ?_))))))))
  ·exact⟨ao _,by simp,Up.refl _⟩
  rintro⟨k,kn⟩ w7 ⟨hk,hkn,hL2⟩
  dsimp only at hk hkn
  change CW _ _ _ _ _ _ _ ([(8,.eq (vi (k:Int))),(7,.eq (.bool kn))]++_) _
  replace hS:=hS.up hL2
  refine Al (Af (Ac rfl (Ac rfl (I (.Df mw (.t rfl)) (I (.l2 rfl rfl) (Ai (CW.b rfl (fun h31=>?_) (fun h31=>?_))))))))
  ·replace h31:=dQ h31
   refine Ak (Ab (Al (Ap ?_)))
   obtain⟨y,hy⟩:=Av (xs:=(C6 (b.Processes.take i))) (i:=k) oQ
   obtain⟨By,oy,ay,hcy⟩:=(D9 (hS.own 1 rfl) (fun _=>rfl)) k y hy
   refine Fy 9 kQ kQ kQ kQ kQ rfl rfl (Am (.mv rfl) (Am (.mv rfl) (Ld rfl rfl rfl rfl rfl rfl (fun hc=>PEv.mv rfl) (Ld rfl rfl rfl rfl rfl rfl (fun hc=>PEv.mv rfl) (Ld rfl rfl rfl rfl rfl rfl (fun hc=>PEv.Ay mw nj (j:=k) (k:=(C6 (b.Processes.take i)).length) vQ vQ oQ ay) (Ld rfl rfl rfl rfl rfl rfl (fun hc=>PEv.Ef isAgg85 nj rfl vQ (hcy)) (Ld rfl rfl rfl rfl rfl rfl (fun hc=>PEv.lc rfl (hS.b3.agg)) (Ld rfl rfl rfl rfl rfl rfl (fun hc=>PEv.Yl eqGuardType85 (LH _ _) vQ vQ) (Am (.po rfl (fun hp=>(by exact .cond rfl (by(rw[hp];rfl))))) (HW.nil ?_))))))))))
   intro w8 uw8
   replace hS:=hS.up uw8
   replace hL2:=hL2.up uw8
   refine LW.A rfl (LW.nil (Ae (Ab (Aa (Ac rfl (I (.ic rfl oQ) (LW.A rfl (LW.nil (Aq ?_)))))))))
   exact⟨(k+1,kn||decide (y=H6 x)),⟨by show k+1≤_;omega,AM hy hkn,hL2⟩,tQ,by show(C6 (b.Processes.take i)).length-(k+1)<(C6 (b.Processes.take i)).length-k;omega⟩
  replace h31:=dQ h31
  refine A7 (Ad (Ad (Au (Ab (Al ?_)))))
  have hkn2:kn=decide (H6 x∈(C6 (b.Processes.take i))):=by rw[hkn,di (by omega)]
  refine Aa (Ac rfl (I (.n1 rfl) (Ai (CW.b rfl (fun h44=>?_) (fun h44=>?_)))))
  ·replace h44:=dQ h44
   have hgn:H6 x∉(C6 (b.Processes.take i)):=by have h5:=h44;rw[hkn2]at h5;simpa using h5
   refine Aa (Ac rfl (I (.lc rfl (hS.b3.agg)) (Ao (.buildSlice (xs:=[H6 x]) (enc:=Grp.cells) (mk:=fun g:Grp=>.agg g.cells) mw nj zeroValue85 rfl cQ (fun _=>rfl) (fun _=>rfl) (.cu rfl) rfl) rfl ?_)))
   rintro _ w9 ⟨B47,cB47,rfl,NB47,yB47,xB47⟩
   replace hS:=hS.up NB47.up
   replace hL2:=hL2.up NB47.up
   have hE47:=xB47
   refine Ao (.Cu (enc:=Grp.cells) (bytes:=24) (i:=Tryz.t85) mw kQ rfl rfl rfl rfl cQ (fun _=>rfl) Grp.one (.t rfl) (.t rfl) (hS.own 1 rfl) (Az hE47) (by simp only[maxLen,b9,da];omega) (by simp only[b9,da];omega)) rfl ?_
   intro v48 w10 Gw10
   replace hS:=hS.E5 1 rfl Gw10
   refine LW.A rfl (LW.nil (Ae (Ab (Aa (Ac rfl (I (.ic rfl oQ) (LW.A rfl (LW.nil (Aq ?_)))))))))
   exact⟨(i+1,v48),⟨by show i+1≤_;omega,by rw[Mg hx];(rw[show Q7 (C6 (b.Processes.take i)) (H6 x)=(C6 (b.Processes.take i))++[H6 x]from ae hgn];exact hS.take 2)⟩,tQ,by show b.Processes.length-(i+1)<b.Processes.length-i;omega⟩
  replace h44:=dQ h44
  have hgn:H6 x∈(C6 (b.Processes.take i)):=by have h5:=h44;rw[hkn2]at h5;simpa using h5
  refine Ak (Ae (Ab (Aa (Ac rfl (I (.ic rfl oQ) (LW.A rfl (LW.nil (Aq ?_))))))))
  exact⟨(i+1,.slice ad3 (C6 (b.Processes.take i)).length cp3),⟨by show i+1≤_;omega,by rw[Mg hx];(rw[show Q7 (C6 (b.Processes.take i)) (H6 x)=(C6 (b.Processes.take i))from ak hgn];exact hS.take 2)⟩,tQ,by show b.Processes.length-(i+1)<b.Processes.length-i;omega⟩
 replace h13:=dQ h13
 refine A7 (Ad (Ad (Au (Ab (Af (Ac rfl (LW.A rfl (Ai (Aj (KW.q ?_))))))))))
 rw[show i=b.Processes.length by omega,br]at hS
 exact⟨(hS.own 1 rfl).I1 (fun i hi=>(hS.foot 1 rfl i hi).resolve_left fun h=>h),hS.Cj⟩
theorem O3(k:Int)(w:World):Ret prog 136 #[vi k] w fun r w'=>∃ad cp,r=.slice ad (S7 k).length cp∧Els w' ad 1 Cm (S7 k)∧Up w w':=by
 have hW:=Up.refl w
 obtain⟨w0,rfl,_⟩:=W0 w
 refine cT 17 func136 rfl (Af (J (Ar (Af (Ac rfl (Ai (Ap (Af (I (.eql (.t rfl) (.const _)) (LW.A rfl (Ai (CW.b rfl (fun h4=>?_) (fun h4=>?_)))))))))))))
 ·replace h4:=dQ h4
  have hkf:S7 k=[1,10]:=ak h4
  refine Af (Ao (.buildSlice (xs:=[1,10]) (enc:=Cm) (mk:=vi) lg lf ls rfl cQ (fun _=>rfl) (fun _=>rfl) (.cons (.const _) (.cons (.const _) .nil)) rfl) rfl ?_)
  rintro _ w1 ⟨B6,cB6,rfl,NB6,yB6,xB6⟩
  replace hW:=hW.up NB6.up
  have hB6:=NB6.blk
  have hE6:=xB6
  refine LW.A rfl (Ai (Aj (Aw (Ah (KW.q ?_)))))
  rw[hkf]
  exact⟨_,_,rfl,hE6,hW⟩
 replace h4:=dQ h4
 refine Af (I (.eql (.t rfl) (.const _)) (LW.A rfl (Ai (CW.b rfl (fun h7=>?_) (fun h7=>?_)))))
 ·replace h7:=dQ h7
  have hkf:S7 k=[4]:=(ae h4).trans (ak h7)
  refine Af (Ao (.buildSlice (xs:=[4]) (enc:=Cm) (mk:=vi) lg lf ls rfl cQ (fun _=>rfl) (fun _=>rfl) (.cons (.const _) .nil) rfl) rfl ?_)
  rintro _ w2 ⟨B9,cB9,rfl,NB9,yB9,xB9⟩
  replace hW:=hW.up NB9.up
  have hB9:=NB9.blk
  have hE9:=xB9
  refine LW.A rfl (Ai (Aj (Aw (Ah (KW.q ?_)))))
  rw[hkf]
  exact⟨_,_,rfl,hE9,hW⟩
 replace h7:=dQ h7
 refine Af (I (.eql (.t rfl) (.const _)) (LW.A rfl (Ai (CW.b rfl (fun h10=>?_) (fun h10=>?_)))))
 ·replace h10:=dQ h10
  have hkf:S7 k=[2,13]:=(ae h4).trans ((ae h7).trans (ak h10))
  refine Af (Ao (.buildSlice (xs:=[2,13]) (enc:=Cm) (mk:=vi) lg lf ls rfl cQ (fun _=>rfl) (fun _=>rfl) (.cons (.const _) (.cons (.const _) .nil)) rfl) rfl ?_)
  rintro _ w3 ⟨B12,cB12,rfl,NB12,yB12,xB12⟩
  replace hW:=hW.up NB12.up
  have hE12:=xB12
  refine LW.A rfl (Ai (Aj (Aw (Ah (KW.q ?_)))))
  rw[hkf]
  exact⟨_,_,rfl,hE12,hW⟩
 replace h10:=dQ h10
 refine Af (I (.eql (.t rfl) (.const _)) (LW.A rfl (Ai (CW.b rfl (fun h13=>?_) (fun h13=>?_)))))
 ·replace h13:=dQ h13
  have hkf:S7 k=[8,10]:=(ae h4).trans ((ae h7).trans ((ae h10).trans (ak h13)))
  refine Af (Ao (.buildSlice (xs:=[8,10]) (enc:=Cm) (mk:=vi) lg lf ls rfl cQ (fun _=>rfl) (fun _=>rfl) (.cons (.const _) (.cons (.const _) .nil)) rfl) rfl ?_)
  rintro _ w4 ⟨B15,cB15,rfl,NB15,yB15,xB15⟩
  replace hW:=hW.up NB15.up
  have hE15:=xB15
  refine LW.A rfl (Ai (Aj (Aw (Ah (KW.q ?_)))))
  rw[hkf]
  exact⟨_,_,rfl,hE15,hW⟩
 replace h13:=dQ h13
 have hkf:S7 k=[0]:=(ae h4).trans ((ae h7).trans ((ae h10).trans (ae h13)))
 refine Ak (Ae (Ab (Af (Ao (.buildSlice (xs:=[0]) (enc:=Cm) (mk:=vi) lg lf ls rfl cQ (fun _=>rfl) (fun _=>rfl) (.cons (.const _) .nil) rfl) rfl ?_))))
 rintro _ w5 ⟨B16,cB16,rfl,NB16,yB16,xB16⟩
 replace hW:=hW.up NB16.up
 have hE16:=xB16
 refine LW.A rfl (Ai (Aj (KW.q ?_)))
 rw[hkf]
 exact⟨_,_,rfl,hE16,hW⟩
theorem dY(n:Int)(w:World)(hn:Mm n):Ret prog 191 #[vi n] w fun r w'=>r=vu (Sq n)∧Up w w':=by
 have hW:=Up.refl w
 obtain⟨w0,rfl,_⟩:=W0 w
 refine cT 13 func191 rfl (Af (J (Ar (Af (Ac rfl (I (.lss (.t rfl) (.const _)) (Ai (CW.b rfl (fun h4=>?_) (fun h4=>?_)))))))))
 ·replace h4:=dQ h4
  refine Af (Ac rfl (I (.NN (.t rfl) (by unfold Mm at hn;omega) (by unfold Mm at hn;omega)) (I (.conv (k':=.u64) (by rw[lh];rfl) lz (.t rfl)) (I (.F4 (.t rfl) (.const _)) (I (.val (v':=vu (Sq n)) (PEv.Si (.t rfl) (.const _)) (by rw[Dv,Dv,Dv,vu];congr 1;unfold Mm at hn;unfold Sq;split<;>omega)) (LW.A rfl (Ai (Aj (Ah (KW.q ?_))))))))))
  exact⟨rfl,hW⟩
 replace h4:=dQ h4
 refine Ak (Ab (Af (Ac rfl (I (.conv (k':=.u64) (by rw[lh];rfl) lz (.t rfl)) (I (.val (v':=vu (Sq n)) (PEv.F4 (.t rfl) (.const _)) (by rw[Dv,Dv,vu];congr 1;unfold Mm at hn;unfold Sq;split<;>omega)) (LW.A rfl (Ai (Aj (KW.q ?_)))))))))
 exact⟨rfl,hW⟩
theorem Iw(n:Int)(w:World):Ret prog 134 #[vi n] w fun r w'=>r=.tuple #[.string ⟨(Wx.encI n).toArray⟩,vi (mM n)]∧Up w w':=by
 have hW:=Up.refl w
 obtain⟨w0,rfl,_⟩:=W0 w
 refine cT 31 func134 rfl (Af (J (J (Ar (Al ?_)))))
 cases hq1:decide (Mm n)with
 |true=>
  have hin:=bj hq1
  obtain⟨hin1,hin2⟩:=hin
  have hin:Mm n:=⟨hin1,hin2⟩
  refine Aa (Ac rfl (I (.fa (PEv.lss (.t rfl) (.const _)) (bg oQ)) (Ac rfl (Cq (Ac rfl (Cq (I (.fa (PEv.gtr (.t rfl) (.const _)) (bg oQ)) (I (.po rfl (fun hp=>(by exact .tmp rfl))) (Ai (CW.f rfl (Ak (Ab (Af (Ac rfl (A3 (eC (.o rfl) (IW)) rfl (dY n _ hin) ?_)))))))))))))))
  rintro _ w1 ⟨rfl,uw1⟩
  replace hW:=hW.up uw1
  refine LW.A rfl (Ar ?_)
  have hS:=(Sep.start no w1).add (Up.refl _) (A':=A8 5 1 Px (.slice none 0 0) ([]:List UInt8)) (OwnS.nil _ _ _ _ _) (fun i h=>by cases h)
  refine Aa (J (Ar (Ap (A9 (σ:=Nat×Go.Value×List UInt8) (fun s w=>(s.1<18446744073709551616)∧(s.2.2++Qa s.1=Qa (Sq n))∧(Wx.Sep no w1 w [A8 5 1 Px s.2.1 (s.2.2)])) (fun s=>[(4,.eq (vu s.1)),(5,.eq (s.2.1))]) ([(2,.eq _),(3,.eq _)]) (fun s=>s.1) (Sq n,.slice none 0 0,[]) ?_ tQ ?_))))
  ·exact⟨Yt hin.1 hin.2,rfl,hS⟩
  rintro⟨z,v,bs⟩ w2 ⟨hz,he,hS⟩
  dsimp only at hz he hS
  change CW _ _ _ _ _ _ _ ([(4,.eq (vu z)),(5,.eq (v))]++_) _
  refine Al (Af (Ac rfl (I (.geq (.t rfl) (.const _)) (Ai (CW.b rfl (fun h15=>?_) (fun h15=>?_))))))
  ·replace h15:=dQ h15
   have hz8:128≤z:=by omega
   refine Ak (Ab (Ap (Af (Ac rfl (Ac rfl (I (.rem (.t rfl) (.const _) cQ) (I (.Gk (.t rfl) (.const _)) (I (.val (v':=bv (UInt8.ofNat (z%128)|||128)) (PEv.conv (k':=.u8) (by rw[lz];rfl) nb (.t rfl)) LF) (Ao (.buildSlice (xs:=[_]) (enc:=Px) (mk:=bv) l_ sizeOf5 zeroValue5 rfl cQ (fun _=>rfl) (fun _=>rfl) (.cu rfl) rfl) rfl ?_)))))))))
   rintro _ w3 ⟨B21,cB21,rfl,NB21,yB21,xB21⟩
   replace hS:=hS.up NB21.up
   have hE21:=xB21
   refine Ao (.Cu (enc:=Px) (bytes:=1) (i:=Tryz.t5) l_ kQ rfl rfl rfl rfl cQ (fun _=>rfl) Te (.t rfl) (.t rfl) (hS.own 0 rfl) (Az hE21) (by have hl:=a_ List.length he;have:=Lu (Sq n);have:=Lu z;rw[au]at hl;simp[maxLen];omega) (by have hl:=a_ List.length he;have:=Lu (Sq n);rw[au]at hl;simp;omega)) rfl ?_
   intro v22 w4 Gw4
   replace hS:=hS.E5 0 rfl Gw4
   refine LW.A rfl (Ai (Aa (Ac rfl (I (.val (v':=vu (z/128)) (PEv.quo (.t rfl) (.const _) cQ) (by rw[Dv,vu,show((z:Int).tdiv 128)=((z/128:Nat):Int)from rfl];congr 1;omega)) (LW.A rfl (LW.nil (Ae (Aq ?_))))))))
   exact⟨(z/128,v22,bs++[UInt8.ofNat (z%128)|||128]),⟨by show z/128<18446744073709551616;omega,by rw[←he,vF (z:=z) oQ hz,dm];rfl,hS⟩,tQ,by show z/128<z;omega⟩
  replace h15:=dQ h15
  have hz8:z<128:=by omega
  refine A7 (Ad (Ad (Au (Ab (Af (Ac rfl (Ac rfl (I (.val (v':=bv (UInt8.ofNat z)) (PEv.conv (k':=.u8) (by rw[lz];rfl) nb (.t rfl)) jL) (Ao (.buildSlice (xs:=[_]) (enc:=Px) (mk:=bv) l_ sizeOf5 zeroValue5 rfl cQ (fun _=>rfl) (fun _=>rfl) (.cu rfl) rfl) rfl ?_)))))))))
  rintro _ w5 ⟨B28,cB28,rfl,NB28,yB28,xB28⟩
  replace hS:=hS.up NB28.up
  have hE28:=xB28
  refine Ao (.Cu (enc:=Px) (bytes:=1) (i:=Tryz.t5) l_ kQ rfl rfl rfl rfl cQ (fun _=>rfl) Te (.t rfl) (.t rfl) (hS.own 0 rfl) (Az hE28) (by have hl:=a_ List.length he;have:=Lu (Sq n);have:=Lu z;rw[au]at hl;simp[maxLen];omega) (by have hl:=a_ List.length he;have:=Lu (Sq n);rw[au]at hl;simp;omega)) rfl ?_
  intro v29 w6 Gw6
  replace hS:=hS.E5 0 rfl Gw6
  refine I (.qB l_ nb lu (.t rfl) (hS.own 0 rfl)) (LW.A rfl (J (Ai (Aj (Br rfl rfl rfl ⟨_,rfl,?_⟩)))))
  (rw[show Wx.encI n=Qa (Sq n)from kD hin,mM,ak hin,←he,iO hz8];exact⟨rfl,hW.trans hS.Cj⟩)
 |false=>
  have hin:=db hq1
  refine Aa (Ac rfl (I (.lss (.t rfl) (.const _)) (Ac rfl (Dk rfl rfl (LW.gr rfl (fun hc=>PEv.gtr vQ (.const _)) (I (.po rfl (fun hp=>(by exact .cond rfl (by simp_all)))) (Ai (CW.b rfl (fun h11=>?_) (fun h11=>?_)))))))))
  ·refine Af (J (J (Ai (Aj (Ah (Br rfl rfl rfl ⟨_,rfl,?_⟩))))))
   (rw[bC hin,mM,ae hin];exact⟨rfl,hW⟩)
  exfalso
  apply hin
  unfold Mm
  simp at h11
  omega
theorem Nn(t:ByteArray)(w:World)(ht:t.size≤65536):Ret prog 192 #[.string t] w fun r w'=>r=.tuple #[.string ⟨(Yv t.data.toList).toArray⟩,vi 0]∧Up w w':=by
 have hW:=Up.refl w
 obtain⟨w0,rfl,_⟩:=W0 w
 refine cT 18 func192 rfl (Af (J (J (Ar (Af (Ac rfl (I (.Lx lu (.t rfl)) (I (.fa (PEv.gtr (.t rfl) (.const _)) (bg oQ)) (Ai (CW.f rfl (Ak (Ab (Af (Ac rfl (I (.Lx lu (.t rfl)) (A3 (eC (.o rfl) (aE)) rfl (Iw _ _) ?_))))))))))))))))
 rintro _ w1 ⟨rfl,uw1⟩
 replace hW:=hW.up uw1
 refine Ac rfl (I (.xt rfl rfl) (I (.xt rfl rfl) (LW.A rfl (LW.A rfl (Ar (Aa (Ac rfl (Ac rfl (I (.K3 (.t rfl) (.t rfl) (by rw[D8];have:=Hs (t.size:Int);omega)) (LW.A rfl (J (Ai (Aj (Br rfl rfl rfl ⟨_,rfl,?_⟩))))))))))))))
 refine⟨?_,hW⟩
 rw[Rv,Yv,Nz]
theorem No(k:Int)(w:World):Ret prog 188 #[vi k] w fun r w'=>∃ad cp,r=.slice ad (F7 k).length cp∧Els w' ad 1 Cm (F7 k)∧Up w w':=by
 have hW:=Up.refl w
 obtain⟨w0,rfl,_⟩:=W0 w
 refine cT 37 func188 rfl (Af (J (Ar (Af (Ac rfl (Ai (Ap (Af (I (.eql (.t rfl) (.const _)) (LW.A rfl (Ai (CW.b rfl (fun h4=>?_) (fun h4=>?_)))))))))))))
 ·replace h4:=dQ h4
  have hkf:F7 k=[0,1,5,6,7,8,9,10,11,12]:=ak h4
  refine Af (Ao (.buildSlice (xs:=[0,1,5,6,7,8,9,10,11,12]) (enc:=Cm) (mk:=vi) lg lf ls rfl cQ (fun _=>rfl) (fun _=>rfl) (.cons (.const _) (.cons (.const _) (.cons (.const _) (.cons (.const _) (.cons (.const _) (.cons (.const _) (.cons (.const _) (.cons (.const _) (.cons (.const _) (.cons (.const _) .nil)))))))))) rfl) rfl ?_)
  rintro _ w1 ⟨B6,cB6,rfl,NB6,yB6,xB6⟩
  replace hW:=hW.up NB6.up
  have hB6:=NB6.blk
  have hE6:=xB6
  refine LW.A rfl (Ai (Aj (Aw (Ah (KW.q ?_)))))
  rw[hkf]
  exact⟨_,_,rfl,hE6,hW⟩
 replace h4:=dQ h4
 refine Af (I (.eql (.t rfl) (.const _)) (LW.A rfl (Ai (CW.b rfl (fun h7=>?_) (fun h7=>?_)))))
 ·replace h7:=dQ h7
  have hkf:F7 k=[0,10,12]:=(ae h4).trans (ak h7)
  refine Af (Ao (.buildSlice (xs:=[0,10,12]) (enc:=Cm) (mk:=vi) lg lf ls rfl cQ (fun _=>rfl) (fun _=>rfl) (.cons (.const _) (.cons (.const _) (.cons (.const _) .nil))) rfl) rfl ?_)
  rintro _ w2 ⟨B9,cB9,rfl,NB9,yB9,xB9⟩
  replace hW:=hW.up NB9.up
  have hB9:=NB9.blk
  have hE9:=xB9
  refine LW.A rfl (Ai (Aj (Aw (Ah (KW.q ?_)))))
  rw[hkf]
  exact⟨_,_,rfl,hE9,hW⟩
 replace h7:=dQ h7
 refine Af (I (.eql (.t rfl) (.const _)) (LW.A rfl (Ai (CW.b rfl (fun h10=>?_) (fun h10=>?_)))))
 ·replace h10:=dQ h10
  have hkf:F7 k=[0,1,2,10]:=(ae h4).trans ((ae h7).trans (ak h10))
  refine Af (Ao (.buildSlice (xs:=[0,1,2,10]) (enc:=Cm) (mk:=vi) lg lf ls rfl cQ (fun _=>rfl) (fun _=>rfl) (.cons (.const _) (.cons (.const _) (.cons (.const _) (.cons (.const _) .nil)))) rfl) rfl ?_)
  rintro _ w3 ⟨B12,cB12,rfl,NB12,yB12,xB12⟩
  replace hW:=hW.up NB12.up
  have hB12:=NB12.blk
  have hE12:=xB12
  refine LW.A rfl (Ai (Aj (Aw (Ah (KW.q ?_)))))
  rw[hkf]
  exact⟨_,_,rfl,hE12,hW⟩
 replace h10:=dQ h10
 refine Af (I (.eql (.t rfl) (.const _)) (LW.A rfl (Ai (CW.b rfl (fun h13=>?_) (fun h13=>?_)))))
 ·replace h13:=dQ h13
  have hkf:F7 k=[1,3,4,10]:=(ae h4).trans ((ae h7).trans ((ae h10).trans (ak h13)))
  refine Af (Ao (.buildSlice (xs:=[1,3,4,10]) (enc:=Cm) (mk:=vi) lg lf ls rfl cQ (fun _=>rfl) (fun _=>rfl) (.cons (.const _) (.cons (.const _) (.cons (.const _) (.cons (.const _) .nil)))) rfl) rfl ?_)
  rintro _ w4 ⟨B15,cB15,rfl,NB15,yB15,xB15⟩
  replace hW:=hW.up NB15.up
  have hB15:=NB15.blk
  have hE15:=xB15
  refine LW.A rfl (Ai (Aj (Aw (Ah (KW.q ?_)))))
  rw[hkf]
  exact⟨_,_,rfl,hE15,hW⟩
 replace h13:=dQ h13
 refine Af (I (.eql (.t rfl) (.const _)) (LW.A rfl (Ai (CW.b rfl (fun h16=>?_) (fun h16=>?_)))))
 ·replace h16:=dQ h16
  have hkf:F7 k=[4]:=(ae h4).trans ((ae h7).trans ((ae h10).trans ((ae h13).trans (ak h16))))
  refine Af (Ao (.buildSlice (xs:=[4]) (enc:=Cm) (mk:=vi) lg lf ls rfl cQ (fun _=>rfl) (fun _=>rfl) (.cons (.const _) .nil) rfl) rfl ?_)
  rintro _ w5 ⟨B18,cB18,rfl,NB18,yB18,xB18⟩
  replace hW:=hW.up NB18.up
  have hB18:=NB18.blk
  have hE18:=xB18
  refine LW.A rfl (Ai (Aj (Aw (Ah (KW.q ?_)))))
  rw[hkf]
  exact⟨_,_,rfl,hE18,hW⟩
 replace h16:=dQ h16
 refine Af (I (.eql (.t rfl) (.const _)) (LW.A rfl (Ai (CW.b rfl (fun h19=>?_) (fun h19=>?_)))))
 ·replace h19:=dQ h19
  have hkf:F7 k=[0,5,6,8,9,10,11]:=(ae h4).trans ((ae h7).trans ((ae h10).trans ((ae h13).trans ((ae h16).trans (ak h19)))))
  refine Af (Ao (.buildSlice (xs:=[0,5,6,8,9,10,11]) (enc:=Cm) (mk:=vi) lg lf ls rfl cQ (fun _=>rfl) (fun _=>rfl) (.cons (.const _) (.cons (.const _) (.cons (.const _) (.cons (.const _) (.cons (.const _) (.cons (.const _) (.cons (.const _) .nil))))))) rfl) rfl ?_)
  rintro _ w6 ⟨B21,cB21,rfl,NB21,yB21,xB21⟩
  replace hW:=hW.up NB21.up
  have hE21:=xB21
  refine LW.A rfl (Ai (Aj (Aw (Ah (KW.q ?_)))))
  rw[hkf]
  exact⟨_,_,rfl,hE21,hW⟩
 replace h19:=dQ h19
 refine Af (I (.eql (.t rfl) (.const _)) (LW.A rfl (Ai (CW.b rfl (fun h22=>?_) (fun h22=>?_)))))
 ·replace h22:=dQ h22
  have hkf:F7 k=[0,1,3,5,6,7,8,9,10,11,13]:=(ae h4).trans ((ae h7).trans ((ae h10).trans ((ae h13).trans ((ae h16).trans ((ae h19).trans (ak h22))))))
  refine Af (Ao (.buildSlice (xs:=[0,1,3,5,6,7,8,9,10,11,13]) (enc:=Cm) (mk:=vi) lg lf ls rfl cQ (fun _=>rfl) (fun _=>rfl) (.cons (.const _) (.cons (.const _) (.cons (.const _) (.cons (.const _) (.cons (.const _) (.cons (.const _) (.cons (.const _) (.cons (.const _) (.cons (.const _) (.cons (.const _) (.cons (.const _) .nil))))))))))) rfl) rfl ?_)
  rintro _ w7 ⟨B24,cB24,rfl,NB24,yB24,xB24⟩
  replace hW:=hW.up NB24.up
  have hE24:=xB24
  refine LW.A rfl (Ai (Aj (Aw (Ah (KW.q ?_)))))
  rw[hkf]
  exact⟨_,_,rfl,hE24,hW⟩
 replace h22:=dQ h22
 refine Af (I (.eql (.t rfl) (.const _)) (LW.A rfl (Ai (CW.b rfl (fun h25=>?_) (fun h25=>?_)))))
 ·replace h25:=dQ h25
  have hkf:F7 k=[2,13,10]:=(ae h4).trans ((ae h7).trans ((ae h10).trans ((ae h13).trans ((ae h16).trans ((ae h19).trans ((ae h22).trans (ak h25)))))))
  refine Af (Ao (.buildSlice (xs:=[2,13,10]) (enc:=Cm) (mk:=vi) lg lf ls rfl cQ (fun _=>rfl) (fun _=>rfl) (.cons (.const _) (.cons (.const _) (.cons (.const _) .nil))) rfl) rfl ?_)
  rintro _ w8 ⟨B27,cB27,rfl,NB27,yB27,xB27⟩
  replace hW:=hW.up NB27.up
  have hE27:=xB27
  refine LW.A rfl (Ai (Aj (Aw (Ah (KW.q ?_)))))
  rw[hkf]
  exact⟨_,_,rfl,hE27,hW⟩
 replace h25:=dQ h25
 refine Af (I (.eql (.t rfl) (.const _)) (LW.A rfl (Ai (CW.b rfl (fun h28=>?_) (fun h28=>?_)))))
 ·replace h28:=dQ h28
  have hkf:F7 k=[0,5,6,10]:=(ae h4).trans ((ae h7).trans ((ae h10).trans ((ae h13).trans ((ae h16).trans ((ae h19).trans ((ae h22).trans ((ae h25).trans (ak h28))))))))
  refine Af (Ao (.buildSlice (xs:=[0,5,6,10]) (enc:=Cm) (mk:=vi) lg lf ls rfl cQ (fun _=>rfl) (fun _=>rfl) (.cons (.const _) (.cons (.const _) (.cons (.const _) (.cons (.const _) .nil)))) rfl) rfl ?_)
  rintro _ w9 ⟨B30,cB30,rfl,NB30,yB30,xB30⟩
  replace hW:=hW.up NB30.up
  have hE30:=xB30
  refine LW.A rfl (Ai (Aj (Aw (Ah (KW.q ?_)))))
  rw[hkf]
  exact⟨_,_,rfl,hE30,hW⟩
 replace h28:=dQ h28
 refine Af (I (.eql (.t rfl) (.const _)) (LW.A rfl (Ai (CW.b rfl (fun h31=>?_) (fun h31=>?_)))))
 ·replace h31:=dQ h31
  have hkf:F7 k=[8,10,12]:=(ae h4).trans ((ae h7).trans ((ae h10).trans ((ae h13).trans ((ae h16).trans ((ae h19).trans ((ae h22).trans ((ae h25).trans ((ae h28).trans (ak h31)))))))))
  refine Af (Ao (.buildSlice (xs:=[8,10,12]) (enc:=Cm) (mk:=vi) lg lf ls rfl cQ (fun _=>rfl) (fun _=>rfl) (.cons (.const _) (.cons (.const _) (.cons (.const _) .nil))) rfl) rfl ?_)
  rintro _ w10 ⟨B33,cB33,rfl,NB33,yB33,xB33⟩
  replace hW:=hW.up NB33.up
  have hE33:=xB33
  refine LW.A rfl (Ai (Aj (Aw (Ah (KW.q ?_)))))
  rw[hkf]
  exact⟨_,_,rfl,hE33,hW⟩
 replace h31:=dQ h31
 refine Af (I (.eql (.t rfl) (.const _)) (LW.A rfl (Ai (CW.b rfl (fun h34=>?_) (fun h34=>?_)))))
 ·replace h34:=dQ h34
  have hkf:F7 k=[0,5,6,10,11]:=(ae h4).trans ((ae h7).trans ((ae h10).trans ((ae h13).trans ((ae h16).trans ((ae h19).trans ((ae h22).trans ((ae h25).trans ((ae h28).trans ((ae h31).trans (ak h34))))))))))
  refine Af (Ao (.buildSlice (xs:=[0,5,6,10,11]) (enc:=Cm) (mk:=vi) lg lf ls rfl cQ (fun _=>rfl) (fun _=>rfl) (.cons (.const _) (.cons (.const _) (.cons (.const _) (.cons (.const _) (.cons (.const _) .nil))))) rfl) rfl ?_)
  rintro _ w11 ⟨B36,cB36,rfl,NB36,yB36,xB36⟩
  replace hW:=hW.up NB36.up
  have hE36:=xB36
  refine LW.A rfl (Ai (Aj (Aw (Ah (KW.q ?_)))))
  rw[hkf]
  exact⟨_,_,rfl,hE36,hW⟩
 replace h34:=dQ h34
 have hkf:F7 k=[]:=(ae h4).trans ((ae h7).trans ((ae h10).trans ((ae h13).trans ((ae h16).trans ((ae h19).trans ((ae h22).trans ((ae h25).trans ((ae h28).trans ((ae h31).trans (ae h34))))))))))
 refine Ak (Ae (Ab (Af (J (Ai (Aj (KW.q ?_)))))))
 rw[hkf]
 exact⟨none,0,rfl,fun i x h=>by simp at h,hW⟩
theorem dZ(ad:Option Addr)(cp:Nat)(l:List Int)(n:Int)(w:World)(hE:Els w ad 1 Cm l)(hl:l.length≤1000):Ret prog 190 #[.slice ad l.length cp,vi n] w fun r w'=>r=.bool (Vr l n)∧Up w w':=by
 have hW:=Up.refl w
 obtain⟨w0,rfl,_⟩:=W0 w
 refine cT 18 func190 rfl (Af (J (Ar (Af (J (Ai (Ap (A9 (σ:=Nat) (fun s w=>(s≤l.length)∧(((l.take s).any fun x=>decide (x=n))=false)∧(Up w0 w)) (fun s=>[(5,.eq (vi (s:Int)))]) ([(0,.eq _),(1,.eq _)]) (fun s=>l.length-s) 0 ?_ tQ ?_))))))))
 ·exact⟨ao _,rfl,hW⟩
 rintro i w1 ⟨hi,hq,hW⟩
 refine Al (Af (Ac rfl (Ac rfl (I (.Df lg (.t rfl)) (I (.l2 rfl rfl) (Ai (CW.b rfl (fun h9=>?_) (fun h9=>?_))))))))
 ·replace h9:=dQ h9
  refine Ak (Ab (Al (Ap (Al ?_))))
  obtain⟨x,hx⟩:=Av (xs:=l) (i:=i) oQ
  obtain⟨Bx,ox,ax,hcx⟩:=(Els.up hE hW) i x hx
  refine Aa (Ac rfl (Ac rfl (I (.Ay lg lf (.t rfl) (.t rfl) oQ ax) (I (.lb rfl (hcx.nth (j:=0) rfl)) (Ac rfl (I (.eql (.t rfl) (.t rfl)) (Ai (CW.b rfl (fun h17=>?_) (fun h17=>?_)))))))))
  ·replace h17:=dQ h17
   refine Af (J (Ai (Aj (Aw (Ah (Ah (Aw (Ah (KW.q ?_)))))))))
   exact⟨by rw[show Vr l n=true from fm.2 ⟨x,am hx,a8 h17⟩],hW⟩
  replace h17:=dQ h17
  refine Ak (Ae (Ab (Aa (Ac rfl (I (.ic rfl oQ) (LW.A rfl (LW.nil (Aq ?_))))))))
  exact⟨i+1,⟨by omega,oU hx hq h17,hW⟩,tQ,by omega⟩
 replace h9:=dQ h9
 refine A7 (Ad (Ad (Au (Ab (Af (J (Ai (Aj (KW.q ?_)))))))))
 exact⟨by rw[show i=l.length by omega,br]at hq;rw[show Vr l n=false from hq],hW⟩
set_option maxHeartbeats 2000000 in
theorem eD(k j:Int)(w:World):Ret prog 189 #[vi k,vi j] w fun r w'=>r=.tuple #[vi (Gv k j).1,vi (Gv k j).2]∧Up w w':=by
 have hW:=Up.refl w
 obtain⟨w0,rfl,_⟩:=W0 w
 refine cT 38 func189 rfl (Af (J (J (Ar (Aa (Ac rfl (I (.eql (.t rfl) (.const _)) (LW.A rfl (Ar (Aa (J (Ar (Af (Ac rfl (Ai (CW.b rfl (fun h10=>?_) (fun h10=>?_)))))))))))))))))
 ·refine Aa (J (Ar (Af (Ac rfl (Ai (Ap (Af (I (.eql (.t rfl) (.const _)) (LW.A rfl (Ai (CW.b rfl (fun h12=>?_) (fun h12=>?_))))))))))))
  ·refine Af (Ac rfl (I (.add (.const _) (.t rfl) oQ oQ) (J (LW.A rfl (Ai (Aj (Aw (Ah (Br rfl rfl rfl ⟨_,rfl,?_⟩)))))))))
   refine⟨?_,hW⟩
   unfold Gv
   (simp_all<;>omega)
  refine Af (I (.eql (.t rfl) (.const _)) (LW.A rfl (Ai (CW.b rfl (fun h16=>?_) (fun h16=>?_)))))
  ·refine Af (Ac rfl (I (.add (.const _) (.t rfl) oQ oQ) (J (LW.A rfl (Ai (Aj (Aw (Ah (Br rfl rfl rfl ⟨_,rfl,?_⟩)))))))))
   refine⟨?_,hW⟩
   unfold Gv
   (simp_all<;>omega)
  refine Af (I (.eql (.t rfl) (.const _)) (LW.A rfl (Ai (CW.b rfl (fun h20=>?_) (fun h20=>?_)))))
  ·refine Af (Ac rfl (I (.add (.const _) (.t rfl) oQ oQ) (J (LW.A rfl (Ai (Aj (Aw (Ah (Br rfl rfl rfl ⟨_,rfl,?_⟩)))))))))
   refine⟨?_,hW⟩
   unfold Gv
   (simp_all<;>omega)
  refine Al (Af (I (.eql (.t rfl) (.const _)) (LW.A rfl (Ai (CW.b rfl (fun h24=>?_) (fun h24=>?_))))))
  ·refine Ak (Ab (CW.b rfl (fun h24=>?_) (fun h24=>?_)))
   ·refine Af (J (J (Ai (Aj (Aw (Ah (Br rfl rfl rfl ⟨_,rfl,?_⟩)))))))
    refine⟨?_,hW⟩
    unfold Gv
    (simp_all<;>omega)
   refine Af (I (.eql (.t rfl) (.const _)) (LW.A rfl (Ai (CW.b rfl (fun h27=>?_) (fun h27=>?_)))))
   ·refine Af (J (J (Ai (Aj (Aw (Ah (Br rfl rfl rfl ⟨_,rfl,?_⟩)))))))
    refine⟨?_,hW⟩
    unfold Gv
    (simp_all<;>omega)
   refine Af (I (.eql (.t rfl) (.const _)) (LW.A rfl (Ai (CW.b rfl (fun h29=>?_) (fun h29=>?_)))))
   ·refine Al (Af (Ac rfl (I (.eql (.t rfl) (.const _)) (Ai (CW.b rfl (fun h32=>?_) (fun h32=>?_))))))
    ·refine Af (J (J (Ai (Aj (Ah (Aw (Ah (Br rfl rfl rfl ⟨_,rfl,?_⟩))))))))
     refine⟨?_,hW⟩
     unfold Gv
     (simp_all<;>omega)
    refine Ak (Ab (Af (J (J (Ai (Aj (Aw (Ah (Br rfl rfl rfl ⟨_,rfl,?_⟩)))))))))
    refine⟨?_,hW⟩
    unfold Gv
    (simp_all<;>omega)
   refine Ak (Ae (Ab (Al (Af (Ac rfl (Ac rfl (Dk rfl rfl (LW.gr rfl (fun hc=>PEv.neq vQ (.const _)) (I (.pa rfl (fun hp=>(by exact .cond rfl (by simp_all)))) (Ai (CW.b rfl (fun h37=>?_) (fun h37=>?_))))))))))))
   ·refine Af (J (J (Ai (Aj (Ah (Br rfl rfl rfl ⟨_,rfl,?_⟩))))))
    refine⟨?_,hW⟩
    unfold Gv
    (simp_all<;>omega)
   refine Ak (Ab (Af (J (J (Ai (Aj (Br rfl rfl rfl ⟨_,rfl,?_⟩)))))))
   refine⟨?_,hW⟩
   unfold Gv
   (simp_all<;>omega)
  refine Aa (I (.eql (.t rfl) (.const _)) (LW.A rfl (Ai (CW.b rfl (fun h24=>?_) (fun h24=>?_)))))
  ·refine Af (J (J (Ai (Aj (Aw (Ah (Br rfl rfl rfl ⟨_,rfl,?_⟩)))))))
   refine⟨?_,hW⟩
   unfold Gv
   (simp_all<;>omega)
  refine Af (I (.eql (.t rfl) (.const _)) (LW.A rfl (Ai (CW.b rfl (fun h27=>?_) (fun h27=>?_)))))
  ·refine Af (J (J (Ai (Aj (Aw (Ah (Br rfl rfl rfl ⟨_,rfl,?_⟩)))))))
   refine⟨?_,hW⟩
   unfold Gv
   (simp_all<;>omega)
  refine Af (I (.eql (.t rfl) (.const _)) (LW.A rfl (Ai (CW.b rfl (fun h29=>?_) (fun h29=>?_)))))
  ·refine Al (Af (Ac rfl (I (.eql (.t rfl) (.const _)) (Ai (CW.b rfl (fun h32=>?_) (fun h32=>?_))))))
   ·refine Af (J (J (Ai (Aj (Ah (Aw (Ah (Br rfl rfl rfl ⟨_,rfl,?_⟩))))))))
    refine⟨?_,hW⟩
    unfold Gv
    (simp_all<;>omega)
   refine Ak (Ab (Af (J (J (Ai (Aj (Aw (Ah (Br rfl rfl rfl ⟨_,rfl,?_⟩)))))))))
   refine⟨?_,hW⟩
   unfold Gv
   (simp_all<;>omega)
  refine Ak (Ae (Ab (Al (Af (Ac rfl (Ac rfl (Dk rfl rfl (LW.gr rfl (fun hc=>PEv.neq vQ (.const _)) (I (.pa rfl (fun hp=>(by exact .cond rfl (by simp_all)))) (Ai (CW.b rfl (fun h37=>?_) (fun h37=>?_))))))))))))
  ·refine Af (J (J (Ai (Aj (Ah (Br rfl rfl rfl ⟨_,rfl,?_⟩))))))
   refine⟨?_,hW⟩
   unfold Gv
   (simp_all<;>omega)
  refine Ak (Ab (Af (J (J (Ai (Aj (Br rfl rfl rfl ⟨_,rfl,?_⟩)))))))
  refine⟨?_,hW⟩
  unfold Gv
  (simp_all<;>omega)
 refine Ak (Ab (Al (Af (Ac rfl (Ai (Ap (Af (I (.eql (.t rfl) (.const _)) (LW.A rfl (Ai (CW.b rfl (fun h12=>?_) (fun h12=>?_))))))))))))
 ·refine Af (Ac rfl (I (.add (.const _) (.t rfl) oQ oQ) (J (LW.A rfl (Ai (Aj (Aw (Ah (Br rfl rfl rfl ⟨_,rfl,?_⟩)))))))))
  refine⟨?_,hW⟩
  unfold Gv
  (simp_all<;>omega)
 refine Af (I (.eql (.t rfl) (.const _)) (LW.A rfl (Ai (CW.b rfl (fun h16=>?_) (fun h16=>?_)))))
 ·refine Af (Ac rfl (I (.add (.const _) (.t rfl) oQ oQ) (J (LW.A rfl (Ai (Aj (Aw (Ah (Br rfl rfl rfl ⟨_,rfl,?_⟩)))))))))
  refine⟨?_,hW⟩
  unfold Gv
  (simp_all<;>omega)
 refine Af (I (.eql (.t rfl) (.const _)) (LW.A rfl (Ai (CW.b rfl (fun h20=>?_) (fun h20=>?_)))))
 ·refine Af (Ac rfl (I (.add (.const _) (.t rfl) oQ oQ) (J (LW.A rfl (Ai (Aj (Aw (Ah (Br rfl rfl rfl ⟨_,rfl,?_⟩)))))))))
  refine⟨?_,hW⟩
  unfold Gv
  (simp_all<;>omega)
 refine Al (Af (I (.eql (.t rfl) (.const _)) (LW.A rfl (Ai (CW.b rfl (fun h24=>?_) (fun h24=>?_))))))
 ·refine Ak (Ab (CW.b rfl (fun h24=>?_) (fun h24=>?_)))
  ·refine Af (J (J (Ai (Aj (Aw (Ah (Br rfl rfl rfl ⟨_,rfl,?_⟩)))))))
   refine⟨?_,hW⟩
   unfold Gv
   (simp_all<;>omega)
  refine Af (I (.eql (.t rfl) (.const _)) (LW.A rfl (Ai (CW.b rfl (fun h27=>?_) (fun h27=>?_)))))
  ·refine Af (J (J (Ai (Aj (Aw (Ah (Br rfl rfl rfl ⟨_,rfl,?_⟩)))))))
   refine⟨?_,hW⟩
   unfold Gv
   (simp_all<;>omega)
  refine Af (I (.eql (.t rfl) (.const _)) (LW.A rfl (Ai (CW.b rfl (fun h29=>?_) (fun h29=>?_)))))
  ·refine Al (Af (Ac rfl (I (.eql (.t rfl) (.const _)) (Ai (CW.b rfl (fun h32=>?_) (fun h32=>?_))))))
   ·refine Af (J (J (Ai (Aj (Ah (Aw (Ah (Br rfl rfl rfl ⟨_,rfl,?_⟩))))))))
    refine⟨?_,hW⟩
    unfold Gv
    (simp_all<;>omega)
   refine Ak (Ab (Af (J (J (Ai (Aj (Aw (Ah (Br rfl rfl rfl ⟨_,rfl,?_⟩)))))))))
   refine⟨?_,hW⟩
   unfold Gv
   (simp_all<;>omega)
  refine Ak (Ae (Ab (Al (Af (Ac rfl (Ac rfl (Dk rfl rfl (LW.gr rfl (fun hc=>PEv.neq vQ (.const _)) (I (.pa rfl (fun hp=>(by exact .cond rfl (by simp_all)))) (Ai (CW.b rfl (fun h37=>?_) (fun h37=>?_))))))))))))
  ·refine Af (J (J (Ai (Aj (Ah (Br rfl rfl rfl ⟨_,rfl,?_⟩))))))
   refine⟨?_,hW⟩
   unfold Gv
   (simp_all<;>omega)
  refine Ak (Ab (Af (J (J (Ai (Aj (Br rfl rfl rfl ⟨_,rfl,?_⟩)))))))
  refine⟨?_,hW⟩
  unfold Gv
  (simp_all<;>omega)
 refine Aa (I (.eql (.t rfl) (.const _)) (LW.A rfl (Ai (CW.b rfl (fun h24=>?_) (fun h24=>?_)))))
 ·refine Af (J (J (Ai (Aj (Aw (Ah (Br rfl rfl rfl ⟨_,rfl,?_⟩)))))))
  refine⟨?_,hW⟩
  unfold Gv
  (simp_all<;>omega)
 refine Af (I (.eql (.t rfl) (.const _)) (LW.A rfl (Ai (CW.b rfl (fun h27=>?_) (fun h27=>?_)))))
 ·refine Af (J (J (Ai (Aj (Aw (Ah (Br rfl rfl rfl ⟨_,rfl,?_⟩)))))))
  refine⟨?_,hW⟩
  unfold Gv
  (simp_all<;>omega)
 refine Af (I (.eql (.t rfl) (.const _)) (LW.A rfl (Ai (CW.b rfl (fun h29=>?_) (fun h29=>?_)))))
 ·refine Al (Af (Ac rfl (I (.eql (.t rfl) (.const _)) (Ai (CW.b rfl (fun h32=>?_) (fun h32=>?_))))))
  ·refine Af (J (J (Ai (Aj (Ah (Aw (Ah (Br rfl rfl rfl ⟨_,rfl,?_⟩))))))))
   refine⟨?_,hW⟩
   unfold Gv
   (simp_all<;>omega)
  refine Ak (Ab (Af (J (J (Ai (Aj (Aw (Ah (Br rfl rfl rfl ⟨_,rfl,?_⟩)))))))))
  refine⟨?_,hW⟩
  unfold Gv
  (simp_all<;>omega)
 refine Ak (Ae (Ab (Al (Af (Ac rfl (Ac rfl (Dk rfl rfl (LW.gr rfl (fun hc=>PEv.neq vQ (.const _)) (I (.pa rfl (fun hp=>(by exact .cond rfl (by simp_all)))) (Ai (CW.b rfl (fun h37=>?_) (fun h37=>?_))))))))))))
 ·refine Af (J (J (Ai (Aj (Ah (Br rfl rfl rfl ⟨_,rfl,?_⟩))))))
  refine⟨?_,hW⟩
  unfold Gv
  (simp_all<;>omega)
 refine Ak (Ab (Af (J (J (Ai (Aj (Br rfl rfl rfl ⟨_,rfl,?_⟩)))))))
 refine⟨?_,hW⟩
 unfold Gv
 (simp_all<;>omega)
set_option maxHeartbeats 4000000 in
theorem Vw(f:Fact)(w:World):Ret prog 133 #[.agg f.cells] w fun r w'=>r=.bool (Bw f)∧Up w w':=by
 have hW:=Up.refl w
 obtain⟨w0,rfl,_⟩:=W0 w
 refine cT 111 func133 rfl (Af (Ao (.bA rfl) rfl ?_))
 rintro _ w1 ⟨B1,rfl,NB1⟩
 replace hW:=hW.up NB1.up
 have hB1:=NB1.blk
 refine J (Ar (Aa (I (.fB 0 rfl) (I (.lb rfl (hB1.An rfl)) (A3 (eC (.o rfl) (pS)) rfl (No f.Kind _) ?_)))))
 rintro _ w2 ⟨adl,cpl,rfl,hEl,uw2⟩
 replace hW:=hW.up uw2
 replace hB1:=hB1.up uw2
 have hfl:=Nl f.Kind
 refine LW.A rfl (Ar (Af (Ac rfl (I (.Df lg (.t rfl)) (I (.eql (.t rfl) (.const _)) (Ac rfl (LW.gr rfl (fun hc=>PEv.fB 2 rfl) (LW.gr rfl (fun hc=>PEv.load ly vQ (hB1.An rfl)) (LW.gr rfl (fun hc=>PEv.lss vQ (.const _)) (I (.po rfl (fun hp=>(by exact .cond rfl (by(rw[hp];rfl))))) (Ac rfl (LW.gr rfl (fun hc=>PEv.fB 2 rfl) (LW.gr rfl (fun hc=>PEv.load ly vQ (hB1.An rfl)) (LW.gr rfl (fun hc=>PEv.gtr vQ (.const _)) (I (.po rfl (fun hp=>(by exact .cond rfl (by(rw[hp];rfl))))) (Ac rfl (LW.gr rfl (fun hc=>PEv.fB 3 rfl) (LW.gr rfl (fun hc=>PEv.load ly vQ (hB1.An rfl)) (LW.gr rfl (fun hc=>PEv.lss vQ (.const _)) (I (.po rfl (fun hp=>(by exact .cond rfl (by(rw[hp];rfl))))) (Ac rfl (LW.gr rfl (fun hc=>PEv.fB 3 rfl) (LW.gr rfl (fun hc=>PEv.load ly vQ (hB1.An rfl)) (LW.gr rfl (fun hc=>PEv.gtr vQ (.const _)) (I (.po rfl (fun hp=>(by exact .cond rfl (by(rw[hp];rfl))))) (Ac rfl (LW.gr rfl (fun hc=>PEv.fB 18 rfl) (LW.gr rfl (fun hc=>PEv.load isAgg9 vQ (hB1.An rfl)) (LW.gr rfl (fun hc=>PEv.Lx lu vQ) (LW.gr rfl (fun hc=>PEv.gtr vQ (.const _)) (I (.po rfl (fun hp=>(by exact .cond rfl (by(rw[hp];rfl))))) (Ac rfl (LW.gr rfl (fun hc=>PEv.fB 0 rfl) (LW.gr rfl (fun hc=>PEv.load ly vQ (hB1.An rfl)) (LW.gr rfl (fun hc=>PEv.neq vQ (.const _)) (LW.gr rfl (fun hc=>PEv.move vQ) (E0 rfl rfl rfl rfl rfl rfl rfl (fun hc=>PEv.fB 18 rfl) (E0 rfl rfl rfl rfl rfl rfl rfl (fun hc=>PEv.load isAgg9 vQ (hB1.An rfl)) (E0 rfl rfl rfl rfl rfl rfl rfl (fun hc=>PEv.fE vQ (.const _)) (LW.gr rfl (fun hc=>PEv.De vQ (fun hp=>(by exact .cond rfl (by(rw[hc,hp];rfl))))) (I (.po rfl (fun hp=>(by exact .cond rfl (by(rw[hp];rfl))))) (Ai (CW.b rfl (fun h51=>?_) (fun h51=>?_))))))))))))))))))))))))))))))))))))))))))))
 ·replace h51:=dQ h51
  have hc:Vs f=true:=by unfold Vs;simpa[Bool.or_assoc]using h51
  refine Af (J (Ai (Aj (Ah (KW.q ?_)))))
  refine⟨?_,hW⟩
  rw[←Vv]
  rw[←iP hc]
 replace h51:=dQ h51
 have hc:Vs f=false:=by unfold Vs;rw[←jo];simpa[Bool.or_assoc]using h51
 refine Ak (Ab (Al (Af (J (Ai (Ap (A9 (σ:=Nat) (fun s w=>(s≤14)∧(∀j,j<s→Pw f j=false)∧(Up w0 w)∧(Els w adl 1 Cm (F7 f.Kind))∧(Blk w B1 f.cells 51)) (fun s=>[(4,.eq (vi (s:Int)))]) ([(1,.eq _),(3,.eq _)]) (fun s=>14-s) 0 ?_ tQ ?_)))))))
 ·exact⟨ao _,fun j hj=>absurd hj (Nat.not_lt_zero _),hW,hEl,hB1⟩
 rintro i w3 ⟨hi,hq,hW,hEl,hB1⟩
 refine Al (Af (Ac rfl (I (.leq (.t rfl) (.const _)) (Ai (CW.b rfl (fun h53=>?_) (fun h53=>?_))))))
 ·replace h53:=dQ h53
  refine Ak (Ab (Al (Ap (Af (I (.lc rfl (hB1.agg)) (Ac rfl (A3 (eC (.u rfl rfl) (aH)) rfl (Q6 f i _ oQ) ?_)))))))
  rintro _ w4 ⟨rfl,uw4⟩
  replace hW:=hW.up uw4
  replace hEl:=hEl.up uw4
  replace hB1:=hB1.up uw4
  refine LW.A rfl (Ar (Aa (I (.fB 0 rfl) (I (.lb rfl (hB1.An rfl)) (Ac rfl (A3 (eC (.u rfl rfl) (IV)) rfl (eD f.Kind (i:Int) _) ?_))))))
  rintro _ w5 ⟨rfl,uw5⟩
  replace hW:=hW.up uw5
  replace hEl:=hEl.up uw5
  replace hB1:=hB1.up uw5
  refine Ac rfl (I (.xt rfl rfl) (I (.xt rfl rfl) (LW.A rfl (LW.A rfl (Ar (Aa (Ac rfl (Ac rfl (A3 (eC (.u rfl rfl) (BL)) rfl (dZ _ _ _ _ _ hEl oQ) ?_)))))))))
  rintro _ w6 ⟨rfl,uw6⟩
  replace hW:=hW.up uw6
  replace hEl:=hEl.up uw6
  replace hB1:=hB1.up uw6
  refine LW.A rfl (Ar (Aa (Ac rfl (Ac rfl (Dk rfl rfl (Dk rfl rfl (LW.gr rfl (fun hc=>PEv.lss vQ vQ) (LW.gr rfl (fun hc=>PEv.move vQ) (E0 rfl rfl rfl rfl rfl rfl rfl (fun hc=>PEv.mv rfl) (E0 rfl rfl rfl rfl rfl rfl rfl (fun hc=>PEv.mv rfl) (E0 rfl rfl rfl rfl rfl rfl rfl (fun hc=>PEv.gtr vQ vQ) (LW.gr rfl (fun hc=>PEv.Ee vQ (fun hp=>(by exact .cond rfl (by(rw[hc,hp];rfl))))) (I (.pa rfl (fun hp=>(by exact .cond rfl (by(rw[hp];rfl))))) (Ac rfl (Dk rfl rfl (LW.gr rfl (fun hc=>PEv.not vQ) (LW.gr rfl (fun hc=>PEv.move vQ) (E0 rfl rfl rfl rfl rfl rfl rfl (fun hc=>PEv.mv rfl) (E0 rfl rfl rfl rfl rfl rfl rfl (fun hc=>PEv.neq vQ (.const _)) (LW.gr rfl (fun hc=>PEv.De vQ (fun hp=>(by exact .cond rfl (by(rw[hc,hp];rfl))))) (I (.po rfl (fun hp=>(by exact .cond rfl (by(rw[hp];rfl))))) (Ai (CW.b rfl (fun h87=>?_) (fun h87=>?_))))))))))))))))))))))))
  ·replace h87:=dQ h87
   have hb:Pw f i=true:=by unfold Pw;simpa using h87
   refine Af (J (Ai (Aj (Aw (Ah (Ah (Aw (Ah (KW.q ?_)))))))))
   refine⟨?_,hW⟩
   rw[←Vv]
   rw[←iQ oQ hb]
  replace h87:=dQ h87
  have hb:Pw f i=false:=by unfold Pw;rw[←jo];simpa using h87
  refine Ak (Ae (Ab (Aa (Ac rfl (I (.ic rfl oQ) (LW.A rfl (LW.nil (Aq ?_))))))))
  exact⟨i+1,⟨by omega,fun j hj=>by rcases Nat.lt_succ_iff_lt_or_eq.1 hj with h|h;exact hq j h;rw[h];exact hb,hW,hEl,hB1⟩,tQ,by omega⟩
 replace h53:=dQ h53
 have hi14:i=14:=by omega
 subst hi14
 refine A7 (Ad (Ad (Au (Ab (Af (Ac rfl (A3 (eC (.ct rfl (.cons (.const _) .nil)) (BL)) rfl (dZ _ _ _ _ _ hEl oQ) ?_)))))))
 rintro _ w7 ⟨rfl,uw7⟩
 replace hW:=hW.up uw7
 replace hEl:=hEl.up uw7
 replace hB1:=hB1.up uw7
 refine LW.A rfl (Ar (Aa (Ac rfl (I (.n1 rfl) (Ac rfl (LW.gr rfl (fun hc=>PEv.fB 5 rfl) (LW.gr rfl (fun hc=>PEv.load ly vQ (hB1.An rfl)) (LW.gr rfl (fun hc=>PEv.fB 6 rfl) (LW.gr rfl (fun hc=>PEv.load ly vQ (hB1.An rfl)) (LW.gr rfl (fun hc=>PEv.leq vQ vQ) (I (.po rfl (fun hp=>(by exact .cond rfl (by(rw[hp];rfl))))) (Ac rfl (LW.gr rfl (fun hc=>PEv.fB 0 rfl) (LW.gr rfl (fun hc=>PEv.load ly vQ (hB1.An rfl)) (LW.gr rfl (fun hc=>PEv.neq vQ (.const _)) (LW.gr rfl (fun hc=>PEv.move vQ) (E0 rfl rfl rfl rfl rfl rfl rfl (fun hc=>PEv.fB 7 rfl) (E0 rfl rfl rfl rfl rfl rfl rfl (fun hc=>PEv.load ly vQ (hB1.An rfl)) (E0 rfl rfl rfl rfl rfl rfl rfl (fun hc=>PEv.fB 8 rfl) (E0 rfl rfl rfl rfl rfl rfl rfl (fun hc=>PEv.load ly vQ (hB1.An rfl)) (E0 rfl rfl rfl rfl rfl rfl rfl (fun hc=>PEv.neq vQ vQ) (LW.gr rfl (fun hc=>PEv.Ee vQ (fun hp=>(by exact .cond rfl (by(rw[hc,hp];rfl))))) (I (.pa rfl (fun hp=>(by exact .cond rfl (by(rw[hp];rfl))))) (LW.A rfl (Ai (Aj (KW.q ?_)))))))))))))))))))))))))))
 refine⟨?_,hW⟩
 rw[←Vv]
 (rw[←Vt hc hq];unfold vG;congr 1)
theorem Vx(ad:Option Addr)(cp:Nat)(f:Fact)(l:List Int)(w:World)(hE:Els w ad 1 Cm l)(hl:∀n∈l,0≤n∧n<14)(hlen:l.length≤1000):Ret prog 135 #[.agg f.cells,.slice ad l.length cp] w fun r w'=>r=.string ⟨(Cc (l.map (F6 f))).toArray⟩∧Up w w':=by
 have hW:=Up.refl w
 obtain⟨w0,rfl,_⟩:=W0 w
 refine cT 29 func135 rfl (Af (Ao (.bA rfl) rfl ?_))
 rintro _ w1 ⟨B2,rfl,NB2⟩
 replace hW:=hW.up NB2.up
 have hB2:=NB2.blk
 refine J (Ar (Aa (J (Ar (Af (J (Ai (Ap (A9 (σ:=Nat) (fun s w=>(s≤l.length)∧(Up w0 w)∧(Blk w B2 f.cells 51)) (fun s=>[(6,.eq (vi (s:Int))),(5,.eq (.string ⟨(Cc ((l.map (F6 f)).take s)).toArray⟩))]) ([(1,.eq _),(2,.eq _),(4,.eq _)]) (fun s=>l.length-s) 0 ?_ tQ ?_)))))))))
 ·exact⟨ao _,hW,hB2⟩
 rintro k w2 ⟨hk,hW,hB2⟩
 refine Al (Af (Ac rfl (Ac rfl (I (.Df lg (.t rfl)) (I (.l2 rfl rfl) (Ai (CW.b rfl (fun h12=>?_) (fun h12=>?_))))))))
 ·replace h12:=dQ h12
  refine Ak (Ab (Al (Ap (Al ?_))))
  obtain⟨x,hx⟩:=Av (xs:=l) (i:=k) oQ
  obtain⟨Bx,ox,ax,hcx⟩:=(Els.up hE hW) k x hx
  obtain⟨hx0,hx14⟩:=hl x (am hx)
  obtain⟨n,rfl⟩:∃n:Nat,x=(n:Int):=⟨x.toNat,by omega⟩
  have hn14:n<14:=by omega
  have hLx:(l.map (F6 f))[k]?=some (F6 f (n:Int)):=by simp[hx]
  refine Cg kQ kQ rfl rfl (Am (.lc rfl (hB2.agg)) (Am (.mv rfl) (Am (.mv rfl) (Am (.Ay lg lf (.t rfl) (.t rfl) oQ ax) (Am (.lb rfl (hcx.nth (j:=0) rfl)) (HW.c (fun a w _ ha=>Bq (.ct rfl (.cu rfl)) (aH) a ha) rfl rfl (fun w hu=>Q6 f n _ hn14) (HW.c (fun a w _ ha=>Bq (.cu rfl) (aE) a ha) rfl rfl (fun w hu=>Iw (F6 f (n:Int)) _) (Am (.mv rfl) (Am (.xt rfl rfl) (Am (.xt rfl rfl) (Am (.assign (.t rfl)) (Am (.assign (.t rfl)) (HW.nil ?_)))))))))))))
  intro w3 uw3
  replace hW:=hW.up uw3
  replace hB2:=hB2.up uw3
  refine Ab (Aa (Ac rfl (Ac rfl (I (.val (v':=.string ⟨(Cc ((l.map (F6 f)).take (k+1))).toArray⟩) (PEv.K3 (.t rfl) (.t rfl) (by rw[D8,D8];have:=Hs (F6 f (n:Int));have:=Ex ((l.map (F6 f)).take k);have:=i9 k (l.map (F6 f));omega)) (by rw[Gw,Lz hLx])) (LW.A rfl (LW.nil (Ae (Ab (Aa (Ac rfl (I (.ic rfl oQ) (LW.A rfl (LW.nil (Aq ?_))))))))))))))
  exact⟨k+1,⟨by omega,hW,hB2⟩,tQ,by omega⟩
 replace h12:=dQ h12
 refine A7 (Ad (Ad (Au (Ab (Af (Ac rfl (LW.A rfl (Ai (Aj (KW.q ?_))))))))))
 refine⟨?_,hW⟩
 rw[di (by rw[cd];omega)]
theorem Rm(f:Fact)(w:World):Ret prog 83 #[.agg f.cells] w fun r w'=>r=.string ⟨(Bm f).toArray⟩∧Up w w':=by
 have hW:=Up.refl w
 obtain⟨w0,rfl,_⟩:=W0 w
 refine cT 23 func83 rfl (Af (Ao (.bA rfl) rfl ?_))
 rintro _ w1 ⟨B1,rfl,NB1⟩
 replace hW:=hW.up NB1.up
 have hB1:=NB1.blk
 refine J (Ar (Aa (I (.lc rfl (hB1.agg)) (A3 (eC (.o rfl) (BA)) rfl (Vw f _) ?_))))
 rintro _ w2 ⟨rfl,uw2⟩
 replace hW:=hW.up uw2
 replace hB1:=hB1.up uw2
 refine LW.A rfl (Ar (Al ?_))
 cases hq2:Bw f with
 |true=>
  refine Aa (Ac rfl (I (.fa (PEv.n1 rfl) (rfl)) (Ai (CW.f rfl (Ak (Ab (Af (I (.fB 0 rfl) (I (.lb rfl (hB1.An rfl)) (A3 (eC (.o rfl) (aE)) rfl (Iw f.Kind _) ?_))))))))))
  rintro _ w3 ⟨rfl,uw3⟩
  replace hW:=hW.up uw3
  replace hB1:=hB1.up uw3
  refine Ac rfl (I (.xt rfl rfl) (I (.xt rfl rfl) (LW.A rfl (LW.A rfl (Ar (Eo 7 [.eq (.string ⟨(Wx.encI f.Kind).toArray⟩),.eq (.agg f.cells),.eq (.pointer (some ⟨B1,0,none⟩)),.eq (vi f.Kind),.pred fun v W=>Sl W v 1 Cm (S7 f.Kind),.eq (.string ⟨(Cc ((S7 f.Kind).map (F6 f))).toArray⟩),.eq (.string ⟨(Cc (Pf f)).toArray⟩)] [22] kQ rfl kQ kQ kQ kQ kQ kQ kQ ⟨nm,nm,nm,nm,PhU.pred fun _ _ _ h u=>Sl.up h u,nm,nm,trivial⟩ ?_ ?_))))))
  ·intro W hU0
   have hU:=(Up.drew w3).trans hU0
   refine aC ⟨rfl,TU.p (.mv rfl) rfl⟩ (aC ⟨rfl,TU.p (.lc rfl ((hB1.up hU).agg)) rfl⟩ (aC ⟨rfl,TU.p (.fB 0 rfl) rfl⟩ (aC ⟨rfl,TU.p (.lb rfl ((hB1.up hU).An rfl)) rfl⟩ (aC ⟨rfl,TU.c (eC (.o rfl) (BB)) (O3 f.Kind W) (fun v W' h=>let⟨ad,cp,e,hE,u⟩:=h;⟨u,ad,cp,e,hE⟩)⟩ (aC ⟨rfl,TU.open (d:=20) rfl fun v hv=>by obtain⟨ad,cp,rfl,hE⟩:=hv;exact TU.c (eC (.u rfl rfl) (pQ)) (Vx ad cp f (S7 f.Kind) W hE (fun n h=>CL h) (by have:=Zz f.Kind;omega)) (fun v W' h=>⟨h.2,h.1⟩)⟩ (aC ⟨rfl,TU.p (.val (v':=.string ⟨(Cc (Pf f)).toArray⟩) (PEv.K3 (.t rfl) (.t rfl) (by rw[D8,D8];have:=Hs f.Kind;have:=Ex ((S7 f.Kind).map (F6 f));rw[cd]at this;have:=Zz f.Kind;omega)) (by rw[Gw];rw[vJ (Dq hq2)];unfold Pf Cc;rfl)) rfl⟩ ?_))))))
   exact allL.nil
  intro w4 g hU0 hg
  have hU:=(Up.drew w3).trans hU0
  replace hW:=hW.up hU
  replace hB1:=hB1.up hU
  have h22:g 22=.string ⟨(Cc (Pf f)).toArray⟩:=hg 6 _ 22 cQ rfl rfl
  change LW _ _ _ _ _ _ _ _ ((22,.eq (g 22))::_) _
  rw[h22]
  refine LW.A rfl (Ai (Aj (KW.q ?_)))
  (rw[show Bm f=Cc (Pf f)from ak hq2];exact⟨rfl,hW⟩)
 |false=>
  refine Aa (Ac rfl (I (.tr (PEv.n1 rfl) (rfl)) (Ai (CW.v rfl (Af (J (Ai (Aj (Ah (KW.q ?_))))))))))
  (rw[show Bm f=[]from ae (by rw[hq2];exact bi)];exact⟨rfl,hW⟩)
set_option maxHeartbeats 2000000 in
theorem Iy(f:Fact)(w:World):Ret prog 137 #[.agg f.cells] w fun r w'=>r=.tuple #[.string ⟨(Ib f).toArray⟩,vi (H0 f)]∧Up w w':=by
 have hW:=Up.refl w
 obtain⟨w0,rfl,_⟩:=W0 w
 refine cT 61 func137 rfl (Af (Ao (.bA rfl) rfl ?_))
 rintro _ w1 ⟨B1,rfl,NB1⟩
 replace hW:=hW.up NB1.up
 have hB1:=NB1.blk
 refine J (J (Ar (Aa (I (.lc rfl (hB1.agg)) (A3 (eC (.o rfl) (BA)) rfl (Vw f _) ?_)))))
 rintro _ w2 ⟨rfl,uw2⟩
 replace hW:=hW.up uw2
 replace hB1:=hB1.up uw2
 refine LW.A rfl (Ar (Al ?_))
 cases hq2:Bw f with
 |true=>
  refine Aa (Ac rfl (I (.fa (PEv.n1 rfl) (rfl)) (Ai (CW.f rfl (Ak (Ab (Af (J (Ar (Aa (J (Ar (Al ?_)))))))))))))
  cases hq6:f.Gone with
  |true=>
   have eFl:J5 f.Gone=1:=by rw[hq6];rfl
   obtain⟨H4,eH4⟩:∃H:List Int,H=[f.Kind,f.Version,f.Day,1]:=⟨_,rfl⟩
   have hH4:H4.length=4:=by rw[eH4];rfl
   refine Aa (I (.fB 4 rfl) (I (.tr (PEv.lb rfl (hB1.An rfl)) (hq6)) (Ai (CW.v rfl (Aa (J (Ar (Af (I (.fB 0 rfl) (I (.lb rfl (hB1.An rfl)) (I (.fB 2 rfl) (I (.lb rfl (hB1.An rfl)) (I (.fB 3 rfl) (I (.lb rfl (hB1.An rfl)) (Ac rfl (Ao (.buildSlice (xs:=[f.Kind,f.Version,f.Day,1]) (enc:=Cm) (mk:=vi) lg lf ls rfl cQ (fun _=>rfl) (fun _=>rfl) (.ct rfl (.ct rfl (.ct rfl (.cu rfl)))) rfl) rfl ?_))))))))))))))))
   rintro _ w3 ⟨B26,cB26,rfl,NB26,yB26,xB26⟩
   replace hW:=hW.up NB26.up
   replace hB1:=hB1.up NB26.up
   have hB26:=NB26.blk
   have hE26:=xB26
   refine I (.Df lg (.t rfl)) (I (.move (.const _)) (Ai (Ap (A9 (σ:=Nat) (fun s w=>(s≤4)∧(Up w0 w)∧(Blk w B1 f.cells 51)∧(Els w (some ⟨B26,0,none⟩) 1 Cm H4)) (fun s=>[(28,.eq (vi (s:Int))),(5,.eq (.string ⟨(Cc (H4.take s)).toArray⟩))]) ([(1,.eq _),(2,.eq _),(3,.eq _),(26,.eq _),(27,.eq _)]) (fun s=>4-s) 0 ?_ tQ ?_))))
   ·exact⟨ao _,hW,hB1,by rw[eH4];exact hE26⟩
   rintro k w4 ⟨hk,hW,hB1,hE26⟩
   refine Af (I (.l2 rfl rfl) (Ar (CW.b rfl (fun h29=>?_) (fun h29=>?_))))
   ·skip
    refine Ak (Ab (Al (Ap (Al ?_))))
    have hk4:k<4:=by have:=h29;simp at this;omega
    obtain⟨x,hx⟩:=Av (xs:=H4) (i:=k) oQ
    obtain⟨Bx,ox,ax,hcx⟩:=hE26 k x hx
    refine Aa (I (.Ay lg lf (.t rfl) (.t rfl) (by show k<4;omega) ax) (I (.lb rfl (hcx.nth (j:=0) rfl)) (LW.A rfl (Ar (Aa (Ac rfl (A3 (eC (.o rfl) (aE)) rfl (Iw x _) ?_)))))))
    rintro _ w5 ⟨rfl,uw5⟩
    replace hW:=hW.up uw5
    replace hB1:=hB1.up uw5
    replace hE26:=hE26.up uw5
    refine Ac rfl (I (.xt rfl rfl) (I (.xt rfl rfl) (LW.A rfl (LW.A rfl (Ai ?_)))))
    have hH4t:=i9 k H4
    refine Aa (Ac rfl (Ac rfl (I (.val (v':=.string ⟨(Cc (H4.take (k+1))).toArray⟩) (PEv.K3 (.t rfl) (.t rfl) (by rw[D8,D8];have:=Hs x;have:=Ex (H4.take k);omega)) (by rw[Gw,Lz hx])) (LW.A rfl (LW.nil (Ae (Ab (Aa (I (.ic rfl oQ) (Ac rfl (LW.nil (Aq ?_))))))))))))
    exact⟨k+1,⟨by omega,hW,hB1,hE26⟩,tQ,by omega⟩
   refine A7 (Ad (Ad (Au (Ab (Al ?_)))))
   have hk4:k=4:=by have:=h29;simp at this;omega
   subst hk4
   refine Eo 7 [.eq (.string ⟨(Cc H4).toArray⟩),.eq (.agg f.cells),.eq (.pointer (some ⟨B1,0,none⟩)),.eq (vi f.Kind),.pred fun v W=>Sl W v 1 Cm (F7 f.Kind),.eq (.string ⟨(Cc ((F7 f.Kind).map (F6 f))).toArray⟩),.eq (.string ⟨(Cc (K7 f)).toArray⟩)] [47] kQ rfl kQ kQ kQ kQ kQ kQ kQ ⟨nm,nm,nm,nm,PhU.pred fun _ _ _ h u=>Sl.up h u,nm,nm,trivial⟩ ?_ ?_
   ·intro W hU0
    have hU:=(Up.drew w4).trans hU0
    refine aC ⟨rfl,TU.p (.val (v':=.string ⟨(Cc H4).toArray⟩) (PEv.mv rfl) (by rw[di (by omega)])) rfl⟩ (aC ⟨rfl,TU.p (.lc rfl ((hB1.up hU).agg)) rfl⟩ (aC ⟨rfl,TU.p (.fB 0 rfl) rfl⟩ (aC ⟨rfl,TU.p (.lb rfl ((hB1.up hU).An rfl)) rfl⟩ (aC ⟨rfl,TU.c (eC (.o rfl) (pS)) (No f.Kind W) (fun v W' h=>let⟨ad,cp,e,hE,u⟩:=h;⟨u,ad,cp,e,hE⟩)⟩ (aC ⟨rfl,TU.open (d:=45) rfl fun v hv=>by obtain⟨ad,cp,rfl,hE⟩:=hv;exact TU.c (eC (.u rfl rfl) (pQ)) (Vx ad cp f (F7 f.Kind) W hE (lP f.Kind) (by have:=Nl f.Kind;omega)) (fun v W' h=>⟨h.2,h.1⟩)⟩ (aC ⟨rfl,TU.p (.val (v':=.string ⟨(Cc (K7 f)).toArray⟩) (PEv.K3 (.t rfl) (.t rfl) (by rw[D8,D8];have:=Ex H4;have:=Ex ((F7 f.Kind).map (F6 f));rw[cd]at this;have:=Nl f.Kind;omega)) (by rw[Gw];rw[dX (Dq hq2),←N1,eH4];unfold K7;rw[eFl])) rfl⟩ ?_))))))
    exact allL.nil
   intro w6 g hU0 hg
   have hU:=(Up.drew w4).trans hU0
   replace hW:=hW.up hU
   replace hB1:=hB1.up hU
   replace hE26:=hE26.up hU
   have h47:g 47=.string ⟨(Cc (K7 f)).toArray⟩:=hg 6 _ 47 cQ rfl rfl
   change LW _ _ _ _ _ _ _ _ ((47,.eq (g 47))::_) _
   rw[h47]
   refine LW.A rfl (Ar (Af (I (.fB 0 rfl) (I (.lb rfl (hB1.An rfl)) (I (.eql (.t rfl) (.const _)) (Ai (CW.b rfl (fun h50=>?_) (fun h50=>?_))))))))
   ·replace h50:=dQ h50
    have ht:Ey f.Kind=true:=by unfold Ey;exact a8 h50
    refine Af (I (.fB 18 rfl) (I (.lb rfl (hB1.An rfl)) (A3 (eC (.o rfl) (BM)) rfl (Nn f.Text _ (by have:=Hg hq2;omega)) ?_)))
    rintro _ w7 ⟨rfl,uw7⟩
    replace hW:=hW.up uw7
    replace hB1:=hB1.up uw7
    replace hE26:=hE26.up uw7
    refine Ac rfl (I (.xt rfl rfl) (I (.xt rfl rfl) (LW.A rfl (LW.A rfl (Ai (Aa (Ac rfl (Ac rfl (I (.K3 (.t rfl) (.t rfl) (by rw[D8,D8];have:=Y1 f;have:=Qh f.Text.data.toList;rw[Nz]at this;have:=Hg hq2;omega)) (LW.A rfl (Ar (Aa (Ac rfl (LW.A rfl (J (Ai (Aj (Br rfl rfl rfl ⟨_,rfl,?_⟩))))))))))))))))))
    refine⟨?_,hW⟩
    (rw[show Ib f=Hb f from ak hq2,show H0 f=0 from ak hq2];unfold Hb;rw[ht];(rw[Gw];rfl))
   replace h50:=dQ h50
   have ht:Ey f.Kind=false:=by unfold Ey;exact bg h50
   refine Ak (Ab (Af (Ac rfl (LW.A rfl (J (Ai (Aj (Br rfl rfl rfl ⟨_,rfl,?_⟩))))))))
   refine⟨?_,hW⟩
   (rw[show Ib f=Hb f from ak hq2,show H0 f=0 from ak hq2];unfold Hb;rw[ht];(rw[ae bi,dy]))
  |false=>
   have eFl:J5 f.Gone=0:=by rw[hq6];rfl
   obtain⟨H4,eH4⟩:∃H:List Int,H=[f.Kind,f.Version,f.Day,0]:=⟨_,rfl⟩
   have hH4:H4.length=4:=by rw[eH4];rfl
   refine Aa (I (.fB 4 rfl) (I (.fa (PEv.lb rfl (hB1.An rfl)) (hq6)) (Ai (CW.f rfl (Ak (Ab (Al (Af (I (.fB 0 rfl) (I (.lb rfl (hB1.An rfl)) (I (.fB 2 rfl) (I (.lb rfl (hB1.An rfl)) (I (.fB 3 rfl) (I (.lb rfl (hB1.An rfl)) (Ac rfl (Ao (.buildSlice (xs:=[f.Kind,f.Version,f.Day,0]) (enc:=Cm) (mk:=vi) lg lf ls rfl cQ (fun _=>rfl) (fun _=>rfl) (.ct rfl (.ct rfl (.ct rfl (.cu rfl)))) rfl) rfl ?_))))))))))))))))
   rintro _ w8 ⟨B26,cB26,rfl,NB26,yB26,xB26⟩
   replace hW:=hW.up NB26.up
   replace hB1:=hB1.up NB26.up
   have hB26:=NB26.blk
   have hE26:=xB26
   refine I (.Df lg (.t rfl)) (I (.move (.const _)) (Ai (Ap (A9 (σ:=Nat) (fun s w=>(s≤4)∧(Up w0 w)∧(Blk w B1 f.cells 51)∧(Els w (some ⟨B26,0,none⟩) 1 Cm H4)) (fun s=>[(28,.eq (vi (s:Int))),(5,.eq (.string ⟨(Cc (H4.take s)).toArray⟩))]) ([(1,.eq _),(2,.eq _),(3,.eq _),(26,.eq _),(27,.eq _)]) (fun s=>4-s) 0 ?_ tQ ?_))))
   ·exact⟨ao _,hW,hB1,by rw[eH4];exact hE26⟩
   rintro k w9 ⟨hk,hW,hB1,hE26⟩
   refine Af (I (.l2 rfl rfl) (Ar (CW.b rfl (fun h29=>?_) (fun h29=>?_))))
   ·replace h29:=dQ h29
    skip
    refine Ak (Ab (Al (Ap (Al ?_))))
    have hk4:k<4:=by have:=h29;simp at this;omega
    obtain⟨x,hx⟩:=Av (xs:=H4) (i:=k) oQ
    obtain⟨Bx,ox,ax,hcx⟩:=hE26 k x hx
    refine Aa (I (.Ay lg lf (.t rfl) (.t rfl) (by show k<4;omega) ax) (I (.lb rfl (hcx.nth (j:=0) rfl)) (LW.A rfl (Ar (Aa (Ac rfl (A3 (eC (.o rfl) (aE)) rfl (Iw x _) ?_)))))))
    rintro _ w10 ⟨rfl,uw10⟩
    replace hW:=hW.up uw10
    replace hB1:=hB1.up uw10
    replace hE26:=hE26.up uw10
    refine Ac rfl (I (.xt rfl rfl) (I (.xt rfl rfl) (LW.A rfl (LW.A rfl (Ai ?_)))))
    have hH4t:=i9 k H4
    refine Aa (Ac rfl (Ac rfl (I (.val (v':=.string ⟨(Cc (H4.take (k+1))).toArray⟩) (PEv.K3 (.t rfl) (.t rfl) (by rw[D8,D8];have:=Hs x;have:=Ex (H4.take k);omega)) (by rw[Gw,Lz hx])) (LW.A rfl (LW.nil (Ae (Ab (Aa (I (.ic rfl oQ) (Ac rfl (LW.nil (Aq ?_))))))))))))
    exact⟨k+1,⟨by omega,hW,hB1,hE26⟩,tQ,by omega⟩
   replace h29:=dQ h29
   refine A7 (Ad (Ad (Au (Ab (Al ?_)))))
   have hk4:k=4:=by have:=h29;simp at this;omega
   subst hk4
   refine Eo 7 [.eq (.string ⟨(Cc H4).toArray⟩),.eq (.agg f.cells),.eq (.pointer (some ⟨B1,0,none⟩)),.eq (vi f.Kind),.pred fun v W=>Sl W v 1 Cm (F7 f.Kind),.eq (.string ⟨(Cc ((F7 f.Kind).map (F6 f))).toArray⟩),.eq (.string ⟨(Cc (K7 f)).toArray⟩)] [47] kQ rfl kQ kQ kQ kQ kQ kQ kQ ⟨nm,nm,nm,nm,PhU.pred fun _ _ _ h u=>Sl.up h u,nm,nm,trivial⟩ ?_ ?_
   ·intro W hU0
    have hU:=(Up.drew w9).trans hU0
    refine aC ⟨rfl,TU.p (.val (v':=.string ⟨(Cc H4).toArray⟩) (PEv.mv rfl) (by rw[di (by omega)])) rfl⟩ (aC ⟨rfl,TU.p (.lc rfl ((hB1.up hU).agg)) rfl⟩ (aC ⟨rfl,TU.p (.fB 0 rfl) rfl⟩ (aC ⟨rfl,TU.p (.lb rfl ((hB1.up hU).An rfl)) rfl⟩ (aC ⟨rfl,TU.c (eC (.o rfl) (pS)) (No f.Kind W) (fun v W' h=>let⟨ad,cp,e,hE,u⟩:=h;⟨u,ad,cp,e,hE⟩)⟩ (aC ⟨rfl,TU.open (d:=45) rfl fun v hv=>by obtain⟨ad,cp,rfl,hE⟩:=hv;exact TU.c (eC (.u rfl rfl) (pQ)) (Vx ad cp f (F7 f.Kind) W hE (lP f.Kind) (by have:=Nl f.Kind;omega)) (fun v W' h=>⟨h.2,h.1⟩)⟩ (aC ⟨rfl,TU.p (.val (v':=.string ⟨(Cc (K7 f)).toArray⟩) (PEv.K3 (.t rfl) (.t rfl) (by rw[D8,D8];have:=Ex H4;have:=Ex ((F7 f.Kind).map (F6 f));rw[cd]at this;have:=Nl f.Kind;omega)) (by rw[Gw];rw[dX (Dq hq2),←N1,eH4];unfold K7;rw[eFl])) rfl⟩ ?_))))))
    exact allL.nil
   intro w11 g hU0 hg
   have hU:=(Up.drew w9).trans hU0
   replace hW:=hW.up hU
   replace hB1:=hB1.up hU
   replace hE26:=hE26.up hU
   have h47:g 47=.string ⟨(Cc (K7 f)).toArray⟩:=hg 6 _ 47 cQ rfl rfl
   change LW _ _ _ _ _ _ _ _ ((47,.eq (g 47))::_) _
   rw[h47]
   refine LW.A rfl (Ar (Af (I (.fB 0 rfl) (I (.lb rfl (hB1.An rfl)) (I (.eql (.t rfl) (.const _)) (Ai (CW.b rfl (fun h50=>?_) (fun h50=>?_))))))))
   ·replace h50:=dQ h50
    have ht:Ey f.Kind=true:=by unfold Ey;exact a8 h50
    refine Af (I (.fB 18 rfl) (I (.lb rfl (hB1.An rfl)) (A3 (eC (.o rfl) (BM)) rfl (Nn f.Text _ (by have:=Hg hq2;omega)) ?_)))
    rintro _ w12 ⟨rfl,uw12⟩
    replace hW:=hW.up uw12
    replace hB1:=hB1.up uw12
    replace hE26:=hE26.up uw12
    refine Ac rfl (I (.xt rfl rfl) (I (.xt rfl rfl) (LW.A rfl (LW.A rfl (Ai (Aa (Ac rfl (Ac rfl (I (.K3 (.t rfl) (.t rfl) (by rw[D8,D8];have:=Y1 f;have:=Qh f.Text.data.toList;rw[Nz]at this;have:=Hg hq2;omega)) (LW.A rfl (Ar (Aa (Ac rfl (LW.A rfl (J (Ai (Aj (Br rfl rfl rfl ⟨_,rfl,?_⟩))))))))))))))))))
    refine⟨?_,hW⟩
    (rw[show Ib f=Hb f from ak hq2,show H0 f=0 from ak hq2];unfold Hb;rw[ht];(rw[Gw];rfl))
   replace h50:=dQ h50
   have ht:Ey f.Kind=false:=by unfold Ey;exact bg h50
   refine Ak (Ab (Af (Ac rfl (LW.A rfl (J (Ai (Aj (Br rfl rfl rfl ⟨_,rfl,?_⟩))))))))
   refine⟨?_,hW⟩
   (rw[show Ib f=Hb f from ak hq2,show H0 f=0 from ak hq2];unfold Hb;rw[ht];(rw[ae bi,dy]))
 |false=>
  refine Aa (Ac rfl (I (.tr (PEv.n1 rfl) (rfl)) (Ai (CW.v rfl (Af (J (J (Ai (Aj (Ah (Br rfl rfl rfl ⟨_,rfl,?_⟩)))))))))))
  refine⟨?_,hW⟩
  (rw[show Ib f=[]from ae (by rw[hq2];exact bi),show H0 f=150 from ae (by rw[hq2];exact bi)])
theorem Wn(a b:Fact)(w:World):Ret prog 84 #[.agg a.cells,.agg b.cells] w fun r w'=>r=.bool (Dz a b)∧Up w w':=by
 have hW:=Up.refl w
 obtain⟨w0,rfl,_⟩:=W0 w
 refine cT 49 func84 rfl (Af (Ao (.bA rfl) rfl ?_))
 rintro _ w1 ⟨B2,rfl,NB2⟩
 replace hW:=hW.up NB2.up
 have hB2:=NB2.blk
 refine Ao (.bA rfl) rfl ?_
 rintro _ w2 ⟨B3,rfl,NB3⟩
 replace hW:=hW.up NB3.up
 replace hB2:=hB2.up NB3.up
 have hB3:=NB3.blk
 refine J (Ar ?_)
 cases hq1:Bw a with
 |false=>
  refine Aa (I (.lc rfl (hB2.agg)) (A3 (eC (.o rfl) (aF)) rfl (Iy a _) ?_))
  rintro _ w3 ⟨rfl,uw3⟩
  replace hW:=hW.up uw3
  replace hB2:=hB2.up uw3
  replace hB3:=hB3.up uw3
  refine Ac rfl (I (.xt rfl rfl) (I (.xt rfl rfl) (LW.A rfl (LW.A rfl (Ar (Aa (I (.lc rfl (hB3.agg)) (A3 (eC (.o rfl) (aF)) rfl (Iy b _) ?_))))))))
  rintro _ w4 ⟨rfl,uw4⟩
  replace hW:=hW.up uw4
  replace hB2:=hB2.up uw4
  replace hB3:=hB3.up uw4
  refine Ac rfl (I (.xt rfl rfl) (I (.xt rfl rfl) (LW.A rfl (LW.A rfl (Ar (Al (Cg kQ kQ rfl rfl (Am (.mv rfl) (Am (.tr (PEv.neq (.t rfl) (.const _)) (by rw[H0,ae (by rw[hq1];exact bi)];rfl)) (Am (.mv rfl) (C0 (C0 (Am (.Ee (b:=false) (.t rfl) (fun hp=>absurd (show true=false from hp) cQ)) (Am (.mv rfl) (C0 (C0 (C0 (C0 (C0 (Am (.Ee (b:=false) (.t rfl) (fun hp=>absurd (show true=false from hp) cQ)) (HW.nil ?_)))))))))))))))))))))
  intro w5 uw5
  replace hW:=hW.up uw5
  replace hB2:=hB2.up uw5
  replace hB3:=hB3.up uw5
  refine Ab (CW.v rfl (Af (J (Ai (Aj (Ah (KW.q ?_)))))))
  refine⟨a_ Go.Value.bool ?_,hW⟩
  exact Qj (by rw[hq1];rfl)
 |true=>
  refine Aa (I (.lc rfl (hB2.agg)) (A3 (eC (.o rfl) (aF)) rfl (Iy a _) ?_))
  rintro _ w6 ⟨rfl,uw6⟩
  replace hW:=hW.up uw6
  replace hB2:=hB2.up uw6
  replace hB3:=hB3.up uw6
  refine Ac rfl (I (.xt rfl rfl) (I (.xt rfl rfl) (LW.A rfl (LW.A rfl (Ar ?_)))))
  cases hq2:Bw b with
  |false=>
   refine Aa (I (.lc rfl (hB3.agg)) (A3 (eC (.o rfl) (aF)) rfl (Iy b _) ?_))
   rintro _ w7 ⟨rfl,uw7⟩
   replace hW:=hW.up uw7
   replace hB2:=hB2.up uw7
   replace hB3:=hB3.up uw7
   refine Ac rfl (I (.xt rfl rfl) (I (.xt rfl rfl) (LW.A rfl (LW.A rfl (Ar (Al (Cg kQ kQ rfl rfl (Am (.mv rfl) (Am (.fa (PEv.neq (.t rfl) (.const _)) (by rw[H0,ak hq1];rfl)) (Am (.mv rfl) (A4 (.mv rfl) (A4 (.tr (PEv.neq (.t rfl) (.const _)) (by rw[H0,ae (by rw[hq2];exact bi)];rfl)) (Am (.po rfl (fun hp=>(by exact .tmp rfl))) (Am (.mv rfl) (C0 (C0 (C0 (C0 (C0 (Am (.Ee (b:=false) (.t rfl) (fun hp=>absurd (show true=false from hp) cQ)) (HW.nil ?_)))))))))))))))))))))
   intro w8 uw8
   replace hW:=hW.up uw8
   replace hB2:=hB2.up uw8
   replace hB3:=hB3.up uw8
   refine Ab (CW.v rfl (Af (J (Ai (Aj (Ah (KW.q ?_)))))))
   refine⟨a_ Go.Value.bool ?_,hW⟩
   exact Qj (by rw[hq1,hq2];rfl)
  |true=>
   refine Aa (I (.lc rfl (hB3.agg)) (A3 (eC (.o rfl) (aF)) rfl (Iy b _) ?_))
   rintro _ w9 ⟨rfl,uw9⟩
   replace hW:=hW.up uw9
   replace hB2:=hB2.up uw9
   replace hB3:=hB3.up uw9
   refine Ac rfl (I (.xt rfl rfl) (I (.xt rfl rfl) (LW.A rfl (LW.A rfl (Ar (Al (Cg kQ kQ rfl rfl (Am (.mv rfl) (Am (.fa (PEv.neq (.t rfl) (.const _)) (by rw[H0,ak hq1];rfl)) (Am (.mv rfl) (A4 (.mv rfl) (A4 (.fa (PEv.neq (.t rfl) (.const _)) (by rw[H0,ak hq2];rfl)) (Am (.po rfl (fun hp=>(by exact .tmp rfl))) (Am (.mv rfl) (A4 (.lc rfl (hB2.agg)) (Mv rfl rfl rfl rfl rfl (fun a w _ ha=>Bq (.cu rfl) (wV) a ha) rfl (fun w hu=>Rm a w) (A4 (.lc rfl (hB3.agg)) (Mv rfl rfl rfl rfl rfl (fun a w _ ha=>Bq (.cu rfl) (wV) a ha) rfl (fun w hu=>Rm b w) (A4 (.fE (.t rfl) (.t rfl)) (Am (.po rfl (fun hp=>(by exact .tmp rfl))) (HW.nil ?_)))))))))))))))))))))
   intro w10 uw10
   replace hW:=hW.up uw10
   replace hB2:=hB2.up uw10
   replace hB3:=hB3.up uw10
   refine Ab (CW.b rfl (fun h31=>?_) (fun h31=>?_))
   ·have hne:Bm a≠Bm b:=by rw[Qi]at h31;simpa using h31
    refine Af (J (Ai (Aj (Ah (KW.q ?_)))))
    refine⟨a_ Go.Value.bool ?_,hW⟩
    exact(AQ hne).symm
   have heq:Bm a=Bm b:=by rw[Qi]at h31;simpa using h31
   refine Ak (Ab (Af (I (.fB 2 rfl) (I (.lb rfl (hB2.An rfl)) (I (.fB 2 rfl) (I (.lb rfl (hB3.An rfl)) (I (.gtr (.t rfl) (.t rfl)) (Ac rfl (LW.gr rfl (fun hc=>PEv.fB 2 rfl) (LW.gr rfl (fun hc=>PEv.load ly vQ (hB2.An rfl)) (LW.gr rfl (fun hc=>PEv.fB 2 rfl) (LW.gr rfl (fun hc=>PEv.load ly vQ (hB3.An rfl)) (LW.gr rfl (fun hc=>PEv.eql vQ vQ) (LW.gr rfl (fun hc=>PEv.move vQ) (E0 rfl rfl rfl rfl rfl rfl rfl (fun hc=>PEv.mv rfl) (E0 rfl rfl rfl rfl rfl rfl rfl (fun hc=>PEv.mv rfl) (E0 rfl rfl rfl rfl rfl rfl rfl (fun hc=>iR vQ vQ) (LW.gr rfl (fun hc=>PEv.De vQ (fun hp=>(by exact .cond rfl (by simp_all)))) (I (.po rfl (fun hp=>(by exact .cond rfl (by simp_all)))) (LW.A rfl (Ai (Aj (KW.q ?_)))))))))))))))))))))))
   refine⟨a_ Go.Value.bool ?_,hW⟩
   exact oX hq1 hq2 heq
end Go.Proofs.YtbcnnkfopoiifaaGreatDoor
