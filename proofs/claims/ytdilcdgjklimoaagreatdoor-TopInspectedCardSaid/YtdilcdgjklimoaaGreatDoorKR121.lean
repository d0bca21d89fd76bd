import Derived.Test.YtdilcdgjklimoaaGreatDoorKR120
import Derived.Shelf.GgSortFunc.InsertionK
namespace Go.Wx
open Go.RowKit Go.Sort Go.Proofs
theorem AA{w:World}{g:Nat}{cur:Array Value}{e:TypeId}{F:List Value}(hb:w.heap[g]?=some (.cells cur e (0,0)))(ht:cur.toList.take F.length=F):Holds id w g 0 F.toArray:=by
 intro j hj
 have hj':j<F.length:=by simpa using hj
 refine⟨?_,by simp[World.frozen?,hb]⟩
 have h1:(cur.toList.take F.length)[j]?=F[j]?:=by rw[ht]
 rw[List.getElem?_take_of_lt hj']at h1
 simp only[World.cell?,hb,Nat.zero_add]
 simp only[Option.isSome_none,Bool.false_eq_true,if_false]
 rw[←Array.getElem?_toList,h1]
 simp[hj']
theorem Wu{w:World}{g n:Nat}{os:Array Obj}{cur:Array Value}{e:TypeId}{fr:Nat×Nat}(d:Array Value)(hb:w.heap[g]?=some (.cells cur e fr)):
   (grow (putRow id (Sort.ahead w n) g 0 d) os).heap[g]?=some (.cells (putCells id 0 d cur) e fr):=by
 have hg:g<w.heap.size:=(Array.getElem?_eq_some_iff.1 hb).1
 rw[heap_grow_old _ _ (by simpa using hg)]
 simp[putRow,mapBlock,Sort.ahead,Array.getElem?_modify,hb,onCells]
theorem Qg{w:World}{g n:Nat}{os:Array Obj}(d:Array Value):w.grownBy (grow (putRow id (Sort.ahead w n) g 0 d) os) (some g):=by
 refine⟨rfl,rfl,rfl,by simp,fun k hk hne=>?_⟩
 rw[heap_grow_old _ _ (by simpa using hk)]
 have:g≠k:=fun e=>hne (by rw[e])
 simp[putRow,mapBlock,Sort.ahead,Array.getElem?_modify,this]
theorem Sy(cur:Array Value)(ts:List Value)(h:ts.length≤cur.size):(putCells id 0 ts.toArray cur).toList.take ts.length=ts:=by
 apply List.ext_getElem?
 intro j
 by_cases hj:j<ts.length
 · rw[List.getElem?_take_of_lt hj,Array.getElem?_toList]
   simp[putCells,hj,show j<cur.size by omega]
 rw[List.getElem?_take_eq_none oQ,List.getElem?_eq_none (by omega)]
section
variable {α:Type}[Inhabited α]{enc:α→Array Value}{k:Nat}
theorem Z3(hk:∀x,(enc x).size=k)(xs:List α):flatK (fun x=>(enc x).toList) k xs.toArray=(xs.flatMap fun x=>(enc x).toList).toArray:=by
 have hfl:∀x,(enc x).toList.length=k:=fun x=>by simp[hk]
 have hl:=Eo (fun x=>(enc x).toList) k hfl xs
 refine ext_get! (by simp[hl]) fun t ht=>?_
 have ht':t<xs.length*k:=by simpa using ht
 have k0:0<k:=by
   rcases Nat.eq_zero_or_pos k with h|h
   · subst h;simp at ht'
   exact h
 rw[get_flatK _ _ _ t (by simpa using ht')]
 have hq:t/k<xs.length:=Nat.div_lt_of_lt_mul (by rw[Nat.mul_comm];exact ht')
 have h2:=Vz (fun x=>(enc x).toList) k hfl xs (t/k) (t%k) xs[t/k] ((enc xs[t/k]).toList[t%k]'(by rw[hfl];exact Nat.mod_lt _ k0)) (by simp[hq]) (by simp)
 rw[show t/k*k+t%k=t by rw[Nat.mul_comm];exact Nat.div_add_mod t k]at h2
 rw[getElem!_pos _ t (by simpa[hl]using ht')]
 have h3:(xs.flatMap fun x=>(enc x).toList).toArray[t]'(by simpa[hl]using ht')=(enc xs[t/k]).toList[t%k]'(by rw[hfl];exact Nat.mod_lt _ k0):=by
   have h4:(xs.flatMap fun x=>(enc x).toList).toArray[t]?=some ((enc xs[t/k]).toList[t%k]'(by rw[hfl];exact Nat.mod_lt _ k0)):=by simpa using h2
   exact(Array.getElem?_eq_some_iff.1 h4).2
 rw[h3]
 have h5:xs.toArray[t/k]! =xs[t/k]:=by rw[getElem!_pos _ _ (by simpa using hq)];simp
 rw[h5,getElem!_pos _ _ (by rw[hfl];exact Nat.mod_lt _ k0)]
theorem dV{w:World}{e:TypeId}{g m cap:Nat}{xs:List α}(hk:∀x,(enc x).size=k)(h:OwnS w 0 e k enc (.slice (some ⟨g,0,none⟩) m cap) xs):HoldsK (fun x=>(enc x).toList) k w g 0 xs.toArray:=by
 have hfl:∀x,(enc x).toList.length=k:=fun x=>by simp[hk]
 obtain⟨h1,⟨e1,_⟩|⟨g',cap',cur,e1,_,hg,_,_,_,htk⟩⟩:=h
 · cases e1
 cases e1
 unfold HoldsK
 rw[Z3 hk]
 exact AA hg (by rw[Eo _ k hfl];exact htk)
theorem qJ{w:World}{e:TypeId}{g m cap n:Nat}{os:Array Obj}{xs ts:List α}(hk:∀x,(enc x).size=k)(hl:ts.length=xs.length)(h:OwnS w 0 e k enc (.slice (some ⟨g,0,none⟩) m cap) xs):
   Stp (J e k enc (.slice (some ⟨g,0,none⟩) m cap) xs) (J e k enc (.slice (some ⟨g,0,none⟩) m cap) ts) w (sortWorldK (fun x=>(enc x).toList) k w g 0 n ts.toArray os):=by
 have hfl:∀x,(enc x).toList.length=k:=fun x=>by simp[hk]
 have hgr:=Qg (w:=w) (g:=g) (n:=n) (os:=os) (flatK (fun x=>(enc x).toList) k ts.toArray)
 refine⟨⟨hgr.os,hgr.tape,hgr.output,hgr.size,fun i hi hs=>hgr.block i hi (fun e=>hs e.symm)⟩,?_,fun i hi=>.inl hi⟩
 obtain⟨h1,⟨e1,_⟩|⟨g',cap',cur,e1,hb,hg,hcap,hcm,hcs,htk⟩⟩:=h
 · cases e1
 cases e1
 have hlt:=Eo (fun x=>(enc x).toList) k hfl ts
 refine⟨hlt,.inr ⟨g,cap,_,by rw[hl],Nat.zero_le _,Wu _ hg,by omega,hcm,by simp[putCells,hcs],?_⟩⟩
 rw[Z3 hk,←hlt]
 exact Sy cur _ (by rw[hlt,hcs,hl];exact Nat.mul_le_mul_right k hcap)
end
end Go.Wx
namespace Go.Proofs
open Go.Proofs.Tryz
open Go.Shelf
def S1:Go.Shelf.Ren:=⟨fun|6=>102|15=>92|14=>181|28=>177|29=>178|20=>216|21=>217|22=>218|23=>219|24=>220|25=>221|26=>222|27=>223|46=>236|47=>212|48=>213|49=>237|50=>238|57=>247|n=>n,fun|22=>112|24=>108|25=>111|3=>3|39=>136|0=>0|53=>195|55=>197|4=>4|46=>246|45=>245|50=>205|5=>5|9=>9|66=>291|70=>226|76=>315|77=>185|n=>n,fun|n=>n⟩
theorem S2:Go.Proofs.SlLaysF0.n6 Tryz.prog S1:={
 mixed:=by kernel_rfl
 f6:=⟨Tryz.f102.name,by decide,func102.trans (congrArg some kQ)⟩
 f14:=⟨Tryz.f181.name,by decide,func181.trans (congrArg some kQ)⟩
 f15:=func92.trans (congrArg some kQ)
 f20:=⟨Tryz.f216.name,by decide,func216.trans (congrArg some kQ)⟩
 f21:=⟨Tryz.f217.name,by decide,func217.trans (congrArg some kQ)⟩
 f22:=⟨Tryz.f218.name,by decide,func218.trans (congrArg some kQ)⟩
 f23:=⟨Tryz.f219.name,by decide,func219.trans (congrArg some kQ)⟩
 f24:=⟨Tryz.f220.name,by decide,func220.trans (congrArg some kQ)⟩
 f25:=⟨Tryz.f221.name,by decide,func221.trans (congrArg some kQ)⟩
 f26:=⟨Tryz.f222.name,by decide,func222.trans (congrArg some kQ)⟩
 f27:=⟨Tryz.f223.name,by decide,func223.trans (congrArg some kQ)⟩
 f28:=func177.trans (congrArg some kQ)
 f29:=func178.trans (congrArg some kQ)
 f46:=⟨Tryz.f236.name,by decide,func236.trans (congrArg some kQ)⟩
 f47:=func212.trans (congrArg some kQ)
 f48:=func213.trans (congrArg some kQ)
 f49:=⟨Tryz.f237.name,by decide,func237.trans (congrArg some kQ)⟩
 f50:=⟨Tryz.f238.name,by decide,func238.trans (congrArg some kQ)⟩
 f57:=⟨Tryz.f247.name,by decide,func247.trans (congrArg some kQ)⟩
 t0:=underlying0
 a0:=isAgg0
 z0:=sizeOf0
 v0:=zeroValue0
 t3:=underlying3
 a3:=isAgg3
 z3:=sizeOf3
 v3:=zeroValue3
 t4:=underlying4
 a4:=isAgg4
 z4:=sizeOf4
 v4:=zeroValue4
 t5:=underlying5
 a5:=isAgg5
 z5:=sizeOf5
 v5:=zeroValue5
 t9:=underlying9
 a9:=isAgg9
 z9:=sizeOf9
 v9:=zeroValue9
 t22:=underlying112
 a22:=isAgg112
 z22:=sizeOf112
 v22:=zeroValue112
 t25:=underlying111
 a25:=isAgg111
 z25:=sizeOf111
 v25:=zeroValue111
 t39:=underlying136
 a39:=isAgg136
 z39:=sizeOf136
 v39:=zeroValue136
 t45:=underlying245
 a45:=isAgg245
 z45:=sizeOf245
 v45:=zeroValue245
 t46:=underlying246
 a46:=isAgg246
 z46:=sizeOf246
 v46:=zeroValue246
 t50:=underlying205
 a50:=isAgg205
 z50:=sizeOf205
 v50:=zeroValue205
 t53:=underlying195
 a53:=isAgg195
 z53:=sizeOf195
 v53:=zeroValue195
 t55:=underlying197
 a55:=isAgg197
 z55:=sizeOf197
 v55:=zeroValue197
 t66:=underlying291
 a66:=isAgg291
 z66:=sizeOf291
 v66:=zeroValue291
 t70:=underlying226
 a70:=isAgg226
 z70:=sizeOf226
 v70:=zeroValue226
 t76:=underlying315
 a76:=isAgg315
 z76:=sizeOf315
 v76:=zeroValue315
 t77:=underlying185
 a77:=isAgg185
 z77:=sizeOf185
 v77:=zeroValue185 }
end Go.Proofs
namespace Go.Wx
structure TP where
 ad:Option Addr
 l:List Int
 cp:Nat
def TP.v(t:TP):Go.Value:=.slice t.ad t.l.length t.cp
def TP.cells(t:TP):Array Go.Value:=#[t.v]
theorem TP.one(t:TP):t.cells.all (·.oneCell')=true:=by simp[TP.cells,TP.v,Value.oneCell']
def Xe(x y:Ar2):Bool:= !(Go.Proofs.ltOf Ng) y x
theorem Oe(x y:Ar2):Xe x y=true↔¬Xd y x:=by
 unfold Xe
 rw[←Mn]
 simp
theorem Vm(a b c:Ar2)(h:Xe a b=true)(k:Xe b c=true):Xe a c=true:=by
 rw[Oe]at*
 exact gQ k h
theorem Vn(a b:Ar2):(Xe a b||Xe b a)=true:=by
 rw[Bool.or_eq_true,Oe,Oe]
 unfold Xd
 omega
theorem dW{a b:List Ar2}(h:a.Perm b):a.mergeSort Xe=b.mergeSort Xe:=
 List.Perm.eq_of_pairwise (le:=fun x y=>Xe x y=true) (fun x y _ _ h1 h2=>gP ((Oe y x).1 h2) ((Oe x y).1 h1))
   (List.pairwise_mergeSort Vm Vn a) (List.pairwise_mergeSort Vm Vn b)
   ((List.mergeSort_perm a _).trans (h.trans (List.mergeSort_perm b _).symm))
def Wv{α:Type}[DecidableEq α](l:List α):List α:=l.foldl Sv []
theorem Vo{α:Type}[DecidableEq α](l:List α)(x:α):Wv (l++[x])=Sv (Wv l) x:=by
 unfold Wv
 rw[List.foldl_append]
 rfl
theorem Hg{α:Type}[DecidableEq α](l:List α)(x:α):x∈Wv l↔x∈l:=by
 refine Kk (p:=fun l=>x∈Wv l↔x∈l) Iff.rfl (fun l y h=>?_) l
 rw[Vo,Zy,h]
 simp
theorem S3{α:Type}[DecidableEq α](l:List α):(Wv l).Nodup:=by
 refine Kk (p:=fun l=>(Wv l).Nodup) List.nodup_nil (fun l y h=>?_) l
 rw[Vo]
 exact dS h
def F4(P:List Fact)(O:List Vd):List Ar2:=(Wv (O.flatMap fun p=>Hm P p.why)).mergeSort Xe
def Ip(b:Base)(O:List Vd):List Int:=(Wv ((O.map (Hf b)).filter fun n=>decide (n≠0))).mergeSort fun x y=>decide (x≤y)
def Pg(b:Base)(O:List Vd):List (List Int):=(F4 b.Processes O).map (Ji b.Processes O)++(Ip b O).map (Fk b O)
def Lo(b:Base)(L:List Vd):List (List Int):=(Pg b (L.filter fun v=>decide (v.t=1))).take 16
theorem Qs{P:List Fact}{O:List Vd}{g:Ar2}:Ji P O g≠[]↔g∈O.flatMap fun p=>Hm P p.why:=by
 unfold Ji
 rw[List.mem_flatMap]
 constructor
 · intro h
   obtain⟨x,hx⟩:=List.exists_mem_of_ne_nil _ h
   obtain⟨p,hp,_⟩:=List.mem_map.1 hx
   obtain⟨h1,h2⟩:=List.mem_filter.1 hp
   exact⟨p,h1,of_decide_eq_true h2⟩
 rintro⟨p,h1,h2⟩ e
 have h3:p.w∈(O.filter fun p=>decide (g∈Hm P p.why)).map (·.w):=List.mem_map.2 ⟨p,List.mem_filter.2 ⟨h1,decide_eq_true h2⟩,rfl⟩
 rw[e]at h3
 cases h3
theorem Of{b:Base}{O:List Vd}{n:Int}:Fk b O n≠[]↔n∈(O.map (Hf b)).filter fun n=>decide (n≠0):=by
 unfold Fk
 rw[List.mem_filter,List.mem_map]
 constructor
 · intro h
   obtain⟨x,hx⟩:=List.exists_mem_of_ne_nil _ h
   obtain⟨p,hp,_⟩:=List.mem_map.1 hx
   obtain⟨h1,h2⟩:=List.mem_filter.1 hp
   have h3:=of_decide_eq_true h2
   exact⟨⟨p,h1,h3.1⟩,decide_eq_true h3.2⟩
 rintro⟨⟨p,h1,h2⟩,h3⟩ e
 have h4:p.w∈(O.filter fun p=>decide (Hf b p=n∧n≠0)).map (·.w):=List.mem_map.2 ⟨p,List.mem_filter.2 ⟨h1,decide_eq_true ⟨h2,of_decide_eq_true h3⟩⟩,rfl⟩
 rw[e]at h4
 cases h4
theorem Z4{P:List Fact}{O:List Vd}{D:List (BE Ar2)}{ks:List Ar2}(h:BeInv D (Ji P O))(hk:ks.Perm (D.map (·.g))):ks.mergeSort Xe=F4 P O:=
 dW (hk.trans ((List.perm_ext_iff_of_nodup h.nd (S3 _)).2 fun g=>by rw[h.key,Qs,Hg]))
theorem Z5{b:Base}{O:List Vd}{E:List (BE Int)}{ks:List Int}(h:BeInv E (Fk b O))(hk:ks.Perm (E.map (·.g))):(ks.mergeSort fun x y=>decide (x≤y))=Ip b O:=
 O7 (hk.trans ((List.perm_ext_iff_of_nodup h.nd (S3 _)).2 fun g=>by rw[h.key,Of,Hg]))
theorem kY{P:List Fact}{O:List Vd}{D:List (BE Ar2)}(h:BeInv D (Ji P O)){g:Ar2}(hg:g∈F4 P O):∃e∈D,e.g=g:=by
 unfold F4 at hg
 rw[List.mem_mergeSort,Hg,←Qs,←h.key]at hg
 exact List.mem_map.1 hg
theorem kZ{b:Base}{O:List Vd}{E:List (BE Int)}(h:BeInv E (Fk b O)){g:Int}(hg:g∈Ip b O):∃e∈E,e.g=g:=by
 unfold Ip at hg
 rw[List.mem_mergeSort,Hg,←Of,←h.key]at hg
 exact List.mem_map.1 hg
theorem uU{P:List Fact}{O:List Vd}{D:List (BE Ar2)}(h:BeInv D (Ji P O)):D.length≤P.length:=by
 have:=h.nd.length_le_of_subset (l₂:=P.map gR) fun g hg=>by
   rw[h.key,Qs,List.mem_flatMap]at hg
   obtain⟨p,_,h2⟩:=hg
   obtain⟨f,hf,_,e⟩:=Sw.1 h2
   exact List.mem_map.2 ⟨f,hf,e⟩
 simpa using this
theorem uV{b:Base}{O:List Vd}{E:List (BE Int)}(h:BeInv E (Fk b O)):E.length≤O.length:=by
 have:=h.nd.length_le_of_subset (l₂:=O.map (Hf b)) fun g hg=>by
   rw[h.key,Of]at hg
   exact(List.mem_filter.1 hg).1
 simpa using this
theorem qK{P:List Fact}{O:List Vd}(h:∀f∈P,Q4 f.Time∧Q4 f.Until):∀g∈F4 P O,g.ok:=fun g hg=>by
 unfold F4 at hg
 rw[List.mem_mergeSort,Hg,List.mem_flatMap]at hg
 obtain⟨p,_,h2⟩:=hg
 exact gT h g h2
theorem Mo{α β:Type}{f:α→β}{l:List α}{k:Nat}{x:α}(h:l[k]?=some x):(l.take (k+1)).map f=(l.take k).map f++[f x]:=by
 rw[List.take_add_one,h,List.map_append];rfl
theorem gU(L:List VP):(L.filter Bj).map (·.vd)=(L.map (·.vd)).filter fun v=>decide (v.t=1):=by
 rw[List.filter_map]
 congr 1
theorem qL{w:World}{ad:Option Addr}{cp:Nat}{Ts:List TP}(h:Els w ad 1 TP.cells Ts):Sl w (.slice ad (min Ts.length 16) cp) 1 TP.cells (Ts.take 16):=⟨ad,cp,by rw[List.length_take,Nat.min_comm],h.take⟩
theorem qM{x:Fact}(h:Qd x):Q4 x.Time∧Q4 x.Until:=by unfold Qd at h;unfold Q4;omega
theorem uW{κ:Type}[DecidableEq κ]{Q:Mk.KT κ}{P:Program}{T:TypeId}{b:Nat}{kv:List (κ×Go.Value)}{k:κ}{st:Nat}{w w':World}(h:Mk.MidM Q P T w' b kv k st)(K:Sto b w w'):Stp (Mk.Bu Q b kv) (Mk.FI Q P T b kv k st) w w':=⟨K.fr,h,fun _ h=>.inl h⟩
theorem lA{κ:Type}[DecidableEq κ]{Q:Mk.KT κ}{P:Program}{T:TypeId}{b:Nat}{kv kv':List (κ×Go.Value)}{k:κ}{st:Nat}{w w':World}(h:Mk.IMap Q w' b kv')(K:Sto b w w'):Stp (Mk.FI Q P T b kv k st) (Mk.Bu Q b kv') w w':=⟨K.fr,h,fun _ h=>.inl h⟩
section
variable {P:Program}{n:Nat}{ds:List Deferred}{l:Env}{w:World}{d:Option Tmp}{ty:TypeId}{ps:String}{af:Array Edge}{g:Option (Nat×Bool)}
theorem PEv.AB{T E:TypeId}{m x:Operand}{b:Nat}{k:Int}{z:Go.Value}{kv:List (Int×Go.Value)}{v0:Go.Value}{K:TypeId}(hT:P.underlying T=some (.map K E))(hI:P.underlying K=some (.int .i64))(hz:∀w,(zeroValue E).run P w=.ok z w)(hm:Val l m (.map (some b)))(hx:Val l x (vi k))(h:IMap w b kv)(h0:(k∉kv.map (·.1)∧v0=z)∨(k,v0)∈kv):PEv P n ds l w ⟨d,.lookup T m x false,ty,ps,af,g⟩ v0:=by
 rcases h0 with⟨h1,rfl⟩|h1
 · exact PEv.Gt (ok:=false) hT hI hz hm hx h h1
 exact PEv.Cx (ok:=false) hT hI hm hx h h1
end
theorem qN{w:World}{t:TP}(h:Sl w t.v 1 A5 t.l):Els w t.ad 1 A5 t.l:=by
 obtain⟨ad,cp,e,h⟩:=h
 unfold TP.v at e
 cases e
 exact h
def Kq:Int→List Int→Bool
 |_,[]=>true
 |last,n::l=>decide (last<n)&&decide (n≤1000000)&&Kq n l
def Iq(l:List Int):Bool:=Kq 0 l&&decide (l.length≤100)
theorem Lp{l:List Int}(h:Iq l=true):l.length≤100:=by
 unfold Iq at h
 exact of_decide_eq_true (Bool.and_eq_true_iff.1 h).2
theorem Vp{l:List Int}{k:Nat}{x s:Int}(hx:l[k]?=some x):Kq s (l.drop k)=(decide (s<x)&&decide (x≤1000000)&&Kq x (l.drop (k+1))):=by
 have h:=(List.getElem?_eq_some_iff.1 hx)
 rw[List.drop_eq_getElem_cons h.1,h.2]
 rfl
theorem uX{l:List Int}{k:Nat}{x s:Int}(hT:Kq 0 l=Kq s (l.drop k))(hx:l[k]?=some x)(h:(decide (x≤s)||decide (1000000<x))=true):false=Iq l:=by
 unfold Iq
 rw[hT,Vp hx]
 rcases(Bool.or_eq_true _ _).mp h with h|h
 · rw[decide_eq_false (by have:=of_decide_eq_true h;omega)];rfl
 rw[decide_eq_false (p:=x≤1000000) (by have:=of_decide_eq_true h;omega),Bool.and_false];rfl
theorem qO{l:List Int}{k:Nat}{x s:Int}(hT:Kq 0 l=Kq s (l.drop k))(hx:l[k]?=some x)(h:(decide (x≤s)||decide (1000000<x))=false):Kq 0 l=Kq x (l.drop (k+1)):=by
 rw[hT,Vp hx]
 rw[Bool.or_eq_false_iff,decide_eq_false_iff_not,decide_eq_false_iff_not]at h
 rw[decide_eq_true oQ,decide_eq_true (by omega)];rfl
theorem qP{l:List Int}{s:Int}(hT:Kq 0 l=Kq s (l.drop l.length)):decide ((l.length:Int)≤100)=Iq l:=by
 unfold Iq
 rw[hT,List.drop_length]
 show _=decide _
 exact decide_eq_decide.2 oQ
def Lq(os:List Int)(f:Int→Nat):List (Int×Go.Value):=os.map fun w=>(w,vu (f w))
theorem Og(os:List Int)(f:Int→Nat):(Lq os f).map (·.1)=os:=by unfold Lq;rw[List.map_map];exact List.map_id' os
theorem lB{os:List Int}{f g:Int→Nat}(h:∀w∈os,f w=g w):Lq os f=Lq os g:=List.map_congr_left fun w hw=>by rw[h w hw]
theorem lC{os:List Int}{k:Nat}{x:Int}(hn:os.Nodup)(hx:os[k]?=some x):D8 (Lq (os.take k) fun _=>0) x (.int .u64 0)=Lq (os.take (k+1)) fun _=>0:=by
 unfold D8
 rw[Og,if_neg (by
   intro h
   obtain⟨j,hj,e⟩:=List.mem_iff_getElem.1 h
   rw[List.length_take]at hj
   rw[List.getElem_take]at e
   obtain⟨hk,e2⟩:=List.getElem?_eq_some_iff.1 hx
   exact List.pairwise_iff_getElem.1 hn j k oQ hk oQ (e.trans e2.symm))]
 unfold Lq
 rw[List.take_add_one,hx,List.map_append]
 rfl
theorem lD{os:List Int}{f:Int→Nat}{x:Int}{v:Nat}(hx:x∈os):D8 (Lq os f) x (vu v)=Lq os fun w=>if w=x then v else f w:=by
 unfold D8
 rw[Og,if_pos hx]
 unfold Lq
 rw[List.map_map]
 refine List.map_congr_left fun w _=>?_
 show(if w=x then(x,vu v)else(w,vu (f w)))=(w,vu (if w=x then v else f w))
 by_cases h:w=x
 · subst h
   rw[if_pos rfl,if_pos rfl]
 rw[if_neg h,if_neg h]
def E3(Ts:List TP):Nat→Int→Nat
 |0,_=>0
 |i+1,w=>E3 Ts i w|||(match Ts[i]? with|some t=>if w∈t.l then 2^i else 0|none=>0)
def Oh(f:Int→Nat)(i:Nat)(xs:List Int)(w:Int):Nat:=f w|||(if w∈xs then 2^i else 0)
theorem qQ(f:Int→Nat)(i:Nat):Oh f i []=f:=by
 funext w
 unfold Oh
 rw[if_neg (by simp),Nat.or_zero]
theorem lE{Ts:List TP}{i:Nat}{t:TP}(h:Ts[i]?=some t):Oh (E3 Ts i) i t.l=E3 Ts (i+1):=by
 funext w
 show _=E3 Ts i w|||_
 rw[h]
 rfl
theorem Z6(f:Int→Nat)(i:Nat){xs:List Int}{j:Nat}{x:Int}(hx:xs[j]?=some x):(fun w=>if w=x then Oh f i (xs.take j) x|||2^i else Oh f i (xs.take j) w)=Oh f i (xs.take (j+1)):=by
 funext w
 show(if w=x then(f x|||(if x∈xs.take j then 2^i else 0))|||2^i else f w|||(if w∈xs.take j then 2^i else 0))=f w|||(if w∈xs.take (j+1)then 2^i else 0)
 by_cases h:w=x
 · subst h
   have hm:w∈xs.take (j+1):=by rw[List.take_add_one,hx];simp
   rw[if_pos rfl,if_pos hm,Nat.or_assoc]
   congr 1
   by_cases h2:w∈xs.take j
   · rw[if_pos h2,Nat.or_self]
   rw[if_neg h2,Nat.zero_or]
 have hm:w∈xs.take (j+1)↔w∈xs.take j:=by rw[List.take_add_one,hx];simp[h]
 rw[if_neg h]
 congr 1
 by_cases h2:w∈xs.take j
 · rw[if_pos h2,if_pos (hm.2 h2)]
 rw[if_neg h2,if_neg (fun e=>h2 (hm.1 e))]
theorem gV(f:Int→Nat)(i:Nat){os xs:List Int}{j:Nat}{x:Int}(hx:xs[j]?=some x)(hn:x∉os):Lq os (Oh f i (xs.take j))=Lq os (Oh f i (xs.take (j+1))):=lB fun w hw=>by
 have h1:=congrFun (Z6 f i hx) w
 rw[←h1]
 show Oh f i (xs.take j) w=if w=x then _ else Oh f i (xs.take j) w
 rw[if_neg (fun e:w=x=>hn (e▸hw))]
theorem Qt(Ts:List TP)(i:Nat)(w:Int):E3 Ts i w<2^i:=by
 induction i with
 |zero=>exact Nat.lt_succ_self 0
 |succ i ih=>
   show E3 Ts i w|||_<_
   have h2:(2:Nat)^i<2^(i+1):=Nat.pow_lt_pow_right cQ (Nat.lt_succ_self i)
   refine Nat.or_lt_two_pow oQ ?_
   cases Ts[i]? with
   |none=>exact Nat.two_pow_pos _
   |some t=>
     show(if w∈t.l then 2^i else 0)<_
     split<;>omega
theorem uY(Ts:List TP)(i:Nat)(xs:List Int)(w:Int):Oh (E3 Ts i) i xs w<2^(i+1):=by
 have h2:(2:Nat)^i<2^(i+1):=Nat.pow_lt_pow_right cQ (Nat.lt_succ_self i)
 have h1:=Qt Ts i w
 unfold Oh
 refine Nat.or_lt_two_pow oQ ?_
 split<;>omega
theorem Oi{i:Nat}(h:i≤16):(2:Nat)^i≤65536:=Nat.pow_le_pow_right (n:=2) cQ h
theorem Ww{i:Nat}(h:i<16):Go.Value.int .u64 (IntKind.u64.wrap (1*2^(min i IntKind.u64.bits)))=vu (2^i):=by
 have e:min i IntKind.u64.bits=i:=by show min i 64=i;omega
 have h2:=Oi (Nat.le_of_lt h)
 rw[e,Eb]
 unfold vu
 congr 1
 rw[Int.one_mul,show((2:Int)^i)=((2^i:Nat):Int)by rw[Int.natCast_pow];rfl]
 generalize(2^i:Nat)=p at h2⊢
 omega
theorem Wy{a b:Nat}(ha:a<18446744073709551616)(hb:b<18446744073709551616):Go.Value.int .u64 (IntKind.u64.wrap (BitVec.ofInt IntKind.u64.bits (a:Int)|||BitVec.ofInt IntKind.u64.bits (b:Int)).toNat)=vu (a|||b):=by
 have e:IntKind.u64.bits=64:=rfl
 have h:a|||b<2^64:=Nat.or_lt_two_pow oQ oQ
 rw[e,Eb,BitVec.toNat_or,BitVec.ofInt_natCast,BitVec.ofInt_natCast,BitVec.toNat_ofNat,BitVec.toNat_ofNat,Nat.mod_eq_of_lt oQ,Nat.mod_eq_of_lt (by omega)]
 unfold vu
 congr 1
 omega
theorem uZ{s:Int}{l:List Int}(h:Kq s l=true):(∀x∈l,s<x)∧l.Pairwise (· <·):=by
 induction l generalizing s with
 |nil=>exact⟨fun x hx=>(by cases hx),List.Pairwise.nil⟩
 |cons n l ih=>
   unfold Kq at h
   rw[Bool.and_eq_true,Bool.and_eq_true]at h
   obtain⟨⟨h1,_⟩,h3⟩:=h
   have h1:=of_decide_eq_true h1
   obtain⟨i1,i2⟩:=ih h3
   refine⟨fun x hx=>?_,List.pairwise_cons.2 ⟨i1,i2⟩⟩
   rcases List.mem_cons.1 hx with rfl|hx
   · exact h1
   exact Int.lt_trans h1 (i1 x hx)
theorem dX{l:List Int}(h:Iq l=true):l.Nodup:=by
 unfold Iq at h
 exact(uZ (Bool.and_eq_true_iff.1 h).1).2.imp fun h=>Int.ne_of_lt h
def Gx(os:List Int)(f:Int→Nat)(c:Nat):Bool:=os.all fun w=>decide (¬f w&&&c=0)
theorem Qu{a b:Nat}(ha:a<18446744073709551616)(hb:b<18446744073709551616):Go.Value.int .u64 (IntKind.u64.wrap (BitVec.ofInt IntKind.u64.bits (a:Int)&&&BitVec.ofInt IntKind.u64.bits (b:Int)).toNat)=vu (a&&&b):=by
 have e:IntKind.u64.bits=64:=rfl
 have h:a&&&b<2^64:=Nat.and_lt_two_pow _ oQ
 rw[e,Eb,BitVec.toNat_and,BitVec.ofInt_natCast,BitVec.ofInt_natCast,BitVec.toNat_ofNat,BitVec.toNat_ofNat,Nat.mod_eq_of_lt oQ,Nat.mod_eq_of_lt (by omega)]
 unfold vu
 congr 1
 omega
theorem gW{os:List Int}{f:Int→Nat}{c:Nat}{k:Int}(hk:k∈os)(h:((f k&&&c:Nat):Int)=0):false=Gx os f c:=by
 symm
 unfold Gx
 rw[List.all_eq_false]
 exact⟨k,hk,by rw[decide_eq_true_iff];omega⟩
theorem Z7{V os:List Int}{f:Int→Nat}{c:Nat}(h:V.Perm ((Lq os f).map (·.1)))(hn:∀k∈V,¬f k&&&c=0):true=Gx os f c:=by
 symm
 rw[Og]at h
 unfold Gx
 rw[List.all_eq_true]
 exact fun k hk=>decide_eq_true (hn k (h.symm.subset hk))
theorem P2{b r:Nat}{kv:List (Int×Go.Value)}{done:List Int}{w:World}(h:IRng w b r kv done):Stp (Fi b r kv done) (Bu b kv) w w:=⟨Fr.refl _ _,h.map,fun _ e=>.inl (.inl e)⟩
def Ec(ns:List Nat):Nat:=ns.foldl (fun b n=>b|||2^n) 0
theorem lF{ns:List Nat}{k m:Nat}(h:ns[k]?=some m):Ec (ns.take k)|||2^m=Ec (ns.take (k+1)):=by
 unfold Ec
 rw[List.take_add_one,h,List.foldl_append]
 rfl
theorem gX{ns:List Nat}{n:Nat}(h:∀x∈ns,x<n):Ec ns<2^n:=by
 unfold Ec
 suffices ∀b,b<2^n→ns.foldl (fun b n=>b|||2^n) b<2^n from this 0 (Nat.two_pow_pos _)
 intro b hb
 induction ns generalizing b with
 |nil=>exact hb
 |cons x l ih=>
   rw[List.foldl_cons]
   exact ih (fun y hy=>h y (List.mem_cons_of_mem _ hy)) _ (Nat.or_lt_two_pow hb (Nat.pow_lt_pow_right cQ (h x List.mem_cons_self)))
def nI(ns:List Nat):List Int:=ns.map fun n:Nat=>(n:Int)
theorem FM{ns:List Nat}{k:Nat}{y:Int}(h:(nI ns)[k]?=some y):∃m,ns[k]?=some m∧(m:Int)=y:=by
 unfold nI at h
 rw[List.getElem?_map]at h
 cases e:ns[k]? with
 |none=>rw[e]at h;cases h
 |some m=>rw[e]at h;exact⟨m,rfl,Option.some.inj h⟩
theorem S4(ns:List Nat):(nI ns).length=ns.length:=by unfold nI;exact List.length_map _
def vA(ns:List Nat)(k:Nat)(z:Int):Prop:=∀x∈ns.drop k,z<(x:Int)
theorem lG(ns:List Nat):vA ns 0 (-1):=fun x _=>by omega
theorem vB{ns:List Nat}{k m:Nat}{z:Int}(h:vA ns k z)(hm:ns[k]?=some m):z<(m:Int):=h m (by
 have:=(List.getElem?_eq_some_iff.1 hm)
 rw[List.drop_eq_getElem_cons this.1,this.2]
 exact List.mem_cons_self)
theorem lH{ns:List Nat}{k m:Nat}(hs:ns.Pairwise (· <·))(hm:ns[k]?=some m):vA ns (k+1) (m:Int):=fun x hx=>by
 have h1:=(List.getElem?_eq_some_iff.1 hm)
 have h2:(ns.drop k).Pairwise (· <·):=hs.sublist (List.drop_sublist k ns)
 rw[List.drop_eq_getElem_cons h1.1,h1.2]at h2
 have:=(List.pairwise_cons.1 h2).1 x hx
 omega
theorem Vq{Ts:List TP}(hl:Ts.length≤16)(w:Int):E3 Ts Ts.length w<18446744073709551616:=by
 have h1:=Qt Ts Ts.length w
 have h2:=Oi hl
 omega
theorem Vr{Ts:List TP}{ns:List Nat}(hl:Ts.length≤16)(h:∀x∈ns,x<Ts.length):Ec ns<18446744073709551616:=by
 have h1:=gX h
 have h2:=Oi hl
 omega
def S5(f:Int→Nat)(s:Nat×List Int)(x:Int):Nat×List Int:=if ¬f x=0∧f x&&&s.1=0 then(s.1|||f x,s.2++[x])else s
def Hn(f:Int→Nat)(l:List Int):Nat×List Int:=l.foldl (S5 f) (0,[])
theorem Z8{f:Int→Nat}{os:List Int}{k:Nat}{x:Int}(h:os[k]?=some x):Hn f (os.take (k+1))=S5 f (Hn f (os.take k)) x:=by
 unfold Hn
 rw[List.take_add_one,h,List.foldl_append]
 rfl
theorem Wz{f:Int→Nat}{os:List Int}{k:Nat}{x:Int}(h:os[k]?=some x)(h1:¬f x=0)(h2:((f x&&&(Hn f (os.take k)).1:Nat):Int)=0):Hn f (os.take (k+1))=((Hn f (os.take k)).1|||f x,(Hn f (os.take k)).2++[x]):=by
 rw[Z8 h]
 exact if_pos ⟨h1,by omega⟩
theorem dY{f:Int→Nat}{os:List Int}{k:Nat}{x:Int}(h:os[k]?=some x)(h1:f x=0∨¬((f x&&&(Hn f (os.take k)).1:Nat):Int)=0):Hn f (os.take (k+1))=Hn f (os.take k):=by
 rw[Z8 h]
 exact if_neg (fun h=>by have:=h.1;have:=h.2;omega)
theorem AD{f:Int→Nat}(hf:∀x,f x<2^16)(l:List Int):(Hn f l).1<2^16:=by
 unfold Hn
 suffices ∀s:Nat×List Int,s.1<2^16→(l.foldl (S5 f) s).1<2^16 from this _ (Nat.two_pow_pos _)
 intro s hs
 induction l generalizing s with
 |nil=>exact hs
 |cons x l ih=>
   rw[List.foldl_cons]
   refine ih _ ?_
   unfold S5
   split
   · exact Nat.or_lt_two_pow hs (hf x)
   exact hs
theorem vC(f:Int→Nat)(l:List Int):(Hn f l).2.length≤l.length:=by
 unfold Hn
 suffices ∀s:Nat×List Int,(l.foldl (S5 f) s).2.length≤s.2.length+l.length from Nat.le_trans (this _) (by simp)
 intro s
 induction l generalizing s with
 |nil=>exact Nat.le_refl _
 |cons x l ih=>
   rw[List.foldl_cons]
   refine Nat.le_trans (ih _) ?_
   have:(S5 f s x).2.length≤s.2.length+1:=by
     unfold S5
     split
     · simp
     omega
   rw[List.length_cons]
   omega
theorem lI{Ts:List TP}(hl:Ts.length≤16)(w:Int):E3 Ts Ts.length w<2^16:=Nat.lt_of_lt_of_le (Qt Ts Ts.length w) (Nat.pow_le_pow_right cQ hl)
def vD(p:Nat→Bool):Nat→Nat→Bool
 |0,a=>p a
 |k+1,a=>vD p k a&&vD p k (a+2^k)
theorem vE{p:Nat→Bool}{k a:Nat}(h:vD p k a=true){x:Nat}(h1:a≤x)(h2:x<a+2^k):p x=true:=by
 induction k generalizing a with
 |zero=>
   obtain rfl:x=a:=by simp at h2;omega
   exact h
 |succ k ih=>
   obtain⟨e1,e2⟩:=Bool.and_eq_true_iff.1 h
   by_cases hx:x<a+2^k
   · exact ih e1 h1 hx
   exact ih e2 oQ (by rw[Nat.pow_succ]at h2;omega)
def W5(c:Nat):Nat:=c&&&(18446744073709551616-c)
def Oj(c:Nat):Nat:=Nat.log2 (W5 c)
def qR(c:Nat):Bool:=Nat.beq c 0||(Nat.beq (W5 c) (2^Oj c)&&Nat.blt (Oj c) 16&&Nat.beq ((c&&&(c-1))|||2^Oj c) c&&Nat.beq ((c&&&(c-1))%(2^(Oj c+1))) 0)
theorem AE:vD qR 16 0=true:=by as_aux_lemma=>kernel_rfl
theorem qS{c:Nat}(h0:¬c=0)(h:c<65536):W5 c=2^Oj c∧Oj c<16∧(c&&&(c-1))|||2^Oj c=c∧(c&&&(c-1))%(2^(Oj c+1))=0:=by
 have h1:=vE AE (Nat.zero_le c) oQ
 unfold qR at h1
 rw[Bool.or_eq_true,Bool.and_eq_true,Bool.and_eq_true,Bool.and_eq_true]at h1
 rcases h1 with h1|⟨⟨⟨h1,h2⟩,h3⟩,h4⟩
 · exact absurd (Nat.eq_of_beq_eq_true h1) h0
 exact⟨Nat.eq_of_beq_eq_true h1,Nat.le_of_ble_eq_true h2,Nat.eq_of_beq_eq_true h3,Nat.eq_of_beq_eq_true h4⟩
def S6:List Nat:=(0::1::56::2::57::49::28::3::61::58::42::50::38::29::17::4::62::47::59::36::45::43::51::22::53::39::33::30::24::18::12::5::63::55::48::27::60::41::37::16::46::35::44::21::52::32::23::11::54::26::40::15::34::20::31::10::25::14::19::9::13::8::7::6::[])
def S7:Array Go.Value:=(S6.map fun n:Nat=>Go.Value.int .u8 (n:Int)).toArray
theorem AF{t:Nat}(h:t<16):2^t*285870213051353865%18446744073709551616/288230376151711744<64∧S6[2^t*285870213051353865%18446744073709551616/288230376151711744]?=some t:=by
 have:∀t:Fin 16,2^t.1*285870213051353865%18446744073709551616/288230376151711744<64∧S6[2^t.1*285870213051353865%18446744073709551616/288230376151711744]?=some t.1:=by decide
 exact this ⟨t,h⟩
theorem vF{c:Nat}(h0:¬c=0)(h:c<65536):Go.Value.int .u64 (IntKind.u64.wrap (-(c:Int)))=vu (18446744073709551616-c):=by
 unfold vu
 rw[Eb]
 congr 1
 omega
theorem vG(a b:Nat):Go.Value.int .u64 (IntKind.u64.wrap ((a:Int)*(b:Int)))=vu (a*b%18446744073709551616):=by
 unfold vu
 rw[Eb,←Int.natCast_mul]
 congr 1
theorem vH(a:Nat):Go.Value.int .u64 ((a:Int).fdiv (2^(min 58 IntKind.u64.bits)))=vu (a/288230376151711744):=by
 unfold vu
 rw[show min 58 IntKind.u64.bits=58 from rfl,Int.fdiv_eq_ediv_of_nonneg _ (by decide)]
 congr 1
theorem vI{j t:Nat}(h:S6[j]?=some t):S7[j]?=some (Go.Value.int .u8 (t:Int)):=by
 unfold S7
 rw[List.getElem?_toArray,List.getElem?_map,h]
 rfl
section
variable {P:Program}{n:Nat}{ds:List Deferred}{l:Env}{w:World}{d:Option Tmp}{ty:TypeId}{ps:String}{af:Array Edge}{g:Option (Nat×Bool)}
theorem Uc{T e k:Nat}{x ix:Operand}{B o size:Nat}{j:Nat}(hT:P.underlying T=some (.array k e))(hs:∀w,(sizeOf e).run P w=.ok size w)(hx:Val l x (.pointer (some ⟨B,o,none⟩)))(hi:Val l ix (.int .u64 (j:Int)))(hj:j<k):
   PEv P n ds l w ⟨d,.indexAddr T x ix,ty,ps,af,g⟩ (.pointer (some ⟨B,o+j*size,none⟩)):=fun a w' ha _=>by
 refine Ci ?_
 rw[ha.ev hx,ha.ev hi]
 have h0:(0:Int)≤(j:Int)∧(j:Int)<(k:Int):=⟨by omega,by omega⟩
 simp[Instr.indexAt,asIntOf,run_underlying hT,Sem.run_bind,Instr.sureAddr,hs,Fl,hj]
end
def Lr(n:Nat):Nat→Nat→Nat→List Nat
 |0,_,c=>[c]
 |k+1,first,c=>(List.range' first (n-first-k)).flatMap fun i=>Lr n k (i+1) (c|||2^i)
theorem gY{l:List Nat}{a n:Nat}(hp:l.Pairwise (· <·))(h:∀x∈l,a≤x∧x<n):l=[]∨a+l.length≤n:=by
 induction l generalizing a with
 |nil=>exact .inl rfl
 |cons x l ih=>
   obtain⟨h1,h2⟩:=List.pairwise_cons.1 hp
   have hx:=h x List.mem_cons_self
   right
   rcases ih (a:=x+1) h2 (fun y hy=>⟨h1 y hy,(h y (List.mem_cons_of_mem _ hy)).2⟩)with rfl|h3
   · show a+1≤n;omega
   rw[List.length_cons];omega
theorem gZ{n:Nat}{ns:List Nat}{first c:Nat}(hp:ns.Pairwise (· <·))(h:∀x∈ns,first≤x∧x<n):ns.foldl (fun b n=>b|||2^n) c∈Lr n ns.length first c:=by
 induction ns generalizing first c with
 |nil=>exact List.mem_singleton.2 rfl
 |cons x l ih=>
   obtain⟨h1,h2⟩:=List.pairwise_cons.1 hp
   have hx:=h x List.mem_cons_self
   have h3:∀y∈l,x+1≤y∧y<n:=fun y hy=>⟨h1 y hy,(h y (List.mem_cons_of_mem _ hy)).2⟩
   rw[List.length_cons,List.foldl_cons]
   unfold Lr
   refine List.mem_flatMap.2 ⟨x,List.mem_range'_1.2 ⟨hx.1,?_⟩,ih h2 h3⟩
   rcases gY h2 h3 with rfl|h4
   · show x<first+(n-first-0);omega
   omega
theorem iA{n k first c s:Nat}(h:s∈Lr n k first c):∃ns:List Nat,ns.length=k∧ns.Pairwise (· <·)∧(∀x∈ns,first≤x∧x<n)∧s=ns.foldl (fun b n=>b|||2^n) c:=by
 induction k generalizing first c with
 |zero=>exact⟨[],rfl,List.Pairwise.nil,fun x hx=>(by cases hx),List.mem_singleton.1 h⟩
 |succ k ih=>
   unfold Lr at h
   obtain⟨i,hi,h⟩:=List.mem_flatMap.1 h
   have hi:=List.mem_range'_1.1 hi
   obtain⟨ns,e,hp,ha,rfl⟩:=ih h
   refine⟨i::ns,by rw[List.length_cons,e],List.pairwise_cons.2 ⟨fun x hx=>(ha x hx).1,hp⟩,fun x hx=>?_,rfl⟩
   rcases List.mem_cons.1 hx with rfl|hx
   · omega
   have:=ha x hx;omega
theorem Hh(ns:List Nat)(j:Nat):(Ec ns).testBit j=decide (j∈ns):=by
 unfold Ec
 suffices ∀b:Nat,(ns.foldl (fun b n=>b|||2^n) b).testBit j=(b.testBit j||decide (j∈ns))by
   rw[this,Nat.zero_testBit,Bool.false_or]
 intro b
 induction ns generalizing b with
 |nil=>simp
 |cons x l ih=>
   rw[List.foldl_cons,ih,Nat.testBit_or,Nat.testBit_two_pow,Bool.or_assoc]
   congr 1
   by_cases h:j=x
   · subst h;simp
   have h2:¬x=j:=fun e=>h e.symm
   simp[h,h2]
theorem qT{x:Nat}{l:List Nat}(hp:(x::l).Pairwise (· <·))(h:∀y∈x::l,y<16):¬Ec (x::l)=0∧Ec (x::l)<65536∧Oj (Ec (x::l))=x∧Ec (x::l)&&&(Ec (x::l)-1)=Ec l:=by
 have hc:Ec (x::l)<65536:=gX h
 have hb:=Hh (x::l)
 have h0:¬Ec (x::l)=0:=fun e=>by
   have:=hb x
   rw[e,Nat.zero_testBit,decide_eq_true List.mem_cons_self]at this
   cases this
 obtain⟨_,_,h3,h4⟩:=qS h0 hc
 generalize hcc:Ec (x::l)=c at*
 generalize hdd:c&&&(c-1)=d at*
 generalize htt:Oj c=t at*
 have hlow:∀j,j≤t→d.testBit j=false:=fun j hj=>by
   have:=Nat.testBit_mod_two_pow d (t+1) j
   rw[h4,Nat.zero_testBit,decide_eq_true oQ,Bool.true_and]at this
   exact this.symm
 have hcb:∀j,c.testBit j=(d.testBit j||decide (t=j)):=fun j=>by rw[←h3,Nat.testBit_or,Nat.testBit_two_pow]
 have hx1:=List.pairwise_cons.1 hp
 have htx:t=x:=by
   have h5:c.testBit t=true:=by rw[hcb,decide_eq_true rfl,Bool.or_true]
   rw[hb]at h5
   have h6:=of_decide_eq_true h5
   have h7:c.testBit x=true:=by rw[hb];exact decide_eq_true List.mem_cons_self
   rcases List.mem_cons.1 h6 with h6|h6
   · exact h6
   have h8:=hx1.1 t h6
   rw[hcb,hlow x (Nat.le_of_lt h8),decide_eq_false (by omega)]at h7
   cases h7
 subst htx
 refine⟨h0,hc,rfl,Nat.eq_of_testBit_eq fun j=>?_⟩
 rw[Hh]
 by_cases hj:j≤t
 · rw[hlow j hj,decide_eq_false (fun hm=>by have:=hx1.1 j hm;omega)]
 have h9:=hcb j
 rw[decide_eq_false oQ,Bool.or_false,hb]at h9
 rw[←h9]
 exact decide_eq_decide.2 ⟨fun hm=>(List.mem_cons.1 hm).resolve_left oQ,List.mem_cons_of_mem _⟩
theorem Ol{a b:Nat}:¬a&&&b=0↔∃j,a.testBit j=true∧b.testBit j=true:=by
 constructor
 · intro h
   obtain⟨j,hj⟩:=Nat.exists_testBit_of_ne_zero h
   rw[Nat.testBit_and,Bool.and_eq_true]at hj
   exact⟨j,hj⟩
 rintro⟨j,h1,h2⟩ e
 have h3:=Nat.testBit_and a b j
 rw[e,h1,h2,Nat.zero_testBit]at h3
 cases h3
theorem Om{os:List Int}{f:Int→Nat}{ns:List Nat}:Gx os f (Ec ns)=true↔∀w∈os,∃t∈ns,(f w).testBit t=true:=by
 unfold Gx
 rw[List.all_eq_true]
 constructor
 · intro h w hw
   obtain⟨j,h1,h2⟩:=Ol.1 (of_decide_eq_true (h w hw))
   rw[Hh]at h2
   exact⟨j,of_decide_eq_true h2,h1⟩
 intro h w hw
 obtain⟨t,h1,h2⟩:=h w hw
 exact decide_eq_true (Ol.2 ⟨t,h2,by rw[Hh];exact decide_eq_true h1⟩)
structure BndInv(f:Int→Nat)(s:Nat×List Int):Prop where
 nz:∀x∈s.2,¬f x=0
 sub:∀x∈s.2,∀j,(f x).testBit j=true→s.1.testBit j=true
 dis:s.2.Pairwise fun x y=>f x&&&f y=0
theorem vJ(f:Int→Nat)(l:List Int):BndInv f (Hn f l):=by
 unfold Hn
 suffices ∀s,BndInv f s→BndInv f (l.foldl (S5 f) s)from this _ ⟨fun x hx=>(by cases hx),fun x hx=>(by cases hx),List.Pairwise.nil⟩
 induction l with
 |nil=>exact fun s h=>h
 |cons x l ih=>
   intro s h
   rw[List.foldl_cons]
   refine ih _ ?_
   unfold S5
   split
   · rename_i hx
     refine⟨fun y hy=>?_,fun y hy j hj=>?_,List.pairwise_append.2 ⟨h.dis,List.pairwise_singleton _ _,fun y hy z hz=>?_⟩⟩
     · rcases List.mem_append.1 hy with hy|hy
       · exact h.nz y hy
       rw[List.mem_singleton.1 hy];exact hx.1
     · show(s.1|||f x).testBit j=true
       rw[Nat.testBit_or,Bool.or_eq_true]
       rcases List.mem_append.1 hy with hy|hy
       · exact .inl (h.sub y hy j hj)
       rw[List.mem_singleton.1 hy]at hj;exact .inr hj
     rw[List.mem_singleton.1 hz]
     refine Decidable.byContradiction fun hn=>?_
     obtain⟨j,h1,h2⟩:=Ol.1 hn
     exact Ol.2 ⟨j,h2,h.sub y hy j h1⟩ hx.2
   exact h
theorem W6{f:Int→Nat}{l:List Int}{x:Int}(h:x∈(Hn f l).2):x∈l:=by
 unfold Hn at h
 suffices ∀s:Nat×List Int,x∈(l.foldl (S5 f) s).2→x∈s.2∨x∈l from(this _ h).resolve_left (fun h=>by cases h)
 clear h
 induction l with
 |nil=>exact fun s h=>.inl h
 |cons y l ih=>
   intro s h
   rw[List.foldl_cons]at h
   rcases ih _ h with h|h
   · unfold S5 at h
     split at h
     · rcases List.mem_append.1 h with h|h
       · exact .inl h
       exact .inr (List.mem_singleton.1 h▸List.mem_cons_self)
     exact .inl h
   exact .inr (List.mem_cons_of_mem _ h)
def AG(f:Int→Nat)(ns:List Nat)(w:Int):Nat:=(ns.find? fun t=>(f w).testBit t).getD 0
theorem Qv{f:Int→Nat}{ns:List Nat}{w:Int}(h:∃t∈ns,(f w).testBit t=true):AG f ns w∈ns∧(f w).testBit (AG f ns w)=true:=by
 unfold AG
 cases e:ns.find? fun t=>(f w).testBit t with
 |none=>
   obtain⟨t,h1,h2⟩:=h
   exact absurd h2 (by simpa using List.find?_eq_none.1 e t h1)
 |some t=>exact⟨List.mem_of_find?_eq_some e,by simpa using List.find?_some e⟩
theorem qU{os:List Int}{f:Int→Nat}{ns:List Nat}(h:Gx os f (Ec ns)=true):(Hn f os).2.length≤ns.length:=by
 have hd:=Om.1 h
 have hi:=vJ f os
 have hn:((Hn f os).2.map (AG f ns)).Nodup:=by
   rw[List.Nodup,List.pairwise_map]
   refine hi.dis.imp_of_mem fun{x y}hx hy hxy e=>?_
   have h1:=Qv (hd x (W6 hx))
   have h2:=Qv (hd y (W6 hy))
   rw[←e]at h2
   exact Ol.2 ⟨_,h1.2,h2.2⟩ hxy
 have h3:=hn.length_le_of_subset (l₂:=ns) (fun t ht=>by
   obtain⟨x,hx,rfl⟩:=List.mem_map.1 ht
   exact(Qv (hd x (W6 hx))).1)
 rwa [List.length_map]at h3
theorem AH{os:List Int}{f:Int→Nat}{ns:List Nat}{n:Nat}(hns:∀x∈ns,x<n)(h:Gx os f (Ec ns)=true):∃ms:List Nat,ms.Pairwise (· <·)∧(∀x∈ms,x<n)∧ms.length≤os.length∧Gx os f (Ec ms)=true:=by
 have hd:=Om.1 h
 refine⟨(List.range n).filter fun t=>decide (t∈os.map (AG f ns)),List.pairwise_lt_range.filter _,fun x hx=>List.mem_range.1 (List.mem_filter.1 hx).1,?_,Om.2 fun w hw=>?_⟩
 · have h3:=(List.nodup_range (n:=n)).filter (fun t=>decide (t∈os.map (AG f ns)))
   have h4:=List.Nodup.length_le_of_subset h3 (l₂:=os.map (AG f ns)) (fun t ht=>of_decide_eq_true (List.mem_filter.1 ht).2)
   rwa [List.length_map]at h4
 have h1:=Qv (hd w hw)
 exact⟨_,List.mem_filter.2 ⟨List.mem_range.2 (hns _ h1.1),decide_eq_true (List.mem_map.2 ⟨w,hw,rfl⟩)⟩,h1.2⟩
theorem vK{os:List Int}{Ts:List TP}(h:∀w∈os,¬E3 Ts Ts.length w=0):Gx os (E3 Ts Ts.length) (Ec (List.range Ts.length))=true:=Om.2 fun w hw=>by
 obtain⟨j,hj⟩:=Nat.exists_testBit_of_ne_zero (h w hw)
 refine⟨j,List.mem_range.2 ?_,hj⟩
 refine Decidable.byContradiction fun hn=>?_
 have h1:=Nat.testBit_lt_two_pow (Nat.lt_of_lt_of_le (Qt Ts Ts.length w) (Nat.pow_le_pow_right cQ (Nat.le_of_not_lt hn)))
 rw[hj]at h1
 cases h1
def Asc(n:Nat)(ns:List Nat):Prop:=ns.Pairwise (· <·)∧∀x∈ns,x<n
theorem Asc.len{n:Nat}{ns:List Nat}(h:Asc n ns):ns.length≤n:=by
 rcases gY (a:=0) h.1 (fun x hx=>⟨Nat.zero_le _,h.2 x hx⟩)with rfl|h1
 · exact Nat.zero_le _
 omega
def S8(n:Nat)(p:Nat→Bool):Option Nat:=(List.range (n+1)).findSome? fun k=>(Lr n k 0 0).find? p
theorem range_split{n k:Nat}(h:k<n):∃l,List.range n=List.range k++k::l:=by
 refine⟨List.range' (k+1) (n-k-1),?_⟩
 rw[List.range_eq_range',List.range_eq_range',show n=k+(n-k-1+1)by omega,←List.range'_append_1,Nat.zero_add,List.range'_succ]
 congr 3
 omega
theorem lJ{n:Nat}{p:Nat→Bool}(h:S8 n p=none){ms:List Nat}(hm:Asc n ms):p (Ec ms)=false:=by
 have h1:=List.findSome?_eq_none_iff.1 h ms.length (List.mem_range.2 (Nat.lt_succ_of_le hm.len))
 have h2:=List.find?_eq_none.1 h1 (Ec ms) (gZ (c:=0) hm.1 fun x hx=>⟨Nat.zero_le _,hm.2 x hx⟩)
 simpa using h2
theorem lK{n:Nat}{p:Nat→Bool}{s:Nat}(h:S8 n p=some s):∃ns,Asc n ns∧Ec ns=s∧p s=true∧∀ms,Asc n ms→p (Ec ms)=true→ns.length≤ms.length:=by
 unfold S8 at h
 obtain⟨l1,k,l2,e,h1,h2⟩:=List.findSome?_eq_some_iff.1 h
 obtain⟨ns,hl,hp,ha,hs⟩:=iA (List.mem_of_find?_eq_some h1)
 refine⟨ns,⟨hp,fun x hx=>(ha x hx).2⟩,hs.symm,by simpa using List.find?_some h1,fun ms hm hpm=>?_⟩
 refine Decidable.byContradiction fun hn=>?_
 have hk:k≤n:=by
   have:k∈List.range (n+1):=by rw[e];exact List.mem_append_right _ List.mem_cons_self
   have:=List.mem_range.1 this
   omega
 have hmem:ms.length∈l1:=by
   have h3:l1=List.range k:=by
     have h5:l1.length=k:=by
       have h6:(List.range (n+1))[l1.length]?=some k:=by rw[e];simp
       rw[List.getElem?_range (by
         have:=congrArg List.length e
         rw[List.length_range,List.length_append,List.length_cons]at this
         omega)]at h6
       exact Option.some.inj h6
     have h7:=congrArg (List.take k) e
     rw[List.take_range,List.take_left' h5,Nat.min_eq_left (by omega)]at h7
     exact h7.symm
   rw[h3]
   exact List.mem_range.2 oQ
 have h4:=List.find?_eq_none.1 (h2 _ hmem) (Ec ms) (gZ (c:=0) hm.1 fun x hx=>⟨Nat.zero_le _,hm.2 x hx⟩)
 exact h4 hpm
theorem Vs{os:List Int}{f:Int→Nat}{n:Nat}(h:S8 n (Gx os f)=none):∀ms,Asc n ms→Gx os f (Ec ms)=false:=fun _ hm=>lJ h hm
theorem lL{os:List Int}{f:Int→Nat}{n s:Nat}(h:S8 n (Gx os f)=some s):∃ns,Asc n ns∧Ec ns=s∧Gx os f (Ec ns)=true∧(∀ms,Asc n ms→Gx os f (Ec ms)=true→ns.length≤ms.length)∧(Hn f os).2.length≤ns.length∧ns.length≤os.length:=by
 obtain⟨ns,h1,h2,h3,h4⟩:=lK h
 rw[←h2]at h3
 obtain⟨ms,m1,m2,m3,m4⟩:=AH h1.2 h3
 exact⟨ns,h1,h2,h3,h4,qU h3,Nat.le_trans (h4 ms ⟨m1,m2⟩ m4) m3⟩
theorem qV{os:List Int}{Ts:List TP}(h:∀w∈os,¬E3 Ts Ts.length w=0):S8 Ts.length (Gx os (E3 Ts Ts.length))≠none:=fun e=>by
 have h1:=Vs e (List.range Ts.length) ⟨List.pairwise_lt_range,fun x hx=>List.mem_range.1 hx⟩
 rw[vK h]at h1
 cases h1
def Ls(n b:Nat):List Nat:=(List.range n).filter fun i=>decide (b/2^i%2=1)
theorem Ir(n b:Nat):Asc n (Ls n b):=⟨List.pairwise_lt_range.filter _,fun _ hx=>List.mem_range.1 (List.mem_filter.1 hx).1⟩
theorem On{n b:Nat}(h:b/2^n%2=1):Ls (n+1) b=Ls n b++[n]:=by
 unfold Ls
 rw[List.range_succ,List.filter_append]
 congr 1
 simp[h]
theorem Qw{n b:Nat}(h:¬b/2^n%2=1):Ls (n+1) b=Ls n b:=by
 unfold Ls
 rw[List.range_succ,List.filter_append]
 simp[h]
theorem vL{Ts:List TP}{w:Int}{t:TP}(ht:t∈Ts)(hw:w∈t.l):¬E3 Ts Ts.length w=0:=by
 obtain⟨i,hi,e⟩:=List.mem_iff_getElem.1 ht
 have key:∀k,i<k→(E3 Ts k w).testBit i=true:=fun k hk=>by
   induction k with
   |zero=>omega
   |succ k ih=>
     show(E3 Ts k w|||_).testBit i=true
     rw[Nat.testBit_or,Bool.or_eq_true]
     by_cases h:i<k
     · exact .inl (ih h)
     obtain rfl:i=k:=by omega
     right
     rw[List.getElem?_eq_getElem hi,e]
     show(if w∈t.l then 2^i else 0).testBit i=true
     rw[if_pos hw,Nat.testBit_two_pow,decide_eq_true rfl]
 intro h0
 have h1:=key Ts.length hi
 rw[h0,Nat.zero_testBit]at h1
 cases h1
def vM(n k first c j:Nat):List Nat:=(List.range' first j).flatMap fun i=>Lr n k (i+1) (c|||2^i)
theorem Z9(n k first c j:Nat):vM n k first c (j+1)=vM n k first c j++Lr n k (first+j+1) (c|||2^(first+j)):=by
 unfold vM
 rw[show List.range' first (j+1)=List.range' first j++[first+j]by rw[List.range'_concat,Nat.one_mul],List.flatMap_append]
 simp
theorem AI{n k first c j:Nat}(h:j≤n-first-k):vM n k first c j<+:Lr n (k+1) first c:=by
 show vM n k first c j<+:(List.range' first (n-first-k)).flatMap fun i=>Lr n k (i+1) (c|||2^i)
 have e:List.range' first (n-first-k)=List.range' first j++List.range' (first+j) (n-first-k-j):=by rw[List.range'_append_1];congr 1;omega
 rw[e,List.flatMap_append]
 exact List.prefix_append _ _
theorem vN{n k first c j:Nat}{pre tot:List Nat}(hT:pre++Lr n (k+1) first c<+:tot)(h:j<n-first-k):(pre++vM n k first c j)++Lr n k (first+j+1) (c|||2^(first+j))<+:tot:=by
 rw[List.append_assoc,←Z9]
 obtain⟨r,hr⟩:=AI (n:=n) (k:=k) (first:=first) (c:=c) (j:=j+1) h
 rw[←hr]at hT
 obtain⟨q,hq⟩:=hT
 exact⟨r++q,by rw[←hq];simp⟩
section
variable {P:Program}{n:Nat}{l:Env}{w:World}{fn:Func}{RR:Ending→World→Prop}
theorem aA{t u:Tmp}{T T':TypeId}{B B':Nat}{y x:Value}(hr:fn.results=#[.cell t T,.cell u T'])(hv:lk l t=some (.eq (.pointer (some ⟨B,0,none⟩))))(hu:lk l u=some (.eq (.pointer (some ⟨B',0,none⟩))))(hT:∀w,(isAgg T).run P w=.ok false w)(hy:w.cell? ⟨B,0,none⟩=some y)
   (hT':∀w,(isAgg T').run P w=.ok false w)(hx:w.cell? ⟨B',0,none⟩=some x)(hR:RR (.returned (.tuple #[y,x])) w):KW n [] (bodyPost P fn RR .ret) l w:=fun a ha=>
 ⟨ha.defers,.tuple #[y,x],by
   have h1:a.tmps.getD t undef=.pointer (some ⟨B,0,none⟩):=ha.val _ _ hv
   have h2:a.tmps.getD u undef=.pointer (some ⟨B',0,none⟩):=ha.val _ _ hu
   rw[Array.getD_eq_getD_getElem?]at h1 h2
   simp[results,hr,h1,h2,asAddr,Gn hT hy,Gn hT' hx],hR⟩
end
section
variable {P:Program}{n:Nat}{ds:List Deferred}{l:Env}{w:World}{d:Option Tmp}{ty:TypeId}{ps:String}{af:Array Edge}{g:Option (Nat×Bool)}
theorem REv.FN{T e:TypeId}{i:TypeInfo}{x y:Operand}{m:Nat}(hT:P.underlying T=some (.slice e))(hi:P.info? e=some i)(hz:i.zero=some (vi 0))(hs:i.size=1)(hb:i.bytes=8)(hx:Val l x (vi 0))(hy:Val l y (vi (m:Int)))(hm:m≤1000000000):
   REv P n ds l w ⟨d,.makeSlice T x y,ty,ps,af,g⟩ (fun v w'=>Up w w'∧OwnS w' w.heap.size e 1 A5 v []):=fun a ha=>by
 have hr2:=run_make (P:=P) w T e i (vi 0) hT hi hz .i64 .i64 0 (m:Int) oQ oQ (by rw[hb];omega) oQ
 rw[hs,Nat.mul_one,show(m:Int).toNat=m from rfl]at hr2
 have e1:(madeCells (vi 0).cells m).size=m:=by rw[←Array.length_toList,show(vi 0).cells=#[vi 0]from rfl,toList_madeCells_one,List.length_replicate]
 have N:=New.alloc w (madeCells (vi 0).cells m) e
 exact⟨_,_,Ci (by rw[ha.ev hx,ha.ev hy];exact hr2),N.up,rfl,.inr ⟨w.heap.size,m,_,rfl,Nat.le_refl _,by have:=N.blk;rwa [N.at_]at this,Nat.zero_le _,by unfold maxLen;omega,by rw[e1,Nat.mul_one],rfl⟩⟩
end
theorem qW{n k first c:Nat}(hn:n≤16)(hc:c<65536):∀y∈Lr n k first c,y<65536:=by
 induction k generalizing first c with
 |zero=>intro y hy;rw[List.mem_singleton.1 hy];exact hc
 |succ k ih=>
   intro y hy
   unfold Lr at hy
   obtain⟨i,hi,hy⟩:=List.mem_flatMap.1 hy
   have hi:=List.mem_range'_1.1 hi
   exact ih (Nat.or_lt_two_pow (n:=16) hc (Nat.pow_lt_pow_right cQ oQ)) y hy
theorem S9{c:Nat}(h:c<65536):Ec (Ls 16 c)=c:=Nat.eq_of_testBit_eq fun j=>by
 rw[Hh]
 by_cases hj:j<16
 · rw[Nat.testBit_eq_decide_div_mod_eq]
   exact decide_eq_decide.2 ⟨fun hm=>of_decide_eq_true (List.mem_filter.1 hm).2,fun hm=>List.mem_filter.2 ⟨List.mem_range.2 hj,decide_eq_true hm⟩⟩
 rw[decide_eq_false (show ¬j∈Ls 16 c from fun hm=>hj (List.mem_range.1 (List.mem_filter.1 hm).1)),Nat.testBit_lt_two_pow (Nat.lt_of_lt_of_le h (Nat.pow_le_pow_right (n:=2) (i:=16) cQ oQ))]
theorem iB{l m:List Nat}(hl:l.Pairwise (· <·))(hm:m.Pairwise (· <·))(h:Ec l=Ec m):l=m:=by
 have hmem:∀j,j∈l↔j∈m:=fun j=>by
   have h1:=Hh l j
   rw[h,Hh]at h1
   exact(decide_eq_decide.1 h1).symm
 have nd:∀{l:List Nat},l.Pairwise (· <·)→l.Nodup:=fun h=>h.imp (fun h=>Nat.ne_of_lt h)
 exact((List.perm_ext_iff_of_nodup (nd hl) (nd hm)).2 hmem).eq_of_pairwise (fun a b _ _ h1 h2=>by omega) hl hm
theorem qX{l:List Nat}(h:Ec l=0):l=[]:=by
 cases l with
 |nil=>rfl
 |cons x l=>
   have h1:=Hh (x::l) x
   rw[h,Nat.zero_testBit,decide_eq_true List.mem_cons_self]at h1
   cases h1
theorem lM{n k s:Nat}{p:Nat→Bool}(hk:k≤n)(h0:∀j,j<k→(Lr n j 0 0).find? p=none)(h1:(Lr n k 0 0).find? p=some s):S8 n p=some s:=by
 obtain⟨l,e⟩:=range_split (n:=n+1) (k:=k) oQ
 unfold S8
 rw[e,List.findSome?_append,List.findSome?_eq_none_iff.2 fun j hj=>h0 j (List.mem_range.1 hj),List.findSome?_cons,h1]
 rfl
theorem qY{n:Nat}{p:Nat→Bool}(h0:∀j,j<n+1→(Lr n j 0 0).find? p=none):S8 n p=none:=List.findSome?_eq_none_iff.2 fun j hj=>h0 j (List.mem_range.1 hj)
theorem qZ{l pre:List Nat}{x:Nat}{p:Nat→Bool}(h:pre++[x]<+:l)(h0:∀y∈pre,p y=false)(hx:p x=true):l.find? p=some x:=by
 obtain⟨r,rfl⟩:=h
 rw[List.append_assoc,List.find?_append,List.find?_eq_none.2 (fun y hy=>by rw[h0 y hy];exact Bool.false_ne_true)]
 simp[hx]
theorem rA{n k:Nat}{p:Nat→Bool}(hn:n≤16)(h:∀y∈Lr n k 0 0,p (y%65536)=false):(Lr n k 0 0).find? p=none:=List.find?_eq_none.2 fun y hy=>by
 have h1:=h y hy
 rw[Nat.mod_eq_of_lt (qW hn cQ y hy)]at h1
 rw[h1]
 exact Bool.false_ne_true
theorem vO{c:Nat}(h0:¬c=0)(h:c<65536):Go.Value.int .u64 (IntKind.u64.wrap ((c:Int)-1))=vu (c-1):=by
 unfold vu
 rw[Eb]
 congr 1
 omega
theorem Tb(l:List Nat)(x:Nat):nI l++[(x:Int)]=nI (l++[x]):=by unfold nI;rw[List.map_append];rfl
def JC:Option (Go.Value×List Nat)→Go.Value
 |none=>.slice none 0 0
 |some s=>s.1
def JP:Option (Go.Value×List Nat)→List Int
 |none=>[]
 |some s=>nI s.2
def FewR(n:Nat)(p:Nat→Bool)(b:Bool)(ns:List Nat):Prop:=(b=false∧ns=[]∧S8 n p=none)∨(b=true∧S8 n p=some (Ec ns)∧Asc n ns)
theorem iC{n k:Nat}{p:Nat→Bool}{pre:List Nat}{x:Nat}(hn:n≤16)(hk:k≤n)(h0:∀j,j<k→(Lr n j 0 0).find? p=none)(hpre:pre++[x]<+:Lr n k 0 0)(h1:∀y∈pre,p (y%65536)=false)(h2:p (x%65536)=true):FewR n p true (Ls 16 (x%65536)):=by
 have hlt:=fun y hy=>qW (n:=n) (k:=k) (first:=0) (c:=0) hn cQ y (hpre.subset hy)
 have hx:=hlt x (by simp)
 rw[Nat.mod_eq_of_lt hx]at h2⊢
 have h3:=qZ hpre (fun y hy=>by have h4:=h1 y hy;rwa [Nat.mod_eq_of_lt (hlt y (List.mem_append_left _ hy))]at h4) h2
 obtain⟨ns,e1,hp,ha,es⟩:=iA (List.mem_of_find?_eq_some h3)
 have e2:Ls 16 x=ns:=iB (Ir 16 x).1 hp (by rw[S9 hx,es];rfl)
 refine .inr ⟨rfl,?_,?_⟩
 · rw[S9 hx];exact lM hk h0 h3
 rw[e2];exact⟨hp,fun y hy=>(ha y hy).2⟩
def rB(n lo hi:Int):Bool:=decide (lo≤n)&&decide (n≤hi)
structure Sg where
 mn:Int
 mx:Int
 t1:Int
 s1:Int
 t2:Int
 s2:Int
def Sg.cells(s:Sg):Array Value:=#[vi s.mn,vi s.mx,vi s.t1,vi s.s1,vi s.t2,vi s.s2]
theorem Sg.one(s:Sg):s.cells.all (·.oneCell')=true:=by simp[Sg.cells,show ∀i:Int,(vi i).oneCell'=true from fun _=>rfl]
structure Wn where
 a:Int
 b:Int
 l:Int
def Wn.cells(s:Wn):Array Value:=#[vi s.a,vi s.b,vi s.l]
theorem Wn.one(s:Wn):s.cells.all (·.oneCell')=true:=by simp[Wn.cells,show ∀i:Int,(vi i).oneCell'=true from fun _=>rfl]
def mH:Sg:=⟨10,20,1,5,2,29⟩
def P3(ad:Option Addr)(cp:Nat):Array Value:=#[vi 0,vi 1,vi 5,.slice ad 1 cp,.slice none 0 0]
theorem iD{w:World}{B T:Nat}{cs ds:Array Value}{k:Nat}(h:Blk w B cs T)(hd:∀j,j<ds.size→cs[k+j]?=ds[j]?):AggAt w B (0+k) ds:=fun j v hv=>by
 have hj:=(Array.getElem?_eq_some_iff.1 hv).1
 have:=h.agg (k+j) v (by rw[hd j hj];exact hv)
 rwa [←Nat.add_assoc]at this
section
variable {P:Program}{n:Nat}{l:Env}{w:World}{fn:Func}{RR:Ending→World→Prop}
theorem iE{t:Tmp}{T:TypeId}{B:Nat}{x:Value}(hr:fn.results=#[.cell t T])(hv:lk l t=some (.eq (.pointer (some ⟨B,0,none⟩))))(hT:∀w,(isAgg T).run P w=.ok false w)(hx:w.cell? ⟨B,0,none⟩=some x)(hR:RR (.returned x) w):KW n [] (bodyPost P fn RR .ret) l w:=fun a ha=>
 ⟨ha.defers,x,by
   have h1:a.tmps.getD t undef=.pointer (some ⟨B,0,none⟩):=ha.val _ _ hv
   rw[Array.getD_eq_getD_getElem?]at h1
   simp[results,hr,h1,asAddr,Gn hT hx],hR⟩
end
end Go.Wx
namespace Go.Proofs.YtdilcdgjklimoaaGreatDoor
open Go.Proofs.Tryz
open Go.Wx Go.RowKit
theorem lN(v:Go.Value)(l:List Ar2)(w:World)(h:OwnS w 0 108 2 Ar2.cells v l)(hlen:l.length<4611686018427387904):Ret prog 102 #[v,.func (.func 34) #[] #[]] w fun r w'=>r=.tuple #[]∧Stp (J 108 2 Ar2.cells v l) (J 108 2 Ar2.cells v (l.mergeSort Xe)) w w':=by
 have hc:=h
 obtain⟨h1,⟨rfl,hn⟩|⟨g,cap,cur,rfl,_,hb,_⟩⟩:=h
 · have hks:l=[]:=List.eq_nil_of_length_eq_zero hn
   subst hks
   refine Calls.mono (AnyF.slices_SortFunc_none S2 none 0 _ w) ?_
   rintro e' w' ⟨rfl,rfl⟩
   refine⟨_,rfl,rfl,?_⟩
   rw[List.mergeSort_nil]
   exact Stp.refl hc
 have hcmp:CmpLays Tryz.prog 34 #[] (fun x:Ar2=>x.cells.toList) 2 Ng g 0 l.toArray.size w:=fun m os dk _ x y=>by
   refine Calls.mono (Wt x y _) ?_
   rintro e' w' ⟨v,rfl,rfl,hD⟩
   exact⟨rfl,hD.grow⟩
 have hK:=dV (enc:=Ar2.cells) (k:=2) (fun _=>rfl) hc
 refine Calls.mono (AnyQ.slices_SortFunc_total S2 2 isAgg108 sizeOf108 (fun x:Ar2=>x.cells.toList) (fun _=>rfl) (fun x v hv=>by simp[Ar2.cells]at hv;rcases hv with rfl|rfl<;>rfl) Ng IU 34 #[] g 0 cap l.toArray w GV hcmp hK (lt_of_block hb) (by simpa using hlen) IV) ?_
 rintro e' w' ⟨rfl,n,os,rfl⟩
 refine⟨_,rfl,rfl,?_⟩
 have h2:=qJ (enc:=Ar2.cells) (k:=2) (n:=n) (os:=os) (ts:=(l.mergeSort Xe)) (fun _=>rfl) (by rw[List.length_mergeSort]) hc
 simpa[show(fun x y=> !Go.Proofs.ltOf Ng y x)=Xe from rfl]using h2
theorem aB(g:Nat)(lb:Array Go.Value)(S Sp:List Ar2→Prop)(N:Nat)(w:World)(en:∀args w,(callFunc g args).run Tryz.prog w=.ok (.enter g args) w)(hit:∀W(X Y:Nat→Prop),Up w W→(∀i,X i→w.heap.size≤i)→(∀i,Y i→w.heap.size≤i∧i<W.heap.size)→IterS Tryz.prog g lb uN X Y S Sp N W)(hN0:N≤1000000000)(hS0:∀ks,S ks→ks.length≤1000000000):Ret prog 37 #[.func (.func g) #[] lb,.func (.func 34) #[] #[]] w fun r w'=>∃ks,S ks∧(J 108 2 Ar2.cells r (ks.mergeSort Xe)).holds w'∧(∀i,(J 108 2 Ar2.cells r (ks.mergeSort Xe)).foot i→w.heap.size≤i)∧Up w w':=by
 obtain⟨w0,rfl,hS⟩:=W0 w
 refine cT 12 func37 rfl (Af (Az (Am (Aa (I rfl (A6 (eC (.o rfl) (BN)) rfl (Ws _ _ _ _ _ _ en hit hN0) ?_))))))
 rintro v w1 ⟨ks,hP,hO_,hF_,uw1⟩
 replace hS:=hS.add uw1 (A':=J 108 2 Ar2.cells v ks) (hO_) (hF_)
 refine LW.A rfl (Am (Aa (I rfl (I rfl (A6 (eC (.u rfl rfl) (BO)) rfl (lN v ks _ (hS.own 0 rfl) (by have:=hS0 ks hP;omega)) ?_)))))
 rintro _ w2 ⟨rfl,uw2⟩
 replace hS:=hS.Dw 0 rfl uw2
 refine Am (Aa (I rfl (LW.A rfl (Ai (Al (KW.q ?_))))))
 exact⟨ks,hP,hS.get 0 rfl,fun i hi=>(hS.foot 0 rfl i hi).resolve_left (fun h=>h),hS.Ch⟩
set_option maxHeartbeats 2000000 in
set_option maxRecDepth 4000 in
theorem lO(bc:Array Go.Value)(b:Base)(ad:Option Addr)(cp:Nat)(L:List VP)(w:World)(hC:BaseC w bc b)(hT:∀p∈b.Processes,Qd p)(hE0:Els w ad 3 VP.cells L)(hw:∀p∈L,Sl w p.uv 1 A5 p.vd.why)(hlw:∀p∈L,p.vd.why.length≤100000)(hl:L.length≤100000)(hlP:b.Processes.length≤100000)(hlL:b.Lots.length≤1000000000):Ret prog 11 #[.agg bc,.slice ad L.length cp] w fun r0 w'=>∃Ts:List TP,Ts.map TP.l=Lo b (L.map (·.vd))∧Sl w' r0 1 TP.cells Ts∧(∀t∈Ts,Sl w' t.v 1 A5 t.l)∧Up w w':=by
 obtain⟨w0,rfl,hS⟩:=W0 w
 refine cT 117 func11 rfl ?_
 refine Af ?_
 refine Ao (.bA rfl) rfl ?_
 rintro _ w1 ⟨B2,rfl,NB2⟩
 have eB2:=NB2.at_
 have zB2:=NB2.size
 replace hS:=hS.Cg NB2
 change Wx.Sep _ _ _ [_]at hS
 refine Az (Am (Aa ?_))
 refine Ao (Mk.REv.makeMap (Q:=Tl)) rfl ?_
 rintro _ w2 ⟨B20,rfl,M_,u_,e_,z_⟩
 replace hS:=hS.add u_ (A':=Mk.Bu Tl B20 []) M_ (fun i(e:i=B20)=>by omega)
 change Wx.Sep _ _ _ [_,_]at hS
 clear M_ u_
 refine LW.r REv.makeMap rfl rfl rfl rfl ?_
 rintro _ w3 ⟨B21,rfl,M_,u_,e_,z_⟩
 replace hS:=hS.add u_ (A':=Bu B21 []) M_ (fun i(e:i=B21)=>by omega)
 change Wx.Sep _ _ _ [_,_,_]at hS
 clear M_ u_
 refine LW.A rfl (LW.A rfl (Am (Af (I rfl ?_))))
 refine A6 (eC (.o rfl) (BB)) rfl (Vk ad cp L _ (Els.up hE0 hS.Ch) hl) ?_
 rintro v7 w4 ⟨hO7,uw4⟩
 have zw4:=uw4.size
 replace hS:=hS.add uw4 (A':=J 101 3 VP.cells v7 (L.filter Bj)) (hO7.mono (Nat.zero_le _)) (fun i h=>hO7.base i h)
 change Wx.Sep _ _ _ [_,_,_,_]at hS
 clear hO7
 obtain⟨ad7,cp7,rfl,_⟩:=(hS.own 3 rfl).sl (fun _=>rfl)
 have hfl:=List.length_filter_le Bj L
 refine U (.Cw underlying32 (.t rfl)) ?_
 refine U (.move (.const _)) ?_
 refine LW.nil ?_
 replace hS:=hS.add (Up.refl _) (A':=Ub 3 ([]:List (BE Ar2))) ⟨by simp,by simp⟩ (by rintro i ⟨A,hA,_⟩;simp at hA)
 change Wx.Sep _ _ _ [_,_,_,_,_]at hS
 replace hS:=hS.add (Up.refl _) (A':=Ub 3 ([]:List (BE Int))) ⟨by simp,by simp⟩ (by rintro i ⟨A,hA,_⟩;simp at hA)
 change Wx.Sep _ _ _ [_,_,_,_,_,_]at hS
 refine Ac (Ae ?_)
 refine A3 (σ:=Nat×List (BE Ar2)×List (BE Int)) (fun s w=>(s.1≤(L.filter Bj).length)∧(BeInv s.2.1 (Ji b.Processes (((L.filter Bj).take s.1).map (·.vd))))∧(BeInv s.2.2 (Fk b (((L.filter Bj).take s.1).map (·.vd))))∧(Wx.Sep no w0 w [Bq B2 bc 28,Mk.Bu Tl B20 ((s.2.1).map BE.kv),Bu B21 ((s.2.2).map BE.kv),J 101 3 VP.cells (.slice ad7 (L.filter Bj).length cp7) (L.filter Bj),Ub 3 (s.2.1),Ub 3 (s.2.2)])) (fun s=>[(25,.eq (vi (s.1:Int)))]) ([(2,.eq _),(4,.eq _),(5,.eq _),(6,.eq _),(23,.eq _),(24,.eq _)]) (fun s=>(L.filter Bj).length-s.1) (0,[],[]) ?_ tQ ?_
 ·exact⟨Nat.zero_le _,BeInv.nil fun _=>rfl,BeInv.nil fun _=>rfl,hS⟩
 rintro⟨i,D,E⟩ w5 ⟨hi,hDI,hEI,hS⟩
 dsimp only at hi hDI hEI hS
 change Wx.Sep _ _ _ [_,_,_,_,_,_]at hS
 change CW _ _ _ _ _ _ _ ([(25,.eq (vi (i:Int)))]++_) _
 refine Af ?_
 refine U (.l2 rfl rfl) ?_
 refine Am ?_
 refine CW.b rfl (fun h26=>?_) (fun h26=>?_)
 ·replace h26:=dQ h26
  refine Aj (Ac (Ah (Ae (Ah ?_))))
  obtain⟨p,hp⟩:=Aq (xs:=(L.filter Bj)) (i:=i) oQ
  have hpL:p∈L:=(List.mem_filter.1 (List.mem_of_getElem? hp)).1
  obtain⟨Bp,op_,ap,hcp⟩:=(Cy (hS.own 3 rfl) (fun _=>rfl)) i p hp
  have hEw:=xK (hw p hpL)
  refine Aa ?_
  refine U (.Aw underlying32 sizeOf101 (j:=i) (.t rfl) (.t rfl) oQ ap) ?_
  refine U (.lc rfl (hcp)) ?_
  refine Ao (.Br zeroValue101) rfl ?_
  rintro _ w6 ⟨B8,rfl,MB8⟩
  refine A9 (.Ca sizeOf101 rfl (.t rfl) (.t rfl) (VP.one _) MB8.blk rfl) ?_
  intro w7 LB8
  have NB8:=MB8.set LB8
  clear LB8 MB8
  have eB8:=NB8.at_
  have zB8:=NB8.size
  replace hS:=hS.Cg NB8
  change Wx.Sep _ _ _ [_,_,_,_,_,_,_]at hS
  refine Am (Aa ?_)
  refine Ao (Mk.REv.makeMap (Q:=Tl)) rfl ?_
  rintro _ w8 ⟨B29,rfl,M_,u_,e_,z_⟩
  replace hS:=hS.add u_ (A':=Mk.Bu Tl B29 []) M_ (fun i(e:i=B29)=>by omega)
  change Wx.Sep _ _ _ [_,_,_,_,_,_,_,_]at hS
  clear M_ u_
  refine LW.A rfl (Am (Ah ?_))
  obtain⟨v00,h00,hs00⟩:=hC.at_ (j:=0) cQ
  obtain⟨adP,cpP,rfl,hEP⟩:=(show Sl w0 v00 19 Fact.cells b.Processes from hs00)
  refine Aa ?_
  refine U (.fB 0 rfl) ?_
  refine U (.lb rfl (hS.b0.cell h00)) ?_
  refine U (.Cw underlying26 (.t rfl)) ?_
  refine U (.move (.const _)) ?_
  refine Ai (Ae ?_)
  refine A3 (σ:=Nat) (fun s w=>(s≤b.Processes.length)∧(Wx.Sep no w0 w [Bq B2 bc 28,Mk.Bu Tl B20 ((D).map BE.kv),Bu B21 ((E).map BE.kv),J 101 3 VP.cells (.slice ad7 (L.filter Bj).length cp7) (L.filter Bj),Ub 3 (D),Ub 3 (E),Bq B8 p.cells 101,Mk.Bu Tl B29 ((Hm (b.Processes.take s) p.vd.why).map Sx)])) (fun s=>[(33,.eq (vi (s:Int)))]) ([(2,.eq _),(4,.eq _),(5,.eq _),(6,.eq _),(8,.eq _),(9,.eq _),(23,.eq _),(24,.eq _),(25,.eq _),(31,.eq _),(32,.eq _)]) (fun s=>b.Processes.length-s) 0 ?_ tQ ?_
  ·exact⟨Nat.zero_le _,hS⟩
  rintro j w9 ⟨hj,hS⟩
  refine Af ?_
  refine U (.l2 rfl rfl) ?_
  refine Am ?_
  refine CW.b rfl (fun h34=>?_) (fun h34=>?_)
  ·replace h34:=dQ h34
   refine Aj (Ac (Ah (Ae (Ah ?_))))
   obtain⟨y,hy⟩:=Aq (xs:=b.Processes) (i:=j) oQ
   obtain⟨By,oy,ay,hcy⟩:=(Els.up hEP hS.Ch) j y hy
   refine Aa ?_
   refine U (.Aw underlying26 sizeOf74 (j:=j) (.t rfl) (.t rfl) oQ ay) ?_
   refine U (.lc rfl (hcy)) ?_
   refine Ao (.Br zeroValue74) rfl ?_
   rintro _ w10 ⟨B11,rfl,MB11⟩
   refine A9 (.Ca sizeOf74 rfl (.t rfl) (.t rfl) (Fact.one _) MB11.blk rfl) ?_
   intro w11 LB11
   have NB11:=MB11.set LB11
   clear LB11 MB11
   have eB11:=NB11.at_
   have zB11:=NB11.size
   replace hS:=hS.Cg NB11
   change Wx.Sep _ _ _ [_,_,_,_,_,_,_,_,_]at hS
   refine Am (Aa ?_)
   refine U (.fB 2 rfl) ?_
   refine U (.lb rfl (Blk.Ak (v:=p.uv) (hS.blk 6 rfl) rfl)) ?_
   refine U (.fB 1 rfl) ?_
   refine U (.lb rfl ((hS.blk 8 rfl).Ak rfl)) ?_
   refine A6 (eC (.u rfl rfl) (GS)) rfl (Ua p.ad p.cp p.vd.why y.ID _ (Els.up hEw hS.Ch) (hlw p hpL)) ?_
   rintro _ w12 ⟨rfl,uw12⟩
   have zw12:=uw12.size
   replace hS:=hS.up uw12
   refine Ai ?_
   refine CW.b rfl (fun h41=>?_) (fun h41=>?_)
   ·replace h41:=dQ h41
    have hin:y.ID∈p.vd.why:=by simpa using h41
    refine Aa (I rfl ?_)
    refine U (.fB 5 rfl) ?_
    refine U (.lb rfl ((hS.blk 8 rfl).Ak rfl)) ?_
    refine U (.fB 6 rfl) ?_
    refine U (.lb rfl ((hS.blk 8 rfl).Ak rfl)) ?_
    refine U (.Jo (cs:=(Ar2.mk y.Time y.Until).cells) underlying108 zeroValue108 sizeOf3 (.ct rfl (.cu rfl)) rfl) ?_
    refine A9 (Mk.SEv.mapUpdate (k:=gR y) underlying106 pZ (show Tl.ok (gR y)from qM (hT y (List.mem_of_getElem? hy))) (.t rfl) (.t rfl) (.const _) (hS.get 7 rfl)) ?_
    rintro w13 ⟨Mu,Ku,zu⟩
    rw[dU]at Mu
    replace hS:=hS.Dw 7 rfl (Mk.Ka Mu Ku)
    change Wx.Sep _ _ _ [_,_,_,_,_,_,_,_,_]at hS
    clear Mu Ku
    refine LW.nil (Ad (Ac (Aa ?_)))
    refine U (.ic rfl oQ) ?_
    refine I rfl (LW.nil (Ar ?_))
    exact⟨j+1,⟨by omega,by first|(rw[Zz hy hin];exact hS.take 8)|(rw[gS hy hin];exact hS.take 8)⟩,tQ,by first|omega|(dsimp only;omega)⟩
   replace h41:=dQ h41
   have hin:¬y.ID∈p.vd.why:=by simpa using h41
   refine Aj (Ad (Ac (Aa ?_)))
   refine U (.ic rfl oQ) ?_
   refine I rfl (LW.nil (Ar ?_))
   exact⟨j+1,⟨by omega,by first|(rw[Zz hy hin];exact hS.take 8)|(rw[gS hy hin];exact hS.take 8)⟩,tQ,by first|omega|(dsimp only;omega)⟩
  replace h34:=dQ h34
  refine A4 (Ab (Ab (An (Ac (Ah (Ah ?_))))))
  have hjl:j=b.Processes.length:=by omega
  rw[hjl,List.take_length]at hS
  refine Aa (I rfl ?_)
  refine Ao (Mk.REv.range underlying106 (.t rfl) (hS.get 7 rfl)) rfl ?_
  rintro _ w14 ⟨r50,rfl,hR_,u_,e_,z_⟩
  replace hS:=hS.Dw 7 rfl (Mk.Gf hR_ u_ e_)
  change Wx.Sep _ _ _ [_,_,_,_,_,_,_,_]at hS
  clear hR_ u_
  refine Ai (Ae ?_)
  refine A3 (σ:=List Ar2×List (BE Ar2)) (fun s w=>(s.1.Nodup∧∀k∈s.1,k∈Hm (b.Processes) p.vd.why)∧(BeInv s.2 (Pf b.Processes (((L.filter Bj).take i).map (·.vd)) p.vd s.1))∧(Wx.Sep no w0 w [Bq B2 bc 28,Mk.Bu Tl B20 ((s.2).map BE.kv),Bu B21 ((E).map BE.kv),J 101 3 VP.cells (.slice ad7 (L.filter Bj).length cp7) (L.filter Bj),Ub 3 (s.2),Ub 3 (E),Bq B8 p.cells 101,Mk.Fi Tl B29 r50 ((Hm (b.Processes) p.vd.why).map Sx) s.1])) (fun s=>[]) ([(2,.eq _),(4,.eq _),(5,.eq _),(6,.eq _),(8,.eq _),(23,.eq _),(24,.eq _),(25,.eq _),(50,.eq _)]) (fun s=>(Hm (b.Processes) p.vd.why).length-s.1.length) ([],D) ?_ tQ ?_
  ·exact⟨⟨List.nodup_nil,fun _ h=>(by cases h)⟩,by rw[qF];exact hDI,hS⟩
  rintro⟨V,D⟩ w15 ⟨hV,hDI,hS⟩
  dsimp only at hV hDI hS
  change Wx.Sep _ _ _ [_,_,_,_,_,_,_,_]at hS
  change CW _ _ _ _ _ _ _ ([]++_) _
  refine Af ?_
  refine Ao (Mk.REv.next (.t rfl) (hS.get 7 rfl)) rfl ?_
  rintro _ w16 (⟨rfl,rfl,hPm⟩|⟨k0,u0,rfl,hNx⟩)
  ·skip
   refine U (.xt rfl rfl) (Am ?_)
   refine CW.f rfl ?_
   refine A4 (Ab (Ab (An (Ac (Ah ?_)))))
   rw[kW (by rw[Nh]at hPm;exact hPm)]at hDI
   refine Aa ?_
   refine U (.Kw isAgg28 sizeOf28 (hC.size) (.t rfl) (hS.b0.agg)) ?_
   refine U (.lc rfl ((hS.blk 6 rfl).agg)) ?_
   refine A6 (eC (.u rfl rfl) (GU)) rfl (dN bc b p _ (hC.up hS.Ch) (Sl.up (hw p hpL) hS.Ch) (hlw p hpL) hlP hlL) ?_
   rintro _ w17 ⟨rfl,uw17⟩
   have zw17:=uw17.size
   replace hS:=hS.up uw17
   refine LW.A rfl (Am (Aa (I rfl ?_)))
   refine U (.neq (.t rfl) (.const _)) ?_
   refine Ai ?_
   refine CW.b rfl (fun h68=>?_) (fun h68=>?_)
   ·replace h68:=dQ h68
    have hn:¬Hf b p.vd=0:=by simpa using h68
    obtain⟨v0,hv0⟩:=zZ (E.map BE.kv) (Hf b p.vd)
    obtain⟨E1,j1,e1,hE1,hj1,rfl,hl1,hputE⟩:=Zx hEI p.vd.w hv0
    replace hS:=hS.Dw 5 rfl (qD hE1 (hS.get 5 rfl))
    change Wx.Sep _ _ _ [_,_,_,_,_,_,_,_]at hS
    have hbl:=kX b (((L.filter Bj).take i).map (·.vd)) (Hf b p.vd)
    rw[List.length_map,List.length_take]at hbl
    refine Aa (I rfl (I rfl (I rfl (I rfl ?_))))
    refine U (.AB underlying105 underlying3 zeroValue37 (.t rfl) (.t rfl) (hS.get 2 rfl) hv0) ?_
    refine U (.fB 0 rfl) ?_
    refine U (.lb rfl (Blk.Ak (v:=vi p.vd.w) (hS.blk 6 rfl) rfl)) ?_
    refine Ao (.buildSlice (xs:=[p.vd.w]) (enc:=A5) (mk:=vi) underlying37 sizeOf3 zeroValue3 rfl cQ (fun _=>rfl) (fun _=>rfl) (.cu rfl) rfl) rfl ?_
    rintro _ w18 ⟨B76,cB76,rfl,NB76,yB76,xB76⟩
    have eB76:=NB76.at_
    have zB76:=NB76.size
    replace hS:=hS.up NB76.up
    have hE76:=xB76
    refine Ao (.Cu (enc:=A5) (bytes:=8) (i:=Tryz.t3) underlying37 kQ rfl rfl rfl rfl cQ (fun _=>rfl) Eh (.t rfl) (.t rfl) (Pd (hS.get 5 rfl) (List.mem_of_getElem? hj1)) (Av hE76) (by rw[hl1];simp only[maxLen,List.length_cons,List.length_nil];omega) (by rw[hl1];simp only[List.length_cons,List.length_nil];omega)) rfl ?_
    intro v77 w19 Gw19
    have zw19:=Gw19.fr.size
    replace hS:=hS.Dw 5 rfl (qE (g:=(Hf b p.vd)) (v:=v77) (l:=Fk b (((L.filter Bj).take i).map (·.vd)) (Hf b p.vd)++[p.vd.w]) (hS.get 5 rfl) hj1 (by rw[←hl1];exact Gw19))
    change Wx.Sep _ _ _ [_,_,_,_,_,_,_,_]at hS
    refine A9 (.mapUpdate underlying105 underlying3 (.t rfl) (.t rfl) (.t rfl) (hS.get 2 rfl)) ?_
    rintro w20 ⟨Mu,Ku,zu⟩
    rw[uS,(hputE v77).1]at Mu
    replace hS:=hS.Dw 2 rfl (Lk Mu Ku)
    change Wx.Sep _ _ _ [_,_,_,_,_,_,_,_]at hS
    clear Mu Ku
    refine LW.nil (Ad (Ac (Aa ?_)))
    refine U (.ic rfl oQ) ?_
    refine I rfl (LW.nil (Ar ?_))
    first|exact⟨(i+1,D,E1.set j1 ⟨Hf b p.vd,v77,Fk b (((L.filter Bj).take i).map (·.vd)) (Hf b p.vd)++[p.vd.w]⟩),⟨by show i+1≤_;omega,by show BeInv D (Ji _ (((L.filter Bj).take (i+1)).map (·.vd)));rw[Ja hp];exact hDI,by show BeInv _ (Fk b (((L.filter Bj).take (i+1)).map (·.vd)));rw[Ja hp,Vl hn];exact(hputE v77).2,by exact hS.take 6⟩,tQ,by show(L.filter Bj).length-(i+1)<(L.filter Bj).length-i;omega⟩|exact⟨(i+1,D,E),⟨by show i+1≤_;omega,by show BeInv D (Ji _ (((L.filter Bj).take (i+1)).map (·.vd)));rw[Ja hp];exact hDI,by show BeInv E (Fk b (((L.filter Bj).take (i+1)).map (·.vd)));rw[Ja hp,Z0 hn];exact hEI,by exact hS.take 6⟩,tQ,by show(L.filter Bj).length-(i+1)<(L.filter Bj).length-i;omega⟩
   replace h68:=dQ h68
   have hn:Hf b p.vd=0:=by simpa using h68
   refine Aj (Ad (Ac (Aa ?_)))
   refine U (.ic rfl oQ) ?_
   refine I rfl (LW.nil (Ar ?_))
   first|exact⟨(i+1,D,E1.set j1 ⟨Hf b p.vd,v77,Fk b (((L.filter Bj).take i).map (·.vd)) (Hf b p.vd)++[p.vd.w]⟩),⟨by show i+1≤_;omega,by show BeInv D (Ji _ (((L.filter Bj).take (i+1)).map (·.vd)));rw[Ja hp];exact hDI,by show BeInv _ (Fk b (((L.filter Bj).take (i+1)).map (·.vd)));rw[Ja hp,Vl hn];exact(hputE v77).2,by exact hS.take 6⟩,tQ,by show(L.filter Bj).length-(i+1)<(L.filter Bj).length-i;omega⟩|exact⟨(i+1,D,E),⟨by show i+1≤_;omega,by show BeInv D (Ji _ (((L.filter Bj).take (i+1)).map (·.vd)));rw[Ja hp];exact hDI,by show BeInv E (Fk b (((L.filter Bj).take (i+1)).map (·.vd)));rw[Ja hp,Z0 hn];exact hEI,by exact hS.take 6⟩,tQ,by show(L.filter Bj).length-(i+1)<(L.filter Bj).length-i;omega⟩
  skip
  have zw16:=hNx.size
  replace hS:=hS.Dw 7 rfl (Mk.Hd hNx)
  change Wx.Sep _ _ _ [_,_,_,_,_,_,_,_]at hS
  have hk0c:k0∈Hm (b.Processes) p.vd.why:=by have h5:=List.mem_map_of_mem (f:=Prod.fst) hNx.mem;rw[Nh]at h5;exact h5
  have hk0V:=hNx.fresh
  have hV2:(V++[k0]).Nodup∧∀k∈V++[k0],k∈Hm (b.Processes) p.vd.why:=⟨List.nodup_append.2 ⟨hV.1,by simp,fun a ha c hc=>by simp at hc;subst hc;exact fun e=>hk0V (e▸ha)⟩,fun k hk=>(List.mem_append.1 hk).elim (hV.2 k) (fun h=>by cases List.mem_singleton.1 h;exact hk0c)⟩
  have hVl:=hV2.1.length_le_of_subset hV2.2
  rw[List.length_append,List.length_singleton]at hVl
  have hko:=gT (fun f hf=>qM (hT f hf)) k0 hk0c
  refine U (.xt rfl rfl) (Am ?_)
  refine CW.v rfl ?_
  refine Aj (Ac (Ae (Ah ?_)))
  have hbl:=qI b.Processes (((L.filter Bj).take i).map (·.vd)) p.vd V k0
  rw[List.length_map,List.length_take]at hbl
  refine Aa ?_
  refine Ao (.entry (.t rfl) hNx.entry) rfl ?_
  rintro _ _ ⟨rfl,rfl⟩
  refine U (.xt rfl rfl) ?_
  refine Ao (.Br zeroValue108) rfl ?_
  rintro _ w21 ⟨B12,rfl,MB12⟩
  refine A9 (.Ca sizeOf108 rfl (.t rfl) (.t rfl) (Ar2.one _) MB12.blk rfl) ?_
  intro w22 LB12
  have NB12:=MB12.set LB12
  clear LB12 MB12
  have eB12:=NB12.at_
  have zB12:=NB12.size
  replace hS:=hS.Cg NB12
  change Wx.Sep _ _ _ [_,_,_,_,_,_,_,_,_]at hS
  refine Ai ?_
  have zB20:=(show Mk.IMap Tl _ _ _ from hS.get 1 rfl).lt
  refine Aa (I rfl ?_)
  refine U (.lc rfl ((hS.blk 8 rfl).agg)) ?_
  refine U (.fB 0 rfl) ?_
  refine U (.lb rfl (Blk.Ak (v:=vi p.vd.w) (hS.blk 6 rfl) rfl)) ?_
  refine Ao (.buildSlice (xs:=[p.vd.w]) (enc:=A5) (mk:=vi) underlying37 sizeOf3 zeroValue3 rfl cQ (fun _=>rfl) (fun _=>rfl) (.cu rfl) rfl) rfl ?_
  rintro _ w23 ⟨B60,cB60,rfl,NB60,yB60,xB60⟩
  have eB60:=NB60.at_
  have zB60:=NB60.size
  replace hS:=hS.up NB60.up
  have hE60:=xB60
  refine Ao (Mk.REv.mapEntry underlying104 pZ hko zeroValue37 (.t rfl) (.t rfl) (hS.get 1 rfl)) rfl ?_
  rintro _ w24 ⟨v0,st0,rfl,hv0,hMd,Ks,zs⟩
  replace hE60:=hE60.sto Ks oQ
  replace hS:=hS.Dw 1 rfl (uW hMd Ks)
  change Wx.Sep _ _ _ [_,_,_,_,_,_,_,_,_]at hS
  clear hMd Ks
  obtain⟨D1,j1,e1,hD1,hj1,rfl,hl1,hput⟩:=Zx hDI p.vd.w hv0
  replace hS:=hS.Dw 4 rfl (qD hD1 (hS.get 4 rfl))
  change Wx.Sep _ _ _ [_,_,_,_,_,_,_,_,_]at hS
  refine U (.xt rfl rfl) ?_
  refine Ao (.Cu (enc:=A5) (bytes:=8) (i:=Tryz.t3) underlying37 kQ rfl rfl rfl rfl cQ (fun _=>rfl) Eh (.t rfl) (.t rfl) (Pd (hS.get 4 rfl) (List.mem_of_getElem? hj1)) (Av hE60) (by rw[hl1];simp only[maxLen,List.length_cons,List.length_nil];omega) (by rw[hl1];simp only[List.length_cons,List.length_nil];omega)) rfl ?_
  intro v62 w25 Gw25
  have zw25:=Gw25.fr.size
  replace hS:=hS.Dw 4 rfl (qE (g:=k0) (v:=v62) (l:=Pf b.Processes (((L.filter Bj).take i).map (·.vd)) p.vd V k0++[p.vd.w]) (hS.get 4 rfl) hj1 (by rw[←hl1];exact Gw25))
  change Wx.Sep _ _ _ [_,_,_,_,_,_,_,_,_]at hS
  refine U (.xt rfl rfl) ?_
  refine A9 (Mk.SEv.entryStore (.t rfl) (.t rfl) (.t rfl) (hS.get 1 rfl)) ?_
  rintro w26 ⟨Mu,Ku,zu⟩
  rw[(hput v62).1]at Mu
  replace hS:=hS.Dw 1 rfl (lA Mu Ku)
  change Wx.Sep _ _ _ [_,_,_,_,_,_,_,_,_]at hS
  clear Mu Ku
  refine LW.nil (Ad (Ar ?_))
  exact⟨(V++[k0],D1.set j1 ⟨k0,v62,Pf b.Processes (((L.filter Bj).take i).map (·.vd)) p.vd V k0++[p.vd.w]⟩),⟨hV2,by show BeInv _ (Pf _ _ _ (V++[k0]));rw[qG hk0V];exact(hput v62).2,hS.take 8⟩,tQ,by show _-(V++[k0]).length<_-V.length;rw[List.length_append,List.length_singleton];omega⟩
 replace h26:=dQ h26
 refine A4 (Ab (Ab (An (Ac (Ah ?_)))))
 have hil:i=(L.filter Bj).length:=by omega
 rw[hil,List.take_length]at hDI hEI
 have hDl:=uU hDI
 have hEl:=uV hEI
 rw[List.length_map]at hEl
 have zB20:=(show Mk.IMap Tl _ _ _ from hS.get 1 rfl).lt
 have zB21:=(show IMap _ _ _ from hS.get 2 rfl).lt
 refine Aa ?_
 refine U (.assign (.func _)) ?_
 refine Am (Aa (Az (Am (Af (I rfl ?_)))))
 refine A6 (eC (.o rfl) (GX)) rfl (kU _ _) ?_
 rintro _ w27 ⟨⟨BK,rfl,hBK,zK⟩,uw27⟩
 have zw27:=uw27.size
 replace hS:=hS.up uw27
 have zBK:=hBK.lt
 have zz:=hS.Ch.size
 refine I rfl ?_
 refine A6 (eC (.u rfl rfl) (GW)) rfl (aB _ _ _ _ _ _ BP (fun W X Y u hX hY=>dO X Y BK B20 _ W (fun i h=>(hY i h).2) (fun h=>by have:=hX _ h;omega) (fun h=>by have:=(hY _ h).1;omega) (hBK.up u) ((show Mk.IMap Tl _ _ _ from hS.get 1 rfl).up u)) (by rw[List.length_map];omega) (fun ks h=>by have:=h.length_eq;rw[Kj,List.length_map]at this;omega)) ?_
 rintro v82 w28 ⟨ks,hPk,hO82,hf82,uw28⟩
 have zw28:=uw28.size
 replace hBK:=hBK.up uw28
 replace hS:=hS.add uw28 (A':=J 108 2 Ar2.cells v82 (ks.mergeSort Xe)) (hO82) (hf82)
 change Wx.Sep _ _ _ [_,_,_,_,_,_,_]at hS
 clear hO82
 rw[Kj]at hPk
 rw[Z4 hDI hPk]at hS
 obtain⟨ad82,cp82,rfl,_⟩:=(hS.own 6 rfl).sl (fun _=>rfl)
 change Wx.Sep _ _ _ [_,_,_,_,_,_,_]at hS
 refine U (.Cw underlying112 (.t rfl)) ?_
 refine U (.move (.const _)) ?_
 refine LW.nil ?_
 have hTkl:(F4 b.Processes ((L.filter Bj).map (·.vd))).length≤100000:=by rw[←Z4 hDI hPk,List.length_mergeSort,hPk.length_eq,List.length_map];omega
 replace hS:=hS.Y2 (OwnS.nil _ 0 118 1 TP.cells)
 change Wx.Sep _ _ _ [_,_,_,_,_,_,_,_]at hS
 refine Ac (Ae ?_)
 refine A3 (σ:=Nat×Go.Value×List TP) (fun s w=>(s.1≤(F4 b.Processes ((L.filter Bj).map (·.vd))).length)∧(s.2.2.map TP.l=((F4 b.Processes ((L.filter Bj).map (·.vd))).take s.1).map (Ji b.Processes ((L.filter Bj).map (·.vd))))∧(∀t∈s.2.2,∃e∈D,e.v=t.v∧e.l=t.l)∧(Wx.Sep no w0 w [Bq B2 bc 28,Mk.Bu Tl B20 ((D).map BE.kv),Bu B21 ((E).map BE.kv),J 101 3 VP.cells (.slice ad7 (L.filter Bj).length cp7) (L.filter Bj),Ub 3 (D),Ub 3 (E),J 108 2 Ar2.cells (.slice ad82 (F4 b.Processes ((L.filter Bj).map (·.vd))).length cp82) (F4 b.Processes ((L.filter Bj).map (·.vd))),J 118 1 TP.cells s.2.1 s.2.2])) (fun s=>[(84,.eq (vi (s.1:Int))),(15,.eq (s.2.1))]) ([(4,.eq _),(5,.eq _),(6,.eq _),(82,.eq _),(83,.eq _)]) (fun s=>(F4 b.Processes ((L.filter Bj).map (·.vd))).length-s.1) (0,.slice none 0 0,[]) ?_ tQ ?_
 ·exact⟨Nat.zero_le _,rfl,(fun _ h=>(by cases h)),hS⟩
 rintro⟨k,v,Ts⟩ w29 ⟨hk,hTs,hTe,hS⟩
 dsimp only at hk hTs hTe hS
 change Wx.Sep _ _ _ [_,_,_,_,_,_,_,_]at hS
 change CW _ _ _ _ _ _ _ ([(84,.eq (vi (k:Int))),(15,.eq (v))]++_) _
 refine Af ?_
 refine U (.l2 rfl rfl) ?_
 refine Am ?_
 refine CW.b rfl (fun h85=>?_) (fun h85=>?_)
 ·replace h85:=dQ h85
  refine Aj (Ac (Ah (Ae (Ah ?_))))
  obtain⟨g,hg⟩:=Aq (xs:=(F4 b.Processes ((L.filter Bj).map (·.vd)))) (i:=k) oQ
  obtain⟨Bg,og,ag,hcg⟩:=(Cy (hS.own 6 rfl) (fun _=>rfl)) k g hg
  obtain⟨e,he,heg⟩:=kY hDI (List.mem_of_getElem? hg)
  obtain⟨ade,cpe,hev,_⟩:=(Pd (hS.get 4 rfl) he).sl (fun _=>rfl)
  have hko:=qK (fun f hf=>qM (hT f hf)) g (List.mem_of_getElem? hg)
  have hTl:=congrArg List.length hTs
  simp only[List.length_map,List.length_take]at hTl
  refine Aa ?_
  refine U (.Aw underlying112 sizeOf108 (j:=k) (.t rfl) (.t rfl) oQ ag) ?_
  refine U (.lc rfl (hcg)) ?_
  refine Ao (.Br zeroValue108) rfl ?_
  rintro _ w30 ⟨B17,rfl,MB17⟩
  refine A9 (.Ca sizeOf108 rfl (.t rfl) (.t rfl) (Ar2.one _) MB17.blk rfl) ?_
  intro w31 LB17
  have NB17:=MB17.set LB17
  clear LB17 MB17
  have eB17:=NB17.at_
  have zB17:=NB17.size
  replace hS:=hS.Cg NB17
  change Wx.Sep _ _ _ [_,_,_,_,_,_,_,_,_]at hS
  refine Ai (Aa (I rfl (I rfl ?_)))
  refine U (.lc rfl ((hS.blk 8 rfl).agg)) ?_
  refine U (Mk.PEv.Cx (ok:=false) underlying104 pZ hko (.t rfl) (.t rfl) (hS.get 1 rfl) (List.mem_map.2 ⟨e,he,by show(e.g,e.v)=_;rw[heg,hev]⟩)) ?_
  refine U (.build (cs:=(TP.mk ade e.l cpe).cells) underlying118 zeroValue118 K1 (.cu rfl) rfl) ?_
  refine Ao (.buildSlice (xs:=[TP.mk ade e.l cpe]) (enc:=TP.cells) (mk:=fun t:TP=>.agg t.cells) underlying39 sizeOf118 zeroValue118 rfl cQ (fun _=>rfl) (fun _=>rfl) (.cu rfl) rfl) rfl ?_
  rintro _ w32 ⟨B93,cB93,rfl,NB93,yB93,xB93⟩
  have eB93:=NB93.at_
  have zB93:=NB93.size
  replace hS:=hS.up NB93.up
  have hE93:=xB93
  refine Ao (.Cu (enc:=TP.cells) (bytes:=24) (i:=Tryz.t118) underlying39 kQ rfl rfl rfl rfl cQ (fun _=>rfl) TP.one (.t rfl) (.t rfl) (hS.own 7 rfl) (Av hE93) (by simp only[maxLen,List.length_cons,List.length_nil];omega) (by simp only[List.length_cons,List.length_nil];omega)) rfl ?_
  intro v94 w33 Gw33
  have zw33:=Gw33.fr.size
  replace hS:=hS.Dw 7 rfl Gw33
  change Wx.Sep _ _ _ [_,_,_,_,_,_,_,_,_]at hS
  refine LW.A rfl (LW.nil (Ad (Ac (Aa ?_))))
  refine U (.ic rfl oQ) ?_
  refine I rfl (LW.nil (Ar ?_))
  exact⟨(k+1,v94,Ts++[TP.mk ade e.l cpe]),⟨by show k+1≤_;omega,by show(Ts++[_]).map TP.l=_;rw[List.map_append,hTs,Mo hg,←heg,←hDI.val e he];rfl,fun t ht=>(List.mem_append.1 ht).elim (hTe t) (fun h=>⟨e,he,by rw[List.mem_singleton.1 h];exact⟨hev,rfl⟩⟩),hS.take 8⟩,tQ,by show(F4 b.Processes ((L.filter Bj).map (·.vd))).length-(k+1)<(F4 b.Processes ((L.filter Bj).map (·.vd))).length-k;omega⟩
 replace h85:=dQ h85
 refine A4 (Ab (Ab (An (Ac (Ah (Ah ?_))))))
 have hkl:k=(F4 b.Processes ((L.filter Bj).map (·.vd))).length:=by omega
 rw[hkl,List.take_length]at hTs
 refine Aa (I rfl ?_)
 refine A6 (eC (.o rfl) (GY)) rfl (Hk.Ke _ _) ?_
 rintro _ w34 ⟨⟨BJ,rfl,hBJ,zJ⟩,uw34⟩
 have zw34:=uw34.size
 replace hS:=hS.up uw34
 have zBJ:=hBJ.lt
 have zz2:=hS.Ch.size
 refine A6 (eC (.o rfl) (BC)) rfl (Hs.J9 _ _ _ _ _ _ BR (fun W X u hX=>Hk.Jh X _ BJ B21 _ W (fun i h=>h.elim) (fun h=>by have:=hX _ h;omega) (fun h=>h.elim) (hBJ.up u) ((show IMap _ _ _ from hS.get 2 rfl).up u)) (by rw[List.length_map];omega) (fun ks h=>by have:=h.length_eq;rw[Kj,List.length_map]at this;omega)) ?_
 rintro v98 w35 ⟨ks2,hPj,hO98,uw35⟩
 have zw35:=uw35.size
 replace hBJ:=hBJ.up uw35
 replace hS:=hS.add uw35 (A':=J 3 1 A5 v98 (ks2.mergeSort fun x y=>decide (x≤y))) (hO98.mono (Nat.zero_le _)) (fun i h=>hO98.base i h)
 change Wx.Sep _ _ _ [_,_,_,_,_,_,_,_,_]at hS
 clear hO98
 rw[Kj]at hPj
 rw[Z5 hEI hPj]at hS
 obtain⟨ad98,cp98,rfl,_⟩:=(hS.own 8 rfl).sl (fun _=>rfl)
 change Wx.Sep _ _ _ [_,_,_,_,_,_,_,_,_]at hS
 refine U (.Cw underlying37 (.t rfl)) ?_
 refine U (.move (.const _)) ?_
 refine LW.nil ?_
 have hLkl:(Ip b ((L.filter Bj).map (·.vd))).length≤100000:=by rw[←Z5 hEI hPj,List.length_mergeSort,hPj.length_eq,List.length_map];omega
 refine Ac (Ae ?_)
 refine A3 (σ:=Nat×Go.Value×List TP) (fun s w=>(s.1≤(Ip b ((L.filter Bj).map (·.vd))).length)∧(s.2.2.map TP.l=(F4 b.Processes ((L.filter Bj).map (·.vd))).map (Ji b.Processes ((L.filter Bj).map (·.vd)))++((Ip b ((L.filter Bj).map (·.vd))).take s.1).map (Fk b ((L.filter Bj).map (·.vd))))∧(∀t∈s.2.2,(∃e∈D,e.v=t.v∧e.l=t.l)∨∃e∈E,e.v=t.v∧e.l=t.l)∧(Wx.Sep no w0 w [Bq B2 bc 28,Mk.Bu Tl B20 ((D).map BE.kv),Bu B21 ((E).map BE.kv),J 101 3 VP.cells (.slice ad7 (L.filter Bj).length cp7) (L.filter Bj),Ub 3 (D),Ub 3 (E),J 108 2 Ar2.cells (.slice ad82 (F4 b.Processes ((L.filter Bj).map (·.vd))).length cp82) (F4 b.Processes ((L.filter Bj).map (·.vd))),J 118 1 TP.cells s.2.1 s.2.2,J 3 1 A5 (.slice ad98 (Ip b ((L.filter Bj).map (·.vd))).length cp98) (Ip b ((L.filter Bj).map (·.vd)))])) (fun s=>[(100,.eq (vi (s.1:Int))),(15,.eq (s.2.1))]) ([(4,.eq _),(6,.eq _),(98,.eq _),(99,.eq _)]) (fun s=>(Ip b ((L.filter Bj).map (·.vd))).length-s.1) (0,v,Ts) ?_ tQ ?_
 ·exact⟨Nat.zero_le _,by show Ts.map TP.l=_++[];rw[hTs,List.append_nil],fun t ht=>.inl (hTe t ht),hS⟩
 rintro⟨j,v,Ts⟩ w36 ⟨hj,hTs2,hTe2,hS⟩
 dsimp only at hj hTs2 hTe2 hS
 change Wx.Sep _ _ _ [_,_,_,_,_,_,_,_,_]at hS
 change CW _ _ _ _ _ _ _ ([(100,.eq (vi (j:Int))),(15,.eq (v))]++_) _
 refine Af ?_
 refine U (.l2 rfl rfl) ?_
 refine Am ?_
 refine CW.b rfl (fun h101=>?_) (fun h101=>?_)
 ·replace h101:=dQ h101
  refine Aj (Ac (Ah (Ae (Ah ?_))))
  obtain⟨m,hm⟩:=Aq (xs:=(Ip b ((L.filter Bj).map (·.vd)))) (i:=j) oQ
  obtain⟨Bm,om,am,hcm⟩:=(Cy (hS.own 8 rfl) (fun _=>rfl)) j m hm
  obtain⟨e,he,heg⟩:=kZ hEI (List.mem_of_getElem? hm)
  obtain⟨ade,cpe,hev,_⟩:=(Pd (hS.get 5 rfl) he).sl (fun _=>rfl)
  have hTl:=congrArg List.length hTs2
  simp only[List.length_append,List.length_map,List.length_take]at hTl
  refine Aa ?_
  refine U (.Aw underlying37 sizeOf3 (j:=j) (.t rfl) (.t rfl) oQ am) ?_
  refine U (.lb rfl (hcm.nth (j:=0) rfl)) ?_
  refine LW.A rfl (Ai (Aa (I rfl (I rfl (I rfl ?_)))))
  refine U (.Cx (ok:=false) underlying105 underlying3 (.t rfl) (.t rfl) (hS.get 2 rfl) (List.mem_map.2 ⟨e,he,by show(e.g,e.v)=_;rw[heg,hev]⟩)) ?_
  refine U (.build (cs:=(TP.mk ade e.l cpe).cells) underlying118 zeroValue118 K1 (.cu rfl) rfl) ?_
  refine Ao (.buildSlice (xs:=[TP.mk ade e.l cpe]) (enc:=TP.cells) (mk:=fun t:TP=>.agg t.cells) underlying39 sizeOf118 zeroValue118 rfl cQ (fun _=>rfl) (fun _=>rfl) (.cu rfl) rfl) rfl ?_
  rintro _ w37 ⟨B109,cB109,rfl,NB109,yB109,xB109⟩
  have eB109:=NB109.at_
  have zB109:=NB109.size
  replace hS:=hS.up NB109.up
  have hE109:=xB109
  refine Ao (.Cu (enc:=TP.cells) (bytes:=24) (i:=Tryz.t118) underlying39 kQ rfl rfl rfl rfl cQ (fun _=>rfl) TP.one (.t rfl) (.t rfl) (hS.own 7 rfl) (Av hE109) (by simp only[maxLen,List.length_cons,List.length_nil];omega) (by simp only[List.length_cons,List.length_nil];omega)) rfl ?_
  intro v110 w38 Gw38
  have zw38:=Gw38.fr.size
  replace hS:=hS.Dw 7 rfl Gw38
  change Wx.Sep _ _ _ [_,_,_,_,_,_,_,_,_]at hS
  refine LW.A rfl (LW.nil (Ad (Ac (Aa ?_))))
  refine U (.ic rfl oQ) ?_
  refine I rfl (LW.nil (Ar ?_))
  exact⟨(j+1,v110,Ts++[TP.mk ade e.l cpe]),⟨by show j+1≤_;omega,by show(Ts++[_]).map TP.l=_;rw[List.map_append,hTs2,Mo hm,List.append_assoc,←heg,←hEI.val e he];rfl,fun t ht=>(List.mem_append.1 ht).elim (hTe2 t) (fun h=>.inr ⟨e,he,by rw[List.mem_singleton.1 h];exact⟨hev,rfl⟩⟩),hS.take 9⟩,tQ,by show(Ip b ((L.filter Bj).map (·.vd))).length-(j+1)<(Ip b ((L.filter Bj).map (·.vd))).length-j;omega⟩
 replace h101:=dQ h101
 refine A4 (Ab (Ab (An (Ac (Ah ?_)))))
 have hjl:j=(Ip b ((L.filter Bj).map (·.vd))).length:=by omega
 rw[hjl,List.take_length]at hTs2
 obtain⟨ado,cpo,rfl,hEo⟩:=(hS.own 7 rfl).sl (fun _=>rfl)
 have hco:=(hS.own 7 rfl).cap
 refine Aa (I rfl (I rfl ?_))
 refine U (.Cw underlying39 (.t rfl)) ?_
 refine U (.EQ (i:=Ts.length) (j:=16) (.t rfl) (.const _)) ?_
 refine U (.Nv underlying39 sizeOf118 (.t rfl) (.t rfl) (by have:=hco.1;omega)) ?_
 refine LW.A rfl (Ai (Al ?_))
 refine KW.q ?_
 refine⟨Ts.take 16,?_,?_,fun t ht=>?_,hS.Ch⟩
 ·rw[List.map_take,hTs2];unfold Lo Pg;rw[←gU]
 ·exact qL hEo
 rcases hTe2 t (List.mem_of_mem_take ht)with⟨e,he,h1,h2⟩|⟨e,he,h1,h2⟩
 · rw[←h1,←h2];exact(Pd (hS.get 4 rfl) he).sl (fun _=>rfl)
 rw[←h1,←h2];exact(Pd (hS.get 5 rfl) he).sl (fun _=>rfl)
theorem Tc(ad:Option Addr)(cp:Nat)(l:List Int)(w:World)(hE:Els w ad 1 A5 l)(hl:l.length≤1000000000):Ret prog 47 #[.slice ad l.length cp] w fun r w'=>r=.bool (Iq l)∧Up w w':=by
 have hW:=Up.refl w
 obtain⟨w0,rfl,_⟩:=W0 w
 refine cT 24 func47 rfl ?_
 refine Af (Az (Am (Aa (Az (Am (Af (I rfl ?_)))))))
 refine U (.Cw underlying37 (.t rfl)) ?_
 refine U (.move (.const _)) ?_
 refine Ai (Ae ?_)
 refine A3 (σ:=Nat×Int) (fun s w=>(s.1≤l.length)∧(Kq 0 l=Kq s.2 (l.drop s.1))∧(Up w0 w)) (fun s=>[(8,.eq (vi (s.1:Int))),(3,.eq (vi s.2))]) ([(0,.eq _),(6,.eq _),(7,.eq _)]) (fun s=>l.length-s.1) (0,0) ?_ tQ ?_
 ·exact⟨Nat.zero_le _,rfl,hW⟩
 rintro⟨k,z⟩ w1 ⟨hk,hT,hW⟩
 dsimp only at hk hT
 refine Af ?_
 refine U (.l2 rfl rfl) ?_
 refine Am ?_
 refine CW.b rfl (fun h9=>?_) (fun h9=>?_)
 ·replace h9:=dQ h9
  refine Aj (Ac (Ah (Ae (Ah ?_))))
  have hkl:k<l.length:=Int.ofNat_lt.1 h9
  refine Aa ?_
  obtain⟨x,hx⟩:=Aq (xs:=l) (i:=k) oQ
  obtain⟨Bx,ox,ax,hcx⟩:=(Els.up hE hW) _ x hx
  refine U (.Aw underlying37 sizeOf3 (.t rfl) (.t rfl) oQ ax) ?_
  refine U (.lb rfl (hcx.nth (j:=0) rfl)) ?_
  refine LW.A rfl (Am (Af (I rfl (I rfl ?_))))
  refine U (.leq (.t rfl) (.t rfl)) ?_
  refine I rfl ?_
  refine Ey rfl rfl ?_
  refine LW.gr rfl (fun hc=>PEv.gtr vQ (.const _)) ?_
  refine U (.po rfl (fun hp=>(by first|exact .const _|exact .tmp rfl|exact .cond rfl (by first|assumption|simp_all)))) ?_
  refine Ai ?_
  refine CW.b rfl (fun h18=>?_) (fun h18=>?_)
  ·replace h18:=dQ h18
   have hr:=uX hT hx h18
   refine Af (Az (Ai (Al (Ap (Ay (Ap (Ap (Ay (Ap ?_)))))))))
   refine KW.q ?_
   exact⟨by rw[hr],hW⟩
  replace h18:=dQ h18
  refine Aj (Ac (Aa (I rfl (LW.A rfl (LW.nil (Ad (Ac (Aa ?_))))))))
  refine U (.ic rfl oQ) ?_
  refine I rfl (LW.nil (Ar ?_))
  exact⟨(k+1,x),⟨by show k+1≤_;omega,qO (s:=z) hT hx h18,hW⟩,tQ,by show l.length-(k+1)<l.length-k;omega⟩
 replace h9:=dQ h9
 have hkl:k=l.length:=by have:¬k<l.length:=fun h=>h9 (Int.ofNat_lt.2 h);omega
 subst hkl
 have hr:=qP hT
 refine A4 (Ab (Ab (An (Ac (Af (I rfl ?_))))))
 refine U (.Cw underlying37 (.t rfl)) ?_
 refine U (.leq (.t rfl) (.const _)) ?_
 refine LW.A rfl (Ai (Al ?_))
 refine KW.q ?_
 exact⟨by rw[hr],hW⟩
theorem dZ(cf:Nat)(lb:Array Go.Value)(hen:∀args w,(callFunc cf args).run Tryz.prog w=.ok (.enter cf args) w)(ad:Option Addr)(cp:Nat)(l:List TP)(w:World)(hE0:Els w ad 1 TP.cells l)(hl:l.length≤100000)(hp:∀W,Up w W→∀x∈l,Ret Tryz.prog cf (#[.agg (TP.cells x)]++lb) W fun r W'=>r=.bool false∧Up W W'):Ret prog 107 #[.slice ad l.length cp,.func (.func cf) #[] lb] w fun r w'=>r=vi (-1)∧Up w w':=by
 have hW:=Up.refl w
 obtain⟨w0,rfl,_⟩:=W0 w
 refine cT 19 func107 rfl ?_
 refine Af (Az (Am (Af (I rfl ?_))))
 refine U (.Cw underlying39 (.t rfl)) ?_
 refine U (.move (.const _)) ?_
 refine Ai (Ae ?_)
 refine A3 (σ:=Nat) (fun s w=>(s≤l.length)∧(Up w0 w)) (fun s=>[(8,.eq (vi (s:Int)))]) ([(0,.eq _),(1,.eq _),(7,.eq _)]) (fun s=>l.length-s) 0 ?_ tQ ?_
 ·exact⟨Nat.zero_le _,hW⟩
 rintro k w1 ⟨hk,hW⟩
 refine Af ?_
 refine U (.l2 rfl rfl) ?_
 refine Am ?_
 refine CW.b rfl (fun h9=>?_) (fun h9=>?_)
 ·replace h9:=dQ h9
  refine Aj (Ac (Ah (Ae (Af (I rfl (LW.A rfl (Am ?_)))))))
  have hE:=Els.up hE0 hW
  refine Aa (I rfl (I rfl (I rfl ?_)))
  obtain⟨x,hx⟩:=Aq (xs:=l) (i:=k) oQ
  obtain⟨Bx,ox,ax,hcx⟩:=hE _ x hx
  refine U (.Aw underlying39 sizeOf118 (.t rfl) (.t rfl) oQ ax) ?_
  refine U (.lc rfl (hcx)) ?_
  refine A6 (Cc (.t rfl) (.cu rfl) (hen)) rfl (hp _ hW x (List.mem_of_getElem? hx)) ?_
  rintro _ w2 ⟨rfl,uw2⟩
  have zw2:=uw2.size
  replace hW:=hW.up uw2
  replace hcx:=hcx.up uw2
  refine Ai ?_
  refine CW.f rfl ?_
  refine Aj (Ad (Ac (Aa ?_)))
  refine U (.ic rfl oQ) ?_
  refine I rfl (LW.nil (Ar ?_))
  exact⟨k+1,⟨by omega,hW⟩,tQ,by first|omega|(dsimp only;omega)⟩
 replace h9:=dQ h9
 refine A4 (Ab (Ab (An (Ac (Af (Az (Ai (Al ?_))))))))
 refine KW.q ?_
 exact⟨rfl,hW⟩
theorem Ud(cf:Nat)(lb:Array Go.Value)(hen:∀args w,(callFunc cf args).run Tryz.prog w=.ok (.enter cf args) w)(ad:Option Addr)(cp:Nat)(l:List TP)(w:World)(hE0:Els w ad 1 TP.cells l)(hl:l.length≤100000)(hp:∀W,Up w W→∀x∈l,Ret Tryz.prog cf (#[.agg (TP.cells x)]++lb) W fun r W'=>r=.bool false∧Up W W'):Ret prog 45 #[.slice ad l.length cp,.func (.func cf) #[] lb] w fun r w'=>r=.bool false∧Up w w':=by
 have hW:=Up.refl w
 refine cT 9 func45 rfl ?_
 refine Af (Az (Am (Aa (I rfl (I rfl ?_)))))
 refine A6 (eC (.u rfl rfl) (BT)) rfl (dZ cf lb hen ad cp l _ (Els.up hE0 hW) hl (fun W u x hx=>hp W (hW.trans u) x hx)) ?_
 rintro _ w1 ⟨rfl,uw1⟩
 have zw1:=uw1.size
 replace hW:=hW.up uw1
 refine U (.geq (.t rfl) (.const _)) ?_
 refine LW.A rfl (Ai (Al ?_))
 refine KW.q ?_
 exact⟨rfl,hW⟩
theorem aD(t:TP)(w:World)(hs:Sl w t.v 1 A5 t.l)(hv:Iq t.l=true):Ret prog 46 #[.agg t.cells] w fun r w'=>r=.bool false∧Up w w':=by
 obtain⟨w0,rfl,hS⟩:=W0 w
 refine cT 7 func46 rfl ?_
 refine Af ?_
 refine Ao (.bA rfl) rfl ?_
 rintro _ w1 ⟨B1,rfl,NB1⟩
 have eB1:=NB1.at_
 have zB1:=NB1.size
 replace hS:=hS.Cg NB1
 change Wx.Sep _ _ _ [_]at hS
 refine Az (Am (Aa ?_))
 refine U (.fB 0 rfl) ?_
 refine U (.lb rfl (hS.b0.Ak rfl)) ?_
 refine A6 (eC (.o rfl) (BD)) rfl (Tc t.ad t.cp t.l _ (Els.up (qN hs) hS.Ch) (by have:=Lp hv;omega)) ?_
 rintro _ w2 ⟨rfl,uw2⟩
 have zw2:=uw2.size
 replace hS:=hS.up uw2
 rw[hv]
 refine U (.n1 rfl) ?_
 refine LW.A rfl (Ai (Al ?_))
 refine KW.q ?_
 exact⟨rfl,hS.Ch⟩
theorem Td(ad:Option Addr)(cp:Nat)(Ts:List TP)(w:World)(hE0:Els w ad 1 TP.cells Ts)(hs:∀t∈Ts,Sl w t.v 1 A5 t.l)(hv:∀t∈Ts,Iq t.l=true)(hl:Ts.length≤16):Ret prog 13 #[.slice ad Ts.length cp] w fun r w'=>r=.bool true∧Up w w':=by
 have hW:=Up.refl w
 obtain⟨w0,rfl,_⟩:=W0 w
 refine cT 11 func13 rfl ?_
 refine Af (Az (Am (Aa (I rfl ?_))))
 refine U (.Cw underlying39 (.t rfl)) ?_
 refine U (.tr (PEv.leq (.t rfl) (.const _)) (decide_eq_true oQ)) ?_
 refine I rfl ?_
 refine Bh ?_
 refine I rfl ?_
 refine Bh ?_
 refine A6 (eC (.ct rfl (.cons (.func _) .nil)) (HC)) rfl (Ud 46 #[] HD ad cp Ts _ (Els.up hE0 hW) oQ (fun W u x hx=>aD x W (Sl.up (hs x hx) (hW.trans u)) (hv x hx))) ?_
 rintro _ w1 ⟨rfl,uw1⟩
 have zw1:=uw1.size
 replace hW:=hW.up uw1
 refine Bh ?_
 refine U (.tr (PEv.n1 rfl) (rfl)) ?_
 refine U (.tr (PEv.pa rfl (fun hp=>wQ)) (rfl)) ?_
 refine LW.A rfl (Ai (Al ?_))
 refine KW.q ?_
 exact⟨rfl,hW⟩
set_option maxHeartbeats 2000000 in
theorem Kl(ado:Option Addr)(cpo:Nat)(os:List Int)(ad:Option Addr)(cp:Nat)(Ts:List TP)(w:World)(hEo:Els w ado 1 A5 os)(hvo:Iq os=true)(hE0:Els w ad 1 TP.cells Ts)(hs:∀t∈Ts,Sl w t.v 1 A5 t.l)(hv:∀t∈Ts,Iq t.l=true)(hl:Ts.length≤16):Ret prog 48 #[.slice ado os.length cpo,.slice ad Ts.length cp] w fun r w'=>∃B,r=.tuple #[.map (some B),.bool true]∧IMap w' B (Lq os (E3 Ts Ts.length))∧w.heap.size≤B∧Up w w':=by
 obtain⟨w0,rfl,hS⟩:=W0 w
 refine cT 63 func48 rfl ?_
 refine Af (Az (Az (Am (Af (I rfl ?_)))))
 refine A6 (eC (.o rfl) (BD)) rfl (Tc ado cpo os _ (Els.up hEo hS.Ch) (by have:=Lp hvo;omega)) ?_
 rintro _ w1 ⟨rfl,uw1⟩
 have zw1:=uw1.size
 replace hS:=hS.up uw1
 rw[hvo]
 refine U (.fa (PEv.n1 rfl) (rfl)) ?_
 refine I rfl ?_
 refine Bh ?_
 refine I rfl ?_
 refine Bh ?_
 refine A6 (eC (.o rfl) (AY)) rfl (Td ad cp Ts _ (Els.up hE0 hS.Ch) (fun t ht=>Sl.up (hs t ht) hS.Ch) hv hl) ?_
 rintro _ w2 ⟨rfl,uw2⟩
 have zw2:=uw2.size
 replace hS:=hS.up uw2
 refine Bh ?_
 refine U (.fa (PEv.n1 rfl) (rfl)) ?_
 refine U (.fa (PEv.po rfl (fun hp=>wQ)) (rfl)) ?_
 refine Ai ?_
 refine CW.f rfl ?_
 refine Aj (Ac (Ah ?_))
 have hlo:=Lp hvo
 refine Aa ?_
 refine LW.r REv.makeMap rfl rfl rfl rfl ?_
 rintro _ w3 ⟨B23,rfl,M_,u_,e_,z_⟩
 replace hS:=hS.add u_ (A':=Bu B23 []) M_ (fun i(e:i=B23)=>by omega)
 change Wx.Sep _ _ _ [_]at hS
 clear M_ u_
 refine LW.A rfl (Am (Af (I rfl ?_)))
 refine U (.Cw underlying37 (.t rfl)) ?_
 refine U (.move (.const _)) ?_
 refine Ai (Ae ?_)
 refine A3 (σ:=Nat) (fun s w=>(s≤os.length)∧(Wx.Sep no w0 w [Bu B23 (Lq (os.take s) fun _=>0)])) (fun s=>[(26,.eq (vi (s:Int)))]) ([(1,.eq _),(4,.eq _),(5,.eq _),(6,.eq _),(24,.eq _),(25,.eq _)]) (fun s=>os.length-s) 0 ?_ tQ ?_
 ·exact⟨Nat.zero_le _,hS⟩
 rintro k w4 ⟨hk,hS⟩
 change CW _ _ _ _ _ _ _ ([(26,.eq (vi (k:Int)))]++_) _
 refine Af ?_
 refine U (.l2 rfl rfl) ?_
 refine Am ?_
 refine CW.b rfl (fun h27=>?_) (fun h27=>?_)
 ·replace h27:=dQ h27
  refine Aj (Ac (Ah (Ae (Ah ?_))))
  have hkl:k<os.length:=by omega
  refine Aa ?_
  obtain⟨x,hx⟩:=Aq (xs:=os) (i:=k) oQ
  obtain⟨Bx,ox,ax,hcx⟩:=(Els.up hEo hS.Ch) _ x hx
  refine U (.Aw underlying37 sizeOf3 (.t rfl) (.t rfl) oQ ax) ?_
  refine U (.lb rfl (hcx.nth (j:=0) rfl)) ?_
  refine LW.A rfl (Ai (Aa (I rfl (I rfl ?_))))
  refine A9 (.mapUpdate underlying130 underlying3 (.t rfl) (.t rfl) (.const _) (hS.get 0 rfl)) ?_
  rintro w5 ⟨Mu,Ku,zu⟩
  rw[lC (dX hvo) hx]at Mu
  replace hS:=hS.Dw 0 rfl (Lk Mu Ku)
  change Wx.Sep _ _ _ [_]at hS
  clear Mu Ku
  refine LW.nil (Ad (Ac (Aa ?_)))
  refine U (.ic rfl oQ) ?_
  refine I rfl (LW.nil (Ar ?_))
  exact⟨k+1,⟨by omega,hS⟩,tQ,by first|omega|(dsimp only;omega)⟩
 replace h27:=dQ h27
 refine A4 (Ab (Ab (An (Ac (Ah (Ah ?_))))))
 have hkl:k=os.length:=by omega
 rw[hkl,List.take_length]at hS
 refine Aa (I rfl ?_)
 refine U (.Cw underlying39 (.t rfl)) ?_
 refine U (.move (.const _)) ?_
 refine Ai (Ae ?_)
 refine A3 (σ:=Nat) (fun s w=>(s≤Ts.length)∧(Wx.Sep no w0 w [Bu B23 (Lq os (E3 Ts s))])) (fun s=>[(35,.eq (vi (s:Int)))]) ([(4,.eq _),(5,.eq _),(6,.eq _),(33,.eq _),(34,.eq _)]) (fun s=>Ts.length-s) 0 ?_ tQ ?_
 ·exact⟨Nat.zero_le _,hS⟩
 rintro i w6 ⟨hi,hS⟩
 change CW _ _ _ _ _ _ _ ([(35,.eq (vi (i:Int)))]++_) _
 refine Af ?_
 refine U (.l2 rfl rfl) ?_
 refine Am ?_
 refine CW.b rfl (fun h36=>?_) (fun h36=>?_)
 ·replace h36:=dQ h36
  refine Aj (Ac (Ah (Ae (Ah ?_))))
  have hil:i<Ts.length:=by omega
  refine Aa (I rfl ?_)
  obtain⟨p,hp⟩:=Aq (xs:=Ts) (i:=i) oQ
  obtain⟨Bp,op,ap,hcp⟩:=(Els.up hE0 hS.Ch) _ p hp
  refine U (.Aw underlying39 sizeOf118 (.t rfl) (.t rfl) oQ ap) ?_
  refine U (.lc rfl (hcp)) ?_
  refine Ao (.Br zeroValue118) rfl ?_
  rintro _ w7 ⟨B10,rfl,MB10⟩
  refine LW.A rfl ?_
  refine A9 (.Ca sizeOf118 rfl (.t rfl) (.t rfl) (TP.one _) MB10.blk rfl) ?_
  intro w8 LB10
  have NB10:=MB10.set LB10
  clear LB10 MB10
  have eB10:=NB10.at_
  have zB10:=NB10.size
  replace hcp:=hcp.up NB10.up
  replace hS:=hS.Cg NB10
  change Wx.Sep _ _ _ [_,_]at hS
  refine Am ?_
  have htm:=List.mem_of_getElem? hp
  have hEt:=qN (hs p htm)
  have hlt:=Lp (hv p htm)
  refine Aa ?_
  refine U (.fB 0 rfl) ?_
  refine U (.lb rfl (Blk.Ak (v:=.slice p.ad p.l.length p.cp) hS.b1 rfl)) ?_
  refine U (.Cw underlying37 (.t rfl)) ?_
  refine U (.move (.const _)) ?_
  refine Ai (Ae ?_)
  refine A3 (σ:=Nat) (fun s w=>(s≤p.l.length)∧(Wx.Sep no w0 w [Bu B23 (Lq os (Oh (E3 Ts i) i (p.l.take s))),Bq B10 p.cells 118])) (fun s=>[(43,.eq (vi (s:Int)))]) ([(4,.eq _),(5,.eq _),(6,.eq _),(9,.eq _),(33,.eq _),(34,.eq _),(35,.eq _),(41,.eq _),(42,.eq _)]) (fun s=>p.l.length-s) 0 ?_ tQ ?_
  ·exact⟨Nat.zero_le _,by rw[List.take_zero,qQ];exact hS⟩
  rintro j w9 ⟨hj,hS⟩
  change CW _ _ _ _ _ _ _ ([(43,.eq (vi (j:Int)))]++_) _
  refine Af ?_
  refine U (.l2 rfl rfl) ?_
  refine Am ?_
  refine CW.b rfl (fun h44=>?_) (fun h44=>?_)
  ·replace h44:=dQ h44
   refine Aj (Ac (Ah (Ae (Ah ?_))))
   have hjl:j<p.l.length:=by omega
   refine Aa ?_
   obtain⟨y,hy⟩:=Aq (xs:=p.l) (i:=j) oQ
   obtain⟨By,oy,ay,hcy⟩:=(Els.up hEt hS.Ch) _ y hy
   refine U (.Aw underlying37 sizeOf3 (.t rfl) (.t rfl) oQ ay) ?_
   refine U (.lb rfl (hcy.nth (j:=0) rfl)) ?_
   refine LW.A rfl (Am ?_)
   cases hq15:decide (y∈os)with
   |true=>
    have hyo:=of_decide_eq_true hq15
    refine Aa (I rfl (I rfl ?_))
    refine U (.Cx (ok:=true) underlying130 underlying3 (.t rfl) (.t rfl) (hS.get 0 rfl) (List.mem_map.2 ⟨y,hyo,rfl⟩)) ?_
    refine I rfl (U (.xt rfl rfl) (U (.xt rfl rfl) (LW.A rfl (LW.A rfl (Am (Aa (I rfl (Ai ?_))))))))
    refine CW.v rfl ?_
    refine Aa (I rfl (I rfl (I rfl (I rfl ?_))))
    refine U (.val (v':=vu (2^i)) (PEv.fK (.const _) (.t rfl)) (Ww oQ)) ?_
    refine U (.val (v':=vu (Oh (E3 Ts i) i (p.l.take j) y|||2^i)) (Kv (.t rfl) (.t rfl)) (Wy (by have h1:=uY Ts i (p.l.take j) y;have h2:=Oi (i:=i+1) (by omega);omega) (by have h2:=Oi (i:=i) (by omega);omega))) ?_
    refine A9 (.mapUpdate underlying130 underlying3 (.t rfl) (.t rfl) (.t rfl) (hS.get 0 rfl)) ?_
    rintro w10 ⟨Mu,Ku,zu⟩
    rw[lD hyo,Z6 _ _ hy]at Mu
    replace hS:=hS.Dw 0 rfl (Lk Mu Ku)
    change Wx.Sep _ _ _ [_,_]at hS
    clear Mu Ku
    refine LW.nil (Ad (Ac (Aa ?_)))
    refine U (.ic rfl oQ) ?_
    refine I rfl (LW.nil (Ar ?_))
    exact⟨j+1,⟨by omega,by first|exact hS|(rw[←gV _ _ hy hyo];exact hS)⟩,tQ,by first|omega|(dsimp only;omega)⟩
   |false=>
    have hyo:=of_decide_eq_false hq15
    refine Aa (I rfl (I rfl ?_))
    refine U (.Gt (ok:=true) underlying130 underlying3 zeroValue136 (.t rfl) (.t rfl) (hS.get 0 rfl) (by rw[Og];exact hyo)) ?_
    refine I rfl (U (.xt rfl rfl) (U (.xt rfl rfl) (LW.A rfl (LW.A rfl (Am (Aa (I rfl (Ai ?_))))))))
    refine CW.f rfl ?_
    refine Aj (Ad (Ac (Aa ?_)))
    refine U (.ic rfl oQ) ?_
    refine I rfl (LW.nil (Ar ?_))
    exact⟨j+1,⟨by omega,by first|exact hS|(rw[←gV _ _ hy hyo];exact hS)⟩,tQ,by first|omega|(dsimp only;omega)⟩
  replace h44:=dQ h44
  refine A4 (Ab (Ab (An (Ad (Ac ?_)))))
  have hjl:j=p.l.length:=by omega
  rw[hjl,List.take_length,lE hp]at hS
  refine Aa ?_
  refine U (.ic rfl oQ) ?_
  refine I rfl (LW.nil (Ar ?_))
  exact⟨i+1,⟨by omega,hS.take 1⟩,tQ,by first|omega|(dsimp only;omega)⟩
 replace h36:=dQ h36
 refine A4 (Ab (Ab (An (Ac (Ah ?_)))))
 have hil:i=Ts.length:=by omega
 rw[hil]at hS
 refine Aa (I rfl (LW.A rfl (Az (Ai (Al ?_)))))
 refine F5 rfl rfl rfl ⟨_,rfl,?_⟩
 exact⟨B23,rfl,hS.get 0 rfl,((hS.each _ (List.mem_cons_self ..)).2 B23 rfl).resolve_left (fun h=>h),hS.Ch⟩
theorem P4(b:Nat)(os:List Int)(f:Int→Nat)(c:Nat)(w:World)(hM:IMap w b (Lq os f))(hf:∀x,f x<18446744073709551616)(hc:c<18446744073709551616):Ret prog 50 #[.map (some b),vu c] w fun r w'=>r=.bool (Gx os f c)∧Stp (Bu b (Lq os f)) (Bu b (Lq os f)) w w':=by
 obtain⟨w0,rfl,_⟩:=W0 w
 have hS:Wx.Sep (Bu b (Lq os f)).foot w0 w0 [Bu b (Lq os f)]:=Sep.cons (A:=Bu b (Lq os f)) hM (fun _ h=>h) (Sep.start _ _) (by simp)
 refine cT 17 func50 rfl ?_
 refine Af (Az (Am (Af (I rfl ?_))))
 refine Ao (.range underlying130 (.t rfl) (hS.get 0 rfl)) rfl ?_
 rintro _ w1 ⟨r8,rfl,hR_,uR,eR,zR⟩
 replace hS:=hS.Dw 0 rfl (Gf hR_ uR eR)
 change Wx.Sep _ _ _ [_]at hS
 clear hR_
 refine Ai (Ae ?_)
 refine A3 (σ:=List Int) (fun s w=>(s.Nodup∧∀k∈s,k∈os)∧(∀k∈s,¬f k&&&c=0)∧(Wx.Sep (Bu b (Lq os f)).foot w0 w [Fi b r8 (Lq os f) s])) (fun s=>[]) ([(1,.eq _),(8,.eq _)]) (fun s=>os.length-s.length) [] ?_ tQ ?_
 ·exact⟨⟨List.nodup_nil,fun _ h=>(by cases h)⟩,(fun _ h=>(by cases h)),hS⟩
 rintro V w2 ⟨hV,hn,hS⟩
 refine Af ?_
 refine Ao (.next (.t rfl) (hS.get 0 rfl)) rfl ?_
 rintro _ w3 (⟨rfl,rfl,hPm⟩|⟨k0,u0,rfl,hNx⟩)
 ·skip
  refine U (.xt rfl rfl) (Am ?_)
  refine CW.f rfl ?_
  refine A4 (Ab (Ab (An (Ac (Af (Az (Ai (Al ?_))))))))
  refine KW.q ?_
  have hS2:=hS.Dw 0 rfl (P2 (hS.get 0 rfl))
  refine⟨?_,hS2.fr,hS2.get 0 rfl,fun _ h=>.inl h⟩
  first|exact congrArg Go.Value.bool (gW hk0 h16)|exact congrArg Go.Value.bool (Z7 hPm hn)
 skip
 have zw3:=hNx.size
 replace hS:=hS.Dw 0 rfl (Hd hNx)
 change Wx.Sep _ _ _ [_]at hS
 obtain⟨hk0,hu0⟩:k0∈os∧u0=vu (f k0):=by obtain⟨x,hx,e⟩:=List.mem_map.1 hNx.mem;cases e;exact⟨hx,rfl⟩
 subst hu0
 have hf0:=hNx.fresh
 have hV2:(V++[k0]).Nodup∧∀k∈V++[k0],k∈os:=⟨List.nodup_append.2 ⟨hV.1,by simp,fun a ha c hc=>by simp at hc;subst hc;exact fun e=>hf0 (e▸ha)⟩,fun k hk=>(List.mem_append.1 hk).elim (hV.2 k) (fun h=>by cases List.mem_singleton.1 h;exact hk0)⟩
 have hVl:=hV2.1.length_le_of_subset hV2.2
 rw[List.length_append,List.length_singleton]at hVl
 refine U (.xt rfl rfl) (Am ?_)
 refine CW.v rfl ?_
 refine Aj (Ac (Ae (Af ?_)))
 refine Ao (.entry (.t rfl) hNx.entry) rfl ?_
 rintro _ _ ⟨rfl,rfl⟩
 refine U (.xt rfl rfl) (LW.A rfl (Am (Aa (I rfl (I rfl ?_)))))
 refine U (.val (v':=vu (f k0&&&c)) (Jk (.t rfl) (.t rfl)) (Qu (hf _) hc)) ?_
 refine U (.eql (.t rfl) (.const _)) ?_
 refine Ai ?_
 refine CW.b rfl (fun h16=>?_) (fun h16=>?_)
 ·replace h16:=dQ h16
  refine Af (Az (Ai (Al (Ay (Ap (Ay (Ap ?_)))))))
  refine KW.q ?_
  have hS2:=hS.Dw 0 rfl (P2 (hS.get 0 rfl))
  refine⟨?_,hS2.fr,hS2.get 0 rfl,fun _ h=>.inl h⟩
  first|exact congrArg Go.Value.bool (gW hk0 h16)|exact congrArg Go.Value.bool (Z7 hPm hn)
 replace h16:=dQ h16
 refine Aj (Ad (Ar ?_))
 exact⟨V++[k0],⟨hV2,fun k hk=>(List.mem_append.1 hk).elim (hn k) (fun h=>by rw[List.mem_singleton.1 h];intro e;exact h16 (congrArg Int.ofNat e)),hS.take 1⟩,tQ,by rw[List.length_append,List.length_singleton];omega⟩
set_option maxHeartbeats 2000000 in
theorem P5(ado:Option Addr)(cpo:Nat)(os:List Int)(ad:Option Addr)(cp:Nat)(Ts:List TP)(adc:Option Addr)(cpc:Nat)(ns:List Nat)(w:World)(hEo:Els w ado 1 A5 os)(hvo:Iq os=true)(hE0:Els w ad 1 TP.cells Ts)(hs:∀t∈Ts,Sl w t.v 1 A5 t.l)(hv:∀t∈Ts,Iq t.l=true)(hl:Ts.length≤16)(hEc:Els w adc 1 A5 (nI ns))(hns:∀x∈ns,x<Ts.length)(hnp:ns.Pairwise (· <·))(hnl:ns.length≤16):Ret prog 15 #[.slice ado os.length cpo,.slice ad Ts.length cp,.slice adc (nI ns).length cpc] w fun r w'=>r=.bool (Gx os (E3 Ts Ts.length) (Ec ns))∧Up w w':=by
 obtain⟨w0,rfl,hS⟩:=W0 w
 refine cT 46 func15 rfl ?_
 refine Af (Az (Am (Aa (I rfl (I rfl ?_)))))
 refine A6 (eC (.u rfl rfl) (xV)) rfl (Kl ado cpo os ad cp Ts _ (Els.up hEo hS.Ch) hvo (Els.up hE0 hS.Ch) (fun t ht=>Sl.up (hs t ht) hS.Ch) hv hl) ?_
 rintro _ w1 ⟨B,rfl,hMb,hBz,uw1⟩
 have zw1:=uw1.size
 replace hS:=hS.add uw1 (A':=Bu B (Lq os (E3 Ts Ts.length))) (hMb) (fun i(e:i=B)=>by omega)
 change Wx.Sep _ _ _ [_]at hS
 clear hMb
 have hcl:=S4 ns
 refine I rfl (U (.xt rfl rfl) (U (.xt rfl rfl) (LW.A rfl (LW.A rfl (Am (Aa (Az (Az (Am ?_)))))))))
 refine Af (I rfl ?_)
 refine U (.Cw underlying37 (.t rfl)) ?_
 refine U (.move (.const _)) ?_
 refine Ai (Ae ?_)
 refine A3 (σ:=Nat×Int) (fun s w=>(s.1≤ns.length)∧(vA ns s.1 s.2)∧(Wx.Sep no w0 w [Bu B (Lq os (E3 Ts Ts.length))])) (fun s=>[(21,.eq (vi (s.1:Int))),(9,.eq (vi s.2)),(10,.eq (vu (Ec (ns.take s.1))))]) ([(1,.eq _),(7,.eq _),(8,.eq _),(19,.eq _),(20,.eq _)]) (fun s=>ns.length-s.1) (0,-1) ?_ tQ ?_
 ·exact⟨Nat.zero_le _,lG ns,hS⟩
 rintro⟨k,z⟩ w2 ⟨hk,hz,hS⟩
 dsimp only at hk hz
 change CW _ _ _ _ _ _ _ ([(21,.eq (vi (k:Int))),(9,.eq (vi z)),(10,.eq (vu (Ec (ns.take k))))]++_) _
 refine Af ?_
 refine U (.l2 rfl rfl) ?_
 refine Am ?_
 refine CW.b rfl (fun h22=>?_) (fun h22=>?_)
 ·replace h22:=dQ h22
  refine Aj (Ac (Ah (Ae (Ah ?_))))
  have hkl:k<(nI ns).length:=by omega
  refine Aa ?_
  obtain⟨y,hy⟩:=Aq (xs:=(nI ns)) (i:=k) oQ
  obtain⟨By,oy,ay,hcy⟩:=(Els.up hEc hS.Ch) _ y hy
  refine U (.Aw underlying37 sizeOf3 (.t rfl) (.t rfl) oQ ay) ?_
  refine U (.lb rfl (hcy.nth (j:=0) rfl)) ?_
  refine LW.A rfl (Am (Ah ?_))
  obtain⟨m,hm,rfl⟩:=FM hy
  have hm1:=vB hz hm
  have hm2:=hns m (List.mem_of_getElem? hm)
  refine Aa (I rfl (I rfl ?_))
  refine U (.fa (PEv.leq (.t rfl) (.t rfl)) (decide_eq_false oQ)) ?_
  refine I rfl ?_
  refine Bh ?_
  refine I rfl ?_
  refine Bh ?_
  refine I rfl ?_
  refine Bh ?_
  refine U (.Cw underlying39 (.t rfl)) ?_
  refine Bh ?_
  refine U (.fa (PEv.geq (.t rfl) (.t rfl)) (decide_eq_false oQ)) ?_
  refine U (.fa (PEv.po rfl (fun hp=>wQ)) (rfl)) ?_
  refine Ai ?_
  refine CW.f rfl ?_
  refine Aj (Ac ?_)
  refine Dh 6 kQ kQ kQ kQ kQ rfl rfl ?_
  refine Au (.mv rfl) ?_
  refine Au (.mv rfl) ?_
  refine Au (.mv rfl) ?_
  refine Au (.val (v':=vu (2^m)) (PEv.fK (.const _) (.t rfl)) (Ww oQ)) ?_
  refine Au (.val (v':=vu (Ec (ns.take (k+1)))) (Kv (.t rfl) (.t rfl)) ((Wy (Vr hl (fun x hx=>hns x (List.mem_of_mem_take hx))) (by have h2:=Oi (i:=m) (by omega);omega)).trans (congrArg vu (lF hm)))) ?_
  refine Au (.assign (.t rfl)) ?_
  refine HW.nil ?_
  intro w3 uw3
  have zw3:=uw3.size
  replace hS:=hS.up uw3
  replace hcy:=hcy.up uw3
  refine LW.A rfl (LW.nil (Ad (Ac (Aa ?_))))
  refine U (.ic rfl oQ) ?_
  refine I rfl (LW.nil (Ar ?_))
  exact⟨(k+1,(m:Int)),⟨by show k+1≤_;omega,lH hnp hm,hS⟩,tQ,by show ns.length-(k+1)<ns.length-k;omega⟩
 replace h22:=dQ h22
 refine A4 (Ab (Ab (An (Ac (Ah ?_)))))
 have hkl:k=ns.length:=by omega
 subst hkl
 rw[List.take_length]
 refine Aa (I rfl (I rfl ?_))
 refine Bh ?_
 refine I rfl ?_
 refine Bh ?_
 refine I rfl ?_
 refine Bh ?_
 refine A6 (eC (.u rfl rfl) (BF)) rfl (P4 B os (E3 Ts Ts.length) (Ec ns) _ (hS.get 0 rfl) (Vq hl) (Vr hl hns)) ?_
 rintro _ w4 ⟨rfl,uw4⟩
 have zw4:=uw4.fr.size
 replace hS:=hS.Dw 0 rfl uw4
 change Wx.Sep _ _ _ [_]at hS
 refine U (.pa rfl (fun hp=>wQ)) ?_
 refine LW.A rfl (Ai (Al ?_))
 refine KW.q ?_
 exact⟨rfl,hS.Ch⟩
set_option maxHeartbeats 2000000 in
theorem lP(ado:Option Addr)(cpo:Nat)(os:List Int)(ad:Option Addr)(cp:Nat)(Ts:List TP)(w:World)(hEo:Els w ado 1 A5 os)(hvo:Iq os=true)(hE0:Els w ad 1 TP.cells Ts)(hs:∀t∈Ts,Sl w t.v 1 A5 t.l)(hv:∀t∈Ts,Iq t.l=true)(hl:Ts.length≤16):Ret prog 17 #[.slice ado os.length cpo,.slice ad Ts.length cp] w fun r w'=>OwnS w' w.heap.size 3 1 A5 r (Hn (E3 Ts Ts.length) os).2∧Up w w':=by
 obtain⟨w0,rfl,hS⟩:=W0 w
 refine cT 45 func17 rfl ?_
 refine Af (Az (Am (Aa (I rfl (I rfl ?_)))))
 refine A6 (eC (.u rfl rfl) (xV)) rfl (Kl ado cpo os ad cp Ts _ (Els.up hEo hS.Ch) hvo (Els.up hE0 hS.Ch) (fun t ht=>Sl.up (hs t ht) hS.Ch) hv hl) ?_
 rintro _ w1 ⟨B,rfl,hMb,hBz,uw1⟩
 have zw1:=uw1.size
 replace hS:=hS.add uw1 (A':=Bu B (Lq os (E3 Ts Ts.length))) (hMb) (fun i(e:i=B)=>by omega)
 change Wx.Sep _ _ _ [_]at hS
 clear hMb
 obtain⟨f,hf⟩:∃f,f=E3 Ts Ts.length:=⟨_,rfl⟩
 rw[←hf]at hS⊢
 have hfl:∀x,f x<2^16:=fun x=>hf▸lI hl x
 have hlo:=Lp hvo
 refine I rfl (U (.xt rfl rfl) (U (.xt rfl rfl) (LW.A rfl (LW.A rfl (Am (Aa (Az (Am (Ah ?_)))))))))
 replace hS:=hS.add (Up.refl _) (A':=J 3 1 A5 (.slice none 0 0) ([]:List Int)) (OwnS.nil _ _ _ _ _) (fun i h=>by cases h)
 change Wx.Sep _ _ _ [_,_]at hS
 refine Aa (I rfl ?_)
 refine U (.Cw underlying37 (.t rfl)) ?_
 refine U (.move (.const _)) ?_
 refine Ai (Ae ?_)
 refine A3 (σ:=Nat×Go.Value×(Nat×List Int)) (fun s w=>(s.1≤os.length)∧(s.2.2=Hn f (os.take s.1))∧(Wx.Sep no w0 w [Bu B (Lq os f),J 3 1 A5 s.2.1 s.2.2.2])) (fun s=>[(18,.eq (vi (s.1:Int))),(7,.eq (vu s.2.2.1)),(4,.eq (s.2.1))]) ([(5,.eq _),(16,.eq _),(17,.eq _)]) (fun s=>os.length-s.1) (0,.slice none 0 0,0,[]) ?_ tQ ?_
 ·exact⟨Nat.zero_le _,rfl,hS⟩
 rintro⟨k,v,u,M⟩ w2 ⟨hk,hp,hS⟩
 dsimp only at hk hp hS
 change CW _ _ _ _ _ _ _ ([(18,.eq (vi (k:Int))),(7,.eq (vu u)),(4,.eq (v))]++_) _
 refine Af ?_
 refine U (.l2 rfl rfl) ?_
 refine Am ?_
 refine CW.b rfl (fun h19=>?_) (fun h19=>?_)
 ·replace h19:=dQ h19
  refine Aj (Ac (Ah (Ae (Ah ?_))))
  have hkl:k<os.length:=by omega
  refine Aa ?_
  obtain⟨x,hx⟩:=Aq (xs:=os) (i:=k) oQ
  obtain⟨Bx,ox,ax,hcx⟩:=(Els.up hEo hS.Ch) _ x hx
  refine U (.Aw underlying37 sizeOf3 (.t rfl) (.t rfl) oQ ax) ?_
  refine U (.lb rfl (hcx.nth (j:=0) rfl)) ?_
  refine LW.A rfl (Am ?_)
  have hxo:=List.mem_of_getElem? hx
  have hfx:=hfl x
  have hu:=AD hfl (os.take k)
  have hbl:=vC f (os.take k)
  rw[←hp]at hu hbl
  rw[List.length_take]at hbl
  dsimp only at hu hbl
  cases hq6:decide (f x=0)with
  |true=>
   have hx0:=of_decide_eq_true hq6
   refine Aa (I rfl (I rfl ?_))
   refine U (.Cx (ok:=false) underlying130 underlying3 (.t rfl) (.t rfl) (hS.get 0 rfl) (List.mem_map.2 ⟨x,hxo,rfl⟩)) ?_
   refine U (.fa (PEv.neq (.t rfl) (.const _)) (by rw[hx0];rfl)) ?_
   refine I rfl ?_
   refine C7 ?_
   refine C7 ?_
   refine C7 ?_
   refine C7 ?_
   refine C7 ?_
   refine C7 ?_
   refine U (.fa (PEv.F0 (b:=false) (.t rfl) (fun hp=>absurd (show false=true from hp) cQ)) (rfl)) ?_
   refine Ai ?_
   refine CW.f rfl ?_
   refine Aj (Ad (Ac (Aa ?_)))
   refine U (.ic rfl oQ) ?_
   refine I rfl (LW.nil (Ar ?_))
   first|exact⟨(k+1,v42,u|||f x,M++[x]),⟨by show k+1≤_;omega,by show(u|||f x,M++[x])=_;rw[Wz hx hx0 (by rw[←hp];exact hz),←hp],by exact hS.take 2⟩,tQ,by show os.length-(k+1)<os.length-k;omega⟩|exact⟨(k+1,v,u,M),⟨by show k+1≤_;omega,by show(u,M)=_;rw[dY hx (by rw[←hp];first|exact .inl hx0|exact .inr hz)];exact hp,by exact hS.take 2⟩,tQ,by show os.length-(k+1)<os.length-k;omega⟩
  |false=>
   have hx0:=of_decide_eq_false hq6
   refine Aa (I rfl (I rfl ?_))
   refine U (.Cx (ok:=false) underlying130 underlying3 (.t rfl) (.t rfl) (hS.get 0 rfl) (List.mem_map.2 ⟨x,hxo,rfl⟩)) ?_
   refine U (.tr (PEv.neq (.t rfl) (.const _)) (by rw[decide_eq_false (by omega)];rfl)) ?_
   refine I rfl ?_
   refine Bh ?_
   refine I rfl ?_
   refine Bh ?_
   refine I rfl ?_
   refine Bh ?_
   refine U (.Cx (ok:=false) underlying130 underlying3 (.t rfl) (.t rfl) (hS.get 0 rfl) (List.mem_map.2 ⟨x,hxo,rfl⟩)) ?_
   refine Bh ?_
   refine I rfl ?_
   refine Bh ?_
   refine U (.val (v':=vu (f x&&&u)) (Jk (.t rfl) (.t rfl)) (Qu oQ oQ)) ?_
   refine Bh ?_
   refine U (.eql (.t rfl) (.const _)) ?_
   refine U (.pa rfl (fun hp=>wQ)) ?_
   refine Ai ?_
   refine CW.b rfl (fun h33=>?_) (fun h33=>?_)
   ·replace h33:=dQ h33
    have hz:((f x&&&u:Nat):Int)=0:=by simpa using h33
    refine Af (I rfl (I rfl (I rfl ?_)))
    refine U (.Cx (ok:=false) underlying130 underlying3 (.t rfl) (.t rfl) (hS.get 0 rfl) (List.mem_map.2 ⟨x,hxo,rfl⟩)) ?_
    refine U (.val (v':=vu (u|||f x)) (Kv (.t rfl) (.t rfl)) (Wy oQ oQ)) ?_
    refine LW.A rfl (Ai (Aa (I rfl (I rfl ?_))))
    refine Ao (.buildSlice (xs:=[x]) (enc:=A5) (mk:=vi) underlying37 sizeOf3 zeroValue3 rfl cQ (fun _=>rfl) (fun _=>rfl) (.cu rfl) rfl) rfl ?_
    rintro _ w3 ⟨B41,cB41,rfl,NB41,yB41,xB41⟩
    have eB41:=NB41.at_
    have zB41:=NB41.size
    replace hS:=hS.up NB41.up
    replace hcx:=hcx.up NB41.up
    have hE41:=xB41
    refine Ao (.Cu (enc:=A5) (bytes:=8) (i:=Tryz.t3) underlying37 kQ rfl rfl rfl rfl cQ (fun _=>rfl) Eh (.t rfl) (.t rfl) (hS.own 1 rfl) (Av hE41) (by simp[maxLen];omega) (by simp;omega)) rfl ?_
    intro v42 w4 Gw4
    have zw4:=Gw4.fr.size
    replace hS:=hS.Dw 1 rfl Gw4
    change Wx.Sep _ _ _ [_,_]at hS
    refine LW.A rfl (LW.nil (Ad (Ac (Aa ?_))))
    refine U (.ic rfl oQ) ?_
    refine I rfl (LW.nil (Ar ?_))
    first|exact⟨(k+1,v42,u|||f x,M++[x]),⟨by show k+1≤_;omega,by show(u|||f x,M++[x])=_;rw[Wz hx hx0 (by rw[←hp];exact hz),←hp],by exact hS.take 2⟩,tQ,by show os.length-(k+1)<os.length-k;omega⟩|exact⟨(k+1,v,u,M),⟨by show k+1≤_;omega,by show(u,M)=_;rw[dY hx (by rw[←hp];first|exact .inl hx0|exact .inr hz)];exact hp,by exact hS.take 2⟩,tQ,by show os.length-(k+1)<os.length-k;omega⟩
   replace h33:=dQ h33
   have hz:¬((f x&&&u:Nat):Int)=0:=by simpa using h33
   refine Aj (Ad (Ac (Aa ?_)))
   refine U (.ic rfl oQ) ?_
   refine I rfl (LW.nil (Ar ?_))
   first|exact⟨(k+1,v42,u|||f x,M++[x]),⟨by show k+1≤_;omega,by show(u|||f x,M++[x])=_;rw[Wz hx hx0 (by rw[←hp];exact hz),←hp],by exact hS.take 2⟩,tQ,by show os.length-(k+1)<os.length-k;omega⟩|exact⟨(k+1,v,u,M),⟨by show k+1≤_;omega,by show(u,M)=_;rw[dY hx (by rw[←hp];first|exact .inl hx0|exact .inr hz)];exact hp,by exact hS.take 2⟩,tQ,by show os.length-(k+1)<os.length-k;omega⟩
 replace h19:=dQ h19
 refine A4 (Ab (Ab (An (Ac (Af (I rfl (LW.A rfl (Ai (Al ?_)))))))))
 refine KW.q ?_
 have hkl:k=os.length:=by omega
 rw[hkl,List.take_length]at hp
 rw[show M=(Hn f os).2 by rw[←hp]]at hS
 exact⟨Ih (hS.sub (.cons _ (List.Sublist.refl _))),hS.Ch⟩
theorem rC(c:Nat){Tg:TypeId}(w:World)(hG:Blk w 1 S7 Tg)(h0:¬c=0)(hc:c<65536):Ret prog 111 #[vu c] w fun r w'=>r=vi (Oj c:Int)∧Up w w':=by
 have hW:=Up.refl w
 obtain⟨w0,rfl,_⟩:=W0 w
 refine cT 14 func111 rfl ?_
 refine Af (Az (Am (Af (I rfl ?_))))
 refine U (.fa (PEv.eql (.t rfl) (.const _)) (decide_eq_false oQ)) ?_
 refine Ai ?_
 refine CW.f rfl ?_
 refine Aj (Ac (Ah ?_))
 obtain⟨hx,hb,_⟩:=qS h0 hc
 obtain⟨hj1,hj2⟩:=AF hb
 rw[←hx]at hj1 hj2
 have hjc:=vI hj2
 have hxl:W5 c<18446744073709551616:=by have:=Oi (i:=Oj c) (by omega);omega
 refine Aa (I rfl (I rfl ?_))
 refine U (.val (v':=vu (18446744073709551616-c)) (PEv.neg underlying197 (.t rfl)) (vF h0 hc)) ?_
 refine U (.val (v':=vu (W5 c)) (Jk (.t rfl) (.t rfl)) (Qu oQ oQ)) ?_
 refine U (.val (v':=vu (W5 c*285870213051353865%18446744073709551616)) (Jj (.t rfl) (.const _)) (vG _ 285870213051353865)) ?_
 refine U (.val (v':=vu (W5 c*285870213051353865%18446744073709551616/288230376151711744)) (PEv.Pr (j:=58) (.t rfl) (.const _)) (vH _)) ?_
 refine U (.val (v':=.pointer (some ⟨1,(W5 c*285870213051353865%18446744073709551616/288230376151711744),none⟩)) (Uc (j:=(W5 c*285870213051353865%18446744073709551616/288230376151711744)) underlying256 sizeOf5 (.global _) (.t rfl) hj1) (by rw[Nat.mul_one,Nat.zero_add])) ?_
 refine U (.lb rfl ((hG.up hW).cell hjc)) ?_
 refine U (.val (v':=vi (Oj c:Int)) (PEv.conv kQ underlying3 (.t rfl)) (congrArg (Go.Value.int .i64) (by rw[IntKind.wrap_i64];omega))) ?_
 refine LW.A rfl (Ai (Al ?_))
 refine KW.q ?_
 exact⟨rfl,hW⟩
theorem AJ(c:Nat){Tg:TypeId}(w:World)(hG:Blk w 1 S7 Tg)(h0:¬c=0)(hc:c<65536):Ret prog 51 #[vu c] w fun r w'=>r=vi (Oj c:Int)∧Up w w':=by
 have hW:=Up.refl w
 obtain⟨w0,rfl,_⟩:=W0 w
 refine cT 8 func51 rfl ?_
 refine Af (Az (Am ?_))
 refine Mg (.const _) ?_
 refine Aj (Ac (Af (I rfl ?_)))
 refine A6 (eC (.o rfl) (BV)) rfl (rC c _ (hG.up hW) h0 hc) ?_
 rintro _ w1 ⟨rfl,uw1⟩
 have zw1:=uw1.size
 replace hW:=hW.up uw1
 refine LW.A rfl (Ai (Al ?_))
 refine KW.q ?_
 exact⟨rfl,hW⟩
def IW(lp:Nat)(J Jx:List Nat→World→Prop)(Bd bq:Nat)(X Y:Nat→Prop)(N:Nat):Prop:=∀pre x W1,Jw Bd J pre W1→pre.length<N→YieldAt (FR none) 8 Tryz.prog lp #[vu (x%65536)] W1 fun e W'=>∃v,e=.returned v∧∃y,v=.bool y∧((y=true∧Jw Bd J (pre++[x]) W'∧Kx bq X Y W1 W')∨(y=false∧Jx (pre++[x]) W'))
def FZ(J Jx:List Nat→World→Prop)(Bd bq:Nat)(X Y:Nat→Prop)(tot l:List Nat)(w w':World)(r:Go.Value):Prop:=∃y,r=.bool y∧((y=true∧Jw Bd J l w'∧Kx bq X Y w w')∨(y=false∧∃q,q<+:tot∧Jx q w'))
theorem lQ(lp:Nat)(J Jx:List Nat→World→Prop)(Bd bq:Nat)(X Y:Nat→Prop)(n By Bn Bf:Nat)(tot:List Nat)(hY:IW lp J Jx Bd bq X Y tot.length)(_:n≤16)(_:¬X By)(_:¬X Bn)(_:¬X Bf)(first c:Nat)(pre:List Nat)(w:World)(hT:pre++Lr n 0 first c<+:tot)(hc:c<65536)(_:first≤17)(hBy:Blk w By #[.func (.yield lp) #[] #[]] 192)(hBn:Blk w Bn #[vi (n:Int)] 3)(hBf:Blk w Bf #[.func (.func 109) #[] #[.pointer (some ⟨By,0,none⟩),.pointer (some ⟨Bn,0,none⟩),.pointer (some ⟨Bf,0,none⟩)]] 193)(hJ:Jw Bd J pre w):Ret prog 109 #[vi (first:Int),vi ((0:Nat):Int),vu c,.pointer (some ⟨By,0,none⟩),.pointer (some ⟨Bn,0,none⟩),.pointer (some ⟨Bf,0,none⟩)] w fun r w'=>FZ J Jx Bd bq X Y tot (pre++Lr n 0 first c) w w' r:=by
 obtain⟨w0,rfl,_⟩:=W0 w
 refine cT 35 func109 rfl ?_
 refine Af (Az (Am (Af (I rfl ?_))))
 refine U (.tr (PEv.eql (.t rfl) (.const _)) (rfl)) ?_
 refine Ai ?_
 refine CW.v rfl ?_
 refine Af ?_
 refine U (.lb rfl (hBy.Ak rfl)) ?_
 refine I rfl ?_
 refine LW.y (.t rfl) (.cu rfl) rfl rfl (by have h1:=hY pre c _ hJ (by have:=hT.length_le;simp[Lr]at this;omega);rw[Nat.mod_eq_of_lt hc]at h1;exact h1) ?_
 rintro _ w1 ⟨y,rfl,hcase⟩
 refine LW.A rfl (Ai (Al (Ap ?_)))
 refine KW.q ?_
 refine⟨y,rfl,?_⟩
 rcases hcase with⟨h1,h2,h3⟩|⟨h1,h2⟩
 ·exact .inl ⟨h1,h2,h3⟩
 exact .inr ⟨h1,_,hT,h2⟩
theorem lR(lp:Nat)(J Jx:List Nat→World→Prop)(Bd bq:Nat)(X Y:Nat→Prop)(n By Bn Bf:Nat)(tot:List Nat)(_:IW lp J Jx Bd bq X Y tot.length)(hn:n≤16)(hXy:¬X By)(hXn:¬X Bn)(hXf:¬X Bf)(k:Nat)(hk:k≤16)(ih:∀(first c:Nat)(pre:List Nat)(w:World),pre++Lr n k first c<+:tot→c<65536→first≤17→Blk w By #[.func (.yield lp) #[] #[]] 192→Blk w Bn #[vi (n:Int)] 3→Blk w Bf #[.func (.func 109) #[] #[.pointer (some ⟨By,0,none⟩),.pointer (some ⟨Bn,0,none⟩),.pointer (some ⟨Bf,0,none⟩)]] 193→Jw Bd J pre w→Ret Tryz.prog 109 #[vi (first:Int),vi (k:Int),vu c,.pointer (some ⟨By,0,none⟩),.pointer (some ⟨Bn,0,none⟩),.pointer (some ⟨Bf,0,none⟩)] w fun r w'=>FZ J Jx Bd bq X Y tot (pre++Lr n k first c) w w' r)(first c:Nat)(pre:List Nat)(w:World)(hT:pre++Lr n (k+1) first c<+:tot)(hc:c<65536)(hf17:first≤17)(hBy:Blk w By #[.func (.yield lp) #[] #[]] 192)(hBn:Blk w Bn #[vi (n:Int)] 3)(hBf:Blk w Bf #[.func (.func 109) #[] #[.pointer (some ⟨By,0,none⟩),.pointer (some ⟨Bn,0,none⟩),.pointer (some ⟨Bf,0,none⟩)]] 193)(hJ:Jw Bd J pre w):Ret prog 109 #[vi (first:Int),vi ((k+1:Nat):Int),vu c,.pointer (some ⟨By,0,none⟩),.pointer (some ⟨Bn,0,none⟩),.pointer (some ⟨Bf,0,none⟩)] w fun r w'=>FZ J Jx Bd bq X Y tot (pre++Lr n (k+1) first c) w w' r:=by
 obtain⟨w0,rfl,_⟩:=W0 w
 refine cT 35 func109 rfl ?_
 refine Af (Az (Am (Af (I rfl ?_))))
 refine U (.fa (PEv.eql (.t rfl) (.const _)) (decide_eq_false oQ)) ?_
 refine Ai ?_
 refine CW.f rfl ?_
 refine Aj (Ac (Ah (Af (I rfl (LW.A rfl (Ai (Ae ?_)))))))
 refine CW.loop (σ:=Nat) (fun s w=>(s=first∨s≤n-k)∧first≤s∧Jw Bd J (pre++vM n k first c (s-first)) w∧Blk w By #[.func (.yield lp) #[] #[]] 192∧Blk w Bn #[vi (n:Int)] 3∧Blk w Bf #[.func (.func 109) #[] #[.pointer (some ⟨By,0,none⟩),.pointer (some ⟨Bn,0,none⟩),.pointer (some ⟨Bf,0,none⟩)]] 193∧Kx bq X Y w0 w) (fun s=>[(1,.eq (vi ((k+1:Nat):Int))),(2,.eq (vu c)),(3,.eq (.pointer (some ⟨By,0,none⟩))),(4,.eq (.pointer (some ⟨Bn,0,none⟩))),(5,.eq (.pointer (some ⟨Bf,0,none⟩))),(10,.eq (vi (s:Int)))]) (fun s=>n-s) first ?_ ?_ ?_
 ·exact⟨.inl rfl,Nat.le_refl _,by rw[Nat.sub_self];unfold vM;simpa using hJ,hBy,hBn,hBf,Kx.refl _ _ _ _⟩
 ·exact tQ
 rintro i w1 ⟨hi,hf,hJ,hBy,hBn,hBf,hK⟩
 refine Ah (Af (I rfl (I rfl ?_)))
 refine U (.add (.t rfl) (.t rfl) oQ oQ) ?_
 refine U (.lb rfl (hBn.Ak rfl)) ?_
 refine U (.leq (.t rfl) (.t rfl)) ?_
 refine Ai ?_
 refine CW.b rfl (fun h21=>?_) (fun h21=>?_)
 ·replace h21:=dQ h21
  refine Aj (Ac (Ah (Ae (Ah ?_))))
  have hik:i+(k+1)≤n:=by simp at h21;omega
  refine Dh 9 kQ kQ kQ kQ kQ rfl rfl ?_
  refine Au (.lb rfl (hBf.Ak rfl)) ?_
  refine Au (.mv rfl) ?_
  refine Au (.ic rfl oQ) ?_
  refine Au (.mv rfl) ?_
  refine Au (.val (v':=vi (k:Int)) (PEv.sub (.t rfl) (.const _) oQ oQ) (congrArg vi oQ)) ?_
  refine Au (.mv rfl) ?_
  refine Au (.mv rfl) ?_
  refine Au (.val (v':=vu (2^i)) (PEv.fK (.const _) (.t rfl)) (Ww oQ)) ?_
  refine Au (.val (v':=vu (c|||2^i)) (Kv (.t rfl) (.t rfl)) (Wy oQ (by have h2:=Oi (i:=i) (by omega);omega))) ?_
  refine HW.nil ?_
  intro w2 uw2
  have zw2:=uw2.size
  replace hJ:=hJ.up uw2
  replace hBy:=hBy.up uw2
  replace hBn:=hBn.up uw2
  replace hBf:=hBf.up uw2
  replace hK:=hK.up uw2
  refine A6 (Cc (f:=109) (lb:=#[.pointer (some ⟨By,0,none⟩),.pointer (some ⟨Bn,0,none⟩),.pointer (some ⟨Bf,0,none⟩)]) (.t rfl) (.ct rfl (.ct rfl (.cu rfl))) (wR)) rfl (ih (i+1) (c|||2^i) (pre++vM n k first c (i-first)) _ (by have h1:=vN (j:=i-first) hT (by omega);rwa [show first+(i-first)=i by omega]at h1) (by have h2:=Oi (i:=i) (by omega);exact Nat.or_lt_two_pow (n:=16) hc (Nat.pow_lt_pow_right cQ oQ)) oQ hBy hBn hBf hJ) ?_
  rintro _ w3 ⟨y,rfl,hcase⟩
  refine U (.n1 rfl) ?_
  refine Ai ?_
  refine CW.b rfl (fun h34=>?_) (fun h34=>?_)
  ·replace h34:=dQ h34
   have hy:y=false:=by simpa using h34
   subst hy
   obtain⟨_,q,hq,hJx⟩:=hcase.resolve_left (by simp)
   refine Af (Az (Ai (Al (Ay (Ap (Ap (Ay (Ap ?_))))))))
   refine KW.q ?_
   first|exact⟨false,rfl,.inr ⟨rfl,q,hq,hJx⟩⟩|exact⟨true,rfl,.inl ⟨rfl,by rw[show i-first=n-first-k by omega]at hJ;exact hJ,hK⟩⟩
  replace h34:=dQ h34
  have hy:y=true:=by simpa using h34
  subst hy
  obtain⟨_,hJ2,hK2⟩:=hcase.resolve_right (by simp)
  have hBy2:=hBy.kx hK2 hXy
  have hBn2:=hBn.kx hK2 hXn
  have hBf2:=hBf.kx hK2 hXf
  have hK3:=hK.trans hK2
  have e1:=Z9 n k first c (i-first)
  rw[show first+(i-first)=i by omega]at e1
  rw[List.append_assoc,←e1,show i-first+1=i+1-first by omega]at hJ2
  clear hBy hBn hBf hK hJ
  refine Aj (Ad (Ac (Aa (I rfl ?_))))
  refine U (.ic rfl oQ) ?_
  refine LW.A rfl (LW.nil (Ar ?_))
  exact⟨i+1,⟨.inr oQ,by omega,hJ2,hBy2,hBn2,hBf2,hK3⟩,tQ,by omega⟩
 replace h21:=dQ h21
 have hik:¬i+(k+1)≤n:=by simp at h21;omega
 refine A4 (Ab (Ab (An (Ac (Af (Az (Ai (Al ?_))))))))
 refine KW.q ?_
 first|exact⟨false,rfl,.inr ⟨rfl,q,hq,hJx⟩⟩|exact⟨true,rfl,.inl ⟨rfl,by rw[show i-first=n-first-k by omega]at hJ;exact hJ,hK⟩⟩
theorem rD(lp:Nat)(J Jx:List Nat→World→Prop)(Bd bq:Nat)(X Y:Nat→Prop)(n By Bn Bf:Nat)(tot:List Nat)(hY:IW lp J Jx Bd bq X Y tot.length)(hn:n≤16)(hXy:¬X By)(hXn:¬X Bn)(hXf:¬X Bf)(left:Nat)(hl:left≤16)(first c:Nat)(pre:List Nat)(w:World)(hT:pre++Lr n left first c<+:tot)(hc:c<65536)(hf17:first≤17)(hBy:Blk w By #[.func (.yield lp) #[] #[]] 192)(hBn:Blk w Bn #[vi (n:Int)] 3)(hBf:Blk w Bf #[.func (.func 109) #[] #[.pointer (some ⟨By,0,none⟩),.pointer (some ⟨Bn,0,none⟩),.pointer (some ⟨Bf,0,none⟩)]] 193)(hJ:Jw Bd J pre w):Ret prog 109 #[vi (first:Int),vi (left:Int),vu c,.pointer (some ⟨By,0,none⟩),.pointer (some ⟨Bn,0,none⟩),.pointer (some ⟨Bf,0,none⟩)] w fun r w'=>FZ J Jx Bd bq X Y tot (pre++Lr n left first c) w w' r:=by
 induction left generalizing first c pre w with
 |zero=>exact lQ lp J Jx Bd bq X Y n By Bn Bf tot hY hn hXy hXn hXf first c pre w hT hc hf17 hBy hBn hBf hJ
 |succ k ih=>exact lR lp J Jx Bd bq X Y n By Bn Bf tot hY hn hXy hXn hXf k oQ (fun first c pre w h1 h2 h3 h4 h5 h6 h7=>ih oQ first c pre w h1 h2 h3 h4 h5 h6 h7) first c pre w hT hc hf17 hBy hBn hBf hJ
theorem W7(X Y:Nat→Prop)(n size Bn Bs:Nat)(w:World)(hn:n≤16)(hs:size≤16)(hXn:¬X Bn)(hXl:∀i,X i→i<w.heap.size)(hBn0:Blk w Bn #[vi (n:Int)] 3)(hBs0:Blk w Bs #[vi (size:Int)] 3):
   IterS Tryz.prog 108 #[.pointer (some ⟨Bn,0,none⟩),.pointer (some ⟨Bs,0,none⟩)] (fun x:Nat=>#[vu (x%65536)]) X Y (fun ys=>ys=Lr n size 0 0) (fun pre=>pre<+:Lr n size 0 0) (Lr n size 0 0).length w:=by
 refine IterS.of ?_
 intro lp J Jx w0 hUw _ hY hJ
 have zw:=hUw.size
 obtain⟨Bd,hBd⟩:∃Bd,Bd=w0.heap.size:=⟨_,rfl⟩
 rw[←hBd]at hJ hY
 clear hBd
 have hBn:=hBn0.up hUw
 have hBs:=hBs0.up hUw
 have zBn:=hBn0.lt
 have zBs:=hBs0.lt
 have hW:=Up.refl w0
 refine cT 9 func108 rfl ?_
 refine Af ?_
 refine Ao (.Km (.t rfl) rfl) rfl ?_
 rintro _ w1 ⟨B3,rfl,NB3⟩
 have eB3:=NB3.at_
 have zB3:=NB3.size
 replace hBn:=hBn.up NB3.up
 replace hBs:=hBs.up NB3.up
 replace hW:=hW.up NB3.up
 have hB3:=NB3.blk
 refine Am (Aa ?_)
 refine Ao (.Ga zeroValue193 rfl) rfl ?_
 rintro _ w2 ⟨B4,rfl,NB4⟩
 have eB4:=NB4.at_
 have zB4:=NB4.size
 replace hBn:=hBn.up NB4.up
 replace hBs:=hBs.up NB4.up
 replace hW:=hW.up NB4.up
 replace hB3:=hB3.up NB4.up
 have hB4:=NB4.blk
 refine Am (Aa ?_)
 refine U (.makeFunc (.ct rfl (.ct rfl (.cu rfl)))) ?_
 refine A9 (.store sizeOf193 (.t rfl) (.t rfl) rfl hB4 bQ) ?_
 intro w3 Nw3
 have zw3:=Nw3.size
 replace hBn:=hBn.sto Nw3.sto oQ
 replace hBs:=hBs.sto Nw3.sto oQ
 replace hW:=hW.sto Nw3.sto oQ
 replace hB3:=hB3.sto Nw3.sto oQ
 replace hB4:=Nw3.blk
 refine Ai (Aa ?_)
 refine U (.lb rfl (hB4.Ak rfl)) ?_
 refine U (.lb rfl (hBs.Ak rfl)) ?_
 refine A6 (Cc (f:=109) (lb:=#[.pointer (some ⟨B3,0,none⟩),.pointer (some ⟨Bn,0,none⟩),.pointer (some ⟨B4,0,none⟩)]) (.t rfl) (.cons (.const _) (.ct rfl (.cons (.const _) .nil))) (wR)) rfl (rD lp J Jx Bd _ X Y n B3 Bn B4 (Lr n size 0 0) hY hn (fun h=>by have:=hXl _ h;omega) hXn (fun h=>by have:=hXl _ h;omega) size hs 0 0 [] _ (List.prefix_refl _) cQ cQ hB3 hBn hB4 (hJ.up hW)) ?_
 rintro _ w4 ⟨y,rfl,hcase⟩
 refine LW.nil ?_
 refine Dg rfl ⟨_,rfl,?_⟩
 rcases hcase with⟨_,h1,_⟩|⟨_,q,h1,h2⟩
 ·exact .inl ⟨_,rfl,h1.j⟩
 exact .inr ⟨q,h1,h2⟩
theorem aE(n size:Nat)(w:World):Ret prog 49 #[vi (n:Int),vi (size:Int)] w fun r w'=>∃Bn Bs,r=.func (.func 108) #[] #[.pointer (some ⟨Bn,0,none⟩),.pointer (some ⟨Bs,0,none⟩)]∧Wx.Sep no w w' [Bq Bn #[vi (n:Int)] 3,Bq Bs #[vi (size:Int)] 3]:=by
 obtain⟨w0,rfl,hS⟩:=W0 w
 refine cT 6 func49 rfl ?_
 refine Af ?_
 refine Ao (.Km (.t rfl) rfl) rfl ?_
 rintro _ w1 ⟨B2,rfl,NB2⟩
 have eB2:=NB2.at_
 have zB2:=NB2.size
 replace hS:=hS.Cg NB2
 change Wx.Sep _ _ _ [_]at hS
 refine Ao (.Km (.t rfl) rfl) rfl ?_
 rintro _ w2 ⟨B3,rfl,NB3⟩
 have eB3:=NB3.at_
 have zB3:=NB3.size
 replace hS:=hS.Cg NB3
 change Wx.Sep _ _ _ [_,_]at hS
 refine Az (Am (Aa ?_))
 refine U (.makeFunc (.ct rfl (.cu rfl))) ?_
 refine LW.A rfl (Ai (Al ?_))
 refine KW.q ?_
 exact⟨_,_,rfl,hS⟩
set_option maxHeartbeats 4000000 in
theorem eD(ado:Option Addr)(cpo:Nat)(os:List Int)(ad:Option Addr)(cp:Nat)(Ts:List TP)(w:World)(hEo:Els w ado 1 A5 os)(hvo:Iq os=true)(hE0:Els w ad 1 TP.cells Ts)(hs:∀t∈Ts,Sl w t.v 1 A5 t.l)(hv:∀t∈Ts,Iq t.l=true)(hl:Ts.length≤16){Tg:TypeId}(hG:Blk w 1 S7 Tg):Ret prog 14 #[.slice ado os.length cpo,.slice ad Ts.length cp] w fun r w'=>∃v b ns,r=.tuple #[v,.bool b]∧OwnS w' w.heap.size 3 1 A5 v (nI ns)∧Up w w'∧FewR Ts.length (Gx os (E3 Ts Ts.length)) b ns:=by
 obtain⟨w0,rfl,_⟩:=W0 w
 have hS:=(Sep.start no w0).dB
 change Wx.Sep _ _ _ [_]at hS
 refine E4 (n:=48) func14 rfl rfl rfl ?_
 refine Af ?_
 refine Ao (.Ga zeroValue37 rfl) rfl ?_
 rintro _ w1 ⟨B4,rfl,NB4⟩
 have eB4:=NB4.at_
 have zB4:=NB4.size
 replace hS:=hS.Cg NB4
 change Wx.Sep _ _ _ [_,_]at hS
 refine Ao (.Ga zeroValue4 rfl) rfl ?_
 rintro _ w2 ⟨B5,rfl,NB5⟩
 have eB5:=NB5.at_
 have zB5:=NB5.size
 replace hS:=hS.Cg NB5
 change Wx.Sep _ _ _ [_,_,_]at hS
 refine Am (Aa (I rfl (I rfl ?_)))
 refine A6 (eC (.u rfl rfl) (xV)) rfl (Kl ado cpo os ad cp Ts _ (Els.up hEo hS.Ch) hvo (Els.up hE0 hS.Ch) (fun t ht=>Sl.up (hs t ht) hS.Ch) hv hl) ?_
 rintro _ w3 ⟨B,rfl,hMb,hBz,uw3⟩
 have zw3:=uw3.size
 replace hS:=hS.add uw3 (A':=Bu B (Lq os (E3 Ts Ts.length))) (hMb) (fun i(e:i=B)=>by omega)
 change Wx.Sep _ _ _ [_,_,_,_]at hS
 clear hMb
 refine I rfl (U (.xt rfl rfl) (U (.xt rfl rfl) ?_))
 refine Ao (.Ga zeroValue130 rfl) rfl ?_
 rintro _ w4 ⟨B6,rfl,MB6⟩
 refine A9 (.store sizeOf130 (.t rfl) (.t rfl) rfl MB6.blk cQ) ?_
 intro w5 LB6
 have NB6:=MB6.set LB6
 clear LB6 MB6
 have eB6:=NB6.at_
 have zB6:=NB6.size
 replace hS:=hS.Cg NB6
 change Wx.Sep _ _ _ [_,_,_,_,_]at hS
 refine LW.A rfl (Am (Af (I rfl ?_)))
 refine U (.fa (PEv.n1 rfl) (rfl)) ?_
 refine Ai ?_
 refine CW.f rfl ?_
 refine Aj (Ac (Ah (Ah ?_)))
 replace hS:=hS.add (Up.refl _) (A':=J 3 1 A5 (.slice none 0 0) ([]:List Int)) (OwnS.nil _ _ _ _ _) (fun i h=>by cases h)
 change Wx.Sep _ _ _ [_,_,_,_,_,_]at hS
 refine Aa (I rfl ?_)
 refine U (.Cw underlying39 (.t rfl)) ?_
 refine U (.add (.t rfl) (.const _) oQ oQ) ?_
 refine U (.move (.const _)) ?_
 refine Ai (Ae ?_)
 refine kM (σ:=Nat×List Nat) (fun s w=>(s.1≤Ts.length+1)∧(∀j,j<s.1→(Lr Ts.length j 0 0).find? (Gx os (E3 Ts Ts.length))=none)∧(Wx.Sep no w0 w [Pa s.2,Bq B4 #[.slice none 0 0] 37,Bq B5 #[.bool false] 4,Bu B (Lq os (E3 Ts Ts.length)),Bq B6 #[.map (some B)] 130,J 3 1 A5 (.slice none 0 0) ([])])) (fun s=>[(22,.eq (vi (s.1:Int)))]) ([(1,.eq _),(4,.eq _),(5,.eq _),(6,.eq _),(21,.eq _)]) (fun s=>dD (s.2)) (fun s=>Ts.length+1-s.1) (0,[]) ?_ rfl tQ ?_
 ·exact⟨Nat.zero_le _,fun j h=>absurd h (Nat.not_lt_zero j),hS⟩
 rintro⟨k,Ds⟩ w6 ⟨hk,hno,hS⟩
 dsimp only at hk hno hS
 change Wx.Sep _ _ _ [_,_,_,_,_,_]at hS
 change CW _ _ _ _ _ _ _ ([(22,.eq (vi (k:Int)))]++_) _
 refine Af ?_
 refine U (.l2 rfl rfl) ?_
 refine Am ?_
 refine CW.b rfl (fun h23=>?_) (fun h23=>?_)
 ·replace h23:=dQ h23
  refine Aj (Ac (Ah (Ae (Ah ?_))))
  have hkl:k≤Ts.length:=by omega
  refine Aa (I rfl ?_)
  refine Ao (.Ga zeroValue3 rfl) rfl ?_
  rintro _ w7 ⟨B8,rfl,MB8⟩
  refine A9 (.store sizeOf3 (.t rfl) (.t rfl) rfl MB8.blk cQ) ?_
  intro w8 LB8
  have NB8:=MB8.set LB8
  clear LB8 MB8
  have eB8:=NB8.at_
  have zB8:=NB8.size
  replace hS:=hS.Cg NB8
  change Wx.Sep _ _ _ [_,_,_,_,_,_,_]at hS
  refine Am (Aa (I rfl ?_))
  refine U (.Cw underlying39 (.t rfl)) ?_
  refine U (.lb rfl ((hS.blk 6 rfl).Ak rfl)) ?_
  obtain⟨hz,ehz⟩:∃x,x=w8.heap.size:=⟨_,rfl⟩
  have hlow:∀i,D7 [Bq B4 #[.slice none 0 0] 37,Bq B5 #[.bool false] 4,Bu B (Lq os (E3 Ts Ts.length)),Bq B6 #[.map (some B)] 130,J 3 1 A5 (.slice none 0 0) ([]),Bq B8 #[vi (k:Int)] 3] i→i<hz:=fun i h=>by rw[ehz];exact(hS.sub (.cons _ (List.Sublist.refl _))).IT h
  refine A6 (eC (.u rfl rfl) (HE)) rfl (aE Ts.length k _) ?_
  rintro _ w9 ⟨Bn,Bs,rfl,hN⟩
  have zN:=hN.size
  have zBn:=(hN.foot 0 rfl Bn rfl).resolve_left id
  have zBs:=(hN.foot 1 rfl Bs rfl).resolve_left id
  rw[←ehz]at zBn zBs
  replace hS:=hS.join hN
  clear hN
  replace hS:Wx.Sep no w0 w9 (_::([_,_,_,_,_,_]++[_,_])):=hS
  replace hS:=Sep.Iy hS
  change Wx.Sep _ _ _ [_,_,_,_,_,_,_,_,_]at hS
  refine Ai (Ae ?_)
  obtain⟨bq,hbq⟩:∃bq,bq=w9.heap.size:=⟨_,rfl⟩
  have zMq:=IMap.lt (hS.get 5 rfl)
  refine Oc (Zs:=[_,_,_]) (σ:=Option (Go.Value×List Nat)) (fun i=>i<hz) (fun s=>[Bq B4 #[JC s] 37,Bq B5 #[.bool s.isSome] 4,Bu B (Lq os (E3 Ts Ts.length)),Bq B6 #[.map (some B)] 130,J 3 1 A5 (JC s) (JP s),Bq B8 #[vi (k:Int)] 3]) (fun pre s=>(s=none)∧(∀y∈pre,(Gx os (E3 Ts Ts.length)) (y%65536)=false)) (fun c pre s=>c=.ret∧∃l x v,pre=l++[x]∧s=some (v,Ls 16 (x%65536))∧(∀y∈l,(Gx os (E3 Ts Ts.length)) (y%65536)=false)∧(Gx os (E3 Ts Ts.length)) (x%65536)=true) (fun x b=>[]) (fun x b=>[(9,.eq (vu (x%65536))),(6,.eq (.pointer (some ⟨B6,0,none⟩))),(8,.eq (.pointer (some ⟨B8,0,none⟩))),(4,.eq (.pointer (some ⟨B4,0,none⟩))),(5,.eq (.pointer (some ⟨B5,0,none⟩)))]) none (fun _ _ i⟨e,_⟩h _=>by subst e;exact hlow i h) (.t rfl) (fun args w=>BU args w) (W7 (fun i=>i<hz) _ Ts.length k Bn Bs _ hl oQ oQ (fun i h=>by omega) hS.b1 hS.b2) (fun _=>rfl) rfl (fun _ _=>rfl) (show Wx.Sep _ _ _ ([_,_,_]++[_,_,_,_,_,_])from hS) ⟨rfl,fun _ h=>by cases h⟩ ?_ ?_ ?_ ?_
  ·intro lp x w10
   have hS:=Sep.start no w10
   refine Ia rfl ?_
   refine Aa (LW.A rfl (LW.nil ?_))
   exact fun a ha=>⟨0,hS,.nil _ _,ha.sub tQ⟩
  ·rintro lp pre x s b w11 ⟨hs_,hJ⟩ hlt hqw hS0 hS
   rw[←hbq]at hqw⊢
   have zq:=hqw
   change Wx.Sep _ _ _ [_,_,_,_,_,_]at hS
   subst hs_
   replace hS0:Wx.Sep no w0 _ ([_,_,_]++[_,_,_,_,_,_]):=hS0
   change Wx.Sep (D7 [_,_,_,_,_,_]) _ _ [_,_,_,_,_,_]at hS
   refine Ae (Af ?_)
   refine U (.lb rfl (hS.b3.Ak rfl)) ?_
   refine I rfl ?_
   refine A6 (eC (.u rfl rfl) (BF)) rfl (P4 B os (E3 Ts Ts.length) (x%65536) _ (hS.get 2 rfl) (Vq hl) oQ) ?_
   rintro _ w12 ⟨rfl,uw12⟩
   have zw12:=uw12.fr.size
   replace hS:=hS.Dw 2 rfl uw12
   change Wx.Sep _ _ _ [_,_,_,_,_,_]at hS
   refine Ai ?_
   refine CW.b rfl (fun h32=>?_) (fun h32=>?_)
   ·replace h32:=dQ h32
    refine Ah ?_
    obtain⟨ns,ens⟩:∃l,l=Ls 16 (x%65536):=⟨_,rfl⟩
    have hsn:Ec ns=x%65536:=by rw[ens];exact S9 oQ
    have hasc:Asc 16 ns:=ens▸Ir _ _
    rw[←hsn]
    refine Aa ?_
    refine U (.lb rfl (hS.b5.Ak rfl)) ?_
    refine Ao (.FN (i:=Tryz.t3) underlying37 kQ rfl rfl rfl (.const _) (.t rfl) oQ) rfl ?_
    rintro v34 w13 ⟨uM,hO34⟩
    have zw13:=uM.size
    replace hS:=hS.add uM (A':=J 3 1 A5 (v34) ([]:List Int)) (hO34.mono (Nat.zero_le _)) (fun i h=>hO34.base i h)
    clear hO34
    change Wx.Sep _ _ _ [_,_,_,_,_,_,_]at hS
    refine LW.A rfl (Am (Ae ?_))
    refine A3 (σ:=List Nat×List Nat×Go.Value) (fun s w=>(s.1++s.2.1=ns)∧(Wx.Sep (D7 [Bq B4 #[.slice none 0 0] 37,Bq B5 #[.bool false] 4,Bu B (Lq os (E3 Ts Ts.length)),Bq B6 #[.map (some B)] 130,J 3 1 A5 (.slice none 0 0) ([]),Bq B8 #[vi (k:Int)] 3]) w11 w [Bq B4 #[.slice none 0 0] 37,Bq B5 #[.bool false] 4,Bu B (Lq os (E3 Ts Ts.length)),Bq B6 #[.map (some B)] 130,J 3 1 A5 (.slice none 0 0) ([]),Bq B8 #[vi (k:Int)] 3,J 3 1 A5 (s.2.2) (nI s.1)])) (fun s=>[(9,.eq (vu (Ec s.2.1))),(10,.eq (s.2.2))]) ([(4,.eq _),(5,.eq _),(6,.eq _),(8,.eq _),(30,.eq _),(31,.eq _),(32,.eq _),(33,.eq _),(34,.eq _)]) (fun s=>s.2.1.length) ([],ns,v34) ?_ tQ ?_
    ·exact⟨rfl,hS⟩
    rintro⟨a,r,v⟩ w14 ⟨hns,hS⟩
    dsimp only at hns hS
    change Wx.Sep _ _ _ [_,_,_,_,_,_,_]at hS
    change CW _ _ _ _ _ _ _ ([(9,.eq (vu (Ec r))),(10,.eq (v))]++_) _
    refine Ah (Af (I rfl ?_))
    refine U (.neq (.t rfl) (.const _)) ?_
    refine Ai ?_
    refine CW.b rfl (fun h36=>?_) (fun h36=>?_)
    ·replace h36:=dQ h36
     obtain⟨y,r,rfl⟩:∃y l,r=y::l:=by cases r with|nil=>exact absurd h36 cQ|cons y l=>exact⟨y,l,rfl⟩
     refine Aj (Ac (Ah (Ae ?_)))
     have hasc2:Asc 16 (a++y::r):=hns▸hasc
     have hlw:=qT (List.pairwise_append.1 hasc2.1).2.1 (fun z hz=>hasc2.2 z (List.mem_append_right _ hz))
     have hal:a.length≤16:=by have:=hasc2.len;rw[List.length_append]at this;omega
     have hnl:=S4 a
     refine Aa (I rfl (I rfl ?_))
     refine A6 (eC (.o rfl) (HF)) rfl (AJ (Ec (y::r)) _ (hG.up (hS0.frame hS).Ch) hlw.1 hlw.2.1) ?_
     rintro _ w15 ⟨rfl,uw15⟩
     have zw15:=uw15.size
     replace hS:=hS.up uw15
     rw[hlw.2.2.1]
     refine Ao (.buildSlice (xs:=[(y:Int)]) (enc:=A5) (mk:=vi) underlying37 sizeOf3 zeroValue3 rfl cQ (fun _=>rfl) (fun _=>rfl) (.cu rfl) rfl) rfl ?_
     rintro _ w16 ⟨B44,cB44,rfl,NB44,yB44,xB44⟩
     have eB44:=NB44.at_
     have zB44:=NB44.size
     replace hS:=hS.up NB44.up
     have hE44:=xB44
     refine Ao (.Cu (enc:=A5) (bytes:=8) (i:=Tryz.t3) underlying37 kQ rfl rfl rfl rfl cQ (fun _=>rfl) Eh (.t rfl) (.t rfl) (hS.own 6 rfl) (Av hE44) (by simp[maxLen];omega) (by simp;omega)) rfl ?_
     intro v45 w17 Gw17
     have zw17:=Gw17.fr.size
     replace hS:=hS.Dw 6 rfl Gw17
     change Wx.Sep _ _ _ [_,_,_,_,_,_,_]at hS
     refine LW.A rfl (LW.nil (Ad (Ac (Aa (I rfl (I rfl ?_))))))
     refine U (.val (v':=vu (Ec (y::r)-1)) (PEv.wN (.t rfl) (.const _)) (vO hlw.1 hlw.2.1)) ?_
     refine U (.val (v':=vu (Ec r)) (Jk (.t rfl) (.t rfl)) ((Qu (by have:=hlw.2.1;omega) (by have:=hlw.2.1;omega)).trans (congrArg vu hlw.2.2.2))) ?_
     refine LW.A rfl (LW.nil (Ar ?_))
     exact⟨(a++[y],r,v45),⟨by show a++[y]++r=ns;rw[←hns];simp,by dsimp only;rw[←Tb];exact hS.take 7⟩,tQ,by show r.length<(y::r).length;rw[List.length_cons];omega⟩
    replace h36:=dQ h36
    have hr:r=[]:=qX (by simpa using h36)
    subst hr
    rw[List.append_nil]at hns
    subst hns
    refine A4 (Ab (Ab (An (Ac (Af (I rfl ?_))))))
    refine A9 (.store sizeOf37 (.t rfl) (.t rfl) (hS.own 6 rfl).one hS.b0 bQ) ?_
    intro w18 Nw18
    have zw18:=Nw18.size
    replace hS:=hS.Dz 0 rfl Nw18
    change Wx.Sep _ _ _ [_,_,_,_,_,_,_]at hS
    refine A9 (.store sizeOf4 (.t rfl) (.const _) rfl hS.b1 bQ) ?_
    intro w19 Nw19
    have zw19:=Nw19.size
    replace hS:=hS.Dz 1 rfl Nw19
    change Wx.Sep _ _ _ [_,_,_,_,_,_,_]at hS
    refine Ai (Al (Ay ?_))
    have hS9:=(hS.sub (.cons_cons _ (.cons_cons _ (.cons_cons _ (.cons_cons _ (.cons _ (.cons_cons _ (.cons_cons _ .slnil)))))))).Gl 4 rfl
    exact fun _ _=>⟨some (v,a),[],⟨rfl,pre,x,v,rfl,by rw[ens],hJ,h32⟩,(show Wx.Sep _ _ _ [_,_,_,_,_,_]from hS9),.cons (O9 hS.b0) (.cons (O9 hS.b1) (.cons (fun i(e:i=B)=>.inl oQ) (.cons (O9 hS.b3) (.cons (uF (hS.own 6 rfl)) (.cons (O9 hS.b5) (.nil _ _))))))⟩
   replace h32:=dQ h32
   refine Aj (Ad ?_)
   exact fun _ _=>⟨none,[],⟨rfl,fun y hy=>(List.mem_append.1 hy).elim (hJ y) (fun h=>by rw[List.mem_singleton.1 h];exact h32)⟩,hS,.cons (O9 hS.b0) (.cons (O9 hS.b1) (.cons (fun i(e:i=B)=>.inl oQ) (.cons (O9 hS.b3) (.cons (uF (hS.own 4 rfl)) (.cons (O9 hS.b5) (.nil _ _))))))⟩
  ·rintro Dm ys s w20 hDq hYs ⟨hs_,hJ⟩ hqw hS
   rw[←hbq]at hDq hqw
   have zq:=hqw
   replace hS:=Qr (Ds:=Ds) (As:=[_,_]) (Bs:=[_,_,_,_,_,_]) hS
   change Wx.Sep _ _ _ [_,_,_,_,_,_,_,_,_]at hS
   subst hs_
   refine Ad (Ad (Ac (Aa ?_)))
   refine U (.ic rfl oQ) ?_
   refine I rfl (LW.nil ?_)
   refine kN ?_
   exact⟨(k+1,Dm::Ds),⟨by show k+1≤_;omega,fun j hj=>(Nat.lt_or_eq_of_le (Nat.le_of_lt_succ hj)).elim (hno j) (fun e=>by rw[e];exact rA hl (by rw[←hYs];exact hJ)),hS.sub (.cons_cons _ (.cons _ (.cons _ (.cons_cons _ (.cons_cons _ (.cons_cons _ (.cons_cons _ (.cons_cons _ (.cons _ .slnil)))))))))⟩,rfl,tQ,by show Ts.length+1-(k+1)<Ts.length+1-k;omega⟩
  rintro Dm c pre s w21 hDq hpre ⟨rfl,l,x,v,rfl,rfl,hl1,hx1⟩ hqw hS
  rw[←hbq]at hDq hqw
  have zq:=hqw
  replace hS:=Qr (Ds:=Ds) (As:=[_,_]) (Bs:=[_,_,_,_,_,_]) hS
  change Wx.Sep _ _ _ [_,_,_,_,_,_,_,_,_]at hS
  refine Al (Ay (Ay (Ap (Ap (Ay (Ap ?_))))))
  refine Kh rfl (Dm::Ds) _ (hS.get 0 rfl).1 (hS.get 0 rfl).2 ?_
  intro w22 hF_
  replace hS:=hS.step 0 rfl (A':=dC) hF_ trivial (fun _ h=>h.elim)
  change Wx.Sep _ _ _ [_,_,_,_,_,_,_,_,_]at hS
  have zw22:=hF_.size
  refine aA rfl rfl rfl isAgg37 (hS.b3.Ak rfl) isAgg4 (hS.b4.Ak rfl) ⟨_,rfl,?_⟩
  first|exact⟨.slice none 0 0,false,[],rfl,OwnS.nil _ _ _ _ _,hS.Ch,.inl ⟨rfl,rfl,qY hno⟩⟩|exact⟨v,true,_,rfl,(hS.own 7 rfl).Il (fun i h=>(hS.foot 7 rfl i h).resolve_left (fun h=>h)),hS.Ch,iC hl oQ hno hpre hl1 hx1⟩
 replace h23:=dQ h23
 refine A4 (Ab (Ab (An (Ac (Ah ?_)))))
 have hkl:k=Ts.length+1:=by omega
 subst hkl
 refine Aa ?_
 refine A9 (.store sizeOf37 (.t rfl) (.const _) rfl hS.b1 bQ) ?_
 intro w23 Nw23
 have zw23:=Nw23.size
 replace hS:=hS.Dz 1 rfl Nw23
 change Wx.Sep _ _ _ [_,_,_,_,_,_]at hS
 refine A9 (.store sizeOf4 (.t rfl) (.const _) rfl hS.b2 bQ) ?_
 intro w24 Nw24
 have zw24:=Nw24.size
 replace hS:=hS.Dz 2 rfl Nw24
 change Wx.Sep _ _ _ [_,_,_,_,_,_]at hS
 refine Ai (Al ?_)
 refine Kh rfl Ds _ (hS.get 0 rfl).1 (hS.get 0 rfl).2 ?_
 intro w25 hF_
 replace hS:=hS.step 0 rfl (A':=dC) hF_ trivial (fun _ h=>h.elim)
 change Wx.Sep _ _ _ [_,_,_,_,_,_]at hS
 have zw25:=hF_.size
 refine aA rfl rfl rfl isAgg37 (hS.b1.Ak rfl) isAgg4 (hS.b2.Ak rfl) ⟨_,rfl,?_⟩
 first|exact⟨.slice none 0 0,false,[],rfl,OwnS.nil _ _ _ _ _,hS.Ch,.inl ⟨rfl,rfl,qY hno⟩⟩|exact⟨v,true,_,rfl,(hS.own 7 rfl).Il (fun i h=>(hS.foot 7 rfl i h).resolve_left (fun h=>h)),hS.Ch,iC hl oQ hno hpre hl1 hx1⟩
theorem G4(n lo hi:Int)(w:World):Ret prog 126 #[vi n,vi lo,vi hi] w fun r w'=>r=.bool (rB n lo hi)∧Up w w':=by
 have hW:=Up.refl w
 refine cT 15 func126 rfl (Af (Az (Am (Aa (I rfl (I rfl (U (.geq (.t rfl) (.t rfl)) (I rfl (Ey rfl rfl (Ey rfl rfl (LW.gr rfl (fun hc=>PEv.leq vQ vQ) (U (.pa rfl (fun hp=>(by exact .cond rfl (by(rw[hp];rfl))))) (LW.A rfl (Ai (Al (KW.q ?_))))))))))))))))
 exact⟨by unfold rB;simp,hW⟩
theorem Te(t s d:Int)(w:World)(hd:0≤d∧d≤10000):Ret prog 193 #[.agg (#[vi t,vi s]:Array Go.Value),vi d] w fun r w'=>r=.bool (rB t 0 59&&rB s 0 (1000000-d))∧Up w w':=by
 obtain⟨w0,rfl,hS⟩:=W0 w
 refine cT 15 func193 rfl (Af (Ao (.bA rfl) rfl ?_))
 rintro _ w1 ⟨B2,rfl,NB2⟩
 replace hS:=hS.Cg NB2
 refine Az (Am (Aa (U (.fB 0 rfl) (U (.lb rfl (hS.b0.Ak rfl)) (A6 (eC (.ct rfl (.cons (.const _) (.cons (.const _) .nil))) (Ul)) rfl (G4 _ _ _ _) ?_)))))
 rintro _ w2 ⟨rfl,uw2⟩
 replace hS:=hS.up uw2
 refine I rfl (LW.gr rfl (fun hc=>PEv.fB 1 rfl) (LW.gr rfl (fun hc=>PEv.load isAgg3 vQ (hS.b0.Ak rfl)) (Ey rfl rfl (LW.gr rfl (fun hc=>PEv.sub (.const _) vQ oQ oQ) (Mh rfl rfl rfl rfl rfl rfl rfl rfl (fun hc=>Ct (.cons vQ (.cons (.const _) (.cons vQ .nil))) (Ul)) (fun hc=>G4 _ _ _ _) ?_)))))
 intro w3 uw3
 replace hS:=hS.up uw3
 refine U (.pa rfl (fun hp=>(by exact .cond rfl (by(rw[hp];rfl))))) (LW.A rfl (Ai (Al (KW.q ?_))))
 exact⟨by simp,hS.Ch⟩
theorem eE(cf:Nat)(lb:Array Go.Value)(hen:∀args w,(callFunc cf args).run Tryz.prog w=.ok (.enter cf args) w)(ad:Option Addr)(cp:Nat)(l:List Sg)(w:World)(hE0:Els w ad 6 Sg.cells l)(hl:l.length≤100000)(hp:∀W,Up w W→∀x∈l,Ret Tryz.prog cf (#[.agg (Sg.cells x)]++lb) W fun r W'=>r=.bool false∧Up W W'):Ret prog 192 #[.slice ad l.length cp,.func (.func cf) #[] lb] w fun r w'=>r=vi (-1)∧Up w w':=by
 have hW:=Up.refl w
 obtain⟨w0,rfl,_⟩:=W0 w
 refine cT 19 func192 rfl (Af (Az (Am (Af (I rfl (U (.Cw underlying68 (.t rfl)) (U (.move (.const _)) (Ai (Ae (A3 (σ:=Nat) (fun s w=>(s≤l.length)∧(Up w0 w)) (fun s=>[(8,.eq (vi (s:Int)))]) ([(0,.eq _),(1,.eq _),(7,.eq _)]) (fun s=>l.length-s) 0 ?_ tQ ?_))))))))))
 ·exact⟨Nat.zero_le _,hW⟩
 rintro k w1 ⟨hk,hW⟩
 refine Af (U (.l2 rfl rfl) (Am (CW.b rfl (fun h9=>?_) (fun h9=>?_))))
 ·replace h9:=dQ h9
  refine Aj (Ac (Ah (Ae (Af (I rfl (LW.A rfl (Am ?_)))))))
  have hE:=Els.up hE0 hW
  refine Aa (I rfl (I rfl (I rfl ?_)))
  obtain⟨x,hx⟩:=Aq (xs:=l) (i:=k) oQ
  obtain⟨Bx,ox,ax,hcx⟩:=hE _ x hx
  refine U (.Aw underlying68 sizeOf63 (.t rfl) (.t rfl) oQ ax) (U (.lc rfl (hcx)) (A6 (Cc (.t rfl) (.cu rfl) (hen)) rfl (hp _ hW x (List.mem_of_getElem? hx)) ?_))
  rintro _ w2 ⟨rfl,uw2⟩
  replace hW:=hW.up uw2
  replace hcx:=hcx.up uw2
  refine Ai (CW.f rfl (Aj (Ad (Ac (Aa (U (.ic rfl oQ) (I rfl (LW.nil (Ar ?_)))))))))
  exact⟨k+1,⟨by omega,hW⟩,tQ,by omega⟩
 replace h9:=dQ h9
 refine A4 (Ab (Ab (An (Ac (Af (Az (Ai (Al (KW.q ?_)))))))))
 exact⟨rfl,hW⟩
theorem Ue(cf:Nat)(lb:Array Go.Value)(hen:∀args w,(callFunc cf args).run Tryz.prog w=.ok (.enter cf args) w)(ad:Option Addr)(cp:Nat)(l:List Sg)(w:World)(hE0:Els w ad 6 Sg.cells l)(hl:l.length≤100000)(hp:∀W,Up w W→∀x∈l,Ret Tryz.prog cf (#[.agg (Sg.cells x)]++lb) W fun r W'=>r=.bool false∧Up W W'):Ret prog 127 #[.slice ad l.length cp,.func (.func cf) #[] lb] w fun r w'=>r=.bool false∧Up w w':=by
 have hW:=Up.refl w
 refine cT 9 func127 rfl (Af (Az (Am (Aa (I rfl (I rfl (A6 (eC (.u rfl rfl) (DR)) rfl (eE cf lb hen ad cp l _ (Els.up hE0 hW) hl (fun W u x hx=>hp W (hW.trans u) x hx)) ?_)))))))
 rintro _ w1 ⟨rfl,uw1⟩
 replace hW:=hW.up uw1
 refine U (.geq (.t rfl) (.const _)) (LW.A rfl (Ai (Al (KW.q ?_))))
 exact⟨rfl,hW⟩
theorem eF(cf:Nat)(lb:Array Go.Value)(hen:∀args w,(callFunc cf args).run Tryz.prog w=.ok (.enter cf args) w)(ad:Option Addr)(cp:Nat)(l:List Wn)(w:World)(hE0:Els w ad 3 Wn.cells l)(hl:l.length≤100000)(hp:∀W,Up w W→∀x∈l,Ret Tryz.prog cf (#[.agg (Wn.cells x)]++lb) W fun r W'=>r=.bool false∧Up W W'):Ret prog 194 #[.slice ad l.length cp,.func (.func cf) #[] lb] w fun r w'=>r=vi (-1)∧Up w w':=by
 have hW:=Up.refl w
 obtain⟨w0,rfl,_⟩:=W0 w
 refine cT 19 func194 rfl (Af (Az (Am (Af (I rfl (U (.Cw underlying51 (.t rfl)) (U (.move (.const _)) (Ai (Ae (A3 (σ:=Nat) (fun s w=>(s≤l.length)∧(Up w0 w)) (fun s=>[(8,.eq (vi (s:Int)))]) ([(0,.eq _),(1,.eq _),(7,.eq _)]) (fun s=>l.length-s) 0 ?_ tQ ?_))))))))))
 ·exact⟨Nat.zero_le _,hW⟩
 rintro k w1 ⟨hk,hW⟩
 refine Af (U (.l2 rfl rfl) (Am (CW.b rfl (fun h9=>?_) (fun h9=>?_))))
 ·replace h9:=dQ h9
  refine Aj (Ac (Ah (Ae (Af (I rfl (LW.A rfl (Am ?_)))))))
  have hE:=Els.up hE0 hW
  refine Aa (I rfl (I rfl (I rfl ?_)))
  obtain⟨x,hx⟩:=Aq (xs:=l) (i:=k) oQ
  obtain⟨Bx,ox,ax,hcx⟩:=hE _ x hx
  refine U (.Aw underlying51 sizeOf50 (.t rfl) (.t rfl) oQ ax) (U (.lc rfl (hcx)) (A6 (Cc (.t rfl) (.cu rfl) (hen)) rfl (hp _ hW x (List.mem_of_getElem? hx)) ?_))
  rintro _ w2 ⟨rfl,uw2⟩
  replace hW:=hW.up uw2
  replace hcx:=hcx.up uw2
  refine Ai (CW.f rfl (Aj (Ad (Ac (Aa (U (.ic rfl oQ) (I rfl (LW.nil (Ar ?_)))))))))
  exact⟨k+1,⟨by omega,hW⟩,tQ,by omega⟩
 replace h9:=dQ h9
 refine A4 (Ab (Ab (An (Ac (Af (Az (Ai (Al (KW.q ?_)))))))))
 exact⟨rfl,hW⟩
theorem Uf(cf:Nat)(lb:Array Go.Value)(hen:∀args w,(callFunc cf args).run Tryz.prog w=.ok (.enter cf args) w)(ad:Option Addr)(cp:Nat)(l:List Wn)(w:World)(hE0:Els w ad 3 Wn.cells l)(hl:l.length≤100000)(hp:∀W,Up w W→∀x∈l,Ret Tryz.prog cf (#[.agg (Wn.cells x)]++lb) W fun r W'=>r=.bool false∧Up W W'):Ret prog 130 #[.slice ad l.length cp,.func (.func cf) #[] lb] w fun r w'=>r=.bool false∧Up w w':=by
 have hW:=Up.refl w
 refine cT 9 func130 rfl (Af (Az (Am (Aa (I rfl (I rfl (A6 (eC (.u rfl rfl) (DS)) rfl (eF cf lb hen ad cp l _ (Els.up hE0 hW) hl (fun W u x hx=>hp W (hW.trans u) x hx)) ?_)))))))
 rintro _ w1 ⟨rfl,uw1⟩
 replace hW:=hW.up uw1
 refine U (.geq (.t rfl) (.const _)) (LW.A rfl (Ai (Al (KW.q ?_))))
 exact⟨rfl,hW⟩
theorem eG(cf:Nat)(lb:Array Go.Value)(hen:∀args w,(callFunc cf args).run Tryz.prog w=.ok (.enter cf args) w)(ad:Option Addr)(cp:Nat)(l:List Int)(w:World)(hE0:Els w ad 1 A5 l)(hl:l.length≤100000)(hp:∀W,Up w W→∀x∈l,Ret Tryz.prog cf (#[vi x]++lb) W fun r W'=>r=.bool false∧Up W W'):Ret prog 229 #[.slice ad l.length cp,.func (.func cf) #[] lb] w fun r w'=>r=vi (-1)∧Up w w':=by
 have hW:=Up.refl w
 obtain⟨w0,rfl,_⟩:=W0 w
 refine cT 19 func229 rfl (Af (Az (Am (Af (I rfl (U (.Cw underlying208 (.t rfl)) (U (.move (.const _)) (Ai (Ae (A3 (σ:=Nat) (fun s w=>(s≤l.length)∧(Up w0 w)) (fun s=>[(8,.eq (vi (s:Int)))]) ([(0,.eq _),(1,.eq _),(7,.eq _)]) (fun s=>l.length-s) 0 ?_ tQ ?_))))))))))
 ·exact⟨Nat.zero_le _,hW⟩
 rintro k w1 ⟨hk,hW⟩
 refine Af (U (.l2 rfl rfl) (Am (CW.b rfl (fun h9=>?_) (fun h9=>?_))))
 ·replace h9:=dQ h9
  refine Aj (Ac (Ah (Ae (Af (I rfl (LW.A rfl (Am ?_)))))))
  have hE:=Els.up hE0 hW
  refine Aa (I rfl (I rfl (I rfl ?_)))
  obtain⟨x,hx⟩:=Aq (xs:=l) (i:=k) oQ
  obtain⟨Bx,ox,ax,hcx⟩:=hE _ x hx
  refine U (.Aw underlying208 sizeOf3 (.t rfl) (.t rfl) oQ ax) (U (.lb rfl (hcx.nth (j:=0) rfl)) (A6 (Cc (.t rfl) (.cu rfl) (hen)) rfl (hp _ hW x (List.mem_of_getElem? hx)) ?_))
  rintro _ w2 ⟨rfl,uw2⟩
  replace hW:=hW.up uw2
  replace hcx:=hcx.up uw2
  refine Ai (CW.f rfl (Aj (Ad (Ac (Aa (U (.ic rfl oQ) (I rfl (LW.nil (Ar ?_)))))))))
  exact⟨k+1,⟨by omega,hW⟩,tQ,by omega⟩
 replace h9:=dQ h9
 refine A4 (Ab (Ab (An (Ac (Af (Az (Ai (Al (KW.q ?_)))))))))
 exact⟨rfl,hW⟩
theorem Ug(cf:Nat)(lb:Array Go.Value)(hen:∀args w,(callFunc cf args).run Tryz.prog w=.ok (.enter cf args) w)(ad:Option Addr)(cp:Nat)(l:List Int)(w:World)(hE0:Els w ad 1 A5 l)(hl:l.length≤100000)(hp:∀W,Up w W→∀x∈l,Ret Tryz.prog cf (#[vi x]++lb) W fun r W'=>r=.bool false∧Up W W'):Ret prog 190 #[.slice ad l.length cp,.func (.func cf) #[] lb] w fun r w'=>r=.bool false∧Up w w':=by
 have hW:=Up.refl w
 refine cT 9 func190 rfl (Af (Az (Am (Aa (I rfl (I rfl (A6 (eC (.u rfl rfl) (EH)) rfl (eG cf lb hen ad cp l _ (Els.up hE0 hW) hl (fun W u x hx=>hp W (hW.trans u) x hx)) ?_)))))))
 rintro _ w1 ⟨rfl,uw1⟩
 replace hW:=hW.up uw1
 refine U (.geq (.t rfl) (.const _)) (LW.A rfl (Ai (Al (KW.q ?_))))
 exact⟨rfl,hW⟩
end Go.Proofs.YtdilcdgjklimoaaGreatDoor
