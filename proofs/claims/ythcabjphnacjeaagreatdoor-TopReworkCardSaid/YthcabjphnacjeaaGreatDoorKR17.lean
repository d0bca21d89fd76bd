import Derived.Test.YthcabjphnacjeaaGreatDoorKR16
import Derived.Laws.CopyRow
import Derived.Laws.IdiomStrings
import Derived.Laws.OwnMore
namespace Go.Wx
open Go.RowKit
structure Fr(S:Nat→Prop)(w w':World):Prop where
 os:w'.os=w.os
 tape:w'.tape=w.tape
 output:w'.output=w.output
 size:w.heap.size≤w'.heap.size
 block:∀i,i<w.heap.size→¬S i→w'.heap[i]?=w.heap[i]?
theorem Fr.refl(S:Nat→Prop)(w:World):Fr S w w:=⟨rfl,rfl,rfl,bi _,fun _ _ _=>rfl⟩
theorem Fr.trans{S:Nat→Prop}{a b c:World}(h:Fr S a b)(k:Fr S b c):Fr S a c:=⟨k.os.trans h.os,k.tape.trans h.tape,k.output.trans h.output,b6 h.size k.size,fun i hi hs=>(k.block i (ez hi h.size) hs).trans (h.block i hi hs)⟩
theorem Fr.next{S T:Nat→Prop}{a b c:World}(h:Fr S a b)(k:Fr T b c)(hT:∀i,T i→S i∨a.heap.size≤i):Fr S a c:=⟨k.os.trans h.os,k.tape.trans h.tape,k.output.trans h.output,b6 h.size k.size,fun i hi hs=>(k.block i (ez hi h.size) (fun h2=>(hT i h2).elim hs (fun h3=>by omega))).trans (h.block i hi hs)⟩
theorem Fr.mono{S T:Nat→Prop}{w w':World}(h:Fr S w w')(hT:∀i,S i→T i):Fr T w w':=⟨h.os,h.tape,h.output,h.size,fun i hi hs=>h.block i hi (fun h2=>hs (hT i h2))⟩
theorem Fr.sB{S:Nat→Prop}{w w':World}(h:Fr S w w')(hS:∀i,¬S i):Up w w':=⟨h.os,h.tape,h.output,h.size,fun i hi=>h.block i hi (hS i)⟩
theorem Up.fr{w w':World}(h:Up w w')(S:Nat→Prop):Fr S w w':=⟨h.os,h.tape,h.output,Up.size h,fun _ hi _=>h.block hi⟩
theorem Sto.fr{B:Nat}{w w':World}(h:Sto B w w'):Fr (· =B) w w':=⟨h.os,h.tape,h.output,h.size,fun i hi hs=>h.block i hi hs⟩
def no:Nat→Prop:=fun _=>False
structure Asr where
 foot:Nat→Prop
 holds:World→Prop
 keep:∀w w',holds w→(∀i,foot i→i<w.heap.size→w'.heap[i]?=w.heap[i]?)→w.heap.size≤w'.heap.size→holds w'
 lt:∀w,holds w→∀i,foot i→i<w.heap.size
def A5(B:Nat)(cs:Array Value)(T:TypeId):Asr:=⟨(· =B),fun w=>Blk w B cs T,fun _ _ h k _=>(k B rfl h.lt).trans h,fun _ h _ e=>by subst e;exact h.lt⟩
theorem OwnS.keeps{α:Type}{enc:α→Array Value}{b k:Nat}{e:TypeId}{w w':World}{v:Value}{xs:List α}(h:OwnS w b e k enc v xs)(hk:∀i,v.ownBlock=some i→i<w.heap.size→w'.heap[i]?=w.heap[i]?):OwnS w' b e k enc v xs:=by
 obtain⟨h1,h2⟩:=h
 refine⟨h1,?_⟩
 rcases h2 with h2|⟨g,cap,cur,rfl,hb,hg,rest⟩
 · exact .inl h2
 exact .inr ⟨g,cap,cur,rfl,hb,(hk g rfl (lt_of_block hg)).trans hg,rest⟩
theorem OwnS.lt{α:Type}{enc:α→Array Value}{b k:Nat}{e:TypeId}{w:World}{v:Value}{xs:List α}(h:OwnS w b e k enc v xs):∀i,v.ownBlock=some i→i<w.heap.size:=by
 obtain⟨h1,h2⟩:=h
 rcases h2 with h2|⟨g,cap,cur,rfl,hb,hg,rest⟩
 · intro i hi;rw[h2.1]at hi;cases hi
 intro i hi;cases hi;exact lt_of_block hg
def Aw{α:Type}(e:TypeId)(k:Nat)(enc:α→Array Value)(v:Value)(xs:List α):Asr:=⟨fun i=>v.ownBlock=some i,fun w=>OwnS w 0 e k enc v xs,fun _ _ h k _=>h.keeps k,fun _ h=>h.lt⟩
structure Sep(S0:Nat→Prop)(w0 w:World)(As:List Asr):Prop where
 fr:Fr S0 w0 w
 each:∀A∈As,A.holds w∧∀i,A.foot i→S0 i∨w0.heap.size≤i
 apart:As.Pairwise fun A B=>∀i,A.foot i→¬B.foot i
theorem Ie{α:Type}{r:α→α→Prop}{l:List α}(h:l.Pairwise r){i j:Nat}{a b:α}(hij:i<j)(ha:l[i]?=some a)(hb:l[j]?=some b):r a b:=by
 obtain⟨hi,rfl⟩:=ak.1 ha
 obtain⟨hj,rfl⟩:=ak.1 hb
 exact ei.1 h i j hi hj hij
section
variable {S0:Nat→Prop}{w0 w w':World}{As:List Asr}{A A':Asr}
theorem Sep.start(S0:Nat→Prop)(w:World):Sep S0 w w []:=⟨Fr.refl _ _,fun _ h=>by simp at h,List.Pairwise.nil⟩
theorem Sep.get(h:Sep S0 w0 w As)(k:Nat)(hk:As[k]?=some A):A.holds w:=(h.each A (ai hk)).1
theorem Sep.size(h:Sep S0 w0 w As):w0.heap.size≤w.heap.size:=h.fr.size
theorem Sep.up(h:Sep S0 w0 w As)(u:Up w w'):Sep S0 w0 w' As:=
 ⟨h.fr.trans (u.fr _),fun A hA=>⟨A.keep w w' (h.each A hA).1 (fun _ _ hi=>u.block hi) (Up.size u),(h.each A hA).2⟩,h.apart⟩
theorem Sep.step(h:Sep S0 w0 w As)(k:Nat)(hk:As[k]?=some A)(fr:Fr A.foot w w')(h':A'.holds w')(sub:∀i,A'.foot i→A.foot i∨w.heap.size≤i):Sep S0 w0 w' (As.set k A'):=by
 have hA:=h.each A (ai hk)
 have hsz:=h.size
 have hne:∀(j:Nat)(B:Asr),As[j]?=some B→j≠k→(∀i,A.foot i→¬B.foot i)∧(∀i,B.foot i→¬A.foot i):=fun j B hj hjk=>by
   rcases Nat.lt_or_gt_of_ne hjk with hl|hl
   · have:=Ie h.apart hl hj hk
     exact⟨fun i h1 h2=>this i h2 h1,this⟩
   have:=Ie h.apart hl hk hj
   exact⟨this,fun i h1 h2=>this i h2 h1⟩
 have hset:∀(j:Nat)(B:Asr),(As.set k A')[j]?=some B→(j=k∧B=A')∨(j≠k∧As[j]?=some B):=fun j B hj=>by
   rw[gg]at hj
   by_cases e:k=j
   · subst e
     rw[bg rfl]at hj
     split at hj
     · cases hj;exact .inl ⟨rfl,rfl⟩
     cases hj
   rw[aq e]at hj;exact .inr ⟨fun e2=>e e2.symm,hj⟩
 refine⟨h.fr.next fr hA.2,fun B hB=>?_,?_⟩
 · obtain⟨j,hj⟩:=eh.1 hB
   rcases hset j B hj with⟨_,rfl⟩|⟨e,hj'⟩
   · exact⟨h',fun i hi=>(sub i hi).elim (hA.2 i) (fun h2=>.inr oQ)⟩
   have h1:=h.each B (ai hj')
   exact⟨B.keep w w' h1.1 (fun i hi hlt=>fr.block i hlt ((hne j B hj' e).2 i hi)) fr.size,h1.2⟩
 rw[ei]
 intro i j hi hj hij
 have hi':=cb hi
 have hj':=cb hj
 rcases hset _ _ hi' with⟨e1,e2⟩|⟨e1,h1⟩<;>rcases hset _ _ hj' with⟨f1,f2⟩|⟨f1,h2⟩
 · omega
 · rw[e2]
   intro x hx hB
   have hlt:=Asr.lt _ w (h.each _ (ai h2)).1 x hB
   exact(sub x hx).elim (fun h3=>(hne _ _ h2 f1).1 x h3 hB) (fun h3=>by omega)
 · rw[f2]
   intro x hx hB
   have hlt:=Asr.lt _ w (h.each _ (ai h1)).1 x hx
   exact(sub x hB).elim (fun h3=>(hne _ _ h1 e1).1 x h3 hx) (fun h3=>by omega)
 exact Ie h.apart hij h1 h2
theorem Sep.add(h:Sep S0 w0 w As)(u:Up w w')(h':A'.holds w')(new:∀i,A'.foot i→w.heap.size≤i):Sep S0 w0 w' (As++[A']):=by
 have h2:=h.up u
 have hsz:=h.size
 refine⟨h2.fr,fun B hB=>?_,?_⟩
 · rcases bt.1 hB with h3|h3
   · exact h2.each B h3
   simp at h3;subst h3
   exact⟨h',fun i hi=>.inr (by have:=new i hi;omega)⟩
 rw[ci]
 refine⟨h.apart,f4 _ _,fun B hB C hC i hi hi2=>?_⟩
 simp at hC;subst hC
 have:=Asr.lt B w (h.each B hB).1 i hi
 have:=new i hi2
 omega
theorem Sep.Cf{B:Nat}{cs:Array Value}{T:TypeId}(h:Sep S0 w0 w As)(N:New w w' B cs T):Sep S0 w0 w' (As++[A5 B cs T]):=h.add N.up N.blk (fun i(e:i=B)=>by rw[e,N.at_];exact bi _)
theorem Sep.Ec{B:Nat}{cs cs':Array Value}{T:TypeId}(h:Sep S0 w0 w As)(k:Nat)(hk:As[k]?=some (A5 B cs T))(N:Set_ w w' B cs' T):Sep S0 w0 w' (As.set k (A5 B cs' T)):=h.step k hk N.sto.fr N.blk (fun _ hi=>.inl hi)
theorem Sep.blk{B:Nat}{cs:Array Value}{T:TypeId}(h:Sep S0 w0 w As)(k:Nat)(hk:As[k]?=some (A5 B cs T)):Blk w B cs T:=h.get k hk
theorem Sep.own{α:Type}{e:TypeId}{k':Nat}{enc:α→Array Value}{v:Value}{xs:List α}(h:Sep S0 w0 w As)(k:Nat)(hk:As[k]?=some (Aw e k' enc v xs)):OwnS w 0 e k' enc v xs:=h.get k hk
theorem Sep.cons(h:A.holds w)(hf:∀i,A.foot i→S0 i)(hs:Sep S0 w w As)(hd:∀B∈As,∀i,A.foot i→¬B.foot i):Sep S0 w w (A::As):=
 ⟨hs.fr,fun B hB=>by
   rcases bm.1 hB with e|e
   · subst e;exact⟨h,fun i hi=>.inl (hf i hi)⟩
   exact hs.each B e,List.Pairwise.cons hd hs.apart⟩
theorem Sep.sub{Bs:List Asr}(h:Sep S0 w0 w As)(hs:Bs.Sublist As):Sep S0 w0 w Bs:=⟨h.fr,fun A hA=>h.each A (hs.subset hA),h.apart.sublist hs⟩
theorem Sep.foot(h:Sep S0 w0 w As)(k:Nat)(hk:As[k]?=some A):∀i,A.foot i→S0 i∨w0.heap.size≤i:=(h.each A (ai hk)).2
theorem Sep.ne(h:Sep S0 w0 w As){i j:Nat}{A B:Asr}(hij:i<j)(hi:As[i]?=some A)(hj:As[j]?=some B):∀x,A.foot x→¬B.foot x:=Ie h.apart hij hi hj
structure Stp(A A':Asr)(w w':World):Prop where
 fr:Fr A.foot w w'
 holds:A'.holds w'
 sub:∀i,A'.foot i→A.foot i∨w.heap.size≤i
theorem Stp.up{A A':Asr}{w w' w'':World}(h:Stp A A' w w')(u:Up w' w''):Stp A A' w w'':=⟨h.fr.trans (u.fr _),A'.keep _ _ h.holds (fun _ _ hi=>u.block hi) (Up.size u),h.sub⟩
theorem Stp.refl{A:Asr}{w:World}(h:A.holds w):Stp A A w w:=⟨Fr.refl _ _,h,fun _ h=>.inl h⟩
theorem Stp.trans{A B C:Asr}{a b c:World}(h:Stp A B a b)(k:Stp B C b c):Stp A C a c:=⟨h.fr.next k.fr h.sub,k.holds,fun i hi=>(k.sub i hi).elim (fun h2=>h.sub i h2) (fun h2=>.inr (b6 h.fr.size h2))⟩
theorem Sep.Ft(h:Sep S0 w0 w As)(k:Nat)(hk:As[k]?=some A)(s:Stp A A' w w'):Sep S0 w0 w' (As.set k A'):=h.step k hk s.fr s.holds s.sub
theorem Sep.take(h:Sep S0 w0 w As)(n:Nat):Sep S0 w0 w (As.take n):=h.sub (List.take_sublist _ _)
theorem OwnS.base{α:Type}{enc:α→Array Value}{b k:Nat}{e:TypeId}{w:World}{v:Value}{xs:List α}(h:OwnS w b e k enc v xs):∀i,v.ownBlock=some i→b≤i:=by
 obtain⟨_,⟨rfl,_⟩|⟨g,cap,cur,rfl,hb,_⟩⟩:=h
 · intro i hi;cases hi
 intro i hi;cases hi;exact hb
theorem Sep.Ch(h:Sep no w0 w As):Up w0 w:=h.fr.sB (fun _ h=>h)
end
theorem REv.mono{P:Program}{n:Nat}{ds:List Deferred}{l:Env}{w:World}{o:Oper}{Post Post':Value→World→Prop}(h:REv P n ds l w o Post)(k:∀v w',Post v w'→Post' v w'):REv P n ds l w o Post':=fun a ha=>let⟨v,w',h1,h2⟩:=h a ha;⟨v,w',h1,k v w' h2⟩
section
variable {P:Program}{n:Nat}{ds:List Deferred}{l:Env}{w:World}{d:Option Tmp}{ty:TypeId}{ps:String}{af:Array Edge}{g:Option (Nat×Bool)}
theorem REv.Df{α:Type}{enc:α→Array Value}{k bytes:Nat}{e T:TypeId}{i:TypeInfo}{z:Value}{s x:Operand}{v xv:Value}{xs ys:List α}(hT:P.underlying T=some (.slice e))(hi:P.info? e=some i)(hz:i.zero=some z)
   (hsize:i.size=k)(hby:i.bytes=bytes)(hzs:z.cells.size=k)(hk0:0<k)(henc:∀x,(enc x).size=k)(h1:∀x,(enc x).all (·.oneCell')=true)(hs:Val l s v)(hx:Val l x xv)(ho:OwnS w 0 e k enc v xs)(hy:Sl w xv k enc ys)
   (h63:xs.length+ys.length≤maxLen)(hbytes:(xs.length+ys.length)*bytes≤140737488355328):
   REv P n ds l w ⟨d,.call { callee:=.builtin .append,args:=#[s,x],argTypes:=#[T,T] },ty,ps,af,g⟩ (fun v' w'=>Stp (Aw e k enc v xs) (Aw e k enc v' (xs++ys)) w w'):=fun a ha=>by
 obtain⟨ad,c,rfl,hE⟩:=hy
 have hfl:∀x,(enc x).toList.length=k:=fun x=>by simp[henc]
 by_cases hne:0<ys.length
 · obtain⟨y0,hy0⟩:=Af (xs:=ys) (i:=0) hne
   obtain⟨B,o,rfl,_⟩:=hE 0 y0 hy0
   have hnews:∀(j:Nat)(u:Value),(ys.flatMap fun x=>(enc x).toList)[j]?=some u→w.cell? ((⟨B,o,none⟩:Addr).add j)=some u:=fun j u hu=>by
     obtain⟨y,hy1,hy2⟩:=Qs _ k hk0 hfl ys j u hu
     obtain⟨B',o',e',hc⟩:=hE _ y hy1
     cases e'
     have:=hc (j%k) u (by simpa using hy2)
     rw[Fc]
     rw[show o+j=o+j/k*k+j%k by have:=kh j k;rw[i7]at this;omega]
     exact this
   have h1':∀u∈(ys.flatMap fun x=>(enc x).toList),u.oneCell'=true:=fun u hu=>by
     obtain⟨y,_,hy2⟩:=ii.1 hu
     exact(cj.1 (h1 y)) u (by simpa using hy2)
   obtain⟨v',w',hr,h2,h3,_⟩:=run_append_own (P:=P) w 0 T ty e i z k bytes hT hi hz hsize hby hzs hk0 v xs.length _ ho ⟨B,o,none⟩ ys.length c (ys.flatMap fun x=>(enc x).toList) (G5 _ k hfl ys) hnews h1' h63 hbytes (a_ _)
   refine⟨v',w',?_,⟨h3.os,h3.tape,h3.output,h3.size,fun i hi hb=>h3.block i hi (fun e=>hb e.symm)⟩,(show OwnS w' 0 e k enc v' (xs++ys)by simpa[OwnS]using h2),?_⟩
   · simp only[execOp,resolve,invoke,builtin,Sem.run_bind,Sem.run_pure,Result.andThen_ok,f9,c9,fy,ha.ev hs,ha.ev hx,hr]
   subst hsize
   subst hby
   have hl:(ys.flatMap fun x=>(enc x).toList).length=ys.length*i.size:=G5 _ _ hfl ys
   have hm63:xs.length+ys.length≤9223372036854775807:=by simpa[maxLen]using h63
   intro q hq
   obtain⟨hlen,⟨rfl,hn⟩|⟨g',cap,cur,rfl,_,hg,hcap,hcm,hcs,htake⟩⟩:=ho
   · have hr2:=run_append_nil (P:=P) w T ty e i z hT hi hz ⟨B,o,none⟩ ys.length c _ hl hnews hne oQ (by have:ys.length*i.bytes≤(xs.length+ys.length)*i.bytes:=ew _ (by omega);omega)
     rw[hr]at hr2
     cases hr2
     cases hq
     exact .inr (bi _)
   by_cases hroom:xs.length+ys.length≤cap
   · have hr2:=run_append_room (P:=P) w T ty e i hT hi g' xs.length cap cur hg ⟨B,o,none⟩ ys.length c _ hl hnews h1' hroom (by rw[hl,hcs,←e_];exact ew _ hroom)
     rw[hr]at hr2
     cases hr2
     exact .inl hq
   have holds:∀j u,(xs.flatMap fun x=>(enc x).toList)[j]?=some u→w.cell? ((⟨g',0,none⟩:Addr).add j)=some u:=World.ownsRow.cells (g:=g') (show w.ownsRow 0 e i.size (.slice (some ⟨g',0,none⟩) xs.length cap) xs.length _ from⟨hlen,.inr ⟨g',cap,cur,rfl,a_ _,hg,hcap,hcm,hcs,htake⟩⟩) rfl
   have hr2:=run_append_grow (P:=P) w T ty e i z hT hi hz ⟨g',0,none⟩ xs.length cap _ hlen holds ⟨B,o,none⟩ ys.length c _ hl hnews oQ oQ (growslice_fits oQ hbytes)
   rw[hr]at hr2
   cases hr2
   cases hq
   exact .inr (bi _)
 have hys:ys=[]:=dv oQ
 subst hys
 have hrun:(Builtin.append_ #[T,T] ty #[v,.slice ad 0 c]).run P w=.ok v w:=by
   have hsz:∀w,(sizeOf e).run P w=.ok k w:=fun w=>by simp[sizeOf,typeInfo,hi,hsize]
   obtain⟨_,⟨rfl,hn⟩|⟨g',cap,cur,rfl,_,_,hcap,_⟩⟩:=ho
   · cases ad<;>simp[Builtin.append_,run_underlying hT,hsz,Builtin.lenOf,Builtin.firstCells,loadCells,loadCellsFrom,Result.andThen]
   cases ad<;>simp[Builtin.append_,run_underlying hT,hsz,Builtin.lenOf,Builtin.firstCells,loadCells,loadCellsFrom,storeCells,Result.andThen,hcap]
 refine⟨v,w,?_,Fr.refl _ _,(show OwnS w 0 e k enc v (xs++[])by simpa using ho),fun i h=>.inl h⟩
 simp only[execOp,resolve,invoke,builtin,Sem.run_bind,Sem.run_pure,Result.andThen_ok,f9,c9,fy,ha.ev hs,ha.ev hx,bp,hrun]
theorem PEv.sliceFrom{T e:TypeId}{x lo:Operand}{ad:Option Addr}{k m cap j:Nat}(hT:P.underlying T=some (.slice e))(hs:∀w,(sizeOf e).run P w=.ok k w)(hx:Val l x (.slice ad m cap))(hl:Val l lo (.int .i64 (j:Int)))(hj:j≤m):
   PEv P n ds l w ⟨d,.slice T x (some lo) none none,ty,ps,af,g⟩ (.slice (if cap=j then ad else ad.map (·.add (j*k))) (m-j) (cap-j)):=fun a w' ha _=>by
 refine Cy ?_
 rw[ha.ev hx]
 simp only[Option.map_none,gv,ha.ev hl]
 simp[Instr.sliceAt,Instr.slice,Instr.sliceBounds,Instr.sliceBound,asIntOf,run_underlying hT,Result.andThen,hs,hj]
end
def bv(b:UInt8):Value:=.int .u8 (b.toNat:Int)
section
variable {P:Program}{n:Nat}{ds:List Deferred}{l:Env}{w:World}{d:Option Tmp}{ty:TypeId}{ps:String}{af:Array Edge}{g:Option (Nat×Bool)}
theorem PEv.L4{T e:TypeId}{x hi:Operand}{ad:Option Addr}{k m cap j:Nat}(hT:P.underlying T=some (.slice e))(hs:∀w,(sizeOf e).run P w=.ok k w)(hx:Val l x (.slice ad m cap))(hl:Val l hi (.int .i64 (j:Int)))(hj:j≤cap):
   PEv P n ds l w ⟨d,.slice T x none (some hi) none,ty,ps,af,g⟩ (.slice ad j cap):=fun a w' ha _=>by
 refine Cy ?_
 rw[ha.ev hx]
 simp only[Option.map_none,gv,ha.ev hl]
 have h1:(0:Int)≤(j:Int)∧(j:Int)≤(cap:Int):=⟨by omega,by omega⟩
 cases ad with
 |none=>simp[Instr.sliceAt,Instr.slice,Instr.sliceBounds,Instr.sliceBound,asIntOf,run_underlying hT,Result.andThen,h1,hs,hj]
 |some a=>simp[Instr.sliceAt,Instr.slice,Instr.sliceBounds,Instr.sliceBound,asIntOf,run_underlying hT,Result.andThen,h1,hs,Addr.add,hj]
theorem D8{T T':TypeId}{x y:Operand}{a b:ByteArray}(hx:Val l x (.string a))(hy:Val l y (.string b)):PEv P n ds l w ⟨d,.binOp .eql T x y T',ty,ps,af,g⟩ (.bool (a.toList==b.toList)):=fun ac w' ha _=>by
 refine Cy ?_
 rw[ha.ev hx,ha.ev hy,Sem.run_bind]
 have:(eqGuard .eql T x y (.string a) (.string b)).run P w'=.ok () w':=by unfold eqGuard;rfl
 rw[this]
 show(binOp .eql T (.string a) (.string b)).run P w'=_
 rw[binOp_string_eql];rfl
theorem PEv.bO{T T':TypeId}{x y:Operand}{a b:ByteArray}(hx:Val l x (.string a))(hy:Val l y (.string b)):PEv P n ds l w ⟨d,.binOp .neq T x y T',ty,ps,af,g⟩ (.bool (!(a.toList==b.toList))):=fun ac w' ha _=>by
 refine Cy ?_
 rw[ha.ev hx,ha.ev hy,Sem.run_bind]
 have:(eqGuard .neq T x y (.string a) (.string b)).run P w'=.ok () w':=by unfold eqGuard;rfl
 rw[this]
 simp[binOp,Op.stringOp]
def N0(old:Array Value)(o:Nat)(cs:List Value):Array Value:=(old.toList.take o++cs++old.toList.drop (o+cs.length)).toArray
theorem SEv.Ur{T TT:TypeId}{x y:Operand}{B k o:Nat}{cs old:Array Value}(hs:∀w,(sizeOf T).run P w=.ok k w)(hk:cs.size=k)(hx:Val l x (.pointer (some ⟨B,o,none⟩)))(hy:Val l y (.agg cs))(h1:cs.all (·.oneCell')=true)(hb:Blk w B old TT)(ho:o+cs.size≤old.size):
   SEv P n ds l w ⟨none,.store T x y,ty,ps,af,g⟩ (fun w'=>Set_ w w' B (N0 old o cs.toList) TT):=fun a ha=>by
 have hst:=run_storeCells_at P B o TT cs.toList 0 old w hb (by rw[c6];omega) (fun v hv=>(cj.1 h1) v (by simpa using hv))
 refine⟨w.setRow B (N0 old o cs.toList),Pz ?_,Set_.setRow hb⟩
 rw[ha.ev hx,ha.ev hy]
 simp only[Instr.storeAt,Instr.sureAddr,Sem.run_bind,Sem.run_pure,Result.andThen,storeVar,hs,Value.cells]
 rw[f6]at hst
 simp only[hk,N0]
 rw[aq (by simp),hst]
theorem PEv.tr{o:Oper}{b:Bool}(h:PEv P n ds l w o (.bool b))(e:b=true):PEv P n ds l w o (.bool true):=e▸h
theorem PEv.fa{o:Oper}{b:Bool}(h:PEv P n ds l w o (.bool b))(e:b=false):PEv P n ds l w o (.bool false):=e▸h
theorem PEv.addN{T T':TypeId}{x y:Operand}{i j:Nat}(hx:Val l x (.int .i64 (i:Int)))(hy:Val l y (.int .i64 (j:Int)))(h:i+j<9223372036854775807):PEv P n ds l w ⟨d,.binOp .add T x y T',ty,ps,af,g⟩ (.int .i64 ((i+j:Nat):Int)):=by
 have:=PEv.add (P:=P) (n:=n) (ds:=ds) (l:=l) (w:=w) (d:=d) (ty:=ty) (ps:=ps) (af:=af) (g:=g) (T:=T) (T':=T') hx hy oQ oQ
 rw[Int.natCast_add];exact this
theorem PEv.FA{op:BinOp}{T T':TypeId}{x y:Operand}{k k':IntKind}{i j:Int}{v:Value}(hx:Val l x (.int k i))(hy:Val l y (.int k' j))(h:∀w,(binOp op T (.int k i) (.int k' j)).run P w=.ok v w):
   PEv P n ds l w ⟨d,.binOp op T x y T',ty,ps,af,g⟩ v:=fun a w' ha _=>by
 refine Cy ?_
 rw[ha.ev hx,ha.ev hy,Sem.run_bind]
 have:(eqGuard op T x y (.int k i) (.int k' j)).run P w'=.ok () w':=by unfold eqGuard;cases op<;>rfl
 rw[this]
 exact h w'
theorem PEv.FB{T T':TypeId}{x y:Operand}{k k':IntKind}{i:Int}{j:Nat}(hx:Val l x (.int k i))(hy:Val l y (.int k' (j:Int))):PEv P n ds l w ⟨d,.binOp .shl T x y T',ty,ps,af,g⟩ (.int k (k.wrap (i*2^(min j k.bits)))):=.FA hx hy fun w=>by
 have h:¬((j:Int)<0):=by omega
 simp[binOp,Op.shift,h]
theorem PEv.Us{T T':TypeId}{x y:Operand}{k k':IntKind}{i:Int}{j:Nat}(hx:Val l x (.int k i))(hy:Val l y (.int k' (j:Int))):PEv P n ds l w ⟨d,.binOp .shr T x y T',ty,ps,af,g⟩ (.int k (i.fdiv (2^(min j k.bits)))):=.FA hx hy fun w=>by
 have h:¬((j:Int)<0):=by omega
 simp[binOp,Op.shift,h]
theorem iY{T T':TypeId}{x y:Operand}{k:IntKind}{i j:Int}(hx:Val l x (.int k i))(hy:Val l y (.int k j)):PEv P n ds l w ⟨d,.binOp .and T x y T',ty,ps,af,g⟩ (.int k (k.wrap (BitVec.ofInt k.bits i&&&BitVec.ofInt k.bits j).toNat)):=.bin hx hy fun w=>by simp[binOp,Op.intBits]
theorem iZ{T T':TypeId}{x y:Operand}{k:IntKind}{i j:Int}(hx:Val l x (.int k i))(hy:Val l y (.int k j)):PEv P n ds l w ⟨d,.binOp .xor T x y T',ty,ps,af,g⟩ (.int k (k.wrap (BitVec.ofInt k.bits i ^^^ BitVec.ofInt k.bits j).toNat)):=.bin hx hy fun w=>by simp[binOp,Op.intBits]
theorem PEv.conv{T T':TypeId}{x:Operand}{k k':IntKind}{i:Int}(hT:(P.underlying T).isSome=true)(hT':P.underlying T'=some (.int k'))(hx:Val l x (.int k i)):PEv P n ds l w ⟨d,.convert T T' x,ty,ps,af,g⟩ (.int k' (k'.wrap i)):=fun a w' ha _=>by
 refine Cy ?_
 rw[ha.ev hx]
 have hk:P.intKind T'=k':=by simp[Program.intKind,hT']
 have:=run_convert_int (P:=P) (w:=w') T T' k i hT (by rw[hk];exact hT')
 rw[hk]at this
 exact this
end
def fI(n:Int):Nat:=if 0≤n then(2*n).toNat else(-2*n-1).toNat
theorem sC{a b:Int}(h:fI a=fI b):a=b:=by unfold fI at h;split at h<;>split at h<;>omega
theorem bP{a:Int}(h1: -4611686018427387903≤a)(h2:a≤4611686018427387903):fI a<18446744073709551616:=by unfold fI;split<;>omega
def O2:Nat→Nat→List (UInt8×Bool)
 |0,_=>[]
 |k+1,z=>if z<128 then[(UInt8.ofNat z,true)]else(UInt8.ofNat (z%128),false)::O2 k (z/128)
theorem Ut:∀(k j z:Nat),z<128^k→z<128^j→0<k→0<j→O2 k z=O2 j z
 |k+1,j+1,z,h1,h2,_,_=>by
   unfold O2
   split
   · rfl
   rename_i hz
   match k,j with
   |0,_=>simp at h1;omega
   |_,0=>simp at h2;omega
   |k+1,j+1=>
     rw[Ut (k+1) (j+1) (z/128) (by rw[jq (by decide)];rw[Nat.pow_succ]at h1;exact h1) (by rw[jq (by decide)];rw[Nat.pow_succ]at h2;exact h2) oQ (by omega)]
def Rs(z:Nat):List (UInt8×Bool):=O2 10 z
theorem jA{z:Nat}(h:z<128):Rs z=[(UInt8.ofNat z,true)]:=by unfold Rs O2;rw[bg h]
theorem sD{z:Nat}(h:¬z<128)(hz:z<18446744073709551616):Rs z=(UInt8.ofNat (z%128),false)::Rs (z/128):=by
 unfold Rs
 conv=>lhs;unfold O2
 rw[aq h,Ut 9 10 (z/128) oQ oQ cQ (by decide)]
theorem X7:∀(k z:Nat),(O2 k z).length≤k
 |0,_=>bi _
 |k+1,z=>by
   unfold O2
   split
   · simp
   simp only[a8];have:=X7 k (z/128);omega
theorem fJ(z:Nat):(Rs z).length≤10:=X7 10 z
def X8(p:UInt8×Bool):UInt8:=if p.2 then p.1 else p.1|||128
theorem nH{b:Nat}(hb:b<128):(UInt8.ofNat b|||128).toNat=b+128:=by
 rw[UInt8.toNat_or,j1]
 show b%2^8|||2^7=_
 have:=Nat.two_pow_add_eq_or_of_lt (i:=7) (b:=b) oQ 1
 rw[fq]at this
 rw[ig oQ,Nat.or_comm,←this]
 omega
def sE(z:Nat):List UInt8:=(Rs z).map X8
def Oy(a:Int):Prop:= -4611686018427387903≤a∧a≤4611686018427387903
instance (a:Int):Decidable (Oy a):=by unfold Oy;infer_instance
theorem fK{k:Nat}(h:k≤1000000000):Oy (k:Int):=⟨by omega,by omega⟩
def encI(i:Int):List UInt8:=if Oy i then sE (fI i)else[]
theorem N1(i:Int):(encI i).length≤10:=by
 unfold encI
 split
 · unfold sE;rw[ef];exact fJ _
 simp
def nI:List UInt8→Option (Nat×List UInt8)
 |[]=>none
 |b::r=>if b.toNat<128 then some (b.toNat,r)else match nI r with
   |none=>none
   |some (z,s)=>some (b.toNat-128+128*z,s)
theorem Uu:∀(k z:Nat)(r:List UInt8),z<128^k→0<k→nI ((O2 k z).map X8++r)=some (z,r)
 |k+1,z,r,h,_=>by
   unfold O2
   split
   · rename_i hz
     have e:(UInt8.ofNat z).toNat=z:=by rw[j1];omega
     simp only[c9,fy,X8,if_true,eu,d_,nI,e,bg hz]
   rename_i hz
   have e:(UInt8.ofNat (z%128)|||128).toNat=z%128+128:=nH oQ
   match k with
   |0=>simp at h;omega
   |k+1=>
     have ih:=Uu (k+1) (z/128) r (by rw[jq (by decide)];rw[Nat.pow_succ]at h;exact h) oQ
     simp only[c9,X8,j3,if_false,eu,nI,e]
     rw[aq (by omega)]
     rw[ih]
     simp only[Option.some.injEq,Prod.mk.injEq,and_true]
     omega
theorem Uv{z:Nat}(r:List UInt8)(h:z<18446744073709551616):nI (sE z++r)=some (z,r):=Uu 10 z r oQ cQ
theorem Rt{a b:Int}{r s:List UInt8}(ha:Oy a)(hb:Oy b)(h:encI a++r=encI b++s):a=b∧r=s:=by
 have h1:=Uv r (bP ha.1 ha.2)
 have h2:=Uv s (bP hb.1 hb.2)
 rw[encI,encI,bg ha,bg hb]at h
 rw[h,h2]at h1
 simp only[Option.some.injEq,Prod.mk.injEq]at h1
 exact⟨(sC h1.1).symm,h1.2.symm⟩
theorem fL{a:Int}(h:Oy a):encI a≠[]:=by
 rw[encI,bg h]
 unfold sE Rs O2
 split<;>simp
def Cu(l:List Int):List UInt8:=l.flatMap encI
theorem Ht:∀(l:List Int),(Cu l).length≤10*l.length
 |[]=>by simp[Cu]
 |x::l=>by
   have h1:=N1 x
   have h2:=Ht l
   simp only[Cu,cw,am,a8]at h2⊢
   omega
theorem bR{l:List Int}{k:Nat}{x:Int}(h:l[k]?=some x):Cu (l.take (k+1))=Cu (l.take k)++encI x:=by
 obtain⟨hk,e⟩:=ak.1 h
 unfold Cu
 rw[fz,h];simp
theorem bS(l:List Int)(x:Int):Cu (l++[x])=Cu l++encI x:=by simp[Cu]
theorem jB(x:Int):Cu [x]=encI x:=by simp[Cu]
theorem O3:∀{a b:List Int}{r s:List UInt8},(∀x∈a,Oy x)→(∀x∈b,Oy x)→a.length=b.length→Cu a++r=Cu b++s→a=b∧r=s
 |[],[],r,s,_,_,_,h=>⟨rfl,by simpa[Cu]using h⟩
 |x::a,y::b,r,s,ha,hb,hl,h=>by
   simp only[Cu,cw,c_]at h
   obtain⟨h1,h2⟩:=Rt (ha x bu) (hb y bu) h
   obtain⟨h3,h4⟩:=O3 (r:=r) (s:=s) (fun x hx=>ha x (b9 _ hx)) (fun x hx=>hb x (b9 _ hx)) (by simpa using hl) h2
   exact⟨by rw[h1,h3],h4⟩
 |[],_::_,_,_,_,_,hl,_=>by simp at hl
 |_::_,[],_,_,_,_,hl,_=>by simp at hl
def bT(t:List UInt8):List UInt8:=encI (t.length:Int)++t
def vu(z:Nat):Value:=.int .u64 (z:Int)
theorem Gq(i:Int):IntKind.u64.wrap i=i%18446744073709551616:=by rw[IntKind.wrap_u64]
theorem nJ{a:Int}(ha:Oy a):IntKind.u64.wrap (BitVec.ofInt IntKind.u64.bits (IntKind.u64.wrap (IntKind.u64.wrap a*2^(min 1 IntKind.u64.bits))) ^^^ BitVec.ofInt IntKind.u64.bits (IntKind.u64.wrap (a.fdiv (2^(min 63 IntKind.i64.bits))))).toNat=(fI a:Int):=by
 obtain⟨h1,h2⟩:=ha
 have e1:min 1 IntKind.u64.bits=1:=rfl
 have e2:min 63 IntKind.i64.bits=63:=rfl
 rw[e1,e2]
 by_cases h:0≤a
 · have f:a.fdiv (2^63)=0:=by rw[g9 _ (by decide)];omega
   have g0:IntKind.u64.wrap 0=0:=by rw[Gq];rfl
   rw[f,g0]
   have z:fI a=(2*a).toNat:=by unfold fI;rw[bg h]
   rw[z]
   have v:IntKind.u64.wrap (IntKind.u64.wrap a*2^1)=((2*a).toNat:Int):=by rw[Gq,Gq];omega
   rw[v]
   have q:(BitVec.ofInt 64 ((2*a).toNat:Int) ^^^ 0#64).toNat=(2*a).toNat:=by
     rw[BitVec.xor_zero,BitVec.toNat_ofInt];omega
   show IntKind.u64.wrap ((BitVec.ofInt 64 ((2*a).toNat:Int) ^^^ 0#64).toNat:Int)=_
   rw[q,Gq]
   omega
 have f:a.fdiv (2^63)= -1:=by rw[g9 _ (by decide)];omega
 have g0:IntKind.u64.wrap (-1)=18446744073709551615:=by rw[Gq];rfl
 rw[f,g0]
 have z:fI a=(-2*a-1).toNat:=by unfold fI;rw[aq h]
 rw[z]
 have v:IntKind.u64.wrap (IntKind.u64.wrap a*2^1)=18446744073709551616+2*a:=by rw[Gq,Gq];omega
 rw[v]
 have q:(BitVec.ofInt 64 (18446744073709551616+2*a) ^^^ BitVec.allOnes 64).toNat=(-2*a-1).toNat:=by
   rw[BitVec.xor_allOnes,BitVec.toNat_not,BitVec.toNat_ofInt];omega
 show IntKind.u64.wrap ((BitVec.ofInt 64 (18446744073709551616+2*a) ^^^ BitVec.allOnes 64).toNat:Int)=_
 rw[q,Gq]
 omega
theorem xQ{z:Nat}(hz:z<18446744073709551616):IntKind.u64.wrap (BitVec.ofInt IntKind.u64.bits (z:Int)&&&BitVec.ofInt IntKind.u64.bits 127).toNat=((z%128:Nat):Int):=by
 have:(BitVec.ofInt IntKind.u64.bits (z:Int)&&&BitVec.ofInt IntKind.u64.bits 127).toNat=z%128:=by
   have e:BitVec.ofInt IntKind.u64.bits (z:Int)=BitVec.ofNat 64 z:=BitVec.ofInt_natCast 64 z
   rw[e]
   have e2:BitVec.ofInt IntKind.u64.bits 127=BitVec.ofNat 64 127:=rfl
   rw[e2]
   show(BitVec.ofNat 64 z&&&BitVec.ofNat 64 127).toNat=_
   rw[BitVec.toNat_and,BitVec.toNat_ofNat,BitVec.toNat_ofNat,ig (by omega:z<2^64)]
   show z&&&(2^7-1)=z%2^7
   exact Nat.and_two_pow_sub_one_eq_mod z 7
 rw[this,Gq]
 omega
theorem IP{z:Nat}:((z:Int).fdiv (2^(min 7 IntKind.u64.bits)))=((z/128:Nat):Int):=by
 have e1:min 7 IntKind.u64.bits=7:=rfl
 rw[e1,g9 _ (by decide)]
 show(z:Int)/128=_
 omega
theorem sF{z:Nat}:Value.int .u8 (IntKind.u8.wrap (z:Int))=bv (UInt8.ofNat z):=by
 rw[IntKind.wrap_u8]
 unfold bv
 rw[j1]
 congr 1
theorem FC{b:UInt8}:IntKind.u8.wrap (BitVec.ofInt IntKind.u8.bits (b.toNat:Int)|||BitVec.ofInt IntKind.u8.bits 128).toNat=((b|||128).toNat:Int):=by
 have e:(BitVec.ofInt IntKind.u8.bits (b.toNat:Int)|||BitVec.ofInt IntKind.u8.bits 128).toNat=(b|||128).toNat:=by
   have e:BitVec.ofInt IntKind.u8.bits (b.toNat:Int)=BitVec.ofNat 8 b.toNat:=BitVec.ofInt_natCast 8 b.toNat
   rw[e]
   have e2:BitVec.ofInt IntKind.u8.bits 128=BitVec.ofNat 8 128:=rfl
   rw[e2,UInt8.toNat_or]
   show(BitVec.ofNat 8 b.toNat|||BitVec.ofNat 8 128).toNat=_
   rw[BitVec.toNat_or,BitVec.toNat_ofNat,BitVec.toNat_ofNat,ig (UInt8.toNat_lt b)]
   rfl
 rw[e,IntKind.wrap_u8]
 have:=UInt8.toNat_lt (b|||128)
 omega
end Go.Wx
