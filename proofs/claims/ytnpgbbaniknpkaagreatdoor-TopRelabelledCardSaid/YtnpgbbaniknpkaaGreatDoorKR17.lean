import Derived.Test.YtnpgbbaniknpkaaGreatDoorKR16
import Derived.Laws.CopyRow
import Derived.Laws.IdiomStrings
import Derived.Laws.OwnMore
namespace Go.Wx
open Go.RowKit
structure Fr(S:Nat→Prop)(w w':World):Prop where
 os:w'.os=w.os
 tape:w'.tape=w.tape
 output:w'.output=w.output
 size:w.heap.size≤w'.heap.size
 block:∀i,i<w.heap.size→¬S i→w'.heap[i]?=w.heap[i]?
theorem Fr.refl(S:Nat→Prop)(w:World):Fr S w w:=⟨rfl,rfl,rfl,bl _,fun _ _ _=>rfl⟩
theorem Fr.trans{S:Nat→Prop}{a b c:World}(h:Fr S a b)(k:Fr S b c):Fr S a c:=⟨k.os.trans h.os,k.tape.trans h.tape,k.output.trans h.output,bu h.size k.size,fun i hi hs=>(k.block i (fc hi h.size) hs).trans (h.block i hi hs)⟩
theorem Fr.next{S T:Nat→Prop}{a b c:World}(h:Fr S a b)(k:Fr T b c)(hT:∀i,T i→S i∨a.heap.size≤i):Fr S a c:=⟨k.os.trans h.os,k.tape.trans h.tape,k.output.trans h.output,bu h.size k.size,fun i hi hs=>(k.block i (fc hi h.size) (fun h2=>(hT i h2).elim hs (fun h3=>by omega))).trans (h.block i hi hs)⟩
theorem Fr.mono{S T:Nat→Prop}{w w':World}(h:Fr S w w')(hT:∀i,S i→T i):Fr T w w':=⟨h.os,h.tape,h.output,h.size,fun i hi hs=>h.block i hi (fun h2=>hs (hT i h2))⟩
theorem Fr.tS{S:Nat→Prop}{w w':World}(h:Fr S w w')(hS:∀i,¬S i):Up w w':=⟨h.os,h.tape,h.output,h.size,fun i hi=>h.block i hi (hS i)⟩
theorem Up.fr{w w':World}(h:Up w w')(S:Nat→Prop):Fr S w w':=⟨h.os,h.tape,h.output,Up.size h,fun _ hi _=>h.block hi⟩
theorem Sto.fr{B:Nat}{w w':World}(h:Sto B w w'):Fr (· =B) w w':=⟨h.os,h.tape,h.output,h.size,fun i hi hs=>h.block i hi hs⟩
def no:Nat→Prop:=fun _=>False
structure Asr where
 foot:Nat→Prop
 holds:World→Prop
 keep:∀w w',holds w→(∀i,foot i→i<w.heap.size→w'.heap[i]?=w.heap[i]?)→w.heap.size≤w'.heap.size→holds w'
 lt:∀w,holds w→∀i,foot i→i<w.heap.size
def A5(B:Nat)(cs:Array Value)(T:TypeId):Asr:=⟨(· =B),fun w=>Blk w B cs T,fun _ _ h k _=>(k B rfl h.lt).trans h,fun _ h _ e=>by subst e;exact h.lt⟩
theorem OwnS.keeps{α:Type}{enc:α→Array Value}{b k:Nat}{e:TypeId}{w w':World}{v:Value}{xs:List α}(h:OwnS w b e k enc v xs)(hk:∀i,v.ownBlock=some i→i<w.heap.size→w'.heap[i]?=w.heap[i]?):OwnS w' b e k enc v xs:=by
 obtain⟨h1,h2⟩:=h
 refine⟨h1,?_⟩
 rcases h2 with h2|⟨g,cap,cur,rfl,hb,hg,rest⟩
 · exact .inl h2
 exact .inr ⟨g,cap,cur,rfl,hb,(hk g rfl (lt_of_block hg)).trans hg,rest⟩
theorem OwnS.lt{α:Type}{enc:α→Array Value}{b k:Nat}{e:TypeId}{w:World}{v:Value}{xs:List α}(h:OwnS w b e k enc v xs):∀i,v.ownBlock=some i→i<w.heap.size:=by
 obtain⟨h1,h2⟩:=h
 rcases h2 with h2|⟨g,cap,cur,rfl,hb,hg,rest⟩
 · intro i hi;rw[h2.1]at hi;cases hi
 intro i hi;cases hi;exact lt_of_block hg
def Aw{α:Type}(e:TypeId)(k:Nat)(enc:α→Array Value)(v:Value)(xs:List α):Asr:=⟨fun i=>v.ownBlock=some i,fun w=>OwnS w 0 e k enc v xs,fun _ _ h k _=>h.keeps k,fun _ h=>h.lt⟩
structure Sep(S0:Nat→Prop)(w0 w:World)(As:List Asr):Prop where
 fr:Fr S0 w0 w
 each:∀A∈As,A.holds w∧∀i,A.foot i→S0 i∨w0.heap.size≤i
 apart:As.Pairwise fun A B=>∀i,A.foot i→¬B.foot i
theorem Is{α:Type}{r:α→α→Prop}{l:List α}(h:l.Pairwise r){i j:Nat}{a b:α}(hij:i<j)(ha:l[i]?=some a)(hb:l[j]?=some b):r a b:=by
 obtain⟨hi,rfl⟩:=am.1 ha
 obtain⟨hj,rfl⟩:=am.1 hb
 exact dw.1 h i j hi hj hij
section
variable {S0:Nat→Prop}{w0 w w':World}{As:List Asr}{A A':Asr}
theorem Sep.start(S0:Nat→Prop)(w:World):Sep S0 w w []:=⟨Fr.refl _ _,fun _ h=>by simp at h,List.Pairwise.nil⟩
theorem Sep.get(h:Sep S0 w0 w As)(k:Nat)(hk:As[k]?=some A):A.holds w:=(h.each A (ai hk)).1
theorem Sep.size(h:Sep S0 w0 w As):w0.heap.size≤w.heap.size:=h.fr.size
theorem Sep.up(h:Sep S0 w0 w As)(u:Up w w'):Sep S0 w0 w' As:=
 ⟨h.fr.trans (u.fr _),fun A hA=>⟨A.keep w w' (h.each A hA).1 (fun _ _ hi=>u.block hi) (Up.size u),(h.each A hA).2⟩,h.apart⟩
theorem Sep.step(h:Sep S0 w0 w As)(k:Nat)(hk:As[k]?=some A)(fr:Fr A.foot w w')(h':A'.holds w')(sub:∀i,A'.foot i→A.foot i∨w.heap.size≤i):Sep S0 w0 w' (As.set k A'):=by
 have hA:=h.each A (ai hk)
 have hsz:=h.size
 have hne:∀(j:Nat)(B:Asr),As[j]?=some B→j≠k→(∀i,A.foot i→¬B.foot i)∧(∀i,B.foot i→¬A.foot i):=fun j B hj hjk=>by
   rcases Nat.lt_or_gt_of_ne hjk with hl|hl
   · have:=Is h.apart hl hj hk
     exact⟨fun i h1 h2=>this i h2 h1,this⟩
   have:=Is h.apart hl hk hj
   exact⟨this,fun i h1 h2=>this i h2 h1⟩
 have hset:∀(j:Nat)(B:Asr),(As.set k A')[j]?=some B→(j=k∧B=A')∨(j≠k∧As[j]?=some B):=fun j B hj=>by
   rw[gm]at hj
   by_cases e:k=j
   · subst e
     rw[bh rfl]at hj
     split at hj
     · cases hj;exact .inl ⟨rfl,rfl⟩
     cases hj
   rw[aq e]at hj;exact .inr ⟨fun e2=>e e2.symm,hj⟩
 refine⟨h.fr.next fr hA.2,fun B hB=>?_,?_⟩
 · obtain⟨j,hj⟩:=et.1 hB
   rcases hset j B hj with⟨_,rfl⟩|⟨e,hj'⟩
   · exact⟨h',fun i hi=>(sub i hi).elim (hA.2 i) (fun h2=>.inr oQ)⟩
   have h1:=h.each B (ai hj')
   exact⟨B.keep w w' h1.1 (fun i hi hlt=>fr.block i hlt ((hne j B hj' e).2 i hi)) fr.size,h1.2⟩
 rw[dw]
 intro i j hi hj hij
 have hi':=cx hi
 have hj':=cx hj
 rcases hset _ _ hi' with⟨e1,e2⟩|⟨e1,h1⟩<;>rcases hset _ _ hj' with⟨f1,f2⟩|⟨f1,h2⟩
 · omega
 · rw[e2]
   intro x hx hB
   have hlt:=Asr.lt _ w (h.each _ (ai h2)).1 x hB
   exact(sub x hx).elim (fun h3=>(hne _ _ h2 f1).1 x h3 hB) (fun h3=>by omega)
 · rw[f2]
   intro x hx hB
   have hlt:=Asr.lt _ w (h.each _ (ai h1)).1 x hx
   exact(sub x hB).elim (fun h3=>(hne _ _ h1 e1).1 x h3 hx) (fun h3=>by omega)
 exact Is h.apart hij h1 h2
theorem Sep.add(h:Sep S0 w0 w As)(u:Up w w')(h':A'.holds w')(new:∀i,A'.foot i→w.heap.size≤i):Sep S0 w0 w' (As++[A']):=by
 have h2:=h.up u
 have hsz:=h.size
 refine⟨h2.fr,fun B hB=>?_,?_⟩
 · rcases bt.1 hB with h3|h3
   · exact h2.each B h3
   simp at h3;subst h3
   exact⟨h',fun i hi=>.inr (by have:=new i hi;omega)⟩
 rw[cj]
 refine⟨h.apart,f9 _ _,fun B hB C hC i hi hi2=>?_⟩
 simp at hC;subst hC
 have:=Asr.lt B w (h.each B hB).1 i hi
 have:=new i hi2
 omega
theorem Sep.Cg{B:Nat}{cs:Array Value}{T:TypeId}(h:Sep S0 w0 w As)(N:New w w' B cs T):Sep S0 w0 w' (As++[A5 B cs T]):=h.add N.up N.blk (fun i(e:i=B)=>by rw[e,N.at_];exact bl _)
theorem Sep.Ek{B:Nat}{cs cs':Array Value}{T:TypeId}(h:Sep S0 w0 w As)(k:Nat)(hk:As[k]?=some (A5 B cs T))(N:Set_ w w' B cs' T):Sep S0 w0 w' (As.set k (A5 B cs' T)):=h.step k hk N.sto.fr N.blk (fun _ hi=>.inl hi)
theorem Sep.blk{B:Nat}{cs:Array Value}{T:TypeId}(h:Sep S0 w0 w As)(k:Nat)(hk:As[k]?=some (A5 B cs T)):Blk w B cs T:=h.get k hk
theorem Sep.own{α:Type}{e:TypeId}{k':Nat}{enc:α→Array Value}{v:Value}{xs:List α}(h:Sep S0 w0 w As)(k:Nat)(hk:As[k]?=some (Aw e k' enc v xs)):OwnS w 0 e k' enc v xs:=h.get k hk
theorem Sep.cons(h:A.holds w)(hf:∀i,A.foot i→S0 i)(hs:Sep S0 w w As)(hd:∀B∈As,∀i,A.foot i→¬B.foot i):Sep S0 w w (A::As):=
 ⟨hs.fr,fun B hB=>by
   rcases bp.1 hB with e|e
   · subst e;exact⟨h,fun i hi=>.inl (hf i hi)⟩
   exact hs.each B e,List.Pairwise.cons hd hs.apart⟩
theorem Sep.sub{Bs:List Asr}(h:Sep S0 w0 w As)(hs:Bs.Sublist As):Sep S0 w0 w Bs:=⟨h.fr,fun A hA=>h.each A (hs.subset hA),h.apart.sublist hs⟩
theorem Sep.foot(h:Sep S0 w0 w As)(k:Nat)(hk:As[k]?=some A):∀i,A.foot i→S0 i∨w0.heap.size≤i:=(h.each A (ai hk)).2
theorem Sep.ne(h:Sep S0 w0 w As){i j:Nat}{A B:Asr}(hij:i<j)(hi:As[i]?=some A)(hj:As[j]?=some B):∀x,A.foot x→¬B.foot x:=Is h.apart hij hi hj
structure Stp(A A':Asr)(w w':World):Prop where
 fr:Fr A.foot w w'
 holds:A'.holds w'
 sub:∀i,A'.foot i→A.foot i∨w.heap.size≤i
theorem Stp.up{A A':Asr}{w w' w'':World}(h:Stp A A' w w')(u:Up w' w''):Stp A A' w w'':=⟨h.fr.trans (u.fr _),A'.keep _ _ h.holds (fun _ _ hi=>u.block hi) (Up.size u),h.sub⟩
theorem Stp.refl{A:Asr}{w:World}(h:A.holds w):Stp A A w w:=⟨Fr.refl _ _,h,fun _ h=>.inl h⟩
theorem Stp.trans{A B C:Asr}{a b c:World}(h:Stp A B a b)(k:Stp B C b c):Stp A C a c:=⟨h.fr.next k.fr h.sub,k.holds,fun i hi=>(k.sub i hi).elim (fun h2=>h.sub i h2) (fun h2=>.inr (bu h.fr.size h2))⟩
theorem Sep.Fs(h:Sep S0 w0 w As)(k:Nat)(hk:As[k]?=some A)(s:Stp A A' w w'):Sep S0 w0 w' (As.set k A'):=h.step k hk s.fr s.holds s.sub
theorem Sep.take(h:Sep S0 w0 w As)(n:Nat):Sep S0 w0 w (As.take n):=h.sub (List.take_sublist _ _)
theorem OwnS.base{α:Type}{enc:α→Array Value}{b k:Nat}{e:TypeId}{w:World}{v:Value}{xs:List α}(h:OwnS w b e k enc v xs):∀i,v.ownBlock=some i→b≤i:=by
 obtain⟨_,⟨rfl,_⟩|⟨g,cap,cur,rfl,hb,_⟩⟩:=h
 · intro i hi;cases hi
 intro i hi;cases hi;exact hb
theorem Sep.Ch(h:Sep no w0 w As):Up w0 w:=h.fr.tS (fun _ h=>h)
end
theorem REv.mono{P:Program}{n:Nat}{ds:List Deferred}{l:Env}{w:World}{o:Oper}{Post Post':Value→World→Prop}(h:REv P n ds l w o Post)(k:∀v w',Post v w'→Post' v w'):REv P n ds l w o Post':=fun a ha=>let⟨v,w',h1,h2⟩:=h a ha;⟨v,w',h1,k v w' h2⟩
section
variable {P:Program}{n:Nat}{ds:List Deferred}{l:Env}{w:World}{d:Option Tmp}{ty:TypeId}{ps:String}{af:Array Edge}{g:Option (Nat×Bool)}
theorem REv.C3{α:Type}{enc:α→Array Value}{k bytes:Nat}{e T:TypeId}{i:TypeInfo}{z:Value}{s x:Operand}{v xv:Value}{xs ys:List α}(hT:P.underlying T=some (.slice e))(hi:P.info? e=some i)(hz:i.zero=some z)
   (hsize:i.size=k)(hby:i.bytes=bytes)(hzs:z.cells.size=k)(hk0:0<k)(henc:∀x,(enc x).size=k)(h1:∀x,(enc x).all (·.oneCell')=true)(hs:Val l s v)(hx:Val l x xv)(ho:OwnS w 0 e k enc v xs)(hy:Sl w xv k enc ys)
   (h63:xs.length+ys.length≤maxLen)(hbytes:(xs.length+ys.length)*bytes≤140737488355328):
   REv P n ds l w ⟨d,.call { callee:=.builtin .append,args:=#[s,x],argTypes:=#[T,T] },ty,ps,af,g⟩ (fun v' w'=>Stp (Aw e k enc v xs) (Aw e k enc v' (xs++ys)) w w'):=fun a ha=>by
 obtain⟨ad,c,rfl,hE⟩:=hy
 have hfl:∀x,(enc x).toList.length=k:=fun x=>by simp[henc]
 by_cases hne:0<ys.length
 · obtain⟨y0,hy0⟩:=Ae (xs:=ys) (i:=0) hne
   obtain⟨B,o,rfl,_⟩:=hE 0 y0 hy0
   have hnews:∀(j:Nat)(u:Value),(ys.flatMap fun x=>(enc x).toList)[j]?=some u→w.cell? ((⟨B,o,none⟩:Addr).add j)=some u:=fun j u hu=>by
     obtain⟨y,hy1,hy2⟩:=Ol _ k hk0 hfl ys j u hu
     obtain⟨B',o',e',hc⟩:=hE _ y hy1
     cases e'
     have:=hc (j%k) u (by simpa using hy2)
     rw[E3]
     rw[show o+j=o+j/k*k+j%k by have:=js j k;rw[i4]at this;omega]
     exact this
   have h1':∀u∈(ys.flatMap fun x=>(enc x).toList),u.oneCell'=true:=fun u hu=>by
     obtain⟨y,_,hy2⟩:=io.1 hu
     exact(ck.1 (h1 y)) u (by simpa using hy2)
   obtain⟨v',w',hr,h2,h3,_⟩:=run_append_own (P:=P) w 0 T ty e i z k bytes hT hi hz hsize hby hzs hk0 v xs.length _ ho ⟨B,o,none⟩ ys.length c (ys.flatMap fun x=>(enc x).toList) (F0 _ k hfl ys) hnews h1' h63 hbytes (a8 _)
   refine⟨v',w',?_,⟨h3.os,h3.tape,h3.output,h3.size,fun i hi hb=>h3.block i hi (fun e=>hb e.symm)⟩,(show OwnS w' 0 e k enc v' (xs++ys)by simpa[OwnS]using h2),?_⟩
   · simp only[execOp,resolve,invoke,builtin,Sem.run_bind,Sem.run_pure,Result.andThen_ok,f6,c8,fq,ha.ev hs,ha.ev hx,hr]
   subst hsize
   subst hby
   have hl:(ys.flatMap fun x=>(enc x).toList).length=ys.length*i.size:=F0 _ _ hfl ys
   have hm63:xs.length+ys.length≤9223372036854775807:=by simpa[maxLen]using h63
   intro q hq
   obtain⟨hlen,⟨rfl,hn⟩|⟨g',cap,cur,rfl,_,hg,hcap,hcm,hcs,htake⟩⟩:=ho
   · have hr2:=run_append_nil (P:=P) w T ty e i z hT hi hz ⟨B,o,none⟩ ys.length c _ hl hnews hne oQ (by have:ys.length*i.bytes≤(xs.length+ys.length)*i.bytes:=fi _ (by omega);omega)
     rw[hr]at hr2
     cases hr2
     cases hq
     exact .inr (bl _)
   by_cases hroom:xs.length+ys.length≤cap
   · have hr2:=run_append_room (P:=P) w T ty e i hT hi g' xs.length cap cur hg ⟨B,o,none⟩ ys.length c _ hl hnews h1' hroom (by rw[hl,hcs,←eu];exact fi _ hroom)
     rw[hr]at hr2
     cases hr2
     exact .inl hq
   have holds:∀j u,(xs.flatMap fun x=>(enc x).toList)[j]?=some u→w.cell? ((⟨g',0,none⟩:Addr).add j)=some u:=World.ownsRow.cells (g:=g') (show w.ownsRow 0 e i.size (.slice (some ⟨g',0,none⟩) xs.length cap) xs.length _ from⟨hlen,.inr ⟨g',cap,cur,rfl,a8 _,hg,hcap,hcm,hcs,htake⟩⟩) rfl
   have hr2:=run_append_grow (P:=P) w T ty e i z hT hi hz ⟨g',0,none⟩ xs.length cap _ hlen holds ⟨B,o,none⟩ ys.length c _ hl hnews oQ oQ (growslice_fits oQ hbytes)
   rw[hr]at hr2
   cases hr2
   cases hq
   exact .inr (bl _)
 have hys:ys=[]:=dl oQ
 subst hys
 have hrun:(Builtin.append_ #[T,T] ty #[v,.slice ad 0 c]).run P w=.ok v w:=by
   have hsz:∀w,(sizeOf e).run P w=.ok k w:=fun w=>by simp[sizeOf,typeInfo,hi,hsize]
   obtain⟨_,⟨rfl,hn⟩|⟨g',cap,cur,rfl,_,_,hcap,_⟩⟩:=ho
   · cases ad<;>simp[Builtin.append_,run_underlying hT,hsz,Builtin.lenOf,Builtin.firstCells,loadCells,loadCellsFrom,Result.andThen]
   cases ad<;>simp[Builtin.append_,run_underlying hT,hsz,Builtin.lenOf,Builtin.firstCells,loadCells,loadCellsFrom,storeCells,Result.andThen,hcap]
 refine⟨v,w,?_,Fr.refl _ _,(show OwnS w 0 e k enc v (xs++[])by simpa using ho),fun i h=>.inl h⟩
 simp only[execOp,resolve,invoke,builtin,Sem.run_bind,Sem.run_pure,Result.andThen_ok,f6,c8,fq,ha.ev hs,ha.ev hx,bw,hrun]
theorem Sq{T e:TypeId}{x hi mx:Operand}{ad:Option Addr}{k m cap j:Nat}(hT:P.underlying T=some (.slice e))(hs:∀w,(sizeOf e).run P w=.ok k w)(hx:Val l x (.slice ad m cap))(hl:Val l hi (.int .i64 (j:Int)))(hm:Val l mx (.int .i64 (j:Int)))(hj:j≤cap):
   PEv P n ds l w ⟨d,.slice T x none (some hi) (some mx),ty,ps,af,g⟩ (.slice ad j j):=fun a w' ha _=>by
 refine C0 ?_
 rw[ha.ev hx]
 simp only[kq,ga,ha.ev hl,ha.ev hm]
 cases ad with
 |none=>simp[Instr.sliceAt,Instr.slice,Instr.sliceBounds,Instr.sliceBound,asIntOf,run_underlying hT,Result.andThen,hs,hj]
 |some a=>simp[Instr.sliceAt,Instr.slice,Instr.sliceBounds,Instr.sliceBound,asIntOf,run_underlying hT,Result.andThen,hs,Addr.add,hj]
theorem PEv.sliceFrom{T e:TypeId}{x lo:Operand}{ad:Option Addr}{k m cap j:Nat}(hT:P.underlying T=some (.slice e))(hs:∀w,(sizeOf e).run P w=.ok k w)(hx:Val l x (.slice ad m cap))(hl:Val l lo (.int .i64 (j:Int)))(hj:j≤m):
   PEv P n ds l w ⟨d,.slice T x (some lo) none none,ty,ps,af,g⟩ (.slice (if cap=j then ad else ad.map (·.add (j*k))) (m-j) (cap-j)):=fun a w' ha _=>by
 refine C0 ?_
 rw[ha.ev hx]
 simp only[kq,ga,ha.ev hl]
 simp[Instr.sliceAt,Instr.slice,Instr.sliceBounds,Instr.sliceBound,asIntOf,run_underlying hT,Result.andThen,hs,hj]
theorem Els.drop{α:Type}{enc:α→Array Value}{ad:Option Addr}{k cap j:Nat}{xs:List α}(h:Els w ad k enc xs)(hc:xs.length≤cap):Sl w (.slice (if cap=j then ad else ad.map (·.add (j*k))) (xs.length-j) (cap-j)) k enc (xs.drop j):=by
 refine⟨_,_,by rw[kl],fun i x hx=>?_⟩
 rw[ge]at hx
 have hlt:=(am.1 hx).1
 obtain⟨B,o,rfl,hc2⟩:=h _ x hx
 rw[aq (by omega)]
 refine⟨B,o+j*k,by rw[ga,E3],?_⟩
 rw[eu,←Nat.add_assoc]at hc2
 exact hc2
theorem Els.take{α:Type}{enc:α→Array Value}{ad:Option Addr}{k j:Nat}{xs:List α}(h:Els w ad k enc xs):Els w ad k enc (xs.take j):=fun i x hx=>by
 rw[fp]at hx
 split at hx
 · exact h i x hx
 cases hx
theorem Jv{α:Type}{enc:α→Array Value}{k bytes:Nat}{e T:TypeId}{i:TypeInfo}{z:Value}{s x:Operand}{xv:Value}{ad:Option Addr}{xs ys:List α}(hT:P.underlying T=some (.slice e))(hi:P.info? e=some i)(hz:i.zero=some z)
   (hsize:i.size=k)(hby:i.bytes=bytes)(hzs:z.cells.size=k)(hk0:0<k)(henc:∀x,(enc x).size=k)(hs:Val l s (.slice ad xs.length xs.length))(hx:Val l x xv)(hE:Els w ad k enc xs)(hy:Sl w xv k enc ys)
   (h63:xs.length+ys.length≤maxLen)(hbytes:(xs.length+ys.length)*bytes≤140737488355328):
   REv P n ds l w ⟨d,.call { callee:=.builtin .append,args:=#[s,x],argTypes:=#[T,T] },ty,ps,af,g⟩ (fun v' w'=>Up w w'∧Sl w' v' k enc (xs++ys)∧(0<ys.length→OwnS w' w.heap.size e k enc v' (xs++ys))):=by
 subst hsize
 subst hby
 obtain⟨ad2,c,rfl,hE2⟩:=hy
 have hfl:∀x,(enc x).toList.length=i.size:=fun x=>by simp[henc]
 have fin:∀v' w',(Builtin.append_ #[T,T] ty #[.slice ad xs.length xs.length,.slice ad2 ys.length c]).run P w=.ok v' w'→Up w w'∧Sl w' v' i.size enc (xs++ys)∧(0<ys.length→OwnS w' w.heap.size e i.size enc v' (xs++ys))→REv P n ds l w ⟨d,.call { callee:=.builtin .append,args:=#[s,x],argTypes:=#[T,T] },ty,ps,af,g⟩ (fun v' w'=>Up w w'∧Sl w' v' i.size enc (xs++ys)∧(0<ys.length→OwnS w' w.heap.size e i.size enc v' (xs++ys))):=fun v' w' hrun hp a ha=>by
   refine⟨v',w',?_,hp⟩
   simp only[execOp,resolve,invoke,builtin,Sem.run_bind,Sem.run_pure,Result.andThen_ok,f6,c8,fq,ha.ev hs,ha.ev hx,hrun]
 have cells:∀{B o:Nat}{zs:List α},Els w (some ⟨B,o,none⟩) i.size enc zs→∀(j:Nat)(u:Value),(zs.flatMap fun x=>(enc x).toList)[j]?=some u→w.cell? ((⟨B,o,none⟩:Addr).add j)=some u:=fun{B o zs}hz j u hu=>by
   obtain⟨y,hy1,hy2⟩:=Ol _ i.size hk0 hfl zs j u hu
   obtain⟨B1,o1,e1,hc⟩:=hz _ y hy1
   cases e1
   have:=hc (j%i.size) u (by simpa using hy2)
   rw[E3]
   rw[show o+j=o+j/i.size*i.size+j%i.size by have:=js j i.size;rw[i4]at this;omega]
   exact this
 have hlx:=F0 (fun x=>(enc x).toList) i.size hfl xs
 have hly:=F0 (fun x=>(enc x).toList) i.size hfl ys
 by_cases hne:0<ys.length
 · obtain⟨y0,hy0⟩:=Ae (xs:=ys) (i:=0) hne
   obtain⟨B',o,rfl,_⟩:=hE2 0 y0 hy0
   have big:∀v',(Builtin.append_ #[T,T] ty #[.slice ad xs.length xs.length,.slice (some ⟨B',o,none⟩) ys.length c]).run P w=.ok (.slice (some ⟨w.heap.size,0,none⟩) (xs.length+ys.length) (grownCap w (xs.length+ys.length) xs.length e)) (w.drew.alloc (.cells ((xs.flatMap fun x=>(enc x).toList).toArray++(ys.flatMap fun x=>(enc x).toList).toArray++Builtin.zeroCells z.cells (grownCap w (xs.length+ys.length) xs.length e-(xs.length+ys.length))) e))→v'=Value.slice (some ⟨w.heap.size,0,none⟩) (xs.length+ys.length) (grownCap w (xs.length+ys.length) xs.length e)→REv P n ds l w ⟨d,.call { callee:=.builtin .append,args:=#[s,x],argTypes:=#[T,T] },ty,ps,af,g⟩ (fun v' w'=>Up w w'∧Sl w' v' i.size enc (xs++ys)∧(0<ys.length→OwnS w' w.heap.size e i.size enc v' (xs++ys))):=fun v' hr _=>by
     have own:OwnS (w.drew.alloc (.cells ((xs.flatMap fun x=>(enc x).toList).toArray++(ys.flatMap fun x=>(enc x).toList).toArray++Builtin.zeroCells z.cells (grownCap w (xs.length+ys.length) xs.length e-(xs.length+ys.length))) e)) w.heap.size e i.size enc (.slice (some ⟨w.heap.size,0,none⟩) (xs.length+ys.length) (grownCap w (xs.length+ys.length) xs.length e)) (xs++ys):=by
       refine⟨by rw[iq,ak,hlx,hly,ak,eu],.inr ⟨w.heap.size,_,_,by rw[ak],bl _,heap_alloc_new w.drew _,by rw[ak];exact grownCap_ge w _ _ e,grownCap_le_maxLen w _ _ e h63,?_,?_⟩⟩
       · simp only[Array.size_append,i6,size_zeroCells,hzs,hlx,hly,←eu]
         congr 1
         have:=grownCap_ge w (xs.length+ys.length) xs.length e
         omega
       simp only[Array.toList_append]
       rw[iq,ak,eu,←hlx,←hly,←ak]
       exact kz
     exact fin _ _ hr ⟨(Up.drew w).trans (Up.alloc _ _),own.sl henc,fun _=>own⟩
   cases ad with
   |none=>
     have hxs:xs=[]:=by
       cases xs with
       |nil=>rfl
       |cons x r=>obtain⟨B,o,e,_⟩:=hE 0 x rfl;cases e
     subst hxs
     refine big _ ?_ rfl
     have hr:=run_append_nil (P:=P) w T ty e i z hT hi hz ⟨B',o,none⟩ ys.length c _ hly (cells hE2) hne (by simp only[maxLen]at h63;simp at h63;omega) (by simp at hbytes;omega)
     simp only[bw,dp,List.flatMap_nil]
     rw[hr]
     simp
   |some a=>
     refine big _ ?_ rfl
     refine run_append_grow (P:=P) w T ty e i z hT hi hz a xs.length xs.length _ hlx (fun j u hu=>?_) ⟨B',o,none⟩ ys.length c _ hly (cells hE2) oQ (by simp only[maxLen]at h63;omega) (growslice_fits oQ hbytes)
     have h0:0<xs.length:=by
       rcases Nat.eq_zero_or_pos xs.length with h|h
       · have:xs=[]:=dl h
         subst this;simp at hu
       exact h
     obtain⟨x0,hx0⟩:=Ae (xs:=xs) (i:=0) h0
     obtain⟨B,o2,e2,_⟩:=hE 0 x0 hx0
     cases e2
     exact cells hE j u hu
 have hys:ys=[]:=dl oQ
 subst hys
 refine fin (.slice ad xs.length xs.length) w ?_ ⟨Up.refl w,by rw[dk];exact Ay hE,fun h=>absurd h hne⟩
 have hsz:∀w,(sizeOf e).run P w=.ok i.size w:=fun w=>by simp[sizeOf,typeInfo,hi]
 cases ad<;>cases ad2<;>simp[Builtin.append_,run_underlying hT,hsz,Builtin.lenOf,Builtin.firstCells,loadCells,loadCellsFrom,storeCells,Result.andThen]
end
theorem tT{α:Type}{enc:α→Array Value}{b k n cp:Nat}{e:TypeId}{w:World}{ad:Option Addr}{xs:List α}(h:OwnS w b e k enc (.slice ad n cp) xs):xs.length≤cp:=by
 obtain⟨_,⟨e1,e2⟩|⟨g,cap,cur,e1,_,_,hc,_⟩⟩:=h
 · cases e1;omega
 cases e1;exact hc
def bv(b:UInt8):Value:=.int .u8 (b.toNat:Int)
section
variable {P:Program}{n:Nat}{ds:List Deferred}{l:Env}{w:World}{d:Option Tmp}{ty:TypeId}{ps:String}{af:Array Edge}{g:Option (Nat×Bool)}
theorem PEv.Ow{T e:TypeId}{x hi:Operand}{ad:Option Addr}{k m cap j:Nat}(hT:P.underlying T=some (.slice e))(hs:∀w,(sizeOf e).run P w=.ok k w)(hx:Val l x (.slice ad m cap))(hl:Val l hi (.int .i64 (j:Int)))(hj:j≤cap):
   PEv P n ds l w ⟨d,.slice T x none (some hi) none,ty,ps,af,g⟩ (.slice ad j cap):=fun a w' ha _=>by
 refine C0 ?_
 rw[ha.ev hx]
 simp only[kq,ga,ha.ev hl]
 have h1:(0:Int)≤(j:Int)∧(j:Int)≤(cap:Int):=⟨by omega,by omega⟩
 cases ad with
 |none=>simp[Instr.sliceAt,Instr.slice,Instr.sliceBounds,Instr.sliceBound,asIntOf,run_underlying hT,Result.andThen,h1,hs,hj]
 |some a=>simp[Instr.sliceAt,Instr.slice,Instr.sliceBounds,Instr.sliceBound,asIntOf,run_underlying hT,Result.andThen,h1,hs,Addr.add,hj]
theorem Eg{T T':TypeId}{x y:Operand}{a b:ByteArray}(hx:Val l x (.string a))(hy:Val l y (.string b)):PEv P n ds l w ⟨d,.binOp .eql T x y T',ty,ps,af,g⟩ (.bool (a.toList==b.toList)):=fun ac w' ha _=>by
 refine C0 ?_
 rw[ha.ev hx,ha.ev hy,Sem.run_bind]
 have:(eqGuard .eql T x y (.string a) (.string b)).run P w'=.ok () w':=by unfold eqGuard;rfl
 rw[this]
 show(binOp .eql T (.string a) (.string b)).run P w'=_
 rw[binOp_string_eql];rfl
theorem PEv.cZ{T T':TypeId}{x y:Operand}{a b:ByteArray}(hx:Val l x (.string a))(hy:Val l y (.string b)):PEv P n ds l w ⟨d,.binOp .neq T x y T',ty,ps,af,g⟩ (.bool (!(a.toList==b.toList))):=fun ac w' ha _=>by
 refine C0 ?_
 rw[ha.ev hx,ha.ev hy,Sem.run_bind]
 have:(eqGuard .neq T x y (.string a) (.string b)).run P w'=.ok () w':=by unfold eqGuard;rfl
 rw[this]
 simp[binOp,Op.stringOp]
def Ox(old:Array Value)(o:Nat)(cs:List Value):Array Value:=(old.toList.take o++cs++old.toList.drop (o+cs.length)).toArray
theorem SEv.Vj{T TT:TypeId}{x y:Operand}{B k o:Nat}{cs old:Array Value}(hs:∀w,(sizeOf T).run P w=.ok k w)(hk:cs.size=k)(hx:Val l x (.pointer (some ⟨B,o,none⟩)))(hy:Val l y (.agg cs))(h1:cs.all (·.oneCell')=true)(hb:Blk w B old TT)(ho:o+cs.size≤old.size):
   SEv P n ds l w ⟨none,.store T x y,ty,ps,af,g⟩ (fun w'=>Set_ w w' B (Ox old o cs.toList) TT):=fun a ha=>by
 have hst:=run_storeCells_at P B o TT cs.toList 0 old w hb (by rw[c9];omega) (fun v hv=>(ck.1 h1) v (by simpa using hv))
 refine⟨w.setRow B (Ox old o cs.toList),Qu ?_,Set_.setRow hb⟩
 rw[ha.ev hx,ha.ev hy]
 simp only[Instr.storeAt,Instr.sureAddr,Sem.run_bind,Sem.run_pure,Result.andThen,storeVar,hs,Value.cells]
 rw[fo]at hst
 simp only[hk,Ox]
 rw[aq (by simp),hst]
theorem PEv.tr{o:Oper}{b:Bool}(h:PEv P n ds l w o (.bool b))(e:b=true):PEv P n ds l w o (.bool true):=e▸h
theorem PEv.fa{o:Oper}{b:Bool}(h:PEv P n ds l w o (.bool b))(e:b=false):PEv P n ds l w o (.bool false):=e▸h
theorem PEv.addN{T T':TypeId}{x y:Operand}{i j:Nat}(hx:Val l x (.int .i64 (i:Int)))(hy:Val l y (.int .i64 (j:Int)))(h:i+j<9223372036854775807):PEv P n ds l w ⟨d,.binOp .add T x y T',ty,ps,af,g⟩ (.int .i64 ((i+j:Nat):Int)):=by
 have:=PEv.add (P:=P) (n:=n) (ds:=ds) (l:=l) (w:=w) (d:=d) (ty:=ty) (ps:=ps) (af:=af) (g:=g) (T:=T) (T':=T') hx hy oQ oQ
 rw[Int.natCast_add];exact this
theorem PEv.GS{op:BinOp}{T T':TypeId}{x y:Operand}{k k':IntKind}{i j:Int}{v:Value}(hx:Val l x (.int k i))(hy:Val l y (.int k' j))(h:∀w,(binOp op T (.int k i) (.int k' j)).run P w=.ok v w):
   PEv P n ds l w ⟨d,.binOp op T x y T',ty,ps,af,g⟩ v:=fun a w' ha _=>by
 refine C0 ?_
 rw[ha.ev hx,ha.ev hy,Sem.run_bind]
 have:(eqGuard op T x y (.int k i) (.int k' j)).run P w'=.ok () w':=by unfold eqGuard;cases op<;>rfl
 rw[this]
 exact h w'
theorem PEv.GU{T T':TypeId}{x y:Operand}{k k':IntKind}{i:Int}{j:Nat}(hx:Val l x (.int k i))(hy:Val l y (.int k' (j:Int))):PEv P n ds l w ⟨d,.binOp .shl T x y T',ty,ps,af,g⟩ (.int k (k.wrap (i*2^(min j k.bits)))):=.GS hx hy fun w=>by
 have h:¬((j:Int)<0):=by omega
 simp[binOp,Op.shift,h]
theorem PEv.Vk{T T':TypeId}{x y:Operand}{k k':IntKind}{i:Int}{j:Nat}(hx:Val l x (.int k i))(hy:Val l y (.int k' (j:Int))):PEv P n ds l w ⟨d,.binOp .shr T x y T',ty,ps,af,g⟩ (.int k (i.fdiv (2^(min j k.bits)))):=.GS hx hy fun w=>by
 have h:¬((j:Int)<0):=by omega
 simp[binOp,Op.shift,h]
theorem kG{T T':TypeId}{x y:Operand}{k:IntKind}{i j:Int}(hx:Val l x (.int k i))(hy:Val l y (.int k j)):PEv P n ds l w ⟨d,.binOp .and T x y T',ty,ps,af,g⟩ (.int k (k.wrap (BitVec.ofInt k.bits i&&&BitVec.ofInt k.bits j).toNat)):=.bin hx hy fun w=>by simp[binOp,Op.intBits]
theorem kH{T T':TypeId}{x y:Operand}{k:IntKind}{i j:Int}(hx:Val l x (.int k i))(hy:Val l y (.int k j)):PEv P n ds l w ⟨d,.binOp .xor T x y T',ty,ps,af,g⟩ (.int k (k.wrap (BitVec.ofInt k.bits i ^^^ BitVec.ofInt k.bits j).toNat)):=.bin hx hy fun w=>by simp[binOp,Op.intBits]
theorem PEv.conv{T T':TypeId}{x:Operand}{k k':IntKind}{i:Int}(hT:(P.underlying T).isSome=true)(hT':P.underlying T'=some (.int k'))(hx:Val l x (.int k i)):PEv P n ds l w ⟨d,.convert T T' x,ty,ps,af,g⟩ (.int k' (k'.wrap i)):=fun a w' ha _=>by
 refine C0 ?_
 rw[ha.ev hx]
 have hk:P.intKind T'=k':=by simp[Program.intKind,hT']
 have:=run_convert_int (P:=P) (w:=w') T T' k i hT (by rw[hk];exact hT')
 rw[hk]at this
 exact this
end
def gQ(n:Int):Nat:=if 0≤n then(2*n).toNat else(-2*n-1).toNat
theorem tU{a b:Int}(h:gQ a=gQ b):a=b:=by unfold gQ at h;split at h<;>split at h<;>omega
theorem dA{a:Int}(h1: -4611686018427387903≤a)(h2:a≤4611686018427387903):gQ a<18446744073709551616:=by unfold gQ;split<;>omega
def Pw:Nat→Nat→List (UInt8×Bool)
 |0,_=>[]
 |k+1,z=>if z<128 then[(UInt8.ofNat z,true)]else(UInt8.ofNat (z%128),false)::Pw k (z/128)
theorem Vl:∀(k j z:Nat),z<128^k→z<128^j→0<k→0<j→Pw k z=Pw j z
 |k+1,j+1,z,h1,h2,_,_=>by
   unfold Pw
   split
   · rfl
   rename_i hz
   match k,j with
   |0,_=>simp at h1;omega
   |_,0=>simp at h2;omega
   |k+1,j+1=>
     rw[Vl (k+1) (j+1) (z/128) (by rw[ju (by decide)];rw[Nat.pow_succ]at h1;exact h1) (by rw[ju (by decide)];rw[Nat.pow_succ]at h2;exact h2) oQ (by omega)]
def Sr(z:Nat):List (UInt8×Bool):=Pw 10 z
theorem kJ{z:Nat}(h:z<128):Sr z=[(UInt8.ofNat z,true)]:=by unfold Sr Pw;rw[bh h]
theorem tV{z:Nat}(h:¬z<128)(hz:z<18446744073709551616):Sr z=(UInt8.ofNat (z%128),false)::Sr (z/128):=by
 unfold Sr
 conv=>lhs;unfold Pw
 rw[aq h,Vl 9 10 (z/128) oQ oQ cQ (by decide)]
theorem Y1:∀(k z:Nat),(Pw k z).length≤k
 |0,_=>bl _
 |k+1,z=>by
   unfold Pw
   split
   · simp
   simp only[bg];have:=Y1 k (z/128);omega
theorem gR(z:Nat):(Sr z).length≤10:=Y1 10 z
def Y2(p:UInt8×Bool):UInt8:=if p.2 then p.1 else p.1|||128
theorem oX{b:Nat}(hb:b<128):(UInt8.ofNat b|||128).toNat=b+128:=by
 rw[UInt8.toNat_or,j6]
 show b%2^8|||2^7=_
 have:=Nat.two_pow_add_eq_or_of_lt (i:=7) (b:=b) oQ 1
 rw[fz]at this
 rw[im oQ,Nat.or_comm,←this]
 omega
def tW(z:Nat):List UInt8:=(Sr z).map Y2
def Ps(a:Int):Prop:= -4611686018427387903≤a∧a≤4611686018427387903
instance (a:Int):Decidable (Ps a):=by unfold Ps;infer_instance
theorem gS{k:Nat}(h:k≤1000000000):Ps (k:Int):=⟨by omega,by omega⟩
def encI(i:Int):List UInt8:=if Ps i then tW (gQ i)else[]
theorem Oy(i:Int):(encI i).length≤10:=by
 unfold encI
 split
 · unfold tW;rw[dv];exact gR _
 simp
def oY:List UInt8→Option (Nat×List UInt8)
 |[]=>none
 |b::r=>if b.toNat<128 then some (b.toNat,r)else match oY r with
   |none=>none
   |some (z,s)=>some (b.toNat-128+128*z,s)
theorem Vm:∀(k z:Nat)(r:List UInt8),z<128^k→0<k→oY ((Pw k z).map Y2++r)=some (z,r)
 |k+1,z,r,h,_=>by
   unfold Pw
   split
   · rename_i hz
     have e:(UInt8.ofNat z).toNat=z:=by rw[j6];omega
     simp only[c8,fq,Y2,if_true,e_,du,oY,e,bh hz]
   rename_i hz
   have e:(UInt8.ofNat (z%128)|||128).toNat=z%128+128:=oX oQ
   match k with
   |0=>simp at h;omega
   |k+1=>
     have ih:=Vm (k+1) (z/128) r (by rw[ju (by decide)];rw[Nat.pow_succ]at h;exact h) oQ
     simp only[c8,Y2,j7,if_false,e_,oY,e]
     rw[aq (by omega)]
     rw[ih]
     simp only[Option.some.injEq,Prod.mk.injEq,and_true]
     omega
theorem Vn{z:Nat}(r:List UInt8)(h:z<18446744073709551616):oY (tW z++r)=some (z,r):=Vm 10 z r oQ cQ
theorem Ss{a b:Int}{r s:List UInt8}(ha:Ps a)(hb:Ps b)(h:encI a++r=encI b++s):a=b∧r=s:=by
 have h1:=Vn r (dA ha.1 ha.2)
 have h2:=Vn s (dA hb.1 hb.2)
 rw[encI,encI,bh ha,bh hb]at h
 rw[h,h2]at h1
 simp only[Option.some.injEq,Prod.mk.injEq]at h1
 exact⟨(tU h1.1).symm,h1.2.symm⟩
theorem gT{a:Int}(h:Ps a):encI a≠[]:=by
 rw[encI,bh h]
 unfold tW Sr Pw
 split<;>simp
def Cw(l:List Int):List UInt8:=l.flatMap encI
theorem Hx:∀(l:List Int),(Cw l).length≤10*l.length
 |[]=>by simp[Cw]
 |x::l=>by
   have h1:=Oy x
   have h2:=Hx l
   simp only[Cw,cw,ak,bg]at h2⊢
   omega
theorem dB{l:List Int}{k:Nat}{x:Int}(h:l[k]?=some x):Cw (l.take (k+1))=Cw (l.take k)++encI x:=by
 obtain⟨hk,e⟩:=am.1 h
 unfold Cw
 rw[f8,h];simp
theorem dC(l:List Int)(x:Int):Cw (l++[x])=Cw l++encI x:=by simp[Cw]
theorem kK(x:Int):Cw [x]=encI x:=by simp[Cw]
theorem Px:∀{a b:List Int}{r s:List UInt8},(∀x∈a,Ps x)→(∀x∈b,Ps x)→a.length=b.length→Cw a++r=Cw b++s→a=b∧r=s
 |[],[],r,s,_,_,_,h=>⟨rfl,by simpa[Cw]using h⟩
 |x::a,y::b,r,s,ha,hb,hl,h=>by
   simp only[Cw,cw,c6]at h
   obtain⟨h1,h2⟩:=Ss (ha x b7) (hb y b7) h
   obtain⟨h3,h4⟩:=Px (r:=r) (s:=s) (fun x hx=>ha x (b_ _ hx)) (fun x hx=>hb x (b_ _ hx)) (by simpa using hl) h2
   exact⟨by rw[h1,h3],h4⟩
 |[],_::_,_,_,_,_,hl,_=>by simp at hl
 |_::_,[],_,_,_,_,hl,_=>by simp at hl
def dD(t:List UInt8):List UInt8:=encI (t.length:Int)++t
def vu(z:Nat):Value:=.int .u64 (z:Int)
theorem Gz(i:Int):IntKind.u64.wrap i=i%18446744073709551616:=by rw[IntKind.wrap_u64]
theorem oZ{a:Int}(ha:Ps a):IntKind.u64.wrap (BitVec.ofInt IntKind.u64.bits (IntKind.u64.wrap (IntKind.u64.wrap a*2^(min 1 IntKind.u64.bits))) ^^^ BitVec.ofInt IntKind.u64.bits (IntKind.u64.wrap (a.fdiv (2^(min 63 IntKind.i64.bits))))).toNat=(gQ a:Int):=by
 obtain⟨h1,h2⟩:=ha
 have e1:min 1 IntKind.u64.bits=1:=rfl
 have e2:min 63 IntKind.i64.bits=63:=rfl
 rw[e1,e2]
 by_cases h:0≤a
 · have f:a.fdiv (2^63)=0:=by rw[ij _ (by decide)];omega
   have g0:IntKind.u64.wrap 0=0:=by rw[Gz];rfl
   rw[f,g0]
   have z:gQ a=(2*a).toNat:=by unfold gQ;rw[bh h]
   rw[z]
   have v:IntKind.u64.wrap (IntKind.u64.wrap a*2^1)=((2*a).toNat:Int):=by rw[Gz,Gz];omega
   rw[v]
   have q:(BitVec.ofInt 64 ((2*a).toNat:Int) ^^^ 0#64).toNat=(2*a).toNat:=by
     rw[BitVec.xor_zero,BitVec.toNat_ofInt];omega
   show IntKind.u64.wrap ((BitVec.ofInt 64 ((2*a).toNat:Int) ^^^ 0#64).toNat:Int)=_
   rw[q,Gz]
   omega
 have f:a.fdiv (2^63)= -1:=by rw[ij _ (by decide)];omega
 have g0:IntKind.u64.wrap (-1)=18446744073709551615:=by rw[Gz];rfl
 rw[f,g0]
 have z:gQ a=(-2*a-1).toNat:=by unfold gQ;rw[aq h]
 rw[z]
 have v:IntKind.u64.wrap (IntKind.u64.wrap a*2^1)=18446744073709551616+2*a:=by rw[Gz,Gz];omega
 rw[v]
 have q:(BitVec.ofInt 64 (18446744073709551616+2*a) ^^^ BitVec.allOnes 64).toNat=(-2*a-1).toNat:=by
   rw[BitVec.xor_allOnes,BitVec.toNat_not,BitVec.toNat_ofInt];omega
 show IntKind.u64.wrap ((BitVec.ofInt 64 (18446744073709551616+2*a) ^^^ BitVec.allOnes 64).toNat:Int)=_
 rw[q,Gz]
 omega
theorem zI{z:Nat}(hz:z<18446744073709551616):IntKind.u64.wrap (BitVec.ofInt IntKind.u64.bits (z:Int)&&&BitVec.ofInt IntKind.u64.bits 127).toNat=((z%128:Nat):Int):=by
 have:(BitVec.ofInt IntKind.u64.bits (z:Int)&&&BitVec.ofInt IntKind.u64.bits 127).toNat=z%128:=by
   have e:BitVec.ofInt IntKind.u64.bits (z:Int)=BitVec.ofNat 64 z:=BitVec.ofInt_natCast 64 z
   rw[e]
   have e2:BitVec.ofInt IntKind.u64.bits 127=BitVec.ofNat 64 127:=rfl
   rw[e2]
   show(BitVec.ofNat 64 z&&&BitVec.ofNat 64 127).toNat=_
   rw[BitVec.toNat_and,BitVec.toNat_ofNat,BitVec.toNat_ofNat,im (by omega:z<2^64)]
   show z&&&(2^7-1)=z%2^7
   exact Nat.and_two_pow_sub_one_eq_mod z 7
 rw[this,Gz]
 omega
theorem KG{z:Nat}:((z:Int).fdiv (2^(min 7 IntKind.u64.bits)))=((z/128:Nat):Int):=by
 have e1:min 7 IntKind.u64.bits=7:=rfl
 rw[e1,ij _ (by decide)]
 show(z:Int)/128=_
 omega
theorem tX{z:Nat}:Value.int .u8 (IntKind.u8.wrap (z:Int))=bv (UInt8.ofNat z):=by
 rw[IntKind.wrap_u8]
 unfold bv
 rw[j6]
 congr 1
theorem GV{b:UInt8}:IntKind.u8.wrap (BitVec.ofInt IntKind.u8.bits (b.toNat:Int)|||BitVec.ofInt IntKind.u8.bits 128).toNat=((b|||128).toNat:Int):=by
 have e:(BitVec.ofInt IntKind.u8.bits (b.toNat:Int)|||BitVec.ofInt IntKind.u8.bits 128).toNat=(b|||128).toNat:=by
   have e:BitVec.ofInt IntKind.u8.bits (b.toNat:Int)=BitVec.ofNat 8 b.toNat:=BitVec.ofInt_natCast 8 b.toNat
   rw[e]
   have e2:BitVec.ofInt IntKind.u8.bits 128=BitVec.ofNat 8 128:=rfl
   rw[e2,UInt8.toNat_or]
   show(BitVec.ofNat 8 b.toNat|||BitVec.ofNat 8 128).toNat=_
   rw[BitVec.toNat_or,BitVec.toNat_ofNat,BitVec.toNat_ofNat,im (UInt8.toNat_lt b)]
   rfl
 rw[e,IntKind.wrap_u8]
 have:=UInt8.toNat_lt (b|||128)
 omega
end Go.Wx
