import Derived.Test.YtdilcdgjklimoaaGreatDoorKR15
import Derived.Laws.CopyRow
import Derived.Laws.IdiomStrings
import Derived.Laws.OwnMore
import Derived.Test.YtdilcdgjklimoaaGreatDoorProg
namespace Go.Wx
open Go.RowKit
structure Fr(S:Nat→Prop)(w w':World):Prop where
 os:w'.os=w.os
 tape:w'.tape=w.tape
 output:w'.output=w.output
 size:w.heap.size≤w'.heap.size
 block:∀i,i<w.heap.size→¬S i→w'.heap[i]?=w.heap[i]?
theorem Fr.refl(S:Nat→Prop)(w:World):Fr S w w:=⟨rfl,rfl,rfl,Nat.le_refl _,fun _ _ _=>rfl⟩
theorem Fr.trans{S:Nat→Prop}{a b c:World}(h:Fr S a b)(k:Fr S b c):Fr S a c:=⟨k.os.trans h.os,k.tape.trans h.tape,k.output.trans h.output,Nat.le_trans h.size k.size,fun i hi hs=>(k.block i (Nat.lt_of_lt_of_le hi h.size) hs).trans (h.block i hi hs)⟩
theorem Fr.next{S T:Nat→Prop}{a b c:World}(h:Fr S a b)(k:Fr T b c)(hT:∀i,T i→S i∨a.heap.size≤i):Fr S a c:=⟨k.os.trans h.os,k.tape.trans h.tape,k.output.trans h.output,Nat.le_trans h.size k.size,fun i hi hs=>(k.block i (Nat.lt_of_lt_of_le hi h.size) (fun h2=>(hT i h2).elim hs (fun h3=>by omega))).trans (h.block i hi hs)⟩
theorem Fr.mono{S T:Nat→Prop}{w w':World}(h:Fr S w w')(hT:∀i,S i→T i):Fr T w w':=⟨h.os,h.tape,h.output,h.size,fun i hi hs=>h.block i hi (fun h2=>hs (hT i h2))⟩
theorem Fr.sA{S:Nat→Prop}{w w':World}(h:Fr S w w')(hS:∀i,¬S i):Up w w':=⟨h.os,h.tape,h.output,h.size,fun i hi=>h.block i hi (hS i)⟩
theorem Up.fr{w w':World}(h:Up w w')(S:Nat→Prop):Fr S w w':=⟨h.os,h.tape,h.output,Up.size h,fun _ hi _=>h.block hi⟩
theorem Sto.fr{B:Nat}{w w':World}(h:Sto B w w'):Fr (· =B) w w':=⟨h.os,h.tape,h.output,h.size,fun i hi hs=>h.block i hi hs⟩
def no:Nat→Prop:=fun _=>False
structure Asr where
 foot:Nat→Prop
 holds:World→Prop
 keep:∀w w',holds w→(∀i,foot i→i<w.heap.size→w'.heap[i]?=w.heap[i]?)→w.heap.size≤w'.heap.size→holds w'
 lt:∀w,holds w→∀i,foot i→i<w.heap.size
def Bq(B:Nat)(cs:Array Value)(T:TypeId):Asr:=⟨(· =B),fun w=>Blk w B cs T,fun _ _ h k _=>(k B rfl h.lt).trans h,fun _ h _ e=>by subst e;exact h.lt⟩
theorem OwnS.keeps{α:Type}{enc:α→Array Value}{b k:Nat}{e:TypeId}{w w':World}{v:Value}{xs:List α}(h:OwnS w b e k enc v xs)(hk:∀i,v.ownBlock=some i→i<w.heap.size→w'.heap[i]?=w.heap[i]?):OwnS w' b e k enc v xs:=by
 obtain⟨h1,h2⟩:=h
 refine⟨h1,?_⟩
 rcases h2 with h2|⟨g,cap,cur,rfl,hb,hg,rest⟩
 · exact .inl h2
 exact .inr ⟨g,cap,cur,rfl,hb,(hk g rfl (lt_of_block hg)).trans hg,rest⟩
theorem OwnS.lt{α:Type}{enc:α→Array Value}{b k:Nat}{e:TypeId}{w:World}{v:Value}{xs:List α}(h:OwnS w b e k enc v xs):∀i,v.ownBlock=some i→i<w.heap.size:=by
 obtain⟨h1,h2⟩:=h
 rcases h2 with h2|⟨g,cap,cur,rfl,hb,hg,rest⟩
 · intro i hi;rw[h2.1]at hi;cases hi
 intro i hi;cases hi;exact lt_of_block hg
def J{α:Type}(e:TypeId)(k:Nat)(enc:α→Array Value)(v:Value)(xs:List α):Asr:=⟨fun i=>v.ownBlock=some i,fun w=>OwnS w 0 e k enc v xs,fun _ _ h k _=>h.keeps k,fun _ h=>h.lt⟩
structure Sep(S0:Nat→Prop)(w0 w:World)(As:List Asr):Prop where
 fr:Fr S0 w0 w
 each:∀A∈As,A.holds w∧∀i,A.foot i→S0 i∨w0.heap.size≤i
 apart:As.Pairwise fun A B=>∀i,A.foot i→¬B.foot i
theorem Jz{α:Type}{r:α→α→Prop}{l:List α}(h:l.Pairwise r){i j:Nat}{a b:α}(hij:i<j)(ha:l[i]?=some a)(hb:l[j]?=some b):r a b:=by
 obtain⟨hi,rfl⟩:=List.getElem?_eq_some_iff.1 ha
 obtain⟨hj,rfl⟩:=List.getElem?_eq_some_iff.1 hb
 exact List.pairwise_iff_getElem.1 h i j hi hj hij
section
variable {S0:Nat→Prop}{w0 w w':World}{As:List Asr}{A A':Asr}
theorem Sep.start(S0:Nat→Prop)(w:World):Sep S0 w w []:=⟨Fr.refl _ _,fun _ h=>by simp at h,List.Pairwise.nil⟩
theorem Sep.get(h:Sep S0 w0 w As)(k:Nat)(hk:As[k]?=some A):A.holds w:=(h.each A (List.mem_of_getElem? hk)).1
theorem Sep.size(h:Sep S0 w0 w As):w0.heap.size≤w.heap.size:=h.fr.size
theorem Sep.up(h:Sep S0 w0 w As)(u:Up w w'):Sep S0 w0 w' As:=
 ⟨h.fr.trans (u.fr _),fun A hA=>⟨A.keep w w' (h.each A hA).1 (fun _ _ hi=>u.block hi) (Up.size u),(h.each A hA).2⟩,h.apart⟩
theorem Sep.step(h:Sep S0 w0 w As)(k:Nat)(hk:As[k]?=some A)(fr:Fr A.foot w w')(h':A'.holds w')(sub:∀i,A'.foot i→A.foot i∨w.heap.size≤i):Sep S0 w0 w' (As.set k A'):=by
 have hA:=h.each A (List.mem_of_getElem? hk)
 have hsz:=h.size
 have hne:∀(j:Nat)(B:Asr),As[j]?=some B→j≠k→(∀i,A.foot i→¬B.foot i)∧(∀i,B.foot i→¬A.foot i):=fun j B hj hjk=>by
   rcases Nat.lt_or_gt_of_ne hjk with hl|hl
   · have:=Jz h.apart hl hj hk
     exact⟨fun i h1 h2=>this i h2 h1,this⟩
   have:=Jz h.apart hl hk hj
   exact⟨this,fun i h1 h2=>this i h2 h1⟩
 have hset:∀(j:Nat)(B:Asr),(As.set k A')[j]?=some B→(j=k∧B=A')∨(j≠k∧As[j]?=some B):=fun j B hj=>by
   rw[List.getElem?_set]at hj
   by_cases e:k=j
   · subst e
     rw[if_pos rfl]at hj
     split at hj
     · cases hj;exact .inl ⟨rfl,rfl⟩
     cases hj
   rw[if_neg e]at hj;exact .inr ⟨fun e2=>e e2.symm,hj⟩
 refine⟨h.fr.next fr hA.2,fun B hB=>?_,?_⟩
 · obtain⟨j,hj⟩:=List.mem_iff_getElem?.1 hB
   rcases hset j B hj with⟨_,rfl⟩|⟨e,hj'⟩
   · exact⟨h',fun i hi=>(sub i hi).elim (hA.2 i) (fun h2=>.inr oQ)⟩
   have h1:=h.each B (List.mem_of_getElem? hj')
   exact⟨B.keep w w' h1.1 (fun i hi hlt=>fr.block i hlt ((hne j B hj' e).2 i hi)) fr.size,h1.2⟩
 rw[List.pairwise_iff_getElem]
 intro i j hi hj hij
 have hi':=List.getElem?_eq_getElem hi
 have hj':=List.getElem?_eq_getElem hj
 rcases hset _ _ hi' with⟨e1,e2⟩|⟨e1,h1⟩<;>rcases hset _ _ hj' with⟨f1,f2⟩|⟨f1,h2⟩
 · omega
 · rw[e2]
   intro x hx hB
   have hlt:=Asr.lt _ w (h.each _ (List.mem_of_getElem? h2)).1 x hB
   exact(sub x hx).elim (fun h3=>(hne _ _ h2 f1).1 x h3 hB) (fun h3=>by omega)
 · rw[f2]
   intro x hx hB
   have hlt:=Asr.lt _ w (h.each _ (List.mem_of_getElem? h1)).1 x hx
   exact(sub x hB).elim (fun h3=>(hne _ _ h1 e1).1 x h3 hx) (fun h3=>by omega)
 exact Jz h.apart hij h1 h2
theorem Sep.add(h:Sep S0 w0 w As)(u:Up w w')(h':A'.holds w')(new:∀i,A'.foot i→w.heap.size≤i):Sep S0 w0 w' (As++[A']):=by
 have h2:=h.up u
 have hsz:=h.size
 refine⟨h2.fr,fun B hB=>?_,?_⟩
 · rcases List.mem_append.1 hB with h3|h3
   · exact h2.each B h3
   simp at h3;subst h3
   exact⟨h',fun i hi=>.inr (by have:=new i hi;omega)⟩
 rw[List.pairwise_append]
 refine⟨h.apart,List.pairwise_singleton _ _,fun B hB C hC i hi hi2=>?_⟩
 simp at hC;subst hC
 have:=Asr.lt B w (h.each B hB).1 i hi
 have:=new i hi2
 omega
theorem Sep.Cg{B:Nat}{cs:Array Value}{T:TypeId}(h:Sep S0 w0 w As)(N:New w w' B cs T):Sep S0 w0 w' (As++[Bq B cs T]):=h.add N.up N.blk (fun i(e:i=B)=>by rw[e,N.at_];exact Nat.le_refl _)
theorem Sep.Dz{B:Nat}{cs cs':Array Value}{T:TypeId}(h:Sep S0 w0 w As)(k:Nat)(hk:As[k]?=some (Bq B cs T))(N:Set_ w w' B cs' T):Sep S0 w0 w' (As.set k (Bq B cs' T)):=h.step k hk N.sto.fr N.blk (fun _ hi=>.inl hi)
theorem Sep.blk{B:Nat}{cs:Array Value}{T:TypeId}(h:Sep S0 w0 w As)(k:Nat)(hk:As[k]?=some (Bq B cs T)):Blk w B cs T:=h.get k hk
theorem Sep.own{α:Type}{e:TypeId}{k':Nat}{enc:α→Array Value}{v:Value}{xs:List α}(h:Sep S0 w0 w As)(k:Nat)(hk:As[k]?=some (J e k' enc v xs)):OwnS w 0 e k' enc v xs:=h.get k hk
theorem Sep.cons(h:A.holds w)(hf:∀i,A.foot i→S0 i)(hs:Sep S0 w w As)(hd:∀B∈As,∀i,A.foot i→¬B.foot i):Sep S0 w w (A::As):=
 ⟨hs.fr,fun B hB=>by
   rcases List.mem_cons.1 hB with e|e
   · subst e;exact⟨h,fun i hi=>.inl (hf i hi)⟩
   exact hs.each B e,List.Pairwise.cons hd hs.apart⟩
theorem Sep.sub{Bs:List Asr}(h:Sep S0 w0 w As)(hs:Bs.Sublist As):Sep S0 w0 w Bs:=⟨h.fr,fun A hA=>h.each A (hs.subset hA),h.apart.sublist hs⟩
theorem Sep.foot(h:Sep S0 w0 w As)(k:Nat)(hk:As[k]?=some A):∀i,A.foot i→S0 i∨w0.heap.size≤i:=(h.each A (List.mem_of_getElem? hk)).2
structure Stp(A A':Asr)(w w':World):Prop where
 fr:Fr A.foot w w'
 holds:A'.holds w'
 sub:∀i,A'.foot i→A.foot i∨w.heap.size≤i
theorem Stp.up{A A':Asr}{w w' w'':World}(h:Stp A A' w w')(u:Up w' w''):Stp A A' w w'':=⟨h.fr.trans (u.fr _),A'.keep _ _ h.holds (fun _ _ hi=>u.block hi) (Up.size u),h.sub⟩
theorem Stp.refl{A:Asr}{w:World}(h:A.holds w):Stp A A w w:=⟨Fr.refl _ _,h,fun _ h=>.inl h⟩
theorem Stp.trans{A B C:Asr}{a b c:World}(h:Stp A B a b)(k:Stp B C b c):Stp A C a c:=⟨h.fr.next k.fr h.sub,k.holds,fun i hi=>(k.sub i hi).elim (fun h2=>h.sub i h2) (fun h2=>.inr (Nat.le_trans h.fr.size h2))⟩
theorem Sep.Dw(h:Sep S0 w0 w As)(k:Nat)(hk:As[k]?=some A)(s:Stp A A' w w'):Sep S0 w0 w' (As.set k A'):=h.step k hk s.fr s.holds s.sub
theorem Sep.take(h:Sep S0 w0 w As)(n:Nat):Sep S0 w0 w (As.take n):=h.sub (List.take_sublist _ _)
theorem OwnS.base{α:Type}{enc:α→Array Value}{b k:Nat}{e:TypeId}{w:World}{v:Value}{xs:List α}(h:OwnS w b e k enc v xs):∀i,v.ownBlock=some i→b≤i:=by
 obtain⟨_,⟨rfl,_⟩|⟨g,cap,cur,rfl,hb,_⟩⟩:=h
 · intro i hi;cases hi
 intro i hi;cases hi;exact hb
theorem Sep.Ch(h:Sep no w0 w As):Up w0 w:=h.fr.sA (fun _ h=>h)
end
theorem REv.mono{P:Program}{n:Nat}{ds:List Deferred}{l:Env}{w:World}{o:Oper}{Post Post':Value→World→Prop}(h:REv P n ds l w o Post)(k:∀v w',Post v w'→Post' v w'):REv P n ds l w o Post':=fun a ha=>let⟨v,w',h1,h2⟩:=h a ha;⟨v,w',h1,k v w' h2⟩
section
variable {P:Program}{n:Nat}{ds:List Deferred}{l:Env}{w:World}{d:Option Tmp}{ty:TypeId}{ps:String}{af:Array Edge}{g:Option (Nat×Bool)}
theorem REv.Cu{α:Type}{enc:α→Array Value}{k bytes:Nat}{e T:TypeId}{i:TypeInfo}{z:Value}{s x:Operand}{v xv:Value}{xs ys:List α}(hT:P.underlying T=some (.slice e))(hi:P.info? e=some i)(hz:i.zero=some z)
   (hsize:i.size=k)(hby:i.bytes=bytes)(hzs:z.cells.size=k)(hk0:0<k)(henc:∀x,(enc x).size=k)(h1:∀x,(enc x).all (·.oneCell')=true)(hs:Val l s v)(hx:Val l x xv)(ho:OwnS w 0 e k enc v xs)(hy:Sl w xv k enc ys)
   (h63:xs.length+ys.length≤maxLen)(hbytes:(xs.length+ys.length)*bytes≤140737488355328):
   REv P n ds l w ⟨d,.call { callee:=.builtin .append,args:=#[s,x],argTypes:=#[T,T] },ty,ps,af,g⟩ (fun v' w'=>Stp (J e k enc v xs) (J e k enc v' (xs++ys)) w w'):=fun a ha=>by
 obtain⟨ad,c,rfl,hE⟩:=hy
 have hfl:∀x,(enc x).toList.length=k:=fun x=>by simp[henc]
 by_cases hne:0<ys.length
 · obtain⟨y0,hy0⟩:=Aq (xs:=ys) (i:=0) hne
   obtain⟨B,o,rfl,_⟩:=hE 0 y0 hy0
   have hnews:∀(j:Nat)(u:Value),(ys.flatMap fun x=>(enc x).toList)[j]?=some u→w.cell? ((⟨B,o,none⟩:Addr).add j)=some u:=fun j u hu=>by
     obtain⟨y,hy1,hy2⟩:=Qi _ k hk0 hfl ys j u hu
     obtain⟨B',o',e',hc⟩:=hE _ y hy1
     cases e'
     have:=hc (j%k) u (by simpa using hy2)
     rw[Fl]
     rw[show o+j=o+j/k*k+j%k by have:=Nat.div_add_mod j k;rw[Nat.mul_comm]at this;omega]
     exact this
   have h1':∀u∈(ys.flatMap fun x=>(enc x).toList),u.oneCell'=true:=fun u hu=>by
     obtain⟨y,_,hy2⟩:=List.mem_flatMap.1 hu
     exact(Array.all_eq_true_iff_forall_mem.1 (h1 y)) u (by simpa using hy2)
   obtain⟨v',w',hr,h2,h3,_⟩:=run_append_own (P:=P) w 0 T ty e i z k bytes hT hi hz hsize hby hzs hk0 v xs.length _ ho ⟨B,o,none⟩ ys.length c (ys.flatMap fun x=>(enc x).toList) (Eo _ k hfl ys) hnews h1' h63 hbytes (Nat.zero_le _)
   refine⟨v',w',?_,⟨h3.os,h3.tape,h3.output,h3.size,fun i hi hb=>h3.block i hi (fun e=>hb e.symm)⟩,(show OwnS w' 0 e k enc v' (xs++ys)by simpa[OwnS]using h2),?_⟩
   · simp only[execOp,resolve,invoke,builtin,Sem.run_bind,Sem.run_pure,Result.andThen_ok,List.map_toArray,List.map_cons,List.map_nil,ha.ev hs,ha.ev hx,hr]
   subst hsize
   subst hby
   have hl:(ys.flatMap fun x=>(enc x).toList).length=ys.length*i.size:=Eo _ _ hfl ys
   have hm63:xs.length+ys.length≤9223372036854775807:=by simpa[maxLen]using h63
   intro q hq
   obtain⟨hlen,⟨rfl,hn⟩|⟨g',cap,cur,rfl,_,hg,hcap,hcm,hcs,htake⟩⟩:=ho
   · have hr2:=run_append_nil (P:=P) w T ty e i z hT hi hz ⟨B,o,none⟩ ys.length c _ hl hnews hne oQ (by have:ys.length*i.bytes≤(xs.length+ys.length)*i.bytes:=Nat.mul_le_mul_right _ (by omega);omega)
     rw[hr]at hr2
     cases hr2
     cases hq
     exact .inr (Nat.le_refl _)
   by_cases hroom:xs.length+ys.length≤cap
   · have hr2:=run_append_room (P:=P) w T ty e i hT hi g' xs.length cap cur hg ⟨B,o,none⟩ ys.length c _ hl hnews h1' hroom (by rw[hl,hcs,←Nat.add_mul];exact Nat.mul_le_mul_right _ hroom)
     rw[hr]at hr2
     cases hr2
     exact .inl hq
   have holds:∀j u,(xs.flatMap fun x=>(enc x).toList)[j]?=some u→w.cell? ((⟨g',0,none⟩:Addr).add j)=some u:=World.ownsRow.cells (g:=g') (show w.ownsRow 0 e i.size (.slice (some ⟨g',0,none⟩) xs.length cap) xs.length _ from⟨hlen,.inr ⟨g',cap,cur,rfl,Nat.zero_le _,hg,hcap,hcm,hcs,htake⟩⟩) rfl
   have hr2:=run_append_grow (P:=P) w T ty e i z hT hi hz ⟨g',0,none⟩ xs.length cap _ hlen holds ⟨B,o,none⟩ ys.length c _ hl hnews oQ oQ (growslice_fits oQ hbytes)
   rw[hr]at hr2
   cases hr2
   cases hq
   exact .inr (Nat.le_refl _)
 have hys:ys=[]:=List.eq_nil_of_length_eq_zero oQ
 subst hys
 have hrun:(Builtin.append_ #[T,T] ty #[v,.slice ad 0 c]).run P w=.ok v w:=by
   have hsz:∀w,(sizeOf e).run P w=.ok k w:=fun w=>by simp[sizeOf,typeInfo,hi,hsize]
   obtain⟨_,⟨rfl,hn⟩|⟨g',cap,cur,rfl,_,_,hcap,_⟩⟩:=ho
   · cases ad<;>simp[Builtin.append_,run_underlying hT,hsz,Builtin.lenOf,Builtin.firstCells,loadCells,loadCellsFrom,Result.andThen]
   cases ad<;>simp[Builtin.append_,run_underlying hT,hsz,Builtin.lenOf,Builtin.firstCells,loadCells,loadCellsFrom,storeCells,Result.andThen,hcap]
 refine⟨v,w,?_,Fr.refl _ _,(show OwnS w 0 e k enc v (xs++[])by simpa using ho),fun i h=>.inl h⟩
 simp only[execOp,resolve,invoke,builtin,Sem.run_bind,Sem.run_pure,Result.andThen_ok,List.map_toArray,List.map_cons,List.map_nil,ha.ev hs,ha.ev hx,List.length_nil,hrun]
end
def bv(b:UInt8):Value:=.int .u8 (b.toNat:Int)
section
variable {P:Program}{n:Nat}{ds:List Deferred}{l:Env}{w:World}{d:Option Tmp}{ty:TypeId}{ps:String}{af:Array Edge}{g:Option (Nat×Bool)}
theorem PEv.Nv{T e:TypeId}{x hi:Operand}{ad:Option Addr}{k m cap j:Nat}(hT:P.underlying T=some (.slice e))(hs:∀w,(sizeOf e).run P w=.ok k w)(hx:Val l x (.slice ad m cap))(hl:Val l hi (.int .i64 (j:Int)))(hj:j≤cap):
   PEv P n ds l w ⟨d,.slice T x none (some hi) none,ty,ps,af,g⟩ (.slice ad j cap):=fun a w' ha _=>by
 refine Ci ?_
 rw[ha.ev hx]
 simp only[Option.map_none,Option.map_some,ha.ev hl]
 have h1:(0:Int)≤(j:Int)∧(j:Int)≤(cap:Int):=⟨by omega,by omega⟩
 cases ad with
 |none=>simp[Instr.sliceAt,Instr.slice,Instr.sliceBounds,Instr.sliceBound,asIntOf,run_underlying hT,Result.andThen,h1,hs,hj]
 |some a=>simp[Instr.sliceAt,Instr.slice,Instr.sliceBounds,Instr.sliceBound,asIntOf,run_underlying hT,Result.andThen,h1,hs,Addr.add,hj]
theorem Rh{T T':TypeId}{x y:Operand}{a b:ByteArray}(hx:Val l x (.string a))(hy:Val l y (.string b)):PEv P n ds l w ⟨d,.binOp .eql T x y T',ty,ps,af,g⟩ (.bool (a.toList==b.toList)):=fun ac w' ha _=>by
 refine Ci ?_
 rw[ha.ev hx,ha.ev hy,Sem.run_bind]
 have:(eqGuard .eql T x y (.string a) (.string b)).run P w'=.ok () w':=by unfold eqGuard;rfl
 rw[this]
 show(binOp .eql T (.string a) (.string b)).run P w'=_
 rw[binOp_string_eql];rfl
theorem PEv.yA{T T':TypeId}{x y:Operand}{a b:ByteArray}(hx:Val l x (.string a))(hy:Val l y (.string b)):PEv P n ds l w ⟨d,.binOp .neq T x y T',ty,ps,af,g⟩ (.bool (!(a.toList==b.toList))):=fun ac w' ha _=>by
 refine Ci ?_
 rw[ha.ev hx,ha.ev hy,Sem.run_bind]
 have:(eqGuard .neq T x y (.string a) (.string b)).run P w'=.ok () w':=by unfold eqGuard;rfl
 rw[this]
 simp[binOp,Op.stringOp]
def Nw(old:Array Value)(o:Nat)(cs:List Value):Array Value:=(old.toList.take o++cs++old.toList.drop (o+cs.length)).toArray
theorem Tv{T TT:TypeId}{x y:Operand}{B k o:Nat}{cs old:Array Value}(hs:∀w,(sizeOf T).run P w=.ok k w)(hk:cs.size=k)(hx:Val l x (.pointer (some ⟨B,o,none⟩)))(hy:Val l y (.agg cs))(h1:cs.all (·.oneCell')=true)(hb:Blk w B old TT)(ho:o+cs.size≤old.size):
   SEv P n ds l w ⟨none,.store T x y,ty,ps,af,g⟩ (fun w'=>Set_ w w' B (Nw old o cs.toList) TT):=fun a ha=>by
 have hst:=run_storeCells_at P B o TT cs.toList 0 old w hb (by rw[Array.length_toList];omega) (fun v hv=>(Array.all_eq_true_iff_forall_mem.1 h1) v (by simpa using hv))
 refine⟨w.setRow B (Nw old o cs.toList),Kt ?_,Set_.setRow hb⟩
 rw[ha.ev hx,ha.ev hy]
 simp only[Instr.storeAt,Instr.sureAddr,Sem.run_bind,Sem.run_pure,Result.andThen,storeVar,hs,Value.cells]
 rw[Nat.add_zero]at hst
 simp only[hk,Nw]
 rw[if_neg (by simp),hst]
theorem PEv.tr{o:Oper}{b:Bool}(h:PEv P n ds l w o (.bool b))(e:b=true):PEv P n ds l w o (.bool true):=e▸h
theorem PEv.fa{o:Oper}{b:Bool}(h:PEv P n ds l w o (.bool b))(e:b=false):PEv P n ds l w o (.bool false):=e▸h
theorem PEv.addN{T T':TypeId}{x y:Operand}{i j:Nat}(hx:Val l x (.int .i64 (i:Int)))(hy:Val l y (.int .i64 (j:Int)))(h:i+j<9223372036854775807):PEv P n ds l w ⟨d,.binOp .add T x y T',ty,ps,af,g⟩ (.int .i64 ((i+j:Nat):Int)):=by
 have:=PEv.add (P:=P) (n:=n) (ds:=ds) (l:=l) (w:=w) (d:=d) (ty:=ty) (ps:=ps) (af:=af) (g:=g) (T:=T) (T':=T') hx hy oQ oQ
 rw[Int.natCast_add];exact this
theorem PEv.EQ{x y:Operand}{ts:Array TypeId}{i j:Nat}(hx:Val l x (.int .i64 (i:Int)))(hy:Val l y (.int .i64 (j:Int))):
   PEv P n ds l w ⟨d,.call { callee:=.builtin .min,args:=#[x,y],argTypes:=ts },ty,ps,af,g⟩ (.int .i64 ((min i j:Nat):Int)):=by
 have:=mJ (P:=P) (n:=n) (ds:=ds) (l:=l) (w:=w) (d:=d) (ty:=ty) (ps:=ps) (af:=af) (g:=g) (ts:=ts) hx hy
 have e:(if(j:Int)<(i:Int)then(j:Int)else(i:Int))=((min i j:Nat):Int):=by split<;>omega
 rw[e]at this;exact this
theorem PEv.IP{T:TypeId}{x:Operand}{i:Int}(hx:Val l x (.int .i64 i))(h1: -9223372036854775808≤ -i)(h2: -i≤9223372036854775807):PEv P n ds l w ⟨d,.unOp .neg T x,ty,ps,af,g⟩ (.int .i64 (-i)):=fun a w' ha _=>by
 refine Ci ?_
 rw[ha.ev hx]
 simp[Op.unary,Op.intArith,Dy h1 h2]
end
section
variable (R:Option Nat)(m:Nat)(P:Program)(n:Nat)(ds:List Deferred)
def JL(ops:Array Oper)(Q:Exit→Go.Act→World→Prop)(s:Nat)(l:Env)(w:World):Prop:=∀(fuel:Nat)(listed:Array Bool)(a:Go.Act),ops.size-s≤fuel→xQ ops s listed→Ag n ds l a w→wpAnyIn (FR R) m P .any ops Q fuel listed a w
end
def Iu(ops:Array Oper)(k:Nat):Bool:=
 (List.range ops.size).all fun i=> !Nat.ble (k+1) i||(match ops[i]? with|none=>false|some o=>o.after.any fun e=>Region.binds .any e&&Nat.ble k e.on)
def JA(n:Nat)(ops:Array Oper)(s k:Nat):Bool:=(List.range k).all fun i=> !Nat.ble s i||(match ops[i]? with
 |none=>false
 |some o=>match o.dst with
   |none=>false
   |some d=>Nat.ble (d+1) n&&(List.range k).all fun j=> !Nat.ble s j||(Nat.beq i j||(match ops[j]? with|none=>true|some p=> !(p.dst==some d))))
theorem J0:∀{l:Env}{i:Nat}{ph:Ph},lk l i=some ph→(i,ph)∈l
 |[],_,_,h=>by cases h
 |(j,q)::l,i,ph,h=>by
   by_cases e:i=j
   · subst e;rw[A7]at h;cases h;exact List.mem_cons_self
   rw[A8 e]at h;exact List.mem_cons_of_mem _ (J0 h)
section
variable {R:Option Nat}{m:Nat}{P:Program}{n:Nat}{ds:List Deferred}{Q:Exit→Go.Act→World→Prop}{l:Env}{w:World}{ops:Array Oper}
theorem mR{k:Nat}(h:Iu ops k=true){i:Nat}{o:Oper}(ho:ops[i]?=some o)(hk:k<i):∃e∈o.after,Region.binds .any e=true∧k≤e.on:=by
 have hi:i<ops.size:=(Array.getElem?_eq_some_iff.1 ho).1
 have h1:=List.all_eq_true.1 h i (List.mem_range.2 hi)
 have hb:Nat.ble (k+1) i=true:=Nat.ble_eq_true_of_le hk
 simp only[ho,hb,Bool.not_true,Bool.false_or]at h1
 obtain⟨e,he,hh⟩:=Array.any_eq_true.1 h1
 simp only[Bool.and_eq_true]at hh
 exact⟨_,Array.getElem_mem he,hh.1,Nat.le_of_ble_eq_true hh.2⟩
theorem Ep{id:Nat}{opsL:List Oper}(hm:P.follows .mixedOrders=true)(hl:Cj l=true)(h:JL R m P n ds opsL.toArray Q 0 l w.drew):CW R m P n ds (.region id opsL.toArray true) Q l w:=fun a ha=>
 wpIn_region_any hm (h _ _ a (by simp) ⟨by simp,fun j hj=>by
   rw[Array.getD_eq_getD_getElem?,Array.getElem?_replicate]
   split<;>rfl⟩ (ha.world hl _))
def allL(p:Nat→Oper→Prop):Nat→List Oper→Prop
 |_,[]=>True
 |i,o::r=>p i o∧allL p (i+1) r
theorem allL.nil{p:Nat→Oper→Prop}{i:Nat}:allL p i []:=trivial
theorem allL.cons{p:Nat→Oper→Prop}{i:Nat}{o:Oper}{r:List Oper}(h:p i o)(k:allL p (i+1) r):allL p i (o::r):=⟨h,k⟩
abbrev aC:=@allL.cons
theorem allL.at{p:Nat→Oper→Prop}:∀{r:List Oper}{i j:Nat}{o:Oper},allL p i r→r[j]?=some o→p (i+j) o
 |[],_,_,_,_,h=>by cases h
 |x::r,i,0,o,hp,h=>by
   rw[List.getElem?_cons_zero]at h
   cases h;exact hp.1
 |x::r,i,j+1,o,hp,h=>by
   rw[List.getElem?_cons_succ]at h
   have:=allL.at hp.2 h
   rwa [show i+1+j=i+(j+1)by omega]at this
def Jd(base:Env)(r:List Oper):Bool:=r.all fun o=>match o.dst with|none=>true|some d=>(lk base d).isNone
theorem Fw{base:Env}{r:List Oper}(h:Jd base r=true){i:Nat}{ph:Ph}(hi:lk base i=some ph){o:Oper}(ho:o∈r):o.dst≠some i:=by
 intro e
 have:=List.all_eq_true.1 h o ho
 simp[e,hi]at this
end
end Go.Wx
namespace Go.Wx
open Go.RowKit Go.MapKept
structure Cel(w w':World):Prop where
 size:w.heap.size≤w'.heap.size
 cell:∀ad v,w.cell? ad=some v→w'.cell? ad=some v
 blk:∀(b:Nat)(cs:Array Value)(T:TypeId)(x:Nat×Nat),w.heap[b]?=some (Obj.cells cs T x)→w'.heap[b]?=some (Obj.cells cs T x)
section
variable (R:Option Nat)(m:Nat)(P:Program)(n:Nat)(ds:List Deferred)
def JB(o:Oper)(a:Go.Act)(w:World)(Post:Value→World→Prop):Prop:=iJ P o a w Post∨(∃w',(execOp a.eval o).run P w=.ok .skip w'∧Post undef w')
def TG(ops:Array Oper)(env:Env)(f:Nat→Value)(w:World)(o:Oper)(Post:Value→World→Prop):Prop:=∀a,Ag n ds env a w→(∀t,a.tmps.getD t undef=f t)→if Region.wanted o (yielded ops a.tmps)=true then JB P o a w Post else Post undef w
def AWF(ops:Array Oper)(Q:Exit→Go.Act→World→Prop)(s:Nat)(l:Env)(f:Nat→Value)(w:World):Prop:=∀(fuel:Nat)(listed:Array Bool)(a:Go.Act),ops.size-s≤fuel→xQ ops s listed→Ag n ds l a w→(∀t,a.tmps.getD t undef=f t)→wpAnyIn (FR R) m P .any ops Q fuel listed a w
end
def Gr(n:Nat)(ops:Array Oper)(s k:Nat):Bool:=(List.range k).all fun i=> !Nat.ble s i||(match ops[i]? with
 |none=>false
 |some o=>match o.dst with
   |none=>true
   |some d=>Nat.ble (d+1) n&&(List.range k).all fun j=> !Nat.ble s j||(Nat.beq i j||(match ops[j]? with|none=>true|some p=> !(p.dst==some d))))
def Ju(ops:Array Oper)(ph:Nat→Ph)(s:Nat)(o:Oper):Env:=o.after.toList.filterMap fun e=>if(Region.binds .any e&&Nat.ble s e.on)=true then((ops[e.on]?).bind (·.dst)).map fun d=>(d,ph e.on)else none
def Hj(ops:Array Oper)(ph:Nat→Ph)(s k:Nat):Env:=(List.range k).filterMap fun j=>if Nat.ble s j=true then((ops[j]?).bind (·.dst)).map fun d=>(d,ph j)else none
def FY(ops:Array Oper)(L:Nat→Bool):Prop:=∀(i:Nat)(o:Oper),ops[i]?=some o→L i=true→∀e∈o.after,Region.binds .any e=true→L e.on=true
def Cq(L:Nat→Bool)(i:Nat):Nat→Bool:=fun j=>if j=i then true else L j
def D0(f:Nat→Value)(d:Option Nat)(v:Value):Nat→Value:=fun t=>if d=some t then v else f t
section
variable {R:Option Nat}{m:Nat}{P:Program}{n:Nat}{ds:List Deferred}{Q:Exit→Go.Act→World→Prop}{l:Env}{w:World}{ops:Array Oper}
theorem C8{s k:Nat}(h:Gr n ops s k=true){i:Nat}{o:Oper}{d:Nat}(hs:s≤i)(hk:i<k)(ho:ops[i]?=some o)(hd:o.dst=some d):d<n∧∀(j:Nat)(p:Oper),s≤j→j<k→j≠i→ops[j]?=some p→p.dst≠some d:=by
 have h1:=List.all_eq_true.1 h i (List.mem_range.2 hk)
 have hb:Nat.ble s i=true:=Nat.ble_eq_true_of_le hs
 simp only[hb,Bool.not_true,Bool.false_or,ho,hd]at h1
 simp only[Bool.and_eq_true]at h1
 refine⟨Nat.le_of_ble_eq_true h1.1,fun j p hj hjk hne hp=>?_⟩
 have h2:=List.all_eq_true.1 h1.2 j (List.mem_range.2 hjk)
 have hb':Nat.ble s j=true:=Nat.ble_eq_true_of_le hj
 have hb2:Nat.beq i j=false:=by
   cases e:Nat.beq i j with
   |false=>rfl
   |true=>exact absurd (Nat.eq_of_beq_eq_true e).symm hne
 simp only[hb',Bool.not_true,Bool.false_or,hb2,hp]at h2
 intro e
 rw[e]at h2
 simp at h2
theorem Ri{ph:Nat→Ph}{s:Nat}{o:Oper}{t:Nat}{q:Ph}(h:lk (Ju ops ph s o) t=some q):∃e∈o.after,Region.binds .any e=true∧s≤e.on∧∃p,ops[e.on]?=some p∧p.dst=some t∧q=ph e.on:=by
 have h1:=J0 h
 unfold Ju at h1
 rw[List.mem_filterMap]at h1
 obtain⟨e,he,h2⟩:=h1
 split at h2
 · rename_i hc
   simp only[Bool.and_eq_true]at hc
   cases hp:ops[e.on]? with
   |none=>rw[hp]at h2;cases h2
   |some p=>
     rw[hp]at h2
     cases hd:p.dst with
     |none=>simp[hd]at h2
     |some d=>
       simp[hd]at h2
       obtain⟨rfl,rfl⟩:=h2
       exact⟨e,by simpa using he,hc.1,Nat.le_of_ble_eq_true hc.2,p,hp,hd,rfl⟩
 cases h2
theorem E6{ph:Nat→Ph}{s k:Nat}{t:Nat}{q:Ph}(h:lk (Hj ops ph s k) t=some q):∃j p,s≤j∧j<k∧ops[j]?=some p∧p.dst=some t∧q=ph j:=by
 have h1:=J0 h
 unfold Hj at h1
 rw[List.mem_filterMap]at h1
 obtain⟨j,hj,h2⟩:=h1
 split at h2
 · rename_i hc
   cases hp:ops[j]? with
   |none=>rw[hp]at h2;cases h2
   |some p=>
     rw[hp]at h2
     cases hd:p.dst with
     |none=>simp[hd]at h2
     |some d=>
       simp[hd]at h2
       obtain⟨rfl,rfl⟩:=h2
       exact⟨j,p,Nat.le_of_ble_eq_true hc,List.mem_range.1 hj,hp,hd,rfl⟩
 cases h2
theorem mS{o:Oper}{a:Go.Act}{Post:Value→World→Prop}{K:Go.Act→World→Prop}{w:World}(h:JB P o a w Post)(hk:∀v w',Post v w'→K (a.put o.dst v) w'):o.wpIn (FR R) m P a w K Q:=by
 rcases h with h|⟨w',hr,hp⟩
 · exact Ky h hk
 exact Pm hr (hk _ w' hp)
theorem Ht{s k:Nat}{base:Env}(ph:Nat→Ph)(Rel:World→World→Prop)(Inv:(Nat→Bool)→(Nat→Value)→World→Prop){f0:Nat→Value}
   (hrefl:∀w,Rel w w)(htr:∀w w1 w2,Rel w w1→Rel w1 w2→Rel w w2)(hph:∀i v w w',(ph i).holds v w→Rel w w'→(ph i).holds v w')
   (hA:Dv ops=true)(hC:(Nat.beq k ops.size||Fh ops k)=true)(hF:Iu ops k=true)(hks:Nat.ble k ops.size=true)(hsk:Nat.ble s k=true)
   (hD:Gr n ops s k=true)(hbp:Cj base=true)(hbd:∀i ph,lk base i=some ph→∀(j:Nat)(o:Oper),s≤j→j<k→ops[j]?=some o→o.dst≠some i)
   (hop:∀i o,s≤i→i<k→ops[i]?=some o→∀L f W,Rel w W→FY ops L→L i=false→(∀e∈o.after,Region.binds .any e=true→L e.on=true)→Inv L f W→
     TG P n ds ops (Ju ops ph s o++base) f W o (fun v W'=>Rel W W'∧(∀d,o.dst=some d→(ph i).holds v W')∧Inv (Cq L i) (D0 f o.dst v) W'))
   (hw:Inv (fun j=>decide (j<s)) f0 w)(hend:∀f W,Rel w W→Inv (fun j=>decide (j<k)) f W→AWF R m P n ds ops Q k (Hj ops ph s k++base) f W):AWF R m P n ds ops Q s base f0 w:=by
 have hks:k≤ops.size:=Nat.le_of_ble_eq_true hks
 have hsk:s≤k:=Nat.le_of_ble_eq_true hsk
 suffices H:∀(fuel:Nat)(listed:Array Bool)(a:Go.Act)(f:Nat→Value)(W:World),listed.size=ops.size→listed.toList.countP (· ==false)≤fuel→(∀j,j<s→listed.getD j false=true)→(∀j,k≤j→j<ops.size→listed.getD j false=false)→Dn ops listed→Ag n ds base a W→(∀t,a.tmps.getD t undef=f t)→Rel w W→
     (∀(j:Nat)(o:Oper)(d:Nat),s≤j→j<k→ops[j]?=some o→o.dst=some d→listed.getD j false=true→(ph j).holds (f d) W)→Inv (fun j=>listed.getD j false) f W→wpAnyIn (FR R) m P .any ops Q fuel listed a W by
   intro fuel listed a hf hu ha hsl
   have hno:∀j,s≤j→j<ops.size→listed.getD j false=false:=fun j h1 h2=>by rw[hu.2 j h2];simpa using h1
   have hyes:∀j,j<s→listed.getD j false=true:=fun j h1=>by rw[hu.2 j (by omega)];simpa using h1
   refine H fuel listed a f0 w hu.1 ?_ hyes (fun j h1 h2=>hno j oQ h2) ?_ ha hsl (hrefl w) ?_ ?_
   · have e:listed.toList=listed.toList.take s++listed.toList.drop s:=(List.take_append_drop s _).symm
     rw[e,List.countP_append]
     have z1:(listed.toList.take s).countP (· ==false)=0:=by
       rw[List.countP_eq_zero]
       intro b hb
       obtain⟨j,hj,he⟩:=List.mem_iff_getElem.1 hb
       rw[List.getElem_take]at he
       have hj':j<s:=by simp at hj;omega
       have hj2:j<listed.size:=by simp at hj;omega
       have:=hyes j hj'
       rw[Array.getD_eq_getD_getElem?]at this
       simp only[hj2,Array.getElem?_eq_getElem,Option.getD_some]at this
       rw[←he]
       simp[this]
     have z2:(listed.toList.drop s).countP (· ==false)≤(listed.toList.drop s).length:=List.countP_le_length
     have z3:(listed.toList.drop s).length=ops.size-s:=by simp[hu.1]
     omega
   · intro i o ho hli e he hb
     have hi:i<ops.size:=(Array.getElem?_eq_some_iff.1 ho).1
     have his:i<s:=by
       rcases Nat.lt_or_ge i s with h|h
       · exact h
       rw[hno i h hi]at hli;cases hli
     exact hyes _ (by have:=Di hA ho e he hb;omega)
   · intro j o d hj hjk ho _ hlj
     rw[hno j hj (by omega)]at hlj
     cases hlj
   have e:(fun j=>listed.getD j false)=fun j=>decide (j<s):=by
     funext j
     rcases Nat.lt_or_ge j ops.size with h|h
     · exact hu.2 j h
     have:=hu.1
     rw[Array.getD_eq_getD_getElem?,Array.getElem?_eq_none oQ,decide_eq_false (by omega)]
     rfl
   rw[e]
   exact hw
 have last:∀(fuel:Nat)(listed:Array Bool)(a:Go.Act)(f:Nat→Value)(W:World),listed.size=ops.size→listed.toList.countP (· ==false)≤fuel→(∀j,k≤j→j<ops.size→listed.getD j false=false)→Ag n ds base a W→(∀t,a.tmps.getD t undef=f t)→Rel w W→
     (∀(j:Nat)(o:Oper)(d:Nat),s≤j→j<k→ops[j]?=some o→o.dst=some d→listed.getD j false=true→(ph j).holds (f d) W)→Inv (fun j=>listed.getD j false) f W→(∀j,j<k→listed.getD j false=true)→wpAnyIn (FR R) m P .any ops Q fuel listed a W:=by
   intro fuel listed a f W hs hc hno ha hsl hR hI hSt hall
   have e:(fun j=>listed.getD j false)=fun j=>decide (j<k):=by
     funext j
     rcases Nat.lt_or_ge j k with h|h
     · rw[hall j h,decide_eq_true h]
     rcases Nat.lt_or_ge j ops.size with h'|h'
     · rw[hno j h h',decide_eq_false (by omega)]
     rw[Array.getD_eq_getD_getElem?,Array.getElem?_eq_none oQ,decide_eq_false (by omega)]
     rfl
   rw[e]at hSt
   refine hend f W hR hSt fuel listed a (Rf hs hc hno) ⟨hs,fun j hj=>congrFun e j⟩ ⟨ha.defers,ha.size,fun t q ht=>?_⟩ hsl
   rcases C6 ht with h|h
   · obtain⟨j,p,hj,hjk,hp,hd,rfl⟩:=E6 h
     rw[hsl]
     exact hI j p t hj hjk hp hd (hall j hjk)
   exact ha.val t q h
 intro fuel
 induction fuel with
 |zero=>
   intro listed a f W hs hc hyes hno hDn ha hsl hR hI hSt
   refine last 0 listed a f W hs hc hno ha hsl hR hI hSt (fun j hj=>?_)
   have h0:listed.toList.countP (· ==false)=0:=by omega
   rw[List.countP_eq_zero]at h0
   have hlt:j<listed.size:=by omega
   have:=h0 listed[j] (by simp)
   rw[Array.getD_eq_getD_getElem?]
   simp only[hlt,Array.getElem?_eq_getElem,Option.getD_some]
   simpa using this
 |succ fuel ih=>
   intro listed a f W hs hc hyes hno hDn ha hsl hR hI hSt
   by_cases hall:∀j,j<k→listed.getD j false=true
   · exact last (fuel+1) listed a f W hs hc hno ha hsl hR hI hSt hall
   simp only[Classical.not_forall]at hall
   obtain⟨c,hck,hcf⟩:=hall
   have hcf:listed.getD c false=false:=by simpa using hcf
   refine⟨fun hr=>?_,fun i hi=>?_⟩
   · exfalso
     obtain⟨i,hi⟩:=Mt hA (k:=k) oQ hs c hck hcf
     rw[hr]at hi
     cases hi
   obtain⟨o,hio,hbi,hed⟩:=(Fg hs).1 hi
   have hi':i<ops.size:=(Array.getElem?_eq_some_iff.1 hio).1
   have hlt:i<listed.size:=by omega
   have hsi:s≤i:=by
     rcases Nat.lt_or_ge i s with h|h
     · rw[hyes i h]at hbi;cases hbi
     exact h
   have hik:i<k:=by
     rcases Nat.lt_or_ge i k with h|h
     · exact h
     exfalso
     by_cases e:i=k
     · subst e
       rcases Bool.or_eq_true_iff.1 hC with hC|hC
       · have:=Nat.eq_of_beq_eq_true hC;omega
       have:=Ns hC hDn hio hed (i-c) c rfl hck
       rw[hcf]at this;cases this
     obtain⟨e',he,hb,hon⟩:=mR hF hio oQ
     have h1:=hed e' he hb
     have h2:=Di hA hio e' he hb
     rw[hno e'.on hon (by omega)]at h1
     cases h1
   have hag:Ag n ds (Ju ops ph s o++base) a W:=by
     refine⟨ha.defers,ha.size,fun t q ht=>?_⟩
     rcases C6 ht with h|h
     · obtain⟨e,he,hb,hse,p,hp,hpd,rfl⟩:=Ri h
       rw[hsl]
       exact hI e.on p t hse (by have:=Di hA hio e he hb;omega) hp hpd (hed e he hb)
     exact ha.val t q h
   have eL:(fun j=>(listed.setIfInBounds i true).getD j false)=Cq (fun j=>listed.getD j false) i:=by
     funext j
     rw[Dj hlt]
     rfl
   have key:∀(v:Value)(W':World),Rel W W'∧(∀d,o.dst=some d→(ph i).holds v W')∧Inv (Cq (fun j=>listed.getD j false) i) (D0 f o.dst v) W'→wpAnyIn (FR R) m P .any ops Q fuel (listed.setIfInBounds i true) (a.put o.dst v) W':=by
     rintro v W' ⟨hRel,hv,hSt'⟩
     refine ih _ _ (D0 f o.dst v) W' (by simpa using hs) (Nu hlt hbi hc) ?_ ?_ (V1 hlt hio hed hDn) ?_ ?_ (htr _ _ _ hR hRel) ?_ (by rw[eL];exact hSt')
     · intro j hj
       rw[Dj hlt]
       split
       · rfl
       exact hyes j hj
     · intro j hj hjs
       rw[Dj hlt,if_neg (by omega)]
       exact hno j hj hjs
     · cases hd:o.dst with
       |none=>exact ha.world hbp W'
       |some d=>
         refine⟨ha.defers,by simp[Go.Act.put,ha.size],fun t q ht=>?_⟩
         have hne':t≠d:=fun e=>hbd t q ht i o hsi hik hio (by rw[hd,e])
         rw[Da hne']
         exact Ff hbp ht (ha.val t q ht)
     · intro t
       cases hd:o.dst with
       |none=>exact hsl t
       |some d=>
         by_cases e:t=d
         · subst e
           rw[Es (by rw[ha.size];exact(C8 hD hsi hik hio hd).1)]
           simp[D0]
         rw[Da e,hsl]
         simp[D0,Ne.symm e]
     intro j p d' hj hjk hp hpd hl
     by_cases e:j=i
     · subst e
       rw[hio]at hp;cases hp
       rw[hpd]
       simp only[D0,if_true]
       exact hv d' hpd
     rw[Dj hlt,if_neg e]at hl
     have hne':o.dst≠some d':=fun ee=>(C8 hD hsi hik hio ee).2 j p hj hjk e hp hpd
     simp only[D0,if_neg hne']
     exact hph j _ _ _ (hI j p d' hj hjk hp hpd hl) hRel
   have top:=hop i o hsi hik hio _ f W hR (fun i o ho hli e he hb=>hDn i o ho hli e he hb) hbi hed hSt
   have top:=top a hag hsl
   unfold wpOpIn
   rw[hio]
   dsimp only
   split
   · rename_i hw'
     rw[if_pos hw']at top
     exact mS top key
   rename_i hw'
   rw[if_neg hw']at top
   exact⟨fun _ _=>trivial,key _ W top⟩
theorem Cel.refl(w:World):Cel w w:=⟨Nat.le_refl _,fun _ _ h=>h,fun _ _ _ _ h=>h⟩
theorem Cel.trans{w w1 w2:World}(h:Cel w w1)(k:Cel w1 w2):Cel w w2:=⟨Nat.le_trans h.size k.size,fun ad v hv=>k.cell ad v (h.cell ad v hv),fun b cs T x hb=>k.blk b cs T x (h.blk b cs T x hb)⟩
theorem Up.F1{w w':World}(u:Up w w'):Cel w w':=⟨u.size,fun _ _ h=>Gm h u,fun _ _ _ _ h=>(u.block (lt_of_block h)).trans h⟩
theorem Sto.F1{w w':World}{b:Nat}(u:Sto b w w')(hz:w.heap.size≤w'.heap.size)(hb:∀ad v,ad.block=b→w.cell? ad≠some v)(hk:∀(cs:Array Value)(T:TypeId)(x:Nat×Nat),w.heap[b]?≠some (Obj.cells cs T x)):Cel w w':=⟨hz,fun ad v h=>Xh h u (fun e=>hb ad v e h),fun i cs T x h=>(u.block i (lt_of_block h) (fun e=>hk cs T x (e▸h))).trans h⟩
theorem IMap.Rj{w:World}{b:Nat}{kv:List (Int×Value)}(h:IMap w b kv):∀ad v,ad.block=b→w.cell? ad≠some v:=by
 intro ad v e hc
 obtain⟨es,clock,h1,_⟩:=h
 unfold World.cell? at hc
 rw[e,h1]at hc
 cases hc
theorem IMap.Xu{w:World}{b:Nat}{kv:List (Int×Value)}(h:IMap w b kv):∀(cs:Array Value)(T:TypeId)(x:Nat×Nat),w.heap[b]?≠some (Obj.cells cs T x):=by
 intro cs T x hc
 obtain⟨es,clock,h1,_⟩:=h
 rw[h1]at hc
 cases hc
theorem AggAt.F1{w w':World}{B o:Nat}{cs:Array Value}(h:AggAt w B o cs)(k:Cel w w'):AggAt w' B o cs:=fun j v hv=>k.cell _ _ (h j v hv)
theorem Els.F1{α:Type}{w w':World}{ad:Option Addr}{k:Nat}{enc:α→Array Value}{xs:List α}(h:Els w ad k enc xs)(u:Cel w w'):Els w' ad k enc xs:=fun i x hx=>let⟨B,o,h1,h2⟩:=h i x hx;⟨B,o,h1,h2.F1 u⟩
theorem Sl.F1{α:Type}{w w':World}{v:Value}{k:Nat}{enc:α→Array Value}{xs:List α}(h:Sl w v k enc xs)(u:Cel w w'):Sl w' v k enc xs:=let⟨ad,c,h1,h2⟩:=h;⟨ad,c,h1,Els.F1 h2 u⟩
theorem SEv.insert{ty:TypeId}{ps:String}{af:Array Edge}{g:Option (Nat×Bool)}{T K E:TypeId}{mo x y:Operand}{b:Nat}{k:Int}{v:Value}{kv:List (Int×Value)}(hT:P.underlying T=some (.map K E))(hK:P.underlying K=some (.int .i64))(hm:Val l mo (.map (some b)))(hx:Val l x (vi k))(hy:Val l y v)(h:IMap w b kv):
   SEv P n ds l w ⟨none,.insert T mo x y,ty,ps,af,g⟩ (fun w'=>IMap w' b (D8 kv k v)∧Sto b w w'∧w'.heap.size=w.heap.size):=fun a ha=>
 SEv.mapUpdate (ty:=ty) (ps:=ps) (af:=af) (g:=g) hT hK hm hx hy h a ha
def ER(m0 ms:Nat)(J:List (Nat×Int×Nat))(w0:World)(L:Nat→Bool)(f:Nat→Value)(W:World):Prop:=
 Up w0 W∧(L m0=true→∃b kv,f ms=.map (some b)∧w0.heap.size≤b∧IMap W b kv∧kv.Perm ((J.filter fun j=>L j.1).map fun j=>(j.2.1,f j.2.2)))
def Rk(ops:Array Oper)(m0:Nat)(J:List (Nat×Int×Nat)):Bool:=
 J.all fun j=>match ops[j.1]? with
   |none=>false
   |some o=>o.dst.isNone&&(o.after.any fun e=>Region.binds .any e&&Nat.beq e.on m0)&&(o.after.any fun e=>Region.binds .any e&&(match ops[e.on]? with|none=>false|some p=>p.dst==some j.2.2))
theorem Hb{m0:Nat}{J:List (Nat×Int×Nat)}(h:Rk ops m0 J=true){j:Nat×Int×Nat}(hj:j∈J):∃o,ops[j.1]?=some o∧o.dst=none∧(∃e∈o.after,Region.binds .any e=true∧e.on=m0)∧∃e∈o.after,Region.binds .any e=true∧∃p,ops[e.on]?=some p∧p.dst=some j.2.2:=by
 have h1:=List.all_eq_true.1 h j hj
 cases ho:ops[j.1]? with
 |none=>simp[ho]at h1
 |some o=>
   simp only[ho,Bool.and_eq_true]at h1
   obtain⟨⟨h2,h3⟩,h4⟩:=h1
   obtain⟨e,he,hh⟩:=Array.any_eq_true.1 h3
   simp only[Bool.and_eq_true]at hh
   obtain⟨e',he',hh'⟩:=Array.any_eq_true.1 h4
   simp only[Bool.and_eq_true]at hh'
   refine⟨o,rfl,by simpa using h2,⟨_,Array.getElem_mem he,hh.1,Nat.eq_of_beq_eq_true hh.2⟩,⟨_,Array.getElem_mem he',hh'.1,?_⟩⟩
   have h5:=hh'.2
   split at h5
   · cases h5
   rename_i p hp
   exact⟨p,hp,by simpa using h5⟩
theorem Rl{J:List (Nat×Int×Nat)}{L:Nat→Bool}{i:Nat}(hn:i∉J.map (·.1)):(J.filter fun j=>Cq L i j.1)=J.filter fun j=>L j.1:=by
 apply List.filter_congr
 intro j hj
 have:j.1≠i:=fun e=>hn (e▸List.mem_map.2 ⟨j,hj,rfl⟩)
 simp[Cq,this]
theorem Rm:∀{J:List (Nat×Int×Nat)}{L:Nat→Bool}{i:Nat}{k:Int}{s:Nat},(J.map (·.1)).Nodup→(i,k,s)∈J→L i=false→(J.filter fun j=>Cq L i j.1).Perm ((i,k,s)::J.filter fun j=>L j.1)
 |[],_,_,_,_,_,h,_=>by cases h
 |x::r,L,i,k,s,hn,h,hL=>by
   obtain⟨h1,h2⟩:=List.nodup_cons.1 (by simpa using hn:(x.1::r.map (·.1)).Nodup)
   rcases List.mem_cons.1 h with rfl|h
   · rw[List.filter_cons,List.filter_cons,if_pos (by simp[Cq]),if_neg (by simp[hL]),Rl h1]
   have hne:x.1≠i:=fun e=>h1 (e▸List.mem_map.2 ⟨_,h,rfl⟩)
   have e:Cq L i x.1=L x.1:=by simp[Cq,hne]
   have ih:=Rm h2 h hL
   rw[List.filter_cons,List.filter_cons,e]
   split
   · exact(List.Perm.cons _ ih).trans (List.Perm.swap _ _ _)
   exact ih
theorem Rn{kv:List (Int×Value)}{k:Int}{v:Value}(h:k∉kv.map (·.1)):D8 kv k v=kv++[(k,v)]:=by rw[D8,if_neg h]
theorem sB{J:List (Nat×Int×Nat)}(hn:(J.map (·.2.1)).Nodup){x y:Nat×Int×Nat}(hx:x∈J)(hy:y∈J)(h:x.2.1=y.2.1):x=y:=by
 obtain⟨i,hi,rfl⟩:=List.mem_iff_getElem.1 hx
 obtain⟨j,hj,rfl⟩:=List.mem_iff_getElem.1 hy
 have:=(List.getElem_inj (i:=i) (j:=j) (h₀:=by simpa using hi) (h₁:=by simpa using hj) hn).1 (by simpa using h)
 subst this;rfl
theorem AWF.bB{k m0 ms T K E:Nat}{base:Env}{J:List (Nat×Int×Nat)}(ph:Nat→Ph){f0:Nat→Value}(hT:P.underlying T=some (.map K E))(hK:P.underlying K=some (.int .i64))
   (hph:∀i v w w',(ph i).holds v w→Cel w w'→(ph i).holds v w')(hA:Dv ops=true)(hC:(Nat.beq k ops.size||Fh ops k)=true)(hF:Iu ops k=true)(hks:Nat.ble k ops.size=true)
   (hD:Gr n ops 0 k=true)(hbp:Cj base=true)(hbd:∀i ph,lk base i=some ph→∀(j:Nat)(o:Oper),0≤j→j<k→ops[j]?=some o→o.dst≠some i)
   (hlit:Rk ops m0 J=true)(hJi:(J.map (·.1)).Nodup)(hJk:(J.map (·.2.1)).Nodup)(hJl:∀j∈J,j.1<k)(hm0k:m0<k)
   (hm0:∃ty ps,ops[m0]?=some ⟨some ms,.makeMap T none,ty,ps,#[],none⟩)
   (hins:∀j∈J,∃ty ps af,ops[j.1]?=some ⟨none,.insert T (.tmp ms) (.const (vi j.2.1)) (.tmp j.2.2),ty,ps,af,none⟩)
   (hmp:∀b W,(ph m0).holds (.map (some b)) W)
   (hop:∀i o,i<k→i≠m0→i∉J.map (·.1)→ops[i]?=some o→o.guard=none∧∀W,Cel w W→∀a,Ag n ds (Ju ops ph 0 o++base) a W→iJ P o a W (fun v W'=>Up W W'∧(ph i).holds v W'))
   (hend:∀f W b kv,Up w W→f ms=.map (some b)→IMap W b kv→kv.Perm (J.map fun j=>(j.2.1,f j.2.2))→AWF R m P n ds ops Q k (Hj ops ph 0 k++base) f W):AWF R m P n ds ops Q 0 base f0 w:=by
 refine Ht ph Cel (ER m0 ms J w) Cel.refl (fun _ _ _=>Cel.trans) hph hA hC hF hks (by simp) hD hbp hbd ?_ ⟨Up.refl w,fun h=>by simp at h⟩ ?_
 · intro i o _ hik hio L f W hRel hDn hLi hed hInv
   obtain⟨hUp,hInv⟩:=hInv
   by_cases e0:i=m0
   · subst e0
     obtain⟨ty,ps,hm0⟩:=hm0
     rw[hio]at hm0;cases hm0
     intro a ha hsl
     rw[if_pos (by simp[Region.wanted])]
     obtain⟨v,W',hr,b,rfl,hM,hu,hb,hz⟩:=REv.makeMap (P:=P) (n:=n) (ds:=ds) (l:=Ju ops ph 0 _++base) (w:=W) (d:=some ms) (ty:=ty) (ps:=ps) (af:=#[]) (g:=none) a ha
     refine .inl (.inl ⟨_,W',hr,hu.F1,fun _ _=>hmp b W',hUp.trans hu,fun _=>⟨b,[],?_,?_,hM,?_⟩⟩)
     · simp[D0]
     · have:=hUp.size;omega
     have:(J.filter fun j=>Cq L i j.1)=[]:=by
       rw[List.filter_eq_nil_iff]
       intro j hj
       obtain⟨oj,hoj,_,⟨e,he,hbe,hon⟩,_⟩:=Hb hlit hj
       intro hLj
       have hne:j.1≠i:=fun e'=>by
         have:=Di hA hoj e he hbe
         omega
       have:L j.1=true:=by simpa[Cq,hne]using hLj
       have:=hDn _ _ hoj this e he hbe
       rw[hon,hLi]at this;cases this
     rw[this];exact List.Perm.nil
   by_cases ej:i∈J.map (·.1)
   · obtain⟨⟨i',key,s⟩,hj,rfl⟩:=List.mem_map.1 ej
     obtain⟨ty,ps,af,ho⟩:=hins _ hj
     rw[hio]at ho;cases ho
     intro a ha hsl
     rw[if_pos (by simp[Region.wanted])]
     obtain⟨oj,hoj,_,⟨e,he,hbe,hon⟩,⟨e',he',hbe',p,hp,hpd⟩⟩:=Hb hlit hj
     rw[hio]at hoj;cases hoj
     obtain⟨b,kv,h1,hb,hM,hperm⟩:=hInv (by rw[←hon];exact hed e he hbe)
     have hag:Ag n ds [(s,.eq (f s)),(ms,.eq (.map (some b)))] a W:=by
       refine⟨ha.defers,ha.size,fun t q ht=>?_⟩
       by_cases e1:t=s
       · subst e1;rw[A7]at ht;cases ht;exact hsl _
       rw[A8 e1]at ht
       by_cases e2:t=ms
       · subst e2;rw[A7]at ht;cases ht;exact(hsl _).trans h1
       rw[A8 e2]at ht;cases ht
     have vm:Val [(s,.eq (f s)),(ms,.eq (.map (some b)))] (.tmp ms) (.map (some b)):=by
       by_cases e1:ms=s
       · subst e1;exact .tmp (by rw[A7,h1])
       exact .tmp (by rw[A8 e1,A7])
     obtain⟨W',hr,hM',hsto,hz⟩:=SEv.insert (P:=P) (n:=n) (ds:=ds) (w:=W) (ty:=ty) (ps:=ps) (af:=af) (g:=none) hT hK vm (.const (vi key)) (.tmp A7) hM a hag
     have hnk:key∉kv.map (·.1):=by
       intro hmem
       have:=(hperm.map (·.1)).mem_iff.1 hmem
       rw[List.map_map]at this
       obtain⟨j',hj',hk'⟩:=List.mem_map.1 this
       obtain⟨hj1,hj2⟩:=List.mem_filter.1 hj'
       have:j'=(i',key,s):=sB hJk hj1 hj hk'
       rw[this,hLi]at hj2
       cases hj2
     rw[Rn hnk]at hM'
     refine .inr ⟨W',hr,hsto.F1 oQ hM.Rj hM.Xu,(fun d hd=>by cases hd),hUp.sto hsto hb,fun _=>⟨b,_,h1,hb,hM',?_⟩⟩
     have:=((Rm hJi hj hLi).map fun j=>(j.2.1,f j.2.2))
     refine List.Perm.trans ?_ this.symm
     rw[List.map_cons]
     exact(List.perm_append_comm).trans (List.Perm.cons _ hperm)
   obtain⟨hg,hop⟩:=hop i o hik e0 ej hio
   intro a ha hsl
   rw[if_pos (by simp[Region.wanted,hg])]
   have done:∀v W',Up W W'∧(ph i).holds v W'→Cel W W'∧(∀d,o.dst=some d→(ph i).holds v W')∧ER m0 ms J w (Cq L i) (D0 f o.dst v) W':=by
     rintro v W' ⟨hu,hv⟩
     refine⟨hu.F1,fun _ _=>hv,hUp.trans hu,fun hm=>?_⟩
     have hm':L m0=true:=by simpa[Cq,Ne.symm e0]using hm
     obtain⟨b,kv,h1,hb,hM,hperm⟩:=hInv hm'
     refine⟨b,kv,?_,hb,hM.up hu,?_⟩
     · obtain⟨ty,ps,hm0⟩:=hm0
       have:o.dst≠some ms:=by
         intro ed
         exact(C8 hD (Nat.zero_le _) hik hio ed).2 m0 _ (Nat.zero_le _) hm0k (Ne.symm e0) hm0 rfl
       simpa[D0,this]using h1
     rw[Rl ej]
     have:((J.filter fun j=>L j.1).map fun j=>(j.2.1,D0 f o.dst v j.2.2))=(J.filter fun j=>L j.1).map fun j=>(j.2.1,f j.2.2):=by
       refine List.map_congr_left fun j hj=>?_
       obtain⟨hj1,hj2⟩:=List.mem_filter.1 hj
       obtain⟨oj,hoj,_,_,⟨e',he',hbe',p,hp,hpd⟩⟩:=Hb hlit hj1
       have hne:o.dst≠some j.2.2:=by
         intro ed
         have h2:=hDn _ _ hoj hj2 e' he' hbe'
         have h3:=Di hA hoj e' he' hbe'
         by_cases ee:e'.on=i
         · rw[ee,hLi]at h2;cases h2
         exact(C8 hD (Nat.zero_le _) hik hio ed).2 e'.on p (Nat.zero_le _) (by have:=hJl j hj1;omega) ee hp hpd
       simp[D0,hne]
     rw[this]
     exact hperm
   rcases hop W hRel a ha with⟨v,W',hr,hp⟩|⟨fn,args,w1,hr,hc⟩
   · exact .inl (.inl ⟨v,W',hr,done v W' hp⟩)
   exact .inl (.inr ⟨fn,args,w1,hr,hc.mono done⟩)
 intro f W hRel hInv
 obtain⟨hUp,hInv⟩:=hInv
 obtain⟨b,kv,h1,_,h2,h3⟩:=hInv (by simpa using hm0k)
 refine hend f W b kv hUp h1 h2 ?_
 rwa [List.filter_eq_self.2 (fun j hj=>by simpa using hJl j hj)]at h3
def PhC(q:Ph):Prop:=∀v w w',q.holds v w→Cel w w'→q.holds v w'
theorem PhC.eq(v:Value):PhC (.eq v):=fun _ _ _ h _=>h
theorem PhC.pred{p:Value→World→Prop}(h:∀v w w',p v w→Cel w w'→p v w'):PhC (.pred p):=h
def allC:List Ph→Prop
 |[]=>True
 |q::r=>PhC q∧allC r
theorem allC.at:∀{l:List Ph},allC l→∀i,PhC (l.getD i (.eq undef))
 |[],_,_=>by simpa using PhC.eq undef
 |_::_,h,0=>by simpa using h.1
 |_::_,h,i+1=>by simpa using allC.at h.2 i
theorem Fb:∀{l r:Env}{t:Nat},lk l t=none→lk (l++r) t=lk r t
 |[],_,_,_=>rfl
 |(j,q)::l,r,t,h=>by
   by_cases e:t=j
   · subst e;rw[A7]at h;cases h
   rw[A8 e]at h
   rw[List.cons_append,A8 e]
   exact Fb h
theorem Lw:∀{l r:Env}{t:Nat}{q:Ph},lk l t=some q→lk (l++r) t=some q
 |[],_,_,_,h=>by cases h
 |(j,q')::l,r,t,q,h=>by
   by_cases e:t=j
   · subst e;rw[A7]at h;cases h;rw[List.cons_append,A7]
   rw[A8 e]at h
   rw[List.cons_append,A8 e]
   exact Lw h
theorem H3:∀{l:Env}{t:Nat}{q:Ph},(t,q)∈l→∃q',lk l t=some q'
 |[],_,_,h=>by cases h
 |(j,q')::l,t,q,h=>by
   by_cases e:t=j
   · subst e;exact⟨q',A7⟩
   rw[A8 e]
   rcases List.mem_cons.1 h with h|h
   · cases h;exact absurd rfl e
   exact H3 h
def TU(P:Program)(n:Nat)(ds:List Deferred)(env:Env)(W:World)(o:Oper)(q:Ph):Prop:=∀a,Ag n ds env a W→iJ P o a W (fun v W'=>Up W W'∧q.holds v W')
theorem TU.p{env:Env}{o:Oper}{v:Value}{q:Ph}(h:PEv P n ds env w o v)(hx:q.holds v w):TU P n ds env w o q:=fun a ha=>.inl ⟨v,w,h a w ha (Up.refl w),Up.refl w,hx⟩
theorem TU.r{env:Env}{o:Oper}{q:Ph}{Post:Value→World→Prop}(h:REv P n ds env w o Post)(hx:∀v W',Post v W'→Up w W'∧q.holds v W'):TU P n ds env w o q:=fun a ha=>
 let⟨v,W',hr,hp⟩:=h a ha
 .inl ⟨v,W',hr,hx v W' hp⟩
theorem TU.c{env:Env}{o:Oper}{q:Ph}{f:FuncId}{args:Array Value}{Post:Value→World→Prop}(he:∀a,Ag n ds env a w→(execOp a.eval o).run P w=.ok (.enter f args) w)(hc:Ret P f args w Post)(hx:∀v W',Post v W'→Up w W'∧q.holds v W'):TU P n ds env w o q:=fun a ha=>
 .inr ⟨f,args,w,he a ha,hc.mono hx⟩
theorem TU.open{env:Env}{o:Oper}{q:Ph}{d:Nat}{p:Value→World→Prop}(hp:lk env d=some (.pred p))(h:∀v,p v w→TU P n ds ((d,.eq v)::env) w o q):TU P n ds env w o q:=fun a ha=>
 h _ (ha.val d _ hp) a ⟨ha.defers,ha.size,fun i ph hi=>by
   by_cases e:i=d
   · subst e
     rw[A7]at hi
     cases hi
     rfl
   rw[A8 e]at hi
   exact ha.val i ph hi⟩
theorem iO{id:Nat}{opsL:List Oper}(k m0 ms:Nat)(J:List (Nat×Int×Nat))(phs:List Ph){T K E:Nat}(hT:P.underlying T=some (.map K E))(hK:P.underlying K=some (.int .i64))(hm:P.follows .mixedOrders=true)(hl:Cj l=true)
   (hA:Dv opsL.toArray=true)(hC:(Nat.beq k opsL.toArray.size||Fh opsL.toArray k)=true)(hF:Iu opsL.toArray k=true)(hks:Nat.ble k opsL.toArray.size=true)(hD:Gr n opsL.toArray 0 k=true)(hlit:Rk opsL.toArray m0 J=true)(hTl:Gc opsL.toArray k=true)
   (hfree:Jd l (opsL.take k)=true)(hJ:(decide (J.map (·.1)).Nodup&&(decide (J.map (·.2.1)).Nodup&&(J.all fun j=>Nat.ble (j.1+1) k)&&Nat.ble (m0+1) k))=true)
   (hm0:∃ty ps,opsL[m0]?=some ⟨some ms,.makeMap T none,ty,ps,#[],none⟩)(hph:allC phs)(hmp:∀b W,(phs.getD m0 (.eq undef)).holds (.map (some b)) W)
   (hop:∀W,Cel w.drew W→allL (fun i o=>(i=m0∨(J.any fun j=>Nat.beq j.1 i)=true∧∀j∈J,j.1=i→∃ty ps af,o=⟨none,.insert T (.tmp ms) (.const (vi j.2.1)) (.tmp j.2.2),ty,ps,af,none⟩)∨(o.guard=none∧(J.any fun j=>Nat.beq j.1 i)=false∧TU P n ds (Ju opsL.toArray (fun i=>phs.getD i (.eq undef)) 0 o++l) W o (phs.getD i (.eq undef)))) 0 (opsL.take k))
   (hend:∀W b kv(g:Nat→Value),Up w.drew W→IMap W b kv→kv.Perm (J.map fun j=>(j.2.1,g j.2.2))→(∀i o d,i<k→opsL[i]?=some o→o.dst=some d→(phs.getD i (.eq undef)).holds (g d) W)→LW R m P n ds opsL.toArray Q (opsL.drop k) ((ms,.eq (.map (some b)))::l) W):
   CW R m P n ds (.region id opsL.toArray true) Q l w:=by
 simp only[Bool.and_eq_true,decide_eq_true_eq]at hJ
 obtain⟨hJi,⟨hJk,hJl⟩,hm0k⟩:=hJ
 have hks':k≤opsL.length:=by have:=Nat.le_of_ble_eq_true hks;simp at this;omega
 have hJl':∀j∈J,j.1<k:=fun j hj=>Nat.le_of_ble_eq_true (List.all_eq_true.1 hJl j hj)
 have sub:∀j o,j<k→opsL.toArray[j]?=some o→(opsL.take k)[j]?=some o:=fun j o hjk ho=>by
   rw[List.getElem?_take_of_lt hjk];simpa using ho
 have hbd:∀i ph,lk l i=some ph→∀(j:Nat)(o:Oper),0≤j→j<k→opsL.toArray[j]?=some o→o.dst≠some i:=fun i ph hi j o _ hjk ho=>Fw hfree hi (List.mem_of_getElem? (sub j o hjk ho))
 have any_iff:∀i,(J.any fun j=>Nat.beq j.1 i)=true↔i∈J.map (·.1):=fun i=>by
   rw[List.any_eq_true,List.mem_map]
   exact⟨fun⟨j,hj,h⟩=>⟨j,hj,Nat.eq_of_beq_eq_true h⟩,fun⟨j,hj,h⟩=>⟨j,hj,by rw[h];simp⟩⟩
 refine Ep hm hl fun fuel listed a hf hu ha=>(AWF.bB (T:=T) (K:=K) (E:=E) (m0:=m0) (ms:=ms) (J:=J) (k:=k) (fun i=>phs.getD i (.eq undef)) (f0:=fun t=>a.tmps.getD t undef) hT hK (fun i v w w' h u=>(hph.at i) v w w' h u) hA hC hF hks hD hl hbd hlit hJi hJk hJl' (Nat.le_of_ble_eq_true hm0k) (by simpa using hm0) ?_ hmp ?_ ?_ fuel listed a hf hu ha (fun _=>rfl))
 · intro j hj
   obtain⟨oj,hoj,_⟩:=Hb hlit hj
   have:=(hop w.drew (Cel.refl _)).at (sub j.1 oj (hJl' j hj) hoj)
   rw[Nat.zero_add]at this
   rcases this with(e|⟨_,h⟩)|⟨_,h,_⟩
   · exfalso
     obtain⟨ty,ps,hm0⟩:=hm0
     obtain⟨o',ho',hd',_⟩:=Hb hlit hj
     rw[e]at ho'
     have:opsL[m0]?=some o':=by simpa using ho'
     rw[hm0]at this;cases this;cases hd'
   · obtain⟨ty,ps,af,ho⟩:=h j hj rfl
     exact⟨ty,ps,af,by rw[hoj,ho]⟩
   rw[(any_iff j.1).2 (List.mem_map.2 ⟨j,hj,rfl⟩)]at h;cases h
 · intro i o hik hne hnj ho
   have h0:=(hop w.drew (Cel.refl _)).at (sub i o hik ho)
   rw[Nat.zero_add]at h0
   rcases h0 with(e|⟨h,_⟩)|⟨hg,_,_⟩
   · exact absurd e hne
   · exact absurd ((any_iff i).1 h) hnj
   refine⟨hg,fun W hW a ha=>?_⟩
   have h1:=(hop W hW).at (sub i o hik ho)
   rw[Nat.zero_add]at h1
   rcases h1 with(e|⟨h,_⟩)|⟨_,_,h⟩
   · exact absurd e hne
   · exact absurd ((any_iff i).1 h) hnj
   exact h a ha
 intro f W b kv hUp hfm hM hperm fuel' listed' a' hf' hu' ha' hsl'
 have key:∀i o d,i<k→opsL[i]?=some o→o.dst=some d→(phs.getD i (.eq undef)).holds (f d) W:=by
   intro i o d hik ho hd
   have ho':opsL.toArray[i]?=some o:=by simpa using ho
   have hmem:(d,phs.getD i (.eq undef))∈Hj opsL.toArray (fun i=>phs.getD i (.eq undef)) 0 k:=by
     unfold Hj
     rw[List.mem_filterMap]
     exact⟨i,List.mem_range.2 hik,by rw[if_pos (by simp),ho'];simp[hd]⟩
   obtain⟨q',hq⟩:=H3 hmem
   obtain⟨j,p,_,hjk,hp,hpd,e⟩:=E6 hq
   have:j=i:=by
     by_cases ee:j=i
     · exact ee
     exact absurd hpd ((C8 hD (Nat.zero_le _) hik ho' hd).2 j p (Nat.zero_le _) hjk ee hp)
   subst this
   have:=ha'.val d q' (Lw hq)
   rw[hsl',e]at this
   exact this
 refine Et hTl hA (opsL.toArray.size-k) k fuel' listed' a' W rfl (by simp;omega) (Nat.le_refl _) hf' hu' ?_
 have h2:=hend W b kv f hUp hM hperm key
 refine h2 a' ⟨ha'.defers,ha'.size,fun t q ht=>?_⟩
 by_cases e:t=ms
 · subst e;rw[A7]at ht;cases ht
   exact(hsl' _).trans hfm
 rw[A8 e]at ht
 refine ha'.val t q ?_
 rw[Fb]
 · exact ht
 cases hq:lk (Hj opsL.toArray (fun i=>phs.getD i (.eq undef)) 0 k) t with
 |none=>rfl
 |some q'=>
   obtain⟨j,p,_,hjk,hp,hpd,_⟩:=E6 hq
   exact absurd hpd (hbd t q ht j p (Nat.zero_le _) hjk hp)
theorem PEv.Cx{d:Option Tmp}{ty:TypeId}{ps:String}{af:Array Edge}{g:Option (Nat×Bool)}{T K E:TypeId}{mo x:Operand}{b:Nat}{k:Int}{v:Value}{kv:List (Int×Value)}{ok:Bool}(hT:P.underlying T=some (.map K E))(hK:P.underlying K=some (.int .i64))(hm:Val l mo (.map (some b)))(hx:Val l x (vi k))(h:IMap w b kv)(hkv:(k,v)∈kv):
   PEv P n ds l w ⟨d,.lookup T mo x ok,ty,ps,af,g⟩ (if ok then .tuple #[v,.bool true]else v):=fun a w' ha hu=>by
 obtain⟨es,clock,hb,hs,he⟩:=h.up hu
 have hk:IsKey (.int .i64) (vi k):=rfl
 refine Ci ?_
 rw[ha.ev hm,ha.ev hx]
 rcases findNow_spec hk es.toList 0 (Fv he)with⟨h1,h2⟩|⟨j,e,h1,h2,h3⟩
 · exfalso
   obtain⟨x',hx',hkx,_⟩:=De he hkv
   exact h2 x' hx' hkx
 obtain⟨x',hx',hkx,hvx⟩:=De he hkv
 have hv:e.val=v:=by
   have:=Du (List.pairwise_map.1 hs.2.2) (List.mem_of_getElem? h2) hx' (by rw[h3,hkx])
   rw[this];exact hvx
 cases ok<;>simp[Instr.lookup,run_underlying hT,MapKept.run_getObj_map hb,MapKept.run_checkKey hK hk,MapKept.run_findKey hK h1,Result.andThen,hv]
theorem PEv.Gt{d:Option Tmp}{ty:TypeId}{ps:String}{af:Array Edge}{g:Option (Nat×Bool)}{T K E:TypeId}{mo x:Operand}{b:Nat}{k:Int}{z:Value}{kv:List (Int×Value)}{ok:Bool}(hT:P.underlying T=some (.map K E))(hK:P.underlying K=some (.int .i64))(hz:∀w,(zeroValue E).run P w=.ok z w)(hm:Val l mo (.map (some b)))(hx:Val l x (vi k))(h:IMap w b kv)(hkv:k∉kv.map (·.1)):
   PEv P n ds l w ⟨d,.lookup T mo x ok,ty,ps,af,g⟩ (if ok then .tuple #[z,.bool false]else z):=fun a w' ha hu=>by
 obtain⟨es,clock,hb,hs,he⟩:=h.up hu
 have hk:IsKey (.int .i64) (vi k):=rfl
 refine Ci ?_
 rw[ha.ev hm,ha.ev hx]
 rcases findNow_spec hk es.toList 0 (Fv he)with⟨h1,h2⟩|⟨j,e,h1,h2,h3⟩
 · cases ok<;>simp[Instr.lookup,run_underlying hT,MapKept.run_getObj_map hb,MapKept.run_checkKey hK hk,MapKept.run_findKey hK h1,Result.andThen,hz]
 exfalso
 obtain⟨k',hk',hkv'⟩:=Fa he e (List.mem_of_getElem? h2)
 have:k'=k:=Q8 (hk'.symm.trans h3)
 exact hkv (List.mem_map.2 ⟨_,hkv',this⟩)
def SlT{α:Type}(e:TypeId)(w:World)(v:Value)(k:Nat)(enc:α→Array Value)(xs:List α):Prop:=Sl w v k enc xs∧∀B o n c,v=.slice (some ⟨B,o,none⟩) n c→∃cs x,w.heap[B]?=some (Obj.cells cs e x)
theorem SlT.F1{α:Type}{e:TypeId}{w w':World}{v:Value}{k:Nat}{enc:α→Array Value}{xs:List α}(h:SlT e w v k enc xs)(u:Cel w w'):SlT e w' v k enc xs:=⟨h.1.F1 u,fun B o n c hv=>let⟨cs,x,hb⟩:=h.2 B o n c hv;⟨cs,x,u.blk _ _ _ _ hb⟩⟩
theorem SlT.up{α:Type}{e:TypeId}{w w':World}{v:Value}{k:Nat}{enc:α→Array Value}{xs:List α}(h:SlT e w v k enc xs)(u:Up w w'):SlT e w' v k enc xs:=h.F1 u.F1
theorem SlT.lit{α:Type}{T:TypeId}{w w':World}{k:Nat}{enc:α→Array Value}{xs:List α}{v:Value}(h:NewSl w T k enc xs v w'):SlT T w' v k enc xs:=by
 have h2:=h.q.2
 obtain⟨B,cs,rfl,N,_,_⟩:=h
 exact⟨h2,fun B' o n c hv=>by cases hv;exact⟨cs,_,N.blk⟩⟩
theorem SlT.own{α:Type}{base:Nat}{e:TypeId}{w:World}{v:Value}{k:Nat}{enc:α→Array Value}{xs:List α}(h:OwnS w base e k enc v xs)(hk:∀x,(enc x).size=k):SlT e w v k enc xs:=by
 refine⟨h.sl hk,fun B o n c hv=>?_⟩
 obtain⟨_,h2⟩:=h
 rcases h2 with⟨rfl,_⟩|⟨g,cap,cur,rfl,hb,hg,_⟩
 · cases hv
 cases hv;exact⟨_,_,hg⟩
theorem Cb{α:Type}(e:TypeId)(k:Nat)(enc:α→Array Value)(xs:List α):PhC (.pred fun v w=>SlT e w v k enc xs):=fun _ _ _ h u=>SlT.F1 h u
end
end Go.Wx
namespace Go.Wx
open Go.RowKit
structure KeepT(T:TypeId)(w w':World):Prop where
 size:w.heap.size≤w'.heap.size
 obj:∀(b:Nat)(o:Obj),w.heap[b]?=some o→(∀cs x,o≠Obj.cells cs T x)→w'.heap[b]?=some o
theorem KeepT.refl(T:TypeId)(w:World):KeepT T w w:=⟨Nat.le_refl _,fun _ _ h _=>h⟩
theorem KeepT.trans{T:TypeId}{w w1 w2:World}(h:KeepT T w w1)(k:KeepT T w1 w2):KeepT T w w2:=⟨Nat.le_trans h.size k.size,fun b o hb hn=>k.obj b o (h.obj b o hb hn) hn⟩
theorem Up.Dk{T:TypeId}{w w':World}(u:Up w w'):KeepT T w w':=⟨u.size,fun _ _ h _=>(u.block (lt_of_block h)).trans h⟩
theorem Sto.Dk{T:TypeId}{w w':World}{B:Nat}{cs:Array Value}(u:Sto B w w')(hz:w.heap.size≤w'.heap.size)(hb:Blk w B cs T):KeepT T w w':=⟨hz,fun b o h hn=>by
 by_cases e:b=B
 · subst e;unfold Blk at hb;rw[hb]at h;cases h;exact absurd rfl (hn _ _)
 exact(u.block b (lt_of_block h) e).trans h⟩
theorem Blk.Dk{T e:TypeId}{w w':World}{B:Nat}{cs:Array Value}(h:Blk w B cs e)(hne:Nat.beq e T=false)(u:KeepT T w w'):Blk w' B cs e:=u.obj _ _ h (fun _ _ e'=>by cases e';simp at hne)
theorem IMap.Dk{T:TypeId}{w w':World}{b:Nat}{kv:List (Int×Value)}(h:IMap w b kv)(u:KeepT T w w'):IMap w' b kv:=by
 obtain⟨es,clock,h1,h2⟩:=h
 exact⟨es,clock,u.obj _ _ h1 (fun _ _ e=>by cases e),h2⟩
theorem SlT.Dk{α:Type}{e T:TypeId}{w w':World}{v:Value}{k:Nat}{enc:α→Array Value}{xs:List α}(h:SlT e w v k enc xs)(hne:Nat.beq e T=false)(u:KeepT T w w'):SlT e w' v k enc xs:=by
 have hne:e≠T:=fun e'=>by rw[e']at hne;simp at hne
 obtain⟨⟨ad,c,rfl,hE⟩,ht⟩:=h
 have keep:∀B o,ad=some ⟨B,o,none⟩→∃cs x,w.heap[B]?=some (Obj.cells cs e x)∧w'.heap[B]?=some (Obj.cells cs e x):=fun B o hB=>by
   obtain⟨cs,x,hb⟩:=ht B o _ _ (by rw[hB])
   exact⟨cs,x,hb,u.obj _ _ hb (fun _ _ e'=>by cases e';exact hne rfl)⟩
 refine⟨⟨ad,c,rfl,fun i x hx=>?_⟩,fun B o n c' hv=>?_⟩
 · obtain⟨B,o,hB,hA⟩:=hE i x hx
   obtain⟨cs,y,h1,h2⟩:=keep B o hB
   refine⟨B,o,hB,fun j v hv=>?_⟩
   have:=hA j v hv
   unfold World.cell? at this⊢
   rw[h1]at this
   rw[h2]
   exact this
 cases hv
 obtain⟨cs,x,h1,h2⟩:=keep B o rfl
 exact⟨cs,x,h2⟩
section
variable {R:Option Nat}{m:Nat}{P:Program}{n:Nat}{ds:List Deferred}{Q:Exit→Go.Act→World→Prop}{l:Env}{w:World}{ops:Array Oper}
def ES(ia is sa sv:Nat)(T:TypeId)(z:Array Value)(w0:World)(L:Nat→Bool)(f:Nat→Value)(W:World):Prop:=
 Up w0 W∧(L is=true→L ia=true)∧(L ia=true→∃B,f sa=.pointer (some ⟨B,0,none⟩)∧w0.heap.size≤B∧Blk W B (if L is=true then(f sv).cells else z) T)
theorem AWF.box{k ia is isv sa sv:Nat}{T:TypeId}{z:Array Value}{base:Env}(ph:Nat→Ph){f0:Nat→Value}(hz:∀w,(zeroValue T).run P w=.ok (.agg z) w)(hs:∀w,(sizeOf T).run P w=.ok z.size w)
   (hph:∀i v w w',(ph i).holds v w→KeepT T w w'→(ph i).holds v w')(hA:Dv ops=true)(hC:(Nat.beq k ops.size||Fh ops k)=true)(hF:Iu ops k=true)(hks:Nat.ble k ops.size=true)
   (hD:Gr n ops 0 k=true)(hbp:Cj base=true)(hbd:∀i ph,lk base i=some ph→∀(j:Nat)(o:Oper),0≤j→j<k→ops[j]?=some o→o.dst≠some i)
   (hlit:Rk ops ia [(is,0,sv)]=true)(hik:is<k)(hiak:ia<k)(hne:ia≠is)
   (hia:∃ty ps af,ops[ia]?=some ⟨some sa,.alloc T,ty,ps,af,none⟩)(his:∃ty ps af,ops[is]?=some ⟨none,.store T (.tmp sa) (.tmp sv),ty,ps,af,none⟩)
   (hlk:∀o,ops[is]?=some o→lk (Ju ops ph 0 o++base) sv=some (ph isv))(hsv:∀v W,(ph isv).holds v W→∃cs,v=.agg cs∧cs.size=z.size∧cs.all (·.oneCell')=true)
   (hpa:∀B W,(ph ia).holds (.pointer (some ⟨B,0,none⟩)) W)
   (hop:∀i o,i<k→i≠ia→i≠is→ops[i]?=some o→o.guard=none∧∀W,KeepT T w W→∀a,Ag n ds (Ju ops ph 0 o++base) a W→iJ P o a W (fun v W'=>Up W W'∧(ph i).holds v W'))
   (hend:∀f W B,Up w W→f sa=.pointer (some ⟨B,0,none⟩)→w.heap.size≤B→Blk W B (f sv).cells T→AWF R m P n ds ops Q k (Hj ops ph 0 k++base) f W):AWF R m P n ds ops Q 0 base f0 w:=by
 obtain⟨os,hos,hods,⟨e,he,hbe,hon⟩,⟨e',he',hbe',pv,hpv,hpvd⟩⟩:=Hb hlit List.mem_cons_self
 refine Ht ph (KeepT T) (ES ia is sa sv T z w) (KeepT.refl T) (fun _ _ _=>KeepT.trans) hph hA hC hF hks (by simp) hD hbp hbd ?_ ⟨Up.refl w,fun h=>by simp at h,fun h=>by simp at h⟩ ?_
 · intro i o _ hi hio L f W hRel hDn hLi hed hInv
   obtain⟨hUp,hsa,hInv⟩:=hInv
   by_cases e0:i=ia
   · subst e0
     obtain⟨ty,ps,af,hia⟩:=hia
     rw[hio]at hia;cases hia
     intro a ha hsl
     rw[if_pos (by simp[Region.wanted])]
     obtain⟨v,W',hr,B,rfl,N⟩:=REv.Br (P:=P) (n:=n) (ds:=ds) (l:=Ju ops ph 0 _++base) (w:=W) (d:=some sa) (ty:=ty) (ps:=ps) (af:=af) (g:=none) hz a ha
     have hLs:L is=false:=by
       cases h:L is with
       |false=>rfl
       |true=>rw[hsa h]at hLi;cases hLi
     refine .inl (.inl ⟨_,W',hr,N.up.Dk,fun _ _=>hpa B W',hUp.trans N.up,fun _=>by simp[Cq],fun _=>⟨B,by simp[D0],by rw[N.at_];exact hUp.size,?_⟩⟩)
     have:Cq L i is=false:=by simp[Cq,Ne.symm hne,hLs]
     rw[this]
     exact N.blk
   by_cases e1:i=is
   · subst e1
     have hLa:L ia=true:=by rw[hos]at hio;cases hio;rw[←hon];exact hed e he hbe
     obtain⟨ty,ps,af,his⟩:=his
     rw[hio]at his;cases his
     intro a ha hsl
     rw[if_pos (by simp[Region.wanted])]
     obtain⟨B,h1,hB,hblk⟩:=hInv hLa
     rw[hLi]at hblk
     obtain⟨cs,hcs,hcz,hc1⟩:=hsv _ W (ha.val sv _ (hlk _ hio))
     have hfs:f sv=.agg cs:=by rw[←hsl];exact hcs
     have hag:Ag n ds [(sv,.eq (.agg cs)),(sa,.eq (.pointer (some ⟨B,0,none⟩)))] a W:=by
       refine⟨ha.defers,ha.size,fun t q ht=>?_⟩
       by_cases e1:t=sv
       · subst e1;rw[A7]at ht;cases ht;exact hcs
       rw[A8 e1]at ht
       by_cases e2:t=sa
       · subst e2;rw[A7]at ht;cases ht;exact(hsl _).trans h1
       rw[A8 e2]at ht;cases ht
     have hsn:sa≠sv:=fun e'=>by rw[e',hfs]at h1;cases h1
     obtain⟨W',hr,hset⟩:=SEv.Ca (P:=P) (n:=n) (ds:=ds) (w:=W) (l:=[(sv,.eq (.agg cs)),(sa,.eq (.pointer (some ⟨B,0,none⟩)))]) (x:=.tmp sa) (y:=.tmp sv) (ty:=ty) (ps:=ps) (af:=af) (g:=none) hs hcz (.tmp (by rw[A8 hsn,A7])) (.tmp A7) hc1 hblk (by simp) a hag
     refine .inr ⟨W',hr,hset.sto.Dk (by rw[hset.size];exact Nat.le_refl _) hblk,(fun d hd=>by cases hd),hUp.sto hset.sto hB,fun _=>by simp[Cq,hLa],fun _=>⟨B,h1,hB,?_⟩⟩
     have h2:Cq L i i=true:=by simp[Cq]
     rw[h2,if_pos rfl]
     show Blk W' B (f sv).cells T
     rw[hfs]
     exact hset.blk
   obtain⟨hg,hop⟩:=hop i o hi e0 e1 hio
   intro a ha hsl
   rw[if_pos (by simp[Region.wanted,hg])]
   have done:∀v W',Up W W'∧(ph i).holds v W'→KeepT T W W'∧(∀d,o.dst=some d→(ph i).holds v W')∧ES ia is sa sv T z w (Cq L i) (D0 f o.dst v) W':=by
     rintro v W' ⟨hu,hv⟩
     have ela:Cq L i ia=L ia:=by simp[Cq,Ne.symm e0]
     have els:Cq L i is=L is:=by simp[Cq,Ne.symm e1]
     refine⟨hu.Dk,fun _ _=>hv,hUp.trans hu,fun h=>by rw[ela];rw[els]at h;exact hsa h,fun hm=>?_⟩
     rw[ela]at hm
     obtain⟨B,h1,hB,hblk⟩:=hInv hm
     have hn1:o.dst≠some sa:=by
       obtain⟨ty,ps,af,hia⟩:=hia
       intro ed
       exact(C8 hD (Nat.zero_le _) hi hio ed).2 ia _ (Nat.zero_le _) hiak (Ne.symm e0) hia rfl
     refine⟨B,by simpa[D0,hn1]using h1,hB,?_⟩
     rw[els]
     cases hLs:L is with
     |false=>rw[hLs]at hblk;exact hblk.up hu
     |true=>
       rw[hLs]at hblk
       have hn2:o.dst≠some sv:=by
         intro ed
         have h2:=hDn _ _ hos hLs e' he' hbe'
         have h3:=Di hA hos e' he' hbe'
         by_cases ee:e'.on=i
         · rw[ee,hLi]at h2;cases h2
         exact(C8 hD (Nat.zero_le _) hi hio ed).2 e'.on pv (Nat.zero_le _) (by have:e'.on<is:=h3;omega) ee hpv hpvd
       have h4:D0 f o.dst v sv=f sv:=by simp[D0,hn2]
       rw[h4]
       exact hblk.up hu
   rcases hop W hRel a ha with⟨v,W',hr,hp⟩|⟨fn,args,w1,hr,hc⟩
   · exact .inl (.inl ⟨v,W',hr,done v W' hp⟩)
   exact .inl (.inr ⟨fn,args,w1,hr,hc.mono done⟩)
 intro f W hRel hInv
 obtain⟨hUp,_,hInv⟩:=hInv
 obtain⟨B,h1,hB,h2⟩:=hInv (by simpa using hiak)
 rw[if_pos (by simpa using hik)]at h2
 exact hend f W B hUp h1 hB h2
def PhT(T:TypeId)(q:Ph):Prop:=∀v w w',q.holds v w→KeepT T w w'→q.holds v w'
theorem PhT.eq(T:TypeId)(v:Value):PhT T (.eq v):=fun _ _ _ h _=>h
theorem PhT.pred{T:TypeId}{p:Value→World→Prop}(h:∀v w w',p v w→KeepT T w w'→p v w'):PhT T (.pred p):=h
def allT(T:TypeId):List Ph→Prop
 |[]=>True
 |q::r=>PhT T q∧allT T r
theorem allT.at{T:TypeId}:∀{l:List Ph},allT T l→∀i,PhT T (l.getD i (.eq undef))
 |[],_,_=>by simpa using PhT.eq T undef
 |_::_,h,0=>by simpa using h.1
 |_::_,h,i+1=>by simpa using allT.at h.2 i
theorem CW.box{id:Nat}{opsL:List Oper}(k ia is isv sa sv:Nat)(z:Array Value)(phs:List Ph)(keep:List Nat){T:TypeId}(hz:∀w,(zeroValue T).run P w=.ok (.agg z) w)(hs:∀w,(sizeOf T).run P w=.ok z.size w)(hm:P.follows .mixedOrders=true)(hl:Cj l=true)
   (hA:Dv opsL.toArray=true)(hC:(Nat.beq k opsL.toArray.size||Fh opsL.toArray k)=true)(hF:Iu opsL.toArray k=true)(hks:Nat.ble k opsL.toArray.size=true)(hD:Gr n opsL.toArray 0 k=true)(hlit:Rk opsL.toArray ia [(is,0,sv)]=true)(hTl:Gc opsL.toArray k=true)
   (hfree:Jd l (opsL.take k)=true)(hidx:(Nat.ble (is+1) k&&(Nat.ble (ia+1) k&& !Nat.beq ia is))=true)
   (hia:∃ty ps af,opsL[ia]?=some ⟨some sa,.alloc T,ty,ps,af,none⟩)(os:Oper)(hos:opsL[is]?=some os)(his:∃ty ps af,os=⟨none,.store T (.tmp sa) (.tmp sv),ty,ps,af,none⟩)(hph:allT T phs)
   (hlk:lk (Ju opsL.toArray (fun i=>phs.getD i (.eq undef)) 0 os++l) sv=some (phs.getD isv (.eq undef)))(hsv:∀v W,(phs.getD isv (.eq undef)).holds v W→∃cs,v=.agg cs∧cs.size=z.size∧cs.all (·.oneCell')=true)
   (hpa:∀B W,(phs.getD ia (.eq undef)).holds (.pointer (some ⟨B,0,none⟩)) W)
   (hop:∀W,KeepT T w.drew W→allL (fun i o=>(i=ia∨i=is)∨(o.guard=none∧TU P n ds (Ju opsL.toArray (fun i=>phs.getD i (.eq undef)) 0 o++l) W o (phs.getD i (.eq undef)))) 0 (opsL.take k))
   (hend:∀W B(g:Nat→Value),Up w.drew W→w.drew.heap.size≤B→Blk W B (g sv).cells T→(∀i o d,i<k→opsL[i]?=some o→o.dst=some d→(phs.getD i (.eq undef)).holds (g d) W)→LW R m P n ds opsL.toArray Q (opsL.drop k) ((sa,.eq (.pointer (some ⟨B,0,none⟩)))::(keep.map (fun d=>(d,.eq (g d)))++l)) W):
   CW R m P n ds (.region id opsL.toArray true) Q l w:=by
 simp only[Bool.and_eq_true]at hidx
 obtain⟨hik,hiak,hne⟩:=hidx
 have hik:is<k:=Nat.le_of_ble_eq_true hik
 have hiak:ia<k:=Nat.le_of_ble_eq_true hiak
 have hne:ia≠is:=fun e=>by subst e;simp at hne
 have hks':k≤opsL.length:=by have:=Nat.le_of_ble_eq_true hks;simp at this;omega
 have sub:∀j o,j<k→opsL.toArray[j]?=some o→(opsL.take k)[j]?=some o:=fun j o hjk ho=>by
   rw[List.getElem?_take_of_lt hjk];simpa using ho
 have hbd:∀i ph,lk l i=some ph→∀(j:Nat)(o:Oper),0≤j→j<k→opsL.toArray[j]?=some o→o.dst≠some i:=fun i ph hi j o _ hjk ho=>Fw hfree hi (List.mem_of_getElem? (sub j o hjk ho))
 refine Ep hm hl fun fuel listed a hf hu ha=>(AWF.box (k:=k) (ia:=ia) (is:=is) (isv:=isv) (sa:=sa) (sv:=sv) (T:=T) (z:=z) (fun i=>phs.getD i (.eq undef)) (f0:=fun t=>a.tmps.getD t undef) hz hs (fun i v w w' h u=>(hph.at i) v w w' h u) hA hC hF hks hD hl hbd hlit hik hiak hne (by simpa using hia) ?_ ?_ hsv hpa ?_ ?_ fuel listed a hf hu ha (fun _=>rfl))
 · obtain⟨ty,ps,af,e⟩:=his
   exact⟨ty,ps,af,by rw[←e];simpa using hos⟩
 · intro o ho
   have:opsL[is]?=some o:=by simpa using ho
   rw[hos]at this;cases this
   exact hlk
 · intro i o hi h1 h2 ho
   have h0:=(hop w.drew (KeepT.refl T _)).at (sub i o hi ho)
   rw[Nat.zero_add]at h0
   rcases h0 with(e|e)|⟨hg,_⟩
   · exact absurd e h1
   · exact absurd e h2
   refine⟨hg,fun W hW a ha=>?_⟩
   have h3:=(hop W hW).at (sub i o hi ho)
   rw[Nat.zero_add]at h3
   rcases h3 with(e|e)|⟨_,h⟩
   · exact absurd e h1
   · exact absurd e h2
   exact h a ha
 intro f W B hUp hfa hB hblk fuel' listed' a' hf' hu' ha' hsl'
 have key:∀i o d,i<k→opsL[i]?=some o→o.dst=some d→(phs.getD i (.eq undef)).holds (f d) W:=by
   intro i o d hik ho hd
   have ho':opsL.toArray[i]?=some o:=by simpa using ho
   have hmem:(d,phs.getD i (.eq undef))∈Hj opsL.toArray (fun i=>phs.getD i (.eq undef)) 0 k:=by
     unfold Hj
     rw[List.mem_filterMap]
     exact⟨i,List.mem_range.2 hik,by rw[if_pos (by simp),ho'];simp[hd]⟩
   obtain⟨q',hq⟩:=H3 hmem
   obtain⟨j,p,_,hjk,hp,hpd,e⟩:=E6 hq
   have:j=i:=by
     by_cases ee:j=i
     · exact ee
     exact absurd hpd ((C8 hD (Nat.zero_le _) hik ho' hd).2 j p (Nat.zero_le _) hjk ee hp)
   subst this
   have:=ha'.val d q' (Lw hq)
   rw[hsl',e]at this
   exact this
 refine Et hTl hA (opsL.toArray.size-k) k fuel' listed' a' W rfl (by simp;omega) (Nat.le_refl _) hf' hu' (hend W B f hUp hB hblk key a' ⟨ha'.defers,ha'.size,fun t q ht=>?_⟩)
 by_cases e:t=sa
 · subst e;rw[A7]at ht;cases ht
   exact(hsl' _).trans hfa
 rw[A8 e]at ht
 rcases C6 ht with h|h
 · obtain⟨d,_,he⟩:=List.mem_map.1 (J0 h)
   cases he
   exact hsl' _
 refine ha'.val t q ?_
 rw[Fb]
 · exact h
 cases hq:lk (Hj opsL.toArray (fun i=>phs.getD i (.eq undef)) 0 k) t with
 |none=>rfl
 |some q'=>
   obtain⟨j,p,_,hjk,hp,hpd,_⟩:=E6 hq
   exact absurd hpd (hbd t q h j p (Nat.zero_le _) hjk hp)
end
class Tu(P:Program)(T:TypeId) where
  u:TypeDesc
  e:P.underlying T=some u
class Ts(P:Program)(T:TypeId) where
  k:Nat
  e:∀w,(sizeOf T).run P w=.ok k w
class Ta(P:Program)(T:TypeId) where
  b:Bool
  e:∀w,(isAgg T).run P w=.ok b w
def nF:List Field→Nat→Option Field
  |[],_=>none
  |x::_,0=>some x
  |_::l,i+1=>nF l i
theorem xC:∀(l:List Field)(i:Nat),nF l i=l[i]?
  |[],_=>rfl
  |_::_,0=>rfl
  |_::l,i+1=>xC l i
section
variable {P:Program}{n:Nat}{ds:List Deferred}{l:Env}{w:World}{d:Option Tmp}{ty:TypeId}{ps:String}{af:Array Edge}{g:Option (Nat×Bool)}{T t B o:Nat}
theorem PEv.fB{S i:Nat}(off:Nat){fs:Array Field}{f:Field}[q:Tu P S](hx:lk l t=some (.eq (.pointer (some ⟨B,o,none⟩))))(hu:q.u=.struct fs:=by exact rfl)(hf:nF fs.toList i=some f:=by exact rfl){T1:TypeId}(ht:f.type=T1:=by exact rfl)[r:Ts P T1](ho:f.offset=off:=by exact rfl)(hk:Nat.beq r.k 0=false:=by exact rfl):PEv P n ds l w ⟨d,.fieldAddr S (.tmp t) i,ty,ps,af,g⟩ (.pointer (some ⟨B,o+off,none⟩)):=.fA off (hu▸q.e) (by rw[xC]at hf;simpa using hf) (ht▸r.e) hx ho hk
theorem PEv.lb{ad:Addr}{v:Value}[q:Ta P T](hx:lk l t=some (.eq (.pointer (some ad))))(hc:w.cell? ad=some v)(hb:q.b=false:=by exact rfl):PEv P n ds l w ⟨d,.load T (.tmp t),ty,ps,af,g⟩ v:=.ld (hb▸q.e) hx hc
theorem PEv.lc{cs:Array Value}[q:Ta P T][r:Ts P T](hx:lk l t=some (.eq (.pointer (some ⟨B,o,none⟩))))(hc:AggAt w B o cs)(hb:q.b=true:=by exact rfl)(hk:cs.size=r.k:=by exact rfl):PEv P n ds l w ⟨d,.load T (.tmp t),ty,ps,af,g⟩ (.agg cs):=.la (hb▸q.e) r.e hx hc hk
end
section
variable {P:Program}{n:Nat}{l:Env}{w:World}{fn:Func}{Post:Value→World→Prop}
theorem KW.q{t:Tmp}{v:Value}(h:Post v w)(hr:fn.results=#[.tmp t]:=by exact rfl)(hv:lk l t=some (.eq v):=by exact rfl):KW n [] (bodyPost P fn (fun e w'=>∃v,e=.returned v∧Post v w') .ret) l w  :=rV hr hv ⟨_,rfl,h⟩
end
section
variable {P:Program}{n:Nat}{ds:List Deferred}{l:Env}{w:World}{d:Option Tmp}{ty:TypeId}{ps:String}{af:Array Edge}{g:Option (Nat×Bool)}{T T':TypeId}{t t':Nat}{v:Value}
theorem Vals.ct{xs:List Operand}{vs:List Value}(h:lk l t=some (.eq v))(r:Vals l xs vs):Vals l (.tmp t::xs) (v::vs):=Vals.cons (.tmp h) r
theorem Vals.cu(h:lk l t=some (.eq v)):Vals l [.tmp t] [v]:=Vals.cons (.tmp h) .nil
theorem Parts.ct{i:Nat}{xs:List (Nat×Operand)}{vs:List (Nat×Value)}(h:lk l t=some (.eq v))(r:Parts l xs vs):Parts l ((i,.tmp t)::xs) ((i,v)::vs):=Parts.cons (.tmp h) r
theorem Parts.cu{i:Nat}(h:lk l t=some (.eq v)):Parts l [(i,.tmp t)] [(i,v)]:=Parts.cons (.tmp h) .nil
theorem PEv.mv(h:lk l t=some (.eq v)):PEv P n ds l w ⟨d,.move (.tmp t),ty,ps,af,g⟩ v:=.move (.tmp h)
theorem PEv.xt{i:Nat}{vs:Array Value}(h:lk l t=some (.eq (.tuple vs)))(hn:nth vs.toList i=some v):PEv P n ds l w ⟨d,.extract (.tmp t) i,ty,ps,af,g⟩ v:=.extract (.tmp h) hn
theorem REv.bA{cs:Array Value}(h:lk l t=some (.eq (.agg cs))):REv P n ds l w ⟨d,.box T (.tmp t),ty,ps,af,g⟩ (aU w cs T):=.GC (.tmp h)
theorem PEv.ic{k:Nat}(h:lk l t=some (.eq (.int .i64 (k:Int))))(hk:k<9223372036854775807):PEv P n ds l w ⟨d,.binOp .add T (.tmp t) (.const (.int .i64 1)) T',ty,ps,af,g⟩ (.int .i64 ((k+1:Nat):Int)):=.inc (.tmp h) hk
theorem PEv.nc{ad:Addr}(h:lk l t=some (.eq (.pointer (some ad)))):PEv P n ds l w ⟨d,.nilCheck (.tmp t),ty,ps,af,g⟩ (.pointer (some ad)):=.nilCheck (.tmp h)
theorem PEv.l2{k:IntKind}{i j:Int}(h:lk l t=some (.eq (.int k i)))(h':lk l t'=some (.eq (.int k j))):PEv P n ds l w ⟨d,.binOp .lss T (.tmp t) (.tmp t') T',ty,ps,af,g⟩ (.bool (decide (i<j))):=.lss (.tmp h) (.tmp h')
theorem PEv.n1{p:Bool}(h:lk l t=some (.eq (.bool p))):PEv P n ds l w ⟨d,.unOp .not T (.tmp t),ty,ps,af,g⟩ (.bool !p):=.not (.tmp h)
theorem PEv.pa{x:Operand}{p b:Bool}(h:lk l t=some (.eq (.bool p)))(hx:p=true→Val l x (.bool b)):PEv P n ds l w ⟨d,.pick (.tmp t) x (.const (.bool false)),ty,ps,af,g⟩ (.bool (p&&b)):=.F0 (.tmp h) hx
theorem PEv.po{y:Operand}{p b:Bool}(h:lk l t=some (.eq (.bool p)))(hy:p=false→Val l y (.bool b)):PEv P n ds l w ⟨d,.pick (.tmp t) (.const (.bool true)) y,ty,ps,af,g⟩ (.bool (p||b)):=.El (.tmp h) hy
end
section
variable {R:Option Nat}{m:Nat}{P:Program}{n:Nat}{ds:List Deferred}{Q:Exit→Go.Act→World→Prop}{l:Env}{w:World}{t:Nat}{x y:Code}
theorem CW.b{p:Bool}(h:lk l t=some (.eq (.bool p)))(ht:p=true→CW R m P n ds x Q l w)(hf:p=false→CW R m P n ds y Q l w):CW R m P n ds (.cond (.tmp t) x y) Q l w:=CW.cond (.tmp h) ht hf
theorem CW.f(h:lk l t=some (.eq (.bool false)))(k:CW R m P n ds y Q l w):CW R m P n ds (.cond (.tmp t) x y) Q l w:=Mg (.tmp h) k
theorem CW.v(h:lk l t=some (.eq (.bool true)))(k:CW R m P n ds x Q l w):CW R m P n ds (.cond (.tmp t) x y) Q l w:=Vw (.tmp h) k
def gq(l:Env)(o:Oper)(ops:Array Oper)(n:Nat):Option (Bool×Bool×Nat):=
  match o.guard with
  |some (j,want)=>match ops[j]? with
    |some oj=>match oj.dst with
      |some dj=>match o.dst with
        |some d=>match lk l dj with
          |some (.eq (.bool b))=>match Nat.ble (dj+1) n with
            |true=>match Nat.ble (d+1) n with
              |true=>some (want,b,d)
              |false=>none
            |false=>none
          |_=>none
        |none=>none
      |none=>none
    |none=>none
  |none=>none
theorem yB{o:Oper}{ops:Array Oper}{want b:Bool}{d:Nat}(h:gq l o ops n=some (want,b,d)):∃j dj oj,o.guard=some (j,want)∧ops[j]?=some oj∧oj.dst=some dj∧Nat.ble (dj+1) n=true∧lk l dj=some (.eq (.bool b))∧o.dst=some d∧Nat.ble (d+1) n=true:=by
  unfold gq at h
  repeat' split at h
  all_goals cases h
  exact⟨_,_,_,‹_›,‹_›,‹_›,‹_›,‹_›,‹_›,‹_›⟩
theorem LW.gr{ops:Array Oper}{o:Oper}{rest:List Oper}{want b:Bool}{d:Nat}{v:Value}(h:gq l o ops n=some (want,b,d))(h1:(b==want)=true→PEv P n ds l w o v)(k:LW R m P n ds ops Q rest ((d,.cond (b==want) v)::l) w):LW R m P n ds ops Q (o::rest) l w:=by
  obtain⟨j,dj,oj,a1,a2,a3,a4,a5,a6,a7⟩:=yB h
  exact GA a1 a2 a3 a4 a5 a6 a7 h1 k
theorem Ey{dt:Option Tmp}{ty:TypeId}{ps:String}{af:Array Edge}{g:Option (Nat×Bool)}{ops:Array Oper}{rest:List Oper}{want b:Bool}{d:Nat}{v:Value}(h:gq l ⟨dt,.move (.tmp t),ty,ps,af,g⟩ ops n=some (want,b,d))(h1:lk l t=some (.eq v))(k:LW R m P n ds ops Q rest ((d,.cond (b==want) v)::l) w):LW R m P n ds ops Q (⟨dt,.move (.tmp t),ty,ps,af,g⟩::rest) l w:=LW.gr h (fun _=>.move (.tmp h1)) k
end
section
variable {S0:Nat→Prop}{w0 w:World}{B:Nat}{cs:Array Value}{T:TypeId}{a b c d e f:Asr}{X:List Asr}
theorem Sep.b0(h:Wx.Sep S0 w0 w (Bq B cs T::X)):Blk w B cs T:=Sep.blk h 0 rfl
theorem Sep.b1(h:Wx.Sep S0 w0 w (a::Bq B cs T::X)):Blk w B cs T:=Sep.blk h 1 rfl
theorem Sep.b2(h:Wx.Sep S0 w0 w (a::b::Bq B cs T::X)):Blk w B cs T:=Sep.blk h 2 rfl
theorem Sep.b3(h:Wx.Sep S0 w0 w (a::b::c::Bq B cs T::X)):Blk w B cs T:=Sep.blk h 3 rfl
theorem Sep.b4(h:Wx.Sep S0 w0 w (a::b::c::d::Bq B cs T::X)):Blk w B cs T:=Sep.blk h 4 rfl
theorem Sep.b5(h:Wx.Sep S0 w0 w (a::b::c::d::e::Bq B cs T::X)):Blk w B cs T:=Sep.blk h 5 rfl
end
theorem cT{P:Program}{w:World}(n:Nat){f:FuncId}{fn:Func}{c:Code}{args:List Value}{R:Ending→World→Prop}(hf:P.funcs[f]?=some fn)(hb:fn.body=some c)(h:CW none 9 P n [] c (bodyPost P fn R) (It args 0) w)(hn:fn.ntmps=n:=by exact rfl)(hl:Nat.ble args.length n=true:=by exact rfl):Calls P f args.toArray w R:=Pn hf hb hn hl h
theorem W0(w:World):∃w0,w0=w∧Wx.Sep no w0 w0 []:=⟨w,rfl,Sep.start no w⟩
theorem wQ{l:Env}{x:Operand}{v:Value}(h:Val l x v:=by first|exact .const _|exact .tmp rfl|exact .cond rfl (by first|assumption|(rw[hp];rfl)|(rw[hc,hp];rfl)|simp_all)):Val l x v:=h
end Go.Wx
namespace Go
theorem bQ{a b:Nat}(h:Nat.ble a b=true:=by exact rfl):a≤b:=Nat.le_of_ble_eq_true h
theorem tQ{p:Prop}(h:p:=by repeat' (first|exact trivial|refine⟨rfl,?_⟩)):p:=h
theorem uQ{p:Prop}(h:p:=by repeat' (first|exact trivial|refine⟨Wx.PhU.eq _,?_⟩)):p:=h
end Go
namespace Go.Proofs
open Go.Wx
open Go.Proofs.Tryz
instance:Ta prog 3:=⟨_,isAgg3⟩
instance:Ta prog 4:=⟨_,isAgg4⟩
instance:Ta prog 5:=⟨_,isAgg5⟩
instance:Ta prog 9:=⟨_,isAgg9⟩
instance:Ta prog 24:=⟨_,isAgg24⟩
instance:Ta prog 26:=⟨_,isAgg26⟩
instance:Ta prog 28:=⟨_,isAgg28⟩
instance:Ta prog 35:=⟨_,isAgg35⟩
instance:Ta prog 37:=⟨_,isAgg37⟩
instance:Ta prog 50:=⟨_,isAgg50⟩
instance:Ta prog 51:=⟨_,isAgg51⟩
instance:Ta prog 52:=⟨_,isAgg52⟩
instance:Ta prog 54:=⟨_,isAgg54⟩
instance:Ta prog 56:=⟨_,isAgg56⟩
instance:Ta prog 58:=⟨_,isAgg58⟩
instance:Ta prog 61:=⟨_,isAgg61⟩
instance:Ta prog 63:=⟨_,isAgg63⟩
instance:Ta prog 68:=⟨_,isAgg68⟩
instance:Ta prog 70:=⟨_,isAgg70⟩
instance:Ta prog 74:=⟨_,isAgg74⟩
instance:Ta prog 81:=⟨_,isAgg81⟩
instance:Ta prog 82:=⟨_,isAgg82⟩
instance:Ta prog 87:=⟨_,isAgg87⟩
instance:Ta prog 91:=⟨_,isAgg91⟩
instance:Ta prog 92:=⟨_,isAgg92⟩
instance:Ta prog 93:=⟨_,isAgg93⟩
instance:Ta prog 95:=⟨_,isAgg95⟩
instance:Ta prog 99:=⟨_,isAgg99⟩
instance:Ta prog 101:=⟨_,isAgg101⟩
instance:Ta prog 104:=⟨_,isAgg104⟩
instance:Ta prog 105:=⟨_,isAgg105⟩
instance:Ta prog 108:=⟨_,isAgg108⟩
instance:Ta prog 112:=⟨_,isAgg112⟩
instance:Ta prog 118:=⟨_,isAgg118⟩
instance:Ta prog 130:=⟨_,isAgg130⟩
instance:Ta prog 152:=⟨_,isAgg152⟩
instance:Ta prog 153:=⟨_,isAgg153⟩
instance:Ta prog 154:=⟨_,isAgg154⟩
instance:Ta prog 162:=⟨_,isAgg162⟩
instance:Ta prog 177:=⟨_,isAgg177⟩
instance:Ta prog 192:=⟨_,isAgg192⟩
instance:Ta prog 193:=⟨_,isAgg193⟩
instance:Ta prog 197:=⟨_,isAgg197⟩
instance:Ta prog 208:=⟨_,isAgg208⟩
instance:Ta prog 223:=⟨_,isAgg223⟩
instance:Ta prog 225:=⟨_,isAgg225⟩
instance:Ta prog 259:=⟨_,isAgg259⟩
instance:Ta prog 260:=⟨_,isAgg260⟩
instance:Ta prog 283:=⟨_,isAgg283⟩
instance:Ts prog 3:=⟨_,sizeOf3⟩
instance:Ts prog 4:=⟨_,sizeOf4⟩
instance:Ts prog 9:=⟨_,sizeOf9⟩
instance:Ts prog 24:=⟨_,sizeOf24⟩
instance:Ts prog 26:=⟨_,sizeOf26⟩
instance:Ts prog 28:=⟨_,sizeOf28⟩
instance:Ts prog 35:=⟨_,sizeOf35⟩
instance:Ts prog 37:=⟨_,sizeOf37⟩
instance:Ts prog 50:=⟨_,sizeOf50⟩
instance:Ts prog 51:=⟨_,sizeOf51⟩
instance:Ts prog 52:=⟨_,sizeOf52⟩
instance:Ts prog 54:=⟨_,sizeOf54⟩
instance:Ts prog 56:=⟨_,sizeOf56⟩
instance:Ts prog 58:=⟨_,sizeOf58⟩
instance:Ts prog 61:=⟨_,sizeOf61⟩
instance:Ts prog 63:=⟨_,sizeOf63⟩
instance:Ts prog 68:=⟨_,sizeOf68⟩
instance:Ts prog 70:=⟨_,sizeOf70⟩
instance:Ts prog 74:=⟨_,sizeOf74⟩
instance:Ts prog 81:=⟨_,sizeOf81⟩
instance:Ts prog 82:=⟨_,sizeOf82⟩
instance:Ts prog 87:=⟨_,sizeOf87⟩
instance:Ts prog 91:=⟨_,sizeOf91⟩
instance:Ts prog 92:=⟨_,sizeOf92⟩
instance:Ts prog 101:=⟨_,sizeOf101⟩
instance:Ts prog 108:=⟨_,sizeOf108⟩
instance:Ts prog 118:=⟨_,sizeOf118⟩
instance:Ts prog 153:=⟨_,sizeOf153⟩
instance:Ts prog 154:=⟨_,sizeOf154⟩
instance:Ts prog 156:=⟨_,sizeOf156⟩
instance:Ts prog 162:=⟨_,sizeOf162⟩
instance:Ts prog 223:=⟨_,sizeOf223⟩
instance:Ts prog 225:=⟨_,sizeOf225⟩
instance:Ts prog 283:=⟨_,sizeOf283⟩
instance:Tu prog 28:=⟨_,underlying28⟩
instance:Tu prog 35:=⟨_,underlying35⟩
instance:Tu prog 50:=⟨_,underlying50⟩
instance:Tu prog 54:=⟨_,underlying54⟩
instance:Tu prog 56:=⟨_,underlying56⟩
instance:Tu prog 58:=⟨_,underlying58⟩
instance:Tu prog 61:=⟨_,underlying61⟩
instance:Tu prog 63:=⟨_,underlying63⟩
instance:Tu prog 70:=⟨_,underlying70⟩
instance:Tu prog 74:=⟨_,underlying74⟩
instance:Tu prog 84:=⟨_,underlying84⟩
instance:Tu prog 101:=⟨_,underlying101⟩
instance:Tu prog 118:=⟨_,underlying118⟩
instance:Tu prog 156:=⟨_,underlying156⟩
instance:Tu prog 158:=⟨_,underlying158⟩
instance:Tu prog 164:=⟨_,underlying164⟩
instance:Tu prog 225:=⟨_,underlying225⟩
instance:Tu prog 264:=⟨_,underlying264⟩
instance:Tu prog 283:=⟨_,underlying283⟩
end Go.Proofs
namespace Go.Wx
structure Fld where
 off:Nat
 lo:Int
 hi:Int
def Co(o:Nat):Fld:=⟨o,1,1000000⟩
def Cr:List Fld:=[Co 1]
def J1:List Fld:=[Co 14,Co 15]
def C1:List Fld:=[⟨11,0,59⟩,⟨12,0,3⟩]
def Cl:Fld:=⟨5,0,1000000⟩
def Dp:List Fld:=[Cl,⟨6,0,1000000⟩]
def Je:List Fld:=[⟨7,0,1000000⟩,⟨9,0,1000000⟩,⟨11,0,60⟩,⟨12,0,4⟩,⟨13,0,40⟩,⟨14,0,1000000⟩,⟨15,0,1000000⟩]
def Hu:Fld:=⟨17,1,255⟩
def Kn:Fld:=⟨16,-1000000,1000000⟩
theorem Un{α:Type}{xss:List (List α)}{k:Nat}{ys:List α}(h:xss[k]?=some ys):(xss.take (k+1)).flatten=(xss.take k).flatten++ys:=by
 obtain⟨hk,e⟩:=List.getElem?_eq_some_iff.1 h
 rw[List.take_add_one,h];simp
theorem Tw{α:Type}(xss:List (List α))(k:Nat):((xss.take k).flatten).length≤xss.flatten.length:=by
 have:xss.flatten=(xss.take k).flatten++(xss.drop k).flatten:=by rw[←List.flatten_append,List.take_append_drop]
 rw[this,List.length_append];omega
def Mv:List (List Fld):=[[],Cr++[Co 7]++C1++[⟨13,0,39⟩]++J1++Dp++[⟨16,-10000000,10000000⟩],Cr++[Cl,Kn],Cr++[Co 7,Co 8,Cl],[Co 7,Co 9,Co 10,Cl],[Co 10],Cr++C1++J1++Dp,Cr++Je++Dp++[Hu],[Co 8,Hu,Cl],Cr++C1++[Cl],[Co 14,Cl,Kn],Cr++C1++Dp]
def Ro:List (List Fld):=[[],Cr,Cr,Cr,[Co 7,Cl],[Co 10],Cr,Cr,[Co 8,Hu],Cr,[Co 14,Cl],Cr]
def fieldsOf(k:Int):List Fld:=Mv.getD k.toNat []
def Eu(k:Int):List Fld:=Ro.getD k.toNat []
def G0(k:Int):Nat:=[0,1,0,2,0,0,1,1,0,0,0,1].getD k.toNat 0
def Gd(k:Int):Bool:=decide (k=5)
end Go.Wx
namespace Go.Proofs.YtdilcdgjklimoaaGreatDoor
open Go.Proofs.Tryz
open Go.Wx Go.RowKit
def sC:Nat→FuncId:=fun o=>match o with
 |1=>141
 |5=>200
 |6=>199
 |7=>145
 |8=>158
 |9=>146
 |10=>159
 |11=>147
 |12=>148
 |13=>149
 |14=>142
 |15=>143
 |16=>151
 |17=>150
 |_=>0
def Fld.cells(x:Fld):Array Go.Value:=#[.func (.func (sC x.off)) #[] #[],vi x.lo,vi x.hi]
theorem Fld.one(x:Fld):(Fld.cells x).all (·.oneCell')=true:=by simp[Fld.cells,Value.oneCell']
theorem yC(b:Nat)(w:World):Ret prog 141 #[.pointer (some ⟨b,0,none⟩)] w fun r w'=>r=.pointer (some ⟨b,1,none⟩)∧Up w w':=by
 have hW:=Up.refl w
 refine cT 6 func141 rfl (Af (Az (Am (Aa (I rfl (U (.nc rfl) (U (.fB 1 rfl) (LW.A rfl (Ai (Al (KW.q ?_)))))))))))
 exact⟨rfl,hW⟩
theorem mT(b:Nat)(w:World):Ret prog 200 #[.pointer (some ⟨b,0,none⟩)] w fun r w'=>r=.pointer (some ⟨b,5,none⟩)∧Up w w':=by
 have hW:=Up.refl w
 refine cT 6 func200 rfl (Af (Az (Am (Aa (I rfl (U (.nc rfl) (U (.fB 5 rfl) (LW.A rfl (Ai (Al (KW.q ?_)))))))))))
 exact⟨rfl,hW⟩
theorem iP(b:Nat)(w:World):Ret prog 199 #[.pointer (some ⟨b,0,none⟩)] w fun r w'=>r=.pointer (some ⟨b,6,none⟩)∧Up w w':=by
 have hW:=Up.refl w
 refine cT 6 func199 rfl (Af (Az (Am (Aa (I rfl (U (.nc rfl) (U (.fB 6 rfl) (LW.A rfl (Ai (Al (KW.q ?_)))))))))))
 exact⟨rfl,hW⟩
theorem iQ(b:Nat)(w:World):Ret prog 145 #[.pointer (some ⟨b,0,none⟩)] w fun r w'=>r=.pointer (some ⟨b,7,none⟩)∧Up w w':=by
 have hW:=Up.refl w
 refine cT 6 func145 rfl (Af (Az (Am (Aa (I rfl (U (.nc rfl) (U (.fB 7 rfl) (LW.A rfl (Ai (Al (KW.q ?_)))))))))))
 exact⟨rfl,hW⟩
theorem iR(b:Nat)(w:World):Ret prog 158 #[.pointer (some ⟨b,0,none⟩)] w fun r w'=>r=.pointer (some ⟨b,8,none⟩)∧Up w w':=by
 have hW:=Up.refl w
 refine cT 6 func158 rfl (Af (Az (Am (Aa (I rfl (U (.nc rfl) (U (.fB 8 rfl) (LW.A rfl (Ai (Al (KW.q ?_)))))))))))
 exact⟨rfl,hW⟩
theorem sD(b:Nat)(w:World):Ret prog 146 #[.pointer (some ⟨b,0,none⟩)] w fun r w'=>r=.pointer (some ⟨b,9,none⟩)∧Up w w':=by
 have hW:=Up.refl w
 refine cT 6 func146 rfl (Af (Az (Am (Aa (I rfl (U (.nc rfl) (U (.fB 9 rfl) (LW.A rfl (Ai (Al (KW.q ?_)))))))))))
 exact⟨rfl,hW⟩
theorem Xv(b:Nat)(w:World):Ret prog 159 #[.pointer (some ⟨b,0,none⟩)] w fun r w'=>r=.pointer (some ⟨b,10,none⟩)∧Up w w':=by
 have hW:=Up.refl w
 refine cT 6 func159 rfl (Af (Az (Am (Aa (I rfl (U (.nc rfl) (U (.fB 10 rfl) (LW.A rfl (Ai (Al (KW.q ?_)))))))))))
 exact⟨rfl,hW⟩
theorem mU(b:Nat)(w:World):Ret prog 147 #[.pointer (some ⟨b,0,none⟩)] w fun r w'=>r=.pointer (some ⟨b,11,none⟩)∧Up w w':=by
 have hW:=Up.refl w
 refine cT 6 func147 rfl (Af (Az (Am (Aa (I rfl (U (.nc rfl) (U (.fB 11 rfl) (LW.A rfl (Ai (Al (KW.q ?_)))))))))))
 exact⟨rfl,hW⟩
theorem Xw(b:Nat)(w:World):Ret prog 148 #[.pointer (some ⟨b,0,none⟩)] w fun r w'=>r=.pointer (some ⟨b,12,none⟩)∧Up w w':=by
 have hW:=Up.refl w
 refine cT 6 func148 rfl (Af (Az (Am (Aa (I rfl (U (.nc rfl) (U (.fB 12 rfl) (LW.A rfl (Ai (Al (KW.q ?_)))))))))))
 exact⟨rfl,hW⟩
theorem mV(b:Nat)(w:World):Ret prog 149 #[.pointer (some ⟨b,0,none⟩)] w fun r w'=>r=.pointer (some ⟨b,13,none⟩)∧Up w w':=by
 have hW:=Up.refl w
 refine cT 6 func149 rfl (Af (Az (Am (Aa (I rfl (U (.nc rfl) (U (.fB 13 rfl) (LW.A rfl (Ai (Al (KW.q ?_)))))))))))
 exact⟨rfl,hW⟩
theorem bC(b:Nat)(w:World):Ret prog 142 #[.pointer (some ⟨b,0,none⟩)] w fun r w'=>r=.pointer (some ⟨b,14,none⟩)∧Up w w':=by
 have hW:=Up.refl w
 refine cT 6 func142 rfl (Af (Az (Am (Aa (I rfl (U (.nc rfl) (U (.fB 14 rfl) (LW.A rfl (Ai (Al (KW.q ?_)))))))))))
 exact⟨rfl,hW⟩
theorem V2(b:Nat)(w:World):Ret prog 143 #[.pointer (some ⟨b,0,none⟩)] w fun r w'=>r=.pointer (some ⟨b,15,none⟩)∧Up w w':=by
 have hW:=Up.refl w
 refine cT 6 func143 rfl (Af (Az (Am (Aa (I rfl (U (.nc rfl) (U (.fB 15 rfl) (LW.A rfl (Ai (Al (KW.q ?_)))))))))))
 exact⟨rfl,hW⟩
theorem iS(b:Nat)(w:World):Ret prog 151 #[.pointer (some ⟨b,0,none⟩)] w fun r w'=>r=.pointer (some ⟨b,16,none⟩)∧Up w w':=by
 have hW:=Up.refl w
 refine cT 6 func151 rfl (Af (Az (Am (Aa (I rfl (U (.nc rfl) (U (.fB 16 rfl) (LW.A rfl (Ai (Al (KW.q ?_)))))))))))
 exact⟨rfl,hW⟩
theorem Xx(b:Nat)(w:World):Ret prog 150 #[.pointer (some ⟨b,0,none⟩)] w fun r w'=>r=.pointer (some ⟨b,17,none⟩)∧Up w w':=by
 have hW:=Up.refl w
 refine cT 6 func150 rfl (Af (Az (Am (Aa (I rfl (U (.nc rfl) (U (.fB 17 rfl) (LW.A rfl (Ai (Al (KW.q ?_)))))))))))
 exact⟨rfl,hW⟩
theorem C9(g:FuncId)(w:World):Ret prog 140 #[.func (.func g) #[] #[]] w fun r w'=>r=.agg #[.func (.func g) #[] #[],vi 1,vi 1000000]∧Up w w':=by
 have hW:=Up.refl w
 refine cT 5 func140 rfl (Af (Ao (.Br zeroValue225) rfl ?_))
 rintro _ w1 ⟨B2,rfl,NB2⟩
 have eB2:=NB2.at_
 replace hW:=hW.up NB2.up
 have hB2:=NB2.blk
 refine Am (Aa (I rfl (U (.build (cs:=#[.func (.func g) #[] #[],vi 1,vi 1000000]) underlying225 zeroValue225 Ck (.ct rfl (.cons (.const _) (.cons (.const _) .nil))) rfl) (A9 (.Ca sizeOf225 rfl (.t rfl) (.t rfl) eQ hB2 rfl) ?_))))
 intro w2 Nw2
 replace hW:=hW.sto Nw2.sto oQ
 replace hB2:=Nw2.blk
 refine Ai (Al (F6 rfl rfl isAgg225 sizeOf225 rfl (hB2.agg) ⟨_,rfl,?_⟩))
 exact⟨rfl,hW⟩
theorem Gu(w:World):Ret prog 156 #[] w fun r w'=>r=.agg (Fld.cells Cl)∧Up w w':=by
 have hW:=Up.refl w
 refine cT 2 func156 rfl (Af (Ao (.Br zeroValue225) rfl ?_))
 rintro _ w1 ⟨B0,rfl,NB0⟩
 have eB0:=NB0.at_
 replace hW:=hW.up NB0.up
 have hB0:=NB0.blk
 refine Am (Aa (U (.build (cs:=(Fld.cells Cl)) underlying225 zeroValue225 Ck (.cons (.func _) (.cons (.const _) (.cons (.const _) .nil))) rfl) (A9 (.Ca sizeOf225 rfl (.t rfl) (.t rfl) (Fld.one _) hB0 rfl) ?_)))
 intro w2 Nw2
 replace hW:=hW.sto Nw2.sto oQ
 replace hB0:=Nw2.blk
 refine Ai (Al (F6 rfl rfl isAgg225 sizeOf225 rfl (hB0.agg) ⟨_,rfl,?_⟩))
 exact⟨rfl,hW⟩
theorem Lx(w:World):Ret prog 153 #[] w fun r w'=>SlT 225 w' r 3 Fld.cells C1∧Up w w':=by
 have hW:=Up.refl w
 refine cT 4 func153 rfl (Af (Az (Am (Aa (U (.build (cs:=(Fld.cells ⟨11,0,59⟩)) underlying225 zeroValue225 Ck (.cons (.func _) (.cons (.const _) (.cons (.const _) .nil))) rfl) (U (.build (cs:=(Fld.cells ⟨12,0,3⟩)) underlying225 zeroValue225 Ck (.cons (.func _) (.cons (.const _) (.cons (.const _) .nil))) rfl) (Ao (.buildSlice (xs:=C1) (enc:=Fld.cells) (mk:=fun x:Fld=>.agg (Fld.cells x)) underlying162 sizeOf225 zeroValue225 rfl cQ (fun _=>rfl) (fun _=>rfl) (.ct rfl (.cu rfl)) rfl) rfl ?_)))))))
 rintro _ w1 ⟨B3,cB3,rfl,NB3,yB3,xB3⟩
 replace hW:=hW.up NB3.up
 have hB3:=NB3.blk
 have hE3:=xB3
 refine LW.A rfl (Ai (Al (KW.q ?_)))
 exact⟨SlT.lit ⟨B3,cB3,rfl,NB3,yB3,hE3⟩,hW⟩
theorem Nx(w:World):Ret prog 154 #[] w fun r w'=>SlT 225 w' r 3 Fld.cells Dp∧Up w w':=by
 have hW:=Up.refl w
 refine cT 4 func154 rfl (Af (Az (Am (Aa (A6 (eC .nil (Nt)) rfl (Gu _) ?_)))))
 rintro _ w1 ⟨rfl,uw1⟩
 replace hW:=hW.up uw1
 refine U (.build (cs:=(Fld.cells ⟨6,0,1000000⟩)) underlying225 zeroValue225 Ck (.cons (.func _) (.cons (.const _) (.cons (.const _) .nil))) rfl) (Ao (.buildSlice (xs:=Dp) (enc:=Fld.cells) (mk:=fun x:Fld=>.agg (Fld.cells x)) underlying162 sizeOf225 zeroValue225 rfl cQ (fun _=>rfl) (fun _=>rfl) (.ct rfl (.cu rfl)) rfl) rfl ?_)
 rintro _ w2 ⟨B3,cB3,rfl,NB3,yB3,xB3⟩
 replace hW:=hW.up NB3.up
 have hB3:=NB3.blk
 have hE3:=xB3
 refine LW.A rfl (Ai (Al (KW.q ?_)))
 exact⟨SlT.lit ⟨B3,cB3,rfl,NB3,yB3,hE3⟩,hW⟩
theorem Ic(ad:Option Addr)(cp:Nat)(vs:List Go.Value)(xss:List (List Fld))(w:World)(hE0:Els w ad 1 (fun v=>#[v]) vs)(hl:xss.length=vs.length)(hx0:∀(i:Nat)(v:Go.Value)(xs:List Fld),vs[i]?=some v→xss[i]?=some xs→Sl w v 3 Fld.cells xs)(hv:vs.length≤1000)(hb:xss.flatten.length≤1000):Ret prog 152 #[.slice ad vs.length cp] w fun r w'=>SlT 225 w' r 3 Fld.cells xss.flatten∧Up w w':=by
 obtain⟨w0,rfl,hS⟩:=W0 w
 refine cT 16 func152 rfl (Af (Az (Am (Ah ?_))))
 replace hS:=hS.add (Up.refl _) (A':=J 225 3 Fld.cells (.slice none 0 0) ([]:List Fld)) (OwnS.nil _ _ _ _ _) (fun i h=>by cases h)
 refine Aa (I rfl (U (.Cw underlying278 (.t rfl)) (U (.move (.const _)) (Ai (Ae (A3 (σ:=Nat×Go.Value) (fun s w=>(s.1≤vs.length)∧(Sep no w0 w [J 225 3 Fld.cells s.2 ((xss.take s.1).flatten)])) (fun s=>[(7,.eq (vi (s.1:Int))),(2,.eq (s.2))]) ([(5,.eq _),(6,.eq _)]) (fun s=>vs.length-s.1) (0,.slice none 0 0) ?_ tQ ?_))))))
 ·exact⟨Nat.zero_le _,hS⟩
 rintro⟨k,v⟩ w1 ⟨hkk,hS⟩
 dsimp only at hkk hS
 refine Af (U (.l2 rfl rfl) (Am (CW.b rfl (fun h8=>?_) (fun h8=>?_))))
 ·refine Aj (Ac (Ah (Ae (Ah ?_))))
  have hE:=hE0.up hS.Ch
  have hkl:k<vs.length:=by simp at h8;omega
  refine Aa ?_
  obtain⟨x,hx⟩:=Aq (xs:=vs) (i:=k) oQ
  obtain⟨Bx,ox,ax,hcx⟩:=hE _ x hx
  refine U (.Aw underlying278 sizeOf162 (.t rfl) (.t rfl) oQ ax) (U (.lb rfl (hcx.nth (j:=0) rfl)) (LW.A rfl (Ai ?_)))
  obtain⟨ys,hys⟩:=Aq (xs:=xss) (i:=k) oQ
  have hSl:=((hx0 k x ys hx hys).up hS.Ch)
  have hfl:=Tw xss (k+1)
  rw[Un hys,List.length_append]at hfl
  refine Aa (I rfl (I rfl (Ao (.Cu (enc:=Fld.cells) (bytes:=24) (i:=Tryz.t225) underlying162 kQ rfl rfl rfl rfl cQ (fun _=>rfl) Fld.one (.t rfl) (.t rfl) (hS.own 0 rfl) hSl (by simp only[maxLen];omega) oQ) rfl ?_)))
  intro v13 w2 Gw2
  replace hS:=hS.Dw 0 rfl Gw2
  refine LW.A rfl (LW.nil (Ad (Ac (Aa (U (.ic rfl oQ) (I rfl (LW.nil (Ar ?_))))))))
  exact⟨(k+1,v13),⟨by omega,by rw[Un hys];exact hS⟩,tQ,by omega⟩
 refine A4 (Ab (Ab (An (Ac (Af (I rfl (LW.A rfl (Ai (Al (KW.q ?_))))))))))
 have hk2:xss.take k=xss:=List.take_of_length_le (by simp at h8;omega)
 rw[hk2]at hS
 exact⟨SlT.own (hS.own 0 rfl) (fun _=>rfl),hS.Ch⟩
def Ev:Nat→FuncId:=fun o=>match o with
 |1=>155
 |2=>144
 |_=>157
def ShV(w:World)(v:Go.Value)(fs ks:List Fld)(r:Nat)(t:Bool):Prop:=∃v1 v2,v=.agg #[v1,v2,.func (.func (Ev r)) #[] #[],.bool t]∧SlT 225 w v1 3 Fld.cells fs∧SlT 225 w v2 3 Fld.cells ks
theorem ShV.F1{w w':World}{v:Go.Value}{fs ks:List Fld}{r:Nat}{t:Bool}(h:ShV w v fs ks r t)(u:Cel w w'):ShV w' v fs ks r t:=let⟨v1,v2,e,h1,h2⟩:=h;⟨v1,v2,e,h1.F1 u,h2.F1 u⟩
def SlS(w:World)(v:Go.Value)(xss:List (List Fld)):Prop:=∃vs:List Go.Value,Sl w v 1 (fun v=>#[v]) vs∧xss.length=vs.length∧∀(i:Nat)(v:Go.Value)(xs:List Fld),vs[i]?=some v→xss[i]?=some xs→Sl w v 3 Fld.cells xs
theorem SlS.F1{w w':World}{v:Go.Value}{xss:List (List Fld)}(h:SlS w v xss)(u:Cel w w'):SlS w' v xss:=let⟨vs,h1,h2,h3⟩:=h;⟨vs,h1.F1 u,h2,fun i v xs a b=>(h3 i v xs a b).F1 u⟩
theorem J2(xss:List (List Fld)):PhC (.pred fun v w=>SlS w v xss):=fun _ _ _ h u=>SlS.F1 h u
theorem Gv(fs ks:List Fld)(r:Nat)(t:Bool):PhC (.pred fun v w=>ShV w v fs ks r t):=fun _ _ _ h u=>ShV.F1 h u
def ShMap(w:World)(b:Nat):Prop:=∃kv,IMap w b kv∧(∀k v,(k,v)∈kv→ShV w v (fieldsOf k) (Eu k) (G0 k) (Gd k))∧∀k,k∈kv.map (·.1)↔1≤k∧k≤11
theorem ShMap.up{w w':World}{b:Nat}(h:ShMap w b)(u:Up w w'):ShMap w' b:=let⟨kv,h1,h2,h3⟩:=h;⟨kv,h1.up u,fun k v m=>(h2 k v m).F1 u.F1,h3⟩
def AllSl(w:World):List Go.Value→List (List Fld)→Prop
 |[],[]=>True
 |v::vs,xs::xss=>Sl w v 3 Fld.cells xs∧AllSl w vs xss
 |_,_=>False
def Ty(t:Option Addr×Nat×Nat):Go.Value:=.slice t.1 t.2.1 t.2.2
theorem Els.Fc{α:Type}{mk:α→Go.Value}{w:World}{ad:Option Addr}{xs:List α}(h:Els w ad 1 (fun x=>#[mk x]) xs):Els w ad 1 (fun v=>#[v]) (xs.map mk):=fun i v hv=>by
 rw[List.getElem?_map]at hv
 cases hx:xs[i]? with
 |none=>rw[hx]at hv;cases hv
 |some x=>rw[hx]at hv;cases hv;exact h i x hx
theorem AllSl.at{w:World}:∀{vs:List Go.Value}{xss:List (List Fld)},AllSl w vs xss→xss.length=vs.length∧∀(i:Nat)(v:Go.Value)(xs:List Fld),vs[i]?=some v→xss[i]?=some xs→Sl w v 3 Fld.cells xs
 |[],[],_=>⟨rfl,fun i v xs h=>by simp at h⟩
 |v::vs,xs::xss,h=>⟨by simp[(AllSl.at h.2).1],fun i v' xs' e1 e2=>by
   match i with
   |0=>cases e1;cases e2;exact h.1
   |i+1=>rw[List.getElem?_cons_succ]at e1 e2;exact(AllSl.at h.2).2 i v' xs' e1 e2⟩
 |[],_::_,h=>h.elim
 |_::_,[],h=>h.elim
theorem AllSl.up{w w':World}(u:Up w w'):∀{vs:List Go.Value}{xss:List (List Fld)},AllSl w vs xss→AllSl w' vs xss
 |[],[],_=>trivial
 |_::_,_::_,h=>⟨h.1.F1 u.F1,AllSl.up u h.2⟩
 |[],_::_,h=>h.elim
 |_::_,[],h=>h.elim
set_option maxHeartbeats 8000000 in
theorem J3(w:World):Ret prog 62 #[] w fun r w'=>∃b,r=.map (some b)∧ShMap w' b∧Up w w':=by
 have hW:=Up.refl w
 refine cT 118 func62 rfl (Af (Az (Am (Aa (A6 (eC (.cons (.func _) .nil) (Ho)) rfl (C9 _ _) ?_)))))
 rintro _ w1 ⟨rfl,uw1⟩
 replace hW:=hW.up uw1
 refine Ao (.buildSlice (xs:=Cr) (enc:=Fld.cells) (mk:=fun x:Fld=>.agg (Fld.cells x)) underlying162 sizeOf225 zeroValue225 rfl cQ (fun _=>rfl) (fun _=>rfl) (.cu rfl) rfl) rfl ?_
 rintro _ w2 ⟨B8,cB8,rfl,NB8,yB8,xB8⟩
 replace hW:=hW.up NB8.up
 have hB8:=NB8.blk
 have hE8:=xB8
 refine LW.A rfl (Am ?_)
 have hT8:=SlT.lit ⟨B8,cB8,rfl,NB8,yB8,hE8⟩
 refine Aa (A6 (eC (.cons (.func _) .nil) (Ho)) rfl (C9 _ _) ?_)
 rintro _ w3 ⟨rfl,uw3⟩
 replace hW:=hW.up uw3
 replace hB8:=hB8.up uw3
 replace hE8:=hE8.up uw3
 replace hT8:=hT8.up uw3
 refine A6 (eC (.cons (.func _) .nil) (Ho)) rfl (C9 _ _) ?_
 rintro _ w4 ⟨rfl,uw4⟩
 replace hW:=hW.up uw4
 replace hB8:=hB8.up uw4
 replace hE8:=hE8.up uw4
 replace hT8:=hT8.up uw4
 refine Ao (.buildSlice (xs:=J1) (enc:=Fld.cells) (mk:=fun x:Fld=>.agg (Fld.cells x)) underlying162 sizeOf225 zeroValue225 rfl cQ (fun _=>rfl) (fun _=>rfl) (.ct rfl (.cu rfl)) rfl) rfl ?_
 rintro _ w5 ⟨B11,cB11,rfl,NB11,yB11,xB11⟩
 replace hW:=hW.up NB11.up
 replace hB8:=hB8.up NB11.up
 replace hE8:=hE8.up NB11.up
 replace hT8:=hT8.up NB11.up
 have hB11:=NB11.blk
 have hE11:=xB11
 refine LW.A rfl (Am ?_)
 have hT11:=SlT.lit ⟨B11,cB11,rfl,NB11,yB11,hE11⟩
 refine Aa (U (.assign (.func _)) (Am (Aa (U (.build (cs:=(Fld.cells ⟨7,0,1000000⟩)) underlying225 zeroValue225 Ck (.cons (.func _) (.cons (.const _) (.cons (.const _) .nil))) rfl) (U (.build (cs:=(Fld.cells ⟨9,0,1000000⟩)) underlying225 zeroValue225 Ck (.cons (.func _) (.cons (.const _) (.cons (.const _) .nil))) rfl) (U (.build (cs:=(Fld.cells ⟨11,0,60⟩)) underlying225 zeroValue225 Ck (.cons (.func _) (.cons (.const _) (.cons (.const _) .nil))) rfl) (U (.build (cs:=(Fld.cells ⟨12,0,4⟩)) underlying225 zeroValue225 Ck (.cons (.func _) (.cons (.const _) (.cons (.const _) .nil))) rfl) (U (.build (cs:=(Fld.cells ⟨13,0,40⟩)) underlying225 zeroValue225 Ck (.cons (.func _) (.cons (.const _) (.cons (.const _) .nil))) rfl) (U (.build (cs:=(Fld.cells ⟨14,0,1000000⟩)) underlying225 zeroValue225 Ck (.cons (.func _) (.cons (.const _) (.cons (.const _) .nil))) rfl) (U (.build (cs:=(Fld.cells ⟨15,0,1000000⟩)) underlying225 zeroValue225 Ck (.cons (.func _) (.cons (.const _) (.cons (.const _) .nil))) rfl) (Ao (.buildSlice (xs:=Je) (enc:=Fld.cells) (mk:=fun x:Fld=>.agg (Fld.cells x)) underlying162 sizeOf225 zeroValue225 rfl cQ (fun _=>rfl) (fun _=>rfl) (.ct rfl (.ct rfl (.ct rfl (.ct rfl (.ct rfl (.ct rfl (.cu rfl))))))) rfl) rfl ?_)))))))))))
 rintro _ w6 ⟨B19,cB19,rfl,NB19,yB19,xB19⟩
 replace hW:=hW.up NB19.up
 replace hB8:=hB8.up NB19.up
 replace hE8:=hE8.up NB19.up
 replace hT8:=hT8.up NB19.up
 replace hB11:=hB11.up NB19.up
 replace hE11:=hE11.up NB19.up
 replace hT11:=hT11.up NB19.up
 have hB19:=NB19.blk
 have hE19:=xB19
 refine LW.A rfl (Am ?_)
 have hT19:=SlT.lit ⟨B19,cB19,rfl,NB19,yB19,hE19⟩
 refine Aa (U (.build (cs:=(Fld.cells Hu)) underlying225 zeroValue225 Ck (.cons (.func _) (.cons (.const _) (.cons (.const _) .nil))) rfl) (Ao (.Br zeroValue225) rfl ?_))
 rintro _ w7 ⟨B5,rfl,MB5⟩
 refine A9 (.Ca sizeOf225 rfl (.t rfl) (.t rfl) (Fld.one _) MB5.blk rfl) ?_
 intro w8 LB5
 have NB5:=MB5.set LB5
 replace hW:=hW.up NB5.up
 replace hB8:=hB8.up NB5.up
 replace hE8:=hE8.up NB5.up
 replace hT8:=hT8.up NB5.up
 replace hB11:=hB11.up NB5.up
 replace hE11:=hE11.up NB5.up
 replace hT11:=hT11.up NB5.up
 replace hB19:=hB19.up NB5.up
 replace hE19:=hE19.up NB5.up
 replace hT19:=hT19.up NB5.up
 have hB5:=NB5.blk
 refine Am (Aa (U (.build (cs:=(Fld.cells Kn)) underlying225 zeroValue225 Ck (.cons (.func _) (.cons (.const _) (.cons (.const _) .nil))) rfl) (Ao (.Br zeroValue225) rfl ?_)))
 rintro _ w9 ⟨B6,rfl,MB6⟩
 refine A9 (.Ca sizeOf225 rfl (.t rfl) (.t rfl) (Fld.one _) MB6.blk rfl) ?_
 intro w10 LB6
 have NB6:=MB6.set LB6
 replace hW:=hW.up NB6.up
 replace hB8:=hB8.up NB6.up
 replace hE8:=hE8.up NB6.up
 replace hT8:=hT8.up NB6.up
 replace hB11:=hB11.up NB6.up
 replace hE11:=hE11.up NB6.up
 replace hT11:=hT11.up NB6.up
 replace hB19:=hB19.up NB6.up
 replace hE19:=hE19.up NB6.up
 replace hT19:=hT19.up NB6.up
 replace hB5:=hB5.up NB6.up
 have hB6:=NB6.blk
 refine Am (iO 106 0 22 [(15,1,36),(24,2,44),(35,3,54),(45,4,63),(51,5,68),(60,6,76),(70,7,85),(79,8,93),(88,9,101),(97,10,109),(105,11,116)] [(.pred fun v _=>∃b,v=.map (some b)),(.pred fun v w=>SlT 225 w v 3 Fld.cells (Cr)),(.eq (.agg (Fld.cells (Co 7)))),(.pred fun v w=>SlT 225 w v 3 Fld.cells ([Co 7])),(.pred fun v w=>SlT 225 w v 3 Fld.cells (C1)),(.eq (.agg (Fld.cells (⟨13,0,39⟩)))),(.pred fun v w=>SlT 225 w v 3 Fld.cells ([⟨13,0,39⟩])),(.pred fun v w=>SlT 225 w v 3 Fld.cells (J1)),(.pred fun v w=>SlT 225 w v 3 Fld.cells (Dp)),(.eq (.agg (Fld.cells (⟨16,-10000000,10000000⟩)))),(.pred fun v w=>SlT 225 w v 3 Fld.cells ([⟨16,-10000000,10000000⟩])),(.pred fun v w=>SlS w v [Cr,[Co 7],C1,[⟨13,0,39⟩],J1,Dp,[⟨16,-10000000,10000000⟩]]),(.pred fun v w=>SlT 225 w v 3 Fld.cells (List.flatten [Cr,[Co 7],C1,[⟨13,0,39⟩],J1,Dp,[⟨16,-10000000,10000000⟩]])),(.pred fun v w=>SlT 225 w v 3 Fld.cells (Cr)),(.pred fun v w=>ShV w v (List.flatten [Cr,[Co 7],C1,[⟨13,0,39⟩],J1,Dp,[⟨16,-10000000,10000000⟩]]) (Cr) 1 false),(.eq undef),(.pred fun v w=>SlT 225 w v 3 Fld.cells (Cr)),(.eq (.agg (Fld.cells (Cl)))),(.eq (.agg (Fld.cells (Kn)))),(.pred fun v w=>SlT 225 w v 3 Fld.cells ([Cl,Kn])),(.pred fun v w=>SlS w v [Cr,[Cl,Kn]]),(.pred fun v w=>SlT 225 w v 3 Fld.cells (List.flatten [Cr,[Cl,Kn]])),(.pred fun v w=>SlT 225 w v 3 Fld.cells (Cr)),(.pred fun v w=>ShV w v (List.flatten [Cr,[Cl,Kn]]) (Cr) 0 false),(.eq undef),(.pred fun v w=>SlT 225 w v 3 Fld.cells (Cr)),(.eq (.agg (Fld.cells (Co 7)))),(.eq (.agg (Fld.cells (Co 8)))),(.eq (.agg (Fld.cells (Cl)))),(.pred fun v w=>SlT 225 w v 3 Fld.cells ([Co 7,Co 8,Cl])),(.pred fun v w=>SlS w v [Cr,[Co 7,Co 8,Cl]]),(.pred fun v w=>SlT 225 w v 3 Fld.cells (List.flatten [Cr,[Co 7,Co 8,Cl]])),(.pred fun v w=>SlT 225 w v 3 Fld.cells (Cr)),(.eq (.func (.func (Ev 2)) #[] #[])),(.pred fun v w=>ShV w v (List.flatten [Cr,[Co 7,Co 8,Cl]]) (Cr) 2 false),(.eq undef),(.eq (.agg (Fld.cells (Co 7)))),(.eq (.agg (Fld.cells (Co 9)))),(.eq (.agg (Fld.cells (Co 10)))),(.eq (.agg (Fld.cells (Cl)))),(.pred fun v w=>SlT 225 w v 3 Fld.cells ([Co 7,Co 9,Co 10,Cl])),(.eq (.agg (Fld.cells (Co 7)))),(.eq (.agg (Fld.cells (Cl)))),(.pred fun v w=>SlT 225 w v 3 Fld.cells ([Co 7,Cl])),(.pred fun v w=>ShV w v ([Co 7,Co 9,Co 10,Cl]) ([Co 7,Cl]) 0 false),(.eq undef),(.eq (.agg (Fld.cells (Co 10)))),(.pred fun v w=>SlT 225 w v 3 Fld.cells ([Co 10])),(.eq (.agg (Fld.cells (Co 10)))),(.pred fun v w=>SlT 225 w v 3 Fld.cells ([Co 10])),(.pred fun v w=>ShV w v ([Co 10]) ([Co 10]) 0 true),(.eq undef),(.pred fun v w=>SlT 225 w v 3 Fld.cells (Cr)),(.pred fun v w=>SlT 225 w v 3 Fld.cells (C1)),(.pred fun v w=>SlT 225 w v 3 Fld.cells (J1)),(.pred fun v w=>SlT 225 w v 3 Fld.cells (Dp)),(.pred fun v w=>SlS w v [Cr,C1,J1,Dp]),(.pred fun v w=>SlT 225 w v 3 Fld.cells (List.flatten [Cr,C1,J1,Dp])),(.pred fun v w=>SlT 225 w v 3 Fld.cells (Cr)),(.pred fun v w=>ShV w v (List.flatten [Cr,C1,J1,Dp]) (Cr) 1 false),(.eq undef),(.pred fun v w=>SlT 225 w v 3 Fld.cells (Cr)),(.pred fun v w=>SlT 225 w v 3 Fld.cells (Je)),(.pred fun v w=>SlT 225 w v 3 Fld.cells (Dp)),(.eq (.agg (Fld.cells (Hu)))),(.pred fun v w=>SlT 225 w v 3 Fld.cells ([Hu])),(.pred fun v w=>SlS w v [Cr,Je,Dp,[Hu]]),(.pred fun v w=>SlT 225 w v 3 Fld.cells (List.flatten [Cr,Je,Dp,[Hu]])),(.pred fun v w=>SlT 225 w v 3 Fld.cells (Cr)),(.pred fun v w=>ShV w v (List.flatten [Cr,Je,Dp,[Hu]]) (Cr) 1 false),(.eq undef),(.eq (.agg (Fld.cells (Co 8)))),(.eq (.agg (Fld.cells (Hu)))),(.eq (.agg (Fld.cells (Cl)))),(.pred fun v w=>SlT 225 w v 3 Fld.cells ([Co 8,Hu,Cl])),(.eq (.agg (Fld.cells (Co 8)))),(.eq (.agg (Fld.cells (Hu)))),(.pred fun v w=>SlT 225 w v 3 Fld.cells ([Co 8,Hu])),(.pred fun v w=>ShV w v ([Co 8,Hu,Cl]) ([Co 8,Hu]) 0 false),(.eq undef),(.pred fun v w=>SlT 225 w v 3 Fld.cells (Cr)),(.pred fun v w=>SlT 225 w v 3 Fld.cells (C1)),(.eq (.agg (Fld.cells (Cl)))),(.pred fun v w=>SlT 225 w v 3 Fld.cells ([Cl])),(.pred fun v w=>SlS w v [Cr,C1,[Cl]]),(.pred fun v w=>SlT 225 w v 3 Fld.cells (List.flatten [Cr,C1,[Cl]])),(.pred fun v w=>SlT 225 w v 3 Fld.cells (Cr)),(.pred fun v w=>ShV w v (List.flatten [Cr,C1,[Cl]]) (Cr) 0 false),(.eq undef),(.eq (.agg (Fld.cells (Co 14)))),(.eq (.agg (Fld.cells (Cl)))),(.eq (.agg (Fld.cells (Kn)))),(.pred fun v w=>SlT 225 w v 3 Fld.cells ([Co 14,Cl,Kn])),(.eq (.agg (Fld.cells (Co 14)))),(.eq (.agg (Fld.cells (Cl)))),(.pred fun v w=>SlT 225 w v 3 Fld.cells ([Co 14,Cl])),(.pred fun v w=>ShV w v ([Co 14,Cl,Kn]) ([Co 14,Cl]) 0 false),(.eq undef),(.pred fun v w=>SlT 225 w v 3 Fld.cells (Cr)),(.pred fun v w=>SlT 225 w v 3 Fld.cells (C1)),(.pred fun v w=>SlT 225 w v 3 Fld.cells (Dp)),(.pred fun v w=>SlS w v [Cr,C1,Dp]),(.pred fun v w=>SlT 225 w v 3 Fld.cells (List.flatten [Cr,C1,Dp])),(.pred fun v w=>SlT 225 w v 3 Fld.cells (Cr)),(.pred fun v w=>ShV w v (List.flatten [Cr,C1,Dp]) (Cr) 1 false),(.eq undef)] underlying165 underlying3 kQ rfl kQ kQ kQ kQ kQ kQ kQ rfl cQ ⟨_,_,rfl⟩ ⟨PhC.pred fun _ _ _ h _=>h,Cb _ _ _ _,PhC.eq _,Cb _ _ _ _,Cb _ _ _ _,PhC.eq _,Cb _ _ _ _,Cb _ _ _ _,Cb _ _ _ _,PhC.eq _,Cb _ _ _ _,J2 _,Cb _ _ _ _,Cb _ _ _ _,Gv _ _ _ _,PhC.eq _,Cb _ _ _ _,PhC.eq _,PhC.eq _,Cb _ _ _ _,J2 _,Cb _ _ _ _,Cb _ _ _ _,Gv _ _ _ _,PhC.eq _,Cb _ _ _ _,PhC.eq _,PhC.eq _,PhC.eq _,Cb _ _ _ _,J2 _,Cb _ _ _ _,Cb _ _ _ _,PhC.eq _,Gv _ _ _ _,PhC.eq _,PhC.eq _,PhC.eq _,PhC.eq _,PhC.eq _,Cb _ _ _ _,PhC.eq _,PhC.eq _,Cb _ _ _ _,Gv _ _ _ _,PhC.eq _,PhC.eq _,Cb _ _ _ _,PhC.eq _,Cb _ _ _ _,Gv _ _ _ _,PhC.eq _,Cb _ _ _ _,Cb _ _ _ _,Cb _ _ _ _,Cb _ _ _ _,J2 _,Cb _ _ _ _,Cb _ _ _ _,Gv _ _ _ _,PhC.eq _,Cb _ _ _ _,Cb _ _ _ _,Cb _ _ _ _,PhC.eq _,Cb _ _ _ _,J2 _,Cb _ _ _ _,Cb _ _ _ _,Gv _ _ _ _,PhC.eq _,PhC.eq _,PhC.eq _,PhC.eq _,Cb _ _ _ _,PhC.eq _,PhC.eq _,Cb _ _ _ _,Gv _ _ _ _,PhC.eq _,Cb _ _ _ _,Cb _ _ _ _,PhC.eq _,Cb _ _ _ _,J2 _,Cb _ _ _ _,Cb _ _ _ _,Gv _ _ _ _,PhC.eq _,PhC.eq _,PhC.eq _,PhC.eq _,Cb _ _ _ _,PhC.eq _,PhC.eq _,Cb _ _ _ _,Gv _ _ _ _,PhC.eq _,Cb _ _ _ _,Cb _ _ _ _,Cb _ _ _ _,J2 _,Cb _ _ _ _,Cb _ _ _ _,Gv _ _ _ _,PhC.eq _,trivial⟩ (fun b W=>⟨b,rfl⟩) ?_ ?_)
 ·intro W hC0
  have hC:=(Up.drew w10).F1.trans hC0
  refine aC (.inl (.inl rfl)) (aC (.inr ⟨rfl,rfl,TU.p (.mv rfl) (SlT.F1 hT8 hC)⟩) (aC (.inr ⟨rfl,rfl,TU.c (eC (.cons (.func _) .nil) (Ho)) (C9 _ _) sQ⟩) (aC (.inr ⟨rfl,rfl,TU.r (REv.buildSlice (xs:=([Co 7]:List Fld)) (enc:=Fld.cells) (mk:=fun x:Fld=>.agg (Fld.cells x)) underlying162 sizeOf225 zeroValue225 rfl cQ (fun _=>rfl) (fun _=>rfl) (.cu rfl) rfl) (by rintro _ W1 ⟨B,c,rfl,N,y,x⟩;exact⟨N.up,SlT.lit ⟨B,c,rfl,N,y,x⟩⟩)⟩) (aC (.inr ⟨rfl,rfl,TU.c (eC .nil (fG)) (Lx _) (fun v W1 h=>⟨h.2,h.1⟩)⟩) (aC (.inr ⟨rfl,rfl,TU.p (.build (cs:=Fld.cells ⟨13,0,39⟩) underlying225 zeroValue225 Ck (.cons (.func _) (.cons (.const _) (.cons (.const _) .nil))) rfl) rfl⟩) (aC (.inr ⟨rfl,rfl,TU.r (REv.buildSlice (xs:=([⟨13,0,39⟩]:List Fld)) (enc:=Fld.cells) (mk:=fun x:Fld=>.agg (Fld.cells x)) underlying162 sizeOf225 zeroValue225 rfl cQ (fun _=>rfl) (fun _=>rfl) (.cu rfl) rfl) (by rintro _ W1 ⟨B,c,rfl,N,y,x⟩;exact⟨N.up,SlT.lit ⟨B,c,rfl,N,y,x⟩⟩)⟩) (aC (.inr ⟨rfl,rfl,TU.p (.mv rfl) (SlT.F1 hT11 hC)⟩) (aC (.inr ⟨rfl,rfl,TU.c (eC .nil (fH)) (Nx _) (fun v W1 h=>⟨h.2,h.1⟩)⟩) (aC (.inr ⟨rfl,rfl,TU.p (.build (cs:=Fld.cells ⟨16,-10000000,10000000⟩) underlying225 zeroValue225 Ck (.cons (.func _) (.cons (.const _) (.cons (.const _) .nil))) rfl) rfl⟩) (aC (.inr ⟨rfl,rfl,TU.r (REv.buildSlice (xs:=([⟨16,-10000000,10000000⟩]:List Fld)) (enc:=Fld.cells) (mk:=fun x:Fld=>.agg (Fld.cells x)) underlying162 sizeOf225 zeroValue225 rfl cQ (fun _=>rfl) (fun _=>rfl) (.cu rfl) rfl) (by rintro _ W1 ⟨B,c,rfl,N,y,x⟩;exact⟨N.up,SlT.lit ⟨B,c,rfl,N,y,x⟩⟩)⟩) (aC (.inr ⟨rfl,rfl,TU.open (d:=23) rfl (by rintro _ ⟨⟨a23,c23,rfl,x23⟩,_⟩;exact TU.open (d:=25) rfl (by rintro _ ⟨⟨a25,c25,rfl,x25⟩,_⟩;exact TU.open (d:=26) rfl (by rintro _ ⟨⟨a26,c26,rfl,x26⟩,_⟩;exact TU.open (d:=28) rfl (by rintro _ ⟨⟨a28,c28,rfl,x28⟩,_⟩;exact TU.open (d:=29) rfl (by rintro _ ⟨⟨a29,c29,rfl,x29⟩,_⟩;exact TU.open (d:=30) rfl (by rintro _ ⟨⟨a30,c30,rfl,x30⟩,_⟩;exact TU.open (d:=32) rfl (by rintro _ ⟨⟨a32,c32,rfl,x32⟩,_⟩;exact TU.r (REv.buildSlice (xs:=[(a23,List.length (Cr),c23),(a25,List.length ([Co 7]),c25),(a26,List.length (C1),c26),(a28,List.length ([⟨13,0,39⟩]),c28),(a29,List.length (J1),c29),(a30,List.length (Dp),c30),(a32,List.length ([⟨16,-10000000,10000000⟩]),c32)]) (enc:=fun t=>#[Ty t]) (mk:=Ty) underlying278 sizeOf162 zeroValue162 rfl cQ (fun _=>rfl) (fun _=>rfl) (.ct rfl (.ct rfl (.ct rfl (.ct rfl (.ct rfl (.ct rfl (.cu rfl))))))) rfl) (by rintro _ W1 ⟨B,c,rfl,N,y,x⟩;exact⟨N.up,_,Av (Els.Fc x),(AllSl.up N.up (vs:=List.map Ty [(a23,List.length (Cr),c23),(a25,List.length ([Co 7]),c25),(a26,List.length (C1),c26),(a28,List.length ([⟨13,0,39⟩]),c28),(a29,List.length (J1),c29),(a30,List.length (Dp),c30),(a32,List.length ([⟨16,-10000000,10000000⟩]),c32)]) (xss:=[Cr,[Co 7],C1,[⟨13,0,39⟩],J1,Dp,[⟨16,-10000000,10000000⟩]]) ⟨Av x23,Av x25,Av x26,Av x28,Av x29,Av x30,Av x32,trivial⟩).at⟩))))))))⟩) (aC (.inr ⟨rfl,rfl,TU.open (d:=33) rfl (by rintro v ⟨vs,⟨ad,cp,rfl,hE⟩,hl,hx⟩;exact TU.c (eC (.o rfl) (Rb)) (Ic ad cp vs _ _ hE hl hx (by rw[←hl];decide) cQ) (fun v W1 h=>⟨h.2,h.1⟩))⟩) (aC (.inr ⟨rfl,rfl,TU.p (.mv rfl) (SlT.F1 hT8 hC)⟩) (aC (.inr ⟨rfl,rfl,TU.open (d:=34) rfl (by rintro _ ⟨⟨a34,c34,rfl,x34⟩,p34⟩;exact TU.open (d:=35) rfl (by rintro _ ⟨⟨b35,d35,rfl,y35⟩,q35⟩;exact TU.p (.build (cs:=#[.slice a34 (List.length (List.flatten [Cr,[Co 7],C1,[⟨13,0,39⟩],J1,Dp,[⟨16,-10000000,10000000⟩]])) c34,.slice b35 (List.length (Cr)) d35,.func (.func (Ev 1)) #[] #[],.bool false]) underlying164 zeroValue164 C3 (.ct rfl (.ct rfl (.cons (.func _) (.cons (.const _) .nil)))) rfl) ⟨_,_,rfl,⟨Av x34,p34⟩,⟨Av y35,q35⟩⟩))⟩) (aC (.inl (.inr ⟨rfl,by intro j hj e;simp only[List.mem_cons,List.mem_nil_iff,or_false]at hj;rcases hj with rfl|rfl|rfl|rfl|rfl|rfl|rfl|rfl|rfl|rfl|rfl<;>first|exact absurd e cQ|exact⟨_,_,_,rfl⟩⟩)) (aC (.inr ⟨rfl,rfl,TU.p (.mv rfl) (SlT.F1 hT8 hC)⟩) (aC (.inr ⟨rfl,rfl,TU.c (eC .nil (Nt)) (Gu _) sQ⟩) (aC (.inr ⟨rfl,rfl,TU.p (.lc rfl (AggAt.F1 hB6.agg hC)) rfl⟩) (aC (.inr ⟨rfl,rfl,TU.r (REv.buildSlice (xs:=([Cl,Kn]:List Fld)) (enc:=Fld.cells) (mk:=fun x:Fld=>.agg (Fld.cells x)) underlying162 sizeOf225 zeroValue225 rfl cQ (fun _=>rfl) (fun _=>rfl) (.ct rfl (.cu rfl)) rfl) (by rintro _ W1 ⟨B,c,rfl,N,y,x⟩;exact⟨N.up,SlT.lit ⟨B,c,rfl,N,y,x⟩⟩)⟩) (aC (.inr ⟨rfl,rfl,TU.open (d:=37) rfl (by rintro _ ⟨⟨a37,c37,rfl,x37⟩,_⟩;exact TU.open (d:=40) rfl (by rintro _ ⟨⟨a40,c40,rfl,x40⟩,_⟩;exact TU.r (REv.buildSlice (xs:=[(a37,List.length (Cr),c37),(a40,List.length ([Cl,Kn]),c40)]) (enc:=fun t=>#[Ty t]) (mk:=Ty) underlying278 sizeOf162 zeroValue162 rfl cQ (fun _=>rfl) (fun _=>rfl) (.ct rfl (.cu rfl)) rfl) (by rintro _ W1 ⟨B,c,rfl,N,y,x⟩;exact⟨N.up,_,Av (Els.Fc x),(AllSl.up N.up (vs:=List.map Ty [(a37,List.length (Cr),c37),(a40,List.length ([Cl,Kn]),c40)]) (xss:=[Cr,[Cl,Kn]]) ⟨Av x37,Av x40,trivial⟩).at⟩)))⟩) (aC (.inr ⟨rfl,rfl,TU.open (d:=41) rfl (by rintro v ⟨vs,⟨ad,cp,rfl,hE⟩,hl,hx⟩;exact TU.c (eC (.o rfl) (Rb)) (Ic ad cp vs _ _ hE hl hx (by rw[←hl];decide) cQ) (fun v W1 h=>⟨h.2,h.1⟩))⟩) (aC (.inr ⟨rfl,rfl,TU.p (.mv rfl) (SlT.F1 hT8 hC)⟩) (aC (.inr ⟨rfl,rfl,TU.open (d:=42) rfl (by rintro _ ⟨⟨a42,c42,rfl,x42⟩,p42⟩;exact TU.open (d:=43) rfl (by rintro _ ⟨⟨b43,d43,rfl,y43⟩,q43⟩;exact TU.p (.build (cs:=#[.slice a42 (List.length (List.flatten [Cr,[Cl,Kn]])) c42,.slice b43 (List.length (Cr)) d43,.func (.func (Ev 0)) #[] #[],.bool false]) underlying164 zeroValue164 C3 (.ct rfl (.ct rfl (.cons (.func _) (.cons (.const _) .nil)))) rfl) ⟨_,_,rfl,⟨Av x42,p42⟩,⟨Av y43,q43⟩⟩))⟩) (aC (.inl (.inr ⟨rfl,by intro j hj e;simp only[List.mem_cons,List.mem_nil_iff,or_false]at hj;rcases hj with rfl|rfl|rfl|rfl|rfl|rfl|rfl|rfl|rfl|rfl|rfl<;>first|exact absurd e cQ|exact⟨_,_,_,rfl⟩⟩)) (aC (.inr ⟨rfl,rfl,TU.p (.mv rfl) (SlT.F1 hT8 hC)⟩) (aC (.inr ⟨rfl,rfl,TU.c (eC (.cons (.func _) .nil) (Ho)) (C9 _ _) sQ⟩) (aC (.inr ⟨rfl,rfl,TU.c (eC (.cons (.func _) .nil) (Ho)) (C9 _ _) sQ⟩) (aC (.inr ⟨rfl,rfl,TU.c (eC .nil (Nt)) (Gu _) sQ⟩) (aC (.inr ⟨rfl,rfl,TU.r (REv.buildSlice (xs:=([Co 7,Co 8,Cl]:List Fld)) (enc:=Fld.cells) (mk:=fun x:Fld=>.agg (Fld.cells x)) underlying162 sizeOf225 zeroValue225 rfl cQ (fun _=>rfl) (fun _=>rfl) (.ct rfl (.ct rfl (.cu rfl))) rfl) (by rintro _ W1 ⟨B,c,rfl,N,y,x⟩;exact⟨N.up,SlT.lit ⟨B,c,rfl,N,y,x⟩⟩)⟩) (aC (.inr ⟨rfl,rfl,TU.open (d:=45) rfl (by rintro _ ⟨⟨a45,c45,rfl,x45⟩,_⟩;exact TU.open (d:=49) rfl (by rintro _ ⟨⟨a49,c49,rfl,x49⟩,_⟩;exact TU.r (REv.buildSlice (xs:=[(a45,List.length (Cr),c45),(a49,List.length ([Co 7,Co 8,Cl]),c49)]) (enc:=fun t=>#[Ty t]) (mk:=Ty) underlying278 sizeOf162 zeroValue162 rfl cQ (fun _=>rfl) (fun _=>rfl) (.ct rfl (.cu rfl)) rfl) (by rintro _ W1 ⟨B,c,rfl,N,y,x⟩;exact⟨N.up,_,Av (Els.Fc x),(AllSl.up N.up (vs:=List.map Ty [(a45,List.length (Cr),c45),(a49,List.length ([Co 7,Co 8,Cl]),c49)]) (xss:=[Cr,[Co 7,Co 8,Cl]]) ⟨Av x45,Av x49,trivial⟩).at⟩)))⟩) (aC (.inr ⟨rfl,rfl,TU.open (d:=50) rfl (by rintro v ⟨vs,⟨ad,cp,rfl,hE⟩,hl,hx⟩;exact TU.c (eC (.o rfl) (Rb)) (Ic ad cp vs _ _ hE hl hx (by rw[←hl];decide) cQ) (fun v W1 h=>⟨h.2,h.1⟩))⟩) (aC (.inr ⟨rfl,rfl,TU.p (.mv rfl) (SlT.F1 hT8 hC)⟩) (aC (.inr ⟨rfl,rfl,TU.p (.mv rfl) rfl⟩) (aC (.inr ⟨rfl,rfl,TU.open (d:=51) rfl (by rintro _ ⟨⟨a51,c51,rfl,x51⟩,p51⟩;exact TU.open (d:=52) rfl (by rintro _ ⟨⟨b52,d52,rfl,y52⟩,q52⟩;exact TU.p (.build (cs:=#[.slice a51 (List.length (List.flatten [Cr,[Co 7,Co 8,Cl]])) c51,.slice b52 (List.length (Cr)) d52,.func (.func (Ev 2)) #[] #[],.bool false]) underlying164 zeroValue164 C3 (.ct rfl (.ct rfl (.ct rfl (.cons (.const _) .nil)))) rfl) ⟨_,_,rfl,⟨Av x51,p51⟩,⟨Av y52,q52⟩⟩))⟩) (aC (.inl (.inr ⟨rfl,by intro j hj e;simp only[List.mem_cons,List.mem_nil_iff,or_false]at hj;rcases hj with rfl|rfl|rfl|rfl|rfl|rfl|rfl|rfl|rfl|rfl|rfl<;>first|exact absurd e cQ|exact⟨_,_,_,rfl⟩⟩)) (aC (.inr ⟨rfl,rfl,TU.c (eC (.cons (.func _) .nil) (Ho)) (C9 _ _) sQ⟩) (aC (.inr ⟨rfl,rfl,TU.c (eC (.cons (.func _) .nil) (Ho)) (C9 _ _) sQ⟩) (aC (.inr ⟨rfl,rfl,TU.c (eC (.cons (.func _) .nil) (Ho)) (C9 _ _) sQ⟩) (aC (.inr ⟨rfl,rfl,TU.c (eC .nil (Nt)) (Gu _) sQ⟩) (aC (.inr ⟨rfl,rfl,TU.r (REv.buildSlice (xs:=([Co 7,Co 9,Co 10,Cl]:List Fld)) (enc:=Fld.cells) (mk:=fun x:Fld=>.agg (Fld.cells x)) underlying162 sizeOf225 zeroValue225 rfl cQ (fun _=>rfl) (fun _=>rfl) (.ct rfl (.ct rfl (.ct rfl (.cu rfl)))) rfl) (by rintro _ W1 ⟨B,c,rfl,N,y,x⟩;exact⟨N.up,SlT.lit ⟨B,c,rfl,N,y,x⟩⟩)⟩) (aC (.inr ⟨rfl,rfl,TU.c (eC (.cons (.func _) .nil) (Ho)) (C9 _ _) sQ⟩) (aC (.inr ⟨rfl,rfl,TU.c (eC .nil (Nt)) (Gu _) sQ⟩) (aC (.inr ⟨rfl,rfl,TU.r (REv.buildSlice (xs:=([Co 7,Cl]:List Fld)) (enc:=Fld.cells) (mk:=fun x:Fld=>.agg (Fld.cells x)) underlying162 sizeOf225 zeroValue225 rfl cQ (fun _=>rfl) (fun _=>rfl) (.ct rfl (.cu rfl)) rfl) (by rintro _ W1 ⟨B,c,rfl,N,y,x⟩;exact⟨N.up,SlT.lit ⟨B,c,rfl,N,y,x⟩⟩)⟩) (aC (.inr ⟨rfl,rfl,TU.open (d:=59) rfl (by rintro _ ⟨⟨a59,c59,rfl,x59⟩,p59⟩;exact TU.open (d:=62) rfl (by rintro _ ⟨⟨b62,d62,rfl,y62⟩,q62⟩;exact TU.p (.build (cs:=#[.slice a59 (List.length ([Co 7,Co 9,Co 10,Cl])) c59,.slice b62 (List.length ([Co 7,Cl])) d62,.func (.func (Ev 0)) #[] #[],.bool false]) underlying164 zeroValue164 C3 (.ct rfl (.ct rfl (.cons (.func _) (.cons (.const _) .nil)))) rfl) ⟨_,_,rfl,⟨Av x59,p59⟩,⟨Av y62,q62⟩⟩))⟩) (aC (.inl (.inr ⟨rfl,by intro j hj e;simp only[List.mem_cons,List.mem_nil_iff,or_false]at hj;rcases hj with rfl|rfl|rfl|rfl|rfl|rfl|rfl|rfl|rfl|rfl|rfl<;>first|exact absurd e cQ|exact⟨_,_,_,rfl⟩⟩)) (aC (.inr ⟨rfl,rfl,TU.c (eC (.cons (.func _) .nil) (Ho)) (C9 _ _) sQ⟩) (aC (.inr ⟨rfl,rfl,TU.r (REv.buildSlice (xs:=([Co 10]:List Fld)) (enc:=Fld.cells) (mk:=fun x:Fld=>.agg (Fld.cells x)) underlying162 sizeOf225 zeroValue225 rfl cQ (fun _=>rfl) (fun _=>rfl) (.cu rfl) rfl) (by rintro _ W1 ⟨B,c,rfl,N,y,x⟩;exact⟨N.up,SlT.lit ⟨B,c,rfl,N,y,x⟩⟩)⟩) (aC (.inr ⟨rfl,rfl,TU.c (eC (.cons (.func _) .nil) (Ho)) (C9 _ _) sQ⟩) (aC (.inr ⟨rfl,rfl,TU.r (REv.buildSlice (xs:=([Co 10]:List Fld)) (enc:=Fld.cells) (mk:=fun x:Fld=>.agg (Fld.cells x)) underlying162 sizeOf225 zeroValue225 rfl cQ (fun _=>rfl) (fun _=>rfl) (.cu rfl) rfl) (by rintro _ W1 ⟨B,c,rfl,N,y,x⟩;exact⟨N.up,SlT.lit ⟨B,c,rfl,N,y,x⟩⟩)⟩) (aC (.inr ⟨rfl,rfl,TU.open (d:=65) rfl (by rintro _ ⟨⟨a65,c65,rfl,x65⟩,p65⟩;exact TU.open (d:=67) rfl (by rintro _ ⟨⟨b67,d67,rfl,y67⟩,q67⟩;exact TU.p (.build (cs:=#[.slice a65 (List.length ([Co 10])) c65,.slice b67 (List.length ([Co 10])) d67,.func (.func (Ev 0)) #[] #[],.bool true]) underlying164 zeroValue164 C3 (.ct rfl (.ct rfl (.cons (.func _) (.cons (.const _) .nil)))) rfl) ⟨_,_,rfl,⟨Av x65,p65⟩,⟨Av y67,q67⟩⟩))⟩) (aC (.inl (.inr ⟨rfl,by intro j hj e;simp only[List.mem_cons,List.mem_nil_iff,or_false]at hj;rcases hj with rfl|rfl|rfl|rfl|rfl|rfl|rfl|rfl|rfl|rfl|rfl<;>first|exact absurd e cQ|exact⟨_,_,_,rfl⟩⟩)) (aC (.inr ⟨rfl,rfl,TU.p (.mv rfl) (SlT.F1 hT8 hC)⟩) (aC (.inr ⟨rfl,rfl,TU.c (eC .nil (fG)) (Lx _) (fun v W1 h=>⟨h.2,h.1⟩)⟩) (aC (.inr ⟨rfl,rfl,TU.p (.mv rfl) (SlT.F1 hT11 hC)⟩) (aC (.inr ⟨rfl,rfl,TU.c (eC .nil (fH)) (Nx _) (fun v W1 h=>⟨h.2,h.1⟩)⟩) (aC (.inr ⟨rfl,rfl,TU.open (d:=69) rfl (by rintro _ ⟨⟨a69,c69,rfl,x69⟩,_⟩;exact TU.open (d:=70) rfl (by rintro _ ⟨⟨a70,c70,rfl,x70⟩,_⟩;exact TU.open (d:=71) rfl (by rintro _ ⟨⟨a71,c71,rfl,x71⟩,_⟩;exact TU.open (d:=72) rfl (by rintro _ ⟨⟨a72,c72,rfl,x72⟩,_⟩;exact TU.r (REv.buildSlice (xs:=[(a69,List.length (Cr),c69),(a70,List.length (C1),c70),(a71,List.length (J1),c71),(a72,List.length (Dp),c72)]) (enc:=fun t=>#[Ty t]) (mk:=Ty) underlying278 sizeOf162 zeroValue162 rfl cQ (fun _=>rfl) (fun _=>rfl) (.ct rfl (.ct rfl (.ct rfl (.cu rfl)))) rfl) (by rintro _ W1 ⟨B,c,rfl,N,y,x⟩;exact⟨N.up,_,Av (Els.Fc x),(AllSl.up N.up (vs:=List.map Ty [(a69,List.length (Cr),c69),(a70,List.length (C1),c70),(a71,List.length (J1),c71),(a72,List.length (Dp),c72)]) (xss:=[Cr,C1,J1,Dp]) ⟨Av x69,Av x70,Av x71,Av x72,trivial⟩).at⟩)))))⟩) (aC (.inr ⟨rfl,rfl,TU.open (d:=73) rfl (by rintro v ⟨vs,⟨ad,cp,rfl,hE⟩,hl,hx⟩;exact TU.c (eC (.o rfl) (Rb)) (Ic ad cp vs _ _ hE hl hx (by rw[←hl];decide) cQ) (fun v W1 h=>⟨h.2,h.1⟩))⟩) (aC (.inr ⟨rfl,rfl,TU.p (.mv rfl) (SlT.F1 hT8 hC)⟩) (aC (.inr ⟨rfl,rfl,TU.open (d:=74) rfl (by rintro _ ⟨⟨a74,c74,rfl,x74⟩,p74⟩;exact TU.open (d:=75) rfl (by rintro _ ⟨⟨b75,d75,rfl,y75⟩,q75⟩;exact TU.p (.build (cs:=#[.slice a74 (List.length (List.flatten [Cr,C1,J1,Dp])) c74,.slice b75 (List.length (Cr)) d75,.func (.func (Ev 1)) #[] #[],.bool false]) underlying164 zeroValue164 C3 (.ct rfl (.ct rfl (.cons (.func _) (.cons (.const _) .nil)))) rfl) ⟨_,_,rfl,⟨Av x74,p74⟩,⟨Av y75,q75⟩⟩))⟩) (aC (.inl (.inr ⟨rfl,by intro j hj e;simp only[List.mem_cons,List.mem_nil_iff,or_false]at hj;rcases hj with rfl|rfl|rfl|rfl|rfl|rfl|rfl|rfl|rfl|rfl|rfl<;>first|exact absurd e cQ|exact⟨_,_,_,rfl⟩⟩)) (aC (.inr ⟨rfl,rfl,TU.p (.mv rfl) (SlT.F1 hT8 hC)⟩) (aC (.inr ⟨rfl,rfl,TU.p (.mv rfl) (SlT.F1 hT19 hC)⟩) (aC (.inr ⟨rfl,rfl,TU.c (eC .nil (fH)) (Nx _) (fun v W1 h=>⟨h.2,h.1⟩)⟩) (aC (.inr ⟨rfl,rfl,TU.p (.lc rfl (AggAt.F1 hB5.agg hC)) rfl⟩) (aC (.inr ⟨rfl,rfl,TU.r (REv.buildSlice (xs:=([Hu]:List Fld)) (enc:=Fld.cells) (mk:=fun x:Fld=>.agg (Fld.cells x)) underlying162 sizeOf225 zeroValue225 rfl cQ (fun _=>rfl) (fun _=>rfl) (.cu rfl) rfl) (by rintro _ W1 ⟨B,c,rfl,N,y,x⟩;exact⟨N.up,SlT.lit ⟨B,c,rfl,N,y,x⟩⟩)⟩) (aC (.inr ⟨rfl,rfl,TU.open (d:=77) rfl (by rintro _ ⟨⟨a77,c77,rfl,x77⟩,_⟩;exact TU.open (d:=78) rfl (by rintro _ ⟨⟨a78,c78,rfl,x78⟩,_⟩;exact TU.open (d:=79) rfl (by rintro _ ⟨⟨a79,c79,rfl,x79⟩,_⟩;exact TU.open (d:=81) rfl (by rintro _ ⟨⟨a81,c81,rfl,x81⟩,_⟩;exact TU.r (REv.buildSlice (xs:=[(a77,List.length (Cr),c77),(a78,List.length (Je),c78),(a79,List.length (Dp),c79),(a81,List.length ([Hu]),c81)]) (enc:=fun t=>#[Ty t]) (mk:=Ty) underlying278 sizeOf162 zeroValue162 rfl cQ (fun _=>rfl) (fun _=>rfl) (.ct rfl (.ct rfl (.ct rfl (.cu rfl)))) rfl) (by rintro _ W1 ⟨B,c,rfl,N,y,x⟩;exact⟨N.up,_,Av (Els.Fc x),(AllSl.up N.up (vs:=List.map Ty [(a77,List.length (Cr),c77),(a78,List.length (Je),c78),(a79,List.length (Dp),c79),(a81,List.length ([Hu]),c81)]) (xss:=[Cr,Je,Dp,[Hu]]) ⟨Av x77,Av x78,Av x79,Av x81,trivial⟩).at⟩)))))⟩) (aC (.inr ⟨rfl,rfl,TU.open (d:=82) rfl (by rintro v ⟨vs,⟨ad,cp,rfl,hE⟩,hl,hx⟩;exact TU.c (eC (.o rfl) (Rb)) (Ic ad cp vs _ _ hE hl hx (by rw[←hl];decide) cQ) (fun v W1 h=>⟨h.2,h.1⟩))⟩) (aC (.inr ⟨rfl,rfl,TU.p (.mv rfl) (SlT.F1 hT8 hC)⟩) (aC (.inr ⟨rfl,rfl,TU.open (d:=83) rfl (by rintro _ ⟨⟨a83,c83,rfl,x83⟩,p83⟩;exact TU.open (d:=84) rfl (by rintro _ ⟨⟨b84,d84,rfl,y84⟩,q84⟩;exact TU.p (.build (cs:=#[.slice a83 (List.length (List.flatten [Cr,Je,Dp,[Hu]])) c83,.slice b84 (List.length (Cr)) d84,.func (.func (Ev 1)) #[] #[],.bool false]) underlying164 zeroValue164 C3 (.ct rfl (.ct rfl (.cons (.func _) (.cons (.const _) .nil)))) rfl) ⟨_,_,rfl,⟨Av x83,p83⟩,⟨Av y84,q84⟩⟩))⟩) (aC (.inl (.inr ⟨rfl,by intro j hj e;simp only[List.mem_cons,List.mem_nil_iff,or_false]at hj;rcases hj with rfl|rfl|rfl|rfl|rfl|rfl|rfl|rfl|rfl|rfl|rfl<;>first|exact absurd e cQ|exact⟨_,_,_,rfl⟩⟩)) (aC (.inr ⟨rfl,rfl,TU.c (eC (.cons (.func _) .nil) (Ho)) (C9 _ _) sQ⟩) (aC (.inr ⟨rfl,rfl,TU.p (.lc rfl (AggAt.F1 hB5.agg hC)) rfl⟩) (aC (.inr ⟨rfl,rfl,TU.c (eC .nil (Nt)) (Gu _) sQ⟩) (aC (.inr ⟨rfl,rfl,TU.r (REv.buildSlice (xs:=([Co 8,Hu,Cl]:List Fld)) (enc:=Fld.cells) (mk:=fun x:Fld=>.agg (Fld.cells x)) underlying162 sizeOf225 zeroValue225 rfl cQ (fun _=>rfl) (fun _=>rfl) (.ct rfl (.ct rfl (.cu rfl))) rfl) (by rintro _ W1 ⟨B,c,rfl,N,y,x⟩;exact⟨N.up,SlT.lit ⟨B,c,rfl,N,y,x⟩⟩)⟩) (aC (.inr ⟨rfl,rfl,TU.c (eC (.cons (.func _) .nil) (Ho)) (C9 _ _) sQ⟩) (aC (.inr ⟨rfl,rfl,TU.p (.lc rfl (AggAt.F1 hB5.agg hC)) rfl⟩) (aC (.inr ⟨rfl,rfl,TU.r (REv.buildSlice (xs:=([Co 8,Hu]:List Fld)) (enc:=Fld.cells) (mk:=fun x:Fld=>.agg (Fld.cells x)) underlying162 sizeOf225 zeroValue225 rfl cQ (fun _=>rfl) (fun _=>rfl) (.ct rfl (.cu rfl)) rfl) (by rintro _ W1 ⟨B,c,rfl,N,y,x⟩;exact⟨N.up,SlT.lit ⟨B,c,rfl,N,y,x⟩⟩)⟩) (aC (.inr ⟨rfl,rfl,TU.open (d:=89) rfl (by rintro _ ⟨⟨a89,c89,rfl,x89⟩,p89⟩;exact TU.open (d:=92) rfl (by rintro _ ⟨⟨b92,d92,rfl,y92⟩,q92⟩;exact TU.p (.build (cs:=#[.slice a89 (List.length ([Co 8,Hu,Cl])) c89,.slice b92 (List.length ([Co 8,Hu])) d92,.func (.func (Ev 0)) #[] #[],.bool false]) underlying164 zeroValue164 C3 (.ct rfl (.ct rfl (.cons (.func _) (.cons (.const _) .nil)))) rfl) ⟨_,_,rfl,⟨Av x89,p89⟩,⟨Av y92,q92⟩⟩))⟩) (aC (.inl (.inr ⟨rfl,by intro j hj e;simp only[List.mem_cons,List.mem_nil_iff,or_false]at hj;rcases hj with rfl|rfl|rfl|rfl|rfl|rfl|rfl|rfl|rfl|rfl|rfl<;>first|exact absurd e cQ|exact⟨_,_,_,rfl⟩⟩)) (aC (.inr ⟨rfl,rfl,TU.p (.mv rfl) (SlT.F1 hT8 hC)⟩) (aC (.inr ⟨rfl,rfl,TU.c (eC .nil (fG)) (Lx _) (fun v W1 h=>⟨h.2,h.1⟩)⟩) (aC (.inr ⟨rfl,rfl,TU.c (eC .nil (Nt)) (Gu _) sQ⟩) (aC (.inr ⟨rfl,rfl,TU.r (REv.buildSlice (xs:=([Cl]:List Fld)) (enc:=Fld.cells) (mk:=fun x:Fld=>.agg (Fld.cells x)) underlying162 sizeOf225 zeroValue225 rfl cQ (fun _=>rfl) (fun _=>rfl) (.cu rfl) rfl) (by rintro _ W1 ⟨B,c,rfl,N,y,x⟩;exact⟨N.up,SlT.lit ⟨B,c,rfl,N,y,x⟩⟩)⟩) (aC (.inr ⟨rfl,rfl,TU.open (d:=94) rfl (by rintro _ ⟨⟨a94,c94,rfl,x94⟩,_⟩;exact TU.open (d:=95) rfl (by rintro _ ⟨⟨a95,c95,rfl,x95⟩,_⟩;exact TU.open (d:=97) rfl (by rintro _ ⟨⟨a97,c97,rfl,x97⟩,_⟩;exact TU.r (REv.buildSlice (xs:=[(a94,List.length (Cr),c94),(a95,List.length (C1),c95),(a97,List.length ([Cl]),c97)]) (enc:=fun t=>#[Ty t]) (mk:=Ty) underlying278 sizeOf162 zeroValue162 rfl cQ (fun _=>rfl) (fun _=>rfl) (.ct rfl (.ct rfl (.cu rfl))) rfl) (by rintro _ W1 ⟨B,c,rfl,N,y,x⟩;exact⟨N.up,_,Av (Els.Fc x),(AllSl.up N.up (vs:=List.map Ty [(a94,List.length (Cr),c94),(a95,List.length (C1),c95),(a97,List.length ([Cl]),c97)]) (xss:=[Cr,C1,[Cl]]) ⟨Av x94,Av x95,Av x97,trivial⟩).at⟩))))⟩) (aC (.inr ⟨rfl,rfl,TU.open (d:=98) rfl (by rintro v ⟨vs,⟨ad,cp,rfl,hE⟩,hl,hx⟩;exact TU.c (eC (.o rfl) (Rb)) (Ic ad cp vs _ _ hE hl hx (by rw[←hl];decide) cQ) (fun v W1 h=>⟨h.2,h.1⟩))⟩) (aC (.inr ⟨rfl,rfl,TU.p (.mv rfl) (SlT.F1 hT8 hC)⟩) (aC (.inr ⟨rfl,rfl,TU.open (d:=99) rfl (by rintro _ ⟨⟨a99,c99,rfl,x99⟩,p99⟩;exact TU.open (d:=100) rfl (by rintro _ ⟨⟨b100,d100,rfl,y100⟩,q100⟩;exact TU.p (.build (cs:=#[.slice a99 (List.length (List.flatten [Cr,C1,[Cl]])) c99,.slice b100 (List.length (Cr)) d100,.func (.func (Ev 0)) #[] #[],.bool false]) underlying164 zeroValue164 C3 (.ct rfl (.ct rfl (.cons (.func _) (.cons (.const _) .nil)))) rfl) ⟨_,_,rfl,⟨Av x99,p99⟩,⟨Av y100,q100⟩⟩))⟩) (aC (.inl (.inr ⟨rfl,by intro j hj e;simp only[List.mem_cons,List.mem_nil_iff,or_false]at hj;rcases hj with rfl|rfl|rfl|rfl|rfl|rfl|rfl|rfl|rfl|rfl|rfl<;>first|exact absurd e cQ|exact⟨_,_,_,rfl⟩⟩)) (aC (.inr ⟨rfl,rfl,TU.c (eC (.cons (.func _) .nil) (Ho)) (C9 _ _) sQ⟩) (aC (.inr ⟨rfl,rfl,TU.c (eC .nil (Nt)) (Gu _) sQ⟩) (aC (.inr ⟨rfl,rfl,TU.p (.lc rfl (AggAt.F1 hB6.agg hC)) rfl⟩) (aC (.inr ⟨rfl,rfl,TU.r (REv.buildSlice (xs:=([Co 14,Cl,Kn]:List Fld)) (enc:=Fld.cells) (mk:=fun x:Fld=>.agg (Fld.cells x)) underlying162 sizeOf225 zeroValue225 rfl cQ (fun _=>rfl) (fun _=>rfl) (.ct rfl (.ct rfl (.cu rfl))) rfl) (by rintro _ W1 ⟨B,c,rfl,N,y,x⟩;exact⟨N.up,SlT.lit ⟨B,c,rfl,N,y,x⟩⟩)⟩) (aC (.inr ⟨rfl,rfl,TU.c (eC (.cons (.func _) .nil) (Ho)) (C9 _ _) sQ⟩) (aC (.inr ⟨rfl,rfl,TU.c (eC .nil (Nt)) (Gu _) sQ⟩) (aC (.inr ⟨rfl,rfl,TU.r (REv.buildSlice (xs:=([Co 14,Cl]:List Fld)) (enc:=Fld.cells) (mk:=fun x:Fld=>.agg (Fld.cells x)) underlying162 sizeOf225 zeroValue225 rfl cQ (fun _=>rfl) (fun _=>rfl) (.ct rfl (.cu rfl)) rfl) (by rintro _ W1 ⟨B,c,rfl,N,y,x⟩;exact⟨N.up,SlT.lit ⟨B,c,rfl,N,y,x⟩⟩)⟩) (aC (.inr ⟨rfl,rfl,TU.open (d:=105) rfl (by rintro _ ⟨⟨a105,c105,rfl,x105⟩,p105⟩;exact TU.open (d:=108) rfl (by rintro _ ⟨⟨b108,d108,rfl,y108⟩,q108⟩;exact TU.p (.build (cs:=#[.slice a105 (List.length ([Co 14,Cl,Kn])) c105,.slice b108 (List.length ([Co 14,Cl])) d108,.func (.func (Ev 0)) #[] #[],.bool false]) underlying164 zeroValue164 C3 (.ct rfl (.ct rfl (.cons (.func _) (.cons (.const _) .nil)))) rfl) ⟨_,_,rfl,⟨Av x105,p105⟩,⟨Av y108,q108⟩⟩))⟩) (aC (.inl (.inr ⟨rfl,by intro j hj e;simp only[List.mem_cons,List.mem_nil_iff,or_false]at hj;rcases hj with rfl|rfl|rfl|rfl|rfl|rfl|rfl|rfl|rfl|rfl|rfl<;>first|exact absurd e cQ|exact⟨_,_,_,rfl⟩⟩)) (aC (.inr ⟨rfl,rfl,TU.p (.mv rfl) (SlT.F1 hT8 hC)⟩) (aC (.inr ⟨rfl,rfl,TU.c (eC .nil (fG)) (Lx _) (fun v W1 h=>⟨h.2,h.1⟩)⟩) (aC (.inr ⟨rfl,rfl,TU.c (eC .nil (fH)) (Nx _) (fun v W1 h=>⟨h.2,h.1⟩)⟩) (aC (.inr ⟨rfl,rfl,TU.open (d:=110) rfl (by rintro _ ⟨⟨a110,c110,rfl,x110⟩,_⟩;exact TU.open (d:=111) rfl (by rintro _ ⟨⟨a111,c111,rfl,x111⟩,_⟩;exact TU.open (d:=112) rfl (by rintro _ ⟨⟨a112,c112,rfl,x112⟩,_⟩;exact TU.r (REv.buildSlice (xs:=[(a110,List.length (Cr),c110),(a111,List.length (C1),c111),(a112,List.length (Dp),c112)]) (enc:=fun t=>#[Ty t]) (mk:=Ty) underlying278 sizeOf162 zeroValue162 rfl cQ (fun _=>rfl) (fun _=>rfl) (.ct rfl (.ct rfl (.cu rfl))) rfl) (by rintro _ W1 ⟨B,c,rfl,N,y,x⟩;exact⟨N.up,_,Av (Els.Fc x),(AllSl.up N.up (vs:=List.map Ty [(a110,List.length (Cr),c110),(a111,List.length (C1),c111),(a112,List.length (Dp),c112)]) (xss:=[Cr,C1,Dp]) ⟨Av x110,Av x111,Av x112,trivial⟩).at⟩))))⟩) (aC (.inr ⟨rfl,rfl,TU.open (d:=113) rfl (by rintro v ⟨vs,⟨ad,cp,rfl,hE⟩,hl,hx⟩;exact TU.c (eC (.o rfl) (Rb)) (Ic ad cp vs _ _ hE hl hx (by rw[←hl];decide) cQ) (fun v W1 h=>⟨h.2,h.1⟩))⟩) (aC (.inr ⟨rfl,rfl,TU.p (.mv rfl) (SlT.F1 hT8 hC)⟩) (aC (.inr ⟨rfl,rfl,TU.open (d:=114) rfl (by rintro _ ⟨⟨a114,c114,rfl,x114⟩,p114⟩;exact TU.open (d:=115) rfl (by rintro _ ⟨⟨b115,d115,rfl,y115⟩,q115⟩;exact TU.p (.build (cs:=#[.slice a114 (List.length (List.flatten [Cr,C1,Dp])) c114,.slice b115 (List.length (Cr)) d115,.func (.func (Ev 1)) #[] #[],.bool false]) underlying164 zeroValue164 C3 (.ct rfl (.ct rfl (.cons (.func _) (.cons (.const _) .nil)))) rfl) ⟨_,_,rfl,⟨Av x114,p114⟩,⟨Av y115,q115⟩⟩))⟩) (aC (.inl (.inr ⟨rfl,by intro j hj e;simp only[List.mem_cons,List.mem_nil_iff,or_false]at hj;rcases hj with rfl|rfl|rfl|rfl|rfl|rfl|rfl|rfl|rfl|rfl|rfl<;>first|exact absurd e cQ|exact⟨_,_,_,rfl⟩⟩)) ?_)))))))))))))))))))))))))))))))))))))))))))))))))))))))))))))))))))))))))))))))))))))))))))))))))))))))))
  exact allL.nil
 intro W b kv g hU hM hP hg
 have hW:=hW.trans ((Up.drew _).trans hU)
 refine I rfl (LW.A rfl (Ai (Al (KW.q ?_))))
 refine⟨_,rfl,⟨kv,hM,?_,?_⟩,hW⟩
 ·intro k v hm
  have:=hP.mem_iff.1 hm
  simp only[List.map_cons,List.map_nil,List.mem_cons,List.mem_nil_iff,or_false,Prod.mk.injEq]at this
  rcases this with⟨rfl,rfl⟩|⟨rfl,rfl⟩|⟨rfl,rfl⟩|⟨rfl,rfl⟩|⟨rfl,rfl⟩|⟨rfl,rfl⟩|⟨rfl,rfl⟩|⟨rfl,rfl⟩|⟨rfl,rfl⟩|⟨rfl,rfl⟩|⟨rfl,rfl⟩
  · exact hg 14 _ 36 cQ rfl rfl
  · exact hg 23 _ 44 cQ rfl rfl
  · exact hg 34 _ 54 cQ rfl rfl
  · exact hg 44 _ 63 cQ rfl rfl
  · exact hg 50 _ 68 cQ rfl rfl
  · exact hg 59 _ 76 cQ rfl rfl
  · exact hg 69 _ 85 cQ rfl rfl
  · exact hg 78 _ 93 cQ rfl rfl
  · exact hg 87 _ 101 cQ rfl rfl
  · exact hg 96 _ 109 cQ rfl rfl
  exact hg 104 _ 116 cQ rfl rfl
 intro k
 rw[(hP.map (·.1)).mem_iff]
 simp
 omega
end Go.Proofs.YtdilcdgjklimoaaGreatDoor
namespace Go.Proofs
open Go.Proofs.Tryz
open Go.Wx Go.RowKit
set_option maxRecDepth 4000 in
theorem Pp(f g:Fact)(w:World):(Op.equalIn 10000 74 (.agg f.cells) (.agg g.cells)).run Tryz.prog w=.ok (H8 f g) w:=by
 have hf:Tryz.prog.underlying 74=some (.struct (Tryz.prog.fieldsOf 74)):=by rw[Program.fieldsOf,underlying74]
 rw[run_equalIn_agg w 9999 74 _ _ hf stoodInHeld74]
 have h:(Op.eqFields 9999 f.cells g.cells (Tryz.prog.fieldsOf 74).toList).run Tryz.prog w=.ok (H8 f g) w:=by
   rw[Program.fieldsOf,underlying74]
   dsimp only
   iterate 4 (refine Qy cQ isAgg3 rfl rfl (run_equalIn_int w 9998 _ _ _ _ _ underlying3) ?_)
   refine Qy cQ isAgg4 rfl rfl (run_equalIn_bool' w 9998 _ _ _ underlying4) ?_
   iterate 13 (refine Qy cQ isAgg3 rfl rfl (run_equalIn_int w 9998 _ _ _ _ _ underlying3) ?_)
   rw[show(f.Text.toList==g.Text.toList)=((f.Text.toList==g.Text.toList)&&true)by simp]
   exact Qy cQ isAgg9 rfl rfl (run_equalIn_string w 9998 _ _ _ underlying9) rfl
 exact h
end Go.Proofs
namespace Go.Wx
def Gk(f:Fact)(o:Nat):Int:=match o with
 |1=>f.ID
 |5=>f.Time
 |6=>f.Until
 |7=>f.Wafer
 |8=>f.Other
 |9=>f.Lot
 |10=>f.Product
 |11=>f.Tool
 |12=>f.Chamber
 |13=>f.Step
 |14=>f.Recipe
 |15=>f.Revision
 |16=>f.Value
 |17=>f.Parties
 |_=>0
def iT(f:Fact)(o:Nat)(n:Int):Fact:=match o with
 |1=>{ f with ID:=n }
 |5=>{ f with Time:=n }
 |6=>{ f with Until:=n }
 |7=>{ f with Wafer:=n }
 |8=>{ f with Other:=n }
 |9=>{ f with Lot:=n }
 |10=>{ f with Product:=n }
 |11=>{ f with Tool:=n }
 |12=>{ f with Chamber:=n }
 |13=>{ f with Step:=n }
 |14=>{ f with Recipe:=n }
 |15=>{ f with Revision:=n }
 |16=>{ f with Value:=n }
 |17=>{ f with Parties:=n }
 |_=>f
def Ez(o:Nat):Bool:=Nat.beq o 1||(Nat.ble 5 o&&Nat.ble o 17)
theorem D4{o:Nat}(h:Ez o=true):o=1∨o=5∨o=6∨o=7∨o=8∨o=9∨o=10∨o=11∨o=12∨o=13∨o=14∨o=15∨o=16∨o=17:=by
 simp[Ez]at h;omega
theorem Uo(k:Int):∀x∈fieldsOf k,Ez x.off=true:=by
 intro x hx
 have h:∀l∈Mv,∀y∈l,Ez y.off=true:=by decide
 unfold fieldsOf at hx
 rw[List.getD_eq_getElem?_getD]at hx
 cases hl:Mv[k.toNat]? with
 |none=>rw[hl]at hx;simp at hx
 |some l=>rw[hl]at hx;exact h l (List.mem_of_getElem? hl) x (by simpa using hx)
theorem Ow{f:Fact}{o:Nat}(h:Ez o=true):nth f.cells.toList o=some (vi (Gk f o)):=by
 rcases D4 h with rfl|rfl|rfl|rfl|rfl|rfl|rfl|rfl|rfl|rfl|rfl|rfl|rfl|rfl<;>rfl
theorem bD{f:Fact}{o:Nat}{n:Int}(h:Ez o=true):f.cells.setIfInBounds o (vi n)=(iT f o n).cells:=by
 rcases D4 h with rfl|rfl|rfl|rfl|rfl|rfl|rfl|rfl|rfl|rfl|rfl|rfl|rfl|rfl<;>rfl
def Pq(r:Nat)(f:Fact):Bool:=match r with
 |1=>decide (f.Time≤f.Until)
 |2=> !decide (f.Wafer=f.Other)
 |_=>true
def Is:List Fld→Fact→Option Fact
 |[],g=>some g
 |x::r,g=>if Gk g x.off<x.lo∨x.hi<Gk g x.off then none else Is r (iT g x.off 0)
def Xy(k v d:Int)(g:Bool):Fact:=⟨k,0,v,d,g,0,0,0,0,0,0,0,0,0,0,0,0,0,ByteArray.empty⟩
def preB(f:Fact):Bool:=decide (f.Version<1)||decide (1000000<f.Version)||decide (f.Day<0)||decide (100000<f.Day)||decide (8192<(f.Text.size:Int))
def Cf(f:Fact):Bool:=decide (1≤f.Kind∧f.Kind≤11)&&(!(preB f|| !Pq (G0 f.Kind) f)&&
 match Is (fieldsOf f.Kind) f with
 |none=>false
 |some g=>H8 (if Gd f.Kind then{ g with Text:=ByteArray.empty }else g) (Xy f.Kind f.Version f.Day f.Gone))
def fI(f:Fact):Fact:=Xy f.Kind f.Version f.Day f.Gone
theorem iU{fs:List Fld}{f g:Fact}{k:Nat}{x:Fld}(hg:Is fs f=Is (fs.drop k) g)(hx:fs[k]?=some x)(h:¬(Gk g x.off<x.lo∨x.hi<Gk g x.off)):Is fs f=Is (fs.drop (k+1)) (iT g x.off 0):=by
 obtain⟨hk,e⟩:=List.getElem?_eq_some_iff.1 hx
 rw[hg,List.drop_eq_getElem_cons hk,e]
 simp only[Is,if_neg h]
theorem iV{fs:List Fld}{f g:Fact}{k:Nat}{x:Fld}(hg:Is fs f=Is (fs.drop k) g)(hx:fs[k]?=some x)(h:Gk g x.off<x.lo∨x.hi<Gk g x.off):Is fs f=none:=by
 obtain⟨hk,e⟩:=List.getElem?_eq_some_iff.1 hx
 rw[hg,List.drop_eq_getElem_cons hk,e]
 simp only[Is,if_pos h]
theorem Mw(k:Int):(fieldsOf k).length≤16:=by
 have h:∀l∈Mv,l.length≤16:=by decide
 unfold fieldsOf
 rw[List.getD_eq_getElem?_getD]
 cases hl:Mv[k.toNat]? with
 |none=>simp
 |some l=>exact h l (List.mem_of_getElem? hl)
theorem ET{f:Fact}(h:¬(1≤f.Kind∧f.Kind≤11)):false=Cf f:=by simp[Cf,decide_eq_false h]
theorem EU{f:Fact}(h:preB f=true):false=Cf f:=by simp[Cf,h]
theorem yD{f:Fact}{r:Nat}(hr:r=G0 f.Kind)(h:Pq r f=false):false=Cf f:=by subst hr;simp[Cf,h]
theorem yE{f:Fact}(h:Is (fieldsOf f.Kind) f=none):false=Cf f:=by simp[Cf,h]
theorem bE{f:Fact}{o:Nat}(h:Ez o=true):o+1≤f.cells.size:=by
 rcases D4 h with rfl|rfl|rfl|rfl|rfl|rfl|rfl|rfl|rfl|rfl|rfl|rfl|rfl|rfl<;>exact Nat.le_of_ble_eq_true rfl
theorem yF{f g:Fact}{r:Nat}{t:Bool}(hk:1≤f.Kind∧f.Kind≤11)(hp:preB f=false)(hr:r=G0 f.Kind)(h:Pq r f=true)(hg:Is (fieldsOf f.Kind) f=some g)(ht0:t=Gd f.Kind)(ht:t=true):H8 ({ g with Text:=ByteArray.empty }:Fact) (fI f)=Cf f:=by
 subst hr ht0;simp only[Cf,decide_eq_true hk,hp,h,hg,ht];rfl
theorem yG{f g:Fact}{r:Nat}{t:Bool}(hk:1≤f.Kind∧f.Kind≤11)(hp:preB f=false)(hr:r=G0 f.Kind)(h:Pq r f=true)(hg:Is (fieldsOf f.Kind) f=some g)(ht0:t=Gd f.Kind)(ht:t=false):H8 g (fI f)=Cf f:=by
 subst hr ht0;simp only[Cf,decide_eq_true hk,hp,h,hg,ht];rfl
theorem Xz{fs:List Fld}{f g:Fact}{k:Nat}(hg:Is fs f=Is (fs.drop k) g)(hk:fs.length≤k):Is fs f=some g:=by
 rw[hg,List.drop_eq_nil_of_le hk]
 rfl
end Go.Wx
namespace Go.Proofs.YtdilcdgjklimoaaGreatDoor
open Go.Proofs.Tryz
open Go.Wx Go.RowKit
theorem iW(f:Fact)(w:World):Ret prog 157 #[.agg f.cells] w fun r w'=>r=.bool (Pq 0 f)∧Up w w':=by
 have hW:=Up.refl w
 refine cT 3 func157 rfl (Af (Ao (.bA rfl) rfl ?_))
 rintro _ w1 ⟨B1,rfl,NB1⟩
 replace hW:=hW.up NB1.up
 have hB1:=NB1.blk
 refine Az (Am (Aa (Az (Ai (Al (KW.q ?_))))))
 exact⟨rfl,hW⟩
theorem bF(f:Fact)(w:World):Ret prog 155 #[.agg f.cells] w fun r w'=>r=.bool (Pq 1 f)∧Up w w':=by
 have hW:=Up.refl w
 refine cT 8 func155 rfl (Af (Ao (.bA rfl) rfl ?_))
 rintro _ w1 ⟨B1,rfl,NB1⟩
 replace hW:=hW.up NB1.up
 have hB1:=NB1.blk
 refine Az (Am (Aa (U (.fB 5 rfl) (U (.lb rfl (hB1.Ak rfl)) (U (.fB 6 rfl) (U (.lb rfl (hB1.Ak rfl)) (U (.leq (.t rfl) (.t rfl)) (LW.A rfl (Ai (Al (KW.q ?_)))))))))))
 exact⟨rfl,hW⟩
theorem iX(f:Fact)(w:World):Ret prog 144 #[.agg f.cells] w fun r w'=>r=.bool (Pq 2 f)∧Up w w':=by
 have hW:=Up.refl w
 refine cT 8 func144 rfl (Af (Ao (.bA rfl) rfl ?_))
 rintro _ w1 ⟨B1,rfl,NB1⟩
 replace hW:=hW.up NB1.up
 have hB1:=NB1.blk
 refine Az (Am (Aa (U (.fB 7 rfl) (U (.lb rfl (hB1.Ak rfl)) (U (.fB 8 rfl) (U (.lb rfl (hB1.Ak rfl)) (U (.neq (.t rfl) (.t rfl)) (LW.A rfl (Ai (Al (KW.q ?_)))))))))))
 exact⟨rfl,hW⟩
theorem fJ(o b:Nat)(w:World)(ho:Ez o=true):Ret Tryz.prog (sC o) #[.pointer (some ⟨b,0,none⟩)] w fun r w'=>r=.pointer (some ⟨b,o,none⟩)∧Up w w':=by
 rcases D4 ho with rfl|rfl|rfl|rfl|rfl|rfl|rfl|rfl|rfl|rfl|rfl|rfl|rfl|rfl
 · exact yC b w
 · exact mT b w
 · exact iP b w
 · exact iQ b w
 · exact iR b w
 · exact sD b w
 · exact Xv b w
 · exact mU b w
 · exact Xw b w
 · exact mV b w
 · exact bC b w
 · exact V2 b w
 · exact iS b w
 exact Xx b w
theorem mW(o:Nat)(ho:Ez o=true):∀(args:Array Go.Value)(w:World),(callFunc (sC o) args).run Tryz.prog w=.ok (.enter (sC o) args) w:=by
 rcases D4 ho with rfl|rfl|rfl|rfl|rfl|rfl|rfl|rfl|rfl|rfl|rfl|rfl|rfl|rfl
 · exact CN
 · exact DW
 · exact DV
 · exact CR
 · exact DB
 · exact CS
 · exact DC
 · exact CT
 · exact CU
 · exact CV
 · exact CO
 · exact CP
 · exact CY
 exact CX
theorem mX(r:Nat)(f:Fact)(w:World)(hr:r<3):Ret Tryz.prog (Ev r) #[.agg f.cells] w fun v w'=>v=.bool (Pq r f)∧Up w w':=by
 match r,hr with
 |0,_=>exact iW f w
 |1,_=>exact bF f w
 |2,_=>exact iX f w
theorem sE(r:Nat)(hr:r<3):∀(args:Array Go.Value)(w:World),(callFunc (Ev r) args).run Tryz.prog w=.ok (.enter (Ev r) args) w:=by
 match r,hr with
 |0,_=>exact DA
 |1,_=>exact CZ
 |2,_=>exact CQ
theorem sF(k:Int):G0 k<3:=by
 unfold G0
 rw[List.getD_eq_getElem?_getD]
 have h:∀x∈[0,1,0,2,0,0,1,1,0,0,0,1],x<3:=by decide
 cases hl:[0,1,0,2,0,0,1,1,0,0,0,1][k.toNat]? with
 |none=>simp
 |some x=>exact h x (List.mem_of_getElem? hl)
theorem ShV.Dk{w w':World}{v:Go.Value}{fs ks:List Fld}{r:Nat}{t:Bool}(h:ShV w v fs ks r t)(u:KeepT 164 w w'):ShV w' v fs ks r t:=let⟨v1,v2,e,h1,h2⟩:=h;⟨v1,v2,e,h1.Dk rfl u,h2.Dk rfl u⟩
theorem ShMap.Dk{w w':World}{b:Nat}(h:ShMap w b)(u:KeepT 164 w w'):ShMap w' b:=let⟨kv,h1,h2,h3⟩:=h;⟨kv,h1.Dk u,fun k v m=>(h2 k v m).Dk u,h3⟩
def ShM(v:Go.Value)(w:World):Prop:=∃b,v=.map (some b)∧ShMap w b
theorem ShM.Dk{v:Go.Value}{w w':World}(h:ShM v w)(u:KeepT 164 w w'):ShM v w':=let⟨b,e,m⟩:=h;⟨b,e,m.Dk u⟩
def shOf(f:Fact)(v:Go.Value)(w:World):Prop:=ShV w v (fieldsOf f.Kind) (Eu f.Kind) (G0 f.Kind) (Gd f.Kind)
def xD(f:Fact)(v:Go.Value)(w:World):Prop:=∃s,v=.tuple #[s,.bool true]∧shOf f s w
def V3:Go.Value:=.agg #[.slice none 0 0,.slice none 0 0,.nilFunc,.bool false]
theorem shOf.agg{f:Fact}{v:Go.Value}{w:World}(h:shOf f v w):∃cs,v=.agg cs∧cs.size=4∧cs.all (·.oneCell')=true:=by
 obtain⟨v1,v2,rfl,⟨⟨a1,c1,rfl,_⟩,_⟩,⟨a2,c2,rfl,_⟩,_⟩:=h
 exact⟨_,rfl,rfl,by simp[Value.oneCell']⟩
set_option maxHeartbeats 4000000 in
theorem Ly(f:Fact)(w:World):Ret prog 58 #[.agg f.cells] w fun r w'=>r=.bool (Cf f)∧Up w w':=by
 obtain⟨w0,rfl,hS⟩:=W0 w
 refine cT 93 func58 rfl (Af (Ao (.bA rfl) rfl ?_))
 rintro _ w1 ⟨B1,rfl,NB1⟩
 replace hS:=hS.Cg NB1
 refine Az (Am ?_)
 cases hq1:decide (1≤f.Kind∧f.Kind≤11)with
 |true=>
  have hkn:=of_decide_eq_true hq1
  obtain⟨r0,hr0⟩:∃r,r=G0 f.Kind:=⟨_,rfl⟩
  have hr3:r0<3:=by rw[hr0];exact sF _
  obtain⟨t0,ht0⟩:∃t,t=Gd f.Kind:=⟨_,rfl⟩
  have hB1T:=hS.blk 0 rfl
  have hU0:=hS.Ch
  refine CW.box 9 7 8 5 3 14 #[.slice none 0 0,.slice none 0 0,.nilFunc,.bool false] [.pred ShM,.eq (.pointer (some ⟨B1,0,none⟩)),.eq (vi f.Kind),.pred (xD f),.pred (xD f),.pred (shOf f),.eq (.bool true),.pred fun v _=>∃B,v=.pointer (some ⟨B,0,none⟩),.eq undef] [15] zeroValue164 sizeOf164 kQ rfl kQ kQ kQ kQ kQ kQ kQ rfl rfl ⟨_,_,_,rfl⟩ _ rfl ⟨_,_,_,rfl⟩ ⟨PhT.pred fun _ _ _ h u=>ShM.Dk h u,PhT.eq _ _,PhT.eq _ _,PhT.pred fun _ _ _ h u=>let⟨s,e,h⟩:=h;⟨s,e,ShV.Dk h u⟩,PhT.pred fun _ _ _ h u=>let⟨s,e,h⟩:=h;⟨s,e,ShV.Dk h u⟩,PhT.pred fun _ _ _ h u=>ShV.Dk h u,PhT.eq _ _,PhT.pred fun _ _ _ h _=>h,PhT.eq _ _,trivial⟩ rfl (fun v W h=>shOf.agg h) (fun B W=>⟨B,rfl⟩) ?_ ?_
  ·intro W hK0
   have hK:=(Up.drew w1).Dk.trans hK0
   have hB1W:=Blk.Dk hB1T (T:=164) rfl hK
   refine aC (.inr ⟨rfl,TU.c (eC .nil (rY)) (J3 _) (fun v W1 h=>let⟨b,e,m,u⟩:=h;⟨u,b,e,m⟩)⟩) (aC (.inr ⟨rfl,TU.p (.fB 0 rfl) rfl⟩) (aC (.inr ⟨rfl,TU.p (.lb rfl (hB1W.Ak rfl)) rfl⟩) (aC (.inr ⟨rfl,TU.open (d:=10) rfl (by rintro _ ⟨b,rfl,kv,hI,hV,hK⟩;obtain⟨⟨k0,sv⟩,hkv,e0⟩:=List.mem_map.1 ((hK f.Kind).2 hkn);cases e0;exact TU.p (.Cx underlying165 underlying3 (.t rfl) (.t rfl) hI hkv) ⟨_,rfl,hV _ _ hkv⟩)⟩) (aC (.inr ⟨rfl,TU.open (d:=13) rfl (by rintro _ ⟨s,rfl,h⟩;exact TU.p (.mv rfl) ⟨s,rfl,h⟩)⟩) (aC (.inr ⟨rfl,TU.open (d:=9) rfl (by rintro _ ⟨s,rfl,h⟩;exact TU.p (.xt rfl rfl) h)⟩) (aC (.inr ⟨rfl,TU.open (d:=9) rfl (by rintro _ ⟨s,rfl,h⟩;exact TU.p (.xt rfl rfl) rfl)⟩) (aC (.inl (.inl rfl)) (aC (.inl (.inr rfl)) ?_))))))))
   exact allL.nil
  intro wT B3 g hU hBn hB3 hg
  have h15:g 15=.bool true:=hg 6 _ 15 cQ rfl rfl
  have hUT:=(Up.drew _).trans hU
  have hB1X:=hB1T.up hUT
  replace hB1T:=hB1X
  replace hU0:=hU0.trans hUT
  obtain⟨v1,v2,e14,hs1,hs2⟩:=hg 5 _ 14 cQ rfl rfl
  rw[e14]at hB3
  obtain⟨⟨ad,cp,rfl,hE0⟩,_⟩:=hs1
  obtain⟨⟨ad2,cp2,rfl,hE2⟩,_⟩:=hs2
  rw[←hr0,←ht0]at hB3
  replace hB3:Blk wT B3 #[.slice ad (fieldsOf f.Kind).length cp,.slice ad2 (Eu f.Kind).length cp2,.func (.func (Ev r0)) #[] #[],.bool t0] 164:=hB3
  have hB3T:=hB3
  change LW _ _ _ _ _ _ _ _ ((3,_)::(15,.eq (g 15))::_) _
  rw[h15]
  replace hS:=(Sep.start no wT)
  refine LW.A rfl (Am (Ah ?_))
  cases hq2:preB f with
  |true=>
   refine Aa (U (.tr (PEv.mv rfl) (rfl)) (U (.n1 rfl) (I rfl (Bh (U (.fB 2 rfl) (Bh (U (.lb rfl ((hB1T.up hS.Ch).Ak rfl)) (Bh (U (.lss (.t rfl) (.const _)) (U (.po rfl (fun hp=>(by exact .tmp rfl))) (I rfl (LW.gr rfl (fun hc=>PEv.fB 2 rfl) (LW.gr rfl (fun hc=>PEv.load isAgg3 vQ ((hB1T.up hS.Ch).Ak rfl)) (LW.gr rfl (fun hc=>PEv.gtr vQ (.const _)) (U (.po rfl (fun hp=>(by exact .cond rfl (by simp_all)))) (I rfl (LW.gr rfl (fun hc=>PEv.fB 3 rfl) (LW.gr rfl (fun hc=>PEv.load isAgg3 vQ ((hB1T.up hS.Ch).Ak rfl)) (LW.gr rfl (fun hc=>PEv.lss vQ (.const _)) (U (.po rfl (fun hp=>(by exact .cond rfl (by simp_all)))) (I rfl (LW.gr rfl (fun hc=>PEv.fB 3 rfl) (LW.gr rfl (fun hc=>PEv.load isAgg3 vQ ((hB1T.up hS.Ch).Ak rfl)) (LW.gr rfl (fun hc=>PEv.gtr vQ (.const _)) (U (.po rfl (fun hp=>(by exact .cond rfl (by simp_all)))) (I rfl (LW.gr rfl (fun hc=>PEv.fB 18 rfl) (LW.gr rfl (fun hc=>PEv.load isAgg9 vQ ((hB1T.up hS.Ch).Ak rfl)) (LW.gr rfl (fun hc=>PEv.Qz underlying9 vQ) (LW.gr rfl (fun hc=>PEv.gtr vQ (.const _)) (U (.po rfl (fun hp=>(by exact .cond rfl (by simp_all)))) (U (.tr (PEv.mv rfl) (by simpa[preB]using hq2)) (C7 (C7 (C7 (C7 (C7 (U (.El (b:=false) (.t rfl) (fun hp=>absurd (show true=false from hp) cQ)) (Ai (CW.v rfl (Af (Az (Ai (Al (Ap (KW.q ?_))))))))))))))))))))))))))))))))))))))))))))))
   refine⟨congrArg Go.Value.bool ?_,hU0.trans hS.Ch⟩
   exact EU hq2
  |false=>
   obtain⟨hp1,hp2,hp3,hp4,hp5⟩:¬f.Version<1∧¬1000000<f.Version∧¬f.Day<0∧¬100000<f.Day∧¬8192<(f.Text.size:Int):=by simp[preB]at hq2;omega
   refine Aa (U (.tr (PEv.mv rfl) (rfl)) (U (.n1 rfl) (I rfl (Bh (U (.fB 2 rfl) (Bh (U (.lb rfl ((hB1T.up hS.Ch).Ak rfl)) (Bh (U (.fa (PEv.lss (.t rfl) (.const _)) (decide_eq_false hp1)) (U (.po rfl (fun hp=>(by exact .tmp rfl))) (I rfl (Bh (U (.fB 2 rfl) (Bh (U (.lb rfl ((hB1T.up hS.Ch).Ak rfl)) (Bh (U (.fa (PEv.gtr (.t rfl) (.const _)) (decide_eq_false hp2)) (U (.po rfl (fun hp=>(by exact .tmp rfl))) (I rfl (Bh (U (.fB 3 rfl) (Bh (U (.lb rfl ((hB1T.up hS.Ch).Ak rfl)) (Bh (U (.fa (PEv.lss (.t rfl) (.const _)) (decide_eq_false hp3)) (U (.po rfl (fun hp=>(by exact .tmp rfl))) (I rfl (Bh (U (.fB 3 rfl) (Bh (U (.lb rfl ((hB1T.up hS.Ch).Ak rfl)) (Bh (U (.fa (PEv.gtr (.t rfl) (.const _)) (decide_eq_false hp4)) (U (.po rfl (fun hp=>(by exact .tmp rfl))) (I rfl (Bh (U (.fB 18 rfl) (Bh (U (.lb rfl ((hB1T.up hS.Ch).Ak rfl)) (Bh (U (.Qz underlying9 (.t rfl)) (Bh (U (.fa (PEv.gtr (.t rfl) (.const _)) (decide_eq_false hp5)) (U (.po rfl (fun hp=>(by exact .tmp rfl))) (I rfl (Bh (U (.fB 2 rfl) (Bh (U (.lb rfl ((hB3T.up hS.Ch).Ak rfl)) (Bh (U (.lc rfl ((hB1T.up hS.Ch).agg)) (Bh (A6 (Db (.t rfl) (.cu rfl) (sE r0 hr3)) rfl (mX r0 f _ hr3) ?_)))))))))))))))))))))))))))))))))))))))))))))))))))))
   rintro _ w2 ⟨rfl,uw2⟩
   replace hS:=hS.up uw2
   refine Bh (U (.n1 rfl) (U (.po rfl (fun hp=>(by exact .tmp rfl))) (Ai (CW.b rfl (fun h50=>?_) (fun h50=>?_)))))
   ·refine Af (Az (Ai (Al (Ap (KW.q ?_)))))
    refine⟨congrArg Go.Value.bool ?_,hU0.trans hS.Ch⟩
    exact yD hr0 (by simpa using h50)
   refine Aj (Ac (Af (U (.lc rfl ((hB1T.up hS.Ch).agg)) (Ao (.Br zeroValue74) rfl ?_))))
   rintro _ w3 ⟨B5,rfl,MB5⟩
   refine A9 (.Ca sizeOf74 rfl (.t rfl) (.t rfl) eQ MB5.blk rfl) ?_
   intro w4 LB5
   have NB5:=MB5.set LB5
   replace hS:=hS.Cg NB5
   refine Am (Af (U (.fB 0 rfl) (U (.lb rfl ((hB3T.up hS.Ch).Ak rfl)) (U (.Cw underlying162 (.t rfl)) (U (.move (.const _)) (Ai (Ae (A3 (σ:=Nat×Fact) (fun s w=>(s.1≤(fieldsOf f.Kind).length)∧(Is (fieldsOf f.Kind) f=Is ((fieldsOf f.Kind).drop s.1) s.2)∧(Sep no wT w [Bq B5 s.2.cells 74])) (fun s=>[(55,.eq (vi (s.1:Int)))]) ([(1,.eq _),(3,.eq _),(5,.eq _),(53,.eq _),(54,.eq _)]) (fun s=>(fieldsOf f.Kind).length-s.1) (0,f) ?_ tQ ?_))))))))
   ·exact⟨Nat.zero_le _,rfl,hS⟩
   rintro⟨k,g⟩ w5 ⟨hkk,hg,hS⟩
   refine Af (U (.l2 rfl rfl) (Am (CW.b rfl (fun h56=>?_) (fun h56=>?_))))
   ·refine Aj (Ac (Ah (Ae (Ah ?_))))
    have hfl:=Mw f.Kind
    have hE:=Els.up hE0 hS.Ch
    have hkl:k<(fieldsOf f.Kind).length:=by simp at h56;omega
    refine Aa ?_
    obtain⟨x,hx⟩:=Aq (xs:=fieldsOf f.Kind) (i:=k) oQ
    obtain⟨Bx,ox,ax,hcx⟩:=hE _ x hx
    refine U (.Aw underlying162 sizeOf225 (.t rfl) (.t rfl) oQ ax) (U (.lc rfl (hcx)) (Ao (.Br zeroValue225) rfl ?_))
    rintro _ w6 ⟨B7,rfl,MB7⟩
    refine A9 (.Ca sizeOf225 rfl (.t rfl) (.t rfl) (Fld.one _) MB7.blk rfl) ?_
    intro w7 LB7
    have NB7:=MB7.set LB7
    replace hcx:=hcx.up NB7.up
    replace hS:=hS.Cg NB7
    refine Am ?_
    have hox:=Uo _ x (List.mem_of_getElem? hx)
    refine Aa (U (.fB 0 rfl) (U (.lb rfl (hS.b1.Ak rfl)) (A6 (Db (.t rfl) (.cu rfl) (mW x.off hox)) rfl (fJ x.off _ _ hox) ?_)))
    rintro _ w8 ⟨rfl,uw8⟩
    replace hS:=hS.up uw8
    refine LW.A rfl (Am (Ah (Ea kQ kQ rfl rfl (Au (.mv rfl) (Au (.nc rfl) (Au (.lb rfl (hS.b0.Ak (Ow hox))) (Au (.fB 1 rfl) (Au (.lb rfl (hS.b1.Ak (v:=vi x.lo) rfl)) (Au (.l2 rfl rfl) (Au (.mv rfl) (Fu rfl rfl rfl rfl rfl rfl (fun hc=>PEv.mv rfl) (Fu rfl rfl rfl rfl rfl rfl (fun hc=>PEv.nilCheck vQ) (Fu rfl rfl rfl rfl rfl rfl (fun hc=>PEv.load isAgg3 vQ (hS.b0.Ak (Ow hox))) (Fu rfl rfl rfl rfl rfl rfl (fun hc=>PEv.fB 2 rfl) (Fu rfl rfl rfl rfl rfl rfl (fun hc=>PEv.load isAgg3 vQ (hS.b1.Ak (v:=vi x.hi) rfl)) (Fu rfl rfl rfl rfl rfl rfl (fun hc=>PEv.gtr vQ vQ) (Au (.po rfl (fun hp=>(by exact .cond rfl (by simp_all)))) (HW.nil ?_))))))))))))))))))
    intro w9 uw9
    replace hS:=hS.up uw9
    refine Ac (CW.b rfl (fun h75=>?_) (fun h75=>?_))
    ·refine Af (Az (Ai (Al (Ap (Ay (Ap (Ap (Ay (Ap (KW.q ?_))))))))))
     refine⟨congrArg Go.Value.bool ?_,hU0.trans hS.Ch⟩
     exact yE (iV hg hx (by simp at h75;omega))
    refine Aj (Ac (Aa (I rfl (U (.nc rfl) (A9 (.store sizeOf3 (.t rfl) (.const _) rfl hS.b0 (bE hox)) ?_)))))
    intro w10 Nw10
    have zw10:=Nw10.size
    replace hS:=hS.Dz 0 rfl (by rw[bD hox]at Nw10;exact Nw10)
    refine LW.nil (Ad (Ac (Aa (U (.ic rfl oQ) (I rfl (LW.nil (Ar ?_)))))))
    exact⟨(k+1,iT g x.off 0),⟨by omega,iU hg hx (by simp at h75;omega),hS.take 1⟩,tQ,by omega⟩
   refine A4 (Ab (Ab (An (Ac (Ah (Af (U (.fB 3 rfl) (U (.lb rfl ((hB3T.up hS.Ch).Ak rfl)) (Ai (CW.b rfl (fun h80=>?_) (fun h80=>?_)))))))))))
   ·refine Aa (U (.fB 18 rfl) (A9 (.store sizeOf9 (.t rfl) (.const _) rfl hS.b0 bQ) ?_))
    intro w11 Nw11
    replace hS:=hS.Dz 0 rfl (show Set_ _ w11 _ (({ g with Text:=ByteArray.empty }:Fact).cells) _ from Nw11)
    refine Am (Aa (U (.lc rfl (hS.b0.agg)) (U (.fB 0 rfl) (U (.lb rfl ((hB1T.up hS.Ch).Ak rfl)) (U (.fB 2 rfl) (U (.lb rfl ((hB1T.up hS.Ch).Ak rfl)) (U (.fB 3 rfl) (U (.lb rfl ((hB1T.up hS.Ch).Ak rfl)) (U (.fB 4 rfl) (U (.lb rfl ((hB1T.up hS.Ch).Ak rfl)) (U (.build (cs:=(fI f).cells) underlying74 zeroValue74 G5 (.ct rfl (.ct rfl (.ct rfl (.cu rfl)))) rfl) (U (.xP eqGuardType74 (Pp _ _) (.t rfl) (.t rfl)) (LW.A rfl (Ai (Al (KW.q ?_))))))))))))))))
    refine⟨congrArg Go.Value.bool ?_,hU0.trans hS.Ch⟩
    exact yF hkn hq2 hr0 (by simpa using h50) (Xz hg (by simp at h56;omega)) ht0 h80
   refine Aj (Ac (Af (U (.lc rfl (hS.b0.agg)) (U (.fB 0 rfl) (U (.lb rfl ((hB1T.up hS.Ch).Ak rfl)) (U (.fB 2 rfl) (U (.lb rfl ((hB1T.up hS.Ch).Ak rfl)) (U (.fB 3 rfl) (U (.lb rfl ((hB1T.up hS.Ch).Ak rfl)) (U (.fB 4 rfl) (U (.lb rfl ((hB1T.up hS.Ch).Ak rfl)) (U (.build (cs:=(fI f).cells) underlying74 zeroValue74 G5 (.ct rfl (.ct rfl (.ct rfl (.cu rfl)))) rfl) (U (.xP eqGuardType74 (Pp _ _) (.t rfl) (.t rfl)) (LW.A rfl (Ai (Al (KW.q ?_)))))))))))))))))
   refine⟨congrArg Go.Value.bool ?_,hU0.trans hS.Ch⟩
   exact yG hkn hq2 hr0 (by simpa using h50) (Xz hg (by simp at h56;omega)) ht0 h80
 |false=>
  have hkn:=of_decide_eq_false hq1
  have hB1T:=hS.blk 0 rfl
  have hU0:=hS.Ch
  refine CW.box 9 7 8 5 3 14 #[.slice none 0 0,.slice none 0 0,.nilFunc,.bool false] [.pred ShM,.eq (.pointer (some ⟨B1,0,none⟩)),.eq (vi f.Kind),.eq (.tuple #[V3,.bool false]),.eq (.tuple #[V3,.bool false]),.eq V3,.eq (.bool false),.pred fun v _=>∃B,v=.pointer (some ⟨B,0,none⟩),.eq undef] [15] zeroValue164 sizeOf164 kQ rfl kQ kQ kQ kQ kQ kQ kQ rfl rfl ⟨_,_,_,rfl⟩ _ rfl ⟨_,_,_,rfl⟩ ⟨PhT.pred fun _ _ _ h u=>ShM.Dk h u,PhT.eq _ _,PhT.eq _ _,PhT.eq _ _,PhT.eq _ _,PhT.eq _ _,PhT.eq _ _,PhT.pred fun _ _ _ h _=>h,PhT.eq _ _,trivial⟩ rfl (fun v W h=>⟨_,h,rfl,by simp[Value.oneCell']⟩) (fun B W=>⟨B,rfl⟩) ?_ ?_
  ·intro W hK0
   have hK:=(Up.drew w1).Dk.trans hK0
   have hB1W:=Blk.Dk hB1T (T:=164) rfl hK
   refine aC (.inr ⟨rfl,TU.c (eC .nil (rY)) (J3 _) (fun v W1 h=>let⟨b,e,m,u⟩:=h;⟨u,b,e,m⟩)⟩) (aC (.inr ⟨rfl,TU.p (.fB 0 rfl) rfl⟩) (aC (.inr ⟨rfl,TU.p (.lb rfl (hB1W.Ak rfl)) rfl⟩) (aC (.inr ⟨rfl,TU.open (d:=10) rfl (by rintro _ ⟨b,rfl,kv,hI,hV,hK⟩;exact TU.p (.Gt underlying165 underlying3 zeroValue164 (.t rfl) (.t rfl) hI (fun h=>hkn ((hK f.Kind).1 h))) rfl)⟩) (aC (.inr ⟨rfl,TU.p (.mv rfl) rfl⟩) (aC (.inr ⟨rfl,TU.p (.xt rfl rfl) rfl⟩) (aC (.inr ⟨rfl,TU.p (.xt rfl rfl) rfl⟩) (aC (.inl (.inl rfl)) (aC (.inl (.inr rfl)) ?_))))))))
   exact allL.nil
  intro wT B3 g hU hBn hB3 hg
  have h15:g 15=.bool false:=hg 6 _ 15 cQ rfl rfl
  have hUT:=(Up.drew _).trans hU
  have hB1X:=hB1T.up hUT
  replace hB1T:=hB1X
  replace hU0:=hU0.trans hUT
  have e14:g 14=V3:=hg 5 _ 14 cQ rfl rfl
  rw[e14]at hB3
  replace hB3:Blk wT B3 #[.slice none 0 0,.slice none 0 0,.nilFunc,.bool false] 164:=hB3
  change LW _ _ _ _ _ _ _ _ ((3,_)::(15,.eq (g 15))::_) _
  rw[h15]
  replace hS:=(Sep.start no wT)
  refine LW.A rfl (Am (Af (U (.fa (PEv.mv rfl) (rfl)) (U (.n1 rfl) (I rfl (C7 (C7 (C7 (U (.El (b:=false) (.t rfl) (fun hp=>absurd (show true=false from hp) cQ)) (I rfl (C7 (C7 (C7 (U (.El (b:=false) (.t rfl) (fun hp=>absurd (show true=false from hp) cQ)) (I rfl (C7 (C7 (C7 (U (.El (b:=false) (.t rfl) (fun hp=>absurd (show true=false from hp) cQ)) (I rfl (C7 (C7 (C7 (U (.El (b:=false) (.t rfl) (fun hp=>absurd (show true=false from hp) cQ)) (I rfl (C7 (C7 (C7 (C7 (U (.El (b:=false) (.t rfl) (fun hp=>absurd (show true=false from hp) cQ)) (I rfl (C7 (C7 (C7 (C7 (C7 (U (.El (b:=false) (.t rfl) (fun hp=>absurd (show true=false from hp) cQ)) (Ai (CW.v rfl (Af (Az (Ai (Al (Ap (KW.q ?_)))))))))))))))))))))))))))))))))))))))))))))
  refine⟨congrArg Go.Value.bool ?_,hU0.trans hS.Ch⟩
  exact ET hkn
end Go.Proofs.YtdilcdgjklimoaaGreatDoor
namespace Go.Wx
open Go.RowKit
section
variable {P:Program}{n:Nat}{ds:List Deferred}{l:Env}{w:World}{d:Option Tmp}{ty:TypeId}{ps:String}{af:Array Edge}{g:Option (Nat×Bool)}
theorem PEv.EV{op:BinOp}{T T':TypeId}{x y:Operand}{k k':IntKind}{i j:Int}{v:Value}(hx:Val l x (.int k i))(hy:Val l y (.int k' j))(h:∀w,(binOp op T (.int k i) (.int k' j)).run P w=.ok v w):
   PEv P n ds l w ⟨d,.binOp op T x y T',ty,ps,af,g⟩ v:=fun a w' ha _=>by
 refine Ci ?_
 rw[ha.ev hx,ha.ev hy,Sem.run_bind]
 have:(eqGuard op T x y (.int k i) (.int k' j)).run P w'=.ok () w':=by unfold eqGuard;cases op<;>rfl
 rw[this]
 exact h w'
theorem PEv.fK{T T':TypeId}{x y:Operand}{k k':IntKind}{i:Int}{j:Nat}(hx:Val l x (.int k i))(hy:Val l y (.int k' (j:Int))):PEv P n ds l w ⟨d,.binOp .shl T x y T',ty,ps,af,g⟩ (.int k (k.wrap (i*2^(min j k.bits)))):=.EV hx hy fun w=>by
 have h:¬((j:Int)<0):=by omega
 simp[binOp,Op.shift,h]
theorem PEv.Pr{T T':TypeId}{x y:Operand}{k k':IntKind}{i:Int}{j:Nat}(hx:Val l x (.int k i))(hy:Val l y (.int k' (j:Int))):PEv P n ds l w ⟨d,.binOp .shr T x y T',ty,ps,af,g⟩ (.int k (i.fdiv (2^(min j k.bits)))):=.EV hx hy fun w=>by
 have h:¬((j:Int)<0):=by omega
 simp[binOp,Op.shift,h]
theorem Jk{T T':TypeId}{x y:Operand}{k:IntKind}{i j:Int}(hx:Val l x (.int k i))(hy:Val l y (.int k j)):PEv P n ds l w ⟨d,.binOp .and T x y T',ty,ps,af,g⟩ (.int k (k.wrap (BitVec.ofInt k.bits i&&&BitVec.ofInt k.bits j).toNat)):=.bin hx hy fun w=>by simp[binOp,Op.intBits]
theorem iY{T T':TypeId}{x y:Operand}{k:IntKind}{i j:Int}(hx:Val l x (.int k i))(hy:Val l y (.int k j)):PEv P n ds l w ⟨d,.binOp .xor T x y T',ty,ps,af,g⟩ (.int k (k.wrap (BitVec.ofInt k.bits i ^^^ BitVec.ofInt k.bits j).toNat)):=.bin hx hy fun w=>by simp[binOp,Op.intBits]
theorem PEv.conv{T T':TypeId}{x:Operand}{k k':IntKind}{i:Int}(hT:(P.underlying T).isSome=true)(hT':P.underlying T'=some (.int k'))(hx:Val l x (.int k i)):PEv P n ds l w ⟨d,.convert T T' x,ty,ps,af,g⟩ (.int k' (k'.wrap i)):=fun a w' ha _=>by
 refine Ci ?_
 rw[ha.ev hx]
 have hk:P.intKind T'=k':=by simp[Program.intKind,hT']
 have:=run_convert_int (P:=P) (w:=w') T T' k i hT (by rw[hk];exact hT')
 rw[hk]at this
 exact this
end
def fL(n:Int):Nat:=if 0≤n then(2*n).toNat else(-2*n-1).toNat
theorem sG{a b:Int}(h:fL a=fL b):a=b:=by unfold fL at h;split at h<;>split at h<;>omega
theorem bG{a:Int}(h1: -4611686018427387903≤a)(h2:a≤4611686018427387903):fL a<18446744073709551616:=by unfold fL;split<;>omega
def Ox:Nat→Nat→List (UInt8×Bool)
 |0,_=>[]
 |k+1,z=>if z<128 then[(UInt8.ofNat z,true)]else(UInt8.ofNat (z%128),false)::Ox k (z/128)
theorem Uq:∀(k j z:Nat),z<128^k→z<128^j→0<k→0<j→Ox k z=Ox j z
 |k+1,j+1,z,h1,h2,_,_=>by
   unfold Ox
   split
   · rfl
   rename_i hz
   match k,j with
   |0,_=>simp at h1;omega
   |_,0=>simp at h2;omega
   |k+1,j+1=>
     rw[Uq (k+1) (j+1) (z/128) (by rw[Nat.div_lt_iff_lt_mul (by decide)];rw[Nat.pow_succ]at h1;exact h1) (by rw[Nat.div_lt_iff_lt_mul (by decide)];rw[Nat.pow_succ]at h2;exact h2) oQ (by omega)]
def Rp(z:Nat):List (UInt8×Bool):=Ox 10 z
theorem iZ{z:Nat}(h:z<128):Rp z=[(UInt8.ofNat z,true)]:=by unfold Rp Ox;rw[if_pos h]
theorem sH{z:Nat}(h:¬z<128)(hz:z<18446744073709551616):Rp z=(UInt8.ofNat (z%128),false)::Rp (z/128):=by
 unfold Rp
 conv=>lhs;unfold Ox
 rw[if_neg h,Uq 9 10 (z/128) oQ oQ cQ (by decide)]
theorem X0:∀(k z:Nat),(Ox k z).length≤k
 |0,_=>Nat.le_refl _
 |k+1,z=>by
   unfold Ox
   split
   · simp
   simp only[List.length_cons];have:=X0 k (z/128);omega
theorem fM(z:Nat):(Rp z).length≤10:=X0 10 z
def X1(p:UInt8×Bool):UInt8:=if p.2 then p.1 else p.1|||128
theorem mY{b:Nat}(hb:b<128):(UInt8.ofNat b|||128).toNat=b+128:=by
 rw[UInt8.toNat_or,UInt8.toNat_ofNat']
 show b%2^8|||2^7=_
 have:=Nat.two_pow_add_eq_or_of_lt (i:=7) (b:=b) oQ 1
 rw[Nat.mul_one]at this
 rw[Nat.mod_eq_of_lt oQ,Nat.or_comm,←this]
 omega
def sI(z:Nat):List UInt8:=(Rp z).map X1
def Oy(a:Int):Prop:= -4611686018427387903≤a∧a≤4611686018427387903
instance (a:Int):Decidable (Oy a):=by unfold Oy;infer_instance
theorem fN{k:Nat}(h:k≤1000000000):Oy (k:Int):=⟨by omega,by omega⟩
def encI(i:Int):List UInt8:=if Oy i then sI (fL i)else[]
theorem Ny(i:Int):(encI i).length≤10:=by
 unfold encI
 split
 · unfold sI;rw[List.length_map];exact fM _
 simp
def mZ:List UInt8→Option (Nat×List UInt8)
 |[]=>none
 |b::r=>if b.toNat<128 then some (b.toNat,r)else match mZ r with
   |none=>none
   |some (z,s)=>some (b.toNat-128+128*z,s)
theorem Ur:∀(k z:Nat)(r:List UInt8),z<128^k→0<k→mZ ((Ox k z).map X1++r)=some (z,r)
 |k+1,z,r,h,_=>by
   unfold Ox
   split
   · rename_i hz
     have e:(UInt8.ofNat z).toNat=z:=by rw[UInt8.toNat_ofNat'];omega
     simp only[List.map_cons,List.map_nil,X1,if_true,List.cons_append,List.nil_append,mZ,e,if_pos hz]
   rename_i hz
   have e:(UInt8.ofNat (z%128)|||128).toNat=z%128+128:=mY oQ
   match k with
   |0=>simp at h;omega
   |k+1=>
     have ih:=Ur (k+1) (z/128) r (by rw[Nat.div_lt_iff_lt_mul (by decide)];rw[Nat.pow_succ]at h;exact h) oQ
     simp only[List.map_cons,X1,Bool.false_eq_true,if_false,List.cons_append,mZ,e]
     rw[if_neg (by omega)]
     rw[ih]
     simp only[Option.some.injEq,Prod.mk.injEq,and_true]
     omega
theorem Us{z:Nat}(r:List UInt8)(h:z<18446744073709551616):mZ (sI z++r)=some (z,r):=Ur 10 z r oQ cQ
theorem Rq{a b:Int}{r s:List UInt8}(ha:Oy a)(hb:Oy b)(h:encI a++r=encI b++s):a=b∧r=s:=by
 have h1:=Us r (bG ha.1 ha.2)
 have h2:=Us s (bG hb.1 hb.2)
 rw[encI,encI,if_pos ha,if_pos hb]at h
 rw[h,h2]at h1
 simp only[Option.some.injEq,Prod.mk.injEq]at h1
 exact⟨(sG h1.1).symm,h1.2.symm⟩
theorem fO{a:Int}(h:Oy a):encI a≠[]:=by
 rw[encI,if_pos h]
 unfold sI Rp Ox
 split<;>simp
def Cp(l:List Int):List UInt8:=l.flatMap encI
theorem G1:∀(l:List Int),(Cp l).length≤10*l.length
 |[]=>by simp[Cp]
 |x::l=>by
   have h1:=Ny x
   have h2:=G1 l
   simp only[Cp,List.flatMap_cons,List.length_append,List.length_cons]at h2⊢
   omega
theorem bH{l:List Int}{k:Nat}{x:Int}(h:l[k]?=some x):Cp (l.take (k+1))=Cp (l.take k)++encI x:=by
 obtain⟨hk,e⟩:=List.getElem?_eq_some_iff.1 h
 unfold Cp
 rw[List.take_add_one,h];simp
theorem bI(l:List Int)(x:Int):Cp (l++[x])=Cp l++encI x:=by simp[Cp]
theorem jA(x:Int):Cp [x]=encI x:=by simp[Cp]
theorem Ut:∀{a b:List Int}{r s:List UInt8},(∀x∈a,Oy x)→(∀x∈b,Oy x)→a.length=b.length→Cp a++r=Cp b++s→a=b∧r=s
 |[],[],r,s,_,_,_,h=>⟨rfl,by simpa[Cp]using h⟩
 |x::a,y::b,r,s,ha,hb,hl,h=>by
   simp only[Cp,List.flatMap_cons,List.append_assoc]at h
   obtain⟨h1,h2⟩:=Rq (ha x List.mem_cons_self) (hb y List.mem_cons_self) h
   obtain⟨h3,h4⟩:=Ut (r:=r) (s:=s) (fun x hx=>ha x (List.mem_cons_of_mem _ hx)) (fun x hx=>hb x (List.mem_cons_of_mem _ hx)) (by simpa using hl) h2
   exact⟨by rw[h1,h3],h4⟩
 |[],_::_,_,_,_,_,hl,_=>by simp at hl
 |_::_,[],_,_,_,_,hl,_=>by simp at hl
def bJ(t:List UInt8):List UInt8:=encI (t.length:Int)++t
def vu(z:Nat):Value:=.int .u64 (z:Int)
theorem Eb(i:Int):IntKind.u64.wrap i=i%18446744073709551616:=by rw[IntKind.wrap_u64]
theorem nA{a:Int}(ha:Oy a):IntKind.u64.wrap (BitVec.ofInt IntKind.u64.bits (IntKind.u64.wrap (IntKind.u64.wrap a*2^(min 1 IntKind.u64.bits))) ^^^ BitVec.ofInt IntKind.u64.bits (IntKind.u64.wrap (a.fdiv (2^(min 63 IntKind.i64.bits))))).toNat=(fL a:Int):=by
 obtain⟨h1,h2⟩:=ha
 have e1:min 1 IntKind.u64.bits=1:=rfl
 have e2:min 63 IntKind.i64.bits=63:=rfl
 rw[e1,e2]
 by_cases h:0≤a
 · have f:a.fdiv (2^63)=0:=by rw[Int.fdiv_eq_ediv_of_nonneg _ (by decide)];omega
   have g0:IntKind.u64.wrap 0=0:=by rw[Eb];rfl
   rw[f,g0]
   have z:fL a=(2*a).toNat:=by unfold fL;rw[if_pos h]
   rw[z]
   have v:IntKind.u64.wrap (IntKind.u64.wrap a*2^1)=((2*a).toNat:Int):=by rw[Eb,Eb];omega
   rw[v]
   have q:(BitVec.ofInt 64 ((2*a).toNat:Int) ^^^ 0#64).toNat=(2*a).toNat:=by
     rw[BitVec.xor_zero,BitVec.toNat_ofInt];omega
   show IntKind.u64.wrap ((BitVec.ofInt 64 ((2*a).toNat:Int) ^^^ 0#64).toNat:Int)=_
   rw[q,Eb]
   omega
 have f:a.fdiv (2^63)= -1:=by rw[Int.fdiv_eq_ediv_of_nonneg _ (by decide)];omega
 have g0:IntKind.u64.wrap (-1)=18446744073709551615:=by rw[Eb];rfl
 rw[f,g0]
 have z:fL a=(-2*a-1).toNat:=by unfold fL;rw[if_neg h]
 rw[z]
 have v:IntKind.u64.wrap (IntKind.u64.wrap a*2^1)=18446744073709551616+2*a:=by rw[Eb,Eb];omega
 rw[v]
 have q:(BitVec.ofInt 64 (18446744073709551616+2*a) ^^^ BitVec.allOnes 64).toNat=(-2*a-1).toNat:=by
   rw[BitVec.xor_allOnes,BitVec.toNat_not,BitVec.toNat_ofInt];omega
 show IntKind.u64.wrap ((BitVec.ofInt 64 (18446744073709551616+2*a) ^^^ BitVec.allOnes 64).toNat:Int)=_
 rw[q,Eb]
 omega
theorem yH{z:Nat}(hz:z<18446744073709551616):IntKind.u64.wrap (BitVec.ofInt IntKind.u64.bits (z:Int)&&&BitVec.ofInt IntKind.u64.bits 127).toNat=((z%128:Nat):Int):=by
 have:(BitVec.ofInt IntKind.u64.bits (z:Int)&&&BitVec.ofInt IntKind.u64.bits 127).toNat=z%128:=by
   have e:BitVec.ofInt IntKind.u64.bits (z:Int)=BitVec.ofNat 64 z:=BitVec.ofInt_natCast 64 z
   rw[e]
   have e2:BitVec.ofInt IntKind.u64.bits 127=BitVec.ofNat 64 127:=rfl
   rw[e2]
   show(BitVec.ofNat 64 z&&&BitVec.ofNat 64 127).toNat=_
   rw[BitVec.toNat_and,BitVec.toNat_ofNat,BitVec.toNat_ofNat,Nat.mod_eq_of_lt (by omega:z<2^64)]
   show z&&&(2^7-1)=z%2^7
   exact Nat.and_two_pow_sub_one_eq_mod z 7
 rw[this,Eb]
 omega
theorem IQ{z:Nat}:((z:Int).fdiv (2^(min 7 IntKind.u64.bits)))=((z/128:Nat):Int):=by
 have e1:min 7 IntKind.u64.bits=7:=rfl
 rw[e1,Int.fdiv_eq_ediv_of_nonneg _ (by decide)]
 show(z:Int)/128=_
 omega
theorem sJ{z:Nat}:Value.int .u8 (IntKind.u8.wrap (z:Int))=bv (UInt8.ofNat z):=by
 rw[IntKind.wrap_u8]
 unfold bv
 rw[UInt8.toNat_ofNat']
 congr 1
theorem EW{b:UInt8}:IntKind.u8.wrap (BitVec.ofInt IntKind.u8.bits (b.toNat:Int)|||BitVec.ofInt IntKind.u8.bits 128).toNat=((b|||128).toNat:Int):=by
 have e:(BitVec.ofInt IntKind.u8.bits (b.toNat:Int)|||BitVec.ofInt IntKind.u8.bits 128).toNat=(b|||128).toNat:=by
   have e:BitVec.ofInt IntKind.u8.bits (b.toNat:Int)=BitVec.ofNat 8 b.toNat:=BitVec.ofInt_natCast 8 b.toNat
   rw[e]
   have e2:BitVec.ofInt IntKind.u8.bits 128=BitVec.ofNat 8 128:=rfl
   rw[e2,UInt8.toNat_or]
   show(BitVec.ofNat 8 b.toNat|||BitVec.ofNat 8 128).toNat=_
   rw[BitVec.toNat_or,BitVec.toNat_ofNat,BitVec.toNat_ofNat,Nat.mod_eq_of_lt (UInt8.toNat_lt b)]
   rfl
 rw[e,IntKind.wrap_u8]
 have:=UInt8.toNat_lt (b|||128)
 omega
end Go.Wx
