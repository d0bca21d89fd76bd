import Derived.Test.YtdilcdgjklimoaaGreatDoorKR16
import Derived.Lib.Builder
import Derived.Lib.UnsafeStr
import Derived.Laws.Externs
import Derived.Laws.BytesArg
namespace Go.Wx
open Go.RowKit Go.Lib
def D5(As:List Asr):Asr where
 foot:=fun i=>∃A∈As,A.foot i
 holds:=fun w=>(∀A∈As,A.holds w)∧As.Pairwise fun(A B:Asr)=>∀(i:Nat),A.foot i→¬B.foot i
 keep _ _ h k z:=⟨fun A hA=>A.keep _ _ (h.1 A hA) (fun i hi hl=>k i ⟨A,hA,hi⟩ hl) z,h.2⟩
 lt _ h i:=fun⟨A,hA,hi⟩=>A.lt _ (h.1 A hA) i hi
section
variable {S0:Nat→Prop}{w0 w w':World}{As As' Bs rest:List Asr}
theorem Oz(h:(D5 As).holds w):Sep (D5 As).foot w w As:=⟨Fr.refl _ _,fun A hA=>⟨h.1 A hA,fun _ hi=>.inl ⟨A,hA,hi⟩⟩,h.2⟩
theorem J4(h:Sep (D5 As).foot w0 w (As'++rest)):Stp (D5 As) (D5 As') w0 w:=
 ⟨h.fr,⟨fun A hA=>(h.each A (List.mem_append_left _ hA)).1,(List.pairwise_append.1 h.apart).1⟩,fun i⟨A,hA,hi⟩=>(h.each A (List.mem_append_left _ hA)).2 i hi⟩
theorem Ie(h:Sep S0 w0 w (Bs++As++rest)):Sep S0 w0 w (Bs++D5 As::rest):=by
 have h1:=List.pairwise_append.1 h.apart
 have h2:=List.pairwise_append.1 h1.1
 refine⟨h.fr,fun A hA=>?_,List.pairwise_append.2 ⟨h2.1,List.pairwise_cons.2 ⟨fun C hC i hi=>?_,h1.2.1⟩,fun A hA C hC i hi=>?_⟩⟩
 · rcases List.mem_append.1 hA with hA|hA
   · exact h.each A (by simp[hA])
   rcases List.mem_cons.1 hA with rfl|hA
   · exact⟨⟨fun A hA=>(h.each A (by simp[hA])).1,h2.2.1⟩,fun i⟨A,hA,hi⟩=>(h.each A (by simp[hA])).2 i hi⟩
   exact h.each A (by simp[hA])
 · obtain⟨A,hA,hi⟩:=hi
   exact h1.2.2 A (by simp[hA]) C hC i hi
 rcases List.mem_cons.1 hC with rfl|hC
 · rintro⟨C,hC,hi2⟩
   exact h2.2.2 A hA C hC i hi hi2
 exact h1.2.2 A (by simp[hA]) C hC i hi
theorem Sep.unfold(h:Sep S0 w0 w (Bs++D5 As::rest)):Sep S0 w0 w (Bs++As++rest):=by
 have h1:=List.pairwise_append.1 h.apart
 have h2:=List.pairwise_cons.1 h1.2.1
 have ha:=h.each (D5 As) (by simp)
 refine⟨h.fr,fun A hA=>?_,List.pairwise_append.2 ⟨List.pairwise_append.2 ⟨h1.1,ha.1.2,fun A hA C hC i hi hi2=>?_⟩,h2.2,fun A hA C hC i hi=>?_⟩⟩
 · rcases List.mem_append.1 hA with hA|hA
   · rcases List.mem_append.1 hA with hA|hA
     · exact h.each A (by simp[hA])
     exact⟨ha.1.1 A hA,fun i hi=>ha.2 i ⟨A,hA,hi⟩⟩
   exact h.each A (by simp[hA])
 · exact h1.2.2 A hA (D5 As) (by simp) i hi ⟨C,hC,hi2⟩
 rcases List.mem_append.1 hA with hA|hA
 · exact h1.2.2 A hA C (by simp[hC]) i hi
 exact h2.1 C hC i ⟨A,hA,hi⟩
end
section
variable {P:Program}{n:Nat}{ds:List Deferred}{l:Env}{w:World}{d:Option Tmp}{ty:TypeId}{ps:String}{af:Array Edge}{g:Option (Nat×Bool)}
theorem Uu{w:World}{B:Nat}{cs:Array Value}{T:TypeId}(h:Blk w B cs T):w.shape? B=some (T,cs.size):=by
 unfold Blk at h
 simp[World.shape?,h]
theorem PEv.EX{src dst t TT:TypeId}{x:Operand}{B o k:Nat}{cs:Array Value}(hs:P.underlying src=some (.pointer t))(hd:P.underlying dst=some .unsafePointer)(ht:(P.info? t).map (·.size)=some (k+1))(hx:Val l x (.pointer (some ⟨B,o,none⟩)))(hb:Blk w B cs TT)(ho:o<cs.size):
   PEv P n ds l w ⟨d,.convert src dst x,ty,ps,af,g⟩ (.pointer (some ⟨B,o,none⟩)):=fun a w' ha hu=>by
 obtain⟨j,hj,hjs⟩:=Option.map_eq_some_iff.1 ht
 refine Ci ?_
 rw[ha.ev hx]
 exact run_to_unsafe w' ⟨B,o,none⟩ hs hd hj oQ (Uu (hb.up hu)) ho
theorem PEv.sK{src dst u TT:TypeId}{x:Operand}{B o k:Nat}{cs:Array Value}(hs:P.underlying src=some .unsafePointer)(hd:P.underlying dst=some (.pointer u))(ht:(P.info? u).map (·.size)=some k)(hx:Val l x (.pointer (some ⟨B,o,none⟩)))(hb:Blk w B cs TT)
   (hl:liesAt P P.depth TT (cs.size/P.cellsOf TT) o u 1=true):
   PEv P n ds l w ⟨d,.convert src dst x,ty,ps,af,g⟩ (.pointer (some ⟨B,o,none⟩)):=fun a w' ha hu=>by
 obtain⟨j,hj,_⟩:=Option.map_eq_some_iff.1 ht
 refine Ci ?_
 rw[ha.ev hx]
 exact run_from_unsafe w' ⟨B,o,none⟩ hs hd hj (Uu (hb.up hu)) hl
theorem X2{T te T':TypeId}{x y:Operand}{k:Nat}{ad:Addr}(hT:P.underlying T=some (.pointer te))(ht:(P.info? te).map (·.size)=some k)(hx:Val l x (.pointer (some ad)))(hy:Val l y (.pointer (some ad))):
   PEv P n ds l w ⟨d,.binOp .neq T x y T',ty,ps,af,g⟩ (.bool false):=fun a w' ha _=>by
 obtain⟨j,hj,_⟩:=Option.map_eq_some_iff.1 ht
 refine Ci ?_
 rw[ha.ev hx,ha.ev hy,Sem.run_bind]
 have:(eqGuard .neq T x y (.pointer (some ad)) (.pointer (some ad))).run P w'=.ok () w':=by unfold eqGuard;rfl
 rw[this]
 exact run_neq_ptr_same w' ad hT hj
theorem PEv.ext{xs:Array Operand}{ts:Array TypeId}{f:FuncId}{vs:List Value}{v:Value}(hv:Vals l xs.toList vs)(hf:∀w,(callFunc f vs.toArray).run P w=.ok (.value v) w):
   PEv P n ds l w ⟨d,.call { callee:=.value (.func f),args:=xs,argTypes:=ts },ty,ps,af,g⟩ v:=fun a w' ha _=>by
 have e1:xs.map a.eval=vs.toArray:=by apply Array.ext';simp[ha.FX hv]
 have e:a.eval (.func f)=.func (.func f) #[] #[]:=rfl
 simp only[execOp,resolve,e,e1,Deferred.ofValue,Sem.run_bind,Sem.run_pure,Result.andThen,invoke]
 simpa using hf w'
theorem V4{f:FuncId}{fn:Func}(hf:P.funcs[f]?=some fn)(h1:(fn.name== "runtime.NumGoroutine")=false)(h2:fn.body.isNone=true)(h3:Extern.findNext fn=none)(h4:Extern.find fn=some Extern.AbiNoEscape.same)(v:Value)(w:World):
   (callFunc f [v].toArray).run P w=.ok (.value v) w:=by
 rw[run_callFunc_extern hf h1 h2 h3 h4]
 rfl
end
theorem sL{S:Nat→Prop}{w w':World}{ad:Addr}{v:Value}(h:w.cell? ad=some v)(f:Fr S w w')(hn:¬S ad.block):w'.cell? ad=some v:=by
 unfold World.cell? at h⊢
 cases hb:w.heap[ad.block]? with
 |none=>rw[hb]at h;cases h
 |some o=>rw[hb]at h;rw[f.block _ (lt_of_block hb) hn,hb];exact h
theorem Els.fr{α:Type}{S:Nat→Prop}{w w':World}{ad:Option Addr}{k:Nat}{enc:α→Array Value}{xs:List α}(h:Els w ad k enc xs)(f:Fr S w w')(hn:∀B o,ad=some ⟨B,o,none⟩→¬S B):Els w' ad k enc xs:=fun i x hx=>
 let⟨B,o,h1,h2⟩:=h i x hx
 ⟨B,o,h1,fun j v hv=>sL (h2 j v hv) f (hn B _ h1)⟩
theorem Blk.fr{S:Nat→Prop}{w w':World}{B:Nat}{cs:Array Value}{T:TypeId}(h:Blk w B cs T)(f:Fr S w w')(hn:¬S B):Blk w' B cs T:=(f.block _ h.lt hn).trans h
theorem jB(a:List UInt8)(b:ByteArray):(⟨a.toArray⟩:ByteArray)++b=⟨(a++b.data.toList).toArray⟩:=by
 apply ByteArray.ext
 simp
def Qj(b:UInt8):Array Value:=#[bv b]
theorem fP(x:UInt8):(Qj x).all (·.oneCell')=true:=by simp[Qj,bv,Value.oneCell']
theorem Nz:∀(l:List UInt8),(l.flatMap fun x=>(Qj x).toList)=l.map bv
 |[]=>rfl
 |x::l=>by rw[List.flatMap_cons,Nz l];rfl
structure Wri where
 bd:Nat
 us:Bool
 bf:Value
def Wri.ad(D:Wri):Value:=.pointer (if D.us then some ⟨D.bd,0,none⟩else none)
def Mx(TW e:TypeId)(D:Wri)(bs:List UInt8):List Asr:=[Bq D.bd #[D.ad,D.bf] TW,J e 1 Qj D.bf bs]
def Dq(TW e:TypeId)(D:Wri)(bs:List UInt8):Asr:=D5 (Mx TW e D bs)
theorem Rr{TW e:TypeId}{D:Wri}{bs:List UInt8}{w:World}(h:(Dq TW e D bs).holds w):OwnS w 0 e 1 Qj D.bf bs:=h.1 (J e 1 Qj D.bf bs) (by simp[Mx])
theorem X3{TW e:TypeId}{D:Wri}{bs:List UInt8}{w:World}(h:(Dq TW e D bs).holds w):Blk w D.bd #[D.ad,D.bf] TW:=h.1 (Bq D.bd #[D.ad,D.bf] TW) (by simp[Mx])
theorem Uv{TW e:TypeId}{D:Wri}{bs:List UInt8}{i:Nat}(h:(Dq TW e D bs).foot i):i=D.bd∨D.bf.ownBlock=some i:=by
 obtain⟨A,hA,hi⟩:=h
 simp only[Mx,List.mem_cons,List.mem_nil_iff,or_false]at hA
 rcases hA with rfl|rfl
 · exact .inl hi
 exact .inr hi
theorem bK{TW e:TypeId}{D:Wri}{bs:List UInt8}{i:Nat}(h:i=D.bd∨D.bf.ownBlock=some i):(Dq TW e D bs).foot i:=by
 rcases h with h|h
 · exact⟨_,List.mem_cons_self,h⟩
 exact⟨_,List.mem_cons_of_mem _ List.mem_cons_self,h⟩
theorem sM{TW e:TypeId}{D:Wri}{bs:List UInt8}{w w':World}{bq:Nat}(h:(Dq TW e D bs).holds w)(k:Ko bq w w'):(Dq TW e D bs).holds w':=by
 refine⟨fun A hA=>?_,h.2⟩
 have h1:=h.1 A hA
 simp only[Mx,List.mem_cons,List.mem_nil_iff,or_false]at hA
 rcases hA with rfl|rfl
 · exact Blk.ko h1 k
 exact OwnS.ko h1 k
theorem Fr.ko{S:Nat→Prop}{w0 w w':World}{bq:Nat}(h:Fr S w0 w)(k:Ko bq w w')(hb:w0.heap.size≤bq):Fr S w0 w':=
 ⟨k.os.trans h.os,k.tape.trans h.tape,k.output.trans h.output,Nat.le_trans h.size k.size,fun i hi hs=>by
   have h1:=h.block i hi hs
   have h2:w.heap[i]?=some w0.heap[i]:=by rw[h1];simp[hi]
   rw[k.same i _ h2 (.inl oQ),←h2,h1]⟩
theorem Kx.fr{bq:Nat}{X Y S:Nat→Prop}{w w':World}(h:Fr S w w')(hX:∀i,S i→X i)(hc:∀i o,S i→w.heap[i]?=some o→o.isCells=true):Kx bq X Y w w':=
 ⟨h.os,h.tape,h.output,h.size,fun i o hi ho=>(h.block i (lt_of_block hi) (fun hs=>by
   rcases ho with ho|ho
   · exact ho.2 (hX i hs)
   rw[hc i o hs hi]at ho;cases ho.1)).trans hi⟩
theorem Kf.fr{bq:Nat}{S:Nat→Prop}{w w':World}(h:Fr S w w')(hc:∀i o,S i→w.heap[i]?=some o→o.isCells=true):Kf bq w w':=
 ⟨h.size,fun i o _ hi ho=>(h.block i (lt_of_block hi) (fun hs=>by rw[hc i o hs hi]at ho;cases ho)).trans hi⟩
theorem bL{TW e:TypeId}{D:Wri}{bs:List UInt8}{w:World}(h:(Dq TW e D bs).holds w):∀i o,(Dq TW e D bs).foot i→w.heap[i]?=some o→o.isCells=true:=fun i o hf hi=>by
 rcases Uv hf with rfl|hf
 · have:=X3 h
   unfold Blk at this
   rw[this]at hi;cases hi;rfl
 obtain⟨_,⟨e',_⟩|⟨g,cap,cur,e',hb,hg,rest⟩⟩:=Rr h
 · rw[e']at hf;cases hf
 rw[e']at hf;cases hf
 rw[hg]at hi;cases hi;rfl
theorem Iv{TW e:TypeId}{D:Wri}{bs:List UInt8}{w:World}{B:Nat}{cs:Array Value}{T:TypeId}{x:Nat×Nat}(h:(Dq TW e D bs).holds w)(hb:w.heap[B]?=some (Obj.cells cs T x))(h1:Nat.beq T e=false)(h2:Nat.beq T TW=false):¬(Dq TW e D bs).foot B:=fun hf=>by
 rcases Uv hf with rfl|hf
 · have:=X3 h
   unfold Blk at this
   rw[this]at hb;cases hb
   simp at h2
 obtain⟨_,⟨e',_⟩|⟨g,cap,cur,e',_,hg,_⟩⟩:=Rr h
 · rw[e']at hf;cases hf
 rw[e']at hf;cases hf
 rw[hg]at hb;cases hb
 simp at h1
theorem Stp.ko{A:Asr}{TW e:TypeId}{D:Wri}{bs:List UInt8}{w0 w w':World}{bq:Nat}(h:Stp A (Dq TW e D bs) w0 w)(k:Ko bq w w')(hb:w0.heap.size≤bq):Stp A (Dq TW e D bs) w0 w':=⟨h.fr.ko k hb,sM h.holds k,h.sub⟩
theorem Els.kx{α:Type}{bq:Nat}{X Y:Nat→Prop}{w w':World}{ad:Option Addr}{k:Nat}{enc:α→Array Value}{xs:List α}(h:Els w ad k enc xs)(u:Kx bq X Y w w')(hn:∀B o,ad=some ⟨B,o,none⟩→¬X B):Els w' ad k enc xs:=fun i x hx=>
 let⟨B,o,h1,h2⟩:=h i x hx
 ⟨B,o,h1,fun j v hv=>by
   have hc:=h2 j v hv
   unfold World.cell? at hc⊢
   cases hb:w.heap[B]? with
   |none=>simp only[hb]at hc;cases hc
   |some ob=>
     cases ob with
     |cells cs T x=>rw[u.same B _ hb (.inl ⟨rfl,hn B _ h1⟩)];rw[hb]at hc;exact hc
     |_=>simp only[hb]at hc;cases hc⟩
theorem fQ{S0:Nat→Prop}{w0 w:World}{Bs:List Asr}{TW e:TypeId}{B:Nat}(h:Sep S0 w0 w (Bs++[Bq B #[.pointer none,.slice none 0 0] TW])):Sep S0 w0 w (Bs++[Dq TW e ⟨B,false,.slice none 0 0⟩ []]):=by
 have h1:=h.add (Up.refl _) (A':=J e 1 Qj (.slice none 0 0) ([]:List UInt8)) (OwnS.nil _ _ _ _ _) (fun i hi=>by cases hi)
 have h2:=Ie (Bs:=Bs) (As:=Mx TW e ⟨B,false,.slice none 0 0⟩ []) (rest:=[]) (by simpa[Mx,Wri.ad]using h1)
 exact h2
section
variable {P:Program}{n:Nat}{ds:List Deferred}{l:Env}{w:World}{d:Option Tmp}{ty:TypeId}{ps:String}{af:Array Edge}{g:Option (Nat×Bool)}
theorem REv.jC{e T Ts:TypeId}{i:TypeInfo}{s x:Operand}{v:Value}{bs:List UInt8}{t:ByteArray}(hT:P.underlying T=some (.slice e))(hTs:P.underlying Ts=some .string)(hi:P.info? e=some i)(hz:i.zero=some (.int .u8 0))(hsz:i.size=1)(hby:i.bytes=1)
   (hs:Val l s v)(hx:Val l x (.string t))(ho:OwnS w 0 e 1 Qj v bs)(hb:bs.length+t.size≤140737488355328):
   REv P n ds l w ⟨d,.call { callee:=.builtin .append,args:=#[s,x],argTypes:=#[T,Ts] },ty,ps,af,g⟩ (fun v' w'=>Stp (J e 1 Qj v bs) (J e 1 Qj v' (bs++t.data.toList)) w w'):=fun a ha=>by
 have e0:∀c:List UInt8,(c.flatMap fun x=>(Qj x).toList)=byteCells c:=fun c=>by rw[Nz];rfl
 have ho':w.ownsRow 0 e 1 v bs.length (byteCells bs):=by have:=ho;unfold OwnS at this;rw[e0]at this;exact this
 obtain⟨v',w',hr,h2,h3,_⟩:=run_append_own_string (P:=P) w 0 T Ts ty e i hT hTs hi hz hsz hby v bs.length _ ho' t (by simp only[maxLen];omega) hb (Nat.zero_le _)
 rw[strCells_eq,←byteCells_append]at h2
 have hl:(bs++t.data.toList).length=bs.length+t.size:=by rw[List.length_append,Array.length_toList];rfl
 have hown:OwnS w' 0 e 1 Qj v' (bs++t.data.toList):=by unfold OwnS;rw[e0,hl];exact h2
 refine⟨v',w',?_,⟨h3.os,h3.tape,h3.output,h3.size,fun i hi hb=>h3.block i hi (fun e=>hb e.symm)⟩,hown,?_⟩
 · simp only[execOp,resolve,invoke,builtin,Sem.run_bind,Sem.run_pure,Result.andThen_ok,List.map_toArray,List.map_cons,List.map_nil,ha.ev hs,ha.ev hx,hr]
 -- the new row:the old one,or a new block
 intro q hq
 obtain⟨hlen,⟨rfl,hn⟩|⟨g',cap,cur,rfl,_,hg,hcap,hcm,hcs,htake⟩⟩:=ho'
 · rcases Nat.lt_or_ge q w.heap.size with h|h
   · exfalso
     by_cases hm:t.size=0
     · have hf:=run_firstCells_string (P:=P) w 1 t
       rw[hm]at hf
       have hr2:(Builtin.append_ #[T,Ts] ty #[.slice none 0 0,.string t]).run P w=.ok (.slice none 0 0) w:=by
         simp[Builtin.append_,run_underlying hT,run_underlying hTs,sizeOf,typeInfo,hi,hsz,Builtin.lenOf,hm,hf]
       rw[hr]at hr2
       cases hr2
       cases hq
     have hr2:=run_append_nil_string (P:=P) w T Ts ty e i (.int .u8 0) hT hTs hi hz t oQ oQ (by rw[hby];omega)
     rw[hr]at hr2
     cases hr2
     cases hq
     exact Nat.lt_irrefl _ h
   exact .inr h
 by_cases hroom:bs.length+t.size≤cap
 · have hr2:=run_append_room_string (P:=P) w T Ts ty e i hT hTs hi hsz g' bs.length cap cur hg t hroom (by rw[hcs];omega)
   rw[hr]at hr2
   cases hr2
   exact .inl hq
 have holds:∀j u,(byteCells bs)[j]?=some u→w.cell? ((⟨g',0,none⟩:Addr).add j)=some u:=World.ownsRow.cells (g:=g') (show w.ownsRow 0 e 1 (.slice (some ⟨g',0,none⟩) bs.length cap) bs.length _ from⟨hlen,.inr ⟨g',cap,cur,rfl,Nat.zero_le _,hg,hcap,hcm,hcs,htake⟩⟩) rfl
 have hr2:=run_append_grow_string (P:=P) w T Ts ty e i (.int .u8 0) hT hTs hi hz ⟨g',0,none⟩ bs.length cap _ (by rw[hsz];simpa using hlen) holds t oQ oQ (by rw[hby];exact growslice_fits oQ oQ)
 rw[hr]at hr2
 cases hr2
 cases hq
 exact .inr (by simp)
theorem PEv.jD{T:TypeId}{ts:Array TypeId}{x:Operand}{B m cp:Nat}(hc:cp≠0)(hx:Val l x (.slice (some ⟨B,0,none⟩) m cp)):
   PEv P n ds l w ⟨d,.call { callee:=.builtin .unsafeSliceData,args:=#[x],argTypes:=ts },T,ps,af,g⟩ (.pointer (some ⟨B,0,none⟩)):=fun a w' ha _=>by
 have:=run_unsafeSliceData_row (P:=P) w' ts T ⟨B,0,none⟩ m cp hc
 simp only[execOp,resolve,invoke,builtin,Sem.run_bind,Sem.run_pure,Result.andThen_ok,List.map_toArray,List.map_cons,List.map_nil,ha.ev hx,this]
theorem REv.jE{T it e:TypeId}{x y:Operand}{B cp:Nat}{bs:List UInt8}{pt:TypeId}(hp:P.underlying pt=some (.pointer e))(hc:P.cellsOf e=1)(hx:Val l x (.pointer (some ⟨B,0,none⟩)))(hy:Val l y (.int .i64 (bs.length:Int)))
   (ho:OwnS w 0 e 1 Qj (.slice (some ⟨B,0,none⟩) bs.length cp) bs)(h0:bs≠[])(h63:bs.length≤9223372036854775807):
   REv P n ds l w ⟨d,.call { callee:=.builtin .unsafeString,args:=#[x,y],argTypes:=#[pt,it] },T,ps,af,g⟩ (fun v w'=>v=.string ⟨bs.toArray⟩∧Fr (fun i=>some B=some i) w w'):=fun a ha=>by
 have e0:∀c:List UInt8,(c.flatMap fun x=>(Qj x).toList)=byteCells c:=fun c=>by rw[Nz];rfl
 have ho':w.ownsRow 0 e 1 (.slice (some ⟨B,0,none⟩) bs.length cp) bs.length (byteCells bs):=by have:=ho;unfold OwnS at this;rw[e0]at this;exact this
 have hcell:=World.ownsRow.cells (g:=B) ho' rfl
 obtain⟨hlen,⟨h,_⟩|⟨g',cap,cur,h,_,hg,hcap,hcm,hcs,htake⟩⟩:=ho'
 · cases h
 cases h
 have hsh:w.shape? B=some (e,cp):=by simp[World.shape?,hg];omega
 have:=run_unsafeString_row (P:=P) w pt it T e hp hc B cp hsh bs h0 hcap h63 (fun j x hx=>hcell j _ (by simp[byteCells,hx]))
 refine⟨.string ⟨bs.toArray⟩,w.freeze ⟨B,0,none⟩ bs.length,?_,rfl,?_⟩
 · simp only[execOp,resolve,invoke,builtin,Sem.run_bind,Sem.run_pure,Result.andThen_ok,List.map_toArray,List.map_cons,List.map_nil,ha.ev hx,ha.ev hy,this]
 unfold World.freeze
 split
 · exact Fr.refl _ _
 exact⟨rfl,rfl,rfl,by simp,fun i hi hs=>by
   simp only[Array.getElem?_modify]
   rw[if_neg (fun e=>hs (by rw[e]))]⟩
theorem PEv.yI{T Ts e e':TypeId}{x:Operand}{v:Value}{bs:List UInt8}{base:Nat}(hT:P.underlying T=some (.slice e))(he:P.underlying e=some (.int .u8))(hTs:P.underlying Ts=some .string)(hx:Val l x v)(ho:OwnS w base e' 1 Qj v bs):
   PEv P n ds l w ⟨d,.convert T Ts x,ty,ps,af,g⟩ (.string ⟨bs.toArray⟩):=fun a w' ha hu=>by
 refine Ci ?_
 rw[ha.ev hx]
 have ho':=ho.up hu
 have hr:=ho'
 unfold OwnS at hr
 rw[Nz]at hr
 obtain⟨hlen,⟨rfl,hn⟩|⟨g',cap,cur,rfl,hb,hg,rest⟩⟩:=ho
 · have hbs:bs=[]:=List.eq_nil_of_length_eq_zero hn
   subst hbs
   exact run_convert_bytes_nil (P:=P) w' T e hT he 0 0 Ts hTs
 have hcell:=World.ownsRow.cells (g:=g') hr rfl
 exact run_convert_bytes_back (P:=P) w' T Ts e ⟨g',0,none⟩ cap bs hT he hTs (fun q hq=>hcell q _ (by rw[List.getElem?_map,List.getElem?_eq_getElem hq];rfl))
theorem PEv.yJ{T T':TypeId}{x y:Operand}{a b:ByteArray}(hx:Val l x (.string a))(hy:Val l y (.string b))(h:a.size+b.size≤9223372036854775807):PEv P n ds l w ⟨d,.binOp .add T x y T',ty,ps,af,g⟩ (.string (a++b)):=fun ac w' ha _=>by
 refine Ci ?_
 rw[ha.ev hx,ha.ev hy,Sem.run_bind]
 have:(eqGuard .add T x y (.string a) (.string b)).run P w'=.ok () w':=by unfold eqGuard;rfl
 rw[this]
 simp[binOp,Op.stringOp]
 omega
end
end Go.Wx
namespace Go.Wx
open Go.RowKit
def yK{α:Type}(bq:Nat)(Z:Nat→Prop)(I:List α→World→Prop)(ys:List α)(W:World):Exit→Go.Act→World→Prop
 |.normal,_,W'=>KeepsFrom bq W W'∧(∀b,Z b→W'.heap[b]?=W.heap[b]?)∧I ys W'
 |_,_,_=>False
def xE{α:Type}(P:Program)(g:Nat)(lb:Array Value)(encs:α→Array Value)(Z:Nat→Prop)(S:List α→Prop)(N:Nat)(w:World):Prop:=
 ∀(lp:Nat)(J:List α→World→Prop)(W:World),Up w W→(∀s A B,J s A→Fr Z A B→J s B)→
   (∀pre x W1,J pre W1→pre.length<N→YieldAt (FR none) 8 P lp (encs x) W1 fun e W'=>∃v,e=.returned v∧v=.bool true∧J (pre++[x]) W'∧∀b,Z b→W'.heap[b]?=W1.heap[b]?)→
   J [] W→Ret P g (#[.func (.yield lp) #[] #[]]++lb) W fun _ W'=>∃ys,S ys∧J ys W'
theorem Sz.sN{B:Nat}{Z:Nat→Prop}{w w':World}(h:Sz B w)(k:Fr Z w w'):Sz B w':=Nat.le_trans h k.size
theorem Blk.sN{B:Nat}{cs:Array Value}{T:TypeId}{Z:Nat→Prop}{w w':World}(h:Blk w B cs T)(k:Fr Z w w')(hn:¬Z B):Blk w' B cs T:=(k.block B h.lt hn).trans h
theorem OwnS.sN{α:Type}{enc:α→Array Value}{base k:Nat}{e:TypeId}{Z:Nat→Prop}{w w':World}{v:Value}{xs:List α}(h:OwnS w base e k enc v xs)(u:Fr Z w w')(hn:∀b,Z b→b<base):OwnS w' base e k enc v xs:=by
 obtain⟨h1,h2⟩:=h
 refine⟨h1,?_⟩
 rcases h2 with h2|⟨g,cap,cur,rfl,hb,hg,rest⟩
 · exact .inl h2
 exact .inr ⟨g,cap,cur,rfl,hb,(u.block g (lt_of_block hg) (fun hz=>by have:=hn g hz;omega)).trans hg,rest⟩
theorem Up.sN{Z:Nat→Prop}{w0 w w':World}(h:Up w0 w)(k:Fr Z w w')(hn:∀b,Z b→w0.heap.size≤b):Up w0 w':=
 ⟨k.os.trans h.os,k.tape.trans h.tape,k.output.trans h.output,Nat.le_trans (Up.size h) k.size,fun i hi=>(k.block i (Nat.lt_of_lt_of_le hi (Up.size h)) (fun hz=>by have:=hn i hz;omega)).trans (h.block hi)⟩
structure Zk(B:Nat)(w w':World):Prop where
 lt:B<w'.heap.size
 same:w'.heap[B]?=w.heap[B]?
theorem Zk.refl{B:Nat}{w:World}(h:B<w.heap.size):Zk B w w:=⟨h,rfl⟩
theorem Zk.up{B:Nat}{w0 w w':World}(h:Zk B w0 w)(u:Up w w'):Zk B w0 w':=⟨Nat.lt_of_lt_of_le h.lt u.size,(u.block h.lt).trans h.same⟩
theorem Zk.sto{B B':Nat}{w0 w w':World}(h:Zk B w0 w)(u:Sto B' w w')(hne:B≠B'):Zk B w0 w':=⟨Nat.lt_of_lt_of_le h.lt u.size,(u.block _ h.lt hne).trans h.same⟩
theorem Zk.gr{B base:Nat}{w0 w w':World}(h:Zk B w0 w)(u:Grew base w w')(hb:B<base):Zk B w0 w':=⟨Nat.lt_of_lt_of_le h.lt u.size,(u.block _ h.lt hb).trans h.same⟩
section
variable {R:Option Nat}{m:Nat}{P:Program}{n:Nat}{ds:List Deferred}{Q:Exit→Go.Act→World→Prop}{l:Env}{w:World}
theorem bM{lp:Nat}{c:Code}{p q:Nat}{v u:Value}(hp:Nat.ble (p+1) n=true)(hq:Nat.ble (q+1) n=true)(h:CW (some lp) m P n [] c Q ((q,.eq u)::(p,.eq v)::l) w):
   ∀a,Ag n ds l a w→c.wpIn (FR (some lp)) m P Q { tmps:=(#[p,q].zip #[v,u]).foldl (fun t(p,v)=>t.setIfInBounds p v) a.tmps,defers:=[] } w:=fun a ha=>by
 have e:(#[p,q].zip #[v,u]).foldl (fun t(p,v)=>t.setIfInBounds p v) a.tmps=(a.tmps.setIfInBounds p v).setIfInBounds q u:=by simp
 rw[e]
 have h1:Ag n [] l { tmps:=a.tmps,defers:=[] } w:=⟨rfl,ha.size,ha.val⟩
 exact h _ ((h1.put hp (ph:=.eq v) rfl).put hq (ph:=.eq u) rfl)
theorem Tz{α:Type}{g:Operand}{ps:Array Tmp}{assign body:Code}{gf:Nat}{lb:Array Value}{encs:α→Array Value}(Z:Nat→Prop){S:List α→Prop}{N:Nat}(I:List α→World→Prop)(env:α→Env)
   (hx:Val l g (.func (.func gf) #[] lb))(en:∀args w,(callFunc gf args).run P w=.ok (.enter gf args) w)(hit:∀W,Up w W→xE P gf lb encs Z S N W)(hps:∀x,(encs x).size=ps.size)(hl:Cj l=true)(hZ:∀b,Z b→b<w.heap.size)
   (hI:OwnFrom w.heap.size I)(hIZ:∀s A B,I s A→Fr Z A B→I s B)(h0:I [] w)
   (hassign:∀(lp:Nat)(x:α)(W:World)(a:Go.Act),Ag n ds l a W→assign.wpIn (FR (some lp)) 8 P (Exit.then (fun a' W'=>W'=W∧Ag n [] (env x) a' W) (fun _ _ _=>False)) { tmps:=(ps.zip (encs x)).foldl (fun t(p,v)=>t.setIfInBounds p v) a.tmps,defers:=[] } W)
   (henv:∀x,Cj (env x)=true)
   (hbody:∀(lp:Nat)(pre:List α)(x:α)(W:World),I pre W→pre.length<N→CW (some lp) 8 P n [] body (yK w.heap.size Z I (pre++[x]) W) (env x) W)
   (hdone:∀(D:Nat)(ys:List α)(W:World),w.heap.size≤D→S ys→I ys W→W.heap[D]?=some (.deferred (some []))→KW n ({ target:=.collected D,args:=#[] }::ds) (Q .normal) l W):
   CW none 10 P n ds (.rangeFunc g ps assign body) Q l w:=fun a ha=>by
 have hg:=ha.ev hx
 refine wpIn_rangeFunc ?_
 intro fn hfn
 -- the loop's record,and the block of what the rounds defer
 let rec_:LoopState→Option Code→Loop:=fun st pe=>{ state:=st,pending:=pe,fn,tmps:=a.tmps,params:=ps,assign,body,defers:=w.heap.size }
 let kd:Nat:=w.heap.size
 let lp:Nat:=w.heap.size+1
 let W1:World:=(w.alloc (.deferred (some []))).alloc (.loop (rec_ .ready none))
 have hU:Up w W1:=(Up.alloc _ _).trans (Up.alloc _ _)
 have rec1:W1.heap[lp]?=some (.loop (rec_ .ready none)):=by
   have:=World.alloc_heap_new (w.alloc (.deferred (some []))) (.loop (rec_ .ready none))
   rw[World.size_alloc]at this
   exact this
 have dfr1:W1.heap[kd]?=some (.deferred (some [])):=(Below.heap_alloc _ _ _ (by simp[kd])).trans (World.alloc_heap_new w _)
 have hne:kd≠lp:=by show w.heap.size≠w.heap.size+1;omega
 have hI1:I [] W1:=hI.alloc _ (hI.alloc _ h0)
 refine⟨lp,[{ target:=.collected kd,args:=#[] }],W1,{ target:=.fn (.func gf) lb,args:=#[.func (.yield lp) #[] #[]] },W1,gf,#[.func (.yield lp) #[] #[]]++lb,W1,run_enterLoop_outer _ _ _ _ _,?_,fun f' hf'=>?_,?_,fun _=>cQ,?_⟩
 · simp only[resolve,hg]
   simp[go_sem]
 · simp[Target.leads]at hf';subst hf';trivial
 · simp[invoke,go_sem,en]
 have fine:∀{A B:World},Fr Z A B→∀(k:Nat)(o:Obj),w.heap.size≤k→A.heap[k]?=some o→B.heap[k]?=some o:=fun hf k o hk ho=>
   (hf.block k (lt_of_block ho) (fun hz=>by have:=hZ k hz;omega)).trans ho
 have all:=hit W1 hU lp (fun pre W=>I pre W∧W.heap[lp]?=some (.loop (rec_ .ready none))∧W.heap[kd]?=some (.deferred (some []))) W1 (Up.refl _)
   (fun s A B hs hf=>⟨hIZ s A B hs.1 hf,fine hf lp _ (by show w.heap.size≤w.heap.size+1;omega) hs.2.1,fine hf kd _ (Nat.le_refl _) hs.2.2⟩) ?_ ⟨hI1,rec1,dfr1⟩
 · refine(show CallsIn (FR none) 9 P gf _ W1 _ from callsIn_wide.2 all).mono ?_
   rintro e W2 ⟨v,rfl,xs,hS,hi,hlr,hk⟩
   refine⟨none,W2.putObj lp (.loop (rec_ .exhausted none)),?_,?_⟩
   · exact run_endLoop (P:=P) hlr (by simp[rec_])
   exact hdone kd xs _ (Nat.le_refl _) hS (hI.putObj _ hi (by show w.heap.size≤w.heap.size+1;omega) hlr rfl) ((World.putObj_heap_other hne).trans hk) _ ⟨by rw[←ha.defers];rfl,ha.size,(ha.world hl _).val⟩
 -- one round
 rintro pre x W ⟨hi,hlr,hk⟩ hlen
 have hlt:=lt_of_block hlr
 have hy:=run_yield (P:=P) (args:=encs x) hlr (by simp only[rec_];exact hps x)
 refine⟨fn,_,assign,body,hy,roundIn_of_wpIn hfn ?_⟩
 refine wpIn_mono (hassign lp x W a (ha.world hl W)) ?_
 intro e a1 W' hq
 cases e with
 |normal=>
   obtain⟨rfl,ha1⟩:=hq
   refine⟨_,run_beginRound hlr rfl,?_⟩
   have hput:OwnFrom w.heap.size I→I pre (W'.putObj lp (.loop { rec_ .ready none with state:=.busy })):=fun h=>h.putObj _ hi (by show w.heap.size≤w.heap.size+1;omega) hlr rfl
   have l2:(W'.putObj lp (.loop { rec_ .ready none with state:=.busy })).heap[lp]?=some (.loop { rec_ .ready none with state:=.busy }):=World.putObj_heap_same hlt
   have k2:(W'.putObj lp (.loop { rec_ .ready none with state:=.busy })).heap[kd]?=some (.deferred (some [])):=(World.putObj_heap_other hne).trans hk
   refine wpIn_mono (hbody lp pre x _ (hput hI) hlen a1 (ha1.world (henv x) _)) ?_
   intro e2 a2 W3 hp
   cases e2 with
   |normal=>
     obtain⟨hk3,hz3,hi3⟩:=hp
     have l3:=hk3.same _ _ (by show w.heap.size≤w.heap.size+1;omega) l2 rfl
     have k3:=hk3.same _ _ (Nat.le_refl _) k2 rfl
     have hr:=run_endRound (P:=P) none l3
     have ne:∀b,Z b→b≠lp:=fun b hb=>by have:=hZ b hb;show b≠w.heap.size+1;omega
     refine⟨_,_,hr,_,rfl,rfl,⟨hI.putObj _ hi3 (by show w.heap.size≤w.heap.size+1;omega) l3 rfl,World.putObj_heap_same (lt_of_block l3),(World.putObj_heap_other hne).trans k3⟩,fun b hb=>?_⟩
     exact(World.putObj_heap_other (ne b hb)).trans ((hz3 b hb).trans (World.putObj_heap_other (ne b hb)))
   |ret=>exact hp.elim
   |exit id=>exact hp.elim
   |goto t=>exact hp.elim
   |panic ch=>exact hp.elim
   |outgrown=>exact hp.elim
 |ret=>exact hq.elim
 |exit id=>exact hq.elim
 |goto t=>exact hq.elim
 |panic ch=>exact hq.elim
 |outgrown=>exact hq.elim
end
end Go.Wx
