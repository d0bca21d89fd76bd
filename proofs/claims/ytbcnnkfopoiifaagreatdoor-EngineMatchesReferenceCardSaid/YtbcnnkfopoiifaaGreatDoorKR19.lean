import Derived.Test.YtbcnnkfopoiifaaGreatDoorKR18
import Derived.Lib.Builder
import Derived.Lib.UnsafeStr
import Derived.Laws.Externs
import Derived.Laws.BytesArg
import Derived.Test.YtbcnnkfopoiifaaGreatDoorProg
namespace Go.Wx
open Go.RowKit Go.Lib
def E8(As:List Asr):Asr where
 foot:=fun i=>∃A∈As,A.foot i
 holds:=fun w=>(∀A∈As,A.holds w)∧As.Pairwise fun(A B:Asr)=>∀(i:Nat),A.foot i→¬B.foot i
 keep _ _ h k z:=⟨fun A hA=>A.keep _ _ (h.1 A hA) (fun i hi hl=>k i ⟨A,hA,hi⟩ hl) z,h.2⟩
 lt _ h i:=fun⟨A,hA,hi⟩=>A.lt _ (h.1 A hA) i hi
section
variable {S0:Nat→Prop}{w0 w w':World}{As As' Bs rest:List Asr}
theorem Ru(h:(E8 As).holds w):Sep (E8 As).foot w w As:=⟨Fr.refl _ _,fun A hA=>⟨h.1 A hA,fun _ hi=>.inl ⟨A,hA,hi⟩⟩,h.2⟩
theorem L0(h:Sep (E8 As).foot w0 w (As'++rest)):Stp (E8 As) (E8 As') w0 w:=
 ⟨h.fr,⟨fun A hA=>(h.each A (dw _ hA)).1,(cc.1 h.apart).1⟩,fun i⟨A,hA,hi⟩=>(h.each A (dw _ hA)).2 i hi⟩
theorem aO(h:Sep S0 w0 w (Bs++As++rest)):Sep S0 w0 w (Bs++E8 As::rest):=by
 have h1:=cc.1 h.apart
 have h2:=cc.1 h1.1
 refine⟨h.fr,fun A hA=>?_,cc.2 ⟨h2.1,d6.2 ⟨fun C hC i hi=>?_,h1.2.1⟩,fun A hA C hC i hi=>?_⟩⟩
 · rcases be.1 hA with hA|hA
   · exact h.each A (by simp[hA])
   rcases ap.1 hA with rfl|hA
   · exact⟨⟨fun A hA=>(h.each A (by simp[hA])).1,h2.2.1⟩,fun i⟨A,hA,hi⟩=>(h.each A (by simp[hA])).2 i hi⟩
   exact h.each A (by simp[hA])
 · obtain⟨A,hA,hi⟩:=hi
   exact h1.2.2 A (by simp[hA]) C hC i hi
 rcases ap.1 hC with rfl|hC
 · rintro⟨C,hC,hi2⟩
   exact h2.2.2 A hA C hC i hi hi2
 exact h1.2.2 A (by simp[hA]) C hC i hi
theorem Sep.unfold(h:Sep S0 w0 w (Bs++E8 As::rest)):Sep S0 w0 w (Bs++As++rest):=by
 have h1:=cc.1 h.apart
 have h2:=d6.1 h1.2.1
 have ha:=h.each (E8 As) (by simp)
 refine⟨h.fr,fun A hA=>?_,cc.2 ⟨cc.2 ⟨h1.1,ha.1.2,fun A hA C hC i hi hi2=>?_⟩,h2.2,fun A hA C hC i hi=>?_⟩⟩
 · rcases be.1 hA with hA|hA
   · rcases be.1 hA with hA|hA
     · exact h.each A (by simp[hA])
     exact⟨ha.1.1 A hA,fun i hi=>ha.2 i ⟨A,hA,hi⟩⟩
   exact h.each A (by simp[hA])
 · exact h1.2.2 A hA (E8 As) (by simp) i hi ⟨C,hC,hi2⟩
 rcases be.1 hA with hA|hA
 · exact h1.2.2 A hA C (by simp[hC]) i hi
 exact h2.1 C hC i ⟨A,hA,hi⟩
end
section
variable {P:Program}{n:Nat}{ds:List Deferred}{l:Env}{w:World}{d:Option Tmp}{ty:TypeId}{ps:String}{af:Array Edge}{g:Option (Nat×Bool)}
theorem W8{w:World}{B:Nat}{cs:Array Value}{T:TypeId}(h:Blk w B cs T):w.shape? B=some (T,cs.size):=by
 unfold Blk at h
 simp[World.shape?,h]
theorem PEv.JU{src dst t TT:TypeId}{x:Operand}{B o k:Nat}{cs:Array Value}(hs:P.underlying src=some (.pointer t))(hd:P.underlying dst=some .unsafePointer)(ht:(P.info? t).map (·.size)=some (k+1))(hx:Val l x (.pointer (some ⟨B,o,none⟩)))(hb:Blk w B cs TT)(ho:o<cs.size):
   PEv P n ds l w ⟨d,.convert src dst x,ty,ps,af,g⟩ (.pointer (some ⟨B,o,none⟩)):=fun a w' ha hu=>by
 obtain⟨j,hj,hjs⟩:=fp.1 ht
 refine Cp ?_
 rw[ha.ev hx]
 exact run_to_unsafe w' ⟨B,o,none⟩ hs hd hj oQ (W8 (hb.up hu)) ho
theorem PEv.wZ{src dst u TT:TypeId}{x:Operand}{B o k:Nat}{cs:Array Value}(hs:P.underlying src=some .unsafePointer)(hd:P.underlying dst=some (.pointer u))(ht:(P.info? u).map (·.size)=some k)(hx:Val l x (.pointer (some ⟨B,o,none⟩)))(hb:Blk w B cs TT)
   (hl:liesAt P P.depth TT (cs.size/P.cellsOf TT) o u 1=true):
   PEv P n ds l w ⟨d,.convert src dst x,ty,ps,af,g⟩ (.pointer (some ⟨B,o,none⟩)):=fun a w' ha hu=>by
 obtain⟨j,hj,_⟩:=fp.1 ht
 refine Cp ?_
 rw[ha.ev hx]
 exact run_from_unsafe w' ⟨B,o,none⟩ hs hd hj (W8 (hb.up hu)) hl
theorem aP{T te T':TypeId}{x y:Operand}{k:Nat}{ad:Addr}(hT:P.underlying T=some (.pointer te))(ht:(P.info? te).map (·.size)=some k)(hx:Val l x (.pointer (some ad)))(hy:Val l y (.pointer (some ad))):
   PEv P n ds l w ⟨d,.binOp .neq T x y T',ty,ps,af,g⟩ (.bool false):=fun a w' ha _=>by
 obtain⟨j,hj,_⟩:=fp.1 ht
 refine Cp ?_
 rw[ha.ev hx,ha.ev hy,Sem.run_bind]
 have:(eqGuard .neq T x y (.pointer (some ad)) (.pointer (some ad))).run P w'=.ok () w':=by unfold eqGuard;rfl
 rw[this]
 exact run_neq_ptr_same w' ad hT hj
theorem PEv.ext{xs:Array Operand}{ts:Array TypeId}{f:FuncId}{vs:List Value}{v:Value}(hv:Vals l xs.toList vs)(hf:∀w,(callFunc f vs.toArray).run P w=.ok (.value v) w):
   PEv P n ds l w ⟨d,.call { callee:=.value (.func f),args:=xs,argTypes:=ts },ty,ps,af,g⟩ v:=fun a w' ha _=>by
 have e1:xs.map a.eval=vs.toArray:=by apply jj;simp[ha.LJ hv]
 have e:a.eval (.func f)=.func (.func f) #[] #[]:=rfl
 simp only[execOp,resolve,e,e1,Deferred.ofValue,Sem.run_bind,Sem.run_pure,Result.andThen,invoke]
 simpa using hf w'
theorem Yw{f:FuncId}{fn:Func}(hf:P.funcs[f]?=some fn)(h1:(fn.name== "runtime.NumGoroutine")=false)(h2:fn.body.isNone=true)(h3:Extern.findNext fn=none)(h4:Extern.find fn=some Extern.AbiNoEscape.same)(v:Value)(w:World):
   (callFunc f [v].toArray).run P w=.ok (.value v) w:=by
 rw[run_callFunc_extern hf h1 h2 h3 h4]
 rfl
end
theorem Qb{S:Nat→Prop}{w w':World}{ad:Addr}{v:Value}(h:w.cell? ad=some v)(f:Fr S w w')(hn:¬S ad.block):w'.cell? ad=some v:=by
 unfold World.cell? at h⊢
 cases hb:w.heap[ad.block]? with
 |none=>rw[hb]at h;cases h
 |some o=>rw[hb]at h;rw[f.block _ (lt_of_block hb) hn,hb];exact h
theorem Els.fr{α:Type}{S:Nat→Prop}{w w':World}{ad:Option Addr}{k:Nat}{enc:α→Array Value}{xs:List α}(h:Els w ad k enc xs)(f:Fr S w w')(hn:∀B o,ad=some ⟨B,o,none⟩→¬S B):Els w' ad k enc xs:=fun i x hx=>
 let⟨B,o,h1,h2⟩:=h i x hx
 ⟨B,o,h1,fun j v hv=>Qb (h2 j v hv) f (hn B _ h1)⟩
theorem Blk.fr{S:Nat→Prop}{w w':World}{B:Nat}{cs:Array Value}{T:TypeId}(h:Blk w B cs T)(f:Fr S w w')(hn:¬S B):Blk w' B cs T:=(f.block _ h.lt hn).trans h
theorem Rv(a:List UInt8)(b:ByteArray):(⟨a.toArray⟩:ByteArray)++b=⟨(a++b.data.toList).toArray⟩:=by
 apply ByteArray.ext
 simp
def Px(b:UInt8):Array Value:=#[bv b]
theorem Te(x:UInt8):(Px x).all (·.oneCell')=true:=by simp[Px,bv,Value.oneCell']
theorem Qc:∀(l:List UInt8),(l.flatMap fun x=>(Px x).toList)=l.map bv
 |[]=>rfl
 |x::l=>by rw[du,Qc l];rfl
structure Wri where
 bd:Nat
 us:Bool
 bf:Value
def Wri.ad(D:Wri):Value:=.pointer (if D.us then some ⟨D.bd,0,none⟩else none)
def O9(TW e:TypeId)(D:Wri)(bs:List UInt8):List Asr:=[Ch D.bd #[D.ad,D.bf] TW,A8 e 1 Px D.bf bs]
def Ep(TW e:TypeId)(D:Wri)(bs:List UInt8):Asr:=E8 (O9 TW e D bs)
theorem Ua{TW e:TypeId}{D:Wri}{bs:List UInt8}{w:World}(h:(Ep TW e D bs).holds w):OwnS w 0 e 1 Px D.bf bs:=h.1 (A8 e 1 Px D.bf bs) (by simp[O9])
theorem aQ{TW e:TypeId}{D:Wri}{bs:List UInt8}{w:World}(h:(Ep TW e D bs).holds w):Blk w D.bd #[D.ad,D.bf] TW:=h.1 (Ch D.bd #[D.ad,D.bf] TW) (by simp[O9])
theorem W9{TW e:TypeId}{D:Wri}{bs:List UInt8}{i:Nat}(h:(Ep TW e D bs).foot i):i=D.bd∨D.bf.ownBlock=some i:=by
 obtain⟨A,hA,hi⟩:=h
 simp only[O9,ap,ba,b8]at hA
 rcases hA with rfl|rfl
 · exact .inl hi
 exact .inr hi
theorem fG{TW e:TypeId}{D:Wri}{bs:List UInt8}{i:Nat}(h:i=D.bd∨D.bf.ownBlock=some i):(Ep TW e D bs).foot i:=by
 rcases h with h|h
 · exact⟨_,bp,h⟩
 exact⟨_,bw _ bp,h⟩
theorem xA{TW e:TypeId}{D:Wri}{bs:List UInt8}{w w':World}{bq:Nat}(h:(Ep TW e D bs).holds w)(k:Ko bq w w'):(Ep TW e D bs).holds w':=by
 refine⟨fun A hA=>?_,h.2⟩
 have h1:=h.1 A hA
 simp only[O9,ap,ba,b8]at hA
 rcases hA with rfl|rfl
 · exact Blk.ko h1 k
 exact OwnS.ko h1 k
theorem Fr.ko{S:Nat→Prop}{w0 w w':World}{bq:Nat}(h:Fr S w0 w)(k:Ko bq w w')(hb:w0.heap.size≤bq):Fr S w0 w':=
 ⟨k.os.trans h.os,k.tape.trans h.tape,k.output.trans h.output,bb h.size k.size,fun i hi hs=>by
   have h1:=h.block i hi hs
   have h2:w.heap[i]?=some w0.heap[i]:=by rw[h1];simp[hi]
   rw[k.same i _ h2 (.inl oQ),←h2,h1]⟩
theorem Kx.fr{bq:Nat}{X Y S:Nat→Prop}{w w':World}(h:Fr S w w')(hX:∀i,S i→X i)(hc:∀i o,S i→w.heap[i]?=some o→o.isCells=true):Kx bq X Y w w':=
 ⟨h.os,h.tape,h.output,h.size,fun i o hi ho=>(h.block i (lt_of_block hi) (fun hs=>by
   rcases ho with ho|ho
   · exact ho.2 (hX i hs)
   rw[hc i o hs hi]at ho;cases ho.1)).trans hi⟩
theorem Kf.fr{bq:Nat}{S:Nat→Prop}{w w':World}(h:Fr S w w')(hc:∀i o,S i→w.heap[i]?=some o→o.isCells=true):Kf bq w w':=
 ⟨h.size,fun i o _ hi ho=>(h.block i (lt_of_block hi) (fun hs=>by rw[hc i o hs hi]at ho;cases ho)).trans hi⟩
theorem fH{TW e:TypeId}{D:Wri}{bs:List UInt8}{w:World}(h:(Ep TW e D bs).holds w):∀i o,(Ep TW e D bs).foot i→w.heap[i]?=some o→o.isCells=true:=fun i o hf hi=>by
 rcases W9 hf with rfl|hf
 · have:=aQ h
   unfold Blk at this
   rw[this]at hi;cases hi;rfl
 obtain⟨_,⟨e',_⟩|⟨g,cap,cur,e',hb,hg,rest⟩⟩:=Ua h
 · rw[e']at hf;cases hf
 rw[e']at hf;cases hf
 rw[hg]at hi;cases hi;rfl
theorem Kk{TW e:TypeId}{D:Wri}{bs:List UInt8}{w:World}{B:Nat}{cs:Array Value}{T:TypeId}{x:Nat×Nat}(h:(Ep TW e D bs).holds w)(hb:w.heap[B]?=some (Obj.cells cs T x))(h1:Nat.beq T e=false)(h2:Nat.beq T TW=false):¬(Ep TW e D bs).foot B:=fun hf=>by
 rcases W9 hf with rfl|hf
 · have:=aQ h
   unfold Blk at this
   rw[this]at hb;cases hb
   simp at h2
 obtain⟨_,⟨e',_⟩|⟨g,cap,cur,e',_,hg,_⟩⟩:=Ua h
 · rw[e']at hf;cases hf
 rw[e']at hf;cases hf
 rw[hg]at hb;cases hb
 simp at h1
theorem Stp.ko{A:Asr}{TW e:TypeId}{D:Wri}{bs:List UInt8}{w0 w w':World}{bq:Nat}(h:Stp A (Ep TW e D bs) w0 w)(k:Ko bq w w')(hb:w0.heap.size≤bq):Stp A (Ep TW e D bs) w0 w':=⟨h.fr.ko k hb,xA h.holds k,h.sub⟩
theorem Els.kx{α:Type}{bq:Nat}{X Y:Nat→Prop}{w w':World}{ad:Option Addr}{k:Nat}{enc:α→Array Value}{xs:List α}(h:Els w ad k enc xs)(u:Kx bq X Y w w')(hn:∀B o,ad=some ⟨B,o,none⟩→¬X B):Els w' ad k enc xs:=fun i x hx=>
 let⟨B,o,h1,h2⟩:=h i x hx
 ⟨B,o,h1,fun j v hv=>by
   have hc:=h2 j v hv
   unfold World.cell? at hc⊢
   cases hb:w.heap[B]? with
   |none=>simp only[hb]at hc;cases hc
   |some ob=>
     cases ob with
     |cells cs T x=>rw[u.same B _ hb (.inl ⟨rfl,hn B _ h1⟩)];rw[hb]at hc;exact hc
     |_=>simp only[hb]at hc;cases hc⟩
theorem jM{S0:Nat→Prop}{w0 w:World}{Bs:List Asr}{TW e:TypeId}{B:Nat}(h:Sep S0 w0 w (Bs++[Ch B #[.pointer none,.slice none 0 0] TW])):Sep S0 w0 w (Bs++[Ep TW e ⟨B,false,.slice none 0 0⟩ []]):=by
 have h1:=h.add (Up.refl _) (A':=A8 e 1 Px (.slice none 0 0) ([]:List UInt8)) (OwnS.nil _ _ _ _ _) (fun i hi=>by cases hi)
 have h2:=aO (Bs:=Bs) (As:=O9 TW e ⟨B,false,.slice none 0 0⟩ []) (rest:=[]) (by simpa[O9,Wri.ad]using h1)
 exact h2
section
variable {P:Program}{n:Nat}{ds:List Deferred}{l:Env}{w:World}{d:Option Tmp}{ty:TypeId}{ps:String}{af:Array Edge}{g:Option (Nat×Bool)}
theorem REv.lX{e T Ts:TypeId}{i:TypeInfo}{s x:Operand}{v:Value}{bs:List UInt8}{t:ByteArray}(hT:P.underlying T=some (.slice e))(hTs:P.underlying Ts=some .string)(hi:P.info? e=some i)(hz:i.zero=some (.int .u8 0))(hsz:i.size=1)(hby:i.bytes=1)
   (hs:Val l s v)(hx:Val l x (.string t))(ho:OwnS w 0 e 1 Px v bs)(hb:bs.length+t.size≤140737488355328):
   REv P n ds l w ⟨d,.call { callee:=.builtin .append,args:=#[s,x],argTypes:=#[T,Ts] },ty,ps,af,g⟩ (fun v' w'=>Stp (A8 e 1 Px v bs) (A8 e 1 Px v' (bs++t.data.toList)) w w'):=fun a ha=>by
 have e0:∀c:List UInt8,(c.flatMap fun x=>(Px x).toList)=byteCells c:=fun c=>by rw[Qc];rfl
 have ho':w.ownsRow 0 e 1 v bs.length (byteCells bs):=by have:=ho;unfold OwnS at this;rw[e0]at this;exact this
 obtain⟨v',w',hr,h2,h3,_⟩:=run_append_own_string (P:=P) w 0 T Ts ty e i hT hTs hi hz hsz hby v bs.length _ ho' t (by simp only[maxLen];omega) hb (ao _)
 rw[strCells_eq,←byteCells_append]at h2
 have hl:(bs++t.data.toList).length=bs.length+t.size:=by rw[au,dc];rfl
 have hown:OwnS w' 0 e 1 Px v' (bs++t.data.toList):=by unfold OwnS;rw[e0,hl];exact h2
 refine⟨v',w',?_,⟨h3.os,h3.tape,h3.output,h3.size,fun i hi hb=>h3.block i hi (fun e=>hb e.symm)⟩,hown,?_⟩
 · simp only[execOp,resolve,invoke,builtin,Sem.run_bind,Sem.run_pure,Result.andThen_ok,gw,cy,f4,ha.ev hs,ha.ev hx,hr]
 -- the new row:the old one,or a new block
 intro q hq
 obtain⟨hlen,⟨rfl,hn⟩|⟨g',cap,cur,rfl,_,hg,hcap,hcm,hcs,htake⟩⟩:=ho'
 · rcases dq q w.heap.size with h|h
   · exfalso
     by_cases hm:t.size=0
     · have hf:=run_firstCells_string (P:=P) w 1 t
       rw[hm]at hf
       have hr2:(Builtin.append_ #[T,Ts] ty #[.slice none 0 0,.string t]).run P w=.ok (.slice none 0 0) w:=by
         simp[Builtin.append_,run_underlying hT,run_underlying hTs,sizeOf,typeInfo,hi,hsz,Builtin.lenOf,hm,hf]
       rw[hr]at hr2
       cases hr2
       cases hq
     have hr2:=run_append_nil_string (P:=P) w T Ts ty e i (.int .u8 0) hT hTs hi hz t oQ oQ (by rw[hby];omega)
     rw[hr]at hr2
     cases hr2
     cases hq
     exact Nat.lt_irrefl _ h
   exact .inr h
 by_cases hroom:bs.length+t.size≤cap
 · have hr2:=run_append_room_string (P:=P) w T Ts ty e i hT hTs hi hsz g' bs.length cap cur hg t hroom (by rw[hcs];omega)
   rw[hr]at hr2
   cases hr2
   exact .inl hq
 have holds:∀j u,(byteCells bs)[j]?=some u→w.cell? ((⟨g',0,none⟩:Addr).add j)=some u:=World.ownsRow.cells (g:=g') (show w.ownsRow 0 e 1 (.slice (some ⟨g',0,none⟩) bs.length cap) bs.length _ from⟨hlen,.inr ⟨g',cap,cur,rfl,ao _,hg,hcap,hcm,hcs,htake⟩⟩) rfl
 have hr2:=run_append_grow_string (P:=P) w T Ts ty e i (.int .u8 0) hT hTs hi hz ⟨g',0,none⟩ bs.length cap _ (by rw[hsz];simpa using hlen) holds t oQ oQ (by rw[hby];exact growslice_fits oQ oQ)
 rw[hr]at hr2
 cases hr2
 cases hq
 exact .inr (by simp)
theorem PEv.lY{T:TypeId}{ts:Array TypeId}{x:Operand}{B m cp:Nat}(hc:cp≠0)(hx:Val l x (.slice (some ⟨B,0,none⟩) m cp)):
   PEv P n ds l w ⟨d,.call { callee:=.builtin .unsafeSliceData,args:=#[x],argTypes:=ts },T,ps,af,g⟩ (.pointer (some ⟨B,0,none⟩)):=fun a w' ha _=>by
 have:=run_unsafeSliceData_row (P:=P) w' ts T ⟨B,0,none⟩ m cp hc
 simp only[execOp,resolve,invoke,builtin,Sem.run_bind,Sem.run_pure,Result.andThen_ok,gw,cy,f4,ha.ev hx,this]
theorem REv.lZ{T it e:TypeId}{x y:Operand}{B cp:Nat}{bs:List UInt8}{pt:TypeId}(hp:P.underlying pt=some (.pointer e))(hc:P.cellsOf e=1)(hx:Val l x (.pointer (some ⟨B,0,none⟩)))(hy:Val l y (.int .i64 (bs.length:Int)))
   (ho:OwnS w 0 e 1 Px (.slice (some ⟨B,0,none⟩) bs.length cp) bs)(h0:bs≠[])(h63:bs.length≤9223372036854775807):
   REv P n ds l w ⟨d,.call { callee:=.builtin .unsafeString,args:=#[x,y],argTypes:=#[pt,it] },T,ps,af,g⟩ (fun v w'=>v=.string ⟨bs.toArray⟩∧Fr (fun i=>some B=some i) w w'):=fun a ha=>by
 have e0:∀c:List UInt8,(c.flatMap fun x=>(Px x).toList)=byteCells c:=fun c=>by rw[Qc];rfl
 have ho':w.ownsRow 0 e 1 (.slice (some ⟨B,0,none⟩) bs.length cp) bs.length (byteCells bs):=by have:=ho;unfold OwnS at this;rw[e0]at this;exact this
 have hcell:=World.ownsRow.cells (g:=B) ho' rfl
 obtain⟨hlen,⟨h,_⟩|⟨g',cap,cur,h,_,hg,hcap,hcm,hcs,htake⟩⟩:=ho'
 · cases h
 cases h
 have hsh:w.shape? B=some (e,cp):=by simp[World.shape?,hg];omega
 have:=run_unsafeString_row (P:=P) w pt it T e hp hc B cp hsh bs h0 hcap h63 (fun j x hx=>hcell j _ (by simp[byteCells,hx]))
 refine⟨.string ⟨bs.toArray⟩,w.freeze ⟨B,0,none⟩ bs.length,?_,rfl,?_⟩
 · simp only[execOp,resolve,invoke,builtin,Sem.run_bind,Sem.run_pure,Result.andThen_ok,gw,cy,f4,ha.ev hx,ha.ev hy,this]
 unfold World.freeze
 split
 · exact Fr.refl _ _
 exact⟨rfl,rfl,rfl,by simp,fun i hi hs=>by
   simp only[i5]
   rw[ae (fun e=>hs (by rw[e]))]⟩
theorem PEv.qB{T Ts e e':TypeId}{x:Operand}{v:Value}{bs:List UInt8}{base:Nat}(hT:P.underlying T=some (.slice e))(he:P.underlying e=some (.int .u8))(hTs:P.underlying Ts=some .string)(hx:Val l x v)(ho:OwnS w base e' 1 Px v bs):
   PEv P n ds l w ⟨d,.convert T Ts x,ty,ps,af,g⟩ (.string ⟨bs.toArray⟩):=fun a w' ha hu=>by
 refine Cp ?_
 rw[ha.ev hx]
 have ho':=ho.up hu
 have hr:=ho'
 unfold OwnS at hr
 rw[Qc]at hr
 obtain⟨hlen,⟨rfl,hn⟩|⟨g',cap,cur,rfl,hb,hg,rest⟩⟩:=ho
 · have hbs:bs=[]:=dx hn
   subst hbs
   exact run_convert_bytes_nil (P:=P) w' T e hT he 0 0 Ts hTs
 have hcell:=World.ownsRow.cells (g:=g') hr rfl
 exact run_convert_bytes_back (P:=P) w' T Ts e ⟨g',0,none⟩ cap bs hT he hTs (fun q hq=>hcell q _ (by rw[cg,b_ hq];rfl))
theorem PEv.K3{T T':TypeId}{x y:Operand}{a b:ByteArray}(hx:Val l x (.string a))(hy:Val l y (.string b))(h:a.size+b.size≤9223372036854775807):PEv P n ds l w ⟨d,.binOp .add T x y T',ty,ps,af,g⟩ (.string (a++b)):=fun ac w' ha _=>by
 refine Cp ?_
 rw[ha.ev hx,ha.ev hy,Sem.run_bind]
 have:(eqGuard .add T x y (.string a) (.string b)).run P w'=.ok () w':=by unfold eqGuard;rfl
 rw[this]
 simp[binOp,Op.stringOp]
 omega
end
end Go.Wx
namespace Go.Wx
open Go.RowKit
class Tu(P:Program)(T:TypeId) where
  u:TypeDesc
  e:P.underlying T=some u
class Ts(P:Program)(T:TypeId) where
  k:Nat
  e:∀w,(sizeOf T).run P w=.ok k w
class Ta(P:Program)(T:TypeId) where
  b:Bool
  e:∀w,(isAgg T).run P w=.ok b w
def nF:List Field→Nat→Option Field
  |[],_=>none
  |x::_,0=>some x
  |_::l,i+1=>nF l i
theorem BU:∀(l:List Field)(i:Nat),nF l i=l[i]?
  |[],_=>rfl
  |_::_,0=>rfl
  |_::l,i+1=>BU l i
section
variable {P:Program}{n:Nat}{ds:List Deferred}{l:Env}{w:World}{d:Option Tmp}{ty:TypeId}{ps:String}{af:Array Edge}{g:Option (Nat×Bool)}{T t B o:Nat}
theorem PEv.fB{S i:Nat}(off:Nat){fs:Array Field}{f:Field}[q:Tu P S](hx:lk l t=some (.eq (.pointer (some ⟨B,o,none⟩))))(hu:q.u=.struct fs:=by exact rfl)(hf:nF fs.toList i=some f:=by exact rfl){T1:TypeId}(ht:f.type=T1:=by exact rfl)[r:Ts P T1](ho:f.offset=off:=by exact rfl)(hk:Nat.beq r.k 0=false:=by exact rfl):PEv P n ds l w ⟨d,.fieldAddr S (.tmp t) i,ty,ps,af,g⟩ (.pointer (some ⟨B,o+off,none⟩)):=.fA off (hu▸q.e) (by rw[BU]at hf;simpa using hf) (ht▸r.e) hx ho hk
theorem PEv.lb{ad:Addr}{v:Value}[q:Ta P T](hx:lk l t=some (.eq (.pointer (some ad))))(hc:w.cell? ad=some v)(hb:q.b=false:=by exact rfl):PEv P n ds l w ⟨d,.load T (.tmp t),ty,ps,af,g⟩ v:=.ld (hb▸q.e) hx hc
theorem PEv.lc{cs:Array Value}[q:Ta P T][r:Ts P T](hx:lk l t=some (.eq (.pointer (some ⟨B,o,none⟩))))(hc:AggAt w B o cs)(hb:q.b=true:=by exact rfl)(hk:cs.size=r.k:=by exact rfl):PEv P n ds l w ⟨d,.load T (.tmp t),ty,ps,af,g⟩ (.agg cs):=.la (hb▸q.e) r.e hx hc hk
end
section
variable {P:Program}{n:Nat}{l:Env}{w:World}{fn:Func}{Post:Value→World→Prop}
theorem KW.q{t:Tmp}{v:Value}(h:Post v w)(hr:fn.results=#[.tmp t]:=by exact rfl)(hv:lk l t=some (.eq v):=by exact rfl):KW n [] (bodyPost P fn (fun e w'=>∃v,e=.returned v∧Post v w') .ret) l w  :=wK hr hv ⟨_,rfl,h⟩
end
section
variable {P:Program}{n:Nat}{ds:List Deferred}{l:Env}{w:World}{d:Option Tmp}{ty:TypeId}{ps:String}{af:Array Edge}{g:Option (Nat×Bool)}{T T':TypeId}{t t':Nat}{v:Value}
theorem Vals.ct{xs:List Operand}{vs:List Value}(h:lk l t=some (.eq v))(r:Vals l xs vs):Vals l (.tmp t::xs) (v::vs):=Vals.cons (.tmp h) r
theorem Vals.cu(h:lk l t=some (.eq v)):Vals l [.tmp t] [v]:=Vals.cons (.tmp h) .nil
theorem Parts.ct{i:Nat}{xs:List (Nat×Operand)}{vs:List (Nat×Value)}(h:lk l t=some (.eq v))(r:Parts l xs vs):Parts l ((i,.tmp t)::xs) ((i,v)::vs):=Parts.cons (.tmp h) r
theorem Parts.cu{i:Nat}(h:lk l t=some (.eq v)):Parts l [(i,.tmp t)] [(i,v)]:=Parts.cons (.tmp h) .nil
theorem PEv.mv(h:lk l t=some (.eq v)):PEv P n ds l w ⟨d,.move (.tmp t),ty,ps,af,g⟩ v:=.move (.tmp h)
theorem PEv.xt{i:Nat}{vs:Array Value}(h:lk l t=some (.eq (.tuple vs)))(hn:nth vs.toList i=some v):PEv P n ds l w ⟨d,.extract (.tmp t) i,ty,ps,af,g⟩ v:=.extract (.tmp h) hn
theorem REv.bA{cs:Array Value}(h:lk l t=some (.eq (.agg cs))):REv P n ds l w ⟨d,.box T (.tmp t),ty,ps,af,g⟩ (eP w cs T):=.LO (.tmp h)
theorem PEv.ic{k:Nat}(h:lk l t=some (.eq (.int .i64 (k:Int))))(hk:k<9223372036854775807):PEv P n ds l w ⟨d,.binOp .add T (.tmp t) (.const (.int .i64 1)) T',ty,ps,af,g⟩ (.int .i64 ((k+1:Nat):Int)):=.inc (.tmp h) hk
theorem PEv.nc{ad:Addr}(h:lk l t=some (.eq (.pointer (some ad)))):PEv P n ds l w ⟨d,.nilCheck (.tmp t),ty,ps,af,g⟩ (.pointer (some ad)):=.nilCheck (.tmp h)
theorem PEv.l2{k:IntKind}{i j:Int}(h:lk l t=some (.eq (.int k i)))(h':lk l t'=some (.eq (.int k j))):PEv P n ds l w ⟨d,.binOp .lss T (.tmp t) (.tmp t') T',ty,ps,af,g⟩ (.bool (decide (i<j))):=.lss (.tmp h) (.tmp h')
theorem PEv.n1{p:Bool}(h:lk l t=some (.eq (.bool p))):PEv P n ds l w ⟨d,.unOp .not T (.tmp t),ty,ps,af,g⟩ (.bool !p):=.not (.tmp h)
theorem PEv.pa{x:Operand}{p b:Bool}(h:lk l t=some (.eq (.bool p)))(hx:p=true→Val l x (.bool b)):PEv P n ds l w ⟨d,.pick (.tmp t) x (.const (.bool false)),ty,ps,af,g⟩ (.bool (p&&b)):=.De (.tmp h) hx
theorem PEv.po{y:Operand}{p b:Bool}(h:lk l t=some (.eq (.bool p)))(hy:p=false→Val l y (.bool b)):PEv P n ds l w ⟨d,.pick (.tmp t) (.const (.bool true)) y,ty,ps,af,g⟩ (.bool (p||b)):=.Ee (.tmp h) hy
end
section
variable {R:Option Nat}{m:Nat}{P:Program}{n:Nat}{ds:List Deferred}{Q:Exit→Go.Act→World→Prop}{l:Env}{w:World}{t:Nat}{x y:Code}
theorem CW.b{p:Bool}(h:lk l t=some (.eq (.bool p)))(ht:p=true→CW R m P n ds x Q l w)(hf:p=false→CW R m P n ds y Q l w):CW R m P n ds (.cond (.tmp t) x y) Q l w:=CW.cond (.tmp h) ht hf
theorem CW.f(h:lk l t=some (.eq (.bool false)))(k:CW R m P n ds y Q l w):CW R m P n ds (.cond (.tmp t) x y) Q l w:=V1 (.tmp h) k
theorem CW.v(h:lk l t=some (.eq (.bool true)))(k:CW R m P n ds x Q l w):CW R m P n ds (.cond (.tmp t) x y) Q l w:=Yj (.tmp h) k
def gq(l:Env)(o:Oper)(ops:Array Oper)(n:Nat):Option (Bool×Bool×Nat):=
  match o.guard with
  |some (j,want)=>match ops[j]? with
    |some oj=>match oj.dst with
      |some dj=>match o.dst with
        |some d=>match lk l dj with
          |some (.eq (.bool b))=>match Nat.ble (dj+1) n with
            |true=>match Nat.ble (d+1) n with
              |true=>some (want,b,d)
              |false=>none
            |false=>none
          |_=>none
        |none=>none
      |none=>none
    |none=>none
  |none=>none
theorem CZ{o:Oper}{ops:Array Oper}{want b:Bool}{d:Nat}(h:gq l o ops n=some (want,b,d)):∃j dj oj,o.guard=some (j,want)∧ops[j]?=some oj∧oj.dst=some dj∧Nat.ble (dj+1) n=true∧lk l dj=some (.eq (.bool b))∧o.dst=some d∧Nat.ble (d+1) n=true:=by
  unfold gq at h
  repeat' split at h
  all_goals cases h
  exact⟨_,_,_,‹_›,‹_›,‹_›,‹_›,‹_›,‹_›,‹_›⟩
theorem LW.gr{ops:Array Oper}{o:Oper}{rest:List Oper}{want b:Bool}{d:Nat}{v:Value}(h:gq l o ops n=some (want,b,d))(h1:(b==want)=true→PEv P n ds l w o v)(k:LW R m P n ds ops Q rest ((d,.cond (b==want) v)::l) w):LW R m P n ds ops Q (o::rest) l w:=by
  obtain⟨j,dj,oj,a1,a2,a3,a4,a5,a6,a7⟩:=CZ h
  exact LN a1 a2 a3 a4 a5 a6 a7 h1 k
theorem Dk{dt:Option Tmp}{ty:TypeId}{ps:String}{af:Array Edge}{g:Option (Nat×Bool)}{ops:Array Oper}{rest:List Oper}{want b:Bool}{d:Nat}{v:Value}(h:gq l ⟨dt,.move (.tmp t),ty,ps,af,g⟩ ops n=some (want,b,d))(h1:lk l t=some (.eq v))(k:LW R m P n ds ops Q rest ((d,.cond (b==want) v)::l) w):LW R m P n ds ops Q (⟨dt,.move (.tmp t),ty,ps,af,g⟩::rest) l w:=LW.gr h (fun _=>.move (.tmp h1)) k
end
section
variable {S0:Nat→Prop}{w0 w:World}{B:Nat}{cs:Array Value}{T:TypeId}{a b c d e f:Asr}{X:List Asr}
theorem Sep.b0(h:Wx.Sep S0 w0 w (Ch B cs T::X)):Blk w B cs T:=Sep.blk h 0 rfl
theorem Sep.b1(h:Wx.Sep S0 w0 w (a::Ch B cs T::X)):Blk w B cs T:=Sep.blk h 1 rfl
theorem Sep.b2(h:Wx.Sep S0 w0 w (a::b::Ch B cs T::X)):Blk w B cs T:=Sep.blk h 2 rfl
theorem Sep.b3(h:Wx.Sep S0 w0 w (a::b::c::Ch B cs T::X)):Blk w B cs T:=Sep.blk h 3 rfl
theorem Sep.b4(h:Wx.Sep S0 w0 w (a::b::c::d::Ch B cs T::X)):Blk w B cs T:=Sep.blk h 4 rfl
theorem Sep.b5(h:Wx.Sep S0 w0 w (a::b::c::d::e::Ch B cs T::X)):Blk w B cs T:=Sep.blk h 5 rfl
end
theorem cT{P:Program}{w:World}(n:Nat){f:FuncId}{fn:Func}{c:Code}{args:List Value}{R:Ending→World→Prop}(hf:P.funcs[f]?=some fn)(hb:fn.body=some c)(h:CW none 9 P n [] c (bodyPost P fn R) (Il args 0) w)(hn:fn.ntmps=n:=by exact rfl)(hl:Nat.ble args.length n=true:=by exact rfl):Calls P f args.toArray w R:=Sj hf hb hn hl h
theorem W0(w:World):∃w0,w0=w∧Wx.Sep no w0 w0 []:=⟨w,rfl,Sep.start no w⟩
theorem wQ{l:Env}{x:Operand}{v:Value}(h:Val l x v:=by first|exact .const _|exact .tmp rfl|exact .cond rfl (by first|assumption|(rw[hp];rfl)|(rw[hc,hp];rfl)|simp_all)):Val l x v:=h
end Go.Wx
namespace Go
theorem bQ{a b:Nat}(h:Nat.ble a b=true:=by exact rfl):a≤b:=ah h
theorem tQ{p:Prop}(h:p:=by repeat' (first|exact trivial|refine⟨rfl,?_⟩)):p:=h
theorem uQ{p:Prop}(h:p:=by repeat' (first|exact trivial|refine⟨Wx.PhU.eq _,?_⟩)):p:=h
end Go
namespace Go.Proofs
open Go.Wx
open Go.Proofs.Tryz
instance:Ta prog 3:=⟨_,ly⟩
instance:Ta prog 4:=⟨_,isAgg4⟩
instance:Ta prog 9:=⟨_,isAgg9⟩
instance:Ta prog 23:=⟨_,isAgg23⟩
instance:Ta prog 24:=⟨_,isAgg24⟩
instance:Ta prog 26:=⟨_,isAgg26⟩
instance:Ta prog 39:=⟨_,l7⟩
instance:Ta prog 43:=⟨_,isAgg43⟩
instance:Ta prog 47:=⟨_,isAgg47⟩
instance:Ta prog 51:=⟨_,m2⟩
instance:Ta prog 55:=⟨_,md⟩
instance:Ta prog 57:=⟨_,m_⟩
instance:Ta prog 59:=⟨_,isAgg59⟩
instance:Ta prog 60:=⟨_,isAgg60⟩
instance:Ta prog 63:=⟨_,isAgg63⟩
instance:Ta prog 74:=⟨_,isAgg74⟩
instance:Ta prog 76:=⟨_,isAgg76⟩
instance:Ta prog 80:=⟨_,isAgg80⟩
instance:Ta prog 85:=⟨_,isAgg85⟩
instance:Ta prog 90:=⟨_,isAgg90⟩
instance:Ta prog 91:=⟨_,isAgg91⟩
instance:Ta prog 97:=⟨_,isAgg97⟩
instance:Ta prog 106:=⟨_,isAgg106⟩
instance:Ta prog 107:=⟨_,isAgg107⟩
instance:Ta prog 108:=⟨_,isAgg108⟩
instance:Ta prog 109:=⟨_,isAgg109⟩
instance:Ta prog 119:=⟨_,isAgg119⟩
instance:Ta prog 156:=⟨_,isAgg156⟩
instance:Ta prog 158:=⟨_,isAgg158⟩
instance:Ta prog 184:=⟨_,isAgg184⟩
instance:Ta prog 243:=⟨_,isAgg243⟩
instance:Ts prog 3:=⟨_,lf⟩
instance:Ts prog 4:=⟨_,sizeOf4⟩
instance:Ts prog 9:=⟨_,sizeOf9⟩
instance:Ts prog 23:=⟨_,sizeOf23⟩
instance:Ts prog 24:=⟨_,mf⟩
instance:Ts prog 26:=⟨_,sizeOf26⟩
instance:Ts prog 39:=⟨_,lw⟩
instance:Ts prog 43:=⟨_,sizeOf43⟩
instance:Ts prog 51:=⟨_,k7⟩
instance:Ts prog 55:=⟨_,lj⟩
instance:Ts prog 57:=⟨_,lr⟩
instance:Ts prog 59:=⟨_,sizeOf59⟩
instance:Ts prog 60:=⟨_,sizeOf60⟩
instance:Ts prog 63:=⟨_,sizeOf63⟩
instance:Ts prog 74:=⟨_,sizeOf74⟩
instance:Ts prog 76:=⟨_,sizeOf76⟩
instance:Ts prog 80:=⟨_,sizeOf80⟩
instance:Ts prog 85:=⟨_,nj⟩
instance:Ts prog 90:=⟨_,sizeOf90⟩
instance:Ts prog 91:=⟨_,sizeOf91⟩
instance:Ts prog 106:=⟨_,sizeOf106⟩
instance:Ts prog 108:=⟨_,sizeOf108⟩
instance:Ts prog 109:=⟨_,sizeOf109⟩
instance:Ts prog 111:=⟨_,sizeOf111⟩
instance:Ts prog 119:=⟨_,m5⟩
instance:Ts prog 156:=⟨_,sizeOf156⟩
instance:Ts prog 158:=⟨_,lx⟩
instance:Tu prog 30:=⟨_,underlying30⟩
instance:Tu prog 39:=⟨_,underlying39⟩
instance:Tu prog 51:=⟨_,me⟩
instance:Tu prog 55:=⟨_,mc⟩
instance:Tu prog 57:=⟨_,m8⟩
instance:Tu prog 62:=⟨_,underlying62⟩
instance:Tu prog 76:=⟨_,underlying76⟩
instance:Tu prog 80:=⟨_,mq⟩
instance:Tu prog 93:=⟨_,mb⟩
instance:Tu prog 111:=⟨_,underlying111⟩
instance:Tu prog 113:=⟨_,underlying113⟩
instance:Tu prog 121:=⟨_,l8⟩
instance:Tu prog 136:=⟨_,underlying136⟩
instance:Tu prog 158:=⟨_,l4⟩
instance:Tu prog 249:=⟨_,underlying249⟩
end Go.Proofs
namespace Go.Wx
structure Rt where
 n:Int
 d:Int
def Rt.cells(a:Rt):Array Go.Value:=#[vi a.n,vi a.d]
theorem Rt.one(a:Rt):a.cells.all (·.oneCell')=true:=by simp[Rt.cells,Value.oneCell']
def Dd(n d:Int):Nat:=Nat.gcd n.natAbs d.natAbs
structure Rt.ok(a:Rt):Prop where
 pos:0<a.d
 den:a.d≤1000000000
 num:a.n.natAbs≤1000000000
 co:Dd a.n a.d=1
def Ce(n d:Int):Rt:=⟨if n<0 then -((n.natAbs/Dd n d:Nat):Int)else((n.natAbs/Dd n d:Nat):Int),((d.natAbs/Dd n d:Nat):Int)⟩
def Ow(n d:Int):Bool:=decide (n.natAbs/Dd n d≤1000000000∧d.natAbs/Dd n d≤1000000000)
def DA:Rt:=⟨0,0⟩
def Ia(n d:Int):Rt×Int:=if Ow n d=true then(Ce n d,0)else(DA,30)
theorem Le{n d:Int}(hd:0<d):0<Dd n d:=Nat.gcd_pos_of_pos_right _ oQ
theorem K4{n d:Int}(hd:0<d):0<(Ce n d).d:=by
 show(0:Int)<((d.natAbs/Dd n d:Nat):Int)
 have h1:Dd n d ∣ d.natAbs:=Nat.gcd_dvd_right _ _
 have:=Nat.div_pos (Nat.le_of_dvd oQ h1) (Le (n:=n) hd)
 omega
theorem fI(n d:Int):(Ce n d).n.natAbs=n.natAbs/Dd n d:=by
 show(if n<0 then -((n.natAbs/Dd n d:Nat):Int)else((n.natAbs/Dd n d:Nat):Int)).natAbs=_
 generalize n.natAbs/Dd n d=x
 split<;>omega
theorem jN(n d:Int):(Ce n d).d.natAbs=d.natAbs/Dd n d:=by
 show((d.natAbs/Dd n d:Nat):Int).natAbs=_
 generalize d.natAbs/Dd n d=x
 omega
theorem Qd{n d:Int}(hd:0<d):Dd (Ce n d).n (Ce n d).d=1:=by
 unfold Dd
 rw[fI,jN]
 exact Nat.coprime_div_gcd_div_gcd (Le (n:=n) hd)
theorem G9{n d:Int}(hd:0<d):(Ce n d).n*d=n*(Ce n d).d:=by
 have h1:n.natAbs/Dd n d*Dd n d=n.natAbs:=Nat.div_mul_cancel (Nat.gcd_dvd_left _ _)
 have h2:d.natAbs/Dd n d*Dd n d=d.natAbs:=Nat.div_mul_cancel (Nat.gcd_dvd_right _ _)
 show(if n<0 then -((n.natAbs/Dd n d:Nat):Int)else((n.natAbs/Dd n d:Nat):Int))*d=n*((d.natAbs/Dd n d:Nat):Int)
 generalize n.natAbs/Dd n d=x at*
 generalize d.natAbs/Dd n d=y at*
 generalize Dd n d=g at*
 have e2:d=((y*g:Nat):Int):=by rw[h2];omega
 have key:(x:Int)*((y*g:Nat):Int)=((x*g:Nat):Int)*(y:Int):=by
   push_cast;ac_rfl
 rw[e2]
 split
 · rename_i hneg
   have e1:n= -((x*g:Nat):Int):=by rw[h1];omega
   rw[e1,il,il,key]
 rename_i hneg
 have e1:n=((x*g:Nat):Int):=by rw[h1];omega
 rw[e1,key]
theorem jO{a b:Rt}(ha:0<a.d)(hb:0<b.d)(ga:Dd a.n a.d=1)(gb:Dd b.n b.d=1)(h:a.n*b.d=b.n*a.d):a=b:=by
 have hn:a.n.natAbs*b.d.natAbs=b.n.natAbs*a.d.natAbs:=by rw[←je,←je,h]
 have h1:a.d.natAbs ∣ b.d.natAbs:=by
   have:a.d.natAbs ∣ a.n.natAbs*b.d.natAbs:=by rw[hn];exact Nat.dvd_mul_left _ _
   exact(Nat.Coprime.symm ga).dvd_of_dvd_mul_left this
 have h2:b.d.natAbs ∣ a.d.natAbs:=by
   have:b.d.natAbs ∣ b.n.natAbs*a.d.natAbs:=by rw[←hn];exact Nat.dvd_mul_left _ _
   exact(Nat.Coprime.symm gb).dvd_of_dvd_mul_left this
 have hd:=Nat.dvd_antisymm h1 h2
 obtain⟨an,ad⟩:=a
 obtain⟨bn,bd⟩:=b
 dsimp only at*
 have e:ad=bd:=by omega
 subst e
 have:=jf oQ h
 rw[this]
theorem Tf{u v u' v':Int}(hv:0<v)(hv':0<v')(h:u*v'=u'*v):Ce u v=Ce u' v':=by
 refine jO (K4 hv) (K4 hv') (Qd hv) (Qd hv') ?_
 have h1:=G9 (n:=u) hv
 have h2:=G9 (n:=u') hv'
 generalize Ce u v=a at*
 generalize Ce u' v'=b at*
 have hvv:v*v'≠0:=Int.mul_ne_zero oQ oQ
 refine jf hvv ?_
 calc a.n*b.d*(v*v')=(a.n*v)*(b.d*v'):=by ac_rfl
   _=(u*a.d)*(b.d*v'):=by rw[h1]
   _=(u*v')*(a.d*b.d):=by ac_rfl
   _=(u'*v)*(a.d*b.d):=by rw[h]
   _=(u'*b.d)*(a.d*v):=by ac_rfl
   _=(b.n*v')*(a.d*v):=by rw[h2]
   _=b.n*a.d*(v*v'):=by ac_rfl
theorem jP{n d:Int}(hd:0<d)(h:Ow n d=true):(Ce n d).ok:=by
 have h:=bj h
 refine⟨K4 hd,?_,by rw[fI];exact h.1,Qd hd⟩
 show((d.natAbs/Dd n d:Nat):Int)≤1000000000
 omega
theorem Hf{n d:Int}(hn:n.natAbs≤1000000000)(hd:d.natAbs≤1000000000):Ow n d=true:=
 a8 ⟨bb (ki _ _) hn,bb (ki _ _) hd⟩
theorem Gq{n d:Int}(h:Ow n d=true):Ia n d=(Ce n d,0):=ak h
theorem jQ{u v u' v':Int}(hv:0<v)(hv':0<v')(h:u*v'=u'*v)(hf:Ow u' v'=true):Ow u v=true:=by
 have e:=Tf hv hv' h
 have hf:=bj hf
 refine a8 ?_
 rw[←fI,←jN]at hf⊢
 rw[e];exact hf
theorem Cx(a b:Nat):Nat.gcd a b=Nat.gcd b (a%b):=by rw[Nat.gcd_comm a b,Nat.gcd_rec b a,Nat.gcd_comm]
theorem abs_neg{i:Int}(hi:F8 i)(h:i<0):IntKind.u64.wrap (-(IntKind.u64.wrap i))=(i.natAbs:Int):=by
 obtain⟨h1,h2⟩:=hi
 rw[Dv,Dv]
 omega
theorem jR{i:Int}(hi:F8 i)(h:0≤i):IntKind.u64.wrap i=(i.natAbs:Int):=by
 obtain⟨h1,h2⟩:=hi
 rw[Dv]
 omega
theorem PEv.vl{P:Program}{n:Nat}{ds:List Deferred}{l:Env}{w:World}{o:Oper}{v v':Go.Value}(h:PEv P n ds l w o v)(e:v=v'):PEv P n ds l w o v':=e▸h
theorem xB(a b:Nat)(hb:(a:Int)<18446744073709551616):Go.Value.int .u64 (IntKind.u64.wrap ((a:Int).tdiv (b:Int)))=vu (a/b):=by
 have e:(a:Int).tdiv (b:Int)=((a/b:Nat):Int):=rfl
 have h:=ki a b
 rw[e]
 generalize a/b=q at*
 rw[Dv,j7 oQ (by omega)];rfl
theorem jS{a:Nat}(h:a≤1000000000):Go.Value.int .i64 (IntKind.i64.wrap ((a:Nat):Int))=vi (a:Int):=by
 rw[Cb oQ (by omega)]
theorem xC{a b:Nat}(h:¬(1000000000:Int)<(if(a:Int)<(b:Int)then(b:Int)else(a:Int))):a≤1000000000∧b≤1000000000:=by
 split at h<;>omega
theorem qC{a b:Nat}(h:(1000000000:Int)<(if(a:Int)<(b:Int)then(b:Int)else(a:Int))):¬(a≤1000000000∧b≤1000000000):=by
 split at h<;>omega
theorem qD{n d:Int}(h:¬(n.natAbs/Dd n d≤1000000000∧d.natAbs/Dd n d≤1000000000)):Ia n d=(DA,30):=ae (fun e=>h (bj e))
theorem jT{n d:Int}(h:n.natAbs/Dd n d≤1000000000∧d.natAbs/Dd n d≤1000000000)(hn:n<0):Ia n d=(⟨-((n.natAbs/Dd n d:Nat):Int),((d.natAbs/Dd n d:Nat):Int)⟩,0):=by
 rw[Gq (a8 h)]
 unfold Ce
 rw[ak hn]
theorem jU{n d:Int}(h:n.natAbs/Dd n d≤1000000000∧d.natAbs/Dd n d≤1000000000)(hn:¬n<0):Ia n d=(⟨((n.natAbs/Dd n d:Nat):Int),((d.natAbs/Dd n d:Nat):Int)⟩,0):=by
 rw[Gq (a8 h)]
 unfold Ce
 rw[ae hn]
section
variable {P:Program}{n:Nat}{ds:List Deferred}{l:Env}{w:World}{d:Option Tmp}{ty:TypeId}{ps:String}{af:Array Edge}{g:Option (Nat×Bool)}
theorem PEv.JV{x y:Operand}{ts:Array TypeId}{i j:Int}(hx:Val l x (.int .u64 i))(hy:Val l y (.int .u64 j)):
   PEv P n ds l w ⟨d,.call { callee:=.builtin .max,args:=#[x,y],argTypes:=ts },ty,ps,af,g⟩ (.int .u64 (if i<j then j else i)):=fun a w' ha _=>by
 rw[BigFrame.execOp_builtin,BigFrame.builtin_max]
 refine Cp ?_
 have e:(#[x,y]:Array Operand).map a.eval=#[.int .u64 i,.int .u64 j]:=by simp[ha.ev hx,ha.ev hy]
 rw[e]
 exact run_max_int2 w' _ _ _ _ _ _
end
theorem mA{x y:Int}(hx:x.natAbs≤1000000000)(hy:y.natAbs≤1000000000): -1000000000000000000≤x*y∧x*y≤1000000000000000000:=by
 have h:(x*y).natAbs≤1000000000*1000000000:=by rw[je];exact kq hx hy
 omega
theorem Rt.ok.d'{a:Rt}(h:a.ok):a.d.natAbs≤1000000000:=by have h1:=h.pos;have h2:=h.den;omega
theorem Rt.ok.nI{a:Rt}(h:a.ok):F8 a.n:=by have h1:=h.num;exact⟨by omega,by omega⟩
theorem Rt.ok.dI{a:Rt}(h:a.ok):F8 a.d:=by have h1:=h.pos;have h2:=h.den;exact⟨by omega,by omega⟩
def Fu(a b:Rt):Int:=a.n*b.d+b.n*a.d
theorem Tg{a b:Rt}(ha:a.ok)(hb:b.ok): -2000000000000000000≤Fu a b∧Fu a b≤2000000000000000000:=by
 have h1:=mA ha.num hb.d'
 have h2:=mA hb.num ha.d'
 unfold Fu
 omega
theorem Ub{a b:Rt}(ha:a.ok)(hb:b.ok):0<a.d*b.d∧a.d*b.d≤1000000000000000000:=⟨Int.mul_pos ha.pos hb.pos,(mA ha.d' hb.d').2⟩
theorem JW{a b:Rt}(ha:a.ok)(hb:b.ok):IntKind.i64.wrap (IntKind.i64.wrap (a.n*b.d)+IntKind.i64.wrap (b.n*a.d))=Fu a b:=by
 have h1:=mA ha.num hb.d'
 have h2:=mA hb.num ha.d'
 rw[Cb (i:=a.n*b.d) oQ oQ,Cb (i:=b.n*a.d) oQ oQ,Cb oQ (by omega)];rfl
theorem NP{a b:Rt}(ha:a.ok)(hb:b.ok):IntKind.i64.wrap (a.d*b.d)=a.d*b.d:=by
 have h:=Ub ha hb
 exact Cb oQ oQ
theorem jV(a:Rt):(#[vi a.n,vi a.d]:Array Go.Value).size=2∧(#[vi a.n,vi a.d]:Array Go.Value).all (·.oneCell')=true:=by simp[Value.oneCell']
theorem JX{a:Nat}(h:a≤1000000000):IntKind.i64.wrap (-((a:Nat):Int))= -((a:Nat):Int):=Cb oQ oQ
end Go.Wx
namespace Go.Proofs.YtbcnnkfopoiifaaGreatDoor
open Go.Proofs.Tryz
open Go.Wx Go.RowKit
theorem qE(B2 B3:Nat)(w:World):wX prog 234 #[.pointer (some ⟨B2,0,none⟩),.pointer (some ⟨B3,0,none⟩)] w fun w'=>Up w w':=by
 have hW:=Up.refl w
 refine P8 (n:=16) (args:=[.pointer (some ⟨B2,0,none⟩),.pointer (some ⟨B3,0,none⟩)]) func234 rfl rfl rfl (DW.seq (m:=9) (DW.region (pW (fun a=>Sm) rfl rfl rfl (DL.p (V8 underlying163 zeroValue163 (.t rfl)) rfl rfl rfl (DL.p (PEv.mv rfl) rfl rfl rfl (DL.p (PEv.xt rfl rfl) rfl rfl rfl (DL.p (PEv.xt rfl rfl) rfl rfl rfl (DL.p (PEv.assign (.t rfl)) rfl rfl rfl (DL.p (PEv.assign (.t rfl)) rfl rfl rfl (DL.nil (Ab (Af (Ac rfl (Ac rfl (E4 (E4 (E4 (I (.De (b:=false) (.t rfl) (fun hp=>absurd (show false=true from hp) cQ)) (Ai (CW.f rfl (Ak (Di rfl ⟨_,rfl,?_⟩))))))))))))))))))))))
 exact hW
theorem L2(i:Int)(w:World)(hi:F8 i):Ret prog 142 #[vi i] w fun r w'=>r=vu i.natAbs∧Up w w':=by
 have hW:=Up.refl w
 refine cT 10 func142 rfl (Af (J (Ar (Af (Ac rfl (I (.lss (.t rfl) (.const _)) (Ai (CW.b rfl (fun h4=>?_) (fun h4=>?_)))))))))
 ·replace h4:=dQ h4
  have hneg:=h4
  refine Af (Ac rfl (I (.conv (k':=.u64) (by rw[lh];rfl) lz (.t rfl)) (I (.neg lz (.t rfl)) (LW.A rfl (Ai (Aj (Ah (KW.q ?_))))))))
  exact⟨a_ (Go.Value.int .u64) (abs_neg hi hneg),hW⟩
 replace h4:=dQ h4
 have hpos:=h4
 refine Ak (Ab (Af (Ac rfl (I (.conv (k':=.u64) (by rw[lh];rfl) lz (.t rfl)) (LW.A rfl (Ai (Aj (KW.q ?_))))))))
 exact⟨a_ (Go.Value.int .u64) (jR hi oQ),hW⟩
theorem jW(a b:Nat)(w:World):Ret prog 141 #[vu a,vu b] w fun r w'=>r=vu (Nat.gcd a b)∧Up w w':=by
 have hW:=Up.refl w
 obtain⟨w0,rfl,_⟩:=W0 w
 refine cT 12 func141 rfl (Af (J (Ar (Ap (A9 (σ:=Nat×Nat) (fun s w=>(Nat.gcd s.1 s.2=Nat.gcd a b)∧(Up w0 w)) (fun s=>[(0,.eq (vu s.1)),(1,.eq (vu s.2))]) ([(4,.eq _)]) (fun s=>s.2) (a,b) ?_ tQ ?_)))))
 ·exact⟨rfl,hW⟩
 rintro⟨x,y⟩ w1 ⟨hg,hW⟩
 change CW _ _ _ _ _ _ _ ([(0,.eq (vu x)),(1,.eq (vu y))]++_) _
 refine Al (Af (Ac rfl (I (.neq (.t rfl) (.const _)) (Ai (CW.b rfl (fun h6=>?_) (fun h6=>?_))))))
 ·have hy0:y≠0:=by simpa using h6
  refine Ak (Ab (Ap (T7 kQ rfl ?_)))
  obtain⟨w2,hdr⟩:∃W,W=w1.drew:=⟨_,rfl⟩
  have uw2:Up w1 w2:=by rw[hdr];exact Up.drew _
  rw[←hdr]
  replace hW:=hW.up uw2
  refine AW.step (rs:=[0,1,2]) kQ cQ ?_
  intro i hi
  simp only[ap,ba,b8]at hi
  rcases hi with rfl|rfl|rfl
  ·skip
   refine⟨_,rfl,rfl,?_⟩
   refine OW.p (PEv.mv rfl) rfl rfl (AW.step (rs:=[1,2]) kQ cQ ?_)
   intro i hi
   simp only[ap,ba,b8]at hi
   rcases hi with rfl|rfl
   ·skip
    refine⟨_,rfl,rfl,?_⟩
    refine OW.p (PEv.mv rfl) rfl rfl (AW.step (rs:=[2,4]) kQ cQ ?_)
    intro i hi
    simp only[ap,ba,b8]at hi
    rcases hi with rfl|rfl
    ·skip
     refine⟨_,rfl,rfl,?_⟩
     refine OW.p (PEv.mv rfl) rfl rfl (AW.step (rs:=[3,4]) kQ cQ ?_)
     intro i hi
     simp only[ap,ba,b8]at hi
     rcases hi with rfl|rfl
     ·skip
      refine⟨_,rfl,rfl,?_⟩
      refine OW.p (PEv.vl (v':=vu (x%y)) (PEv.rem (.t rfl) (.t rfl) oQ) (a_ (Go.Value.int .u64) (by rfl))) rfl rfl (AW.step (rs:=[4]) kQ cQ ?_)
      intro i hi
      obtain rfl:=aa.1 hi
      refine⟨_,rfl,rfl,?_⟩
      refine OW.p (PEv.assign (.t rfl)) rfl rfl (AW.step (rs:=[5]) kQ cQ ?_)
      intro i hi
      obtain rfl:=aa.1 hi
      refine⟨_,rfl,rfl,?_⟩
      refine OW.p (PEv.assign (.t rfl)) rfl rfl (AW.done kQ (Ae (Aq ?_)))
      exact⟨(y,x%y),⟨by rw[←hg];exact(Cx x y).symm,hW⟩,tQ,by show x%y<y;exact cx _ oQ⟩
     skip
     refine⟨_,rfl,rfl,?_⟩
     refine OW.p (PEv.assign (.t rfl)) rfl rfl (AW.step (rs:=[3]) kQ cQ ?_)
     intro i hi
     obtain rfl:=aa.1 hi
     refine⟨_,rfl,rfl,?_⟩
     refine OW.p (PEv.vl (v':=vu (x%y)) (PEv.rem (.t rfl) (.t rfl) oQ) (a_ (Go.Value.int .u64) (by rfl))) rfl rfl (AW.step (rs:=[5]) kQ cQ ?_)
     intro i hi
     obtain rfl:=aa.1 hi
     refine⟨_,rfl,rfl,?_⟩
     refine OW.p (PEv.assign (.t rfl)) rfl rfl (AW.done kQ (Ae (Aq ?_)))
     exact⟨(y,x%y),⟨by rw[←hg];exact(Cx x y).symm,hW⟩,tQ,by show x%y<y;exact cx _ oQ⟩
    skip
    refine⟨_,rfl,rfl,?_⟩
    refine OW.p (PEv.assign (.t rfl)) rfl rfl (AW.step (rs:=[2]) kQ cQ ?_)
    intro i hi
    obtain rfl:=aa.1 hi
    refine⟨_,rfl,rfl,?_⟩
    refine OW.p (PEv.mv rfl) rfl rfl (AW.step (rs:=[3]) kQ cQ ?_)
    intro i hi
    obtain rfl:=aa.1 hi
    refine⟨_,rfl,rfl,?_⟩
    refine OW.p (PEv.vl (v':=vu (x%y)) (PEv.rem (.t rfl) (.t rfl) oQ) (a_ (Go.Value.int .u64) (by rfl))) rfl rfl (AW.step (rs:=[5]) kQ cQ ?_)
    intro i hi
    obtain rfl:=aa.1 hi
    refine⟨_,rfl,rfl,?_⟩
    refine OW.p (PEv.assign (.t rfl)) rfl rfl (AW.done kQ (Ae (Aq ?_)))
    exact⟨(y,x%y),⟨by rw[←hg];exact(Cx x y).symm,hW⟩,tQ,by show x%y<y;exact cx _ oQ⟩
   skip
   refine⟨_,rfl,rfl,?_⟩
   refine OW.p (PEv.mv rfl) rfl rfl (AW.step (rs:=[1]) kQ cQ ?_)
   intro i hi
   obtain rfl:=aa.1 hi
   refine⟨_,rfl,rfl,?_⟩
   refine OW.p (PEv.mv rfl) rfl rfl (AW.step (rs:=[3,4]) kQ cQ ?_)
   intro i hi
   simp only[ap,ba,b8]at hi
   rcases hi with rfl|rfl
   ·skip
    refine⟨_,rfl,rfl,?_⟩
    refine OW.p (PEv.vl (v':=vu (x%y)) (PEv.rem (.t rfl) (.t rfl) oQ) (a_ (Go.Value.int .u64) (by rfl))) rfl rfl (AW.step (rs:=[4]) kQ cQ ?_)
    intro i hi
    obtain rfl:=aa.1 hi
    refine⟨_,rfl,rfl,?_⟩
    refine OW.p (PEv.assign (.t rfl)) rfl rfl (AW.step (rs:=[5]) kQ cQ ?_)
    intro i hi
    obtain rfl:=aa.1 hi
    refine⟨_,rfl,rfl,?_⟩
    refine OW.p (PEv.assign (.t rfl)) rfl rfl (AW.done kQ (Ae (Aq ?_)))
    exact⟨(y,x%y),⟨by rw[←hg];exact(Cx x y).symm,hW⟩,tQ,by show x%y<y;exact cx _ oQ⟩
   skip
   refine⟨_,rfl,rfl,?_⟩
   refine OW.p (PEv.assign (.t rfl)) rfl rfl (AW.step (rs:=[3]) kQ cQ ?_)
   intro i hi
   obtain rfl:=aa.1 hi
   refine⟨_,rfl,rfl,?_⟩
   refine OW.p (PEv.vl (v':=vu (x%y)) (PEv.rem (.t rfl) (.t rfl) oQ) (a_ (Go.Value.int .u64) (by rfl))) rfl rfl (AW.step (rs:=[5]) kQ cQ ?_)
   intro i hi
   obtain rfl:=aa.1 hi
   refine⟨_,rfl,rfl,?_⟩
   refine OW.p (PEv.assign (.t rfl)) rfl rfl (AW.done kQ (Ae (Aq ?_)))
   exact⟨(y,x%y),⟨by rw[←hg];exact(Cx x y).symm,hW⟩,tQ,by show x%y<y;exact cx _ oQ⟩
  ·skip
   refine⟨_,rfl,rfl,?_⟩
   refine OW.p (PEv.mv rfl) rfl rfl (AW.step (rs:=[0,2]) kQ cQ ?_)
   intro i hi
   simp only[ap,ba,b8]at hi
   rcases hi with rfl|rfl
   ·skip
    refine⟨_,rfl,rfl,?_⟩
    refine OW.p (PEv.mv rfl) rfl rfl (AW.step (rs:=[2,4]) kQ cQ ?_)
    intro i hi
    simp only[ap,ba,b8]at hi
    rcases hi with rfl|rfl
    ·skip
     refine⟨_,rfl,rfl,?_⟩
     refine OW.p (PEv.mv rfl) rfl rfl (AW.step (rs:=[3,4]) kQ cQ ?_)
     intro i hi
     simp only[ap,ba,b8]at hi
     rcases hi with rfl|rfl
     ·skip
      refine⟨_,rfl,rfl,?_⟩
      refine OW.p (PEv.vl (v':=vu (x%y)) (PEv.rem (.t rfl) (.t rfl) oQ) (a_ (Go.Value.int .u64) (by rfl))) rfl rfl (AW.step (rs:=[4]) kQ cQ ?_)
      intro i hi
      obtain rfl:=aa.1 hi
      refine⟨_,rfl,rfl,?_⟩
      refine OW.p (PEv.assign (.t rfl)) rfl rfl (AW.step (rs:=[5]) kQ cQ ?_)
      intro i hi
      obtain rfl:=aa.1 hi
      refine⟨_,rfl,rfl,?_⟩
      refine OW.p (PEv.assign (.t rfl)) rfl rfl (AW.done kQ (Ae (Aq ?_)))
      exact⟨(y,x%y),⟨by rw[←hg];exact(Cx x y).symm,hW⟩,tQ,by show x%y<y;exact cx _ oQ⟩
     skip
     refine⟨_,rfl,rfl,?_⟩
     refine OW.p (PEv.assign (.t rfl)) rfl rfl (AW.step (rs:=[3]) kQ cQ ?_)
     intro i hi
     obtain rfl:=aa.1 hi
     refine⟨_,rfl,rfl,?_⟩
     refine OW.p (PEv.vl (v':=vu (x%y)) (PEv.rem (.t rfl) (.t rfl) oQ) (a_ (Go.Value.int .u64) (by rfl))) rfl rfl (AW.step (rs:=[5]) kQ cQ ?_)
     intro i hi
     obtain rfl:=aa.1 hi
     refine⟨_,rfl,rfl,?_⟩
     refine OW.p (PEv.assign (.t rfl)) rfl rfl (AW.done kQ (Ae (Aq ?_)))
     exact⟨(y,x%y),⟨by rw[←hg];exact(Cx x y).symm,hW⟩,tQ,by show x%y<y;exact cx _ oQ⟩
    skip
    refine⟨_,rfl,rfl,?_⟩
    refine OW.p (PEv.assign (.t rfl)) rfl rfl (AW.step (rs:=[2]) kQ cQ ?_)
    intro i hi
    obtain rfl:=aa.1 hi
    refine⟨_,rfl,rfl,?_⟩
    refine OW.p (PEv.mv rfl) rfl rfl (AW.step (rs:=[3]) kQ cQ ?_)
    intro i hi
    obtain rfl:=aa.1 hi
    refine⟨_,rfl,rfl,?_⟩
    refine OW.p (PEv.vl (v':=vu (x%y)) (PEv.rem (.t rfl) (.t rfl) oQ) (a_ (Go.Value.int .u64) (by rfl))) rfl rfl (AW.step (rs:=[5]) kQ cQ ?_)
    intro i hi
    obtain rfl:=aa.1 hi
    refine⟨_,rfl,rfl,?_⟩
    refine OW.p (PEv.assign (.t rfl)) rfl rfl (AW.done kQ (Ae (Aq ?_)))
    exact⟨(y,x%y),⟨by rw[←hg];exact(Cx x y).symm,hW⟩,tQ,by show x%y<y;exact cx _ oQ⟩
   skip
   refine⟨_,rfl,rfl,?_⟩
   refine OW.p (PEv.mv rfl) rfl rfl (AW.step (rs:=[0,3]) kQ cQ ?_)
   intro i hi
   simp only[ap,ba,b8]at hi
   rcases hi with rfl|rfl
   ·skip
    refine⟨_,rfl,rfl,?_⟩
    refine OW.p (PEv.mv rfl) rfl rfl (AW.step (rs:=[3,4]) kQ cQ ?_)
    intro i hi
    simp only[ap,ba,b8]at hi
    rcases hi with rfl|rfl
    ·skip
     refine⟨_,rfl,rfl,?_⟩
     refine OW.p (PEv.vl (v':=vu (x%y)) (PEv.rem (.t rfl) (.t rfl) oQ) (a_ (Go.Value.int .u64) (by rfl))) rfl rfl (AW.step (rs:=[4]) kQ cQ ?_)
     intro i hi
     obtain rfl:=aa.1 hi
     refine⟨_,rfl,rfl,?_⟩
     refine OW.p (PEv.assign (.t rfl)) rfl rfl (AW.step (rs:=[5]) kQ cQ ?_)
     intro i hi
     obtain rfl:=aa.1 hi
     refine⟨_,rfl,rfl,?_⟩
     refine OW.p (PEv.assign (.t rfl)) rfl rfl (AW.done kQ (Ae (Aq ?_)))
     exact⟨(y,x%y),⟨by rw[←hg];exact(Cx x y).symm,hW⟩,tQ,by show x%y<y;exact cx _ oQ⟩
    skip
    refine⟨_,rfl,rfl,?_⟩
    refine OW.p (PEv.assign (.t rfl)) rfl rfl (AW.step (rs:=[3]) kQ cQ ?_)
    intro i hi
    obtain rfl:=aa.1 hi
    refine⟨_,rfl,rfl,?_⟩
    refine OW.p (PEv.vl (v':=vu (x%y)) (PEv.rem (.t rfl) (.t rfl) oQ) (a_ (Go.Value.int .u64) (by rfl))) rfl rfl (AW.step (rs:=[5]) kQ cQ ?_)
    intro i hi
    obtain rfl:=aa.1 hi
    refine⟨_,rfl,rfl,?_⟩
    refine OW.p (PEv.assign (.t rfl)) rfl rfl (AW.done kQ (Ae (Aq ?_)))
    exact⟨(y,x%y),⟨by rw[←hg];exact(Cx x y).symm,hW⟩,tQ,by show x%y<y;exact cx _ oQ⟩
   skip
   refine⟨_,rfl,rfl,?_⟩
   refine OW.p (PEv.vl (v':=vu (x%y)) (PEv.rem (.t rfl) (.t rfl) oQ) (a_ (Go.Value.int .u64) (by rfl))) rfl rfl (AW.step (rs:=[0]) kQ cQ ?_)
   intro i hi
   obtain rfl:=aa.1 hi
   refine⟨_,rfl,rfl,?_⟩
   refine OW.p (PEv.mv rfl) rfl rfl (AW.step (rs:=[4]) kQ cQ ?_)
   intro i hi
   obtain rfl:=aa.1 hi
   refine⟨_,rfl,rfl,?_⟩
   refine OW.p (PEv.assign (.t rfl)) rfl rfl (AW.step (rs:=[5]) kQ cQ ?_)
   intro i hi
   obtain rfl:=aa.1 hi
   refine⟨_,rfl,rfl,?_⟩
   refine OW.p (PEv.assign (.t rfl)) rfl rfl (AW.done kQ (Ae (Aq ?_)))
   exact⟨(y,x%y),⟨by rw[←hg];exact(Cx x y).symm,hW⟩,tQ,by show x%y<y;exact cx _ oQ⟩
  skip
  refine⟨_,rfl,rfl,?_⟩
  refine OW.p (PEv.mv rfl) rfl rfl (AW.step (rs:=[0,1]) kQ cQ ?_)
  intro i hi
  simp only[ap,ba,b8]at hi
  rcases hi with rfl|rfl
  ·skip
   refine⟨_,rfl,rfl,?_⟩
   refine OW.p (PEv.mv rfl) rfl rfl (AW.step (rs:=[1]) kQ cQ ?_)
   intro i hi
   obtain rfl:=aa.1 hi
   refine⟨_,rfl,rfl,?_⟩
   refine OW.p (PEv.mv rfl) rfl rfl (AW.step (rs:=[3,4]) kQ cQ ?_)
   intro i hi
   simp only[ap,ba,b8]at hi
   rcases hi with rfl|rfl
   ·skip
    refine⟨_,rfl,rfl,?_⟩
    refine OW.p (PEv.vl (v':=vu (x%y)) (PEv.rem (.t rfl) (.t rfl) oQ) (a_ (Go.Value.int .u64) (by rfl))) rfl rfl (AW.step (rs:=[4]) kQ cQ ?_)
    intro i hi
    obtain rfl:=aa.1 hi
    refine⟨_,rfl,rfl,?_⟩
    refine OW.p (PEv.assign (.t rfl)) rfl rfl (AW.step (rs:=[5]) kQ cQ ?_)
    intro i hi
    obtain rfl:=aa.1 hi
    refine⟨_,rfl,rfl,?_⟩
    refine OW.p (PEv.assign (.t rfl)) rfl rfl (AW.done kQ (Ae (Aq ?_)))
    exact⟨(y,x%y),⟨by rw[←hg];exact(Cx x y).symm,hW⟩,tQ,by show x%y<y;exact cx _ oQ⟩
   skip
   refine⟨_,rfl,rfl,?_⟩
   refine OW.p (PEv.assign (.t rfl)) rfl rfl (AW.step (rs:=[3]) kQ cQ ?_)
   intro i hi
   obtain rfl:=aa.1 hi
   refine⟨_,rfl,rfl,?_⟩
   refine OW.p (PEv.vl (v':=vu (x%y)) (PEv.rem (.t rfl) (.t rfl) oQ) (a_ (Go.Value.int .u64) (by rfl))) rfl rfl (AW.step (rs:=[5]) kQ cQ ?_)
   intro i hi
   obtain rfl:=aa.1 hi
   refine⟨_,rfl,rfl,?_⟩
   refine OW.p (PEv.assign (.t rfl)) rfl rfl (AW.done kQ (Ae (Aq ?_)))
   exact⟨(y,x%y),⟨by rw[←hg];exact(Cx x y).symm,hW⟩,tQ,by show x%y<y;exact cx _ oQ⟩
  skip
  refine⟨_,rfl,rfl,?_⟩
  refine OW.p (PEv.mv rfl) rfl rfl (AW.step (rs:=[0,3]) kQ cQ ?_)
  intro i hi
  simp only[ap,ba,b8]at hi
  rcases hi with rfl|rfl
  ·skip
   refine⟨_,rfl,rfl,?_⟩
   refine OW.p (PEv.mv rfl) rfl rfl (AW.step (rs:=[3,4]) kQ cQ ?_)
   intro i hi
   simp only[ap,ba,b8]at hi
   rcases hi with rfl|rfl
   ·skip
    refine⟨_,rfl,rfl,?_⟩
    refine OW.p (PEv.vl (v':=vu (x%y)) (PEv.rem (.t rfl) (.t rfl) oQ) (a_ (Go.Value.int .u64) (by rfl))) rfl rfl (AW.step (rs:=[4]) kQ cQ ?_)
    intro i hi
    obtain rfl:=aa.1 hi
    refine⟨_,rfl,rfl,?_⟩
    refine OW.p (PEv.assign (.t rfl)) rfl rfl (AW.step (rs:=[5]) kQ cQ ?_)
    intro i hi
    obtain rfl:=aa.1 hi
    refine⟨_,rfl,rfl,?_⟩
    refine OW.p (PEv.assign (.t rfl)) rfl rfl (AW.done kQ (Ae (Aq ?_)))
    exact⟨(y,x%y),⟨by rw[←hg];exact(Cx x y).symm,hW⟩,tQ,by show x%y<y;exact cx _ oQ⟩
   skip
   refine⟨_,rfl,rfl,?_⟩
   refine OW.p (PEv.assign (.t rfl)) rfl rfl (AW.step (rs:=[3]) kQ cQ ?_)
   intro i hi
   obtain rfl:=aa.1 hi
   refine⟨_,rfl,rfl,?_⟩
   refine OW.p (PEv.vl (v':=vu (x%y)) (PEv.rem (.t rfl) (.t rfl) oQ) (a_ (Go.Value.int .u64) (by rfl))) rfl rfl (AW.step (rs:=[5]) kQ cQ ?_)
   intro i hi
   obtain rfl:=aa.1 hi
   refine⟨_,rfl,rfl,?_⟩
   refine OW.p (PEv.assign (.t rfl)) rfl rfl (AW.done kQ (Ae (Aq ?_)))
   exact⟨(y,x%y),⟨by rw[←hg];exact(Cx x y).symm,hW⟩,tQ,by show x%y<y;exact cx _ oQ⟩
  skip
  refine⟨_,rfl,rfl,?_⟩
  refine OW.p (PEv.vl (v':=vu (x%y)) (PEv.rem (.t rfl) (.t rfl) oQ) (a_ (Go.Value.int .u64) (by rfl))) rfl rfl (AW.step (rs:=[0]) kQ cQ ?_)
  intro i hi
  obtain rfl:=aa.1 hi
  refine⟨_,rfl,rfl,?_⟩
  refine OW.p (PEv.mv rfl) rfl rfl (AW.step (rs:=[4]) kQ cQ ?_)
  intro i hi
  obtain rfl:=aa.1 hi
  refine⟨_,rfl,rfl,?_⟩
  refine OW.p (PEv.assign (.t rfl)) rfl rfl (AW.step (rs:=[5]) kQ cQ ?_)
  intro i hi
  obtain rfl:=aa.1 hi
  refine⟨_,rfl,rfl,?_⟩
  refine OW.p (PEv.assign (.t rfl)) rfl rfl (AW.done kQ (Ae (Aq ?_)))
  exact⟨(y,x%y),⟨by rw[←hg];exact(Cx x y).symm,hW⟩,tQ,by show x%y<y;exact cx _ oQ⟩
 have hy0:y=0:=by simpa using h6
 refine A7 (Ad (Ad (Au (Ab (Af (Ac rfl (LW.A rfl (Ai (Aj (KW.q ?_))))))))))
 exact⟨by rw[←hg,hy0,Nat.gcd_zero_right],hW⟩
end Go.Proofs.YtbcnnkfopoiifaaGreatDoor
namespace Go.Wx
open Go.RowKit
section
variable (R:Option Nat)(m:Nat)(P:Program)(n:Nat)(ds:List Deferred)
def AWU(ops:Array Oper)(Q:Exit→Go.Act→World→Prop)(s:Nat)(l:Env)(w:World):Prop:=∀(fuel:Nat)(listed:Array Bool)(a:Go.Act),ops.size-s≤fuel→CP ops s listed→Ag n ds l a w→wpAnyIn (FR R) m P .any ops Q fuel listed a w
def TOp(ops:Array Oper)(env:Env)(w:World)(o:Oper)(Post:Value→World→Prop):Prop:=∀a,Ag n ds env a w→if Region.wanted o (yielded ops a.tmps)=true then eS P o a w Post else Post undef w
end
def I8(ops:Array Oper)(k:Nat):Bool:=
 (List.range ops.size).all fun i=> !Nat.ble (k+1) i||(match ops[i]? with|none=>false|some o=>o.after.any fun e=>Region.binds .any e&&Nat.ble k e.on)
def qF(n:Nat)(ops:Array Oper)(s k:Nat):Bool:=(List.range k).all fun i=> !Nat.ble s i||(match ops[i]? with
 |none=>false
 |some o=>match o.dst with
   |none=>false
   |some d=>Nat.ble (d+1) n&&(List.range k).all fun j=> !Nat.ble s j||(Nat.beq i j||(match ops[j]? with|none=>true|some p=> !(p.dst==some d))))
def kn(ops:Array Oper)(v:Nat→Value)(s:Nat)(o:Oper):Env:=o.after.toList.filterMap fun e=>if(Region.binds .any e&&Nat.ble s e.on)=true then((ops[e.on]?).bind (·.dst)).map fun d=>(d,.eq (v e.on))else none
def xD(ops:Array Oper)(v:Nat→Value)(s k:Nat):Env:=(List.range k).filterMap fun j=>if Nat.ble s j=true then((ops[j]?).bind (·.dst)).map fun d=>(d,.eq (v j))else none
theorem J2:∀{l:Env}{i:Nat}{ph:Ph},lk l i=some ph→(i,ph)∈l
 |[],_,_,h=>by cases h
 |(j,q)::l,i,ph,h=>by
   by_cases e:i=j
   · subst e;rw[Bk]at h;cases h;exact bp
   rw[Bl e]at h;exact bw _ (J2 h)
section
variable {R:Option Nat}{m:Nat}{P:Program}{n:Nat}{ds:List Deferred}{Q:Exit→Go.Act→World→Prop}{l:Env}{w:World}{ops:Array Oper}
theorem aR{k:Nat}(h:I8 ops k=true){i:Nat}{o:Oper}(ho:ops[i]?=some o)(hk:k<i):∃e∈o.after,Region.binds .any e=true∧k≤e.on:=by
 have hi:i<ops.size:=(bh.1 ho).1
 have h1:=b7.1 h i (bl.2 hi)
 have hb:Nat.ble (k+1) i=true:=eu hk
 simp only[ho,hb,gt,fo]at h1
 obtain⟨e,he,hh⟩:=ft.1 h1
 simp only[aw]at hh
 exact⟨_,d9 he,hh.1,ah hh.2⟩
theorem qG{s k:Nat}(h:qF n ops s k=true){i:Nat}{o:Oper}(hs:s≤i)(hk:i<k)(ho:ops[i]?=some o):∃d,o.dst=some d∧d<n∧∀(j:Nat)(p:Oper),s≤j→j<k→j≠i→ops[j]?=some p→p.dst≠some d:=by
 have h1:=b7.1 h i (bl.2 hk)
 have hb:Nat.ble s i=true:=eu hs
 simp only[hb,gt,fo,ho]at h1
 cases hd:o.dst with
 |none=>rw[hd]at h1;cases h1
 |some d=>
   rw[hd]at h1
   simp only[aw]at h1
   refine⟨d,rfl,ah h1.1,fun j p hj hjk hne hp=>?_⟩
   have h2:=b7.1 h1.2 j (bl.2 hjk)
   have hb':Nat.ble s j=true:=eu hj
   have hb2:Nat.beq i j=false:=by
     cases e:Nat.beq i j with
     |false=>rfl
     |true=>exact absurd (ci e).symm hne
   simp only[hb',gt,fo,hb2,hp]at h2
   intro e
   rw[e]at h2
   simp at h2
theorem JY{v:Nat→Value}{s:Nat}{o:Oper}{t:Nat}{ph:Ph}(h:lk (kn ops v s o) t=some ph):∃e∈o.after,Region.binds .any e=true∧s≤e.on∧∃p,ops[e.on]?=some p∧p.dst=some t∧ph=.eq (v e.on):=by
 have h1:=J2 h
 unfold kn at h1
 rw[ef]at h1
 obtain⟨e,he,h2⟩:=h1
 split at h2
 · rename_i hc
   simp only[aw]at hc
   cases hp:ops[e.on]? with
   |none=>rw[hp]at h2;cases h2
   |some p=>
     rw[hp]at h2
     cases hd:p.dst with
     |none=>simp[hd]at h2
     |some d=>
       simp[hd]at h2
       obtain⟨rfl,rfl⟩:=h2
       exact⟨e,by simpa using he,hc.1,ah hc.2,p,hp,hd,rfl⟩
 cases h2
theorem xE{v:Nat→Value}{s k:Nat}{t:Nat}{ph:Ph}(h:lk (xD ops v s k) t=some ph):∃j p,s≤j∧j<k∧ops[j]?=some p∧p.dst=some t∧ph=.eq (v j):=by
 have h1:=J2 h
 unfold xD at h1
 rw[ef]at h1
 obtain⟨j,hj,h2⟩:=h1
 split at h2
 · rename_i hc
   cases hp:ops[j]? with
   |none=>rw[hp]at h2;cases h2
   |some p=>
     rw[hp]at h2
     cases hd:p.dst with
     |none=>simp[hd]at h2
     |some d=>
       simp[hd]at h2
       obtain⟨rfl,rfl⟩:=h2
       exact⟨j,p,ah hc,bl.1 hj,hp,hd,rfl⟩
 cases h2
theorem Ga{id:Nat}{opsL:List Oper}(hm:P.follows .mixedOrders=true)(hl:Cf l=true)(h:AWU R m P n ds opsL.toArray Q 0 l w.drew):CW R m P n ds (.region id opsL.toArray true) Q l w:=fun a ha=>
 wpIn_region_any hm (h _ _ a (by simp) ⟨by simp,fun j hj=>by
   rw[aj,dr]
   split<;>rfl⟩ (ha.world hl _))
theorem xF{s k h1 h2:Nat}{base:Env}(v:Nat→Value)(St:Bool→Bool→World→Prop)(hA:Ea ops=true)(hC:Fm ops k=true)(hF:I8 ops k=true)(hks:Nat.ble (k+1) ops.size=true)(hsk:Nat.ble s k=true)(hne:Nat.beq h1 h2=false)
   (h1s:Nat.ble s h1=true)(h2s:Nat.ble s h2=true)(h1k:Nat.ble (h1+1) k=true)(h2k:Nat.ble (h2+1) k=true)
   (hD:qF n ops s k=true)(hbp:Cf base=true)(hbd:∀i ph,lk base i=some ph→∀(j:Nat)(o:Oper),s≤j→j<k→ops[j]?=some o→o.dst≠some i)
   (hl:∀i o,s≤i→i<k→i≠h1→i≠h2→ops[i]?=some o→∀b1 b2 W,St b1 b2 W→TOp P n ds ops (kn ops v s o++base) W o (fun r W'=>r=v i∧St b1 b2 W'))
   (hh1:∀o,ops[h1]?=some o→∀b W,St false b W→TOp P n ds ops (kn ops v s o++base) W o (fun r W'=>r=v h1∧St true b W'))
   (hh2:∀o,ops[h2]?=some o→∀b W,St b false W→TOp P n ds ops (kn ops v s o++base) W o (fun r W'=>r=v h2∧St b true W'))
   (hw:St false false w)(hend:∀W,St true true W→AWU R m P n ds ops Q k (xD ops v s k++base) W):AWU R m P n ds ops Q s base w:=by
 have hks:k<ops.size:=ah hks
 have hsk:s≤k:=ah hsk
 have h1s:s≤h1:=ah h1s
 have h2s:s≤h2:=ah h2s
 have h1k:h1<k:=ah h1k
 have h2k:h2<k:=ah h2k
 have hne:h1≠h2:=fun e=>by subst e;simp at hne
 suffices H:∀(fuel:Nat)(listed:Array Bool)(a:Go.Act)(W:World),listed.size=ops.size→listed.toList.countP (· ==false)≤fuel→(∀j,j<s→listed.getD j false=true)→(∀j,k≤j→j<ops.size→listed.getD j false=false)→Dn ops listed→Ag n ds base a W→
     (∀(j:Nat)(o:Oper)(d:Nat),s≤j→j<k→ops[j]?=some o→o.dst=some d→listed.getD j false=true→a.tmps.getD d undef=v j)→St (listed.getD h1 false) (listed.getD h2 false) W→wpAnyIn (FR R) m P .any ops Q fuel listed a W by
   intro fuel listed a hf hu ha
   have hno:∀j,s≤j→j<ops.size→listed.getD j false=false:=fun j h1 h2=>by rw[hu.2 j h2];simpa using h1
   have hyes:∀j,j<s→listed.getD j false=true:=fun j h1=>by rw[hu.2 j (by omega)];simpa using h1
   refine H fuel listed a w hu.1 ?_ hyes (fun j h1 h2=>hno j oQ h2) ?_ ha ?_ ?_
   · have e:listed.toList=listed.toList.take s++listed.toList.drop s:=(dg s _).symm
     rw[e,List.countP_append]
     have z1:(listed.toList.take s).countP (· ==false)=0:=by
       rw[et]
       intro b hb
       obtain⟨j,hj,he⟩:=fb.1 hb
       rw[j3]at he
       have hj':j<s:=by simp at hj;omega
       have hj2:j<listed.size:=by simp at hj;omega
       have:=hyes j hj'
       rw[aj]at this
       simp only[hj2,bm,b6]at this
       rw[←he]
       simp[this]
     have z2:(listed.toList.drop s).countP (· ==false)≤(listed.toList.drop s).length:=gi
     have z3:(listed.toList.drop s).length=ops.size-s:=by simp[hu.1]
     omega
   · intro i o ho hli e he hb
     have hi:i<ops.size:=(bh.1 ho).1
     have his:i<s:=by
       rcases dq i s with h|h
       · exact h
       rw[hno i h hi]at hli;cases hli
     exact hyes _ (by have:=D4 hA ho e he hb;omega)
   · intro j o d hj hjk ho _ hlj
     rw[hno j hj (by omega)]at hlj
     cases hlj
   rw[hno h1 h1s oQ,hno h2 h2s (by omega)]
   exact hw
 intro fuel
 induction fuel with
 |zero=>
   intro listed a W hs hc hyes hno hD ha hI hSt
   exfalso
   have h0:listed.toList.countP (· ==false)=0:=by omega
   rw[et]at h0
   have hlt:k<listed.size:=by omega
   have:=h0 listed[k] (by simp)
   have h1:=hno k (av _) hks
   rw[aj]at h1
   simp only[hlt,bm,b6]at h1
   rw[h1]at this
   simp at this
 |succ fuel ih=>
   intro listed a W hs hc hyes hno hDn ha hI hSt
   by_cases hall:∀j,j<k→listed.getD j false=true
   · rw[hall h1 h1k,hall h2 h2k]at hSt
     refine hend W hSt (fuel+1) listed a (O8 hs hc hno) ⟨hs,fun j hj=>?_⟩ ⟨ha.defers,ha.size,fun t q ht=>?_⟩
     · rcases dq j k with h|h
       · rw[hall j h,a8 h]
       rw[hno j h hj,bg (by omega)]
     rcases C3 ht with h|h
     · obtain⟨j,p,hj,hjk,hp,hd,rfl⟩:=xE h
       exact hI j p t hj hjk hp hd (hall j hjk)
     exact ha.val t q h
   simp only[gm]at hall
   obtain⟨c,hck,hcf⟩:=hall
   have hcf:listed.getD c false=false:=by simpa using hcf
   refine⟨fun hr=>?_,fun i hi=>?_⟩
   · exfalso
     obtain⟨i,hi⟩:=J1 hA (k:=k) oQ hs c hck hcf
     rw[hr]at hi
     cases hi
   obtain⟨o,hio,hbi,hed⟩:=(Fq hs).1 hi
   have hi':i<ops.size:=(bh.1 hio).1
   have hlt:i<listed.size:=by omega
   have hsi:s≤i:=by
     rcases dq i s with h|h
     · rw[hyes i h]at hbi;cases hbi
     exact h
   have hik:i<k:=by
     rcases dq i k with h|h
     · exact h
     exfalso
     by_cases e:i=k
     · subst e
       have:=Jz hC hDn hio hed (i-c) c rfl hck
       rw[hcf]at this;cases this
     obtain⟨e',he,hb,hon⟩:=aR hF hio oQ
     have h1:=hed e' he hb
     have h2:=D4 hA hio e' he hb
     rw[hno e'.on hon (by omega)]at h1
     cases h1
   obtain⟨d,hd,hdn,hdj⟩:=qG hD hsi hik hio
   have hag:Ag n ds (kn ops v s o++base) a W:=by
     refine⟨ha.defers,ha.size,fun t q ht=>?_⟩
     rcases C3 ht with h|h
     · obtain⟨e,he,hb,hse,p,hp,hpd,rfl⟩:=JY h
       exact hI e.on p t hse (by have:=D4 hA hio e he hb;omega) hp hpd (hed e he hb)
     exact ha.val t q h
   have key:∀(W':World),St ((listed.setIfInBounds i true).getD h1 false) ((listed.setIfInBounds i true).getD h2 false) W'→wpAnyIn (FR R) m P .any ops Q fuel (listed.setIfInBounds i true) (a.put o.dst (v i)) W':=by
     intro W' hSt'
     refine ih _ _ W' (by simpa using hs) (J0 hlt hbi hc) ?_ ?_ (Rr hlt hio hed hDn) ?_ ?_ hSt'
     · intro j hj
       rw[C5 hlt]
       split
       · rfl
       exact hyes j hj
     · intro j hj hjs
       rw[C5 hlt,ae (by omega)]
       exact hno j hj hjs
     · refine⟨by rw[hd];exact ha.defers,by rw[hd];simp[Go.Act.put,ha.size],fun t q ht=>?_⟩
       have hne':t≠d:=fun e=>hbd t q ht i o hsi hik hio (by rw[hd,e])
       rw[hd,Cv hne']
       exact Es hbp ht (ha.val t q ht)
     intro j p d' hj hjk hp hpd hl
     rw[hd]
     by_cases e:j=i
     · subst e
       rw[hio]at hp;cases hp
       rw[hd]at hpd;cases hpd
       rw[Dt (by rw[ha.size];exact hdn)]
     have hne':d'≠d:=fun ee=>hdj j p hj hjk e hp (by rw[hpd,ee])
     rw[Cv hne']
     rw[C5 hlt,ae e]at hl
     exact hI j p d' hj hjk hp hpd hl
   have top:TOp P n ds ops (kn ops v s o++base) W o (fun r W'=>r=v i∧St ((listed.setIfInBounds i true).getD h1 false) ((listed.setIfInBounds i true).getD h2 false) W'):=by
     rw[C5 hlt,C5 hlt]
     by_cases e1:h1=i
     · subst e1
       rw[ak rfl,ae (Ne.symm hne)]
       rw[hbi]at hSt
       exact hh1 o hio _ W hSt
     by_cases e2:h2=i
     · subst e2
       rw[ak rfl,ae e1]
       rw[hbi]at hSt
       exact hh2 o hio _ W hSt
     rw[ae e1,ae e2]
     exact hl i o hsi hik (Ne.symm e1) (Ne.symm e2) hio _ _ W hSt
   unfold wpOpIn
   rw[hio]
   dsimp only
   have top:=top a hag
   split
   · rename_i hw'
     rw[ak hw']at top
     exact Hp top fun r W' hp=>by rw[hp.1];exact key W' hp.2
   rename_i hw'
   rw[ae hw']at top
   refine⟨fun _ _=>trivial,?_⟩
   rw[top.1]
   exact key W top.2
def allL(p:Nat→Oper→Prop):Nat→List Oper→Prop
 |_,[]=>True
 |i,o::r=>p i o∧allL p (i+1) r
theorem allL.nil{p:Nat→Oper→Prop}{i:Nat}:allL p i []:=trivial
theorem allL.cons{p:Nat→Oper→Prop}{i:Nat}{o:Oper}{r:List Oper}(h:p i o)(k:allL p (i+1) r):allL p i (o::r):=⟨h,k⟩
abbrev aC:=@allL.cons
theorem allL.at{p:Nat→Oper→Prop}:∀{r:List Oper}{i j:Nat}{o:Oper},allL p i r→r[j]?=some o→p (i+j) o
 |[],_,_,_,_,h=>by cases h
 |x::r,i,0,o,hp,h=>by
   rw[List.getElem?_cons_zero]at h
   cases h;exact hp.1
 |x::r,i,j+1,o,hp,h=>by
   rw[gx]at h
   have:=allL.at hp.2 h
   rwa [show i+1+j=i+(j+1)by omega]at this
def K5(base:Env)(r:List Oper):Bool:=r.all fun o=>match o.dst with|none=>true|some d=>(lk base d).isNone
theorem Gz{base:Env}{r:List Oper}(h:K5 base r=true){i:Nat}{ph:Ph}(hi:lk base i=some ph){o:Oper}(ho:o∈r):o.dst≠some i:=by
 intro e
 have:=b7.1 h o ho
 simp[e,hi]at this
theorem qH{opsL:List Oper}(s k h1 h2:Nat)(v:Nat→Value)(St:Bool→Bool→World→Prop){base:Env}(hA:Ea opsL.toArray=true)(hC:Fm opsL.toArray k=true)(hF:I8 opsL.toArray k=true)(hks:Nat.ble (k+1) opsL.toArray.size=true)(hsk:Nat.ble s k=true)(hne:Nat.beq h1 h2=false)
   (h1s:Nat.ble s h1=true)(h2s:Nat.ble s h2=true)(h1k:Nat.ble (h1+1) k=true)(h2k:Nat.ble (h2+1) k=true)
   (hD:qF n opsL.toArray s k=true)(hbp:Cf base=true)(hbd:K5 base ((opsL.take k).drop s)=true)
   (hl:∀b1 b2 W,St b1 b2 W→allL (fun i o=>i≠h1→i≠h2→TOp P n ds opsL.toArray (kn opsL.toArray v s o++base) W o (fun r W'=>r=v i∧St b1 b2 W')) s ((opsL.take k).drop s))
   (o1 o2:Oper)(ho1:opsL[h1]?=some o1)(ho2:opsL[h2]?=some o2)
   (hh1:∀b W,St false b W→TOp P n ds opsL.toArray (kn opsL.toArray v s o1++base) W o1 (fun r W'=>r=v h1∧St true b W'))
   (hh2:∀b W,St b false W→TOp P n ds opsL.toArray (kn opsL.toArray v s o2++base) W o2 (fun r W'=>r=v h2∧St b true W'))
   (hw:St false false w)(hend:∀W,St true true W→AWU R m P n ds opsL.toArray Q k (xD opsL.toArray v s k++base) W):AWU R m P n ds opsL.toArray Q s base w:=by
 have sub:∀j o,s≤j→j<k→opsL.toArray[j]?=some o→((opsL.take k).drop s)[j-s]?=some o:=by
   intro j o hj hjk ho
   rw[eh,show s+(j-s)=j by omega,cz hjk]
   simpa using ho
 refine xF v St hA hC hF hks hsk hne h1s h2s h1k h2k hD hbp ?_ ?_ ?_ ?_ hw hend
 · intro i ph hi j o hj hjk ho
   exact Gz hbd hi (am (sub j o hj hjk ho))
 · intro i o hs hk n1 n2 ho b1 b2 W hSt
   have:=(hl b1 b2 W hSt).at (sub i o hs hk ho)
   rw[show s+(i-s)=i by omega]at this
   exact this n1 n2
 · intro o ho b W hSt
   have e:opsL[h1]?=some o:=by simpa using ho
   rw[ho1]at e;cases e
   exact hh1 b W hSt
 intro o ho b W hSt
 have e:opsL[h2]?=some o:=by simpa using ho
 rw[ho2]at e;cases e
 exact hh2 b W hSt
theorem TOp.p{env:Env}{o:Oper}{v:Value}{X:Value→World→Prop}(h:PEv P n ds env w o v)(hg:o.guard=none)(hx:X v w):TOp P n ds ops env w o X:=fun a ha=>by
 rw[ak (by simp[Region.wanted,hg])]
 exact .inl ⟨v,w,h a w ha (Up.refl w),hx⟩
theorem Iz{env:Env}{o:Oper}{v:Value}{X:Value→World→Prop}{j dj:Nat}{oj:Oper}{want:Bool}(hg:o.guard=some (j,want))(hj:ops[j]?=some oj)(hdj:oj.dst=some dj)(hdn:Nat.ble (dj+1) n=true)(hb:lk env dj=some (.eq (.bool want)))
   (h:PEv P n ds env w o v)(hx:X v w):TOp P n ds ops env w o X:=fun a ha=>by
 rw[ak (by rw[Et (o:=o) (ops:=ops) (a:=a) hg hj hdj (by rw[ha.size];exact ah hdn) (ha.val _ _ hb)];cases want<;>rfl)]
 exact .inl ⟨v,w,h a w ha (Up.refl w),hx⟩
theorem TOp.c{env:Env}{o:Oper}{f:FuncId}{args:Array Value}{Post X:Value→World→Prop}(he:∀a,Ag n ds env a w→(execOp a.eval o).run P w=.ok (.enter f args) w)(hg:o.guard=none)(hc:Ret P f args w Post)(hx:∀r w',Post r w'→X r w'):TOp P n ds ops env w o X:=fun a ha=>by
 rw[ak (by simp[Region.wanted,hg])]
 exact .inr ⟨f,args,w,he a ha,hc.mono hx⟩
theorem Pa{env:Env}{o:Oper}{f:FuncId}{args:Array Value}{Post X:Value→World→Prop}{j dj:Nat}{oj:Oper}{want:Bool}(hg:o.guard=some (j,want))(hj:ops[j]?=some oj)(hdj:oj.dst=some dj)(hdn:Nat.ble (dj+1) n=true)(hb:lk env dj=some (.eq (.bool want)))
   (he:∀a,Ag n ds env a w→(execOp a.eval o).run P w=.ok (.enter f args) w)(hc:Ret P f args w Post)(hx:∀r w',Post r w'→X r w'):TOp P n ds ops env w o X:=fun a ha=>by
 rw[ak (by rw[Et (o:=o) (ops:=ops) (a:=a) hg hj hdj (by rw[ha.size];exact ah hdn) (ha.val _ _ hb)];cases want<;>rfl)]
 exact .inr ⟨f,args,w,he a ha,hc.mono hx⟩
end
end Go.Wx
namespace Go.Wx
open Go.RowKit Go.MapKept
structure Cel(w w':World):Prop where
 size:w.heap.size≤w'.heap.size
 cell:∀ad v,w.cell? ad=some v→w'.cell? ad=some v
 blk:∀(b:Nat)(cs:Array Value)(T:TypeId)(x:Nat×Nat),w.heap[b]?=some (Obj.cells cs T x)→w'.heap[b]?=some (Obj.cells cs T x)
section
variable (R:Option Nat)(m:Nat)(P:Program)(n:Nat)(ds:List Deferred)
def OI(o:Oper)(a:Go.Act)(w:World)(Post:Value→World→Prop):Prop:=eS P o a w Post∨(∃w',(execOp a.eval o).run P w=.ok .skip w'∧Post undef w')
def TG(ops:Array Oper)(env:Env)(f:Nat→Value)(w:World)(o:Oper)(Post:Value→World→Prop):Prop:=∀a,Ag n ds env a w→(∀t,a.tmps.getD t undef=f t)→if Region.wanted o (yielded ops a.tmps)=true then OI P o a w Post else Post undef w
def AWF(ops:Array Oper)(Q:Exit→Go.Act→World→Prop)(s:Nat)(l:Env)(f:Nat→Value)(w:World):Prop:=∀(fuel:Nat)(listed:Array Bool)(a:Go.Act),ops.size-s≤fuel→CP ops s listed→Ag n ds l a w→(∀t,a.tmps.getD t undef=f t)→wpAnyIn (FR R) m P .any ops Q fuel listed a w
end
def Ht(n:Nat)(ops:Array Oper)(s k:Nat):Bool:=(List.range k).all fun i=> !Nat.ble s i||(match ops[i]? with
 |none=>false
 |some o=>match o.dst with
   |none=>true
   |some d=>Nat.ble (d+1) n&&(List.range k).all fun j=> !Nat.ble s j||(Nat.beq i j||(match ops[j]? with|none=>true|some p=> !(p.dst==some d))))
def Py(ops:Array Oper)(ph:Nat→Ph)(s:Nat)(o:Oper):Env:=o.after.toList.filterMap fun e=>if(Region.binds .any e&&Nat.ble s e.on)=true then((ops[e.on]?).bind (·.dst)).map fun d=>(d,ph e.on)else none
def Hu(ops:Array Oper)(ph:Nat→Ph)(s k:Nat):Env:=(List.range k).filterMap fun j=>if Nat.ble s j=true then((ops[j]?).bind (·.dst)).map fun d=>(d,ph j)else none
def OO(ops:Array Oper)(L:Nat→Bool):Prop:=∀(i:Nat)(o:Oper),ops[i]?=some o→L i=true→∀e∈o.after,Region.binds .any e=true→L e.on=true
def Dr(L:Nat→Bool)(i:Nat):Nat→Bool:=fun j=>if j=i then true else L j
def G0(f:Nat→Value)(d:Option Nat)(v:Value):Nat→Value:=fun t=>if d=some t then v else f t
section
variable {R:Option Nat}{m:Nat}{P:Program}{n:Nat}{ds:List Deferred}{Q:Exit→Go.Act→World→Prop}{l:Env}{w:World}{ops:Array Oper}
theorem D7{s k:Nat}(h:Ht n ops s k=true){i:Nat}{o:Oper}{d:Nat}(hs:s≤i)(hk:i<k)(ho:ops[i]?=some o)(hd:o.dst=some d):d<n∧∀(j:Nat)(p:Oper),s≤j→j<k→j≠i→ops[j]?=some p→p.dst≠some d:=by
 have h1:=b7.1 h i (bl.2 hk)
 have hb:Nat.ble s i=true:=eu hs
 simp only[hb,gt,fo,ho,hd]at h1
 simp only[aw]at h1
 refine⟨ah h1.1,fun j p hj hjk hne hp=>?_⟩
 have h2:=b7.1 h1.2 j (bl.2 hjk)
 have hb':Nat.ble s j=true:=eu hj
 have hb2:Nat.beq i j=false:=by
   cases e:Nat.beq i j with
   |false=>rfl
   |true=>exact absurd (ci e).symm hne
 simp only[hb',gt,fo,hb2,hp]at h2
 intro e
 rw[e]at h2
 simp at h2
theorem DB{ph:Nat→Ph}{s:Nat}{o:Oper}{t:Nat}{q:Ph}(h:lk (Py ops ph s o) t=some q):∃e∈o.after,Region.binds .any e=true∧s≤e.on∧∃p,ops[e.on]?=some p∧p.dst=some t∧q=ph e.on:=by
 have h1:=J2 h
 unfold Py at h1
 rw[ef]at h1
 obtain⟨e,he,h2⟩:=h1
 split at h2
 · rename_i hc
   simp only[aw]at hc
   cases hp:ops[e.on]? with
   |none=>rw[hp]at h2;cases h2
   |some p=>
     rw[hp]at h2
     cases hd:p.dst with
     |none=>simp[hd]at h2
     |some d=>
       simp[hd]at h2
       obtain⟨rfl,rfl⟩:=h2
       exact⟨e,by simpa using he,hc.1,ah hc.2,p,hp,hd,rfl⟩
 cases h2
theorem F2{ph:Nat→Ph}{s k:Nat}{t:Nat}{q:Ph}(h:lk (Hu ops ph s k) t=some q):∃j p,s≤j∧j<k∧ops[j]?=some p∧p.dst=some t∧q=ph j:=by
 have h1:=J2 h
 unfold Hu at h1
 rw[ef]at h1
 obtain⟨j,hj,h2⟩:=h1
 split at h2
 · rename_i hc
   cases hp:ops[j]? with
   |none=>rw[hp]at h2;cases h2
   |some p=>
     rw[hp]at h2
     cases hd:p.dst with
     |none=>simp[hd]at h2
     |some d=>
       simp[hd]at h2
       obtain⟨rfl,rfl⟩:=h2
       exact⟨j,p,ah hc,bl.1 hj,hp,hd,rfl⟩
 cases h2
theorem qI{o:Oper}{a:Go.Act}{Post:Value→World→Prop}{K:Go.Act→World→Prop}{w:World}(h:OI P o a w Post)(hk:∀v w',Post v w'→K (a.put o.dst v) w'):o.wpIn (FR R) m P a w K Q:=by
 rcases h with h|⟨w',hr,hp⟩
 · exact Hp h hk
 exact Sh hr (hk _ w' hp)
theorem Kl{s k:Nat}{base:Env}(ph:Nat→Ph)(Rel:World→World→Prop)(Inv:(Nat→Bool)→(Nat→Value)→World→Prop){f0:Nat→Value}
   (hrefl:∀w,Rel w w)(htr:∀w w1 w2,Rel w w1→Rel w1 w2→Rel w w2)(hph:∀i v w w',(ph i).holds v w→Rel w w'→(ph i).holds v w')
   (hA:Ea ops=true)(hC:(Nat.beq k ops.size||Fm ops k)=true)(hF:I8 ops k=true)(hks:Nat.ble k ops.size=true)(hsk:Nat.ble s k=true)
   (hD:Ht n ops s k=true)(hbp:Cf base=true)(hbd:∀i ph,lk base i=some ph→∀(j:Nat)(o:Oper),s≤j→j<k→ops[j]?=some o→o.dst≠some i)
   (hop:∀i o,s≤i→i<k→ops[i]?=some o→∀L f W,Rel w W→OO ops L→L i=false→(∀e∈o.after,Region.binds .any e=true→L e.on=true)→Inv L f W→
     TG P n ds ops (Py ops ph s o++base) f W o (fun v W'=>Rel W W'∧(∀d,o.dst=some d→(ph i).holds v W')∧Inv (Dr L i) (G0 f o.dst v) W'))
   (hw:Inv (fun j=>decide (j<s)) f0 w)(hend:∀f W,Rel w W→Inv (fun j=>decide (j<k)) f W→AWF R m P n ds ops Q k (Hu ops ph s k++base) f W):AWF R m P n ds ops Q s base f0 w:=by
 have hks:k≤ops.size:=ah hks
 have hsk:s≤k:=ah hsk
 suffices H:∀(fuel:Nat)(listed:Array Bool)(a:Go.Act)(f:Nat→Value)(W:World),listed.size=ops.size→listed.toList.countP (· ==false)≤fuel→(∀j,j<s→listed.getD j false=true)→(∀j,k≤j→j<ops.size→listed.getD j false=false)→Dn ops listed→Ag n ds base a W→(∀t,a.tmps.getD t undef=f t)→Rel w W→
     (∀(j:Nat)(o:Oper)(d:Nat),s≤j→j<k→ops[j]?=some o→o.dst=some d→listed.getD j false=true→(ph j).holds (f d) W)→Inv (fun j=>listed.getD j false) f W→wpAnyIn (FR R) m P .any ops Q fuel listed a W by
   intro fuel listed a hf hu ha hsl
   have hno:∀j,s≤j→j<ops.size→listed.getD j false=false:=fun j h1 h2=>by rw[hu.2 j h2];simpa using h1
   have hyes:∀j,j<s→listed.getD j false=true:=fun j h1=>by rw[hu.2 j (by omega)];simpa using h1
   refine H fuel listed a f0 w hu.1 ?_ hyes (fun j h1 h2=>hno j oQ h2) ?_ ha hsl (hrefl w) ?_ ?_
   · have e:listed.toList=listed.toList.take s++listed.toList.drop s:=(dg s _).symm
     rw[e,List.countP_append]
     have z1:(listed.toList.take s).countP (· ==false)=0:=by
       rw[et]
       intro b hb
       obtain⟨j,hj,he⟩:=fb.1 hb
       rw[j3]at he
       have hj':j<s:=by simp at hj;omega
       have hj2:j<listed.size:=by simp at hj;omega
       have:=hyes j hj'
       rw[aj]at this
       simp only[hj2,bm,b6]at this
       rw[←he]
       simp[this]
     have z2:(listed.toList.drop s).countP (· ==false)≤(listed.toList.drop s).length:=gi
     have z3:(listed.toList.drop s).length=ops.size-s:=by simp[hu.1]
     omega
   · intro i o ho hli e he hb
     have hi:i<ops.size:=(bh.1 ho).1
     have his:i<s:=by
       rcases dq i s with h|h
       · exact h
       rw[hno i h hi]at hli;cases hli
     exact hyes _ (by have:=D4 hA ho e he hb;omega)
   · intro j o d hj hjk ho _ hlj
     rw[hno j hj (by omega)]at hlj
     cases hlj
   have e:(fun j=>listed.getD j false)=fun j=>decide (j<s):=by
     funext j
     rcases dq j ops.size with h|h
     · exact hu.2 j h
     have:=hu.1
     rw[aj,i4 oQ,bg (by omega)]
     rfl
   rw[e]
   exact hw
 have last:∀(fuel:Nat)(listed:Array Bool)(a:Go.Act)(f:Nat→Value)(W:World),listed.size=ops.size→listed.toList.countP (· ==false)≤fuel→(∀j,k≤j→j<ops.size→listed.getD j false=false)→Ag n ds base a W→(∀t,a.tmps.getD t undef=f t)→Rel w W→
     (∀(j:Nat)(o:Oper)(d:Nat),s≤j→j<k→ops[j]?=some o→o.dst=some d→listed.getD j false=true→(ph j).holds (f d) W)→Inv (fun j=>listed.getD j false) f W→(∀j,j<k→listed.getD j false=true)→wpAnyIn (FR R) m P .any ops Q fuel listed a W:=by
   intro fuel listed a f W hs hc hno ha hsl hR hI hSt hall
   have e:(fun j=>listed.getD j false)=fun j=>decide (j<k):=by
     funext j
     rcases dq j k with h|h
     · rw[hall j h,a8 h]
     rcases dq j ops.size with h'|h'
     · rw[hno j h h',bg (by omega)]
     rw[aj,i4 oQ,bg (by omega)]
     rfl
   rw[e]at hSt
   refine hend f W hR hSt fuel listed a (O8 hs hc hno) ⟨hs,fun j hj=>congrFun e j⟩ ⟨ha.defers,ha.size,fun t q ht=>?_⟩ hsl
   rcases C3 ht with h|h
   · obtain⟨j,p,hj,hjk,hp,hd,rfl⟩:=F2 h
     rw[hsl]
     exact hI j p t hj hjk hp hd (hall j hjk)
   exact ha.val t q h
 intro fuel
 induction fuel with
 |zero=>
   intro listed a f W hs hc hyes hno hDn ha hsl hR hI hSt
   refine last 0 listed a f W hs hc hno ha hsl hR hI hSt (fun j hj=>?_)
   have h0:listed.toList.countP (· ==false)=0:=by omega
   rw[et]at h0
   have hlt:j<listed.size:=by omega
   have:=h0 listed[j] (by simp)
   rw[aj]
   simp only[hlt,bm,b6]
   simpa using this
 |succ fuel ih=>
   intro listed a f W hs hc hyes hno hDn ha hsl hR hI hSt
   by_cases hall:∀j,j<k→listed.getD j false=true
   · exact last (fuel+1) listed a f W hs hc hno ha hsl hR hI hSt hall
   simp only[gm]at hall
   obtain⟨c,hck,hcf⟩:=hall
   have hcf:listed.getD c false=false:=by simpa using hcf
   refine⟨fun hr=>?_,fun i hi=>?_⟩
   · exfalso
     obtain⟨i,hi⟩:=J1 hA (k:=k) oQ hs c hck hcf
     rw[hr]at hi
     cases hi
   obtain⟨o,hio,hbi,hed⟩:=(Fq hs).1 hi
   have hi':i<ops.size:=(bh.1 hio).1
   have hlt:i<listed.size:=by omega
   have hsi:s≤i:=by
     rcases dq i s with h|h
     · rw[hyes i h]at hbi;cases hbi
     exact h
   have hik:i<k:=by
     rcases dq i k with h|h
     · exact h
     exfalso
     by_cases e:i=k
     · subst e
       rcases Bool.or_eq_true_iff.1 hC with hC|hC
       · have:=ci hC;omega
       have:=Jz hC hDn hio hed (i-c) c rfl hck
       rw[hcf]at this;cases this
     obtain⟨e',he,hb,hon⟩:=aR hF hio oQ
     have h1:=hed e' he hb
     have h2:=D4 hA hio e' he hb
     rw[hno e'.on hon (by omega)]at h1
     cases h1
   have hag:Ag n ds (Py ops ph s o++base) a W:=by
     refine⟨ha.defers,ha.size,fun t q ht=>?_⟩
     rcases C3 ht with h|h
     · obtain⟨e,he,hb,hse,p,hp,hpd,rfl⟩:=DB h
       rw[hsl]
       exact hI e.on p t hse (by have:=D4 hA hio e he hb;omega) hp hpd (hed e he hb)
     exact ha.val t q h
   have eL:(fun j=>(listed.setIfInBounds i true).getD j false)=Dr (fun j=>listed.getD j false) i:=by
     funext j
     rw[C5 hlt]
     rfl
   have key:∀(v:Value)(W':World),Rel W W'∧(∀d,o.dst=some d→(ph i).holds v W')∧Inv (Dr (fun j=>listed.getD j false) i) (G0 f o.dst v) W'→wpAnyIn (FR R) m P .any ops Q fuel (listed.setIfInBounds i true) (a.put o.dst v) W':=by
     rintro v W' ⟨hRel,hv,hSt'⟩
     refine ih _ _ (G0 f o.dst v) W' (by simpa using hs) (J0 hlt hbi hc) ?_ ?_ (Rr hlt hio hed hDn) ?_ ?_ (htr _ _ _ hR hRel) ?_ (by rw[eL];exact hSt')
     · intro j hj
       rw[C5 hlt]
       split
       · rfl
       exact hyes j hj
     · intro j hj hjs
       rw[C5 hlt,ae (by omega)]
       exact hno j hj hjs
     · cases hd:o.dst with
       |none=>exact ha.world hbp W'
       |some d=>
         refine⟨ha.defers,by simp[Go.Act.put,ha.size],fun t q ht=>?_⟩
         have hne':t≠d:=fun e=>hbd t q ht i o hsi hik hio (by rw[hd,e])
         rw[Cv hne']
         exact Es hbp ht (ha.val t q ht)
     · intro t
       cases hd:o.dst with
       |none=>exact hsl t
       |some d=>
         by_cases e:t=d
         · subst e
           rw[Dt (by rw[ha.size];exact(D7 hD hsi hik hio hd).1)]
           simp[G0]
         rw[Cv e,hsl]
         simp[G0,Ne.symm e]
     intro j p d' hj hjk hp hpd hl
     by_cases e:j=i
     · subst e
       rw[hio]at hp;cases hp
       rw[hpd]
       simp only[G0,if_true]
       exact hv d' hpd
     rw[C5 hlt,ae e]at hl
     have hne':o.dst≠some d':=fun ee=>(D7 hD hsi hik hio ee).2 j p hj hjk e hp hpd
     simp only[G0,ae hne']
     exact hph j _ _ _ (hI j p d' hj hjk hp hpd hl) hRel
   have top:=hop i o hsi hik hio _ f W hR (fun i o ho hli e he hb=>hDn i o ho hli e he hb) hbi hed hSt
   have top:=top a hag hsl
   unfold wpOpIn
   rw[hio]
   dsimp only
   split
   · rename_i hw'
     rw[ak hw']at top
     exact qI top key
   rename_i hw'
   rw[ae hw']at top
   exact⟨fun _ _=>trivial,key _ W top⟩
theorem Cel.refl(w:World):Cel w w:=⟨av _,fun _ _ h=>h,fun _ _ _ _ h=>h⟩
theorem Cel.trans{w w1 w2:World}(h:Cel w w1)(k:Cel w1 w2):Cel w w2:=⟨bb h.size k.size,fun ad v hv=>k.cell ad v (h.cell ad v hv),fun b cs T x hb=>k.blk b cs T x (h.blk b cs T x hb)⟩
theorem Up.H9{w w':World}(u:Up w w'):Cel w w':=⟨u.size,fun _ _ h=>Yn h u,fun _ _ _ _ h=>(u.block (lt_of_block h)).trans h⟩
theorem Sto.H9{w w':World}{b:Nat}(u:Sto b w w')(hz:w.heap.size≤w'.heap.size)(hb:∀ad v,ad.block=b→w.cell? ad≠some v)(hk:∀(cs:Array Value)(T:TypeId)(x:Nat×Nat),w.heap[b]?≠some (Obj.cells cs T x)):Cel w w':=⟨hz,fun ad v h=>Z6 h u (fun e=>hb ad v e h),fun i cs T x h=>(u.block i (lt_of_block h) (fun e=>hk cs T x (e▸h))).trans h⟩
theorem IMap.DC{w:World}{b:Nat}{kv:List (Int×Value)}(h:IMap w b kv):∀ad v,ad.block=b→w.cell? ad≠some v:=by
 intro ad v e hc
 obtain⟨es,clock,h1,_⟩:=h
 unfold World.cell? at hc
 rw[e,h1]at hc
 cases hc
theorem IMap.JZ{w:World}{b:Nat}{kv:List (Int×Value)}(h:IMap w b kv):∀(cs:Array Value)(T:TypeId)(x:Nat×Nat),w.heap[b]?≠some (Obj.cells cs T x):=by
 intro cs T x hc
 obtain⟨es,clock,h1,_⟩:=h
 rw[h1]at hc
 cases hc
theorem AggAt.H9{w w':World}{B o:Nat}{cs:Array Value}(h:AggAt w B o cs)(k:Cel w w'):AggAt w' B o cs:=fun j v hv=>k.cell _ _ (h j v hv)
theorem Els.H9{α:Type}{w w':World}{ad:Option Addr}{k:Nat}{enc:α→Array Value}{xs:List α}(h:Els w ad k enc xs)(u:Cel w w'):Els w' ad k enc xs:=fun i x hx=>let⟨B,o,h1,h2⟩:=h i x hx;⟨B,o,h1,h2.H9 u⟩
theorem Sl.H9{α:Type}{w w':World}{v:Value}{k:Nat}{enc:α→Array Value}{xs:List α}(h:Sl w v k enc xs)(u:Cel w w'):Sl w' v k enc xs:=let⟨ad,c,h1,h2⟩:=h;⟨ad,c,h1,Els.H9 h2 u⟩
theorem SEv.insert{ty:TypeId}{ps:String}{af:Array Edge}{g:Option (Nat×Bool)}{T K E:TypeId}{mo x y:Operand}{b:Nat}{k:Int}{v:Value}{kv:List (Int×Value)}(hT:P.underlying T=some (.map K E))(hK:P.underlying K=some (.int .i64))(hm:Val l mo (.map (some b)))(hx:Val l x (vi k))(hy:Val l y v)(h:IMap w b kv):
   SEv P n ds l w ⟨none,.insert T mo x y,ty,ps,af,g⟩ (fun w'=>IMap w' b (Hn kv k v)∧Sto b w w'∧w'.heap.size=w.heap.size):=fun a ha=>
 SEv.mapUpdate (ty:=ty) (ps:=ps) (af:=af) (g:=g) hT hK hm hx hy h a ha
def KA(m0 ms:Nat)(J:List (Nat×Int×Nat))(w0:World)(L:Nat→Bool)(f:Nat→Value)(W:World):Prop:=
 Up w0 W∧(L m0=true→∃b kv,f ms=.map (some b)∧w0.heap.size≤b∧IMap W b kv∧kv.Perm ((J.filter fun j=>L j.1).map fun j=>(j.2.1,f j.2.2)))
def Qe(ops:Array Oper)(m0:Nat)(J:List (Nat×Int×Nat)):Bool:=
 J.all fun j=>match ops[j.1]? with
   |none=>false
   |some o=>o.dst.isNone&&(o.after.any fun e=>Region.binds .any e&&Nat.beq e.on m0)&&(o.after.any fun e=>Region.binds .any e&&(match ops[e.on]? with|none=>false|some p=>p.dst==some j.2.2))
theorem Hv{m0:Nat}{J:List (Nat×Int×Nat)}(h:Qe ops m0 J=true){j:Nat×Int×Nat}(hj:j∈J):∃o,ops[j.1]?=some o∧o.dst=none∧(∃e∈o.after,Region.binds .any e=true∧e.on=m0)∧∃e∈o.after,Region.binds .any e=true∧∃p,ops[e.on]?=some p∧p.dst=some j.2.2:=by
 have h1:=b7.1 h j hj
 cases ho:ops[j.1]? with
 |none=>simp[ho]at h1
 |some o=>
   simp only[ho,aw]at h1
   obtain⟨⟨h2,h3⟩,h4⟩:=h1
   obtain⟨e,he,hh⟩:=ft.1 h3
   simp only[aw]at hh
   obtain⟨e',he',hh'⟩:=ft.1 h4
   simp only[aw]at hh'
   refine⟨o,rfl,by simpa using h2,⟨_,d9 he,hh.1,ci hh.2⟩,⟨_,d9 he',hh'.1,?_⟩⟩
   have h5:=hh'.2
   split at h5
   · cases h5
   rename_i p hp
   exact⟨p,hp,by simpa using h5⟩
theorem Uc{J:List (Nat×Int×Nat)}{L:Nat→Bool}{i:Nat}(hn:i∉J.map (·.1)):(J.filter fun j=>Dr L i j.1)=J.filter fun j=>L j.1:=by
 apply h_
 intro j hj
 have:j.1≠i:=fun e=>hn (e▸aq.2 ⟨j,hj,rfl⟩)
 simp[Dr,this]
theorem Ud:∀{J:List (Nat×Int×Nat)}{L:Nat→Bool}{i:Nat}{k:Int}{s:Nat},(J.map (·.1)).Nodup→(i,k,s)∈J→L i=false→(J.filter fun j=>Dr L i j.1).Perm ((i,k,s)::J.filter fun j=>L j.1)
 |[],_,_,_,_,_,h,_=>by cases h
 |x::r,L,i,k,s,hn,h,hL=>by
   obtain⟨h1,h2⟩:=gk.1 (by simpa using hn:(x.1::r.map (·.1)).Nodup)
   rcases ap.1 h with rfl|h
   · rw[de,de,ak (by simp[Dr]),ae (by simp[hL]),Uc h1]
   have hne:x.1≠i:=fun e=>h1 (e▸aq.2 ⟨_,h,rfl⟩)
   have e:Dr L i x.1=L x.1:=by simp[Dr,hne]
   have ih:=Ud h2 h hL
   rw[de,de,e]
   split
   · exact(List.Perm.cons _ ih).trans (List.Perm.swap _ _ _)
   exact ih
theorem aS{kv:List (Int×Value)}{k:Int}{v:Value}(h:k∉kv.map (·.1)):Hn kv k v=kv++[(k,v)]:=by rw[Hn,ae h]
theorem xG{J:List (Nat×Int×Nat)}(hn:(J.map (·.2.1)).Nodup){x y:Nat×Int×Nat}(hx:x∈J)(hy:y∈J)(h:x.2.1=y.2.1):x=y:=by
 obtain⟨i,hi,rfl⟩:=fb.1 hx
 obtain⟨j,hj,rfl⟩:=fb.1 hy
 have:=(jn (i:=i) (j:=j) (h₀:=by simpa using hi) (h₁:=by simpa using hj) hn).1 (by simpa using h)
 subst this;rfl
theorem AWF.fJ{k m0 ms T K E:Nat}{base:Env}{J:List (Nat×Int×Nat)}(ph:Nat→Ph){f0:Nat→Value}(hT:P.underlying T=some (.map K E))(hK:P.underlying K=some (.int .i64))
   (hph:∀i v w w',(ph i).holds v w→Cel w w'→(ph i).holds v w')(hA:Ea ops=true)(hC:(Nat.beq k ops.size||Fm ops k)=true)(hF:I8 ops k=true)(hks:Nat.ble k ops.size=true)
   (hD:Ht n ops 0 k=true)(hbp:Cf base=true)(hbd:∀i ph,lk base i=some ph→∀(j:Nat)(o:Oper),0≤j→j<k→ops[j]?=some o→o.dst≠some i)
   (hlit:Qe ops m0 J=true)(hJi:(J.map (·.1)).Nodup)(hJk:(J.map (·.2.1)).Nodup)(hJl:∀j∈J,j.1<k)(hm0k:m0<k)
   (hm0:∃ty ps,ops[m0]?=some ⟨some ms,.makeMap T none,ty,ps,#[],none⟩)
   (hins:∀j∈J,∃ty ps af,ops[j.1]?=some ⟨none,.insert T (.tmp ms) (.const (vi j.2.1)) (.tmp j.2.2),ty,ps,af,none⟩)
   (hmp:∀b W,(ph m0).holds (.map (some b)) W)
   (hop:∀i o,i<k→i≠m0→i∉J.map (·.1)→ops[i]?=some o→o.guard=none∧∀W,Cel w W→∀a,Ag n ds (Py ops ph 0 o++base) a W→eS P o a W (fun v W'=>Up W W'∧(ph i).holds v W'))
   (hend:∀f W b kv,Up w W→f ms=.map (some b)→IMap W b kv→kv.Perm (J.map fun j=>(j.2.1,f j.2.2))→AWF R m P n ds ops Q k (Hu ops ph 0 k++base) f W):AWF R m P n ds ops Q 0 base f0 w:=by
 refine Kl ph Cel (KA m0 ms J w) Cel.refl (fun _ _ _=>Cel.trans) hph hA hC hF hks (by simp) hD hbp hbd ?_ ⟨Up.refl w,fun h=>by simp at h⟩ ?_
 · intro i o _ hik hio L f W hRel hDn hLi hed hInv
   obtain⟨hUp,hInv⟩:=hInv
   by_cases e0:i=m0
   · subst e0
     obtain⟨ty,ps,hm0⟩:=hm0
     rw[hio]at hm0;cases hm0
     intro a ha hsl
     rw[ak (by simp[Region.wanted])]
     obtain⟨v,W',hr,b,rfl,hM,hu,hb,hz⟩:=REv.makeMap (P:=P) (n:=n) (ds:=ds) (l:=Py ops ph 0 _++base) (w:=W) (d:=some ms) (ty:=ty) (ps:=ps) (af:=#[]) (g:=none) a ha
     refine .inl (.inl ⟨_,W',hr,hu.H9,fun _ _=>hmp b W',hUp.trans hu,fun _=>⟨b,[],?_,?_,hM,?_⟩⟩)
     · simp[G0]
     · have:=hUp.size;omega
     have:(J.filter fun j=>Dr L i j.1)=[]:=by
       rw[f_]
       intro j hj
       obtain⟨oj,hoj,_,⟨e,he,hbe,hon⟩,_⟩:=Hv hlit hj
       intro hLj
       have hne:j.1≠i:=fun e'=>by
         have:=D4 hA hoj e he hbe
         omega
       have:L j.1=true:=by simpa[Dr,hne]using hLj
       have:=hDn _ _ hoj this e he hbe
       rw[hon,hLi]at this;cases this
     rw[this];exact List.Perm.nil
   by_cases ej:i∈J.map (·.1)
   · obtain⟨⟨i',key,s⟩,hj,rfl⟩:=aq.1 ej
     obtain⟨ty,ps,af,ho⟩:=hins _ hj
     rw[hio]at ho;cases ho
     intro a ha hsl
     rw[ak (by simp[Region.wanted])]
     obtain⟨oj,hoj,_,⟨e,he,hbe,hon⟩,⟨e',he',hbe',p,hp,hpd⟩⟩:=Hv hlit hj
     rw[hio]at hoj;cases hoj
     obtain⟨b,kv,h1,hb,hM,hperm⟩:=hInv (by rw[←hon];exact hed e he hbe)
     have hag:Ag n ds [(s,.eq (f s)),(ms,.eq (.map (some b)))] a W:=by
       refine⟨ha.defers,ha.size,fun t q ht=>?_⟩
       by_cases e1:t=s
       · subst e1;rw[Bk]at ht;cases ht;exact hsl _
       rw[Bl e1]at ht
       by_cases e2:t=ms
       · subst e2;rw[Bk]at ht;cases ht;exact(hsl _).trans h1
       rw[Bl e2]at ht;cases ht
     have vm:Val [(s,.eq (f s)),(ms,.eq (.map (some b)))] (.tmp ms) (.map (some b)):=by
       by_cases e1:ms=s
       · subst e1;exact .tmp (by rw[Bk,h1])
       exact .tmp (by rw[Bl e1,Bk])
     obtain⟨W',hr,hM',hsto,hz⟩:=SEv.insert (P:=P) (n:=n) (ds:=ds) (w:=W) (ty:=ty) (ps:=ps) (af:=af) (g:=none) hT hK vm (.const (vi key)) (.tmp Bk) hM a hag
     have hnk:key∉kv.map (·.1):=by
       intro hmem
       have:=(hperm.map (·.1)).mem_iff.1 hmem
       rw[f5]at this
       obtain⟨j',hj',hk'⟩:=aq.1 this
       obtain⟨hj1,hj2⟩:=bx.1 hj'
       have:j'=(i',key,s):=xG hJk hj1 hj hk'
       rw[this,hLi]at hj2
       cases hj2
     rw[aS hnk]at hM'
     refine .inr ⟨W',hr,hsto.H9 oQ hM.DC hM.JZ,(fun d hd=>by cases hd),hUp.sto hsto hb,fun _=>⟨b,_,h1,hb,hM',?_⟩⟩
     have:=((Ud hJi hj hLi).map fun j=>(j.2.1,f j.2.2))
     refine List.Perm.trans ?_ this.symm
     rw[cy]
     exact(List.perm_append_comm).trans (List.Perm.cons _ hperm)
   obtain⟨hg,hop⟩:=hop i o hik e0 ej hio
   intro a ha hsl
   rw[ak (by simp[Region.wanted,hg])]
   have done:∀v W',Up W W'∧(ph i).holds v W'→Cel W W'∧(∀d,o.dst=some d→(ph i).holds v W')∧KA m0 ms J w (Dr L i) (G0 f o.dst v) W':=by
     rintro v W' ⟨hu,hv⟩
     refine⟨hu.H9,fun _ _=>hv,hUp.trans hu,fun hm=>?_⟩
     have hm':L m0=true:=by simpa[Dr,Ne.symm e0]using hm
     obtain⟨b,kv,h1,hb,hM,hperm⟩:=hInv hm'
     refine⟨b,kv,?_,hb,hM.up hu,?_⟩
     · obtain⟨ty,ps,hm0⟩:=hm0
       have:o.dst≠some ms:=by
         intro ed
         exact(D7 hD (ao _) hik hio ed).2 m0 _ (ao _) hm0k (Ne.symm e0) hm0 rfl
       simpa[G0,this]using h1
     rw[Uc ej]
     have:((J.filter fun j=>L j.1).map fun j=>(j.2.1,G0 f o.dst v j.2.2))=(J.filter fun j=>L j.1).map fun j=>(j.2.1,f j.2.2):=by
       refine fu fun j hj=>?_
       obtain⟨hj1,hj2⟩:=bx.1 hj
       obtain⟨oj,hoj,_,_,⟨e',he',hbe',p,hp,hpd⟩⟩:=Hv hlit hj1
       have hne:o.dst≠some j.2.2:=by
         intro ed
         have h2:=hDn _ _ hoj hj2 e' he' hbe'
         have h3:=D4 hA hoj e' he' hbe'
         by_cases ee:e'.on=i
         · rw[ee,hLi]at h2;cases h2
         exact(D7 hD (ao _) hik hio ed).2 e'.on p (ao _) (by have:=hJl j hj1;omega) ee hp hpd
       simp[G0,hne]
     rw[this]
     exact hperm
   rcases hop W hRel a ha with⟨v,W',hr,hp⟩|⟨fn,args,w1,hr,hc⟩
   · exact .inl (.inl ⟨v,W',hr,done v W' hp⟩)
   exact .inl (.inr ⟨fn,args,w1,hr,hc.mono done⟩)
 intro f W hRel hInv
 obtain⟨hUp,hInv⟩:=hInv
 obtain⟨b,kv,h1,_,h2,h3⟩:=hInv (by simpa using hm0k)
 refine hend f W b kv hUp h1 h2 ?_
 rwa [f9.2 (fun j hj=>by simpa using hJl j hj)]at h3
def PhC(q:Ph):Prop:=∀v w w',q.holds v w→Cel w w'→q.holds v w'
theorem PhC.eq(v:Value):PhC (.eq v):=fun _ _ _ h _=>h
theorem PhC.pred{p:Value→World→Prop}(h:∀v w w',p v w→Cel w w'→p v w'):PhC (.pred p):=h
def allC:List Ph→Prop
 |[]=>True
 |q::r=>PhC q∧allC r
theorem allC.at:∀{l:List Ph},allC l→∀i,PhC (l.getD i (.eq undef))
 |[],_,_=>by simpa using PhC.eq undef
 |_::_,h,0=>by simpa using h.1
 |_::_,h,i+1=>by simpa using allC.at h.2 i
theorem Hw:∀{l r:Env}{t:Nat},lk l t=none→lk (l++r) t=lk r t
 |[],_,_,_=>rfl
 |(j,q)::l,r,t,h=>by
   by_cases e:t=j
   · subst e;rw[Bk]at h;cases h
   rw[Bl e]at h
   rw[fl,Bl e]
   exact Hw h
theorem Km:∀{l r:Env}{t:Nat}{q:Ph},lk l t=some q→lk (l++r) t=some q
 |[],_,_,_,h=>by cases h
 |(j,q')::l,r,t,q,h=>by
   by_cases e:t=j
   · subst e;rw[Bk]at h;cases h;rw[fl,Bk]
   rw[Bl e]at h
   rw[fl,Bl e]
   exact Km h
theorem Hj:∀{l:Env}{t:Nat}{q:Ph},(t,q)∈l→∃q',lk l t=some q'
 |[],_,_,h=>by cases h
 |(j,q')::l,t,q,h=>by
   by_cases e:t=j
   · subst e;exact⟨q',Bk⟩
   rw[Bl e]
   rcases ap.1 h with h|h
   · cases h;exact absurd rfl e
   exact Hj h
def TU(P:Program)(n:Nat)(ds:List Deferred)(env:Env)(W:World)(o:Oper)(q:Ph):Prop:=∀a,Ag n ds env a W→eS P o a W (fun v W'=>Up W W'∧q.holds v W')
theorem TU.p{env:Env}{o:Oper}{v:Value}{q:Ph}(h:PEv P n ds env w o v)(hx:q.holds v w):TU P n ds env w o q:=fun a ha=>.inl ⟨v,w,h a w ha (Up.refl w),Up.refl w,hx⟩
theorem TU.r{env:Env}{o:Oper}{q:Ph}{Post:Value→World→Prop}(h:REv P n ds env w o Post)(hx:∀v W',Post v W'→Up w W'∧q.holds v W'):TU P n ds env w o q:=fun a ha=>
 let⟨v,W',hr,hp⟩:=h a ha
 .inl ⟨v,W',hr,hx v W' hp⟩
theorem TU.c{env:Env}{o:Oper}{q:Ph}{f:FuncId}{args:Array Value}{Post:Value→World→Prop}(he:∀a,Ag n ds env a w→(execOp a.eval o).run P w=.ok (.enter f args) w)(hc:Ret P f args w Post)(hx:∀v W',Post v W'→Up w W'∧q.holds v W'):TU P n ds env w o q:=fun a ha=>
 .inr ⟨f,args,w,he a ha,hc.mono hx⟩
theorem TU.open{env:Env}{o:Oper}{q:Ph}{d:Nat}{p:Value→World→Prop}(hp:lk env d=some (.pred p))(h:∀v,p v w→TU P n ds ((d,.eq v)::env) w o q):TU P n ds env w o q:=fun a ha=>
 h _ (ha.val d _ hp) a ⟨ha.defers,ha.size,fun i ph hi=>by
   by_cases e:i=d
   · subst e
     rw[Bk]at hi
     cases hi
     rfl
   rw[Bl e]at hi
   exact ha.val i ph hi⟩
theorem mB{id:Nat}{opsL:List Oper}(k m0 ms:Nat)(J:List (Nat×Int×Nat))(phs:List Ph){T K E:Nat}(hT:P.underlying T=some (.map K E))(hK:P.underlying K=some (.int .i64))(hm:P.follows .mixedOrders=true)(hl:Cf l=true)
   (hA:Ea opsL.toArray=true)(hC:(Nat.beq k opsL.toArray.size||Fm opsL.toArray k)=true)(hF:I8 opsL.toArray k=true)(hks:Nat.ble k opsL.toArray.size=true)(hD:Ht n opsL.toArray 0 k=true)(hlit:Qe opsL.toArray m0 J=true)(hTl:Hq opsL.toArray k=true)
   (hfree:K5 l (opsL.take k)=true)(hJ:(decide (J.map (·.1)).Nodup&&(decide (J.map (·.2.1)).Nodup&&(J.all fun j=>Nat.ble (j.1+1) k)&&Nat.ble (m0+1) k))=true)
   (hm0:∃ty ps,opsL[m0]?=some ⟨some ms,.makeMap T none,ty,ps,#[],none⟩)(hph:allC phs)(hmp:∀b W,(phs.getD m0 (.eq undef)).holds (.map (some b)) W)
   (hop:∀W,Cel w.drew W→allL (fun i o=>(i=m0∨(J.any fun j=>Nat.beq j.1 i)=true∧∀j∈J,j.1=i→∃ty ps af,o=⟨none,.insert T (.tmp ms) (.const (vi j.2.1)) (.tmp j.2.2),ty,ps,af,none⟩)∨(o.guard=none∧(J.any fun j=>Nat.beq j.1 i)=false∧TU P n ds (Py opsL.toArray (fun i=>phs.getD i (.eq undef)) 0 o++l) W o (phs.getD i (.eq undef)))) 0 (opsL.take k))
   (hend:∀W b kv(g:Nat→Value),Up w.drew W→IMap W b kv→kv.Perm (J.map fun j=>(j.2.1,g j.2.2))→(∀i o d,i<k→opsL[i]?=some o→o.dst=some d→(phs.getD i (.eq undef)).holds (g d) W)→LW R m P n ds opsL.toArray Q (opsL.drop k) ((ms,.eq (.map (some b)))::l) W):
   CW R m P n ds (.region id opsL.toArray true) Q l w:=by
 simp only[aw,fi]at hJ
 obtain⟨hJi,⟨hJk,hJl⟩,hm0k⟩:=hJ
 have hks':k≤opsL.length:=by have:=ah hks;simp at this;omega
 have hJl':∀j∈J,j.1<k:=fun j hj=>ah (b7.1 hJl j hj)
 have sub:∀j o,j<k→opsL.toArray[j]?=some o→(opsL.take k)[j]?=some o:=fun j o hjk ho=>by
   rw[cz hjk];simpa using ho
 have hbd:∀i ph,lk l i=some ph→∀(j:Nat)(o:Oper),0≤j→j<k→opsL.toArray[j]?=some o→o.dst≠some i:=fun i ph hi j o _ hjk ho=>Gz hfree hi (am (sub j o hjk ho))
 have any_iff:∀i,(J.any fun j=>Nat.beq j.1 i)=true↔i∈J.map (·.1):=fun i=>by
   rw[fm,aq]
   exact⟨fun⟨j,hj,h⟩=>⟨j,hj,ci h⟩,fun⟨j,hj,h⟩=>⟨j,hj,by rw[h];simp⟩⟩
 refine Ga hm hl fun fuel listed a hf hu ha=>(AWF.fJ (T:=T) (K:=K) (E:=E) (m0:=m0) (ms:=ms) (J:=J) (k:=k) (fun i=>phs.getD i (.eq undef)) (f0:=fun t=>a.tmps.getD t undef) hT hK (fun i v w w' h u=>(hph.at i) v w w' h u) hA hC hF hks hD hl hbd hlit hJi hJk hJl' (ah hm0k) (by simpa using hm0) ?_ hmp ?_ ?_ fuel listed a hf hu ha (fun _=>rfl))
 · intro j hj
   obtain⟨oj,hoj,_⟩:=Hv hlit hj
   have:=(hop w.drew (Cel.refl _)).at (sub j.1 oj (hJl' j hj) hoj)
   rw[dp]at this
   rcases this with(e|⟨_,h⟩)|⟨_,h,_⟩
   · exfalso
     obtain⟨ty,ps,hm0⟩:=hm0
     obtain⟨o',ho',hd',_⟩:=Hv hlit hj
     rw[e]at ho'
     have:opsL[m0]?=some o':=by simpa using ho'
     rw[hm0]at this;cases this;cases hd'
   · obtain⟨ty,ps,af,ho⟩:=h j hj rfl
     exact⟨ty,ps,af,by rw[hoj,ho]⟩
   rw[(any_iff j.1).2 (aq.2 ⟨j,hj,rfl⟩)]at h;cases h
 · intro i o hik hne hnj ho
   have h0:=(hop w.drew (Cel.refl _)).at (sub i o hik ho)
   rw[dp]at h0
   rcases h0 with(e|⟨h,_⟩)|⟨hg,_,_⟩
   · exact absurd e hne
   · exact absurd ((any_iff i).1 h) hnj
   refine⟨hg,fun W hW a ha=>?_⟩
   have h1:=(hop W hW).at (sub i o hik ho)
   rw[dp]at h1
   rcases h1 with(e|⟨h,_⟩)|⟨_,_,h⟩
   · exact absurd e hne
   · exact absurd ((any_iff i).1 h) hnj
   exact h a ha
 intro f W b kv hUp hfm hM hperm fuel' listed' a' hf' hu' ha' hsl'
 have key:∀i o d,i<k→opsL[i]?=some o→o.dst=some d→(phs.getD i (.eq undef)).holds (f d) W:=by
   intro i o d hik ho hd
   have ho':opsL.toArray[i]?=some o:=by simpa using ho
   have hmem:(d,phs.getD i (.eq undef))∈Hu opsL.toArray (fun i=>phs.getD i (.eq undef)) 0 k:=by
     unfold Hu
     rw[ef]
     exact⟨i,bl.2 hik,by rw[ak (by simp),ho'];simp[hd]⟩
   obtain⟨q',hq⟩:=Hj hmem
   obtain⟨j,p,_,hjk,hp,hpd,e⟩:=F2 hq
   have:j=i:=by
     by_cases ee:j=i
     · exact ee
     exact absurd hpd ((D7 hD (ao _) hik ho' hd).2 j p (ao _) hjk ee hp)
   subst this
   have:=ha'.val d q' (Km hq)
   rw[hsl',e]at this
   exact this
 refine Gb hTl hA (opsL.toArray.size-k) k fuel' listed' a' W rfl (by simp;omega) (av _) hf' hu' ?_
 have h2:=hend W b kv f hUp hM hperm key
 refine h2 a' ⟨ha'.defers,ha'.size,fun t q ht=>?_⟩
 by_cases e:t=ms
 · subst e;rw[Bk]at ht;cases ht
   exact(hsl' _).trans hfm
 rw[Bl e]at ht
 refine ha'.val t q ?_
 rw[Hw]
 · exact ht
 cases hq:lk (Hu opsL.toArray (fun i=>phs.getD i (.eq undef)) 0 k) t with
 |none=>rfl
 |some q'=>
   obtain⟨j,p,_,hjk,hp,hpd,_⟩:=F2 hq
   exact absurd hpd (hbd t q ht j p (ao _) hjk hp)
theorem PEv.Ek{d:Option Tmp}{ty:TypeId}{ps:String}{af:Array Edge}{g:Option (Nat×Bool)}{T K E:TypeId}{mo x:Operand}{b:Nat}{k:Int}{v:Value}{kv:List (Int×Value)}{ok:Bool}(hT:P.underlying T=some (.map K E))(hK:P.underlying K=some (.int .i64))(hm:Val l mo (.map (some b)))(hx:Val l x (vi k))(h:IMap w b kv)(hkv:(k,v)∈kv):
   PEv P n ds l w ⟨d,.lookup T mo x ok,ty,ps,af,g⟩ (if ok then .tuple #[v,.bool true]else v):=fun a w' ha hu=>by
 obtain⟨es,clock,hb,hs,he⟩:=h.up hu
 have hk:IsKey (.int .i64) (vi k):=rfl
 refine Cp ?_
 rw[ha.ev hm,ha.ev hx]
 rcases findNow_spec hk es.toList 0 (Ie he)with⟨h1,h2⟩|⟨j,e,h1,h2,h3⟩
 · exfalso
   obtain⟨x',hx',hkx,_⟩:=Eu he hkv
   exact h2 x' hx' hkx
 obtain⟨x',hx',hkx,hvx⟩:=Eu he hkv
 have hv:e.val=v:=by
   have:=Ev (g_.1 hs.2.2) (am h2) hx' (by rw[h3,hkx])
   rw[this];exact hvx
 cases ok<;>simp[Instr.lookup,run_underlying hT,MapKept.run_getObj_map hb,MapKept.run_checkKey hK hk,MapKept.run_findKey hK h1,Result.andThen,hv]
theorem PEv.Ha{d:Option Tmp}{ty:TypeId}{ps:String}{af:Array Edge}{g:Option (Nat×Bool)}{T K E:TypeId}{mo x:Operand}{b:Nat}{k:Int}{z:Value}{kv:List (Int×Value)}{ok:Bool}(hT:P.underlying T=some (.map K E))(hK:P.underlying K=some (.int .i64))(hz:∀w,(zeroValue E).run P w=.ok z w)(hm:Val l mo (.map (some b)))(hx:Val l x (vi k))(h:IMap w b kv)(hkv:k∉kv.map (·.1)):
   PEv P n ds l w ⟨d,.lookup T mo x ok,ty,ps,af,g⟩ (if ok then .tuple #[z,.bool false]else z):=fun a w' ha hu=>by
 obtain⟨es,clock,hb,hs,he⟩:=h.up hu
 have hk:IsKey (.int .i64) (vi k):=rfl
 refine Cp ?_
 rw[ha.ev hm,ha.ev hx]
 rcases findNow_spec hk es.toList 0 (Ie he)with⟨h1,h2⟩|⟨j,e,h1,h2,h3⟩
 · cases ok<;>simp[Instr.lookup,run_underlying hT,MapKept.run_getObj_map hb,MapKept.run_checkKey hK hk,MapKept.run_findKey hK h1,Result.andThen,hz]
 exfalso
 obtain⟨k',hk',hkv'⟩:=Gf he e (am h2)
 have:k'=k:=eV (hk'.symm.trans h3)
 exact hkv (aq.2 ⟨_,hkv',this⟩)
theorem KB{base done:Env}{w0:World}{o:Oper}{rest:List Oper}{K:Env→Prop}{d:Nat}{p:Value→World→Prop}{f:FuncId}{args:Array Value}(hp:∀v w w',p v w→Up w w'→p v w')(he:∀a w,Up w0 w→Ag n ds (Bo (o.looksAt ops) done++base) a w→(execOp a.eval o).run P w=.ok (.enter f args) w)(hg:o.guard=none)(hd:o.dst=some d)
   (hc:∀w,Up w0 w→Ret P f args w fun v w'=>Up w w'∧p v w')(k:HW P n ds ops base w0 ((d,.pred p)::done) rest K):HW P n ds ops base w0 done (o::rest) K:=
 ⟨.pred p,d,hd,hp,fun a w hu ha=>by
   rw[ak (by simp[Region.wanted,hg])]
   exact .inr ⟨f,args,w,he a w hu ha,(hc w hu).mono fun v w'⟨h1,h2⟩=>⟨h1,h2⟩⟩,k⟩
def SlT{α:Type}(e:TypeId)(w:World)(v:Value)(k:Nat)(enc:α→Array Value)(xs:List α):Prop:=Sl w v k enc xs∧∀B o n c,v=.slice (some ⟨B,o,none⟩) n c→∃cs x,w.heap[B]?=some (Obj.cells cs e x)
theorem SlT.H9{α:Type}{e:TypeId}{w w':World}{v:Value}{k:Nat}{enc:α→Array Value}{xs:List α}(h:SlT e w v k enc xs)(u:Cel w w'):SlT e w' v k enc xs:=⟨h.1.H9 u,fun B o n c hv=>let⟨cs,x,hb⟩:=h.2 B o n c hv;⟨cs,x,u.blk _ _ _ _ hb⟩⟩
theorem SlT.up{α:Type}{e:TypeId}{w w':World}{v:Value}{k:Nat}{enc:α→Array Value}{xs:List α}(h:SlT e w v k enc xs)(u:Up w w'):SlT e w' v k enc xs:=h.H9 u.H9
theorem SlT.lit{α:Type}{T:TypeId}{w w':World}{k:Nat}{enc:α→Array Value}{xs:List α}{v:Value}(h:NewSl w T k enc xs v w'):SlT T w' v k enc xs:=by
 have h2:=h.q.2
 obtain⟨B,cs,rfl,N,_,_⟩:=h
 exact⟨h2,fun B' o n c hv=>by cases hv;exact⟨cs,_,N.blk⟩⟩
theorem SlT.own{α:Type}{base:Nat}{e:TypeId}{w:World}{v:Value}{k:Nat}{enc:α→Array Value}{xs:List α}(h:OwnS w base e k enc v xs)(hk:∀x,(enc x).size=k):SlT e w v k enc xs:=by
 refine⟨h.sl hk,fun B o n c hv=>?_⟩
 obtain⟨_,h2⟩:=h
 rcases h2 with⟨rfl,_⟩|⟨g,cap,cur,rfl,hb,hg,_⟩
 · cases hv
 cases hv;exact⟨_,_,hg⟩
theorem Ck{α:Type}(e:TypeId)(k:Nat)(enc:α→Array Value)(xs:List α):PhC (.pred fun v w=>SlT e w v k enc xs):=fun _ _ _ h u=>SlT.H9 h u
end
end Go.Wx
namespace Go.Wx
open Go.RowKit
structure KeepT(T:TypeId)(w w':World):Prop where
 size:w.heap.size≤w'.heap.size
 obj:∀(b:Nat)(o:Obj),w.heap[b]?=some o→(∀cs x,o≠Obj.cells cs T x)→w'.heap[b]?=some o
theorem KeepT.refl(T:TypeId)(w:World):KeepT T w w:=⟨av _,fun _ _ h _=>h⟩
theorem KeepT.trans{T:TypeId}{w w1 w2:World}(h:KeepT T w w1)(k:KeepT T w1 w2):KeepT T w w2:=⟨bb h.size k.size,fun b o hb hn=>k.obj b o (h.obj b o hb hn) hn⟩
theorem Up.Da{T:TypeId}{w w':World}(u:Up w w'):KeepT T w w':=⟨u.size,fun _ _ h _=>(u.block (lt_of_block h)).trans h⟩
theorem Sto.Da{T:TypeId}{w w':World}{B:Nat}{cs:Array Value}(u:Sto B w w')(hz:w.heap.size≤w'.heap.size)(hb:Blk w B cs T):KeepT T w w':=⟨hz,fun b o h hn=>by
 by_cases e:b=B
 · subst e;unfold Blk at hb;rw[hb]at h;cases h;exact absurd rfl (hn _ _)
 exact(u.block b (lt_of_block h) e).trans h⟩
theorem Blk.Da{T e:TypeId}{w w':World}{B:Nat}{cs:Array Value}(h:Blk w B cs e)(hne:Nat.beq e T=false)(u:KeepT T w w'):Blk w' B cs e:=u.obj _ _ h (fun _ _ e'=>by cases e';simp at hne)
theorem IMap.Da{T:TypeId}{w w':World}{b:Nat}{kv:List (Int×Value)}(h:IMap w b kv)(u:KeepT T w w'):IMap w' b kv:=by
 obtain⟨es,clock,h1,h2⟩:=h
 exact⟨es,clock,u.obj _ _ h1 (fun _ _ e=>by cases e),h2⟩
theorem SlT.Da{α:Type}{e T:TypeId}{w w':World}{v:Value}{k:Nat}{enc:α→Array Value}{xs:List α}(h:SlT e w v k enc xs)(hne:Nat.beq e T=false)(u:KeepT T w w'):SlT e w' v k enc xs:=by
 have hne:e≠T:=fun e'=>by rw[e']at hne;simp at hne
 obtain⟨⟨ad,c,rfl,hE⟩,ht⟩:=h
 have keep:∀B o,ad=some ⟨B,o,none⟩→∃cs x,w.heap[B]?=some (Obj.cells cs e x)∧w'.heap[B]?=some (Obj.cells cs e x):=fun B o hB=>by
   obtain⟨cs,x,hb⟩:=ht B o _ _ (by rw[hB])
   exact⟨cs,x,hb,u.obj _ _ hb (fun _ _ e'=>by cases e';exact hne rfl)⟩
 refine⟨⟨ad,c,rfl,fun i x hx=>?_⟩,fun B o n c' hv=>?_⟩
 · obtain⟨B,o,hB,hA⟩:=hE i x hx
   obtain⟨cs,y,h1,h2⟩:=keep B o hB
   refine⟨B,o,hB,fun j v hv=>?_⟩
   have:=hA j v hv
   unfold World.cell? at this⊢
   rw[h1]at this
   rw[h2]
   exact this
 cases hv
 obtain⟨cs,x,h1,h2⟩:=keep B o rfl
 exact⟨cs,x,h2⟩
section
variable {R:Option Nat}{m:Nat}{P:Program}{n:Nat}{ds:List Deferred}{Q:Exit→Go.Act→World→Prop}{l:Env}{w:World}{ops:Array Oper}
def xH(ia is sa sv:Nat)(T:TypeId)(z:Array Value)(w0:World)(L:Nat→Bool)(f:Nat→Value)(W:World):Prop:=
 Up w0 W∧(L is=true→L ia=true)∧(L ia=true→∃B,f sa=.pointer (some ⟨B,0,none⟩)∧w0.heap.size≤B∧Blk W B (if L is=true then(f sv).cells else z) T)
theorem AWF.box{k ia is isv sa sv:Nat}{T:TypeId}{z:Array Value}{base:Env}(ph:Nat→Ph){f0:Nat→Value}(hz:∀w,(zeroValue T).run P w=.ok (.agg z) w)(hs:∀w,(sizeOf T).run P w=.ok z.size w)
   (hph:∀i v w w',(ph i).holds v w→KeepT T w w'→(ph i).holds v w')(hA:Ea ops=true)(hC:(Nat.beq k ops.size||Fm ops k)=true)(hF:I8 ops k=true)(hks:Nat.ble k ops.size=true)
   (hD:Ht n ops 0 k=true)(hbp:Cf base=true)(hbd:∀i ph,lk base i=some ph→∀(j:Nat)(o:Oper),0≤j→j<k→ops[j]?=some o→o.dst≠some i)
   (hlit:Qe ops ia [(is,0,sv)]=true)(hik:is<k)(hiak:ia<k)(hne:ia≠is)
   (hia:∃ty ps af,ops[ia]?=some ⟨some sa,.alloc T,ty,ps,af,none⟩)(his:∃ty ps af,ops[is]?=some ⟨none,.store T (.tmp sa) (.tmp sv),ty,ps,af,none⟩)
   (hlk:∀o,ops[is]?=some o→lk (Py ops ph 0 o++base) sv=some (ph isv))(hsv:∀v W,(ph isv).holds v W→∃cs,v=.agg cs∧cs.size=z.size∧cs.all (·.oneCell')=true)
   (hpa:∀B W,(ph ia).holds (.pointer (some ⟨B,0,none⟩)) W)
   (hop:∀i o,i<k→i≠ia→i≠is→ops[i]?=some o→o.guard=none∧∀W,KeepT T w W→∀a,Ag n ds (Py ops ph 0 o++base) a W→eS P o a W (fun v W'=>Up W W'∧(ph i).holds v W'))
   (hend:∀f W B,Up w W→f sa=.pointer (some ⟨B,0,none⟩)→w.heap.size≤B→Blk W B (f sv).cells T→AWF R m P n ds ops Q k (Hu ops ph 0 k++base) f W):AWF R m P n ds ops Q 0 base f0 w:=by
 obtain⟨os,hos,hods,⟨e,he,hbe,hon⟩,⟨e',he',hbe',pv,hpv,hpvd⟩⟩:=Hv hlit bp
 refine Kl ph (KeepT T) (xH ia is sa sv T z w) (KeepT.refl T) (fun _ _ _=>KeepT.trans) hph hA hC hF hks (by simp) hD hbp hbd ?_ ⟨Up.refl w,fun h=>by simp at h,fun h=>by simp at h⟩ ?_
 · intro i o _ hi hio L f W hRel hDn hLi hed hInv
   obtain⟨hUp,hsa,hInv⟩:=hInv
   by_cases e0:i=ia
   · subst e0
     obtain⟨ty,ps,af,hia⟩:=hia
     rw[hio]at hia;cases hia
     intro a ha hsl
     rw[ak (by simp[Region.wanted])]
     obtain⟨v,W',hr,B,rfl,N⟩:=REv.Bi (P:=P) (n:=n) (ds:=ds) (l:=Py ops ph 0 _++base) (w:=W) (d:=some sa) (ty:=ty) (ps:=ps) (af:=af) (g:=none) hz a ha
     have hLs:L is=false:=by
       cases h:L is with
       |false=>rfl
       |true=>rw[hsa h]at hLi;cases hLi
     refine .inl (.inl ⟨_,W',hr,N.up.Da,fun _ _=>hpa B W',hUp.trans N.up,fun _=>by simp[Dr],fun _=>⟨B,by simp[G0],by rw[N.at_];exact hUp.size,?_⟩⟩)
     have:Dr L i is=false:=by simp[Dr,Ne.symm hne,hLs]
     rw[this]
     exact N.blk
   by_cases e1:i=is
   · subst e1
     have hLa:L ia=true:=by rw[hos]at hio;cases hio;rw[←hon];exact hed e he hbe
     obtain⟨ty,ps,af,his⟩:=his
     rw[hio]at his;cases his
     intro a ha hsl
     rw[ak (by simp[Region.wanted])]
     obtain⟨B,h1,hB,hblk⟩:=hInv hLa
     rw[hLi]at hblk
     obtain⟨cs,hcs,hcz,hc1⟩:=hsv _ W (ha.val sv _ (hlk _ hio))
     have hfs:f sv=.agg cs:=by rw[←hsl];exact hcs
     have hag:Ag n ds [(sv,.eq (.agg cs)),(sa,.eq (.pointer (some ⟨B,0,none⟩)))] a W:=by
       refine⟨ha.defers,ha.size,fun t q ht=>?_⟩
       by_cases e1:t=sv
       · subst e1;rw[Bk]at ht;cases ht;exact hcs
       rw[Bl e1]at ht
       by_cases e2:t=sa
       · subst e2;rw[Bk]at ht;cases ht;exact(hsl _).trans h1
       rw[Bl e2]at ht;cases ht
     have hsn:sa≠sv:=fun e'=>by rw[e',hfs]at h1;cases h1
     obtain⟨W',hr,hset⟩:=SEv.A5 (P:=P) (n:=n) (ds:=ds) (w:=W) (l:=[(sv,.eq (.agg cs)),(sa,.eq (.pointer (some ⟨B,0,none⟩)))]) (x:=.tmp sa) (y:=.tmp sv) (ty:=ty) (ps:=ps) (af:=af) (g:=none) hs hcz (.tmp (by rw[Bl hsn,Bk])) (.tmp Bk) hc1 hblk (by simp) a hag
     refine .inr ⟨W',hr,hset.sto.Da (by rw[hset.size];exact av _) hblk,(fun d hd=>by cases hd),hUp.sto hset.sto hB,fun _=>by simp[Dr,hLa],fun _=>⟨B,h1,hB,?_⟩⟩
     have h2:Dr L i i=true:=by simp[Dr]
     rw[h2,ak rfl]
     show Blk W' B (f sv).cells T
     rw[hfs]
     exact hset.blk
   obtain⟨hg,hop⟩:=hop i o hi e0 e1 hio
   intro a ha hsl
   rw[ak (by simp[Region.wanted,hg])]
   have done:∀v W',Up W W'∧(ph i).holds v W'→KeepT T W W'∧(∀d,o.dst=some d→(ph i).holds v W')∧xH ia is sa sv T z w (Dr L i) (G0 f o.dst v) W':=by
     rintro v W' ⟨hu,hv⟩
     have ela:Dr L i ia=L ia:=by simp[Dr,Ne.symm e0]
     have els:Dr L i is=L is:=by simp[Dr,Ne.symm e1]
     refine⟨hu.Da,fun _ _=>hv,hUp.trans hu,fun h=>by rw[ela];rw[els]at h;exact hsa h,fun hm=>?_⟩
     rw[ela]at hm
     obtain⟨B,h1,hB,hblk⟩:=hInv hm
     have hn1:o.dst≠some sa:=by
       obtain⟨ty,ps,af,hia⟩:=hia
       intro ed
       exact(D7 hD (ao _) hi hio ed).2 ia _ (ao _) hiak (Ne.symm e0) hia rfl
     refine⟨B,by simpa[G0,hn1]using h1,hB,?_⟩
     rw[els]
     cases hLs:L is with
     |false=>rw[hLs]at hblk;exact hblk.up hu
     |true=>
       rw[hLs]at hblk
       have hn2:o.dst≠some sv:=by
         intro ed
         have h2:=hDn _ _ hos hLs e' he' hbe'
         have h3:=D4 hA hos e' he' hbe'
         by_cases ee:e'.on=i
         · rw[ee,hLi]at h2;cases h2
         exact(D7 hD (ao _) hi hio ed).2 e'.on pv (ao _) (by have:e'.on<is:=h3;omega) ee hpv hpvd
       have h4:G0 f o.dst v sv=f sv:=by simp[G0,hn2]
       rw[h4]
       exact hblk.up hu
   rcases hop W hRel a ha with⟨v,W',hr,hp⟩|⟨fn,args,w1,hr,hc⟩
   · exact .inl (.inl ⟨v,W',hr,done v W' hp⟩)
   exact .inl (.inr ⟨fn,args,w1,hr,hc.mono done⟩)
 intro f W hRel hInv
 obtain⟨hUp,_,hInv⟩:=hInv
 obtain⟨B,h1,hB,h2⟩:=hInv (by simpa using hiak)
 rw[ak (by simpa using hik)]at h2
 exact hend f W B hUp h1 hB h2
def PhT(T:TypeId)(q:Ph):Prop:=∀v w w',q.holds v w→KeepT T w w'→q.holds v w'
theorem PhT.eq(T:TypeId)(v:Value):PhT T (.eq v):=fun _ _ _ h _=>h
theorem nn{T:TypeId}{v:Value}:PhT T (.eq v):=PhT.eq _ _
theorem PhT.pred{T:TypeId}{p:Value→World→Prop}(h:∀v w w',p v w→KeepT T w w'→p v w'):PhT T (.pred p):=h
def allT(T:TypeId):List Ph→Prop
 |[]=>True
 |q::r=>PhT T q∧allT T r
theorem allT.at{T:TypeId}:∀{l:List Ph},allT T l→∀i,PhT T (l.getD i (.eq undef))
 |[],_,_=>by simpa using PhT.eq T undef
 |_::_,h,0=>by simpa using h.1
 |_::_,h,i+1=>by simpa using allT.at h.2 i
theorem CW.box{id:Nat}{opsL:List Oper}(k ia is isv sa sv:Nat)(z:Array Value)(phs:List Ph)(keep:List Nat){T:TypeId}(hz:∀w,(zeroValue T).run P w=.ok (.agg z) w)(hs:∀w,(sizeOf T).run P w=.ok z.size w)(hm:P.follows .mixedOrders=true)(hl:Cf l=true)
   (hA:Ea opsL.toArray=true)(hC:(Nat.beq k opsL.toArray.size||Fm opsL.toArray k)=true)(hF:I8 opsL.toArray k=true)(hks:Nat.ble k opsL.toArray.size=true)(hD:Ht n opsL.toArray 0 k=true)(hlit:Qe opsL.toArray ia [(is,0,sv)]=true)(hTl:Hq opsL.toArray k=true)
   (hfree:K5 l (opsL.take k)=true)(hidx:(Nat.ble (is+1) k&&(Nat.ble (ia+1) k&& !Nat.beq ia is))=true)
   (hia:∃ty ps af,opsL[ia]?=some ⟨some sa,.alloc T,ty,ps,af,none⟩)(os:Oper)(hos:opsL[is]?=some os)(his:∃ty ps af,os=⟨none,.store T (.tmp sa) (.tmp sv),ty,ps,af,none⟩)(hph:allT T phs)
   (hlk:lk (Py opsL.toArray (fun i=>phs.getD i (.eq undef)) 0 os++l) sv=some (phs.getD isv (.eq undef)))(hsv:∀v W,(phs.getD isv (.eq undef)).holds v W→∃cs,v=.agg cs∧cs.size=z.size∧cs.all (·.oneCell')=true)
   (hpa:∀B W,(phs.getD ia (.eq undef)).holds (.pointer (some ⟨B,0,none⟩)) W)
   (hop:∀W,KeepT T w.drew W→allL (fun i o=>(i=ia∨i=is)∨(o.guard=none∧TU P n ds (Py opsL.toArray (fun i=>phs.getD i (.eq undef)) 0 o++l) W o (phs.getD i (.eq undef)))) 0 (opsL.take k))
   (hend:∀W B(g:Nat→Value),Up w.drew W→w.drew.heap.size≤B→Blk W B (g sv).cells T→(∀i o d,i<k→opsL[i]?=some o→o.dst=some d→(phs.getD i (.eq undef)).holds (g d) W)→LW R m P n ds opsL.toArray Q (opsL.drop k) ((sa,.eq (.pointer (some ⟨B,0,none⟩)))::(keep.map (fun d=>(d,.eq (g d)))++l)) W):
   CW R m P n ds (.region id opsL.toArray true) Q l w:=by
 simp only[aw]at hidx
 obtain⟨hik,hiak,hne⟩:=hidx
 have hik:is<k:=ah hik
 have hiak:ia<k:=ah hiak
 have hne:ia≠is:=fun e=>by subst e;simp at hne
 have hks':k≤opsL.length:=by have:=ah hks;simp at this;omega
 have sub:∀j o,j<k→opsL.toArray[j]?=some o→(opsL.take k)[j]?=some o:=fun j o hjk ho=>by
   rw[cz hjk];simpa using ho
 have hbd:∀i ph,lk l i=some ph→∀(j:Nat)(o:Oper),0≤j→j<k→opsL.toArray[j]?=some o→o.dst≠some i:=fun i ph hi j o _ hjk ho=>Gz hfree hi (am (sub j o hjk ho))
 refine Ga hm hl fun fuel listed a hf hu ha=>(AWF.box (k:=k) (ia:=ia) (is:=is) (isv:=isv) (sa:=sa) (sv:=sv) (T:=T) (z:=z) (fun i=>phs.getD i (.eq undef)) (f0:=fun t=>a.tmps.getD t undef) hz hs (fun i v w w' h u=>(hph.at i) v w w' h u) hA hC hF hks hD hl hbd hlit hik hiak hne (by simpa using hia) ?_ ?_ hsv hpa ?_ ?_ fuel listed a hf hu ha (fun _=>rfl))
 · obtain⟨ty,ps,af,e⟩:=his
   exact⟨ty,ps,af,by rw[←e];simpa using hos⟩
 · intro o ho
   have:opsL[is]?=some o:=by simpa using ho
   rw[hos]at this;cases this
   exact hlk
 · intro i o hi h1 h2 ho
   have h0:=(hop w.drew (KeepT.refl T _)).at (sub i o hi ho)
   rw[dp]at h0
   rcases h0 with(e|e)|⟨hg,_⟩
   · exact absurd e h1
   · exact absurd e h2
   refine⟨hg,fun W hW a ha=>?_⟩
   have h3:=(hop W hW).at (sub i o hi ho)
   rw[dp]at h3
   rcases h3 with(e|e)|⟨_,h⟩
   · exact absurd e h1
   · exact absurd e h2
   exact h a ha
 intro f W B hUp hfa hB hblk fuel' listed' a' hf' hu' ha' hsl'
 have key:∀i o d,i<k→opsL[i]?=some o→o.dst=some d→(phs.getD i (.eq undef)).holds (f d) W:=by
   intro i o d hik ho hd
   have ho':opsL.toArray[i]?=some o:=by simpa using ho
   have hmem:(d,phs.getD i (.eq undef))∈Hu opsL.toArray (fun i=>phs.getD i (.eq undef)) 0 k:=by
     unfold Hu
     rw[ef]
     exact⟨i,bl.2 hik,by rw[ak (by simp),ho'];simp[hd]⟩
   obtain⟨q',hq⟩:=Hj hmem
   obtain⟨j,p,_,hjk,hp,hpd,e⟩:=F2 hq
   have:j=i:=by
     by_cases ee:j=i
     · exact ee
     exact absurd hpd ((D7 hD (ao _) hik ho' hd).2 j p (ao _) hjk ee hp)
   subst this
   have:=ha'.val d q' (Km hq)
   rw[hsl',e]at this
   exact this
 refine Gb hTl hA (opsL.toArray.size-k) k fuel' listed' a' W rfl (by simp;omega) (av _) hf' hu' (hend W B f hUp hB hblk key a' ⟨ha'.defers,ha'.size,fun t q ht=>?_⟩)
 by_cases e:t=sa
 · subst e;rw[Bk]at ht;cases ht
   exact(hsl' _).trans hfa
 rw[Bl e]at ht
 rcases C3 ht with h|h
 · obtain⟨d,_,he⟩:=aq.1 (J2 h)
   cases he
   exact hsl' _
 refine ha'.val t q ?_
 rw[Hw]
 · exact h
 cases hq:lk (Hu opsL.toArray (fun i=>phs.getD i (.eq undef)) 0 k) t with
 |none=>rfl
 |some q'=>
   obtain⟨j,p,_,hjk,hp,hpd,_⟩:=F2 hq
   exact absurd hpd (hbd t q h j p (ao _) hjk hp)
end
end Go.Wx
