import Derived.Test.YtnocngnlpgikaaaGreatDoorKR17
import Derived.Lib.Builder
import Derived.Lib.UnsafeStr
import Derived.Laws.BytesArg
import Derived.Test.YtnocngnlpgikaaaGreatDoorProg
namespace Go.Wx
open Go.RowKit Go.Lib
def Df(As:List Asr):Asr where
 foot:=fun i=>∃A∈As,A.foot i
 holds:=fun w=>(∀A∈As,A.holds w)∧As.Pairwise fun(A B:Asr)=>∀(i:Nat),A.foot i→¬B.foot i
 keep _ _ h k z:=⟨fun A hA=>A.keep _ _ (h.1 A hA) (fun i hi hl=>k i ⟨A,hA,hi⟩ hl) z,h.2⟩
 lt _ h i:=fun⟨A,hA,hi⟩=>A.lt _ (h.1 A hA) i hi
section
variable {S0:Nat→Prop}{w0 w w':World}{As As' Bs rest:List Asr}
theorem Ny(h:(Df As).holds w):Sep (Df As).foot w w As:=⟨Fr.refl _ _,fun A hA=>⟨h.1 A hA,fun _ hi=>.inl ⟨A,hA,hi⟩⟩,h.2⟩
theorem Jh(h:Sep (Df As).foot w0 w (As'++rest)):Stp (Df As) (Df As') w0 w:=
 ⟨h.fr,⟨fun A hA=>(h.each A (et _ hA)).1,(b8.1 h.apart).1⟩,fun i⟨A,hA,hi⟩=>(h.each A (et _ hA)).2 i hi⟩
theorem J9(h:Sep S0 w0 w (Bs++As++rest)):Sep S0 w0 w (Bs++Df As::rest):=by
 have h1:=b8.1 h.apart
 have h2:=b8.1 h1.1
 refine⟨h.fr,fun A hA=>?_,b8.2 ⟨h2.1,dq.2 ⟨fun C hC i hi=>?_,h1.2.1⟩,fun A hA C hC i hi=>?_⟩⟩
 · rcases bp.1 hA with hA|hA
   · exact h.each A (by simp[hA])
   rcases bg.1 hA with rfl|hA
   · exact⟨⟨fun A hA=>(h.each A (by simp[hA])).1,h2.2.1⟩,fun i⟨A,hA,hi⟩=>(h.each A (by simp[hA])).2 i hi⟩
   exact h.each A (by simp[hA])
 · obtain⟨A,hA,hi⟩:=hi
   exact h1.2.2 A (by simp[hA]) C hC i hi
 rcases bg.1 hC with rfl|hC
 · rintro⟨C,hC,hi2⟩
   exact h2.2.2 A hA C hC i hi hi2
 exact h1.2.2 A (by simp[hA]) C hC i hi
theorem Sep.unfold(h:Sep S0 w0 w (Bs++Df As::rest)):Sep S0 w0 w (Bs++As++rest):=by
 have h1:=b8.1 h.apart
 have h2:=dq.1 h1.2.1
 have ha:=h.each (Df As) (by simp)
 refine⟨h.fr,fun A hA=>?_,b8.2 ⟨b8.2 ⟨h1.1,ha.1.2,fun A hA C hC i hi hi2=>?_⟩,h2.2,fun A hA C hC i hi=>?_⟩⟩
 · rcases bp.1 hA with hA|hA
   · rcases bp.1 hA with hA|hA
     · exact h.each A (by simp[hA])
     exact⟨ha.1.1 A hA,fun i hi=>ha.2 i ⟨A,hA,hi⟩⟩
   exact h.each A (by simp[hA])
 · exact h1.2.2 A hA (Df As) (by simp) i hi ⟨C,hC,hi2⟩
 rcases bp.1 hA with hA|hA
 · exact h1.2.2 A hA C (by simp[hC]) i hi
 exact h2.1 C hC i ⟨A,hA,hi⟩
end
section
variable {P:Program}{n:Nat}{ds:List Deferred}{l:Env}{w:World}{d:Option Tmp}{ty:TypeId}{ps:String}{af:Array Edge}{g:Option (Nat×Bool)}
theorem S6{w:World}{B:Nat}{cs:Array Value}{T:TypeId}(h:Blk w B cs T):w.shape? B=some (T,cs.size):=by
 unfold Blk at h
 simp[World.shape?,h]
theorem PEv.yE{src dst t TT:TypeId}{x:Operand}{B o k:Nat}{cs:Array Value}(hs:P.underlying src=some (.pointer t))(hd:P.underlying dst=some .unsafePointer)(ht:(P.info? t).map (·.size)=some (k+1))(hx:Val l x (.pointer (some ⟨B,o,none⟩)))(hb:Blk w B cs TT)(ho:o<cs.size):
   PEv P n ds l w ⟨d,.convert src dst x,ty,ps,af,g⟩ (.pointer (some ⟨B,o,none⟩)):=fun a w' ha hu=>by
 obtain⟨j,hj,hjs⟩:=gy.1 ht
 refine Ct ?_
 rw[ha.ev hx]
 exact run_to_unsafe w' ⟨B,o,none⟩ hs hd hj oQ (S6 (hb.up hu)) ho
theorem PEv.nJ{src dst u TT:TypeId}{x:Operand}{B o k:Nat}{cs:Array Value}(hs:P.underlying src=some .unsafePointer)(hd:P.underlying dst=some (.pointer u))(ht:(P.info? u).map (·.size)=some k)(hx:Val l x (.pointer (some ⟨B,o,none⟩)))(hb:Blk w B cs TT)
   (hl:liesAt P P.depth TT (cs.size/P.cellsOf TT) o u 1=true):
   PEv P n ds l w ⟨d,.convert src dst x,ty,ps,af,g⟩ (.pointer (some ⟨B,o,none⟩)):=fun a w' ha hu=>by
 obtain⟨j,hj,_⟩:=gy.1 ht
 refine Ct ?_
 rw[ha.ev hx]
 exact run_from_unsafe w' ⟨B,o,none⟩ hs hd hj (S6 (hb.up hu)) hl
theorem V5{T te T':TypeId}{x y:Operand}{k:Nat}{ad:Addr}(hT:P.underlying T=some (.pointer te))(ht:(P.info? te).map (·.size)=some k)(hx:Val l x (.pointer (some ad)))(hy:Val l y (.pointer (some ad))):
   PEv P n ds l w ⟨d,.binOp .neq T x y T',ty,ps,af,g⟩ (.bool false):=fun a w' ha _=>by
 obtain⟨j,hj,_⟩:=gy.1 ht
 refine Ct ?_
 rw[ha.ev hx,ha.ev hy,Sem.run_bind]
 have:(eqGuard .neq T x y (.pointer (some ad)) (.pointer (some ad))).run P w'=.ok () w':=by unfold eqGuard;rfl
 rw[this]
 exact run_neq_ptr_same w' ad hT hj
theorem PEv.ext{xs:Array Operand}{ts:Array TypeId}{f:FuncId}{vs:List Value}{v:Value}(hv:Vals l xs.toList vs)(hf:∀w,(callFunc f vs.toArray).run P w=.ok (.value v) w):
   PEv P n ds l w ⟨d,.call { callee:=.value (.func f),args:=xs,argTypes:=ts },ty,ps,af,g⟩ v:=fun a w' ha _=>by
 have e1:xs.map a.eval=vs.toArray:=by apply g_;simp[ha.zC hv]
 have e:a.eval (.func f)=.func (.func f) #[] #[]:=rfl
 simp only[execOp,resolve,e,e1,Deferred.ofValue,Sem.run_bind,Sem.run_pure,Result.andThen,invoke]
 simpa using hf w'
theorem Uo{f:FuncId}{fn:Func}(hf:P.funcs[f]?=some fn)(h1:(fn.name== "runtime.NumGoroutine")=false)(h2:fn.body.isNone=true)(h3:Extern.findNext fn=none)(h4:Extern.find fn=some Extern.AbiNoEscape.same)(v:Value)(w:World):
   (callFunc f [v].toArray).run P w=.ok (.value v) w:=by
 rw[run_callFunc_extern hf h1 h2 h3 h4]
 rfl
end
theorem nK{S:Nat→Prop}{w w':World}{ad:Addr}{v:Value}(h:w.cell? ad=some v)(f:Fr S w w')(hn:¬S ad.block):w'.cell? ad=some v:=by
 unfold World.cell? at h⊢
 cases hb:w.heap[ad.block]? with
 |none=>rw[hb]at h;cases h
 |some o=>rw[hb]at h;rw[f.block _ (lt_of_block hb) hn,hb];exact h
theorem Els.fr{α:Type}{S:Nat→Prop}{w w':World}{ad:Option Addr}{k:Nat}{enc:α→Array Value}{xs:List α}(h:Els w ad k enc xs)(f:Fr S w w')(hn:∀B o,ad=some ⟨B,o,none⟩→¬S B):Els w' ad k enc xs:=fun i x hx=>
 let⟨B,o,h1,h2⟩:=h i x hx
 ⟨B,o,h1,fun j v hv=>nK (h2 j v hv) f (hn B _ h1)⟩
theorem Blk.fr{S:Nat→Prop}{w w':World}{B:Nat}{cs:Array Value}{T:TypeId}(h:Blk w B cs T)(f:Fr S w w')(hn:¬S B):Blk w' B cs T:=(f.block _ h.lt hn).trans h
theorem S7(a:List UInt8)(b:ByteArray):(⟨a.toArray⟩:ByteArray)++b=⟨(a++b.data.toList).toArray⟩:=by
 apply ByteArray.ext
 simp
def Nz(b:UInt8):Array Value:=#[bv b]
theorem bR(x:UInt8):(Nz x).all (·.oneCell')=true:=by simp[Nz,bv,Value.oneCell']
theorem M1:∀(l:List UInt8),(l.flatMap fun x=>(Nz x).toList)=l.map bv
 |[]=>rfl
 |x::l=>by rw[cd,M1 l];rfl
structure Wri where
 bd:Nat
 us:Bool
 bf:Value
def Wri.ad(D:Wri):Value:=.pointer (if D.us then some ⟨D.bd,0,none⟩else none)
def L5(TW e:TypeId)(D:Wri)(bs:List UInt8):List Asr:=[A4 D.bd #[D.ad,D.bf] TW,Az e 1 Nz D.bf bs]
def Dt(TW e:TypeId)(D:Wri)(bs:List UInt8):Asr:=Df (L5 TW e D bs)
theorem Qg{TW e:TypeId}{D:Wri}{bs:List UInt8}{w:World}(h:(Dt TW e D bs).holds w):OwnS w 0 e 1 Nz D.bf bs:=h.1 (Az e 1 Nz D.bf bs) (by simp[L5])
theorem V6{TW e:TypeId}{D:Wri}{bs:List UInt8}{w:World}(h:(Dt TW e D bs).holds w):Blk w D.bd #[D.ad,D.bf] TW:=h.1 (A4 D.bd #[D.ad,D.bf] TW) (by simp[L5])
theorem S8{TW e:TypeId}{D:Wri}{bs:List UInt8}{i:Nat}(h:(Dt TW e D bs).foot i):i=D.bd∨D.bf.ownBlock=some i:=by
 obtain⟨A,hA,hi⟩:=h
 simp only[L5,bg,cm,db]at hA
 rcases hA with rfl|rfl
 · exact .inl hi
 exact .inr hi
theorem Zb{TW e:TypeId}{D:Wri}{bs:List UInt8}{i:Nat}(h:i=D.bd∨D.bf.ownBlock=some i):(Dt TW e D bs).foot i:=by
 rcases h with h|h
 · exact⟨_,bl,h⟩
 exact⟨_,bu _ bl,h⟩
theorem nL{TW e:TypeId}{D:Wri}{bs:List UInt8}{w w':World}{bq:Nat}(h:(Dt TW e D bs).holds w)(k:Ko bq w w'):(Dt TW e D bs).holds w':=by
 refine⟨fun A hA=>?_,h.2⟩
 have h1:=h.1 A hA
 simp only[L5,bg,cm,db]at hA
 rcases hA with rfl|rfl
 · exact Blk.ko h1 k
 exact OwnS.ko h1 k
theorem Fr.ko{S:Nat→Prop}{w0 w w':World}{bq:Nat}(h:Fr S w0 w)(k:Ko bq w w')(hb:w0.heap.size≤bq):Fr S w0 w':=
 ⟨k.os.trans h.os,k.tape.trans h.tape,k.output.trans h.output,br h.size k.size,fun i hi hs=>by
   have h1:=h.block i hi hs
   have h2:w.heap[i]?=some w0.heap[i]:=by rw[h1];simp[hi]
   rw[k.same i _ h2 (.inl oQ),←h2,h1]⟩
theorem Kx.fr{bq:Nat}{X Y S:Nat→Prop}{w w':World}(h:Fr S w w')(hX:∀i,S i→X i)(hc:∀i o,S i→w.heap[i]?=some o→o.isCells=true):Kx bq X Y w w':=
 ⟨h.os,h.tape,h.output,h.size,fun i o hi ho=>(h.block i (lt_of_block hi) (fun hs=>by
   rcases ho with ho|ho
   · exact ho.2 (hX i hs)
   rw[hc i o hs hi]at ho;cases ho.1)).trans hi⟩
theorem Kf.fr{bq:Nat}{S:Nat→Prop}{w w':World}(h:Fr S w w')(hc:∀i o,S i→w.heap[i]?=some o→o.isCells=true):Kf bq w w':=
 ⟨h.size,fun i o _ hi ho=>(h.block i (lt_of_block hi) (fun hs=>by rw[hc i o hs hi]at ho;cases ho)).trans hi⟩
theorem Zc{TW e:TypeId}{D:Wri}{bs:List UInt8}{w:World}(h:(Dt TW e D bs).holds w):∀i o,(Dt TW e D bs).foot i→w.heap[i]?=some o→o.isCells=true:=fun i o hf hi=>by
 rcases S8 hf with rfl|hf
 · have:=V6 h
   unfold Blk at this
   rw[this]at hi;cases hi;rfl
 obtain⟨_,⟨e',_⟩|⟨g,cap,cur,e',hb,hg,rest⟩⟩:=Qg h
 · rw[e']at hf;cases hf
 rw[e']at hf;cases hf
 rw[hg]at hi;cases hi;rfl
theorem Ig{TW e:TypeId}{D:Wri}{bs:List UInt8}{w:World}{B:Nat}{cs:Array Value}{T:TypeId}{x:Nat×Nat}(h:(Dt TW e D bs).holds w)(hb:w.heap[B]?=some (Obj.cells cs T x))(h1:Nat.beq T e=false)(h2:Nat.beq T TW=false):¬(Dt TW e D bs).foot B:=fun hf=>by
 rcases S8 hf with rfl|hf
 · have:=V6 h
   unfold Blk at this
   rw[this]at hb;cases hb
   simp at h2
 obtain⟨_,⟨e',_⟩|⟨g,cap,cur,e',_,hg,_⟩⟩:=Qg h
 · rw[e']at hf;cases hf
 rw[e']at hf;cases hf
 rw[hg]at hb;cases hb
 simp at h1
theorem Stp.ko{A:Asr}{TW e:TypeId}{D:Wri}{bs:List UInt8}{w0 w w':World}{bq:Nat}(h:Stp A (Dt TW e D bs) w0 w)(k:Ko bq w w')(hb:w0.heap.size≤bq):Stp A (Dt TW e D bs) w0 w':=⟨h.fr.ko k hb,nL h.holds k,h.sub⟩
theorem Els.kx{α:Type}{bq:Nat}{X Y:Nat→Prop}{w w':World}{ad:Option Addr}{k:Nat}{enc:α→Array Value}{xs:List α}(h:Els w ad k enc xs)(u:Kx bq X Y w w')(hn:∀B o,ad=some ⟨B,o,none⟩→¬X B):Els w' ad k enc xs:=fun i x hx=>
 let⟨B,o,h1,h2⟩:=h i x hx
 ⟨B,o,h1,fun j v hv=>by
   have hc:=h2 j v hv
   unfold World.cell? at hc⊢
   cases hb:w.heap[B]? with
   |none=>simp only[hb]at hc;cases hc
   |some ob=>
     cases ob with
     |cells cs T x=>rw[u.same B _ hb (.inl ⟨rfl,hn B _ h1⟩)];rw[hb]at hc;exact hc
     |_=>simp only[hb]at hc;cases hc⟩
theorem bS{S0:Nat→Prop}{w0 w:World}{Bs:List Asr}{TW e:TypeId}{B:Nat}(h:Sep S0 w0 w (Bs++[A4 B #[.pointer none,.slice none 0 0] TW])):Sep S0 w0 w (Bs++[Dt TW e ⟨B,false,.slice none 0 0⟩ []]):=by
 have h1:=h.add (Up.refl _) (A':=Az e 1 Nz (.slice none 0 0) ([]:List UInt8)) (OwnS.nil _ _ _ _ _) (fun i hi=>by cases hi)
 have h2:=J9 (Bs:=Bs) (As:=L5 TW e ⟨B,false,.slice none 0 0⟩ []) (rest:=[]) (by simpa[L5,Wri.ad]using h1)
 exact h2
section
variable {P:Program}{n:Nat}{ds:List Deferred}{l:Env}{w:World}{d:Option Tmp}{ty:TypeId}{ps:String}{af:Array Edge}{g:Option (Nat×Bool)}
theorem REv.eD{e T Ts:TypeId}{i:TypeInfo}{s x:Operand}{v:Value}{bs:List UInt8}{t:ByteArray}(hT:P.underlying T=some (.slice e))(hTs:P.underlying Ts=some .string)(hi:P.info? e=some i)(hz:i.zero=some (.int .u8 0))(hsz:i.size=1)(hby:i.bytes=1)
   (hs:Val l s v)(hx:Val l x (.string t))(ho:OwnS w 0 e 1 Nz v bs)(hb:bs.length+t.size≤140737488355328):
   REv P n ds l w ⟨d,.call { callee:=.builtin .append,args:=#[s,x],argTypes:=#[T,Ts] },ty,ps,af,g⟩ (fun v' w'=>Stp (Az e 1 Nz v bs) (Az e 1 Nz v' (bs++t.data.toList)) w w'):=fun a ha=>by
 have e0:∀c:List UInt8,(c.flatMap fun x=>(Nz x).toList)=byteCells c:=fun c=>by rw[M1];rfl
 have ho':w.ownsRow 0 e 1 v bs.length (byteCells bs):=by have:=ho;unfold OwnS at this;rw[e0]at this;exact this
 obtain⟨v',w',hr,h2,h3,_⟩:=run_append_own_string (P:=P) w 0 T Ts ty e i hT hTs hi hz hsz hby v bs.length _ ho' t (by simp only[maxLen];omega) hb (au _)
 rw[strCells_eq,←byteCells_append]at h2
 have hl:(bs++t.data.toList).length=bs.length+t.size:=by rw[ah,cw];rfl
 have hown:OwnS w' 0 e 1 Nz v' (bs++t.data.toList):=by unfold OwnS;rw[e0,hl];exact h2
 refine⟨v',w',?_,⟨h3.os,h3.tape,h3.output,h3.size,fun i hi hb=>h3.block i hi (fun e=>hb e.symm)⟩,hown,?_⟩
 · simp only[execOp,resolve,invoke,builtin,Sem.run_bind,Sem.run_pure,Result.andThen_ok,fh,co,e_,ha.ev hs,ha.ev hx,hr]
 -- the new row:the old one,or a new block
 intro q hq
 obtain⟨hlen,⟨rfl,hn⟩|⟨g',cap,cur,rfl,_,hg,hcap,hcm,hcs,htake⟩⟩:=ho'
 · rcases dy q w.heap.size with h|h
   · exfalso
     by_cases hm:t.size=0
     · have hf:=run_firstCells_string (P:=P) w 1 t
       rw[hm]at hf
       have hr2:(Builtin.append_ #[T,Ts] ty #[.slice none 0 0,.string t]).run P w=.ok (.slice none 0 0) w:=by
         simp[Builtin.append_,run_underlying hT,run_underlying hTs,sizeOf,typeInfo,hi,hsz,Builtin.lenOf,hm,hf]
       rw[hr]at hr2
       cases hr2
       cases hq
     have hr2:=run_append_nil_string (P:=P) w T Ts ty e i (.int .u8 0) hT hTs hi hz t oQ oQ (by rw[hby];omega)
     rw[hr]at hr2
     cases hr2
     cases hq
     exact gu _ h
   exact .inr h
 by_cases hroom:bs.length+t.size≤cap
 · have hr2:=run_append_room_string (P:=P) w T Ts ty e i hT hTs hi hsz g' bs.length cap cur hg t hroom (by rw[hcs];omega)
   rw[hr]at hr2
   cases hr2
   exact .inl hq
 have holds:∀j u,(byteCells bs)[j]?=some u→w.cell? ((⟨g',0,none⟩:Addr).add j)=some u:=World.ownsRow.cells (g:=g') (show w.ownsRow 0 e 1 (.slice (some ⟨g',0,none⟩) bs.length cap) bs.length _ from⟨hlen,.inr ⟨g',cap,cur,rfl,au _,hg,hcap,hcm,hcs,htake⟩⟩) rfl
 have hr2:=run_append_grow_string (P:=P) w T Ts ty e i (.int .u8 0) hT hTs hi hz ⟨g',0,none⟩ bs.length cap _ (by rw[hsz];simpa using hlen) holds t oQ oQ (by rw[hby];exact growslice_fits oQ oQ)
 rw[hr]at hr2
 cases hr2
 cases hq
 exact .inr (by simp)
theorem PEv.eE{T:TypeId}{ts:Array TypeId}{x:Operand}{B m cp:Nat}(hc:cp≠0)(hx:Val l x (.slice (some ⟨B,0,none⟩) m cp)):
   PEv P n ds l w ⟨d,.call { callee:=.builtin .unsafeSliceData,args:=#[x],argTypes:=ts },T,ps,af,g⟩ (.pointer (some ⟨B,0,none⟩)):=fun a w' ha _=>by
 have:=run_unsafeSliceData_row (P:=P) w' ts T ⟨B,0,none⟩ m cp hc
 simp only[execOp,resolve,invoke,builtin,Sem.run_bind,Sem.run_pure,Result.andThen_ok,fh,co,e_,ha.ev hx,this]
theorem REv.eF{T it e:TypeId}{x y:Operand}{B cp:Nat}{bs:List UInt8}{pt:TypeId}(hp:P.underlying pt=some (.pointer e))(hc:P.cellsOf e=1)(hx:Val l x (.pointer (some ⟨B,0,none⟩)))(hy:Val l y (.int .i64 (bs.length:Int)))
   (ho:OwnS w 0 e 1 Nz (.slice (some ⟨B,0,none⟩) bs.length cp) bs)(h0:bs≠[])(h63:bs.length≤9223372036854775807):
   REv P n ds l w ⟨d,.call { callee:=.builtin .unsafeString,args:=#[x,y],argTypes:=#[pt,it] },T,ps,af,g⟩ (fun v w'=>v=.string ⟨bs.toArray⟩∧Fr (fun i=>some B=some i) w w'):=fun a ha=>by
 have e0:∀c:List UInt8,(c.flatMap fun x=>(Nz x).toList)=byteCells c:=fun c=>by rw[M1];rfl
 have ho':w.ownsRow 0 e 1 (.slice (some ⟨B,0,none⟩) bs.length cp) bs.length (byteCells bs):=by have:=ho;unfold OwnS at this;rw[e0]at this;exact this
 have hcell:=World.ownsRow.cells (g:=B) ho' rfl
 obtain⟨hlen,⟨h,_⟩|⟨g',cap,cur,h,_,hg,hcap,hcm,hcs,htake⟩⟩:=ho'
 · cases h
 cases h
 have hsh:w.shape? B=some (e,cp):=by simp[World.shape?,hg];omega
 have:=run_unsafeString_row (P:=P) w pt it T e hp hc B cp hsh bs h0 hcap h63 (fun j x hx=>hcell j _ (by simp[byteCells,hx]))
 refine⟨.string ⟨bs.toArray⟩,w.freeze ⟨B,0,none⟩ bs.length,?_,rfl,?_⟩
 · simp only[execOp,resolve,invoke,builtin,Sem.run_bind,Sem.run_pure,Result.andThen_ok,fh,co,e_,ha.ev hx,ha.ev hy,this]
 unfold World.freeze
 split
 · exact Fr.refl _ _
 exact⟨rfl,rfl,rfl,by simp,fun i hi hs=>by
   simp only[i6]
   rw[am (fun e=>hs (by rw[e]))]⟩
theorem PEv.rU{T Ts e e':TypeId}{x:Operand}{v:Value}{bs:List UInt8}{base:Nat}(hT:P.underlying T=some (.slice e))(he:P.underlying e=some (.int .u8))(hTs:P.underlying Ts=some .string)(hx:Val l x v)(ho:OwnS w base e' 1 Nz v bs):
   PEv P n ds l w ⟨d,.convert T Ts x,ty,ps,af,g⟩ (.string ⟨bs.toArray⟩):=fun a w' ha hu=>by
 refine Ct ?_
 rw[ha.ev hx]
 have ho':=ho.up hu
 have hr:=ho'
 unfold OwnS at hr
 rw[M1]at hr
 obtain⟨hlen,⟨rfl,hn⟩|⟨g',cap,cur,rfl,hb,hg,rest⟩⟩:=ho
 · have hbs:bs=[]:=ei hn
   subst hbs
   exact run_convert_bytes_nil (P:=P) w' T e hT he 0 0 Ts hTs
 have hcell:=World.ownsRow.cells (g:=g') hr rfl
 exact run_convert_bytes_back (P:=P) w' T Ts e ⟨g',0,none⟩ cap bs hT he hTs (fun q hq=>hcell q _ (by rw[eh,cj hq];rfl))
theorem PEv.iX{T T':TypeId}{x y:Operand}{a b:ByteArray}(hx:Val l x (.string a))(hy:Val l y (.string b))(h:a.size+b.size≤9223372036854775807):PEv P n ds l w ⟨d,.binOp .add T x y T',ty,ps,af,g⟩ (.string (a++b)):=fun ac w' ha _=>by
 refine Ct ?_
 rw[ha.ev hx,ha.ev hy,Sem.run_bind]
 have:(eqGuard .add T x y (.string a) (.string b)).run P w'=.ok () w':=by unfold eqGuard;rfl
 rw[this]
 simp[binOp,Op.stringOp]
 omega
end
end Go.Wx
namespace Go.Wx
abbrev K2:=Int×Int
def Hc(a b:K2):Bool:=decide (a.1<b.1)||(decide (a.1=b.1)&&decide (a.2<b.2))
theorem Pj{a b:K2}:Hc a b=true↔a.1<b.1∨(a.1=b.1∧a.2<b.2):=by simp[Hc]
theorem K5{a b:K2}:Hc a b=false↔¬(a.1<b.1∨(a.1=b.1∧a.2<b.2)):=by rw[←Pj];simp
theorem Ji(a:K2):Hc a a=false:=by rw[K5];omega
theorem I4{a b c:K2}(h:Hc b a=false)(k:Hc c b=false):Hc c a=false:=by rw[K5]at*;omega
theorem N0{a b:K2}(h:Hc a b=true):Hc b a=false:=by rw[Pj]at h;rw[K5];omega
theorem Uq{a b c:K2}(h:Hc a b=true)(k:Hc c b=false):Hc a c=true:=by rw[Pj]at*;rw[K5]at k;omega
theorem bT{a b c:K2}(h:Hc b a=false)(k:Hc b c=true):Hc a c=true:=by rw[Pj]at*;rw[K5]at h;omega
theorem rV{a b:K2}(h:Hc a b=false)(k:Hc b a=false):a=b:=by rw[K5]at*;exact Prod.ext oQ oQ
theorem Zd{a b:K2}(h:Hc a b=true):a≠b:=fun e=>by rw[e,Ji]at h;cases h
section
variable {α:Type}(key:α→K2)
def Iv(l:List α):Prop:=l.Pairwise fun x y=>Hc (key y) (key x)=false
def sameF(l s:List α):Prop:=∀k,s.filter (fun x=>key x==k)=l.filter (fun x=>key x==k)
structure StS(l s:List α):Prop where
 ord:Iv key s
 same:sameF key l s
end
section
variable {α:Type}{key:α→K2}
theorem sameF.refl(l:List α):sameF key l l:=fun _=>rfl
theorem sameF.trans{a b c:List α}(h:sameF key a b)(k:sameF key b c):sameF key a c:=fun x=>(k x).trans (h x)
theorem sameF.eG{a b c d:List α}(h:sameF key a b)(k:sameF key c d):sameF key (a++c) (b++d):=fun x=>by rw[dc,dc,h x,k x]
theorem sameF.mem{a b:List α}(h:sameF key a b)(x:α):x∈b↔x∈a:=by
 have:=h (key x)
 have e:∀l:List α,x∈l.filter (fun y=>key y==key x)↔x∈l:=fun l=>by rw[d_];simp
 rw[←e b,←e a,this]
theorem sameF.swap{U V:List α}(h:∀u∈U,∀v∈V,key u≠key v):sameF key (U++V) (V++U):=fun k=>by
 rw[dc,dc]
 by_cases e:U.filter (fun x=>key x==k)=[]
 · rw[e];simp
 have e2:V.filter (fun x=>key x==k)=[]:=by
   rw[f_]
   intro v hv hk
   apply e
   rw[f_]
   intro u hu hk2
   exact h u hu v hv ((eq_of_beq hk2).trans (eq_of_beq hk).symm)
 rw[e2];simp
theorem sameF.perm:∀{a b:List α},sameF key a b→b.Perm a
 |[],b,h=>by
   have:b=[]:=by
     cases b with
     |nil=>rfl
     |cons x b=>exact absurd ((h.mem x).1 bl) (by simp)
   rw[this]
 |x::a,b,h=>by
   have hx:x∈b:=(h.mem x).2 bl
   -- the first of b with the key of x is x itself
   have hf:=h (key x)
   rw[dk,ap (by simp)]at hf
   obtain⟨p,q,e,hp⟩:∃p q,b=p++x::q∧∀y∈p,key y≠key x:=by
     clear hx
     induction b with
     |nil=>simp at hf
     |cons y b ih=>
       by_cases hy:key y=key x
       · rw[dk,ap (by simp[hy])]at hf
         injection hf with h1 h2
         subst h1
         exact⟨[],b,rfl,by simp⟩
       rw[dk,am (by simp[hy])]at hf
       have:∃p q,b=p++x::q∧∀y∈p,key y≠key x:=by
         clear ih h
         induction b with
         |nil=>simp at hf
         |cons z b ih=>
           by_cases hz:key z=key x
           · rw[dk,ap (by simp[hz])]at hf
             injection hf with h1 h2
             subst h1
             exact⟨[],b,rfl,by simp⟩
           rw[dk,am (by simp[hz])]at hf
           obtain⟨p,q,e,hp⟩:=ih hf
           exact⟨z::p,q,by rw[e];rfl,fun w hw=>by
             rcases bg.1 hw with rfl|hw
             · exact hz
             exact hp w hw⟩
       obtain⟨p,q,e,hp⟩:=this
       exact⟨y::p,q,by rw[e];rfl,fun w hw=>by
         rcases bg.1 hw with rfl|hw
         · exact hy
         exact hp w hw⟩
   subst e
   have h2:sameF key a (p++q):=fun k=>by
     have:=h k
     by_cases hk:key x=k
     · subst hk
       have ep:p.filter (fun y=>key y==key x)=[]:=by rw[f_];intro y hy e;exact hp y hy (eq_of_beq e)
       simp only[dc,dk,beq_self_eq_true,if_true,ep,df,List.cons.injEq,true_and]at this⊢
       exact this
     have hk':(key x==k)=false:=by simpa using hk
     simpa only[dc,dk,hk',jh,if_false]using this
   exact List.perm_middle.trans ((sameF.perm h2).cons x)
theorem sameF.length{a b:List α}(h:sameF key a b):b.length=a.length:=h.perm.length_eq
theorem StS.unique:∀{l s t:List α},StS key l s→StS key l t→s=t
 |l,[],[],_,_=>rfl
 |l,[],y::t,h,k=>by have:=h.same.length.trans k.same.length.symm;simp at this
 |l,x::s,[],h,k=>by have:=h.same.length.trans k.same.length.symm;simp at this
 |l,x::s,y::t,h,k=>by
   have hx:=(dq.1 h.ord)
   have hy:=(dq.1 k.ord)
   have mx:x∈y::t:=(k.same.mem x).2 ((h.same.mem x).1 bl)
   have my:y∈x::s:=(h.same.mem y).2 ((k.same.mem y).1 bl)
   have a1:Hc (key x) (key y)=false:=by
     rcases bg.1 mx with e|e
     · rw[e];exact Ji _
     exact hy.1 x e
   have a2:Hc (key y) (key x)=false:=by
     rcases bg.1 my with e|e
     · rw[e];exact Ji _
     exact hx.1 y e
   have ek:=rV a1 a2
   have hf:=(h.same (key x)).trans (k.same (key x)).symm
   rw[dk,ap (by simp),dk,ap (by simp[ek])]at hf
   injection hf with h1 h2
   subst h1
   have hst:sameF key t s:=fun q=>by
     have:=(h.same q).trans (k.same q).symm
     simp only[dk]at this
     split at this
     · injection this
     exact this
   rw[StS.unique (l:=t) ⟨hx.2,hst⟩ ⟨hy.2,sameF.refl t⟩]
theorem StS.refl{l:List α}(h:Iv key l):StS key l l:=⟨h,sameF.refl l⟩
theorem StS.put{A:List α}{x:α}{j:Nat}(hA:Iv key A)(hj:∀y∈A.drop j,Hc (key x) (key y)=true)(hl:∀y∈A.take j,Hc (key x) (key y)=false):StS key (A++[x]) (A.take j++x::A.drop j):=by
 have h:=b8.1 (show(A.take j++A.drop j).Pairwise fun x y=>Hc (key y) (key x)=false by rw[dl];exact hA)
 refine⟨b8.2 ⟨h.1,dq.2 ⟨fun y hy=>N0 (hj y hy),h.2.1⟩,fun a ha b hb=>?_⟩,?_⟩
 · rcases bg.1 hb with rfl|hb
   · exact hl a ha
   exact h.2.2 a ha b hb
 have:=(sameF.refl (key:=key) (A.take j)).eG (sameF.swap (key:=key) (U:=A.drop j) (V:=[x]) (fun u hu v hv=>by
   simp at hv;subst hv
   exact fun e=>Zd (hj u hu) e.symm))
 rw[←cx,dl]at this
 simpa using this
theorem iY{A:List α}{x:α}{j:Nat}(hA:Iv key A)(hj:∀y∈A.take j,Hc (key y) (key x)=true)(hl:∀y∈A.drop j,Hc (key y) (key x)=false):StS key (x::A) (A.take j++x::A.drop j):=by
 have h:=b8.1 (show(A.take j++A.drop j).Pairwise fun x y=>Hc (key y) (key x)=false by rw[dl];exact hA)
 refine⟨b8.2 ⟨h.1,dq.2 ⟨hl,h.2.1⟩,fun a ha b hb=>?_⟩,?_⟩
 · rcases bg.1 hb with rfl|hb
   · exact N0 (hj a ha)
   exact h.2.2 a ha b hb
 have:=(sameF.swap (key:=key) (U:=[x]) (V:=A.take j) (fun u hu v hv=>by
   simp at hu;subst hu
   exact fun e=>Zd (hj v hv) e.symm)).eG (sameF.refl (key:=key) (A.drop j))
 rw[cx,cx,dl]at this
 simpa using this
theorem Ze{L1 U V R2 X Y:List α}(hL:Iv key (L1++U))(hR:Iv key (V++R2))(h1:∀x∈L1,∀y∈R2,Hc (key y) (key x)=false)(h2:∀v∈V,∀u∈U,Hc (key v) (key u)=true)
   (hX:StS key (L1++V) X)(hY:StS key (U++R2) Y):StS key (L1++U++(V++R2)) (X++Y):=by
 refine⟨b8.2 ⟨hX.ord,hY.ord,fun x hx y hy=>?_⟩,?_⟩
 · have hx:=(hX.same.mem x).1 hx
   have hy:=(hY.same.mem y).1 hy
   have a:=(b8.1 hL).2.2
   have b:=(b8.1 hR).2.2
   rcases bp.1 hx with hx|hx<;>rcases bp.1 hy with hy|hy
   · exact a x hx y hy
   · exact h1 x hx y hy
   · exact N0 (h2 x hx y hy)
   exact b x hx y hy
 have s1:sameF key (U++V) (V++U):=sameF.swap fun u hu v hv e=>Zd (h2 v hv u hu) e.symm
 have s2:=((sameF.refl (key:=key) L1).eG s1).eG (sameF.refl (key:=key) R2)
 have s3:=hX.same.eG hY.same
 intro k
 have a:=s3 k
 have b:=s2 k
 simp only[dc,cx]at a b⊢
 rw[a,b]
end
section
variable {α:Type}
def Cw(xs:List α)(a b:Nat):List α:=(xs.take b).drop a
theorem Cg{xs:List α}{a b:Nat}(hb:b≤xs.length):(Cw xs a b).length=b-a:=by simp[Cw];omega
theorem Gd{xs:List α}{a b i:Nat}(h:a+i<b):(Cw xs a b)[i]?=xs[a+i]?:=by simp[Cw,h]
theorem F2{xs:List α}{a m b:Nat}(h1:a≤m)(h2:m≤b)(hb:b≤xs.length):Cw xs a b=Cw xs a m++Cw xs m b:=by
 unfold Cw
 have:xs.take b=xs.take m++(xs.take b).drop m:=by
   conv=>lhs;rw[←dl m (xs.take b)]
   rw[f5,c7 h2]
 rw[this,List.drop_append]
 have e:a-(xs.take m).length=0:=by simp;omega
 rw[e,List.drop_zero,←this]
theorem nM{xs:List α}:Cw xs 0 xs.length=xs:=by simp[Cw]
theorem F3{xs:List α}{a b:Nat}(h:b≤a):Cw xs a b=[]:=by
 unfold Cw
 rw[List.drop_eq_nil_iff]
 simp;omega
theorem bU{xs:List α}{a b:Nat}(h1:a≤b)(hb:b≤xs.length):xs=xs.take a++Cw xs a b++xs.drop b:=by
 have h:=F2 (xs:=xs) (a:=0) (m:=a) (b:=b) (au _) h1 hb
 have e1:Cw xs 0 a=xs.take a:=by simp[Cw]
 have e2:Cw xs 0 b=xs.take b:=by simp[Cw]
 rw[e1,e2]at h
 rw[←h,dl]
def Ey(xs:List α)(a b:Nat)(ys:List α):List α:=xs.take a++ys++xs.drop b
theorem Di{xs ys:List α}{a b:Nat}(h1:a≤b)(hb:b≤xs.length)(hy:ys.length=b-a):(Ey xs a b ys).length=xs.length:=by simp[Ey];omega
theorem Gq{xs:List α}{a b:Nat}(h1:a≤b)(hb:b≤xs.length):Ey xs a b (Cw xs a b)=xs:=(bU h1 hb).symm
theorem Fe{xs ys:List α}{a b:Nat}(h1:a≤b)(hb:b≤xs.length)(hy:ys.length=b-a)(i:Nat):(Ey xs a b ys)[i]?=if i<a then xs[i]? else if i<b then ys[i-a]? else xs[i]?:=by
 unfold Ey
 by_cases h:i<a
 · rw[ap h,cx,da (by simp;omega),f9,ap h]
 rw[am h]
 by_cases h2:i<b
 · rw[ap h2,da (by simp;omega),c8 (by simp;omega)]
   congr 1;simp;omega
 rw[am h2,c8 (by simp;omega),gv]
 congr 1;simp;omega
theorem bV{xs ys:List α}{a b:Nat}(h1:a≤b)(hb:b≤xs.length)(hy:ys.length=b-a):Cw (Ey xs a b ys) a b=ys:=by
 apply ce
 intro i
 by_cases h:a+i<b
 · rw[Gd h,Fe h1 hb hy,am oQ,ap h];congr 1;omega
 rw[ck (by rw[Cg (by rw[Di h1 hb hy];exact hb)];omega),ck (by omega)]
theorem Eu{xs ys:List α}{a b c d:Nat}(h1:a≤b)(hb:b≤xs.length)(hy:ys.length=b-a)(h:d≤a∨b≤c):Cw (Ey xs a b ys) c d=Cw xs c d:=by
 apply ce
 intro i
 unfold Cw
 rw[gv,gv,f9,f9]
 split
 · rw[Fe h1 hb hy]
   split
   · rfl
   split
   · omega
   rfl
 rfl
theorem bW{xs ys zs:List α}{a m b:Nat}(h1:a≤m)(h2:m≤b)(hb:b≤xs.length)(hy:ys.length=m-a)(hz:zs.length=b-m):Ey (Ey xs a m ys) m b zs=Ey xs a b (ys++zs):=by
 apply ce
 intro i
 rw[Fe h2 (by rw[Di h1 oQ hy];exact hb) hz,Fe h1 oQ hy,Fe oQ hb (by simp;omega)]
 by_cases c1:i<a
 · rw[ap oQ,ap c1,ap c1]
 by_cases c2:i<m
 · rw[ap c2,am c1,ap c2,am c1,ap oQ,da (by omega)]
 rw[am c2,am c1,am c2]
 by_cases c3:i<b
 · rw[ap c3,am c1,ap c3,c8 (by omega)];congr 1;omega
 rw[am c3,am c1,am c3]
variable {key:α→K2}
theorem sameF.Ey{xs ys:List α}{a b:Nat}(h1:a≤b)(hb:b≤xs.length)(h:sameF key (Cw xs a b) ys):sameF key xs (Wx.Ey xs a b ys):=by
 have h2:=((sameF.refl (key:=key) (xs.take a)).eG h).eG (sameF.refl (key:=key) (xs.drop b))
 rw[←bU h1 hb]at h2
 exact h2
end
end Go.Wx
namespace Go.Wx
open Go.RowKit
theorem OwnS.at{α:Type}{enc:α→Array Value}{b k:Nat}{e:TypeId}{w:World}{g m cp:Nat}{xs:List α}(h:OwnS w b e k enc (.slice (some ⟨g,0,none⟩) m cp) xs)(hk:∀x,(enc x).size=k){i:Nat}{x:α}(hx:xs[i]?=some x):AggAt w g (0+i*k) (enc x):=by
 obtain⟨ad,c,e',hE⟩:=h.sl hk
 obtain⟨B,o,h1,h2⟩:=hE i x hx
 cases e'
 cases h1
 exact h2
theorem OwnS.len{α:Type}{enc:α→Array Value}{b k:Nat}{e:TypeId}{w:World}{ad:Option Addr}{m cp:Nat}{xs:List α}(h:OwnS w b e k enc (.slice ad m cp) xs):xs.length=m:=by
 obtain⟨_,⟨e',h1⟩|⟨g,cap,cur,e',_⟩⟩:=h
 · cases e';exact h1
 cases e';rfl
theorem V7{α:Type}(f:α→List Value)(k:Nat)(hf:∀x,(f x).length=k):∀(xs:List α)(i:Nat)(y:α),i<xs.length→(xs.set i y).flatMap f=(xs.flatMap f).take (i*k)++f y++(xs.flatMap f).drop (i*k+k)
 |[],_,_,h=>by simp at h
 |x::xs,0,y,_=>by
   rw[List.set_cons_zero,cd,cd,Nat.zero_mul,List.take_zero,df,c_,List.drop_left' (hf x)]
 |x::xs,i+1,y,h=>by
   rw[f8,cd,cd,V7 f k hf xs i y (by simpa using h)]
   have e1:(i+1)*k=(f x).length+i*k:=by rw[hf,eg,jo,ji]
   rw[e1,Nat.add_assoc,List.take_length_add_append,List.drop_length_add_append]
   simp
section
variable {P:Program}{n:Nat}{ds:List Deferred}{l:Env}{w:World}{ty:TypeId}{ps:String}{af:Array Edge}{g:Option (Nat×Bool)}
theorem Ur{α:Type}{enc:α→Array Value}{k b:Nat}{e T:TypeId}{x y:Operand}{B m cp i:Nat}{xs:List α}{z:α}(hs:∀w,(sizeOf T).run P w=.ok k w)(hk:∀x,(enc x).size=k)(h1:∀x,(enc x).all (·.oneCell')=true)(hx:Val l x (.pointer (some ⟨B,0+i*k,none⟩)))(hy:Val l y (.agg (enc z)))(ho:OwnS w b e k enc (.slice (some ⟨B,0,none⟩) m cp) xs)(hi:i<m):
   SEv P n ds l w ⟨none,.store T x y,ty,ps,af,g⟩ (fun w'=>OwnS w' b e k enc (.slice (some ⟨B,0,none⟩) m cp) (xs.set i z)∧Fr (· =B) w w'∧w'.heap.size=w.heap.size):=fun a ha=>by
 have hkl:∀x,(enc x).toList.length=k:=fun x=>by rw[cw,hk]
 obtain⟨hl,⟨e',_⟩|⟨g',cap,cur,e',hb,hg,hcap,hcm,hcs,htk⟩⟩:=ho
 · cases e'
 cases e'
 have hik:i*k+k≤xs.length*k:=by
   have:(i+1)*k≤xs.length*k:=fb k hi
   rw[eg,jo]at this
   exact this
 have hmk:xs.length*k≤cp*k:=fb k oQ
 obtain⟨w',hr,hset⟩:=SEv.S1 (P:=P) (n:=n) (ds:=ds) (l:=l) (w:=w) (ty:=ty) (ps:=ps) (af:=af) (g:=g) hs (hk z) hx hy (h1 z) (show Blk w B cur e from hg) (by rw[hk,hcs];omega) a ha
 refine⟨w',hr,⟨by rw[de,Gh _ k hkl,de],.inr ⟨B,cp,_,by rw[de],hb,hset.blk,by rw[de];omega,hcm,?_,?_⟩⟩,hset.sto.fr,hset.size⟩
 · have hz:=hkl z
   simp only[Mz,io,ah,cb,List.length_drop,cw]
   rw[cw]at hz
   omega
 have hz:=hkl z
 rw[de,V7 _ k hkl xs i z (by omega)]
 simp only[Mz]
 rw[hz,c_,List.take_append,List.take_append]
 have hcl:cur.toList.length=cp*k:=by rw[cw];exact hcs
 have t1:(cur.toList.take (i*k)).take (xs.length*k)=cur.toList.take (i*k):=by rw[f5,g9 (by omega)]
 have t2:(cur.toList.take (i*k)).length=i*k:=by rw[cb];omega
 have t3:((enc z).toList).take (xs.length*k-i*k)=(enc z).toList:=fg oQ
 have t4:(cur.toList.take (i*k)++(enc z).toList).length=i*k+k:=by rw[ah,t2,hz]
 rw[t1,t2,t3,t4]
 have s1:(xs.flatMap fun x=>(enc x).toList).take (i*k)=cur.toList.take (i*k):=by rw[←htk,f5,c7 (by omega)]
 have s2:(xs.flatMap fun x=>(enc x).toList).drop (i*k+k)=(cur.toList.drop (i*k+k)).take (xs.length*k-(i*k+k)):=by rw[←htk,List.drop_take]
 rw[s1,s2]
theorem Eh{α:Type}{enc:α→Array Value}{k:Nat}{e T:TypeId}{x y:Operand}{B m cp i:Nat}{xs:List α}{z:α}(hs:∀w,(sizeOf T).run P w=.ok k w)(hk:∀x,(enc x).size=k)(h1:∀x,(enc x).all (·.oneCell')=true)(hx:Val l x (.pointer (some ⟨B,0+i*k,none⟩)))(hy:Val l y (.agg (enc z)))(ho:OwnS w 0 e k enc (.slice (some ⟨B,0,none⟩) m cp) xs)(hi:i<m):
   SEv P n ds l w ⟨none,.store T x y,ty,ps,af,g⟩ (fun w'=>Stp (Az e k enc (.slice (some ⟨B,0,none⟩) m cp) xs) (Az e k enc (.slice (some ⟨B,0,none⟩) m cp) (xs.set i z)) w w'):=fun a ha=>
 let⟨w',hr,h2,h3,_⟩:=Ur (ty:=ty) (ps:=ps) (af:=af) (g:=g) hs hk h1 hx hy ho hi a ha
 ⟨w',hr,⟨h3.mono (fun i(e:i=B)=>by rw[e];rfl),h2,fun _ h=>.inl h⟩⟩
end
section
variable {P:Program}{n:Nat}{ds:List Deferred}{l:Env}{w:World}{d:Option Tmp}{ty:TypeId}{ps:String}{af:Array Edge}{g:Option (Nat×Bool)}
theorem PEv.L6{T T':TypeId}{x y:Operand}{i j:Nat}(hx:Val l x (.int .i64 (i:Int)))(hy:Val l y (.int .i64 (j:Int)))(h:j≤i)(h2:i<9223372036854775807):PEv P n ds l w ⟨d,.binOp .sub T x y T',ty,ps,af,g⟩ (.int .i64 ((i-j:Nat):Int)):=by
 have:=PEv.sub (P:=P) (n:=n) (ds:=ds) (l:=l) (w:=w) (d:=d) (ty:=ty) (ps:=ps) (af:=af) (g:=g) (T:=T) (T':=T') hx hy oQ oQ
 rw[Int.ofNat_sub h];exact this
theorem PEv.Ee{T e k:Nat}{x ix:Operand}{B o size:Nat}{j:Nat}(hT:P.underlying T=some (.array k e))(hs:∀w,(sizeOf e).run P w=.ok size w)(hx:Val l x (.pointer (some ⟨B,o,none⟩)))(hi:Val l ix (.int .i64 (j:Int)))(hj:j<k):
   PEv P n ds l w ⟨d,.indexAddr T x ix,ty,ps,af,g⟩ (.pointer (some ⟨B,o+j*size,none⟩)):=fun a w' ha _=>by
 refine Ct ?_
 rw[ha.ev hx,ha.ev hi]
 simp[Instr.indexAt,asIntOf,run_underlying hT,Sem.run_bind,Instr.sureAddr,hs,E4,hj]
theorem PEv.dec{T T':TypeId}{x:Operand}{i:Nat}(hx:Val l x (.int .i64 (i:Int)))(h:1≤i)(h2:i<9223372036854775807):PEv P n ds l w ⟨d,.binOp .sub T x (.const (.int .i64 1)) T',ty,ps,af,g⟩ (.int .i64 ((i-1:Nat):Int)):=by
 have:=PEv.sub (P:=P) (n:=n) (ds:=ds) (l:=l) (w:=w) (d:=d) (ty:=ty) (ps:=ps) (af:=af) (g:=g) (T:=T) (T':=T') hx (.const (.int .i64 1)) oQ oQ
 rw[Int.ofNat_sub h];exact this
end
theorem SEv.mono{P:Program}{n:Nat}{ds:List Deferred}{l:Env}{w:World}{o:Oper}{Post Post':World→Prop}(h:SEv P n ds l w o Post)(k:∀w',Post w'→Post' w'):SEv P n ds l w o Post':=fun a ha=>let⟨w',h1,h2⟩:=h a ha;⟨w',h1,k w' h2⟩
def Pk(ops:Array Oper)(i s:Nat):Bool:=match ops[s]? with
 |none=>false
 |some o=>o.after.any fun e=>Region.binds .any e&&Nat.beq e.on i
theorem Qh{ops:Array Oper}{i s:Nat}(h:Pk ops i s=true):∃o,ops[s]?=some o∧∃e∈o.after,Region.binds .any e=true∧e.on=i:=by
 unfold Pk at h
 cases ho:ops[s]? with
 |none=>rw[ho]at h;cases h
 |some o=>
   rw[ho]at h
   obtain⟨q,hq,h2⟩:=fe.1 h
   simp only[bm]at h2
   exact⟨o,rfl,_,dz hq,h2.1,ca h2.2⟩
section
variable {R:Option Nat}{m:Nat}{P:Program}{n:Nat}{ds:List Deferred}{Q:Exit→Go.Act→World→Prop}{l:Env}{w:World}{ops:Array Oper}
theorem Jj{id:Nat}{opsL:List Oper}(s1 s2:Nat)(vs:List Value)(A0 A1 A2:World→Prop)(hm:P.follows .mixedOrders=true)(hl:Ck l=true)
   (hA:D6 opsL.toArray=true)(hF:I3 opsL.toArray opsL.toArray.size=true)(hD:G5 n opsL.toArray 0 opsL.toArray.size=true)(hs:Pk opsL.toArray s1 s2=true)(hns:Nat.beq s1 s2=false)
   (hfree:J8 l opsL=true)(h0:A0 w.drew)
   (hop:allL (fun i o=>(i=s1∨i=s2)∨(o.guard=none∧((Pk opsL.toArray i s1=true∧∀W,A0 W→PEv P n ds (L4 opsL.toArray (fun i=>.eq (vs.getD i undef)) 0 o++l) W o (vs.getD i undef))∨∀W,PEv P n ds (L4 opsL.toArray (fun i=>.eq (vs.getD i undef)) 0 o++l) W o (vs.getD i undef)))) 0 opsL)
   (o1 o2:Oper)(ho1:opsL[s1]?=some o1)(ho2:opsL[s2]?=some o2)(hg1:o1.guard=none∧o1.dst=none)(hg2:o2.guard=none∧o2.dst=none)
   (hs1:∀W,A0 W→SEv P n ds (L4 opsL.toArray (fun i=>.eq (vs.getD i undef)) 0 o1++l) W o1 A1)(hs2:∀W,A1 W→SEv P n ds (L4 opsL.toArray (fun i=>.eq (vs.getD i undef)) 0 o2++l) W o2 A2)
   (hend:∀W,A2 W→KW n ds (Q .normal) l W):CW R m P n ds (.region id opsL.toArray true) Q l w:=by
 have hbd:∀i ph,lk l i=some ph→∀(j:Nat)(o:Oper),0≤j→j<opsL.toArray.size→opsL.toArray[j]?=some o→o.dst≠some i:=fun i ph hi j o _ hjk ho=>G4 hfree hi (ae (by simpa using ho))
 obtain⟨p2,hp2,e2,he2,hb2,hon2⟩:=Qh hs
 have ho1':opsL.toArray[s1]?=some o1:=by simpa using ho1
 have ho2':opsL.toArray[s2]?=some o2:=by simpa using ho2
 have:p2=o2:=by rw[ho2']at hp2;cases hp2;rfl
 subst this
 have hl1:s1<opsL.toArray.size:=(bx.1 ho1').1
 have hl2:s2<opsL.toArray.size:=(bx.1 ho2').1
 have hne:s1≠s2:=fun e=>by subst e;simp at hns
 refine Fu hm hl fun fuel listed a hf hu ha=>(Jg (s:=0) (k:=opsL.toArray.size) (fun i=>.eq (vs.getD i undef)) (fun _ _=>True) (fun L _ W=>if L s2=true then A2 W else if L s1=true then A1 W else A0 W) (f0:=fun t=>a.tmps.getD t undef) (fun _=>trivial) (fun _ _ _ _ _=>trivial) (fun _ _ _ _ h _=>h) hA (by simp) hF (by simp) (by simp) hD hl hbd ?_ ?_ ?_ fuel listed a hf hu ha (fun _=>rfl))
 · intro i o _ hi hio L f W _ hDn hLi hed hInv a ha hsl
   have hio':opsL[i]?=some o:=by simpa using hio
   by_cases e1:i=s1
   · subst e1
     rw[ho1']at hio;cases hio
     rw[ap (by simp[Region.wanted,hg1.1])]
     have n2:L s2=false:=by
       cases h:L s2 with
       |false=>rfl
       |true=>have:=hDn s2 _ ho2' h e2 he2 hb2;rw[hon2,hLi]at this;cases this
     rw[n2,hLi]at hInv
     obtain⟨W',hr,hp⟩:=hs1 W hInv a ha
     refine .inr ⟨W',hr,trivial,(fun d hd=>by rw[hg1.2]at hd;cases hd),?_⟩
     have t1:C6 L i s2=false:=by simp[C6,Ne.symm hne,n2]
     have t2:C6 L i i=true:=by simp[C6]
     rw[t1,t2]
     exact hp
   by_cases e3:i=s2
   · subst e3
     rw[ho2']at hio;cases hio
     rw[ap (by simp[Region.wanted,hg2.1])]
     have y1:L s1=true:=by have:=hed e2 he2 hb2;rwa [hon2]at this
     rw[hLi,y1]at hInv
     obtain⟨W',hr,hp⟩:=hs2 W hInv a ha
     refine .inr ⟨W',hr,trivial,(fun d hd=>by rw[hg2.2]at hd;cases hd),?_⟩
     have t2:C6 L i i=true:=by simp[C6]
     rw[t2]
     exact hp
   have h3:=hop.at hio'
   rw[c_]at h3
   rcases h3 with(h|h)|⟨hg,h3⟩
   · exact absurd h e1
   · exact absurd h e3
   rw[ap (by simp[Region.wanted,hg])]
   have q1:C6 L i s1=L s1:=by simp[C6,Ne.symm e1]
   have q2:C6 L i s2=L s2:=by simp[C6,Ne.symm e3]
   have hr:(execOp a.eval o).run P W=.ok (.value (vs.getD i undef)) W:=by
     rcases h3 with⟨hE,h3⟩|h3
     · obtain⟨p,hp,e,he,hb,hon⟩:=Qh hE
       have n1:L s1=false:=by
         cases h:L s1 with
         |false=>rfl
         |true=>have:=hDn s1 p hp h e he hb;rw[hon,hLi]at this;cases this
       have n2:L s2=false:=by
         cases h:L s2 with
         |false=>rfl
         |true=>have:=hDn s2 _ ho2' h e2 he2 hb2;rw[hon2,n1]at this;cases this
       rw[n1,n2]at hInv
       exact h3 W hInv a W ha (Up.refl W)
     exact h3 W a W ha (Up.refl W)
   refine .inl (.inl ⟨_,W,hr,trivial,fun _ _=>rfl,?_⟩)
   rw[q1,q2]
   exact hInv
 · simpa using h0
 intro f W _ hInv fuel' listed' a' hf' hu' ha' hsl'
 have hInv:A2 W:=by
   rw[ap (be hl2)]at hInv
   exact hInv
 have hall:∀j,j<opsL.toArray.size→listed'.getD j false=true:=fun j hj=>by rw[hu'.2 j hj];simpa using hj
 have hrd:Region.ready .any opsL.toArray listed'=[]:=by
   rw[f6]
   intro i hi
   obtain⟨o,hio,hbi,_⟩:=(Fk hu'.1).1 hi
   have:=hall i (bx.1 hio).1
   rw[hbi]at this;cases this
 have hq:Q .normal a' W:=hend W hInv a' ⟨ha'.defers,ha'.size,fun t q ht=>by
   refine ha'.val t q ?_
   rw[Gp]
   · exact ht
   cases hq:lk (Hn opsL.toArray (fun i=>.eq (vs.getD i undef)) 0 opsL.toArray.size) t with
   |none=>rfl
   |some q'=>
     obtain⟨j,p,_,hjk,hp,hpd,_⟩:=F1 hq
     exact absurd hpd (hbd t q ht j p (au _) hjk hp)⟩
 cases fuel' with
 |zero=>exact⟨hrd,hq⟩
 |succ fuel'=>exact⟨fun _=>hq,fun i hi=>by rw[hrd]at hi;cases hi⟩
end
theorem S9{α:Type}(f:α→List Value)(k j:Nat)(v:Value)(hf:∀x,(f x).length=k)(hj:j<k):∀(xs:List α)(i:Nat)(x0 z:α),xs[i]?=some x0→f z=(f x0).set j v→(xs.set i z).flatMap f=(xs.flatMap f).set (i*k+j) v
 |[],_,_,_,h,_=>by simp at h
 |x::xs,0,x0,z,h,hz=>by
   have e:x=x0:=by simpa using h
   subst e
   rw[List.set_cons_zero,cd,cd,hz,List.set_append_left _ _ (by rw[hf];omega)]
   congr 2;omega
 |x::xs,i+1,x0,z,h,hz=>by
   rw[f8,cd,cd,S9 f k j v hf hj xs i x0 z (by simpa using h) hz]
   have e1:(i+1)*k=k+i*k:=by rw[eg,jo,ji]
   rw[List.set_append_right _ _ (by rw[hf,e1];omega),hf,e1]
   congr 2;omega
section
variable {P:Program}{n:Nat}{ds:List Deferred}{l:Env}{w:World}{ty:TypeId}{ps:String}{af:Array Edge}{g:Option (Nat×Bool)}
theorem SEv.Hy{α:Type}{enc:α→Array Value}{k:Nat}{e T:TypeId}{x y:Operand}{B m cp i j:Nat}{xs:List α}{x0 z:α}{v:Value}(hs:∀w,(sizeOf T).run P w=.ok 1 w)(hk:∀x,(enc x).size=k)(h1:v.oneCell'=true)(hx:Val l x (.pointer (some ⟨B,0+i*k+j,none⟩)))(hy:Val l y v)(ho:OwnS w 0 e k enc (.slice (some ⟨B,0,none⟩) m cp) xs)(hx0:xs[i]?=some x0)(hj:j<k)(hz:(enc z).toList=(enc x0).toList.set j v):
   SEv P n ds l w ⟨none,.store T x y,ty,ps,af,g⟩ (fun w'=>Stp (Az e k enc (.slice (some ⟨B,0,none⟩) m cp) xs) (Az e k enc (.slice (some ⟨B,0,none⟩) m cp) (xs.set i z)) w w'):=fun a ha=>by
 have hi:=(ak.1 hx0).1
 have hkl:∀x,(enc x).toList.length=k:=fun x=>by rw[cw,hk]
 obtain⟨hl,⟨e',_⟩|⟨g',cap,cur,e',hb,hg,hcap,hcm,hcs,htk⟩⟩:=ho
 · cases e'
 cases e'
 have hik:i*k+k≤xs.length*k:=by
   have:(i+1)*k≤xs.length*k:=fb k hi
   rw[eg,jo]at this
   exact this
 have hmk:xs.length*k≤cp*k:=fb k oQ
 obtain⟨w',hr,hset⟩:=SEv.store (P:=P) (n:=n) (ds:=ds) (l:=l) (w:=w) (ty:=ty) (ps:=ps) (af:=af) (g:=g) hs hx hy h1 (show Blk w B cur e from hg) (by rw[hcs];omega) a ha
 refine⟨w',hr,hset.sto.fr.mono (fun i(e:i=B)=>by rw[e];rfl),⟨by rw[de,Gh _ k hkl,de],.inr ⟨B,cp,_,by rw[de],hb,hset.blk,by rw[de];omega,hcm,?_,?_⟩⟩,fun _ h=>.inl h⟩
 · rw[iv];exact hcs
 rw[de,S9 (fun x=>(enc x).toList) k j v hkl hj xs i x0 z hx0 hz,←htk,gk,List.take_set,c_]
end
section
variable {P:Program}{n:Nat}{ds:List Deferred}{l:Env}{w:World}{d:Option Tmp}{ty:TypeId}{ps:String}{af:Array Edge}{g:Option (Nat×Bool)}
theorem PEv.iZ{T Ts e:TypeId}{x:Operand}{v:Value}{bs:List UInt8}(hT:P.underlying T=some (.slice e))(he:P.underlying e=some (.int .u8))(hTs:P.underlying Ts=some .string)(hx:Val l x v)(hS:Sl w v 1 Nz bs):
   PEv P n ds l w ⟨d,.convert T Ts x,ty,ps,af,g⟩ (.string ⟨bs.toArray⟩):=fun a w' ha hu=>by
 refine Ct ?_
 rw[ha.ev hx]
 obtain⟨ad,c,rfl,hE⟩:=hS
 cases ad with
 |none=>
   have hbs:bs=[]:=by
     cases bs with
     |nil=>rfl
     |cons b r=>obtain⟨B,o,e,_⟩:=hE 0 b rfl;cases e
   subst hbs
   exact run_convert_bytes_nil (P:=P) w' T e hT he 0 c Ts hTs
 |some a0=>
   refine run_convert_bytes_back (P:=P) w' T Ts e a0 c bs hT he hTs (fun q hq=>?_)
   obtain⟨B,o,e,hc⟩:=hE q bs[q] (cj hq)
   cases e
   rw[E4]
   have:=hc 0 (bv bs[q]) rfl
   simp only[ez,f7]at this
   exact Pc this hu
end
theorem Sep.M2{α:Type}{S0:Nat→Prop}{w0 w:World}{As:List Asr}{e k:Nat}{enc:α→Array Value}(h:Sep S0 w0 w As)(ho:OwnS w 0 e k enc (.slice none 0 0) ([]:List α)):Sep S0 w0 w (As++[Az e k enc (.slice none 0 0) ([]:List α)]):=h.add (Up.refl _) ho (fun i h=>by cases h)
theorem Sep.perm{S0:Nat→Prop}{w0 w:World}{As Bs:List Asr}(h:Sep S0 w0 w As)(p:As.Perm Bs):Sep S0 w0 w Bs:=⟨h.fr,fun B hB=>h.each B (p.mem_iff.2 hB),(p.pairwise_iff (fun{_ _}hAB i hi hj=>hAB i hj hi)).1 h.apart⟩
theorem OwnS.DK{α:Type}{enc:α→Array Value}{b k n cp:Nat}{e:TypeId}{w:World}{ad:Option Addr}{xs:List α}(h:OwnS w b e k enc (.slice ad n cp) xs)(hne:0<xs.length):∃g,ad=some ⟨g,0,none⟩:=by
 obtain⟨_,⟨e1,e2⟩|⟨g,cap,cur,e1,_⟩⟩:=h
 · omega
 cases e1;exact⟨g,rfl⟩
section
variable {R:Option Nat}{m:Nat}{P:Program}{n:Nat}{ds:List Deferred}{Q:Exit→Go.Act→World→Prop}{l:Env}{w:World}{ops:Array Oper}
theorem AWF.nN{k ia is isv sa sv:Nat}{T:TypeId}{z:Array Value}{base:Env}(ph:Nat→Ph){f0:Nat→Value}(hz:∀w,(zeroValue T).run P w=.ok (.agg z) w)(hs:∀w,(sizeOf T).run P w=.ok z.size w)
   (hph:∀i v w w',(ph i).holds v w→KeepT T w w'→(ph i).holds v w')(hA:D6 ops=true)(hC:(Nat.beq k ops.size||Ft ops k)=true)(hF:I3 ops k=true)(hks:Nat.ble k ops.size=true)
   (hD:G5 n ops 0 k=true)(hbp:Ck base=true)(hbd:∀i ph,lk base i=some ph→∀(j:Nat)(o:Oper),0≤j→j<k→ops[j]?=some o→o.dst≠some i)
   (hlit:My ops ia [(is,0,sv)]=true)(hik:is<k)(hiak:ia<k)(hne:ia≠is)
   (hia:∃ty ps af,ops[ia]?=some ⟨some sa,.alloc T,ty,ps,af,none⟩)(his:∃ty ps af,ops[is]?=some ⟨none,.store T (.tmp sa) (.tmp sv),ty,ps,af,none⟩)
   (hlk:∀o,ops[is]?=some o→lk (L4 ops ph 0 o++base) sv=some (ph isv))(hsv:∀v W,(ph isv).holds v W→∃cs,v=.agg cs∧cs.size=z.size∧cs.all (·.oneCell')=true)
   (hpa:∀B W,(ph ia).holds (.pointer (some ⟨B,0,none⟩)) W)
   (hop:∀i o,i<k→i≠ia→i≠is→ops[i]?=some o→o.guard=none∧∀W,Up w W→∀a,Ag n ds (L4 ops ph 0 o++base) a W→gV P o a W (fun v W'=>Up W W'∧(ph i).holds v W'))
   (hend:∀f W B,Up w W→f sa=.pointer (some ⟨B,0,none⟩)→w.heap.size≤B→Blk W B (f sv).cells T→AWF R m P n ds ops Q k (Hn ops ph 0 k++base) f W):AWF R m P n ds ops Q 0 base f0 w:=by
 obtain⟨os,hos,hods,⟨e,he,hbe,hon⟩,⟨e',he',hbe',pv,hpv,hpvd⟩⟩:=Gn hlit bl
 refine Jg ph (KeepT T) (nC ia is sa sv T z w) (KeepT.refl T) (fun _ _ _=>KeepT.trans) hph hA hC hF hks (by simp) hD hbp hbd ?_ ⟨Up.refl w,fun h=>by simp at h,fun h=>by simp at h⟩ ?_
 · intro i o _ hi hio L f W hRel hDn hLi hed hInv
   obtain⟨hUp,hsa,hInv⟩:=hInv
   by_cases e0:i=ia
   · subst e0
     obtain⟨ty,ps,af,hia⟩:=hia
     rw[hio]at hia;cases hia
     intro a ha hsl
     rw[ap (by simp[Region.wanted])]
     obtain⟨v,W',hr,B,rfl,N⟩:=REv.Bt (P:=P) (n:=n) (ds:=ds) (l:=L4 ops ph 0 _++base) (w:=W) (d:=some sa) (ty:=ty) (ps:=ps) (af:=af) (g:=none) hz a ha
     have hLs:L is=false:=by
       cases h:L is with
       |false=>rfl
       |true=>rw[hsa h]at hLi;cases hLi
     refine .inl (.inl ⟨_,W',hr,N.up.C8,fun _ _=>hpa B W',hUp.trans N.up,fun _=>by simp[C6],fun _=>⟨B,by simp[E3],by rw[N.at_];exact hUp.size,?_⟩⟩)
     have:C6 L i is=false:=by simp[C6,Ne.symm hne,hLs]
     rw[this]
     exact N.blk
   by_cases e1:i=is
   · subst e1
     have hLa:L ia=true:=by rw[hos]at hio;cases hio;rw[←hon];exact hed e he hbe
     obtain⟨ty,ps,af,his⟩:=his
     rw[hio]at his;cases his
     intro a ha hsl
     rw[ap (by simp[Region.wanted])]
     obtain⟨B,h1,hB,hblk⟩:=hInv hLa
     rw[hLi]at hblk
     obtain⟨cs,hcs,hcz,hc1⟩:=hsv _ W (ha.val sv _ (hlk _ hio))
     have hfs:f sv=.agg cs:=by rw[←hsl];exact hcs
     have hag:Ag n ds [(sv,.eq (.agg cs)),(sa,.eq (.pointer (some ⟨B,0,none⟩)))] a W:=by
       refine⟨ha.defers,ha.size,fun t q ht=>?_⟩
       by_cases e1:t=sv
       · subst e1;rw[A9]at ht;cases ht;exact hcs
       rw[Be e1]at ht
       by_cases e2:t=sa
       · subst e2;rw[A9]at ht;cases ht;exact(hsl _).trans h1
       rw[Be e2]at ht;cases ht
     have hsn:sa≠sv:=fun e'=>by rw[e',hfs]at h1;cases h1
     obtain⟨W',hr,hset⟩:=SEv.Ca (P:=P) (n:=n) (ds:=ds) (w:=W) (l:=[(sv,.eq (.agg cs)),(sa,.eq (.pointer (some ⟨B,0,none⟩)))]) (x:=.tmp sa) (y:=.tmp sv) (ty:=ty) (ps:=ps) (af:=af) (g:=none) hs hcz (.tmp (by rw[Be hsn,A9])) (.tmp A9) hc1 hblk (by simp) a hag
     refine .inr ⟨W',hr,hset.sto.C8 (by rw[hset.size];exact a8 _) hblk,(fun d hd=>by cases hd),hUp.sto hset.sto hB,fun _=>by simp[C6,hLa],fun _=>⟨B,h1,hB,?_⟩⟩
     have h2:C6 L i i=true:=by simp[C6]
     rw[h2,ap rfl]
     show Blk W' B (f sv).cells T
     rw[hfs]
     exact hset.blk
   obtain⟨hg,hop⟩:=hop i o hi e0 e1 hio
   intro a ha hsl
   rw[ap (by simp[Region.wanted,hg])]
   have done:∀v W',Up W W'∧(ph i).holds v W'→KeepT T W W'∧(∀d,o.dst=some d→(ph i).holds v W')∧nC ia is sa sv T z w (C6 L i) (E3 f o.dst v) W':=by
     rintro v W' ⟨hu,hv⟩
     have ela:C6 L i ia=L ia:=by simp[C6,Ne.symm e0]
     have els:C6 L i is=L is:=by simp[C6,Ne.symm e1]
     refine⟨hu.C8,fun _ _=>hv,hUp.trans hu,fun h=>by rw[ela];rw[els]at h;exact hsa h,fun hm=>?_⟩
     rw[ela]at hm
     obtain⟨B,h1,hB,hblk⟩:=hInv hm
     have hn1:o.dst≠some sa:=by
       obtain⟨ty,ps,af,hia⟩:=hia
       intro ed
       exact(De hD (au _) hi hio ed).2 ia _ (au _) hiak (Ne.symm e0) hia rfl
     refine⟨B,by simpa[E3,hn1]using h1,hB,?_⟩
     rw[els]
     cases hLs:L is with
     |false=>rw[hLs]at hblk;exact hblk.up hu
     |true=>
       rw[hLs]at hblk
       have hn2:o.dst≠some sv:=by
         intro ed
         have h2:=hDn _ _ hos hLs e' he' hbe'
         have h3:=Du hA hos e' he' hbe'
         by_cases ee:e'.on=i
         · rw[ee,hLi]at h2;cases h2
         exact(De hD (au _) hi hio ed).2 e'.on pv (au _) (by have:e'.on<is:=h3;omega) ee hpv hpvd
       have h4:E3 f o.dst v sv=f sv:=by simp[E3,hn2]
       rw[h4]
       exact hblk.up hu
   rcases hop W hUp a ha with⟨v,W',hr,hp⟩|⟨fn,args,w1,hr,hc⟩
   · exact .inl (.inl ⟨v,W',hr,done v W' hp⟩)
   exact .inl (.inr ⟨fn,args,w1,hr,hc.mono done⟩)
 intro f W hRel hInv
 obtain⟨hUp,_,hInv⟩:=hInv
 obtain⟨B,h1,hB,h2⟩:=hInv (by simpa using hiak)
 rw[ap (by simpa using hik)]at h2
 exact hend f W B hUp h1 hB h2
theorem bX{id:Nat}{opsL:List Oper}(k ia is isv sa sv:Nat)(z:Array Value)(phs:List Ph)(keep:List Nat){T:TypeId}(hz:∀w,(zeroValue T).run P w=.ok (.agg z) w)(hs:∀w,(sizeOf T).run P w=.ok z.size w)(hm:P.follows .mixedOrders=true)(hl:Ck l=true)
   (hA:D6 opsL.toArray=true)(hC:(Nat.beq k opsL.toArray.size||Ft opsL.toArray k)=true)(hF:I3 opsL.toArray k=true)(hks:Nat.ble k opsL.toArray.size=true)(hD:G5 n opsL.toArray 0 k=true)(hlit:My opsL.toArray ia [(is,0,sv)]=true)(hTl:G3 opsL.toArray k=true)
   (hfree:J8 l (opsL.take k)=true)(hidx:(Nat.ble (is+1) k&&(Nat.ble (ia+1) k&& !Nat.beq ia is))=true)
   (hia:∃ty ps af,opsL[ia]?=some ⟨some sa,.alloc T,ty,ps,af,none⟩)(os:Oper)(hos:opsL[is]?=some os)(his:∃ty ps af,os=⟨none,.store T (.tmp sa) (.tmp sv),ty,ps,af,none⟩)(hph:allT T phs)
   (hlk:lk (L4 opsL.toArray (fun i=>phs.getD i (.eq undef)) 0 os++l) sv=some (phs.getD isv (.eq undef)))(hsv:∀v W,(phs.getD isv (.eq undef)).holds v W→∃cs,v=.agg cs∧cs.size=z.size∧cs.all (·.oneCell')=true)
   (hpa:∀B W,(phs.getD ia (.eq undef)).holds (.pointer (some ⟨B,0,none⟩)) W)
   (hop:∀W,Up w.drew W→allL (fun i o=>(i=ia∨i=is)∨(o.guard=none∧TU P n ds (L4 opsL.toArray (fun i=>phs.getD i (.eq undef)) 0 o++l) W o (phs.getD i (.eq undef)))) 0 (opsL.take k))
   (hend:∀W B(g:Nat→Value),Up w.drew W→w.drew.heap.size≤B→Blk W B (g sv).cells T→(∀i o d,i<k→opsL[i]?=some o→o.dst=some d→(phs.getD i (.eq undef)).holds (g d) W)→LW R m P n ds opsL.toArray Q (opsL.drop k) ((sa,.eq (.pointer (some ⟨B,0,none⟩)))::(keep.map (fun d=>(d,.eq (g d)))++l)) W):
   CW R m P n ds (.region id opsL.toArray true) Q l w:=by
 simp only[bm]at hidx
 obtain⟨hik,hiak,hne⟩:=hidx
 have hik:is<k:=a_ hik
 have hiak:ia<k:=a_ hiak
 have hne:ia≠is:=fun e=>by subst e;simp at hne
 have hks':k≤opsL.length:=by have:=a_ hks;simp at this;omega
 have sub:∀j o,j<k→opsL.toArray[j]?=some o→(opsL.take k)[j]?=some o:=fun j o hjk ho=>by
   rw[di hjk];simpa using ho
 have hbd:∀i ph,lk l i=some ph→∀(j:Nat)(o:Oper),0≤j→j<k→opsL.toArray[j]?=some o→o.dst≠some i:=fun i ph hi j o _ hjk ho=>G4 hfree hi (ae (sub j o hjk ho))
 refine Fu hm hl fun fuel listed a hf hu ha=>(AWF.nN (k:=k) (ia:=ia) (is:=is) (isv:=isv) (sa:=sa) (sv:=sv) (T:=T) (z:=z) (fun i=>phs.getD i (.eq undef)) (f0:=fun t=>a.tmps.getD t undef) hz hs (fun i v w w' h u=>(hph.at i) v w w' h u) hA hC hF hks hD hl hbd hlit hik hiak hne (by simpa using hia) ?_ ?_ hsv hpa ?_ ?_ fuel listed a hf hu ha (fun _=>rfl))
 · obtain⟨ty,ps,af,e⟩:=his
   exact⟨ty,ps,af,by rw[←e];simpa using hos⟩
 · intro o ho
   have:opsL[is]?=some o:=by simpa using ho
   rw[hos]at this;cases this
   exact hlk
 · intro i o hi h1 h2 ho
   have h0:=(hop w.drew (Up.refl _)).at (sub i o hi ho)
   rw[c_]at h0
   rcases h0 with(e|e)|⟨hg,_⟩
   · exact absurd e h1
   · exact absurd e h2
   refine⟨hg,fun W hW a ha=>?_⟩
   have h3:=(hop W hW).at (sub i o hi ho)
   rw[c_]at h3
   rcases h3 with(e|e)|⟨_,h⟩
   · exact absurd e h1
   · exact absurd e h2
   exact h a ha
 intro f W B hUp hfa hB hblk fuel' listed' a' hf' hu' ha' hsl'
 have key:∀i o d,i<k→opsL[i]?=some o→o.dst=some d→(phs.getD i (.eq undef)).holds (f d) W:=by
   intro i o d hik ho hd
   have ho':opsL.toArray[i]?=some o:=by simpa using ho
   have hmem:(d,phs.getD i (.eq undef))∈Hn opsL.toArray (fun i=>phs.getD i (.eq undef)) 0 k:=by
     unfold Hn
     rw[fi]
     exact⟨i,b_.2 hik,by rw[ap (by simp),ho'];simp[hd]⟩
   obtain⟨q',hq⟩:=Hw hmem
   obtain⟨j,p,_,hjk,hp,hpd,e⟩:=F1 hq
   have:j=i:=by
     by_cases ee:j=i
     · exact ee
     exact absurd hpd ((De hD (au _) hik ho' hd).2 j p (au _) hjk ee hp)
   subst this
   have:=ha'.val d q' (K4 hq)
   rw[hsl',e]at this
   exact this
 refine Fs hTl hA (opsL.toArray.size-k) k fuel' listed' a' W rfl (by simp;omega) (a8 _) hf' hu' (hend W B f hUp hB hblk key a' ⟨ha'.defers,ha'.size,fun t q ht=>?_⟩)
 by_cases e:t=sa
 · subst e;rw[A9]at ht;cases ht
   exact(hsl' _).trans hfa
 rw[Be e]at ht
 rcases Dd ht with h|h
 · obtain⟨d,_,he⟩:=bj.1 (J7 h)
   cases he
   exact hsl' _
 refine ha'.val t q ?_
 rw[Gp]
 · exact h
 cases hq:lk (Hn opsL.toArray (fun i=>phs.getD i (.eq undef)) 0 k) t with
 |none=>rfl
 |some q'=>
   obtain⟨j,p,_,hjk,hp,hpd,_⟩:=F1 hq
   exact absurd hpd (hbd t q h j p (au _) hjk hp)
end
def Pm(ops:Array Oper):List Nat→List Nat→Bool
 |_,[]=>true
 |acc,j::r=>(match ops[j]? with|some o=>o.after.any fun e=>Region.binds .any e&&acc.contains e.on|none=>false)&&Pm ops (j::acc) r
def M3(ops:Array Oper):List Nat→List Nat→Bool
 |_,[]=>true
 |acc,j::r=>(acc.any fun i=>match ops[i]? with|some o=>o.after.any fun e=>Region.binds .any e&&Nat.beq e.on j|none=>false)&&M3 ops (j::acc) r
def rW(ops:Array Oper)(k h:Nat)(early:List Nat):Bool:=(List.range k).all fun i=>Nat.beq i h||early.contains i||(match ops[i]? with|some o=>o.after.all fun e=> !(Region.binds .any e&&early.contains e.on)|none=>true)
def keptL(K:World→World→Prop)(skip:List Nat):Nat→List Ph→Prop
 |_,[]=>True
 |i,q::r=>(skip.contains i=true∨∀v W W',q.holds v W→K W W'→q.holds v W')∧keptL K skip (i+1) r
theorem keptL.at{K:World→World→Prop}{skip:List Nat}:∀{l:List Ph}{s:Nat},keptL K skip s l→∀i,skip.contains (s+i)=false→∀v W W',(l.getD i (.eq undef)).holds v W→K W W'→(l.getD i (.eq undef)).holds v W'
 |[],_,_,i,_,v,W,W',h,_=>by
   have e:([]:List Ph).getD i (.eq undef)=.eq undef:=by simp
   rw[e]at h⊢
   exact h
 |q::r,s,hk,0,hs,v,W,W',h,k=>by
   rcases hk.1 with e|e
   · rw[show s+0=s from rfl]at hs;rw[hs]at e;cases e
   simpa using e v W W' (by simpa using h) k
 |q::r,s,hk,i+1,hs,v,W,W',h,k=>by
   simpa using hk.2.at i (by rw[show s+1+i=s+(i+1)by omega];exact hs) v W W' (by simpa using h) k
theorem bY{ops:Array Oper}{L:Nat→Bool}{h:Nat}(hDn:CG ops L):∀{late acc:List Nat},Pm ops acc late=true→(∀i∈acc,L i=true→L h=true)→∀j∈late,L j=true→L h=true
 |[],_,_,_,j,hj,_=>by cases hj
 |i::r,acc,hl,ha,j,hj,hL=>by
   unfold Pm at hl
   rw[bm]at hl
   have hi:L i=true→L h=true:=fun h1=>by
     cases ho:ops[i]? with
     |none=>rw[ho]at hl;cases hl.1
     |some o=>
       rw[ho]at hl
       obtain⟨e,he,hb⟩:=Array.any_eq_true'.1 hl.1
       rw[bm]at hb
       exact ha e.on (by simpa using hb.2) (hDn i o ho h1 e he hb.1)
   rcases bg.1 hj with rfl|hj
   · exact hi hL
   exact bY hDn hl.2 (fun m hm h2=>(bg.1 hm).elim (fun e=>hi (e▸h2)) (fun hm=>ha m hm h2)) j hj hL
theorem V8{ops:Array Oper}{L:Nat→Bool}(hDn:CG ops L):∀{early acc:List Nat},M3 ops acc early=true→(∀i∈acc,L i=true)→∀j∈early,L j=true
 |[],_,_,_,j,hj=>by cases hj
 |i::r,acc,hl,ha,j,hj=>by
   unfold M3 at hl
   rw[bm]at hl
   have hi:L i=true:=by
     obtain⟨m,hm,h1⟩:=gp.1 hl.1
     cases ho:ops[m]? with
     |none=>rw[ho]at h1;cases h1
     |some o=>
       rw[ho]at h1
       obtain⟨e,he,hb⟩:=Array.any_eq_true'.1 h1
       rw[bm]at hb
       rw[←ca hb.2]
       exact hDn m o ho (ha m hm) e he hb.1
   rcases bg.1 hj with rfl|hj
   · exact hi
   exact V8 hDn hl.2 (fun m hm=>(bg.1 hm).elim (fun e=>e▸hi) (fun hm=>ha m hm)) j hj
section
variable {R:Option Nat}{m:Nat}{P:Program}{n:Nat}{ds:List Deferred}{Q:Exit→Go.Act→World→Prop}{l:Env}{w:World}
theorem V9{id:Nat}{opsL:List Oper}(k h:Nat)(early late:List Nat)(phs:List Ph)(keep:List Nat)(K:World→World→Prop)(hm:P.follows .mixedOrders=true)(hl:Ck l=true)
   (hA:D6 opsL.toArray=true)(hC:(Nat.beq k opsL.toArray.size||Ft opsL.toArray k)=true)(hF:I3 opsL.toArray k=true)(hks:Nat.ble k opsL.toArray.size=true)(hD:G5 n opsL.toArray 0 k=true)(hTl:G3 opsL.toArray k=true)
   (hfree:J8 l (opsL.take k)=true)(hla:Pm opsL.toArray [h] late=true)(hea:M3 opsL.toArray [h] early=true)(hus:rW opsL.toArray k h early=true)(hph:allU phs)(hkp:keptL K (h::(early++late)) 0 phs)
   (hop:∀W,Up w.drew W→allL (fun i o=>o.guard=none∧(i≠h→TU P n ds (L4 opsL.toArray (fun i=>phs.getD i (.eq undef)) 0 o++l) W o (phs.getD i (.eq undef)))∧
     (i=h→∀a,Ag n ds (L4 opsL.toArray (fun i=>phs.getD i (.eq undef)) 0 o++l) a W→gV P o a W (fun v W'=>(Up w.drew W'∧K W W')∧(phs.getD i (.eq undef)).holds v W'))) 0 (opsL.take k))
   (hend:∀W(g:Nat→Value),Up w.drew W→(∀i o d,i<k→early.contains i=false→opsL[i]?=some o→o.dst=some d→(phs.getD i (.eq undef)).holds (g d) W)→LW R m P n ds opsL.toArray Q (opsL.drop k) (keep.map (fun d=>(d,.eq (g d)))++l) W):
   CW R m P n ds (.region id opsL.toArray true) Q l w:=by
 have hks':k≤opsL.length:=by have:=a_ hks;simp at this;omega
 have sub:∀j o,j<k→opsL.toArray[j]?=some o→(opsL.take k)[j]?=some o:=fun j o hjk ho=>by
   rw[di hjk];simpa using ho
 have hbd:∀i ph,lk l i=some ph→∀(j:Nat)(o:Oper),0≤j→j<k→opsL.toArray[j]?=some o→o.dst≠some i:=fun i ph hi j o _ hjk ho=>G4 hfree hi (ae (sub j o hjk ho))
 refine Fu hm hl fun fuel listed a hf hu ha=>(Jg (k:=k) (fun _=>.pred fun _ _=>True) (fun _ _=>True) (fun L f W=>Up w.drew W∧∀(j:Nat)(o:Oper)(d:Nat),j<k→L j=true→opsL.toArray[j]?=some o→o.dst=some d→(early.contains j=true→L h=false)→(phs.getD j (.eq undef)).holds (f d) W) (f0:=fun t=>a.tmps.getD t undef) (fun _=>trivial) (fun _ _ _ _ _=>trivial) (fun _ _ _ _ _ _=>trivial) hA hC hF hks (by simp) hD hl hbd ?_ ⟨Up.refl _,fun j o d _ hj=>by simp at hj⟩ ?_ fuel listed a hf hu ha (fun _=>rfl))
 · intro i o _ hi hio L f W _ hDn hLi hed hInv a ha hsl
   obtain⟨hU,hI⟩:=hInv
   have ha2:Ag n ds (L4 opsL.toArray (fun i=>phs.getD i (.eq undef)) 0 o++l) a W:=by
     refine⟨ha.defers,ha.size,fun t q ht=>?_⟩
     rcases Dd ht with h1|h1
     · obtain⟨e,he,hb,_,p,hp,hpd,rfl⟩:=Y3 h1
       rw[hsl]
       refine hI e.on p t (by have:=Du hA hio e he hb;omega) (hed e he hb) hp hpd (fun hE=>?_)
       by_cases ih:i=h
       · rw[←ih];exact hLi
       have h2:=cn.1 hus i (b_.2 hi)
       rw[fp,fp]at h2
       rcases h2 with(h2|h2)|h2
       · exact absurd (ca h2) ih
       · cases hLh:L h with
         |false=>rfl
         |true=>
           have:=V8 hDn hea (fun m hm=>by rw[bh.1 hm];exact hLh) i (by simpa using h2)
           rw[hLi]at this;cases this
       rw[hio]at h2
       have h3:=b9.1 h2 e he
       rw[hb,hE]at h3
       cases h3
     refine ha.val t q ?_
     rw[Gp]
     · exact h1
     cases hq:lk (L4 opsL.toArray (fun _=>Ph.pred fun _ _=>True) 0 o) t with
     |none=>rfl
     |some q'=>
       obtain⟨e,he,hb,_,p,hp,hpd,_⟩:=Y3 hq
       exact absurd hpd (hbd t q h1 e.on p (au _) (by have:=Du hA hio e he hb;omega) hp)
   have h3:=(hop W hU).at (sub i o hi hio)
   rw[c_]at h3
   obtain⟨hg,h3,h4⟩:=h3
   rw[ap (by simp[Region.wanted,hg])]
   by_cases ih:i=h
   · have done:∀v W',(Up w.drew W'∧K W W')∧(phs.getD i (.eq undef)).holds v W'→True∧(∀d,o.dst=some d→(Ph.pred fun _ _=>True).holds v W')∧Up w.drew W'∧∀(j:Nat)(o':Oper)(d:Nat),j<k→C6 L i j=true→opsL.toArray[j]?=some o'→o'.dst=some d→(early.contains j=true→C6 L i h=false)→(phs.getD j (.eq undef)).holds (E3 f o.dst v d) W':=by
       rintro v W' ⟨⟨hu,hk⟩,hv⟩
       refine⟨trivial,fun _ _=>trivial,hu,fun j o' d hj hLj hj' hd hE=>?_⟩
       by_cases e:j=i
       · subst e
         rw[hio]at hj';cases hj'
         simpa[E3,hd]using hv
       have h5:L j=true:=by simpa[C6,e]using hLj
       have h6:E3 f o.dst v d=f d:=by
         have:=(De hD (au _) hj hj' hd).2 i o (au _) hi (Ne.symm e) hio
         simp[E3,this]
       rw[h6]
       have h7:early.contains j=false:=by
         cases hc:early.contains j with
         |false=>rfl
         |true=>have:=hE hc;simp[C6,ih]at this
       have h8:late.contains j=false:=by
         cases hc:late.contains j with
         |false=>rfl
         |true=>
           have:=bY (h:=h) hDn hla (fun m hm h2=>(bh.1 hm)▸h2) j (by simpa using hc) h5
           rw[←ih,hLi]at this;cases this
       refine hkp.at j ?_ _ W W' (hI j o' d hj h5 hj' hd (fun hc=>by rw[h7]at hc;cases hc)) hk
       rw[c_,eu]
       intro hc
       rw[i5,bg,bp]at hc
       rcases hc with hc|hc|hc
       · exact e (hc.trans ih.symm)
       · rw[←i5,h7]at hc;cases hc
       rw[←i5,h8]at hc;cases hc
     rcases h4 ih a ha2 with⟨v,W',hr,hp⟩|⟨fn,args,w1,hr,hc⟩
     · exact .inl (.inl ⟨v,W',hr,done v W' hp⟩)
     exact .inl (.inr ⟨fn,args,w1,hr,hc.mono done⟩)
   have done:∀v W',Up W W'∧(phs.getD i (.eq undef)).holds v W'→True∧(∀d,o.dst=some d→(Ph.pred fun _ _=>True).holds v W')∧Up w.drew W'∧∀(j:Nat)(o':Oper)(d:Nat),j<k→C6 L i j=true→opsL.toArray[j]?=some o'→o'.dst=some d→(early.contains j=true→C6 L i h=false)→(phs.getD j (.eq undef)).holds (E3 f o.dst v d) W':=by
     rintro v W' ⟨hu,hv⟩
     refine⟨trivial,fun _ _=>trivial,hU.trans hu,fun j o' d hj hLj hj' hd hE=>?_⟩
     by_cases e:j=i
     · subst e
       rw[hio]at hj';cases hj'
       simpa[E3,hd]using hv
     have h5:L j=true:=by simpa[C6,e]using hLj
     have h6:E3 f o.dst v d=f d:=by
       have:=(De hD (au _) hj hj' hd).2 i o (au _) hi (Ne.symm e) hio
       simp[E3,this]
     rw[h6]
     exact hph.at j _ W W' (hI j o' d hj h5 hj' hd (fun hc=>by have:=hE hc;simpa[C6,Ne.symm ih]using this)) hu
   rcases h3 ih a ha2 with⟨v,W',hr,hp⟩|⟨fn,args,w1,hr,hc⟩
   · exact .inl (.inl ⟨v,W',hr,done v W' hp⟩)
   exact .inl (.inr ⟨fn,args,w1,hr,hc.mono done⟩)
 intro f W _ hInv fuel' listed' a' hf' hu' ha' hsl'
 obtain⟨hUp,hI⟩:=hInv
 have key:∀i o d,i<k→early.contains i=false→opsL[i]?=some o→o.dst=some d→(phs.getD i (.eq undef)).holds (f d) W:=fun i o d hik hE ho hd=>hI i o d hik (by simpa using hik) (by simpa using ho) hd (fun hc=>by rw[hE]at hc;cases hc)
 refine Fs hTl hA (opsL.toArray.size-k) k fuel' listed' a' W rfl (by simp;omega) (a8 _) hf' hu' (hend W f hUp key a' ⟨ha'.defers,ha'.size,fun t q ht=>?_⟩)
 rcases Dd ht with h|h
 · obtain⟨d,_,he⟩:=bj.1 (J7 h)
   cases he
   exact hsl' _
 refine ha'.val t q ?_
 rw[Gp]
 · exact h
 cases hq:lk (Hn opsL.toArray (fun _=>Ph.pred fun _ _=>True) 0 k) t with
 |none=>rfl
 |some q'=>
   obtain⟨j,p,_,hjk,hp,hpd,_⟩:=F1 hq
   exact absurd hpd (hbd t q h j p (au _) hjk hp)
theorem Ag.bZ{t:Nat}{v:Value}{a:Go.Act}{env:Env}(ha:Ag n ds env a w)(hv:a.tmps.getD t undef=v):Ag n ds ((t,.eq v)::env) a w:=⟨ha.defers,ha.size,fun s q hs=>by
 by_cases e:s=t
 · subst e;rw[A9]at hs;cases hs;exact hv
 rw[Be e]at hs;exact ha.val s q hs⟩
end
section
variable {P:Program}{n:Nat}{ds:List Deferred}{l:Env}{w:World}{d:Option Tmp}{ty:TypeId}{ps:String}{af:Array Edge}{g:Option (Nat×Bool)}
theorem jA{x y:Operand}{ts:Array TypeId}{i j:Int}(hx:Val l x (.int .i64 i))(hy:Val l y (.int .i64 j)):
   PEv P n ds l w ⟨d,.call { callee:=.builtin .max,args:=#[x,y],argTypes:=ts },ty,ps,af,g⟩ (.int .i64 (if i<j then j else i)):=fun a w' ha _=>by
 rw[BigFrame.execOp_builtin,BigFrame.builtin_max]
 refine Ct ?_
 have e:(#[x,y]:Array Operand).map a.eval=#[.int .i64 i,.int .i64 j]:=by simp[ha.ev hx,ha.ev hy]
 rw[e]
 exact run_max_int2 w' _ _ _ _ _ _
end
theorem OwnS.Jk{α:Type}{enc:α→Array Value}{b e k:Nat}{w:World}{v:Value}{xs:List α}(h:OwnS w 0 e k enc v xs)(hb:∀i,(Az e k enc v xs).foot i→b≤i):OwnS w b e k enc v xs:=by
 obtain⟨h1,h2⟩:=h
 refine⟨h1,?_⟩
 rcases h2 with h2|⟨g,cap,cur,e,_,rest⟩
 · exact .inl h2
 exact .inr ⟨g,cap,cur,e,hb g (by rw[e];rfl),rest⟩
class Tu(P:Program)(T:TypeId) where
  u:TypeDesc
  e:P.underlying T=some u
class Ts(P:Program)(T:TypeId) where
  k:Nat
  e:∀w,(sizeOf T).run P w=.ok k w
class Ta(P:Program)(T:TypeId) where
  b:Bool
  e:∀w,(isAgg T).run P w=.ok b w
def nF:List Field→Nat→Option Field
  |[],_=>none
  |x::_,0=>some x
  |_::l,i+1=>nF l i
theorem qY:∀(l:List Field)(i:Nat),nF l i=l[i]?
  |[],_=>rfl
  |_::_,0=>rfl
  |_::l,i+1=>qY l i
section
variable {P:Program}{n:Nat}{ds:List Deferred}{l:Env}{w:World}{d:Option Tmp}{ty:TypeId}{ps:String}{af:Array Edge}{g:Option (Nat×Bool)}{T t B o:Nat}
theorem PEv.fB{S i:Nat}(off:Nat){fs:Array Field}{f:Field}[q:Tu P S](hx:lk l t=some (.eq (.pointer (some ⟨B,o,none⟩))))(hu:q.u=.struct fs:=by exact rfl)(hf:nF fs.toList i=some f:=by exact rfl){T1:TypeId}(ht:f.type=T1:=by exact rfl)[r:Ts P T1](ho:f.offset=off:=by exact rfl)(hk:Nat.beq r.k 0=false:=by exact rfl):PEv P n ds l w ⟨d,.fieldAddr S (.tmp t) i,ty,ps,af,g⟩ (.pointer (some ⟨B,o+off,none⟩)):=.fA off (hu▸q.e) (by rw[qY]at hf;simpa using hf) (ht▸r.e) hx ho hk
theorem PEv.lb{ad:Addr}{v:Value}[q:Ta P T](hx:lk l t=some (.eq (.pointer (some ad))))(hc:w.cell? ad=some v)(hb:q.b=false:=by exact rfl):PEv P n ds l w ⟨d,.load T (.tmp t),ty,ps,af,g⟩ v:=.ld (hb▸q.e) hx hc
theorem PEv.lc{cs:Array Value}[q:Ta P T][r:Ts P T](hx:lk l t=some (.eq (.pointer (some ⟨B,o,none⟩))))(hc:AggAt w B o cs)(hb:q.b=true:=by exact rfl)(hk:cs.size=r.k:=by exact rfl):PEv P n ds l w ⟨d,.load T (.tmp t),ty,ps,af,g⟩ (.agg cs):=.la (hb▸q.e) r.e hx hc hk
end
section
variable {P:Program}{n:Nat}{l:Env}{w:World}{fn:Func}{Post:Value→World→Prop}
theorem KW.q{t:Tmp}{v:Value}(h:Post v w)(hr:fn.results=#[.tmp t]:=by exact rfl)(hv:lk l t=some (.eq v):=by exact rfl):KW n [] (bodyPost P fn (fun e w'=>∃v,e=.returned v∧Post v w') .ret) l w  :=mW hr hv ⟨_,rfl,h⟩
end
section
variable {P:Program}{n:Nat}{ds:List Deferred}{l:Env}{w:World}{d:Option Tmp}{ty:TypeId}{ps:String}{af:Array Edge}{g:Option (Nat×Bool)}{T T':TypeId}{t t':Nat}{v:Value}
theorem Vals.ct{xs:List Operand}{vs:List Value}(h:lk l t=some (.eq v))(r:Vals l xs vs):Vals l (.tmp t::xs) (v::vs):=Vals.cons (.tmp h) r
theorem Vals.cu(h:lk l t=some (.eq v)):Vals l [.tmp t] [v]:=Vals.cons (.tmp h) .nil
theorem Parts.ct{i:Nat}{xs:List (Nat×Operand)}{vs:List (Nat×Value)}(h:lk l t=some (.eq v))(r:Parts l xs vs):Parts l ((i,.tmp t)::xs) ((i,v)::vs):=Parts.cons (.tmp h) r
theorem Parts.cu{i:Nat}(h:lk l t=some (.eq v)):Parts l [(i,.tmp t)] [(i,v)]:=Parts.cons (.tmp h) .nil
theorem PEv.mv(h:lk l t=some (.eq v)):PEv P n ds l w ⟨d,.move (.tmp t),ty,ps,af,g⟩ v:=.move (.tmp h)
theorem PEv.xt{i:Nat}{vs:Array Value}(h:lk l t=some (.eq (.tuple vs)))(hn:nth vs.toList i=some v):PEv P n ds l w ⟨d,.extract (.tmp t) i,ty,ps,af,g⟩ v:=.extract (.tmp h) hn
theorem REv.bA{cs:Array Value}(h:lk l t=some (.eq (.agg cs))):REv P n ds l w ⟨d,.box T (.tmp t),ty,ps,af,g⟩ (Yt w cs T):=.zI (.tmp h)
theorem PEv.ic{k:Nat}(h:lk l t=some (.eq (.int .i64 (k:Int))))(hk:k<9223372036854775807):PEv P n ds l w ⟨d,.binOp .add T (.tmp t) (.const (.int .i64 1)) T',ty,ps,af,g⟩ (.int .i64 ((k+1:Nat):Int)):=.inc (.tmp h) hk
theorem PEv.nc{ad:Addr}(h:lk l t=some (.eq (.pointer (some ad)))):PEv P n ds l w ⟨d,.nilCheck (.tmp t),ty,ps,af,g⟩ (.pointer (some ad)):=.nilCheck (.tmp h)
theorem PEv.l2{k:IntKind}{i j:Int}(h:lk l t=some (.eq (.int k i)))(h':lk l t'=some (.eq (.int k j))):PEv P n ds l w ⟨d,.binOp .lss T (.tmp t) (.tmp t') T',ty,ps,af,g⟩ (.bool (decide (i<j))):=.lss (.tmp h) (.tmp h')
theorem PEv.n1{p:Bool}(h:lk l t=some (.eq (.bool p))):PEv P n ds l w ⟨d,.unOp .not T (.tmp t),ty,ps,af,g⟩ (.bool !p):=.not (.tmp h)
theorem PEv.pa{x:Operand}{p b:Bool}(h:lk l t=some (.eq (.bool p)))(hx:p=true→Val l x (.bool b)):PEv P n ds l w ⟨d,.pick (.tmp t) x (.const (.bool false)),ty,ps,af,g⟩ (.bool (p&&b)):=.C0 (.tmp h) hx
theorem PEv.po{y:Operand}{p b:Bool}(h:lk l t=some (.eq (.bool p)))(hy:p=false→Val l y (.bool b)):PEv P n ds l w ⟨d,.pick (.tmp t) (.const (.bool true)) y,ty,ps,af,g⟩ (.bool (p||b)):=.D5 (.tmp h) hy
end
section
variable {R:Option Nat}{m:Nat}{P:Program}{n:Nat}{ds:List Deferred}{Q:Exit→Go.Act→World→Prop}{l:Env}{w:World}{t:Nat}{x y:Code}
theorem CW.b{p:Bool}(h:lk l t=some (.eq (.bool p)))(ht:p=true→CW R m P n ds x Q l w)(hf:p=false→CW R m P n ds y Q l w):CW R m P n ds (.cond (.tmp t) x y) Q l w:=CW.cond (.tmp h) ht hf
theorem CW.f(h:lk l t=some (.eq (.bool false)))(k:CW R m P n ds y Q l w):CW R m P n ds (.cond (.tmp t) x y) Q l w:=Ry (.tmp h) k
theorem CW.v(h:lk l t=some (.eq (.bool true)))(k:CW R m P n ds x Q l w):CW R m P n ds (.cond (.tmp t) x y) Q l w:=Uf (.tmp h) k
def gq(l:Env)(o:Oper)(ops:Array Oper)(n:Nat):Option (Bool×Bool×Nat):=
  match o.guard with
  |some (j,want)=>match ops[j]? with
    |some oj=>match oj.dst with
      |some dj=>match o.dst with
        |some d=>match lk l dj with
          |some (.eq (.bool b))=>match Nat.ble (dj+1) n with
            |true=>match Nat.ble (d+1) n with
              |true=>some (want,b,d)
              |false=>none
            |false=>none
          |_=>none
        |none=>none
      |none=>none
    |none=>none
  |none=>none
theorem rX{o:Oper}{ops:Array Oper}{want b:Bool}{d:Nat}(h:gq l o ops n=some (want,b,d)):∃j dj oj,o.guard=some (j,want)∧ops[j]?=some oj∧oj.dst=some dj∧Nat.ble (dj+1) n=true∧lk l dj=some (.eq (.bool b))∧o.dst=some d∧Nat.ble (d+1) n=true:=by
  unfold gq at h
  repeat' split at h
  all_goals cases h
  exact⟨_,_,_,‹_›,‹_›,‹_›,‹_›,‹_›,‹_›,‹_›⟩
theorem LW.gr{ops:Array Oper}{o:Oper}{rest:List Oper}{want b:Bool}{d:Nat}{v:Value}(h:gq l o ops n=some (want,b,d))(h1:(b==want)=true→PEv P n ds l w o v)(k:LW R m P n ds ops Q rest ((d,.cond (b==want) v)::l) w):LW R m P n ds ops Q (o::rest) l w:=by
  obtain⟨j,dj,oj,a1,a2,a3,a4,a5,a6,a7⟩:=rX h
  exact zH a1 a2 a3 a4 a5 a6 a7 h1 k
theorem F5{dt:Option Tmp}{ty:TypeId}{ps:String}{af:Array Edge}{g:Option (Nat×Bool)}{ops:Array Oper}{rest:List Oper}{want b:Bool}{d:Nat}{v:Value}(h:gq l ⟨dt,.move (.tmp t),ty,ps,af,g⟩ ops n=some (want,b,d))(h1:lk l t=some (.eq v))(k:LW R m P n ds ops Q rest ((d,.cond (b==want) v)::l) w):LW R m P n ds ops Q (⟨dt,.move (.tmp t),ty,ps,af,g⟩::rest) l w:=LW.gr h (fun _=>.move (.tmp h1)) k
end
section
variable {S0:Nat→Prop}{w0 w:World}{B:Nat}{cs:Array Value}{T:TypeId}{a b c d e f:Asr}{X:List Asr}
theorem Sep.b0(h:Wx.Sep S0 w0 w (A4 B cs T::X)):Blk w B cs T:=Sep.blk h 0 rfl
theorem Sep.b1(h:Wx.Sep S0 w0 w (a::A4 B cs T::X)):Blk w B cs T:=Sep.blk h 1 rfl
theorem Sep.b2(h:Wx.Sep S0 w0 w (a::b::A4 B cs T::X)):Blk w B cs T:=Sep.blk h 2 rfl
theorem Sep.b3(h:Wx.Sep S0 w0 w (a::b::c::A4 B cs T::X)):Blk w B cs T:=Sep.blk h 3 rfl
theorem Sep.b4(h:Wx.Sep S0 w0 w (a::b::c::d::A4 B cs T::X)):Blk w B cs T:=Sep.blk h 4 rfl
theorem Sep.b5(h:Wx.Sep S0 w0 w (a::b::c::d::e::A4 B cs T::X)):Blk w B cs T:=Sep.blk h 5 rfl
end
theorem cT{P:Program}{w:World}(n:Nat){f:FuncId}{fn:Func}{c:Code}{args:List Value}{R:Ending→World→Prop}(hf:P.funcs[f]?=some fn)(hb:fn.body=some c)(h:CW none 9 P n [] c (bodyPost P fn R) (Hb args 0) w)(hn:fn.ntmps=n:=by exact rfl)(hl:Nat.ble args.length n=true:=by exact rfl):Calls P f args.toArray w R:=Oo hf hb hn hl h
theorem W0(w:World):∃w0,w0=w∧Wx.Sep no w0 w0 []:=⟨w,rfl,Sep.start no w⟩
theorem wQ{l:Env}{x:Operand}{v:Value}(h:Val l x v:=by first|exact .const _|exact .tmp rfl|exact .cond rfl (by first|assumption|(rw[hp];rfl)|(rw[hc,hp];rfl)|simp_all)):Val l x v:=h
end Go.Wx
namespace Go
theorem bQ{a b:Nat}(h:Nat.ble a b=true:=by exact rfl):a≤b:=a_ h
theorem tQ{p:Prop}(h:p:=by repeat' (first|exact trivial|refine⟨rfl,?_⟩)):p:=h
theorem uQ{p:Prop}(h:p:=by repeat' (first|exact trivial|refine⟨Wx.PhU.eq _,?_⟩)):p:=h
end Go
namespace Go.Proofs
open Go.Wx
open Go.Proofs.Tryz
instance:Ta prog 3:=⟨_,j_⟩
instance:Ta prog 4:=⟨_,isAgg4⟩
instance:Ta prog 9:=⟨_,isAgg9⟩
instance:Ta prog 23:=⟨_,isAgg23⟩
instance:Ta prog 24:=⟨_,isAgg24⟩
instance:Ta prog 25:=⟨_,isAgg25⟩
instance:Ta prog 26:=⟨_,isAgg26⟩
instance:Ta prog 28:=⟨_,isAgg28⟩
instance:Ta prog 33:=⟨_,isAgg33⟩
instance:Ta prog 35:=⟨_,lq⟩
instance:Ta prog 38:=⟨_,isAgg38⟩
instance:Ta prog 43:=⟨_,isAgg43⟩
instance:Ta prog 47:=⟨_,isAgg47⟩
instance:Ta prog 49:=⟨_,isAgg49⟩
instance:Ta prog 51:=⟨_,isAgg51⟩
instance:Ta prog 54:=⟨_,isAgg54⟩
instance:Ta prog 56:=⟨_,isAgg56⟩
instance:Ta prog 61:=⟨_,isAgg61⟩
instance:Ta prog 63:=⟨_,isAgg63⟩
instance:Ta prog 76:=⟨_,isAgg76⟩
instance:Ta prog 77:=⟨_,isAgg77⟩
instance:Ta prog 80:=⟨_,isAgg80⟩
instance:Ta prog 86:=⟨_,isAgg86⟩
instance:Ta prog 91:=⟨_,isAgg91⟩
instance:Ta prog 111:=⟨_,isAgg111⟩
instance:Ta prog 117:=⟨_,isAgg117⟩
instance:Ta prog 118:=⟨_,isAgg118⟩
instance:Ta prog 119:=⟨_,isAgg119⟩
instance:Ta prog 120:=⟨_,isAgg120⟩
instance:Ta prog 128:=⟨_,isAgg128⟩
instance:Ta prog 142:=⟨_,isAgg142⟩
instance:Ta prog 150:=⟨_,isAgg150⟩
instance:Ta prog 166:=⟨_,isAgg166⟩
instance:Ta prog 182:=⟨_,isAgg182⟩
instance:Ta prog 184:=⟨_,isAgg184⟩
instance:Ta prog 202:=⟨_,isAgg202⟩
instance:Ta prog 206:=⟨_,isAgg206⟩
instance:Ta prog 221:=⟨_,isAgg221⟩
instance:Ta prog 222:=⟨_,isAgg222⟩
instance:Ta prog 240:=⟨_,isAgg240⟩
instance:Ta prog 246:=⟨_,isAgg246⟩
instance:Ta prog 255:=⟨_,isAgg255⟩
instance:Ta prog 296:=⟨_,isAgg296⟩
instance:Ts prog 3:=⟨_,jw⟩
instance:Ts prog 4:=⟨_,km⟩
instance:Ts prog 9:=⟨_,kt⟩
instance:Ts prog 23:=⟨_,sizeOf23⟩
instance:Ts prog 24:=⟨_,sizeOf24⟩
instance:Ts prog 25:=⟨_,sizeOf25⟩
instance:Ts prog 26:=⟨_,sizeOf26⟩
instance:Ts prog 28:=⟨_,lv⟩
instance:Ts prog 33:=⟨_,jz⟩
instance:Ts prog 35:=⟨_,k6⟩
instance:Ts prog 38:=⟨_,sizeOf38⟩
instance:Ts prog 43:=⟨_,lh⟩
instance:Ts prog 47:=⟨_,ma⟩
instance:Ts prog 49:=⟨_,kh⟩
instance:Ts prog 51:=⟨_,l_⟩
instance:Ts prog 54:=⟨_,sizeOf54⟩
instance:Ts prog 56:=⟨_,sizeOf56⟩
instance:Ts prog 61:=⟨_,sizeOf61⟩
instance:Ts prog 63:=⟨_,sizeOf63⟩
instance:Ts prog 76:=⟨_,sizeOf76⟩
instance:Ts prog 77:=⟨_,sizeOf77⟩
instance:Ts prog 80:=⟨_,sizeOf80⟩
instance:Ts prog 91:=⟨_,sizeOf91⟩
instance:Ts prog 111:=⟨_,sizeOf111⟩
instance:Ts prog 117:=⟨_,sizeOf117⟩
instance:Ts prog 119:=⟨_,sizeOf119⟩
instance:Ts prog 120:=⟨_,sizeOf120⟩
instance:Ts prog 122:=⟨_,sizeOf122⟩
instance:Ts prog 128:=⟨_,l8⟩
instance:Ts prog 142:=⟨_,sizeOf142⟩
instance:Ts prog 150:=⟨_,sizeOf150⟩
instance:Ts prog 182:=⟨_,sizeOf182⟩
instance:Ts prog 184:=⟨_,j5⟩
instance:Ts prog 202:=⟨_,sizeOf202⟩
instance:Ts prog 246:=⟨_,sizeOf246⟩
instance:Tu prog 28:=⟨_,underlying28⟩
instance:Tu prog 33:=⟨_,ke⟩
instance:Tu prog 35:=⟨_,underlying35⟩
instance:Tu prog 38:=⟨_,underlying38⟩
instance:Tu prog 47:=⟨_,underlying47⟩
instance:Tu prog 49:=⟨_,underlying49⟩
instance:Tu prog 51:=⟨_,underlying51⟩
instance:Tu prog 54:=⟨_,mj⟩
instance:Tu prog 56:=⟨_,underlying56⟩
instance:Tu prog 63:=⟨_,underlying63⟩
instance:Tu prog 79:=⟨_,kq⟩
instance:Tu prog 91:=⟨_,underlying91⟩
instance:Tu prog 122:=⟨_,underlying122⟩
instance:Tu prog 124:=⟨_,underlying124⟩
instance:Tu prog 130:=⟨_,kj⟩
instance:Tu prog 142:=⟨_,underlying142⟩
instance:Tu prog 150:=⟨_,lj⟩
instance:Tu prog 184:=⟨_,j6⟩
instance:Tu prog 202:=⟨_,lx⟩
instance:Tu prog 226:=⟨_,md⟩
end Go.Proofs
namespace Go.Wx
def eH(n lo hi:Int):Bool:=decide (lo≤n)&&decide (n≤hi)
structure Sg where
 mn:Int
 mx:Int
 t1:Int
 s1:Int
 t2:Int
 s2:Int
def Sg.cells(s:Sg):Array Value:=#[vi s.mn,vi s.mx,vi s.t1,vi s.s1,vi s.t2,vi s.s2]
theorem Sg.one(s:Sg):s.cells.all (·.oneCell')=true:=by simp[Sg.cells,show ∀i:Int,(vi i).oneCell'=true from fun _=>rfl]
structure Wn where
 a:Int
 b:Int
 l:Int
def Wn.cells(s:Wn):Array Value:=#[vi s.a,vi s.b,vi s.l]
theorem Wn.one(s:Wn):s.cells.all (·.oneCell')=true:=by simp[Wn.cells,show ∀i:Int,(vi i).oneCell'=true from fun _=>rfl]
def gW:Sg:=⟨10,20,1,5,2,29⟩
def Ot(ad:Option Addr)(cp:Nat):Array Value:=#[vi 0,vi 1,vi 5,.slice ad 1 cp,.slice none 0 0]
theorem cA{w:World}{B T:Nat}{cs ds:Array Value}{k:Nat}(h:Blk w B cs T)(hd:∀j,j<ds.size→cs[k+j]?=ds[j]?):AggAt w B (0+k) ds:=fun j v hv=>by
 have hj:=(bx.1 hv).1
 have:=h.agg (k+j) v (by rw[hd j hj];exact hv)
 rwa [←Nat.add_assoc]at this
section
variable {P:Program}{n:Nat}{l:Env}{w:World}{fn:Func}{RR:Ending→World→Prop}
theorem Pn{t:Tmp}{T:TypeId}{B:Nat}{x:Value}(hr:fn.results=#[.cell t T])(hv:lk l t=some (.eq (.pointer (some ⟨B,0,none⟩))))(hT:∀w,(isAgg T).run P w=.ok false w)(hx:w.cell? ⟨B,0,none⟩=some x)(hR:RR (.returned x) w):KW n [] (bodyPost P fn RR .ret) l w:=fun a ha=>
 ⟨ha.defers,x,by
   have h1:a.tmps.getD t undef=.pointer (some ⟨B,0,none⟩):=ha.val _ _ hv
   rw[ar]at h1
   simp[results,hr,h1,asAddr,Jf hT hx],hR⟩
end
structure Sk where
 rc:Int
 tl:List Int
 ta:Option Addr
 tc:Nat
 mn:Int
 mx:Int
 nx:List Int
 na:Option Addr
 nc:Nat
 bk:Int
 lm:Int
def Sk.tv(s:Sk):Value:=.slice s.ta s.tl.length s.tc
def Sk.nv(s:Sk):Value:=.slice s.na s.nx.length s.nc
def Sk.cells(s:Sk):Array Value:=#[vi s.rc,s.tv,vi s.mn,vi s.mx,s.nv,vi s.bk,vi s.lm]
theorem Sk.one(s:Sk):s.cells.all (·.oneCell')=true:=by simp[Sk.cells,Sk.tv,Sk.nv,Value.oneCell']
structure AscR(l:List Int)(lo hi:Int):Prop where
 r:∀x∈l,lo≤x∧x≤hi
 a:l.Pairwise (· <·)
structure Sk.Ok(n:Int)(s:Sk):Prop where
 rc:1≤s.rc∧s.rc≤1000000
 mn:1≤s.mn∧s.mn≤s.mx∧s.mx≤10000
 bk:s.bk= -1∧s.lm=0∨(0≤s.bk∧s.bk≤n-1)∧1≤s.lm∧s.lm≤9
 tl:1≤s.tl.length∧s.tl.length≤8
 ta:AscR s.tl 0 59
 nl:s.nx.length≤4
 nx:AscR s.nx 0 (n-1)
structure Wn.Ok(n:Int)(x:Wn):Prop where
 a:0≤x.a∧x.a≤n-1
 b:0≤x.b∧x.b≤n-1
 ne:x.a≠x.b
 l:0≤x.l∧x.l≤1000000
structure FlG(w:World)(sa wa:Option Addr)(L:List Sk)(Ws:List Wn):Prop where
 len:1≤L.length∧L.length≤40
 E:Els w sa 7 Sk.cells L
 g:∀s∈L,s.Ok L.length
 p:∀s∈L,Els w s.ta 1 A6 s.tl∧Els w s.na 1 A6 s.nx
 wE:Els w wa 3 Wn.cells Ws
 wl:Ws.length≤1
 wn:∀x∈Ws,x.Ok L.length
theorem FlG.up{w w':World}{sa wa:Option Addr}{L:List Sk}{Ws:List Wn}(h:FlG w sa wa L Ws)(u:Up w w'):FlG w' sa wa L Ws:=⟨h.len,Els.up h.E u,h.g,fun s hs=>⟨Els.up (h.p s hs).1 u,Els.up (h.p s hs).2 u⟩,Els.up h.wE u,h.wl,h.wn⟩
def Cu(sa:Option Addr)(n sc:Nat)(wa:Option Addr)(m wc:Nat):Array Value:=#[vi 2,vi 5,.slice sa n sc,.slice wa m wc]
theorem G7(sa:Option Addr)(n sc:Nat)(wa:Option Addr)(m wc:Nat):(Cu sa n sc wa m wc).all (·.oneCell')=true:=by simp[Cu,Value.oneCell']
theorem PEv.Ez{P:Program}{n:Nat}{ds:List Deferred}{l:Env}{w:World}{o:Oper}{v v':Value}(h:PEv P n ds l w o v)(e:v=v'):PEv P n ds l w o v':=e▸h
theorem C5{α:Type}{l:List α}{k:Nat}{x:α}(h:l[k]?=some x):l.take (k+1)=l.take k++[x]:=by rw[gc,h];rfl
theorem jB{l:List Int}(h:l.Pairwise (· <·)){k:Nat}{x y:Int}(hx:l[k]?=some x)(hy:l[k+1]?=some y):x<y:=by
 obtain⟨h1,rfl⟩:=ak.1 hx
 obtain⟨h2,rfl⟩:=ak.1 hy
 exact dw.1 h k (k+1) h1 h2 (Nat.lt_succ_self k)
def Ka(s:Sk):List Int:=if 0≤s.bk then s.bk::s.nx else s.nx
def Us(b:Int)(k:Nat):Nat:=if k=0 then 0 else if 0≤b then k+1 else k
def Wa(b:Int)(k:Nat):Int:=if k=0 then b else -1
theorem cB{s:Sk}(h:0≤s.bk):(Ka s)[0]?=some s.bk:=by unfold Ka;rw[ap h];rfl
theorem Zf{s:Sk}{k:Nat}{x:Int}(hx:s.nx[k]?=some x):(Ka s)[if 0≤s.bk then k+1 else k]?=some x:=by
 unfold Ka
 split
 · rw[d9];exact hx
 exact hx
theorem cC(s:Sk):(Ka s).length=if 0≤s.bk then s.nx.length+1 else s.nx.length:=by unfold Ka;split<;>rfl
theorem jC{s:Sk}(h:¬0≤Wa s.bk s.nx.length):Us s.bk s.nx.length=(Ka s).length:=by
 rw[cC]
 unfold Wa at h
 unfold Us
 split at h
 · rename_i h0
   rw[ap h0,am h,h0]
 rename_i h0
 rw[am h0]
theorem jD{s:Sk}(h:0≤Wa s.bk s.nx.length):0≤s.bk∧s.nx=[]:=by
 unfold Wa at h
 split at h
 · exact⟨h,List.length_eq_zero_iff.1 (by assumption)⟩
 omega
theorem Qi(b:Int)(k:Nat):Us b (k+1)=if 0≤b then k+1+1 else k+1:=rfl
theorem Zg(b:Int)(k:Nat):Us b (k+1+1)=Us b (k+1)+1:=by rw[Qi,Qi];split<;>rfl
structure Sk.Good(s:Sk):Prop where
 rc:s.rc=1
 mn:s.mn=10
 mx:s.mx=20
 bk:s.bk= -1
 lm:s.lm=0
 tl:s.tl.length=1∧∀x∈s.tl,eH x 0 59=true
 nx:s.nx.length≤1∧∀x∈s.nx,eH x 0 2=true
def gX:Wn:=⟨0,2,13⟩
structure FlE(w:World)(sa wa:Option Addr)(s0 s1 s2:Sk):Prop where
 E:Els w sa 7 Sk.cells [s0,s1,s2]
 g:∀s∈[s0,s1,s2],s.Good
 n0:s0.nx=[1]
 n1:s1.nx=[2]
 n2:s2.nx=[]
 p:∀s∈[s0,s1,s2],Els w s.ta 1 A6 s.tl∧Els w s.na 1 A6 s.nx
 W:Els w wa 3 Wn.cells [gX]
theorem FlE.up{w w':World}{sa wa:Option Addr}{s0 s1 s2:Sk}(h:FlE w sa wa s0 s1 s2)(u:Up w w'):FlE w' sa wa s0 s1 s2:=⟨Els.up h.E u,h.g,h.n0,h.n1,h.n2,fun s hs=>⟨Els.up (h.p s hs).1 u,Els.up (h.p s hs).2 u⟩,Els.up h.W u⟩
theorem cD{l:List Int}{lo hi:Int}(hl:l.length≤1)(h:∀x∈l,eH x lo hi=true):AscR l lo hi:=by
 refine⟨fun x hx=>by have:=h x hx;simpa[eH]using this,?_⟩
 match l,hl with
 |[],_=>exact List.Pairwise.nil
 |[x],_=>exact fd _ _
theorem FlE.G{w:World}{sa wa:Option Addr}{s0 s1 s2:Sk}(h:FlE w sa wa s0 s1 s2):FlG w sa wa [s0,s1,s2] [gX]:=
 ⟨⟨a_ rfl,a_ rfl⟩,h.E,fun s hs=>by
   have g:=h.g s hs
   exact⟨by rw[g.rc];decide,by rw[g.mn,g.mx];decide,.inl ⟨g.bk,g.lm⟩,by rw[g.tl.1];decide,cD (by rw[g.tl.1];decide) g.tl.2,by have:=g.nx.1;omega,cD g.nx.1 g.nx.2⟩,h.p,h.W,a8 _,fun x hx=>by
   rw[bh.1 hx]
   exact(by constructor<;>decide:gX.Ok ((3:Nat):Int))⟩
def Lp(sa:Option Addr)(sc:Nat)(wa:Option Addr)(wc:Nat):Array Value:=#[vi 2,vi 5,.slice sa 3 sc,.slice wa 1 wc]
end Go.Wx
namespace Go.Proofs.YtnocngnlpgikaaaGreatDoor
open Go.Proofs.Tryz
open Go.Wx Go.RowKit
theorem G8(n lo hi:Int)(w:World):Ret prog 96 #[vi n,vi lo,vi hi] w fun r w'=>r=.bool (eH n lo hi)∧Up w w':=by
 have hW:=Up.refl w
 refine cT 15 func96 rfl (Ae (Ay (Am (Aa (I rfl (I rfl (U (.geq (.t rfl) (.t rfl)) (I rfl (F5 rfl rfl (F5 rfl rfl (LW.gr rfl (fun hc=>PEv.leq vQ vQ) (U (.pa rfl (fun hp=>(by exact .cond rfl (by(rw[hp];rfl))))) (LW.A rfl (Af (Al (KW.q ?_))))))))))))))))
 exact⟨by unfold eH;simp,hW⟩
theorem Qj(t s d:Int)(w:World)(hd:0≤d∧d≤10000):Ret prog 175 #[.agg (#[vi t,vi s]:Array Go.Value),vi d] w fun r w'=>r=.bool (eH t 0 59&&eH s 0 (1000000-d))∧Up w w':=by
 obtain⟨w0,rfl,hS⟩:=W0 w
 refine cT 15 func175 rfl (Ae (Aq (.bA rfl) rfl ?_))
 rintro _ w1 ⟨B2,rfl,NB2⟩
 replace hS:=hS.Cc NB2
 refine Ay (Am (Aa (U (.fB 0 rfl) (U (.lb rfl (hS.b0.Ad rfl)) (A3 (eC (.ct rfl (.cons (.const _) (.cons (.const _) .nil))) (dR)) rfl (G8 _ _ _ _) ?_)))))
 rintro _ w2 ⟨rfl,uw2⟩
 replace hS:=hS.up uw2
 refine I rfl (LW.gr rfl (fun hc=>PEv.fB 1 rfl) (LW.gr rfl (fun hc=>PEv.load j_ vQ (hS.b0.Ad rfl)) (F5 rfl rfl (LW.gr rfl (fun hc=>PEv.sub (.const _) vQ oQ oQ) (iA rfl rfl rfl rfl rfl rfl rfl rfl (fun hc=>Bm (.cons vQ (.cons (.const _) (.cons vQ .nil))) (dR)) (fun hc=>G8 _ _ _ _) ?_)))))
 intro w3 uw3
 replace hS:=hS.up uw3
 refine U (.pa rfl (fun hp=>(by exact .cond rfl (by(rw[hp];rfl))))) (LW.A rfl (Af (Al (KW.q ?_))))
 exact⟨by simp,hS.Cl⟩
theorem Zh(cf:Nat)(lb:Array Go.Value)(hen:∀args w,(callFunc cf args).run prog w=.ok (.enter cf args) w)(ad:Option Addr)(cp:Nat)(l:List Sg)(w:World)(hE0:Els w ad 6 Sg.cells l)(hl:l.length≤100000)(hp:∀W,Up w W→∀x∈l,Ret prog cf (#[.agg (Sg.cells x)]++lb) W fun r W'=>r=.bool false∧Up W W'):Ret prog 174 #[.slice ad l.length cp,.func (.func cf) #[] lb] w fun r w'=>r=vi (-1)∧Up w w':=by
 have hW:=Up.refl w
 obtain⟨w0,rfl,_⟩:=W0 w
 refine cT 19 func174 rfl (Ae (Ay (Am (Ae (I rfl (U (.Cn lu (.t rfl)) (U (.move (.const _)) (Af (Ah (A5 (σ:=Nat) (fun s w=>(s≤l.length)∧(Up w0 w)) (fun s=>[(8,.eq (vi (s:Int)))]) ([(0,.eq _),(1,.eq _),(7,.eq _)]) (fun s=>l.length-s) 0 ?_ tQ ?_))))))))))
 ·exact⟨au _,hW⟩
 rintro k w1 ⟨hk,hW⟩
 refine Ae (U (.l2 rfl rfl) (Am (CW.b rfl (fun h9=>?_) (fun h9=>?_))))
 ·replace h9:=dQ h9
  refine Ai (Ac (Ak (Ah (Ae (I rfl (LW.A rfl (Am ?_)))))))
  have hE:=Els.up hE0 hW
  refine Aa (I rfl (I rfl (I rfl ?_)))
  obtain⟨x,hx⟩:=An (xs:=l) (i:=k) oQ
  obtain⟨Bx,ox,ax,hcx⟩:=hE _ x hx
  refine U (.Ar lu sizeOf56 (.t rfl) (.t rfl) oQ ax) (U (.lc rfl (hcx)) (A3 (Cr (.t rfl) (.cu rfl) (hen)) rfl (hp _ hW x (ae hx)) ?_))
  rintro _ w2 ⟨rfl,uw2⟩
  replace hW:=hW.up uw2
  replace hcx:=hcx.up uw2
  refine Af (CW.f rfl (Ai (Aj (Ac (Aa (U (.ic rfl oQ) (I rfl (LW.nil (Av ?_)))))))))
  exact⟨k+1,⟨by omega,hW⟩,tQ,by omega⟩
 replace h9:=dQ h9
 refine A8 (Ab (Ab (Ao (Ac (Ae (Ay (Af (Al (KW.q ?_)))))))))
 exact⟨rfl,hW⟩
theorem R9(cf:Nat)(lb:Array Go.Value)(hen:∀args w,(callFunc cf args).run prog w=.ok (.enter cf args) w)(ad:Option Addr)(cp:Nat)(l:List Sg)(w:World)(hE0:Els w ad 6 Sg.cells l)(hl:l.length≤100000)(hp:∀W,Up w W→∀x∈l,Ret prog cf (#[.agg (Sg.cells x)]++lb) W fun r W'=>r=.bool false∧Up W W'):Ret prog 97 #[.slice ad l.length cp,.func (.func cf) #[] lb] w fun r w'=>r=.bool false∧Up w w':=by
 have hW:=Up.refl w
 refine cT 9 func97 rfl (Ae (Ay (Am (Aa (I rfl (I rfl (A3 (eC (.u rfl rfl) (wV)) rfl (Zh cf lb hen ad cp l _ (Els.up hE0 hW) hl (fun W u x hx=>hp W (hW.trans u) x hx)) ?_)))))))
 rintro _ w1 ⟨rfl,uw1⟩
 replace hW:=hW.up uw1
 refine U (.geq (.t rfl) (.const _)) (LW.A rfl (Af (Al (KW.q ?_))))
 exact⟨rfl,hW⟩
theorem Zi(cf:Nat)(lb:Array Go.Value)(hen:∀args w,(callFunc cf args).run prog w=.ok (.enter cf args) w)(ad:Option Addr)(cp:Nat)(l:List Wn)(w:World)(hE0:Els w ad 3 Wn.cells l)(hl:l.length≤100000)(hp:∀W,Up w W→∀x∈l,Ret prog cf (#[.agg (Wn.cells x)]++lb) W fun r W'=>r=.bool false∧Up W W'):Ret prog 176 #[.slice ad l.length cp,.func (.func cf) #[] lb] w fun r w'=>r=vi (-1)∧Up w w':=by
 have hW:=Up.refl w
 obtain⟨w0,rfl,_⟩:=W0 w
 refine cT 19 func176 rfl (Ae (Ay (Am (Ae (I rfl (U (.Cn j9 (.t rfl)) (U (.move (.const _)) (Af (Ah (A5 (σ:=Nat) (fun s w=>(s≤l.length)∧(Up w0 w)) (fun s=>[(8,.eq (vi (s:Int)))]) ([(0,.eq _),(1,.eq _),(7,.eq _)]) (fun s=>l.length-s) 0 ?_ tQ ?_))))))))))
 ·exact⟨au _,hW⟩
 rintro k w1 ⟨hk,hW⟩
 refine Ae (U (.l2 rfl rfl) (Am (CW.b rfl (fun h9=>?_) (fun h9=>?_))))
 ·replace h9:=dQ h9
  refine Ai (Ac (Ak (Ah (Ae (I rfl (LW.A rfl (Am ?_)))))))
  have hE:=Els.up hE0 hW
  refine Aa (I rfl (I rfl (I rfl ?_)))
  obtain⟨x,hx⟩:=An (xs:=l) (i:=k) oQ
  obtain⟨Bx,ox,ax,hcx⟩:=hE _ x hx
  refine U (.Ar j9 ma (.t rfl) (.t rfl) oQ ax) (U (.lc rfl (hcx)) (A3 (Cr (.t rfl) (.cu rfl) (hen)) rfl (hp _ hW x (ae hx)) ?_))
  rintro _ w2 ⟨rfl,uw2⟩
  replace hW:=hW.up uw2
  replace hcx:=hcx.up uw2
  refine Af (CW.f rfl (Ai (Aj (Ac (Aa (U (.ic rfl oQ) (I rfl (LW.nil (Av ?_)))))))))
  exact⟨k+1,⟨by omega,hW⟩,tQ,by omega⟩
 replace h9:=dQ h9
 refine A8 (Ab (Ab (Ao (Ac (Ae (Ay (Af (Al (KW.q ?_)))))))))
 exact⟨rfl,hW⟩
theorem Sa(cf:Nat)(lb:Array Go.Value)(hen:∀args w,(callFunc cf args).run prog w=.ok (.enter cf args) w)(ad:Option Addr)(cp:Nat)(l:List Wn)(w:World)(hE0:Els w ad 3 Wn.cells l)(hl:l.length≤100000)(hp:∀W,Up w W→∀x∈l,Ret prog cf (#[.agg (Wn.cells x)]++lb) W fun r W'=>r=.bool false∧Up W W'):Ret prog 100 #[.slice ad l.length cp,.func (.func cf) #[] lb] w fun r w'=>r=.bool false∧Up w w':=by
 have hW:=Up.refl w
 refine cT 9 func100 rfl (Ae (Ay (Am (Aa (I rfl (I rfl (A3 (eC (.u rfl rfl) (wW)) rfl (Zi cf lb hen ad cp l _ (Els.up hE0 hW) hl (fun W u x hx=>hp W (hW.trans u) x hx)) ?_)))))))
 rintro _ w1 ⟨rfl,uw1⟩
 replace hW:=hW.up uw1
 refine U (.geq (.t rfl) (.const _)) (LW.A rfl (Af (Al (KW.q ?_))))
 exact⟨rfl,hW⟩
theorem Zj(cf:Nat)(lb:Array Go.Value)(hen:∀args w,(callFunc cf args).run prog w=.ok (.enter cf args) w)(ad:Option Addr)(cp:Nat)(l:List Int)(w:World)(hE0:Els w ad 1 A6 l)(hl:l.length≤100000)(hp:∀W,Up w W→∀x∈l,Ret prog cf (#[vi x]++lb) W fun r W'=>r=.bool false∧Up W W'):Ret prog 226 #[.slice ad l.length cp,.func (.func cf) #[] lb] w fun r w'=>r=vi (-1)∧Up w w':=by
 have hW:=Up.refl w
 obtain⟨w0,rfl,_⟩:=W0 w
 refine cT 19 func226 rfl (Ae (Ay (Am (Ae (I rfl (U (.Cn underlying166 (.t rfl)) (U (.move (.const _)) (Af (Ah (A5 (σ:=Nat) (fun s w=>(s≤l.length)∧(Up w0 w)) (fun s=>[(8,.eq (vi (s:Int)))]) ([(0,.eq _),(1,.eq _),(7,.eq _)]) (fun s=>l.length-s) 0 ?_ tQ ?_))))))))))
 ·exact⟨au _,hW⟩
 rintro k w1 ⟨hk,hW⟩
 refine Ae (U (.l2 rfl rfl) (Am (CW.b rfl (fun h9=>?_) (fun h9=>?_))))
 ·replace h9:=dQ h9
  refine Ai (Ac (Ak (Ah (Ae (I rfl (LW.A rfl (Am ?_)))))))
  have hE:=Els.up hE0 hW
  refine Aa (I rfl (I rfl (I rfl ?_)))
  obtain⟨x,hx⟩:=An (xs:=l) (i:=k) oQ
  obtain⟨Bx,ox,ax,hcx⟩:=hE _ x hx
  refine U (.Ar underlying166 jw (.t rfl) (.t rfl) oQ ax) (U (.lb rfl (hcx.nth (j:=0) rfl)) (A3 (Cr (.t rfl) (.cu rfl) (hen)) rfl (hp _ hW x (ae hx)) ?_))
  rintro _ w2 ⟨rfl,uw2⟩
  replace hW:=hW.up uw2
  replace hcx:=hcx.up uw2
  refine Af (CW.f rfl (Ai (Aj (Ac (Aa (U (.ic rfl oQ) (I rfl (LW.nil (Av ?_)))))))))
  exact⟨k+1,⟨by omega,hW⟩,tQ,by omega⟩
 replace h9:=dQ h9
 refine A8 (Ab (Ab (Ao (Ac (Ae (Ay (Af (Al (KW.q ?_)))))))))
 exact⟨rfl,hW⟩
theorem Sb(cf:Nat)(lb:Array Go.Value)(hen:∀args w,(callFunc cf args).run prog w=.ok (.enter cf args) w)(ad:Option Addr)(cp:Nat)(l:List Int)(w:World)(hE0:Els w ad 1 A6 l)(hl:l.length≤100000)(hp:∀W,Up w W→∀x∈l,Ret prog cf (#[vi x]++lb) W fun r W'=>r=.bool false∧Up W W'):Ret prog 172 #[.slice ad l.length cp,.func (.func cf) #[] lb] w fun r w'=>r=.bool false∧Up w w':=by
 have hW:=Up.refl w
 refine cT 9 func172 rfl (Ae (Ay (Am (Aa (I rfl (I rfl (A3 (eC (.u rfl rfl) (xM)) rfl (Zj cf lb hen ad cp l _ (Els.up hE0 hW) hl (fun W u x hx=>hp W (hW.trans u) x hx)) ?_)))))))
 rintro _ w1 ⟨rfl,uw1⟩
 replace hW:=hW.up uw1
 refine U (.geq (.t rfl) (.const _)) (LW.A rfl (Af (Al (KW.q ?_))))
 exact⟨rfl,hW⟩
theorem Wb(n lo hi:Int)(w:World):Ret prog 83 #[vi n,vi lo,vi hi] w fun r w'=>r=.bool (eH n lo hi)∧Up w w':=by
 have hW:=Up.refl w
 refine cT 15 func83 rfl (Ae (Ay (Am (Aa (I rfl (I rfl (U (.geq (.t rfl) (.t rfl)) (I rfl (F5 rfl rfl (F5 rfl rfl (LW.gr rfl (fun hc=>PEv.leq vQ vQ) (U (.pa rfl (fun hp=>(by exact .cond rfl (by(rw[hp];rfl))))) (LW.A rfl (Af (Al (KW.q ?_))))))))))))))))
 exact⟨by unfold eH;simp,hW⟩
theorem Dl(n lo hi:Int)(w:World)(h:lo≤n∧n≤hi):Ret prog 83 #[vi n,vi lo,vi hi] w fun r w'=>r=.bool true∧Up w w':=by
 have:=Wb n lo hi w
 unfold eH at this
 rwa [be h.1,be h.2]at this
theorem Hd(ad:Option Addr)(cp:Nat)(l:List Int)(lo hi:Int)(w:World)(hE:Els w ad 1 A6 l)(hl:l.length≤100)(hr:AscR l lo hi):Ret prog 166 #[.slice ad l.length cp,vi lo,vi hi] w fun r w'=>r=.bool true∧Up w w':=by
 have hW:=Up.refl w
 obtain⟨w0,rfl,_⟩:=W0 w
 refine cT 35 func166 rfl ?_
 refine Ae (Ay (Am (Ae (I rfl ?_))))
 refine U (.Cn ju (.t rfl)) ?_
 refine U (.move (.const _)) ?_
 refine Af (Ah ?_)
 refine A5 (σ:=Nat) (fun s w=>(s≤l.length)∧(Up w0 w)) (fun s=>[(11,.eq (vi (s:Int)))]) ([(0,.eq _),(1,.eq _),(2,.eq _),(9,.eq _),(10,.eq _)]) (fun s=>l.length-s) 0 ?_ tQ ?_
 ·exact⟨au _,hW⟩
 rintro k w1 ⟨hk,hW⟩
 refine Ae ?_
 refine U (.l2 rfl rfl) ?_
 refine Am ?_
 refine CW.b rfl (fun h12=>?_) (fun h12=>?_)
 ·replace h12:=dQ h12
  refine Ai (Ac (Ak (Ah (Ae (I rfl ?_)))))
  obtain⟨x,hx⟩:=An (xs:=l) (i:=k) oQ
  obtain⟨Bx,ox,ax,hcx⟩:=(Els.up hE hW) _ x hx
  refine U (.Ar ju jw (.t rfl) (.t rfl) oQ ax) ?_
  refine U (.lb rfl (hcx.nth (j:=0) rfl)) ?_
  refine LW.A rfl (LW.A rfl (Am ?_))
  cases k with
  |zero=>
   refine Aa (I rfl (I rfl (I rfl ?_)))
   refine A3 (eC (.ct rfl (.ct rfl (.cu rfl))) (O5)) rfl (Dl _ _ _ _ (by exact hr.r x (ae hx))) ?_
   rintro _ w2 ⟨rfl,uw2⟩
   have zw2:=uw2.size
   replace hW:=hW.up uw2
   replace hcx:=hcx.up uw2
   refine U (.n1 rfl) ?_
   refine I rfl ?_
   refine Ap ?_
   refine I rfl ?_
   refine Ap ?_
   refine U (.fa (PEv.gtr (.t rfl) (.const _)) (rfl)) ?_
   refine Ap ?_
   refine I rfl ?_
   refine Bh ?_
   refine Bh ?_
   refine Bh ?_
   refine Bh ?_
   refine Bh ?_
   refine Bh ?_
   refine Bh ?_
   refine Ap ?_
   refine U (.C0 (b:=false) (.t rfl) (fun hp=>absurd (show false=true from hp) cQ)) ?_
   refine U (.po rfl (fun hp=>wQ)) ?_
   refine Af ?_
   refine CW.f rfl ?_
   refine Ai (Aj (Ac (Aa ?_)))
   refine U (.ic rfl oQ) ?_
   refine I rfl (LW.nil (Av ?_))
   exact⟨0+1,⟨by omega,hW⟩,tQ,by first|omega|(dsimp only;omega)⟩
  |succ k1=>
   obtain⟨y,hy⟩:=An (xs:=l) (i:=k1) oQ
   obtain⟨By,oy,ay,hcy⟩:=hE k1 y hy
   have hyx:=jB hr.a hy hx
   refine Aa (I rfl (I rfl (I rfl ?_)))
   refine A3 (eC (.ct rfl (.ct rfl (.cu rfl))) (O5)) rfl (Dl _ _ _ _ (by exact hr.r x (ae hx))) ?_
   rintro _ w3 ⟨rfl,uw3⟩
   have zw3:=uw3.size
   replace hW:=hW.up uw3
   replace hcx:=hcx.up uw3
   refine U (.n1 rfl) ?_
   refine I rfl ?_
   refine Ap ?_
   refine I rfl ?_
   refine Ap ?_
   refine U (.tr (PEv.gtr (.t rfl) (.const _)) (be oQ)) ?_
   refine Ap ?_
   refine I rfl ?_
   refine Ap ?_
   refine I rfl ?_
   refine Ap ?_
   refine I rfl ?_
   refine Ap ?_
   refine I rfl ?_
   refine Ap ?_
   refine U (.Ez (v':=vi (k1:Int)) (PEv.sub (.t rfl) (.const _) oQ oQ) (aq vi oQ)) ?_
   refine Ap ?_
   refine U (.Ar ju jw (j:=k1) (.t rfl) (.t rfl) oQ ay) ?_
   refine Ap ?_
   refine U (.lb rfl ((hcy.up hW).nth (j:=0) rfl)) ?_
   refine Ap ?_
   refine U (.fa (PEv.leq (.t rfl) (.t rfl)) (bn oQ)) ?_
   refine Ap ?_
   refine U (.pa rfl (fun hp=>wQ)) ?_
   refine U (.po rfl (fun hp=>wQ)) ?_
   refine Af ?_
   refine CW.f rfl ?_
   refine Ai (Aj (Ac (Aa ?_)))
   refine U (.ic rfl oQ) ?_
   refine I rfl (LW.nil (Av ?_))
   exact⟨k1+1+1,⟨by omega,hW⟩,tQ,by first|omega|(dsimp only;omega)⟩
 replace h12:=dQ h12
 refine A8 (Ab (Ab (Ao (Ac (Ae (Ay (Af (Al ?_))))))))
 refine KW.q ?_
 exact⟨rfl,hW⟩
theorem Kb(sa wa:Option Addr)(n sc m wc:Nat)(w:World):Ret prog 82 #[.agg (Cu sa n sc wa m wc)] w fun r w'=>r=.bool true∧Up w w':=by
 obtain⟨w0,rfl,hS⟩:=W0 w
 refine cT 18 func82 rfl ?_
 refine Ae ?_
 refine Aq (.bA rfl) rfl ?_
 rintro _ w1 ⟨B1,rfl,NB1⟩
 have eB1:=NB1.at_
 have zB1:=NB1.size
 replace hS:=hS.Cc NB1
 change Wx.Sep _ _ _ [_]at hS
 refine Ay (Am (Aa ?_))
 refine U (.fB 0 rfl) ?_
 refine U (.lb rfl (hS.b0.Ad rfl)) ?_
 refine U (.leq (.const _) (.t rfl)) ?_
 refine I rfl ?_
 refine LW.gr rfl (fun hc=>PEv.fB 0 rfl) ?_
 refine LW.gr rfl (fun hc=>PEv.load j_ vQ (hS.b0.Ad rfl)) ?_
 refine LW.gr rfl (fun hc=>PEv.fB 1 rfl) ?_
 refine LW.gr rfl (fun hc=>PEv.load j_ vQ (hS.b0.Ad rfl)) ?_
 refine LW.gr rfl (fun hc=>PEv.leq vQ vQ) ?_
 refine U (.pa rfl (fun hp=>wQ)) ?_
 refine I rfl ?_
 refine LW.gr rfl (fun hc=>PEv.fB 1 rfl) ?_
 refine LW.gr rfl (fun hc=>PEv.load j_ vQ (hS.b0.Ad rfl)) ?_
 refine LW.gr rfl (fun hc=>PEv.leq vQ (.const _)) ?_
 refine U (.pa rfl (fun hp=>wQ)) ?_
 refine LW.A rfl (Af (Al ?_))
 refine KW.q ?_
 exact⟨rfl,hS.Cl⟩
theorem Lq(s:Sk)(n:Int)(w:World)(hn:0≤n∧n≤1000)(hg:s.Ok n)(h1:Els w s.ta 1 A6 s.tl)(h2:Els w s.na 1 A6 s.nx):Ret prog 86 #[.agg s.cells,vi n] w fun r w'=>r=.bool true∧Up w w':=by
 obtain⟨w0,rfl,hS⟩:=W0 w
 refine cT 75 func86 rfl ?_
 refine Ae ?_
 refine Aq (.bA rfl) rfl ?_
 rintro _ w1 ⟨B2,rfl,NB2⟩
 have eB2:=NB2.at_
 have zB2:=NB2.size
 replace hS:=hS.Cc NB2
 change Wx.Sep _ _ _ [_]at hS
 refine Ay (Am ?_)
 cases hq1:decide (s.bk= -1)with
 |true=>
  obtain⟨e1,e2⟩:=hg.bk.resolve_right (fun h=>by have:=bw hq1;omega)
  refine Aa ?_
  refine U (.fB 5 rfl) ?_
  refine U (.lb rfl (hS.b0.Ad rfl)) ?_
  refine U (.tr (PEv.eql (.t rfl) (.const _)) (be e1)) ?_
  refine I rfl ?_
  refine Ap ?_
  refine U (.fB 6 rfl) ?_
  refine Ap ?_
  refine U (.lb rfl (hS.b0.Ad rfl)) ?_
  refine Ap ?_
  refine U (.tr (PEv.eql (.t rfl) (.const _)) (be e2)) ?_
  refine U (.pa rfl (fun hp=>wQ)) ?_
  refine I rfl ?_
  refine Bh ?_
  refine Bh ?_
  refine Bh ?_
  refine Bh ?_
  refine Bh ?_
  refine Bh ?_
  refine H2 rfl rfl rfl rfl rfl rfl ?_
  refine H2 rfl rfl rfl rfl rfl rfl ?_
  refine H2 rfl rfl rfl rfl rfl rfl ?_
  refine Bh ?_
  refine U (.D5 (b:=false) (.t rfl) (fun hp=>absurd (show true=false from hp) cQ)) ?_
  refine LW.A rfl (Am (Aa ?_))
  refine U (.fB 1 rfl) ?_
  refine U (.lb rfl (hS.b0.Ad rfl)) ?_
  refine U (.Cn ju (.t rfl)) ?_
  refine A3 (eC (.ct rfl (.cons (.const _) (.cons (.const _) .nil))) (O5)) rfl (Dl _ _ _ _ (by have:=hg.tl;omega)) ?_
  rintro _ w2 ⟨rfl,uw2⟩
  have zw2:=uw2.size
  replace hS:=hS.up uw2
  refine I rfl ?_
  refine Ap ?_
  refine U (.fB 4 rfl) ?_
  refine Ap ?_
  refine U (.lb rfl (hS.b0.Ad rfl)) ?_
  refine Ap ?_
  refine U (.Cn ju (.t rfl)) ?_
  refine Ap ?_
  refine U (.tr (PEv.leq (.t rfl) (.const _)) (be (by have:=hg.nl;omega))) ?_
  refine U (.pa rfl (fun hp=>wQ)) ?_
  refine LW.A rfl (Am (Aa (I rfl (I rfl ?_))))
  refine Ap ?_
  refine I rfl ?_
  refine U (.pa rfl (fun hp=>wQ)) ?_
  refine I rfl ?_
  refine Ap ?_
  refine U (.fB 0 rfl) ?_
  refine Ap ?_
  refine U (.lb rfl (hS.b0.Ad rfl)) ?_
  refine Ap ?_
  refine A3 (eC (.ct rfl (.cons (.const _) (.cons (.const _) .nil))) (O5)) rfl (Dl _ _ _ _ (by have:=hg.rc;omega)) ?_
  rintro _ w3 ⟨rfl,uw3⟩
  have zw3:=uw3.size
  replace hS:=hS.up uw3
  refine U (.pa rfl (fun hp=>wQ)) ?_
  refine I rfl ?_
  refine Ap ?_
  refine U (.fB 1 rfl) ?_
  refine Ap ?_
  refine U (.lb rfl (hS.b0.Ad rfl)) ?_
  refine Ap ?_
  refine A3 (eC (.ct rfl (.cons (.const _) (.cons (.const _) .nil))) (bI)) rfl (Hd s.ta s.tc s.tl 0 59 _ (Els.up h1 hS.Cl) (by have:=hg.tl;omega) hg.ta) ?_
  rintro _ w4 ⟨rfl,uw4⟩
  have zw4:=uw4.size
  replace hS:=hS.up uw4
  refine U (.pa rfl (fun hp=>wQ)) ?_
  refine I rfl ?_
  refine Ap ?_
  refine U (.fB 4 rfl) ?_
  refine Ap ?_
  refine U (.lb rfl (hS.b0.Ad rfl)) ?_
  refine Ap ?_
  refine I rfl ?_
  refine Ap ?_
  refine U (.sub (.t rfl) (.const _) oQ oQ) ?_
  refine Ap ?_
  refine A3 (eC (.ct rfl (.cons (.const _) (.cu rfl))) (bI)) rfl (Hd s.na s.nc s.nx 0 (n-1) _ (Els.up h2 hS.Cl) (by have:=hg.nl;omega) hg.nx) ?_
  rintro _ w5 ⟨rfl,uw5⟩
  have zw5:=uw5.size
  replace hS:=hS.up uw5
  refine U (.pa rfl (fun hp=>wQ)) ?_
  refine I rfl ?_
  refine Ap ?_
  refine U (.fB 2 rfl) ?_
  refine Ap ?_
  refine U (.lb rfl (hS.b0.Ad rfl)) ?_
  refine Ap ?_
  refine U (.tr (PEv.leq (.const _) (.t rfl)) (be (by have:=hg.mn;omega))) ?_
  refine U (.pa rfl (fun hp=>wQ)) ?_
  refine I rfl ?_
  refine Ap ?_
  refine U (.fB 2 rfl) ?_
  refine Ap ?_
  refine U (.lb rfl (hS.b0.Ad rfl)) ?_
  refine Ap ?_
  refine U (.fB 3 rfl) ?_
  refine Ap ?_
  refine U (.lb rfl (hS.b0.Ad rfl)) ?_
  refine Ap ?_
  refine U (.tr (PEv.leq (.t rfl) (.t rfl)) (be (by have:=hg.mn;omega))) ?_
  refine U (.pa rfl (fun hp=>wQ)) ?_
  refine I rfl ?_
  refine Ap ?_
  refine U (.fB 3 rfl) ?_
  refine Ap ?_
  refine U (.lb rfl (hS.b0.Ad rfl)) ?_
  refine Ap ?_
  refine U (.tr (PEv.leq (.t rfl) (.const _)) (be (by have:=hg.mn;omega))) ?_
  refine U (.pa rfl (fun hp=>wQ)) ?_
  refine LW.A rfl (Af (Al ?_))
  refine KW.q ?_
  exact⟨rfl,hS.Cl⟩
 |false=>
  obtain⟨e1,e2⟩:=hg.bk.resolve_left (fun h=>by have:=cc hq1;omega)
  refine Aa ?_
  refine U (.fB 5 rfl) ?_
  refine U (.lb rfl (hS.b0.Ad rfl)) ?_
  refine U (.fa (PEv.eql (.t rfl) (.const _)) (bn oQ)) ?_
  refine I rfl ?_
  refine Bh ?_
  refine Bh ?_
  refine Bh ?_
  refine U (.C0 (b:=false) (.t rfl) (fun hp=>absurd (show false=true from hp) cQ)) ?_
  refine I rfl ?_
  refine Ap ?_
  refine U (.fB 5 rfl) ?_
  refine Ap ?_
  refine U (.lb rfl (hS.b0.Ad rfl)) ?_
  refine Ap ?_
  refine I rfl ?_
  refine Ap ?_
  refine U (.sub (.t rfl) (.const _) oQ oQ) ?_
  refine Ap ?_
  refine A3 (eC (.ct rfl (.cons (.const _) (.cu rfl))) (O5)) rfl (Dl _ _ _ _ oQ) ?_
  rintro _ w6 ⟨rfl,uw6⟩
  have zw6:=uw6.size
  replace hS:=hS.up uw6
  refine Ap ?_
  refine I rfl ?_
  refine Ap ?_
  refine U (.fB 6 rfl) ?_
  refine Ap ?_
  refine U (.lb rfl (hS.b0.Ad rfl)) ?_
  refine Ap ?_
  refine A3 (eC (.ct rfl (.cons (.const _) (.cons (.const _) .nil))) (O5)) rfl (Dl _ _ _ _ oQ) ?_
  rintro _ w7 ⟨rfl,uw7⟩
  have zw7:=uw7.size
  replace hS:=hS.up uw7
  refine Ap ?_
  refine U (.pa rfl (fun hp=>wQ)) ?_
  refine U (.po rfl (fun hp=>wQ)) ?_
  refine LW.A rfl (Am (Aa ?_))
  refine U (.fB 1 rfl) ?_
  refine U (.lb rfl (hS.b0.Ad rfl)) ?_
  refine U (.Cn ju (.t rfl)) ?_
  refine A3 (eC (.ct rfl (.cons (.const _) (.cons (.const _) .nil))) (O5)) rfl (Dl _ _ _ _ (by have:=hg.tl;omega)) ?_
  rintro _ w8 ⟨rfl,uw8⟩
  have zw8:=uw8.size
  replace hS:=hS.up uw8
  refine I rfl ?_
  refine Ap ?_
  refine U (.fB 4 rfl) ?_
  refine Ap ?_
  refine U (.lb rfl (hS.b0.Ad rfl)) ?_
  refine Ap ?_
  refine U (.Cn ju (.t rfl)) ?_
  refine Ap ?_
  refine U (.tr (PEv.leq (.t rfl) (.const _)) (be (by have:=hg.nl;omega))) ?_
  refine U (.pa rfl (fun hp=>wQ)) ?_
  refine LW.A rfl (Am (Aa (I rfl (I rfl ?_))))
  refine Ap ?_
  refine I rfl ?_
  refine U (.pa rfl (fun hp=>wQ)) ?_
  refine I rfl ?_
  refine Ap ?_
  refine U (.fB 0 rfl) ?_
  refine Ap ?_
  refine U (.lb rfl (hS.b0.Ad rfl)) ?_
  refine Ap ?_
  refine A3 (eC (.ct rfl (.cons (.const _) (.cons (.const _) .nil))) (O5)) rfl (Dl _ _ _ _ (by have:=hg.rc;omega)) ?_
  rintro _ w9 ⟨rfl,uw9⟩
  have zw9:=uw9.size
  replace hS:=hS.up uw9
  refine U (.pa rfl (fun hp=>wQ)) ?_
  refine I rfl ?_
  refine Ap ?_
  refine U (.fB 1 rfl) ?_
  refine Ap ?_
  refine U (.lb rfl (hS.b0.Ad rfl)) ?_
  refine Ap ?_
  refine A3 (eC (.ct rfl (.cons (.const _) (.cons (.const _) .nil))) (bI)) rfl (Hd s.ta s.tc s.tl 0 59 _ (Els.up h1 hS.Cl) (by have:=hg.tl;omega) hg.ta) ?_
  rintro _ w10 ⟨rfl,uw10⟩
  have zw10:=uw10.size
  replace hS:=hS.up uw10
  refine U (.pa rfl (fun hp=>wQ)) ?_
  refine I rfl ?_
  refine Ap ?_
  refine U (.fB 4 rfl) ?_
  refine Ap ?_
  refine U (.lb rfl (hS.b0.Ad rfl)) ?_
  refine Ap ?_
  refine I rfl ?_
  refine Ap ?_
  refine U (.sub (.t rfl) (.const _) oQ oQ) ?_
  refine Ap ?_
  refine A3 (eC (.ct rfl (.cons (.const _) (.cu rfl))) (bI)) rfl (Hd s.na s.nc s.nx 0 (n-1) _ (Els.up h2 hS.Cl) (by have:=hg.nl;omega) hg.nx) ?_
  rintro _ w11 ⟨rfl,uw11⟩
  have zw11:=uw11.size
  replace hS:=hS.up uw11
  refine U (.pa rfl (fun hp=>wQ)) ?_
  refine I rfl ?_
  refine Ap ?_
  refine U (.fB 2 rfl) ?_
  refine Ap ?_
  refine U (.lb rfl (hS.b0.Ad rfl)) ?_
  refine Ap ?_
  refine U (.tr (PEv.leq (.const _) (.t rfl)) (be (by have:=hg.mn;omega))) ?_
  refine U (.pa rfl (fun hp=>wQ)) ?_
  refine I rfl ?_
  refine Ap ?_
  refine U (.fB 2 rfl) ?_
  refine Ap ?_
  refine U (.lb rfl (hS.b0.Ad rfl)) ?_
  refine Ap ?_
  refine U (.fB 3 rfl) ?_
  refine Ap ?_
  refine U (.lb rfl (hS.b0.Ad rfl)) ?_
  refine Ap ?_
  refine U (.tr (PEv.leq (.t rfl) (.t rfl)) (be (by have:=hg.mn;omega))) ?_
  refine U (.pa rfl (fun hp=>wQ)) ?_
  refine I rfl ?_
  refine Ap ?_
  refine U (.fB 3 rfl) ?_
  refine Ap ?_
  refine U (.lb rfl (hS.b0.Ad rfl)) ?_
  refine Ap ?_
  refine U (.tr (PEv.leq (.t rfl) (.const _)) (be (by have:=hg.mn;omega))) ?_
  refine U (.pa rfl (fun hp=>wQ)) ?_
  refine LW.A rfl (Af (Al ?_))
  refine KW.q ?_
  exact⟨rfl,hS.Cl⟩
theorem Wc(s:Sk)(n:Int)(B:Nat)(w:World)(hB:Blk w B #[vi n] 3)(hn:0≤n∧n≤1000)(hg:s.Ok n)(h1:Els w s.ta 1 A6 s.tl)(h2:Els w s.na 1 A6 s.nx):Ret prog 85 #[.agg s.cells,.pointer (some ⟨B,0,none⟩)] w fun r w'=>r=.bool false∧Up w w':=by
 obtain⟨w0,rfl,hS⟩:=W0 w
 refine cT 8 func85 rfl ?_
 refine Ae ?_
 refine Aq (.bA rfl) rfl ?_
 rintro _ w1 ⟨B2,rfl,NB2⟩
 have eB2:=NB2.at_
 have zB2:=NB2.size
 replace hS:=hS.Cc NB2
 change Wx.Sep _ _ _ [_]at hS
 refine Ay (Am (Aa ?_))
 refine U (.lc rfl (hS.b0.agg)) ?_
 refine U (.lb rfl ((hB.up hS.Cl).Ad rfl)) ?_
 refine A3 (eC (.u rfl rfl) (uW)) rfl (Lq s n _ hn hg (Els.up h1 hS.Cl) (Els.up h2 hS.Cl)) ?_
 rintro _ w2 ⟨rfl,uw2⟩
 have zw2:=uw2.size
 replace hS:=hS.up uw2
 refine U (.n1 rfl) ?_
 refine LW.A rfl (Af (Al ?_))
 refine KW.q ?_
 exact⟨rfl,hS.Cl⟩
theorem Zl(cf:Nat)(lb:Array Go.Value)(hen:∀args w,(callFunc cf args).run prog w=.ok (.enter cf args) w)(ad:Option Addr)(cp:Nat)(l:List Sk)(w:World)(hE0:Els w ad 7 Sk.cells l)(hl:l.length≤100000)(hp:∀W,Up w W→∀x∈l,Ret prog cf (#[.agg (Sk.cells x)]++lb) W fun r W'=>r=.bool false∧Up W W'):Ret prog 165 #[.slice ad l.length cp,.func (.func cf) #[] lb] w fun r w'=>r=vi (-1)∧Up w w':=by
 have hW:=Up.refl w
 obtain⟨w0,rfl,_⟩:=W0 w
 refine cT 19 func165 rfl (Ae (Ay (Am (Ae (I rfl (U (.Cn j0 (.t rfl)) (U (.move (.const _)) (Af (Ah (A5 (σ:=Nat) (fun s w=>(s≤l.length)∧(Up w0 w)) (fun s=>[(8,.eq (vi (s:Int)))]) ([(0,.eq _),(1,.eq _),(7,.eq _)]) (fun s=>l.length-s) 0 ?_ tQ ?_))))))))))
 ·exact⟨au _,hW⟩
 rintro k w1 ⟨hk,hW⟩
 refine Ae (U (.l2 rfl rfl) (Am (CW.b rfl (fun h9=>?_) (fun h9=>?_))))
 ·replace h9:=dQ h9
  refine Ai (Ac (Ak (Ah (Ae (I rfl (LW.A rfl (Am ?_)))))))
  have hE:=Els.up hE0 hW
  refine Aa (I rfl (I rfl (I rfl ?_)))
  obtain⟨x,hx⟩:=An (xs:=l) (i:=k) oQ
  obtain⟨Bx,ox,ax,hcx⟩:=hE _ x hx
  refine U (.Ar j0 kh (.t rfl) (.t rfl) oQ ax) (U (.lc rfl (hcx)) (A3 (Cr (.t rfl) (.cu rfl) (hen)) rfl (hp _ hW x (ae hx)) ?_))
  rintro _ w2 ⟨rfl,uw2⟩
  replace hW:=hW.up uw2
  replace hcx:=hcx.up uw2
  refine Af (CW.f rfl (Ai (Aj (Ac (Aa (U (.ic rfl oQ) (I rfl (LW.nil (Av ?_)))))))))
  exact⟨k+1,⟨by omega,hW⟩,tQ,by omega⟩
 replace h9:=dQ h9
 refine A8 (Ab (Ab (Ao (Ac (Ae (Ay (Af (Al (KW.q ?_)))))))))
 exact⟨rfl,hW⟩
theorem Sc(cf:Nat)(lb:Array Go.Value)(hen:∀args w,(callFunc cf args).run prog w=.ok (.enter cf args) w)(ad:Option Addr)(cp:Nat)(l:List Sk)(w:World)(hE0:Els w ad 7 Sk.cells l)(hl:l.length≤100000)(hp:∀W,Up w W→∀x∈l,Ret prog cf (#[.agg (Sk.cells x)]++lb) W fun r W'=>r=.bool false∧Up W W'):Ret prog 84 #[.slice ad l.length cp,.func (.func cf) #[] lb] w fun r w'=>r=.bool false∧Up w w':=by
 have hW:=Up.refl w
 refine cT 9 func84 rfl (Ae (Ay (Am (Aa (I rfl (I rfl (A3 (eC (.u rfl rfl) (wP)) rfl (Zl cf lb hen ad cp l _ (Els.up hE0 hW) hl (fun W u x hx=>hp W (hW.trans u) x hx)) ?_)))))))
 rintro _ w1 ⟨rfl,uw1⟩
 replace hW:=hW.up uw1
 refine U (.geq (.t rfl) (.const _)) (LW.A rfl (Af (Al (KW.q ?_))))
 exact⟨rfl,hW⟩
theorem O6(x:Wn)(n:Int)(w:World)(hn:0≤n∧n≤1000)(hx:x.Ok n):Ret prog 87 #[.agg x.cells,vi n] w fun r w'=>r=.bool true∧Up w w':=by
 obtain⟨w0,rfl,hS⟩:=W0 w
 refine cT 29 func87 rfl ?_
 refine Ae ?_
 refine Aq (.bA rfl) rfl ?_
 rintro _ w1 ⟨B2,rfl,NB2⟩
 have eB2:=NB2.at_
 have zB2:=NB2.size
 replace hS:=hS.Cc NB2
 change Wx.Sep _ _ _ [_]at hS
 refine Ay (Am (Aa ?_))
 refine U (.fB 0 rfl) ?_
 refine U (.lb rfl (hS.b0.Ad rfl)) ?_
 refine I rfl ?_
 refine U (.sub (.t rfl) (.const _) oQ oQ) ?_
 refine A3 (eC (.ct rfl (.cons (.const _) (.cu rfl))) (O5)) rfl (Dl _ _ _ _ (by have:=hx.a;omega)) ?_
 rintro _ w2 ⟨rfl,uw2⟩
 have zw2:=uw2.size
 replace hS:=hS.up uw2
 refine I rfl ?_
 refine Ap ?_
 refine U (.fB 1 rfl) ?_
 refine Ap ?_
 refine U (.lb rfl (hS.b0.Ad rfl)) ?_
 refine Ap ?_
 refine I rfl ?_
 refine Ap ?_
 refine U (.sub (.t rfl) (.const _) oQ oQ) ?_
 refine Ap ?_
 refine A3 (eC (.ct rfl (.cons (.const _) (.cu rfl))) (O5)) rfl (Dl _ _ _ _ (by have:=hx.b;omega)) ?_
 rintro _ w3 ⟨rfl,uw3⟩
 have zw3:=uw3.size
 replace hS:=hS.up uw3
 refine U (.pa rfl (fun hp=>wQ)) ?_
 refine I rfl ?_
 refine Ap ?_
 refine U (.fB 0 rfl) ?_
 refine Ap ?_
 refine U (.lb rfl (hS.b0.Ad rfl)) ?_
 refine Ap ?_
 refine U (.fB 1 rfl) ?_
 refine Ap ?_
 refine U (.lb rfl (hS.b0.Ad rfl)) ?_
 refine Ap ?_
 refine U (.tr (PEv.neq (.t rfl) (.t rfl)) (by simp[hx.ne])) ?_
 refine U (.pa rfl (fun hp=>wQ)) ?_
 refine I rfl ?_
 refine Ap ?_
 refine U (.fB 2 rfl) ?_
 refine Ap ?_
 refine U (.lb rfl (hS.b0.Ad rfl)) ?_
 refine Ap ?_
 refine A3 (eC (.ct rfl (.cons (.const _) (.cons (.const _) .nil))) (O5)) rfl (Dl _ _ _ _ (by have:=hx.l;omega)) ?_
 rintro _ w4 ⟨rfl,uw4⟩
 have zw4:=uw4.size
 replace hS:=hS.up uw4
 refine U (.pa rfl (fun hp=>wQ)) ?_
 refine LW.A rfl (Af (Al ?_))
 refine KW.q ?_
 exact⟨rfl,hS.Cl⟩
theorem Wd(ad:Option Addr)(cp:Nat)(x:Wn)(w:World):Ret prog 88 #[.slice ad 0 cp,.agg x.cells] w fun r w'=>r=.bool true∧Up w w':=by
 obtain⟨w0,rfl,hS⟩:=W0 w
 refine cT 34 func88 rfl ?_
 refine Ae ?_
 refine Aq (.bA rfl) rfl ?_
 rintro _ w1 ⟨B3,rfl,NB3⟩
 have eB3:=NB3.at_
 have zB3:=NB3.size
 replace hS:=hS.Cc NB3
 change Wx.Sep _ _ _ [_]at hS
 refine Ay (Am (Ae (I rfl ?_)))
 refine U (.Cn j9 (.t rfl)) ?_
 refine U (.tr (PEv.eql (.t rfl) (.const _)) (rfl)) ?_
 refine Af ?_
 refine CW.v rfl ?_
 refine Ae (Ay (Af (Al (Au ?_))))
 refine KW.q ?_
 exact⟨rfl,hS.Cl⟩
theorem Kc(sa wa:Option Addr)(sc wc:Nat)(L:List Sk)(Ws:List Wn)(w:World)(hF:FlG w sa wa L Ws):Ret prog 29 #[.agg (Cu sa L.length sc wa Ws.length wc)] w fun r w'=>r=.bool true∧Up w w':=by
 obtain⟨w0,rfl,hS⟩:=W0 w
 refine cT 49 func29 rfl ?_
 refine Ae ?_
 refine Aq (.bA rfl) rfl ?_
 rintro _ w1 ⟨B1,rfl,NB1⟩
 have eB1:=NB1.at_
 have zB1:=NB1.size
 replace hS:=hS.Cc NB1
 change Wx.Sep _ _ _ [_]at hS
 refine Ay (Am (Aa ?_))
 refine U (.fB 2 rfl) ?_
 refine U (.lb rfl (hS.b0.Ad rfl)) ?_
 refine U (.Cn j0 (.t rfl)) ?_
 refine Aq (.F6 j2 rfl) rfl ?_
 rintro _ w2 ⟨B3,rfl,MB3⟩
 refine Cb (.store jw (.t rfl) (.t rfl) rfl MB3.blk cQ) ?_
 intro w3 LB3
 have NB3:=MB3.set LB3
 clear LB3 MB3
 have eB3:=NB3.at_
 have zB3:=NB3.size
 replace hS:=hS.Cc NB3
 change Wx.Sep _ _ _ [_,_]at hS
 refine Am (Ae ?_)
 refine U (.lc rfl (hS.b0.agg)) ?_
 refine A3 (eC (.o rfl) (uV)) rfl (Kb sa wa _ sc _ wc _) ?_
 rintro _ w4 ⟨rfl,uw4⟩
 have zw4:=uw4.size
 replace hS:=hS.up uw4
 refine U (.n1 rfl) ?_
 refine I rfl ?_
 refine Ap ?_
 refine U (.lb rfl (hS.b1.Ad rfl)) ?_
 refine Ap ?_
 refine A3 (eC (.ct rfl (.cons (.const _) (.cons (.const _) .nil))) (O5)) rfl (Dl _ _ _ _ (by have:=hF.len;omega)) ?_
 rintro _ w5 ⟨rfl,uw5⟩
 have zw5:=uw5.size
 replace hS:=hS.up uw5
 refine Ap ?_
 refine U (.fa (PEv.n1 rfl) (rfl)) ?_
 refine U (.po rfl (fun hp=>wQ)) ?_
 refine I rfl ?_
 refine Ap ?_
 refine U (.fB 3 rfl) ?_
 refine Ap ?_
 refine U (.lb rfl (hS.b0.Ad rfl)) ?_
 refine Ap ?_
 refine U (.Cn j9 (.t rfl)) ?_
 refine Ap ?_
 refine U (.fa (PEv.gtr (.t rfl) (.const _)) (bn (by have:=hF.wl;omega))) ?_
 refine U (.po rfl (fun hp=>wQ)) ?_
 refine Af ?_
 refine CW.f rfl ?_
 refine Ai (Ac (Ak (Ae ?_)))
 refine U (.fB 2 rfl) ?_
 refine U (.lb rfl (hS.b0.Ad rfl)) ?_
 refine U (.makeFunc (.cu rfl)) ?_
 refine A3 (eC (.u rfl rfl) (BT)) rfl (Sc 85 #[.pointer (some ⟨B3,0,none⟩)] BU sa sc L _ (Els.up hF.E hS.Cl) (by have:=hF.len;omega) (fun W u x hx=>Wc x L.length B3 W (hS.b1.up u) (by have:=hF.len;omega) (hF.g x hx) (Els.up (hF.p x hx).1 (hS.Cl.trans u)) (Els.up (hF.p x hx).2 (hS.Cl.trans u)))) ?_
 rintro _ w6 ⟨rfl,uw6⟩
 have zw6:=uw6.size
 replace hS:=hS.up uw6
 refine Af ?_
 refine CW.f rfl ?_
 refine Ai (Ac (Ak (Ae ?_)))
 refine U (.fB 3 rfl) ?_
 refine U (.lb rfl (hS.b0.Ad rfl)) ?_
 refine U (.Cn j9 (.t rfl)) ?_
 refine U (.move (.const _)) ?_
 refine Af (Ah ?_)
 refine A5 (σ:=Nat) (fun s w=>(s≤1)∧(Wx.Sep no w0 w [A4 B1 (Cu sa L.length sc wa Ws.length wc) 28,A4 B3 #[vi (L.length:Int)] 3])) (fun s=>[(30,.eq (vi (s:Int)))]) ([(1,.eq _),(3,.eq _),(28,.eq _),(29,.eq _)]) (fun s=>1-s) 0 ?_ tQ ?_
 ·exact⟨au _,hS⟩
 rintro k w7 ⟨hk,hS⟩
 refine Ae ?_
 refine U (.l2 rfl rfl) ?_
 refine Am ?_
 refine CW.b rfl (fun h31=>?_) (fun h31=>?_)
 ·replace h31:=dQ h31
  refine Ai (Ac (Ak (Ah (Ak ?_))))
  have hk0:k=0:=by have:=cz.1 h31;have:=hF.wl;omega
  subst hk0
  obtain⟨x,hx⟩:=An (xs:=Ws) (i:=0) (cz.1 h31)
  obtain⟨Bw,ow,aw,hcw⟩:=hF.wE 0 x hx
  refine Aa (I rfl ?_)
  refine U (.Ar j9 ma (j:=0) (.t rfl) (.t rfl) oQ aw) ?_
  refine U (.lc rfl ((hcw.up hS.Cl))) ?_
  refine Aq (.Bt mb) rfl ?_
  rintro _ w8 ⟨B5,rfl,MB5⟩
  refine LW.A rfl ?_
  refine Cb (.Ca ma rfl (.t rfl) (.t rfl) (Wn.one _) MB5.blk rfl) ?_
  intro w9 LB5
  have NB5:=MB5.set LB5
  clear LB5 MB5
  have eB5:=NB5.at_
  have zB5:=NB5.size
  replace hS:=hS.Cc NB5
  change Wx.Sep _ _ _ [_,_,_]at hS
  refine Am ?_
  refine C7 kQ kQ rfl rfl ?_
  refine J (.lc rfl (hS.b2.agg)) ?_
  refine J (.lb rfl (hS.b1.Ad rfl)) ?_
  refine HW.c (fun a w _ ha=>Bm (.ct rfl (.cu rfl)) (BV) a ha) rfl rfl (fun w hu=>O6 x L.length w (by have:=hF.len;omega) (hF.wn x (ae hx))) ?_
  refine J (.fa (PEv.n1 rfl) (rfl)) ?_
  refine J (.mv rfl) ?_
  refine Cv (.fB 3 rfl) ?_
  refine Cv (.lb rfl (hS.b0.Ad rfl)) ?_
  refine Cv (.mv rfl) ?_
  refine Cv (.Pg j9 ma (.t rfl) (.t rfl) oQ) ?_
  refine Cv (.lc rfl (hS.b2.agg)) ?_
  refine qA rfl rfl rfl rfl rfl (fun a w _ ha=>Bm (.ct rfl (.cu rfl)) (BW) a ha) rfl (fun w hu=>Wd wa wc x w) ?_
  refine Cv (.fa (PEv.n1 rfl) (rfl)) ?_
  refine J (.fa (PEv.po rfl (fun hp=>wQ)) (rfl)) ?_
  refine HW.nil ?_
  intro w10 uw10
  have zw10:=uw10.size
  replace hS:=hS.up uw10
  refine Ac ?_
  refine CW.f rfl ?_
  refine Ai (Aj (Ac (Aa ?_)))
  refine U (.ic rfl oQ) ?_
  refine I rfl (LW.nil (Av ?_))
  exact⟨1,⟨a8 _,hS.take 2⟩,tQ,by first|omega|(dsimp only;omega)⟩
 replace h31:=dQ h31
 refine A8 (Ab (Ab (Ao (Ac (Ae (Ay (Af (Al ?_))))))))
 refine KW.q ?_
 exact⟨rfl,hS.Cl⟩
theorem Zm(sa wa:Option Addr)(sc wc:Nat)(s0 s1 s2:Sk)(w:World)(hF:FlE w sa wa s0 s1 s2):Ret prog 29 #[.agg (Lp sa sc wa wc)] w fun r w'=>r=.bool true∧Up w w':=Kc sa wa sc wc [s0,s1,s2] [gX] w hF.G
theorem Zn(cf:Nat)(lb:Array Go.Value)(hen:∀args w,(callFunc cf args).run prog w=.ok (.enter cf args) w)(ad:Option Addr)(cp:Nat)(l:List Int)(w:World)(hE0:Els w ad 1 A6 l)(hl:l.length≤100000)(hp:∀W,Up w W→∀x∈l,Ret prog cf (#[vi x]++lb) W fun r W'=>r=.bool false∧Up W W'):Ret prog 249 #[.slice ad l.length cp,.func (.func cf) #[] lb] w fun r w'=>r=vi (-1)∧Up w w':=by
 have hW:=Up.refl w
 obtain⟨w0,rfl,_⟩:=W0 w
 refine cT 19 func249 rfl (Ae (Ay (Am (Ae (I rfl (U (.Cn ju (.t rfl)) (U (.move (.const _)) (Af (Ah (A5 (σ:=Nat) (fun s w=>(s≤l.length)∧(Up w0 w)) (fun s=>[(8,.eq (vi (s:Int)))]) ([(0,.eq _),(1,.eq _),(7,.eq _)]) (fun s=>l.length-s) 0 ?_ tQ ?_))))))))))
 ·exact⟨au _,hW⟩
 rintro k w1 ⟨hk,hW⟩
 refine Ae (U (.l2 rfl rfl) (Am (CW.b rfl (fun h9=>?_) (fun h9=>?_))))
 ·replace h9:=dQ h9
  refine Ai (Ac (Ak (Ah (Ae (I rfl (LW.A rfl (Am ?_)))))))
  have hE:=Els.up hE0 hW
  refine Aa (I rfl (I rfl (I rfl ?_)))
  obtain⟨x,hx⟩:=An (xs:=l) (i:=k) oQ
  obtain⟨Bx,ox,ax,hcx⟩:=hE _ x hx
  refine U (.Ar ju jw (.t rfl) (.t rfl) oQ ax) (U (.lb rfl (hcx.nth (j:=0) rfl)) (A3 (Cr (.t rfl) (.cu rfl) (hen)) rfl (hp _ hW x (ae hx)) ?_))
  rintro _ w2 ⟨rfl,uw2⟩
  replace hW:=hW.up uw2
  replace hcx:=hcx.up uw2
  refine Af (CW.f rfl (Ai (Aj (Ac (Aa (U (.ic rfl oQ) (I rfl (LW.nil (Av ?_)))))))))
  exact⟨k+1,⟨by omega,hW⟩,tQ,by omega⟩
 replace h9:=dQ h9
 refine A8 (Ab (Ab (Ao (Ac (Ae (Ay (Af (Al (KW.q ?_)))))))))
 exact⟨rfl,hW⟩
theorem Sd(cf:Nat)(lb:Array Go.Value)(hen:∀args w,(callFunc cf args).run prog w=.ok (.enter cf args) w)(ad:Option Addr)(cp:Nat)(l:List Int)(w:World)(hE0:Els w ad 1 A6 l)(hl:l.length≤100000)(hp:∀W,Up w W→∀x∈l,Ret prog cf (#[vi x]++lb) W fun r W'=>r=.bool false∧Up W W'):Ret prog 221 #[.slice ad l.length cp,.func (.func cf) #[] lb] w fun r w'=>r=.bool false∧Up w w':=by
 have hW:=Up.refl w
 refine cT 9 func221 rfl (Ae (Ay (Am (Aa (I rfl (I rfl (A3 (eC (.u rfl rfl) (qT)) rfl (Zn cf lb hen ad cp l _ (Els.up hE0 hW) hl (fun W u x hx=>hp W (hW.trans u) x hx)) ?_)))))))
 rintro _ w1 ⟨rfl,uw1⟩
 replace hW:=hW.up uw1
 refine U (.geq (.t rfl) (.const _)) (LW.A rfl (Af (Al (KW.q ?_))))
 exact⟨rfl,hW⟩
theorem Zo(n:Int)(B:Nat)(sa wa:Option Addr)(m sc k wc:Nat)(w:World)(hB:Blk w B (Cu sa m sc wa k wc) 28)(hn:0≤n∧n<m):Ret prog 222 #[vi n,.pointer (some ⟨B,0,none⟩)] w fun r w'=>r=.bool false∧Up w w':=by
 have hW:=Up.refl w
 refine cT 13 func222 rfl ?_
 refine Ae (Ay (Am (Aa (I rfl ?_))))
 refine U (.fa (PEv.lss (.t rfl) (.const _)) (bn oQ)) ?_
 refine I rfl ?_
 refine Ap ?_
 refine I rfl ?_
 refine Ap ?_
 refine U (.fB 2 rfl) ?_
 refine Ap ?_
 refine U (.lb rfl (hB.Ad rfl)) ?_
 refine Ap ?_
 refine U (.Cn j0 (.t rfl)) ?_
 refine Ap ?_
 refine U (.fa (PEv.geq (.t rfl) (.t rfl)) (bn oQ)) ?_
 refine U (.fa (PEv.po rfl (fun hp=>wQ)) (rfl)) ?_
 refine LW.A rfl (Af (Al ?_))
 refine KW.q ?_
 exact⟨rfl,hW⟩
theorem Qk(sa wa:Option Addr)(sc wc:Nat)(L:List Sk)(Ws:List Wn)(w:World)(hF:FlG w sa wa L Ws)(ad:Option Addr)(cp:Nat)(l:List Int)(hE:Els w ad 1 A6 l)(hl:l.length≤1000)(hn:∀x∈l,0≤x∧x<L.length):Ret prog 167 #[.agg (Cu sa L.length sc wa Ws.length wc),.slice ad l.length cp] w fun r w'=>r=.bool true∧Up w w':=by
 obtain⟨w0,rfl,hS⟩:=W0 w
 refine cT 13 func167 rfl ?_
 refine Ae ?_
 refine Aq (.bA rfl) rfl ?_
 rintro _ w1 ⟨B2,rfl,NB2⟩
 have eB2:=NB2.at_
 have zB2:=NB2.size
 replace hS:=hS.Cc NB2
 change Wx.Sep _ _ _ [_]at hS
 refine Ay (Am (Aa ?_))
 refine U (.lc rfl (hS.b0.agg)) ?_
 refine A3 (eC (.o rfl) (rP)) rfl (Kc sa wa sc wc L Ws _ (hF.up hS.Cl)) ?_
 rintro _ w2 ⟨rfl,uw2⟩
 have zw2:=uw2.size
 replace hS:=hS.up uw2
 refine I rfl ?_
 refine Ap ?_
 refine I rfl ?_
 refine Ap ?_
 refine U (.makeFunc (.cu rfl)) ?_
 refine Ap ?_
 refine A3 (eC (.u rfl rfl) (xK)) rfl (Sd 222 #[.pointer (some ⟨B2,0,none⟩)] xL ad cp l _ (Els.up hE hS.Cl) oQ (fun W u x hx=>Zo x B2 sa wa _ sc _ wc W (hS.b0.up u) (hn x hx))) ?_
 rintro _ w3 ⟨rfl,uw3⟩
 have zw3:=uw3.size
 replace hS:=hS.up uw3
 refine Ap ?_
 refine U (.n1 rfl) ?_
 refine U (.pa rfl (fun hp=>wQ)) ?_
 refine LW.A rfl (Af (Al ?_))
 refine KW.q ?_
 exact⟨rfl,hS.Cl⟩
theorem Tb(sa wa:Option Addr)(sc wc:Nat)(s0 s1 s2:Sk)(w:World)(hF:FlE w sa wa s0 s1 s2)(ad:Option Addr)(cp:Nat)(l:List Int)(hE:Els w ad 1 A6 l)(hl:l.length≤1000)(hn:∀x∈l,0≤x∧x<3):Ret prog 167 #[.agg (Lp sa sc wa wc),.slice ad l.length cp] w fun r w'=>r=.bool true∧Up w w':=Qk sa wa sc wc [s0,s1,s2] [gX] w hF.G ad cp l hE hl hn
end Go.Proofs.YtnocngnlpgikaaaGreatDoor
namespace Go.Wx
open Go.RowKit
def rY{α:Type}(bq:Nat)(Z:Nat→Prop)(I:List α→World→Prop)(ys:List α)(W:World):Exit→Go.Act→World→Prop
 |.normal,_,W'=>KeepsFrom bq W W'∧(∀b,Z b→W'.heap[b]?=W.heap[b]?)∧I ys W'
 |_,_,_=>False
def qZ{α:Type}(P:Program)(g:Nat)(lb:Array Value)(encs:α→Array Value)(Z:Nat→Prop)(S:List α→Prop)(N:Nat)(w:World):Prop:=
 ∀(lp:Nat)(J:List α→World→Prop)(W:World),Up w W→(∀s A B,J s A→Fr Z A B→J s B)→
   (∀pre x W1,J pre W1→pre.length<N→YieldAt (FR none) 8 P lp (encs x) W1 fun e W'=>∃v,e=.returned v∧v=.bool true∧J (pre++[x]) W'∧∀b,Z b→W'.heap[b]?=W1.heap[b]?)→
   J [] W→Ret P g (#[.func (.yield lp) #[] #[]]++lb) W fun _ W'=>∃ys,S ys∧J ys W'
theorem Sz.nO{B:Nat}{Z:Nat→Prop}{w w':World}(h:Sz B w)(k:Fr Z w w'):Sz B w':=br h k.size
theorem Blk.nO{B:Nat}{cs:Array Value}{T:TypeId}{Z:Nat→Prop}{w w':World}(h:Blk w B cs T)(k:Fr Z w w')(hn:¬Z B):Blk w' B cs T:=(k.block B h.lt hn).trans h
theorem OwnS.nO{α:Type}{enc:α→Array Value}{base k:Nat}{e:TypeId}{Z:Nat→Prop}{w w':World}{v:Value}{xs:List α}(h:OwnS w base e k enc v xs)(u:Fr Z w w')(hn:∀b,Z b→b<base):OwnS w' base e k enc v xs:=by
 obtain⟨h1,h2⟩:=h
 refine⟨h1,?_⟩
 rcases h2 with h2|⟨g,cap,cur,rfl,hb,hg,rest⟩
 · exact .inl h2
 exact .inr ⟨g,cap,cur,rfl,hb,(u.block g (lt_of_block hg) (fun hz=>by have:=hn g hz;omega)).trans hg,rest⟩
theorem Up.nO{Z:Nat→Prop}{w0 w w':World}(h:Up w0 w)(k:Fr Z w w')(hn:∀b,Z b→w0.heap.size≤b):Up w0 w':=
 ⟨k.os.trans h.os,k.tape.trans h.tape,k.output.trans h.output,br (Up.size h) k.size,fun i hi=>(k.block i (e8 hi (Up.size h)) (fun hz=>by have:=hn i hz;omega)).trans (h.block hi)⟩
structure Zk(B:Nat)(w w':World):Prop where
 lt:B<w'.heap.size
 same:w'.heap[B]?=w.heap[B]?
theorem Zk.refl{B:Nat}{w:World}(h:B<w.heap.size):Zk B w w:=⟨h,rfl⟩
theorem Zk.up{B:Nat}{w0 w w':World}(h:Zk B w0 w)(u:Up w w'):Zk B w0 w':=⟨e8 h.lt u.size,(u.block h.lt).trans h.same⟩
theorem Zk.sto{B B':Nat}{w0 w w':World}(h:Zk B w0 w)(u:Sto B' w w')(hne:B≠B'):Zk B w0 w':=⟨e8 h.lt u.size,(u.block _ h.lt hne).trans h.same⟩
theorem Zk.gr{B base:Nat}{w0 w w':World}(h:Zk B w0 w)(u:Grew base w w')(hb:B<base):Zk B w0 w':=⟨e8 h.lt u.size,(u.block _ h.lt hb).trans h.same⟩
section
variable {R:Option Nat}{m:Nat}{P:Program}{n:Nat}{ds:List Deferred}{Q:Exit→Go.Act→World→Prop}{l:Env}{w:World}
theorem Zp{lp:Nat}{c:Code}{p q:Nat}{v u:Value}(hp:Nat.ble (p+1) n=true)(hq:Nat.ble (q+1) n=true)(h:CW (some lp) m P n [] c Q ((q,.eq u)::(p,.eq v)::l) w):
   ∀a,Ag n ds l a w→c.wpIn (FR (some lp)) m P Q { tmps:=(#[p,q].zip #[v,u]).foldl (fun t(p,v)=>t.setIfInBounds p v) a.tmps,defers:=[] } w:=fun a ha=>by
 have e:(#[p,q].zip #[v,u]).foldl (fun t(p,v)=>t.setIfInBounds p v) a.tmps=(a.tmps.setIfInBounds p v).setIfInBounds q u:=by simp
 rw[e]
 have h1:Ag n [] l { tmps:=a.tmps,defers:=[] } w:=⟨rfl,ha.size,ha.val⟩
 exact h _ ((h1.put hp (ph:=.eq v) rfl).put hq (ph:=.eq u) rfl)
theorem Se{α:Type}{g:Operand}{ps:Array Tmp}{assign body:Code}{gf:Nat}{lb:Array Value}{encs:α→Array Value}(Z:Nat→Prop){S:List α→Prop}{N:Nat}(I:List α→World→Prop)(env:α→Env)
   (hx:Val l g (.func (.func gf) #[] lb))(en:∀args w,(callFunc gf args).run P w=.ok (.enter gf args) w)(hit:∀W,Up w W→qZ P gf lb encs Z S N W)(hps:∀x,(encs x).size=ps.size)(hl:Ck l=true)(hZ:∀b,Z b→b<w.heap.size)
   (hI:OwnFrom w.heap.size I)(hIZ:∀s A B,I s A→Fr Z A B→I s B)(h0:I [] w)
   (hassign:∀(lp:Nat)(x:α)(W:World)(a:Go.Act),Ag n ds l a W→assign.wpIn (FR (some lp)) 8 P (Exit.then (fun a' W'=>W'=W∧Ag n [] (env x) a' W) (fun _ _ _=>False)) { tmps:=(ps.zip (encs x)).foldl (fun t(p,v)=>t.setIfInBounds p v) a.tmps,defers:=[] } W)
   (henv:∀x,Ck (env x)=true)
   (hbody:∀(lp:Nat)(pre:List α)(x:α)(W:World),I pre W→pre.length<N→CW (some lp) 8 P n [] body (rY w.heap.size Z I (pre++[x]) W) (env x) W)
   (hdone:∀(D:Nat)(ys:List α)(W:World),w.heap.size≤D→S ys→I ys W→W.heap[D]?=some (.deferred (some []))→KW n ({ target:=.collected D,args:=#[] }::ds) (Q .normal) l W):
   CW none 10 P n ds (.rangeFunc g ps assign body) Q l w:=fun a ha=>by
 have hg:=ha.ev hx
 refine wpIn_rangeFunc ?_
 intro fn hfn
 -- the loop's record,and the block of what the rounds defer
 let rec_:LoopState→Option Code→Loop:=fun st pe=>{ state:=st,pending:=pe,fn,tmps:=a.tmps,params:=ps,assign,body,defers:=w.heap.size }
 let kd:Nat:=w.heap.size
 let lp:Nat:=w.heap.size+1
 let W1:World:=(w.alloc (.deferred (some []))).alloc (.loop (rec_ .ready none))
 have hU:Up w W1:=(Up.alloc _ _).trans (Up.alloc _ _)
 have rec1:W1.heap[lp]?=some (.loop (rec_ .ready none)):=by
   have:=World.alloc_heap_new (w.alloc (.deferred (some []))) (.loop (rec_ .ready none))
   rw[World.size_alloc]at this
   exact this
 have dfr1:W1.heap[kd]?=some (.deferred (some [])):=(Below.heap_alloc _ _ _ (by simp[kd])).trans (World.alloc_heap_new w _)
 have hne:kd≠lp:=by show w.heap.size≠w.heap.size+1;omega
 have hI1:I [] W1:=hI.alloc _ (hI.alloc _ h0)
 refine⟨lp,[{ target:=.collected kd,args:=#[] }],W1,{ target:=.fn (.func gf) lb,args:=#[.func (.yield lp) #[] #[]] },W1,gf,#[.func (.yield lp) #[] #[]]++lb,W1,run_enterLoop_outer _ _ _ _ _,?_,fun f' hf'=>?_,?_,fun _=>cQ,?_⟩
 · simp only[resolve,hg]
   simp[go_sem]
 · simp[Target.leads]at hf';subst hf';trivial
 · simp[invoke,go_sem,en]
 have fine:∀{A B:World},Fr Z A B→∀(k:Nat)(o:Obj),w.heap.size≤k→A.heap[k]?=some o→B.heap[k]?=some o:=fun hf k o hk ho=>
   (hf.block k (lt_of_block ho) (fun hz=>by have:=hZ k hz;omega)).trans ho
 have all:=hit W1 hU lp (fun pre W=>I pre W∧W.heap[lp]?=some (.loop (rec_ .ready none))∧W.heap[kd]?=some (.deferred (some []))) W1 (Up.refl _)
   (fun s A B hs hf=>⟨hIZ s A B hs.1 hf,fine hf lp _ (by show w.heap.size≤w.heap.size+1;omega) hs.2.1,fine hf kd _ (a8 _) hs.2.2⟩) ?_ ⟨hI1,rec1,dfr1⟩
 · refine(show CallsIn (FR none) 9 P gf _ W1 _ from callsIn_wide.2 all).mono ?_
   rintro e W2 ⟨v,rfl,xs,hS,hi,hlr,hk⟩
   refine⟨none,W2.putObj lp (.loop (rec_ .exhausted none)),?_,?_⟩
   · exact run_endLoop (P:=P) hlr (by simp[rec_])
   exact hdone kd xs _ (a8 _) hS (hI.putObj _ hi (by show w.heap.size≤w.heap.size+1;omega) hlr rfl) ((World.putObj_heap_other hne).trans hk) _ ⟨by rw[←ha.defers];rfl,ha.size,(ha.world hl _).val⟩
 -- one round
 rintro pre x W ⟨hi,hlr,hk⟩ hlen
 have hlt:=lt_of_block hlr
 have hy:=run_yield (P:=P) (args:=encs x) hlr (by simp only[rec_];exact hps x)
 refine⟨fn,_,assign,body,hy,roundIn_of_wpIn hfn ?_⟩
 refine wpIn_mono (hassign lp x W a (ha.world hl W)) ?_
 intro e a1 W' hq
 cases e with
 |normal=>
   obtain⟨rfl,ha1⟩:=hq
   refine⟨_,run_beginRound hlr rfl,?_⟩
   have hput:OwnFrom w.heap.size I→I pre (W'.putObj lp (.loop { rec_ .ready none with state:=.busy })):=fun h=>h.putObj _ hi (by show w.heap.size≤w.heap.size+1;omega) hlr rfl
   have l2:(W'.putObj lp (.loop { rec_ .ready none with state:=.busy })).heap[lp]?=some (.loop { rec_ .ready none with state:=.busy }):=World.putObj_heap_same hlt
   have k2:(W'.putObj lp (.loop { rec_ .ready none with state:=.busy })).heap[kd]?=some (.deferred (some [])):=(World.putObj_heap_other hne).trans hk
   refine wpIn_mono (hbody lp pre x _ (hput hI) hlen a1 (ha1.world (henv x) _)) ?_
   intro e2 a2 W3 hp
   cases e2 with
   |normal=>
     obtain⟨hk3,hz3,hi3⟩:=hp
     have l3:=hk3.same _ _ (by show w.heap.size≤w.heap.size+1;omega) l2 rfl
     have k3:=hk3.same _ _ (a8 _) k2 rfl
     have hr:=run_endRound (P:=P) none l3
     have ne:∀b,Z b→b≠lp:=fun b hb=>by have:=hZ b hb;show b≠w.heap.size+1;omega
     refine⟨_,_,hr,_,rfl,rfl,⟨hI.putObj _ hi3 (by show w.heap.size≤w.heap.size+1;omega) l3 rfl,World.putObj_heap_same (lt_of_block l3),(World.putObj_heap_other hne).trans k3⟩,fun b hb=>?_⟩
     exact(World.putObj_heap_other (ne b hb)).trans ((hz3 b hb).trans (World.putObj_heap_other (ne b hb)))
   |ret=>exact hp.elim
   |exit id=>exact hp.elim
   |goto t=>exact hp.elim
   |panic ch=>exact hp.elim
   |outgrown=>exact hp.elim
 |ret=>exact hq.elim
 |exit id=>exact hq.elim
 |goto t=>exact hq.elim
 |panic ch=>exact hq.elim
 |outgrown=>exact hq.elim
end
def Cp(As:List Asr):Nat→Prop:=fun i=>∃A∈As,A.foot i
section
variable {S0:Nat→Prop}{w0 w w':World}{As Bs Zs As':List Asr}{A:Asr}
theorem G9{i:Nat}:Cp (As++Bs) i↔Cp As i∨Cp Bs i:=by
 constructor
 · rintro⟨A,hA,hi⟩
   exact(bp.1 hA).imp (fun h=>⟨A,h,hi⟩) (fun h=>⟨A,h,hi⟩)
 rintro(⟨A,hA,hi⟩|⟨A,hA,hi⟩)
 · exact⟨A,et _ hA,hi⟩
 exact⟨A,g6 _ hA,hi⟩
theorem eI{i:Nat}(h:A.foot i):Cp [A] i:=⟨A,bh.2 rfl,h⟩
theorem Sep.self(h:Sep S0 w0 w As):Sep (Cp As) w w As:=⟨Fr.refl _ _,fun A hA=>⟨(h.each A hA).1,fun _ hi=>.inl ⟨A,hA,hi⟩⟩,h.apart⟩
theorem Sep.right(h:Sep S0 w0 w (Zs++As)):Sep S0 w0 w As:=h.sub (List.sublist_append_right _ _)
theorem Sep.left(h:Sep S0 w0 w (Zs++As)):Sep S0 w0 w Zs:=h.sub (iu _ _)
theorem Sep.zF(h:Sep S0 w0 w (Zs++As)){i:Nat}(hz:Cp Zs i):¬Cp As i:=by
 obtain⟨Z,hZ,h1⟩:=hz
 rintro⟨A,hA,h2⟩
 exact(b8.1 h.apart).2.2 Z hZ A hA i h1 h2
theorem Sep.Jd(h:Sep S0 w0 w As){i:Nat}(hi:Cp As i):i<w.heap.size:=by
 obtain⟨A,hA,h1⟩:=hi
 exact Asr.lt _ w (h.each A hA).1 i h1
theorem Sep.frame(h:Sep S0 w0 w (Zs++As))(k:Sep (Cp As) w w' As'):Sep S0 w0 w' (Zs++As'):=by
 have hsz:=h.size
 have hF:∀i,Cp As i→S0 i∨w0.heap.size≤i:=fun i⟨A,hA,hi⟩=>(h.each A (g6 _ hA)).2 i hi
 refine⟨h.fr.next k.fr hF,fun B hB=>?_,?_⟩
 · rcases bp.1 hB with hB|hB
   · have h1:=h.each B (et _ hB)
     exact⟨B.keep w w' h1.1 (fun i hi hlt=>k.fr.block i hlt (h.zF ⟨B,hB,hi⟩)) k.size,h1.2⟩
   have h1:=k.each B hB
   exact⟨h1.1,fun i hi=>(h1.2 i hi).elim (hF i) (fun h2=>.inr oQ)⟩
 refine b8.2 ⟨h.left.apart,k.apart,fun Z hZ B hB i h1 h2=>?_⟩
 rcases(k.each B hB).2 i h2 with h3|h3
 · exact h.zF ⟨Z,hZ,h1⟩ h3
 have:=Asr.lt _ w (h.each Z (et _ hZ)).1 i h1
 omega
theorem Sep.join(h:Sep S0 w0 w As)(k:Sep no w w' Bs):Sep S0 w0 w' (As++Bs):=by
 have hsz:=h.size
 have h1:=h.up k.Cl
 refine⟨h1.fr,fun B hB=>?_,b8.2 ⟨h.apart,k.apart,fun A hA B hB i h2 h3=>?_⟩⟩
 · rcases bp.1 hB with hB|hB
   · exact h1.each B hB
   have h2:=k.each B hB
   exact⟨h2.1,fun i hi=>(h2.2 i hi).elim (fun e=>e.elim) (fun e=>.inr oQ)⟩
 have:=Asr.lt _ w (h.each A hA).1 i h2
 exact((k.each B hB).2 i h3).elim (fun e=>e) (fun e=>by omega)
theorem Tc{α:Type _}:∀(l:List α)(k:Nat)(a:α),l[k]?=some a→l.Perm ([a]++l.eraseIdx k)
 |[],_,_,h=>by simp at h
 |x::l,0,a,h=>by
   have:x=a:=by simpa using h
   rw[this];exact List.Perm.refl _
 |x::l,k+1,a,h=>((Tc l k a (by simpa using h)).cons x).trans (List.Perm.swap a x _)
theorem Sep.Ea(h:Sep S0 w0 w As)(k:Nat)(hk:As[k]?=some A):Sep S0 w0 w (As.eraseIdx k++[A]):=by
 exact h.perm ((Tc As k A hk).trans List.perm_append_comm)
def KoOk(bq:Nat)(w:World)(As:List Asr):Prop:=∀i,Cp As i→i<bq∨∃o:Obj,w.heap[i]?=some o∧o.isCells=true
theorem KoOk.eG{bq:Nat}:KoOk bq w (As++Bs)↔KoOk bq w As∧KoOk bq w Bs:=
 ⟨fun h=>⟨fun i hi=>h i (G9.2 (.inl hi)),fun i hi=>h i (G9.2 (.inr hi))⟩,fun⟨h,k⟩i hi=>(G9.1 hi).elim (h i) (k i)⟩
theorem We{bq:Nat}(h:∀i,Cp As i→i<bq):KoOk bq w As:=fun i hi=>.inl (h i hi)
theorem KoOk.nil(bq:Nat)(w:World):KoOk bq w []:=fun _⟨_,h,_⟩=>by cases h
theorem KoOk.cons{bq:Nat}(h:∀i,A.foot i→i<bq∨∃o:Obj,w.heap[i]?=some o∧o.isCells=true)(k:KoOk bq w As):KoOk bq w (A::As):=fun i⟨B,hB,hi⟩=>by
 rcases bg.1 hB with rfl|hB
 · exact h i hi
 exact k i ⟨B,hB,hi⟩
theorem Li{bq B:Nat}{cs:Array Value}{T:TypeId}(h:Blk w B cs T):∀i,(A4 B cs T).foot i→i<bq∨∃o:Obj,w.heap[i]?=some o∧o.isCells=true:=fun i(e:i=B)=>by subst e;exact .inr ⟨_,h,rfl⟩
theorem jE{α:Type}{bq:Nat}{e:TypeId}{k:Nat}{enc:α→Array Value}{v:Value}{xs:List α}(h:OwnS w 0 e k enc v xs):∀i,(Az e k enc v xs).foot i→i<bq∨∃o:Obj,w.heap[i]?=some o∧o.isCells=true:=fun i hi=>by
 obtain⟨_,⟨rfl,_⟩|⟨g,cap,cur,rfl,_,hg,_⟩⟩:=h
 · cases hi
 cases hi
 exact .inr ⟨_,hg,rfl⟩
theorem KoOk.ko{bq:Nat}(h:KoOk bq w As)(k:Ko bq w w'):KoOk bq w' As:=fun i hi=>by
 rcases h i hi with h1|⟨o,h1,h2⟩
 · exact .inl h1
 exact .inr ⟨o,k.same i o h1 (.inr h2),h2⟩
theorem Sep.ko{bq:Nat}(h:Sep S0 w0 w As)(hc:KoOk bq w As)(k:Ko bq w w')(hb:w0.heap.size≤bq):Sep S0 w0 w' As:=
 ⟨h.fr.ko k hb,fun A hA=>⟨A.keep w w' (h.each A hA).1 (fun i hi hlt=>by
   obtain⟨o,ho⟩:∃o,w.heap[i]?=some o:=⟨_,b6 hlt⟩
   rw[ho]
   refine k.same i o ho ?_
   rcases hc i ⟨A,hA,hi⟩with h1|⟨o',h1,h2⟩
   · exact .inl h1
   rw[ho]at h1;cases h1;exact .inr h2) k.size,(h.each A hA).2⟩,h.apart⟩
end
theorem Cm{α:Type}{enc:α→Array Value}{b k:Nat}{e:TypeId}{w:World}{ad:Option Addr}{m cp:Nat}{xs:List α}(h:OwnS w b e k enc (.slice ad m cp) xs)(hk:∀x,(enc x).size=k):Els w ad k enc xs:=by
 obtain⟨ad',cp',e',hE⟩:=h.sl hk
 cases e'
 exact hE
theorem NewSl.own{α:Type}{enc:α→Array Value}{k:Nat}{e:TypeId}{w w':World}{v:Value}{xs:List α}(h:NewSl w e k enc xs v w')(hk:∀x,(enc x).size=k)(hk0:0<k)(hm:xs.length≤maxLen):Up w w'∧∃B,v=.slice (some ⟨B,0,none⟩) xs.length xs.length∧B=w.heap.size∧OwnS w' 0 e k enc (.slice (some ⟨B,0,none⟩) xs.length xs.length) xs:=by
 obtain⟨B,cs,rfl,N,hc,hE⟩:=h
 have hfl:∀x,(enc x).toList.length=k:=fun x=>by simp[hk]
 have hl:=Gh (fun x=>(enc x).toList) k hfl xs
 refine⟨N.up,B,rfl,N.at_,hl,.inr ⟨B,xs.length,cs,rfl,au _,N.blk,a8 _,hm,hc,?_⟩⟩
 rw[fg (by rw[cw,hc];exact a8 _)]
 refine List.ext_getElem (by rw[cw,hc,hl]) fun j h1 h2=>?_
 obtain⟨x,hx1,hx2⟩:=Pe (fun x=>(enc x).toList) k hk0 hfl xs j _ (cj h2)
 obtain⟨B',o,e',hcell⟩:=hE _ x hx1
 cases e'
 have h3:=hcell (j%k) _ (by simpa using hx2)
 rw[show 0+j/k*k+j%k=j by rw[c_,ik];exact jp j k]at h3
 have hb:=N.blk
 unfold Blk at hb
 have h1':j<cs.size:=by simpa using h1
 simp[World.cell?,hb,h1']at h3
 simpa using h3
def Wf(T:World→Prop)(Tx:Code→World→Prop):Exit→Go.Act→World→Prop
 |.normal,_,w=>T w
 |.ret,_,w=>Tx .ret w
 |.exit id,_,w=>Tx (.exit id) w
 |.goto t,_,w=>Tx (.goto t) w
 |_,_,_=>False
def Kd(D:Nat):Asr:=⟨(· =D),fun w=>Ob w D (.deferred (some [])),fun _ _ h k _=>(k D rfl (lt_of_block h)).trans h,fun _ h _ e=>by subst e;exact lt_of_block h⟩
def Ql(Ds:List Nat):Asr:=⟨(· ∈Ds),fun w=>Ds.Nodup∧∀D∈Ds,Ob w D (.deferred (some [])),fun _ _ h k _=>⟨h.1,fun D hD=>(k D hD (lt_of_block (h.2 D hD))).trans (h.2 D hD)⟩,fun _ h _ e=>lt_of_block (h.2 _ e)⟩
theorem Sep.Zq{S0:Nat→Prop}{w0 w:World}{As:List Asr}(h:Sep S0 w0 w As):Sep S0 w0 w (As++[Ql []]):=h.add (Up.refl _) ⟨gh,fun _ h=>by cases h⟩ (fun _ h=>by cases h)
theorem Ut{S0:Nat→Prop}{w0 w:World}{As Bs:List Asr}{Ds:List Nat}{D:Nat}(h:Sep S0 w0 w ((Ql Ds::As)++(Bs++[Kd D]))):Sep S0 w0 w (Ql (D::Ds)::(As++Bs)):=by
 have h1:=h.get 0 rfl
 have hD:Ob w D (.deferred (some [])):=(h.each (Kd D) (by simp)).1
 have hn:D∉Ds:=fun hm=>by
   have h2:=(dq.1 h.apart).1 (Kd D) (by simp) D hm
   exact h2 rfl
 have hs:Sep S0 w0 w ((Ql Ds::As)++Bs):=h.sub (List.Sublist.append_left (iu _ _) _)
 refine⟨h.fr,fun A hA=>?_,?_⟩
 · rcases bg.1 hA with rfl|hA
   · refine⟨⟨fo.2 ⟨hn,h1.1⟩,fun E hE=>?_⟩,fun i hi=>?_⟩
     · rcases bg.1 hE with rfl|hE
       · exact hD
       exact h1.2 E hE
     rcases bg.1 hi with rfl|hi
     · exact(h.each (Kd i) (by simp)).2 i rfl
     exact(h.each (Ql Ds) (by simp)).2 i hi
   exact hs.each A (bu _ hA)
 have h2:=hs.apart
 rw[dp,dq]at h2
 refine dq.2 ⟨fun A hA i hi hi2=>?_,h2.2⟩
 rcases bg.1 hi with rfl|hi
 · have h3:=(b8.1 h.apart)
   rcases bp.1 hA with hA|hA
   · exact h3.2.2 A (bu _ hA) (Kd i) (by simp) i hi2 rfl
   exact(b8.1 h3.2.1).2.2 A hA (Kd i) (by simp) i hi2 rfl
 exact h2.1 A hA i hi hi2
def eJ:Asr:=⟨fun _=>False,fun _=>True,fun _ _ h _ _=>h,fun _ _ _ h=>h.elim⟩
def jF(Ds:List Nat):List Deferred:=Ds.map fun D=>{ target:=.collected D,args:=#[] }
section
variable {R:Option Nat}{m:Nat}{P:Program}{n:Nat}{ds:List Deferred}{Q:Exit→Go.Act→World→Prop}{l:Env}{w:World}
theorem L7{fn:Func}{RR:Ending→World→Prop}(hl:Ck l=true):∀(Ds:List Nat)(w:World),Ds.Nodup→(∀D∈Ds,Ob w D (.deferred (some [])))→(∀w',Fr (· ∈Ds) w w'→KW n [] (bodyPost P fn RR .ret) l w')→KW n (jF Ds) (bodyPostM (FR none) m P fn RR .ret) l w:=by
 intro Ds w hn hk h a ha
 show LeavesInM (FR none) m P fn a.tmps RR a.defers .returning w
 rw[ha.defers]
 have key:∀(Ds:List Nat)(w:World),Ds.Nodup→(∀D∈Ds,Ob w D (.deferred (some [])))→(∀w',Fr (· ∈Ds) w w'→KW n [] (bodyPost P fn RR .ret) l w')→LeavesInM (FR none) m P fn a.tmps RR (jF Ds) .returning w:=by
   intro Ds
   induction Ds with
   |nil=>
     intro w _ _ h
     obtain⟨_,v,h2,h3⟩:=h w (Fr.refl _ _) { tmps:=a.tmps,defers:=[] } ⟨rfl,ha.size,(ha.world hl _).val⟩
     exact J3 h2 h3
   |cons D Ds ih=>
     intro w hn hk h
     have hD:=hk D bl
     obtain⟨hn1,hn2⟩:=fo.1 hn
     refine Mp hD (ih _ hn2 (fun E hE=>?_) (fun w' hf=>h w' ?_))
     · exact(World.putObj_heap_other (fun e:E=D=>hn1 (e▸hE))).trans (hk E (bu _ hE))
     refine⟨hf.os,hf.tape,hf.output,br (by simp) hf.size,fun i hi hs=>?_⟩
     have h1:i≠D:=fun e=>hs (by rw[e];exact bl)
     exact(hf.block i (by simpa using hi) (fun e=>hs (bu _ e))).trans (World.putObj_heap_other h1)
 exact key Ds w hn hk h
theorem Uu(X:Nat→Prop){α σ:Type}{g:Operand}{ps:Array Tmp}{assign body:Code}{gf:Nat}{lb:Array Value}{encs:α→Array Value}{Zs:List Asr}{S0:Nat→Prop}{w0:World}(As:σ→List Asr)(J:List α→σ→Prop)(Jx:Code→List α→σ→Prop)(Bx:α→Nat→List Asr)(env:α→Nat→Env)(s0:σ){S Sp:List α→Prop}{N:Nat}
   (hX:∀pre s i,J pre s→Cp (As s) i→(S0 i∨w0.heap.size≤i)∧¬Cp Zs i→X i)(hx:Val l g (.func (.func gf) #[] lb))(en:∀args w,(callFunc gf args).run P w=.ok (.enter gf args) w)(hit:IterS P gf lb encs X (fun i=>(S0 i∨w0.heap.size≤i)∧i<w.heap.size∧¬Cp Zs i) S Sp N w)(hps:∀x,(encs x).size=ps.size)(hl:Ck l=true)(henv:∀x b,Ck (env x b)=true)
   (hS:Sep S0 w0 w (Zs++As s0))(hJ:J [] s0)
   (hassign:∀(lp:Nat)(x:α)(W:World)(a:Go.Act),Ag n ds l a W→assign.wpIn (FR (some lp)) 8 P (Exit.then (fun a' W'=>∃b,Sep no W W' (Bx x b)∧KoOk 0 W' (Bx x b)∧Ag n [] (env x b) a' W') (fun _ _ _=>False)) { tmps:=(ps.zip (encs x)).foldl (fun t(p,v)=>t.setIfInBounds p v) a.tmps,defers:=[] } W)
   (hbody:∀(lp:Nat)(pre:List α)(x:α)(s:σ)(b:Nat)(W:World),J pre s→pre.length<N→w.heap.size≤W.heap.size→Sep S0 w0 W (Zs++(As s++Bx x b))→Sep (Cp (As s++Bx x b)) W W (As s++Bx x b)→
     CW (some lp) 8 P n [] body (Wf (fun W'=>∃s' Rest,J (pre++[x]) s'∧Sep (Cp (As s++Bx x b)) W W' (As s'++Rest)∧KoOk w.heap.size W' (As s')) (fun c W'=>∃s' Rest,Jx c (pre++[x]) s'∧Sep (Cp (As s++Bx x b)) W W' (As s'++Rest)∧KoOk w.heap.size W' (As s'))) (env x b) W)
   (hdone:∀(D:Nat)(ys:List α)(s:σ)(W:World),w.heap.size≤D→S ys→J ys s→w.heap.size≤W.heap.size→Sep S0 w0 W (Zs++(As s++[Kd D]))→KW n ({ target:=.collected D,args:=#[] }::ds) (Q .normal) l W)
   (hstop:∀(D:Nat)(c:Code)(pre:List α)(s:σ)(W:World),w.heap.size≤D→Sp pre→Jx c pre s→w.heap.size≤W.heap.size→Sep S0 w0 W (Zs++(As s++[Kd D]))→CW none 10 P n ({ target:=.collected D,args:=#[] }::ds) c Q l W):
   CW none 10 P n ds (.rangeFunc g ps assign body) Q l w:=fun a ha=>by
 have hg:=ha.ev hx
 have hw0:=hS.size
 refine wpIn_rangeFunc ?_
 intro fn hfn
 let rec_:LoopState→Option Code→Loop:=fun st pe=>{ state:=st,pending:=pe,fn,tmps:=a.tmps,params:=ps,assign,body,defers:=w.heap.size }
 let kd:Nat:=w.heap.size
 let lp:Nat:=w.heap.size+1
 let W1:World:=(w.alloc (.deferred (some []))).alloc (.loop (rec_ .ready none))
 have hU:Up w W1:=(Up.alloc _ _).trans (Up.alloc _ _)
 have rec1:W1.heap[lp]?=some (.loop (rec_ .ready none)):=by
   have:=World.alloc_heap_new (w.alloc (.deferred (some []))) (.loop (rec_ .ready none))
   rw[World.size_alloc]at this
   exact this
 have dfr1:W1.heap[kd]?=some (.deferred (some [])):=(Below.heap_alloc _ _ _ (by simp[kd])).trans (World.alloc_heap_new w _)
 have hne:kd≠lp:=by show w.heap.size≠w.heap.size+1;omega
 have hlpq:w.heap.size≤lp:=by show w.heap.size≤w.heap.size+1;omega
 have hZlow:∀i,Cp Zs i→i<w.heap.size:=fun i hi=>hS.left.Jd hi
 -- what stands while the loop goes on
 let I:List α→World→Prop:=fun pre W=>∃s,J pre s∧w.heap.size≤W.heap.size∧Sep S0 w0 W (Zs++As s)∧KoOk w.heap.size W (Zs++As s)
 let Ix:Code→List α→World→Prop:=fun c pre W=>∃s,Jx c pre s∧w.heap.size≤W.heap.size∧Sep S0 w0 W (Zs++As s)∧KoOk w.heap.size W (Zs++As s)
 have kI:∀pre A B,I pre A→Ko w.heap.size A B→I pre B:=fun pre A B⟨s,h1,h2,h3,h4⟩k=>⟨s,h1,br h2 k.size,h3.ko h4 k hw0,h4.ko k⟩
 have kIx:∀c pre A B,Ix c pre A→Ko w.heap.size A B→Ix c pre B:=fun c pre A B⟨s,h1,h2,h3,h4⟩k=>⟨s,h1,br h2 k.size,h3.ko h4 k hw0,h4.ko k⟩
 have koW:∀{A B:World}{row:Option Nat},A.grownBy B row→(∀r,row=some r→W1.heap.size≤r∧∃o:Obj,A.heap[r]?=some o∧o.isWalk=true)→Ko w.heap.size A B:=fun hg' hr=>Ko.grown hg' fun r e=>by
   obtain⟨h1,o,h2,h3⟩:=hr r e
   exact⟨br (Up.size hU) h1,o,h2,Obj.not_cells_of_walk h3⟩
 have hk1:∀{A B:World}{row:Option Nat}{k:Nat}{o:Obj},A.grownBy B row→(∀r,row=some r→W1.heap.size≤r∧∃o:Obj,A.heap[r]?=some o∧o.isWalk=true)→A.heap[k]?=some o→o.isWalk=false→B.heap[k]?=some o:=fun hg' hr hk ho=>(grownBy_keeps hg' (fun r e=>(hr r e).2) hk ho).trans hk
 have hI1:I [] W1:=⟨s0,hJ,Up.size hU,hS.up hU,We fun i hi=>hS.Jd hi⟩
 have all:=hit lp (fun pre W=>I pre W∧W.heap[lp]?=some (.loop (rec_ .ready none))∧W.heap[kd]?=some (.deferred (some [])))
   (fun pre W=>∃c,Ix c pre W∧W.heap[lp]?=some (.loop (rec_ .done (some c)))∧W.heap[kd]?=some (.deferred (some []))) W1 hU
   (fun s A B row hs hg' hr=>⟨kI _ _ _ hs.1 (koW hg' hr),hk1 hg' hr hs.2.1 rfl,hk1 hg' hr hs.2.2 rfl⟩)
   (fun s A B row hs hg' hr=>by
     obtain⟨c,hc,h1,h2⟩:=hs
     exact⟨c,kIx _ _ _ _ hc (koW hg' hr),hk1 hg' hr h1 rfl,hk1 hg' hr h2 rfl⟩) ?_ ⟨hI1,rec1,dfr1⟩
 · refine⟨lp,[{ target:=.collected kd,args:=#[] }],W1,{ target:=.fn (.func gf) lb,args:=#[.func (.yield lp) #[] #[]] },W1,gf,#[.func (.yield lp) #[] #[]]++lb,W1,run_enterLoop_outer _ _ _ _ _,?_,fun f' hf'=>?_,?_,fun _=>cQ,?_⟩
   · simp only[resolve,hg]
     simp[go_sem]
   · simp[Target.leads]at hf';subst hf';trivial
   · simp[invoke,go_sem,en]
   have mk:∀{W:World}{s:σ},w.heap.size≤W.heap.size→Sep S0 w0 W (Zs++As s)→KoOk w.heap.size W (Zs++As s)→W.heap[kd]?=some (.deferred (some []))→Sep S0 w0 W (Zs++(As s++[Kd kd])):=fun{W s}hsz h4 h5 hk=>by
     rw[←cx]
     refine⟨h4.fr,fun A hA=>?_,b8.2 ⟨h4.apart,fd _ _,fun A hA B hB i h6 h7=>?_⟩⟩
     · rcases bp.1 hA with hA|hA
       · exact h4.each A hA
       rw[bh.1 hA]
       exact⟨hk,fun i(e:i=kd)=>.inr (by rw[e];exact hw0)⟩
     rw[bh.1 hB]at h7
     have e7:i=kd:=h7
     rcases h5 i ⟨A,hA,h6⟩with h8|⟨o,h8,h9⟩
     · rw[e7]at h8;exact gu _ h8
     rw[e7,hk]at h8;cases h8;cases h9
   refine(show CallsIn (FR none) 9 P gf (#[.func (.yield lp) #[] #[]]++lb) W1 _ from all).mono ?_
   rintro e W2 ⟨⟨v,rfl⟩,(⟨xs,hSx,⟨s,h1,h2,h3,h4⟩,hlr,hk⟩|⟨pre,hSp,c,⟨s,h1,h2,h3,h4⟩,hlr,hk⟩)⟩
   · have ko:Ko w.heap.size W2 (W2.putObj lp (.loop (rec_ .exhausted none))):=Ko.putObj _ hlr rfl hlpq
     refine⟨none,W2.putObj lp (.loop (rec_ .exhausted none)),run_endLoop (P:=P) hlr (by simp[rec_]),?_⟩
     exact hdone kd xs s _ (a8 _) hSx h1 (br h2 ko.size) (mk (br h2 ko.size) (h3.ko h4 ko hw0) (h4.ko ko) ((World.putObj_heap_other hne).trans hk)) _ ⟨by rw[←ha.defers];rfl,ha.size,(ha.world hl _).val⟩
   have ko:Ko w.heap.size W2 (W2.putObj lp (.loop (rec_ .exhausted (some c)))):=Ko.putObj _ hlr rfl hlpq
   refine⟨some c,W2.putObj lp (.loop (rec_ .exhausted (some c))),?_,?_⟩
   · have:=run_endLoop (P:=P) hlr (by simp[rec_])
     exact this
   exact hstop kd c pre s _ (a8 _) hSp h1 (br h2 ko.size) (mk (br h2 ko.size) (h3.ko h4 ko hw0) (h4.ko ko) ((World.putObj_heap_other hne).trans hk)) _ ⟨by rw[←ha.defers];rfl,ha.size,(ha.world hl _).val⟩
 -- one round
 rintro pre x W ⟨⟨s,hJs,hsz,hSs,hKs⟩,hlr,hk⟩ hlen
 have hy:=run_yield (P:=P) (args:=encs x) hlr (by simp only[rec_];exact hps x)
 refine⟨fn,_,assign,body,hy,roundIn_of_wpIn hfn ?_⟩
 refine wpIn_mono (hassign lp x W a (ha.world hl W)) ?_
 intro e a1 W' hq
 cases e with
 |normal=>
   obtain⟨b,hB,hKB,hA⟩:=hq
   have hU1:=hB.Cl
   have hlr1:W'.heap[lp]?=some (.loop (rec_ .ready none)):=(hU1.block (lt_of_block hlr)).trans hlr
   have hk1':W'.heap[kd]?=some (.deferred (some [])):=(hU1.block (lt_of_block hk)).trans hk
   refine⟨_,run_beginRound hlr1 rfl,?_⟩
   obtain⟨W2,hW2⟩:∃W2,W2=W'.putObj lp (.loop { rec_ .ready none with state:=.busy }):=⟨_,rfl⟩
   rw[←hW2]
   have ko1:Ko w.heap.size W' W2:=by rw[hW2];exact Ko.putObj _ hlr1 rfl hlpq
   have l2:W2.heap[lp]?=some (.loop { rec_ .ready none with state:=.busy }):=by rw[hW2];exact World.putObj_heap_same (lt_of_block hlr1)
   have k2:W2.heap[kd]?=some (.deferred (some [])):=by rw[hW2];exact(World.putObj_heap_other hne).trans hk1'
   have o2:∀i,i≠lp→W2.heap[i]?=W'.heap[i]?:=fun i hi=>by rw[hW2];exact World.putObj_heap_other hi
   have hS1:Sep S0 w0 W' (Zs++(As s++Bx x b)):=by rw[←cx];exact hSs.join hB
   have hK1:KoOk w.heap.size W' (Zs++(As s++Bx x b)):=by
     rw[←cx]
     refine KoOk.eG.2 ⟨fun i hi=>?_,fun i hi=>(hKB i hi).elim (fun h=>by omega) .inr⟩
     rcases hKs i hi with h1|⟨o,h1,h2⟩
     · exact .inl h1
     exact .inr ⟨o,(hU1.block (lt_of_block h1)).trans h1,h2⟩
   have hS2:=hS1.ko hK1 ko1 hw0
   have hK2:=hK1.ko ko1
   have hsz2:w.heap.size≤W2.heap.size:=br hsz (br (Up.size hU1) ko1.size)
   refine wpIn_mono (hbody lp pre x s b W2 hJs hlen hsz2 hS2 hS2.right.self a1 (hA.world (henv x b) _)) ?_
   have fin:∀(s':σ)(Rest:List Asr)(W3:World)(jump:Option Code),Sep (Cp (As s++Bx x b)) W2 W3 (As s'++Rest)→KoOk w.heap.size W3 (As s')→
       ∃W4,(Instr.endRound lp jump).run P W3=.ok (.bool jump.isNone) W4∧w.heap.size≤W4.heap.size∧Sep S0 w0 W4 (Zs++As s')∧KoOk w.heap.size W4 (Zs++As s')∧W4.heap[lp]?=some (.loop (rec_ (if jump.isNone then .ready else .done) jump))∧W4.heap[kd]?=some (.deferred (some []))∧Kx w.heap.size X (fun i=>(S0 i∨w0.heap.size≤i)∧i<w.heap.size∧¬Cp Zs i) W W4:=by
     intro s' Rest W3 jump h5 h6
     have keepN:∀(k:Nat)(o:Obj),w.heap.size≤k→W2.heap[k]?=some o→o.isCells=false→W3.heap[k]?=some o:=fun k o hk' ho hc=>(h5.fr.block k (lt_of_block ho) (fun hf=>by
       rcases(KoOk.eG.1 hK2).2 k hf with h7|⟨o',h7,h8⟩
       · omega
       rw[ho]at h7;cases h7;rw[hc]at h8;cases h8)).trans ho
     have l3:=keepN lp _ hlpq l2 rfl
     have k3:=keepN kd _ (a8 _) k2 rfl
     have ko3:∀(o':Obj),Ko w.heap.size W3 (W3.putObj lp o'):=fun o'=>Ko.putObj _ l3 rfl hlpq
     have h7:Sep S0 w0 W3 (Zs++As s'):=(hS2.frame h5).sub (List.Sublist.append_left (iu _ _) _)
     have h8:KoOk w.heap.size W3 (Zs++As s'):=KoOk.eG.2 ⟨We hZlow,h6⟩
     have hr:=run_endRound (P:=P) jump l3
     refine⟨_,hr,br hsz2 (br h5.size (ko3 _).size),h7.ko h8 (ko3 _) hw0,h8.ko (ko3 _),World.putObj_heap_same (lt_of_block l3),(World.putObj_heap_other hne).trans k3,?_⟩
     refine⟨(ko3 _).os.trans (h5.fr.os.trans (ko1.os.trans hU1.os)),(ko3 _).tape.trans (h5.fr.tape.trans (ko1.tape.trans hU1.tape)),(ko3 _).output.trans (h5.fr.output.trans (ko1.output.trans hU1.output)),br (Up.size hU1) (br ko1.size (br h5.size (ko3 _).size)),fun k o hk' ho=>?_⟩
     have e1:W'.heap[k]?=some o:=(hU1.block (lt_of_block hk')).trans hk'
     have nlp:k≠lp:=fun e=>by
       subst e
       rw[hlr1]at e1;cases e1
       rcases ho with ho|⟨_,_,ho|ho⟩
       · cases ho.1
       · omega
       cases ho
     have e2:W2.heap[k]?=some o:=(o2 k nlp).trans e1
     have own:∀i,Cp (As s++Bx x b) i→S0 i∨w0.heap.size≤i:=fun i⟨A,hA,hi⟩=>(hS2.each A (g6 _ hA)).2 i hi
     have nF:¬Cp (As s++Bx x b) k:=fun hf=>by
       rcases ho with⟨h9,h10⟩|⟨h9,h10,h11⟩
       · refine h10 (hX pre s k hJs ((G9.1 hf).resolve_right fun⟨A,hA,hi⟩=>?_) ⟨own k hf,fun hz=>hS2.zF hz hf⟩)
         have:=((hB.each A hA).2 k hi).resolve_left id
         have:=lt_of_block hk'
         omega
       rcases(KoOk.eG.1 hK2).2 k hf with h12|⟨o',h12,h13⟩
       · exact h10 ⟨own k hf,h12,fun hz=>hS2.zF hz hf⟩
       rw[e2]at h12;cases h12;rw[h9]at h13;cases h13
     exact(World.putObj_heap_other nlp).trans ((h5.fr.block k (lt_of_block e2) nF).trans e2)
   intro e a2 W3 hp
   cases e with
   |normal=>
     obtain⟨s',Rest,hJ',h5,h6⟩:=hp
     obtain⟨W4,hr,h7,h8,h9,h10,h11,h12⟩:=fin s' Rest W3 none h5 h6
     exact⟨_,_,hr,.inl ⟨rfl,⟨⟨s',hJ',h7,h8,h9⟩,h10,h11⟩,h12⟩⟩
   |ret=>
     obtain⟨s',Rest,hJ',h5,h6⟩:=hp
     obtain⟨W4,hr,h7,h8,h9,h10,h11,h12⟩:=fin s' Rest W3 (some .ret) h5 h6
     exact⟨_,_,hr,.inr ⟨rfl,.ret,⟨s',hJ',h7,h8,h9⟩,h10,h11⟩⟩
   |exit id=>
     obtain⟨s',Rest,hJ',h5,h6⟩:=hp
     obtain⟨W4,hr,h7,h8,h9,h10,h11,h12⟩:=fin s' Rest W3 (some (.exit id)) h5 h6
     exact⟨_,_,hr,.inr ⟨rfl,.exit id,⟨s',hJ',h7,h8,h9⟩,h10,h11⟩⟩
   |goto t=>
     obtain⟨s',Rest,hJ',h5,h6⟩:=hp
     obtain⟨W4,hr,h7,h8,h9,h10,h11,h12⟩:=fin s' Rest W3 (some (.goto t)) h5 h6
     exact⟨_,_,hr,.inr ⟨rfl,.goto t,⟨s',hJ',h7,h8,h9⟩,h10,h11⟩⟩
   |panic ch=>exact hp.elim
   |outgrown=>exact hp.elim
 |ret=>exact hq.elim
 |exit id=>exact hq.elim
 |goto t=>exact hq.elim
 |panic ch=>exact hq.elim
 |outgrown=>exact hq.elim
theorem Ke{α σ:Type}{g:Operand}{ps:Array Tmp}{assign body:Code}{gf:Nat}{lb:Array Value}{encs:α→Array Value}{Zs:List Asr}{S0:Nat→Prop}{w0:World}(As:σ→List Asr)(J:List α→σ→Prop)(Jx:Code→List α→σ→Prop)(Bx:α→Nat→List Asr)(env:α→Nat→Env)(s0:σ){S Sp:List α→Prop}{N:Nat}
   (hx:Val l g (.func (.func gf) #[] lb))(en:∀args w,(callFunc gf args).run P w=.ok (.enter gf args) w)(hit:IterS P gf lb encs (fun i=>(S0 i∨w0.heap.size≤i)∧¬Cp Zs i) (fun i=>(S0 i∨w0.heap.size≤i)∧i<w.heap.size∧¬Cp Zs i) S Sp N w)(hps:∀x,(encs x).size=ps.size)(hl:Ck l=true)(henv:∀x b,Ck (env x b)=true)
   (hS:Sep S0 w0 w (Zs++As s0))(hJ:J [] s0)
   (hassign:∀(lp:Nat)(x:α)(W:World)(a:Go.Act),Ag n ds l a W→assign.wpIn (FR (some lp)) 8 P (Exit.then (fun a' W'=>∃b,Sep no W W' (Bx x b)∧KoOk 0 W' (Bx x b)∧Ag n [] (env x b) a' W') (fun _ _ _=>False)) { tmps:=(ps.zip (encs x)).foldl (fun t(p,v)=>t.setIfInBounds p v) a.tmps,defers:=[] } W)
   (hbody:∀(lp:Nat)(pre:List α)(x:α)(s:σ)(b:Nat)(W:World),J pre s→pre.length<N→w.heap.size≤W.heap.size→Sep S0 w0 W (Zs++(As s++Bx x b))→Sep (Cp (As s++Bx x b)) W W (As s++Bx x b)→
     CW (some lp) 8 P n [] body (Wf (fun W'=>∃s' Rest,J (pre++[x]) s'∧Sep (Cp (As s++Bx x b)) W W' (As s'++Rest)∧KoOk w.heap.size W' (As s')) (fun c W'=>∃s' Rest,Jx c (pre++[x]) s'∧Sep (Cp (As s++Bx x b)) W W' (As s'++Rest)∧KoOk w.heap.size W' (As s'))) (env x b) W)
   (hdone:∀(D:Nat)(ys:List α)(s:σ)(W:World),w.heap.size≤D→S ys→J ys s→w.heap.size≤W.heap.size→Sep S0 w0 W (Zs++(As s++[Kd D]))→KW n ({ target:=.collected D,args:=#[] }::ds) (Q .normal) l W)
   (hstop:∀(D:Nat)(c:Code)(pre:List α)(s:σ)(W:World),w.heap.size≤D→Sp pre→Jx c pre s→w.heap.size≤W.heap.size→Sep S0 w0 W (Zs++(As s++[Kd D]))→CW none 10 P n ({ target:=.collected D,args:=#[] }::ds) c Q l W):
   CW none 10 P n ds (.rangeFunc g ps assign body) Q l w:=
 Uu _ As J Jx Bx env s0 (fun _ _ _ _ _ h=>h) hx en hit hps hl henv hS hJ hassign hbody hdone hstop
end
end Go.Wx
namespace Go.Wx
theorem Fl{l:List Int}{k:Nat}{x:Int}(h:l[k]?=some x):l.attach[k]?=some ⟨x,ae h⟩:=by
 obtain⟨hk,rfl⟩:=ak.1 h
 rw[cj (by rw[ci];exact hk)]
 simp
def gY(o:Option Nat):Array Value:=#[.pointer (o.map fun b=>(⟨b,0,none⟩:Addr))]
def L8(t:Int)(ad:Option Addr)(m cp:Nat):Array Value:=#[vi t,.slice ad m cp]
def yF(xs:List (Option Nat))(n:Nat):Option Nat→List (Option Nat)
 |.none=>xs
 |some b=>xs.set n (some b)
def nP(cs:Array Value)(T:TypeId):Option Nat→Asr
 |.none=>eJ
 |some b=>A4 b cs T
theorem Po{w:World}{ad:Option Addr}{l:List Int}(hE:Els w ad 1 A6 l)(hne:l≠[]){B o:Nat}(e:ad=some ⟨B,o,none⟩):B<w.heap.size:=by
 cases l with
 |nil=>exact absurd rfl hne
 |cons x l=>
   obtain⟨B',o',e',hc⟩:=hE 0 x rfl
   rw[e]at e'
   cases e'
   exact block_lt_of_cell (hc 0 _ rfl)
end Go.Wx
namespace Go.Proofs.YtnocngnlpgikaaaGreatDoor
open Go.Proofs.Tryz
open Go.Wx Go.RowKit
theorem Ou(X Y:Nat→Prop)(B1:Nat)(sk:Sk)(w:World)(hEX:sk.nx≠[]→∀B o,sk.na=some ⟨B,o,none⟩→¬X B)(hFX:¬X B1)(hF0:Blk w B1 sk.cells 49)(hE0:Els w sk.na 1 A6 sk.nx)(hbk:∀x∈sk.nx,sk.bk<x)(hb1: -1≤sk.bk)(hlen:sk.nx.length≤1000)(l:List Int)(hl:l=Ka sk):
   IterS prog 251 #[.pointer (some ⟨B1,0,none⟩)] (fun x:{x:Int//x∈l}=>#[vi x.1]) X Y (fun ys=>ys=l.attach) (fun _=>True) l.length w:=by
 refine IterS.of ?_
 intro lp J Jx w0 hUw _ hY hJ
 obtain⟨Bd,hBd⟩:∃Bd,Bd=w0.heap.size:=⟨_,rfl⟩
 rw[←hBd]at hJ hY
 clear hBd
 have hal:∀{i:Nat}{x:Int},(Ka sk)[i]?=some x→l[i]?=some x:=fun h=>by rw[hl];exact h
 have hF:=hF0.up hUw
 have hE:=Els.up hE0 hUw
 refine cT 41 func251 rfl ?_
 refine Ae ?_
 refine U (.fB 5 rfl) ?_
 refine U (.lb rfl (hF.Ad rfl)) ?_
 refine LW.A rfl (Am (Ae ?_))
 refine U (.fB 4 rfl) ?_
 refine U (.lb rfl (hF.Ad rfl)) ?_
 refine U (.Cn ju (.t rfl)) ?_
 refine U (.move (.const _)) ?_
 refine Af (Ah ?_)
 refine CW.loop (σ:=Nat) (fun s w=>s≤sk.nx.length∧Jw Bd J (l.attach.take (Us sk.bk s)) w∧Els w sk.na 1 A6 sk.nx∧Blk w B1 sk.cells 49) (fun s=>[(0,.eq (.func (.yield lp) #[] #[])),(3,.eq (vi (Wa sk.bk s))),(9,.eq (.slice sk.na sk.nx.length sk.nc)),(10,.eq (vi (sk.nx.length:Int))),(11,.eq (vi (s:Int)))]) (fun s=>sk.nx.length-s) 0 ?_ ?_ ?_
 ·exact⟨au _,hJ,hE,hF⟩
 ·exact tQ
 rintro k w1 ⟨hk,hJ,hE,hF⟩
 refine Ae ?_
 refine U (.l2 rfl rfl) ?_
 refine Am ?_
 refine CW.b rfl (fun h12=>?_) (fun h12=>?_)
 ·replace h12:=dQ h12
  refine Ai (Ac (Ak (Ah (Ak ?_))))
  have hkl:k<sk.nx.length:=by simp at h12;omega
  refine Aa ?_
  obtain⟨x,hx⟩:=An (xs:=sk.nx) (i:=k) oQ
  obtain⟨Bx,ox,ax,hcx⟩:=hE _ x hx
  refine U (.Ar ju jw (.t rfl) (.t rfl) oQ ax) ?_
  refine U (.lb rfl (hcx.nth (j:=0) rfl)) ?_
  refine LW.A rfl (Am (Ak ?_))
  cases k with
  |zero=>
   have hbx:=hbk x (ae hx)
   rw[show Wa sk.bk 0=sk.bk from rfl]
   change Jw Bd J (l.attach.take 0) _ at hJ
   cases hq4:decide (0≤sk.bk)with
   |true=>
    have hb0:=bw hq4
    have hl0:=hal (cB hb0)
    have hlx:=hal (Zf hx)
    rw[ap hb0]at hlx
    refine Aa (I rfl ?_)
    refine U (.tr (PEv.geq (.t rfl) (.const _)) (hq4)) ?_
    refine I rfl ?_
    refine Ap ?_
    refine I rfl ?_
    refine Ap ?_
    refine I rfl ?_
    refine Ap ?_
    refine U (.tr (PEv.l2 rfl rfl) (be hbx)) ?_
    refine U (.pa rfl (fun hp=>wQ)) ?_
    refine I rfl ?_
    refine Ap ?_
    refine I rfl ?_
    refine Ap ?_
    refine I rfl ?_
    refine Ap ?_
    refine LW.y (.t rfl) (.cu rfl) rfl rfl (hY _ ⟨sk.bk,ae hl0⟩ _ hJ (by have:=(ak.1 hl0).1;rw[cb,ci];omega)) ?_
    rintro _ w2 ⟨y,rfl,hcase⟩
    refine Ap ?_
    refine U (.n1 rfl) ?_
    refine U (.pa rfl (fun hp=>wQ)) ?_
    refine Af ?_
    refine CW.b rfl (fun h27=>?_) (fun h27=>?_)
    ·replace h27:=dQ h27
     have hy:y=false:=by simpa using h27
     subst hy
     obtain⟨_,hJx⟩:=hcase.resolve_left (by simp)
     refine Al (Au (A7 (Au (Au (A7 (Au ?_))))))
     refine Fm rfl ⟨_,rfl,?_⟩
     first|exact .inl ⟨_,rfl,by rw[hend,←ci (l:=l),bt]at hJ;exact hJ.j⟩|exact .inr ⟨_,trivial,hJx⟩|(rcases hcase with⟨_,hJ2,_⟩|⟨_,hJx⟩;(refine .inl ⟨_,?_,hJ2.j⟩;rw[←C5 (Fl hl0),←hlen1,←ci (l:=l),bt]);exact .inr ⟨_,trivial,hJx⟩)
    replace h27:=dQ h27
    have hy:y=true:=by simpa using h27
    subst hy
    obtain⟨_,hJ2,hN⟩:=hcase.resolve_right (by simp)
    replace hE:=hE.kx hN (hEX fun e=>by rw[e]at hx;cases hx)
    replace hF:=hF.kx hN hFX
    rw[←C5 (Fl hl0)]at hJ2
    have hJ:=hJ2
    clear hJ2 hcase hN
    refine Ai (Ac (Ak (Ae (I rfl (I rfl ?_)))))
    refine U (.tr (PEv.leq (.t rfl) (.t rfl)) (be oQ)) ?_
    refine Af ?_
    refine CW.v rfl ?_
    refine Aa (Ay (Am (Aa (I rfl (I rfl ?_)))))
    refine LW.y (.t rfl) (.cu rfl) rfl rfl (hY _ ⟨x,ae hlx⟩ _ hJ (by have:=(ak.1 hlx).1;rw[cb,ci];omega)) ?_
    rintro _ w3 ⟨y,rfl,hcase⟩
    refine U (.n1 rfl) ?_
    refine Af ?_
    refine CW.b rfl (fun h34=>?_) (fun h34=>?_)
    ·replace h34:=dQ h34
     have hy:y=false:=by simpa using h34
     subst hy
     obtain⟨_,hJx⟩:=hcase.resolve_left (by simp)
     refine Al (A7 (Au (Au (A7 (Au ?_)))))
     refine Fm rfl ⟨_,rfl,?_⟩
     first|exact .inl ⟨_,rfl,by rw[hend,←ci (l:=l),bt]at hJ;exact hJ.j⟩|exact .inr ⟨_,trivial,hJx⟩|(rcases hcase with⟨_,hJ2,_⟩|⟨_,hJx⟩;(refine .inl ⟨_,?_,hJ2.j⟩;rw[←C5 (Fl hl0),←hlen1,←ci (l:=l),bt]);exact .inr ⟨_,trivial,hJx⟩)
    replace h34:=dQ h34
    have hy:y=true:=by simpa using h34
    subst hy
    obtain⟨_,hJ2,hN⟩:=hcase.resolve_right (by simp)
    replace hE:=hE.kx hN (hEX fun e=>by rw[e]at hx;cases hx)
    replace hF:=hF.kx hN hFX
    rw[←C5 (Fl hlx)]at hJ2
    refine Ai (Aj (Ac (Aa ?_)))
    refine U (.ic rfl oQ) ?_
    refine I rfl (LW.nil (Av ?_))
    exact⟨_+1,⟨by omega,by first|(rw[Zg];exact hJ2)|(rw[Qi];(first|rw[ap hb0]|rw[am hb0]);exact hJ2),hE,hF⟩,⟨rfl,rfl,rfl,rfl,rfl,trivial⟩,by omega⟩
   |false=>
    have hb0:=cc hq4
    have hlx:=hal (Zf hx)
    rw[am hb0]at hlx
    refine Aa (I rfl ?_)
    refine U (.fa (PEv.geq (.t rfl) (.const _)) (hq4)) ?_
    refine I rfl ?_
    refine Bh ?_
    refine Bh ?_
    refine Bh ?_
    refine U (.C0 (b:=false) (.t rfl) (fun hp=>absurd (show false=true from hp) cQ)) ?_
    refine I rfl ?_
    refine Bh ?_
    refine Bh ?_
    refine Bh ?_
    refine Bh ?_
    refine U (.C0 (b:=false) (.t rfl) (fun hp=>absurd (show false=true from hp) cQ)) ?_
    refine Af ?_
    refine CW.f rfl ?_
    refine Ai (Ac (Ak (Ae (I rfl (I rfl ?_)))))
    refine U (.tr (PEv.leq (.t rfl) (.t rfl)) (be oQ)) ?_
    refine Af ?_
    refine CW.v rfl ?_
    refine Aa (Ay (Am (Aa (I rfl (I rfl ?_)))))
    refine LW.y (.t rfl) (.cu rfl) rfl rfl (hY _ ⟨x,ae hlx⟩ _ hJ (by have:=(ak.1 hlx).1;rw[cb,ci];omega)) ?_
    rintro _ w4 ⟨y,rfl,hcase⟩
    refine U (.n1 rfl) ?_
    refine Af ?_
    refine CW.b rfl (fun h34=>?_) (fun h34=>?_)
    ·replace h34:=dQ h34
     have hy:y=false:=by simpa using h34
     subst hy
     obtain⟨_,hJx⟩:=hcase.resolve_left (by simp)
     refine Al (A7 (Au (Au (A7 (Au ?_)))))
     refine Fm rfl ⟨_,rfl,?_⟩
     first|exact .inl ⟨_,rfl,by rw[hend,←ci (l:=l),bt]at hJ;exact hJ.j⟩|exact .inr ⟨_,trivial,hJx⟩|(rcases hcase with⟨_,hJ2,_⟩|⟨_,hJx⟩;(refine .inl ⟨_,?_,hJ2.j⟩;rw[←C5 (Fl hl0),←hlen1,←ci (l:=l),bt]);exact .inr ⟨_,trivial,hJx⟩)
    replace h34:=dQ h34
    have hy:y=true:=by simpa using h34
    subst hy
    obtain⟨_,hJ2,hN⟩:=hcase.resolve_right (by simp)
    replace hE:=hE.kx hN (hEX fun e=>by rw[e]at hx;cases hx)
    replace hF:=hF.kx hN hFX
    rw[←C5 (Fl hlx)]at hJ2
    refine Ai (Aj (Ac (Aa ?_)))
    refine U (.ic rfl oQ) ?_
    refine I rfl (LW.nil (Av ?_))
    exact⟨_+1,⟨by omega,by first|(rw[Zg];exact hJ2)|(rw[Qi];(first|rw[ap hb0]|rw[am hb0]);exact hJ2),hE,hF⟩,⟨rfl,rfl,rfl,rfl,rfl,trivial⟩,by omega⟩
  |succ k1=>
   have hlx:=hal (Zf hx)
   have hbx:=hbk x (ae hx)
   rw[show Wa sk.bk (k1+1)= -1 from rfl]
   replace hlx:l[Us sk.bk (k1+1)]?=some x:=by rw[show Us sk.bk (k1+1)=(if 0≤sk.bk then k1+1+1 else k1+1)from rfl];exact hlx
   refine Aa (I rfl ?_)
   refine U (.fa (PEv.geq (.t rfl) (.const _)) (rfl)) ?_
   refine I rfl ?_
   refine Bh ?_
   refine Bh ?_
   refine Bh ?_
   refine U (.C0 (b:=false) (.t rfl) (fun hp=>absurd (show false=true from hp) cQ)) ?_
   refine I rfl ?_
   refine Bh ?_
   refine Bh ?_
   refine Bh ?_
   refine Bh ?_
   refine U (.C0 (b:=false) (.t rfl) (fun hp=>absurd (show false=true from hp) cQ)) ?_
   refine Af ?_
   refine CW.f rfl ?_
   refine Ai (Ac (Ak (Ae (I rfl (I rfl ?_)))))
   refine U (.tr (PEv.leq (.t rfl) (.t rfl)) (be oQ)) ?_
   refine Af ?_
   refine CW.v rfl ?_
   refine Aa (Ay (Am (Aa (I rfl (I rfl ?_)))))
   refine LW.y (.t rfl) (.cu rfl) rfl rfl (hY _ ⟨x,ae hlx⟩ _ hJ (by have:=(ak.1 hlx).1;rw[cb,ci];omega)) ?_
   rintro _ w5 ⟨y,rfl,hcase⟩
   refine U (.n1 rfl) ?_
   refine Af ?_
   refine CW.b rfl (fun h34=>?_) (fun h34=>?_)
   ·replace h34:=dQ h34
    have hy:y=false:=by simpa using h34
    subst hy
    obtain⟨_,hJx⟩:=hcase.resolve_left (by simp)
    refine Al (A7 (Au (Au (A7 (Au ?_)))))
    refine Fm rfl ⟨_,rfl,?_⟩
    first|exact .inl ⟨_,rfl,by rw[hend,←ci (l:=l),bt]at hJ;exact hJ.j⟩|exact .inr ⟨_,trivial,hJx⟩|(rcases hcase with⟨_,hJ2,_⟩|⟨_,hJx⟩;(refine .inl ⟨_,?_,hJ2.j⟩;rw[←C5 (Fl hl0),←hlen1,←ci (l:=l),bt]);exact .inr ⟨_,trivial,hJx⟩)
   replace h34:=dQ h34
   have hy:y=true:=by simpa using h34
   subst hy
   obtain⟨_,hJ2,hN⟩:=hcase.resolve_right (by simp)
   replace hE:=hE.kx hN (hEX fun e=>by rw[e]at hx;cases hx)
   replace hF:=hF.kx hN hFX
   rw[←C5 (Fl hlx)]at hJ2
   refine Ai (Aj (Ac (Aa ?_)))
   refine U (.ic rfl oQ) ?_
   refine I rfl (LW.nil (Av ?_))
   exact⟨_+1,⟨by omega,by first|(rw[Zg];exact hJ2)|(rw[Qi];(first|rw[ap hb0]|rw[am hb0]);exact hJ2),hE,hF⟩,⟨rfl,rfl,rfl,rfl,rfl,trivial⟩,by omega⟩
 replace h12:=dQ h12
 have hkk:k=sk.nx.length:=by simp at h12;omega
 subst hkk
 refine A8 (Ab (Ab (Ao (Ac (Ae (I rfl ?_))))))
 refine U (.geq (.t rfl) (.const _)) ?_
 refine Af ?_
 refine CW.b rfl (fun h37=>?_) (fun h37=>?_)
 ·replace h37:=dQ h37
  have h37_:=jD h37
  have hl0:=hal (cB h37_.1)
  have hlen1:l.length=0+1:=by rw[hl,cC,ap h37_.1,h37_.2];rfl
  rw[show Wa sk.bk sk.nx.length=sk.bk by rw[h37_.2];rfl]
  rw[h37_.2]at hJ
  change Jw Bd J (l.attach.take 0) _ at hJ
  refine Aa (I rfl (I rfl ?_))
  refine LW.y (.t rfl) (.cu rfl) rfl rfl (hY _ ⟨sk.bk,ae hl0⟩ _ hJ (by have:=(ak.1 hl0).1;rw[cb,ci];omega)) ?_
  rintro _ w6 ⟨y,rfl,hcase⟩
  refine LW.nil ?_
  refine C1 rfl ⟨_,rfl,?_⟩
  first|exact .inl ⟨_,rfl,by rw[hend,←ci (l:=l),bt]at hJ;exact hJ.j⟩|exact .inr ⟨_,trivial,hJx⟩|(rcases hcase with⟨_,hJ2,_⟩|⟨_,hJx⟩;(refine .inl ⟨_,?_,hJ2.j⟩;rw[←C5 (Fl hl0),←hlen1,←ci (l:=l),bt]);exact .inr ⟨_,trivial,hJx⟩)
 replace h37:=dQ h37
 have hend:Us sk.bk sk.nx.length=l.length:=by rw[hl];exact jC h37
 refine Ai ?_
 refine C1 rfl ⟨_,rfl,?_⟩
 first|exact .inl ⟨_,rfl,by rw[hend,←ci (l:=l),bt]at hJ;exact hJ.j⟩|exact .inr ⟨_,trivial,hJx⟩|(rcases hcase with⟨_,hJ2,_⟩|⟨_,hJx⟩;(refine .inl ⟨_,?_,hJ2.j⟩;rw[←C5 (Fl hl0),←hlen1,←ci (l:=l),bt]);exact .inr ⟨_,trivial,hJx⟩)
theorem Zr(X Y:Nat→Prop)(B1:Nat)(sk:Sk)(w:World)(hEX:sk.nx≠[]→∀B o,sk.na=some ⟨B,o,none⟩→¬X B)(hFX:¬X B1)(hF0:Blk w B1 sk.cells 49)(hE0:Els w sk.na 1 A6 sk.nx)(hb:sk.bk= -1)(hl:sk.nx.length≤1)(hp:∀x∈sk.nx,0≤x):
 IterS prog 251 #[.pointer (some ⟨B1,0,none⟩)] (fun x:{x:Int//x∈sk.nx}=>#[vi x.1]) X Y (fun ys=>ys=sk.nx.attach) (fun _=>True) sk.nx.length w:=Ou X Y B1 sk w hEX hFX hF0 hE0 (fun x hx=>by have:=hp x hx;omega) oQ oQ _ (by unfold Ka;rw[am (by omega)])
theorem Td(sk:Sk)(w:World):Ret prog 225 #[.agg sk.cells] w fun r w'=>(∃B,r=.func (.func 251) #[] #[.pointer (some ⟨B,0,none⟩)]∧Blk w' B sk.cells 49∧w.heap.size≤B)∧Up w w':=by
 have hW:=Up.refl w
 refine cT 4 func225 rfl (Ae (Aq (.bA rfl) rfl ?_))
 rintro _ w1 ⟨B1,rfl,NB1⟩
 have eB1:=NB1.at_
 replace hW:=hW.up NB1.up
 have hB1:=NB1.blk
 refine Ay (Am (Aa (U (.makeFunc (.cu rfl)) (LW.A rfl (Af (Al (KW.q ?_)))))))
 exact⟨⟨_,rfl,hB1,eo eB1.symm⟩,hW⟩
theorem L9(Bo g cp:Nat)(xs:List (Option Nat))(t:Int)(ad:Option Addr)(m c:Nat)(sk:Sk)(n:Nat)(Bf:Nat)(w:World)(hE:Els w sk.na 1 A6 sk.nx)(hb:sk.bk= -1)(hl:sk.nx.length≤1)(hx:∀x∈sk.nx,x=(n:Int))(hn:n<3)(hnil:xs[n]?=some .none)(hna:sk.nx≠[]→∀B o,sk.na=some ⟨B,o,none⟩→¬Cp [A4 Bo #[.slice (some ⟨g,0,none⟩) 3 cp] 222,Az 221 1 gY (.slice (some ⟨g,0,none⟩) 3 cp) (xs)] B)(hS0:Wx.Sep (Cp [A4 Bo #[.slice (some ⟨g,0,none⟩) 3 cp] 222,Az 221 1 gY (.slice (some ⟨g,0,none⟩) 3 cp) (xs)]) w w [A4 Bo #[.slice (some ⟨g,0,none⟩) 3 cp] 222,Az 221 1 gY (.slice (some ⟨g,0,none⟩) 3 cp) (xs)]):Ret prog 224 #[.agg (L8 t ad m c),.agg sk.cells,.pointer (some ⟨Bo,0,none⟩),.pointer (some ⟨Bf,0,none⟩)] w fun _ w'=>∃z,Wx.Sep (Cp [A4 Bo #[.slice (some ⟨g,0,none⟩) 3 cp] 222,Az 221 1 gY (.slice (some ⟨g,0,none⟩) 3 cp) (xs)]) w w' [A4 Bo #[.slice (some ⟨g,0,none⟩) 3 cp] 222,Az 221 1 gY (.slice (some ⟨g,0,none⟩) 3 cp) (yF xs n z),nP (L8 t ad m c) 226 z]∧(sk.nx=[]∧z=.none∨sk.nx≠[]∧z.isSome=true):=by
 obtain⟨w0,rfl,_⟩:=W0 w
 have hS:=(hS0.Zq.Ea 0 rfl).Ea 0 rfl
 change Wx.Sep _ _ _ [_,_,_]at hS
 refine Et (n:=36) func224 rfl rfl rfl ?_
 refine Ae ?_
 refine Aq (.bA rfl) rfl ?_
 rintro _ w1 ⟨B4,rfl,NB4⟩
 have eB4:=NB4.at_
 have zB4:=NB4.size
 replace hS:=hS.Cc NB4
 change Wx.Sep _ _ _ [_,_,_,_]at hS
 refine Aq (.bA rfl) rfl ?_
 rintro _ w2 ⟨B5,rfl,NB5⟩
 have eB5:=NB5.at_
 have zB5:=NB5.size
 replace hS:=hS.Cc NB5
 change Wx.Sep _ _ _ [_,_,_,_,_]at hS
 refine Am (Aa ?_)
 refine U (.lc rfl (hS.b4.agg)) ?_
 refine A3 (eC (.o rfl) (qQ)) rfl (Td sk _) ?_
 rintro _ w3 ⟨⟨B8,rfl,hK8,hn8⟩,uw3⟩
 have zw3:=uw3.size
 replace hS:=hS.add uw3 (A':=A4 B8 sk.cells 49) (hK8) (fun i h=>by cases h;exact hn8)
 change Wx.Sep _ _ _ [_,_,_,_,_,_]at hS
 replace hS:=((hS.Ea 1 rfl).Ea 2 rfl).Ea 1 rfl
 change Wx.Sep _ _ _ [_,_,_,_,_,_]at hS
 replace hS:=hS.add (Up.refl _) (A':=eJ) trivial (fun i h=>h.elim)
 change Wx.Sep _ _ _ [_,_,_,_,_,_,_]at hS
 refine Af (Ah ?_)
 obtain⟨bq,hbq⟩:∃bq,bq=w3.heap.size:=⟨_,rfl⟩
 refine Ke (Zs:=[_,_,_]) (σ:=Option Nat) (fun s=>[A4 Bo #[.slice (some ⟨g,0,none⟩) 3 cp] 222,A4 B4 (L8 t ad m c) 226,Az 221 1 gY (.slice (some ⟨g,0,none⟩) 3 cp) (yF xs n s),nP (L8 t ad m c) 226 s]) (fun pre s=>((pre=[]∧s=.none)∨(pre.length=1∧s.isSome=true))) (fun _ _ _=>False) (fun x b=>[]) (fun x b=>[(6,.eq (vi x.1)),(2,.eq (.pointer (some ⟨Bo,0,none⟩))),(4,.eq (.pointer (some ⟨B4,0,none⟩))),(3,.eq (.pointer (some ⟨Bf,0,none⟩)))]) .none (.t rfl) (fun args w=>qU args w) (Zr _ _ B8 sk _ (fun hne B o e h=>h.1.elim (hna hne B o e) (fun h2=>absurd (Po hE hne e) oQ)) (fun h=>h.2 ⟨_,bu _ (bu _ bl),rfl⟩) hS.b2 (fun i x hx=>Els.fr hE hS.fr (hna fun e=>by rw[e]at hx;cases hx) i x hx) hb hl (fun x h=>by rw[hx x h];omega)) (fun _=>rfl) rfl (fun _ _=>rfl) (show Wx.Sep _ _ _ ([_,_,_]++[_,_,_,_])from hS) (.inl ⟨rfl,rfl⟩) ?_ ?_ ?_ ?_
 ·intro lp x w4
  have hS:=Sep.start no w4
  refine G1 rfl ?_
  refine Aa (LW.A rfl (LW.nil ?_))
  exact fun a ha=>⟨0,hS,.nil _ _,ha.sub tQ⟩
 ·rintro lp pre x z b w5 hJ hlt hqw hS0 hS
  rw[←hbq]at hqw⊢
  have zq:=hqw
  change Wx.Sep _ _ _ [_,_,_,_]at hS
  obtain⟨rfl,rfl⟩:=hJ.resolve_right (fun h=>by omega)
  have hxn:=hx x.1 x.2
  obtain⟨Bz,oz,az,hcz⟩:=(Cm (hS.own 2 rfl) (fun _=>rfl)) n .none hnil
  cases az
  refine Ah (Ak ?_)
  refine C7 kQ kQ rfl rfl ?_
  refine J (.lb rfl (hS.b0.Ad rfl)) ?_
  refine J (.Ez (v':=vi (n:Int)) (PEv.mv rfl) (by rw[hxn])) ?_
  refine J (.Ar ky l4 (j:=n) (.t rfl) (.t rfl) oQ rfl) ?_
  refine J (.lb rfl (hcz.nth (j:=0) rfl)) ?_
  refine J (.tr (PEv.Je l7 (.t rfl)) (rfl)) ?_
  refine J (.mv rfl) ?_
  refine Dq ?_
  refine Dq ?_
  refine Dq ?_
  refine Dq ?_
  refine Dq ?_
  refine Dq ?_
  refine Dq ?_
  refine Dq ?_
  refine Dq ?_
  refine Dq ?_
  refine J (.D5 (b:=false) (.t rfl) (fun hp=>absurd (show true=false from hp) cQ)) ?_
  refine HW.nil ?_
  intro w6 uw6
  have zw6:=uw6.size
  replace hS:=hS.up uw6
  refine Ac ?_
  refine CW.v rfl ?_
  refine Aa ?_
  refine U (.lb rfl (hS.b0.Ad rfl)) ?_
  refine U (.Ez (v':=vi (n:Int)) (PEv.mv rfl) (by rw[hxn])) ?_
  refine U (.fB 0 rfl) ?_
  refine U (.lb rfl (hS.b1.Ad rfl)) ?_
  refine U (.fB 1 rfl) ?_
  refine U (.lb rfl (hS.b1.Ad rfl)) ?_
  refine U (.build (cs:=(L8 t ad m c)) md zeroValue226 Gm (.ct rfl (.cu rfl)) rfl) ?_
  refine Aq (.bA rfl) rfl ?_
  rintro _ w7 ⟨B34,rfl,NB34⟩
  have eB34:=NB34.at_
  have zB34:=NB34.size
  replace hS:=hS.Cc NB34
  change Wx.Sep _ _ _ [_,_,_,_,_]at hS
  refine U (.Ar ky l4 (j:=n) (.t rfl) (.t rfl) oQ rfl) ?_
  refine Cb (.Hy (enc:=gY) (k:=1) (z:=some B34) (i:=n) (j:=0) l4 (fun _=>rfl) rfl (.t rfl) (.t rfl) (hS.own 2 rfl) hnil cQ rfl) ?_
  intro w8 Gw8
  have zw8:=Gw8.fr.size
  replace hS:=hS.F9 2 rfl Gw8
  change Wx.Sep _ _ _ [_,_,_,_,_]at hS
  refine LW.nil (Aj ?_)
  exact fun _ _=>⟨some B34,[_],.inr ⟨rfl,rfl⟩,hS.Ea 3 rfl,.cons (Li hS.b0) (.cons (Li hS.b1) (.cons (jE (hS.own 2 rfl)) (.cons (Li hS.b4) (.nil _ _))))⟩
 ·rintro Dm ys z w9 hDq hYs hJ hqw hS
  rw[←hbq]at hDq hqw
  have zq:=hqw
  replace hS:=Ut (Ds:=[]) (As:=[_,_]) (Bs:=[_,_,_,_]) hS
  change Wx.Sep _ _ _ [_,_,_,_,_,_,_]at hS
  refine Aj ?_
  refine L7 rfl (Dm::[]) _ (hS.get 0 rfl).1 (hS.get 0 rfl).2 ?_
  intro w10 hF_
  replace hS:=hS.step 0 rfl (A':=eJ) hF_ trivial (fun _ h=>h.elim)
  change Wx.Sep _ _ _ [_,_,_,_,_,_,_]at hS
  have zw10:=hF_.size
  refine Fm rfl ⟨_,rfl,?_⟩
  refine⟨z,hS.sub (.cons _ (.cons _ (.cons _ (.cons_cons _ (.cons _ (.cons_cons _ (.cons_cons _ .slnil))))))),?_⟩
  subst hYs
  rcases hJ with⟨h1,h2⟩|⟨h1,h2⟩
  ·exact .inl ⟨List.attach_eq_nil_iff.1 h1,h2⟩
  exact .inr ⟨fun e=>(by rw[ci,e]at h1;cases h1),h2⟩
 exact fun _ _ _ _ _ _ _ h=>h.elim
end Go.Proofs.YtnocngnlpgikaaaGreatDoor
namespace Go.Wx.Ms
open Go.RowKit Go.MapKept Go.Wx
open Go.ChangeMaps (setBlock)
def vs(s:List UInt8):Value:=.string ⟨s.toArray⟩
def L0(p:List UInt8×Value):Value×Value:=(vs p.1,p.2)
def IMap(w:World)(b:Nat)(kv:List (List UInt8×Value)):Prop:=
 ∃es clock,w.heap[b]?=some (.map es clock)∧Stamped es clock∧es.toList.map Gj=kv.map L0
theorem IMap.lt{w:World}{b:Nat}{kv:List (List UInt8×Value)}(h:IMap w b kv):b<w.heap.size:=let⟨_,_,h1,_⟩:=h;lt_of_block h1
theorem IMap.up{w w':World}{b:Nat}{kv:List (List UInt8×Value)}(h:IMap w b kv)(u:Up w w'):IMap w' b kv:=by
 have:=h.lt
 obtain⟨es,clock,h1,h2⟩:=h
 exact⟨es,clock,(u.block this).trans h1,h2⟩
theorem H4{es:Array MapEntry}{kv:List (List UInt8×Value)}(h:es.toList.map Gj=kv.map L0):∀x∈es.toList,∃k,x.key=vs k∧(k,x.val)∈kv:=by
 intro x hx
 have h1:Gj x∈kv.map L0:=by rw[←h];exact bj.2 ⟨x,hx,rfl⟩
 obtain⟨p,hp,he⟩:=bj.1 h1
 have e1:vs p.1=x.key:=aq Prod.fst he
 have e2:p.2=x.val:=aq Prod.snd he
 exact⟨p.1,e1.symm,by rw[←e2];exact hp⟩
theorem F0{es:Array MapEntry}{kv:List (List UInt8×Value)}(h:es.toList.map Gj=kv.map L0){p:List UInt8×Value}(hp:p∈kv):∃x∈es.toList,x.key=vs p.1∧x.val=p.2:=by
 have h1:L0 p∈es.toList.map Gj:=by rw[h];exact bj.2 ⟨p,hp,rfl⟩
 obtain⟨x,hx,he⟩:=bj.1 h1
 exact⟨x,hx,aq Prod.fst he,aq Prod.snd he⟩
theorem Zt{a b:List UInt8}(h:vs a=vs b):a=b:=by
 have h1:(⟨a.toArray⟩:ByteArray)=⟨b.toArray⟩:=by injection h
 have h2:a.toArray=b.toArray:=aq ByteArray.data h1
 simpa using h2
theorem H5{es:Array MapEntry}{clock:Nat}{kv:List (List UInt8×Value)}(hs:Stamped es clock)(h:es.toList.map Gj=kv.map L0):(kv.map (·.1)).Nodup:=by
 have h1:es.toList.map (·.key)=(kv.map (·.1)).map vs:=by
   have:=aq (List.map Prod.fst) h
   simpa[fq,iq,Gj,L0]using this
 have h2:=hs.2.2
 rw[h1]at h2
 exact List.Pairwise.of_map vs (fun a b hab e=>hab (by rw[e])) h2
def J4(kv:List (List UInt8×Value))(k:List UInt8)(v:Value):List (List UInt8×Value):=if k∈kv.map (·.1)then kv.map (fun p=>if p.1=k then(k,v)else p)else kv++[(k,v)]
theorem L2{es:Array MapEntry}{clock:Nat}{kv:List (List UInt8×Value)}(hs:Stamped es clock)(h:es.toList.map Gj=kv.map L0){j:Nat}{e:MapEntry}{k:List UInt8}{v:Value}(hj:es[j]?=some e)(hk:e.key=vs k):
   (es.modify j fun e=>{ e with key:=vs k,val:=v }).toList.map Gj=(J4 kv k v).map L0:=by
 have hn:=H5 hs h
 have hat:∀i:Nat,(es.toList.map Gj)[i]?=(kv.map L0)[i]?:=fun i=>by rw[h]
 simp only[eh,g8]at hat
 have hkj:∃p,kv[j]?=some p∧p.1=k:=by
   have:=hat j
   rw[hj]at this
   cases hp:kv[j]? with
   |none=>rw[hp]at this;cases this
   |some p=>
     rw[hp]at this
     have h1:Gj e=L0 p:=by simpa using this
     have h2:e.key=vs p.1:=aq Prod.fst h1
     exact⟨p,rfl,Zt (h2.symm.trans hk)⟩
 obtain⟨p,hp,hpk⟩:=hkj
 have hmem:k∈kv.map (·.1):=bj.2 ⟨p,ae hp,hpk⟩
 rw[J4,ap hmem]
 apply ce
 intro i
 simp only[eh,g8,i6]
 by_cases hij:j=i
 · subst hij
   rw[ap rfl,hj,hp]
   simp[Gj,L0,hpk]
 rw[am hij,hat i]
 cases hq:kv[i]? with
 |none=>rfl
 |some q=>
   have hne:q.1≠k:=fun e'=>by
     have h1:(kv.map (·.1))[i]?=some k:=by simp[hq,e']
     have h2:(kv.map (·.1))[j]?=some k:=by simp[hp,hpk]
     obtain⟨hi,h3⟩:=ak.1 h1
     obtain⟨hj',h4⟩:=ak.1 h2
     exact hij ((jn hn).1 (h4.trans h3.symm))
   simp[hne]
theorem G2{es:Array MapEntry}{kv:List (List UInt8×Value)}(h:es.toList.map Gj=kv.map L0):∀x∈es.toList,IsKey .string x.key:=fun x hx=>by
 obtain⟨k,hk,_⟩:=H4 h x hx
 rw[hk];trivial
section
variable {P:Program}{n:Nat}{ds:List Deferred}{l:Env}{w:World}{d:Option Tmp}{ty:TypeId}{ps:String}{af:Array Edge}{g:Option (Nat×Bool)}
theorem SEv.mapUpdate{T K E:TypeId}{m x y:Operand}{b:Nat}{k:List UInt8}{v:Value}{kv:List (List UInt8×Value)}(hT:P.underlying T=some (.map K E))(hK:P.underlying K=some .string)(hm:Val l m (.map (some b)))(hx:Val l x (vs k))(hy:Val l y v)(h:IMap w b kv):
   SEv P n ds l w ⟨none,.mapUpdate T m x y,ty,ps,af,g⟩ (fun w'=>IMap w' b (J4 kv k v)∧Sto b w w'∧w'.heap.size=w.heap.size):=fun a ha=>by
 obtain⟨es,clock,hb,hs,he⟩:=h
 have hk:IsKey .string (vs k):=trivial
 have fin:∀o:Obj,Sto b w { w with heap:=w.heap.setIfInBounds b o }:=fun o=>⟨rfl,rfl,rfl,by simp,fun i _ hne=>(heap_set hb).2 i hne⟩
 rcases findNow_spec hk es.toList 0 (G2 he)with⟨h1,h2⟩|⟨j,e,h1,h2,h3⟩
 · refine⟨_,Pz (w':={ w with heap:=w.heap.setIfInBounds b (.map (es.push { key:=vs k,val:=v,born:=clock }) (clock+1)) }) ?_,⟨_,_,(heap_set hb).1,stamped_push hs h2,?_⟩,fin _,by simp⟩
   · rw[ha.ev hm,ha.ev hx,ha.ev hy]
     simp[Instr.mapUpdate,run_underlying hT,MapKept.run_getObj_map hb,MapKept.run_checkKey hK hk,MapKept.run_findKey hK h1,MapKept.run_setObj_map _ hb,Result.andThen]
   have hni:k∉kv.map (·.1):=fun hmem=>by
     obtain⟨p,hp,hpk⟩:=bj.1 hmem
     obtain⟨x',hx',hkx,_⟩:=F0 he hp
     exact h2 x' hx' (by rw[hkx,hpk])
   rw[J4,am hni]
   simp[he,Gj,L0]
 have hj:es[j]?=some e:=by simpa using h2
 have hkey:∀e',es[j]?=some e'→({ e' with key:=vs k,val:=v }:MapEntry).key=e'.key:=fun e' he'=>by rw[hj]at he';cases he';exact h3.symm
 refine⟨_,Pz (w':={ w with heap:=w.heap.setIfInBounds b (.map (es.modify j fun e=>{ e with key:=vs k,val:=v }) clock) }) ?_,⟨_,_,(heap_set hb).1,stamped_modify hs _ _ (fun _ _=>rfl) (fun e' _ he'=>hkey e' he'),L2 hs he hj h3⟩,fin _,by simp⟩
 rw[ha.ev hm,ha.ev hx,ha.ev hy]
 simp[Instr.mapUpdate,run_underlying hT,MapKept.run_getObj_map hb,MapKept.run_checkKey hK hk,MapKept.run_findKey hK h1,hj,h3,run_keyThatStays hk,MapKept.run_setObj_map _ hb,Result.andThen]
theorem REv.makeMap{T:TypeId}:REv P n ds l w ⟨d,.makeMap T none,ty,ps,af,g⟩ (fun v w'=>∃b,v=.map (some b)∧IMap w' b []∧Up w w'∧b=w.heap.size∧w'.heap.size=b+1):=fun a ha=>by
 refine⟨_,_,Ct (v:=.map (some w.heap.size)) (w':=w.alloc (.map #[] 0)) ?_,_,rfl,⟨_,_,(heap_alloc w _).1,stamped_empty 0,rfl⟩,Up.alloc w _,rfl,by simp⟩
 simp[Instr.makeMap,Result.andThen]
def IRng(w:World)(b r:Nat)(kv:List (List UInt8×Value))(done:List (List UInt8)):Prop:=
 ∃es clock since seen c0,w.heap[b]?=some (.map es clock)∧Stamped es clock∧es.toList.map Gj=kv.map L0∧w.heap[r]?=some (.mapIter (some b) since seen c0)∧(∀x∈es.toList,x.born<since)∧since≤c0∧since≤clock∧
   (∀x∈es.toList,∀k,x.key=vs k→(seen.contains x.born=true↔k∈done))∧done.Nodup∧∀k∈done,k∈kv.map (·.1)
theorem REv.range{T K E:TypeId}{m:Operand}{b:Nat}{kv:List (List UInt8×Value)}(hT:P.underlying T=some (.map K E))(hm:Val l m (.map (some b)))(h:IMap w b kv):
   REv P n ds l w ⟨d,.range T m,ty,ps,af,g⟩ (fun v w'=>∃r,v=.pointer (some ⟨r,0,none⟩)∧IRng w' b r kv []∧Up w w'∧r=w.heap.size∧w'.heap.size=r+1):=fun a ha=>by
 obtain⟨es,clock,hb,hs,he⟩:=h
 refine⟨_,_,Ct (v:=.pointer (some ⟨w.heap.size,0,none⟩)) (w':=w.alloc (.mapIter (some b) clock #[] clock)) ?_,_,rfl,⟨es,clock,clock,#[],clock,((heap_alloc w _).2 b (lt_of_block hb)).trans hb,hs,he,(heap_alloc w _).1,hs.1,a8 _,a8 _,?_,gh,by simp⟩,Up.alloc w _,rfl,by simp⟩
 · rw[ha.ev hm];exact run_range_map w T K E b es clock hT hb
 intro x _ k _;simp
theorem Ul{b r:Nat}{kv:List (List UInt8×Value)}{done:List (List UInt8)}(ty:TypeId)(h:IRng w b r kv done):
   ((Instr.next (.pointer (some ⟨r,0,none⟩)) false ty).run P w=.ok (.tuple #[.bool false]) w∧done.Perm (kv.map (·.1)))∨
   ∃k u w',(Instr.next (.pointer (some ⟨r,0,none⟩)) false ty).run P w=.ok (.tuple #[.bool true,vs k,u]) w'∧(k,u)∈kv∧k∉done∧IRng w' b r kv (done++[k])∧w.grownBy w' (some r)∧w'.heap.size=w.heap.size∧(Instr.entry (.pointer (some ⟨r,0,none⟩))).run P w'=.ok (.tuple #[vs k,u]) w'∧Sto r w w'∧∃o:Obj,w.heap[r]?=some o∧o.isWalk=true:=by
 obtain⟨es,clock,since,seen,c0,hb,hs,he,hr,hold,hsc,hsk,hd,hdn,hdk⟩:=h
 have hne:b≠r:=fun e=>by rw[e,hr]at hb;cases hb
 have hst:=(stamped_iff es clock).1 hs
 rcases run_next_at (P:=P) w ty r b since c0 seen es clock hr hb hold hsc with⟨h0,hrun⟩|⟨e,hel,w1,hal,hrun⟩
 · refine .inl ⟨hrun,(il hdn (H5 hs he)).2 fun k=>⟨hdk k,fun hk=>?_⟩⟩
   obtain⟨p,hp,rfl⟩:=bj.1 hk
   obtain⟨x,hx,hxk,_⟩:=F0 he hp
   exact(hd x hx _ hxk).1 (all_seen es seen h0 x hx)
 obtain⟨hem,hes⟩:=mem_left hel
 obtain⟨k,hk,hkv⟩:=H4 he e hem
 have hr1:w1.heap[r]?=some (.mapIter (some b) since seen c0):=by rcases hal with rfl|rfl<;>exact hr
 have hb1:w1.heap[b]?=some (.map es clock):=by rcases hal with rfl|rfl<;>exact hb
 have hset:=heap_set (o':=.mapIter (some b) since (seen.push e.born) clock) hr1
 have hb':(setBlock w1 r (.mapIter (some b) since (seen.push e.born) clock)).heap[b]?=some (.map es clock):=(hset.2 b hne).trans hb1
 have hnd:k∉done:=fun hm=>by have:=(hd e hem k hk).2 hm;rw[hes]at this;cases this
 have hgr:w.grownBy (setBlock w1 r (.mapIter (some b) since (seen.push e.born) clock)) (some r):=by rcases hal with rfl|rfl<;>exact⟨rfl,rfl,rfl,by simp[setBlock],fun i _ hi=>hset.2 i (fun e1=>hi (by rw[e1]))⟩
 refine .inr ⟨k,e.val,_,by rw[hrun,hk],hkv,hnd,⟨es,clock,since,seen.push e.born,clock,hb',hs,he,hset.1,hold,hsk,hsk,fun x hx k' hk'=>?_,?_,fun k' hk'=>?_⟩,hgr,?_,?_,⟨hgr.os,hgr.tape,hgr.output,hgr.size,fun i hi hne=>hgr.block i hi (fun e=>hne (by cases e;rfl))⟩,_,hr,rfl⟩
 · rw[contains_push,fp,hd x hx k' hk',bp,bh]
   refine or_congr Iff.rfl ⟨fun h1=>?_,fun h1=>?_⟩
   · have h2:x.born=e.born:=by simpa using h1
     have h3:=born_inj hst.2.1 hx hem h2
     rw[h3,hk]at hk'
     exact(Zt hk').symm
   subst h1
   have:=E6 hst.2.2 hx hem (hk'.trans hk.symm)
   rw[this];simp
 · exact ge.2 ⟨hdn,by simp,fun a ha c hc=>by simp at hc;subst hc;exact fun e'=>hnd (e'▸ha)⟩
 · rcases bp.1 hk' with h1|h1
   · exact hdk k' h1
   simp at h1;subst h1;exact bj.2 ⟨_,hkv,rfl⟩
 · rcases hal with rfl|rfl<;>simp[setBlock]
 rw[←hk];exact run_entry_at _ r b since seen es clock e hset.1 hb' hem hst.2.1
structure NextTo(P:Program)(w w':World)(b r:Nat)(kv:List (List UInt8×Value))(done:List (List UInt8))(k:List UInt8)(u:Value):Prop where
 mem:(k,u)∈kv
 fresh:k∉done
 rng:IRng w' b r kv (done++[k])
 grown:w.grownBy w' (some r)
 size:w'.heap.size=w.heap.size
 entry:(Instr.entry (.pointer (some ⟨r,0,none⟩))).run P w'=.ok (.tuple #[vs k,u]) w'
 sto:Sto r w w'
 walk:∃o:Obj,w.heap[r]?=some o∧o.isWalk=true
theorem REv.next{it:Operand}{b r:Nat}{kv:List (List UInt8×Value)}{done:List (List UInt8)}(hx:Val l it (.pointer (some ⟨r,0,none⟩)))(h:IRng w b r kv done):
   REv P n ds l w ⟨d,.next it false,ty,ps,af,g⟩ (fun v w'=>(v=.tuple #[.bool false]∧w'=w∧done.Perm (kv.map (·.1)))∨∃k u,v=.tuple #[.bool true,vs k,u]∧NextTo P w w' b r kv done k u):=fun a ha=>by
 rcases Ul (P:=P) ty h with⟨h1,h2⟩|⟨k,u,w',h1,h2,h3,h4,h5,h6,h7,h8,h9⟩
 · exact⟨_,_,Ct (by rw[ha.ev hx];exact h1),.inl ⟨rfl,rfl,h2⟩⟩
 exact⟨_,_,Ct (by rw[ha.ev hx];exact h1),.inr ⟨k,u,rfl,h2,h3,h4,h5,h6,h7,h8,h9⟩⟩
theorem REv.entry{it:Operand}{r:Nat}{t:Value}(hx:Val l it (.pointer (some ⟨r,0,none⟩)))(h:(Instr.entry (.pointer (some ⟨r,0,none⟩))).run P w=.ok t w):
 REv P n ds l w ⟨d,.entry it,ty,ps,af,g⟩ (fun v w'=>v=t∧w'=w):=fun a ha=>⟨_,_,Ct (by rw[ha.ev hx];exact h),rfl,rfl⟩
theorem PEv.Hx{d:Option Tmp}{ty:TypeId}{ps:String}{af:Array Edge}{g:Option (Nat×Bool)}{T K E:TypeId}{mo x:Operand}{b:Nat}{k:List UInt8}{v:Value}{kv:List (List UInt8×Value)}{ok:Bool}(hT:P.underlying T=some (.map K E))(hK:P.underlying K=some .string)(hm:Val l mo (.map (some b)))(hx:Val l x (vs k))(h:IMap w b kv)(hkv:(k,v)∈kv):
   PEv P n ds l w ⟨d,.lookup T mo x ok,ty,ps,af,g⟩ (if ok then .tuple #[v,.bool true]else v):=fun a w' ha hu=>by
 obtain⟨es,clock,hb,hs,he⟩:=h.up hu
 have hk:IsKey .string (vs k):=trivial
 refine Ct ?_
 rw[ha.ev hm,ha.ev hx]
 rcases findNow_spec hk es.toList 0 (G2 he)with⟨h1,h2⟩|⟨j,e,h1,h2,h3⟩
 · exfalso
   obtain⟨x',hx',hkx,_⟩:=F0 he hkv
   exact h2 x' hx' hkx
 obtain⟨x',hx',hkx,hvx⟩:=F0 he hkv
 have hv:e.val=v:=by
   have:=E6 (jj.1 hs.2.2) (ae h2) hx' (by rw[h3,hkx])
   rw[this];exact hvx
 cases ok<;>simp[Instr.lookup,run_underlying hT,MapKept.run_getObj_map hb,MapKept.run_checkKey hK hk,MapKept.run_findKey hK h1,Result.andThen,hv]
theorem PEv.Qd{d:Option Tmp}{ty:TypeId}{ps:String}{af:Array Edge}{g:Option (Nat×Bool)}{T K E:TypeId}{mo x:Operand}{b:Nat}{k:List UInt8}{z:Value}{kv:List (List UInt8×Value)}{ok:Bool}(hT:P.underlying T=some (.map K E))(hK:P.underlying K=some .string)(hz:∀w,(zeroValue E).run P w=.ok z w)(hm:Val l mo (.map (some b)))(hx:Val l x (vs k))(h:IMap w b kv)(hkv:k∉kv.map (·.1)):
   PEv P n ds l w ⟨d,.lookup T mo x ok,ty,ps,af,g⟩ (if ok then .tuple #[z,.bool false]else z):=fun a w' ha hu=>by
 obtain⟨es,clock,hb,hs,he⟩:=h.up hu
 have hk:IsKey .string (vs k):=trivial
 refine Ct ?_
 rw[ha.ev hm,ha.ev hx]
 rcases findNow_spec hk es.toList 0 (G2 he)with⟨h1,h2⟩|⟨j,e,h1,h2,h3⟩
 · cases ok<;>simp[Instr.lookup,run_underlying hT,MapKept.run_getObj_map hb,MapKept.run_checkKey hK hk,MapKept.run_findKey hK h1,Result.andThen,hz]
 exfalso
 obtain⟨k',hk',hkv'⟩:=H4 he e (ae h2)
 have:k'=k:=Zt (hk'.symm.trans h3)
 exact hkv (bj.2 ⟨_,hkv',this⟩)
end
end Go.Wx.Ms
namespace Go.Wx
open Go.RowKit
def Lr(b:Nat)(kv:List (Int×Value)):Asr:=⟨(· =b),fun w=>IMap w b kv,fun _ _ h k _=>by
 have:=h.lt
 obtain⟨es,clock,h1,h2⟩:=h
 exact⟨es,clock,(k b rfl this).trans h1,h2⟩,fun _ h _ e=>by rw[e];exact h.lt⟩
def Kg(b r:Nat)(kv:List (Int×Value))(done:List Int):Asr:=⟨fun i=>i=b∨i=r,fun w=>IRng w b r kv done,fun _ _ h k _=>by
 obtain⟨es,clock,since,seen,c0,h1,h2,h3,h4,h5⟩:=h
 exact⟨es,clock,since,seen,c0,(k b (.inl rfl) (lt_of_block h1)).trans h1,h2,h3,(k r (.inr rfl) (lt_of_block h4)).trans h4,h5⟩,fun _ h i e=>by
 obtain⟨es,clock,since,seen,c0,h1,h2,h3,h4,h5⟩:=h
 rcases e with rfl|rfl
 · exact lt_of_block h1
 exact lt_of_block h4⟩
theorem N1{b r:Nat}{kv:List (Int×Value)}{w w':World}(h:IRng w' b r kv [])(u:Up w w')(hr:r=w.heap.size):Stp (Lr b kv) (Kg b r kv []) w w':=⟨u.fr _,h,fun i hi=>hi.elim (fun e=>.inl e) (fun e=>.inr oQ)⟩
theorem Qm{P:Program}{b r:Nat}{kv:List (Int×Value)}{done:List Int}{k:Int}{u:Value}{w w':World}(h:NextTo P w w' b r kv done k u):Stp (Kg b r kv done) (Kg b r kv (done++[k])) w w':=⟨h.sto.fr.mono (fun i(e:i=r)=>.inr e),h.rng,fun _ h=>.inl h⟩
namespace Ms
def Lr(b:Nat)(kv:List (List UInt8×Value)):Asr:=⟨(· =b),fun w=>Ms.IMap w b kv,fun _ _ h k _=>by
 have:=h.lt
 obtain⟨es,clock,h1,h2⟩:=h
 exact⟨es,clock,(k b rfl this).trans h1,h2⟩,fun _ h _ e=>by rw[e];exact h.lt⟩
def Kg(b r:Nat)(kv:List (List UInt8×Value))(done:List (List UInt8)):Asr:=⟨fun i=>i=b∨i=r,fun w=>Ms.IRng w b r kv done,fun _ _ h k _=>by
 obtain⟨es,clock,since,seen,c0,h1,h2,h3,h4,h5⟩:=h
 exact⟨es,clock,since,seen,c0,(k b (.inl rfl) (lt_of_block h1)).trans h1,h2,h3,(k r (.inr rfl) (lt_of_block h4)).trans h4,h5⟩,fun _ h i e=>by
 obtain⟨es,clock,since,seen,c0,h1,h2,h3,h4,h5⟩:=h
 rcases e with rfl|rfl
 · exact lt_of_block h1
 exact lt_of_block h4⟩
theorem cE{b:Nat}{kv kv':List (List UInt8×Value)}{w w':World}(h:Ms.IMap w' b kv')(k:Sto b w w'):Stp (Lr b kv) (Lr b kv') w w':=⟨k.fr,h,fun _ h=>.inl h⟩
theorem N1{b r:Nat}{kv:List (List UInt8×Value)}{w w':World}(h:Ms.IRng w' b r kv [])(u:Up w w')(hr:r=w.heap.size):Stp (Lr b kv) (Kg b r kv []) w w':=⟨u.fr _,h,fun i hi=>hi.elim (fun e=>.inl e) (fun e=>.inr oQ)⟩
theorem Qm{P:Program}{b r:Nat}{kv:List (List UInt8×Value)}{done:List (List UInt8)}{k:List UInt8}{u:Value}{w w':World}(h:Ms.NextTo P w w' b r kv done k u):Stp (Kg b r kv done) (Kg b r kv (done++[k])) w w':=⟨h.sto.fr.mono (fun i(e:i=r)=>.inr e),h.rng,fun _ h=>.inl h⟩
end Ms
theorem Wg{As:List Asr}{A A':Asr}{w w':World}{j:Nat}(h:(Df As).holds w)(hj:As[j]?=some A)(s:Stp A A' w w'):Stp (Df As) (Df (As.set j A')) w w':=by
 have:=(Ny h).F9 j hj s
 rw[←dv (As.set j A')]at this
 exact Jh this
theorem Wh{α β:Type}(a:α)(b:β):∀(l:List α)(r:List β)(j:Nat),(l.set j a).zip (r.set j b)=(l.zip r).set j (a,b)
 |[],r,j=>by simp
 |x::l,[],j=>by cases j<;>simp
 |x::l,y::r,0=>rfl
 |x::l,y::r,j+1=>by
   rw[f8,f8,List.zip_cons_cons,List.zip_cons_cons,f8,Wh a b l r j]
def lists{α:Type}(e k:Nat)(enc:α→Array Value)(vs:List Value)(xss:List (List α)):List Asr:=(vs.zip xss).map fun p=>Az e k enc p.1 p.2
theorem K6{α:Type}{e k:Nat}{enc:α→Array Value}{vs:List Value}{xss:List (List α)}{j:Nat}{v:Value}{xs:List α}(hv:vs[j]?=some v)(hx:xss[j]?=some xs):(lists e k enc vs xss)[j]?=some (Az e k enc v xs):=by
 unfold lists
 rw[eh]
 have:(vs.zip xss)[j]?=some (v,xs):=by rw[List.getElem?_zip_eq_some];exact⟨hv,hx⟩
 rw[this];rfl
theorem N2{α:Type}{e k:Nat}{enc:α→Array Value}{vs:List Value}{xss:List (List α)}{j:Nat}{v:Value}{xs:List α}:(lists e k enc vs xss).set j (Az e k enc v xs)=lists e k enc (vs.set j v) (xss.set j xs):=by
 unfold lists
 have:(vs.set j v).zip (xss.set j xs)=(vs.zip xss).set j (v,xs):=Wh v xs vs xss j
 rw[this,List.map_set]
theorem I5{α:Type}{e k:Nat}{enc:α→Array Value}{vs:List Value}{xss:List (List α)}{w:World}{j:Nat}{v:Value}{xs:List α}(h:(Df (lists e k enc vs xss)).holds w)(hv:vs[j]?=some v)(hx:xss[j]?=some xs):OwnS w 0 e k enc v xs:=h.1 _ (ae (K6 hv hx))
theorem Te{α:Type}{e k:Nat}{enc:α→Array Value}{vs:List Value}{xss:List (List α)}{w:World}(h:(Df (lists e k enc vs xss)).holds w)(hl:vs.length=xss.length):∀v∈vs,v.oneCell'=true:=fun v hv=>by
 obtain⟨j,hj⟩:=dr.1 hv
 have hlt:=(ak.1 hj).1
 obtain⟨xs,hx⟩:=An (xs:=xss) (i:=j) oQ
 exact(I5 h hj hx).one
theorem eK{α:Type}(e k:Nat)(enc:α→Array Value)(n:Nat)(w:World):(Df (lists e k enc (List.replicate n (.slice none 0 0)) (List.replicate n ([]:List α)))).holds w∧∀i,¬(Df (lists e k enc (List.replicate n (.slice none 0 0)) (List.replicate n ([]:List α)))).foot i:=by
 have key:∀A∈lists e k enc (List.replicate n (.slice none 0 0)) (List.replicate n ([]:List α)),A=Az e k enc (.slice none 0 0) []:=fun A hA=>by
   unfold lists at hA
   obtain⟨⟨v,xs⟩,hp,rfl⟩:=bj.1 hA
   have:=List.of_mem_zip hp
   rw[List.eq_of_mem_replicate this.1,List.eq_of_mem_replicate this.2]
 refine⟨⟨fun A hA=>by rw[key A hA];exact OwnS.nil _ _ _ _ _,dw.2 fun i j hi hj _ x hx=>by
   rw[key _ (List.getElem_mem hi)]at hx;cases hx⟩,fun i⟨A,hA,hi⟩=>by rw[key A hA]at hi;cases hi⟩
end Go.Wx
namespace Go.Wx
def Jy(b:Bool):Array Value:=#[.bool b]
theorem jG{α:Type}{enc:α→Array Value}{x0:α}{u:Value}{w:World}{B:Nat}{e:TypeId}{m:Nat}(h1:enc x0=#[u])(hB:Blk w B (List.replicate m u).toArray e)(hm:m≤maxLen):OwnS w 0 e 1 enc (.slice (some ⟨B,0,none⟩) m m) (List.replicate m x0):=by
 have hf:((List.replicate m x0).flatMap fun x=>(enc x).toList)=List.replicate m u:=by
   clear hB hm
   induction m with
   |zero=>rfl
   |succ m ih=>rw[List.replicate_succ,cd,ih,h1,List.replicate_succ];rfl
 have h:OwnS w 0 e 1 enc (.slice (some ⟨B,0,none⟩) (List.replicate m x0).length m) (List.replicate m x0):=by
   refine⟨by rw[hf];simp,.inr ⟨B,m,(List.replicate m u).toArray,rfl,au _,hB,by simp,hm,by simp,?_⟩⟩
   rw[hf]
   simp
 rw[fk]at h
 exact h
section
variable {P:Program}{n:Nat}{ds:List Deferred}{l:Env}{w:World}{d:Option Tmp}{ty:TypeId}{ps:String}{af:Array Edge}{g:Option (Nat×Bool)}
theorem REv.jH{α:Type}{enc:α→Array Value}{x0:α}{u:Value}{T e:TypeId}{i:TypeInfo}{x y:Operand}{m:Nat}(h1:enc x0=#[u])(hc:u.cells=#[u])(hT:P.underlying T=some (.slice e))(hi:P.info? e=some i)(hz:i.zero=some u)(hs:i.size=1)(hb:i.bytes≤8)(hx:Val l x (vi (m:Int)))(hy:Val l y (vi (m:Int)))(hm:m≤1000):
   REv P n ds l w ⟨d,.makeSlice T x y,ty,ps,af,g⟩ (fun v w'=>Up w w'∧∃B,w.heap.size≤B∧v=.slice (some ⟨B,0,none⟩) m m∧OwnS w' 0 e 1 enc (.slice (some ⟨B,0,none⟩) m m) (List.replicate m x0)):=fun a ha=>by
 have hr2:=run_make (P:=P) w T e i u hT hi hz .i64 .i64 (m:Int) (m:Int) oQ (i8 _) (by have h:=Nat.mul_le_mul hb hm;omega) oQ
 rw[hs,ez,ip]at hr2
 have e1:madeCells u.cells m=(List.replicate m u).toArray:=by
   apply g_
   rw[hc,toList_madeCells_one]
 rw[e1]at hr2
 have N:=New.alloc w (List.replicate m u).toArray e
 exact⟨_,_,Ct (by rw[ha.ev hx,ha.ev hy];exact hr2),N.up,_,by rw[N.at_];exact a8 _,rfl,jG h1 N.blk (by unfold maxLen;omega)⟩
theorem REv.rA{α:Type}{enc:α→Array Value}{x0:α}{u:Value}{T e:TypeId}{i:TypeInfo}{x y:Operand}(h1:enc x0=#[u])(hc:u.cells=#[u])(hT:P.underlying T=some (.slice e))(hi:P.info? e=some i)(hz:i.zero=some u)(hs:i.size=1)(hb:i.bytes≤8)(hx:Val l x (vi 3))(hy:Val l y (vi 3)):
 REv P n ds l w ⟨d,.makeSlice T x y,ty,ps,af,g⟩ (fun v w'=>Up w w'∧∃B,w.heap.size≤B∧v=.slice (some ⟨B,0,none⟩) 3 3∧OwnS w' 0 e 1 enc (.slice (some ⟨B,0,none⟩) 3 3) (List.replicate 3 x0)):=REv.jH h1 hc hT hi hz hs hb hx hy cQ
end
def cF(k:Nat):List Bool:=[false,decide (1≤k),decide (2≤k)]
theorem Ma{P:Program}{n:Nat}{ds:List Deferred}{l:Env}{w:World}{d:Option Tmp}{ty:TypeId}{ps:String}{af:Array Edge}{g:Option (Nat×Bool)}{T T' e:TypeId}{x:Operand}{p:Option Addr}(hT:P.underlying T=some (.pointer e))(hx:Val l x (.pointer p)):PEv P n ds l w ⟨d,.binOp .neq T x (.const (.pointer none)) T',ty,ps,af,g⟩ (.bool p.isSome):=fun a w' ha _=>by
 refine Ct ?_
 have e1:a.eval (.const (.pointer none))=.pointer none:=rfl
 rw[ha.ev hx,e1,Sem.run_bind]
 have:(eqGuard .neq T x (.const (.pointer none)) (.pointer p) (.pointer none)).run P w'=.ok () w':=by unfold eqGuard;rfl
 rw[this]
 have hp:P.pointee T=e:=by unfold Program.pointee;rw[hT]
 have h:=run_neq_pointer_nil w' T p (by rw[hp];exact hT)
 cases p<;>exact h
def Zu(k j:Nat):Ordering:=if j=0∨(k=0∧j=2)then .lt else if(k=0∧j=1)∨(k=1∧j=2)then .eq else .gt
def eM(k j:Nat):Int:=if k=0∧2≤j then 1 else if k=1∧3≤j then 2 else -1
def jI(b1 k:Nat)(b2:Nat):List (Option Nat):=[.none,some b1,if k=0 then .none else some b2]
theorem rZ{b1 b2 k j:Nat}(hj:j<3)(h:Zu k j=.lt):(jI b1 k b2)[j]?=some .none∧eM k (j+1)=eM k j:=by
 unfold Zu at h
 split at h
 · rename_i h1
   rcases h1 with rfl|⟨rfl,rfl⟩
   · refine⟨rfl,?_⟩
     unfold eM
     rw[am oQ,am oQ,am oQ,am (by omega)]
   exact⟨rfl,rfl⟩
 split at h<;>cases h
theorem sA{b1 b2 k j:Nat}(h:Zu k j=.eq):(∃b,(jI b1 k b2)[j]?=some (some b))∧(cF k)[j]?=some false∧eM k j= -1∧eM k (j+1)=(j:Int):=by
 unfold Zu at h
 split at h
 · cases h
 split at h
 · rename_i h1
   rcases h1 with⟨rfl,rfl⟩|⟨rfl,rfl⟩
   · exact⟨⟨_,rfl⟩,rfl,rfl,rfl⟩
   exact⟨⟨_,rfl⟩,rfl,rfl,rfl⟩
 cases h
theorem sB{b1 b2 k j:Nat}(hj:j<3)(hk:k≤2)(h:Zu k j=.gt):(∃b,(jI b1 k b2)[j]?=some (some b))∧(cF k)[j]?=some true∧eM k (j+1)=eM k j:=by
 have:(k=1∧j=1)∨(k=2∧j=1)∨(k=2∧j=2):=by
   unfold Zu at h
   split at h
   · cases h
   split at h
   · cases h
   omega
 rcases this with⟨rfl,rfl⟩|⟨rfl,rfl⟩|⟨rfl,rfl⟩<;>exact⟨⟨_,rfl⟩,rfl,rfl⟩
def Zv(b1:Nat)(z:Option Nat):List (Option Nat):=[.none,some b1,z]
theorem sC{b1 k:Nat}{z:Option Nat}(hz:(k=0∧z=.none)∨(1≤k∧z.isSome=true)):∃b2,Zv b1 z=jI b1 k b2:=by
 rcases hz with⟨rfl,rfl⟩|⟨h,hz⟩
 · exact⟨0,rfl⟩
 obtain⟨b2,rfl⟩:=fu.1 hz
 exact⟨b2,by unfold Zv jI;rw[am (by omega)]⟩
theorem nQ{k:Nat}(hk:k≤2)(h:eM k 3<0):k=2:=match k,hk,h with
 |0,_,h=>absurd h cQ
 |1,_,h=>absurd h cQ
 |2,_,_=>rfl
 |k+3,h,_=>by omega
theorem sD{k:Nat}(hk:k≤2)(h:¬eM k 3<0):k<2:=match k,hk,h with
 |0,_,_=>by decide
 |1,_,_=>by decide
 |2,_,h=>absurd cQ h
 |k+3,h,_=>by omega
theorem PEv.Uv{P:Program}{n:Nat}{ds:List Deferred}{l:Env}{w:World}{d:Option Tmp}{ty:TypeId}{ps:String}{af:Array Edge}{g:Option (Nat×Bool)}{T T' e:TypeId}{x:Operand}{ad:Option Addr}{m c:Nat}(hT:P.underlying T=some (.slice e))(hx:Val l x (.slice ad m c)):PEv P n ds l w ⟨d,.binOp .eql T x (.const (.slice none 0 0)) T',ty,ps,af,g⟩ (.bool ad.isNone):=fun a w' ha _=>by
 refine Ct ?_
 have e1:a.eval (.const (.slice none 0 0))=.slice none 0 0:=rfl
 rw[ha.ev hx,e1,Sem.run_bind]
 have:(eqGuard .eql T x (.const (.slice none 0 0)) (.slice ad m c) (.slice none 0 0)).run P w'=.ok () w':=by unfold eqGuard;rfl
 rw[this]
 exact Lib.run_eql_slice_nil w' T e ad m c 0 0 hT
theorem yG(k:Nat):eM k 0= -1:=by
 unfold eM
 rw[am oQ,am (by omega)]
end Go.Wx
namespace Go.Proofs.YtnocngnlpgikaaaGreatDoor
open Go.Proofs.Tryz
open Go.Wx Go.RowKit
theorem Jl(ad:Option Addr)(cp:Nat)(l:List Int)(w:World)(hE0:Els w ad 1 A6 l)(hl:l.length≤1000000000):Ret prog 169 #[.slice ad l.length cp] w fun r w'=>OwnS w' w.heap.size 3 1 A6 r l∧Up w w':=by
 obtain⟨w0,rfl,hS⟩:=W0 w
 refine cT 8 func169 rfl (Ae (Ay (Am (Ae (I rfl (U (.Uv ju (.t rfl)) (Af (CW.b rfl (fun h4=>?_) (fun h4=>?_)))))))))
 ·have hnil:l=[]:=by cases l with|nil=>rfl|cons x r=>(obtain⟨B,o,e,_⟩:=hE0 0 x rfl;rw[e]at h4;cases h4)
  refine Ae (Ay (Af (Al (Au (KW.q ?_)))))
  (subst hnil;exact⟨OwnS.nil _ _ _ _ _,hS.Cl⟩)
 refine Ai (Ac (Ae (Aq (.buildSlice (xs:=([]:List Int)) (enc:=A6) (mk:=vi) ju jw j2 rfl cQ (fun _=>rfl) (fun _=>rfl) .nil rfl) rfl ?_)))
 intro v5 w1 hN5
 obtain⟨uw1,B5,rfl,hO5⟩:=Yw hN5 (a8 _)
 replace hS:=hS.add uw1 (A':=Az 3 1 A6 (.slice (some ⟨B5,0,none⟩) 0 0) ([]:List Int)) (hO5.mono (au _)) (fun i h=>hO5.base i h)
 refine I rfl (Aq (.D7 (enc:=A6) (bytes:=8) (i:=Tryz.t3) ju kQ rfl rfl rfl rfl cQ (fun _=>rfl) Fq (.t rfl) (.t rfl) (hS.own 0 rfl) (Aw (Els.up hE0 hS.Cl)) (by simp[maxLen];omega) (by simp;omega)) rfl ?_)
 intro v7 w2 Gw2
 replace hS:=hS.F9 0 rfl Gw2
 refine LW.A rfl (Af (Al (KW.q ?_)))
 exact⟨(hS.own 0 rfl).Jk (fun i h=>(hS.foot 0 rfl i h).resolve_left (fun h=>h)),hS.Cl⟩
theorem Wi(sa wa:Option Addr)(sc wc:Nat)(s0 s1 s2:Sk)(w:World)(hF:FlE w sa wa s0 s1 s2):Ret prog 168 #[.agg (Lp sa sc wa wc),vi 0] w fun r w'=>∃go b1 b2 a c,r=.slice (some ⟨go,0,none⟩) 3 3∧Els w' (some ⟨go,0,none⟩) 1 gY [.none,some b1,some b2]∧Blk w' b2 (L8 14 a 1 c) 226∧Els w' a 1 A6 [1]∧Up w w':=by
 obtain⟨w0,rfl,hS⟩:=W0 w
 refine cT 109 func168 rfl (Ae (Aq (.bA rfl) rfl ?_))
 rintro _ w1 ⟨B2,rfl,NB2⟩
 have eB2:=NB2.at_
 have zB2:=NB2.size
 replace hS:=hS.Cc NB2
 refine Ay (Am (Aa (U (.fB 2 rfl) (U (.lb rfl (hS.b0.Ad rfl)) (U (.Cn j0 (.t rfl)) (Aq (.rA (enc:=gY) (x0:=.none) (i:=Tryz.t221) rfl rfl ky kQ rfl rfl cQ (.t rfl) (.t rfl)) rfl ?_))))))
 rintro _ w2 ⟨uM,go,zM,rfl,hOM⟩
 replace hS:=hS.add uM (A':=Az 221 1 gY (.slice (some ⟨go,0,none⟩) 3 3) (List.replicate 3 .none)) hOM (fun i h=>by cases h;exact zM)
 refine Aq (.F6 zeroValue222 rfl) rfl ?_
 rintro _ w3 ⟨B5,rfl,MB5⟩
 refine Cb (.store sizeOf222 (.t rfl) (.t rfl) rfl MB5.blk cQ) ?_
 intro w4 LB5
 have NB5:=MB5.set LB5
 replace hS:=hS.Cc NB5
 refine Am (Aa (U (.fB 2 rfl) (U (.lb rfl (hS.b0.Ad rfl)) (U (.Cn j0 (.t rfl)) (Aq (.rA (enc:=Jy) (x0:=false) (i:=Tryz.t4) rfl rfl j8 kQ rfl rfl cQ (.t rfl) (.t rfl)) rfl ?_)))))
 rintro _ w5 ⟨uM,gd,zM,rfl,hOM⟩
 replace hS:=hS.add uM (A':=Az 4 1 Jy (.slice (some ⟨gd,0,none⟩) 3 3) (List.replicate 3 false)) hOM (fun i h=>by cases h;exact zM)
 refine LW.A rfl (Am (Aa (Aq (.F6 zeroValue282 rfl) rfl ?_)))
 rintro _ w6 ⟨B7,rfl,MB7⟩
 refine Cb (.store sizeOf282 (.t rfl) (.func _) rfl MB7.blk cQ) ?_
 intro w7 LB7
 have NB7:=MB7.set LB7
 replace hS:=hS.Cc NB7
 refine Am (Aa (U (.makeFunc (.ct rfl (.cu rfl))) (LW.A rfl (Am ?_))))
 obtain⟨Bs,os,as_,hcs⟩:=hF.E 0 s0 rfl
 refine Cz 9 kQ kQ kQ kQ kQ rfl rfl (J (.mv rfl) (J (.fB 0 rfl) (J (.lb rfl (hS.b0.Ad rfl)) (J (.build (cs:=(L8 2 none 0 0)) md zeroValue226 Gm (.cu rfl) rfl) (J (.fB 2 rfl) (J (.lb rfl (hS.b0.Ad rfl)) (J (.mv rfl) (J (.Ar j0 kh (j:=0) (.t rfl) (.t rfl) cQ as_) (J (.lc rfl ((hcs.up hS.Cl))) (HW.nil ?_))))))))))
 intro w8 uw8
 replace hS:=hS.up uw8
 replace hS:=hS.Ea 2 rfl
 replace hS:=hS.Ea 1 rfl
 have hq_:=(show Wx.Sep _ _ _ ([_,_,_]++[_,_])from hS)
 refine A3 (Cr (f:=224) (lb:=#[.pointer (some ⟨B5,0,none⟩),.pointer (some ⟨B7,0,none⟩)]) (.t rfl) (.ct rfl (.cu rfl)) (iO)) rfl (L9 B5 go 3 _ 2 none 0 0 s0 1 B7 _ (Els.up (hF.p s0 (by simp)).2 hS.Cl) (hF.g s0 (by simp)).bk (hF.g s0 (by simp)).nx.1 (by rw[hF.n0];simp) cQ rfl (fun hne B o e h=>by obtain⟨A_,hA_,hi_⟩:=h;have h1_:=((hq_.right.each A_ hA_).2 B hi_).resolve_left (fun h=>h);have h2_:=Po (hF.p s0 (by simp)).2 hne e;omega) hq_.right.self) ?_
 rintro _ w9 ⟨z1,uw9,hz1⟩
 replace hS:=hq_.frame uw9
 obtain⟨_,hz1⟩:=hz1.resolve_left (fun h=>by rw[hF.n0]at h;cases h.1)
 obtain⟨b1,rfl⟩:=fu.1 hz1
 replace hS:=(hS.add (Up.refl _) (A':=eJ) trivial (fun i h=>h.elim)).M2 (OwnS.nil _ 0 3 1 A6)
 refine Af (Ah (A5 (σ:=Nat×Option Nat×Option Addr×Nat) (fun s w=>(s.1≤2)∧((s.1=0∧s.2.1=.none)∨(1≤s.1∧s.2.1.isSome=true))∧(Wx.Sep no w0 w [A4 B2 (Lp sa sc wa wc) 28,Az 4 1 Jy (.slice (some ⟨gd,0,none⟩) 3 3) (cF s.1),A4 B7 #[.func (.func 223) #[] #[]] 282,A4 B5 #[.slice (some ⟨go,0,none⟩) 3 3] 222,Az 221 1 gY (.slice (some ⟨go,0,none⟩) 3 3) (Zv b1 (s.2.1)),A4 b1 (L8 2 none 0 0) 226,nP (L8 14 (s.2.2.1) 1 (s.2.2.2)) 226 (s.2.1),Az 3 1 A6 (if s.1=0 then .slice none 0 0 else .slice (s.2.2.1) 1 (s.2.2.2)) (if s.1=0 then[]else[1])])) (fun s=>[]) ([(2,.eq _),(5,.eq _),(6,.eq _),(7,.eq _),(8,.eq _)]) (fun s=>3-s.1) (0,.none,.none,0) ?_ tQ ?_))
 ·exact⟨au _,.inl ⟨rfl,rfl⟩,hS⟩
 rintro⟨k,z,a,c⟩ w10 ⟨hk,hz,hS⟩
 dsimp only at hk hz hS
 refine Ah (Ae (U (.Ez (v':=vi (eM k 0)) (PEv.assign (.const _)) (by rw[yG])) (Am (Ae (U (.lb rfl (hS.b3.Ad rfl)) (U (.Cn ky (.t rfl)) (U (.move (.const _)) (Af (Ah (A5 (σ:=Nat) (fun s w=>(s≤3)∧(Wx.Sep no w0 w [A4 B2 (Lp sa sc wa wc) 28,Az 4 1 Jy (.slice (some ⟨gd,0,none⟩) 3 3) (cF k),A4 B7 #[.func (.func 223) #[] #[]] 282,A4 B5 #[.slice (some ⟨go,0,none⟩) 3 3] 222,Az 221 1 gY (.slice (some ⟨go,0,none⟩) 3 3) (Zv b1 (z)),A4 b1 (L8 2 none 0 0) 226,nP (L8 14 (a) 1 (c)) 226 (z),Az 3 1 A6 (if k=0 then .slice none 0 0 else .slice (a) 1 (c)) (if k=0 then[]else[1])])) (fun s=>[(33,.eq (vi (s:Int))),(9,.eq (vi (eM k s)))]) ([(2,.eq _),(5,.eq _),(6,.eq _),(7,.eq _),(8,.eq _),(31,.eq _),(32,.eq _)]) (fun s=>3-s) 0 ?_ tQ ?_))))))))))
 ·exact⟨au _,hS⟩
 rintro j w11 ⟨hj,hS⟩
 refine Ae (U (.l2 rfl rfl) (Am (CW.b rfl (fun h34=>?_) (fun h34=>?_))))
 ·replace h34:=dQ h34
  refine Ai (Ac (Ak (Ah (Ak ?_))))
  have hj3:j<3:=cz.1 h34
  obtain⟨b2,hb2⟩:=sC (b1:=b1) hz
  obtain⟨x,hxj⟩:=An (xs:=Zv b1 z) (i:=j) hj3
  obtain⟨Bo,oo,ao,hco⟩:=(Cm (hS.own 4 rfl) (fun _=>rfl)) j x hxj
  cases ao
  refine Aa (I rfl (U (.Ar ky l4 (j:=j) (.t rfl) (.t rfl) oQ rfl) (U (.lb rfl (hco.nth (j:=0) rfl)) (LW.A rfl (LW.A rfl (Am ?_))))))
  cases hq10:Zu k j with
  |lt=>
   obtain⟨e1,e2⟩:=rZ (b1:=b1) (b2:=b2) hj3 hq10
   rw[←hb2]at e1
   cases cr (hxj.symm.trans e1)
   refine C7 kQ kQ rfl rfl (J (.mv rfl) (J (.fa (Ma l7 (.t rfl)) (rfl)) (J (.mv rfl) (Dq (Dq (Dq (Dq (Dq (J (.fa (PEv.C0 (b:=false) (.t rfl) (fun hp=>absurd (show false=true from hp) cQ)) (rfl)) (J (.mv rfl) (Dq (Dq (Dq (Ef rfl rfl rfl rfl rfl (Ef rfl rfl rfl rfl rfl (Ef rfl rfl rfl rfl rfl (Ef rfl rfl rfl rfl rfl (Ef rfl rfl rfl rfl rfl (Ef rfl rfl rfl rfl rfl (Ef rfl rfl rfl rfl rfl (Ef rfl rfl rfl rfl rfl (Ef rfl rfl rfl rfl rfl (Ef rfl rfl rfl rfl rfl (Ef rfl rfl rfl rfl rfl (Ef rfl rfl rfl rfl rfl (Dq (J (.fa (PEv.C0 (b:=false) (.t rfl) (fun hp=>absurd (show false=true from hp) cQ)) (rfl)) (HW.nil ?_))))))))))))))))))))))))))))
   intro w12 uw12
   replace hS:=hS.up uw12
   refine Ac (CW.f rfl (Ai (Aj (Ac (Aa (U (.ic rfl oQ) (I rfl (LW.nil (Av ?_)))))))))
   exact⟨j+1,⟨by omega,hS.take 8⟩,⟨rfl,by rw[e2];rfl,rfl,rfl,rfl,rfl,rfl,rfl,rfl,trivial⟩,by omega⟩
  |eq=>
   obtain⟨⟨b,e1⟩,ed,e0,e2⟩:=sA (b1:=b1) (b2:=b2)  hq10
   rw[←hb2]at e1
   cases cr (hxj.symm.trans e1)
   obtain⟨Bd,od,ad_,hcd⟩:=(Cm (hS.own 1 rfl) (fun _=>rfl)) j _ ed
   cases ad_
   refine C7 kQ kQ rfl rfl (J (.mv rfl) (J (.tr (Ma l7 (.t rfl)) (rfl)) (J (.mv rfl) (Cv (.mv rfl) (Cv (.mv rfl) (Cv (.Ar j8 km (j:=j) (.t rfl) (.t rfl) oQ rfl) (Cv (.lb rfl (hcd.nth (j:=0) rfl)) (Cv (.tr (PEv.n1 rfl) (rfl)) (J (.tr (PEv.pa rfl (fun hp=>(by exact .tmp rfl))) (rfl)) (J (.mv rfl) (Cv (.mv rfl) (Cv (.tr (PEv.lss (.t rfl) (.const _)) (by rw[e0];rfl)) (Cv (.mv rfl) (Dq (Dq (Dq (Dq (Dq (Dq (Dq (Dq (Dq (Dq (Dq (Dq (Cv (.tr (PEv.D5 (b:=false) (.t rfl) (fun hp=>absurd (show true=false from hp) cQ)) (rfl)) (J (.tr (PEv.pa rfl (fun hp=>(by exact .tmp rfl))) (rfl)) (HW.nil ?_))))))))))))))))))))))))))))
   intro w13 uw13
   replace hS:=hS.up uw13
   refine Ac (CW.v rfl (Aa (I rfl (LW.A rfl (LW.nil (Aj (Ac (Aa (U (.ic rfl oQ) (I rfl (LW.nil (Av ?_))))))))))))
   exact⟨j+1,⟨by omega,hS.take 8⟩,⟨rfl,by rw[e2];rfl,rfl,rfl,rfl,rfl,rfl,rfl,rfl,trivial⟩,by omega⟩
  |gt=>
   obtain⟨⟨b,e1⟩,ed,e2⟩:=sB (b1:=b1) (b2:=b2) hj3 hk hq10
   rw[←hb2]at e1
   cases cr (hxj.symm.trans e1)
   obtain⟨Bd,od,ad_,hcd⟩:=(Cm (hS.own 1 rfl) (fun _=>rfl)) j _ ed
   cases ad_
   refine C7 kQ kQ rfl rfl (J (.mv rfl) (J (.tr (Ma l7 (.t rfl)) (rfl)) (J (.mv rfl) (Cv (.mv rfl) (Cv (.mv rfl) (Cv (.Ar j8 km (j:=j) (.t rfl) (.t rfl) oQ rfl) (Cv (.lb rfl (hcd.nth (j:=0) rfl)) (Cv (.fa (PEv.n1 rfl) (rfl)) (J (.fa (PEv.pa rfl (fun hp=>(by exact .tmp rfl))) (rfl)) (J (.mv rfl) (Dq (Dq (Dq (Ef rfl rfl rfl rfl rfl (Ef rfl rfl rfl rfl rfl (Ef rfl rfl rfl rfl rfl (Ef rfl rfl rfl rfl rfl (Ef rfl rfl rfl rfl rfl (Ef rfl rfl rfl rfl rfl (Ef rfl rfl rfl rfl rfl (Ef rfl rfl rfl rfl rfl (Ef rfl rfl rfl rfl rfl (Ef rfl rfl rfl rfl rfl (Ef rfl rfl rfl rfl rfl (Ef rfl rfl rfl rfl rfl (Dq (J (.fa (PEv.C0 (b:=false) (.t rfl) (fun hp=>absurd (show false=true from hp) cQ)) (rfl)) (HW.nil ?_))))))))))))))))))))))))))))
   intro w14 uw14
   replace hS:=hS.up uw14
   refine Ac (CW.f rfl (Ai (Aj (Ac (Aa (U (.ic rfl oQ) (I rfl (LW.nil (Av ?_)))))))))
   exact⟨j+1,⟨by omega,hS.take 8⟩,⟨rfl,by rw[e2];rfl,rfl,rfl,rfl,rfl,rfl,rfl,rfl,trivial⟩,by omega⟩
 replace h34:=dQ h34
 refine A8 (Ab (Ab (Ao (Ac (Ak (Ak ?_))))))
 have hj3:j=3:=by have:¬j<3:=fun h=>h34 (cz.2 h);omega
 subst hj3
 refine Aa (I rfl (U (.lss (.t rfl) (.const _)) (Af (CW.b rfl (fun h68=>?_) (fun h68=>?_)))))
 ·replace h68:=dQ h68
  have hk2:k=2:=nQ hk h68
  subst hk2
  obtain⟨b2,rfl⟩:=fu.1 (hz.resolve_left (fun h=>absurd h.1 cQ)).2
  refine Ae (U (.lb rfl (hS.b3.Ad rfl)) (LW.A rfl (Af (Al (Au (A7 (Au (A7 (KW.q ?_)))))))))
  exact⟨go,b1,b2,a,c,rfl,Cm (hS.own 4 rfl) (fun _=>rfl),hS.blk 6 rfl,Cm (hS.own 7 rfl) (fun _=>rfl),hS.Cl⟩
 replace h68:=dQ h68
 have hk1:k<2:=sD hk h68
 refine Ai (Ac (Ak ?_))
 cases k with
 |zero=>
  obtain rfl:z=.none:=hz.elim (fun h=>h.2) (fun h=>by omega)
  obtain⟨Bs,os,as_,hcs⟩:=hF.E 1 s1 rfl
  have hmn:s1.mn=10:=(hF.g s1 (by simp)).mn
  refine Aa (I rfl (I rfl (U (.Ar j8 km (j:=1) (k:=3) (.t rfl) (.t rfl) cQ rfl) (Cb (.Hy (enc:=Jy) (k:=1) (z:=true) (i:=1) (j:=0) km (fun _=>rfl) rfl (.t rfl) (.const _) (hS.own 1 rfl) (x0:=false) rfl cQ rfl) ?_))))
  intro w15 Gw15
  replace hS:=hS.F9 1 rfl Gw15
  refine Af (V9 35 28 [25,27] [29] (.eq (.func (.func 224) #[] #[.pointer (some ⟨B5,0,none⟩),.pointer (some ⟨B7,0,none⟩)])::.eq (.slice (some ⟨go,0,none⟩) 3 3)::.eq (vi 1)::.eq (.pointer (some ⟨go,0+1*1,none⟩))::.eq (.pointer (some ⟨b1,0,none⟩))::.eq (.pointer (some ⟨b1,0,none⟩))::.eq (.pointer (some ⟨b1,0,none⟩))::.eq (vi 2)::.eq (.pointer (some ⟨B2,2,none⟩))::.eq (.slice sa 3 sc)::.eq (vi 1)::.eq (.pointer (some ⟨Bs,os+1*7,none⟩))::.eq (.pointer (some ⟨Bs,os+1*7+2,none⟩))::.eq (vi 10)::.eq (vi 12)::.eq (.pointer (some ⟨B2,0,none⟩))::.eq (vi 2)::.eq (vi 14)::.eq (.slice (some ⟨go,0,none⟩) 3 3)::.eq (vi 1)::.eq (.pointer (some ⟨go,0+1*1,none⟩))::.eq (.pointer (some ⟨b1,0,none⟩))::.eq (.pointer (some ⟨b1,0,none⟩))::.eq (.pointer (some ⟨b1,1,none⟩))::.eq (.slice none 0 0)::(.pred fun v W=>OwnS W w15.drew.heap.size 3 1 A6 v ([]:List Int))::.eq (vi 1)::(.pred fun v W=>Sl W v 1 A6 [1])::(.pred fun v W=>OwnS W w15.drew.heap.size 3 1 A6 v ([1]:List Int))::(.pred fun v W=>∃ad c,v=.agg (L8 14 ad 1 c)∧OwnS W w15.drew.heap.size 3 1 A6 (.slice ad 1 c) ([1]:List Int))::.eq (.pointer (some ⟨B2,2,none⟩))::.eq (.slice sa 3 sc)::.eq (vi 1)::.eq (.pointer (some ⟨Bs,os+1*7,none⟩))::.eq (.agg s1.cells)::[]) [73,102,107] (fun _ _=>True) kQ rfl kQ kQ kQ kQ kQ kQ kQ kQ kQ kQ ⟨ml,ml,ml,ml,ml,ml,ml,ml,ml,ml,ml,ml,ml,ml,ml,ml,ml,ml,ml,ml,ml,ml,ml,ml,ml,PhU.pred fun _ _ _ h u=>OwnS.up h u,ml,PhU.pred fun _ _ _ h u=>Sl.up h u,PhU.pred fun _ _ _ h u=>OwnS.up h u,PhU.pred fun _ _ _ h u=>let⟨ad,c,e,ho⟩:=h;⟨ad,c,e,ho.up u⟩,ml,ml,ml,ml,ml,trivial⟩ ⟨.inr (fun _ _ _ h _=>h),.inr (fun _ _ _ h _=>h),.inr (fun _ _ _ h _=>h),.inr (fun _ _ _ h _=>h),.inr (fun _ _ _ h _=>h),.inr (fun _ _ _ h _=>h),.inr (fun _ _ _ h _=>h),.inr (fun _ _ _ h _=>h),.inr (fun _ _ _ h _=>h),.inr (fun _ _ _ h _=>h),.inr (fun _ _ _ h _=>h),.inr (fun _ _ _ h _=>h),.inr (fun _ _ _ h _=>h),.inr (fun _ _ _ h _=>h),.inr (fun _ _ _ h _=>h),.inr (fun _ _ _ h _=>h),.inr (fun _ _ _ h _=>h),.inr (fun _ _ _ h _=>h),.inr (fun _ _ _ h _=>h),.inr (fun _ _ _ h _=>h),.inr (fun _ _ _ h _=>h),.inr (fun _ _ _ h _=>h),.inr (fun _ _ _ h _=>h),.inr (fun _ _ _ h _=>h),.inr (fun _ _ _ h _=>h),.inl rfl,.inr (fun _ _ _ h _=>h),.inl rfl,.inl rfl,.inl rfl,.inr (fun _ _ _ h _=>h),.inr (fun _ _ _ h _=>h),.inr (fun _ _ _ h _=>h),.inr (fun _ _ _ h _=>h),.inr (fun _ _ _ h _=>h),trivial⟩ ?_ ?_)
  ·intro W hU0
   have hU:=(Up.drew w15).trans hU0
   have hSW:=hS.up hU
   have zU0:=hU0.size
   obtain⟨Bg,og,ag,hcg⟩:=(Cm (hSW.own 4 rfl) (fun _=>rfl)) 1 (some b1) rfl
   cases ag
   have hEL:Els W none 1 A6 ([]:List Int):=fun i x h=>by simp at h
   refine aC ⟨rfl,fun _=>TU.p (.mv rfl) rfl,fun h=>absurd h cQ⟩ (aC ⟨rfl,fun _=>TU.p (.lb rfl (hSW.b3.Ad rfl)) rfl,fun h=>absurd h cQ⟩ (aC ⟨rfl,fun _=>TU.p (.mv rfl) rfl,fun h=>absurd h cQ⟩ (aC ⟨rfl,fun _=>TU.p (.Ar (j:=1) ky l4 (.t rfl) (.t rfl) cQ rfl) rfl,fun h=>absurd h cQ⟩ (aC ⟨rfl,fun _=>TU.p (.lb rfl (AggAt.nth (j:=0) hcg rfl)) rfl,fun h=>absurd h cQ⟩ (aC ⟨rfl,fun _=>TU.p (.nc rfl) rfl,fun h=>absurd h cQ⟩ (aC ⟨rfl,fun _=>TU.p (.fB 0 rfl) rfl,fun h=>absurd h cQ⟩ (aC ⟨rfl,fun _=>TU.p (.lb rfl (hSW.b5.Ad rfl)) rfl,fun h=>absurd h cQ⟩ (aC ⟨rfl,fun _=>TU.p (.fB 2 rfl) rfl,fun h=>absurd h cQ⟩ (aC ⟨rfl,fun _=>TU.p (.lb rfl (hSW.b0.Ad rfl)) rfl,fun h=>absurd h cQ⟩ (aC ⟨rfl,fun _=>TU.p (.mv rfl) rfl,fun h=>absurd h cQ⟩ (aC ⟨rfl,fun _=>TU.p (.Ar (j:=1) j0 kh (.t rfl) (.t rfl) cQ as_) rfl,fun h=>absurd h cQ⟩ (aC ⟨rfl,fun _=>TU.p (.fB 2 rfl) rfl,fun h=>absurd h cQ⟩ (aC ⟨rfl,fun _=>TU.p (.Ez (PEv.lb rfl ((hcs.up hSW.Cl).nth (j:=2) rfl)) (by rw[hmn])) rfl,fun h=>absurd h cQ⟩ (aC ⟨rfl,fun _=>TU.p (.add (.t rfl) (.t rfl) cQ cQ) rfl,fun h=>absurd h cQ⟩ (aC ⟨rfl,fun _=>TU.p (.fB 0 rfl) rfl,fun h=>absurd h cQ⟩ (aC ⟨rfl,fun _=>TU.p (.lb rfl (hSW.b0.Ad rfl)) rfl,fun h=>absurd h cQ⟩ (aC ⟨rfl,fun _=>TU.p (.add (.t rfl) (.t rfl) cQ cQ) rfl,fun h=>absurd h cQ⟩ (aC ⟨rfl,fun _=>TU.p (.lb rfl (hSW.b3.Ad rfl)) rfl,fun h=>absurd h cQ⟩ (aC ⟨rfl,fun _=>TU.p (.mv rfl) rfl,fun h=>absurd h cQ⟩ (aC ⟨rfl,fun _=>TU.p (.Ar (j:=1) ky l4 (.t rfl) (.t rfl) cQ rfl) rfl,fun h=>absurd h cQ⟩ (aC ⟨rfl,fun _=>TU.p (.lb rfl (AggAt.nth (j:=0) hcg rfl)) rfl,fun h=>absurd h cQ⟩ (aC ⟨rfl,fun _=>TU.p (.nc rfl) rfl,fun h=>absurd h cQ⟩ (aC ⟨rfl,fun _=>TU.p (.fB 1 rfl) rfl,fun h=>absurd h cQ⟩ (aC ⟨rfl,fun _=>TU.p (.lb rfl (hSW.b5.Ad rfl)) rfl,fun h=>absurd h cQ⟩ (aC ⟨rfl,fun _=>TU.c (eC (.o rfl) (bJ)) (Jl none 0 ([]:List Int) W hEL cQ) (fun v W' h=>⟨h.2,h.1.mono zU0⟩),fun h=>absurd h cQ⟩ (aC ⟨rfl,fun _=>TU.p (.mv rfl) rfl,fun h=>absurd h cQ⟩ (aC ⟨rfl,fun _=>TU.r (REv.buildSlice (xs:=([1]:List Int)) (enc:=A6) (mk:=vi) ju jw j2 rfl bQ (fun _=>rfl) (fun _=>rfl) (.cu rfl) rfl) (fun v W' h=>h.q),fun h=>absurd h cQ⟩ (aC ⟨rfl,fun h=>absurd rfl h,fun _ a ha=>?_⟩ ?_))))))))))))))))))))))))))))
   ·skip
    have h1:=ha.known (p:=fun v W=>OwnS W w15.drew.heap.size 3 1 A6 v ([]:List Int)) (t:=98) rfl
    have h2:=ha.known (p:=fun v W=>Sl W v 1 A6 [1]) (t:=100) rfl
    obtain⟨v,W',hr,hG⟩:=REv.D7 (enc:=A6) (bytes:=8) (i:=Tryz.t3) ju kQ rfl rfl rfl rfl cQ (fun _=>rfl) Fq (.tmp (t:=98) rfl) (.tmp (t:=100) rfl) (h1.mono (au _)) h2 cQ cQ a ((ha.bZ (t:=98) rfl).bZ (t:=100) rfl)
    exact .inl ⟨v,W',hr,⟨hU0.nO hG.fr (fun b hb=>h1.base b hb),trivial⟩,OwnS.Jk hG.holds fun i hi=>(hG.sub i hi).elim (fun h=>h1.base i h) (fun h=>br zU0 h)⟩
   refine aC ⟨rfl,fun _=>TU.open (d:=101) rfl fun v hv=>by obtain⟨ad,c,rfl,_⟩:=OwnS.sl hv (fun _=>rfl);exact TU.p (.build (cs:=L8 14 ad 1 c) md zeroValue226 Gm (.ct rfl (.cu rfl)) rfl) ⟨ad,c,rfl,hv⟩,fun h=>absurd h cQ⟩ (aC ⟨rfl,fun _=>TU.p (.fB 2 rfl) rfl,fun h=>absurd h cQ⟩ (aC ⟨rfl,fun _=>TU.p (.lb rfl (hSW.b0.Ad rfl)) rfl,fun h=>absurd h cQ⟩ (aC ⟨rfl,fun _=>TU.p (.mv rfl) rfl,fun h=>absurd h cQ⟩ (aC ⟨rfl,fun _=>TU.p (.Ar (j:=1) j0 kh (.t rfl) (.t rfl) cQ as_) rfl,fun h=>absurd h cQ⟩ (aC ⟨rfl,fun _=>TU.p (.lc rfl (hcs.up hSW.Cl)) rfl,fun h=>absurd h cQ⟩ ?_)))))
   exact allL.nil
  intro w16 g hU0 hg
  have hU:=(Up.drew w15).trans hU0
  have e73:=hg 0 _ 73 cQ rfl rfl rfl
  obtain⟨adN,cN,e102,hO102⟩:=hg 29 _ 102 cQ rfl rfl rfl
  have e107:=hg 34 _ 107 cQ rfl rfl rfl
  change LW _ _ _ _ _ _ _ _ ((73,.eq (g 73))::(102,.eq (g 102))::(107,.eq (g 107))::_) _
  replace e73:g 73=_:=e73
  replace e107:g 107=_:=e107
  rw[e73,e102,e107]
  replace hS:=hS.add hU (A':=Az 3 1 A6 (.slice adN 1 cN) ([1]:List Int)) (hO102.mono (au _)) (fun i h=>hO102.base i h)
  replace hS:=hS.Ea 3 rfl
  replace hS:=hS.Ea 3 rfl
  have hq_:=(show Wx.Sep _ _ _ ([_,_,_,_,_,_,_]++[_,_])from hS)
  refine A3 (Cr (f:=224) (lb:=#[.pointer (some ⟨B5,0,none⟩),.pointer (some ⟨B7,0,none⟩)]) (.t rfl) (.ct rfl (.cu rfl)) (iO)) rfl (L9 B5 go 3 (Zv b1 (.none)) 14 adN 1 cN s1 2 B7 _ (Els.up (hF.p s1 (by simp)).2 hS.Cl) (hF.g s1 (by simp)).bk (hF.g s1 (by simp)).nx.1 (by rw[hF.n1];simp) cQ rfl (fun hne B o e h=>by obtain⟨A_,hA_,hi_⟩:=h;have h1_:=((hq_.right.each A_ hA_).2 B hi_).resolve_left (fun h=>h);have h2_:=Po (hF.p s1 (by simp)).2 hne e;omega) hq_.right.self) ?_
  rintro _ w17 ⟨z1,uw17,hz1⟩
  replace hS:=hq_.frame uw17
  obtain⟨_,hz1⟩:=hz1.resolve_left (fun h=>by rw[hF.n1]at h;cases h.1)
  obtain⟨b2,rfl⟩:=fu.1 hz1
  replace hS:=(((hS.Ea 3 rfl).Ea 8 rfl).Ea 5 rfl)
  replace hS:=hS.sub (.cons_cons _ (.cons_cons _ (.cons_cons _ (.cons _ (.cons _ (List.Sublist.refl _))))))
  refine LW.nil (Aj (Av ?_))
  exact⟨(1,some b2,adN,cN),⟨a_ rfl,.inr ⟨a8 _,rfl⟩,hS⟩,tQ,by omega⟩
 |succ k1=>
  obtain rfl:k1=0:=by omega
  obtain⟨b2,rfl⟩:=fu.1 (hz.resolve_left (fun h=>absurd h.1 cQ)).2
  obtain⟨Bs,os,as_,hcs⟩:=hF.E 2 s2 rfl
  have hmn:s2.mn=10:=(hF.g s2 (by simp)).mn
  refine Aa (I rfl (I rfl (U (.Ar j8 km (j:=2) (k:=3) (.t rfl) (.t rfl) cQ rfl) (Cb (.Hy (enc:=Jy) (k:=1) (z:=true) (i:=2) (j:=0) km (fun _=>rfl) rfl (.t rfl) (.const _) (hS.own 1 rfl) (x0:=false) rfl cQ rfl) ?_))))
  intro w18 Gw18
  replace hS:=hS.F9 1 rfl Gw18
  refine Af (V9 35 28 [25,27] [29] (.eq (.func (.func 224) #[] #[.pointer (some ⟨B5,0,none⟩),.pointer (some ⟨B7,0,none⟩)])::.eq (.slice (some ⟨go,0,none⟩) 3 3)::.eq (vi 2)::.eq (.pointer (some ⟨go,0+2*1,none⟩))::.eq (.pointer (some ⟨b2,0,none⟩))::.eq (.pointer (some ⟨b2,0,none⟩))::.eq (.pointer (some ⟨b2,0,none⟩))::.eq (vi 14)::.eq (.pointer (some ⟨B2,2,none⟩))::.eq (.slice sa 3 sc)::.eq (vi 2)::.eq (.pointer (some ⟨Bs,os+2*7,none⟩))::.eq (.pointer (some ⟨Bs,os+2*7+2,none⟩))::.eq (vi 10)::.eq (vi 24)::.eq (.pointer (some ⟨B2,0,none⟩))::.eq (vi 2)::.eq (vi 26)::.eq (.slice (some ⟨go,0,none⟩) 3 3)::.eq (vi 2)::.eq (.pointer (some ⟨go,0+2*1,none⟩))::.eq (.pointer (some ⟨b2,0,none⟩))::.eq (.pointer (some ⟨b2,0,none⟩))::.eq (.pointer (some ⟨b2,1,none⟩))::.eq (.slice a 1 c)::(.pred fun v W=>OwnS W w18.drew.heap.size 3 1 A6 v ([1]:List Int))::.eq (vi 2)::(.pred fun v W=>Sl W v 1 A6 [2])::(.pred fun v W=>OwnS W w18.drew.heap.size 3 1 A6 v ([1,2]:List Int))::(.pred fun v W=>∃ad c,v=.agg (L8 26 ad 2 c)∧OwnS W w18.drew.heap.size 3 1 A6 (.slice ad 2 c) ([1,2]:List Int))::.eq (.pointer (some ⟨B2,2,none⟩))::.eq (.slice sa 3 sc)::.eq (vi 2)::.eq (.pointer (some ⟨Bs,os+2*7,none⟩))::.eq (.agg s2.cells)::[]) [73,102,107] (fun _ _=>True) kQ rfl kQ kQ kQ kQ kQ kQ kQ kQ kQ kQ ⟨ml,ml,ml,ml,ml,ml,ml,ml,ml,ml,ml,ml,ml,ml,ml,ml,ml,ml,ml,ml,ml,ml,ml,ml,ml,PhU.pred fun _ _ _ h u=>OwnS.up h u,ml,PhU.pred fun _ _ _ h u=>Sl.up h u,PhU.pred fun _ _ _ h u=>OwnS.up h u,PhU.pred fun _ _ _ h u=>let⟨ad,c,e,ho⟩:=h;⟨ad,c,e,ho.up u⟩,ml,ml,ml,ml,ml,trivial⟩ ⟨.inr (fun _ _ _ h _=>h),.inr (fun _ _ _ h _=>h),.inr (fun _ _ _ h _=>h),.inr (fun _ _ _ h _=>h),.inr (fun _ _ _ h _=>h),.inr (fun _ _ _ h _=>h),.inr (fun _ _ _ h _=>h),.inr (fun _ _ _ h _=>h),.inr (fun _ _ _ h _=>h),.inr (fun _ _ _ h _=>h),.inr (fun _ _ _ h _=>h),.inr (fun _ _ _ h _=>h),.inr (fun _ _ _ h _=>h),.inr (fun _ _ _ h _=>h),.inr (fun _ _ _ h _=>h),.inr (fun _ _ _ h _=>h),.inr (fun _ _ _ h _=>h),.inr (fun _ _ _ h _=>h),.inr (fun _ _ _ h _=>h),.inr (fun _ _ _ h _=>h),.inr (fun _ _ _ h _=>h),.inr (fun _ _ _ h _=>h),.inr (fun _ _ _ h _=>h),.inr (fun _ _ _ h _=>h),.inr (fun _ _ _ h _=>h),.inl rfl,.inr (fun _ _ _ h _=>h),.inl rfl,.inl rfl,.inl rfl,.inr (fun _ _ _ h _=>h),.inr (fun _ _ _ h _=>h),.inr (fun _ _ _ h _=>h),.inr (fun _ _ _ h _=>h),.inr (fun _ _ _ h _=>h),trivial⟩ ?_ ?_)
  ·intro W hU0
   have hU:=(Up.drew w18).trans hU0
   have hSW:=hS.up hU
   have zU0:=hU0.size
   obtain⟨Bg,og,ag,hcg⟩:=(Cm (hSW.own 4 rfl) (fun _=>rfl)) 2 (some b2) rfl
   cases ag
   have hEL:Els W a 1 A6 ([1]:List Int):=Cm (hSW.own 7 rfl) (fun _=>rfl)
   refine aC ⟨rfl,fun _=>TU.p (.mv rfl) rfl,fun h=>absurd h cQ⟩ (aC ⟨rfl,fun _=>TU.p (.lb rfl (hSW.b3.Ad rfl)) rfl,fun h=>absurd h cQ⟩ (aC ⟨rfl,fun _=>TU.p (.mv rfl) rfl,fun h=>absurd h cQ⟩ (aC ⟨rfl,fun _=>TU.p (.Ar (j:=2) ky l4 (.t rfl) (.t rfl) cQ rfl) rfl,fun h=>absurd h cQ⟩ (aC ⟨rfl,fun _=>TU.p (.lb rfl (AggAt.nth (j:=0) hcg rfl)) rfl,fun h=>absurd h cQ⟩ (aC ⟨rfl,fun _=>TU.p (.nc rfl) rfl,fun h=>absurd h cQ⟩ (aC ⟨rfl,fun _=>TU.p (.fB 0 rfl) rfl,fun h=>absurd h cQ⟩ (aC ⟨rfl,fun _=>TU.p (.lb rfl ((hSW.blk 6 rfl).Ad rfl)) rfl,fun h=>absurd h cQ⟩ (aC ⟨rfl,fun _=>TU.p (.fB 2 rfl) rfl,fun h=>absurd h cQ⟩ (aC ⟨rfl,fun _=>TU.p (.lb rfl (hSW.b0.Ad rfl)) rfl,fun h=>absurd h cQ⟩ (aC ⟨rfl,fun _=>TU.p (.mv rfl) rfl,fun h=>absurd h cQ⟩ (aC ⟨rfl,fun _=>TU.p (.Ar (j:=2) j0 kh (.t rfl) (.t rfl) cQ as_) rfl,fun h=>absurd h cQ⟩ (aC ⟨rfl,fun _=>TU.p (.fB 2 rfl) rfl,fun h=>absurd h cQ⟩ (aC ⟨rfl,fun _=>TU.p (.Ez (PEv.lb rfl ((hcs.up hSW.Cl).nth (j:=2) rfl)) (by rw[hmn])) rfl,fun h=>absurd h cQ⟩ (aC ⟨rfl,fun _=>TU.p (.add (.t rfl) (.t rfl) cQ cQ) rfl,fun h=>absurd h cQ⟩ (aC ⟨rfl,fun _=>TU.p (.fB 0 rfl) rfl,fun h=>absurd h cQ⟩ (aC ⟨rfl,fun _=>TU.p (.lb rfl (hSW.b0.Ad rfl)) rfl,fun h=>absurd h cQ⟩ (aC ⟨rfl,fun _=>TU.p (.add (.t rfl) (.t rfl) cQ cQ) rfl,fun h=>absurd h cQ⟩ (aC ⟨rfl,fun _=>TU.p (.lb rfl (hSW.b3.Ad rfl)) rfl,fun h=>absurd h cQ⟩ (aC ⟨rfl,fun _=>TU.p (.mv rfl) rfl,fun h=>absurd h cQ⟩ (aC ⟨rfl,fun _=>TU.p (.Ar (j:=2) ky l4 (.t rfl) (.t rfl) cQ rfl) rfl,fun h=>absurd h cQ⟩ (aC ⟨rfl,fun _=>TU.p (.lb rfl (AggAt.nth (j:=0) hcg rfl)) rfl,fun h=>absurd h cQ⟩ (aC ⟨rfl,fun _=>TU.p (.nc rfl) rfl,fun h=>absurd h cQ⟩ (aC ⟨rfl,fun _=>TU.p (.fB 1 rfl) rfl,fun h=>absurd h cQ⟩ (aC ⟨rfl,fun _=>TU.p (.lb rfl ((hSW.blk 6 rfl).Ad rfl)) rfl,fun h=>absurd h cQ⟩ (aC ⟨rfl,fun _=>TU.c (eC (.o rfl) (bJ)) (Jl a c ([1]:List Int) W hEL cQ) (fun v W' h=>⟨h.2,h.1.mono zU0⟩),fun h=>absurd h cQ⟩ (aC ⟨rfl,fun _=>TU.p (.mv rfl) rfl,fun h=>absurd h cQ⟩ (aC ⟨rfl,fun _=>TU.r (REv.buildSlice (xs:=([2]:List Int)) (enc:=A6) (mk:=vi) ju jw j2 rfl bQ (fun _=>rfl) (fun _=>rfl) (.cu rfl) rfl) (fun v W' h=>h.q),fun h=>absurd h cQ⟩ (aC ⟨rfl,fun h=>absurd rfl h,fun _ a ha=>?_⟩ ?_))))))))))))))))))))))))))))
   ·skip
    have h1:=ha.known (p:=fun v W=>OwnS W w18.drew.heap.size 3 1 A6 v ([1]:List Int)) (t:=98) rfl
    have h2:=ha.known (p:=fun v W=>Sl W v 1 A6 [2]) (t:=100) rfl
    obtain⟨v,W',hr,hG⟩:=REv.D7 (enc:=A6) (bytes:=8) (i:=Tryz.t3) ju kQ rfl rfl rfl rfl cQ (fun _=>rfl) Fq (.tmp (t:=98) rfl) (.tmp (t:=100) rfl) (h1.mono (au _)) h2 cQ cQ a ((ha.bZ (t:=98) rfl).bZ (t:=100) rfl)
    exact .inl ⟨v,W',hr,⟨hU0.nO hG.fr (fun b hb=>h1.base b hb),trivial⟩,OwnS.Jk hG.holds fun i hi=>(hG.sub i hi).elim (fun h=>h1.base i h) (fun h=>br zU0 h)⟩
   refine aC ⟨rfl,fun _=>TU.open (d:=101) rfl fun v hv=>by obtain⟨ad,c,rfl,_⟩:=OwnS.sl hv (fun _=>rfl);exact TU.p (.build (cs:=L8 26 ad 2 c) md zeroValue226 Gm (.ct rfl (.cu rfl)) rfl) ⟨ad,c,rfl,hv⟩,fun h=>absurd h cQ⟩ (aC ⟨rfl,fun _=>TU.p (.fB 2 rfl) rfl,fun h=>absurd h cQ⟩ (aC ⟨rfl,fun _=>TU.p (.lb rfl (hSW.b0.Ad rfl)) rfl,fun h=>absurd h cQ⟩ (aC ⟨rfl,fun _=>TU.p (.mv rfl) rfl,fun h=>absurd h cQ⟩ (aC ⟨rfl,fun _=>TU.p (.Ar (j:=2) j0 kh (.t rfl) (.t rfl) cQ as_) rfl,fun h=>absurd h cQ⟩ (aC ⟨rfl,fun _=>TU.p (.lc rfl (hcs.up hSW.Cl)) rfl,fun h=>absurd h cQ⟩ ?_)))))
   exact allL.nil
  intro w19 g hU0 hg
  have hU:=(Up.drew w18).trans hU0
  have e73:=hg 0 _ 73 cQ rfl rfl rfl
  obtain⟨adN,cN,e102,hO102⟩:=hg 29 _ 102 cQ rfl rfl rfl
  have e107:=hg 34 _ 107 cQ rfl rfl rfl
  change LW _ _ _ _ _ _ _ _ ((73,.eq (g 73))::(102,.eq (g 102))::(107,.eq (g 107))::_) _
  replace e73:g 73=_:=e73
  replace e107:g 107=_:=e107
  rw[e73,e102,e107]
  replace hS:=hS.add hU (A':=Az 3 1 A6 (.slice adN 2 cN) ([1,2]:List Int)) (hO102.mono (au _)) (fun i h=>hO102.base i h)
  replace hS:=hS.Ea 3 rfl
  replace hS:=hS.Ea 3 rfl
  have hq_:=(show Wx.Sep _ _ _ ([_,_,_,_,_,_,_]++[_,_])from hS)
  refine A3 (Cr (f:=224) (lb:=#[.pointer (some ⟨B5,0,none⟩),.pointer (some ⟨B7,0,none⟩)]) (.t rfl) (.ct rfl (.cu rfl)) (iO)) rfl (L9 B5 go 3 (Zv b1 (some b2)) 26 adN 2 cN s2 0 B7 _ (Els.up (hF.p s2 (by simp)).2 hS.Cl) (hF.g s2 (by simp)).bk (hF.g s2 (by simp)).nx.1 (by rw[hF.n2];simp) cQ rfl (fun hne B o e h=>by obtain⟨A_,hA_,hi_⟩:=h;have h1_:=((hq_.right.each A_ hA_).2 B hi_).resolve_left (fun h=>h);have h2_:=Po (hF.p s2 (by simp)).2 hne e;omega) hq_.right.self) ?_
  rintro _ w20 ⟨z1,uw20,hz1⟩
  replace hS:=hq_.frame uw20
  obtain rfl:z1=.none:=(hz1.resolve_right (fun h=>h.1 hF.n2)).2
  replace hS:=(((hS.Ea 3 rfl).Ea 3 rfl).Ea 3 rfl)
  replace hS:=hS.sub (.cons_cons _ (.cons_cons _ (.cons_cons _ (.cons _ (.cons_cons _ (.cons_cons _ (.cons _ (List.Sublist.refl _))))))))
  refine LW.nil (Aj (Av ?_))
  exact⟨(2,some b2,a,c),⟨a8 _,.inr ⟨a_ rfl,rfl⟩,hS⟩,tQ,by omega⟩
end Go.Proofs.YtnocngnlpgikaaaGreatDoor
