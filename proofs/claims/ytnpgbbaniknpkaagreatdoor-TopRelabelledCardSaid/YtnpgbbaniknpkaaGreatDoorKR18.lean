import Derived.Test.YtnpgbbaniknpkaaGreatDoorKR17
import Derived.Lib.Builder
import Derived.Lib.UnsafeStr
import Derived.Laws.BytesArg
import Derived.Test.YtnpgbbaniknpkaaGreatDoorProg
namespace Go.Wx
open Go.RowKit Go.Lib
def Dw(As:List Asr):Asr where
 foot:=fun i=>∃A∈As,A.foot i
 holds:=fun w=>(∀A∈As,A.holds w)∧As.Pairwise fun(A B:Asr)=>∀(i:Nat),A.foot i→¬B.foot i
 keep _ _ h k z:=⟨fun A hA=>A.keep _ _ (h.1 A hA) (fun i hi hl=>k i ⟨A,hA,hi⟩ hl) z,h.2⟩
 lt _ h i:=fun⟨A,hA,hi⟩=>A.lt _ (h.1 A hA) i hi
section
variable {S0:Nat→Prop}{w0 w w':World}{As As' Bs rest:List Asr}
theorem Py(h:(Dw As).holds w):Sep (Dw As).foot w w As:=⟨Fr.refl _ _,fun A hA=>⟨h.1 A hA,fun _ hi=>.inl ⟨A,hA,hi⟩⟩,h.2⟩
theorem K9(h:Sep (Dw As).foot w0 w (As'++rest)):Stp (Dw As) (Dw As') w0 w:=
 ⟨h.fr,⟨fun A hA=>(h.each A (eh _ hA)).1,(cj.1 h.apart).1⟩,fun i⟨A,hA,hi⟩=>(h.each A (eh _ hA)).2 i hi⟩
theorem Lz(h:Sep S0 w0 w (Bs++As++rest)):Sep S0 w0 w (Bs++Dw As::rest):=by
 have h1:=cj.1 h.apart
 have h2:=cj.1 h1.1
 refine⟨h.fr,fun A hA=>?_,cj.2 ⟨h2.1,eg.2 ⟨fun C hC i hi=>?_,h1.2.1⟩,fun A hA C hC i hi=>?_⟩⟩
 · rcases bt.1 hA with hA|hA
   · exact h.each A (by simp[hA])
   rcases bp.1 hA with rfl|hA
   · exact⟨⟨fun A hA=>(h.each A (by simp[hA])).1,h2.2.1⟩,fun i⟨A,hA,hi⟩=>(h.each A (by simp[hA])).2 i hi⟩
   exact h.each A (by simp[hA])
 · obtain⟨A,hA,hi⟩:=hi
   exact h1.2.2 A (by simp[hA]) C hC i hi
 rcases bp.1 hC with rfl|hC
 · rintro⟨C,hC,hi2⟩
   exact h2.2.2 A hA C hC i hi hi2
 exact h1.2.2 A (by simp[hA]) C hC i hi
theorem Sep.unfold(h:Sep S0 w0 w (Bs++Dw As::rest)):Sep S0 w0 w (Bs++As++rest):=by
 have h1:=cj.1 h.apart
 have h2:=eg.1 h1.2.1
 have ha:=h.each (Dw As) (by simp)
 refine⟨h.fr,fun A hA=>?_,cj.2 ⟨cj.2 ⟨h1.1,ha.1.2,fun A hA C hC i hi hi2=>?_⟩,h2.2,fun A hA C hC i hi=>?_⟩⟩
 · rcases bt.1 hA with hA|hA
   · rcases bt.1 hA with hA|hA
     · exact h.each A (by simp[hA])
     exact⟨ha.1.1 A hA,fun i hi=>ha.2 i ⟨A,hA,hi⟩⟩
   exact h.each A (by simp[hA])
 · exact h1.2.2 A hA (Dw As) (by simp) i hi ⟨C,hC,hi2⟩
 rcases bt.1 hA with hA|hA
 · exact h1.2.2 A hA C (by simp[hC]) i hi
 exact h2.1 C hC i ⟨A,hA,hi⟩
end
section
variable {P:Program}{n:Nat}{ds:List Deferred}{l:Env}{w:World}{d:Option Tmp}{ty:TypeId}{ps:String}{af:Array Edge}{g:Option (Nat×Bool)}
theorem Vo{w:World}{B:Nat}{cs:Array Value}{T:TypeId}(h:Blk w B cs T):w.shape? B=some (T,cs.size):=by
 unfold Blk at h
 simp[World.shape?,h]
theorem PEv.GW{src dst t TT:TypeId}{x:Operand}{B o k:Nat}{cs:Array Value}(hs:P.underlying src=some (.pointer t))(hd:P.underlying dst=some .unsafePointer)(ht:(P.info? t).map (·.size)=some (k+1))(hx:Val l x (.pointer (some ⟨B,o,none⟩)))(hb:Blk w B cs TT)(ho:o<cs.size):
   PEv P n ds l w ⟨d,.convert src dst x,ty,ps,af,g⟩ (.pointer (some ⟨B,o,none⟩)):=fun a w' ha hu=>by
 obtain⟨j,hj,hjs⟩:=iz.1 ht
 refine C0 ?_
 rw[ha.ev hx]
 exact run_to_unsafe w' ⟨B,o,none⟩ hs hd hj oQ (Vo (hb.up hu)) ho
theorem PEv.tY{src dst u TT:TypeId}{x:Operand}{B o k:Nat}{cs:Array Value}(hs:P.underlying src=some .unsafePointer)(hd:P.underlying dst=some (.pointer u))(ht:(P.info? u).map (·.size)=some k)(hx:Val l x (.pointer (some ⟨B,o,none⟩)))(hb:Blk w B cs TT)
   (hl:liesAt P P.depth TT (cs.size/P.cellsOf TT) o u 1=true):
   PEv P n ds l w ⟨d,.convert src dst x,ty,ps,af,g⟩ (.pointer (some ⟨B,o,none⟩)):=fun a w' ha hu=>by
 obtain⟨j,hj,_⟩:=iz.1 ht
 refine C0 ?_
 rw[ha.ev hx]
 exact run_from_unsafe w' ⟨B,o,none⟩ hs hd hj (Vo (hb.up hu)) hl
theorem Y3{T te T':TypeId}{x y:Operand}{k:Nat}{ad:Addr}(hT:P.underlying T=some (.pointer te))(ht:(P.info? te).map (·.size)=some k)(hx:Val l x (.pointer (some ad)))(hy:Val l y (.pointer (some ad))):
   PEv P n ds l w ⟨d,.binOp .neq T x y T',ty,ps,af,g⟩ (.bool false):=fun a w' ha _=>by
 obtain⟨j,hj,_⟩:=iz.1 ht
 refine C0 ?_
 rw[ha.ev hx,ha.ev hy,Sem.run_bind]
 have:(eqGuard .neq T x y (.pointer (some ad)) (.pointer (some ad))).run P w'=.ok () w':=by unfold eqGuard;rfl
 rw[this]
 exact run_neq_ptr_same w' ad hT hj
theorem PEv.ext{xs:Array Operand}{ts:Array TypeId}{f:FuncId}{vs:List Value}{v:Value}(hv:Vals l xs.toList vs)(hf:∀w,(callFunc f vs.toArray).run P w=.ok (.value v) w):
   PEv P n ds l w ⟨d,.call { callee:=.value (.func f),args:=xs,argTypes:=ts },ty,ps,af,g⟩ v:=fun a w' ha _=>by
 have e1:xs.map a.eval=vs.toArray:=by apply gz;simp[ha.HR hv]
 have e:a.eval (.func f)=.func (.func f) #[] #[]:=rfl
 simp only[execOp,resolve,e,e1,Deferred.ofValue,Sem.run_bind,Sem.run_pure,Result.andThen,invoke]
 simpa using hf w'
theorem Xa{f:FuncId}{fn:Func}(hf:P.funcs[f]?=some fn)(h1:(fn.name== "runtime.NumGoroutine")=false)(h2:fn.body.isNone=true)(h3:Extern.findNext fn=none)(h4:Extern.find fn=some Extern.AbiNoEscape.same)(v:Value)(w:World):
   (callFunc f [v].toArray).run P w=.ok (.value v) w:=by
 rw[run_callFunc_extern hf h1 h2 h3 h4]
 rfl
end
theorem tZ{S:Nat→Prop}{w w':World}{ad:Addr}{v:Value}(h:w.cell? ad=some v)(f:Fr S w w')(hn:¬S ad.block):w'.cell? ad=some v:=by
 unfold World.cell? at h⊢
 cases hb:w.heap[ad.block]? with
 |none=>rw[hb]at h;cases h
 |some o=>rw[hb]at h;rw[f.block _ (lt_of_block hb) hn,hb];exact h
theorem Els.fr{α:Type}{S:Nat→Prop}{w w':World}{ad:Option Addr}{k:Nat}{enc:α→Array Value}{xs:List α}(h:Els w ad k enc xs)(f:Fr S w w')(hn:∀B o,ad=some ⟨B,o,none⟩→¬S B):Els w' ad k enc xs:=fun i x hx=>
 let⟨B,o,h1,h2⟩:=h i x hx
 ⟨B,o,h1,fun j v hv=>tZ (h2 j v hv) f (hn B _ h1)⟩
theorem Blk.fr{S:Nat→Prop}{w w':World}{B:Nat}{cs:Array Value}{T:TypeId}(h:Blk w B cs T)(f:Fr S w w')(hn:¬S B):Blk w' B cs T:=(f.block _ h.lt hn).trans h
theorem Vp(a:List UInt8)(b:ByteArray):(⟨a.toArray⟩:ByteArray)++b=⟨(a++b.data.toList).toArray⟩:=by
 apply ByteArray.ext
 simp
def Pz(b:UInt8):Array Value:=#[bv b]
theorem gU(x:UInt8):(Pz x).all (·.oneCell')=true:=by simp[Pz,bv,Value.oneCell']
theorem Oz:∀(l:List UInt8),(l.flatMap fun x=>(Pz x).toList)=l.map bv
 |[]=>rfl
 |x::l=>by rw[cw,Oz l];rfl
structure Wri where
 bd:Nat
 us:Bool
 bf:Value
def Wri.ad(D:Wri):Value:=.pointer (if D.us then some ⟨D.bd,0,none⟩else none)
def Ns(TW e:TypeId)(D:Wri)(bs:List UInt8):List Asr:=[A5 D.bd #[D.ad,D.bf] TW,Aw e 1 Pz D.bf bs]
def Ed(TW e:TypeId)(D:Wri)(bs:List UInt8):Asr:=Dw (Ns TW e D bs)
theorem St{TW e:TypeId}{D:Wri}{bs:List UInt8}{w:World}(h:(Ed TW e D bs).holds w):OwnS w 0 e 1 Pz D.bf bs:=h.1 (Aw e 1 Pz D.bf bs) (by simp[Ns])
theorem Y4{TW e:TypeId}{D:Wri}{bs:List UInt8}{w:World}(h:(Ed TW e D bs).holds w):Blk w D.bd #[D.ad,D.bf] TW:=h.1 (A5 D.bd #[D.ad,D.bf] TW) (by simp[Ns])
theorem Vq{TW e:TypeId}{D:Wri}{bs:List UInt8}{i:Nat}(h:(Ed TW e D bs).foot i):i=D.bd∨D.bf.ownBlock=some i:=by
 obtain⟨A,hA,hi⟩:=h
 simp only[Ns,bp,df,d_]at hA
 rcases hA with rfl|rfl
 · exact .inl hi
 exact .inr hi
theorem dE{TW e:TypeId}{D:Wri}{bs:List UInt8}{i:Nat}(h:i=D.bd∨D.bf.ownBlock=some i):(Ed TW e D bs).foot i:=by
 rcases h with h|h
 · exact⟨_,b7,h⟩
 exact⟨_,b_ _ b7,h⟩
theorem uA{TW e:TypeId}{D:Wri}{bs:List UInt8}{w w':World}{bq:Nat}(h:(Ed TW e D bs).holds w)(k:Ko bq w w'):(Ed TW e D bs).holds w':=by
 refine⟨fun A hA=>?_,h.2⟩
 have h1:=h.1 A hA
 simp only[Ns,bp,df,d_]at hA
 rcases hA with rfl|rfl
 · exact Blk.ko h1 k
 exact OwnS.ko h1 k
theorem Fr.ko{S:Nat→Prop}{w0 w w':World}{bq:Nat}(h:Fr S w0 w)(k:Ko bq w w')(hb:w0.heap.size≤bq):Fr S w0 w':=
 ⟨k.os.trans h.os,k.tape.trans h.tape,k.output.trans h.output,bu h.size k.size,fun i hi hs=>by
   have h1:=h.block i hi hs
   have h2:w.heap[i]?=some w0.heap[i]:=by rw[h1];simp[hi]
   rw[k.same i _ h2 (.inl oQ),←h2,h1]⟩
theorem Kx.fr{bq:Nat}{X Y S:Nat→Prop}{w w':World}(h:Fr S w w')(hX:∀i,S i→X i)(hc:∀i o,S i→w.heap[i]?=some o→o.isCells=true):Kx bq X Y w w':=
 ⟨h.os,h.tape,h.output,h.size,fun i o hi ho=>(h.block i (lt_of_block hi) (fun hs=>by
   rcases ho with ho|ho
   · exact ho.2 (hX i hs)
   rw[hc i o hs hi]at ho;cases ho.1)).trans hi⟩
theorem Kf.fr{bq:Nat}{S:Nat→Prop}{w w':World}(h:Fr S w w')(hc:∀i o,S i→w.heap[i]?=some o→o.isCells=true):Kf bq w w':=
 ⟨h.size,fun i o _ hi ho=>(h.block i (lt_of_block hi) (fun hs=>by rw[hc i o hs hi]at ho;cases ho)).trans hi⟩
theorem dG{TW e:TypeId}{D:Wri}{bs:List UInt8}{w:World}(h:(Ed TW e D bs).holds w):∀i o,(Ed TW e D bs).foot i→w.heap[i]?=some o→o.isCells=true:=fun i o hf hi=>by
 rcases Vq hf with rfl|hf
 · have:=Y4 h
   unfold Blk at this
   rw[this]at hi;cases hi;rfl
 obtain⟨_,⟨e',_⟩|⟨g,cap,cur,e',hb,hg,rest⟩⟩:=St h
 · rw[e']at hf;cases hf
 rw[e']at hf;cases hf
 rw[hg]at hi;cases hi;rfl
theorem Jy{TW e:TypeId}{D:Wri}{bs:List UInt8}{w:World}{B:Nat}{cs:Array Value}{T:TypeId}{x:Nat×Nat}(h:(Ed TW e D bs).holds w)(hb:w.heap[B]?=some (Obj.cells cs T x))(h1:Nat.beq T e=false)(h2:Nat.beq T TW=false):¬(Ed TW e D bs).foot B:=fun hf=>by
 rcases Vq hf with rfl|hf
 · have:=Y4 h
   unfold Blk at this
   rw[this]at hb;cases hb
   simp at h2
 obtain⟨_,⟨e',_⟩|⟨g,cap,cur,e',_,hg,_⟩⟩:=St h
 · rw[e']at hf;cases hf
 rw[e']at hf;cases hf
 rw[hg]at hb;cases hb
 simp at h1
theorem Stp.ko{A:Asr}{TW e:TypeId}{D:Wri}{bs:List UInt8}{w0 w w':World}{bq:Nat}(h:Stp A (Ed TW e D bs) w0 w)(k:Ko bq w w')(hb:w0.heap.size≤bq):Stp A (Ed TW e D bs) w0 w':=⟨h.fr.ko k hb,uA h.holds k,h.sub⟩
theorem Els.kx{α:Type}{bq:Nat}{X Y:Nat→Prop}{w w':World}{ad:Option Addr}{k:Nat}{enc:α→Array Value}{xs:List α}(h:Els w ad k enc xs)(u:Kx bq X Y w w')(hn:∀B o,ad=some ⟨B,o,none⟩→¬X B):Els w' ad k enc xs:=fun i x hx=>
 let⟨B,o,h1,h2⟩:=h i x hx
 ⟨B,o,h1,fun j v hv=>by
   have hc:=h2 j v hv
   unfold World.cell? at hc⊢
   cases hb:w.heap[B]? with
   |none=>simp only[hb]at hc;cases hc
   |some ob=>
     cases ob with
     |cells cs T x=>rw[u.same B _ hb (.inl ⟨rfl,hn B _ h1⟩)];rw[hb]at hc;exact hc
     |_=>simp only[hb]at hc;cases hc⟩
theorem gV{S0:Nat→Prop}{w0 w:World}{Bs:List Asr}{TW e:TypeId}{B:Nat}(h:Sep S0 w0 w (Bs++[A5 B #[.pointer none,.slice none 0 0] TW])):Sep S0 w0 w (Bs++[Ed TW e ⟨B,false,.slice none 0 0⟩ []]):=by
 have h1:=h.add (Up.refl _) (A':=Aw e 1 Pz (.slice none 0 0) ([]:List UInt8)) (OwnS.nil _ _ _ _ _) (fun i hi=>by cases hi)
 have h2:=Lz (Bs:=Bs) (As:=Ns TW e ⟨B,false,.slice none 0 0⟩ []) (rest:=[]) (by simpa[Ns,Wri.ad]using h1)
 exact h2
section
variable {P:Program}{n:Nat}{ds:List Deferred}{l:Env}{w:World}{d:Option Tmp}{ty:TypeId}{ps:String}{af:Array Edge}{g:Option (Nat×Bool)}
theorem REv.kL{e T Ts:TypeId}{i:TypeInfo}{s x:Operand}{v:Value}{bs:List UInt8}{t:ByteArray}(hT:P.underlying T=some (.slice e))(hTs:P.underlying Ts=some .string)(hi:P.info? e=some i)(hz:i.zero=some (.int .u8 0))(hsz:i.size=1)(hby:i.bytes=1)
   (hs:Val l s v)(hx:Val l x (.string t))(ho:OwnS w 0 e 1 Pz v bs)(hb:bs.length+t.size≤140737488355328):
   REv P n ds l w ⟨d,.call { callee:=.builtin .append,args:=#[s,x],argTypes:=#[T,Ts] },ty,ps,af,g⟩ (fun v' w'=>Stp (Aw e 1 Pz v bs) (Aw e 1 Pz v' (bs++t.data.toList)) w w'):=fun a ha=>by
 have e0:∀c:List UInt8,(c.flatMap fun x=>(Pz x).toList)=byteCells c:=fun c=>by rw[Oz];rfl
 have ho':w.ownsRow 0 e 1 v bs.length (byteCells bs):=by have:=ho;unfold OwnS at this;rw[e0]at this;exact this
 obtain⟨v',w',hr,h2,h3,_⟩:=run_append_own_string (P:=P) w 0 T Ts ty e i hT hTs hi hz hsz hby v bs.length _ ho' t (by simp only[maxLen];omega) hb (a8 _)
 rw[strCells_eq,←byteCells_append]at h2
 have hl:(bs++t.data.toList).length=bs.length+t.size:=by rw[ak,c9];rfl
 have hown:OwnS w' 0 e 1 Pz v' (bs++t.data.toList):=by unfold OwnS;rw[e0,hl];exact h2
 refine⟨v',w',?_,⟨h3.os,h3.tape,h3.output,h3.size,fun i hi hb=>h3.block i hi (fun e=>hb e.symm)⟩,hown,?_⟩
 · simp only[execOp,resolve,invoke,builtin,Sem.run_bind,Sem.run_pure,Result.andThen_ok,f6,c8,fq,ha.ev hs,ha.ev hx,hr]
 -- the new row:the old one,or a new block
 intro q hq
 obtain⟨hlen,⟨rfl,hn⟩|⟨g',cap,cur,rfl,_,hg,hcap,hcm,hcs,htake⟩⟩:=ho'
 · rcases fg q w.heap.size with h|h
   · exfalso
     by_cases hm:t.size=0
     · have hf:=run_firstCells_string (P:=P) w 1 t
       rw[hm]at hf
       have hr2:(Builtin.append_ #[T,Ts] ty #[.slice none 0 0,.string t]).run P w=.ok (.slice none 0 0) w:=by
         simp[Builtin.append_,run_underlying hT,run_underlying hTs,sizeOf,typeInfo,hi,hsz,Builtin.lenOf,hm,hf]
       rw[hr]at hr2
       cases hr2
       cases hq
     have hr2:=run_append_nil_string (P:=P) w T Ts ty e i (.int .u8 0) hT hTs hi hz t oQ oQ (by rw[hby];omega)
     rw[hr]at hr2
     cases hr2
     cases hq
     exact iu _ h
   exact .inr h
 by_cases hroom:bs.length+t.size≤cap
 · have hr2:=run_append_room_string (P:=P) w T Ts ty e i hT hTs hi hsz g' bs.length cap cur hg t hroom (by rw[hcs];omega)
   rw[hr]at hr2
   cases hr2
   exact .inl hq
 have holds:∀j u,(byteCells bs)[j]?=some u→w.cell? ((⟨g',0,none⟩:Addr).add j)=some u:=World.ownsRow.cells (g:=g') (show w.ownsRow 0 e 1 (.slice (some ⟨g',0,none⟩) bs.length cap) bs.length _ from⟨hlen,.inr ⟨g',cap,cur,rfl,a8 _,hg,hcap,hcm,hcs,htake⟩⟩) rfl
 have hr2:=run_append_grow_string (P:=P) w T Ts ty e i (.int .u8 0) hT hTs hi hz ⟨g',0,none⟩ bs.length cap _ (by rw[hsz];simpa using hlen) holds t oQ oQ (by rw[hby];exact growslice_fits oQ oQ)
 rw[hr]at hr2
 cases hr2
 cases hq
 exact .inr (by simp)
theorem PEv.kM{T:TypeId}{ts:Array TypeId}{x:Operand}{B m cp:Nat}(hc:cp≠0)(hx:Val l x (.slice (some ⟨B,0,none⟩) m cp)):
   PEv P n ds l w ⟨d,.call { callee:=.builtin .unsafeSliceData,args:=#[x],argTypes:=ts },T,ps,af,g⟩ (.pointer (some ⟨B,0,none⟩)):=fun a w' ha _=>by
 have:=run_unsafeSliceData_row (P:=P) w' ts T ⟨B,0,none⟩ m cp hc
 simp only[execOp,resolve,invoke,builtin,Sem.run_bind,Sem.run_pure,Result.andThen_ok,f6,c8,fq,ha.ev hx,this]
theorem REv.kN{T it e:TypeId}{x y:Operand}{B cp:Nat}{bs:List UInt8}{pt:TypeId}(hp:P.underlying pt=some (.pointer e))(hc:P.cellsOf e=1)(hx:Val l x (.pointer (some ⟨B,0,none⟩)))(hy:Val l y (.int .i64 (bs.length:Int)))
   (ho:OwnS w 0 e 1 Pz (.slice (some ⟨B,0,none⟩) bs.length cp) bs)(h0:bs≠[])(h63:bs.length≤9223372036854775807):
   REv P n ds l w ⟨d,.call { callee:=.builtin .unsafeString,args:=#[x,y],argTypes:=#[pt,it] },T,ps,af,g⟩ (fun v w'=>v=.string ⟨bs.toArray⟩∧Fr (fun i=>some B=some i) w w'):=fun a ha=>by
 have e0:∀c:List UInt8,(c.flatMap fun x=>(Pz x).toList)=byteCells c:=fun c=>by rw[Oz];rfl
 have ho':w.ownsRow 0 e 1 (.slice (some ⟨B,0,none⟩) bs.length cp) bs.length (byteCells bs):=by have:=ho;unfold OwnS at this;rw[e0]at this;exact this
 have hcell:=World.ownsRow.cells (g:=B) ho' rfl
 obtain⟨hlen,⟨h,_⟩|⟨g',cap,cur,h,_,hg,hcap,hcm,hcs,htake⟩⟩:=ho'
 · cases h
 cases h
 have hsh:w.shape? B=some (e,cp):=by simp[World.shape?,hg];omega
 have:=run_unsafeString_row (P:=P) w pt it T e hp hc B cp hsh bs h0 hcap h63 (fun j x hx=>hcell j _ (by simp[byteCells,hx]))
 refine⟨.string ⟨bs.toArray⟩,w.freeze ⟨B,0,none⟩ bs.length,?_,rfl,?_⟩
 · simp only[execOp,resolve,invoke,builtin,Sem.run_bind,Sem.run_pure,Result.andThen_ok,f6,c8,fq,ha.ev hx,ha.ev hy,this]
 unfold World.freeze
 split
 · exact Fr.refl _ _
 exact⟨rfl,rfl,rfl,by simp,fun i hi hs=>by
   simp only[jy]
   rw[aq (fun e=>hs (by rw[e]))]⟩
theorem PEv.zJ{T Ts e e':TypeId}{x:Operand}{v:Value}{bs:List UInt8}{base:Nat}(hT:P.underlying T=some (.slice e))(he:P.underlying e=some (.int .u8))(hTs:P.underlying Ts=some .string)(hx:Val l x v)(ho:OwnS w base e' 1 Pz v bs):
   PEv P n ds l w ⟨d,.convert T Ts x,ty,ps,af,g⟩ (.string ⟨bs.toArray⟩):=fun a w' ha hu=>by
 refine C0 ?_
 rw[ha.ev hx]
 have ho':=ho.up hu
 have hr:=ho'
 unfold OwnS at hr
 rw[Oz]at hr
 obtain⟨hlen,⟨rfl,hn⟩|⟨g',cap,cur,rfl,hb,hg,rest⟩⟩:=ho
 · have hbs:bs=[]:=dl hn
   subst hbs
   exact run_convert_bytes_nil (P:=P) w' T e hT he 0 0 Ts hTs
 have hcell:=World.ownsRow.cells (g:=g') hr rfl
 exact run_convert_bytes_back (P:=P) w' T Ts e ⟨g',0,none⟩ cap bs hT he hTs (fun q hq=>hcell q _ (by rw[ew,cx hq];rfl))
theorem PEv.pA{T T':TypeId}{x y:Operand}{a b:ByteArray}(hx:Val l x (.string a))(hy:Val l y (.string b))(h:a.size+b.size≤9223372036854775807):PEv P n ds l w ⟨d,.binOp .add T x y T',ty,ps,af,g⟩ (.string (a++b)):=fun ac w' ha _=>by
 refine C0 ?_
 rw[ha.ev hx,ha.ev hy,Sem.run_bind]
 have:(eqGuard .add T x y (.string a) (.string b)).run P w'=.ok () w':=by unfold eqGuard;rfl
 rw[this]
 simp[binOp,Op.stringOp]
 omega
end
end Go.Wx
namespace Go.Wx
abbrev K2:=Int×Int
def H4(a b:K2):Bool:=decide (a.1<b.1)||(decide (a.1=b.1)&&decide (a.2<b.2))
theorem Ro{a b:K2}:H4 a b=true↔a.1<b.1∨(a.1=b.1∧a.2<b.2):=by simp[H4]
theorem Jz{a b:K2}:H4 a b=false↔¬(a.1<b.1∨(a.1=b.1∧a.2<b.2)):=by rw[←Ro];simp
theorem La(a:K2):H4 a a=false:=by rw[Jz];omega
theorem Kg{a b c:K2}(h:H4 b a=false)(k:H4 c b=false):H4 c a=false:=by rw[Jz]at*;omega
theorem P0{a b:K2}(h:H4 a b=true):H4 b a=false:=by rw[Ro]at h;rw[Jz];omega
theorem Xb{a b c:K2}(h:H4 a b=true)(k:H4 c b=false):H4 a c=true:=by rw[Ro]at*;rw[Jz]at k;omega
theorem gW{a b c:K2}(h:H4 b a=false)(k:H4 b c=true):H4 a c=true:=by rw[Ro]at*;rw[Jz]at h;omega
theorem zL{a b:K2}(h:H4 a b=false)(k:H4 b a=false):a=b:=by rw[Jz]at*;exact Prod.ext oQ oQ
theorem dH{a b:K2}(h:H4 a b=true):a≠b:=fun e=>by rw[e,La]at h;cases h
section
variable {α:Type}(key:α→K2)
def Jr(l:List α):Prop:=l.Pairwise fun x y=>H4 (key y) (key x)=false
def sameF(l s:List α):Prop:=∀k,s.filter (fun x=>key x==k)=l.filter (fun x=>key x==k)
structure StS(l s:List α):Prop where
 ord:Jr key s
 same:sameF key l s
end
section
variable {α:Type}{key:α→K2}
theorem sameF.refl(l:List α):sameF key l l:=fun _=>rfl
theorem sameF.trans{a b c:List α}(h:sameF key a b)(k:sameF key b c):sameF key a c:=fun x=>(k x).trans (h x)
theorem sameF.kO{a b c d:List α}(h:sameF key a b)(k:sameF key c d):sameF key (a++c) (b++d):=fun x=>by rw[cz,cz,h x,k x]
theorem sameF.mem{a b:List α}(h:sameF key a b)(x:α):x∈b↔x∈a:=by
 have:=h (key x)
 have e:∀l:List α,x∈l.filter (fun y=>key y==key x)↔x∈l:=fun l=>by rw[fe];simp
 rw[←e b,←e a,this]
theorem sameF.swap{U V:List α}(h:∀u∈U,∀v∈V,key u≠key v):sameF key (U++V) (V++U):=fun k=>by
 rw[cz,cz]
 by_cases e:U.filter (fun x=>key x==k)=[]
 · rw[e];simp
 have e2:V.filter (fun x=>key x==k)=[]:=by
   rw[ft]
   intro v hv hk
   apply e
   rw[ft]
   intro u hu hk2
   exact h u hu v hv ((eq_of_beq hk2).trans (eq_of_beq hk).symm)
 rw[e2];simp
theorem sameF.perm:∀{a b:List α},sameF key a b→b.Perm a
 |[],b,h=>by
   have:b=[]:=by
     cases b with
     |nil=>rfl
     |cons x b=>exact absurd ((h.mem x).1 b7) (by simp)
   rw[this]
 |x::a,b,h=>by
   have hx:x∈b:=(h.mem x).2 b7
   -- the first of b with the key of x is x itself
   have hf:=h (key x)
   rw[dz,bh (by simp)]at hf
   obtain⟨p,q,e,hp⟩:∃p q,b=p++x::q∧∀y∈p,key y≠key x:=by
     clear hx
     induction b with
     |nil=>simp at hf
     |cons y b ih=>
       by_cases hy:key y=key x
       · rw[dz,bh (by simp[hy])]at hf
         injection hf with h1 h2
         subst h1
         exact⟨[],b,rfl,by simp⟩
       rw[dz,aq (by simp[hy])]at hf
       have:∃p q,b=p++x::q∧∀y∈p,key y≠key x:=by
         clear ih h
         induction b with
         |nil=>simp at hf
         |cons z b ih=>
           by_cases hz:key z=key x
           · rw[dz,bh (by simp[hz])]at hf
             injection hf with h1 h2
             subst h1
             exact⟨[],b,rfl,by simp⟩
           rw[dz,aq (by simp[hz])]at hf
           obtain⟨p,q,e,hp⟩:=ih hf
           exact⟨z::p,q,by rw[e];rfl,fun w hw=>by
             rcases bp.1 hw with rfl|hw
             · exact hz
             exact hp w hw⟩
       obtain⟨p,q,e,hp⟩:=this
       exact⟨y::p,q,by rw[e];rfl,fun w hw=>by
         rcases bp.1 hw with rfl|hw
         · exact hy
         exact hp w hw⟩
   subst e
   have h2:sameF key a (p++q):=fun k=>by
     have:=h k
     by_cases hk:key x=k
     · subst hk
       have ep:p.filter (fun y=>key y==key x)=[]:=by rw[ft];intro y hy e;exact hp y hy (eq_of_beq e)
       simp only[cz,dz,beq_self_eq_true,if_true,ep,du,List.cons.injEq,true_and]at this⊢
       exact this
     have hk':(key x==k)=false:=by simpa using hk
     simpa only[cz,dz,hk',j7,if_false]using this
   exact List.perm_middle.trans ((sameF.perm h2).cons x)
theorem sameF.length{a b:List α}(h:sameF key a b):b.length=a.length:=h.perm.length_eq
theorem StS.unique:∀{l s t:List α},StS key l s→StS key l t→s=t
 |l,[],[],_,_=>rfl
 |l,[],y::t,h,k=>by have:=h.same.length.trans k.same.length.symm;simp at this
 |l,x::s,[],h,k=>by have:=h.same.length.trans k.same.length.symm;simp at this
 |l,x::s,y::t,h,k=>by
   have hx:=(eg.1 h.ord)
   have hy:=(eg.1 k.ord)
   have mx:x∈y::t:=(k.same.mem x).2 ((h.same.mem x).1 b7)
   have my:y∈x::s:=(h.same.mem y).2 ((k.same.mem y).1 b7)
   have a1:H4 (key x) (key y)=false:=by
     rcases bp.1 mx with e|e
     · rw[e];exact La _
     exact hy.1 x e
   have a2:H4 (key y) (key x)=false:=by
     rcases bp.1 my with e|e
     · rw[e];exact La _
     exact hx.1 y e
   have ek:=zL a1 a2
   have hf:=(h.same (key x)).trans (k.same (key x)).symm
   rw[dz,bh (by simp),dz,bh (by simp[ek])]at hf
   injection hf with h1 h2
   subst h1
   have hst:sameF key t s:=fun q=>by
     have:=(h.same q).trans (k.same q).symm
     simp only[dz]at this
     split at this
     · injection this
     exact this
   rw[StS.unique (l:=t) ⟨hx.2,hst⟩ ⟨hy.2,sameF.refl t⟩]
theorem StS.refl{l:List α}(h:Jr key l):StS key l l:=⟨h,sameF.refl l⟩
theorem StS.put{A:List α}{x:α}{j:Nat}(hA:Jr key A)(hj:∀y∈A.drop j,H4 (key x) (key y)=true)(hl:∀y∈A.take j,H4 (key x) (key y)=false):StS key (A++[x]) (A.take j++x::A.drop j):=by
 have h:=cj.1 (show(A.take j++A.drop j).Pairwise fun x y=>H4 (key y) (key x)=false by rw[er];exact hA)
 refine⟨cj.2 ⟨h.1,eg.2 ⟨fun y hy=>P0 (hj y hy),h.2.1⟩,fun a ha b hb=>?_⟩,?_⟩
 · rcases bp.1 hb with rfl|hb
   · exact hl a ha
   exact h.2.2 a ha b hb
 have:=(sameF.refl (key:=key) (A.take j)).kO (sameF.swap (key:=key) (U:=A.drop j) (V:=[x]) (fun u hu v hv=>by
   simp at hv;subst hv
   exact fun e=>dH (hj u hu) e.symm))
 rw[←c6,er]at this
 simpa using this
theorem pB{A:List α}{x:α}{j:Nat}(hA:Jr key A)(hj:∀y∈A.take j,H4 (key y) (key x)=true)(hl:∀y∈A.drop j,H4 (key y) (key x)=false):StS key (x::A) (A.take j++x::A.drop j):=by
 have h:=cj.1 (show(A.take j++A.drop j).Pairwise fun x y=>H4 (key y) (key x)=false by rw[er];exact hA)
 refine⟨cj.2 ⟨h.1,eg.2 ⟨hl,h.2.1⟩,fun a ha b hb=>?_⟩,?_⟩
 · rcases bp.1 hb with rfl|hb
   · exact P0 (hj a ha)
   exact h.2.2 a ha b hb
 have:=(sameF.swap (key:=key) (U:=[x]) (V:=A.take j) (fun u hu v hv=>by
   simp at hu;subst hu
   exact fun e=>dH (hj v hv) e.symm)).kO (sameF.refl (key:=key) (A.drop j))
 rw[c6,c6,er]at this
 simpa using this
theorem dI{L1 U V R2 X Y:List α}(hL:Jr key (L1++U))(hR:Jr key (V++R2))(h1:∀x∈L1,∀y∈R2,H4 (key y) (key x)=false)(h2:∀v∈V,∀u∈U,H4 (key v) (key u)=true)
   (hX:StS key (L1++V) X)(hY:StS key (U++R2) Y):StS key (L1++U++(V++R2)) (X++Y):=by
 refine⟨cj.2 ⟨hX.ord,hY.ord,fun x hx y hy=>?_⟩,?_⟩
 · have hx:=(hX.same.mem x).1 hx
   have hy:=(hY.same.mem y).1 hy
   have a:=(cj.1 hL).2.2
   have b:=(cj.1 hR).2.2
   rcases bt.1 hx with hx|hx<;>rcases bt.1 hy with hy|hy
   · exact a x hx y hy
   · exact h1 x hx y hy
   · exact P0 (h2 x hx y hy)
   exact b x hx y hy
 have s1:sameF key (U++V) (V++U):=sameF.swap fun u hu v hv e=>dH (h2 v hv u hu) e.symm
 have s2:=((sameF.refl (key:=key) L1).kO s1).kO (sameF.refl (key:=key) R2)
 have s3:=hX.same.kO hY.same
 intro k
 have a:=s3 k
 have b:=s2 k
 simp only[cz,c6]at a b⊢
 rw[a,b]
end
section
variable {α:Type}
def C7(xs:List α)(a b:Nat):List α:=(xs.take b).drop a
theorem Cn{xs:List α}{a b:Nat}(hb:b≤xs.length):(C7 xs a b).length=b-a:=by simp[C7];omega
theorem G3{xs:List α}{a b i:Nat}(h:a+i<b):(C7 xs a b)[i]?=xs[a+i]?:=by simp[C7,h]
theorem Gq{xs:List α}{a m b:Nat}(h1:a≤m)(h2:m≤b)(hb:b≤xs.length):C7 xs a b=C7 xs a m++C7 xs m b:=by
 unfold C7
 have:xs.take b=xs.take m++(xs.take b).drop m:=by
   conv=>lhs;rw[←er m (xs.take b)]
   rw[gu,dq h2]
 rw[this,List.drop_append]
 have e:a-(xs.take m).length=0:=by simp;omega
 rw[e,List.drop_zero,←this]
theorem uC{xs:List α}:C7 xs 0 xs.length=xs:=by simp[C7]
theorem Gr{xs:List α}{a b:Nat}(h:b≤a):C7 xs a b=[]:=by
 unfold C7
 rw[List.drop_eq_nil_iff]
 simp;omega
theorem gX{xs:List α}{a b:Nat}(h1:a≤b)(hb:b≤xs.length):xs=xs.take a++C7 xs a b++xs.drop b:=by
 have h:=Gq (xs:=xs) (a:=0) (m:=a) (b:=b) (a8 _) h1 hb
 have e1:C7 xs 0 a=xs.take a:=by simp[C7]
 have e2:C7 xs 0 b=xs.take b:=by simp[C7]
 rw[e1,e2]at h
 rw[←h,er]
def Fl(xs:List α)(a b:Nat)(ys:List α):List α:=xs.take a++ys++xs.drop b
theorem D4{xs ys:List α}{a b:Nat}(h1:a≤b)(hb:b≤xs.length)(hy:ys.length=b-a):(Fl xs a b ys).length=xs.length:=by simp[Fl];omega
theorem Hi{xs:List α}{a b:Nat}(h1:a≤b)(hb:b≤xs.length):Fl xs a b (C7 xs a b)=xs:=(gX h1 hb).symm
theorem F4{xs ys:List α}{a b:Nat}(h1:a≤b)(hb:b≤xs.length)(hy:ys.length=b-a)(i:Nat):(Fl xs a b ys)[i]?=if i<a then xs[i]? else if i<b then ys[i-a]? else xs[i]?:=by
 unfold Fl
 by_cases h:i<a
 · rw[bh h,c6,c7 (by simp;omega),fp,bh h]
 rw[aq h]
 by_cases h2:i<b
 · rw[bh h2,c7 (by simp;omega),db (by simp;omega)]
   congr 1;simp;omega
 rw[aq h2,db (by simp;omega),ge]
 congr 1;simp;omega
theorem gY{xs ys:List α}{a b:Nat}(h1:a≤b)(hb:b≤xs.length)(hy:ys.length=b-a):C7 (Fl xs a b ys) a b=ys:=by
 apply cr
 intro i
 by_cases h:a+i<b
 · rw[G3 h,F4 h1 hb hy,aq oQ,bh h];congr 1;omega
 rw[cy (by rw[Cn (by rw[D4 h1 hb hy];exact hb)];omega),cy (by omega)]
theorem Fh{xs ys:List α}{a b c d:Nat}(h1:a≤b)(hb:b≤xs.length)(hy:ys.length=b-a)(h:d≤a∨b≤c):C7 (Fl xs a b ys) c d=C7 xs c d:=by
 apply cr
 intro i
 unfold C7
 rw[ge,ge,fp,fp]
 split
 · rw[F4 h1 hb hy]
   split
   · rfl
   split
   · omega
   rfl
 rfl
theorem gZ{xs ys zs:List α}{a m b:Nat}(h1:a≤m)(h2:m≤b)(hb:b≤xs.length)(hy:ys.length=m-a)(hz:zs.length=b-m):Fl (Fl xs a m ys) m b zs=Fl xs a b (ys++zs):=by
 apply cr
 intro i
 rw[F4 h2 (by rw[D4 h1 oQ hy];exact hb) hz,F4 h1 oQ hy,F4 oQ hb (by simp;omega)]
 by_cases c1:i<a
 · rw[bh oQ,bh c1,bh c1]
 by_cases c2:i<m
 · rw[bh c2,aq c1,bh c2,aq c1,bh oQ,c7 (by omega)]
 rw[aq c2,aq c1,aq c2]
 by_cases c3:i<b
 · rw[bh c3,aq c1,bh c3,db (by omega)];congr 1;omega
 rw[aq c3,aq c1,aq c3]
variable {key:α→K2}
theorem sameF.Fl{xs ys:List α}{a b:Nat}(h1:a≤b)(hb:b≤xs.length)(h:sameF key (C7 xs a b) ys):sameF key xs (Wx.Fl xs a b ys):=by
 have h2:=((sameF.refl (key:=key) (xs.take a)).kO h).kO (sameF.refl (key:=key) (xs.drop b))
 rw[←gX h1 hb]at h2
 exact h2
end
end Go.Wx
namespace Go.Wx
open Go.RowKit
theorem OwnS.at{α:Type}{enc:α→Array Value}{b k:Nat}{e:TypeId}{w:World}{g m cp:Nat}{xs:List α}(h:OwnS w b e k enc (.slice (some ⟨g,0,none⟩) m cp) xs)(hk:∀x,(enc x).size=k){i:Nat}{x:α}(hx:xs[i]?=some x):AggAt w g (0+i*k) (enc x):=by
 obtain⟨ad,c,e',hE⟩:=h.sl hk
 obtain⟨B,o,h1,h2⟩:=hE i x hx
 cases e'
 cases h1
 exact h2
theorem OwnS.len{α:Type}{enc:α→Array Value}{b k:Nat}{e:TypeId}{w:World}{ad:Option Addr}{m cp:Nat}{xs:List α}(h:OwnS w b e k enc (.slice ad m cp) xs):xs.length=m:=by
 obtain⟨_,⟨e',h1⟩|⟨g,cap,cur,e',_⟩⟩:=h
 · cases e';exact h1
 cases e';rfl
theorem Y5{α:Type}(f:α→List Value)(k:Nat)(hf:∀x,(f x).length=k):∀(xs:List α)(i:Nat)(y:α),i<xs.length→(xs.set i y).flatMap f=(xs.flatMap f).take (i*k)++f y++(xs.flatMap f).drop (i*k+k)
 |[],_,_,h=>by simp at h
 |x::xs,0,y,_=>by
   rw[List.set_cons_zero,cw,cw,Nat.zero_mul,List.take_zero,du,dp,List.drop_left' (hf x)]
 |x::xs,i+1,y,h=>by
   rw[gx,cw,cw,Y5 f k hf xs i y (by simpa using h)]
   have e1:(i+1)*k=(f x).length+i*k:=by rw[hf,eu,jz,j9]
   rw[e1,Nat.add_assoc,List.take_length_add_append,List.drop_length_add_append]
   simp
section
variable {P:Program}{n:Nat}{ds:List Deferred}{l:Env}{w:World}{ty:TypeId}{ps:String}{af:Array Edge}{g:Option (Nat×Bool)}
theorem Xc{α:Type}{enc:α→Array Value}{k b:Nat}{e T:TypeId}{x y:Operand}{B m cp i:Nat}{xs:List α}{z:α}(hs:∀w,(sizeOf T).run P w=.ok k w)(hk:∀x,(enc x).size=k)(h1:∀x,(enc x).all (·.oneCell')=true)(hx:Val l x (.pointer (some ⟨B,0+i*k,none⟩)))(hy:Val l y (.agg (enc z)))(ho:OwnS w b e k enc (.slice (some ⟨B,0,none⟩) m cp) xs)(hi:i<m):
   SEv P n ds l w ⟨none,.store T x y,ty,ps,af,g⟩ (fun w'=>OwnS w' b e k enc (.slice (some ⟨B,0,none⟩) m cp) (xs.set i z)∧Fr (· =B) w w'∧w'.heap.size=w.heap.size):=fun a ha=>by
 have hkl:∀x,(enc x).toList.length=k:=fun x=>by rw[c9,hk]
 obtain⟨hl,⟨e',_⟩|⟨g',cap,cur,e',hb,hg,hcap,hcm,hcs,htk⟩⟩:=ho
 · cases e'
 cases e'
 have hik:i*k+k≤xs.length*k:=by
   have:(i+1)*k≤xs.length*k:=fi k hi
   rw[eu,jz]at this
   exact this
 have hmk:xs.length*k≤cp*k:=fi k oQ
 obtain⟨w',hr,hset⟩:=SEv.Vj (P:=P) (n:=n) (ds:=ds) (l:=l) (w:=w) (ty:=ty) (ps:=ps) (af:=af) (g:=g) hs (hk z) hx hy (h1 z) (show Blk w B cur e from hg) (by rw[hk,hcs];omega) a ha
 refine⟨w',hr,⟨by rw[d9,F0 _ k hkl,d9],.inr ⟨B,cp,_,by rw[d9],hb,hset.blk,by rw[d9];omega,hcm,?_,?_⟩⟩,hset.sto.fr,hset.size⟩
 · have hz:=hkl z
   simp only[Ox,i6,ak,cc,kl,c9]
   rw[c9]at hz
   omega
 have hz:=hkl z
 rw[d9,Y5 _ k hkl xs i z (by omega)]
 simp only[Ox]
 rw[hz,dp,List.take_append,List.take_append]
 have hcl:cur.toList.length=cp*k:=by rw[c9];exact hcs
 have t1:(cur.toList.take (i*k)).take (xs.length*k)=cur.toList.take (i*k):=by rw[gu,i_ (by omega)]
 have t2:(cur.toList.take (i*k)).length=i*k:=by rw[cc];omega
 have t3:((enc z).toList).take (xs.length*k-i*k)=(enc z).toList:=gc oQ
 have t4:(cur.toList.take (i*k)++(enc z).toList).length=i*k+k:=by rw[ak,t2,hz]
 rw[t1,t2,t3,t4]
 have s1:(xs.flatMap fun x=>(enc x).toList).take (i*k)=cur.toList.take (i*k):=by rw[←htk,gu,dq (by omega)]
 have s2:(xs.flatMap fun x=>(enc x).toList).drop (i*k+k)=(cur.toList.drop (i*k+k)).take (xs.length*k-(i*k+k)):=by rw[←htk,List.drop_take]
 rw[s1,s2]
theorem Ez{α:Type}{enc:α→Array Value}{k:Nat}{e T:TypeId}{x y:Operand}{B m cp i:Nat}{xs:List α}{z:α}(hs:∀w,(sizeOf T).run P w=.ok k w)(hk:∀x,(enc x).size=k)(h1:∀x,(enc x).all (·.oneCell')=true)(hx:Val l x (.pointer (some ⟨B,0+i*k,none⟩)))(hy:Val l y (.agg (enc z)))(ho:OwnS w 0 e k enc (.slice (some ⟨B,0,none⟩) m cp) xs)(hi:i<m):
   SEv P n ds l w ⟨none,.store T x y,ty,ps,af,g⟩ (fun w'=>Stp (Aw e k enc (.slice (some ⟨B,0,none⟩) m cp) xs) (Aw e k enc (.slice (some ⟨B,0,none⟩) m cp) (xs.set i z)) w w'):=fun a ha=>
 let⟨w',hr,h2,h3,_⟩:=Xc (ty:=ty) (ps:=ps) (af:=af) (g:=g) hs hk h1 hx hy ho hi a ha
 ⟨w',hr,⟨h3.mono (fun i(e:i=B)=>by rw[e];rfl),h2,fun _ h=>.inl h⟩⟩
end
section
variable {P:Program}{n:Nat}{ds:List Deferred}{l:Env}{w:World}{d:Option Tmp}{ty:TypeId}{ps:String}{af:Array Edge}{g:Option (Nat×Bool)}
theorem PEv.Nt{T T':TypeId}{x y:Operand}{i j:Nat}(hx:Val l x (.int .i64 (i:Int)))(hy:Val l y (.int .i64 (j:Int)))(h:j≤i)(h2:i<9223372036854775807):PEv P n ds l w ⟨d,.binOp .sub T x y T',ty,ps,af,g⟩ (.int .i64 ((i-j:Nat):Int)):=by
 have:=PEv.sub (P:=P) (n:=n) (ds:=ds) (l:=l) (w:=w) (d:=d) (ty:=ty) (ps:=ps) (af:=af) (g:=g) (T:=T) (T':=T') hx hy oQ oQ
 rw[Int.ofNat_sub h];exact this
theorem PEv.Eu{T e k:Nat}{x ix:Operand}{B o size:Nat}{j:Nat}(hT:P.underlying T=some (.array k e))(hs:∀w,(sizeOf e).run P w=.ok size w)(hx:Val l x (.pointer (some ⟨B,o,none⟩)))(hi:Val l ix (.int .i64 (j:Int)))(hj:j<k):
   PEv P n ds l w ⟨d,.indexAddr T x ix,ty,ps,af,g⟩ (.pointer (some ⟨B,o+j*size,none⟩)):=fun a w' ha _=>by
 refine C0 ?_
 rw[ha.ev hx,ha.ev hi]
 simp[Instr.indexAt,asIntOf,run_underlying hT,Sem.run_bind,Instr.sureAddr,hs,E3,hj]
theorem PEv.dec{T T':TypeId}{x:Operand}{i:Nat}(hx:Val l x (.int .i64 (i:Int)))(h:1≤i)(h2:i<9223372036854775807):PEv P n ds l w ⟨d,.binOp .sub T x (.const (.int .i64 1)) T',ty,ps,af,g⟩ (.int .i64 ((i-1:Nat):Int)):=by
 have:=PEv.sub (P:=P) (n:=n) (ds:=ds) (l:=l) (w:=w) (d:=d) (ty:=ty) (ps:=ps) (af:=af) (g:=g) (T:=T) (T':=T') hx (.const (.int .i64 1)) oQ oQ
 rw[Int.ofNat_sub h];exact this
end
theorem SEv.mono{P:Program}{n:Nat}{ds:List Deferred}{l:Env}{w:World}{o:Oper}{Post Post':World→Prop}(h:SEv P n ds l w o Post)(k:∀w',Post w'→Post' w'):SEv P n ds l w o Post':=fun a ha=>let⟨w',h1,h2⟩:=h a ha;⟨w',h1,k w' h2⟩
def Rp(ops:Array Oper)(i s:Nat):Bool:=match ops[s]? with
 |none=>false
 |some o=>o.after.any fun e=>Region.binds .any e&&Nat.beq e.on i
theorem Su{ops:Array Oper}{i s:Nat}(h:Rp ops i s=true):∃o,ops[s]?=some o∧∃e∈o.after,Region.binds .any e=true∧e.on=i:=by
 unfold Rp at h
 cases ho:ops[s]? with
 |none=>rw[ho]at h;cases h
 |some o=>
   rw[ho]at h
   obtain⟨q,hq,h2⟩:=fk.1 h
   simp only[b6]at h2
   exact⟨o,rfl,_,ez hq,h2.1,ci h2.2⟩
section
variable {R:Option Nat}{m:Nat}{P:Program}{n:Nat}{ds:List Deferred}{Q:Exit→Go.Act→World→Prop}{l:Env}{w:World}{ops:Array Oper}
theorem Lb{id:Nat}{opsL:List Oper}(s1 s2:Nat)(vs:List Value)(A0 A1 A2:World→Prop)(hm:P.follows .mixedOrders=true)(hl:Cq l=true)
   (hA:Dz opsL.toArray=true)(hF:Ik opsL.toArray opsL.toArray.size=true)(hD:Gw n opsL.toArray 0 opsL.toArray.size=true)(hs:Rp opsL.toArray s1 s2=true)(hns:Nat.beq s1 s2=false)
   (hfree:Ji l opsL=true)(h0:A0 w.drew)
   (hop:allL (fun i o=>(i=s1∨i=s2)∨(o.guard=none∧((Rp opsL.toArray i s1=true∧∀W,A0 W→PEv P n ds (Jt opsL.toArray (fun i=>.eq (vs.getD i undef)) 0 o++l) W o (vs.getD i undef))∨∀W,PEv P n ds (Jt opsL.toArray (fun i=>.eq (vs.getD i undef)) 0 o++l) W o (vs.getD i undef)))) 0 opsL)
   (o1 o2:Oper)(ho1:opsL[s1]?=some o1)(ho2:opsL[s2]?=some o2)(hg1:o1.guard=none∧o1.dst=none)(hg2:o2.guard=none∧o2.dst=none)
   (hs1:∀W,A0 W→SEv P n ds (Jt opsL.toArray (fun i=>.eq (vs.getD i undef)) 0 o1++l) W o1 A1)(hs2:∀W,A1 W→SEv P n ds (Jt opsL.toArray (fun i=>.eq (vs.getD i undef)) 0 o2++l) W o2 A2)
   (hend:∀W,A2 W→KW n ds (Q .normal) l W):CW R m P n ds (.region id opsL.toArray true) Q l w:=by
 have hbd:∀i ph,lk l i=some ph→∀(j:Nat)(o:Oper),0≤j→j<opsL.toArray.size→opsL.toArray[j]?=some o→o.dst≠some i:=fun i ph hi j o _ hjk ho=>Gf hfree hi (ai (by simpa using ho))
 obtain⟨p2,hp2,e2,he2,hb2,hon2⟩:=Su hs
 have ho1':opsL.toArray[s1]?=some o1:=by simpa using ho1
 have ho2':opsL.toArray[s2]?=some o2:=by simpa using ho2
 have:p2=o2:=by rw[ho2']at hp2;cases hp2;rfl
 subst this
 have hl1:s1<opsL.toArray.size:=(cb.1 ho1').1
 have hl2:s2<opsL.toArray.size:=(cb.1 ho2').1
 have hne:s1≠s2:=fun e=>by subst e;simp at hns
 refine Db hm hl fun fuel listed a hf hu ha=>(H3 (s:=0) (k:=opsL.toArray.size) (fun i=>.eq (vs.getD i undef)) (fun _ _=>True) (fun L _ W=>if L s2=true then A2 W else if L s1=true then A1 W else A0 W) (f0:=fun t=>a.tmps.getD t undef) (fun _=>trivial) (fun _ _ _ _ _=>trivial) (fun _ _ _ _ h _=>h) hA (by simp) hF (by simp) (by simp) hD hl hbd ?_ ?_ ?_ fuel listed a hf hu ha (fun _=>rfl))
 · intro i o _ hi hio L f W _ hDn hLi hed hInv a ha hsl
   have hio':opsL[i]?=some o:=by simpa using hio
   by_cases e1:i=s1
   · subst e1
     rw[ho1']at hio;cases hio
     rw[bh (by simp[Region.wanted,hg1.1])]
     have n2:L s2=false:=by
       cases h:L s2 with
       |false=>rfl
       |true=>have:=hDn s2 _ ho2' h e2 he2 hb2;rw[hon2,hLi]at this;cases this
     rw[n2,hLi]at hInv
     obtain⟨W',hr,hp⟩:=hs1 W hInv a ha
     refine .inr ⟨W',hr,trivial,(fun d hd=>by rw[hg1.2]at hd;cases hd),?_⟩
     have t1:Cs L i s2=false:=by simp[Cs,Ne.symm hne,n2]
     have t2:Cs L i i=true:=by simp[Cs]
     rw[t1,t2]
     exact hp
   by_cases e3:i=s2
   · subst e3
     rw[ho2']at hio;cases hio
     rw[bh (by simp[Region.wanted,hg2.1])]
     have y1:L s1=true:=by have:=hed e2 he2 hb2;rwa [hon2]at this
     rw[hLi,y1]at hInv
     obtain⟨W',hr,hp⟩:=hs2 W hInv a ha
     refine .inr ⟨W',hr,trivial,(fun d hd=>by rw[hg2.2]at hd;cases hd),?_⟩
     have t2:Cs L i i=true:=by simp[Cs]
     rw[t2]
     exact hp
   have h3:=hop.at hio'
   rw[dp]at h3
   rcases h3 with(h|h)|⟨hg,h3⟩
   · exact absurd h e1
   · exact absurd h e3
   rw[bh (by simp[Region.wanted,hg])]
   have q1:Cs L i s1=L s1:=by simp[Cs,Ne.symm e1]
   have q2:Cs L i s2=L s2:=by simp[Cs,Ne.symm e3]
   have hr:(execOp a.eval o).run P W=.ok (.value (vs.getD i undef)) W:=by
     rcases h3 with⟨hE,h3⟩|h3
     · obtain⟨p,hp,e,he,hb,hon⟩:=Su hE
       have n1:L s1=false:=by
         cases h:L s1 with
         |false=>rfl
         |true=>have:=hDn s1 p hp h e he hb;rw[hon,hLi]at this;cases this
       have n2:L s2=false:=by
         cases h:L s2 with
         |false=>rfl
         |true=>have:=hDn s2 _ ho2' h e2 he2 hb2;rw[hon2,n1]at this;cases this
       rw[n1,n2]at hInv
       exact h3 W hInv a W ha (Up.refl W)
     exact h3 W a W ha (Up.refl W)
   refine .inl (.inl ⟨_,W,hr,trivial,fun _ _=>rfl,?_⟩)
   rw[q1,q2]
   exact hInv
 · simpa using h0
 intro f W _ hInv fuel' listed' a' hf' hu' ha' hsl'
 have hInv:A2 W:=by
   rw[bh (bj hl2)]at hInv
   exact hInv
 have hall:∀j,j<opsL.toArray.size→listed'.getD j false=true:=fun j hj=>by rw[hu'.2 j hj];simpa using hj
 have hrd:Region.ready .any opsL.toArray listed'=[]:=by
   rw[gw]
   intro i hi
   obtain⟨o,hio,hbi,_⟩:=(Ge hu'.1).1 hi
   have:=hall i (cb.1 hio).1
   rw[hbi]at this;cases this
 have hq:Q .normal a' W:=hend W hInv a' ⟨ha'.defers,ha'.size,fun t q ht=>by
   refine ha'.val t q ?_
   rw[F8]
   · exact ht
   cases hq:lk (Hg opsL.toArray (fun i=>.eq (vs.getD i undef)) 0 opsL.toArray.size) t with
   |none=>rfl
   |some q'=>
     obtain⟨j,p,_,hjk,hp,hpd,_⟩:=Fg hq
     exact absurd hpd (hbd t q ht j p (a8 _) hjk hp)⟩
 cases fuel' with
 |zero=>exact⟨hrd,hq⟩
 |succ fuel'=>exact⟨fun _=>hq,fun i hi=>by rw[hrd]at hi;cases hi⟩
end
theorem Vr{α:Type}(f:α→List Value)(k j:Nat)(v:Value)(hf:∀x,(f x).length=k)(hj:j<k):∀(xs:List α)(i:Nat)(x0 z:α),xs[i]?=some x0→f z=(f x0).set j v→(xs.set i z).flatMap f=(xs.flatMap f).set (i*k+j) v
 |[],_,_,_,h,_=>by simp at h
 |x::xs,0,x0,z,h,hz=>by
   have e:x=x0:=by simpa using h
   subst e
   rw[List.set_cons_zero,cw,cw,hz,List.set_append_left _ _ (by rw[hf];omega)]
   congr 2;omega
 |x::xs,i+1,x0,z,h,hz=>by
   rw[gx,cw,cw,Vr f k j v hf hj xs i x0 z (by simpa using h) hz]
   have e1:(i+1)*k=k+i*k:=by rw[eu,jz,j9]
   rw[List.set_append_right _ _ (by rw[hf,e1];omega),hf,e1]
   congr 2;omega
section
variable {P:Program}{n:Nat}{ds:List Deferred}{l:Env}{w:World}{ty:TypeId}{ps:String}{af:Array Edge}{g:Option (Nat×Bool)}
theorem SEv.I9{α:Type}{enc:α→Array Value}{k:Nat}{e T:TypeId}{x y:Operand}{B m cp i j:Nat}{xs:List α}{x0 z:α}{v:Value}(hs:∀w,(sizeOf T).run P w=.ok 1 w)(hk:∀x,(enc x).size=k)(h1:v.oneCell'=true)(hx:Val l x (.pointer (some ⟨B,0+i*k+j,none⟩)))(hy:Val l y v)(ho:OwnS w 0 e k enc (.slice (some ⟨B,0,none⟩) m cp) xs)(hx0:xs[i]?=some x0)(hj:j<k)(hz:(enc z).toList=(enc x0).toList.set j v):
   SEv P n ds l w ⟨none,.store T x y,ty,ps,af,g⟩ (fun w'=>Stp (Aw e k enc (.slice (some ⟨B,0,none⟩) m cp) xs) (Aw e k enc (.slice (some ⟨B,0,none⟩) m cp) (xs.set i z)) w w'):=fun a ha=>by
 have hi:=(am.1 hx0).1
 have hkl:∀x,(enc x).toList.length=k:=fun x=>by rw[c9,hk]
 obtain⟨hl,⟨e',_⟩|⟨g',cap,cur,e',hb,hg,hcap,hcm,hcs,htk⟩⟩:=ho
 · cases e'
 cases e'
 have hik:i*k+k≤xs.length*k:=by
   have:(i+1)*k≤xs.length*k:=fi k hi
   rw[eu,jz]at this
   exact this
 have hmk:xs.length*k≤cp*k:=fi k oQ
 obtain⟨w',hr,hset⟩:=SEv.store (P:=P) (n:=n) (ds:=ds) (l:=l) (w:=w) (ty:=ty) (ps:=ps) (af:=af) (g:=g) hs hx hy h1 (show Blk w B cur e from hg) (by rw[hcs];omega) a ha
 refine⟨w',hr,hset.sto.fr.mono (fun i(e:i=B)=>by rw[e];rfl),⟨by rw[d9,F0 _ k hkl,d9],.inr ⟨B,cp,_,by rw[d9],hb,hset.blk,by rw[d9];omega,hcm,?_,?_⟩⟩,fun _ h=>.inl h⟩
 · rw[jn];exact hcs
 rw[d9,Vr (fun x=>(enc x).toList) k j v hkl hj xs i x0 z hx0 hz,←htk,il,List.take_set,dp]
end
section
variable {P:Program}{n:Nat}{ds:List Deferred}{l:Env}{w:World}{d:Option Tmp}{ty:TypeId}{ps:String}{af:Array Edge}{g:Option (Nat×Bool)}
theorem PEv.pC{T Ts e:TypeId}{x:Operand}{v:Value}{bs:List UInt8}(hT:P.underlying T=some (.slice e))(he:P.underlying e=some (.int .u8))(hTs:P.underlying Ts=some .string)(hx:Val l x v)(hS:Sl w v 1 Pz bs):
   PEv P n ds l w ⟨d,.convert T Ts x,ty,ps,af,g⟩ (.string ⟨bs.toArray⟩):=fun a w' ha hu=>by
 refine C0 ?_
 rw[ha.ev hx]
 obtain⟨ad,c,rfl,hE⟩:=hS
 cases ad with
 |none=>
   have hbs:bs=[]:=by
     cases bs with
     |nil=>rfl
     |cons b r=>obtain⟨B,o,e,_⟩:=hE 0 b rfl;cases e
   subst hbs
   exact run_convert_bytes_nil (P:=P) w' T e hT he 0 c Ts hTs
 |some a0=>
   refine run_convert_bytes_back (P:=P) w' T Ts e a0 c bs hT he hTs (fun q hq=>?_)
   obtain⟨B,o,e,hc⟩:=hE q bs[q] (cx hq)
   cases e
   rw[E3]
   have:=hc 0 (bv bs[q]) rfl
   simp only[fz,fo]at this
   exact G2 this hu
end
theorem Sep.Ln{α:Type}{S0:Nat→Prop}{w0 w:World}{As:List Asr}{e k:Nat}{enc:α→Array Value}(h:Sep S0 w0 w As)(ho:OwnS w 0 e k enc (.slice none 0 0) ([]:List α)):Sep S0 w0 w (As++[Aw e k enc (.slice none 0 0) ([]:List α)]):=h.add (Up.refl _) ho (fun i h=>by cases h)
theorem Sep.perm{S0:Nat→Prop}{w0 w:World}{As Bs:List Asr}(h:Sep S0 w0 w As)(p:As.Perm Bs):Sep S0 w0 w Bs:=⟨h.fr,fun B hB=>h.each B (p.mem_iff.2 hB),(p.pairwise_iff (fun{_ _}hAB i hi hj=>hAB i hj hi)).1 h.apart⟩
theorem OwnS.HT{α:Type}{enc:α→Array Value}{b k n cp:Nat}{e:TypeId}{w:World}{ad:Option Addr}{xs:List α}(h:OwnS w b e k enc (.slice ad n cp) xs)(hne:0<xs.length):∃g,ad=some ⟨g,0,none⟩:=by
 obtain⟨_,⟨e1,e2⟩|⟨g,cap,cur,e1,_⟩⟩:=h
 · omega
 cases e1;exact⟨g,rfl⟩
section
variable {R:Option Nat}{m:Nat}{P:Program}{n:Nat}{ds:List Deferred}{Q:Exit→Go.Act→World→Prop}{l:Env}{w:World}{ops:Array Oper}
theorem AWF.kP{k ia is isv sa sv:Nat}{T:TypeId}{z:Array Value}{base:Env}(ph:Nat→Ph){f0:Nat→Value}(hz:∀w,(zeroValue T).run P w=.ok (.agg z) w)(hs:∀w,(sizeOf T).run P w=.ok z.size w)
   (hph:∀i v w w',(ph i).holds v w→KeepT T w w'→(ph i).holds v w')(hA:Dz ops=true)(hC:(Nat.beq k ops.size||Fv ops k)=true)(hF:Ik ops k=true)(hks:Nat.ble k ops.size=true)
   (hD:Gw n ops 0 k=true)(hbp:Cq base=true)(hbd:∀i ph,lk base i=some ph→∀(j:Nat)(o:Oper),0≤j→j<k→ops[j]?=some o→o.dst≠some i)
   (hlit:Ou ops ia [(is,0,sv)]=true)(hik:is<k)(hiak:ia<k)(hne:ia≠is)
   (hia:∃ty ps af,ops[ia]?=some ⟨some sa,.alloc T,ty,ps,af,none⟩)(his:∃ty ps af,ops[is]?=some ⟨none,.store T (.tmp sa) (.tmp sv),ty,ps,af,none⟩)
   (hlk:∀o,ops[is]?=some o→lk (Jt ops ph 0 o++base) sv=some (ph isv))(hsv:∀v W,(ph isv).holds v W→∃cs,v=.agg cs∧cs.size=z.size∧cs.all (·.oneCell')=true)
   (hpa:∀B W,(ph ia).holds (.pointer (some ⟨B,0,none⟩)) W)
   (hop:∀i o,i<k→i≠ia→i≠is→ops[i]?=some o→o.guard=none∧∀W,Up w W→∀a,Ag n ds (Jt ops ph 0 o++base) a W→cK P o a W (fun v W'=>Up W W'∧(ph i).holds v W'))
   (hend:∀f W B,Up w W→f sa=.pointer (some ⟨B,0,none⟩)→w.heap.size≤B→Blk W B (f sv).cells T→AWF R m P n ds ops Q k (Hg ops ph 0 k++base) f W):AWF R m P n ds ops Q 0 base f0 w:=by
 obtain⟨os,hos,hods,⟨e,he,hbe,hon⟩,⟨e',he',hbe',pv,hpv,hpvd⟩⟩:=Hh hlit b7
 refine H3 ph (KeepT T) (tR ia is sa sv T z w) (KeepT.refl T) (fun _ _ _=>KeepT.trans) hph hA hC hF hks (by simp) hD hbp hbd ?_ ⟨Up.refl w,fun h=>by simp at h,fun h=>by simp at h⟩ ?_
 · intro i o _ hi hio L f W hRel hDn hLi hed hInv
   obtain⟨hUp,hsa,hInv⟩:=hInv
   by_cases e0:i=ia
   · subst e0
     obtain⟨ty,ps,af,hia⟩:=hia
     rw[hio]at hia;cases hia
     intro a ha hsl
     rw[bh (by simp[Region.wanted])]
     obtain⟨v,W',hr,B,rfl,N⟩:=REv.Cb (P:=P) (n:=n) (ds:=ds) (l:=Jt ops ph 0 _++base) (w:=W) (d:=some sa) (ty:=ty) (ps:=ps) (af:=af) (g:=none) hz a ha
     have hLs:L is=false:=by
       cases h:L is with
       |false=>rfl
       |true=>rw[hsa h]at hLi;cases hLi
     refine .inl (.inl ⟨_,W',hr,N.up.Dj,fun _ _=>hpa B W',hUp.trans N.up,fun _=>by simp[Cs],fun _=>⟨B,by simp[Dv],by rw[N.at_];exact hUp.size,?_⟩⟩)
     have:Cs L i is=false:=by simp[Cs,Ne.symm hne,hLs]
     rw[this]
     exact N.blk
   by_cases e1:i=is
   · subst e1
     have hLa:L ia=true:=by rw[hos]at hio;cases hio;rw[←hon];exact hed e he hbe
     obtain⟨ty,ps,af,his⟩:=his
     rw[hio]at his;cases his
     intro a ha hsl
     rw[bh (by simp[Region.wanted])]
     obtain⟨B,h1,hB,hblk⟩:=hInv hLa
     rw[hLi]at hblk
     obtain⟨cs,hcs,hcz,hc1⟩:=hsv _ W (ha.val sv _ (hlk _ hio))
     have hfs:f sv=.agg cs:=by rw[←hsl];exact hcs
     have hag:Ag n ds [(sv,.eq (.agg cs)),(sa,.eq (.pointer (some ⟨B,0,none⟩)))] a W:=by
       refine⟨ha.defers,ha.size,fun t q ht=>?_⟩
       by_cases e1:t=sv
       · subst e1;rw[A9]at ht;cases ht;exact hcs
       rw[Be e1]at ht
       by_cases e2:t=sa
       · subst e2;rw[A9]at ht;cases ht;exact(hsl _).trans h1
       rw[Be e2]at ht;cases ht
     have hsn:sa≠sv:=fun e'=>by rw[e',hfs]at h1;cases h1
     obtain⟨W',hr,hset⟩:=SEv.Cc (P:=P) (n:=n) (ds:=ds) (w:=W) (l:=[(sv,.eq (.agg cs)),(sa,.eq (.pointer (some ⟨B,0,none⟩)))]) (x:=.tmp sa) (y:=.tmp sv) (ty:=ty) (ps:=ps) (af:=af) (g:=none) hs hcz (.tmp (by rw[Be hsn,A9])) (.tmp A9) hc1 hblk (by simp) a hag
     refine .inr ⟨W',hr,hset.sto.Dj (by rw[hset.size];exact bl _) hblk,(fun d hd=>by cases hd),hUp.sto hset.sto hB,fun _=>by simp[Cs,hLa],fun _=>⟨B,h1,hB,?_⟩⟩
     have h2:Cs L i i=true:=by simp[Cs]
     rw[h2,bh rfl]
     show Blk W' B (f sv).cells T
     rw[hfs]
     exact hset.blk
   obtain⟨hg,hop⟩:=hop i o hi e0 e1 hio
   intro a ha hsl
   rw[bh (by simp[Region.wanted,hg])]
   have done:∀v W',Up W W'∧(ph i).holds v W'→KeepT T W W'∧(∀d,o.dst=some d→(ph i).holds v W')∧tR ia is sa sv T z w (Cs L i) (Dv f o.dst v) W':=by
     rintro v W' ⟨hu,hv⟩
     have ela:Cs L i ia=L ia:=by simp[Cs,Ne.symm e0]
     have els:Cs L i is=L is:=by simp[Cs,Ne.symm e1]
     refine⟨hu.Dj,fun _ _=>hv,hUp.trans hu,fun h=>by rw[ela];rw[els]at h;exact hsa h,fun hm=>?_⟩
     rw[ela]at hm
     obtain⟨B,h1,hB,hblk⟩:=hInv hm
     have hn1:o.dst≠some sa:=by
       obtain⟨ty,ps,af,hia⟩:=hia
       intro ed
       exact(Da hD (a8 _) hi hio ed).2 ia _ (a8 _) hiak (Ne.symm e0) hia rfl
     refine⟨B,by simpa[Dv,hn1]using h1,hB,?_⟩
     rw[els]
     cases hLs:L is with
     |false=>rw[hLs]at hblk;exact hblk.up hu
     |true=>
       rw[hLs]at hblk
       have hn2:o.dst≠some sv:=by
         intro ed
         have h2:=hDn _ _ hos hLs e' he' hbe'
         have h3:=Ef hA hos e' he' hbe'
         by_cases ee:e'.on=i
         · rw[ee,hLi]at h2;cases h2
         exact(Da hD (a8 _) hi hio ed).2 e'.on pv (a8 _) (by have:e'.on<is:=h3;omega) ee hpv hpvd
       have h4:Dv f o.dst v sv=f sv:=by simp[Dv,hn2]
       rw[h4]
       exact hblk.up hu
   rcases hop W hUp a ha with⟨v,W',hr,hp⟩|⟨fn,args,w1,hr,hc⟩
   · exact .inl (.inl ⟨v,W',hr,done v W' hp⟩)
   exact .inl (.inr ⟨fn,args,w1,hr,hc.mono done⟩)
 intro f W hRel hInv
 obtain⟨hUp,_,hInv⟩:=hInv
 obtain⟨B,h1,hB,h2⟩:=hInv (by simpa using hiak)
 rw[bh (by simpa using hik)]at h2
 exact hend f W B hUp h1 hB h2
theorem Rq{id:Nat}{opsL:List Oper}(k ia is isv sa sv:Nat)(z:Array Value)(phs:List Ph)(keep:List Nat){T:TypeId}(hz:∀w,(zeroValue T).run P w=.ok (.agg z) w)(hs:∀w,(sizeOf T).run P w=.ok z.size w)(hm:P.follows .mixedOrders=true)(hl:Cq l=true)
   (hA:Dz opsL.toArray=true)(hC:(Nat.beq k opsL.toArray.size||Fv opsL.toArray k)=true)(hF:Ik opsL.toArray k=true)(hks:Nat.ble k opsL.toArray.size=true)(hD:Gw n opsL.toArray 0 k=true)(hlit:Ou opsL.toArray ia [(is,0,sv)]=true)(hTl:Gv opsL.toArray k=true)
   (hfree:Ji l (opsL.take k)=true)(hidx:(Nat.ble (is+1) k&&(Nat.ble (ia+1) k&& !Nat.beq ia is))=true)
   (hia:∃ty ps af,opsL[ia]?=some ⟨some sa,.alloc T,ty,ps,af,none⟩)(os:Oper)(hos:opsL[is]?=some os)(his:∃ty ps af,os=⟨none,.store T (.tmp sa) (.tmp sv),ty,ps,af,none⟩)(hph:allT T phs)
   (hlk:lk (Jt opsL.toArray (fun i=>phs.getD i (.eq undef)) 0 os++l) sv=some (phs.getD isv (.eq undef)))(hsv:∀v W,(phs.getD isv (.eq undef)).holds v W→∃cs,v=.agg cs∧cs.size=z.size∧cs.all (·.oneCell')=true)
   (hpa:∀B W,(phs.getD ia (.eq undef)).holds (.pointer (some ⟨B,0,none⟩)) W)
   (hop:∀W,Up w.drew W→allL (fun i o=>(i=ia∨i=is)∨(o.guard=none∧TU P n ds (Jt opsL.toArray (fun i=>phs.getD i (.eq undef)) 0 o++l) W o (phs.getD i (.eq undef)))) 0 (opsL.take k))
   (hend:∀W B(g:Nat→Value),Up w.drew W→w.drew.heap.size≤B→Blk W B (g sv).cells T→(∀i o d,i<k→opsL[i]?=some o→o.dst=some d→(phs.getD i (.eq undef)).holds (g d) W)→LW R m P n ds opsL.toArray Q (opsL.drop k) ((sa,.eq (.pointer (some ⟨B,0,none⟩)))::(keep.map (fun d=>(d,.eq (g d)))++l)) W):
   CW R m P n ds (.region id opsL.toArray true) Q l w:=by
 simp only[b6]at hidx
 obtain⟨hik,hiak,hne⟩:=hidx
 have hik:is<k:=a_ hik
 have hiak:ia<k:=a_ hiak
 have hne:ia≠is:=fun e=>by subst e;simp at hne
 have hks':k≤opsL.length:=by have:=a_ hks;simp at this;omega
 have sub:∀j o,j<k→opsL.toArray[j]?=some o→(opsL.take k)[j]?=some o:=fun j o hjk ho=>by
   rw[dm hjk];simpa using ho
 have hbd:∀i ph,lk l i=some ph→∀(j:Nat)(o:Oper),0≤j→j<k→opsL.toArray[j]?=some o→o.dst≠some i:=fun i ph hi j o _ hjk ho=>Gf hfree hi (ai (sub j o hjk ho))
 refine Db hm hl fun fuel listed a hf hu ha=>(AWF.kP (k:=k) (ia:=ia) (is:=is) (isv:=isv) (sa:=sa) (sv:=sv) (T:=T) (z:=z) (fun i=>phs.getD i (.eq undef)) (f0:=fun t=>a.tmps.getD t undef) hz hs (fun i v w w' h u=>(hph.at i) v w w' h u) hA hC hF hks hD hl hbd hlit hik hiak hne (by simpa using hia) ?_ ?_ hsv hpa ?_ ?_ fuel listed a hf hu ha (fun _=>rfl))
 · obtain⟨ty,ps,af,e⟩:=his
   exact⟨ty,ps,af,by rw[←e];simpa using hos⟩
 · intro o ho
   have:opsL[is]?=some o:=by simpa using ho
   rw[hos]at this;cases this
   exact hlk
 · intro i o hi h1 h2 ho
   have h0:=(hop w.drew (Up.refl _)).at (sub i o hi ho)
   rw[dp]at h0
   rcases h0 with(e|e)|⟨hg,_⟩
   · exact absurd e h1
   · exact absurd e h2
   refine⟨hg,fun W hW a ha=>?_⟩
   have h3:=(hop W hW).at (sub i o hi ho)
   rw[dp]at h3
   rcases h3 with(e|e)|⟨_,h⟩
   · exact absurd e h1
   · exact absurd e h2
   exact h a ha
 intro f W B hUp hfa hB hblk fuel' listed' a' hf' hu' ha' hsl'
 have key:∀i o d,i<k→opsL[i]?=some o→o.dst=some d→(phs.getD i (.eq undef)).holds (f d) W:=by
   intro i o d hik ho hd
   have ho':opsL.toArray[i]?=some o:=by simpa using ho
   have hmem:(d,phs.getD i (.eq undef))∈Hg opsL.toArray (fun i=>phs.getD i (.eq undef)) 0 k:=by
     unfold Hg
     rw[f5]
     exact⟨i,cn.2 hik,by rw[bh (by simp),ho'];simp[hd]⟩
   obtain⟨q',hq⟩:=Hv hmem
   obtain⟨j,p,_,hjk,hp,hpd,e⟩:=Fg hq
   have:j=i:=by
     by_cases ee:j=i
     · exact ee
     exact absurd hpd ((Da hD (a8 _) hik ho' hd).2 j p (a8 _) hjk ee hp)
   subst this
   have:=ha'.val d q' (K8 hq)
   rw[hsl',e]at this
   exact this
 refine E4 hTl hA (opsL.toArray.size-k) k fuel' listed' a' W rfl (by simp;omega) (bl _) hf' hu' (hend W B f hUp hB hblk key a' ⟨ha'.defers,ha'.size,fun t q ht=>?_⟩)
 by_cases e:t=sa
 · subst e;rw[A9]at ht;cases ht
   exact(hsl' _).trans hfa
 rw[Be e]at ht
 rcases Dq ht with h|h
 · obtain⟨d,_,he⟩:=bx.1 (K7 h)
   cases he
   exact hsl' _
 refine ha'.val t q ?_
 rw[F8]
 · exact h
 cases hq:lk (Hg opsL.toArray (fun i=>phs.getD i (.eq undef)) 0 k) t with
 |none=>rfl
 |some q'=>
   obtain⟨j,p,_,hjk,hp,hpd,_⟩:=Fg hq
   exact absurd hpd (hbd t q h j p (a8 _) hjk hp)
end
def Rr(ops:Array Oper):List Nat→List Nat→Bool
 |_,[]=>true
 |acc,j::r=>(match ops[j]? with|some o=>o.after.any fun e=>Region.binds .any e&&acc.contains e.on|none=>false)&&Rr ops (j::acc) r
def O0(ops:Array Oper):List Nat→List Nat→Bool
 |_,[]=>true
 |acc,j::r=>(acc.any fun i=>match ops[i]? with|some o=>o.after.any fun e=>Region.binds .any e&&Nat.beq e.on j|none=>false)&&O0 ops (j::acc) r
def zO(ops:Array Oper)(k h:Nat)(early:List Nat):Bool:=(List.range k).all fun i=>Nat.beq i h||early.contains i||(match ops[i]? with|some o=>o.after.all fun e=> !(Region.binds .any e&&early.contains e.on)|none=>true)
def keptL(K:World→World→Prop)(skip:List Nat):Nat→List Ph→Prop
 |_,[]=>True
 |i,q::r=>(skip.contains i=true∨∀v W W',q.holds v W→K W W'→q.holds v W')∧keptL K skip (i+1) r
theorem keptL.at{K:World→World→Prop}{skip:List Nat}:∀{l:List Ph}{s:Nat},keptL K skip s l→∀i,skip.contains (s+i)=false→∀v W W',(l.getD i (.eq undef)).holds v W→K W W'→(l.getD i (.eq undef)).holds v W'
 |[],_,_,i,_,v,W,W',h,_=>by
   have e:([]:List Ph).getD i (.eq undef)=.eq undef:=by simp
   rw[e]at h⊢
   exact h
 |q::r,s,hk,0,hs,v,W,W',h,k=>by
   rcases hk.1 with e|e
   · rw[show s+0=s from rfl]at hs;rw[hs]at e;cases e
   simpa using e v W W' (by simpa using h) k
 |q::r,s,hk,i+1,hs,v,W,W',h,k=>by
   simpa using hk.2.at i (by rw[show s+1+i=s+(i+1)by omega];exact hs) v W W' (by simpa using h) k
theorem iA{ops:Array Oper}{L:Nat→Bool}{h:Nat}(hDn:HS ops L):∀{late acc:List Nat},Rr ops acc late=true→(∀i∈acc,L i=true→L h=true)→∀j∈late,L j=true→L h=true
 |[],_,_,_,j,hj,_=>by cases hj
 |i::r,acc,hl,ha,j,hj,hL=>by
   unfold Rr at hl
   rw[b6]at hl
   have hi:L i=true→L h=true:=fun h1=>by
     cases ho:ops[i]? with
     |none=>rw[ho]at hl;cases hl.1
     |some o=>
       rw[ho]at hl
       obtain⟨e,he,hb⟩:=Array.any_eq_true'.1 hl.1
       rw[b6]at hb
       exact ha e.on (by simpa using hb.2) (hDn i o ho h1 e he hb.1)
   rcases bp.1 hj with rfl|hj
   · exact hi hL
   exact iA hDn hl.2 (fun m hm h2=>(bp.1 hm).elim (fun e=>hi (e▸h2)) (fun hm=>ha m hm h2)) j hj hL
theorem Y6{ops:Array Oper}{L:Nat→Bool}(hDn:HS ops L):∀{early acc:List Nat},O0 ops acc early=true→(∀i∈acc,L i=true)→∀j∈early,L j=true
 |[],_,_,_,j,hj=>by cases hj
 |i::r,acc,hl,ha,j,hj=>by
   unfold O0 at hl
   rw[b6]at hl
   have hi:L i=true:=by
     obtain⟨m,hm,h1⟩:=ip.1 hl.1
     cases ho:ops[m]? with
     |none=>rw[ho]at h1;cases h1
     |some o=>
       rw[ho]at h1
       obtain⟨e,he,hb⟩:=Array.any_eq_true'.1 h1
       rw[b6]at hb
       rw[←ci hb.2]
       exact hDn m o ho (ha m hm) e he hb.1
   rcases bp.1 hj with rfl|hj
   · exact hi
   exact Y6 hDn hl.2 (fun m hm=>(bp.1 hm).elim (fun e=>e▸hi) (fun hm=>ha m hm)) j hj
section
variable {R:Option Nat}{m:Nat}{P:Program}{n:Nat}{ds:List Deferred}{Q:Exit→Go.Act→World→Prop}{l:Env}{w:World}
theorem Y7{id:Nat}{opsL:List Oper}(k h:Nat)(early late:List Nat)(phs:List Ph)(keep:List Nat)(K:World→World→Prop)(hm:P.follows .mixedOrders=true)(hl:Cq l=true)
   (hA:Dz opsL.toArray=true)(hC:(Nat.beq k opsL.toArray.size||Fv opsL.toArray k)=true)(hF:Ik opsL.toArray k=true)(hks:Nat.ble k opsL.toArray.size=true)(hD:Gw n opsL.toArray 0 k=true)(hTl:Gv opsL.toArray k=true)
   (hfree:Ji l (opsL.take k)=true)(hla:Rr opsL.toArray [h] late=true)(hea:O0 opsL.toArray [h] early=true)(hus:zO opsL.toArray k h early=true)(hph:allU phs)(hkp:keptL K (h::(early++late)) 0 phs)
   (hop:∀W,Up w.drew W→allL (fun i o=>o.guard=none∧(i≠h→TU P n ds (Jt opsL.toArray (fun i=>phs.getD i (.eq undef)) 0 o++l) W o (phs.getD i (.eq undef)))∧
     (i=h→∀a,Ag n ds (Jt opsL.toArray (fun i=>phs.getD i (.eq undef)) 0 o++l) a W→cK P o a W (fun v W'=>(Up w.drew W'∧K W W')∧(phs.getD i (.eq undef)).holds v W'))) 0 (opsL.take k))
   (hend:∀W(g:Nat→Value),Up w.drew W→(∀i o d,i<k→early.contains i=false→opsL[i]?=some o→o.dst=some d→(phs.getD i (.eq undef)).holds (g d) W)→LW R m P n ds opsL.toArray Q (opsL.drop k) (keep.map (fun d=>(d,.eq (g d)))++l) W):
   CW R m P n ds (.region id opsL.toArray true) Q l w:=by
 have hks':k≤opsL.length:=by have:=a_ hks;simp at this;omega
 have sub:∀j o,j<k→opsL.toArray[j]?=some o→(opsL.take k)[j]?=some o:=fun j o hjk ho=>by
   rw[dm hjk];simpa using ho
 have hbd:∀i ph,lk l i=some ph→∀(j:Nat)(o:Oper),0≤j→j<k→opsL.toArray[j]?=some o→o.dst≠some i:=fun i ph hi j o _ hjk ho=>Gf hfree hi (ai (sub j o hjk ho))
 refine Db hm hl fun fuel listed a hf hu ha=>(H3 (k:=k) (fun _=>.pred fun _ _=>True) (fun _ _=>True) (fun L f W=>Up w.drew W∧∀(j:Nat)(o:Oper)(d:Nat),j<k→L j=true→opsL.toArray[j]?=some o→o.dst=some d→(early.contains j=true→L h=false)→(phs.getD j (.eq undef)).holds (f d) W) (f0:=fun t=>a.tmps.getD t undef) (fun _=>trivial) (fun _ _ _ _ _=>trivial) (fun _ _ _ _ _ _=>trivial) hA hC hF hks (by simp) hD hl hbd ?_ ⟨Up.refl _,fun j o d _ hj=>by simp at hj⟩ ?_ fuel listed a hf hu ha (fun _=>rfl))
 · intro i o _ hi hio L f W _ hDn hLi hed hInv a ha hsl
   obtain⟨hU,hI⟩:=hInv
   have ha2:Ag n ds (Jt opsL.toArray (fun i=>phs.getD i (.eq undef)) 0 o++l) a W:=by
     refine⟨ha.defers,ha.size,fun t q ht=>?_⟩
     rcases Dq ht with h1|h1
     · obtain⟨e,he,hb,_,p,hp,hpd,rfl⟩:=cW h1
       rw[hsl]
       refine hI e.on p t (by have:=Ef hA hio e he hb;omega) (hed e he hb) hp hpd (fun hE=>?_)
       by_cases ih:i=h
       · rw[←ih];exact hLi
       have h2:=di.1 hus i (cn.2 hi)
       rw[gi,gi]at h2
       rcases h2 with(h2|h2)|h2
       · exact absurd (ci h2) ih
       · cases hLh:L h with
         |false=>rfl
         |true=>
           have:=Y6 hDn hea (fun m hm=>by rw[bn.1 hm];exact hLh) i (by simpa using h2)
           rw[hLi]at this;cases this
       rw[hio]at h2
       have h3:=ck.1 h2 e he
       rw[hb,hE]at h3
       cases h3
     refine ha.val t q ?_
     rw[F8]
     · exact h1
     cases hq:lk (Jt opsL.toArray (fun _=>Ph.pred fun _ _=>True) 0 o) t with
     |none=>rfl
     |some q'=>
       obtain⟨e,he,hb,_,p,hp,hpd,_⟩:=cW hq
       exact absurd hpd (hbd t q h1 e.on p (a8 _) (by have:=Ef hA hio e he hb;omega) hp)
   have h3:=(hop W hU).at (sub i o hi hio)
   rw[dp]at h3
   obtain⟨hg,h3,h4⟩:=h3
   rw[bh (by simp[Region.wanted,hg])]
   by_cases ih:i=h
   · have done:∀v W',(Up w.drew W'∧K W W')∧(phs.getD i (.eq undef)).holds v W'→True∧(∀d,o.dst=some d→(Ph.pred fun _ _=>True).holds v W')∧Up w.drew W'∧∀(j:Nat)(o':Oper)(d:Nat),j<k→Cs L i j=true→opsL.toArray[j]?=some o'→o'.dst=some d→(early.contains j=true→Cs L i h=false)→(phs.getD j (.eq undef)).holds (Dv f o.dst v d) W':=by
       rintro v W' ⟨⟨hu,hk⟩,hv⟩
       refine⟨trivial,fun _ _=>trivial,hu,fun j o' d hj hLj hj' hd hE=>?_⟩
       by_cases e:j=i
       · subst e
         rw[hio]at hj';cases hj'
         simpa[Dv,hd]using hv
       have h5:L j=true:=by simpa[Cs,e]using hLj
       have h6:Dv f o.dst v d=f d:=by
         have:=(Da hD (a8 _) hj hj' hd).2 i o (a8 _) hi (Ne.symm e) hio
         simp[Dv,this]
       rw[h6]
       have h7:early.contains j=false:=by
         cases hc:early.contains j with
         |false=>rfl
         |true=>have:=hE hc;simp[Cs,ih]at this
       have h8:late.contains j=false:=by
         cases hc:late.contains j with
         |false=>rfl
         |true=>
           have:=iA (h:=h) hDn hla (fun m hm h2=>(bn.1 hm)▸h2) j (by simpa using hc) h5
           rw[←ih,hLi]at this;cases this
       refine hkp.at j ?_ _ W W' (hI j o' d hj h5 hj' hd (fun hc=>by rw[h7]at hc;cases hc)) hk
       rw[dp,fu]
       intro hc
       rw[jx,bp,bt]at hc
       rcases hc with hc|hc|hc
       · exact e (hc.trans ih.symm)
       · rw[←jx,h7]at hc;cases hc
       rw[←jx,h8]at hc;cases hc
     rcases h4 ih a ha2 with⟨v,W',hr,hp⟩|⟨fn,args,w1,hr,hc⟩
     · exact .inl (.inl ⟨v,W',hr,done v W' hp⟩)
     exact .inl (.inr ⟨fn,args,w1,hr,hc.mono done⟩)
   have done:∀v W',Up W W'∧(phs.getD i (.eq undef)).holds v W'→True∧(∀d,o.dst=some d→(Ph.pred fun _ _=>True).holds v W')∧Up w.drew W'∧∀(j:Nat)(o':Oper)(d:Nat),j<k→Cs L i j=true→opsL.toArray[j]?=some o'→o'.dst=some d→(early.contains j=true→Cs L i h=false)→(phs.getD j (.eq undef)).holds (Dv f o.dst v d) W':=by
     rintro v W' ⟨hu,hv⟩
     refine⟨trivial,fun _ _=>trivial,hU.trans hu,fun j o' d hj hLj hj' hd hE=>?_⟩
     by_cases e:j=i
     · subst e
       rw[hio]at hj';cases hj'
       simpa[Dv,hd]using hv
     have h5:L j=true:=by simpa[Cs,e]using hLj
     have h6:Dv f o.dst v d=f d:=by
       have:=(Da hD (a8 _) hj hj' hd).2 i o (a8 _) hi (Ne.symm e) hio
       simp[Dv,this]
     rw[h6]
     exact hph.at j _ W W' (hI j o' d hj h5 hj' hd (fun hc=>by have:=hE hc;simpa[Cs,Ne.symm ih]using this)) hu
   rcases h3 ih a ha2 with⟨v,W',hr,hp⟩|⟨fn,args,w1,hr,hc⟩
   · exact .inl (.inl ⟨v,W',hr,done v W' hp⟩)
   exact .inl (.inr ⟨fn,args,w1,hr,hc.mono done⟩)
 intro f W _ hInv fuel' listed' a' hf' hu' ha' hsl'
 obtain⟨hUp,hI⟩:=hInv
 have key:∀i o d,i<k→early.contains i=false→opsL[i]?=some o→o.dst=some d→(phs.getD i (.eq undef)).holds (f d) W:=fun i o d hik hE ho hd=>hI i o d hik (by simpa using hik) (by simpa using ho) hd (fun hc=>by rw[hE]at hc;cases hc)
 refine E4 hTl hA (opsL.toArray.size-k) k fuel' listed' a' W rfl (by simp;omega) (bl _) hf' hu' (hend W f hUp key a' ⟨ha'.defers,ha'.size,fun t q ht=>?_⟩)
 rcases Dq ht with h|h
 · obtain⟨d,_,he⟩:=bx.1 (K7 h)
   cases he
   exact hsl' _
 refine ha'.val t q ?_
 rw[F8]
 · exact h
 cases hq:lk (Hg opsL.toArray (fun _=>Ph.pred fun _ _=>True) 0 k) t with
 |none=>rfl
 |some q'=>
   obtain⟨j,p,_,hjk,hp,hpd,_⟩:=Fg hq
   exact absurd hpd (hbd t q h j p (a8 _) hjk hp)
theorem Ag.Y8{t:Nat}{v:Value}{a:Go.Act}{env:Env}(ha:Ag n ds env a w)(hv:a.tmps.getD t undef=v):Ag n ds ((t,.eq v)::env) a w:=⟨ha.defers,ha.size,fun s q hs=>by
 by_cases e:s=t
 · subst e;rw[A9]at hs;cases hs;exact hv
 rw[Be e]at hs;exact ha.val s q hs⟩
end
section
variable {P:Program}{n:Nat}{ds:List Deferred}{l:Env}{w:World}{d:Option Tmp}{ty:TypeId}{ps:String}{af:Array Edge}{g:Option (Nat×Bool)}
theorem pD{x y:Operand}{ts:Array TypeId}{i j:Int}(hx:Val l x (.int .i64 i))(hy:Val l y (.int .i64 j)):
   PEv P n ds l w ⟨d,.call { callee:=.builtin .max,args:=#[x,y],argTypes:=ts },ty,ps,af,g⟩ (.int .i64 (if i<j then j else i)):=fun a w' ha _=>by
 rw[BigFrame.execOp_builtin,BigFrame.builtin_max]
 refine C0 ?_
 have e:(#[x,y]:Array Operand).map a.eval=#[.int .i64 i,.int .i64 j]:=by simp[ha.ev hx,ha.ev hy]
 rw[e]
 exact run_max_int2 w' _ _ _ _ _ _
end
theorem OwnS.F5{α:Type}{enc:α→Array Value}{b e k:Nat}{w:World}{v:Value}{xs:List α}(h:OwnS w 0 e k enc v xs)(hb:∀i,(Aw e k enc v xs).foot i→b≤i):OwnS w b e k enc v xs:=by
 obtain⟨h1,h2⟩:=h
 refine⟨h1,?_⟩
 rcases h2 with h2|⟨g,cap,cur,e,_,rest⟩
 · exact .inl h2
 exact .inr ⟨g,cap,cur,e,hb g (by rw[e];rfl),rest⟩
class Tu(P:Program)(T:TypeId) where
  u:TypeDesc
  e:P.underlying T=some u
class Ts(P:Program)(T:TypeId) where
  k:Nat
  e:∀w,(sizeOf T).run P w=.ok k w
class Ta(P:Program)(T:TypeId) where
  b:Bool
  e:∀w,(isAgg T).run P w=.ok b w
def nF:List Field→Nat→Option Field
  |[],_=>none
  |x::_,0=>some x
  |_::l,i+1=>nF l i
theorem yF:∀(l:List Field)(i:Nat),nF l i=l[i]?
  |[],_=>rfl
  |_::_,0=>rfl
  |_::l,i+1=>yF l i
section
variable {P:Program}{n:Nat}{ds:List Deferred}{l:Env}{w:World}{d:Option Tmp}{ty:TypeId}{ps:String}{af:Array Edge}{g:Option (Nat×Bool)}{T t B o:Nat}
theorem PEv.fB{S i:Nat}(off:Nat){fs:Array Field}{f:Field}[q:Tu P S](hx:lk l t=some (.eq (.pointer (some ⟨B,o,none⟩))))(hu:q.u=.struct fs:=by exact rfl)(hf:nF fs.toList i=some f:=by exact rfl){T1:TypeId}(ht:f.type=T1:=by exact rfl)[r:Ts P T1](ho:f.offset=off:=by exact rfl)(hk:Nat.beq r.k 0=false:=by exact rfl):PEv P n ds l w ⟨d,.fieldAddr S (.tmp t) i,ty,ps,af,g⟩ (.pointer (some ⟨B,o+off,none⟩)):=.fA off (hu▸q.e) (by rw[yF]at hf;simpa using hf) (ht▸r.e) hx ho hk
theorem PEv.lb{ad:Addr}{v:Value}[q:Ta P T](hx:lk l t=some (.eq (.pointer (some ad))))(hc:w.cell? ad=some v)(hb:q.b=false:=by exact rfl):PEv P n ds l w ⟨d,.load T (.tmp t),ty,ps,af,g⟩ v:=.ld (hb▸q.e) hx hc
theorem PEv.lc{cs:Array Value}[q:Ta P T][r:Ts P T](hx:lk l t=some (.eq (.pointer (some ⟨B,o,none⟩))))(hc:AggAt w B o cs)(hb:q.b=true:=by exact rfl)(hk:cs.size=r.k:=by exact rfl):PEv P n ds l w ⟨d,.load T (.tmp t),ty,ps,af,g⟩ (.agg cs):=.la (hb▸q.e) r.e hx hc hk
end
section
variable {P:Program}{n:Nat}{l:Env}{w:World}{fn:Func}{Post:Value→World→Prop}
theorem KW.q{t:Tmp}{v:Value}(h:Post v w)(hr:fn.results=#[.tmp t]:=by exact rfl)(hv:lk l t=some (.eq v):=by exact rfl):KW n [] (bodyPost P fn (fun e w'=>∃v,e=.returned v∧Post v w') .ret) l w  :=tI hr hv ⟨_,rfl,h⟩
end
section
variable {P:Program}{n:Nat}{ds:List Deferred}{l:Env}{w:World}{d:Option Tmp}{ty:TypeId}{ps:String}{af:Array Edge}{g:Option (Nat×Bool)}{T T':TypeId}{t t':Nat}{v:Value}
theorem Vals.ct{xs:List Operand}{vs:List Value}(h:lk l t=some (.eq v))(r:Vals l xs vs):Vals l (.tmp t::xs) (v::vs):=Vals.cons (.tmp h) r
theorem Vals.cu(h:lk l t=some (.eq v)):Vals l [.tmp t] [v]:=Vals.cons (.tmp h) .nil
theorem Parts.ct{i:Nat}{xs:List (Nat×Operand)}{vs:List (Nat×Value)}(h:lk l t=some (.eq v))(r:Parts l xs vs):Parts l ((i,.tmp t)::xs) ((i,v)::vs):=Parts.cons (.tmp h) r
theorem Parts.cu{i:Nat}(h:lk l t=some (.eq v)):Parts l [(i,.tmp t)] [(i,v)]:=Parts.cons (.tmp h) .nil
theorem PEv.mv(h:lk l t=some (.eq v)):PEv P n ds l w ⟨d,.move (.tmp t),ty,ps,af,g⟩ v:=.move (.tmp h)
theorem PEv.xt{i:Nat}{vs:Array Value}(h:lk l t=some (.eq (.tuple vs)))(hn:nth vs.toList i=some v):PEv P n ds l w ⟨d,.extract (.tmp t) i,ty,ps,af,g⟩ v:=.extract (.tmp h) hn
theorem REv.bA{cs:Array Value}(h:lk l t=some (.eq (.agg cs))):REv P n ds l w ⟨d,.box T (.tmp t),ty,ps,af,g⟩ (cJ w cs T):=.HY (.tmp h)
theorem PEv.ic{k:Nat}(h:lk l t=some (.eq (.int .i64 (k:Int))))(hk:k<9223372036854775807):PEv P n ds l w ⟨d,.binOp .add T (.tmp t) (.const (.int .i64 1)) T',ty,ps,af,g⟩ (.int .i64 ((k+1:Nat):Int)):=.inc (.tmp h) hk
theorem PEv.nc{ad:Addr}(h:lk l t=some (.eq (.pointer (some ad)))):PEv P n ds l w ⟨d,.nilCheck (.tmp t),ty,ps,af,g⟩ (.pointer (some ad)):=.nilCheck (.tmp h)
theorem PEv.l2{k:IntKind}{i j:Int}(h:lk l t=some (.eq (.int k i)))(h':lk l t'=some (.eq (.int k j))):PEv P n ds l w ⟨d,.binOp .lss T (.tmp t) (.tmp t') T',ty,ps,af,g⟩ (.bool (decide (i<j))):=.lss (.tmp h) (.tmp h')
theorem PEv.n1{p:Bool}(h:lk l t=some (.eq (.bool p))):PEv P n ds l w ⟨d,.unOp .not T (.tmp t),ty,ps,af,g⟩ (.bool !p):=.not (.tmp h)
theorem PEv.pa{x:Operand}{p b:Bool}(h:lk l t=some (.eq (.bool p)))(hx:p=true→Val l x (.bool b)):PEv P n ds l w ⟨d,.pick (.tmp t) x (.const (.bool false)),ty,ps,af,g⟩ (.bool (p&&b)):=.Cv (.tmp h) hx
theorem PEv.po{y:Operand}{p b:Bool}(h:lk l t=some (.eq (.bool p)))(hy:p=false→Val l y (.bool b)):PEv P n ds l w ⟨d,.pick (.tmp t) (.const (.bool true)) y,ty,ps,af,g⟩ (.bool (p||b)):=.Ev (.tmp h) hy
end
section
variable {R:Option Nat}{m:Nat}{P:Program}{n:Nat}{ds:List Deferred}{Q:Exit→Go.Act→World→Prop}{l:Env}{w:World}{t:Nat}{x y:Code}
theorem CW.b{p:Bool}(h:lk l t=some (.eq (.bool p)))(ht:p=true→CW R m P n ds x Q l w)(hf:p=false→CW R m P n ds y Q l w):CW R m P n ds (.cond (.tmp t) x y) Q l w:=CW.cond (.tmp h) ht hf
theorem CW.f(h:lk l t=some (.eq (.bool false)))(k:CW R m P n ds y Q l w):CW R m P n ds (.cond (.tmp t) x y) Q l w:=Uk (.tmp h) k
theorem CW.v(h:lk l t=some (.eq (.bool true)))(k:CW R m P n ds x Q l w):CW R m P n ds (.cond (.tmp t) x y) Q l w:=Wv (.tmp h) k
def gq(l:Env)(o:Oper)(ops:Array Oper)(n:Nat):Option (Bool×Bool×Nat):=
  match o.guard with
  |some (j,want)=>match ops[j]? with
    |some oj=>match oj.dst with
      |some dj=>match o.dst with
        |some d=>match lk l dj with
          |some (.eq (.bool b))=>match Nat.ble (dj+1) n with
            |true=>match Nat.ble (d+1) n with
              |true=>some (want,b,d)
              |false=>none
            |false=>none
          |_=>none
        |none=>none
      |none=>none
    |none=>none
  |none=>none
theorem zP{o:Oper}{ops:Array Oper}{want b:Bool}{d:Nat}(h:gq l o ops n=some (want,b,d)):∃j dj oj,o.guard=some (j,want)∧ops[j]?=some oj∧oj.dst=some dj∧Nat.ble (dj+1) n=true∧lk l dj=some (.eq (.bool b))∧o.dst=some d∧Nat.ble (d+1) n=true:=by
  unfold gq at h
  repeat' split at h
  all_goals cases h
  exact⟨_,_,_,‹_›,‹_›,‹_›,‹_›,‹_›,‹_›,‹_›⟩
theorem LW.gr{ops:Array Oper}{o:Oper}{rest:List Oper}{want b:Bool}{d:Nat}{v:Value}(h:gq l o ops n=some (want,b,d))(h1:(b==want)=true→PEv P n ds l w o v)(k:LW R m P n ds ops Q rest ((d,.cond (b==want) v)::l) w):LW R m P n ds ops Q (o::rest) l w:=by
  obtain⟨j,dj,oj,a1,a2,a3,a4,a5,a6,a7⟩:=zP h
  exact HX a1 a2 a3 a4 a5 a6 a7 h1 k
theorem Hc{dt:Option Tmp}{ty:TypeId}{ps:String}{af:Array Edge}{g:Option (Nat×Bool)}{ops:Array Oper}{rest:List Oper}{want b:Bool}{d:Nat}{v:Value}(h:gq l ⟨dt,.move (.tmp t),ty,ps,af,g⟩ ops n=some (want,b,d))(h1:lk l t=some (.eq v))(k:LW R m P n ds ops Q rest ((d,.cond (b==want) v)::l) w):LW R m P n ds ops Q (⟨dt,.move (.tmp t),ty,ps,af,g⟩::rest) l w:=LW.gr h (fun _=>.move (.tmp h1)) k
end
section
variable {S0:Nat→Prop}{w0 w:World}{B:Nat}{cs:Array Value}{T:TypeId}{a b c d e f:Asr}{X:List Asr}
theorem Sep.b0(h:Wx.Sep S0 w0 w (A5 B cs T::X)):Blk w B cs T:=Sep.blk h 0 rfl
theorem Sep.b1(h:Wx.Sep S0 w0 w (a::A5 B cs T::X)):Blk w B cs T:=Sep.blk h 1 rfl
theorem Sep.b2(h:Wx.Sep S0 w0 w (a::b::A5 B cs T::X)):Blk w B cs T:=Sep.blk h 2 rfl
theorem Sep.b3(h:Wx.Sep S0 w0 w (a::b::c::A5 B cs T::X)):Blk w B cs T:=Sep.blk h 3 rfl
theorem Sep.b4(h:Wx.Sep S0 w0 w (a::b::c::d::A5 B cs T::X)):Blk w B cs T:=Sep.blk h 4 rfl
theorem Sep.b5(h:Wx.Sep S0 w0 w (a::b::c::d::e::A5 B cs T::X)):Blk w B cs T:=Sep.blk h 5 rfl
end
theorem cT{P:Program}{w:World}(n:Nat){f:FuncId}{fn:Func}{c:Code}{args:List Value}{R:Ending→World→Prop}(hf:P.funcs[f]?=some fn)(hb:fn.body=some c)(h:CW none 9 P n [] c (bodyPost P fn R) (H2 args 0) w)(hn:fn.ntmps=n:=by exact rfl)(hl:Nat.ble args.length n=true:=by exact rfl):Calls P f args.toArray w R:=Qv hf hb hn hl h
theorem W0(w:World):∃w0,w0=w∧Wx.Sep no w0 w0 []:=⟨w,rfl,Sep.start no w⟩
theorem wQ{l:Env}{x:Operand}{v:Value}(h:Val l x v:=by first|exact .const _|exact .tmp rfl|exact .cond rfl (by first|assumption|(rw[hp];rfl)|(rw[hc,hp];rfl)|simp_all)):Val l x v:=h
end Go.Wx
namespace Go
theorem bQ{a b:Nat}(h:Nat.ble a b=true:=by exact rfl):a≤b:=a_ h
theorem tQ{p:Prop}(h:p:=by repeat' (first|exact trivial|refine⟨rfl,?_⟩)):p:=h
theorem uQ{p:Prop}(h:p:=by repeat' (first|exact trivial|refine⟨Wx.PhU.eq _,?_⟩)):p:=h
end Go
namespace Go.Proofs
open Go.Wx
open Go.Proofs.Tryz
instance:Ta prog 3:=⟨_,l7⟩
instance:Ta prog 4:=⟨_,isAgg4⟩
instance:Ta prog 9:=⟨_,isAgg9⟩
instance:Ta prog 23:=⟨_,isAgg23⟩
instance:Ta prog 24:=⟨_,isAgg24⟩
instance:Ta prog 25:=⟨_,isAgg25⟩
instance:Ta prog 26:=⟨_,isAgg26⟩
instance:Ta prog 27:=⟨_,isAgg27⟩
instance:Ta prog 29:=⟨_,isAgg29⟩
instance:Ta prog 35:=⟨_,n8⟩
instance:Ta prog 37:=⟨_,ml⟩
instance:Ta prog 47:=⟨_,isAgg47⟩
instance:Ta prog 49:=⟨_,isAgg49⟩
instance:Ta prog 51:=⟨_,isAgg51⟩
instance:Ta prog 54:=⟨_,isAgg54⟩
instance:Ta prog 56:=⟨_,isAgg56⟩
instance:Ta prog 61:=⟨_,isAgg61⟩
instance:Ta prog 63:=⟨_,isAgg63⟩
instance:Ta prog 77:=⟨_,isAgg77⟩
instance:Ta prog 78:=⟨_,isAgg78⟩
instance:Ta prog 81:=⟨_,isAgg81⟩
instance:Ta prog 85:=⟨_,isAgg85⟩
instance:Ta prog 89:=⟨_,isAgg89⟩
instance:Ta prog 92:=⟨_,isAgg92⟩
instance:Ta prog 98:=⟨_,isAgg98⟩
instance:Ta prog 114:=⟨_,isAgg114⟩
instance:Ta prog 122:=⟨_,isAgg122⟩
instance:Ta prog 123:=⟨_,isAgg123⟩
instance:Ta prog 124:=⟨_,isAgg124⟩
instance:Ta prog 134:=⟨_,isAgg134⟩
instance:Ta prog 171:=⟨_,isAgg171⟩
instance:Ta prog 189:=⟨_,isAgg189⟩
instance:Ta prog 191:=⟨_,isAgg191⟩
instance:Ta prog 215:=⟨_,isAgg215⟩
instance:Ta prog 220:=⟨_,isAgg220⟩
instance:Ta prog 229:=⟨_,isAgg229⟩
instance:Ta prog 232:=⟨_,isAgg232⟩
instance:Ta prog 243:=⟨_,isAgg243⟩
instance:Ta prog 246:=⟨_,isAgg246⟩
instance:Ta prog 247:=⟨_,isAgg247⟩
instance:Ta prog 269:=⟨_,isAgg269⟩
instance:Ta prog 273:=⟨_,isAgg273⟩
instance:Ta prog 274:=⟨_,isAgg274⟩
instance:Ta prog 279:=⟨_,isAgg279⟩
instance:Ta prog 311:=⟨_,isAgg311⟩
instance:Ts prog 3:=⟨_,lg⟩
instance:Ts prog 4:=⟨_,mf⟩
instance:Ts prog 9:=⟨_,mj⟩
instance:Ts prog 23:=⟨_,m4⟩
instance:Ts prog 24:=⟨_,sizeOf24⟩
instance:Ts prog 25:=⟨_,sizeOf25⟩
instance:Ts prog 26:=⟨_,sizeOf26⟩
instance:Ts prog 27:=⟨_,sizeOf27⟩
instance:Ts prog 29:=⟨_,m_⟩
instance:Ts prog 35:=⟨_,lh⟩
instance:Ts prog 37:=⟨_,l6⟩
instance:Ts prog 47:=⟨_,nt⟩
instance:Ts prog 49:=⟨_,l4⟩
instance:Ts prog 51:=⟨_,nr⟩
instance:Ts prog 54:=⟨_,sizeOf54⟩
instance:Ts prog 56:=⟨_,sizeOf56⟩
instance:Ts prog 61:=⟨_,sizeOf61⟩
instance:Ts prog 63:=⟨_,sizeOf63⟩
instance:Ts prog 77:=⟨_,sizeOf77⟩
instance:Ts prog 78:=⟨_,sizeOf78⟩
instance:Ts prog 81:=⟨_,sizeOf81⟩
instance:Ts prog 85:=⟨_,sizeOf85⟩
instance:Ts prog 89:=⟨_,sizeOf89⟩
instance:Ts prog 92:=⟨_,sizeOf92⟩
instance:Ts prog 114:=⟨_,sizeOf114⟩
instance:Ts prog 123:=⟨_,sizeOf123⟩
instance:Ts prog 124:=⟨_,sizeOf124⟩
instance:Ts prog 126:=⟨_,sizeOf126⟩
instance:Ts prog 134:=⟨_,nm⟩
instance:Ts prog 189:=⟨_,sizeOf189⟩
instance:Ts prog 191:=⟨_,ly⟩
instance:Ts prog 220:=⟨_,n9⟩
instance:Ts prog 229:=⟨_,sizeOf229⟩
instance:Ts prog 273:=⟨_,sizeOf273⟩
instance:Ts prog 279:=⟨_,sizeOf279⟩
instance:Ts prog 311:=⟨_,sizeOf311⟩
instance:Tu prog 29:=⟨_,underlying29⟩
instance:Tu prog 35:=⟨_,me⟩
instance:Tu prog 37:=⟨_,underlying37⟩
instance:Tu prog 47:=⟨_,underlying47⟩
instance:Tu prog 49:=⟨_,underlying49⟩
instance:Tu prog 51:=⟨_,underlying51⟩
instance:Tu prog 54:=⟨_,oi⟩
instance:Tu prog 56:=⟨_,underlying56⟩
instance:Tu prog 63:=⟨_,underlying63⟩
instance:Tu prog 80:=⟨_,mh⟩
instance:Tu prog 85:=⟨_,underlying85⟩
instance:Tu prog 89:=⟨_,underlying89⟩
instance:Tu prog 126:=⟨_,underlying126⟩
instance:Tu prog 128:=⟨_,underlying128⟩
instance:Tu prog 136:=⟨_,mc⟩
instance:Tu prog 191:=⟨_,lz⟩
instance:Tu prog 220:=⟨_,underlying220⟩
instance:Tu prog 229:=⟨_,nd⟩
instance:Tu prog 250:=⟨_,nw⟩
instance:Tu prog 279:=⟨_,underlying279⟩
instance:Tu prog 311:=⟨_,m6⟩
end Go.Proofs
namespace Go.Wx
def kR(n lo hi:Int):Bool:=decide (lo≤n)&&decide (n≤hi)
structure Sg where
 mn:Int
 mx:Int
 t1:Int
 s1:Int
 t2:Int
 s2:Int
def Sg.cells(s:Sg):Array Value:=#[vi s.mn,vi s.mx,vi s.t1,vi s.s1,vi s.t2,vi s.s2]
theorem Sg.one(s:Sg):s.cells.all (·.oneCell')=true:=by simp[Sg.cells,show ∀i:Int,(vi i).oneCell'=true from fun _=>rfl]
structure Wn where
 a:Int
 b:Int
 l:Int
def Wn.cells(s:Wn):Array Value:=#[vi s.a,vi s.b,vi s.l]
theorem Wn.one(s:Wn):s.cells.all (·.oneCell')=true:=by simp[Wn.cells,show ∀i:Int,(vi i).oneCell'=true from fun _=>rfl]
def nX:Sg:=⟨10,20,1,5,2,29⟩
def Qx(ad:Option Addr)(cp:Nat):Array Value:=#[vi 0,vi 1,vi 5,.slice ad 1 cp,.slice none 0 0]
theorem iB{w:World}{B T:Nat}{cs ds:Array Value}{k:Nat}(h:Blk w B cs T)(hd:∀j,j<ds.size→cs[k+j]?=ds[j]?):AggAt w B (0+k) ds:=fun j v hv=>by
 have hj:=(cb.1 hv).1
 have:=h.agg (k+j) v (by rw[hd j hj];exact hv)
 rwa [←Nat.add_assoc]at this
section
variable {P:Program}{n:Nat}{l:Env}{w:World}{fn:Func}{RR:Ending→World→Prop}
theorem Rs{t:Tmp}{T:TypeId}{B:Nat}{x:Value}(hr:fn.results=#[.cell t T])(hv:lk l t=some (.eq (.pointer (some ⟨B,0,none⟩))))(hT:∀w,(isAgg T).run P w=.ok false w)(hx:w.cell? ⟨B,0,none⟩=some x)(hR:RR (.returned x) w):KW n [] (bodyPost P fn RR .ret) l w:=fun a ha=>
 ⟨ha.defers,x,by
   have h1:a.tmps.getD t undef=.pointer (some ⟨B,0,none⟩):=ha.val _ _ hv
   rw[bm]at h1
   simp[results,hr,h1,asAddr,K4 hT hx],hR⟩
end
structure Sk where
 rc:Int
 tl:List Int
 ta:Option Addr
 tc:Nat
 mn:Int
 mx:Int
 nx:List Int
 na:Option Addr
 nc:Nat
 bk:Int
 lm:Int
def Sk.tv(s:Sk):Value:=.slice s.ta s.tl.length s.tc
def Sk.nv(s:Sk):Value:=.slice s.na s.nx.length s.nc
def Sk.cells(s:Sk):Array Value:=#[vi s.rc,s.tv,vi s.mn,vi s.mx,s.nv,vi s.bk,vi s.lm]
theorem Sk.one(s:Sk):s.cells.all (·.oneCell')=true:=by simp[Sk.cells,Sk.tv,Sk.nv,Value.oneCell']
structure AscR(l:List Int)(lo hi:Int):Prop where
 r:∀x∈l,lo≤x∧x≤hi
 a:l.Pairwise (· <·)
structure Sk.Ok(n:Int)(s:Sk):Prop where
 rc:1≤s.rc∧s.rc≤1000000
 mn:1≤s.mn∧s.mn≤s.mx∧s.mx≤10000
 bk:s.bk= -1∧s.lm=0∨(0≤s.bk∧s.bk≤n-1)∧1≤s.lm∧s.lm≤9
 tl:1≤s.tl.length∧s.tl.length≤8
 ta:AscR s.tl 0 59
 nl:s.nx.length≤4
 nx:AscR s.nx 0 (n-1)
structure Wn.Ok(n:Int)(x:Wn):Prop where
 a:0≤x.a∧x.a≤n-1
 b:0≤x.b∧x.b≤n-1
 ne:x.a≠x.b
 l:0≤x.l∧x.l≤1000000
structure FlG(w:World)(sa wa:Option Addr)(L:List Sk)(Ws:List Wn):Prop where
 len:1≤L.length∧L.length≤40
 E:Els w sa 7 Sk.cells L
 g:∀s∈L,s.Ok L.length
 p:∀s∈L,Els w s.ta 1 A3 s.tl∧Els w s.na 1 A3 s.nx
 wE:Els w wa 3 Wn.cells Ws
 wl:Ws.length≤1
 wn:∀x∈Ws,x.Ok L.length
theorem FlG.up{w w':World}{sa wa:Option Addr}{L:List Sk}{Ws:List Wn}(h:FlG w sa wa L Ws)(u:Up w w'):FlG w' sa wa L Ws:=⟨h.len,Els.up h.E u,h.g,fun s hs=>⟨Els.up (h.p s hs).1 u,Els.up (h.p s hs).2 u⟩,Els.up h.wE u,h.wl,h.wn⟩
def Cx(sa:Option Addr)(n sc:Nat)(wa:Option Addr)(m wc:Nat):Array Value:=#[vi 2,vi 5,.slice sa n sc,.slice wa m wc]
theorem Hy(sa:Option Addr)(n sc:Nat)(wa:Option Addr)(m wc:Nat):(Cx sa n sc wa m wc).all (·.oneCell')=true:=by simp[Cx,Value.oneCell']
theorem PEv.Dt{P:Program}{n:Nat}{ds:List Deferred}{l:Env}{w:World}{o:Oper}{v v':Value}(h:PEv P n ds l w o v)(e:v=v'):PEv P n ds l w o v':=e▸h
theorem Df{α:Type}{l:List α}{k:Nat}{x:α}(h:l[k]?=some x):l.take (k+1)=l.take k++[x]:=by rw[f8,h];rfl
theorem dJ{l:List Int}(h:l.Pairwise (· <·)){k:Nat}{x y:Int}(hx:l[k]?=some x)(hy:l[k+1]?=some y):x<y:=by
 obtain⟨h1,rfl⟩:=am.1 hx
 obtain⟨h2,rfl⟩:=am.1 hy
 exact dw.1 h k (k+1) h1 h2 (kj k)
def L0(s:Sk):List Int:=if 0≤s.bk then s.bk::s.nx else s.nx
def Xd(b:Int)(k:Nat):Nat:=if k=0 then 0 else if 0≤b then k+1 else k
def Y9(b:Int)(k:Nat):Int:=if k=0 then b else -1
theorem iC{s:Sk}(h:0≤s.bk):(L0 s)[0]?=some s.bk:=by unfold L0;rw[bh h];rfl
theorem dK{s:Sk}{k:Nat}{x:Int}(hx:s.nx[k]?=some x):(L0 s)[if 0≤s.bk then k+1 else k]?=some x:=by
 unfold L0
 split
 · rw[fh];exact hx
 exact hx
theorem iD(s:Sk):(L0 s).length=if 0≤s.bk then s.nx.length+1 else s.nx.length:=by unfold L0;split<;>rfl
theorem pE{s:Sk}(h:¬0≤Y9 s.bk s.nx.length):Xd s.bk s.nx.length=(L0 s).length:=by
 rw[iD]
 unfold Y9 at h
 unfold Xd
 split at h
 · rename_i h0
   rw[bh h0,aq h,h0]
 rename_i h0
 rw[aq h0]
theorem pF{s:Sk}(h:0≤Y9 s.bk s.nx.length):0≤s.bk∧s.nx=[]:=by
 unfold Y9 at h
 split at h
 · exact⟨h,List.length_eq_zero_iff.1 (by assumption)⟩
 omega
theorem Sv(b:Int)(k:Nat):Xd b (k+1)=if 0≤b then k+1+1 else k+1:=rfl
theorem dL(b:Int)(k:Nat):Xd b (k+1+1)=Xd b (k+1)+1:=by rw[Sv,Sv];split<;>rfl
structure Sk.Good(s:Sk):Prop where
 rc:s.rc=1
 mn:s.mn=10
 mx:s.mx=20
 bk:s.bk= -1
 lm:s.lm=0
 tl:s.tl.length=1∧∀x∈s.tl,kR x 0 59=true
 nx:s.nx.length≤1∧∀x∈s.nx,kR x 0 2=true
def nY:Wn:=⟨0,2,13⟩
structure FlE(w:World)(sa wa:Option Addr)(s0 s1 s2:Sk):Prop where
 E:Els w sa 7 Sk.cells [s0,s1,s2]
 g:∀s∈[s0,s1,s2],s.Good
 n0:s0.nx=[1]
 n1:s1.nx=[2]
 n2:s2.nx=[]
 p:∀s∈[s0,s1,s2],Els w s.ta 1 A3 s.tl∧Els w s.na 1 A3 s.nx
 W:Els w wa 3 Wn.cells [nY]
theorem FlE.up{w w':World}{sa wa:Option Addr}{s0 s1 s2:Sk}(h:FlE w sa wa s0 s1 s2)(u:Up w w'):FlE w' sa wa s0 s1 s2:=⟨Els.up h.E u,h.g,h.n0,h.n1,h.n2,fun s hs=>⟨Els.up (h.p s hs).1 u,Els.up (h.p s hs).2 u⟩,Els.up h.W u⟩
theorem iE{l:List Int}{lo hi:Int}(hl:l.length≤1)(h:∀x∈l,kR x lo hi=true):AscR l lo hi:=by
 refine⟨fun x hx=>by have:=h x hx;simpa[kR]using this,?_⟩
 match l,hl with
 |[],_=>exact List.Pairwise.nil
 |[x],_=>exact f9 _ _
theorem FlE.G{w:World}{sa wa:Option Addr}{s0 s1 s2:Sk}(h:FlE w sa wa s0 s1 s2):FlG w sa wa [s0,s1,s2] [nY]:=
 ⟨⟨a_ rfl,a_ rfl⟩,h.E,fun s hs=>by
   have g:=h.g s hs
   exact⟨by rw[g.rc];decide,by rw[g.mn,g.mx];decide,.inl ⟨g.bk,g.lm⟩,by rw[g.tl.1];decide,iE (by rw[g.tl.1];decide) g.tl.2,by have:=g.nx.1;omega,iE g.nx.1 g.nx.2⟩,h.p,h.W,bl _,fun x hx=>by
   rw[bn.1 hx]
   exact(by constructor<;>decide:nY.Ok ((3:Nat):Int))⟩
def Ni(sa:Option Addr)(sc:Nat)(wa:Option Addr)(wc:Nat):Array Value:=#[vi 2,vi 5,.slice sa 3 sc,.slice wa 1 wc]
end Go.Wx
namespace Go.Proofs.YtnpgbbaniknpkaaGreatDoor
open Go.Proofs.Tryz
open Go.Wx Go.RowKit
theorem Hz(n lo hi:Int)(w:World):Ret prog 110 #[vi n,vi lo,vi hi] w fun r w'=>r=.bool (kR n lo hi)∧Up w w':=by
 have hW:=Up.refl w
 refine cT 15 func110 rfl (Af (Az (An (Aa (I rfl (I rfl (U (.geq (.t rfl) (.t rfl)) (I rfl (Hc rfl rfl (Hc rfl rfl (LW.gr rfl (fun hc=>PEv.leq vQ vQ) (U (.pa rfl (fun hp=>(by exact .cond rfl (by(rw[hp];rfl))))) (LW.A rfl (Ah (Am (KW.q ?_))))))))))))))))
 exact⟨by unfold kR;simp,hW⟩
theorem Sw(t s d:Int)(w:World)(hd:0≤d∧d≤10000):Ret prog 201 #[.agg (#[vi t,vi s]:Array Go.Value),vi d] w fun r w'=>r=.bool (kR t 0 59&&kR s 0 (1000000-d))∧Up w w':=by
 obtain⟨w0,rfl,hS⟩:=W0 w
 refine cT 15 func201 rfl (Af (Ap (.bA rfl) rfl ?_))
 rintro _ w1 ⟨B2,rfl,NB2⟩
 replace hS:=hS.Cg NB2
 refine Az (An (Aa (U (.fB 0 rfl) (U (.lb rfl (hS.b0.Ad rfl)) (A4 (eC (.ct rfl (.cons (.const _) (.cons (.const _) .nil))) (Vg)) rfl (Hz _ _ _ _) ?_)))))
 rintro _ w2 ⟨rfl,uw2⟩
 replace hS:=hS.up uw2
 refine I rfl (LW.gr rfl (fun hc=>PEv.fB 1 rfl) (LW.gr rfl (fun hc=>PEv.load l7 vQ (hS.b0.Ad rfl)) (Hc rfl rfl (LW.gr rfl (fun hc=>PEv.sub (.const _) vQ oQ oQ) (gK rfl rfl rfl rfl rfl rfl rfl rfl (fun hc=>Bi (.cons vQ (.cons (.const _) (.cons vQ .nil))) (Vg)) (fun hc=>Hz _ _ _ _) ?_)))))
 intro w3 uw3
 replace hS:=hS.up uw3
 refine U (.pa rfl (fun hp=>(by exact .cond rfl (by(rw[hp];rfl))))) (LW.A rfl (Ah (Am (KW.q ?_))))
 exact⟨by simp,hS.Ch⟩
theorem dM(cf:Nat)(lb:Array Go.Value)(hen:∀args w,(callFunc cf args).run prog w=.ok (.enter cf args) w)(ad:Option Addr)(cp:Nat)(l:List Sg)(w:World)(hE0:Els w ad 6 Sg.cells l)(hl:l.length≤100000)(hp:∀W,Up w W→∀x∈l,Ret prog cf (#[.agg (Sg.cells x)]++lb) W fun r W'=>r=.bool false∧Up W W'):Ret prog 200 #[.slice ad l.length cp,.func (.func cf) #[] lb] w fun r w'=>r=vi (-1)∧Up w w':=by
 have hW:=Up.refl w
 obtain⟨w0,rfl,_⟩:=W0 w
 refine cT 19 func200 rfl (Af (Az (An (Af (I rfl (U (.Ck m9 (.t rfl)) (U (.move (.const _)) (Ah (Ak (A6 (σ:=Nat) (fun s w=>(s≤l.length)∧(Up w0 w)) (fun s=>[(8,.eq (vi (s:Int)))]) ([(0,.eq _),(1,.eq _),(7,.eq _)]) (fun s=>l.length-s) 0 ?_ tQ ?_))))))))))
 ·exact⟨a8 _,hW⟩
 rintro k w1 ⟨hk,hW⟩
 refine Af (U (.l2 rfl rfl) (An (CW.b rfl (fun h9=>?_) (fun h9=>?_))))
 ·replace h9:=dQ h9
  refine Aj (Ac (Ai (Ak (Af (I rfl (LW.A rfl (An ?_)))))))
  have hE:=Els.up hE0 hW
  refine Aa (I rfl (I rfl (I rfl ?_)))
  obtain⟨x,hx⟩:=Ae (xs:=l) (i:=k) oQ
  obtain⟨Bx,ox,ax,hcx⟩:=hE _ x hx
  refine U (.Ao m9 sizeOf56 (.t rfl) (.t rfl) oQ ax) (U (.lc rfl (hcx)) (A4 (Cu (.t rfl) (.cu rfl) (hen)) rfl (hp _ hW x (ai hx)) ?_))
  rintro _ w2 ⟨rfl,uw2⟩
  replace hW:=hW.up uw2
  replace hcx:=hcx.up uw2
  refine Ah (CW.f rfl (Aj (Al (Ac (Aa (U (.ic rfl oQ) (I rfl (LW.nil (Av ?_)))))))))
  exact⟨k+1,⟨by omega,hW⟩,tQ,by omega⟩
 replace h9:=dQ h9
 refine A8 (Ab (Ab (Aq (Ac (Af (Az (Ah (Am (KW.q ?_)))))))))
 exact⟨rfl,hW⟩
theorem Uu(cf:Nat)(lb:Array Go.Value)(hen:∀args w,(callFunc cf args).run prog w=.ok (.enter cf args) w)(ad:Option Addr)(cp:Nat)(l:List Sg)(w:World)(hE0:Els w ad 6 Sg.cells l)(hl:l.length≤100000)(hp:∀W,Up w W→∀x∈l,Ret prog cf (#[.agg (Sg.cells x)]++lb) W fun r W'=>r=.bool false∧Up W W'):Ret prog 111 #[.slice ad l.length cp,.func (.func cf) #[] lb] w fun r w'=>r=.bool false∧Up w w':=by
 have hW:=Up.refl w
 refine cT 9 func111 rfl (Af (Az (An (Aa (I rfl (I rfl (A4 (eC (.u rfl rfl) (EY)) rfl (dM cf lb hen ad cp l _ (Els.up hE0 hW) hl (fun W u x hx=>hp W (hW.trans u) x hx)) ?_)))))))
 rintro _ w1 ⟨rfl,uw1⟩
 replace hW:=hW.up uw1
 refine U (.geq (.t rfl) (.const _)) (LW.A rfl (Ah (Am (KW.q ?_))))
 exact⟨rfl,hW⟩
theorem dN(cf:Nat)(lb:Array Go.Value)(hen:∀args w,(callFunc cf args).run prog w=.ok (.enter cf args) w)(ad:Option Addr)(cp:Nat)(l:List Wn)(w:World)(hE0:Els w ad 3 Wn.cells l)(hl:l.length≤100000)(hp:∀W,Up w W→∀x∈l,Ret prog cf (#[.agg (Wn.cells x)]++lb) W fun r W'=>r=.bool false∧Up W W'):Ret prog 202 #[.slice ad l.length cp,.func (.func cf) #[] lb] w fun r w'=>r=vi (-1)∧Up w w':=by
 have hW:=Up.refl w
 obtain⟨w0,rfl,_⟩:=W0 w
 refine cT 19 func202 rfl (Af (Az (An (Af (I rfl (U (.Ck l9 (.t rfl)) (U (.move (.const _)) (Ah (Ak (A6 (σ:=Nat) (fun s w=>(s≤l.length)∧(Up w0 w)) (fun s=>[(8,.eq (vi (s:Int)))]) ([(0,.eq _),(1,.eq _),(7,.eq _)]) (fun s=>l.length-s) 0 ?_ tQ ?_))))))))))
 ·exact⟨a8 _,hW⟩
 rintro k w1 ⟨hk,hW⟩
 refine Af (U (.l2 rfl rfl) (An (CW.b rfl (fun h9=>?_) (fun h9=>?_))))
 ·replace h9:=dQ h9
  refine Aj (Ac (Ai (Ak (Af (I rfl (LW.A rfl (An ?_)))))))
  have hE:=Els.up hE0 hW
  refine Aa (I rfl (I rfl (I rfl ?_)))
  obtain⟨x,hx⟩:=Ae (xs:=l) (i:=k) oQ
  obtain⟨Bx,ox,ax,hcx⟩:=hE _ x hx
  refine U (.Ao l9 nt (.t rfl) (.t rfl) oQ ax) (U (.lc rfl (hcx)) (A4 (Cu (.t rfl) (.cu rfl) (hen)) rfl (hp _ hW x (ai hx)) ?_))
  rintro _ w2 ⟨rfl,uw2⟩
  replace hW:=hW.up uw2
  replace hcx:=hcx.up uw2
  refine Ah (CW.f rfl (Aj (Al (Ac (Aa (U (.ic rfl oQ) (I rfl (LW.nil (Av ?_)))))))))
  exact⟨k+1,⟨by omega,hW⟩,tQ,by omega⟩
 replace h9:=dQ h9
 refine A8 (Ab (Ab (Aq (Ac (Af (Az (Ah (Am (KW.q ?_)))))))))
 exact⟨rfl,hW⟩
theorem Uv(cf:Nat)(lb:Array Go.Value)(hen:∀args w,(callFunc cf args).run prog w=.ok (.enter cf args) w)(ad:Option Addr)(cp:Nat)(l:List Wn)(w:World)(hE0:Els w ad 3 Wn.cells l)(hl:l.length≤100000)(hp:∀W,Up w W→∀x∈l,Ret prog cf (#[.agg (Wn.cells x)]++lb) W fun r W'=>r=.bool false∧Up W W'):Ret prog 114 #[.slice ad l.length cp,.func (.func cf) #[] lb] w fun r w'=>r=.bool false∧Up w w':=by
 have hW:=Up.refl w
 refine cT 9 func114 rfl (Af (Az (An (Aa (I rfl (I rfl (A4 (eC (.u rfl rfl) (EZ)) rfl (dN cf lb hen ad cp l _ (Els.up hE0 hW) hl (fun W u x hx=>hp W (hW.trans u) x hx)) ?_)))))))
 rintro _ w1 ⟨rfl,uw1⟩
 replace hW:=hW.up uw1
 refine U (.geq (.t rfl) (.const _)) (LW.A rfl (Ah (Am (KW.q ?_))))
 exact⟨rfl,hW⟩
theorem dO(cf:Nat)(lb:Array Go.Value)(hen:∀args w,(callFunc cf args).run prog w=.ok (.enter cf args) w)(ad:Option Addr)(cp:Nat)(l:List Int)(w:World)(hE0:Els w ad 1 A3 l)(hl:l.length≤100000)(hp:∀W,Up w W→∀x∈l,Ret prog cf (#[vi x]++lb) W fun r W'=>r=.bool false∧Up W W'):Ret prog 241 #[.slice ad l.length cp,.func (.func cf) #[] lb] w fun r w'=>r=vi (-1)∧Up w w':=by
 have hW:=Up.refl w
 obtain⟨w0,rfl,_⟩:=W0 w
 refine cT 19 func241 rfl (Af (Az (An (Af (I rfl (U (.Ck underlying171 (.t rfl)) (U (.move (.const _)) (Ah (Ak (A6 (σ:=Nat) (fun s w=>(s≤l.length)∧(Up w0 w)) (fun s=>[(8,.eq (vi (s:Int)))]) ([(0,.eq _),(1,.eq _),(7,.eq _)]) (fun s=>l.length-s) 0 ?_ tQ ?_))))))))))
 ·exact⟨a8 _,hW⟩
 rintro k w1 ⟨hk,hW⟩
 refine Af (U (.l2 rfl rfl) (An (CW.b rfl (fun h9=>?_) (fun h9=>?_))))
 ·replace h9:=dQ h9
  refine Aj (Ac (Ai (Ak (Af (I rfl (LW.A rfl (An ?_)))))))
  have hE:=Els.up hE0 hW
  refine Aa (I rfl (I rfl (I rfl ?_)))
  obtain⟨x,hx⟩:=Ae (xs:=l) (i:=k) oQ
  obtain⟨Bx,ox,ax,hcx⟩:=hE _ x hx
  refine U (.Ao underlying171 lg (.t rfl) (.t rfl) oQ ax) (U (.lb rfl (hcx.nth (j:=0) rfl)) (A4 (Cu (.t rfl) (.cu rfl) (hen)) rfl (hp _ hW x (ai hx)) ?_))
  rintro _ w2 ⟨rfl,uw2⟩
  replace hW:=hW.up uw2
  replace hcx:=hcx.up uw2
  refine Ah (CW.f rfl (Aj (Al (Ac (Aa (U (.ic rfl oQ) (I rfl (LW.nil (Av ?_)))))))))
  exact⟨k+1,⟨by omega,hW⟩,tQ,by omega⟩
 replace h9:=dQ h9
 refine A8 (Ab (Ab (Aq (Ac (Af (Az (Ah (Am (KW.q ?_)))))))))
 exact⟨rfl,hW⟩
theorem Uw(cf:Nat)(lb:Array Go.Value)(hen:∀args w,(callFunc cf args).run prog w=.ok (.enter cf args) w)(ad:Option Addr)(cp:Nat)(l:List Int)(w:World)(hE0:Els w ad 1 A3 l)(hl:l.length≤100000)(hp:∀W,Up w W→∀x∈l,Ret prog cf (#[vi x]++lb) W fun r W'=>r=.bool false∧Up W W'):Ret prog 198 #[.slice ad l.length cp,.func (.func cf) #[] lb] w fun r w'=>r=.bool false∧Up w w':=by
 have hW:=Up.refl w
 refine cT 9 func198 rfl (Af (Az (An (Aa (I rfl (I rfl (A4 (eC (.u rfl rfl) (FX)) rfl (dO cf lb hen ad cp l _ (Els.up hE0 hW) hl (fun W u x hx=>hp W (hW.trans u) x hx)) ?_)))))))
 rintro _ w1 ⟨rfl,uw1⟩
 replace hW:=hW.up uw1
 refine U (.geq (.t rfl) (.const _)) (LW.A rfl (Ah (Am (KW.q ?_))))
 exact⟨rfl,hW⟩
theorem Za(n lo hi:Int)(w:World):Ret prog 97 #[vi n,vi lo,vi hi] w fun r w'=>r=.bool (kR n lo hi)∧Up w w':=by
 have hW:=Up.refl w
 refine cT 15 func97 rfl (Af (Az (An (Aa (I rfl (I rfl (U (.geq (.t rfl) (.t rfl)) (I rfl (Hc rfl rfl (Hc rfl rfl (LW.gr rfl (fun hc=>PEv.leq vQ vQ) (U (.pa rfl (fun hp=>(by exact .cond rfl (by(rw[hp];rfl))))) (LW.A rfl (Ah (Am (KW.q ?_))))))))))))))))
 exact⟨by unfold kR;simp,hW⟩
theorem Ea(n lo hi:Int)(w:World)(h:lo≤n∧n≤hi):Ret prog 97 #[vi n,vi lo,vi hi] w fun r w'=>r=.bool true∧Up w w':=by
 have:=Za n lo hi w
 unfold kR at this
 rwa [bj h.1,bj h.2]at this
theorem H5(ad:Option Addr)(cp:Nat)(l:List Int)(lo hi:Int)(w:World)(hE:Els w ad 1 A3 l)(hl:l.length≤100)(hr:AscR l lo hi):Ret prog 193 #[.slice ad l.length cp,vi lo,vi hi] w fun r w'=>r=.bool true∧Up w w':=by
 have hW:=Up.refl w
 obtain⟨w0,rfl,_⟩:=W0 w
 refine cT 35 func193 rfl ?_
 refine Af (Az (An (Af (I rfl ?_))))
 refine U (.Ck k_ (.t rfl)) ?_
 refine U (.move (.const _)) ?_
 refine Ah (Ak ?_)
 refine A6 (σ:=Nat) (fun s w=>(s≤l.length)∧(Up w0 w)) (fun s=>[(11,.eq (vi (s:Int)))]) ([(0,.eq _),(1,.eq _),(2,.eq _),(9,.eq _),(10,.eq _)]) (fun s=>l.length-s) 0 ?_ tQ ?_
 ·exact⟨a8 _,hW⟩
 rintro k w1 ⟨hk,hW⟩
 refine Af ?_
 refine U (.l2 rfl rfl) ?_
 refine An ?_
 refine CW.b rfl (fun h12=>?_) (fun h12=>?_)
 ·replace h12:=dQ h12
  refine Aj (Ac (Ai (Ak (Af (I rfl ?_)))))
  obtain⟨x,hx⟩:=Ae (xs:=l) (i:=k) oQ
  obtain⟨Bx,ox,ax,hcx⟩:=(Els.up hE hW) _ x hx
  refine U (.Ao k_ lg (.t rfl) (.t rfl) oQ ax) ?_
  refine U (.lb rfl (hcx.nth (j:=0) rfl)) ?_
  refine LW.A rfl (LW.A rfl (An ?_))
  cases k with
  |zero=>
   refine Aa (I rfl (I rfl (I rfl ?_)))
   refine A4 (eC (.ct rfl (.ct rfl (.cu rfl))) (Rf)) rfl (Ea _ _ _ _ (by exact hr.r x (ai hx))) ?_
   rintro _ w2 ⟨rfl,uw2⟩
   have zw2:=uw2.size
   replace hW:=hW.up uw2
   replace hcx:=hcx.up uw2
   refine U (.n1 rfl) ?_
   refine I rfl ?_
   refine Au ?_
   refine I rfl ?_
   refine Au ?_
   refine U (.fa (PEv.gtr (.t rfl) (.const _)) (rfl)) ?_
   refine Au ?_
   refine I rfl ?_
   refine Bh ?_
   refine Bh ?_
   refine Bh ?_
   refine Bh ?_
   refine Bh ?_
   refine Bh ?_
   refine Bh ?_
   refine Au ?_
   refine U (.Cv (b:=false) (.t rfl) (fun hp=>absurd (show false=true from hp) cQ)) ?_
   refine U (.po rfl (fun hp=>wQ)) ?_
   refine Ah ?_
   refine CW.f rfl ?_
   refine Aj (Al (Ac (Aa ?_)))
   refine U (.ic rfl oQ) ?_
   refine I rfl (LW.nil (Av ?_))
   exact⟨0+1,⟨by omega,hW⟩,tQ,by first|omega|(dsimp only;omega)⟩
  |succ k1=>
   obtain⟨y,hy⟩:=Ae (xs:=l) (i:=k1) oQ
   obtain⟨By,oy,ay,hcy⟩:=hE k1 y hy
   have hyx:=dJ hr.a hy hx
   refine Aa (I rfl (I rfl (I rfl ?_)))
   refine A4 (eC (.ct rfl (.ct rfl (.cu rfl))) (Rf)) rfl (Ea _ _ _ _ (by exact hr.r x (ai hx))) ?_
   rintro _ w3 ⟨rfl,uw3⟩
   have zw3:=uw3.size
   replace hW:=hW.up uw3
   replace hcx:=hcx.up uw3
   refine U (.n1 rfl) ?_
   refine I rfl ?_
   refine Au ?_
   refine I rfl ?_
   refine Au ?_
   refine U (.tr (PEv.gtr (.t rfl) (.const _)) (bj oQ)) ?_
   refine Au ?_
   refine I rfl ?_
   refine Au ?_
   refine I rfl ?_
   refine Au ?_
   refine I rfl ?_
   refine Au ?_
   refine I rfl ?_
   refine Au ?_
   refine U (.Dt (v':=vi (k1:Int)) (PEv.sub (.t rfl) (.const _) oQ oQ) (bi vi oQ)) ?_
   refine Au ?_
   refine U (.Ao k_ lg (j:=k1) (.t rfl) (.t rfl) oQ ay) ?_
   refine Au ?_
   refine U (.lb rfl ((hcy.up hW).nth (j:=0) rfl)) ?_
   refine Au ?_
   refine U (.fa (PEv.leq (.t rfl) (.t rfl)) (br oQ)) ?_
   refine Au ?_
   refine U (.pa rfl (fun hp=>wQ)) ?_
   refine U (.po rfl (fun hp=>wQ)) ?_
   refine Ah ?_
   refine CW.f rfl ?_
   refine Aj (Al (Ac (Aa ?_)))
   refine U (.ic rfl oQ) ?_
   refine I rfl (LW.nil (Av ?_))
   exact⟨k1+1+1,⟨by omega,hW⟩,tQ,by first|omega|(dsimp only;omega)⟩
 replace h12:=dQ h12
 refine A8 (Ab (Ab (Aq (Ac (Af (Az (Ah (Am ?_))))))))
 refine KW.q ?_
 exact⟨rfl,hW⟩
theorem L2(sa wa:Option Addr)(n sc m wc:Nat)(w:World):Ret prog 96 #[.agg (Cx sa n sc wa m wc)] w fun r w'=>r=.bool true∧Up w w':=by
 obtain⟨w0,rfl,hS⟩:=W0 w
 refine cT 18 func96 rfl ?_
 refine Af ?_
 refine Ap (.bA rfl) rfl ?_
 rintro _ w1 ⟨B1,rfl,NB1⟩
 have eB1:=NB1.at_
 have zB1:=NB1.size
 replace hS:=hS.Cg NB1
 change Wx.Sep _ _ _ [_]at hS
 refine Az (An (Aa ?_))
 refine U (.fB 0 rfl) ?_
 refine U (.lb rfl (hS.b0.Ad rfl)) ?_
 refine U (.leq (.const _) (.t rfl)) ?_
 refine I rfl ?_
 refine LW.gr rfl (fun hc=>PEv.fB 0 rfl) ?_
 refine LW.gr rfl (fun hc=>PEv.load l7 vQ (hS.b0.Ad rfl)) ?_
 refine LW.gr rfl (fun hc=>PEv.fB 1 rfl) ?_
 refine LW.gr rfl (fun hc=>PEv.load l7 vQ (hS.b0.Ad rfl)) ?_
 refine LW.gr rfl (fun hc=>PEv.leq vQ vQ) ?_
 refine U (.pa rfl (fun hp=>wQ)) ?_
 refine I rfl ?_
 refine LW.gr rfl (fun hc=>PEv.fB 1 rfl) ?_
 refine LW.gr rfl (fun hc=>PEv.load l7 vQ (hS.b0.Ad rfl)) ?_
 refine LW.gr rfl (fun hc=>PEv.leq vQ (.const _)) ?_
 refine U (.pa rfl (fun hp=>wQ)) ?_
 refine LW.A rfl (Ah (Am ?_))
 refine KW.q ?_
 exact⟨rfl,hS.Ch⟩
theorem Nj(s:Sk)(n:Int)(w:World)(hn:0≤n∧n≤1000)(hg:s.Ok n)(h1:Els w s.ta 1 A3 s.tl)(h2:Els w s.na 1 A3 s.nx):Ret prog 100 #[.agg s.cells,vi n] w fun r w'=>r=.bool true∧Up w w':=by
 obtain⟨w0,rfl,hS⟩:=W0 w
 refine cT 75 func100 rfl ?_
 refine Af ?_
 refine Ap (.bA rfl) rfl ?_
 rintro _ w1 ⟨B2,rfl,NB2⟩
 have eB2:=NB2.at_
 have zB2:=NB2.size
 replace hS:=hS.Cg NB2
 change Wx.Sep _ _ _ [_]at hS
 refine Az (An ?_)
 cases hq1:decide (s.bk= -1)with
 |true=>
  obtain⟨e1,e2⟩:=hg.bk.resolve_right (fun h=>by have:=b9 hq1;omega)
  refine Aa ?_
  refine U (.fB 5 rfl) ?_
  refine U (.lb rfl (hS.b0.Ad rfl)) ?_
  refine U (.tr (PEv.eql (.t rfl) (.const _)) (bj e1)) ?_
  refine I rfl ?_
  refine Au ?_
  refine U (.fB 6 rfl) ?_
  refine Au ?_
  refine U (.lb rfl (hS.b0.Ad rfl)) ?_
  refine Au ?_
  refine U (.tr (PEv.eql (.t rfl) (.const _)) (bj e2)) ?_
  refine U (.pa rfl (fun hp=>wQ)) ?_
  refine I rfl ?_
  refine Bh ?_
  refine Bh ?_
  refine Bh ?_
  refine Bh ?_
  refine Bh ?_
  refine Bh ?_
  refine Jc rfl rfl rfl rfl rfl rfl ?_
  refine Jc rfl rfl rfl rfl rfl rfl ?_
  refine Jc rfl rfl rfl rfl rfl rfl ?_
  refine Bh ?_
  refine U (.Ev (b:=false) (.t rfl) (fun hp=>absurd (show true=false from hp) cQ)) ?_
  refine LW.A rfl (An (Aa ?_))
  refine U (.fB 1 rfl) ?_
  refine U (.lb rfl (hS.b0.Ad rfl)) ?_
  refine U (.Ck k_ (.t rfl)) ?_
  refine A4 (eC (.ct rfl (.cons (.const _) (.cons (.const _) .nil))) (Rf)) rfl (Ea _ _ _ _ (by have:=hg.tl;omega)) ?_
  rintro _ w2 ⟨rfl,uw2⟩
  have zw2:=uw2.size
  replace hS:=hS.up uw2
  refine I rfl ?_
  refine Au ?_
  refine U (.fB 4 rfl) ?_
  refine Au ?_
  refine U (.lb rfl (hS.b0.Ad rfl)) ?_
  refine Au ?_
  refine U (.Ck k_ (.t rfl)) ?_
  refine Au ?_
  refine U (.tr (PEv.leq (.t rfl) (.const _)) (bj (by have:=hg.nl;omega))) ?_
  refine U (.pa rfl (fun hp=>wQ)) ?_
  refine LW.A rfl (An (Aa (I rfl (I rfl ?_))))
  refine Au ?_
  refine I rfl ?_
  refine U (.pa rfl (fun hp=>wQ)) ?_
  refine I rfl ?_
  refine Au ?_
  refine U (.fB 0 rfl) ?_
  refine Au ?_
  refine U (.lb rfl (hS.b0.Ad rfl)) ?_
  refine Au ?_
  refine A4 (eC (.ct rfl (.cons (.const _) (.cons (.const _) .nil))) (Rf)) rfl (Ea _ _ _ _ (by have:=hg.rc;omega)) ?_
  rintro _ w3 ⟨rfl,uw3⟩
  have zw3:=uw3.size
  replace hS:=hS.up uw3
  refine U (.pa rfl (fun hp=>wQ)) ?_
  refine I rfl ?_
  refine Au ?_
  refine U (.fB 1 rfl) ?_
  refine Au ?_
  refine U (.lb rfl (hS.b0.Ad rfl)) ?_
  refine Au ?_
  refine A4 (eC (.ct rfl (.cons (.const _) (.cons (.const _) .nil))) (gP)) rfl (H5 s.ta s.tc s.tl 0 59 _ (Els.up h1 hS.Ch) (by have:=hg.tl;omega) hg.ta) ?_
  rintro _ w4 ⟨rfl,uw4⟩
  have zw4:=uw4.size
  replace hS:=hS.up uw4
  refine U (.pa rfl (fun hp=>wQ)) ?_
  refine I rfl ?_
  refine Au ?_
  refine U (.fB 4 rfl) ?_
  refine Au ?_
  refine U (.lb rfl (hS.b0.Ad rfl)) ?_
  refine Au ?_
  refine I rfl ?_
  refine Au ?_
  refine U (.sub (.t rfl) (.const _) oQ oQ) ?_
  refine Au ?_
  refine A4 (eC (.ct rfl (.cons (.const _) (.cu rfl))) (gP)) rfl (H5 s.na s.nc s.nx 0 (n-1) _ (Els.up h2 hS.Ch) (by have:=hg.nl;omega) hg.nx) ?_
  rintro _ w5 ⟨rfl,uw5⟩
  have zw5:=uw5.size
  replace hS:=hS.up uw5
  refine U (.pa rfl (fun hp=>wQ)) ?_
  refine I rfl ?_
  refine Au ?_
  refine U (.fB 2 rfl) ?_
  refine Au ?_
  refine U (.lb rfl (hS.b0.Ad rfl)) ?_
  refine Au ?_
  refine U (.tr (PEv.leq (.const _) (.t rfl)) (bj (by have:=hg.mn;omega))) ?_
  refine U (.pa rfl (fun hp=>wQ)) ?_
  refine I rfl ?_
  refine Au ?_
  refine U (.fB 2 rfl) ?_
  refine Au ?_
  refine U (.lb rfl (hS.b0.Ad rfl)) ?_
  refine Au ?_
  refine U (.fB 3 rfl) ?_
  refine Au ?_
  refine U (.lb rfl (hS.b0.Ad rfl)) ?_
  refine Au ?_
  refine U (.tr (PEv.leq (.t rfl) (.t rfl)) (bj (by have:=hg.mn;omega))) ?_
  refine U (.pa rfl (fun hp=>wQ)) ?_
  refine I rfl ?_
  refine Au ?_
  refine U (.fB 3 rfl) ?_
  refine Au ?_
  refine U (.lb rfl (hS.b0.Ad rfl)) ?_
  refine Au ?_
  refine U (.tr (PEv.leq (.t rfl) (.const _)) (bj (by have:=hg.mn;omega))) ?_
  refine U (.pa rfl (fun hp=>wQ)) ?_
  refine LW.A rfl (Ah (Am ?_))
  refine KW.q ?_
  exact⟨rfl,hS.Ch⟩
 |false=>
  obtain⟨e1,e2⟩:=hg.bk.resolve_left (fun h=>by have:=cd hq1;omega)
  refine Aa ?_
  refine U (.fB 5 rfl) ?_
  refine U (.lb rfl (hS.b0.Ad rfl)) ?_
  refine U (.fa (PEv.eql (.t rfl) (.const _)) (br oQ)) ?_
  refine I rfl ?_
  refine Bh ?_
  refine Bh ?_
  refine Bh ?_
  refine U (.Cv (b:=false) (.t rfl) (fun hp=>absurd (show false=true from hp) cQ)) ?_
  refine I rfl ?_
  refine Au ?_
  refine U (.fB 5 rfl) ?_
  refine Au ?_
  refine U (.lb rfl (hS.b0.Ad rfl)) ?_
  refine Au ?_
  refine I rfl ?_
  refine Au ?_
  refine U (.sub (.t rfl) (.const _) oQ oQ) ?_
  refine Au ?_
  refine A4 (eC (.ct rfl (.cons (.const _) (.cu rfl))) (Rf)) rfl (Ea _ _ _ _ oQ) ?_
  rintro _ w6 ⟨rfl,uw6⟩
  have zw6:=uw6.size
  replace hS:=hS.up uw6
  refine Au ?_
  refine I rfl ?_
  refine Au ?_
  refine U (.fB 6 rfl) ?_
  refine Au ?_
  refine U (.lb rfl (hS.b0.Ad rfl)) ?_
  refine Au ?_
  refine A4 (eC (.ct rfl (.cons (.const _) (.cons (.const _) .nil))) (Rf)) rfl (Ea _ _ _ _ oQ) ?_
  rintro _ w7 ⟨rfl,uw7⟩
  have zw7:=uw7.size
  replace hS:=hS.up uw7
  refine Au ?_
  refine U (.pa rfl (fun hp=>wQ)) ?_
  refine U (.po rfl (fun hp=>wQ)) ?_
  refine LW.A rfl (An (Aa ?_))
  refine U (.fB 1 rfl) ?_
  refine U (.lb rfl (hS.b0.Ad rfl)) ?_
  refine U (.Ck k_ (.t rfl)) ?_
  refine A4 (eC (.ct rfl (.cons (.const _) (.cons (.const _) .nil))) (Rf)) rfl (Ea _ _ _ _ (by have:=hg.tl;omega)) ?_
  rintro _ w8 ⟨rfl,uw8⟩
  have zw8:=uw8.size
  replace hS:=hS.up uw8
  refine I rfl ?_
  refine Au ?_
  refine U (.fB 4 rfl) ?_
  refine Au ?_
  refine U (.lb rfl (hS.b0.Ad rfl)) ?_
  refine Au ?_
  refine U (.Ck k_ (.t rfl)) ?_
  refine Au ?_
  refine U (.tr (PEv.leq (.t rfl) (.const _)) (bj (by have:=hg.nl;omega))) ?_
  refine U (.pa rfl (fun hp=>wQ)) ?_
  refine LW.A rfl (An (Aa (I rfl (I rfl ?_))))
  refine Au ?_
  refine I rfl ?_
  refine U (.pa rfl (fun hp=>wQ)) ?_
  refine I rfl ?_
  refine Au ?_
  refine U (.fB 0 rfl) ?_
  refine Au ?_
  refine U (.lb rfl (hS.b0.Ad rfl)) ?_
  refine Au ?_
  refine A4 (eC (.ct rfl (.cons (.const _) (.cons (.const _) .nil))) (Rf)) rfl (Ea _ _ _ _ (by have:=hg.rc;omega)) ?_
  rintro _ w9 ⟨rfl,uw9⟩
  have zw9:=uw9.size
  replace hS:=hS.up uw9
  refine U (.pa rfl (fun hp=>wQ)) ?_
  refine I rfl ?_
  refine Au ?_
  refine U (.fB 1 rfl) ?_
  refine Au ?_
  refine U (.lb rfl (hS.b0.Ad rfl)) ?_
  refine Au ?_
  refine A4 (eC (.ct rfl (.cons (.const _) (.cons (.const _) .nil))) (gP)) rfl (H5 s.ta s.tc s.tl 0 59 _ (Els.up h1 hS.Ch) (by have:=hg.tl;omega) hg.ta) ?_
  rintro _ w10 ⟨rfl,uw10⟩
  have zw10:=uw10.size
  replace hS:=hS.up uw10
  refine U (.pa rfl (fun hp=>wQ)) ?_
  refine I rfl ?_
  refine Au ?_
  refine U (.fB 4 rfl) ?_
  refine Au ?_
  refine U (.lb rfl (hS.b0.Ad rfl)) ?_
  refine Au ?_
  refine I rfl ?_
  refine Au ?_
  refine U (.sub (.t rfl) (.const _) oQ oQ) ?_
  refine Au ?_
  refine A4 (eC (.ct rfl (.cons (.const _) (.cu rfl))) (gP)) rfl (H5 s.na s.nc s.nx 0 (n-1) _ (Els.up h2 hS.Ch) (by have:=hg.nl;omega) hg.nx) ?_
  rintro _ w11 ⟨rfl,uw11⟩
  have zw11:=uw11.size
  replace hS:=hS.up uw11
  refine U (.pa rfl (fun hp=>wQ)) ?_
  refine I rfl ?_
  refine Au ?_
  refine U (.fB 2 rfl) ?_
  refine Au ?_
  refine U (.lb rfl (hS.b0.Ad rfl)) ?_
  refine Au ?_
  refine U (.tr (PEv.leq (.const _) (.t rfl)) (bj (by have:=hg.mn;omega))) ?_
  refine U (.pa rfl (fun hp=>wQ)) ?_
  refine I rfl ?_
  refine Au ?_
  refine U (.fB 2 rfl) ?_
  refine Au ?_
  refine U (.lb rfl (hS.b0.Ad rfl)) ?_
  refine Au ?_
  refine U (.fB 3 rfl) ?_
  refine Au ?_
  refine U (.lb rfl (hS.b0.Ad rfl)) ?_
  refine Au ?_
  refine U (.tr (PEv.leq (.t rfl) (.t rfl)) (bj (by have:=hg.mn;omega))) ?_
  refine U (.pa rfl (fun hp=>wQ)) ?_
  refine I rfl ?_
  refine Au ?_
  refine U (.fB 3 rfl) ?_
  refine Au ?_
  refine U (.lb rfl (hS.b0.Ad rfl)) ?_
  refine Au ?_
  refine U (.tr (PEv.leq (.t rfl) (.const _)) (bj (by have:=hg.mn;omega))) ?_
  refine U (.pa rfl (fun hp=>wQ)) ?_
  refine LW.A rfl (Ah (Am ?_))
  refine KW.q ?_
  exact⟨rfl,hS.Ch⟩
theorem Zb(s:Sk)(n:Int)(B:Nat)(w:World)(hB:Blk w B #[vi n] 3)(hn:0≤n∧n≤1000)(hg:s.Ok n)(h1:Els w s.ta 1 A3 s.tl)(h2:Els w s.na 1 A3 s.nx):Ret prog 99 #[.agg s.cells,.pointer (some ⟨B,0,none⟩)] w fun r w'=>r=.bool false∧Up w w':=by
 obtain⟨w0,rfl,hS⟩:=W0 w
 refine cT 8 func99 rfl ?_
 refine Af ?_
 refine Ap (.bA rfl) rfl ?_
 rintro _ w1 ⟨B2,rfl,NB2⟩
 have eB2:=NB2.at_
 have zB2:=NB2.size
 replace hS:=hS.Cg NB2
 change Wx.Sep _ _ _ [_]at hS
 refine Az (An (Aa ?_))
 refine U (.lc rfl (hS.b0.agg)) ?_
 refine U (.lb rfl ((hB.up hS.Ch).Ad rfl)) ?_
 refine A4 (eC (.u rfl rfl) (xG)) rfl (Nj s n _ hn hg (Els.up h1 hS.Ch) (Els.up h2 hS.Ch)) ?_
 rintro _ w2 ⟨rfl,uw2⟩
 have zw2:=uw2.size
 replace hS:=hS.up uw2
 refine U (.n1 rfl) ?_
 refine LW.A rfl (Ah (Am ?_))
 refine KW.q ?_
 exact⟨rfl,hS.Ch⟩
theorem dP(cf:Nat)(lb:Array Go.Value)(hen:∀args w,(callFunc cf args).run prog w=.ok (.enter cf args) w)(ad:Option Addr)(cp:Nat)(l:List Sk)(w:World)(hE0:Els w ad 7 Sk.cells l)(hl:l.length≤100000)(hp:∀W,Up w W→∀x∈l,Ret prog cf (#[.agg (Sk.cells x)]++lb) W fun r W'=>r=.bool false∧Up W W'):Ret prog 192 #[.slice ad l.length cp,.func (.func cf) #[] lb] w fun r w'=>r=vi (-1)∧Up w w':=by
 have hW:=Up.refl w
 obtain⟨w0,rfl,_⟩:=W0 w
 refine cT 19 func192 rfl (Af (Az (An (Af (I rfl (U (.Ck lr (.t rfl)) (U (.move (.const _)) (Ah (Ak (A6 (σ:=Nat) (fun s w=>(s≤l.length)∧(Up w0 w)) (fun s=>[(8,.eq (vi (s:Int)))]) ([(0,.eq _),(1,.eq _),(7,.eq _)]) (fun s=>l.length-s) 0 ?_ tQ ?_))))))))))
 ·exact⟨a8 _,hW⟩
 rintro k w1 ⟨hk,hW⟩
 refine Af (U (.l2 rfl rfl) (An (CW.b rfl (fun h9=>?_) (fun h9=>?_))))
 ·replace h9:=dQ h9
  refine Aj (Ac (Ai (Ak (Af (I rfl (LW.A rfl (An ?_)))))))
  have hE:=Els.up hE0 hW
  refine Aa (I rfl (I rfl (I rfl ?_)))
  obtain⟨x,hx⟩:=Ae (xs:=l) (i:=k) oQ
  obtain⟨Bx,ox,ax,hcx⟩:=hE _ x hx
  refine U (.Ao lr l4 (.t rfl) (.t rfl) oQ ax) (U (.lc rfl (hcx)) (A4 (Cu (.t rfl) (.cu rfl) (hen)) rfl (hp _ hW x (ai hx)) ?_))
  rintro _ w2 ⟨rfl,uw2⟩
  replace hW:=hW.up uw2
  replace hcx:=hcx.up uw2
  refine Ah (CW.f rfl (Aj (Al (Ac (Aa (U (.ic rfl oQ) (I rfl (LW.nil (Av ?_)))))))))
  exact⟨k+1,⟨by omega,hW⟩,tQ,by omega⟩
 replace h9:=dQ h9
 refine A8 (Ab (Ab (Aq (Ac (Af (Az (Ah (Am (KW.q ?_)))))))))
 exact⟨rfl,hW⟩
theorem Ux(cf:Nat)(lb:Array Go.Value)(hen:∀args w,(callFunc cf args).run prog w=.ok (.enter cf args) w)(ad:Option Addr)(cp:Nat)(l:List Sk)(w:World)(hE0:Els w ad 7 Sk.cells l)(hl:l.length≤100000)(hp:∀W,Up w W→∀x∈l,Ret prog cf (#[.agg (Sk.cells x)]++lb) W fun r W'=>r=.bool false∧Up W W'):Ret prog 98 #[.slice ad l.length cp,.func (.func cf) #[] lb] w fun r w'=>r=.bool false∧Up w w':=by
 have hW:=Up.refl w
 refine cT 9 func98 rfl (Af (Az (An (Aa (I rfl (I rfl (A4 (eC (.u rfl rfl) (EU)) rfl (dP cf lb hen ad cp l _ (Els.up hE0 hW) hl (fun W u x hx=>hp W (hW.trans u) x hx)) ?_)))))))
 rintro _ w1 ⟨rfl,uw1⟩
 replace hW:=hW.up uw1
 refine U (.geq (.t rfl) (.const _)) (LW.A rfl (Ah (Am (KW.q ?_))))
 exact⟨rfl,hW⟩
theorem Rg(x:Wn)(n:Int)(w:World)(hn:0≤n∧n≤1000)(hx:x.Ok n):Ret prog 101 #[.agg x.cells,vi n] w fun r w'=>r=.bool true∧Up w w':=by
 obtain⟨w0,rfl,hS⟩:=W0 w
 refine cT 29 func101 rfl ?_
 refine Af ?_
 refine Ap (.bA rfl) rfl ?_
 rintro _ w1 ⟨B2,rfl,NB2⟩
 have eB2:=NB2.at_
 have zB2:=NB2.size
 replace hS:=hS.Cg NB2
 change Wx.Sep _ _ _ [_]at hS
 refine Az (An (Aa ?_))
 refine U (.fB 0 rfl) ?_
 refine U (.lb rfl (hS.b0.Ad rfl)) ?_
 refine I rfl ?_
 refine U (.sub (.t rfl) (.const _) oQ oQ) ?_
 refine A4 (eC (.ct rfl (.cons (.const _) (.cu rfl))) (Rf)) rfl (Ea _ _ _ _ (by have:=hx.a;omega)) ?_
 rintro _ w2 ⟨rfl,uw2⟩
 have zw2:=uw2.size
 replace hS:=hS.up uw2
 refine I rfl ?_
 refine Au ?_
 refine U (.fB 1 rfl) ?_
 refine Au ?_
 refine U (.lb rfl (hS.b0.Ad rfl)) ?_
 refine Au ?_
 refine I rfl ?_
 refine Au ?_
 refine U (.sub (.t rfl) (.const _) oQ oQ) ?_
 refine Au ?_
 refine A4 (eC (.ct rfl (.cons (.const _) (.cu rfl))) (Rf)) rfl (Ea _ _ _ _ (by have:=hx.b;omega)) ?_
 rintro _ w3 ⟨rfl,uw3⟩
 have zw3:=uw3.size
 replace hS:=hS.up uw3
 refine U (.pa rfl (fun hp=>wQ)) ?_
 refine I rfl ?_
 refine Au ?_
 refine U (.fB 0 rfl) ?_
 refine Au ?_
 refine U (.lb rfl (hS.b0.Ad rfl)) ?_
 refine Au ?_
 refine U (.fB 1 rfl) ?_
 refine Au ?_
 refine U (.lb rfl (hS.b0.Ad rfl)) ?_
 refine Au ?_
 refine U (.tr (PEv.neq (.t rfl) (.t rfl)) (by simp[hx.ne])) ?_
 refine U (.pa rfl (fun hp=>wQ)) ?_
 refine I rfl ?_
 refine Au ?_
 refine U (.fB 2 rfl) ?_
 refine Au ?_
 refine U (.lb rfl (hS.b0.Ad rfl)) ?_
 refine Au ?_
 refine A4 (eC (.ct rfl (.cons (.const _) (.cons (.const _) .nil))) (Rf)) rfl (Ea _ _ _ _ (by have:=hx.l;omega)) ?_
 rintro _ w4 ⟨rfl,uw4⟩
 have zw4:=uw4.size
 replace hS:=hS.up uw4
 refine U (.pa rfl (fun hp=>wQ)) ?_
 refine LW.A rfl (Ah (Am ?_))
 refine KW.q ?_
 exact⟨rfl,hS.Ch⟩
theorem Zc(ad:Option Addr)(cp:Nat)(x:Wn)(w:World):Ret prog 102 #[.slice ad 0 cp,.agg x.cells] w fun r w'=>r=.bool true∧Up w w':=by
 obtain⟨w0,rfl,hS⟩:=W0 w
 refine cT 34 func102 rfl ?_
 refine Af ?_
 refine Ap (.bA rfl) rfl ?_
 rintro _ w1 ⟨B3,rfl,NB3⟩
 have eB3:=NB3.at_
 have zB3:=NB3.size
 replace hS:=hS.Cg NB3
 change Wx.Sep _ _ _ [_]at hS
 refine Az (An (Af (I rfl ?_)))
 refine U (.Ck l9 (.t rfl)) ?_
 refine U (.tr (PEv.eql (.t rfl) (.const _)) (rfl)) ?_
 refine Ah ?_
 refine CW.v rfl ?_
 refine Af (Az (Ah (Am (Ar ?_))))
 refine KW.q ?_
 exact⟨rfl,hS.Ch⟩
theorem L3(sa wa:Option Addr)(sc wc:Nat)(L:List Sk)(Ws:List Wn)(w:World)(hF:FlG w sa wa L Ws):Ret prog 37 #[.agg (Cx sa L.length sc wa Ws.length wc)] w fun r w'=>r=.bool true∧Up w w':=by
 obtain⟨w0,rfl,hS⟩:=W0 w
 refine cT 49 func37 rfl ?_
 refine Af ?_
 refine Ap (.bA rfl) rfl ?_
 rintro _ w1 ⟨B1,rfl,NB1⟩
 have eB1:=NB1.at_
 have zB1:=NB1.size
 replace hS:=hS.Cg NB1
 change Wx.Sep _ _ _ [_]at hS
 refine Az (An (Aa ?_))
 refine U (.fB 2 rfl) ?_
 refine U (.lb rfl (hS.b0.Ad rfl)) ?_
 refine U (.Ck lr (.t rfl)) ?_
 refine Ap (.Gl lq rfl) rfl ?_
 rintro _ w2 ⟨B3,rfl,MB3⟩
 refine Cd (.store lg (.t rfl) (.t rfl) rfl MB3.blk cQ) ?_
 intro w3 LB3
 have NB3:=MB3.set LB3
 clear LB3 MB3
 have eB3:=NB3.at_
 have zB3:=NB3.size
 replace hS:=hS.Cg NB3
 change Wx.Sep _ _ _ [_,_]at hS
 refine An (Af ?_)
 refine U (.lc rfl (hS.b0.agg)) ?_
 refine A4 (eC (.o rfl) (CP)) rfl (L2 sa wa _ sc _ wc _) ?_
 rintro _ w4 ⟨rfl,uw4⟩
 have zw4:=uw4.size
 replace hS:=hS.up uw4
 refine U (.n1 rfl) ?_
 refine I rfl ?_
 refine Au ?_
 refine U (.lb rfl (hS.b1.Ad rfl)) ?_
 refine Au ?_
 refine A4 (eC (.ct rfl (.cons (.const _) (.cons (.const _) .nil))) (Rf)) rfl (Ea _ _ _ _ (by have:=hF.len;omega)) ?_
 rintro _ w5 ⟨rfl,uw5⟩
 have zw5:=uw5.size
 replace hS:=hS.up uw5
 refine Au ?_
 refine U (.fa (PEv.n1 rfl) (rfl)) ?_
 refine U (.po rfl (fun hp=>wQ)) ?_
 refine I rfl ?_
 refine Au ?_
 refine U (.fB 3 rfl) ?_
 refine Au ?_
 refine U (.lb rfl (hS.b0.Ad rfl)) ?_
 refine Au ?_
 refine U (.Ck l9 (.t rfl)) ?_
 refine Au ?_
 refine U (.fa (PEv.gtr (.t rfl) (.const _)) (br (by have:=hF.wl;omega))) ?_
 refine U (.po rfl (fun hp=>wQ)) ?_
 refine Ah ?_
 refine CW.f rfl ?_
 refine Aj (Ac (Ai (Af ?_)))
 refine U (.fB 2 rfl) ?_
 refine U (.lb rfl (hS.b0.Ad rfl)) ?_
 refine U (.makeFunc (.cu rfl)) ?_
 refine A4 (eC (.u rfl rfl) (KE)) rfl (Ux 99 #[.pointer (some ⟨B3,0,none⟩)] KF sa sc L _ (Els.up hF.E hS.Ch) (by have:=hF.len;omega) (fun W u x hx=>Zb x L.length B3 W (hS.b1.up u) (by have:=hF.len;omega) (hF.g x hx) (Els.up (hF.p x hx).1 (hS.Ch.trans u)) (Els.up (hF.p x hx).2 (hS.Ch.trans u)))) ?_
 rintro _ w6 ⟨rfl,uw6⟩
 have zw6:=uw6.size
 replace hS:=hS.up uw6
 refine Ah ?_
 refine CW.f rfl ?_
 refine Aj (Ac (Ai (Af ?_)))
 refine U (.fB 3 rfl) ?_
 refine U (.lb rfl (hS.b0.Ad rfl)) ?_
 refine U (.Ck l9 (.t rfl)) ?_
 refine U (.move (.const _)) ?_
 refine Ah (Ak ?_)
 refine A6 (σ:=Nat) (fun s w=>(s≤1)∧(Wx.Sep no w0 w [A5 B1 (Cx sa L.length sc wa Ws.length wc) 29,A5 B3 #[vi (L.length:Int)] 3])) (fun s=>[(30,.eq (vi (s:Int)))]) ([(1,.eq _),(3,.eq _),(28,.eq _),(29,.eq _)]) (fun s=>1-s) 0 ?_ tQ ?_
 ·exact⟨a8 _,hS⟩
 rintro k w7 ⟨hk,hS⟩
 refine Af ?_
 refine U (.l2 rfl rfl) ?_
 refine An ?_
 refine CW.b rfl (fun h31=>?_) (fun h31=>?_)
 ·replace h31:=dQ h31
  refine Aj (Ac (Ai (Ak (Ai ?_))))
  have hk0:k=0:=by have:=cm.1 h31;have:=hF.wl;omega
  subst hk0
  obtain⟨x,hx⟩:=Ae (xs:=Ws) (i:=0) (cm.1 h31)
  obtain⟨Bw,ow,aw,hcw⟩:=hF.wE 0 x hx
  refine Aa (I rfl ?_)
  refine U (.Ao l9 nt (j:=0) (.t rfl) (.t rfl) oQ aw) ?_
  refine U (.lc rfl ((hcw.up hS.Ch))) ?_
  refine Ap (.Cb nu) rfl ?_
  rintro _ w8 ⟨B5,rfl,MB5⟩
  refine LW.A rfl ?_
  refine Cd (.Cc nt rfl (.t rfl) (.t rfl) (Wn.one _) MB5.blk rfl) ?_
  intro w9 LB5
  have NB5:=MB5.set LB5
  clear LB5 MB5
  have eB5:=NB5.at_
  have zB5:=NB5.size
  replace hS:=hS.Cg NB5
  change Wx.Sep _ _ _ [_,_,_]at hS
  refine An ?_
  refine C5 kQ kQ rfl rfl ?_
  refine J (.lc rfl (hS.b2.agg)) ?_
  refine J (.lb rfl (hS.b1.Ad rfl)) ?_
  refine HW.c (fun a w _ ha=>Bi (.ct rfl (.cu rfl)) (CQ) a ha) rfl rfl (fun w hu=>Rg x L.length w (by have:=hF.len;omega) (hF.wn x (ai hx))) ?_
  refine J (.fa (PEv.n1 rfl) (rfl)) ?_
  refine J (.mv rfl) ?_
  refine C6 (.fB 3 rfl) ?_
  refine C6 (.lb rfl (hS.b0.Ad rfl)) ?_
  refine C6 (.mv rfl) ?_
  refine C6 (.Ow l9 nt (.t rfl) (.t rfl) oQ) ?_
  refine C6 (.lc rfl (hS.b2.agg)) ?_
  refine xF rfl rfl rfl rfl rfl (fun a w _ ha=>Bi (.ct rfl (.cu rfl)) (CR) a ha) rfl (fun w hu=>Zc wa wc x w) ?_
  refine C6 (.fa (PEv.n1 rfl) (rfl)) ?_
  refine J (.fa (PEv.po rfl (fun hp=>wQ)) (rfl)) ?_
  refine HW.nil ?_
  intro w10 uw10
  have zw10:=uw10.size
  replace hS:=hS.up uw10
  refine Ac ?_
  refine CW.f rfl ?_
  refine Aj (Al (Ac (Aa ?_)))
  refine U (.ic rfl oQ) ?_
  refine I rfl (LW.nil (Av ?_))
  exact⟨1,⟨bl _,hS.take 2⟩,tQ,by first|omega|(dsimp only;omega)⟩
 replace h31:=dQ h31
 refine A8 (Ab (Ab (Aq (Ac (Af (Az (Ah (Am ?_))))))))
 refine KW.q ?_
 exact⟨rfl,hS.Ch⟩
theorem dR(sa wa:Option Addr)(sc wc:Nat)(s0 s1 s2:Sk)(w:World)(hF:FlE w sa wa s0 s1 s2):Ret prog 37 #[.agg (Ni sa sc wa wc)] w fun r w'=>r=.bool true∧Up w w':=L3 sa wa sc wc [s0,s1,s2] [nY] w hF.G
theorem dS(cf:Nat)(lb:Array Go.Value)(hen:∀args w,(callFunc cf args).run prog w=.ok (.enter cf args) w)(ad:Option Addr)(cp:Nat)(l:List Int)(w:World)(hE0:Els w ad 1 A3 l)(hl:l.length≤100000)(hp:∀W,Up w W→∀x∈l,Ret prog cf (#[vi x]++lb) W fun r W'=>r=.bool false∧Up W W'):Ret prog 255 #[.slice ad l.length cp,.func (.func cf) #[] lb] w fun r w'=>r=vi (-1)∧Up w w':=by
 have hW:=Up.refl w
 obtain⟨w0,rfl,_⟩:=W0 w
 refine cT 19 func255 rfl (Af (Az (An (Af (I rfl (U (.Ck k_ (.t rfl)) (U (.move (.const _)) (Ah (Ak (A6 (σ:=Nat) (fun s w=>(s≤l.length)∧(Up w0 w)) (fun s=>[(8,.eq (vi (s:Int)))]) ([(0,.eq _),(1,.eq _),(7,.eq _)]) (fun s=>l.length-s) 0 ?_ tQ ?_))))))))))
 ·exact⟨a8 _,hW⟩
 rintro k w1 ⟨hk,hW⟩
 refine Af (U (.l2 rfl rfl) (An (CW.b rfl (fun h9=>?_) (fun h9=>?_))))
 ·replace h9:=dQ h9
  refine Aj (Ac (Ai (Ak (Af (I rfl (LW.A rfl (An ?_)))))))
  have hE:=Els.up hE0 hW
  refine Aa (I rfl (I rfl (I rfl ?_)))
  obtain⟨x,hx⟩:=Ae (xs:=l) (i:=k) oQ
  obtain⟨Bx,ox,ax,hcx⟩:=hE _ x hx
  refine U (.Ao k_ lg (.t rfl) (.t rfl) oQ ax) (U (.lb rfl (hcx.nth (j:=0) rfl)) (A4 (Cu (.t rfl) (.cu rfl) (hen)) rfl (hp _ hW x (ai hx)) ?_))
  rintro _ w2 ⟨rfl,uw2⟩
  replace hW:=hW.up uw2
  replace hcx:=hcx.up uw2
  refine Ah (CW.f rfl (Aj (Al (Ac (Aa (U (.ic rfl oQ) (I rfl (LW.nil (Av ?_)))))))))
  exact⟨k+1,⟨by omega,hW⟩,tQ,by omega⟩
 replace h9:=dQ h9
 refine A8 (Ab (Ab (Aq (Ac (Af (Az (Ah (Am (KW.q ?_)))))))))
 exact⟨rfl,hW⟩
theorem Uy(cf:Nat)(lb:Array Go.Value)(hen:∀args w,(callFunc cf args).run prog w=.ok (.enter cf args) w)(ad:Option Addr)(cp:Nat)(l:List Int)(w:World)(hE0:Els w ad 1 A3 l)(hl:l.length≤100000)(hp:∀W,Up w W→∀x∈l,Ret prog cf (#[vi x]++lb) W fun r W'=>r=.bool false∧Up W W'):Ret prog 237 #[.slice ad l.length cp,.func (.func cf) #[] lb] w fun r w'=>r=.bool false∧Up w w':=by
 have hW:=Up.refl w
 refine cT 9 func237 rfl (Af (Az (An (Aa (I rfl (I rfl (A4 (eC (.u rfl rfl) (yA)) rfl (dS cf lb hen ad cp l _ (Els.up hE0 hW) hl (fun W u x hx=>hp W (hW.trans u) x hx)) ?_)))))))
 rintro _ w1 ⟨rfl,uw1⟩
 replace hW:=hW.up uw1
 refine U (.geq (.t rfl) (.const _)) (LW.A rfl (Ah (Am (KW.q ?_))))
 exact⟨rfl,hW⟩
theorem dU(n:Int)(B:Nat)(sa wa:Option Addr)(m sc k wc:Nat)(w:World)(hB:Blk w B (Cx sa m sc wa k wc) 29)(hn:0≤n∧n<m):Ret prog 238 #[vi n,.pointer (some ⟨B,0,none⟩)] w fun r w'=>r=.bool false∧Up w w':=by
 have hW:=Up.refl w
 refine cT 13 func238 rfl ?_
 refine Af (Az (An (Aa (I rfl ?_))))
 refine U (.fa (PEv.lss (.t rfl) (.const _)) (br oQ)) ?_
 refine I rfl ?_
 refine Au ?_
 refine I rfl ?_
 refine Au ?_
 refine U (.fB 2 rfl) ?_
 refine Au ?_
 refine U (.lb rfl (hB.Ad rfl)) ?_
 refine Au ?_
 refine U (.Ck lr (.t rfl)) ?_
 refine Au ?_
 refine U (.fa (PEv.geq (.t rfl) (.t rfl)) (br oQ)) ?_
 refine U (.fa (PEv.po rfl (fun hp=>wQ)) (rfl)) ?_
 refine LW.A rfl (Ah (Am ?_))
 refine KW.q ?_
 exact⟨rfl,hW⟩
theorem Sx(sa wa:Option Addr)(sc wc:Nat)(L:List Sk)(Ws:List Wn)(w:World)(hF:FlG w sa wa L Ws)(ad:Option Addr)(cp:Nat)(l:List Int)(hE:Els w ad 1 A3 l)(hl:l.length≤1000)(hn:∀x∈l,0≤x∧x<L.length):Ret prog 194 #[.agg (Cx sa L.length sc wa Ws.length wc),.slice ad l.length cp] w fun r w'=>r=.bool true∧Up w w':=by
 obtain⟨w0,rfl,hS⟩:=W0 w
 refine cT 13 func194 rfl ?_
 refine Af ?_
 refine Ap (.bA rfl) rfl ?_
 rintro _ w1 ⟨B2,rfl,NB2⟩
 have eB2:=NB2.at_
 have zB2:=NB2.size
 replace hS:=hS.Cg NB2
 change Wx.Sep _ _ _ [_]at hS
 refine Az (An (Aa ?_))
 refine U (.lc rfl (hS.b0.agg)) ?_
 refine A4 (eC (.o rfl) (zE)) rfl (L3 sa wa sc wc L Ws _ (hF.up hS.Ch)) ?_
 rintro _ w2 ⟨rfl,uw2⟩
 have zw2:=uw2.size
 replace hS:=hS.up uw2
 refine I rfl ?_
 refine Au ?_
 refine I rfl ?_
 refine Au ?_
 refine U (.makeFunc (.cu rfl)) ?_
 refine Au ?_
 refine A4 (eC (.u rfl rfl) (FV)) rfl (Uy 238 #[.pointer (some ⟨B2,0,none⟩)] FW ad cp l _ (Els.up hE hS.Ch) oQ (fun W u x hx=>dU x B2 sa wa _ sc _ wc W (hS.b0.up u) (hn x hx))) ?_
 rintro _ w3 ⟨rfl,uw3⟩
 have zw3:=uw3.size
 replace hS:=hS.up uw3
 refine Au ?_
 refine U (.n1 rfl) ?_
 refine U (.pa rfl (fun hp=>wQ)) ?_
 refine LW.A rfl (Ah (Am ?_))
 refine KW.q ?_
 exact⟨rfl,hS.Ch⟩
theorem Vs(sa wa:Option Addr)(sc wc:Nat)(s0 s1 s2:Sk)(w:World)(hF:FlE w sa wa s0 s1 s2)(ad:Option Addr)(cp:Nat)(l:List Int)(hE:Els w ad 1 A3 l)(hl:l.length≤1000)(hn:∀x∈l,0≤x∧x<3):Ret prog 194 #[.agg (Ni sa sc wa wc),.slice ad l.length cp] w fun r w'=>r=.bool true∧Up w w':=Sx sa wa sc wc [s0,s1,s2] [nY] w hF.G ad cp l hE hl hn
end Go.Proofs.YtnpgbbaniknpkaaGreatDoor
namespace Go.Wx
open Go.RowKit
def zS{α:Type}(bq:Nat)(Z:Nat→Prop)(I:List α→World→Prop)(ys:List α)(W:World):Exit→Go.Act→World→Prop
 |.normal,_,W'=>KeepsFrom bq W W'∧(∀b,Z b→W'.heap[b]?=W.heap[b]?)∧I ys W'
 |_,_,_=>False
def yG{α:Type}(P:Program)(g:Nat)(lb:Array Value)(encs:α→Array Value)(Z:Nat→Prop)(S:List α→Prop)(N:Nat)(w:World):Prop:=
 ∀(lp:Nat)(J:List α→World→Prop)(W:World),Up w W→(∀s A B,J s A→Fr Z A B→J s B)→
   (∀pre x W1,J pre W1→pre.length<N→YieldAt (FR none) 8 P lp (encs x) W1 fun e W'=>∃v,e=.returned v∧v=.bool true∧J (pre++[x]) W'∧∀b,Z b→W'.heap[b]?=W1.heap[b]?)→
   J [] W→Ret P g (#[.func (.yield lp) #[] #[]]++lb) W fun _ W'=>∃ys,S ys∧J ys W'
theorem Sz.uD{B:Nat}{Z:Nat→Prop}{w w':World}(h:Sz B w)(k:Fr Z w w'):Sz B w':=bu h k.size
theorem Blk.uD{B:Nat}{cs:Array Value}{T:TypeId}{Z:Nat→Prop}{w w':World}(h:Blk w B cs T)(k:Fr Z w w')(hn:¬Z B):Blk w' B cs T:=(k.block B h.lt hn).trans h
theorem OwnS.uD{α:Type}{enc:α→Array Value}{base k:Nat}{e:TypeId}{Z:Nat→Prop}{w w':World}{v:Value}{xs:List α}(h:OwnS w base e k enc v xs)(u:Fr Z w w')(hn:∀b,Z b→b<base):OwnS w' base e k enc v xs:=by
 obtain⟨h1,h2⟩:=h
 refine⟨h1,?_⟩
 rcases h2 with h2|⟨g,cap,cur,rfl,hb,hg,rest⟩
 · exact .inl h2
 exact .inr ⟨g,cap,cur,rfl,hb,(u.block g (lt_of_block hg) (fun hz=>by have:=hn g hz;omega)).trans hg,rest⟩
theorem Up.uD{Z:Nat→Prop}{w0 w w':World}(h:Up w0 w)(k:Fr Z w w')(hn:∀b,Z b→w0.heap.size≤b):Up w0 w':=
 ⟨k.os.trans h.os,k.tape.trans h.tape,k.output.trans h.output,bu (Up.size h) k.size,fun i hi=>(k.block i (fc hi (Up.size h)) (fun hz=>by have:=hn i hz;omega)).trans (h.block hi)⟩
structure Zk(B:Nat)(w w':World):Prop where
 lt:B<w'.heap.size
 same:w'.heap[B]?=w.heap[B]?
theorem Zk.refl{B:Nat}{w:World}(h:B<w.heap.size):Zk B w w:=⟨h,rfl⟩
theorem Zk.up{B:Nat}{w0 w w':World}(h:Zk B w0 w)(u:Up w w'):Zk B w0 w':=⟨fc h.lt u.size,(u.block h.lt).trans h.same⟩
theorem Zk.sto{B B':Nat}{w0 w w':World}(h:Zk B w0 w)(u:Sto B' w w')(hne:B≠B'):Zk B w0 w':=⟨fc h.lt u.size,(u.block _ h.lt hne).trans h.same⟩
theorem Zk.gr{B base:Nat}{w0 w w':World}(h:Zk B w0 w)(u:Grew base w w')(hb:B<base):Zk B w0 w':=⟨fc h.lt u.size,(u.block _ h.lt hb).trans h.same⟩
section
variable {R:Option Nat}{m:Nat}{P:Program}{n:Nat}{ds:List Deferred}{Q:Exit→Go.Act→World→Prop}{l:Env}{w:World}
theorem dV{lp:Nat}{c:Code}{p q:Nat}{v u:Value}(hp:Nat.ble (p+1) n=true)(hq:Nat.ble (q+1) n=true)(h:CW (some lp) m P n [] c Q ((q,.eq u)::(p,.eq v)::l) w):
   ∀a,Ag n ds l a w→c.wpIn (FR (some lp)) m P Q { tmps:=(#[p,q].zip #[v,u]).foldl (fun t(p,v)=>t.setIfInBounds p v) a.tmps,defers:=[] } w:=fun a ha=>by
 have e:(#[p,q].zip #[v,u]).foldl (fun t(p,v)=>t.setIfInBounds p v) a.tmps=(a.tmps.setIfInBounds p v).setIfInBounds q u:=by simp
 rw[e]
 have h1:Ag n [] l { tmps:=a.tmps,defers:=[] } w:=⟨rfl,ha.size,ha.val⟩
 exact h _ ((h1.put hp (ph:=.eq v) rfl).put hq (ph:=.eq u) rfl)
theorem Uz{α:Type}{g:Operand}{ps:Array Tmp}{assign body:Code}{gf:Nat}{lb:Array Value}{encs:α→Array Value}(Z:Nat→Prop){S:List α→Prop}{N:Nat}(I:List α→World→Prop)(env:α→Env)
   (hx:Val l g (.func (.func gf) #[] lb))(en:∀args w,(callFunc gf args).run P w=.ok (.enter gf args) w)(hit:∀W,Up w W→yG P gf lb encs Z S N W)(hps:∀x,(encs x).size=ps.size)(hl:Cq l=true)(hZ:∀b,Z b→b<w.heap.size)
   (hI:OwnFrom w.heap.size I)(hIZ:∀s A B,I s A→Fr Z A B→I s B)(h0:I [] w)
   (hassign:∀(lp:Nat)(x:α)(W:World)(a:Go.Act),Ag n ds l a W→assign.wpIn (FR (some lp)) 8 P (Exit.then (fun a' W'=>W'=W∧Ag n [] (env x) a' W) (fun _ _ _=>False)) { tmps:=(ps.zip (encs x)).foldl (fun t(p,v)=>t.setIfInBounds p v) a.tmps,defers:=[] } W)
   (henv:∀x,Cq (env x)=true)
   (hbody:∀(lp:Nat)(pre:List α)(x:α)(W:World),I pre W→pre.length<N→CW (some lp) 8 P n [] body (zS w.heap.size Z I (pre++[x]) W) (env x) W)
   (hdone:∀(D:Nat)(ys:List α)(W:World),w.heap.size≤D→S ys→I ys W→W.heap[D]?=some (.deferred (some []))→KW n ({ target:=.collected D,args:=#[] }::ds) (Q .normal) l W):
   CW none 10 P n ds (.rangeFunc g ps assign body) Q l w:=fun a ha=>by
 have hg:=ha.ev hx
 refine wpIn_rangeFunc ?_
 intro fn hfn
 -- the loop's record,and the block of what the rounds defer
 let rec_:LoopState→Option Code→Loop:=fun st pe=>{ state:=st,pending:=pe,fn,tmps:=a.tmps,params:=ps,assign,body,defers:=w.heap.size }
 let kd:Nat:=w.heap.size
 let lp:Nat:=w.heap.size+1
 let W1:World:=(w.alloc (.deferred (some []))).alloc (.loop (rec_ .ready none))
 have hU:Up w W1:=(Up.alloc _ _).trans (Up.alloc _ _)
 have rec1:W1.heap[lp]?=some (.loop (rec_ .ready none)):=by
   have:=World.alloc_heap_new (w.alloc (.deferred (some []))) (.loop (rec_ .ready none))
   rw[World.size_alloc]at this
   exact this
 have dfr1:W1.heap[kd]?=some (.deferred (some [])):=(Below.heap_alloc _ _ _ (by simp[kd])).trans (World.alloc_heap_new w _)
 have hne:kd≠lp:=by show w.heap.size≠w.heap.size+1;omega
 have hI1:I [] W1:=hI.alloc _ (hI.alloc _ h0)
 refine⟨lp,[{ target:=.collected kd,args:=#[] }],W1,{ target:=.fn (.func gf) lb,args:=#[.func (.yield lp) #[] #[]] },W1,gf,#[.func (.yield lp) #[] #[]]++lb,W1,run_enterLoop_outer _ _ _ _ _,?_,fun f' hf'=>?_,?_,fun _=>cQ,?_⟩
 · simp only[resolve,hg]
   simp[go_sem]
 · simp[Target.leads]at hf';subst hf';trivial
 · simp[invoke,go_sem,en]
 have fine:∀{A B:World},Fr Z A B→∀(k:Nat)(o:Obj),w.heap.size≤k→A.heap[k]?=some o→B.heap[k]?=some o:=fun hf k o hk ho=>
   (hf.block k (lt_of_block ho) (fun hz=>by have:=hZ k hz;omega)).trans ho
 have all:=hit W1 hU lp (fun pre W=>I pre W∧W.heap[lp]?=some (.loop (rec_ .ready none))∧W.heap[kd]?=some (.deferred (some []))) W1 (Up.refl _)
   (fun s A B hs hf=>⟨hIZ s A B hs.1 hf,fine hf lp _ (by show w.heap.size≤w.heap.size+1;omega) hs.2.1,fine hf kd _ (bl _) hs.2.2⟩) ?_ ⟨hI1,rec1,dfr1⟩
 · refine(show CallsIn (FR none) 9 P gf _ W1 _ from callsIn_wide.2 all).mono ?_
   rintro e W2 ⟨v,rfl,xs,hS,hi,hlr,hk⟩
   refine⟨none,W2.putObj lp (.loop (rec_ .exhausted none)),?_,?_⟩
   · exact run_endLoop (P:=P) hlr (by simp[rec_])
   exact hdone kd xs _ (bl _) hS (hI.putObj _ hi (by show w.heap.size≤w.heap.size+1;omega) hlr rfl) ((World.putObj_heap_other hne).trans hk) _ ⟨by rw[←ha.defers];rfl,ha.size,(ha.world hl _).val⟩
 -- one round
 rintro pre x W ⟨hi,hlr,hk⟩ hlen
 have hlt:=lt_of_block hlr
 have hy:=run_yield (P:=P) (args:=encs x) hlr (by simp only[rec_];exact hps x)
 refine⟨fn,_,assign,body,hy,roundIn_of_wpIn hfn ?_⟩
 refine wpIn_mono (hassign lp x W a (ha.world hl W)) ?_
 intro e a1 W' hq
 cases e with
 |normal=>
   obtain⟨rfl,ha1⟩:=hq
   refine⟨_,run_beginRound hlr rfl,?_⟩
   have hput:OwnFrom w.heap.size I→I pre (W'.putObj lp (.loop { rec_ .ready none with state:=.busy })):=fun h=>h.putObj _ hi (by show w.heap.size≤w.heap.size+1;omega) hlr rfl
   have l2:(W'.putObj lp (.loop { rec_ .ready none with state:=.busy })).heap[lp]?=some (.loop { rec_ .ready none with state:=.busy }):=World.putObj_heap_same hlt
   have k2:(W'.putObj lp (.loop { rec_ .ready none with state:=.busy })).heap[kd]?=some (.deferred (some [])):=(World.putObj_heap_other hne).trans hk
   refine wpIn_mono (hbody lp pre x _ (hput hI) hlen a1 (ha1.world (henv x) _)) ?_
   intro e2 a2 W3 hp
   cases e2 with
   |normal=>
     obtain⟨hk3,hz3,hi3⟩:=hp
     have l3:=hk3.same _ _ (by show w.heap.size≤w.heap.size+1;omega) l2 rfl
     have k3:=hk3.same _ _ (bl _) k2 rfl
     have hr:=run_endRound (P:=P) none l3
     have ne:∀b,Z b→b≠lp:=fun b hb=>by have:=hZ b hb;show b≠w.heap.size+1;omega
     refine⟨_,_,hr,_,rfl,rfl,⟨hI.putObj _ hi3 (by show w.heap.size≤w.heap.size+1;omega) l3 rfl,World.putObj_heap_same (lt_of_block l3),(World.putObj_heap_other hne).trans k3⟩,fun b hb=>?_⟩
     exact(World.putObj_heap_other (ne b hb)).trans ((hz3 b hb).trans (World.putObj_heap_other (ne b hb)))
   |ret=>exact hp.elim
   |exit id=>exact hp.elim
   |goto t=>exact hp.elim
   |panic ch=>exact hp.elim
   |outgrown=>exact hp.elim
 |ret=>exact hq.elim
 |exit id=>exact hq.elim
 |goto t=>exact hq.elim
 |panic ch=>exact hq.elim
 |outgrown=>exact hq.elim
end
def Cy(As:List Asr):Nat→Prop:=fun i=>∃A∈As,A.foot i
section
variable {S0:Nat→Prop}{w0 w w':World}{As Bs Zs As':List Asr}{A:Asr}
theorem H0{i:Nat}:Cy (As++Bs) i↔Cy As i∨Cy Bs i:=by
 constructor
 · rintro⟨A,hA,hi⟩
   exact(bt.1 hA).imp (fun h=>⟨A,h,hi⟩) (fun h=>⟨A,h,hi⟩)
 rintro(⟨A,hA,hi⟩|⟨A,hA,hi⟩)
 · exact⟨A,eh _ hA,hi⟩
 exact⟨A,f4 _ hA,hi⟩
theorem kS{i:Nat}(h:A.foot i):Cy [A] i:=⟨A,bn.2 rfl,h⟩
theorem Sep.self(h:Sep S0 w0 w As):Sep (Cy As) w w As:=⟨Fr.refl _ _,fun A hA=>⟨(h.each A hA).1,fun _ hi=>.inl ⟨A,hA,hi⟩⟩,h.apart⟩
theorem Sep.right(h:Sep S0 w0 w (Zs++As)):Sep S0 w0 w As:=h.sub (List.sublist_append_right _ _)
theorem Sep.left(h:Sep S0 w0 w (Zs++As)):Sep S0 w0 w Zs:=h.sub (jm _ _)
theorem Sep.HU(h:Sep S0 w0 w (Zs++As)){i:Nat}(hz:Cy Zs i):¬Cy As i:=by
 obtain⟨Z,hZ,h1⟩:=hz
 rintro⟨A,hA,h2⟩
 exact(cj.1 h.apart).2.2 Z hZ A hA i h1 h2
theorem Sep.K0(h:Sep S0 w0 w As){i:Nat}(hi:Cy As i):i<w.heap.size:=by
 obtain⟨A,hA,h1⟩:=hi
 exact Asr.lt _ w (h.each A hA).1 i h1
theorem Sep.frame(h:Sep S0 w0 w (Zs++As))(k:Sep (Cy As) w w' As'):Sep S0 w0 w' (Zs++As'):=by
 have hsz:=h.size
 have hF:∀i,Cy As i→S0 i∨w0.heap.size≤i:=fun i⟨A,hA,hi⟩=>(h.each A (f4 _ hA)).2 i hi
 refine⟨h.fr.next k.fr hF,fun B hB=>?_,?_⟩
 · rcases bt.1 hB with hB|hB
   · have h1:=h.each B (eh _ hB)
     exact⟨B.keep w w' h1.1 (fun i hi hlt=>k.fr.block i hlt (h.HU ⟨B,hB,hi⟩)) k.size,h1.2⟩
   have h1:=k.each B hB
   exact⟨h1.1,fun i hi=>(h1.2 i hi).elim (hF i) (fun h2=>.inr oQ)⟩
 refine cj.2 ⟨h.left.apart,k.apart,fun Z hZ B hB i h1 h2=>?_⟩
 rcases(k.each B hB).2 i h2 with h3|h3
 · exact h.HU ⟨Z,hZ,h1⟩ h3
 have:=Asr.lt _ w (h.each Z (eh _ hZ)).1 i h1
 omega
theorem Sep.join(h:Sep S0 w0 w As)(k:Sep no w w' Bs):Sep S0 w0 w' (As++Bs):=by
 have hsz:=h.size
 have h1:=h.up k.Ch
 refine⟨h1.fr,fun B hB=>?_,cj.2 ⟨h.apart,k.apart,fun A hA B hB i h2 h3=>?_⟩⟩
 · rcases bt.1 hB with hB|hB
   · exact h1.each B hB
   have h2:=k.each B hB
   exact⟨h2.1,fun i hi=>(h2.2 i hi).elim (fun e=>e.elim) (fun e=>.inr oQ)⟩
 have:=Asr.lt _ w (h.each A hA).1 i h2
 exact((k.each B hB).2 i h3).elim (fun e=>e) (fun e=>by omega)
theorem Vt{α:Type _}:∀(l:List α)(k:Nat)(a:α),l[k]?=some a→l.Perm ([a]++l.eraseIdx k)
 |[],_,_,h=>by simp at h
 |x::l,0,a,h=>by
   have:x=a:=by simpa using h
   rw[this];exact List.Perm.refl _
 |x::l,k+1,a,h=>((Vt l k a (by simpa using h)).cons x).trans (List.Perm.swap a x _)
theorem Sep.Ep(h:Sep S0 w0 w As)(k:Nat)(hk:As[k]?=some A):Sep S0 w0 w (As.eraseIdx k++[A]):=by
 exact h.perm ((Vt As k A hk).trans jw)
def KoOk(bq:Nat)(w:World)(As:List Asr):Prop:=∀i,Cy As i→i<bq∨∃o:Obj,w.heap[i]?=some o∧o.isCells=true
theorem KoOk.kO{bq:Nat}:KoOk bq w (As++Bs)↔KoOk bq w As∧KoOk bq w Bs:=
 ⟨fun h=>⟨fun i hi=>h i (H0.2 (.inl hi)),fun i hi=>h i (H0.2 (.inr hi))⟩,fun⟨h,k⟩i hi=>(H0.1 hi).elim (h i) (k i)⟩
theorem Zd{bq:Nat}(h:∀i,Cy As i→i<bq):KoOk bq w As:=fun i hi=>.inl (h i hi)
theorem KoOk.nil(bq:Nat)(w:World):KoOk bq w []:=fun _⟨_,h,_⟩=>by cases h
theorem KoOk.cons{bq:Nat}(h:∀i,A.foot i→i<bq∨∃o:Obj,w.heap[i]?=some o∧o.isCells=true)(k:KoOk bq w As):KoOk bq w (A::As):=fun i⟨B,hB,hi⟩=>by
 rcases bp.1 hB with rfl|hB
 · exact h i hi
 exact k i ⟨B,hB,hi⟩
theorem Na{bq B:Nat}{cs:Array Value}{T:TypeId}(h:Blk w B cs T):∀i,(A5 B cs T).foot i→i<bq∨∃o:Obj,w.heap[i]?=some o∧o.isCells=true:=fun i(e:i=B)=>by subst e;exact .inr ⟨_,h,rfl⟩
theorem pG{α:Type}{bq:Nat}{e:TypeId}{k:Nat}{enc:α→Array Value}{v:Value}{xs:List α}(h:OwnS w 0 e k enc v xs):∀i,(Aw e k enc v xs).foot i→i<bq∨∃o:Obj,w.heap[i]?=some o∧o.isCells=true:=fun i hi=>by
 obtain⟨_,⟨rfl,_⟩|⟨g,cap,cur,rfl,_,hg,_⟩⟩:=h
 · cases hi
 cases hi
 exact .inr ⟨_,hg,rfl⟩
theorem KoOk.ko{bq:Nat}(h:KoOk bq w As)(k:Ko bq w w'):KoOk bq w' As:=fun i hi=>by
 rcases h i hi with h1|⟨o,h1,h2⟩
 · exact .inl h1
 exact .inr ⟨o,k.same i o h1 (.inr h2),h2⟩
theorem Sep.ko{bq:Nat}(h:Sep S0 w0 w As)(hc:KoOk bq w As)(k:Ko bq w w')(hb:w0.heap.size≤bq):Sep S0 w0 w' As:=
 ⟨h.fr.ko k hb,fun A hA=>⟨A.keep w w' (h.each A hA).1 (fun i hi hlt=>by
   obtain⟨o,ho⟩:∃o,w.heap[i]?=some o:=⟨_,ce hlt⟩
   rw[ho]
   refine k.same i o ho ?_
   rcases hc i ⟨A,hA,hi⟩with h1|⟨o',h1,h2⟩
   · exact .inl h1
   rw[ho]at h1;cases h1;exact .inr h2) k.size,(h.each A hA).2⟩,h.apart⟩
end
theorem Cf{α:Type}{enc:α→Array Value}{b k:Nat}{e:TypeId}{w:World}{ad:Option Addr}{m cp:Nat}{xs:List α}(h:OwnS w b e k enc (.slice ad m cp) xs)(hk:∀x,(enc x).size=k):Els w ad k enc xs:=by
 obtain⟨ad',cp',e',hE⟩:=h.sl hk
 cases e'
 exact hE
theorem OwnS.cap{α:Type}{enc:α→Array Value}{b k:Nat}{e:TypeId}{w:World}{ad:Option Addr}{m cp:Nat}{xs:List α}(h:OwnS w b e k enc (.slice ad m cp) xs):m≤cp∧m=xs.length:=by
 obtain⟨_,⟨e1,hn⟩|⟨g,cap,cur,e1,hb,hg,hcap,hcm,hcs,htk⟩⟩:=h
 · cases e1;exact⟨bl _,hn.symm⟩
 cases e1;exact⟨hcap,rfl⟩
theorem NewSl.own{α:Type}{enc:α→Array Value}{k:Nat}{e:TypeId}{w w':World}{v:Value}{xs:List α}(h:NewSl w e k enc xs v w')(hk:∀x,(enc x).size=k)(hk0:0<k)(hm:xs.length≤maxLen):Up w w'∧∃B,v=.slice (some ⟨B,0,none⟩) xs.length xs.length∧B=w.heap.size∧OwnS w' 0 e k enc (.slice (some ⟨B,0,none⟩) xs.length xs.length) xs:=by
 obtain⟨B,cs,rfl,N,hc,hE⟩:=h
 have hfl:∀x,(enc x).toList.length=k:=fun x=>by simp[hk]
 have hl:=F0 (fun x=>(enc x).toList) k hfl xs
 refine⟨N.up,B,rfl,N.at_,hl,.inr ⟨B,xs.length,cs,rfl,a8 _,N.blk,bl _,hm,hc,?_⟩⟩
 rw[gc (by rw[c9,hc];exact bl _)]
 refine List.ext_getElem (by rw[c9,hc,hl]) fun j h1 h2=>?_
 obtain⟨x,hx1,hx2⟩:=Ol (fun x=>(enc x).toList) k hk0 hfl xs j _ (cx h2)
 obtain⟨B',o,e',hcell⟩:=hE _ x hx1
 cases e'
 have h3:=hcell (j%k) _ (by simpa using hx2)
 rw[show 0+j/k*k+j%k=j by rw[dp,i4];exact js j k]at h3
 have hb:=N.blk
 unfold Blk at hb
 have h1':j<cs.size:=by simpa using h1
 simp[World.cell?,hb,h1']at h3
 simpa using h3
def Ze(T:World→Prop)(Tx:Code→World→Prop):Exit→Go.Act→World→Prop
 |.normal,_,w=>T w
 |.ret,_,w=>Tx .ret w
 |.exit id,_,w=>Tx (.exit id) w
 |.goto t,_,w=>Tx (.goto t) w
 |_,_,_=>False
def L4(D:Nat):Asr:=⟨(· =D),fun w=>Ob w D (.deferred (some [])),fun _ _ h k _=>(k D rfl (lt_of_block h)).trans h,fun _ h _ e=>by subst e;exact lt_of_block h⟩
def Sy(Ds:List Nat):Asr:=⟨(· ∈Ds),fun w=>Ds.Nodup∧∀D∈Ds,Ob w D (.deferred (some [])),fun _ _ h k _=>⟨h.1,fun D hD=>(k D hD (lt_of_block (h.2 D hD))).trans (h.2 D hD)⟩,fun _ h _ e=>lt_of_block (h.2 _ e)⟩
theorem Sep.dW{S0:Nat→Prop}{w0 w:World}{As:List Asr}(h:Sep S0 w0 w As):Sep S0 w0 w (As++[Sy []]):=h.add (Up.refl _) ⟨ig,fun _ h=>by cases h⟩ (fun _ h=>by cases h)
theorem Xe{S0:Nat→Prop}{w0 w:World}{As Bs:List Asr}{Ds:List Nat}{D:Nat}(h:Sep S0 w0 w ((Sy Ds::As)++(Bs++[L4 D]))):Sep S0 w0 w (Sy (D::Ds)::(As++Bs)):=by
 have h1:=h.get 0 rfl
 have hD:Ob w D (.deferred (some [])):=(h.each (L4 D) (by simp)).1
 have hn:D∉Ds:=fun hm=>by
   have h2:=(eg.1 h.apart).1 (L4 D) (by simp) D hm
   exact h2 rfl
 have hs:Sep S0 w0 w ((Sy Ds::As)++Bs):=h.sub (List.Sublist.append_left (jm _ _) _)
 refine⟨h.fr,fun A hA=>?_,?_⟩
 · rcases bp.1 hA with rfl|hA
   · refine⟨⟨g5.2 ⟨hn,h1.1⟩,fun E hE=>?_⟩,fun i hi=>?_⟩
     · rcases bp.1 hE with rfl|hE
       · exact hD
       exact h1.2 E hE
     rcases bp.1 hi with rfl|hi
     · exact(h.each (L4 i) (by simp)).2 i rfl
     exact(h.each (Sy Ds) (by simp)).2 i hi
   exact hs.each A (b_ _ hA)
 have h2:=hs.apart
 rw[e_,eg]at h2
 refine eg.2 ⟨fun A hA i hi hi2=>?_,h2.2⟩
 rcases bp.1 hi with rfl|hi
 · have h3:=(cj.1 h.apart)
   rcases bt.1 hA with hA|hA
   · exact h3.2.2 A (b_ _ hA) (L4 i) (by simp) i hi2 rfl
   exact(cj.1 h3.2.1).2.2 A hA (L4 i) (by simp) i hi2 rfl
 exact h2.1 A hA i hi hi2
def kT:Asr:=⟨fun _=>False,fun _=>True,fun _ _ h _ _=>h,fun _ _ _ h=>h.elim⟩
def pH(Ds:List Nat):List Deferred:=Ds.map fun D=>{ target:=.collected D,args:=#[] }
section
variable {R:Option Nat}{m:Nat}{P:Program}{n:Nat}{ds:List Deferred}{Q:Exit→Go.Act→World→Prop}{l:Env}{w:World}
theorem Nu{fn:Func}{RR:Ending→World→Prop}(hl:Cq l=true):∀(Ds:List Nat)(w:World),Ds.Nodup→(∀D∈Ds,Ob w D (.deferred (some [])))→(∀w',Fr (· ∈Ds) w w'→KW n [] (bodyPost P fn RR .ret) l w')→KW n (pH Ds) (bodyPostM (FR none) m P fn RR .ret) l w:=by
 intro Ds w hn hk h a ha
 show LeavesInM (FR none) m P fn a.tmps RR a.defers .returning w
 rw[ha.defers]
 have key:∀(Ds:List Nat)(w:World),Ds.Nodup→(∀D∈Ds,Ob w D (.deferred (some [])))→(∀w',Fr (· ∈Ds) w w'→KW n [] (bodyPost P fn RR .ret) l w')→LeavesInM (FR none) m P fn a.tmps RR (pH Ds) .returning w:=by
   intro Ds
   induction Ds with
   |nil=>
     intro w _ _ h
     obtain⟨_,v,h2,h3⟩:=h w (Fr.refl _ _) { tmps:=a.tmps,defers:=[] } ⟨rfl,ha.size,(ha.world hl _).val⟩
     exact Lw h2 h3
   |cons D Ds ih=>
     intro w hn hk h
     have hD:=hk D b7
     obtain⟨hn1,hn2⟩:=g5.1 hn
     refine Oj hD (ih _ hn2 (fun E hE=>?_) (fun w' hf=>h w' ?_))
     · exact(World.putObj_heap_other (fun e:E=D=>hn1 (e▸hE))).trans (hk E (b_ _ hE))
     refine⟨hf.os,hf.tape,hf.output,bu (by simp) hf.size,fun i hi hs=>?_⟩
     have h1:i≠D:=fun e=>hs (by rw[e];exact b7)
     exact(hf.block i (by simpa using hi) (fun e=>hs (b_ _ e))).trans (World.putObj_heap_other h1)
 exact key Ds w hn hk h
theorem Xf(X:Nat→Prop){α σ:Type}{g:Operand}{ps:Array Tmp}{assign body:Code}{gf:Nat}{lb:Array Value}{encs:α→Array Value}{Zs:List Asr}{S0:Nat→Prop}{w0:World}(As:σ→List Asr)(J:List α→σ→Prop)(Jx:Code→List α→σ→Prop)(Bx:α→Nat→List Asr)(env:α→Nat→Env)(s0:σ){S Sp:List α→Prop}{N:Nat}
   (hX:∀pre s i,J pre s→Cy (As s) i→(S0 i∨w0.heap.size≤i)∧¬Cy Zs i→X i)(hx:Val l g (.func (.func gf) #[] lb))(en:∀args w,(callFunc gf args).run P w=.ok (.enter gf args) w)(hit:IterS P gf lb encs X (fun i=>(S0 i∨w0.heap.size≤i)∧i<w.heap.size∧¬Cy Zs i) S Sp N w)(hps:∀x,(encs x).size=ps.size)(hl:Cq l=true)(henv:∀x b,Cq (env x b)=true)
   (hS:Sep S0 w0 w (Zs++As s0))(hJ:J [] s0)
   (hassign:∀(lp:Nat)(x:α)(W:World)(a:Go.Act),Ag n ds l a W→assign.wpIn (FR (some lp)) 8 P (Exit.then (fun a' W'=>∃b,Sep no W W' (Bx x b)∧KoOk 0 W' (Bx x b)∧Ag n [] (env x b) a' W') (fun _ _ _=>False)) { tmps:=(ps.zip (encs x)).foldl (fun t(p,v)=>t.setIfInBounds p v) a.tmps,defers:=[] } W)
   (hbody:∀(lp:Nat)(pre:List α)(x:α)(s:σ)(b:Nat)(W:World),J pre s→pre.length<N→w.heap.size≤W.heap.size→Sep S0 w0 W (Zs++(As s++Bx x b))→Sep (Cy (As s++Bx x b)) W W (As s++Bx x b)→
     CW (some lp) 8 P n [] body (Ze (fun W'=>∃s' Rest,J (pre++[x]) s'∧Sep (Cy (As s++Bx x b)) W W' (As s'++Rest)∧KoOk w.heap.size W' (As s')) (fun c W'=>∃s' Rest,Jx c (pre++[x]) s'∧Sep (Cy (As s++Bx x b)) W W' (As s'++Rest)∧KoOk w.heap.size W' (As s'))) (env x b) W)
   (hdone:∀(D:Nat)(ys:List α)(s:σ)(W:World),w.heap.size≤D→S ys→J ys s→w.heap.size≤W.heap.size→Sep S0 w0 W (Zs++(As s++[L4 D]))→KW n ({ target:=.collected D,args:=#[] }::ds) (Q .normal) l W)
   (hstop:∀(D:Nat)(c:Code)(pre:List α)(s:σ)(W:World),w.heap.size≤D→Sp pre→Jx c pre s→w.heap.size≤W.heap.size→Sep S0 w0 W (Zs++(As s++[L4 D]))→CW none 10 P n ({ target:=.collected D,args:=#[] }::ds) c Q l W):
   CW none 10 P n ds (.rangeFunc g ps assign body) Q l w:=fun a ha=>by
 have hg:=ha.ev hx
 have hw0:=hS.size
 refine wpIn_rangeFunc ?_
 intro fn hfn
 let rec_:LoopState→Option Code→Loop:=fun st pe=>{ state:=st,pending:=pe,fn,tmps:=a.tmps,params:=ps,assign,body,defers:=w.heap.size }
 let kd:Nat:=w.heap.size
 let lp:Nat:=w.heap.size+1
 let W1:World:=(w.alloc (.deferred (some []))).alloc (.loop (rec_ .ready none))
 have hU:Up w W1:=(Up.alloc _ _).trans (Up.alloc _ _)
 have rec1:W1.heap[lp]?=some (.loop (rec_ .ready none)):=by
   have:=World.alloc_heap_new (w.alloc (.deferred (some []))) (.loop (rec_ .ready none))
   rw[World.size_alloc]at this
   exact this
 have dfr1:W1.heap[kd]?=some (.deferred (some [])):=(Below.heap_alloc _ _ _ (by simp[kd])).trans (World.alloc_heap_new w _)
 have hne:kd≠lp:=by show w.heap.size≠w.heap.size+1;omega
 have hlpq:w.heap.size≤lp:=by show w.heap.size≤w.heap.size+1;omega
 have hZlow:∀i,Cy Zs i→i<w.heap.size:=fun i hi=>hS.left.K0 hi
 -- what stands while the loop goes on
 let I:List α→World→Prop:=fun pre W=>∃s,J pre s∧w.heap.size≤W.heap.size∧Sep S0 w0 W (Zs++As s)∧KoOk w.heap.size W (Zs++As s)
 let Ix:Code→List α→World→Prop:=fun c pre W=>∃s,Jx c pre s∧w.heap.size≤W.heap.size∧Sep S0 w0 W (Zs++As s)∧KoOk w.heap.size W (Zs++As s)
 have kI:∀pre A B,I pre A→Ko w.heap.size A B→I pre B:=fun pre A B⟨s,h1,h2,h3,h4⟩k=>⟨s,h1,bu h2 k.size,h3.ko h4 k hw0,h4.ko k⟩
 have kIx:∀c pre A B,Ix c pre A→Ko w.heap.size A B→Ix c pre B:=fun c pre A B⟨s,h1,h2,h3,h4⟩k=>⟨s,h1,bu h2 k.size,h3.ko h4 k hw0,h4.ko k⟩
 have koW:∀{A B:World}{row:Option Nat},A.grownBy B row→(∀r,row=some r→W1.heap.size≤r∧∃o:Obj,A.heap[r]?=some o∧o.isWalk=true)→Ko w.heap.size A B:=fun hg' hr=>Ko.grown hg' fun r e=>by
   obtain⟨h1,o,h2,h3⟩:=hr r e
   exact⟨bu (Up.size hU) h1,o,h2,Obj.not_cells_of_walk h3⟩
 have hk1:∀{A B:World}{row:Option Nat}{k:Nat}{o:Obj},A.grownBy B row→(∀r,row=some r→W1.heap.size≤r∧∃o:Obj,A.heap[r]?=some o∧o.isWalk=true)→A.heap[k]?=some o→o.isWalk=false→B.heap[k]?=some o:=fun hg' hr hk ho=>(grownBy_keeps hg' (fun r e=>(hr r e).2) hk ho).trans hk
 have hI1:I [] W1:=⟨s0,hJ,Up.size hU,hS.up hU,Zd fun i hi=>hS.K0 hi⟩
 have all:=hit lp (fun pre W=>I pre W∧W.heap[lp]?=some (.loop (rec_ .ready none))∧W.heap[kd]?=some (.deferred (some [])))
   (fun pre W=>∃c,Ix c pre W∧W.heap[lp]?=some (.loop (rec_ .done (some c)))∧W.heap[kd]?=some (.deferred (some []))) W1 hU
   (fun s A B row hs hg' hr=>⟨kI _ _ _ hs.1 (koW hg' hr),hk1 hg' hr hs.2.1 rfl,hk1 hg' hr hs.2.2 rfl⟩)
   (fun s A B row hs hg' hr=>by
     obtain⟨c,hc,h1,h2⟩:=hs
     exact⟨c,kIx _ _ _ _ hc (koW hg' hr),hk1 hg' hr h1 rfl,hk1 hg' hr h2 rfl⟩) ?_ ⟨hI1,rec1,dfr1⟩
 · refine⟨lp,[{ target:=.collected kd,args:=#[] }],W1,{ target:=.fn (.func gf) lb,args:=#[.func (.yield lp) #[] #[]] },W1,gf,#[.func (.yield lp) #[] #[]]++lb,W1,run_enterLoop_outer _ _ _ _ _,?_,fun f' hf'=>?_,?_,fun _=>cQ,?_⟩
   · simp only[resolve,hg]
     simp[go_sem]
   · simp[Target.leads]at hf';subst hf';trivial
   · simp[invoke,go_sem,en]
   have mk:∀{W:World}{s:σ},w.heap.size≤W.heap.size→Sep S0 w0 W (Zs++As s)→KoOk w.heap.size W (Zs++As s)→W.heap[kd]?=some (.deferred (some []))→Sep S0 w0 W (Zs++(As s++[L4 kd])):=fun{W s}hsz h4 h5 hk=>by
     rw[←c6]
     refine⟨h4.fr,fun A hA=>?_,cj.2 ⟨h4.apart,f9 _ _,fun A hA B hB i h6 h7=>?_⟩⟩
     · rcases bt.1 hA with hA|hA
       · exact h4.each A hA
       rw[bn.1 hA]
       exact⟨hk,fun i(e:i=kd)=>.inr (by rw[e];exact hw0)⟩
     rw[bn.1 hB]at h7
     have e7:i=kd:=h7
     rcases h5 i ⟨A,hA,h6⟩with h8|⟨o,h8,h9⟩
     · rw[e7]at h8;exact iu _ h8
     rw[e7,hk]at h8;cases h8;cases h9
   refine(show CallsIn (FR none) 9 P gf (#[.func (.yield lp) #[] #[]]++lb) W1 _ from all).mono ?_
   rintro e W2 ⟨⟨v,rfl⟩,(⟨xs,hSx,⟨s,h1,h2,h3,h4⟩,hlr,hk⟩|⟨pre,hSp,c,⟨s,h1,h2,h3,h4⟩,hlr,hk⟩)⟩
   · have ko:Ko w.heap.size W2 (W2.putObj lp (.loop (rec_ .exhausted none))):=Ko.putObj _ hlr rfl hlpq
     refine⟨none,W2.putObj lp (.loop (rec_ .exhausted none)),run_endLoop (P:=P) hlr (by simp[rec_]),?_⟩
     exact hdone kd xs s _ (bl _) hSx h1 (bu h2 ko.size) (mk (bu h2 ko.size) (h3.ko h4 ko hw0) (h4.ko ko) ((World.putObj_heap_other hne).trans hk)) _ ⟨by rw[←ha.defers];rfl,ha.size,(ha.world hl _).val⟩
   have ko:Ko w.heap.size W2 (W2.putObj lp (.loop (rec_ .exhausted (some c)))):=Ko.putObj _ hlr rfl hlpq
   refine⟨some c,W2.putObj lp (.loop (rec_ .exhausted (some c))),?_,?_⟩
   · have:=run_endLoop (P:=P) hlr (by simp[rec_])
     exact this
   exact hstop kd c pre s _ (bl _) hSp h1 (bu h2 ko.size) (mk (bu h2 ko.size) (h3.ko h4 ko hw0) (h4.ko ko) ((World.putObj_heap_other hne).trans hk)) _ ⟨by rw[←ha.defers];rfl,ha.size,(ha.world hl _).val⟩
 -- one round
 rintro pre x W ⟨⟨s,hJs,hsz,hSs,hKs⟩,hlr,hk⟩ hlen
 have hy:=run_yield (P:=P) (args:=encs x) hlr (by simp only[rec_];exact hps x)
 refine⟨fn,_,assign,body,hy,roundIn_of_wpIn hfn ?_⟩
 refine wpIn_mono (hassign lp x W a (ha.world hl W)) ?_
 intro e a1 W' hq
 cases e with
 |normal=>
   obtain⟨b,hB,hKB,hA⟩:=hq
   have hU1:=hB.Ch
   have hlr1:W'.heap[lp]?=some (.loop (rec_ .ready none)):=(hU1.block (lt_of_block hlr)).trans hlr
   have hk1':W'.heap[kd]?=some (.deferred (some [])):=(hU1.block (lt_of_block hk)).trans hk
   refine⟨_,run_beginRound hlr1 rfl,?_⟩
   obtain⟨W2,hW2⟩:∃W2,W2=W'.putObj lp (.loop { rec_ .ready none with state:=.busy }):=⟨_,rfl⟩
   rw[←hW2]
   have ko1:Ko w.heap.size W' W2:=by rw[hW2];exact Ko.putObj _ hlr1 rfl hlpq
   have l2:W2.heap[lp]?=some (.loop { rec_ .ready none with state:=.busy }):=by rw[hW2];exact World.putObj_heap_same (lt_of_block hlr1)
   have k2:W2.heap[kd]?=some (.deferred (some [])):=by rw[hW2];exact(World.putObj_heap_other hne).trans hk1'
   have o2:∀i,i≠lp→W2.heap[i]?=W'.heap[i]?:=fun i hi=>by rw[hW2];exact World.putObj_heap_other hi
   have hS1:Sep S0 w0 W' (Zs++(As s++Bx x b)):=by rw[←c6];exact hSs.join hB
   have hK1:KoOk w.heap.size W' (Zs++(As s++Bx x b)):=by
     rw[←c6]
     refine KoOk.kO.2 ⟨fun i hi=>?_,fun i hi=>(hKB i hi).elim (fun h=>by omega) .inr⟩
     rcases hKs i hi with h1|⟨o,h1,h2⟩
     · exact .inl h1
     exact .inr ⟨o,(hU1.block (lt_of_block h1)).trans h1,h2⟩
   have hS2:=hS1.ko hK1 ko1 hw0
   have hK2:=hK1.ko ko1
   have hsz2:w.heap.size≤W2.heap.size:=bu hsz (bu (Up.size hU1) ko1.size)
   refine wpIn_mono (hbody lp pre x s b W2 hJs hlen hsz2 hS2 hS2.right.self a1 (hA.world (henv x b) _)) ?_
   have fin:∀(s':σ)(Rest:List Asr)(W3:World)(jump:Option Code),Sep (Cy (As s++Bx x b)) W2 W3 (As s'++Rest)→KoOk w.heap.size W3 (As s')→
       ∃W4,(Instr.endRound lp jump).run P W3=.ok (.bool jump.isNone) W4∧w.heap.size≤W4.heap.size∧Sep S0 w0 W4 (Zs++As s')∧KoOk w.heap.size W4 (Zs++As s')∧W4.heap[lp]?=some (.loop (rec_ (if jump.isNone then .ready else .done) jump))∧W4.heap[kd]?=some (.deferred (some []))∧Kx w.heap.size X (fun i=>(S0 i∨w0.heap.size≤i)∧i<w.heap.size∧¬Cy Zs i) W W4:=by
     intro s' Rest W3 jump h5 h6
     have keepN:∀(k:Nat)(o:Obj),w.heap.size≤k→W2.heap[k]?=some o→o.isCells=false→W3.heap[k]?=some o:=fun k o hk' ho hc=>(h5.fr.block k (lt_of_block ho) (fun hf=>by
       rcases(KoOk.kO.1 hK2).2 k hf with h7|⟨o',h7,h8⟩
       · omega
       rw[ho]at h7;cases h7;rw[hc]at h8;cases h8)).trans ho
     have l3:=keepN lp _ hlpq l2 rfl
     have k3:=keepN kd _ (bl _) k2 rfl
     have ko3:∀(o':Obj),Ko w.heap.size W3 (W3.putObj lp o'):=fun o'=>Ko.putObj _ l3 rfl hlpq
     have h7:Sep S0 w0 W3 (Zs++As s'):=(hS2.frame h5).sub (List.Sublist.append_left (jm _ _) _)
     have h8:KoOk w.heap.size W3 (Zs++As s'):=KoOk.kO.2 ⟨Zd hZlow,h6⟩
     have hr:=run_endRound (P:=P) jump l3
     refine⟨_,hr,bu hsz2 (bu h5.size (ko3 _).size),h7.ko h8 (ko3 _) hw0,h8.ko (ko3 _),World.putObj_heap_same (lt_of_block l3),(World.putObj_heap_other hne).trans k3,?_⟩
     refine⟨(ko3 _).os.trans (h5.fr.os.trans (ko1.os.trans hU1.os)),(ko3 _).tape.trans (h5.fr.tape.trans (ko1.tape.trans hU1.tape)),(ko3 _).output.trans (h5.fr.output.trans (ko1.output.trans hU1.output)),bu (Up.size hU1) (bu ko1.size (bu h5.size (ko3 _).size)),fun k o hk' ho=>?_⟩
     have e1:W'.heap[k]?=some o:=(hU1.block (lt_of_block hk')).trans hk'
     have nlp:k≠lp:=fun e=>by
       subst e
       rw[hlr1]at e1;cases e1
       rcases ho with ho|⟨_,_,ho|ho⟩
       · cases ho.1
       · omega
       cases ho
     have e2:W2.heap[k]?=some o:=(o2 k nlp).trans e1
     have own:∀i,Cy (As s++Bx x b) i→S0 i∨w0.heap.size≤i:=fun i⟨A,hA,hi⟩=>(hS2.each A (f4 _ hA)).2 i hi
     have nF:¬Cy (As s++Bx x b) k:=fun hf=>by
       rcases ho with⟨h9,h10⟩|⟨h9,h10,h11⟩
       · refine h10 (hX pre s k hJs ((H0.1 hf).resolve_right fun⟨A,hA,hi⟩=>?_) ⟨own k hf,fun hz=>hS2.HU hz hf⟩)
         have:=((hB.each A hA).2 k hi).resolve_left id
         have:=lt_of_block hk'
         omega
       rcases(KoOk.kO.1 hK2).2 k hf with h12|⟨o',h12,h13⟩
       · exact h10 ⟨own k hf,h12,fun hz=>hS2.HU hz hf⟩
       rw[e2]at h12;cases h12;rw[h9]at h13;cases h13
     exact(World.putObj_heap_other nlp).trans ((h5.fr.block k (lt_of_block e2) nF).trans e2)
   intro e a2 W3 hp
   cases e with
   |normal=>
     obtain⟨s',Rest,hJ',h5,h6⟩:=hp
     obtain⟨W4,hr,h7,h8,h9,h10,h11,h12⟩:=fin s' Rest W3 none h5 h6
     exact⟨_,_,hr,.inl ⟨rfl,⟨⟨s',hJ',h7,h8,h9⟩,h10,h11⟩,h12⟩⟩
   |ret=>
     obtain⟨s',Rest,hJ',h5,h6⟩:=hp
     obtain⟨W4,hr,h7,h8,h9,h10,h11,h12⟩:=fin s' Rest W3 (some .ret) h5 h6
     exact⟨_,_,hr,.inr ⟨rfl,.ret,⟨s',hJ',h7,h8,h9⟩,h10,h11⟩⟩
   |exit id=>
     obtain⟨s',Rest,hJ',h5,h6⟩:=hp
     obtain⟨W4,hr,h7,h8,h9,h10,h11,h12⟩:=fin s' Rest W3 (some (.exit id)) h5 h6
     exact⟨_,_,hr,.inr ⟨rfl,.exit id,⟨s',hJ',h7,h8,h9⟩,h10,h11⟩⟩
   |goto t=>
     obtain⟨s',Rest,hJ',h5,h6⟩:=hp
     obtain⟨W4,hr,h7,h8,h9,h10,h11,h12⟩:=fin s' Rest W3 (some (.goto t)) h5 h6
     exact⟨_,_,hr,.inr ⟨rfl,.goto t,⟨s',hJ',h7,h8,h9⟩,h10,h11⟩⟩
   |panic ch=>exact hp.elim
   |outgrown=>exact hp.elim
 |ret=>exact hq.elim
 |exit id=>exact hq.elim
 |goto t=>exact hq.elim
 |panic ch=>exact hq.elim
 |outgrown=>exact hq.elim
theorem L5{α σ:Type}{g:Operand}{ps:Array Tmp}{assign body:Code}{gf:Nat}{lb:Array Value}{encs:α→Array Value}{Zs:List Asr}{S0:Nat→Prop}{w0:World}(As:σ→List Asr)(J:List α→σ→Prop)(Jx:Code→List α→σ→Prop)(Bx:α→Nat→List Asr)(env:α→Nat→Env)(s0:σ){S Sp:List α→Prop}{N:Nat}
   (hx:Val l g (.func (.func gf) #[] lb))(en:∀args w,(callFunc gf args).run P w=.ok (.enter gf args) w)(hit:IterS P gf lb encs (fun i=>(S0 i∨w0.heap.size≤i)∧¬Cy Zs i) (fun i=>(S0 i∨w0.heap.size≤i)∧i<w.heap.size∧¬Cy Zs i) S Sp N w)(hps:∀x,(encs x).size=ps.size)(hl:Cq l=true)(henv:∀x b,Cq (env x b)=true)
   (hS:Sep S0 w0 w (Zs++As s0))(hJ:J [] s0)
   (hassign:∀(lp:Nat)(x:α)(W:World)(a:Go.Act),Ag n ds l a W→assign.wpIn (FR (some lp)) 8 P (Exit.then (fun a' W'=>∃b,Sep no W W' (Bx x b)∧KoOk 0 W' (Bx x b)∧Ag n [] (env x b) a' W') (fun _ _ _=>False)) { tmps:=(ps.zip (encs x)).foldl (fun t(p,v)=>t.setIfInBounds p v) a.tmps,defers:=[] } W)
   (hbody:∀(lp:Nat)(pre:List α)(x:α)(s:σ)(b:Nat)(W:World),J pre s→pre.length<N→w.heap.size≤W.heap.size→Sep S0 w0 W (Zs++(As s++Bx x b))→Sep (Cy (As s++Bx x b)) W W (As s++Bx x b)→
     CW (some lp) 8 P n [] body (Ze (fun W'=>∃s' Rest,J (pre++[x]) s'∧Sep (Cy (As s++Bx x b)) W W' (As s'++Rest)∧KoOk w.heap.size W' (As s')) (fun c W'=>∃s' Rest,Jx c (pre++[x]) s'∧Sep (Cy (As s++Bx x b)) W W' (As s'++Rest)∧KoOk w.heap.size W' (As s'))) (env x b) W)
   (hdone:∀(D:Nat)(ys:List α)(s:σ)(W:World),w.heap.size≤D→S ys→J ys s→w.heap.size≤W.heap.size→Sep S0 w0 W (Zs++(As s++[L4 D]))→KW n ({ target:=.collected D,args:=#[] }::ds) (Q .normal) l W)
   (hstop:∀(D:Nat)(c:Code)(pre:List α)(s:σ)(W:World),w.heap.size≤D→Sp pre→Jx c pre s→w.heap.size≤W.heap.size→Sep S0 w0 W (Zs++(As s++[L4 D]))→CW none 10 P n ({ target:=.collected D,args:=#[] }::ds) c Q l W):
   CW none 10 P n ds (.rangeFunc g ps assign body) Q l w:=
 Xf _ As J Jx Bx env s0 (fun _ _ _ _ _ h=>h) hx en hit hps hl henv hS hJ hassign hbody hdone hstop
end
end Go.Wx
namespace Go.Wx
theorem Gg{l:List Int}{k:Nat}{x:Int}(h:l[k]?=some x):l.attach[k]?=some ⟨x,ai h⟩:=by
 obtain⟨hk,rfl⟩:=am.1 h
 rw[cx (by rw[c_];exact hk)]
 simp
def nZ(o:Option Nat):Array Value:=#[.pointer (o.map fun b=>(⟨b,0,none⟩:Addr))]
def Nv(t:Int)(ad:Option Addr)(m cp:Nat):Array Value:=#[vi t,.slice ad m cp]
def GX(xs:List (Option Nat))(n:Nat):Option Nat→List (Option Nat)
 |.none=>xs
 |some b=>xs.set n (some b)
def uE(cs:Array Value)(T:TypeId):Option Nat→Asr
 |.none=>kT
 |some b=>A5 b cs T
theorem Rt{w:World}{ad:Option Addr}{l:List Int}(hE:Els w ad 1 A3 l)(hne:l≠[]){B o:Nat}(e:ad=some ⟨B,o,none⟩):B<w.heap.size:=by
 cases l with
 |nil=>exact absurd rfl hne
 |cons x l=>
   obtain⟨B',o',e',hc⟩:=hE 0 x rfl
   rw[e]at e'
   cases e'
   exact block_lt_of_cell (hc 0 _ rfl)
end Go.Wx
namespace Go.Proofs.YtnpgbbaniknpkaaGreatDoor
open Go.Proofs.Tryz
open Go.Wx Go.RowKit
theorem Qy(X Y:Nat→Prop)(B1:Nat)(sk:Sk)(w:World)(hEX:sk.nx≠[]→∀B o,sk.na=some ⟨B,o,none⟩→¬X B)(hFX:¬X B1)(hF0:Blk w B1 sk.cells 49)(hE0:Els w sk.na 1 A3 sk.nx)(hbk:∀x∈sk.nx,sk.bk<x)(hb1: -1≤sk.bk)(hlen:sk.nx.length≤1000)(l:List Int)(hl:l=L0 sk):
   IterS prog 256 #[.pointer (some ⟨B1,0,none⟩)] (fun x:{x:Int//x∈l}=>#[vi x.1]) X Y (fun ys=>ys=l.attach) (fun _=>True) l.length w:=by
 refine IterS.of ?_
 intro lp J Jx w0 hUw _ hY hJ
 obtain⟨Bd,hBd⟩:∃Bd,Bd=w0.heap.size:=⟨_,rfl⟩
 rw[←hBd]at hJ hY
 clear hBd
 have hal:∀{i:Nat}{x:Int},(L0 sk)[i]?=some x→l[i]?=some x:=fun h=>by rw[hl];exact h
 have hF:=hF0.up hUw
 have hE:=Els.up hE0 hUw
 refine cT 41 func256 rfl ?_
 refine Af ?_
 refine U (.fB 5 rfl) ?_
 refine U (.lb rfl (hF.Ad rfl)) ?_
 refine LW.A rfl (An (Af ?_))
 refine U (.fB 4 rfl) ?_
 refine U (.lb rfl (hF.Ad rfl)) ?_
 refine U (.Ck k_ (.t rfl)) ?_
 refine U (.move (.const _)) ?_
 refine Ah (Ak ?_)
 refine CW.loop (σ:=Nat) (fun s w=>s≤sk.nx.length∧Jw Bd J (l.attach.take (Xd sk.bk s)) w∧Els w sk.na 1 A3 sk.nx∧Blk w B1 sk.cells 49) (fun s=>[(0,.eq (.func (.yield lp) #[] #[])),(3,.eq (vi (Y9 sk.bk s))),(9,.eq (.slice sk.na sk.nx.length sk.nc)),(10,.eq (vi (sk.nx.length:Int))),(11,.eq (vi (s:Int)))]) (fun s=>sk.nx.length-s) 0 ?_ ?_ ?_
 ·exact⟨a8 _,hJ,hE,hF⟩
 ·exact tQ
 rintro k w1 ⟨hk,hJ,hE,hF⟩
 refine Af ?_
 refine U (.l2 rfl rfl) ?_
 refine An ?_
 refine CW.b rfl (fun h12=>?_) (fun h12=>?_)
 ·replace h12:=dQ h12
  refine Aj (Ac (Ai (Ak (Ai ?_))))
  have hkl:k<sk.nx.length:=by simp at h12;omega
  refine Aa ?_
  obtain⟨x,hx⟩:=Ae (xs:=sk.nx) (i:=k) oQ
  obtain⟨Bx,ox,ax,hcx⟩:=hE _ x hx
  refine U (.Ao k_ lg (.t rfl) (.t rfl) oQ ax) ?_
  refine U (.lb rfl (hcx.nth (j:=0) rfl)) ?_
  refine LW.A rfl (An (Ai ?_))
  cases k with
  |zero=>
   have hbx:=hbk x (ai hx)
   rw[show Y9 sk.bk 0=sk.bk from rfl]
   change Jw Bd J (l.attach.take 0) _ at hJ
   cases hq4:decide (0≤sk.bk)with
   |true=>
    have hb0:=b9 hq4
    have hl0:=hal (iC hb0)
    have hlx:=hal (dK hx)
    rw[bh hb0]at hlx
    refine Aa (I rfl ?_)
    refine U (.tr (PEv.geq (.t rfl) (.const _)) (hq4)) ?_
    refine I rfl ?_
    refine Au ?_
    refine I rfl ?_
    refine Au ?_
    refine I rfl ?_
    refine Au ?_
    refine U (.tr (PEv.l2 rfl rfl) (bj hbx)) ?_
    refine U (.pa rfl (fun hp=>wQ)) ?_
    refine I rfl ?_
    refine Au ?_
    refine I rfl ?_
    refine Au ?_
    refine I rfl ?_
    refine Au ?_
    refine LW.y (.t rfl) (.cu rfl) rfl rfl (hY _ ⟨sk.bk,ai hl0⟩ _ hJ (by have:=(am.1 hl0).1;rw[cc,c_];omega)) ?_
    rintro _ w2 ⟨y,rfl,hcase⟩
    refine Au ?_
    refine U (.n1 rfl) ?_
    refine U (.pa rfl (fun hp=>wQ)) ?_
    refine Ah ?_
    refine CW.b rfl (fun h27=>?_) (fun h27=>?_)
    ·replace h27:=dQ h27
     have hy:y=false:=by simpa using h27
     subst hy
     obtain⟨_,hJx⟩:=hcase.resolve_left (by simp)
     refine Am (Ar (A7 (Ar (Ar (A7 (Ar ?_))))))
     refine Gi rfl ⟨_,rfl,?_⟩
     first|exact .inl ⟨_,rfl,by rw[hend,←c_ (l:=l),b8]at hJ;exact hJ.j⟩|exact .inr ⟨_,trivial,hJx⟩|(rcases hcase with⟨_,hJ2,_⟩|⟨_,hJx⟩;(refine .inl ⟨_,?_,hJ2.j⟩;rw[←Df (Gg hl0),←hlen1,←c_ (l:=l),b8]);exact .inr ⟨_,trivial,hJx⟩)
    replace h27:=dQ h27
    have hy:y=true:=by simpa using h27
    subst hy
    obtain⟨_,hJ2,hN⟩:=hcase.resolve_right (by simp)
    replace hE:=hE.kx hN (hEX fun e=>by rw[e]at hx;cases hx)
    replace hF:=hF.kx hN hFX
    rw[←Df (Gg hl0)]at hJ2
    have hJ:=hJ2
    clear hJ2 hcase hN
    refine Aj (Ac (Ai (Af (I rfl (I rfl ?_)))))
    refine U (.tr (PEv.leq (.t rfl) (.t rfl)) (bj oQ)) ?_
    refine Ah ?_
    refine CW.v rfl ?_
    refine Aa (Az (An (Aa (I rfl (I rfl ?_)))))
    refine LW.y (.t rfl) (.cu rfl) rfl rfl (hY _ ⟨x,ai hlx⟩ _ hJ (by have:=(am.1 hlx).1;rw[cc,c_];omega)) ?_
    rintro _ w3 ⟨y,rfl,hcase⟩
    refine U (.n1 rfl) ?_
    refine Ah ?_
    refine CW.b rfl (fun h34=>?_) (fun h34=>?_)
    ·replace h34:=dQ h34
     have hy:y=false:=by simpa using h34
     subst hy
     obtain⟨_,hJx⟩:=hcase.resolve_left (by simp)
     refine Am (A7 (Ar (Ar (A7 (Ar ?_)))))
     refine Gi rfl ⟨_,rfl,?_⟩
     first|exact .inl ⟨_,rfl,by rw[hend,←c_ (l:=l),b8]at hJ;exact hJ.j⟩|exact .inr ⟨_,trivial,hJx⟩|(rcases hcase with⟨_,hJ2,_⟩|⟨_,hJx⟩;(refine .inl ⟨_,?_,hJ2.j⟩;rw[←Df (Gg hl0),←hlen1,←c_ (l:=l),b8]);exact .inr ⟨_,trivial,hJx⟩)
    replace h34:=dQ h34
    have hy:y=true:=by simpa using h34
    subst hy
    obtain⟨_,hJ2,hN⟩:=hcase.resolve_right (by simp)
    replace hE:=hE.kx hN (hEX fun e=>by rw[e]at hx;cases hx)
    replace hF:=hF.kx hN hFX
    rw[←Df (Gg hlx)]at hJ2
    refine Aj (Al (Ac (Aa ?_)))
    refine U (.ic rfl oQ) ?_
    refine I rfl (LW.nil (Av ?_))
    exact⟨_+1,⟨by omega,by first|(rw[dL];exact hJ2)|(rw[Sv];(first|rw[bh hb0]|rw[aq hb0]);exact hJ2),hE,hF⟩,⟨rfl,rfl,rfl,rfl,rfl,trivial⟩,by omega⟩
   |false=>
    have hb0:=cd hq4
    have hlx:=hal (dK hx)
    rw[aq hb0]at hlx
    refine Aa (I rfl ?_)
    refine U (.fa (PEv.geq (.t rfl) (.const _)) (hq4)) ?_
    refine I rfl ?_
    refine Bh ?_
    refine Bh ?_
    refine Bh ?_
    refine U (.Cv (b:=false) (.t rfl) (fun hp=>absurd (show false=true from hp) cQ)) ?_
    refine I rfl ?_
    refine Bh ?_
    refine Bh ?_
    refine Bh ?_
    refine Bh ?_
    refine U (.Cv (b:=false) (.t rfl) (fun hp=>absurd (show false=true from hp) cQ)) ?_
    refine Ah ?_
    refine CW.f rfl ?_
    refine Aj (Ac (Ai (Af (I rfl (I rfl ?_)))))
    refine U (.tr (PEv.leq (.t rfl) (.t rfl)) (bj oQ)) ?_
    refine Ah ?_
    refine CW.v rfl ?_
    refine Aa (Az (An (Aa (I rfl (I rfl ?_)))))
    refine LW.y (.t rfl) (.cu rfl) rfl rfl (hY _ ⟨x,ai hlx⟩ _ hJ (by have:=(am.1 hlx).1;rw[cc,c_];omega)) ?_
    rintro _ w4 ⟨y,rfl,hcase⟩
    refine U (.n1 rfl) ?_
    refine Ah ?_
    refine CW.b rfl (fun h34=>?_) (fun h34=>?_)
    ·replace h34:=dQ h34
     have hy:y=false:=by simpa using h34
     subst hy
     obtain⟨_,hJx⟩:=hcase.resolve_left (by simp)
     refine Am (A7 (Ar (Ar (A7 (Ar ?_)))))
     refine Gi rfl ⟨_,rfl,?_⟩
     first|exact .inl ⟨_,rfl,by rw[hend,←c_ (l:=l),b8]at hJ;exact hJ.j⟩|exact .inr ⟨_,trivial,hJx⟩|(rcases hcase with⟨_,hJ2,_⟩|⟨_,hJx⟩;(refine .inl ⟨_,?_,hJ2.j⟩;rw[←Df (Gg hl0),←hlen1,←c_ (l:=l),b8]);exact .inr ⟨_,trivial,hJx⟩)
    replace h34:=dQ h34
    have hy:y=true:=by simpa using h34
    subst hy
    obtain⟨_,hJ2,hN⟩:=hcase.resolve_right (by simp)
    replace hE:=hE.kx hN (hEX fun e=>by rw[e]at hx;cases hx)
    replace hF:=hF.kx hN hFX
    rw[←Df (Gg hlx)]at hJ2
    refine Aj (Al (Ac (Aa ?_)))
    refine U (.ic rfl oQ) ?_
    refine I rfl (LW.nil (Av ?_))
    exact⟨_+1,⟨by omega,by first|(rw[dL];exact hJ2)|(rw[Sv];(first|rw[bh hb0]|rw[aq hb0]);exact hJ2),hE,hF⟩,⟨rfl,rfl,rfl,rfl,rfl,trivial⟩,by omega⟩
  |succ k1=>
   have hlx:=hal (dK hx)
   have hbx:=hbk x (ai hx)
   rw[show Y9 sk.bk (k1+1)= -1 from rfl]
   replace hlx:l[Xd sk.bk (k1+1)]?=some x:=by rw[show Xd sk.bk (k1+1)=(if 0≤sk.bk then k1+1+1 else k1+1)from rfl];exact hlx
   refine Aa (I rfl ?_)
   refine U (.fa (PEv.geq (.t rfl) (.const _)) (rfl)) ?_
   refine I rfl ?_
   refine Bh ?_
   refine Bh ?_
   refine Bh ?_
   refine U (.Cv (b:=false) (.t rfl) (fun hp=>absurd (show false=true from hp) cQ)) ?_
   refine I rfl ?_
   refine Bh ?_
   refine Bh ?_
   refine Bh ?_
   refine Bh ?_
   refine U (.Cv (b:=false) (.t rfl) (fun hp=>absurd (show false=true from hp) cQ)) ?_
   refine Ah ?_
   refine CW.f rfl ?_
   refine Aj (Ac (Ai (Af (I rfl (I rfl ?_)))))
   refine U (.tr (PEv.leq (.t rfl) (.t rfl)) (bj oQ)) ?_
   refine Ah ?_
   refine CW.v rfl ?_
   refine Aa (Az (An (Aa (I rfl (I rfl ?_)))))
   refine LW.y (.t rfl) (.cu rfl) rfl rfl (hY _ ⟨x,ai hlx⟩ _ hJ (by have:=(am.1 hlx).1;rw[cc,c_];omega)) ?_
   rintro _ w5 ⟨y,rfl,hcase⟩
   refine U (.n1 rfl) ?_
   refine Ah ?_
   refine CW.b rfl (fun h34=>?_) (fun h34=>?_)
   ·replace h34:=dQ h34
    have hy:y=false:=by simpa using h34
    subst hy
    obtain⟨_,hJx⟩:=hcase.resolve_left (by simp)
    refine Am (A7 (Ar (Ar (A7 (Ar ?_)))))
    refine Gi rfl ⟨_,rfl,?_⟩
    first|exact .inl ⟨_,rfl,by rw[hend,←c_ (l:=l),b8]at hJ;exact hJ.j⟩|exact .inr ⟨_,trivial,hJx⟩|(rcases hcase with⟨_,hJ2,_⟩|⟨_,hJx⟩;(refine .inl ⟨_,?_,hJ2.j⟩;rw[←Df (Gg hl0),←hlen1,←c_ (l:=l),b8]);exact .inr ⟨_,trivial,hJx⟩)
   replace h34:=dQ h34
   have hy:y=true:=by simpa using h34
   subst hy
   obtain⟨_,hJ2,hN⟩:=hcase.resolve_right (by simp)
   replace hE:=hE.kx hN (hEX fun e=>by rw[e]at hx;cases hx)
   replace hF:=hF.kx hN hFX
   rw[←Df (Gg hlx)]at hJ2
   refine Aj (Al (Ac (Aa ?_)))
   refine U (.ic rfl oQ) ?_
   refine I rfl (LW.nil (Av ?_))
   exact⟨_+1,⟨by omega,by first|(rw[dL];exact hJ2)|(rw[Sv];(first|rw[bh hb0]|rw[aq hb0]);exact hJ2),hE,hF⟩,⟨rfl,rfl,rfl,rfl,rfl,trivial⟩,by omega⟩
 replace h12:=dQ h12
 have hkk:k=sk.nx.length:=by simp at h12;omega
 subst hkk
 refine A8 (Ab (Ab (Aq (Ac (Af (I rfl ?_))))))
 refine U (.geq (.t rfl) (.const _)) ?_
 refine Ah ?_
 refine CW.b rfl (fun h37=>?_) (fun h37=>?_)
 ·replace h37:=dQ h37
  have h37_:=pF h37
  have hl0:=hal (iC h37_.1)
  have hlen1:l.length=0+1:=by rw[hl,iD,bh h37_.1,h37_.2];rfl
  rw[show Y9 sk.bk sk.nx.length=sk.bk by rw[h37_.2];rfl]
  rw[h37_.2]at hJ
  change Jw Bd J (l.attach.take 0) _ at hJ
  refine Aa (I rfl (I rfl ?_))
  refine LW.y (.t rfl) (.cu rfl) rfl rfl (hY _ ⟨sk.bk,ai hl0⟩ _ hJ (by have:=(am.1 hl0).1;rw[cc,c_];omega)) ?_
  rintro _ w6 ⟨y,rfl,hcase⟩
  refine LW.nil ?_
  refine Dh rfl ⟨_,rfl,?_⟩
  first|exact .inl ⟨_,rfl,by rw[hend,←c_ (l:=l),b8]at hJ;exact hJ.j⟩|exact .inr ⟨_,trivial,hJx⟩|(rcases hcase with⟨_,hJ2,_⟩|⟨_,hJx⟩;(refine .inl ⟨_,?_,hJ2.j⟩;rw[←Df (Gg hl0),←hlen1,←c_ (l:=l),b8]);exact .inr ⟨_,trivial,hJx⟩)
 replace h37:=dQ h37
 have hend:Xd sk.bk sk.nx.length=l.length:=by rw[hl];exact pE h37
 refine Aj ?_
 refine Dh rfl ⟨_,rfl,?_⟩
 first|exact .inl ⟨_,rfl,by rw[hend,←c_ (l:=l),b8]at hJ;exact hJ.j⟩|exact .inr ⟨_,trivial,hJx⟩|(rcases hcase with⟨_,hJ2,_⟩|⟨_,hJx⟩;(refine .inl ⟨_,?_,hJ2.j⟩;rw[←Df (Gg hl0),←hlen1,←c_ (l:=l),b8]);exact .inr ⟨_,trivial,hJx⟩)
theorem dX(X Y:Nat→Prop)(B1:Nat)(sk:Sk)(w:World)(hEX:sk.nx≠[]→∀B o,sk.na=some ⟨B,o,none⟩→¬X B)(hFX:¬X B1)(hF0:Blk w B1 sk.cells 49)(hE0:Els w sk.na 1 A3 sk.nx)(hb:sk.bk= -1)(hl:sk.nx.length≤1)(hp:∀x∈sk.nx,0≤x):
 IterS prog 256 #[.pointer (some ⟨B1,0,none⟩)] (fun x:{x:Int//x∈sk.nx}=>#[vi x.1]) X Y (fun ys=>ys=sk.nx.attach) (fun _=>True) sk.nx.length w:=Qy X Y B1 sk w hEX hFX hF0 hE0 (fun x hx=>by have:=hp x hx;omega) oQ oQ _ (by unfold L0;rw[aq (by omega)])
theorem Vu(sk:Sk)(w:World):Ret prog 223 #[.agg sk.cells] w fun r w'=>(∃B,r=.func (.func 256) #[] #[.pointer (some ⟨B,0,none⟩)]∧Blk w' B sk.cells 49∧w.heap.size≤B)∧Up w w':=by
 have hW:=Up.refl w
 refine cT 4 func223 rfl (Af (Ap (.bA rfl) rfl ?_))
 rintro _ w1 ⟨B1,rfl,NB1⟩
 have eB1:=NB1.at_
 replace hW:=hW.up NB1.up
 have hB1:=NB1.blk
 refine Az (An (Aa (U (.makeFunc (.cu rfl)) (LW.A rfl (Ah (Am (KW.q ?_)))))))
 exact⟨⟨_,rfl,hB1,fm eB1.symm⟩,hW⟩
end Go.Proofs.YtnpgbbaniknpkaaGreatDoor
