import Derived.Test.YtbcnnkfopoiifaaGreatDoorKR116
import GoSem.Extern.MapsClone
namespace Go.Wx.Mk
open Go.RowKit Go.MapKept Go.Wx
variable {κ:Type}{Q:KT κ}
def Be(Q:KT κ)(b:Nat)(kv:List (κ×Value)):Asr:=⟨(· =b),fun w=>IMap Q w b kv,fun _ _ h k _=>by
 have:=h.lt
 obtain⟨es,clock,h1,h2⟩:=h
 exact⟨es,clock,(k b rfl this).trans h1,h2⟩,fun _ h _ e=>by rw[e];exact h.lt⟩
def Gg(Q:KT κ)(b r:Nat)(kv:List (κ×Value))(done:List κ):Asr:=⟨fun i=>i=b∨i=r,fun w=>IRng Q w b r kv done,fun _ _ h k _=>by
 obtain⟨es,clock,since,seen,c0,h1,h2,h3,h4,h5⟩:=h
 exact⟨es,clock,since,seen,c0,(k b (.inl rfl) (lt_of_block h1)).trans h1,h2,h3,(k r (.inr rfl) (lt_of_block h4)).trans h4,h5⟩,fun _ h i e=>by
 obtain⟨es,clock,since,seen,c0,h1,h2,h3,h4,h5⟩:=h
 rcases e with rfl|rfl
 · exact lt_of_block h1
 exact lt_of_block h4⟩
theorem Im{b:Nat}{kv kv':List (κ×Value)}{w w':World}(h:IMap Q w' b kv')(k:Sto b w w'):Stp (Be Q b kv) (Be Q b kv') w w':=⟨k.fr,h,fun _ h=>.inl h⟩
theorem G4{b r:Nat}{kv:List (κ×Value)}{w w':World}(h:IRng Q w' b r kv [])(u:Up w w')(hr:r=w.heap.size):Stp (Be Q b kv) (Gg Q b r kv []) w w':=⟨u.fr _,h,fun i hi=>hi.elim (fun e=>.inl e) (fun e=>.inr oQ)⟩
theorem H3{P:Program}{b r:Nat}{kv:List (κ×Value)}{done:List κ}{k:κ}{u:Value}{w w':World}(h:NextTo Q P w w' b r kv done k u):Stp (Gg Q b r kv done) (Gg Q b r kv (done++[k])) w w':=⟨h.sto.fr.mono (fun i(e:i=r)=>.inr e),h.rng,fun _ h=>.inl h⟩
theorem yX{b r:Nat}{kv kv':List (κ×Value)}{done done':List κ}{w w':World}(h:IRng Q w' b r kv' done')(k:Sto b w w'):Stp (Gg Q b r kv done) (Gg Q b r kv' done') w w':=⟨k.fr.mono fun _ h=>.inl h,h,fun _ h=>.inl h⟩
theorem Vh{b r:Nat}{kv:List (κ×Value)}{done:List κ}{w:World}(h:IRng Q w b r kv done):Stp (Gg Q b r kv done) (Be Q b kv) w w:=⟨Fr.refl _ _,h.map,fun _ e=>.inl (.inl e)⟩
section
variable {P:Program}{n:Nat}{ds:List Deferred}{l:Env}{w:World}{d:Option Tmp}{ty:TypeId}{ps:String}{af:Array Edge}{g:Option (Nat×Bool)}
theorem PEv.KU{T K E:TypeId}{x:Operand}{b:Nat}{kv:List (κ×Value)}(hT:P.underlying T=some (.map K E))(hx:Val l x (.map (some b)))(h:IMap Q w b kv):PEv P n ds l w ⟨d,.call { callee:=.builtin .len,args:=#[x],argTypes:=#[T] },ty,ps,af,g⟩ (vi (kv.length:Int)):=fun a w' ha hu=>by
 obtain⟨es,clock,hb,hs,he,ho⟩:=h.up hu
 have hl:es.size=kv.length:=by
   have:=a_ List.length he
   simpa using this
 rw[BigFrame.execOp_builtin,BigFrame.builtin_len]
 refine Cp ?_
 simp[Builtin.len_,run_underlying hT,MapKept.run_getObj_map hb,Sem.run_bind,Result.andThen,goInt,ha.ev hx,hl]
theorem iA[DecidableEq κ]{kv:List (κ×Value)}{k:κ}{j:Nat}(hn:(kv.map (·.1)).Nodup){p:κ×Value}(hj:kv[j]?=some p)(hk:p.1=k):kv.filter (fun p=> !decide (p.1=k))=kv.eraseIdx j:=by
 refine Go.ChangeMaps.filter_eq_eraseIdx (fun p:κ×Value=>decide (p.1=k)) kv j p hj (a8 hk) ?_
 have h:=g_.1 hn
 exact h.imp fun{a b}hab hh=>hab ((bj hh.1).trans (bj hh.2).symm)
theorem REv.yY[DecidableEq κ]{T K E:TypeId}{m x:Operand}{b r:Nat}{k:κ}{kv:List (κ×Value)}{done:List κ}(hT:P.underlying T=some (.map K E))(hK:Q.Law P K)(hm:Val l m (.map (some b)))(hx:Val l x (Q.vk k))(h:IRng Q w b r kv (done++[k])):
   REv P n ds l w ⟨d,.call { callee:=.builtin .delete,args:=#[m,x],argTypes:=#[T,K] },ty,ps,af,g⟩ (fun _ w'=>IRng Q w' b r (kv.filter fun p=> !decide (p.1=k)) done∧Sto b w w'∧w'.heap.size=w.heap.size):=fun a ha=>by
 obtain⟨es,clock,since,seen,c0,hb,hs,he,hr,hold,hsc,hsk,hd,hdn,hdk,ho⟩:=h
 have hne:b≠r:=fun e=>by rw[e,hr]at hb;cases hb
 have hkm:k∈kv.map (·.1):=hdk k (by simp)
 have hkn:(kv.map (·.1)).Nodup:=Fx hs he
 have hko:Q.ok k:=by
   obtain⟨p,hp,hpk⟩:=aq.1 hkm
   rw[←hpk];exact ho p hp
 rcases hK.find w hko es.toList (lF he ho)with⟨h1,h2⟩|⟨j,e,h1,h2,h3⟩
 · exfalso
   obtain⟨p,hp,hpk⟩:=aq.1 hkm
   obtain⟨x',hx',hkx,_⟩:=Eu he hp
   exact h2 x' hx' (by rw[hkx,hpk])
 have hjs:j<es.size:=by have:=(ai.1 h2).1;simpa using this
 have hsub:(es.eraseIdxIfInBounds j).toList=es.toList.eraseIdx j:=by
   unfold Array.eraseIdxIfInBounds
   rw[dif_pos hjs]
   simp
 obtain⟨p,hp,hpk⟩:∃p,kv[j]?=some p∧p.1=k:=by
   have h4:(es.toList.map Fc)[j]?=some (Fc e):=by rw[cg,h2];rfl
   rw[he,cg]at h4
   cases hkj:kv[j]? with
   |none=>rw[hkj]at h4;cases h4
   |some p=>
     rw[hkj]at h4
     refine⟨p,rfl,?_⟩
     have h5:Je Q p=Fc e:=by simpa using h4
     have h6:Q.vk p.1=e.key:=a_ Prod.fst h5
     exact Q.inj (h6.trans h3)
 have hf:=iA hkn hp hpk
 have he':(es.eraseIdxIfInBounds j).toList.map Fc=(kv.filter fun p=> !decide (p.1=k)).map (Je Q):=by
   rw[hsub,hf,R9,he,←R9]
 have hset:=heap_set (o':=.map (es.eraseIdxIfInBounds j) clock) hb
 refine⟨.tuple #[],{ w with heap:=w.heap.setIfInBounds b (.map (es.eraseIdxIfInBounds j) clock) },?_,⟨_,clock,since,seen,c0,hset.1,stamped_erase hs j,he',(hset.2 r (Ne.symm hne)).trans hr,fun x hx=>hold x ?_,hsc,hsk,fun x hx k' hk'=>?_,?_,fun k' hk'=>?_,fun p hp=>ho p (bx.1 hp).1⟩,⟨rfl,rfl,rfl,by simp,fun i _ hi=>hset.2 i hi⟩,by simp⟩
 · simp[execOp,resolve,invoke,builtin,ha.ev hm,ha.ev hx,Builtin.delete_,run_underlying hT,MapKept.run_getObj_map hb,hK.check w _ hko,h1,MapKept.run_setObj_map _ hb,Result.andThen]
 · rw[hsub]at hx
   exact(List.eraseIdx_sublist _ _).subset hx
 · have hx0:=hx
   rw[hsub]at hx
   rw[hd x ((List.eraseIdx_sublist _ _).subset hx) k' hk']
   obtain⟨k'',e1,e2⟩:=Gf he' x hx0
   have e3:k'=k'':=Q.inj (hk'.symm.trans e1)
   have e4:=(bx.1 e2).2
   have e5:k'≠k:=fun e=>by rw[←e3,e]at e4;simp at e4
   simp[e5]
 · exact(dl.1 hdn).1
 have h6:=hdk k' (by simp[hk'])
 obtain⟨q,hq,hqk⟩:=aq.1 h6
 refine aq.2 ⟨q,bx.2 ⟨hq,?_⟩,hqk⟩
 have:q.1≠k:=fun e=>(dl.1 hdn).2.2 k' hk' k (by simp) (by rw[←hqk,e])
 simp[this]
theorem PEv.yZ{T:TypeId}{x:Operand}{v:Value}(hT:P.concrete T=true)(hx:Val l x v):PEv P n ds l w ⟨d,.makeInterface T x,ty,ps,af,g⟩ (.iface T v):=fun a w' ha _=>by
 refine Cp ?_
 rw[ha.ev hx]
 exact run_makeInterface _ T v hT
theorem PEv.nZ{x:Operand}{T I K E:TypeId}{v:Value}(hT:P.underlying T=some (.map K E))(hx:Val l x (.iface T v)):PEv P n ds l w ⟨d,.typeAssert x I T false,ty,ps,af,g⟩ v:=fun a w' ha _=>by
 refine Cp ?_
 rw[ha.ev hx]
 simp[Instr.typeAssert,run_underlying hT,Result.andThen]
theorem PEv.oA{T T' K E:TypeId}{x:Operand}{p:Option Nat}(hT:P.underlying T=some (.map K E))(hx:Val l x (.map p)):PEv P n ds l w ⟨d,.binOp .eql T x (.const (.map none)) T',ty,ps,af,g⟩ (.bool p.isNone):=fun a w' ha _=>by
 refine Cp ?_
 have e1:a.eval (.const (.map none))=.map none:=rfl
 rw[ha.ev hx,e1,Sem.run_bind]
 have:(eqGuard .eql T x (.const (.map none)) (.map p) (.map none)).run P w'=.ok () w':=by unfold eqGuard;rfl
 rw[this]
 show(binOp .eql T (.map p) (.map none)).run P w'=_
 have h0:∀m:Nat,(Op.equalIn (m+1) T (.map p) (.map none)).run P w'=.ok p.isNone w':=fun m=>by cases p<;>simp[Op.equalIn,run_underlying hT]
 have h1:=h0 9999
 simp only[binOp]
 simp[show Op.equal T (.map p) (.map none)=Op.equalIn (9999+1) T (.map p) (.map none)from rfl,h1]
end
end Go.Wx.Mk
namespace Go.Wx
open Go.RowKit
def Cl(As:List Asr):Nat→Prop:=fun i=>∃A∈As,A.foot i
section
variable {S0:Nat→Prop}{w0 w w':World}{As Bs Zs As':List Asr}{A:Asr}
theorem Oi{i:Nat}:Cl (As++Bs) i↔Cl As i∨Cl Bs i:=by
 constructor
 · rintro⟨A,hA,hi⟩
   exact(be.1 hA).imp (fun h=>⟨A,h,hi⟩) (fun h=>⟨A,h,hi⟩)
 rintro(⟨A,hA,hi⟩|⟨A,hA,hi⟩)
 · exact⟨A,dw _ hA,hi⟩
 exact⟨A,fk _ hA,hi⟩
theorem Sep.self(h:Sep S0 w0 w As):Sep (Cl As) w w As:=⟨Fr.refl _ _,fun A hA=>⟨(h.each A hA).1,fun _ hi=>.inl ⟨A,hA,hi⟩⟩,h.apart⟩
theorem Sep.right(h:Sep S0 w0 w (Zs++As)):Sep S0 w0 w As:=h.sub (List.sublist_append_right _ _)
theorem Sep.left(h:Sep S0 w0 w (Zs++As)):Sep S0 w0 w Zs:=h.sub (iq _ _)
theorem Sep.oB(h:Sep S0 w0 w (Zs++As)){i:Nat}(hz:Cl Zs i):¬Cl As i:=by
 obtain⟨Z,hZ,h1⟩:=hz
 rintro⟨A,hA,h2⟩
 exact(cc.1 h.apart).2.2 Z hZ A hA i h1 h2
theorem Sep.FO(h:Sep S0 w0 w As){i:Nat}(hi:Cl As i):i<w.heap.size:=by
 obtain⟨A,hA,h1⟩:=hi
 exact Asr.lt _ w (h.each A hA).1 i h1
theorem Sep.frame(h:Sep S0 w0 w (Zs++As))(k:Sep (Cl As) w w' As'):Sep S0 w0 w' (Zs++As'):=by
 have hsz:=h.size
 have hF:∀i,Cl As i→S0 i∨w0.heap.size≤i:=fun i⟨A,hA,hi⟩=>(h.each A (fk _ hA)).2 i hi
 refine⟨h.fr.next k.fr hF,fun B hB=>?_,?_⟩
 · rcases be.1 hB with hB|hB
   · have h1:=h.each B (dw _ hB)
     exact⟨B.keep w w' h1.1 (fun i hi hlt=>k.fr.block i hlt (h.oB ⟨B,hB,hi⟩)) k.size,h1.2⟩
   have h1:=k.each B hB
   exact⟨h1.1,fun i hi=>(h1.2 i hi).elim (hF i) (fun h2=>.inr oQ)⟩
 refine cc.2 ⟨h.left.apart,k.apart,fun Z hZ B hB i h1 h2=>?_⟩
 rcases(k.each B hB).2 i h2 with h3|h3
 · exact h.oB ⟨Z,hZ,h1⟩ h3
 have:=Asr.lt _ w (h.each Z (dw _ hZ)).1 i h1
 omega
theorem X2{α:Type _}:∀(l:List α)(k:Nat)(a:α),l[k]?=some a→l.Perm ([a]++l.eraseIdx k)
 |[],_,_,h=>by simp at h
 |x::l,0,a,h=>by
   have:x=a:=by simpa using h
   rw[this];exact List.Perm.refl _
 |x::l,k+1,a,h=>((X2 l k a (by simpa using h)).cons x).trans (List.Perm.swap a x _)
theorem Sep.Eb(h:Sep S0 w0 w As)(k:Nat)(hk:As[k]?=some A):Sep S0 w0 w (As.eraseIdx k++[A]):=by
 exact h.perm ((X2 As k A hk).trans List.perm_append_comm)
def KoOk(bq:Nat)(w:World)(As:List Asr):Prop:=∀i,Cl As i→i<bq∨∃o:Obj,w.heap[i]?=some o∧o.isCells=true
theorem KoOk.mC{bq:Nat}:KoOk bq w (As++Bs)↔KoOk bq w As∧KoOk bq w Bs:=
 ⟨fun h=>⟨fun i hi=>h i (Oi.2 (.inl hi)),fun i hi=>h i (Oi.2 (.inr hi))⟩,fun⟨h,k⟩i hi=>(Oi.1 hi).elim (h i) (k i)⟩
theorem KoOk.low{bq:Nat}(h:∀i,Cl As i→i<bq):KoOk bq w As:=fun i hi=>.inl (h i hi)
theorem KoOk.nil(bq:Nat)(w:World):KoOk bq w []:=fun _⟨_,h,_⟩=>by cases h
theorem KoOk.cons{bq:Nat}(h:∀i,A.foot i→i<bq∨∃o:Obj,w.heap[i]?=some o∧o.isCells=true)(k:KoOk bq w As):KoOk bq w (A::As):=fun i⟨B,hB,hi⟩=>by
 rcases ap.1 hB with rfl|hB
 · exact h i hi
 exact k i ⟨B,hB,hi⟩
theorem KV{bq B:Nat}{cs:Array Value}{T:TypeId}(h:Blk w B cs T):∀i,(Ch B cs T).foot i→i<bq∨∃o:Obj,w.heap[i]?=some o∧o.isCells=true:=fun i(e:i=B)=>by subst e;exact .inr ⟨_,h,rfl⟩
theorem NZ{α:Type}{bq:Nat}{e:TypeId}{k:Nat}{enc:α→Array Value}{v:Value}{xs:List α}(h:OwnS w 0 e k enc v xs):∀i,(A8 e k enc v xs).foot i→i<bq∨∃o:Obj,w.heap[i]?=some o∧o.isCells=true:=fun i hi=>by
 obtain⟨_,⟨rfl,_⟩|⟨g,cap,cur,rfl,_,hg,_⟩⟩:=h
 · cases hi
 cases hi
 exact .inr ⟨_,hg,rfl⟩
theorem KoOk.ko{bq:Nat}(h:KoOk bq w As)(k:Ko bq w w'):KoOk bq w' As:=fun i hi=>by
 rcases h i hi with h1|⟨o,h1,h2⟩
 · exact .inl h1
 exact .inr ⟨o,k.same i o h1 (.inr h2),h2⟩
theorem Sep.ko{bq:Nat}(h:Sep S0 w0 w As)(hc:KoOk bq w As)(k:Ko bq w w')(hb:w0.heap.size≤bq):Sep S0 w0 w' As:=
 ⟨h.fr.ko k hb,fun A hA=>⟨A.keep w w' (h.each A hA).1 (fun i hi hlt=>by
   obtain⟨o,ho⟩:∃o,w.heap[i]?=some o:=⟨_,bm hlt⟩
   rw[ho]
   refine k.same i o ho ?_
   rcases hc i ⟨A,hA,hi⟩with h1|⟨o',h1,h2⟩
   · exact .inl h1
   rw[ho]at h1;cases h1;exact .inr h2) k.size,(h.each A hA).2⟩,h.apart⟩
end
theorem D9{α:Type}{enc:α→Array Value}{b k:Nat}{e:TypeId}{w:World}{ad:Option Addr}{m cp:Nat}{xs:List α}(h:OwnS w b e k enc (.slice ad m cp) xs)(hk:∀x,(enc x).size=k):Els w ad k enc xs:=by
 obtain⟨ad',cp',e',hE⟩:=h.sl hk
 cases e'
 exact hE
theorem NewSl.own{α:Type}{enc:α→Array Value}{k:Nat}{e:TypeId}{w w':World}{v:Value}{xs:List α}(h:NewSl w e k enc xs v w')(hk:∀x,(enc x).size=k)(hk0:0<k)(hm:xs.length≤maxLen):Up w w'∧∃B,v=.slice (some ⟨B,0,none⟩) xs.length xs.length∧B=w.heap.size∧OwnS w' 0 e k enc (.slice (some ⟨B,0,none⟩) xs.length xs.length) xs:=by
 obtain⟨B,cs,rfl,N,hc,hE⟩:=h
 have hfl:∀x,(enc x).toList.length=k:=fun x=>by simp[hk]
 have hl:=Gm (fun x=>(enc x).toList) k hfl xs
 refine⟨N.up,B,rfl,N.at_,hl,.inr ⟨B,xs.length,cs,rfl,ao _,N.blk,av _,hm,hc,?_⟩⟩
 rw[di (by rw[dc,hc];exact av _)]
 refine List.ext_getElem (by rw[dc,hc,hl]) fun j h1 h2=>?_
 obtain⟨x,hx1,hx2⟩:=P5 (fun x=>(enc x).toList) k hk0 hfl xs j _ (b_ h2)
 obtain⟨B',o,e',hcell⟩:=hE _ x hx1
 cases e'
 have h3:=hcell (j%k) _ (by simpa using hx2)
 rw[show 0+j/k*k+j%k=j by rw[dp,i0];exact jr j k]at h3
 have hb:=N.blk
 unfold Blk at hb
 have h1':j<cs.size:=by simpa using h1
 simp[World.cell?,hb,h1']at h3
 simpa using h3
theorem PEv.as{P:Program}{n:Nat}{ds:List Deferred}{l:Env}{w:World}{o:Oper}{v v':Value}(h:PEv P n ds l w o v)(e:v=v'):PEv P n ds l w o v':=e▸h
def cX(T:World→Prop)(Tx:Code→World→Prop):Exit→Go.Act→World→Prop
 |.normal,_,w=>T w
 |.ret,_,w=>Tx .ret w
 |.exit id,_,w=>Tx (.exit id) w
 |.goto t,_,w=>Tx (.goto t) w
 |_,_,_=>False
def Nf(D:Nat):Asr:=⟨(· =D),fun w=>Ob w D (.deferred (some [])),fun _ _ h k _=>(k D rfl (lt_of_block h)).trans h,fun _ h _ e=>by subst e;exact lt_of_block h⟩
def Vi(Ds:List Nat):Asr:=⟨(· ∈Ds),fun w=>Ds.Nodup∧∀D∈Ds,Ob w D (.deferred (some [])),fun _ _ h k _=>⟨h.1,fun D hD=>(k D hD (lt_of_block (h.2 D hD))).trans (h.2 D hD)⟩,fun _ h _ e=>lt_of_block (h.2 _ e)⟩
theorem Sep.EO{S0:Nat→Prop}{w0 w:World}{As:List Asr}(h:Sep S0 w0 w As):Sep S0 w0 w (As++[Vi []]):=h.add (Up.refl _) ⟨dz,fun _ h=>by cases h⟩ (fun _ h=>by cases h)
theorem zA{S0:Nat→Prop}{w0 w:World}{As Bs:List Asr}{Ds:List Nat}{D:Nat}(h:Sep S0 w0 w ((Vi Ds::As)++(Bs++[Nf D]))):Sep S0 w0 w (Vi (D::Ds)::(As++Bs)):=by
 have h1:=h.get 0 rfl
 have hD:Ob w D (.deferred (some [])):=(h.each (Nf D) (by simp)).1
 have hn:D∉Ds:=fun hm=>by
   have h2:=(d6.1 h.apart).1 (Nf D) (by simp) D hm
   exact h2 rfl
 have hs:Sep S0 w0 w ((Vi Ds::As)++Bs):=h.sub (List.Sublist.append_left (iq _ _) _)
 refine⟨h.fr,fun A hA=>?_,?_⟩
 · rcases ap.1 hA with rfl|hA
   · refine⟨⟨gk.2 ⟨hn,h1.1⟩,fun E hE=>?_⟩,fun i hi=>?_⟩
     · rcases ap.1 hE with rfl|hE
       · exact hD
       exact h1.2 E hE
     rcases ap.1 hi with rfl|hi
     · exact(h.each (Nf i) (by simp)).2 i rfl
     exact(h.each (Vi Ds) (by simp)).2 i hi
   exact hs.each A (bw _ hA)
 have h2:=hs.apart
 rw[fl,d6]at h2
 refine d6.2 ⟨fun A hA i hi hi2=>?_,h2.2⟩
 rcases ap.1 hi with rfl|hi
 · have h3:=(cc.1 h.apart)
   rcases be.1 hA with hA|hA
   · exact h3.2.2 A (bw _ hA) (Nf i) (by simp) i hi2 rfl
   exact(cc.1 h3.2.1).2.2 A hA (Nf i) (by simp) i hi2 rfl
 exact h2.1 A hA i hi hi2
def OA:Asr:=⟨fun _=>False,fun _=>True,fun _ _ h _ _=>h,fun _ _ _ h=>h.elim⟩
def tK(Ds:List Nat):List Deferred:=Ds.map fun D=>{ target:=.collected D,args:=#[] }
section
variable {R:Option Nat}{m:Nat}{P:Program}{n:Nat}{ds:List Deferred}{Q:Exit→Go.Act→World→Prop}{l:Env}{w:World}
theorem iB{fn:Func}{RR:Ending→World→Prop}(hl:Cf l=true):∀(Ds:List Nat)(w:World),Ds.Nodup→(∀D∈Ds,Ob w D (.deferred (some [])))→(∀w',Fr (· ∈Ds) w w'→KW n [] (bodyPost P fn RR .ret) l w')→KW n (tK Ds) (bodyPostM (FR none) m P fn RR .ret) l w:=by
 intro Ds w hn hk h a ha
 show LeavesInM (FR none) m P fn a.tmps RR a.defers .returning w
 rw[ha.defers]
 have key:∀(Ds:List Nat)(w:World),Ds.Nodup→(∀D∈Ds,Ob w D (.deferred (some [])))→(∀w',Fr (· ∈Ds) w w'→KW n [] (bodyPost P fn RR .ret) l w')→LeavesInM (FR none) m P fn a.tmps RR (tK Ds) .returning w:=by
   intro Ds
   induction Ds with
   |nil=>
     intro w _ _ h
     obtain⟨_,v,h2,h3⟩:=h w (Fr.refl _ _) { tmps:=a.tmps,defers:=[] } ⟨rfl,ha.size,(ha.world hl _).val⟩
     exact Mx h2 h3
   |cons D Ds ih=>
     intro w hn hk h
     have hD:=hk D bp
     obtain⟨hn1,hn2⟩:=gk.1 hn
     refine P3 hD (ih _ hn2 (fun E hE=>?_) (fun w' hf=>h w' ?_))
     · exact(World.putObj_heap_other (fun e:E=D=>hn1 (e▸hE))).trans (hk E (bw _ hE))
     refine⟨hf.os,hf.tape,hf.output,bb (by simp) hf.size,fun i hi hs=>?_⟩
     have h1:i≠D:=fun e=>hs (by rw[e];exact bp)
     exact(hf.block i (by simpa using hi) (fun e=>hs (bw _ e))).trans (World.putObj_heap_other h1)
 exact key Ds w hn hk h
theorem Zp(X:Nat→Prop){α σ:Type}{g:Operand}{ps:Array Tmp}{assign body:Code}{gf:Nat}{lb:Array Value}{encs:α→Array Value}{Zs:List Asr}{S0:Nat→Prop}{w0:World}(As:σ→List Asr)(J:List α→σ→Prop)(Jx:Code→List α→σ→Prop)(Bx:α→Nat→List Asr)(env:α→Nat→Env)(s0:σ){S Sp:List α→Prop}{N:Nat}
   (hX:∀pre s i,J pre s→Cl (As s) i→(S0 i∨w0.heap.size≤i)∧¬Cl Zs i→X i)(hx:Val l g (.func (.func gf) #[] lb))(en:∀args w,(callFunc gf args).run P w=.ok (.enter gf args) w)(hit:IterS P gf lb encs X (fun i=>(S0 i∨w0.heap.size≤i)∧i<w.heap.size∧¬Cl Zs i) S Sp N w)(hps:∀x,(encs x).size=ps.size)(hl:Cf l=true)(henv:∀x b,Cf (env x b)=true)
   (hS:Sep S0 w0 w (Zs++As s0))(hJ:J [] s0)
   (hassign:∀(lp:Nat)(x:α)(W:World)(a:Go.Act),Ag n ds l a W→assign.wpIn (FR (some lp)) 8 P (Exit.then (fun a' W'=>∃b,Sep no W W' (Bx x b)∧KoOk 0 W' (Bx x b)∧Ag n [] (env x b) a' W') (fun _ _ _=>False)) { tmps:=(ps.zip (encs x)).foldl (fun t(p,v)=>t.setIfInBounds p v) a.tmps,defers:=[] } W)
   (hbody:∀(lp:Nat)(pre:List α)(x:α)(s:σ)(b:Nat)(W:World),J pre s→pre.length<N→w.heap.size≤W.heap.size→Sep S0 w0 W (Zs++(As s++Bx x b))→Sep (Cl (As s++Bx x b)) W W (As s++Bx x b)→
     CW (some lp) 8 P n [] body (cX (fun W'=>∃s' Rest,J (pre++[x]) s'∧Sep (Cl (As s++Bx x b)) W W' (As s'++Rest)∧KoOk w.heap.size W' (As s')) (fun c W'=>∃s' Rest,Jx c (pre++[x]) s'∧Sep (Cl (As s++Bx x b)) W W' (As s'++Rest)∧KoOk w.heap.size W' (As s'))) (env x b) W)
   (hdone:∀(D:Nat)(ys:List α)(s:σ)(W:World),w.heap.size≤D→S ys→J ys s→w.heap.size≤W.heap.size→Sep S0 w0 W (Zs++(As s++[Nf D]))→KW n ({ target:=.collected D,args:=#[] }::ds) (Q .normal) l W)
   (hstop:∀(D:Nat)(c:Code)(pre:List α)(s:σ)(W:World),w.heap.size≤D→Sp pre→Jx c pre s→w.heap.size≤W.heap.size→Sep S0 w0 W (Zs++(As s++[Nf D]))→CW none 10 P n ({ target:=.collected D,args:=#[] }::ds) c Q l W):
   CW none 10 P n ds (.rangeFunc g ps assign body) Q l w:=fun a ha=>by
 have hg:=ha.ev hx
 have hw0:=hS.size
 refine wpIn_rangeFunc ?_
 intro fn hfn
 let rec_:LoopState→Option Code→Loop:=fun st pe=>{ state:=st,pending:=pe,fn,tmps:=a.tmps,params:=ps,assign,body,defers:=w.heap.size }
 let kd:Nat:=w.heap.size
 let lp:Nat:=w.heap.size+1
 let W1:World:=(w.alloc (.deferred (some []))).alloc (.loop (rec_ .ready none))
 have hU:Up w W1:=(Up.alloc _ _).trans (Up.alloc _ _)
 have rec1:W1.heap[lp]?=some (.loop (rec_ .ready none)):=by
   have:=World.alloc_heap_new (w.alloc (.deferred (some []))) (.loop (rec_ .ready none))
   rw[World.size_alloc]at this
   exact this
 have dfr1:W1.heap[kd]?=some (.deferred (some [])):=(Below.heap_alloc _ _ _ (by simp[kd])).trans (World.alloc_heap_new w _)
 have hne:kd≠lp:=by show w.heap.size≠w.heap.size+1;omega
 have hlpq:w.heap.size≤lp:=by show w.heap.size≤w.heap.size+1;omega
 have hZlow:∀i,Cl Zs i→i<w.heap.size:=fun i hi=>hS.left.FO hi
 -- what stands while the loop goes on
 let I:List α→World→Prop:=fun pre W=>∃s,J pre s∧w.heap.size≤W.heap.size∧Sep S0 w0 W (Zs++As s)∧KoOk w.heap.size W (Zs++As s)
 let Ix:Code→List α→World→Prop:=fun c pre W=>∃s,Jx c pre s∧w.heap.size≤W.heap.size∧Sep S0 w0 W (Zs++As s)∧KoOk w.heap.size W (Zs++As s)
 have kI:∀pre A B,I pre A→Ko w.heap.size A B→I pre B:=fun pre A B⟨s,h1,h2,h3,h4⟩k=>⟨s,h1,bb h2 k.size,h3.ko h4 k hw0,h4.ko k⟩
 have kIx:∀c pre A B,Ix c pre A→Ko w.heap.size A B→Ix c pre B:=fun c pre A B⟨s,h1,h2,h3,h4⟩k=>⟨s,h1,bb h2 k.size,h3.ko h4 k hw0,h4.ko k⟩
 have koW:∀{A B:World}{row:Option Nat},A.grownBy B row→(∀r,row=some r→W1.heap.size≤r∧∃o:Obj,A.heap[r]?=some o∧o.isWalk=true)→Ko w.heap.size A B:=fun hg' hr=>Ko.grown hg' fun r e=>by
   obtain⟨h1,o,h2,h3⟩:=hr r e
   exact⟨bb (Up.size hU) h1,o,h2,Obj.not_cells_of_walk h3⟩
 have hk1:∀{A B:World}{row:Option Nat}{k:Nat}{o:Obj},A.grownBy B row→(∀r,row=some r→W1.heap.size≤r∧∃o:Obj,A.heap[r]?=some o∧o.isWalk=true)→A.heap[k]?=some o→o.isWalk=false→B.heap[k]?=some o:=fun hg' hr hk ho=>(grownBy_keeps hg' (fun r e=>(hr r e).2) hk ho).trans hk
 have hI1:I [] W1:=⟨s0,hJ,Up.size hU,hS.up hU,KoOk.low fun i hi=>hS.FO hi⟩
 have all:=hit lp (fun pre W=>I pre W∧W.heap[lp]?=some (.loop (rec_ .ready none))∧W.heap[kd]?=some (.deferred (some [])))
   (fun pre W=>∃c,Ix c pre W∧W.heap[lp]?=some (.loop (rec_ .done (some c)))∧W.heap[kd]?=some (.deferred (some []))) W1 hU
   (fun s A B row hs hg' hr=>⟨kI _ _ _ hs.1 (koW hg' hr),hk1 hg' hr hs.2.1 rfl,hk1 hg' hr hs.2.2 rfl⟩)
   (fun s A B row hs hg' hr=>by
     obtain⟨c,hc,h1,h2⟩:=hs
     exact⟨c,kIx _ _ _ _ hc (koW hg' hr),hk1 hg' hr h1 rfl,hk1 hg' hr h2 rfl⟩) ?_ ⟨hI1,rec1,dfr1⟩
 · refine⟨lp,[{ target:=.collected kd,args:=#[] }],W1,{ target:=.fn (.func gf) lb,args:=#[.func (.yield lp) #[] #[]] },W1,gf,#[.func (.yield lp) #[] #[]]++lb,W1,run_enterLoop_outer _ _ _ _ _,?_,fun f' hf'=>?_,?_,fun _=>cQ,?_⟩
   · simp only[resolve,hg]
     simp[go_sem]
   · simp[Target.leads]at hf';subst hf';trivial
   · simp[invoke,go_sem,en]
   have mk:∀{W:World}{s:σ},w.heap.size≤W.heap.size→Sep S0 w0 W (Zs++As s)→KoOk w.heap.size W (Zs++As s)→W.heap[kd]?=some (.deferred (some []))→Sep S0 w0 W (Zs++(As s++[Nf kd])):=fun{W s}hsz h4 h5 hk=>by
     rw[←dm]
     refine⟨h4.fr,fun A hA=>?_,cc.2 ⟨h4.apart,gv _ _,fun A hA B hB i h6 h7=>?_⟩⟩
     · rcases be.1 hA with hA|hA
       · exact h4.each A hA
       rw[aa.1 hA]
       exact⟨hk,fun i(e:i=kd)=>.inr (by rw[e];exact hw0)⟩
     rw[aa.1 hB]at h7
     have e7:i=kd:=h7
     rcases h5 i ⟨A,hA,h6⟩with h8|⟨o,h8,h9⟩
     · rw[e7]at h8;exact Nat.lt_irrefl _ h8
     rw[e7,hk]at h8;cases h8;cases h9
   refine(show CallsIn (FR none) 9 P gf (#[.func (.yield lp) #[] #[]]++lb) W1 _ from all).mono ?_
   rintro e W2 ⟨⟨v,rfl⟩,(⟨xs,hSx,⟨s,h1,h2,h3,h4⟩,hlr,hk⟩|⟨pre,hSp,c,⟨s,h1,h2,h3,h4⟩,hlr,hk⟩)⟩
   · have ko:Ko w.heap.size W2 (W2.putObj lp (.loop (rec_ .exhausted none))):=Ko.putObj _ hlr rfl hlpq
     refine⟨none,W2.putObj lp (.loop (rec_ .exhausted none)),run_endLoop (P:=P) hlr (by simp[rec_]),?_⟩
     exact hdone kd xs s _ (av _) hSx h1 (bb h2 ko.size) (mk (bb h2 ko.size) (h3.ko h4 ko hw0) (h4.ko ko) ((World.putObj_heap_other hne).trans hk)) _ ⟨by rw[←ha.defers];rfl,ha.size,(ha.world hl _).val⟩
   have ko:Ko w.heap.size W2 (W2.putObj lp (.loop (rec_ .exhausted (some c)))):=Ko.putObj _ hlr rfl hlpq
   refine⟨some c,W2.putObj lp (.loop (rec_ .exhausted (some c))),?_,?_⟩
   · have:=run_endLoop (P:=P) hlr (by simp[rec_])
     exact this
   exact hstop kd c pre s _ (av _) hSp h1 (bb h2 ko.size) (mk (bb h2 ko.size) (h3.ko h4 ko hw0) (h4.ko ko) ((World.putObj_heap_other hne).trans hk)) _ ⟨by rw[←ha.defers];rfl,ha.size,(ha.world hl _).val⟩
 -- one round
 rintro pre x W ⟨⟨s,hJs,hsz,hSs,hKs⟩,hlr,hk⟩ hlen
 have hy:=run_yield (P:=P) (args:=encs x) hlr (by simp only[rec_];exact hps x)
 refine⟨fn,_,assign,body,hy,roundIn_of_wpIn hfn ?_⟩
 refine wpIn_mono (hassign lp x W a (ha.world hl W)) ?_
 intro e a1 W' hq
 cases e with
 |normal=>
   obtain⟨b,hB,hKB,hA⟩:=hq
   have hU1:=hB.Cj
   have hlr1:W'.heap[lp]?=some (.loop (rec_ .ready none)):=(hU1.block (lt_of_block hlr)).trans hlr
   have hk1':W'.heap[kd]?=some (.deferred (some [])):=(hU1.block (lt_of_block hk)).trans hk
   refine⟨_,run_beginRound hlr1 rfl,?_⟩
   obtain⟨W2,hW2⟩:∃W2,W2=W'.putObj lp (.loop { rec_ .ready none with state:=.busy }):=⟨_,rfl⟩
   rw[←hW2]
   have ko1:Ko w.heap.size W' W2:=by rw[hW2];exact Ko.putObj _ hlr1 rfl hlpq
   have l2:W2.heap[lp]?=some (.loop { rec_ .ready none with state:=.busy }):=by rw[hW2];exact World.putObj_heap_same (lt_of_block hlr1)
   have k2:W2.heap[kd]?=some (.deferred (some [])):=by rw[hW2];exact(World.putObj_heap_other hne).trans hk1'
   have o2:∀i,i≠lp→W2.heap[i]?=W'.heap[i]?:=fun i hi=>by rw[hW2];exact World.putObj_heap_other hi
   have hS1:Sep S0 w0 W' (Zs++(As s++Bx x b)):=by rw[←dm];exact hSs.join hB
   have hK1:KoOk w.heap.size W' (Zs++(As s++Bx x b)):=by
     rw[←dm]
     refine KoOk.mC.2 ⟨fun i hi=>?_,fun i hi=>(hKB i hi).elim (fun h=>by omega) .inr⟩
     rcases hKs i hi with h1|⟨o,h1,h2⟩
     · exact .inl h1
     exact .inr ⟨o,(hU1.block (lt_of_block h1)).trans h1,h2⟩
   have hS2:=hS1.ko hK1 ko1 hw0
   have hK2:=hK1.ko ko1
   have hsz2:w.heap.size≤W2.heap.size:=bb hsz (bb (Up.size hU1) ko1.size)
   refine wpIn_mono (hbody lp pre x s b W2 hJs hlen hsz2 hS2 hS2.right.self a1 (hA.world (henv x b) _)) ?_
   have fin:∀(s':σ)(Rest:List Asr)(W3:World)(jump:Option Code),Sep (Cl (As s++Bx x b)) W2 W3 (As s'++Rest)→KoOk w.heap.size W3 (As s')→
       ∃W4,(Instr.endRound lp jump).run P W3=.ok (.bool jump.isNone) W4∧w.heap.size≤W4.heap.size∧Sep S0 w0 W4 (Zs++As s')∧KoOk w.heap.size W4 (Zs++As s')∧W4.heap[lp]?=some (.loop (rec_ (if jump.isNone then .ready else .done) jump))∧W4.heap[kd]?=some (.deferred (some []))∧Kx w.heap.size X (fun i=>(S0 i∨w0.heap.size≤i)∧i<w.heap.size∧¬Cl Zs i) W W4:=by
     intro s' Rest W3 jump h5 h6
     have keepN:∀(k:Nat)(o:Obj),w.heap.size≤k→W2.heap[k]?=some o→o.isCells=false→W3.heap[k]?=some o:=fun k o hk' ho hc=>(h5.fr.block k (lt_of_block ho) (fun hf=>by
       rcases(KoOk.mC.1 hK2).2 k hf with h7|⟨o',h7,h8⟩
       · omega
       rw[ho]at h7;cases h7;rw[hc]at h8;cases h8)).trans ho
     have l3:=keepN lp _ hlpq l2 rfl
     have k3:=keepN kd _ (av _) k2 rfl
     have ko3:∀(o':Obj),Ko w.heap.size W3 (W3.putObj lp o'):=fun o'=>Ko.putObj _ l3 rfl hlpq
     have h7:Sep S0 w0 W3 (Zs++As s'):=(hS2.frame h5).sub (List.Sublist.append_left (iq _ _) _)
     have h8:KoOk w.heap.size W3 (Zs++As s'):=KoOk.mC.2 ⟨KoOk.low hZlow,h6⟩
     have hr:=run_endRound (P:=P) jump l3
     refine⟨_,hr,bb hsz2 (bb h5.size (ko3 _).size),h7.ko h8 (ko3 _) hw0,h8.ko (ko3 _),World.putObj_heap_same (lt_of_block l3),(World.putObj_heap_other hne).trans k3,?_⟩
     refine⟨(ko3 _).os.trans (h5.fr.os.trans (ko1.os.trans hU1.os)),(ko3 _).tape.trans (h5.fr.tape.trans (ko1.tape.trans hU1.tape)),(ko3 _).output.trans (h5.fr.output.trans (ko1.output.trans hU1.output)),bb (Up.size hU1) (bb ko1.size (bb h5.size (ko3 _).size)),fun k o hk' ho=>?_⟩
     have e1:W'.heap[k]?=some o:=(hU1.block (lt_of_block hk')).trans hk'
     have nlp:k≠lp:=fun e=>by
       subst e
       rw[hlr1]at e1;cases e1
       rcases ho with ho|⟨_,_,ho|ho⟩
       · cases ho.1
       · omega
       cases ho
     have e2:W2.heap[k]?=some o:=(o2 k nlp).trans e1
     have own:∀i,Cl (As s++Bx x b) i→S0 i∨w0.heap.size≤i:=fun i⟨A,hA,hi⟩=>(hS2.each A (fk _ hA)).2 i hi
     have nF:¬Cl (As s++Bx x b) k:=fun hf=>by
       rcases ho with⟨h9,h10⟩|⟨h9,h10,h11⟩
       · refine h10 (hX pre s k hJs ((Oi.1 hf).resolve_right fun⟨A,hA,hi⟩=>?_) ⟨own k hf,fun hz=>hS2.oB hz hf⟩)
         have:=((hB.each A hA).2 k hi).resolve_left id
         have:=lt_of_block hk'
         omega
       rcases(KoOk.mC.1 hK2).2 k hf with h12|⟨o',h12,h13⟩
       · exact h10 ⟨own k hf,h12,fun hz=>hS2.oB hz hf⟩
       rw[e2]at h12;cases h12;rw[h9]at h13;cases h13
     exact(World.putObj_heap_other nlp).trans ((h5.fr.block k (lt_of_block e2) nF).trans e2)
   intro e a2 W3 hp
   cases e with
   |normal=>
     obtain⟨s',Rest,hJ',h5,h6⟩:=hp
     obtain⟨W4,hr,h7,h8,h9,h10,h11,h12⟩:=fin s' Rest W3 none h5 h6
     exact⟨_,_,hr,.inl ⟨rfl,⟨⟨s',hJ',h7,h8,h9⟩,h10,h11⟩,h12⟩⟩
   |ret=>
     obtain⟨s',Rest,hJ',h5,h6⟩:=hp
     obtain⟨W4,hr,h7,h8,h9,h10,h11,h12⟩:=fin s' Rest W3 (some .ret) h5 h6
     exact⟨_,_,hr,.inr ⟨rfl,.ret,⟨s',hJ',h7,h8,h9⟩,h10,h11⟩⟩
   |exit id=>
     obtain⟨s',Rest,hJ',h5,h6⟩:=hp
     obtain⟨W4,hr,h7,h8,h9,h10,h11,h12⟩:=fin s' Rest W3 (some (.exit id)) h5 h6
     exact⟨_,_,hr,.inr ⟨rfl,.exit id,⟨s',hJ',h7,h8,h9⟩,h10,h11⟩⟩
   |goto t=>
     obtain⟨s',Rest,hJ',h5,h6⟩:=hp
     obtain⟨W4,hr,h7,h8,h9,h10,h11,h12⟩:=fin s' Rest W3 (some (.goto t)) h5 h6
     exact⟨_,_,hr,.inr ⟨rfl,.goto t,⟨s',hJ',h7,h8,h9⟩,h10,h11⟩⟩
   |panic ch=>exact hp.elim
   |outgrown=>exact hp.elim
 |ret=>exact hq.elim
 |exit id=>exact hq.elim
 |goto t=>exact hq.elim
 |panic ch=>exact hq.elim
 |outgrown=>exact hq.elim
theorem cY{α σ:Type}{g:Operand}{ps:Array Tmp}{assign body:Code}{gf:Nat}{lb:Array Value}{encs:α→Array Value}{Zs:List Asr}{S0:Nat→Prop}{w0:World}(As:σ→List Asr)(J:List α→σ→Prop)(Jx:Code→List α→σ→Prop)(Bx:α→Nat→List Asr)(env:α→Nat→Env)(s0:σ){S Sp:List α→Prop}{N:Nat}
   (hx:Val l g (.func (.func gf) #[] lb))(en:∀args w,(callFunc gf args).run P w=.ok (.enter gf args) w)(hit:IterS P gf lb encs (fun i=>(S0 i∨w0.heap.size≤i)∧¬Cl Zs i) (fun i=>(S0 i∨w0.heap.size≤i)∧i<w.heap.size∧¬Cl Zs i) S Sp N w)(hps:∀x,(encs x).size=ps.size)(hl:Cf l=true)(henv:∀x b,Cf (env x b)=true)
   (hS:Sep S0 w0 w (Zs++As s0))(hJ:J [] s0)
   (hassign:∀(lp:Nat)(x:α)(W:World)(a:Go.Act),Ag n ds l a W→assign.wpIn (FR (some lp)) 8 P (Exit.then (fun a' W'=>∃b,Sep no W W' (Bx x b)∧KoOk 0 W' (Bx x b)∧Ag n [] (env x b) a' W') (fun _ _ _=>False)) { tmps:=(ps.zip (encs x)).foldl (fun t(p,v)=>t.setIfInBounds p v) a.tmps,defers:=[] } W)
   (hbody:∀(lp:Nat)(pre:List α)(x:α)(s:σ)(b:Nat)(W:World),J pre s→pre.length<N→w.heap.size≤W.heap.size→Sep S0 w0 W (Zs++(As s++Bx x b))→Sep (Cl (As s++Bx x b)) W W (As s++Bx x b)→
     CW (some lp) 8 P n [] body (cX (fun W'=>∃s' Rest,J (pre++[x]) s'∧Sep (Cl (As s++Bx x b)) W W' (As s'++Rest)∧KoOk w.heap.size W' (As s')) (fun c W'=>∃s' Rest,Jx c (pre++[x]) s'∧Sep (Cl (As s++Bx x b)) W W' (As s'++Rest)∧KoOk w.heap.size W' (As s'))) (env x b) W)
   (hdone:∀(D:Nat)(ys:List α)(s:σ)(W:World),w.heap.size≤D→S ys→J ys s→w.heap.size≤W.heap.size→Sep S0 w0 W (Zs++(As s++[Nf D]))→KW n ({ target:=.collected D,args:=#[] }::ds) (Q .normal) l W)
   (hstop:∀(D:Nat)(c:Code)(pre:List α)(s:σ)(W:World),w.heap.size≤D→Sp pre→Jx c pre s→w.heap.size≤W.heap.size→Sep S0 w0 W (Zs++(As s++[Nf D]))→CW none 10 P n ({ target:=.collected D,args:=#[] }::ds) c Q l W):
   CW none 10 P n ds (.rangeFunc g ps assign body) Q l w:=
 Zp _ As J Jx Bx env s0 (fun _ _ _ _ _ h=>h) hx en hit hps hl henv hS hJ hassign hbody hdone hstop
end
end Go.Wx
