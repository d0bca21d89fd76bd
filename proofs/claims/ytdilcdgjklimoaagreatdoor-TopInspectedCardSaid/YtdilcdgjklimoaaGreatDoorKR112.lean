import Derived.Test.YtdilcdgjklimoaaGreatDoorKR111
import Derived.WideKeyEntry
namespace Go.Wx
open Go.RowKit Go.MapKept
open Go.ChangeMaps (setBlock)
def MidM(P:Program)(T:TypeId)(w:World)(b:Nat)(kv:List (Int×Value))(k:Int)(st:Nat):Prop:=
 ∃es1 clock1,w.heap[b]?=some (.map es1 clock1)∧∀(w2:World)(val:Value),w2.heap[b]?=some (.map es1 clock1)→∃w',(Instr.entryStore T (.map (some b)) (goInt st) val).run P w2=.ok () w'∧IMap w' b (D8 kv k val)∧Sto b w2 w'∧w'.heap.size=w2.heap.size
theorem MidM.up{P:Program}{T:TypeId}{w w':World}{b:Nat}{kv:List (Int×Value)}{k:Int}{st:Nat}(h:MidM P T w b kv k st)(u:Up w w'):MidM P T w' b kv k st:=
 let⟨es1,c1,h1,h2⟩:=h;⟨es1,c1,(u.block (lt_of_block h1)).trans h1,h2⟩
theorem MidM.Rj{P:Program}{T:TypeId}{w:World}{b:Nat}{kv:List (Int×Value)}{k:Int}{st:Nat}(h:MidM P T w b kv k st):∀ad v,ad.block=b→w.cell? ad≠some v:=by
 obtain⟨es,clock,hb,_⟩:=h
 intro ad v e
 unfold World.cell?
 rw[e,hb]
 simp
theorem MidM.Xu{P:Program}{T:TypeId}{w:World}{b:Nat}{kv:List (Int×Value)}{k:Int}{st:Nat}(h:MidM P T w b kv k st):∀(cs:Array Value)(T':TypeId)(x:Nat×Nat),w.heap[b]?≠some (Obj.cells cs T' x):=by
 obtain⟨es,clock,hb,_⟩:=h
 intro cs T' x e
 rw[hb]at e;cases e
section
variable {P:Program}{n:Nat}{ds:List Deferred}{l:Env}{w:World}{d:Option Tmp}{ty:TypeId}{ps:String}{af:Array Edge}{g:Option (Nat×Bool)}
theorem REv.mapEntry{T K E:TypeId}{m x:Operand}{b:Nat}{k:Int}{z:Value}{kv:List (Int×Value)}(hT:P.underlying T=some (.map K E))(hK:P.underlying K=some (.int .i64))(hz:∀w,(zeroValue E).run P w=.ok z w)(hm:Val l m (.map (some b)))(hx:Val l x (vi k))(h:IMap w b kv):
   REv P n ds l w ⟨d,.mapEntry T m x,ty,ps,af,g⟩ (fun v w'=>∃v0 st,v=.tuple #[v0,goInt (st:Nat)]∧MidM P T w' b kv k st∧Sto b w w'∧w'.heap.size=w.heap.size):=fun a ha=>by
 obtain⟨es,clock,hb,hs,he⟩:=h
 have hk:IsKey (.int .i64) (vi k):=rfl
 have fin:∀(w:World)(o o':Obj),w.heap[b]?=some o'→Sto b w { w with heap:=w.heap.setIfInBounds b o }:=fun w o o' hb=>⟨rfl,rfl,rfl,by simp,fun i _ hne=>(heap_set hb).2 i hne⟩
 rcases findNow_spec hk es.toList 0 (Fv he)with⟨h1,h2⟩|⟨j,e,h1,h2,h3⟩
 · refine⟨_,_,Ci (v:=.tuple #[z,goInt clock]) (w':={ w with heap:=w.heap.setIfInBounds b (.map (es.push { key:=vi k,val:=z,born:=clock }) (clock+1)) }) ?_,z,clock,rfl,⟨_,_,(heap_set hb).1,fun w2 val hw2=>⟨{ w2 with heap:=w2.heap.setIfInBounds b (.map (es.push { key:=vi k,val:=val,born:=clock }) (clock+1)) },?_,⟨_,_,(heap_set hw2).1,stamped_push hs h2,?_⟩,fin w2 _ _ hw2,by simp⟩⟩,fin w _ _ hb,by simp⟩
   · rw[ha.ev hm,ha.ev hx]
     simp[Instr.mapEntry,run_underlying hT,MapKept.run_getObj_map hb,MapKept.run_checkKey hK hk,MapKept.run_findKey hK h1,hz,MapKept.run_setObj_map _ hb,Result.andThen]
   · have hidx:(es.push ⟨vi k,z,clock⟩).findIdx? (fun e=>((e.born:Nat):Int)==((clock:Nat):Int))=some es.size:=by
       rw[Go.WideElems.findIdx_arr]
       exact Go.WideElems.findIdx_born (l:=(es.push ⟨vi k,z,clock⟩).toList) (j:=es.size) (e0:=⟨vi k,z,clock⟩) (stamped_push hs h2).2.1 (by simp)
     have hmod:(es.push ⟨vi k,z,clock⟩).modify es.size (fun e=>{ e with val:=val })=es.push ⟨vi k,val,clock⟩:=by
       apply Array.ext'
       rw[Array.toList_modify,Array.toList_push,Array.toList_push,←Array.length_toList,Go.WideElems.modify_last]
     simp[Instr.entryStore,MapKept.run_getObj_map hw2,asInt,asIntOf,goInt,hidx,hmod,MapKept.run_setObj_map _ hw2,Result.andThen]
   have hni:k∉kv.map (·.1):=fun hmem=>by
     obtain⟨p,hp,hpk⟩:=List.mem_map.1 hmem
     obtain⟨x',hx',hkx,_⟩:=De he hp
     exact h2 x' hx' (by rw[hkx,hpk])
   rw[D8,if_neg hni]
   simp[he,D9,Hi]
 have hj:es[j]?=some e:=by simpa using h2
 have hkey:∀(val:Value)e',es[j]?=some e'→({ e' with key:=vi k,val:=val }:MapEntry).key=e'.key:=fun _ e' he'=>by rw[hj]at he';cases he';exact h3.symm
 have hsame:es.modify j (fun e=>{ e with key:=vi k })=es:=by
   apply Array.ext'
   rw[Array.toList_modify,Go.ChangeMaps.modify_eq_set _ _ _ _ h2]
   have:({ e with key:=vi k }:MapEntry)=e:=by rw[←h3]
   rw[this]
   exact Go.WideElems.set_self _ _ _ h2
 refine⟨_,_,Ci (v:=.tuple #[e.val,goInt e.born]) (w':={ w with heap:=w.heap.setIfInBounds b (.map es clock) }) ?_,e.val,e.born,rfl,⟨_,_,(heap_set hb).1,fun w2 val hw2=>⟨{ w2 with heap:=w2.heap.setIfInBounds b (.map (es.modify j fun e=>{ e with key:=vi k,val:=val }) clock) },?_,⟨_,_,(heap_set hw2).1,stamped_modify hs _ _ (fun _ _=>rfl) (fun e' _ he'=>hkey val e' he'),Gb hs he hj h3⟩,fin w2 _ _ hw2,by simp⟩⟩,fin w _ _ hb,by simp⟩
 · rw[ha.ev hm,ha.ev hx]
   simp[Instr.mapEntry,run_underlying hT,MapKept.run_getObj_map hb,MapKept.run_checkKey hK hk,MapKept.run_findKey hK h1,hj,h3,run_keyThatStays hk,hsame,MapKept.run_setObj_map _ hb,Result.andThen]
 have hidx:es.findIdx? (fun x=>((x.born:Nat):Int)==((e.born:Nat):Int))=some j:=by
   rw[Go.WideElems.findIdx_arr]
   exact Go.WideElems.findIdx_born hs.2.1 h2
 have hmod:es.modify j (fun e=>{ e with val:=val })=es.modify j (fun e'=>{ e' with key:=vi k,val:=val }):=by
   apply Array.ext'
   rw[Array.toList_modify,Array.toList_modify,Go.ChangeMaps.modify_eq_set _ _ _ _ h2,Go.ChangeMaps.modify_eq_set _ _ _ _ h2,←h3]
 simp[Instr.entryStore,MapKept.run_getObj_map hw2,asInt,asIntOf,goInt,hidx,hmod,MapKept.run_setObj_map _ hw2,Result.andThen]
end
def asks(ops:Array Oper)(i j:Nat):Bool:=match ops[i]? with|some o=>o.after.any fun e=>Region.binds .any e&&Nat.beq e.on j|none=>false
theorem G8{ops:Array Oper}{i j:Nat}(h:asks ops i j=true){L:Nat→Bool}(hD:FY ops L)(hi:L i=true):L j=true:=by
 unfold asks at h
 split at h
 · rename_i o ho
   obtain⟨e,he,hh⟩:=Array.any_eq_true.1 h
   simp only[Bool.and_eq_true]at hh
   have:=hD i o ho hi _ (Array.getElem_mem he) hh.1
   rwa [Nat.eq_of_beq_eq_true hh.2]at this
 cases h
theorem Sb{ops:Array Oper}{i j:Nat}(h:asks ops i j=true){o:Oper}(ho:ops[i]?=some o){L:Nat→Bool}(hed:∀e∈o.after,Region.binds .any e=true→L e.on=true):L j=true:=by
 unfold asks at h
 rw[ho]at h
 obtain⟨e,he,hh⟩:=Array.any_eq_true.1 h
 simp only[Bool.and_eq_true]at hh
 have:=hed _ (Array.getElem_mem he) hh.1
 rwa [Nat.eq_of_beq_eq_true hh.2]at this
theorem AS{n:Nat}{ds:List Deferred}{w:World}{t:Nat}{v:Value}{a:Go.Act}{env:Env}(ha:Ag n ds env a w)(hv:a.tmps.getD t undef=v):Ag n ds ((t,.eq v)::env) a w:=⟨ha.defers,ha.size,fun s q hs=>by
 by_cases e:s=t
 · subst e;rw[A7]at hs;cases hs;exact hv
 rw[A8 e]at hs;exact ha.val s q hs⟩
def oK(P:Program)(T:TypeId)(b:Nat)(kv:List (Int×Value))(k1 k2:Int)(v1 v2:Value)(de dx:Nat)(e x s u:Nat)(w0:World)(L:Nat→Bool)(f:Nat→Value)(W:World):Prop:=
 Fr (· =b) w0 W∧(L e=false→IMap W b kv)∧(L e=true→L s=false→∃st:Nat,MidM P T W b kv k1 st∧(∃v0,f de=.tuple #[v0,goInt st])∧(L x=true→f dx=goInt st))∧
   (L s=true→L u=false→IMap W b (D8 kv k1 v1))∧(L u=true→IMap W b (D8 (D8 kv k1 v1) k2 v2))
section
variable {R:Option Nat}{m:Nat}{P:Program}{n:Nat}{ds:List Deferred}{Q:Exit→Go.Act→World→Prop}{l:Env}{w:World}{ops:Array Oper}
theorem cE{id:Nat}{opsL:List Oper}(k b e x s u r1 r2 de dx m1 a1 c1 m2 a2 c2:Nat)(phs:List Ph){T K E:Nat}{z:Value}{kv:List (Int×Value)}{k1 k2:Int}{v1 v2:Value}(hT:P.underlying T=some (.map K E))(hK:P.underlying K=some (.int .i64))(hz:∀w,(zeroValue E).run P w=.ok z w)(hm:P.follows .mixedOrders=true)(hl:Cj l=true)
   (hA:Dv opsL.toArray=true)(hC:(Nat.beq k opsL.toArray.size||Fh opsL.toArray k)=true)(hF:Iu opsL.toArray k=true)(hks:Nat.ble k opsL.toArray.size=true)(hD:Gr n opsL.toArray 0 k=true)(hTl:Gc opsL.toArray k=true)(hfree:Jd l (opsL.take k)=true)
   (hask:(asks opsL.toArray e r1&&(asks opsL.toArray r1 r2&&(asks opsL.toArray x e&&(asks opsL.toArray s x&&asks opsL.toArray u s))))=true)(hlt:(Nat.ble (e+1) k&&(Nat.ble (x+1) k&&(Nat.ble (s+1) k&&Nat.ble (u+1) k)))=true)
   (hoe:∃ty ps af,opsL[e]?=some ⟨some de,.mapEntry T (.tmp m1) (.tmp a1),ty,ps,af,none⟩)(hox:∃ty ps af,opsL[x]?=some ⟨some dx,.extract (.tmp de) 1,ty,ps,af,none⟩)
   (hos:∃ty ps af,opsL[s]?=some ⟨none,.entryStore T (.tmp m1) (.tmp dx) (.tmp c1),ty,ps,af,none⟩)(hou:∃ty ps af,opsL[u]?=some ⟨none,.mapUpdate T (.tmp m2) (.tmp a2) (.tmp c2),ty,ps,af,none⟩)
   (hph:allC phs)(hpe:∀v W,(phs.getD e (.eq undef)).holds v W)(hpx:∀v W,(phs.getD x (.eq undef)).holds v W)
   (hve:∀o,opsL[e]?=some o→lk (Ju opsL.toArray (fun i=>phs.getD i (.eq undef)) 0 o++l) m1=some (.eq (.map (some b)))∧lk (Ju opsL.toArray (fun i=>phs.getD i (.eq undef)) 0 o++l) a1=some (.eq (vi k1)))
   (hvs:∀o,opsL[s]?=some o→lk (Ju opsL.toArray (fun i=>phs.getD i (.eq undef)) 0 o++l) m1=some (.eq (.map (some b)))∧lk (Ju opsL.toArray (fun i=>phs.getD i (.eq undef)) 0 o++l) c1=some (.eq v1))
   (hvu:∀o,opsL[u]?=some o→lk (Ju opsL.toArray (fun i=>phs.getD i (.eq undef)) 0 o++l) m2=some (.eq (.map (some b)))∧lk (Ju opsL.toArray (fun i=>phs.getD i (.eq undef)) 0 o++l) a2=some (.eq (vi k2))∧lk (Ju opsL.toArray (fun i=>phs.getD i (.eq undef)) 0 o++l) c2=some (.eq v2))
   (hM:IMap w b kv)
   (hop:∀W,Cel w.drew W→allL (fun i o=>(i=e∨i=x∨i=s∨i=u)∨(o.guard=none∧(((i=r1∨i=r2)→IMap W b kv)→TU P n ds (Ju opsL.toArray (fun i=>phs.getD i (.eq undef)) 0 o++l) W o (phs.getD i (.eq undef))))) 0 (opsL.take k))
   (hend:∀W,Fr (· =b) w.drew W→IMap W b (D8 (D8 kv k1 v1) k2 v2)→LW R m P n ds opsL.toArray Q (opsL.drop k) l W):
   CW R m P n ds (.region id opsL.toArray true) Q l w:=by
 simp only[Bool.and_eq_true]at hask hlt
 obtain⟨ae,ar,ax,as_,au⟩:=hask
 obtain⟨ke,kx,ks,ku⟩:=hlt
 have ke:=Nat.le_of_ble_eq_true ke
 have kx:=Nat.le_of_ble_eq_true kx
 have ks:=Nat.le_of_ble_eq_true ks
 have ku:=Nat.le_of_ble_eq_true ku
 have hks':k≤opsL.length:=by have:=Nat.le_of_ble_eq_true hks;simp at this;omega
 have sub:∀j o,j<k→opsL.toArray[j]?=some o→(opsL.take k)[j]?=some o:=fun j o hjk ho=>by
   rw[List.getElem?_take_of_lt hjk];simpa using ho
 have hbd:∀i ph,lk l i=some ph→∀(j:Nat)(o:Oper),0≤j→j<k→opsL.toArray[j]?=some o→o.dst≠some i:=fun i ph hi j o _ hjk ho=>Fw hfree hi (List.mem_of_getElem? (sub j o hjk ho))
 obtain⟨ty1,ps1,af1,hoe⟩:=hoe
 obtain⟨ty2,ps2,af2,hox⟩:=hox
 obtain⟨ty3,ps3,af3,hos⟩:=hos
 obtain⟨ty4,ps4,af4,hou⟩:=hou
 have hde:∀i o,i<k→i≠e→opsL.toArray[i]?=some o→o.dst≠some de:=fun i o hik hne ho hd=>
   (C8 hD (Nat.zero_le _) hik ho hd).2 e _ (Nat.zero_le _) ke (Ne.symm hne) (by simpa using hoe) rfl
 have hdx:∀i o,i<k→i≠x→opsL.toArray[i]?=some o→o.dst≠some dx:=fun i o hik hne ho hd=>
   (C8 hD (Nat.zero_le _) hik ho hd).2 x _ (Nat.zero_le _) kx (Ne.symm hne) (by simpa using hox) rfl
 have hne:e≠x∧e≠s∧e≠u∧x≠s∧x≠u∧s≠u:=by
   refine⟨?_,?_,?_,?_,?_,?_⟩<;>intro h<;>subst h<;>simp_all
 obtain⟨nex,nes,neu,nxs,nxu,nsu⟩:=hne
 refine Ep hm hl fun fuel listed a hf hu ha=>(Ht (k:=k) (f0:=fun t=>a.tmps.getD t undef) (fun i=>phs.getD i (.eq undef)) Cel (oK P T b kv k1 k2 v1 v2 de dx e x s u w.drew) Cel.refl (fun _ _ _=>Cel.trans) (fun i v w w' h u=>(hph.at i) v w w' h u) hA hC hF hks (by simp) hD hl hbd ?_ ?_ ?_ fuel listed a hf hu ha (fun _=>rfl))
 · intro i o _ hik hio L f W hRel hDn hLi hed ⟨hFr,I1,I2,I3,I4⟩
   have hup:L e=false→L s=false:=fun h=>by
     cases hs:L s with
     |false=>rfl
     |true=>rw[G8 ax hDn (G8 as_ hDn hs)]at h;cases h
   have hsu:L s=false→L u=false:=fun h=>by
     cases hs:L u with
     |false=>rfl
     |true=>rw[G8 au hDn hs]at h;cases h
   have hxs:L x=false→L s=false:=fun h=>by
     cases hs:L s with
     |false=>rfl
     |true=>rw[G8 as_ hDn hs]at h;cases h
   have hex:L e=false→L x=false:=fun h=>by
     cases hs:L x with
     |false=>rfl
     |true=>rw[G8 ax hDn hs]at h;cases h
   by_cases e1:i=e
   · subst e1
     have hio':opsL[i]?=some o:=by simpa using hio
     rw[hoe]at hio';cases hio'
     intro a ha hsl
     rw[if_pos (by simp[Region.wanted])]
     obtain⟨q1,q2⟩:=hve _ hoe
     have hM:=I1 hLi
     obtain⟨v,W',hr,v0,st,rfl,hMid,hsto,hzz⟩:=REv.mapEntry (P:=P) (n:=n) (ds:=ds) (w:=W) (d:=some de) (ty:=ty1) (ps:=ps1) (af:=af1) (g:=none) hT hK hz (.tmp q1) (.tmp q2) hM a ha
     refine .inl (.inl ⟨_,W',hr,hsto.F1 oQ hM.Rj hM.Xu,fun _ _=>hpe _ _,hFr.trans (hsto.fr.mono fun _ h=>h),fun h=>?_,fun _ _=>⟨st,hMid,⟨v0,by simp[D0]⟩,fun h=>?_⟩,fun h=>?_,fun h=>?_⟩)
     · simp[Cq]at h
     · rw[Cq,if_neg (Ne.symm nex),hex hLi]at h;cases h
     · rw[Cq,if_neg (Ne.symm nes),hup hLi]at h;cases h
     rw[Cq,if_neg (Ne.symm neu),hsu (hup hLi)]at h;cases h
   by_cases e2:i=x
   · subst e2
     have hio':opsL[i]?=some o:=by simpa using hio
     rw[hox]at hio';cases hio'
     intro a ha hsl
     rw[if_pos (by simp[Region.wanted])]
     have hLe:L e=true:=Sb ax hio hed
     obtain⟨st,hMid,⟨v0,hv0⟩,_⟩:=I2 hLe (hxs hLi)
     have hag:Ag n ds [(de,.eq (.tuple #[v0,goInt st]))] a W:=⟨ha.defers,ha.size,fun t q ht=>by
       by_cases ee:t=de
       · subst ee;rw[A7]at ht;cases ht;exact(hsl _).trans hv0
       rw[A8 ee]at ht;cases ht⟩
     have hr:=PEv.extract (P:=P) (n:=n) (ds:=ds) (w:=W) (d:=some dx) (ty:=ty2) (ps:=ps2) (af:=af2) (g:=none) (i:=1) (v:=goInt st) (.tmp (A7 (ph:=.eq (.tuple #[v0,goInt st])))) rfl a W hag (Up.refl W)
     refine .inl (.inl ⟨_,W,hr,Cel.refl W,fun _ _=>hpx _ _,hFr,fun h=>?_,fun _ _=>⟨st,hMid,⟨v0,?_⟩,fun _=>by simp[D0]⟩,fun h=>?_,fun h=>?_⟩)
     · rw[Cq,if_neg nex,hLe]at h;cases h
     · have:dx≠de:=fun ee=>hde i _ hik (Ne.symm nex) hio (by rw[ee])
       simp[D0,this,hv0]
     · rw[Cq,if_neg (Ne.symm nxs),hxs hLi]at h;cases h
     rw[Cq,if_neg (Ne.symm nxu),hsu (hxs hLi)]at h;cases h
   by_cases e3:i=s
   · subst e3
     have hio':opsL[i]?=some o:=by simpa using hio
     rw[hos]at hio';cases hio'
     intro a ha hsl
     rw[if_pos (by simp[Region.wanted])]
     have hLx:L x=true:=Sb as_ hio hed
     have hLe:L e=true:=G8 ax hDn hLx
     obtain⟨st,hMid,_,hfx⟩:=I2 hLe hLi
     obtain⟨q1,q2⟩:=hvs _ hos
     have v1':∀(t:Nat)(v:Value),lk (Ju opsL.toArray (fun i=>phs.getD i (.eq undef)) 0 ⟨none,.entryStore T (.tmp m1) (.tmp dx) (.tmp c1),ty3,ps3,af3,none⟩++l) t=some (.eq v)→a.tmps.getD t undef=v:=fun t v h=>ha.val t _ h
     have hag2:∀(t:Nat)(v:Value),a.tmps.getD t undef=v→Ag n ds [(t,.eq v)] a W:=fun t v hv=>⟨ha.defers,ha.size,fun t' q ht=>by
       by_cases ee:t'=t
       · subst ee;rw[A7]at ht;cases ht;exact hv
       rw[A8 ee]at ht;cases ht⟩
     obtain⟨W',h3,hM',hsto,hzz⟩:∃w',(execOp a.eval ⟨none,.entryStore T (.tmp m1) (.tmp dx) (.tmp c1),ty3,ps3,af3,none⟩).run P W=.ok .skip w'∧IMap w' b (D8 kv k1 v1)∧Sto b W w'∧w'.heap.size=W.heap.size:=by
       obtain⟨es1,cc1,h1,h2⟩:=hMid
       obtain⟨w',h3,h4⟩:=h2 W v1 h1
       refine⟨w',Kt ?_,h4⟩
       rw[(hag2 m1 _ (v1' m1 _ q1)).ev (.tmp A7),(hag2 dx _ ((hsl dx).trans (hfx hLx))).ev (.tmp A7),(hag2 c1 _ (v1' c1 _ q2)).ev (.tmp A7)]
       exact h3
     refine .inr ⟨W',h3,hsto.F1 oQ hMid.Rj hMid.Xu,(fun d hd=>by cases hd),hFr.trans (hsto.fr.mono fun _ h=>h),fun h=>?_,fun _ h=>?_,fun _ _=>hM',fun h=>?_⟩
     · rw[Cq,if_neg nes,hLe]at h;cases h
     · simp[Cq]at h
     rw[Cq,if_neg (Ne.symm nsu),hsu hLi]at h;cases h
   by_cases e4:i=u
   · subst e4
     have hio':opsL[i]?=some o:=by simpa using hio
     rw[hou]at hio';cases hio'
     intro a ha hsl
     rw[if_pos (by simp[Region.wanted])]
     have hLs:L s=true:=Sb au hio hed
     have hLe:L e=true:=G8 ax hDn (G8 as_ hDn hLs)
     have hM:=I3 hLs hLi
     obtain⟨q1,q2,q3⟩:=hvu _ hou
     obtain⟨W',hr,hM',hsto,hzz⟩:=SEv.mapUpdate (P:=P) (n:=n) (ds:=ds) (w:=W) (ty:=ty4) (ps:=ps4) (af:=af4) (g:=none) hT hK (.tmp q1) (.tmp q2) (.tmp q3) hM a ha
     refine .inr ⟨W',hr,hsto.F1 oQ hM.Rj hM.Xu,(fun d hd=>by cases hd),hFr.trans (hsto.fr.mono fun _ h=>h),fun h=>?_,fun _ h=>?_,fun _ h=>?_,fun _=>hM'⟩
     · rw[Cq,if_neg neu,hLe]at h;cases h
     · rw[Cq,if_neg nsu,hLs]at h;cases h
     simp[Cq]at h
   have h0:=(hop W hRel).at (sub i o hik hio)
   rw[Nat.zero_add]at h0
   rcases h0 with h0|⟨hg,h0⟩
   · rcases h0 with h0|h0|h0|h0
     · exact absurd h0 e1
     · exact absurd h0 e2
     · exact absurd h0 e3
     exact absurd h0 e4
   have hrd:(i=r1∨i=r2)→IMap W b kv:=fun h=>I1 (by
     cases hLe:L e with
     |false=>rfl
     |true=>
       have h1:=G8 ae hDn hLe
       have h2:=G8 ar hDn h1
       rcases h with h|h
       · rw[h,h1]at hLi;cases hLi
       rw[h,h2]at hLi;cases hLi)
   intro a ha hsl
   rw[if_pos (by simp[Region.wanted,hg])]
   have done:∀v W',Up W W'∧(phs.getD i (.eq undef)).holds v W'→Cel W W'∧(∀d,o.dst=some d→(phs.getD i (.eq undef)).holds v W')∧oK P T b kv k1 k2 v1 v2 de dx e x s u w.drew (Cq L i) (D0 f o.dst v) W':=by
     rintro v W' ⟨hu,hv⟩
     have f1:D0 f o.dst v de=f de:=by simp[D0,hde i o hik e1 hio]
     have f2:D0 f o.dst v dx=f dx:=by simp[D0,hdx i o hik e2 hio]
     have le:Cq L i e=L e:=by simp[Cq,Ne.symm e1]
     have lx:Cq L i x=L x:=by simp[Cq,Ne.symm e2]
     have ls:Cq L i s=L s:=by simp[Cq,Ne.symm e3]
     have lu:Cq L i u=L u:=by simp[Cq,Ne.symm e4]
     unfold oK
     rw[le,lx,ls,lu,f1,f2]
     exact⟨hu.F1,fun _ _=>hv,hFr.trans (hu.fr _),fun h=>(I1 h).up hu,fun h h2=>let⟨st,h3,h4⟩:=I2 h h2;⟨st,h3.up hu,h4⟩,fun h h2=>(I3 h h2).up hu,fun h=>(I4 h).up hu⟩
   rcases h0 hrd a ha with⟨v,W',hr,hp⟩|⟨fn,args,w1,hr,hc⟩
   · exact .inl (.inl ⟨v,W',hr,done v W' hp⟩)
   exact .inl (.inr ⟨fn,args,w1,hr,hc.mono done⟩)
 · exact⟨Fr.refl _ _,fun _=>hM.up (Up.drew w),fun h=>by simp at h,fun h=>by simp at h,fun h=>by simp at h⟩
 intro f W hRel ⟨hFr,_,_,_,I4⟩ fuel' listed' a' hf' hu' ha' hsl'
 refine Et hTl hA (opsL.toArray.size-k) k fuel' listed' a' W rfl (by simp;omega) (Nat.le_refl _) hf' hu' (hend W hFr (I4 (decide_eq_true ku)) a' ⟨ha'.defers,ha'.size,fun t q ht=>ha'.val t q ?_⟩)
 rw[Fb]
 · exact ht
 cases hq:lk (Hj opsL.toArray (fun i=>phs.getD i (.eq undef)) 0 k) t with
 |none=>rfl
 |some q'=>
   obtain⟨j,p,_,hjk,hp,hpd,_⟩:=E6 hq
   exact absurd hpd (hbd t q ht j p (Nat.zero_le _) hjk hp)
end
end Go.Wx
namespace Go.Wx
theorem Ii{c n:Int}(hc:Q4 c)(hn:0<n):0≤Bi c n∧Bi c n<n:=by
 unfold Bi
 obtain⟨h1,h2⟩:=hc
 split
 · rw[Dy (i:=c+1) oQ oQ,Dy oQ oQ,Int.tmod_eq_emod_of_nonneg (by omega)];exact⟨Int.emod_nonneg _ oQ,Int.emod_lt_of_pos _ hn⟩
 rw[Int.tmod_eq_emod_of_nonneg (by omega)];exact⟨Int.emod_nonneg _ oQ,Int.emod_lt_of_pos _ hn⟩
theorem OwnS.els{α:Type}{enc:α→Array Go.Value}{b k n cp:Nat}{e:TypeId}{w:World}{ad:Option Addr}{xs:List α}(h:OwnS w b e k enc (.slice ad n cp) xs)(hk:∀x,(enc x).size=k):Els w ad k enc xs:=by
 obtain⟨ad',cp',e,hE⟩:=h.sl hk
 injection e with e1
 rw[e1];exact hE
theorem jX{f:Fact}(h:Cf f=true):f.Day≤100000:=by
 have:=Lz h
 simp only[preB,Bool.or_eq_false_iff,decide_eq_false_iff_not]at this
 omega
theorem zE(l:List Fact)(d:Int):Gg (l.filter fun f=>decide (f.Day≤d)) 100000=Gg l d:=by
 have key:∀(l:List Fact)(a:E9),(l.filter fun f=>decide (f.Day≤d)).foldl (C4 100000) a=l.foldl (C4 d) a:=by
   intro l
   induction l with
   |nil=>exact fun _=>rfl
   |cons x l ih=>
     intro a
     by_cases hx:x.Day≤d
     · rw[List.filter_cons,if_pos (decide_eq_true hx),List.foldl_cons,List.foldl_cons,ih]
       congr 1
       by_cases hk:Cm x=[]
       · rw[H5 (.inl hk),H5 (.inl hk)]
       have hv:=jX (Kb hk)
       unfold C4
       rw[if_neg (fun h=>h.elim hk oQ),if_neg (fun h=>h.elim hk oQ)]
     rw[List.filter_cons,if_neg (by rw[decide_eq_false hx];exact Bool.false_ne_true),ih,List.foldl_cons,H5 (.inr oQ)]
 exact key l []
theorem oL{f g:Fact}(hf:Cf f=true)(hg:Cf g=true)(h:Cm f=Cm g):f.Kind=g.Kind:=by
 have kf:=Ew hf
 have kg:=Ew hg
 unfold Cm T2 at h
 rw[if_pos hf,if_pos hg]at h
 exact(Rq (r:=Cp (Ej (Eu f.Kind) f)) (s:=Cp (Ej (Eu g.Kind) g)) (a:=f.Kind) (b:=g.Kind) ⟨by omega,by omega⟩ ⟨by omega,by omega⟩ h).1
theorem Wj:∀(a b:List UInt8),Go.Lib.compareBytes b a= - Go.Lib.compareBytes a b
 |[],[]=>rfl
 |[],_::_=>rfl
 |_::_,[]=>rfl
 |x::a,y::b=>by
   unfold Go.Lib.compareBytes
   by_cases h1:x<y
   · have h2:¬y<x:=by rw[UInt8.lt_iff_toNat_lt]at*;omega
     rw[if_pos h1,if_neg h2,if_pos h1];rfl
   by_cases h2:y<x
   · rw[if_pos h2,if_neg h1,if_pos h2]
   rw[if_neg h2,if_neg h1,if_neg h1,if_neg h2];exact Wj a b
theorem gD:∀{a b:List UInt8},Go.Lib.compareBytes a b=0→a=b
 |[],[],_=>rfl
 |[],_::_,h=>by simp[Go.Lib.compareBytes]at h
 |_::_,[],h=>by simp[Go.Lib.compareBytes]at h
 |x::a,y::b,h=>by
   unfold Go.Lib.compareBytes at h
   by_cases h1:x<y
   · rw[if_pos h1]at h;cases h
   by_cases h2:y<x
   · rw[if_neg h1,if_pos h2]at h;cases h
   rw[if_neg h1,if_neg h2]at h
   rw[gD h,show x=y from UInt8.toNat_inj.1 (by rw[UInt8.lt_iff_toNat_lt]at h1 h2;omega)]
theorem tR(a:List UInt8):Go.Lib.compareBytes a a=0:=by have:=Wj a a;omega
theorem Y3:∀{a b c:List UInt8},0<Go.Lib.compareBytes a b→0<Go.Lib.compareBytes b c→0<Go.Lib.compareBytes a c
 |[],[],_,h,_=>by simp[Go.Lib.compareBytes]at h
 |[],_::_,_,h,_=>by simp[Go.Lib.compareBytes]at h
 |_::_,[],[],_,h=>by simp[Go.Lib.compareBytes]at h
 |_::_,[],_::_,_,h=>by simp[Go.Lib.compareBytes]at h
 |_::_,_::_,[],_,_=>by simp[Go.Lib.compareBytes]
 |x::a,y::b,z::c,h,k=>by
   unfold Go.Lib.compareBytes at h k⊢
   by_cases h1:x<y
   · rw[if_pos h1]at h;omega
   by_cases k1:y<z
   · rw[if_pos k1]at k;omega
   rw[if_neg h1]at h
   rw[if_neg k1]at k
   have e1:¬x<z:=by rw[UInt8.lt_iff_toNat_lt]at*;omega
   rw[if_neg e1]
   by_cases h2:y<x
   · rw[if_pos (show z<x by rw[UInt8.lt_iff_toNat_lt]at*;omega)];decide
   by_cases k2:z<y
   · rw[if_pos (show z<x by rw[UInt8.lt_iff_toNat_lt]at*;omega)];decide
   rw[if_neg h2]at h
   rw[if_neg k2]at k
   rw[if_neg (show ¬z<x by rw[UInt8.lt_iff_toNat_lt]at*;omega)]
   exact Y3 h k
theorem Ij{a b:Fact}:E0 a b=true↔Cf a=true∧Cf b=true∧Cm a=Cm b∧(b.Version<a.Version∨(a.Version=b.Version∧0<Go.Lib.compareBytes (Hv a) (Hv b))):=by
 unfold E0
 simp only[Bool.and_eq_true,Bool.or_eq_true,decide_eq_true_eq,beq_iff_eq,and_assoc]
theorem Y4(a:Fact):E0 a a=false:=by
 rw[Bool.eq_false_iff]
 intro h
 have:=(Ij.1 h).2.2.2
 rw[tR]at this
 omega
theorem cF{a b c:Fact}(h:E0 a b=true)(k:E0 b c=true):E0 a c=true:=by
 obtain⟨h1,h2,h3,h4⟩:=Ij.1 h
 obtain⟨k1,k2,k3,k4⟩:=Ij.1 k
 refine Ij.2 ⟨h1,k2,h3.trans k3,?_⟩
 rcases h4 with h4|⟨h4,h5⟩<;>rcases k4 with k4|⟨k4,k5⟩
 · exact .inl oQ
 · exact .inl oQ
 · exact .inl oQ
 exact .inr ⟨by omega,Y3 h5 k5⟩
theorem Wk{f:Fact}{o o':Nat}{n:Int}(h:Ez o=true)(h':Ez o'=true):Gk (iT f o n) o'=if o=o' then n else Gk f o':=by
 rcases D4 h with rfl|rfl|rfl|rfl|rfl|rfl|rfl|rfl|rfl|rfl|rfl|rfl|rfl|rfl<;>rcases D4 h' with rfl|rfl|rfl|rfl|rfl|rfl|rfl|rfl|rfl|rfl|rfl|rfl|rfl|rfl<;>rfl
theorem oM{f:Fact}{o:Nat}{n:Int}(h:Ez o=true):(iT f o n).Text=f.Text:=by
 rcases D4 h with rfl|rfl|rfl|rfl|rfl|rfl|rfl|rfl|rfl|rfl|rfl|rfl|rfl|rfl<;>rfl
theorem Y5:∀{fs:List Fld}{f g:Fact},(∀x∈fs,Ez x.off=true∧Oy x.lo∧Oy x.hi)→Is fs f=some g→(∀o,Ez o=true→Gk g o≠0→Gk f o=Gk g o)∧(∀o,Ez o=true→(∀x∈fs,x.off≠o)→Gk f o=Gk g o)∧g.Text=f.Text∧∀x∈fs,Oy (Gk f x.off)
 |[],f,g,_,h=>by cases h;exact⟨fun _ _ _=>rfl,fun _ _ _=>rfl,rfl,fun x hx=>by cases hx⟩
 |x::fs,f,g,hf,h=>by
   unfold Is at h
   split at h
   · cases h
   rename_i hx
   have ok:=hf x List.mem_cons_self
   obtain⟨h1,h2,h3,h4⟩:=Y5 (fun y hy=>hf y (List.mem_cons_of_mem _ hy)) h
   refine⟨fun o ho hne=>?_,fun o ho hn=>?_,h3.trans (oM ok.1),fun y hy=>?_⟩
   · have:=h1 o ho hne
     rw[Wk ok.1 ho]at this
     by_cases e:x.off=o
     · rw[if_pos e]at this;exact absurd this.symm hne
     rwa [if_neg e]at this
   · have:=h2 o ho (fun y hy=>hn y (List.mem_cons_of_mem _ hy))
     rwa [Wk ok.1 ho,if_neg (hn x List.mem_cons_self)]at this
   have hb:Oy (Gk f x.off):=by
     have:=ok.2.1.1
     have:=ok.2.2.2
     exact⟨by omega,by omega⟩
   rcases List.mem_cons.1 hy with rfl|hy
   · exact hb
   have:=h4 y hy
   rw[Wk ok.1 (hf y (List.mem_cons_of_mem _ hy)).1]at this
   by_cases e:x.off=y.off
   · rw[←e];exact hb
   rwa [if_neg e]at this
theorem cG(k:Int):∀x∈fieldsOf k,Ez x.off=true∧Oy x.lo∧Oy x.hi:=by
 intro x hx
 have h:∀l∈Mv,∀y∈l,(Ez y.off&&decide (-4611686018427387903≤y.lo)&&decide (y.lo≤4611686018427387903)&&decide (-4611686018427387903≤y.hi)&&decide (y.hi≤4611686018427387903))=true:=by decide
 unfold fieldsOf at hx
 rw[List.getD_eq_getElem?_getD]at hx
 cases hl:Mv[k.toNat]? with
 |none=>rw[hl]at hx;simp at hx
 |some l=>
   rw[hl]at hx
   have:=h l (List.mem_of_getElem? hl) x (by simpa using hx)
   simp only[Bool.and_eq_true,decide_eq_true_eq]at this
   exact⟨this.1.1.1.1,⟨this.1.1.1.2,this.1.1.2⟩,⟨this.1.2,this.2⟩⟩
theorem tS{f g:Fact}(h:H8 f g=true):(∀o,Ez o=true→Gk f o=Gk g o)∧f.Text.toList=g.Text.toList:=by
 simp only[H8,Bool.and_eq_true,beq_iff_eq]at h
 obtain⟨_,h1,_,_,_,h5,h6,h7,h8,h9,h10,h11,h12,h13,h14,h15,h16,h17,h18⟩:=h
 refine⟨fun o ho=>?_,h18⟩
 rcases D4 ho with rfl|rfl|rfl|rfl|rfl|rfl|rfl|rfl|rfl|rfl|rfl|rfl|rfl|rfl
 · exact h1
 · exact h5
 · exact h6
 · exact h7
 · exact h8
 · exact h9
 · exact h10
 · exact h11
 · exact h12
 · exact h13
 · exact h14
 · exact h15
 · exact h16
 exact h17
theorem jY(k v d:Int)(g:Bool){o:Nat}(h:Ez o=true):Gk (Xy k v d g) o=0:=by
 rcases D4 h with rfl|rfl|rfl|rfl|rfl|rfl|rfl|rfl|rfl|rfl|rfl|rfl|rfl|rfl<;>rfl
theorem oN(g:Fact)(t:ByteArray){o:Nat}(h:Ez o=true):Gk { g with Text:=t } o=Gk g o:=by
 rcases D4 h with rfl|rfl|rfl|rfl|rfl|rfl|rfl|rfl|rfl|rfl|rfl|rfl|rfl|rfl<;>rfl
theorem Px{f:Fact}(h:Cf f=true):(∀o,Ez o=true→(∀x∈fieldsOf f.Kind,x.off≠o)→Gk f o=0)∧(∀x∈fieldsOf f.Kind,Oy (Gk f x.off))∧(Gd f.Kind=false→f.Text.toList=[]):=by
 unfold Cf at h
 rw[Bool.and_eq_true,Bool.and_eq_true]at h
 have h3:=h.2.2
 cases hr:Is (fieldsOf f.Kind) f with
 |none=>rw[hr]at h3;cases h3
 |some g=>
   rw[hr]at h3
   obtain⟨r1,r2,r3,r4⟩:=Y5 (cG f.Kind) hr
   obtain⟨e1,e2⟩:=tS h3
   have z:∀o,Ez o=true→Gk g o=0:=fun o ho=>by
     have:=e1 o ho
     rw[jY _ _ _ _ ho]at this
     split at this
     · rwa [oN _ _ ho]at this
     exact this
   refine⟨fun o ho hn=>(r2 o ho hn).trans (z o ho),r4,fun ht=>?_⟩
   rw[ht]at e2
   rw[←r3]
   rw[if_neg Bool.false_ne_true]at e2
   rw[e2,ByteArray.toList_eq];rfl
theorem oO{a b:ByteArray}(h:a.toList=b.toList):a=b:=by
 rw[ByteArray.toList_eq,ByteArray.toList_eq]at h
 cases a;cases b
 exact congrArg ByteArray.mk (Array.toList_inj.1 h)
theorem oP{a b:Fact}(hk:a.Kind=b.Kind)(hv:a.Version=b.Version)(hd:a.Day=b.Day)(hg:a.Gone=b.Gone)(ht:a.Text=b.Text)(h:∀o,Ez o=true→Gk a o=Gk b o):a=b:=by
 have h1:=h 1 rfl
 have h5:=h 5 rfl
 have h6:=h 6 rfl
 have h7:=h 7 rfl
 have h8:=h 8 rfl
 have h9:=h 9 rfl
 have h10:=h 10 rfl
 have h11:=h 11 rfl
 have h12:=h 12 rfl
 have h13:=h 13 rfl
 have h14:=h 14 rfl
 have h15:=h 15 rfl
 have h16:=h 16 rfl
 have h17:=h 17 rfl
 cases a;cases b
 rw[Fact.mk.injEq]
 exact⟨hk,h1,hv,hd,hg,h5,h6,h7,h8,h9,h10,h11,h12,h13,h14,h15,h16,h17,ht⟩
theorem oR{a b:Fact}(ha:Cf a=true)(hb:Cf b=true)(hk:a.Kind=b.Kind)(h:Hv a=Hv b):a=b:=by
 obtain⟨a1,a2,a3⟩:=Px ha
 obtain⟨b1,b2,b3⟩:=Px hb
 have pa:=Lz ha
 have pb:=Lz hb
 have ka:=Ew ha
 have kb:=Ew hb
 simp only[preB,Bool.or_eq_false_iff,decide_eq_false_iff_not]at pa pb
 have win:∀(f:Fact),(1≤f.Kind∧f.Kind≤11)→(¬f.Version<1∧¬1000000<f.Version∧¬f.Day<0∧¬100000<f.Day)→(∀x∈fieldsOf f.Kind,Oy (Gk f x.off))→∀x∈O0 f,Oy x:=fun f k p q x hx=>by
   unfold O0 at hx
   rcases List.mem_append.1 hx with hx|hx
   · simp only[List.mem_cons,List.not_mem_nil,or_false]at hx
     rcases hx with rfl|rfl|rfl|rfl
     · exact⟨by omega,by omega⟩
     · exact⟨by omega,by omega⟩
     · exact⟨by omega,by omega⟩
     unfold Jl;split<;>exact⟨by omega,by omega⟩
   obtain⟨y,hy,rfl⟩:=List.mem_map.1 hx
   exact q y hy
 unfold Hv at h
 obtain⟨e1,e2⟩:=Ut (win a ka ⟨pa.1.1.1.1,pa.1.1.1.2,pa.1.1.2,pa.1.2⟩ a2) (win b kb ⟨pb.1.1.1.1,pb.1.1.1.2,pb.1.1.2,pb.1.2⟩ b2) (by unfold O0;simp[Ej,hk]) h
 unfold O0 at e1
 simp only[List.cons_append,List.nil_append,List.cons.injEq]at e1
 obtain⟨_,e3,e4,e5,e6⟩:=e1
 refine oP hk e3 e4 ?_ ?_ fun o ho=>?_
 · revert e5
   unfold Jl
   cases a.Gone<;>cases b.Gone<;>simp
 · by_cases ht:Gd a.Kind=true
   · rw[if_pos ht,if_pos (by rw[←hk];exact ht)]at e2
     unfold bJ at e2
     have:=(Rq (fN (by simp;omega)) (fN (by simp;omega)) e2).2
     cases ea:a.Text;cases eb:b.Text
     rw[ea,eb]at this
     exact congrArg ByteArray.mk (Array.toList_inj.1 this)
   have ht:=Bool.eq_false_iff.2 ht
   exact oO ((a3 ht).trans (b3 (hk▸ht)).symm)
 by_cases hx:∃x∈fieldsOf a.Kind,x.off=o
 · obtain⟨x,hx,rfl⟩:=hx
   unfold Ej at e6
   rw[←hk]at e6
   exact List.map_inj_left.1 e6 x hx
 have hn:∀x∈fieldsOf a.Kind,x.off≠o:=fun x h1 h2=>hx ⟨x,h1,h2⟩
 rw[a1 o ho hn,b1 o ho (hk▸hn)]
theorem Sc{a b:Fact}(ha:Cf a=true)(hb:Cf b=true)(hk:Cm a=Cm b)(h1:E0 a b=false)(h2:E0 b a=false):a=b:=by
 rw[Bool.eq_false_iff]at h1 h2
 have c1:¬(b.Version<a.Version∨(a.Version=b.Version∧0<Go.Lib.compareBytes (Hv a) (Hv b))):=fun c=>h1 (Ij.2 ⟨ha,hb,hk,c⟩)
 have c2:¬(a.Version<b.Version∨(b.Version=a.Version∧0<Go.Lib.compareBytes (Hv b) (Hv a))):=fun c=>h2 (Ij.2 ⟨hb,ha,hk.symm,c⟩)
 rw[Wj (Hv a) (Hv b)]at c2
 exact oR ha hb (oL ha hb hk) (gD oQ)
def AT(l:List Fact)(d:Int)(f:Fact):Prop:=f∈l∧Cm f≠[]∧f.Day≤d∧∀g∈l,g.Day≤d→E0 g f=false
structure EInv(l:List Fact)(d:Int)(m:E9):Prop where
 ok:MOk m
 top:∀p∈m,AT l d p.2
 all:∀f∈l,Cm f≠[]→f.Day≤d→Cm f∈m.map (·.1)
theorem L6{a b:Fact}(h:E0 a b=true):Cm a=Cm b:=(Ij.1 h).2.2.1
theorem oS{m:E9}{c:List UInt8}{x:Fact}{p:List UInt8×Fact}(h:p∈Lc m c x):p=(c,x)∨(p∈m∧p.1≠c):=by
 unfold Lc at h
 split at h
 · obtain⟨q,hq,e⟩:=List.mem_map.1 h
   split at e
   · exact .inl e.symm
   rename_i hc;subst e;exact .inr ⟨hq,hc⟩
 rename_i hn
 rcases List.mem_append.1 h with h|h
 · exact .inr ⟨h,fun e=>hn (List.mem_map.2 ⟨p,h,e⟩)⟩
 exact .inl (List.mem_singleton.1 h)
theorem oT{m:E9}{c:List UInt8}{x:Fact}{k:List UInt8}(h:k∈m.map (·.1)∨k=c):k∈(Lc m c x).map (·.1):=by
 rw[U5]
 split
 · rename_i hc;rcases h with h|rfl
   · exact h
   exact hc
 rcases h with h|rfl
 · exact List.mem_append_left _ h
 simp
theorem Sd{l:List Fact}{d:Int}{x f:Fact}(h:AT l d f)(hx:x.Day≤d→E0 x f=false):AT (l++[x]) d f:=by
 refine⟨List.mem_append_left _ h.1,h.2.1,h.2.2.1,fun g hg hd=>?_⟩
 rcases List.mem_append.1 hg with hg|hg
 · exact h.2.2.2 g hg hd
 cases List.mem_singleton.1 hg;exact hx hd
theorem EInv.step{l:List Fact}{d:Int}{m:E9}(h:EInv l d m)(x:Fact):EInv (l++[x]) d (C4 d m x):=by
 by_cases hc:Cm x=[]∨d<x.Day
 · rw[H5 hc]
   refine⟨h.ok,fun p hp=>Sd (h.top p hp) fun hd=>?_,fun f hf hk hd=>?_⟩
   · rw[Bool.eq_false_iff]
     intro e
     rcases hc with hc|hc
     · exact(h.top p hp).2.1 ((L6 e).symm.trans hc)
     omega
   rcases List.mem_append.1 hf with hf|hf
   · exact h.all f hf hk hd
   cases List.mem_singleton.1 hf
   rcases hc with hc|hc
   · exact absurd hc hk
   omega
 have hk:Cm x≠[]:=fun e=>hc (.inl e)
 have hd:x.Day≤d:=by
   by_cases hd:x.Day≤d
   · exact hd
   exact absurd (.inr oQ) hc
 have others:∀p∈m,p.1≠Cm x→AT (l++[x]) d p.2:=fun p hp hne=>Sd (h.top p hp) fun _=>by
   rw[Bool.eq_false_iff]
   intro e
   exact hne ((h.ok p hp).1.trans (L6 e).symm)
 have put:(∀g∈l,g.Day≤d→E0 g x=false)→EInv (l++[x]) d (Lc m (Cm x) x):=fun hx=>by
   refine⟨h.ok.set (Kb hk),fun p hp=>?_,fun f hf hkf hdf=>?_⟩
   · rcases oS hp with rfl|⟨h1,h2⟩
     · refine⟨by simp,hk,hd,fun g hg hdg=>?_⟩
       rcases List.mem_append.1 hg with hg|hg
       · exact hx g hg hdg
       cases List.mem_singleton.1 hg;exact Y4 x
     exact others p h1 h2
   refine oT ?_
   rcases List.mem_append.1 hf with hf|hf
   · exact .inl (h.all f hf hkf hdf)
   cases List.mem_singleton.1 hf;exact .inr rfl
 cases hg:R4 m (Cm x)with
 |none=>
   rw[Yr hc hg]
   refine put fun g hgl hgd=>?_
   rw[Bool.eq_false_iff]
   intro e
   have e1:=L6 e
   have:=h.all g hgl (by rw[e1];exact hk) hgd
   rw[e1]at this
   have hno:=U4 hg
   rw[L5]at hno
   exact hno this
 |some old=>
   have hmem:∃p∈m,p.1=Cm x∧p.2=old:=by
     unfold R4 at hg
     rw[Option.map_eq_some_iff]at hg
     obtain⟨p,hp,e⟩:=hg
     have h2:(p.1==Cm x)=true:=List.find?_some (p:=fun p:List UInt8×Fact=>p.1==Cm x) hp
     exact⟨p,List.mem_of_find?_eq_some hp,eq_of_beq h2,e⟩
   obtain⟨p,hp,hpk,rfl⟩:=hmem
   cases hq:E0 x p.2 with
   |true=>
     rw[Ys hc hg hq]
     refine put fun g hgl hgd=>?_
     rw[Bool.eq_false_iff]
     intro e
     have:=(h.top p hp).2.2.2 g hgl hgd
     rw[cF e hq]at this
     cases this
   |false=>
     rw[Yt hc hg hq]
     refine⟨h.ok,fun q hq'=>?_,fun f hf hkf hdf=>?_⟩
     · refine Sd (h.top q hq') fun _=>?_
       rw[Bool.eq_false_iff]
       intro e
       have e1:=L6 e
       have e2:=(h.ok q hq').1
       have e3:q.1=p.1:=by rw[e2,←e1,hpk]
       have n:=Na
       by_cases hqp:q.2=p.2
       · rw[hqp,hq]at e;cases e
       exact absurd (Sc (h.ok q hq').2 (h.ok p hp).2 (by rw[←e2,←(h.ok p hp).1,e3]) ((h.top p hp).2.2.2 _ (h.top q hq').1 (h.top q hq').2.2.1) ((h.top q hq').2.2.2 _ (h.top p hp).1 (h.top p hp).2.2.1)) hqp
     rcases List.mem_append.1 hf with hf|hf
     · exact h.all f hf hkf hdf
     cases List.mem_singleton.1 hf
     exact List.mem_map.2 ⟨p,hp,hpk⟩
theorem Y6(l:List Fact)(d:Int):EInv l d (Gg l d):=by
 have key:∀(r l:List Fact)(m:E9),EInv l d m→EInv (l++r) d (r.foldl (C4 d) m):=by
   intro r
   induction r with
   |nil=>intro l m h;rw[List.append_nil];exact h
   |cons x r ih=>intro l m h;have:=ih (l++[x]) _ (h.step x);rwa [List.append_assoc]at this
 exact key l [] [] ⟨fun p hp=>(by cases hp),fun p hp=>(by cases hp),fun f hf=>(by cases hf)⟩
theorem oU{l:List Fact}{d:Int}{f:Fact}:f∈Hl (Gg l d)↔AT l d f:=by
 have h:=Y6 l d
 rw[Ig h.ok]
 constructor
 · exact fun hf=>h.top _ hf
 intro hf
 obtain⟨p,hp,e⟩:=List.mem_map.1 (h.all f hf.1 hf.2.1 hf.2.2.1)
 have e:p.1=Cm f:=e
 have hpe:=h.top p hp
 have:p.2=f:=Sc (h.ok p hp).2 (Kb hf.2.1) ((h.ok p hp).1.symm.trans e) (hf.2.2.2 _ hpe.1 hpe.2.2.1) (hpe.2.2.2 _ hf.1 hf.2.2.1)
 rw[←e,←this];exact hp
theorem Wl(l:List Fact)(d:Int):(Hl (Gg l d)).Nodup:=H0 (f:=Cm) (by rw[Pv (Y6 l d).ok];exact Na l d)
def tT(m:List (Int×Int))(k:Int):Option Int:=(m.find? fun p=>decide (p.1=k)).map (·.2)
def gE(m:List (Int×Int)):List (Int×Go.Value):=m.map fun p=>(p.1,vi p.2)
def tU(m:List (Int×Int))(k v:Int):List (Int×Int):=if k∈m.map (·.1)then m.map (fun p=>if p.1=k then(k,v)else p)else m++[(k,v)]
def T5(m:List (Int×Int))(k:Int):Int:=(tT m k).getD k
def oV(m:List (Int×Int))(f:Fact):List (Int×Int):=tU (tU m f.Wafer (T5 m f.Other)) f.Other (T5 m f.Wafer)
def Qa(t:Int)(f:Fact):Bool:=Ei f.Wafer&&Ei f.Other&&decide (f.Time≤t)
def gF(l:List Fact)(t:Int):List (Int×Int):=(P9 (Qa t) l).foldl oV []
def Me(l:List Fact)(t mark:Int):Int:=if Ei mark=true then T5 (gF l t) mark else 0
theorem oW(p:Fact→Bool)(l:List Fact):(P9 p l).length≤l.length:=by
 unfold P9
 rw[(Ge _).same.length]
 exact List.length_filter_le _ _
theorem Y7(m:List (Int×Int)):(gE m).map (·.1)=m.map (·.1):=by unfold gE;rw[List.map_map];rfl
theorem Y8(m:List (Int×Int))(k v:Int):D8 (gE m) k (vi v)=gE (tU m k v):=by
 unfold D8 tU
 rw[Y7]
 split
 · unfold gE
   rw[List.map_map,List.map_map]
   refine List.map_congr_left fun p _=>?_
   simp only[Function.comp]
   split<;>rfl
 unfold gE
 rw[List.map_append];rfl
theorem oX{m:List (Int×Int)}{k v:Int}(h:tT m k=some v):(k,v)∈m:=by
 unfold tT at h
 cases hf:m.find? (fun p=>decide (p.1=k))with
 |none=>rw[hf]at h;cases h
 |some p=>
   rw[hf]at h
   have h1:p.1=k:=by simpa using List.find?_some hf
   have h2:=List.mem_of_find?_eq_some hf
   simp at h
   rw[←h,←h1]
   exact h2
theorem oY{m:List (Int×Int)}{k:Int}(h:tT m k=none):k∉m.map (·.1):=by
 unfold tT at h
 rw[Option.map_eq_none_iff,List.find?_eq_none]at h
 intro hm
 obtain⟨p,hp,e⟩:=List.mem_map.1 hm
 exact h p hp (decide_eq_true e)
theorem PEv.tW{P:Program}{n:Nat}{ds:List Deferred}{l:Env}{w:World}{d:Option Tmp}{ty:TypeId}{ps:String}{af:Array Edge}{g:Option (Nat×Bool)}{T K E:TypeId}{mo x:Operand}{b:Nat}{k:Int}{m:List (Int×Int)}(hT:P.underlying T=some (.map K E))(hK:P.underlying K=some (.int .i64))(hz:∀w,(zeroValue E).run P w=.ok (vi 0) w)(hm:Val l mo (.map (some b)))(hx:Val l x (vi k))(h:IMap w b (gE m)):
   PEv P n ds l w ⟨d,.lookup T mo x true,ty,ps,af,g⟩ (.tuple #[vi ((tT m k).getD 0),.bool (tT m k).isSome]):=by
 cases hl:tT m k with
 |none=>exact PEv.Gt (ok:=true) hT hK hz hm hx h (by rw[Y7];exact oY hl)
 |some v=>exact PEv.Cx (ok:=true) (v:=vi v) hT hK hm hx h (List.mem_map.2 ⟨(k,v),oX hl,rfl⟩)
theorem tX{b:Nat}{kv kv':List (Int×Go.Value)}{w w':World}(h:IMap w' b kv')(k:Fr (· =b) w w'):Stp (Bu b kv) (Bu b kv') w w':=⟨k,h,fun _ h=>.inl h⟩
def Le(wafer time:Int)(best:Option Fact)(f:Fact):Bool:=Ei wafer&&decide (f.Wafer=wafer)&&decide (f.Time≤time)&&(match best with|none=>true|some g=>decide (g.Time<f.Time))
def gG(wafer time:Int)(best:Option Fact)(f:Fact):Option Fact:=if Le wafer time best f=true then some f else best
def G9(l:List Fact)(wafer time:Int):Option Fact:=l.foldl (gG wafer time) none
def Gz(l:List Fact)(wafer time:Int):Int×Int:=match G9 l wafer time with|none=>(0,0)|some f=>(f.Lot,f.Product)
theorem H2(l:List Fact)(f:Fact)(wafer time:Int):G9 (l++[f]) wafer time=gG wafer time (G9 l wafer time) f:=by simp[G9]
def N5(ad:Option Addr)(k:Nat):Option Nat→Option Addr
 |none=>none
 |some j=>ad.map fun a=>⟨a.block,a.off+j*k,none⟩
structure I6 where
 a:Int
 b:Int
 c:Int
 d:Int
 e:Int
 f:Int
def I6.cells(x:I6):Array Value:=#[vi x.a,vi x.b,vi x.c,vi x.d,vi x.e,vi x.f]
def FE(x:I6):Prop:=Q4 x.a∧Q4 x.b∧Q4 x.c∧Q4 x.d∧Q4 x.e∧Q4 x.f
theorem I6.one(x:I6):x.cells.all (·.oneCell')=true:=by simp[I6.cells,Value.oneCell']
def wI(n:Int):Int:=IntKind.i64.wrap n
def Dc(y:I6):Fact:={ Pw with Version:=wI (1+Bi (wI (y.a.tdiv 4)) 3),Day:=Bi y.b 10,Gone:=decide (Bi (wI (y.b.tdiv 10)) 6=0),ID:=wI (1+Bi y.c 12),Wafer:=wI (1+Bi y.d 6),Time:=Bi y.e 50 }
def Ik(y:I6):Fact:=if Bi y.a 4=0∨Bi y.a 4=1 then{ Dc y with Kind:=1,Tool:=Bi y.f 3,Step:=Bi (wI (y.f.tdiv 3)) 4,Recipe:=1,Revision:=1,Until:=wI ((Dc y).Time+5) }else if Bi y.a 4=2 then{ Dc y with Kind:=3,Other:=wI (1+(wI ((Dc y).Wafer+Bi y.f 5)).tmod 6) }else{ Dc y with Kind:=4,ID:=0,Lot:=wI (1+Bi y.f 3),Product:=wI (1+Bi (wI (y.f.tdiv 3)) 2) }
def Jr(xs:List I6):List Fact:=(xs.take 30).map Ik
theorem L8{y:I6}(h:Bi y.a 4=0∨Bi y.a 4=1):Ik y={ Dc y with Kind:=1,Tool:=Bi y.f 3,Step:=Bi (wI (y.f.tdiv 3)) 4,Recipe:=1,Revision:=1,Until:=wI ((Dc y).Time+5) }:=if_pos h
theorem L9{y:I6}(h:Bi y.a 4=2):Ik y={ Dc y with Kind:=3,Other:=wI (1+(wI ((Dc y).Wafer+Bi y.f 5)).tmod 6) }:=by unfold Ik;rw[if_neg oQ,if_pos h]
theorem Ma{y:I6}(h0:¬Bi y.a 4=0)(h1:¬Bi y.a 4=1)(h2:¬Bi y.a 4=2):Ik y={ Dc y with Kind:=4,ID:=0,Lot:=wI (1+Bi y.f 3),Product:=wI (1+Bi (wI (y.f.tdiv 3)) 2) }:=by unfold Ik;rw[if_neg oQ,if_neg h2]
theorem Gh(xs:List I6):(Jr xs).length≤30:=by unfold Jr;rw[List.length_map,List.length_take];omega
theorem G2{xs:List I6}{k:Nat}{y:I6}(hy:xs[k]?=some y)(hk:k<30):Jr (xs.take (k+1))=Jr (xs.take k)++[Ik y]:=by
 have hl:=(List.getElem?_eq_some_iff.1 hy).1
 unfold Jr
 rw[List.take_take,List.take_take,Nat.min_eq_right oQ,Nat.min_eq_right oQ,Ce hy,List.map_append];rfl
theorem jZ{xs:List I6}{k:Nat}(h:¬(k<xs.length∧k<30)):Jr (xs.take k)=Jr xs:=by
 unfold Jr
 rw[List.take_take]
 congr 1
 by_cases h1:k<30
 · rw[Nat.min_eq_right oQ,List.take_of_length_le oQ,List.take_of_length_le (by omega)]
 rw[Nat.min_eq_left (by omega)]
end Go.Wx
namespace Go.Proofs.YtdilcdgjklimoaaGreatDoor
open Go.Proofs.Tryz
open Go.Wx Go.RowKit
theorem Js(n:Int)(w:World):Ret prog 43 #[vi n] w fun r w'=>r=.bool (Ei n)∧Up w w':=by
 have hW:=Up.refl w
 refine cT 9 func43 rfl (Af (Az (Am (Aa (I rfl (U (.geq (.t rfl) (.const _)) (I rfl (Ey rfl rfl (LW.gr rfl (fun hc=>PEv.leq vQ (.const _)) (U (.pa rfl (fun hp=>(by exact .cond rfl (by simp_all)))) (LW.A rfl (Ai (Al (KW.q ?_))))))))))))))
 exact⟨rfl,hW⟩
theorem Wm(b:Nat)(m:List (Int×Int))(mark:Int)(w:World)(hM:IMap w b (gE m)):Ret prog 90 #[.map (some b),vi mark] w fun r w'=>r=vi (T5 m mark)∧Up w w':=by
 have hW:=Up.refl w
 refine cT 16 func90 rfl (Af (Az (Am (Af (I rfl (I rfl (U (.tW underlying177 underlying3 zeroValue3 (.t rfl) (.t rfl) hM) (I rfl (U (.xt rfl rfl) (U (.xt rfl rfl) (LW.A rfl (LW.A rfl (Am (Aa (I rfl (Ai (CW.b rfl (fun h13=>?_) (fun h13=>?_))))))))))))))))))
 ·obtain⟨v,hv⟩:=Option.isSome_iff_exists.1 h13
  refine Af (I rfl (LW.A rfl (Ai (Al (Ap (KW.q ?_))))))
  exact⟨by unfold T5;rw[hv];rfl,hW⟩
 have hv:tT m mark=none:=by simpa using h13
 refine Aj (Ac (Af (I rfl (LW.A rfl (Ai (Al (KW.q ?_)))))))
 exact⟨by unfold T5;rw[hv];rfl,hW⟩
theorem cH(f:Fact)(Bm b:Nat)(m:List (Int×Int))(w:World)(hB:Blk w Bm #[.map (some b)] 177)(hM:IMap w b (gE m)):Ret prog 165 #[.agg f.cells,.pointer (some ⟨Bm,0,none⟩)] w fun r w'=>r=.tuple #[]∧Stp (Bu b (gE m)) (Bu b (gE (oV m f))) w w':=by
 have hW:=Up.refl w
 refine cT 19 func165 rfl (Af (Ao (.bA rfl) rfl ?_))
 rintro _ w1 ⟨B2,rfl,NB2⟩
 replace hB:=hB.up NB2.up
 replace hM:=hM.up NB2.up
 replace hW:=hW.up NB2.up
 have hB2:=NB2.blk
 refine Ai (cE 18 b 14 15 16 17 13 9 17 18 3 5 12 6 8 16 [.eq (.map (some b)),.eq (.pointer (some ⟨B2,7,none⟩)),.eq (vi (f.Wafer)),.eq (.map (some b)),.eq (.pointer (some ⟨B2,8,none⟩)),.eq (vi (f.Other)),.eq (.map (some b)),.eq (.pointer (some ⟨B2,8,none⟩)),.eq (vi (f.Other)),.eq (vi (T5 m f.Other)),.eq (.map (some b)),.eq (.pointer (some ⟨B2,7,none⟩)),.eq (vi (f.Wafer)),.eq (vi (T5 m f.Wafer)),.pred fun _ _=>True,.pred fun _ _=>True,.eq undef,.eq undef] (k1:=f.Wafer) (k2:=f.Other) (v1:=vi (T5 m f.Other)) (v2:=vi (T5 m f.Wafer)) underlying177 underlying3 zeroValue3 kQ rfl kQ kQ kQ kQ kQ kQ kQ kQ kQ ⟨_,_,_,rfl⟩ ⟨_,_,_,rfl⟩ ⟨_,_,_,rfl⟩ ⟨_,_,_,rfl⟩ ⟨PhC.eq _,PhC.eq _,PhC.eq _,PhC.eq _,PhC.eq _,PhC.eq _,PhC.eq _,PhC.eq _,PhC.eq _,PhC.eq _,PhC.eq _,PhC.eq _,PhC.eq _,PhC.eq _,PhC.pred (fun _ _ _ _ _=>trivial),PhC.pred (fun _ _ _ _ _=>trivial),PhC.eq _,PhC.eq _,trivial⟩ (fun _ _=>trivial) (fun _ _=>trivial) (fun _ h=>by cases h;exact⟨rfl,rfl⟩) (fun _ h=>by cases h;exact⟨rfl,rfl⟩) (fun _ h=>by cases h;exact⟨rfl,rfl,rfl⟩) hM ?_ ?_)
 ·intro W hU
  refine aC (.inr ⟨rfl,fun hI=>TU.p (.lb rfl (hU.cell _ _ (Gm (hB.Ak rfl) (Up.drew _)))) rfl⟩) (aC (.inr ⟨rfl,fun hI=>TU.p (.fB 7 rfl) rfl⟩) (aC (.inr ⟨rfl,fun hI=>TU.p (.lb rfl (hU.cell _ _ (Gm (hB2.Ak rfl) (Up.drew _)))) rfl⟩) (aC (.inr ⟨rfl,fun hI=>TU.p (.lb rfl (hU.cell _ _ (Gm (hB.Ak rfl) (Up.drew _)))) rfl⟩) (aC (.inr ⟨rfl,fun hI=>TU.p (.fB 8 rfl) rfl⟩) (aC (.inr ⟨rfl,fun hI=>TU.p (.lb rfl (hU.cell _ _ (Gm (hB2.Ak rfl) (Up.drew _)))) rfl⟩) (aC (.inr ⟨rfl,fun hI=>TU.p (.lb rfl (hU.cell _ _ (Gm (hB.Ak rfl) (Up.drew _)))) rfl⟩) (aC (.inr ⟨rfl,fun hI=>TU.p (.fB 8 rfl) rfl⟩) (aC (.inr ⟨rfl,fun hI=>TU.p (.lb rfl (hU.cell _ _ (Gm (hB2.Ak rfl) (Up.drew _)))) rfl⟩) (aC (.inr ⟨rfl,fun hI=>TU.c (eC (.u rfl rfl) (xZ)) (Wm _ _ _ _ (hI (.inr rfl))) sQ⟩) (aC (.inr ⟨rfl,fun hI=>TU.p (.lb rfl (hU.cell _ _ (Gm (hB.Ak rfl) (Up.drew _)))) rfl⟩) (aC (.inr ⟨rfl,fun hI=>TU.p (.fB 7 rfl) rfl⟩) (aC (.inr ⟨rfl,fun hI=>TU.p (.lb rfl (hU.cell _ _ (Gm (hB2.Ak rfl) (Up.drew _)))) rfl⟩) (aC (.inr ⟨rfl,fun hI=>TU.c (eC (.u rfl rfl) (xZ)) (Wm _ _ _ _ (hI (.inl rfl))) sQ⟩) (aC (.inl cQ) (aC (.inl cQ) (aC (.inl cQ) (aC (.inl cQ) ?_)))))))))))))))))
  exact allL.nil
 intro w2 hFr hM2
 rw[Y8,Y8]at hM2
 refine LW.nil (Dg rfl ⟨_,rfl,?_⟩)
 exact⟨rfl,tX hM2 ((hW.trans (Up.drew _)).fr _|>.trans hFr)⟩
theorem oZ(f:Fact)(Bt:Nat)(t:Int)(w:World)(hB:Blk w Bt #[vi t] 3):Ret prog 167 #[.agg f.cells,.pointer (some ⟨Bt,0,none⟩)] w fun r w'=>r=.bool (Qa t f)∧Up w w':=by
 have hW:=Up.refl w
 refine cT 18 func167 rfl (Af (Ao (.bA rfl) rfl ?_))
 rintro _ w1 ⟨B2,rfl,NB2⟩
 replace hB:=hB.up NB2.up
 replace hW:=hW.up NB2.up
 have hB2:=NB2.blk
 refine Az (Am (Aa (U (.fB 7 rfl) (U (.lb rfl (hB2.Ak rfl)) (A6 (eC (.o rfl) (iM)) rfl (Js _ _) ?_)))))
 rintro _ w2 ⟨rfl,uw2⟩
 replace hB:=hB.up uw2
 replace hW:=hW.up uw2
 replace hB2:=hB2.up uw2
 refine I rfl (LW.gr rfl (fun hc=>PEv.fB 8 rfl) (LW.gr rfl (fun hc=>PEv.load isAgg3 vQ (hB2.Ak rfl)) (Mh rfl rfl rfl rfl rfl rfl rfl rfl (fun hc=>Ct (.cons vQ .nil) (iM)) (fun hc=>Js _ _) ?_)))
 intro w3 uw3
 replace hB:=hB.up uw3
 replace hW:=hW.up uw3
 replace hB2:=hB2.up uw3
 refine U (.pa rfl (fun hp=>(by exact .cond rfl (by simp_all)))) (I rfl (LW.gr rfl (fun hc=>PEv.fB 5 rfl) (LW.gr rfl (fun hc=>PEv.load isAgg3 vQ (hB2.Ak rfl)) (LW.gr rfl (fun hc=>PEv.lb rfl (hB.Ak rfl)) (LW.gr rfl (fun hc=>PEv.leq vQ vQ) (U (.pa rfl (fun hp=>(by exact .cond rfl (by simp_all)))) (LW.A rfl (Ai (Al (KW.q ?_))))))))))
 exact⟨rfl,hW⟩
theorem pA(v:Go.Value)(xs:List Fact)(w:World)(ho:OwnS w 0 283 19 Fact.cells v xs)(h63:xs.length≤1000000000):Ret prog 206 #[v,.func (.func 207) #[] #[]] w fun r w'=>r=.tuple #[]∧Stp (J 283 19 Fact.cells v xs) (J 283 19 Fact.cells v (I8 Fq xs)) w w':=by
 have h0:=ho
 obtain⟨_,⟨rfl,hn⟩|⟨g,cap,cur,rfl,_⟩⟩:=h0
 · have hx:xs=[]:=List.eq_nil_of_length_eq_zero hn
   subst hx
   exact(K8 false _ w).mono fun r w'⟨e,u⟩=>⟨e,(Stp.refl ho).up u⟩
 refine(K7 false 207 #[] Fq EA g xs.length cap xs w ho h63 (fun W _ x y=>Wi x y W)).mono ?_
 rintro r w' ⟨e,zs,hz,hs⟩
 rw[hz.eq]at hs
 exact⟨e,hs⟩
theorem Y9(pf:Nat)(lb:Array Go.Value)(p:Fact→Bool)(hen:∀args w,(callFunc pf args).run Tryz.prog w=.ok (.enter pf args) w)(ad:Option Addr)(cp:Nat)(l:List Fact)(w:World)(hE0:Els w ad 19 Fact.cells l)(hl:l.length≤1000000000)(hp:∀W,Up w W→∀x∈l,Ret Tryz.prog pf (#[.agg x.cells]++lb) W fun r W'=>r=.bool (p x)∧Up W W'):Ret prog 166 #[.slice ad l.length cp,.func (.func pf) #[] lb] w fun r w'=>OwnS w' w.heap.size 74 19 Fact.cells r (P9 p l)∧Up w w':=by
 obtain⟨w0,rfl,hS⟩:=W0 w
 refine cT 13 func166 rfl (Af (Az (Am (Aa (I rfl (I rfl (A6 (eC (.ct rfl (.cons (.func _) (.cu rfl))) (DX)) rfl (oI pf lb p hen ad cp l _ (Els.up hE0 hS.Ch) hl (fun W hU=>hp W (hS.Ch.trans hU))) ?_)))))))
 rintro v8 w1 ⟨hO8,uw1⟩
 have zw1:=uw1.size
 replace hS:=hS.add uw1 (A':=J 283 19 Fact.cells v8 (l.filter p)) (hO8.mono (Nat.zero_le _)) (fun i h=>hO8.base i h)
 refine LW.A rfl (Am (Aa (I rfl (A6 (eC (.ct rfl (.cons (.func _) .nil)) (DZ)) rfl (pA v8 (l.filter p) _ (hS.own 0 rfl) (Nat.le_trans (List.length_filter_le _ _) hl)) ?_))))
 rintro _ w2 ⟨rfl,uw2⟩
 have zw2:=uw2.fr.size
 replace hS:=hS.Dw 0 rfl uw2
 obtain⟨ad9,cp9,rfl,hE9⟩:=(hS.own 0 rfl).sl (fun _=>rfl)
 have hl9:(I8 Fq (l.filter p)).length≤1000000000:=by rw[(Ge _).same.length];exact Nat.le_trans (List.length_filter_le _ _) hl
 refine Am (Aa (I rfl (A6 (eC (.ct rfl (.cons (.func _) (.cons (.func _) .nil))) (EB)) rfl (oJ 210 #[] (fun _=>true) ED ad9 cp9 (I8 Fq (l.filter p)) _ hE9 hl9 (fun W _ x _=>jW x W)) ?_)))
 rintro v12 w3 ⟨hO12,uw3⟩
 have zw3:=uw3.size
 replace hS:=hS.up uw3
 rw[List.filter_eq_self.2 (fun _ _=>rfl)]at hO12
 replace hO12:=hO12.mono (show w0.heap.size≤_ by omega)
 refine LW.A rfl (Ai (Al (KW.q ?_)))
 exact⟨hO12,hS.Ch⟩
theorem zF(bc:Array Go.Value)(bs:Base)(time:Int)(w:World)(hC:BaseC w bc bs)(hl:bs.Swaps.length≤1000000000):Ret prog 89 #[.agg bc,vi time] w fun r w'=>∃b,r=.map (some b)∧IMap w' b (gE (gF bs.Swaps time))∧w.heap.size≤b∧Up w w':=by
 obtain⟨w0,rfl,hS⟩:=W0 w
 refine cT 25 func89 rfl (Af (Ao (.bA rfl) rfl ?_))
 rintro _ w1 ⟨B2,rfl,NB2⟩
 replace hS:=hS.Cg NB2
 refine Ao (.Km (.t rfl) rfl) rfl ?_
 rintro _ w2 ⟨B3,rfl,NB3⟩
 replace hS:=hS.Cg NB3
 refine Az (Am ?_)
 skip
 refine Aa (LW.r REv.makeMap rfl rfl rfl rfl ?_)
 rintro _ w3 ⟨M9,rfl,hMM9,uw3,eM9,zw3⟩
 replace hS:=hS.add uw3 (A':=Bu M9 (gE [])) hMM9 (fun i(h:i=M9)=>by omega)
 refine Ao (.Ga zeroValue177 rfl) rfl ?_
 rintro _ w4 ⟨B5,rfl,MB5⟩
 refine A9 (.store sizeOf177 (.t rfl) (.t rfl) rfl MB5.blk cQ) ?_
 intro w5 LB5
 have NB5:=MB5.set LB5
 replace hS:=hS.Cg NB5
 refine Am (Aa (U (.makeFunc (.cu rfl)) (LW.A rfl (Am (Ah ?_)))))
 obtain⟨v2,h2,ad,cp,rfl,hEs⟩:=(hC.up hS.Ch).JE
 refine Aa (U (.fB 2 rfl) (U (.lb rfl (hS.b0.cell h2)) (U (.makeFunc (.cu rfl)) (A6 (eC (.u rfl rfl) (DI)) rfl (Y9 167 #[.pointer (some ⟨B3,0,none⟩)] (Qa time) DJ ad cp bs.Swaps _ hEs hl (fun W hU x _=>oZ x B3 time W ((hS.b1).up hU))) ?_))))
 rintro v14 w6 ⟨hO14,uw6⟩
 replace hS:=hS.add uw6 (A':=J 74 19 Fact.cells v14 ((P9 (Qa time) bs.Swaps))) (hO14.mono (Nat.zero_le _)) (fun i h=>hO14.base i h)
 obtain⟨ad14,cp14,rfl,_⟩:=(hS.own 4 rfl).sl (fun _=>rfl)
 refine U (.Cw underlying26 (.t rfl)) (U (.move (.const _)) (Ai (Ae (A3 (σ:=Nat) (fun s w=>(s≤(P9 (Qa time) bs.Swaps).length)∧(Wx.Sep no w0 w [Bq B2 bc 28,Bq B3 #[vi time] 3,Bu M9 (gE (((P9 (Qa time) bs.Swaps).take s).foldl oV [])),Bq B5 #[.map (some M9)] 177,J 74 19 Fact.cells (.slice ad14 (P9 (Qa time) bs.Swaps).length cp14) ((P9 (Qa time) bs.Swaps))])) (fun s=>[(16,.eq (vi (s:Int)))]) ([(4,.eq _),(5,.eq _),(6,.eq _),(14,.eq _),(15,.eq _)]) (fun s=>(P9 (Qa time) bs.Swaps).length-s) 0 ?_ tQ ?_))))
 ·exact⟨Nat.zero_le _,hS⟩
 rintro k w7 ⟨hk,hS⟩
 refine Af (U (.l2 rfl rfl) (Am (CW.b rfl (fun h17=>?_) (fun h17=>?_))))
 ·replace h17:=dQ h17
  refine Aj (Ac (Ah (Ae (Ah ?_))))
  have hE:=(hS.own 4 rfl).els (fun _=>rfl)
  have hol:=oW (Qa time) bs.Swaps
  refine Aa ?_
  obtain⟨x,hx⟩:=Aq (xs:=(P9 (Qa time) bs.Swaps)) (i:=k) oQ
  obtain⟨Bx,ox,ax,hcx⟩:=hE _ x hx
  refine U (.Aw underlying26 sizeOf74 (.t rfl) (.t rfl) oQ ax) (U (.lc rfl (hcx)) (Ao (.Br zeroValue74) rfl ?_))
  rintro _ w8 ⟨B8,rfl,MB8⟩
  refine A9 (.Ca sizeOf74 rfl (.t rfl) (.t rfl) (Fact.one _) MB8.blk rfl) ?_
  intro w9 LB8
  have NB8:=MB8.set LB8
  replace hcx:=hcx.up NB8.up
  replace hS:=hS.Cg NB8
  refine Ai (Aa (I rfl (U (.lc rfl (hS.b5.agg)) (A6 (Cc (.t rfl) (.cu rfl) (DH)) rfl (cH x B5 M9 _ _ hS.b3 (hS.get 2 rfl)) ?_))))
  rintro _ w10 ⟨rfl,uw10⟩
  replace hS:=hS.Dw 2 rfl uw10
  refine LW.nil (Ad (Ac (Aa (U (.ic rfl oQ) (I rfl (LW.nil (Ar ?_)))))))
  exact⟨k+1,⟨by omega,by rw[Ce hx,List.foldl_append];exact hS.take 5⟩,tQ,by omega⟩
 replace h17:=dQ h17
 refine A4 (Ab (Ab (An (Ac (Af (U (.lb rfl (hS.b3.Ak rfl)) (LW.A rfl (Ai (Al (KW.q ?_))))))))))
 have hkl:k=(P9 (Qa time) bs.Swaps).length:=by omega
 rw[hkl,List.take_length]at hS
 exact⟨M9,rfl,hS.get 2 rfl,(hS.foot 2 rfl M9 rfl).resolve_left (fun h=>h),hS.Ch⟩
set_option maxHeartbeats 1000000 in
theorem tY(bc:Array Go.Value)(b:Base)(wafer time:Int)(w:World)(hC:BaseC w bc b)(hlen:b.Lots.length<9223372036854775807):Ret prog 99 #[.agg bc,vi wafer,vi time] w fun r w'=>r=.tuple #[vi (Gz b.Lots wafer time).1,vi (Gz b.Lots wafer time).2]∧Up w w':=by
 have hW:=Up.refl w
 obtain⟨w0,rfl,_⟩:=W0 w
 refine cT 61 func99 rfl (Af (Ao (.bA rfl) rfl ?_))
 rintro _ w1 ⟨B3,rfl,NB3⟩
 replace hC:=hC.up NB3.up
 replace hW:=hW.up NB3.up
 have hB3:=NB3.blk
 refine Az (Az (Am (Aa (Az (Am (Ah ?_))))))
 obtain⟨v3,h3,hr⟩:=hC.IZ
 obtain⟨ad,cp,rfl,hE⟩:=hr
 refine Aa (U (.fB 3 rfl) (U (.lb rfl (hB3.cell h3)) (U (.Cw underlying26 (.t rfl)) (U (.move (.const _)) (Ai (Ae (CW.loop (σ:=Nat×Option Nat) (fun s w=>(s.1≤b.Lots.length∧(∀j,s.2=some j→j<s.1)∧(s.2.bind fun j=>b.Lots[j]?)=G9 (b.Lots.take s.1) wafer time)∧Els w ad 19 Fact.cells b.Lots∧Blk w B3 bc 28∧Up w0 w) (fun s=>[(8,.eq (.pointer (N5 ad 19 s.2))),(14,.eq (vi (s.1:Int))),(1,.eq (vi wafer)),(2,.eq (vi time)),(3,.eq (.pointer (some ⟨B3,0,none⟩))),(12,.eq (.slice ad b.Lots.length cp)),(13,.eq (vi (b.Lots.length:Int)))]) (fun s=>b.Lots.length-s.1) (0,none) ?_ ?_ ?_)))))))
 ·exact⟨⟨Nat.zero_le _,fun j e=>(by cases e),rfl⟩,hE,hB3,hW⟩
 ·exact tQ
 rintro⟨k,best⟩ w2 ⟨⟨hk,hj,hbest⟩,hE,hB3,hW⟩
 dsimp only at hk hj hbest
 rcases best with _|j
 ·skip
  refine Af (U (.l2 rfl rfl) (Am (CW.b rfl (fun h15=>?_) (fun h15=>?_))))
  ·replace h15:=dQ h15
   refine Aj (Ac (Ah (Ae (Ah ?_))))
   obtain⟨x,hx⟩:=Aq (xs:=b.Lots) (i:=k) oQ
   obtain⟨B,o,had,hcell⟩:=hE k x hx
   subst had
   refine Aa (I rfl (U (.indexAddr underlying26 sizeOf74 (.t rfl) (.t rfl) oQ) (U (.lc rfl (hcell)) (Ao (.Br zeroValue74) rfl ?_))))
   rintro _ w3 ⟨B10,rfl,MB10⟩
   refine LW.A rfl (A9 (.Ca sizeOf74 rfl (.t rfl) (.t rfl) eQ MB10.blk rfl) ?_)
   intro w4 LB10
   have NB10:=MB10.set LB10
   replace hE:=hE.up NB10.up
   replace hB3:=hB3.up NB10.up
   replace hW:=hW.up NB10.up
   have hB10:=NB10.blk
   refine Am (Ea kQ kQ rfl rfl (Au (.mv rfl) (HW.c (fun a w _ ha=>Ct (.cu rfl) (iM) a ha) rfl rfl (fun w hu=>Js _ _) (Au (.mv rfl) (Fu rfl rfl rfl rfl rfl rfl (fun hc=>PEv.fB 7 rfl) (Fu rfl rfl rfl rfl rfl rfl (fun hc=>PEv.load isAgg3 vQ (hB10.Ak rfl)) (Fu rfl rfl rfl rfl rfl rfl (fun hc=>PEv.mv rfl) (Fu rfl rfl rfl rfl rfl rfl (fun hc=>PEv.eql vQ vQ) (Au (.pa rfl (fun hp=>(by exact .cond rfl (by simp_all)))) (Au (.mv rfl) (Fu rfl rfl rfl rfl rfl rfl (fun hc=>PEv.fB 5 rfl) (Fu rfl rfl rfl rfl rfl rfl (fun hc=>PEv.load isAgg3 vQ (hB10.Ak rfl)) (Fu rfl rfl rfl rfl rfl rfl (fun hc=>PEv.mv rfl) (Fu rfl rfl rfl rfl rfl rfl (fun hc=>PEv.leq vQ vQ) (Au (.pa rfl (fun hp=>(by exact .cond rfl (by simp_all)))) (Au (.mv rfl) (Fu rfl rfl rfl rfl rfl rfl (fun hc=>PEv.mv rfl) (Fu rfl rfl rfl rfl rfl rfl (fun hc=>PEv.Jy underlying227 vQ) (Fu rfl rfl rfl rfl rfl rfl (fun hc=>PEv.move vQ) (Mr rfl rfl rfl rfl rfl rfl rfl (Mr rfl rfl rfl rfl rfl rfl rfl (Mr rfl rfl rfl rfl rfl rfl rfl (Mr rfl rfl rfl rfl rfl rfl rfl (Mr rfl rfl rfl rfl rfl rfl rfl (Mr rfl rfl rfl rfl rfl rfl rfl (Mr rfl rfl rfl rfl rfl rfl rfl (Fu rfl rfl rfl rfl rfl rfl (fun hc=>PEv.El (b:=true) vQ (fun hp=>absurd (show true=false from hp) cQ)) (Au (.pa rfl (fun hp=>(by exact .cond rfl (by simp_all)))) (HW.nil ?_)))))))))))))))))))))))))))))
   intro w5 uw5
   replace hE:=hE.up uw5
   replace hB3:=hB3.up uw5
   replace hW:=hW.up uw5
   replace hB10:=hB10.up uw5
   refine Ac (CW.b rfl (fun h45=>?_) (fun h45=>?_))
   ·replace h45:=dQ h45
    have hnew:G9 (b.Lots.take (k+1)) wafer time=some x:=by rw[Ce hx,H2,←hbest];exact if_pos (by simpa[Le,N5]using h45)
    have hend:∃s':Nat×Option Nat,s'.2=some k∧s'.1=k+1:=⟨(k+1,some k),rfl,rfl⟩
    refine Aa (U (.fB 3 rfl) (U (.lb rfl (hB3.cell h3)) (I rfl (U (.indexAddr underlying26 sizeOf74 (.t rfl) (.t rfl) oQ) (LW.A rfl (LW.nil (Ad (Ac (Aa (U (.ic rfl oQ) (I rfl (LW.nil (Ar ?_)))))))))))))
    exact⟨(k+1,some k),⟨⟨by omega,fun j e=>(by cases e;omega),by rw[hnew];exact hx⟩,hE,hB3,hW⟩,tQ,by omega⟩
   replace h45:=dQ h45
   have hnew:G9 (b.Lots.take (k+1)) wafer time=none:=by rw[Ce hx,H2,←hbest];exact if_neg (by simpa[Le,N5]using h45)
   refine Aj (Ad (Ac (Aa (U (.ic rfl oQ) (I rfl (LW.nil (Ar ?_)))))))
   exact⟨(k+1,none),⟨⟨by omega,fun j e=>(by cases e),by rw[hnew];rfl⟩,hE,hB3,hW⟩,tQ,by dsimp only;omega⟩
  replace h15:=dQ h15
  have hkk:k=b.Lots.length:=by omega
  subst hkk
  rw[List.take_length]at hbest
  have hres:Gz b.Lots wafer time=(0,0):=by unfold Gz;rw[←hbest];rfl
  refine A4 (Ab (Ab (An (Ac (Ah (Af (I rfl (U (.Jy underlying227 (.t rfl)) (Ai (CW.v rfl (Af (Az (Az (Ai (Al (Ap (F5 rfl rfl rfl ⟨_,rfl,?_⟩)))))))))))))))))
  exact⟨by rw[hres]<;>rfl,hW⟩
 obtain⟨y,hy⟩:=Aq (xs:=b.Lots) (i:=j) (by have:=hj j rfl;omega)
 obtain⟨B,o,had,hyc⟩:=hE j y hy
 subst had
 have hby:G9 (b.Lots.take k) wafer time=some y:=by rw[←hbest];exact hy
 refine Af (U (.l2 rfl rfl) (Am (CW.b rfl (fun h15=>?_) (fun h15=>?_))))
 ·replace h15:=dQ h15
  refine Aj (Ac (Ah (Ae (Ah ?_))))
  obtain⟨x,hx⟩:=Aq (xs:=b.Lots) (i:=k) oQ
  obtain⟨B',o',e',hcell⟩:=hE k x hx
  cases e'
  refine Aa (I rfl (U (.indexAddr underlying26 sizeOf74 (.t rfl) (.t rfl) oQ) (U (.lc rfl (hcell)) (Ao (.Br zeroValue74) rfl ?_))))
  rintro _ w6 ⟨B10,rfl,MB10⟩
  refine LW.A rfl (A9 (.Ca sizeOf74 rfl (.t rfl) (.t rfl) eQ MB10.blk rfl) ?_)
  intro w7 LB10
  have NB10:=MB10.set LB10
  replace hE:=hE.up NB10.up
  replace hB3:=hB3.up NB10.up
  replace hW:=hW.up NB10.up
  replace hyc:=hyc.up NB10.up
  have hB10:=NB10.blk
  refine Am (Ea kQ kQ rfl rfl (Au (.mv rfl) (HW.c (fun a w _ ha=>Ct (.cu rfl) (iM) a ha) rfl rfl (fun w hu=>Js _ _) (Au (.mv rfl) (Fu rfl rfl rfl rfl rfl rfl (fun hc=>PEv.fB 7 rfl) (Fu rfl rfl rfl rfl rfl rfl (fun hc=>PEv.load isAgg3 vQ (hB10.Ak rfl)) (Fu rfl rfl rfl rfl rfl rfl (fun hc=>PEv.mv rfl) (Fu rfl rfl rfl rfl rfl rfl (fun hc=>PEv.eql vQ vQ) (Au (.pa rfl (fun hp=>(by exact .cond rfl (by simp_all)))) (Au (.mv rfl) (Fu rfl rfl rfl rfl rfl rfl (fun hc=>PEv.fB 5 rfl) (Fu rfl rfl rfl rfl rfl rfl (fun hc=>PEv.load isAgg3 vQ (hB10.Ak rfl)) (Fu rfl rfl rfl rfl rfl rfl (fun hc=>PEv.mv rfl) (Fu rfl rfl rfl rfl rfl rfl (fun hc=>PEv.leq vQ vQ) (Au (.pa rfl (fun hp=>(by exact .cond rfl (by simp_all)))) (Au (.mv rfl) (Fu rfl rfl rfl rfl rfl rfl (fun hc=>PEv.mv rfl) (Fu rfl rfl rfl rfl rfl rfl (fun hc=>PEv.Jy underlying227 vQ) (Fu rfl rfl rfl rfl rfl rfl (fun hc=>PEv.move vQ) (Q3 rfl rfl rfl rfl rfl rfl (fun hc=>PEv.fB 5 rfl) (Q3 rfl rfl rfl rfl rfl rfl (fun hc=>PEv.load isAgg3 vQ (hB10.Ak rfl)) (Q3 rfl rfl rfl rfl rfl rfl (fun hc=>PEv.mv rfl) (Q3 rfl rfl rfl rfl rfl rfl (fun hc=>PEv.nilCheck vQ) (Q3 rfl rfl rfl rfl rfl rfl (fun hc=>PEv.fieldAddr (off:=5) underlying74 rfl rfl sizeOf3 rfl vQ) (Q3 rfl rfl rfl rfl rfl rfl (fun hc=>PEv.load isAgg3 vQ (hyc.nth (j:=5) rfl)) (Q3 rfl rfl rfl rfl rfl rfl (fun hc=>PEv.gtr vQ vQ) (Fu rfl rfl rfl rfl rfl rfl (fun hc=>PEv.El vQ (fun hp=>(by exact .cond rfl (by simp_all)))) (Au (.pa rfl (fun hp=>(by exact .cond rfl (by simp_all)))) (HW.nil ?_)))))))))))))))))))))))))))))
  intro w8 uw8
  replace hE:=hE.up uw8
  replace hB3:=hB3.up uw8
  replace hW:=hW.up uw8
  replace hyc:=hyc.up uw8
  replace hB10:=hB10.up uw8
  refine Ac (CW.b rfl (fun h45=>?_) (fun h45=>?_))
  ·replace h45:=dQ h45
   have hnew:G9 (b.Lots.take (k+1)) wafer time=some x:=by rw[Ce hx,H2,hby];exact if_pos (by simpa[Le,N5]using h45)
   refine Aa (U (.fB 3 rfl) (U (.lb rfl (hB3.cell h3)) (I rfl (U (.indexAddr underlying26 sizeOf74 (.t rfl) (.t rfl) oQ) (LW.A rfl (LW.nil (Ad (Ac (Aa (U (.ic rfl oQ) (I rfl (LW.nil (Ar ?_)))))))))))))
   exact⟨(k+1,some k),⟨⟨by omega,fun j e=>(by cases e;omega),by rw[hnew];exact hx⟩,hE,hB3,hW⟩,tQ,by omega⟩
  replace h45:=dQ h45
  have hnew:G9 (b.Lots.take (k+1)) wafer time=some y:=by rw[Ce hx,H2,hby];exact if_neg (by simpa[Le,N5]using h45)
  refine Aj (Ad (Ac (Aa (U (.ic rfl oQ) (I rfl (LW.nil (Ar ?_)))))))
  exact⟨(k+1,some j),⟨⟨by omega,fun i e=>(by cases e;have:=hj j rfl;omega),by rw[hnew];exact hy⟩,hE,hB3,hW⟩,tQ,by dsimp only;omega⟩
 replace h15:=dQ h15
 have hkk:k=b.Lots.length:=by omega
 subst hkk
 rw[List.take_length]at hby
 have hres:Gz b.Lots wafer time=(y.Lot,y.Product):=by unfold Gz;rw[hby]
 refine A4 (Ab (Ab (An (Ac (Ah (Af (I rfl (U (.Jy underlying227 (.t rfl)) (Ai (CW.f rfl (Aj (Ac (Ah (Ea kQ kQ rfl rfl (Au (.mv rfl) (Au (.nc rfl) (Au (.fB 9 rfl) (Au (.lb rfl (hyc.nth (j:=9) rfl)) (Au (.mv rfl) (Au (.nc rfl) (Au (.fB 10 rfl) (Au (.lb rfl (hyc.nth (j:=10) rfl)) (Au (.assign (.t rfl)) (Au (.assign (.t rfl)) (HW.nil ?_)))))))))))))))))))))))))
 intro w9 uw9
 replace hE:=hE.up uw9
 replace hB3:=hB3.up uw9
 replace hW:=hW.up uw9
 replace hyc:=hyc.up uw9
 refine Ac (Al (F5 rfl rfl rfl ⟨_,rfl,?_⟩))
 exact⟨by rw[hres]<;>rfl,hW⟩
theorem gH(bc:Array Go.Value)(bs:Base)(mark time:Int)(w:World)(hC:BaseC w bc bs)(hl:bs.Swaps.length≤1000000000):Ret prog 29 #[.agg bc,vi mark,vi time] w fun r w'=>r=vi (Me bs.Swaps time mark)∧Up w w':=by
 have hW:=Up.refl w
 refine cT 15 func29 rfl (Af (Ao (.bA rfl) rfl ?_))
 rintro _ w1 ⟨B3,rfl,NB3⟩
 replace hC:=hC.up NB3.up
 replace hW:=hW.up NB3.up
 have hB3:=NB3.blk
 refine Az (Am (Af (I rfl (A6 (eC (.o rfl) (iM)) rfl (Js _ _) ?_))))
 rintro _ w2 ⟨rfl,uw2⟩
 replace hC:=hC.up uw2
 replace hW:=hW.up uw2
 replace hB3:=hB3.up uw2
 refine U (.n1 rfl) (Ai (CW.b rfl (fun h9=>?_) (fun h9=>?_)))
 ·have hi:Ei mark=false:=by simpa using h9
  refine Af (Az (Ai (Al (Ap (KW.q ?_)))))
  exact⟨by rw[Me,if_neg (by rw[hi];decide)],hW⟩
 have hi:Ei mark=true:=by simpa using h9
 refine Aj (Ac (Af (U (.Kw isAgg28 sizeOf28 (hC.size) (.t rfl) (hB3.agg)) (I rfl (A6 (eC (.u rfl rfl) (IF)) rfl (zF bc bs time _ hC hl) ?_)))))
 rintro _ w3 ⟨b,rfl,hM,zM,uw3⟩
 replace hC:=hC.up uw3
 replace hW:=hW.up uw3
 replace hB3:=hB3.up uw3
 refine I rfl (A6 (eC (.u rfl rfl) (xZ)) rfl (Wm b _ mark _ hM) ?_)
 rintro _ w4 ⟨rfl,uw4⟩
 replace hC:=hC.up uw4
 replace hW:=hW.up uw4
 replace hB3:=hB3.up uw4
 replace hM:=hM.up uw4
 refine LW.A rfl (Ai (Al (KW.q ?_)))
 exact⟨by rw[Me,if_pos hi],hW⟩
theorem Df(c n:Int)(w:World)(hn:n≠0):Ret prog 25 #[vi c,vi n] w fun r w'=>r=vi (Bi c n)∧Up w w':=by
 have hW:=Up.refl w
 refine cT 13 func25 rfl (Af (Az (Am (Af (I rfl (U (.lss (.t rfl) (.const _)) (Ai (CW.b rfl (fun h6=>?_) (fun h6=>?_)))))))))
 ·replace h6:=dQ h6
  refine Aa (I rfl (U (.Gy (.t rfl) (.const _)) (U (.neg underlying3 (.t rfl)) (LW.A rfl (Am (Aa (I rfl (I rfl (U (.rem (.t rfl) (.t rfl) oQ) (LW.A rfl (Ai (Al (KW.q ?_)))))))))))))
  exact⟨by(rw[Bi,if_pos h6]),hW⟩
 replace h6:=dQ h6
 refine Aj (Ac (Af (I rfl (I rfl (U (.rem (.t rfl) (.t rfl) oQ) (LW.A rfl (Ai (Al (KW.q ?_)))))))))
 exact⟨by(rw[Bi,if_neg (by omega)]),hW⟩
set_option maxHeartbeats 2000000 in
theorem pB(ad:Option Addr)(cp:Nat)(xs:List I6)(w:World)(hE0:Els w ad 6 I6.cells xs):Ret prog 6 #[.slice ad xs.length cp] w fun r w'=>OwnS w' w.heap.size 74 19 Fact.cells r (Jr xs)∧Up w w':=by
 obtain⟨w0,rfl,hS⟩:=W0 w
 refine cT 98 func6 rfl ?_
 refine Af (Az (Am (Aa (Az (Am (Ah ?_))))))
 replace hS:=hS.add (Up.refl _) (A':=J 74 19 Fact.cells (.slice none 0 0) ([]:List Fact)) (OwnS.nil _ _ _ _ _) (fun i h=>by cases h)
 change Wx.Sep _ _ _ [_]at hS
 refine Aa (Az (Ai (Ae ?_)))
 refine A3 (σ:=Nat×Go.Value) (fun s w=>(s.1≤xs.length∧s.1≤30)∧(Wx.Sep no w0 w [J 74 19 Fact.cells s.2 (Jr (xs.take s.1))])) (fun s=>[(4,.eq (vi (s.1:Int))),(3,.eq (s.2))]) ([(0,.eq _),(2,.eq _)]) (fun s=>xs.length-s.1) (0,.slice none 0 0) ?_ tQ ?_
 ·exact⟨⟨Nat.zero_le _,Nat.zero_le _⟩,hS⟩
 rintro⟨k,v⟩ w1 ⟨hk,hS⟩
 dsimp only at hk hS
 change CW _ _ _ _ _ _ _ ([(4,.eq (vi (k:Int))),(3,.eq (v))]++_) _
 refine Ah (Ah ?_)
 skip
 refine Aa (I rfl (I rfl ?_))
 refine U (.Cw underlying22 (.t rfl)) ?_
 refine U (.l2 rfl rfl) ?_
 refine I rfl ?_
 refine Ey rfl rfl ?_
 refine LW.gr rfl (fun hc=>PEv.lss vQ (.const _)) ?_
 refine U (.pa rfl (fun hp=>(by first|exact .const _|exact .tmp rfl|exact .cond rfl (by first|assumption|simp_all)))) ?_
 refine Ai ?_
 refine CW.b rfl (fun h14=>?_) (fun h14=>?_)
 ·replace h14:=dQ h14
  refine Aj (Ac (Ah (Ae (Ah ?_))))
  have hE:=hE0.up hS.Ch
  have hkl:k<xs.length∧k<30:=by simp at h14;omega
  refine Aa (I rfl (I rfl ?_))
  obtain⟨y,hy⟩:=Aq (xs:=xs) (i:=k) oQ
  obtain⟨By,oy,ay,hcy⟩:=hE _ y hy
  refine U (.Aw underlying22 sizeOf87 (.t rfl) (.t rfl) oQ ay) ?_
  refine U (.lc rfl (hcy)) ?_
  refine Ao (.Br zeroValue87) rfl ?_
  rintro _ w2 ⟨B5,rfl,MB5⟩
  refine A9 (.Ca sizeOf87 rfl (.t rfl) (.t rfl) (I6.one _) MB5.blk rfl) ?_
  intro w3 LB5
  have NB5:=MB5.set LB5
  clear LB5 MB5
  have eB5:=NB5.at_
  have zB5:=NB5.size
  replace hcy:=hcy.up NB5.up
  replace hS:=hS.Cg NB5
  change Wx.Sep _ _ _ [_,_]at hS
  refine Am ?_
  refine Iw 26 [.eq (.pointer (some ⟨B5,0,none⟩)),.eq (vi (y.a)),.eq (vi (wI (y.a.tdiv 4))),.eq (vi (Bi (wI (y.a.tdiv 4)) 3)),.eq (vi (wI (1+Bi (wI (y.a.tdiv 4)) 3))),.eq (.pointer (some ⟨B5,1,none⟩)),.eq (vi (y.b)),.eq (vi (Bi y.b 10)),.eq (.pointer (some ⟨B5,1,none⟩)),.eq (vi (y.b)),.eq (vi (wI (y.b.tdiv 10))),.eq (vi (Bi (wI (y.b.tdiv 10)) 6)),.eq (.bool (decide (Bi (wI (y.b.tdiv 10)) 6=0))),.eq (.pointer (some ⟨B5,2,none⟩)),.eq (vi (y.c)),.eq (vi (Bi y.c 12)),.eq (vi (wI (1+Bi y.c 12))),.eq (.pointer (some ⟨B5,3,none⟩)),.eq (vi (y.d)),.eq (vi (Bi y.d 6)),.eq (vi (wI (1+Bi y.d 6))),.eq (.pointer (some ⟨B5,4,none⟩)),.eq (vi (y.e)),.eq (vi (Bi y.e 50)),.eq (.agg (Dc y).cells),.pred fun v W=>∃B,v=.pointer (some ⟨B,0,none⟩)∧w3.drew.heap.size≤B∧Blk W B Pw.cells 74] [6,45] kQ rfl kQ kQ kQ kQ kQ kQ kQ ⟨PhU.eq _,PhU.eq _,PhU.eq _,PhU.eq _,PhU.eq _,PhU.eq _,PhU.eq _,PhU.eq _,PhU.eq _,PhU.eq _,PhU.eq _,PhU.eq _,PhU.eq _,PhU.eq _,PhU.eq _,PhU.eq _,PhU.eq _,PhU.eq _,PhU.eq _,PhU.eq _,PhU.eq _,PhU.eq _,PhU.eq _,PhU.eq _,PhU.eq _,PhU.pred fun _ _ _ h u=>let⟨B,e,hz,hb⟩:=h;⟨B,e,hz,hb.up u⟩,trivial⟩ ?_ ?_
  ·intro W hU0
   have hU:=(Up.drew w3).trans hU0
   have zU0:=hU0.size
   refine aC ⟨rfl,TU.p (.Cn (j:=0) underlying87 sizeOf3 (.t rfl) (.const _) cQ) rfl⟩ ?_
   refine aC ⟨rfl,TU.p (.lb rfl ((hS.b1.up hU).Ak rfl)) rfl⟩ ?_
   refine aC ⟨rfl,TU.p (.quo (.t rfl) (.const _) cQ) rfl⟩ ?_
   refine aC ⟨rfl,TU.c (eC (.ct rfl (.cons (.const _) .nil)) (K0)) (Df _ _ _ cQ) sQ⟩ ?_
   refine aC ⟨rfl,TU.p (.Gy (.const _) (.t rfl)) rfl⟩ ?_
   refine aC ⟨rfl,TU.p (.Cn (j:=1) underlying87 sizeOf3 (.t rfl) (.const _) cQ) rfl⟩ ?_
   refine aC ⟨rfl,TU.p (.lb rfl ((hS.b1.up hU).Ak rfl)) rfl⟩ ?_
   refine aC ⟨rfl,TU.c (eC (.ct rfl (.cons (.const _) .nil)) (K0)) (Df _ _ _ cQ) sQ⟩ ?_
   refine aC ⟨rfl,TU.p (.Cn (j:=1) underlying87 sizeOf3 (.t rfl) (.const _) cQ) rfl⟩ ?_
   refine aC ⟨rfl,TU.p (.lb rfl ((hS.b1.up hU).Ak rfl)) rfl⟩ ?_
   refine aC ⟨rfl,TU.p (.quo (.t rfl) (.const _) cQ) rfl⟩ ?_
   refine aC ⟨rfl,TU.c (eC (.ct rfl (.cons (.const _) .nil)) (K0)) (Df _ _ _ cQ) sQ⟩ ?_
   refine aC ⟨rfl,TU.p (.eql (.t rfl) (.const _)) rfl⟩ ?_
   refine aC ⟨rfl,TU.p (.Cn (j:=2) underlying87 sizeOf3 (.t rfl) (.const _) cQ) rfl⟩ ?_
   refine aC ⟨rfl,TU.p (.lb rfl ((hS.b1.up hU).Ak rfl)) rfl⟩ ?_
   refine aC ⟨rfl,TU.c (eC (.ct rfl (.cons (.const _) .nil)) (K0)) (Df _ _ _ cQ) sQ⟩ ?_
   refine aC ⟨rfl,TU.p (.Gy (.const _) (.t rfl)) rfl⟩ ?_
   refine aC ⟨rfl,TU.p (.Cn (j:=3) underlying87 sizeOf3 (.t rfl) (.const _) cQ) rfl⟩ ?_
   refine aC ⟨rfl,TU.p (.lb rfl ((hS.b1.up hU).Ak rfl)) rfl⟩ ?_
   refine aC ⟨rfl,TU.c (eC (.ct rfl (.cons (.const _) .nil)) (K0)) (Df _ _ _ cQ) sQ⟩ ?_
   refine aC ⟨rfl,TU.p (.Gy (.const _) (.t rfl)) rfl⟩ ?_
   refine aC ⟨rfl,TU.p (.Cn (j:=4) underlying87 sizeOf3 (.t rfl) (.const _) cQ) rfl⟩ ?_
   refine aC ⟨rfl,TU.p (.lb rfl ((hS.b1.up hU).Ak rfl)) rfl⟩ ?_
   refine aC ⟨rfl,TU.c (eC (.ct rfl (.cons (.const _) .nil)) (K0)) (Df _ _ _ cQ) sQ⟩ ?_
   refine aC ⟨rfl,TU.p (.build (cs:=(Dc y).cells) underlying74 zeroValue74 G5 (.ct rfl (.ct rfl (.ct rfl (.ct rfl (.ct rfl (.cu rfl)))))) rfl) rfl⟩ ?_
   refine aC ⟨rfl,TU.r (REv.Br zeroValue74) (fun v W' h=>let⟨B,e,N⟩:=h;⟨N.up,B,e,by rw[N.at_];exact zU0,N.blk⟩)⟩ ?_
   exact allL.nil
  intro w4 g hU0 hg
  have hU:=(Up.drew w3).trans hU0
  have zw4:=hU.size
  obtain⟨B6,e6,z6,hB6⟩:∃B,g 6=.pointer (some ⟨B,0,none⟩)∧w3.drew.heap.size≤B∧Blk w4 B Pw.cells 74:=hg 25 _ 6 cQ rfl rfl
  have e45:g 45=.agg (Dc y).cells:=hg 24 _ 45 cQ rfl rfl
  change LW _ _ _ _ _ _ _ _ ((6,.eq (g 6))::(45,.eq (g 45))::_) _
  rw[e6,e45]
  clear hg e6 e45
  replace hS:=(hS.up (Up.drew _)).add hU0 (A':=Bq B6 Pw.cells 74) hB6 (fun i(e:i=B6)=>by omega)
  change Wx.Sep no w0 _ [_,_,_]at hS
  refine A9 (.Ca sizeOf74 rfl (.t rfl) (.t rfl) (Fact.one _) hS.b2 rfl) ?_
  intro w5 Nw5
  have zw5:=Nw5.size
  replace hS:=hS.Dz 2 rfl (show Set_ _ w5 _ ((Dc y).cells) _ from Nw5)
  change Wx.Sep _ _ _ [_,_,_]at hS
  refine Am (Af ?_)
  refine U (.Cn (j:=0) underlying87 sizeOf3 (.t rfl) (.const _) cQ) ?_
  refine U (.lb rfl (hS.b1.Ak rfl)) ?_
  refine A6 (eC (.ct rfl (.cons (.const _) .nil)) (K0)) rfl (Df _ _ _ cQ) ?_
  rintro _ w6 ⟨rfl,uw6⟩
  have zw6:=uw6.size
  replace hS:=hS.up uw6
  refine Ai (Ae (Ah (Af ?_)))
  refine U (.eql (.t rfl) (.const _)) ?_
  refine LW.A rfl (Ai ?_)
  refine CW.b rfl (fun h62=>?_) (fun h62=>?_)
  ·replace h62:=dQ h62
   refine Aj (Ac ?_)
   refine CW.b rfl (fun h62=>?_) (fun h62=>?_)
   ·replace h62:=dQ h62
    refine Af ?_
    refine U (.fB 0 rfl) ?_
    refine A9 (.store sizeOf3 (.t rfl) (.const _) rfl hS.b2 bQ) ?_
    intro w7 Nw7
    have zw7:=Nw7.size
    replace hS:=hS.Dz 2 rfl (show Set_ _ w7 _ (({ Dc y with Kind:=1 }:Fact).cells) _ from Nw7)
    change Wx.Sep _ _ _ [_,_,_]at hS
    refine Am (Aa ?_)
    refine U (.Cn (j:=5) underlying87 sizeOf3 (.t rfl) (.const _) cQ) ?_
    refine U (.lb rfl (hS.b1.Ak rfl)) ?_
    refine A6 (eC (.ct rfl (.cons (.const _) .nil)) (K0)) rfl (Df _ _ _ cQ) ?_
    rintro _ w8 ⟨rfl,uw8⟩
    have zw8:=uw8.size
    replace hS:=hS.up uw8
    refine U (.fB 11 rfl) ?_
    refine A9 (.store sizeOf3 (.t rfl) (.t rfl) rfl hS.b2 bQ) ?_
    intro w9 Nw9
    have zw9:=Nw9.size
    replace hS:=hS.Dz 2 rfl (show Set_ _ w9 _ (({ Dc y with Kind:=1,Tool:=Bi y.f 3 }:Fact).cells) _ from Nw9)
    change Wx.Sep _ _ _ [_,_,_]at hS
    refine Am (Aa ?_)
    refine U (.Cn (j:=5) underlying87 sizeOf3 (.t rfl) (.const _) cQ) ?_
    refine U (.lb rfl (hS.b1.Ak rfl)) ?_
    refine U (.quo (.t rfl) (.const _) cQ) ?_
    refine A6 (eC (.ct rfl (.cons (.const _) .nil)) (K0)) rfl (Df _ _ _ cQ) ?_
    rintro _ w10 ⟨rfl,uw10⟩
    have zw10:=uw10.size
    replace hS:=hS.up uw10
    refine U (.fB 13 rfl) ?_
    refine A9 (.store sizeOf3 (.t rfl) (.t rfl) rfl hS.b2 bQ) ?_
    intro w11 Nw11
    have zw11:=Nw11.size
    replace hS:=hS.Dz 2 rfl (show Set_ _ w11 _ (({ Dc y with Kind:=1,Tool:=Bi y.f 3,Step:=Bi (wI (y.f.tdiv 3)) 4 }:Fact).cells) _ from Nw11)
    change Wx.Sep _ _ _ [_,_,_]at hS
    refine Am (Aa ?_)
    refine U (.fB 14 rfl) ?_
    refine A9 (.store sizeOf3 (.t rfl) (.const _) rfl hS.b2 bQ) ?_
    intro w12 Nw12
    have zw12:=Nw12.size
    replace hS:=hS.Dz 2 rfl (show Set_ _ w12 _ (({ Dc y with Kind:=1,Tool:=Bi y.f 3,Step:=Bi (wI (y.f.tdiv 3)) 4,Recipe:=1 }:Fact).cells) _ from Nw12)
    change Wx.Sep _ _ _ [_,_,_]at hS
    refine Am (Aa ?_)
    refine U (.fB 15 rfl) ?_
    refine A9 (.store sizeOf3 (.t rfl) (.const _) rfl hS.b2 bQ) ?_
    intro w13 Nw13
    have zw13:=Nw13.size
    replace hS:=hS.Dz 2 rfl (show Set_ _ w13 _ (({ Dc y with Kind:=1,Tool:=Bi y.f 3,Step:=Bi (wI (y.f.tdiv 3)) 4,Recipe:=1,Revision:=1 }:Fact).cells) _ from Nw13)
    change Wx.Sep _ _ _ [_,_,_]at hS
    refine Ai (Aa ?_)
    refine U (.fB 5 rfl) ?_
    refine U (.lb rfl (hS.b2.Ak rfl)) ?_
    refine U (.Gy (.t rfl) (.const _)) ?_
    refine U (.fB 6 rfl) ?_
    refine A9 (.store sizeOf3 (.t rfl) (.t rfl) rfl hS.b2 bQ) ?_
    intro w14 Nw14
    have zw14:=Nw14.size
    replace hS:=hS.Dz 2 rfl (show Set_ _ w14 _ (({ Dc y with Kind:=1,Tool:=Bi y.f 3,Step:=Bi (wI (y.f.tdiv 3)) 4,Recipe:=1,Revision:=1,Until:=wI ((Dc y).Time+5) }:Fact).cells) _ from Nw14)
    change Wx.Sep _ _ _ [_,_,_]at hS
    refine LW.nil (Ad (Ac ?_))
    first|rw[←L8 (by omega)]at hS|rw[←L9 (by omega)]at hS|rw[←Ma oQ oQ (by omega)]at hS
    have hsl:=Gh (xs.take k)
    refine Aa (I rfl ?_)
    refine U (.lc rfl (hS.b2.agg)) ?_
    refine Ao (.buildSlice (xs:=[Ik y]) (enc:=Fact.cells) (mk:=fun f:Fact=>.agg f.cells) underlying26 sizeOf74 zeroValue74 rfl cQ (fun _=>rfl) (fun _=>rfl) (.cu rfl) rfl) rfl ?_
    rintro _ w15 ⟨B95,cB95,rfl,NB95,yB95,xB95⟩
    have eB95:=NB95.at_
    have zB95:=NB95.size
    replace hS:=hS.up NB95.up
    have hE95:=xB95
    refine Ao (.Cu (enc:=Fact.cells) (bytes:=160) (i:=Tryz.t74) underlying26 kQ rfl rfl rfl rfl cQ (fun _=>rfl) Fact.one (.t rfl) (.t rfl) (hS.own 0 rfl) (Av hE95) (by have:=hsl;simp[maxLen];omega) (by have:=hsl;simp;omega)) rfl ?_
    intro v96 w16 Gw16
    have zw16:=Gw16.fr.size
    replace hS:=hS.Dw 0 rfl Gw16
    change Wx.Sep _ _ _ [_,_,_]at hS
    refine LW.A rfl (LW.nil (Ad (Ac (Aa (I rfl ?_)))))
    refine U (.ic rfl oQ) ?_
    refine LW.A rfl (LW.nil (Ar ?_))
    exact⟨(k+1,v96),⟨⟨by show k+1≤_;omega,by show k+1≤_;omega⟩,by rw[G2 hy hkl.2];exact hS.take 1⟩,tQ,by show xs.length-(k+1)<xs.length-k;omega⟩
   replace h62:=dQ h62
   refine Af ?_
   refine U (.eql (.t rfl) (.const _)) ?_
   refine LW.A rfl (Ai ?_)
   refine CW.b rfl (fun h81=>?_) (fun h81=>?_)
   ·replace h81:=dQ h81
    refine Af ?_
    refine U (.fB 0 rfl) ?_
    refine A9 (.store sizeOf3 (.t rfl) (.const _) rfl hS.b2 bQ) ?_
    intro w17 Nw17
    have zw17:=Nw17.size
    replace hS:=hS.Dz 2 rfl (show Set_ _ w17 _ (({ Dc y with Kind:=3 }:Fact).cells) _ from Nw17)
    change Wx.Sep _ _ _ [_,_,_]at hS
    refine Ai ?_
    refine Dh 8 kQ kQ kQ kQ kQ rfl rfl ?_
    refine Au (.fB 7 rfl) ?_
    refine Au (.lb rfl (hS.b2.Ak rfl)) ?_
    refine Au (.Cn (j:=5) underlying87 sizeOf3 (.t rfl) (.const _) cQ) ?_
    refine Au (.lb rfl (hS.b1.Ak rfl)) ?_
    refine HW.c (fun a w _ ha=>Ct (.ct rfl (.cons (.const _) .nil)) (K0) a ha) rfl rfl (fun w hu=>Df _ _ w cQ) ?_
    refine Au (.Gy (.t rfl) (.t rfl)) ?_
    refine Au (.rem (.t rfl) (.const _) cQ) ?_
    refine Au (.Gy (.const _) (.t rfl)) ?_
    refine HW.nil ?_
    intro w18 uw18
    have zw18:=uw18.size
    replace hS:=hS.up uw18
    refine U (.fB 8 rfl) ?_
    refine A9 (.store sizeOf3 (.t rfl) (.t rfl) rfl hS.b2 bQ) ?_
    intro w19 Nw19
    have zw19:=Nw19.size
    replace hS:=hS.Dz 2 rfl (show Set_ _ w19 _ (({ Dc y with Kind:=3,Other:=wI (1+(wI ((Dc y).Wafer+Bi y.f 5)).tmod 6) }:Fact).cells) _ from Nw19)
    change Wx.Sep _ _ _ [_,_,_]at hS
    refine LW.nil (Ad (Ac ?_))
    first|rw[←L8 (by omega)]at hS|rw[←L9 (by omega)]at hS|rw[←Ma oQ oQ (by omega)]at hS
    have hsl:=Gh (xs.take k)
    refine Aa (I rfl ?_)
    refine U (.lc rfl (hS.b2.agg)) ?_
    refine Ao (.buildSlice (xs:=[Ik y]) (enc:=Fact.cells) (mk:=fun f:Fact=>.agg f.cells) underlying26 sizeOf74 zeroValue74 rfl cQ (fun _=>rfl) (fun _=>rfl) (.cu rfl) rfl) rfl ?_
    rintro _ w20 ⟨B95,cB95,rfl,NB95,yB95,xB95⟩
    have eB95:=NB95.at_
    have zB95:=NB95.size
    replace hS:=hS.up NB95.up
    have hE95:=xB95
    refine Ao (.Cu (enc:=Fact.cells) (bytes:=160) (i:=Tryz.t74) underlying26 kQ rfl rfl rfl rfl cQ (fun _=>rfl) Fact.one (.t rfl) (.t rfl) (hS.own 0 rfl) (Av hE95) (by have:=hsl;simp[maxLen];omega) (by have:=hsl;simp;omega)) rfl ?_
    intro v96 w21 Gw21
    have zw21:=Gw21.fr.size
    replace hS:=hS.Dw 0 rfl Gw21
    change Wx.Sep _ _ _ [_,_,_]at hS
    refine LW.A rfl (LW.nil (Ad (Ac (Aa (I rfl ?_)))))
    refine U (.ic rfl oQ) ?_
    refine LW.A rfl (LW.nil (Ar ?_))
    exact⟨(k+1,v96),⟨⟨by show k+1≤_;omega,by show k+1≤_;omega⟩,by rw[G2 hy hkl.2];exact hS.take 1⟩,tQ,by show xs.length-(k+1)<xs.length-k;omega⟩
   replace h81:=dQ h81
   refine Af ?_
   refine U (.fB 0 rfl) ?_
   refine A9 (.store sizeOf3 (.t rfl) (.const _) rfl hS.b2 bQ) ?_
   intro w22 Nw22
   have zw22:=Nw22.size
   replace hS:=hS.Dz 2 rfl (show Set_ _ w22 _ (({ Dc y with Kind:=4 }:Fact).cells) _ from Nw22)
   change Wx.Sep _ _ _ [_,_,_]at hS
   refine Am (Aa ?_)
   refine U (.fB 1 rfl) ?_
   refine A9 (.store sizeOf3 (.t rfl) (.const _) rfl hS.b2 bQ) ?_
   intro w23 Nw23
   have zw23:=Nw23.size
   replace hS:=hS.Dz 2 rfl (show Set_ _ w23 _ (({ Dc y with Kind:=4,ID:=0 }:Fact).cells) _ from Nw23)
   change Wx.Sep _ _ _ [_,_,_]at hS
   refine Am (Aa ?_)
   refine U (.Cn (j:=5) underlying87 sizeOf3 (.t rfl) (.const _) cQ) ?_
   refine U (.lb rfl (hS.b1.Ak rfl)) ?_
   refine A6 (eC (.ct rfl (.cons (.const _) .nil)) (K0)) rfl (Df _ _ _ cQ) ?_
   rintro _ w24 ⟨rfl,uw24⟩
   have zw24:=uw24.size
   replace hS:=hS.up uw24
   refine U (.Gy (.const _) (.t rfl)) ?_
   refine U (.fB 9 rfl) ?_
   refine A9 (.store sizeOf3 (.t rfl) (.t rfl) rfl hS.b2 bQ) ?_
   intro w25 Nw25
   have zw25:=Nw25.size
   replace hS:=hS.Dz 2 rfl (show Set_ _ w25 _ (({ Dc y with Kind:=4,ID:=0,Lot:=wI (1+Bi y.f 3) }:Fact).cells) _ from Nw25)
   change Wx.Sep _ _ _ [_,_,_]at hS
   refine Ai (Aa ?_)
   refine U (.Cn (j:=5) underlying87 sizeOf3 (.t rfl) (.const _) cQ) ?_
   refine U (.lb rfl (hS.b1.Ak rfl)) ?_
   refine U (.quo (.t rfl) (.const _) cQ) ?_
   refine A6 (eC (.ct rfl (.cons (.const _) .nil)) (K0)) rfl (Df _ _ _ cQ) ?_
   rintro _ w26 ⟨rfl,uw26⟩
   have zw26:=uw26.size
   replace hS:=hS.up uw26
   refine U (.Gy (.const _) (.t rfl)) ?_
   refine U (.fB 10 rfl) ?_
   refine A9 (.store sizeOf3 (.t rfl) (.t rfl) rfl hS.b2 bQ) ?_
   intro w27 Nw27
   have zw27:=Nw27.size
   replace hS:=hS.Dz 2 rfl (show Set_ _ w27 _ (({ Dc y with Kind:=4,ID:=0,Lot:=wI (1+Bi y.f 3),Product:=wI (1+Bi (wI (y.f.tdiv 3)) 2) }:Fact).cells) _ from Nw27)
   change Wx.Sep _ _ _ [_,_,_]at hS
   refine LW.nil (Ad (Ac ?_))
   first|rw[←L8 (by omega)]at hS|rw[←L9 (by omega)]at hS|rw[←Ma oQ oQ (by omega)]at hS
   have hsl:=Gh (xs.take k)
   refine Aa (I rfl ?_)
   refine U (.lc rfl (hS.b2.agg)) ?_
   refine Ao (.buildSlice (xs:=[Ik y]) (enc:=Fact.cells) (mk:=fun f:Fact=>.agg f.cells) underlying26 sizeOf74 zeroValue74 rfl cQ (fun _=>rfl) (fun _=>rfl) (.cu rfl) rfl) rfl ?_
   rintro _ w28 ⟨B95,cB95,rfl,NB95,yB95,xB95⟩
   have eB95:=NB95.at_
   have zB95:=NB95.size
   replace hS:=hS.up NB95.up
   have hE95:=xB95
   refine Ao (.Cu (enc:=Fact.cells) (bytes:=160) (i:=Tryz.t74) underlying26 kQ rfl rfl rfl rfl cQ (fun _=>rfl) Fact.one (.t rfl) (.t rfl) (hS.own 0 rfl) (Av hE95) (by have:=hsl;simp[maxLen];omega) (by have:=hsl;simp;omega)) rfl ?_
   intro v96 w29 Gw29
   have zw29:=Gw29.fr.size
   replace hS:=hS.Dw 0 rfl Gw29
   change Wx.Sep _ _ _ [_,_,_]at hS
   refine LW.A rfl (LW.nil (Ad (Ac (Aa (I rfl ?_)))))
   refine U (.ic rfl oQ) ?_
   refine LW.A rfl (LW.nil (Ar ?_))
   exact⟨(k+1,v96),⟨⟨by show k+1≤_;omega,by show k+1≤_;omega⟩,by rw[G2 hy hkl.2];exact hS.take 1⟩,tQ,by show xs.length-(k+1)<xs.length-k;omega⟩
  replace h62:=dQ h62
  refine Aa ?_
  refine U (.eql (.t rfl) (.const _)) ?_
  refine LW.A rfl (Ai ?_)
  refine CW.b rfl (fun h62=>?_) (fun h62=>?_)
  ·replace h62:=dQ h62
   refine Af ?_
   refine U (.fB 0 rfl) ?_
   refine A9 (.store sizeOf3 (.t rfl) (.const _) rfl hS.b2 bQ) ?_
   intro w30 Nw30
   have zw30:=Nw30.size
   replace hS:=hS.Dz 2 rfl (show Set_ _ w30 _ (({ Dc y with Kind:=1 }:Fact).cells) _ from Nw30)
   change Wx.Sep _ _ _ [_,_,_]at hS
   refine Am (Aa ?_)
   refine U (.Cn (j:=5) underlying87 sizeOf3 (.t rfl) (.const _) cQ) ?_
   refine U (.lb rfl (hS.b1.Ak rfl)) ?_
   refine A6 (eC (.ct rfl (.cons (.const _) .nil)) (K0)) rfl (Df _ _ _ cQ) ?_
   rintro _ w31 ⟨rfl,uw31⟩
   have zw31:=uw31.size
   replace hS:=hS.up uw31
   refine U (.fB 11 rfl) ?_
   refine A9 (.store sizeOf3 (.t rfl) (.t rfl) rfl hS.b2 bQ) ?_
   intro w32 Nw32
   have zw32:=Nw32.size
   replace hS:=hS.Dz 2 rfl (show Set_ _ w32 _ (({ Dc y with Kind:=1,Tool:=Bi y.f 3 }:Fact).cells) _ from Nw32)
   change Wx.Sep _ _ _ [_,_,_]at hS
   refine Am (Aa ?_)
   refine U (.Cn (j:=5) underlying87 sizeOf3 (.t rfl) (.const _) cQ) ?_
   refine U (.lb rfl (hS.b1.Ak rfl)) ?_
   refine U (.quo (.t rfl) (.const _) cQ) ?_
   refine A6 (eC (.ct rfl (.cons (.const _) .nil)) (K0)) rfl (Df _ _ _ cQ) ?_
   rintro _ w33 ⟨rfl,uw33⟩
   have zw33:=uw33.size
   replace hS:=hS.up uw33
   refine U (.fB 13 rfl) ?_
   refine A9 (.store sizeOf3 (.t rfl) (.t rfl) rfl hS.b2 bQ) ?_
   intro w34 Nw34
   have zw34:=Nw34.size
   replace hS:=hS.Dz 2 rfl (show Set_ _ w34 _ (({ Dc y with Kind:=1,Tool:=Bi y.f 3,Step:=Bi (wI (y.f.tdiv 3)) 4 }:Fact).cells) _ from Nw34)
   change Wx.Sep _ _ _ [_,_,_]at hS
   refine Am (Aa ?_)
   refine U (.fB 14 rfl) ?_
   refine A9 (.store sizeOf3 (.t rfl) (.const _) rfl hS.b2 bQ) ?_
   intro w35 Nw35
   have zw35:=Nw35.size
   replace hS:=hS.Dz 2 rfl (show Set_ _ w35 _ (({ Dc y with Kind:=1,Tool:=Bi y.f 3,Step:=Bi (wI (y.f.tdiv 3)) 4,Recipe:=1 }:Fact).cells) _ from Nw35)
   change Wx.Sep _ _ _ [_,_,_]at hS
   refine Am (Aa ?_)
   refine U (.fB 15 rfl) ?_
   refine A9 (.store sizeOf3 (.t rfl) (.const _) rfl hS.b2 bQ) ?_
   intro w36 Nw36
   have zw36:=Nw36.size
   replace hS:=hS.Dz 2 rfl (show Set_ _ w36 _ (({ Dc y with Kind:=1,Tool:=Bi y.f 3,Step:=Bi (wI (y.f.tdiv 3)) 4,Recipe:=1,Revision:=1 }:Fact).cells) _ from Nw36)
   change Wx.Sep _ _ _ [_,_,_]at hS
   refine Ai (Aa ?_)
   refine U (.fB 5 rfl) ?_
   refine U (.lb rfl (hS.b2.Ak rfl)) ?_
   refine U (.Gy (.t rfl) (.const _)) ?_
   refine U (.fB 6 rfl) ?_
   refine A9 (.store sizeOf3 (.t rfl) (.t rfl) rfl hS.b2 bQ) ?_
   intro w37 Nw37
   have zw37:=Nw37.size
   replace hS:=hS.Dz 2 rfl (show Set_ _ w37 _ (({ Dc y with Kind:=1,Tool:=Bi y.f 3,Step:=Bi (wI (y.f.tdiv 3)) 4,Recipe:=1,Revision:=1,Until:=wI ((Dc y).Time+5) }:Fact).cells) _ from Nw37)
   change Wx.Sep _ _ _ [_,_,_]at hS
   refine LW.nil (Ad (Ac ?_))
   first|rw[←L8 (by omega)]at hS|rw[←L9 (by omega)]at hS|rw[←Ma oQ oQ (by omega)]at hS
   have hsl:=Gh (xs.take k)
   refine Aa (I rfl ?_)
   refine U (.lc rfl (hS.b2.agg)) ?_
   refine Ao (.buildSlice (xs:=[Ik y]) (enc:=Fact.cells) (mk:=fun f:Fact=>.agg f.cells) underlying26 sizeOf74 zeroValue74 rfl cQ (fun _=>rfl) (fun _=>rfl) (.cu rfl) rfl) rfl ?_
   rintro _ w38 ⟨B95,cB95,rfl,NB95,yB95,xB95⟩
   have eB95:=NB95.at_
   have zB95:=NB95.size
   replace hS:=hS.up NB95.up
   have hE95:=xB95
   refine Ao (.Cu (enc:=Fact.cells) (bytes:=160) (i:=Tryz.t74) underlying26 kQ rfl rfl rfl rfl cQ (fun _=>rfl) Fact.one (.t rfl) (.t rfl) (hS.own 0 rfl) (Av hE95) (by have:=hsl;simp[maxLen];omega) (by have:=hsl;simp;omega)) rfl ?_
   intro v96 w39 Gw39
   have zw39:=Gw39.fr.size
   replace hS:=hS.Dw 0 rfl Gw39
   change Wx.Sep _ _ _ [_,_,_]at hS
   refine LW.A rfl (LW.nil (Ad (Ac (Aa (I rfl ?_)))))
   refine U (.ic rfl oQ) ?_
   refine LW.A rfl (LW.nil (Ar ?_))
   exact⟨(k+1,v96),⟨⟨by show k+1≤_;omega,by show k+1≤_;omega⟩,by rw[G2 hy hkl.2];exact hS.take 1⟩,tQ,by show xs.length-(k+1)<xs.length-k;omega⟩
  replace h62:=dQ h62
  refine Af ?_
  refine U (.eql (.t rfl) (.const _)) ?_
  refine LW.A rfl (Ai ?_)
  refine CW.b rfl (fun h81=>?_) (fun h81=>?_)
  ·replace h81:=dQ h81
   refine Af ?_
   refine U (.fB 0 rfl) ?_
   refine A9 (.store sizeOf3 (.t rfl) (.const _) rfl hS.b2 bQ) ?_
   intro w40 Nw40
   have zw40:=Nw40.size
   replace hS:=hS.Dz 2 rfl (show Set_ _ w40 _ (({ Dc y with Kind:=3 }:Fact).cells) _ from Nw40)
   change Wx.Sep _ _ _ [_,_,_]at hS
   refine Ai ?_
   refine Dh 8 kQ kQ kQ kQ kQ rfl rfl ?_
   refine Au (.fB 7 rfl) ?_
   refine Au (.lb rfl (hS.b2.Ak rfl)) ?_
   refine Au (.Cn (j:=5) underlying87 sizeOf3 (.t rfl) (.const _) cQ) ?_
   refine Au (.lb rfl (hS.b1.Ak rfl)) ?_
   refine HW.c (fun a w _ ha=>Ct (.ct rfl (.cons (.const _) .nil)) (K0) a ha) rfl rfl (fun w hu=>Df _ _ w cQ) ?_
   refine Au (.Gy (.t rfl) (.t rfl)) ?_
   refine Au (.rem (.t rfl) (.const _) cQ) ?_
   refine Au (.Gy (.const _) (.t rfl)) ?_
   refine HW.nil ?_
   intro w41 uw41
   have zw41:=uw41.size
   replace hS:=hS.up uw41
   refine U (.fB 8 rfl) ?_
   refine A9 (.store sizeOf3 (.t rfl) (.t rfl) rfl hS.b2 bQ) ?_
   intro w42 Nw42
   have zw42:=Nw42.size
   replace hS:=hS.Dz 2 rfl (show Set_ _ w42 _ (({ Dc y with Kind:=3,Other:=wI (1+(wI ((Dc y).Wafer+Bi y.f 5)).tmod 6) }:Fact).cells) _ from Nw42)
   change Wx.Sep _ _ _ [_,_,_]at hS
   refine LW.nil (Ad (Ac ?_))
   first|rw[←L8 (by omega)]at hS|rw[←L9 (by omega)]at hS|rw[←Ma oQ oQ (by omega)]at hS
   have hsl:=Gh (xs.take k)
   refine Aa (I rfl ?_)
   refine U (.lc rfl (hS.b2.agg)) ?_
   refine Ao (.buildSlice (xs:=[Ik y]) (enc:=Fact.cells) (mk:=fun f:Fact=>.agg f.cells) underlying26 sizeOf74 zeroValue74 rfl cQ (fun _=>rfl) (fun _=>rfl) (.cu rfl) rfl) rfl ?_
   rintro _ w43 ⟨B95,cB95,rfl,NB95,yB95,xB95⟩
   have eB95:=NB95.at_
   have zB95:=NB95.size
   replace hS:=hS.up NB95.up
   have hE95:=xB95
   refine Ao (.Cu (enc:=Fact.cells) (bytes:=160) (i:=Tryz.t74) underlying26 kQ rfl rfl rfl rfl cQ (fun _=>rfl) Fact.one (.t rfl) (.t rfl) (hS.own 0 rfl) (Av hE95) (by have:=hsl;simp[maxLen];omega) (by have:=hsl;simp;omega)) rfl ?_
   intro v96 w44 Gw44
   have zw44:=Gw44.fr.size
   replace hS:=hS.Dw 0 rfl Gw44
   change Wx.Sep _ _ _ [_,_,_]at hS
   refine LW.A rfl (LW.nil (Ad (Ac (Aa (I rfl ?_)))))
   refine U (.ic rfl oQ) ?_
   refine LW.A rfl (LW.nil (Ar ?_))
   exact⟨(k+1,v96),⟨⟨by show k+1≤_;omega,by show k+1≤_;omega⟩,by rw[G2 hy hkl.2];exact hS.take 1⟩,tQ,by show xs.length-(k+1)<xs.length-k;omega⟩
  replace h81:=dQ h81
  refine Af ?_
  refine U (.fB 0 rfl) ?_
  refine A9 (.store sizeOf3 (.t rfl) (.const _) rfl hS.b2 bQ) ?_
  intro w45 Nw45
  have zw45:=Nw45.size
  replace hS:=hS.Dz 2 rfl (show Set_ _ w45 _ (({ Dc y with Kind:=4 }:Fact).cells) _ from Nw45)
  change Wx.Sep _ _ _ [_,_,_]at hS
  refine Am (Aa ?_)
  refine U (.fB 1 rfl) ?_
  refine A9 (.store sizeOf3 (.t rfl) (.const _) rfl hS.b2 bQ) ?_
  intro w46 Nw46
  have zw46:=Nw46.size
  replace hS:=hS.Dz 2 rfl (show Set_ _ w46 _ (({ Dc y with Kind:=4,ID:=0 }:Fact).cells) _ from Nw46)
  change Wx.Sep _ _ _ [_,_,_]at hS
  refine Am (Aa ?_)
  refine U (.Cn (j:=5) underlying87 sizeOf3 (.t rfl) (.const _) cQ) ?_
  refine U (.lb rfl (hS.b1.Ak rfl)) ?_
  refine A6 (eC (.ct rfl (.cons (.const _) .nil)) (K0)) rfl (Df _ _ _ cQ) ?_
  rintro _ w47 ⟨rfl,uw47⟩
  have zw47:=uw47.size
  replace hS:=hS.up uw47
  refine U (.Gy (.const _) (.t rfl)) ?_
  refine U (.fB 9 rfl) ?_
  refine A9 (.store sizeOf3 (.t rfl) (.t rfl) rfl hS.b2 bQ) ?_
  intro w48 Nw48
  have zw48:=Nw48.size
  replace hS:=hS.Dz 2 rfl (show Set_ _ w48 _ (({ Dc y with Kind:=4,ID:=0,Lot:=wI (1+Bi y.f 3) }:Fact).cells) _ from Nw48)
  change Wx.Sep _ _ _ [_,_,_]at hS
  refine Ai (Aa ?_)
  refine U (.Cn (j:=5) underlying87 sizeOf3 (.t rfl) (.const _) cQ) ?_
  refine U (.lb rfl (hS.b1.Ak rfl)) ?_
  refine U (.quo (.t rfl) (.const _) cQ) ?_
  refine A6 (eC (.ct rfl (.cons (.const _) .nil)) (K0)) rfl (Df _ _ _ cQ) ?_
  rintro _ w49 ⟨rfl,uw49⟩
  have zw49:=uw49.size
  replace hS:=hS.up uw49
  refine U (.Gy (.const _) (.t rfl)) ?_
  refine U (.fB 10 rfl) ?_
  refine A9 (.store sizeOf3 (.t rfl) (.t rfl) rfl hS.b2 bQ) ?_
  intro w50 Nw50
  have zw50:=Nw50.size
  replace hS:=hS.Dz 2 rfl (show Set_ _ w50 _ (({ Dc y with Kind:=4,ID:=0,Lot:=wI (1+Bi y.f 3),Product:=wI (1+Bi (wI (y.f.tdiv 3)) 2) }:Fact).cells) _ from Nw50)
  change Wx.Sep _ _ _ [_,_,_]at hS
  refine LW.nil (Ad (Ac ?_))
  first|rw[←L8 (by omega)]at hS|rw[←L9 (by omega)]at hS|rw[←Ma oQ oQ (by omega)]at hS
  have hsl:=Gh (xs.take k)
  refine Aa (I rfl ?_)
  refine U (.lc rfl (hS.b2.agg)) ?_
  refine Ao (.buildSlice (xs:=[Ik y]) (enc:=Fact.cells) (mk:=fun f:Fact=>.agg f.cells) underlying26 sizeOf74 zeroValue74 rfl cQ (fun _=>rfl) (fun _=>rfl) (.cu rfl) rfl) rfl ?_
  rintro _ w51 ⟨B95,cB95,rfl,NB95,yB95,xB95⟩
  have eB95:=NB95.at_
  have zB95:=NB95.size
  replace hS:=hS.up NB95.up
  have hE95:=xB95
  refine Ao (.Cu (enc:=Fact.cells) (bytes:=160) (i:=Tryz.t74) underlying26 kQ rfl rfl rfl rfl cQ (fun _=>rfl) Fact.one (.t rfl) (.t rfl) (hS.own 0 rfl) (Av hE95) (by have:=hsl;simp[maxLen];omega) (by have:=hsl;simp;omega)) rfl ?_
  intro v96 w52 Gw52
  have zw52:=Gw52.fr.size
  replace hS:=hS.Dw 0 rfl Gw52
  change Wx.Sep _ _ _ [_,_,_]at hS
  refine LW.A rfl (LW.nil (Ad (Ac (Aa (I rfl ?_)))))
  refine U (.ic rfl oQ) ?_
  refine LW.A rfl (LW.nil (Ar ?_))
  exact⟨(k+1,v96),⟨⟨by show k+1≤_;omega,by show k+1≤_;omega⟩,by rw[G2 hy hkl.2];exact hS.take 1⟩,tQ,by show xs.length-(k+1)<xs.length-k;omega⟩
 replace h14:=dQ h14
 refine A4 (Ab (Ab (An (Ac (Af (I rfl (LW.A rfl (Ai (Al ?_)))))))))
 refine KW.q ?_
 rw[jZ (by simp at h14;omega)]at hS
 exact⟨Ih hS,hS.Ch⟩
end Go.Proofs.YtdilcdgjklimoaaGreatDoor
namespace Go.Wx
open Go.RowKit Go.MapKept
section
variable {P:Program}{n:Nat}{ds:List Deferred}{l:Env}{w:World}{d:Option Tmp}{ty:TypeId}{ps:String}{af:Array Edge}{g:Option (Nat×Bool)}
theorem O5{α β:Type}(f:α→β):∀(l:List α)(j:Nat),(l.eraseIdx j).map f=(l.map f).eraseIdx j
 |[],_=>rfl
 |_::_,0=>rfl
 |a::l,j+1=>by rw[List.eraseIdx_cons_succ,List.map_cons,O5 f l j,List.map_cons,List.eraseIdx_cons_succ]
theorem cI{kv:List (Int×Value)}{k:Int}{j:Nat}(hn:(kv.map (·.1)).Nodup){p:Int×Value}(hj:kv[j]?=some p)(hk:p.1=k):kv.filter (fun p=> !decide (p.1=k))=kv.eraseIdx j:=by
 refine Go.ChangeMaps.filter_eq_eraseIdx (fun p:Int×Value=>decide (p.1=k)) kv j p hj (decide_eq_true hk) ?_
 have h:=List.pairwise_map.1 hn
 exact h.imp fun{a b}hab hh=>hab ((of_decide_eq_true hh.1).trans (of_decide_eq_true hh.2).symm)
theorem Za{T K E:TypeId}{m x:Operand}{b r:Nat}{k:Int}{kv:List (Int×Value)}{done:List Int}(hT:P.underlying T=some (.map K E))(hK:P.underlying K=some (.int .i64))(hm:Val l m (.map (some b)))(hx:Val l x (vi k))(h:IRng w b r kv (done++[k])):
   REv P n ds l w ⟨d,.call { callee:=.builtin .delete,args:=#[m,x],argTypes:=#[T,K] },ty,ps,af,g⟩ (fun _ w'=>IRng w' b r (kv.filter fun p=> !decide (p.1=k)) done∧Sto b w w'∧w'.heap.size=w.heap.size):=fun a ha=>by
 obtain⟨es,clock,since,seen,c0,hb,hs,he,hr,hold,hsc,hsk,hd,hdn,hdk⟩:=h
 have hne:b≠r:=fun e=>by rw[e,hr]at hb;cases hb
 have hk:IsKey (.int .i64) (vi k):=rfl
 have hkm:k∈kv.map (·.1):=hdk k (by simp)
 have hkn:(kv.map (·.1)).Nodup:=E5 hs he
 rcases findNow_spec hk es.toList 0 (Fv he)with⟨h1,h2⟩|⟨j,e,h1,h2,h3⟩
 · exfalso
   obtain⟨p,hp,hpk⟩:=List.mem_map.1 hkm
   obtain⟨x',hx',hkx,_⟩:=De he hp
   exact h2 x' hx' (by rw[hkx,hpk])
 have hjs:j<es.size:=by have:=(List.getElem?_eq_some_iff.1 h2).1;simpa using this
 have hsub:(es.eraseIdxIfInBounds j).toList=es.toList.eraseIdx j:=by
   unfold Array.eraseIdxIfInBounds
   rw[dif_pos hjs]
   simp
 obtain⟨p,hp,hpk⟩:∃p,kv[j]?=some p∧p.1=k:=by
   have h4:(es.toList.map D9)[j]?=some (D9 e):=by rw[List.getElem?_map,h2];rfl
   rw[he,List.getElem?_map]at h4
   cases hkj:kv[j]? with
   |none=>rw[hkj]at h4;cases h4
   |some p=>
     rw[hkj]at h4
     refine⟨p,rfl,?_⟩
     have h5:Hi p=D9 e:=by simpa using h4
     have h6:vi p.1=e.key:=congrArg Prod.fst h5
     exact Q8 (h6.trans h3)
 have hf:=cI hkn hp hpk
 have he':(es.eraseIdxIfInBounds j).toList.map D9=(kv.filter fun p=> !decide (p.1=k)).map Hi:=by
   rw[hsub,hf,O5,he,←O5]
 have hset:=heap_set (o':=.map (es.eraseIdxIfInBounds j) clock) hb
 refine⟨.tuple #[],{ w with heap:=w.heap.setIfInBounds b (.map (es.eraseIdxIfInBounds j) clock) },?_,⟨_,clock,since,seen,c0,hset.1,stamped_erase hs j,he',(hset.2 r (Ne.symm hne)).trans hr,fun x hx=>hold x ?_,hsc,hsk,fun x hx k' hk'=>?_,?_,fun k' hk'=>?_⟩,⟨rfl,rfl,rfl,by simp,fun i _ hi=>hset.2 i hi⟩,by simp⟩
 · simp[execOp,resolve,invoke,builtin,ha.ev hm,ha.ev hx,Builtin.delete_,run_underlying hT,MapKept.run_getObj_map hb,MapKept.run_checkKey hK hk,MapKept.run_findKey hK h1,MapKept.run_setObj_map _ hb,Result.andThen]
 · rw[hsub]at hx
   exact(List.eraseIdx_sublist _ _).subset hx
 · have hx0:=hx
   rw[hsub]at hx
   rw[hd x ((List.eraseIdx_sublist _ _).subset hx) k' hk']
   obtain⟨k'',e1,e2⟩:=Fa he' x hx0
   have e3:k'=k'':=Q8 (hk'.symm.trans e1)
   have e4:=(List.mem_filter.1 e2).2
   have e5:k'≠k:=fun e=>by rw[←e3,e]at e4;simp at e4
   simp[e5]
 · exact(List.nodup_append.1 hdn).1
 have h6:=hdk k' (by simp[hk'])
 obtain⟨q,hq,hqk⟩:=List.mem_map.1 h6
 refine List.mem_map.2 ⟨q,List.mem_filter.2 ⟨hq,?_⟩,hqk⟩
 have:q.1≠k:=fun e=>(List.nodup_append.1 hdn).2.2 k' hk' k (by simp) (by rw[←hqk,e])
 simp[this]
end
theorem tZ{b r:Nat}{kv kv':List (Int×Value)}{done done':List Int}{w w':World}(h:IRng w' b r kv' done')(k:Sto b w w'):Stp (Fi b r kv done) (Fi b r kv' done') w w':=⟨k.fr.mono fun _ h=>.inl h,h,fun _ h=>.inl h⟩
theorem Ka{b:Nat}{kv kv':List (Int×Value)}{w w':World}(h:IMap w' b kv')(k:Sto b w w'):Stp (Bu b kv) (Bu b kv') w w':=⟨k.fr,h,fun _ h=>.inl h⟩
theorem cJ{b r:Nat}{kv:List (Int×Value)}{done:List Int}{w:World}(h:IRng w b r kv done):Stp (Fi b r kv done) (Bu b kv) w w:=⟨Fr.refl _ _,h.map,fun _ e=>.inl (.inl e)⟩
end Go.Wx
