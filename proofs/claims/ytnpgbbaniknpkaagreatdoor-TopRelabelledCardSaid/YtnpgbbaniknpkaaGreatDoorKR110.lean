import Derived.Test.YtnpgbbaniknpkaaGreatDoorKR19
import Derived.WideKeyEntry
namespace Go.Wx
open Go.RowKit Go.MapKept
open Go.ChangeMaps (setBlock)
def MidM(P:Program)(T:TypeId)(w:World)(b:Nat)(kv:List (Int×Value))(k:Int)(st:Nat):Prop:=
 ∃es1 clock1,w.heap[b]?=some (.map es1 clock1)∧∀(w2:World)(val:Value),w2.heap[b]?=some (.map es1 clock1)→∃w',(Instr.entryStore T (.map (some b)) (goInt st) val).run P w2=.ok () w'∧IMap w' b (Hu kv k val)∧Sto b w2 w'∧w'.heap.size=w2.heap.size
theorem MidM.up{P:Program}{T:TypeId}{w w':World}{b:Nat}{kv:List (Int×Value)}{k:Int}{st:Nat}(h:MidM P T w b kv k st)(u:Up w w'):MidM P T w' b kv k st:=
 let⟨es1,c1,h1,h2⟩:=h;⟨es1,c1,(u.block (lt_of_block h1)).trans h1,h2⟩
theorem MidM.Sh{P:Program}{T:TypeId}{w:World}{b:Nat}{kv:List (Int×Value)}{k:Int}{st:Nat}(h:MidM P T w b kv k st):∀ad v,ad.block=b→w.cell? ad≠some v:=by
 obtain⟨es,clock,hb,_⟩:=h
 intro ad v e
 unfold World.cell?
 rw[e,hb]
 simp
theorem MidM.Yz{P:Program}{T:TypeId}{w:World}{b:Nat}{kv:List (Int×Value)}{k:Int}{st:Nat}(h:MidM P T w b kv k st):∀(cs:Array Value)(T':TypeId)(x:Nat×Nat),w.heap[b]?≠some (Obj.cells cs T' x):=by
 obtain⟨es,clock,hb,_⟩:=h
 intro cs T' x e
 rw[hb]at e;cases e
section
variable {P:Program}{n:Nat}{ds:List Deferred}{l:Env}{w:World}{d:Option Tmp}{ty:TypeId}{ps:String}{af:Array Edge}{g:Option (Nat×Bool)}
theorem REv.mapEntry{T K E:TypeId}{m x:Operand}{b:Nat}{k:Int}{z:Value}{kv:List (Int×Value)}(hT:P.underlying T=some (.map K E))(hK:P.underlying K=some (.int .i64))(hz:∀w,(zeroValue E).run P w=.ok z w)(hm:Val l m (.map (some b)))(hx:Val l x (vi k))(h:IMap w b kv):
   REv P n ds l w ⟨d,.mapEntry T m x,ty,ps,af,g⟩ (fun v w'=>∃v0 st,v=.tuple #[v0,goInt (st:Nat)]∧MidM P T w' b kv k st∧Sto b w w'∧w'.heap.size=w.heap.size):=fun a ha=>by
 obtain⟨es,clock,hb,hs,he⟩:=h
 have hk:IsKey (.int .i64) (vi k):=rfl
 have fin:∀(w:World)(o o':Obj),w.heap[b]?=some o'→Sto b w { w with heap:=w.heap.setIfInBounds b o }:=fun w o o' hb=>⟨rfl,rfl,rfl,by simp,fun i _ hne=>(heap_set hb).2 i hne⟩
 rcases findNow_spec hk es.toList 0 (Hb he)with⟨h1,h2⟩|⟨j,e,h1,h2,h3⟩
 · refine⟨_,_,C0 (v:=.tuple #[z,goInt clock]) (w':={ w with heap:=w.heap.setIfInBounds b (.map (es.push { key:=vi k,val:=z,born:=clock }) (clock+1)) }) ?_,z,clock,rfl,⟨_,_,(heap_set hb).1,fun w2 val hw2=>⟨{ w2 with heap:=w2.heap.setIfInBounds b (.map (es.push { key:=vi k,val:=val,born:=clock }) (clock+1)) },?_,⟨_,_,(heap_set hw2).1,stamped_push hs h2,?_⟩,fin w2 _ _ hw2,by simp⟩⟩,fin w _ _ hb,by simp⟩
   · rw[ha.ev hm,ha.ev hx]
     simp[Instr.mapEntry,run_underlying hT,MapKept.run_getObj_map hb,MapKept.run_checkKey hK hk,MapKept.run_findKey hK h1,hz,MapKept.run_setObj_map _ hb,Result.andThen]
   · have hidx:(es.push ⟨vi k,z,clock⟩).findIdx? (fun e=>((e.born:Nat):Int)==((clock:Nat):Int))=some es.size:=by
       rw[Go.WideElems.findIdx_arr]
       exact Go.WideElems.findIdx_born (l:=(es.push ⟨vi k,z,clock⟩).toList) (j:=es.size) (e0:=⟨vi k,z,clock⟩) (stamped_push hs h2).2.1 (by simp)
     have hmod:(es.push ⟨vi k,z,clock⟩).modify es.size (fun e=>{ e with val:=val })=es.push ⟨vi k,val,clock⟩:=by
       apply gz
       rw[jf,Array.toList_push,Array.toList_push,←c9,Go.WideElems.modify_last]
     simp[Instr.entryStore,MapKept.run_getObj_map hw2,asInt,asIntOf,goInt,hidx,hmod,MapKept.run_setObj_map _ hw2,Result.andThen]
   have hni:k∉kv.map (·.1):=fun hmem=>by
     obtain⟨p,hp,hpk⟩:=bx.1 hmem
     obtain⟨x',hx',hkx,_⟩:=Gd he hp
     exact h2 x' hx' (by rw[hkx,hpk])
   rw[Hu,aq hni]
   simp[he,G6,Nc]
 have hj:es[j]?=some e:=by simpa using h2
 have hkey:∀(val:Value)e',es[j]?=some e'→({ e' with key:=vi k,val:=val }:MapEntry).key=e'.key:=fun _ e' he'=>by rw[hj]at he';cases he';exact h3.symm
 have hsame:es.modify j (fun e=>{ e with key:=vi k })=es:=by
   apply gz
   rw[jf,Go.ChangeMaps.modify_eq_set _ _ _ _ h2]
   have:({ e with key:=vi k }:MapEntry)=e:=by rw[←h3]
   rw[this]
   exact Go.WideElems.set_self _ _ _ h2
 refine⟨_,_,C0 (v:=.tuple #[e.val,goInt e.born]) (w':={ w with heap:=w.heap.setIfInBounds b (.map es clock) }) ?_,e.val,e.born,rfl,⟨_,_,(heap_set hb).1,fun w2 val hw2=>⟨{ w2 with heap:=w2.heap.setIfInBounds b (.map (es.modify j fun e=>{ e with key:=vi k,val:=val }) clock) },?_,⟨_,_,(heap_set hw2).1,stamped_modify hs _ _ (fun _ _=>rfl) (fun e' _ he'=>hkey val e' he'),K5 hs he hj h3⟩,fin w2 _ _ hw2,by simp⟩⟩,fin w _ _ hb,by simp⟩
 · rw[ha.ev hm,ha.ev hx]
   simp[Instr.mapEntry,run_underlying hT,MapKept.run_getObj_map hb,MapKept.run_checkKey hK hk,MapKept.run_findKey hK h1,hj,h3,run_keyThatStays hk,hsame,MapKept.run_setObj_map _ hb,Result.andThen]
 have hidx:es.findIdx? (fun x=>((x.born:Nat):Int)==((e.born:Nat):Int))=some j:=by
   rw[Go.WideElems.findIdx_arr]
   exact Go.WideElems.findIdx_born hs.2.1 h2
 have hmod:es.modify j (fun e=>{ e with val:=val })=es.modify j (fun e'=>{ e' with key:=vi k,val:=val }):=by
   apply gz
   rw[jf,jf,Go.ChangeMaps.modify_eq_set _ _ _ _ h2,Go.ChangeMaps.modify_eq_set _ _ _ _ h2,←h3]
 simp[Instr.entryStore,MapKept.run_getObj_map hw2,asInt,asIntOf,goInt,hidx,hmod,MapKept.run_setObj_map _ hw2,Result.andThen]
end
def asks(ops:Array Oper)(i j:Nat):Bool:=match ops[i]? with|some o=>o.after.any fun e=>Region.binds .any e&&Nat.beq e.on j|none=>false
theorem H6{ops:Array Oper}{i j:Nat}(h:asks ops i j=true){L:Nat→Bool}(hD:HS ops L)(hi:L i=true):L j=true:=by
 unfold asks at h
 split at h
 · rename_i o ho
   obtain⟨e,he,hh⟩:=fk.1 h
   simp only[b6]at hh
   have:=hD i o ho hi _ (ez he) hh.1
   rwa [ci hh.2]at this
 cases h
theorem S2{ops:Array Oper}{i j:Nat}(h:asks ops i j=true){o:Oper}(ho:ops[i]?=some o){L:Nat→Bool}(hed:∀e∈o.after,Region.binds .any e=true→L e.on=true):L j=true:=by
 unfold asks at h
 rw[ho]at h
 obtain⟨e,he,hh⟩:=fk.1 h
 simp only[b6]at hh
 have:=hed _ (ez he) hh.1
 rwa [ci hh.2]at this
theorem BU{n:Nat}{ds:List Deferred}{w:World}{t:Nat}{v:Value}{a:Go.Act}{env:Env}(ha:Ag n ds env a w)(hv:a.tmps.getD t undef=v):Ag n ds ((t,.eq v)::env) a w:=⟨ha.defers,ha.size,fun s q hs=>by
 by_cases e:s=t
 · subst e;rw[A9]at hs;cases hs;exact hv
 rw[Be e]at hs;exact ha.val s q hs⟩
def pI(P:Program)(T:TypeId)(b:Nat)(kv:List (Int×Value))(k1 k2:Int)(v1 v2:Value)(de dx:Nat)(e x s u:Nat)(w0:World)(L:Nat→Bool)(f:Nat→Value)(W:World):Prop:=
 Fr (· =b) w0 W∧(L e=false→IMap W b kv)∧(L e=true→L s=false→∃st:Nat,MidM P T W b kv k1 st∧(∃v0,f de=.tuple #[v0,goInt st])∧(L x=true→f dx=goInt st))∧
   (L s=true→L u=false→IMap W b (Hu kv k1 v1))∧(L u=true→IMap W b (Hu (Hu kv k1 v1) k2 v2))
section
variable {R:Option Nat}{m:Nat}{P:Program}{n:Nat}{ds:List Deferred}{Q:Exit→Go.Act→World→Prop}{l:Env}{w:World}{ops:Array Oper}
theorem dZ{id:Nat}{opsL:List Oper}(k b e x s u r1 r2 de dx m1 a1 c1 m2 a2 c2:Nat)(phs:List Ph){T K E:Nat}{z:Value}{kv:List (Int×Value)}{k1 k2:Int}{v1 v2:Value}(hT:P.underlying T=some (.map K E))(hK:P.underlying K=some (.int .i64))(hz:∀w,(zeroValue E).run P w=.ok z w)(hm:P.follows .mixedOrders=true)(hl:Cq l=true)
   (hA:Dz opsL.toArray=true)(hC:(Nat.beq k opsL.toArray.size||Fv opsL.toArray k)=true)(hF:Ik opsL.toArray k=true)(hks:Nat.ble k opsL.toArray.size=true)(hD:Gw n opsL.toArray 0 k=true)(hTl:Gv opsL.toArray k=true)(hfree:Ji l (opsL.take k)=true)
   (hask:(asks opsL.toArray e r1&&(asks opsL.toArray r1 r2&&(asks opsL.toArray x e&&(asks opsL.toArray s x&&asks opsL.toArray u s))))=true)(hlt:(Nat.ble (e+1) k&&(Nat.ble (x+1) k&&(Nat.ble (s+1) k&&Nat.ble (u+1) k)))=true)
   (hoe:∃ty ps af,opsL[e]?=some ⟨some de,.mapEntry T (.tmp m1) (.tmp a1),ty,ps,af,none⟩)(hox:∃ty ps af,opsL[x]?=some ⟨some dx,.extract (.tmp de) 1,ty,ps,af,none⟩)
   (hos:∃ty ps af,opsL[s]?=some ⟨none,.entryStore T (.tmp m1) (.tmp dx) (.tmp c1),ty,ps,af,none⟩)(hou:∃ty ps af,opsL[u]?=some ⟨none,.mapUpdate T (.tmp m2) (.tmp a2) (.tmp c2),ty,ps,af,none⟩)
   (hph:allC phs)(hpe:∀v W,(phs.getD e (.eq undef)).holds v W)(hpx:∀v W,(phs.getD x (.eq undef)).holds v W)
   (hve:∀o,opsL[e]?=some o→lk (Jt opsL.toArray (fun i=>phs.getD i (.eq undef)) 0 o++l) m1=some (.eq (.map (some b)))∧lk (Jt opsL.toArray (fun i=>phs.getD i (.eq undef)) 0 o++l) a1=some (.eq (vi k1)))
   (hvs:∀o,opsL[s]?=some o→lk (Jt opsL.toArray (fun i=>phs.getD i (.eq undef)) 0 o++l) m1=some (.eq (.map (some b)))∧lk (Jt opsL.toArray (fun i=>phs.getD i (.eq undef)) 0 o++l) c1=some (.eq v1))
   (hvu:∀o,opsL[u]?=some o→lk (Jt opsL.toArray (fun i=>phs.getD i (.eq undef)) 0 o++l) m2=some (.eq (.map (some b)))∧lk (Jt opsL.toArray (fun i=>phs.getD i (.eq undef)) 0 o++l) a2=some (.eq (vi k2))∧lk (Jt opsL.toArray (fun i=>phs.getD i (.eq undef)) 0 o++l) c2=some (.eq v2))
   (hM:IMap w b kv)
   (hop:∀W,Cel w.drew W→allL (fun i o=>(i=e∨i=x∨i=s∨i=u)∨(o.guard=none∧(((i=r1∨i=r2)→IMap W b kv)→TU P n ds (Jt opsL.toArray (fun i=>phs.getD i (.eq undef)) 0 o++l) W o (phs.getD i (.eq undef))))) 0 (opsL.take k))
   (hend:∀W,Fr (· =b) w.drew W→IMap W b (Hu (Hu kv k1 v1) k2 v2)→LW R m P n ds opsL.toArray Q (opsL.drop k) l W):
   CW R m P n ds (.region id opsL.toArray true) Q l w:=by
 simp only[b6]at hask hlt
 obtain⟨ae,ar,ax,as_,au⟩:=hask
 obtain⟨ke,kx,ks,ku⟩:=hlt
 have ke:=a_ ke
 have kx:=a_ kx
 have ks:=a_ ks
 have ku:=a_ ku
 have hks':k≤opsL.length:=by have:=a_ hks;simp at this;omega
 have sub:∀j o,j<k→opsL.toArray[j]?=some o→(opsL.take k)[j]?=some o:=fun j o hjk ho=>by
   rw[dm hjk];simpa using ho
 have hbd:∀i ph,lk l i=some ph→∀(j:Nat)(o:Oper),0≤j→j<k→opsL.toArray[j]?=some o→o.dst≠some i:=fun i ph hi j o _ hjk ho=>Gf hfree hi (ai (sub j o hjk ho))
 obtain⟨ty1,ps1,af1,hoe⟩:=hoe
 obtain⟨ty2,ps2,af2,hox⟩:=hox
 obtain⟨ty3,ps3,af3,hos⟩:=hos
 obtain⟨ty4,ps4,af4,hou⟩:=hou
 have hde:∀i o,i<k→i≠e→opsL.toArray[i]?=some o→o.dst≠some de:=fun i o hik hne ho hd=>
   (Da hD (a8 _) hik ho hd).2 e _ (a8 _) ke (Ne.symm hne) (by simpa using hoe) rfl
 have hdx:∀i o,i<k→i≠x→opsL.toArray[i]?=some o→o.dst≠some dx:=fun i o hik hne ho hd=>
   (Da hD (a8 _) hik ho hd).2 x _ (a8 _) kx (Ne.symm hne) (by simpa using hox) rfl
 have hne:e≠x∧e≠s∧e≠u∧x≠s∧x≠u∧s≠u:=by
   refine⟨?_,?_,?_,?_,?_,?_⟩<;>intro h<;>subst h<;>simp_all
 obtain⟨nex,nes,neu,nxs,nxu,nsu⟩:=hne
 refine Db hm hl fun fuel listed a hf hu ha=>(H3 (k:=k) (f0:=fun t=>a.tmps.getD t undef) (fun i=>phs.getD i (.eq undef)) Cel (pI P T b kv k1 k2 v1 v2 de dx e x s u w.drew) Cel.refl (fun _ _ _=>Cel.trans) (fun i v w w' h u=>(hph.at i) v w w' h u) hA hC hF hks (by simp) hD hl hbd ?_ ?_ ?_ fuel listed a hf hu ha (fun _=>rfl))
 · intro i o _ hik hio L f W hRel hDn hLi hed ⟨hFr,I1,I2,I3,I4⟩
   have hup:L e=false→L s=false:=fun h=>by
     cases hs:L s with
     |false=>rfl
     |true=>rw[H6 ax hDn (H6 as_ hDn hs)]at h;cases h
   have hsu:L s=false→L u=false:=fun h=>by
     cases hs:L u with
     |false=>rfl
     |true=>rw[H6 au hDn hs]at h;cases h
   have hxs:L x=false→L s=false:=fun h=>by
     cases hs:L s with
     |false=>rfl
     |true=>rw[H6 as_ hDn hs]at h;cases h
   have hex:L e=false→L x=false:=fun h=>by
     cases hs:L x with
     |false=>rfl
     |true=>rw[H6 ax hDn hs]at h;cases h
   by_cases e1:i=e
   · subst e1
     have hio':opsL[i]?=some o:=by simpa using hio
     rw[hoe]at hio';cases hio'
     intro a ha hsl
     rw[bh (by simp[Region.wanted])]
     obtain⟨q1,q2⟩:=hve _ hoe
     have hM:=I1 hLi
     obtain⟨v,W',hr,v0,st,rfl,hMid,hsto,hzz⟩:=REv.mapEntry (P:=P) (n:=n) (ds:=ds) (w:=W) (d:=some de) (ty:=ty1) (ps:=ps1) (af:=af1) (g:=none) hT hK hz (.tmp q1) (.tmp q2) hM a ha
     refine .inl (.inl ⟨_,W',hr,hsto.G7 oQ hM.Sh hM.Yz,fun _ _=>hpe _ _,hFr.trans (hsto.fr.mono fun _ h=>h),fun h=>?_,fun _ _=>⟨st,hMid,⟨v0,by simp[Dv]⟩,fun h=>?_⟩,fun h=>?_,fun h=>?_⟩)
     · simp[Cs]at h
     · rw[Cs,aq (Ne.symm nex),hex hLi]at h;cases h
     · rw[Cs,aq (Ne.symm nes),hup hLi]at h;cases h
     rw[Cs,aq (Ne.symm neu),hsu (hup hLi)]at h;cases h
   by_cases e2:i=x
   · subst e2
     have hio':opsL[i]?=some o:=by simpa using hio
     rw[hox]at hio';cases hio'
     intro a ha hsl
     rw[bh (by simp[Region.wanted])]
     have hLe:L e=true:=S2 ax hio hed
     obtain⟨st,hMid,⟨v0,hv0⟩,_⟩:=I2 hLe (hxs hLi)
     have hag:Ag n ds [(de,.eq (.tuple #[v0,goInt st]))] a W:=⟨ha.defers,ha.size,fun t q ht=>by
       by_cases ee:t=de
       · subst ee;rw[A9]at ht;cases ht;exact(hsl _).trans hv0
       rw[Be ee]at ht;cases ht⟩
     have hr:=PEv.extract (P:=P) (n:=n) (ds:=ds) (w:=W) (d:=some dx) (ty:=ty2) (ps:=ps2) (af:=af2) (g:=none) (i:=1) (v:=goInt st) (.tmp (A9 (ph:=.eq (.tuple #[v0,goInt st])))) rfl a W hag (Up.refl W)
     refine .inl (.inl ⟨_,W,hr,Cel.refl W,fun _ _=>hpx _ _,hFr,fun h=>?_,fun _ _=>⟨st,hMid,⟨v0,?_⟩,fun _=>by simp[Dv]⟩,fun h=>?_,fun h=>?_⟩)
     · rw[Cs,aq nex,hLe]at h;cases h
     · have:dx≠de:=fun ee=>hde i _ hik (Ne.symm nex) hio (by rw[ee])
       simp[Dv,this,hv0]
     · rw[Cs,aq (Ne.symm nxs),hxs hLi]at h;cases h
     rw[Cs,aq (Ne.symm nxu),hsu (hxs hLi)]at h;cases h
   by_cases e3:i=s
   · subst e3
     have hio':opsL[i]?=some o:=by simpa using hio
     rw[hos]at hio';cases hio'
     intro a ha hsl
     rw[bh (by simp[Region.wanted])]
     have hLx:L x=true:=S2 as_ hio hed
     have hLe:L e=true:=H6 ax hDn hLx
     obtain⟨st,hMid,_,hfx⟩:=I2 hLe hLi
     obtain⟨q1,q2⟩:=hvs _ hos
     have v1':∀(t:Nat)(v:Value),lk (Jt opsL.toArray (fun i=>phs.getD i (.eq undef)) 0 ⟨none,.entryStore T (.tmp m1) (.tmp dx) (.tmp c1),ty3,ps3,af3,none⟩++l) t=some (.eq v)→a.tmps.getD t undef=v:=fun t v h=>ha.val t _ h
     have hag2:∀(t:Nat)(v:Value),a.tmps.getD t undef=v→Ag n ds [(t,.eq v)] a W:=fun t v hv=>⟨ha.defers,ha.size,fun t' q ht=>by
       by_cases ee:t'=t
       · subst ee;rw[A9]at ht;cases ht;exact hv
       rw[Be ee]at ht;cases ht⟩
     obtain⟨W',h3,hM',hsto,hzz⟩:∃w',(execOp a.eval ⟨none,.entryStore T (.tmp m1) (.tmp dx) (.tmp c1),ty3,ps3,af3,none⟩).run P W=.ok .skip w'∧IMap w' b (Hu kv k1 v1)∧Sto b W w'∧w'.heap.size=W.heap.size:=by
       obtain⟨es1,cc1,h1,h2⟩:=hMid
       obtain⟨w',h3,h4⟩:=h2 W v1 h1
       refine⟨w',Qu ?_,h4⟩
       rw[(hag2 m1 _ (v1' m1 _ q1)).ev (.tmp A9),(hag2 dx _ ((hsl dx).trans (hfx hLx))).ev (.tmp A9),(hag2 c1 _ (v1' c1 _ q2)).ev (.tmp A9)]
       exact h3
     refine .inr ⟨W',h3,hsto.G7 oQ hMid.Sh hMid.Yz,(fun d hd=>by cases hd),hFr.trans (hsto.fr.mono fun _ h=>h),fun h=>?_,fun _ h=>?_,fun _ _=>hM',fun h=>?_⟩
     · rw[Cs,aq nes,hLe]at h;cases h
     · simp[Cs]at h
     rw[Cs,aq (Ne.symm nsu),hsu hLi]at h;cases h
   by_cases e4:i=u
   · subst e4
     have hio':opsL[i]?=some o:=by simpa using hio
     rw[hou]at hio';cases hio'
     intro a ha hsl
     rw[bh (by simp[Region.wanted])]
     have hLs:L s=true:=S2 au hio hed
     have hLe:L e=true:=H6 ax hDn (H6 as_ hDn hLs)
     have hM:=I3 hLs hLi
     obtain⟨q1,q2,q3⟩:=hvu _ hou
     obtain⟨W',hr,hM',hsto,hzz⟩:=SEv.mapUpdate (P:=P) (n:=n) (ds:=ds) (w:=W) (ty:=ty4) (ps:=ps4) (af:=af4) (g:=none) hT hK (.tmp q1) (.tmp q2) (.tmp q3) hM a ha
     refine .inr ⟨W',hr,hsto.G7 oQ hM.Sh hM.Yz,(fun d hd=>by cases hd),hFr.trans (hsto.fr.mono fun _ h=>h),fun h=>?_,fun _ h=>?_,fun _ h=>?_,fun _=>hM'⟩
     · rw[Cs,aq neu,hLe]at h;cases h
     · rw[Cs,aq nsu,hLs]at h;cases h
     simp[Cs]at h
   have h0:=(hop W hRel).at (sub i o hik hio)
   rw[dp]at h0
   rcases h0 with h0|⟨hg,h0⟩
   · rcases h0 with h0|h0|h0|h0
     · exact absurd h0 e1
     · exact absurd h0 e2
     · exact absurd h0 e3
     exact absurd h0 e4
   have hrd:(i=r1∨i=r2)→IMap W b kv:=fun h=>I1 (by
     cases hLe:L e with
     |false=>rfl
     |true=>
       have h1:=H6 ae hDn hLe
       have h2:=H6 ar hDn h1
       rcases h with h|h
       · rw[h,h1]at hLi;cases hLi
       rw[h,h2]at hLi;cases hLi)
   intro a ha hsl
   rw[bh (by simp[Region.wanted,hg])]
   have done:∀v W',Up W W'∧(phs.getD i (.eq undef)).holds v W'→Cel W W'∧(∀d,o.dst=some d→(phs.getD i (.eq undef)).holds v W')∧pI P T b kv k1 k2 v1 v2 de dx e x s u w.drew (Cs L i) (Dv f o.dst v) W':=by
     rintro v W' ⟨hu,hv⟩
     have f1:Dv f o.dst v de=f de:=by simp[Dv,hde i o hik e1 hio]
     have f2:Dv f o.dst v dx=f dx:=by simp[Dv,hdx i o hik e2 hio]
     have le:Cs L i e=L e:=by simp[Cs,Ne.symm e1]
     have lx:Cs L i x=L x:=by simp[Cs,Ne.symm e2]
     have ls:Cs L i s=L s:=by simp[Cs,Ne.symm e3]
     have lu:Cs L i u=L u:=by simp[Cs,Ne.symm e4]
     unfold pI
     rw[le,lx,ls,lu,f1,f2]
     exact⟨hu.G7,fun _ _=>hv,hFr.trans (hu.fr _),fun h=>(I1 h).up hu,fun h h2=>let⟨st,h3,h4⟩:=I2 h h2;⟨st,h3.up hu,h4⟩,fun h h2=>(I3 h h2).up hu,fun h=>(I4 h).up hu⟩
   rcases h0 hrd a ha with⟨v,W',hr,hp⟩|⟨fn,args,w1,hr,hc⟩
   · exact .inl (.inl ⟨v,W',hr,done v W' hp⟩)
   exact .inl (.inr ⟨fn,args,w1,hr,hc.mono done⟩)
 · exact⟨Fr.refl _ _,fun _=>hM.up (Up.drew w),fun h=>by simp at h,fun h=>by simp at h,fun h=>by simp at h⟩
 intro f W hRel ⟨hFr,_,_,_,I4⟩ fuel' listed' a' hf' hu' ha' hsl'
 refine E4 hTl hA (opsL.toArray.size-k) k fuel' listed' a' W rfl (by simp;omega) (bl _) hf' hu' (hend W hFr (I4 (bj ku)) a' ⟨ha'.defers,ha'.size,fun t q ht=>ha'.val t q ?_⟩)
 rw[F8]
 · exact ht
 cases hq:lk (Hg opsL.toArray (fun i=>phs.getD i (.eq undef)) 0 k) t with
 |none=>rfl
 |some q'=>
   obtain⟨j,p,_,hjk,hp,hpd,_⟩:=Fg hq
   exact absurd hpd (hbd t q ht j p (a8 _) hjk hp)
end
end Go.Wx
namespace Go.Wx
def Ls(b:Bool):Array Value:=#[.bool b]
theorem pJ{α:Type}{enc:α→Array Value}{x0:α}{u:Value}{w:World}{B:Nat}{e:TypeId}{m:Nat}(h1:enc x0=#[u])(hB:Blk w B (List.replicate m u).toArray e)(hm:m≤maxLen):OwnS w 0 e 1 enc (.slice (some ⟨B,0,none⟩) m m) (List.replicate m x0):=by
 have hf:((List.replicate m x0).flatMap fun x=>(enc x).toList)=List.replicate m u:=by
   clear hB hm
   induction m with
   |zero=>rfl
   |succ m ih=>rw[List.replicate_succ,cw,ih,h1,List.replicate_succ];rfl
 have h:OwnS w 0 e 1 enc (.slice (some ⟨B,0,none⟩) (List.replicate m x0).length m) (List.replicate m x0):=by
   refine⟨by rw[hf];simp,.inr ⟨B,m,(List.replicate m u).toArray,rfl,a8 _,hB,by simp,hm,by simp,?_⟩⟩
   rw[hf]
   simp
 rw[gh]at h
 exact h
section
variable {P:Program}{n:Nat}{ds:List Deferred}{l:Env}{w:World}{d:Option Tmp}{ty:TypeId}{ps:String}{af:Array Edge}{g:Option (Nat×Bool)}
theorem REv.pK{α:Type}{enc:α→Array Value}{x0:α}{u:Value}{T e:TypeId}{i:TypeInfo}{x y:Operand}{m:Nat}(h1:enc x0=#[u])(hc:u.cells=#[u])(hT:P.underlying T=some (.slice e))(hi:P.info? e=some i)(hz:i.zero=some u)(hs:i.size=1)(hb:i.bytes≤8)(hx:Val l x (vi (m:Int)))(hy:Val l y (vi (m:Int)))(hm:m≤1000):
   REv P n ds l w ⟨d,.makeSlice T x y,ty,ps,af,g⟩ (fun v w'=>Up w w'∧∃B,w.heap.size≤B∧v=.slice (some ⟨B,0,none⟩) m m∧OwnS w' 0 e 1 enc (.slice (some ⟨B,0,none⟩) m m) (List.replicate m x0)):=fun a ha=>by
 have hr2:=run_make (P:=P) w T e i u hT hi hz .i64 .i64 (m:Int) (m:Int) oQ (jb _) (by have h:=Nat.mul_le_mul hb hm;omega) oQ
 rw[hs,fz,jj]at hr2
 have e1:madeCells u.cells m=(List.replicate m u).toArray:=by
   apply gz
   rw[hc,toList_madeCells_one]
 rw[e1]at hr2
 have N:=New.alloc w (List.replicate m u).toArray e
 exact⟨_,_,C0 (by rw[ha.ev hx,ha.ev hy];exact hr2),N.up,_,by rw[N.at_];exact bl _,rfl,pJ h1 N.blk (by unfold maxLen;omega)⟩
theorem REv.yH{α:Type}{enc:α→Array Value}{x0:α}{u:Value}{T e:TypeId}{i:TypeInfo}{x y:Operand}(h1:enc x0=#[u])(hc:u.cells=#[u])(hT:P.underlying T=some (.slice e))(hi:P.info? e=some i)(hz:i.zero=some u)(hs:i.size=1)(hb:i.bytes≤8)(hx:Val l x (vi 3))(hy:Val l y (vi 3)):
 REv P n ds l w ⟨d,.makeSlice T x y,ty,ps,af,g⟩ (fun v w'=>Up w w'∧∃B,w.heap.size≤B∧v=.slice (some ⟨B,0,none⟩) 3 3∧OwnS w' 0 e 1 enc (.slice (some ⟨B,0,none⟩) 3 3) (List.replicate 3 x0)):=REv.pK h1 hc hT hi hz hs hb hx hy cQ
end
def iG(k:Nat):List Bool:=[false,decide (1≤k),decide (2≤k)]
theorem Nx{P:Program}{n:Nat}{ds:List Deferred}{l:Env}{w:World}{d:Option Tmp}{ty:TypeId}{ps:String}{af:Array Edge}{g:Option (Nat×Bool)}{T T' e:TypeId}{x:Operand}{p:Option Addr}(hT:P.underlying T=some (.pointer e))(hx:Val l x (.pointer p)):PEv P n ds l w ⟨d,.binOp .neq T x (.const (.pointer none)) T',ty,ps,af,g⟩ (.bool p.isSome):=fun a w' ha _=>by
 refine C0 ?_
 have e1:a.eval (.const (.pointer none))=.pointer none:=rfl
 rw[ha.ev hx,e1,Sem.run_bind]
 have:(eqGuard .neq T x (.const (.pointer none)) (.pointer p) (.pointer none)).run P w'=.ok () w':=by unfold eqGuard;rfl
 rw[this]
 have hp:P.pointee T=e:=by unfold Program.pointee;rw[hT]
 have h:=run_neq_pointer_nil w' T p (by rw[hp];exact hT)
 cases p<;>exact h
def eD(k j:Nat):Ordering:=if j=0∨(k=0∧j=2)then .lt else if(k=0∧j=1)∨(k=1∧j=2)then .eq else .gt
def kV(k j:Nat):Int:=if k=0∧2≤j then 1 else if k=1∧3≤j then 2 else -1
def pL(b1 k:Nat)(b2:Nat):List (Option Nat):=[.none,some b1,if k=0 then .none else some b2]
theorem zT{b1 b2 k j:Nat}(hj:j<3)(h:eD k j=.lt):(pL b1 k b2)[j]?=some .none∧kV k (j+1)=kV k j:=by
 unfold eD at h
 split at h
 · rename_i h1
   rcases h1 with rfl|⟨rfl,rfl⟩
   · refine⟨rfl,?_⟩
     unfold kV
     rw[aq oQ,aq oQ,aq oQ,aq (by omega)]
   exact⟨rfl,rfl⟩
 split at h<;>cases h
theorem zV{b1 b2 k j:Nat}(h:eD k j=.eq):(∃b,(pL b1 k b2)[j]?=some (some b))∧(iG k)[j]?=some false∧kV k j= -1∧kV k (j+1)=(j:Int):=by
 unfold eD at h
 split at h
 · cases h
 split at h
 · rename_i h1
   rcases h1 with⟨rfl,rfl⟩|⟨rfl,rfl⟩
   · exact⟨⟨_,rfl⟩,rfl,rfl,rfl⟩
   exact⟨⟨_,rfl⟩,rfl,rfl,rfl⟩
 cases h
theorem zW{b1 b2 k j:Nat}(hj:j<3)(hk:k≤2)(h:eD k j=.gt):(∃b,(pL b1 k b2)[j]?=some (some b))∧(iG k)[j]?=some true∧kV k (j+1)=kV k j:=by
 have:(k=1∧j=1)∨(k=2∧j=1)∨(k=2∧j=2):=by
   unfold eD at h
   split at h
   · cases h
   split at h
   · cases h
   omega
 rcases this with⟨rfl,rfl⟩|⟨rfl,rfl⟩|⟨rfl,rfl⟩<;>exact⟨⟨_,rfl⟩,rfl,rfl⟩
def eE(b1:Nat)(z:Option Nat):List (Option Nat):=[.none,some b1,z]
theorem zX{b1 k:Nat}{z:Option Nat}(hz:(k=0∧z=.none)∨(1≤k∧z.isSome=true)):∃b2,eE b1 z=pL b1 k b2:=by
 rcases hz with⟨rfl,rfl⟩|⟨h,hz⟩
 · exact⟨0,rfl⟩
 obtain⟨b2,rfl⟩:=f7.1 hz
 exact⟨b2,by unfold eE pL;rw[aq (by omega)]⟩
theorem uF{k:Nat}(hk:k≤2)(h:kV k 3<0):k=2:=match k,hk,h with
 |0,_,h=>absurd h cQ
 |1,_,h=>absurd h cQ
 |2,_,_=>rfl
 |k+3,h,_=>by omega
theorem zY{k:Nat}(hk:k≤2)(h:¬kV k 3<0):k<2:=match k,hk,h with
 |0,_,_=>by decide
 |1,_,_=>by decide
 |2,_,h=>absurd cQ h
 |k+3,h,_=>by omega
theorem PEv.Xg{P:Program}{n:Nat}{ds:List Deferred}{l:Env}{w:World}{d:Option Tmp}{ty:TypeId}{ps:String}{af:Array Edge}{g:Option (Nat×Bool)}{T T' e:TypeId}{x:Operand}{ad:Option Addr}{m c:Nat}(hT:P.underlying T=some (.slice e))(hx:Val l x (.slice ad m c)):PEv P n ds l w ⟨d,.binOp .eql T x (.const (.slice none 0 0)) T',ty,ps,af,g⟩ (.bool ad.isNone):=fun a w' ha _=>by
 refine C0 ?_
 have e1:a.eval (.const (.slice none 0 0))=.slice none 0 0:=rfl
 rw[ha.ev hx,e1,Sem.run_bind]
 have:(eqGuard .eql T x (.const (.slice none 0 0)) (.slice ad m c) (.slice none 0 0)).run P w'=.ok () w':=by unfold eqGuard;rfl
 rw[this]
 exact Lib.run_eql_slice_nil w' T e ad m c 0 0 hT
theorem GY(k:Nat):kV k 0= -1:=by
 unfold kV
 rw[aq oQ,aq (by omega)]
def It(D:List Bool)(n:Nat):Bool:=D.getD n false
def uG(D E:List Bool):Prop:=∀n,It D n=true→It E n=true
theorem O1{D:List Bool}{n m:Nat}(h:n<D.length):It (D.set n true) m=(decide (n=m)||It D m):=by
 unfold It
 rw[cg,cg,gm]
 by_cases e:n=m
 · subst e;simp[h]
 simp[e]
theorem uH{D:List Bool}{n:Nat}(h:n<D.length):uG D (D.set n true):=fun m hm=>by rw[O1 h,hm,Bool.or_true]
def Vw(D:List Bool):Nat:=D.count false
theorem Mw:∀{D:List Bool}{n:Nat},n<D.length→It D n=false→Vw (D.set n true)+1=Vw D
 |[],_,h,_=>by simp at h
 |a::D,0,_,h=>by
   have:a=false:=h
   subst this
   simp[Vw]
 |a::D,n+1,h,e=>by
   have ih:=Mw (D:=D) (n:=n) (by simpa using h) (by simpa[It]using e)
   unfold Vw at ih⊢
   rw[gx,jt,jt]
   omega
theorem pM:∀{D E:List Bool},D.length=E.length→uG D E→Vw E≤Vw D
 |[],[],_,_=>bl _
 |a::D,b::E,hl,h=>by
   have ih:=pM (D:=D) (E:=E) (by simpa using hl) (fun n hn=>by simpa[It]using h (n+1) (by simpa[It]using hn))
   have h0:a=true→b=true:=by simpa[It]using h 0
   unfold Vw at ih⊢
   rw[jt,jt]
   cases a<;>cases b<;>simp_all<;>omega
def HV(af:Nat→List Nat)(D:List Bool):Prop:=∀m,It D m=true→∀k∈af m,It D k=true
structure Vis(af:Nat→List Nat)(D E:List Bool)(n:Nat):Prop where
 len:E.length=D.length
 le:uG D E
 at_:It E n=true
 cl:∀m,It E m=true→It D m=false→∀k∈af m,It E k=true
 mn:∀C,HV af C→uG D C→It C n=true→uG E C
structure VisL(af:Nat→List Nat)(D E:List Bool)(n:Nat)(l:List Nat):Prop where
 len:E.length=D.length
 le:uG D E
 at_:It E n=true
 cl:∀m,m≠n→It E m=true→It D m=false→∀k∈af m,It E k=true
 done:∀k∈l,It E k=true
 mn:∀C,HV af C→uG D C→It C n=true→uG E C
theorem zZ{D C:List Bool}{n m:Nat}(h:n<D.length)(h1:uG D C)(h2:It C n=true)(hm:It (D.set n true) m=true):It C m=true:=by
 rw[O1 h]at hm
 rcases j4.1 hm with e|e
 · rw[←b9 e];exact h2
 exact h1 m e
theorem VisL.start{af:Nat→List Nat}{D:List Bool}{n:Nat}(h:n<D.length):VisL af D (D.set n true) n []:=
 ⟨d9,uH h,by rw[O1 h];simp,fun m hm h1 h2=>by rw[O1 h,h2]at h1;simp at h1;exact absurd h1.symm hm,fun k hk=>(by cases hk),fun C _ h1 h2 m hm=>zZ h h1 h2 hm⟩
theorem VisL.skip{af:Nat→List Nat}{D E:List Bool}{n k:Nat}{l:List Nat}(h:VisL af D E n l)(hk:It E k=true):VisL af D E n (l++[k]):=
 ⟨h.len,h.le,h.at_,h.cl,fun x hx=>(bt.1 hx).elim (h.done x) (fun hx=>by rw[bn.1 hx];exact hk),h.mn⟩
theorem VisL.more{af:Nat→List Nat}{D E G:List Bool}{n k:Nat}{l:List Nat}(h:VisL af D E n l)(hk:k∈af n)(v:Vis af E G k):VisL af D G n (l++[k]):=
 ⟨v.len.trans h.len,fun m hm=>v.le m (h.le m hm),v.le n h.at_,fun m hm h1 h2 x hx=>by
   by_cases he:It E m=true
   · exact v.le x (h.cl m hm he h2 x hx)
   exact v.cl m h1 (by simpa using he) x hx,
  fun x hx=>(bt.1 hx).elim (fun hx=>v.le x (h.done x hx)) (fun hx=>by rw[bn.1 hx];exact v.at_),fun C hC h1 h2=>v.mn C hC (h.mn C hC h1 h2) (hC n h2 k hk)⟩
theorem VisL.fin{af:Nat→List Nat}{D E:List Bool}{n:Nat}(h:VisL af D E n (af n)):Vis af D E n:=
 ⟨h.len,h.le,h.at_,fun m h1 h2 k hk=>by
   by_cases e:m=n
   · subst e;exact h.done k hk
   exact h.cl m e h1 h2 k hk,h.mn⟩
theorem Vis.KH{af:Nat→List Nat}{N n:Nat}{E:List Bool}(v:Vis af (List.replicate N false) E n):HV af E:=fun m hm=>v.cl m hm (by unfold It;rw[cg,List.getElem?_replicate];split<;>rfl)
theorem iH(af nx:Nat→List Nat)(N:Nat)(hsub:∀m,∀k∈nx m,k∈af m)(hfw:∀m,∀k∈nx m,m<k∧k<N):∀(j m:Nat),m<N→N-m≤j→∃e,e<N∧nx e=[]∧∀D,HV af D→It D m=true→It D e=true
 |0,m,h,hj=>by omega
 |j+1,m,h,hj=>by
   cases hn:nx m with
   |nil=>exact⟨m,h,hn,fun D _ hD=>hD⟩
   |cons k r=>
     have hk:k∈nx m:=by rw[hn];exact b7
     obtain⟨e,h1,h2,h3⟩:=iH af nx N hsub hfw j k (hfw m k hk).2 (by have:=(hfw m k hk).1;omega)
     exact⟨e,h1,h2,fun D hD hm=>h3 D hD (hD m hm k (hsub m k hk))⟩
theorem pN{α:Type}{enc:α→Array Value}{w:World}{ad:Option Addr}{k:Nat}{xs:List α}(hE:Els w ad k enc xs)(hs:∀x,(enc x).size=k)(hk:0<k)(hne:xs≠[]){B o:Nat}(e:ad=some ⟨B,o,none⟩):B<w.heap.size:=by
 cases xs with
 |nil=>exact absurd rfl hne
 |cons x l=>
   obtain⟨B',o',e',hc⟩:=hE 0 x rfl
   rw[e]at e'
   cases e'
   exact block_lt_of_cell (hc 0 _ (ce (by rw[hs];exact hk)))
structure FlR(b:Nat)(w:World)(sa:Option Addr)(L:List Sk):Prop where
 E:Els w sa 7 Sk.cells L
 p:∀s∈L,Els w s.na 1 A3 s.nx
 ls:L≠[]→∀B o,sa=some ⟨B,o,none⟩→B<b
 ln:∀s∈L,s.nx≠[]→∀B o,s.na=some ⟨B,o,none⟩→B<b
theorem iI{α:Type}{X:Nat→Prop}{enc:α→Array Value}{w w':World}{ad:Option Addr}{k b:Nat}{xs:List α}(h:Els w ad k enc xs)(f:Fr X w w')(hX:∀i,X i→b≤i)(hb:xs≠[]→∀B o,ad=some ⟨B,o,none⟩→B<b):Els w' ad k enc xs:=fun i x hx=>
 Els.fr h f (fun B o e hB=>by have:=hX B hB;have:=hb (fun e=>by rw[e]at hx;cases hx) B o e;omega) i x hx
theorem FlR.fr{X:Nat→Prop}{b:Nat}{w w':World}{sa:Option Addr}{L:List Sk}(h:FlR b w sa L)(f:Fr X w w')(hX:∀i,X i→b≤i):FlR b w' sa L:=
 ⟨iI h.E f hX h.ls,fun s hs=>iI (h.p s hs) f hX (h.ln s hs),h.ls,h.ln⟩
theorem FlG.R{w:World}{sa wa:Option Addr}{L:List Sk}{Ws:List Wn}(h:FlG w sa wa L Ws):FlR w.heap.size w sa L:=
 ⟨h.E,fun s hs=>(h.p s hs).2,fun hne _ _ e=>pN h.E (fun _=>rfl) cQ hne e,fun s hs hne _ _ e=>pN (h.p s hs).2 (fun _=>rfl) cQ hne e⟩
structure Fwd(L:List Sk):Prop where
 b:∀(i:Nat)(s:Sk),L[i]?=some s→ -1≤s.bk∧s.bk≤i
 n:∀(i:Nat)(s:Sk),L[i]?=some s→∀x∈s.nx,(i:Int)<x∧x<L.length
 l:∀s∈L,s.nx.length≤4
 len:1≤L.length∧L.length≤40
def Zh(L:List Sk)(m:Nat):List Nat:=match L[m]? with
 |some s=>(L0 s).map Int.toNat
 |.none=>[]
def BV(L:List Sk)(m:Nat):List Nat:=match L[m]? with
 |some s=>s.nx.map Int.toNat
 |.none=>[]
theorem eF{L:List Sk}{m:Nat}{s:Sk}(h:L[m]?=some s):Zh L m=(L0 s).map Int.toNat:=by unfold Zh;rw[h]
theorem Fwd.LN{L:List Sk}(h:Fwd L){i:Nat}{s:Sk}(hs:L[i]?=some s):∀x∈L0 s,0≤x∧x<L.length:=fun x hx=>by
 have hi:=(am.1 hs).1
 have h1:=h.b i s hs
 have h2:=h.n i s hs
 unfold L0 at hx
 split at hx
 · rcases bp.1 hx with rfl|hx
   · omega
   have:=h2 x hx;omega
 have:=h2 x hx;omega
theorem uI(l:List Int):(l.attach.map fun x=>x.1.toNat)=l.map Int.toNat:=by
 rw[←List.attach_map_subtype_val l]
 simp
theorem Lc{D:List Bool}{n:Nat}(h:n<D.length):D[n]?=some (It D n):=by
 unfold It
 rw[cg,cx h]
 rfl
theorem kW{α:Type}{enc:α→Array Value}{As:List Asr}{e k:Nat}{v:Value}{xs ys:List α}{i:Nat}(h:Cy (As++[Aw e k enc v xs]) i):Cy (As++[Aw e k enc v ys]) i:=by
 rcases H0.1 h with h|⟨A,hA,hi⟩
 · exact H0.2 (.inl h)
 rw[bn.1 hA]at hi
 exact H0.2 (.inr (kS hi))
def Gk(E:List Bool)(k:Nat):List Int:=((List.range k).filter (It E)).map fun i:Nat=>(i:Int)
theorem O2{E:List Bool}{k:Nat}(h:It E k=true):Gk E (k+1)=Gk E k++[(k:Int)]:=by
 unfold Gk
 rw[jd,cz,iy h,je,co]
 rfl
theorem Ru{E:List Bool}{k:Nat}(h:It E k=false):Gk E (k+1)=Gk E k:=by
 unfold Gk
 rw[jd,cz,gv (by rw[h];decide),je,dk]
theorem L7(E:List Bool)(k:Nat):(Gk E k).length≤k:=by
 unfold Gk
 rw[dv]
 exact bu (ef _ _) (by rw[j_];exact bl _)
theorem L8{E:List Bool}{k:Nat}{x:Int}:x∈Gk E k↔∃i:Nat,x=(i:Int)∧i<k∧It E i=true:=by
 unfold Gk
 simp only[bx,fe,cn]
 constructor
 · rintro⟨i,⟨h1,h2⟩,rfl⟩;exact⟨i,rfl,h1,h2⟩
 rintro⟨i,rfl,h1,h2⟩;exact⟨i,⟨h1,h2⟩,rfl⟩
def Nb(L:List Sk)(x:Int):Bool:=match L[x.toNat]? with
 |some s=>decide (s.nx.length=0)
 |.none=>false
theorem pO(n x:Nat):It (List.replicate n false) x=false:=by
 unfold It
 rw[cg,List.getElem?_replicate]
 split<;>rfl
structure Fld where
 off:Nat
 lo:Int
 hi:Int
def Co(o:Nat):Fld:=⟨o,1,1000000⟩
def Cz:List Fld:=[Co 1]
def Ld:List Fld:=[Co 14,Co 15]
def C8:List Fld:=[⟨11,0,59⟩,⟨12,0,3⟩]
def Cp:Fld:=⟨5,0,1000000⟩
def Eb:List Fld:=[Cp,⟨6,0,1000000⟩]
def Ka:List Fld:=[⟨7,0,1000000⟩,⟨9,0,1000000⟩,⟨11,0,60⟩,⟨12,0,4⟩,⟨13,0,40⟩,⟨14,0,1000000⟩,⟨15,0,1000000⟩]
def Ie:Fld:=⟨17,1,255⟩
def Lo:Fld:=⟨16,-1000000,1000000⟩
theorem Vx{α:Type}{xss:List (List α)}{k:Nat}{ys:List α}(h:xss[k]?=some ys):(xss.take (k+1)).flatten=(xss.take k).flatten++ys:=by
 obtain⟨hk,e⟩:=am.1 h
 rw[f8,h];simp
theorem U0{α:Type}(xss:List (List α))(k:Nat):((xss.take k).flatten).length≤xss.flatten.length:=by
 have:xss.flatten=(xss.take k).flatten++(xss.drop k).flatten:=by rw[←j2,er]
 rw[this,ak];omega
def L9:List (List Fld):=[[],Cz++[Co 7]++C8++[⟨13,0,39⟩]++Ld++Eb++[⟨16,-10000000,10000000⟩],Cz++[Cp,Lo],Cz++[Co 7,Co 8,Cp],[Co 7,Co 9,Co 10,Cp],[Co 10],Cz++C8++Ld++Eb,Cz++Ka++Eb++[Ie],[Co 8,Ie,Cp],Cz++C8++[Cp],[Co 14,Cp,Lo],Cz++C8++Eb]
def P3:List (List Fld):=[[],Cz,Cz,Cz,[Co 7,Cp],[Co 10],Cz,Cz,[Co 8,Ie],Cz,[Co 14,Cp],Cz]
def fieldsOf(k:Int):List Fld:=L9.getD k.toNat []
def Er(k:Int):List Fld:=P3.getD k.toNat []
def G8(k:Int):Nat:=[0,1,0,2,0,0,1,1,0,0,0,1].getD k.toNat 0
def G9(k:Int):Bool:=decide (k=5)
end Go.Wx
namespace Go.Proofs.YtnpgbbaniknpkaaGreatDoor
open Go.Proofs.Tryz
open Go.Wx Go.RowKit
theorem Jk(ad:Option Addr)(cp:Nat)(l:List Int)(w:World)(hE0:Els w ad 1 A3 l)(hl:l.length≤1000000000):Ret prog 87 #[.slice ad l.length cp] w fun r w'=>OwnS w' w.heap.size 3 1 A3 r l∧Up w w':=by
 obtain⟨w0,rfl,hS⟩:=W0 w
 refine cT 8 func87 rfl (Af (Az (An (Af (I rfl (U (.Xg k_ (.t rfl)) (Ah (CW.b rfl (fun h4=>?_) (fun h4=>?_)))))))))
 ·have hnil:l=[]:=by cases l with|nil=>rfl|cons x r=>(obtain⟨B,o,e,_⟩:=hE0 0 x rfl;rw[e]at h4;cases h4)
  refine Af (Az (Ah (Am (Ar (KW.q ?_)))))
  (subst hnil;exact⟨OwnS.nil _ _ _ _ _,hS.Ch⟩)
 refine Aj (Ac (Af (Ap (.buildSlice (xs:=([]:List Int)) (enc:=A3) (mk:=vi) k_ lg lq rfl cQ (fun _=>rfl) (fun _=>rfl) .nil rfl) rfl ?_)))
 intro v5 w1 hN5
 obtain⟨uw1,B5,rfl,hO5⟩:=Jg hN5 (bl _)
 replace hS:=hS.add uw1 (A':=Aw 3 1 A3 (.slice (some ⟨B5,0,none⟩) 0 0) ([]:List Int)) (hO5.mono (a8 _)) (fun i h=>hO5.base i h)
 refine I rfl (Ap (.C3 (enc:=A3) (bytes:=8) (i:=Tryz.t3) k_ kQ rfl rfl rfl rfl cQ (fun _=>rfl) Et (.t rfl) (.t rfl) (hS.own 0 rfl) (Ay (Els.up hE0 hS.Ch)) (by simp[maxLen];omega) (by simp;omega)) rfl ?_)
 intro v7 w2 Gw2
 replace hS:=hS.Fs 0 rfl Gw2
 refine LW.A rfl (Ah (Am (KW.q ?_)))
 exact⟨(hS.own 0 rfl).F5 (fun i h=>(hS.foot 0 rfl i h).resolve_left (fun h=>h)),hS.Ch⟩
theorem Zi(sa wa:Option Addr)(sc wc:Nat)(s0 s1 s2:Sk)(w:World)(hF:FlE w sa wa s0 s1 s2):Ret prog 195 #[.agg (Ni sa sc wa wc),vi 0] w fun r w'=>∃go b1 b2 a c,r=.slice (some ⟨go,0,none⟩) 3 3∧Els w' (some ⟨go,0,none⟩) 1 nZ [.none,some b1,some b2]∧Blk w' b2 (Nv 14 a 1 c) 250∧Els w' a 1 A3 [1]∧Up w w':=by
 obtain⟨w0,rfl,hS⟩:=W0 w
 refine cT 109 func195 rfl (Af (Ap (.bA rfl) rfl ?_))
 rintro _ w1 ⟨B2,rfl,NB2⟩
 have eB2:=NB2.at_
 have zB2:=NB2.size
 replace hS:=hS.Cg NB2
 refine Az (An (Aa (U (.fB 2 rfl) (U (.lb rfl (hS.b0.Ad rfl)) (U (.Ck lr (.t rfl)) (Ap (.yH (enc:=nZ) (x0:=.none) (i:=Tryz.t246) rfl rfl mq kQ rfl rfl cQ (.t rfl) (.t rfl)) rfl ?_))))))
 rintro _ w2 ⟨uM,go,zM,rfl,hOM⟩
 replace hS:=hS.add uM (A':=Aw 246 1 nZ (.slice (some ⟨go,0,none⟩) 3 3) (List.replicate 3 .none)) hOM (fun i h=>by cases h;exact zM)
 refine Ap (.Gl zeroValue247 rfl) rfl ?_
 rintro _ w3 ⟨B5,rfl,MB5⟩
 refine Cd (.store sizeOf247 (.t rfl) (.t rfl) rfl MB5.blk cQ) ?_
 intro w4 LB5
 have NB5:=MB5.set LB5
 replace hS:=hS.Cg NB5
 refine An (Aa (U (.fB 2 rfl) (U (.lb rfl (hS.b0.Ad rfl)) (U (.Ck lr (.t rfl)) (Ap (.yH (enc:=Ls) (x0:=false) (i:=Tryz.t4) rfl rfl l8 kQ rfl rfl cQ (.t rfl) (.t rfl)) rfl ?_)))))
 rintro _ w5 ⟨uM,gd,zM,rfl,hOM⟩
 replace hS:=hS.add uM (A':=Aw 4 1 Ls (.slice (some ⟨gd,0,none⟩) 3 3) (List.replicate 3 false)) hOM (fun i h=>by cases h;exact zM)
 refine LW.A rfl (An (Aa (Ap (.Gl zeroValue290 rfl) rfl ?_)))
 rintro _ w6 ⟨B7,rfl,MB7⟩
 refine Cd (.store sizeOf290 (.t rfl) (.func _) rfl MB7.blk cQ) ?_
 intro w7 LB7
 have NB7:=MB7.set LB7
 replace hS:=hS.Cg NB7
 refine An (Aa (U (.makeFunc (.ct rfl (.cu rfl))) (LW.A rfl (An ?_))))
 obtain⟨Bs,os,as_,hcs⟩:=hF.E 0 s0 rfl
 refine C9 9 kQ kQ kQ kQ kQ rfl rfl (J (.mv rfl) (J (.fB 0 rfl) (J (.lb rfl (hS.b0.Ad rfl)) (J (.build (cs:=(Nv 2 none 0 0)) nw zeroValue250 Hf (.cu rfl) rfl) (J (.fB 2 rfl) (J (.lb rfl (hS.b0.Ad rfl)) (J (.mv rfl) (J (.Ao lr l4 (j:=0) (.t rfl) (.t rfl) cQ as_) (J (.lc rfl ((hcs.up hS.Ch))) (HW.nil ?_))))))))))
 intro w8 uw8
 replace hS:=hS.up uw8
 replace hS:=hS.Ep 2 rfl
 replace hS:=hS.Ep 1 rfl
 have hq_:=(show Wx.Sep _ _ _ ([_,_,_]++[_,_])from hS)
 refine A4 (Cu (f:=240) (lb:=#[.pointer (some ⟨B5,0,none⟩),.pointer (some ⟨B7,0,none⟩)]) (.t rfl) (.ct rfl (.cu rfl)) (oR)) rfl (Nw B5 go 3 _ 2 none 0 0 s0 1 B7 _ (Els.up (hF.p s0 (by simp)).2 hS.Ch) (hF.g s0 (by simp)).bk (hF.g s0 (by simp)).nx.1 (by rw[hF.n0];simp) cQ rfl (fun hne B o e h=>by obtain⟨A_,hA_,hi_⟩:=h;have h1_:=((hq_.right.each A_ hA_).2 B hi_).resolve_left (fun h=>h);have h2_:=Rt (hF.p s0 (by simp)).2 hne e;omega) hq_.right.self) ?_
 rintro _ w9 ⟨z1,uw9,hz1⟩
 replace hS:=hq_.frame uw9
 obtain⟨_,hz1⟩:=hz1.resolve_left (fun h=>by rw[hF.n0]at h;cases h.1)
 obtain⟨b1,rfl⟩:=f7.1 hz1
 replace hS:=(hS.add (Up.refl _) (A':=kT) trivial (fun i h=>h.elim)).Ln (OwnS.nil _ 0 3 1 A3)
 refine Ah (Ak (A6 (σ:=Nat×Option Nat×Option Addr×Nat) (fun s w=>(s.1≤2)∧((s.1=0∧s.2.1=.none)∨(1≤s.1∧s.2.1.isSome=true))∧(Wx.Sep no w0 w [A5 B2 (Ni sa sc wa wc) 29,Aw 4 1 Ls (.slice (some ⟨gd,0,none⟩) 3 3) (iG s.1),A5 B7 #[.func (.func 239) #[] #[]] 290,A5 B5 #[.slice (some ⟨go,0,none⟩) 3 3] 247,Aw 246 1 nZ (.slice (some ⟨go,0,none⟩) 3 3) (eE b1 (s.2.1)),A5 b1 (Nv 2 none 0 0) 250,uE (Nv 14 (s.2.2.1) 1 (s.2.2.2)) 250 (s.2.1),Aw 3 1 A3 (if s.1=0 then .slice none 0 0 else .slice (s.2.2.1) 1 (s.2.2.2)) (if s.1=0 then[]else[1])])) (fun s=>[]) ([(2,.eq _),(5,.eq _),(6,.eq _),(7,.eq _),(8,.eq _)]) (fun s=>3-s.1) (0,.none,.none,0) ?_ tQ ?_))
 ·exact⟨a8 _,.inl ⟨rfl,rfl⟩,hS⟩
 rintro⟨k,z,a,c⟩ w10 ⟨hk,hz,hS⟩
 dsimp only at hk hz hS
 refine Ak (Af (U (.Dt (v':=vi (kV k 0)) (PEv.assign (.const _)) (by rw[GY])) (An (Af (U (.lb rfl (hS.b3.Ad rfl)) (U (.Ck mq (.t rfl)) (U (.move (.const _)) (Ah (Ak (A6 (σ:=Nat) (fun s w=>(s≤3)∧(Wx.Sep no w0 w [A5 B2 (Ni sa sc wa wc) 29,Aw 4 1 Ls (.slice (some ⟨gd,0,none⟩) 3 3) (iG k),A5 B7 #[.func (.func 239) #[] #[]] 290,A5 B5 #[.slice (some ⟨go,0,none⟩) 3 3] 247,Aw 246 1 nZ (.slice (some ⟨go,0,none⟩) 3 3) (eE b1 (z)),A5 b1 (Nv 2 none 0 0) 250,uE (Nv 14 (a) 1 (c)) 250 (z),Aw 3 1 A3 (if k=0 then .slice none 0 0 else .slice (a) 1 (c)) (if k=0 then[]else[1])])) (fun s=>[(33,.eq (vi (s:Int))),(9,.eq (vi (kV k s)))]) ([(2,.eq _),(5,.eq _),(6,.eq _),(7,.eq _),(8,.eq _),(31,.eq _),(32,.eq _)]) (fun s=>3-s) 0 ?_ tQ ?_))))))))))
 ·exact⟨a8 _,hS⟩
 rintro j w11 ⟨hj,hS⟩
 refine Af (U (.l2 rfl rfl) (An (CW.b rfl (fun h34=>?_) (fun h34=>?_))))
 ·replace h34:=dQ h34
  refine Aj (Ac (Ai (Ak (Ai ?_))))
  have hj3:j<3:=cm.1 h34
  obtain⟨b2,hb2⟩:=zX (b1:=b1) hz
  obtain⟨x,hxj⟩:=Ae (xs:=eE b1 z) (i:=j) hj3
  obtain⟨Bo,oo,ao,hco⟩:=(Cf (hS.own 4 rfl) (fun _=>rfl)) j x hxj
  cases ao
  refine Aa (I rfl (U (.Ao mq nh (j:=j) (.t rfl) (.t rfl) oQ rfl) (U (.lb rfl (hco.nth (j:=0) rfl)) (LW.A rfl (LW.A rfl (An ?_))))))
  cases hq10:eD k j with
  |lt=>
   obtain⟨e1,e2⟩:=zT (b1:=b1) (b2:=b2) hj3 hq10
   rw[←hb2]at e1
   cases dc (hxj.symm.trans e1)
   refine C5 kQ kQ rfl rfl (J (.mv rfl) (J (.fa (Nx nj (.t rfl)) (rfl)) (J (.mv rfl) (Ec (Ec (Ec (Ec (Ec (J (.fa (PEv.Cv (b:=false) (.t rfl) (fun hp=>absurd (show false=true from hp) cQ)) (rfl)) (J (.mv rfl) (Ec (Ec (Ec (Ew rfl rfl rfl rfl rfl (Ew rfl rfl rfl rfl rfl (Ew rfl rfl rfl rfl rfl (Ew rfl rfl rfl rfl rfl (Ew rfl rfl rfl rfl rfl (Ew rfl rfl rfl rfl rfl (Ew rfl rfl rfl rfl rfl (Ew rfl rfl rfl rfl rfl (Ew rfl rfl rfl rfl rfl (Ew rfl rfl rfl rfl rfl (Ew rfl rfl rfl rfl rfl (Ew rfl rfl rfl rfl rfl (Ec (J (.fa (PEv.Cv (b:=false) (.t rfl) (fun hp=>absurd (show false=true from hp) cQ)) (rfl)) (HW.nil ?_))))))))))))))))))))))))))))
   intro w12 uw12
   replace hS:=hS.up uw12
   refine Ac (CW.f rfl (Aj (Al (Ac (Aa (U (.ic rfl oQ) (I rfl (LW.nil (Av ?_)))))))))
   exact⟨j+1,⟨by omega,hS.take 8⟩,⟨rfl,by rw[e2];rfl,rfl,rfl,rfl,rfl,rfl,rfl,rfl,trivial⟩,by omega⟩
  |eq=>
   obtain⟨⟨b,e1⟩,ed,e0,e2⟩:=zV (b1:=b1) (b2:=b2)  hq10
   rw[←hb2]at e1
   cases dc (hxj.symm.trans e1)
   obtain⟨Bd,od,ad_,hcd⟩:=(Cf (hS.own 1 rfl) (fun _=>rfl)) j _ ed
   cases ad_
   refine C5 kQ kQ rfl rfl (J (.mv rfl) (J (.tr (Nx nj (.t rfl)) (rfl)) (J (.mv rfl) (C6 (.mv rfl) (C6 (.mv rfl) (C6 (.Ao l8 mf (j:=j) (.t rfl) (.t rfl) oQ rfl) (C6 (.lb rfl (hcd.nth (j:=0) rfl)) (C6 (.tr (PEv.n1 rfl) (rfl)) (J (.tr (PEv.pa rfl (fun hp=>(by exact .tmp rfl))) (rfl)) (J (.mv rfl) (C6 (.mv rfl) (C6 (.tr (PEv.lss (.t rfl) (.const _)) (by rw[e0];rfl)) (C6 (.mv rfl) (Ec (Ec (Ec (Ec (Ec (Ec (Ec (Ec (Ec (Ec (Ec (Ec (C6 (.tr (PEv.Ev (b:=false) (.t rfl) (fun hp=>absurd (show true=false from hp) cQ)) (rfl)) (J (.tr (PEv.pa rfl (fun hp=>(by exact .tmp rfl))) (rfl)) (HW.nil ?_))))))))))))))))))))))))))))
   intro w13 uw13
   replace hS:=hS.up uw13
   refine Ac (CW.v rfl (Aa (I rfl (LW.A rfl (LW.nil (Al (Ac (Aa (U (.ic rfl oQ) (I rfl (LW.nil (Av ?_))))))))))))
   exact⟨j+1,⟨by omega,hS.take 8⟩,⟨rfl,by rw[e2];rfl,rfl,rfl,rfl,rfl,rfl,rfl,rfl,trivial⟩,by omega⟩
  |gt=>
   obtain⟨⟨b,e1⟩,ed,e2⟩:=zW (b1:=b1) (b2:=b2) hj3 hk hq10
   rw[←hb2]at e1
   cases dc (hxj.symm.trans e1)
   obtain⟨Bd,od,ad_,hcd⟩:=(Cf (hS.own 1 rfl) (fun _=>rfl)) j _ ed
   cases ad_
   refine C5 kQ kQ rfl rfl (J (.mv rfl) (J (.tr (Nx nj (.t rfl)) (rfl)) (J (.mv rfl) (C6 (.mv rfl) (C6 (.mv rfl) (C6 (.Ao l8 mf (j:=j) (.t rfl) (.t rfl) oQ rfl) (C6 (.lb rfl (hcd.nth (j:=0) rfl)) (C6 (.fa (PEv.n1 rfl) (rfl)) (J (.fa (PEv.pa rfl (fun hp=>(by exact .tmp rfl))) (rfl)) (J (.mv rfl) (Ec (Ec (Ec (Ew rfl rfl rfl rfl rfl (Ew rfl rfl rfl rfl rfl (Ew rfl rfl rfl rfl rfl (Ew rfl rfl rfl rfl rfl (Ew rfl rfl rfl rfl rfl (Ew rfl rfl rfl rfl rfl (Ew rfl rfl rfl rfl rfl (Ew rfl rfl rfl rfl rfl (Ew rfl rfl rfl rfl rfl (Ew rfl rfl rfl rfl rfl (Ew rfl rfl rfl rfl rfl (Ew rfl rfl rfl rfl rfl (Ec (J (.fa (PEv.Cv (b:=false) (.t rfl) (fun hp=>absurd (show false=true from hp) cQ)) (rfl)) (HW.nil ?_))))))))))))))))))))))))))))
   intro w14 uw14
   replace hS:=hS.up uw14
   refine Ac (CW.f rfl (Aj (Al (Ac (Aa (U (.ic rfl oQ) (I rfl (LW.nil (Av ?_)))))))))
   exact⟨j+1,⟨by omega,hS.take 8⟩,⟨rfl,by rw[e2];rfl,rfl,rfl,rfl,rfl,rfl,rfl,rfl,trivial⟩,by omega⟩
 replace h34:=dQ h34
 refine A8 (Ab (Ab (Aq (Ac (Ai (Ai ?_))))))
 have hj3:j=3:=by have:¬j<3:=fun h=>h34 (cm.2 h);omega
 subst hj3
 refine Aa (I rfl (U (.lss (.t rfl) (.const _)) (Ah (CW.b rfl (fun h68=>?_) (fun h68=>?_)))))
 ·replace h68:=dQ h68
  have hk2:k=2:=uF hk h68
  subst hk2
  obtain⟨b2,rfl⟩:=f7.1 (hz.resolve_left (fun h=>absurd h.1 cQ)).2
  refine Af (U (.lb rfl (hS.b3.Ad rfl)) (LW.A rfl (Ah (Am (Ar (A7 (Ar (A7 (KW.q ?_)))))))))
  exact⟨go,b1,b2,a,c,rfl,Cf (hS.own 4 rfl) (fun _=>rfl),hS.blk 6 rfl,Cf (hS.own 7 rfl) (fun _=>rfl),hS.Ch⟩
 replace h68:=dQ h68
 have hk1:k<2:=zY hk h68
 refine Aj (Ac (Ai ?_))
 cases k with
 |zero=>
  obtain rfl:z=.none:=hz.elim (fun h=>h.2) (fun h=>by omega)
  obtain⟨Bs,os,as_,hcs⟩:=hF.E 1 s1 rfl
  have hmn:s1.mn=10:=(hF.g s1 (by simp)).mn
  refine Aa (I rfl (I rfl (U (.Ao l8 mf (j:=1) (k:=3) (.t rfl) (.t rfl) cQ rfl) (Cd (.I9 (enc:=Ls) (k:=1) (z:=true) (i:=1) (j:=0) mf (fun _=>rfl) rfl (.t rfl) (.const _) (hS.own 1 rfl) (x0:=false) rfl cQ rfl) ?_))))
  intro w15 Gw15
  replace hS:=hS.Fs 1 rfl Gw15
  refine Ah (Y7 35 28 [25,27] [29] (.eq (.func (.func 240) #[] #[.pointer (some ⟨B5,0,none⟩),.pointer (some ⟨B7,0,none⟩)])::.eq (.slice (some ⟨go,0,none⟩) 3 3)::.eq (vi 1)::.eq (.pointer (some ⟨go,0+1*1,none⟩))::.eq (.pointer (some ⟨b1,0,none⟩))::.eq (.pointer (some ⟨b1,0,none⟩))::.eq (.pointer (some ⟨b1,0,none⟩))::.eq (vi 2)::.eq (.pointer (some ⟨B2,2,none⟩))::.eq (.slice sa 3 sc)::.eq (vi 1)::.eq (.pointer (some ⟨Bs,os+1*7,none⟩))::.eq (.pointer (some ⟨Bs,os+1*7+2,none⟩))::.eq (vi 10)::.eq (vi 12)::.eq (.pointer (some ⟨B2,0,none⟩))::.eq (vi 2)::.eq (vi 14)::.eq (.slice (some ⟨go,0,none⟩) 3 3)::.eq (vi 1)::.eq (.pointer (some ⟨go,0+1*1,none⟩))::.eq (.pointer (some ⟨b1,0,none⟩))::.eq (.pointer (some ⟨b1,0,none⟩))::.eq (.pointer (some ⟨b1,1,none⟩))::.eq (.slice none 0 0)::(.pred fun v W=>OwnS W w15.drew.heap.size 3 1 A3 v ([]:List Int))::.eq (vi 1)::(.pred fun v W=>Sl W v 1 A3 [1])::(.pred fun v W=>OwnS W w15.drew.heap.size 3 1 A3 v ([1]:List Int))::(.pred fun v W=>∃ad c,v=.agg (Nv 14 ad 1 c)∧OwnS W w15.drew.heap.size 3 1 A3 (.slice ad 1 c) ([1]:List Int))::.eq (.pointer (some ⟨B2,2,none⟩))::.eq (.slice sa 3 sc)::.eq (vi 1)::.eq (.pointer (some ⟨Bs,os+1*7,none⟩))::.eq (.agg s1.cells)::[]) [73,102,107] (fun _ _=>True) kQ rfl kQ kQ kQ kQ kQ kQ kQ kQ kQ kQ ⟨om,om,om,om,om,om,om,om,om,om,om,om,om,om,om,om,om,om,om,om,om,om,om,om,om,PhU.pred fun _ _ _ h u=>OwnS.up h u,om,PhU.pred fun _ _ _ h u=>Sl.up h u,PhU.pred fun _ _ _ h u=>OwnS.up h u,PhU.pred fun _ _ _ h u=>let⟨ad,c,e,ho⟩:=h;⟨ad,c,e,ho.up u⟩,om,om,om,om,om,trivial⟩ ⟨.inr (fun _ _ _ h _=>h),.inr (fun _ _ _ h _=>h),.inr (fun _ _ _ h _=>h),.inr (fun _ _ _ h _=>h),.inr (fun _ _ _ h _=>h),.inr (fun _ _ _ h _=>h),.inr (fun _ _ _ h _=>h),.inr (fun _ _ _ h _=>h),.inr (fun _ _ _ h _=>h),.inr (fun _ _ _ h _=>h),.inr (fun _ _ _ h _=>h),.inr (fun _ _ _ h _=>h),.inr (fun _ _ _ h _=>h),.inr (fun _ _ _ h _=>h),.inr (fun _ _ _ h _=>h),.inr (fun _ _ _ h _=>h),.inr (fun _ _ _ h _=>h),.inr (fun _ _ _ h _=>h),.inr (fun _ _ _ h _=>h),.inr (fun _ _ _ h _=>h),.inr (fun _ _ _ h _=>h),.inr (fun _ _ _ h _=>h),.inr (fun _ _ _ h _=>h),.inr (fun _ _ _ h _=>h),.inr (fun _ _ _ h _=>h),.inl rfl,.inr (fun _ _ _ h _=>h),.inl rfl,.inl rfl,.inl rfl,.inr (fun _ _ _ h _=>h),.inr (fun _ _ _ h _=>h),.inr (fun _ _ _ h _=>h),.inr (fun _ _ _ h _=>h),.inr (fun _ _ _ h _=>h),trivial⟩ ?_ ?_)
  ·intro W hU0
   have hU:=(Up.drew w15).trans hU0
   have hSW:=hS.up hU
   have zU0:=hU0.size
   obtain⟨Bg,og,ag,hcg⟩:=(Cf (hSW.own 4 rfl) (fun _=>rfl)) 1 (some b1) rfl
   cases ag
   have hEL:Els W none 1 A3 ([]:List Int):=fun i x h=>by simp at h
   refine aC ⟨rfl,fun _=>TU.p (.mv rfl) rfl,fun h=>absurd h cQ⟩ (aC ⟨rfl,fun _=>TU.p (.lb rfl (hSW.b3.Ad rfl)) rfl,fun h=>absurd h cQ⟩ (aC ⟨rfl,fun _=>TU.p (.mv rfl) rfl,fun h=>absurd h cQ⟩ (aC ⟨rfl,fun _=>TU.p (.Ao (j:=1) mq nh (.t rfl) (.t rfl) cQ rfl) rfl,fun h=>absurd h cQ⟩ (aC ⟨rfl,fun _=>TU.p (.lb rfl (AggAt.nth (j:=0) hcg rfl)) rfl,fun h=>absurd h cQ⟩ (aC ⟨rfl,fun _=>TU.p (.nc rfl) rfl,fun h=>absurd h cQ⟩ (aC ⟨rfl,fun _=>TU.p (.fB 0 rfl) rfl,fun h=>absurd h cQ⟩ (aC ⟨rfl,fun _=>TU.p (.lb rfl (hSW.b5.Ad rfl)) rfl,fun h=>absurd h cQ⟩ (aC ⟨rfl,fun _=>TU.p (.fB 2 rfl) rfl,fun h=>absurd h cQ⟩ (aC ⟨rfl,fun _=>TU.p (.lb rfl (hSW.b0.Ad rfl)) rfl,fun h=>absurd h cQ⟩ (aC ⟨rfl,fun _=>TU.p (.mv rfl) rfl,fun h=>absurd h cQ⟩ (aC ⟨rfl,fun _=>TU.p (.Ao (j:=1) lr l4 (.t rfl) (.t rfl) cQ as_) rfl,fun h=>absurd h cQ⟩ (aC ⟨rfl,fun _=>TU.p (.fB 2 rfl) rfl,fun h=>absurd h cQ⟩ (aC ⟨rfl,fun _=>TU.p (.Dt (PEv.lb rfl ((hcs.up hSW.Ch).nth (j:=2) rfl)) (by rw[hmn])) rfl,fun h=>absurd h cQ⟩ (aC ⟨rfl,fun _=>TU.p (.add (.t rfl) (.t rfl) cQ cQ) rfl,fun h=>absurd h cQ⟩ (aC ⟨rfl,fun _=>TU.p (.fB 0 rfl) rfl,fun h=>absurd h cQ⟩ (aC ⟨rfl,fun _=>TU.p (.lb rfl (hSW.b0.Ad rfl)) rfl,fun h=>absurd h cQ⟩ (aC ⟨rfl,fun _=>TU.p (.add (.t rfl) (.t rfl) cQ cQ) rfl,fun h=>absurd h cQ⟩ (aC ⟨rfl,fun _=>TU.p (.lb rfl (hSW.b3.Ad rfl)) rfl,fun h=>absurd h cQ⟩ (aC ⟨rfl,fun _=>TU.p (.mv rfl) rfl,fun h=>absurd h cQ⟩ (aC ⟨rfl,fun _=>TU.p (.Ao (j:=1) mq nh (.t rfl) (.t rfl) cQ rfl) rfl,fun h=>absurd h cQ⟩ (aC ⟨rfl,fun _=>TU.p (.lb rfl (AggAt.nth (j:=0) hcg rfl)) rfl,fun h=>absurd h cQ⟩ (aC ⟨rfl,fun _=>TU.p (.nc rfl) rfl,fun h=>absurd h cQ⟩ (aC ⟨rfl,fun _=>TU.p (.fB 1 rfl) rfl,fun h=>absurd h cQ⟩ (aC ⟨rfl,fun _=>TU.p (.lb rfl (hSW.b5.Ad rfl)) rfl,fun h=>absurd h cQ⟩ (aC ⟨rfl,fun _=>TU.c (eC (.o rfl) (oK)) (Jk none 0 ([]:List Int) W hEL cQ) (fun v W' h=>⟨h.2,h.1.mono zU0⟩),fun h=>absurd h cQ⟩ (aC ⟨rfl,fun _=>TU.p (.mv rfl) rfl,fun h=>absurd h cQ⟩ (aC ⟨rfl,fun _=>TU.r (REv.buildSlice (xs:=([1]:List Int)) (enc:=A3) (mk:=vi) k_ lg lq rfl bQ (fun _=>rfl) (fun _=>rfl) (.cu rfl) rfl) (fun v W' h=>h.q),fun h=>absurd h cQ⟩ (aC ⟨rfl,fun h=>absurd rfl h,fun _ a ha=>?_⟩ ?_))))))))))))))))))))))))))))
   ·skip
    have h1:=ha.known (p:=fun v W=>OwnS W w15.drew.heap.size 3 1 A3 v ([]:List Int)) (t:=98) rfl
    have h2:=ha.known (p:=fun v W=>Sl W v 1 A3 [1]) (t:=100) rfl
    obtain⟨v,W',hr,hG⟩:=REv.C3 (enc:=A3) (bytes:=8) (i:=Tryz.t3) k_ kQ rfl rfl rfl rfl cQ (fun _=>rfl) Et (.tmp (t:=98) rfl) (.tmp (t:=100) rfl) (h1.mono (a8 _)) h2 cQ cQ a ((ha.Y8 (t:=98) rfl).Y8 (t:=100) rfl)
    exact .inl ⟨v,W',hr,⟨hU0.uD hG.fr (fun b hb=>h1.base b hb),trivial⟩,OwnS.F5 hG.holds fun i hi=>(hG.sub i hi).elim (fun h=>h1.base i h) (fun h=>bu zU0 h)⟩
   refine aC ⟨rfl,fun _=>TU.open (d:=101) rfl fun v hv=>by obtain⟨ad,c,rfl,_⟩:=OwnS.sl hv (fun _=>rfl);exact TU.p (.build (cs:=Nv 14 ad 1 c) nw zeroValue250 Hf (.ct rfl (.cu rfl)) rfl) ⟨ad,c,rfl,hv⟩,fun h=>absurd h cQ⟩ (aC ⟨rfl,fun _=>TU.p (.fB 2 rfl) rfl,fun h=>absurd h cQ⟩ (aC ⟨rfl,fun _=>TU.p (.lb rfl (hSW.b0.Ad rfl)) rfl,fun h=>absurd h cQ⟩ (aC ⟨rfl,fun _=>TU.p (.mv rfl) rfl,fun h=>absurd h cQ⟩ (aC ⟨rfl,fun _=>TU.p (.Ao (j:=1) lr l4 (.t rfl) (.t rfl) cQ as_) rfl,fun h=>absurd h cQ⟩ (aC ⟨rfl,fun _=>TU.p (.lc rfl (hcs.up hSW.Ch)) rfl,fun h=>absurd h cQ⟩ ?_)))))
   exact allL.nil
  intro w16 g hU0 hg
  have hU:=(Up.drew w15).trans hU0
  have e73:=hg 0 _ 73 cQ rfl rfl rfl
  obtain⟨adN,cN,e102,hO102⟩:=hg 29 _ 102 cQ rfl rfl rfl
  have e107:=hg 34 _ 107 cQ rfl rfl rfl
  change LW _ _ _ _ _ _ _ _ ((73,.eq (g 73))::(102,.eq (g 102))::(107,.eq (g 107))::_) _
  replace e73:g 73=_:=e73
  replace e107:g 107=_:=e107
  rw[e73,e102,e107]
  replace hS:=hS.add hU (A':=Aw 3 1 A3 (.slice adN 1 cN) ([1]:List Int)) (hO102.mono (a8 _)) (fun i h=>hO102.base i h)
  replace hS:=hS.Ep 3 rfl
  replace hS:=hS.Ep 3 rfl
  have hq_:=(show Wx.Sep _ _ _ ([_,_,_,_,_,_,_]++[_,_])from hS)
  refine A4 (Cu (f:=240) (lb:=#[.pointer (some ⟨B5,0,none⟩),.pointer (some ⟨B7,0,none⟩)]) (.t rfl) (.ct rfl (.cu rfl)) (oR)) rfl (Nw B5 go 3 (eE b1 (.none)) 14 adN 1 cN s1 2 B7 _ (Els.up (hF.p s1 (by simp)).2 hS.Ch) (hF.g s1 (by simp)).bk (hF.g s1 (by simp)).nx.1 (by rw[hF.n1];simp) cQ rfl (fun hne B o e h=>by obtain⟨A_,hA_,hi_⟩:=h;have h1_:=((hq_.right.each A_ hA_).2 B hi_).resolve_left (fun h=>h);have h2_:=Rt (hF.p s1 (by simp)).2 hne e;omega) hq_.right.self) ?_
  rintro _ w17 ⟨z1,uw17,hz1⟩
  replace hS:=hq_.frame uw17
  obtain⟨_,hz1⟩:=hz1.resolve_left (fun h=>by rw[hF.n1]at h;cases h.1)
  obtain⟨b2,rfl⟩:=f7.1 hz1
  replace hS:=(((hS.Ep 3 rfl).Ep 8 rfl).Ep 5 rfl)
  replace hS:=hS.sub (.cons_cons _ (.cons_cons _ (.cons_cons _ (.cons _ (.cons _ (List.Sublist.refl _))))))
  refine LW.nil (Al (Av ?_))
  exact⟨(1,some b2,adN,cN),⟨a_ rfl,.inr ⟨bl _,rfl⟩,hS⟩,tQ,by omega⟩
 |succ k1=>
  obtain rfl:k1=0:=by omega
  obtain⟨b2,rfl⟩:=f7.1 (hz.resolve_left (fun h=>absurd h.1 cQ)).2
  obtain⟨Bs,os,as_,hcs⟩:=hF.E 2 s2 rfl
  have hmn:s2.mn=10:=(hF.g s2 (by simp)).mn
  refine Aa (I rfl (I rfl (U (.Ao l8 mf (j:=2) (k:=3) (.t rfl) (.t rfl) cQ rfl) (Cd (.I9 (enc:=Ls) (k:=1) (z:=true) (i:=2) (j:=0) mf (fun _=>rfl) rfl (.t rfl) (.const _) (hS.own 1 rfl) (x0:=false) rfl cQ rfl) ?_))))
  intro w18 Gw18
  replace hS:=hS.Fs 1 rfl Gw18
  refine Ah (Y7 35 28 [25,27] [29] (.eq (.func (.func 240) #[] #[.pointer (some ⟨B5,0,none⟩),.pointer (some ⟨B7,0,none⟩)])::.eq (.slice (some ⟨go,0,none⟩) 3 3)::.eq (vi 2)::.eq (.pointer (some ⟨go,0+2*1,none⟩))::.eq (.pointer (some ⟨b2,0,none⟩))::.eq (.pointer (some ⟨b2,0,none⟩))::.eq (.pointer (some ⟨b2,0,none⟩))::.eq (vi 14)::.eq (.pointer (some ⟨B2,2,none⟩))::.eq (.slice sa 3 sc)::.eq (vi 2)::.eq (.pointer (some ⟨Bs,os+2*7,none⟩))::.eq (.pointer (some ⟨Bs,os+2*7+2,none⟩))::.eq (vi 10)::.eq (vi 24)::.eq (.pointer (some ⟨B2,0,none⟩))::.eq (vi 2)::.eq (vi 26)::.eq (.slice (some ⟨go,0,none⟩) 3 3)::.eq (vi 2)::.eq (.pointer (some ⟨go,0+2*1,none⟩))::.eq (.pointer (some ⟨b2,0,none⟩))::.eq (.pointer (some ⟨b2,0,none⟩))::.eq (.pointer (some ⟨b2,1,none⟩))::.eq (.slice a 1 c)::(.pred fun v W=>OwnS W w18.drew.heap.size 3 1 A3 v ([1]:List Int))::.eq (vi 2)::(.pred fun v W=>Sl W v 1 A3 [2])::(.pred fun v W=>OwnS W w18.drew.heap.size 3 1 A3 v ([1,2]:List Int))::(.pred fun v W=>∃ad c,v=.agg (Nv 26 ad 2 c)∧OwnS W w18.drew.heap.size 3 1 A3 (.slice ad 2 c) ([1,2]:List Int))::.eq (.pointer (some ⟨B2,2,none⟩))::.eq (.slice sa 3 sc)::.eq (vi 2)::.eq (.pointer (some ⟨Bs,os+2*7,none⟩))::.eq (.agg s2.cells)::[]) [73,102,107] (fun _ _=>True) kQ rfl kQ kQ kQ kQ kQ kQ kQ kQ kQ kQ ⟨om,om,om,om,om,om,om,om,om,om,om,om,om,om,om,om,om,om,om,om,om,om,om,om,om,PhU.pred fun _ _ _ h u=>OwnS.up h u,om,PhU.pred fun _ _ _ h u=>Sl.up h u,PhU.pred fun _ _ _ h u=>OwnS.up h u,PhU.pred fun _ _ _ h u=>let⟨ad,c,e,ho⟩:=h;⟨ad,c,e,ho.up u⟩,om,om,om,om,om,trivial⟩ ⟨.inr (fun _ _ _ h _=>h),.inr (fun _ _ _ h _=>h),.inr (fun _ _ _ h _=>h),.inr (fun _ _ _ h _=>h),.inr (fun _ _ _ h _=>h),.inr (fun _ _ _ h _=>h),.inr (fun _ _ _ h _=>h),.inr (fun _ _ _ h _=>h),.inr (fun _ _ _ h _=>h),.inr (fun _ _ _ h _=>h),.inr (fun _ _ _ h _=>h),.inr (fun _ _ _ h _=>h),.inr (fun _ _ _ h _=>h),.inr (fun _ _ _ h _=>h),.inr (fun _ _ _ h _=>h),.inr (fun _ _ _ h _=>h),.inr (fun _ _ _ h _=>h),.inr (fun _ _ _ h _=>h),.inr (fun _ _ _ h _=>h),.inr (fun _ _ _ h _=>h),.inr (fun _ _ _ h _=>h),.inr (fun _ _ _ h _=>h),.inr (fun _ _ _ h _=>h),.inr (fun _ _ _ h _=>h),.inr (fun _ _ _ h _=>h),.inl rfl,.inr (fun _ _ _ h _=>h),.inl rfl,.inl rfl,.inl rfl,.inr (fun _ _ _ h _=>h),.inr (fun _ _ _ h _=>h),.inr (fun _ _ _ h _=>h),.inr (fun _ _ _ h _=>h),.inr (fun _ _ _ h _=>h),trivial⟩ ?_ ?_)
  ·intro W hU0
   have hU:=(Up.drew w18).trans hU0
   have hSW:=hS.up hU
   have zU0:=hU0.size
   obtain⟨Bg,og,ag,hcg⟩:=(Cf (hSW.own 4 rfl) (fun _=>rfl)) 2 (some b2) rfl
   cases ag
   have hEL:Els W a 1 A3 ([1]:List Int):=Cf (hSW.own 7 rfl) (fun _=>rfl)
   refine aC ⟨rfl,fun _=>TU.p (.mv rfl) rfl,fun h=>absurd h cQ⟩ (aC ⟨rfl,fun _=>TU.p (.lb rfl (hSW.b3.Ad rfl)) rfl,fun h=>absurd h cQ⟩ (aC ⟨rfl,fun _=>TU.p (.mv rfl) rfl,fun h=>absurd h cQ⟩ (aC ⟨rfl,fun _=>TU.p (.Ao (j:=2) mq nh (.t rfl) (.t rfl) cQ rfl) rfl,fun h=>absurd h cQ⟩ (aC ⟨rfl,fun _=>TU.p (.lb rfl (AggAt.nth (j:=0) hcg rfl)) rfl,fun h=>absurd h cQ⟩ (aC ⟨rfl,fun _=>TU.p (.nc rfl) rfl,fun h=>absurd h cQ⟩ (aC ⟨rfl,fun _=>TU.p (.fB 0 rfl) rfl,fun h=>absurd h cQ⟩ (aC ⟨rfl,fun _=>TU.p (.lb rfl ((hSW.blk 6 rfl).Ad rfl)) rfl,fun h=>absurd h cQ⟩ (aC ⟨rfl,fun _=>TU.p (.fB 2 rfl) rfl,fun h=>absurd h cQ⟩ (aC ⟨rfl,fun _=>TU.p (.lb rfl (hSW.b0.Ad rfl)) rfl,fun h=>absurd h cQ⟩ (aC ⟨rfl,fun _=>TU.p (.mv rfl) rfl,fun h=>absurd h cQ⟩ (aC ⟨rfl,fun _=>TU.p (.Ao (j:=2) lr l4 (.t rfl) (.t rfl) cQ as_) rfl,fun h=>absurd h cQ⟩ (aC ⟨rfl,fun _=>TU.p (.fB 2 rfl) rfl,fun h=>absurd h cQ⟩ (aC ⟨rfl,fun _=>TU.p (.Dt (PEv.lb rfl ((hcs.up hSW.Ch).nth (j:=2) rfl)) (by rw[hmn])) rfl,fun h=>absurd h cQ⟩ (aC ⟨rfl,fun _=>TU.p (.add (.t rfl) (.t rfl) cQ cQ) rfl,fun h=>absurd h cQ⟩ (aC ⟨rfl,fun _=>TU.p (.fB 0 rfl) rfl,fun h=>absurd h cQ⟩ (aC ⟨rfl,fun _=>TU.p (.lb rfl (hSW.b0.Ad rfl)) rfl,fun h=>absurd h cQ⟩ (aC ⟨rfl,fun _=>TU.p (.add (.t rfl) (.t rfl) cQ cQ) rfl,fun h=>absurd h cQ⟩ (aC ⟨rfl,fun _=>TU.p (.lb rfl (hSW.b3.Ad rfl)) rfl,fun h=>absurd h cQ⟩ (aC ⟨rfl,fun _=>TU.p (.mv rfl) rfl,fun h=>absurd h cQ⟩ (aC ⟨rfl,fun _=>TU.p (.Ao (j:=2) mq nh (.t rfl) (.t rfl) cQ rfl) rfl,fun h=>absurd h cQ⟩ (aC ⟨rfl,fun _=>TU.p (.lb rfl (AggAt.nth (j:=0) hcg rfl)) rfl,fun h=>absurd h cQ⟩ (aC ⟨rfl,fun _=>TU.p (.nc rfl) rfl,fun h=>absurd h cQ⟩ (aC ⟨rfl,fun _=>TU.p (.fB 1 rfl) rfl,fun h=>absurd h cQ⟩ (aC ⟨rfl,fun _=>TU.p (.lb rfl ((hSW.blk 6 rfl).Ad rfl)) rfl,fun h=>absurd h cQ⟩ (aC ⟨rfl,fun _=>TU.c (eC (.o rfl) (oK)) (Jk a c ([1]:List Int) W hEL cQ) (fun v W' h=>⟨h.2,h.1.mono zU0⟩),fun h=>absurd h cQ⟩ (aC ⟨rfl,fun _=>TU.p (.mv rfl) rfl,fun h=>absurd h cQ⟩ (aC ⟨rfl,fun _=>TU.r (REv.buildSlice (xs:=([2]:List Int)) (enc:=A3) (mk:=vi) k_ lg lq rfl bQ (fun _=>rfl) (fun _=>rfl) (.cu rfl) rfl) (fun v W' h=>h.q),fun h=>absurd h cQ⟩ (aC ⟨rfl,fun h=>absurd rfl h,fun _ a ha=>?_⟩ ?_))))))))))))))))))))))))))))
   ·skip
    have h1:=ha.known (p:=fun v W=>OwnS W w18.drew.heap.size 3 1 A3 v ([1]:List Int)) (t:=98) rfl
    have h2:=ha.known (p:=fun v W=>Sl W v 1 A3 [2]) (t:=100) rfl
    obtain⟨v,W',hr,hG⟩:=REv.C3 (enc:=A3) (bytes:=8) (i:=Tryz.t3) k_ kQ rfl rfl rfl rfl cQ (fun _=>rfl) Et (.tmp (t:=98) rfl) (.tmp (t:=100) rfl) (h1.mono (a8 _)) h2 cQ cQ a ((ha.Y8 (t:=98) rfl).Y8 (t:=100) rfl)
    exact .inl ⟨v,W',hr,⟨hU0.uD hG.fr (fun b hb=>h1.base b hb),trivial⟩,OwnS.F5 hG.holds fun i hi=>(hG.sub i hi).elim (fun h=>h1.base i h) (fun h=>bu zU0 h)⟩
   refine aC ⟨rfl,fun _=>TU.open (d:=101) rfl fun v hv=>by obtain⟨ad,c,rfl,_⟩:=OwnS.sl hv (fun _=>rfl);exact TU.p (.build (cs:=Nv 26 ad 2 c) nw zeroValue250 Hf (.ct rfl (.cu rfl)) rfl) ⟨ad,c,rfl,hv⟩,fun h=>absurd h cQ⟩ (aC ⟨rfl,fun _=>TU.p (.fB 2 rfl) rfl,fun h=>absurd h cQ⟩ (aC ⟨rfl,fun _=>TU.p (.lb rfl (hSW.b0.Ad rfl)) rfl,fun h=>absurd h cQ⟩ (aC ⟨rfl,fun _=>TU.p (.mv rfl) rfl,fun h=>absurd h cQ⟩ (aC ⟨rfl,fun _=>TU.p (.Ao (j:=2) lr l4 (.t rfl) (.t rfl) cQ as_) rfl,fun h=>absurd h cQ⟩ (aC ⟨rfl,fun _=>TU.p (.lc rfl (hcs.up hSW.Ch)) rfl,fun h=>absurd h cQ⟩ ?_)))))
   exact allL.nil
  intro w19 g hU0 hg
  have hU:=(Up.drew w18).trans hU0
  have e73:=hg 0 _ 73 cQ rfl rfl rfl
  obtain⟨adN,cN,e102,hO102⟩:=hg 29 _ 102 cQ rfl rfl rfl
  have e107:=hg 34 _ 107 cQ rfl rfl rfl
  change LW _ _ _ _ _ _ _ _ ((73,.eq (g 73))::(102,.eq (g 102))::(107,.eq (g 107))::_) _
  replace e73:g 73=_:=e73
  replace e107:g 107=_:=e107
  rw[e73,e102,e107]
  replace hS:=hS.add hU (A':=Aw 3 1 A3 (.slice adN 2 cN) ([1,2]:List Int)) (hO102.mono (a8 _)) (fun i h=>hO102.base i h)
  replace hS:=hS.Ep 3 rfl
  replace hS:=hS.Ep 3 rfl
  have hq_:=(show Wx.Sep _ _ _ ([_,_,_,_,_,_,_]++[_,_])from hS)
  refine A4 (Cu (f:=240) (lb:=#[.pointer (some ⟨B5,0,none⟩),.pointer (some ⟨B7,0,none⟩)]) (.t rfl) (.ct rfl (.cu rfl)) (oR)) rfl (Nw B5 go 3 (eE b1 (some b2)) 26 adN 2 cN s2 0 B7 _ (Els.up (hF.p s2 (by simp)).2 hS.Ch) (hF.g s2 (by simp)).bk (hF.g s2 (by simp)).nx.1 (by rw[hF.n2];simp) cQ rfl (fun hne B o e h=>by obtain⟨A_,hA_,hi_⟩:=h;have h1_:=((hq_.right.each A_ hA_).2 B hi_).resolve_left (fun h=>h);have h2_:=Rt (hF.p s2 (by simp)).2 hne e;omega) hq_.right.self) ?_
  rintro _ w20 ⟨z1,uw20,hz1⟩
  replace hS:=hq_.frame uw20
  obtain rfl:z1=.none:=(hz1.resolve_right (fun h=>h.1 hF.n2)).2
  replace hS:=(((hS.Ep 3 rfl).Ep 3 rfl).Ep 3 rfl)
  replace hS:=hS.sub (.cons_cons _ (.cons_cons _ (.cons_cons _ (.cons _ (.cons_cons _ (.cons_cons _ (.cons _ (List.Sublist.refl _))))))))
  refine LW.nil (Al (Av ?_))
  exact⟨(2,some b2,a,c),⟨bl _,.inr ⟨a_ rfl,rfl⟩,hS⟩,tQ,by omega⟩
theorem eG(b Bo g Bf Bv:Nat)(sa wa:Option Addr)(sc m wc:Nat)(L:List Sk)(hFw:Fwd L)(D:List Bool)(n:Nat)(w:World)(hlD:D.length=L.length)(hn:n<L.length)(hnD:It D n=false)(hR:FlR b w sa L)(hbw:b≤w.heap.size)(hb:∀i,Cy ([A5 Bo #[.slice (some ⟨g,0,none⟩) L.length L.length] 215,A5 Bf (Cx sa L.length sc wa m wc) 29,A5 Bv #[.func (.func 222) #[] #[.pointer (some ⟨Bo,0,none⟩),.pointer (some ⟨Bf,0,none⟩),.pointer (some ⟨Bv,0,none⟩)]] 269,Aw 4 1 Ls (.slice (some ⟨g,0,none⟩) L.length L.length) (D)]) i→b≤i)(hS0:Wx.Sep (Cy ([A5 Bo #[.slice (some ⟨g,0,none⟩) L.length L.length] 215,A5 Bf (Cx sa L.length sc wa m wc) 29,A5 Bv #[.func (.func 222) #[] #[.pointer (some ⟨Bo,0,none⟩),.pointer (some ⟨Bf,0,none⟩),.pointer (some ⟨Bv,0,none⟩)]] 269,Aw 4 1 Ls (.slice (some ⟨g,0,none⟩) L.length L.length) (D)])) w w ([A5 Bo #[.slice (some ⟨g,0,none⟩) L.length L.length] 215,A5 Bf (Cx sa L.length sc wa m wc) 29,A5 Bv #[.func (.func 222) #[] #[.pointer (some ⟨Bo,0,none⟩),.pointer (some ⟨Bf,0,none⟩),.pointer (some ⟨Bv,0,none⟩)]] 269,Aw 4 1 Ls (.slice (some ⟨g,0,none⟩) L.length L.length) (D)]))(ih:∀(D':List Bool)(x:Nat)(W:World),Vw D'<Vw D→D'.length=L.length→x<L.length→It D' x=false→FlR b W sa L→b≤W.heap.size→(∀i,Cy ([A5 Bo #[.slice (some ⟨g,0,none⟩) L.length L.length] 215,A5 Bf (Cx sa L.length sc wa m wc) 29,A5 Bv #[.func (.func 222) #[] #[.pointer (some ⟨Bo,0,none⟩),.pointer (some ⟨Bf,0,none⟩),.pointer (some ⟨Bv,0,none⟩)]] 269,Aw 4 1 Ls (.slice (some ⟨g,0,none⟩) L.length L.length) (D')]) i→b≤i)→Wx.Sep (Cy ([A5 Bo #[.slice (some ⟨g,0,none⟩) L.length L.length] 215,A5 Bf (Cx sa L.length sc wa m wc) 29,A5 Bv #[.func (.func 222) #[] #[.pointer (some ⟨Bo,0,none⟩),.pointer (some ⟨Bf,0,none⟩),.pointer (some ⟨Bv,0,none⟩)]] 269,Aw 4 1 Ls (.slice (some ⟨g,0,none⟩) L.length L.length) (D')])) W W ([A5 Bo #[.slice (some ⟨g,0,none⟩) L.length L.length] 215,A5 Bf (Cx sa L.length sc wa m wc) 29,A5 Bv #[.func (.func 222) #[] #[.pointer (some ⟨Bo,0,none⟩),.pointer (some ⟨Bf,0,none⟩),.pointer (some ⟨Bv,0,none⟩)]] 269,Aw 4 1 Ls (.slice (some ⟨g,0,none⟩) L.length L.length) (D')])→  Ret prog 222 #[vi (x:Int),.pointer (some ⟨Bo,0,none⟩),.pointer (some ⟨Bf,0,none⟩),.pointer (some ⟨Bv,0,none⟩)] W fun _ w'=>∃E,Wx.Sep (Cy ([A5 Bo #[.slice (some ⟨g,0,none⟩) L.length L.length] 215,A5 Bf (Cx sa L.length sc wa m wc) 29,A5 Bv #[.func (.func 222) #[] #[.pointer (some ⟨Bo,0,none⟩),.pointer (some ⟨Bf,0,none⟩),.pointer (some ⟨Bv,0,none⟩)]] 269,Aw 4 1 Ls (.slice (some ⟨g,0,none⟩) L.length L.length) (D')])) W w' ([A5 Bo #[.slice (some ⟨g,0,none⟩) L.length L.length] 215,A5 Bf (Cx sa L.length sc wa m wc) 29,A5 Bv #[.func (.func 222) #[] #[.pointer (some ⟨Bo,0,none⟩),.pointer (some ⟨Bf,0,none⟩),.pointer (some ⟨Bv,0,none⟩)]] 269,Aw 4 1 Ls (.slice (some ⟨g,0,none⟩) L.length L.length) (E)])∧Vis (Zh L) D' E x):Ret prog 222 #[vi (n:Int),.pointer (some ⟨Bo,0,none⟩),.pointer (some ⟨Bf,0,none⟩),.pointer (some ⟨Bv,0,none⟩)] w fun _ w'=>∃E,Wx.Sep (Cy ([A5 Bo #[.slice (some ⟨g,0,none⟩) L.length L.length] 215,A5 Bf (Cx sa L.length sc wa m wc) 29,A5 Bv #[.func (.func 222) #[] #[.pointer (some ⟨Bo,0,none⟩),.pointer (some ⟨Bf,0,none⟩),.pointer (some ⟨Bv,0,none⟩)]] 269,Aw 4 1 Ls (.slice (some ⟨g,0,none⟩) L.length L.length) (D)])) w w' ([A5 Bo #[.slice (some ⟨g,0,none⟩) L.length L.length] 215,A5 Bf (Cx sa L.length sc wa m wc) 29,A5 Bv #[.func (.func 222) #[] #[.pointer (some ⟨Bo,0,none⟩),.pointer (some ⟨Bf,0,none⟩),.pointer (some ⟨Bv,0,none⟩)]] 269,Aw 4 1 Ls (.slice (some ⟨g,0,none⟩) L.length L.length) (E)])∧Vis (Zh L) D E n:=by
 obtain⟨w0,rfl,_⟩:=W0 w
 have hD0:D[n]?=some false:=by rw[Lc oQ,hnD]
 have hS:=(((hS0.dW.Ep 0 rfl).Ep 0 rfl).Ep 0 rfl).Ep 0 rfl
 change Wx.Sep _ _ _ [_,_,_,_,_]at hS
 refine Ff (n:=24) func222 rfl rfl rfl ?_
 refine Af ?_
 refine U (.lb rfl (hS.b1.Ad rfl)) ?_
 refine I rfl ?_
 refine U (.Ao l8 mf (j:=n) (.t rfl) (.t rfl) oQ rfl) ?_
 refine Cd (.I9 (enc:=Ls) (k:=1) (z:=true) (i:=n) (j:=0) mf (fun _=>rfl) rfl (.t rfl) (.const _) (hS.own 4 rfl) hD0 cQ rfl) ?_
 intro w1 Gw1
 have zw1:=Gw1.fr.size
 replace hS:=hS.Fs 4 rfl Gw1
 change Wx.Sep _ _ _ [_,_,_,_,_]at hS
 refine An ?_
 have hR1:=hR.fr hS.fr hb
 obtain⟨sk,hsk⟩:=Ae (xs:=L) (i:=n) hn
 obtain⟨Bs,os,as_,hcs⟩:=hR1.E n sk hsk
 have hsm:=ai hsk
 refine Aa ?_
 refine U (.fB 2 rfl) ?_
 refine U (.lb rfl (hS.b2.Ad rfl)) ?_
 refine I rfl ?_
 refine U (.Ao lr l4 (j:=n) (.t rfl) (.t rfl) oQ as_) ?_
 refine U (.lc rfl (hcs)) ?_
 refine A4 (eC (.o rfl) (xV)) rfl (Vu sk _) ?_
 rintro _ w2 ⟨⟨B8,rfl,hK8,hn8⟩,uw2⟩
 have zw2:=uw2.size
 replace hS:=hS.add uw2 (A':=A5 B8 sk.cells 49) (hK8) (fun i h=>by cases h;exact hn8)
 change Wx.Sep _ _ _ [_,_,_,_,_,_]at hS
 replace hS:=(((hS.Ep 1 rfl).Ep 1 rfl).Ep 1 rfl).Ep 1 rfl
 change Wx.Sep _ _ _ [_,_,_,_,_,_]at hS
 have hR2:=hR.fr hS.fr hb
 have zw0:=hS.size
 refine Ah (Ak ?_)
 obtain⟨bq,hbq⟩:∃bq,bq=w2.heap.size:=⟨_,rfl⟩
 refine L5 (Zs:=[_,_]) (σ:=List Bool) (fun s=>[A5 Bo #[.slice (some ⟨g,0,none⟩) L.length L.length] 215,A5 Bf (Cx sa L.length sc wa m wc) 29,A5 Bv #[.func (.func 222) #[] #[.pointer (some ⟨Bo,0,none⟩),.pointer (some ⟨Bf,0,none⟩),.pointer (some ⟨Bv,0,none⟩)]] 269,Aw 4 1 Ls (.slice (some ⟨g,0,none⟩) L.length L.length) (s)]) (fun pre s=>(VisL (Zh L) D s n (pre.map fun x:{x:Int//x∈L0 sk}=>x.1.toNat))) (fun _ _ _=>False) (fun x b=>[]) (fun x b=>[(5,.eq (vi x.1)),(1,.eq (.pointer (some ⟨Bo,0,none⟩))),(2,.eq (.pointer (some ⟨Bf,0,none⟩))),(3,.eq (.pointer (some ⟨Bv,0,none⟩)))]) (D.set n true) (.t rfl) (fun args w=>yB args w) (Qy _ _ B8 sk _ (fun hne B o e h=>h.1.elim (fun h2=>by have h1:=hR.ln sk hsm hne B o e;have h3:=hb _ h2;omega) (fun h2=>by have h1:=hR.ln sk hsm hne B o e;omega)) (fun h=>h.2 ⟨_,b_ _ b7,rfl⟩) hS.b1 (hR2.p sk hsm) (fun x hx=>by have h1:=(hFw.b n sk hsk).2;have h2:=(hFw.n n sk hsk x hx).1;omega) (hFw.b n sk hsk).1 (by have:=hFw.l sk hsm;omega) (L0 sk) rfl) (fun _=>rfl) rfl (fun _ _=>rfl) (show Wx.Sep _ _ _ ([_,_]++[_,_,_,_])from hS) (VisL.start oQ) ?_ ?_ ?_ ?_
 ·intro lp x w3
  have hS:=Sep.start no w3
  refine Ht rfl ?_
  refine Aa (LW.A rfl (LW.nil ?_))
  exact fun a ha=>⟨0,hS,.nil _ _,ha.sub tQ⟩
 ·rintro lp pre x E b w4 hJ hlt hqw hS0 hS
  rw[←hbq]at hqw⊢
  have zq:=hqw
  change Wx.Sep _ _ _ [_,_,_,_]at hS
  have hx0:=hFw.LN hsk x.1 x.2
  have hEl:E.length=L.length:=hJ.len.trans hlD
  obtain⟨Bz,oz,az,hcz⟩:=(Cf (hS.own 3 rfl) (fun _=>rfl)) x.1.toNat _ (Lc oQ)
  cases az
  have hUn:Vw E<Vw D:=by have h1:=pM (hJ.len.trans (d9 (i:=n) (a:=true)).symm).symm (fun j hj=>by rw[O1 (by omega)]at hj;rcases j4.1 hj with h|h;(rw[←b9 h];exact hJ.at_);exact hJ.le j h);have h2:=Mw (D:=D) (n:=n) oQ hnD;omega
  refine Ak (Af ?_)
  refine U (.lb rfl (hS.b0.Ad rfl)) ?_
  refine U (.Dt (v':=vi (x.1.toNat:Int)) (PEv.mv rfl) (bi vi oQ)) ?_
  refine U (.Ao l8 mf (j:=x.1.toNat) (.t rfl) (.t rfl) oQ rfl) ?_
  refine U (.lb rfl (hcz.nth (j:=0) rfl)) ?_
  refine U (.n1 rfl) ?_
  refine Ah ?_
  refine CW.b rfl (fun h20=>?_) (fun h20=>?_)
  ·replace h20:=dQ h20
   refine Aa ?_
   refine U (.lb rfl (hS.b2.Ad rfl)) ?_
   refine U (.Dt (v':=vi (x.1.toNat:Int)) (PEv.mv rfl) (bi vi oQ)) ?_
   refine A4 (Cu (f:=222) (lb:=#[.pointer (some ⟨Bo,0,none⟩),.pointer (some ⟨Bf,0,none⟩),.pointer (some ⟨Bv,0,none⟩)]) (.t rfl) (.cu rfl) (xU)) rfl (ih E x.1.toNat _ hUn hEl oQ (by simpa using h20) (hR.fr hS0.fr hb) oQ (fun i hi=>hb i (kW (As:=[_,_,_]) hi)) hS) ?_
   rintro _ w5 ⟨E2,hS,hV⟩
   refine LW.nil (Al ?_)
   first|exact fun _ _=>⟨E2,[],(by rw[co];exact hJ.more (by rw[eF hsk];exact bx.2 ⟨x.1,x.2,rfl⟩) hV),hS,.cons (Na hS.b0) (.cons (Na hS.b1) (.cons (Na hS.b2) (.cons (pG (hS.own 3 rfl)) (.nil _ _))))⟩|exact fun _ _=>⟨E,[],(by rw[co];exact hJ.skip (by simpa using h20)),hS,.cons (Na hS.b0) (.cons (Na hS.b1) (.cons (Na hS.b2) (.cons (pG (hS.own 3 rfl)) (.nil _ _))))⟩
  replace h20:=dQ h20
  refine Aj (Al ?_)
  first|exact fun _ _=>⟨E2,[],(by rw[co];exact hJ.more (by rw[eF hsk];exact bx.2 ⟨x.1,x.2,rfl⟩) hV),hS,.cons (Na hS.b0) (.cons (Na hS.b1) (.cons (Na hS.b2) (.cons (pG (hS.own 3 rfl)) (.nil _ _))))⟩|exact fun _ _=>⟨E,[],(by rw[co];exact hJ.skip (by simpa using h20)),hS,.cons (Na hS.b0) (.cons (Na hS.b1) (.cons (Na hS.b2) (.cons (pG (hS.own 3 rfl)) (.nil _ _))))⟩
 ·rintro Dm ys E w6 hDq hYs hJ hqw hS
  rw[←hbq]at hDq hqw
  have zq:=hqw
  replace hS:=Xe (Ds:=[]) (As:=[_]) (Bs:=[_,_,_,_]) hS
  change Wx.Sep _ _ _ [_,_,_,_,_,_]at hS
  refine Al ?_
  refine Nu rfl (Dm::[]) _ (hS.get 0 rfl).1 (hS.get 0 rfl).2 ?_
  intro w7 hF_
  replace hS:=hS.step 0 rfl (A':=kT) hF_ trivial (fun _ h=>h.elim)
  change Wx.Sep _ _ _ [_,_,_,_,_,_]at hS
  have zw7:=hF_.size
  refine Gi rfl ⟨_,rfl,?_⟩
  refine⟨E,hS.sub (.cons _ (.cons _ (List.Sublist.refl _))),?_⟩
  subst hYs
  rw[uI,←eF hsk]at hJ
  exact hJ.fin
 exact fun _ _ _ _ _ _ _ h=>h.elim
theorem kX(b Bo g Bf Bv:Nat)(sa wa:Option Addr)(sc m wc:Nat)(L:List Sk)(hFw:Fwd L)  :∀(k:Nat)(D:List Bool)(n:Nat)(w:World),Vw D≤k→D.length=L.length→n<L.length→It D n=false→FlR b w sa L→b≤w.heap.size→(∀i,Cy ([A5 Bo #[.slice (some ⟨g,0,none⟩) L.length L.length] 215,A5 Bf (Cx sa L.length sc wa m wc) 29,A5 Bv #[.func (.func 222) #[] #[.pointer (some ⟨Bo,0,none⟩),.pointer (some ⟨Bf,0,none⟩),.pointer (some ⟨Bv,0,none⟩)]] 269,Aw 4 1 Ls (.slice (some ⟨g,0,none⟩) L.length L.length) (D)]) i→b≤i)→Wx.Sep (Cy ([A5 Bo #[.slice (some ⟨g,0,none⟩) L.length L.length] 215,A5 Bf (Cx sa L.length sc wa m wc) 29,A5 Bv #[.func (.func 222) #[] #[.pointer (some ⟨Bo,0,none⟩),.pointer (some ⟨Bf,0,none⟩),.pointer (some ⟨Bv,0,none⟩)]] 269,Aw 4 1 Ls (.slice (some ⟨g,0,none⟩) L.length L.length) (D)])) w w ([A5 Bo #[.slice (some ⟨g,0,none⟩) L.length L.length] 215,A5 Bf (Cx sa L.length sc wa m wc) 29,A5 Bv #[.func (.func 222) #[] #[.pointer (some ⟨Bo,0,none⟩),.pointer (some ⟨Bf,0,none⟩),.pointer (some ⟨Bv,0,none⟩)]] 269,Aw 4 1 Ls (.slice (some ⟨g,0,none⟩) L.length L.length) (D)])→  Ret prog 222 #[vi (n:Int),.pointer (some ⟨Bo,0,none⟩),.pointer (some ⟨Bf,0,none⟩),.pointer (some ⟨Bv,0,none⟩)] w fun _ w'=>∃E,Wx.Sep (Cy ([A5 Bo #[.slice (some ⟨g,0,none⟩) L.length L.length] 215,A5 Bf (Cx sa L.length sc wa m wc) 29,A5 Bv #[.func (.func 222) #[] #[.pointer (some ⟨Bo,0,none⟩),.pointer (some ⟨Bf,0,none⟩),.pointer (some ⟨Bv,0,none⟩)]] 269,Aw 4 1 Ls (.slice (some ⟨g,0,none⟩) L.length L.length) (D)])) w w' ([A5 Bo #[.slice (some ⟨g,0,none⟩) L.length L.length] 215,A5 Bf (Cx sa L.length sc wa m wc) 29,A5 Bv #[.func (.func 222) #[] #[.pointer (some ⟨Bo,0,none⟩),.pointer (some ⟨Bf,0,none⟩),.pointer (some ⟨Bv,0,none⟩)]] 269,Aw 4 1 Ls (.slice (some ⟨g,0,none⟩) L.length L.length) (E)])∧Vis (Zh L) D E n:=by
 intro k
 induction k with
 |zero=>exact fun D n w h h1 h2 h3=>absurd (Mw (D:=D) (n:=n) oQ h3) oQ
 |succ k ih=>exact fun D n w h h1 h2 h3 h4 h5 h6 h7=>eG b Bo g Bf Bv sa wa sc m wc L hFw D n w h1 h2 h3 h4 h5 h6 h7 (fun D' x W hu=>ih D' x W oQ)
theorem Ma(sa wa:Option Addr)(sc wc:Nat)(L:List Sk)(Ws:List Wn)(w:World)(hF:FlG w sa wa L Ws)(hFw:Fwd L)(x:Nat)(hx:x<L.length):Ret prog 162 #[.agg (Cx sa L.length sc wa Ws.length wc),vi (x:Int)] w fun r w'=>∃g E,r=.slice (some ⟨g,0,none⟩) L.length L.length∧Vis (Zh L) (List.replicate L.length false) E x∧OwnS w' w.heap.size 4 1 Ls (.slice (some ⟨g,0,none⟩) L.length L.length) E∧Up w w':=by
 obtain⟨w0,rfl,hS⟩:=W0 w
 have hlen:=hF.len
 refine cT 16 func162 rfl ?_
 refine Af ?_
 refine Ap (.bA rfl) rfl ?_
 rintro _ w1 ⟨B2,rfl,NB2⟩
 have eB2:=NB2.at_
 have zB2:=NB2.size
 replace hS:=hS.Cg NB2
 change Wx.Sep _ _ _ [_]at hS
 refine Az (An (Aa ?_))
 refine U (.fB 2 rfl) ?_
 refine U (.lb rfl (hS.b0.Ad rfl)) ?_
 refine U (.Ck lr (.t rfl)) ?_
 refine Ap (.pK (m:=L.length) (enc:=Ls) (x0:=false) (i:=Tryz.t4) rfl rfl l8 kQ rfl rfl cQ (.t rfl) (.t rfl) (by have:=hF.len;omega)) rfl ?_
 rintro _ w2 ⟨uM,g,zM,rfl,hOM⟩
 have zw2:=uM.size
 replace hS:=hS.add uM (A':=Aw 4 1 Ls (.slice (some ⟨g,0,none⟩) L.length L.length) (List.replicate L.length false)) hOM (fun i h=>by cases h;exact zM)
 clear hOM
 change Wx.Sep _ _ _ [_,_]at hS
 refine Ap (.Gl zeroValue215 rfl) rfl ?_
 rintro _ w3 ⟨B5,rfl,MB5⟩
 refine Cd (.store sizeOf215 (.t rfl) (.t rfl) rfl MB5.blk cQ) ?_
 intro w4 LB5
 have NB5:=MB5.set LB5
 clear LB5 MB5
 have eB5:=NB5.at_
 have zB5:=NB5.size
 replace hS:=hS.Cg NB5
 change Wx.Sep _ _ _ [_,_,_]at hS
 refine An (Aa ?_)
 refine Ap (.Gl zeroValue269 rfl) rfl ?_
 rintro _ w5 ⟨B6,rfl,NB6⟩
 have eB6:=NB6.at_
 have zB6:=NB6.size
 replace hS:=hS.Cg NB6
 change Wx.Sep _ _ _ [_,_,_,_]at hS
 refine An (Aa ?_)
 refine U (.makeFunc (.ct rfl (.ct rfl (.cu rfl)))) ?_
 refine Cd (.store sizeOf269 (.t rfl) (.t rfl) rfl hS.b3 bQ) ?_
 intro w6 Nw6
 have zw6:=Nw6.size
 replace hS:=hS.Ek 3 rfl Nw6
 change Wx.Sep _ _ _ [_,_,_,_]at hS
 refine An (Aa ?_)
 refine U (.lb rfl (hS.b3.Ad rfl)) ?_
 refine I rfl ?_
 replace hS:=hS.Ep 2 rfl
 change Wx.Sep _ _ _ [_,_,_,_]at hS
 replace hS:=hS.Ep 0 rfl
 change Wx.Sep _ _ _ [_,_,_,_]at hS
 replace hS:=hS.Ep 1 rfl
 change Wx.Sep _ _ _ [_,_,_,_]at hS
 replace hS:=hS.Ep 0 rfl
 change Wx.Sep _ _ _ [_,_,_,_]at hS
 have hq_:=(show Wx.Sep _ _ _ ([]++[_,_,_,_])from hS)
 refine A4 (Cu (f:=222) (lb:=#[.pointer (some ⟨B5,0,none⟩),.pointer (some ⟨B2,0,none⟩),.pointer (some ⟨B6,0,none⟩)]) (.t rfl) (.cu rfl) (xU)) rfl (kX w0.heap.size B5 g B2 B6 sa wa sc Ws.length wc L hFw _ (List.replicate L.length false) x _ (bl _) gh hx (pO _ _) (hF.R.fr (hS.Ch.fr no) (fun i h=>h.elim)) hS.Ch.size (fun i⟨A_,h1,h2⟩=>((hq_.right.each A_ h1).2 i h2).resolve_left (fun h=>h)) hq_.right.self) ?_
 rintro _ w7 ⟨E,uw7,hV⟩
 replace hS:=hq_.frame uw7
 change Wx.Sep _ _ _ [_,_,_,_]at hS
 have zw7:=uw7.fr.size
 clear hq_
 refine An (Aa ?_)
 refine U (.lb rfl (hS.b0.Ad rfl)) ?_
 refine LW.A rfl (Ah (Am ?_))
 refine KW.q ?_
 exact⟨_,_,rfl,hV,(hS.own 3 rfl).F5 (fun i h=>(hS.foot 3 rfl i h).resolve_left (fun h=>h)),hS.Ch⟩
theorem Vy(sa wa:Option Addr)(sc wc:Nat)(L:List Sk)(Ws:List Wn)(w:World)(hF:FlG w sa wa L Ws)(hFw:Fwd L)(x:Nat)(hx:x<L.length):Ret prog 160 #[.agg (Cx sa L.length sc wa Ws.length wc),vi (x:Int)] w fun r w'=>∃E,Vis (Zh L) (List.replicate L.length false) E x∧OwnS w' w.heap.size 3 1 A3 r (Gk E L.length)∧Up w w':=by
 obtain⟨w0,rfl,hS⟩:=W0 w
 have hlen:=hF.len
 refine cT 28 func160 rfl ?_
 refine Af ?_
 refine Ap (.bA rfl) rfl ?_
 rintro _ w1 ⟨B2,rfl,NB2⟩
 have eB2:=NB2.at_
 have zB2:=NB2.size
 replace hS:=hS.Cg NB2
 change Wx.Sep _ _ _ [_]at hS
 refine Az (An (Af ?_))
 refine U (.lc rfl (hS.b0.agg)) ?_
 refine I rfl ?_
 refine Ap (.buildSlice (xs:=([(x:Int)]:List Int)) (enc:=A3) (mk:=vi) k_ lg lq rfl cQ (fun _=>rfl) (fun _=>rfl) (.cu rfl) rfl) rfl ?_
 rintro _ w2 ⟨B9,cB9,rfl,NB9,yB9,xB9⟩
 have eB9:=NB9.at_
 have zB9:=NB9.size
 replace hS:=hS.up NB9.up
 have hE9:=xB9
 refine A4 (eC (.u rfl rfl) (oP)) rfl (Sx sa wa sc wc L Ws _ (hF.up hS.Ch) _ _ ([(x:Int)]:List Int) hE9 bQ (fun y hy=>by rw[bn.1 hy];omega)) ?_
 rintro _ w3 ⟨rfl,uw3⟩
 have zw3:=uw3.size
 replace hS:=hS.up uw3
 replace hE9:=hE9.up uw3
 refine U (.n1 rfl) ?_
 refine Ah ?_
 refine CW.f rfl ?_
 refine Aj (Ac (Ai (Ai ?_)))
 replace hS:=hS.Ln (OwnS.nil _ 0 3 1 A3)
 change Wx.Sep _ _ _ [_,_]at hS
 refine Aa ?_
 refine U (.lc rfl (hS.b0.agg)) ?_
 refine I rfl ?_
 refine A4 (eC (.u rfl rfl) (oN)) rfl (Ma sa wa sc wc L Ws _ (hF.up hS.Ch) hFw x hx) ?_
 rintro _ w4 ⟨g,E,rfl,hV,hEE,uw4⟩
 have zw4:=uw4.size
 replace hE9:=hE9.up uw4
 replace hS:=hS.add uw4 (A':=Aw 4 1 Ls (.slice (some ⟨g,0,none⟩) L.length L.length) E) (hEE.mono (a8 _)) (fun i h=>hEE.base i h)
 change Wx.Sep _ _ _ [_,_,_]at hS
 clear hEE
 have hEl:E.length=L.length:=hV.len.trans gh
 refine U (.Ck l8 (.t rfl)) ?_
 refine U (.move (.const _)) ?_
 refine Ah (Ak ?_)
 refine A6 (σ:=Nat×Go.Value) (fun s w=>(s.1≤L.length)∧(Wx.Sep no w0 w [A5 B2 (Cx sa L.length sc wa Ws.length wc) 29,Aw 3 1 A3 s.2 (Gk E s.1),Aw 4 1 Ls (.slice (some ⟨g,0,none⟩) L.length L.length) E])) (fun s=>[(16,.eq (vi (s.1:Int))),(4,.eq (s.2))]) ([(14,.eq _),(15,.eq _)]) (fun s=>L.length-s.1) (0,.slice none 0 0) ?_ tQ ?_
 ·exact⟨a8 _,hS⟩
 rintro⟨k,v⟩ w5 ⟨hk,hS⟩
 dsimp only at hk hS
 change Wx.Sep _ _ _ [_,_,_]at hS
 change CW _ _ _ _ _ _ _ ([(16,.eq (vi (k:Int))),(4,.eq (v))]++_) _
 refine Af ?_
 refine U (.l2 rfl rfl) ?_
 refine An ?_
 refine CW.b rfl (fun h17=>?_) (fun h17=>?_)
 ·replace h17:=dQ h17
  refine Aj (Ac (Ai (Ak (Ai ?_))))
  have hkl:k<L.length:=cm.1 h17
  obtain⟨Bz,oz,az,hcz⟩:=(Cf (hS.own 2 rfl) (fun _=>rfl)) k _ (Lc oQ)
  cases az
  refine Aa (I rfl ?_)
  refine U (.Ao l8 mf (j:=k) (.t rfl) (.t rfl) oQ rfl) ?_
  refine U (.lb rfl (hcz.nth (j:=0) rfl)) ?_
  refine LW.A rfl (LW.A rfl (An (Aa (I rfl (Ah ?_)))))
  refine CW.b rfl (fun h21=>?_) (fun h21=>?_)
  ·replace h21:=dQ h21
   refine Aa (I rfl (I rfl ?_))
   refine Ap (.buildSlice (xs:=[(k:Int)]) (enc:=A3) (mk:=vi) k_ lg lq rfl cQ (fun _=>rfl) (fun _=>rfl) (.cu rfl) rfl) rfl ?_
   rintro _ w6 ⟨B24,cB24,rfl,NB24,yB24,xB24⟩
   have eB24:=NB24.at_
   have zB24:=NB24.size
   replace hS:=hS.up NB24.up
   have hE24:=xB24
   refine Ap (.C3 (enc:=A3) (bytes:=8) (i:=Tryz.t3) k_ kQ rfl rfl rfl rfl cQ (fun _=>rfl) Et (.t rfl) (.t rfl) (hS.own 1 rfl) (Ay hE24) (by have:=L7 E k;simp[maxLen];have:=hF.len;omega) (by have:=L7 E k;simp;have:=hF.len;omega)) rfl ?_
   intro v25 w7 Gw7
   have zw7:=Gw7.fr.size
   replace hS:=hS.Fs 1 rfl Gw7
   change Wx.Sep _ _ _ [_,_,_]at hS
   refine LW.A rfl (LW.nil (Al (Ac (Aa ?_))))
   refine U (.ic rfl oQ) ?_
   refine I rfl (LW.nil (Av ?_))
   first|exact⟨(k+1,v25),⟨by show k+1≤_;omega,by first|(rw[O2 h21];exact hS)|(rw[Ru h21];exact hS)⟩,tQ,by show L.length-(k+1)<L.length-k;omega⟩|exact⟨(k+1,v),⟨by show k+1≤_;omega,by first|(rw[O2 h21];exact hS)|(rw[Ru h21];exact hS)⟩,tQ,by show L.length-(k+1)<L.length-k;omega⟩
  replace h21:=dQ h21
  refine Aj (Al (Ac (Aa ?_)))
  refine U (.ic rfl oQ) ?_
  refine I rfl (LW.nil (Av ?_))
  first|exact⟨(k+1,v25),⟨by show k+1≤_;omega,by first|(rw[O2 h21];exact hS)|(rw[Ru h21];exact hS)⟩,tQ,by show L.length-(k+1)<L.length-k;omega⟩|exact⟨(k+1,v),⟨by show k+1≤_;omega,by first|(rw[O2 h21];exact hS)|(rw[Ru h21];exact hS)⟩,tQ,by show L.length-(k+1)<L.length-k;omega⟩
 replace h17:=dQ h17
 refine A8 (Ab (Ab (Aq (Ac (Ai ?_)))))
 have hkl:k=L.length:=by have:¬k<L.length:=fun h=>h17 (cm.2 h);omega
 subst hkl
 refine Aa (I rfl (LW.A rfl (Ah (Am ?_))))
 refine KW.q ?_
 exact⟨E,hV,(hS.own 1 rfl).F5 (fun i h=>(hS.foot 1 rfl i h).resolve_left (fun h=>h)),hS.Ch⟩
def uJ:Nat→FuncId:=fun o=>match o with
 |1=>131
 |5=>209
 |6=>208
 |7=>135
 |8=>148
 |9=>136
 |10=>149
 |11=>137
 |12=>138
 |13=>139
 |14=>132
 |15=>133
 |16=>141
 |17=>140
 |_=>0
def Fld.cells(x:Fld):Array Go.Value:=#[.func (.func (uJ x.off)) #[] #[],vi x.lo,vi x.hi]
theorem Fld.one(x:Fld):(Fld.cells x).all (·.oneCell')=true:=by simp[Fld.cells,Value.oneCell']
theorem AA(b:Nat)(w:World):Ret prog 131 #[.pointer (some ⟨b,0,none⟩)] w fun r w'=>r=.pointer (some ⟨b,1,none⟩)∧Up w w':=by
 have hW:=Up.refl w
 refine cT 6 func131 rfl (Af (Az (An (Aa (I rfl (U (.nc rfl) (U (.fB 1 rfl) (LW.A rfl (Ah (Am (KW.q ?_)))))))))))
 exact⟨rfl,hW⟩
theorem pP(b:Nat)(w:World):Ret prog 209 #[.pointer (some ⟨b,0,none⟩)] w fun r w'=>r=.pointer (some ⟨b,5,none⟩)∧Up w w':=by
 have hW:=Up.refl w
 refine cT 6 func209 rfl (Af (Az (An (Aa (I rfl (U (.nc rfl) (U (.fB 5 rfl) (LW.A rfl (Ah (Am (KW.q ?_)))))))))))
 exact⟨rfl,hW⟩
theorem kY(b:Nat)(w:World):Ret prog 208 #[.pointer (some ⟨b,0,none⟩)] w fun r w'=>r=.pointer (some ⟨b,6,none⟩)∧Up w w':=by
 have hW:=Up.refl w
 refine cT 6 func208 rfl (Af (Az (An (Aa (I rfl (U (.nc rfl) (U (.fB 6 rfl) (LW.A rfl (Ah (Am (KW.q ?_)))))))))))
 exact⟨rfl,hW⟩
theorem kZ(b:Nat)(w:World):Ret prog 135 #[.pointer (some ⟨b,0,none⟩)] w fun r w'=>r=.pointer (some ⟨b,7,none⟩)∧Up w w':=by
 have hW:=Up.refl w
 refine cT 6 func135 rfl (Af (Az (An (Aa (I rfl (U (.nc rfl) (U (.fB 7 rfl) (LW.A rfl (Ah (Am (KW.q ?_)))))))))))
 exact⟨rfl,hW⟩
theorem lA(b:Nat)(w:World):Ret prog 148 #[.pointer (some ⟨b,0,none⟩)] w fun r w'=>r=.pointer (some ⟨b,8,none⟩)∧Up w w':=by
 have hW:=Up.refl w
 refine cT 6 func148 rfl (Af (Az (An (Aa (I rfl (U (.nc rfl) (U (.fB 8 rfl) (LW.A rfl (Ah (Am (KW.q ?_)))))))))))
 exact⟨rfl,hW⟩
theorem uK(b:Nat)(w:World):Ret prog 136 #[.pointer (some ⟨b,0,none⟩)] w fun r w'=>r=.pointer (some ⟨b,9,none⟩)∧Up w w':=by
 have hW:=Up.refl w
 refine cT 6 func136 rfl (Af (Az (An (Aa (I rfl (U (.nc rfl) (U (.fB 9 rfl) (LW.A rfl (Ah (Am (KW.q ?_)))))))))))
 exact⟨rfl,hW⟩
theorem Zj(b:Nat)(w:World):Ret prog 149 #[.pointer (some ⟨b,0,none⟩)] w fun r w'=>r=.pointer (some ⟨b,10,none⟩)∧Up w w':=by
 have hW:=Up.refl w
 refine cT 6 func149 rfl (Af (Az (An (Aa (I rfl (U (.nc rfl) (U (.fB 10 rfl) (LW.A rfl (Ah (Am (KW.q ?_)))))))))))
 exact⟨rfl,hW⟩
theorem pQ(b:Nat)(w:World):Ret prog 137 #[.pointer (some ⟨b,0,none⟩)] w fun r w'=>r=.pointer (some ⟨b,11,none⟩)∧Up w w':=by
 have hW:=Up.refl w
 refine cT 6 func137 rfl (Af (Az (An (Aa (I rfl (U (.nc rfl) (U (.fB 11 rfl) (LW.A rfl (Ah (Am (KW.q ?_)))))))))))
 exact⟨rfl,hW⟩
theorem Zl(b:Nat)(w:World):Ret prog 138 #[.pointer (some ⟨b,0,none⟩)] w fun r w'=>r=.pointer (some ⟨b,12,none⟩)∧Up w w':=by
 have hW:=Up.refl w
 refine cT 6 func138 rfl (Af (Az (An (Aa (I rfl (U (.nc rfl) (U (.fB 12 rfl) (LW.A rfl (Ah (Am (KW.q ?_)))))))))))
 exact⟨rfl,hW⟩
theorem pR(b:Nat)(w:World):Ret prog 139 #[.pointer (some ⟨b,0,none⟩)] w fun r w'=>r=.pointer (some ⟨b,13,none⟩)∧Up w w':=by
 have hW:=Up.refl w
 refine cT 6 func139 rfl (Af (Az (An (Aa (I rfl (U (.nc rfl) (U (.fB 13 rfl) (LW.A rfl (Ah (Am (KW.q ?_)))))))))))
 exact⟨rfl,hW⟩
theorem eH(b:Nat)(w:World):Ret prog 132 #[.pointer (some ⟨b,0,none⟩)] w fun r w'=>r=.pointer (some ⟨b,14,none⟩)∧Up w w':=by
 have hW:=Up.refl w
 refine cT 6 func132 rfl (Af (Az (An (Aa (I rfl (U (.nc rfl) (U (.fB 14 rfl) (LW.A rfl (Ah (Am (KW.q ?_)))))))))))
 exact⟨rfl,hW⟩
theorem Xh(b:Nat)(w:World):Ret prog 133 #[.pointer (some ⟨b,0,none⟩)] w fun r w'=>r=.pointer (some ⟨b,15,none⟩)∧Up w w':=by
 have hW:=Up.refl w
 refine cT 6 func133 rfl (Af (Az (An (Aa (I rfl (U (.nc rfl) (U (.fB 15 rfl) (LW.A rfl (Ah (Am (KW.q ?_)))))))))))
 exact⟨rfl,hW⟩
theorem lB(b:Nat)(w:World):Ret prog 141 #[.pointer (some ⟨b,0,none⟩)] w fun r w'=>r=.pointer (some ⟨b,16,none⟩)∧Up w w':=by
 have hW:=Up.refl w
 refine cT 6 func141 rfl (Af (Az (An (Aa (I rfl (U (.nc rfl) (U (.fB 16 rfl) (LW.A rfl (Ah (Am (KW.q ?_)))))))))))
 exact⟨rfl,hW⟩
theorem Zm(b:Nat)(w:World):Ret prog 140 #[.pointer (some ⟨b,0,none⟩)] w fun r w'=>r=.pointer (some ⟨b,17,none⟩)∧Up w w':=by
 have hW:=Up.refl w
 refine cT 6 func140 rfl (Af (Az (An (Aa (I rfl (U (.nc rfl) (U (.fB 17 rfl) (LW.A rfl (Ah (Am (KW.q ?_)))))))))))
 exact⟨rfl,hW⟩
theorem Dl(g:FuncId)(w:World):Ret prog 130 #[.func (.func g) #[] #[]] w fun r w'=>r=.agg #[.func (.func g) #[] #[],vi 1,vi 1000000]∧Up w w':=by
 have hW:=Up.refl w
 refine cT 5 func130 rfl (Af (Ap (.Cb lj) rfl ?_))
 rintro _ w1 ⟨B2,rfl,NB2⟩
 have eB2:=NB2.at_
 replace hW:=hW.up NB2.up
 have hB2:=NB2.blk
 refine An (Aa (I rfl (U (.build (cs:=#[.func (.func g) #[] #[],vi 1,vi 1000000]) lz lj Ct (.ct rfl (.cons (.const _) (.cons (.const _) .nil))) rfl) (Cd (.Cc ly rfl (.t rfl) (.t rfl) eQ hB2 rfl) ?_))))
 intro w2 Nw2
 replace hW:=hW.sto Nw2.sto oQ
 replace hB2:=Nw2.blk
 refine Ah (Am (F3 rfl rfl isAgg191 ly rfl (hB2.agg) ⟨_,rfl,?_⟩))
 exact⟨rfl,hW⟩
theorem Hj(w:World):Ret prog 146 #[] w fun r w'=>r=.agg (Fld.cells Cp)∧Up w w':=by
 have hW:=Up.refl w
 refine cT 2 func146 rfl (Af (Ap (.Cb lj) rfl ?_))
 rintro _ w1 ⟨B0,rfl,NB0⟩
 have eB0:=NB0.at_
 replace hW:=hW.up NB0.up
 have hB0:=NB0.blk
 refine An (Aa (U (.build (cs:=(Fld.cells Cp)) lz lj Ct (.cons (.func _) (.cons (.const _) (.cons (.const _) .nil))) rfl) (Cd (.Cc ly rfl (.t rfl) (.t rfl) (Fld.one _) hB0 rfl) ?_)))
 intro w2 Nw2
 replace hW:=hW.sto Nw2.sto oQ
 replace hB0:=Nw2.blk
 refine Ah (Am (F3 rfl rfl isAgg191 ly rfl (hB0.agg) ⟨_,rfl,?_⟩))
 exact⟨rfl,hW⟩
theorem Mx(w:World):Ret prog 143 #[] w fun r w'=>SlT 191 w' r 3 Fld.cells C8∧Up w w':=by
 have hW:=Up.refl w
 refine cT 4 func143 rfl (Af (Az (An (Aa (U (.build (cs:=(Fld.cells ⟨11,0,59⟩)) lz lj Ct (.cons (.func _) (.cons (.const _) (.cons (.const _) .nil))) rfl) (U (.build (cs:=(Fld.cells ⟨12,0,3⟩)) lz lj Ct (.cons (.func _) (.cons (.const _) (.cons (.const _) .nil))) rfl) (Ap (.buildSlice (xs:=C8) (enc:=Fld.cells) (mk:=fun x:Fld=>.agg (Fld.cells x)) lw ly lj rfl cQ (fun _=>rfl) (fun _=>rfl) (.ct rfl (.cu rfl)) rfl) rfl ?_)))))))
 rintro _ w1 ⟨B3,cB3,rfl,NB3,yB3,xB3⟩
 replace hW:=hW.up NB3.up
 have hB3:=NB3.blk
 have hE3:=xB3
 refine LW.A rfl (Ah (Am (KW.q ?_)))
 exact⟨SlT.lit ⟨B3,cB3,rfl,NB3,yB3,hE3⟩,hW⟩
theorem O3(w:World):Ret prog 144 #[] w fun r w'=>SlT 191 w' r 3 Fld.cells Eb∧Up w w':=by
 have hW:=Up.refl w
 refine cT 4 func144 rfl (Af (Az (An (Aa (A4 (eC .nil (Oo)) rfl (Hj _) ?_)))))
 rintro _ w1 ⟨rfl,uw1⟩
 replace hW:=hW.up uw1
 refine U (.build (cs:=(Fld.cells ⟨6,0,1000000⟩)) lz lj Ct (.cons (.func _) (.cons (.const _) (.cons (.const _) .nil))) rfl) (Ap (.buildSlice (xs:=Eb) (enc:=Fld.cells) (mk:=fun x:Fld=>.agg (Fld.cells x)) lw ly lj rfl cQ (fun _=>rfl) (fun _=>rfl) (.ct rfl (.cu rfl)) rfl) rfl ?_)
 rintro _ w2 ⟨B3,cB3,rfl,NB3,yB3,xB3⟩
 replace hW:=hW.up NB3.up
 have hB3:=NB3.blk
 have hE3:=xB3
 refine LW.A rfl (Ah (Am (KW.q ?_)))
 exact⟨SlT.lit ⟨B3,cB3,rfl,NB3,yB3,hE3⟩,hW⟩
theorem Jl(ad:Option Addr)(cp:Nat)(vs:List Go.Value)(xss:List (List Fld))(w:World)(hE0:Els w ad 1 (fun v=>#[v]) vs)(hl:xss.length=vs.length)(hx0:∀(i:Nat)(v:Go.Value)(xs:List Fld),vs[i]?=some v→xss[i]?=some xs→Sl w v 3 Fld.cells xs)(hv:vs.length≤1000)(hb:xss.flatten.length≤1000):Ret prog 142 #[.slice ad vs.length cp] w fun r w'=>SlT 191 w' r 3 Fld.cells xss.flatten∧Up w w':=by
 obtain⟨w0,rfl,hS⟩:=W0 w
 refine cT 16 func142 rfl (Af (Az (An (Ai ?_))))
 replace hS:=hS.add (Up.refl _) (A':=Aw 191 3 Fld.cells (.slice none 0 0) ([]:List Fld)) (OwnS.nil _ _ _ _ _) (fun i h=>by cases h)
 refine Aa (I rfl (U (.Ck mz (.t rfl)) (U (.move (.const _)) (Ah (Ak (A6 (σ:=Nat×Go.Value) (fun s w=>(s.1≤vs.length)∧(Sep no w0 w [Aw 191 3 Fld.cells s.2 ((xss.take s.1).flatten)])) (fun s=>[(7,.eq (vi (s.1:Int))),(2,.eq (s.2))]) ([(5,.eq _),(6,.eq _)]) (fun s=>vs.length-s.1) (0,.slice none 0 0) ?_ tQ ?_))))))
 ·exact⟨a8 _,hS⟩
 rintro⟨k,v⟩ w1 ⟨hkk,hS⟩
 dsimp only at hkk hS
 refine Af (U (.l2 rfl rfl) (An (CW.b rfl (fun h8=>?_) (fun h8=>?_))))
 ·refine Aj (Ac (Ai (Ak (Ai ?_))))
  have hE:=hE0.up hS.Ch
  have hkl:k<vs.length:=by simp at h8;omega
  refine Aa ?_
  obtain⟨x,hx⟩:=Ae (xs:=vs) (i:=k) oQ
  obtain⟨Bx,ox,ax,hcx⟩:=hE _ x hx
  refine U (.Ao mz nm (.t rfl) (.t rfl) oQ ax) (U (.lb rfl (hcx.nth (j:=0) rfl)) (LW.A rfl (Ah ?_)))
  obtain⟨ys,hys⟩:=Ae (xs:=xss) (i:=k) oQ
  have hSl:=((hx0 k x ys hx hys).up hS.Ch)
  have hfl:=U0 xss (k+1)
  rw[Vx hys,ak]at hfl
  refine Aa (I rfl (I rfl (Ap (.C3 (enc:=Fld.cells) (bytes:=24) (i:=Tryz.t191) lw kQ rfl rfl rfl rfl cQ (fun _=>rfl) Fld.one (.t rfl) (.t rfl) (hS.own 0 rfl) hSl (by simp only[maxLen];omega) oQ) rfl ?_)))
  intro v13 w2 Gw2
  replace hS:=hS.Fs 0 rfl Gw2
  refine LW.A rfl (LW.nil (Al (Ac (Aa (U (.ic rfl oQ) (I rfl (LW.nil (Av ?_))))))))
  exact⟨(k+1,v13),⟨by omega,by rw[Vx hys];exact hS⟩,tQ,by omega⟩
 refine A8 (Ab (Ab (Aq (Ac (Af (I rfl (LW.A rfl (Ah (Am (KW.q ?_))))))))))
 have hk2:xss.take k=xss:=gc (by simp at h8;omega)
 rw[hk2]at hS
 exact⟨SlT.own (hS.own 0 rfl) (fun _=>rfl),hS.Ch⟩
def Fm:Nat→FuncId:=fun o=>match o with
 |1=>145
 |2=>134
 |_=>147
def ShV(w:World)(v:Go.Value)(fs ks:List Fld)(r:Nat)(t:Bool):Prop:=∃v1 v2,v=.agg #[v1,v2,.func (.func (Fm r)) #[] #[],.bool t]∧SlT 191 w v1 3 Fld.cells fs∧SlT 191 w v2 3 Fld.cells ks
theorem ShV.G7{w w':World}{v:Go.Value}{fs ks:List Fld}{r:Nat}{t:Bool}(h:ShV w v fs ks r t)(u:Cel w w'):ShV w' v fs ks r t:=let⟨v1,v2,e,h1,h2⟩:=h;⟨v1,v2,e,h1.G7 u,h2.G7 u⟩
def SlS(w:World)(v:Go.Value)(xss:List (List Fld)):Prop:=∃vs:List Go.Value,Sl w v 1 (fun v=>#[v]) vs∧xss.length=vs.length∧∀(i:Nat)(v:Go.Value)(xs:List Fld),vs[i]?=some v→xss[i]?=some xs→Sl w v 3 Fld.cells xs
theorem SlS.G7{w w':World}{v:Go.Value}{xss:List (List Fld)}(h:SlS w v xss)(u:Cel w w'):SlS w' v xss:=let⟨vs,h1,h2,h3⟩:=h;⟨vs,h1.G7 u,h2,fun i v xs a b=>(h3 i v xs a b).G7 u⟩
theorem Le(xss:List (List Fld)):PhC (.pred fun v w=>SlS w v xss):=fun _ _ _ h u=>SlS.G7 h u
theorem Hk(fs ks:List Fld)(r:Nat)(t:Bool):PhC (.pred fun v w=>ShV w v fs ks r t):=fun _ _ _ h u=>ShV.G7 h u
def ShMap(w:World)(b:Nat):Prop:=∃kv,IMap w b kv∧(∀k v,(k,v)∈kv→ShV w v (fieldsOf k) (Er k) (G8 k) (G9 k))∧∀k,k∈kv.map (·.1)↔1≤k∧k≤11
def AllSl(w:World):List Go.Value→List (List Fld)→Prop
 |[],[]=>True
 |v::vs,xs::xss=>Sl w v 3 Fld.cells xs∧AllSl w vs xss
 |_,_=>False
def U1(t:Option Addr×Nat×Nat):Go.Value:=.slice t.1 t.2.1 t.2.2
theorem Els.Ig{α:Type}{mk:α→Go.Value}{w:World}{ad:Option Addr}{xs:List α}(h:Els w ad 1 (fun x=>#[mk x]) xs):Els w ad 1 (fun v=>#[v]) (xs.map mk):=fun i v hv=>by
 rw[ew]at hv
 cases hx:xs[i]? with
 |none=>rw[hx]at hv;cases hv
 |some x=>rw[hx]at hv;cases hv;exact h i x hx
theorem AllSl.at{w:World}:∀{vs:List Go.Value}{xss:List (List Fld)},AllSl w vs xss→xss.length=vs.length∧∀(i:Nat)(v:Go.Value)(xs:List Fld),vs[i]?=some v→xss[i]?=some xs→Sl w v 3 Fld.cells xs
 |[],[],_=>⟨rfl,fun i v xs h=>by simp at h⟩
 |v::vs,xs::xss,h=>⟨by simp[(AllSl.at h.2).1],fun i v' xs' e1 e2=>by
   match i with
   |0=>cases e1;cases e2;exact h.1
   |i+1=>rw[fh]at e1 e2;exact(AllSl.at h.2).2 i v' xs' e1 e2⟩
 |[],_::_,h=>h.elim
 |_::_,[],h=>h.elim
theorem AllSl.up{w w':World}(u:Up w w'):∀{vs:List Go.Value}{xss:List (List Fld)},AllSl w vs xss→AllSl w' vs xss
 |[],[],_=>trivial
 |_::_,_::_,h=>⟨h.1.G7 u.G7,AllSl.up u h.2⟩
 |[],_::_,h=>h.elim
 |_::_,[],h=>h.elim
set_option maxHeartbeats 8000000 in
theorem Lf(w:World):Ret prog 55 #[] w fun r w'=>∃b,r=.map (some b)∧ShMap w' b∧Up w w':=by
 have hW:=Up.refl w
 refine cT 118 func55 rfl (Af (Az (An (Aa (A4 (eC (.cons (.func _) .nil) (Ij)) rfl (Dl _ _) ?_)))))
 rintro _ w1 ⟨rfl,uw1⟩
 replace hW:=hW.up uw1
 refine Ap (.buildSlice (xs:=Cz) (enc:=Fld.cells) (mk:=fun x:Fld=>.agg (Fld.cells x)) lw ly lj rfl cQ (fun _=>rfl) (fun _=>rfl) (.cu rfl) rfl) rfl ?_
 rintro _ w2 ⟨B8,cB8,rfl,NB8,yB8,xB8⟩
 replace hW:=hW.up NB8.up
 have hB8:=NB8.blk
 have hE8:=xB8
 refine LW.A rfl (An ?_)
 have hT8:=SlT.lit ⟨B8,cB8,rfl,NB8,yB8,hE8⟩
 refine Aa (A4 (eC (.cons (.func _) .nil) (Ij)) rfl (Dl _ _) ?_)
 rintro _ w3 ⟨rfl,uw3⟩
 replace hW:=hW.up uw3
 replace hB8:=hB8.up uw3
 replace hE8:=hE8.up uw3
 replace hT8:=hT8.up uw3
 refine A4 (eC (.cons (.func _) .nil) (Ij)) rfl (Dl _ _) ?_
 rintro _ w4 ⟨rfl,uw4⟩
 replace hW:=hW.up uw4
 replace hB8:=hB8.up uw4
 replace hE8:=hE8.up uw4
 replace hT8:=hT8.up uw4
 refine Ap (.buildSlice (xs:=Ld) (enc:=Fld.cells) (mk:=fun x:Fld=>.agg (Fld.cells x)) lw ly lj rfl cQ (fun _=>rfl) (fun _=>rfl) (.ct rfl (.cu rfl)) rfl) rfl ?_
 rintro _ w5 ⟨B11,cB11,rfl,NB11,yB11,xB11⟩
 replace hW:=hW.up NB11.up
 replace hB8:=hB8.up NB11.up
 replace hE8:=hE8.up NB11.up
 replace hT8:=hT8.up NB11.up
 have hB11:=NB11.blk
 have hE11:=xB11
 refine LW.A rfl (An ?_)
 have hT11:=SlT.lit ⟨B11,cB11,rfl,NB11,yB11,hE11⟩
 refine Aa (U (.assign (.func _)) (An (Aa (U (.build (cs:=(Fld.cells ⟨7,0,1000000⟩)) lz lj Ct (.cons (.func _) (.cons (.const _) (.cons (.const _) .nil))) rfl) (U (.build (cs:=(Fld.cells ⟨9,0,1000000⟩)) lz lj Ct (.cons (.func _) (.cons (.const _) (.cons (.const _) .nil))) rfl) (U (.build (cs:=(Fld.cells ⟨11,0,60⟩)) lz lj Ct (.cons (.func _) (.cons (.const _) (.cons (.const _) .nil))) rfl) (U (.build (cs:=(Fld.cells ⟨12,0,4⟩)) lz lj Ct (.cons (.func _) (.cons (.const _) (.cons (.const _) .nil))) rfl) (U (.build (cs:=(Fld.cells ⟨13,0,40⟩)) lz lj Ct (.cons (.func _) (.cons (.const _) (.cons (.const _) .nil))) rfl) (U (.build (cs:=(Fld.cells ⟨14,0,1000000⟩)) lz lj Ct (.cons (.func _) (.cons (.const _) (.cons (.const _) .nil))) rfl) (U (.build (cs:=(Fld.cells ⟨15,0,1000000⟩)) lz lj Ct (.cons (.func _) (.cons (.const _) (.cons (.const _) .nil))) rfl) (Ap (.buildSlice (xs:=Ka) (enc:=Fld.cells) (mk:=fun x:Fld=>.agg (Fld.cells x)) lw ly lj rfl cQ (fun _=>rfl) (fun _=>rfl) (.ct rfl (.ct rfl (.ct rfl (.ct rfl (.ct rfl (.ct rfl (.cu rfl))))))) rfl) rfl ?_)))))))))))
 rintro _ w6 ⟨B19,cB19,rfl,NB19,yB19,xB19⟩
 replace hW:=hW.up NB19.up
 replace hB8:=hB8.up NB19.up
 replace hE8:=hE8.up NB19.up
 replace hT8:=hT8.up NB19.up
 replace hB11:=hB11.up NB19.up
 replace hE11:=hE11.up NB19.up
 replace hT11:=hT11.up NB19.up
 have hB19:=NB19.blk
 have hE19:=xB19
 refine LW.A rfl (An ?_)
 have hT19:=SlT.lit ⟨B19,cB19,rfl,NB19,yB19,hE19⟩
 refine Aa (U (.build (cs:=(Fld.cells Ie)) lz lj Ct (.cons (.func _) (.cons (.const _) (.cons (.const _) .nil))) rfl) (Ap (.Cb lj) rfl ?_))
 rintro _ w7 ⟨B5,rfl,MB5⟩
 refine Cd (.Cc ly rfl (.t rfl) (.t rfl) (Fld.one _) MB5.blk rfl) ?_
 intro w8 LB5
 have NB5:=MB5.set LB5
 replace hW:=hW.up NB5.up
 replace hB8:=hB8.up NB5.up
 replace hE8:=hE8.up NB5.up
 replace hT8:=hT8.up NB5.up
 replace hB11:=hB11.up NB5.up
 replace hE11:=hE11.up NB5.up
 replace hT11:=hT11.up NB5.up
 replace hB19:=hB19.up NB5.up
 replace hE19:=hE19.up NB5.up
 replace hT19:=hT19.up NB5.up
 have hB5:=NB5.blk
 refine An (Aa (U (.build (cs:=(Fld.cells Lo)) lz lj Ct (.cons (.func _) (.cons (.const _) (.cons (.const _) .nil))) rfl) (Ap (.Cb lj) rfl ?_)))
 rintro _ w9 ⟨B6,rfl,MB6⟩
 refine Cd (.Cc ly rfl (.t rfl) (.t rfl) (Fld.one _) MB6.blk rfl) ?_
 intro w10 LB6
 have NB6:=MB6.set LB6
 replace hW:=hW.up NB6.up
 replace hB8:=hB8.up NB6.up
 replace hE8:=hE8.up NB6.up
 replace hT8:=hT8.up NB6.up
 replace hB11:=hB11.up NB6.up
 replace hE11:=hE11.up NB6.up
 replace hT11:=hT11.up NB6.up
 replace hB19:=hB19.up NB6.up
 replace hE19:=hE19.up NB6.up
 replace hT19:=hT19.up NB6.up
 replace hB5:=hB5.up NB6.up
 have hB6:=NB6.blk
 refine An (kF 106 0 22 [(15,1,36),(24,2,44),(35,3,54),(45,4,63),(51,5,68),(60,6,76),(70,7,85),(79,8,93),(88,9,101),(97,10,109),(105,11,116)] [(.pred fun v _=>∃b,v=.map (some b)),(.pred fun v w=>SlT 191 w v 3 Fld.cells (Cz)),(.eq (.agg (Fld.cells (Co 7)))),(.pred fun v w=>SlT 191 w v 3 Fld.cells ([Co 7])),(.pred fun v w=>SlT 191 w v 3 Fld.cells (C8)),(.eq (.agg (Fld.cells (⟨13,0,39⟩)))),(.pred fun v w=>SlT 191 w v 3 Fld.cells ([⟨13,0,39⟩])),(.pred fun v w=>SlT 191 w v 3 Fld.cells (Ld)),(.pred fun v w=>SlT 191 w v 3 Fld.cells (Eb)),(.eq (.agg (Fld.cells (⟨16,-10000000,10000000⟩)))),(.pred fun v w=>SlT 191 w v 3 Fld.cells ([⟨16,-10000000,10000000⟩])),(.pred fun v w=>SlS w v [Cz,[Co 7],C8,[⟨13,0,39⟩],Ld,Eb,[⟨16,-10000000,10000000⟩]]),(.pred fun v w=>SlT 191 w v 3 Fld.cells (List.flatten [Cz,[Co 7],C8,[⟨13,0,39⟩],Ld,Eb,[⟨16,-10000000,10000000⟩]])),(.pred fun v w=>SlT 191 w v 3 Fld.cells (Cz)),(.pred fun v w=>ShV w v (List.flatten [Cz,[Co 7],C8,[⟨13,0,39⟩],Ld,Eb,[⟨16,-10000000,10000000⟩]]) (Cz) 1 false),(.eq undef),(.pred fun v w=>SlT 191 w v 3 Fld.cells (Cz)),(.eq (.agg (Fld.cells (Cp)))),(.eq (.agg (Fld.cells (Lo)))),(.pred fun v w=>SlT 191 w v 3 Fld.cells ([Cp,Lo])),(.pred fun v w=>SlS w v [Cz,[Cp,Lo]]),(.pred fun v w=>SlT 191 w v 3 Fld.cells (List.flatten [Cz,[Cp,Lo]])),(.pred fun v w=>SlT 191 w v 3 Fld.cells (Cz)),(.pred fun v w=>ShV w v (List.flatten [Cz,[Cp,Lo]]) (Cz) 0 false),(.eq undef),(.pred fun v w=>SlT 191 w v 3 Fld.cells (Cz)),(.eq (.agg (Fld.cells (Co 7)))),(.eq (.agg (Fld.cells (Co 8)))),(.eq (.agg (Fld.cells (Cp)))),(.pred fun v w=>SlT 191 w v 3 Fld.cells ([Co 7,Co 8,Cp])),(.pred fun v w=>SlS w v [Cz,[Co 7,Co 8,Cp]]),(.pred fun v w=>SlT 191 w v 3 Fld.cells (List.flatten [Cz,[Co 7,Co 8,Cp]])),(.pred fun v w=>SlT 191 w v 3 Fld.cells (Cz)),(.eq (.func (.func (Fm 2)) #[] #[])),(.pred fun v w=>ShV w v (List.flatten [Cz,[Co 7,Co 8,Cp]]) (Cz) 2 false),(.eq undef),(.eq (.agg (Fld.cells (Co 7)))),(.eq (.agg (Fld.cells (Co 9)))),(.eq (.agg (Fld.cells (Co 10)))),(.eq (.agg (Fld.cells (Cp)))),(.pred fun v w=>SlT 191 w v 3 Fld.cells ([Co 7,Co 9,Co 10,Cp])),(.eq (.agg (Fld.cells (Co 7)))),(.eq (.agg (Fld.cells (Cp)))),(.pred fun v w=>SlT 191 w v 3 Fld.cells ([Co 7,Cp])),(.pred fun v w=>ShV w v ([Co 7,Co 9,Co 10,Cp]) ([Co 7,Cp]) 0 false),(.eq undef),(.eq (.agg (Fld.cells (Co 10)))),(.pred fun v w=>SlT 191 w v 3 Fld.cells ([Co 10])),(.eq (.agg (Fld.cells (Co 10)))),(.pred fun v w=>SlT 191 w v 3 Fld.cells ([Co 10])),(.pred fun v w=>ShV w v ([Co 10]) ([Co 10]) 0 true),(.eq undef),(.pred fun v w=>SlT 191 w v 3 Fld.cells (Cz)),(.pred fun v w=>SlT 191 w v 3 Fld.cells (C8)),(.pred fun v w=>SlT 191 w v 3 Fld.cells (Ld)),(.pred fun v w=>SlT 191 w v 3 Fld.cells (Eb)),(.pred fun v w=>SlS w v [Cz,C8,Ld,Eb]),(.pred fun v w=>SlT 191 w v 3 Fld.cells (List.flatten [Cz,C8,Ld,Eb])),(.pred fun v w=>SlT 191 w v 3 Fld.cells (Cz)),(.pred fun v w=>ShV w v (List.flatten [Cz,C8,Ld,Eb]) (Cz) 1 false),(.eq undef),(.pred fun v w=>SlT 191 w v 3 Fld.cells (Cz)),(.pred fun v w=>SlT 191 w v 3 Fld.cells (Ka)),(.pred fun v w=>SlT 191 w v 3 Fld.cells (Eb)),(.eq (.agg (Fld.cells (Ie)))),(.pred fun v w=>SlT 191 w v 3 Fld.cells ([Ie])),(.pred fun v w=>SlS w v [Cz,Ka,Eb,[Ie]]),(.pred fun v w=>SlT 191 w v 3 Fld.cells (List.flatten [Cz,Ka,Eb,[Ie]])),(.pred fun v w=>SlT 191 w v 3 Fld.cells (Cz)),(.pred fun v w=>ShV w v (List.flatten [Cz,Ka,Eb,[Ie]]) (Cz) 1 false),(.eq undef),(.eq (.agg (Fld.cells (Co 8)))),(.eq (.agg (Fld.cells (Ie)))),(.eq (.agg (Fld.cells (Cp)))),(.pred fun v w=>SlT 191 w v 3 Fld.cells ([Co 8,Ie,Cp])),(.eq (.agg (Fld.cells (Co 8)))),(.eq (.agg (Fld.cells (Ie)))),(.pred fun v w=>SlT 191 w v 3 Fld.cells ([Co 8,Ie])),(.pred fun v w=>ShV w v ([Co 8,Ie,Cp]) ([Co 8,Ie]) 0 false),(.eq undef),(.pred fun v w=>SlT 191 w v 3 Fld.cells (Cz)),(.pred fun v w=>SlT 191 w v 3 Fld.cells (C8)),(.eq (.agg (Fld.cells (Cp)))),(.pred fun v w=>SlT 191 w v 3 Fld.cells ([Cp])),(.pred fun v w=>SlS w v [Cz,C8,[Cp]]),(.pred fun v w=>SlT 191 w v 3 Fld.cells (List.flatten [Cz,C8,[Cp]])),(.pred fun v w=>SlT 191 w v 3 Fld.cells (Cz)),(.pred fun v w=>ShV w v (List.flatten [Cz,C8,[Cp]]) (Cz) 0 false),(.eq undef),(.eq (.agg (Fld.cells (Co 14)))),(.eq (.agg (Fld.cells (Cp)))),(.eq (.agg (Fld.cells (Lo)))),(.pred fun v w=>SlT 191 w v 3 Fld.cells ([Co 14,Cp,Lo])),(.eq (.agg (Fld.cells (Co 14)))),(.eq (.agg (Fld.cells (Cp)))),(.pred fun v w=>SlT 191 w v 3 Fld.cells ([Co 14,Cp])),(.pred fun v w=>ShV w v ([Co 14,Cp,Lo]) ([Co 14,Cp]) 0 false),(.eq undef),(.pred fun v w=>SlT 191 w v 3 Fld.cells (Cz)),(.pred fun v w=>SlT 191 w v 3 Fld.cells (C8)),(.pred fun v w=>SlT 191 w v 3 Fld.cells (Eb)),(.pred fun v w=>SlS w v [Cz,C8,Eb]),(.pred fun v w=>SlT 191 w v 3 Fld.cells (List.flatten [Cz,C8,Eb])),(.pred fun v w=>SlT 191 w v 3 Fld.cells (Cz)),(.pred fun v w=>ShV w v (List.flatten [Cz,C8,Eb]) (Cz) 1 false),(.eq undef)] n6 li kQ rfl kQ kQ kQ kQ kQ kQ kQ rfl cQ ⟨_,_,rfl⟩ ⟨PhC.pred fun _ _ _ h _=>h,Cl _ _ _ _,PhC.eq _,Cl _ _ _ _,Cl _ _ _ _,PhC.eq _,Cl _ _ _ _,Cl _ _ _ _,Cl _ _ _ _,PhC.eq _,Cl _ _ _ _,Le _,Cl _ _ _ _,Cl _ _ _ _,Hk _ _ _ _,PhC.eq _,Cl _ _ _ _,PhC.eq _,PhC.eq _,Cl _ _ _ _,Le _,Cl _ _ _ _,Cl _ _ _ _,Hk _ _ _ _,PhC.eq _,Cl _ _ _ _,PhC.eq _,PhC.eq _,PhC.eq _,Cl _ _ _ _,Le _,Cl _ _ _ _,Cl _ _ _ _,PhC.eq _,Hk _ _ _ _,PhC.eq _,PhC.eq _,PhC.eq _,PhC.eq _,PhC.eq _,Cl _ _ _ _,PhC.eq _,PhC.eq _,Cl _ _ _ _,Hk _ _ _ _,PhC.eq _,PhC.eq _,Cl _ _ _ _,PhC.eq _,Cl _ _ _ _,Hk _ _ _ _,PhC.eq _,Cl _ _ _ _,Cl _ _ _ _,Cl _ _ _ _,Cl _ _ _ _,Le _,Cl _ _ _ _,Cl _ _ _ _,Hk _ _ _ _,PhC.eq _,Cl _ _ _ _,Cl _ _ _ _,Cl _ _ _ _,PhC.eq _,Cl _ _ _ _,Le _,Cl _ _ _ _,Cl _ _ _ _,Hk _ _ _ _,PhC.eq _,PhC.eq _,PhC.eq _,PhC.eq _,Cl _ _ _ _,PhC.eq _,PhC.eq _,Cl _ _ _ _,Hk _ _ _ _,PhC.eq _,Cl _ _ _ _,Cl _ _ _ _,PhC.eq _,Cl _ _ _ _,Le _,Cl _ _ _ _,Cl _ _ _ _,Hk _ _ _ _,PhC.eq _,PhC.eq _,PhC.eq _,PhC.eq _,Cl _ _ _ _,PhC.eq _,PhC.eq _,Cl _ _ _ _,Hk _ _ _ _,PhC.eq _,Cl _ _ _ _,Cl _ _ _ _,Cl _ _ _ _,Le _,Cl _ _ _ _,Cl _ _ _ _,Hk _ _ _ _,PhC.eq _,trivial⟩ (fun b W=>⟨b,rfl⟩) ?_ ?_)
 ·intro W hC0
  have hC:=(Up.drew w10).G7.trans hC0
  refine aC (.inl (.inl rfl)) (aC (.inr ⟨rfl,rfl,TU.p (.mv rfl) (SlT.G7 hT8 hC)⟩) (aC (.inr ⟨rfl,rfl,TU.c (eC (.cons (.func _) .nil) (Ij)) (Dl _ _) sQ⟩) (aC (.inr ⟨rfl,rfl,TU.r (REv.buildSlice (xs:=([Co 7]:List Fld)) (enc:=Fld.cells) (mk:=fun x:Fld=>.agg (Fld.cells x)) lw ly lj rfl cQ (fun _=>rfl) (fun _=>rfl) (.cu rfl) rfl) (by rintro _ W1 ⟨B,c,rfl,N,y,x⟩;exact⟨N.up,SlT.lit ⟨B,c,rfl,N,y,x⟩⟩)⟩) (aC (.inr ⟨rfl,rfl,TU.c (eC .nil (gN)) (Mx _) (fun v W1 h=>⟨h.2,h.1⟩)⟩) (aC (.inr ⟨rfl,rfl,TU.p (.build (cs:=Fld.cells ⟨13,0,39⟩) lz lj Ct (.cons (.func _) (.cons (.const _) (.cons (.const _) .nil))) rfl) rfl⟩) (aC (.inr ⟨rfl,rfl,TU.r (REv.buildSlice (xs:=([⟨13,0,39⟩]:List Fld)) (enc:=Fld.cells) (mk:=fun x:Fld=>.agg (Fld.cells x)) lw ly lj rfl cQ (fun _=>rfl) (fun _=>rfl) (.cu rfl) rfl) (by rintro _ W1 ⟨B,c,rfl,N,y,x⟩;exact⟨N.up,SlT.lit ⟨B,c,rfl,N,y,x⟩⟩)⟩) (aC (.inr ⟨rfl,rfl,TU.p (.mv rfl) (SlT.G7 hT11 hC)⟩) (aC (.inr ⟨rfl,rfl,TU.c (eC .nil (gO)) (O3 _) (fun v W1 h=>⟨h.2,h.1⟩)⟩) (aC (.inr ⟨rfl,rfl,TU.p (.build (cs:=Fld.cells ⟨16,-10000000,10000000⟩) lz lj Ct (.cons (.func _) (.cons (.const _) (.cons (.const _) .nil))) rfl) rfl⟩) (aC (.inr ⟨rfl,rfl,TU.r (REv.buildSlice (xs:=([⟨16,-10000000,10000000⟩]:List Fld)) (enc:=Fld.cells) (mk:=fun x:Fld=>.agg (Fld.cells x)) lw ly lj rfl cQ (fun _=>rfl) (fun _=>rfl) (.cu rfl) rfl) (by rintro _ W1 ⟨B,c,rfl,N,y,x⟩;exact⟨N.up,SlT.lit ⟨B,c,rfl,N,y,x⟩⟩)⟩) (aC (.inr ⟨rfl,rfl,TU.open (d:=23) rfl (by rintro _ ⟨⟨a23,c23,rfl,x23⟩,_⟩;exact TU.open (d:=25) rfl (by rintro _ ⟨⟨a25,c25,rfl,x25⟩,_⟩;exact TU.open (d:=26) rfl (by rintro _ ⟨⟨a26,c26,rfl,x26⟩,_⟩;exact TU.open (d:=28) rfl (by rintro _ ⟨⟨a28,c28,rfl,x28⟩,_⟩;exact TU.open (d:=29) rfl (by rintro _ ⟨⟨a29,c29,rfl,x29⟩,_⟩;exact TU.open (d:=30) rfl (by rintro _ ⟨⟨a30,c30,rfl,x30⟩,_⟩;exact TU.open (d:=32) rfl (by rintro _ ⟨⟨a32,c32,rfl,x32⟩,_⟩;exact TU.r (REv.buildSlice (xs:=[(a23,List.length (Cz),c23),(a25,List.length ([Co 7]),c25),(a26,List.length (C8),c26),(a28,List.length ([⟨13,0,39⟩]),c28),(a29,List.length (Ld),c29),(a30,List.length (Eb),c30),(a32,List.length ([⟨16,-10000000,10000000⟩]),c32)]) (enc:=fun t=>#[U1 t]) (mk:=U1) mz nm ni rfl cQ (fun _=>rfl) (fun _=>rfl) (.ct rfl (.ct rfl (.ct rfl (.ct rfl (.ct rfl (.ct rfl (.cu rfl))))))) rfl) (by rintro _ W1 ⟨B,c,rfl,N,y,x⟩;exact⟨N.up,_,Ay (Els.Ig x),(AllSl.up N.up (vs:=List.map U1 [(a23,List.length (Cz),c23),(a25,List.length ([Co 7]),c25),(a26,List.length (C8),c26),(a28,List.length ([⟨13,0,39⟩]),c28),(a29,List.length (Ld),c29),(a30,List.length (Eb),c30),(a32,List.length ([⟨16,-10000000,10000000⟩]),c32)]) (xss:=[Cz,[Co 7],C8,[⟨13,0,39⟩],Ld,Eb,[⟨16,-10000000,10000000⟩]]) ⟨Ay x23,Ay x25,Ay x26,Ay x28,Ay x29,Ay x30,Ay x32,trivial⟩).at⟩))))))))⟩) (aC (.inr ⟨rfl,rfl,TU.open (d:=33) rfl (by rintro v ⟨vs,⟨ad,cp,rfl,hE⟩,hl,hx⟩;exact TU.c (eC (.o rfl) (Sb)) (Jl ad cp vs _ _ hE hl hx (by rw[←hl];decide) cQ) (fun v W1 h=>⟨h.2,h.1⟩))⟩) (aC (.inr ⟨rfl,rfl,TU.p (.mv rfl) (SlT.G7 hT8 hC)⟩) (aC (.inr ⟨rfl,rfl,TU.open (d:=34) rfl (by rintro _ ⟨⟨a34,c34,rfl,x34⟩,p34⟩;exact TU.open (d:=35) rfl (by rintro _ ⟨⟨b35,d35,rfl,y35⟩,q35⟩;exact TU.p (.build (cs:=#[.slice a34 (List.length (List.flatten [Cz,[Co 7],C8,[⟨13,0,39⟩],Ld,Eb,[⟨16,-10000000,10000000⟩]])) c34,.slice b35 (List.length (Cz)) d35,.func (.func (Fm 1)) #[] #[],.bool false]) mc ma De (.ct rfl (.ct rfl (.cons (.func _) (.cons (.const _) .nil)))) rfl) ⟨_,_,rfl,⟨Ay x34,p34⟩,⟨Ay y35,q35⟩⟩))⟩) (aC (.inl (.inr ⟨rfl,by intro j hj e;simp only[bp,df,d_]at hj;rcases hj with rfl|rfl|rfl|rfl|rfl|rfl|rfl|rfl|rfl|rfl|rfl<;>first|exact absurd e cQ|exact⟨_,_,_,rfl⟩⟩)) (aC (.inr ⟨rfl,rfl,TU.p (.mv rfl) (SlT.G7 hT8 hC)⟩) (aC (.inr ⟨rfl,rfl,TU.c (eC .nil (Oo)) (Hj _) sQ⟩) (aC (.inr ⟨rfl,rfl,TU.p (.lc rfl (AggAt.G7 hB6.agg hC)) rfl⟩) (aC (.inr ⟨rfl,rfl,TU.r (REv.buildSlice (xs:=([Cp,Lo]:List Fld)) (enc:=Fld.cells) (mk:=fun x:Fld=>.agg (Fld.cells x)) lw ly lj rfl cQ (fun _=>rfl) (fun _=>rfl) (.ct rfl (.cu rfl)) rfl) (by rintro _ W1 ⟨B,c,rfl,N,y,x⟩;exact⟨N.up,SlT.lit ⟨B,c,rfl,N,y,x⟩⟩)⟩) (aC (.inr ⟨rfl,rfl,TU.open (d:=37) rfl (by rintro _ ⟨⟨a37,c37,rfl,x37⟩,_⟩;exact TU.open (d:=40) rfl (by rintro _ ⟨⟨a40,c40,rfl,x40⟩,_⟩;exact TU.r (REv.buildSlice (xs:=[(a37,List.length (Cz),c37),(a40,List.length ([Cp,Lo]),c40)]) (enc:=fun t=>#[U1 t]) (mk:=U1) mz nm ni rfl cQ (fun _=>rfl) (fun _=>rfl) (.ct rfl (.cu rfl)) rfl) (by rintro _ W1 ⟨B,c,rfl,N,y,x⟩;exact⟨N.up,_,Ay (Els.Ig x),(AllSl.up N.up (vs:=List.map U1 [(a37,List.length (Cz),c37),(a40,List.length ([Cp,Lo]),c40)]) (xss:=[Cz,[Cp,Lo]]) ⟨Ay x37,Ay x40,trivial⟩).at⟩)))⟩) (aC (.inr ⟨rfl,rfl,TU.open (d:=41) rfl (by rintro v ⟨vs,⟨ad,cp,rfl,hE⟩,hl,hx⟩;exact TU.c (eC (.o rfl) (Sb)) (Jl ad cp vs _ _ hE hl hx (by rw[←hl];decide) cQ) (fun v W1 h=>⟨h.2,h.1⟩))⟩) (aC (.inr ⟨rfl,rfl,TU.p (.mv rfl) (SlT.G7 hT8 hC)⟩) (aC (.inr ⟨rfl,rfl,TU.open (d:=42) rfl (by rintro _ ⟨⟨a42,c42,rfl,x42⟩,p42⟩;exact TU.open (d:=43) rfl (by rintro _ ⟨⟨b43,d43,rfl,y43⟩,q43⟩;exact TU.p (.build (cs:=#[.slice a42 (List.length (List.flatten [Cz,[Cp,Lo]])) c42,.slice b43 (List.length (Cz)) d43,.func (.func (Fm 0)) #[] #[],.bool false]) mc ma De (.ct rfl (.ct rfl (.cons (.func _) (.cons (.const _) .nil)))) rfl) ⟨_,_,rfl,⟨Ay x42,p42⟩,⟨Ay y43,q43⟩⟩))⟩) (aC (.inl (.inr ⟨rfl,by intro j hj e;simp only[bp,df,d_]at hj;rcases hj with rfl|rfl|rfl|rfl|rfl|rfl|rfl|rfl|rfl|rfl|rfl<;>first|exact absurd e cQ|exact⟨_,_,_,rfl⟩⟩)) (aC (.inr ⟨rfl,rfl,TU.p (.mv rfl) (SlT.G7 hT8 hC)⟩) (aC (.inr ⟨rfl,rfl,TU.c (eC (.cons (.func _) .nil) (Ij)) (Dl _ _) sQ⟩) (aC (.inr ⟨rfl,rfl,TU.c (eC (.cons (.func _) .nil) (Ij)) (Dl _ _) sQ⟩) (aC (.inr ⟨rfl,rfl,TU.c (eC .nil (Oo)) (Hj _) sQ⟩) (aC (.inr ⟨rfl,rfl,TU.r (REv.buildSlice (xs:=([Co 7,Co 8,Cp]:List Fld)) (enc:=Fld.cells) (mk:=fun x:Fld=>.agg (Fld.cells x)) lw ly lj rfl cQ (fun _=>rfl) (fun _=>rfl) (.ct rfl (.ct rfl (.cu rfl))) rfl) (by rintro _ W1 ⟨B,c,rfl,N,y,x⟩;exact⟨N.up,SlT.lit ⟨B,c,rfl,N,y,x⟩⟩)⟩) (aC (.inr ⟨rfl,rfl,TU.open (d:=45) rfl (by rintro _ ⟨⟨a45,c45,rfl,x45⟩,_⟩;exact TU.open (d:=49) rfl (by rintro _ ⟨⟨a49,c49,rfl,x49⟩,_⟩;exact TU.r (REv.buildSlice (xs:=[(a45,List.length (Cz),c45),(a49,List.length ([Co 7,Co 8,Cp]),c49)]) (enc:=fun t=>#[U1 t]) (mk:=U1) mz nm ni rfl cQ (fun _=>rfl) (fun _=>rfl) (.ct rfl (.cu rfl)) rfl) (by rintro _ W1 ⟨B,c,rfl,N,y,x⟩;exact⟨N.up,_,Ay (Els.Ig x),(AllSl.up N.up (vs:=List.map U1 [(a45,List.length (Cz),c45),(a49,List.length ([Co 7,Co 8,Cp]),c49)]) (xss:=[Cz,[Co 7,Co 8,Cp]]) ⟨Ay x45,Ay x49,trivial⟩).at⟩)))⟩) (aC (.inr ⟨rfl,rfl,TU.open (d:=50) rfl (by rintro v ⟨vs,⟨ad,cp,rfl,hE⟩,hl,hx⟩;exact TU.c (eC (.o rfl) (Sb)) (Jl ad cp vs _ _ hE hl hx (by rw[←hl];decide) cQ) (fun v W1 h=>⟨h.2,h.1⟩))⟩) (aC (.inr ⟨rfl,rfl,TU.p (.mv rfl) (SlT.G7 hT8 hC)⟩) (aC (.inr ⟨rfl,rfl,TU.p (.mv rfl) rfl⟩) (aC (.inr ⟨rfl,rfl,TU.open (d:=51) rfl (by rintro _ ⟨⟨a51,c51,rfl,x51⟩,p51⟩;exact TU.open (d:=52) rfl (by rintro _ ⟨⟨b52,d52,rfl,y52⟩,q52⟩;exact TU.p (.build (cs:=#[.slice a51 (List.length (List.flatten [Cz,[Co 7,Co 8,Cp]])) c51,.slice b52 (List.length (Cz)) d52,.func (.func (Fm 2)) #[] #[],.bool false]) mc ma De (.ct rfl (.ct rfl (.ct rfl (.cons (.const _) .nil)))) rfl) ⟨_,_,rfl,⟨Ay x51,p51⟩,⟨Ay y52,q52⟩⟩))⟩) (aC (.inl (.inr ⟨rfl,by intro j hj e;simp only[bp,df,d_]at hj;rcases hj with rfl|rfl|rfl|rfl|rfl|rfl|rfl|rfl|rfl|rfl|rfl<;>first|exact absurd e cQ|exact⟨_,_,_,rfl⟩⟩)) (aC (.inr ⟨rfl,rfl,TU.c (eC (.cons (.func _) .nil) (Ij)) (Dl _ _) sQ⟩) (aC (.inr ⟨rfl,rfl,TU.c (eC (.cons (.func _) .nil) (Ij)) (Dl _ _) sQ⟩) (aC (.inr ⟨rfl,rfl,TU.c (eC (.cons (.func _) .nil) (Ij)) (Dl _ _) sQ⟩) (aC (.inr ⟨rfl,rfl,TU.c (eC .nil (Oo)) (Hj _) sQ⟩) (aC (.inr ⟨rfl,rfl,TU.r (REv.buildSlice (xs:=([Co 7,Co 9,Co 10,Cp]:List Fld)) (enc:=Fld.cells) (mk:=fun x:Fld=>.agg (Fld.cells x)) lw ly lj rfl cQ (fun _=>rfl) (fun _=>rfl) (.ct rfl (.ct rfl (.ct rfl (.cu rfl)))) rfl) (by rintro _ W1 ⟨B,c,rfl,N,y,x⟩;exact⟨N.up,SlT.lit ⟨B,c,rfl,N,y,x⟩⟩)⟩) (aC (.inr ⟨rfl,rfl,TU.c (eC (.cons (.func _) .nil) (Ij)) (Dl _ _) sQ⟩) (aC (.inr ⟨rfl,rfl,TU.c (eC .nil (Oo)) (Hj _) sQ⟩) (aC (.inr ⟨rfl,rfl,TU.r (REv.buildSlice (xs:=([Co 7,Cp]:List Fld)) (enc:=Fld.cells) (mk:=fun x:Fld=>.agg (Fld.cells x)) lw ly lj rfl cQ (fun _=>rfl) (fun _=>rfl) (.ct rfl (.cu rfl)) rfl) (by rintro _ W1 ⟨B,c,rfl,N,y,x⟩;exact⟨N.up,SlT.lit ⟨B,c,rfl,N,y,x⟩⟩)⟩) (aC (.inr ⟨rfl,rfl,TU.open (d:=59) rfl (by rintro _ ⟨⟨a59,c59,rfl,x59⟩,p59⟩;exact TU.open (d:=62) rfl (by rintro _ ⟨⟨b62,d62,rfl,y62⟩,q62⟩;exact TU.p (.build (cs:=#[.slice a59 (List.length ([Co 7,Co 9,Co 10,Cp])) c59,.slice b62 (List.length ([Co 7,Cp])) d62,.func (.func (Fm 0)) #[] #[],.bool false]) mc ma De (.ct rfl (.ct rfl (.cons (.func _) (.cons (.const _) .nil)))) rfl) ⟨_,_,rfl,⟨Ay x59,p59⟩,⟨Ay y62,q62⟩⟩))⟩) (aC (.inl (.inr ⟨rfl,by intro j hj e;simp only[bp,df,d_]at hj;rcases hj with rfl|rfl|rfl|rfl|rfl|rfl|rfl|rfl|rfl|rfl|rfl<;>first|exact absurd e cQ|exact⟨_,_,_,rfl⟩⟩)) (aC (.inr ⟨rfl,rfl,TU.c (eC (.cons (.func _) .nil) (Ij)) (Dl _ _) sQ⟩) (aC (.inr ⟨rfl,rfl,TU.r (REv.buildSlice (xs:=([Co 10]:List Fld)) (enc:=Fld.cells) (mk:=fun x:Fld=>.agg (Fld.cells x)) lw ly lj rfl cQ (fun _=>rfl) (fun _=>rfl) (.cu rfl) rfl) (by rintro _ W1 ⟨B,c,rfl,N,y,x⟩;exact⟨N.up,SlT.lit ⟨B,c,rfl,N,y,x⟩⟩)⟩) (aC (.inr ⟨rfl,rfl,TU.c (eC (.cons (.func _) .nil) (Ij)) (Dl _ _) sQ⟩) (aC (.inr ⟨rfl,rfl,TU.r (REv.buildSlice (xs:=([Co 10]:List Fld)) (enc:=Fld.cells) (mk:=fun x:Fld=>.agg (Fld.cells x)) lw ly lj rfl cQ (fun _=>rfl) (fun _=>rfl) (.cu rfl) rfl) (by rintro _ W1 ⟨B,c,rfl,N,y,x⟩;exact⟨N.up,SlT.lit ⟨B,c,rfl,N,y,x⟩⟩)⟩) (aC (.inr ⟨rfl,rfl,TU.open (d:=65) rfl (by rintro _ ⟨⟨a65,c65,rfl,x65⟩,p65⟩;exact TU.open (d:=67) rfl (by rintro _ ⟨⟨b67,d67,rfl,y67⟩,q67⟩;exact TU.p (.build (cs:=#[.slice a65 (List.length ([Co 10])) c65,.slice b67 (List.length ([Co 10])) d67,.func (.func (Fm 0)) #[] #[],.bool true]) mc ma De (.ct rfl (.ct rfl (.cons (.func _) (.cons (.const _) .nil)))) rfl) ⟨_,_,rfl,⟨Ay x65,p65⟩,⟨Ay y67,q67⟩⟩))⟩) (aC (.inl (.inr ⟨rfl,by intro j hj e;simp only[bp,df,d_]at hj;rcases hj with rfl|rfl|rfl|rfl|rfl|rfl|rfl|rfl|rfl|rfl|rfl<;>first|exact absurd e cQ|exact⟨_,_,_,rfl⟩⟩)) (aC (.inr ⟨rfl,rfl,TU.p (.mv rfl) (SlT.G7 hT8 hC)⟩) (aC (.inr ⟨rfl,rfl,TU.c (eC .nil (gN)) (Mx _) (fun v W1 h=>⟨h.2,h.1⟩)⟩) (aC (.inr ⟨rfl,rfl,TU.p (.mv rfl) (SlT.G7 hT11 hC)⟩) (aC (.inr ⟨rfl,rfl,TU.c (eC .nil (gO)) (O3 _) (fun v W1 h=>⟨h.2,h.1⟩)⟩) (aC (.inr ⟨rfl,rfl,TU.open (d:=69) rfl (by rintro _ ⟨⟨a69,c69,rfl,x69⟩,_⟩;exact TU.open (d:=70) rfl (by rintro _ ⟨⟨a70,c70,rfl,x70⟩,_⟩;exact TU.open (d:=71) rfl (by rintro _ ⟨⟨a71,c71,rfl,x71⟩,_⟩;exact TU.open (d:=72) rfl (by rintro _ ⟨⟨a72,c72,rfl,x72⟩,_⟩;exact TU.r (REv.buildSlice (xs:=[(a69,List.length (Cz),c69),(a70,List.length (C8),c70),(a71,List.length (Ld),c71),(a72,List.length (Eb),c72)]) (enc:=fun t=>#[U1 t]) (mk:=U1) mz nm ni rfl cQ (fun _=>rfl) (fun _=>rfl) (.ct rfl (.ct rfl (.ct rfl (.cu rfl)))) rfl) (by rintro _ W1 ⟨B,c,rfl,N,y,x⟩;exact⟨N.up,_,Ay (Els.Ig x),(AllSl.up N.up (vs:=List.map U1 [(a69,List.length (Cz),c69),(a70,List.length (C8),c70),(a71,List.length (Ld),c71),(a72,List.length (Eb),c72)]) (xss:=[Cz,C8,Ld,Eb]) ⟨Ay x69,Ay x70,Ay x71,Ay x72,trivial⟩).at⟩)))))⟩) (aC (.inr ⟨rfl,rfl,TU.open (d:=73) rfl (by rintro v ⟨vs,⟨ad,cp,rfl,hE⟩,hl,hx⟩;exact TU.c (eC (.o rfl) (Sb)) (Jl ad cp vs _ _ hE hl hx (by rw[←hl];decide) cQ) (fun v W1 h=>⟨h.2,h.1⟩))⟩) (aC (.inr ⟨rfl,rfl,TU.p (.mv rfl) (SlT.G7 hT8 hC)⟩) (aC (.inr ⟨rfl,rfl,TU.open (d:=74) rfl (by rintro _ ⟨⟨a74,c74,rfl,x74⟩,p74⟩;exact TU.open (d:=75) rfl (by rintro _ ⟨⟨b75,d75,rfl,y75⟩,q75⟩;exact TU.p (.build (cs:=#[.slice a74 (List.length (List.flatten [Cz,C8,Ld,Eb])) c74,.slice b75 (List.length (Cz)) d75,.func (.func (Fm 1)) #[] #[],.bool false]) mc ma De (.ct rfl (.ct rfl (.cons (.func _) (.cons (.const _) .nil)))) rfl) ⟨_,_,rfl,⟨Ay x74,p74⟩,⟨Ay y75,q75⟩⟩))⟩) (aC (.inl (.inr ⟨rfl,by intro j hj e;simp only[bp,df,d_]at hj;rcases hj with rfl|rfl|rfl|rfl|rfl|rfl|rfl|rfl|rfl|rfl|rfl<;>first|exact absurd e cQ|exact⟨_,_,_,rfl⟩⟩)) (aC (.inr ⟨rfl,rfl,TU.p (.mv rfl) (SlT.G7 hT8 hC)⟩) (aC (.inr ⟨rfl,rfl,TU.p (.mv rfl) (SlT.G7 hT19 hC)⟩) (aC (.inr ⟨rfl,rfl,TU.c (eC .nil (gO)) (O3 _) (fun v W1 h=>⟨h.2,h.1⟩)⟩) (aC (.inr ⟨rfl,rfl,TU.p (.lc rfl (AggAt.G7 hB5.agg hC)) rfl⟩) (aC (.inr ⟨rfl,rfl,TU.r (REv.buildSlice (xs:=([Ie]:List Fld)) (enc:=Fld.cells) (mk:=fun x:Fld=>.agg (Fld.cells x)) lw ly lj rfl cQ (fun _=>rfl) (fun _=>rfl) (.cu rfl) rfl) (by rintro _ W1 ⟨B,c,rfl,N,y,x⟩;exact⟨N.up,SlT.lit ⟨B,c,rfl,N,y,x⟩⟩)⟩) (aC (.inr ⟨rfl,rfl,TU.open (d:=77) rfl (by rintro _ ⟨⟨a77,c77,rfl,x77⟩,_⟩;exact TU.open (d:=78) rfl (by rintro _ ⟨⟨a78,c78,rfl,x78⟩,_⟩;exact TU.open (d:=79) rfl (by rintro _ ⟨⟨a79,c79,rfl,x79⟩,_⟩;exact TU.open (d:=81) rfl (by rintro _ ⟨⟨a81,c81,rfl,x81⟩,_⟩;exact TU.r (REv.buildSlice (xs:=[(a77,List.length (Cz),c77),(a78,List.length (Ka),c78),(a79,List.length (Eb),c79),(a81,List.length ([Ie]),c81)]) (enc:=fun t=>#[U1 t]) (mk:=U1) mz nm ni rfl cQ (fun _=>rfl) (fun _=>rfl) (.ct rfl (.ct rfl (.ct rfl (.cu rfl)))) rfl) (by rintro _ W1 ⟨B,c,rfl,N,y,x⟩;exact⟨N.up,_,Ay (Els.Ig x),(AllSl.up N.up (vs:=List.map U1 [(a77,List.length (Cz),c77),(a78,List.length (Ka),c78),(a79,List.length (Eb),c79),(a81,List.length ([Ie]),c81)]) (xss:=[Cz,Ka,Eb,[Ie]]) ⟨Ay x77,Ay x78,Ay x79,Ay x81,trivial⟩).at⟩)))))⟩) (aC (.inr ⟨rfl,rfl,TU.open (d:=82) rfl (by rintro v ⟨vs,⟨ad,cp,rfl,hE⟩,hl,hx⟩;exact TU.c (eC (.o rfl) (Sb)) (Jl ad cp vs _ _ hE hl hx (by rw[←hl];decide) cQ) (fun v W1 h=>⟨h.2,h.1⟩))⟩) (aC (.inr ⟨rfl,rfl,TU.p (.mv rfl) (SlT.G7 hT8 hC)⟩) (aC (.inr ⟨rfl,rfl,TU.open (d:=83) rfl (by rintro _ ⟨⟨a83,c83,rfl,x83⟩,p83⟩;exact TU.open (d:=84) rfl (by rintro _ ⟨⟨b84,d84,rfl,y84⟩,q84⟩;exact TU.p (.build (cs:=#[.slice a83 (List.length (List.flatten [Cz,Ka,Eb,[Ie]])) c83,.slice b84 (List.length (Cz)) d84,.func (.func (Fm 1)) #[] #[],.bool false]) mc ma De (.ct rfl (.ct rfl (.cons (.func _) (.cons (.const _) .nil)))) rfl) ⟨_,_,rfl,⟨Ay x83,p83⟩,⟨Ay y84,q84⟩⟩))⟩) (aC (.inl (.inr ⟨rfl,by intro j hj e;simp only[bp,df,d_]at hj;rcases hj with rfl|rfl|rfl|rfl|rfl|rfl|rfl|rfl|rfl|rfl|rfl<;>first|exact absurd e cQ|exact⟨_,_,_,rfl⟩⟩)) (aC (.inr ⟨rfl,rfl,TU.c (eC (.cons (.func _) .nil) (Ij)) (Dl _ _) sQ⟩) (aC (.inr ⟨rfl,rfl,TU.p (.lc rfl (AggAt.G7 hB5.agg hC)) rfl⟩) (aC (.inr ⟨rfl,rfl,TU.c (eC .nil (Oo)) (Hj _) sQ⟩) (aC (.inr ⟨rfl,rfl,TU.r (REv.buildSlice (xs:=([Co 8,Ie,Cp]:List Fld)) (enc:=Fld.cells) (mk:=fun x:Fld=>.agg (Fld.cells x)) lw ly lj rfl cQ (fun _=>rfl) (fun _=>rfl) (.ct rfl (.ct rfl (.cu rfl))) rfl) (by rintro _ W1 ⟨B,c,rfl,N,y,x⟩;exact⟨N.up,SlT.lit ⟨B,c,rfl,N,y,x⟩⟩)⟩) (aC (.inr ⟨rfl,rfl,TU.c (eC (.cons (.func _) .nil) (Ij)) (Dl _ _) sQ⟩) (aC (.inr ⟨rfl,rfl,TU.p (.lc rfl (AggAt.G7 hB5.agg hC)) rfl⟩) (aC (.inr ⟨rfl,rfl,TU.r (REv.buildSlice (xs:=([Co 8,Ie]:List Fld)) (enc:=Fld.cells) (mk:=fun x:Fld=>.agg (Fld.cells x)) lw ly lj rfl cQ (fun _=>rfl) (fun _=>rfl) (.ct rfl (.cu rfl)) rfl) (by rintro _ W1 ⟨B,c,rfl,N,y,x⟩;exact⟨N.up,SlT.lit ⟨B,c,rfl,N,y,x⟩⟩)⟩) (aC (.inr ⟨rfl,rfl,TU.open (d:=89) rfl (by rintro _ ⟨⟨a89,c89,rfl,x89⟩,p89⟩;exact TU.open (d:=92) rfl (by rintro _ ⟨⟨b92,d92,rfl,y92⟩,q92⟩;exact TU.p (.build (cs:=#[.slice a89 (List.length ([Co 8,Ie,Cp])) c89,.slice b92 (List.length ([Co 8,Ie])) d92,.func (.func (Fm 0)) #[] #[],.bool false]) mc ma De (.ct rfl (.ct rfl (.cons (.func _) (.cons (.const _) .nil)))) rfl) ⟨_,_,rfl,⟨Ay x89,p89⟩,⟨Ay y92,q92⟩⟩))⟩) (aC (.inl (.inr ⟨rfl,by intro j hj e;simp only[bp,df,d_]at hj;rcases hj with rfl|rfl|rfl|rfl|rfl|rfl|rfl|rfl|rfl|rfl|rfl<;>first|exact absurd e cQ|exact⟨_,_,_,rfl⟩⟩)) (aC (.inr ⟨rfl,rfl,TU.p (.mv rfl) (SlT.G7 hT8 hC)⟩) (aC (.inr ⟨rfl,rfl,TU.c (eC .nil (gN)) (Mx _) (fun v W1 h=>⟨h.2,h.1⟩)⟩) (aC (.inr ⟨rfl,rfl,TU.c (eC .nil (Oo)) (Hj _) sQ⟩) (aC (.inr ⟨rfl,rfl,TU.r (REv.buildSlice (xs:=([Cp]:List Fld)) (enc:=Fld.cells) (mk:=fun x:Fld=>.agg (Fld.cells x)) lw ly lj rfl cQ (fun _=>rfl) (fun _=>rfl) (.cu rfl) rfl) (by rintro _ W1 ⟨B,c,rfl,N,y,x⟩;exact⟨N.up,SlT.lit ⟨B,c,rfl,N,y,x⟩⟩)⟩) (aC (.inr ⟨rfl,rfl,TU.open (d:=94) rfl (by rintro _ ⟨⟨a94,c94,rfl,x94⟩,_⟩;exact TU.open (d:=95) rfl (by rintro _ ⟨⟨a95,c95,rfl,x95⟩,_⟩;exact TU.open (d:=97) rfl (by rintro _ ⟨⟨a97,c97,rfl,x97⟩,_⟩;exact TU.r (REv.buildSlice (xs:=[(a94,List.length (Cz),c94),(a95,List.length (C8),c95),(a97,List.length ([Cp]),c97)]) (enc:=fun t=>#[U1 t]) (mk:=U1) mz nm ni rfl cQ (fun _=>rfl) (fun _=>rfl) (.ct rfl (.ct rfl (.cu rfl))) rfl) (by rintro _ W1 ⟨B,c,rfl,N,y,x⟩;exact⟨N.up,_,Ay (Els.Ig x),(AllSl.up N.up (vs:=List.map U1 [(a94,List.length (Cz),c94),(a95,List.length (C8),c95),(a97,List.length ([Cp]),c97)]) (xss:=[Cz,C8,[Cp]]) ⟨Ay x94,Ay x95,Ay x97,trivial⟩).at⟩))))⟩) (aC (.inr ⟨rfl,rfl,TU.open (d:=98) rfl (by rintro v ⟨vs,⟨ad,cp,rfl,hE⟩,hl,hx⟩;exact TU.c (eC (.o rfl) (Sb)) (Jl ad cp vs _ _ hE hl hx (by rw[←hl];decide) cQ) (fun v W1 h=>⟨h.2,h.1⟩))⟩) (aC (.inr ⟨rfl,rfl,TU.p (.mv rfl) (SlT.G7 hT8 hC)⟩) (aC (.inr ⟨rfl,rfl,TU.open (d:=99) rfl (by rintro _ ⟨⟨a99,c99,rfl,x99⟩,p99⟩;exact TU.open (d:=100) rfl (by rintro _ ⟨⟨b100,d100,rfl,y100⟩,q100⟩;exact TU.p (.build (cs:=#[.slice a99 (List.length (List.flatten [Cz,C8,[Cp]])) c99,.slice b100 (List.length (Cz)) d100,.func (.func (Fm 0)) #[] #[],.bool false]) mc ma De (.ct rfl (.ct rfl (.cons (.func _) (.cons (.const _) .nil)))) rfl) ⟨_,_,rfl,⟨Ay x99,p99⟩,⟨Ay y100,q100⟩⟩))⟩) (aC (.inl (.inr ⟨rfl,by intro j hj e;simp only[bp,df,d_]at hj;rcases hj with rfl|rfl|rfl|rfl|rfl|rfl|rfl|rfl|rfl|rfl|rfl<;>first|exact absurd e cQ|exact⟨_,_,_,rfl⟩⟩)) (aC (.inr ⟨rfl,rfl,TU.c (eC (.cons (.func _) .nil) (Ij)) (Dl _ _) sQ⟩) (aC (.inr ⟨rfl,rfl,TU.c (eC .nil (Oo)) (Hj _) sQ⟩) (aC (.inr ⟨rfl,rfl,TU.p (.lc rfl (AggAt.G7 hB6.agg hC)) rfl⟩) (aC (.inr ⟨rfl,rfl,TU.r (REv.buildSlice (xs:=([Co 14,Cp,Lo]:List Fld)) (enc:=Fld.cells) (mk:=fun x:Fld=>.agg (Fld.cells x)) lw ly lj rfl cQ (fun _=>rfl) (fun _=>rfl) (.ct rfl (.ct rfl (.cu rfl))) rfl) (by rintro _ W1 ⟨B,c,rfl,N,y,x⟩;exact⟨N.up,SlT.lit ⟨B,c,rfl,N,y,x⟩⟩)⟩) (aC (.inr ⟨rfl,rfl,TU.c (eC (.cons (.func _) .nil) (Ij)) (Dl _ _) sQ⟩) (aC (.inr ⟨rfl,rfl,TU.c (eC .nil (Oo)) (Hj _) sQ⟩) (aC (.inr ⟨rfl,rfl,TU.r (REv.buildSlice (xs:=([Co 14,Cp]:List Fld)) (enc:=Fld.cells) (mk:=fun x:Fld=>.agg (Fld.cells x)) lw ly lj rfl cQ (fun _=>rfl) (fun _=>rfl) (.ct rfl (.cu rfl)) rfl) (by rintro _ W1 ⟨B,c,rfl,N,y,x⟩;exact⟨N.up,SlT.lit ⟨B,c,rfl,N,y,x⟩⟩)⟩) (aC (.inr ⟨rfl,rfl,TU.open (d:=105) rfl (by rintro _ ⟨⟨a105,c105,rfl,x105⟩,p105⟩;exact TU.open (d:=108) rfl (by rintro _ ⟨⟨b108,d108,rfl,y108⟩,q108⟩;exact TU.p (.build (cs:=#[.slice a105 (List.length ([Co 14,Cp,Lo])) c105,.slice b108 (List.length ([Co 14,Cp])) d108,.func (.func (Fm 0)) #[] #[],.bool false]) mc ma De (.ct rfl (.ct rfl (.cons (.func _) (.cons (.const _) .nil)))) rfl) ⟨_,_,rfl,⟨Ay x105,p105⟩,⟨Ay y108,q108⟩⟩))⟩) (aC (.inl (.inr ⟨rfl,by intro j hj e;simp only[bp,df,d_]at hj;rcases hj with rfl|rfl|rfl|rfl|rfl|rfl|rfl|rfl|rfl|rfl|rfl<;>first|exact absurd e cQ|exact⟨_,_,_,rfl⟩⟩)) (aC (.inr ⟨rfl,rfl,TU.p (.mv rfl) (SlT.G7 hT8 hC)⟩) (aC (.inr ⟨rfl,rfl,TU.c (eC .nil (gN)) (Mx _) (fun v W1 h=>⟨h.2,h.1⟩)⟩) (aC (.inr ⟨rfl,rfl,TU.c (eC .nil (gO)) (O3 _) (fun v W1 h=>⟨h.2,h.1⟩)⟩) (aC (.inr ⟨rfl,rfl,TU.open (d:=110) rfl (by rintro _ ⟨⟨a110,c110,rfl,x110⟩,_⟩;exact TU.open (d:=111) rfl (by rintro _ ⟨⟨a111,c111,rfl,x111⟩,_⟩;exact TU.open (d:=112) rfl (by rintro _ ⟨⟨a112,c112,rfl,x112⟩,_⟩;exact TU.r (REv.buildSlice (xs:=[(a110,List.length (Cz),c110),(a111,List.length (C8),c111),(a112,List.length (Eb),c112)]) (enc:=fun t=>#[U1 t]) (mk:=U1) mz nm ni rfl cQ (fun _=>rfl) (fun _=>rfl) (.ct rfl (.ct rfl (.cu rfl))) rfl) (by rintro _ W1 ⟨B,c,rfl,N,y,x⟩;exact⟨N.up,_,Ay (Els.Ig x),(AllSl.up N.up (vs:=List.map U1 [(a110,List.length (Cz),c110),(a111,List.length (C8),c111),(a112,List.length (Eb),c112)]) (xss:=[Cz,C8,Eb]) ⟨Ay x110,Ay x111,Ay x112,trivial⟩).at⟩))))⟩) (aC (.inr ⟨rfl,rfl,TU.open (d:=113) rfl (by rintro v ⟨vs,⟨ad,cp,rfl,hE⟩,hl,hx⟩;exact TU.c (eC (.o rfl) (Sb)) (Jl ad cp vs _ _ hE hl hx (by rw[←hl];decide) cQ) (fun v W1 h=>⟨h.2,h.1⟩))⟩) (aC (.inr ⟨rfl,rfl,TU.p (.mv rfl) (SlT.G7 hT8 hC)⟩) (aC (.inr ⟨rfl,rfl,TU.open (d:=114) rfl (by rintro _ ⟨⟨a114,c114,rfl,x114⟩,p114⟩;exact TU.open (d:=115) rfl (by rintro _ ⟨⟨b115,d115,rfl,y115⟩,q115⟩;exact TU.p (.build (cs:=#[.slice a114 (List.length (List.flatten [Cz,C8,Eb])) c114,.slice b115 (List.length (Cz)) d115,.func (.func (Fm 1)) #[] #[],.bool false]) mc ma De (.ct rfl (.ct rfl (.cons (.func _) (.cons (.const _) .nil)))) rfl) ⟨_,_,rfl,⟨Ay x114,p114⟩,⟨Ay y115,q115⟩⟩))⟩) (aC (.inl (.inr ⟨rfl,by intro j hj e;simp only[bp,df,d_]at hj;rcases hj with rfl|rfl|rfl|rfl|rfl|rfl|rfl|rfl|rfl|rfl|rfl<;>first|exact absurd e cQ|exact⟨_,_,_,rfl⟩⟩)) ?_)))))))))))))))))))))))))))))))))))))))))))))))))))))))))))))))))))))))))))))))))))))))))))))))))))))))))
  exact allL.nil
 intro W b kv g hU hM hP hg
 have hW:=hW.trans ((Up.drew _).trans hU)
 refine I rfl (LW.A rfl (Ah (Am (KW.q ?_))))
 refine⟨_,rfl,⟨kv,hM,?_,?_⟩,hW⟩
 ·intro k v hm
  have:=hP.mem_iff.1 hm
  simp only[c8,fq,bp,df,d_,Prod.mk.injEq]at this
  rcases this with⟨rfl,rfl⟩|⟨rfl,rfl⟩|⟨rfl,rfl⟩|⟨rfl,rfl⟩|⟨rfl,rfl⟩|⟨rfl,rfl⟩|⟨rfl,rfl⟩|⟨rfl,rfl⟩|⟨rfl,rfl⟩|⟨rfl,rfl⟩|⟨rfl,rfl⟩
  · exact hg 14 _ 36 cQ rfl rfl
  · exact hg 23 _ 44 cQ rfl rfl
  · exact hg 34 _ 54 cQ rfl rfl
  · exact hg 44 _ 63 cQ rfl rfl
  · exact hg 50 _ 68 cQ rfl rfl
  · exact hg 59 _ 76 cQ rfl rfl
  · exact hg 69 _ 85 cQ rfl rfl
  · exact hg 78 _ 93 cQ rfl rfl
  · exact hg 87 _ 101 cQ rfl rfl
  · exact hg 96 _ 109 cQ rfl rfl
  exact hg 104 _ 116 cQ rfl rfl
 intro k
 rw[(hP.map (·.1)).mem_iff]
 simp
 omega
end Go.Proofs.YtnpgbbaniknpkaaGreatDoor
namespace Go.Proofs
open Go.Proofs.Tryz
open Go.Wx Go.RowKit
set_option maxRecDepth 4000 in
theorem Qz(f g:Fact)(w:World):(Op.equalIn 10000 35 (.agg f.cells) (.agg g.cells)).run prog w=.ok (Ft f g) w:=by
 have hf:Tryz.prog.underlying 35=some (.struct (Tryz.prog.fieldsOf 35)):=by rw[Program.fieldsOf,me]
 rw[run_equalIn_agg w 9999 35 _ _ hf stoodInHeld35]
 have h:(Op.eqFields 9999 f.cells g.cells (Tryz.prog.fieldsOf 35).toList).run prog w=.ok (Ft f g) w:=by
   rw[Program.fieldsOf,me]
   dsimp only
   iterate 4 (refine Ww cQ l7 rfl rfl (run_equalIn_int w 9998 _ _ _ _ _ li) ?_)
   refine Ww cQ isAgg4 rfl rfl (run_equalIn_bool' w 9998 _ _ _ nq) ?_
   iterate 13 (refine Ww cQ l7 rfl rfl (run_equalIn_int w 9998 _ _ _ _ _ li) ?_)
   rw[show(f.Text.toList==g.Text.toList)=((f.Text.toList==g.Text.toList)&&true)by simp]
   exact Ww cQ isAgg9 rfl rfl (run_equalIn_string w 9998 _ _ _ l5) rfl
 exact h
end Go.Proofs
namespace Go.Wx
def Hd(f:Fact)(o:Nat):Int:=match o with
 |1=>f.ID
 |5=>f.Time
 |6=>f.Until
 |7=>f.Wafer
 |8=>f.Other
 |9=>f.Lot
 |10=>f.Product
 |11=>f.Tool
 |12=>f.Chamber
 |13=>f.Step
 |14=>f.Recipe
 |15=>f.Revision
 |16=>f.Value
 |17=>f.Parties
 |_=>0
def lC(f:Fact)(o:Nat)(n:Int):Fact:=match o with
 |1=>{ f with ID:=n }
 |5=>{ f with Time:=n }
 |6=>{ f with Until:=n }
 |7=>{ f with Wafer:=n }
 |8=>{ f with Other:=n }
 |9=>{ f with Lot:=n }
 |10=>{ f with Product:=n }
 |11=>{ f with Tool:=n }
 |12=>{ f with Chamber:=n }
 |13=>{ f with Step:=n }
 |14=>{ f with Recipe:=n }
 |15=>{ f with Revision:=n }
 |16=>{ f with Value:=n }
 |17=>{ f with Parties:=n }
 |_=>f
def Fx(o:Nat):Bool:=Nat.beq o 1||(Nat.ble 5 o&&Nat.ble o 17)
theorem El{o:Nat}(h:Fx o=true):o=1∨o=5∨o=6∨o=7∨o=8∨o=9∨o=10∨o=11∨o=12∨o=13∨o=14∨o=15∨o=16∨o=17:=by
 simp[Fx]at h;omega
theorem Vz(k:Int):∀x∈fieldsOf k,Fx x.off=true:=by
 intro x hx
 have h:∀l∈L9,∀y∈l,Fx y.off=true:=by decide
 unfold fieldsOf at hx
 rw[cg]at hx
 cases hl:L9[k.toNat]? with
 |none=>rw[hl]at hx;simp at hx
 |some l=>rw[hl]at hx;exact h l (ai hl) x (by simpa using hx)
theorem P4{f:Fact}{o:Nat}(h:Fx o=true):nth f.cells.toList o=some (vi (Hd f o)):=by
 rcases El h with rfl|rfl|rfl|rfl|rfl|rfl|rfl|rfl|rfl|rfl|rfl|rfl|rfl|rfl<;>rfl
theorem eI{f:Fact}{o:Nat}{n:Int}(h:Fx o=true):f.cells.setIfInBounds o (vi n)=(lC f o n).cells:=by
 rcases El h with rfl|rfl|rfl|rfl|rfl|rfl|rfl|rfl|rfl|rfl|rfl|rfl|rfl|rfl<;>rfl
def Nk(r:Nat)(f:Fact):Bool:=match r with
 |1=>decide (f.Time≤f.Until)
 |2=> !decide (f.Wafer=f.Other)
 |_=>true
def Ih:List Fld→Fact→Option Fact
 |[],g=>some g
 |x::r,g=>if Hd g x.off<x.lo∨x.hi<Hd g x.off then none else Ih r (lC g x.off 0)
def Jm(k v d:Int)(g:Bool):Fact:=⟨k,0,v,d,g,0,0,0,0,0,0,0,0,0,0,0,0,0,ByteArray.empty⟩
def preB(f:Fact):Bool:=decide (f.Version<1)||decide (1000000<f.Version)||decide (f.Day<0)||decide (100000<f.Day)||decide (8192<(f.Text.size:Int))
def Ca(f:Fact):Bool:=decide (1≤f.Kind∧f.Kind≤11)&&(!(preB f|| !Nk (G8 f.Kind) f)&&
 match Ih (fieldsOf f.Kind) f with
 |none=>false
 |some g=>Ft (if G9 f.Kind then{ g with Text:=ByteArray.empty }else g) (Jm f.Kind f.Version f.Day f.Gone))
def iJ(f:Fact):Fact:=Jm f.Kind f.Version f.Day f.Gone
theorem lD{fs:List Fld}{f g:Fact}{k:Nat}{x:Fld}(hg:Ih fs f=Ih (fs.drop k) g)(hx:fs[k]?=some x)(h:¬(Hd g x.off<x.lo∨x.hi<Hd g x.off)):Ih fs f=Ih (fs.drop (k+1)) (lC g x.off 0):=by
 obtain⟨hk,e⟩:=am.1 hx
 rw[hg,fj hk,e]
 simp only[Ih,aq h]
theorem lE{fs:List Fld}{f g:Fact}{k:Nat}{x:Fld}(hg:Ih fs f=Ih (fs.drop k) g)(hx:fs[k]?=some x)(h:Hd g x.off<x.lo∨x.hi<Hd g x.off):Ih fs f=none:=by
 obtain⟨hk,e⟩:=am.1 hx
 rw[hg,fj hk,e]
 simp only[Ih,bh h]
theorem Ny(k:Int):(fieldsOf k).length≤16:=by
 have h:∀l∈L9,l.length≤16:=by decide
 unfold fieldsOf
 rw[cg]
 cases hl:L9[k.toNat]? with
 |none=>simp
 |some l=>exact h l (ai hl)
theorem GZ{f:Fact}(h:¬(1≤f.Kind∧f.Kind≤11)):false=Ca f:=by simp[Ca,br h]
theorem HA{f:Fact}(h:preB f=true):false=Ca f:=by simp[Ca,h]
theorem AB{f:Fact}{r:Nat}(hr:r=G8 f.Kind)(h:Nk r f=false):false=Ca f:=by subst hr;simp[Ca,h]
theorem AD{f:Fact}(h:Ih (fieldsOf f.Kind) f=none):false=Ca f:=by simp[Ca,h]
theorem eJ{f:Fact}{o:Nat}(h:Fx o=true):o+1≤f.cells.size:=by
 rcases El h with rfl|rfl|rfl|rfl|rfl|rfl|rfl|rfl|rfl|rfl|rfl|rfl|rfl|rfl<;>exact a_ rfl
theorem AE{f g:Fact}{r:Nat}{t:Bool}(hk:1≤f.Kind∧f.Kind≤11)(hp:preB f=false)(hr:r=G8 f.Kind)(h:Nk r f=true)(hg:Ih (fieldsOf f.Kind) f=some g)(ht0:t=G9 f.Kind)(ht:t=true):Ft ({ g with Text:=ByteArray.empty }:Fact) (iJ f)=Ca f:=by
 subst hr ht0;simp only[Ca,bj hk,hp,h,hg,ht];rfl
theorem AF{f g:Fact}{r:Nat}{t:Bool}(hk:1≤f.Kind∧f.Kind≤11)(hp:preB f=false)(hr:r=G8 f.Kind)(h:Nk r f=true)(hg:Ih (fieldsOf f.Kind) f=some g)(ht0:t=G9 f.Kind)(ht:t=false):Ft g (iJ f)=Ca f:=by
 subst hr ht0;simp only[Ca,bj hk,hp,h,hg,ht];rfl
theorem Zn{fs:List Fld}{f g:Fact}{k:Nat}(hg:Ih fs f=Ih (fs.drop k) g)(hk:fs.length≤k):Ih fs f=some g:=by
 rw[hg,i7 hk]
 rfl
end Go.Wx
namespace Go.Proofs.YtnpgbbaniknpkaaGreatDoor
open Go.Proofs.Tryz
open Go.Wx Go.RowKit
theorem lF(f:Fact)(w:World):Ret prog 147 #[.agg f.cells] w fun r w'=>r=.bool (Nk 0 f)∧Up w w':=by
 have hW:=Up.refl w
 refine cT 3 func147 rfl (Af (Ap (.bA rfl) rfl ?_))
 rintro _ w1 ⟨B1,rfl,NB1⟩
 replace hW:=hW.up NB1.up
 have hB1:=NB1.blk
 refine Az (An (Aa (Az (Ah (Am (KW.q ?_))))))
 exact⟨rfl,hW⟩
theorem eK(f:Fact)(w:World):Ret prog 145 #[.agg f.cells] w fun r w'=>r=.bool (Nk 1 f)∧Up w w':=by
 have hW:=Up.refl w
 refine cT 8 func145 rfl (Af (Ap (.bA rfl) rfl ?_))
 rintro _ w1 ⟨B1,rfl,NB1⟩
 replace hW:=hW.up NB1.up
 have hB1:=NB1.blk
 refine Az (An (Aa (U (.fB 5 rfl) (U (.lb rfl (hB1.Ad rfl)) (U (.fB 6 rfl) (U (.lb rfl (hB1.Ad rfl)) (U (.leq (.t rfl) (.t rfl)) (LW.A rfl (Ah (Am (KW.q ?_)))))))))))
 exact⟨rfl,hW⟩
theorem lG(f:Fact)(w:World):Ret prog 134 #[.agg f.cells] w fun r w'=>r=.bool (Nk 2 f)∧Up w w':=by
 have hW:=Up.refl w
 refine cT 8 func134 rfl (Af (Ap (.bA rfl) rfl ?_))
 rintro _ w1 ⟨B1,rfl,NB1⟩
 replace hW:=hW.up NB1.up
 have hB1:=NB1.blk
 refine Az (An (Aa (U (.fB 7 rfl) (U (.lb rfl (hB1.Ad rfl)) (U (.fB 8 rfl) (U (.lb rfl (hB1.Ad rfl)) (U (.neq (.t rfl) (.t rfl)) (LW.A rfl (Ah (Am (KW.q ?_)))))))))))
 exact⟨rfl,hW⟩
theorem iK(o b:Nat)(w:World)(ho:Fx o=true):Ret prog (uJ o) #[.pointer (some ⟨b,0,none⟩)] w fun r w'=>r=.pointer (some ⟨b,o,none⟩)∧Up w w':=by
 rcases El ho with rfl|rfl|rfl|rfl|rfl|rfl|rfl|rfl|rfl|rfl|rfl|rfl|rfl|rfl
 · exact AA b w
 · exact pP b w
 · exact kY b w
 · exact kZ b w
 · exact lA b w
 · exact uK b w
 · exact Zj b w
 · exact pQ b w
 · exact Zl b w
 · exact pR b w
 · exact eH b w
 · exact Xh b w
 · exact lB b w
 exact Zm b w
theorem pS(o:Nat)(ho:Fx o=true):∀(args:Array Go.Value)(w:World),(callFunc (uJ o) args).run prog w=.ok (.enter (uJ o) args) w:=by
 rcases El ho with rfl|rfl|rfl|rfl|rfl|rfl|rfl|rfl|rfl|rfl|rfl|rfl|rfl|rfl
 · exact DH
 · exact FG
 · exact FF
 · exact DM
 · exact DV
 · exact DN
 · exact DX
 · exact DO
 · exact DP
 · exact DQ
 · exact DI
 · exact DJ
 · exact DS
 exact DR
theorem pT(r:Nat)(f:Fact)(w:World)(hr:r<3):Ret prog (Fm r) #[.agg f.cells] w fun v w'=>v=.bool (Nk r f)∧Up w w':=by
 match r,hr with
 |0,_=>exact lF f w
 |1,_=>exact eK f w
 |2,_=>exact lG f w
theorem uL(r:Nat)(hr:r<3):∀(args:Array Go.Value)(w:World),(callFunc (Fm r) args).run prog w=.ok (.enter (Fm r) args) w:=by
 match r,hr with
 |0,_=>exact DU
 |1,_=>exact DT
 |2,_=>exact DK
theorem uN(k:Int):G8 k<3:=by
 unfold G8
 rw[cg]
 have h:∀x∈[0,1,0,2,0,0,1,1,0,0,0,1],x<3:=by decide
 cases hl:[0,1,0,2,0,0,1,1,0,0,0,1][k.toNat]? with
 |none=>simp
 |some x=>exact h x (ai hl)
theorem ShV.Dj{w w':World}{v:Go.Value}{fs ks:List Fld}{r:Nat}{t:Bool}(h:ShV w v fs ks r t)(u:KeepT 136 w w'):ShV w' v fs ks r t:=let⟨v1,v2,e,h1,h2⟩:=h;⟨v1,v2,e,h1.Dj rfl u,h2.Dj rfl u⟩
theorem ShMap.Dj{w w':World}{b:Nat}(h:ShMap w b)(u:KeepT 136 w w'):ShMap w' b:=let⟨kv,h1,h2,h3⟩:=h;⟨kv,h1.Dj u,fun k v m=>(h2 k v m).Dj u,h3⟩
def ShM(v:Go.Value)(w:World):Prop:=∃b,v=.map (some b)∧ShMap w b
theorem ShM.Dj{v:Go.Value}{w w':World}(h:ShM v w)(u:KeepT 136 w w'):ShM v w':=let⟨b,e,m⟩:=h;⟨b,e,m.Dj u⟩
def shOf(f:Fact)(v:Go.Value)(w:World):Prop:=ShV w v (fieldsOf f.Kind) (Er f.Kind) (G8 f.Kind) (G9 f.Kind)
def yI(f:Fact)(v:Go.Value)(w:World):Prop:=∃s,v=.tuple #[s,.bool true]∧shOf f s w
def Xi:Go.Value:=.agg #[.slice none 0 0,.slice none 0 0,.nilFunc,.bool false]
theorem shOf.agg{f:Fact}{v:Go.Value}{w:World}(h:shOf f v w):∃cs,v=.agg cs∧cs.size=4∧cs.all (·.oneCell')=true:=by
 obtain⟨v1,v2,rfl,⟨⟨a1,c1,rfl,_⟩,_⟩,⟨a2,c2,rfl,_⟩,_⟩:=h
 exact⟨_,rfl,rfl,by simp[Value.oneCell']⟩
set_option maxHeartbeats 4000000 in
theorem My(f:Fact)(w:World):Ret prog 51 #[.agg f.cells] w fun r w'=>r=.bool (Ca f)∧Up w w':=by
 obtain⟨w0,rfl,hS⟩:=W0 w
 refine cT 93 func51 rfl (Af (Ap (.bA rfl) rfl ?_))
 rintro _ w1 ⟨B1,rfl,NB1⟩
 replace hS:=hS.Cg NB1
 refine Az (An ?_)
 cases hq1:decide (1≤f.Kind∧f.Kind≤11)with
 |true=>
  have hkn:=b9 hq1
  obtain⟨r0,hr0⟩:∃r,r=G8 f.Kind:=⟨_,rfl⟩
  have hr3:r0<3:=by rw[hr0];exact uN _
  obtain⟨t0,ht0⟩:∃t,t=G9 f.Kind:=⟨_,rfl⟩
  have hB1T:=hS.blk 0 rfl
  have hU0:=hS.Ch
  refine CW.box 9 7 8 5 3 14 #[.slice none 0 0,.slice none 0 0,.nilFunc,.bool false] [.pred ShM,.eq (.pointer (some ⟨B1,0,none⟩)),.eq (vi f.Kind),.pred (yI f),.pred (yI f),.pred (shOf f),.eq (.bool true),.pred fun v _=>∃B,v=.pointer (some ⟨B,0,none⟩),.eq undef] [15] ma sizeOf136 kQ rfl kQ kQ kQ kQ kQ kQ kQ rfl rfl ⟨_,_,_,rfl⟩ _ rfl ⟨_,_,_,rfl⟩ ⟨PhT.pred fun _ _ _ h u=>ShM.Dj h u,ot,ot,PhT.pred fun _ _ _ h u=>let⟨s,e,h⟩:=h;⟨s,e,ShV.Dj h u⟩,PhT.pred fun _ _ _ h u=>let⟨s,e,h⟩:=h;⟨s,e,ShV.Dj h u⟩,PhT.pred fun _ _ _ h u=>ShV.Dj h u,ot,PhT.pred fun _ _ _ h _=>h,ot,trivial⟩ rfl (fun v W h=>shOf.agg h) (fun B W=>⟨B,rfl⟩) ?_ ?_
  ·intro W hK0
   have hK:=(Up.drew w1).Dj.trans hK0
   have hB1W:=Blk.Dj hB1T (T:=136) rfl hK
   refine aC (.inr ⟨rfl,TU.c (eC .nil (tM)) (Lf _) (fun v W1 h=>let⟨b,e,m,u⟩:=h;⟨u,b,e,m⟩)⟩) (aC (.inr ⟨rfl,TU.p (.fB 0 rfl) rfl⟩) (aC (.inr ⟨rfl,TU.p (.lb rfl (hB1W.Ad rfl)) rfl⟩) (aC (.inr ⟨rfl,TU.open (d:=10) rfl (by rintro _ ⟨b,rfl,kv,hI,hV,hK⟩;obtain⟨⟨k0,sv⟩,hkv,e0⟩:=bx.1 ((hK f.Kind).2 hkn);cases e0;exact TU.p (.Hw n6 li (.t rfl) (.t rfl) hI hkv) ⟨_,rfl,hV _ _ hkv⟩)⟩) (aC (.inr ⟨rfl,TU.open (d:=13) rfl (by rintro _ ⟨s,rfl,h⟩;exact TU.p (.mv rfl) ⟨s,rfl,h⟩)⟩) (aC (.inr ⟨rfl,TU.open (d:=9) rfl (by rintro _ ⟨s,rfl,h⟩;exact TU.p (.xt rfl rfl) h)⟩) (aC (.inr ⟨rfl,TU.open (d:=9) rfl (by rintro _ ⟨s,rfl,h⟩;exact TU.p (.xt rfl rfl) rfl)⟩) (aC (.inl (.inl rfl)) (aC (.inl (.inr rfl)) ?_))))))))
   exact allL.nil
  intro wT B3 g hU hBn hB3 hg
  have h15:g 15=.bool true:=hg 6 _ 15 cQ rfl rfl
  have hUT:=(Up.drew _).trans hU
  have hB1X:=hB1T.up hUT
  replace hB1T:=hB1X
  replace hU0:=hU0.trans hUT
  obtain⟨v1,v2,e14,hs1,hs2⟩:=hg 5 _ 14 cQ rfl rfl
  rw[e14]at hB3
  obtain⟨⟨ad,cp,rfl,hE0⟩,_⟩:=hs1
  obtain⟨⟨ad2,cp2,rfl,hE2⟩,_⟩:=hs2
  rw[←hr0,←ht0]at hB3
  replace hB3:Blk wT B3 #[.slice ad (fieldsOf f.Kind).length cp,.slice ad2 (Er f.Kind).length cp2,.func (.func (Fm r0)) #[] #[],.bool t0] 136:=hB3
  have hB3T:=hB3
  change LW _ _ _ _ _ _ _ _ ((3,_)::(15,.eq (g 15))::_) _
  rw[h15]
  replace hS:=(Sep.start no wT)
  refine LW.A rfl (An (Ai ?_))
  cases hq2:preB f with
  |true=>
   refine Aa (U (.tr (PEv.mv rfl) (rfl)) (U (.n1 rfl) (I rfl (Au (U (.fB 2 rfl) (Au (U (.lb rfl ((hB1T.up hS.Ch).Ad rfl)) (Au (U (.lss (.t rfl) (.const _)) (U (.po rfl (fun hp=>(by exact .tmp rfl))) (I rfl (LW.gr rfl (fun hc=>PEv.fB 2 rfl) (LW.gr rfl (fun hc=>PEv.load l7 vQ ((hB1T.up hS.Ch).Ad rfl)) (LW.gr rfl (fun hc=>PEv.gtr vQ (.const _)) (U (.po rfl (fun hp=>(by exact .cond rfl (by simp_all)))) (I rfl (LW.gr rfl (fun hc=>PEv.fB 3 rfl) (LW.gr rfl (fun hc=>PEv.load l7 vQ ((hB1T.up hS.Ch).Ad rfl)) (LW.gr rfl (fun hc=>PEv.lss vQ (.const _)) (U (.po rfl (fun hp=>(by exact .cond rfl (by simp_all)))) (I rfl (LW.gr rfl (fun hc=>PEv.fB 3 rfl) (LW.gr rfl (fun hc=>PEv.load l7 vQ ((hB1T.up hS.Ch).Ad rfl)) (LW.gr rfl (fun hc=>PEv.gtr vQ (.const _)) (U (.po rfl (fun hp=>(by exact .cond rfl (by simp_all)))) (I rfl (LW.gr rfl (fun hc=>PEv.fB 18 rfl) (LW.gr rfl (fun hc=>PEv.load isAgg9 vQ ((hB1T.up hS.Ch).Ad rfl)) (LW.gr rfl (fun hc=>PEv.R3 l5 vQ) (LW.gr rfl (fun hc=>PEv.gtr vQ (.const _)) (U (.po rfl (fun hp=>(by exact .cond rfl (by simp_all)))) (U (.tr (PEv.mv rfl) (by simpa[preB]using hq2)) (Bh (Bh (Bh (Bh (Bh (U (.Ev (b:=false) (.t rfl) (fun hp=>absurd (show true=false from hp) cQ)) (Ah (CW.v rfl (Af (Az (Ah (Am (Ar (KW.q ?_))))))))))))))))))))))))))))))))))))))))))))))
   refine⟨bi Go.Value.bool ?_,hU0.trans hS.Ch⟩
   exact HA hq2
  |false=>
   obtain⟨hp1,hp2,hp3,hp4,hp5⟩:¬f.Version<1∧¬1000000<f.Version∧¬f.Day<0∧¬100000<f.Day∧¬8192<(f.Text.size:Int):=by simp[preB]at hq2;omega
   refine Aa (U (.tr (PEv.mv rfl) (rfl)) (U (.n1 rfl) (I rfl (Au (U (.fB 2 rfl) (Au (U (.lb rfl ((hB1T.up hS.Ch).Ad rfl)) (Au (U (.fa (PEv.lss (.t rfl) (.const _)) (br hp1)) (U (.po rfl (fun hp=>(by exact .tmp rfl))) (I rfl (Au (U (.fB 2 rfl) (Au (U (.lb rfl ((hB1T.up hS.Ch).Ad rfl)) (Au (U (.fa (PEv.gtr (.t rfl) (.const _)) (br hp2)) (U (.po rfl (fun hp=>(by exact .tmp rfl))) (I rfl (Au (U (.fB 3 rfl) (Au (U (.lb rfl ((hB1T.up hS.Ch).Ad rfl)) (Au (U (.fa (PEv.lss (.t rfl) (.const _)) (br hp3)) (U (.po rfl (fun hp=>(by exact .tmp rfl))) (I rfl (Au (U (.fB 3 rfl) (Au (U (.lb rfl ((hB1T.up hS.Ch).Ad rfl)) (Au (U (.fa (PEv.gtr (.t rfl) (.const _)) (br hp4)) (U (.po rfl (fun hp=>(by exact .tmp rfl))) (I rfl (Au (U (.fB 18 rfl) (Au (U (.lb rfl ((hB1T.up hS.Ch).Ad rfl)) (Au (U (.R3 l5 (.t rfl)) (Au (U (.fa (PEv.gtr (.t rfl) (.const _)) (br hp5)) (U (.po rfl (fun hp=>(by exact .tmp rfl))) (I rfl (Au (U (.fB 2 rfl) (Au (U (.lb rfl ((hB3T.up hS.Ch).Ad rfl)) (Au (U (.lc rfl ((hB1T.up hS.Ch).agg)) (Au (A4 (Ey (.t rfl) (.cu rfl) (uL r0 hr3)) rfl (pT r0 f _ hr3) ?_)))))))))))))))))))))))))))))))))))))))))))))))))))))
   rintro _ w2 ⟨rfl,uw2⟩
   replace hS:=hS.up uw2
   refine Au (U (.n1 rfl) (U (.po rfl (fun hp=>(by exact .tmp rfl))) (Ah (CW.b rfl (fun h50=>?_) (fun h50=>?_)))))
   ·refine Af (Az (Ah (Am (Ar (KW.q ?_)))))
    refine⟨bi Go.Value.bool ?_,hU0.trans hS.Ch⟩
    exact AB hr0 (by simpa using h50)
   refine Aj (Ac (Af (U (.lc rfl ((hB1T.up hS.Ch).agg)) (Ap (.Cb ll) rfl ?_))))
   rintro _ w3 ⟨B5,rfl,MB5⟩
   refine Cd (.Cc lh rfl (.t rfl) (.t rfl) eQ MB5.blk rfl) ?_
   intro w4 LB5
   have NB5:=MB5.set LB5
   replace hS:=hS.Cg NB5
   refine An (Af (U (.fB 0 rfl) (U (.lb rfl ((hB3T.up hS.Ch).Ad rfl)) (U (.Ck lw (.t rfl)) (U (.move (.const _)) (Ah (Ak (A6 (σ:=Nat×Fact) (fun s w=>(s.1≤(fieldsOf f.Kind).length)∧(Ih (fieldsOf f.Kind) f=Ih ((fieldsOf f.Kind).drop s.1) s.2)∧(Sep no wT w [A5 B5 s.2.cells 35])) (fun s=>[(55,.eq (vi (s.1:Int)))]) ([(1,.eq _),(3,.eq _),(5,.eq _),(53,.eq _),(54,.eq _)]) (fun s=>(fieldsOf f.Kind).length-s.1) (0,f) ?_ tQ ?_))))))))
   ·exact⟨a8 _,rfl,hS⟩
   rintro⟨k,g⟩ w5 ⟨hkk,hg,hS⟩
   refine Af (U (.l2 rfl rfl) (An (CW.b rfl (fun h56=>?_) (fun h56=>?_))))
   ·refine Aj (Ac (Ai (Ak (Ai ?_))))
    have hfl:=Ny f.Kind
    have hE:=Els.up hE0 hS.Ch
    have hkl:k<(fieldsOf f.Kind).length:=by simp at h56;omega
    refine Aa ?_
    obtain⟨x,hx⟩:=Ae (xs:=fieldsOf f.Kind) (i:=k) oQ
    obtain⟨Bx,ox,ax,hcx⟩:=hE _ x hx
    refine U (.Ao lw ly (.t rfl) (.t rfl) oQ ax) (U (.lc rfl (hcx)) (Ap (.Cb lj) rfl ?_))
    rintro _ w6 ⟨B7,rfl,MB7⟩
    refine Cd (.Cc ly rfl (.t rfl) (.t rfl) (Fld.one _) MB7.blk rfl) ?_
    intro w7 LB7
    have NB7:=MB7.set LB7
    replace hcx:=hcx.up NB7.up
    replace hS:=hS.Cg NB7
    refine An ?_
    have hox:=Vz _ x (ai hx)
    refine Aa (U (.fB 0 rfl) (U (.lb rfl (hS.b1.Ad rfl)) (A4 (Ey (.t rfl) (.cu rfl) (pS x.off hox)) rfl (iK x.off _ _ hox) ?_)))
    rintro _ w8 ⟨rfl,uw8⟩
    replace hS:=hS.up uw8
    refine LW.A rfl (An (Ai (C5 kQ kQ rfl rfl (J (.mv rfl) (J (.nc rfl) (J (.lb rfl (hS.b0.Ad (P4 hox))) (J (.fB 1 rfl) (J (.lb rfl (hS.b1.Ad (v:=vi x.lo) rfl)) (J (.l2 rfl rfl) (J (.mv rfl) (Fe rfl rfl rfl rfl rfl rfl (fun hc=>PEv.mv rfl) (Fe rfl rfl rfl rfl rfl rfl (fun hc=>PEv.nilCheck vQ) (Fe rfl rfl rfl rfl rfl rfl (fun hc=>PEv.load l7 vQ (hS.b0.Ad (P4 hox))) (Fe rfl rfl rfl rfl rfl rfl (fun hc=>PEv.fB 2 rfl) (Fe rfl rfl rfl rfl rfl rfl (fun hc=>PEv.load l7 vQ (hS.b1.Ad (v:=vi x.hi) rfl)) (Fe rfl rfl rfl rfl rfl rfl (fun hc=>PEv.gtr vQ vQ) (J (.po rfl (fun hp=>(by exact .cond rfl (by simp_all)))) (HW.nil ?_))))))))))))))))))
    intro w9 uw9
    replace hS:=hS.up uw9
    refine Ac (CW.b rfl (fun h75=>?_) (fun h75=>?_))
    ·refine Af (Az (Ah (Am (Ar (A7 (Ar (Ar (A7 (Ar (KW.q ?_))))))))))
     refine⟨bi Go.Value.bool ?_,hU0.trans hS.Ch⟩
     exact AD (lE hg hx (by simp at h75;omega))
    refine Aj (Ac (Aa (I rfl (U (.nc rfl) (Cd (.store lg (.t rfl) (.const _) rfl hS.b0 (eJ hox)) ?_)))))
    intro w10 Nw10
    have zw10:=Nw10.size
    replace hS:=hS.Ek 0 rfl (by rw[eI hox]at Nw10;exact Nw10)
    refine LW.nil (Al (Ac (Aa (U (.ic rfl oQ) (I rfl (LW.nil (Av ?_)))))))
    exact⟨(k+1,lC g x.off 0),⟨by omega,lD hg hx (by simp at h75;omega),hS.take 1⟩,tQ,by omega⟩
   refine A8 (Ab (Ab (Aq (Ac (Ai (Af (U (.fB 3 rfl) (U (.lb rfl ((hB3T.up hS.Ch).Ad rfl)) (Ah (CW.b rfl (fun h80=>?_) (fun h80=>?_)))))))))))
   ·refine Aa (U (.fB 18 rfl) (Cd (.store mj (.t rfl) (.const _) rfl hS.b0 bQ) ?_))
    intro w11 Nw11
    replace hS:=hS.Ek 0 rfl (show Set_ _ w11 _ (({ g with Text:=ByteArray.empty }:Fact).cells) _ from Nw11)
    refine An (Aa (U (.lc rfl (hS.b0.agg)) (U (.fB 0 rfl) (U (.lb rfl ((hB1T.up hS.Ch).Ad rfl)) (U (.fB 2 rfl) (U (.lb rfl ((hB1T.up hS.Ch).Ad rfl)) (U (.fB 3 rfl) (U (.lb rfl ((hB1T.up hS.Ch).Ad rfl)) (U (.fB 4 rfl) (U (.lb rfl ((hB1T.up hS.Ch).Ad rfl)) (U (.build (cs:=(iJ f).cells) me ll Fk (.ct rfl (.ct rfl (.ct rfl (.cu rfl)))) rfl) (U (.yR eqGuardType35 (Qz _ _) (.t rfl) (.t rfl)) (LW.A rfl (Ah (Am (KW.q ?_))))))))))))))))
    refine⟨bi Go.Value.bool ?_,hU0.trans hS.Ch⟩
    exact AE hkn hq2 hr0 (by simpa using h50) (Zn hg (by simp at h56;omega)) ht0 h80
   refine Aj (Ac (Af (U (.lc rfl (hS.b0.agg)) (U (.fB 0 rfl) (U (.lb rfl ((hB1T.up hS.Ch).Ad rfl)) (U (.fB 2 rfl) (U (.lb rfl ((hB1T.up hS.Ch).Ad rfl)) (U (.fB 3 rfl) (U (.lb rfl ((hB1T.up hS.Ch).Ad rfl)) (U (.fB 4 rfl) (U (.lb rfl ((hB1T.up hS.Ch).Ad rfl)) (U (.build (cs:=(iJ f).cells) me ll Fk (.ct rfl (.ct rfl (.ct rfl (.cu rfl)))) rfl) (U (.yR eqGuardType35 (Qz _ _) (.t rfl) (.t rfl)) (LW.A rfl (Ah (Am (KW.q ?_)))))))))))))))))
   refine⟨bi Go.Value.bool ?_,hU0.trans hS.Ch⟩
   exact AF hkn hq2 hr0 (by simpa using h50) (Zn hg (by simp at h56;omega)) ht0 h80
 |false=>
  have hkn:=cd hq1
  have hB1T:=hS.blk 0 rfl
  have hU0:=hS.Ch
  refine CW.box 9 7 8 5 3 14 #[.slice none 0 0,.slice none 0 0,.nilFunc,.bool false] [.pred ShM,.eq (.pointer (some ⟨B1,0,none⟩)),.eq (vi f.Kind),.eq (.tuple #[Xi,.bool false]),.eq (.tuple #[Xi,.bool false]),.eq Xi,.eq (.bool false),.pred fun v _=>∃B,v=.pointer (some ⟨B,0,none⟩),.eq undef] [15] ma sizeOf136 kQ rfl kQ kQ kQ kQ kQ kQ kQ rfl rfl ⟨_,_,_,rfl⟩ _ rfl ⟨_,_,_,rfl⟩ ⟨PhT.pred fun _ _ _ h u=>ShM.Dj h u,ot,ot,ot,ot,ot,ot,PhT.pred fun _ _ _ h _=>h,ot,trivial⟩ rfl (fun v W h=>⟨_,h,rfl,by simp[Value.oneCell']⟩) (fun B W=>⟨B,rfl⟩) ?_ ?_
  ·intro W hK0
   have hK:=(Up.drew w1).Dj.trans hK0
   have hB1W:=Blk.Dj hB1T (T:=136) rfl hK
   refine aC (.inr ⟨rfl,TU.c (eC .nil (tM)) (Lf _) (fun v W1 h=>let⟨b,e,m,u⟩:=h;⟨u,b,e,m⟩)⟩) (aC (.inr ⟨rfl,TU.p (.fB 0 rfl) rfl⟩) (aC (.inr ⟨rfl,TU.p (.lb rfl (hB1W.Ad rfl)) rfl⟩) (aC (.inr ⟨rfl,TU.open (d:=10) rfl (by rintro _ ⟨b,rfl,kv,hI,hV,hK⟩;exact TU.p (.Ov n6 li ma (.t rfl) (.t rfl) hI (fun h=>hkn ((hK f.Kind).1 h))) rfl)⟩) (aC (.inr ⟨rfl,TU.p (.mv rfl) rfl⟩) (aC (.inr ⟨rfl,TU.p (.xt rfl rfl) rfl⟩) (aC (.inr ⟨rfl,TU.p (.xt rfl rfl) rfl⟩) (aC (.inl (.inl rfl)) (aC (.inl (.inr rfl)) ?_))))))))
   exact allL.nil
  intro wT B3 g hU hBn hB3 hg
  have h15:g 15=.bool false:=hg 6 _ 15 cQ rfl rfl
  have hUT:=(Up.drew _).trans hU
  have hB1X:=hB1T.up hUT
  replace hB1T:=hB1X
  replace hU0:=hU0.trans hUT
  have e14:g 14=Xi:=hg 5 _ 14 cQ rfl rfl
  rw[e14]at hB3
  replace hB3:Blk wT B3 #[.slice none 0 0,.slice none 0 0,.nilFunc,.bool false] 136:=hB3
  change LW _ _ _ _ _ _ _ _ ((3,_)::(15,.eq (g 15))::_) _
  rw[h15]
  replace hS:=(Sep.start no wT)
  refine LW.A rfl (An (Af (U (.fa (PEv.mv rfl) (rfl)) (U (.n1 rfl) (I rfl (Bh (Bh (Bh (U (.Ev (b:=false) (.t rfl) (fun hp=>absurd (show true=false from hp) cQ)) (I rfl (Bh (Bh (Bh (U (.Ev (b:=false) (.t rfl) (fun hp=>absurd (show true=false from hp) cQ)) (I rfl (Bh (Bh (Bh (U (.Ev (b:=false) (.t rfl) (fun hp=>absurd (show true=false from hp) cQ)) (I rfl (Bh (Bh (Bh (U (.Ev (b:=false) (.t rfl) (fun hp=>absurd (show true=false from hp) cQ)) (I rfl (Bh (Bh (Bh (Bh (U (.Ev (b:=false) (.t rfl) (fun hp=>absurd (show true=false from hp) cQ)) (I rfl (Bh (Bh (Bh (Bh (Bh (U (.Ev (b:=false) (.t rfl) (fun hp=>absurd (show true=false from hp) cQ)) (Ah (CW.v rfl (Af (Az (Ah (Am (Ar (KW.q ?_)))))))))))))))))))))))))))))))))))))))))))))
  refine⟨bi Go.Value.bool ?_,hU0.trans hS.Ch⟩
  exact GZ hkn
end Go.Proofs.YtnpgbbaniknpkaaGreatDoor
