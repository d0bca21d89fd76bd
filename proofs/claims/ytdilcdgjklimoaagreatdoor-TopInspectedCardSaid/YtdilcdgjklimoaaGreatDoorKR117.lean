import Derived.Test.YtdilcdgjklimoaaGreatDoorKR116
namespace Go.Wx
def Hf(b:Base)(v:Vd):Int:=match v.why.find? (fun id=>(Ld b id).isSome)with
 |none=>0
 |some id=>(Gz b.Lots v.w ((Ld b id).getD Pw).Time).1
theorem uJ{b:Base}{v:Vd}(h:∀id∈v.why,(Ld b id).isSome=false):Hf b v=0:=by
 unfold Hf
 rw[List.find?_eq_none.2 fun id hid=>by rw[h id hid];exact Bool.false_ne_true]
theorem St{α:Type}{p:α→Bool}{l:List α}{k:Nat}{x:α}(hx:l[k]?=some x)(hp:p x=true)(hn:∀y∈l.take k,p y=false):l.find? p=some x:=by
 have hlt:=(List.getElem?_eq_some_iff.1 hx).1
 have e:l=l.take k++x::l.drop (k+1):=by
   have h1:l.drop k=x::l.drop (k+1):=by
     rw[List.drop_eq_getElem_cons hlt,(List.getElem?_eq_some_iff.1 hx).2]
   rw[←h1,List.take_append_drop]
 rw[e,List.find?_append,List.find?_eq_none.2 (fun y hy=>by rw[hn y hy];exact Bool.false_ne_true),List.find?_cons,hp]
 rfl
theorem pV{b:Base}{v:Vd}{k j:Nat}{id:Int}{p:Fact}(hk:v.why[k]?=some id)(hn:∀y∈v.why.take k,(Ld b y).isSome=false)(hj:b.Processes[j]?=some p)(hp:decide (p.ID=id)=true)(hpn:∀y∈b.Processes.take j,decide (y.ID=id)=false):Hf b v=(Gz b.Lots v.w p.Time).1:=by
 have e:Ld b id=some p:=St (p:=fun f:Fact=>decide (f.ID=id)) hj hp hpn
 unfold Hf
 rw[St (p:=fun id=>(Ld b id).isSome) hk (by rw[e];rfl) hn]
 show(Gz b.Lots v.w ((Ld b id).getD Pw).Time).1=_
 rw[e];rfl
theorem uK{b:Base}{id:Int}(h:∀y∈b.Processes,decide (y.ID=id)=false):(Ld b id).isSome=false:=by
 unfold Ld
 rw[List.find?_eq_none.2 fun y hy=>by rw[h y hy];exact Bool.false_ne_true]
 rfl
theorem xK{w:World}{p:VP}(h:Sl w p.uv 1 A5 p.vd.why):Els w p.ad 1 A5 p.vd.why:=by
 obtain⟨ad,c,e,hE⟩:=h
 unfold VP.uv at e
 injection e with e1 e2 e3
 rw[e1]
 exact hE
end Go.Wx
namespace Go.Proofs.YtdilcdgjklimoaaGreatDoor
open Go.Proofs.Tryz
open Go.Wx Go.RowKit
theorem dL(cf:Nat)(lb:Array Go.Value)(p:Fact→Bool)(hen:∀args w,(callFunc cf args).run Tryz.prog w=.ok (.enter cf args) w)(ad:Option Addr)(cp:Nat)(l:List Fact)(w:World)(hE0:Els w ad 19 Fact.cells l)(hl:l.length≤100000)(hp:∀W,Up w W→∀x,Ret Tryz.prog cf (#[.agg (Fact.cells x)]++lb) W fun r W'=>r=.bool (p x)∧Up W W'):Ret prog 97 #[.slice ad l.length cp,.func (.func cf) #[] lb] w fun r w'=>∃i,r=vi i∧uH p l i∧Up w w':=by
 have hW:=Up.refl w
 obtain⟨w0,rfl,_⟩:=W0 w
 refine cT 19 func97 rfl (Af (Az (Am (Af (I rfl (U (.Cw underlying26 (.t rfl)) (U (.move (.const _)) (Ai (Ae (A3 (σ:=Nat) (fun s w=>(s≤l.length)∧(∀y∈l.take s,p y=false)∧(Up w0 w)) (fun s=>[(8,.eq (vi (s:Int)))]) ([(0,.eq _),(1,.eq _),(7,.eq _)]) (fun s=>l.length-s) 0 ?_ tQ ?_))))))))))
 ·exact⟨Nat.zero_le _,by simp,hW⟩
 rintro k w1 ⟨hk,hn,hW⟩
 refine Af (U (.l2 rfl rfl) (Am (CW.b rfl (fun h9=>?_) (fun h9=>?_))))
 ·replace h9:=dQ h9
  refine Aj (Ac (Ah (Ae (Af (I rfl (LW.A rfl (Am ?_)))))))
  have hE:=Els.up hE0 hW
  refine Aa (I rfl (I rfl (I rfl ?_)))
  obtain⟨x,hx⟩:=Aq (xs:=l) (i:=k) oQ
  obtain⟨Bx,ox,ax,hcx⟩:=hE _ x hx
  refine U (.Aw underlying26 sizeOf74 (.t rfl) (.t rfl) oQ ax) (U (.lc rfl (hcx)) (A6 (Cc (.t rfl) (.cu rfl) (hen)) rfl (hp _ hW x) ?_))
  rintro _ w2 ⟨rfl,uw2⟩
  replace hW:=hW.up uw2
  replace hcx:=hcx.up uw2
  refine Ai (CW.b rfl (fun h16=>?_) (fun h16=>?_))
  ·replace h16:=dQ h16
   refine Af (I rfl (LW.A rfl (Ai (Al (Ay (Ap (Ap (Ay (Ap (KW.q ?_))))))))))
   exact⟨_,rfl,.inl ⟨k,x,rfl,hx,by simpa using h16,hn⟩,hW⟩
  replace h16:=dQ h16
  refine Aj (Ad (Ac (Aa (U (.ic rfl oQ) (I rfl (LW.nil (Ar ?_)))))))
  exact⟨k+1,⟨by omega,Ki hx hn (by simpa using h16),hW⟩,tQ,by omega⟩
 replace h9:=dQ h9
 refine A4 (Ab (Ab (An (Ac (Af (Az (Ai (Al (KW.q ?_)))))))))
 exact⟨-1,rfl,.inr ⟨rfl,by rw[show k=l.length by omega,List.take_length]at hn;exact hn⟩,hW⟩
theorem dM(f:Fact)(id:Int)(B:Nat)(w:World)(hB:Blk w B #[vi id] 3):Ret prog 98 #[.agg f.cells,.pointer (some ⟨B,0,none⟩)] w fun r w'=>r=.bool (decide (f.ID=id))∧Up w w':=by
 obtain⟨w0,rfl,hS⟩:=W0 w
 refine cT 8 func98 rfl (Af (Ao (.bA rfl) rfl ?_))
 rintro _ w1 ⟨B2,rfl,NB2⟩
 replace hS:=hS.Cg NB2
 refine Az (Am (Aa (U (.fB 1 rfl) (U (.lb rfl (hS.b0.Ak rfl)) (U (.lb rfl ((hB.up hS.Ch).Ak rfl)) (U (.eql (.t rfl) (.t rfl)) (LW.A rfl (Ai (Al (KW.q ?_))))))))))
 exact⟨rfl,hS.Ch⟩
theorem dN(bc:Array Go.Value)(b:Base)(p:VP)(w:World)(hC:BaseC w bc b)(hw:Sl w p.uv 1 A5 p.vd.why)(hlw:p.vd.why.length≤100000)(hlP:b.Processes.length≤100000)(hlL:b.Lots.length≤1000000000):Ret prog 33 #[.agg bc,.agg p.cells] w fun r w'=>r=vi (Hf b p.vd)∧Up w w':=by
 obtain⟨w0,rfl,hS⟩:=W0 w
 refine cT 38 func33 rfl (Af (Ao (.bA rfl) rfl ?_))
 rintro _ w1 ⟨B2,rfl,NB2⟩
 replace hS:=hS.Cg NB2
 refine Ao (.bA rfl) rfl ?_
 rintro _ w2 ⟨B3,rfl,NB3⟩
 replace hS:=hS.Cg NB3
 refine Az (Am (Ah ?_))
 obtain⟨v00,h00,hs00⟩:=hC.at_ (j:=0) cQ
 obtain⟨adP,cpP,rfl,hEP⟩:=(show Sl w0 v00 19 Fact.cells b.Processes from hs00)
 have hEw:Els w0 p.ad 1 A5 p.vd.why:=xK hw
 refine Aa (U (.fB 2 rfl) (U (.lb rfl (Blk.Ak (v:=p.uv) hS.b1 rfl)) (U (.Cw underlying37 (.t rfl)) (U (.move (.const _)) (Ai (Ae (A3 (σ:=Nat) (fun s w=>(s≤p.vd.why.length)∧(∀y∈p.vd.why.take s,(Ld b y).isSome=false)∧(Wx.Sep no w0 w [Bq B2 bc 28,Bq B3 p.cells 101])) (fun s=>[(13,.eq (vi (s:Int)))]) ([(2,.eq _),(3,.eq _),(11,.eq _),(12,.eq _)]) (fun s=>p.vd.why.length-s) 0 ?_ tQ ?_)))))))
 ·exact⟨Nat.zero_le _,by simp,hS⟩
 rintro k w3 ⟨hk,hn,hS⟩
 refine Af (U (.l2 rfl rfl) (Am (CW.b rfl (fun h14=>?_) (fun h14=>?_))))
 ·replace h14:=dQ h14
  refine Aj (Ac (Ah (Ae (Ah ?_))))
  obtain⟨id,hid⟩:=Aq (xs:=p.vd.why) (i:=k) oQ
  obtain⟨Bz,oz,az,hcz⟩:=(Els.up hEw hS.Ch) k id hid
  refine Aa (U (.Aw underlying37 sizeOf3 (j:=k) (.t rfl) (.t rfl) oQ az) (U (.lb rfl (hcz.nth (j:=0) rfl)) (Ao (.Ga zeroValue3 rfl) rfl ?_)))
  rintro _ w4 ⟨B6,rfl,MB6⟩
  refine A9 (.store sizeOf3 (.t rfl) (.t rfl) rfl MB6.blk bQ) ?_
  intro w5 LB6
  have NB6:=MB6.set LB6
  replace hS:=hS.Cg NB6
  refine Am (Aa (U (.fB 0 rfl) (U (.lb rfl (hS.b0.cell h00)) (U (.makeFunc (.cu rfl)) (A6 (eC (.u rfl rfl) (IK)) rfl (dL 98 #[.pointer (some ⟨B6,0,none⟩)] (fun f=>decide (f.ID=id)) IM adP cpP b.Processes _ (Els.up hEP hS.Ch) hlP (fun W u x=>dM x id B6 W (hS.b2.up u))) ?_)))))
  rintro _ w6 ⟨i,rfl,hi,uw6⟩
  replace hS:=hS.up uw6
  refine LW.A rfl (Am (Aa (I rfl (U (.geq (.t rfl) (.const _)) (Ai (CW.b rfl (fun h22=>?_) (fun h22=>?_)))))))
  ·replace h22:=dQ h22
   refine Ah ?_
   obtain⟨j,y,rfl,hy,hyp,hyn⟩:=hi.resolve_right (fun⟨e,_⟩=>by omega)
   have hjl:=(List.getElem?_eq_some_iff.1 hy).1
   obtain⟨By,oy,ay,hcy⟩:=(Els.up hEP hS.Ch) j y hy
   refine Iw 15 [.eq (.agg bc),.eq (.pointer (some ⟨B3,0,none⟩)),.eq (vi p.vd.w),.eq (.pointer (some ⟨B2,0,none⟩)),.eq (.slice adP b.Processes.length cpP),.eq (vi (j:Int)),.eq (.pointer (some ⟨By,oy+j*19,none⟩)),.eq (.pointer (some ⟨By,oy+j*19+5,none⟩)),.eq (vi y.Time),.eq (.tuple #[vi (Gz b.Lots p.vd.w y.Time).1,vi (Gz b.Lots p.vd.w y.Time).2]),.eq (.tuple #[vi (Gz b.Lots p.vd.w y.Time).1,vi (Gz b.Lots p.vd.w y.Time).2]),.eq (vi (Gz b.Lots p.vd.w y.Time).1),.eq (vi (Gz b.Lots p.vd.w y.Time).2),.eq (vi (Gz b.Lots p.vd.w y.Time).1),.eq (vi (Gz b.Lots p.vd.w y.Time).2)] [8] kQ rfl kQ kQ kQ kQ kQ kQ kQ uQ ?_ ?_
   ·intro W hU0
    have hU:=(Up.drew w6).trans hU0
    have hSW:=hS.up hU
    refine aC ⟨rfl,TU.p (.Kw isAgg28 sizeOf28 hC.size (.t rfl) hSW.b0.agg) rfl⟩ (aC ⟨rfl,TU.p (.fB 0 rfl) rfl⟩ (aC ⟨rfl,TU.p (.lb rfl (Blk.Ak (v:=vi p.vd.w) hSW.b1 rfl)) rfl⟩ (aC ⟨rfl,TU.p (.fB 0 rfl) rfl⟩ (aC ⟨rfl,TU.p (.lb rfl (hSW.b0.cell h00)) rfl⟩ (aC ⟨rfl,TU.p (.mv rfl) rfl⟩ (aC ⟨rfl,TU.p (.Aw underlying26 sizeOf74 (j:=j) (.t rfl) (.t rfl) oQ ay) rfl⟩ (aC ⟨rfl,TU.p (.fB 5 rfl) rfl⟩ (aC ⟨rfl,TU.p (.lb rfl ((hcy.up hU).nth (j:=5) rfl)) rfl⟩ (aC ⟨rfl,TU.c (eC (.ct rfl (.ct rfl (.cu rfl))) (IN)) (tY bc b p.vd.w y.Time W (hC.up hSW.Ch) oQ) sQ⟩ (aC ⟨rfl,TU.p (.mv rfl) rfl⟩ (aC ⟨rfl,TU.p (.xt rfl rfl) rfl⟩ (aC ⟨rfl,TU.p (.xt rfl rfl) rfl⟩ (aC ⟨rfl,TU.p (.assign (.t rfl)) rfl⟩ (aC ⟨rfl,TU.p (.assign (.t rfl)) rfl⟩ ?_))))))))))))))
    exact allL.nil
   intro w7 g hU0 hg
   have hU:=(Up.drew w6).trans hU0
   replace hS:=hS.up hU
   have e8:g 8=vi (Gz b.Lots p.vd.w y.Time).1:=hg 13 _ 8 cQ rfl rfl
   change LW _ _ _ _ _ _ _ _ ((8,.eq (g 8))::_) _
   rw[e8]
   refine Am (Aa (I rfl (LW.A rfl (Ai (Al (Ay (Ap (Ap (Ay (Ap (KW.q ?_)))))))))))
   exact⟨by rw[pV hid hn hy hyp hyn],hS.Ch⟩
  replace h22:=dQ h22
  refine Aj (Ad (Ac (Aa (U (.ic rfl oQ) (I rfl (LW.nil (Ar ?_)))))))
  exact⟨k+1,⟨by omega,Ki (p:=fun y=>(Ld b y).isSome) hid hn (uK (hi.resolve_left (fun⟨j,x,e,_⟩=>by omega)).2),hS.take 2⟩,tQ,by omega⟩
 replace h14:=dQ h14
 refine A4 (Ab (Ab (An (Ac (Af (Az (Ai (Al (KW.q ?_)))))))))
 exact⟨by rw[uJ (by rw[show k=p.vd.why.length by omega,List.take_length]at hn;exact hn)],hS.Ch⟩
end Go.Proofs.YtdilcdgjklimoaaGreatDoor
namespace Go.Wx.Mk
open Go.RowKit Go.MapKept Go.Wx
open Go.ChangeMaps (setBlock)
variable {κ:Type}{Q:KT κ}
def MidM[DecidableEq κ](Q:KT κ)(P:Program)(T:TypeId)(w:World)(b:Nat)(kv:List (κ×Value))(k:κ)(st:Nat):Prop:=
 ∃es1 clock1,w.heap[b]?=some (.map es1 clock1)∧∀(w2:World)(val:Value),w2.heap[b]?=some (.map es1 clock1)→∃w',(Instr.entryStore T (.map (some b)) (goInt st) val).run P w2=.ok () w'∧IMap Q w' b (D8 kv k val)∧Sto b w2 w'∧w'.heap.size=w2.heap.size
def FI[DecidableEq κ](Q:KT κ)(P:Program)(T:TypeId)(b:Nat)(kv:List (κ×Value))(k:κ)(st:Nat):Asr:=⟨(· =b),fun w=>MidM Q P T w b kv k st,fun _ _ h e _=>by
 obtain⟨es1,c1,h1,h2⟩:=h
 exact⟨es1,c1,(e b rfl (lt_of_block h1)).trans h1,h2⟩,fun w h i(e:i=b)=>by
 obtain⟨es1,c1,h1,_⟩:=h
 rw[e];exact lt_of_block h1⟩
section
variable {P:Program}{n:Nat}{ds:List Deferred}{l:Env}{w:World}{d:Option Tmp}{ty:TypeId}{ps:String}{af:Array Edge}{g:Option (Nat×Bool)}
theorem REv.mapEntry[DecidableEq κ]{T K E:TypeId}{m x:Operand}{b:Nat}{k:κ}{z:Value}{kv:List (κ×Value)}(hT:P.underlying T=some (.map K E))(hK:Q.Law P K)(hko:Q.ok k)(hz:∀w,(zeroValue E).run P w=.ok z w)(hm:Val l m (.map (some b)))(hx:Val l x (Q.vk k))(h:IMap Q w b kv):
   REv P n ds l w ⟨d,.mapEntry T m x,ty,ps,af,g⟩ (fun v w'=>∃v0 st,v=.tuple #[v0,goInt (st:Nat)]∧((k∉kv.map (·.1)∧v0=z)∨(k,v0)∈kv)∧MidM Q P T w' b kv k st∧Sto b w w'∧w'.heap.size=w.heap.size):=fun a ha=>by
 obtain⟨es,clock,hb,hs,he,ho⟩:=h
 have fin:∀(w:World)(o o':Obj),w.heap[b]?=some o'→Sto b w { w with heap:=w.heap.setIfInBounds b o }:=fun w o o' hb=>⟨rfl,rfl,rfl,by simp,fun i _ hne=>(heap_set hb).2 i hne⟩
 rcases hK.find w hko es.toList (pJ he ho)with⟨h1,h2⟩|⟨j,e,h1,h2,h3⟩
 · have hni:k∉kv.map (·.1):=fun hmem=>by
     obtain⟨p,hp,hpk⟩:=List.mem_map.1 hmem
     obtain⟨x',hx',hkx,_⟩:=De he hp
     exact h2 x' hx' (by rw[hkx,hpk])
   refine⟨_,_,Ci (v:=.tuple #[z,goInt clock]) (w':={ w with heap:=w.heap.setIfInBounds b (.map (es.push { key:=Q.vk k,val:=z,born:=clock }) (clock+1)) }) ?_,z,clock,rfl,.inl ⟨hni,rfl⟩,⟨_,_,(heap_set hb).1,fun w2 val hw2=>⟨{ w2 with heap:=w2.heap.setIfInBounds b (.map (es.push { key:=Q.vk k,val:=val,born:=clock }) (clock+1)) },?_,⟨_,_,(heap_set hw2).1,stamped_push hs h2,?_,Qp ho hko⟩,fin w2 _ _ hw2,by simp⟩⟩,fin w _ _ hb,by simp⟩
   · rw[ha.ev hm,ha.ev hx]
     simp[Instr.mapEntry,run_underlying hT,MapKept.run_getObj_map hb,hK.check w _ hko,h1,hz,MapKept.run_setObj_map _ hb,Result.andThen]
   · have hidx:(es.push ⟨Q.vk k,z,clock⟩).findIdx? (fun e=>((e.born:Nat):Int)==((clock:Nat):Int))=some es.size:=by
       rw[Go.WideElems.findIdx_arr]
       exact Go.WideElems.findIdx_born (l:=(es.push ⟨Q.vk k,z,clock⟩).toList) (j:=es.size) (e0:=⟨Q.vk k,z,clock⟩) (stamped_push hs h2).2.1 (by simp)
     have hmod:(es.push ⟨Q.vk k,z,clock⟩).modify es.size (fun e=>{ e with val:=val })=es.push ⟨Q.vk k,val,clock⟩:=by
       apply Array.ext'
       rw[Array.toList_modify,Array.toList_push,Array.toList_push,←Array.length_toList,Go.WideElems.modify_last]
     simp[Instr.entryStore,MapKept.run_getObj_map hw2,asInt,asIntOf,goInt,hidx,hmod,MapKept.run_setObj_map _ hw2,Result.andThen]
   rw[D8,if_neg hni]
   simp[he,D9,Hi]
 have hj:es[j]?=some e:=by simpa using h2
 have hkey:∀(val:Value)e',es[j]?=some e'→({ e' with key:=Q.vk k,val:=val }:MapEntry).key=e'.key:=fun _ e' he'=>by rw[hj]at he';cases he';exact h3.symm
 have hsame:es.modify j (fun e=>{ e with key:=Q.vk k })=es:=by
   apply Array.ext'
   rw[Array.toList_modify,Go.ChangeMaps.modify_eq_set _ _ _ _ h2]
   have:({ e with key:=Q.vk k }:MapEntry)=e:=by rw[←h3]
   rw[this]
   exact Go.WideElems.set_self _ _ _ h2
 have hin:(k,e.val)∈kv:=by
   obtain⟨k',hk',hm'⟩:=Fa he e (List.mem_of_getElem? h2)
   have:k'=k:=Q.inj (hk'.symm.trans h3)
   rwa [this]at hm'
 refine⟨_,_,Ci (v:=.tuple #[e.val,goInt e.born]) (w':={ w with heap:=w.heap.setIfInBounds b (.map es clock) }) ?_,e.val,e.born,rfl,.inr hin,⟨_,_,(heap_set hb).1,fun w2 val hw2=>⟨{ w2 with heap:=w2.heap.setIfInBounds b (.map (es.modify j fun e=>{ e with key:=Q.vk k,val:=val }) clock) },?_,⟨_,_,(heap_set hw2).1,stamped_modify hs _ _ (fun _ _=>rfl) (fun e' _ he'=>hkey val e' he'),Gb hs he hj h3,Qp ho hko⟩,fin w2 _ _ hw2,by simp⟩⟩,fin w _ _ hb,by simp⟩
 · rw[ha.ev hm,ha.ev hx]
   simp[Instr.mapEntry,run_underlying hT,MapKept.run_getObj_map hb,hK.check w _ hko,h1,hj,h3,hK.stays w hko,hsame,MapKept.run_setObj_map _ hb,Result.andThen]
 have hidx:es.findIdx? (fun x=>((x.born:Nat):Int)==((e.born:Nat):Int))=some j:=by
   rw[Go.WideElems.findIdx_arr]
   exact Go.WideElems.findIdx_born hs.2.1 h2
 have hmod:es.modify j (fun e=>{ e with val:=val })=es.modify j (fun e'=>{ e' with key:=Q.vk k,val:=val }):=by
   apply Array.ext'
   rw[Array.toList_modify,Array.toList_modify,Go.ChangeMaps.modify_eq_set _ _ _ _ h2,Go.ChangeMaps.modify_eq_set _ _ _ _ h2,←h3]
 simp[Instr.entryStore,MapKept.run_getObj_map hw2,asInt,asIntOf,goInt,hidx,hmod,MapKept.run_setObj_map _ hw2,Result.andThen]
theorem SEv.entryStore[DecidableEq κ]{T:TypeId}{m s x:Operand}{b st:Nat}{k:κ}{v:Value}{kv:List (κ×Value)}(hm:Val l m (.map (some b)))(hs:Val l s (goInt (st:Nat)))(hx:Val l x v)(h:MidM Q P T w b kv k st):
   SEv P n ds l w ⟨none,.entryStore T m s x,ty,ps,af,g⟩ (fun w'=>IMap Q w' b (D8 kv k v)∧Sto b w w'∧w'.heap.size=w.heap.size):=fun a ha=>by
 obtain⟨es1,c1,h1,h2⟩:=h
 obtain⟨w',h3,h4⟩:=h2 w v h1
 exact⟨w',Kt (by rw[ha.ev hm,ha.ev hs,ha.ev hx];exact h3),h4⟩
end
end Go.Wx.Mk
