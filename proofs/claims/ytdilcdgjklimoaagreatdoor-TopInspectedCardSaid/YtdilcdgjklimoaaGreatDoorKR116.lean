import Derived.Test.YtdilcdgjklimoaaGreatDoorKR115
import GoSem.Extern.MapsClone
namespace Go.Wx.Mk
open Go.RowKit Go.MapKept Go.Wx
variable {κ:Type}{Q:KT κ}
def Bu(Q:KT κ)(b:Nat)(kv:List (κ×Value)):Asr:=⟨(· =b),fun w=>IMap Q w b kv,fun _ _ h k _=>by
 have:=h.lt
 obtain⟨es,clock,h1,h2⟩:=h
 exact⟨es,clock,(k b rfl this).trans h1,h2⟩,fun _ h _ e=>by rw[e];exact h.lt⟩
def Fi(Q:KT κ)(b r:Nat)(kv:List (κ×Value))(done:List κ):Asr:=⟨fun i=>i=b∨i=r,fun w=>IRng Q w b r kv done,fun _ _ h k _=>by
 obtain⟨es,clock,since,seen,c0,h1,h2,h3,h4,h5⟩:=h
 exact⟨es,clock,since,seen,c0,(k b (.inl rfl) (lt_of_block h1)).trans h1,h2,h3,(k r (.inr rfl) (lt_of_block h4)).trans h4,h5⟩,fun _ h i e=>by
 obtain⟨es,clock,since,seen,c0,h1,h2,h3,h4,h5⟩:=h
 rcases e with rfl|rfl
 · exact lt_of_block h1
 exact lt_of_block h4⟩
theorem Ka{b:Nat}{kv kv':List (κ×Value)}{w w':World}(h:IMap Q w' b kv')(k:Sto b w w'):Stp (Bu Q b kv) (Bu Q b kv') w w':=⟨k.fr,h,fun _ h=>.inl h⟩
theorem Gf{b r:Nat}{kv:List (κ×Value)}{w w':World}(h:IRng Q w' b r kv [])(u:Up w w')(hr:r=w.heap.size):Stp (Bu Q b kv) (Fi Q b r kv []) w w':=⟨u.fr _,h,fun i hi=>hi.elim (fun e=>.inl e) (fun e=>.inr oQ)⟩
theorem Hd{P:Program}{b r:Nat}{kv:List (κ×Value)}{done:List κ}{k:κ}{u:Value}{w w':World}(h:NextTo Q P w w' b r kv done k u):Stp (Fi Q b r kv done) (Fi Q b r kv (done++[k])) w w':=⟨h.sto.fr.mono (fun i(e:i=r)=>.inr e),h.rng,fun _ h=>.inl h⟩
section
variable {P:Program}{n:Nat}{ds:List Deferred}{l:Env}{w:World}{d:Option Tmp}{ty:TypeId}{ps:String}{af:Array Edge}{g:Option (Nat×Bool)}
theorem PEv.Va{T T' K E:TypeId}{x:Operand}{p:Option Nat}(hT:P.underlying T=some (.map K E))(hx:Val l x (.map p)):PEv P n ds l w ⟨d,.binOp .eql T x (.const (.map none)) T',ty,ps,af,g⟩ (.bool p.isNone):=fun a w' ha _=>by
 refine Ci ?_
 have e1:a.eval (.const (.map none))=.map none:=rfl
 rw[ha.ev hx,e1,Sem.run_bind]
 have:(eqGuard .eql T x (.const (.map none)) (.map p) (.map none)).run P w'=.ok () w':=by unfold eqGuard;rfl
 rw[this]
 show(binOp .eql T (.map p) (.map none)).run P w'=_
 have h0:∀m:Nat,(Op.equalIn (m+1) T (.map p) (.map none)).run P w'=.ok p.isNone w':=fun m=>by cases p<;>simp[Op.equalIn,run_underlying hT]
 have h1:=h0 9999
 simp only[binOp]
 simp[show Op.equal T (.map p) (.map none)=Op.equalIn (9999+1) T (.map p) (.map none)from rfl,h1]
end
end Go.Wx.Mk
namespace Go.Wx
open Go.RowKit
def N8(ops:Array Oper):List Nat→List Nat→Bool
 |_,[]=>true
 |acc,j::r=>(match ops[j]? with|some o=>o.after.any fun e=>Region.binds .any e&&acc.contains e.on|none=>false)&&N8 ops (j::acc) r
def Lj(ops:Array Oper):List Nat→List Nat→Bool
 |_,[]=>true
 |acc,j::r=>(acc.any fun i=>match ops[i]? with|some o=>o.after.any fun e=>Region.binds .any e&&Nat.beq e.on j|none=>false)&&Lj ops (j::acc) r
def pK(ops:Array Oper)(k h:Nat)(early:List Nat):Bool:=(List.range k).all fun i=>Nat.beq i h||early.contains i||(match ops[i]? with|some o=>o.after.all fun e=> !(Region.binds .any e&&early.contains e.on)|none=>true)
def keptL(K:World→World→Prop)(skip:List Nat):Nat→List Ph→Prop
 |_,[]=>True
 |i,q::r=>(skip.contains i=true∨∀v W W',q.holds v W→K W W'→q.holds v W')∧keptL K skip (i+1) r
theorem keptL.at{K:World→World→Prop}{skip:List Nat}:∀{l:List Ph}{s:Nat},keptL K skip s l→∀i,skip.contains (s+i)=false→∀v W W',(l.getD i (.eq undef)).holds v W→K W W'→(l.getD i (.eq undef)).holds v W'
 |[],_,_,i,_,v,W,W',h,_=>by
   have e:([]:List Ph).getD i (.eq undef)=.eq undef:=by simp
   rw[e]at h⊢
   exact h
 |q::r,s,hk,0,hs,v,W,W',h,k=>by
   rcases hk.1 with e|e
   · rw[show s+0=s from rfl]at hs;rw[hs]at e;cases e
   simpa using e v W W' (by simpa using h) k
 |q::r,s,hk,i+1,hs,v,W,W',h,k=>by
   simpa using hk.2.at i (by rw[show s+1+i=s+(i+1)by omega];exact hs) v W W' (by simpa using h) k
theorem Wp{ops:Array Oper}{L:Nat→Bool}{h:Nat}(hDn:FY ops L):∀{late acc:List Nat},N8 ops acc late=true→(∀i∈acc,L i=true→L h=true)→∀j∈late,L j=true→L h=true
 |[],_,_,_,j,hj,_=>by cases hj
 |i::r,acc,hl,ha,j,hj,hL=>by
   unfold N8 at hl
   rw[Bool.and_eq_true]at hl
   have hi:L i=true→L h=true:=fun h1=>by
     cases ho:ops[i]? with
     |none=>rw[ho]at hl;cases hl.1
     |some o=>
       rw[ho]at hl
       obtain⟨e,he,hb⟩:=Array.any_eq_true'.1 hl.1
       rw[Bool.and_eq_true]at hb
       exact ha e.on (by simpa using hb.2) (hDn i o ho h1 e he hb.1)
   rcases List.mem_cons.1 hj with rfl|hj
   · exact hi hL
   exact Wp hDn hl.2 (fun m hm h2=>(List.mem_cons.1 hm).elim (fun e=>hi (e▸h2)) (fun hm=>ha m hm h2)) j hj hL
theorem Sj{ops:Array Oper}{L:Nat→Bool}(hDn:FY ops L):∀{early acc:List Nat},Lj ops acc early=true→(∀i∈acc,L i=true)→∀j∈early,L j=true
 |[],_,_,_,j,hj=>by cases hj
 |i::r,acc,hl,ha,j,hj=>by
   unfold Lj at hl
   rw[Bool.and_eq_true]at hl
   have hi:L i=true:=by
     obtain⟨m,hm,h1⟩:=List.any_eq_true.1 hl.1
     cases ho:ops[m]? with
     |none=>rw[ho]at h1;cases h1
     |some o=>
       rw[ho]at h1
       obtain⟨e,he,hb⟩:=Array.any_eq_true'.1 h1
       rw[Bool.and_eq_true]at hb
       rw[←Nat.eq_of_beq_eq_true hb.2]
       exact hDn m o ho (ha m hm) e he hb.1
   rcases List.mem_cons.1 hj with rfl|hj
   · exact hi
   exact Sj hDn hl.2 (fun m hm=>(List.mem_cons.1 hm).elim (fun e=>e▸hi) (fun hm=>ha m hm)) j hj
section
variable {R:Option Nat}{m:Nat}{P:Program}{n:Nat}{ds:List Deferred}{Q:Exit→Go.Act→World→Prop}{l:Env}{w:World}
theorem Zi{id:Nat}{opsL:List Oper}(k h:Nat)(early late:List Nat)(phs:List Ph)(keep:List Nat)(K:World→World→Prop)(hm:P.follows .mixedOrders=true)(hl:Cj l=true)
   (hA:Dv opsL.toArray=true)(hC:(Nat.beq k opsL.toArray.size||Fh opsL.toArray k)=true)(hF:Iu opsL.toArray k=true)(hks:Nat.ble k opsL.toArray.size=true)(hD:Gr n opsL.toArray 0 k=true)(hTl:Gc opsL.toArray k=true)
   (hfree:Jd l (opsL.take k)=true)(hla:N8 opsL.toArray [h] late=true)(hea:Lj opsL.toArray [h] early=true)(hus:pK opsL.toArray k h early=true)(hph:allU phs)(hkp:keptL K (h::(early++late)) 0 phs)
   (hop:∀W,Up w.drew W→allL (fun i o=>o.guard=none∧(i≠h→TU P n ds (Ju opsL.toArray (fun i=>phs.getD i (.eq undef)) 0 o++l) W o (phs.getD i (.eq undef)))∧
     (i=h→∀a,Ag n ds (Ju opsL.toArray (fun i=>phs.getD i (.eq undef)) 0 o++l) a W→iJ P o a W (fun v W'=>(Up w.drew W'∧K W W')∧(phs.getD i (.eq undef)).holds v W'))) 0 (opsL.take k))
   (hend:∀W(g:Nat→Value),Up w.drew W→(∀i o d,i<k→early.contains i=false→opsL[i]?=some o→o.dst=some d→(phs.getD i (.eq undef)).holds (g d) W)→LW R m P n ds opsL.toArray Q (opsL.drop k) (keep.map (fun d=>(d,.eq (g d)))++l) W):
   CW R m P n ds (.region id opsL.toArray true) Q l w:=by
 have hks':k≤opsL.length:=by have:=Nat.le_of_ble_eq_true hks;simp at this;omega
 have sub:∀j o,j<k→opsL.toArray[j]?=some o→(opsL.take k)[j]?=some o:=fun j o hjk ho=>by
   rw[List.getElem?_take_of_lt hjk];simpa using ho
 have hbd:∀i ph,lk l i=some ph→∀(j:Nat)(o:Oper),0≤j→j<k→opsL.toArray[j]?=some o→o.dst≠some i:=fun i ph hi j o _ hjk ho=>Fw hfree hi (List.mem_of_getElem? (sub j o hjk ho))
 refine Ep hm hl fun fuel listed a hf hu ha=>(Ht (k:=k) (fun _=>.pred fun _ _=>True) (fun _ _=>True) (fun L f W=>Up w.drew W∧∀(j:Nat)(o:Oper)(d:Nat),j<k→L j=true→opsL.toArray[j]?=some o→o.dst=some d→(early.contains j=true→L h=false)→(phs.getD j (.eq undef)).holds (f d) W) (f0:=fun t=>a.tmps.getD t undef) (fun _=>trivial) (fun _ _ _ _ _=>trivial) (fun _ _ _ _ _ _=>trivial) hA hC hF hks (by simp) hD hl hbd ?_ ⟨Up.refl _,fun j o d _ hj=>by simp at hj⟩ ?_ fuel listed a hf hu ha (fun _=>rfl))
 · intro i o _ hi hio L f W _ hDn hLi hed hInv a ha hsl
   obtain⟨hU,hI⟩:=hInv
   have ha2:Ag n ds (Ju opsL.toArray (fun i=>phs.getD i (.eq undef)) 0 o++l) a W:=by
     refine⟨ha.defers,ha.size,fun t q ht=>?_⟩
     rcases C6 ht with h1|h1
     · obtain⟨e,he,hb,_,p,hp,hpd,rfl⟩:=Ri h1
       rw[hsl]
       refine hI e.on p t (by have:=Di hA hio e he hb;omega) (hed e he hb) hp hpd (fun hE=>?_)
       by_cases ih:i=h
       · rw[←ih];exact hLi
       have h2:=List.all_eq_true.1 hus i (List.mem_range.2 hi)
       rw[Bool.or_eq_true,Bool.or_eq_true]at h2
       rcases h2 with(h2|h2)|h2
       · exact absurd (Nat.eq_of_beq_eq_true h2) ih
       · cases hLh:L h with
         |false=>rfl
         |true=>
           have:=Sj hDn hea (fun m hm=>by rw[List.mem_singleton.1 hm];exact hLh) i (by simpa using h2)
           rw[hLi]at this;cases this
       rw[hio]at h2
       have h3:=Array.all_eq_true_iff_forall_mem.1 h2 e he
       rw[hb,hE]at h3
       cases h3
     refine ha.val t q ?_
     rw[Fb]
     · exact h1
     cases hq:lk (Ju opsL.toArray (fun _=>Ph.pred fun _ _=>True) 0 o) t with
     |none=>rfl
     |some q'=>
       obtain⟨e,he,hb,_,p,hp,hpd,_⟩:=Ri hq
       exact absurd hpd (hbd t q h1 e.on p (Nat.zero_le _) (by have:=Di hA hio e he hb;omega) hp)
   have h3:=(hop W hU).at (sub i o hi hio)
   rw[Nat.zero_add]at h3
   obtain⟨hg,h3,h4⟩:=h3
   rw[if_pos (by simp[Region.wanted,hg])]
   by_cases ih:i=h
   · have done:∀v W',(Up w.drew W'∧K W W')∧(phs.getD i (.eq undef)).holds v W'→True∧(∀d,o.dst=some d→(Ph.pred fun _ _=>True).holds v W')∧Up w.drew W'∧∀(j:Nat)(o':Oper)(d:Nat),j<k→Cq L i j=true→opsL.toArray[j]?=some o'→o'.dst=some d→(early.contains j=true→Cq L i h=false)→(phs.getD j (.eq undef)).holds (D0 f o.dst v d) W':=by
       rintro v W' ⟨⟨hu,hk⟩,hv⟩
       refine⟨trivial,fun _ _=>trivial,hu,fun j o' d hj hLj hj' hd hE=>?_⟩
       by_cases e:j=i
       · subst e
         rw[hio]at hj';cases hj'
         simpa[D0,hd]using hv
       have h5:L j=true:=by simpa[Cq,e]using hLj
       have h6:D0 f o.dst v d=f d:=by
         have:=(C8 hD (Nat.zero_le _) hj hj' hd).2 i o (Nat.zero_le _) hi (Ne.symm e) hio
         simp[D0,this]
       rw[h6]
       have h7:early.contains j=false:=by
         cases hc:early.contains j with
         |false=>rfl
         |true=>have:=hE hc;simp[Cq,ih]at this
       have h8:late.contains j=false:=by
         cases hc:late.contains j with
         |false=>rfl
         |true=>
           have:=Wp (h:=h) hDn hla (fun m hm h2=>(List.mem_singleton.1 hm)▸h2) j (by simpa using hc) h5
           rw[←ih,hLi]at this;cases this
       refine hkp.at j ?_ _ W W' (hI j o' d hj h5 hj' hd (fun hc=>by rw[h7]at hc;cases hc)) hk
       rw[Nat.zero_add,Bool.eq_false_iff]
       intro hc
       rw[List.contains_iff_mem,List.mem_cons,List.mem_append]at hc
       rcases hc with hc|hc|hc
       · exact e (hc.trans ih.symm)
       · rw[←List.contains_iff_mem,h7]at hc;cases hc
       rw[←List.contains_iff_mem,h8]at hc;cases hc
     rcases h4 ih a ha2 with⟨v,W',hr,hp⟩|⟨fn,args,w1,hr,hc⟩
     · exact .inl (.inl ⟨v,W',hr,done v W' hp⟩)
     exact .inl (.inr ⟨fn,args,w1,hr,hc.mono done⟩)
   have done:∀v W',Up W W'∧(phs.getD i (.eq undef)).holds v W'→True∧(∀d,o.dst=some d→(Ph.pred fun _ _=>True).holds v W')∧Up w.drew W'∧∀(j:Nat)(o':Oper)(d:Nat),j<k→Cq L i j=true→opsL.toArray[j]?=some o'→o'.dst=some d→(early.contains j=true→Cq L i h=false)→(phs.getD j (.eq undef)).holds (D0 f o.dst v d) W':=by
     rintro v W' ⟨hu,hv⟩
     refine⟨trivial,fun _ _=>trivial,hU.trans hu,fun j o' d hj hLj hj' hd hE=>?_⟩
     by_cases e:j=i
     · subst e
       rw[hio]at hj';cases hj'
       simpa[D0,hd]using hv
     have h5:L j=true:=by simpa[Cq,e]using hLj
     have h6:D0 f o.dst v d=f d:=by
       have:=(C8 hD (Nat.zero_le _) hj hj' hd).2 i o (Nat.zero_le _) hi (Ne.symm e) hio
       simp[D0,this]
     rw[h6]
     exact hph.at j _ W W' (hI j o' d hj h5 hj' hd (fun hc=>by have:=hE hc;simpa[Cq,Ne.symm ih]using this)) hu
   rcases h3 ih a ha2 with⟨v,W',hr,hp⟩|⟨fn,args,w1,hr,hc⟩
   · exact .inl (.inl ⟨v,W',hr,done v W' hp⟩)
   exact .inl (.inr ⟨fn,args,w1,hr,hc.mono done⟩)
 intro f W _ hInv fuel' listed' a' hf' hu' ha' hsl'
 obtain⟨hUp,hI⟩:=hInv
 have key:∀i o d,i<k→early.contains i=false→opsL[i]?=some o→o.dst=some d→(phs.getD i (.eq undef)).holds (f d) W:=fun i o d hik hE ho hd=>hI i o d hik (by simpa using hik) (by simpa using ho) hd (fun hc=>by rw[hE]at hc;cases hc)
 refine Et hTl hA (opsL.toArray.size-k) k fuel' listed' a' W rfl (by simp;omega) (Nat.le_refl _) hf' hu' (hend W f hUp key a' ⟨ha'.defers,ha'.size,fun t q ht=>?_⟩)
 rcases C6 ht with h|h
 · obtain⟨d,_,he⟩:=List.mem_map.1 (J0 h)
   cases he
   exact hsl' _
 refine ha'.val t q ?_
 rw[Fb]
 · exact h
 cases hq:lk (Hj opsL.toArray (fun _=>Ph.pred fun _ _=>True) 0 k) t with
 |none=>rfl
 |some q'=>
   obtain⟨j,p,_,hjk,hp,hpd,_⟩:=E6 hq
   exact absurd hpd (hbd t q h j p (Nat.zero_le _) hjk hp)
theorem Ag.Zj{t:Nat}{v:Value}{a:Go.Act}{env:Env}(ha:Ag n ds env a w)(hv:a.tmps.getD t undef=v):Ag n ds ((t,.eq v)::env) a w:=⟨ha.defers,ha.size,fun s q hs=>by
 by_cases e:s=t
 · subst e;rw[A7]at hs;cases hs;exact hv
 rw[A8 e]at hs;exact ha.val s q hs⟩
end
theorem OwnS.Il{α:Type}{enc:α→Array Value}{b e k:Nat}{w:World}{v:Value}{xs:List α}(h:OwnS w 0 e k enc v xs)(hb:∀i,(J e k enc v xs).foot i→b≤i):OwnS w b e k enc v xs:=by
 obtain⟨h1,h2⟩:=h
 refine⟨h1,?_⟩
 rcases h2 with h2|⟨g,cap,cur,e,_,rest⟩
 · exact .inl h2
 exact .inr ⟨g,cap,cur,e,hb g (by rw[e];rfl),rest⟩
end Go.Wx
namespace Go.Wx
structure MC where
 f:Int
 t:Int
 l:Int
 bl:Nat
 bt:Nat
 bf:Nat
def MC.p(q:MC):Fact→Bool:=mG q.f q.t q.l
def kH(ti:TypeId)(q:MC):Asr:=D5 [Bq q.bl #[vi q.l] ti,Bq q.bt #[vi q.t] ti,Bq q.bf #[vi q.f] ti]
theorem Wq{ti:TypeId}{q:MC}{w:World}(h:(kH ti q).holds w):Blk w q.bl #[vi q.l] ti∧Blk w q.bt #[vi q.t] ti∧Blk w q.bf #[vi q.f] ti:=⟨h.1 (Bq q.bl #[vi q.l] ti) (by simp),h.1 (Bq q.bt #[vi q.t] ti) (by simp),h.1 (Bq q.bf #[vi q.f] ti) (by simp)⟩
def cW(ti:TypeId)(Q:List MC):Asr:=D5 (Q.map (kH ti))
theorem Sm{ti:TypeId}{Q:List MC}{w:World}(h:(cW ti Q).holds w):∀q∈Q,(kH ti q).holds w:=fun q hq=>h.1 _ (List.mem_map.2 ⟨q,hq,rfl⟩)
theorem cX{S0:Nat→Prop}{w0 w:World}{Bs:List Asr}{ti:TypeId}{Q:List MC}{q:MC}(h:Sep S0 w0 w (Bs++[cW ti Q,kH ti q])):Sep S0 w0 w (Bs++[cW ti (Q++[q])]):=by
 have h1:=Sep.unfold (Bs:=Bs) (As:=Q.map (kH ti)) (rest:=[kH ti q]) h
 have h2:=Ie (Bs:=Bs) (As:=Q.map (kH ti)++[kH ti q]) (rest:=[]) (by simpa using h1)
 have e:Q.map (kH ti)++[kH ti q]=(Q++[q]).map (kH ti):=by rw[List.map_append];rfl
 rw[e]at h2
 exact h2
theorem Lk{b:Nat}{kv kv':List (Int×Value)}{w w':World}(h:IMap w' b kv')(k:Sto b w w'):Stp (Bu b kv) (Bu b kv') w w':=⟨k.fr,h,fun _ h=>.inl h⟩
structure WE where
 w:Int
 b:Nat
 L:List (Int×Bool)
def WE.kv(e:WE):Int×Value:=(e.w,.map (some e.b))
def WE.pl(e:WE):Int×List (Int×Bool):=(e.w,e.L)
def kJ(L:List (Int×Bool)):List (Int×Value):=L.map fun q=>(q.1,.bool q.2)
theorem N9(L:List (Int×Bool)):(kJ L).map (·.1)=L.map (·.1):=by unfold kJ;rw[List.map_map];rfl
def Xc(e:WE):Asr:=Bu e.b (kJ e.L)
def gJ(D:List WE):Asr:=D5 (D.map Xc)
theorem Sn(D:List WE):(D.map WE.kv).map (·.1)=D.map (·.w):=by rw[List.map_map];rfl
theorem Oa{D:List WE}{w:World}(h:(gJ D).holds w){j:Nat}{e:WE}(hj:D[j]?=some e):IMap w e.b (kJ e.L):=h.1 _ (List.mem_map.2 ⟨e,List.mem_of_getElem? hj,rfl⟩)
theorem gK{D:List WE}{w w':World}{j:Nat}{e:WE}{A:Asr}(h:(gJ D).holds w)(hj:D[j]?=some e)(s:Stp (Xc e) A w w'):Stp (gJ D) (D5 ((D.map Xc).set j A)) w w':=La h (by rw[List.getElem?_map,hj];rfl) s
theorem kK{S0:Nat→Prop}{w0 w:World}{Bs:List Asr}{D:List WE}{e:WE}(h:Sep S0 w0 w (Bs++[gJ D,Xc e])):Sep S0 w0 w (Bs++[gJ (D++[e])]):=by
 have h1:=Sep.unfold (Bs:=Bs) (As:=D.map Xc) (rest:=[Xc e]) h
 have h2:=Ie (Bs:=Bs) (As:=D.map Xc++[Xc e]) (rest:=[]) (by simpa using h1)
 have e:D.map Xc++[Xc e]=(D++[e]).map Xc:=by rw[List.map_append];rfl
 rw[e]at h2
 exact h2
theorem zI{D:List WE}{w:Int}{b:Nat}(h:w∉D.map (·.w)):D8 (D.map WE.kv) w (.map (some b))=(D++[(⟨w,b,[]⟩:WE)]).map WE.kv:=by
 rw[Rn (by rw[Sn];exact h),List.map_append];rfl
def Sq(D:List (Int×List (Int×Bool)))(w id:Int)(s:Bool):List (Int×List (Int×Bool)):=if w∈D.map (·.1)then D.map (fun e=>if e.1=w then(w,G3 e.2 id s)else e)else D++[(w,G3 [] id s)]
theorem gL(D:List WE):(D.map WE.pl).map (·.1)=D.map (·.w):=by rw[List.map_map];rfl
theorem zL{D:List WE}{w id:Int}{s:Bool}{b:Nat}(h:w∉D.map (·.w)):((D++[(⟨w,b,[]⟩:WE)]).set D.length ⟨w,b,G3 [] id s⟩).map WE.pl=Sq (D.map WE.pl) w id s:=by
 unfold Sq
 rw[if_neg (by rw[gL];exact h),List.set_append_right _ _ (Nat.le_refl _),Nat.sub_self,List.map_append]
 rfl
theorem zO{D:List WE}{j:Nat}{e:WE}{id:Int}{s:Bool}(hn:(D.map (·.w)).Nodup)(hj:D[j]?=some e):(D.set j { e with L:=G3 e.L id s }).map WE.pl=Sq (D.map WE.pl) e.w id s:=by
 have hm:e.w∈(D.map WE.pl).map (·.1):=by rw[gL];exact List.mem_map.2 ⟨e,List.mem_of_getElem? hj,rfl⟩
 unfold Sq
 rw[if_pos hm]
 refine List.ext_getElem? fun i=>?_
 rw[List.getElem?_map,List.getElem?_set,List.getElem?_map,List.getElem?_map]
 by_cases h:j=i
 · subst h
   rw[if_pos rfl,if_pos (List.getElem?_eq_some_iff.1 hj).1,hj]
   show some (e.w,G3 e.L id s)=some (if e.pl.1=e.w then(e.w,G3 e.pl.2 id s)else e.pl)
   rw[if_pos (show e.pl.1=e.w from rfl)]
   rfl
 rw[if_neg h]
 cases hi:D[i]? with
 |none=>rfl
 |some x=>
   have hne:x.w≠e.w:=fun ex=>h (by
     have h1:(D.map (·.w))[j]?=some e.w:=by rw[List.getElem?_map,hj];rfl
     have h2:(D.map (·.w))[i]?=some e.w:=by rw[List.getElem?_map,hi,←ex];rfl
     exact(List.getElem?_inj (List.getElem?_eq_some_iff.1 h1).1 hn).1 (h1.trans h2.symm))
   show some x.pl=some (if x.pl.1=e.w then _ else x.pl)
   rw[if_neg (show ¬x.pl.1=e.w from hne)]
theorem Wr{L:List (Int×Bool)}(hn:(L.map (·.1)).Nodup)(id:Int)(s:Bool):D8 (kJ L) id (.bool (Li L id||s))=kJ (G3 L id s):=by
 unfold D8 G3
 by_cases h:id∈L.map (·.1)
 · rw[if_pos (by rw[N9];exact h),if_pos h]
   unfold kJ
   rw[List.map_map,List.map_map]
   refine List.map_congr_left fun q hq=>?_
   show(if q.1=id then(id,Value.bool (Li L id||s))else(q.1,Value.bool q.2))=((if q.1=id then(id,q.2||s)else q).1,Value.bool (if q.1=id then(id,q.2||s)else q).2)
   by_cases e:q.1=id
   · rw[if_pos e,if_pos e]
     have:Li L id=q.2:=by
       rw[Bool.eq_iff_iff]
       unfold Li
       rw[List.any_eq_true]
       constructor
       · rintro⟨x,hx,hxe⟩
         rw[Bool.and_eq_true,decide_eq_true_eq]at hxe
         have:x=q:=by
           obtain⟨i,hi⟩:=List.getElem?_of_mem hx
           obtain⟨k,hk⟩:=List.getElem?_of_mem hq
           have h1:(L.map (·.1))[i]?=some id:=by rw[List.getElem?_map,hi];exact congrArg some hxe.1
           have h2:(L.map (·.1))[k]?=some id:=by rw[List.getElem?_map,hk];exact congrArg some e
           have:i=k:=(List.getElem?_inj (List.getElem?_eq_some_iff.1 h1).1 hn).1 (h1.trans h2.symm)
           subst this
           rw[hi]at hk
           exact Option.some.inj hk
         rw[←this];exact hxe.2
       intro hs
       exact⟨q,hq,by rw[Bool.and_eq_true,decide_eq_true_eq];exact⟨e,hs⟩⟩
     rw[this]
   rw[if_neg e,if_neg e]
 rw[if_neg (by rw[N9];exact h),if_neg h]
 have:Li L id=false:=by
   unfold Li
   rw[List.any_eq_false]
   intro q hq e
   rw[Bool.and_eq_true,decide_eq_true_eq]at e
   exact h (List.mem_map.2 ⟨q,hq,e.1⟩)
 rw[this]
 unfold kJ
 rw[List.map_append]
 rfl
section
variable {P:Program}{n:Nat}{ds:List Deferred}{l:Env}{w:World}{d:Option Tmp}{ty:TypeId}{ps:String}{af:Array Edge}{g:Option (Nat×Bool)}
theorem PEv.xH{T K E:TypeId}{mo x:Operand}{b:Nat}{k:Int}{L:List (Int×Bool)}(hT:P.underlying T=some (.map K E))(hK:P.underlying K=some (.int .i64))(hz:∀w,(zeroValue E).run P w=.ok (.bool false) w)(hm:Val l mo (.map (some b)))(hx:Val l x (vi k))(h:IMap w b (kJ L))(hn:(L.map (·.1)).Nodup):PEv P n ds l w ⟨d,.lookup T mo x false,ty,ps,af,g⟩ (.bool (Li L k)):=by
 by_cases hk:k∈L.map (·.1)
 · obtain⟨q,hq,e⟩:=List.mem_map.1 hk
   have hs:Li L k=q.2:=by
     have h1:=Wr hn k false
     rw[Bool.or_false]at h1
     rw[Bool.eq_iff_iff]
     unfold Li
     rw[List.any_eq_true]
     constructor
     · rintro⟨x,hx,hxe⟩
       rw[Bool.and_eq_true,decide_eq_true_eq]at hxe
       have:x=q:=by
         obtain⟨i,hi⟩:=List.getElem?_of_mem hx
         obtain⟨j,hj⟩:=List.getElem?_of_mem hq
         have h1:(L.map (·.1))[i]?=some k:=by rw[List.getElem?_map,hi];exact congrArg some hxe.1
         have h2:(L.map (·.1))[j]?=some k:=by rw[List.getElem?_map,hj];exact congrArg some e
         have:i=j:=(List.getElem?_inj (List.getElem?_eq_some_iff.1 h1).1 hn).1 (h1.trans h2.symm)
         subst this
         rw[hi]at hj
         exact Option.some.inj hj
       rw[←this];exact hxe.2
     intro hs
     exact⟨q,hq,by rw[Bool.and_eq_true,decide_eq_true_eq];exact⟨e,hs⟩⟩
   rw[hs]
   exact PEv.Cx (ok:=false) hT hK hm hx h (List.mem_map.2 ⟨q,hq,by rw[e]⟩)
 have hs:Li L k=false:=by
   unfold Li
   rw[List.any_eq_false]
   intro q hq e
   rw[Bool.and_eq_true,decide_eq_true_eq]at e
   exact hk (List.mem_map.2 ⟨q,hq,e.1⟩)
 rw[hs]
 exact PEv.Gt (ok:=false) hT hK hz hm hx h (by rw[N9];exact hk)
def IS(w:World)(r:Nat):Prop:=w.heap[r]?=some (.mapIter none 0 #[] 0)
def FF(r:Nat):Asr:=⟨(· =r),fun w=>IS w r,fun _ _ h k _=>by
 have hlt:r<_:=lt_of_block h
 exact(k r rfl hlt).trans h,fun w h i(e:i=r)=>by rw[e];exact lt_of_block h⟩
theorem REv.pL{T K E:TypeId}{m:Operand}(hT:P.underlying T=some (.map K E))(hm:Val l m (.map none)):
   REv P n ds l w ⟨d,.range T m,ty,ps,af,g⟩ (fun v w'=>∃r,v=.pointer (some ⟨r,0,none⟩)∧IS w' r∧Up w w'∧r=w.heap.size∧w'.heap.size=r+1):=fun a ha=>by
 refine⟨_,_,Ci (v:=.pointer (some ⟨w.heap.size,0,none⟩)) (w':=w.alloc (.mapIter none 0 #[] 0)) ?_,_,rfl,(Go.MapKept.heap_alloc w _).1,Up.alloc w _,rfl,by simp⟩
 rw[ha.ev hm]
 simp[Instr.range,run_underlying hT]
theorem REv.uC{it:Operand}{r:Nat}(hx:Val l it (.pointer (some ⟨r,0,none⟩)))(h:IS w r):
   REv P n ds l w ⟨d,.next it false,ty,ps,af,g⟩ (fun v w'=>v=.tuple #[.bool false]∧w'=w):=fun a ha=>by
 refine⟨_,_,Ci (v:=.tuple #[.bool false]) (w':=w) ?_,rfl,rfl⟩
 rw[ha.ev hx]
 simp only[Instr.next,getObj,Sem.run_bind,Sem.run,show w.heap[r]?=some (.mapIter none 0 #[] 0)from h,Result.andThen]
 rfl
end
structure VP where
 vd:Vd
 ad:Option Addr
 cp:Nat
def VP.uv(p:VP):Value:=.slice p.ad p.vd.why.length p.cp
def VP.cells(p:VP):Array Value:=#[vi p.vd.w,vi p.vd.t,p.uv]
theorem VP.one(p:VP):p.cells.all (·.oneCell')=true:=by simp[VP.cells,VP.uv,Value.oneCell']
def Kp(ti:TypeId)(L:List VP):List Asr:=L.map fun p=>J ti 1 A5 p.uv p.vd.why
theorem Vb(ti:TypeId)(L:List VP)(p:VP):Kp ti L++[J ti 1 A5 p.uv p.vd.why]=Kp ti (L++[p]):=by unfold Kp;rw[List.map_append];rfl
theorem pM{ti:TypeId}{L:List VP}{w:World}(h:(D5 (Kp ti L)).holds w):∀p∈L,Sl w p.uv 1 A5 p.vd.why:=fun p hp=>OwnS.sl (show OwnS w 0 ti 1 A5 p.uv p.vd.why from h.1 _ (List.mem_map.2 ⟨p,hp,rfl⟩)) (fun _=>rfl)
def Nd(ss gs:List Fact)(x:Exc)(l:List Fact):List (Int×List (Int×Bool)):=l.foldl (fun D p=>if He x p&&Sf gs x p then Sq D (Me ss p.Time p.Wafer) p.ID (Gi x p)else D) []
theorem O8{ss gs:List Fact}{x:Exc}{l:List Fact}{i:Nat}{p:Fact}(h:l[i]?=some p):Nd ss gs x (l.take (i+1))=if He x p&&Sf gs x p then Sq (Nd ss gs x (l.take i)) (Me ss p.Time p.Wafer) p.ID (Gi x p)else Nd ss gs x (l.take i):=by
 unfold Nd;rw[Ce h,List.foldl_append];rfl
def lookW(D:List (Int×List (Int×Bool)))(w:Int):List (Int×Bool):=((D.find? fun e=>decide (e.1=w)).map (·.2)).getD []
def kL(w:Int)(L:List (Int×Bool)):Vd:=⟨w,(C2 L).1,F3 (C2 L).2⟩
def Im(b:Base)(x:Exc):List Vd:=if I9 x=true then(Cv b.Lots b.Processes b.Swaps).map fun w=>kL w (lookW (Nd b.Swaps b.Gaps x b.Processes) w)else[]
structure Plc where
 t:Int
 c:Int
def Plc.cells(g:Plc):Array Value:=#[vi g.t,vi g.c]
theorem Plc.one(g:Plc):g.cells.all (·.oneCell')=true:=by simp[Plc.cells,Value.oneCell']
def cY(a b:Plc):Bool:=(a.t==b.t)&&((a.c==b.c)&&true)
theorem Mb(x:Exc)(p:Fact):cY ⟨x.tool,x.chamber⟩ ⟨p.Tool,p.Chamber⟩=He x p:=by
 unfold cY He
 rw[Bool.eq_iff_iff]
 simp
def MC.key(q:MC):Int×Int×Int:=(q.f,q.t,q.l)
def FG(x:Exc)(g:Fact):Int×Int×Int:=(g.Time,g.Until,x.err)
theorem pN{x:Exc}{l:List Fact}{i:Nat}{y:Fact}(h:l[i]?=some y)(hy:He x y=true):Lh (l.take (i+1)) x=Lh (l.take i) x++[y]:=by
 unfold Lh
 rw[Ce h,List.filter_append,List.filter_cons_of_pos hy];rfl
theorem uD{x:Exc}{l:List Fact}{i:Nat}{y:Fact}(h:l[i]?=some y)(hy:He x y=false):Lh (l.take (i+1)) x=Lh (l.take i) x:=by
 unfold Lh
 rw[Ce h,List.filter_append,List.filter_cons_of_neg (by rw[hy];exact Bool.false_ne_true)]
 simp
theorem uE{x:Exc}{Q:List MC}{gs:List Fact}{p:Fact}(hQ:Q.map MC.key=(x.frm,x.to,-x.err)::(x.frm,x.to,x.err)::(Lh gs x).map (FG x))(hp:Qd p)(he:0≤x.err∧x.err≤10000):(Q.any fun q=>q.p p)=Sf gs x p:=by
 have e:(Q.any fun q=>q.p p)=(Q.map MC.key).any fun k=>mG k.1 k.2.1 k.2.2 p:=by rw[List.any_map];rfl
 rw[e,hQ,List.any_cons,List.any_cons,List.any_map]
 show(mG x.frm x.to (-x.err) p||(mG x.frm x.to x.err p||(Lh gs x).any fun g=>mG g.Time g.Until x.err p))=_
 unfold Sf Gi
 rw[Zf hp (show -10000≤ -x.err∧ -x.err≤10000 by omega),Zf hp (show -10000≤x.err∧x.err≤10000 by omega),show(fun g:Fact=>mG g.Time g.Until x.err p)=fun g=>AU g.Time g.Until x.err p from funext fun g=>Zf hp (show -10000≤x.err∧x.err≤10000 by omega)]
theorem gM{D:List WE}{j:Nat}{e:WE}(hj:D[j]?=some e)(L:List (Int×Bool)):(D.set j { e with L:=L }).map WE.kv=D.map WE.kv:=by
 rw[List.map_set]
 exact N2 (show(D.map WE.kv)[j]?=some (WE.kv { e with L:=L })by rw[List.getElem?_map,hj];rfl)
theorem gN{D:List WE}{j:Nat}{e:WE}(hj:D[j]?=some e)(L:List (Int×Bool)):(D.set j { e with L:=L }).map (·.w)=D.map (·.w):=by
 rw[List.map_set]
 exact N2 (show(D.map (·.w))[j]?=some e.w by rw[List.getElem?_map,hj];rfl)
theorem gO{D:List WE}{w w':World}{j:Nat}{e:WE}{L:List (Int×Bool)}(h:(gJ D).holds w)(hj:D[j]?=some e)(M:IMap w' e.b (kJ L))(K:Sto e.b w w'):Stp (gJ D) (gJ (D.set j { e with L:=L })) w w':=by
 have h2:=gK (A:=Xc { e with L:=L }) h hj (Lk M K)
 unfold gJ at h2⊢
 rw[List.map_set]
 exact h2
theorem Py{D:List WE}{w:Int}(h:D.find? (fun e=>decide (e.w=w))=none):w∉D.map (·.w):=fun hm=>by
 obtain⟨e,he,ew⟩:=List.mem_map.1 hm
 exact absurd (List.find?_eq_none.1 h e he) (by simp[ew])
theorem Pz{D:List WE}{w:Int}{e:WE}(h:D.find? (fun e=>decide (e.w=w))=some e):∃j:Nat,D[j]?=some e∧e.w=w:=by
 obtain⟨j,hj⟩:=List.getElem?_of_mem (List.mem_of_find?_eq_some h)
 exact⟨j,hj,of_decide_eq_true (List.find?_some (p:=fun e:WE=>decide (e.w=w)) h)⟩
theorem cZ{D:List WE}{w:Int}(h:D.find? (fun e=>decide (e.w=w))=none):lookW (D.map WE.pl) w=[]:=by
 unfold lookW
 rw[List.find?_map]
 show((Option.map WE.pl (D.find? fun e=>decide (e.w=w))).map (·.2)).getD []=[]
 rw[h];rfl
theorem dA{D:List WE}{w:Int}{e:WE}(h:D.find? (fun e=>decide (e.w=w))=some e):lookW (D.map WE.pl) w=e.L:=by
 unfold lookW
 rw[List.find?_map]
 show((Option.map WE.pl (D.find? fun e=>decide (e.w=w))).map (·.2)).getD []=e.L
 rw[h];rfl
theorem perm_keys{V L:List (Int×Bool)}(hV:(V.map (·.1)).Nodup)(hL:(L.map (·.1)).Nodup)(hs:∀q∈V,q∈L)(hp:(V.map (·.1)).Perm (L.map (·.1))):V.Perm L:=by
 have nd:∀{l:List (Int×Bool)},(l.map (·.1)).Nodup→l.Nodup:=fun{l}h=>(List.pairwise_map.1 h).imp fun h e=>h (congrArg _ e)
 refine(List.perm_ext_iff_of_nodup (nd hV) (nd hL)).2 fun q=>⟨hs q,fun hq=>?_⟩
 have h1:q.1∈V.map (·.1):=hp.symm.subset (List.mem_map.2 ⟨q,hq,rfl⟩)
 obtain⟨x,hx,e⟩:=List.mem_map.1 h1
 have hxL:=hs x hx
 have:x=q:=by
   obtain⟨i,hi⟩:=List.getElem?_of_mem hxL
   obtain⟨k,hk⟩:=List.getElem?_of_mem hq
   have h1:(L.map (·.1))[i]?=some q.1:=by rw[List.getElem?_map,hi];exact congrArg some e
   have h2:(L.map (·.1))[k]?=some q.1:=by rw[List.getElem?_map,hk];rfl
   have:i=k:=(List.getElem?_inj (List.getElem?_eq_some_iff.1 h1).1 hL).1 (h1.trans h2.symm)
   subst this
   rw[hi]at hk
   exact Option.some.inj hk
 exact this▸hx
theorem Qq{V L:List (Int×Bool)}(h:V.Perm L):(C2 V).1=(C2 L).1∧F3 (C2 V).2=F3 (C2 L).2:=⟨(U9 h).1,by
 unfold F3
 exact O7 (U9 h).2⟩
end Go.Wx
namespace Go.Wx
open Go.RowKit
def D7(As:List Asr):Nat→Prop:=fun i=>∃A∈As,A.foot i
section
variable {S0:Nat→Prop}{w0 w w':World}{As Bs Zs As':List Asr}{A:Asr}
theorem Mc{i:Nat}:D7 (As++Bs) i↔D7 As i∨D7 Bs i:=by
 constructor
 · rintro⟨A,hA,hi⟩
   exact(List.mem_append.1 hA).imp (fun h=>⟨A,h,hi⟩) (fun h=>⟨A,h,hi⟩)
 rintro(⟨A,hA,hi⟩|⟨A,hA,hi⟩)
 · exact⟨A,List.mem_append_left _ hA,hi⟩
 exact⟨A,List.mem_append_right _ hA,hi⟩
theorem Sep.self(h:Sep S0 w0 w As):Sep (D7 As) w w As:=⟨Fr.refl _ _,fun A hA=>⟨(h.each A hA).1,fun _ hi=>.inl ⟨A,hA,hi⟩⟩,h.apart⟩
theorem Sep.right(h:Sep S0 w0 w (Zs++As)):Sep S0 w0 w As:=h.sub (List.sublist_append_right _ _)
theorem Sep.left(h:Sep S0 w0 w (Zs++As)):Sep S0 w0 w Zs:=h.sub (List.sublist_append_left _ _)
theorem Sep.dis(h:Sep S0 w0 w (Zs++As)){i:Nat}(hz:D7 Zs i):¬D7 As i:=by
 obtain⟨Z,hZ,h1⟩:=hz
 rintro⟨A,hA,h2⟩
 exact(List.pairwise_append.1 h.apart).2.2 Z hZ A hA i h1 h2
theorem Sep.IT(h:Sep S0 w0 w As){i:Nat}(hi:D7 As i):i<w.heap.size:=by
 obtain⟨A,hA,h1⟩:=hi
 exact Asr.lt _ w (h.each A hA).1 i h1
theorem Sep.frame(h:Sep S0 w0 w (Zs++As))(k:Sep (D7 As) w w' As'):Sep S0 w0 w' (Zs++As'):=by
 have hsz:=h.size
 have hF:∀i,D7 As i→S0 i∨w0.heap.size≤i:=fun i⟨A,hA,hi⟩=>(h.each A (List.mem_append_right _ hA)).2 i hi
 refine⟨h.fr.next k.fr hF,fun B hB=>?_,?_⟩
 · rcases List.mem_append.1 hB with hB|hB
   · have h1:=h.each B (List.mem_append_left _ hB)
     exact⟨B.keep w w' h1.1 (fun i hi hlt=>k.fr.block i hlt (h.dis ⟨B,hB,hi⟩)) k.size,h1.2⟩
   have h1:=k.each B hB
   exact⟨h1.1,fun i hi=>(h1.2 i hi).elim (hF i) (fun h2=>.inr oQ)⟩
 refine List.pairwise_append.2 ⟨h.left.apart,k.apart,fun Z hZ B hB i h1 h2=>?_⟩
 rcases(k.each B hB).2 i h2 with h3|h3
 · exact h.dis ⟨Z,hZ,h1⟩ h3
 have:=Asr.lt _ w (h.each Z (List.mem_append_left _ hZ)).1 i h1
 omega
theorem Sep.join(h:Sep S0 w0 w As)(k:Sep no w w' Bs):Sep S0 w0 w' (As++Bs):=by
 have hsz:=h.size
 have h1:=h.up k.Ch
 refine⟨h1.fr,fun B hB=>?_,List.pairwise_append.2 ⟨h.apart,k.apart,fun A hA B hB i h2 h3=>?_⟩⟩
 · rcases List.mem_append.1 hB with hB|hB
   · exact h1.each B hB
   have h2:=k.each B hB
   exact⟨h2.1,fun i hi=>(h2.2 i hi).elim (fun e=>e.elim) (fun e=>.inr oQ)⟩
 have:=Asr.lt _ w (h.each A hA).1 i h2
 exact((k.each B hB).2 i h3).elim (fun e=>e) (fun e=>by omega)
theorem Sep.Iy{Cs:List Asr}(h:Sep S0 w0 w (A::(Bs++Cs))):Sep S0 w0 w (A::(Cs++Bs)):=h.perm (List.Perm.cons A List.perm_append_comm)
theorem Vc{α:Type _}:∀(l:List α)(k:Nat)(a:α),l[k]?=some a→l.Perm ([a]++l.eraseIdx k)
 |[],_,_,h=>by simp at h
 |x::l,0,a,h=>by
   have:x=a:=by simpa using h
   rw[this];exact List.Perm.refl _
 |x::l,k+1,a,h=>((Vc l k a (by simpa using h)).cons x).trans (List.Perm.swap a x _)
theorem Sep.Gl(h:Sep S0 w0 w As)(k:Nat)(hk:As[k]?=some A):Sep S0 w0 w (As.eraseIdx k++[A]):=by
 exact h.perm ((Vc As k A hk).trans List.perm_append_comm)
def KoOk(bq:Nat)(w:World)(As:List Asr):Prop:=∀i,D7 As i→i<bq∨∃o:Obj,w.heap[i]?=some o∧o.isCells=true
theorem KoOk.jG{bq:Nat}:KoOk bq w (As++Bs)↔KoOk bq w As∧KoOk bq w Bs:=
 ⟨fun h=>⟨fun i hi=>h i (Mc.2 (.inl hi)),fun i hi=>h i (Mc.2 (.inr hi))⟩,fun⟨h,k⟩i hi=>(Mc.1 hi).elim (h i) (k i)⟩
theorem Zl{bq:Nat}(h:∀i,D7 As i→i<bq):KoOk bq w As:=fun i hi=>.inl (h i hi)
theorem KoOk.nil(bq:Nat)(w:World):KoOk bq w []:=fun _⟨_,h,_⟩=>by cases h
theorem KoOk.cons{bq:Nat}(h:∀i,A.foot i→i<bq∨∃o:Obj,w.heap[i]?=some o∧o.isCells=true)(k:KoOk bq w As):KoOk bq w (A::As):=fun i⟨B,hB,hi⟩=>by
 rcases List.mem_cons.1 hB with rfl|hB
 · exact h i hi
 exact k i ⟨B,hB,hi⟩
theorem O9{bq B:Nat}{cs:Array Value}{T:TypeId}(h:Blk w B cs T):∀i,(Bq B cs T).foot i→i<bq∨∃o:Obj,w.heap[i]?=some o∧o.isCells=true:=fun i(e:i=B)=>by subst e;exact .inr ⟨_,h,rfl⟩
theorem uF{α:Type}{bq:Nat}{e:TypeId}{k:Nat}{enc:α→Array Value}{v:Value}{xs:List α}(h:OwnS w 0 e k enc v xs):∀i,(J e k enc v xs).foot i→i<bq∨∃o:Obj,w.heap[i]?=some o∧o.isCells=true:=fun i hi=>by
 obtain⟨_,⟨rfl,_⟩|⟨g,cap,cur,rfl,_,hg,_⟩⟩:=h
 · cases hi
 cases hi
 exact .inr ⟨_,hg,rfl⟩
theorem KoOk.ko{bq:Nat}(h:KoOk bq w As)(k:Ko bq w w'):KoOk bq w' As:=fun i hi=>by
 rcases h i hi with h1|⟨o,h1,h2⟩
 · exact .inl h1
 exact .inr ⟨o,k.same i o h1 (.inr h2),h2⟩
theorem Sep.ko{bq:Nat}(h:Sep S0 w0 w As)(hc:KoOk bq w As)(k:Ko bq w w')(hb:w0.heap.size≤bq):Sep S0 w0 w' As:=
 ⟨h.fr.ko k hb,fun A hA=>⟨A.keep w w' (h.each A hA).1 (fun i hi hlt=>by
   obtain⟨o,ho⟩:∃o,w.heap[i]?=some o:=⟨_,Array.getElem?_eq_getElem hlt⟩
   rw[ho]
   refine k.same i o ho ?_
   rcases hc i ⟨A,hA,hi⟩with h1|⟨o',h1,h2⟩
   · exact .inl h1
   rw[ho]at h1;cases h1;exact .inr h2) k.size,(h.each A hA).2⟩,h.apart⟩
end
theorem Cy{α:Type}{enc:α→Array Value}{b k:Nat}{e:TypeId}{w:World}{ad:Option Addr}{m cp:Nat}{xs:List α}(h:OwnS w b e k enc (.slice ad m cp) xs)(hk:∀x,(enc x).size=k):Els w ad k enc xs:=by
 obtain⟨ad',cp',e',hE⟩:=h.sl hk
 cases e'
 exact hE
theorem OwnS.cap{α:Type}{enc:α→Array Value}{b k:Nat}{e:TypeId}{w:World}{ad:Option Addr}{m cp:Nat}{xs:List α}(h:OwnS w b e k enc (.slice ad m cp) xs):m≤cp∧m=xs.length:=by
 obtain⟨_,⟨e1,hn⟩|⟨g,cap,cur,e1,hb,hg,hcap,hcm,hcs,htk⟩⟩:=h
 · cases e1;exact⟨Nat.le_refl _,hn.symm⟩
 cases e1;exact⟨hcap,rfl⟩
theorem NewSl.own{α:Type}{enc:α→Array Value}{k:Nat}{e:TypeId}{w w':World}{v:Value}{xs:List α}(h:NewSl w e k enc xs v w')(hk:∀x,(enc x).size=k)(hk0:0<k)(hm:xs.length≤maxLen):Up w w'∧∃B,v=.slice (some ⟨B,0,none⟩) xs.length xs.length∧B=w.heap.size∧OwnS w' 0 e k enc (.slice (some ⟨B,0,none⟩) xs.length xs.length) xs:=by
 obtain⟨B,cs,rfl,N,hc,hE⟩:=h
 have hfl:∀x,(enc x).toList.length=k:=fun x=>by simp[hk]
 have hl:=Eo (fun x=>(enc x).toList) k hfl xs
 refine⟨N.up,B,rfl,N.at_,hl,.inr ⟨B,xs.length,cs,rfl,Nat.zero_le _,N.blk,Nat.le_refl _,hm,hc,?_⟩⟩
 rw[List.take_of_length_le (by rw[Array.length_toList,hc];exact Nat.le_refl _)]
 refine List.ext_getElem (by rw[Array.length_toList,hc,hl]) fun j h1 h2=>?_
 obtain⟨x,hx1,hx2⟩:=Qi (fun x=>(enc x).toList) k hk0 hfl xs j _ (List.getElem?_eq_getElem h2)
 obtain⟨B',o,e',hcell⟩:=hE _ x hx1
 cases e'
 have h3:=hcell (j%k) _ (by simpa using hx2)
 rw[show 0+j/k*k+j%k=j by rw[Nat.zero_add,Nat.mul_comm];exact Nat.div_add_mod j k]at h3
 have hb:=N.blk
 unfold Blk at hb
 have h1':j<cs.size:=by simpa using h1
 simp[World.cell?,hb,h1']at h3
 simpa using h3
def Zm(T:World→Prop)(Tx:Code→World→Prop):Exit→Go.Act→World→Prop
 |.normal,_,w=>T w
 |.ret,_,w=>Tx .ret w
 |.exit id,_,w=>Tx (.exit id) w
 |.goto t,_,w=>Tx (.goto t) w
 |_,_,_=>False
def Ll(D:Nat):Asr:=⟨(· =D),fun w=>Ob w D (.deferred (some [])),fun _ _ h k _=>(k D rfl (lt_of_block h)).trans h,fun _ h _ e=>by subst e;exact lt_of_block h⟩
def Pa(Ds:List Nat):Asr:=⟨(· ∈Ds),fun w=>Ds.Nodup∧∀D∈Ds,Ob w D (.deferred (some [])),fun _ _ h k _=>⟨h.1,fun D hD=>(k D hD (lt_of_block (h.2 D hD))).trans (h.2 D hD)⟩,fun _ h _ e=>lt_of_block (h.2 _ e)⟩
theorem Sep.dB{S0:Nat→Prop}{w0 w:World}{As:List Asr}(h:Sep S0 w0 w As):Sep S0 w0 w (As++[Pa []]):=h.add (Up.refl _) ⟨List.nodup_nil,fun _ h=>by cases h⟩ (fun _ h=>by cases h)
theorem Qr{S0:Nat→Prop}{w0 w:World}{As Bs:List Asr}{Ds:List Nat}{D:Nat}(h:Sep S0 w0 w ((Pa Ds::As)++(Bs++[Ll D]))):Sep S0 w0 w (Pa (D::Ds)::(As++Bs)):=by
 have h1:=h.get 0 rfl
 have hD:Ob w D (.deferred (some [])):=(h.each (Ll D) (by simp)).1
 have hn:D∉Ds:=fun hm=>by
   have h2:=(List.pairwise_cons.1 h.apart).1 (Ll D) (by simp) D hm
   exact h2 rfl
 have hs:Sep S0 w0 w ((Pa Ds::As)++Bs):=h.sub (List.Sublist.append_left (List.sublist_append_left _ _) _)
 refine⟨h.fr,fun A hA=>?_,?_⟩
 · rcases List.mem_cons.1 hA with rfl|hA
   · refine⟨⟨List.nodup_cons.2 ⟨hn,h1.1⟩,fun E hE=>?_⟩,fun i hi=>?_⟩
     · rcases List.mem_cons.1 hE with rfl|hE
       · exact hD
       exact h1.2 E hE
     rcases List.mem_cons.1 hi with rfl|hi
     · exact(h.each (Ll i) (by simp)).2 i rfl
     exact(h.each (Pa Ds) (by simp)).2 i hi
   exact hs.each A (List.mem_cons_of_mem _ hA)
 have h2:=hs.apart
 rw[List.cons_append,List.pairwise_cons]at h2
 refine List.pairwise_cons.2 ⟨fun A hA i hi hi2=>?_,h2.2⟩
 rcases List.mem_cons.1 hi with rfl|hi
 · have h3:=(List.pairwise_append.1 h.apart)
   rcases List.mem_append.1 hA with hA|hA
   · exact h3.2.2 A (List.mem_cons_of_mem _ hA) (Ll i) (by simp) i hi2 rfl
   exact(List.pairwise_append.1 h3.2.1).2.2 A hA (Ll i) (by simp) i hi2 rfl
 exact h2.1 A hA i hi hi2
def dC:Asr:=⟨fun _=>False,fun _=>True,fun _ _ h _ _=>h,fun _ _ _ h=>h.elim⟩
def dD(Ds:List Nat):List Deferred:=Ds.map fun D=>{ target:=.collected D,args:=#[] }
section
variable {R:Option Nat}{m:Nat}{P:Program}{n:Nat}{ds:List Deferred}{Q:Exit→Go.Act→World→Prop}{l:Env}{w:World}
theorem Kh{fn:Func}{RR:Ending→World→Prop}(hl:Cj l=true):∀(Ds:List Nat)(w:World),Ds.Nodup→(∀D∈Ds,Ob w D (.deferred (some [])))→(∀w',Fr (· ∈Ds) w w'→KW n [] (bodyPost P fn RR .ret) l w')→KW n (dD Ds) (bodyPostM (FR none) m P fn RR .ret) l w:=by
 intro Ds w hn hk h a ha
 show LeavesInM (FR none) m P fn a.tmps RR a.defers .returning w
 rw[ha.defers]
 have key:∀(Ds:List Nat)(w:World),Ds.Nodup→(∀D∈Ds,Ob w D (.deferred (some [])))→(∀w',Fr (· ∈Ds) w w'→KW n [] (bodyPost P fn RR .ret) l w')→LeavesInM (FR none) m P fn a.tmps RR (dD Ds) .returning w:=by
   intro Ds
   induction Ds with
   |nil=>
     intro w _ _ h
     obtain⟨_,v,h2,h3⟩:=h w (Fr.refl _ _) { tmps:=a.tmps,defers:=[] } ⟨rfl,ha.size,(ha.world hl _).val⟩
     exact Kz h2 h3
   |cons D Ds ih=>
     intro w hn hk h
     have hD:=hk D List.mem_cons_self
     obtain⟨hn1,hn2⟩:=List.nodup_cons.1 hn
     refine Nq hD (ih _ hn2 (fun E hE=>?_) (fun w' hf=>h w' ?_))
     · exact(World.putObj_heap_other (fun e:E=D=>hn1 (e▸hE))).trans (hk E (List.mem_cons_of_mem _ hE))
     refine⟨hf.os,hf.tape,hf.output,Nat.le_trans (by simp) hf.size,fun i hi hs=>?_⟩
     have h1:i≠D:=fun e=>hs (by rw[e];exact List.mem_cons_self)
     exact(hf.block i (by simpa using hi) (fun e=>hs (List.mem_cons_of_mem _ e))).trans (World.putObj_heap_other h1)
 exact key Ds w hn hk h
theorem pO{σ:Type}{c:Code}(I:σ→World→Prop)(Fc:σ→Env)(D:σ→List Deferred)(μ:σ→Nat)(s0:σ)(h0:I s0 w)(hd:ds=D s0)(hl:Sub l (Fc s0))
   (round:∀s w,I s w→CW R m P n (D s) c (Exit.then (fun a' w'=>∃s',I s' w'∧Ag n (D s') (Fc s') a' w'∧μ s'<μ s) Q) (Fc s) w):CW R m P n ds (.loop c) Q l w:=by
 subst hd
 intro a ha
 refine wpIn_mono (Q:=fun e a w=>Q e a w) ?_ (fun _ _ _ h=>h)
 intro b k cs hro hb hr
 have key:∀j s a w,μ s=j→I s w→Ag n (D s) (Fc s) a w→
     ∃e a' w',Q e a' w'∧ArrivesIn (Machine.fenced P (FR R)) P (lone (b.atR a (.code c::.inLoop c::k)) cs w) b k cs e a' w':=by
   intro j
   induction j using Nat.strongRecOn with
   |_ j ih=>
     intro s a w hn hI hA
     obtain⟨e,a₁,w₁,hq,harr⟩:=round s w hI a hA b (.inLoop c::k) cs hro hb hr
     cases e with
     |normal=>
       obtain⟨s',hI',hA',hlt⟩:=hq
       obtain⟨e₂,a₂,w₂,hq₂,harr₂⟩:=ih (μ s') (hn▸hlt) s' a₁ w₁ rfl hI' hA'
       exact⟨e₂,a₂,w₂,hq₂,.of_steps (StepsIn.trans harr (.one (fenced_calm hb hr rfl) stepR_inLoop)) harr₂⟩
     |exit id=>exact⟨_,a₁,w₁,hq,.pass (x:=.inLoop c) rfl (fun _ _=>.inl (by simp)) harr⟩
     |goto l=>exact⟨_,a₁,w₁,hq,.pass (x:=.inLoop c) rfl (fun _ _=>.inl (by simp)) harr⟩
     |ret=>exact⟨_,a₁,w₁,hq,.pass (x:=.inLoop c) rfl (fun _ _=>.inl (by simp)) harr⟩
     |panic ch=>exact⟨_,a₁,w₁,hq,.pass (x:=.inLoop c) rfl (fun _ _=>.inl (by simp)) harr⟩
     |outgrown=>exact⟨_,a₁,w₁,hq,.pass (x:=.inLoop c) rfl (fun _ _=>.inl (by simp)) harr⟩
 obtain⟨e,a',w',hq,harr⟩:=key _ s0 a w rfl h0 (ha.sub hl)
 exact⟨e,a',w',hq,.of_steps (.one (fenced_calm hb hr rfl) stepR_loop) harr⟩
theorem kM{σ:Type}{c:Code}(I:σ→World→Prop)(Fc:σ→Env)(base:Env)(D:σ→List Deferred)(μ:σ→Nat)(s0:σ)(h0:I s0 w)(hd:ds=D s0)(hl:Sub l (Fc s0++base))
   (round:∀s w,I s w→CW R m P n (D s) c (Exit.then (fun a' w'=>∃s',I s' w'∧Ag n (D s') (Fc s'++base) a' w'∧μ s'<μ s) Q) (Fc s++base) w):CW R m P n ds (.loop c) Q l w:=
 pO I (fun s=>Fc s++base) D μ s0 h0 hd hl round
theorem kN{σ:Type}{I:σ→World→Prop}{Fc:σ→Env}{D:σ→List Deferred}{μ:σ→Nat}{s:σ}(h:∃s',I s' w∧ds=D s'∧Sub l (Fc s')∧μ s'<μ s):
 KW n ds (Exit.then (fun a' w'=>∃s',I s' w'∧Ag n (D s') (Fc s') a' w'∧μ s'<μ s) Q .normal) l w:=fun _ ha=>let⟨s',h1,h2,h3,h4⟩:=h;⟨s',h1,h2▸ha.sub h3,h4⟩
theorem Oc(X:Nat→Prop){α σ:Type}{g:Operand}{ps:Array Tmp}{assign body:Code}{gf:Nat}{lb:Array Value}{encs:α→Array Value}{Zs:List Asr}{S0:Nat→Prop}{w0:World}(As:σ→List Asr)(J:List α→σ→Prop)(Jx:Code→List α→σ→Prop)(Bx:α→Nat→List Asr)(env:α→Nat→Env)(s0:σ){S Sp:List α→Prop}{N:Nat}
   (hX:∀pre s i,J pre s→D7 (As s) i→(S0 i∨w0.heap.size≤i)∧¬D7 Zs i→X i)(hx:Val l g (.func (.func gf) #[] lb))(en:∀args w,(callFunc gf args).run P w=.ok (.enter gf args) w)(hit:IterS P gf lb encs X (fun i=>(S0 i∨w0.heap.size≤i)∧i<w.heap.size∧¬D7 Zs i) S Sp N w)(hps:∀x,(encs x).size=ps.size)(hl:Cj l=true)(henv:∀x b,Cj (env x b)=true)
   (hS:Sep S0 w0 w (Zs++As s0))(hJ:J [] s0)
   (hassign:∀(lp:Nat)(x:α)(W:World)(a:Go.Act),Ag n ds l a W→assign.wpIn (FR (some lp)) 8 P (Exit.then (fun a' W'=>∃b,Sep no W W' (Bx x b)∧KoOk 0 W' (Bx x b)∧Ag n [] (env x b) a' W') (fun _ _ _=>False)) { tmps:=(ps.zip (encs x)).foldl (fun t(p,v)=>t.setIfInBounds p v) a.tmps,defers:=[] } W)
   (hbody:∀(lp:Nat)(pre:List α)(x:α)(s:σ)(b:Nat)(W:World),J pre s→pre.length<N→w.heap.size≤W.heap.size→Sep S0 w0 W (Zs++(As s++Bx x b))→Sep (D7 (As s++Bx x b)) W W (As s++Bx x b)→
     CW (some lp) 8 P n [] body (Zm (fun W'=>∃s' Rest,J (pre++[x]) s'∧Sep (D7 (As s++Bx x b)) W W' (As s'++Rest)∧KoOk w.heap.size W' (As s')) (fun c W'=>∃s' Rest,Jx c (pre++[x]) s'∧Sep (D7 (As s++Bx x b)) W W' (As s'++Rest)∧KoOk w.heap.size W' (As s'))) (env x b) W)
   (hdone:∀(D:Nat)(ys:List α)(s:σ)(W:World),w.heap.size≤D→S ys→J ys s→w.heap.size≤W.heap.size→Sep S0 w0 W (Zs++(As s++[Ll D]))→KW n ({ target:=.collected D,args:=#[] }::ds) (Q .normal) l W)
   (hstop:∀(D:Nat)(c:Code)(pre:List α)(s:σ)(W:World),w.heap.size≤D→Sp pre→Jx c pre s→w.heap.size≤W.heap.size→Sep S0 w0 W (Zs++(As s++[Ll D]))→CW none 10 P n ({ target:=.collected D,args:=#[] }::ds) c Q l W):
   CW none 10 P n ds (.rangeFunc g ps assign body) Q l w:=fun a ha=>by
 have hg:=ha.ev hx
 have hw0:=hS.size
 refine wpIn_rangeFunc ?_
 intro fn hfn
 let rec_:LoopState→Option Code→Loop:=fun st pe=>{ state:=st,pending:=pe,fn,tmps:=a.tmps,params:=ps,assign,body,defers:=w.heap.size }
 let kd:Nat:=w.heap.size
 let lp:Nat:=w.heap.size+1
 let W1:World:=(w.alloc (.deferred (some []))).alloc (.loop (rec_ .ready none))
 have hU:Up w W1:=(Up.alloc _ _).trans (Up.alloc _ _)
 have rec1:W1.heap[lp]?=some (.loop (rec_ .ready none)):=by
   have:=World.alloc_heap_new (w.alloc (.deferred (some []))) (.loop (rec_ .ready none))
   rw[World.size_alloc]at this
   exact this
 have dfr1:W1.heap[kd]?=some (.deferred (some [])):=(Below.heap_alloc _ _ _ (by simp[kd])).trans (World.alloc_heap_new w _)
 have hne:kd≠lp:=by show w.heap.size≠w.heap.size+1;omega
 have hlpq:w.heap.size≤lp:=by show w.heap.size≤w.heap.size+1;omega
 have hZlow:∀i,D7 Zs i→i<w.heap.size:=fun i hi=>hS.left.IT hi
 -- what stands while the loop goes on
 let I:List α→World→Prop:=fun pre W=>∃s,J pre s∧w.heap.size≤W.heap.size∧Sep S0 w0 W (Zs++As s)∧KoOk w.heap.size W (Zs++As s)
 let Ix:Code→List α→World→Prop:=fun c pre W=>∃s,Jx c pre s∧w.heap.size≤W.heap.size∧Sep S0 w0 W (Zs++As s)∧KoOk w.heap.size W (Zs++As s)
 have kI:∀pre A B,I pre A→Ko w.heap.size A B→I pre B:=fun pre A B⟨s,h1,h2,h3,h4⟩k=>⟨s,h1,Nat.le_trans h2 k.size,h3.ko h4 k hw0,h4.ko k⟩
 have kIx:∀c pre A B,Ix c pre A→Ko w.heap.size A B→Ix c pre B:=fun c pre A B⟨s,h1,h2,h3,h4⟩k=>⟨s,h1,Nat.le_trans h2 k.size,h3.ko h4 k hw0,h4.ko k⟩
 have koW:∀{A B:World}{row:Option Nat},A.grownBy B row→(∀r,row=some r→W1.heap.size≤r∧∃o:Obj,A.heap[r]?=some o∧o.isWalk=true)→Ko w.heap.size A B:=fun hg' hr=>Ko.grown hg' fun r e=>by
   obtain⟨h1,o,h2,h3⟩:=hr r e
   exact⟨Nat.le_trans (Up.size hU) h1,o,h2,Obj.not_cells_of_walk h3⟩
 have hk1:∀{A B:World}{row:Option Nat}{k:Nat}{o:Obj},A.grownBy B row→(∀r,row=some r→W1.heap.size≤r∧∃o:Obj,A.heap[r]?=some o∧o.isWalk=true)→A.heap[k]?=some o→o.isWalk=false→B.heap[k]?=some o:=fun hg' hr hk ho=>(grownBy_keeps hg' (fun r e=>(hr r e).2) hk ho).trans hk
 have hI1:I [] W1:=⟨s0,hJ,Up.size hU,hS.up hU,Zl fun i hi=>hS.IT hi⟩
 have all:=hit lp (fun pre W=>I pre W∧W.heap[lp]?=some (.loop (rec_ .ready none))∧W.heap[kd]?=some (.deferred (some [])))
   (fun pre W=>∃c,Ix c pre W∧W.heap[lp]?=some (.loop (rec_ .done (some c)))∧W.heap[kd]?=some (.deferred (some []))) W1 hU
   (fun s A B row hs hg' hr=>⟨kI _ _ _ hs.1 (koW hg' hr),hk1 hg' hr hs.2.1 rfl,hk1 hg' hr hs.2.2 rfl⟩)
   (fun s A B row hs hg' hr=>by
     obtain⟨c,hc,h1,h2⟩:=hs
     exact⟨c,kIx _ _ _ _ hc (koW hg' hr),hk1 hg' hr h1 rfl,hk1 hg' hr h2 rfl⟩) ?_ ⟨hI1,rec1,dfr1⟩
 · refine⟨lp,[{ target:=.collected kd,args:=#[] }],W1,{ target:=.fn (.func gf) lb,args:=#[.func (.yield lp) #[] #[]] },W1,gf,#[.func (.yield lp) #[] #[]]++lb,W1,run_enterLoop_outer _ _ _ _ _,?_,fun f' hf'=>?_,?_,fun _=>cQ,?_⟩
   · simp only[resolve,hg]
     simp[go_sem]
   · simp[Target.leads]at hf';subst hf';trivial
   · simp[invoke,go_sem,en]
   have mk:∀{W:World}{s:σ},w.heap.size≤W.heap.size→Sep S0 w0 W (Zs++As s)→KoOk w.heap.size W (Zs++As s)→W.heap[kd]?=some (.deferred (some []))→Sep S0 w0 W (Zs++(As s++[Ll kd])):=fun{W s}hsz h4 h5 hk=>by
     rw[←List.append_assoc]
     refine⟨h4.fr,fun A hA=>?_,List.pairwise_append.2 ⟨h4.apart,List.pairwise_singleton _ _,fun A hA B hB i h6 h7=>?_⟩⟩
     · rcases List.mem_append.1 hA with hA|hA
       · exact h4.each A hA
       rw[List.mem_singleton.1 hA]
       exact⟨hk,fun i(e:i=kd)=>.inr (by rw[e];exact hw0)⟩
     rw[List.mem_singleton.1 hB]at h7
     have e7:i=kd:=h7
     rcases h5 i ⟨A,hA,h6⟩with h8|⟨o,h8,h9⟩
     · rw[e7]at h8;exact Nat.lt_irrefl _ h8
     rw[e7,hk]at h8;cases h8;cases h9
   refine(show CallsIn (FR none) 9 P gf (#[.func (.yield lp) #[] #[]]++lb) W1 _ from all).mono ?_
   rintro e W2 ⟨⟨v,rfl⟩,(⟨xs,hSx,⟨s,h1,h2,h3,h4⟩,hlr,hk⟩|⟨pre,hSp,c,⟨s,h1,h2,h3,h4⟩,hlr,hk⟩)⟩
   · have ko:Ko w.heap.size W2 (W2.putObj lp (.loop (rec_ .exhausted none))):=Ko.putObj _ hlr rfl hlpq
     refine⟨none,W2.putObj lp (.loop (rec_ .exhausted none)),run_endLoop (P:=P) hlr (by simp[rec_]),?_⟩
     exact hdone kd xs s _ (Nat.le_refl _) hSx h1 (Nat.le_trans h2 ko.size) (mk (Nat.le_trans h2 ko.size) (h3.ko h4 ko hw0) (h4.ko ko) ((World.putObj_heap_other hne).trans hk)) _ ⟨by rw[←ha.defers];rfl,ha.size,(ha.world hl _).val⟩
   have ko:Ko w.heap.size W2 (W2.putObj lp (.loop (rec_ .exhausted (some c)))):=Ko.putObj _ hlr rfl hlpq
   refine⟨some c,W2.putObj lp (.loop (rec_ .exhausted (some c))),?_,?_⟩
   · have:=run_endLoop (P:=P) hlr (by simp[rec_])
     exact this
   exact hstop kd c pre s _ (Nat.le_refl _) hSp h1 (Nat.le_trans h2 ko.size) (mk (Nat.le_trans h2 ko.size) (h3.ko h4 ko hw0) (h4.ko ko) ((World.putObj_heap_other hne).trans hk)) _ ⟨by rw[←ha.defers];rfl,ha.size,(ha.world hl _).val⟩
 -- one round
 rintro pre x W ⟨⟨s,hJs,hsz,hSs,hKs⟩,hlr,hk⟩ hlen
 have hy:=run_yield (P:=P) (args:=encs x) hlr (by simp only[rec_];exact hps x)
 refine⟨fn,_,assign,body,hy,roundIn_of_wpIn hfn ?_⟩
 refine wpIn_mono (hassign lp x W a (ha.world hl W)) ?_
 intro e a1 W' hq
 cases e with
 |normal=>
   obtain⟨b,hB,hKB,hA⟩:=hq
   have hU1:=hB.Ch
   have hlr1:W'.heap[lp]?=some (.loop (rec_ .ready none)):=(hU1.block (lt_of_block hlr)).trans hlr
   have hk1':W'.heap[kd]?=some (.deferred (some [])):=(hU1.block (lt_of_block hk)).trans hk
   refine⟨_,run_beginRound hlr1 rfl,?_⟩
   obtain⟨W2,hW2⟩:∃W2,W2=W'.putObj lp (.loop { rec_ .ready none with state:=.busy }):=⟨_,rfl⟩
   rw[←hW2]
   have ko1:Ko w.heap.size W' W2:=by rw[hW2];exact Ko.putObj _ hlr1 rfl hlpq
   have l2:W2.heap[lp]?=some (.loop { rec_ .ready none with state:=.busy }):=by rw[hW2];exact World.putObj_heap_same (lt_of_block hlr1)
   have k2:W2.heap[kd]?=some (.deferred (some [])):=by rw[hW2];exact(World.putObj_heap_other hne).trans hk1'
   have o2:∀i,i≠lp→W2.heap[i]?=W'.heap[i]?:=fun i hi=>by rw[hW2];exact World.putObj_heap_other hi
   have hS1:Sep S0 w0 W' (Zs++(As s++Bx x b)):=by rw[←List.append_assoc];exact hSs.join hB
   have hK1:KoOk w.heap.size W' (Zs++(As s++Bx x b)):=by
     rw[←List.append_assoc]
     refine KoOk.jG.2 ⟨fun i hi=>?_,fun i hi=>(hKB i hi).elim (fun h=>by omega) .inr⟩
     rcases hKs i hi with h1|⟨o,h1,h2⟩
     · exact .inl h1
     exact .inr ⟨o,(hU1.block (lt_of_block h1)).trans h1,h2⟩
   have hS2:=hS1.ko hK1 ko1 hw0
   have hK2:=hK1.ko ko1
   have hsz2:w.heap.size≤W2.heap.size:=Nat.le_trans hsz (Nat.le_trans (Up.size hU1) ko1.size)
   refine wpIn_mono (hbody lp pre x s b W2 hJs hlen hsz2 hS2 hS2.right.self a1 (hA.world (henv x b) _)) ?_
   have fin:∀(s':σ)(Rest:List Asr)(W3:World)(jump:Option Code),Sep (D7 (As s++Bx x b)) W2 W3 (As s'++Rest)→KoOk w.heap.size W3 (As s')→
       ∃W4,(Instr.endRound lp jump).run P W3=.ok (.bool jump.isNone) W4∧w.heap.size≤W4.heap.size∧Sep S0 w0 W4 (Zs++As s')∧KoOk w.heap.size W4 (Zs++As s')∧W4.heap[lp]?=some (.loop (rec_ (if jump.isNone then .ready else .done) jump))∧W4.heap[kd]?=some (.deferred (some []))∧Kx w.heap.size X (fun i=>(S0 i∨w0.heap.size≤i)∧i<w.heap.size∧¬D7 Zs i) W W4:=by
     intro s' Rest W3 jump h5 h6
     have keepN:∀(k:Nat)(o:Obj),w.heap.size≤k→W2.heap[k]?=some o→o.isCells=false→W3.heap[k]?=some o:=fun k o hk' ho hc=>(h5.fr.block k (lt_of_block ho) (fun hf=>by
       rcases(KoOk.jG.1 hK2).2 k hf with h7|⟨o',h7,h8⟩
       · omega
       rw[ho]at h7;cases h7;rw[hc]at h8;cases h8)).trans ho
     have l3:=keepN lp _ hlpq l2 rfl
     have k3:=keepN kd _ (Nat.le_refl _) k2 rfl
     have ko3:∀(o':Obj),Ko w.heap.size W3 (W3.putObj lp o'):=fun o'=>Ko.putObj _ l3 rfl hlpq
     have h7:Sep S0 w0 W3 (Zs++As s'):=(hS2.frame h5).sub (List.Sublist.append_left (List.sublist_append_left _ _) _)
     have h8:KoOk w.heap.size W3 (Zs++As s'):=KoOk.jG.2 ⟨Zl hZlow,h6⟩
     have hr:=run_endRound (P:=P) jump l3
     refine⟨_,hr,Nat.le_trans hsz2 (Nat.le_trans h5.size (ko3 _).size),h7.ko h8 (ko3 _) hw0,h8.ko (ko3 _),World.putObj_heap_same (lt_of_block l3),(World.putObj_heap_other hne).trans k3,?_⟩
     refine⟨(ko3 _).os.trans (h5.fr.os.trans (ko1.os.trans hU1.os)),(ko3 _).tape.trans (h5.fr.tape.trans (ko1.tape.trans hU1.tape)),(ko3 _).output.trans (h5.fr.output.trans (ko1.output.trans hU1.output)),Nat.le_trans (Up.size hU1) (Nat.le_trans ko1.size (Nat.le_trans h5.size (ko3 _).size)),fun k o hk' ho=>?_⟩
     have e1:W'.heap[k]?=some o:=(hU1.block (lt_of_block hk')).trans hk'
     have nlp:k≠lp:=fun e=>by
       subst e
       rw[hlr1]at e1;cases e1
       rcases ho with ho|⟨_,_,ho|ho⟩
       · cases ho.1
       · omega
       cases ho
     have e2:W2.heap[k]?=some o:=(o2 k nlp).trans e1
     have own:∀i,D7 (As s++Bx x b) i→S0 i∨w0.heap.size≤i:=fun i⟨A,hA,hi⟩=>(hS2.each A (List.mem_append_right _ hA)).2 i hi
     have nF:¬D7 (As s++Bx x b) k:=fun hf=>by
       rcases ho with⟨h9,h10⟩|⟨h9,h10,h11⟩
       · refine h10 (hX pre s k hJs ((Mc.1 hf).resolve_right fun⟨A,hA,hi⟩=>?_) ⟨own k hf,fun hz=>hS2.dis hz hf⟩)
         have:=((hB.each A hA).2 k hi).resolve_left id
         have:=lt_of_block hk'
         omega
       rcases(KoOk.jG.1 hK2).2 k hf with h12|⟨o',h12,h13⟩
       · exact h10 ⟨own k hf,h12,fun hz=>hS2.dis hz hf⟩
       rw[e2]at h12;cases h12;rw[h9]at h13;cases h13
     exact(World.putObj_heap_other nlp).trans ((h5.fr.block k (lt_of_block e2) nF).trans e2)
   intro e a2 W3 hp
   cases e with
   |normal=>
     obtain⟨s',Rest,hJ',h5,h6⟩:=hp
     obtain⟨W4,hr,h7,h8,h9,h10,h11,h12⟩:=fin s' Rest W3 none h5 h6
     exact⟨_,_,hr,.inl ⟨rfl,⟨⟨s',hJ',h7,h8,h9⟩,h10,h11⟩,h12⟩⟩
   |ret=>
     obtain⟨s',Rest,hJ',h5,h6⟩:=hp
     obtain⟨W4,hr,h7,h8,h9,h10,h11,h12⟩:=fin s' Rest W3 (some .ret) h5 h6
     exact⟨_,_,hr,.inr ⟨rfl,.ret,⟨s',hJ',h7,h8,h9⟩,h10,h11⟩⟩
   |exit id=>
     obtain⟨s',Rest,hJ',h5,h6⟩:=hp
     obtain⟨W4,hr,h7,h8,h9,h10,h11,h12⟩:=fin s' Rest W3 (some (.exit id)) h5 h6
     exact⟨_,_,hr,.inr ⟨rfl,.exit id,⟨s',hJ',h7,h8,h9⟩,h10,h11⟩⟩
   |goto t=>
     obtain⟨s',Rest,hJ',h5,h6⟩:=hp
     obtain⟨W4,hr,h7,h8,h9,h10,h11,h12⟩:=fin s' Rest W3 (some (.goto t)) h5 h6
     exact⟨_,_,hr,.inr ⟨rfl,.goto t,⟨s',hJ',h7,h8,h9⟩,h10,h11⟩⟩
   |panic ch=>exact hp.elim
   |outgrown=>exact hp.elim
 |ret=>exact hq.elim
 |exit id=>exact hq.elim
 |goto t=>exact hq.elim
 |panic ch=>exact hq.elim
 |outgrown=>exact hq.elim
theorem P0{α σ:Type}{g:Operand}{ps:Array Tmp}{assign body:Code}{gf:Nat}{lb:Array Value}{encs:α→Array Value}{Zs:List Asr}{S0:Nat→Prop}{w0:World}(As:σ→List Asr)(J:List α→σ→Prop)(Jx:Code→List α→σ→Prop)(Bx:α→Nat→List Asr)(env:α→Nat→Env)(s0:σ){S Sp:List α→Prop}{N:Nat}
   (hx:Val l g (.func (.func gf) #[] lb))(en:∀args w,(callFunc gf args).run P w=.ok (.enter gf args) w)(hit:IterS P gf lb encs (fun i=>(S0 i∨w0.heap.size≤i)∧¬D7 Zs i) (fun i=>(S0 i∨w0.heap.size≤i)∧i<w.heap.size∧¬D7 Zs i) S Sp N w)(hps:∀x,(encs x).size=ps.size)(hl:Cj l=true)(henv:∀x b,Cj (env x b)=true)
   (hS:Sep S0 w0 w (Zs++As s0))(hJ:J [] s0)
   (hassign:∀(lp:Nat)(x:α)(W:World)(a:Go.Act),Ag n ds l a W→assign.wpIn (FR (some lp)) 8 P (Exit.then (fun a' W'=>∃b,Sep no W W' (Bx x b)∧KoOk 0 W' (Bx x b)∧Ag n [] (env x b) a' W') (fun _ _ _=>False)) { tmps:=(ps.zip (encs x)).foldl (fun t(p,v)=>t.setIfInBounds p v) a.tmps,defers:=[] } W)
   (hbody:∀(lp:Nat)(pre:List α)(x:α)(s:σ)(b:Nat)(W:World),J pre s→pre.length<N→w.heap.size≤W.heap.size→Sep S0 w0 W (Zs++(As s++Bx x b))→Sep (D7 (As s++Bx x b)) W W (As s++Bx x b)→
     CW (some lp) 8 P n [] body (Zm (fun W'=>∃s' Rest,J (pre++[x]) s'∧Sep (D7 (As s++Bx x b)) W W' (As s'++Rest)∧KoOk w.heap.size W' (As s')) (fun c W'=>∃s' Rest,Jx c (pre++[x]) s'∧Sep (D7 (As s++Bx x b)) W W' (As s'++Rest)∧KoOk w.heap.size W' (As s'))) (env x b) W)
   (hdone:∀(D:Nat)(ys:List α)(s:σ)(W:World),w.heap.size≤D→S ys→J ys s→w.heap.size≤W.heap.size→Sep S0 w0 W (Zs++(As s++[Ll D]))→KW n ({ target:=.collected D,args:=#[] }::ds) (Q .normal) l W)
   (hstop:∀(D:Nat)(c:Code)(pre:List α)(s:σ)(W:World),w.heap.size≤D→Sp pre→Jx c pre s→w.heap.size≤W.heap.size→Sep S0 w0 W (Zs++(As s++[Ll D]))→CW none 10 P n ({ target:=.collected D,args:=#[] }::ds) c Q l W):
   CW none 10 P n ds (.rangeFunc g ps assign body) Q l w:=
 Oc _ As J Jx Bx env s0 (fun _ _ _ _ _ h=>h) hx en hit hps hl henv hS hJ hassign hbody hdone hstop
theorem pP{id:Nat}{opsL:List Oper}(G:Bool→World→Prop)(k h:Nat)(early late:List Nat)(phs:List Ph)(keep:List Nat)(K:World→World→Prop)(hm:P.follows .mixedOrders=true)(hl:Cj l=true)
   (hA:Dv opsL.toArray=true)(hC:(Nat.beq k opsL.toArray.size||Fh opsL.toArray k)=true)(hF:Iu opsL.toArray k=true)(hks:Nat.ble k opsL.toArray.size=true)(hD:Gr n opsL.toArray 0 k=true)(hTl:Gc opsL.toArray k=true)
   (hfree:Jd l (opsL.take k)=true)(hla:N8 opsL.toArray [h] late=true)(hea:Lj opsL.toArray [h] early=true)(hus:pK opsL.toArray k h early=true)(hph:allU phs)(hkp:keptL K (h::(early++late)) 0 phs)
   (hG0:G false w.drew)(hGU:∀b W W',G b W→Up W W'→G b W')
   (hop:∀b W,G b W→allL (fun i o=>o.guard=none∧(i≠h→TU P n ds (Ju opsL.toArray (fun i=>phs.getD i (.eq undef)) 0 o++l) W o (phs.getD i (.eq undef)))∧
     (i=h→b=false→∀a,Ag n ds (Ju opsL.toArray (fun i=>phs.getD i (.eq undef)) 0 o++l) a W→iJ P o a W (fun v W'=>(G true W'∧K W W')∧(phs.getD i (.eq undef)).holds v W'))) 0 (opsL.take k))
   (hend:∀b W(g:Nat→Value),G b W→(∀i o d,i<k→early.contains i=false→opsL[i]?=some o→o.dst=some d→(phs.getD i (.eq undef)).holds (g d) W)→LW R m P n ds opsL.toArray Q (opsL.drop k) (keep.map (fun d=>(d,.eq (g d)))++l) W):
   CW R m P n ds (.region id opsL.toArray true) Q l w:=by
 have hks':k≤opsL.length:=by have:=Nat.le_of_ble_eq_true hks;simp at this;omega
 have sub:∀j o,j<k→opsL.toArray[j]?=some o→(opsL.take k)[j]?=some o:=fun j o hjk ho=>by
   rw[List.getElem?_take_of_lt hjk];simpa using ho
 have hbd:∀i ph,lk l i=some ph→∀(j:Nat)(o:Oper),0≤j→j<k→opsL.toArray[j]?=some o→o.dst≠some i:=fun i ph hi j o _ hjk ho=>Fw hfree hi (List.mem_of_getElem? (sub j o hjk ho))
 refine Ep hm hl fun fuel listed a hf hu ha=>(Ht (k:=k) (fun _=>.pred fun _ _=>True) (fun _ _=>True) (fun L f W=>G (L h) W∧∀(j:Nat)(o:Oper)(d:Nat),j<k→L j=true→opsL.toArray[j]?=some o→o.dst=some d→(early.contains j=true→L h=false)→(phs.getD j (.eq undef)).holds (f d) W) (f0:=fun t=>a.tmps.getD t undef) (fun _=>trivial) (fun _ _ _ _ _=>trivial) (fun _ _ _ _ _ _=>trivial) hA hC hF hks (by simp) hD hl hbd ?_ ⟨hG0,fun j o d _ hj=>by simp at hj⟩ ?_ fuel listed a hf hu ha (fun _=>rfl))
 · intro i o _ hi hio L f W _ hDn hLi hed hInv a ha hsl
   obtain⟨hU,hI⟩:=hInv
   have ha2:Ag n ds (Ju opsL.toArray (fun i=>phs.getD i (.eq undef)) 0 o++l) a W:=by
     refine⟨ha.defers,ha.size,fun t q ht=>?_⟩
     rcases C6 ht with h1|h1
     · obtain⟨e,he,hb,_,p,hp,hpd,rfl⟩:=Ri h1
       rw[hsl]
       refine hI e.on p t (by have:=Di hA hio e he hb;omega) (hed e he hb) hp hpd (fun hE=>?_)
       by_cases ih:i=h
       · rw[←ih];exact hLi
       have h2:=List.all_eq_true.1 hus i (List.mem_range.2 hi)
       rw[Bool.or_eq_true,Bool.or_eq_true]at h2
       rcases h2 with(h2|h2)|h2
       · exact absurd (Nat.eq_of_beq_eq_true h2) ih
       · cases hLh:L h with
         |false=>rfl
         |true=>
           have:=Sj hDn hea (fun m hm=>by rw[List.mem_singleton.1 hm];exact hLh) i (by simpa using h2)
           rw[hLi]at this;cases this
       rw[hio]at h2
       have h3:=Array.all_eq_true_iff_forall_mem.1 h2 e he
       rw[hb,hE]at h3
       cases h3
     refine ha.val t q ?_
     rw[Fb]
     · exact h1
     cases hq:lk (Ju opsL.toArray (fun _=>Ph.pred fun _ _=>True) 0 o) t with
     |none=>rfl
     |some q'=>
       obtain⟨e,he,hb,_,p,hp,hpd,_⟩:=Ri hq
       exact absurd hpd (hbd t q h1 e.on p (Nat.zero_le _) (by have:=Di hA hio e he hb;omega) hp)
   have h3:=(hop _ W hU).at (sub i o hi hio)
   rw[Nat.zero_add]at h3
   obtain⟨hg,h3,h4⟩:=h3
   rw[if_pos (by simp[Region.wanted,hg])]
   by_cases ih:i=h
   · have done:∀v W',(G true W'∧K W W')∧(phs.getD i (.eq undef)).holds v W'→True∧(∀d,o.dst=some d→(Ph.pred fun _ _=>True).holds v W')∧G (Cq L i h) W'∧∀(j:Nat)(o':Oper)(d:Nat),j<k→Cq L i j=true→opsL.toArray[j]?=some o'→o'.dst=some d→(early.contains j=true→Cq L i h=false)→(phs.getD j (.eq undef)).holds (D0 f o.dst v d) W':=by
       rintro v W' ⟨⟨hu,hk⟩,hv⟩
       refine⟨trivial,fun _ _=>trivial,by rw[show Cq L i h=true from by simp[Cq,ih]];exact hu,fun j o' d hj hLj hj' hd hE=>?_⟩
       by_cases e:j=i
       · subst e
         rw[hio]at hj';cases hj'
         simpa[D0,hd]using hv
       have h5:L j=true:=by simpa[Cq,e]using hLj
       have h6:D0 f o.dst v d=f d:=by
         have:=(C8 hD (Nat.zero_le _) hj hj' hd).2 i o (Nat.zero_le _) hi (Ne.symm e) hio
         simp[D0,this]
       rw[h6]
       have h7:early.contains j=false:=by
         cases hc:early.contains j with
         |false=>rfl
         |true=>have:=hE hc;simp[Cq,ih]at this
       have h8:late.contains j=false:=by
         cases hc:late.contains j with
         |false=>rfl
         |true=>
           have:=Wp (h:=h) hDn hla (fun m hm h2=>(List.mem_singleton.1 hm)▸h2) j (by simpa using hc) h5
           rw[←ih,hLi]at this;cases this
       refine hkp.at j ?_ _ W W' (hI j o' d hj h5 hj' hd (fun hc=>by rw[h7]at hc;cases hc)) hk
       rw[Nat.zero_add,Bool.eq_false_iff]
       intro hc
       rw[List.contains_iff_mem,List.mem_cons,List.mem_append]at hc
       rcases hc with hc|hc|hc
       · exact e (hc.trans ih.symm)
       · rw[←List.contains_iff_mem,h7]at hc;cases hc
       rw[←List.contains_iff_mem,h8]at hc;cases hc
     rcases h4 ih (by rw[←ih];exact hLi) a ha2 with⟨v,W',hr,hp⟩|⟨fn,args,w1,hr,hc⟩
     · exact .inl (.inl ⟨v,W',hr,done v W' hp⟩)
     exact .inl (.inr ⟨fn,args,w1,hr,hc.mono done⟩)
   have done:∀v W',Up W W'∧(phs.getD i (.eq undef)).holds v W'→True∧(∀d,o.dst=some d→(Ph.pred fun _ _=>True).holds v W')∧G (Cq L i h) W'∧∀(j:Nat)(o':Oper)(d:Nat),j<k→Cq L i j=true→opsL.toArray[j]?=some o'→o'.dst=some d→(early.contains j=true→Cq L i h=false)→(phs.getD j (.eq undef)).holds (D0 f o.dst v d) W':=by
     rintro v W' ⟨hu,hv⟩
     refine⟨trivial,fun _ _=>trivial,by rw[show Cq L i h=L h from by simp[Cq,Ne.symm ih]];exact hGU _ _ _ hU hu,fun j o' d hj hLj hj' hd hE=>?_⟩
     by_cases e:j=i
     · subst e
       rw[hio]at hj';cases hj'
       simpa[D0,hd]using hv
     have h5:L j=true:=by simpa[Cq,e]using hLj
     have h6:D0 f o.dst v d=f d:=by
       have:=(C8 hD (Nat.zero_le _) hj hj' hd).2 i o (Nat.zero_le _) hi (Ne.symm e) hio
       simp[D0,this]
     rw[h6]
     exact hph.at j _ W W' (hI j o' d hj h5 hj' hd (fun hc=>by have:=hE hc;simpa[Cq,Ne.symm ih]using this)) hu
   rcases h3 ih a ha2 with⟨v,W',hr,hp⟩|⟨fn,args,w1,hr,hc⟩
   · exact .inl (.inl ⟨v,W',hr,done v W' hp⟩)
   exact .inl (.inr ⟨fn,args,w1,hr,hc.mono done⟩)
 intro f W _ hInv fuel' listed' a' hf' hu' ha' hsl'
 obtain⟨hUp,hI⟩:=hInv
 have key:∀i o d,i<k→early.contains i=false→opsL[i]?=some o→o.dst=some d→(phs.getD i (.eq undef)).holds (f d) W:=fun i o d hik hE ho hd=>hI i o d hik (by simpa using hik) (by simpa using ho) hd (fun hc=>by rw[hE]at hc;cases hc)
 refine Et hTl hA (opsL.toArray.size-k) k fuel' listed' a' W rfl (by simp;omega) (Nat.le_refl _) hf' hu' (hend _ W f hUp key a' ⟨ha'.defers,ha'.size,fun t q ht=>?_⟩)
 rcases C6 ht with h|h
 · obtain⟨d,_,he⟩:=List.mem_map.1 (J0 h)
   cases he
   exact hsl' _
 refine ha'.val t q ?_
 rw[Fb]
 · exact h
 cases hq:lk (Hj opsL.toArray (fun _=>Ph.pred fun _ _=>True) 0 k) t with
 |none=>rfl
 |some q'=>
   obtain⟨j,p,_,hjk,hp,hpd,_⟩:=E6 hq
   exact absurd hpd (hbd t q h j p (Nat.zero_le _) hjk hp)
end
end Go.Wx
namespace Go.Wx
theorem OwnS.zP{α:Type}{w:World}{b e k:Nat}{enc:α→Array Value}{v:Value}{xs:List α}(h:OwnS w b e k enc v xs)(hk:∀x,(enc x).size=k):v.oneCell'=true:=by
 obtain⟨ad,cp,rfl,_⟩:=h.sl hk
 rfl
theorem Ve{S0:Nat→Prop}{w0 w:World}{Bs As:List Asr}{A:Asr}(h:Sep S0 w0 w (Bs++[D5 As,A])):Sep S0 w0 w (Bs++[D5 (As++[A])]):=by
 have h1:=Sep.unfold (Bs:=Bs) (As:=As) (rest:=[A]) h
 have h2:=Ie (Bs:=Bs) (As:=As++[A]) (rest:=[]) (by simpa using h1)
 exact h2
theorem H6(ks:List Int):(F3 ks).length=ks.length:=List.length_mergeSort _
theorem Lm(ls ps ss:List Fact):(Cv ls ps ss).length≤ls.length+ps.length:=by
 unfold Cv
 rw[H6]
 exact Nat.le_trans (List.length_filter_le Ei _) (Nat.le_trans (Ze ss (Qb ls) ps) (Nat.add_le_add_right (Zd ls) _))
theorem Od(V:List (Int×Bool)):(C2 V).2.length≤V.length:=by
 unfold C2
 split
 · rw[List.length_map];exact List.length_filter_le _ _
 split
 · exact Nat.zero_le _
 rw[List.length_map];exact Nat.le_refl _
theorem pQ(tV ti:TypeId){w0 w:World}{As:List Asr}(h:Sep no w0 w As):Sep no w0 w [J tV 3 VP.cells (.slice none 0 0) [],D5 (Kp ti [])]:=by
 have h1:=((h.take 0).add (Up.refl _) (A':=J tV 3 VP.cells (.slice none 0 0) []) (OwnS.nil _ _ _ _ _) (by intro i h;cases h)).add (Up.refl _) (A':=D5 (Kp ti [])) ⟨by simp[Kp],by simp[Kp]⟩ (by rintro i ⟨A,hA,_⟩;simp[Kp]at hA)
 exact h1
theorem Sr(L:List (Int×Bool))(id:Int)(s:Bool):(G3 L id s).length≤L.length+1:=by
 unfold G3
 split
 · rw[List.length_map];exact Nat.le_succ _
 rw[List.length_append];exact Nat.le_refl _
theorem Vf{D:List WE}{w w':World}{j:Nat}{A A':Asr}(h:(D5 ((D.map Xc).set j A)).holds w)(hj:j<D.length)(s:Stp A A' w w'):Stp (D5 ((D.map Xc).set j A)) (D5 ((D.map Xc).set j A')) w w':=by
 have h2:=La h (List.getElem?_set_self (by rw[List.length_map];exact hj)) s
 rwa [List.set_set]at h2
theorem pR{b r:Nat}{kv:List (Int×Value)}{done:List Int}{w:World}(h:IRng w b r kv done):Stp (Fi b r kv done) (Bu b kv) w w:=⟨Fr.refl _ _,h.map,fun _ e=>.inl (.inl e)⟩
theorem pS(V:List (Int×Bool)):0≤(C2 V).1∧(C2 V).1≤2:=by
 unfold C2
 split
 · exact⟨show(0:Int)≤2 by decide,show(2:Int)≤2 by decide⟩
 split
 · exact⟨show(0:Int)≤0 by decide,show(0:Int)≤2 by decide⟩
 exact⟨show(0:Int)≤1 by decide,show(1:Int)≤2 by decide⟩
structure I3 where
 a:Int
 b:Int
 c:Int
def I3.cells(x:I3):Array Go.Value:=#[vi x.a,vi x.b,vi x.c]
structure I4 where
 a:Int
 b:Int
 c:Int
 d:Int
def I4.cells(x:I4):Array Go.Value:=#[vi x.a,vi x.b,vi x.c,vi x.d]
def Ln(y:I4):Exc:=⟨Bi y.a 3,0,Bi y.b 60,wI (Bi y.b 60+Bi y.c 30),Bi y.d 6⟩
def Ss(k:Nat)(y:I3):Fact:={ Pw with Kind:=11,Version:=1,ID:=1+(k:Int),Tool:=Bi y.a 3,Time:=Bi y.b 60,Until:=wI (Bi y.b 60+Bi y.c 20) }
def Io(ys:List I3):Nat→List Fact
 |0=>[]
 |k+1=>Io ys k++(match ys[k]? with|some y=>[Ss k y]|none=>[])
def Zn(ys:List I3):List Fact:=Io ys (min ys.length 5)
theorem dE{ys:List I3}{k:Nat}{y:I3}(h:ys[k]?=some y):Io ys (k+1)=Io ys k++[Ss k y]:=by
 show Io ys k++_=_
 rw[h]
theorem Vg(ys:List I3)(k:Nat):(Io ys k).length≤k:=by
 induction k with
 |zero=>exact Nat.le_refl 0
 |succ k ih=>
   show(Io ys k++_).length≤_
   rw[List.length_append]
   cases ys[k]? with
   |none=>show _+0≤_;omega
   |some y=>show _+1≤_;omega
theorem Vh(ys:List I3):(Zn ys).length≤5:=Nat.le_trans (Vg _ _) (Nat.min_le_right _ _)
theorem Pb{α:Type}{enc:α→Array Go.Value}{k:Nat}(hk:∀x,(enc x).size=k):∀xs:List α,(xs.flatMap fun x=>(enc x).toList).length=xs.length*k
 |[]=>by simp
 |x::xs=>by rw[List.flatMap_cons,List.length_append,Pb hk xs,Array.length_toList,hk,List.length_cons,Nat.add_mul];omega
theorem kO{α:Type}{enc:α→Array Go.Value}{k i:Nat}(hk:∀x,(enc x).size=k){xs:List α}(hi:i≤xs.length):(xs.flatMap fun x=>(enc x).toList).take (i*k)=(xs.take i).flatMap fun x=>(enc x).toList:=by
 have hl:((xs.take i).flatMap fun x=>(enc x).toList).length=i*k:=by rw[Pb hk,List.length_take,Nat.min_eq_left hi]
 rw[show(xs.flatMap fun x=>(enc x).toList)=((xs.take i).flatMap fun x=>(enc x).toList)++((xs.drop i).flatMap fun x=>(enc x).toList)by rw[←List.flatMap_append,List.take_append_drop],←hl,List.take_left']
 rfl
section
variable {P:Program}{n:Nat}{ds:List Deferred}{l:Env}{w:World}{d:Option Tmp}{ty:TypeId}{ps:String}{af:Array Edge}{g:Option (Nat×Bool)}
theorem T9{α:Type}{enc:α→Array Go.Value}{T e:TypeId}{k i cp:Nat}{x:Operand}{z:Go.Value}{ad:Option Addr}{xs:List α}(hT:P.underlying T=some (.slice e))(hz:∀w,(zeroValue e).run P w=.ok z w)(hzs:z.cells.size=k)(h1:z.cells.all (·.oneCell')=true)(hk:∀x,(enc x).size=k)
   (hx:Val l x (.slice (if cp=i then ad else ad.map (·.add (i*k))) (xs.length-i) (cp-i)))(hi:i≤xs.length)(ho:OwnS w 0 e k enc (.slice ad xs.length cp) xs):
   REv P n ds l w ⟨d,.call { callee:=.builtin .clear,args:=#[x],argTypes:=#[T] },ty,ps,af,g⟩ (fun _ w'=>Stp (J e k enc (.slice ad xs.length cp) xs) (J e k enc (.slice ad i cp) (xs.take i)) w w'):=fun a ha=>by
 by_cases h0:xs.length-i=0
 · have hie:i=xs.length:=by omega
   subst hie
   refine⟨.tuple #[],w,?_,Fr.refl _ _,(show OwnS w 0 e k enc (.slice ad xs.length cp) (xs.take xs.length)by rw[List.take_length];exact ho),fun i h=>.inl h⟩
   have hx':=ha.ev hx
   rw[h0]at hx'
   simp only[execOp,resolve,invoke,builtin,Builtin.clear_]
   split at hx'<;>(try cases ad)<;>simp[hx',run_underlying hT,Result.andThen]
 obtain⟨hlen,⟨he,hn⟩|⟨g',cap',cur,he,_,hg,hcap,hcm,hcs,htake⟩⟩:=ho
 · exact absurd hn oQ
 cases he
 rw[if_neg (show ¬cp=i by omega)]at hx
 have hzc:(Builtin.zeroCells z.cells (xs.length-i)).size=(xs.length-i)*k:=by rw[←hzs];simp[Builtin.zeroCells]
 have hle:xs.length*k≤cur.size:=by rw[hcs];exact Nat.mul_le_mul_right k hcap
 have hsum:i*k+(xs.length-i)*k=xs.length*k:=by rw[←Nat.add_mul];congr 1;omega
 have hst:=run_storeCells_at P g' (i*k) e (Builtin.zeroCells z.cells (xs.length-i)).toList 0 cur w hg (by rw[Array.length_toList,hzc];omega) (fun u hu=>by
   simp only[Builtin.zeroCells,Array.toList_map,List.mem_map]at hu
   obtain⟨i,_,rfl⟩:=hu
   by_cases hk:z.cells.size=0
   · have:z.cells=#[]:=Array.eq_empty_of_size_eq_zero hk
     simp[this]at*
   have hlt:i%z.cells.size<z.cells.size:=Nat.mod_lt _ oQ
   rw[getElem!_pos z.cells _ hlt]
   exact Array.all_eq_true_iff_forall_mem.1 h1 _ (Array.getElem_mem hlt))
 refine⟨.tuple #[],w.setRow g' (cur.toList.take (i*k+0)++(Builtin.zeroCells z.cells (xs.length-i)).toList++cur.toList.drop (i*k+0+(Builtin.zeroCells z.cells (xs.length-i)).toList.length)).toArray,?_,⟨rfl,rfl,rfl,by simp,fun i hi hne=>setRow_other w g' i _ (fun e=>hne (by rw[e];rfl))⟩,?_,fun i h=>.inl h⟩
 · obtain⟨m,hm⟩:∃m,xs.length-i=m+1:=⟨xs.length-i-1,by omega⟩
   rw[hm]at hst hx⊢
   have ead:(⟨g',0,none⟩:Addr).add (i*k)=⟨g',i*k,none⟩:=by
     unfold Addr.add
     by_cases h:i*k=0<;>simp[h]
   simp only[Option.map_some]at hx
   rw[ead]at hx
   simp[execOp,resolve,invoke,builtin,ha.ev hx,Builtin.clear_,run_underlying hT,Result.andThen,hz]
   rw[hst]
   simp
 show OwnS _ 0 e k enc (.slice (some ⟨g',0,none⟩) i cp) (xs.take i)
 have hf:=kO hk hi
 refine⟨by rw[Pb hk,List.length_take,Nat.min_eq_left hi],.inr ⟨g',cp,_,by rw[List.length_take,Nat.min_eq_left hi],Nat.zero_le _,setRow_heap w g' cur _ e (0,0) hg,by rw[List.length_take];omega,hcm,?_,?_⟩⟩
 · simp only[List.size_toArray,List.length_append,List.length_take,List.length_drop,Array.length_toList,hzc]
   omega
 rw[List.length_take,Nat.min_eq_left hi,←hf,←htake]
 simp only[Nat.add_zero,List.append_assoc]
 rw[List.take_append_of_le_length (by rw[List.length_take,Array.length_toList];omega),List.take_take,List.take_take]
 congr 1
 omega
theorem PEv.uG{T T' e:TypeId}{x:Operand}{ad:Option Addr}{m c:Nat}(hT:P.underlying T=some (.slice e))(hx:Val l x (.slice ad m c)):PEv P n ds l w ⟨d,.binOp .eql T x (.const (.slice none 0 0)) T',ty,ps,af,g⟩ (.bool ad.isNone):=fun a w' ha _=>by
 refine Ci ?_
 have e1:a.eval (.const (.slice none 0 0))=.slice none 0 0:=rfl
 rw[ha.ev hx,e1,Sem.run_bind]
 have:(eqGuard .eql T x (.const (.slice none 0 0)) (.slice ad m c) (.slice none 0 0)).run P w'=.ok () w':=by unfold eqGuard;rfl
 rw[this]
 exact Lib.run_eql_slice_nil w' T e ad m c 0 0 hT
end
def Hq{α:Type}(p:α→Bool)(l:List α)(j:Nat):List α:=(l.take j).filter fun x=> !p x
theorem Pc{α:Type}(p:α→Bool)(l:List α)(j:Nat):(Hq p l j).length≤j:=Nat.le_trans (List.length_filter_le _ _) (by rw[List.length_take];omega)
theorem P1{α:Type}{p:α→Bool}{l:List α}{k:Nat}{x:α}(hx:l[k]?=some x)(hp:p x=true)(hn:∀y∈l.take k,p y=false):Hq p l (k+1)=l.take k:=by
 unfold Hq
 rw[Ce hx,List.filter_append,List.filter_cons_of_neg (by rw[hp];decide),List.filter_nil,List.append_nil]
 exact List.filter_eq_self.2 fun y hy=>by rw[hn y hy];rfl
theorem Vi{α:Type}{p:α→Bool}{l:List α}{k:Nat}{x:α}(hx:l[k]?=some x)(hp:p x=false):Hq p l (k+1)=Hq p l k++[x]:=by
 unfold Hq
 rw[Ce hx,List.filter_append,List.filter_cons_of_pos (by rw[hp];rfl),List.filter_nil]
theorem Zo{α:Type}{p:α→Bool}{l:List α}{k:Nat}{x:α}(hx:l[k]?=some x)(hp:p x=true):Hq p l (k+1)=Hq p l k:=by
 unfold Hq
 rw[Ce hx,List.filter_append,List.filter_cons_of_neg (by rw[hp];decide),List.filter_nil,List.append_nil]
theorem dG{α:Type}{p:α→Bool}{l:List α}(hn:∀y∈l,p y=false):(l.filter fun x=> !p x)=l:=List.filter_eq_self.2 fun y hy=>by rw[hn y hy];rfl
structure DelX{α:Type}(p:α→Bool)(l M:List α)(j:Nat):Prop where
 len:M.length=l.length
 kept:M.take (Hq p l j).length=Hq p l j
 rest:∀m,j≤m→M[m]?=l[m]?
theorem DelX.start{α:Type}{p:α→Bool}{l:List α}{k:Nat}{x:α}(hx:l[k]?=some x)(hp:p x=true)(hn:∀y∈l.take k,p y=false):DelX p l l (k+1):=by
 have hk:k<l.length:=(List.getElem?_eq_some_iff.1 hx).1
 refine⟨rfl,?_,fun _ _=>rfl⟩
 rw[P1 hx hp hn,List.length_take,Nat.min_eq_left (by omega)]
theorem DelX.no{α:Type}{p:α→Bool}{l M:List α}{j:Nat}{x:α}(h:DelX p l M j)(hx:l[j]?=some x)(hp:p x=true):DelX p l M (j+1):=
 ⟨h.len,by rw[Zo hx hp];exact h.kept,fun m hm=>h.rest m oQ⟩
theorem DelX.yes{α:Type}{p:α→Bool}{l M:List α}{j:Nat}{x:α}(h:DelX p l M j)(hx:l[j]?=some x)(hp:p x=false):DelX p l (M.set (Hq p l j).length x) (j+1):=by
 have hj:j<l.length:=(List.getElem?_eq_some_iff.1 hx).1
 have hk:=Pc p l j
 have hM:=h.len
 refine⟨by rw[List.length_set,hM],?_,fun m hm=>?_⟩
 · rw[Vi hx hp,List.length_append,List.length_singleton,List.take_succ_eq_append_getElem (by rw[List.length_set];omega),List.getElem_set_self,List.take_set_of_le (Nat.le_refl _),h.kept]
 rw[List.getElem?_set_ne (by omega)]
 exact h.rest m oQ
theorem kP{α:Type}{p:α→Bool}{l:List α}:Hq p l l.length=l.filter fun x=> !p x:=by unfold Hq;rw[List.take_length]
theorem OwnS.JN{α:Type}{enc:α→Array Go.Value}{b k m cp:Nat}{e:TypeId}{w:World}{ad:Option Addr}{xs:List α}(h:OwnS w b e k enc (.slice ad m cp) xs):xs.length≤cp:=by
 obtain⟨_,⟨he,hn⟩|⟨g',cap,cur,he,_,_,hcap,_⟩⟩:=h
 · cases he;omega
 cases he;exact hcap
def uH{α:Type}(p:α→Bool)(l:List α)(i:Int):Prop:=(∃(k:Nat)(x:α),i=((k:Nat):Int)∧l[k]?=some x∧p x=true∧∀y∈l.take k,p y=false)∨(i= -1∧∀y∈l,p y=false)
theorem Ki{α:Type}{p:α→Bool}{l:List α}{k:Nat}{x:α}(h:l[k]?=some x)(hk:∀y∈l.take k,p y=false)(hx:p x=false):∀y∈l.take (k+1),p y=false:=fun y hy=>by
 rw[List.take_add_one,h]at hy
 rcases List.mem_append.1 hy with hy|hy
 · exact hk y hy
 cases List.mem_singleton.1 hy;exact hx
def Bj(p:VP):Bool:=decide (p.vd.t=1)
def xI(L:List VP):List Int:=(L.filter Bj).map (·.vd.w)
theorem dH{L:List VP}{k:Nat}{p:VP}(h:(L.filter Bj)[k]?=some p):((L.filter Bj).take (k+1)).map (·.vd.w)=((L.filter Bj).take k).map (·.vd.w)++[p.vd.w]:=by rw[Ce h,List.map_append];rfl
theorem kR(L:List VP):(L.filter fun x=> !(!Bj x))=L.filter Bj:=by simp only[Bool.not_not]
theorem uI{xs:List Int}{n i:Int}(h:uH (fun x=>decide (n=x)) xs i):decide (0≤i)=decide (n∈xs):=by
 rcases h with⟨k,x,rfl,hx,hp,_⟩|⟨rfl,hn⟩
 · have:=of_decide_eq_true hp
   subst this
   rw[decide_eq_true (List.mem_of_getElem? hx)]
   exact decide_eq_true oQ
 rw[decide_eq_false fun hm=>absurd (hn n hm) (by simp)]
 rfl
end Go.Wx
namespace Go.Proofs.YtdilcdgjklimoaaGreatDoor
open Go.Proofs.Tryz
open Go.Wx Go.RowKit
def zS(q:MC):Cnd:=⟨85,#[.pointer (some ⟨q.bl,0,none⟩),.pointer (some ⟨q.bt,0,none⟩),.pointer (some ⟨q.bf,0,none⟩)],q.p⟩
def Ha(q:MC):Array Go.Value:=(zS q).cells
theorem zT(q:MC):(Ha q).all (·.oneCell')=true:=by simp[Ha,Cnd.cells,Cnd.v,Value.oneCell']
theorem FH{Q:List MC}{w:World}(h:(cW 3 Q).holds w):pG Tryz.prog w (Q.map zS):=fun c hc=>by
 obtain⟨q,hq,rfl⟩:=List.mem_map.1 hc
 obtain⟨h1,h2,h3⟩:=Wq (Sm h q hq)
 exact⟨85,_,rfl,xY,fun W u x=>Nc x q.f q.t q.l q.bl q.bt q.bf W (h1.up u) (h2.up u) (h3.up u)⟩
theorem zV{w:World}{ad:Option Addr}{Q:List MC}(h:Els w ad 1 Ha Q):Els w ad 1 Cnd.cells (Q.map zS):=fun i c hc=>by
 rw[List.getElem?_map]at hc
 obtain⟨q,hq,rfl⟩:=Option.map_eq_some_iff.1 hc
 exact h i q hq
theorem Zp(x:Fact)(B:Nat)(ad:Option Addr)(cp:Nat)(Q:List MC)(w:World)(hB:Blk w B #[.slice ad Q.length cp] 95)(hE:Els w ad 1 Ha Q)(hl:Q.length≤100000)(hq:(cW 3 Q).holds w):Ret prog 86 #[.agg x.cells,.pointer (some ⟨B,0,none⟩)] w fun r w'=>r=.bool (Q.any fun q=>q.p x)∧Up w w':=
 (Zh x B ad cp (Q.map zS) w (by rw[List.length_map];exact hB) (zV hE) (by rw[List.length_map];exact hl) (FH hq)).mono fun _ _ h=>⟨h.1.trans (by rw[List.any_map];rfl),h.2⟩
set_option maxRecDepth 4000 in
theorem xJ(a b:Plc)(w:World):(Op.equalIn 10000 91 (.agg a.cells) (.agg b.cells)).run Tryz.prog w=.ok (cY a b) w:=by
 have hf:Tryz.prog.underlying 91=some (.struct (Tryz.prog.fieldsOf 91)):=by rw[Program.fieldsOf,underlying91]
 rw[run_equalIn_agg w 9999 91 _ _ hf stoodInHeld91]
 rw[Program.fieldsOf,underlying91]
 dsimp only
 iterate 2 (refine Qy cQ isAgg3 rfl rfl (run_equalIn_int w 9998 _ _ _ _ _ underlying3) ?_)
 rfl
theorem Nf(f t l:Int)(w:World):Ret prog 27 #[vi f,vi t,vi l] w fun r0 w'=>∃bl bt bf,r0=(zS ⟨f,t,l,bl,bt,bf⟩).v∧Wx.Sep no w w' [kH 3 ⟨f,t,l,bl,bt,bf⟩]:=by
 obtain⟨w0,rfl,hS⟩:=W0 w
 refine cT 8 func27 rfl (Af (Ao (.Km (.t rfl) rfl) rfl ?_))
 rintro _ w1 ⟨B3,rfl,NB3⟩
 replace hS:=hS.Cg NB3
 refine Ao (.Km (.t rfl) rfl) rfl ?_
 rintro _ w2 ⟨B4,rfl,NB4⟩
 replace hS:=hS.Cg NB4
 refine Ao (.Km (.t rfl) rfl) rfl ?_
 rintro _ w3 ⟨B5,rfl,NB5⟩
 replace hS:=hS.Cg NB5
 refine Az (Am (Aa (U (.makeFunc (.ct rfl (.ct rfl (.cu rfl)))) (LW.A rfl (Ai (Al (KW.q ?_)))))))
 replace hS:=(hS.Gl 1 rfl).Gl 0 rfl
 exact⟨B5,B4,B3,rfl,Ie (Bs:=[]) (As:=[Bq B5 #[vi l] 3,Bq B4 #[vi t] 3,Bq B3 #[vi f] 3]) (rest:=[]) hS⟩
theorem Zq(ad:Option Addr)(k cp:Nat)(w:World):Ret prog 28 #[.slice ad k cp] w fun r0 w'=>∃B,r0=.func (.func 86) #[] #[.pointer (some ⟨B,0,none⟩)]∧Wx.Sep no w w' [Bq B #[.slice ad k cp] 95]:=by
 obtain⟨w0,rfl,hS⟩:=W0 w
 refine cT 4 func28 rfl (Af (Ao (.Km (.t rfl) rfl) rfl ?_))
 rintro _ w1 ⟨B1,rfl,NB1⟩
 replace hS:=hS.Cg NB1
 refine Az (Am (Aa (U (.makeFunc (.cu rfl)) (LW.A rfl (Ai (Al (KW.q ?_)))))))
 exact⟨B1,rfl,hS⟩
theorem Vj(v:Go.Value)(ks:List Int)(w:World)(h:OwnS w 0 3 1 A5 v ks)(hlen:ks.length<4611686018427387904):Ret prog 30 #[v] w fun r w'=>r=.tuple #[]∧Stp (J 3 1 A5 v ks) (J 3 1 A5 v (ks.mergeSort fun x y=>decide (x≤y))) w w':=by
 have h0:=h
 obtain⟨h1,⟨rfl,hn⟩|⟨g,cap,cur,rfl,hg,hb,h2,h3,h4,h5⟩⟩:=h
 · have hks:ks=[]:=List.eq_nil_of_length_eq_zero hn
   subst hks
   refine Calls.mono (Tryz.slices_Sort_int_none none 0 w) ?_
   rintro e' w' ⟨rfl,rfl⟩
   exact⟨_,rfl,rfl,Fr.refl _ _,show OwnS w' 0 3 1 A5 (.slice none 0 0) (List.mergeSort [] _)from by simpa using h0,fun _ h=>.inl h⟩
 rw[N7]at h5
 have hl:g<w.heap.size:=lt_of_block hb
 refine Calls.mono (Tryz.slices_Sort_int g 0 cap ks w (Go.holds_of_blockI hb (by simpa using h5)) hl hlen) ?_
 rintro e' w' ⟨rfl,n,os,rfl⟩
 have hg2:=Go.grownBy_sortedI (w:=w) (g:=g) (n:=n) (os:=os) (ks.mergeSort fun x y=>decide (x≤y)).toArray
 have ho:=Go.ownsRow_sortedI (w:=w) (n:=n) (os:=os) (ss:=ks) (ts:=ks.mergeSort fun x y=>decide (x≤y)) (by simp) hg hb h2 h3 h4
 refine⟨_,rfl,rfl,⟨hg2.os,hg2.tape,hg2.output,hg2.size,fun i hi hn=>hg2.block i hi (fun e=>hn (by cases e;rfl))⟩,?_,fun _ h=>.inl h⟩
 show World.ownsRow _ _ _ _ _ _ _
 rw[N7,List.length_mergeSort]
 exact ho
set_option maxHeartbeats 2000000 in
set_option maxRecDepth 4000 in
theorem kS(bc:Array Go.Value)(b:Base)(x:Exc)(w:World)(hC:BaseC w bc b)(hT:∀p∈b.Processes,Qd p)(hlP:b.Processes.length≤10000)(hlG:b.Gaps.length≤10000)(hlL:b.Lots.length≤10000)(hls:b.Swaps.length≤1000000000):Ret prog 8 #[.agg bc,.agg x.cells] w fun r0 w'=>∃v L,r0=v∧L.map VP.vd=Im b x∧Wx.Sep no w w' [J 101 3 VP.cells v L,D5 (Kp 3 L)]:=by
 have hsum:b.Lots.length+b.Processes.length≤1000000000:=by omega
 obtain⟨w0,rfl,hS⟩:=W0 w
 refine cT 178 func8 rfl (Af (Ao (.bA rfl) rfl ?_))
 rintro _ w1 ⟨B2,rfl,NB2⟩
 replace hS:=hS.Cg NB2
 refine Ao (.bA rfl) rfl ?_
 rintro _ w2 ⟨B3,rfl,NB3⟩
 replace hS:=hS.Cg NB3
 refine Az (Am (Af (U (.lc rfl (hS.b1.agg)) (A6 (eC (.o rfl) (GQ)) rfl (cU x _) ?_))))
 rintro _ w3 ⟨rfl,uw3⟩
 replace hS:=hS.up uw3
 refine U (.n1 rfl) (Ai (CW.b rfl (fun h23=>?_) (fun h23=>?_)))
 ·replace h23:=dQ h23
  have hex:I9 x=false:=by simpa using h23
  refine Af (Az (Ai (Al (Ap (KW.q ?_)))))
  exact⟨_,[],rfl,by unfold Im;rw[if_neg (by rw[hex];exact Bool.false_ne_true)];rfl,pQ 101 3 hS⟩
 replace h23:=dQ h23
 have hex:I9 x=true:=by simpa using h23
 have hexi:=(U8 x).1 hex
 refine Aj (Ac (Af (U (.fB 0 rfl) (U (.lb rfl (hS.b1.Ak rfl)) (U (.fB 1 rfl) (U (.lb rfl (hS.b1.Ak rfl)) (U (.build (cs:=(Plc.mk x.tool x.chamber).cells) underlying91 zeroValue91 Jc (.ct rfl (.cu rfl)) rfl) (Ao (.Br zeroValue91) rfl ?_))))))))
 rintro _ w4 ⟨B5,rfl,MB5⟩
 refine A9 (.Ca sizeOf91 rfl (.t rfl) (.t rfl) (Plc.one _) MB5.blk rfl) ?_
 intro w5 LB5
 have NB5:=MB5.set LB5
 replace hS:=hS.Cg NB5
 refine Am (Aa (U (.fB 2 rfl) (U (.lb rfl (hS.b1.Ak rfl)) (U (.fB 3 rfl) (U (.lb rfl (hS.b1.Ak rfl)) (U (.fB 4 rfl) (U (.lb rfl (hS.b1.Ak rfl)) (U (.IP (.t rfl) oQ oQ) (A6 (eC (.ct rfl (.ct rfl (.cu rfl))) (xS)) rfl (Nf x.frm x.to (-x.err) _) ?_)))))))))
 rintro _ w6 ⟨bl0,bt0,bf0,rfl,hT36⟩
 replace hS:=hS.join hT36
 refine LW.A rfl (Am (Aa (I rfl (U (.fB 2 rfl) (U (.lb rfl (hS.b1.Ak rfl)) (U (.fB 3 rfl) (U (.lb rfl (hS.b1.Ak rfl)) (U (.fB 4 rfl) (U (.lb rfl (hS.b1.Ak rfl)) (A6 (eC (.ct rfl (.ct rfl (.cu rfl))) (xS)) rfl (Nf x.frm x.to x.err _) ?_))))))))))
 rintro _ w7 ⟨bl1,bt1,bf1,rfl,hT44⟩
 replace hS:=hS.join hT44
 refine Ao (.buildSlice (xs:=[(⟨x.frm,x.to,-x.err,bl0,bt0,bf0⟩:MC),(⟨x.frm,x.to,x.err,bl1,bt1,bf1⟩:MC)]) (enc:=Ha) (mk:=fun q=>(zS q).v) underlying95 sizeOf93 zeroValue93 rfl cQ (fun _=>rfl) (fun _=>rfl) (.ct rfl (.cu rfl)) rfl) rfl ?_
 intro v45 w8 hN45
 obtain⟨u45,B45,rfl,e45,hO45⟩:=NewSl.own hN45 (fun _=>rfl) cQ (by simp[maxLen])
 replace hS:=hS.add u45 (A':=J 93 1 Ha (.slice (some ⟨B45,0,none⟩) 2 2) [(⟨x.frm,x.to,-x.err,bl0,bt0,bf0⟩:MC),(⟨x.frm,x.to,x.err,bl1,bt1,bf1⟩:MC)]) hO45 (fun i h=>by cases h;exact Nat.le_of_eq e45.symm)
 refine LW.A rfl (Am (Ah ?_))
 replace hS:=(hS.Gl 3 rfl).Gl 3 rfl
 replace hS:=Ie (Bs:=[_,_,_,_]) (As:=[(⟨x.frm,x.to,-x.err,bl0,bt0,bf0⟩:MC),(⟨x.frm,x.to,x.err,bl1,bt1,bf1⟩:MC)].map (kH 3)) (rest:=[]) hS
 obtain⟨v10,h10,hs10⟩:=hC.at_ (j:=10) cQ
 obtain⟨adG,cpG,rfl,hEG⟩:=(show Sl w0 v10 19 Fact.cells b.Gaps from hs10)
 refine Aa (U (.fB 10 rfl) (U (.lb rfl (hS.b0.cell h10)) (U (.Cw underlying26 (.t rfl)) (U (.move (.const _)) (Ai (Ae (A3 (σ:=Nat×Go.Value×List MC) (fun s w=>(s.1≤b.Gaps.length)∧(s.2.2.length≤2+s.1)∧((⟨x.frm,x.to,-x.err,bl0,bt0,bf0⟩:MC)∈s.2.2)∧(s.2.2.map MC.key=(x.frm,x.to,-x.err)::(x.frm,x.to,x.err)::(Lh (b.Gaps.take s.1) x).map (FG x))∧(Wx.Sep no w0 w [Bq B2 bc 28,Bq B3 x.cells 35,Bq B5 (Plc.mk x.tool x.chamber).cells 91,J 93 1 Ha s.2.1 s.2.2,cW 3 s.2.2])) (fun s=>[(49,.eq (vi (s.1:Int))),(7,.eq (s.2.1))]) ([(2,.eq _),(3,.eq _),(4,.eq _),(5,.eq _),(6,.eq _),(47,.eq _),(48,.eq _)]) (fun s=>b.Gaps.length-s.1) (0,.slice (some ⟨B45,0,none⟩) 2 2,[(⟨x.frm,x.to,-x.err,bl0,bt0,bf0⟩:MC),(⟨x.frm,x.to,x.err,bl1,bt1,bf1⟩:MC)]) ?_ tQ ?_)))))))
 ·exact⟨Nat.zero_le _,Nat.le_refl _,List.mem_cons_self,rfl,hS⟩
 rintro⟨i,v,Q⟩ w9 ⟨hi,hQn,hQ0,hQk,hS⟩
 dsimp only at hi hQn hQ0 hQk hS
 change CW _ _ _ _ _ _ _ ([(49,.eq (vi (i:Int))),(7,.eq (v))]++_) _
 refine Af (U (.l2 rfl rfl) (Am (CW.b rfl (fun h50=>?_) (fun h50=>?_))))
 ·replace h50:=dQ h50
  refine Aj (Ac (Ah (Ae (Ah ?_))))
  obtain⟨y,hy⟩:=Aq (xs:=b.Gaps) (i:=i) oQ
  obtain⟨By,oy,ay,hcy⟩:=(Els.up hEG hS.Ch) i y hy
  refine Aa (U (.Aw underlying26 sizeOf74 (j:=i) (.t rfl) (.t rfl) oQ ay) (U (.lc rfl (hcy)) (Ao (.Br zeroValue74) rfl ?_)))
  rintro _ w10 ⟨B9,rfl,MB9⟩
  refine A9 (.Ca sizeOf74 rfl (.t rfl) (.t rfl) (Fact.one _) MB9.blk rfl) ?_
  intro w11 LB9
  have NB9:=MB9.set LB9
  replace hS:=hS.Cg NB9
  refine Am (Aa (U (.lc rfl (hS.b2.agg)) (U (.fB 11 rfl) (U (.lb rfl (hS.b5.Ak rfl)) (U (.fB 12 rfl) (U (.lb rfl (hS.b5.Ak rfl)) (U (.build (cs:=(Plc.mk y.Tool y.Chamber).cells) underlying91 zeroValue91 Jc (.ct rfl (.cu rfl)) rfl) (U (.xP eqGuardType91 (xJ _ _) (.t rfl) (.t rfl)) (Ai (CW.b rfl (fun h59=>?_) (fun h59=>?_)))))))))))
  ·replace h59:=dQ h59
   have hh:He x y=true:=(Mb x y).symm.trans h59
   refine Aa (I rfl (U (.fB 5 rfl) (U (.lb rfl (hS.b5.Ak rfl)) (U (.fB 6 rfl) (U (.lb rfl (hS.b5.Ak rfl)) (U (.fB 4 rfl) (U (.lb rfl (hS.b1.Ak rfl)) (A6 (eC (.ct rfl (.ct rfl (.cu rfl))) (xS)) rfl (Nf y.Time y.Until x.err _) ?_))))))))
   rintro _ w12 ⟨bl2,bt2,bf2,rfl,hT67⟩
   replace hS:=hS.join hT67
   refine Ao (.buildSlice (xs:=[(⟨y.Time,y.Until,x.err,bl2,bt2,bf2⟩:MC)]) (enc:=Ha) (mk:=fun q=>(zS q).v) underlying95 sizeOf93 zeroValue93 rfl cQ (fun _=>rfl) (fun _=>rfl) (.cu rfl) rfl) rfl ?_
   rintro _ w13 ⟨B68,cB68,rfl,NB68,yB68,xB68⟩
   replace hS:=hS.up NB68.up
   have hE68:=xB68
   refine Ao (.Cu (enc:=Ha) (bytes:=8) (i:=Tryz.t93) underlying95 kQ rfl rfl rfl rfl cQ (fun _=>rfl) zT (.t rfl) (.t rfl) (hS.own 3 rfl) (Av hE68) (by simp only[maxLen,List.length_cons,List.length_nil];omega) (by simp only[List.length_cons,List.length_nil];omega)) rfl ?_
   intro v69 w14 Gw14
   replace hS:=hS.Dw 3 rfl Gw14
   refine LW.A rfl (LW.nil (Ad (Ac (Aa (U (.ic rfl oQ) (I rfl (LW.nil (Ar ?_))))))))
   exact⟨(i+1,v69,Q++[(⟨y.Time,y.Until,x.err,bl2,bt2,bf2⟩:MC)]),⟨by show i+1≤_;omega,by show(Q++[_]).length≤_;rw[List.length_append];show Q.length+1≤2+(i+1);omega,List.mem_append_left _ hQ0,by show(Q++[_]).map MC.key=_;rw[List.map_append,hQk,pN hy hh,List.map_append];rfl,by exact cX (Bs:=[_,_,_,_]) (hS.sub (.cons_cons _ (.cons_cons _ (.cons_cons _ (.cons_cons _ (.cons_cons _ (.cons _ (.cons_cons _ .slnil))))))))⟩,tQ,by show b.Gaps.length-(i+1)<b.Gaps.length-i;omega⟩
  replace h59:=dQ h59
  have hh:He x y=false:=(Mb x y).symm.trans (by simpa using h59)
  refine Aj (Ad (Ac (Aa (U (.ic rfl oQ) (I rfl (LW.nil (Ar ?_)))))))
  exact⟨(i+1,v,Q),⟨by show i+1≤_;omega,by show Q.length≤2+(i+1);omega,hQ0,by show Q.map MC.key=_;rw[hQk,uD hy hh],by exact hS.take 5⟩,tQ,by show b.Gaps.length-(i+1)<b.Gaps.length-i;omega⟩
 replace h50:=dQ h50
 refine A4 (Ab (Ab (An (Ac (Ah ?_)))))
 have hil:i=b.Gaps.length:=by omega
 rw[hil,List.take_length]at hQk
 obtain⟨adq,cpq,rfl,_⟩:=(hS.own 3 rfl).sl (fun _=>rfl)
 have hQl:Q.length≤100000:=by have h5:=congrArg List.length hQk;simp only[List.length_map,List.length_cons,Lh]at h5;have h6:=List.length_filter_le (He x) b.Gaps;omega
 refine Aa (I rfl (A6 (eC (.o rfl) (GR)) rfl (Zq _ _ _ _) ?_))
 rintro _ w15 ⟨Be,rfl,hTe⟩
 replace hS:=hS.join hTe
 refine LW.A rfl (Am (Aa (LW.r REv.makeMap rfl rfl rfl rfl ?_)))
 rintro _ w16 ⟨Bw,rfl,M_,u_,e_,z_⟩
 replace hS:=hS.add u_ (A':=Bu Bw []) M_ (fun i(e:i=Bw)=>by omega)
 refine LW.A rfl (Am (Ah ?_))
 replace hS:=hS.add (Up.refl _) (A':=gJ []) ⟨by simp,by simp⟩ (by rintro i ⟨A,hA,_⟩;simp at hA)
 obtain⟨v00,h00,hs00⟩:=hC.at_ (j:=0) cQ
 obtain⟨adP,cpP,rfl,hEP⟩:=(show Sl w0 v00 19 Fact.cells b.Processes from hs00)
 refine Aa (U (.fB 0 rfl) (U (.lb rfl (hS.b0.cell h00)) (U (.Cw underlying26 (.t rfl)) (U (.move (.const _)) (Ai (Ae (A3 (σ:=Nat×List WE) (fun s w=>(s.1≤b.Processes.length)∧(s.2.map WE.pl=(Nd b.Swaps b.Gaps x (b.Processes.take s.1)))∧((s.2.map (·.w)).Nodup)∧(∀e∈s.2,(e.L.map (·.1)).Nodup)∧(∀e∈s.2,e.L.length≤s.1)∧(Wx.Sep no w0 w [Bq B2 bc 28,Bq B3 x.cells 35,Bq B5 (Plc.mk x.tool x.chamber).cells 91,J 93 1 Ha (.slice adq Q.length cpq) Q,cW 3 Q,Bq Be #[.slice adq Q.length cpq] 95,Bu Bw (s.2.map WE.kv),gJ s.2])) (fun s=>[(77,.eq (vi (s.1:Int)))]) ([(2,.eq _),(4,.eq _),(5,.eq _),(6,.eq _),(10,.eq _),(11,.eq _),(75,.eq _),(76,.eq _)]) (fun s=>b.Processes.length-s.1) (0,[]) ?_ tQ ?_)))))))
 ·exact⟨Nat.zero_le _,rfl,List.nodup_nil,(fun _ h=>(by cases h)),(fun _ h=>(by cases h)),hS⟩
 rintro⟨i,D⟩ w17 ⟨hi,hDp,hDn,hDl,hDk,hS⟩
 dsimp only at hi hDp hDn hDl hDk hS
 change CW _ _ _ _ _ _ _ ([(77,.eq (vi (i:Int)))]++_) _
 refine Af (U (.l2 rfl rfl) (Am (CW.b rfl (fun h78=>?_) (fun h78=>?_))))
 ·replace h78:=dQ h78
  refine Aj (Ac (Ah (Ae (Ah ?_))))
  obtain⟨y,hy⟩:=Aq (xs:=b.Processes) (i:=i) oQ
  obtain⟨By,oy,ay,hcy⟩:=(Els.up hEP hS.Ch) i y hy
  have hmay:=uE hQk (hT y (List.mem_of_getElem? hy)) oQ
  refine Aa (U (.Aw underlying26 sizeOf74 (j:=i) (.t rfl) (.t rfl) oQ ay) (U (.lc rfl (hcy)) (Ao (.Br zeroValue74) rfl ?_)))
  rintro _ w18 ⟨B13,rfl,MB13⟩
  refine A9 (.Ca sizeOf74 rfl (.t rfl) (.t rfl) (Fact.one _) MB13.blk rfl) ?_
  intro w19 LB13
  have NB13:=MB13.set LB13
  replace hS:=hS.Cg NB13
  refine Am (Af (U (.lc rfl (hS.b2.agg)) (U (.fB 11 rfl) (U (.lb rfl ((hS.blk 8 rfl).Ak rfl)) (U (.fB 12 rfl) (U (.lb rfl ((hS.blk 8 rfl).Ak rfl)) (U (.build (cs:=(Plc.mk y.Tool y.Chamber).cells) underlying91 zeroValue91 Jc (.ct rfl (.cu rfl)) rfl) (U (.GB eqGuardType91 (xJ _ _) (.t rfl) (.t rfl)) (I rfl (Ey rfl rfl (LW.gr rfl (fun hc=>PEv.lc rfl ((hS.blk 8 rfl).agg)) (Mh rfl rfl rfl rfl rfl rfl rfl rfl (fun hc=>Cc (f:=86) (lb:=#[.pointer (some ⟨Be,0,none⟩)]) (vs:=[.agg y.cells]) vQ (.cons vQ .nil) (IB)) (fun hc=>Zp y Be adq cpq Q _ hS.b5 (Cy (hS.own 3 rfl) (fun _=>rfl)) oQ (hS.get 4 rfl)) ?_))))))))))))
  intro w20 uw20
  replace hS:=hS.up uw20
  refine LW.gr rfl (fun hc=>PEv.not vQ) (U (.po rfl (fun hp=>(by exact .cond rfl (by(rw[hp];rfl))))) (Ai (CW.b rfl (fun h93=>?_) (fun h93=>?_))))
  ·replace h93:=dQ h93
   have hno:(He x y&&Sf b.Gaps x y)=false:=by have h5:=h93;rw[Mb,hmay]at h5;revert h5;cases He x y<;>cases Sf b.Gaps x y<;>simp
   refine A4 (Ab (An (Ac (Aa (U (.ic rfl oQ) (I rfl (LW.nil (Ar ?_))))))))
   exact⟨(i+1,D),⟨by show i+1≤_;omega,by show D.map WE.pl=_;rw[O8 hy,hno,hDp];rfl,hDn,hDl,fun e he=>Nat.le_succ_of_le (hDk e he),by exact hS.take 8⟩,tQ,by show b.Processes.length-(i+1)<b.Processes.length-i;omega⟩
  replace h93:=dQ h93
  have hno:(He x y&&Sf b.Gaps x y)=true:=by have h5:=h93;rw[Mb,hmay]at h5;revert h5;cases He x y<;>cases Sf b.Gaps x y<;>simp
  refine Aj (Ac (Af (U (.Kw isAgg28 sizeOf28 (hC.size) (.t rfl) (hS.b0.agg)) (U (.fB 7 rfl) (U (.lb rfl ((hS.blk 8 rfl).Ak rfl)) (U (.fB 5 rfl) (U (.lb rfl ((hS.blk 8 rfl).Ak rfl)) (A6 (eC (.ct rfl (.ct rfl (.cu rfl))) (BA)) rfl (gH bc b y.Wafer y.Time _ (hC.up hS.Ch) hls) ?_))))))))
  rintro _ w21 ⟨rfl,uw21⟩
  replace hS:=hS.up uw21
  obtain⟨wf,hwf⟩:∃wf,wf=Me b.Swaps y.Time y.Wafer:=⟨_,rfl⟩
  rw[←hwf]
  refine LW.A rfl (Am (Ah ?_))
  cases hq19:D.find? (fun e=>decide (e.w=wf))with
  |none=>
   have hnw:=Py hq19
   refine Aa (I rfl (I rfl (U (.Gt (ok:=false) underlying97 underlying3 zeroValue99 (.t rfl) (.t rfl) (hS.get 6 rfl) (by rw[Sn];exact hnw)) (U (.tr (Mk.PEv.Va underlying99 (.t rfl)) (rfl)) (Ai (CW.v rfl (Aa (I rfl (I rfl (LW.r REv.makeMap rfl rfl rfl rfl ?_))))))))))
   rintro _ w22 ⟨B106,rfl,M_,u_,e_,z_⟩
   replace hS:=hS.add u_ (A':=Xc ⟨wf,B106,[]⟩) M_ (fun i(e:i=B106)=>by omega)
   refine A9 (.mapUpdate underlying97 underlying3 (.t rfl) (.t rfl) (.t rfl) (hS.get 6 rfl)) ?_
   rintro w23 ⟨Mu,Ku,zu⟩
   rw[zI hnw]at Mu
   replace hS:=hS.Dw 6 rfl (Lk Mu Ku)
   refine Ai ?_
   replace hS:=(hS.Gl 7 rfl).Gl 8 rfl
   replace hS:=kK (Bs:=[_,_,_,_,_,_,_,_]) hS
   obtain⟨D1,hD1⟩:∃D1,D1=D++[(⟨wf,B106,[]⟩:WE)]:=⟨_,rfl⟩
   rw[←hD1]at hS
   obtain⟨j1,hjj⟩:∃j1,j1=D.length:=⟨_,rfl⟩
   obtain⟨e1,he1⟩:∃e1,e1=(⟨wf,B106,[]⟩:WE):=⟨_,rfl⟩
   have hj1:D1[j1]?=some e1:=by rw[hD1,hjj,he1];simp
   have hw1:e1.w=wf:=by rw[he1]
   have hDn1:(D1.map (·.w)).Nodup:=by rw[hD1,List.map_append];exact List.nodup_append.2 ⟨hDn,by simp,fun a ha c hc=>by simp at hc;subst hc;exact fun e=>hnw (e▸ha)⟩
   have hDl1:∀e∈D1,(e.L.map (·.1)).Nodup:=by rw[hD1];exact fun e he=>(List.mem_append.1 he).elim (hDl e) (fun h=>by rw[List.mem_singleton.1 h];exact List.nodup_nil)
   have hDk1:∀e∈D1,e.L.length≤i:=by rw[hD1];exact fun e he=>(List.mem_append.1 he).elim (hDk e) (fun h=>by rw[List.mem_singleton.1 h];exact Nat.zero_le _)
   have hpl:(D1.set j1 { e1 with L:=G3 e1.L y.ID (Gi x y) }).map WE.pl=Sq (D.map WE.pl) wf y.ID (Gi x y):=by rw[hD1,hjj,he1];exact zL hnw
   have hsu:mG x.frm x.to (-x.err) y=Gi x y:=Zf (hT y (List.mem_of_getElem? hy)) oQ
   have hq0:=Wq (Sm (hS.get 4 rfl) (⟨x.frm,x.to,-x.err,bl0,bt0,bf0⟩:MC) hQ0)
   have hn1:=hDl1 e1 (List.mem_of_getElem? hj1)
   have hmem1:(wf,Go.Value.map (some e1.b))∈D1.map WE.kv:=List.mem_map.2 ⟨e1,List.mem_of_getElem? hj1,by rw[←hw1];rfl⟩
   refine Dh 16 kQ kQ kQ kQ kQ rfl rfl (Au (.mv rfl) (Au (.mv rfl) (Au (.Cx (ok:=false) underlying97 underlying3 (.t rfl) (.t rfl) (hS.get 6 rfl) hmem1) (Au (.fB 1 rfl) (Au (.lb rfl ((hS.blk 7 rfl).Ak rfl)) (Au (.mv rfl) (Au (.mv rfl) (Au (.Cx (ok:=false) underlying97 underlying3 (.t rfl) (.t rfl) (hS.get 6 rfl) hmem1) (Au (.fB 1 rfl) (Au (.lb rfl ((hS.blk 7 rfl).Ak rfl)) (Au (.xH underlying99 underlying3 zeroValue4 (.t rfl) (.t rfl) (Oa (hS.get 8 rfl) hj1) hn1) (Au (.mv rfl) (Fu rfl rfl rfl rfl rfl rfl (fun hc=>PEv.mv rfl) (Fu rfl rfl rfl rfl rfl rfl (fun hc=>PEv.lc rfl ((hS.blk 7 rfl).agg)) (wO rfl rfl rfl rfl rfl rfl (fun hc a w _ ha=>Cc (f:=85) (lb:=#[.pointer (some ⟨bl0,0,none⟩),.pointer (some ⟨bt0,0,none⟩),.pointer (some ⟨bf0,0,none⟩)]) (vs:=[.agg y.cells]) vQ (.cons vQ .nil) (xY) a ha) (fun hc w hu=>Nc y x.frm x.to (-x.err) bl0 bt0 bf0 w (hq0.1.up hu) (hq0.2.1.up hu) (hq0.2.2.up hu)) (Au (.po rfl (fun hp=>(by exact .cond rfl (by(rw[hp];rfl))))) (HW.nil ?_)))))))))))))))))
   intro w24 uw24
   replace hS:=hS.up uw24
   refine A9 (.mapUpdate underlying99 underlying3 (.t rfl) (.t rfl) (.t rfl) (Oa (hS.get 8 rfl) hj1)) ?_
   rintro w25 ⟨Mu,Ku,zu⟩
   rw[hsu,Wr hn1]at Mu
   replace hS:=hS.Dw 8 rfl (gO (hS.get 8 rfl) hj1 Mu Ku)
   rw[←gM hj1 (G3 e1.L y.ID (Gi x y))]at hS
   refine LW.nil (Ad (Ac (Aa (U (.ic rfl oQ) (I rfl (LW.nil (Ar ?_)))))))
   exact⟨(i+1,D1.set j1 { e1 with L:=G3 e1.L y.ID (Gi x y) }),⟨by show i+1≤_;omega,by show(D1.set j1 _).map WE.pl=_;rw[O8 hy,hno,if_pos rfl,←hwf,←hDp];exact hpl,by show((D1.set j1 _).map (·.w)).Nodup;rw[gN hj1];exact hDn1,fun e he=>(List.mem_or_eq_of_mem_set he).elim (hDl1 e) fun h=>by rw[h];exact Sh hn1 _ _,fun e he=>(List.mem_or_eq_of_mem_set he).elim (fun h=>Nat.le_succ_of_le (hDk1 e h)) fun h=>by rw[h];exact Nat.le_trans (Sr _ _ _) (Nat.succ_le_succ (hDk1 e1 (List.mem_of_getElem? hj1))),by exact hS.sub (.cons_cons _ (.cons_cons _ (.cons_cons _ (.cons_cons _ (.cons_cons _ (.cons_cons _ (.cons_cons _ (.cons _ (.cons_cons _ .slnil)))))))))⟩,tQ,by show b.Processes.length-(i+1)<b.Processes.length-i;omega⟩
  |some e=>
   obtain⟨je,hje,hew⟩:=Pz hq19
   refine Aa (I rfl (I rfl (U (.Cx (ok:=false) underlying97 underlying3 (.t rfl) (.t rfl) (hS.get 6 rfl) (List.mem_map.2 ⟨e,List.mem_of_getElem? hje,by rw[←hew];rfl⟩)) (U (.fa (Mk.PEv.Va underlying99 (.t rfl)) (rfl)) (Ai (CW.f rfl (Aj (Ac ?_))))))))
   replace hS:=hS.Gl 7 rfl
   obtain⟨D1,hD1⟩:∃D1,D1=D:=⟨_,rfl⟩
   rw[←hD1]at hS
   obtain⟨j1,hjj⟩:∃j1,j1=je:=⟨_,rfl⟩
   obtain⟨e1,he1⟩:∃e1,e1=e:=⟨_,rfl⟩
   have hj1:D1[j1]?=some e1:=by rw[hD1,hjj,he1];exact hje
   have hw1:e1.w=wf:=by rw[he1];exact hew
   have hDn1:(D1.map (·.w)).Nodup:=by rw[hD1];exact hDn
   have hDl1:∀e∈D1,(e.L.map (·.1)).Nodup:=by rw[hD1];exact hDl
   have hDk1:∀e∈D1,e.L.length≤i:=by rw[hD1];exact hDk
   have hpl:(D1.set j1 { e1 with L:=G3 e1.L y.ID (Gi x y) }).map WE.pl=Sq (D.map WE.pl) wf y.ID (Gi x y):=by rw[hD1,hjj,he1,zO hDn hje,hew]
   have hsu:mG x.frm x.to (-x.err) y=Gi x y:=Zf (hT y (List.mem_of_getElem? hy)) oQ
   have hq0:=Wq (Sm (hS.get 4 rfl) (⟨x.frm,x.to,-x.err,bl0,bt0,bf0⟩:MC) hQ0)
   have hn1:=hDl1 e1 (List.mem_of_getElem? hj1)
   have hmem1:(wf,Go.Value.map (some e1.b))∈D1.map WE.kv:=List.mem_map.2 ⟨e1,List.mem_of_getElem? hj1,by rw[←hw1];rfl⟩
   refine Dh 16 kQ kQ kQ kQ kQ rfl rfl (Au (.mv rfl) (Au (.mv rfl) (Au (.Cx (ok:=false) underlying97 underlying3 (.t rfl) (.t rfl) (hS.get 6 rfl) hmem1) (Au (.fB 1 rfl) (Au (.lb rfl ((hS.blk 7 rfl).Ak rfl)) (Au (.mv rfl) (Au (.mv rfl) (Au (.Cx (ok:=false) underlying97 underlying3 (.t rfl) (.t rfl) (hS.get 6 rfl) hmem1) (Au (.fB 1 rfl) (Au (.lb rfl ((hS.blk 7 rfl).Ak rfl)) (Au (.xH underlying99 underlying3 zeroValue4 (.t rfl) (.t rfl) (Oa (hS.get 8 rfl) hj1) hn1) (Au (.mv rfl) (Fu rfl rfl rfl rfl rfl rfl (fun hc=>PEv.mv rfl) (Fu rfl rfl rfl rfl rfl rfl (fun hc=>PEv.lc rfl ((hS.blk 7 rfl).agg)) (wO rfl rfl rfl rfl rfl rfl (fun hc a w _ ha=>Cc (f:=85) (lb:=#[.pointer (some ⟨bl0,0,none⟩),.pointer (some ⟨bt0,0,none⟩),.pointer (some ⟨bf0,0,none⟩)]) (vs:=[.agg y.cells]) vQ (.cons vQ .nil) (xY) a ha) (fun hc w hu=>Nc y x.frm x.to (-x.err) bl0 bt0 bf0 w (hq0.1.up hu) (hq0.2.1.up hu) (hq0.2.2.up hu)) (Au (.po rfl (fun hp=>(by exact .cond rfl (by(rw[hp];rfl))))) (HW.nil ?_)))))))))))))))))
   intro w26 uw26
   replace hS:=hS.up uw26
   refine A9 (.mapUpdate underlying99 underlying3 (.t rfl) (.t rfl) (.t rfl) (Oa (hS.get 8 rfl) hj1)) ?_
   rintro w27 ⟨Mu,Ku,zu⟩
   rw[hsu,Wr hn1]at Mu
   replace hS:=hS.Dw 8 rfl (gO (hS.get 8 rfl) hj1 Mu Ku)
   rw[←gM hj1 (G3 e1.L y.ID (Gi x y))]at hS
   refine LW.nil (Ad (Ac (Aa (U (.ic rfl oQ) (I rfl (LW.nil (Ar ?_)))))))
   exact⟨(i+1,D1.set j1 { e1 with L:=G3 e1.L y.ID (Gi x y) }),⟨by show i+1≤_;omega,by show(D1.set j1 _).map WE.pl=_;rw[O8 hy,hno,if_pos rfl,←hwf,←hDp];exact hpl,by show((D1.set j1 _).map (·.w)).Nodup;rw[gN hj1];exact hDn1,fun e he=>(List.mem_or_eq_of_mem_set he).elim (hDl1 e) fun h=>by rw[h];exact Sh hn1 _ _,fun e he=>(List.mem_or_eq_of_mem_set he).elim (fun h=>Nat.le_succ_of_le (hDk1 e h)) fun h=>by rw[h];exact Nat.le_trans (Sr _ _ _) (Nat.succ_le_succ (hDk1 e1 (List.mem_of_getElem? hj1))),by exact hS.sub (.cons_cons _ (.cons_cons _ (.cons_cons _ (.cons_cons _ (.cons_cons _ (.cons_cons _ (.cons_cons _ (.cons _ (.cons_cons _ .slnil)))))))))⟩,tQ,by show b.Processes.length-(i+1)<b.Processes.length-i;omega⟩
 replace h78:=dQ h78
 refine A4 (Ab (Ab (An (Ac (Ah ?_)))))
 have hil2:i=b.Processes.length:=by omega
 rw[hil2,List.take_length]at hDp
 refine Aa (Az (Am (Af (U (.Kw isAgg28 sizeOf28 (hC.size) (.t rfl) (hS.b0.agg)) (A6 (eC (.o rfl) (AX)) rfl (Si bc b _ (hC.up hS.Ch) hls hsum) ?_)))))
 rintro v125 w28 ⟨hO125,uw28⟩
 replace hS:=hS.add uw28 (A':=J 3 1 A5 v125 (Cv b.Lots b.Processes b.Swaps)) (hO125.mono (Nat.zero_le _)) (fun i h=>hO125.base i h)
 obtain⟨adw,cpw,rfl,_⟩:=(hS.own 8 rfl).sl (fun _=>rfl)
 have hWl:(Cv b.Lots b.Processes b.Swaps).length≤100000:=Nat.le_trans (Lm _ _ _) oQ
 replace hS:=hS.sub (.cons _ (.cons _ (.cons _ (.cons _ (.cons _ (.cons _ (.cons_cons _ (.cons_cons _ (.cons_cons _ .slnil)))))))))
 replace hS:=hS.Y2 (OwnS.nil _ 0 101 3 VP.cells)
 replace hS:=hS.add (Up.refl _) (A':=D5 (Kp 3 [])) ⟨by simp[Kp],by simp[Kp]⟩ (by rintro i ⟨A,hA,_⟩;simp[Kp]at hA)
 refine U (.Cw underlying37 (.t rfl)) (U (.move (.const _)) (Ai (Ae (A3 (σ:=Nat×Go.Value×List VP) (fun s w=>(s.1≤(Cv b.Lots b.Processes b.Swaps).length)∧(s.2.2.map VP.vd=((Cv b.Lots b.Processes b.Swaps).take s.1).map fun w=>kL w (lookW (Nd b.Swaps b.Gaps x b.Processes) w))∧(Wx.Sep no w0 w [Bu Bw (D.map WE.kv),gJ D,J 3 1 A5 (.slice adw (Cv b.Lots b.Processes b.Swaps).length cpw) (Cv b.Lots b.Processes b.Swaps),J 101 3 VP.cells s.2.1 s.2.2,D5 (Kp 3 s.2.2)])) (fun s=>[(127,.eq (vi (s.1:Int))),(15,.eq (s.2.1))]) ([(4,.eq _),(11,.eq _),(125,.eq _),(126,.eq _)]) (fun s=>(Cv b.Lots b.Processes b.Swaps).length-s.1) (0,.slice none 0 0,[]) ?_ tQ ?_))))
 ·exact⟨Nat.zero_le _,rfl,hS⟩
 rintro⟨k,v,L⟩ w29 ⟨hk,hL,hS⟩
 dsimp only at hk hL hS
 have hLl:L.length=k:=(by have h:=congrArg List.length hL;rw[List.length_map,List.length_map,List.length_take]at h;omega)
 change CW _ _ _ _ _ _ _ ([(127,.eq (vi (k:Int))),(15,.eq (v))]++_) _
 refine Af (U (.l2 rfl rfl) (Am (CW.b rfl (fun h128=>?_) (fun h128=>?_))))
 ·replace h128:=dQ h128
  refine Aj (Ac (Ah (Ae (Ah ?_))))
  obtain⟨wf,hy⟩:=Aq (xs:=(Cv b.Lots b.Processes b.Swaps)) (i:=k) oQ
  obtain⟨By,oy,ay,hcy⟩:=(Cy (hS.own 2 rfl) (fun _=>rfl)) k wf hy
  refine Aa (U (.Aw underlying37 sizeOf3 (j:=k) (.t rfl) (.t rfl) oQ ay) (U (.lb rfl (hcy.nth (j:=0) rfl)) (LW.A rfl (Am (Aa (I rfl (U (.build (cs:=VP.cells ⟨⟨wf,0,[]⟩,none,0⟩) underlying101 zeroValue101 Re (.cu rfl) rfl) (Ao (.Br zeroValue101) rfl ?_))))))))
  rintro _ w30 ⟨B18,rfl,MB18⟩
  refine A9 (.Ca sizeOf101 rfl (.t rfl) (.t rfl) (VP.one _) MB18.blk rfl) ?_
  intro w31 LB18
  have NB18:=MB18.set LB18
  replace hS:=hS.Cg NB18
  refine LW.nil ?_
  replace hS:=hS.Y2 (OwnS.nil _ 0 3 1 A5)
  refine Ac (Ah (Ah ?_))
  cases hq28:D.find? (fun e=>decide (e.w=wf))with
  |none=>
   have hnw:=Py hq28
   have hlk:=cZ hq28
   refine Aa (I rfl (I rfl (U (.Gt (ok:=false) underlying97 underlying3 zeroValue99 (.t rfl) (.t rfl) (hS.get 0 rfl) (by rw[Sn];exact hnw)) (Ao (.pL underlying99 (.t rfl)) rfl ?_))))
   rintro _ w32 ⟨r136,rfl,hN_,u_,e_,z_⟩
   replace hS:=hS.add u_ (A':=FF r136) hN_ (fun i(e:i=r136)=>by omega)
   refine Ai (Ae (A3 (σ:=Unit) (fun s w=>(True)∧(Wx.Sep no w0 w [Bu Bw (D.map WE.kv),gJ D,J 3 1 A5 (.slice adw (Cv b.Lots b.Processes b.Swaps).length cpw) (Cv b.Lots b.Processes b.Swaps),J 101 3 VP.cells v L,D5 (Kp 3 L),Bq B18 (VP.cells ⟨⟨wf,0,[]⟩,none,0⟩) 101,J 3 1 A5 (.slice none 0 0) [],FF r136])) (fun s=>[]) ([(4,.eq _),(11,.eq _),(15,.eq _),(18,.eq _),(125,.eq _),(126,.eq _),(127,.eq _),(136,.eq _)]) (fun s=>0) () ?_ tQ ?_))
   ·exact⟨trivial,hS⟩
   rintro _ w33 ⟨htr,hS⟩
   refine Af (Ao (.uC (.t rfl) (hS.get 7 rfl)) rfl ?_)
   rintro _ w34 ⟨rfl,e_⟩
   subst w34
   refine U (.fa (PEv.xt rfl rfl) (rfl)) (Am (CW.f rfl (A4 (Ab (Ab (An (Ac (Ah ?_))))))))
   obtain⟨V,hVe⟩:∃V:List (Int×Bool),V=[]:=⟨_,rfl⟩
   obtain⟨v2,hv2⟩:∃v2:Go.Value,v2=.slice none 0 0:=⟨_,rfl⟩
   have hPV:V.Perm (lookW (D.map WE.pl) wf):=by rw[hVe,hlk]
   replace hS:Wx.Sep no w0 w33 [Bu Bw (D.map WE.kv),gJ D,J 3 1 A5 (.slice adw (Cv b.Lots b.Processes b.Swaps).length cpw) (Cv b.Lots b.Processes b.Swaps),J 101 3 VP.cells v L,D5 (Kp 3 L),Bq B18 #[vi wf,vi (C2 V).1,v2] 101,J 3 1 A5 v2 (C2 V).2]:=by rw[hVe,hv2];exact hS.take 7
   have hLk:(lookW (D.map WE.pl) wf).length≤1000000:=by rw[hlk];exact Nat.zero_le _
   obtain⟨ad2,cp2,hv2e,_⟩:=(hS.own 6 rfl).sl (fun _=>rfl)
   subst hv2e
   have hvd:(⟨wf,(C2 V).1,F3 (C2 V).2⟩:Vd)=kL wf (lookW (Nd b.Swaps b.Gaps x b.Processes) wf):=by rw[←hDp];unfold kL;rw[(Qq hPV).1,(Qq hPV).2]
   have hvl:=Od V
   have hpl2:=hPV.length_eq
   refine Aa (U (.fB 2 rfl) (U (.lb rfl (hS.b5.Ak rfl)) (A6 (eC (.o rfl) (xT)) rfl (Vj _ (C2 V).2 _ (hS.own 6 rfl) oQ) ?_)))
   rintro _ w35 ⟨rfl,uw35⟩
   replace hS:=hS.Dw 6 rfl uw35
   refine Ai ?_
   obtain⟨vp,hvpe⟩:∃vp:VP,vp=⟨⟨wf,(C2 V).1,F3 (C2 V).2⟩,ad2,cp2⟩:=⟨_,rfl⟩
   have hB18v:Blk w35 B18 (VP.cells vp) 101:=by rw[hvpe,show VP.cells ⟨⟨wf,(C2 V).1,F3 (C2 V).2⟩,ad2,cp2⟩=#[vi wf,vi (C2 V).1,.slice ad2 (C2 V).2.length cp2]by unfold VP.cells VP.uv;rw[H6]];exact hS.blk 5 rfl
   refine Aa (I rfl (U (.lc rfl (hB18v.agg)) (Ao (.buildSlice (xs:=[vp]) (enc:=VP.cells) (mk:=fun p=>.agg p.cells) underlying32 sizeOf101 zeroValue101 rfl cQ (fun _=>rfl) (fun _=>rfl) (.cu rfl) rfl) rfl ?_)))
   rintro _ w36 ⟨B174,cB174,rfl,NB174,yB174,xB174⟩
   replace hS:=hS.up NB174.up
   have hE174:=xB174
   refine Ao (.Cu (enc:=VP.cells) (bytes:=40) (i:=Tryz.t101) underlying32 kQ rfl rfl rfl rfl cQ (fun _=>rfl) VP.one (.t rfl) (.t rfl) (hS.own 3 rfl) (Av hE174) (by simp only[maxLen,List.length_cons,List.length_nil];omega) (by simp only[List.length_cons,List.length_nil];omega)) rfl ?_
   intro v175 w37 Gw37
   replace hS:=hS.Dw 3 rfl Gw37
   refine LW.A rfl (LW.nil (Ad (Ac (Aa (U (.ic rfl oQ) (I rfl (LW.nil (Ar ?_))))))))
   exact⟨(k+1,v175,L++[vp]),⟨by show k+1≤_;omega,by show(L++[vp]).map VP.vd=_;rw[List.map_append,hL,Ce hy,List.map_append,hvpe];show _++[(⟨wf,(C2 V).1,F3 (C2 V).2⟩:Vd)]=_;rw[hvd];rfl,by subst hvpe;rw[←Vb];rw[←H6 (C2 V).2]at hS;exact Ve (Bs:=[_,_,_,_]) (hS.sub (.cons_cons _ (.cons_cons _ (.cons_cons _ (.cons_cons _ (.cons_cons _ (.cons _ (.cons_cons _ .slnil))))))))⟩,tQ,by show(Cv b.Lots b.Processes b.Swaps).length-(k+1)<(Cv b.Lots b.Processes b.Swaps).length-k;omega⟩
  |some e=>
   obtain⟨je,hje,hew⟩:=Pz hq28
   have hlk:=dA hq28
   have hjl:=(List.getElem?_eq_some_iff.1 hje).1
   refine Aa (I rfl (I rfl (U (.Cx (ok:=false) underlying97 underlying3 (.t rfl) (.t rfl) (hS.get 0 rfl) (List.mem_map.2 ⟨e,List.mem_of_getElem? hje,by rw[←hew];rfl⟩)) (Ao (.range underlying99 (.t rfl) (Oa (hS.get 1 rfl) hje)) rfl ?_))))
   rintro _ w38 ⟨r136,rfl,hR_,u_,e_,z_⟩
   replace hS:=hS.Dw 1 rfl (gK (hS.get 1 rfl) hje (Gf hR_ u_ e_))
   refine Ai (Ae (A3 (σ:=List (Int×Bool)×Go.Value) (fun s w=>((s.1.map (·.1)).Nodup)∧(∀q∈s.1,q∈e.L)∧(Wx.Sep no w0 w [Bu Bw (D.map WE.kv),D5 ((D.map Xc).set je (Fi e.b r136 (kJ e.L) (s.1.map (·.1)))),J 3 1 A5 (.slice adw (Cv b.Lots b.Processes b.Swaps).length cpw) (Cv b.Lots b.Processes b.Swaps),J 101 3 VP.cells v L,D5 (Kp 3 L),Bq B18 #[vi wf,vi (C2 s.1).1,s.2] 101,J 3 1 A5 s.2 (C2 s.1).2])) (fun s=>[]) ([(4,.eq _),(11,.eq _),(15,.eq _),(18,.eq _),(125,.eq _),(126,.eq _),(127,.eq _),(136,.eq _)]) (fun s=>e.L.length-s.1.length) ([],.slice none 0 0) ?_ tQ ?_))
   ·exact⟨List.nodup_nil,(fun _ h=>(by cases h)),hS⟩
   rintro⟨V,v2⟩ w39 ⟨hV,hVs,hS⟩
   dsimp only at hV hVs hS
   change CW _ _ _ _ _ _ _ ([]++_) _
   refine Ah ?_
   have hRn:IRng w39 e.b r136 (kJ e.L) (V.map (·.1)):=(hS.get 1 rfl).1 _ (List.mem_of_getElem? (List.getElem?_set_self (by rw[List.length_map];exact hjl)))
   refine Aa (Ao (.next (.t rfl) hRn) rfl ?_)
   rintro _ w40 (⟨rfl,rfl,hPm⟩|⟨k0,u0,rfl,hNx⟩)
   ·skip
    refine U (.xt rfl rfl) (Am (CW.f rfl (A4 (Ab (Ab (An (Ac (Ah ?_))))))))
    have hPV:V.Perm (lookW (D.map WE.pl) wf):=by rw[hlk];exact perm_keys hV (hDl e (List.mem_of_getElem? hje)) hVs (by rw[N9]at hPm;exact hPm)
    replace hS:=hS.Dw 1 rfl (Vf (hS.get 1 rfl) hjl (pR ((hS.get 1 rfl).1 _ (List.mem_of_getElem? (List.getElem?_set_self (by rw[List.length_map];exact hjl))))))
    rw[N2 (show(D.map Xc)[je]?=some (Bu e.b (kJ e.L))by rw[List.getElem?_map,hje];rfl)]at hS
    have hLk:(lookW (D.map WE.pl) wf).length≤1000000:=by rw[hlk];exact Nat.le_trans (hDk e (List.mem_of_getElem? hje)) oQ
    obtain⟨ad2,cp2,hv2e,_⟩:=(hS.own 6 rfl).sl (fun _=>rfl)
    subst hv2e
    have hvd:(⟨wf,(C2 V).1,F3 (C2 V).2⟩:Vd)=kL wf (lookW (Nd b.Swaps b.Gaps x b.Processes) wf):=by rw[←hDp];unfold kL;rw[(Qq hPV).1,(Qq hPV).2]
    have hvl:=Od V
    have hpl2:=hPV.length_eq
    refine Aa (U (.fB 2 rfl) (U (.lb rfl (hS.b5.Ak rfl)) (A6 (eC (.o rfl) (xT)) rfl (Vj _ (C2 V).2 _ (hS.own 6 rfl) oQ) ?_)))
    rintro _ w41 ⟨rfl,uw41⟩
    replace hS:=hS.Dw 6 rfl uw41
    refine Ai ?_
    obtain⟨vp,hvpe⟩:∃vp:VP,vp=⟨⟨wf,(C2 V).1,F3 (C2 V).2⟩,ad2,cp2⟩:=⟨_,rfl⟩
    have hB18v:Blk w41 B18 (VP.cells vp) 101:=by rw[hvpe,show VP.cells ⟨⟨wf,(C2 V).1,F3 (C2 V).2⟩,ad2,cp2⟩=#[vi wf,vi (C2 V).1,.slice ad2 (C2 V).2.length cp2]by unfold VP.cells VP.uv;rw[H6]];exact hS.blk 5 rfl
    refine Aa (I rfl (U (.lc rfl (hB18v.agg)) (Ao (.buildSlice (xs:=[vp]) (enc:=VP.cells) (mk:=fun p=>.agg p.cells) underlying32 sizeOf101 zeroValue101 rfl cQ (fun _=>rfl) (fun _=>rfl) (.cu rfl) rfl) rfl ?_)))
    rintro _ w42 ⟨B174,cB174,rfl,NB174,yB174,xB174⟩
    replace hS:=hS.up NB174.up
    have hE174:=xB174
    refine Ao (.Cu (enc:=VP.cells) (bytes:=40) (i:=Tryz.t101) underlying32 kQ rfl rfl rfl rfl cQ (fun _=>rfl) VP.one (.t rfl) (.t rfl) (hS.own 3 rfl) (Av hE174) (by simp only[maxLen,List.length_cons,List.length_nil];omega) (by simp only[List.length_cons,List.length_nil];omega)) rfl ?_
    intro v175 w43 Gw43
    replace hS:=hS.Dw 3 rfl Gw43
    refine LW.A rfl (LW.nil (Ad (Ac (Aa (U (.ic rfl oQ) (I rfl (LW.nil (Ar ?_))))))))
    exact⟨(k+1,v175,L++[vp]),⟨by show k+1≤_;omega,by show(L++[vp]).map VP.vd=_;rw[List.map_append,hL,Ce hy,List.map_append,hvpe];show _++[(⟨wf,(C2 V).1,F3 (C2 V).2⟩:Vd)]=_;rw[hvd];rfl,by subst hvpe;rw[←Vb];rw[←H6 (C2 V).2]at hS;exact Ve (Bs:=[_,_,_,_]) (hS.sub (.cons_cons _ (.cons_cons _ (.cons_cons _ (.cons_cons _ (.cons_cons _ (.cons _ (.cons_cons _ .slnil))))))))⟩,tQ,by show(Cv b.Lots b.Processes b.Swaps).length-(k+1)<(Cv b.Lots b.Processes b.Swaps).length-k;omega⟩
   skip
   have zw40:=hNx.size
   replace hS:=hS.Dw 1 rfl (Vf (hS.get 1 rfl) hjl (Hd hNx))
   obtain⟨⟨id,sr⟩,hqm,hqe⟩:=List.mem_map.1 hNx.mem
   cases hqe
   have hfr:=hNx.fresh
   have hV2:((V++[(id,sr)]).map (·.1)).Nodup:=by rw[List.map_append];exact List.nodup_append.2 ⟨hV,by simp,fun a ha c hc=>by simp at hc;subst hc;exact fun e=>hfr (e▸ha)⟩
   have hVs2:∀q∈V++[(id,sr)],q∈e.L:=fun q hq=>(List.mem_append.1 hq).elim (hVs q) fun h=>by rw[List.mem_singleton.1 h];exact hqm
   have hVl:V.length<e.L.length:=(by have h5:=hV2.length_le_of_subset (l₂:=e.L.map (·.1)) (fun k hk=>by obtain⟨q,hq,rfl⟩:=List.mem_map.1 hk;exact List.mem_map.2 ⟨q,hVs2 q hq,rfl⟩);simp only[List.length_map,List.length_append,List.length_cons,List.length_nil]at h5;omega)
   have hvl:=Od V
   have hvt:=pS V
   have hel:=hDk e (List.mem_of_getElem? hje)
   refine U (.xt rfl rfl) (Am (CW.v rfl (Aj (Ac (Ae (Af (Ao (.entry (.t rfl) hNx.entry) rfl ?_)))))))
   rintro _ _ ⟨rfl,rfl⟩
   refine U (.xt rfl rfl) (U (.xt rfl rfl) (LW.A rfl (LW.A rfl (Am (Ae (Af (I rfl (I rfl (LW.gr rfl (fun hc=>PEv.fB 1 rfl) (LW.gr rfl (fun hc=>PEv.load isAgg3 vQ (hS.b5.Ak rfl)) (LW.gr rfl (fun hc=>PEv.lss vQ (.const _)) (U (.pa rfl (fun hp=>(by exact .cond rfl (by(rw[hp];rfl))))) (LW.A rfl (Ai (CW.b rfl (fun h142=>?_) (fun h142=>?_))))))))))))))))
   ·replace h142:=dQ h142
    obtain⟨hs1,ht1⟩:sr=true∧(C2 V).1≠2:=by have h5:=h142;simp at h5;exact⟨h5.1,by omega⟩
    subst hs1
    refine Aa (U (.fB 1 rfl) (A9 (.store sizeOf3 (.t rfl) (.const _) rfl hS.b5 bQ) ?_))
    intro w44 Nw44
    replace hS:=hS.Dz 5 rfl (show Set_ _ w44 _ (#[vi wf,vi 2,v2]) _ from Nw44)
    refine U (.fB 2 rfl) (A9 (.store sizeOf37 (.t rfl) (.const _) rfl hS.b5 bQ) ?_)
    intro w45 Nw45
    replace hS:=hS.Dz 5 rfl (show Set_ _ w45 _ (#[vi wf,vi 2,.slice none 0 0]) _ from Nw45)
    refine LW.nil (Ad (Ac ?_))
    replace hS:=hS.step 6 rfl (Fr.refl _ _) (A':=J 3 1 A5 (.slice none 0 0) []) (OwnS.nil _ _ _ _ _) (fun i h=>by cases h)
    refine Aa (U (.fB 2 rfl) (U (.lb rfl (hS.b5.Ak rfl)) (I rfl (Ao (.buildSlice (xs:=[id]) (enc:=A5) (mk:=vi) underlying37 sizeOf3 zeroValue3 rfl cQ (fun _=>rfl) (fun _=>rfl) (.cu rfl) rfl) rfl ?_))))
    rintro _ w46 ⟨B166,cB166,rfl,NB166,yB166,xB166⟩
    replace hS:=hS.up NB166.up
    have hE166:=xB166
    refine Ao (.Cu (enc:=A5) (bytes:=8) (i:=Tryz.t3) underlying37 kQ rfl rfl rfl rfl cQ (fun _=>rfl) Eh (.t rfl) (.t rfl) (hS.own 6 rfl) (Av hE166) (by simp only[maxLen,List.length_cons,List.length_nil];omega) (by simp only[List.length_cons,List.length_nil];omega)) rfl ?_
    intro v167 w47 Gw47
    replace hS:=hS.Dw 6 rfl Gw47
    refine U (.fB 2 rfl) (A9 (.store sizeOf37 (.t rfl) (.t rfl) ((hS.own 6 rfl).zP (fun _=>rfl)) hS.b5 bQ) ?_)
    intro w48 Nw48
    replace hS:=hS.Dz 5 rfl Nw48
    refine LW.nil (Ad (Ar ?_))
    exact⟨(V++[(id,true)],v167),⟨hV2,hVs2,by rw[List.map_append];(rw[cL ht1];exact hS)⟩,tQ,by show e.L.length-(V++[_]).length<e.L.length-V.length;rw[List.length_append];show e.L.length-(V.length+1)<_;omega⟩
   replace h142:=dQ h142
   have hn142:=h142
   refine Af (I rfl (U (.n1 rfl) (I rfl (LW.gr rfl (fun hc=>PEv.fB 1 rfl) (LW.gr rfl (fun hc=>PEv.load isAgg3 vQ (hS.b5.Ak rfl)) (LW.gr rfl (fun hc=>PEv.eql vQ (.const _)) (U (.pa rfl (fun hp=>(by exact .cond rfl (by(rw[hp];rfl))))) (LW.A rfl (Ai (CW.b rfl (fun h151=>?_) (fun h151=>?_)))))))))))
   ·replace h151:=dQ h151
    obtain⟨hs1,ht1⟩:sr=false∧(C2 V).1=2:=by have h5:=h151;simp at h5;exact h5
    subst hs1
    refine A4 (Mi cQ (Ab (An (Ar ?_))))
    exact⟨(V++[(id,false)],v2),⟨hV2,hVs2,by rw[List.map_append];(rw[cO ht1];exact hS)⟩,tQ,by show e.L.length-(V++[_]).length<e.L.length-V.length;rw[List.length_append];show e.L.length-(V.length+1)<_;omega⟩
   replace h151:=dQ h151
   have hn151:=h151
   refine Af (I rfl (U (.n1 rfl) (LW.A rfl (Ai (CW.b rfl (fun h159=>?_) (fun h159=>?_))))))
   ·replace h159:=dQ h159
    obtain⟨hs1,ht1⟩:sr=false∧(C2 V).1≠2:=by have h5:=h159;have h6:=hn151;simp at h5 h6;exact⟨h5,h6 h5⟩
    subst hs1
    refine Aa (U (.fB 1 rfl) (A9 (.store sizeOf3 (.t rfl) (.const _) rfl hS.b5 bQ) ?_))
    intro w49 Nw49
    replace hS:=hS.Dz 5 rfl (show Set_ _ w49 _ (#[vi wf,vi 1,v2]) _ from Nw49)
    refine LW.nil (Ad (Ac (Aa (U (.fB 2 rfl) (U (.lb rfl (hS.b5.Ak rfl)) (I rfl (Ao (.buildSlice (xs:=[id]) (enc:=A5) (mk:=vi) underlying37 sizeOf3 zeroValue3 rfl cQ (fun _=>rfl) (fun _=>rfl) (.cu rfl) rfl) rfl ?_)))))))
    rintro _ w50 ⟨B166,cB166,rfl,NB166,yB166,xB166⟩
    replace hS:=hS.up NB166.up
    have hE166:=xB166
    refine Ao (.Cu (enc:=A5) (bytes:=8) (i:=Tryz.t3) underlying37 kQ rfl rfl rfl rfl cQ (fun _=>rfl) Eh (.t rfl) (.t rfl) (hS.own 6 rfl) (Av hE166) (by simp only[maxLen,List.length_cons,List.length_nil];omega) (by simp only[List.length_cons,List.length_nil];omega)) rfl ?_
    intro v167 w51 Gw51
    replace hS:=hS.Dw 6 rfl Gw51
    refine U (.fB 2 rfl) (A9 (.store sizeOf37 (.t rfl) (.t rfl) ((hS.own 6 rfl).zP (fun _=>rfl)) hS.b5 bQ) ?_)
    intro w52 Nw52
    replace hS:=hS.Dz 5 rfl Nw52
    refine LW.nil (Ad (Ar ?_))
    exact⟨(V++[(id,false)],v167),⟨hV2,hVs2,by rw[List.map_append];(rw[cP ht1];exact hS)⟩,tQ,by show e.L.length-(V++[_]).length<e.L.length-V.length;rw[List.length_append];show e.L.length-(V.length+1)<_;omega⟩
   replace h159:=dQ h159
   obtain⟨hs1,ht1⟩:sr=true∧(C2 V).1=2:=by have h5:=h159;have h6:=hn142;simp at h5 h6;exact⟨h5,by have:=h6 h5;omega⟩
   subst hs1
   refine Aj (Ad (Ac (Aa (U (.fB 2 rfl) (U (.lb rfl (hS.b5.Ak rfl)) (I rfl (Ao (.buildSlice (xs:=[id]) (enc:=A5) (mk:=vi) underlying37 sizeOf3 zeroValue3 rfl cQ (fun _=>rfl) (fun _=>rfl) (.cu rfl) rfl) rfl ?_)))))))
   rintro _ w53 ⟨B166,cB166,rfl,NB166,yB166,xB166⟩
   replace hS:=hS.up NB166.up
   have hE166:=xB166
   refine Ao (.Cu (enc:=A5) (bytes:=8) (i:=Tryz.t3) underlying37 kQ rfl rfl rfl rfl cQ (fun _=>rfl) Eh (.t rfl) (.t rfl) (hS.own 6 rfl) (Av hE166) (by simp only[maxLen,List.length_cons,List.length_nil];omega) (by simp only[List.length_cons,List.length_nil];omega)) rfl ?_
   intro v167 w54 Gw54
   replace hS:=hS.Dw 6 rfl Gw54
   refine U (.fB 2 rfl) (A9 (.store sizeOf37 (.t rfl) (.t rfl) ((hS.own 6 rfl).zP (fun _=>rfl)) hS.b5 bQ) ?_)
   intro w55 Nw55
   replace hS:=hS.Dz 5 rfl Nw55
   refine LW.nil (Ad (Ar ?_))
   exact⟨(V++[(id,true)],v167),⟨hV2,hVs2,by rw[List.map_append];(rw[cM ht1];rw[ht1]at hS;exact hS)⟩,tQ,by show e.L.length-(V++[_]).length<e.L.length-V.length;rw[List.length_append];show e.L.length-(V.length+1)<_;omega⟩
 replace h128:=dQ h128
 refine A4 (Ab (Ab (An (Ac (Af (I rfl (LW.A rfl (Ai (Al (KW.q ?_))))))))))
 exact⟨v,L,rfl,by rw[hL,show k=(Cv b.Lots b.Processes b.Swaps).length by omega,List.take_length];unfold Im;rw[if_pos hex],hS.sub (.cons _ (.cons _ (.cons _ (.cons_cons _ (.cons_cons _ .slnil)))))⟩
theorem Gj(c n:Int)(w:World)(hn:n≠0):Ret prog 16 #[vi c,vi n] w fun r w'=>r=vi (Bi c n)∧Up w w':=by
 have hW:=Up.refl w
 refine cT 13 func16 rfl ?_
 refine Af (Az (Am (Af (I rfl ?_))))
 refine U (.lss (.t rfl) (.const _)) ?_
 refine Ai ?_
 refine CW.b rfl (fun h6=>?_) (fun h6=>?_)
 ·replace h6:=dQ h6
  refine Aa (I rfl ?_)
  refine U (.Gy (.t rfl) (.const _)) ?_
  refine U (.neg underlying3 (.t rfl)) ?_
  refine LW.A rfl (Am (Aa (I rfl (I rfl ?_))))
  refine U (.rem (.t rfl) (.t rfl) oQ) ?_
  refine LW.A rfl (Ai (Al ?_))
  refine KW.q ?_
  exact⟨by first|(rw[Bi,if_pos h6])|(rw[Bi,if_neg (by omega)]),hW⟩
 replace h6:=dQ h6
 refine Aj (Ac (Af (I rfl (I rfl ?_))))
 refine U (.rem (.t rfl) (.t rfl) oQ) ?_
 refine LW.A rfl (Ai (Al ?_))
 refine KW.q ?_
 exact⟨by first|(rw[Bi,if_pos h6])|(rw[Bi,if_neg (by omega)]),hW⟩
theorem Zr(y:I4)(w:World):Ret prog 9 #[.agg y.cells] w fun r w'=>r=.agg (Ln y).cells∧Up w w':=by
 obtain⟨w0,rfl,hS⟩:=W0 w
 refine cT 20 func9 rfl ?_
 refine Af ?_
 refine Ao (.bA rfl) rfl ?_
 rintro _ w1 ⟨B1,rfl,NB1⟩
 have eB1:=NB1.at_
 have zB1:=NB1.size
 replace hS:=hS.Cg NB1
 change Wx.Sep _ _ _ [_]at hS
 refine Ao (.Br zeroValue35) rfl ?_
 rintro _ w2 ⟨B2,rfl,NB2⟩
 have eB2:=NB2.at_
 have zB2:=NB2.size
 replace hS:=hS.Cg NB2
 change Wx.Sep _ _ _ [_,_]at hS
 refine Am (Aa ?_)
 refine U (.Cn (j:=1) underlying24 sizeOf3 (.t rfl) (.const _) cQ) ?_
 refine U (.lb rfl (hS.b0.Ak rfl)) ?_
 refine A6 (eC (.ct rfl (.cons (.const _) .nil)) (Xp)) rfl (Gj _ _ _ cQ) ?_
 rintro _ w3 ⟨rfl,uw3⟩
 have zw3:=uw3.size
 replace hS:=hS.up uw3
 refine LW.A rfl (Am ?_)
 refine Dh 13 kQ kQ kQ kQ kQ rfl rfl ?_
 refine Au (.Cn (j:=0) underlying24 sizeOf3 (.t rfl) (.const _) cQ) ?_
 refine Au (.lb rfl (hS.b0.Ak rfl)) ?_
 refine HW.c (fun a w _ ha=>Ct (.ct rfl (.cons (.const _) .nil)) (Xp) a ha) rfl rfl (fun w hu=>Gj _ _ w cQ) ?_
 refine Au (.mv rfl) ?_
 refine Au (.mv rfl) ?_
 refine Au (.Cn (j:=2) underlying24 sizeOf3 (.t rfl) (.const _) cQ) ?_
 refine Au (.lb rfl (hS.b0.Ak rfl)) ?_
 refine HW.c (fun a w _ ha=>Ct (.ct rfl (.cons (.const _) .nil)) (Xp) a ha) rfl rfl (fun w hu=>Gj _ _ w cQ) ?_
 refine Au (.Gy (.t rfl) (.t rfl)) ?_
 refine Au (.Cn (j:=3) underlying24 sizeOf3 (.t rfl) (.const _) cQ) ?_
 refine Au (.lb rfl (hS.b0.Ak rfl)) ?_
 refine HW.c (fun a w _ ha=>Ct (.ct rfl (.cons (.const _) .nil)) (Xp) a ha) rfl rfl (fun w hu=>Gj _ _ w cQ) ?_
 refine Au (.build (cs:=(Ln y).cells) underlying35 zeroValue35 Tm (.ct rfl (.ct rfl (.ct rfl (.cu rfl)))) rfl) ?_
 refine HW.nil ?_
 intro w4 uw4
 have zw4:=uw4.size
 replace hS:=hS.up uw4
 refine A9 (.Ca sizeOf35 rfl (.t rfl) (.t rfl) (Exc.one _) hS.b1 rfl) ?_
 intro w5 Nw5
 have zw5:=Nw5.size
 replace hS:=hS.Dz 1 rfl (show Set_ _ w5 _ ((Ln y).cells) _ from Nw5)
 change Wx.Sep _ _ _ [_,_]at hS
 refine Ai (Al ?_)
 refine F6 rfl rfl isAgg35 sizeOf35 rfl (hS.b1.agg) ⟨_,rfl,?_⟩
 exact⟨rfl,hS.Ch⟩
set_option maxHeartbeats 2000000 in
theorem pT(ad:Option Addr)(cp:Nat)(ys:List I3)(w:World)(hE0:Els w ad 3 I3.cells ys):Ret prog 7 #[.slice ad ys.length cp] w fun r w'=>OwnS w' w.heap.size 74 19 Fact.cells r (Zn ys)∧Up w w':=by
 obtain⟨w0,rfl,hS⟩:=W0 w
 refine cT 44 func7 rfl ?_
 refine Af (Az (Am (Aa (Az (Am (Ah ?_))))))
 replace hS:=hS.add (Up.refl _) (A':=J 74 19 Fact.cells (.slice none 0 0) ([]:List Fact)) (OwnS.nil _ _ _ _ _) (fun i h=>by cases h)
 change Wx.Sep _ _ _ [_]at hS
 refine Aa (Az (Ai (Ae ?_)))
 refine A3 (σ:=Nat×Go.Value) (fun s w=>(s.1≤ys.length∧s.1≤5)∧(Wx.Sep no w0 w [J 74 19 Fact.cells s.2 (Io ys s.1)])) (fun s=>[(4,.eq (vi (s.1:Int))),(3,.eq (s.2))]) ([(0,.eq _),(2,.eq _)]) (fun s=>ys.length-s.1) (0,.slice none 0 0) ?_ tQ ?_
 ·exact⟨⟨Nat.zero_le _,Nat.zero_le _⟩,hS⟩
 rintro⟨k,v⟩ w1 ⟨hk,hS⟩
 dsimp only at hk hS
 change CW _ _ _ _ _ _ _ ([(4,.eq (vi (k:Int))),(3,.eq (v))]++_) _
 refine Ah (Ah ?_)
 skip
 refine Aa (I rfl (I rfl ?_))
 refine U (.Cw underlying23 (.t rfl)) ?_
 refine U (.l2 rfl rfl) ?_
 refine I rfl ?_
 refine Ey rfl rfl ?_
 refine LW.gr rfl (fun hc=>PEv.lss vQ (.const _)) ?_
 refine U (.pa rfl (fun hp=>(by first|exact .const _|exact .tmp rfl|exact .cond rfl (by first|assumption|simp_all)))) ?_
 refine Ai ?_
 refine CW.b rfl (fun h13=>?_) (fun h13=>?_)
 ·replace h13:=dQ h13
  refine Aj (Ac (Ah (Ae (Ah ?_))))
  have hkl:k<ys.length∧k<5:=by simp at h13;omega
  have hsl:=Vg ys k
  refine Aa (I rfl (I rfl ?_))
  obtain⟨y,hy⟩:=Aq (xs:=ys) (i:=k) oQ
  obtain⟨By,oy,ay,hcy⟩:=(Els.up hE0 hS.Ch) _ y hy
  refine U (.Aw underlying23 sizeOf88 (.t rfl) (.t rfl) oQ ay) ?_
  refine U (.Cn (j:=1) underlying88 sizeOf3 (.t rfl) (.const _) cQ) ?_
  refine U (.lb rfl (hcy.nth (j:=1) rfl)) ?_
  refine A6 (eC (.ct rfl (.cons (.const _) .nil)) (Xp)) rfl (Gj _ _ _ cQ) ?_
  rintro _ w2 ⟨rfl,uw2⟩
  have zw2:=uw2.size
  replace hS:=hS.up uw2
  replace hcy:=hcy.up uw2
  refine LW.A rfl (Ai ?_)
  have hcz:AggAt w0 By (oy+k*3) y.cells:=by obtain⟨B_,o_,e_,hc_⟩:=hE0 k y hy;rw[ay]at e_;cases e_;exact hc_
  refine pP (fun b W=>match b with|false=>Wx.Sep no w0 W [J 74 19 Fact.cells v (Io ys k)]|true=>∃v,Wx.Sep no w0 W [J 74 19 Fact.cells v (Io ys k++[Ss k y])]) 21 20 [19] [] [.eq (v),.eq (vi ((k:Int))),.eq (vi (1+(k:Int))),.eq (.slice ad ys.length cp),.eq (vi ((k:Int))),.eq (.pointer (some ⟨By,oy+k*3,none⟩)),.eq (.pointer (some ⟨By,oy+k*3+0,none⟩)),.eq (vi (y.a)),.eq (vi (Bi y.a 3)),.eq (vi (Bi y.b 60)),.eq (vi (Bi y.b 60)),.eq (.slice ad ys.length cp),.eq (vi ((k:Int))),.eq (.pointer (some ⟨By,oy+k*3,none⟩)),.eq (.pointer (some ⟨By,oy+k*3+2,none⟩)),.eq (vi (y.c)),.eq (vi (Bi y.c 20)),.eq (vi (wI (Bi y.b 60+Bi y.c 20))),.eq (.agg (Ss k y).cells),.pred fun v W=>Sl W v 19 Fact.cells [Ss k y],.pred fun v W=>OwnS W w0.heap.size 74 19 Fact.cells v (Io ys k++[Ss k y])] [42] (fun _ _=>True) kQ rfl kQ kQ kQ kQ kQ kQ kQ kQ kQ kQ ⟨PhU.eq _,PhU.eq _,PhU.eq _,PhU.eq _,PhU.eq _,PhU.eq _,PhU.eq _,PhU.eq _,PhU.eq _,PhU.eq _,PhU.eq _,PhU.eq _,PhU.eq _,PhU.eq _,PhU.eq _,PhU.eq _,PhU.eq _,PhU.eq _,PhU.eq _,PhU.pred fun _ _ _ h u=>Sl.up h u,PhU.pred fun _ _ _ h u=>OwnS.up h u,trivial⟩ ⟨.inr (fun _ _ _ h _=>h),.inr (fun _ _ _ h _=>h),.inr (fun _ _ _ h _=>h),.inr (fun _ _ _ h _=>h),.inr (fun _ _ _ h _=>h),.inr (fun _ _ _ h _=>h),.inr (fun _ _ _ h _=>h),.inr (fun _ _ _ h _=>h),.inr (fun _ _ _ h _=>h),.inr (fun _ _ _ h _=>h),.inr (fun _ _ _ h _=>h),.inr (fun _ _ _ h _=>h),.inr (fun _ _ _ h _=>h),.inr (fun _ _ _ h _=>h),.inr (fun _ _ _ h _=>h),.inr (fun _ _ _ h _=>h),.inr (fun _ _ _ h _=>h),.inr (fun _ _ _ h _=>h),.inr (fun _ _ _ h _=>h),.inl rfl,.inl rfl,trivial⟩ (hS.up (Up.drew _)) (fun b W W' h u=>by cases b;exact Sep.up h u;exact⟨_,Sep.up h.choose_spec u⟩) ?_ ?_
  ·intro b_ W hG
   have hSW:Up w0 W:=by cases b_;exact Sep.Ch hG;exact Sep.Ch hG.choose_spec
   refine aC ⟨rfl,fun _=>TU.p (.mv rfl) rfl,fun h=>absurd h cQ⟩ ?_
   refine aC ⟨rfl,fun _=>TU.p (.mv rfl) rfl,fun h=>absurd h cQ⟩ ?_
   refine aC ⟨rfl,fun _=>TU.p (.add (.const _) (.t rfl) oQ oQ) rfl,fun h=>absurd h cQ⟩ ?_
   refine aC ⟨rfl,fun _=>TU.p (.mv rfl) rfl,fun h=>absurd h cQ⟩ ?_
   refine aC ⟨rfl,fun _=>TU.p (.mv rfl) rfl,fun h=>absurd h cQ⟩ ?_
   refine aC ⟨rfl,fun _=>TU.p (.Aw (j:=k) underlying23 sizeOf88 (.t rfl) (.t rfl) oQ ay) rfl,fun h=>absurd h cQ⟩ ?_
   refine aC ⟨rfl,fun _=>TU.p (.Cn (j:=0) underlying88 sizeOf3 (.t rfl) (.const _) cQ) rfl,fun h=>absurd h cQ⟩ ?_
   refine aC ⟨rfl,fun _=>TU.p (.lb rfl (AggAt.nth (j:=0) (AggAt.up hcz hSW) rfl)) rfl,fun h=>absurd h cQ⟩ ?_
   refine aC ⟨rfl,fun _=>TU.c (eC (.ct rfl (.cons (.const _) .nil)) (Xp)) (Gj _ _ _ cQ) sQ,fun h=>absurd h cQ⟩ ?_
   refine aC ⟨rfl,fun _=>TU.p (.mv rfl) rfl,fun h=>absurd h cQ⟩ ?_
   refine aC ⟨rfl,fun _=>TU.p (.mv rfl) rfl,fun h=>absurd h cQ⟩ ?_
   refine aC ⟨rfl,fun _=>TU.p (.mv rfl) rfl,fun h=>absurd h cQ⟩ ?_
   refine aC ⟨rfl,fun _=>TU.p (.mv rfl) rfl,fun h=>absurd h cQ⟩ ?_
   refine aC ⟨rfl,fun _=>TU.p (.Aw (j:=k) underlying23 sizeOf88 (.t rfl) (.t rfl) oQ ay) rfl,fun h=>absurd h cQ⟩ ?_
   refine aC ⟨rfl,fun _=>TU.p (.Cn (j:=2) underlying88 sizeOf3 (.t rfl) (.const _) cQ) rfl,fun h=>absurd h cQ⟩ ?_
   refine aC ⟨rfl,fun _=>TU.p (.lb rfl (AggAt.nth (j:=2) (AggAt.up hcz hSW) rfl)) rfl,fun h=>absurd h cQ⟩ ?_
   refine aC ⟨rfl,fun _=>TU.c (eC (.ct rfl (.cons (.const _) .nil)) (Xp)) (Gj _ _ _ cQ) sQ,fun h=>absurd h cQ⟩ ?_
   refine aC ⟨rfl,fun _=>TU.p (.Gy (.t rfl) (.t rfl)) rfl,fun h=>absurd h cQ⟩ ?_
   refine aC ⟨rfl,fun _=>TU.p (.build (cs:=(Ss k y).cells) underlying74 zeroValue74 G5 (.cons (.const _) (.cons (.const _) (.ct rfl (.ct rfl (.ct rfl (.cu rfl)))))) rfl) rfl,fun h=>absurd h cQ⟩ ?_
   refine aC ⟨rfl,fun _=>TU.r (REv.buildSlice (xs:=[Ss k y]) (enc:=Fact.cells) (mk:=fun f:Fact=>.agg f.cells) underlying26 sizeOf74 zeroValue74 rfl bQ (fun _=>rfl) (fun _=>rfl) (.cu rfl) rfl) (fun v W' h=>h.q),fun h=>absurd h cQ⟩ ?_
   refine aC ⟨rfl,fun h=>absurd rfl h,fun _ hb a ha=>?_⟩ ?_
   ·subst hb
    have h2:=ha.known (p:=fun v W=>Sl W v 19 Fact.cells [Ss k y]) (t:=41) rfl
    obtain⟨v',W',hr,hG2⟩:=REv.Cu (enc:=Fact.cells) (bytes:=160) (i:=Tryz.t74) underlying26 kQ rfl rfl rfl rfl cQ (fun _=>rfl) Fact.one (.tmp (t:=22) rfl) (.tmp (t:=41) rfl) (Sep.own hG 0 rfl) h2 (by rw[List.length_singleton];unfold maxLen;omega) (by rw[List.length_singleton];omega) a (ha.Zj (t:=41) rfl)
    exact .inl ⟨v',W',hr,⟨⟨v',Sep.Dw hG 0 rfl hG2⟩,trivial⟩,OwnS.Il hG2.holds fun i hi=>(hG2.sub i hi).elim (fun h=>((hG.each _ (List.mem_singleton.2 rfl)).2 i h).resolve_left (fun h=>h)) (fun h=>Nat.le_trans hSW.size h)⟩
   exact allL.nil
  intro b_ w3 g hG hg
  have hO42:OwnS w3 w0.heap.size 74 19 Fact.cells (g 42) (Io ys k++[Ss k y]):=hg 20 _ 42 cQ rfl rfl rfl
  change LW _ _ _ _ _ _ _ _ ((42,.eq (g 42))::_) _
  generalize g 42=v42 at hO42⊢
  have hSW:Up w0 w3:=by cases b_;exact Sep.Ch hG;exact Sep.Ch hG.choose_spec
  clear hg hG
  replace hS:=(Sep.start no w0).add hSW (A':=J 74 19 Fact.cells v42 (Io ys k++[Ss k y])) (hO42.mono (Nat.zero_le _)) (fun i h=>hO42.base i h)
  change Wx.Sep _ _ _ [_]at hS
  refine LW.A rfl (LW.nil (Ad (Ac (Aa (I rfl ?_)))))
  refine U (.ic rfl oQ) ?_
  refine LW.A rfl (LW.nil (Ar ?_))
  exact⟨(k+1,v42),⟨⟨by show k+1≤_;omega,by show k+1≤_;omega⟩,by rw[dE hy];exact hS⟩,tQ,by show ys.length-(k+1)<ys.length-k;omega⟩
 replace h13:=dQ h13
 refine A4 (Ab (Ab (An (Ac (Af (I rfl (LW.A rfl (Ai (Al ?_)))))))))
 refine KW.q ?_
 rw[show k=min ys.length 5 by simp at h13;omega]at hS
 exact⟨Ih hS,hS.Ch⟩
theorem dI(cf:Nat)(lb:Array Go.Value)(p:VP→Bool)(hen:∀args w,(callFunc cf args).run Tryz.prog w=.ok (.enter cf args) w)(ad:Option Addr)(cp:Nat)(l:List VP)(w:World)(hE0:Els w ad 3 VP.cells l)(hl:l.length≤100000)(hp:∀W,Up w W→∀x,Ret Tryz.prog cf (#[.agg (VP.cells x)]++lb) W fun r W'=>r=.bool (p x)∧Up W W'):Ret prog 179 #[.slice ad l.length cp,.func (.func cf) #[] lb] w fun r w'=>∃i,r=vi i∧uH p l i∧Up w w':=by
 have hW:=Up.refl w
 obtain⟨w0,rfl,_⟩:=W0 w
 refine cT 19 func179 rfl (Af (Az (Am (Af (I rfl (U (.Cw underlying32 (.t rfl)) (U (.move (.const _)) (Ai (Ae (A3 (σ:=Nat) (fun s w=>(s≤l.length)∧(∀y∈l.take s,p y=false)∧(Up w0 w)) (fun s=>[(8,.eq (vi (s:Int)))]) ([(0,.eq _),(1,.eq _),(7,.eq _)]) (fun s=>l.length-s) 0 ?_ tQ ?_))))))))))
 ·exact⟨Nat.zero_le _,by simp,hW⟩
 rintro k w1 ⟨hk,hn,hW⟩
 refine Af (U (.l2 rfl rfl) (Am (CW.b rfl (fun h9=>?_) (fun h9=>?_))))
 ·replace h9:=dQ h9
  refine Aj (Ac (Ah (Ae (Af (I rfl (LW.A rfl (Am ?_)))))))
  have hE:=Els.up hE0 hW
  refine Aa (I rfl (I rfl (I rfl ?_)))
  obtain⟨x,hx⟩:=Aq (xs:=l) (i:=k) oQ
  obtain⟨Bx,ox,ax,hcx⟩:=hE _ x hx
  refine U (.Aw underlying32 sizeOf101 (.t rfl) (.t rfl) oQ ax) (U (.lc rfl (hcx)) (A6 (Cc (.t rfl) (.cu rfl) (hen)) rfl (hp _ hW x) ?_))
  rintro _ w2 ⟨rfl,uw2⟩
  replace hW:=hW.up uw2
  replace hcx:=hcx.up uw2
  refine Ai (CW.b rfl (fun h16=>?_) (fun h16=>?_))
  ·replace h16:=dQ h16
   refine Af (I rfl (LW.A rfl (Ai (Al (Ay (Ap (Ap (Ay (Ap (KW.q ?_))))))))))
   exact⟨_,rfl,.inl ⟨k,x,rfl,hx,by simpa using h16,hn⟩,hW⟩
  replace h16:=dQ h16
  refine Aj (Ad (Ac (Aa (U (.ic rfl oQ) (I rfl (LW.nil (Ar ?_)))))))
  exact⟨k+1,⟨by omega,Ki hx hn (by simpa using h16),hW⟩,tQ,by omega⟩
 replace h9:=dQ h9
 refine A4 (Ab (Ab (An (Ac (Af (Az (Ai (Al (KW.q ?_)))))))))
 exact⟨-1,rfl,.inr ⟨rfl,by rw[show k=l.length by omega,List.take_length]at hn;exact hn⟩,hW⟩
theorem Zt(cf:Nat)(lb:Array Go.Value)(p:VP→Bool)(hen:∀args w,(callFunc cf args).run Tryz.prog w=.ok (.enter cf args) w)(ad:Option Addr)(cp:Nat)(l:List VP)(w:World)(ho:OwnS w 0 101 3 VP.cells (.slice ad l.length cp) l)(hl:l.length≤100000)(hp:∀W,Fr (J 101 3 VP.cells (.slice ad l.length cp) (l)).foot w W→∀x,Ret Tryz.prog cf (#[.agg (VP.cells x)]++lb) W fun r W'=>r=.bool (p x)∧Up W W'):Ret prog 93 #[.slice ad l.length cp,.func (.func cf) #[] lb] w fun r w'=>Stp (J 101 3 VP.cells (.slice ad l.length cp) (l)) (J 101 3 VP.cells (r) (l.filter fun x=> !p x)) w w':=by
 obtain⟨w0,rfl,_⟩:=W0 w
 have hS:Wx.Sep (J 101 3 VP.cells (.slice ad l.length cp) (l)).foot w0 w0 [J 101 3 VP.cells (.slice ad l.length cp) (l)]:=Sep.cons ho (fun _ h=>h) (Sep.start _ _) (by simp)
 refine cT 42 func93 rfl (Af (Az (Am (Aa (I rfl (I rfl (A6 (eC (.u rfl rfl) (DK)) rfl (dI cf lb p hen ad cp l _ ((hS.own 0 rfl).els (fun _=>rfl)) hl (fun W u x=>hp W (hS.fr.trans (u.fr _)) x)) ?_)))))))
 rintro _ w1 ⟨i,rfl,hi,uw1⟩
 replace hS:=hS.up uw1
 refine LW.A rfl (Am (Af (I rfl (U (.eql (.t rfl) (.const _)) (Ai (CW.b rfl (fun h12=>?_) (fun h12=>?_)))))))
 ·replace h12:=dQ h12
  have hn:=(hi.resolve_left (fun⟨k,x,e,_⟩=>by omega)).2
  refine Af (I rfl (LW.A rfl (Ai (Al (Ap (KW.q ?_))))))
  exact⟨hS.fr,by rw[dG hn];exact hS.get 0 rfl,fun _ h=>.inl h⟩
 replace h12:=dQ h12
 refine Aj (Ac (Ah (Ah ?_)))
 obtain⟨k,x,rfl,hx,hpx,hn⟩:=hi.resolve_right (fun⟨e,_⟩=>h12 e)
 have hkl:=(List.getElem?_eq_some_iff.1 hx).1
 obtain⟨g,rfl⟩:=(hS.own 0 rfl).JM oQ
 have hD0:=DelX.start hx hpx hn
 have hk0:k=(Hq p l (k+1)).length:=by rw[P1 hx hpx hn,List.length_take];omega
 refine Aa (I rfl (U (.ic rfl oQ) (LW.A rfl (Ai (Ae (A3 (σ:=Nat×Nat×List VP) (fun s w=>(s.1≤l.length)∧(s.2.1=(Hq p l s.1).length)∧(DelX p l s.2.2 s.1)∧(Wx.Sep (J 101 3 VP.cells (.slice (some ⟨g,0,none⟩) l.length cp) l).foot w0 w [J 101 3 VP.cells (.slice (some ⟨g,0,none⟩) l.length cp) s.2.2])) (fun s=>[(6,.eq (vi (s.1:Int))),(5,.eq (vi (s.2.1:Int)))]) ([(0,.eq _),(1,.eq _),(4,.eq _)]) (fun s=>l.length-s.1) (k+1,k,l) ?_ tQ ?_))))))
 ·exact⟨by show k+1≤_;omega,hk0,hD0,hS⟩
 rintro⟨j,i,M⟩ w2 ⟨hj,hi2,hD,hS⟩
 dsimp only at hj hi2 hD hS
 change CW _ _ _ _ _ _ _ ([(6,.eq (vi (j:Int))),(5,.eq (vi (i:Int)))]++_) _
 refine Ah (Af (I rfl (I rfl (U (.Cw underlying32 (.t rfl)) (U (.l2 rfl rfl) (Ai (CW.b rfl (fun h19=>?_) (fun h19=>?_))))))))
 ·replace h19:=dQ h19
  refine Aj (Ac (Ah (Ae (Ah ?_))))
  have hjl:j<l.length:=by omega
  obtain⟨x,hx⟩:=Aq (xs:=l) (i:=j) hjl
  have hxM:=(hD.rest j (Nat.le_refl _)).trans hx
  obtain⟨Bx,ox,ax,hcx⟩:=((hS.own 0 rfl).els (fun _=>rfl)) j x hxM
  cases ax
  refine Aa (I rfl (I rfl (U (.Aw underlying32 sizeOf101 (.t rfl) (.t rfl) oQ rfl) (U (.lc rfl (hcx)) (Ao (.Br zeroValue101) rfl ?_)))))
  rintro _ w3 ⟨B7,rfl,MB7⟩
  refine A9 (.Ca sizeOf101 rfl (.t rfl) (.t rfl) (VP.one _) MB7.blk rfl) ?_
  intro w4 LB7
  have NB7:=MB7.set LB7
  have eB7:=NB7.at_
  replace hS:=hS.Cg NB7
  refine Am (Aa (I rfl (U (.lc rfl (hS.b1.agg)) (A6 (Cc (.t rfl) (.cu rfl) (hen)) rfl (hp _ hS.fr x) ?_))))
  rintro _ w5 ⟨rfl,uw5⟩
  replace hS:=hS.up uw5
  refine U (.n1 rfl) (Ai (CW.b rfl (fun h29=>?_) (fun h29=>?_)))
  ·replace h29:=dQ h29
   refine Ah ?_
   have hkj:=Pc p l j
   have hMl:=hD.len
   have hpn:p x=false:=by simpa using h29
   have hky:=Vi hx hpn
   refine Aa (I rfl (I rfl (U (.lc rfl (hS.b1.agg)) (U (.Aw underlying32 sizeOf101 (.t rfl) (.t rfl) oQ rfl) (A9 (.Fz (enc:=VP.cells) (k:=3) (z:=x) (i:=i) sizeOf101 (fun _=>rfl) VP.one (.t rfl) (.t rfl) (hS.own 0 rfl) oQ) ?_)))))
   intro w6 Gw6
   replace hS:=hS.Dw 0 rfl Gw6
   refine Ai (Aa (I rfl (U (.ic rfl oQ) (LW.A rfl (LW.nil (Ad (Ac (Aa (I rfl (U (.ic rfl oQ) (LW.A rfl (LW.nil (Ar ?_)))))))))))))
   exact⟨(j+1,i+1,M.set i x),⟨by show j+1≤_;omega,by show i+1=_;rw[hky,hi2];simp,by show DelX p l (M.set i x) (j+1);rw[hi2];exact hD.yes hx hpn,hS.take 1⟩,tQ,by show l.length-(j+1)<l.length-j;omega⟩
  replace h29:=dQ h29
  refine Aj (Ad (Ac (Aa (I rfl (U (.ic rfl oQ) (LW.A rfl (LW.nil (Ar ?_))))))))
  exact⟨(j+1,i,M),⟨by show j+1≤_;omega,by show i=_;rw[Zo hx (by simpa using h29)];exact hi2,hD.no hx (by simpa using h29),hS.take 1⟩,tQ,by show l.length-(j+1)<l.length-j;omega⟩
 replace h19:=dQ h19
 refine A4 (Ab (Ab (An (Ac (Ah ?_)))))
 have hjl:j=l.length:=by omega
 have hkj:=Pc p l j
 have hMl:=hD.len
 have hcl:=(hS.own 0 rfl).JN
 refine Aa (I rfl (I rfl (U (.sliceFrom underlying32 sizeOf101 (.t rfl) (.t rfl) oQ) (xB (T9 (enc:=VP.cells) (k:=3) underlying32 zeroValue101 rfl (by simp[Value.cells,Value.oneCell']) (fun _=>rfl) (xs:=M) (i:=i) (by rw[hD.len];exact .tmp rfl) oQ (by rw[hD.len];exact hS.own 0 rfl)) rfl rfl rfl ?_))))
 intro v_ w7 Gw7
 rw[hD.len]at Gw7
 replace hS:=hS.Dw 0 rfl Gw7
 refine Am (Aa (I rfl (I rfl (U (.Nv underlying32 sizeOf101 (.t rfl) (.t rfl) oQ) (LW.A rfl (Ai (Al (KW.q ?_))))))))
 exact⟨hS.fr,by rw[←kP,←hjl,←hD.kept,←hi2];exact hS.get 0 rfl,fun _ h=>.inl h⟩
theorem dJ(ad:Option Addr)(cp:Nat)(l:List VP)(w:World)(hE0:Els w ad 3 VP.cells l)(hl:l.length≤100000):Ret prog 94 #[.slice ad l.length cp] w fun r w'=>OwnS w' w.heap.size 101 3 VP.cells r l∧Up w w':=by
 obtain⟨w0,rfl,hS⟩:=W0 w
 refine cT 8 func94 rfl (Af (Az (Am (Af (I rfl (U (.uG underlying32 (.t rfl)) (Ai (CW.b rfl (fun h4=>?_) (fun h4=>?_)))))))))
 ·have hnil:l=[]:=by cases l with|nil=>rfl|cons x r=>(obtain⟨B,o,e,_⟩:=hE0 0 x rfl;rw[e]at h4;cases h4)
  refine Af (Az (Ai (Al (Ap (KW.q ?_)))))
  (subst hnil;exact⟨OwnS.nil _ _ _ _ _,hS.Ch⟩)
 refine Aj (Ac (Af (Ao (.buildSlice (xs:=([]:List VP)) (enc:=VP.cells) (mk:=fun f=>.agg f.cells) underlying32 sizeOf101 zeroValue101 rfl cQ (fun _=>rfl) (fun _=>rfl) .nil rfl) rfl ?_)))
 intro v5 w1 hN5
 obtain⟨uw1,B5,rfl,hO5⟩:=Q9 hN5 (Nat.le_refl _)
 replace hS:=hS.add uw1 (A':=J 101 3 VP.cells (.slice (some ⟨B5,0,none⟩) 0 0) ([]:List VP)) (hO5.mono (Nat.zero_le _)) (fun i h=>hO5.base i h)
 refine I rfl (Ao (.Cu (enc:=VP.cells) (bytes:=40) (i:=Tryz.t101) underlying32 kQ rfl rfl rfl rfl cQ (fun _=>rfl) VP.one (.t rfl) (.t rfl) (hS.own 0 rfl) (Av (Els.up hE0 hS.Ch)) (by simp[maxLen];omega) (by simp;omega)) rfl ?_)
 intro v7 w2 Gw2
 replace hS:=hS.Dw 0 rfl Gw2
 refine LW.A rfl (Ai (Al (KW.q ?_)))
 exact⟨(hS.own 0 rfl).Il (fun i h=>(hS.foot 0 rfl i h).resolve_left (fun h=>h)),hS.Ch⟩
theorem kT(p:VP)(w:World):Ret prog 95 #[.agg p.cells] w fun r w'=>r=.bool (!Bj p)∧Up w w':=by
 obtain⟨w0,rfl,hS⟩:=W0 w
 refine cT 6 func95 rfl (Af (Ao (.bA rfl) rfl ?_))
 rintro _ w1 ⟨B1,rfl,NB1⟩
 replace hS:=hS.Cg NB1
 refine Az (Am (Aa (U (.fB 1 rfl) (U (.lb rfl (hS.b0.Ak rfl)) (U (.neq (.t rfl) (.const _)) (LW.A rfl (Ai (Al (KW.q ?_)))))))))
 exact⟨rfl,hS.Ch⟩
theorem Vk(ad:Option Addr)(cp:Nat)(L:List VP)(w:World)(hE0:Els w ad 3 VP.cells L)(hl:L.length≤100000):Ret prog 31 #[.slice ad L.length cp] w fun r w'=>OwnS w' w.heap.size 101 3 VP.cells r (L.filter Bj)∧Up w w':=by
 obtain⟨w0,rfl,hS⟩:=W0 w
 refine cT 6 func31 rfl (Af (Az (Am (Aa (I rfl (A6 (eC (.o rfl) (IH)) rfl (dJ ad cp L _ (Els.up hE0 hS.Ch) hl) ?_))))))
 rintro v4 w1 ⟨hO4,uw1⟩
 replace hS:=hS.add uw1 (A':=J 101 3 VP.cells v4 L) (hO4.mono (Nat.zero_le _)) (fun i h=>hO4.base i h)
 obtain⟨ad4,cp4,rfl,_⟩:=(hS.own 0 rfl).sl (fun _=>rfl)
 refine A6 (eC (.ct rfl (.cons (.func _) .nil)) (IG)) rfl (Zt 95 #[] (fun p=> !Bj p) II ad4 cp4 L _ (hS.own 0 rfl) hl (fun W f x=>kT x W)) ?_
 rintro v5 w2 uw2
 replace hS:=hS.Dw 0 rfl uw2
 refine LW.A rfl (Ai (Al (KW.q ?_)))
 rw[kR]at hS
 exact⟨(hS.own 0 rfl).Il (fun i hi=>(hS.foot 0 rfl i hi).resolve_left fun h=>h),hS.Ch⟩
theorem pU(ad:Option Addr)(cp:Nat)(L:List VP)(w:World)(hE0:Els w ad 3 VP.cells L)(hl:L.length≤100000):Ret prog 10 #[.slice ad L.length cp] w fun r w'=>OwnS w' w.heap.size 3 1 A5 r (xI L)∧Up w w':=by
 obtain⟨w0,rfl,hS⟩:=W0 w
 refine cT 20 func10 rfl (Af (Az (Am (Aa (Az (Am (Af (I rfl (A6 (eC (.o rfl) (BB)) rfl (Vk ad cp L _ (Els.up hE0 hS.Ch) hl) ?_)))))))))
 rintro v7 w1 ⟨hO7,uw1⟩
 replace hS:=hS.add uw1 (A':=J 101 3 VP.cells v7 (L.filter Bj)) (hO7.mono (Nat.zero_le _)) (fun i h=>hO7.base i h)
 obtain⟨ad7,cp7,rfl,_⟩:=(hS.own 0 rfl).sl (fun _=>rfl)
 have hfl:=List.length_filter_le Bj L
 replace hS:=hS.Y2 (OwnS.nil _ 0 3 1 A5)
 refine U (.Cw underlying32 (.t rfl)) (U (.move (.const _)) (Ai (Ae (A3 (σ:=Nat×Go.Value) (fun s w=>(s.1≤(L.filter Bj).length)∧(Wx.Sep no w0 w [J 101 3 VP.cells (.slice ad7 (L.filter Bj).length cp7) (L.filter Bj),J 3 1 A5 s.2 (((L.filter Bj).take s.1).map (·.vd.w))])) (fun s=>[(9,.eq (vi (s.1:Int))),(3,.eq (s.2))]) ([(2,.eq _),(7,.eq _),(8,.eq _)]) (fun s=>(L.filter Bj).length-s.1) (0,.slice none 0 0) ?_ tQ ?_))))
 ·exact⟨Nat.zero_le _,hS⟩
 rintro⟨k,v⟩ w2 ⟨hk,hS⟩
 change CW _ _ _ _ _ _ _ ([(9,.eq (vi (k:Int))),(3,.eq (v))]++_) _
 refine Af (U (.l2 rfl rfl) (Am (CW.b rfl (fun h10=>?_) (fun h10=>?_))))
 ·replace h10:=dQ h10
  refine Aj (Ac (Ah (Ae (Ah ?_))))
  obtain⟨p,hp⟩:=Aq (xs:=(L.filter Bj)) (i:=k) oQ
  obtain⟨By,oy,ay,hcy⟩:=(Cy (hS.own 0 rfl) (fun _=>rfl)) k p hp
  refine Aa (U (.Aw underlying32 sizeOf101 (j:=k) (.t rfl) (.t rfl) oQ ay) (U (.lc rfl (hcy)) (Ao (.Br zeroValue101) rfl ?_)))
  rintro _ w3 ⟨B5,rfl,MB5⟩
  refine A9 (.Ca sizeOf101 rfl (.t rfl) (.t rfl) (VP.one _) MB5.blk rfl) ?_
  intro w4 LB5
  have NB5:=MB5.set LB5
  replace hS:=hS.Cg NB5
  refine Ai (Aa (I rfl (U (.fB 0 rfl) (U (.lb rfl ((Blk.Ak (v:=vi p.vd.w) hS.b2 rfl))) (Ao (.buildSlice (xs:=[p.vd.w]) (enc:=A5) (mk:=vi) underlying37 sizeOf3 zeroValue3 rfl cQ (fun _=>rfl) (fun _=>rfl) (.cu rfl) rfl) rfl ?_)))))
  rintro _ w5 ⟨B16,cB16,rfl,NB16,yB16,xB16⟩
  replace hS:=hS.up NB16.up
  have hE16:=xB16
  refine Ao (.Cu (enc:=A5) (bytes:=8) (i:=Tryz.t3) underlying37 kQ rfl rfl rfl rfl cQ (fun _=>rfl) Eh (.t rfl) (.t rfl) (hS.own 1 rfl) (Av hE16) (by simp only[maxLen,List.length_cons,List.length_nil,List.length_map,List.length_take];omega) (by simp only[List.length_cons,List.length_nil,List.length_map,List.length_take];omega)) rfl ?_
  intro v17 w6 Gw6
  replace hS:=hS.Dw 1 rfl Gw6
  refine LW.A rfl (LW.nil (Ad (Ac (Aa (U (.ic rfl oQ) (I rfl (LW.nil (Ar ?_))))))))
  exact⟨(k+1,v17),⟨by show k+1≤_;omega,by rw[dH hp];exact hS.take 2⟩,tQ,by show(L.filter Bj).length-(k+1)<(L.filter Bj).length-k;omega⟩
 replace h10:=dQ h10
 refine A4 (Ab (Ab (An (Ac (Af (I rfl (LW.A rfl (Ai (Al (KW.q ?_))))))))))
 rw[show k=(L.filter Bj).length by omega,List.take_length]at hS
 exact⟨(hS.own 1 rfl).Il (fun i hi=>(hS.foot 1 rfl i hi).resolve_left fun h=>h),hS.Ch⟩
theorem dK(ad:Option Addr)(cp:Nat)(l:List Int)(n:Int)(w:World)(hE0:Els w ad 1 A5 l)(hl:l.length≤100000):Ret prog 96 #[.slice ad l.length cp,vi n] w fun r w'=>∃i,r=vi i∧uH (fun x=>decide (n=x)) l i∧Up w w':=by
 have hW:=Up.refl w
 obtain⟨w0,rfl,_⟩:=W0 w
 refine cT 19 func96 rfl (Af (Az (Am (Af (I rfl (U (.Cw underlying37 (.t rfl)) (U (.move (.const _)) (Ai (Ae (A3 (σ:=Nat) (fun s w=>(s≤l.length)∧(∀y∈l.take s,decide (n=y)=false)∧(Up w0 w)) (fun s=>[(8,.eq (vi (s:Int)))]) ([(0,.eq _),(1,.eq _),(7,.eq _)]) (fun s=>l.length-s) 0 ?_ tQ ?_))))))))))
 ·exact⟨Nat.zero_le _,by simp,hW⟩
 rintro k w1 ⟨hk,hn,hW⟩
 refine Af (U (.l2 rfl rfl) (Am (CW.b rfl (fun h9=>?_) (fun h9=>?_))))
 ·replace h9:=dQ h9
  refine Aj (Ac (Ah (Ae (Af (I rfl (LW.A rfl (Am ?_)))))))
  have hE:=Els.up hE0 hW
  refine Aa (I rfl (I rfl (I rfl ?_)))
  obtain⟨x,hx⟩:=Aq (xs:=l) (i:=k) oQ
  obtain⟨Bx,ox,ax,hcx⟩:=hE _ x hx
  refine U (.Aw underlying37 sizeOf3 (.t rfl) (.t rfl) oQ ax) (U (.lb rfl (hcx.nth (j:=0) rfl)) (U (.eql (.t rfl) (.t rfl)) (Ai (CW.b rfl (fun h16=>?_) (fun h16=>?_)))))
  ·replace h16:=dQ h16
   have hx16:=h16
   refine Af (I rfl (LW.A rfl (Ai (Al (Ay (Ap (Ap (Ay (Ap (KW.q ?_))))))))))
   exact⟨_,rfl,.inl ⟨k,x,rfl,hx,by simpa using hx16,hn⟩,hW⟩
  replace h16:=dQ h16
  have hx16:=h16
  refine Aj (Ad (Ac (Aa (U (.ic rfl oQ) (I rfl (LW.nil (Ar ?_)))))))
  exact⟨k+1,⟨by omega,Ki (p:=fun y=>decide (n=y)) hx hn (by simpa using hx16),hW⟩,tQ,by omega⟩
 replace h9:=dQ h9
 refine A4 (Ab (Ab (An (Ac (Af (Az (Ai (Al (KW.q ?_)))))))))
 exact⟨-1,rfl,.inr ⟨rfl,by rw[show k=l.length by omega,List.take_length]at hn;exact hn⟩,hW⟩
theorem Ua(ad:Option Addr)(cp:Nat)(l:List Int)(n:Int)(w:World)(hE0:Els w ad 1 A5 l)(hl:l.length≤100000):Ret prog 32 #[.slice ad l.length cp,vi n] w fun r w'=>r=.bool (decide (n∈l))∧Up w w':=by
 have hW:=Up.refl w
 obtain⟨w0,rfl,_⟩:=W0 w
 refine cT 9 func32 rfl (Af (Az (Am (Aa (I rfl (I rfl (A6 (eC (.u rfl rfl) (IJ)) rfl (dK ad cp l n _ (Els.up hE0 hW) hl) ?_)))))))
 rintro _ w1 ⟨i,rfl,hi,uw1⟩
 replace hW:=hW.up uw1
 refine U (.geq (.t rfl) (.const _)) (LW.A rfl (Ai (Al (KW.q ?_))))
 exact⟨by rw[←uI hi],hW⟩
end Go.Proofs.YtdilcdgjklimoaaGreatDoor
