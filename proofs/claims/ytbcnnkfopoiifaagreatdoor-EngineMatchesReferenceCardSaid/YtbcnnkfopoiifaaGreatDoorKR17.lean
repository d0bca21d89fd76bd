import Derived.Test.YtbcnnkfopoiifaaGreatDoorKR16
import Derived.Recover
namespace Go.Wx
open Go.RowKit
section
variable {m:Nat}{P:Program}{n:Nat}{ds:List Deferred}{Q:Exit→Act→World→Prop}{l:Env}{w:World}
theorem P7{m:Nat}{f:FuncId}{fn:Func}{c:Code}{args:List Value}{RR:Ending→World→Prop}(hf:P.funcs[f]?=some fn)(hb:fn.body=some c)(hn:fn.ntmps=n)(hl:Nat.ble args.length n=true)
   (h:CW none m P n [] c (bodyPostD P fn RR) (Il args 0) w):Calls P f args.toArray w RR:=by
 subst hn
 exact calls_of_wp_defers hf hb (wpIn_wide.1 (h _ (P0 args hl)))
theorem Sm{ρ:Operand→Value}{d:Option Tmp}{ty:TypeId}{ps:String}{af:Array Edge}{g:Option (Nat×Bool)}:(execOp ρ ⟨d,.call { callee:=.builtin .recover,args:=#[],argTypes:=#[] },ty,ps,af,g⟩).run P w=.ok .recover w:=by
 simp[execOp,resolve,invoke,builtin]
theorem V8{x:Operand}{xT aT:TypeId}{ms:Array (String×TypeId)}{z:Value}{d:Option Tmp}{ty:TypeId}{ps:String}{af:Array Edge}{g:Option (Nat×Bool)}(hu:P.underlying aT=some (.interface ms))(hz:∀w,(zeroValue aT).run P w=.ok z w)(hx:Val l x .nilIface):PEv P n ds l w ⟨d,.typeAssert x xT aT true,ty,ps,af,g⟩ (.tuple #[z,.bool false]):=fun a w' ha _=>by
 refine Cp ?_
 rw[ha.ev hx]
 simp[Instr.typeAssert,run_underlying hu,Result.andThen,hz]
theorem LW.defer{R:Option Nat}{ops:Array Oper}{rest:List Oper}{o:Oper}{dd:Deferred}(h:∀a,Ag n ds l a w→(execOp a.eval o).run P w=.ok (.defer dd) w)(hg:o.guard=none)(hd:o.dst=none)(hr:∀e,execOp e o=(o.semAt (FR R).round e))(k:LW R m P n (dd::ds) ops Q rest l w):LW R m P n ds ops Q (o::rest) l w:=fun a ha=>by
 unfold wpListIn
 rw[ak (by simp[Region.wanted,hg])]
 refine⟨fun _ _=>trivial,?_⟩
 rw[←hr,h a ha,Oper.uponIn_defer]
 exact k _ ⟨by rw[hd];show dd::a.defers=_;rw[ha.defers],by rw[hd];exact ha.size,by rw[hd];exact ha.val⟩
theorem Wv{ops:Array Oper}{rest:List Oper}{x:Operand}{fv:Fn}{cap:Array Value}{ty:TypeId}{ps:String}{af:Array Edge}(hx:Val l x (.func fv #[] cap))(k:LW none m P n ({ target:=.fn fv cap,args:=#[] }::ds) ops Q rest l w):LW none m P n ds ops Q (⟨none,.defer { callee:=.value x,args:=#[],argTypes:=#[] },ty,ps,af,none⟩::rest) l w:=
 LW.defer (fun a ha=>by simp[execOp,resolve,ha.ev hx,Deferred.ofValue]) rfl rfl (fun _=>rfl) k
def wX(P:Program)(f:FuncId)(args:Array Value)(w:World)(Post:World→Prop):Prop:=CallsD P f args .returning w fun e u' w'=>u'=.returning∧∃v,e=.returned v∧Post w'
theorem jG{fn:Func}{RR:Ending→World→Prop}{fv:Fn}{cap:Array Value}{f:FuncId}{args:Array Value}{Post:World→Prop}(hi:(invoke (.fn fv cap) #[]).run P w=.ok (.enter f args) w)(hl:Cf l=true)
   (hc:wX P f args w Post)(k:∀w',Post w'→KW n [] (bodyPost P fn RR .ret) l w'):KW n [{ target:=.fn fv cap,args:=#[] }] (bodyPostD P fn RR .ret) l w:=fun a ha=>by
 show Leaves P fn a.tmps RR a.defers .returning w
 rw[ha.defers]
 refine leaves_cons (by simp) hi (hc.mono ?_)
 rintro e u' w' ⟨rfl,v,rfl,hp⟩
 obtain⟨_,v2,h2,h3⟩:=k w' hp { tmps:=a.tmps,defers:=[] } ⟨rfl,ha.size,(ha.world hl _).val⟩
 exact⟨v2,h2,h3⟩
theorem aJ{c:Code}{Q Q':Exit→Act→List Frame→World→Prop}{a:Act}{cs:List Frame}(h:c.wpS P Q a cs w)(hq:∀e a cs w,Q e a cs w→Q' e a cs w):c.wpS P Q' a cs w:=
 fun b k hb hr=>let⟨e,a',cs',w',q,r⟩:=h b k hb hr;⟨e,a',cs',w',hq _ _ _ _ q,r⟩
def DW(P:Program)(n:Nat)(c:Code)(Q:Exit→Act→World→Prop)(l:Env)(w:World):Prop:=∀cs,recoverD cs=none→∀a,Ag n [] l a w→c.wpS P (fun e a' cs' w'=>cs'=cs∧Q e a' w') a cs w
theorem DW.seq{x y:Code}(h:DW P n x (Exit.then (y.wpIn (FR none) m P Q) Q) l w):DW P n (.seq x y) Q l w:=fun cs hcs a ha=>wpS_seq (aJ (h cs hcs a ha) fun e a' cs' w'⟨e1,hq⟩=>by
 subst e1
 cases e with
 |normal=>exact wpS_of_wp (wpIn_wide.1 (wpIn_mono (show y.wpIn (FR none) m P Q a' w' from hq) (fun _ _ _ h=>⟨rfl,h⟩)))
 |exit id=>exact⟨rfl,hq⟩
 |goto l=>exact⟨rfl,hq⟩
 |ret=>exact⟨rfl,hq⟩
 |panic ch=>exact⟨rfl,hq⟩
 |outgrown=>exact⟨rfl,hq⟩)
theorem P8{f:FuncId}{fn:Func}{c:Code}{args:List Value}{Post:World→Prop}(hf:P.funcs[f]?=some fn)(hb:fn.body=some c)(hn:fn.ntmps=n)(hl:Nat.ble args.length n=true)
   (h:DW P n c (bodyPost P fn fun e w'=>∃v,e=.returned v∧Post w') (Il args 0) w):wX P f args.toArray w Post:=by
 subst hn
 refine callsD_of_wpS hf hb fun c₀ cs hu=>aJ (h (c₀::cs) (by simp[recoverD,hu]) _ (P0 args hl)) fun e a cs' w'⟨e1,hq⟩=>?_
 subst e1
 have hc:({ c₀ with mode:=.returning }:Frame)=c₀:=by rw[←hu]
 cases e with
 |normal=>obtain⟨hd,v,hr,h1,h2⟩:=hq;exact⟨hd,.returning,by rw[hc],v,hr,rfl,h1,h2⟩
 |ret=>obtain⟨hd,v,hr,h1,h2⟩:=hq;exact⟨hd,.returning,by rw[hc],v,hr,rfl,h1,h2⟩
 |panic ch=>obtain⟨hd,v,hv,_⟩:=hq;cases hv
 |outgrown=>obtain⟨v,hv,_⟩:=hq;cases hv
 |exit id=>exact hq.elim
 |goto l=>exact hq.elim
def DL(P:Program)(n:Nat)(ops:Array Oper)(Q:Exit→Act→World→Prop)(rest:List Oper)(l:Env)(w:World):Prop:=∀k,(∀j:Nat,rest[j]?=ops[k+j]?)→∀cs,recoverD cs=none→∀a,Ag n [] l a w→wpOpsS P ops (fun e a' cs' w'=>cs'=cs∧Q e a' w') (List.range' k rest.length) a cs w
theorem DW.region{id:Nat}{ops:List Oper}(h:DL P n ops.toArray Q ops l w):DW P n (.region id ops.toArray false) Q l w:=fun cs hcs a ha=>wpS_region (by
 rw[List.range_eq_range']
 exact h 0 (fun j=>by simp) cs hcs a ha)
section
variable {ops:Array Oper}{rest:List Oper}{o:Oper}{d:Nat}
theorem DL.nil(h:KW n [] (Q .normal) l w):DL P n ops Q [] l w:=fun _ _ _ _ a ha=>⟨rfl,h a ha⟩
theorem jH{a:Act}(hg:o.guard=none):Region.wanted o (yielded ops a.tmps)=true:=by simp[Region.wanted,hg]
theorem P9{k:Nat}(h:∀j:Nat,(o::rest)[j]?=ops[k+j]?):ops[k]?=some o∧∀j:Nat,rest[j]?=ops[k+1+j]?:=
 ⟨by have:=h 0;simpa using this.symm,fun j=>by have:=h (j+1);rw[show k+1+j=k+(j+1)by omega,←this];simp⟩
theorem pW(h:∀a:Act,(execOp a.eval o).run P w=.ok .recover w)(hg:o.guard=none)(hd:o.dst=some d)(hn:Nat.ble (d+1) n=true)(k:DL P n ops Q rest ((d,.eq .nilIface)::l) w):DL P n ops Q (o::rest) l w:=fun i hi cs hcs a ha=>by
 obtain⟨h0,h1⟩:=P9 hi
 rw[b9,jm]
 unfold wpOpsS
 rw[h0]
 simp only[jH hg,if_true,h a,hcs]
 exact k (i+1) h1 cs hcs _ (by rw[hd];exact ha.put hn rfl)
theorem DL.p{v:Value}(h:PEv P n [] l w o v)(hg:o.guard=none)(hd:o.dst=some d)(hn:Nat.ble (d+1) n=true)(k:DL P n ops Q rest ((d,.eq v)::l) w):DL P n ops Q (o::rest) l w:=fun i hi cs hcs a ha=>by
 obtain⟨h0,h1⟩:=P9 hi
 rw[b9,jm]
 unfold wpOpsS
 rw[h0]
 simp only[jH hg,if_true,h a w ha (Up.refl w)]
 exact k (i+1) h1 cs hcs _ (by rw[hd];exact ha.put hn rfl)
theorem DL.c{f:FuncId}{args:Array Value}{Post:Value→World→Prop}(he:∀a,Ag n [] l a w→(execOp a.eval o).run P w=.ok (.enter f args) w)(hg:o.guard=none)(hd:o.dst=some d)(hn:Nat.ble (d+1) n=true)(hl:Cf l=true)
   (hc:Ret P f args w Post)(k:∀v w',Post v w'→DL P n ops Q rest ((d,.eq v)::l) w'):DL P n ops Q (o::rest) l w:=fun i hi cs hcs a ha=>by
 obtain⟨h0,h1⟩:=P9 hi
 rw[b9,jm]
 unfold wpOpsS
 rw[h0]
 simp only[jH hg,if_true,he a ha]
 refine Calls.mono hc ?_
 rintro e w' ⟨v,rfl,hp⟩
 exact k v w' hp (i+1) h1 cs hcs _ (by rw[hd];exact(ha.world hl w').put hn rfl)
theorem DL.s{Post:World→Prop}(h:SEv P n [] l w o Post)(hg:o.guard=none)(hd:o.dst=none)(hl:Cf l=true)
   (k:∀w',Post w'→DL P n ops Q rest l w'):DL P n ops Q (o::rest) l w:=fun i hi cs hcs a ha=>by
 obtain⟨w',hr,hp⟩:=h a ha
 obtain⟨h0,h1⟩:=P9 hi
 rw[b9,jm]
 unfold wpOpsS
 rw[h0]
 simp only[jH hg,if_true,hr]
 exact k w' hp (i+1) h1 cs hcs _ (by rw[hd];exact ha.world hl w')
end
end
section
variable {R:Option Nat}{m:Nat}{P:Program}{n:Nat}{ds:List Deferred}{Q:Exit→Go.Act→World→Prop}{l:Env}{w:World}{ops:Array Oper}
def pX(o:Oper):Bool:=match o.op with|.move _=>o.guard.isNone|_=>false
def M0(ops:Array Oper)(k j:Nat):Bool:=match ops[j]? with
 |none=>false
 |some o=>pX o&&((o.looksAt ops).all fun t=>(List.range (k+1)).all fun i=>match ops[i]? with|none=>true|some p=> !(p.dst==some t))&&
     (match ops[k]? with|none=>false|some h=>match o.dst with|none=>false|some d=> !Mp (h.looksAt ops) d)
def eY(ops:Array Oper)(k:Nat):Bool:=
 (List.range k).all fun j=>M0 ops k j||(List.range (k+1)).any fun i=>Nat.ble (j+1) i&&((Nat.beq i k|| !M0 ops k i)&&(match ops[i]? with|none=>false|some o=>o.after.any fun e=>Region.binds .any e&&Nat.beq e.on j))
theorem lT{k:Nat}(hC:eY ops k=true){listed:Array Bool}(hD:Dn ops listed){o:Oper}(ho:ops[k]?=some o)(hk:∀e∈o.after,Region.binds .any e=true→listed.getD e.on false=true):∀(c j:Nat),k-j=c→j<k→M0 ops k j=false→listed.getD j false=true:=by
 intro c
 induction c using Nat.strongRecOn with
 |_ c ih=>
   intro j hc hj hl
   have h0:=b7.1 hC j (bl.2 hj)
   rw[hl,fo]at h0
   obtain⟨i,hi,hh⟩:=fm.1 h0
   simp only[aw,f8]at hh
   have hji:j<i:=ah hh.1
   have hik:i<k+1:=bl.1 hi
   cases hio:ops[i]? with
   |none=>simp[hio]at hh
   |some q=>
     have h2:=hh.2.2
     simp only[hio]at h2
     obtain⟨e,he,hb⟩:=ft.1 h2
     simp only[aw]at hb
     have hon:=ci hb.2
     by_cases hek:i=k
     · subst hek
       rw[ho]at hio
       cases hio
       rw[←hon];exact hk _ (d9 he) hb.1
     have hli:M0 ops k i=false:=by
       rcases hh.2.1 with h3|h3
       · exact absurd (ci h3) hek
       simpa using h3
     have:=ih (k-i) oQ i rfl oQ hli
     rw[←hon];exact hD i q hio this _ (d9 he) hb.1
theorem eZ{k j:Nat}(h:M0 ops k j=true):∃o x,ops[j]?=some o∧o.op=.move x∧o.guard=none∧(∀t∈o.looksAt ops,∀(i:Nat)(p:Oper),i<k+1→ops[i]?=some p→p.dst≠some t)∧∀(hh:Oper)(d:Nat),ops[k]?=some hh→o.dst=some d→d∉hh.looksAt ops:=by
 unfold M0 at h
 cases ho:ops[j]? with
 |none=>simp[ho]at h
 |some o=>
   simp only[ho,aw]at h
   obtain⟨⟨h1,h2⟩,h3⟩:=h
   unfold pX at h1
   split at h1
   · rename_i x hx
     refine⟨o,x,rfl,hx,by simpa using h1,fun t ht i p hi hp hd=>?_,fun hh d hk hd hm=>?_⟩
     · have:=b7.1 (b7.1 h2 t ht) i (bl.2 hi)
       simp[hp,hd]at this
     simp only[hk,hd]at h3
     rw[Ju.2 hm]at h3
     cases h3
   cases h1
def Ej:Env→Env
 |[]=>[]
 |(_,.pred _)::l=>Ej l
 |(i,.eq v)::l=>(i,.eq v)::Ej l
 |(i,.cond b v)::l=>(i,.cond b v)::Ej l
def plainPh:Ph→Prop
 |.pred _=>False
 |_=>True
theorem plainPh.holds{ph:Ph}(h:plainPh ph){v:Value}{w w':World}(k:ph.holds v w):ph.holds v w':=by
 cases ph with
 |eq=>exact k
 |cond=>exact k
 |pred=>exact h.elim
theorem Sn{k:Nat}{E:Nat→Env}(hE0:E 0=[])(hE:∀(i:Nat)(o:Oper),i<k→ops[i]?=some o→∃ph d,o.dst=some d∧E (i+1)=(d,ph)::E i)(hks:k≤ops.size):
   ∀c i ph,c≤k→lk (Ej (E c)) i=some ph→∃j o,j<c∧ops[j]?=some o∧o.dst=some i∧E (j+1)=(i,ph)::E j∧plainPh ph:=by
 intro c
 induction c with
 |zero=>intro i ph _ h;rw[hE0]at h;cases h
 |succ c ih=>
   intro i ph hk h
   have hko:ops[c]?=some ops[c]:=by simp[show c<ops.size by omega]
   obtain⟨q,d,hd,he⟩:=hE c _ oQ hko
   rw[he]at h
   have go:lk (Ej (E c)) i=some ph→∃j o,j<c+1∧ops[j]?=some o∧o.dst=some i∧E (j+1)=(i,ph)::E j∧plainPh ph:=fun h=>by
     obtain⟨j,o,h1,h2⟩:=ih i ph oQ h
     exact⟨j,o,by omega,h2⟩
   cases q with
   |pred p=>exact go h
   |eq v=>
     by_cases e:i=d
     · subst e
       have h':lk ((i,Ph.eq v)::Ej (E c)) i=some ph:=h
       rw[Bk]at h'
       cases h'
       exact⟨c,_,by omega,hko,hd,he,trivial⟩
     have h':lk ((d,Ph.eq v)::Ej (E c)) i=some ph:=h
     rw[Bl e]at h'
     exact go h'
   |cond b v=>
     by_cases e:i=d
     · subst e
       have h':lk ((i,Ph.cond b v)::Ej (E c)) i=some ph:=h
       rw[Bk]at h'
       cases h'
       exact⟨c,_,by omega,hko,hd,he,trivial⟩
     have h':lk ((d,Ph.cond b v)::Ej (E c)) i=some ph:=h
     rw[Bl e]at h'
     exact go h'
theorem J0{listed:Array Bool}{i fuel:Nat}(hlt:i<listed.size)(hbi:listed.getD i false=false)(hc:listed.toList.countP (· ==false)≤fuel+1):(listed.setIfInBounds i true).toList.countP (· ==false)≤fuel:=by
 have hbi':listed[i]=false:=by
   rw[aj]at hbi
   simp only[hlt,bm,b6]at hbi
   exact hbi
 rw[io,jt (by simpa using hlt)]
 have hpos:0<listed.toList.countP (· ==false):=ja.2 ⟨listed[i],by simp,by simp[hbi']⟩
 have e1:(listed.toList[i]'(by simpa using hlt)==false)=true:=by simp[hbi']
 rw[ak e1,ae (by simp)]
 omega
theorem Rr{listed:Array Bool}{i:Nat}{o:Oper}(hlt:i<listed.size)(hio:ops[i]?=some o)(hed:∀e∈o.after,Region.binds .any e=true→listed.getD e.on false=true)(hD:Dn ops listed):Dn ops (listed.setIfInBounds i true):=by
 intro j p hp hl e he hb
 rw[C5 hlt]at hl⊢
 by_cases e1:e.on=i
 · rw[ak e1]
 rw[ae e1]
 by_cases e2:j=i
 · subst e2
   rw[hio]at hp;cases hp
   exact hed e he hb
 rw[ae e2]at hl
 exact hD j p hp hl e he hb
theorem O8{listed:Array Bool}{s fuel:Nat}(hs:listed.size=ops.size)(hc:listed.toList.countP (· ==false)≤fuel)(hno:∀j,s≤j→j<ops.size→listed.getD j false=false):ops.size-s≤fuel:=by
 have h1:(listed.toList.drop s).countP (· ==false)=ops.size-s:=by
   rw[List.countP_eq_length.2]
   · simp[hs]
   intro b hb
   obtain⟨j,hj,he⟩:=fb.1 hb
   rw[List.getElem_drop]at he
   have hj':s+j<listed.size:=by simp at hj;omega
   have:=hno (s+j) oQ oQ
   rw[aj]at this
   simp only[hj',bm,b6]at this
   rw[←he]
   simpa using this
 have h2:(listed.toList.drop s).countP (· ==false)≤listed.toList.countP (· ==false):=(j6 s _).countP_le
 omega
theorem J1(hA:Ea ops=true){k:Nat}(hks:k≤ops.size){listed:Array Bool}(hs:listed.size=ops.size):∀c,c<k→listed.getD c false=false→∃i,i∈Region.ready .any ops listed:=by
 intro c
 induction c using Nat.strongRecOn with
 |_ c ihc=>
   intro hck hcf
   have hco:ops[c]?=some ops[c]:=by simp[show c<ops.size by omega]
   by_cases hr:∀e∈(ops[c]).after,Region.binds .any e=true→listed.getD e.on false=true
   · exact⟨c,(Fq hs).2 ⟨_,hco,hcf,hr⟩⟩
   simp only[gm]at hr
   obtain⟨e,he,hb,hf⟩:=hr
   have hlt:=D4 hA hco e he hb
   exact ihc e.on hlt oQ (by simpa using hf)
theorem fC{k:Nat}{wp w:World}{w0:World}{base:Env}{dh:Nat}{vh:Value}(hu:Up w0 wp)(hok:K0 n ops (k+1)=true)(hT:Hq ops (k+1)=true)(hA:Ea ops=true)(hC:Fm ops (k+1)=true)(hkk:k<ops.size)(E:Nat→Env)(hE0:E 0=[])
   (hE:∀(i:Nat)(o:Oper),i<k→ops[i]?=some o→∃ph d,o.dst=some d∧phUp ph∧wM P n ds ops w0 (Bo (o.looksAt ops) (E i)++base) o ph∧E (i+1)=(d,ph)::E i)
   (hbp:Cf base=true)(hbase:∀i ph,lk base i=some ph→∀(j:Nat)(o:Oper),j<k+1→ops[j]?=some o→o.dst≠some i)
   (hdh:∀o,ops[k]?=some o→o.dst=some dh)
   (hQ:∀a,Ag n ds ((dh,.eq vh)::(Ej (E k)++base)) a w→wpListIn (FR R) m P ops Q (ops.toList.drop (k+1)) a w):
   ∀(fuel:Nat)(listed:Array Bool)(a:Go.Act),listed.size=ops.size→listed.toList.countP (· ==false)≤fuel→(∀j,k+1≤j→j<ops.size→listed.getD j false=false)→listed.getD k false=true→(∀j,j<k→listed.getD j false=false→M0 ops k j=true)→Dn ops listed→Ag n ds base a w→a.tmps.getD dh undef=vh→
     (∀(j:Nat)(o:Oper)(d:Nat)(ph:Ph),j<k→ops[j]?=some o→o.dst=some d→E (j+1)=(d,ph)::E j→plainPh ph→listed.getD j false=true→ph.holds (a.tmps.getD d undef) w)→
     wpAnyIn (FR R) m P .any ops Q fuel listed a w:=by
 have hE':∀(i:Nat)(o:Oper),i<k→ops[i]?=some o→∃ph d,o.dst=some d∧E (i+1)=(d,ph)::E i:=fun i o hi ho=>let⟨ph,d,h1,_,_,h2⟩:=hE i o hi ho;⟨ph,d,h1,h2⟩
 have hDP:=Sn hE0 hE' oQ
 have hfull:∀(fuel:Nat)(listed:Array Bool)(a:Go.Act),listed.size=ops.size→listed.toList.countP (· ==false)≤fuel→(∀j,k+1≤j→j<ops.size→listed.getD j false=false)→listed.getD k false=true→(∀j,j<k→listed.getD j false=true)→Ag n ds base a w→a.tmps.getD dh undef=vh→
     (∀(j:Nat)(o:Oper)(d:Nat)(ph:Ph),j<k→ops[j]?=some o→o.dst=some d→E (j+1)=(d,ph)::E j→plainPh ph→listed.getD j false=true→ph.holds (a.tmps.getD d undef) w)→
     wpAnyIn (FR R) m P .any ops Q fuel listed a w:=by
   intro fuel listed a hs hc hno hk hall ha hv hI
   refine Gb hT hA (ops.size-(k+1)) (k+1) fuel listed a w rfl oQ (av _) (O8 hs hc hno) ⟨hs,fun j hj=>?_⟩ (hQ a ⟨ha.defers,ha.size,fun i ph hi=>?_⟩)
   · by_cases h:j<k+1
     · rw[a8 h]
       by_cases e:j=k
       · rw[e];exact hk
       exact hall j oQ
     rw[hno j oQ hj,bg h]
   by_cases e:i=dh
   · subst e
     rw[Bk]at hi
     cases hi
     exact hv
   rw[Bl e]at hi
   rcases C3 hi with h|h
   · obtain⟨j,o,hj,ho,hd,he,hp⟩:=hDP _ _ _ (av _) h
     exact hI j o i ph hj ho hd he hp (hall j hj)
   exact ha.val i ph h
 have hEl:∀c i ph,c≤k→lk (E c) i=some ph→∃j o,j<c∧ops[j]?=some o∧o.dst=some i:=by
   intro c
   induction c with
   |zero=>intro i ph _ h;rw[hE0]at h;cases h
   |succ c ih=>
     intro i ph hk h
     have hko:ops[c]?=some ops[c]:=by simp[show c<ops.size by omega]
     obtain⟨q,d,hd,he⟩:=hE' c _ oQ hko
     rw[he]at h
     by_cases e:i=d
     · subst e;exact⟨c,_,by omega,hko,hd⟩
     rw[Bl e]at h
     obtain⟨j,o,h1,h2⟩:=ih i ph oQ h
     exact⟨j,o,by omega,h2⟩
 intro fuel
 induction fuel with
 |zero=>
   intro listed a hs hc hno hk hlate hD ha hv hI
   refine hfull 0 listed a hs hc hno hk (fun i hi=>?_) ha hv hI
   have h0:listed.toList.countP (· ==false)=0:=by omega
   rw[et]at h0
   have hlt:i<listed.size:=by omega
   have:=h0 listed[i] (by simp)
   rw[aj]
   simp only[hlt,bm,b6]
   simpa using this
 |succ fuel ih=>
   intro listed a hs hc hno hk hlate hD ha hv hI
   by_cases hall:∀j,j<k→listed.getD j false=true
   · exact hfull _ listed a hs hc hno hk hall ha hv hI
   refine⟨fun hr=>?_,fun i hi=>?_⟩
   · exfalso
     simp only[gm]at hall
     obtain⟨j,hj,hf⟩:=hall
     obtain⟨i,hi⟩:=J1 hA (k:=k) oQ hs j hj (by simpa using hf)
     rw[hr]at hi
     cases hi
   obtain⟨o,hio,hbi,hed⟩:=(Fq hs).1 hi
   have hi':i<ops.size:=(bh.1 hio).1
   have hlt:i<listed.size:=by omega
   have hik:i<k:=by
     rcases jk i k with h|h|h
     · exact h
     · subst h;rw[hk]at hbi;cases hbi
     exfalso
     by_cases e:i=k+1
     · subst e
       exact hall fun j hj=>Jz hC hD hio hed (k+1-j) j rfl oQ
     obtain⟨e',he,hb,hon⟩:=Ns hT hio (show k+1<i by omega)
     have h1:=hed e' he hb
     rw[hon,hno (i-1) oQ (by omega)]at h1
     cases h1
   obtain⟨o',x,ho',hop,hg,hfree,_⟩:=eZ (hlate i hik hbi)
   rw[hio]at ho'
   cases ho'
   obtain⟨hd0,hpair⟩:=Rq hok (show i<k+1 by omega) hio
   obtain⟨ph,d,hd,hup,hopr,hEi⟩:=hE i o hik hio
   have hdn:d<n:=by obtain⟨d',h1,h2⟩:=hd0;rw[hd]at h1;cases h1;exact h2
   have hag:Ag n ds (Bo (o.looksAt ops) (E i)++base) a wp:=by
     refine⟨ha.defers,ha.size,fun t q ht=>?_⟩
     rcases C3 ht with h|h
     · obtain⟨h1,h2⟩:=Eg h
       obtain⟨j,p,hj,hp,hpd⟩:=hEl _ _ _ oQ h2
       exact absurd hpd (hfree t h1 j p oQ hp)
     exact Es hbp h (ha.val t q h)
   have hne:d≠dh:=by
     intro e
     have hko:ops[k]?=some ops[k]:=by simp[hkk]
     exact(hpair k _ oQ hko).1 oQ (by rw[hd,hdh _ hko,e])
   have hrun:∀ww,(execOp a.eval o).run P ww=.ok (.value (a.eval x)) ww:=fun ww=>by
     simp only[execOp,hop];rfl
   have h2:=hopr a wp hu hag
   have hw:Region.wanted o (yielded ops a.tmps)=true:=by simp[Region.wanted,hg]
   rw[ak hw]at h2
   have hval:ph.holds (a.eval x) wp:=by
     rcases h2 with⟨v,w',h3,h4,h5⟩|⟨f,args,w1,h3,_⟩
     · rw[hrun]at h3;cases h3;exact h5
     rw[hrun]at h3;cases h3
   unfold wpOpIn
   rw[hio]
   dsimp only
   rw[ak hw]
   refine Gj (hrun w) (ih _ _ (by simpa using hs) (J0 hlt hbi hc) ?_ ?_ ?_ (Rr hlt hio hed hD) ?_ ?_ ?_)
   · intro j hj hjs
     rw[C5 hlt,ae (by omega)]
     exact hno j hj hjs
   · rw[C5 hlt];split<;>first|rfl|exact hk
   · intro j hj hl
     rw[C5 hlt]at hl
     split at hl
     · cases hl
     exact hlate j hj hl
   · refine⟨by rw[hd];exact ha.defers,by rw[hd];simp[Go.Act.put,ha.size],fun t q ht=>?_⟩
     have hne':t≠d:=fun e=>hbase t q ht i o oQ hio (by rw[hd,e])
     rw[hd,Cv hne']
     exact ha.val t q ht
   · rw[hd,Cv (fun e=>hne e.symm)];exact hv
   intro j p d' q hjk hp hpd hEj hpl hl
   by_cases e:j=i
   · subst e
     rw[hio]at hp
     cases hp
     rw[hd]at hpd
     cases hpd
     rw[hEi]at hEj
     cases hEj
     rw[hd,Dt (by rw[ha.size];exact hdn)]
     exact hpl.holds hval
   have hne':d'≠d:=fun ee=>(hpair j p oQ hp).1 (fun ee=>e ee.symm) (by rw[hd,hpd,ee])
   rw[hd,Cv hne']
   rw[C5 hlt,ae e]at hl
   exact hI j p d' q hjk hp hpd hEj hpl hl
theorem aK{k:Nat}{w0:World}{base:Env}{dh:Nat}{oh:Oper}{PostH:Value→World→Prop}(hok:K0 n ops (k+1)=true)(hT:Hq ops (k+1)=true)(hA:Ea ops=true)(hC:Fm ops (k+1)=true)(hL:eY ops k=true)(hkk:k<ops.size)(E:Nat→Env)(hE0:E 0=[])
   (hE:∀(i:Nat)(o:Oper),i<k→ops[i]?=some o→∃ph d,o.dst=some d∧phUp ph∧wM P n ds ops w0 (Bo (o.looksAt ops) (E i)++base) o ph∧E (i+1)=(d,ph)::E i)
   (hbp:Cf base=true)(hbase:∀i ph,lk base i=some ph→∀(j:Nat)(o:Oper),j<k+1→ops[j]?=some o→o.dst≠some i)
   (hoh:ops[k]?=some oh)(hdh:oh.dst=some dh)(hgh:oh.guard=none)
   (hH:∀a w,Up w0 w→Ag n ds (Bo (oh.looksAt ops) (E k)++base) a w→eS P oh a w PostH)
   (hQ:∀v w a,PostH v w→Ag n ds ((dh,.eq v)::(Ej (E k)++base)) a w→wpListIn (FR R) m P ops Q (ops.toList.drop (k+1)) a w):
   ∀(fuel:Nat)(listed:Array Bool)(a:Go.Act)(w:World),listed.size=ops.size→listed.toList.countP (· ==false)≤fuel→(∀j,k≤j→j<ops.size→listed.getD j false=false)→Dn ops listed→Up w0 w→Ag n ds base a w→
     (∀(j:Nat)(o:Oper)(d:Nat)(ph:Ph),j<k→ops[j]?=some o→o.dst=some d→E (j+1)=(d,ph)::E j→listed.getD j false=true→ph.holds (a.tmps.getD d undef) w)→
     wpAnyIn (FR R) m P .any ops Q fuel listed a w:=by
 have hEl:∀c i ph,c≤k→lk (E c) i=some ph→∃j o,j<c∧ops[j]?=some o∧o.dst=some i∧E (j+1)=(i,ph)::E j:=by
   intro c
   induction c with
   |zero=>intro i ph _ h;rw[hE0]at h;cases h
   |succ c ih=>
     intro i ph hk h
     have hko:ops[c]?=some ops[c]:=by simp[show c<ops.size by omega]
     obtain⟨q,d,hd,_,_,he⟩:=hE c _ oQ hko
     rw[he]at h
     by_cases e:i=d
     · subst e
       rw[Bk]at h
       cases h
       exact⟨c,_,by omega,hko,hd,he⟩
     rw[Bl e]at h
     obtain⟨j,o,h1,h2⟩:=ih i ph oQ h
     exact⟨j,o,by omega,h2⟩
 intro fuel
 induction fuel with
 |zero=>
   intro listed a w hs hc hno hD hu ha hI
   exfalso
   have h0:listed.toList.countP (· ==false)=0:=by omega
   rw[et]at h0
   have hlt:k<listed.size:=by omega
   have:=h0 listed[k] (by simp)
   have h1:=hno k (av _) hkk
   rw[aj]at h1
   simp only[hlt,bm,b6]at h1
   rw[h1]at this
   simp at this
 |succ fuel ih=>
   intro listed a w hs hc hno hD hu ha hI
   refine⟨fun hr=>?_,fun i hi=>?_⟩
   · exfalso
     obtain⟨i,hi⟩:=J1 hA (k:=k+1) oQ hs k oQ (hno k (av _) hkk)
     rw[hr]at hi
     cases hi
   obtain⟨o,hio,hbi,hed⟩:=(Fq hs).1 hi
   have hi':i<ops.size:=(bh.1 hio).1
   have hlt:i<listed.size:=by omega
   have hik:i≤k:=by
     rcases dq k i with h|h
     · exfalso
       by_cases e:i=k+1
       · subst e
         have:=Jz hC hD hio hed 1 k oQ oQ
         rw[hno k (av _) hkk]at this
         cases this
       obtain⟨e',he,hb,hon⟩:=Ns hT hio (show k+1<i by omega)
       have h1:=hed e' he hb
       rw[hon,hno (i-1) oQ (by omega)]at h1
       cases h1
     exact h
   obtain⟨hd0,hpair⟩:=Rq hok (show i<k+1 by omega) hio
   by_cases hkI:i=k
   · subst hkI
     rw[hoh]at hio
     cases hio
     have hdn:dh<n:=by obtain⟨d',h1,h2⟩:=hd0;rw[hdh]at h1;cases h1;exact h2
     have hag:Ag n ds (Bo (oh.looksAt ops) (E i)++base) a w:=by
       refine⟨ha.defers,ha.size,fun t q ht=>?_⟩
       rcases C3 ht with h|h
       · obtain⟨h1,h2⟩:=Eg h
         obtain⟨j,p,hj,hp,hpd,hEj⟩:=hEl _ _ _ (av _) h2
         obtain⟨e,he,hbe,hon'⟩:=(hpair j p oQ hp).2 t hpd h1
         have:=hed e he hbe
         exact hI j p t q hj hp hpd hEj (by rw[←hon'];exact this)
       exact ha.val t q h
     unfold wpOpIn
     rw[hoh]
     dsimp only
     have hw:Region.wanted oh (yielded ops a.tmps)=true:=by simp[Region.wanted,hgh]
     rw[ak hw]
     refine Hp (hH a w hu hag) fun v w' hv=>(fC hu hok hT hA hC hkk E hE0 hE hbp hbase (fun o' ho'=>by rw[hoh]at ho';cases ho';exact hdh) (fun a' ha'=>hQ v w' a' hv ha') fuel _ _ (by simpa using hs) (J0 hlt hbi hc) ?_ ?_ ?_ (Rr hlt hoh hed hD) ?_ ?_ ?_)
     · intro j hj hjs
       rw[C5 hlt,ae (by omega)]
       exact hno j oQ hjs
     · rw[C5 hlt,ak rfl]
     · intro j hj hl
       rw[C5 hlt,ae (by omega)]at hl
       cases hla:M0 ops i j with
       |true=>rfl
       |false=>
         have:=lT hL hD hoh hed (i-j) j rfl hj hla
         rw[this]at hl;cases hl
     · refine⟨by rw[hdh];exact ha.defers,by rw[hdh];simp[Go.Act.put,ha.size],fun t q ht=>?_⟩
       have hne':t≠dh:=fun e=>hbase t q ht i _ oQ hoh (by rw[hdh,e])
       rw[hdh,Cv hne']
       exact Es hbp ht (ha.val t q ht)
     · rw[hdh,Dt (by rw[ha.size];exact hdn)]
     intro j p d' q hjk hp hpd hEj hpl hl
     have hne':d'≠dh:=fun ee=>(hpair j p oQ hp).1 oQ (by rw[hdh,hpd,ee])
     rw[hdh,Cv hne']
     rw[C5 hlt,ae (by omega)]at hl
     exact hpl.holds (hI j p d' q hjk hp hpd hEj hl)
   have hik:i<k:=by omega
   obtain⟨ph,d,hd,hup,hop,hEi⟩:=hE i o hik hio
   have hdn:d<n:=by obtain⟨d',h1,h2⟩:=hd0;rw[hd]at h1;cases h1;exact h2
   have hag:Ag n ds (Bo (o.looksAt ops) (E i)++base) a w:=by
     refine⟨ha.defers,ha.size,fun t q ht=>?_⟩
     rcases C3 ht with h|h
     · obtain⟨h1,h2⟩:=Eg h
       obtain⟨j,p,hj,hp,hpd,hEj⟩:=hEl _ _ _ oQ h2
       obtain⟨e,he,hbe,hon'⟩:=(hpair j p oQ hp).2 t hpd h1
       have:=hed e he hbe
       exact hI j p t q oQ hp hpd hEj (by rw[←hon'];exact this)
     exact ha.val t q h
   have step:∀v w',Up w w'→ph.holds v w'→wpAnyIn (FR R) m P .any ops Q fuel (listed.setIfInBounds i true) (a.put o.dst v) w':=by
     intro v w' hu' hv
     refine ih _ _ _ (by simpa using hs) (J0 hlt hbi hc) ?_ (Rr hlt hio hed hD) (hu.trans hu') ?_ ?_
     · intro j hj hjs
       rw[C5 hlt,ae (by omega)]
       exact hno j hj hjs
     · refine⟨by rw[hd];exact ha.defers,by rw[hd];simp[Go.Act.put,ha.size],fun t q ht=>?_⟩
       have hne:t≠d:=fun e=>hbase t q ht i o oQ hio (by rw[hd,e])
       rw[hd,Cv hne]
       exact Es hbp ht (ha.val t q ht)
     intro j p d' q hjk hp hpd hEj hl
     by_cases e:j=i
     · subst e
       rw[hio]at hp
       cases hp
       rw[hd]at hpd
       cases hpd
       rw[hEi]at hEj
       cases hEj
       rw[hd,Dt (by rw[ha.size];exact hdn)]
       exact hv
     have hne:d'≠d:=fun ee=>(hpair j p oQ hp).1 (fun ee=>e ee.symm) (by rw[hd,hpd,ee])
     rw[hd,Cv hne]
     obtain⟨q',d'',hd'',hup',_,hEj'⟩:=hE j p hjk hp
     rw[hEj]at hEj'
     cases hEj'
     rw[C5 hlt,ae e]at hl
     exact hup' _ _ _ (hI j p d' q hjk hp hpd hEj hl) hu'
   have h2:=hop a w hu hag
   unfold wpOpIn
   rw[hio]
   dsimp only
   by_cases hw:Region.wanted o (yielded ops a.tmps)=true
   · rw[ak hw]at h2⊢
     exact Hp h2 fun v w'⟨h3,h4⟩=>step v w' h3 h4
   rw[ae hw]at h2⊢
   exact⟨fun _ _=>trivial,step _ _ (Up.refl w) h2⟩
theorem M3{id:Nat}{opsL:List Oper}(k:Nat){oh:Oper}{dh:Nat}(PostH:Value→World→Prop)(hm:P.follows .mixedOrders=true)(hok:K0 n opsL.toArray (k+1)=true)(hT:Hq opsL.toArray (k+1)=true)(hA:Ea opsL.toArray=true)(hC:Fm opsL.toArray (k+1)=true)(hL:eY opsL.toArray k=true)
   (hl:Cf l=true){base:Env}(hb:C7 (P1 (opsL.take (k+1))) l=base)(hoh:opsL[k]?=some oh)(hdh:oh.dst=some dh)(hgh:oh.guard=none)
   (h:HW P n ds opsL.toArray base w [] (opsL.take k) (fun env=>(∀a w',Up w w'→Ag n ds (Bo (oh.looksAt opsL.toArray) env++base) a w'→eS P oh a w' PostH)∧∀v w',PostH v w'→LW R m P n ds opsL.toArray Q (opsL.drop (k+1)) ((dh,.eq v)::(Ej env++base)) w')):CW R m P n ds (.region id opsL.toArray true) Q l w:=by
 intro a ha
 obtain⟨E,hE0,hK,hE⟩:=Rp _ _ h
 subst hb
 have hks:k+1≤opsL.length:=by
   unfold K0 at hok
   rw[aw]at hok
   simpa using ah hok.1
 have hlen:(opsL.take k).length=k:=by rw[bu];omega
 rw[hlen]at hK
 have hbp:Cf (C7 (P1 (opsL.take (k+1))) l)=true:=by
   have:∀(ks:List Nat)(l:Env),Cf l=true→Cf (C7 ks l)=true:=by
     intro ks l
     induction l with
     |nil=>intro _;rfl
     |cons p l ih=>
       obtain⟨i,ph⟩:=p
       cases ph with
       |pred q=>intro h;simp[Cf]at h
       |eq v=>intro h;unfold C7;cases Mp ks i<;>simp[Cf]at h⊢ <;>exact ih h
       |cond b v=>intro h;unfold C7;cases Mp ks i<;>simp[Cf]at h⊢ <;>exact ih h
   exact this _ _ hl
 refine wpIn_region_any hm (aK (w0:=w) (base:=C7 (P1 (opsL.take (k+1))) l) (oh:=oh) hok hT hA hC hL (by rw[i3];omega) E hE0 (fun i o hik ho=>hE i o (by rw[cz hik];simpa using ho)) hbp ?_ (by simpa using hoh) hdh hgh hK.1 ?_ _ _ _ _ (by simp) ?_ ?_ ?_ (Up.drew w) ?_ ?_)
 · intro i ph hi j o hj ho hd
   obtain⟨h1,h2⟩:=C4 hi
   exact h1 (P2 (by have:=am (l:=opsL.take (k+1)) (i:=j) (by rw[cz hj];simpa using ho);exact this) hd)
 · intro v w' a' hv ha'
   exact hK.2 v w' hv a' ha'
 · have:(Array.replicate opsL.toArray.size false).toList.countP (· ==false)≤(Array.replicate opsL.toArray.size false).toList.length:=gi
   simpa using this
 · intro j _ _
   rw[aj,dr]
   split<;>rfl
 · intro i o _ hli
   rw[aj,dr]at hli
   split at hli<;>simp at hli
 · exact⟨ha.defers,ha.size,fun i ph hi=>Es hl (C4 hi).2 (ha.val _ _ (C4 hi).2)⟩
 intro j o d ph _ ho hd _ hlj
 rw[aj,dr]at hlj
 split at hlj<;>simp at hlj
theorem REv.y{o:Oper}{a:Go.Act}{Post:Value→World→Prop}(h:REv P n ds l w o Post)(ha:Ag n ds l a w):eS P o a w Post:=.inl (h a ha)
theorem BT{o:Oper}{rest:List Oper}{Post:Value→World→Prop}(h:REv P n ds l w o Post)(hg:o.guard=none)(hd:o.dst=none)(hl:Cf l=true)
   (k:∀v w',Post v w'→LW R m P n ds ops Q rest l w'):LW R m P n ds ops Q (o::rest) l w:=fun a ha=>
 let⟨v,w',hr,hp⟩:=h a ha
 wpListIn_plain hg fun K hK=>Gj hr (hK _ _ (k v w' hp _ (by rw[hd];exact ha.world hl w')))
section
variable (R:Option Nat)(m:Nat)(P:Program)(n:Nat)(ds:List Deferred)
def AW(ops:Array Oper)(Q:Exit→Go.Act→World→Prop)(fuel:Nat)(listed:Array Bool)(l:Env)(w:World):Prop:=∀a,Ag n ds l a w→wpAnyIn (FR R) m P .any ops Q fuel listed a w
def OW(ops:Array Oper)(Q:Exit→Go.Act→World→Prop)(fuel:Nat)(listed:Array Bool)(i:Nat)(o:Oper)(l:Env)(w:World):Prop:=∀a,Ag n ds l a w→o.wpIn (FR R) m P a w (fun a' w'=>wpAnyIn (FR R) m P .any ops Q fuel (listed.setIfInBounds i true) a' w') Q
end
theorem T7{id:Nat}{opsL:List Oper}(hm:P.follows .mixedOrders=true)(hl:Cf l=true)(h:AW R m P n ds opsL.toArray Q opsL.length (Array.replicate opsL.length false) l w.drew):CW R m P n ds (.region id opsL.toArray true) Q l w:=fun a ha=>
 wpIn_region_any hm (by have:=h a (ha.world hl _);simpa using this)
theorem AW.step{fuel:Nat}{listed:Array Bool}{rs:List Nat}(hr:Region.ready .any ops listed=rs)(hne:rs≠[])(h:∀i∈rs,∃o,ops[i]?=some o∧o.guard=none∧OW R m P n ds ops Q fuel listed i o l w):AW R m P n ds ops Q (fuel+1) listed l w:=fun a ha=>
 ⟨fun h0=>absurd (hr.symm.trans h0) hne,fun i hi=>by
   obtain⟨o,ho,hg,hw⟩:=h i (hr▸hi)
   unfold wpOpIn
   rw[ho]
   dsimp only
   rw[ak (by simp[Region.wanted,hg])]
   exact hw a ha⟩
theorem AW.done{fuel:Nat}{listed:Array Bool}(hr:Region.ready .any ops listed=[])(h:KW n ds (Q .normal) l w):AW R m P n ds ops Q fuel listed l w:=fun a ha=>by
 cases fuel with
 |zero=>exact⟨hr,h a ha⟩
 |succ fuel=>exact⟨fun _=>h a ha,fun i hi=>by rw[hr]at hi;cases hi⟩
theorem OW.p{fuel:Nat}{listed:Array Bool}{i:Nat}{o:Oper}{d:Nat}{v:Value}(h:PEv P n ds l w o v)(hd:o.dst=some d)(hn:Nat.ble (d+1) n=true)(k:AW R m P n ds ops Q fuel (listed.setIfInBounds i true) ((d,.eq v)::l) w):OW R m P n ds ops Q fuel listed i o l w:=fun a ha=>
 Gj (h a w ha (Up.refl w)) (k _ (by rw[hd];exact ha.put hn rfl))
end
end Go.Wx
