import Derived.WalkKit
import Derived.OrdersIn
import Derived.RangeFuncNested
import Derived.RangeFuncBound
import Derived.RangeFuncCalls
import Derived.RangeFuncLeaves
namespace Go.Wx
open Go.RowKit
def Up(w w':World):Prop:=Below w.heap.size w w'
theorem Up.refl(w:World):Up w w:=Below.refl _ w
theorem Up.size{w w':World}(h:Up w w'):w.heap.size≤w'.heap.size:=Below.size h
theorem Up.trans{a b c:World}(h:Up a b)(k:Up b c):Up a c:=Below.trans h (Below.mono k (Up.size h))
theorem Up.block{w w':World}(h:Up w w'){k:Nat}(hk:k<w.heap.size):w'.heap[k]?=w.heap[k]?:=Below.block h k hk
theorem Up.alloc(w:World)(o:Obj):Up w (w.alloc o):=(Below.refl _ w).alloc (Nat.le_refl _) o
theorem Up.drew(w:World):Up w w.drew:=Below.drew (Below.refl _ w)
theorem lt_of_block{w:World}{b:Nat}{o:Obj}(h:w.heap[b]?=some o):b<w.heap.size:=(Array.getElem?_eq_some_iff.1 h).1
def Blk(w:World)(B:Nat)(cs:Array Value)(T:TypeId):Prop:=w.heap[B]?=some (.cells cs T (0,0))
theorem Blk.lt{w:World}{B:Nat}{cs:Array Value}{T:TypeId}(h:Blk w B cs T):B<w.heap.size:=lt_of_block h
theorem Blk.up{w w':World}{B:Nat}{cs:Array Value}{T:TypeId}(h:Blk w B cs T)(k:Up w w'):Blk w' B cs T:=(k.block h.lt).trans h
structure Sto(B:Nat)(w w':World):Prop where
  os:w'.os=w.os
  tape:w'.tape=w.tape
  output:w'.output=w.output
  size:w.heap.size≤w'.heap.size
  block:∀k,k<w.heap.size→k≠B→w'.heap[k]?=w.heap[k]?
theorem Blk.sto{w w':World}{B B':Nat}{cs:Array Value}{T:TypeId}(h:Blk w B cs T)(k:Sto B' w w')(hne:B≠B'):Blk w' B cs T:=(k.block B h.lt hne).trans h
theorem Up.sto{w0 w w':World}{B:Nat}(h:Up w0 w)(k:Sto B w w')(hB:w0.heap.size≤B):Up w0 w':=
  ⟨k.os.trans h.os,k.tape.trans h.tape,k.output.trans h.output,Nat.le_trans (Up.size h) k.size,fun i hi=>(k.block i (Nat.lt_of_lt_of_le hi (Up.size h)) (by omega)).trans (h.block hi)⟩
theorem Up.up{w0 w w':World}(h:Up w0 w)(k:Up w w'):Up w0 w':=h.trans k
inductive Ph where
  |eq (v:Value)
  |cond (b:Bool) (v:Value)
  |pred (p:Value→World→Prop)
def Ph.holds:Ph→Value→World→Prop
  |.eq v,x,_=>x=v
  |.cond b v,x,_=>x=bif b then v else undef
  |.pred p,x,w=>p x w
abbrev Env:=List (Nat×Ph)
def lk:Env→Nat→Option Ph
  |[],_=>none
  |(j,v)::l,i=>bif Nat.beq i j then some v else lk l i
structure Ag(n:Nat)(ds:List Deferred)(l:Env)(a:Act)(w:World):Prop where
  defers:a.defers=ds
  size:a.tmps.size=n
  val:∀i ph,lk l i=some ph→ph.holds (a.tmps.getD i undef) w
inductive Val(l:Env):Operand→Value→Prop where
  |const (v:Value):Val l (.const v) v
  |global (g:Nat):Val l (.global g) (.pointer (some ⟨g,0,none⟩))
  |func (f:FuncId):Val l (.func f) (.func (.func f) #[] #[])
  |tmp {t:Nat} {v:Value} (h:lk l t=some (.eq v)):Val l (.tmp t) v
  |cond {t:Nat} {b:Bool} {v:Value} (h:lk l t=some (.cond b v)) (hb:b=true):Val l (.tmp t) v
theorem Ag.ev{n:Nat}{ds:List Deferred}{l:Env}{a:Act}{w:World}(h:Ag n ds l a w){x:Operand}{v:Value}(hx:Val l x v):a.eval x=v:=by
  cases hx with
  |const=>rfl
  |global=>rfl
  |func=>rfl
  |tmp hl=>exact h.val _ _ hl
  |cond hl hb=>have:=h.val _ _ hl;subst hb;exact this
theorem A8{l:Env}{i j:Nat}{ph:Ph}(h:i≠j):lk ((j,ph)::l) i=lk l i:=by
  have:Nat.beq i j=false:=by
    cases hb:Nat.beq i j with
    |false=>rfl
    |true=>exact absurd (Nat.eq_of_beq_eq_true hb) h
  simp[lk,this]
theorem A7{l:Env}{i:Nat}{ph:Ph}:lk ((i,ph)::l) i=some ph:=by simp[lk]
theorem Es{a:Act}{d:Nat}{v:Value}(h:d<a.tmps.size):(a.put (some d) v).tmps.getD d undef=v:=by
  simp[Act.put,Array.getD_eq_getD_getElem?,h]
theorem Da{a:Act}{d i:Nat}{v:Value}(h:i≠d):(a.put (some d) v).tmps.getD i undef=a.tmps.getD i undef:=by
  simp only[Act.put,Array.getD_eq_getD_getElem?,Array.getElem?_setIfInBounds_ne (Ne.symm h)]
theorem Ag.put{n:Nat}{ds:List Deferred}{l:Env}{a:Act}{w:World}(h:Ag n ds l a w){d:Nat}(hd:Nat.ble (d+1) n=true){ph:Ph}{v:Value}(hv:ph.holds v w):Ag n ds ((d,ph)::l) (a.put (some d) v) w:=by
  have hd':d<n:=Nat.le_of_ble_eq_true hd
  refine⟨h.defers,by simp[Act.put,h.size],fun i p hi=>?_⟩
  by_cases e:i=d
  · subst e
    rw[A7]at hi
    cases hi
    rw[Es (by rw[h.size];exact hd')]
    exact hv
  · rw[A8 e]at hi
    rw[Da e]
    exact h.val i p hi
def Cj:Env→Bool
  |[]=>true
  |(_,.pred _)::_=>false
  |_::l=>Cj l
theorem Ff{l:Env}(h:Cj l=true){i:Nat}{ph:Ph}(hi:lk l i=some ph){x:Value}{w w':World}(hx:ph.holds x w):ph.holds x w':=by
  induction l with
  |nil=>cases hi
  |cons p l ih=>
    obtain⟨j,q⟩:=p
    have hl:Cj l=true:=by cases q<;>simp_all[Cj]
    by_cases e:i=j
    · subst e
      rw[A7]at hi
      cases hi
      cases ph with
      |eq v=>exact hx
      |cond b v=>exact hx
      |pred p=>simp[Cj]at h
    · rw[A8 e]at hi
      exact ih hl hi
theorem Ag.world{n:Nat}{ds:List Deferred}{l:Env}{a:Act}{w:World}(h:Ag n ds l a w)(hl:Cj l=true)(w':World):Ag n ds l a w':=
  ⟨h.defers,h.size,fun i ph hi=>Ff hl hi (h.val i ph hi)⟩
def Sub(l:Env):Env→Prop
  |[]=>True
  |(i,ph)::r=>lk l i=some ph∧Sub l r
theorem Sub.lk{l:Env}:∀{r:Env},Sub l r→∀{i:Nat}{ph:Ph},lk r i=some ph→Wx.lk l i=some ph
  |[],_,_,_,h=>by cases h
  |(j,q)::r,⟨h1,h2⟩,i,ph,h=>by
    by_cases e:i=j
    · subst e;rw[A7]at h;cases h;exact h1
    · rw[A8 e]at h;exact Sub.lk h2 h
theorem Ag.sub{n:Nat}{ds:List Deferred}{l r:Env}{a:Act}{w:World}(h:Ag n ds l a w)(hs:Sub l r):Ag n ds r a w:=
  ⟨h.defers,h.size,fun i ph hi=>h.val i ph (hs.lk hi)⟩
abbrev FR(R:Option Nat):Fence:={ Fence.wide with round:=R }
section
variable (R:Option Nat)(m:Nat)(P:Program)(n:Nat)(ds:List Deferred)
def CW(c:Code)(Q:Exit→Act→World→Prop)(l:Env)(w:World):Prop:=∀a,Ag n ds l a w→c.wpIn (FR R) m P Q a w
def LW(ops:Array Oper)(Q:Exit→Act→World→Prop)(rest:List Oper)(l:Env)(w:World):Prop:=∀a,Ag n ds l a w→wpListIn (FR R) m P ops Q rest a w
def KW(K:Act→World→Prop)(l:Env)(w:World):Prop:=∀a,Ag n ds l a w→K a w
end
section
variable {R:Option Nat}{m:Nat}{P:Program}{n:Nat}{ds:List Deferred}{Q:Exit→Act→World→Prop}{l:Env}{w:World}
theorem Ah{x y:Code}(h:CW R m P n ds x (Exit.then (y.wpIn (FR R) m P Q) Q) l w):CW R m P n ds (.seq x y) Q l w:=fun a ha=>wpIn_seq (h a ha)
theorem Ae{id:Nat}{c:Code}(h:CW R m P n ds c (Exit.inBlock id Q) l w):CW R m P n ds (.block id c) Q l w:=fun a ha=>wpIn_block (h a ha)
theorem Aj(h:KW n ds (Q .normal) l w):CW R m P n ds .skip Q l w:=fun a ha=>wpIn_skip (h a ha)
theorem Al(h:KW n ds (Q .ret) l w):CW R m P n ds .ret Q l w:=fun a ha=>wpIn_ret (h a ha)
theorem A4{id:Nat}(h:KW n ds (Q (.exit id)) l w):CW R m P n ds (.exit id) Q l w:=fun a ha=>wpIn_exit (h a ha)
theorem CW.cond{c:Operand}{x y:Code}{t:Bool}(hc:Val l c (.bool t))(ht:t=true→CW R m P n ds x Q l w)(hf:t=false→CW R m P n ds y Q l w):
    CW R m P n ds (.cond c x y) Q l w:=fun a ha=>wpIn_cond_split (ha.ev hc) (fun h=>ht h a ha) (fun h=>hf h a ha)
theorem Vw{c:Operand}{x y:Code}(hc:Val l c (.bool true))(h:CW R m P n ds x Q l w):CW R m P n ds (.cond c x y) Q l w:=fun a ha=>wpIn_cond_true (ha.ev hc) (h a ha)
theorem Mg{c:Operand}{x y:Code}(hc:Val l c (.bool false))(h:CW R m P n ds y Q l w):CW R m P n ds (.cond c x y) Q l w:=fun a ha=>wpIn_cond_false (ha.ev hc) (h a ha)
theorem Aa{id:Nat}{ops:List Oper}(h:LW R m P n ds ops.toArray Q ops l w):CW R m P n ds (.region id ops.toArray false) Q l w:=fun a ha=>wpIn_region_lit (h a ha)
theorem CW.mono{c:Code}{Q':Exit→Act→World→Prop}(h:CW R m P n ds c Q' l w)(hq:∀e a w,Q' e a w→Q e a w):CW R m P n ds c Q l w:=fun a ha=>wpIn_mono (h a ha) hq
theorem LW.nil{ops:Array Oper}(h:KW n ds (Q .normal) l w):LW R m P n ds ops Q [] l w:=fun a ha=>wpListIn_nil (h a ha)
theorem Mq{x y:Code}(M:Act→World→Prop)(h:CW R m P n ds x (Exit.then M Q) l w)(k:∀a w,M a w→y.wpIn (FR R) m P Q a w):CW R m P n ds (.seq x y) Q l w:=
  Ah (h.mono fun e a w q=>by cases e<;>first|exact k _ _ q|exact q)
theorem CW.loop{σ:Type}{c:Code}(I:σ→World→Prop)(Fc:σ→Env)(μ:σ→Nat)(s0:σ)(h0:I s0 w)(hl:Sub l (Fc s0))
    (round:∀s w,I s w→CW R m P n ds c (Exit.then (fun a' w'=>∃s',I s' w'∧Ag n ds (Fc s') a' w'∧μ s'<μ s) Q) (Fc s) w):CW R m P n ds (.loop c) Q l w:=by
  intro a ha
  refine wpIn_mono (Q:=fun e a w=>Q e a w) ?_ (fun _ _ _ h=>h)
  intro b k cs hro hb hr
  have key:∀j s a w,μ s=j→I s w→Ag n ds (Fc s) a w→
      ∃e a' w',Q e a' w'∧ArrivesIn (Machine.fenced P (FR R)) P (lone (b.atR a (.code c::.inLoop c::k)) cs w) b k cs e a' w':=by
    intro j
    induction j using Nat.strongRecOn with
    |_ j ih=>
      intro s a w hn hI hA
      obtain⟨e,a₁,w₁,hq,harr⟩:=round s w hI a hA b (.inLoop c::k) cs hro hb hr
      cases e with
      |normal=>
        obtain⟨s',hI',hA',hlt⟩:=hq
        obtain⟨e₂,a₂,w₂,hq₂,harr₂⟩:=ih (μ s') (hn▸hlt) s' a₁ w₁ rfl hI' hA'
        exact⟨e₂,a₂,w₂,hq₂,.of_steps (StepsIn.trans harr (.one (fenced_calm hb hr rfl) stepR_inLoop)) harr₂⟩
      |exit id=>exact⟨_,a₁,w₁,hq,.pass (x:=.inLoop c) rfl (fun _ _=>.inl (by simp)) harr⟩
      |goto l=>exact⟨_,a₁,w₁,hq,.pass (x:=.inLoop c) rfl (fun _ _=>.inl (by simp)) harr⟩
      |ret=>exact⟨_,a₁,w₁,hq,.pass (x:=.inLoop c) rfl (fun _ _=>.inl (by simp)) harr⟩
      |panic ch=>exact⟨_,a₁,w₁,hq,.pass (x:=.inLoop c) rfl (fun _ _=>.inl (by simp)) harr⟩
      |outgrown=>exact⟨_,a₁,w₁,hq,.pass (x:=.inLoop c) rfl (fun _ _=>.inl (by simp)) harr⟩
  obtain⟨e,a',w',hq,harr⟩:=key _ s0 a w rfl h0 (ha.sub hl)
  exact⟨e,a',w',hq,.of_steps (.one (fenced_calm hb hr rfl) stepR_loop) harr⟩
end
section
variable (P:Program)(n:Nat)(ds:List Deferred)(l:Env)(w:World)
def PEv(o:Oper)(v:Value):Prop:=∀a w',Ag n ds l a w'→Up w w'→(execOp a.eval o).run P w'=.ok (.value v) w'
def REv(o:Oper)(Post:Value→World→Prop):Prop:=∀a,Ag n ds l a w→∃v w',(execOp a.eval o).run P w=.ok (.value v) w'∧Post v w'
def SEv(o:Oper)(Post:World→Prop):Prop:=∀a,Ag n ds l a w→∃w',(execOp a.eval o).run P w=.ok .skip w'∧Post w'
end
def Ret(P:Program)(f:FuncId)(args:Array Value)(w:World)(Post:Value→World→Prop):Prop:=
  Calls P f args w fun e w'=>∃v,e=.returned v∧Post v w'
theorem Ret.mono{P:Program}{f:FuncId}{args:Array Value}{w:World}{Post Post':Value→World→Prop}(h:Ret P f args w Post)(k:∀v w',Post v w'→Post' v w'):Ret P f args w Post':=
  Calls.mono h fun _ _⟨v,he,hp⟩=>⟨v,he,k _ _ hp⟩
section
variable {R:Option Nat}{m:Nat}{P:Program}{n:Nat}{ds:List Deferred}{Q:Exit→Act→World→Prop}{l:Env}{w:World}{ops:Array Oper}{rest:List Oper}{o:Oper}
theorem Xf{r:Option Nat}{ρ:Operand→Value}{o:Oper}{v:Value}{w w':World}(h:(execOp ρ o).run P w=.ok (.value v) w'):(o.semAt r ρ).run P w=.ok (.value v) w':=by
  by_cases hd:∃c,o.op=.defer c
  · obtain⟨c,hc⟩:=hd
    simp only[execOp,hc,Sem.run_bind]at h
    cases hr:(resolve ρ c o.type).run P w with
    |ok d w1=>simp[hr,Result.andThen]at h
    |halt x w1=>simp[hr,Result.andThen]at h
  · rw[Oper.semAt_eq _ _ _ (fun c hc=>hd ⟨c,hc⟩)];exact h
theorem aT{r:Option Nat}{ρ:Operand→Value}{o:Oper}{w w':World}(h:(execOp ρ o).run P w=.ok .skip w'):(o.semAt r ρ).run P w=.ok .skip w':=by
  by_cases hd:∃c,o.op=.defer c
  · obtain⟨c,hc⟩:=hd
    simp only[execOp,hc,Sem.run_bind]at h
    cases hr:(resolve ρ c o.type).run P w with
    |ok d w1=>simp[hr,Result.andThen]at h
    |halt x w1=>simp[hr,Result.andThen]at h
  · rw[Oper.semAt_eq _ _ _ (fun c hc=>hd ⟨c,hc⟩)];exact h
theorem Xg{r:Option Nat}{ρ:Operand→Value}{o:Oper}{f:FuncId}{args:Array Value}{w w':World}(h:(execOp ρ o).run P w=.ok (.enter f args) w'):(o.semAt r ρ).run P w=.ok (.enter f args) w':=by
  by_cases hd:∃c,o.op=.defer c
  · obtain⟨c,hc⟩:=hd
    simp only[execOp,hc,Sem.run_bind]at h
    cases hr:(resolve ρ c o.type).run P w with
    |ok d w1=>simp[hr,Result.andThen]at h
    |halt x w1=>simp[hr,Result.andThen]at h
  · rw[Oper.semAt_eq _ _ _ (fun c hc=>hd ⟨c,hc⟩)];exact h
theorem F9{a:Act}{K:Act→World→Prop}{v:Value}{w':World}(h:(execOp a.eval o).run P w=.ok (.value v) w')(hk:K (a.put o.dst v) w'):o.wpIn (FR R) m P a w K Q:=
  ⟨fun _ _=>trivial,by rw[show(FR R).round=R from rfl,Xf h];exact hk⟩
theorem Pm{a:Act}{K:Act→World→Prop}{w':World}(h:(execOp a.eval o).run P w=.ok .skip w')(hk:K (a.put o.dst undef) w'):o.wpIn (FR R) m P a w K Q:=
  ⟨fun _ _=>trivial,by rw[show(FR R).round=R from rfl,aT h];exact hk⟩
theorem Jv{a:Act}{K:Act→World→Prop}{f:FuncId}{args:Array Value}{w':World}(h:(execOp a.eval o).run P w=.ok (.enter f args) w'){Post:Value→World→Prop}
    (hc:Ret P f args w' Post)(hk:∀v w'',Post v w''→K (a.put o.dst v) w''):o.wpIn (FR R) m P a w K Q:=by
  refine⟨fun _ _=>trivial,?_⟩
  rw[show(FR R).round=R from rfl,Xg h]
  refine⟨fun hd=>(by cases hd),?_⟩
  have h1:CallsIn Fence.wide (m-1) P f args w' _:=callsIn_wide.2 hc
  refine CallsIn.mono (show CallsIn (FR R) (m-1) P f args w' _ from h1) ?_
  rintro e w'' ⟨v,rfl,hp⟩
  exact hk v w'' hp
theorem LW.p{v:Value}{d:Nat}(h:PEv P n ds l w o v)(hg:o.guard=none)(hd:o.dst=some d)(hn:Nat.ble (d+1) n=true)(k:LW R m P n ds ops Q rest ((d,.eq v)::l) w):LW R m P n ds ops Q (o::rest) l w:=fun a ha=>
  wpListIn_plain hg fun K hK=>F9 (h a w ha (Up.refl w)) (hK _ _ (k _ (by rw[hd];exact ha.put hn rfl)))
theorem LW.r{Post:Value→World→Prop}{d:Nat}(h:REv P n ds l w o Post)(hg:o.guard=none)(hd:o.dst=some d)(hn:Nat.ble (d+1) n=true)(hl:Cj l=true)
    (k:∀v w',Post v w'→LW R m P n ds ops Q rest ((d,.eq v)::l) w'):LW R m P n ds ops Q (o::rest) l w:=fun a ha=>
  let⟨v,w',hr,hp⟩:=h a ha
  wpListIn_plain hg fun K hK=>F9 hr (hK _ _ (k v w' hp _ (by rw[hd];exact(ha.world hl w').put hn rfl)))
theorem LW.s{Post:World→Prop}(h:SEv P n ds l w o Post)(hg:o.guard=none)(hd:o.dst=none)(hl:Cj l=true)
    (k:∀w',Post w'→LW R m P n ds ops Q rest l w'):LW R m P n ds ops Q (o::rest) l w:=fun a ha=>
  let⟨w',hr,hp⟩:=h a ha
  wpListIn_plain hg fun K hK=>Pm hr (hK _ _ (k w' hp _ (by rw[hd];exact ha.world hl w')))
theorem LW.c{f:FuncId}{args:Array Value}{Post:Value→World→Prop}{d:Nat}(he:∀a,Ag n ds l a w→(execOp a.eval o).run P w=.ok (.enter f args) w)(hg:o.guard=none)(hd:o.dst=some d)(hn:Nat.ble (d+1) n=true)(hl:Cj l=true)
    (hc:Ret P f args w Post)(k:∀v w',Post v w'→LW R m P n ds ops Q rest ((d,.eq v)::l) w'):LW R m P n ds ops Q (o::rest) l w:=fun a ha=>
  wpListIn_plain hg fun K hK=>Jv (he a ha) hc fun v w' hp=>hK _ _ (k v w' hp _ (by rw[hd];exact(ha.world hl w').put hn rfl))
theorem Ee{ops:Array Oper}{a:Act}{j dj:Nat}{oj:Oper}{want b:Bool}(hg:o.guard=some (j,want))(hj:ops[j]?=some oj)(hdj:oj.dst=some dj)(hdn:dj<a.tmps.size)(hv:a.tmps.getD dj undef=.bool b):Region.wanted o (yielded ops a.tmps)=(b==want):=by
  have h1:a.tmps[dj]?=some (.bool b):=by
    rw[Array.getD_eq_getD_getElem?]at hv
    have h2:a.tmps[dj]?=some a.tmps[dj]:=by simp[hdn]
    rw[h2]at hv⊢
    exact congrArg some hv
  simp only[Region.wanted,hg,yielded,hj,Option.bind_some,hdj,h1]
  cases b<;>cases want<;>rfl
theorem Ft{ops:Array Oper}{a:Act}{j dj:Nat}{oj:Oper}{want:Bool}{v:Value}(hg:o.guard=some (j,want))(hj:ops[j]?=some oj)(hdj:oj.dst=some dj)(hv:a.tmps.getD dj undef=v)(hb:∀b,v≠.bool b):Region.wanted o (yielded ops a.tmps)=false:=by
  have h1:∀b,a.tmps[dj]?≠some (.bool b):=by
    intro b h
    rw[Array.getD_eq_getD_getElem?,h]at hv
    exact hb b hv.symm
  simp only[Region.wanted,hg,yielded,hj,Option.bind_some,hdj]
  cases h:a.tmps[dj]? with
  |none=>rfl
  |some u=>cases u<;>rfl
theorem GA{j dj d:Nat}{oj:Oper}{want b:Bool}{v:Value}(hg:o.guard=some (j,want))(hj:ops[j]?=some oj)(hdj:oj.dst=some dj)(hdn:Nat.ble (dj+1) n=true)(hb:lk l dj=some (.eq (.bool b)))(hd:o.dst=some d)(hn:Nat.ble (d+1) n=true)
    (h:(b==want)=true→PEv P n ds l w o v)(k:LW R m P n ds ops Q rest ((d,.cond (b==want) v)::l) w):LW R m P n ds ops Q (o::rest) l w:=fun a ha=>
  wpListIn_step fun K hK=>by
    have hw:=Ee (o:=o) (ops:=ops) (a:=a) hg hj hdj (by rw[ha.size];exact Nat.le_of_ble_eq_true hdn) (ha.val _ _ hb)
    cases hc:(b==want)with
    |true=>
      rw[if_pos (by rw[hw,hc])]
      exact F9 (h hc a w ha (Up.refl w)) (hK _ _ (k _ (by rw[hd,hc];exact ha.put hn rfl)))
    |false=>
      rw[if_neg (by rw[hw,hc];exact Bool.false_ne_true)]
      exact⟨fun _ _=>trivial,hK _ _ (k _ (by rw[hd,hc];exact ha.put hn rfl))⟩
theorem No{j dj d:Nat}{oj:Oper}{want b B:Bool}{v:Value}(hg:o.guard=some (j,want))(hj:ops[j]?=some oj)(hdj:oj.dst=some dj)(hdn:Nat.ble (dj+1) n=true)(hb:lk l dj=some (.cond B (.bool b)))(hd:o.dst=some d)(hn:Nat.ble (d+1) n=true)
    (h:(B&&(b==want))=true→PEv P n ds l w o v)(k:LW R m P n ds ops Q rest ((d,.cond (B&&(b==want)) v)::l) w):LW R m P n ds ops Q (o::rest) l w:=fun a ha=>
  wpListIn_step fun K hK=>by
    have hv:=ha.val _ _ hb
    cases hB:B with
    |false=>
      subst hB
      have hw:=Ft (o:=o) (ops:=ops) (a:=a) hg hj hdj hv (fun b e=>by cases e)
      rw[if_neg (by rw[hw];exact Bool.false_ne_true)]
      exact⟨fun _ _=>trivial,hK _ _ (k _ (by rw[hd];exact ha.put hn rfl))⟩
    |true=>
      subst hB
      have hw:=Ee (o:=o) (ops:=ops) (a:=a) hg hj hdj (by rw[ha.size];exact Nat.le_of_ble_eq_true hdn) hv
      cases hc:(b==want)with
      |true=>
        rw[if_pos (by rw[hw,hc])]
        exact F9 (h (by rw[hc];rfl) a w ha (Up.refl w)) (hK _ _ (k _ (by rw[hd,hc];exact ha.put hn rfl)))
      |false=>
        rw[if_neg (by rw[hw,hc];exact Bool.false_ne_true)]
        exact⟨fun _ _=>trivial,hK _ _ (k _ (by rw[hd,hc];exact ha.put hn rfl))⟩
theorem LW.yes{j dj:Nat}{oj:Oper}{want:Bool}{o':Oper}(hg:o.guard=some (j,want))(ho':o'={ o with guard:=none })(hj:ops[j]?=some oj)(hdj:oj.dst=some dj)(hdn:Nat.ble (dj+1) n=true)(hb:lk l dj=some (.eq (.bool want)))
    (k:LW R m P n ds ops Q (o'::rest) l w):LW R m P n ds ops Q (o::rest) l w:=fun a ha=>by
  have hw:=Ee (o:=o) (ops:=ops) (a:=a) hg hj hdj (by rw[ha.size];exact Nat.le_of_ble_eq_true hdn) (ha.val _ _ hb)
  have hk:=k a ha
  have e:(want==want)=true:=by cases want<;>rfl
  subst ho'
  unfold wpListIn at hk⊢
  rw[if_pos (by rw[hw,e])]
  rw[if_pos (by rfl)]at hk
  exact hk
theorem LW.no{j dj d:Nat}{oj:Oper}{want b:Bool}(hg:o.guard=some (j,want))(hj:ops[j]?=some oj)(hdj:oj.dst=some dj)(hdn:Nat.ble (dj+1) n=true)(hb:lk l dj=some (.eq (.bool b)))(hne:(b==want)=false)(hd:o.dst=some d)(hn:Nat.ble (d+1) n=true)
    (k:LW R m P n ds ops Q rest ((d,.eq undef)::l) w):LW R m P n ds ops Q (o::rest) l w:=fun a ha=>
  wpListIn_step fun K hK=>by
    have hw:=Ee (o:=o) (ops:=ops) (a:=a) hg hj hdj (by rw[ha.size];exact Nat.le_of_ble_eq_true hdn) (ha.val _ _ hb)
    rw[if_neg (by rw[hw,hne];exact Bool.false_ne_true)]
    exact⟨fun _ _=>trivial,hK _ _ (k _ (by rw[hd];exact ha.put hn rfl))⟩
theorem Kr{j dj d:Nat}{oj:Oper}{want:Bool}(hg:o.guard=some (j,want))(hj:ops[j]?=some oj)(hdj:oj.dst=some dj)(hb:lk l dj=some (.eq undef))(hd:o.dst=some d)(hn:Nat.ble (d+1) n=true)
    (k:LW R m P n ds ops Q rest ((d,.eq undef)::l) w):LW R m P n ds ops Q (o::rest) l w:=fun a ha=>
  wpListIn_step fun K hK=>by
    have hw:=Ft (o:=o) (ops:=ops) (a:=a) hg hj hdj (ha.val _ _ hb) (fun b e=>by cases e)
    rw[if_neg (by rw[hw];exact Bool.false_ne_true)]
    exact⟨fun _ _=>trivial,hK _ _ (k _ (by rw[hd];exact ha.put hn rfl))⟩
theorem Mh{j dj d:Nat}{oj:Oper}{want b:Bool}{v:Value}{f:FuncId}{args:Array Value}(hg:o.guard=some (j,want))(hj:ops[j]?=some oj)(hdj:oj.dst=some dj)(hdn:Nat.ble (dj+1) n=true)(hb:lk l dj=some (.eq (.bool b)))(hd:o.dst=some d)(hn:Nat.ble (d+1) n=true)(hl:Cj l=true)
    (he:(b==want)=true→∀a,Ag n ds l a w→(execOp a.eval o).run P w=.ok (.enter f args) w)(hc:(b==want)=true→Ret P f args w fun u w'=>u=v∧Up w w')(k:∀w',Up w w'→LW R m P n ds ops Q rest ((d,.cond (b==want) v)::l) w'):LW R m P n ds ops Q (o::rest) l w:=fun a ha=>
  wpListIn_step fun K hK=>by
    have hw:=Ee (o:=o) (ops:=ops) (a:=a) hg hj hdj (by rw[ha.size];exact Nat.le_of_ble_eq_true hdn) (ha.val _ _ hb)
    cases hcc:(b==want)with
    |true=>
      rw[if_pos (by rw[hw,hcc])]
      exact Jv (he hcc a ha) (hc hcc) fun u w' hp=>hK _ _ (k w' hp.2 _ (by rw[hd,hcc];exact(ha.world hl w').put hn hp.1))
    |false=>
      rw[if_neg (by rw[hw,hcc];exact Bool.false_ne_true)]
      exact⟨fun _ _=>trivial,hK _ _ (k w (Up.refl w) _ (by rw[hd,hcc];exact ha.put hn rfl))⟩
theorem xO{j dj d:Nat}{oj:Oper}{want b B:Bool}{v:Value}{f:FuncId}{args:Array Value}(hg:o.guard=some (j,want))(hj:ops[j]?=some oj)(hdj:oj.dst=some dj)(hdn:Nat.ble (dj+1) n=true)(hb:lk l dj=some (.cond B (.bool b)))(hd:o.dst=some d)(hn:Nat.ble (d+1) n=true)(hl:Cj l=true)
    (he:(B&&(b==want))=true→∀a,Ag n ds l a w→(execOp a.eval o).run P w=.ok (.enter f args) w)(hc:(B&&(b==want))=true→Ret P f args w fun u w'=>u=v∧Up w w')(k:∀w',Up w w'→LW R m P n ds ops Q rest ((d,.cond (B&&(b==want)) v)::l) w'):LW R m P n ds ops Q (o::rest) l w:=fun a ha=>
  wpListIn_step fun K hK=>by
    have hv:=ha.val _ _ hb
    cases hB:B with
    |false=>
      subst hB
      have hw:=Ft (o:=o) (ops:=ops) (a:=a) hg hj hdj hv (fun b e=>by cases e)
      rw[if_neg (by rw[hw];exact Bool.false_ne_true)]
      exact⟨fun _ _=>trivial,hK _ _ (k w (Up.refl w) _ (by rw[hd];exact ha.put hn rfl))⟩
    |true=>
      subst hB
      have hw:=Ee (o:=o) (ops:=ops) (a:=a) hg hj hdj (by rw[ha.size];exact Nat.le_of_ble_eq_true hdn) hv
      cases hcc:(b==want)with
      |true=>
        rw[if_pos (by rw[hw,hcc])]
        exact Jv (he (by rw[hcc];rfl) a ha) (hc (by rw[hcc];rfl)) fun u w' hp=>hK _ _ (k w' hp.2 _ (by rw[hd,hcc];exact(ha.world hl w').put hn hp.1))
      |false=>
        rw[if_neg (by rw[hw,hcc];exact Bool.false_ne_true)]
        exact⟨fun _ _=>trivial,hK _ _ (k w (Up.refl w) _ (by rw[hd,hcc];exact ha.put hn rfl))⟩
end
end Go.Wx
