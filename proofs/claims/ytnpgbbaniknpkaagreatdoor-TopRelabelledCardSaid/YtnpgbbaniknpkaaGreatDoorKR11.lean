import Derived.WalkKit
import Derived.OrdersIn
import Derived.RangeFuncNested
import Derived.RangeFuncBound
import Derived.RangeFuncCalls
import Derived.RangeFuncLeaves
namespace Go
abbrev ai:=@List.mem_of_getElem?
abbrev ak:=@List.length_append
abbrev am:=@List.getElem?_eq_some_iff
abbrev aq:=@if_neg
abbrev a8:=@Nat.zero_le
abbrev a_:=@Nat.le_of_ble_eq_true
abbrev bg:=@List.length_cons
abbrev bh:=@if_pos
abbrev bi:=@congrArg
abbrev bj:=@decide_eq_true
abbrev bl:=@Nat.le_refl
abbrev bm:=@Array.getD_eq_getD_getElem?
abbrev bn:=@List.mem_singleton
abbrev bp:=@List.mem_cons
abbrev br:=@decide_eq_false
abbrev bt:=@List.mem_append
abbrev bu:=@Nat.le_trans
abbrev bw:=@List.length_nil
abbrev bx:=@List.mem_map
abbrev b6:=@Bool.and_eq_true
abbrev b7:=@List.mem_cons_self
abbrev b8:=@List.take_length
abbrev b9:=@of_decide_eq_true
abbrev b_:=@List.mem_cons_of_mem
abbrev ca:=@Bool.false_ne_true
abbrev cb:=@Array.getElem?_eq_some_iff
abbrev cc:=@List.length_take
abbrev cd:=@of_decide_eq_false
abbrev ce:=@Array.getElem?_eq_getElem
abbrev cg:=@List.getD_eq_getElem?_getD
abbrev ci:=@Nat.eq_of_beq_eq_true
abbrev cj:=@List.pairwise_append
abbrev ck:=@Array.all_eq_true_iff_forall_mem
abbrev cm:=@Int.ofNat_lt
abbrev cn:=@List.mem_range
abbrev co:=@List.map_append
abbrev cr:=@List.ext_getElem?
abbrev cw:=@List.flatMap_cons
abbrev cx:=@List.getElem?_eq_getElem
abbrev cy:=@List.getElem?_eq_none
abbrev cz:=@List.filter_append
abbrev c6:=@List.append_assoc
abbrev c7:=@List.getElem?_append_left
abbrev c8:=@List.map_cons
abbrev c9:=@Array.length_toList
abbrev c_:=@List.length_attach
abbrev db:=@List.getElem?_append_right
abbrev dc:=@Option.some.inj
abbrev df:=@List.mem_nil_iff
abbrev di:=@List.all_eq_true
abbrev dk:=@List.append_nil
abbrev dl:=@List.eq_nil_of_length_eq_zero
abbrev dm:=@List.getElem?_take_of_lt
abbrev dp:=@Nat.zero_add
abbrev dq:=@Nat.min_eq_left
abbrev dr:=@Option.getD_some
abbrev du:=@List.nil_append
abbrev dv:=@List.length_map
abbrev dw:=@List.pairwise_iff_getElem
abbrev dy:=@List.length_singleton
abbrev dz:=@List.filter_cons
abbrev d9:=@List.length_set
abbrev d_:=@or_false
abbrev ef:=@List.length_filter_le
abbrev eg:=@List.pairwise_cons
abbrev eh:=@List.mem_append_left
abbrev ei:=@List.not_mem_nil
abbrev er:=@List.take_append_drop
abbrev et:=@List.mem_iff_getElem?
abbrev eu:=@Nat.add_mul
abbrev ew:=@List.getElem?_map
abbrev ez:=@Array.getElem_mem
abbrev e8:=@List.map_congr_left
abbrev e_:=@List.cons_append
abbrev fb:=@List.mem_iff_getElem
abbrev fc:=@Nat.lt_of_lt_of_le
abbrev fd:=@List.map_map
abbrev fe:=@List.mem_filter
abbrev ff:=@Array.getElem?_replicate
abbrev fg:=@Nat.lt_or_ge
abbrev fh:=@List.getElem?_cons_succ
abbrev fi:=@Nat.mul_le_mul_right
abbrev fj:=@List.drop_eq_getElem_cons
abbrev fk:=@Array.any_eq_true
abbrev fm:=@Nat.le_of_eq
abbrev fo:=@Nat.add_zero
abbrev fp:=@List.getElem?_take
abbrev fq:=@List.map_nil
abbrev ft:=@List.filter_eq_nil_iff
abbrev fu:=@Bool.eq_false_iff
abbrev fy:=@Prod.mk.inj
abbrev fz:=@Nat.mul_one
abbrev f4:=@List.mem_append_right
abbrev f5:=@List.mem_filterMap
abbrev f6:=@List.map_toArray
abbrev f7:=@Option.isSome_iff_exists
abbrev f8:=@List.take_add_one
abbrev f9:=@List.pairwise_singleton
abbrev ga:=@Option.map_some
abbrev gb:=@List.length_pos_iff
abbrev gc:=@List.take_of_length_le
abbrev ge:=@List.getElem?_drop
abbrev gg:=@UInt8.lt_iff_toNat_lt
abbrev gh:=@List.length_replicate
abbrev gi:=@Bool.or_eq_true
abbrev gj:=@decide_eq_true_eq
abbrev gk:=@List.pairwise_map
abbrev gm:=@List.getElem?_set
abbrev gn:=@Nat.mul_le_mul_left
abbrev gp:=@List.countP_eq_zero
abbrev gu:=@List.take_take
abbrev gv:=@List.filter_cons_of_neg
abbrev gw:=@List.eq_nil_iff_forall_not_mem
abbrev gx:=@List.set_cons_succ
abbrev gy:=@Int.natCast_nonneg
abbrev gz:=@Array.ext'
abbrev g5:=@List.nodup_cons
abbrev g6:=@Array.getElem?_setIfInBounds
abbrev g7:=@Bool.false_or
abbrev g8:=@Nat.ble_eq_true_of_le
abbrev g9:=@List.nodup_append
abbrev g_:=@Nat.mul_add
abbrev ig:=@List.nodup_nil
abbrev ii:=@List.getElem?_mapIdx
abbrev ij:=@Int.fdiv_eq_ediv_of_nonneg
abbrev ik:=@Classical.not_forall
abbrev il:=@Array.toList_setIfInBounds
abbrev im:=@Nat.mod_eq_of_lt
abbrev io:=@List.mem_flatMap
abbrev ip:=@List.any_eq_true
abbrev iq:=@List.flatMap_append
abbrev ir:=@List.filter_eq_self
abbrev iu:=@Nat.lt_irrefl
abbrev iv:=@Nat.add_sub_cancel
abbrev iw:=@List.length_mapIdx
abbrev iy:=@List.filter_cons_of_pos
abbrev iz:=@Option.map_eq_some_iff
abbrev i4:=@Nat.mul_comm
abbrev i5:=@Nat.lt_trichotomy
abbrev i6:=@List.size_toArray
abbrev i7:=@List.drop_eq_nil_of_le
abbrev i8:=@List.countP_le_length
abbrev i9:=@Array.getElem?_toList
abbrev i_:=@Nat.min_eq_right
abbrev ja:=@Bool.not_true
abbrev jb:=@Int.le_refl
abbrev jc:=@Bool.or_eq_false_iff
abbrev jd:=@List.range_succ
abbrev je:=@List.filter_nil
abbrev jf:=@Array.toList_modify
abbrev jg:=@List.perm_ext_iff_of_nodup
abbrev jh:=@List.find?_eq_none
abbrev ji:=@List.mem_of_find?_eq_some
abbrev jj:=@Int.toNat_natCast
abbrev jk:=@Function.comp_def
abbrev jl:=@Bool.not_eq_true'
abbrev jm:=@List.sublist_append_left
abbrev jn:=@Array.size_setIfInBounds
abbrev jo:=@decide_eq_false_iff_not
abbrev jp:=@List.pairwise_mergeSort
abbrev jq:=@Nat.sub_self
abbrev jr:=@List.append_eq_nil_iff
abbrev js:=@Nat.div_add_mod
abbrev jt:=@List.count_cons
abbrev ju:=@Nat.div_lt_iff_lt_mul
abbrev jv:=@List.takeWhile_prefix
abbrev jw:=@List.perm_append_comm
abbrev jx:=@List.contains_iff_mem
abbrev jy:=@Array.getElem?_modify
abbrev jz:=@Nat.one_mul
abbrev j0:=@List.take_succ_cons
abbrev j1:=@List.mergeSort_perm
abbrev j2:=@List.flatten_append
abbrev j3:=@List.countP_pos_iff
abbrev j4:=@Bool.or_eq_true_iff
abbrev j5:=@List.sum_cons
abbrev j6:=@UInt8.toNat_ofNat'
abbrev j7:=@Bool.false_eq_true
abbrev j8:=@Nat.lt_succ_of_lt
abbrev j9:=@Nat.add_comm
abbrev j_:=@List.length_range
abbrev kc:=@List.filter_congr
abbrev kh:=@List.drop_sublist
abbrev ki:=@Array.getElem?_setIfInBounds_ne
abbrev kj:=@Nat.lt_succ_self
abbrev kl:=@List.length_drop
abbrev km:=@List.getElem_inj
abbrev kp:=@List.take_append_of_le_length
abbrev kq:=@Option.map_none
abbrev kr:=@List.foldl_cons
abbrev kt:=@List.find?_some
abbrev ky:=@List.countP_set
abbrev kz:=@List.take_left
abbrev k6:=@List.takeWhile_cons_of_pos
abbrev k7:=@List.isPrefixOf_iff_prefix
abbrev k8:=@List.drop_drop
abbrev k9:=@Int.tmod_eq_emod_of_nonneg
end Go
namespace Go.Wx
open Go.RowKit
def Up(w w':World):Prop:=Below w.heap.size w w'
theorem Up.refl(w:World):Up w w:=Below.refl _ w
theorem Up.size{w w':World}(h:Up w w'):w.heap.size≤w'.heap.size:=Below.size h
theorem Up.trans{a b c:World}(h:Up a b)(k:Up b c):Up a c:=Below.trans h (Below.mono k (Up.size h))
theorem Up.block{w w':World}(h:Up w w'){k:Nat}(hk:k<w.heap.size):w'.heap[k]?=w.heap[k]?:=Below.block h k hk
theorem Up.alloc(w:World)(o:Obj):Up w (w.alloc o):=(Below.refl _ w).alloc (bl _) o
theorem Up.drew(w:World):Up w w.drew:=Below.drew (Below.refl _ w)
theorem lt_of_block{w:World}{b:Nat}{o:Obj}(h:w.heap[b]?=some o):b<w.heap.size:=(cb.1 h).1
def Blk(w:World)(B:Nat)(cs:Array Value)(T:TypeId):Prop:=w.heap[B]?=some (.cells cs T (0,0))
theorem Blk.lt{w:World}{B:Nat}{cs:Array Value}{T:TypeId}(h:Blk w B cs T):B<w.heap.size:=lt_of_block h
theorem Blk.up{w w':World}{B:Nat}{cs:Array Value}{T:TypeId}(h:Blk w B cs T)(k:Up w w'):Blk w' B cs T:=(k.block h.lt).trans h
structure Sto(B:Nat)(w w':World):Prop where
  os:w'.os=w.os
  tape:w'.tape=w.tape
  output:w'.output=w.output
  size:w.heap.size≤w'.heap.size
  block:∀k,k<w.heap.size→k≠B→w'.heap[k]?=w.heap[k]?
theorem Blk.sto{w w':World}{B B':Nat}{cs:Array Value}{T:TypeId}(h:Blk w B cs T)(k:Sto B' w w')(hne:B≠B'):Blk w' B cs T:=(k.block B h.lt hne).trans h
theorem Up.sto{w0 w w':World}{B:Nat}(h:Up w0 w)(k:Sto B w w')(hB:w0.heap.size≤B):Up w0 w':=
  ⟨k.os.trans h.os,k.tape.trans h.tape,k.output.trans h.output,bu (Up.size h) k.size,fun i hi=>(k.block i (fc hi (Up.size h)) (by omega)).trans (h.block hi)⟩
theorem Up.up{w0 w w':World}(h:Up w0 w)(k:Up w w'):Up w0 w':=h.trans k
inductive Ph where
  |eq (v:Value)
  |cond (b:Bool) (v:Value)
  |pred (p:Value→World→Prop)
def Ph.holds:Ph→Value→World→Prop
  |.eq v,x,_=>x=v
  |.cond b v,x,_=>x=bif b then v else undef
  |.pred p,x,w=>p x w
abbrev Env:=List (Nat×Ph)
def lk:Env→Nat→Option Ph
  |[],_=>none
  |(j,v)::l,i=>bif Nat.beq i j then some v else lk l i
structure Ag(n:Nat)(ds:List Deferred)(l:Env)(a:Act)(w:World):Prop where
  defers:a.defers=ds
  size:a.tmps.size=n
  val:∀i ph,lk l i=some ph→ph.holds (a.tmps.getD i undef) w
inductive Val(l:Env):Operand→Value→Prop where
  |const (v:Value):Val l (.const v) v
  |global (g:Nat):Val l (.global g) (.pointer (some ⟨g,0,none⟩))
  |func (f:FuncId):Val l (.func f) (.func (.func f) #[] #[])
  |tmp {t:Nat} {v:Value} (h:lk l t=some (.eq v)):Val l (.tmp t) v
  |cond {t:Nat} {b:Bool} {v:Value} (h:lk l t=some (.cond b v)) (hb:b=true):Val l (.tmp t) v
theorem Ag.ev{n:Nat}{ds:List Deferred}{l:Env}{a:Act}{w:World}(h:Ag n ds l a w){x:Operand}{v:Value}(hx:Val l x v):a.eval x=v:=by
  cases hx with
  |const=>rfl
  |global=>rfl
  |func=>rfl
  |tmp hl=>exact h.val _ _ hl
  |cond hl hb=>have:=h.val _ _ hl;subst hb;exact this
theorem Be{l:Env}{i j:Nat}{ph:Ph}(h:i≠j):lk ((j,ph)::l) i=lk l i:=by
  have:Nat.beq i j=false:=by
    cases hb:Nat.beq i j with
    |false=>rfl
    |true=>exact absurd (ci hb) h
  simp[lk,this]
theorem A9{l:Env}{i:Nat}{ph:Ph}:lk ((i,ph)::l) i=some ph:=by simp[lk]
theorem Fj{a:Act}{d:Nat}{v:Value}(h:d<a.tmps.size):(a.put (some d) v).tmps.getD d undef=v:=by
  simp[Act.put,h]
theorem Dp{a:Act}{d i:Nat}{v:Value}(h:i≠d):(a.put (some d) v).tmps.getD i undef=a.tmps.getD i undef:=by
  simp only[Act.put,bm,ki (Ne.symm h)]
theorem Ag.put{n:Nat}{ds:List Deferred}{l:Env}{a:Act}{w:World}(h:Ag n ds l a w){d:Nat}(hd:Nat.ble (d+1) n=true){ph:Ph}{v:Value}(hv:ph.holds v w):Ag n ds ((d,ph)::l) (a.put (some d) v) w:=by
  have hd':d<n:=a_ hd
  refine⟨h.defers,by simp[Act.put,h.size],fun i p hi=>?_⟩
  by_cases e:i=d
  · subst e
    rw[A9]at hi
    cases hi
    rw[Fj (by rw[h.size];exact hd')]
    exact hv
  · rw[Be e]at hi
    rw[Dp e]
    exact h.val i p hi
def Cq:Env→Bool
  |[]=>true
  |(_,.pred _)::_=>false
  |_::l=>Cq l
theorem Gb{l:Env}(h:Cq l=true){i:Nat}{ph:Ph}(hi:lk l i=some ph){x:Value}{w w':World}(hx:ph.holds x w):ph.holds x w':=by
  induction l with
  |nil=>cases hi
  |cons p l ih=>
    obtain⟨j,q⟩:=p
    have hl:Cq l=true:=by cases q<;>simp_all[Cq]
    by_cases e:i=j
    · subst e
      rw[A9]at hi
      cases hi
      cases ph with
      |eq v=>exact hx
      |cond b v=>exact hx
      |pred p=>simp[Cq]at h
    · rw[Be e]at hi
      exact ih hl hi
theorem Ag.world{n:Nat}{ds:List Deferred}{l:Env}{a:Act}{w:World}(h:Ag n ds l a w)(hl:Cq l=true)(w':World):Ag n ds l a w':=
  ⟨h.defers,h.size,fun i ph hi=>Gb hl hi (h.val i ph hi)⟩
def Sub(l:Env):Env→Prop
  |[]=>True
  |(i,ph)::r=>lk l i=some ph∧Sub l r
theorem Sub.lk{l:Env}:∀{r:Env},Sub l r→∀{i:Nat}{ph:Ph},lk r i=some ph→Wx.lk l i=some ph
  |[],_,_,_,h=>by cases h
  |(j,q)::r,⟨h1,h2⟩,i,ph,h=>by
    by_cases e:i=j
    · subst e;rw[A9]at h;cases h;exact h1
    · rw[Be e]at h;exact Sub.lk h2 h
theorem Ag.sub{n:Nat}{ds:List Deferred}{l r:Env}{a:Act}{w:World}(h:Ag n ds l a w)(hs:Sub l r):Ag n ds r a w:=
  ⟨h.defers,h.size,fun i ph hi=>h.val i ph (hs.lk hi)⟩
abbrev FR(R:Option Nat):Fence:={ Fence.wide with round:=R }
section
variable (R:Option Nat)(m:Nat)(P:Program)(n:Nat)(ds:List Deferred)
def CW(c:Code)(Q:Exit→Act→World→Prop)(l:Env)(w:World):Prop:=∀a,Ag n ds l a w→c.wpIn (FR R) m P Q a w
def LW(ops:Array Oper)(Q:Exit→Act→World→Prop)(rest:List Oper)(l:Env)(w:World):Prop:=∀a,Ag n ds l a w→wpListIn (FR R) m P ops Q rest a w
def KW(K:Act→World→Prop)(l:Env)(w:World):Prop:=∀a,Ag n ds l a w→K a w
end
section
variable {R:Option Nat}{m:Nat}{P:Program}{n:Nat}{ds:List Deferred}{Q:Exit→Act→World→Prop}{l:Env}{w:World}
theorem Ai{x y:Code}(h:CW R m P n ds x (Exit.then (y.wpIn (FR R) m P Q) Q) l w):CW R m P n ds (.seq x y) Q l w:=fun a ha=>wpIn_seq (h a ha)
theorem Ak{id:Nat}{c:Code}(h:CW R m P n ds c (Exit.inBlock id Q) l w):CW R m P n ds (.block id c) Q l w:=fun a ha=>wpIn_block (h a ha)
theorem Aj(h:KW n ds (Q .normal) l w):CW R m P n ds .skip Q l w:=fun a ha=>wpIn_skip (h a ha)
theorem CW.label{k:Nat}(h:KW n ds (Q .normal) l w):CW R m P n ds (.label k) Q l w:=fun a ha=>wpIn_label (h a ha)
theorem Am(h:KW n ds (Q .ret) l w):CW R m P n ds .ret Q l w:=fun a ha=>wpIn_ret (h a ha)
theorem A8{id:Nat}(h:KW n ds (Q (.exit id)) l w):CW R m P n ds (.exit id) Q l w:=fun a ha=>wpIn_exit (h a ha)
theorem CW.cond{c:Operand}{x y:Code}{t:Bool}(hc:Val l c (.bool t))(ht:t=true→CW R m P n ds x Q l w)(hf:t=false→CW R m P n ds y Q l w):
    CW R m P n ds (.cond c x y) Q l w:=fun a ha=>wpIn_cond_split (ha.ev hc) (fun h=>ht h a ha) (fun h=>hf h a ha)
theorem Wv{c:Operand}{x y:Code}(hc:Val l c (.bool true))(h:CW R m P n ds x Q l w):CW R m P n ds (.cond c x y) Q l w:=fun a ha=>wpIn_cond_true (ha.ev hc) (h a ha)
theorem Uk{c:Operand}{x y:Code}(hc:Val l c (.bool false))(h:CW R m P n ds y Q l w):CW R m P n ds (.cond c x y) Q l w:=fun a ha=>wpIn_cond_false (ha.ev hc) (h a ha)
theorem Aa{id:Nat}{ops:List Oper}(h:LW R m P n ds ops.toArray Q ops l w):CW R m P n ds (.region id ops.toArray false) Q l w:=fun a ha=>wpIn_region_lit (h a ha)
theorem CW.mono{c:Code}{Q':Exit→Act→World→Prop}(h:CW R m P n ds c Q' l w)(hq:∀e a w,Q' e a w→Q e a w):CW R m P n ds c Q l w:=fun a ha=>wpIn_mono (h a ha) hq
theorem LW.nil{ops:Array Oper}(h:KW n ds (Q .normal) l w):LW R m P n ds ops Q [] l w:=fun a ha=>wpListIn_nil (h a ha)
theorem E1{x y:Code}(M:Act→World→Prop)(h:CW R m P n ds x (Exit.then M Q) l w)(k:∀a w,M a w→y.wpIn (FR R) m P Q a w):CW R m P n ds (.seq x y) Q l w:=
  Ai (h.mono fun e a w q=>by cases e<;>first|exact k _ _ q|exact q)
theorem CW.loop{σ:Type}{c:Code}(I:σ→World→Prop)(Ig:σ→Env)(μ:σ→Nat)(s0:σ)(h0:I s0 w)(hl:Sub l (Ig s0))
    (round:∀s w,I s w→CW R m P n ds c (Exit.then (fun a' w'=>∃s',I s' w'∧Ag n ds (Ig s') a' w'∧μ s'<μ s) Q) (Ig s) w):CW R m P n ds (.loop c) Q l w:=by
  intro a ha
  refine wpIn_mono (Q:=fun e a w=>Q e a w) ?_ (fun _ _ _ h=>h)
  intro b k cs hro hb hr
  have key:∀j s a w,μ s=j→I s w→Ag n ds (Ig s) a w→
      ∃e a' w',Q e a' w'∧ArrivesIn (Machine.fenced P (FR R)) P (lone (b.atR a (.code c::.inLoop c::k)) cs w) b k cs e a' w':=by
    intro j
    induction j using Nat.strongRecOn with
    |_ j ih=>
      intro s a w hn hI hA
      obtain⟨e,a₁,w₁,hq,harr⟩:=round s w hI a hA b (.inLoop c::k) cs hro hb hr
      cases e with
      |normal=>
        obtain⟨s',hI',hA',hlt⟩:=hq
        obtain⟨e₂,a₂,w₂,hq₂,harr₂⟩:=ih (μ s') (hn▸hlt) s' a₁ w₁ rfl hI' hA'
        exact⟨e₂,a₂,w₂,hq₂,.of_steps (StepsIn.trans harr (.one (fenced_calm hb hr rfl) stepR_inLoop)) harr₂⟩
      |exit id=>exact⟨_,a₁,w₁,hq,.pass (x:=.inLoop c) rfl (fun _ _=>.inl (by simp)) harr⟩
      |goto l=>exact⟨_,a₁,w₁,hq,.pass (x:=.inLoop c) rfl (fun _ _=>.inl (by simp)) harr⟩
      |ret=>exact⟨_,a₁,w₁,hq,.pass (x:=.inLoop c) rfl (fun _ _=>.inl (by simp)) harr⟩
      |panic ch=>exact⟨_,a₁,w₁,hq,.pass (x:=.inLoop c) rfl (fun _ _=>.inl (by simp)) harr⟩
      |outgrown=>exact⟨_,a₁,w₁,hq,.pass (x:=.inLoop c) rfl (fun _ _=>.inl (by simp)) harr⟩
  obtain⟨e,a',w',hq,harr⟩:=key _ s0 a w rfl h0 (ha.sub hl)
  exact⟨e,a',w',hq,.of_steps (.one (fenced_calm hb hr rfl) stepR_loop) harr⟩
end
section
variable (P:Program)(n:Nat)(ds:List Deferred)(l:Env)(w:World)
def PEv(o:Oper)(v:Value):Prop:=∀a w',Ag n ds l a w'→Up w w'→(execOp a.eval o).run P w'=.ok (.value v) w'
def REv(o:Oper)(Post:Value→World→Prop):Prop:=∀a,Ag n ds l a w→∃v w',(execOp a.eval o).run P w=.ok (.value v) w'∧Post v w'
def SEv(o:Oper)(Post:World→Prop):Prop:=∀a,Ag n ds l a w→∃w',(execOp a.eval o).run P w=.ok .skip w'∧Post w'
end
def Ret(P:Program)(f:FuncId)(args:Array Value)(w:World)(Post:Value→World→Prop):Prop:=
  Calls P f args w fun e w'=>∃v,e=.returned v∧Post v w'
theorem Ret.mono{P:Program}{f:FuncId}{args:Array Value}{w:World}{Post Post':Value→World→Prop}(h:Ret P f args w Post)(k:∀v w',Post v w'→Post' v w'):Ret P f args w Post':=
  Calls.mono h fun _ _⟨v,he,hp⟩=>⟨v,he,k _ _ hp⟩
section
variable {R:Option Nat}{m:Nat}{P:Program}{n:Nat}{ds:List Deferred}{Q:Exit→Act→World→Prop}{l:Env}{w:World}{ops:Array Oper}{rest:List Oper}{o:Oper}
theorem Ym{r:Option Nat}{ρ:Operand→Value}{o:Oper}{v:Value}{w w':World}(h:(execOp ρ o).run P w=.ok (.value v) w'):(o.semAt r ρ).run P w=.ok (.value v) w':=by
  by_cases hd:∃c,o.op=.defer c
  · obtain⟨c,hc⟩:=hd
    simp only[execOp,hc,Sem.run_bind]at h
    cases hr:(resolve ρ c o.type).run P w with
    |ok d w1=>simp[hr,Result.andThen]at h
    |halt x w1=>simp[hr,Result.andThen]at h
  · rw[Oper.semAt_eq _ _ _ (fun c hc=>hd ⟨c,hc⟩)];exact h
theorem cI{r:Option Nat}{ρ:Operand→Value}{o:Oper}{w w':World}(h:(execOp ρ o).run P w=.ok .skip w'):(o.semAt r ρ).run P w=.ok .skip w':=by
  by_cases hd:∃c,o.op=.defer c
  · obtain⟨c,hc⟩:=hd
    simp only[execOp,hc,Sem.run_bind]at h
    cases hr:(resolve ρ c o.type).run P w with
    |ok d w1=>simp[hr,Result.andThen]at h
    |halt x w1=>simp[hr,Result.andThen]at h
  · rw[Oper.semAt_eq _ _ _ (fun c hc=>hd ⟨c,hc⟩)];exact h
theorem Yn{r:Option Nat}{ρ:Operand→Value}{o:Oper}{f:FuncId}{args:Array Value}{w w':World}(h:(execOp ρ o).run P w=.ok (.enter f args) w'):(o.semAt r ρ).run P w=.ok (.enter f args) w':=by
  by_cases hd:∃c,o.op=.defer c
  · obtain⟨c,hc⟩:=hd
    simp only[execOp,hc,Sem.run_bind]at h
    cases hr:(resolve ρ c o.type).run P w with
    |ok d w1=>simp[hr,Result.andThen]at h
    |halt x w1=>simp[hr,Result.andThen]at h
  · rw[Oper.semAt_eq _ _ _ (fun c hc=>hd ⟨c,hc⟩)];exact h
theorem G5{a:Act}{K:Act→World→Prop}{v:Value}{w':World}(h:(execOp a.eval o).run P w=.ok (.value v) w')(hk:K (a.put o.dst v) w'):o.wpIn (FR R) m P a w K Q:=
  ⟨fun _ _=>trivial,by rw[show(FR R).round=R from rfl,Ym h];exact hk⟩
theorem Qs{a:Act}{K:Act→World→Prop}{w':World}(h:(execOp a.eval o).run P w=.ok .skip w')(hk:K (a.put o.dst undef) w'):o.wpIn (FR R) m P a w K Q:=
  ⟨fun _ _=>trivial,by rw[show(FR R).round=R from rfl,cI h];exact hk⟩
theorem Np{a:Act}{K:Act→World→Prop}{f:FuncId}{args:Array Value}{w':World}(h:(execOp a.eval o).run P w=.ok (.enter f args) w'){Post:Value→World→Prop}
    (hc:Ret P f args w' Post)(hk:∀v w'',Post v w''→K (a.put o.dst v) w''):o.wpIn (FR R) m P a w K Q:=by
  refine⟨fun _ _=>trivial,?_⟩
  rw[show(FR R).round=R from rfl,Yn h]
  refine⟨fun hd=>(by cases hd),?_⟩
  have h1:CallsIn Fence.wide (m-1) P f args w' _:=callsIn_wide.2 hc
  refine CallsIn.mono (show CallsIn (FR R) (m-1) P f args w' _ from h1) ?_
  rintro e w'' ⟨v,rfl,hp⟩
  exact hk v w'' hp
theorem LW.p{v:Value}{d:Nat}(h:PEv P n ds l w o v)(hg:o.guard=none)(hd:o.dst=some d)(hn:Nat.ble (d+1) n=true)(k:LW R m P n ds ops Q rest ((d,.eq v)::l) w):LW R m P n ds ops Q (o::rest) l w:=fun a ha=>
  wpListIn_plain hg fun K hK=>G5 (h a w ha (Up.refl w)) (hK _ _ (k _ (by rw[hd];exact ha.put hn rfl)))
theorem LW.r{Post:Value→World→Prop}{d:Nat}(h:REv P n ds l w o Post)(hg:o.guard=none)(hd:o.dst=some d)(hn:Nat.ble (d+1) n=true)(hl:Cq l=true)
    (k:∀v w',Post v w'→LW R m P n ds ops Q rest ((d,.eq v)::l) w'):LW R m P n ds ops Q (o::rest) l w:=fun a ha=>
  let⟨v,w',hr,hp⟩:=h a ha
  wpListIn_plain hg fun K hK=>G5 hr (hK _ _ (k v w' hp _ (by rw[hd];exact(ha.world hl w').put hn rfl)))
theorem LW.s{Post:World→Prop}(h:SEv P n ds l w o Post)(hg:o.guard=none)(hd:o.dst=none)(hl:Cq l=true)
    (k:∀w',Post w'→LW R m P n ds ops Q rest l w'):LW R m P n ds ops Q (o::rest) l w:=fun a ha=>
  let⟨w',hr,hp⟩:=h a ha
  wpListIn_plain hg fun K hK=>Qs hr (hK _ _ (k w' hp _ (by rw[hd];exact ha.world hl w')))
theorem LW.c{f:FuncId}{args:Array Value}{Post:Value→World→Prop}{d:Nat}(he:∀a,Ag n ds l a w→(execOp a.eval o).run P w=.ok (.enter f args) w)(hg:o.guard=none)(hd:o.dst=some d)(hn:Nat.ble (d+1) n=true)(hl:Cq l=true)
    (hc:Ret P f args w Post)(k:∀v w',Post v w'→LW R m P n ds ops Q rest ((d,.eq v)::l) w'):LW R m P n ds ops Q (o::rest) l w:=fun a ha=>
  wpListIn_plain hg fun K hK=>Np (he a ha) hc fun v w' hp=>hK _ _ (k v w' hp _ (by rw[hd];exact(ha.world hl w').put hn rfl))
theorem D6{ops:Array Oper}{a:Act}{j dj:Nat}{oj:Oper}{want b:Bool}(hg:o.guard=some (j,want))(hj:ops[j]?=some oj)(hdj:oj.dst=some dj)(hdn:dj<a.tmps.size)(hv:a.tmps.getD dj undef=.bool b):Region.wanted o (yielded ops a.tmps)=(b==want):=by
  have h1:a.tmps[dj]?=some (.bool b):=by
    rw[bm]at hv
    have h2:a.tmps[dj]?=some a.tmps[dj]:=by simp[hdn]
    rw[h2]at hv⊢
    exact bi some hv
  simp only[Region.wanted,hg,yielded,hj,Option.bind_some,hdj,h1]
  cases b<;>cases want<;>rfl
theorem He{ops:Array Oper}{a:Act}{j dj:Nat}{oj:Oper}{want:Bool}{v:Value}(hg:o.guard=some (j,want))(hj:ops[j]?=some oj)(hdj:oj.dst=some dj)(hv:a.tmps.getD dj undef=v)(hb:∀b,v≠.bool b):Region.wanted o (yielded ops a.tmps)=false:=by
  have h1:∀b,a.tmps[dj]?≠some (.bool b):=by
    intro b h
    rw[bm,h]at hv
    exact hb b hv.symm
  simp only[Region.wanted,hg,yielded,hj,Option.bind_some,hdj]
  cases h:a.tmps[dj]? with
  |none=>rfl
  |some u=>cases u<;>rfl
theorem HX{j dj d:Nat}{oj:Oper}{want b:Bool}{v:Value}(hg:o.guard=some (j,want))(hj:ops[j]?=some oj)(hdj:oj.dst=some dj)(hdn:Nat.ble (dj+1) n=true)(hb:lk l dj=some (.eq (.bool b)))(hd:o.dst=some d)(hn:Nat.ble (d+1) n=true)
    (h:(b==want)=true→PEv P n ds l w o v)(k:LW R m P n ds ops Q rest ((d,.cond (b==want) v)::l) w):LW R m P n ds ops Q (o::rest) l w:=fun a ha=>
  wpListIn_step fun K hK=>by
    have hw:=D6 (o:=o) (ops:=ops) (a:=a) hg hj hdj (by rw[ha.size];exact a_ hdn) (ha.val _ _ hb)
    cases hc:(b==want)with
    |true=>
      rw[bh (by rw[hw,hc])]
      exact G5 (h hc a w ha (Up.refl w)) (hK _ _ (k _ (by rw[hd,hc];exact ha.put hn rfl)))
    |false=>
      rw[aq (by rw[hw,hc];exact ca)]
      exact⟨fun _ _=>trivial,hK _ _ (k _ (by rw[hd,hc];exact ha.put hn rfl))⟩
theorem Qt{j dj d:Nat}{oj:Oper}{want b B:Bool}{v:Value}(hg:o.guard=some (j,want))(hj:ops[j]?=some oj)(hdj:oj.dst=some dj)(hdn:Nat.ble (dj+1) n=true)(hb:lk l dj=some (.cond B (.bool b)))(hd:o.dst=some d)(hn:Nat.ble (d+1) n=true)
    (h:(B&&(b==want))=true→PEv P n ds l w o v)(k:LW R m P n ds ops Q rest ((d,.cond (B&&(b==want)) v)::l) w):LW R m P n ds ops Q (o::rest) l w:=fun a ha=>
  wpListIn_step fun K hK=>by
    have hv:=ha.val _ _ hb
    cases hB:B with
    |false=>
      subst hB
      have hw:=He (o:=o) (ops:=ops) (a:=a) hg hj hdj hv (fun b e=>by cases e)
      rw[aq (by rw[hw];exact ca)]
      exact⟨fun _ _=>trivial,hK _ _ (k _ (by rw[hd];exact ha.put hn rfl))⟩
    |true=>
      subst hB
      have hw:=D6 (o:=o) (ops:=ops) (a:=a) hg hj hdj (by rw[ha.size];exact a_ hdn) hv
      cases hc:(b==want)with
      |true=>
        rw[bh (by rw[hw,hc])]
        exact G5 (h (by rw[hc];rfl) a w ha (Up.refl w)) (hK _ _ (k _ (by rw[hd,hc];exact ha.put hn rfl)))
      |false=>
        rw[aq (by rw[hw,hc];exact ca)]
        exact⟨fun _ _=>trivial,hK _ _ (k _ (by rw[hd,hc];exact ha.put hn rfl))⟩
theorem LW.yes{j dj:Nat}{oj:Oper}{want:Bool}{o':Oper}(hg:o.guard=some (j,want))(ho':o'={ o with guard:=none })(hj:ops[j]?=some oj)(hdj:oj.dst=some dj)(hdn:Nat.ble (dj+1) n=true)(hb:lk l dj=some (.eq (.bool want)))
    (k:LW R m P n ds ops Q (o'::rest) l w):LW R m P n ds ops Q (o::rest) l w:=fun a ha=>by
  have hw:=D6 (o:=o) (ops:=ops) (a:=a) hg hj hdj (by rw[ha.size];exact a_ hdn) (ha.val _ _ hb)
  have hk:=k a ha
  have e:(want==want)=true:=by cases want<;>rfl
  subst ho'
  unfold wpListIn at hk⊢
  rw[bh (by rw[hw,e])]
  rw[bh (by rfl)]at hk
  exact hk
theorem LW.no{j dj d:Nat}{oj:Oper}{want b:Bool}(hg:o.guard=some (j,want))(hj:ops[j]?=some oj)(hdj:oj.dst=some dj)(hdn:Nat.ble (dj+1) n=true)(hb:lk l dj=some (.eq (.bool b)))(hne:(b==want)=false)(hd:o.dst=some d)(hn:Nat.ble (d+1) n=true)
    (k:LW R m P n ds ops Q rest ((d,.eq undef)::l) w):LW R m P n ds ops Q (o::rest) l w:=fun a ha=>
  wpListIn_step fun K hK=>by
    have hw:=D6 (o:=o) (ops:=ops) (a:=a) hg hj hdj (by rw[ha.size];exact a_ hdn) (ha.val _ _ hb)
    rw[aq (by rw[hw,hne];exact ca)]
    exact⟨fun _ _=>trivial,hK _ _ (k _ (by rw[hd];exact ha.put hn rfl))⟩
theorem Jc{j dj d:Nat}{oj:Oper}{want:Bool}(hg:o.guard=some (j,want))(hj:ops[j]?=some oj)(hdj:oj.dst=some dj)(hb:lk l dj=some (.eq undef))(hd:o.dst=some d)(hn:Nat.ble (d+1) n=true)
    (k:LW R m P n ds ops Q rest ((d,.eq undef)::l) w):LW R m P n ds ops Q (o::rest) l w:=fun a ha=>
  wpListIn_step fun K hK=>by
    have hw:=He (o:=o) (ops:=ops) (a:=a) hg hj hdj (ha.val _ _ hb) (fun b e=>by cases e)
    rw[aq (by rw[hw];exact ca)]
    exact⟨fun _ _=>trivial,hK _ _ (k _ (by rw[hd];exact ha.put hn rfl))⟩
theorem gK{j dj d:Nat}{oj:Oper}{want b:Bool}{v:Value}{f:FuncId}{args:Array Value}(hg:o.guard=some (j,want))(hj:ops[j]?=some oj)(hdj:oj.dst=some dj)(hdn:Nat.ble (dj+1) n=true)(hb:lk l dj=some (.eq (.bool b)))(hd:o.dst=some d)(hn:Nat.ble (d+1) n=true)(hl:Cq l=true)
    (he:(b==want)=true→∀a,Ag n ds l a w→(execOp a.eval o).run P w=.ok (.enter f args) w)(hc:(b==want)=true→Ret P f args w fun u w'=>u=v∧Up w w')(k:∀w',Up w w'→LW R m P n ds ops Q rest ((d,.cond (b==want) v)::l) w'):LW R m P n ds ops Q (o::rest) l w:=fun a ha=>
  wpListIn_step fun K hK=>by
    have hw:=D6 (o:=o) (ops:=ops) (a:=a) hg hj hdj (by rw[ha.size];exact a_ hdn) (ha.val _ _ hb)
    cases hcc:(b==want)with
    |true=>
      rw[bh (by rw[hw,hcc])]
      exact Np (he hcc a ha) (hc hcc) fun u w' hp=>hK _ _ (k w' hp.2 _ (by rw[hd,hcc];exact(ha.world hl w').put hn hp.1))
    |false=>
      rw[aq (by rw[hw,hcc];exact ca)]
      exact⟨fun _ _=>trivial,hK _ _ (k w (Up.refl w) _ (by rw[hd,hcc];exact ha.put hn rfl))⟩
end
end Go.Wx
