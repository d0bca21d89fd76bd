/-
  PROVED: for every list of six numbers, every two lists of choices and every number, cleanroomtop.TopRelabelled returns true, and its arguments read as they did. Conditions: none beyond the row's own (its seven listed variables start as the program's text lays them, which the card ties).
-/
import Derived.Test.YtnpgbbaniknpkaaGreatDoorRows
import Derived.Test.YtnpgbbaniknpkaaGreatDoorCards
import Derived.Test.YtnpgbbaniknpkaaGreatDoorTie
import Derived.Test.YtnpgbbaniknpkaaGreatDoorKR123
import Derived.WalkKit
import Derived.SevenTiedAt
import Derived.MakeChecks
import Derived.LaidLaws
import Derived.Handed
import Derived.Stop.Joined
import Derived.Lay
import Derived.LaidMore
import Derived.Shelf.Vars
namespace Go.Proofs.YtnpgbbaniknpkaaGreatDoor.topRelabelled
open Go.Wx Go.ChangeShapes Go.WideShapes Go.ChangeAt Go.RowKit

def lvars:List (String×DataW Unit):=[("math/bits.deBruijn32tab",Rows.laid_math_bits_deBruijn32tab),("math/bits.deBruijn64tab",Rows.laid_math_bits_deBruijn64tab),("internal/strconv.uint64pow10",Rows.laid_internal_strconv_uint64pow10),("unicode/utf8.acceptRanges",Rows.laid_unicode_utf8_acceptRanges),("strconv.ErrRange",Rows.laid_strconv_ErrRange),("strconv.ErrSyntax",Rows.laid_strconv_ErrSyntax),("unicode/utf8.first",Rows.laid_unicode_utf8_first)]
/-- the plain wrap, what is listed and the world's shape kept -/
theorem handed_shaped{H:Type}{enc:TypeId×Value→H}{a:Assume}{C:Checked}{os:Os}{f:FuncId}{fn:Func}{s:ChangeSpec}{conds:List PathCond}{apart fresh handsOn again:Bool}{X:World→Array Value→Prop}
    (own:ownKnob C.prog.godebug=none)(started:os.Started)(noInit:C.prog.inits.idxOf? f=none)(hfn:C.prog.funcs[f]?=some fn)
    (witness:∃(w:World)(tape:Tape)(i:Input),w.os=os∧(w.forCall tape i).Shaped C.prog∧i.vars=[]∧Input.okWide C.prog (w.forCall tape i) .any w.heap.size f i∧
      ((s.pre enc C.prog fn conds apart (w.forCall tape i).memory i.args∧X (w.forCall tape i).memory i.args)∧sizedMet enc C.prog fn (OpenSpec.ofChange s) apart (w.forCall tape i).memory i.args)∧a.holds C.prog (lone (Frame.enter C.prog f i.args .normal) [] (w.forCall tape i)))
    (contract:∀(W:World)(base:Nat)(args:Array Value)(ds gs:List (DataW H))(before:List MemPlace),
      (∀(j:Nat)t v,fn.params[j]?=some t→args[j]?=some v→Value.okWide C.prog W .any base t v)→
      DataW.Whole enc C.prog fn.params.toList s.vars apart W args.toList ds gs before→W.ShapedOpen C.prog→
      Calls C.prog f args W fun e W'=>∃v,e=.returned v∧s.post enc C.prog fn apart fresh handsOn again W args v W'):
    ReturnsInHanded a C os f .any (fun w args=>(s.pre enc C.prog fn conds apart w args∧X w args)∧sizedMet enc C.prog fn (OpenSpec.ofChange s) apart w args) (s.post enc C.prog fn apart fresh handsOn again):=by
  refine returnsInHanded_of_calls own started noInit witness ?_
  intro w tape i _ hsh _ hok hpre _
  obtain⟨_,_,_,fn',hfn',_,_,_,_,hval⟩:=hok
  cases Option.some.inj (hfn'.symm.trans hfn)
  obtain⟨⟨⟨ds,gs,before,hw,_⟩,_⟩,_⟩:=hpre
  refine(contract _ w.heap.size i.args ds gs before hval (DataW.Whole.of_heap (w':=w.forCall tape i) (by rfl) hw) hsh).mono fun e W'⟨v,he,hp⟩=>?_
  subst he
  exact ChangeSpec.post_blind hp
theorem own:ownKnob Tryz.prog.godebug=none:=by kernel_rfl
theorem lo:laidOutB Tryz.prog=true:=by kernel_rfl

set_option maxRecDepth 100000 in
theorem lifted(os:Os)(started:os.Started)(H:Type)(enc:TypeId×Value→H):
    ReturnsInHanded {} Tryz.checked os 3 .any (fun w args=>(Rows.topRelabelledSpec.pre enc Tryz.prog Tryz.f3 [] false w args∧laidMetH Tryz.prog lvars w)∧sizedMet enc Tryz.prog Tryz.f3 (OpenSpec.ofChange Rows.topRelabelledSpec) false w args) (Rows.topRelabelledSpec.post enc Tryz.prog Tryz.f3 false true false false):=by
  refine handed_shaped (C:=Tryz.checked) (X:=fun w _=>laidMetH Tryz.prog lvars w) own started (by kernel_rfl) Tryz.func3
    (ChangeSpec.witness_shaped (enc:=enc) (C:=Tryz.checked) (os:=os) (X:=fun w _=>laidMetH Tryz.prog lvars w) false (World.laidAll Tryz.prog os lvars) #[.slice none 0 0,.slice none 0 0,.slice none 0 0,.int .i64 0] 8 (World.laidAll_os _ _ _)
      (World.shaped_of_ZipB (by kernel_rfl) (by kernel_rfl)) (by kernel_rfl) (by kernel_rfl) (by kernel_rfl)
      (by rw[Go.MakeChecks.laidMetH_plain _ _ _ (by kernel_rfl)];exact laidMet_laidAll _ (by kernel_rfl) (by kernel_rfl))) ?_
  intro W base args ds gs before hval0 hW hsh
  have hG:Go.Wx.GM W:=cell_of_shapedOpen_int (P:=Tryz.prog) (g:=0) (t:=3) (zero:=#[.int .i64 0]) hsh (of_decide_eq_true (by kernel_rfl)) (by kernel_rfl) rfl (by kernel_rfl) (by kernel_rfl) Tryz.underlying3
  have hval:∀(j:Nat)t v,Tryz.f3.params[j]?=some t→args[j]?=some v→Value.okWide Tryz.prog W .any base t v:=hval0
  have hW':=hW
  obtain⟨p,q,hA0,hV,rfl,hfz,hnd⟩:=hW
  have hA:DataW.TrodAll enc Tryz.prog W 0 (fun _=>true) true Tryz.f3.params.toList args.toList ds p:=hA0
  rw[Tryz.params3]at hA hval
  obtain⟨v0,vs0,d0,ds0,p0,q0,hargs,rfl,rfl,h0,r0⟩:=trodAll_cons hA
  obtain⟨v1,vs1,d1,ds1,p1,q1,rfl,rfl,rfl,h1,r1⟩:=trodAll_cons r0
  obtain⟨v2,vs2,d2,ds2,p2,q2,rfl,rfl,rfl,h2,r2⟩:=trodAll_cons r1
  obtain⟨v3,vs3,d3,ds3,p3,q3,rfl,rfl,rfl,h3,r3⟩:=trodAll_cons r2
  obtain⟨rfl,rfl,rfl⟩:=trodAll_nil r3
  obtain rfl:args=#[v0,v1,v2,v3]:=by cases args;simp_all
  obtain⟨rfl,rfl⟩:=trodVars_none hV
  have hlt:=fun x hx=>DataW.Whole.lt hW' (p:=x) hx
  obtain⟨ad0,cp0,xs,rfl,hE0,w0,l0,c0⟩:=W8 (k:=6) I6.cells cO Tryz.underlying22 (by kernel_rfl) (hval 0 22 v0 rfl rfl) h0 kD
  obtain⟨ad1,cp1,one,rfl,hE1,w1,l1,c1⟩:=W8 (k:=1) A3 Yq Tryz.underlying23 (by kernel_rfl) (hval 1 23 v1 rfl rfl) h1 (fun n cs x hl h=>by
    match cs,hl with
    |[c],_=>
      obtain⟨m,e,_,q⟩:=DataW.trod_int Tryz.underlying3 h
      cases e
      exact⟨m,rfl,K6 q⟩)
  obtain⟨ad2,cp2,two,rfl,hE2,w2,l2,c2⟩:=W8 (k:=1) A3 Yq Tryz.underlying23 (by kernel_rfl) (hval 2 23 v2 rfl rfl) h2 (fun n cs x hl h=>by
    match cs,hl with
    |[c],_=>
      obtain⟨m,e,_,q⟩:=DataW.trod_int Tryz.underlying3 h
      cases e
      exact⟨m,rfl,K6 q⟩)
  obtain⟨tJ,rfl,_,_,w3⟩:=open_int Tryz.underlying3 (hval 3 3 v3 rfl rfl) h3
  refine Calls.mono (YtnpgbbaniknpkaaGreatDoor.nW _ _ xs w0 _ _ one w1 l1 _ _ two w2 l2 tJ (K6 w3) W hE0 hE1 hE2 hG) ?_
  rintro e W' ⟨v,rfl,rfl,hu⟩
  exact⟨_,rfl,cM (pa:=(p0++(p1++(p2++(p3++[]))))) (pv:=[]) hW' (fun _ _ _=>trodAll_cons_mk (shut_bool Tryz.underlying4 _) trodAll_mk0) (fun sp hs=>(trodAll_cons_mk (Mt lo (by kernel_rfl) (of_decide_eq_true (by kernel_rfl)) h0 hu (fun x hx=>hlt x (by simp[hx])) sp (fun x hx=>hs x (by simp[hx]))) (trodAll_cons_mk (Mt lo (by kernel_rfl) (of_decide_eq_true (by kernel_rfl)) h1 hu (fun x hx=>hlt x (by simp[hx])) sp (fun x hx=>hs x (by simp[hx]))) (trodAll_cons_mk (Mt lo (by kernel_rfl) (of_decide_eq_true (by kernel_rfl)) h2 hu (fun x hx=>hlt x (by simp[hx])) sp (fun x hx=>hs x (by simp[hx]))) (trodAll_cons_mk (Mt lo (by kernel_rfl) (of_decide_eq_true (by kernel_rfl)) h3 hu (fun x hx=>hlt x (by simp[hx])) sp (fun x hx=>hs x (by simp[hx]))) trodAll_mk0))))) (fun _ _=>rfl) rfl
    hu (ok_one (by kernel_rfl) rfl (okWide_bool_mk Tryz.underlying4 _))⟩

theorem and2{a b:Bool}(h:a=true)(k:b=true):(a&&b)=true:=by rw[h,k];rfl
set_option maxHeartbeats 4000000 in
theorem closedOk:joinedFacts Tryz.pinned.checked.prog 3 Tryz.f3 Rows.topRelabelledSpec Rows.topRelabelledRow=true:=by
  unfold joinedFacts
  repeat' (with_reducible refine and2 ?_ ?_)
  all_goals as_aux_lemma=>kernel_rfl
theorem rowProved:Rows.TopRelabelledSaid:=
  OpenClaim.holds_of_wide 3 Tryz.f3 rfl rfl rfl rfl rfl rfl rfl ⟨rfl,rfl,rfl,rfl,rfl⟩ rfl rfl rfl rfl rfl (by kernel_rfl) Tryz.func3 closedOk
    (of_decide_eq_true (by kernel_rfl)) (by unfold Func.isWrapper;first|(rw[if_pos (by decide+kernel)];kernel_rfl)|(rw[if_neg (by decide+kernel)];exact⟨rfl,rfl⟩))
    (fun os started H enc _=>lifted os started H enc)
theorem proved:Rows.TopRelabelledCardSaid:=
  Claim7.holds_tied_plain_at .later [] [.data,.data,.data,.data,.sentinel,.sentinel,.pinned] true (true, "683ffb7bd3aab9969a94882e471a52e76db523c3c1c1bf94e6deeb835abb3173") true
    rowProved (fun _ h=>by cases h) (by as_aux_lemma=>kernel_rfl) (fun _ h=>by cases h) topRelabelled_row_tie rfl ⟨rfl,rfl⟩ (by as_aux_lemma=>kernel_rfl) rfl
    (fun f fn hf hfn=>by
      obtain rfl:f=3:=Option.some.inj ((show Tryz.prog.funcNamed "cleanroom/cleanroomtop.TopRelabelled" =some 3 by as_aux_lemma=>kernel_rfl).symm.trans hf)|>.symm
      obtain rfl:fn=Tryz.f3:=(Option.some.inj (Tryz.func3.symm.trans hfn)).symm
      refine⟨by as_aux_lemma=>kernel_rfl,fun j t ht=>?_⟩
      have h:(Tryz.f3.params.all fun t=> !Tryz.prog.wantsStandIn t)=true:=by as_aux_lemma=>kernel_rfl
      have:=Array.all_eq_true_iff_forall_mem.1 h t (Array.mem_of_getElem? ht)
      have h2:Tryz.prog.wantsStandIn t=false:=by simpa using this
      exact h2)
    (by as_aux_lemma=>kernel_rfl)
#print axioms proved
end Go.Proofs.YtnpgbbaniknpkaaGreatDoor.topRelabelled
