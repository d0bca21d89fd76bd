/-
  PROVED: for all lists, four numbers and a further number, cleanroomtop.TopInspected returns true, and its arguments read as they did. Conditions: none beyond the row's own (its two listed variables start as the program's text lays them, which the card ties).
-/
import Derived.Test.YtdilcdgjklimoaaGreatDoorRows
import Derived.Test.YtdilcdgjklimoaaGreatDoorCards
import Derived.Test.YtdilcdgjklimoaaGreatDoorTie
import Derived.Test.YtdilcdgjklimoaaGreatDoorKR124
import Derived.WalkKit
import Derived.SevenTiedAt
namespace Go.Proofs.YtdilcdgjklimoaaGreatDoor.topInspected
open Go.Wx Go.ChangeShapes Go.WideShapes Go.ChangeAt Go.RowKit

theorem own:ownKnob Tryz.prog.godebug=none:=by kernel_rfl
theorem lo:laidOutB Tryz.prog=true:=by kernel_rfl

set_option maxRecDepth 100000 in
theorem lifted(os:Os)(started:os.Started)(H:Type)(enc:TypeId×Value→H):
    ReturnsInHanded {} Tryz.checked os 3 .any (fun w args=>(Rows.topInspectedSpec.pre enc Tryz.prog Tryz.f3 [] false w args∧laidMetH Tryz.prog aS w)∧sizedMet enc Tryz.prog Tryz.f3 (OpenSpec.ofChange Rows.topInspectedSpec) false w args) (Rows.topInspectedSpec.post enc Tryz.prog Tryz.f3 false true false false):=by
  refine returnsInHanded_of_change_and (C:=Tryz.checked) (X:=fun w _=>laidMetH Tryz.prog aS w) (fun _ _ _ hh h=>h.of_heap hh) own started (by kernel_rfl) Tryz.func3
    (ChangeSpec.witness_at (enc:=enc) (C:=Tryz.checked) (os:=os) (X:=fun w _=>laidMetH Tryz.prog aS w) false (laidWorld os) #[.slice none 0 0,.slice none 0 0,.agg #[.int .i64 0,.int .i64 0,.int .i64 0,.int .i64 0],.int .i64 0] 8 rfl (by kernel_rfl) (by kernel_rfl) (by kernel_rfl) (by kernel_rfl) (by kernel_rfl) (Uk os _)) ?_
  intro W base args ds gs before hval0 hW hL1 hL2 hL3 hL4
  obtain⟨Tg,hG⟩:=wM (W:=W) (by first|exact hL1|exact hL2|exact hL3|exact hL4)
  have hval:∀(j:Nat)t v,Tryz.f3.params[j]?=some t→args[j]?=some v→Value.okWide Tryz.prog W .any base t v:=hval0
  have hW':=hW
  obtain⟨p,q,hA0,hV,rfl,hfz,hnd⟩:=hW
  have hA:DataW.TrodAll enc Tryz.prog W 0 (fun _=>true) true Tryz.f3.params.toList args.toList ds p:=hA0
  rw[Tryz.params3]at hA hval
  obtain⟨v0,vs0,d0,ds0,p0,q0,hargs,rfl,rfl,h0,r0⟩:=trodAll_cons hA
  obtain⟨v1,vs1,d1,ds1,p1,q1,rfl,rfl,rfl,h1,r1⟩:=trodAll_cons r0
  obtain⟨v2,vs2,d2,ds2,p2,q2,rfl,rfl,rfl,h2,r2⟩:=trodAll_cons r1
  obtain⟨v3,vs3,d3,ds3,p3,q3,rfl,rfl,rfl,h3,r3⟩:=trodAll_cons r2
  obtain⟨rfl,rfl,rfl⟩:=trodAll_nil r3
  obtain rfl:args=#[v0,v1,v2,v3]:=by cases args;simp_all
  obtain⟨rfl,rfl⟩:=trodVars_none hV
  have hlt:=fun x hx=>DataW.Whole.lt hW' (p:=x) hx
  obtain⟨ad0,cp0,xs,rfl,hE0,w0,l0,c0⟩:=fE (k:=6) I6.cells FE Tryz.underlying22 (by kernel_rfl) (hval 0 22 v0 rfl rfl) h0 mC
  obtain⟨ad1,cp1,ys,rfl,hE1,w1,l1,c1⟩:=fE (k:=3) I3.cells (fun _=>True) Tryz.underlying23 (by kernel_rfl) (hval 1 23 v1 rfl rfl) h1 mD
  obtain⟨y,rfl,w2⟩:=fD (hval 2 24 v2 rfl rfl) h2
  obtain⟨st,rfl,_,_,w3⟩:=open_int Tryz.underlying3 (hval 3 3 v3 rfl rfl) h3
  refine Calls.mono (YtdilcdgjklimoaaGreatDoor.Pk _ _ xs _ _ ys y st W hE0 hE1 w2 (Ib w3) hG) ?_
  rintro e W' ⟨v,rfl,rfl,hu⟩
  exact⟨_,rfl,aV (pa:=(p0++(p1++(p2++(p3++[]))))) (pv:=[]) hW' (fun _ _ _=>trodAll_cons_mk (shut_bool Tryz.underlying4 _) trodAll_mk0) (fun sp hs=>(trodAll_cons_mk (Lu lo (by kernel_rfl) (of_decide_eq_true (by kernel_rfl)) h0 hu (fun x hx=>hlt x (by simp[hx])) sp (fun x hx=>hs x (by simp[hx]))) (trodAll_cons_mk (Lu lo (by kernel_rfl) (of_decide_eq_true (by kernel_rfl)) h1 hu (fun x hx=>hlt x (by simp[hx])) sp (fun x hx=>hs x (by simp[hx]))) (trodAll_cons_mk (Lu lo (by kernel_rfl) (of_decide_eq_true (by kernel_rfl)) h2 hu (fun x hx=>hlt x (by simp[hx])) sp (fun x hx=>hs x (by simp[hx]))) (trodAll_cons_mk (Lu lo (by kernel_rfl) (of_decide_eq_true (by kernel_rfl)) h3 hu (fun x hx=>hlt x (by simp[hx])) sp (fun x hx=>hs x (by simp[hx]))) trodAll_mk0))))) (fun _ _=>rfl) rfl
    hu (ok_one (by kernel_rfl) rfl (okWide_bool_mk Tryz.underlying4 _))⟩

theorem and2{a b:Bool}(h:a=true)(k:b=true):(a&&b)=true:=by rw[h,k];rfl
set_option maxHeartbeats 4000000 in
theorem closedOk:joinedFacts Tryz.pinned.checked.prog 3 Tryz.f3 Rows.topInspectedSpec Rows.topInspectedRow=true:=by
  unfold joinedFacts
  repeat' (with_reducible refine and2 ?_ ?_)
  all_goals as_aux_lemma=>kernel_rfl
theorem rowProved:Rows.TopInspectedSaid:=
  OpenClaim.holds_of_wide 3 Tryz.f3 rfl rfl rfl rfl rfl rfl rfl ⟨rfl,rfl,rfl,rfl,rfl⟩ rfl rfl rfl rfl rfl (by kernel_rfl) Tryz.func3 closedOk
    (of_decide_eq_true (by kernel_rfl)) (by unfold Func.isWrapper;first|(rw[if_pos (by decide+kernel)];kernel_rfl)|(rw[if_neg (by decide+kernel)];exact⟨rfl,rfl⟩))
    (fun os started H enc _=>lifted os started H enc)
theorem proved:Rows.TopInspectedCardSaid:=
  Claim7.holds_tied_plain_at .later [] [.data,.data] true (true, "ef302897f9a3544a80ccc93dacd901837f0d1844fcb2245ad4767df09db02761") false
    rowProved (fun _ h=>by cases h) (by as_aux_lemma=>kernel_rfl) (fun _ h=>by cases h) topInspected_row_tie rfl ⟨rfl,rfl⟩ (by as_aux_lemma=>kernel_rfl) rfl
    (fun f fn hf hfn=>by
      obtain rfl:f=3:=Option.some.inj ((show Tryz.prog.funcNamed "cleanroom/cleanroomtop.TopInspected" =some 3 by as_aux_lemma=>kernel_rfl).symm.trans hf)|>.symm
      obtain rfl:fn=Tryz.f3:=(Option.some.inj (Tryz.func3.symm.trans hfn)).symm
      refine⟨by as_aux_lemma=>kernel_rfl,fun j t ht=>?_⟩
      have h:(Tryz.f3.params.all fun t=> !Tryz.prog.wantsStandIn t)=true:=by as_aux_lemma=>kernel_rfl
      have:=Array.all_eq_true_iff_forall_mem.1 h t (Array.mem_of_getElem? ht)
      have h2:Tryz.prog.wantsStandIn t=false:=by simpa using this
      exact h2)
    (by as_aux_lemma=>kernel_rfl)
#print axioms proved
end Go.Proofs.YtdilcdgjklimoaaGreatDoor.topInspected
