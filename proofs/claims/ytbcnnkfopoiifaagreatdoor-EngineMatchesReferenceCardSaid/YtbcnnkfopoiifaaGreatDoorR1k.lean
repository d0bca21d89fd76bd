/-
  PROVED: for all lists, sizes, further facts, and every tool, chamber and recipe, cleanroomlaw21.EngineMatchesReference returns true, and its arguments read as they did. Conditions: none beyond the row's own (its two listed variables start as the program's text lays them, which the card ties).
-/
import Derived.Test.YtbcnnkfopoiifaaGreatDoorRows
import Derived.Test.YtbcnnkfopoiifaaGreatDoorCards
import Derived.Test.YtbcnnkfopoiifaaGreatDoorTie
import Derived.Test.YtbcnnkfopoiifaaGreatDoorKR122
import Derived.WalkKit
import Derived.SevenTiedAt
namespace Go.Proofs.YtbcnnkfopoiifaaGreatDoor.engineMatchesReference
open Go.Wx Go.ChangeShapes Go.WideShapes Go.ChangeAt Go.RowKit

theorem own:ownKnob Tryz.prog.godebug=none:=by kernel_rfl
theorem lo:laidOutB Tryz.prog=true:=by kernel_rfl

set_option maxRecDepth 100000 in
theorem lifted(os:Os)(started:os.Started)(H:Type)(enc:TypeId×Value→H):
    ReturnsInHanded {} Tryz.checked os 3 .any (fun w args=>(Rows.engineMatchesReferenceSpec.pre enc Tryz.prog Tryz.f3 [] false w args∧laidMetH Tryz.prog jF w)∧sizedMet enc Tryz.prog Tryz.f3 (OpenSpec.ofChange Rows.engineMatchesReferenceSpec) false w args) (Rows.engineMatchesReferenceSpec.post enc Tryz.prog Tryz.f3 false true false false):=by
  refine returnsInHanded_of_change_and (C:=Tryz.checked) (X:=fun w _=>laidMetH Tryz.prog jF w) (fun _ _ _ hh h=>h.of_heap hh) own started (by kernel_rfl) Tryz.func3
    (ChangeSpec.witness_at (enc:=enc) (C:=Tryz.checked) (os:=os) (X:=fun w _=>laidMetH Tryz.prog jF w) false (laidWorld os) #[.slice none 0 0,.slice none 0 0,.slice none 0 0,.int .i64 0,.int .i64 0,.int .i64 0] 8 rfl (by kernel_rfl) (by kernel_rfl) (by kernel_rfl) (by kernel_rfl) (by kernel_rfl) (V7 os _)) ?_
  intro W base args ds gs before hval0 hW _ _ _ _
  have hval:∀(j:Nat)t v,Tryz.f3.params[j]?=some t→args[j]?=some v→Value.okWide Tryz.prog W .any base t v:=hval0
  have hW':=hW
  obtain⟨p,q,hA0,hV,rfl,hfz,hnd⟩:=hW
  have hA:DataW.TrodAll enc Tryz.prog W 0 (fun _=>true) true Tryz.f3.params.toList args.toList ds p:=hA0
  rw[Tryz.params3]at hA hval
  obtain⟨v0,vs0,d0,ds0,p0,q0,hargs,rfl,rfl,h0,r0⟩:=trodAll_cons hA
  obtain⟨v1,vs1,d1,ds1,p1,q1,rfl,rfl,rfl,h1,r1⟩:=trodAll_cons r0
  obtain⟨v2,vs2,d2,ds2,p2,q2,rfl,rfl,rfl,h2,r2⟩:=trodAll_cons r1
  obtain⟨v3,vs3,d3,ds3,p3,q3,rfl,rfl,rfl,h3,r3⟩:=trodAll_cons r2
  obtain⟨v4,vs4,d4,ds4,p4,q4,rfl,rfl,rfl,h4,r4⟩:=trodAll_cons r3
  obtain⟨v5,vs5,d5,ds5,p5,q5,rfl,rfl,rfl,h5,r5⟩:=trodAll_cons r4
  obtain⟨rfl,rfl,rfl⟩:=trodAll_nil r5
  obtain rfl:args=#[v0,v1,v2,v3,v4,v5]:=by cases args;simp_all
  obtain⟨rfl,rfl⟩:=trodVars_none hV
  have hlt:=fun x hx=>DataW.Whole.lt hW' (p:=x) hx
  obtain⟨ad0,cp0,xs,rfl,hE0,w0,l0,c0⟩:=Yq (k:=6) I6.cells FX Tryz.underlying22 (by kernel_rfl) (hval 0 22 v0 rfl rfl) h0 lS
  obtain⟨ad1,cp1,sizes,rfl,hE1,w1,l1,c1⟩:=Yq (k:=1) Cm F8 Tryz.underlying23 (by kernel_rfl) (hval 1 23 v1 rfl rfl) h1 (fun n cs x hl h=>by
    match cs,hl with
    |[c],_=>
      obtain⟨m,e,_,q⟩:=DataW.trod_int Tryz.underlying3 h
      cases e
      exact⟨m,rfl,Ew q⟩)
  obtain⟨ad2,cp2,raw,rfl,hE2,w2,l2,c2⟩:=Yq (k:=19) Fact.cells FOk Tryz.underlying24 (by kernel_rfl) (hval 2 24 v2 rfl rfl) h2 aI
  obtain⟨tool,rfl,_,_,w3⟩:=open_int Tryz.underlying3 (hval 3 3 v3 rfl rfl) h3
  obtain⟨chamber,rfl,_,_,w4⟩:=open_int Tryz.underlying3 (hval 4 3 v4 rfl rfl) h4
  obtain⟨recipe,rfl,_,_,w5⟩:=open_int Tryz.underlying3 (hval 5 3 v5 rfl rfl) h5
  refine Calls.mono (YtbcnnkfopoiifaaGreatDoor.Ke _ _ _ _ _ _ xs sizes raw tool chamber recipe W hE0 hE1 w1 hE2 ⟨Ew w3,Ew w4,Ew w5⟩) ?_
  rintro e W' ⟨v,rfl,rfl,hu⟩
  exact⟨_,rfl,eW (pa:=(p0++(p1++(p2++(p3++(p4++(p5++[]))))))) (pv:=[]) hW' (fun _ _ _=>trodAll_cons_mk (shut_bool Tryz.underlying4 _) trodAll_mk0) (fun sp hs=>(trodAll_cons_mk (Jp lo (by kernel_rfl) (of_decide_eq_true (by kernel_rfl)) h0 hu (fun x hx=>hlt x (by simp[hx])) sp (fun x hx=>hs x (by simp[hx]))) (trodAll_cons_mk (Jp lo (by kernel_rfl) (of_decide_eq_true (by kernel_rfl)) h1 hu (fun x hx=>hlt x (by simp[hx])) sp (fun x hx=>hs x (by simp[hx]))) (trodAll_cons_mk (Jp lo (by kernel_rfl) (of_decide_eq_true (by kernel_rfl)) h2 hu (fun x hx=>hlt x (by simp[hx])) sp (fun x hx=>hs x (by simp[hx]))) (trodAll_cons_mk (Jp lo (by kernel_rfl) (of_decide_eq_true (by kernel_rfl)) h3 hu (fun x hx=>hlt x (by simp[hx])) sp (fun x hx=>hs x (by simp[hx]))) (trodAll_cons_mk (Jp lo (by kernel_rfl) (of_decide_eq_true (by kernel_rfl)) h4 hu (fun x hx=>hlt x (by simp[hx])) sp (fun x hx=>hs x (by simp[hx]))) (trodAll_cons_mk (Jp lo (by kernel_rfl) (of_decide_eq_true (by kernel_rfl)) h5 hu (fun x hx=>hlt x (by simp[hx])) sp (fun x hx=>hs x (by simp[hx]))) trodAll_mk0))))))) (fun _ _=>rfl) rfl
    hu (ok_one (by kernel_rfl) rfl (okWide_bool_mk Tryz.underlying4 _))⟩

theorem and2{a b:Bool}(h:a=true)(k:b=true):(a&&b)=true:=by rw[h,k];rfl
set_option maxHeartbeats 4000000 in
theorem closedOk:joinedFacts Tryz.pinned.checked.prog 3 Tryz.f3 Rows.engineMatchesReferenceSpec Rows.engineMatchesReferenceRow=true:=by
  unfold joinedFacts
  repeat' (with_reducible refine and2 ?_ ?_)
  all_goals as_aux_lemma=>kernel_rfl
theorem rowProved:Rows.EngineMatchesReferenceSaid:=
  OpenClaim.holds_of_wide 3 Tryz.f3 rfl rfl rfl rfl rfl rfl rfl ⟨rfl,rfl,rfl,rfl,rfl⟩ rfl rfl rfl rfl rfl (by kernel_rfl) Tryz.func3 closedOk
    (of_decide_eq_true (by kernel_rfl)) (by unfold Func.isWrapper;first|(rw[if_pos (by decide+kernel)];kernel_rfl)|(rw[if_neg (by decide+kernel)];exact⟨rfl,rfl⟩))
    (fun os started H enc _=>lifted os started H enc)
theorem proved:Rows.EngineMatchesReferenceCardSaid:=
  Claim7.holds_tied_plain_at .later [] [.sentinel,.sentinel] true (true, "7b0b0f7a9586d23b1e808d5a020c5114e47c1226340edeef2ec2f2445e1235e4") true
    rowProved (fun _ h=>by cases h) (by as_aux_lemma=>kernel_rfl) (fun _ h=>by cases h) engineMatchesReference_row_tie rfl ⟨rfl,rfl⟩ (by as_aux_lemma=>kernel_rfl) rfl
    (fun f fn hf hfn=>by
      obtain rfl:f=3:=Option.some.inj ((show Tryz.prog.funcNamed "cleanroom/cleanroomlaw21.EngineMatchesReference" =some 3 by as_aux_lemma=>kernel_rfl).symm.trans hf)|>.symm
      obtain rfl:fn=Tryz.f3:=(Option.some.inj (Tryz.func3.symm.trans hfn)).symm
      refine⟨by as_aux_lemma=>kernel_rfl,fun j t ht=>?_⟩
      have h:(Tryz.f3.params.all fun t=> !Tryz.prog.wantsStandIn t)=true:=by as_aux_lemma=>kernel_rfl
      have:=Array.all_eq_true_iff_forall_mem.1 h t (Array.mem_of_getElem? ht)
      have h2:Tryz.prog.wantsStandIn t=false:=by simpa using this
      exact h2)
    (by as_aux_lemma=>kernel_rfl)
#print axioms proved
end Go.Proofs.YtbcnnkfopoiifaaGreatDoor.engineMatchesReference
