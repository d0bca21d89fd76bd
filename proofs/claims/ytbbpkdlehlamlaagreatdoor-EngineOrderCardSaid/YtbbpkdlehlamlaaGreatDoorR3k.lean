/-
  PROVED: for every list and all numbers, cleanroomlaw21.EngineOrder returns true, and its arguments read as they did. Conditions: none beyond the row's own (its two listed variables start as the program's text lays them, which the card ties).
-/
import Derived.Test.YtbbpkdlehlamlaaGreatDoorRows
import Derived.Test.YtbbpkdlehlamlaaGreatDoorCards
import Derived.Test.YtbbpkdlehlamlaaGreatDoorTie
import Derived.Test.YtbbpkdlehlamlaaGreatDoorKR320
import Derived.WalkKit
import Derived.SevenTiedAt
namespace Go.Proofs.YtbbpkdlehlamlaaGreatDoor.engineOrder
open Go.Wx Go.ChangeShapes Go.WideShapes Go.ChangeAt Go.RowKit

theorem own : ownKnob Tryz.prog.godebug = none := by kernel_rfl
theorem lo : laidOutB Tryz.prog = true := by kernel_rfl

set_option maxRecDepth 100000 in
theorem lifted (os : Os) (started : os.Started) (H : Type) (enc : TypeId × Value → H) :
    ReturnsInHanded {} Tryz.checked os 7 .any (fun w args => (Rows.engineOrderSpec.pre enc Tryz.prog Tryz.f7 [] false w args ∧ laidMetH Tryz.prog lvars w) ∧ sizedMet enc Tryz.prog Tryz.f7 (OpenSpec.ofChange Rows.engineOrderSpec) false w args) (Rows.engineOrderSpec.post enc Tryz.prog Tryz.f7 false true false false) := by
  refine returnsInHanded_of_change_and (C := Tryz.checked) (X := fun w _ => laidMetH Tryz.prog lvars w) (fun _ _ _ hh h => h.of_heap hh) own started (by kernel_rfl) Tryz.func7
    (ChangeSpec.witness_at (enc := enc) (C := Tryz.checked) (os := os) (X := fun w _ => laidMetH Tryz.prog lvars w) false (laidWorld os) #[.slice none 0 0, .slice none 0 0, .slice none 0 0, .slice none 0 0] 8 rfl (by kernel_rfl) (by kernel_rfl) (by kernel_rfl) (by kernel_rfl) (by kernel_rfl) (laidWorld_met os _)) ?_
  intro W base args ds gs before hval0 hW _ _ _ _
  have hval : ∀ (j : Nat) t v, Tryz.f7.params[j]? = some t → args[j]? = some v → Value.okWide Tryz.prog W .any base t v := hval0
  have hW' := hW
  obtain ⟨p, q, hA0, hV, rfl, hfz, hnd⟩ := hW
  have hA : DataW.TrodAll enc Tryz.prog W 0 (fun _ => true) true Tryz.f7.params.toList args.toList ds p := hA0
  rw [Tryz.params7] at hA hval
  obtain ⟨v0, vs0, d0, ds0, p0, q0, hargs, rfl, rfl, h0, r0⟩ := trodAll_cons hA
  obtain ⟨v1, vs1, d1, ds1, p1, q1, rfl, rfl, rfl, h1, r1⟩ := trodAll_cons r0
  obtain ⟨v2, vs2, d2, ds2, p2, q2, rfl, rfl, rfl, h2, r2⟩ := trodAll_cons r1
  obtain ⟨v3, vs3, d3, ds3, p3, q3, rfl, rfl, rfl, h3, r3⟩ := trodAll_cons r2
  obtain ⟨rfl, rfl, rfl⟩ := trodAll_nil r3
  obtain rfl : args = #[v0, v1, v2, v3] := by cases args; simp_all
  obtain ⟨rfl, rfl⟩ := trodVars_none hV
  have hlt := fun x hx => DataW.Whole.lt hW' (p := x) hx
  obtain ⟨ad0, cp0, xs, rfl, hE0, w0, l0, c0⟩ := open_sl (k := 6) I6.cells I6Ok Tryz.underlying22 (by kernel_rfl) (hval 0 22 v0 rfl rfl) h0 Tryz.elI6
  obtain ⟨ad1, cp1, swaps, rfl, hE1, w1, l1, c1⟩ := open_sl (k := 1) eInt inI Tryz.underlying46 (by kernel_rfl) (hval 1 46 v1 rfl rfl) h1 (fun n cs x hl h => by
    match cs, hl with
    | [c], _ =>
      obtain ⟨m, e, _, q⟩ := DataW.trod_int Tryz.underlying3 h
      cases e
      exact ⟨m, rfl, wf_inI q⟩)
  obtain ⟨ad2, cp2, one, rfl, hE2, w2, l2, c2⟩ := open_sl (k := 1) eInt inI Tryz.underlying46 (by kernel_rfl) (hval 2 46 v2 rfl rfl) h2 (fun n cs x hl h => by
    match cs, hl with
    | [c], _ =>
      obtain ⟨m, e, _, q⟩ := DataW.trod_int Tryz.underlying3 h
      cases e
      exact ⟨m, rfl, wf_inI q⟩)
  obtain ⟨ad3, cp3, two, rfl, hE3, w3, l3, c3⟩ := open_sl (k := 1) eInt inI Tryz.underlying46 (by kernel_rfl) (hval 3 46 v3 rfl rfl) h3 (fun n cs x hl h => by
    match cs, hl with
    | [c], _ =>
      obtain ⟨m, e, _, q⟩ := DataW.trod_int Tryz.underlying3 h
      cases e
      exact ⟨m, rfl, wf_inI q⟩)
  refine Calls.mono (YtbbpkdlehlamlaaGreatDoor.EngineOrder_any _ _ _ _ _ _ _ _ xs swaps one two W hE0 hE1 hE2 hE3 w1 w2 w3) ?_
  rintro e W' ⟨v, rfl, rfl, hu⟩
  exact ⟨_, rfl, post_of_up (pa := (p0 ++ (p1 ++ (p2 ++ (p3 ++ []))))) (pv := []) hW' (fun _ _ _ => trodAll_cons_mk (shut_bool Tryz.underlying4 _) trodAll_mk0) (fun sp hs => (trodAll_cons_mk (arg_stays lo (by kernel_rfl) (of_decide_eq_true (by kernel_rfl)) h0 hu (fun x hx => hlt x (by simp [hx])) sp (fun x hx => hs x (by simp [hx]))) (trodAll_cons_mk (arg_stays lo (by kernel_rfl) (of_decide_eq_true (by kernel_rfl)) h1 hu (fun x hx => hlt x (by simp [hx])) sp (fun x hx => hs x (by simp [hx]))) (trodAll_cons_mk (arg_stays lo (by kernel_rfl) (of_decide_eq_true (by kernel_rfl)) h2 hu (fun x hx => hlt x (by simp [hx])) sp (fun x hx => hs x (by simp [hx]))) (trodAll_cons_mk (arg_stays lo (by kernel_rfl) (of_decide_eq_true (by kernel_rfl)) h3 hu (fun x hx => hlt x (by simp [hx])) sp (fun x hx => hs x (by simp [hx]))) trodAll_mk0))))) (fun _ _ => rfl) rfl
    hu (ok_one (by kernel_rfl) rfl (okWide_bool_mk Tryz.underlying4 _))⟩

theorem rowProved : Rows.EngineOrderSaid :=
  OpenClaim.holds_of_wide 7 Tryz.f7 rfl rfl rfl rfl rfl rfl rfl ⟨rfl, rfl, rfl, rfl, rfl⟩ rfl rfl rfl rfl rfl (by kernel_rfl) Tryz.func7 (by kernel_rfl)
    (of_decide_eq_true (by kernel_rfl)) (by unfold Func.isWrapper; first | (rw [if_pos (by decide +kernel)]; kernel_rfl) | (rw [if_neg (by decide +kernel)]; exact ⟨rfl, rfl⟩))
    (fun os started H enc _ => lifted os started H enc)
theorem proved : Rows.EngineOrderCardSaid :=
  Claim7.holds_tied_plain_at .later [] [.sentinel, .sentinel] true (true, "f61bcd61f4970c1186405ef89e47a4d702df3ae90ef7136eb597f9787c5117a3") true
    rowProved (fun _ h => by cases h) (by kernel_rfl) (fun _ h => by cases h) engineOrder_row_tie rfl ⟨rfl, rfl⟩ (by kernel_rfl) rfl
    (fun f fn hf hfn => by
      obtain rfl : f = 7 := Option.some.inj ((show Tryz.prog.funcNamed "cleanroom/cleanroomlaw21.EngineOrder" = some 7 by kernel_rfl).symm.trans hf) |>.symm
      obtain rfl : fn = Tryz.f7 := (Option.some.inj (Tryz.func7.symm.trans hfn)).symm
      refine ⟨by kernel_rfl, fun j t ht => ?_⟩
      have h : (Tryz.f7.params.all fun t => !Tryz.prog.wantsStandIn t) = true := by kernel_rfl
      have := Array.all_eq_true_iff_forall_mem.1 h t (Array.mem_of_getElem? ht)
      have h2 : Tryz.prog.wantsStandIn t = false := by simpa using this
      exact h2)
    (by kernel_rfl)
#print axioms proved
end Go.Proofs.YtbbpkdlehlamlaaGreatDoor.engineOrder
