/-
  PROVED: for every list, every fact and either choice, cleanroomlaw21.EngineLocal returns true, and its arguments read as they did. Conditions: none beyond the row's own (its two listed variables start as the program's text lays them, which the card ties).
-/
import Derived.Test.YtbbpkdlehlamlaaGreatDoorRows
import Derived.Test.YtbbpkdlehlamlaaGreatDoorCards
import Derived.Test.YtbbpkdlehlamlaaGreatDoorTie
import Derived.Test.YtbbpkdlehlamlaaGreatDoorKR420
import Derived.WalkKit
import Derived.SevenTiedAt
namespace Go.Proofs.YtbbpkdlehlamlaaGreatDoor.engineLocal
open Go.Wx Go.ChangeShapes Go.WideShapes Go.ChangeAt Go.RowKit

theorem own : ownKnob Tryz.prog.godebug = none := by kernel_rfl
theorem lo : laidOutB Tryz.prog = true := by kernel_rfl

set_option maxRecDepth 100000 in
theorem lifted (os : Os) (started : os.Started) (H : Type) (enc : TypeId × Value → H) :
    ReturnsInHanded {} Tryz.checked os 3 .any (fun w args => (Rows.engineLocalSpec.pre enc Tryz.prog Tryz.f3 [] false w args ∧ laidMetH Tryz.prog lvars w) ∧ sizedMet enc Tryz.prog Tryz.f3 (OpenSpec.ofChange Rows.engineLocalSpec) false w args) (Rows.engineLocalSpec.post enc Tryz.prog Tryz.f3 false true false false) := by
  refine returnsInHanded_of_change_and (C := Tryz.checked) (X := fun w _ => laidMetH Tryz.prog lvars w) (fun _ _ _ hh h => h.of_heap hh) own started (by kernel_rfl) Tryz.func3
    (ChangeSpec.witness_at (enc := enc) (C := Tryz.checked) (os := os) (X := fun w _ => laidMetH Tryz.prog lvars w) false (laidWorld os) #[.slice none 0 0, .agg #[.int .i64 0, .int .i64 0, .int .i64 0, .int .i64 0, .bool false, .int .i64 0, .int .i64 0, .int .i64 0, .int .i64 0, .int .i64 0, .int .i64 0, .int .i64 0, .int .i64 0, .int .i64 0, .int .i64 0, .int .i64 0, .int .i64 0, .int .i64 0, .string ⟨#[]⟩], .bool false] 8 rfl (by kernel_rfl) (by kernel_rfl) (by kernel_rfl) (by kernel_rfl) (by kernel_rfl) (laidWorld_met os _)) ?_
  intro W base args ds gs before hval0 hW _ _ _ _
  have hval : ∀ (j : Nat) t v, Tryz.f3.params[j]? = some t → args[j]? = some v → Value.okWide Tryz.prog W .any base t v := hval0
  have hW' := hW
  obtain ⟨p, q, hA0, hV, rfl, hfz, hnd⟩ := hW
  have hA : DataW.TrodAll enc Tryz.prog W 0 (fun _ => true) true Tryz.f3.params.toList args.toList ds p := hA0
  rw [Tryz.params3] at hA hval
  obtain ⟨v0, vs0, d0, ds0, p0, q0, hargs, rfl, rfl, h0, r0⟩ := trodAll_cons hA
  obtain ⟨v1, vs1, d1, ds1, p1, q1, rfl, rfl, rfl, h1, r1⟩ := trodAll_cons r0
  obtain ⟨v2, vs2, d2, ds2, p2, q2, rfl, rfl, rfl, h2, r2⟩ := trodAll_cons r1
  obtain ⟨rfl, rfl, rfl⟩ := trodAll_nil r2
  obtain rfl : args = #[v0, v1, v2] := by cases args; simp_all
  obtain ⟨rfl, rfl⟩ := trodVars_none hV
  have hlt := fun x hx => DataW.Whole.lt hW' (p := x) hx
  obtain ⟨ad0, cp0, xs, rfl, hE0, w0, l0, c0⟩ := open_sl (k := 6) I6.cells I6Ok Tryz.underlying22 (by kernel_rfl) (hval 0 22 v0 rfl rfl) h0 Tryz.elI6
  obtain ⟨raw, rfl, w1⟩ := Tryz.argFact (hval 1 24 v1 rfl rfl) h1
  obtain ⟨arb, rfl, _, _⟩ := open_bool Tryz.underlying4 (hval 2 4 v2 rfl rfl) h2
  refine Calls.mono (YtbbpkdlehlamlaaGreatDoor.EngineLocal_any _ _ xs raw arb W hE0) ?_
  rintro e W' ⟨v, rfl, rfl, hu⟩
  exact ⟨_, rfl, post_of_up (pa := (p0 ++ (p1 ++ (p2 ++ [])))) (pv := []) hW' (fun _ _ _ => trodAll_cons_mk (shut_bool Tryz.underlying4 _) trodAll_mk0) (fun sp hs => (trodAll_cons_mk (arg_stays lo (by kernel_rfl) (of_decide_eq_true (by kernel_rfl)) h0 hu (fun x hx => hlt x (by simp [hx])) sp (fun x hx => hs x (by simp [hx]))) (trodAll_cons_mk (arg_stays lo (by kernel_rfl) (of_decide_eq_true (by kernel_rfl)) h1 hu (fun x hx => hlt x (by simp [hx])) sp (fun x hx => hs x (by simp [hx]))) (trodAll_cons_mk (arg_stays lo (by kernel_rfl) (of_decide_eq_true (by kernel_rfl)) h2 hu (fun x hx => hlt x (by simp [hx])) sp (fun x hx => hs x (by simp [hx]))) trodAll_mk0)))) (fun _ _ => rfl) rfl
    hu (ok_one (by kernel_rfl) rfl (okWide_bool_mk Tryz.underlying4 _))⟩

theorem rowProved : Rows.EngineLocalSaid :=
  OpenClaim.holds_of_wide 3 Tryz.f3 rfl rfl rfl rfl rfl rfl rfl ⟨rfl, rfl, rfl, rfl, rfl⟩ rfl rfl rfl rfl rfl (by kernel_rfl) Tryz.func3 (by kernel_rfl)
    (of_decide_eq_true (by kernel_rfl)) (by unfold Func.isWrapper; first | (rw [if_pos (by decide +kernel)]; kernel_rfl) | (rw [if_neg (by decide +kernel)]; exact ⟨rfl, rfl⟩))
    (fun os started H enc _ => lifted os started H enc)
theorem proved : Rows.EngineLocalCardSaid :=
  Claim7.holds_tied_plain_at .later [] [.sentinel, .sentinel] true (true, "f61bcd61f4970c1186405ef89e47a4d702df3ae90ef7136eb597f9787c5117a3") true
    rowProved (fun _ h => by cases h) (by kernel_rfl) (fun _ h => by cases h) engineLocal_row_tie rfl ⟨rfl, rfl⟩ (by kernel_rfl) rfl
    (fun f fn hf hfn => by
      obtain rfl : f = 3 := Option.some.inj ((show Tryz.prog.funcNamed "cleanroom/cleanroomlaw21.EngineLocal" = some 3 by kernel_rfl).symm.trans hf) |>.symm
      obtain rfl : fn = Tryz.f3 := (Option.some.inj (Tryz.func3.symm.trans hfn)).symm
      refine ⟨by kernel_rfl, fun j t ht => ?_⟩
      have h : (Tryz.f3.params.all fun t => !Tryz.prog.wantsStandIn t) = true := by kernel_rfl
      have := Array.all_eq_true_iff_forall_mem.1 h t (Array.mem_of_getElem? ht)
      have h2 : Tryz.prog.wantsStandIn t = false := by simpa using this
      exact h2)
    (by kernel_rfl)
#print axioms proved
end Go.Proofs.YtbbpkdlehlamlaaGreatDoor.engineLocal
