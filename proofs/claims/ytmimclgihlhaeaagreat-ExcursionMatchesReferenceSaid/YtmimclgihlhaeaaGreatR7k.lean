/-
  PROVED: for every list, facts, excursions and verdicts, cleanroomlaw22.ExcursionMatchesReference returns true, and its arguments read as they did. Conditions: none beyond the row's own.
-/
import Derived.Test.YtmimclgihlhaeaaGreatRows
import Derived.Test.YtmimclgihlhaeaaGreatKR723
import Derived.WalkKit
namespace Go.Proofs.YtmimclgihlhaeaaGreat.excursionMatchesReference
open Go.Wx Go.ChangeShapes Go.WideShapes Go.ChangeAt Go.RowKit

theorem own : ownKnob Tryz.prog.godebug = none := by kernel_rfl
theorem lo : laidOutB Tryz.prog = true := by kernel_rfl

set_option maxRecDepth 100000 in
theorem lifted (os : Os) (started : os.Started) (H : Type) (enc : TypeId × Value → H) :
    ReturnsInHanded {} Tryz.checked os 3 .any (Rows.excursionMatchesReferenceSpec.pre6 enc Tryz.prog Tryz.f3 Rows.excursionMatchesReferenceRow.domain false) (Rows.excursionMatchesReferenceSpec.post enc Tryz.prog Tryz.f3 false true false false) := by
  refine returnsInHanded_of_change (C := Tryz.checked) own started (by kernel_rfl) Tryz.func3
    (ChangeSpec.witness6 (enc := enc) (C := Tryz.checked) false ⟨#[], #[.slice none 0 0, .slice none 0 0, .agg #[.int .i64 0, .int .i64 0, .int .i64 0, .int .i64 0, .int .i64 0], .agg #[.int .i64 0, .int .i64 0, .int .i64 0, .int .i64 0, .int .i64 0], .slice none 0 0], []⟩ 8 (by kernel_rfl) (by kernel_rfl) (by kernel_rfl) (by kernel_rfl)) ?_
  intro W base args ds gs before hval0 hW _ _
  have hval : ∀ (j : Nat) t v, Tryz.f3.params[j]? = some t → args[j]? = some v → Value.okWide Tryz.prog W .any base t v := hval0
  have hW' := hW
  obtain ⟨p, q, hA0, hV, rfl, hfz, hnd⟩ := hW
  have hA : DataW.TrodAll enc Tryz.prog W 0 (fun _ => true) true Tryz.f3.params.toList args.toList ds p := hA0
  rw [Tryz.params3] at hA hval
  obtain ⟨v0, vs0, d0, ds0, p0, q0, hargs, rfl, rfl, h0, r0⟩ := trodAll_cons hA
  obtain ⟨v1, vs1, d1, ds1, p1, q1, rfl, rfl, rfl, h1, r1⟩ := trodAll_cons r0
  obtain ⟨v2, vs2, d2, ds2, p2, q2, rfl, rfl, rfl, h2, r2⟩ := trodAll_cons r1
  obtain ⟨v3, vs3, d3, ds3, p3, q3, rfl, rfl, rfl, h3, r3⟩ := trodAll_cons r2
  obtain ⟨v4, vs4, d4, ds4, p4, q4, rfl, rfl, rfl, h4, r4⟩ := trodAll_cons r3
  obtain ⟨rfl, rfl, rfl⟩ := trodAll_nil r4
  obtain rfl : args = #[v0, v1, v2, v3, v4] := by cases args; simp_all
  obtain ⟨rfl, rfl⟩ := trodVars_none hV
  have hlt := fun x hx => DataW.Whole.lt hW' (p := x) hx
  obtain ⟨ad0, cp0, xs, rfl, hE0, w0, l0, c0⟩ := Uk (k := 5) I5.cells eY Tryz.underlying22 (by kernel_rfl) (hval 0 22 v0 rfl rfl) h0 Ue
  obtain ⟨ad1, cp1, raw, rfl, hE1, w1, l1, c1⟩ := Uk (k := 19) Fact.cells FOk Tryz.underlying23 (by kernel_rfl) (hval 1 23 v1 rfl rfl) h1 Y3
  obtain ⟨x, rfl, w2⟩ := Y4 (hval 2 25 v2 rfl rfl) h2
  obtain ⟨y, rfl, w3⟩ := cC (hval 3 26 v3 rfl rfl) h3
  obtain ⟨ad4, cp4, vs, rfl, hE4, w4, l4, c4⟩ := Uk (k := 3) VP.cells (AJ W) Tryz.underlying27 (by kernel_rfl) (hval 4 27 v4 rfl rfl) h4 jB
  refine Calls.mono (YtmimclgihlhaeaaGreat.Sf _ _ _ _ _ _ xs raw x y vs W hE0 w0 hE1 hE4 (fun p hp => Ak (w4 p hp).1) (fun p hp => (w4 p hp).2)) ?_
  rintro e W' ⟨v, rfl, rfl, hu⟩
  exact ⟨_, rfl, Zb (pa := (p0 ++ (p1 ++ (p2 ++ (p3 ++ (p4 ++ [])))))) (pv := []) hW' (fun _ _ _ => trodAll_cons_mk (shut_bool Tryz.underlying4 _) trodAll_mk0) (fun sp hs => (trodAll_cons_mk (I8 lo (by kernel_rfl) (of_decide_eq_true (by kernel_rfl)) h0 hu (fun x hx => hlt x (by simp [hx])) sp (fun x hx => hs x (by simp [hx]))) (trodAll_cons_mk (I8 lo (by kernel_rfl) (of_decide_eq_true (by kernel_rfl)) h1 hu (fun x hx => hlt x (by simp [hx])) sp (fun x hx => hs x (by simp [hx]))) (trodAll_cons_mk (I8 lo (by kernel_rfl) (of_decide_eq_true (by kernel_rfl)) h2 hu (fun x hx => hlt x (by simp [hx])) sp (fun x hx => hs x (by simp [hx]))) (trodAll_cons_mk (I8 lo (by kernel_rfl) (of_decide_eq_true (by kernel_rfl)) h3 hu (fun x hx => hlt x (by simp [hx])) sp (fun x hx => hs x (by simp [hx]))) (trodAll_cons_mk (I8 lo (by kernel_rfl) (of_decide_eq_true (by kernel_rfl)) h4 hu (fun x hx => hlt x (by simp [hx])) sp (fun x hx => hs x (by simp [hx]))) trodAll_mk0)))))) (fun _ _ => rfl) rfl
    hu (ok_one (by kernel_rfl) rfl (okWide_bool_mk Tryz.underlying4 _))⟩

theorem proved : Rows.ExcursionMatchesReferenceSaid :=
  OpenClaim.holds_of_wide 3 Tryz.f3 rfl rfl rfl rfl rfl rfl rfl ⟨rfl, rfl, rfl, rfl, rfl⟩ rfl rfl rfl rfl rfl (by kernel_rfl) Tryz.func3 (by kernel_rfl)
    (of_decide_eq_true (by kernel_rfl)) (by unfold Func.isWrapper; first | (rw [if_pos (by decide +kernel)]; kernel_rfl) | (rw [if_neg (by decide +kernel)]; exact ⟨rfl, rfl⟩))
    (fun os started H enc _ => lifted os started H enc)
#print axioms proved
end Go.Proofs.YtmimclgihlhaeaaGreat.excursionMatchesReference
