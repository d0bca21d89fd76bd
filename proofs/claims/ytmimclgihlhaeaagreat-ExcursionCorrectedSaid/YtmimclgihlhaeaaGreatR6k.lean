/-
  PROVED: for every list, excursion, choice, time, withdrawal and order, cleanroomlaw22.ExcursionCorrected returns true, and its arguments read as they did. Conditions: none beyond the row's own.
-/
import Derived.Test.YtmimclgihlhaeaaGreatRows
import Derived.Test.YtmimclgihlhaeaaGreatKR621
import Derived.WalkKit
namespace Go.Proofs.YtmimclgihlhaeaaGreat.excursionCorrected
open Go.Wx Go.ChangeShapes Go.WideShapes Go.ChangeAt Go.RowKit

theorem own : ownKnob Tryz.prog.godebug = none := by kernel_rfl
theorem lo : laidOutB Tryz.prog = true := by kernel_rfl

set_option maxRecDepth 100000 in
theorem lifted (os : Os) (started : os.Started) (H : Type) (enc : TypeId × Value → H) :
    ReturnsInHanded {} Tryz.checked os 8 .any (Rows.excursionCorrectedSpec.pre6 enc Tryz.prog Tryz.f8 Rows.excursionCorrectedRow.domain false) (Rows.excursionCorrectedSpec.post enc Tryz.prog Tryz.f8 false true false false) := by
  refine returnsInHanded_of_change (C := Tryz.checked) own started (by kernel_rfl) Tryz.func8
    (ChangeSpec.witness6 (enc := enc) (C := Tryz.checked) false ⟨#[], #[.slice none 0 0, .agg #[.int .i64 0, .int .i64 0, .int .i64 0, .int .i64 0, .int .i64 0], .int .i64 0, .int .i64 0, .bool false, .slice none 0 0], []⟩ 8 (by kernel_rfl) (by kernel_rfl) (by kernel_rfl) (by kernel_rfl)) ?_
  intro W base args ds gs before hval0 hW _ _
  have hval : ∀ (j : Nat) t v, Tryz.f8.params[j]? = some t → args[j]? = some v → Value.okWide Tryz.prog W .any base t v := hval0
  have hW' := hW
  obtain ⟨p, q, hA0, hV, rfl, hfz, hnd⟩ := hW
  have hA : DataW.TrodAll enc Tryz.prog W 0 (fun _ => true) true Tryz.f8.params.toList args.toList ds p := hA0
  rw [Tryz.params8] at hA hval
  obtain ⟨v0, vs0, d0, ds0, p0, q0, hargs, rfl, rfl, h0, r0⟩ := trodAll_cons hA
  obtain ⟨v1, vs1, d1, ds1, p1, q1, rfl, rfl, rfl, h1, r1⟩ := trodAll_cons r0
  obtain ⟨v2, vs2, d2, ds2, p2, q2, rfl, rfl, rfl, h2, r2⟩ := trodAll_cons r1
  obtain ⟨v3, vs3, d3, ds3, p3, q3, rfl, rfl, rfl, h3, r3⟩ := trodAll_cons r2
  obtain ⟨v4, vs4, d4, ds4, p4, q4, rfl, rfl, rfl, h4, r4⟩ := trodAll_cons r3
  obtain ⟨v5, vs5, d5, ds5, p5, q5, rfl, rfl, rfl, h5, r5⟩ := trodAll_cons r4
  obtain ⟨rfl, rfl, rfl⟩ := trodAll_nil r5
  obtain rfl : args = #[v0, v1, v2, v3, v4, v5] := by cases args; simp_all
  obtain ⟨rfl, rfl⟩ := trodVars_none hV
  have hlt := fun x hx => DataW.Whole.lt hW' (p := x) hx
  obtain ⟨ad0, cp0, xs, rfl, hE0, w0, l0, c0⟩ := aP (k := 5) I5.cells Um Tryz.underlying22 (by kernel_rfl) (hval 0 22 v0 rfl rfl) h0 S9
  obtain ⟨y, rfl, w1⟩ := Ys (hval 1 26 v1 rfl rfl) h1
  obtain ⟨which, rfl, _, _, w2⟩ := open_int Tryz.underlying3 (hval 2 3 v2 rfl rfl) h2
  obtain ⟨at_, rfl, _, _, w3⟩ := open_int Tryz.underlying3 (hval 3 3 v3 rfl rfl) h3
  obtain ⟨gone, rfl, _, _⟩ := open_bool Tryz.underlying4 (hval 4 4 v4 rfl rfl) h4
  obtain ⟨ad5, cp5, os, rfl, hE5, w5, l5, c5⟩ := aP (k := 1) A8 Qb Tryz.underlying30 (by kernel_rfl) (hval 5 30 v5 rfl rfl) h5 (fun n cs x hl h => by
    match cs, hl with
    | [c], _ =>
      obtain ⟨m, e, _, q⟩ := DataW.trod_int Tryz.underlying3 h
      cases e
      exact ⟨m, rfl, K1 q⟩)
  refine Calls.mono (YtmimclgihlhaeaaGreat.Sm _ _ xs y which at_ gone _ _ os W hE0 w0 w1 (K1 w2) (K1 w3) hE5 w5) ?_
  rintro e W' ⟨v, rfl, rfl, hu⟩
  exact ⟨_, rfl, Yq (pa := (p0 ++ (p1 ++ (p2 ++ (p3 ++ (p4 ++ (p5 ++ []))))))) (pv := []) hW' (fun _ _ _ => trodAll_cons_mk (shut_bool Tryz.underlying4 _) trodAll_mk0) (fun sp hs => (trodAll_cons_mk (Hu lo (by kernel_rfl) (of_decide_eq_true (by kernel_rfl)) h0 hu (fun x hx => hlt x (by simp [hx])) sp (fun x hx => hs x (by simp [hx]))) (trodAll_cons_mk (Hu lo (by kernel_rfl) (of_decide_eq_true (by kernel_rfl)) h1 hu (fun x hx => hlt x (by simp [hx])) sp (fun x hx => hs x (by simp [hx]))) (trodAll_cons_mk (Hu lo (by kernel_rfl) (of_decide_eq_true (by kernel_rfl)) h2 hu (fun x hx => hlt x (by simp [hx])) sp (fun x hx => hs x (by simp [hx]))) (trodAll_cons_mk (Hu lo (by kernel_rfl) (of_decide_eq_true (by kernel_rfl)) h3 hu (fun x hx => hlt x (by simp [hx])) sp (fun x hx => hs x (by simp [hx]))) (trodAll_cons_mk (Hu lo (by kernel_rfl) (of_decide_eq_true (by kernel_rfl)) h4 hu (fun x hx => hlt x (by simp [hx])) sp (fun x hx => hs x (by simp [hx]))) (trodAll_cons_mk (Hu lo (by kernel_rfl) (of_decide_eq_true (by kernel_rfl)) h5 hu (fun x hx => hlt x (by simp [hx])) sp (fun x hx => hs x (by simp [hx]))) trodAll_mk0))))))) (fun _ _ => rfl) rfl
    hu (ok_one (by kernel_rfl) rfl (okWide_bool_mk Tryz.underlying4 _))⟩

theorem proved : Rows.ExcursionCorrectedSaid :=
  OpenClaim.holds_of_wide 8 Tryz.f8 rfl rfl rfl rfl rfl rfl rfl ⟨rfl, rfl, rfl, rfl, rfl⟩ rfl rfl rfl rfl rfl (by kernel_rfl) Tryz.func8 (by kernel_rfl)
    (of_decide_eq_true (by kernel_rfl)) (by unfold Func.isWrapper; first | (rw [if_pos (by decide +kernel)]; kernel_rfl) | (rw [if_neg (by decide +kernel)]; exact ⟨rfl, rfl⟩))
    (fun os started H enc _ => lifted os started H enc)
#print axioms proved
end Go.Proofs.YtmimclgihlhaeaaGreat.excursionCorrected
