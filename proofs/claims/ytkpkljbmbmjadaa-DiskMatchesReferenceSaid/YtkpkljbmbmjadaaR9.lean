/-
  PROVED: for every size and every list of calls, cleanroomlaw24.DiskMatchesReference returns true, and its arguments read as they did. Conditions: none beyond the row's own.
-/
import Derived.Test.YtkpkljbmbmjadaaRows
import Derived.Test.YtkpkljbmbmjadaaOgs
import Derived.Test.YtkpkljbmbmjadaaDr5
import Derived.WalkKit
namespace Go.Proofs.Ytkpkljbmbmjadaa.diskMatchesReference
open Go.Wx Go.ChangeShapes Go.WideShapes Go.ChangeAt Go.RowKit

theorem own : ownKnob Try.prog.godebug = none := by kernel_rfl
theorem lo : laidOutB Try.prog = true := by kernel_rfl

set_option maxRecDepth 100000 in
theorem lifted (os : Os) (started : os.Started) (H : Type) (enc : TypeId × Value → H) :
    ReturnsInHanded {} Try.checked os 4 .any (Rows.diskMatchesReferenceSpec.pre6 enc Try.prog Try.f4 Rows.diskMatchesReferenceRow.domain false) (Rows.diskMatchesReferenceSpec.post enc Try.prog Try.f4 false true false false) := by
  refine returnsInHanded_of_change (C := Try.checked) own started (by kernel_rfl) Try.func4
    (ChangeSpec.witness6 (enc := enc) (C := Try.checked) false ⟨#[], #[.int .i64 0, .slice none 0 0], []⟩ 8 (by kernel_rfl) (by kernel_rfl) (by kernel_rfl) (by kernel_rfl)) ?_
  intro W base args ds gs before hval0 hW _ _
  have hval : ∀ (j : Nat) t v, Try.f4.params[j]? = some t → args[j]? = some v → Value.okWide Try.prog W .any base t v := hval0
  have hW' := hW
  obtain ⟨p, q, hA0, hV, rfl, hfz, hnd⟩ := hW
  have hA : DataW.TrodAll enc Try.prog W 0 (fun _ => true) true Try.f4.params.toList args.toList ds p := hA0
  rw [Try.params4] at hA hval
  obtain ⟨v0, vs0, d0, ds0, p0, q0, hargs, rfl, rfl, h0, r0⟩ := trodAll_cons hA
  obtain ⟨v1, vs1, d1, ds1, p1, q1, rfl, rfl, rfl, h1, r1⟩ := trodAll_cons r0
  obtain ⟨rfl, rfl, rfl⟩ := trodAll_nil r1
  obtain rfl : args = #[v0, v1] := by cases args; simp_all
  obtain ⟨rfl, rfl⟩ := trodVars_none hV
  have hlt := fun x hx => DataW.Whole.lt hW' (p := x) hx
  obtain ⟨n, rfl, _, _, w0⟩ := open_int Try.underlying3 (hval 0 3 v0 rfl rfl) h0
  obtain ⟨ad1, cp1, l, rfl, hE1, w1, l1, c1⟩ := open_sl (k := 5) SPar.cells (SPOk W) Try.underlying32 (by kernel_rfl) (hval 1 32 v1 rfl rfl) h1 Try.elSP
  refine Calls.mono (Ytkpkljbmbmjadaa.DiskMatchesReference_any n _ _ l W (wf_inI w0) hE1 w1) ?_
  rintro e W' ⟨v, rfl, rfl, hu⟩
  exact ⟨_, rfl, post_of_up (pa := (p0 ++ (p1 ++ []))) (pv := []) hW' (fun _ _ _ => trodAll_cons_mk (shut_bool Try.underlying4 _) trodAll_mk0) (fun sp hs => (trodAll_cons_mk (arg_stays lo (by kernel_rfl) (of_decide_eq_true (by kernel_rfl)) h0 hu (fun x hx => hlt x (by simp [hx])) sp (fun x hx => hs x (by simp [hx]))) (trodAll_cons_mk (arg_stays lo (by kernel_rfl) (of_decide_eq_true (by kernel_rfl)) h1 hu (fun x hx => hlt x (by simp [hx])) sp (fun x hx => hs x (by simp [hx]))) trodAll_mk0))) (fun _ _ => rfl) rfl
    hu (ok_one (by kernel_rfl) rfl (okWide_bool_mk Try.underlying4 _))⟩

theorem proved : Rows.DiskMatchesReferenceSaid :=
  OpenClaim.holds_of_wide 4 Try.f4 rfl rfl rfl rfl rfl rfl rfl ⟨rfl, rfl, rfl, rfl, rfl⟩ rfl rfl rfl rfl rfl (by kernel_rfl) Try.func4 (by kernel_rfl)
    (of_decide_eq_true (by kernel_rfl)) (by unfold Func.isWrapper; first | (rw [if_pos (by decide +kernel)]; kernel_rfl) | (rw [if_neg (by decide +kernel)]; exact ⟨rfl, rfl⟩))
    (fun os started H enc _ => lifted os started H enc)
#print axioms proved
end Go.Proofs.Ytkpkljbmbmjadaa.diskMatchesReference
