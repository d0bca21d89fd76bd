import Derived.Test.YtkpkljbmbmjadaaOgb
import Derived.Test.YtkpkljbmbmjadaaNums
import Derived.Test.YtkpkljbmbmjadaaDi5
namespace Go.Proofs
open Go.Wx Go.ChangeShapes Go.WideShapes Go.RowKit
theorem Try.elWP {H : Type} {enc : TypeId × Value → H} {w : World} {b : Nat} {sp : Nat → Bool} {hd : Bool} (n : Nat) (cs : List Value) (x : DataW H × List MemPlace) (hl : cs.length = 3) (h : DataW.trod enc Try.prog w b sp hd n 53 cs = some x) : ∃ f : WP, cs = f.cells.toList ∧ WOk f := by
  have k_bool : Try.prog.cellsOf 4 = 1 := by kernel_rfl
  have k_int : Try.prog.cellsOf 3 = 1 := by kernel_rfl
  have k_string : Try.prog.cellsOf 9 = 1 := by kernel_rfl
  match cs, hl with
  | [c0, c1, c2], _ =>
    obtain ⟨xs, n, _, hx, _, hlen, hg⟩ := DataW.trod_struct Try.underlying53 h
    match xs, hlen with
    | [y0, y1, y2], _ =>
      obtain ⟨n0, e0, _, q0⟩ := DataW.trod_int Try.underlying3 (show DataW.trod enc Try.prog w b sp hd n 3 [c0] = some y0 from by simpa [k_int] using hg 0 _ rfl)
      obtain ⟨n1, e1, _, s1⟩ := DataW.trod_string Try.underlying9 (show DataW.trod enc Try.prog w b sp hd n 9 [c1] = some y1 from by simpa [k_string] using hg 1 _ rfl)
      obtain ⟨n2, e2, _⟩ := DataW.trod_bool Try.underlying4 (show DataW.trod enc Try.prog w b sp hd n 4 [c2] = some y2 from by simpa [k_bool] using hg 2 _ rfl)
      cases e0
      cases e1
      cases e2
      exact ⟨⟨n0, n1, n2⟩, rfl, ⟨wf_inI q0⟩⟩
set_option maxRecDepth 100000 in
theorem Try.argWP {H : Type} {enc : TypeId × Value → H} {w : World} {b b0 : Nat} {sp : Nat → Bool} {hd : Bool} {r : Reach} {v : Value} {d : DataW H} {p : List MemPlace} (hv : Value.okWide Try.prog w r b0 53 v) (h : DataW.Trod enc Try.prog w b sp hd 53 v d p) : ∃ f : WP, v = .agg f.cells ∧ WOk f := by
  obtain ⟨cs, rfl, hsz⟩ := okWide_struct Try.underlying53 hv
  obtain ⟨fuel, hf⟩ := h
  have hc : Try.prog.cellsOf 53 = 3 := by kernel_rfl
  obtain ⟨f, e, g⟩ := Try.elWP fuel cs.toList _ (by rw [Array.length_toList, hsz, hc]) hf
  exact ⟨f, by rw [Array.toList_inj.1 e], g⟩
end Go.Proofs
