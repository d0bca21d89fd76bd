import Derived.Test.YtkpkljbmbmjadaaOgb
import Derived.Test.YtkpkljbmbmjadaaNums
import Derived.Test.YtkpkljbmbmjadaaDr4
namespace Go.Proofs
open Go.Wx Go.ChangeShapes Go.WideShapes Go.RowKit
theorem Try.elSP {H : Type} {enc : TypeId × Value → H} {w : World} {b : Nat} {sp : Nat → Bool} {hd : Bool} (n : Nat) (cs : List Value) (x : DataW H × List MemPlace) (hl : cs.length = 5) (h : DataW.trod enc Try.prog w b sp hd n 39 cs = some x) : ∃ f : SPar, cs = f.cells.toList ∧ SPOk w f := by
  have k_int : Try.prog.cellsOf 3 = 1 := by kernel_rfl
  have k_sli : Try.prog.cellsOf 37 = 1 := by kernel_rfl
  have k_string : Try.prog.cellsOf 9 = 1 := by kernel_rfl
  match cs, hl with
  | [c0, c1, c2, c3, c4], _ =>
    obtain ⟨xs, n, _, hx, _, hlen, hg⟩ := DataW.trod_struct Try.underlying39 h
    match xs, hlen with
    | [y0, y1, y2, y3, y4], _ =>
      obtain ⟨n0, e0, _, q0⟩ := DataW.trod_int Try.underlying3 (show DataW.trod enc Try.prog w b sp hd n 3 [c0] = some y0 from by simpa [k_int] using hg 0 _ rfl)
      obtain ⟨n1, e1, _, q1⟩ := DataW.trod_int Try.underlying3 (show DataW.trod enc Try.prog w b sp hd n 3 [c1] = some y1 from by simpa [k_int] using hg 1 _ rfl)
      obtain ⟨n2, e2, _, q2⟩ := DataW.trod_int Try.underlying3 (show DataW.trod enc Try.prog w b sp hd n 3 [c2] = some y2 from by simpa [k_int] using hg 2 _ rfl)
      obtain ⟨n3, e3, _, s3⟩ := DataW.trod_string Try.underlying9 (show DataW.trod enc Try.prog w b sp hd n 9 [c3] = some y3 from by simpa [k_string] using hg 3 _ rfl)
      obtain ⟨ad4, cp4, n4, e4, hE4, l4⟩ := open_slf Try.underlying37 Try.underlying3 (by kernel_rfl) (show DataW.trod enc Try.prog w b sp hd n 37 [c4] = some y4 from by simpa [k_sli] using hg 4 _ rfl)
      cases e0
      cases e1
      cases e2
      cases e3
      cases e4
      exact ⟨⟨n0, n1, n2, n3, ad4, n4, cp4⟩, rfl, ⟨wf_inI q0, wf_inI q1, wf_inI q2, hE4, l4⟩⟩
set_option maxRecDepth 100000 in
theorem Try.argSP {H : Type} {enc : TypeId × Value → H} {w : World} {b b0 : Nat} {sp : Nat → Bool} {hd : Bool} {r : Reach} {v : Value} {d : DataW H} {p : List MemPlace} (hv : Value.okWide Try.prog w r b0 39 v) (h : DataW.Trod enc Try.prog w b sp hd 39 v d p) : ∃ f : SPar, v = .agg f.cells ∧ SPOk w f := by
  obtain ⟨cs, rfl, hsz⟩ := okWide_struct Try.underlying39 hv
  obtain ⟨fuel, hf⟩ := h
  have hc : Try.prog.cellsOf 39 = 5 := by kernel_rfl
  obtain ⟨f, e, g⟩ := Try.elSP fuel cs.toList _ (by rw [Array.length_toList, hsz, hc]) hf
  exact ⟨f, by rw [Array.toList_inj.1 e], g⟩
end Go.Proofs
