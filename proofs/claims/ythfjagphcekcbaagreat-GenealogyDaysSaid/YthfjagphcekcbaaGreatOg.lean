import Derived.Test.YthfjagphcekcbaaGreatOgb
import Derived.Test.YthfjagphcekcbaaGreatIa
import Derived.Test.YthfjagphcekcbaaGreatNums
namespace Go.Proofs
open Go.Wx Go.ChangeShapes Go.WideShapes Go.RowKit
theorem Tryz.elI6 {H : Type} {enc : TypeId × Value → H} {w : World} {b : Nat} {sp : Nat → Bool} {hd : Bool} (n : Nat) (cs : List Value) (x : DataW H × List MemPlace) (hl : cs.length = 6) (h : DataW.trod enc Tryz.prog w b sp hd n 67 cs = some x) : ∃ f : I6, cs = f.cells.toList ∧ I6Ok f := by
  have k_int : Tryz.prog.cellsOf 3 = 1 := by kernel_rfl
  match cs, hl with
  | [c0, c1, c2, c3, c4, c5], _ =>
    obtain ⟨xs, m, _, _, _, hlen, hg⟩ := DataW.trod_array Tryz.underlying67 h
    have hs : ∀ i, i < 6 → ∃ y, xs[i]? = some y := fun i hi => ⟨_, List.getElem?_eq_getElem (by omega)⟩
    obtain ⟨y0, z0⟩ := hs 0 (by decide)
    obtain ⟨n0, e0, _, q0⟩ := DataW.trod_int Tryz.underlying3 (show DataW.trod enc Tryz.prog w b sp hd m 3 [c0] = some y0 from by rw [← z0]; simpa [k_int] using hg 0 (by decide))
    obtain ⟨y1, z1⟩ := hs 1 (by decide)
    obtain ⟨n1, e1, _, q1⟩ := DataW.trod_int Tryz.underlying3 (show DataW.trod enc Tryz.prog w b sp hd m 3 [c1] = some y1 from by rw [← z1]; simpa [k_int] using hg 1 (by decide))
    obtain ⟨y2, z2⟩ := hs 2 (by decide)
    obtain ⟨n2, e2, _, q2⟩ := DataW.trod_int Tryz.underlying3 (show DataW.trod enc Tryz.prog w b sp hd m 3 [c2] = some y2 from by rw [← z2]; simpa [k_int] using hg 2 (by decide))
    obtain ⟨y3, z3⟩ := hs 3 (by decide)
    obtain ⟨n3, e3, _, q3⟩ := DataW.trod_int Tryz.underlying3 (show DataW.trod enc Tryz.prog w b sp hd m 3 [c3] = some y3 from by rw [← z3]; simpa [k_int] using hg 3 (by decide))
    obtain ⟨y4, z4⟩ := hs 4 (by decide)
    obtain ⟨n4, e4, _, q4⟩ := DataW.trod_int Tryz.underlying3 (show DataW.trod enc Tryz.prog w b sp hd m 3 [c4] = some y4 from by rw [← z4]; simpa [k_int] using hg 4 (by decide))
    obtain ⟨y5, z5⟩ := hs 5 (by decide)
    obtain ⟨n5, e5, _, q5⟩ := DataW.trod_int Tryz.underlying3 (show DataW.trod enc Tryz.prog w b sp hd m 3 [c5] = some y5 from by rw [← z5]; simpa [k_int] using hg 5 (by decide))
    cases e0
    cases e1
    cases e2
    cases e3
    cases e4
    cases e5
    exact ⟨⟨n0, n1, n2, n3, n4, n5⟩, rfl, ⟨wf_inI q0, wf_inI q1, wf_inI q2, wf_inI q3, wf_inI q4, wf_inI q5⟩⟩
set_option maxRecDepth 100000 in
theorem Tryz.argI6 {H : Type} {enc : TypeId × Value → H} {w : World} {b b0 : Nat} {sp : Nat → Bool} {hd : Bool} {r : Reach} {v : Value} {d : DataW H} {p : List MemPlace} (hv : Value.okWide Tryz.prog w r b0 67 v) (h : DataW.Trod enc Tryz.prog w b sp hd 67 v d p) : ∃ f : I6, v = .agg f.cells ∧ I6Ok f := by
  simp only [Value.okWide, Tryz.underlying67] at hv
  obtain ⟨cs, rfl, hsz, _⟩ := hv
  obtain ⟨fuel, hf⟩ := h
  have hc : Tryz.prog.cellsOf 67 = 6 := by kernel_rfl
  obtain ⟨f, e, g⟩ := Tryz.elI6 fuel cs.toList _ (by rw [Array.length_toList, hsz, hc]) hf
  exact ⟨f, by rw [Array.toList_inj.1 e], g⟩
end Go.Proofs
