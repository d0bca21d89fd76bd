import Derived.Test.YtdelcaegofkknaaGreatOgb
import Derived.Test.YtdelcaegofkknaaGreatIa
import Derived.Test.YtdelcaegofkknaaGreatNums
namespace Go.Proofs
open Go.Wx Go.ChangeShapes Go.WideShapes Go.RowKit
theorem Tryz.elFact {H : Type} {enc : TypeId × Value → H} {w : World} {b : Nat} {sp : Nat → Bool} {hd : Bool} (n : Nat) (cs : List Value) (x : DataW H × List MemPlace) (hl : cs.length = 19) (h : DataW.trod enc Tryz.prog w b sp hd n 35 cs = some x) : ∃ f : Fact, cs = f.cells.toList ∧ FOk f := by
  have k_bool : Tryz.prog.cellsOf 4 = 1 := by kernel_rfl
  have k_int : Tryz.prog.cellsOf 3 = 1 := by kernel_rfl
  have k_string : Tryz.prog.cellsOf 9 = 1 := by kernel_rfl
  match cs, hl with
  | [c0, c1, c2, c3, c4, c5, c6, c7, c8, c9, c10, c11, c12, c13, c14, c15, c16, c17, c18], _ =>
    obtain ⟨xs, n, _, hx, _, hlen, hg⟩ := DataW.trod_struct Tryz.underlying35 h
    match xs, hlen with
    | [y0, y1, y2, y3, y4, y5, y6, y7, y8, y9, y10, y11, y12, y13, y14, y15, y16, y17, y18], _ =>
      obtain ⟨n0, e0, _, q0⟩ := DataW.trod_int Tryz.underlying3 (show DataW.trod enc Tryz.prog w b sp hd n 3 [c0] = some y0 from by simpa [k_int] using hg 0 _ rfl)
      obtain ⟨n1, e1, _, q1⟩ := DataW.trod_int Tryz.underlying3 (show DataW.trod enc Tryz.prog w b sp hd n 3 [c1] = some y1 from by simpa [k_int] using hg 1 _ rfl)
      obtain ⟨n2, e2, _, q2⟩ := DataW.trod_int Tryz.underlying3 (show DataW.trod enc Tryz.prog w b sp hd n 3 [c2] = some y2 from by simpa [k_int] using hg 2 _ rfl)
      obtain ⟨n3, e3, _, q3⟩ := DataW.trod_int Tryz.underlying3 (show DataW.trod enc Tryz.prog w b sp hd n 3 [c3] = some y3 from by simpa [k_int] using hg 3 _ rfl)
      obtain ⟨n4, e4, _⟩ := DataW.trod_bool Tryz.underlying4 (show DataW.trod enc Tryz.prog w b sp hd n 4 [c4] = some y4 from by simpa [k_bool] using hg 4 _ rfl)
      obtain ⟨n5, e5, _, q5⟩ := DataW.trod_int Tryz.underlying3 (show DataW.trod enc Tryz.prog w b sp hd n 3 [c5] = some y5 from by simpa [k_int] using hg 5 _ rfl)
      obtain ⟨n6, e6, _, q6⟩ := DataW.trod_int Tryz.underlying3 (show DataW.trod enc Tryz.prog w b sp hd n 3 [c6] = some y6 from by simpa [k_int] using hg 6 _ rfl)
      obtain ⟨n7, e7, _, q7⟩ := DataW.trod_int Tryz.underlying3 (show DataW.trod enc Tryz.prog w b sp hd n 3 [c7] = some y7 from by simpa [k_int] using hg 7 _ rfl)
      obtain ⟨n8, e8, _, q8⟩ := DataW.trod_int Tryz.underlying3 (show DataW.trod enc Tryz.prog w b sp hd n 3 [c8] = some y8 from by simpa [k_int] using hg 8 _ rfl)
      obtain ⟨n9, e9, _, q9⟩ := DataW.trod_int Tryz.underlying3 (show DataW.trod enc Tryz.prog w b sp hd n 3 [c9] = some y9 from by simpa [k_int] using hg 9 _ rfl)
      obtain ⟨n10, e10, _, q10⟩ := DataW.trod_int Tryz.underlying3 (show DataW.trod enc Tryz.prog w b sp hd n 3 [c10] = some y10 from by simpa [k_int] using hg 10 _ rfl)
      obtain ⟨n11, e11, _, q11⟩ := DataW.trod_int Tryz.underlying3 (show DataW.trod enc Tryz.prog w b sp hd n 3 [c11] = some y11 from by simpa [k_int] using hg 11 _ rfl)
      obtain ⟨n12, e12, _, q12⟩ := DataW.trod_int Tryz.underlying3 (show DataW.trod enc Tryz.prog w b sp hd n 3 [c12] = some y12 from by simpa [k_int] using hg 12 _ rfl)
      obtain ⟨n13, e13, _, q13⟩ := DataW.trod_int Tryz.underlying3 (show DataW.trod enc Tryz.prog w b sp hd n 3 [c13] = some y13 from by simpa [k_int] using hg 13 _ rfl)
      obtain ⟨n14, e14, _, q14⟩ := DataW.trod_int Tryz.underlying3 (show DataW.trod enc Tryz.prog w b sp hd n 3 [c14] = some y14 from by simpa [k_int] using hg 14 _ rfl)
      obtain ⟨n15, e15, _, q15⟩ := DataW.trod_int Tryz.underlying3 (show DataW.trod enc Tryz.prog w b sp hd n 3 [c15] = some y15 from by simpa [k_int] using hg 15 _ rfl)
      obtain ⟨n16, e16, _, q16⟩ := DataW.trod_int Tryz.underlying3 (show DataW.trod enc Tryz.prog w b sp hd n 3 [c16] = some y16 from by simpa [k_int] using hg 16 _ rfl)
      obtain ⟨n17, e17, _, q17⟩ := DataW.trod_int Tryz.underlying3 (show DataW.trod enc Tryz.prog w b sp hd n 3 [c17] = some y17 from by simpa [k_int] using hg 17 _ rfl)
      obtain ⟨n18, e18, _, s18⟩ := DataW.trod_string Tryz.underlying9 (show DataW.trod enc Tryz.prog w b sp hd n 9 [c18] = some y18 from by simpa [k_string] using hg 18 _ rfl)
      cases e0
      cases e1
      cases e2
      cases e3
      cases e4
      cases e5
      cases e6
      cases e7
      cases e8
      cases e9
      cases e10
      cases e11
      cases e12
      cases e13
      cases e14
      cases e15
      cases e16
      cases e17
      cases e18
      exact ⟨⟨n0, n1, n2, n3, n4, n5, n6, n7, n8, n9, n10, n11, n12, n13, n14, n15, n16, n17, n18⟩, rfl, ⟨wf_inI q0, wf_inI q1, wf_inI q2, wf_inI q3, wf_inI q5, wf_inI q6, wf_inI q7, wf_inI q8, wf_inI q9, wf_inI q10, wf_inI q11, wf_inI q12, wf_inI q13, wf_inI q14, wf_inI q15, wf_inI q16, wf_inI q17, s18⟩⟩
set_option maxRecDepth 100000 in
theorem Tryz.argFact {H : Type} {enc : TypeId × Value → H} {w : World} {b b0 : Nat} {sp : Nat → Bool} {hd : Bool} {r : Reach} {v : Value} {d : DataW H} {p : List MemPlace} (hv : Value.okWide Tryz.prog w r b0 35 v) (h : DataW.Trod enc Tryz.prog w b sp hd 35 v d p) : ∃ f : Fact, v = .agg f.cells ∧ FOk f := by
  obtain ⟨cs, rfl, hsz⟩ := okWide_struct Tryz.underlying35 hv
  obtain ⟨fuel, hf⟩ := h
  have hc : Tryz.prog.cellsOf 35 = 19 := by kernel_rfl
  obtain ⟨f, e, g⟩ := Tryz.elFact fuel cs.toList _ (by rw [Array.length_toList, hsz, hc]) hf
  exact ⟨f, by rw [Array.toList_inj.1 e], g⟩
theorem Tryz.elI5 {H : Type} {enc : TypeId × Value → H} {w : World} {b : Nat} {sp : Nat → Bool} {hd : Bool} (n : Nat) (cs : List Value) (x : DataW H × List MemPlace) (hl : cs.length = 5) (h : DataW.trod enc Tryz.prog w b sp hd n 31 cs = some x) : ∃ f : I5, cs = f.cells.toList ∧ I5Ok f := by
  have k_int : Tryz.prog.cellsOf 3 = 1 := by kernel_rfl
  match cs, hl with
  | [c0, c1, c2, c3, c4], _ =>
    obtain ⟨xs, m, _, _, _, hlen, hg⟩ := DataW.trod_array Tryz.underlying31 h
    have hs : ∀ i, i < 5 → ∃ y, xs[i]? = some y := fun i hi => ⟨_, List.getElem?_eq_getElem (by omega)⟩
    obtain ⟨y0, z0⟩ := hs 0 (by decide)
    obtain ⟨n0, e0, _, q0⟩ := DataW.trod_int Tryz.underlying3 (show DataW.trod enc Tryz.prog w b sp hd m 3 [c0] = some y0 from by rw [← z0]; simpa [k_int] using hg 0 (by decide))
    obtain ⟨y1, z1⟩ := hs 1 (by decide)
    obtain ⟨n1, e1, _, q1⟩ := DataW.trod_int Tryz.underlying3 (show DataW.trod enc Tryz.prog w b sp hd m 3 [c1] = some y1 from by rw [← z1]; simpa [k_int] using hg 1 (by decide))
    obtain ⟨y2, z2⟩ := hs 2 (by decide)
    obtain ⟨n2, e2, _, q2⟩ := DataW.trod_int Tryz.underlying3 (show DataW.trod enc Tryz.prog w b sp hd m 3 [c2] = some y2 from by rw [← z2]; simpa [k_int] using hg 2 (by decide))
    obtain ⟨y3, z3⟩ := hs 3 (by decide)
    obtain ⟨n3, e3, _, q3⟩ := DataW.trod_int Tryz.underlying3 (show DataW.trod enc Tryz.prog w b sp hd m 3 [c3] = some y3 from by rw [← z3]; simpa [k_int] using hg 3 (by decide))
    obtain ⟨y4, z4⟩ := hs 4 (by decide)
    obtain ⟨n4, e4, _, q4⟩ := DataW.trod_int Tryz.underlying3 (show DataW.trod enc Tryz.prog w b sp hd m 3 [c4] = some y4 from by rw [← z4]; simpa [k_int] using hg 4 (by decide))
    cases e0
    cases e1
    cases e2
    cases e3
    cases e4
    exact ⟨⟨n0, n1, n2, n3, n4⟩, rfl, ⟨wf_inI q0, wf_inI q1, wf_inI q2, wf_inI q3, wf_inI q4⟩⟩
set_option maxRecDepth 100000 in
theorem Tryz.argI5 {H : Type} {enc : TypeId × Value → H} {w : World} {b b0 : Nat} {sp : Nat → Bool} {hd : Bool} {r : Reach} {v : Value} {d : DataW H} {p : List MemPlace} (hv : Value.okWide Tryz.prog w r b0 31 v) (h : DataW.Trod enc Tryz.prog w b sp hd 31 v d p) : ∃ f : I5, v = .agg f.cells ∧ I5Ok f := by
  simp only [Value.okWide, Tryz.underlying31] at hv
  obtain ⟨cs, rfl, hsz, _⟩ := hv
  obtain ⟨fuel, hf⟩ := h
  have hc : Tryz.prog.cellsOf 31 = 5 := by kernel_rfl
  obtain ⟨f, e, g⟩ := Tryz.elI5 fuel cs.toList _ (by rw [Array.length_toList, hsz, hc]) hf
  exact ⟨f, by rw [Array.toList_inj.1 e], g⟩
end Go.Proofs
