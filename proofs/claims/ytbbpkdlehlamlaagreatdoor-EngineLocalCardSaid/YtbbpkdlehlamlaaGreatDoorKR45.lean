import Derived.Test.YtbbpkdlehlamlaaGreatDoorKR44
import Derived.Test.YtbbpkdlehlamlaaGreatDoorProg
section
namespace Go.Proofs
open Go.Proofs.Tryz
open Go.Wx
theorem Tryz.en10 : En prog 10 := enters_fn func10 kQ rfl
theorem Tryz.en11 : En prog 11 := enters_fn func11 kQ rfl
theorem Tryz.en12 : En prog 12 := enters_fn func12 kQ rfl
theorem Tryz.en13 : En prog 13 := enters_fn func13 kQ rfl
theorem Tryz.en14 : En prog 14 := enters_fn func14 kQ rfl
theorem Tryz.en15 : En prog 15 := enters_fn func15 kQ rfl
theorem Tryz.en16 : En prog 16 := enters_fn func16 kQ rfl
theorem Tryz.en17 : En prog 17 := enters_fn func17 kQ rfl
theorem Tryz.en18 : En prog 18 := enters_fn func18 kQ rfl
theorem Tryz.en21 : En prog 21 := enters_fn func21 kQ rfl
theorem Tryz.en22 : En prog 22 := enters_fn func22 kQ rfl
theorem Tryz.en26 : En prog 26 := enters_fn func26 kQ rfl
theorem Tryz.en29 : En prog 29 := enters_fn func29 kQ rfl
theorem Tryz.en32 : En prog 32 := enters_fn func32 kQ rfl
theorem Tryz.en34 : En prog 34 := enters_fn func34 kQ rfl
theorem Tryz.en35 : En prog 35 := enters_fn func35 kQ rfl
theorem Tryz.en36 : En prog 36 := enters_fn func36 kQ rfl
theorem Tryz.en37 : En prog 37 := enters_fn func37 kQ rfl
theorem Tryz.en38 : En prog 38 := enters_fn func38 kQ rfl
theorem Tryz.en39 : En prog 39 := enters_fn func39 kQ rfl
theorem Tryz.en40 : En prog 40 := enters_fn func40 kQ rfl
theorem Tryz.en41 : En prog 41 := enters_fn func41 kQ rfl
theorem Tryz.en42 : En prog 42 := enters_fn func42 kQ rfl
theorem Tryz.en43 : En prog 43 := enters_fn func43 kQ rfl
theorem Tryz.en44 : En prog 44 := enters_fn func44 kQ rfl
theorem Tryz.en45 : En prog 45 := enters_fn func45 kQ rfl
theorem Tryz.en46 : En prog 46 := enters_fn func46 kQ rfl
theorem Tryz.en48 : En prog 48 := enters_fn func48 kQ rfl
theorem Tryz.en49 : En prog 49 := enters_fn func49 kQ rfl
theorem Tryz.en50 : En prog 50 := enters_fn func50 kQ rfl
theorem Tryz.en51 : En prog 51 := enters_fn func51 kQ rfl
theorem Tryz.en52 : En prog 52 := enters_fn func52 kQ rfl
theorem Tryz.en53 : En prog 53 := enters_fn func53 kQ rfl
theorem Tryz.en54 : En prog 54 := enters_fn func54 kQ rfl
theorem Tryz.en55 : En prog 55 := enters_fn func55 kQ rfl
theorem Tryz.en56 : En prog 56 := enters_fn func56 kQ rfl
theorem Tryz.en57 : En prog 57 := enters_fn func57 kQ rfl
theorem Tryz.en60 : En prog 60 := enters_fn func60 kQ rfl
theorem Tryz.en65 : En prog 65 := enters_fn func65 kQ rfl
theorem Tryz.en66 : En prog 66 := enters_fn func66 kQ rfl
theorem Tryz.en68 : En prog 68 := enters_fn func68 kQ rfl
theorem Tryz.en69 : En prog 69 := enters_fn func69 kQ rfl
theorem Tryz.en70 : En prog 70 := enters_fn func70 kQ rfl
theorem Tryz.en71 : En prog 71 := enters_fn func71 kQ rfl
theorem Tryz.en72 : En prog 72 := enters_fn func72 kQ rfl
theorem Tryz.en73 : En prog 73 := enters_fn func73 kQ rfl
theorem Tryz.en74 : En prog 74 := enters_fn func74 kQ rfl
theorem Tryz.en75 : En prog 75 := enters_fn func75 kQ rfl
theorem Tryz.en76 : En prog 76 := enters_fn func76 kQ rfl
theorem Tryz.en77 : En prog 77 := enters_fn func77 kQ rfl
theorem Tryz.en78 : En prog 78 := enters_fn func78 kQ rfl
theorem Tryz.en79 : En prog 79 := enters_fn func79 kQ rfl
theorem Tryz.en80 : En prog 80 := enters_fn func80 kQ rfl
theorem Tryz.en81 : En prog 81 := enters_fn func81 kQ rfl
theorem Tryz.en82 : En prog 82 := enters_fn func82 kQ rfl
theorem Tryz.en83 : En prog 83 := enters_fn func83 kQ rfl
theorem Tryz.en85 : En prog 85 := enters_fn func85 kQ rfl
theorem Tryz.en86 : En prog 86 := enters_fn func86 kQ rfl
theorem Tryz.en87 : En prog 87 := enters_fn func87 kQ rfl
theorem Tryz.en88 : En prog 88 := enters_fn func88 kQ rfl
theorem Tryz.en89 : En prog 89 := enters_fn func89 kQ rfl
theorem Tryz.en90 : En prog 90 := enters_fn func90 kQ rfl
theorem Tryz.en91 : En prog 91 := enters_fn func91 kQ rfl
theorem Tryz.en92 : En prog 92 := enters_fn func92 kQ rfl
theorem Tryz.en93 : En prog 93 := enters_fn func93 kQ rfl
theorem Tryz.en94 : En prog 94 := enters_fn func94 kQ rfl
theorem Tryz.en95 : En prog 95 := enters_fn func95 kQ rfl
theorem Tryz.en96 : En prog 96 := enters_fn func96 kQ rfl
theorem Tryz.en97 : En prog 97 := enters_fn func97 kQ rfl
theorem Tryz.en98 : En prog 98 := enters_fn func98 kQ rfl
theorem Tryz.en99 : En prog 99 := enters_fn func99 kQ rfl
theorem Tryz.en100 : En prog 100 := enters_fn func100 kQ rfl
theorem Tryz.en101 : En prog 101 := enters_fn func101 kQ rfl
theorem Tryz.en102 : En prog 102 := enters_fn func102 kQ rfl
theorem Tryz.en105 : En prog 105 := enters_fn func105 kQ rfl
theorem Tryz.en106 : En prog 106 := enters_fn func106 kQ rfl
theorem Tryz.en107 : En prog 107 := enters_fn func107 kQ rfl
theorem Tryz.en108 : En prog 108 := enters_fn func108 kQ rfl
theorem Tryz.en111 : En prog 111 := enters_fn func111 kQ rfl
theorem Tryz.en112 : En prog 112 := enters_fn func112 kQ rfl
theorem Tryz.en113 : En prog 113 := enters_fn func113 kQ rfl
theorem Tryz.en114 : En prog 114 := enters_fn func114 kQ rfl
theorem Tryz.en115 : En prog 115 := enters_fn func115 kQ rfl
theorem Tryz.en116 : En prog 116 := enters_fn func116 kQ rfl
theorem Tryz.en117 : En prog 117 := enters_fn func117 kQ rfl
theorem Tryz.en118 : En prog 118 := enters_fn func118 kQ rfl
theorem Tryz.en119 : En prog 119 := enters_fn func119 kQ rfl
theorem Tryz.en120 : En prog 120 := enters_fn func120 kQ rfl
theorem Tryz.en121 : En prog 121 := enters_fn func121 kQ rfl
theorem Tryz.en122 : En prog 122 := enters_fn func122 kQ rfl
theorem Tryz.en123 : En prog 123 := enters_fn func123 kQ rfl
theorem Tryz.en124 : En prog 124 := enters_fn func124 kQ rfl
theorem Tryz.en125 : En prog 125 := enters_fn func125 kQ rfl
theorem Tryz.en126 : En prog 126 := enters_fn func126 kQ rfl
theorem Tryz.en133 : En prog 133 := enters_fn func133 kQ rfl
theorem Tryz.en134 : En prog 134 := enters_fn func134 kQ rfl
theorem Tryz.en135 : En prog 135 := enters_fn func135 kQ rfl
theorem Tryz.en136 : En prog 136 := enters_fn func136 kQ rfl
theorem Tryz.en137 : En prog 137 := enters_fn func137 kQ rfl
theorem Tryz.en138 : En prog 138 := enters_fn func138 kQ rfl
theorem Tryz.en139 : En prog 139 := enters_fn func139 kQ rfl
theorem Tryz.en140 : En prog 140 := enters_fn func140 kQ rfl
theorem Tryz.en141 : En prog 141 := enters_fn func141 kQ rfl
theorem Tryz.en142 : En prog 142 := enters_fn func142 kQ rfl
theorem Tryz.en143 : En prog 143 := enters_fn func143 kQ rfl
theorem Tryz.en144 : En prog 144 := enters_fn func144 kQ rfl
theorem Tryz.en145 : En prog 145 := enters_fn func145 kQ rfl
theorem Tryz.en146 : En prog 146 := enters_fn func146 kQ rfl
theorem Tryz.en147 : En prog 147 := enters_fn func147 kQ rfl
theorem Tryz.en148 : En prog 148 := enters_fn func148 kQ rfl
theorem Tryz.en149 : En prog 149 := enters_fn func149 kQ rfl
theorem Tryz.en150 : En prog 150 := enters_fn func150 kQ rfl
theorem Tryz.en151 : En prog 151 := enters_fn func151 kQ rfl
theorem Tryz.en152 : En prog 152 := enters_fn func152 kQ rfl
theorem Tryz.en153 : En prog 153 := enters_fn func153 kQ rfl
theorem Tryz.en154 : En prog 154 := enters_fn func154 kQ rfl
theorem Tryz.en155 : En prog 155 := enters_fn func155 kQ rfl
theorem Tryz.en156 : En prog 156 := enters_fn func156 kQ rfl
theorem Tryz.en157 : En prog 157 := enters_fn func157 kQ rfl
theorem Tryz.en158 : En prog 158 := enters_fn func158 kQ rfl
theorem Tryz.en159 : En prog 159 := enters_fn func159 kQ rfl
theorem Tryz.en160 : En prog 160 := enters_fn func160 kQ rfl
theorem Tryz.en161 : En prog 161 := enters_fn func161 kQ rfl
theorem Tryz.en162 : En prog 162 := enters_fn func162 kQ rfl
theorem Tryz.en163 : En prog 163 := enters_fn func163 kQ rfl
theorem Tryz.en164 : En prog 164 := enters_fn func164 kQ rfl
theorem Tryz.en165 : En prog 165 := enters_fn func165 kQ rfl
theorem Tryz.en168 : En prog 168 := enters_fn func168 kQ rfl
theorem Tryz.en169 : En prog 169 := enters_fn func169 kQ rfl
theorem Tryz.en170 : En prog 170 := enters_fn func170 kQ rfl
theorem Tryz.en171 : En prog 171 := enters_fn func171 kQ rfl
theorem Tryz.en172 : En prog 172 := enters_fn func172 kQ rfl
theorem Tryz.en173 : En prog 173 := enters_fn func173 kQ rfl
theorem Tryz.en174 : En prog 174 := enters_fn func174 kQ rfl
theorem Tryz.en175 : En prog 175 := enters_fn func175 kQ rfl
theorem Tryz.en176 : En prog 176 := enters_fn func176 kQ rfl
theorem Tryz.en177 : En prog 177 := enters_fn func177 kQ rfl
theorem Tryz.en178 : En prog 178 := enters_fn func178 kQ rfl
theorem Tryz.en179 : En prog 179 := enters_fn func179 kQ rfl
theorem Tryz.en180 : En prog 180 := enters_fn func180 kQ rfl
theorem Tryz.en208 : En prog 208 := enters_fn func208 kQ rfl
theorem Tryz.en209 : En prog 209 := enters_fn func209 kQ rfl
theorem Tryz.en210 : En prog 210 := enters_fn func210 kQ rfl
theorem Tryz.en211 : En prog 211 := enters_fn func211 kQ rfl
theorem Tryz.en212 : En prog 212 := enters_fn func212 kQ rfl
theorem Tryz.en213 : En prog 213 := enters_fn func213 kQ rfl
theorem Tryz.en214 : En prog 214 := enters_fn func214 kQ rfl
theorem Tryz.en215 : En prog 215 := enters_fn func215 kQ rfl
theorem Tryz.en216 : En prog 216 := enters_fn func216 kQ rfl
theorem Tryz.en217 : En prog 217 := enters_fn func217 kQ rfl
theorem Tryz.en218 : En prog 218 := enters_fn func218 kQ rfl
theorem Tryz.en238 : En prog 238 := enters_fn func238 kQ rfl
theorem Tryz.en239 : En prog 239 := enters_fn func239 kQ rfl
theorem Tryz.en240 : En prog 240 := enters_fn func240 kQ rfl
theorem Tryz.en243 : En prog 243 := enters_fn func243 kQ rfl
theorem Tryz.en244 : En prog 244 := enters_fn func244 kQ rfl
theorem Tryz.places24 (w : World) : (placesOf 24).run prog w = .ok #[(0, 1), (1, 1), (2, 1), (3, 1), (4, 1), (5, 1), (6, 1), (7, 1), (8, 1), (9, 1), (10, 1), (11, 1), (12, 1), (13, 1), (14, 1), (15, 1), (16, 1), (17, 1), (18, 1)] w := by kernel_rfl
theorem Tryz.places45 (w : World) : (placesOf 45).run prog w = .ok #[(0, 1), (1, 1)] w := by kernel_rfl
theorem Tryz.places48 (w : World) : (placesOf 48).run prog w = .ok #[(0, 1), (1, 2), (3, 2), (5, 1)] w := by kernel_rfl
theorem Tryz.places80 (w : World) : (placesOf 80).run prog w = .ok #[(0, 1), (1, 11), (12, 1), (13, 1)] w := by kernel_rfl
theorem Tryz.places84 (w : World) : (placesOf 84).run prog w = .ok #[] w := by kernel_rfl
theorem Tryz.places92 (w : World) : (placesOf 92).run prog w = .ok #[(0, 1), (1, 1)] w := by kernel_rfl
theorem Tryz.places96 (w : World) : (placesOf 96).run prog w = .ok #[(0, 1), (1, 1), (2, 1)] w := by kernel_rfl
theorem Tryz.places99 (w : World) : (placesOf 99).run prog w = .ok #[(0, 11), (11, 1), (12, 1), (13, 1)] w := by kernel_rfl
theorem Tryz.places124 (w : World) : (placesOf 124).run prog w = .ok #[(0, 1), (1, 1)] w := by kernel_rfl
theorem Tryz.places137 (w : World) : (placesOf 137).run prog w = .ok #[(0, 2)] w := by kernel_rfl
theorem Tryz.places145 (w : World) : (placesOf 145).run prog w = .ok #[(0, 1), (1, 1), (2, 1), (3, 1)] w := by kernel_rfl
theorem Tryz.places196 (w : World) : (placesOf 196).run prog w = .ok #[(0, 1), (1, 1), (2, 1)] w := by kernel_rfl
theorem Tryz.places216 (w : World) : (placesOf 216).run prog w = .ok #[(0, 1), (1, 1)] w := by kernel_rfl
end Go.Proofs
end
section
namespace Go.Proofs
open Go.Proofs.Tryz
open Go.Wx Go.ChangeShapes Go.WideShapes Go.RowKit
theorem Tryz.elI6 {H : Type} {enc : TypeId × Value → H} {w : World} {b : Nat} {sp : Nat → Bool} {hd : Bool} (n : Nat) (cs : List Value) (x : DataW H × List MemPlace) (hl : cs.length = 6) (h : DataW.trod enc prog w b sp hd n 75 cs = some x) : ∃ f : I6, cs = f.cells.toList ∧ I6Ok f := by
 have k_int : prog.cellsOf 3 = 1 := by kernel_rfl
 match cs, hl with
 | [c0, c1, c2, c3, c4, c5], _ =>
   obtain ⟨xs, m, _, _, _, hlen, hg⟩ := DataW.trod_array underlying75 h
   have hs : ∀ i, i < 6 → ∃ y, xs[i]? = some y := fun i hi => ⟨_, List.getElem?_eq_getElem oQ⟩
   obtain ⟨y0, z0⟩ := hs 0 cQ
   obtain ⟨n0, e0, _, q0⟩ := DataW.trod_int underlying3 (show DataW.trod enc prog w b sp hd m 3 [c0] = some y0 from by rw [← z0]; simpa [k_int] using hg 0 cQ)
   obtain ⟨y1, z1⟩ := hs 1 cQ
   obtain ⟨n1, e1, _, q1⟩ := DataW.trod_int underlying3 (show DataW.trod enc prog w b sp hd m 3 [c1] = some y1 from by rw [← z1]; simpa [k_int] using hg 1 cQ)
   obtain ⟨y2, z2⟩ := hs 2 cQ
   obtain ⟨n2, e2, _, q2⟩ := DataW.trod_int underlying3 (show DataW.trod enc prog w b sp hd m 3 [c2] = some y2 from by rw [← z2]; simpa [k_int] using hg 2 cQ)
   obtain ⟨y3, z3⟩ := hs 3 cQ
   obtain ⟨n3, e3, _, q3⟩ := DataW.trod_int underlying3 (show DataW.trod enc prog w b sp hd m 3 [c3] = some y3 from by rw [← z3]; simpa [k_int] using hg 3 cQ)
   obtain ⟨y4, z4⟩ := hs 4 cQ
   obtain ⟨n4, e4, _, q4⟩ := DataW.trod_int underlying3 (show DataW.trod enc prog w b sp hd m 3 [c4] = some y4 from by rw [← z4]; simpa [k_int] using hg 4 cQ)
   obtain ⟨y5, z5⟩ := hs 5 cQ
   obtain ⟨n5, e5, _, q5⟩ := DataW.trod_int underlying3 (show DataW.trod enc prog w b sp hd m 3 [c5] = some y5 from by rw [← z5]; simpa [k_int] using hg 5 cQ)
   cases e0
   cases e1
   cases e2
   cases e3
   cases e4
   cases e5
   exact ⟨⟨n0, n1, n2, n3, n4, n5⟩, rfl, ⟨wf_inI q0, wf_inI q1, wf_inI q2, wf_inI q3, wf_inI q4, wf_inI q5⟩⟩
theorem Tryz.elFact {H : Type} {enc : TypeId × Value → H} {w : World} {b : Nat} {sp : Nat → Bool} {hd : Bool} (n : Nat) (cs : List Value) (x : DataW H × List MemPlace) (hl : cs.length = 19) (h : DataW.trod enc prog w b sp hd n 24 cs = some x) : ∃ f : Fact, cs = f.cells.toList ∧ FOk f := by
 have k_bool : prog.cellsOf 4 = 1 := by kernel_rfl
 have k_int : prog.cellsOf 3 = 1 := by kernel_rfl
 have k_string : prog.cellsOf 9 = 1 := by kernel_rfl
 match cs, hl with
 | [c0, c1, c2, c3, c4, c5, c6, c7, c8, c9, c10, c11, c12, c13, c14, c15, c16, c17, c18], _ =>
   obtain ⟨xs, n, _, hx, _, hlen, hg⟩ := DataW.trod_struct underlying24 h
   match xs, hlen with
   | [y0, y1, y2, y3, y4, y5, y6, y7, y8, y9, y10, y11, y12, y13, y14, y15, y16, y17, y18], _ =>
     obtain ⟨n0, e0, _, q0⟩ := DataW.trod_int underlying3 (show DataW.trod enc prog w b sp hd n 3 [c0] = some y0 from by simpa [k_int] using hg 0 _ rfl)
     obtain ⟨n1, e1, _, q1⟩ := DataW.trod_int underlying3 (show DataW.trod enc prog w b sp hd n 3 [c1] = some y1 from by simpa [k_int] using hg 1 _ rfl)
     obtain ⟨n2, e2, _, q2⟩ := DataW.trod_int underlying3 (show DataW.trod enc prog w b sp hd n 3 [c2] = some y2 from by simpa [k_int] using hg 2 _ rfl)
     obtain ⟨n3, e3, _, q3⟩ := DataW.trod_int underlying3 (show DataW.trod enc prog w b sp hd n 3 [c3] = some y3 from by simpa [k_int] using hg 3 _ rfl)
     obtain ⟨n4, e4, _⟩ := DataW.trod_bool underlying4 (show DataW.trod enc prog w b sp hd n 4 [c4] = some y4 from by simpa [k_bool] using hg 4 _ rfl)
     obtain ⟨n5, e5, _, q5⟩ := DataW.trod_int underlying3 (show DataW.trod enc prog w b sp hd n 3 [c5] = some y5 from by simpa [k_int] using hg 5 _ rfl)
     obtain ⟨n6, e6, _, q6⟩ := DataW.trod_int underlying3 (show DataW.trod enc prog w b sp hd n 3 [c6] = some y6 from by simpa [k_int] using hg 6 _ rfl)
     obtain ⟨n7, e7, _, q7⟩ := DataW.trod_int underlying3 (show DataW.trod enc prog w b sp hd n 3 [c7] = some y7 from by simpa [k_int] using hg 7 _ rfl)
     obtain ⟨n8, e8, _, q8⟩ := DataW.trod_int underlying3 (show DataW.trod enc prog w b sp hd n 3 [c8] = some y8 from by simpa [k_int] using hg 8 _ rfl)
     obtain ⟨n9, e9, _, q9⟩ := DataW.trod_int underlying3 (show DataW.trod enc prog w b sp hd n 3 [c9] = some y9 from by simpa [k_int] using hg 9 _ rfl)
     obtain ⟨n10, e10, _, q10⟩ := DataW.trod_int underlying3 (show DataW.trod enc prog w b sp hd n 3 [c10] = some y10 from by simpa [k_int] using hg 10 _ rfl)
     obtain ⟨n11, e11, _, q11⟩ := DataW.trod_int underlying3 (show DataW.trod enc prog w b sp hd n 3 [c11] = some y11 from by simpa [k_int] using hg 11 _ rfl)
     obtain ⟨n12, e12, _, q12⟩ := DataW.trod_int underlying3 (show DataW.trod enc prog w b sp hd n 3 [c12] = some y12 from by simpa [k_int] using hg 12 _ rfl)
     obtain ⟨n13, e13, _, q13⟩ := DataW.trod_int underlying3 (show DataW.trod enc prog w b sp hd n 3 [c13] = some y13 from by simpa [k_int] using hg 13 _ rfl)
     obtain ⟨n14, e14, _, q14⟩ := DataW.trod_int underlying3 (show DataW.trod enc prog w b sp hd n 3 [c14] = some y14 from by simpa [k_int] using hg 14 _ rfl)
     obtain ⟨n15, e15, _, q15⟩ := DataW.trod_int underlying3 (show DataW.trod enc prog w b sp hd n 3 [c15] = some y15 from by simpa [k_int] using hg 15 _ rfl)
     obtain ⟨n16, e16, _, q16⟩ := DataW.trod_int underlying3 (show DataW.trod enc prog w b sp hd n 3 [c16] = some y16 from by simpa [k_int] using hg 16 _ rfl)
     obtain ⟨n17, e17, _, q17⟩ := DataW.trod_int underlying3 (show DataW.trod enc prog w b sp hd n 3 [c17] = some y17 from by simpa [k_int] using hg 17 _ rfl)
     obtain ⟨n18, e18, _, s18⟩ := DataW.trod_string underlying9 (show DataW.trod enc prog w b sp hd n 9 [c18] = some y18 from by simpa [k_string] using hg 18 _ rfl)
     cases e0
     cases e1
     cases e2
     cases e3
     cases e4
     cases e5
     cases e6
     cases e7
     cases e8
     cases e9
     cases e10
     cases e11
     cases e12
     cases e13
     cases e14
     cases e15
     cases e16
     cases e17
     cases e18
     exact ⟨⟨n0, n1, n2, n3, n4, n5, n6, n7, n8, n9, n10, n11, n12, n13, n14, n15, n16, n17, n18⟩, rfl, ⟨wf_inI q0, wf_inI q1, wf_inI q2, wf_inI q3, wf_inI q5, wf_inI q6, wf_inI q7, wf_inI q8, wf_inI q9, wf_inI q10, wf_inI q11, wf_inI q12, wf_inI q13, wf_inI q14, wf_inI q15, wf_inI q16, wf_inI q17, s18⟩⟩
set_option maxRecDepth 100000 in
theorem Tryz.argFact {H : Type} {enc : TypeId × Value → H} {w : World} {b b0 : Nat} {sp : Nat → Bool} {hd : Bool} {r : Reach} {v : Value} {d : DataW H} {p : List MemPlace} (hv : Value.okWide prog w r b0 24 v) (h : DataW.Trod enc prog w b sp hd 24 v d p) : ∃ f : Fact, v = .agg f.cells ∧ FOk f := by
 obtain ⟨cs, rfl, hsz⟩ := okWide_struct underlying24 hv
 obtain ⟨fuel, hf⟩ := h
 have hc : prog.cellsOf 24 = 19 := by kernel_rfl
 obtain ⟨f, e, g⟩ := Tryz.elFact fuel cs.toList _ (by rw [Array.length_toList, hsz, hc]) hf
 exact ⟨f, by rw [Array.toList_inj.1 e], g⟩
end Go.Proofs
end
