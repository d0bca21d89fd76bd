import Derived.Test.YtbbpkdlehlamlaaGreatDoorKR34
import Derived.Test.YtbbpkdlehlamlaaGreatDoorProg
section
namespace Go.Proofs
open Go.Proofs.Tryz
open Go.Wx
theorem Tryz.en10 : En Tryz.prog 10 := enters_fn func10 kQ rfl
theorem Tryz.en11 : En Tryz.prog 11 := enters_fn func11 kQ rfl
theorem Tryz.en12 : En Tryz.prog 12 := enters_fn func12 kQ rfl
theorem Tryz.en13 : En Tryz.prog 13 := enters_fn func13 kQ rfl
theorem Tryz.en14 : En Tryz.prog 14 := enters_fn func14 kQ rfl
theorem Tryz.en16 : En Tryz.prog 16 := enters_fn func16 kQ rfl
theorem Tryz.en17 : En Tryz.prog 17 := enters_fn func17 kQ rfl
theorem Tryz.en18 : En Tryz.prog 18 := enters_fn func18 kQ rfl
theorem Tryz.en19 : En Tryz.prog 19 := enters_fn func19 kQ rfl
theorem Tryz.en21 : En Tryz.prog 21 := enters_fn func21 kQ rfl
theorem Tryz.en22 : En Tryz.prog 22 := enters_fn func22 kQ rfl
theorem Tryz.en23 : En Tryz.prog 23 := enters_fn func23 kQ rfl
theorem Tryz.en26 : En Tryz.prog 26 := enters_fn func26 kQ rfl
theorem Tryz.en27 : En Tryz.prog 27 := enters_fn func27 kQ rfl
theorem Tryz.en29 : En Tryz.prog 29 := enters_fn func29 kQ rfl
theorem Tryz.en32 : En Tryz.prog 32 := enters_fn func32 kQ rfl
theorem Tryz.en33 : En Tryz.prog 33 := enters_fn func33 kQ rfl
theorem Tryz.en34 : En Tryz.prog 34 := enters_fn func34 kQ rfl
theorem Tryz.en35 : En Tryz.prog 35 := enters_fn func35 kQ rfl
theorem Tryz.en36 : En Tryz.prog 36 := enters_fn func36 kQ rfl
theorem Tryz.en37 : En Tryz.prog 37 := enters_fn func37 kQ rfl
theorem Tryz.en38 : En Tryz.prog 38 := enters_fn func38 kQ rfl
theorem Tryz.en39 : En Tryz.prog 39 := enters_fn func39 kQ rfl
theorem Tryz.en40 : En Tryz.prog 40 := enters_fn func40 kQ rfl
theorem Tryz.en41 : En Tryz.prog 41 := enters_fn func41 kQ rfl
theorem Tryz.en42 : En Tryz.prog 42 := enters_fn func42 kQ rfl
theorem Tryz.en43 : En Tryz.prog 43 := enters_fn func43 kQ rfl
theorem Tryz.en44 : En Tryz.prog 44 := enters_fn func44 kQ rfl
theorem Tryz.en45 : En Tryz.prog 45 := enters_fn func45 kQ rfl
theorem Tryz.en46 : En Tryz.prog 46 := enters_fn func46 kQ rfl
theorem Tryz.en48 : En Tryz.prog 48 := enters_fn func48 kQ rfl
theorem Tryz.en49 : En Tryz.prog 49 := enters_fn func49 kQ rfl
theorem Tryz.en50 : En Tryz.prog 50 := enters_fn func50 kQ rfl
theorem Tryz.en51 : En Tryz.prog 51 := enters_fn func51 kQ rfl
theorem Tryz.en52 : En Tryz.prog 52 := enters_fn func52 kQ rfl
theorem Tryz.en53 : En Tryz.prog 53 := enters_fn func53 kQ rfl
theorem Tryz.en54 : En Tryz.prog 54 := enters_fn func54 kQ rfl
theorem Tryz.en55 : En Tryz.prog 55 := enters_fn func55 kQ rfl
theorem Tryz.en56 : En Tryz.prog 56 := enters_fn func56 kQ rfl
theorem Tryz.en57 : En Tryz.prog 57 := enters_fn func57 kQ rfl
theorem Tryz.en60 : En Tryz.prog 60 := enters_fn func60 kQ rfl
theorem Tryz.en61 : En Tryz.prog 61 := enters_fn func61 kQ rfl
theorem Tryz.en65 : En Tryz.prog 65 := enters_fn func65 kQ rfl
theorem Tryz.en66 : En Tryz.prog 66 := enters_fn func66 kQ rfl
theorem Tryz.en68 : En Tryz.prog 68 := enters_fn func68 kQ rfl
theorem Tryz.en69 : En Tryz.prog 69 := enters_fn func69 kQ rfl
theorem Tryz.en70 : En Tryz.prog 70 := enters_fn func70 kQ rfl
theorem Tryz.en71 : En Tryz.prog 71 := enters_fn func71 kQ rfl
theorem Tryz.en72 : En Tryz.prog 72 := enters_fn func72 kQ rfl
theorem Tryz.en73 : En Tryz.prog 73 := enters_fn func73 kQ rfl
theorem Tryz.en74 : En Tryz.prog 74 := enters_fn func74 kQ rfl
theorem Tryz.en75 : En Tryz.prog 75 := enters_fn func75 kQ rfl
theorem Tryz.en76 : En Tryz.prog 76 := enters_fn func76 kQ rfl
theorem Tryz.en77 : En Tryz.prog 77 := enters_fn func77 kQ rfl
theorem Tryz.en78 : En Tryz.prog 78 := enters_fn func78 kQ rfl
theorem Tryz.en79 : En Tryz.prog 79 := enters_fn func79 kQ rfl
theorem Tryz.en80 : En Tryz.prog 80 := enters_fn func80 kQ rfl
theorem Tryz.en81 : En Tryz.prog 81 := enters_fn func81 kQ rfl
theorem Tryz.en82 : En Tryz.prog 82 := enters_fn func82 kQ rfl
theorem Tryz.en83 : En Tryz.prog 83 := enters_fn func83 kQ rfl
theorem Tryz.en85 : En Tryz.prog 85 := enters_fn func85 kQ rfl
theorem Tryz.en86 : En Tryz.prog 86 := enters_fn func86 kQ rfl
theorem Tryz.en87 : En Tryz.prog 87 := enters_fn func87 kQ rfl
theorem Tryz.en88 : En Tryz.prog 88 := enters_fn func88 kQ rfl
theorem Tryz.en89 : En Tryz.prog 89 := enters_fn func89 kQ rfl
theorem Tryz.en90 : En Tryz.prog 90 := enters_fn func90 kQ rfl
theorem Tryz.en91 : En Tryz.prog 91 := enters_fn func91 kQ rfl
theorem Tryz.en92 : En Tryz.prog 92 := enters_fn func92 kQ rfl
theorem Tryz.en93 : En Tryz.prog 93 := enters_fn func93 kQ rfl
theorem Tryz.en94 : En Tryz.prog 94 := enters_fn func94 kQ rfl
theorem Tryz.en95 : En Tryz.prog 95 := enters_fn func95 kQ rfl
theorem Tryz.en96 : En Tryz.prog 96 := enters_fn func96 kQ rfl
theorem Tryz.en97 : En Tryz.prog 97 := enters_fn func97 kQ rfl
theorem Tryz.en98 : En Tryz.prog 98 := enters_fn func98 kQ rfl
theorem Tryz.en99 : En Tryz.prog 99 := enters_fn func99 kQ rfl
theorem Tryz.en100 : En Tryz.prog 100 := enters_fn func100 kQ rfl
theorem Tryz.en101 : En Tryz.prog 101 := enters_fn func101 kQ rfl
theorem Tryz.en102 : En Tryz.prog 102 := enters_fn func102 kQ rfl
theorem Tryz.en105 : En Tryz.prog 105 := enters_fn func105 kQ rfl
theorem Tryz.en106 : En Tryz.prog 106 := enters_fn func106 kQ rfl
theorem Tryz.en107 : En Tryz.prog 107 := enters_fn func107 kQ rfl
theorem Tryz.en108 : En Tryz.prog 108 := enters_fn func108 kQ rfl
theorem Tryz.en111 : En Tryz.prog 111 := enters_fn func111 kQ rfl
theorem Tryz.en112 : En Tryz.prog 112 := enters_fn func112 kQ rfl
theorem Tryz.en113 : En Tryz.prog 113 := enters_fn func113 kQ rfl
theorem Tryz.en114 : En Tryz.prog 114 := enters_fn func114 kQ rfl
theorem Tryz.en115 : En Tryz.prog 115 := enters_fn func115 kQ rfl
theorem Tryz.en116 : En Tryz.prog 116 := enters_fn func116 kQ rfl
theorem Tryz.en117 : En Tryz.prog 117 := enters_fn func117 kQ rfl
theorem Tryz.en118 : En Tryz.prog 118 := enters_fn func118 kQ rfl
theorem Tryz.en119 : En Tryz.prog 119 := enters_fn func119 kQ rfl
theorem Tryz.en120 : En Tryz.prog 120 := enters_fn func120 kQ rfl
theorem Tryz.en121 : En Tryz.prog 121 := enters_fn func121 kQ rfl
theorem Tryz.en122 : En Tryz.prog 122 := enters_fn func122 kQ rfl
theorem Tryz.en123 : En Tryz.prog 123 := enters_fn func123 kQ rfl
theorem Tryz.en124 : En Tryz.prog 124 := enters_fn func124 kQ rfl
theorem Tryz.en125 : En Tryz.prog 125 := enters_fn func125 kQ rfl
theorem Tryz.en126 : En Tryz.prog 126 := enters_fn func126 kQ rfl
theorem Tryz.en133 : En Tryz.prog 133 := enters_fn func133 kQ rfl
theorem Tryz.en134 : En Tryz.prog 134 := enters_fn func134 kQ rfl
theorem Tryz.en135 : En Tryz.prog 135 := enters_fn func135 kQ rfl
theorem Tryz.en136 : En Tryz.prog 136 := enters_fn func136 kQ rfl
theorem Tryz.en137 : En Tryz.prog 137 := enters_fn func137 kQ rfl
theorem Tryz.en138 : En Tryz.prog 138 := enters_fn func138 kQ rfl
theorem Tryz.en139 : En Tryz.prog 139 := enters_fn func139 kQ rfl
theorem Tryz.en140 : En Tryz.prog 140 := enters_fn func140 kQ rfl
theorem Tryz.en141 : En Tryz.prog 141 := enters_fn func141 kQ rfl
theorem Tryz.en142 : En Tryz.prog 142 := enters_fn func142 kQ rfl
theorem Tryz.en143 : En Tryz.prog 143 := enters_fn func143 kQ rfl
theorem Tryz.en144 : En Tryz.prog 144 := enters_fn func144 kQ rfl
theorem Tryz.en145 : En Tryz.prog 145 := enters_fn func145 kQ rfl
theorem Tryz.en146 : En Tryz.prog 146 := enters_fn func146 kQ rfl
theorem Tryz.en147 : En Tryz.prog 147 := enters_fn func147 kQ rfl
theorem Tryz.en148 : En Tryz.prog 148 := enters_fn func148 kQ rfl
theorem Tryz.en149 : En Tryz.prog 149 := enters_fn func149 kQ rfl
theorem Tryz.en150 : En Tryz.prog 150 := enters_fn func150 kQ rfl
theorem Tryz.en151 : En Tryz.prog 151 := enters_fn func151 kQ rfl
theorem Tryz.en152 : En Tryz.prog 152 := enters_fn func152 kQ rfl
theorem Tryz.en153 : En Tryz.prog 153 := enters_fn func153 kQ rfl
theorem Tryz.en154 : En Tryz.prog 154 := enters_fn func154 kQ rfl
theorem Tryz.en155 : En Tryz.prog 155 := enters_fn func155 kQ rfl
theorem Tryz.en156 : En Tryz.prog 156 := enters_fn func156 kQ rfl
theorem Tryz.en157 : En Tryz.prog 157 := enters_fn func157 kQ rfl
theorem Tryz.en158 : En Tryz.prog 158 := enters_fn func158 kQ rfl
theorem Tryz.en159 : En Tryz.prog 159 := enters_fn func159 kQ rfl
theorem Tryz.en160 : En Tryz.prog 160 := enters_fn func160 kQ rfl
theorem Tryz.en161 : En Tryz.prog 161 := enters_fn func161 kQ rfl
theorem Tryz.en162 : En Tryz.prog 162 := enters_fn func162 kQ rfl
theorem Tryz.en163 : En Tryz.prog 163 := enters_fn func163 kQ rfl
theorem Tryz.en164 : En Tryz.prog 164 := enters_fn func164 kQ rfl
theorem Tryz.en165 : En Tryz.prog 165 := enters_fn func165 kQ rfl
theorem Tryz.en168 : En Tryz.prog 168 := enters_fn func168 kQ rfl
theorem Tryz.en169 : En Tryz.prog 169 := enters_fn func169 kQ rfl
theorem Tryz.en170 : En Tryz.prog 170 := enters_fn func170 kQ rfl
theorem Tryz.en171 : En Tryz.prog 171 := enters_fn func171 kQ rfl
theorem Tryz.en172 : En Tryz.prog 172 := enters_fn func172 kQ rfl
theorem Tryz.en173 : En Tryz.prog 173 := enters_fn func173 kQ rfl
theorem Tryz.en174 : En Tryz.prog 174 := enters_fn func174 kQ rfl
theorem Tryz.en175 : En Tryz.prog 175 := enters_fn func175 kQ rfl
theorem Tryz.en176 : En Tryz.prog 176 := enters_fn func176 kQ rfl
theorem Tryz.en177 : En Tryz.prog 177 := enters_fn func177 kQ rfl
theorem Tryz.en178 : En Tryz.prog 178 := enters_fn func178 kQ rfl
theorem Tryz.en179 : En Tryz.prog 179 := enters_fn func179 kQ rfl
theorem Tryz.en180 : En Tryz.prog 180 := enters_fn func180 kQ rfl
theorem Tryz.en208 : En Tryz.prog 208 := enters_fn func208 kQ rfl
theorem Tryz.en209 : En Tryz.prog 209 := enters_fn func209 kQ rfl
theorem Tryz.en210 : En Tryz.prog 210 := enters_fn func210 kQ rfl
theorem Tryz.en211 : En Tryz.prog 211 := enters_fn func211 kQ rfl
theorem Tryz.en212 : En Tryz.prog 212 := enters_fn func212 kQ rfl
theorem Tryz.en213 : En Tryz.prog 213 := enters_fn func213 kQ rfl
theorem Tryz.en214 : En Tryz.prog 214 := enters_fn func214 kQ rfl
theorem Tryz.en215 : En Tryz.prog 215 := enters_fn func215 kQ rfl
theorem Tryz.en216 : En Tryz.prog 216 := enters_fn func216 kQ rfl
theorem Tryz.en217 : En Tryz.prog 217 := enters_fn func217 kQ rfl
theorem Tryz.en218 : En Tryz.prog 218 := enters_fn func218 kQ rfl
theorem Tryz.en238 : En Tryz.prog 238 := enters_fn func238 kQ rfl
theorem Tryz.en239 : En Tryz.prog 239 := enters_fn func239 kQ rfl
theorem Tryz.en240 : En Tryz.prog 240 := enters_fn func240 kQ rfl
theorem Tryz.en243 : En Tryz.prog 243 := enters_fn func243 kQ rfl
theorem Tryz.en244 : En Tryz.prog 244 := enters_fn func244 kQ rfl
theorem Tryz.places24 (w : World) : (placesOf 24).run Tryz.prog w = .ok #[(0, 1), (1, 1), (2, 1), (3, 1), (4, 1), (5, 1), (6, 1), (7, 1), (8, 1), (9, 1), (10, 1), (11, 1), (12, 1), (13, 1), (14, 1), (15, 1), (16, 1), (17, 1), (18, 1)] w := by kernel_rfl
theorem Tryz.places45 (w : World) : (placesOf 45).run Tryz.prog w = .ok #[(0, 1), (1, 1)] w := by kernel_rfl
theorem Tryz.places48 (w : World) : (placesOf 48).run Tryz.prog w = .ok #[(0, 1), (1, 2), (3, 2), (5, 1)] w := by kernel_rfl
theorem Tryz.places80 (w : World) : (placesOf 80).run Tryz.prog w = .ok #[(0, 1), (1, 11), (12, 1), (13, 1)] w := by kernel_rfl
theorem Tryz.places84 (w : World) : (placesOf 84).run Tryz.prog w = .ok #[] w := by kernel_rfl
theorem Tryz.places92 (w : World) : (placesOf 92).run Tryz.prog w = .ok #[(0, 1), (1, 1)] w := by kernel_rfl
theorem Tryz.places96 (w : World) : (placesOf 96).run Tryz.prog w = .ok #[(0, 1), (1, 1), (2, 1)] w := by kernel_rfl
theorem Tryz.places99 (w : World) : (placesOf 99).run Tryz.prog w = .ok #[(0, 11), (11, 1), (12, 1), (13, 1)] w := by kernel_rfl
theorem Tryz.places124 (w : World) : (placesOf 124).run Tryz.prog w = .ok #[(0, 1), (1, 1)] w := by kernel_rfl
theorem Tryz.places137 (w : World) : (placesOf 137).run Tryz.prog w = .ok #[(0, 2)] w := by kernel_rfl
theorem Tryz.places145 (w : World) : (placesOf 145).run Tryz.prog w = .ok #[(0, 1), (1, 1), (2, 1), (3, 1)] w := by kernel_rfl
theorem Tryz.places196 (w : World) : (placesOf 196).run Tryz.prog w = .ok #[(0, 1), (1, 1), (2, 1)] w := by kernel_rfl
theorem Tryz.places216 (w : World) : (placesOf 216).run Tryz.prog w = .ok #[(0, 1), (1, 1)] w := by kernel_rfl
end Go.Proofs
end
section
namespace Go.Proofs
open Go.Proofs.Tryz
open Go.Wx Go.ChangeShapes Go.WideShapes Go.RowKit
theorem Tryz.elI6 {H : Type} {enc : TypeId × Value → H} {w : World} {b : Nat} {sp : Nat → Bool} {hd : Bool} (n : Nat) (cs : List Value) (x : DataW H × List MemPlace) (hl : cs.length = 6) (h : DataW.trod enc Tryz.prog w b sp hd n 75 cs = some x) : ∃ f : I6, cs = f.cells.toList ∧ I6Ok f := by
 have k_int : Tryz.prog.cellsOf 3 = 1 := by kernel_rfl
 match cs, hl with
 | [c0, c1, c2, c3, c4, c5], _ =>
   obtain ⟨xs, m, _, _, _, hlen, hg⟩ := DataW.trod_array underlying75 h
   have hs : ∀ i, i < 6 → ∃ y, xs[i]? = some y := fun i hi => ⟨_, List.getElem?_eq_getElem oQ⟩
   obtain ⟨y0, z0⟩ := hs 0 cQ
   obtain ⟨n0, e0, _, q0⟩ := DataW.trod_int underlying3 (show DataW.trod enc Tryz.prog w b sp hd m 3 [c0] = some y0 from by rw [← z0]; simpa [k_int] using hg 0 cQ)
   obtain ⟨y1, z1⟩ := hs 1 cQ
   obtain ⟨n1, e1, _, q1⟩ := DataW.trod_int underlying3 (show DataW.trod enc Tryz.prog w b sp hd m 3 [c1] = some y1 from by rw [← z1]; simpa [k_int] using hg 1 cQ)
   obtain ⟨y2, z2⟩ := hs 2 cQ
   obtain ⟨n2, e2, _, q2⟩ := DataW.trod_int underlying3 (show DataW.trod enc Tryz.prog w b sp hd m 3 [c2] = some y2 from by rw [← z2]; simpa [k_int] using hg 2 cQ)
   obtain ⟨y3, z3⟩ := hs 3 cQ
   obtain ⟨n3, e3, _, q3⟩ := DataW.trod_int underlying3 (show DataW.trod enc Tryz.prog w b sp hd m 3 [c3] = some y3 from by rw [← z3]; simpa [k_int] using hg 3 cQ)
   obtain ⟨y4, z4⟩ := hs 4 cQ
   obtain ⟨n4, e4, _, q4⟩ := DataW.trod_int underlying3 (show DataW.trod enc Tryz.prog w b sp hd m 3 [c4] = some y4 from by rw [← z4]; simpa [k_int] using hg 4 cQ)
   obtain ⟨y5, z5⟩ := hs 5 cQ
   obtain ⟨n5, e5, _, q5⟩ := DataW.trod_int underlying3 (show DataW.trod enc Tryz.prog w b sp hd m 3 [c5] = some y5 from by rw [← z5]; simpa [k_int] using hg 5 cQ)
   cases e0
   cases e1
   cases e2
   cases e3
   cases e4
   cases e5
   exact ⟨⟨n0, n1, n2, n3, n4, n5⟩, rfl, ⟨wf_inI q0, wf_inI q1, wf_inI q2, wf_inI q3, wf_inI q4, wf_inI q5⟩⟩
end Go.Proofs
end
