import Derived.Test.YtgjogglfnkgapaaGreatDoorKR14
import Derived.Test.YtgjogglfnkgapaaGreatDoorProg
namespace Go.Proofs
open Go.Proofs.Tryz
open Go.Wx
theorem Tryz.KF : En Tryz.prog 6 := C func6 kQ rfl
theorem Tryz.IM : En Tryz.prog 7 := C func7 kQ rfl
theorem Tryz.KG : En Tryz.prog 8 := C func8 kQ rfl
theorem Tryz.KH : En Tryz.prog 9 := C func9 kQ rfl
theorem Tryz.yO : En Tryz.prog 10 := C func10 kQ rfl
theorem Tryz.yP : En Tryz.prog 11 := C func11 kQ rfl
theorem Tryz.BW : En Tryz.prog 12 := C func12 kQ rfl
theorem Tryz.IN : En Tryz.prog 13 := C func13 kQ rfl
theorem Tryz.BX : En Tryz.prog 14 := C func14 kQ rfl
theorem Tryz.yQ : En Tryz.prog 15 := C func15 kQ rfl
theorem Tryz.BY : En Tryz.prog 16 := C func16 kQ rfl
theorem Tryz.IP : En Tryz.prog 17 := C func17 kQ rfl
theorem Tryz.IQ : En Tryz.prog 40 := C func40 kQ rfl
theorem Tryz.IR : En Tryz.prog 42 := C func42 kQ rfl
theorem Tryz.IS : En Tryz.prog 43 := C func43 kQ rfl
theorem Tryz.Fz : En Tryz.prog 44 := C func44 kQ rfl
theorem Tryz.IT : En Tryz.prog 45 := C func45 kQ rfl
theorem Tryz.IU : En Tryz.prog 46 := C func46 kQ rfl
theorem Tryz.mI : En Tryz.prog 47 := C func47 kQ rfl
theorem Tryz.IV : En Tryz.prog 48 := C func48 kQ rfl
theorem Tryz.IW : En Tryz.prog 49 := C func49 kQ rfl
theorem Tryz.IX : En Tryz.prog 50 := C func50 kQ rfl
theorem Tryz.IY : En Tryz.prog 51 := C func51 kQ rfl
theorem Tryz.BZ : En Tryz.prog 52 := C func52 kQ rfl
theorem Tryz.IZ : En Tryz.prog 53 := C func53 kQ rfl
theorem Tryz.JA : En Tryz.prog 54 := C func54 kQ rfl
theorem Tryz.JB : En Tryz.prog 55 := C func55 kQ rfl
theorem Tryz.CA : En Tryz.prog 56 := C func56 kQ rfl
theorem Tryz.CB : En Tryz.prog 57 := C func57 kQ rfl
theorem Tryz.JC : En Tryz.prog 58 := C func58 kQ rfl
theorem Tryz.CC : En Tryz.prog 59 := C func59 kQ rfl
theorem Tryz.JD : En Tryz.prog 69 := C func69 kQ rfl
theorem Tryz.yR : En Tryz.prog 70 := C func70 kQ rfl
theorem Tryz.sE : En Tryz.prog 94 := C func94 kQ rfl
theorem Tryz.CD : En Tryz.prog 96 := C func96 kQ rfl
theorem Tryz.JE : En Tryz.prog 97 := C func97 kQ rfl
theorem Tryz.JF : En Tryz.prog 98 := C func98 kQ rfl
theorem Tryz.JG : En Tryz.prog 99 := C func99 kQ rfl
theorem Tryz.eJ : En Tryz.prog 103 := C func103 kQ rfl
theorem Tryz.mJ : En Tryz.prog 104 := C func104 kQ rfl
theorem Tryz.wU : En Tryz.prog 105 := C func105 kQ rfl
theorem Tryz.wV : En Tryz.prog 106 := C func106 kQ rfl
theorem Tryz.eK : En Tryz.prog 107 := C func107 kQ rfl
theorem Tryz.mK : En Tryz.prog 108 := C func108 kQ rfl
theorem Tryz.CE : En Tryz.prog 109 := C func109 kQ rfl
theorem Tryz.CF : En Tryz.prog 110 := C func110 kQ rfl
theorem Tryz.wW : En Tryz.prog 111 := C func111 kQ rfl
theorem Tryz.CG : En Tryz.prog 112 := C func112 kQ rfl
theorem Tryz.CH : En Tryz.prog 113 := C func113 kQ rfl
theorem Tryz.wX : En Tryz.prog 114 := C func114 kQ rfl
theorem Tryz.CI : En Tryz.prog 115 := C func115 kQ rfl
theorem Tryz.CJ : En Tryz.prog 116 := C func116 kQ rfl
theorem Tryz.CK : En Tryz.prog 117 := C func117 kQ rfl
theorem Tryz.CL : En Tryz.prog 118 := C func118 kQ rfl
theorem Tryz.mL : En Tryz.prog 119 := C func119 kQ rfl
theorem Tryz.CM : En Tryz.prog 120 := C func120 kQ rfl
theorem Tryz.CN : En Tryz.prog 121 := C func121 kQ rfl
theorem Tryz.eN : En Tryz.prog 122 := C func122 kQ rfl
theorem Tryz.wY : En Tryz.prog 125 := C func125 kQ rfl
theorem Tryz.CO : En Tryz.prog 126 := C func126 kQ rfl
theorem Tryz.mM : En Tryz.prog 127 := C func127 kQ rfl
theorem Tryz.wZ : En Tryz.prog 128 := C func128 kQ rfl
theorem Tryz.CP : En Tryz.prog 129 := C func129 kQ rfl
theorem Tryz.CQ : En Tryz.prog 130 := C func130 kQ rfl
theorem Tryz.Rs : En Tryz.prog 131 := C func131 kQ rfl
theorem Tryz.CR : En Tryz.prog 132 := C func132 kQ rfl
theorem Tryz.CS : En Tryz.prog 133 := C func133 kQ rfl
theorem Tryz.CT : En Tryz.prog 134 := C func134 kQ rfl
theorem Tryz.CU : En Tryz.prog 135 := C func135 kQ rfl
theorem Tryz.CV : En Tryz.prog 136 := C func136 kQ rfl
theorem Tryz.CX : En Tryz.prog 137 := C func137 kQ rfl
theorem Tryz.CY : En Tryz.prog 138 := C func138 kQ rfl
theorem Tryz.CZ : En Tryz.prog 139 := C func139 kQ rfl
theorem Tryz.DA : En Tryz.prog 140 := C func140 kQ rfl
theorem Tryz.DB : En Tryz.prog 141 := C func141 kQ rfl
theorem Tryz.DC : En Tryz.prog 142 := C func142 kQ rfl
theorem Tryz.DD : En Tryz.prog 143 := C func143 kQ rfl
theorem Tryz.DF : En Tryz.prog 144 := C func144 kQ rfl
theorem Tryz.DG : En Tryz.prog 145 := C func145 kQ rfl
theorem Tryz.xA : En Tryz.prog 146 := C func146 kQ rfl
theorem Tryz.DH : En Tryz.prog 147 := C func147 kQ rfl
theorem Tryz.xB : En Tryz.prog 159 := C func159 kQ rfl
theorem Tryz.xC : En Tryz.prog 162 := C func162 kQ rfl
theorem Tryz.DI : En Tryz.prog 182 := C func182 kQ rfl
theorem Tryz.Ru : En Tryz.prog 183 := C func183 kQ rfl
theorem Tryz.DJ : En Tryz.prog 184 := C func184 kQ rfl
theorem Tryz.DK : En Tryz.prog 185 := C func185 kQ rfl
theorem Tryz.DM : En Tryz.prog 186 := C func186 kQ rfl
theorem Tryz.DN : En Tryz.prog 187 := C func187 kQ rfl
theorem Tryz.DO : En Tryz.prog 188 := C func188 kQ rfl
theorem Tryz.DQ : En Tryz.prog 189 := C func189 kQ rfl
theorem Tryz.DR : En Tryz.prog 190 := C func190 kQ rfl
theorem Tryz.DS : En Tryz.prog 191 := C func191 kQ rfl
theorem Tryz.DT : En Tryz.prog 192 := C func192 kQ rfl
theorem Tryz.xD : En Tryz.prog 193 := C func193 kQ rfl
theorem Tryz.DU : En Tryz.prog 194 := C func194 kQ rfl
theorem Tryz.U6 : En Tryz.prog 196 := C func196 kQ rfl
theorem Tryz.DX : En Tryz.prog 197 := C func197 kQ rfl
theorem Tryz.DY : En Tryz.prog 198 := C func198 kQ rfl
theorem Tryz.DZ : En Tryz.prog 199 := C func199 kQ rfl
theorem Tryz.EA : En Tryz.prog 200 := C func200 kQ rfl
theorem Tryz.EB : En Tryz.prog 201 := C func201 kQ rfl
theorem Tryz.xE : En Tryz.prog 207 := C func207 kQ rfl
theorem Tryz.xF : En Tryz.prog 208 := C func208 kQ rfl
theorem Tryz.ED : En Tryz.prog 209 := C func209 kQ rfl
theorem Tryz.Ia : En Tryz.prog 210 := C func210 kQ rfl
theorem Tryz.EE : En Tryz.prog 211 := C func211 kQ rfl
theorem Tryz.EF : En Tryz.prog 212 := C func212 kQ rfl
theorem Tryz.EG : En Tryz.prog 213 := C func213 kQ rfl
theorem Tryz.EH : En Tryz.prog 214 := C func214 kQ rfl
theorem Tryz.EI : En Tryz.prog 215 := C func215 kQ rfl
theorem Tryz.EJ : En Tryz.prog 216 := C func216 kQ rfl
theorem Tryz.EK : En Tryz.prog 217 := C func217 kQ rfl
theorem Tryz.EL : En Tryz.prog 218 := C func218 kQ rfl
theorem Tryz.EM : En Tryz.prog 219 := C func219 kQ rfl
theorem Tryz.EN : En Tryz.prog 220 := C func220 kQ rfl
theorem Tryz.EO : En Tryz.prog 221 := C func221 kQ rfl
theorem Tryz.Rv : En Tryz.prog 222 := C func222 kQ rfl
theorem Tryz.eO : En Tryz.prog 223 := C func223 kQ rfl
theorem Tryz.eP : En Tryz.prog 224 := C func224 kQ rfl
theorem Tryz.EP : En Tryz.prog 225 := C func225 kQ rfl
theorem Tryz.N5 : En Tryz.prog 226 := C func226 kQ rfl
theorem Tryz.EQ : En Tryz.prog 227 := C func227 kQ rfl
theorem Tryz.ER : En Tryz.prog 228 := C func228 kQ rfl
theorem Tryz.ES : En Tryz.prog 229 := C func229 kQ rfl
theorem Tryz.mN : En Tryz.prog 230 := C func230 kQ rfl
theorem Tryz.ET : En Tryz.prog 231 := C func231 kQ rfl
theorem Tryz.EU : En Tryz.prog 232 := C func232 kQ rfl
theorem Tryz.EV : En Tryz.prog 233 := C func233 kQ rfl
theorem Tryz.EW : En Tryz.prog 234 := C func234 kQ rfl
theorem Tryz.EX : En Tryz.prog 235 := C func235 kQ rfl
theorem Tryz.EY : En Tryz.prog 236 := C func236 kQ rfl
theorem Tryz.EZ : En Tryz.prog 237 := C func237 kQ rfl
theorem Tryz.xG : En Tryz.prog 238 := C func238 kQ rfl
theorem Tryz.FA : En Tryz.prog 239 := C func239 kQ rfl
theorem Tryz.xH : En Tryz.prog 240 := C func240 kQ rfl
theorem Tryz.Rw : En Tryz.prog 241 := C func241 kQ rfl
theorem Tryz.FB : En Tryz.prog 253 := C func253 kQ rfl
theorem Tryz.U7 : En Tryz.prog 255 := C func255 kQ rfl
theorem Tryz.FC : En Tryz.prog 256 := C func256 kQ rfl
theorem Tryz.FD : En Tryz.prog 257 := C func257 kQ rfl
theorem Tryz.FE : En Tryz.prog 258 := C func258 kQ rfl
theorem Tryz.xI : En Tryz.prog 259 := C func259 kQ rfl
theorem Tryz.FF : En Tryz.prog 284 := C func284 kQ rfl
theorem Tryz.xJ : En Tryz.prog 285 := C func285 kQ rfl
theorem Tryz.xK : En Tryz.prog 286 := C func286 kQ rfl
theorem Tryz.xL : En Tryz.prog 287 := C func287 kQ rfl
theorem Tryz.FG : En Tryz.prog 288 := C func288 kQ rfl
theorem Tryz.xM : En Tryz.prog 289 := C func289 kQ rfl
theorem Tryz.FH : En Tryz.prog 290 := C func290 kQ rfl
theorem Tryz.FI : En Tryz.prog 291 := C func291 kQ rfl
theorem Tryz.FJ : En Tryz.prog 292 := C func292 kQ rfl
theorem Tryz.xN : En Tryz.prog 293 := C func293 kQ rfl
theorem Tryz.FK : En Tryz.prog 294 := C func294 kQ rfl
theorem Tryz.FL : En Tryz.prog 297 := C func297 kQ rfl
theorem Tryz.FM : En Tryz.prog 298 := C func298 kQ rfl
theorem Tryz.FN : En Tryz.prog 299 := C func299 kQ rfl
theorem Tryz.FO : En Tryz.prog 300 := C func300 kQ rfl
theorem Tryz.mO : En Tryz.prog 301 := C func301 kQ rfl
theorem Tryz.FP : En Tryz.prog 302 := C func302 kQ rfl
theorem Tryz.FQ : En Tryz.prog 303 := C func303 kQ rfl
theorem Tryz.FT : En Tryz.prog 304 := C func304 kQ rfl
theorem Tryz.FU : En Tryz.prog 305 := C func305 kQ rfl
theorem Tryz.FV : En Tryz.prog 306 := C func306 kQ rfl
theorem Tryz.eS : En Tryz.prog 307 := C func307 kQ rfl
theorem Tryz.FW : En Tryz.prog 308 := C func308 kQ rfl
theorem Tryz.X3 : En Tryz.prog 309 := C func309 kQ rfl
theorem Tryz.xO : En Tryz.prog 310 := C func310 kQ rfl
theorem Tryz.FX : En Tryz.prog 311 := C func311 kQ rfl
theorem Tryz.FY : En Tryz.prog 312 := C func312 kQ rfl
theorem Tryz.mP : En Tryz.prog 321 := C func321 kQ rfl
theorem Tryz.eU : En Tryz.prog 322 := C func322 kQ rfl
theorem Tryz.FZ : En Tryz.prog 351 := C func351 kQ rfl
theorem Tryz.GA : En Tryz.prog 352 := C func352 kQ rfl
theorem Tryz.mQ : En Tryz.prog 354 := C func354 kQ rfl
theorem Tryz.GB : En Tryz.prog 355 := C func355 kQ rfl
theorem Tryz.GC : En Tryz.prog 356 := C func356 kQ rfl
theorem Tryz.GD : En Tryz.prog 358 := C func358 kQ rfl
theorem Tryz.GF : En Tryz.prog 360 := C func360 kQ rfl
theorem Tryz.GG : En Tryz.prog 361 := C func361 kQ rfl
theorem Tryz.GH : En Tryz.prog 362 := C func362 kQ rfl
theorem Tryz.GI : En Tryz.prog 363 := C func363 kQ rfl
theorem Tryz.GJ : En Tryz.prog 364 := C func364 kQ rfl
theorem Tryz.GK : En Tryz.prog 365 := C func365 kQ rfl
theorem Tryz.GL : En Tryz.prog 366 := C func366 kQ rfl
theorem Tryz.GM : En Tryz.prog 367 := C func367 kQ rfl
theorem Tryz.xP : En Tryz.prog 368 := C func368 kQ rfl
theorem Tryz.GN : En Tryz.prog 369 := C func369 kQ rfl
theorem Tryz.xQ : En Tryz.prog 370 := C func370 kQ rfl
theorem Tryz.GO : En Tryz.prog 371 := C func371 kQ rfl
theorem Tryz.GP : En Tryz.prog 372 := C func372 kQ rfl
theorem Tryz.GQ : En Tryz.prog 374 := C func374 kQ rfl
theorem Tryz.GR : En Tryz.prog 379 := C func379 kQ rfl
theorem Tryz.GS : En Tryz.prog 381 := C func381 kQ rfl
theorem Tryz.GU : En Tryz.prog 384 := C func384 kQ rfl
theorem Tryz.GV : En Tryz.prog 385 := C func385 kQ rfl
theorem Tryz.mR : En Tryz.prog 386 := C func386 kQ rfl
theorem Hr (w : World) : (placesOf 28).run Tryz.prog w = .ok #[(0, 1), (1, 1), (2, 1), (3, 1), (4, 1), (5, 1), (6, 1), (7, 1), (8, 1), (9, 1), (10, 1), (11, 1), (12, 1), (13, 1), (14, 1), (15, 1), (16, 1), (17, 1), (18, 1)] w := by kernel_rfl
theorem Hs (w : World) : (placesOf 39).run Tryz.prog w = .ok #[(0, 1), (1, 1)] w := by kernel_rfl
theorem Mo (w : World) : (placesOf 44).run Tryz.prog w = .ok #[(0, 1), (1, 2), (3, 2), (5, 1)] w := by kernel_rfl
theorem Mp (w : World) : (placesOf 81).run Tryz.prog w = .ok #[(0, 1), (1, 1), (2, 1)] w := by kernel_rfl
theorem Uc (w : World) : (placesOf 85).run Tryz.prog w = .ok #[(0, 1), (1, 1), (2, 1), (3, 1)] w := by kernel_rfl
theorem Ud (w : World) : (placesOf 87).run Tryz.prog w = .ok #[(0, 1), (1, 1), (2, 1), (3, 1), (4, 1), (5, 1), (6, 1)] w := by kernel_rfl
theorem Ue (w : World) : (placesOf 89).run Tryz.prog w = .ok #[(0, 1), (1, 1)] w := by kernel_rfl
theorem Mq (w : World) : (placesOf 92).run Tryz.prog w = .ok #[(0, 1), (1, 1)] w := by kernel_rfl
theorem Uf (w : World) : (placesOf 94).run Tryz.prog w = .ok #[(0, 1), (1, 1), (2, 2), (4, 2)] w := by kernel_rfl
theorem Ug (w : World) : (placesOf 96).run Tryz.prog w = .ok #[(0, 1), (1, 1), (2, 1), (3, 1), (4, 1)] w := by kernel_rfl
theorem Rx (w : World) : (placesOf 101).run Tryz.prog w = .ok #[(0, 1), (1, 1), (2, 1), (3, 1), (4, 1)] w := by kernel_rfl
theorem Ry (w : World) : (placesOf 107).run Tryz.prog w = .ok #[(0, 1), (1, 11), (12, 1), (13, 1)] w := by kernel_rfl
theorem I7 (w : World) : (placesOf 111).run Tryz.prog w = .ok #[] w := by kernel_rfl
theorem Rz (w : World) : (placesOf 119).run Tryz.prog w = .ok #[(0, 1), (1, 1)] w := by kernel_rfl
theorem Ld (w : World) : (placesOf 123).run Tryz.prog w = .ok #[(0, 1), (1, 1), (2, 1)] w := by kernel_rfl
theorem Dd (w : World) : (placesOf 137).run Tryz.prog w = .ok #[(0, 1), (1, 1)] w := by kernel_rfl
theorem Le (w : World) : (placesOf 217).run Tryz.prog w = .ok #[(0, 2)] w := by kernel_rfl
theorem De (w : World) : (placesOf 223).run Tryz.prog w = .ok #[(0, 1), (1, 1), (2, 1), (3, 1)] w := by kernel_rfl
theorem R0 (w : World) : (placesOf 237).run Tryz.prog w = .ok #[(0, 11), (11, 1), (12, 1), (13, 1)] w := by kernel_rfl
theorem R1 (w : World) : (placesOf 246).run Tryz.prog w = .ok #[(0, 1), (1, 1)] w := by kernel_rfl
theorem Cn (w : World) : (placesOf 310).run Tryz.prog w = .ok #[(0, 1), (1, 1), (2, 1)] w := by kernel_rfl
theorem G1 (w : World) : (placesOf 365).run Tryz.prog w = .ok #[(0, 1), (1, 1)] w := by kernel_rfl
end Go.Proofs
namespace Go.Proofs
open Go.Proofs.Tryz
open Go.Wx Go.ChangeShapes Go.WideShapes Go.RowKit
theorem iQ {H : Type} {enc : TypeId × Value → H} {w : World} {b : Nat} {sp : Nat → Bool} {hd : Bool} (n : Nat) (cs : List Value) (x : DataW H × List MemPlace) (hl : cs.length = 6) (h : DataW.trod enc Tryz.prog w b sp hd n 102 cs = some x) : ∃ f : I6, cs = f.cells.toList ∧ BV f := by
 have k_int : Tryz.prog.cellsOf 3 = 1 := by kernel_rfl
 match cs, hl with
 | [c0, c1, c2, c3, c4, c5], _ =>
   obtain ⟨xs, m, _, _, _, hlen, hg⟩ := DataW.trod_array underlying102 h
   have hs : ∀ i, i < 6 → ∃ y, xs[i]? = some y := fun i hi => ⟨_, List.getElem?_eq_getElem oQ⟩
   obtain ⟨y0, z0⟩ := hs 0 cQ
   obtain ⟨n0, e0, _, q0⟩ := DataW.trod_int underlying3 (show DataW.trod enc Tryz.prog w b sp hd m 3 [c0] = some y0 from by rw [← z0]; simpa [k_int] using hg 0 cQ)
   obtain ⟨y1, z1⟩ := hs 1 cQ
   obtain ⟨n1, e1, _, q1⟩ := DataW.trod_int underlying3 (show DataW.trod enc Tryz.prog w b sp hd m 3 [c1] = some y1 from by rw [← z1]; simpa [k_int] using hg 1 cQ)
   obtain ⟨y2, z2⟩ := hs 2 cQ
   obtain ⟨n2, e2, _, q2⟩ := DataW.trod_int underlying3 (show DataW.trod enc Tryz.prog w b sp hd m 3 [c2] = some y2 from by rw [← z2]; simpa [k_int] using hg 2 cQ)
   obtain ⟨y3, z3⟩ := hs 3 cQ
   obtain ⟨n3, e3, _, q3⟩ := DataW.trod_int underlying3 (show DataW.trod enc Tryz.prog w b sp hd m 3 [c3] = some y3 from by rw [← z3]; simpa [k_int] using hg 3 cQ)
   obtain ⟨y4, z4⟩ := hs 4 cQ
   obtain ⟨n4, e4, _, q4⟩ := DataW.trod_int underlying3 (show DataW.trod enc Tryz.prog w b sp hd m 3 [c4] = some y4 from by rw [← z4]; simpa [k_int] using hg 4 cQ)
   obtain ⟨y5, z5⟩ := hs 5 cQ
   obtain ⟨n5, e5, _, q5⟩ := DataW.trod_int underlying3 (show DataW.trod enc Tryz.prog w b sp hd m 3 [c5] = some y5 from by rw [← z5]; simpa [k_int] using hg 5 cQ)
   cases e0
   cases e1
   cases e2
   cases e3
   cases e4
   cases e5
   exact ⟨⟨n0, n1, n2, n3, n4, n5⟩, rfl, ⟨Kl q0, Kl q1, Kl q2, Kl q3, Kl q4, Kl q5⟩⟩
end Go.Proofs
