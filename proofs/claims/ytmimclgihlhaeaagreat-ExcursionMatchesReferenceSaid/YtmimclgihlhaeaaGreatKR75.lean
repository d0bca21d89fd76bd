import Derived.Test.YtmimclgihlhaeaaGreatKR74
import Derived.Test.YtmimclgihlhaeaaGreatProg
section
namespace Go.Proofs
open Go.Proofs.Tryz
open Go.Wx
theorem Tryz.AQ : En Tryz.prog 10 := Ab func10 kQ rfl
theorem Tryz.AR : En Tryz.prog 11 := Ab func11 kQ rfl
theorem Tryz.AS : En Tryz.prog 12 := Ab func12 kQ rfl
theorem Tryz.vV : En Tryz.prog 13 := Ab func13 kQ rfl
theorem Tryz.AT : En Tryz.prog 14 := Ab func14 kQ rfl
theorem Tryz.AU : En Tryz.prog 15 := Ab func15 kQ rfl
theorem Tryz.sW : En Tryz.prog 16 := Ab func16 kQ rfl
theorem Tryz.AV : En Tryz.prog 17 := Ab func17 kQ rfl
theorem Tryz.oZ : En Tryz.prog 18 := Ab func18 kQ rfl
theorem Tryz.vW : En Tryz.prog 19 := Ab func19 kQ rfl
theorem Tryz.vX : En Tryz.prog 20 := Ab func20 kQ rfl
theorem Tryz.pA : En Tryz.prog 21 := Ab func21 kQ rfl
theorem Tryz.vY : En Tryz.prog 22 := Ab func22 kQ rfl
theorem Tryz.AW : En Tryz.prog 23 := Ab func23 kQ rfl
theorem Tryz.vZ : En Tryz.prog 24 := Ab func24 kQ rfl
theorem Tryz.wA : En Tryz.prog 25 := Ab func25 kQ rfl
theorem Tryz.AX : En Tryz.prog 26 := Ab func26 kQ rfl
theorem Tryz.Ls : En Tryz.prog 27 := Ab func27 kQ rfl
theorem Tryz.wB : En Tryz.prog 28 := Ab func28 kQ rfl
theorem Tryz.jK : En Tryz.prog 30 := Ab func30 kQ rfl
theorem Tryz.sX : En Tryz.prog 31 := Ab func31 kQ rfl
theorem Tryz.AY : En Tryz.prog 32 := Ab func32 kQ rfl
theorem Tryz.AZ : En Tryz.prog 33 := Ab func33 kQ rfl
theorem Tryz.BB : En Tryz.prog 34 := Ab func34 kQ rfl
theorem Tryz.sY : En Tryz.prog 35 := Ab func35 kQ rfl
theorem Tryz.BC : En Tryz.prog 36 := Ab func36 kQ rfl
theorem Tryz.BD : En Tryz.prog 37 := Ab func37 kQ rfl
theorem Tryz.sZ : En Tryz.prog 38 := Ab func38 kQ rfl
theorem Tryz.BF : En Tryz.prog 39 := Ab func39 kQ rfl
theorem Tryz.BG : En Tryz.prog 40 := Ab func40 kQ rfl
theorem Tryz.BH : En Tryz.prog 41 := Ab func41 kQ rfl
theorem Tryz.wC : En Tryz.prog 42 := Ab func42 kQ rfl
theorem Tryz.pB : En Tryz.prog 43 := Ab func43 kQ rfl
theorem Tryz.pC : En Tryz.prog 44 := Ab func44 kQ rfl
theorem Tryz.wD : En Tryz.prog 45 := Ab func45 kQ rfl
theorem Tryz.BI : En Tryz.prog 46 := Ab func46 kQ rfl
theorem Tryz.BL : En Tryz.prog 47 := Ab func47 kQ rfl
theorem Tryz.BM : En Tryz.prog 48 := Ab func48 kQ rfl
theorem Tryz.tA : En Tryz.prog 49 := Ab func49 kQ rfl
theorem Tryz.eZ : En Tryz.prog 50 := Ab func50 kQ rfl
theorem Tryz.BN : En Tryz.prog 51 := Ab func51 kQ rfl
theorem Tryz.BO : En Tryz.prog 52 := Ab func52 kQ rfl
theorem Tryz.wE : En Tryz.prog 53 := Ab func53 kQ rfl
theorem Tryz.BP : En Tryz.prog 54 := Ab func54 kQ rfl
theorem Tryz.BQ : En Tryz.prog 55 := Ab func55 kQ rfl
theorem Tryz.wF : En Tryz.prog 56 := Ab func56 kQ rfl
theorem Tryz.tB : En Tryz.prog 57 := Ab func57 kQ rfl
theorem Tryz.fB : En Tryz.prog 58 := Ab func58 kQ rfl
theorem Tryz.BR : En Tryz.prog 59 := Ab func59 kQ rfl
theorem Tryz.tC : En Tryz.prog 60 := Ab func60 kQ rfl
theorem Tryz.pD : En Tryz.prog 61 := Ab func61 kQ rfl
theorem Tryz.tD : En Tryz.prog 62 := Ab func62 kQ rfl
theorem Tryz.wG : En Tryz.prog 63 := Ab func63 kQ rfl
theorem Tryz.wH : En Tryz.prog 64 := Ab func64 kQ rfl
theorem Tryz.pE : En Tryz.prog 65 := Ab func65 kQ rfl
theorem Tryz.tE : En Tryz.prog 66 := Ab func66 kQ rfl
theorem Tryz.wJ : En Tryz.prog 67 := Ab func67 kQ rfl
theorem Tryz.BS : En Tryz.prog 68 := Ab func68 kQ rfl
theorem Tryz.BT : En Tryz.prog 69 := Ab func69 kQ rfl
theorem Tryz.Zc : En Tryz.prog 70 := Ab func70 kQ rfl
theorem Tryz.BU : En Tryz.prog 71 := Ab func71 kQ rfl
theorem Tryz.BV : En Tryz.prog 72 := Ab func72 kQ rfl
theorem Tryz.BW : En Tryz.prog 73 := Ab func73 kQ rfl
theorem Tryz.BX : En Tryz.prog 74 := Ab func74 kQ rfl
theorem Tryz.BY : En Tryz.prog 75 := Ab func75 kQ rfl
theorem Tryz.BZ : En Tryz.prog 76 := Ab func76 kQ rfl
theorem Tryz.CA : En Tryz.prog 77 := Ab func77 kQ rfl
theorem Tryz.CB : En Tryz.prog 78 := Ab func78 kQ rfl
theorem Tryz.CC : En Tryz.prog 79 := Ab func79 kQ rfl
theorem Tryz.CD : En Tryz.prog 80 := Ab func80 kQ rfl
theorem Tryz.CE : En Tryz.prog 81 := Ab func81 kQ rfl
theorem Tryz.CF : En Tryz.prog 82 := Ab func82 kQ rfl
theorem Tryz.CG : En Tryz.prog 83 := Ab func83 kQ rfl
theorem Tryz.CH : En Tryz.prog 84 := Ab func84 kQ rfl
theorem Tryz.wK : En Tryz.prog 85 := Ab func85 kQ rfl
theorem Tryz.CI : En Tryz.prog 86 := Ab func86 kQ rfl
theorem Tryz.tF : En Tryz.prog 87 := Ab func87 kQ rfl
theorem Tryz.CJ : En Tryz.prog 88 := Ab func88 kQ rfl
theorem Tryz.CK : En Tryz.prog 89 := Ab func89 kQ rfl
theorem Tryz.CL : En Tryz.prog 90 := Ab func90 kQ rfl
theorem Tryz.CM : En Tryz.prog 91 := Ab func91 kQ rfl
theorem Tryz.CN : En Tryz.prog 92 := Ab func92 kQ rfl
theorem Tryz.CO : En Tryz.prog 93 := Ab func93 kQ rfl
theorem Tryz.fC : En Tryz.prog 96 := Ab func96 kQ rfl
theorem Tryz.wL : En Tryz.prog 97 := Ab func97 kQ rfl
theorem Tryz.CP : En Tryz.prog 98 := Ab func98 kQ rfl
theorem Tryz.CQ : En Tryz.prog 99 := Ab func99 kQ rfl
theorem Tryz.wM : En Tryz.prog 100 := Ab func100 kQ rfl
theorem Tryz.wN : En Tryz.prog 101 := Ab func101 kQ rfl
theorem Tryz.wO : En Tryz.prog 102 := Ab func102 kQ rfl
theorem Tryz.wP : En Tryz.prog 103 := Ab func103 kQ rfl
theorem Tryz.wQ : En Tryz.prog 104 := Ab func104 kQ rfl
theorem Tryz.wR : En Tryz.prog 105 := Ab func105 kQ rfl
theorem Tryz.cE : En Tryz.prog 106 := Ab func106 kQ rfl
theorem Tryz.wS : En Tryz.prog 107 := Ab func107 kQ rfl
theorem Tryz.wU : En Tryz.prog 108 := Ab func108 kQ rfl
theorem Tryz.wV : En Tryz.prog 109 := Ab func109 kQ rfl
theorem Tryz.wW : En Tryz.prog 110 := Ab func110 kQ rfl
theorem Tryz.wX : En Tryz.prog 111 := Ab func111 kQ rfl
theorem Tryz.wY : En Tryz.prog 112 := Ab func112 kQ rfl
theorem Tryz.wZ : En Tryz.prog 113 := Ab func113 kQ rfl
theorem Tryz.xA : En Tryz.prog 114 := Ab func114 kQ rfl
theorem Tryz.xB : En Tryz.prog 115 := Ab func115 kQ rfl
theorem Tryz.sH : En Tryz.prog 116 := Ab func116 kQ rfl
theorem Tryz.sI : En Tryz.prog 117 := Ab func117 kQ rfl
theorem Tryz.xC : En Tryz.prog 118 := Ab func118 kQ rfl
theorem Tryz.Hg : En Tryz.prog 119 := Ab func119 kQ rfl
theorem Tryz.xD : En Tryz.prog 120 := Ab func120 kQ rfl
theorem Tryz.xE : En Tryz.prog 121 := Ab func121 kQ rfl
theorem Tryz.xF : En Tryz.prog 122 := Ab func122 kQ rfl
theorem Tryz.xG : En Tryz.prog 123 := Ab func123 kQ rfl
theorem Tryz.xH : En Tryz.prog 124 := Ab func124 kQ rfl
theorem Tryz.xI : En Tryz.prog 125 := Ab func125 kQ rfl
theorem Tryz.xJ : En Tryz.prog 126 := Ab func126 kQ rfl
theorem Tryz.xK : En Tryz.prog 127 := Ab func127 kQ rfl
theorem Tryz.xL : En Tryz.prog 128 := Ab func128 kQ rfl
theorem Tryz.xM : En Tryz.prog 129 := Ab func129 kQ rfl
theorem Tryz.xN : En Tryz.prog 130 := Ab func130 kQ rfl
theorem Tryz.Qk : En Tryz.prog 131 := Ab func131 kQ rfl
theorem Tryz.cF : En Tryz.prog 132 := Ab func132 kQ rfl
theorem Tryz.cG : En Tryz.prog 133 := Ab func133 kQ rfl
theorem Tryz.xO : En Tryz.prog 134 := Ab func134 kQ rfl
theorem Tryz.Na : En Tryz.prog 135 := Ab func135 kQ rfl
theorem Tryz.xP : En Tryz.prog 136 := Ab func136 kQ rfl
theorem Tryz.xQ : En Tryz.prog 137 := Ab func137 kQ rfl
theorem Tryz.xR : En Tryz.prog 138 := Ab func138 kQ rfl
theorem Tryz.xS : En Tryz.prog 139 := Ab func139 kQ rfl
theorem Tryz.xT : En Tryz.prog 140 := Ab func140 kQ rfl
theorem Tryz.xU : En Tryz.prog 141 := Ab func141 kQ rfl
theorem Tryz.V9 : En Tryz.prog 142 := Ab func142 kQ rfl
theorem Tryz.xV : En Tryz.prog 143 := Ab func143 kQ rfl
theorem Tryz.xW : En Tryz.prog 144 := Ab func144 kQ rfl
theorem Tryz.xX : En Tryz.prog 156 := Ab func156 kQ rfl
theorem Tryz.xY : En Tryz.prog 157 := Ab func157 kQ rfl
theorem Tryz.xZ : En Tryz.prog 158 := Ab func158 kQ rfl
theorem Tryz.yA : En Tryz.prog 160 := Ab func160 kQ rfl
theorem Tryz.yB : En Tryz.prog 161 := Ab func161 kQ rfl
theorem Tryz.yC : En Tryz.prog 162 := Ab func162 kQ rfl
theorem Tryz.yD : En Tryz.prog 163 := Ab func163 kQ rfl
theorem Tryz.yE : En Tryz.prog 164 := Ab func164 kQ rfl
theorem Tryz.yF : En Tryz.prog 165 := Ab func165 kQ rfl
theorem Tryz.yG : En Tryz.prog 166 := Ab func166 kQ rfl
theorem Tryz.yH : En Tryz.prog 167 := Ab func167 kQ rfl
theorem Tryz.yI : En Tryz.prog 168 := Ab func168 kQ rfl
theorem Tryz.yJ : En Tryz.prog 169 := Ab func169 kQ rfl
theorem Tryz.yK : En Tryz.prog 170 := Ab func170 kQ rfl
theorem Tryz.yL : En Tryz.prog 171 := Ab func171 kQ rfl
theorem Tryz.S7 : En Tryz.prog 173 := Ab func173 kQ rfl
theorem Tryz.Ql : En Tryz.prog 174 := Ab func174 kQ rfl
theorem Tryz.yM : En Tryz.prog 180 := Ab func180 kQ rfl
theorem Tryz.yN : En Tryz.prog 189 := Ab func189 kQ rfl
theorem Tryz.yO : En Tryz.prog 190 := Ab func190 kQ rfl
theorem Tryz.jL : En Tryz.prog 192 := Ab func192 kQ rfl
theorem Tryz.yP : En Tryz.prog 197 := Ab func197 kQ rfl
theorem Tryz.yQ : En Tryz.prog 198 := Ab func198 kQ rfl
theorem Tryz.Wa : En Tryz.prog 199 := Ab func199 kQ rfl
theorem Tryz.yR : En Tryz.prog 201 := Ab func201 kQ rfl
theorem Tryz.yS : En Tryz.prog 202 := Ab func202 kQ rfl
theorem Gy (w : World) : (placesOf 25).run Tryz.prog w = .ok #[(0, 1), (1, 1), (2, 1), (3, 1), (4, 1)] w := by kernel_rfl
theorem Ek (w : World) : (placesOf 32).run Tryz.prog w = .ok #[(0, 1), (1, 1), (2, 1)] w := by kernel_rfl
theorem C3 (w : World) : (placesOf 36).run Tryz.prog w = .ok #[(0, 1), (1, 1), (2, 1), (3, 1), (4, 1), (5, 1), (6, 1), (7, 1), (8, 1), (9, 1), (10, 1), (11, 1), (12, 1), (13, 1), (14, 1), (15, 1), (16, 1), (17, 1), (18, 1)] w := by kernel_rfl
theorem Sk (w : World) : (placesOf 38).run Tryz.prog w = .ok #[(0, 1), (1, 1), (2, 1), (3, 1), (4, 1), (5, 1), (6, 1), (7, 1), (8, 1), (9, 1), (10, 1)] w := by kernel_rfl
theorem El (w : World) : (placesOf 64).run Tryz.prog w = .ok #[(0, 1)] w := by kernel_rfl
theorem C4 (w : World) : (placesOf 76).run Tryz.prog w = .ok #[(0, 1), (1, 1)] w := by kernel_rfl
theorem Iu (w : World) : (placesOf 80).run Tryz.prog w = .ok #[(0, 1), (1, 1)] w := by kernel_rfl
theorem Kh (w : World) : (placesOf 124).run Tryz.prog w = .ok #[(0, 2)] w := by kernel_rfl
theorem Cs (w : World) : (placesOf 130).run Tryz.prog w = .ok #[(0, 1), (1, 1), (2, 1), (3, 1)] w := by kernel_rfl
theorem Bh (w : World) : (placesOf 163).run Tryz.prog w = .ok #[(0, 1), (1, 1), (2, 1)] w := by kernel_rfl
end Go.Proofs
end
section
namespace Go.Wx
open Go.RowKit
section
variable {R : Option Nat} {m : Nat} {P : Program} {n : Nat} {ds : List Deferred} {Q : Exit → Go.Act → World → Prop} {l : Env} {w : World} {ops : Array Oper}
def jM (o : Oper) : Bool := match o.op with | .move _ => o.guard.isNone | _ => false
def Ki (ops : Array Oper) (k j : Nat) : Bool := match ops[j]? with
 | none => false
 | some o => jM o && ((o.looksAt ops).all fun t => (List.range (k + 1)).all fun i => match ops[i]? with | none => true | some p => !(p.dst == some t)) &&
     (match ops[k]? with | none => false | some h => match o.dst with | none => false | some d => !Lr (h.looksAt ops) d)
def Zd (ops : Array Oper) (k : Nat) : Bool :=
 (List.range k).all fun j => Ki ops k j || (List.range (k + 1)).any fun i => Nat.ble (j + 1) i && ((Nat.beq i k || !Ki ops k i) && (match ops[i]? with | none => false | some o => o.after.any fun e => Region.binds .any e && Nat.beq e.on j))
theorem fD {k : Nat} (hC : Zd ops k = true) {listed : Array Bool} (hD : Dn ops listed) {o : Oper} (ho : ops[k]? = some o) (hk : ∀ e ∈ o.after, Region.binds .any e = true → listed.getD e.on false = true) : ∀ (c j : Nat), k - j = c → j < k → Ki ops k j = false → listed.getD j false = true := by
 intro c
 induction c using Nat.strongRecOn with
 | _ c ih =>
   intro j hc hj hl
   have h0 := List.all_eq_true.1 hC j (List.mem_range.2 hj)
   rw [hl, Bool.false_or] at h0
   obtain ⟨i, hi, hh⟩ := List.any_eq_true.1 h0
   simp only [Bool.and_eq_true, Bool.or_eq_true] at hh
   have hji : j < i := Nat.le_of_ble_eq_true hh.1
   have hik : i < k + 1 := List.mem_range.1 hi
   cases hio : ops[i]? with
   | none => simp [hio] at hh
   | some q =>
     have h2 := hh.2.2
     simp only [hio] at h2
     obtain ⟨e, he, hb⟩ := Array.any_eq_true.1 h2
     simp only [Bool.and_eq_true] at hb
     have hon := Nat.eq_of_beq_eq_true hb.2
     by_cases hek : i = k
     · subst hek
       rw [ho] at hio
       cases hio
       rw [← hon]; exact hk _ (Array.getElem_mem he) hb.1
     have hli : Ki ops k i = false := by
       rcases hh.2.1 with h3 | h3
       · exact absurd (Nat.eq_of_beq_eq_true h3) hek
       simpa using h3
     have := ih (k - i) oQ i rfl oQ hli
     rw [← hon]; exact hD i q hio this _ (Array.getElem_mem he) hb.1
theorem Ze {k j : Nat} (h : Ki ops k j = true) : ∃ o x, ops[j]? = some o ∧ o.op = .move x ∧ o.guard = none ∧ (∀ t ∈ o.looksAt ops, ∀ (i : Nat) (p : Oper), i < k + 1 → ops[i]? = some p → p.dst ≠ some t) ∧ ∀ (hh : Oper) (d : Nat), ops[k]? = some hh → o.dst = some d → d ∉ hh.looksAt ops := by
 unfold Ki at h
 cases ho : ops[j]? with
 | none => simp [ho] at h
 | some o =>
   simp only [ho, Bool.and_eq_true] at h
   obtain ⟨⟨h1, h2⟩, h3⟩ := h
   unfold jM at h1
   split at h1
   · rename_i x hx
     refine ⟨o, x, rfl, hx, by simpa using h1, fun t ht i p hi hp hd => ?_, fun hh d hk hd hm => ?_⟩
     · have := List.all_eq_true.1 (List.all_eq_true.1 h2 t ht) i (List.mem_range.2 hi)
       simp [hp, hd] at this
     simp only [hk, hd] at h3
     rw [H3.2 hm] at h3
     cases h3
   cases h1
def Ec : Env → Env
 | [] => []
 | (_, .pred _) :: l => Ec l
 | (i, .eq v) :: l => (i, .eq v) :: Ec l
 | (i, .cond b v) :: l => (i, .cond b v) :: Ec l
def plainPh : Ph → Prop
 | .pred _ => False
 | _ => True
theorem plainPh.holds {ph : Ph} (h : plainPh ph) {v : Value} {w w' : World} (k : ph.holds v w) : ph.holds v w' := by
 cases ph with
 | eq => exact k
 | cond => exact k
 | pred => exact h.elim
theorem Wb {k : Nat} {E : Nat → Env} (hE0 : E 0 = []) (hE : ∀ (i : Nat) (o : Oper), i < k → ops[i]? = some o → ∃ ph d, o.dst = some d ∧ E (i + 1) = (d, ph) :: E i) (hks : k ≤ ops.size) :
   ∀ c i ph, c ≤ k → lk (Ec (E c)) i = some ph → ∃ j o, j < c ∧ ops[j]? = some o ∧ o.dst = some i ∧ E (j + 1) = (i, ph) :: E j ∧ plainPh ph := by
 intro c
 induction c with
 | zero => intro i ph _ h; rw [hE0] at h; cases h
 | succ c ih =>
   intro i ph hk h
   have hko : ops[c]? = some ops[c] := by simp [show c < ops.size by omega]
   obtain ⟨q, d, hd, he⟩ := hE c _ oQ hko
   rw [he] at h
   have go : lk (Ec (E c)) i = some ph → ∃ j o, j < c + 1 ∧ ops[j]? = some o ∧ o.dst = some i ∧ E (j + 1) = (i, ph) :: E j ∧ plainPh ph := fun h => by
     obtain ⟨j, o, h1, h2⟩ := ih i ph oQ h
     exact ⟨j, o, by omega, h2⟩
   cases q with
   | pred p => exact go h
   | eq v =>
     by_cases e : i = d
     · subst e
       have h' : lk ((i, Ph.eq v) :: Ec (E c)) i = some ph := h
       rw [Ap] at h'
       cases h'
       exact ⟨c, _, by omega, hko, hd, he, trivial⟩
     have h' : lk ((d, Ph.eq v) :: Ec (E c)) i = some ph := h
     rw [Au e] at h'
     exact go h'
   | cond b v =>
     by_cases e : i = d
     · subst e
       have h' : lk ((i, Ph.cond b v) :: Ec (E c)) i = some ph := h
       rw [Ap] at h'
       cases h'
       exact ⟨c, _, by omega, hko, hd, he, trivial⟩
     have h' : lk ((d, Ph.cond b v) :: Ec (E c)) i = some ph := h
     rw [Au e] at h'
     exact go h'
theorem Nb {listed : Array Bool} {i fuel : Nat} (hlt : i < listed.size) (hbi : listed.getD i false = false) (hc : listed.toList.countP (· == false) ≤ fuel + 1) : (listed.setIfInBounds i true).toList.countP (· == false) ≤ fuel := by
 have hbi' : listed[i] = false := by
   rw [Array.getD_eq_getD_getElem?] at hbi
   simp only [hlt, Array.getElem?_eq_getElem, Option.getD_some] at hbi
   exact hbi
 rw [Array.toList_setIfInBounds, List.countP_set (by simpa using hlt)]
 have hpos : 0 < listed.toList.countP (· == false) := List.countP_pos_iff.2 ⟨listed[i], by simp, by simp [hbi']⟩
 have e1 : (listed.toList[i]'(by simpa using hlt) == false) = true := by simp [hbi']
 rw [if_pos e1, if_neg (by simp)]
 omega
theorem Ul {listed : Array Bool} {i : Nat} {o : Oper} (hlt : i < listed.size) (hio : ops[i]? = some o) (hed : ∀ e ∈ o.after, Region.binds .any e = true → listed.getD e.on false = true) (hD : Dn ops listed) : Dn ops (listed.setIfInBounds i true) := by
 intro j p hp hl e he hb
 rw [C8 hlt] at hl ⊢
 by_cases e1 : e.on = i
 · rw [if_pos e1]
 rw [if_neg e1]
 by_cases e2 : j = i
 · subst e2
   rw [hio] at hp; cases hp
   exact hed e he hb
 rw [if_neg e2] at hl
 exact hD j p hp hl e he hb
theorem Qm {listed : Array Bool} {s fuel : Nat} (hs : listed.size = ops.size) (hc : listed.toList.countP (· == false) ≤ fuel) (hno : ∀ j, s ≤ j → j < ops.size → listed.getD j false = false) : ops.size - s ≤ fuel := by
 have h1 : (listed.toList.drop s).countP (· == false) = ops.size - s := by
   rw [List.countP_eq_length.2]
   · simp [hs]
   intro b hb
   obtain ⟨j, hj, he⟩ := List.mem_iff_getElem.1 hb
   rw [List.getElem_drop] at he
   have hj' : s + j < listed.size := by simp at hj; omega
   have := hno (s + j) oQ oQ
   rw [Array.getD_eq_getD_getElem?] at this
   simp only [hj', Array.getElem?_eq_getElem, Option.getD_some] at this
   rw [← he]
   simpa using this
 have h2 : (listed.toList.drop s).countP (· == false) ≤ listed.toList.countP (· == false) := (List.drop_sublist s _).countP_le
 omega
theorem L8 (hA : Dz ops = true) {k : Nat} (hks : k ≤ ops.size) {listed : Array Bool} (hs : listed.size = ops.size) : ∀ c, c < k → listed.getD c false = false → ∃ i, i ∈ Region.ready .any ops listed := by
 intro c
 induction c using Nat.strongRecOn with
 | _ c ihc =>
   intro hck hcf
   have hco : ops[c]? = some ops[c] := by simp [show c < ops.size by omega]
   by_cases hr : ∀ e ∈ (ops[c]).after, Region.binds .any e = true → listed.getD e.on false = true
   · exact ⟨c, (E7 hs).2 ⟨_, hco, hcf, hr⟩⟩
   simp only [Classical.not_forall] at hr
   obtain ⟨e, he, hb, hf⟩ := hr
   have hlt := Ej hA hco e he hb
   exact ihc e.on hlt oQ (by simpa using hf)
theorem Zf {k : Nat} {wp w : World} {w0 : World} {base : Env} {dh : Nat} {vh : Value} (hu : Up w0 wp) (hok : It n ops (k + 1) = true) (hT : Gl ops (k + 1) = true) (hA : Dz ops = true) (hC : Ft ops (k + 1) = true) (hkk : k < ops.size) (E : Nat → Env) (hE0 : E 0 = [])
   (hE : ∀ (i : Nat) (o : Oper), i < k → ops[i]? = some o → ∃ ph d, o.dst = some d ∧ phUp ph ∧ vL P n ds ops w0 (Av (o.looksAt ops) (E i) ++ base) o ph ∧ E (i + 1) = (d, ph) :: E i)
   (hbp : Cd base = true) (hbase : ∀ i ph, lk base i = some ph → ∀ (j : Nat) (o : Oper), j < k + 1 → ops[j]? = some o → o.dst ≠ some i)
   (hdh : ∀ o, ops[k]? = some o → o.dst = some dh)
   (hQ : ∀ a, Ag n ds ((dh, .eq vh) :: (Ec (E k) ++ base)) a w → wpListIn (FR R) m P ops Q (ops.toList.drop (k + 1)) a w) :
   ∀ (fuel : Nat) (listed : Array Bool) (a : Go.Act), listed.size = ops.size → listed.toList.countP (· == false) ≤ fuel → (∀ j, k + 1 ≤ j → j < ops.size → listed.getD j false = false) → listed.getD k false = true → (∀ j, j < k → listed.getD j false = false → Ki ops k j = true) → Dn ops listed → Ag n ds base a w → a.tmps.getD dh undef = vh →
     (∀ (j : Nat) (o : Oper) (d : Nat) (ph : Ph), j < k → ops[j]? = some o → o.dst = some d → E (j + 1) = (d, ph) :: E j → plainPh ph → listed.getD j false = true → ph.holds (a.tmps.getD d undef) w) →
     wpAnyIn (FR R) m P .any ops Q fuel listed a w := by
 have hE' : ∀ (i : Nat) (o : Oper), i < k → ops[i]? = some o → ∃ ph d, o.dst = some d ∧ E (i + 1) = (d, ph) :: E i := fun i o hi ho => let ⟨ph, d, h1, _, _, h2⟩ := hE i o hi ho; ⟨ph, d, h1, h2⟩
 have hDP := Wb hE0 hE' oQ
 have hfull : ∀ (fuel : Nat) (listed : Array Bool) (a : Go.Act), listed.size = ops.size → listed.toList.countP (· == false) ≤ fuel → (∀ j, k + 1 ≤ j → j < ops.size → listed.getD j false = false) → listed.getD k false = true → (∀ j, j < k → listed.getD j false = true) → Ag n ds base a w → a.tmps.getD dh undef = vh →
     (∀ (j : Nat) (o : Oper) (d : Nat) (ph : Ph), j < k → ops[j]? = some o → o.dst = some d → E (j + 1) = (d, ph) :: E j → plainPh ph → listed.getD j false = true → ph.holds (a.tmps.getD d undef) w) →
     wpAnyIn (FR R) m P .any ops Q fuel listed a w := by
   intro fuel listed a hs hc hno hk hall ha hv hI
   refine Fe hT hA (ops.size - (k + 1)) (k + 1) fuel listed a w rfl oQ (Nat.le_refl _) (Qm hs hc hno) ⟨hs, fun j hj => ?_⟩ (hQ a ⟨ha.defers, ha.size, fun i ph hi => ?_⟩)
   · by_cases h : j < k + 1
     · rw [decide_eq_true h]
       by_cases e : j = k
       · rw [e]; exact hk
       exact hall j oQ
     rw [hno j oQ hj, decide_eq_false h]
   by_cases e : i = dh
   · subst e
     rw [Ap] at hi
     cases hi
     exact hv
   rw [Au e] at hi
   rcases Df hi with h | h
   · obtain ⟨j, o, hj, ho, hd, he, hp⟩ := hDP _ _ _ (Nat.le_refl _) h
     exact hI j o i ph hj ho hd he hp (hall j hj)
   exact ha.val i ph h
 have hEl : ∀ c i ph, c ≤ k → lk (E c) i = some ph → ∃ j o, j < c ∧ ops[j]? = some o ∧ o.dst = some i := by
   intro c
   induction c with
   | zero => intro i ph _ h; rw [hE0] at h; cases h
   | succ c ih =>
     intro i ph hk h
     have hko : ops[c]? = some ops[c] := by simp [show c < ops.size by omega]
     obtain ⟨q, d, hd, he⟩ := hE' c _ oQ hko
     rw [he] at h
     by_cases e : i = d
     · subst e; exact ⟨c, _, by omega, hko, hd⟩
     rw [Au e] at h
     obtain ⟨j, o, h1, h2⟩ := ih i ph oQ h
     exact ⟨j, o, by omega, h2⟩
 intro fuel
 induction fuel with
 | zero =>
   intro listed a hs hc hno hk hlate hD ha hv hI
   refine hfull 0 listed a hs hc hno hk (fun i hi => ?_) ha hv hI
   have h0 : listed.toList.countP (· == false) = 0 := by omega
   rw [List.countP_eq_zero] at h0
   have hlt : i < listed.size := by omega
   have := h0 listed[i] (by simp)
   rw [Array.getD_eq_getD_getElem?]
   simp only [hlt, Array.getElem?_eq_getElem, Option.getD_some]
   simpa using this
 | succ fuel ih =>
   intro listed a hs hc hno hk hlate hD ha hv hI
   by_cases hall : ∀ j, j < k → listed.getD j false = true
   · exact hfull _ listed a hs hc hno hk hall ha hv hI
   refine ⟨fun hr => ?_, fun i hi => ?_⟩
   · exfalso
     simp only [Classical.not_forall] at hall
     obtain ⟨j, hj, hf⟩ := hall
     obtain ⟨i, hi⟩ := L8 hA (k := k) oQ hs j hj (by simpa using hf)
     rw [hr] at hi
     cases hi
   obtain ⟨o, hio, hbi, hed⟩ := (E7 hs).1 hi
   have hi' : i < ops.size := (Array.getElem?_eq_some_iff.1 hio).1
   have hlt : i < listed.size := by omega
   have hik : i < k := by
     rcases Nat.lt_trichotomy i k with h | h | h
     · exact h
     · subst h; rw [hk] at hbi; cases hbi
     exfalso
     by_cases e : i = k + 1
     · subst e
       exact hall fun j hj => M7 hC hD hio hed (k + 1 - j) j rfl oQ
     obtain ⟨e', he, hb, hon⟩ := K8 hT hio (show k + 1 < i by omega)
     have h1 := hed e' he hb
     rw [hon, hno (i - 1) oQ (by omega)] at h1
     cases h1
   obtain ⟨o', x, ho', hop, hg, hfree, _⟩ := Ze (hlate i hik hbi)
   rw [hio] at ho'
   cases ho'
   obtain ⟨hd0, hpair⟩ := Oe hok (show i < k + 1 by omega) hio
   obtain ⟨ph, d, hd, hup, hopr, hEi⟩ := hE i o hik hio
   have hdn : d < n := by obtain ⟨d', h1, h2⟩ := hd0; rw [hd] at h1; cases h1; exact h2
   have hag : Ag n ds (Av (o.looksAt ops) (E i) ++ base) a wp := by
     refine ⟨ha.defers, ha.size, fun t q ht => ?_⟩
     rcases Df ht with h | h
     · obtain ⟨h1, h2⟩ := Ef h
       obtain ⟨j, p, hj, hp, hpd⟩ := hEl _ _ _ oQ h2
       exact absurd hpd (hfree t h1 j p oQ hp)
     exact E6 hbp h (ha.val t q h)
   have hne : d ≠ dh := by
     intro e
     have hko : ops[k]? = some ops[k] := by simp [hkk]
     exact (hpair k _ oQ hko).1 oQ (by rw [hd, hdh _ hko, e])
   have hrun : ∀ ww, (execOp a.eval o).run P ww = .ok (.value (a.eval x)) ww := fun ww => by
     simp only [execOp, hop]; rfl
   have h2 := hopr a wp hu hag
   have hw : Region.wanted o (yielded ops a.tmps) = true := by simp [Region.wanted, hg]
   rw [if_pos hw] at h2
   have hval : ph.holds (a.eval x) wp := by
     rcases h2 with ⟨v, w', h3, h4, h5⟩ | ⟨f, args, w1, h3, _⟩
     · rw [hrun] at h3; cases h3; exact h5
     rw [hrun] at h3; cases h3
   unfold wpOpIn
   rw [hio]
   dsimp only
   rw [if_pos hw]
   refine F4 (hrun w) (ih _ _ (by simpa using hs) (Nb hlt hbi hc) ?_ ?_ ?_ (Ul hlt hio hed hD) ?_ ?_ ?_)
   · intro j hj hjs
     rw [C8 hlt, if_neg (by omega)]
     exact hno j hj hjs
   · rw [C8 hlt]; split <;> first | rfl | exact hk
   · intro j hj hl
     rw [C8 hlt] at hl
     split at hl
     · cases hl
     exact hlate j hj hl
   · refine ⟨by rw [hd]; exact ha.defers, by rw [hd]; simp [Go.Act.put, ha.size], fun t q ht => ?_⟩
     have hne' : t ≠ d := fun e => hbase t q ht i o oQ hio (by rw [hd, e])
     rw [hd, Cz hne']
     exact ha.val t q ht
   · rw [hd, Cz (fun e => hne e.symm)]; exact hv
   intro j p d' q hjk hp hpd hEj hpl hl
   by_cases e : j = i
   · subst e
     rw [hio] at hp
     cases hp
     rw [hd] at hpd
     cases hpd
     rw [hEi] at hEj
     cases hEj
     rw [hd, Ei (by rw [ha.size]; exact hdn)]
     exact hpl.holds hval
   have hne' : d' ≠ d := fun ee => (hpair j p oQ hp).1 (fun ee => e ee.symm) (by rw [hd, hpd, ee])
   rw [hd, Cz hne']
   rw [C8 hlt, if_neg e] at hl
   exact hI j p d' q hjk hp hpd hEj hpl hl
theorem Wc {k : Nat} {w0 : World} {base : Env} {dh : Nat} {oh : Oper} {PostH : Value → World → Prop} (hok : It n ops (k + 1) = true) (hT : Gl ops (k + 1) = true) (hA : Dz ops = true) (hC : Ft ops (k + 1) = true) (hL : Zd ops k = true) (hkk : k < ops.size) (E : Nat → Env) (hE0 : E 0 = [])
   (hE : ∀ (i : Nat) (o : Oper), i < k → ops[i]? = some o → ∃ ph d, o.dst = some d ∧ phUp ph ∧ vL P n ds ops w0 (Av (o.looksAt ops) (E i) ++ base) o ph ∧ E (i + 1) = (d, ph) :: E i)
   (hbp : Cd base = true) (hbase : ∀ i ph, lk base i = some ph → ∀ (j : Nat) (o : Oper), j < k + 1 → ops[j]? = some o → o.dst ≠ some i)
   (hoh : ops[k]? = some oh) (hdh : oh.dst = some dh) (hgh : oh.guard = none)
   (hH : ∀ a w, Up w0 w → Ag n ds (Av (oh.looksAt ops) (E k) ++ base) a w → jH P oh a w PostH)
   (hQ : ∀ v w a, PostH v w → Ag n ds ((dh, .eq v) :: (Ec (E k) ++ base)) a w → wpListIn (FR R) m P ops Q (ops.toList.drop (k + 1)) a w) :
   ∀ (fuel : Nat) (listed : Array Bool) (a : Go.Act) (w : World), listed.size = ops.size → listed.toList.countP (· == false) ≤ fuel → (∀ j, k ≤ j → j < ops.size → listed.getD j false = false) → Dn ops listed → Up w0 w → Ag n ds base a w →
     (∀ (j : Nat) (o : Oper) (d : Nat) (ph : Ph), j < k → ops[j]? = some o → o.dst = some d → E (j + 1) = (d, ph) :: E j → listed.getD j false = true → ph.holds (a.tmps.getD d undef) w) →
     wpAnyIn (FR R) m P .any ops Q fuel listed a w := by
 have hEl : ∀ c i ph, c ≤ k → lk (E c) i = some ph → ∃ j o, j < c ∧ ops[j]? = some o ∧ o.dst = some i ∧ E (j + 1) = (i, ph) :: E j := by
   intro c
   induction c with
   | zero => intro i ph _ h; rw [hE0] at h; cases h
   | succ c ih =>
     intro i ph hk h
     have hko : ops[c]? = some ops[c] := by simp [show c < ops.size by omega]
     obtain ⟨q, d, hd, _, _, he⟩ := hE c _ oQ hko
     rw [he] at h
     by_cases e : i = d
     · subst e
       rw [Ap] at h
       cases h
       exact ⟨c, _, by omega, hko, hd, he⟩
     rw [Au e] at h
     obtain ⟨j, o, h1, h2⟩ := ih i ph oQ h
     exact ⟨j, o, by omega, h2⟩
 intro fuel
 induction fuel with
 | zero =>
   intro listed a w hs hc hno hD hu ha hI
   exfalso
   have h0 : listed.toList.countP (· == false) = 0 := by omega
   rw [List.countP_eq_zero] at h0
   have hlt : k < listed.size := by omega
   have := h0 listed[k] (by simp)
   have h1 := hno k (Nat.le_refl _) hkk
   rw [Array.getD_eq_getD_getElem?] at h1
   simp only [hlt, Array.getElem?_eq_getElem, Option.getD_some] at h1
   rw [h1] at this
   simp at this
 | succ fuel ih =>
   intro listed a w hs hc hno hD hu ha hI
   refine ⟨fun hr => ?_, fun i hi => ?_⟩
   · exfalso
     obtain ⟨i, hi⟩ := L8 hA (k := k + 1) oQ hs k oQ (hno k (Nat.le_refl _) hkk)
     rw [hr] at hi
     cases hi
   obtain ⟨o, hio, hbi, hed⟩ := (E7 hs).1 hi
   have hi' : i < ops.size := (Array.getElem?_eq_some_iff.1 hio).1
   have hlt : i < listed.size := by omega
   have hik : i ≤ k := by
     rcases Nat.lt_or_ge k i with h | h
     · exfalso
       by_cases e : i = k + 1
       · subst e
         have := M7 hC hD hio hed 1 k oQ oQ
         rw [hno k (Nat.le_refl _) hkk] at this
         cases this
       obtain ⟨e', he, hb, hon⟩ := K8 hT hio (show k + 1 < i by omega)
       have h1 := hed e' he hb
       rw [hon, hno (i - 1) oQ (by omega)] at h1
       cases h1
     exact h
   obtain ⟨hd0, hpair⟩ := Oe hok (show i < k + 1 by omega) hio
   by_cases hkI : i = k
   · subst hkI
     rw [hoh] at hio
     cases hio
     have hdn : dh < n := by obtain ⟨d', h1, h2⟩ := hd0; rw [hdh] at h1; cases h1; exact h2
     have hag : Ag n ds (Av (oh.looksAt ops) (E i) ++ base) a w := by
       refine ⟨ha.defers, ha.size, fun t q ht => ?_⟩
       rcases Df ht with h | h
       · obtain ⟨h1, h2⟩ := Ef h
         obtain ⟨j, p, hj, hp, hpd, hEj⟩ := hEl _ _ _ (Nat.le_refl _) h2
         obtain ⟨e, he, hbe, hon'⟩ := (hpair j p oQ hp).2 t hpd h1
         have := hed e he hbe
         exact hI j p t q hj hp hpd hEj (by rw [← hon']; exact this)
       exact ha.val t q h
     unfold wpOpIn
     rw [hoh]
     dsimp only
     have hw : Region.wanted oh (yielded ops a.tmps) = true := by simp [Region.wanted, hgh]
     rw [if_pos hw]
     refine Ke (hH a w hu hag) fun v w' hv => (Zf hu hok hT hA hC hkk E hE0 hE hbp hbase (fun o' ho' => by rw [hoh] at ho'; cases ho'; exact hdh) (fun a' ha' => hQ v w' a' hv ha') fuel _ _ (by simpa using hs) (Nb hlt hbi hc) ?_ ?_ ?_ (Ul hlt hoh hed hD) ?_ ?_ ?_)
     · intro j hj hjs
       rw [C8 hlt, if_neg (by omega)]
       exact hno j oQ hjs
     · rw [C8 hlt, if_pos rfl]
     · intro j hj hl
       rw [C8 hlt, if_neg (by omega)] at hl
       cases hla : Ki ops i j with
       | true => rfl
       | false =>
         have := fD hL hD hoh hed (i - j) j rfl hj hla
         rw [this] at hl; cases hl
     · refine ⟨by rw [hdh]; exact ha.defers, by rw [hdh]; simp [Go.Act.put, ha.size], fun t q ht => ?_⟩
       have hne' : t ≠ dh := fun e => hbase t q ht i _ oQ hoh (by rw [hdh, e])
       rw [hdh, Cz hne']
       exact E6 hbp ht (ha.val t q ht)
     · rw [hdh, Ei (by rw [ha.size]; exact hdn)]
     intro j p d' q hjk hp hpd hEj hpl hl
     have hne' : d' ≠ dh := fun ee => (hpair j p oQ hp).1 oQ (by rw [hdh, hpd, ee])
     rw [hdh, Cz hne']
     rw [C8 hlt, if_neg (by omega)] at hl
     exact hpl.holds (hI j p d' q hjk hp hpd hEj hl)
   have hik : i < k := by omega
   obtain ⟨ph, d, hd, hup, hop, hEi⟩ := hE i o hik hio
   have hdn : d < n := by obtain ⟨d', h1, h2⟩ := hd0; rw [hd] at h1; cases h1; exact h2
   have hag : Ag n ds (Av (o.looksAt ops) (E i) ++ base) a w := by
     refine ⟨ha.defers, ha.size, fun t q ht => ?_⟩
     rcases Df ht with h | h
     · obtain ⟨h1, h2⟩ := Ef h
       obtain ⟨j, p, hj, hp, hpd, hEj⟩ := hEl _ _ _ oQ h2
       obtain ⟨e, he, hbe, hon'⟩ := (hpair j p oQ hp).2 t hpd h1
       have := hed e he hbe
       exact hI j p t q oQ hp hpd hEj (by rw [← hon']; exact this)
     exact ha.val t q h
   have step : ∀ v w', Up w w' → ph.holds v w' → wpAnyIn (FR R) m P .any ops Q fuel (listed.setIfInBounds i true) (a.put o.dst v) w' := by
     intro v w' hu' hv
     refine ih _ _ _ (by simpa using hs) (Nb hlt hbi hc) ?_ (Ul hlt hio hed hD) (hu.trans hu') ?_ ?_
     · intro j hj hjs
       rw [C8 hlt, if_neg (by omega)]
       exact hno j hj hjs
     · refine ⟨by rw [hd]; exact ha.defers, by rw [hd]; simp [Go.Act.put, ha.size], fun t q ht => ?_⟩
       have hne : t ≠ d := fun e => hbase t q ht i o oQ hio (by rw [hd, e])
       rw [hd, Cz hne]
       exact E6 hbp ht (ha.val t q ht)
     intro j p d' q hjk hp hpd hEj hl
     by_cases e : j = i
     · subst e
       rw [hio] at hp
       cases hp
       rw [hd] at hpd
       cases hpd
       rw [hEi] at hEj
       cases hEj
       rw [hd, Ei (by rw [ha.size]; exact hdn)]
       exact hv
     have hne : d' ≠ d := fun ee => (hpair j p oQ hp).1 (fun ee => e ee.symm) (by rw [hd, hpd, ee])
     rw [hd, Cz hne]
     obtain ⟨q', d'', hd'', hup', _, hEj'⟩ := hE j p hjk hp
     rw [hEj] at hEj'
     cases hEj'
     rw [C8 hlt, if_neg e] at hl
     exact hup' _ _ _ (hI j p d' q hjk hp hpd hEj hl) hu'
   have h2 := hop a w hu hag
   unfold wpOpIn
   rw [hio]
   dsimp only
   by_cases hw : Region.wanted o (yielded ops a.tmps) = true
   · rw [if_pos hw] at h2 ⊢
     exact Ke h2 fun v w' ⟨h3, h4⟩ => step v w' h3 h4
   rw [if_neg hw] at h2 ⊢
   exact ⟨fun _ _ => trivial, step _ _ (Up.refl w) h2⟩
theorem Qn {id : Nat} {opsL : List Oper} (k : Nat) {oh : Oper} {dh : Nat} (PostH : Value → World → Prop) (hm : P.follows .mixedOrders = true) (hok : It n opsL.toArray (k + 1) = true) (hT : Gl opsL.toArray (k + 1) = true) (hA : Dz opsL.toArray = true) (hC : Ft opsL.toArray (k + 1) = true) (hL : Zd opsL.toArray k = true)
   (hl : Cd l = true) {base : Env} (hb : De (Qf (opsL.take (k + 1))) l = base) (hoh : opsL[k]? = some oh) (hdh : oh.dst = some dh) (hgh : oh.guard = none)
   (h : HW P n ds opsL.toArray base w [] (opsL.take k) (fun env => (∀ a w', Up w w' → Ag n ds (Av (oh.looksAt opsL.toArray) env ++ base) a w' → jH P oh a w' PostH) ∧ ∀ v w', PostH v w' → LW R m P n ds opsL.toArray Q (opsL.drop (k + 1)) ((dh, .eq v) :: (Ec env ++ base)) w')) : CW R m P n ds (.region id opsL.toArray true) Q l w := by
 intro a ha
 obtain ⟨E, hE0, hK, hE⟩ := HW.Et _ _ h
 subst hb
 have hks : k + 1 ≤ opsL.length := by
   unfold It at hok
   rw [Bool.and_eq_true] at hok
   simpa using Nat.le_of_ble_eq_true hok.1
 have hlen : (opsL.take k).length = k := by rw [List.length_take]; omega
 rw [hlen] at hK
 have hbp : Cd (De (Qf (opsL.take (k + 1))) l) = true := by
   have : ∀ (ks : List Nat) (l : Env), Cd l = true → Cd (De ks l) = true := by
     intro ks l
     induction l with
     | nil => intro _; rfl
     | cons p l ih =>
       obtain ⟨i, ph⟩ := p
       cases ph with
       | pred q => intro h; simp [Cd] at h
       | eq v => intro h; unfold De; cases Lr ks i <;> simp [Cd] at h ⊢ <;> exact ih h
       | cond b v => intro h; unfold De; cases Lr ks i <;> simp [Cd] at h ⊢ <;> exact ih h
   exact this _ _ hl
 refine wpIn_region_any hm (Wc (w0 := w) (base := De (Qf (opsL.take (k + 1))) l) (oh := oh) hok hT hA hC hL (by rw [List.size_toArray]; omega) E hE0 (fun i o hik ho => hE i o (by rw [List.getElem?_take_of_lt hik]; simpa using ho)) hbp ?_ (by simpa using hoh) hdh hgh hK.1 ?_ _ _ _ _ (by simp) ?_ ?_ ?_ (Up.drew w) ?_ ?_)
 · intro i ph hi j o hj ho hd
   obtain ⟨h1, h2⟩ := Cv hi
   exact h1 (Qg (by have := List.mem_of_getElem? (l := opsL.take (k + 1)) (i := j) (by rw [List.getElem?_take_of_lt hj]; simpa using ho); exact this) hd)
 · intro v w' a' hv ha'
   exact hK.2 v w' hv a' ha'
 · have : (Array.replicate opsL.toArray.size false).toList.countP (· == false) ≤ (Array.replicate opsL.toArray.size false).toList.length := List.countP_le_length
   simpa using this
 · intro j _ _
   rw [Array.getD_eq_getD_getElem?, Array.getElem?_replicate]
   split <;> rfl
 · intro i o _ hli
   rw [Array.getD_eq_getD_getElem?, Array.getElem?_replicate] at hli
   split at hli <;> simp at hli
 · exact ⟨ha.defers, ha.size, fun i ph hi => E6 hl (Cv hi).2 (ha.val _ _ (Cv hi).2)⟩
 intro j o d ph _ ho hd _ hlj
 rw [Array.getD_eq_getD_getElem?, Array.getElem?_replicate] at hlj
 split at hlj <;> simp at hlj
theorem REv.y {o : Oper} {a : Go.Act} {Post : Value → World → Prop} (h : REv P n ds l w o Post) (ha : Ag n ds l a w) : jH P o a w Post := .inl (h a ha)
theorem sJ {o : Oper} {rest : List Oper} {Post : Value → World → Prop} (h : REv P n ds l w o Post) (hg : o.guard = none) (hd : o.dst = none) (hl : Cd l = true)
   (k : ∀ v w', Post v w' → LW R m P n ds ops Q rest l w') : LW R m P n ds ops Q (o :: rest) l w := fun a ha =>
 let ⟨v, w', hr, hp⟩ := h a ha
 wpListIn_plain hg fun K hK => F4 hr (hK _ _ (k v w' hp _ (by rw [hd]; exact ha.world hl w')))
end
end Go.Wx
end
