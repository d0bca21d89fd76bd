import Derived.Test.YtpofdidofjlkhaaKR14
import Derived.Test.YtpofdidofjlkhaaProg
section
namespace Go.Proofs
open Go.Proofs.Try
open Go.Wx
theorem Try.en4 : En Try.prog 4 := enters_fn func4 kQ rfl
theorem Try.en5 : En Try.prog 5 := enters_fn func5 kQ rfl
theorem Try.en6 : En Try.prog 6 := enters_fn func6 kQ rfl
theorem Try.en7 : En Try.prog 7 := enters_fn func7 kQ rfl
theorem Try.en8 : En Try.prog 8 := enters_fn func8 kQ rfl
theorem Try.en9 : En Try.prog 9 := enters_fn func9 kQ rfl
theorem Try.en10 : En Try.prog 10 := enters_fn func10 kQ rfl
theorem Try.en11 : En Try.prog 11 := enters_fn func11 kQ rfl
theorem Try.en12 : En Try.prog 12 := enters_fn func12 kQ rfl
theorem Try.en13 : En Try.prog 13 := enters_fn func13 kQ rfl
theorem Try.en14 : En Try.prog 14 := enters_fn func14 kQ rfl
theorem Try.en15 : En Try.prog 15 := enters_fn func15 kQ rfl
theorem Try.en16 : En Try.prog 16 := enters_fn func16 kQ rfl
theorem Try.en17 : En Try.prog 17 := enters_fn func17 kQ rfl
theorem Try.en18 : En Try.prog 18 := enters_fn func18 kQ rfl
theorem Try.en19 : En Try.prog 19 := enters_fn func19 kQ rfl
theorem Try.en20 : En Try.prog 20 := enters_fn func20 kQ rfl
theorem Try.en21 : En Try.prog 21 := enters_fn func21 kQ rfl
theorem Try.en22 : En Try.prog 22 := enters_fn func22 kQ rfl
theorem Try.en23 : En Try.prog 23 := enters_fn func23 kQ rfl
theorem Try.en24 : En Try.prog 24 := enters_fn func24 kQ rfl
theorem Try.en25 : En Try.prog 25 := enters_fn func25 kQ rfl
theorem Try.en26 : En Try.prog 26 := enters_fn func26 kQ rfl
theorem Try.en27 : En Try.prog 27 := enters_fn func27 kQ rfl
theorem Try.en28 : En Try.prog 28 := enters_fn func28 kQ rfl
theorem Try.en29 : En Try.prog 29 := enters_fn func29 kQ rfl
theorem Try.en30 : En Try.prog 30 := enters_fn func30 kQ rfl
theorem Try.en31 : En Try.prog 31 := enters_fn func31 kQ rfl
theorem Try.en32 : En Try.prog 32 := enters_fn func32 kQ rfl
theorem Try.en33 : En Try.prog 33 := enters_fn func33 kQ rfl
theorem Try.en34 : En Try.prog 34 := enters_fn func34 kQ rfl
theorem Try.en35 : En Try.prog 35 := enters_fn func35 kQ rfl
theorem Try.en36 : En Try.prog 36 := enters_fn func36 kQ rfl
theorem Try.en37 : En Try.prog 37 := enters_fn func37 kQ rfl
theorem Try.en38 : En Try.prog 38 := enters_fn func38 kQ rfl
theorem Try.en39 : En Try.prog 39 := enters_fn func39 kQ rfl
theorem Try.en40 : En Try.prog 40 := enters_fn func40 kQ rfl
theorem Try.en41 : En Try.prog 41 := enters_fn func41 kQ rfl
theorem Try.en42 : En Try.prog 42 := enters_fn func42 kQ rfl
theorem Try.en43 : En Try.prog 43 := enters_fn func43 kQ rfl
theorem Try.en44 : En Try.prog 44 := enters_fn func44 kQ rfl
theorem Try.en45 : En Try.prog 45 := enters_fn func45 kQ rfl
theorem Try.en46 : En Try.prog 46 := enters_fn func46 kQ rfl
theorem Try.en49 : En Try.prog 49 := enters_fn func49 kQ rfl
theorem Try.en50 : En Try.prog 50 := enters_fn func50 kQ rfl
theorem Try.en51 : En Try.prog 51 := enters_fn func51 kQ rfl
theorem Try.en53 : En Try.prog 53 := enters_fn func53 kQ rfl
theorem Try.en54 : En Try.prog 54 := enters_fn func54 kQ rfl
theorem Try.en55 : En Try.prog 55 := enters_fn func55 kQ rfl
theorem Try.places37 (w : World) : (placesOf 37).run Try.prog w = .ok #[(0, 1), (1, 1)] w := by kernel_rfl
theorem Try.places43 (w : World) : (placesOf 43).run Try.prog w = .ok #[(0, 1), (1, 1), (2, 1)] w := by kernel_rfl
theorem Try.places51 (w : World) : (placesOf 51).run Try.prog w = .ok #[(0, 3), (3, 1)] w := by kernel_rfl
theorem Try.places53 (w : World) : (placesOf 53).run Try.prog w = .ok #[] w := by kernel_rfl
theorem Try.places57 (w : World) : (placesOf 57).run Try.prog w = .ok #[(0, 1), (1, 1)] w := by kernel_rfl
theorem Try.places59 (w : World) : (placesOf 59).run Try.prog w = .ok #[(0, 1), (1, 2)] w := by kernel_rfl
end Go.Proofs
end
section
namespace Go.Wx
open Go.RowKit
section
variable {R : Option Nat} {m : Nat} {P : Program} {n : Nat} {ds : List Deferred} {Q : Exit → Go.Act → World → Prop} {l : Env} {w : World} {ops : Array Oper}
theorem fuel_set {listed : Array Bool} {i fuel : Nat} (hlt : i < listed.size) (hbi : listed.getD i false = false) (hc : listed.toList.countP (· == false) ≤ fuel + 1) : (listed.setIfInBounds i true).toList.countP (· == false) ≤ fuel := by
 have hbi' : listed[i] = false := by
   rw [Array.getD_eq_getD_getElem?] at hbi
   simp only [hlt, Array.getElem?_eq_getElem, Option.getD_some] at hbi
   exact hbi
 rw [Array.toList_setIfInBounds, List.countP_set (by simpa using hlt)]
 have hpos : 0 < listed.toList.countP (· == false) := List.countP_pos_iff.2 ⟨listed[i], by simp, by simp [hbi']⟩
 have e1 : (listed.toList[i]'(by simpa using hlt) == false) = true := by simp [hbi']
 rw [if_pos e1, if_neg (by simp)]
 omega
theorem dn_set {listed : Array Bool} {i : Nat} {o : Oper} (hlt : i < listed.size) (hio : ops[i]? = some o) (hed : ∀ e ∈ o.after, Region.binds .any e = true → listed.getD e.on false = true) (hD : Dn ops listed) : Dn ops (listed.setIfInBounds i true) := by
 intro j p hp hl e he hb
 rw [getD_set hlt] at hl ⊢
 by_cases e1 : e.on = i
 · rw [if_pos e1]
 rw [if_neg e1]
 by_cases e2 : j = i
 · subst e2
   rw [hio] at hp; cases hp
   exact hed e he hb
 rw [if_neg e2] at hl
 exact hD j p hp hl e he hb
theorem count_drop {listed : Array Bool} {s fuel : Nat} (hs : listed.size = ops.size) (hc : listed.toList.countP (· == false) ≤ fuel) (hno : ∀ j, s ≤ j → j < ops.size → listed.getD j false = false) : ops.size - s ≤ fuel := by
 have h1 : (listed.toList.drop s).countP (· == false) = ops.size - s := by
   rw [List.countP_eq_length.2]
   · simp [hs]
   intro b hb
   obtain ⟨j, hj, he⟩ := List.mem_iff_getElem.1 hb
   rw [List.getElem_drop] at he
   have hj' : s + j < listed.size := by simp at hj; omega
   have := hno (s + j) oQ oQ
   rw [Array.getD_eq_getD_getElem?] at this
   simp only [hj', Array.getElem?_eq_getElem, Option.getD_some] at this
   rw [← he]
   simpa using this
 have h2 : (listed.toList.drop s).countP (· == false) ≤ listed.toList.countP (· == false) := (List.drop_sublist s _).countP_le
 omega
theorem ready_some (hA : aheadOK ops = true) {k : Nat} (hks : k ≤ ops.size) {listed : Array Bool} (hs : listed.size = ops.size) : ∀ c, c < k → listed.getD c false = false → ∃ i, i ∈ Region.ready .any ops listed := by
 intro c
 induction c using Nat.strongRecOn with
 | _ c ihc =>
   intro hck hcf
   have hco : ops[c]? = some ops[c] := by simp [show c < ops.size by omega]
   by_cases hr : ∀ e ∈ (ops[c]).after, Region.binds .any e = true → listed.getD e.on false = true
   · exact ⟨c, (ready_iff hs).2 ⟨_, hco, hcf, hr⟩⟩
   simp only [Classical.not_forall] at hr
   obtain ⟨e, he, hb, hf⟩ := hr
   have hlt := aheadOK_at hA hco e he hb
   exact ihc e.on hlt oQ (by simpa using hf)
theorem LW.rn {o : Oper} {rest : List Oper} {Post : Value → World → Prop} (h : REv P n ds l w o Post) (hg : o.guard = none) (hd : o.dst = none) (hl : noPred l = true)
   (k : ∀ v w', Post v w' → LW R m P n ds ops Q rest l w') : LW R m P n ds ops Q (o :: rest) l w := fun a ha =>
 let ⟨v, w', hr, hp⟩ := h a ha
 wpListIn_plain hg fun K hK => wpIn_value hr (hK _ _ (k v w' hp _ (by rw [hd]; exact ha.world hl w')))
end
end Go.Wx
end
section
namespace Go.Wx
open Go.RowKit
section
variable (R : Option Nat) (m : Nat) (P : Program) (n : Nat) (ds : List Deferred)
def AWU (ops : Array Oper) (Q : Exit → Go.Act → World → Prop) (s : Nat) (l : Env) (w : World) : Prop := ∀ (fuel : Nat) (listed : Array Bool) (a : Go.Act), ops.size - s ≤ fuel → UpTo ops s listed → Ag n ds l a w → wpAnyIn (FR R) m P .any ops Q fuel listed a w
end
def farOK (ops : Array Oper) (k : Nat) : Bool :=
 (List.range ops.size).all fun i => !Nat.ble (k + 1) i || (match ops[i]? with | none => false | some o => o.after.any fun e => Region.binds .any e && Nat.ble k e.on)
def dstOK (n : Nat) (ops : Array Oper) (s k : Nat) : Bool := (List.range k).all fun i => !Nat.ble s i || (match ops[i]? with
 | none => false
 | some o => match o.dst with
   | none => false
   | some d => Nat.ble (d + 1) n && (List.range k).all fun j => !Nat.ble s j || (Nat.beq i j || (match ops[j]? with | none => true | some p => !(p.dst == some d))))
theorem lk_mem : ∀ {l : Env} {i : Nat} {ph : Ph}, lk l i = some ph → (i, ph) ∈ l
 | [], _, _, h => by cases h
 | (j, q) :: l, i, ph, h => by
   by_cases e : i = j
   · subst e; rw [lk_cons_eq] at h; cases h; exact List.mem_cons_self
   rw [lk_cons_ne e] at h; exact List.mem_cons_of_mem _ (lk_mem h)
section
variable {R : Option Nat} {m : Nat} {P : Program} {n : Nat} {ds : List Deferred} {Q : Exit → Go.Act → World → Prop} {l : Env} {w : World} {ops : Array Oper}
theorem farOK_at {k : Nat} (h : farOK ops k = true) {i : Nat} {o : Oper} (ho : ops[i]? = some o) (hk : k < i) : ∃ e ∈ o.after, Region.binds .any e = true ∧ k ≤ e.on := by
 have hi : i < ops.size := (Array.getElem?_eq_some_iff.1 ho).1
 have h1 := List.all_eq_true.1 h i (List.mem_range.2 hi)
 have hb : Nat.ble (k + 1) i = true := Nat.ble_eq_true_of_le hk
 simp only [ho, hb, Bool.not_true, Bool.false_or] at h1
 obtain ⟨e, he, hh⟩ := Array.any_eq_true.1 h1
 simp only [Bool.and_eq_true] at hh
 exact ⟨_, Array.getElem_mem he, hh.1, Nat.le_of_ble_eq_true hh.2⟩
theorem CW.draws_up {id : Nat} {opsL : List Oper} (hm : P.follows .mixedOrders = true) (hl : noPred l = true) (h : AWU R m P n ds opsL.toArray Q 0 l w.drew) : CW R m P n ds (.region id opsL.toArray true) Q l w := fun a ha =>
 wpIn_region_any hm (h _ _ a (by simp) ⟨by simp, fun j hj => by
   rw [Array.getD_eq_getD_getElem?, Array.getElem?_replicate]
   split <;> rfl⟩ (ha.world hl _))
def allL (p : Nat → Oper → Prop) : Nat → List Oper → Prop
 | _, [] => True
 | i, o :: r => p i o ∧ allL p (i + 1) r
theorem allL.nil {p : Nat → Oper → Prop} {i : Nat} : allL p i [] := trivial
theorem allL.cons {p : Nat → Oper → Prop} {i : Nat} {o : Oper} {r : List Oper} (h : p i o) (k : allL p (i + 1) r) : allL p i (o :: r) := ⟨h, k⟩
abbrev aC := @allL.cons
theorem allL.at {p : Nat → Oper → Prop} : ∀ {r : List Oper} {i j : Nat} {o : Oper}, allL p i r → r[j]? = some o → p (i + j) o
 | [], _, _, _, _, h => by cases h
 | x :: r, i, 0, o, hp, h => by
   rw [List.getElem?_cons_zero] at h
   cases h; exact hp.1
 | x :: r, i, j + 1, o, hp, h => by
   rw [List.getElem?_cons_succ] at h
   have := allL.at hp.2 h
   rwa [show i + 1 + j = i + (j + 1) by omega] at this
def freeOK (base : Env) (r : List Oper) : Bool := r.all fun o => match o.dst with | none => true | some d => (lk base d).isNone
theorem freeOK_at {base : Env} {r : List Oper} (h : freeOK base r = true) {i : Nat} {ph : Ph} (hi : lk base i = some ph) {o : Oper} (ho : o ∈ r) : o.dst ≠ some i := by
 intro e
 have := List.all_eq_true.1 h o ho
 simp [e, hi] at this
end
end Go.Wx
end
section
namespace Go.Wx
open Go.RowKit Go.MapKept
section
variable (R : Option Nat) (m : Nat) (P : Program) (n : Nat) (ds : List Deferred)
def OpG (o : Oper) (a : Go.Act) (w : World) (Post : Value → World → Prop) : Prop := OpY P o a w Post ∨ (∃ w', (execOp a.eval o).run P w = .ok .skip w' ∧ Post undef w')
def TG (ops : Array Oper) (env : Env) (f : Nat → Value) (w : World) (o : Oper) (Post : Value → World → Prop) : Prop := ∀ a, Ag n ds env a w → (∀ t, a.tmps.getD t undef = f t) → if Region.wanted o (yielded ops a.tmps) = true then OpG P o a w Post else Post undef w
def AWF (ops : Array Oper) (Q : Exit → Go.Act → World → Prop) (s : Nat) (l : Env) (f : Nat → Value) (w : World) : Prop := ∀ (fuel : Nat) (listed : Array Bool) (a : Go.Act), ops.size - s ≤ fuel → UpTo ops s listed → Ag n ds l a w → (∀ t, a.tmps.getD t undef = f t) → wpAnyIn (FR R) m P .any ops Q fuel listed a w
end
def dstOK' (n : Nat) (ops : Array Oper) (s k : Nat) : Bool := (List.range k).all fun i => !Nat.ble s i || (match ops[i]? with
 | none => false
 | some o => match o.dst with
   | none => true
   | some d => Nat.ble (d + 1) n && (List.range k).all fun j => !Nat.ble s j || (Nat.beq i j || (match ops[j]? with | none => true | some p => !(p.dst == some d))))
def knp (ops : Array Oper) (ph : Nat → Ph) (s : Nat) (o : Oper) : Env := o.after.toList.filterMap fun e => if (Region.binds .any e && Nat.ble s e.on) = true then ((ops[e.on]?).bind (·.dst)).map fun d => (d, ph e.on) else none
def allP (ops : Array Oper) (ph : Nat → Ph) (s k : Nat) : Env := (List.range k).filterMap fun j => if Nat.ble s j = true then ((ops[j]?).bind (·.dst)).map fun d => (d, ph j) else none
def DnL (ops : Array Oper) (L : Nat → Bool) : Prop := ∀ (i : Nat) (o : Oper), ops[i]? = some o → L i = true → ∀ e ∈ o.after, Region.binds .any e = true → L e.on = true
def setL (L : Nat → Bool) (i : Nat) : Nat → Bool := fun j => if j = i then true else L j
def setS (f : Nat → Value) (d : Option Nat) (v : Value) : Nat → Value := fun t => if d = some t then v else f t
section
variable {R : Option Nat} {m : Nat} {P : Program} {n : Nat} {ds : List Deferred} {Q : Exit → Go.Act → World → Prop} {l : Env} {w : World} {ops : Array Oper}
theorem dstOK'_at {s k : Nat} (h : dstOK' n ops s k = true) {i : Nat} {o : Oper} {d : Nat} (hs : s ≤ i) (hk : i < k) (ho : ops[i]? = some o) (hd : o.dst = some d) : d < n ∧ ∀ (j : Nat) (p : Oper), s ≤ j → j < k → j ≠ i → ops[j]? = some p → p.dst ≠ some d := by
 have h1 := List.all_eq_true.1 h i (List.mem_range.2 hk)
 have hb : Nat.ble s i = true := Nat.ble_eq_true_of_le hs
 simp only [hb, Bool.not_true, Bool.false_or, ho, hd] at h1
 simp only [Bool.and_eq_true] at h1
 refine ⟨Nat.le_of_ble_eq_true h1.1, fun j p hj hjk hne hp => ?_⟩
 have h2 := List.all_eq_true.1 h1.2 j (List.mem_range.2 hjk)
 have hb' : Nat.ble s j = true := Nat.ble_eq_true_of_le hj
 have hb2 : Nat.beq i j = false := by
   cases e : Nat.beq i j with
   | false => rfl
   | true => exact absurd (Nat.eq_of_beq_eq_true e).symm hne
 simp only [hb', Bool.not_true, Bool.false_or, hb2, hp] at h2
 intro e
 rw [e] at h2
 simp at h2
theorem knp_at {ph : Nat → Ph} {s : Nat} {o : Oper} {t : Nat} {q : Ph} (h : lk (knp ops ph s o) t = some q) : ∃ e ∈ o.after, Region.binds .any e = true ∧ s ≤ e.on ∧ ∃ p, ops[e.on]? = some p ∧ p.dst = some t ∧ q = ph e.on := by
 have h1 := lk_mem h
 unfold knp at h1
 rw [List.mem_filterMap] at h1
 obtain ⟨e, he, h2⟩ := h1
 split at h2
 · rename_i hc
   simp only [Bool.and_eq_true] at hc
   cases hp : ops[e.on]? with
   | none => rw [hp] at h2; cases h2
   | some p =>
     rw [hp] at h2
     cases hd : p.dst with
     | none => simp [hd] at h2
     | some d =>
       simp [hd] at h2
       obtain ⟨rfl, rfl⟩ := h2
       exact ⟨e, by simpa using he, hc.1, Nat.le_of_ble_eq_true hc.2, p, hp, hd, rfl⟩
 cases h2
theorem allP_at {ph : Nat → Ph} {s k : Nat} {t : Nat} {q : Ph} (h : lk (allP ops ph s k) t = some q) : ∃ j p, s ≤ j ∧ j < k ∧ ops[j]? = some p ∧ p.dst = some t ∧ q = ph j := by
 have h1 := lk_mem h
 unfold allP at h1
 rw [List.mem_filterMap] at h1
 obtain ⟨j, hj, h2⟩ := h1
 split at h2
 · rename_i hc
   cases hp : ops[j]? with
   | none => rw [hp] at h2; cases h2
   | some p =>
     rw [hp] at h2
     cases hd : p.dst with
     | none => simp [hd] at h2
     | some d =>
       simp [hd] at h2
       obtain ⟨rfl, rfl⟩ := h2
       exact ⟨j, p, Nat.le_of_ble_eq_true hc, List.mem_range.1 hj, hp, hd, rfl⟩
 cases h2
theorem wpIn_opG {o : Oper} {a : Go.Act} {Post : Value → World → Prop} {K : Go.Act → World → Prop} {w : World} (h : OpG P o a w Post) (hk : ∀ v w', Post v w' → K (a.put o.dst v) w') : o.wpIn (FR R) m P a w K Q := by
 rcases h with h | ⟨w', hr, hp⟩
 · exact wpIn_opY h hk
 exact wpIn_skipOp hr (hk _ w' hp)
theorem AWF.gen {s k : Nat} {base : Env} (ph : Nat → Ph) (Rel : World → World → Prop) (Inv : (Nat → Bool) → (Nat → Value) → World → Prop) {f0 : Nat → Value}
   (hrefl : ∀ w, Rel w w) (htr : ∀ w w1 w2, Rel w w1 → Rel w1 w2 → Rel w w2) (hph : ∀ i v w w', (ph i).holds v w → Rel w w' → (ph i).holds v w')
   (hA : aheadOK ops = true) (hC : (Nat.beq k ops.size || closOK ops k) = true) (hF : farOK ops k = true) (hks : Nat.ble k ops.size = true) (hsk : Nat.ble s k = true)
   (hD : dstOK' n ops s k = true) (hbp : noPred base = true) (hbd : ∀ i ph, lk base i = some ph → ∀ (j : Nat) (o : Oper), s ≤ j → j < k → ops[j]? = some o → o.dst ≠ some i)
   (hop : ∀ i o, s ≤ i → i < k → ops[i]? = some o → ∀ L f W, Rel w W → DnL ops L → L i = false → (∀ e ∈ o.after, Region.binds .any e = true → L e.on = true) → Inv L f W →
     TG P n ds ops (knp ops ph s o ++ base) f W o (fun v W' => Rel W W' ∧ (∀ d, o.dst = some d → (ph i).holds v W') ∧ Inv (setL L i) (setS f o.dst v) W'))
   (hw : Inv (fun j => decide (j < s)) f0 w) (hend : ∀ f W, Rel w W → Inv (fun j => decide (j < k)) f W → AWF R m P n ds ops Q k (allP ops ph s k ++ base) f W) : AWF R m P n ds ops Q s base f0 w := by
 have hks : k ≤ ops.size := Nat.le_of_ble_eq_true hks
 have hsk : s ≤ k := Nat.le_of_ble_eq_true hsk
 suffices H : ∀ (fuel : Nat) (listed : Array Bool) (a : Go.Act) (f : Nat → Value) (W : World), listed.size = ops.size → listed.toList.countP (· == false) ≤ fuel → (∀ j, j < s → listed.getD j false = true) → (∀ j, k ≤ j → j < ops.size → listed.getD j false = false) → Dn ops listed → Ag n ds base a W → (∀ t, a.tmps.getD t undef = f t) → Rel w W →
     (∀ (j : Nat) (o : Oper) (d : Nat), s ≤ j → j < k → ops[j]? = some o → o.dst = some d → listed.getD j false = true → (ph j).holds (f d) W) → Inv (fun j => listed.getD j false) f W → wpAnyIn (FR R) m P .any ops Q fuel listed a W by
   intro fuel listed a hf hu ha hsl
   have hno : ∀ j, s ≤ j → j < ops.size → listed.getD j false = false := fun j h1 h2 => by rw [hu.2 j h2]; simpa using h1
   have hyes : ∀ j, j < s → listed.getD j false = true := fun j h1 => by rw [hu.2 j (by omega)]; simpa using h1
   refine H fuel listed a f0 w hu.1 ?_ hyes (fun j h1 h2 => hno j oQ h2) ?_ ha hsl (hrefl w) ?_ ?_
   · have e : listed.toList = listed.toList.take s ++ listed.toList.drop s := (List.take_append_drop s _).symm
     rw [e, List.countP_append]
     have z1 : (listed.toList.take s).countP (· == false) = 0 := by
       rw [List.countP_eq_zero]
       intro b hb
       obtain ⟨j, hj, he⟩ := List.mem_iff_getElem.1 hb
       rw [List.getElem_take] at he
       have hj' : j < s := by simp at hj; omega
       have hj2 : j < listed.size := by simp at hj; omega
       have := hyes j hj'
       rw [Array.getD_eq_getD_getElem?] at this
       simp only [hj2, Array.getElem?_eq_getElem, Option.getD_some] at this
       rw [← he]
       simp [this]
     have z2 : (listed.toList.drop s).countP (· == false) ≤ (listed.toList.drop s).length := List.countP_le_length
     have z3 : (listed.toList.drop s).length = ops.size - s := by simp [hu.1]
     omega
   · intro i o ho hli e he hb
     have hi : i < ops.size := (Array.getElem?_eq_some_iff.1 ho).1
     have his : i < s := by
       rcases Nat.lt_or_ge i s with h | h
       · exact h
       rw [hno i h hi] at hli; cases hli
     exact hyes _ (by have := aheadOK_at hA ho e he hb; omega)
   · intro j o d hj hjk ho _ hlj
     rw [hno j hj (by omega)] at hlj
     cases hlj
   have e : (fun j => listed.getD j false) = fun j => decide (j < s) := by
     funext j
     rcases Nat.lt_or_ge j ops.size with h | h
     · exact hu.2 j h
     have := hu.1
     rw [Array.getD_eq_getD_getElem?, Array.getElem?_eq_none oQ, decide_eq_false (by omega)]
     rfl
   rw [e]
   exact hw
 have last : ∀ (fuel : Nat) (listed : Array Bool) (a : Go.Act) (f : Nat → Value) (W : World), listed.size = ops.size → listed.toList.countP (· == false) ≤ fuel → (∀ j, k ≤ j → j < ops.size → listed.getD j false = false) → Ag n ds base a W → (∀ t, a.tmps.getD t undef = f t) → Rel w W →
     (∀ (j : Nat) (o : Oper) (d : Nat), s ≤ j → j < k → ops[j]? = some o → o.dst = some d → listed.getD j false = true → (ph j).holds (f d) W) → Inv (fun j => listed.getD j false) f W → (∀ j, j < k → listed.getD j false = true) → wpAnyIn (FR R) m P .any ops Q fuel listed a W := by
   intro fuel listed a f W hs hc hno ha hsl hR hI hSt hall
   have e : (fun j => listed.getD j false) = fun j => decide (j < k) := by
     funext j
     rcases Nat.lt_or_ge j k with h | h
     · rw [hall j h, decide_eq_true h]
     rcases Nat.lt_or_ge j ops.size with h' | h'
     · rw [hno j h h', decide_eq_false (by omega)]
     rw [Array.getD_eq_getD_getElem?, Array.getElem?_eq_none oQ, decide_eq_false (by omega)]
     rfl
   rw [e] at hSt
   refine hend f W hR hSt fuel listed a (count_drop hs hc hno) ⟨hs, fun j hj => congrFun e j⟩ ⟨ha.defers, ha.size, fun t q ht => ?_⟩ hsl
   rcases lk_append ht with h | h
   · obtain ⟨j, p, hj, hjk, hp, hd, rfl⟩ := allP_at h
     rw [hsl]
     exact hI j p t hj hjk hp hd (hall j hjk)
   exact ha.val t q h
 intro fuel
 induction fuel with
 | zero =>
   intro listed a f W hs hc hyes hno hDn ha hsl hR hI hSt
   refine last 0 listed a f W hs hc hno ha hsl hR hI hSt (fun j hj => ?_)
   have h0 : listed.toList.countP (· == false) = 0 := by omega
   rw [List.countP_eq_zero] at h0
   have hlt : j < listed.size := by omega
   have := h0 listed[j] (by simp)
   rw [Array.getD_eq_getD_getElem?]
   simp only [hlt, Array.getElem?_eq_getElem, Option.getD_some]
   simpa using this
 | succ fuel ih =>
   intro listed a f W hs hc hyes hno hDn ha hsl hR hI hSt
   by_cases hall : ∀ j, j < k → listed.getD j false = true
   · exact last (fuel + 1) listed a f W hs hc hno ha hsl hR hI hSt hall
   simp only [Classical.not_forall] at hall
   obtain ⟨c, hck, hcf⟩ := hall
   have hcf : listed.getD c false = false := by simpa using hcf
   refine ⟨fun hr => ?_, fun i hi => ?_⟩
   · exfalso
     obtain ⟨i, hi⟩ := ready_some hA (k := k) oQ hs c hck hcf
     rw [hr] at hi
     cases hi
   obtain ⟨o, hio, hbi, hed⟩ := (ready_iff hs).1 hi
   have hi' : i < ops.size := (Array.getElem?_eq_some_iff.1 hio).1
   have hlt : i < listed.size := by omega
   have hsi : s ≤ i := by
     rcases Nat.lt_or_ge i s with h | h
     · rw [hyes i h] at hbi; cases hbi
     exact h
   have hik : i < k := by
     rcases Nat.lt_or_ge i k with h | h
     · exact h
     exfalso
     by_cases e : i = k
     · subst e
       rcases Bool.or_eq_true_iff.1 hC with hC | hC
       · have := Nat.eq_of_beq_eq_true hC; omega
       have := clos_all hC hDn hio hed (i - c) c rfl hck
       rw [hcf] at this; cases this
     obtain ⟨e', he, hb, hon⟩ := farOK_at hF hio oQ
     have h1 := hed e' he hb
     have h2 := aheadOK_at hA hio e' he hb
     rw [hno e'.on hon (by omega)] at h1
     cases h1
   have hag : Ag n ds (knp ops ph s o ++ base) a W := by
     refine ⟨ha.defers, ha.size, fun t q ht => ?_⟩
     rcases lk_append ht with h | h
     · obtain ⟨e, he, hb, hse, p, hp, hpd, rfl⟩ := knp_at h
       rw [hsl]
       exact hI e.on p t hse (by have := aheadOK_at hA hio e he hb; omega) hp hpd (hed e he hb)
     exact ha.val t q h
   have eL : (fun j => (listed.setIfInBounds i true).getD j false) = setL (fun j => listed.getD j false) i := by
     funext j
     rw [getD_set hlt]
     rfl
   have key : ∀ (v : Value) (W' : World), Rel W W' ∧ (∀ d, o.dst = some d → (ph i).holds v W') ∧ Inv (setL (fun j => listed.getD j false) i) (setS f o.dst v) W' → wpAnyIn (FR R) m P .any ops Q fuel (listed.setIfInBounds i true) (a.put o.dst v) W' := by
     rintro v W' ⟨hRel, hv, hSt'⟩
     refine ih _ _ (setS f o.dst v) W' (by simpa using hs) (fuel_set hlt hbi hc) ?_ ?_ (dn_set hlt hio hed hDn) ?_ ?_ (htr _ _ _ hR hRel) ?_ (by rw [eL]; exact hSt')
     · intro j hj
       rw [getD_set hlt]
       split
       · rfl
       exact hyes j hj
     · intro j hj hjs
       rw [getD_set hlt, if_neg (by omega)]
       exact hno j hj hjs
     · cases hd : o.dst with
       | none => exact ha.world hbp W'
       | some d =>
         refine ⟨ha.defers, by simp [Go.Act.put, ha.size], fun t q ht => ?_⟩
         have hne' : t ≠ d := fun e => hbd t q ht i o hsi hik hio (by rw [hd, e])
         rw [getD_put_ne hne']
         exact noPred_lk hbp ht (ha.val t q ht)
     · intro t
       cases hd : o.dst with
       | none => exact hsl t
       | some d =>
         by_cases e : t = d
         · subst e
           rw [getD_put_same (by rw [ha.size]; exact (dstOK'_at hD hsi hik hio hd).1)]
           simp [setS]
         rw [getD_put_ne e, hsl]
         simp [setS, Ne.symm e]
     intro j p d' hj hjk hp hpd hl
     by_cases e : j = i
     · subst e
       rw [hio] at hp; cases hp
       rw [hpd]
       simp only [setS, if_true]
       exact hv d' hpd
     rw [getD_set hlt, if_neg e] at hl
     have hne' : o.dst ≠ some d' := fun ee => (dstOK'_at hD hsi hik hio ee).2 j p hj hjk e hp hpd
     simp only [setS, if_neg hne']
     exact hph j _ _ _ (hI j p d' hj hjk hp hpd hl) hRel
   have top := hop i o hsi hik hio _ f W hR (fun i o ho hli e he hb => hDn i o ho hli e he hb) hbi hed hSt
   have top := top a hag hsl
   unfold wpOpIn
   rw [hio]
   dsimp only
   split
   · rename_i hw'
     rw [if_pos hw'] at top
     exact wpIn_opG top key
   rename_i hw'
   rw [if_neg hw'] at top
   exact ⟨fun _ _ => trivial, key _ W top⟩
theorem SEv.insert {ty : TypeId} {ps : String} {af : Array Edge} {g : Option (Nat × Bool)} {T K E : TypeId} {mo x y : Operand} {b : Nat} {k : Int} {v : Value} {kv : List (Int × Value)} (hT : P.underlying T = some (.map K E)) (hK : P.underlying K = some (.int .i64)) (hm : Val l mo (.map (some b))) (hx : Val l x (vi k)) (hy : Val l y v) (h : IMap w b kv) :
   SEv P n ds l w ⟨none, .insert T mo x y, ty, ps, af, g⟩ (fun w' => IMap w' b (mset kv k v) ∧ Sto b w w' ∧ w'.heap.size = w.heap.size) := fun a ha =>
 SEv.mapUpdate (ty := ty) (ps := ps) (af := af) (g := g) hT hK hm hx hy h a ha
theorem lk_right : ∀ {l r : Env} {t : Nat}, lk l t = none → lk (l ++ r) t = lk r t
 | [], _, _, _ => rfl
 | (j, q) :: l, r, t, h => by
   by_cases e : t = j
   · subst e; rw [lk_cons_eq] at h; cases h
   rw [lk_cons_ne e] at h
   rw [List.cons_append, lk_cons_ne e]
   exact lk_right h
theorem lk_left : ∀ {l r : Env} {t : Nat} {q : Ph}, lk l t = some q → lk (l ++ r) t = some q
 | [], _, _, _, h => by cases h
 | (j, q') :: l, r, t, q, h => by
   by_cases e : t = j
   · subst e; rw [lk_cons_eq] at h; cases h; rw [List.cons_append, lk_cons_eq]
   rw [lk_cons_ne e] at h
   rw [List.cons_append, lk_cons_ne e]
   exact lk_left h
theorem lk_of_mem : ∀ {l : Env} {t : Nat} {q : Ph}, (t, q) ∈ l → ∃ q', lk l t = some q'
 | [], _, _, h => by cases h
 | (j, q') :: l, t, q, h => by
   by_cases e : t = j
   · subst e; exact ⟨q', lk_cons_eq⟩
   rw [lk_cons_ne e]
   rcases List.mem_cons.1 h with h | h
   · cases h; exact absurd rfl e
   exact lk_of_mem h
theorem PEv.lookupYes {d : Option Tmp} {ty : TypeId} {ps : String} {af : Array Edge} {g : Option (Nat × Bool)} {T K E : TypeId} {mo x : Operand} {b : Nat} {k : Int} {v : Value} {kv : List (Int × Value)} {ok : Bool} (hT : P.underlying T = some (.map K E)) (hK : P.underlying K = some (.int .i64)) (hm : Val l mo (.map (some b))) (hx : Val l x (vi k)) (h : IMap w b kv) (hkv : (k, v) ∈ kv) :
   PEv P n ds l w ⟨d, .lookup T mo x ok, ty, ps, af, g⟩ (if ok then .tuple #[v, .bool true] else v) := fun a w' ha hu => by
 obtain ⟨es, clock, hb, hs, he⟩ := h.up hu
 have hk : IsKey (.int .i64) (vi k) := rfl
 refine run_v ?_
 rw [ha.ev hm, ha.ev hx]
 rcases findNow_spec hk es.toList 0 (isKey_all he) with ⟨h1, h2⟩ | ⟨j, e, h1, h2, h3⟩
 · exfalso
   obtain ⟨x', hx', hkx, _⟩ := key_entry he hkv
   exact h2 x' hx' hkx
 obtain ⟨x', hx', hkx, hvx⟩ := key_entry he hkv
 have hv : e.val = v := by
   have := entry_eq_of_key' (List.pairwise_map.1 hs.2.2) (List.mem_of_getElem? h2) hx' (by rw [h3, hkx])
   rw [this]; exact hvx
 cases ok <;> simp [Instr.lookup, run_underlying hT, MapKept.run_getObj_map hb, MapKept.run_checkKey hK hk, MapKept.run_findKey hK h1, Result.andThen, hv]
theorem PEv.lookupNo {d : Option Tmp} {ty : TypeId} {ps : String} {af : Array Edge} {g : Option (Nat × Bool)} {T K E : TypeId} {mo x : Operand} {b : Nat} {k : Int} {z : Value} {kv : List (Int × Value)} {ok : Bool} (hT : P.underlying T = some (.map K E)) (hK : P.underlying K = some (.int .i64)) (hz : ∀ w, (zeroValue E).run P w = .ok z w) (hm : Val l mo (.map (some b))) (hx : Val l x (vi k)) (h : IMap w b kv) (hkv : k ∉ kv.map (·.1)) :
   PEv P n ds l w ⟨d, .lookup T mo x ok, ty, ps, af, g⟩ (if ok then .tuple #[z, .bool false] else z) := fun a w' ha hu => by
 obtain ⟨es, clock, hb, hs, he⟩ := h.up hu
 have hk : IsKey (.int .i64) (vi k) := rfl
 refine run_v ?_
 rw [ha.ev hm, ha.ev hx]
 rcases findNow_spec hk es.toList 0 (isKey_all he) with ⟨h1, h2⟩ | ⟨j, e, h1, h2, h3⟩
 · cases ok <;> simp [Instr.lookup, run_underlying hT, MapKept.run_getObj_map hb, MapKept.run_checkKey hK hk, MapKept.run_findKey hK h1, Result.andThen, hz]
 exfalso
 obtain ⟨k', hk', hkv'⟩ := keys_int he e (List.mem_of_getElem? h2)
 have : k' = k := vi_inj (hk'.symm.trans h3)
 exact hkv (List.mem_map.2 ⟨_, hkv', this⟩)
end
end Go.Wx
end
