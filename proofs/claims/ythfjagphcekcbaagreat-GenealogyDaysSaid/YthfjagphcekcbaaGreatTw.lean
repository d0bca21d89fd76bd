/-
  A region that draws its order, with two operations that turn the world, in either order; what each operation comes to is the same in all orders. Nothing of any program stands here.
-/
import Derived.Test.YthfjagphcekcbaaGreatWh
namespace Go.Wx
open Go.RowKit

section
variable (R : Option Nat) (m : Nat) (P : Program) (n : Nat) (ds : List Deferred)
/-- the first s are listed, and no other -/
def AWU (ops : Array Oper) (Q : Exit → Go.Act → World → Prop) (s : Nat) (l : Env) (w : World) : Prop := ∀ (fuel : Nat) (listed : Array Bool) (a : Go.Act), ops.size - s ≤ fuel → UpTo ops s listed → Ag n ds l a w → wpAnyIn (FR R) m P .any ops Q fuel listed a w
def TOp (ops : Array Oper) (env : Env) (w : World) (o : Oper) (Post : Value → World → Prop) : Prop := ∀ a, Ag n ds env a w → if Region.wanted o (yielded ops a.tmps) = true then OpY P o a w Post else Post undef w
end
/-- whatever stands behind k asks for k or for one behind it -/
def farOK (ops : Array Oper) (k : Nat) : Bool :=
  (List.range ops.size).all fun i => !Nat.ble (k + 1) i || (match ops[i]? with | none => false | some o => o.after.any fun e => Region.binds .any e && Nat.ble k e.on)
def dstOK (n : Nat) (ops : Array Oper) (s k : Nat) : Bool := (List.range k).all fun i => !Nat.ble s i || (match ops[i]? with
  | none => false
  | some o => match o.dst with
    | none => false
    | some d => Nat.ble (d + 1) n && (List.range k).all fun j => !Nat.ble s j || (Nat.beq i j || (match ops[j]? with | none => true | some p => !(p.dst == some d))))
/-- what an operation may know of others -/
def kn (ops : Array Oper) (v : Nat → Value) (s : Nat) (o : Oper) : Env := o.after.toList.filterMap fun e => if (Region.binds .any e && Nat.ble s e.on) = true then ((ops[e.on]?).bind (·.dst)).map fun d => (d, .eq (v e.on)) else none
def allE (ops : Array Oper) (v : Nat → Value) (s k : Nat) : Env := (List.range k).filterMap fun j => if Nat.ble s j = true then ((ops[j]?).bind (·.dst)).map fun d => (d, .eq (v j)) else none

theorem lk_mem : ∀ {l : Env} {i : Nat} {ph : Ph}, lk l i = some ph → (i, ph) ∈ l
  | [], _, _, h => by cases h
  | (j, q) :: l, i, ph, h => by
    by_cases e : i = j
    · subst e; rw [lk_cons_eq] at h; cases h; exact List.mem_cons_self
    · rw [lk_cons_ne e] at h; exact List.mem_cons_of_mem _ (lk_mem h)

section
variable {R : Option Nat} {m : Nat} {P : Program} {n : Nat} {ds : List Deferred} {Q : Exit → Go.Act → World → Prop} {l : Env} {w : World} {ops : Array Oper}

theorem farOK_at {k : Nat} (h : farOK ops k = true) {i : Nat} {o : Oper} (ho : ops[i]? = some o) (hk : k < i) : ∃ e ∈ o.after, Region.binds .any e = true ∧ k ≤ e.on := by
  have hi : i < ops.size := (Array.getElem?_eq_some_iff.1 ho).1
  have h1 := List.all_eq_true.1 h i (List.mem_range.2 hi)
  have hb : Nat.ble (k + 1) i = true := Nat.ble_eq_true_of_le hk
  simp only [ho, hb, Bool.not_true, Bool.false_or] at h1
  obtain ⟨e, he, hh⟩ := Array.any_eq_true.1 h1
  simp only [Bool.and_eq_true] at hh
  exact ⟨_, Array.getElem_mem he, hh.1, Nat.le_of_ble_eq_true hh.2⟩
theorem dstOK_at {s k : Nat} (h : dstOK n ops s k = true) {i : Nat} {o : Oper} (hs : s ≤ i) (hk : i < k) (ho : ops[i]? = some o) : ∃ d, o.dst = some d ∧ d < n ∧ ∀ (j : Nat) (p : Oper), s ≤ j → j < k → j ≠ i → ops[j]? = some p → p.dst ≠ some d := by
  have h1 := List.all_eq_true.1 h i (List.mem_range.2 hk)
  have hb : Nat.ble s i = true := Nat.ble_eq_true_of_le hs
  simp only [hb, Bool.not_true, Bool.false_or, ho] at h1
  cases hd : o.dst with
  | none => rw [hd] at h1; cases h1
  | some d =>
    rw [hd] at h1
    simp only [Bool.and_eq_true] at h1
    refine ⟨d, rfl, Nat.le_of_ble_eq_true h1.1, fun j p hj hjk hne hp => ?_⟩
    have h2 := List.all_eq_true.1 h1.2 j (List.mem_range.2 hjk)
    have hb' : Nat.ble s j = true := Nat.ble_eq_true_of_le hj
    have hb2 : Nat.beq i j = false := by
      cases e : Nat.beq i j with
      | false => rfl
      | true => exact absurd (Nat.eq_of_beq_eq_true e).symm hne
    simp only [hb', Bool.not_true, Bool.false_or, hb2, hp] at h2
    intro e
    rw [e] at h2
    simp at h2
theorem kn_at {v : Nat → Value} {s : Nat} {o : Oper} {t : Nat} {ph : Ph} (h : lk (kn ops v s o) t = some ph) : ∃ e ∈ o.after, Region.binds .any e = true ∧ s ≤ e.on ∧ ∃ p, ops[e.on]? = some p ∧ p.dst = some t ∧ ph = .eq (v e.on) := by
  have h1 := lk_mem h
  unfold kn at h1
  rw [List.mem_filterMap] at h1
  obtain ⟨e, he, h2⟩ := h1
  split at h2
  · rename_i hc
    simp only [Bool.and_eq_true] at hc
    cases hp : ops[e.on]? with
    | none => rw [hp] at h2; cases h2
    | some p =>
      rw [hp] at h2
      cases hd : p.dst with
      | none => simp [hd] at h2
      | some d =>
        simp [hd] at h2
        obtain ⟨rfl, rfl⟩ := h2
        exact ⟨e, by simpa using he, hc.1, Nat.le_of_ble_eq_true hc.2, p, hp, hd, rfl⟩
  · cases h2
theorem allE_at {v : Nat → Value} {s k : Nat} {t : Nat} {ph : Ph} (h : lk (allE ops v s k) t = some ph) : ∃ j p, s ≤ j ∧ j < k ∧ ops[j]? = some p ∧ p.dst = some t ∧ ph = .eq (v j) := by
  have h1 := lk_mem h
  unfold allE at h1
  rw [List.mem_filterMap] at h1
  obtain ⟨j, hj, h2⟩ := h1
  split at h2
  · rename_i hc
    cases hp : ops[j]? with
    | none => rw [hp] at h2; cases h2
    | some p =>
      rw [hp] at h2
      cases hd : p.dst with
      | none => simp [hd] at h2
      | some d =>
        simp [hd] at h2
        obtain ⟨rfl, rfl⟩ := h2
        exact ⟨j, p, Nat.le_of_ble_eq_true hc, List.mem_range.1 hj, hp, hd, rfl⟩
  · cases h2

theorem AWU.tail {s : Nat} (hT : tailOK ops s = true) (hA : aheadOK ops = true) (hs : Nat.ble s ops.size = true) (h : LW R m P n ds ops Q (ops.toList.drop s) l w) : AWU R m P n ds ops Q s l w := fun fuel listed a hf hu ha =>
  tail_order hT hA (ops.size - s) s fuel listed a w rfl (Nat.le_of_ble_eq_true hs) (Nat.le_refl _) hf hu (h a ha)
theorem AWU.sub {s : Nat} (l' : Env) (hs : Sub l l') (h : AWU R m P n ds ops Q s l' w) : AWU R m P n ds ops Q s l w := fun fuel listed a hf hu ha => h fuel listed a hf hu (ha.sub hs)
theorem CW.draws_up {id : Nat} {opsL : List Oper} (hm : P.follows .mixedOrders = true) (hl : noPred l = true) (h : AWU R m P n ds opsL.toArray Q 0 l w.drew) : CW R m P n ds (.region id opsL.toArray true) Q l w := fun a ha =>
  wpIn_region_any hm (h _ _ a (by simp) ⟨by simp, fun j hj => by
    rw [Array.getD_eq_getD_getElem?, Array.getElem?_replicate]
    split <;> rfl⟩ (ha.world hl _))

theorem AWU.two {s k h1 h2 : Nat} {base : Env} (v : Nat → Value) (St : Bool → Bool → World → Prop) (hA : aheadOK ops = true) (hC : closOK ops k = true) (hF : farOK ops k = true) (hks : Nat.ble (k + 1) ops.size = true) (hsk : Nat.ble s k = true) (hne : Nat.beq h1 h2 = false)
    (h1s : Nat.ble s h1 = true) (h2s : Nat.ble s h2 = true) (h1k : Nat.ble (h1 + 1) k = true) (h2k : Nat.ble (h2 + 1) k = true)
    (hD : dstOK n ops s k = true) (hbp : noPred base = true) (hbd : ∀ i ph, lk base i = some ph → ∀ (j : Nat) (o : Oper), s ≤ j → j < k → ops[j]? = some o → o.dst ≠ some i)
    (hl : ∀ i o, s ≤ i → i < k → i ≠ h1 → i ≠ h2 → ops[i]? = some o → ∀ b1 b2 W, St b1 b2 W → TOp P n ds ops (kn ops v s o ++ base) W o (fun r W' => r = v i ∧ St b1 b2 W'))
    (hh1 : ∀ o, ops[h1]? = some o → ∀ b W, St false b W → TOp P n ds ops (kn ops v s o ++ base) W o (fun r W' => r = v h1 ∧ St true b W'))
    (hh2 : ∀ o, ops[h2]? = some o → ∀ b W, St b false W → TOp P n ds ops (kn ops v s o ++ base) W o (fun r W' => r = v h2 ∧ St b true W'))
    (hw : St false false w) (hend : ∀ W, St true true W → AWU R m P n ds ops Q k (allE ops v s k ++ base) W) : AWU R m P n ds ops Q s base w := by
  have hks : k < ops.size := Nat.le_of_ble_eq_true hks
  have hsk : s ≤ k := Nat.le_of_ble_eq_true hsk
  have h1s : s ≤ h1 := Nat.le_of_ble_eq_true h1s
  have h2s : s ≤ h2 := Nat.le_of_ble_eq_true h2s
  have h1k : h1 < k := Nat.le_of_ble_eq_true h1k
  have h2k : h2 < k := Nat.le_of_ble_eq_true h2k
  have hne : h1 ≠ h2 := fun e => by subst e; simp at hne
  suffices H : ∀ (fuel : Nat) (listed : Array Bool) (a : Go.Act) (W : World), listed.size = ops.size → listed.toList.countP (· == false) ≤ fuel → (∀ j, j < s → listed.getD j false = true) → (∀ j, k ≤ j → j < ops.size → listed.getD j false = false) → Dn ops listed → Ag n ds base a W →
      (∀ (j : Nat) (o : Oper) (d : Nat), s ≤ j → j < k → ops[j]? = some o → o.dst = some d → listed.getD j false = true → a.tmps.getD d undef = v j) → St (listed.getD h1 false) (listed.getD h2 false) W → wpAnyIn (FR R) m P .any ops Q fuel listed a W by
    intro fuel listed a hf hu ha
    have hno : ∀ j, s ≤ j → j < ops.size → listed.getD j false = false := fun j h1 h2 => by rw [hu.2 j h2]; simpa using h1
    have hyes : ∀ j, j < s → listed.getD j false = true := fun j h1 => by rw [hu.2 j (by omega)]; simpa using h1
    refine H fuel listed a w hu.1 ?_ hyes (fun j h1 h2 => hno j (by omega) h2) ?_ ha ?_ ?_
    · have e : listed.toList = listed.toList.take s ++ listed.toList.drop s := (List.take_append_drop s _).symm
      rw [e, List.countP_append]
      have z1 : (listed.toList.take s).countP (· == false) = 0 := by
        rw [List.countP_eq_zero]
        intro b hb
        obtain ⟨j, hj, he⟩ := List.mem_iff_getElem.1 hb
        rw [List.getElem_take] at he
        have hj' : j < s := by simp at hj; omega
        have hj2 : j < listed.size := by simp at hj; omega
        have := hyes j hj'
        rw [Array.getD_eq_getD_getElem?] at this
        simp only [hj2, Array.getElem?_eq_getElem, Option.getD_some] at this
        rw [← he]
        simp [this]
      have z2 : (listed.toList.drop s).countP (· == false) ≤ (listed.toList.drop s).length := List.countP_le_length
      have z3 : (listed.toList.drop s).length = ops.size - s := by simp [hu.1]
      omega
    · intro i o ho hli e he hb
      have hi : i < ops.size := (Array.getElem?_eq_some_iff.1 ho).1
      have his : i < s := by
        rcases Nat.lt_or_ge i s with h | h
        · exact h
        · rw [hno i h hi] at hli; cases hli
      exact hyes _ (by have := aheadOK_at hA ho e he hb; omega)
    · intro j o d hj hjk ho _ hlj
      rw [hno j hj (by omega)] at hlj
      cases hlj
    · rw [hno h1 h1s (by omega), hno h2 h2s (by omega)]
      exact hw
  intro fuel
  induction fuel with
  | zero =>
    intro listed a W hs hc hyes hno hD ha hI hSt
    exfalso
    have h0 : listed.toList.countP (· == false) = 0 := by omega
    rw [List.countP_eq_zero] at h0
    have hlt : k < listed.size := by omega
    have := h0 listed[k] (by simp)
    have h1 := hno k (Nat.le_refl _) hks
    rw [Array.getD_eq_getD_getElem?] at h1
    simp only [hlt, Array.getElem?_eq_getElem, Option.getD_some] at h1
    rw [h1] at this
    simp at this
  | succ fuel ih =>
    intro listed a W hs hc hyes hno hDn ha hI hSt
    by_cases hall : ∀ j, j < k → listed.getD j false = true
    · rw [hall h1 h1k, hall h2 h2k] at hSt
      refine hend W hSt (fuel + 1) listed a (count_drop hs hc hno) ⟨hs, fun j hj => ?_⟩ ⟨ha.defers, ha.size, fun t q ht => ?_⟩
      · rcases Nat.lt_or_ge j k with h | h
        · rw [hall j h, decide_eq_true h]
        · rw [hno j h hj, decide_eq_false (by omega)]
      · rcases lk_append ht with h | h
        · obtain ⟨j, p, hj, hjk, hp, hd, rfl⟩ := allE_at h
          exact hI j p t hj hjk hp hd (hall j hjk)
        · exact ha.val t q h
    · simp only [Classical.not_forall] at hall
      obtain ⟨c, hck, hcf⟩ := hall
      have hcf : listed.getD c false = false := by simpa using hcf
      refine ⟨fun hr => ?_, fun i hi => ?_⟩
      · exfalso
        obtain ⟨i, hi⟩ := ready_some hA (k := k) (by omega) hs c hck hcf
        rw [hr] at hi
        cases hi
      obtain ⟨o, hio, hbi, hed⟩ := (ready_iff hs).1 hi
      have hi' : i < ops.size := (Array.getElem?_eq_some_iff.1 hio).1
      have hlt : i < listed.size := by omega
      have hsi : s ≤ i := by
        rcases Nat.lt_or_ge i s with h | h
        · rw [hyes i h] at hbi; cases hbi
        · exact h
      have hik : i < k := by
        rcases Nat.lt_or_ge i k with h | h
        · exact h
        · exfalso
          by_cases e : i = k
          · subst e
            have := clos_all hC hDn hio hed (i - c) c rfl hck
            rw [hcf] at this; cases this
          · obtain ⟨e', he, hb, hon⟩ := farOK_at hF hio (by omega)
            have h1 := hed e' he hb
            have h2 := aheadOK_at hA hio e' he hb
            rw [hno e'.on hon (by omega)] at h1
            cases h1
      obtain ⟨d, hd, hdn, hdj⟩ := dstOK_at hD hsi hik hio
      have hag : Ag n ds (kn ops v s o ++ base) a W := by
        refine ⟨ha.defers, ha.size, fun t q ht => ?_⟩
        rcases lk_append ht with h | h
        · obtain ⟨e, he, hb, hse, p, hp, hpd, rfl⟩ := kn_at h
          exact hI e.on p t hse (by have := aheadOK_at hA hio e he hb; omega) hp hpd (hed e he hb)
        · exact ha.val t q h
      have key : ∀ (W' : World), St ((listed.setIfInBounds i true).getD h1 false) ((listed.setIfInBounds i true).getD h2 false) W' → wpAnyIn (FR R) m P .any ops Q fuel (listed.setIfInBounds i true) (a.put o.dst (v i)) W' := by
        intro W' hSt'
        refine ih _ _ W' (by simpa using hs) (fuel_set hlt hbi hc) ?_ ?_ (dn_set hlt hio hed hDn) ?_ ?_ hSt'
        · intro j hj
          rw [getD_set hlt]
          split
          · rfl
          · exact hyes j hj
        · intro j hj hjs
          rw [getD_set hlt, if_neg (by omega)]
          exact hno j hj hjs
        · refine ⟨by rw [hd]; exact ha.defers, by rw [hd]; simp [Go.Act.put, ha.size], fun t q ht => ?_⟩
          have hne' : t ≠ d := fun e => hbd t q ht i o hsi hik hio (by rw [hd, e])
          rw [hd, getD_put_ne hne']
          exact noPred_lk hbp ht (ha.val t q ht)
        · intro j p d' hj hjk hp hpd hl
          rw [hd]
          by_cases e : j = i
          · subst e
            rw [hio] at hp; cases hp
            rw [hd] at hpd; cases hpd
            rw [getD_put_same (by rw [ha.size]; exact hdn)]
          · have hne' : d' ≠ d := fun ee => hdj j p hj hjk e hp (by rw [hpd, ee])
            rw [getD_put_ne hne']
            rw [getD_set hlt, if_neg e] at hl
            exact hI j p d' hj hjk hp hpd hl
      have top : TOp P n ds ops (kn ops v s o ++ base) W o (fun r W' => r = v i ∧ St ((listed.setIfInBounds i true).getD h1 false) ((listed.setIfInBounds i true).getD h2 false) W') := by
        rw [getD_set hlt, getD_set hlt]
        by_cases e1 : h1 = i
        · subst e1
          rw [if_pos rfl, if_neg (Ne.symm hne)]
          rw [hbi] at hSt
          exact hh1 o hio _ W hSt
        · by_cases e2 : h2 = i
          · subst e2
            rw [if_pos rfl, if_neg e1]
            rw [hbi] at hSt
            exact hh2 o hio _ W hSt
          · rw [if_neg e1, if_neg e2]
            exact hl i o hsi hik (Ne.symm e1) (Ne.symm e2) hio _ _ W hSt
      unfold wpOpIn
      rw [hio]
      dsimp only
      have top := top a hag
      split
      · rename_i hw'
        rw [if_pos hw'] at top
        exact wpIn_opY top fun r W' hp => by rw [hp.1]; exact key W' hp.2
      · rename_i hw'
        rw [if_neg hw'] at top
        refine ⟨fun _ _ => trivial, ?_⟩
        rw [top.1]
        exact key W top.2

/-! ### as a printer writes it -/
def allL (p : Nat → Oper → Prop) : Nat → List Oper → Prop
  | _, [] => True
  | i, o :: r => p i o ∧ allL p (i + 1) r
theorem allL.nil {p : Nat → Oper → Prop} {i : Nat} : allL p i [] := trivial
theorem allL.cons {p : Nat → Oper → Prop} {i : Nat} {o : Oper} {r : List Oper} (h : p i o) (k : allL p (i + 1) r) : allL p i (o :: r) := ⟨h, k⟩
theorem allL.at {p : Nat → Oper → Prop} : ∀ {r : List Oper} {i j : Nat} {o : Oper}, allL p i r → r[j]? = some o → p (i + j) o
  | [], _, _, _, _, h => by cases h
  | x :: r, i, 0, o, hp, h => by
    rw [List.getElem?_cons_zero] at h
    cases h; exact hp.1
  | x :: r, i, j + 1, o, hp, h => by
    rw [List.getElem?_cons_succ] at h
    have := allL.at hp.2 h
    rwa [show i + 1 + j = i + (j + 1) by omega] at this
/-- no slot that these write is spoken of -/
def freeOK (base : Env) (r : List Oper) : Bool := r.all fun o => match o.dst with | none => true | some d => (lk base d).isNone
theorem freeOK_at {base : Env} {r : List Oper} (h : freeOK base r = true) {i : Nat} {ph : Ph} (hi : lk base i = some ph) {o : Oper} (ho : o ∈ r) : o.dst ≠ some i := by
  intro e
  have := List.all_eq_true.1 h o ho
  simp [e, hi] at this
theorem AWU.pair {opsL : List Oper} (s k h1 h2 : Nat) (v : Nat → Value) (St : Bool → Bool → World → Prop) {base : Env} (hA : aheadOK opsL.toArray = true) (hC : closOK opsL.toArray k = true) (hF : farOK opsL.toArray k = true) (hks : Nat.ble (k + 1) opsL.toArray.size = true) (hsk : Nat.ble s k = true) (hne : Nat.beq h1 h2 = false)
    (h1s : Nat.ble s h1 = true) (h2s : Nat.ble s h2 = true) (h1k : Nat.ble (h1 + 1) k = true) (h2k : Nat.ble (h2 + 1) k = true)
    (hD : dstOK n opsL.toArray s k = true) (hbp : noPred base = true) (hbd : freeOK base ((opsL.take k).drop s) = true)
    (hl : ∀ b1 b2 W, St b1 b2 W → allL (fun i o => i ≠ h1 → i ≠ h2 → TOp P n ds opsL.toArray (kn opsL.toArray v s o ++ base) W o (fun r W' => r = v i ∧ St b1 b2 W')) s ((opsL.take k).drop s))
    (o1 o2 : Oper) (ho1 : opsL[h1]? = some o1) (ho2 : opsL[h2]? = some o2)
    (hh1 : ∀ b W, St false b W → TOp P n ds opsL.toArray (kn opsL.toArray v s o1 ++ base) W o1 (fun r W' => r = v h1 ∧ St true b W'))
    (hh2 : ∀ b W, St b false W → TOp P n ds opsL.toArray (kn opsL.toArray v s o2 ++ base) W o2 (fun r W' => r = v h2 ∧ St b true W'))
    (hw : St false false w) (hend : ∀ W, St true true W → AWU R m P n ds opsL.toArray Q k (allE opsL.toArray v s k ++ base) W) : AWU R m P n ds opsL.toArray Q s base w := by
  have sub : ∀ j o, s ≤ j → j < k → opsL.toArray[j]? = some o → ((opsL.take k).drop s)[j - s]? = some o := by
    intro j o hj hjk ho
    rw [List.getElem?_drop, show s + (j - s) = j by omega, List.getElem?_take_of_lt hjk]
    simpa using ho
  refine AWU.two v St hA hC hF hks hsk hne h1s h2s h1k h2k hD hbp ?_ ?_ ?_ ?_ hw hend
  · intro i ph hi j o hj hjk ho
    exact freeOK_at hbd hi (List.mem_of_getElem? (sub j o hj hjk ho))
  · intro i o hs hk n1 n2 ho b1 b2 W hSt
    have := (hl b1 b2 W hSt).at (sub i o hs hk ho)
    rw [show s + (i - s) = i by omega] at this
    exact this n1 n2
  · intro o ho b W hSt
    have e : opsL[h1]? = some o := by simpa using ho
    rw [ho1] at e; cases e
    exact hh1 b W hSt
  · intro o ho b W hSt
    have e : opsL[h2]? = some o := by simpa using ho
    rw [ho2] at e; cases e
    exact hh2 b W hSt
theorem TOp.p {env : Env} {o : Oper} {v : Value} {X : Value → World → Prop} (h : PEv P n ds env w o v) (hg : o.guard = none) (hx : X v w) : TOp P n ds ops env w o X := fun a ha => by
  rw [if_pos (by simp [Region.wanted, hg])]
  exact .inl ⟨v, w, h a w ha (Up.refl w), hx⟩
theorem TOp.py {env : Env} {o : Oper} {v : Value} {X : Value → World → Prop} {j dj : Nat} {oj : Oper} {want : Bool} (hg : o.guard = some (j, want)) (hj : ops[j]? = some oj) (hdj : oj.dst = some dj) (hdn : Nat.ble (dj + 1) n = true) (hb : lk env dj = some (.eq (.bool want)))
    (h : PEv P n ds env w o v) (hx : X v w) : TOp P n ds ops env w o X := fun a ha => by
  rw [if_pos (by rw [wanted_of (o := o) (ops := ops) (a := a) hg hj hdj (by rw [ha.size]; exact Nat.le_of_ble_eq_true hdn) (ha.val _ _ hb)]; cases want <;> rfl)]
  exact .inl ⟨v, w, h a w ha (Up.refl w), hx⟩
theorem TOp.no {env : Env} {o : Oper} {X : Value → World → Prop} {j dj : Nat} {oj : Oper} {want b : Bool} (hg : o.guard = some (j, want)) (hj : ops[j]? = some oj) (hdj : oj.dst = some dj) (hdn : Nat.ble (dj + 1) n = true) (hb : lk env dj = some (.eq (.bool b))) (hne : (b == want) = false)
    (hx : X undef w) : TOp P n ds ops env w o X := fun a ha => by
  rw [if_neg (by rw [wanted_of (o := o) (ops := ops) (a := a) hg hj hdj (by rw [ha.size]; exact Nat.le_of_ble_eq_true hdn) (ha.val _ _ hb), hne]; simp)]
  exact hx
theorem TOp.c {env : Env} {o : Oper} {f : FuncId} {args : Array Value} {Post X : Value → World → Prop} (he : ∀ a, Ag n ds env a w → (execOp a.eval o).run P w = .ok (.enter f args) w) (hg : o.guard = none) (hc : Ret P f args w Post) (hx : ∀ r w', Post r w' → X r w') : TOp P n ds ops env w o X := fun a ha => by
  rw [if_pos (by simp [Region.wanted, hg])]
  exact .inr ⟨f, args, w, he a ha, hc.mono hx⟩
theorem TOp.cy {env : Env} {o : Oper} {f : FuncId} {args : Array Value} {Post X : Value → World → Prop} {j dj : Nat} {oj : Oper} {want : Bool} (hg : o.guard = some (j, want)) (hj : ops[j]? = some oj) (hdj : oj.dst = some dj) (hdn : Nat.ble (dj + 1) n = true) (hb : lk env dj = some (.eq (.bool want)))
    (he : ∀ a, Ag n ds env a w → (execOp a.eval o).run P w = .ok (.enter f args) w) (hc : Ret P f args w Post) (hx : ∀ r w', Post r w' → X r w') : TOp P n ds ops env w o X := fun a ha => by
  rw [if_pos (by rw [wanted_of (o := o) (ops := ops) (a := a) hg hj hdj (by rw [ha.size]; exact Nat.le_of_ble_eq_true hdn) (ha.val _ _ hb)]; cases want <;> rfl)]
  exact .inr ⟨f, args, w, he a ha, hc.mono hx⟩
end
end Go.Wx
