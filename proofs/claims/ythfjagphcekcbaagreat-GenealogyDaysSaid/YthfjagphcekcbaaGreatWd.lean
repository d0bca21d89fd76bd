/-
  A region that draws its order, walked once, in the order of the text: its operations read, or make blocks of their own; of each it is said what its slot holds, and that stays so while blocks come. Nothing of any program stands here.
-/
import Derived.Test.YthfjagphcekcbaaGreatWv
namespace Go.Wx
open Go.RowKit

def memb : List Nat → Nat → Bool
  | [], _ => false
  | x :: l, i => bif Nat.beq i x then true else memb l i
def keepSlots (ks : List Nat) : Env → Env
  | [] => []
  | (i, ph) :: l => bif memb ks i then (i, ph) :: keepSlots ks l else keepSlots ks l
def dropSlots (ks : List Nat) : Env → Env
  | [] => []
  | (i, ph) :: l => bif memb ks i then dropSlots ks l else (i, ph) :: dropSlots ks l
theorem memb_iff {ks : List Nat} {i : Nat} : memb ks i = true ↔ i ∈ ks := by
  induction ks with
  | nil => simp [memb]
  | cons x l ih =>
    by_cases e : i = x
    · subst e; simp [memb]
    · have : Nat.beq i x = false := by
        cases hb : Nat.beq i x with
        | false => rfl
        | true => exact absurd (Nat.eq_of_beq_eq_true hb) e
      simp [memb, this, ih, e]
theorem keepSlots_lk {ks : List Nat} : ∀ {l : Env} {i : Nat} {ph : Ph}, lk (keepSlots ks l) i = some ph → i ∈ ks ∧ lk l i = some ph
  | [], _, _, h => by cases h
  | (j, q) :: l, i, ph, h => by
    unfold keepSlots at h
    by_cases e : i = j
    · subst e
      cases hm : memb ks i with
      | true => rw [hm] at h; simp only [cond_true] at h; rw [lk_cons_eq] at h ⊢; exact ⟨memb_iff.1 hm, h⟩
      | false =>
        rw [hm] at h; simp only [cond_false] at h
        have := (keepSlots_lk h).1
        rw [← memb_iff, hm] at this; cases this
    · rw [lk_cons_ne e]
      cases hm : memb ks j with
      | true => rw [hm] at h; simp only [cond_true] at h; rw [lk_cons_ne e] at h; exact keepSlots_lk h
      | false => rw [hm] at h; simp only [cond_false] at h; exact keepSlots_lk h
theorem dropSlots_lk {ks : List Nat} : ∀ {l : Env} {i : Nat} {ph : Ph}, lk (dropSlots ks l) i = some ph → i ∉ ks ∧ lk l i = some ph
  | [], _, _, h => by cases h
  | (j, q) :: l, i, ph, h => by
    unfold dropSlots at h
    by_cases e : i = j
    · subst e
      cases hm : memb ks i with
      | false => rw [hm] at h; simp only [cond_false] at h; rw [lk_cons_eq] at h ⊢; exact ⟨fun hh => (by rw [memb_iff.2 hh] at hm; cases hm), h⟩
      | true =>
        rw [hm] at h; simp only [cond_true] at h
        have := (dropSlots_lk h).1
        exact absurd (memb_iff.1 hm) this
    · rw [lk_cons_ne e]
      cases hm : memb ks j with
      | false => rw [hm] at h; simp only [cond_false] at h; rw [lk_cons_ne e] at h; exact dropSlots_lk h
      | true => rw [hm] at h; simp only [cond_true] at h; exact dropSlots_lk h
theorem lk_append : ∀ {l r : Env} {i : Nat} {ph : Ph}, lk (l ++ r) i = some ph → lk l i = some ph ∨ lk r i = some ph
  | [], _, _, _, h => .inr h
  | (j, q) :: l, r, i, ph, h => by
    by_cases e : i = j
    · subst e; rw [List.cons_append, lk_cons_eq] at h; rw [lk_cons_eq]; exact .inl h
    · rw [List.cons_append, lk_cons_ne e] at h; rw [lk_cons_ne e]; exact lk_append h

def phUp (ph : Ph) : Prop := ∀ v w w', ph.holds v w → Up w w' → ph.holds v w'
theorem phUp.eq (v : Value) : phUp (.eq v) := fun _ _ _ h _ => h
theorem phUp.cond (b : Bool) (v : Value) : phUp (.cond b v) := fun _ _ _ h _ => h

/-- the slots that the operations write -/
def dsts : List Oper → List Nat
  | [] => []
  | o :: l => (match o.dst with | some d => d :: dsts l | none => dsts l)

section
variable (R : Option Nat) (m : Nat) (P : Program) (n : Nat) (ds : List Deferred)
/-- what an operation comes to -/
def OpY (o : Oper) (a : Act) (w : World) (Post : Value → World → Prop) : Prop :=
  (∃ v w', (execOp a.eval o).run P w = .ok (.value v) w' ∧ Post v w') ∨ (∃ f args w1, (execOp a.eval o).run P w = .ok (.enter f args) w1 ∧ Ret P f args w1 Post)
def HOp (ops : Array Oper) (w0 : World) (env : Env) (o : Oper) (ph : Ph) : Prop :=
  ∀ a w, Up w0 w → Ag n ds env a w → if Region.wanted o (yielded ops a.tmps) = true then OpY P o a w (fun v w' => Up w w' ∧ ph.holds v w') else ph.holds undef w
def HW (ops : Array Oper) (base : Env) (w0 : World) : Env → List Oper → (Env → Prop) → Prop
  | done, [], K => K done
  | done, o :: rest, K => ∃ ph d, o.dst = some d ∧ phUp ph ∧ HOp P n ds ops w0 (keepSlots (o.looksAt ops) done ++ base) o ph ∧ HW ops base w0 ((d, ph) :: done) rest K
end

/-- the edges bear the data; each operation writes a slot of its own -/
def regOK (n : Nat) (ops : Array Oper) : Bool :=
  (List.range ops.size).all fun i =>
    match ops[i]? with
    | none => false
    | some o =>
      (match o.dst with | some d => Nat.ble (d + 1) n | none => false) &&
      (o.after.all fun e => !Region.binds .any e || Nat.ble (e.on + 1) i) &&
      ((List.range ops.size).all fun j =>
        match ops[j]? with
        | none => true
        | some p =>
          (Nat.beq i j || !(o.dst == p.dst)) &&
          (match p.dst with
            | none => true
            | some t => !memb (o.looksAt ops) t || (o.after.any fun e => Region.binds .any e && Nat.beq e.on j)))

section
variable {R : Option Nat} {m : Nat} {P : Program} {n : Nat} {ds : List Deferred} {Q : Exit → Act → World → Prop} {l : Env} {w : World} {ops : Array Oper}

theorem regOK_at (h : regOK n ops = true) {i : Nat} {o : Oper} (ho : ops[i]? = some o) :
    (∃ d, o.dst = some d ∧ d < n) ∧ (∀ e ∈ o.after, Region.binds .any e = true → e.on < i) ∧
    (∀ (j : Nat) (p : Oper), ops[j]? = some p → (i ≠ j → o.dst ≠ p.dst) ∧ (∀ t, p.dst = some t → t ∈ o.looksAt ops → ∃ e ∈ o.after, Region.binds .any e = true ∧ e.on = j)) := by
  have hi : i < ops.size := (Array.getElem?_eq_some_iff.1 ho).1
  have h1 := List.all_eq_true.1 h i (List.mem_range.2 hi)
  simp only [ho, Bool.and_eq_true] at h1
  obtain ⟨⟨h2, h3⟩, h4⟩ := h1
  refine ⟨?_, ?_, ?_⟩
  · cases hd : o.dst with
    | none => rw [hd] at h2; cases h2
    | some d => rw [hd] at h2; exact ⟨d, rfl, Nat.le_of_ble_eq_true h2⟩
  · intro e he hb
    have := Array.all_eq_true_iff_forall_mem.1 h3 e he
    rw [hb] at this
    exact Nat.le_of_ble_eq_true (by simpa using this)
  · intro j p hp
    have hj : j < ops.size := (Array.getElem?_eq_some_iff.1 hp).1
    have h5 := List.all_eq_true.1 h4 j (List.mem_range.2 hj)
    simp only [hp, Bool.and_eq_true] at h5
    refine ⟨fun hne he => ?_, fun t ht hl => ?_⟩
    · have : Nat.beq i j = false := by
        cases hb : Nat.beq i j with
        | false => rfl
        | true => exact absurd (Nat.eq_of_beq_eq_true hb) hne
      simp [this, he] at h5
    · have h6 := h5.2
      rw [ht] at h6
      simp only [memb_iff.2 hl, Bool.not_true, Bool.false_or] at h6
      rw [← Array.any_toList] at h6
      obtain ⟨e, he, hh⟩ := List.any_eq_true.1 h6
      simp only [Bool.and_eq_true] at hh
      exact ⟨e, by simpa using he, hh.1, Nat.eq_of_beq_eq_true hh.2⟩

/-- what the lexical walk lays down -/
theorem HW.phs {base : Env} {w0 : World} {K : Env → Prop} : ∀ (rest : List Oper) (done : Env), HW P n ds ops base w0 done rest K →
    ∃ E : Nat → Env, E 0 = done ∧ K (E rest.length) ∧ ∀ (i : Nat) (o : Oper), rest[i]? = some o → ∃ ph d, o.dst = some d ∧ phUp ph ∧ HOp P n ds ops w0 (keepSlots (o.looksAt ops) (E i) ++ base) o ph ∧ E (i + 1) = (d, ph) :: E i
  | [], done, h => ⟨fun _ => done, rfl, h, fun i o hi => by simp at hi⟩
  | o :: rest, done, ⟨ph, d, hd, hu, ho, hr⟩ => by
    obtain ⟨E, h0, hK, hi⟩ := HW.phs rest _ hr
    refine ⟨fun i => match i with | 0 => done | i + 1 => E i, rfl, hK, fun i p hp => ?_⟩
    cases i with
    | zero =>
      simp at hp
      subst hp
      exact ⟨ph, d, hd, hu, ho, h0⟩
    | succ i => exact hi i p (by simpa using hp)

theorem wpIn_opY {o : Oper} {a : Act} {Post : Value → World → Prop} {K : Act → World → Prop} {w : World} (h : OpY P o a w Post) (hk : ∀ v w', Post v w' → K (a.put o.dst v) w') : o.wpIn (FR R) m P a w K Q := by
  rcases h with ⟨v, w', hr, hp⟩ | ⟨f, args, w1, hr, hc⟩
  · exact wpIn_value hr (hk v w' hp)
  · exact wpIn_enter hr hc hk

theorem any_order {w0 : World} {base : Env} (hok : regOK n ops = true) (E : Nat → Env) (hE0 : E 0 = [])
    (hE : ∀ (i : Nat) (o : Oper), ops[i]? = some o → ∃ ph d, o.dst = some d ∧ phUp ph ∧ HOp P n ds ops w0 (keepSlots (o.looksAt ops) (E i) ++ base) o ph ∧ E (i + 1) = (d, ph) :: E i)
    (hbase : ∀ i ph, lk base i = some ph → phUp ph ∧ ∀ (j : Nat) (o : Oper), ops[j]? = some o → o.dst ≠ some i)
    (hQ : ∀ a w, Up w0 w → Ag n ds (E ops.size ++ base) a w → Q .normal a w) :
    ∀ (fuel : Nat) (listed : Array Bool) (a : Act) (w : World), listed.size = ops.size → listed.toList.countP (· == false) ≤ fuel → Up w0 w → Ag n ds base a w →
      (∀ (j : Nat) (o : Oper) (d : Nat) (ph : Ph), ops[j]? = some o → o.dst = some d → E (j + 1) = (d, ph) :: E j → listed.getD j false = true → ph.holds (a.tmps.getD d undef) w) →
      wpAnyIn (FR R) m P .any ops Q fuel listed a w := by
  -- a slot of a part of E comes of an operation ahead
  have hEl : ∀ k i ph, k ≤ ops.size → lk (E k) i = some ph → ∃ j o, j < k ∧ ops[j]? = some o ∧ o.dst = some i ∧ E (j + 1) = (i, ph) :: E j := by
    intro k
    induction k with
    | zero => intro i ph _ h; rw [hE0] at h; cases h
    | succ k ih =>
      intro i ph hk h
      have hko : ops[k]? = some ops[k] := by simp [show k < ops.size by omega]
      obtain ⟨q, d, hd, _, _, he⟩ := hE k _ hko
      rw [he] at h
      by_cases e : i = d
      · subst e
        rw [lk_cons_eq] at h
        cases h
        exact ⟨k, _, by omega, hko, hd, he⟩
      · rw [lk_cons_ne e] at h
        obtain ⟨j, o, h1, h2⟩ := ih i ph (by omega) h
        exact ⟨j, o, by omega, h2⟩
  have hall : ∀ (listed : Array Bool), listed.size = ops.size → Region.ready .any ops listed = [] → ∀ i, i < ops.size → listed.getD i false = true := by
    intro listed hs hr i
    induction i using Nat.strongRecOn with
    | _ i ih =>
      intro hi
      cases hb : listed.getD i false with
      | true => rfl
      | false =>
        exfalso
        have hmem : i ∈ Region.ready .any ops listed := by
          unfold Region.ready
          rw [List.mem_filter]
          refine ⟨List.mem_range.2 hi, ?_⟩
          have hio : ops[i]? = some ops[i] := by simp [hi]
          have hlt : i < listed.size := by omega
          have hb' : listed.getD i true = false := by
            rw [Array.getD_eq_getD_getElem?] at hb ⊢
            simp only [hlt, Array.getElem?_eq_getElem, Option.getD_some] at hb ⊢
            exact hb
          simp only [hb', Bool.not_false, hio, Option.map_some, Option.getD_some, Bool.true_and]
          refine Array.all_eq_true_iff_forall_mem.2 fun e he => ?_
          cases hbe : Region.binds .any e with
          | false => rfl
          | true =>
            have := (regOK_at hok hio).2.1 e he hbe
            simp [ih e.on this (by omega)]
        rw [hr] at hmem
        cases hmem
  have hdone : ∀ (listed : Array Bool) (a : Act) (w : World), listed.size = ops.size → Region.ready .any ops listed = [] → Up w0 w → Ag n ds base a w →
      (∀ (j : Nat) (o : Oper) (d : Nat) (ph : Ph), ops[j]? = some o → o.dst = some d → E (j + 1) = (d, ph) :: E j → listed.getD j false = true → ph.holds (a.tmps.getD d undef) w) → Q .normal a w := by
    intro listed a w hs hr hu ha hI
    refine hQ a w hu ⟨ha.defers, ha.size, fun i ph hi => ?_⟩
    rcases lk_append hi with h | h
    · obtain ⟨j, o, hj, ho, hd, he⟩ := hEl _ _ _ (Nat.le_refl _) h
      exact hI j o i ph ho hd he (hall listed hs hr j hj)
    · exact ha.val i ph h
  intro fuel
  induction fuel with
  | zero =>
    intro listed a w hs hc hu ha hI
    have hnone : ∀ i, i < ops.size → listed.getD i false = true := by
      intro i hi
      have h0 : listed.toList.countP (· == false) = 0 := by omega
      rw [List.countP_eq_zero] at h0
      have hlt : i < listed.size := by omega
      have := h0 listed[i] (by simp)
      rw [Array.getD_eq_getD_getElem?]
      simp only [hlt, Array.getElem?_eq_getElem, Option.getD_some]
      simpa using this
    have hr : Region.ready .any ops listed = [] := by
      unfold Region.ready
      rw [List.filter_eq_nil_iff]
      intro i hi
      have hi' := List.mem_range.1 hi
      have h1 := hnone i hi'
      have hlt : i < listed.size := by omega
      have : listed.getD i true = true := by
        rw [Array.getD_eq_getD_getElem?] at h1 ⊢
        simp only [hlt, Array.getElem?_eq_getElem, Option.getD_some] at h1 ⊢
        exact h1
      simp [this]
    exact ⟨hr, hdone listed a w hs hr hu ha hI⟩
  | succ fuel ih =>
    intro listed a w hs hc hu ha hI
    refine ⟨fun hr => hdone listed a w hs hr hu ha hI, fun i hi => ?_⟩
    unfold Region.ready at hi
    rw [List.mem_filter] at hi
    obtain ⟨hir, hi2⟩ := hi
    have hi' : i < ops.size := List.mem_range.1 hir
    have hio : ops[i]? = some ops[i] := by simp [hi']
    generalize ops[i] = o at hio
    simp only [Bool.and_eq_true, hio, Option.map_some, Option.getD_some] at hi2
    obtain ⟨hb, hed⟩ := hi2
    have hlt : i < listed.size := by omega
    have hbi : listed[i] = false := by
      rw [Array.getD_eq_getD_getElem?] at hb
      simp only [hlt, Array.getElem?_eq_getElem, Option.getD_some] at hb
      simpa using hb
    obtain ⟨hd0, hon, hpair⟩ := regOK_at hok hio
    obtain ⟨ph, d, hd, hup, hop, hEi⟩ := hE i o hio
    have hdn : d < n := by obtain ⟨d', h1, h2⟩ := hd0; rw [hd] at h1; cases h1; exact h2
    -- what the operation looks at is known
    have hag : Ag n ds (keepSlots (o.looksAt ops) (E i) ++ base) a w := by
      refine ⟨ha.defers, ha.size, fun t q ht => ?_⟩
      rcases lk_append ht with h | h
      · obtain ⟨h1, h2⟩ := keepSlots_lk h
        obtain ⟨j, p, hj, hp, hpd, hEj⟩ := hEl _ _ _ (by omega) h2
        obtain ⟨e, he, hbe, hon'⟩ := (hpair j p hp).2 t hpd h1
        have := Array.all_eq_true_iff_forall_mem.1 hed e he
        rw [hbe, hon'] at this
        exact hI j p t q hp hpd hEj (by simpa using this)
      · exact ha.val t q h
    have step : ∀ v w', Up w w' → ph.holds v w' → wpAnyIn (FR R) m P .any ops Q fuel (listed.setIfInBounds i true) (a.put o.dst v) w' := by
      intro v w' hu' hv
      have hcnt : (listed.setIfInBounds i true).toList.countP (· == false) ≤ fuel := by
        rw [Array.toList_setIfInBounds, List.countP_set (by simpa using hlt)]
        have hpos : 0 < listed.toList.countP (· == false) := List.countP_pos_iff.2 ⟨listed[i], by simp, by simp [hbi]⟩
        have e1 : (listed.toList[i]'(by simpa using hlt) == false) = true := by simp [hbi]
        rw [if_pos e1, if_neg (by simp)]
        omega
      refine ih _ _ _ (by simpa using hs) hcnt (hu.trans hu') ?_ ?_
      · refine ⟨by rw [hd]; exact ha.defers, by rw [hd]; simp [Act.put, ha.size], fun t q ht => ?_⟩
        have hne : t ≠ d := fun e => (hbase t q ht).2 i o hio (by rw [hd, e])
        rw [hd, getD_put_ne hne]
        exact (hbase t q ht).1 _ _ _ (ha.val t q ht) hu'
      · intro j p d' q hp hpd hEj hl
        by_cases e : j = i
        · subst e
          rw [hio] at hp
          cases hp
          rw [hd] at hpd
          cases hpd
          rw [hEi] at hEj
          cases hEj
          rw [hd, getD_put_same (by rw [ha.size]; exact hdn)]
          exact hv
        · have hne : d' ≠ d := fun ee => (hpair j p hp).1 (fun ee => e ee.symm) (by rw [hd, hpd, ee])
          rw [hd, getD_put_ne hne]
          obtain ⟨q', d'', hd'', hup', _, hEj'⟩ := hE j p hp
          rw [hEj] at hEj'
          cases hEj'
          have hl' : listed.getD j false = true := by
            rw [Array.getD_eq_getD_getElem?, Array.getElem?_setIfInBounds_ne (fun ee => e ee.symm)] at hl
            rw [Array.getD_eq_getD_getElem?]; exact hl
          exact hup' _ _ _ (hI j p d' q hp hpd hEj hl') hu'
    have h2 := hop a w hu hag
    unfold wpOpIn
    rw [hio]
    dsimp only
    by_cases hw : Region.wanted o (yielded ops a.tmps) = true
    · rw [if_pos hw] at h2 ⊢
      exact wpIn_opY h2 fun v w' ⟨h3, h4⟩ => step v w' h3 h4
    · rw [if_neg hw] at h2 ⊢
      exact ⟨fun _ _ => trivial, step _ _ (Up.refl w) h2⟩

theorem dsts_mem {l : List Oper} {o : Oper} {d : Nat} (h : o ∈ l) (hd : o.dst = some d) : d ∈ dsts l := by
  induction l with
  | nil => cases h
  | cons p l ih =>
    unfold dsts
    rcases List.mem_cons.1 h with e | e
    · subst e; rw [hd]; exact List.mem_cons_self
    · cases p.dst with
      | none => exact ih e
      | some x => exact List.mem_cons_of_mem _ (ih e)

/-- A REGION THAT DRAWS ITS ORDER -/
theorem CW.draws {id : Nat} {opsL : List Oper} (hm : P.follows .mixedOrders = true) (hok : regOK n opsL.toArray = true) (hl : noPred l = true) {base : Env} (hb : dropSlots (dsts opsL) l = base)
    (h : HW P n ds opsL.toArray base w [] opsL (fun env => ∀ w', Up w w' → KW n ds (Q .normal) (env ++ base) w')) : CW R m P n ds (.region id opsL.toArray true) Q l w := by
  intro a ha
  obtain ⟨E, hE0, hK, hE⟩ := HW.phs _ _ h
  subst hb
  refine wpIn_region_any hm (any_order (w0 := w) (base := dropSlots (dsts opsL) l) hok E hE0 (fun i o ho => hE i o (by simpa using ho)) ?_ ?_ _ _ _ _ (by simp) ?_ (Up.drew w) ?_ ?_)
  · intro i ph hi
    obtain ⟨h1, h2⟩ := dropSlots_lk hi
    refine ⟨fun v w1 w2 hv _ => noPred_lk hl h2 hv, fun j o ho hd => h1 (dsts_mem (by have := List.mem_of_getElem? (l := opsL) (i := j) (by simpa using ho); exact this) hd)⟩
  · intro a' w' hu ha'
    exact hK w' hu a' (by simpa using ha')
  · have : (Array.replicate opsL.toArray.size false).toList.countP (· == false) ≤ (Array.replicate opsL.toArray.size false).toList.length := List.countP_le_length
    simpa using this
  · exact ⟨ha.defers, ha.size, fun i ph hi => noPred_lk hl (dropSlots_lk hi).2 (ha.val _ _ (dropSlots_lk hi).2)⟩
  · intro j o d ph ho hd _ hlj
    rw [Array.getD_eq_getD_getElem?, Array.getElem?_replicate] at hlj
    split at hlj <;> simp at hlj

/-! ### the steps of the lexical walk -/
section
variable {base done : Env} {w0 : World} {o : Oper} {rest : List Oper} {K : Env → Prop} {d : Nat}
theorem HW.nil (h : K done) : HW P n ds ops base w0 done [] K := h
theorem HW.p {v : Value} (h : PEv P n ds (keepSlots (o.looksAt ops) done ++ base) w0 o v) (hg : o.guard = none) (hd : o.dst = some d) (k : HW P n ds ops base w0 ((d, .eq v) :: done) rest K) : HW P n ds ops base w0 done (o :: rest) K :=
  ⟨.eq v, d, hd, phUp.eq v, fun a w hu ha => by
    rw [if_pos (by simp [Region.wanted, hg])]
    exact .inl ⟨v, w, h a w ha hu, Up.refl w, rfl⟩, k⟩
theorem HW.g {v : Value} {j dj : Nat} {oj : Oper} {want b : Bool} (hg : o.guard = some (j, want)) (hj : ops[j]? = some oj) (hdj : oj.dst = some dj) (hdn : Nat.ble (dj + 1) n = true) (hb : lk (keepSlots (o.looksAt ops) done ++ base) dj = some (.eq (.bool b)))
    (hd : o.dst = some d) (h : (b == want) = true → PEv P n ds (keepSlots (o.looksAt ops) done ++ base) w0 o v) (k : HW P n ds ops base w0 ((d, .cond (b == want) v) :: done) rest K) : HW P n ds ops base w0 done (o :: rest) K :=
  ⟨.cond (b == want) v, d, hd, phUp.cond _ v, fun a w hu ha => by
    have hw := wanted_of (o := o) (ops := ops) (a := a) hg hj hdj (by rw [ha.size]; exact Nat.le_of_ble_eq_true hdn) (ha.val _ _ hb)
    rw [hw]
    cases hc : (b == want) with
    | true => exact .inl ⟨v, w, h hc a w ha hu, Up.refl w, rfl⟩
    | false => exact rfl, k⟩
theorem HW.gg {v : Value} {j dj : Nat} {oj : Oper} {want b B : Bool} (hg : o.guard = some (j, want)) (hj : ops[j]? = some oj) (hdj : oj.dst = some dj) (hdn : Nat.ble (dj + 1) n = true) (hb : lk (keepSlots (o.looksAt ops) done ++ base) dj = some (.cond B (.bool b)))
    (hd : o.dst = some d) (h : (B && (b == want)) = true → PEv P n ds (keepSlots (o.looksAt ops) done ++ base) w0 o v) (k : HW P n ds ops base w0 ((d, .cond (B && (b == want)) v) :: done) rest K) : HW P n ds ops base w0 done (o :: rest) K :=
  ⟨.cond (B && (b == want)) v, d, hd, phUp.cond _ v, fun a w hu ha => by
    have hv := ha.val _ _ hb
    cases hB : B with
    | false =>
      subst hB
      have hw := wanted_undef (o := o) (ops := ops) (a := a) hg hj hdj hv (fun b e => by cases e)
      rw [if_neg (by rw [hw]; exact Bool.false_ne_true)]
      exact rfl
    | true =>
      subst hB
      have hw := wanted_of (o := o) (ops := ops) (a := a) hg hj hdj (by rw [ha.size]; exact Nat.le_of_ble_eq_true hdn) hv
      rw [hw]
      cases hc : (b == want) with
      | true => exact .inl ⟨v, w, h (by rw [hc]; rfl) a w ha hu, Up.refl w, rfl⟩
      | false => exact rfl, k⟩
/-- a call that hands back v, whatever the world -/
theorem HW.c {v : Value} {f : FuncId} {args : Array Value} (he : ∀ a w, Up w0 w → Ag n ds (keepSlots (o.looksAt ops) done ++ base) a w → (execOp a.eval o).run P w = .ok (.enter f args) w) (hg : o.guard = none) (hd : o.dst = some d)
    (hc : ∀ w, Up w0 w → Ret P f args w fun u w' => u = v ∧ Up w w') (k : HW P n ds ops base w0 ((d, .eq v) :: done) rest K) : HW P n ds ops base w0 done (o :: rest) K :=
  ⟨.eq v, d, hd, phUp.eq v, fun a w hu ha => by
    rw [if_pos (by simp [Region.wanted, hg])]
    exact .inr ⟨f, args, w, he a w hu ha, (hc w hu).mono fun u w' ⟨h1, h2⟩ => ⟨h2, h1⟩⟩, k⟩
theorem HW.gc {v : Value} {f : FuncId} {args : Array Value} {j dj : Nat} {oj : Oper} {want b : Bool} (hg : o.guard = some (j, want)) (hj : ops[j]? = some oj) (hdj : oj.dst = some dj) (hdn : Nat.ble (dj + 1) n = true) (hb : lk (keepSlots (o.looksAt ops) done ++ base) dj = some (.eq (.bool b)))
    (hd : o.dst = some d) (he : (b == want) = true → ∀ a w, Up w0 w → Ag n ds (keepSlots (o.looksAt ops) done ++ base) a w → (execOp a.eval o).run P w = .ok (.enter f args) w)
    (hc : (b == want) = true → ∀ w, Up w0 w → Ret P f args w fun u w' => u = v ∧ Up w w') (k : HW P n ds ops base w0 ((d, .cond (b == want) v) :: done) rest K) : HW P n ds ops base w0 done (o :: rest) K :=
  ⟨.cond (b == want) v, d, hd, phUp.cond _ v, fun a w hu ha => by
    have hw := wanted_of (o := o) (ops := ops) (a := a) hg hj hdj (by rw [ha.size]; exact Nat.le_of_ble_eq_true hdn) (ha.val _ _ hb)
    rw [hw]
    cases hcc : (b == want) with
    | true => exact .inr ⟨f, args, w, he hcc a w hu ha, (hc hcc w hu).mono fun u w' ⟨h1, h2⟩ => ⟨h2, h1⟩⟩
    | false => exact rfl, k⟩
theorem HW.yp {j dj : Nat} {oj : Oper} {want : Bool} {v : Value} (hg : o.guard = some (j, want)) (hj : ops[j]? = some oj) (hdj : oj.dst = some dj) (hdn : Nat.ble (dj + 1) n = true) (hb : lk (keepSlots (o.looksAt ops) done ++ base) dj = some (.eq (.bool want)))
    (h : PEv P n ds (keepSlots (o.looksAt ops) done ++ base) w0 o v) (hd : o.dst = some d) (k : HW P n ds ops base w0 ((d, .eq v) :: done) rest K) : HW P n ds ops base w0 done (o :: rest) K :=
  ⟨.eq v, d, hd, phUp.eq v, fun a w hu ha => by
    have hw := wanted_of (o := o) (ops := ops) (a := a) hg hj hdj (by rw [ha.size]; exact Nat.le_of_ble_eq_true hdn) (ha.val _ _ hb)
    have e : (want == want) = true := by cases want <;> rfl
    rw [hw, e, if_pos rfl]
    exact .inl ⟨v, w, h a w ha hu, Up.refl w, rfl⟩, k⟩
theorem HW.yc {j dj : Nat} {oj : Oper} {want : Bool} {v : Value} {f : FuncId} {args : Array Value} (hg : o.guard = some (j, want)) (hj : ops[j]? = some oj) (hdj : oj.dst = some dj) (hdn : Nat.ble (dj + 1) n = true) (hb : lk (keepSlots (o.looksAt ops) done ++ base) dj = some (.eq (.bool want)))
    (he : ∀ a w, Up w0 w → Ag n ds (keepSlots (o.looksAt ops) done ++ base) a w → (execOp a.eval o).run P w = .ok (.enter f args) w) (hd : o.dst = some d)
    (hc : ∀ w, Up w0 w → Ret P f args w fun u w' => u = v ∧ Up w w') (k : HW P n ds ops base w0 ((d, .eq v) :: done) rest K) : HW P n ds ops base w0 done (o :: rest) K :=
  ⟨.eq v, d, hd, phUp.eq v, fun a w hu ha => by
    have hw := wanted_of (o := o) (ops := ops) (a := a) hg hj hdj (by rw [ha.size]; exact Nat.le_of_ble_eq_true hdn) (ha.val _ _ hb)
    have e : (want == want) = true := by cases want <;> rfl
    rw [hw, e, if_pos rfl]
    exact .inr ⟨f, args, w, he a w hu ha, (hc w hu).mono fun u w' ⟨h1, h2⟩ => ⟨h2, h1⟩⟩, k⟩
theorem HW.no {j dj : Nat} {oj : Oper} {want b : Bool} (hg : o.guard = some (j, want)) (hj : ops[j]? = some oj) (hdj : oj.dst = some dj) (hdn : Nat.ble (dj + 1) n = true) (hb : lk (keepSlots (o.looksAt ops) done ++ base) dj = some (.eq (.bool b))) (hne : (b == want) = false) (hd : o.dst = some d)
    (k : HW P n ds ops base w0 ((d, .eq undef) :: done) rest K) : HW P n ds ops base w0 done (o :: rest) K :=
  ⟨.eq undef, d, hd, phUp.eq _, fun a w hu ha => by
    have hw := wanted_of (o := o) (ops := ops) (a := a) hg hj hdj (by rw [ha.size]; exact Nat.le_of_ble_eq_true hdn) (ha.val _ _ hb)
    rw [hw, hne, if_neg Bool.false_ne_true]
    exact rfl, k⟩
theorem HW.nog {j dj : Nat} {oj : Oper} {want b B : Bool} (hg : o.guard = some (j, want)) (hj : ops[j]? = some oj) (hdj : oj.dst = some dj) (hdn : Nat.ble (dj + 1) n = true) (hb : lk (keepSlots (o.looksAt ops) done ++ base) dj = some (.cond B (.bool b))) (hne : (b == want) = false) (hd : o.dst = some d)
    (k : HW P n ds ops base w0 ((d, .eq undef) :: done) rest K) : HW P n ds ops base w0 done (o :: rest) K :=
  ⟨.eq undef, d, hd, phUp.eq _, fun a w hu ha => by
    have hv := ha.val _ _ hb
    cases hB : B with
    | false =>
      subst hB
      have hw := wanted_undef (o := o) (ops := ops) (a := a) hg hj hdj hv (fun b e => by cases e)
      rw [if_neg (by rw [hw]; exact Bool.false_ne_true)]
      exact rfl
    | true =>
      subst hB
      have hw := wanted_of (o := o) (ops := ops) (a := a) hg hj hdj (by rw [ha.size]; exact Nat.le_of_ble_eq_true hdn) hv
      rw [hw, hne, if_neg Bool.false_ne_true]
      exact rfl, k⟩
theorem HW.no' {j dj : Nat} {oj : Oper} {want : Bool} (hg : o.guard = some (j, want)) (hj : ops[j]? = some oj) (hdj : oj.dst = some dj) (hb : lk (keepSlots (o.looksAt ops) done ++ base) dj = some (.eq undef)) (hd : o.dst = some d)
    (k : HW P n ds ops base w0 ((d, .eq undef) :: done) rest K) : HW P n ds ops base w0 done (o :: rest) K :=
  ⟨.eq undef, d, hd, phUp.eq _, fun a w hu ha => by
    have hw := wanted_undef (o := o) (ops := ops) (a := a) hg hj hdj (ha.val _ _ hb) (fun b e => by cases e)
    rw [if_neg (by rw [hw]; exact Bool.false_ne_true)]
    exact rfl, k⟩
/-- whatever it comes to, said by a word of one's own that new blocks keep -/
theorem HW.q {p : Value → World → Prop} (hp : ∀ v w w', p v w → Up w w' → p v w') (hd : o.dst = some d) (h : HOp P n ds ops w0 (keepSlots (o.looksAt ops) done ++ base) o (.pred p)) (k : HW P n ds ops base w0 ((d, .pred p) :: done) rest K) : HW P n ds ops base w0 done (o :: rest) K :=
  ⟨.pred p, d, hd, hp, h, k⟩
/-- the same behind a guard that is met: a value -/
theorem HW.yqr {p : Value → World → Prop} {j dj : Nat} {oj : Oper} {want : Bool} (hp : ∀ v w w', p v w → Up w w' → p v w') (hg : o.guard = some (j, want)) (hj : ops[j]? = some oj) (hdj : oj.dst = some dj) (hdn : Nat.ble (dj + 1) n = true) (hb : lk (keepSlots (o.looksAt ops) done ++ base) dj = some (.eq (.bool want)))
    (h : ∀ w, Up w0 w → REv P n ds (keepSlots (o.looksAt ops) done ++ base) w o fun v w' => Up w w' ∧ p v w') (hd : o.dst = some d) (k : HW P n ds ops base w0 ((d, .pred p) :: done) rest K) : HW P n ds ops base w0 done (o :: rest) K :=
  ⟨.pred p, d, hd, hp, fun a w hu ha => by
    have hw := wanted_of (o := o) (ops := ops) (a := a) hg hj hdj (by rw [ha.size]; exact Nat.le_of_ble_eq_true hdn) (ha.val _ _ hb)
    have e : (want == want) = true := by cases want <;> rfl
    rw [hw, e, if_pos rfl]
    obtain ⟨v, w', h1, h2, h3⟩ := h w hu a ha
    exact .inl ⟨v, w', h1, h2, h3⟩, k⟩
/-- the same behind a guard that is met: a call -/
theorem HW.yqc {ph : Ph} {j dj : Nat} {oj : Oper} {want : Bool} (hp : phUp ph) (hg : o.guard = some (j, want)) (hj : ops[j]? = some oj) (hdj : oj.dst = some dj) (hdn : Nat.ble (dj + 1) n = true) (hb : lk (keepSlots (o.looksAt ops) done ++ base) dj = some (.eq (.bool want)))
    (h : ∀ a w, Up w0 w → Ag n ds (keepSlots (o.looksAt ops) done ++ base) a w → ∃ f args, (execOp a.eval o).run P w = .ok (.enter f args) w ∧ Ret P f args w fun v w' => Up w w' ∧ ph.holds v w') (hd : o.dst = some d) (k : HW P n ds ops base w0 ((d, ph) :: done) rest K) : HW P n ds ops base w0 done (o :: rest) K :=
  ⟨ph, d, hd, hp, fun a w hu ha => by
    have hw := wanted_of (o := o) (ops := ops) (a := a) hg hj hdj (by rw [ha.size]; exact Nat.le_of_ble_eq_true hdn) (ha.val _ _ hb)
    have e : (want == want) = true := by cases want <;> rfl
    rw [hw, e, if_pos rfl]
    obtain ⟨f, args, h1, h2⟩ := h a w hu ha
    exact .inr ⟨f, args, w, h1, h2⟩, k⟩
end
end
end Go.Wx
