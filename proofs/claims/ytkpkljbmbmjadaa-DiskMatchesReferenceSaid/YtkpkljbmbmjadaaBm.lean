/-
  A region that draws its order, one of whose operations (k) turns the world and stands behind all ahead of it and ahead of all behind it; those behind it come in any order. Nothing of any program stands here.
-/
import Derived.Test.YtkpkljbmbmjadaaWh
namespace Go.Wx
open Go.RowKit
section
variable {R : Option Nat} {m : Nat} {P : Program} {n : Nat} {ds : List Deferred} {Q : Exit → Go.Act → World → Prop} {l : Env} {w : World} {ops : Array Oper}
/-- whatever stands behind k asks for k or for one between -/
def behindOK (ops : Array Oper) (k : Nat) : Bool :=
  (List.range ops.size).all fun i => !Nat.ble (k + 1) i || (match ops[i]? with | none => false | some o => o.after.any fun e => Region.binds .any e && Nat.ble k e.on)
theorem behindOK_at {k : Nat} (h : behindOK ops k = true) {i : Nat} {o : Oper} (ho : ops[i]? = some o) (hk : k < i) : ∃ e ∈ o.after, Region.binds .any e = true ∧ k ≤ e.on := by
  have hi : i < ops.size := (Array.getElem?_eq_some_iff.1 ho).1
  have h1 := List.all_eq_true.1 h i (List.mem_range.2 hi)
  have hb : Nat.ble (k + 1) i = true := Nat.ble_eq_true_of_le hk
  simp only [ho, hb, Bool.not_true, Bool.false_or] at h1
  obtain ⟨e, he, hh⟩ := Array.any_eq_true.1 h1
  simp only [Bool.and_eq_true] at hh
  exact ⟨_, Array.getElem_mem he, hh.1, Nat.le_of_ble_eq_true hh.2⟩
/-- any order of what stands from s on, the rest being listed -/
theorem any_orderS {w0 : World} {base : Env} (s : Nat) (hss : s ≤ ops.size) (hok : regOK n ops = true) (E : Nat → Env) (hE0 : E s = [])
    (hE : ∀ (i : Nat) (o : Oper), s ≤ i → ops[i]? = some o → ∃ ph d, o.dst = some d ∧ phUp ph ∧ HOp P n ds ops w0 (keepSlots (o.looksAt ops) (E i) ++ base) o ph ∧ E (i + 1) = (d, ph) :: E i)
    (hbase : ∀ i ph, lk base i = some ph → phUp ph ∧ ∀ (j : Nat) (o : Oper), s ≤ j → ops[j]? = some o → o.dst ≠ some i)
    (hQ : ∀ a w, Up w0 w → Ag n ds (E ops.size ++ base) a w → Q .normal a w) :
    ∀ (fuel : Nat) (listed : Array Bool) (a : Act) (w : World), listed.size = ops.size → listed.toList.countP (· == false) ≤ fuel → (∀ j, j < s → listed.getD j false = true) → Up w0 w → Ag n ds base a w →
      (∀ (j : Nat) (o : Oper) (d : Nat) (ph : Ph), s ≤ j → ops[j]? = some o → o.dst = some d → E (j + 1) = (d, ph) :: E j → listed.getD j false = true → ph.holds (a.tmps.getD d undef) w) →
      wpAnyIn (FR R) m P .any ops Q fuel listed a w := by
  -- a slot of a part of E comes of an operation ahead
  have hEl : ∀ k i ph, s ≤ k → k ≤ ops.size → lk (E k) i = some ph → ∃ j o, s ≤ j ∧ j < k ∧ ops[j]? = some o ∧ o.dst = some i ∧ E (j + 1) = (i, ph) :: E j := by
    intro k
    induction k with
    | zero => intro i ph hs0 _ h; rw [show 0 = s by omega, hE0] at h; cases h
    | succ k ih =>
      intro i ph hsk hk h
      by_cases es : s = k + 1
      · rw [← es, hE0] at h; cases h
      have hko : ops[k]? = some ops[k] := by simp [show k < ops.size by omega]
      obtain ⟨q, d, hd, _, _, he⟩ := hE k _ (by omega) hko
      rw [he] at h
      by_cases e : i = d
      · subst e
        rw [lk_cons_eq] at h
        cases h
        exact ⟨k, _, by omega, by omega, hko, hd, he⟩
      · rw [lk_cons_ne e] at h
        obtain ⟨j, o, h0, h1, h2⟩ := ih i ph (by omega) (by omega) h
        exact ⟨j, o, h0, by omega, h2⟩
  have hall : ∀ (listed : Array Bool), listed.size = ops.size → Region.ready .any ops listed = [] → ∀ i, i < ops.size → listed.getD i false = true := by
    intro listed hs hr i
    induction i using Nat.strongRecOn with
    | _ i ih =>
      intro hi
      cases hb : listed.getD i false with
      | true => rfl
      | false =>
        exfalso
        have hmem : i ∈ Region.ready .any ops listed := by
          unfold Region.ready
          rw [List.mem_filter]
          refine ⟨List.mem_range.2 hi, ?_⟩
          have hio : ops[i]? = some ops[i] := by simp [hi]
          have hlt : i < listed.size := by omega
          have hb' : listed.getD i true = false := by
            rw [Array.getD_eq_getD_getElem?] at hb ⊢
            simp only [hlt, Array.getElem?_eq_getElem, Option.getD_some] at hb ⊢
            exact hb
          simp only [hb', Bool.not_false, hio, Option.map_some, Option.getD_some, Bool.true_and]
          refine Array.all_eq_true_iff_forall_mem.2 fun e he => ?_
          cases hbe : Region.binds .any e with
          | false => rfl
          | true =>
            have := (regOK_at hok hio).2.1 e he hbe
            simp [ih e.on this (by omega)]
        rw [hr] at hmem
        cases hmem
  have hdone : ∀ (listed : Array Bool) (a : Act) (w : World), listed.size = ops.size → Region.ready .any ops listed = [] → Up w0 w → Ag n ds base a w →
      (∀ (j : Nat) (o : Oper) (d : Nat) (ph : Ph), s ≤ j → ops[j]? = some o → o.dst = some d → E (j + 1) = (d, ph) :: E j → listed.getD j false = true → ph.holds (a.tmps.getD d undef) w) → Q .normal a w := by
    intro listed a w hs hr hu ha hI
    refine hQ a w hu ⟨ha.defers, ha.size, fun i ph hi => ?_⟩
    rcases lk_append hi with h | h
    · obtain ⟨j, o, hsj, hj, ho, hd, he⟩ := hEl _ _ _ hss (Nat.le_refl _) h
      exact hI j o i ph hsj ho hd he (hall listed hs hr j hj)
    · exact ha.val i ph h
  intro fuel
  induction fuel with
  | zero =>
    intro listed a w hs hc hlo hu ha hI
    have hnone : ∀ i, i < ops.size → listed.getD i false = true := by
      intro i hi
      have h0 : listed.toList.countP (· == false) = 0 := by omega
      rw [List.countP_eq_zero] at h0
      have hlt : i < listed.size := by omega
      have := h0 listed[i] (by simp)
      rw [Array.getD_eq_getD_getElem?]
      simp only [hlt, Array.getElem?_eq_getElem, Option.getD_some]
      simpa using this
    have hr : Region.ready .any ops listed = [] := by
      unfold Region.ready
      rw [List.filter_eq_nil_iff]
      intro i hi
      have hi' := List.mem_range.1 hi
      have h1 := hnone i hi'
      have hlt : i < listed.size := by omega
      have : listed.getD i true = true := by
        rw [Array.getD_eq_getD_getElem?] at h1 ⊢
        simp only [hlt, Array.getElem?_eq_getElem, Option.getD_some] at h1 ⊢
        exact h1
      simp [this]
    exact ⟨hr, hdone listed a w hs hr hu ha hI⟩
  | succ fuel ih =>
    intro listed a w hs hc hlo hu ha hI
    refine ⟨fun hr => hdone listed a w hs hr hu ha hI, fun i hi => ?_⟩
    unfold Region.ready at hi
    rw [List.mem_filter] at hi
    obtain ⟨hir, hi2⟩ := hi
    have hi' : i < ops.size := List.mem_range.1 hir
    have hio : ops[i]? = some ops[i] := by simp [hi']
    generalize ops[i] = o at hio
    simp only [Bool.and_eq_true, hio, Option.map_some, Option.getD_some] at hi2
    obtain ⟨hb, hed⟩ := hi2
    have hlt : i < listed.size := by omega
    have hbi : listed[i] = false := by
      rw [Array.getD_eq_getD_getElem?] at hb
      simp only [hlt, Array.getElem?_eq_getElem, Option.getD_some] at hb
      simpa using hb
    have hsi : s ≤ i := by
      rcases Nat.lt_or_ge i s with h | h
      · have h1 := hlo i h
        rw [Array.getD_eq_getD_getElem?] at h1
        simp only [hlt, Array.getElem?_eq_getElem, Option.getD_some] at h1
        rw [hbi] at h1; cases h1
      · exact h
    obtain ⟨hd0, hon, hpair⟩ := regOK_at hok hio
    obtain ⟨ph, d, hd, hup, hop, hEi⟩ := hE i o hsi hio
    have hdn : d < n := by obtain ⟨d', h1, h2⟩ := hd0; rw [hd] at h1; cases h1; exact h2
    -- what the operation looks at is known
    have hag : Ag n ds (keepSlots (o.looksAt ops) (E i) ++ base) a w := by
      refine ⟨ha.defers, ha.size, fun t q ht => ?_⟩
      rcases lk_append ht with h | h
      · obtain ⟨h1, h2⟩ := keepSlots_lk h
        obtain ⟨j, p, hsj, hj, hp, hpd, hEj⟩ := hEl _ _ _ hsi (by omega) h2
        obtain ⟨e, he, hbe, hon'⟩ := (hpair j p hp).2 t hpd h1
        have := Array.all_eq_true_iff_forall_mem.1 hed e he
        rw [hbe, hon'] at this
        exact hI j p t q hsj hp hpd hEj (by simpa using this)
      · exact ha.val t q h
    have step : ∀ v w', Up w w' → ph.holds v w' → wpAnyIn (FR R) m P .any ops Q fuel (listed.setIfInBounds i true) (a.put o.dst v) w' := by
      intro v w' hu' hv
      have hcnt : (listed.setIfInBounds i true).toList.countP (· == false) ≤ fuel := by
        rw [Array.toList_setIfInBounds, List.countP_set (by simpa using hlt)]
        have hpos : 0 < listed.toList.countP (· == false) := List.countP_pos_iff.2 ⟨listed[i], by simp, by simp [hbi]⟩
        have e1 : (listed.toList[i]'(by simpa using hlt) == false) = true := by simp [hbi]
        rw [if_pos e1, if_neg (by simp)]
        omega
      refine ih _ _ _ (by simpa using hs) hcnt (fun j hj => by rw [getD_set hlt, if_neg (by omega)]; exact hlo j hj) (hu.trans hu') ?_ ?_
      · refine ⟨by rw [hd]; exact ha.defers, by rw [hd]; simp [Act.put, ha.size], fun t q ht => ?_⟩
        have hne : t ≠ d := fun e => (hbase t q ht).2 i o hsi hio (by rw [hd, e])
        rw [hd, getD_put_ne hne]
        exact (hbase t q ht).1 _ _ _ (ha.val t q ht) hu'
      · intro j p d' q hsj hp hpd hEj hl
        by_cases e : j = i
        · subst e
          rw [hio] at hp
          cases hp
          rw [hd] at hpd
          cases hpd
          rw [hEi] at hEj
          cases hEj
          rw [hd, getD_put_same (by rw [ha.size]; exact hdn)]
          exact hv
        · have hne : d' ≠ d := fun ee => (hpair j p hp).1 (fun ee => e ee.symm) (by rw [hd, hpd, ee])
          rw [hd, getD_put_ne hne]
          obtain ⟨q', d'', hd'', hup', _, hEj'⟩ := hE j p hsj hp
          rw [hEj] at hEj'
          cases hEj'
          have hl' : listed.getD j false = true := by
            rw [Array.getD_eq_getD_getElem?, Array.getElem?_setIfInBounds_ne (fun ee => e ee.symm)] at hl
            rw [Array.getD_eq_getD_getElem?]; exact hl
          exact hup' _ _ _ (hI j p d' q hsj hp hpd hEj hl') hu'
    have h2 := hop a w hu hag
    unfold wpOpIn
    rw [hio]
    dsimp only
    by_cases hw : Region.wanted o (yielded ops a.tmps) = true
    · rw [if_pos hw] at h2 ⊢
      exact wpIn_opY h2 fun v w' ⟨h3, h4⟩ => step v w' h3 h4
    · rw [if_neg hw] at h2 ⊢
      exact ⟨fun _ _ => trivial, step _ _ (Up.refl w) h2⟩

theorem mid_order {k : Nat} {w0 : World} {base : Env} {dh : Nat} {oh : Oper} {PostH : Value → World → Prop} (hok : regOK n ops = true) (hC : closOK ops k = true) (hB : behindOK ops k = true) (hkk : k < ops.size) (E : Nat → Env) (hE0 : E 0 = [])
    (hE : ∀ (i : Nat) (o : Oper), i < k → ops[i]? = some o → ∃ ph d, o.dst = some d ∧ phUp ph ∧ HOp P n ds ops w0 (keepSlots (o.looksAt ops) (E i) ++ base) o ph ∧ E (i + 1) = (d, ph) :: E i)
    (hbp : noPred base = true) (hbase : ∀ i ph, lk base i = some ph → ∀ (j : Nat) (o : Oper), ops[j]? = some o → o.dst ≠ some i)
    (hoh : ops[k]? = some oh) (hdh : oh.dst = some dh) (hgh : oh.guard = none)
    (hH : ∀ a w, Up w0 w → Ag n ds (keepSlots (oh.looksAt ops) (E k) ++ base) a w → OpY P oh a w PostH)
    (hQ : ∀ v w1, PostH v w1 → ∃ E2 : Nat → Env, E2 (k + 1) = [] ∧ (∀ (i : Nat) (o : Oper), k + 1 ≤ i → ops[i]? = some o → ∃ ph d, o.dst = some d ∧ phUp ph ∧ HOp P n ds ops w1 (keepSlots (o.looksAt ops) (E2 i) ++ ((dh, .eq v) :: (dropPreds (E k) ++ base))) o ph ∧ E2 (i + 1) = (d, ph) :: E2 i) ∧
      ∀ a w, Up w1 w → Ag n ds (E2 ops.size ++ ((dh, .eq v) :: (dropPreds (E k) ++ base))) a w → Q .normal a w) :
    ∀ (fuel : Nat) (listed : Array Bool) (a : Go.Act) (w : World), listed.size = ops.size → listed.toList.countP (· == false) ≤ fuel → (∀ j, k ≤ j → j < ops.size → listed.getD j false = false) → Dn ops listed → Up w0 w → Ag n ds base a w →
      (∀ (j : Nat) (o : Oper) (d : Nat) (ph : Ph), j < k → ops[j]? = some o → o.dst = some d → E (j + 1) = (d, ph) :: E j → listed.getD j false = true → ph.holds (a.tmps.getD d undef) w) →
      wpAnyIn (FR R) m P .any ops Q fuel listed a w := by
  have hA : aheadOK ops = true := by
    refine List.all_eq_true.2 fun i hi => ?_
    have hi' := List.mem_range.1 hi
    have hio : ops[i]? = some ops[i] := by simp [hi']
    rw [hio]
    dsimp only
    refine Array.all_eq_true_iff_forall_mem.2 fun e he => ?_
    cases hb : Region.binds .any e with
    | false => rfl
    | true => simpa using Nat.ble_eq_true_of_le ((regOK_at hok hio).2.1 e he hb)
  have hE' : ∀ (i : Nat) (o : Oper), i < k → ops[i]? = some o → ∃ ph d, o.dst = some d ∧ E (i + 1) = (d, ph) :: E i := fun i o hi ho => let ⟨ph, d, h1, _, _, h2⟩ := hE i o hi ho; ⟨ph, d, h1, h2⟩
  have hDP := dropPreds_E hE0 hE' (by omega)
  have hEl : ∀ c i ph, c ≤ k → lk (E c) i = some ph → ∃ j o, j < c ∧ ops[j]? = some o ∧ o.dst = some i ∧ E (j + 1) = (i, ph) :: E j := by
    intro c
    induction c with
    | zero => intro i ph _ h; rw [hE0] at h; cases h
    | succ c ih =>
      intro i ph hk h
      have hko : ops[c]? = some ops[c] := by simp [show c < ops.size by omega]
      obtain ⟨q, d, hd, _, _, he⟩ := hE c _ (by omega) hko
      rw [he] at h
      by_cases e : i = d
      · subst e
        rw [lk_cons_eq] at h
        cases h
        exact ⟨c, _, by omega, hko, hd, he⟩
      · rw [lk_cons_ne e] at h
        obtain ⟨j, o, h1, h2⟩ := ih i ph (by omega) h
        exact ⟨j, o, by omega, h2⟩
  intro fuel
  induction fuel with
  | zero =>
    intro listed a w hs hc hno hD hu ha hI
    exfalso
    have h0 : listed.toList.countP (· == false) = 0 := by omega
    rw [List.countP_eq_zero] at h0
    have hlt : k < listed.size := by omega
    have := h0 listed[k] (by simp)
    have h1 := hno k (Nat.le_refl _) hkk
    rw [Array.getD_eq_getD_getElem?] at h1
    simp only [hlt, Array.getElem?_eq_getElem, Option.getD_some] at h1
    rw [h1] at this
    simp at this
  | succ fuel ih =>
    intro listed a w hs hc hno hD hu ha hI
    refine ⟨fun hr => ?_, fun i hi => ?_⟩
    · exfalso
      obtain ⟨i, hi⟩ := ready_some hA (k := k + 1) (by omega) hs k (by omega) (hno k (Nat.le_refl _) hkk)
      rw [hr] at hi
      cases hi
    obtain ⟨o, hio, hbi, hed⟩ := (ready_iff hs).1 hi
    have hi' : i < ops.size := (Array.getElem?_eq_some_iff.1 hio).1
    have hlt : i < listed.size := by omega
    have hik : i ≤ k := by
      rcases Nat.lt_or_ge k i with h | h
      · exfalso
        obtain ⟨e', he, hb, hon⟩ := behindOK_at hB hio h
        have h1 := hed e' he hb
        have h2 := aheadOK_at hA hio e' he hb
        rw [hno e'.on hon (by omega)] at h1
        cases h1
      · exact h
    obtain ⟨hd0, _, hpair⟩ := regOK_at hok hio
    by_cases hkI : i = k
    · subst hkI
      rw [hoh] at hio
      cases hio
      have hdn : dh < n := by obtain ⟨d', h1, h2⟩ := hd0; rw [hdh] at h1; cases h1; exact h2
      have hag : Ag n ds (keepSlots (oh.looksAt ops) (E i) ++ base) a w := by
        refine ⟨ha.defers, ha.size, fun t q ht => ?_⟩
        rcases lk_append ht with h | h
        · obtain ⟨h1, h2⟩ := keepSlots_lk h
          obtain ⟨j, p, hj, hp, hpd, hEj⟩ := hEl _ _ _ (Nat.le_refl _) h2
          obtain ⟨e, he, hbe, hon'⟩ := (hpair j p hp).2 t hpd h1
          have := hed e he hbe
          exact hI j p t q hj hp hpd hEj (by rw [← hon']; exact this)
        · exact ha.val t q h
      unfold wpOpIn
      rw [hoh]
      dsimp only
      have hw : Region.wanted oh (yielded ops a.tmps) = true := by simp [Region.wanted, hgh]
      rw [if_pos hw]
      refine wpIn_opY (hH a w hu hag) fun v w' hv => ?_
      obtain ⟨E2, h20, h2E, h2Q⟩ := hQ v w' hv
      have hne : ∀ t, (∃ j p, j ≠ i ∧ ops[j]? = some p ∧ p.dst = some t) → t ≠ dh := fun t ⟨j, p, hj, hp, hpd⟩ e => (hpair j p hp).1 (Ne.symm hj) (by rw [hdh, hpd, e])
      refine any_orderS (w0 := w') (i + 1) (by omega) hok E2 h20 h2E (fun t ph ht => ?_) h2Q fuel _ _ _ (by simpa using hs) (fuel_set hlt hbi hc) (fun j hj => ?_) (Up.refl _) ⟨by rw [hdh]; exact ha.defers, by rw [hdh]; simp [Go.Act.put, ha.size], fun t q ht => ?_⟩ (fun j o d ph hsj hj _ _ hl => ?_)
      · by_cases e : t = dh
        · subst e
          rw [lk_cons_eq] at ht
          cases ht
          exact ⟨fun _ _ _ h _ => h, fun j p hj hp hd => (hpair j p hp).1 (by omega) (by rw [hdh, hd])⟩
        · rw [lk_cons_ne e] at ht
          rcases lk_append ht with h | h
          · obtain ⟨j, p, hj, hp, hpd, _, hpl⟩ := hDP _ _ _ (Nat.le_refl _) h
            exact ⟨fun _ _ _ h _ => hpl.holds h, fun j2 p2 hj2 hp2 hd2 => ((regOK_at hok hp).2.2 j2 p2 hp2).1 (by omega) (by rw [hpd, hd2])⟩
          · exact ⟨fun _ _ _ hv _ => noPred_lk hbp h hv, fun j2 p2 _ hp2 => hbase t ph h j2 p2 hp2⟩
      · rw [getD_set hlt]
        split
        · rfl
        · exact clos_all hC hD hoh hed (i - j) j rfl (by omega)
      · by_cases e : t = dh
        · subst e
          rw [lk_cons_eq] at ht
          cases ht
          show (((a.put oh.dst v).tmps.getD t undef) = v)
          rw [hdh, getD_put_same (by rw [ha.size]; exact hdn)]
        · rw [lk_cons_ne e] at ht
          rw [hdh, getD_put_ne e]
          rcases lk_append ht with h | h
          · obtain ⟨j, p, hj, hp, hpd, hEj, hpl⟩ := hDP _ _ _ (Nat.le_refl _) h
            exact hpl.holds (hI j p t q hj hp hpd hEj (clos_all hC hD hoh hed (i - j) j rfl (by omega)))
          · exact noPred_lk hbp h (ha.val t q h)
      · rw [getD_set hlt, if_neg (by omega), hno j (by omega) (Array.getElem?_eq_some_iff.1 hj).1] at hl
        cases hl
    have hik : i < k := by omega
    obtain ⟨ph, d, hd, hup, hop, hEi⟩ := hE i o hik hio
    have hdn : d < n := by obtain ⟨d', h1, h2⟩ := hd0; rw [hd] at h1; cases h1; exact h2
    have hag : Ag n ds (keepSlots (o.looksAt ops) (E i) ++ base) a w := by
      refine ⟨ha.defers, ha.size, fun t q ht => ?_⟩
      rcases lk_append ht with h | h
      · obtain ⟨h1, h2⟩ := keepSlots_lk h
        obtain ⟨j, p, hj, hp, hpd, hEj⟩ := hEl _ _ _ (by omega) h2
        obtain ⟨e, he, hbe, hon'⟩ := (hpair j p hp).2 t hpd h1
        have := hed e he hbe
        exact hI j p t q (by omega) hp hpd hEj (by rw [← hon']; exact this)
      · exact ha.val t q h
    have step : ∀ v w', Up w w' → ph.holds v w' → wpAnyIn (FR R) m P .any ops Q fuel (listed.setIfInBounds i true) (a.put o.dst v) w' := by
      intro v w' hu' hv
      refine ih _ _ _ (by simpa using hs) (fuel_set hlt hbi hc) ?_ (dn_set hlt hio hed hD) (hu.trans hu') ?_ ?_
      · intro j hj hjs
        rw [getD_set hlt, if_neg (by omega)]
        exact hno j hj hjs
      · refine ⟨by rw [hd]; exact ha.defers, by rw [hd]; simp [Go.Act.put, ha.size], fun t q ht => ?_⟩
        have hne : t ≠ d := fun e => hbase t q ht i o hio (by rw [hd, e])
        rw [hd, getD_put_ne hne]
        exact noPred_lk hbp ht (ha.val t q ht)
      · intro j p d' q hjk hp hpd hEj hl
        by_cases e : j = i
        · subst e
          rw [hio] at hp
          cases hp
          rw [hd] at hpd
          cases hpd
          rw [hEi] at hEj
          cases hEj
          rw [hd, getD_put_same (by rw [ha.size]; exact hdn)]
          exact hv
        · have hne : d' ≠ d := fun ee => (hpair j p hp).1 (fun ee => e ee.symm) (by rw [hd, hpd, ee])
          rw [hd, getD_put_ne hne]
          obtain ⟨q', d'', hd'', hup', _, hEj'⟩ := hE j p hjk hp
          rw [hEj] at hEj'
          cases hEj'
          rw [getD_set hlt, if_neg e] at hl
          exact hup' _ _ _ (hI j p d' q hjk hp hpd hEj hl) hu'
    have h2 := hop a w hu hag
    unfold wpOpIn
    rw [hio]
    dsimp only
    by_cases hw : Region.wanted o (yielded ops a.tmps) = true
    · rw [if_pos hw] at h2 ⊢
      exact wpIn_opY h2 fun v w' ⟨h3, h4⟩ => step v w' h3 h4
    · rw [if_neg hw] at h2 ⊢
      exact ⟨fun _ _ => trivial, step _ _ (Up.refl w) h2⟩
/-- A REGION THAT DRAWS ITS ORDER, WHOSE OPERATION k TURNS THE WORLD; the ones ahead of it and the ones behind it come in any order -/
theorem CW.draws_mid {id : Nat} {opsL : List Oper} (k : Nat) {oh : Oper} {dh : Nat} (PostH : Value → World → Prop) (hm : P.follows .mixedOrders = true) (hok : regOK n opsL.toArray = true) (hC : closOK opsL.toArray k = true) (hB : behindOK opsL.toArray k = true)
    (hl : noPred l = true) {base : Env} (hb : dropSlots (dsts opsL) l = base) (hoh : opsL[k]? = some oh) (hdh : oh.dst = some dh) (hgh : oh.guard = none)
    (h : HW P n ds opsL.toArray base w [] (opsL.take k) (fun env => (∀ a w', Up w w' → Ag n ds (keepSlots (oh.looksAt opsL.toArray) env ++ base) a w' → OpY P oh a w' PostH) ∧
      ∀ v w1, PostH v w1 → HW P n ds opsL.toArray ((dh, .eq v) :: (dropPreds env ++ base)) w1 [] (opsL.drop (k + 1)) (fun env2 => ∀ w', Up w1 w' → KW n ds (Q .normal) (env2 ++ ((dh, .eq v) :: (dropPreds env ++ base))) w'))) : CW R m P n ds (.region id opsL.toArray true) Q l w := by
  intro a ha
  obtain ⟨E, hE0, hK, hE⟩ := HW.phs _ _ h
  subst hb
  have hkl : k < opsL.length := (List.getElem?_eq_some_iff.1 hoh).1
  have hlen : (opsL.take k).length = k := by rw [List.length_take]; omega
  rw [hlen] at hK
  have hbp : noPred (dropSlots (dsts opsL) l) = true := by
    have : ∀ (ks : List Nat) (l : Env), noPred l = true → noPred (dropSlots ks l) = true := by
      intro ks l
      induction l with
      | nil => intro _; rfl
      | cons p l ih =>
        obtain ⟨i, ph⟩ := p
        cases ph with
        | pred q => intro h; simp [noPred] at h
        | eq v => intro h; unfold dropSlots; cases memb ks i <;> simp [noPred] at h ⊢ <;> exact ih h
        | cond b v => intro h; unfold dropSlots; cases memb ks i <;> simp [noPred] at h ⊢ <;> exact ih h
    exact this _ _ hl
  refine wpIn_region_any hm (mid_order (w0 := w) (base := dropSlots (dsts opsL) l) (oh := oh) (PostH := PostH) hok hC hB (by rw [List.size_toArray]; omega) E hE0 (fun i o hik ho => hE i o (by rw [List.getElem?_take_of_lt hik]; simpa using ho)) hbp ?_ (by simpa using hoh) hdh hgh hK.1 ?_ _ _ _ _ (by simp) ?_ ?_ ?_ (Up.drew w) ?_ ?_)
  · intro i ph hi j o ho hd
    obtain ⟨h1, h2⟩ := dropSlots_lk hi
    exact h1 (dsts_mem (by have := List.mem_of_getElem? (l := opsL) (i := j) (by simpa using ho); exact this) hd)
  · intro v w1 hv
    obtain ⟨E2, h0, h1, h2⟩ := HW.phs _ _ (hK.2 v w1 hv)
    refine ⟨fun i => E2 (i - (k + 1)), by simpa using h0, fun i o hki ho => ?_, fun a' w' hu' ha' => ?_⟩
    · obtain ⟨ph, d, h3, h4, h5, h6⟩ := h2 (i - (k + 1)) o (by rw [List.getElem?_drop, Nat.add_sub_cancel' hki]; simpa using ho)
      exact ⟨ph, d, h3, h4, h5, by show E2 (i + 1 - (k + 1)) = (d, ph) :: E2 (i - (k + 1)); rw [← h6, show i + 1 - (k + 1) = i - (k + 1) + 1 by omega]⟩
    · refine h1 w' hu' a' ?_
      rw [List.length_drop]
      simpa using ha'
  · have : (Array.replicate opsL.toArray.size false).toList.countP (· == false) ≤ (Array.replicate opsL.toArray.size false).toList.length := List.countP_le_length
    simpa using this
  · intro j _ _
    rw [Array.getD_eq_getD_getElem?, Array.getElem?_replicate]
    split <;> rfl
  · intro i o _ hli
    rw [Array.getD_eq_getD_getElem?, Array.getElem?_replicate] at hli
    split at hli <;> simp at hli
  · exact ⟨ha.defers, ha.size, fun i ph hi => noPred_lk hl (dropSlots_lk hi).2 (ha.val _ _ (dropSlots_lk hi).2)⟩
  · intro j o d ph _ ho hd _ hlj
    rw [Array.getD_eq_getD_getElem?, Array.getElem?_replicate] at hlj
    split at hlj <;> simp at hlj
end
end Go.Wx
